/- Joined texts, part 1 of 19. Operations carried out, the rounds of a range Xda a function among them. Over any program; no condition. -/
import Derived.IntWalk
import Derived.Deep.Quiet
import Derived.Laws.Concat
import Derived.Lib.UnsafeStr
import Derived.Laws.BytesString
import Derived.OrdersHeld
import Derived.OrdersIn
import Derived.RangeFuncCalls
import Derived.TacticsIn
set_option linter.unusedSimpArgs false
set_option linter.unusedVariables false
set_option linter.unusedSectionVars false
set_option linter.defProp false
namespace Go
def FP:=@Nat.lt_or_ge
def Tq:=@Array.getElem?_eq_none
def Fz:=@Nat.add_mul
def QO:=@List.take_length_add_append
def QQ:=@List.drop_length_add_append
def Db:=@List.drop_eq_getElem_cons
def Kg:=@Nat.add_assoc
def BF:=@Bool.false_eq_true
def As:=@Bool.and_eq_true
def CN:=@Nat.eq_of_beq_eq_true
def BV:=@Nat.le_refl
def FA:=@Nat.le_trans
def Cg:=@List.map_cons
def EK:=@List.getElem?_eq_some_iff
def Kh:=@List.take_append_drop
def Ki:=@List.map_take
def Bu:=@Option.some.injEq
def DV:=@List.length_append
def Fg:=@List.map_set
def QR:=@List.ext_getElem?
def Kj:=@List.getElem?_set
def Kk:=@List.append_assoc
def Ts:=@List.set_eq_take_append_cons_drop
def DA:=@List.mem_cons
def Ci:=@if_false
def Oz:=@Nat.lt_of_lt_of_le
def LH:=@List.length_eq_one_iff
def HY:=@List.cons.injEq
def GK:=@and_true
def JE:=@Option.isSome_iff_exists
def CK:=@congrArg
def C9:=@List.mem_map
def Fe:=@List.mem_of_mem_take
def E9:=@List.length_take
def Gi:=@Nat.min_eq_left
def Na:=@Nat.pos_of_ne_zero
def CS:=@List.getElem_mem
def Cz:=@if_true
def JH:=@List.getElem?_append
def QS:=@List.getElem?_append_right
def O1:=@List.getElem?_append_left
def Cn:=@List.getElem?_eq_getElem
def DM:=@Nat.zero_le
def QT:=@List.drop_take
def Tt:=@List.eq_nil_of_length_eq_zero
def Ca:=@List.take_succ_eq_append_getElem
def JI:=@List.take_of_length_le
def Gj:=@List.drop_of_length_le
def HB:=@List.map_nil
def CT:=@beq_iff_eq
def Af:=@if_neg
def Bs:=@decide_eq_true_eq
def El:=@Bool.not_eq_true'
def D9:=@Option.map_eq_some_iff
def QU:=@List.range'_succ
def DQ:=@List.all_eq_true
def DF:=@List.mem_append
def QV:=@Nat.le_of_mul_le_mul_right
def QW:=@List.mem_or_eq_of_mem_set
def Tu:=@Array.getElem?_setIfInBounds
def BL:=@if_pos
def Tv:=@Array.mem_of_getElem?
def Fh:=@Prod.mk.injEq
def FQ:=@Option.some.inj
def Nb:=@Array.getElem?_modify
def FR:=@List.getD_eq_getElem?_getD
def GL:=@List.append_nil
def JF:=@List.mem_iff_getElem
def JG:=@Nat.zero_add
def Ii:=@List.mem_range
def LI:=@Array.getElem?_append
def O0:=@Nat.mul_le_mul_right
def Ij:=@List.map_append
def FC:=@Bool.or_eq_false_iff
def MV:=@decide_eq_false_iff_not
def MW:=@Bool.or_eq_true
def QX:=@Array.getElem?_eq_getElem
def LJ:=@Option.isNone_iff_eq_none
def HZ:=@beq_eq_false_iff_ne
def QY:=@List.all_append
def DW:=@List.mem_singleton
def O2:=@List.getElem?_eq_none
def Dl:=@Bool.eq_iff_iff
def Nc:=@Bool.eq_false_iff
def ZR:=@Bool.and_eq_false_iff
def Em:=@List.nodup_append
def DX:=@decide_eq_false
def C0:=@List.take_length
def En:=@decide_eq_true
def Nd:=@List.length_eq_zero_iff
def EA:=@Bool.true_and
def H7:=@Option.bind_eq_some_iff
def Cl:=@Bool.cond_eq_ite
def Gk:=@of_decide_eq_true
def ZS:=@List.isEmpty_eq_false_iff
def Kl:=@List.mem_cons_of_mem
def QZ:=@List.takeWhile_cons
end Go
theorem Go.Ab.w_i (n:Int)(h:-9223372036854775808<=n/\n<=9223372036854775807):Go.IntKind.i64.wrap n=n:=Go.IntWalk.i64_in n h
theorem Go.Ab.w_s (k:Nat)(h:k<9223372036854775807):Go.IntKind.i64.wrap ((k:Int)+1)=(k:Int)+1:=Go.IntWalk.i64_in _ (by omega)
theorem Go.Ab.w_t {k n:Nat}(h:k<n)(g:n<=9223372036854775807):Go.IntKind.i64.wrap ((k:Int)+1)=(k:Int)+1:=Go.IntWalk.i64_in _ (by omega)
namespace Go.Ab
open Go
inductive D where
|int (k:IntKind) (n:Int)
|bool (b:Bool)
|AM (s:List UInt8)
|AT
|AF (sz:Nat) (xs:List D)
|agg (xs:List D)
|Bo
|B1
|Bl
|B0
|Bd (x:D)
|iface (t:Nat) (x:D)
|fn (f:Nat) (fi ca:List D)
deriving Inhabited
def D.isAgg:D->Bool
|.agg _=>true
|_=>false
mutual
def D.sz:D->Nat
|.agg a=>Cf a
|_=>1
def Cf:List D->Nat
|[]=>0
|x::r=>x.sz+Cf r
end
def CZ(w:World)(c:Nat->Prop)(a:Addr)(b:List Value):Prop:=
 (b≠[]->a.spot=none/\¬c a.block/\a.block<w.heap.size)/\∀i (h:i<b.length),w.cell? ⟨a.block,a.off+i,none⟩=some b[i]
mutual
def D.An(w:World)(d:Nat->Prop):D->List Value->Prop
|.int k n,c=>c=[.int k n]
|.bool b,c=>c=[.bool b]
|.AM s,c=>c=[.string ⟨s.toArray⟩]
|.AT,c=>c=[.slice none 0 0]
|.AF sz e,c=>(e=[]/\c=[.slice none 0 0])\/∃a g h,c=[.slice (some a) e.length g]/\e.length<=g/\CZ w d a h/\Bb w d e h/\∀x∈e,x.sz=sz
|.agg e,c=>Bb w d e c
|.Bo,c=>c=[.nilIface]
|.B1,c=>c=[.pointer none]
|.Bl,c=>c=[.nilFunc]
|.B0,c=>c=[.map none]
|.Bd x,c=>∃a h,c=[.pointer (some a)]/\a.spot=none/\CZ w d a h/\D.An w d x h
|.iface t x,c=>∃u,c=[.iface t u]/\((x.isAgg=true/\∃i,u=.agg i.toArray/\D.An w d x i)\/(x.isAgg=false/\D.An w d x [u]))
|.fn f o m,c=>∃j l,c=[.func (.func f) j.toArray l.toArray]/\E6 w d o j/\E6 w d m l
def E6(w:World)(a:Nat->Prop):List D->List Value->Prop
|[],b=>b=[]
|x::r,b=>∃u d,b=u::d/\((x.isAgg=true/\∃c,u=.agg c.toArray/\D.An w a x c)\/(x.isAgg=false/\D.An w a x [u]))/\E6 w a r d
def Bb(w:World)(d:Nat->Prop):List D->List Value->Prop
|[],a=>a=[]
|x::r,a=>∃b c,a=b++c/\D.An w d x b/\Bb w d r c
end
def F0(w:World)(c:Nat->Prop)(d:World)(a:Nat->Prop):Prop:=
 ∀b,¬c b->b<w.heap.size->d.heap[b]? = w.heap[b]?/\¬a b
def cell?_congr{w w':World}{b:Nat}(h:w'.heap[b]? = w.heap[b]?)(o:Nat):w'.cell? ⟨b,o,none⟩=w.cell? ⟨b,o,none⟩:=by
 simp[World.cell?,h]
def Xi{w:World}{b:Nat}{o:Obj}(h:w.heap[b]? = some o):b<w.heap.size:=by
 rcases FP b w.heap.size with a|a
 ·exact a
 ·simp[Tq a]at h
def F0.refl(w:World)(a:Nat->Prop):F0 w a w a:=λ_ h _=>⟨rfl,h⟩
def F0.trans{w f d:World}{i c a:Nat->Prop}(h:F0 w i f c)(k:F0 f c d a):F0 w i d a:=by
 intro b l g;obtain⟨e,n⟩:=h b l g;have m:b<f.heap.size:=by
  have:w.heap[b]? = some w.heap[b]:=by simp[g]
  exact Xi (e.trans this)
 obtain⟨j,o⟩:=k b n m;exact⟨j.trans e,o⟩
def CZ.mono{w k:World}{j c:Nat->Prop}{a:Addr}{d:List Value}(m:F0 w j k c)(h:CZ w j a d):CZ k c a d:=by
 obtain⟨f,o⟩:=h;refine⟨λb=>?_,λi g=>?_⟩
 ·obtain⟨l,p,q⟩:=f b;obtain⟨e,n⟩:=m _ p q;refine⟨l,n,?_⟩;have:w.heap[a.block]? = some w.heap[a.block]:=by simp[q]
  exact Xi (e.trans this)
 ·have b:d≠[]:=by intro h;simp[h]at g
  obtain⟨_,p,q⟩:=f b;rw[cell?_congr (m _ p q).1];exact o i g
mutual
def HV{w G:World}{F ow':Nat->Prop}(m:F0 w F G ow'):∀(d:D)(c:List Value),d.An w F c->d.An G ow' c
|.int k n,c,h=>by simpa[D.An]using h
|.bool b,c,h=>by simpa[D.An]using h
|.AM s,c,h=>by simpa[D.An]using h
|.AT,c,h=>by simpa[D.An]using h
|.Bo,c,h=>by simpa[D.An]using h
|.B1,c,h=>by simpa[D.An]using h
|.Bl,c,h=>by simpa[D.An]using h
|.B0,c,h=>by simpa[D.An]using h
|.Bd x,c,h=>by
 simp only[D.An]at h⊢;obtain⟨a,j,e,K,g,i⟩:=h;exact⟨a,j,e,K,g.mono m,HV m x j i⟩
|.iface t x,c,h=>by
 simp only[D.An]at h⊢;obtain⟨u,e,g⟩:=h;refine⟨u,e,?_⟩;rcases g with⟨p,v,q,r⟩|⟨p,r⟩
 ·exact .inl ⟨p,v,q,HV m x v r⟩
 ·exact .inr ⟨p,HV m x _ r⟩
|.fn f J H,c,h=>by
 simp only[D.An]at h⊢;obtain⟨y,z,e,g,i⟩:=h;exact⟨y,z,e,Tf m J y g,Tf m H z i⟩
|.agg o,c,h=>by
 simp only[D.An]at h⊢;exact Fy m o c h
|.AF O o,c,h=>by
 simp only[D.An]at h⊢;rcases h with h|⟨a,l,j,g,i,L,M,N⟩
 ·exact .inl h
 ·exact .inr ⟨a,l,j,g,i,L.mono m,Fy m o j M,N⟩
def Tf{w f:World}{ow a:Nat->Prop}(m:F0 w ow f a):∀(g:List D)(b:List Value),E6 w ow g b->E6 f a g b
|[],b,h=>by simpa only[E6]using h
|x::r,b,h=>by
 simp only[E6]at h⊢;obtain⟨u,d,e,i,j⟩:=h;refine⟨u,d,e,?_,Tf m r d j⟩;rcases i with⟨p,c,q,r⟩|⟨p,r⟩
 ·exact .inl ⟨p,c,q,HV m x c r⟩
 ·exact .inr ⟨p,HV m x _ r⟩
def Fy{w g:World}{f a:Nat->Prop}(m:F0 w f g a):∀(i:List D)(b:List Value),Bb w f i b->Bb g a i b
|[],b,h=>by simpa[Bb]using h
|x::r,b,h=>by
 simp only[Bb]at h⊢;obtain⟨c,d,e,j,k⟩:=h;exact⟨c,d,e,HV m x c j,Fy m r d k⟩
end
mutual
def G5{w:World}{l:Nat->Prop}:∀(d:D)(c:List Value),d.An w l c->c.length=d.sz
|.int k n,c,h=>by simp[D.An]at h;simp[h,D.sz]
|.bool b,c,h=>by simp[D.An]at h;simp[h,D.sz]
|.AM s,c,h=>by simp[D.An]at h;simp[h,D.sz]
|.AT,c,h=>by simp[D.An]at h;simp[h,D.sz]
|.Bo,c,h=>by simp[D.An]at h;simp[h,D.sz]
|.B1,c,h=>by simp[D.An]at h;simp[h,D.sz]
|.Bl,c,h=>by simp[D.An]at h;simp[h,D.sz]
|.B0,c,h=>by simp[D.An]at h;simp[h,D.sz]
|.Bd x,c,h=>by simp only[D.An]at h;obtain⟨a,m,e,_⟩:=h;simp[e,D.sz]
|.iface t x,c,h=>by simp only[D.An]at h;obtain⟨u,e,_⟩:=h;simp[e,D.sz]
|.fn f p o,c,h=>by simp only[D.An]at h;obtain⟨q,r,e,_⟩:=h;simp[e,D.sz]
|.agg g,c,h=>by
 simp only[D.An]at h;simp only[D.sz];exact Gf g c h
|.AF v g,c,h=>by
 simp only[D.An]at h;rcases h with⟨_,h⟩|⟨a,i,m,j,_⟩
 ·simp[h,D.sz]
 ·simp[j,D.sz]
def Gf{w:World}{i:Nat->Prop}:∀(b:List D)(a:List Value),Bb w i b a->a.length=Cf b
|[],a,h=>by simp[Bb]at h;simp[h,Cf]
|x::r,a,h=>by
 simp only[Bb]at h;obtain⟨c,d,e,f,g⟩:=h;simp[e,Cf,G5 x c f,Gf r d g]
end
def On{w:World}{d:Nat->Prop}{e f:List D}{b c:List Value}(a:Bb w d e b)(i:Bb w d f c):Bb w d (e++f) (b++c):=by
 induction e generalizing b with
 |nil=>simp only[Bb]at a;subst a;simpa using i
 |cons x r l=>
  simp only[Bb]at a;obtain⟨g,h,rfl,j,k⟩:=a;simp only[List.cons_append,Bb];exact⟨g,h++c,by simp,j,l k⟩
def EO{sz:Nat}:∀(a:List D),(∀x∈a,x.sz=sz)->Cf a=a.length*sz
|[],_=>by simp[Cf]
|x::r,h=>by
 have b:=h x (by simp);have c:=EO r (λy d=>h y (by simp[d]));simp[Cf,b,c,Fz];omega
def MN{w:World}{c:Nat->Prop}:∀(b:List D)(i:Nat)(a:List Value),Bb w c b a->
 Bb w c (b.take i) (a.take (Cf (b.take i)))/\Bb w c (b.drop i) (a.drop (Cf (b.take i)))
|b,0,a,h=>by simpa[Bb,Cf]using h
|[],i+1,a,h=>by simpa[Bb,Cf]using h
|x::r,i+1,a,h=>by
 simp only[Bb]at h;obtain⟨d,g,rfl,e,j⟩:=h;have f:=G5 x d e;obtain⟨p,q⟩:=MN r i g j;simp only[List.take_succ_cons,List.drop_succ_cons,Cf];constructor
 ·rw[<-f,QO];simp only[Bb];exact⟨d,_,rfl,e,p⟩
 ·rw[<-f,QQ];exact q
def Tg{w:World}{f:Nat->Prop}{a:List D}{b:List Value}(h:Bb w f a b){i:Nat}(j:i<a.length):
 a[i].An w f ((b.drop (Cf (a.take i))).take a[i].sz):=by
 have c:=(MN a i b h).2;rw[Db j]at c;simp only[Bb]at c;obtain⟨g,l,e,d,_⟩:=c;have k:=G5 _ g d;rw[e,<-k];simpa using d
def CZ.sub{w:World}{f:Nat->Prop}{a:Addr}{d:List Value}(h:CZ w f a d)(k n:Nat):
 CZ w f ⟨a.block,a.off+k,none⟩ ((d.drop k).take n):=by
 obtain⟨g,j⟩:=h;refine⟨λc=>⟨rfl,(g ?_).2⟩,λi l=>?_⟩
 ·intro e;subst e;simp at c
 ·have b:k+i<d.length:=by simp at l;omega
  have:=j (k+i) b;simp only[List.getElem_take,List.getElem_drop];rw[<-this,Kg]
def CZ.nil{w:World}{b:Nat->Prop}(a:Addr):CZ w b a []:=⟨λh=>absurd rfl h,λi h=>by simp at h⟩
def Addr.Be{a:Addr}(h:a.spot=none)(n:Nat):a.add n=⟨a.block,a.off+n,none⟩:=by
 obtain⟨b,o,s⟩:=a;simp only at h;subst h;unfold Addr.add;split
 next h=>simp[h]
 ·rfl
mutual
def D.Bg:D->D->Bool
|.int k a,.int g b=>decide (k=g)&&decide (a=b)
|.bool a,.bool b=>a==b
|.AM a,.AM b=>a==b
|.AT,.AT=>true
|.AF z a,.AF i b=>Nat.beq z i&&D.B8 a b
|.agg a,.agg b=>D.B8 a b
|.Bo,.Bo=>true
|.B1,.B1=>true
|.Bl,.Bl=>true
|.B0,.B0=>true
|.Bd a,.Bd b=>D.Bg a b
|.iface t a,.iface h b=>Nat.beq t h&&D.Bg a b
|.fn f a b,.fn e c d=>Nat.beq f e&&D.B8 a c&&D.B8 b d
|_,_=>false
def D.B8:List D->List D->Bool
|[],[]=>true
|x::r,y::s=>D.Bg x y&&D.B8 r s
|_,_=>false
end
mutual
def D.Bf:∀(x y:D),D.Bg x y=true->x=y
|.int k a,y,h=>by cases y<;>simp[D.Bg]at h;simp[h]
|.bool a,y,h=>by cases y<;>simp[D.Bg]at h;simp[h]
|.AM a,y,h=>by cases y<;>simp[D.Bg]at h;simp[h]
|.AT,y,h=>by cases y<;>simp[D.Bg]at h;rfl
|.Bo,y,h=>by cases y<;>simp[D.Bg]at h;rfl
|.B1,y,h=>by cases y<;>simp[D.Bg]at h;rfl
|.Bl,y,h=>by cases y<;>simp[D.Bg]at h;rfl
|.B0,y,h=>by cases y<;>simp[D.Bg]at h;rfl
|.AF z a,y,h=>by
 cases y<;>simp only[D.Bg,BF,As]at h;rw[CN h.1,D.By _ _ h.2]
|.agg a,y,h=>by
 cases y<;>simp only[D.Bg,BF]at h;rw[D.By _ _ h]
|.Bd a,y,h=>by
 cases y<;>simp only[D.Bg,BF]at h;rw[D.Bf _ _ h]
|.iface t a,y,h=>by
 cases y<;>simp only[D.Bg,BF,As]at h;rw[CN h.1,D.Bf _ _ h.2]
|.fn f a b,y,h=>by
 cases y<;>simp only[D.Bg,BF,As]at h;rw[CN h.1.1,D.By _ _ h.1.2,D.By _ _ h.2]
def D.By:∀(x y:List D),D.B8 x y=true->x=y
|[],y,h=>by cases y<;>simp[D.B8]at h;rfl
|x::r,y,h=>by
 cases y<;>simp only[D.B8,BF,As]at h;rw[D.Bf _ _ h.1,D.By _ _ h.2]
end
def CZ.Od{w:World}{d:Nat->Prop}{a:Addr}{b:List Value}(h:CZ w d a b)(k n:Nat):CZ w d (a.add k) ((b.drop k).take n):=by
 by_cases c:b=[]
 ·subst c;simpa using CZ.nil _
 ·rw[Addr.Be (h.1 c).1];exact h.sub k n
inductive Sh where
|AX
|node (xs:List Sh)
mutual
def Sh.size:Sh->Nat
|.AX=>1
|.node a=>Sh.BR a
def Sh.BR:List Sh->Nat
|[]=>0
|x::r=>x.size+Sh.BR r
end
def Sh.off:Sh->List Nat->Nat
|.node a,i::p=>Sh.BR (a.take i)+Sh.off (a.getD i .AX) p
|_,_=>0
mutual
def D.shape:D->Sh
|.agg a=>.node (D.BN a)
|_=>.AX
def D.BN:List D->List Sh
|[]=>[]
|x::r=>x.shape::D.BN r
end
mutual
def CC:∀d:D,d.shape.size=d.sz
|.int _ _|.bool _|.AM _|.AT|.AF _ _|.Bo|.B1|.Bl|.B0|.Bd _|.iface _ _|.fn _ _ _=>by simp[D.shape,Sh.size,D.sz]
|.agg a=>by simp only[D.shape,Sh.size,D.sz];exact Th a
def Th:∀a:List D,Sh.BR (D.BN a)=Cf a
|[]=>by simp[D.BN,Sh.BR,Cf]
|x::r=>by simp[D.BN,Sh.BR,Cf,CC x,Th r]
end
inductive V where
|d (x:D)
|ptr (id:Nat) (path:List Nat)
|sl (id n:Nat)
|sd (id n:Nat)
|mp (id:Nat)
|ep (id n z i off:Nat) (path:List Nat)
|bs (id:Nat) (path:List Nat) (lo n:Nat)
|hd (y:Bool) (id:Nat)
|fn (f:Nat) (first captured:List V)
|agg (xs:List V)
|iface (t:Nat) (v:V)
|BE (xs:List V)
|undef
|any
deriving Inhabited
def V.isAgg:V->Bool
|.d (.agg _)=>true
|.agg _=>true
|_=>false
mutual
def V.shape:V->Sh
|.d x=>x.shape
|.agg a=>.node (V.BN a)
|_=>.AX
def V.BN:List V->List Sh
|[]=>[]
|x::r=>x.shape::V.BN r
end
def V.size(v:V):Nat:=v.shape.size
def KU:Bool->Nat->Value
|true,b=>.func (.yield b) #[] #[]
|false,b=>.pointer (some ⟨b,0,none⟩)
inductive RO where
|box (b:Nat) (sh:Sh)
|A9 (b len cap:Nat)
|map (b:Nat)
|B4
|AY
def RO.blk? : RO->Option Nat
|.box b _=>some b
|.A9 b _ _=>some b
|.map b=>some b
|.B4=>none
|.AY=>none
structure Gl where
 g:Nat->Option Obj
 l:Nat->Array Nat->Nat->Code->Code->Prop
instance:CoeFun Gl (λ_=>Nat->Option Obj):=⟨Gl.g⟩
structure A0 where
 m:Nat->Option RO
 xo:Nat->Prop
 gl:Gl
def Eg(a:A0)(b:Nat):Prop:=∃id o,a.m id=some o/\o.blk? = some b
def B2(a:A0)(b:Nat):Prop:=Eg a b\/a.xo b
def RO.slice(o:RO)(n:Nat)(u:Value):Prop:=
 match o with
 |.box _ _=>False
 |.map _=>False
 |.A9 b d e=>n<=d/\(∃a l c,u=.slice a l c)/\(n=d->u=.slice (some ⟨b,0,none⟩) d e)
 |.B4=>n=0/\u=.slice none 0 0
 |.AY=>∃a l c,u=.slice a l c
def RO.Ds(o:RO)(n:Nat)(u:Value):Prop:=
 match o with
 |.box _ _=>False
 |.map _=>False
 |.A9 b c _=>n<=c/\(∃a,u=.pointer a)/\(n=c->n≠0->u=.pointer (some ⟨b,0,none⟩))
 |.B4=>n=0/\∃a,u=.pointer a
 |.AY=>∃a,u=.pointer a
def RO.elem(o:RO)(n d:Nat)(u:Value):Prop:=
 match o with
 |.box _ _=>False
 |.map _=>False
 |.A9 b c _=>n<=c/\(∃a,u=.pointer (some a))/\(n=c->u=.pointer (some ⟨b,d,none⟩))
 |.B4=>False
 |.AY=>∃a,u=.pointer (some a)
inductive RO.le:RO->RO->Prop where
|refl (o:RO):RO.le o o
|grow {o:RO} {n b m c:Nat} (h:n<m) (h1:o=.B4/\n=0\/∃b c,o=.A9 b n c):RO.le o (.A9 b m c)
|AY (o:RO):RO.le o .AY
def RO.le.trans{a b c:RO}(h:a.le b)(e:b.le c):a.le c:=by
 cases e with
 |refl=>exact h
 |AY=>exact .AY a
 |grow k d=>
  cases h with
  |refl=>exact .grow k d
  |AY=>rcases d with⟨d,_⟩|⟨_,_,d⟩<;>cases d
  |grow g f=>
   rcases d with⟨d,_⟩|⟨_,_,d⟩
   ·cases d
   ·cases d;exact .grow (by omega) f
mutual
def V.Ac(w:World)(g:A0):V->List Value->Prop
|.d x,e=>x.An w (B2 g) e
|.ptr id p,e=>(∃b j,g.m id=some (.box b j)/\e=[.pointer (some ⟨b,j.off p,none⟩)])\/(g.m id=some .AY/\∃a,e=[.pointer (some a)])
|.sl id n,e=>∃o u,g.m id=some o/\e=[u]/\o.slice n u
|.sd id n,e=>∃o u,g.m id=some o/\e=[u]/\o.Ds n u
|.mp id,e=>(∃b,g.m id=some (.map b)/\e=[.map (some b)])\/(g.m id=some .AY/\∃r,e=[.map r])
|.hd y id,e=>(∃b,g.m id=some (.map b)/\e=[KU y b])\/(g.m id=some .AY/\∃b,e=[KU y b])
|.ep id n z i f p,e=>∃o u,g.m id=some o/\e=[u]/\o.elem n (i*z+f) u
|.bs id p J n,e=>(∃b j h f,g.m id=some (.box b j)/\(n<=h/\(n≠0->f=j.off (p++[J])))/\e=[.slice (some ⟨b,f,none⟩) n h])\/(g.m id=some .AY/\∃a l c,e=[.slice a l c])
|.fn f H G,e=>∃s v,e=[.func (.func f) s.toArray v.toArray]/\V.A1 w g H s/\V.A1 w g G v
|.agg k,e=>Br w g k e
|.iface t x,e=>∃u,e=[.iface t u]/\(x=.any\/(x.isAgg=true/\∃q,u=.agg q.toArray/\V.Ac w g x q)\/(x.isAgg=false/\V.Ac w g x [u]))
|.BE k,e=>∃F,e=[.tuple F.toArray]/\V.A1 w g k F
|.undef,e=>e=[Go.undef]
|.any,e=>∃u,e=[u]
def Br(w:World)(d:A0):List V->List Value->Prop
|[],a=>a=[]
|x::r,a=>∃b c,a=b++c/\V.Ac w d x b/\Br w d r c
def V.A1(w:World)(b:A0):List V->List Value->Prop
|[],a=>a=[]
|x::r,a=>∃u d,a=u::d/\(x=.any\/(x.isAgg=true/\∃c,u=.agg c.toArray/\V.Ac w b x c)\/(x.isAgg=false/\V.Ac w b x [u]))/\V.A1 w b r d
end
def V.An(w:World)(b:A0)(x:V)(u:Value):Prop:=
 (x=.any)\/(x.isAgg=true/\∃a,u=.agg a.toArray/\x.Ac w b a)\/(x.isAgg=false/\x.Ac w b [u])
structure Tr(w:World)(ρ:A0)(w':World)(ρ':A0):Prop where
 size:w.heap.size<=w'.heap.size
 keep:∀b,¬Eg ρ b->b<w.heap.size->w'.heap[b]? = w.heap[b]?
 Cs:∀b,Eg ρ' b->Eg ρ b\/w.heap.size<=b
 xo:ρ'.xo=ρ.xo
 gl:ρ'.gl=ρ.gl
 same:∀id o,ρ.m id=some o->∃o',ρ'.m id=some o'/\o.le o'
 tape:w'.tape=w.tape
 os:w'.os=w.os
 CO:w'.output=w.output
 drawn:w.drawn<=w'.drawn
def Tr.mono{w d:World}{e a:A0}(t:Tr w e d a):F0 w (B2 e) d (B2 a):=λb c f=>
 ⟨t.keep b (λh=>c (.inl h)) f,λh=>h.elim (λh=>(t.Cs b h).elim (λh=>c (.inl h)) (λh=>by omega)) (λh=>c (.inr (t.xo▸h)))⟩
def Tr.refl(w:World)(a:A0):Tr w a w a:=
 ⟨BV _,λ_ _ _=>rfl,λ_ h=>.inl h,rfl,rfl,λ_ o h=>⟨o,h,.refl o⟩,rfl,rfl,rfl,BV _⟩
def Tr.trans{w i d:World}{j c a:A0}(t:Tr w j i c)(u:Tr i c d a):Tr w j d a:=by
 refine⟨FA t.size u.size,λb e f=>?_,λb h=>?_,u.xo.trans t.xo,u.gl.trans t.gl,λid o h=>?_,u.tape.trans t.tape,u.os.trans t.os,u.CO.trans t.CO,FA t.drawn u.drawn⟩
 ·have m:¬Eg c b:=λh=>(t.Cs b h).elim e (λh=>by omega);exact(u.keep b m (by have:=t.size;omega)).trans (t.keep b e f)
 ·rcases u.Cs b h with h|h
  ·exact t.Cs b h
  ·have:=t.size;exact .inr (by omega)
 ·obtain⟨n,e,f⟩:=t.same id o h;obtain⟨g,k,l⟩:=u.same id n e;exact⟨g,k,f.trans l⟩
def Rap{o d:RO}{n:Nat}{u:Value}(h:o.slice n u)(t:o.le d):d.slice n u:=by
 cases t with
 |refl=>exact h
 |AY=>
  cases o with
  |box b s=>cases h
  |map b=>cases h
  |A9 b l c=>exact h.2.1
  |B4=>exact⟨_,_,_,h.2⟩
  |AY=>exact h
 |grow k a=>
  rcases a with⟨rfl,rfl⟩|⟨e,f,rfl⟩
  ·simp only[RO.slice]at h⊢;obtain⟨rfl,rfl⟩:=h;exact⟨by omega,⟨_,_,_,rfl⟩,λh=>by omega⟩
  ·simp only[RO.slice]at h⊢;exact⟨by omega,h.2.1,λa=>by omega⟩
def Raq{o d:RO}{n:Nat}{u:Value}(h:o.Ds n u)(t:o.le d):d.Ds n u:=by
 cases t with
 |refl=>exact h
 |AY=>
  cases o with
  |box b s=>cases h
  |map b=>cases h
  |A9 b l c=>exact h.2.1
  |B4=>exact h.2
  |AY=>exact h
 |grow k a=>
  rcases a with⟨rfl,rfl⟩|⟨e,f,rfl⟩
  ·exact⟨by have:=h.1;omega,h.2,λa=>by have:=h.1;omega⟩
  ·exact⟨by have:=h.1;omega,h.2.1,λa=>by have:=h.1;omega⟩
def Rar{o e:RO}{n a:Nat}{u:Value}(h:o.elem n a u)(t:o.le e):e.elem n a u:=by
 cases t with
 |refl=>exact h
 |AY=>
  cases o with
  |box b s=>cases h
  |map b=>cases h
  |A9 b l c=>exact h.2.1
  |B4=>cases h
  |AY=>exact h
 |grow k d=>
  rcases d with⟨rfl,rfl⟩|⟨f,g,rfl⟩
  ·cases h
  ·exact⟨by have:=h.1;omega,h.2.1,λd=>by have:=h.1;omega⟩
mutual
def H6{w N:World}{O v:A0}(t:Tr w O N v):∀(x:V)(m:List Value),x.Ac w O m->x.Ac N v m
|.d x,m,h=>by
 simp only[V.Ac]at h⊢;exact HV t.mono x m h
|.ptr id p,m,h=>by
 simp only[V.Ac]at h⊢;rcases h with⟨b,G,g,c⟩|⟨g,c⟩
 ·obtain⟨s,j,l⟩:=t.same id _ g;cases l with
  |refl=>exact .inl ⟨b,G,j,c⟩
  |AY=>exact .inr ⟨j,_,c⟩
  |grow k a=>rcases a with⟨a,_⟩|⟨_,_,a⟩<;>cases a
 ·obtain⟨s,j,l⟩:=t.same id _ g;cases l with
  |refl=>exact .inr ⟨j,c⟩
  |AY=>exact .inr ⟨j,c⟩
  |grow k a=>rcases a with⟨a,_⟩|⟨_,_,a⟩<;>cases a
|.sl id n,m,h=>by
 simp only[V.Ac]at h⊢;obtain⟨o,u,g,c,j⟩:=h;obtain⟨s,l,a⟩:=t.same id _ g;exact⟨s,u,l,c,Rap j a⟩
|.sd id n,m,h=>by
 simp only[V.Ac]at h⊢;obtain⟨o,u,g,c,j⟩:=h;obtain⟨s,l,a⟩:=t.same id _ g;exact⟨s,u,l,c,Raq j a⟩
|.mp id,m,h=>by
 simp only[V.Ac]at h⊢;rcases h with⟨b,g,c⟩|⟨g,c⟩
 ·obtain⟨s,j,l⟩:=t.same id _ g;cases l with
  |refl=>exact .inl ⟨b,j,c⟩
  |AY=>exact .inr ⟨j,_,c⟩
  |grow k a=>rcases a with⟨a,_⟩|⟨_,_,a⟩<;>cases a
 ·obtain⟨s,j,l⟩:=t.same id _ g;cases l with
  |refl=>exact .inr ⟨j,c⟩
  |AY=>exact .inr ⟨j,c⟩
  |grow k a=>rcases a with⟨a,_⟩|⟨_,_,a⟩<;>cases a
|.hd y id,m,h=>by
 simp only[V.Ac]at h⊢;rcases h with⟨b,g,c⟩|⟨g,c⟩
 ·obtain⟨s,j,l⟩:=t.same id _ g;cases l with
  |refl=>exact .inl ⟨b,j,c⟩
  |AY=>exact .inr ⟨j,_,c⟩
  |grow k a=>rcases a with⟨a,_⟩|⟨_,_,a⟩<;>cases a
 ·obtain⟨s,j,l⟩:=t.same id _ g;cases l with
  |refl=>exact .inr ⟨j,c⟩
  |AY=>exact .inr ⟨j,c⟩
  |grow k a=>rcases a with⟨a,_⟩|⟨_,_,a⟩<;>cases a
|.ep id n z i f p,m,h=>by
 simp only[V.Ac]at h⊢;obtain⟨o,u,g,c,j⟩:=h;obtain⟨s,l,a⟩:=t.same id _ g;exact⟨s,u,l,c,Rar j a⟩
|.bs id p R n,m,h=>by
 simp only[V.Ac]at h⊢;rcases h with⟨b,G,F,f,g,c⟩|⟨g,c⟩
 ·obtain⟨s,j,l⟩:=t.same id _ g;cases l with
  |refl=>exact .inl ⟨b,G,F,f,j,c⟩
  |AY=>exact .inr ⟨j,_,_,_,c.2⟩
  |grow k a=>rcases a with⟨a,_⟩|⟨_,_,a⟩<;>cases a
 ·obtain⟨s,j,l⟩:=t.same id _ g;cases l with
  |refl=>exact .inr ⟨j,c⟩
  |AY=>exact .inr ⟨j,c⟩
  |grow k a=>rcases a with⟨a,_⟩|⟨_,_,a⟩<;>cases a
|.fn f Q P,m,h=>by
 simp only[V.Ac]at h⊢;obtain⟨K,L,e,g,c⟩:=h;exact⟨K,L,e,LC t Q K g,LC t P L c⟩
|.agg H,m,h=>by
 simp only[V.Ac]at h⊢;exact G6 t H m h
|.iface T x,m,h=>by
 simp only[V.Ac]at h⊢;obtain⟨u,e,g⟩:=h;refine⟨u,e,?_⟩;rcases g with g|⟨p,J,q,r⟩|⟨p,r⟩
 ·exact .inl g
 ·exact .inr (.inl ⟨p,J,q,H6 t x J r⟩)
 ·exact .inr (.inr ⟨p,H6 t x _ r⟩)
|.BE H,m,h=>by
 simp only[V.Ac]at h⊢;obtain⟨M,e,g⟩:=h;exact⟨M,e,LC t H M g⟩
|.undef,m,h=>by simpa only[V.Ac]using h
|.any,m,h=>by simpa only[V.Ac]using h
def G6{w f:World}{i a:A0}(t:Tr w i f a):∀(g:List V)(b:List Value),Br w i g b->Br f a g b
|[],b,h=>by simpa only[Br]using h
|x::r,b,h=>by
 simp only[Br]at h⊢;obtain⟨c,d,e,j,k⟩:=h;exact⟨c,d,e,H6 t x c j,G6 t r d k⟩
def LC{w g:World}{j a:A0}(t:Tr w j g a):∀(i:List V)(b:List Value),V.A1 w j i b->V.A1 g a i b
|[],b,h=>by simpa only[V.A1]using h
|x::r,b,h=>by
 simp only[V.A1]at h⊢;obtain⟨u,f,e,c,k⟩:=h;refine⟨u,f,e,?_,LC t r f k⟩;rcases c with c|⟨p,d,q,r⟩|⟨p,r⟩
 ·exact .inl c
 ·exact .inr (.inl ⟨p,d,q,H6 t x d r⟩)
 ·exact .inr (.inr ⟨p,H6 t x _ r⟩)
end
def Gg{w c:World}{d a:A0}(t:Tr w d c a){x:V}{u:Value}(h:x.An w d u):x.An c a u:=by
 rcases h with h|⟨p,b,q,r⟩|⟨p,r⟩
 ·exact .inl h
 ·exact .inr (.inl ⟨p,b,q,H6 t x b r⟩)
 ·exact .inr (.inr ⟨p,H6 t x _ r⟩)
def V.BM:V->Option (List V)
|.agg a=>some a
|.d (.agg a)=>some (a.map .d)
|_=>none
def V.BZ:∀a:List V,V.BN a=a.map V.shape
|[]=>by simp[V.BN]
|x::r=>by simp[V.BN,V.BZ r]
def D.BZ:∀a:List D,D.BN a=a.map D.shape
|[]=>by simp[D.BN]
|x::r=>by simp[D.BN,D.BZ r]
def Oo{v:V}{a:List V}(h:v.BM=some a):v.shape=.node (a.map V.shape):=by
 cases v with
 |agg b=>simp[V.BM]at h;subst h;simp[V.shape,V.BZ]
 |d x=>
  cases x with
  |agg b=>simp[V.BM]at h;subst h;simp[V.shape,D.shape,D.BZ]
  |_=>simp[V.BM]at h
 |_=>simp[V.BM]at h
def JD{w:World}{c:A0}:∀(b:List D)(a:List Value),Br w c (b.map .d) a↔Bb w (B2 c) b a
|[],a=>by simp[Br,Bb]
|x::r,a=>by simp[Br,Bb,V.Ac,JD r]
def Ti{w:World}{c:A0}{v:V}{b:List V}(h:v.BM=some b)(a:List Value):v.Ac w c a↔Br w c b a:=by
 cases v with
 |agg e=>simp[V.BM]at h;subst h;simp[V.Ac]
 |d x=>
  cases x with
  |agg e=>simp[V.BM]at h;subst h;rw[JD];simp[V.Ac,D.An]
  |_=>simp[V.BM]at h
 |_=>simp[V.BM]at h
mutual
def E7{w:World}{q:A0}:∀(x:V)(g:List Value),x.Ac w q g->g.length=x.shape.size
|.d x,g,h=>by simp only[V.Ac]at h;simp only[V.shape,CC];exact G5 x g h
|.ptr id p,g,h=>by simp only[V.Ac]at h;rcases h with⟨b,m,_,e⟩|⟨_,a,e⟩<;>simp[e,V.shape,Sh.size]
|.sl id n,g,h=>by simp only[V.Ac]at h;obtain⟨o,u,_,e,_⟩:=h;simp[e,V.shape,Sh.size]
|.sd id n,g,h=>by simp only[V.Ac]at h;obtain⟨o,u,_,e,_⟩:=h;simp[e,V.shape,Sh.size]
|.mp id,g,h=>by simp only[V.Ac]at h;rcases h with⟨b,_,e⟩|⟨_,a,e⟩<;>simp[e,V.shape,Sh.size]
|.hd y id,g,h=>by simp only[V.Ac]at h;rcases h with⟨b,_,e⟩|⟨_,a,e⟩<;>simp[e,V.shape,Sh.size]
|.ep id n z i f p,g,h=>by simp only[V.Ac]at h;obtain⟨o,u,_,e,_⟩:=h;simp[e,V.shape,Sh.size]
|.bs id p G n,g,h=>by simp only[V.Ac]at h;rcases h with⟨b,m,k,f,_,_,e⟩|⟨_,a,l,c,e⟩<;>simp[e,V.shape,Sh.size]
|.fn f s r,g,h=>by simp only[V.Ac]at h;obtain⟨v,F,e,_⟩:=h;simp[e,V.shape,Sh.size]
|.agg j,g,h=>by simp only[V.Ac]at h;simp only[V.shape,Sh.size];exact MM j g h
|.iface t x,g,h=>by simp only[V.Ac]at h;obtain⟨u,e,_⟩:=h;simp[e,V.shape,Sh.size]
|.BE j,g,h=>by simp only[V.Ac]at h;obtain⟨u,e,_⟩:=h;simp[e,V.shape,Sh.size]
|.undef,g,h=>by simp only[V.Ac]at h;simp[h,V.shape,Sh.size]
|.any,g,h=>by simp only[V.Ac]at h;obtain⟨u,e⟩:=h;simp[e,V.shape,Sh.size]
def MM{w:World}{i:A0}:∀(b:List V)(a:List Value),Br w i b a->a.length=Sh.BR (V.BN b)
|[],a,h=>by simp only[Br]at h;simp[h,V.BN,Sh.BR]
|x::r,a,h=>by
 simp only[Br]at h;obtain⟨c,d,e,f,g⟩:=h;simp[e,V.BN,Sh.BR,E7 x c f,MM r d g]
end
def qC{w:World}{c:A0}:∀(b:List V)(i:Nat)(a:List Value),Br w c b a->
 Br w c (b.take i) (a.take (Sh.BR ((b.map V.shape).take i)))/\Br w c (b.drop i) (a.drop (Sh.BR ((b.map V.shape).take i)))
|b,0,a,h=>by simpa[Br,Sh.BR]using h
|[],i+1,a,h=>by simpa[Br,Sh.BR]using h
|x::r,i+1,a,h=>by
 simp only[Br]at h;obtain⟨d,g,rfl,e,j⟩:=h;have f:=E7 x d e;obtain⟨p,q⟩:=qC r i g j;simp only[Cg,List.take_succ_cons,List.drop_succ_cons,Sh.BR];constructor
 ·rw[<-f,QO];simp only[Br];exact⟨d,_,rfl,e,p⟩
 ·rw[<-f,QQ];exact q
def Ok{w:World}{e:A0}{d f:List V}{b c:List Value}(a:Br w e d b)(i:Br w e f c):Br w e (d++f) (b++c):=by
 induction d generalizing b with
 |nil=>simp only[Br]at a;subst a;simpa using i
 |cons x r l=>
  simp only[Br]at a;obtain⟨g,h,rfl,j,k⟩:=a;simp only[List.cons_append,Br];exact⟨g,h++c,by simp,j,l k⟩
def NV{w:World}{d:A0}{a:List V}{g:List Value}(h:Br w d a g){i:Nat}{v:V}(o:a[i]? = some v):
 ∃f b c,g=f++(b++c)/\f.length=Sh.BR ((a.map V.shape).take i)/\Br w d (a.take i) f/\v.Ac w d b/\Br w d (a.drop (i+1)) c:=by
 obtain⟨p,q⟩:=EK.1 o;obtain⟨k,j⟩:=qC a i g h;rw[Db p,q]at j;simp only[Br]at j;obtain⟨b,c,e,l,m⟩:=j;refine⟨_,b,c,?_,?_,k,l,m⟩
 ·rw[<-e,Kh]
 ·have n:=MM _ _ k;rw[V.BZ,<-Ki]at *;rw[n]
def V.at:V->List Nat->Option V
|v,[]=>some v
|v,i::p=>match v.BM with
 |some a=>match a[i]? with
  |some k=>V.at k p
  |none=>none
 |none=>none
def Bt:List V->Option (List D)
|[]=>some []
|.d x::r=>match Bt r with
 |some l=>some (x::l)
 |none=>none
|_::_=>none
def V.mk(a:List V):V:=match Bt a with
|some l=>.d (.agg l)
|none=>.agg a
def V.Bi:∀{b:List V}{l:List D},Bt b=some l->b=l.map .d
|[],l,h=>by simp[Bt]at h;subst h;rfl
|.d x::r,l,h=>by
 simp only[Bt]at h;cases a:Bt r with
 |none=>simp[a]at h
 |some m=>simp[a]at h;subst h;simp[V.Bi a]
|.ptr _ _::_,l,h|.sl _ _::_,l,h|.sd _ _::_,l,h|.mp _::_,l,h|.hd _ _::_,l,h|.ep _ _ _ _ _ _::_,l,h|.bs _ _ _ _::_,l,h|.fn _ _ _::_,l,h|.agg _::_,l,h|.iface _ _::_,l,h|.BE _::_,l,h|.undef::_,l,h|.any::_,l,h=>by simp[Bt]at h
def ZF(a:List V):(V.mk a).BM=some a:=by
 unfold V.mk;split
 next l h=>simp[V.BM,V.Bi h]
 ·simp[V.BM]
def Ra6{v:V}{a:List V}(h:v.BM=some a):v.isAgg=true:=by
 cases v with
 |agg b=>rfl
 |d x=>cases x with
  |agg b=>rfl
  |_=>simp[V.BM]at h
 |_=>simp[V.BM]at h
def V.set:V->List Nat->V->Option V
|_,[],x=>some x
|v,i::p,x=>match v.BM with
 |some a=>match a[i]? with
  |some k=>match V.set k p x with
   |some b=>some (V.mk (a.set i b))
   |none=>none
  |none=>none
 |none=>none
def JC{w:World}{j:A0}:∀(p:List Nat)(t v:V)(a:List Value),t.Ac w j a->t.at p=some v->
 ∃b c d,a=b++(c++d)/\b.length=t.shape.off p/\v.Ac w j c
|[],t,v,a,h,e=>by
 simp only[V.at,Bu]at e;subst e;exact⟨[],a,[],by simp,by cases t.shape<;>simp[Sh.off],h⟩
|i::p,t,v,a,h,e=>by
 simp only[V.at]at e;split at e
 ·rename_i y g;split at e
  ·rename_i k f;rw[Ti g]at h;obtain⟨b,c,d,o,q,_,u,_⟩:=NV h f;obtain⟨l,m,n,r,s,x⟩:=JC p k v c u e;refine⟨b++l,m,n++d,by simp[o,r],?_,x⟩;rw[Oo g];simp only[Sh.off,DV,q,s];have:(List.map V.shape y).getD i .AX=k.shape:=by simp[f]
   rw[this]
  ·simp at e
 ·simp at e
def Ol{w:World}{F:A0}:∀(p:List Nat)(t v x:V)(b a:List Value),t.Ac w F b->t.at p=some v->x.Ac w F a->x.shape=v.shape->
 ∃z,t.set p x=some z/\z.shape=t.shape/\z.Ac w F (b.take (t.shape.off p)++(a++b.drop (t.shape.off p+a.length)))
|[],t,v,x,b,a,h,e,f,d=>by
 simp only[V.at,Bu]at e;subst e;refine⟨x,rfl,d,?_⟩;have r:=E7 _ _ h;have n:=E7 _ _ f;have:t.shape.off []=0:=by cases t.shape<;>simp[Sh.off]
 rw[this];have s:a.length=b.length:=by rw[r,n,d]
 simp[s,f]
|i::p,t,v,x,b,a,h,e,f,d=>by
 simp only[V.at]at e;split at e
 ·rename_i g o;split at e
  ·rename_i k c;rw[Ti o]at h;obtain⟨l,m,G,K,L,r,n,s⟩:=NV h c;obtain⟨y,M,N,T⟩:=Ol p k v x m a n e f d;obtain⟨W,J,X,O,P,U⟩:=JC p k v m n e;have q:a.length=J.length:=by rw[E7 _ _ f,E7 _ _ U,d]
   have u:t.shape.off (i::p)=l.length+k.shape.off p:=by
    rw[Oo o];simp only[Sh.off,L];have:(List.map V.shape g).getD i .AX=k.shape:=by simp[c]
    rw[this]
   refine⟨V.mk (g.set i y),by simp[V.set,o,c,M],?_,?_⟩
   ·rw[Oo o,Oo (ZF _),Fg,N];congr 1;apply QR;intro j;by_cases H:i=j
    ·subst H;rw[Kj];simp[c];obtain⟨q,_⟩:=EK.1 c;omega
    ·rw[Kj];simp[H]
   ·rw[Ti (ZF _),u];have Q:b.take (l.length+k.shape.off p)++(a++b.drop (l.length+k.shape.off p+a.length)) =
     l++((m.take (k.shape.off p)++(a++m.drop (k.shape.off p+a.length)))++G):=by
     subst O;rw[K,<-P];simp only[Kk,q];rw[QO,Kg,QQ];simp[List.drop_append]
    rw[Q];have R:g.set i y=g.take i++(y::g.drop (i+1)):=by
     obtain⟨q,_⟩:=EK.1 c;exact Ts.trans (by simp[q])
    rw[R];refine Ok r ?_;simp only[Br];exact⟨_,G,rfl,T,s⟩
  ·simp at e
 ·simp at e
inductive EC where
|ready
|busy
|ret
|exit (n:Nat)
def EC.st:EC->LoopState
|.ready=>.ready
|.busy=>.busy
|.ret=>.done
|.exit _=>.done
def EC.DS:EC->Option Code
|.ret=>some .ret
|.exit n=>some (.exit n)
|_=>none
inductive Ob where
|box (E:Nat) (t:V)
|A9 (E sz:Nat) (xs:List D)
|Ao (E sz:Nat) (xs:List V)
|map (es:List (D×V))
|AY
 |lp (tag:Nat) (st:EC) (sl:List (Nat×V))
 |it (m:Option Nat) (n:Nat) (seen:List Nat)
def Ay:List (Nat×V)->Nat->V
|[],_=>.any
|(j,d)::r,k=>if j=k then d else Ay r k
def AA:List (Nat×Ob)->Nat->Option Ob
|[],_=>none
|(j,d)::r,k=>if j=k then some d else AA r k
def AG:List (Nat×Ob)->Nat->Ob->List (Nat×Ob)
|[],_,_=>[]
|(j,d)::r,k,x=>if j=k then (j,x)::r else (j,d)::AG r k x
abbrev Xb:=List (Nat×V)
abbrev AB:=List (Nat×Ob)
def D.Fp:D->Option Value
|.int k n=>some (.int k n)
|.bool b=>some (.bool b)
|.AM s=>some (.string ⟨s.toArray⟩)
|_=>none
def Vm:List D->Option (List Value)
|[]=>some []
|x::r=>match x.Fp,Vm r with
 |some u,some a=>some (u::a)
 |_,_=>none
def XD:Option (List Value)->Option Value
|some a=>some (.agg a.toArray)
|none=>none
def D.key:D->Option Value
|.int k n=>some (.int k n)
|.bool b=>some (.bool b)
|.AM s=>some (.string ⟨s.toArray⟩)
|.agg a=>XD (Vm a)
|_=>none
def X6(w:World)(c:A0):List (D×V)->List MapEntry->Prop
|[],b=>b=[]
|(k,v)::r,b=>∃e a,b=e::a/\k.key=some e.key/\v.An w c e.val/\X6 w c r a
def X6.tr{w d:World}{ρ b:A0}(t:Tr w ρ d b):∀(l:List (D×V)) (c:List MapEntry),X6 w ρ l c->X6 d b l c
|[],c,h=>h
|(k,v)::r,c,h=>by
 obtain⟨e,a,f,g,i,j⟩:=h;exact⟨e,a,f,g,Gg t i,X6.tr t r a j⟩
def Gm:Nat->List MapEntry->Prop
|_,[]=>True
|n,e::r=>e.born=n/\Gm (n+1) r
def Qh(w:World)(a:A0)(id:Nat):Ob->Prop
|.box E t=>∃b d,a.m id=some (.box b t.shape)/\w.heap[b]? = some (.cells (List.toArray d) E (0,0))/\t.Ac w a d
|.A9 E h e=>(a.m id=some .B4/\e=[])\/∃b c d g,a.m id=some (.A9 b e.length c)/\w.heap[b]? = some (.cells (List.toArray (d++g)) E (0,0))/\
 Bb w (B2 a) e d/\(∀x∈e,x.sz=h)/\(d++g).length=c*h
|.Ao E h e=>(a.m id=some .B4/\e=[])\/∃b c d g,a.m id=some (.A9 b e.length c)/\w.heap[b]? = some (.cells (List.toArray (d++g)) E (0,0))/\
 Br w a e d/\(∀x∈e,x.size=h)/\(d++g).length=c*h
|.map y=>∃b l f,a.m id=some (.map b)/\w.heap[b]? = some (.map (List.toArray l) f)/\X6 w a y l/\f=l.length/\Gm 0 l
|.AY=>a.m id=some .AY
|.lp i u z=>∃b fn k v s o q,a.m id=some (.map b)/\w.heap[b]? = some (.loop {state:=u.st,pending:=u.DS,fn:=fn,tmps:=k,params:=s,assign:=o,body:=q,defers:=v})/\a.gl.l i s k.size o q/\∀p∈z,p.2.An w a (k.getD p.1 undef)
|.it none _ _=>∃b,a.m id=some (.map b)/\w.heap[b]? = some (.mapIter none 0 #[] 0)
|.it (some j) n seen=>∃b r,a.m id=some (.map b)/\(a.m j=some (.map r)\/a.m j=some .AY)/\w.heap[b]? = some (.mapIter (some r) n seen.toArray n)
def Ee:AB->Prop
|[]=>True
|(j,_)::r=>AA r j=none/\Ee r
def Ee.Ay:∀{c:AB},Ee c->∀e∈c,AA c e.1=some e.2
|[],_,e,h=>by cases h
|(j,o)::r,h,e,b=>by
 rcases DA.mp b with rfl|b
 ·simp[AA]
 ·have a:=Ee.Ay h.2 e b;have:j≠e.1:=λd=>by rw[d]at h;rw[h.1]at a;cases a
  simp[AA,this,a]
def dr{x:Ob}{id:Nat}:∀(a:AB)(j:Nat),AA a j=none->AA (AG a id x) j=none
|[],_,h=>by simp[AG,AA]
|(k,y)::r,j,h=>by
 simp only[AA]at h;simp only[AG];split at h
 ·cases h
 ·rename_i e;split
  ·simp only[AA,e,Ci];exact h
  ·simp only[AA,e,Ci];exact dr r j h
def Ee.set{x:Ob}{id:Nat}:∀{a:AB},Ee a->Ee (AG a id x)
|[],h=>h
|(k,y)::r,h=>by
 simp only[AG];split
 ·exact h
 ·exact⟨dr r k h.1,Ee.set h.2⟩
structure OM(w:World)(ρ:A0)(objs:AB):Prop where
 BU:∀id ob,AA objs id=some ob->Qh w ρ id ob
 D1:∀id o,ρ.m id=some o->∃ob,AA objs id=some ob
 inj:∀i j o p b,ρ.m i=some o->ρ.m j=some p->o.blk? = some b->p.blk? = some b->i=j
 D7:∀b,ρ.xo b->b<w.heap.size
 Dn:∀b o,ρ.gl b=some o->w.heap[b]? = some o/\¬B2 ρ b
 DT:∀b,Eg ρ b->¬ρ.xo b
 CX:Ee objs
def SM(w:World)(c:A0)(b:Xb)(a:Act):Prop:=∀k,(Ay b k).An w c (a.tmps.getD k undef)
structure Bv(w w':World):Prop where
 size:w.heap.size<=w'.heap.size
 keep:∀b,b<w.heap.size->w'.heap[b]? = w.heap[b]?
 tape:w'.tape=w.tape
 os:w'.os=w.os
 CO:w'.output=w.output
 drawn:w.drawn<=w'.drawn
def Bv.refl(w:World):Bv w w:=⟨BV _,λ_ _=>rfl,rfl,rfl,rfl,BV _⟩
def Bv.trans{w e c:World}(h:Bv w e)(a:Bv e c):Bv w c:=
 ⟨FA h.size a.size,λb d=>(a.keep b (Oz d h.size)).trans (h.keep b d),a.tape.trans h.tape,a.os.trans h.os,a.CO.trans h.CO,FA h.drawn a.drawn⟩
def Bv.tr{w a:World}(h:Bv w a){ρ:A0}:Tr w ρ a ρ:=
 ⟨h.size,λb _ c=>h.keep b c,λ_ h=>.inl h,rfl,rfl,λ_ o h=>⟨o,h,.refl o⟩,h.tape,h.os,h.CO,h.drawn⟩
def Om(w:World)(n:Nat)(h:w.drawn<=n:=by simp):Bv w {w with drawn:=n}:=⟨BV _,λ_ _=>rfl,rfl,rfl,rfl,h⟩
def LO{w f:World}{c a:A0}(t:Tr w c f a)(h:∀b o,c.gl b=some o->w.heap[b]? = some o/\¬B2 c b):∀b o,a.gl b=some o->f.heap[b]? = some o/\¬B2 a b:=by
 intro b o e;rw[t.gl]at e;obtain⟨d,g⟩:=h b o e;obtain⟨i,j⟩:=t.mono b g (Xi d);exact⟨i.trans d,j⟩
def OM.ext{w u:World}{ρ:A0}{f:AB}(h:Bv w u)(m:OM w ρ f):OM u ρ f:=by
 refine⟨λid s G=>?_,m.D1,m.inj,λb F=>Oz (m.D7 b F) h.size,LO h.tr m.Dn,m.DT,m.CX⟩;have d:=m.BU id s G;cases s with
 |box E t=>
  obtain⟨b,k,c,a,e⟩:=d;exact⟨b,k,c,(h.keep b (Xi a)).trans a,H6 h.tr _ _ e⟩
 |A9 E L O=>
  rcases d with d|⟨b,g,k,r,c,a,e,i,q⟩
  ·exact .inl d
  ·exact .inr ⟨b,g,k,r,c,(h.keep b (Xi a)).trans a,Fy (h.tr (ρ:=ρ)).mono _ _ e,i,q⟩
 |Ao E L O=>
  rcases d with d|⟨b,g,k,r,c,a,e,i,q⟩
  ·exact .inl d
  ·exact .inr ⟨b,g,k,r,c,(h.keep b (Xi a)).trans a,G6 (h.tr (ρ:=ρ)) _ _ e,i,q⟩
 |map P=>
  obtain⟨b,l,o,c,a,e,i⟩:=d;exact⟨b,l,o,c,(h.keep b (Xi a)).trans a,X6.tr h.tr _ _ e,i⟩
 |lp M R Q=>
  obtain⟨b,z,N,y,K,v,x,c,a,e,i⟩:=d;exact⟨b,z,N,y,K,v,x,c,(h.keep b (Xi a)).trans a,e,λp H=>Gg h.tr (i p H)⟩
 |it m n seen=>
  cases m with
  |none=>obtain⟨b,c,a⟩:=d;exact⟨b,c,(h.keep b (Xi a)).trans a⟩
  |some j=>obtain⟨b,J,c,e,a⟩:=d;exact⟨b,J,c,e,(h.keep b (Xi a)).trans a⟩
 |AY=>exact d
def SM.tr{w d:World}{ρ b:A0}{c:Xb}{a:Act}(t:Tr w ρ d b)(h:SM w ρ c a):SM d b c a:=λk=>Gg t (h k)
inductive A where
|t (k:Nat)
|int (k:IntKind) (n:Int)
|bool (b:Bool)
|AM (s:List UInt8)
|AT
|Bo
|B1
|Bl
|B0
|nl (sz:Nat)
|fn (f:Nat)
def A.Aa:Operand->A->Bool
|.tmp k,.t j=>k==j
|.const (.int k n),.int c d=>decide (k=c)&&n==d
|.const (.bool b),.bool a=>b==a
|.const (.string s),.AM l=>s.data.toList==l
|.const (.slice none n m),.AT=>n==0&&m==0
|.const .nilIface,.Bo=>true
|.const (.pointer none),.B1=>true
|.const .nilFunc,.Bl=>true
|.const (.map none),.B0=>true
|.const (.slice none n m),.nl _=>n==0&&m==0
|.func f,.fn g=>f==g
|_,_=>false
def A.ev(a:Xb):A->V
|.t k=>Ay a k
|.int k n=>.d (.int k n)
|.bool b=>.d (.bool b)
|.AM s=>.d (.AM s)
|.AT=>.d .AT
|.Bo=>.d .Bo
|.B1=>.d .B1
|.Bl=>.d .Bl
|.B0=>.d .B0
|.nl c=>.d (.AF c [])
|.fn f=>.fn f [] []
section A1
variable {w:World} {ρ:A0} {u:Value}
def X1{k:IntKind}{n:Int}:(V.d (.int k n)).An w ρ u↔u=.int k n:=by simp[V.An,V.isAgg,V.Ac,D.An]
def BI{b:Bool}:(V.d (.bool b)).An w ρ u↔u=.bool b:=by simp[V.An,V.isAgg,V.Ac,D.An]
def B7{s:List UInt8}:(V.d (.AM s)).An w ρ u↔u=.string ⟨s.toArray⟩:=by simp[V.An,V.isAgg,V.Ac,D.An]
def W6:(V.d .AT).An w ρ u↔u=.slice none 0 0:=by simp[V.An,V.isAgg,V.Ac,D.An]
def VE:(V.d .Bo).An w ρ u↔u=.nilIface:=by simp[V.An,V.isAgg,V.Ac,D.An]
def fm:(V.d .B1).An w ρ u↔u=.pointer none:=by simp[V.An,V.isAgg,V.Ac,D.An]
def zU:(V.d .Bl).An w ρ u↔u=.nilFunc:=by simp[V.An,V.isAgg,V.Ac,D.An]
def Ru:(V.d .B0).An w ρ u↔u=.map none:=by simp[V.An,V.isAgg,V.Ac,D.An]
def Z2:V.undef.An w ρ u↔u=undef:=by simp[V.An,V.isAgg,V.Ac]
def Qy:V.any.An w ρ u:=.inl rfl
def Yq{e:Nat}{b:List D}:(V.d (.AF e b)).An w ρ u↔(b=[]/\u=.slice none 0 0)\/∃a c f,u=.slice (some a) b.length c/\b.length<=c/\CZ w (B2 ρ) a f/\Bb w (B2 ρ) b f/\∀x∈b,x.sz=e:=by
 simp[V.An,V.isAgg,V.Ac,D.An]
def LQ{x:D}:(V.d (.Bd x)).An w ρ u↔∃a b,u=.pointer (some a)/\a.spot=none/\CZ w (B2 ρ) a b/\x.An w (B2 ρ) b:=by
 simp[V.An,V.isAgg,V.Ac,D.An]
def VF{id:Nat}{p:List Nat}:(V.ptr id p).An w ρ u↔(∃b c,ρ.m id=some (.box b c)/\u=.pointer (some ⟨b,c.off p,none⟩))\/(ρ.m id=some .AY/\∃a,u=.pointer (some a)):=by
 simp[V.An,V.isAgg,V.Ac]
def uk{id:Nat}{p:List Nat}(h:(V.ptr id p).An w ρ u):∃a,u=.pointer (some a):=by
 rw[VF]at h;rcases h with⟨b,c,_,h⟩|⟨_,h⟩
 ·exact⟨_,h⟩
 ·exact h
def Bh{id:Nat}{p:List Nat}{c:AB}{E:Nat}{t:V}(e:OM w ρ c)(f:AA c id=some (.box E t))(h:(V.ptr id p).An w ρ u):∃b d,ρ.m id=some (.box b d)/\u=.pointer (some ⟨b,d.off p,none⟩):=by
 rw[VF]at h;rcases h with h|⟨h,_⟩
 ·exact h
 ·obtain⟨b,g,a,_⟩:=e.BU id _ f;rw[h]at a;cases a
def Jd{id:Nat}{p:List Nat}{b:Nat}{sh:Sh}(h:ρ.m id=some (.box b sh)):(V.ptr id p).An w ρ (.pointer (some ⟨b,sh.off p,none⟩)):=VF.2 (.inl ⟨b,sh,h,rfl⟩)
def Yj{id n:Nat}:(V.sl id n).An w ρ u↔∃o,ρ.m id=some o/\o.slice n u:=by
 simp[V.An,V.isAgg,V.Ac]
def Ygo{id n:Nat}:(V.sd id n).An w ρ u↔∃o,ρ.m id=some o/\o.Ds n u:=by
 simp[V.An,V.isAgg,V.Ac]
def O9{id:Nat}:(V.mp id).An w ρ u↔(∃b,ρ.m id=some (.map b)/\u=.map (some b))\/(ρ.m id=some .AY/\∃r,u=.map r):=by
 simp[V.An,V.isAgg,V.Ac]
def LR{y:Bool}{id:Nat}:(V.hd y id).An w ρ u↔(∃b,ρ.m id=some (.map b)/\u=KU y b)\/(ρ.m id=some .AY/\∃b,u=KU y b):=by
 simp[V.An,V.isAgg,V.Ac]
def SP{id e n:Nat}{p:List Nat}:(V.bs id p e n).An w ρ u↔(∃b g d f,ρ.m id=some (.box b g)/\(n<=d/\(n≠0->f=g.off (p++[e])))/\u=.slice (some ⟨b,f,none⟩) n d)\/(ρ.m id=some .AY/\∃a l c,u=.slice a l c):=by
 simp[V.An,V.isAgg,V.Ac]
def SQ{id n z i f:Nat}{p:List Nat}:(V.ep id n z i f p).An w ρ u↔∃o,ρ.m id=some o/\o.elem n (i*z+f) u:=by
 simp[V.An,V.isAgg,V.Ac]
def Me{f:Nat}{b a:List V}:(V.fn f b a).An w ρ u↔∃c d,u=.func (.func f) c.toArray d.toArray/\V.A1 w ρ b c/\V.A1 w ρ a d:=by
 simp[V.An,V.isAgg,V.Ac]
def IG{x:D}:(V.d x).An w ρ u↔(x.isAgg=true/\∃a,u=.agg a.toArray/\x.An w (B2 ρ) a)\/(x.isAgg=false/\x.An w (B2 ρ) [u]):=by
 have:(V.d x).isAgg=x.isAgg:=by cases x<;>rfl
 simp[V.An,V.Ac,this]
def Rt{t:Nat}{x:D}:(V.d (.iface t x)).An w ρ u↔∃c,u=.iface t c/\(V.d x).An w ρ c:=by
 simp[IG,D.isAgg,D.An]
def PF:∀{l:List D}{a:List Value},V.A1 w ρ (l.map .d) a↔E6 w (B2 ρ) l a
|[],a=>by simp[V.A1,E6]
|x::r,a=>by
 have:∀u,((V.d x)=V.any\/(V.d x).isAgg=true/\(∃b,u=Value.agg b.toArray/\V.Ac w ρ (V.d x) b)\/(V.d x).isAgg=false/\V.Ac w ρ (V.d x) [u])↔(V.d x).An w ρ u:=λu=>Iff.rfl;simp only[Cg,V.A1,E6,PF (l:=r),this,IG]
def R4{f:Nat}{b a:List D}:(V.d (.fn f b a)).An w ρ u↔∃c e,u=.func (.func f) c.toArray e.toArray/\V.A1 w ρ (b.map .d) c/\V.A1 w ρ (a.map .d) e:=by
 simp[IG,D.isAgg,D.An,PF]
def CJ{b:List V}:(V.BE b).An w ρ u↔∃a,u=.tuple a.toArray/\V.A1 w ρ b a:=by
 simp[V.An,V.isAgg,V.Ac]
def zT{v:V}{c:List V}(h:v.BM=some c):v.An w ρ u↔∃a,u=.agg a.toArray/\Br w ρ c a:=by
 have b:=Ra6 h;have d:v≠.any:=by intro e;subst e;simp[V.isAgg]at b
 simp[V.An,b,d,Ti h]
def Wf{v:V}(h:v.isAgg=false)(a:v≠.any):v.An w ρ u↔v.Ac w ρ [u]:=by
 simp[V.An,h,a]
def Qz{v:V}{cs:List Value}(h:v.Ac w ρ cs):v.An w ρ (if v.isAgg then .agg cs.toArray else cs.headD undef):=by
 cases a:v.isAgg with
 |true=>exact .inr (.inl ⟨a,cs,by simp,h⟩)
 |false=>
  have b:=E7 _ _ h;have e:v.shape.size=1:=by
   cases v with
   |d x=>cases x<;>simp_all[V.isAgg,V.shape,D.shape,Sh.size]
   |agg f=>simp[V.isAgg]at a
   |_=>simp[V.shape,Sh.size]
  rw[e]at b;obtain⟨c,rfl⟩:=LH.1 b;exact .inr (.inr ⟨a,by simpa using h⟩)
def Vq{v:V}(c:v≠.any){u:Value}(h:v.An w ρ u):v.Ac w ρ u.cells.toList:=by
 rcases h with h|⟨_,g,rfl,h⟩|⟨j,h⟩
 ·exact absurd h c
 ·simpa[Value.cells]using h
 ·have:u.cells=#[u]:=by
   cases u with
   |agg e=>
    cases v with
    |d x=>cases x<;>simp_all[V.isAgg,V.Ac,D.An]
    |sl id n=>
     simp only[V.Ac]at h;obtain⟨o,u,_,a,b⟩:=h;simp only[HY,GK]at a;subst a;cases o<;>simp[RO.slice]at b
    |sd id n=>
     simp only[V.Ac]at h;obtain⟨o,u,_,a,b⟩:=h;simp only[HY,GK]at a;subst a;cases o<;>simp[RO.Ds]at b
    |ptr id p=>simp only[V.Ac]at h;rcases h with⟨_,_,_,h⟩|⟨_,_,h⟩<;>simp at h
    |mp id=>simp only[V.Ac]at h;rcases h with⟨_,_,h⟩|⟨_,_,h⟩<;>simp at h
    |hd y id=>simp only[V.Ac]at h;rcases h with⟨_,_,h⟩|⟨_,_,h⟩<;>cases y<;>simp[KU]at h
    |bs id p k n=>simp only[V.Ac]at h;rcases h with⟨_,_,_,_,_,_,h⟩|⟨_,_,_,_,h⟩<;>simp at h
    |ep id n z i f p=>
     simp only[V.Ac]at h;obtain⟨o,u,_,a,b⟩:=h;simp only[HY,GK]at a;subst a;cases o<;>simp[RO.elem]at b
    |_=>simp_all[V.isAgg,V.Ac,Go.undef]
   |_=>rfl
  rw[this];simpa using h
end A1
def A.Av{w:World}{d:A0}{c:Xb}{a:Act}(e:SM w d c a):∀{x:Operand}{y:A},A.Aa x y=true->(y.ev c).An w d (a.eval x)
|.tmp k,.t j,h=>by simp[A.Aa]at h;subst h;exact e k
|.const (.int k n),.int o p,h=>by simp[A.Aa]at h;obtain⟨rfl,rfl⟩:=h;simp[A.ev,X1,Act.eval]
|.const (.bool b),.bool i,h=>by simp[A.Aa]at h;subst h;simp[A.ev,BI,Act.eval]
|.const (.string s),.AM l,h=>by
 simp[A.Aa]at h;subst h;simp[A.ev,B7,Act.eval]
|.const (.slice none n m),.AT,h=>by simp[A.Aa]at h;obtain⟨rfl,rfl⟩:=h;simp[A.ev,W6,Act.eval]
|.const .nilIface,.Bo,h=>by simp[A.ev,VE,Act.eval]
|.const (.pointer none),.B1,h=>by simp[A.ev,fm,Act.eval]
|.const .nilFunc,.Bl,h=>by simp[A.ev,zU,Act.eval]
|.const (.map none),.B0,h=>by simp[A.ev,Ru,Act.eval]
|.const (.slice none n m),.nl q,h=>by simp[A.Aa]at h;obtain⟨rfl,rfl⟩:=h;simp[A.ev,Yq,Act.eval]
|.func f,.fn g,h=>by
 simp[A.Aa]at h;subst h;simp only[A.ev,Me,Act.eval,V.A1];exact⟨[],[],rfl,rfl,rfl⟩
def Cj(a:AB)(id:Nat)(p:List Nat):Option V:=match AA a id with
|some (.box _ t)=>t.at p
|_=>none
def IE(K:V->Prop):V->V->V->Prop
|.d (.bool t),.d (.bool x),.d (.bool y)=>K (.d (.bool (if t then x else y)))
|.d (.bool t),x,y=>(t=true->K x)/\(t=false->K y)
|_,_,_=>False
def JU(K:V->Prop):V->Prop
|.d (.bool b)=>K (.d (.bool (!b)))
|_=>False
def OF(K:V->Prop):V->Prop
|.d (.int k n)=>K (.d (.int k (k.wrap (0-n))))
|_=>False
def Yu(a:BinOp)(k:IntKind)(x y:Int):Int:=
 match a with
 |.and=>k.wrap (BitVec.ofInt k.bits x &&&BitVec.ofInt k.bits y).toNat
 |.or=>k.wrap (BitVec.ofInt k.bits x |||BitVec.ofInt k.bits y).toNat
 |.xor=>k.wrap (BitVec.ofInt k.bits x ^^^ BitVec.ofInt k.bits y).toNat
 |_=>k.wrap (BitVec.ofInt k.bits x &&&~~~ BitVec.ofInt k.bits y).toNat
def Ht(e:BinOp)(k c:IntKind)(a b:Int)(K:V->Prop):Prop:=
 match e with
 |.add=>k=c/\K (.d (.int k (k.wrap (a+b))))
 |.sub=>k=c/\K (.d (.int k (k.wrap (a-b))))
 |.mul=>k=c/\K (.d (.int k (k.wrap (a*b))))
 |.quo=>k=c/\b≠0/\K (.d (.int k (k.wrap (a.tdiv b))))
 |.rem=>k=c/\b≠0/\K (.d (.int k (a.tmod b)))
 |.and|.or|.xor|.andNot=>k=c/\K (.d (.int k (Yu e k a b)))
 |.shl=>0<=b/\K (.d (.int k (k.wrap (a*2 ^ (min b.toNat k.bits)))))
 |.shr=>0<=b/\K (.d (.int k (a.fdiv (2 ^ (min b.toNat k.bits)))))
 |.eql=>k=c/\K (.d (.bool (a==b)))
 |.neq=>k=c/\K (.d (.bool (a != b)))
 |.lss=>k=c/\K (.d (.bool (decide (a<b))))
 |.leq=>k=c/\K (.d (.bool (decide (a<=b))))
 |.gtr=>k=c/\K (.d (.bool (decide (b<a))))
 |.geq=>k=c/\K (.d (.bool (decide (b<=a))))
def Kv(K:V->Prop):V->Prop
|.d (.int k n)=>K (.d (.int k (Yu .xor k (if k.signed then -1 else k.max) n)))
|_=>False
def Iz(a:BinOp)(x y:List UInt8)(K:V->Prop):Prop:=
 match a with
 |.add=>x.length+y.length<=9223372036854775807/\K (.d (.AM (x++y)))
 |.eql=>K (.d (.bool (x==y)))
 |.neq=>K (.d (.bool (x != y)))
 |.lss=>K (.d (.bool (Op.bytesLess x y)))
 |.leq=>K (.d (.bool (Op.bytesLess x y||x==y)))
 |.gtr=>K (.d (.bool (!(Op.bytesLess x y||x==y))))
 |.geq=>K (.d (.bool (!Op.bytesLess x y)))
 |_=>False
def Hq(c:BinOp)(K:V->Prop):V->V->Prop
|.d (.int k a),.d (.int e b)=>Ht c k e a b K
|.d (.AM x),.d (.AM y)=>Iz c x y K
|_,_=>False
def Ud(e:Bool)(K:V->Prop):V->Prop
|.d .Bo=>K (.d (.bool e))
|.iface _ _=>K (.d (.bool (!e)))
|.d (.iface _ _)=>K (.d (.bool (!e)))
|_=>False
def Np(e:Bool)(K:V->Prop):V->Prop
|.d .Bl=>K (.d (.bool e))
|.d (.fn _ _ _)=>K (.d (.bool (!e)))
|.fn _ _ _=>K (.d (.bool (!e)))
|_=>False
def IS(a:AB)(K:V->Prop):V->Prop
|.sl id n=>(∃E c b,AA a id=some (.A9 E c b)/\c≠0/\n=b.length/\b≠[])/\K (.sd id n)
|.d .AT=>K (.d .B1)
|_=>False
def JS(t:Nat):V->V
|.d x=>.d (.iface t x)
|v=>.iface t v
def Lt(f:Nat)(b a:List V):Option (List D)->Option (List D)->V
|some l,some m=>.d (.fn f l m)
|_,_=>.fn f b a
def Ms(f:Nat)(b a:List V):V:=Lt f b a (Bt b) (Bt a)
def JK(k:IntKind)(K:V->Prop):V->Prop
|.d (.int _ n)=>K (.d (.int k (k.wrap n)))
|_=>False
def Kn(K:V->Prop):V->V->Prop
|.d (.AM s),.d (.int _ n)=>(0<=n/\n<s.length)/\K (.d (.int .u8 (s.getD n.toNat 0).toNat))
|_,_=>False
def Y4:Option V->Option (List V)
|some v=>v.BM
|none=>none
def W2(n i:Nat):Option Ob->Option V
|some (.Ao _ _ a)=>if n=a.length then a[i]? else none
|some (.A9 _ _ a)=>if n=a.length then (a.map V.d)[i]? else none
|_=>none
def GN(z f:Nat)(p:List Nat):Option V->Option V
|some v=>if z=v.size/\f=v.shape.off p then v.at p else none
|none=>none
def FW(a:AB)(id n z i f:Nat)(p:List Nat):Option V:=GN z f p (W2 n i (AA a id))
def Mn(z:Nat):Option V->Prop
|some v=>v.size=z
|none=>False
def J0(a:AB)(z:Nat)(K:V->Prop):V->V->Prop
|.d (.AF f e),.d (.int _ n)=>z=f/\(0<=n/\n<e.length)/\K (.d (.Bd (e.getD n.toNat default)))
|.sl id n,.d (.int _ m)=>(0<=m/\m<n)/\Mn z (W2 n m.toNat (AA a id))/\K (.ep id n z m.toNat 0 [])
|.bs id p c n,.d (.int _ m)=>(0<=m/\m<n)/\(∃b,Y4 (Cj a id p)=some b/\c+n<=b.length/\∀k∈b,k.size=z)/\K (.ptr id (p++[c+m.toNat]))
|_,_=>False
def Il(b:AB)(a z:Nat)(K:V->Prop):V->V->Prop
|.ptr id p,.d (.int _ n)=>(0<=n/\n<a)/\(∃c,Y4 (Cj b id p)=some c/\c.length=a/\∀k∈c,k.size=z)/\K (.ptr id (p++[n.toNat]))
|.d (.Bd (.agg e)),.d (.int _ n)=>(0<=n/\n<a)/\e.length=a/\(∀x∈e,x.sz=z)/\K (.d (.Bd (e.getD n.toNat default)))
|_,_=>False
def Qr(id:Nat)(p:List Nat)(f b:Nat)(K:V->Prop):Option (List V)->Prop
|some a=>f<a.length/\Sh.BR ((a.take f).map V.shape)=b/\K (.ptr id (p++[f]))
|none=>False
def Vk(a:AB)(f b:Nat)(K:V->Prop):V->Prop
|.ptr id p=>Qr id p f b K (Y4 (Cj a id p))
|.d (.Bd (.agg c))=>f<c.length/\Cf (c.take f)=b/\K (.d (.Bd (c.getD f default)))
|.ep id n z i g p=>K (.ep id n z i (g+b) (p++[f]))
|_=>False
def N9(f c n:Nat)(b:Bool)(K:V->Prop):Option (List V)->Prop
|some a=>f<a.length/\Sh.BR ((a.take f).map V.shape)=c/\(a.getD f .any).size=n/\(a.getD f .any).isAgg=b/\K (a.getD f .any)
|none=>False
def F4(n:Nat)(a:Bool)(K:V->Prop):Option V->Prop
|some v=>v.size=n/\v.isAgg=a/\K v
|none=>False
def D4(a:AB)(n:Nat)(b:Bool)(K:V->Prop):V->Prop
|.ptr id p=>F4 n b K (Cj a id p)
|.d (.Bd x)=>x.sz=n/\(V.d x).isAgg=b/\K (.d x)
|.ep id m z i f p=>F4 n b K (FW a id m z i f p)
|_=>False
def He(K:V->Prop):V->Prop
|.ptr id p=>K (.ptr id p)
|.ep id n z i f p=>K (.ep id n z i f p)
|.d (.Bd x)=>K (.d (.Bd x))
|.fn f a b=>K (.fn f a b)
|.d (.fn f a b)=>K (.d (.fn f a b))
|_=>False
def KH(K:V->Prop):V->Prop
|.d (.AM s)=>K (.d (.int .i64 s.length))
|_=>False
def Hi(a:AB)(K:V->Prop):V->Prop
|.d (.AF _ b)=>K (.d (.int .i64 b.length))
|.d .AT=>K (.d (.int .i64 0))
|.bs id _ _ n=>(∃E t,AA a id=some (.box E t))/\K (.d (.int .i64 n))
|.sl id n=>((∃E z b,AA a id=some (.A9 E z b)/\n=b.length)\/∃E z b,AA a id=some (.Ao E z b)/\n=b.length)/\K (.d (.int .i64 n))
|_=>False
def Jn(a:Nat)(K:Nat->Nat->Prop):Option V->Option V->Prop
|none,none=>K 0 a
|some (.d (.int _ l)),none=>(0<=l/\l<=a)/\K l.toNat a
|none,some (.d (.int _ h))=>(0<=h/\h<=a)/\K 0 h.toNat
|some (.d (.int _ l)),some (.d (.int _ h))=>(0<=h/\h<=a)/\(0<=l/\l<=h)/\K l.toNat h.toNat
|_,_=>False
def Ky(b a:Option V)(K:V->Prop):V->Prop
|.d (.AM s)=>Jn s.length (λl h=>K (.d (.AM ((s.take h).drop l)))) b a
|_=>False
def Kx(z:Nat)(e c:Option V)(K:V->Prop):V->Prop
|.d (.AF a b)=>z=a/\Jn b.length (λl h=>K (.d (.AF a ((b.take h).drop l)))) e c
|_=>False
def Km(i:Nat)(K:V->Prop):V->Prop
|.BE a=>i<a.length/\K (a.getD i .any)
|_=>False
def Dz:List V->List (Nat×V)->(List V->Prop)->Prop
|a,[],K=>K a
|a,(i,v)::r,K=>i<a.length/\v.shape=(a.getD i .any).shape/\v≠.any/\Dz (a.set i v) r K
def L1(t:Nat)(z:D)(K:V->Prop):V->Prop
|.iface a v=>(a=t->K (.BE [v,.d (.bool true)]))/\(a≠t->K (.BE [.d z,.d (.bool false)]))
|.d (.iface a x)=>(a=t->K (.BE [.d x,.d (.bool true)]))/\(a≠t->K (.BE [.d z,.d (.bool false)]))
|.d .Bo=>K (.BE [.d z,.d (.bool false)])
|_=>False
inductive KT where
|int (k:IntKind)
|bool
|AM
|st (fs:List KT)
|ar (n:Nat) (e:KT)
mutual
def KT.cells:KT->Nat
|.st a=>QK a
|.ar n e=>n*e.cells
|_=>1
def QK:List KT->Nat
|[]=>0
|t::r=>t.cells+QK r
end
mutual
def KT.depth:KT->Nat
|.st a=>NW a+1
|.ar _ e=>e.depth+1
|_=>1
def NW:List KT->Nat
|[]=>0
|t::r=>max t.depth (NW r)
end
mutual
def KT.Bk:KT->D->Bool
|.int k,.int c _=>decide (k=c)
|.bool,.bool _=>true
|.AM,.AM _=>true
|.st b,.agg a=>Gh b a
|.ar n e,.agg a=>decide (a.length=n)&&KT.Dd e a
|_,_=>false
def Gh:List KT->List D->Bool
|[],[]=>true
|t::r,x::s=>t.Bk x&&Gh r s
|_,_=>false
def KT.Dd:KT->List D->Bool
|_,[]=>true
|t,x::s=>t.Bk x&&KT.Dd t s
end
def Ss(a:KT)(e:Bool)(K:V->Prop):V->V->Prop
|.d x,.d y=>a.Bk x=true/\a.Bk y=true/\K (.d (.bool (D.Bg x y==e)))
|_,_=>False
def Nu(a z:Nat)(c:Bool)(K:V->Prop):V->V->Prop
|.d (.agg b),.d (.int _ n)=>(0<=n/\n<a)/\b.length=a/\(∀x∈b,x.sz=z/\x.isAgg=c)/\K (.d (b.getD n.toNat default))
|_,_=>False
inductive C where
|mv (x:A)
|pick (c a b:A)
|not (x:A)
|neg (x:A)
|GA (x:A)
|Bc (op:BinOp) (x y:A)
|Cr (e:Bool) (x:A)
|EG (e:Bool) (x:A)
|G4 (x:A)
|Gy (k:IntKind) (x:A)
|Fl (x i:A)
|DI (sz:Nat) (x i:A)
|B9 (len sz:Nat) (x i:A)
|BW (f fo:Nat) (x:A)
|IX (f fo n:Nat) (ag:Bool) (x:A)
|ld (n:Nat) (ag:Bool) (x:A)
|Cw (x:A)
|C2 (x:A)
|CV (x:A)
|CY (x:A) (lo hi:Option A)
|Ck (sz:Nat) (x:A) (lo hi:Option A)
|ext (x:A) (i:Nat)
|E0 (z:List D) (Xs:List (Nat×A))
|D5 (f:Nat) (first cap:List A)
|G1 (t:Nat) (x:A)
|G3 (t:Nat) (z:D) (x:A)
|GV (ty:KT) (e:Bool) (x y:A)
|GR (len sz:Nat) (ag:Bool) (x i:A)
def C.wp(g:Xb)(h:AB)(K:V->Prop):C->Prop
|.mv x=>K (x.ev g)
|.pick c a b=>IE K (c.ev g) (a.ev g) (b.ev g)
|.not x=>JU K (x.ev g)
|.neg x=>OF K (x.ev g)
|.GA x=>Kv K (x.ev g)
|.Bc s x y=>Hq s K (x.ev g) (y.ev g)
|.Cr e x=>Ud e K (x.ev g)
|.EG e x=>Np e K (x.ev g)
|.G4 x=>IS h K (x.ev g)
|.Gy k x=>JK k K (x.ev g)
|.Fl x i=>Kn K (x.ev g) (i.ev g)
|.DI z x i=>J0 h z K (x.ev g) (i.ev g)
|.B9 n z x i=>Il h n z K (x.ev g) (i.ev g)
|.BW f m x=>Vk h f m K (x.ev g)
|.IX f m n j x=>N9 f m n j K (x.ev g).BM
|.ld n j x=>D4 h n j K (x.ev g)
|.Cw x=>He K (x.ev g)
|.C2 x=>KH K (x.ev g)
|.CV x=>Hi h K (x.ev g)
|.CY x q o=>Ky (q.map (A.ev g)) (o.map (A.ev g)) K (x.ev g)
|.Ck z x q o=>Kx z (q.map (A.ev g)) (o.map (A.ev g)) K (x.ev g)
|.ext x i=>Km i K (x.ev g)
|.E0 z Xs=>Dz (z.map .d) (Xs.map λ(i,x)=>(i,x.ev g)) λr=>K (V.mk r)
|.D5 f first l=>K (Ms f (first.map (A.ev g)) (l.map (A.ev g)))
|.G1 t x=>K (JS t (x.ev g))
|.G3 t z x=>L1 t z K (x.ev g)
|.GV u e x y=>Ss u e K (x.ev g) (y.ev g)
|.GR p z j x i=>Nu p z j K (x.ev g) (i.ev g)
def Ik:List Operand->List A->Bool
|[],[]=>true
|x::r,y::s=>A.Aa x y&&Ik r s
|_,_=>false
def FU:Option Operand->Option A->Bool
|none,none=>true
|some x,some y=>A.Aa x y
|_,_=>false
def W1:List (Nat×Operand)->List (Nat×A)->Bool
|[],[]=>true
|(i,x)::r,(j,y)::s=>i==j&&A.Aa x y&&W1 r s
|_,_=>false
mutual
def D8:D->List Value->Bool
|.int k n,[.int d e]=>decide (k=d)&&n==e
|.bool b,[.bool a]=>b==a
|.AM s,[.string t]=>t.data.toList==s
|.AT,[.slice none n m]=>n==0&&m==0
|.Bo,[.nilIface]=>true
|.B1,[.pointer none]=>true
|.Bl,[.nilFunc]=>true
|.B0,[.map none]=>true
|.AF _ [],[.slice none n m]=>n==0&&m==0
|.agg f,c=>G7 f c
|_,_=>false
def G7:List D->List Value->Bool
|[],[]=>true
|x::r,a=>D8 x (a.take x.sz)&&G7 r (a.drop x.sz)
|_,_=>false
end
def F6(P:Program)(t:TypeId):Bool:=match P.underlying t with
|some (.struct _)|some (.array _ _)=>true
|_=>false
def Jt(P:Program)(s:TypeId)(f:Nat):Option Field:=match P.underlying s with
|some (.struct a)=>a[f]?
|_=>none
def X7(P:Program)(t:TypeId):Option Nat:=(P.info? t).map (·.size)
def U2(P:Program)(t:TypeId):Option (List Value):=((P.info? t).bind (·.zero)).map (·.cells.toList)
mutual
def KT.Aa(P:Program):KT->TypeId->Bool
|.int k,t=>match P.underlying t with|some (.int c)=>decide (c=k)|_=>false
|.bool,t=>match P.underlying t with|some .bool=>true|_=>false
|.AM,t=>match P.underlying t with|some .string=>true|_=>false
|.st b,t=>match P.underlying t with|some (.struct a)=>!P.stoodInHeld t&&KT.Dc P b a.toList 0|_=>false
|.ar n e,t=>match P.underlying t with|some (.array m u)=>n==m&&X7 P u==some e.cells&&e.Aa P u|_=>false
def KT.Dc(P:Program):List KT->List Field->Nat->Bool
|[],[],_=>true
|t::r,f::a,o=>f.name != "_" &&f.offset==o&&X7 P f.type==some t.cells&&t.Aa P f.type&&KT.Dc P r a (o+t.cells)
|_,_,_=>false
end
def C.Aa(P:Program)(p:Op):C->Bool
|.mv y=>match p with
 |.move x|.assign x=>A.Aa x y
 |_=>false
|.pick c a b=>match p with
 |.pick x y z=>A.Aa x c&&A.Aa y a&&A.Aa z b
 |_=>false
|.not y=>match p with
 |.unOp .not _ x=>A.Aa x y
 |_=>false
|.neg y=>match p with
 |.unOp .neg _ x=>A.Aa x y
 |_=>false
|.GA y=>match p with
 |.unOp .xor _ x=>A.Aa x y
 |_=>false
|.Bc o a b=>match p with
 |.binOp O _ x y _=>decide (o=O)&&A.Aa x a&&A.Aa y b
 |_=>false
|.Cr e a=>match p with
 |.binOp o t x y _=>decide (o=if e then .eql else .neq)&&(P.underlying t matches some (.interface _))&&A.Aa x a&&(y matches .const .nilIface)
 |_=>false
|.EG e a=>match p with
 |.binOp o t x y _=>decide (o=if e then .eql else .neq)&&(P.underlying t matches some (.func _ _ _))&&A.Aa x a&&(y matches .const .nilFunc)
 |_=>false
|.G4 y=>match p with
 |.call {callee:=.builtin .unsafeSliceData,args:=args,argTypes:=_}=>match args.toList with
  |[x]=>A.Aa x y
  |_=>false
 |_=>false
|.Gy k y=>match p with
 |.convert s t x=>(P.underlying s).isSome&&(match P.underlying t with|some (.int N)=>decide (k=N)|_=>false)&&A.Aa x y
 |_=>false
|.Fl a i=>match p with
 |.index t x j=>(P.underlying t matches some .string)&&A.Aa x a&&A.Aa j i
 |_=>false
|.DI z a i=>match p with
 |.indexAddr t x j=>(match P.underlying t with|some (.slice e)=>X7 P e==some z&&z != 0|_=>false)&&A.Aa x a&&A.Aa j i
 |_=>false
|.B9 n z a i=>match p with
 |.indexAddr t x j=>(match P.underlying t with|some (.array m e)=>n==m&&X7 P e==some z|_=>false)&&A.Aa x a&&A.Aa j i
 |_=>false
|.BW f H y=>match p with
 |.fieldAddr s x g=>f==g&&(match Jt P s f with|some q=>q.offset==H&&(match X7 P q.type with|some n=>n != 0|none=>false)|none=>false)&&A.Aa x y
 |_=>false
|.IX f H n r y=>match p with
 |.field s x g=>f==g&&(match Jt P s f with|some q=>q.offset==H&&X7 P q.type==some n&&(P.underlying q.type).isSome&&F6 P q.type==r|none=>false)&&A.Aa x y
 |_=>false
|.ld n r y=>match p with
 |.load t x=>X7 P t==some n&&(P.underlying t).isSome&&F6 P t==r&&A.Aa x y
 |_=>false
|.Cw y=>match p with
 |.nilCheck x=>A.Aa x y
 |_=>false
|.C2 y=>match p with
 |.call {callee:=.builtin .len,args:=args,argTypes:=L}=>match args.toList,L.toList with
  |[x],[t]=>(P.underlying t matches some .string)&&A.Aa x y
  |_,_=>false
 |_=>false
|.CV y=>match p with
 |.call {callee:=.builtin .len,args:=args,argTypes:=L}=>match args.toList,L.toList with
  |[x],[t]=>(P.underlying t matches some (.slice _))&&A.Aa x y
  |_,_=>false
 |_=>false
|.CY y K J=>match p with
 |.slice t x l h none=>(P.underlying t matches some .string)&&A.Aa x y&&FU l K&&FU h J
 |_=>false
|.Ck z y K J=>match p with
 |.slice t x l h none=>(match P.underlying t with|some (.slice e)=>X7 P e==some z|_=>false)&&A.Aa x y&&FU l K&&FU h J
 |_=>false
|.ext y i=>match p with
 |.extract x j=>i==j&&A.Aa x y
 |_=>false
|.E0 z Xs=>match p with
 |.build t Q=>W1 Q.toList Xs&&(match U2 P t with|some w=>G7 z w|none=>false)&&
  (match P.underlying t with
  |some (.struct F)=>F.toList.all (λq=>(X7 P q.type).isSome)&&F.toList.map (λq=>(q.offset,(X7 P q.type).getD 0))==(List.range z.length).map (λi=>(Cf (z.take i),(z.getD i default).sz))
  |some (.array _ e)=>(match X7 P e with|some n=>z.all (λx=>x.sz==n)|none=>false)
  |_=>false)
 |_=>false
|.D5 f first G=>match p with
 |.makeFunc (.func g) F w=>f==g&&Ik F.toList first&&Ik w.toList G
 |_=>false
|.G1 t y=>match p with
 |.makeInterface u x=>t==u&&(match P.underlying t with|some (.interface _)=>false|some _=>true|none=>false)&&A.Aa x y
 |_=>false
|.G3 t z y=>match p with
 |.typeAssert x _ u true=>t==u&&(match P.underlying t with|some (.interface _)=>false|some _=>true|none=>false)&&(match U2 P t with|some w=>D8 z w&&(((P.info? t).bind (·.zero)).map λv=>match v with|.agg _=>true|_=>false)==some (V.d z).isAgg|none=>false)&&A.Aa x y
 |_=>false
|.GV M e a b=>match p with
 |.binOp o t x y _=>decide (o=if e then .eql else .neq)&&M.Aa P t&&decide (M.depth<=10000)&&(match M with|.st _|.ar _ _=>true|_=>false)&&!P.eqGuardType P.depth t&&A.Aa x a&&A.Aa y b
 |_=>false
|.GR n z r a i=>match p with
 |.index t x j=>(match P.underlying t with|some (.array m e)=>n==m&&X7 P e==some z&&(P.underlying e).isSome&&F6 P e==r|_=>false)&&A.Aa x a&&A.Aa j i
 |_=>false
def UO(l:Bool)(P:Program)(a:Act)(w:World)(d:A0)(c:Op)(K:V->Prop):Prop:=
 ∃v x,K x/\x.An w d v/\∀(o:Oper),o.op=c->∀b,(l=true->Bv w b)->(execOp a.eval o).run P b=.ok (.value v) b
abbrev Ye:=UO false
section
variable {P:Program} {a:Act} {w:World} {ρ:A0} {sl:Xb} {objs:AB} {K:V->Prop}
def Xa{t:TypeId}{d:TypeDesc}(h:P.underlying t=some d)(b:World):(underlying t).run P b=.ok d b:=by
 simp[underlying,h]
def Xq{t:TypeId}{n:Nat}(h:X7 P t=some n)(c:World):(sizeOf t).run P c=.ok n c:=by
 unfold X7 at h;cases b:P.info? t with
 |none=>simp[b]at h
 |some i=>simp[b]at h;simp[sizeOf,typeInfo,b,h]
def T6{t:TypeId}(h:(P.underlying t).isSome=true)(c:World):(isAgg t).run P c=.ok (F6 P t) c:=by
 obtain⟨d,b⟩:=JE.1 h;simp only[isAgg,F6,Sem.run_bind,Xa b,Result.andThen_ok,b];cases d<;>simp
def Yds(e:SM w ρ sl a){x:A}{b:Op}(c:C.Aa P b (.mv x)=true)(h:K (x.ev sl)):Ye P a w ρ b K:=by
 cases b<;>simp[C.Aa]at c
 all_goals exact⟨_,_,h,A.Av e c,λo d f _=>by simp[execOp,d]⟩
def Xye(g:SM w ρ sl a){c x y:A}{i:Op}(k:C.Aa P i (.pick c x y)=true)(h:IE K (c.ev sl) (x.ev sl) (y.ev sl)):Ye P a w ρ i K:=by
 cases i<;>simp[C.Aa]at k;rename_i u v z;obtain⟨⟨n,p⟩,q⟩:=k;have j:=A.Av g n;have F:=A.Av g p;have G:=A.Av g q;generalize c.ev sl=H at *;generalize x.ev sl=l at *;generalize y.ev sl=m at *;have b:∀t:Bool,H=.d (.bool t)->(t=true->K l)->(t=false->K m)->Ye P a w ρ (.pick u v z) K:=by
  intro t e r s;subst e;rw[BI]at j;cases t with
  |true=>exact⟨_,l,r rfl,F,λo f J _=>by simp[execOp,f,j,asBool]⟩
  |false=>exact⟨_,m,s rfl,G,λo f J _=>by simp[execOp,f,j,asBool]⟩
 unfold IE at h;split at h
 next t L M=>refine b t rfl (λe=>?_) (λe=>?_)<;>subst e<;>simpa using h
 ·exact b _ rfl h.1 h.2
 ·cases h
def X70(i:SM w ρ sl a){x:A}{d:Op}(c:C.Aa P d (.not x)=true)(h:JU K (x.ev sl)):Ye P a w ρ d K:=by
 cases d<;>simp[C.Aa]at c;rename_i u t y;cases u<;>simp at c;have e:=A.Av i c;unfold JU at h;split at h
 next b f=>rw[f,BI]at e;exact⟨.bool (!b),_,h,BI.2 rfl,λo g j _=>by simp[execOp,g,e,Op.unary]⟩
 ·cases h
def X7z(g:SM w ρ sl a){x:A}{c:Op}(b:C.Aa P c (.neg x)=true)(h:OF K (x.ev sl)):Ye P a w ρ c K:=by
 cases c<;>simp[C.Aa]at b;rename_i u t y;cases u<;>simp at b;have d:=A.Av g b;unfold OF at h;split at h
 next k n e=>rw[e,X1]at d;exact⟨_,_,h,X1.2 rfl,λo f i _=>by simp[execOp,f,d,Op.unary,Op.intArith]⟩
 ·cases h
def X7r(g:SM w ρ sl a){x:A}{c:Op}(b:C.Aa P c (.GA x)=true)(h:Kv K (x.ev sl)):Ye P a w ρ c K:=by
 cases c<;>simp[C.Aa]at b;rename_i u t y;cases u<;>simp at b;have d:=A.Av g b;unfold Kv at h;split at h
 next k n e=>rw[e,X1]at d;exact⟨_,_,h,X1.2 rfl,λo f i _=>by simp[execOp,f,d,Op.unary,Op.intBits,Yu]⟩
 ·cases h
def Ur(b:BinOp)(t:TypeId)(x y:Operand)(k:IntKind)(n:Int)(v:Value)(c:World):(eqGuard b t x y (.int k n) v).run P c=.ok () c:=by
 cases b<;>simp[eqGuard]
def Jr(b:BinOp)(t:TypeId)(x y:Operand)(s:ByteArray)(v:Value)(c:World):(eqGuard b t x y (.string s) v).run P c=.ok () c:=by
 cases b<;>simp[eqGuard]
def uS(c:BinOp)(t:TypeId)(x y:Operand)(u:TypeId)(b v:Value)(d:World):(eqGuard c t x y (.iface u b) v).run P d=.ok () d:=by
 cases c<;>simp[eqGuard]
def UR(s:List UInt8):(ByteArray.mk s.toArray).size=s.length:=by
 show s.toArray.size=_;simp
def xv(l:List UInt8):ByteArray.toList ⟨l.toArray⟩=l:=by
 simp[ByteArray.toList_eq]
def X7p(l:SM w ρ sl a){c:BinOp}{x y:A}{i:Op}(j:C.Aa P i (.Bc c x y)=true)(h:Hq c K (x.ev sl) (y.ev sl)):Ye P a w ρ i K:=by
 cases i<;>simp[C.Aa]at j;rename_i s t H J z;obtain⟨⟨rfl,p⟩,q⟩:=j;have d:=A.Av l p;have e:=A.Av l q;generalize x.ev sl=F at *;generalize y.ev sl=G at *;unfold Hq at h;split at h
 ·rename_i k n r m;rw[X1]at d e;cases c<;>simp only[Ht]at h
  all_goals first
  |(obtain⟨rfl,h⟩:=h;first
   |exact⟨_,_,h,X1.2 rfl,λo b f _=>by simp[execOp,b,d,e,Ur,binOp,Op.intArith,Op.intBits,Yu]⟩
   |exact⟨_,_,h,BI.2 rfl,λo b f _=>by simp[execOp,b,d,e,Ur,binOp,Op.intCmp]⟩
   |(obtain⟨g,h⟩:=h;exact⟨_,_,h,X1.2 rfl,λo b f _=>by simp[execOp,b,d,e,Ur,binOp,Op.intDiv,g]⟩))
  |(obtain⟨g,h⟩:=h;exact⟨_,_,h,X1.2 rfl,λo b f _=>by simp[execOp,b,d,e,Ur,binOp,Op.shift,show ¬m<0 by omega]⟩)
 ·rename_i u v;rw[B7]at d e;cases c<;>simp only[Iz]at h
  all_goals first
  |exact⟨_,_,h,BI.2 rfl,λo b f _=>by simp[execOp,b,d,e,Jr,binOp,Op.stringOp,bne]⟩
  |(cases h;done)
  |skip
  obtain⟨g,h⟩:=h;refine⟨_,_,h,B7.2 rfl,λo b f _=>?_⟩;simp only[execOp,b,d,e,Jr,binOp,Sem.run_bind,Result.andThen_ok];rw[run_string_add_sum _ _ _ (by simpa[ByteArray.size]using g)];simp[ByteArray.mk_append_mk]
 ·cases h
def Yb8{t:TypeId}{e:Array (String×TypeId)}(c:P.underlying t=some (.interface e))(b:World):(Op.equal t .nilIface .nilIface).run P b=.ok true b:=by
 have:∀d,(Op.equalIn (d+1) t .nilIface .nilIface).run P b=.ok true b:=λd=>by simp[Op.equalIn,Xa c]
 exact this 9999
def zB{t:TypeId}{f:Array (String×TypeId)}(e:P.underlying t=some (.interface f))(u:TypeId)(c:Value)(b:World):(Op.equal t (.iface u c) .nilIface).run P b=.ok false b:=by
 have:∀d,(Op.equalIn (d+1) t (.iface u c) .nilIface).run P b=.ok false b:=λd=>by simp[Op.equalIn,Xa e]
 exact this 9999
def Xp4(b:BinOp)(t:TypeId)(x:Operand)(c:Value)(d:World):(eqGuard b t x (.const c) .nilIface .nilIface).run P d=.ok () d:=by
 cases b<;>simp[eqGuard]
def Xsj(s:SM w ρ sl a){e:Bool}{x:A}{k:Op}(l:C.Aa P k (.Cr e x)=true)(h:Ud e K (x.ev sl)):Ye P a w ρ k K:=by
 cases k<;>simp[C.Aa]at l;rename_i F t H z G;obtain⟨⟨⟨g,r⟩,p⟩,q⟩:=l;have b:=A.Av s p;obtain⟨m,j⟩:∃m,P.underlying t=some (.interface m):=by revert r;split<;>simp_all
 have y:z=.const .nilIface:=by revert q;split<;>simp_all
 subst y;have i:a.eval (.const .nilIface)=.nilIface:=rfl;unfold Ud at h;split at h
 next d=>rw[d,VE]at b;refine⟨_,_,h,BI.2 rfl,λo f n _=>?_⟩;subst g;cases e<;>simp[execOp,f,b,i,Xp4,binOp,Yb8 j]
 next u v d=>rw[d]at b;rw[Wf (by simp[V.isAgg]) (by simp)]at b;simp only[V.Ac,HY,GK]at b;obtain⟨c,b,_⟩:=b;refine⟨_,_,h,BI.2 rfl,λo f n _=>?_⟩;subst g;cases e<;>simp[execOp,f,b,i,uS,binOp,zB j]
 next u v d=>rw[d,Rt]at b;obtain⟨c,b,_⟩:=b;refine⟨_,_,h,BI.2 rfl,λo f n _=>?_⟩;subst g;cases e<;>simp[execOp,f,b,i,uS,binOp,zB j]
 ·cases h
def Yb6{t:TypeId}{e f:Array TypeId}{g:Bool}(c:P.underlying t=some (.func e f g))(b:World):(Op.equal t .nilFunc .nilFunc).run P b=.ok true b:=by
 have:∀d,(Op.equalIn (d+1) t .nilFunc .nilFunc).run P b=.ok true b:=λd=>by simp[Op.equalIn,Xa c]
 exact this 9999
def y9{t:TypeId}{g h:Array TypeId}{i:Bool}(e:P.underlying t=some (.func g h i))(f:Go.Fn)(a b:Array Value)(c:World):(Op.equal t (.func f a b) .nilFunc).run P c=.ok false c:=by
 have:∀d,(Op.equalIn (d+1) t (.func f a b) .nilFunc).run P c=.ok false c:=λd=>by simp[Op.equalIn,Xa e]
 exact this 9999
def Xxh(b:BinOp)(t:TypeId)(x y:Operand)(v:Value)(c:World):(eqGuard b t x y .nilFunc v).run P c=.ok () c:=by
 cases b<;>simp[eqGuard]
def vj(b:BinOp)(t:TypeId)(x y:Operand)(f:Go.Fn)(c d:Array Value)(v:Value)(e:World):(eqGuard b t x y (.func f c d) v).run P e=.ok () e:=by
 cases b<;>simp[eqGuard]
def Xx8(G:SM w ρ sl a){e:Bool}{x:A}{k:Op}(l:C.Aa P k (.EG e x)=true)(h:Np e K (x.ev sl)):Ye P a w ρ k K:=by
 cases k<;>simp[C.Aa]at l;rename_i L t N J M;obtain⟨⟨⟨g,F⟩,y⟩,z⟩:=l;have b:=A.Av G y;obtain⟨m,n,p,j⟩:∃m n p,P.underlying t=some (.func m n p):=by revert F;split<;>simp_all
 have H:J=.const .nilFunc:=by revert z;split<;>simp_all
 subst H;have i:a.eval (.const .nilFunc)=.nilFunc:=rfl;unfold Np at h;split at h
 next c=>rw[c,zU]at b;refine⟨_,_,h,BI.2 rfl,λo d q _=>?_⟩;subst g;cases e<;>simp[execOp,d,b,i,Xxh,binOp,Yb6 j]
 next f s r c=>rw[c,R4]at b;obtain⟨u,v,b,_⟩:=b;refine⟨_,_,h,BI.2 rfl,λo d q _=>?_⟩;subst g;cases e<;>simp[execOp,d,b,i,vj,binOp,y9 j]
 next f s r c=>rw[c,Me]at b;obtain⟨u,v,b,_⟩:=b;refine⟨_,_,h,BI.2 rfl,λo d q _=>?_⟩;subst g;cases e<;>simp[execOp,d,b,i,vj,binOp,y9 j]
 ·cases h
def X7s(p:SM w ρ sl a){k:IntKind}{x:A}{b:Op}(c:C.Aa P b (.Gy k x)=true)(h:JK k K (x.ev sl)):Ye P a w ρ b K:=by
 cases b<;>simp[C.Aa]at c;rename_i s t v;obtain⟨⟨g,j⟩,i⟩:=c;have e:=A.Av p i;obtain⟨d,l⟩:=JE.1 g;have q:P.underlying t=some (.int k):=by revert j;split<;>simp_all
 unfold JK at h;split at h
 next r n f=>rw[f,X1]at e;refine⟨_,_,h,X1.2 rfl,λo m u _=>?_⟩;simp[execOp,m,e,convert,Xa q,Xa l,Conv.intToInt]
 ·cases h
def X7w(f:SM w ρ sl a){x y:A}{d:Op}(e:C.Aa P d (.Fl x y)=true)(h:Kn K (x.ev sl) (y.ev sl)):Ye P a w ρ d K:=by
 cases d<;>simp[C.Aa]at e;rename_i t G H;obtain⟨⟨m,p⟩,q⟩:=e;have g:=A.Av f p;have i:=A.Av f q;have v:P.underlying t=some .string:=by revert m;split<;>simp_all
 unfold Kn at h;split at h
 ·rename_i s k n j l;rw[j,B7]at g;rw[l,X1]at i;obtain⟨⟨c,z⟩,h⟩:=h;refine⟨_,_,h,X1.2 rfl,λo u F _=>?_⟩;have b:n.toNat<s.length:=by omega
  have r:(ByteArray.mk s.toArray)[n.toNat]? = some s[n.toNat]:=by
   rw[getElem?_pos _ _ (by simpa[ByteArray.size]using b)];simp[ByteArray.getElem_eq_getElem_data]
  simp[execOp,u,g,i,Instr.index,asIntOf,Xa v,c,r,b]
 ·cases h
def Yjs(u:OM w ρ objs){id n i:Nat}{v:V}(h:W2 n i (AA objs id)=some v):
 ∃b c E g k e f,ρ.m id=some (.A9 b n c)/\w.heap[b]? = some (.cells (List.toArray (e++f)) E (0,0))/\Br w ρ k e/\(∀x∈k,x.size=g)/\(e++f).length=c*g/\n=k.length/\k[i]? = some v:=by
 unfold W2 at h;split at h
 ·rename_i E g t s;split at h
  ·rename_i j;rcases u.BU id _ s with⟨_,rfl⟩|⟨b,c,e,f,l,o,p,q,r⟩
   ·simp at h
   ·exact⟨b,c,E,g,t,e,f,by rw[j];exact l,o,p,q,r,j,h⟩
  ·cases h
 ·rename_i E g t s;split at h
  ·rename_i j;rcases u.BU id _ s with⟨_,rfl⟩|⟨b,c,e,f,l,o,p,q,r⟩
   ·simp at h
   ·refine⟨b,c,E,g,t.map .d,e,f,by rw[j];exact l,o,(JD _ _).2 p,?_,r,by simpa using j,h⟩;intro x z;obtain⟨y,F,rfl⟩:=C9.1 z;simp[V.size,V.shape,CC,q y F]
  ·cases h
 ·cases h
def X3{z:Nat}:∀(b:List V),(∀k∈b,k.size=z)->Sh.BR (b.map V.shape)=b.length*z
|[],_=>by simp[Sh.BR]
|x::r,h=>by
 have c:=h x (by simp);have d:=X3 r (λy e=>h y (by simp[e]));unfold V.size at c;simp[Sh.BR,c,d,Fz];omega
def vh(t:OM w ρ objs){id n i:Nat}{v:V}(h:W2 n i (AA objs id)=some v):
 ∃b c E d e f,ρ.m id=some (.A9 b n c)/\w.heap[b]? = some (.cells (List.toArray (d++(e++f))) E (0,0))/\d.length=i*v.size/\v.Ac w ρ e:=by
 obtain⟨b,c,E,k,H,J,G,q,r,s,j,L,M,g⟩:=Yjs t h;obtain⟨d,e,f,l,o,_,p,_⟩:=NV s g;have y:v.size=k:=j v (List.mem_of_getElem? g);have u:i<H.length:=(EK.1 g).1;refine⟨b,c,E,d,e,f++G,q,by rw[r,l];simp,?_,p⟩;rw[o,<-Ki,X3 (z:=k) _ (λx F=>j x (Fe F)),E9,Gi (by omega),y]
def MF(b:Sh):b.off []=0:=by cases b<;>simp[Sh.off]
def u4{id n z i f:Nat}{p:List Nat}{u:Value}(h:(V.ep id n z i f p).An w ρ u):∃a,u=.pointer (some a):=by
 rw[SQ]at h;obtain⟨o,_,h⟩:=h;cases o with
 |A9 b l c=>exact h.2.1
 |AY=>exact h
 |box b s=>cases h
 |map b=>cases h
 |B4=>cases h
def Yb5{id n z i g e:Nat}{p q:List Nat}{d:Addr}(h:(V.ep id n z i g p).An w ρ (.pointer (some d))):
 (V.ep id n z i (g+e) q).An w ρ (.pointer (some (d.add e))):=by
 rw[SQ]at h⊢;obtain⟨o,f,h⟩:=h;refine⟨o,f,?_⟩;cases o with
 |A9 k l c=>
  simp only[RO.elem]at h⊢;refine⟨h.1,⟨_,rfl⟩,λj=>?_⟩;have:=h.2.2 j;simp only[Value.pointer.injEq,Bu]at this⊢;subst this;rw[Addr.Be rfl];simp only[Addr.mk.injEq,GK,true_and];omega
 |AY=>exact⟨_,rfl⟩
 |box b s=>cases h
 |map b=>cases h
 |B4=>cases h
def Mb(i:OM w ρ objs){id:Nat}{p:List Nat}{v:V}(h:Cj objs id p=some v):
 ∃t b c E,AA objs id=some (.box E t)/\t.at p=some v/\ρ.m id=some (.box b t.shape)/\w.heap[b]? = some (.cells (List.toArray c) E (0,0))/\t.Ac w ρ c:=by
 unfold Cj at h;split at h
 next E t d=>obtain⟨b,c,e,f,g⟩:=i.BU id _ d;exact⟨t,b,c,E,d,h,e,f,g⟩
 ·simp at h
def Oq(s:Sh):∀(p:List Nat)(t:V)(v:V)(i:Nat),t.shape=s->t.at p=some v->s.off (p++[i])=s.off p+v.shape.off [i]
|[],t,v,i,e,h=>by
 simp only[V.at,Bu]at h;subst h;subst e;have:t.shape.off []=0:=by cases t.shape<;>simp[Sh.off]
 simp[this]
|j::p,t,v,i,e,h=>by
 simp only[V.at]at h;split at h
 ·rename_i f d;split at h
  ·rename_i k c;subst e;rw[Oo d];have b:(List.map V.shape f).getD j .AX=k.shape:=by simp[c]
   simp only[List.cons_append,Sh.off,b];rw[Oq _ p k v i rfl h];omega
  ·simp at h
 ·simp at h
def R8{v:V}{b:List V}(c:v.BM=some b)(i:Nat):v.shape.off [i]=Sh.BR ((b.take i).map V.shape):=by
 rw[Oo c];simp only[Sh.off,Ki];cases (List.map V.shape b).getD i .AX<;>simp[Sh.off]
def Xx9(hs:SM w ρ sl a)(hO:OM w ρ objs){z:Nat}{x y:A}{op:Op}(hc:C.Aa P op (.DI z x y)=true)(h:J0 objs z K (x.ev sl) (y.ev sl)):Ye P a w ρ op K:=by
 cases op<;>simp[C.Aa]at hc;rename_i t x1 y1;obtain⟨⟨h0,h1⟩,h2⟩:=hc;have c:=A.Av hs h1;have r:=A.Av hs h2;obtain⟨e,Z,W,aa⟩:∃e,P.underlying t=some (.slice e)/\X7 P e=some z/\z≠0:=by
  revert h0;split<;>simp_all
 unfold J0 at h;split at h
 ·rename_i sz xs k n u F;rw[u,Yq]at c;rw[F,X1]at r;obtain⟨rfl,⟨d,L⟩,h⟩:=h;have g:n.toNat<xs.length:=by omega
  rcases c with⟨O,_⟩|⟨R,s,vs,c,_,J,N,hu⟩
  ·subst O;simp at g
  ·have Y:R.spot=none:=by
    refine(J.1 λhv=>?_).1;have:=Gf _ _ N;rw[hv,EO _ hu]at this;simp only[List.length_nil]at this;have h5:0<xs.length*z:=Nat.mul_pos (by omega) (Na aa);omega
   refine⟨_,_,h,LQ.2 ⟨⟨R.block,R.off+n.toNat*z,none⟩,_,rfl,rfl,J.sub (n.toNat*z) z,?_⟩,λo M w' _=>?_⟩
   ·have H:=Tg N g;have U:Cf (xs.take n.toNat)=n.toNat*z:=by
     rw[EO (sz:=z) _ (λx O=>hu x (Fe O))];rw[E9,Gi (by omega)]
    rw[U,hu _ (CS g)]at H;simpa[g]using H
   ·simp[execOp,M,c,r,Instr.indexAt,asIntOf,Xa Z,d,L,Xq W,Addr.Be Y]
 ·rename_i id n k m u F;rw[u,Yj]at c;rw[F,X1]at r;obtain⟨⟨d,L⟩,h⟩:=h;cases l:W2 n m.toNat (AA objs id) with
  |none=>simp only[l,Mn,false_and]at h
  |some v=>
   simp only[l,Mn]at h;obtain⟨hz,h⟩:=h;obtain⟨b,s,E,c1,c2,c3,T,g2,G,g4⟩:=vh hO l;obtain⟨o,q1,q2⟩:=c;rw[T]at q1;simp only[Bu]at q1;subst q1;have c:=q2.2.2 rfl;refine⟨.pointer (some ⟨b,m.toNat*z,none⟩),_,h,SQ.2 ⟨_,T,?_⟩,λo M w' _=>?_⟩
   ·refine⟨BV _,⟨_,rfl⟩,λ_=>?_⟩;rfl
   ·simp[execOp,M,c,r,Instr.indexAt,asIntOf,Xa Z,d,L,Xq W,Addr.Be]
 ·rename_i id p lo n k m u F;rw[u,SP]at c;rw[F,X1]at r;obtain⟨⟨d,L⟩,⟨ks,X,hl,hz⟩,h⟩:=h;cases j:Cj objs id p with
  |none=>simp[j,Y4]at X
  |some v=>
   simp only[j,Y4]at X;obtain⟨t0,b',cs,E,T,g2,G,g4,g5⟩:=Mb hO j;rcases c with⟨b,sh,s,f,Q,⟨ab,q⟩,c⟩|⟨hg,_⟩
   ·have q:=q (by omega);subst q;rw[Q]at G;simp only[Bu,RO.box.injEq]at G;obtain⟨rfl,rfl⟩:=G;refine⟨_,_,h,Jd Q,λo M w' _=>?_⟩;have H:∀i,i<=ks.length->t0.shape.off (p++[i])=t0.shape.off p+i*z:=λi hi=>by
     rw[Oq _ p t0 v i rfl g2,R8 X,X3 (z:=z) _ (λx O=>hz x (Fe O)),E9,Gi hi]
    have U:=H lo (by omega);have h5:=H (lo+m.toNat) (by omega);simp[execOp,M,c,r,Instr.indexAt,asIntOf,Xa Z,d,L,Xq W,Addr.Be,U,h5,Fz,Kg]
   ·rw[G]at hg;cases hg
 ·cases h
def vy(U:SM w ρ sl a)(i:OM w ρ objs){n z:Nat}{x y:A}{op:Op}(R:C.Aa P op (.B9 n z x y)=true)(h:Il objs n z K (x.ev sl) (y.ev sl)):Ye P a w ρ op K:=by
 cases op<;>simp[C.Aa]at R;rename_i t x1 y1;obtain⟨⟨h0,h1⟩,h2⟩:=R;have c:=A.Av U h1;have s:=A.Av U h2;obtain⟨e,W,T⟩:∃e,P.underlying t=some (.array n e)/\X7 P e=some z:=by
  revert h0;split<;>simp_all
 unfold Il at h;split at h
 ·rename_i id p k m u F;rw[u]at c;rw[F,X1]at s;obtain⟨⟨g,M⟩,⟨ks,J,hl,r⟩,h⟩:=h;cases d:Cj objs id p with
  |none=>simp[d,Y4]at J
  |some v=>
   simp only[d,Y4]at J;obtain⟨O,b',cs,E,Y,Z,G,g4,g5⟩:=Mb i d;obtain⟨b,sh,l,c⟩:=Bh i Y c;rw[l]at G;simp only[Bu,RO.box.injEq]at G;obtain⟨rfl,rfl⟩:=G;refine⟨_,_,h,Jd l,λo i w' _=>?_⟩;have q:O.shape.off (p++[m.toNat])=O.shape.off p+m.toNat*z:=by
    rw[Oq _ p O v m.toNat rfl Z,R8 J,X3 (z:=z) _ (λk L=>r k (Fe L)),E9,Gi (by omega)]
   simp[execOp,i,c,s,Instr.indexAt,asIntOf,Xa W,g,M,Xq T,Instr.sureAddr,Addr.Be,q]
 ·rename_i X k m u F;rw[u,LQ]at c;rw[F,X1]at s;obtain⟨⟨g,M⟩,hl,r,h⟩:=h;obtain⟨Q,vs,c,N,H,j⟩:=c;simp only[D.An]at j;have f:m.toNat<X.length:=by omega
  refine⟨_,_,h,LQ.2 ⟨⟨Q.block,Q.off+m.toNat*z,none⟩,_,rfl,rfl,H.sub (m.toNat*z) z,?_⟩,λo i w' _=>?_⟩
  ·have q:=Tg j f;have h4:Cf (X.take m.toNat)=m.toNat*z:=by
    rw[EO (sz:=z) _ (λx hx=>r x (Fe hx)),E9,Gi (by omega)]
   rw[h4,r _ (CS f)]at q;simpa[f]using q
  ·simp[execOp,i,c,s,Instr.indexAt,asIntOf,Xa W,g,M,Xq T,Instr.sureAddr,Addr.Be N]
 ·cases h
def vx(hs:SM w ρ sl a)(k:OM w ρ objs){f fo:Nat}{x:A}{op:Op}(X:C.Aa P op (.BW f fo x)=true)(h:Vk objs f fo K (x.ev sl)):Ye P a w ρ op K:=by
 cases op<;>simp[C.Aa]at X;rename_i t x1 g;obtain⟨⟨rfl,F⟩,h1⟩:=X;have c:=A.Av hs h1;obtain⟨d,n,Y,r,T,q⟩:∃d n,Jt P t f=some d/\d.offset=fo/\X7 P d.type=some n/\n≠0:=by
  cases N:Jt P t f with
  |none=>simp[N]at F
  |some d=>
   cases j:X7 P d.type with
   |none=>simp[N,j]at F
   |some n=>simp[N,j]at F;exact⟨d,n,rfl,F.1,j,F.2⟩
 obtain⟨L,s,l⟩:∃L,P.underlying t=some (.struct L)/\L[f]? = some d:=by
  unfold Jt at Y;revert Y;split<;>simp_all
 unfold Vk at h;split at h
 ·rename_i id p y;rw[y]at c;cases e:Cj objs id p with
  |none=>simp[e,Y4,Qr]at h
  |some v=>
   cases Q:v.BM with
   |none=>simp[e,Y4,Qr,Q]at h
   |some ks=>
    simp only[e,Y4,Qr,Q]at h;obtain⟨R,u,h⟩:=h;obtain⟨W,b',cs,E,g1,g2,M,g4,g5⟩:=Mb k e;obtain⟨b,sh,H,c⟩:=Bh k g1 c;rw[H]at M;simp only[Bu,RO.box.injEq]at M;obtain⟨rfl,rfl⟩:=M;refine⟨_,_,h,Jd H,λo k w' _=>?_⟩;have j:W.shape.off (p++[f])=W.shape.off p+d.offset:=by
     rw[Oq _ p W v f rfl g2,R8 Q,u,r]
    simp[execOp,k,c,Instr.fieldAt,Xa s,l,Instr.sureAddr,fieldPlace,Xq T,q,Addr.Be,j]
 ·rename_i xs y;rw[y,LQ]at c;obtain⟨J,vs,c,U,O,G⟩:=c;obtain⟨R,u,h⟩:=h;simp only[D.An]at G;refine⟨_,_,h,LQ.2 ⟨⟨J.block,J.off+fo,none⟩,_,rfl,rfl,O.sub fo xs[f].sz,?_⟩,λo k w' _=>?_⟩
  ·have j:=Tg G R;rw[u]at j;simpa[R]using j
  ·simp[execOp,k,c,Instr.fieldAt,Xa s,l,Instr.sureAddr,fieldPlace,Xq T,q,Addr.Be U,r]
 next id m z i g p y=>rw[y]at c;obtain⟨J,Z⟩:=u4 c;rw[Z]at c;refine⟨_,_,h,Yb5 c,λo k w' _=>?_⟩;simp[execOp,k,Z,Instr.fieldAt,Xa s,l,Instr.sureAddr,fieldPlace,Xq T,q,r]
 ·cases h
def Xyd(t:SM w ρ sl a){x:A}{l:Op}(m:C.Aa P l (.Cw x)=true)(h:He K (x.ev sl)):Ye P a w ρ l K:=by
 cases l<;>simp[C.Aa]at m;have d:=A.Av t m;unfold He at h;split at h
 next id p e=>rw[e]at d;obtain⟨_,c⟩:=uk d;exact⟨_,_,h,d,λo j k _=>by simp[execOp,j,c]⟩
 next id n z i g p e=>rw[e]at d;obtain⟨_,c⟩:=u4 d;exact⟨_,_,h,d,λo j k _=>by simp[execOp,j,c]⟩
 next y e=>rw[e]at d;have c:=d;rw[LQ]at c;obtain⟨b,q,c,_⟩:=c;exact⟨_,_,h,d,λo j k _=>by simp[execOp,j,c]⟩
 next f s r e=>rw[e]at d;have c:=d;rw[Me]at c;obtain⟨b,q,c,_⟩:=c;exact⟨_,_,h,d,λo j k _=>by simp[execOp,j,c]⟩
 next f s r e=>rw[e]at d;have c:=d;rw[R4]at c;obtain⟨b,q,c,_⟩:=c;exact⟨_,_,h,d,λo j k _=>by simp[execOp,j,c]⟩
 ·cases h
def Xyc(u:SM w ρ sl a){x:A}{f:Op}(d:C.Aa P f (.C2 x)=true)(h:KH K (x.ev sl)):Ye P a w ρ f K:=by
 cases f<;>simp only[C.Aa,BF]at d;rename_i c;obtain⟨i,e,z⟩:=c;cases i<;>(try simp only[BF]at d);rename_i b;cases b<;>(try simp only[BF]at d);split at d
 ·rename_i y t j k;simp only[As]at d;obtain⟨p,q⟩:=d;have v:P.underlying t=some .string:=by revert p;split<;>simp_all
  have g:=A.Av u q;have m:e=#[y]:=by simpa using CK List.toArray j
  have n:z=#[t]:=by simpa using CK List.toArray k
  subst m n;unfold KH at h;split at h
  next s l=>rw[l,B7]at g;refine⟨_,_,h,X1.2 rfl,λo r F _=>?_⟩;simp[execOp,r,resolve,invoke,builtin,Builtin.len_,g,Xa v,goInt,UR]
  ·cases h
 ·simp at d
def Xyb(hs:SM w ρ sl a)(v:OM w ρ objs){x:A}{G:Op}(q:C.Aa P G (.CV x)=true)(h:Hi objs K (x.ev sl)):Ye P a w ρ G K:=by
 cases G<;>simp only[C.Aa,BF]at q;rename_i c;obtain⟨L,args,ts⟩:=c;cases L<;>(try simp only[BF]at q);rename_i b;cases b<;>(try simp only[BF]at q);split at q
 ·rename_i y t M N;simp only[As]at q;obtain⟨T,U⟩:=q;obtain⟨e,ht⟩:∃e,P.underlying t=some (.slice e):=by revert T;split<;>simp_all
  have g:=A.Av hs U;have Q:args=#[y]:=by simpa using CK List.toArray M
  have R:ts=#[t]:=by simpa using CK List.toArray N
  subst Q R;have k:∀(u:Option Addr)(n c:Nat),a.eval y=.slice u n c->K (.d (.int .i64 n))->Ye P a w ρ (.call {callee:=.builtin .len,args:=#[y],argTypes:=#[t] }) K:=by
   intro u n c O W;refine⟨_,_,W,X1.2 rfl,λo Z w' _=>?_⟩;simp[execOp,Z,resolve,invoke,builtin,Builtin.len_,O,Xa ht,goInt]
  unfold Hi at h;split at h
  ·rename_i sz J l;rw[l,Yq]at g;rcases g with⟨rfl,g⟩|⟨u,j,vs,g,_⟩
   ·exact k _ _ _ g h
   ·exact k _ _ _ g h
  next l=>rw[l,W6]at g;exact k _ _ _ g h
  ·rename_i id p lo n l;rw[l,SP]at g;obtain⟨⟨E,t0,r⟩,h⟩:=h;rcases g with⟨b,sh,j,f,_,_,g⟩|⟨Y,_⟩
   ·exact k _ _ _ g h
   ·obtain⟨b,H,i,_⟩:=v.BU id _ r;rw[Y]at i;cases i
  ·rename_i id n l;rw[l,Yj]at g;obtain⟨X,h⟩:=h;obtain⟨o,s,g⟩:=g;have i:ρ.m id=some .B4\/∃b j,ρ.m id=some (.A9 b n j):=by
    rcases X with⟨E,z,J,r,F⟩|⟨E,z,J,r,F⟩
    ·rcases v.BU id _ r with⟨i,_⟩|⟨b,j,H,sp,i,_⟩
     ·exact .inl i
     ·exact .inr ⟨b,j,by rw[F];exact i⟩
    ·rcases v.BU id _ r with⟨i,_⟩|⟨b,j,H,sp,i,_⟩
     ·exact .inl i
     ·exact .inr ⟨b,j,by rw[F];exact i⟩
   rcases i with i|⟨b,j,i⟩
   ·rw[s]at i;simp only[Bu]at i;subst i;simp only[RO.slice]at g;obtain⟨rfl,g⟩:=g;exact k _ _ _ g h
   ·rw[s]at i;simp only[Bu]at i;subst i;simp only[RO.slice]at g;exact k _ _ _ (g.2.2 trivial) h
  ·cases h
 ·simp at q
def X7u(t:SM w ρ sl a){x:A}{i:Nat}{j:Op}(k:C.Aa P j (.ext x i)=true)(h:Km i K (x.ev sl)):Ye P a w ρ j K:=by
 cases j<;>simp[C.Aa]at k;obtain⟨rfl,m⟩:=k;have d:=A.Av t m;unfold Km at h;split at h
 ·rename_i b l;rw[l,CJ]at d;obtain⟨c,d,n⟩:=d;obtain⟨q,h⟩:=h;have g:∀(b:List V)(c:List Value)(i:Nat),V.A1 w ρ b c->i<b.length->∃u,c[i]? = some u/\(b.getD i .any).An w ρ u:=by
   intro b;induction b with
   |nil=>intro c i _ h;simp at h
   |cons x r v=>
    intro c i h p;simp only[V.A1]at h;obtain⟨u,y,rfl,e,f⟩:=h;cases i with
    |zero=>exact⟨u,rfl,e⟩
    |succ i=>simpa using v y i f (by simpa using p)
  obtain⟨u,e,f⟩:=g b c i n q;refine⟨u,_,h,f,λo s z _=>?_⟩;simp[execOp,s,d,Instr.extract,e]
 ·cases h
def Zb(b:SM w ρ sl a):∀{c:List Operand}{d:List A},Ik c d=true->V.A1 w ρ (d.map (A.ev sl)) (c.map a.eval)
|[],[],_=>by simp[V.A1]
|x::r,y::s,h=>by
 simp only[Ik,As]at h;simp only[Cg,V.A1];exact⟨_,_,rfl,A.Av b h.1,Zb b h.2⟩
|[],_::_,h=>by simp[Ik]at h
|_::_,[],h=>by simp[Ik]at h
def X7y(m:SM w ρ sl a){t:Nat}{x:A}{b:Op}(e:C.Aa P b (.G1 t x)=true)(h:K (JS t (x.ev sl))):Ye P a w ρ b K:=by
 cases b<;>simp[C.Aa]at e;rename_i q p;obtain⟨⟨rfl,g⟩,i⟩:=e;obtain⟨d,j,k⟩:∃d,P.underlying t=some d/\∀n,d≠.interface n:=by
  revert g;split<;>simp_all
 have c:=A.Av m i;refine⟨.iface t (a.eval p),_,h,?_,λo l r _=>?_⟩
 ·unfold JS;split
  next y f=>rw[f]at c;exact Rt.2 ⟨_,rfl,c⟩
  ·rw[Wf (by simp[V.isAgg]) (by simp)];simp only[V.Ac];exact⟨_,rfl,c⟩
 ·simp only[execOp,l,Instr.makeInterface,Sem.run_bind,Xa j,Result.andThen_ok];cases d<;>simp_all
def Y9{c d:Type}(f:c->d)(b:Array c):b.map f=(b.toList.map f).toArray:=by apply Array.ext';simp
def X7x(n:SM w ρ sl a){f:Nat}{first b:List A}{i:Op}(e:C.Aa P i (.D5 f first b)=true)(h:K (Ms f (first.map (A.ev sl)) (b.map (A.ev sl)))):Ye P a w ρ i K:=by
 cases i<;>simp only[C.Aa,BF]at e;rename_i g d c;cases g<;>simp at e;obtain⟨⟨rfl,r⟩,s⟩:=e;refine⟨.func (.func f) (d.map a.eval) (c.map a.eval),_,h,?_,λo t u _=>?_⟩
 ·have j:=Zb n r;have k:=Zb n s;unfold Ms Lt;split
  next l m p q=>rw[V.Bi p]at j;rw[V.Bi q]at k;rw[R4];exact⟨d.toList.map a.eval,c.toList.map a.eval,by rw[Y9,Y9],j,k⟩
  ·rw[Me];exact⟨d.toList.map a.eval,c.toList.map a.eval,by rw[Y9,Y9],j,k⟩
 ·simp[execOp,t,Instr.makeFunc]
def Xvi{t:TypeId}{n:Nat}(o:X7 P t=some n)(p:(P.underlying t).isSome=true){b off:Nat}{cs:List Value}(d:cs.length=n)
 {w':World} (g:∀i (h:i<cs.length),w'.cell? ⟨b,off+i,none⟩=some cs[i]) (k:F6 P t=false->n=1):
 (Instr.loadAt t (.pointer (some ⟨b,off,none⟩))).run P w'=.ok (if F6 P t then .agg cs.toArray else cs.headD undef) w':=by
 simp only[Instr.loadAt,Instr.sureAddr,loadVar,Sem.run_bind,Sem.run_pure,Result.andThen_ok,T6 p];cases e:F6 P t with
 |true=>
  have:=run_loadCells_list (P:=P) (w:=w') ⟨b,off,none⟩ cs (λj v m=>by
   obtain⟨d,q⟩:=EK.1 m;rw[Addr.Be rfl,<-q];exact g j d)
  simp only[Sem.run_bind,Xq o,Result.andThen_ok,<-d,this,Cz,Sem.run_pure]
 |false=>
  have l:=k e;rw[l]at d;obtain⟨c,rfl⟩:=LH.1 d;have f:=g 0 (by simp);simp only[Nat.add_zero,List.getElem_cons_zero]at f;simp[f]
def Vy{v:V}(h:v.isAgg=false):v.size=1:=by
 cases v with
 |d x=>cases x<;>simp_all[V.isAgg,V.size,V.shape,D.shape,Sh.size]
 |agg b=>simp[V.isAgg]at h
 |_=>simp[V.size,V.shape,Sh.size]
def X7v(hs:SM w ρ sl a){f l n:Nat}{i:Bool}{x:A}{G:Op}(Q:C.Aa P G (.IX f l n i x)=true)(h:N9 f l n i K (x.ev sl).BM):Ye P a w ρ G K:=by
 cases G<;>simp[C.Aa]at Q;rename_i t x1 g;obtain⟨⟨rfl,e⟩,X⟩:=Q;have k:=A.Av hs X;obtain⟨b,R,s,hn,hu,p⟩:∃b,Jt P t f=some b/\b.offset=l/\X7 P b.type=some n/\(P.underlying b.type).isSome=true/\F6 P b.type=i:=by
  cases j:Jt P t f with
  |none=>simp[j]at e
  |some b=>simp[j]at e;exact⟨b,rfl,e.1.1.1,e.1.1.2,e.1.2,e.2⟩
 obtain⟨m,y,q⟩:∃m,P.underlying t=some (.struct m)/\m[f]? = some b:=by
  unfold Jt at R;revert R;split<;>simp_all
 cases r:(x.ev sl).BM with
 |none=>simp[r,N9]at h
 |some F=>
  simp only[r,N9]at h;obtain⟨Z,z,j,M,h⟩:=h;rw[zT r]at k;obtain⟨H,k,u⟩:=k;have Y:F[f]? = some (F.getD f .any):=by simp[Z]
  obtain⟨T,U,c3,J,W,_,N,_⟩:=NV u Y;generalize F.getD f .any=v at *;have d:=E7 _ _ N;refine⟨_,v,h,Qz N,λo ho w' _=>?_⟩;have L:T.length=b.offset:=by rw[W,s,<-z,Ki]
  have hx:H.toArray.extract b.offset (b.offset+n)=U.toArray:=by
   rw[J,<-L,<-j];unfold V.size;rw[<-d];simp
  simp only[execOp,ho,Instr.field,Xa y,q,part,asAgg,k,Sem.run_bind,Sem.run_pure,Result.andThen_ok,T6 hu,p,M];cases i with
  |true=>simp only[Cz,Sem.run_bind,Xq hn,Result.andThen_ok,Sem.run_pure,hx]
  |false=>
   have O:=Vy M;unfold V.size at O;rw[O]at d;obtain⟨c,rfl⟩:=LH.1 d;have:H.toArray[b.offset]? = some c:=by rw[J,<-L];simp
   simp[this]
def Rx(hs:SM w ρ sl a)(Z:OM w ρ objs){n:Nat}{ag:Bool}{x:A}{op:Op}(hc:C.Aa P op (.ld n ag x)=true)(h:D4 objs n ag K (x.ev sl)):UO true P a w ρ op K:=by
 cases op<;>simp[C.Aa]at hc;rename_i t x1;obtain⟨⟨⟨hn,hu⟩,M⟩,h1⟩:=hc;have g:=A.Av hs h1;have G:∀(b off:Nat)(cs:List Value)(v:V),a.eval x1=.pointer (some ⟨b,off,none⟩)->(cs≠[]->b<w.heap.size)->(∀i (h:i<cs.length),w.cell? ⟨b,off+i,none⟩=some cs[i])->
  v.Ac w ρ cs->v.size=n->v.isAgg=ag->K v->UO true P a w ρ (.load t x1) K:=by
  intro b off cs v r hb s l q j hK;have hl:=E7 _ _ l;refine⟨_,v,hK,Qz l,λo ho w' he=>?_⟩;have:=Xvi (P:=P) (t:=t) (n:=n) hn hu (b:=b) (off:=off) (cs:=cs) (by rw[hl,<-q];rfl) (w':=w') (λi F=>by
   rw[cell?_congr ((he rfl).keep b (hb (by intro e;subst e;simp at F)))];exact s i F) (λH=>by rw[M]at H;rw[H]at j;rw[<-q];exact Vy j)
  simp only[execOp,ho,r,Sem.run_bind,this,Result.andThen_ok,Sem.run_pure,M,j]
 unfold D4 at h;split at h
 ·rename_i id p r;rw[r]at g;cases c:Cj objs id p with
  |none=>simp[c,F4]at h
  |some v=>
   simp only[c,F4]at h;obtain⟨q,j,h⟩:=h;obtain⟨t0,b',cs,E,Y,R,L,T,g5⟩:=Mb Z c;obtain⟨b,sh,ab,g⟩:=Bh Z Y g;rw[ab]at L;simp only[Bu,RO.box.injEq]at L;obtain⟨rfl,rfl⟩:=L;obtain⟨Q,U,c3,W,X,H⟩:=JC p t0 v cs g5 R;refine G b _ U v g (λ_=>Xi T) (λi F=>?_) H q j h;rw[<-X];simp[World.cell?,T,W,JH,F]
 next y r=>rw[r,LQ]at g;obtain⟨ad,vs,g,O,s,l⟩:=g;obtain⟨q,j,h⟩:=h;obtain⟨b,off,sp⟩:=ad;obtain⟨hb,u⟩:=s;simp only at O;subst O;exact G b off vs (.d y) g (λaa=>(hb aa).2.2) u (by simpa[V.Ac]using l) (by simp[V.size,V.shape,CC,q]) j h
 ·rename_i id m z i_ f p r;rw[r]at g;cases k:W2 m i_ (AA objs id) with
  |none=>simp[FW,k,GN,F4]at h
  |some v0=>
   cases c:GN z f p (some v0) with
   |none=>simp[FW,k,c,F4]at h
   |some v=>
    simp only[FW,k,c,F4]at h;obtain⟨q,j,h⟩:=h;simp only[GN]at c;split at c
    ·rename_i N;obtain⟨b,ac,E,Q,U,c3,Y,R,L,T⟩:=vh Z k;obtain⟨J,d2,d3,W,X,H⟩:=JC p v0 v U T c;rw[SQ]at g;obtain⟨o,q1,q2⟩:=g;rw[Y]at q1;simp only[Bu]at q1;subst q1;have g:=q2.2.2 rfl;refine G b _ d2 v g (λ_=>Xi R) (λi F=>?_) H q j h;have e5:i_*z+f+i=Q.length+(J.length+i):=by rw[N.1,N.2,L,X];omega
     subst W;rw[e5];simp[World.cell?,R];rw[QS (by omega),show Q.length+(J.length+i)-Q.length=J.length+i by omega,QS (by omega),show J.length+i-J.length=i by omega,O1 F,Cn F]
    ·cases c
 ·cases h
def Q3(J:SM w ρ sl a){c cap:Nat}{isS:Bool}{u r:Option Operand}{g b:Option A}{K:Nat->Nat->Prop}(v:c<=cap)
 (q:FU u g=true) (i:FU r b=true) (h:Jn c K (g.map (A.ev sl)) (b.map (A.ev sl))):
 ∃l h,K l h/\l<=h/\h<=c/\∀o,(Instr.sliceBounds isS c cap (u.map a.eval) (r.map a.eval) none).run P o=.ok (l,h,cap) o:=by
 have f:∀{x:Operand}{y:A},A.Aa x y=true->∀{k n},y.ev sl=.d (.int k n)->a.eval x=.int k n:=λ{x y} H {k n} e=>by
  have:=A.Av J H;rw[e,X1]at this;exact this
 cases u with
 |none=>
  cases g with
  |some _=>simp[FU]at q
  |none=>
   cases r with
   |none=>
    cases b with
    |some _=>simp[FU]at i
    |none=>
     simp only[Option.map_none,Jn]at h;exact⟨0,c,h,DM _,BV _,λo=>by simp[Instr.sliceBounds]⟩
   |some L=>
    cases b with
    |none=>simp[FU]at i
    |some s=>
     simp only[FU]at i;simp only[Option.map_none,Option.map_some]at h;cases e:s.ev sl with
     |d x=>
      cases x with
      |int k n=>
       simp only[e,Jn]at h;obtain⟨⟨p,t⟩,h⟩:=h;refine⟨0,n.toNat,h,DM _,by omega,λo=>?_⟩;have:n<=(cap:Int):=by omega
       simp[Instr.sliceBounds,Instr.sliceBound,f i e,asIntOf,p,this]
      |_=>simp[e,Jn]at h
     |_=>simp[e,Jn]at h
 |some Q=>
  cases g with
  |none=>simp[FU]at q
  |some z=>
   simp only[FU]at q;simp only[Option.map_some]at h;cases j:z.ev sl with
   |d x=>
    cases x with
    |int k n=>
     cases r with
     |none=>
      cases b with
      |some _=>simp[FU]at i
      |none=>
       simp only[Option.map_none,j,Jn]at h;obtain⟨⟨p,t⟩,h⟩:=h;refine⟨n.toNat,c,h,by omega,BV _,λo=>?_⟩;simp[Instr.sliceBounds,Instr.sliceBound,f q j,asIntOf,p,t]
     |some L=>
      cases b with
      |none=>simp[FU]at i
      |some s=>
       simp only[FU]at i;simp only[Option.map_some,j]at h;cases e:s.ev sl with
       |d x=>
        cases x with
        |int O m=>
         simp only[e,Jn]at h;obtain⟨⟨p,t⟩,⟨F,G⟩,h⟩:=h;refine⟨n.toNat,m.toNat,h,by omega,by omega,λo=>?_⟩;have M:m<=(cap:Int):=by omega
         have R:n<=((m.toNat:Nat):Int):=by omega
         have N:(max m 0:Int)=m:=by omega
         simp[Instr.sliceBounds,Instr.sliceBound,f q j,f i e,asIntOf,p,F,M,N,G]
        |_=>simp[e,Jn]at h
       |_=>simp[e,Jn]at h
    |_=>simp[j,Jn]at h
   |_=>simp[j,Jn]at h
def Xyg(g:SM w ρ sl a){x:A}{i f:Option A}{e:Op}(b:C.Aa P e (.CY x i f)=true)(h:Ky (i.map (A.ev sl)) (f.map (A.ev sl)) K (x.ev sl)):Ye P a w ρ e K:=by
 cases e<;>simp only[C.Aa,BF]at b;rename_i t L H G v;cases v<;>simp only[BF]at b;simp only[As]at b;obtain⟨⟨⟨m,u⟩,d⟩,c⟩:=b;have j:=A.Av g u;have r:P.underlying t=some .string:=by revert m;split<;>simp_all
 unfold Ky at h;split at h
 next s k=>rw[k,B7]at j;obtain⟨l,F,n,y,z,q⟩:=Q3 (P:=P) (cap:=s.length) (isS:=false) g (BV _) d c h;refine⟨_,_,n,B7.2 rfl,λo p J _=>?_⟩;simp only[execOp,p,Instr.sliceAt,Instr.slice,j,Sem.run_bind,Xa r,Result.andThen_ok,Option.map_none,Option.isSome_none,BF,Ci,UR,q,Sem.run_pure];congr 3;apply ByteArray.ext;simp[ByteArray.data_extract,List.extract_eq_take_drop,QT]
 ·cases h
def Xyf(J:SM w ρ sl a){z:Nat}{x:A}{Q N:Option A}{M:Op}(q:C.Aa P M (.Ck z x Q N)=true)(h:Kx z (Q.map (A.ev sl)) (N.map (A.ev sl)) K (x.ev sl)):Ye P a w ρ M K:=by
 cases M<;>simp only[C.Aa,BF]at q;rename_i t x1 l1 h1 Z;cases Z<;>simp only[BF]at q;simp only[As]at q;obtain⟨⟨⟨X,Y⟩,k⟩,j⟩:=q;have f:=A.Av J Y;obtain⟨e,L,G⟩:∃e,P.underlying t=some (.slice e)/\X7 P e=some z:=by
  revert X;split<;>simp_all
 unfold Kx at h;split at h
 ·rename_i T g W;rw[W,Yq]at f;obtain⟨rfl,h⟩:=h;rcases f with⟨rfl,f⟩|⟨n,cap,vs,f,i,F,H,s⟩
  ·obtain⟨l,b,p,u,v,r⟩:=Q3 (P:=P) (cap:=0) (isS:=true) J (BV _) k j h;simp at v;subst v;simp at u;subst u;refine⟨.slice none 0 0,_,p,Yq.2 (.inl ⟨by simp,rfl⟩),λo m U _=>?_⟩;simp[execOp,m,Instr.sliceAt,Instr.slice,f,Xa L,r,Xq G]
  ·obtain⟨l,b,p,u,v,r⟩:=Q3 (P:=P) (cap:=cap) (isS:=true) J i k j h;have c:((g.take b).drop l).length=b-l:=by simp;omega
   by_cases O:cap=l
   ·subst O;refine⟨.slice (some n) (b-cap) (cap-cap),_,p,Yq.2 (.inr ⟨n,cap-cap,[],by rw[c],by omega,CZ.nil n,?_,?_⟩),λo m U _=>?_⟩
    ·have:(g.take b).drop cap=[]:=Tt (by omega);rw[this];simp[Bb]
    ·intro y d;exact s y (Fe (List.mem_of_mem_drop d))
    ·simp[execOp,m,Instr.sliceAt,Instr.slice,f,Xa L,r,Xq G]
   ·refine⟨.slice (some (n.add (l*z))) (b-l) (cap-l),_,p,Yq.2 (.inr ⟨_,cap-l,_,by rw[c],by omega,F.Od (l*z) ((b-l)*z),?_,?_⟩),λo m U _=>?_⟩
    ·have R:=(MN g l vs H).2;have t1:Cf (g.take l)=l*z:=by
      rw[EO (sz:=z) _ (λy d=>s y (Fe d)),E9,Gi (by omega)]
     rw[t1]at R;have s2:=(MN (g.drop l) (b-l) _ R).1;have t2:Cf ((g.drop l).take (b-l))=(b-l)*z:=by
      rw[EO (sz:=z) _ (λy d=>s y (List.mem_of_mem_drop (Fe d))),E9,List.length_drop,Gi (by omega)]
     rw[t2]at s2
     rwa [QT]
    ·intro y d;exact s y (Fe (List.mem_of_mem_drop d))
    ·simp[execOp,m,Instr.sliceAt,Instr.slice,f,Xa L,r,Xq G,O]
 ·cases h
def uW:∀(f:List Value)(c:List Value)(b k:Nat),b+k+f.length<=c.length->
 (f.zipIdx k).foldl (λ(i:Array Value) (x:Value×Nat)=>i.setIfInBounds (b+x.2) x.1) c.toArray=(c.take (b+k)++(f++c.drop (b+k+f.length))).toArray
|[],c,b,k,_=>by simp
|d::r,c,b,k,h=>by
 simp only[List.zipIdx_cons,List.foldl_cons];simp only[List.length_cons]at h;have e:c.toArray.setIfInBounds (b+k) d=(c.set (b+k) d).toArray:=by simp
 rw[e,uW r (c.set (b+k) d) b (k+1) (by simp;omega)];congr 1;have g:b+k<c.length:=by omega
 have j:(c.set (b+k) d).take (b+(k+1))=c.take (b+k)++[d]:=by
  rw[<-Kg,Ca (by simpa using g)];simp[List.take_set_of_le]
 have l:(c.set (b+k) d).drop (b+(k+1)+r.length)=c.drop (b+k+(d::r).length):=by
  rw[List.drop_set_of_lt (by omega)];congr 1;simp;omega
 rw[j,l];simp
def Tk:∀(c:List D)(b:List Value),G7 c b=true->Bb w (B2 ρ) c b:=by
 have g:∀n,(∀(x:D)(b:List Value),SizeOf.sizeOf x<n->D8 x b=true->x.An w (B2 ρ) b)/\(∀(c:List D)(b:List Value),SizeOf.sizeOf c<n->G7 c b=true->Bb w (B2 ρ) c b):=by
  intro n;induction n with
  |zero=>exact⟨λ_ _ h=>by omega,λ_ _ h=>by omega⟩
  |succ n e=>
   constructor
   ·intro x b d h;cases x with
    |agg c=>
     simp only[D8]at h;simp only[D.An];refine e.2 c b ?_ h;simp at d;omega
    |AF l m=>unfold D8 at h;split at h<;>simp_all[D.An]
    |Bd y=>simp[D8]at h
    |iface t y=>simp[D8]at h
    |fn f j i=>simp[D8]at h
    |AM s=>
     unfold D8 at h;split at h<;>simp_all[D.An];rename_i t k;subst h;cases t;simp
    |_=>
     unfold D8 at h;split at h<;>simp_all[D.An]
   ·intro c b d h;cases c with
    |nil=>cases b<;>simp_all[G7,Bb]
    |cons x r=>
     simp only[G7,As]at h;simp only[Bb];simp at d;exact⟨b.take x.sz,b.drop x.sz,by simp,e.1 x _ (by omega) h.1,e.2 r _ (by omega) h.2⟩
 intro c b h;exact(g (SizeOf.sizeOf c+1)).2 c b (by omega) h
def MQ(x:D)(b:List Value)(h:D8 x b=true):x.An w (B2 ρ) b:=by
 have:=Tk (w:=w) (ρ:=ρ) [x] b;cases d:G7 [x] b with
 |true=>
  have:=this d;simp only[Bb]at this;obtain⟨k,l,e,g,i⟩:=this;subst i;simpa[e]using g
 |false=>
  exfalso;have c:b.take x.sz=b/\b.drop x.sz=[]:=by
   have:b.length<=x.sz:=by
    cases x with
    |agg j=>
     simp only[D8]at h;have:=Gf _ _ (Tk (w:=w) (ρ:=ρ) j b h);simp[D.sz,this]
    |AF o p=>unfold D8 at h;split at h<;>simp_all[D.sz]
    |Bd y=>simp[D8]at h
    |iface t y=>simp[D8]at h
    |fn f n m=>simp[D8]at h
    |_=>
     unfold D8 at h;split at h<;>simp_all[D.sz]
   exact⟨JI this,Gj this⟩
  simp[G7,c.1,c.2,h]at d
def eY(W:SM w ρ sl a)(e:Nat->Option (Nat×Nat))(b:List Sh)(U:∀i,i<b.length->e i=some (Sh.BR (b.take i),(b.getD i .AX).size)):
 ∀(Xs:List (Nat×Operand)) (Y:List (Nat×A)) (g:List V) (f:List Value) (K:List V->Prop),W1 Xs Y=true->Br w ρ g f->g.map V.shape=b->
  Dz g (Y.map λ(i,x)=>(i,x.ev sl)) K->∃l k,K l/\Br w ρ l k/\Instr.fill e f.toArray (Xs.map λ(i,x)=>(i,a.eval x))=some k.toArray
|[],[],g,f,K,_,M,_,p=>by
 simp only[HB,Dz]at p;exact⟨g,f,p,M,by simp[Instr.fill]⟩
|(i,x)::r,(j,y)::s,g,f,K,G,M,H,p=>by
 simp only[W1,As,CT]at G;obtain⟨⟨rfl,G⟩,h5⟩:=G;simp only[Cg,Dz]at p;obtain⟨t,q,O,p⟩:=p;have r1:=A.Av W G;have X:=Vq O r1;have n:=E7 _ _ X;have hk:g[i]? = some (g.getD i .any):=by simp[t]
 obtain⟨J,Z,L,R,e2,g1,g2,g3⟩:=NV M hk;have u:=E7 _ _ g2;have N:i<b.length:=by rw[<-H];simpa using t
 have F:(b.getD i .AX).size=(g.getD i .any).shape.size:=by rw[<-H];simp[t]
 have z:(g.set i (y.ev sl)).map V.shape=b:=by
  rw[<-H,Fg,q];apply QR;intro j;by_cases T:i=j
  ·subst T;rw[Kj];simp[t]
  ·rw[Kj];simp[T]
 have v:Br w ρ (g.set i (y.ev sl)) (J++((a.eval x).cells.toList++L)):=by
  rw[show g.set i (y.ev sl)=g.take i++(y.ev sl::g.drop (i+1)) from Ts.trans (by simp[t])];refine Ok g1 ?_;simp only[Br];exact⟨_,L,rfl,X,g3⟩
 obtain⟨l,k,hK,hR,hF⟩:=eY W e b U r s _ _ K h5 v z p;refine⟨l,k,hK,hR,?_⟩;have d:(a.eval x).cells.size=(b.getD i .AX).size:=by
  have:(a.eval x).cells.toList.length=(a.eval x).cells.size:=by simp
  rw[<-this,n,q,F]
 have o:J.length=Sh.BR (b.take i):=by rw[e2,<-H]
 have m:¬(Sh.BR (b.take i)+(a.eval x).cells.size > f.toArray.size):=by
  rw[d,F,<-u,<-o,R];simp
 have Q:(a.eval x).cells.zipIdx.foldl (λ(f:Array Value) (x:Value×Nat)=>f.setIfInBounds (Sh.BR (b.take i)+x.2) x.1) f.toArray=(J++((a.eval x).cells.toList++L)).toArray:=by
  rw[<-Array.foldl_toList,Array.toList_zipIdx];rw[uW _ f _ 0 (by simp only[Nat.add_zero];have:=m;simp at this⊢;omega)];congr 1;have e3:(a.eval x).cells.toList.length=Z.length:=by rw[n,q,u]
  rw[e3,<-o,R];simp
 simp only[Cg,Instr.fill,U i N];rw[Af (by simp only[d];simpa[d]using m)];rw[show(λ(f:Array Value) (x:Value×Nat)=>match x with|(c,j)=>f.setIfInBounds (Sh.BR (b.take i)+j) c)=(λ(f:Array Value) (x:Value×Nat)=>f.setIfInBounds (Sh.BR (b.take i)+x.2) x.1) from rfl,Q];exact hF
|[],_::_,_,_,_,h,_,_,_=>by simp[W1]at h
|_::_,[],_,_,_,h,_,_,_=>by simp[W1]at h
end
section
variable {P:Program} {w:World} {ow:Nat->Prop}
def Ez(x:D)(a:List Value):Value:=if x.isAgg then .agg a.toArray else a.headD undef
def Rbi{a:KT}{t:TypeId}{x:D}(b:a.Aa P t=true)(c:a.Bk x=true):(P.underlying t).isSome=true/\F6 P t=x.isAgg:=by
 cases a<;>cases x<;>simp only[KT.Bk,BF]at c<;>simp only[KT.Aa]at b<;>unfold F6<;>(cases e:P.underlying t with
 |none=>simp[e]at b
 |some d=>cases d<;>simp_all[D.isAgg])
mutual
def MR:∀(a:KT)(x:D),a.Bk x=true->x.sz=a.cells
|.int k,x,h=>by cases x<;>simp[KT.Bk]at h;simp[D.sz,KT.cells]
|.bool,x,h=>by cases x<;>simp[KT.Bk]at h;simp[D.sz,KT.cells]
|.AM,x,h=>by cases x<;>simp[KT.Bk]at h;simp[D.sz,KT.cells]
|.st b,x,h=>by
 cases x<;>simp only[KT.Bk,BF]at h;simp only[D.sz,KT.cells];exact qH b _ h
|.ar n e,x,h=>by
 cases x<;>simp only[KT.Bk,BF,As,Bs]at h;simp only[D.sz,KT.cells];rw[qI e _ h.2,h.1]
def qH:∀(b:List KT)(a:List D),Gh b a=true->Cf a=QK b
|[],a,h=>by cases a<;>simp[Gh]at h;simp[Cf,QK]
|t::r,a,h=>by
 cases a<;>simp only[Gh,BF,As]at h;simp only[Cf,QK,MR t _ h.1,qH r _ h.2]
def qI:∀(t:KT)(a:List D),KT.Dd t a=true->Cf a=a.length*t.cells
|t,[],_=>by simp[Cf]
|t,x::s,h=>by
 simp only[KT.Dd,As]at h;simp only[Cf,List.length_cons,MR t x h.1,qI t s h.2,Fz];omega
end
def Rk{b:KT}{t:TypeId}{x:D}{c1 d c3:List Value}(k:b.Aa P t=true)(l:X7 P t=some b.cells)(i:b.Bk x=true)(g:x.An w ow d)(j:World):
 (part t (c1++(d++c3)).toArray c1.length).run P j=.ok (Ez x d) j:=by
 obtain⟨m,e⟩:=Rbi k i;have f:=G5 _ _ g;rw[MR b x i]at f;simp only[part,Sem.run_bind,T6 m,e,Result.andThen_ok,Ez];cases n:x.isAgg with
 |true=>
  simp only[Cz,Sem.run_bind,Xq l,Result.andThen_ok,Sem.run_pure];congr 2;rw[<-f];simp
 |false=>
  have h:x.sz=1:=by cases x<;>simp_all[D.isAgg,D.sz]
  rw[G5 _ _ g,h]at f;have a:=G5 _ _ g;rw[h]at a;obtain⟨c,rfl⟩:=LH.1 a;simp
mutual
def KT.equal:∀(z:KT)(t:TypeId)(x y:D)(l o:List Value)(d:Nat),z.Aa P t=true->z.Bk x=true->z.Bk y=true->x.An w ow l->y.An w ow o->z.depth<=d->∀g,(Op.equalIn d t (Ez x l) (Ez y o)).run P g=.ok (D.Bg x y) g
|.int k,t,x,y,l,o,d,a,h,j,c,f,p,g=>by
 cases x<;>simp[KT.Bk]at h;cases y<;>simp[KT.Bk]at j;subst h;subst j;simp only[D.An]at c f;subst c;subst f;simp only[KT.Aa]at a;obtain⟨d,rfl⟩:∃e,d=e+1:=⟨d-1,by simp only[KT.depth]at p;omega⟩
 cases b:P.underlying t with
 |none=>simp[b]at a
 |some r=>
  cases r<;>simp[b]at a;simp[Ez,D.isAgg,D.Bg,run_equalIn_int g d t _ _ _ _ b];rfl
|.bool,t,x,y,l,o,d,a,h,j,c,f,p,g=>by
 cases x<;>simp[KT.Bk]at h;cases y<;>simp[KT.Bk]at j;simp only[D.An]at c f;subst c;subst f;simp only[KT.Aa]at a;obtain⟨d,rfl⟩:∃e,d=e+1:=⟨d-1,by simp only[KT.depth]at p;omega⟩
 cases b:P.underlying t with
 |none=>simp[b]at a
 |some r=>
  cases r<;>simp[b]at a;simp[Ez,D.isAgg,D.Bg,run_equalIn_bool g d t _ _ b]
|.AM,t,x,y,l,o,d,a,h,j,c,f,p,g=>by
 cases x<;>simp[KT.Bk]at h;cases y<;>simp[KT.Bk]at j;simp only[D.An]at c f;subst c;subst f;simp only[KT.Aa]at a;obtain⟨d,rfl⟩:∃e,d=e+1:=⟨d-1,by simp only[KT.depth]at p;omega⟩
 cases b:P.underlying t with
 |none=>simp[b]at a
 |some r=>
  cases r<;>simp[b]at a;simp[Ez,D.isAgg,D.Bg,run_equalIn_string g d t _ _ b]
|.st K,t,x,y,l,o,d,a,h,j,c,f,p,g=>by
 cases x<;>simp only[KT.Bk,BF]at h;cases y<;>simp only[KT.Bk,BF]at j;simp only[D.An]at c f;simp only[KT.Aa]at a;simp only[KT.depth]at p;obtain⟨d,rfl⟩:∃e,d=e+1:=⟨d-1,by omega⟩
 cases b:P.underlying t with
 |none=>simp[b]at a
 |some r=>
  cases r<;>simp only[b,BF,As,El]at a;rename_i s;have v:P.fieldsOf t=s:=by simp[Program.fieldsOf,b]
  simp only[Ez,D.isAgg,Cz,D.Bg];rw[run_equalIn_struct g d t _ _ (by rw[v];exact b) a.1,v];exact qJ K s.toList 0 _ _ [] l [] o d a.2 h j c f (by omega) rfl rfl g
|.ar n e,t,x,y,l,o,d,a,h,j,c,f,p,g=>by
 cases x<;>simp only[KT.Bk,BF,As,Bs]at h;cases y<;>simp only[KT.Bk,BF,As,Bs]at j;simp only[D.An]at c f;simp only[KT.Aa]at a;simp only[KT.depth]at p;obtain⟨d,rfl⟩:∃e,d=e+1:=⟨d-1,by omega⟩
 cases b:P.underlying t with
 |none=>simp[b]at a
 |some r=>
  cases r<;>simp only[b,BF,As,CT]at a;rename_i m u;obtain⟨⟨rfl,q⟩,F⟩:=a;obtain⟨i,J,H⟩:∃i,P.info? u=some i/\i.size=e.cells:=by
   unfold X7 at q;rw[D9]at q;exact q
  have G:P.cellsOf u=e.cells:=by simp[Program.cellsOf,J,H]
  simp only[Ez,D.isAgg,Cz,D.Bg];rw[run_equalIn_array g d _ _ b J,G];rename_i L M;have:=qL e u 0 L M [] l [] o d F q h.2 j.2 (by omega) c f (by omega) (by simp) (by simp) g;rw[h.1,<-List.range_eq_range']at this;simpa using this
def qJ:∀(v:List KT)(a:List Field)(o:Nat)(b c:List D)(i p j s:List Value)(d:Nat),KT.Dc P v a o=true->Gh v b=true->Gh v c=true->Bb w ow b p->Bb w ow c s->NW v<=d->i.length=o->j.length=o->∀n,(Op.eqFields d (i++p).toArray (j++s).toArray a).run P n=.ok (D.B8 b c) n
|[],a,o,b,c,i,p,j,s,d,u,g,h,l,m,M,Z,ly,n=>by
 cases a<;>simp[KT.Dc]at u;cases b<;>simp[Gh]at g;cases c<;>simp[Gh]at h;simp[Op.eqFields,D.B8]
|t::r,a,o,b,c,i,p,j,s,d,u,g,h,l,m,M,Z,ly,n=>by
 cases a<;>simp only[KT.Dc,BF,As,bne_iff_ne,ne_eq,CT]at u;rename_i f U;cases b<;>simp only[Gh,BF,As]at g;cases c<;>simp only[Gh,BF,As]at h;rename_i x b y c;simp only[Bb]at l m;obtain⟨H,J,rfl,F,l⟩:=l;obtain⟨K,L,rfl,rb,m⟩:=m;obtain⟨⟨⟨⟨W,ho⟩,k⟩,e⟩,z⟩:=u;simp only[NW]at M;have R:f.offset=i.length:=by omega
 have T:f.offset=j.length:=by omega
 have O:=λG=>Rk (c1:=i) (c3:=J) e k g.1 F G;have Q:=λG=>Rk (c1:=j) (c3:=L) e k h.1 rb G;rw[<-R]at O;rw[<-T]at Q;have q:=KT.equal t f.type x y H K d e g.1 h.1 F rb (by omega);simp only[Op.eqFields,W,ne_eq,not_false_eq_true,Cz,Sem.run_bind,O,Q,q,Result.andThen_ok,D.B8];have X:=G5 _ _ F;have Y:=G5 _ _ rb;rw[MR t x g.1]at X;rw[MR t y h.1]at Y;have N:=qJ r U (o+t.cells) b c (i++H) J (j++K) L d z g.2 h.2 l m (by omega) (by simp;omega) (by simp;omega) n;simp only[Kk]at N;cases hq:D.Bg x y with
 |true=>simpa using N
 |false=>simp
def qL:∀(e:KT)(u:TypeId)(i:Nat)(b a:List D)(g n h o:List Value)(d:Nat),e.Aa P u=true->X7 P u=some e.cells->KT.Dd e b=true->KT.Dd e a=true->b.length=a.length->Bb w ow b n->Bb w ow a o->e.depth<=d->g.length=i*e.cells->h.length=i*e.cells->∀m,
 (Op.eqItems d u e.cells (g++n).toArray (h++o).toArray (List.range' i b.length)).run P m=.ok (D.B8 b a) m
|e,u,i,[],a,g,n,h,o,d,j,r,c,f,p,k,l,s,K,L,m=>by
 cases a<;>simp at p;simp[Op.eqItems,D.B8]
|e,u,i,x::b,a,g,n,h,o,d,j,r,c,f,p,k,l,s,K,L,m=>by
 cases a<;>simp at p;rename_i y a;simp only[KT.Dd,As]at c f;simp only[Bb]at k l;obtain⟨z,F,rfl,t,k⟩:=k;obtain⟨G,H,rfl,rb,l⟩:=l;have M:=λv=>Rk (c1:=g) (c3:=F) j r c.1 t v;have N:=λv=>Rk (c1:=h) (c3:=H) j r f.1 rb v;rw[K]at M;rw[L]at N;have q:=KT.equal e u x y z G d j c.1 f.1 t rb s;simp only[List.length_cons,QU,Op.eqItems,Sem.run_bind,M,N,q,Result.andThen_ok,D.B8];have O:=G5 _ _ t;have Q:=G5 _ _ rb;rw[MR e x c.1]at O;rw[MR e y f.1]at Q;have J:=qL e u (i+1) b a (g++z) F (h++G) H d j r c.2 f.2 p k l s (by simp[Fz];omega) (by simp[Fz];omega) m;simp only[Kk]at J;cases R:D.Bg x y with
 |true=>simpa using J
 |false=>simp
end
end
section
variable {P:Program} {a:Act} {w:World} {ρ:A0} {sl:Xb} {objs:AB} {K:V->Prop}
def U3{t:TypeId}{e:List Value}(h:U2 P t=some e):∃v,v.cells.toList=e/\(P.info? t).bind (·.zero)=some v/\∀d,(zeroValue t).run P d=.ok v d:=by
 unfold U2 at h;cases b:P.info? t with
 |none=>simp[b]at h
 |some i=>
  cases c:i.zero with
  |none=>simp[b,c]at h
  |some v=>
   simp[b,c]at h;exact⟨v,h,by simp[c],λd=>by simp[zeroValue,typeInfo,b,c]⟩
def Xrz(d:List Field)(b:d.all (λc=>(X7 P c.type).isSome)=true)(g:World):
 (d.mapM (λf=>(do pure (f.offset,<-sizeOf f.type):Sem (Nat×Nat)))).run P g=.ok (d.map λc=>(c.offset,(X7 P c.type).getD 0)) g:=by
 induction d with
 |nil=>simp
 |cons x r h=>
  simp only[List.all_cons,As]at b;obtain⟨n,e⟩:=JE.1 b.1;simp only[List.mapM_cons,Sem.run_bind,Xq e,Result.andThen_ok,Sem.run_pure,h b.2,Cg,e,Option.getD_some]
def Xwg(z:List D)(i:Nat):Cf (z.take i)=Sh.BR (((z.map V.d).map V.shape).take i):=by
 rw[<-Ki,<-Ki,<-Th,D.BZ];simp[V.shape,Function.comp_def]
def X7q(hs:SM w ρ sl a){z:List D}{Xs:List (Nat×A)}{Z:Op}(R:C.Aa P Z (.E0 z Xs)=true)
 (h:Dz (z.map .d) (Xs.map λ(i,x)=>(i,x.ev sl)) λks=>K (V.mk ks)):Ye P a w ρ Z K:=by
 cases Z<;>simp only[C.Aa,BF]at R;rename_i t s;simp only[As]at R;obtain⟨⟨hp,Y⟩,k⟩:=R;cases p:U2 P t with
 |none=>simp[p]at Y
 |some r=>
  simp only[p]at Y;obtain⟨zv,e1,e2,L⟩:=U3 p;have H:Br w ρ (z.map .d) r:=(JD z r).2 (Tk z r Y);have v:zv.cells=r.toArray:=by rw[<-e1]
  have M:∀c:Nat->Option (Nat×Nat),(∀i,i<z.length->c i=some (Cf (z.take i),(z.getD i default).sz))->
   (∀(o:Oper),o.op=.build t s->∀j b,Instr.fill c r.toArray (s.toList.map λ(i,x)=>(i,a.eval x))=some b->(execOp a.eval o).run P j=.ok (.value (.agg b)) j)->
   Ye P a w ρ (.build t s) K:=by
   intro c X J;obtain⟨N,u,hK,hR,F⟩:=eY (sl:=sl) hs c ((z.map V.d).map V.shape) (λi l=>by
    rw[X i (by simpa using l),Xwg];have U:i<z.length:=by simpa using l
    congr 2;simp[U,V.shape,CC]) s.toList Xs (z.map .d) r _ hp H rfl h
   exact⟨.agg u.toArray,V.mk N,hK,(zT (ZF N)).2 ⟨u,rfl,hR⟩,λo G j _=>J o G j _ F⟩
  have g:∀q:Operand->Value,(s.map λ(i,x)=>(i,q x)).toList=s.toList.map λ(i,x)=>(i,q x):=λq=>by simp
  split at k
  ·rename_i O m;simp only[As,CT]at k;obtain⟨h1,h2⟩:=k;refine M (λi=>((O.toList.map λy=>(y.offset,(X7 P y.type).getD 0)).toArray)[i]?) (λi l=>?_) (λo G j b F=>?_)
   ·rw[h2];simp[l]
   ·have hm:=Xrz (P:=P) O.toList h1 j;have W:(O.mapM (λf=>(do pure (f.offset,<-sizeOf f.type):Sem (Nat×Nat)))).run P j=.ok ((O.toList.map λy=>(y.offset,(X7 P y.type).getD 0)).toArray) j:=by
     rw[Array.mapM_eq_mapM_toList];simp only[Sem.run_map,hm,Result.andThen_ok]
    simp only[execOp,G,Instr.build,Sem.run_bind,L,Result.andThen_ok,Xa m,W,g,v,F,Sem.run_pure]
  ·rename_i n e m;cases T:X7 P e with
   |none=>simp[T]at k
   |some Q=>
    simp only[T,DQ,CT]at k;refine M (λi=>some (i*Q,Q)) (λi l=>?_) (λo G j b F=>?_)
    ·rw[EO (sz:=Q) _ (λx hx=>k x (Fe hx)),E9,Gi (by omega)];simp[l,k _ (CS l)]
    ·simp only[execOp,G,Instr.build,Sem.run_bind,L,Result.andThen_ok,Xa m,Xq T,g,v,F,Sem.run_pure]
  ·simp at k
def X71(W:SM w ρ sl a){t:Nat}{z:D}{x:A}{H:Op}(q:C.Aa P H (.G3 t z x)=true)(h:L1 t z K (x.ev sl)):Ye P a w ρ H K:=by
 cases H<;>simp only[C.Aa,BF]at q;rename_i x1 xt u N;cases N<;>simp only[BF]at q;simp only[As,CT]at q;obtain⟨⟨⟨rfl,R⟩,F⟩,T⟩:=q;obtain⟨d,n,U⟩:∃d,P.underlying t=some d/\∀Z,d≠.interface Z:=by
  revert R;split<;>simp_all
 have i:=A.Av W T;cases l:U2 P t with
 |none=>simp[l]at F
 |some s=>
  simp only[l,As,CT]at F;obtain⟨G,g⟩:=F;obtain⟨M,p,Q,Y⟩:=U3 l;have f:(V.d z).An w ρ M:=by
   have y:(V.d z).Ac w ρ s:=by simp only[V.Ac];exact MQ z s G
   rw[Q]at g;simp only[Option.map_some,Bu]at g;cases M with
   |agg O=>
    simp only at g;refine .inr (.inl ⟨g.symm,s,?_,y⟩);simp only[Value.cells]at p;rw[<-p]
   |_=>
    simp only at g;refine .inr (.inr ⟨g.symm,?_⟩);simp only[Value.cells]at p;rw[<-p]at y;simpa using y
  have j:∀{v:V}{u:Value}(b:Bool),v.An w ρ u->(V.BE [v,.d (.bool b)]).An w ρ (.tuple #[u,.bool b]):=λb X=>by
   rw[CJ];refine⟨[_,.bool b],rfl,?_⟩;simp only[V.A1];exact⟨_,_,rfl,X,_,_,rfl,BI.2 rfl,rfl⟩
  unfold L1 at h;split at h
  ·rename_i L v m;rw[m,Wf (by simp[V.isAgg]) (by simp)]at i;simp only[V.Ac,HY,GK]at i;obtain⟨c,i,J⟩:=i;by_cases e:L=t
   ·refine⟨_,_,h.1 e,j true J,λo k r _=>?_⟩;subst e;simp only[execOp,k,Instr.typeAssert,Sem.run_bind,Xa n,Result.andThen_ok,i];cases d<;>simp_all
   ·refine⟨_,_,h.2 e,j false f,λo k r _=>?_⟩;simp only[execOp,k,Instr.typeAssert,Sem.run_bind,Xa n,Result.andThen_ok,i];cases d<;>simp_all
  ·rename_i L v m;rw[m,Rt]at i;obtain⟨c,i,J⟩:=i;by_cases e:L=t
   ·refine⟨_,_,h.1 e,j true J,λo k r _=>?_⟩;subst e;simp only[execOp,k,Instr.typeAssert,Sem.run_bind,Xa n,Result.andThen_ok,i];cases d<;>simp_all
   ·refine⟨_,_,h.2 e,j false f,λo k r _=>?_⟩;simp only[execOp,k,Instr.typeAssert,Sem.run_bind,Xa n,Result.andThen_ok,i];cases d<;>simp_all
  next m=>rw[m,VE]at i;refine⟨_,_,h,j false f,λo k r _=>?_⟩;simp only[execOp,k,Instr.typeAssert,Sem.run_bind,Xa n,Result.andThen_ok,i];cases d<;>simp_all
  ·cases h
def X72(X:SM w ρ sl a)(T:OM w ρ objs){y:Op}{x:A}(i:C.Aa P y (.G4 x)=true)(h:IS objs K (x.ev sl)):Ye P a w ρ y K:=by
 cases y<;>simp only[C.Aa,BF]at i;rename_i c;obtain⟨J,args,H⟩:=c;cases J<;>(try simp only[BF]at i);rename_i b;cases b<;>(try simp only[BF]at i);split at i
 ·rename_i u M;have N:args=#[u]:=by simpa using CK List.toArray M
  subst N;have r:=A.Av X i;have f:∀(g:Value)(o:Oper)(d:World),o.op=.call {callee:=.builtin .unsafeSliceData,args:=#[u],argTypes:=H}->(Builtin.unsafeSliceData_ H o.type #[a.eval u]).run P d=.ok g d->(execOp a.eval o).run P d=.ok (.value g) d:=by
   intro g o d m W;simp only[execOp,m,resolve,invoke,builtin,Sem.run_bind,Sem.run_pure,Result.andThen_ok,List.map_toArray,Cg,HB,W]
  unfold IS at h;split at h
  ·rename_i id n t;obtain⟨⟨E,G,z,U,v,rfl,l⟩,R⟩:=h;rw[t,Yj]at r;obtain⟨o,p,Z⟩:=r;rcases T.BU id _ U with⟨q,rfl⟩|⟨b,s,L,sp,q,h2,O,Q,F⟩
   ·exact absurd rfl l
   ·rw[p]at q;simp at q;subst q;have Y:=Z.2.2 rfl;have j:s≠0:=by
     intro e;subst e;have k:L.length=z.length*G:=by rw[Gf _ _ O,EO _ Q]
     have hx:z.length≠0:=by simpa using l
     have:0<z.length*G:=Nat.mul_pos (Na hx) (Na v);simp at F;rw[F.1]at k;simp at k;omega
    refine⟨_,_,R,Ygo.2 ⟨_,p,BV _,⟨_,rfl⟩,λ_ _=>rfl⟩,λo m d _=>f _ o d m (by rw[Y];exact Lib.run_unsafeSliceData_row _ _ _ _ _ _ j)⟩
  next t=>rw[t,W6]at r;exact⟨_,_,h,fm.2 rfl,λo m d _=>f _ o d m (by rw[r];exact Lib.run_unsafeSliceData_nil _ _ _ _ _)⟩
  ·cases h
 ·simp at i
def gC{x:D}{u:Value}(h:(V.d x).An w ρ u):∃e,u=Ez x e/\x.An w (B2 ρ) e:=by
 rw[IG]at h;rcases h with⟨b,f,c,g⟩|⟨b,c⟩
 ·exact⟨f,by simp[Ez,b,c],g⟩
 ·exact⟨[u],by simp[Ez,b],c⟩
def X7t(J:SM w ρ sl a){k:KT}{e:Bool}{x y:A}{r:Op}(m:C.Aa P r (.GV k e x y)=true)(h:Ss k e K (x.ev sl) (y.ev sl)):Ye P a w ρ r K:=by
 cases r<;>simp only[C.Aa,BF]at m;rename_i o t Q R t2;simp only[As,Bs,El]at m;obtain⟨⟨⟨⟨⟨⟨j,p⟩,b⟩,l⟩,n⟩,X⟩,Y⟩:=m;have L:=A.Av J X;have M:=A.Av J Y;unfold Ss at h;split at h
 ·rename_i g i T U;rw[T]at L;rw[U]at M;obtain⟨F,G,W⟩:=h;have z:g.isAgg=true/\i.isAgg=true:=by
   cases k<;>simp only[BF]at l<;>cases g<;>simp only[KT.Bk,BF]at F<;>cases i<;>simp only[KT.Bk,BF]at G<;>exact⟨rfl,rfl⟩
  obtain⟨d,s,rx⟩:=gC L;obtain⟨f,u,ry⟩:=gC M;have q:=KT.equal k t g i d f 10000 p F G rx ry b;have N:Ez g d=.agg d.toArray:=by simp[Ez,z.1]
  have O:Ez i f=.agg f.toArray:=by simp[Ez,z.2]
  rw[N,O]at q;rw[N]at s;rw[O]at u;refine⟨_,_,W,BI.2 rfl,λZ c v _=>?_⟩;have H:(eqGuard o t Q R (.agg d.toArray) (.agg f.toArray)).run P v=.ok () v:=run_eqGuard_agg v o t Q R _ _ n;cases e with
  |true=>
   simp only[Cz]at j;subst j;simp only[execOp,c,s,u,Sem.run_bind,H,Result.andThen_ok,run_eql_struct,q];simp
  |false=>
   simp only[BF,Ci]at j;subst j;simp only[execOp,c,s,u,Sem.run_bind,H,Result.andThen_ok,run_neq_struct,q];simp
 ·cases h
def Xya(T:SM w ρ sl a){n z:Nat}{r:Bool}{x y:A}{O:Op}(H:C.Aa P O (.GR n z r x y)=true)(h:Nu n z r K (x.ev sl) (y.ev sl)):Ye P a w ρ O K:=by
 cases O<;>simp only[C.Aa,BF]at H;rename_i t x1 y1;simp only[As]at H;obtain⟨⟨v,p⟩,h2⟩:=H;have U:=A.Av T p;have W:=A.Av T h2;obtain⟨e,ht,R,hu,G⟩:∃e,P.underlying t=some (.array n e)/\X7 P e=some z/\(P.underlying e).isSome=true/\F6 P e=r:=by
  revert v;split
  next m e h=>intro v;simp only[As,CT]at v;obtain⟨⟨⟨rfl,j⟩,h4⟩,h5⟩:=v;exact⟨e,h,j,h4,h5⟩
  ·intro h;cases h
 unfold Nu at h;split at h
 ·rename_i d k i Z e2;rw[Z]at U;rw[e2,X1]at W;obtain⟨⟨J,hi⟩,hl,g,Q⟩:=h;obtain⟨u,Y,X⟩:=gC U;simp only[D.An]at X;simp only[Ez,D.isAgg,Cz]at Y;have l:i.toNat<d.length:=by omega
  have j:=Tg X l;have L:Cf (d.take i.toNat)=i.toNat*z:=by
   rw[EO (sz:=z) _ (λx M=>(g x (Fe M)).1),E9,Gi (by omega)]
  have q:=g _ (CS l);rw[L,q.1]at j;have b:=G5 _ _ j;have hg:d.getD i.toNat default=d[i.toNat]:=by simp[l]
  rw[hg]at Q;have s:∀F,(part e u.toArray (i.toNat*z)).run P F=.ok (Ez d[i.toNat] ((u.drop (i.toNat*z)).take z)) F:=by
   intro F;simp only[part,Sem.run_bind,T6 hu,G,Result.andThen_ok,Ez,q.2];cases r with
   |true=>
    simp only[Cz,Sem.run_bind,Xq R,Result.andThen_ok,Sem.run_pure];congr 2;apply Array.ext';simp[List.take_drop]
   |false=>
    have p:d[i.toNat].sz=1:=by
     have:=q.2;cases M:d[i.toNat]<;>simp_all[D.isAgg,D.sz]
    have N:z=1:=by rw[<-q.1,p]
    subst N;rw[p]at b;obtain⟨c,f⟩:=LH.1 b;have:u[i.toNat*1]? = some c:=by
     have:=CK (·[0]?) f;simpa[List.getElem?_take,List.getElem?_drop]using this
    simp only[BF,Ci,f,List.headD_cons];simp at this;simp[this]
  refine⟨Ez d[i.toNat] ((u.drop (i.toNat*z)).take z),_,Q,?_,λo ho F _=>?_⟩
  ·rw[IG];simp only[Ez,q.2];cases r with
   |true=>exact .inl ⟨rfl,_,rfl,j⟩
   |false=>
    refine .inr ⟨rfl,?_⟩;have p:d[i.toNat].sz=1:=by
     have:=q.2;cases M:d[i.toNat]<;>simp_all[D.isAgg,D.sz]
    rw[p]at b;obtain⟨c,f⟩:=LH.1 b;rw[f]at j⊢;simpa using j
  ·simp[execOp,ho,Instr.index,Y,W,asIntOf,Xa ht,J,hi,Xq R,s]
 ·cases h
def C.ES:C->Bool
|.ld _ _ _=>true
|_=>false
def C.Df:C->Bool
|_=>false
def C.Av(d:SM w ρ sl a)(e:OM w ρ objs){f:Op}:∀{c:C},c.Aa P f=true->c.wp sl objs K->UO c.ES P a w ρ f K
|.mv _,b,h=>Yds d b h
|.pick _ _ _,b,h=>Xye d b h
|.not _,b,h=>X70 d b h
|.neg _,b,h=>X7z d b h
|.GA _,b,h=>X7r d b h
|.Bc _ _ _,b,h=>X7p d b h
|.Cr _ _,b,h=>Xsj d b h
|.EG _ _,b,h=>Xx8 d b h
|.G4 _,b,h=>X72 d e b h
|.Gy _ _,b,h=>X7s d b h
|.Fl _ _,b,h=>X7w d b h
|.DI _ _ _,b,h=>Xx9 d e b h
|.B9 _ _ _ _,b,h=>vy d e b h
|.BW _ _ _,b,h=>vx d e b h
|.IX _ _ _ _ _,b,h=>X7v d b h
|.ld _ _ _,b,h=>Rx d e b h
|.Cw _,b,h=>Xyd d b h
|.C2 _,b,h=>Xyc d b h
|.CV _,b,h=>Xyb d e b h
|.CY _ _ _,b,h=>Xyg d b h
|.Ck _ _ _ _,b,h=>Xyf d b h
|.ext _ _,b,h=>X7u d b h
|.E0 _ _,b,h=>X7q d b h
|.D5 _ _ _,b,h=>X7x d b h
|.G1 _ _,b,h=>X7y d b h
|.G3 _ _ _,b,h=>X71 d b h
|.GV _ _ _ _,b,h=>X7t d b h
|.GR _ _ _ _ _,b,h=>Xya d b h
end
section
variable {P:Program} {w:World} {ρ:A0} {ob:AB}
def A0.BS(ρ:A0)(id:Nat)(o:RO):A0:=⟨λj=>if j=id then some o else ρ.m j,ρ.xo,ρ.gl⟩
def OM.free(h:OM w ρ ob){id:Nat}(b:AA ob id=none):ρ.m id=none:=by
 cases c:ρ.m id with
 |none=>rfl
 |some o=>obtain⟨x,a⟩:=h.D1 id o c;rw[b]at a;cases a
def EE(w:World)(o:Obj):World:={w with heap:=w.heap.push o}
def Zt(w:World)(o:Obj):(EE w o).heap[w.heap.size]? = some o:=by
 show(w.heap.push o)[w.heap.size]? = some o;simp
def Xz7(w:World)(o:Obj){b:Nat}(h:b<w.heap.size):(EE w o).heap[b]? = w.heap[b]?:=by
 show(w.heap.push o)[b]? = w.heap[b]?;simp[Array.getElem?_push,Nat.ne_of_lt h]
def Zj(w:World)(o:Obj):Bv w (EE w o):=⟨by show w.heap.size<=(w.heap.push o).size;simp,λ_ h=>Xz7 w o h,rfl,rfl,rfl,BV _⟩
def Uf(h:OM w ρ ob){id:Nat}{o:RO}{b:Nat}(e:ρ.m id=some o)(c:o.blk? = some b):b<w.heap.size:=by
 obtain⟨x,q⟩:=h.D1 id o e;have f:=h.BU id x q;cases x with
 |box E t=>
  obtain⟨g,k,a,d,_⟩:=f;rw[e]at a;simp at a;subst a;simp[RO.blk?]at c;subst c;exact Xi d
 |A9 E s v=>
  rcases f with⟨a,_⟩|⟨g,i,k,r,a,d,_⟩
  ·rw[e]at a;simp at a;subst a;simp[RO.blk?]at c
  ·rw[e]at a;simp at a;subst a;simp[RO.blk?]at c;subst c;exact Xi d
 |Ao E s v=>
  rcases f with⟨a,_⟩|⟨g,i,k,r,a,d,_⟩
  ·rw[e]at a;simp at a;subst a;simp[RO.blk?]at c
  ·rw[e]at a;simp at a;subst a;simp[RO.blk?]at c;subst c;exact Xi d
 |map G=>
  obtain⟨g,l,p,a,d,_⟩:=f;rw[e]at a;simp at a;subst a;simp[RO.blk?]at c;subst c;exact Xi d
 |lp u M L=>
  obtain⟨g,H,N,F,K,y,z,a,d,_⟩:=f;rw[e]at a;simp at a;subst a;simp[RO.blk?]at c;subst c;exact Xi d
 |it m n seen=>
  cases m with
  |none=>
   obtain⟨g,a,d⟩:=f;rw[e]at a;simp at a;subst a;simp[RO.blk?]at c;subst c;exact Xi d
  |some j=>
   obtain⟨g,J,a,_,d⟩:=f;rw[e]at a;simp at a;subst a;simp[RO.blk?]at c;subst c;exact Xi d
 |AY=>
  have a:ρ.m id=some .AY:=f;rw[e]at a;simp at a;subst a;simp[RO.blk?]at c
def Vt(g:World)(a:Bv w g){id:Nat}{o:RO}(k:ρ.m id=none)(i:∀b,o.blk? = some b->w.heap.size<=b):Tr w ρ g (ρ.BS id o):=by
 refine⟨a.size,λb _ h=>a.keep b h,λb h=>?_,rfl,rfl,λj x d=>⟨x,?_,.refl x⟩,a.tape,a.os,a.CO,a.drawn⟩
 ·obtain⟨j,x,c,f⟩:=h;simp only[A0.BS]at c;split at c
  ·simp at c;subst c;exact .inr (i b f)
  ·exact .inl ⟨j,x,c,f⟩
 ·simp only[A0.BS];split
  next e=>subst e;rw[k]at d;cases d
  ·exact d
def Qh.tr{z:World}{r:A0}(t:Tr w ρ z r){id:Nat}{x:Ob}(h:Qh w ρ id x)(g:r.m id=ρ.m id)(q:∀b o,ρ.m id=some o->o.blk? = some b->z.heap[b]? = w.heap[b]?):Qh z r id x:=by
 cases x with
 |box E y=>
  obtain⟨b,s,a,c,e⟩:=h;exact⟨b,s,g.trans a,(q b _ a rfl).trans c,H6 t _ _ e⟩
 |A9 E O T=>
  rcases h with⟨a,c⟩|⟨b,i,s,v,a,c,e,f,d⟩
  ·exact .inl ⟨g.trans a,c⟩
  ·exact .inr ⟨b,i,s,v,g.trans a,(q b _ a rfl).trans c,Fy t.mono _ _ e,f,d⟩
 |Ao E O T=>
  rcases h with⟨a,c⟩|⟨b,i,s,v,a,c,e,f,d⟩
  ·exact .inl ⟨g.trans a,c⟩
  ·exact .inr ⟨b,i,s,v,g.trans a,(q b _ a rfl).trans c,G6 t _ _ e,f,d⟩
 |map U=>
  obtain⟨b,l,u,a,c,e,f⟩:=h;exact⟨b,l,u,g.trans a,(q b _ a rfl).trans c,X6.tr t _ _ e,f⟩
 |lp Q X W=>
  obtain⟨b,J,R,H,N,F,G,a,c,e,f⟩:=h;exact⟨b,J,R,H,N,F,G,g.trans a,(q b _ a rfl).trans c,by rw[t.gl];exact e,λp K=>Gg t (f p K)⟩
 |it m n seen=>
  cases m with
  |none=>obtain⟨b,a,c⟩:=h;exact⟨b,g.trans a,(q b _ a rfl).trans c⟩
  |some j=>
   obtain⟨b,L,a,e,c⟩:=h;refine⟨b,L,g.trans a,?_,(q b _ a rfl).trans c⟩;rcases e with e|e
   ·obtain⟨M,f,d⟩:=t.same j _ e;cases d with
    |refl=>exact .inl f
    |AY=>exact .inr f
    |grow k d=>rcases d with⟨d,_⟩|⟨_,_,d⟩<;>cases d
   ·obtain⟨M,f,d⟩:=t.same j _ e;cases d with
    |refl=>exact .inr f
    |AY=>exact .inr f
    |grow k d=>rcases d with⟨d,_⟩|⟨_,_,d⟩<;>cases d
 |AY=>exact g.trans h
def OM.BS{l:World}(h:OM w ρ ob)(m:Bv w l){id:Nat}{o:RO}{x:Ob}(n:AA ob id=none)(k:∀b,o.blk? = some b->w.heap.size<=b)
 (v:Qh l (ρ.BS id o) id x):OM l (ρ.BS id o) ((id,x)::ob):=by
 have u:=h.free n;have t:=Vt l m (o:=o) u k;refine⟨λj y f=>?_,λj y f=>?_,λi j p q b c a d g=>?_,λb k=>Oz (h.D7 b k) m.size,LO t h.Dn,λb c a=>?_,⟨n,h.CX⟩⟩
 ·simp only[AA]at f;split at f
  next e=>subst e;simp at f;subst f;exact v
  next e=>refine Qh.tr t (h.BU j y f) (by simp[A0.BS,Ne.symm e]) (λb z c a=>m.keep b (Uf h c a))
 ·simp only[AA];split
  ·exact⟨x,rfl⟩
  next e=>exact h.D1 j y (by simpa[A0.BS,Ne.symm e]using f)
 ·simp only[A0.BS]at c a;split at c
  ·rename_i r;split at a
   next s=>exact r.trans s.symm
   ·simp at c;subst c;have:=Uf h a g;have:=k b d;omega
  ·split at a
   ·simp at a;subst a;have:=Uf h c d;have:=k b g;omega
   ·exact h.inj i j p q b c a d g
 ·obtain⟨i,p,d,g⟩:=c;simp only[A0.BS]at d;split at d
  ·simp at d;subst d;have:=k b g;have:=h.D7 b a;omega
  ·exact h.DT b ⟨i,p,d,g⟩ a
def sB(h:OM w ρ ob){id:Nat}(g:AA ob id=none){t:V}{a:List Value}(d:t.Ac w ρ a)(E:TypeId):
 Tr w ρ (EE w (.cells a.toArray E)) (ρ.BS id (.box w.heap.size t.shape))/\OM (EE w (.cells a.toArray E)) (ρ.BS id (.box w.heap.size t.shape)) ((id,.box E t)::ob)/\
  (V.ptr id []).An (EE w (.cells a.toArray E)) (ρ.BS id (.box w.heap.size t.shape)) (.pointer (some ⟨w.heap.size,0,none⟩)):=by
 have f:=Zj w (.cells a.toArray E);have i:=Vt _ f (o:=.box w.heap.size t.shape) (h.free g) (λb c=>by simp[RO.blk?]at c;omega);refine⟨i,h.BS f g (λb c=>by simp[RO.blk?]at c;omega) ?_,?_⟩
 ·exact⟨w.heap.size,a,by simp[A0.BS],Zt _ _,H6 i _ _ d⟩
 ·have:t.shape.off []=0:=by cases t.shape<;>simp[Sh.off]
  have e:=Jd (w:=EE w (.cells a.toArray E)) (ρ:=ρ.BS id (.box w.heap.size t.shape)) (id:=id) (p:=[]) (b:=w.heap.size) (sh:=t.shape) (by simp[A0.BS]);rw[this]at e;exact e
mutual
def V.Eu:V->Bool
|.agg a=>G8 a
|.BE _|.undef|.any=>false
|_=>true
def G8:List V->Bool
|[]=>true
|x::r=>x.Eu&&G8 r
end
mutual
def D.BU{j:Nat->Prop}:∀(d:D)(b:List Value),d.An w j b->∀c∈b,c.oneCell'=true
|.int _ _,b,h|.bool _,b,h|.AM _,b,h|.AT,b,h|.Bo,b,h|.B1,b,h|.Bl,b,h|.B0,b,h=>by simp[D.An]at h;simp[h,Value.oneCell']
|.AF sz g,b,h=>by
 simp only[D.An]at h;rcases h with⟨_,h⟩|⟨a,i,k,h,_⟩<;>simp[h,Value.oneCell']
|.Bd x,b,h=>by simp only[D.An]at h;obtain⟨a,k,e,_⟩:=h;simp[e,Value.oneCell']
|.iface t x,b,h=>by simp only[D.An]at h;obtain⟨u,e,_⟩:=h;simp[e,Value.oneCell']
|.fn f m l,b,h=>by simp only[D.An]at h;obtain⟨n,o,e,_⟩:=h;simp[e,Value.oneCell']
|.agg g,b,h=>by simp only[D.An]at h;exact Tl g b h
def Tl{i:Nat->Prop}:∀(j:List D)(b:List Value),Bb w i j b->∀c∈b,c.oneCell'=true
|[],b,h=>by simp[Bb]at h;simp[h]
|x::r,b,h=>by
 simp only[Bb]at h;obtain⟨d,e,rfl,f,g⟩:=h;intro c a;rcases DF.1 a with a|a
 ·exact D.BU x d f c a
 ·exact Tl r e g c a
end
mutual
def V.BU:∀(v:V)(j:List Value),v.Eu=true->v.Ac w ρ j->∀c∈j,c.oneCell'=true
|.d x,j,_,h=>by simp only[V.Ac]at h;exact D.BU x j h
|.ptr id p,j,_,h=>by simp only[V.Ac]at h;rcases h with⟨b,J,_,e⟩|⟨_,a,e⟩<;>simp[e,Value.oneCell']
|.sl id n,j,_,h=>by
 simp only[V.Ac]at h;obtain⟨o,u,_,e,g⟩:=h;cases o with
 |box b s=>simp[RO.slice]at g
 |map b=>simp[RO.slice]at g
 |A9 b l c=>simp only[RO.slice]at g;obtain⟨_,⟨x,y,z,rfl⟩,_⟩:=g;simp[e,Value.oneCell']
 |B4=>simp only[RO.slice]at g;obtain⟨_,rfl⟩:=g;simp[e,Value.oneCell']
 |AY=>simp only[RO.slice]at g;obtain⟨x,y,z,rfl⟩:=g;simp[e,Value.oneCell']
|.sd id n,j,_,h=>by
 simp only[V.Ac]at h;obtain⟨o,u,_,e,g⟩:=h;cases o with
 |box b s=>simp[RO.Ds]at g
 |map b=>simp[RO.Ds]at g
 |A9 b l c=>simp only[RO.Ds]at g;obtain⟨_,⟨x,rfl⟩,_⟩:=g;simp[e,Value.oneCell']
 |B4=>simp only[RO.Ds]at g;obtain⟨_,_,rfl⟩:=g;simp[e,Value.oneCell']
 |AY=>simp only[RO.Ds]at g;obtain⟨_,rfl⟩:=g;simp[e,Value.oneCell']
|.mp id,j,_,h=>by simp only[V.Ac]at h;rcases h with⟨_,_,e⟩|⟨_,_,e⟩<;>simp[e,Value.oneCell']
|.hd y id,j,_,h=>by simp only[V.Ac]at h;rcases h with⟨_,_,e⟩|⟨_,_,e⟩<;>cases y<;>simp[e,KU,Value.oneCell']
|.bs id p H n,j,_,h=>by simp only[V.Ac]at h;rcases h with⟨_,_,_,_,_,_,e⟩|⟨_,_,_,_,e⟩<;>simp[e,Value.oneCell']
|.ep id n z i f p,j,_,h=>by
 simp only[V.Ac]at h;obtain⟨o,u,_,e,g⟩:=h;cases o with
 |box b s=>simp[RO.elem]at g
 |map b=>simp[RO.elem]at g
 |A9 b l c=>simp only[RO.elem]at g;obtain⟨_,⟨x,rfl⟩,_⟩:=g;simp[e,Value.oneCell']
 |B4=>simp[RO.elem]at g
 |AY=>simp only[RO.elem]at g;obtain⟨_,rfl⟩:=g;simp[e,Value.oneCell']
|.fn f r q,j,_,h=>by simp only[V.Ac]at h;obtain⟨F,G,e,_⟩:=h;simp[e,Value.oneCell']
|.agg m,j,k,h=>by simp only[V.Ac]at h;simp only[V.Eu]at k;exact ZH m j k h
|.iface t x,j,_,h=>by simp only[V.Ac]at h;obtain⟨u,e,_⟩:=h;simp[e,Value.oneCell']
|.BE m,j,k,h|.undef,j,k,h|.any,j,k,h=>by simp[V.Eu]at k
def ZH:∀(e:List V)(b:List Value),G8 e=true->Br w ρ e b->∀c∈b,c.oneCell'=true
|[],b,_,h=>by simp[Br]at h;simp[h]
|x::r,b,d,h=>by
 simp only[Br]at h;simp only[G8,As]at d;obtain⟨f,g,rfl,i,j⟩:=h;intro c a;rcases DF.1 a with a|a
 ·exact V.BU x f d.1 i c a
 ·exact ZH r g d.2 j c a
end
def ZI{v:V}(h:v.Eu=true):v≠.any:=by intro e;subst e;simp[V.Eu]at h
def Xc{x:Ob}:∀(ob:AB)(id j:Nat),(∃y,AA ob id=some y)->AA (AG ob id x) j=if j=id then some x else AA ob j
|[],id,j,h=>by simp[AA]at h
|(k,y)::r,id,j,h=>by
 simp only[AG];split
 ·rename_i e;subst e;simp only[AA];by_cases a:k=j
  ·simp[a]
  ·simp[a,Ne.symm a]
 ·rename_i e;simp only[AA]at h⊢;rw[Af e]at h;rw[Xc r id j h];by_cases a:k=j
  ·subst a;simp[e]
  ·simp[a]
def UE(h:OM w ρ ob){id:Nat}{w2:World}(F:∃y,AA ob id=some y)(u:w2.heap.size=w.heap.size)(z:∀j,(∀o,ρ.m id=some o->o.blk?≠some j)->w2.heap[j]? = w.heap[j]?)
 (v:w2.tape=w.tape) (t:w2.os=w.os) (k:w2.output=w.output) (n:w.drawn<=w2.drawn):Tr w ρ w2 (ρ.BS id .AY)/\OM w2 (ρ.BS id .AY) (AG ob id .AY)/\∀b o,ρ.m id=some o->o.blk? = some b->¬B2 (ρ.BS id .AY) b:=by
 have x:Tr w ρ w2 (ρ.BS id .AY):=by
  refine⟨by omega,λb g _=>z b (λo a c=>g ⟨id,o,a,c⟩),λb g=>.inl ?_,rfl,rfl,λj o r=>?_,v,t,k,n⟩
  ·obtain⟨j,o,a,c⟩:=g;simp only[A0.BS]at a;split at a
   ·simp at a;subst a;simp[RO.blk?]at c
   ·exact⟨j,o,a,c⟩
  ·by_cases e:j=id
   ·exact⟨.AY,by simp[A0.BS,e],.AY o⟩
   ·exact⟨o,by simp[A0.BS,e,r],.refl o⟩
 have s:∀b o,ρ.m id=some o->o.blk? = some b->¬B2 (ρ.BS id .AY) b:=by
  rintro b o a c (⟨j,p,d,f⟩|d)
  ·simp only[A0.BS]at d;split at d
   ·simp at d;subst d;simp[RO.blk?]at f
   next e=>exact e (h.inj j id p o b d a f c)
  ·exact h.DT b ⟨id,o,a,c⟩ d
 refine⟨x,⟨λj y l=>?_,λj o r=>?_,λi j p q b a c d f=>?_,λb g=>by rw[u];exact h.D7 b g,LO x h.Dn,λb g=>?_,h.CX.set⟩,s⟩
 ·rw[Xc ob id j F]at l;split at l
  next e=>subst e;simp at l;subst l;simp[Qh,A0.BS]
  next e=>exact Qh.tr x (h.BU j y l) (by simp[A0.BS,e]) (λb p a c=>z b (λo d f=>e (h.inj j id p o b a d c f)))
 ·rw[Xc ob id j F];split
  ·exact⟨_,rfl⟩
  next e=>exact h.D1 j o (by simpa[A0.BS,e]using r)
 ·simp only[A0.BS]at a c;split at a
  ·simp at a;subst a;simp[RO.blk?]at d
  ·split at c
   ·simp at c;subst c;simp[RO.blk?]at f
   ·exact h.inj i j p q b a c d f
 ·obtain⟨j,o,a,c⟩:=g;simp only[A0.BS]at a;split at a
  ·simp at a;subst a;simp[RO.blk?]at c
  ·exact h.DT b ⟨j,o,a,c⟩
def R6(h:OM w ρ ob){id:Nat}(a:∃y,AA ob id=some y):Tr w ρ w (ρ.BS id .AY)/\OM w (ρ.BS id .AY) (AG ob id .AY)/\∀b o,ρ.m id=some o->o.blk? = some b->¬B2 (ρ.BS id .AY) b:=
 UE h a rfl (λ_ _=>rfl) rfl rfl rfl (BV _)
def Ro(h:OM w ρ ob){id E e:Nat}{j:List D}(s:AA ob id=some (.A9 E e j))(m:e≠0){u:Value}(g:(V.sl id j.length).An w ρ u):
 (V.d (.AF e j)).An w (ρ.BS id .AY) u:=by
 obtain⟨y,_,l⟩:=R6 h ⟨_,s⟩;rw[Yj]at g;obtain⟨o,c,g⟩:=g;rw[Yq];rcases h.BU id _ s with⟨a,rfl⟩|⟨b,f,n,z,a,p,q,r,t⟩
 ·rw[c]at a;simp at a;subst a;exact .inl ⟨rfl,g.2⟩
 ·rw[c]at a;simp at a;subst a;have x:=g.2.2 rfl;refine .inr ⟨_,f,n,x,?_,⟨λ_=>⟨rfl,l b _ c rfl,Xi p⟩,λi v=>?_⟩,Fy y.mono _ _ q,r⟩
  ·have k:n.length=j.length*e:=by rw[Gf _ _ q,EO _ r]
   have:j.length*e<=f*e:=by rw[<-t,<-k];simp
   exact QV this (Na m)
  ·simp[World.cell?,p,JH,v]
def Dj(h:OM w ρ ob){id:Nat}{t t':V}{b:Nat}{p a:List Value}{E:TypeId}(n:AA ob id=some (.box E t))(k:ρ.m id=some (.box b t.shape))
 (u:w.heap[b]? = some (.cells (List.toArray p) E (0,0))) (v:t'.shape=t.shape) (l:t'.Ac w ρ a):
 Tr w ρ (w.setRow b a.toArray) ρ/\OM (w.setRow b a.toArray) ρ (AG ob id (.box E t')):=by
 have d:Tr w ρ (w.setRow b a.toArray) ρ:=by
  refine⟨by simp,λj i _=>setRow_other w b j _ (λe=>i ?_),λ_ h=>.inl h,rfl,rfl,λ_ o h=>⟨o,h,.refl o⟩,rfl,rfl,rfl,BV _⟩;subst e;exact⟨id,_,k,rfl⟩
 refine⟨d,λj y c=>?_,λj o i=>?_,h.inj,λf g=>by simpa using h.D7 f g,LO d h.Dn,h.DT,h.CX.set⟩
 ·rw[Xc ob id j ⟨_,n⟩]at c;split at c
  next e=>subst e;simp at c;subst c;exact⟨b,a,by rw[v];exact k,setRow_heap w b _ _ E _ u,H6 d _ _ l⟩
  next e=>refine Qh.tr d (h.BU j y c) rfl (λf o r s=>setRow_other w b f _ (λq=>e ?_));subst q;exact h.inj j id _ _ _ r k s rfl
 ·rw[Xc ob id j ⟨_,n⟩];split
  ·exact⟨_,rfl⟩
  ·exact h.D1 j o i
def X4{x y:Ob}{id:Nat}:∀(ob:AB),AG (AG ob id x) id y=AG ob id y
|[]=>rfl
|(k,z)::r=>by
 simp only[AG];split
 next e=>simp[AG,e]
 next e=>simp[AG,e,X4 r]
def OM.swap(h:OM w ρ ob){id:Nat}{x x':Ob}(b:AA ob id=some x)(d:Qh w ρ id x'):OM w ρ (AG ob id x'):=by
 refine⟨λj y a=>?_,λj o c=>?_,h.inj,h.D7,h.Dn,h.DT,h.CX.set⟩
 ·rw[Xc ob id j ⟨_,b⟩]at a;split at a
  next e=>subst e;simp at a;subst a;exact d
  ·exact h.BU j y a
 ·rw[Xc ob id j ⟨_,b⟩];split
  ·exact⟨_,rfl⟩
  ·exact h.D1 j o c
def Io:Ob->Nat->V->Ob
|.Ao E a b,i,t=>.Ao E a (b.set i t)
|.A9 E a b,i,.d x=>.A9 E a (b.set i x)
|.A9 E a b,i,t=>.Ao E a ((b.map .d).set i t)
|o,_,_=>o
def Xyl(h:OM w ρ ob){id n i:Nat}{o:Ob}{v:V}(Y:AA ob id=some o)(s:W2 n i (some o)=some v):
 ∃b a E l G r,ρ.m id=some (.A9 b n a)/\w.heap[b]? = some (.cells (List.toArray (l++(G++r))) E (0,0))/\l.length=i*v.size/\v.Ac w ρ G/\
  ∀(f:V)(c:List Value),f.shape=v.shape->f.Ac w ρ c->Tr w ρ (w.setRow b (l++(c++r)).toArray) ρ/\OM (w.setRow b (l++(c++r)).toArray) ρ (AG ob id (Io o i f)):=by
 have W:∀(E q:Nat)(F:List V)(b a:Nat)(H k:List Value),ρ.m id=some (.A9 b n a)->w.heap[b]? = some (.cells (List.toArray (H++k)) E (0,0))->Br w ρ F H->(∀x∈F,x.size=q)->
  (H++k).length=a*q->n=F.length->F[i]? = some v->(∀N f g,N.heap[b]? = some (.cells (List.toArray (g++k)) E (0,0))->Br N ρ (F.set i f) g->f.size=q->(g++k).length=a*q->Qh N ρ id (Io o i f))->
  ∃b a E l G r,ρ.m id=some (.A9 b n a)/\w.heap[b]? = some (.cells (List.toArray (l++(G++r))) E (0,0))/\l.length=i*v.size/\v.Ac w ρ G/\
  ∀(f:V)(c:List Value),f.shape=v.shape->f.Ac w ρ c->Tr w ρ (w.setRow b (l++(c++r)).toArray) ρ/\OM (w.setRow b (l++(c++r)).toArray) ρ (AG ob id (Io o i f)):=by
  intro E q F b a H k u L O J R h6 h7 p;obtain⟨l,G,r,e1,e2,g1,g2,g3⟩:=NV O h7;have hv:v.size=q:=J v (List.mem_of_getElem? h7);have ac:i<F.length:=(EK.1 h7).1;refine⟨b,a,E,l,G,r++k,u,by rw[L,e1];simp,?_,g2,λf c hs hr=>?_⟩
  ·rw[e2,<-Ki,X3 (z:=q) _ (λx p=>J x (Fe p)),E9,Gi (by omega),hv]
  have T:c.length=G.length:=by rw[E7 _ _ hr,E7 _ _ g2,hs]
  have t1:Tr w ρ (w.setRow b (l++(c++(r++k))).toArray) ρ:=by
   refine⟨by simp,λj hj _=>setRow_other w b j _ (λe=>hj ?_),λ_ h=>.inl h,rfl,rfl,λ_ o h=>⟨o,h,.refl o⟩,rfl,rfl,rfl,BV _⟩;subst e;exact⟨id,_,u,rfl⟩
  refine⟨t1,λj y t=>?_,λj o hj=>?_,h.inj,λb' ab=>by simpa using h.D7 b' ab,LO t1 h.Dn,h.DT,h.CX.set⟩
  ·rw[Xc ob id j ⟨_,Y⟩]at t;split at t
   ·rename_i e;subst e;simp at t;subst t;refine p _ f (l++(c++r)) (by rw[setRow_heap w b _ _ E _ L];simp) ?_ (by unfold V.size;rw[hs];exact hv) ?_
    ·refine G6 t1 _ _ ?_;have e8:F.set i f=F.take i++(f::F.drop (i+1)):=Ts.trans (by simp[ac]);rw[e8];refine Ok g1 ?_;simp only[Br];exact⟨_,r,rfl,hr,g3⟩
    ·rw[<-R,e1];simp[T]
   next e=>refine Qh.tr t1 (h.BU j y t) rfl (λb' o' M K=>setRow_other w b b' _ (λe2=>e ?_));subst e2;exact h.inj j id _ _ _ M u K rfl
  ·rw[Xc ob id j ⟨_,Y⟩];split
   ·exact⟨_,rfl⟩
   ·exact h.D1 j o hj
 cases o with
 |Ao E q X=>
  simp only[W2]at s;split at s
  ·rename_i U;rcases h.BU id _ Y with⟨_,rfl⟩|⟨b,a,H,k,u,L,O,J,R⟩
   ·simp at s
   ·refine W E q X b a H k (by rw[U];exact u) L O J R U s (λN f g M K Z q4=>.inr ⟨b,a,g,k,by simpa[Io]using u,M,K,λx p=>?_,q4⟩);rcases QW p with p|rfl
    ·exact J x p
    ·exact Z
  ·cases s
 |A9 E q X=>
  simp only[W2]at s;split at s
  ·rename_i U;rcases h.BU id _ Y with⟨_,rfl⟩|⟨b,a,H,k,u,L,O,J,R⟩
   ·simp at s
   ·have Q:∀x∈X.map V.d,x.size=q:=λx p=>by
     obtain⟨y,t,rfl⟩:=C9.1 p;simp[V.size,V.shape,CC,J y t]
    refine W E q (X.map .d) b a H k (by rw[U];exact u) L ((JD _ _).2 O) Q R (by simpa using U) s (λN f g M K Z q4=>?_);have aa:Qh N ρ id (.Ao E q ((X.map .d).set i f)):=.inr ⟨b,a,g,k,by simpa using u,M,K,λx p=>by
     rcases QW p with p|rfl
     ·exact Q x p
     ·exact Z,q4⟩
    cases f with
    |d x=>
     refine .inr ⟨b,a,g,k,by simpa[Io]using u,M,?_,λy t=>?_,q4⟩
     ·rw[<-Fg,JD]at K;exact K
     ·rcases QW t with t|rfl
      ·exact J y t
      ·simpa[V.size,V.shape,CC]using Z
    |_=>exact aa
  ·cases s
 |_=>simp[W2]at s
def Ym8(h:OM w ρ ob){id:Nat}(d:AA ob id=none):
 Tr w ρ (EE w (.map #[] 0)) (ρ.BS id (.map w.heap.size))/\OM (EE w (.map #[] 0)) (ρ.BS id (.map w.heap.size)) ((id,.map [])::ob)/\
  (V.mp id).An (EE w (.map #[] 0)) (ρ.BS id (.map w.heap.size)) (.map (some w.heap.size)):=by
 have c:=Zj w (.map #[] 0);have e:=Vt _ c (o:=.map w.heap.size) (h.free d) (λb a=>by simp[RO.blk?]at a;omega);refine⟨e,h.BS c d (λb a=>by simp[RO.blk?]at a;omega) ?_,?_⟩
 ·exact⟨w.heap.size,[],0,by simp[A0.BS],Zt _ _,rfl,rfl,trivial⟩
 ·exact O9.2 (.inl ⟨w.heap.size,by simp[A0.BS],rfl⟩)
def EB(w:World)(b:Nat)(o:Obj):World:={w with heap:=w.heap.setIfInBounds b o}
def UA(w:World){b:Nat}(o:Obj)(h:b<w.heap.size):(EB w b o).heap[b]? = some o:=by
 show(w.heap.setIfInBounds b o)[b]? = some o;simp[h]
def Zp(w:World){b j:Nat}(o:Obj)(h:b≠j):(EB w b o).heap[j]? = w.heap[j]?:=by
 show(w.heap.setIfInBounds b o)[j]? = w.heap[j]?;simp[Tu,h]
def Vh(w:World)(b:Nat)(o:Obj):(EB w b o).heap.size=w.heap.size:=by
 show(w.heap.setIfInBounds b o).size=w.heap.size;simp
def xU(h:OM w ρ ob){id:Nat}{u c:List (D×V)}{b:Nat}{l a:List MapEntry}{g clk':Nat}(s:AA ob id=some (.map u))(p:ρ.m id=some (.map b))
 (z:w.heap[b]? = some (.map l.toArray g)) (q:X6 w ρ c a) (k:clk'=a.length/\Gm 0 a):
 Tr w ρ (EB w b (.map a.toArray clk')) ρ/\OM (EB w b (.map a.toArray clk')) ρ (AG ob id (.map c)):=by
 have f:Tr w ρ (EB w b (.map a.toArray clk')) ρ:=by
  refine⟨by rw[Vh];exact BV _,λj n _=>Zp w _ (λe=>n ?_),λ_ h=>.inl h,rfl,rfl,λ_ o h=>⟨o,h,.refl o⟩,rfl,rfl,rfl,BV _⟩;subst e;exact⟨id,_,p,rfl⟩
 refine⟨f,λj y d=>?_,λj o n=>?_,h.inj,λr i=>by rw[Vh];exact h.D7 r i,LO f h.Dn,h.DT,h.CX.set⟩
 ·rw[Xc ob id j ⟨_,s⟩]at d;split at d
  next e=>subst e;simp at d;subst d;exact⟨b,a,clk',p,UA w _ (Xi z),X6.tr f _ _ q,k⟩
  next e=>refine Qh.tr f (h.BU j y d) rfl (λr o v x=>Zp w _ (λt=>e ?_));subst t;exact h.inj j id _ _ _ v p x rfl
 ·rw[Xc ob id j ⟨_,s⟩];split
  ·exact⟨_,rfl⟩
  ·exact h.D1 j o n
end
def Is(P:Program)(o:Oper)(a:Act)(next:Act->World->Prop)(Q:Exit->Act->World->Prop):Result Next->Prop
|.ok (.value v) e=>next (a.put o.dst v) e
|.ok .skip e=>next (a.put o.dst undef) e
|.ok (.enter f g) e=>Calls P f g e λ
 |.returned v,c=>next (a.put o.dst v) c
 |.panicked b,c=>Q (.panic b) a c
 |.outgrown,_=>LetsOut Q
|.ok (.round l f i d h) e=>RoundIn Fence.wide 0 P l f i d h e λ
 |.returned v,c=>next (a.put o.dst v) c
 |.panicked b,c=>Q (.panic b) a c
 |.outgrown,_=>LetsOut Q
|.halt (.panic v) e=>Q (.panic [{v,recovered:=false}]) a e
|_=>False
def Dw(P:Program)(o:Oper)(a:Act)(w:World)(next:Act->World->Prop)(Q:Exit->Act->World->Prop):Prop:=
 Is P o a next Q ((execOp a.eval o).run P w)
def GB:Option Nat->Fence
|none=>Fence.wide
|some l=>Fence.wide.inRound l
def WD(r:Option Nat)(f:Nat):(GB r).fn f:=by cases r<;>exact trivial
def wN(r:Option Nat):(GB r).depth=none:=by cases r<;>rfl
def wO(r:Option Nat):(GB r).round=r:=by cases r<;>rfl
def wM{r:Option Nat}{n:Nat}{P:Program}{f:Nat}{a:Array Value}{w:World}{R:Ending->World->Prop}(h:Calls P f a w R):CallsIn (GB r) n P f a w R:=by
 cases r with
 |none=>exact callsIn_wide.2 h
 |some l=>exact(callsIn_wide (n:=n).2 h).inRound l
def Xxo{r:Option Nat}{n:Nat}{P:Program}{l f:Nat}{d:Array Value}{a b:Code}{w:World}{R:Ending->World->Prop}(h:RoundIn Fence.wide 0 P l f d a b w R):RoundIn (GB r) n P l f d a b w R:=by
 have e:RoundIn Fence.wide n P l f d a b w R:=⟨h.1,λc g _=>h.2 c g (room_wide _)⟩
 cases r with
 |none=>exact e
 |some j=>exact e
section
variable {P:Program} {ops:Array Oper} {Q:Exit->Act->World->Prop} {md:Region.Mode} {S:World->Prop}
def Yhb{o:Oper}(d:∀c,o.op≠.defer c){a:Act}{w:World}{next:Act->World->Prop}{r:Option Nat}(h:Dw P o a w next Q):o.wpIn (GB r) 0 P a w next Q:=by
 unfold Oper.wpIn;refine⟨λf _=>WD r f,?_⟩;have e:o.semAt (GB r).round a.eval=execOp a.eval o:=by
  rw[wO];cases r with
  |none=>exact Oper.semAt_none _ _
  |some l=>exact Oper.semAt_some l _ o d
 rw[e];unfold Dw at h;generalize (execOp a.eval o).run P w=x at h⊢;have b:(GB r).depth.isSome=true->1<=0:=λh=>by rw[wN]at h;cases h
 cases x with
 |ok n g=>
  cases n<;>simp only[Is]at h<;>simp only[Oper.uponIn]
  case value=>exact h
  case skip=>exact h
  case enter=>exact⟨b,wM h⟩
  case round=>exact⟨b,Xxo h⟩
 |halt x g=>
  cases x<;>simp only[Is]at h<;>simp only[Oper.uponIn];exact h
def Xwo{o:Oper}{a:Act}{w:World}{K f:Act->World->Prop}(h:∀a w,K a w->f a w)(b:Dw P o a w K Q):Dw P o a w f Q:=by
 unfold Dw at *;generalize (execOp a.eval o).run P w=r at *;cases r with
 |ok n g=>
  cases n<;>simp only[Is]at b⊢
  case value=>exact h _ _ b
  case skip=>exact h _ _ b
  case enter=>exact Calls.mono b (λe d c=>by cases e<;>first|exact h _ _ c|exact c)
  case round=>exact RoundIn.mono b (λe d c=>by cases e<;>first|exact h _ _ c|exact c)
 |halt x g=>cases x<;>simp only[Is]at b⊢<;>exact b
def HC(P:Program)(ops:Array Oper)(Q:Exit->Act->World->Prop)(i:Nat)(K:Act->World->Prop)(a:Act)(w:World):Prop:=
 match ops[i]? with
 |none=>K a w
 |some o=>if Region.wanted o (yielded ops a.tmps) then Dw P o a w K Q else K (a.put o.dst undef) w
def Uk{i:Nat}{a:Act}{w:World}{K d:Act->World->Prop}(h:∀a w,K a w->d a w)(b:HC P ops Q i K a w):HC P ops Q i d a w:=by
 unfold HC at *;split
 ·exact h _ _ (by simpa[*]using b)
 ·rename_i o e;simp only[e]at b;split
  next c=>simp only[c,Cz]at b;exact Xwo h b
  next c=>simp only[c]at b;exact h _ _ b
def xV{i:Nat}{o:Oper}{v:Value}{a:Act}(d:ops[i]? = some o)(f:YieldsIf P ops S o v a)
 {K:Act->World->Prop} {w:World} (c:S w) (h:K (a.put o.dst v) w):HC P ops Q i K a w:=by
 unfold HC;simp only[d];rcases f with⟨b,e⟩|⟨b,rfl⟩
 ·simp only[b,Cz,Dw,e w c,Is];exact h
 ·simp only[b,BF,Ci];exact h
def Xsm{j:Nat}{g i:Oper}{v:Value}(M:ops[j]? = some i)(s:g.apart ops i=true)
 (t:∀p b,g.op≠.select p b) (y:∀p b,i.op≠.select p b)
 (q:∀c a w,Q (.panic c) (a.put g.dst v) w->Q (.panic c) a w) {K:Act->World->Prop} {a:Act} {w:World}
 (m:YieldsIf P ops S g v a) (h:HC P ops Q j K (a.put g.dst v) w):
 HC P ops Q j (λH F=>YieldsIf P ops S g v H/\K (H.put g.dst v) F) a w:=by
 obtain⟨J,o,L⟩:=Oper.apart_spec s;have d:∀(a:Act),YieldsIf P ops S g v a->∀u,YieldsIf P ops S g v (a.put i.dst u):=λa m u=>
  m.of_same (execOp_put g t a i.dst u L) (wanted_put g a i.dst u L)
 unfold HC at *;simp only[M]at *;rw[wanted_put i a g.dst v J]at h;split
 ·rename_i z;simp only[z,Cz]at h;unfold Dw at *;rw[execOp_put i y a g.dst v J]at h;generalize (execOp a.eval i).run P w=r at *;cases r with
  |ok n F=>
   cases n<;>simp only[Is]at h⊢
   case value u=>exact⟨d a m u,by rw[<-Act.put_comm a v u o];exact h⟩
   case skip=>exact⟨d a m _,by rw[<-Act.put_comm a v undef o];exact h⟩
   case enter f args=>
    refine Calls.mono h λe G k=>?_;cases e with
    |returned u=>exact⟨d a m u,by rw[<-Act.put_comm a v u o];exact k⟩
    |panicked c=>exact q _ _ _ k
    |outgrown=>exact k
   case round l f tm as bd=>
    refine RoundIn.mono h λe G k=>?_;cases e with
    |returned u=>exact⟨d a m u,by rw[<-Act.put_comm a v u o];exact k⟩
    |panicked c=>exact q _ _ _ k
    |outgrown=>exact k
  |halt x F=>
   cases x<;>simp only[Is]at h⊢
   case panic u=>exact q _ _ _ h
 next z=>simp only[z]at h;exact⟨d a m _,by rw[<-Act.put_comm a v undef o];exact h⟩
def U1(P:Program)(ops:Array Oper)(Q:Exit->Act->World->Prop):List Oper->Act->World->Prop
|[],a,w=>Q .normal a w
|o::b,a,w=>if Region.wanted o (yielded ops a.tmps) then Dw P o a w (U1 P ops Q b) Q else U1 P ops Q b (a.put o.dst undef) w
def de{r:Option Nat}:∀(l:List Oper),(∀o∈l,∀c,o.op≠.defer c)->∀(a:Act)(w:World),U1 P ops Q l a w->wpListIn (GB r) 0 P ops Q l a w
|[],_,a,w,h=>h
|o::b,e,a,w,h=>by
 simp only[U1]at h;simp only[wpListIn];split
 next g=>rw[BL g]at h;exact Yhb (e o (by simp)) (Xwo (λj k=>de b (λi d=>e i (by simp[d])) j k) h)
 next g=>rw[Af g]at h;exact⟨λf _=>WD r f,de b (λi d=>e i (by simp[d])) _ _ h⟩
def SL(P:Program)(md:Region.Mode)(ops:Array Oper)(Q:Exit->Act->World->Prop):Nat->Array Bool->Act->World->Prop
|0,b,a,w=>Region.ready md ops b=[]/\Q .normal a w
|c+1,b,a,w=>
 (Region.ready md ops b=[]->Q .normal a w)/\
 ∀i∈Region.ready md ops b,HC P ops Q i (SL P md ops Q c (b.setIfInBounds i true)) a w
def Yd0{r:Option Nat}(e:∀o∈ops.toList,∀c,o.op≠.defer c){i:Nat}{K:Act->World->Prop}{a:Act}{w:World}(h:HC P ops Q i K a w):wpOpIn (GB r) 0 P ops Q i K a w:=by
 unfold HC at h;unfold wpOpIn;cases b:ops[i]? with
 |none=>simpa[b]using h
 |some o=>
  simp only[b]at h⊢;split
  next d=>rw[BL d]at h;exact Yhb (e o (by simpa using Tv b)) h
  next d=>rw[Af d]at h;exact⟨λf _=>WD r f,h⟩
def yK{r:Option Nat}(e:∀o∈ops.toList,∀c,o.op≠.defer c):∀(b:Nat)(d:Array Bool)(a:Act)(w:World),SL P md ops Q b d a w->wpAnyIn (GB r) 0 P md ops Q b d a w
|0,_,_,_,h=>h
|b+1,_,_,_,h=>⟨h.1,λi j=>wpOpIn_mono (λf k g=>yK e b _ f k g) (Yd0 e (h.2 i j))⟩
end
end Go.Ab
