/- Joined texts, part 1 of 13. Operations that make or write memory, on abstract values: their text, and that they do it. Over any program; no condition. -/
import Derived.IntWalk
import Derived.Deep.Quiet
import Derived.Laws.Sem
import Derived.Laws.World
import Derived.Laws.Cells
import Derived.Laws.Strings
import Derived.Laws.Concat
import Derived.Laws.StructEq
import Derived.ChangeKeysEq
import Derived.Lib.UnsafeStr
import Derived.Laws.CopyRow
import Derived.Laws.BytesString
import Derived.OrdersHeld
import Derived.OrdersIn
import Derived.RangeFuncLeaves
import Derived.RangeFuncCalls
import Derived.Tactics
import Derived.TacticsIn
set_option linter.unusedSimpArgs false
set_option linter.unusedVariables false
set_option linter.unusedSectionVars false
set_option linter.defProp false
namespace Go
def QV:=@Nat.lt_or_ge
def Kg:=@Nat.add_mul
def Uac:=@List.take_length_add_append
def WS:=@List.drop_length_add_append
def EV:=@List.drop_eq_getElem_cons
def dV:=@Nat.add_assoc
def BY:=@Bool.false_eq_true
def BX:=@Bool.and_eq_true
def dW:=@Nat.eq_of_beq_eq_true
def B9:=@Nat.le_refl
def IE:=@Nat.le_trans
def Dj:=@List.map_cons
def HF:=@List.getElem?_eq_some_iff
def QW:=@List.take_append_drop
def Sy:=@List.map_take
def ED:=@Option.some.injEq
def Dd:=@List.length_append
def Il:=@List.map_set
def Sz:=@List.ext_getElem?
def O4:=@List.append_assoc
def WT:=@List.set_eq_take_append_cons_drop
def Fb:=@List.mem_cons
def CR:=@if_false
def O5:=@Nat.lt_of_lt_of_le
def Nt:=@List.length_eq_one_iff
def Mg:=@List.cons.injEq
def Ld:=@and_true
def Le:=@Option.isSome_iff_exists
def DH:=@congrArg
def E2:=@List.mem_map
def Lf:=@List.mem_of_mem_take
def Mf:=@List.length_take
def O2:=@Nat.min_eq_left
def O3:=@Nat.pos_of_ne_zero
def DS:=@List.getElem_mem
def CP:=@if_true
def WU:=@List.getElem?_append_left
def EW:=@List.getElem?_eq_getElem
def FL:=@Nat.zero_le
def vN:=@List.drop_take
def dY:=@List.eq_nil_of_length_eq_zero
def F0:=@List.take_succ_eq_append_getElem
def QZ:=@List.take_of_length_le
def Im:=@List.drop_of_length_le
def Kh:=@List.map_nil
def EN:=@beq_iff_eq
def A5:=@if_neg
def D2:=@decide_eq_true_eq
def JQ:=@Bool.not_eq_true'
def Hg:=@Option.map_eq_some_iff
def WV:=@List.range'_succ
def Fl:=@List.all_eq_true
def FM:=@List.mem_append
def S1:=@Nat.le_of_mul_le_mul_right
def Bv:=@if_pos
def Ki:=@Prod.mk.injEq
def JR:=@Option.some.inj
def Nu:=@List.getD_eq_getElem?_getD
def HH:=@List.append_nil
def RA:=@Nat.zero_add
def O7:=@Array.getElem?_append
def RB:=@Nat.mul_le_mul_right
def Mh:=@List.map_append
def HG:=@Bool.or_eq_false_iff
def S0:=@decide_eq_false_iff_not
def Mi:=@Option.isNone_iff_eq_none
def QX:=@beq_eq_false_iff_ne
def vM:=@List.all_append
def O6:=@List.mem_singleton
def dX:=@List.getElem?_eq_none
def E3:=@Bool.eq_iff_iff
def QY:=@Bool.eq_false_iff
def Io:=@List.nodup_append
def S4:=@decide_eq_false
def HI:=@List.take_length
def RE:=@List.length_eq_zero_iff
def Fc:=@Bool.true_and
def IF:=@Option.bind_eq_some_iff
def WX:=@List.mem_cons_of_mem
def Mk:=@List.takeWhile_cons
def Ch:=@Result.andThen_ok
def Cm:=@Sem.run_bind
def DD:=@Sem.run_pure
def Dk:=@Option.bind_some
def F1:=@List.cons_append
def Gx:=@List.nil_append
def Ip:=@List.length_cons
def GN:=@List.drop_length
def Ml:=@List.length_singleton
def S5:=@List.length_nil
def Mm:=@Option.map_some
def Kk:=@List.length_map
def Kl:=@List.suffix_rfl
def S6:=@List.length_pos_iff
def RF:=@Int.eq_ofNat_of_zero_le
def Mn:=@List.all_cons
def RG:=@List.flatMap_cons
def dZ:=@List.take_append_getElem
def Mj:=@List.set_set
def WW:=@List.Nodup.length_le_of_subset
def O8:=@List.map_toArray
def RD:=@List.ext_getElem
def vO:=@List.take_append_of_le_length
def S3:=@Option.map_none
def Kj:=@Bool.not_false
end Go
theorem Go.Ab.w_i (n:Int)(h:-9223372036854775808<=n/\n<=9223372036854775807):Go.IntKind.i64.wrap n=n:=Go.IntWalk.i64_in n h
theorem Go.Ab.w_s (k:Nat)(h:k<9223372036854775807):Go.IntKind.i64.wrap ((k:Int)+1)=(k:Int)+1:=Go.IntWalk.i64_in _ (by omega)
theorem Go.Ab.w_t {k n:Nat}(h:k<n)(g:n<=9223372036854775807):Go.IntKind.i64.wrap ((k:Int)+1)=(k:Int)+1:=Go.IntWalk.i64_in _ (by omega)
namespace Go.Ab
open Go
inductive D where
|int (k:IntKind) (n:Int)
|bool (b:Bool)
|AV (s:List UInt8)
|Ah
|AH (sz:Nat) (xs:List D)
|agg (xs:List D)
|CO
|CV
|B3
|Cj
|CD (x:D)
|iface (t:Nat) (x:D)
|fn (f:Nat) (fi ca:List D)
deriving Inhabited
def D.isAgg:D->Bool
|.agg _=>true
|_=>false
mutual
def D.sz:D->Nat
|.agg a=>DZ a
|_=>1
def DZ:List D->Nat
|[]=>0
|x::r=>x.sz+DZ r
end
def C5(w:World)(c:Nat->Prop)(a:Addr)(b:List Value):Prop:=
 (b≠[]->a.spot=none/\¬c a.block/\a.block<w.heap.size)/\∀i (h:i<b.length),w.cell? ⟨a.block,a.off+i,none⟩=some b[i]
mutual
def D.A1(w:World)(d:Nat->Prop):D->List Value->Prop
|.int k n,c=>c=[.int k n]
|.bool b,c=>c=[.bool b]
|.AV s,c=>c=[.string ⟨s.toArray⟩]
|.Ah,c=>c=[.slice none 0 0]
|.AH sz e,c=>(e=[]/\c=[.slice none 0 0])\/∃a g h,c=[.slice (some a) e.length g]/\e.length<=g/\C5 w d a h/\CT w d e h/\∀x∈e,x.sz=sz
|.agg e,c=>CT w d e c
|.CO,c=>c=[.nilIface]
|.CV,c=>c=[.pointer none]
|.B3,c=>c=[.nilFunc]
|.Cj,c=>c=[.map none]
|.CD x,c=>∃a h,c=[.pointer (some a)]/\a.spot=none/\C5 w d a h/\D.A1 w d x h
|.iface t x,c=>∃u,c=[.iface t u]/\((x.isAgg=true/\∃i,u=.agg i.toArray/\D.A1 w d x i)\/(x.isAgg=false/\D.A1 w d x [u]))
|.fn f o m,c=>∃j l,c=[.func (.func f) j.toArray l.toArray]/\GL w d o j/\GL w d m l
def GL(w:World)(a:Nat->Prop):List D->List Value->Prop
|[],b=>b=[]
|x::r,b=>∃u d,b=u::d/\((x.isAgg=true/\∃c,u=.agg c.toArray/\D.A1 w a x c)\/(x.isAgg=false/\D.A1 w a x [u]))/\GL w a r d
def CT(w:World)(d:Nat->Prop):List D->List Value->Prop
|[],a=>a=[]
|x::r,a=>∃b c,a=b++c/\D.A1 w d x b/\CT w d r c
end
def Gb(w:World)(c:Nat->Prop)(d:World)(a:Nat->Prop):Prop:=
 ∀b,¬c b->b<w.heap.size->d.heap[b]? = w.heap[b]?/\¬a b
theorem cell?_congr{w w':World}{b:Nat}(h:w'.heap[b]? = w.heap[b]?)(o:Nat):w'.cell? ⟨b,o,none⟩=w.cell? ⟨b,o,none⟩:=by
 simp[World.cell?,h]
theorem Xu{w:World}{b:Nat}{o:Obj}(h:w.heap[b]? = some o):b<w.heap.size:=by
 grind
theorem Gb.refl(w:World)(a:Nat->Prop):Gb w a w a:=λ_ h _=>⟨rfl,h⟩
def Gb.trans{w f d:World}{g c a:Nat->Prop}(h:Gb w g f c)(i:Gb f c d a):Gb w g d a:=by
 intro b j k;obtain⟨e,n⟩:=h b j k;have l:b<f.heap.size:=by
  grind
 obtain⟨m,o⟩:=i b n l;simp_all
theorem C5.mono{w k:World}{j c:Nat->Prop}{a:Addr}{d:List Value}(m:Gb w j k c)(h:C5 w j a d):C5 k c a d:=by
 obtain⟨f,l⟩:=h;refine⟨λb=>?_,λi g=>?_⟩
 ·obtain⟨o,p,q⟩:=f b;obtain⟨e,n⟩:=m _ p q;grind
 ·have b:d≠[]:=by intro h;simp[h]at g
  obtain⟨_,p,q⟩:=f b;rw[cell?_congr (m _ p q).1];exact l i g
mutual
theorem Ih{w G:World}{F ow':Nat->Prop}(m:Gb w F G ow'):∀(d:D)(c:List Value),d.A1 w F c->d.A1 G ow' c
|.int k n,c,h=>by simpa[D.A1]using h
|.bool b,c,h=>by simpa[D.A1]using h
|.AV s,c,h=>by simpa[D.A1]using h
|.Ah,c,h=>by simpa[D.A1]using h
|.CO,c,h=>by simpa[D.A1]using h
|.CV,c,h=>by simpa[D.A1]using h
|.B3,c,h=>by simpa[D.A1]using h
|.Cj,c,h=>by simpa[D.A1]using h
|.CD x,c,h=>by
 obtain⟨a,j,e,K,g,i⟩:=h;exact⟨a,j,e,K,g.mono m,Ih m x j i⟩
|.iface t x,c,h=>by
 obtain⟨u,e,g⟩:=h;refine⟨u,e,?_⟩;rcases g with⟨p,v,q,r⟩|⟨p,r⟩
 ·exact .inl ⟨p,v,q,Ih m x v r⟩
 ·exact .inr ⟨p,Ih m x _ r⟩
|.fn f J H,c,h=>by
 obtain⟨y,z,e,g,i⟩:=h;exact⟨y,z,e,WE m J y g,WE m H z i⟩
|.agg o,c,h=>by
 exact GX m o c h
|.AH P o,c,h=>by
 rcases h with h|⟨a,l,j,g,i,L,N,O⟩
 ·exact .inl h
 ·exact .inr ⟨a,l,j,g,i,L.mono m,GX m o j N,O⟩
theorem WE{w f:World}{ow a:Nat->Prop}(m:Gb w ow f a):∀(g:List D)(b:List Value),GL w ow g b->GL f a g b
|[],b,h=>by simp_all[GL]
|x::r,b,h=>by
 obtain⟨u,d,e,i,j⟩:=h;refine⟨u,d,e,?_,WE m r d j⟩;rcases i with⟨p,c,q,r⟩|⟨p,r⟩
 ·exact .inl ⟨p,c,q,Ih m x c r⟩
 ·exact .inr ⟨p,Ih m x _ r⟩
theorem GX{w g:World}{f a:Nat->Prop}(m:Gb w f g a):∀(i:List D)(b:List Value),CT w f i b->CT g a i b
|[],b,h=>by simpa[CT]using h
|x::r,b,h=>by
 obtain⟨c,d,e,j,k⟩:=h;exact⟨c,d,e,Ih m x c j,GX m r d k⟩
end
mutual
theorem H9{w:World}{e:Nat->Prop}:∀(d:D)(a:List Value),d.A1 w e a->a.length=d.sz
|.int k n,a,h=>by simp_all[D.A1,D.sz]
|.bool b,a,h=>by simp_all[D.A1,D.sz]
|.AV s,a,h=>by simp_all[D.A1,D.sz]
|.Ah,a,h=>by simp_all[D.A1,D.sz]
|.CO,a,h=>by simp_all[D.A1,D.sz]
|.CV,a,h=>by simp_all[D.A1,D.sz]
|.B3,a,h=>by simp_all[D.A1,D.sz]
|.Cj,a,h=>by simp_all[D.A1,D.sz]
|.CD x,a,h=>by grind[D.A1,D.sz]
|.iface t x,a,h=>by grind[D.A1,D.sz]
|.fn f i g,a,h=>by grind[D.A1,D.sz]
|.agg c,a,h=>by
 exact HC c a h
|.AH j c,a,h=>by
 grind[D.A1,D.sz]
theorem HC{w:World}{i:Nat->Prop}:∀(b:List D)(a:List Value),CT w i b a->a.length=DZ b
|[],a,h=>by simp_all[CT,DZ]
|x::r,a,h=>by
 obtain⟨c,d,e,f,g⟩:=h;simp[e,DZ,H9 x c f,HC r d g]
end
def WG{w:World}{b:Nat->Prop}{c e:List D}{a d:List Value}(f:CT w b c a)(g:CT w b e d):CT w b (c++e) (a++d):=by
 induction c generalizing a<;>grind[CT]
theorem FE{sz:Nat}:∀(a:List D),(∀x∈a,x.sz=sz)->DZ a=a.length*sz
|[],_=>by simp[DZ]
|x::r,h=>by
 have c:=h x (by simp);have d:=FE r (λy b=>h y (by simp[b]));grind[DZ,Nat.add_mul]
def Nl{w:World}{c:Nat->Prop}:∀(b:List D)(i:Nat)(a:List Value),CT w c b a->
 CT w c (b.take i) (a.take (DZ (b.take i)))/\CT w c (b.drop i) (a.drop (DZ (b.take i)))
|b,0,a,h=>by grind[CT,DZ]
|[],i+1,a,h=>by grind[CT,DZ]
|x::r,i+1,a,h=>by
 obtain⟨d,e,rfl,f,g⟩:=h;have j:=H9 x d f;obtain⟨p,q⟩:=Nl r i e g;simp only[List.take_succ_cons,List.drop_succ_cons,DZ];constructor
 ·grind[List.take_length_add_append,CT]
 ·rw[<-j,WS];exact q
theorem WH{w:World}{c:Nat->Prop}{a:List D}{b:List Value}(h:CT w c a b){i:Nat}(e:i<a.length):
 a[i].A1 w c ((b.drop (DZ (a.take i))).take a[i].sz):=by
 have d:=(Nl a i b h).2;grind[List.drop_eq_getElem_cons,CT,H9]
theorem C5.sub{w:World}{b:Nat->Prop}{a:Addr}{c:List Value}(h:C5 w b a c)(k n:Nat):
 C5 w b ⟨a.block,a.off+k,none⟩ ((c.drop k).take n):=by
 obtain⟨d,f⟩:=h;refine⟨λe=>⟨rfl,(d ?_).2⟩,λi g=>?_⟩<;>grind
def C5.nil{w:World}{b:Nat->Prop}(a:Addr):C5 w b a []:=⟨λh=>absurd rfl h,λi h=>by simp at h⟩
theorem Addr.CH{a:Addr}(h:a.spot=none)(n:Nat):a.add n=⟨a.block,a.off+n,none⟩:=by
 obtain⟨b,o,s⟩:=a;simp_all[Addr.add]
mutual
def DN:D->D->Bool
|.int k a,.int g b=>decide (k=g)&&decide (a=b)
|.bool a,.bool b=>a==b
|.AV a,.AV b=>a==b
|.Ah,.Ah=>true
|.AH z a,.AH i b=>Nat.beq z i&&FK a b
|.agg a,.agg b=>FK a b
|.CO,.CO=>true
|.CV,.CV=>true
|.B3,.B3=>true
|.Cj,.Cj=>true
|.CD a,.CD b=>DN a b
|.iface t a,.iface h b=>Nat.beq t h&&DN a b
|.fn f a b,.fn e c d=>Nat.beq f e&&FK a c&&FK b d
|_,_=>false
def FK:List D->List D->Bool
|[],[]=>true
|x::r,y::s=>DN x y&&FK r s
|_,_=>false
end
mutual
theorem WI:∀(x y:D),DN x y=true->x=y
|.int k a,y,h=>by cases y<;>simp[DN]at h;simp[h]
|.bool a,y,h=>by cases y<;>simp[DN]at h;simp[h]
|.AV a,y,h=>by cases y<;>simp[DN]at h;simp[h]
|.Ah,y,h=>by grind[DN]
|.CO,y,h=>by grind[DN]
|.CV,y,h=>by grind[DN]
|.B3,y,h=>by grind[DN]
|.Cj,y,h=>by grind[DN]
|.AH z a,y,h=>by
 cases y<;>simp only[DN,BY,BX]at h;rw[dW h.1,QM _ _ h.2]
|.agg a,y,h=>by
 cases y<;>simp only[DN,BY]at h;rw[QM _ _ h]
|.CD a,y,h=>by
 cases y<;>simp only[DN,BY]at h;rw[WI _ _ h]
|.iface t a,y,h=>by
 cases y<;>simp only[DN,BY,BX]at h;rw[dW h.1,WI _ _ h.2]
|.fn f a b,y,h=>by
 cases y<;>simp only[DN,BY,BX]at h;rw[dW h.1.1,QM _ _ h.1.2,QM _ _ h.2]
theorem QM:∀(x y:List D),FK x y=true->x=y
|[],y,h=>by grind[FK]
|x::r,y,h=>by
 cases y<;>simp only[FK,BY,BX]at h;rw[WI _ _ h.1,QM _ _ h.2]
end
def C5.QE{w:World}{c:Nat->Prop}{a:Addr}{b:List Value}(h:C5 w c a b)(k n:Nat):C5 w c (a.add k) ((b.drop k).take n):=by
 by_cases d:b=[]
 ·simp_all[C5.nil]
 ·rw[Addr.CH (h.1 d).1];exact h.sub k n
inductive Sh where
|leaf
|node (xs:List Sh)
mutual
def Sh.size:Sh->Nat
|.leaf=>1
|.node a=>Sh.Br a
def Sh.Br:List Sh->Nat
|[]=>0
|x::r=>x.size+Sh.Br r
end
def Sh.off:Sh->List Nat->Nat
|.node a,i::p=>Sh.Br (a.take i)+Sh.off (a.getD i .leaf) p
|_,_=>0
mutual
def D.shape:D->Sh
|.agg a=>.node (D.BN a)
|_=>.leaf
def D.BN:List D->List Sh
|[]=>[]
|x::r=>x.shape::D.BN r
end
mutual
theorem D4:∀d:D,d.shape.size=d.sz
|.int _ _|.bool _|.AV _|.Ah|.AH _ _|.CO|.CV|.B3|.Cj|.CD _|.iface _ _|.fn _ _ _=>by simp[D.shape,Sh.size,D.sz]
|.agg a=>by simp_all[D.shape,Sh.size,D.sz,WJ]
theorem WJ:∀a:List D,Sh.Br (D.BN a)=DZ a
|[]=>by simp[D.BN,Sh.Br,DZ]
|x::r=>by simp[D.BN,Sh.Br,DZ,D4 x,WJ r]
end
inductive V where
|d (x:D)
|ptr (id:Nat) (path:List Nat)
|sl (id n:Nat)
|sd (id n:Nat)
|mp (id:Nat)
|ep (id n z i off:Nat) (path:List Nat)
|bs (id:Nat) (path:List Nat) (lo n:Nat)
|hd (y:Bool) (id:Nat)
|fn (f:Nat) (first captured:List V)
|agg (xs:List V)
|iface (t:Nat) (v:V)
|BU (xs:List V)
|undef
|any
deriving Inhabited
def V.isAgg:V->Bool
|.d (.agg _)=>true
|.agg _=>true
|_=>false
mutual
def V.shape:V->Sh
|.d x=>x.shape
|.agg a=>.node (V.BN a)
|_=>.leaf
def V.BN:List V->List Sh
|[]=>[]
|x::r=>x.shape::V.BN r
end
def V.size(v:V):Nat:=v.shape.size
def LM:Bool->Nat->Value
|true,b=>.func (.yield b) #[] #[]
|false,b=>.pointer (some ⟨b,0,none⟩)
inductive RO where
|box (b:Nat) (sh:Sh)
|BO (b len cap:Nat)
|map (b:Nat)
|Cl
|Ar
def RO.blk? : RO->Option Nat
|.box b _=>some b
|.BO b _ _=>some b
|.map b=>some b
|.Cl=>none
|.Ar=>none
structure Gl where
 g:Nat->Option Obj
 l:Nat->Array Nat->Nat->Code->Code->Prop
instance:CoeFun Gl (λ_=>Nat->Option Obj):=⟨Gl.g⟩
structure BF where
 m:Nat->Option RO
 xo:Nat->Prop
 gl:Gl
def FW(a:BF)(b:Nat):Prop:=∃id o,a.m id=some o/\o.blk? = some b
def CS(a:BF)(b:Nat):Prop:=FW a b\/a.xo b
def RO.slice(o:RO)(n:Nat)(u:Value):Prop:=
 match o with
 |.box _ _=>False
 |.map _=>False
 |.BO b d e=>n<=d/\(∃a l c,u=.slice a l c)/\(n=d->u=.slice (some ⟨b,0,none⟩) d e)
 |.Cl=>n=0/\u=.slice none 0 0
 |.Ar=>∃a l c,u=.slice a l c
def RO.GH(o:RO)(n:Nat)(u:Value):Prop:=
 match o with
 |.box _ _=>False
 |.map _=>False
 |.BO b c _=>n<=c/\(∃a,u=.pointer a)/\(n=c->n≠0->u=.pointer (some ⟨b,0,none⟩))
 |.Cl=>n=0/\∃a,u=.pointer a
 |.Ar=>∃a,u=.pointer a
def RO.elem(o:RO)(n d:Nat)(u:Value):Prop:=
 match o with
 |.box _ _=>False
 |.map _=>False
 |.BO b c _=>n<=c/\(∃a,u=.pointer (some a))/\(n=c->u=.pointer (some ⟨b,d,none⟩))
 |.Cl=>False
 |.Ar=>∃a,u=.pointer (some a)
inductive RO.le:RO->RO->Prop where
|refl (o:RO):RO.le o o
|grow {o:RO} {n b m c:Nat} (h:n<m) (h1:o=.Cl/\n=0\/∃b c,o=.BO b n c):RO.le o (.BO b m c)
|Ar (o:RO):RO.le o .Ar
def RO.le.trans{a b c:RO}(h:a.le b)(e:b.le c):a.le c:=by
 cases e with
 |refl=>exact h
 |Ar=>exact .Ar a
 |grow k d=>
  cases h with
  |refl=>exact .grow k d
  |Ar=>simp_all
  |grow g f=>
   rcases d with⟨d,_⟩|⟨_,_,d⟩
   ·cases d
   ·cases d;exact .grow (by omega) f
mutual
def V.Au(w:World)(g:BF):V->List Value->Prop
|.d x,e=>x.A1 w (CS g) e
|.ptr id p,e=>(∃b j,g.m id=some (.box b j)/\e=[.pointer (some ⟨b,j.off p,none⟩)])\/(g.m id=some .Ar/\∃a,e=[.pointer (some a)])
|.sl id n,e=>∃o u,g.m id=some o/\e=[u]/\o.slice n u
|.sd id n,e=>∃o u,g.m id=some o/\e=[u]/\o.GH n u
|.mp id,e=>(∃b,g.m id=some (.map b)/\e=[.map (some b)])\/(g.m id=some .Ar/\∃r,e=[.map r])
|.hd y id,e=>(∃b,g.m id=some (.map b)/\e=[LM y b])\/(g.m id=some .Ar/\∃b,e=[LM y b])
|.ep id n z i f p,e=>∃o u,g.m id=some o/\e=[u]/\o.elem n (i*z+f) u
|.bs id p J n,e=>(∃b j h f,g.m id=some (.box b j)/\(n<=h/\(n≠0->f=j.off (p++[J])))/\e=[.slice (some ⟨b,f,none⟩) n h])\/(g.m id=some .Ar/\∃a l c,e=[.slice a l c])
|.fn f H G,e=>∃s v,e=[.func (.func f) s.toArray v.toArray]/\V.BT w g H s/\V.BT w g G v
|.agg k,e=>Cg w g k e
|.iface t x,e=>∃u,e=[.iface t u]/\(x=.any\/(x.isAgg=true/\∃q,u=.agg q.toArray/\V.Au w g x q)\/(x.isAgg=false/\V.Au w g x [u]))
|.BU k,e=>∃F,e=[.tuple F.toArray]/\V.BT w g k F
|.undef,e=>e=[Go.undef]
|.any,e=>∃u,e=[u]
def Cg(w:World)(d:BF):List V->List Value->Prop
|[],a=>a=[]
|x::r,a=>∃b c,a=b++c/\V.Au w d x b/\Cg w d r c
def V.BT(w:World)(b:BF):List V->List Value->Prop
|[],a=>a=[]
|x::r,a=>∃u d,a=u::d/\(x=.any\/(x.isAgg=true/\∃c,u=.agg c.toArray/\V.Au w b x c)\/(x.isAgg=false/\V.Au w b x [u]))/\V.BT w b r d
end
def V.A1(w:World)(b:BF)(x:V)(u:Value):Prop:=
 (x=.any)\/(x.isAgg=true/\∃a,u=.agg a.toArray/\x.Au w b a)\/(x.isAgg=false/\x.Au w b [u])
structure Tr(w:World)(ρ:BF)(w':World)(ρ':BF):Prop where
 size:w.heap.size<=w'.heap.size
 keep:∀b,¬FW ρ b->b<w.heap.size->w'.heap[b]? = w.heap[b]?
 DY:∀b,FW ρ' b->FW ρ b\/w.heap.size<=b
 xo:ρ'.xo=ρ.xo
 gl:ρ'.gl=ρ.gl
 same:∀id o,ρ.m id=some o->∃o',ρ'.m id=some o'/\o.le o'
 tape:w'.tape=w.tape
 os:w'.os=w.os
 C3:w'.output=w.output
 drawn:w.drawn<=w'.drawn
theorem Tr.mono{w d:World}{e a:BF}(t:Tr w e d a):Gb w (CS e) d (CS a):=λb c f=>
 ⟨t.keep b (λh=>c (.inl h)) f,λh=>h.elim (λh=>(t.DY b h).elim (λh=>c (.inl h)) (λh=>by omega)) (λh=>c (.inr (t.xo▸h)))⟩
theorem Tr.refl(w:World)(a:BF):Tr w a w a:=
 ⟨B9 _,λ_ _ _=>rfl,λ_ h=>.inl h,rfl,rfl,λ_ o h=>⟨o,h,.refl o⟩,rfl,rfl,rfl,B9 _⟩
def Tr.trans{w i d:World}{j c a:BF}(t:Tr w j i c)(u:Tr i c d a):Tr w j d a:=by
 refine⟨IE t.size u.size,λb e f=>?_,λb h=>?_,u.xo.trans t.xo,u.gl.trans t.gl,λid o h=>?_,u.tape.trans t.tape,u.os.trans t.os,u.C3.trans t.C3,IE t.drawn u.drawn⟩
 ·have m:¬FW c b:=λh=>(t.DY b h).elim e (λh=>by omega);exact(u.keep b m (by have:=t.size;omega)).trans (t.keep b e f)
 ·rcases u.DY b h with h|h
  ·exact t.DY b h
  ·have:=t.size;exact .inr (by omega)
 ·obtain⟨n,e,f⟩:=t.same id o h;obtain⟨g,k,l⟩:=u.same id n e;exact⟨g,k,f.trans l⟩
theorem Rat{o a:RO}{n:Nat}{u:Value}(h:o.slice n u)(t:o.le a):a.slice n u:=by
 cases t with
 |refl=>exact h
 |Ar=>
  cases o with
  |box b s=>cases h
  |map b=>cases h
  |BO b l c=>exact h.2.1
  |Cl=>exact⟨_,_,_,h.2⟩
  |Ar=>exact h
 |grow k d=>
  grind[RO.slice]
theorem Rau{o d:RO}{n:Nat}{u:Value}(h:o.GH n u)(t:o.le d):d.GH n u:=by
 cases t with
 |refl=>exact h
 |Ar=>
  cases o with
  |box b s=>cases h
  |map b=>cases h
  |BO b l c=>exact h.2.1
  |Cl=>exact h.2
  |Ar=>exact h
 |grow k a=>
  rcases a with⟨rfl,rfl⟩|⟨e,f,rfl⟩
  ·exact⟨by have:=h.1;omega,h.2,λa=>by have:=h.1;omega⟩
  ·exact⟨by have:=h.1;omega,h.2.1,λa=>by have:=h.1;omega⟩
theorem Rav{o e:RO}{n a:Nat}{u:Value}(h:o.elem n a u)(t:o.le e):e.elem n a u:=by
 cases t with
 |refl=>exact h
 |Ar=>
  cases o with
  |box b s=>cases h
  |map b=>cases h
  |BO b l c=>exact h.2.1
  |Cl=>cases h
  |Ar=>exact h
 |grow k d=>
  rcases d with⟨rfl,rfl⟩|⟨f,g,rfl⟩
  ·cases h
  ·exact⟨by have:=h.1;omega,h.2.1,λd=>by have:=h.1;omega⟩
mutual
theorem Ii{w K:World}{L m:BF}(t:Tr w L K m):∀(x:V)(c:List Value),x.Au w L c->x.Au K m c
|.d x,c,h=>by
 simp only[V.Au]at h⊢;exact Ih t.mono x c h
|.ptr id p,c,h=>by
 simp only[V.Au]at h⊢;rcases h with⟨b,Q,a,j⟩|⟨a,j⟩
 ·obtain⟨l,k,g⟩:=t.same id _ a;cases g<;>grind
 ·obtain⟨l,k,g⟩:=t.same id _ a;cases g<;>simp_all
|.sl id n,c,h=>by
 simp only[V.Au]at h⊢;obtain⟨o,u,a,j,k⟩:=h;obtain⟨l,g,H⟩:=t.same id _ a;grind[Rat]
|.sd id n,c,h=>by
 simp only[V.Au]at h⊢;obtain⟨o,u,a,j,k⟩:=h;obtain⟨l,g,H⟩:=t.same id _ a;grind[Rau]
|.mp id,c,h=>by
 simp only[V.Au]at h⊢;rcases h with⟨b,a,j⟩|⟨a,j⟩
 ·obtain⟨l,k,g⟩:=t.same id _ a;cases g<;>simp_all
 ·obtain⟨l,k,g⟩:=t.same id _ a;cases g<;>simp_all
|.hd y id,c,h=>by
 simp only[V.Au]at h⊢;rcases h with⟨b,a,j⟩|⟨a,j⟩
 ·obtain⟨l,k,g⟩:=t.same id _ a;cases g<;>grind
 ·obtain⟨l,k,g⟩:=t.same id _ a;cases g<;>simp_all
|.ep id n z i f p,c,h=>by
 simp only[V.Au]at h⊢;obtain⟨o,u,a,j,k⟩:=h;obtain⟨l,g,H⟩:=t.same id _ a;grind[Rav]
|.bs id p T n,c,h=>by
 simp only[V.Au]at h⊢;rcases h with⟨b,Q,O,f,a,j⟩|⟨a,j⟩
 ·obtain⟨l,k,g⟩:=t.same id _ a;cases g<;>grind
 ·obtain⟨l,k,g⟩:=t.same id _ a;cases g<;>simp_all
|.fn f P N,c,h=>by
 simp only[V.Au]at h⊢;obtain⟨F,G,e,a,j⟩:=h;exact⟨F,G,e,Md t P F a,Md t N G j⟩
|.agg s,c,h=>by
 simp only[V.Au]at h⊢;exact IA t s c h
|.iface U x,c,h=>by
 simp only[V.Au]at h⊢;obtain⟨u,e,a⟩:=h;refine⟨u,e,?_⟩;rcases a with a|⟨p,v,q,r⟩|⟨p,r⟩
 ·exact .inl a
 ·exact .inr (.inl ⟨p,v,q,Ii t x v r⟩)
 ·exact .inr (.inr ⟨p,Ii t x _ r⟩)
|.BU s,c,h=>by
 simp only[V.Au]at h⊢;obtain⟨J,e,a⟩:=h;exact⟨J,e,Md t s J a⟩
|.undef,c,h=>by simp_all[V.Au]
|.any,c,h=>by simp_all[V.Au]
theorem IA{w f:World}{i a:BF}(t:Tr w i f a):∀(g:List V)(b:List Value),Cg w i g b->Cg f a g b
|[],b,h=>by simp_all[Cg]
|x::r,b,h=>by
 obtain⟨c,d,e,j,k⟩:=h;exact⟨c,d,e,Ii t x c j,IA t r d k⟩
theorem Md{w g:World}{j a:BF}(t:Tr w j g a):∀(i:List V)(b:List Value),V.BT w j i b->V.BT g a i b
|[],b,h=>by simp_all[V.BT]
|x::r,b,h=>by
 obtain⟨u,f,e,c,k⟩:=h;refine⟨u,f,e,?_,Md t r f k⟩;rcases c with c|⟨p,d,q,r⟩|⟨p,r⟩
 ·exact .inl c
 ·exact .inr (.inl ⟨p,d,q,Ii t x d r⟩)
 ·exact .inr (.inr ⟨p,Ii t x _ r⟩)
end
theorem HD{w c:World}{d a:BF}(t:Tr w d c a){x:V}{u:Value}(h:x.A1 w d u):x.A1 c a u:=by
 rcases h with h|⟨p,b,q,r⟩|⟨p,r⟩
 ·exact .inl h
 ·exact .inr (.inl ⟨p,b,q,Ii t x b r⟩)
 ·exact .inr (.inr ⟨p,Ii t x _ r⟩)
def V.Bk:V->Option (List V)
|.agg a=>some a
|.d (.agg a)=>some (a.map .d)
|_=>none
def V.Bz:∀a:List V,V.BN a=a.map V.shape
|[]=>by simp[V.BN]
|x::r=>by simp[V.BN,V.Bz r]
def D.Bz:∀a:List D,D.BN a=a.map D.shape
|[]=>by simp[D.BN]
|x::r=>by simp[D.BN,D.Bz r]
def QK{v:V}{a:List V}(h:v.Bk=some a):v.shape=.node (a.map V.shape):=by
 cases v with
 |agg b=>simp_all[V.Bk,V.shape,V.Bz]
 |d x=>
  cases x with
  |agg b=>simp[V.Bk]at h;subst h;simp[V.shape,D.shape,D.Bz]
  |_=>simp[V.Bk]at h
 |_=>simp[V.Bk]at h
theorem Kd{w:World}{c:BF}:∀(b:List D)(a:List Value),Cg w c (b.map .d) a↔CT w (CS c) b a
|[],a=>by simp[Cg,CT]
|x::r,a=>by simp[Cg,CT,V.Au,Kd r]
theorem WD{w:World}{c:BF}{v:V}{b:List V}(h:v.Bk=some b)(a:List Value):v.Au w c a↔Cg w c b a:=by
 cases v with
 |agg e=>simp_all[V.Bk,V.Au]
 |d x=>
  cases x<;>grind[V.Bk,Kd,V.Au,D.A1]
 |_=>simp[V.Bk]at h
mutual
theorem GK{w:World}{c:BF}:∀(x:V)(a:List Value),x.Au w c a->a.length=x.shape.size
|.d x,a,h=>by grind[V.Au,V.shape,D4,H9]
|.ptr id p,a,h=>by grind[V.Au,V.shape,Sh.size]
|.sl id n,a,h=>by grind[V.Au,V.shape,Sh.size]
|.sd id n,a,h=>by grind[V.Au,V.shape,Sh.size]
|.mp id,a,h=>by grind[V.Au,V.shape,Sh.size]
|.hd y id,a,h=>by grind[V.Au,V.shape,Sh.size]
|.ep id n z i f p,a,h=>by grind[V.Au,V.shape,Sh.size]
|.bs id p j n,a,h=>by grind[V.Au,V.shape,Sh.size]
|.fn f g e,a,h=>by grind[V.Au,V.shape,Sh.size]
|.agg b,a,h=>by exact Nk b a h
|.iface t x,a,h=>by grind[V.Au,V.shape,Sh.size]
|.BU b,a,h=>by grind[V.Au,V.shape,Sh.size]
|.undef,a,h=>by simp_all[V.Au,V.shape,Sh.size]
|.any,a,h=>by grind[V.Au,V.shape,Sh.size]
theorem Nk{w:World}{i:BF}:∀(b:List V)(a:List Value),Cg w i b a->a.length=Sh.Br (V.BN b)
|[],a,h=>by simp_all[Cg,V.BN,Sh.Br]
|x::r,a,h=>by
 obtain⟨c,d,e,f,g⟩:=h;simp[e,V.BN,Sh.Br,GK x c f,Nk r d g]
end
def u6{w:World}{c:BF}:∀(b:List V)(i:Nat)(a:List Value),Cg w c b a->
 Cg w c (b.take i) (a.take (Sh.Br ((b.map V.shape).take i)))/\Cg w c (b.drop i) (a.drop (Sh.Br ((b.map V.shape).take i)))
|b,0,a,h=>by grind[Cg,Sh.Br]
|[],i+1,a,h=>by grind[Cg,Sh.Br]
|x::r,i+1,a,h=>by
 obtain⟨d,e,rfl,f,g⟩:=h;have j:=GK x d f;obtain⟨p,q⟩:=u6 r i e g;simp only[Dj,List.take_succ_cons,List.drop_succ_cons,Sh.Br];constructor
 ·grind[List.take_length_add_append,Cg]
 ·rw[<-j,WS];exact q
theorem QL{w:World}{c:BF}{b e:List V}{a d:List Value}(f:Cg w c b a)(g:Cg w c e d):Cg w c (b++e) (a++d):=by
 induction b generalizing a<;>grind[Cg]
def Oz{w:World}{d:BF}{a:List V}{g:List Value}(h:Cg w d a g){i:Nat}{v:V}(n:a[i]? = some v):
 ∃f b c,g=f++(b++c)/\f.length=Sh.Br ((a.map V.shape).take i)/\Cg w d (a.take i) f/\v.Au w d b/\Cg w d (a.drop (i+1)) c:=by
 obtain⟨o,p⟩:=HF.1 n;obtain⟨j,k⟩:=u6 a i g h;rw[EV o,p]at k;obtain⟨b,c,e,l,m⟩:=k;refine⟨_,b,c,?_,?_,j,l,m⟩
 ·rw[<-e,QW]
 ·have q:=Nk _ _ j;simp_all[V.Bz]
def V.at:V->List Nat->Option V
|v,[]=>some v
|v,i::p=>match v.Bk with
 |some a=>match a[i]? with
  |some k=>V.at k p
  |none=>none
 |none=>none
def Cb:List V->Option (List D)
|[]=>some []
|.d x::r=>match Cb r with
 |some l=>some (x::l)
 |none=>none
|_::_=>none
def V.mk(a:List V):V:=match Cb a with
|some l=>.d (.agg l)
|none=>.agg a
theorem V.Cd:∀{b:List V}{l:List D},Cb b=some l->b=l.map .d
|[],l,h=>by simp_all[Cb]
|.d x::r,l,h=>by
 simp only[Cb]at h;cases a:Cb r with
 |none=>simp[a]at h
 |some m=>simp[a]at h;subst h;simp[V.Cd a]
|.ptr _ _::_,l,h|.sl _ _::_,l,h|.sd _ _::_,l,h|.mp _::_,l,h|.hd _ _::_,l,h|.ep _ _ _ _ _ _::_,l,h|.bs _ _ _ _::_,l,h|.fn _ _ _::_,l,h|.agg _::_,l,h|.iface _ _::_,l,h|.BU _::_,l,h|.undef::_,l,h|.any::_,l,h=>by simp[Cb]at h
def dJ(a:List V):(V.mk a).Bk=some a:=by
 grind[V.mk,V.Bk,V.Cd]
theorem Rba{v:V}{a:List V}(h:v.Bk=some a):v.isAgg=true:=by
 cases v with
 |agg b=>rfl
 |d x=>cases x with
  |agg b=>rfl
  |_=>simp[V.Bk]at h
 |_=>simp[V.Bk]at h
def V.set:V->List Nat->V->Option V
|_,[],x=>some x
|v,i::p,x=>match v.Bk with
 |some a=>match a[i]? with
  |some k=>match V.set k p x with
   |some b=>some (V.mk (a.set i b))
   |none=>none
  |none=>none
 |none=>none
theorem Ke{w:World}{f:BF}:∀(p:List Nat)(t v:V)(a:List Value),t.Au w f a->t.at p=some v->
 ∃b c d,a=b++(c++d)/\b.length=t.shape.off p/\v.Au w f c
|[],t,v,a,h,e=>by
 simp only[V.at,ED]at e;subst e;exact⟨[],a,[],by simp,by simp[Sh.off],h⟩
|i::p,t,v,a,h,e=>by
 simp only[V.at]at e;split at e
 ·rename_i y s;split at e
  next k r=>rw[WD s]at h;obtain⟨b,c,d,m,u,_,o,_⟩:=Oz h r;obtain⟨g,j,l,n,x,q⟩:=Ke p k v c o e;refine⟨b++g,j,l++d,by simp[m,n],?_,q⟩;simp_all[QK,Sh.off,Dd,V.shape]
  ·simp at e
 ·simp at e
def QN{w:World}{r:BF}:∀(p:List Nat)(t v x:V)(b a:List Value),t.Au w r b->t.at p=some v->x.Au w r a->x.shape=v.shape->
 ∃q,t.set p x=some q/\q.shape=t.shape/\q.Au w r (b.take (t.shape.off p)++(a++b.drop (t.shape.off p+a.length)))
|[],t,v,x,b,a,h,e,n,m=>by
 simp only[V.at,ED]at e;subst e;refine⟨x,rfl,m,?_⟩;have H:=GK _ _ h;have g:=GK _ _ n;have:t.shape.off []=0:=by simp[Sh.off]
 rw[this];grind
|i::p,t,v,x,b,a,h,e,n,m=>by
 simp only[V.at]at e;split at e
 ·rename_i f u;split at e
  ·rename_i k s;rw[WD u]at h;obtain⟨c,d,z,L,N,H,g,W⟩:=Oz h s;obtain⟨o,O,G,X⟩:=QN p k v x d a g e n m;obtain⟨J,F,K,P,Q,Y⟩:=Ke p k v d g e;have y:a.length=F.length:=by grind[GK]
   have l:t.shape.off (i::p)=c.length+k.shape.off p:=by
    simp_all[QK,Sh.off]
   refine⟨V.mk (f.set i o),by simp_all[V.set],?_,?_⟩
   ·rw[QK u,QK (dJ _),Il,G];congr 1;apply Sz;intro j;by_cases Z:i=j<;>grind
   ·rw[WD (dJ _),l];have T:b.take (c.length+k.shape.off p)++(a++b.drop (c.length+k.shape.off p+a.length)) =
     c++((d.take (k.shape.off p)++(a++d.drop (k.shape.off p+a.length)))++z):=by
     grind[List.append_assoc,List.take_length_add_append,Nat.add_assoc,List.drop_length_add_append,List.drop_append]
    have U:f.set i o=f.take i++(o::f.drop (i+1)):=by
     obtain⟨y,_⟩:=HF.1 s;exact WT.trans (by simp[y])
    grind[QL,Cg]
  ·simp at e
 ·simp at e
inductive Hc where
|ready
|busy
|ret
|exit (n:Nat)
def Hc.st:Hc->LoopState
|.ready=>.ready
|.busy=>.busy
|.ret=>.done
|.exit _=>.done
def Hc.D0:Hc->Option Code
|.ret=>some .ret
|.exit n=>some (.exit n)
|_=>none
inductive Ob where
|box (E:Nat) (t:V)
|BO (E sz:Nat) (xs:List D)
|A0 (E sz:Nat) (xs:List V)
|map (es:List (D×V))
|Ar
 |lp (tag:Nat) (st:Hc) (sl:List (Nat×V))
 |it (m:Option Nat) (n:Nat) (seen:List Nat)
def BG:List (Nat×V)->Nat->V
|[],_=>.any
|(j,d)::r,k=>if j=k then d else BG r k
def AD:List (Nat×Ob)->Nat->Option Ob
|[],_=>none
|(j,d)::r,k=>if j=k then some d else AD r k
def AG:List (Nat×Ob)->Nat->Ob->List (Nat×Ob)
|[],_,_=>[]
|(j,d)::r,k,x=>if j=k then (j,x)::r else (j,d)::AG r k x
abbrev Xf:=List (Nat×V)
abbrev AE:=List (Nat×Ob)
def D.GR:D->Option Value
|.int k n=>some (.int k n)
|.bool b=>some (.bool b)
|.AV s=>some (.string ⟨s.toArray⟩)
|_=>none
def Qp:List D->Option (List Value)
|[]=>some []
|x::r=>match x.GR,Qp r with
 |some u,some a=>some (u::a)
 |_,_=>none
def sG:Option (List Value)->Option Value
|some a=>some (.agg a.toArray)
|none=>none
def D.key:D->Option Value
|.int k n=>some (.int k n)
|.bool b=>some (.bool b)
|.AV s=>some (.string ⟨s.toArray⟩)
|.agg a=>sG (Qp a)
|_=>none
def Yp(w:World)(c:BF):List (D×V)->List MapEntry->Prop
|[],b=>b=[]
|(k,v)::r,b=>∃e a,b=e::a/\k.key=some e.key/\v.A1 w c e.val/\Yp w c r a
def Yp.tr{w d:World}{ρ b:BF}(t:Tr w ρ d b):∀(l:List (D×V)) (c:List MapEntry),Yp w ρ l c->Yp d b l c
|[],c,h=>h
|(k,v)::r,c,h=>by
 obtain⟨e,a,f,g,i,j⟩:=h;exact⟨e,a,f,g,HD t i,Yp.tr t r a j⟩
def F2:Nat->List MapEntry->Prop
|_,[]=>True
|n,e::r=>e.born=n/\F2 (n+1) r
def D5(w:World)(a:BF)(id:Nat):Ob->Prop
|.box E t=>∃b d,a.m id=some (.box b t.shape)/\w.heap[b]? = some (.cells (List.toArray d) E (0,0))/\t.Au w a d
|.BO E h e=>(a.m id=some .Cl/\e=[])\/∃b c d g,a.m id=some (.BO b e.length c)/\w.heap[b]? = some (.cells (List.toArray (d++g)) E (0,0))/\
 CT w (CS a) e d/\(∀x∈e,x.sz=h)/\(d++g).length=c*h
|.A0 E h e=>(a.m id=some .Cl/\e=[])\/∃b c d g,a.m id=some (.BO b e.length c)/\w.heap[b]? = some (.cells (List.toArray (d++g)) E (0,0))/\
 Cg w a e d/\(∀x∈e,x.size=h)/\(d++g).length=c*h
|.map y=>∃b l f,a.m id=some (.map b)/\w.heap[b]? = some (.map (List.toArray l) f)/\Yp w a y l/\f=l.length/\F2 0 l
|.Ar=>a.m id=some .Ar
|.lp i u z=>∃b fn k v s o q,a.m id=some (.map b)/\w.heap[b]? = some (.loop {state:=u.st,pending:=u.D0,fn:=fn,tmps:=k,params:=s,assign:=o,body:=q,defers:=v})/\a.gl.l i s k.size o q/\∀p∈z,p.2.A1 w a (k.getD p.1 undef)
|.it none _ _=>∃b,a.m id=some (.map b)/\w.heap[b]? = some (.mapIter none 0 #[] 0)
|.it (some j) n seen=>∃b r,a.m id=some (.map b)/\(a.m j=some (.map r)\/a.m j=some .Ar)/\w.heap[b]? = some (.mapIter (some r) n seen.toArray n)
def FN:AE->Prop
|[]=>True
|(j,_)::r=>AD r j=none/\FN r
theorem FN.BG:∀{c:AE},FN c->∀e∈c,AD c e.1=some e.2
|[],_,e,h=>by cases h
|(j,o)::r,h,e,b=>by
 rcases Fb.mp b with rfl|b
 ·simp[AD]
 ·have a:=FN.BG h.2 e b;have:j≠e.1:=λd=>by rw[d]at h;rw[h.1]at a;cases a
  simp[AD,this,a]
def fm{x:Ob}{id:Nat}:∀(a:AE)(j:Nat),AD a j=none->AD (AG a id x) j=none
|[],_,h=>by simp[AG,AD]
|(k,y)::r,j,h=>by
 simp only[AD]at h;simp only[AG];split at h
 ·cases h
 ·rename_i e;split
  ·simp_all[AD,CR]
  ·simp only[AD,e,CR];exact fm r j h
def FN.set{x:Ob}{id:Nat}:∀{a:AE},FN a->FN (AG a id x)
|[],h=>h
|(k,y)::r,h=>by
 simp only[AG];split
 ·exact h
 ·exact⟨fm r k h.1,FN.set h.2⟩
structure OM(w:World)(ρ:BF)(objs:AE):Prop where
 Ba:∀id ob,AD objs id=some ob->D5 w ρ id ob
 Ev:∀id o,ρ.m id=some o->∃ob,AD objs id=some ob
 inj:∀i j o p b,ρ.m i=some o->ρ.m j=some p->o.blk? = some b->p.blk? = some b->i=j
 FV:∀b,ρ.xo b->b<w.heap.size
 EZ:∀b o,ρ.gl b=some o->w.heap[b]? = some o/\¬CS ρ b
 D1:∀b,FW ρ b->¬ρ.xo b
 C4:FN objs
def SM(w:World)(c:BF)(b:Xf)(a:Act):Prop:=∀k,(BG b k).A1 w c (a.tmps.getD k undef)
structure CM(w w':World):Prop where
 size:w.heap.size<=w'.heap.size
 keep:∀b,b<w.heap.size->w'.heap[b]? = w.heap[b]?
 tape:w'.tape=w.tape
 os:w'.os=w.os
 C3:w'.output=w.output
 drawn:w.drawn<=w'.drawn
theorem CM.refl(w:World):CM w w:=⟨B9 _,λ_ _=>rfl,rfl,rfl,rfl,B9 _⟩
def CM.trans{w e c:World}(h:CM w e)(a:CM e c):CM w c:=
 ⟨IE h.size a.size,λb d=>(a.keep b (O5 d h.size)).trans (h.keep b d),a.tape.trans h.tape,a.os.trans h.os,a.C3.trans h.C3,IE h.drawn a.drawn⟩
def CM.tr{w a:World}(h:CM w a){ρ:BF}:Tr w ρ a ρ:=
 ⟨h.size,λb _ c=>h.keep b c,λ_ h=>.inl h,rfl,rfl,λ_ o h=>⟨o,h,.refl o⟩,h.tape,h.os,h.C3,h.drawn⟩
def QO(w:World)(n:Nat)(h:w.drawn<=n:=by simp):CM w {w with drawn:=n}:=⟨B9 _,λ_ _=>rfl,rfl,rfl,rfl,h⟩
def Ms{w e:World}{c a:BF}(t:Tr w c e a)(h:∀b o,c.gl b=some o->w.heap[b]? = some o/\¬CS c b):∀b o,a.gl b=some o->e.heap[b]? = some o/\¬CS a b:=by
 intro b o d;rw[t.gl]at d;obtain⟨f,g⟩:=h b o d;obtain⟨i,j⟩:=t.mono b g (Xu f);simp_all
def OM.ext{w u:World}{ρ:BF}{f:AE}(h:CM w u)(m:OM w ρ f):OM u ρ f:=by
 refine⟨λid s G=>?_,m.Ev,m.inj,λb F=>O5 (m.FV b F) h.size,Ms h.tr m.EZ,m.D1,m.C4⟩;have d:=m.Ba id s G;cases s with
 |box E t=>
  obtain⟨b,k,c,a,e⟩:=d;exact⟨b,k,c,(h.keep b (Xu a)).trans a,Ii h.tr _ _ e⟩
 |BO E L P=>
  rcases d with d|⟨b,g,k,r,c,a,e,i,q⟩
  ·exact .inl d
  ·exact .inr ⟨b,g,k,r,c,(h.keep b (Xu a)).trans a,GX (h.tr (ρ:=ρ)).mono _ _ e,i,q⟩
 |A0 E L P=>
  rcases d with d|⟨b,g,k,r,c,a,e,i,q⟩
  ·exact .inl d
  ·exact .inr ⟨b,g,k,r,c,(h.keep b (Xu a)).trans a,IA (h.tr (ρ:=ρ)) _ _ e,i,q⟩
 |map Q=>
  obtain⟨b,l,o,c,a,e,i⟩:=d;exact⟨b,l,o,c,(h.keep b (Xu a)).trans a,Yp.tr h.tr _ _ e,i⟩
 |lp N U T=>
  obtain⟨b,z,O,y,K,v,x,c,a,e,i⟩:=d;exact⟨b,z,O,y,K,v,x,c,(h.keep b (Xu a)).trans a,e,λp H=>HD h.tr (i p H)⟩
 |it m n seen=>
  cases m with
  |none=>obtain⟨b,c,a⟩:=d;exact⟨b,c,(h.keep b (Xu a)).trans a⟩
  |some j=>obtain⟨b,J,c,e,a⟩:=d;exact⟨b,J,c,e,(h.keep b (Xu a)).trans a⟩
 |Ar=>exact d
def SM.tr{w d:World}{ρ b:BF}{c:Xf}{a:Act}(t:Tr w ρ d b)(h:SM w ρ c a):SM d b c a:=λk=>HD t (h k)
inductive A where
|t (k:Nat)
|int (k:IntKind) (n:Int)
|bool (b:Bool)
|AV (s:List UInt8)
|Ah
|CO
|CV
|B3
|Cj
|nl (sz:Nat)
|fn (f:Nat)
def A.An:Operand->A->Bool
|.tmp k,.t j=>k==j
|.const (.int k n),.int c d=>decide (k=c)&&n==d
|.const (.bool b),.bool a=>b==a
|.const (.string s),.AV l=>s.data.toList==l
|.const (.slice none n m),.Ah=>n==0&&m==0
|.const .nilIface,.CO=>true
|.const (.pointer none),.CV=>true
|.const .nilFunc,.B3=>true
|.const (.map none),.Cj=>true
|.const (.slice none n m),.nl _=>n==0&&m==0
|.func f,.fn g=>f==g
|_,_=>false
def A.ev(a:Xf):A->V
|.t k=>BG a k
|.int k n=>.d (.int k n)
|.bool b=>.d (.bool b)
|.AV s=>.d (.AV s)
|.Ah=>.d .Ah
|.CO=>.d .CO
|.CV=>.d .CV
|.B3=>.d .B3
|.Cj=>.d .Cj
|.nl c=>.d (.AH c [])
|.fn f=>.fn f [] []
section BT
variable {w:World} {ρ:BF} {u:Value}
def Ye{k:IntKind}{n:Int}:(V.d (.int k n)).A1 w ρ u↔u=.int k n:=by simp[V.A1,V.isAgg,V.Au,D.A1]
def BW{b:Bool}:(V.d (.bool b)).A1 w ρ u↔u=.bool b:=by simp[V.A1,V.isAgg,V.Au,D.A1]
def CX{s:List UInt8}:(V.d (.AV s)).A1 w ρ u↔u=.string ⟨s.toArray⟩:=by simp[V.A1,V.isAgg,V.Au,D.A1]
def Uf:(V.d .Ah).A1 w ρ u↔u=.slice none 0 0:=by simp[V.A1,V.isAgg,V.Au,D.A1]
def ZJ:(V.d .CO).A1 w ρ u↔u=.nilIface:=by simp[V.A1,V.isAgg,V.Au,D.A1]
def iz:(V.d .CV).A1 w ρ u↔u=.pointer none:=by simp[V.A1,V.isAgg,V.Au,D.A1]
def x9:(V.d .B3).A1 w ρ u↔u=.nilFunc:=by simp[V.A1,V.isAgg,V.Au,D.A1]
def TU:(V.d .Cj).A1 w ρ u↔u=.map none:=by simp[V.A1,V.isAgg,V.Au,D.A1]
theorem Wz:V.undef.A1 w ρ u↔u=undef:=by simp[V.A1,V.isAgg,V.Au]
theorem Nv:V.any.A1 w ρ u:=.inl rfl
theorem Zj{e:Nat}{b:List D}:(V.d (.AH e b)).A1 w ρ u↔(b=[]/\u=.slice none 0 0)\/∃a c f,u=.slice (some a) b.length c/\b.length<=c/\C5 w (CS ρ) a f/\CT w (CS ρ) b f/\∀x∈b,x.sz=e:=by
 simp[V.A1,V.isAgg,V.Au,D.A1]
def Mp{x:D}:(V.d (.CD x)).A1 w ρ u↔∃a b,u=.pointer (some a)/\a.spot=none/\C5 w (CS ρ) a b/\x.A1 w (CS ρ) b:=by
 simp[V.A1,V.isAgg,V.Au,D.A1]
theorem ZK{id:Nat}{p:List Nat}:(V.ptr id p).A1 w ρ u↔(∃b c,ρ.m id=some (.box b c)/\u=.pointer (some ⟨b,c.off p,none⟩))\/(ρ.m id=some .Ar/\∃a,u=.pointer (some a)):=by
 simp[V.A1,V.isAgg,V.Au]
def Xf8{id:Nat}{p:List Nat}(h:(V.ptr id p).A1 w ρ u):∃a,u=.pointer (some a):=by
 grind[ZK]
def B2{id:Nat}{p:List Nat}{c:AE}{E:Nat}{t:V}(e:OM w ρ c)(f:AD c id=some (.box E t))(h:(V.ptr id p).A1 w ρ u):∃b d,ρ.m id=some (.box b d)/\u=.pointer (some ⟨b,d.off p,none⟩):=by
 rw[ZK]at h;rcases h with h|⟨h,_⟩
 ·exact h
 ·obtain⟨b,g,a,_⟩:=e.Ba id _ f;rw[h]at a;cases a
theorem XK{id:Nat}{p:List Nat}{b:Nat}{a:Sh}(h:ρ.m id=some (.box b a)):(V.ptr id p).A1 w ρ (.pointer (some ⟨b,a.off p,none⟩)):=ZK.2 (.inl ⟨b,a,h,rfl⟩)
def Y9{id n:Nat}:(V.sl id n).A1 w ρ u↔∃o,ρ.m id=some o/\o.slice n u:=by
 simp[V.A1,V.isAgg,V.Au]
def Yrb{id n:Nat}:(V.sd id n).A1 w ρ u↔∃o,ρ.m id=some o/\o.GH n u:=by
 simp[V.A1,V.isAgg,V.Au]
def SD{id:Nat}:(V.mp id).A1 w ρ u↔(∃b,ρ.m id=some (.map b)/\u=.map (some b))\/(ρ.m id=some .Ar/\∃r,u=.map r):=by
 simp[V.A1,V.isAgg,V.Au]
def Mq{y:Bool}{id:Nat}:(V.hd y id).A1 w ρ u↔(∃b,ρ.m id=some (.map b)/\u=LM y b)\/(ρ.m id=some .Ar/\∃b,u=LM y b):=by
 simp[V.A1,V.isAgg,V.Au]
def Ty{id e n:Nat}{p:List Nat}:(V.bs id p e n).A1 w ρ u↔(∃b g d f,ρ.m id=some (.box b g)/\(n<=d/\(n≠0->f=g.off (p++[e])))/\u=.slice (some ⟨b,f,none⟩) n d)\/(ρ.m id=some .Ar/\∃a l c,u=.slice a l c):=by
 simp[V.A1,V.isAgg,V.Au]
def Tz{id n z i f:Nat}{p:List Nat}:(V.ep id n z i f p).A1 w ρ u↔∃o,ρ.m id=some o/\o.elem n (i*z+f) u:=by
 simp[V.A1,V.isAgg,V.Au]
theorem N0{f:Nat}{b a:List V}:(V.fn f b a).A1 w ρ u↔∃c d,u=.func (.func f) c.toArray d.toArray/\V.BT w ρ b c/\V.BT w ρ a d:=by
 simp[V.A1,V.isAgg,V.Au]
theorem KM{x:D}:(V.d x).A1 w ρ u↔(x.isAgg=true/\∃a,u=.agg a.toArray/\x.A1 w (CS ρ) a)\/(x.isAgg=false/\x.A1 w (CS ρ) [u]):=by
 have:(V.d x).isAgg=x.isAgg:=by cases x<;>rfl
 simp[V.A1,V.Au,this]
theorem TT{t:Nat}{x:D}:(V.d (.iface t x)).A1 w ρ u↔∃c,u=.iface t c/\(V.d x).A1 w ρ c:=by
 simp[KM,D.isAgg,D.A1]
theorem T0:∀{l:List D}{a:List Value},V.BT w ρ (l.map .d) a↔GL w (CS ρ) l a
|[],a=>by simp[V.BT,GL]
|x::r,a=>by
 have:∀u,((V.d x)=V.any\/(V.d x).isAgg=true/\(∃b,u=Value.agg b.toArray/\V.Au w ρ (V.d x) b)\/(V.d x).isAgg=false/\V.Au w ρ (V.d x) [u])↔(V.d x).A1 w ρ u:=λu=>Iff.rfl;simp only[Dj,V.BT,GL,T0 (l:=r),this,KM]
theorem To{f:Nat}{b a:List D}:(V.d (.fn f b a)).A1 w ρ u↔∃c e,u=.func (.func f) c.toArray e.toArray/\V.BT w ρ (b.map .d) c/\V.BT w ρ (a.map .d) e:=by
 simp[KM,D.isAgg,D.A1,T0]
def CY{b:List V}:(V.BU b).A1 w ρ u↔∃a,u=.tuple a.toArray/\V.BT w ρ b a:=by
 simp[V.A1,V.isAgg,V.Au]
def x8{v:V}{b:List V}(h:v.Bk=some b):v.A1 w ρ u↔∃a,u=.agg a.toArray/\Cg w ρ b a:=by
 grind[Rba,V.isAgg,V.A1,WD]
theorem Vf{v:V}(h:v.isAgg=false)(a:v≠.any):v.A1 w ρ u↔v.Au w ρ [u]:=by
 simp[V.A1,h,a]
def dy{v:V}{cs:List Value}(h:v.Au w ρ cs):v.A1 w ρ (if v.isAgg then .agg cs.toArray else cs.headD undef):=by
 cases a:v.isAgg with
 |true=>exact .inr (.inl ⟨a,cs,by simp,h⟩)
 |false=>
  have b:=GK _ _ h;have e:v.shape.size=1:=by
   cases v with
   |d x=>cases x<;>simp_all[V.isAgg,V.shape,D.shape,Sh.size]
   |agg f=>simp[V.isAgg]at a
   |_=>simp[V.shape,Sh.size]
  rw[e]at b;obtain⟨c,rfl⟩:=Nt.1 b;exact .inr (.inr ⟨a,by simpa using h⟩)
def Qa{v:V}(c:v≠.any){u:Value}(h:v.A1 w ρ u):v.Au w ρ u.cells.toList:=by
 rcases h with h|⟨_,g,rfl,h⟩|⟨j,h⟩
 ·exact absurd h c
 ·grind[Value.cells]
 ·have:u.cells=#[u]:=by
   cases u with
   |agg e=>
    cases v with
    |d x=>cases x<;>simp_all[V.isAgg,V.Au,D.A1]
    |sl id n=>
     simp only[V.Au]at h;obtain⟨o,u,_,a,b⟩:=h;simp at a;subst a;cases o<;>simp[RO.slice]at b
    |sd id n=>
     simp only[V.Au]at h;obtain⟨o,u,_,a,b⟩:=h;simp at a;subst a;cases o<;>simp[RO.GH]at b
    |ptr id p=>simp_all[V.Au]
    |mp id=>simp_all[V.Au]
    |hd y id=>simp only[V.Au]at h;rcases h with⟨_,_,h⟩|⟨_,_,h⟩<;>cases y<;>simp[LM]at h
    |bs id p k n=>simp_all[V.Au]
    |ep id n z i f p=>
     simp only[V.Au]at h;obtain⟨o,u,_,a,b⟩:=h;simp at a;subst a;cases o<;>simp[RO.elem]at b
    |_=>simp_all[V.isAgg,V.Au,Go.undef]
   |_=>rfl
  simp_all
end BT
def A.A2{w:World}{d:BF}{c:Xf}{a:Act}(e:SM w d c a):∀{x:Operand}{y:A},A.An x y=true->(y.ev c).A1 w d (a.eval x)
|.tmp k,.t j,h=>by simp[A.An]at h;subst h;exact e k
|.const (.int k n),.int o p,h=>by simp_all[A.An,A.ev,Ye,Act.eval]
|.const (.bool b),.bool i,h=>by simp_all[A.An,A.ev,BW,Act.eval]
|.const (.string s),.AV l,h=>by
 simp[A.An]at h;subst h;simp[A.ev,CX,Act.eval]
|.const (.slice none n m),.Ah,h=>by simp_all[A.An,A.ev,Uf,Act.eval]
|.const .nilIface,.CO,h=>by simp[A.ev,ZJ,Act.eval]
|.const (.pointer none),.CV,h=>by simp[A.ev,iz,Act.eval]
|.const .nilFunc,.B3,h=>by simp[A.ev,x9,Act.eval]
|.const (.map none),.Cj,h=>by simp[A.ev,TU,Act.eval]
|.const (.slice none n m),.nl q,h=>by simp_all[A.An,A.ev,Zj,Act.eval]
|.func f,.fn g,h=>by
 grind[A.An,A.ev,N0,Act.eval,V.BT]
def Dm(a:AE)(id:Nat)(p:List Nat):Option V:=match AD a id with
|some (.box _ t)=>t.at p
|_=>none
def KL(K:V->Prop):V->V->V->Prop
|.d (.bool t),.d (.bool x),.d (.bool y)=>K (.d (.bool (if t then x else y)))
|.d (.bool t),x,y=>(t=true->K x)/\(t=false->K y)
|_,_,_=>False
def MP(K:V->Prop):V->Prop
|.d (.bool b)=>K (.d (.bool (!b)))
|_=>False
def MN(K:V->Prop):V->Prop
|.d (.int k n)=>K (.d (.int k (k.wrap (0-n))))
|_=>False
def Zk(a:BinOp)(k:IntKind)(x y:Int):Int:=
 match a with
 |.and=>k.wrap (BitVec.ofInt k.bits x &&&BitVec.ofInt k.bits y).toNat
 |.or=>k.wrap (BitVec.ofInt k.bits x |||BitVec.ofInt k.bits y).toNat
 |.xor=>k.wrap (BitVec.ofInt k.bits x ^^^ BitVec.ofInt k.bits y).toNat
 |_=>k.wrap (BitVec.ofInt k.bits x &&&~~~ BitVec.ofInt k.bits y).toNat
def Ix(e:BinOp)(k c:IntKind)(a b:Int)(K:V->Prop):Prop:=
 match e with
 |.add=>k=c/\K (.d (.int k (k.wrap (a+b))))
 |.sub=>k=c/\K (.d (.int k (k.wrap (a-b))))
 |.mul=>k=c/\K (.d (.int k (k.wrap (a*b))))
 |.quo=>k=c/\b≠0/\K (.d (.int k (k.wrap (a.tdiv b))))
 |.rem=>k=c/\b≠0/\K (.d (.int k (a.tmod b)))
 |.and|.or|.xor|.andNot=>k=c/\K (.d (.int k (Zk e k a b)))
 |.shl=>0<=b/\K (.d (.int k (k.wrap (a*2 ^ (min b.toNat k.bits)))))
 |.shr=>0<=b/\K (.d (.int k (a.fdiv (2 ^ (min b.toNat k.bits)))))
 |.eql=>k=c/\K (.d (.bool (a==b)))
 |.neq=>k=c/\K (.d (.bool (a != b)))
 |.lss=>k=c/\K (.d (.bool (decide (a<b))))
 |.leq=>k=c/\K (.d (.bool (decide (a<=b))))
 |.gtr=>k=c/\K (.d (.bool (decide (b<a))))
 |.geq=>k=c/\K (.d (.bool (decide (b<=a))))
def MD(K:V->Prop):V->Prop
|.d (.int k n)=>K (.d (.int k (Zk .xor k (if k.signed then -1 else k.max) n)))
|_=>False
def KA(a:BinOp)(x y:List UInt8)(K:V->Prop):Prop:=
 match a with
 |.add=>x.length+y.length<=9223372036854775807/\K (.d (.AV (x++y)))
 |.eql=>K (.d (.bool (x==y)))
 |.neq=>K (.d (.bool (x != y)))
 |.lss=>K (.d (.bool (Op.bytesLess x y)))
 |.leq=>K (.d (.bool (Op.bytesLess x y||x==y)))
 |.gtr=>K (.d (.bool (!(Op.bytesLess x y||x==y))))
 |.geq=>K (.d (.bool (!Op.bytesLess x y)))
 |_=>False
def JS(c:BinOp)(K:V->Prop):V->V->Prop
|.d (.int k a),.d (.int e b)=>Ix c k e a b K
|.d (.AV x),.d (.AV y)=>KA c x y K
|_,_=>False
def J3(e:Bool)(K:V->Prop):V->Prop
|.d .CO=>K (.d (.bool e))
|.iface _ _=>K (.d (.bool (!e)))
|.d (.iface _ _)=>K (.d (.bool (!e)))
|_=>False
def KH(e:Bool)(K:V->Prop):V->Prop
|.d .B3=>K (.d (.bool e))
|.d (.fn _ _ _)=>K (.d (.bool (!e)))
|.fn _ _ _=>K (.d (.bool (!e)))
|_=>False
def KD(a:AE)(K:V->Prop):V->Prop
|.sl id n=>(∃E c b,AD a id=some (.BO E c b)/\c≠0/\n=b.length/\b≠[])/\K (.sd id n)
|.d .Ah=>K (.d .CV)
|_=>False
def MM(t:Nat):V->V
|.d x=>.d (.iface t x)
|v=>.iface t v
def NQ(f:Nat)(b a:List V):Option (List D)->Option (List D)->V
|some l,some m=>.d (.fn f l m)
|_,_=>.fn f b a
def Pt(f:Nat)(b a:List V):V:=NQ f b a (Cb b) (Cb a)
def MF(k:IntKind)(K:V->Prop):V->Prop
|.d (.int _ n)=>K (.d (.int k (k.wrap n)))
|_=>False
def MJ(K:V->Prop):V->V->Prop
|.d (.AV s),.d (.int _ n)=>(0<=n/\n<s.length)/\K (.d (.int .u8 (s.getD n.toNat 0).toNat))
|_,_=>False
def Vu:Option V->Option (List V)
|some v=>v.Bk
|none=>none
def Ql(n i:Nat):Option Ob->Option V
|some (.A0 _ _ a)=>if n=a.length then a[i]? else none
|some (.BO _ _ a)=>if n=a.length then (a.map V.d)[i]? else none
|_=>none
def NJ(z f:Nat)(p:List Nat):Option V->Option V
|some v=>if z=v.size/\f=v.shape.off p then v.at p else none
|none=>none
def JD(a:AE)(id n z i f:Nat)(p:List Nat):Option V:=NJ z f p (Ql n i (AD a id))
def Re(z:Nat):Option V->Prop
|some v=>v.size=z
|none=>False
def Hl(a:AE)(z:Nat)(K:V->Prop):V->V->Prop
|.d (.AH f e),.d (.int _ n)=>z=f/\(0<=n/\n<e.length)/\K (.d (.CD (e.getD n.toNat default)))
|.sl id n,.d (.int _ m)=>(0<=m/\m<n)/\Re z (Ql n m.toNat (AD a id))/\K (.ep id n z m.toNat 0 [])
|.bs id p c n,.d (.int _ m)=>(0<=m/\m<n)/\(∃b,Vu (Dm a id p)=some b/\c+n<=b.length/\∀k∈b,k.size=z)/\K (.ptr id (p++[c+m.toNat]))
|_,_=>False
def KI(b:AE)(a z:Nat)(K:V->Prop):V->V->Prop
|.ptr id p,.d (.int _ n)=>(0<=n/\n<a)/\(∃c,Vu (Dm b id p)=some c/\c.length=a/\∀k∈c,k.size=z)/\K (.ptr id (p++[n.toNat]))
|.d (.CD (.agg e)),.d (.int _ n)=>(0<=n/\n<a)/\e.length=a/\(∀x∈e,x.sz=z)/\K (.d (.CD (e.getD n.toNat default)))
|_,_=>False
def Kt(id:Nat)(p:List Nat)(f b:Nat)(K:V->Prop):Option (List V)->Prop
|some a=>f<a.length/\Sh.Br ((a.take f).map V.shape)=b/\K (.ptr id (p++[f]))
|none=>False
def Qm(a:AE)(f b:Nat)(K:V->Prop):V->Prop
|.ptr id p=>Kt id p f b K (Vu (Dm a id p))
|.d (.CD (.agg c))=>f<c.length/\DZ (c.take f)=b/\K (.d (.CD (c.getD f default)))
|.ep id n z i g p=>K (.ep id n z i (g+b) (p++[f]))
|_=>False
def MH(f c n:Nat)(b:Bool)(K:V->Prop):Option (List V)->Prop
|some a=>f<a.length/\Sh.Br ((a.take f).map V.shape)=c/\(a.getD f .any).size=n/\(a.getD f .any).isAgg=b/\K (a.getD f .any)
|none=>False
def Ge(n:Nat)(a:Bool)(K:V->Prop):Option V->Prop
|some v=>v.size=n/\v.isAgg=a/\K v
|none=>False
def E9(a:AE)(n:Nat)(b:Bool)(K:V->Prop):V->Prop
|.ptr id p=>Ge n b K (Dm a id p)
|.d (.CD x)=>x.sz=n/\(V.d x).isAgg=b/\K (.d x)
|.ep id m z i f p=>Ge n b K (JD a id m z i f p)
|_=>False
def IP(K:V->Prop):V->Prop
|.ptr id p=>K (.ptr id p)
|.ep id n z i f p=>K (.ep id n z i f p)
|.d (.CD x)=>K (.d (.CD x))
|.fn f a b=>K (.fn f a b)
|.d (.fn f a b)=>K (.d (.fn f a b))
|_=>False
def Ly(K:V->Prop):V->Prop
|.d (.AV s)=>K (.d (.int .i64 s.length))
|_=>False
def IK(a:AE)(K:V->Prop):V->Prop
|.d (.AH _ b)=>K (.d (.int .i64 b.length))
|.d .Ah=>K (.d (.int .i64 0))
|.bs id _ _ n=>(∃E t,AD a id=some (.box E t))/\K (.d (.int .i64 n))
|.sl id n=>((∃E z b,AD a id=some (.BO E z b)/\n=b.length)\/∃E z b,AD a id=some (.A0 E z b)/\n=b.length)/\K (.d (.int .i64 n))
|_=>False
def Ei(a:Nat)(K:Nat->Nat->Prop):Option V->Option V->Prop
|none,none=>K 0 a
|some (.d (.int _ l)),none=>(0<=l/\l<=a)/\K l.toNat a
|none,some (.d (.int _ h))=>(0<=h/\h<=a)/\K 0 h.toNat
|some (.d (.int _ l)),some (.d (.int _ h))=>(0<=h/\h<=a)/\(0<=l/\l<=h)/\K l.toNat h.toNat
|_,_=>False
def L4(b a:Option V)(K:V->Prop):V->Prop
|.d (.AV s)=>Ei s.length (λl h=>K (.d (.AV ((s.take h).drop l)))) b a
|_=>False
def L3(z:Nat)(e c:Option V)(K:V->Prop):V->Prop
|.d (.AH a b)=>z=a/\Ei b.length (λl h=>K (.d (.AH a ((b.take h).drop l)))) e c
|_=>False
def MG(i:Nat)(K:V->Prop):V->Prop
|.BU a=>i<a.length/\K (a.getD i .any)
|_=>False
def Er:List V->List (Nat×V)->(List V->Prop)->Prop
|a,[],K=>K a
|a,(i,v)::r,K=>i<a.length/\v.shape=(a.getD i .any).shape/\v≠.any/\Er (a.set i v) r K
def NT(t:Nat)(z:D)(K:V->Prop):V->Prop
|.iface a v=>(a=t->K (.BU [v,.d (.bool true)]))/\(a≠t->K (.BU [.d z,.d (.bool false)]))
|.d (.iface a x)=>(a=t->K (.BU [.d x,.d (.bool true)]))/\(a≠t->K (.BU [.d z,.d (.bool false)]))
|.d .CO=>K (.BU [.d z,.d (.bool false)])
|_=>False
inductive KT where
|int (k:IntKind)
|bool
|AV
|st (fs:List KT)
|ar (n:Nat) (e:KT)
mutual
def KT.cells:KT->Nat
|.st a=>Ss a
|.ar n e=>n*e.cells
|_=>1
def Ss:List KT->Nat
|[]=>0
|t::r=>t.cells+Ss r
end
mutual
def KT.depth:KT->Nat
|.st a=>O0 a+1
|.ar _ e=>e.depth+1
|_=>1
def O0:List KT->Nat
|[]=>0
|t::r=>max t.depth (O0 r)
end
mutual
def KT.CI:KT->D->Bool
|.int k,.int c _=>decide (k=c)
|.bool,.bool _=>true
|.AV,.AV _=>true
|.st b,.agg a=>HE b a
|.ar n e,.agg a=>decide (a.length=n)&&KT.D9 e a
|_,_=>false
def HE:List KT->List D->Bool
|[],[]=>true
|t::r,x::s=>t.CI x&&HE r s
|_,_=>false
def KT.D9:KT->List D->Bool
|_,[]=>true
|t,x::s=>t.CI x&&KT.D9 t s
end
def T6(a:KT)(e:Bool)(K:V->Prop):V->V->Prop
|.d x,.d y=>a.CI x=true/\a.CI y=true/\K (.d (.bool (DN x y==e)))
|_,_=>False
def Pf(a z:Nat)(c:Bool)(K:V->Prop):V->V->Prop
|.d (.agg b),.d (.int _ n)=>(0<=n/\n<a)/\b.length=a/\(∀x∈b,x.sz=z/\x.isAgg=c)/\K (.d (b.getD n.toNat default))
|_,_=>False
inductive C where
|mv (x:A)
|pick (c a b:A)
|not (x:A)
|neg (x:A)
|HY (x:A)
|Bl (op:BinOp) (x y:A)
|Db (e:Bool) (x:A)
|Ej (e:Bool) (x:A)
|Ig (x:A)
|IU (k:IntKind) (x:A)
|G5 (x i:A)
|C8 (sz:Nat) (x i:A)
|Ci (len sz:Nat) (x i:A)
|Bs (f fo:Nat) (x:A)
|IV (f fo n:Nat) (ag:Bool) (x:A)
|ld (n:Nat) (ag:Bool) (x:A)
|DT (x:A)
|DO (x:A)
|CU (x:A)
|DB (x:A) (lo hi:Option A)
|DQ (sz:Nat) (x:A) (lo hi:Option A)
|ext (x:A) (i:Nat)
|Fs (z:List D) (Xr:List (Nat×A))
|El (f:Nat) (first cap:List A)
|IY (t:Nat) (x:A)
|Ie (t:Nat) (z:D) (x:A)
|Fh (ty:KT) (e:Bool) (x y:A)
|Hv (len sz:Nat) (ag:Bool) (x i:A)
def C.wp(g:Xf)(h:AE)(K:V->Prop):C->Prop
|.mv x=>K (x.ev g)
|.pick c a b=>KL K (c.ev g) (a.ev g) (b.ev g)
|.not x=>MP K (x.ev g)
|.neg x=>MN K (x.ev g)
|.HY x=>MD K (x.ev g)
|.Bl s x y=>JS s K (x.ev g) (y.ev g)
|.Db e x=>J3 e K (x.ev g)
|.Ej e x=>KH e K (x.ev g)
|.Ig x=>KD h K (x.ev g)
|.IU k x=>MF k K (x.ev g)
|.G5 x i=>MJ K (x.ev g) (i.ev g)
|.C8 z x i=>Hl h z K (x.ev g) (i.ev g)
|.Ci n z x i=>KI h n z K (x.ev g) (i.ev g)
|.Bs f m x=>Qm h f m K (x.ev g)
|.IV f m n j x=>MH f m n j K (x.ev g).Bk
|.ld n j x=>E9 h n j K (x.ev g)
|.DT x=>IP K (x.ev g)
|.DO x=>Ly K (x.ev g)
|.CU x=>IK h K (x.ev g)
|.DB x q o=>L4 (q.map (A.ev g)) (o.map (A.ev g)) K (x.ev g)
|.DQ z x q o=>L3 z (q.map (A.ev g)) (o.map (A.ev g)) K (x.ev g)
|.ext x i=>MG i K (x.ev g)
|.Fs z Xr=>Er (z.map .d) (Xr.map λ(i,x)=>(i,x.ev g)) λr=>K (V.mk r)
|.El f first l=>K (Pt f (first.map (A.ev g)) (l.map (A.ev g)))
|.IY t x=>K (MM t (x.ev g))
|.Ie t z x=>NT t z K (x.ev g)
|.Fh u e x y=>T6 u e K (x.ev g) (y.ev g)
|.Hv p z j x i=>Pf p z j K (x.ev g) (i.ev g)
def KG:List Operand->List A->Bool
|[],[]=>true
|x::r,y::s=>A.An x y&&KG r s
|_,_=>false
def G1:Option Operand->Option A->Bool
|none,none=>true
|some x,some y=>A.An x y
|_,_=>false
def Ub:List (Nat×Operand)->List (Nat×A)->Bool
|[],[]=>true
|(i,x)::r,(j,y)::s=>i==j&&A.An x y&&Ub r s
|_,_=>false
mutual
def E0:D->List Value->Bool
|.int k n,[.int d e]=>decide (k=d)&&n==e
|.bool b,[.bool a]=>b==a
|.AV s,[.string t]=>t.data.toList==s
|.Ah,[.slice none n m]=>n==0&&m==0
|.CO,[.nilIface]=>true
|.CV,[.pointer none]=>true
|.B3,[.nilFunc]=>true
|.Cj,[.map none]=>true
|.AH _ [],[.slice none n m]=>n==0&&m==0
|.agg f,c=>He f c
|_,_=>false
def He:List D->List Value->Bool
|[],[]=>true
|x::r,a=>E0 x (a.take x.sz)&&He r (a.drop x.sz)
|_,_=>false
end
def Gj(P:Program)(t:TypeId):Bool:=match P.underlying t with
|some (.struct _)|some (.array _ _)=>true
|_=>false
def Ws(P:Program)(s:TypeId)(f:Nat):Option Field:=match P.underlying s with
|some (.struct a)=>a[f]?
|_=>none
def Yl(P:Program)(t:TypeId):Option Nat:=(P.info? t).map (·.size)
def Jx(P:Program)(t:TypeId):Option (List Value):=((P.info? t).bind (·.zero)).map (·.cells.toList)
mutual
def KT.An(P:Program):KT->TypeId->Bool
|.int k,t=>match P.underlying t with|some (.int c)=>decide (c=k)|_=>false
|.bool,t=>match P.underlying t with|some .bool=>true|_=>false
|.AV,t=>match P.underlying t with|some .string=>true|_=>false
|.st b,t=>match P.underlying t with|some (.struct a)=>!P.stoodInHeld t&&KT.D8 P b a.toList 0|_=>false
|.ar n e,t=>match P.underlying t with|some (.array m u)=>n==m&&Yl P u==some e.cells&&e.An P u|_=>false
def KT.D8(P:Program):List KT->List Field->Nat->Bool
|[],[],_=>true
|t::r,f::a,o=>f.name != "_" &&f.offset==o&&Yl P f.type==some t.cells&&t.An P f.type&&KT.D8 P r a (o+t.cells)
|_,_,_=>false
end
def C.An(P:Program)(p:Op):C->Bool
|.mv y=>match p with
 |.move x|.assign x=>A.An x y
 |_=>false
|.pick c a b=>match p with
 |.pick x y z=>A.An x c&&A.An y a&&A.An z b
 |_=>false
|.not y=>match p with
 |.unOp .not _ x=>A.An x y
 |_=>false
|.neg y=>match p with
 |.unOp .neg _ x=>A.An x y
 |_=>false
|.HY y=>match p with
 |.unOp .xor _ x=>A.An x y
 |_=>false
|.Bl o a b=>match p with
 |.binOp Q _ x y _=>decide (o=Q)&&A.An x a&&A.An y b
 |_=>false
|.Db e a=>match p with
 |.binOp o t x y _=>decide (o=if e then .eql else .neq)&&(P.underlying t matches some (.interface _))&&A.An x a&&(y matches .const .nilIface)
 |_=>false
|.Ej e a=>match p with
 |.binOp o t x y _=>decide (o=if e then .eql else .neq)&&(P.underlying t matches some (.func _ _ _))&&A.An x a&&(y matches .const .nilFunc)
 |_=>false
|.Ig y=>match p with
 |.call {callee:=.builtin .unsafeSliceData,args:=args,argTypes:=_}=>match args.toList with
  |[x]=>A.An x y
  |_=>false
 |_=>false
|.IU k y=>match p with
 |.convert s t x=>(P.underlying s).isSome&&(match P.underlying t with|some (.int O)=>decide (k=O)|_=>false)&&A.An x y
 |_=>false
|.G5 a i=>match p with
 |.index t x j=>(P.underlying t matches some .string)&&A.An x a&&A.An j i
 |_=>false
|.C8 z a i=>match p with
 |.indexAddr t x j=>(match P.underlying t with|some (.slice e)=>Yl P e==some z&&z != 0|_=>false)&&A.An x a&&A.An j i
 |_=>false
|.Ci n z a i=>match p with
 |.indexAddr t x j=>(match P.underlying t with|some (.array m e)=>n==m&&Yl P e==some z|_=>false)&&A.An x a&&A.An j i
 |_=>false
|.Bs f H y=>match p with
 |.fieldAddr s x g=>f==g&&(match Ws P s f with|some q=>q.offset==H&&(match Yl P q.type with|some n=>n != 0|none=>false)|none=>false)&&A.An x y
 |_=>false
|.IV f H n r y=>match p with
 |.field s x g=>f==g&&(match Ws P s f with|some q=>q.offset==H&&Yl P q.type==some n&&(P.underlying q.type).isSome&&Gj P q.type==r|none=>false)&&A.An x y
 |_=>false
|.ld n r y=>match p with
 |.load t x=>Yl P t==some n&&(P.underlying t).isSome&&Gj P t==r&&A.An x y
 |_=>false
|.DT y=>match p with
 |.nilCheck x=>A.An x y
 |_=>false
|.DO y=>match p with
 |.call {callee:=.builtin .len,args:=args,argTypes:=L}=>match args.toList,L.toList with
  |[x],[t]=>(P.underlying t matches some .string)&&A.An x y
  |_,_=>false
 |_=>false
|.CU y=>match p with
 |.call {callee:=.builtin .len,args:=args,argTypes:=L}=>match args.toList,L.toList with
  |[x],[t]=>(P.underlying t matches some (.slice _))&&A.An x y
  |_,_=>false
 |_=>false
|.DB y K J=>match p with
 |.slice t x l h none=>(P.underlying t matches some .string)&&A.An x y&&G1 l K&&G1 h J
 |_=>false
|.DQ z y K J=>match p with
 |.slice t x l h none=>(match P.underlying t with|some (.slice e)=>Yl P e==some z|_=>false)&&A.An x y&&G1 l K&&G1 h J
 |_=>false
|.ext y i=>match p with
 |.extract x j=>i==j&&A.An x y
 |_=>false
|.Fs z Xr=>match p with
 |.build t T=>Ub T.toList Xr&&(match Jx P t with|some w=>He z w|none=>false)&&
  (match P.underlying t with
  |some (.struct F)=>F.toList.all (λq=>(Yl P q.type).isSome)&&F.toList.map (λq=>(q.offset,(Yl P q.type).getD 0))==(List.range z.length).map (λi=>(DZ (z.take i),(z.getD i default).sz))
  |some (.array _ e)=>(match Yl P e with|some n=>z.all (λx=>x.sz==n)|none=>false)
  |_=>false)
 |_=>false
|.El f first G=>match p with
 |.makeFunc (.func g) F w=>f==g&&KG F.toList first&&KG w.toList G
 |_=>false
|.IY t y=>match p with
 |.makeInterface u x=>t==u&&(match P.underlying t with|some (.interface _)=>false|some _=>true|none=>false)&&A.An x y
 |_=>false
|.Ie t z y=>match p with
 |.typeAssert x _ u true=>t==u&&(match P.underlying t with|some (.interface _)=>false|some _=>true|none=>false)&&(match Jx P t with|some w=>E0 z w&&(((P.info? t).bind (·.zero)).map λv=>match v with|.agg _=>true|_=>false)==some (V.d z).isAgg|none=>false)&&A.An x y
 |_=>false
|.Fh N e a b=>match p with
 |.binOp o t x y _=>decide (o=if e then .eql else .neq)&&N.An P t&&decide (N.depth<=10000)&&(match N with|.st _|.ar _ _=>true|_=>false)&&!P.eqGuardType P.depth t&&A.An x a&&A.An y b
 |_=>false
|.Hv n z r a i=>match p with
 |.index t x j=>(match P.underlying t with|some (.array m e)=>n==m&&Yl P e==some z&&(P.underlying e).isSome&&Gj P e==r|_=>false)&&A.An x a&&A.An j i
 |_=>false
def YL(l:Bool)(P:Program)(a:Act)(w:World)(d:BF)(c:Op)(K:V->Prop):Prop:=
 ∃v x,K x/\x.A1 w d v/\∀(o:Oper),o.op=c->∀b,(l=true->CM w b)->(execOp a.eval o).run P b=.ok (.value v) b
abbrev Y5:=YL false
section
variable {P:Program} {a:Act} {w:World} {ρ:BF} {sl:Xf} {objs:AE} {K:V->Prop}
def Xa{t:TypeId}{d:TypeDesc}(h:P.underlying t=some d)(b:World):(underlying t).run P b=.ok d b:=by
 simp[underlying,h]
def X3{t:TypeId}{n:Nat}(h:Yl P t=some n)(b:World):(sizeOf t).run P b=.ok n b:=by
 unfold Yl at h;cases c:P.info? t<;>simp_all[sizeOf,typeInfo]
def XX{t:TypeId}(h:(P.underlying t).isSome=true)(c:World):(isAgg t).run P c=.ok (Gj P t) c:=by
 obtain⟨d,b⟩:=Le.1 h;simp only[isAgg,Gj,Cm,Xa b,Ch,b];cases d<;>simp
def Ym6(e:SM w ρ sl a){x:A}{b:Op}(c:C.An P b (.mv x)=true)(h:K (x.ev sl)):Y5 P a w ρ b K:=by
 cases b<;>simp[C.An]at c
 all_goals exact⟨_,_,h,A.A2 e c,λo d f _=>by simp[execOp,d]⟩
def X6v(f:SM w ρ sl a){c x y:A}{g:Op}(j:C.An P g (.pick c x y)=true)(h:KL K (c.ev sl) (x.ev sl) (y.ev sl)):Y5 P a w ρ g K:=by
 cases g<;>simp[C.An]at j;rename_i u v z;obtain⟨⟨m,n⟩,p⟩:=j;have i:=A.A2 f m;have F:=A.A2 f n;have G:=A.A2 f p;generalize c.ev sl=H at *;generalize x.ev sl=k at *;generalize y.ev sl=l at *;have s:∀t:Bool,H=.d (.bool t)->(t=true->K k)->(t=false->K l)->Y5 P a w ρ (.pick u v z) K:=by
  intro t e q r;subst e;rw[BW]at i;cases t with
  |true=>exact⟨_,k,q rfl,F,λo b J _=>by simp[execOp,b,i,asBool]⟩
  |false=>exact⟨_,l,r rfl,G,λo b J _=>by simp[execOp,b,i,asBool]⟩
 unfold KL at h;grind
def Yhj(i:SM w ρ sl a){x:A}{d:Op}(c:C.An P d (.not x)=true)(h:MP K (x.ev sl)):Y5 P a w ρ d K:=by
 cases d<;>simp[C.An]at c;rename_i u t y;cases u<;>simp at c;have e:=A.A2 i c;unfold MP at h;split at h
 next b f=>rw[f,BW]at e;exact⟨.bool (!b),_,h,BW.2 rfl,λo g j _=>by simp[execOp,g,e,Op.unary]⟩
 ·cases h
def Yhi(g:SM w ρ sl a){x:A}{c:Op}(b:C.An P c (.neg x)=true)(h:MN K (x.ev sl)):Y5 P a w ρ c K:=by
 cases c<;>simp[C.An]at b;rename_i u t y;cases u<;>simp at b;have d:=A.A2 g b;unfold MN at h;split at h
 next k n e=>rw[e,Ye]at d;exact⟨_,_,h,Ye.2 rfl,λo f i _=>by simp[execOp,f,d,Op.unary,Op.intArith]⟩
 ·cases h
def Yha(e:SM w ρ sl a){x:A}{c:Op}(b:C.An P c (.HY x)=true)(h:MD K (x.ev sl)):Y5 P a w ρ c K:=by
 cases c<;>simp[C.An]at b;rename_i u t y;cases u<;>simp at b;have f:=A.A2 e b;unfold MD at h;split at h
 next k n d=>rw[d,Ye]at f;exact⟨_,_,h,Ye.2 rfl,λo g i _=>by simp_all[execOp,Op.unary,Op.intBits,Zk]⟩
 ·cases h
def Jf(c:BinOp)(t:TypeId)(x y:Operand)(k:IntKind)(n:Int)(v:Value)(b:World):(eqGuard c t x y (.int k n) v).run P b=.ok () b:=by
 simp[eqGuard]
def za(c:BinOp)(t:TypeId)(x y:Operand)(s:ByteArray)(v:Value)(b:World):(eqGuard c t x y (.string s) v).run P b=.ok () b:=by
 simp[eqGuard]
def z6(d:BinOp)(t:TypeId)(x y:Operand)(u:TypeId)(b v:Value)(c:World):(eqGuard d t x y (.iface u b) v).run P c=.ok () c:=by
 simp[eqGuard]
def YA(s:List UInt8):(ByteArray.mk s.toArray).size=s.length:=by
 show s.toArray.size=_;simp
def Yht(l:List UInt8):ByteArray.toList ⟨l.toArray⟩=l:=by
 simp
def Yg8(l:SM w ρ sl a){b:BinOp}{x y:A}{i:Op}(j:C.An P i (.Bl b x y)=true)(h:JS b K (x.ev sl) (y.ev sl)):Y5 P a w ρ i K:=by
 cases i<;>simp[C.An]at j;rename_i s t H J z;obtain⟨⟨rfl,p⟩,q⟩:=j;have d:=A.A2 l p;have e:=A.A2 l q;generalize x.ev sl=F at *;generalize y.ev sl=G at *;unfold JS at h;split at h
 ·rename_i k n r m;rw[Ye]at d e;cases b<;>simp only[Ix]at h
  all_goals first
  |(obtain⟨rfl,h⟩:=h;first
   |exact⟨_,_,h,Ye.2 rfl,λo c f _=>by simp_all[execOp,Jf,binOp,Op.intArith,Op.intBits,Zk]⟩
   |exact⟨_,_,h,BW.2 rfl,λo c f _=>by simp_all[execOp,Jf,binOp,Op.intCmp]⟩
   |(obtain⟨g,h⟩:=h;exact⟨_,_,h,Ye.2 rfl,λo c f _=>by simp_all[execOp,Jf,binOp,Op.intDiv]⟩))
  |(obtain⟨g,h⟩:=h;exact⟨_,_,h,Ye.2 rfl,λo c f _=>by simp[execOp,c,d,e,Jf,binOp,Op.shift,show ¬m<0 by omega]⟩)
 ·rename_i u v;rw[CX]at d e;cases b<;>simp only[KA]at h
  all_goals first
  |exact⟨_,_,h,BW.2 rfl,λo c f _=>by simp[execOp,c,d,e,za,binOp,Op.stringOp,bne]⟩
  |(cases h;done)
  |skip
  obtain⟨g,h⟩:=h;refine⟨_,_,h,CX.2 rfl,λo c f _=>?_⟩;simp only[execOp,c,d,e,za,binOp,Cm,Ch];rw[run_string_add_sum _ _ _ (by simpa[ByteArray.size]using g)];simp[ByteArray.mk_append_mk]
 ·cases h
def Yll{t:TypeId}{e:Array (String×TypeId)}(c:P.underlying t=some (.interface e))(b:World):(Op.equal t .nilIface .nilIface).run P b=.ok true b:=by
 have:∀d,(Op.equalIn (d+1) t .nilIface .nilIface).run P b=.ok true b:=λd=>by simp[Op.equalIn,Xa c]
 exact this 9999
def xN{t:TypeId}{f:Array (String×TypeId)}(e:P.underlying t=some (.interface f))(u:TypeId)(c:Value)(b:World):(Op.equal t (.iface u c) .nilIface).run P b=.ok false b:=by
 have:∀d,(Op.equalIn (d+1) t (.iface u c) .nilIface).run P b=.ok false b:=λd=>by simp[Op.equalIn,Xa e]
 exact this 9999
def Xu4(d:BinOp)(t:TypeId)(x:Operand)(c:Value)(b:World):(eqGuard d t x (.const c) .nilIface .nilIface).run P b=.ok () b:=by
 simp[eqGuard]
def X0q(q:SM w ρ sl a){e:Bool}{x:A}{k:Op}(l:C.An P k (.Db e x)=true)(h:J3 e K (x.ev sl)):Y5 P a w ρ k K:=by
 cases k<;>simp[C.An]at l;rename_i F t H s G;obtain⟨⟨⟨g,z⟩,p⟩,y⟩:=l;have b:=A.A2 q p;obtain⟨m,j⟩:∃m,P.underlying t=some (.interface m):=by grind
 have r:s=.const .nilIface:=by grind
 subst r;have i:a.eval (.const .nilIface)=.nilIface:=rfl;unfold J3 at h;split at h
 next d=>rw[d,ZJ]at b;refine⟨_,_,h,BW.2 rfl,λo f n _=>?_⟩;subst g;cases e<;>simp[execOp,f,b,i,Xu4,binOp,Yll j]
 next u v d=>rw[d]at b;rw[Vf (by simp[V.isAgg]) (by simp)]at b;simp only[V.Au,Mg,Ld]at b;obtain⟨c,b,_⟩:=b;refine⟨_,_,h,BW.2 rfl,λo f n _=>?_⟩;subst g;cases e<;>simp[execOp,f,b,i,z6,binOp,xN j]
 next u v d=>rw[d,TT]at b;obtain⟨c,b,_⟩:=b;refine⟨_,_,h,BW.2 rfl,λo f n _=>?_⟩;subst g;cases e<;>simp[execOp,f,b,i,z6,binOp,xN j]
 ·cases h
def Ylj{t:TypeId}{e f:Array TypeId}{g:Bool}(c:P.underlying t=some (.func e f g))(b:World):(Op.equal t .nilFunc .nilFunc).run P b=.ok true b:=by
 have:∀d,(Op.equalIn (d+1) t .nilFunc .nilFunc).run P b=.ok true b:=λd=>by simp[Op.equalIn,Xa c]
 exact this 9999
def xM{t:TypeId}{g h:Array TypeId}{i:Bool}(e:P.underlying t=some (.func g h i))(f:Go.Fn)(a b:Array Value)(c:World):(Op.equal t (.func f a b) .nilFunc).run P c=.ok false c:=by
 have:∀d,(Op.equalIn (d+1) t (.func f a b) .nilFunc).run P c=.ok false c:=λd=>by simp[Op.equalIn,Xa e]
 exact this 9999
def X5l(c:BinOp)(t:TypeId)(x y:Operand)(v:Value)(b:World):(eqGuard c t x y .nilFunc v).run P b=.ok () b:=by
 simp[eqGuard]
def Xla(e:BinOp)(t:TypeId)(x y:Operand)(f:Go.Fn)(c d:Array Value)(v:Value)(b:World):(eqGuard e t x y (.func f c d) v).run P b=.ok () b:=by
 simp[eqGuard]
def X6p(z:SM w ρ sl a){e:Bool}{x:A}{k:Op}(l:C.An P k (.Ej e x)=true)(h:KH e K (x.ev sl)):Y5 P a w ρ k K:=by
 cases k<;>simp[C.An]at l;rename_i L t O G N;obtain⟨⟨⟨g,J⟩,y⟩,H⟩:=l;have b:=A.A2 z y;obtain⟨m,n,p,j⟩:∃m n p,P.underlying t=some (.func m n p):=by grind
 have F:G=.const .nilFunc:=by grind
 subst F;have i:a.eval (.const .nilFunc)=.nilFunc:=rfl;unfold KH at h;split at h
 next c=>rw[c,x9]at b;refine⟨_,_,h,BW.2 rfl,λo d q _=>?_⟩;subst g;cases e<;>simp[execOp,d,b,i,X5l,binOp,Ylj j]
 next f s r c=>rw[c,To]at b;obtain⟨u,v,b,_⟩:=b;refine⟨_,_,h,BW.2 rfl,λo d q _=>?_⟩;subst g;cases e<;>simp[execOp,d,b,i,Xla,binOp,xM j]
 next f s r c=>rw[c,N0]at b;obtain⟨u,v,b,_⟩:=b;refine⟨_,_,h,BW.2 rfl,λo d q _=>?_⟩;subst g;cases e<;>simp[execOp,d,b,i,Xla,binOp,xM j]
 ·cases h
def Yhb(i:SM w ρ sl a){k:IntKind}{x:A}{b:Op}(c:C.An P b (.IU k x)=true)(h:MF k K (x.ev sl)):Y5 P a w ρ b K:=by
 cases b<;>simp[C.An]at c;rename_i s t v;obtain⟨⟨f,l⟩,g⟩:=c;have j:=A.A2 i g;obtain⟨d,m⟩:=Le.1 f;have q:P.underlying t=some (.int k):=by grind
 unfold MF at h;split at h
 next r n e=>rw[e,Ye]at j;refine⟨_,_,h,Ye.2 rfl,λo p u _=>?_⟩;simp_all[execOp,convert,Xa,Conv.intToInt]
 ·cases h
def Yhf(e:SM w ρ sl a){x y:A}{c:Op}(d:C.An P c (.G5 x y)=true)(h:MJ K (x.ev sl) (y.ev sl)):Y5 P a w ρ c K:=by
 cases c<;>simp[C.An]at d;rename_i t G H;obtain⟨⟨q,i⟩,j⟩:=d;have m:=A.A2 e i;have p:=A.A2 e j;have z:P.underlying t=some .string:=by grind
 unfold MJ at h;split at h
 ·rename_i s k n f g;rw[f,CX]at m;rw[g,Ye]at p;obtain⟨⟨l,u⟩,h⟩:=h;refine⟨_,_,h,Ye.2 rfl,λo v F _=>?_⟩;have b:n.toNat<s.length:=by omega
  have r:(ByteArray.mk s.toArray)[n.toNat]? = some s[n.toNat]:=by
   rw[getElem?_pos _ _ (by simpa[ByteArray.size]using b)];simp[ByteArray.getElem_eq_getElem_data]
  simp_all[execOp,Instr.index,asIntOf,Xa]
 ·cases h
def Yvi(k:OM w ρ objs){id n i:Nat}{v:V}(h:Ql n i (AD objs id)=some v):
 ∃b c E f g d e,ρ.m id=some (.BO b n c)/\w.heap[b]? = some (.cells (List.toArray (d++e)) E (0,0))/\Cg w ρ g d/\(∀x∈g,x.size=f)/\(d++e).length=c*f/\n=g.length/\g[i]? = some v:=by
 unfold Ql at h;split at h
 ·rename_i E f s j;split at h
  ·rcases k.Ba id _ j with⟨_,rfl⟩|⟨b,c,d,e,l,o,p,q,r⟩<;>grind
  ·cases h
 ·rename_i E f s j;split at h
  ·rcases k.Ba id _ j with⟨_,rfl⟩|⟨b,c,d,e,l,o,p,q,r⟩<;>grind[Kd,V.size,V.shape,D4]
  ·cases h
 ·cases h
def Yg{z:Nat}:∀(b:List V),(∀k∈b,k.size=z)->Sh.Br (b.map V.shape)=b.length*z
|[],_=>by simp[Sh.Br]
|x::r,h=>by
 have d:=h x (by simp);have e:=Yg r (λy c=>h y (by simp[c]));grind[V.size,Sh.Br]
def Xk8(t:OM w ρ objs){id n i:Nat}{v:V}(h:Ql n i (AD objs id)=some v):
 ∃b c E d e f,ρ.m id=some (.BO b n c)/\w.heap[b]? = some (.cells (List.toArray (d++(e++f))) E (0,0))/\d.length=i*v.size/\v.Au w ρ e:=by
 obtain⟨b,c,E,k,H,J,G,q,r,s,j,L,N,g⟩:=Yvi t h;obtain⟨d,e,f,l,o,_,p,_⟩:=Oz s g;have y:v.size=k:=j v (List.mem_of_getElem? g);have u:i<H.length:=(HF.1 g).1;refine⟨b,c,E,d,e,f++G,q,by rw[r,l];simp,?_,p⟩;rw[o,<-Sy,Yg (z:=k) _ (λx F=>j x (Lf F)),Mf,O2 (by omega),y]
def Nf(b:Sh):b.off []=0:=by simp[Sh.off]
def Xjp{id n z i f:Nat}{p:List Nat}{u:Value}(h:(V.ep id n z i f p).A1 w ρ u):∃a,u=.pointer (some a):=by
 rw[Tz]at h;obtain⟨o,_,h⟩:=h;cases o with
 |BO b l c=>exact h.2.1
 |Ar=>exact h
 |box b s=>cases h
 |map b=>cases h
 |Cl=>cases h
def Ylh{id n z i g c:Nat}{p q:List Nat}{b:Addr}(h:(V.ep id n z i g p).A1 w ρ (.pointer (some b))):
 (V.ep id n z i (g+c) q).A1 w ρ (.pointer (some (b.add c))):=by
 rw[Tz]at h⊢;obtain⟨o,d,h⟩:=h;refine⟨o,d,?_⟩;cases o<;>grind[RO.elem,Value.pointer.injEq,Addr.CH,Addr.mk.injEq]
def N2(e:OM w ρ objs){id:Nat}{p:List Nat}{v:V}(h:Dm objs id p=some v):
 ∃t b c E,AD objs id=some (.box E t)/\t.at p=some v/\ρ.m id=some (.box b t.shape)/\w.heap[b]? = some (.cells (List.toArray c) E (0,0))/\t.Au w ρ c:=by
 unfold Dm at h;split at h
 next E t d=>obtain⟨b,c,f,g,i⟩:=e.Ba id _ d;grind
 ·simp at h
def QQ(s:Sh):∀(p:List Nat)(t:V)(v:V)(i:Nat),t.shape=s->t.at p=some v->s.off (p++[i])=s.off p+v.shape.off [i]
|[],t,v,i,e,h=>by
 simp_all[V.at,ED,Sh.off]
|j::p,t,v,i,e,h=>by
 simp only[V.at]at h;split at h
 ·rename_i f d;split at h
  ·rename_i k c;subst e;rw[QK d];have b:(List.map V.shape f).getD j .leaf=k.shape:=by simp[c]
   simp only[F1,Sh.off,b];rw[QQ _ p k v i rfl h];omega
  ·simp at h
 ·simp at h
def Tn{v:V}{b:List V}(c:v.Bk=some b)(i:Nat):v.shape.off [i]=Sh.Br ((b.take i).map V.shape):=by
 simp_all[QK,Sh.off]
def X6q(hs:SM w ρ sl a)(hO:OM w ρ objs){z:Nat}{x y:A}{op:Op}(hc:C.An P op (.C8 z x y)=true)(h:Hl objs z K (x.ev sl) (y.ev sl)):Y5 P a w ρ op K:=by
 cases op<;>simp[C.An]at hc;rename_i t x1 y1;obtain⟨⟨h0,h1⟩,h2⟩:=hc;have c:=A.A2 hs h1;have l:=A.A2 hs h2;obtain⟨e,ht,W,aa⟩:∃e,P.underlying t=some (.slice e)/\Yl P e=some z/\z≠0:=by
  grind
 unfold Hl at h;split at h
 ·rename_i sz xs k n r s;rw[r,Zj]at c;rw[s,Ye]at l;obtain⟨rfl,⟨d,G⟩,h⟩:=h;have F:n.toNat<xs.length:=by omega
  rcases c with⟨L,_⟩|⟨O,q,vs,c,_,u,J,hu⟩
  ·subst L;simp at F
  ·have Z:O.spot=none:=by
    refine(u.1 λhv=>?_).1;have:=HC _ _ J;rw[hv,FE _ hu]at this;simp at this;have h5:0<xs.length*z:=Nat.mul_pos (by omega) (O3 aa);omega
   refine⟨_,_,h,Mp.2 ⟨⟨O.block,O.off+n.toNat*z,none⟩,_,rfl,rfl,u.sub (n.toNat*z) z,?_⟩,λo H w' _=>?_⟩
   ·have U:=WH J F;have h4:DZ (xs.take n.toNat)=n.toNat*z:=by
     rw[FE (sz:=z) _ (λx L=>hu x (Lf L))];grind
    simp_all
   ·simp[execOp,H,c,l,Instr.indexAt,asIntOf,Xa ht,d,G,X3 W,Addr.CH Z]
 ·rename_i id n k m r s;rw[r,Y9]at c;rw[s,Ye]at l;obtain⟨⟨d,G⟩,h⟩:=h;cases X:Ql n m.toNat (AD objs id) with
  |none=>simp_all[Re,false_and]
  |some v=>
   obtain⟨hz,h⟩:=h;obtain⟨b,q,E,c1,c2,c3,Q,g2,T,g4⟩:=Xk8 hO X;obtain⟨o,q1,q2⟩:=c;rw[Q]at q1;simp at q1;subst q1;have c:=q2.2.2 rfl;refine⟨.pointer (some ⟨b,m.toNat*z,none⟩),_,h,Tz.2 ⟨_,Q,?_⟩,λo H w' _=>?_⟩
   ·refine⟨B9 _,⟨_,rfl⟩,λ_=>?_⟩;rfl
   ·simp[execOp,H,c,l,Instr.indexAt,asIntOf,Xa ht,d,G,X3 W,Addr.CH]
 ·rename_i id p lo n k m r s;rw[r,Ty]at c;rw[s,Ye]at l;obtain⟨⟨d,G⟩,⟨ks,Y,hl,hz⟩,h⟩:=h;cases g:Dm objs id p with
  |none=>simp[g,Vu]at Y
  |some v=>
   simp only[g,Vu]at Y;obtain⟨t0,b',cs,E,Q,g2,T,g4,g5⟩:=N2 hO g;rcases c with⟨b,sh,q,f,N,⟨ab,j⟩,c⟩|⟨hg,_⟩
   ·have j:=j (by omega);subst j;rw[N]at T;obtain⟨rfl,rfl⟩:=T;refine⟨_,_,h,XK N,λo H w' _=>?_⟩;have U:∀i,i<=ks.length->t0.shape.off (p++[i])=t0.shape.off p+i*z:=λi hi=>by
     rw[QQ _ p t0 v i rfl g2,Tn Y,Yg (z:=z) _ (λx L=>hz x (Lf L)),Mf,O2 hi]
    have h4:=U lo (by omega);have h5:=U (lo+m.toNat) (by omega);simp[execOp,H,c,l,Instr.indexAt,asIntOf,Xa ht,d,G,X3 W,Addr.CH,h4,h5,Kg,dV]
   simp_all
 ·cases h
def Xl3(W:SM w ρ sl a)(g:OM w ρ objs){n z:Nat}{x y:A}{op:Op}(T:C.An P op (.Ci n z x y)=true)(h:KI objs n z K (x.ev sl) (y.ev sl)):Y5 P a w ρ op K:=by
 cases op<;>simp[C.An]at T;rename_i t x1 y1;obtain⟨⟨h0,h1⟩,h2⟩:=T;have c:=A.A2 W h1;have j:=A.A2 W h2;obtain⟨e,X,U⟩:∃e,P.underlying t=some (.array n e)/\Yl P e=some z:=by
  grind
 unfold KI at h;split at h
 ·rename_i id p k m l q;rw[l]at c;rw[q,Ye]at j;obtain⟨⟨f,G⟩,⟨ks,s,hl,Y⟩,h⟩:=h;cases d:Dm objs id p with
  |none=>simp[d,Vu]at s
  |some v=>
   simp only[d,Vu]at s;obtain⟨L,b',cs,E,Z,g2,O,g4,g5⟩:=N2 g d;obtain⟨b,sh,i,c⟩:=B2 g Z c;rw[i]at O;obtain⟨rfl,rfl⟩:=O;refine⟨_,_,h,XK i,λo g w' _=>?_⟩;have Q:L.shape.off (p++[m.toNat])=L.shape.off p+m.toNat*z:=by
    rw[QQ _ p L v m.toNat rfl g2,Tn s,Yg (z:=z) _ (λk u=>Y k (Lf u)),Mf,O2 (by omega)]
   simp[execOp,g,c,j,Instr.indexAt,asIntOf,Xa X,f,G,X3 U,Instr.sureAddr,Addr.CH,Q]
 ·rename_i xs k m l q;rw[l,Mp]at c;rw[q,Ye]at j;obtain⟨⟨f,G⟩,hl,Y,h⟩:=h;obtain⟨N,vs,c,J,r,H⟩:=c;have F:m.toNat<xs.length:=by omega
  refine⟨_,_,h,Mp.2 ⟨⟨N.block,N.off+m.toNat*z,none⟩,_,rfl,rfl,r.sub (m.toNat*z) z,?_⟩,λo g w' _=>?_⟩
  ·have Q:=WH H F;grind[DZ,FE,List.mem_of_mem_take,List.length_take,Nat.min_eq_left]
  ·simp[execOp,g,c,j,Instr.indexAt,asIntOf,Xa X,f,G,X3 U,Instr.sureAddr,Addr.CH J]
 ·cases h
def Xl2(Y:SM w ρ sl a)(k:OM w ρ objs){f fo:Nat}{x:A}{op:Op}(J:C.An P op (.Bs f fo x)=true)(h:Qm objs f fo K (x.ev sl)):Y5 P a w ρ op K:=by
 cases op<;>simp[C.An]at J;rename_i t x1 g;obtain⟨⟨rfl,h0⟩,T⟩:=J;have c:=A.A2 Y T;obtain⟨d,n,hf,y,hn,X⟩:∃d n,Ws P t f=some d/\d.offset=fo/\Yl P d.type=some n/\n≠0:=by
  grind
 obtain⟨s,aa,U⟩:∃s,P.underlying t=some (.struct s)/\s[f]? = some d:=by
  grind[Ws]
 unfold Qm at h;split at h
 ·rename_i id p e;rw[e]at c;cases j:Dm objs id p with
  |none=>simp_all[Vu,Kt]
  |some v=>
   cases L:v.Bk with
   |none=>simp_all[Vu,Kt]
   |some ks=>
    simp only[j,Vu,Kt,L]at h;obtain⟨W,l,h⟩:=h;obtain⟨G,b',cs,E,O,Q,H,g4,g5⟩:=N2 k j;obtain⟨b,sh,q,c⟩:=B2 k O c;rw[q]at H;obtain⟨rfl,rfl⟩:=H;refine⟨_,_,h,XK q,λo k N _=>?_⟩;have h3:G.shape.off (p++[f])=G.shape.off p+d.offset:=by
     rw[QQ _ p G v f rfl Q,Tn L,l,y]
    simp_all[execOp,Instr.fieldAt,Xa,Instr.sureAddr,fieldPlace,X3,Addr.CH]
 ·rename_i xs e;rw[e,Mp]at c;obtain⟨r,vs,c,Z,u,F⟩:=c;obtain⟨W,l,h⟩:=h;simp only[D.A1]at F;refine⟨_,_,h,Mp.2 ⟨⟨r.block,r.off+fo,none⟩,_,rfl,rfl,u.sub fo xs[f].sz,?_⟩,λo k N _=>?_⟩
  ·grind[WH]
  simp_all[execOp,Instr.fieldAt,Xa,Instr.sureAddr,fieldPlace,X3,Addr.CH]
 next id m z i g p e=>rw[e]at c;obtain⟨r,r2⟩:=Xjp c;rw[r2]at c;refine⟨_,_,h,Ylh c,λo k N _=>?_⟩;simp_all[execOp,Instr.fieldAt,Xa,Instr.sureAddr,fieldPlace,X3]
 ·cases h
def X6u(t:SM w ρ sl a){x:A}{l:Op}(m:C.An P l (.DT x)=true)(h:IP K (x.ev sl)):Y5 P a w ρ l K:=by
 cases l<;>simp[C.An]at m;have d:=A.A2 t m;unfold IP at h;split at h
 next id p e=>rw[e]at d;obtain⟨_,c⟩:=Xf8 d;exact⟨_,_,h,d,λo j k _=>by simp[execOp,j,c]⟩
 next id n z i g p e=>rw[e]at d;obtain⟨_,c⟩:=Xjp d;exact⟨_,_,h,d,λo j k _=>by simp[execOp,j,c]⟩
 next y e=>rw[e]at d;have c:=d;rw[Mp]at c;obtain⟨b,q,c,_⟩:=c;exact⟨_,_,h,d,λo j k _=>by simp[execOp,j,c]⟩
 next f s r e=>rw[e]at d;have c:=d;rw[N0]at c;obtain⟨b,q,c,_⟩:=c;exact⟨_,_,h,d,λo j k _=>by simp[execOp,j,c]⟩
 next f s r e=>rw[e]at d;have c:=d;rw[To]at c;obtain⟨b,q,c,_⟩:=c;exact⟨_,_,h,d,λo j k _=>by simp[execOp,j,c]⟩
 ·cases h
def X6t(p:SM w ρ sl a){x:A}{f:Op}(d:C.An P f (.DO x)=true)(h:Ly K (x.ev sl)):Y5 P a w ρ f K:=by
 cases f<;>simp only[C.An,BY]at d;rename_i c;obtain⟨i,e,r⟩:=c;cases i<;>(try simp only[BY]at d);rename_i b;cases b<;>(try simp only[BY]at d);split at d
 ·rename_i y t u v;simp only[BX]at d;obtain⟨z,m⟩:=d;have q:P.underlying t=some .string:=by grind
  have g:=A.A2 p m;have k:e=#[y]:=by grind
  have l:r=#[t]:=by grind
  subst k l;unfold Ly at h;split at h
  next s j=>rw[j,CX]at g;refine⟨_,_,h,Ye.2 rfl,λo n F _=>?_⟩;simp[execOp,n,resolve,invoke,builtin,Builtin.len_,g,Xa q,goInt,YA]
  ·cases h
 ·simp at d
def X6s(hs:SM w ρ sl a)(r:OM w ρ objs){x:A}{v:Op}(j:C.An P v (.CU x)=true)(h:IK objs K (x.ev sl)):Y5 P a w ρ v K:=by
 cases v<;>simp only[C.An,BY]at j;rename_i c;obtain⟨H,args,ts⟩:=c;cases H<;>(try simp only[BY]at j);rename_i b;cases b<;>(try simp only[BY]at j);split at j
 ·rename_i y t J L;simp only[BX]at j;obtain⟨T,U⟩:=j;obtain⟨e,ht⟩:∃e,P.underlying t=some (.slice e):=by revert T;split<;>simp_all
  have k:=A.A2 hs U;have O:args=#[y]:=by simpa using DH List.toArray J
  have Q:ts=#[t]:=by simpa using DH List.toArray L
  subst O Q;have u:∀(F:Option Addr)(n c:Nat),a.eval y=.slice F n c->K (.d (.int .i64 n))->Y5 P a w ρ (.call {callee:=.builtin .len,args:=#[y],argTypes:=#[t] }) K:=by
   intro F n c N W;refine⟨_,_,W,Ye.2 rfl,λo ho w' _=>?_⟩;simp[execOp,ho,resolve,invoke,builtin,Builtin.len_,N,Xa ht,goInt]
  unfold IK at h;split at h
  ·grind[Zj]
  ·simp_all[Uf]
  ·rename_i id p lo n q;rw[q,Ty]at k;obtain⟨⟨E,t0,l⟩,h⟩:=h;rcases k with⟨b,sh,g,f,_,_,k⟩|⟨Y,_⟩
   ·exact u _ _ _ k h
   ·obtain⟨b,G,i,_⟩:=r.Ba id _ l;rw[Y]at i;cases i
  ·rename_i id n q;rw[q,Y9]at k;obtain⟨X,h⟩:=h;obtain⟨o,s,k⟩:=k;have i:ρ.m id=some .Cl\/∃b g,ρ.m id=some (.BO b n g):=by
    rcases X with⟨E,z,xs,l,Z⟩|⟨E,z,xs,l,Z⟩
    ·rcases r.Ba id _ l with⟨i,_⟩|⟨b,g,G,sp,i,_⟩<;>grind
    ·rcases r.Ba id _ l with⟨i,_⟩|⟨b,g,G,sp,i,_⟩<;>grind
   rcases i with i|⟨b,g,i⟩
   ·grind[Option.some.injEq,RO.slice]
   ·rw[s]at i;simp_all[ED,RO.slice,trivial]
  ·cases h
 ·simp at j
def Yhd(q:SM w ρ sl a){x:A}{i:Nat}{e:Op}(k:C.An P e (.ext x i)=true)(h:MG i K (x.ev sl)):Y5 P a w ρ e K:=by
 cases e<;>simp[C.An]at k;obtain⟨rfl,m⟩:=k;have f:=A.A2 q m;unfold MG at h;split at h
 ·rename_i b l;rw[l,CY]at f;obtain⟨c,f,n⟩:=f;obtain⟨p,h⟩:=h;have d:∀(b:List V)(c:List Value)(i:Nat),V.BT w ρ b c->i<b.length->∃u,c[i]? = some u/\(b.getD i .any).A1 w ρ u:=by
   intro b;induction b with
   |nil=>simp
   |cons x r v=>
    intro c i h s;obtain⟨u,y,rfl,g,j⟩:=h;cases i with
    |zero=>exact⟨u,rfl,g⟩
    |succ i=>simp_all
  obtain⟨u,g,j⟩:=d b c i n p;refine⟨u,_,h,j,λo t z _=>?_⟩;simp_all[execOp,Instr.extract]
 ·cases h
def Z8(b:SM w ρ sl a):∀{c:List Operand}{d:List A},KG c d=true->V.BT w ρ (d.map (A.ev sl)) (c.map a.eval)
|[],[],_=>by simp[V.BT]
|x::r,y::s,h=>by
 simp only[KG,BX]at h;exact⟨_,_,rfl,A.A2 b h.1,Z8 b h.2⟩
|[],_::_,h=>by simp[KG]at h
|_::_,[],h=>by simp[KG]at h
def Yhh(g:SM w ρ sl a){t:Nat}{x:A}{b:Op}(c:C.An P b (.IY t x)=true)(h:K (MM t (x.ev sl))):Y5 P a w ρ b K:=by
 cases b<;>simp[C.An]at c;rename_i p k;obtain⟨⟨rfl,l⟩,e⟩:=c;obtain⟨d,m,f⟩:∃d,P.underlying t=some d/\∀i,d≠.interface i:=by
  grind
 have j:=A.A2 g e;refine⟨.iface t (a.eval k),_,h,?_,λo n q _=>?_⟩
 ·unfold MM;split
  ·simp_all[TT]
  ·rw[Vf (by simp[V.isAgg]) (by simp)];exact⟨_,rfl,j⟩
 simp_all[execOp,Instr.makeInterface,Xa]
theorem Uz{c d:Type}(f:c->d)(b:Array c):b.map f=(b.toList.map f).toArray:=by apply Array.ext';simp
def Yhg(e:SM w ρ sl a){f:Nat}{first b:List A}{d:Op}(c:C.An P d (.El f first b)=true)(h:K (Pt f (first.map (A.ev sl)) (b.map (A.ev sl)))):Y5 P a w ρ d K:=by
 cases d<;>simp only[C.An,BY]at c;rename_i g j i;cases g<;>simp at c;obtain⟨⟨rfl,k⟩,l⟩:=c;refine⟨.func (.func f) (j.map a.eval) (i.map a.eval),_,h,?_,λo m q _=>?_⟩
 ·have n:=Z8 e k;have p:=Z8 e l;unfold Pt NQ;grind[V.Cd,To,Uz,N0]
 ·simp[execOp,m,Instr.makeFunc]
def wY{t:TypeId}{n:Nat}(o:Yl P t=some n)(k:(P.underlying t).isSome=true){b off:Nat}{cs:List Value}(e:cs.length=n)
 {w':World} (l:∀i (h:i<cs.length),w'.cell? ⟨b,off+i,none⟩=some cs[i]) (f:Gj P t=false->n=1):
 (Instr.loadAt t (.pointer (some ⟨b,off,none⟩))).run P w'=.ok (if Gj P t then .agg cs.toArray else cs.headD undef) w':=by
 simp only[Instr.loadAt,Instr.sureAddr,loadVar,Cm,DD,Ch,XX k];cases d:Gj P t with
 |true=>
  have:=run_loadCells_list (P:=P) (w:=w') ⟨b,off,none⟩ cs (λj v m=>by
   grind[Addr.CH])
  simp_all[X3]
 |false=>
  have g:=f d;rw[g]at e;obtain⟨c,rfl⟩:=Nt.1 e;simp_all
def Qk{v:V}(h:v.isAgg=false):v.size=1:=by
 cases v with
 |d x=>cases x<;>simp_all[V.isAgg,V.size,V.shape,D.shape,Sh.size]
 |agg b=>simp[V.isAgg]at h
 |_=>simp[V.size,V.shape,Sh.size]
def Yhe(U:SM w ρ sl a){f j n:Nat}{e:Bool}{x:A}{u:Op}(G:C.An P u (.IV f j n e x)=true)(h:MH f j n e K (x.ev sl).Bk):Y5 P a w ρ u K:=by
 cases u<;>simp[C.An]at G;rename_i t x1 g;obtain⟨⟨rfl,h0⟩,L⟩:=G;have i:=A.A2 U L;obtain⟨b,hf,T,hn,X,l⟩:∃b,Ws P t f=some b/\b.offset=j/\Yl P b.type=some n/\(P.underlying b.type).isSome=true/\Gj P b.type=e:=by
  grind
 obtain⟨k,r,m⟩:∃k,P.underlying t=some (.struct k)/\k[f]? = some b:=by
  grind[Ws]
 cases p:(x.ev sl).Bk with
 |none=>simp[p,MH]at h
 |some s=>
  simp only[p,MH]at h;obtain⟨O,W,h2,y,h⟩:=h;rw[x8 p]at i;obtain⟨J,i,q⟩:=i;have N:s[f]? = some (s.getD f .any):=by simp[O]
  obtain⟨Y,H,Z,e1,e2,_,z,_⟩:=Oz q N;generalize s.getD f .any=v at *;have d:=GK _ _ z;refine⟨_,v,h,dy z,λo Q w' _=>?_⟩;have hx:J.toArray.extract b.offset (b.offset+n)=H.toArray:=by
   simp_all[V.size]
  simp only[execOp,Q,Instr.field,Xa r,m,part,asAgg,i,Cm,DD,Ch,XX X,l,y];cases e with
  |true=>simp_all[X3]
  |false=>
   have F:=Qk y;unfold V.size at F;rw[F]at d;obtain⟨c,rfl⟩:=Nt.1 d;simp_all
def TY(hs:SM w ρ sl a)(H:OM w ρ objs){n:Nat}{ag:Bool}{x:A}{op:Op}(X:C.An P op (.ld n ag x)=true)(h:E9 objs n ag K (x.ev sl)):YL true P a w ρ op K:=by
 cases op<;>simp[C.An]at X;rename_i t x1;obtain⟨⟨⟨hn,hu⟩,ab⟩,h1⟩:=X;have e:=A.A2 hs h1;have s:∀(b off:Nat)(cs:List Value)(v:V),a.eval x1=.pointer (some ⟨b,off,none⟩)->(cs≠[]->b<w.heap.size)->(∀i (h:i<cs.length),w.cell? ⟨b,off+i,none⟩=some cs[i])->
  v.Au w ρ cs->v.size=n->v.isAgg=ag->K v->YL true P a w ρ (.load t x1) K:=by
  intro b off cs v l J g k q u hK;have hl:=GK _ _ k;refine⟨_,v,hK,dy k,λo ho w' he=>?_⟩;have:=wY (P:=P) (t:=t) (n:=n) hn hu (b:=b) (off:=off) (cs:=cs) (by rw[hl,<-q];rfl) (w':=w') (λi Y=>by
   rw[cell?_congr ((he rfl).keep b (J (by grind)))];exact g i Y) (λW=>by simp_all[Qk])
  simp_all[execOp]
 unfold E9 at h;split at h
 ·rename_i id p l;rw[l]at e;cases c:Dm objs id p with
  |none=>simp[c,Ge]at h
  |some v=>
   simp only[c,Ge]at h;obtain⟨t0,b',cs,E,F,T,G,U,g5⟩:=N2 H c;obtain⟨b,sh,O,e⟩:=B2 H F e;rw[O]at G;obtain⟨rfl,rfl⟩:=G;grind[Ke,Xu,World.cell?]
 next y l=>rw[l,Mp]at e;obtain⟨ad,vs,e,N,g,k⟩:=e;obtain⟨q,u,h⟩:=h;obtain⟨b,off,sp⟩:=ad;obtain⟨J,j⟩:=g;subst N;exact s b off vs (.d y) e (λL=>(J L).2.2) j (by simp_all[V.Au]) (by simp[V.size,V.shape,D4,q]) u h
 ·rename_i id m z Z f p l;rw[l]at e;cases r:Ql m Z (AD objs id) with
  |none=>simp_all[JD,NJ,Ge]
  |some v0=>
   cases c:NJ z f p (some v0) with
   |none=>simp_all[JD,Ge]
   |some v=>
    simp only[JD,r,c,Ge]at h;obtain⟨q,u,h⟩:=h;simp only[NJ]at c;split at c
    ·obtain⟨b,aa,E,c1,c2,c3,F,T,G,U⟩:=Xk8 H r;obtain⟨d1,d2,d3,e2,e3,W⟩:=Ke p v0 v c2 U c;rw[Tz]at e;obtain⟨o,Q,q2⟩:=e;rw[F]at Q;simp at Q;subst Q;have e:=q2.2.2 rfl;refine s b _ d2 v e (λ_=>Xu T) (λi Y=>?_) W q u h;have e5:Z*z+f+i=c1.length+(d1.length+i):=by grind
     simp_all[World.cell?,List.getElem?_append_right,WU,EW]
    ·cases c
 ·cases h
def XD(J:SM w ρ sl a){c cap:Nat}{isS:Bool}{u r:Option Operand}{g b:Option A}{K:Nat->Nat->Prop}(v:c<=cap)
 (q:G1 u g=true) (j:G1 r b=true) (h:Ei c K (g.map (A.ev sl)) (b.map (A.ev sl))):
 ∃l h,K l h/\l<=h/\h<=c/\∀o,(Instr.sliceBounds isS c cap (u.map a.eval) (r.map a.eval) none).run P o=.ok (l,h,cap) o:=by
 have f:∀{x:Operand}{y:A},A.An x y=true->∀{k n},y.ev sl=.d (.int k n)->a.eval x=.int k n:=λ{x y} H {k n} e=>by
  have:=A.A2 J H;simp_all[Ye]
 cases u with
 |none=>
  cases g with
  |some _=>simp[G1]at q
  |none=>
   cases r with
   |none=>
    cases b with
    |some _=>simp[G1]at j
    |none=>
     exact⟨0,c,h,FL _,B9 _,λo=>by simp[Instr.sliceBounds]⟩
   |some L=>
    cases b with
    |none=>simp[G1]at j
    |some s=>
     simp at h;cases e:s.ev sl with
     |d x=>
      cases x with
      |int k n=>
       simp only[e,Ei]at h;obtain⟨⟨p,t⟩,h⟩:=h;refine⟨0,n.toNat,h,FL _,by omega,λo=>?_⟩;have:n<=(cap:Int):=by omega
       simp[Instr.sliceBounds,Instr.sliceBound,f j e,asIntOf,p,this]
      |_=>simp[e,Ei]at h
     |_=>simp[e,Ei]at h
 |some T=>
  cases g with
  |none=>simp[G1]at q
  |some z=>
   simp only[G1]at q;simp at h;cases i:z.ev sl with
   |d x=>
    cases x with
    |int k n=>
     cases r with
     |none=>
      cases b with
      |some _=>simp[G1]at j
      |none=>
       simp only[S3,i,Ei]at h;obtain⟨⟨p,t⟩,h⟩:=h;refine⟨n.toNat,c,h,by omega,B9 _,λo=>?_⟩;simp[Instr.sliceBounds,Instr.sliceBound,f q i,asIntOf,p,t]
     |some L=>
      cases b with
      |none=>simp[G1]at j
      |some s=>
       simp only[Mm,i]at h;cases e:s.ev sl with
       |d x=>
        cases x with
        |int Q m=>
         simp only[e,Ei]at h;obtain⟨⟨p,t⟩,⟨F,G⟩,h⟩:=h;refine⟨n.toNat,m.toNat,h,by omega,by omega,λo=>?_⟩;have N:m<=(cap:Int):=by omega
         have O:(max m 0:Int)=m:=by omega
         simp[Instr.sliceBounds,Instr.sliceBound,f q i,f j e,asIntOf,p,F,N,O,G]
        |_=>simp[e,Ei]at h
       |_=>simp[e,Ei]at h
    |_=>simp[i,Ei]at h
   |_=>simp[i,Ei]at h
def X6x(g:SM w ρ sl a){x:A}{i f:Option A}{e:Op}(b:C.An P e (.DB x i f)=true)(h:L4 (i.map (A.ev sl)) (f.map (A.ev sl)) K (x.ev sl)):Y5 P a w ρ e K:=by
 cases e<;>simp only[C.An,BY]at b;rename_i t L H G u;cases u<;>simp only[BY]at b;simp at b;obtain⟨⟨⟨F,r⟩,d⟩,c⟩:=b;have j:=A.A2 g r;have q:P.underlying t=some .string:=by grind
 unfold L4 at h;split at h
 next s k=>rw[k,CX]at j;obtain⟨l,z,m,v,y,p⟩:=XD (P:=P) (cap:=s.length) (isS:=false) g (B9 _) d c h;refine⟨_,_,m,CX.2 rfl,λo n J _=>?_⟩;simp only[execOp,n,Instr.sliceAt,Instr.slice,j,Cm,Xa q,Ch,S3,Option.isSome_none,BY,CR,YA,p,DD];congr 3;apply ByteArray.ext;simp[vN]
 ·cases h
def X6w(y:SM w ρ sl a){z:Nat}{x:A}{N J:Option A}{G:Op}(n:C.An P G (.DQ z x N J)=true)(h:L3 z (N.map (A.ev sl)) (J.map (A.ev sl)) K (x.ev sl)):Y5 P a w ρ G K:=by
 cases G<;>simp only[C.An,BY]at n;rename_i t x1 l1 h1 W;cases W<;>simp only[BY]at n;simp only[BX]at n;obtain⟨⟨⟨Z,U⟩,i⟩,g⟩:=n;have d:=A.A2 y U;obtain⟨e,F,u⟩:∃e,P.underlying t=some (.slice e)/\Yl P e=some z:=by
  grind
 unfold L3 at h;split at h
 ·rename_i sz q T;rw[T,Zj]at d;obtain⟨rfl,h⟩:=h;rcases d with⟨rfl,d⟩|⟨k,cap,Y,d,f,s,v,hu⟩
  ·obtain⟨l,c,m,H,r,p⟩:=XD (P:=P) (cap:=0) (isS:=true) y (B9 _) i g h;simp at r;subst r;simp at H;refine⟨.slice none 0 0,_,m,Zj.2 (.inl ⟨by simp,rfl⟩),λo j Q _=>?_⟩;simp[execOp,j,Instr.sliceAt,Instr.slice,d,Xa F,p,X3 u]
  ·obtain⟨l,c,m,H,r,p⟩:=XD (P:=P) (cap:=cap) (isS:=true) y f i g h;have b:((q.take c).drop l).length=c-l:=by simp;omega
   by_cases L:cap=l
   ·subst L;refine⟨.slice (some k) (c-cap) (cap-cap),_,m,Zj.2 (.inr ⟨k,cap-cap,[],by rw[b],by omega,C5.nil k,?_,?_⟩),λo j Q _=>?_⟩
    ·grind[CT]
    ·grind
    ·simp[execOp,j,Instr.sliceAt,Instr.slice,d,Xa F,p,X3 u]
   ·refine⟨.slice (some (k.add (l*z))) (c-l) (cap-l),_,m,Zj.2 (.inr ⟨_,cap-l,_,by rw[b],by omega,s.QE (l*z) ((c-l)*z),?_,?_⟩),λo j Q _=>?_⟩
    ·have O:=(Nl q l Y v).2;have X:DZ (q.take l)=l*z:=by
      grind[FE,List.mem_of_mem_take,List.length_take,Nat.min_eq_left]
     rw[X]at O;have s2:=(Nl (q.drop l) (c-l) _ O).1;grind[DZ,FE,List.mem_of_mem_drop,List.mem_of_mem_take,List.length_take,List.length_drop,Nat.min_eq_left,List.drop_take]
    ·grind
    ·simp[execOp,j,Instr.sliceAt,Instr.slice,d,Xa F,p,X3 u,L]
 ·cases h
def Xfu:∀(f:List Value)(c:List Value)(b k:Nat),b+k+f.length<=c.length->
 (f.zipIdx k).foldl (λ(g:Array Value) (x:Value×Nat)=>g.setIfInBounds (b+x.2) x.1) c.toArray=(c.take (b+k)++(f++c.drop (b+k+f.length))).toArray
|[],c,b,k,_=>by simp
|d::r,c,b,k,h=>by
 simp only[List.zipIdx_cons,List.foldl_cons];simp at h;have e:c.toArray.setIfInBounds (b+k) d=(c.set (b+k) d).toArray:=by simp
 rw[e,Xfu r (c.set (b+k) d) b (k+1) (by simp;omega)];have l:b+k<c.length:=by omega
 have i:(c.set (b+k) d).take (b+(k+1))=c.take (b+k)++[d]:=by
  grind[Nat.add_assoc,List.take_succ_eq_append_getElem,List.take_set_of_le]
 have j:(c.set (b+k) d).drop (b+(k+1)+r.length)=c.drop (b+k+(d::r).length):=by
  rw[List.drop_set_of_lt (by omega)];simp;omega
 rw[i,j];simp
def WK:∀(c:List D)(b:List Value),He c b=true->CT w (CS ρ) c b:=by
 have g:∀n,(∀(x:D)(b:List Value),SizeOf.sizeOf x<n->E0 x b=true->x.A1 w (CS ρ) b)/\(∀(c:List D)(b:List Value),SizeOf.sizeOf c<n->He c b=true->CT w (CS ρ) c b):=by
  intro n;induction n with
  |zero=>simp
  |succ n e=>
   constructor
   ·intro x b d h;cases x with
    |agg c=>
     grind[E0,D.A1]
    |AH l m=>unfold E0 at h;grind[D.A1]
    |CD y=>simp[E0]at h
    |iface t y=>simp[E0]at h
    |fn f j i=>simp[E0]at h
    |AV s=>
     unfold E0 at h;split at h<;>simp_all[D.A1];rename_i t k;subst h;simp
    |_=>
     unfold E0 at h;grind[D.A1]
   ·intro c b d h;cases c with
    |nil=>grind[He,CT]
    |cons x r=>
     simp only[He,BX]at h;simp at d;exact⟨b.take x.sz,b.drop x.sz,by simp,e.1 x _ (by omega) h.1,e.2 r _ (by omega) h.2⟩
 intro c b h;exact(g (SizeOf.sizeOf c+1)).2 c b (by omega) h
theorem No(x:D)(b:List Value)(h:E0 x b=true):x.A1 w (CS ρ) b:=by
 have:=WK (w:=w) (ρ:=ρ) [x] b;cases i:He [x] b with
 |true=>
  simp_all[CT]
 |false=>
  have g:b.take x.sz=b/\b.drop x.sz=[]:=by
   have:b.length<=x.sz:=by
    cases x with
    |agg c=>
     have:=HC _ _ (WK (w:=w) (ρ:=ρ) c b h);simp[D.sz,this]
    |AH j k=>unfold E0 at h;grind[D.sz]
    |CD y=>simp[E0]at h
    |iface t y=>simp[E0]at h
    |fn f e d=>simp[E0]at h
    |_=>
     unfold E0 at h;grind[D.sz]
   simp_all[QZ,Im]
  simp_all[He]
def gB(z:SM w ρ sl a)(c:Nat->Option (Nat×Nat))(b:List Sh)(U:∀i,i<b.length->c i=some (Sh.Br (b.take i),(b.getD i .leaf).size)):
 ∀(Xr:List (Nat×Operand)) (F:List (Nat×A)) (d:List V) (g:List Value) (K:List V->Prop),Ub Xr F=true->Cg w ρ d g->d.map V.shape=b->
  Er d (F.map λ(i,x)=>(i,x.ev sl)) K->∃f e,K f/\Cg w ρ f e/\Instr.fill c g.toArray (Xr.map λ(i,x)=>(i,a.eval x))=some e.toArray
|[],[],d,g,K,_,u,_,k=>by
 grind[Er,Instr.fill]
|(i,x)::r,(j,y)::s,d,g,K,n,u,H,k=>by
 simp only[Ub,BX,EN]at n;obtain⟨⟨rfl,n⟩,J⟩:=n;simp only[Dj,Er]at k;obtain⟨o,W,p,k⟩:=k;have r1:=A.A2 z n;have Z:=Qa p r1;have v:=GK _ _ Z;have Q:d[i]? = some (d.getD i .any):=by simp[o]
 obtain⟨q,c2,t,e1,e2,g1,G,g3⟩:=Oz u Q;have T:=GK _ _ G;have O:i<b.length:=by grind
 have Y:(b.getD i .leaf).size=(d.getD i .any).shape.size:=by rw[<-H];simp[o]
 have m:(d.set i (y.ev sl)).map V.shape=b:=by
  apply Sz;grind
 have l:Cg w ρ (d.set i (y.ev sl)) (q++((a.eval x).cells.toList++t)):=by
  rw[show d.set i (y.ev sl)=d.take i++(y.ev sl::d.drop (i+1)) from WT.trans (by simp[o])];grind[QL,Cg]
 obtain⟨f,e,L,N,hF⟩:=gB z c b U r s _ _ K J l m k;refine⟨f,e,L,N,?_⟩;have X:(a.eval x).cells.zipIdx.foldl (λ(g:Array Value) (x:Value×Nat)=>g.setIfInBounds (Sh.Br (b.take i)+x.2) x.1) g.toArray=(q++((a.eval x).cells.toList++t)).toArray:=by
  rw[<-Array.foldl_toList,Array.toList_zipIdx];rw[Xfu _ g _ 0 (by simp_all)];grind
 simp_all[Instr.fill]
|[],_::_,_,_,_,h,_,_,_=>by simp[Ub]at h
|_::_,[],_,_,_,h,_,_,_=>by simp[Ub]at h
end
section
variable {P:Program} {w:World} {ow:Nat->Prop}
def F8(x:D)(a:List Value):Value:=if x.isAgg then .agg a.toArray else a.headD undef
def Rbm{a:KT}{t:TypeId}{x:D}(b:a.An P t=true)(c:a.CI x=true):(P.underlying t).isSome=true/\Gj P t=x.isAgg:=by
 cases a<;>cases x<;>simp only[KT.CI,BY]at c<;>simp only[KT.An]at b<;>unfold Gj<;>(grind[D.isAgg])
mutual
def Np:∀(a:KT)(x:D),a.CI x=true->x.sz=a.cells
|.int k,x,h=>by cases x<;>simp[KT.CI]at h;simp[D.sz,KT.cells]
|.bool,x,h=>by cases x<;>simp[KT.CI]at h;simp[D.sz,KT.cells]
|.AV,x,h=>by cases x<;>simp[KT.CI]at h;simp[D.sz,KT.cells]
|.st b,x,h=>by
 cases x<;>simp only[KT.CI,BY]at h;exact vC b _ h
|.ar n e,x,h=>by
 cases x<;>simp only[KT.CI,BY,BX,D2]at h;simp only[D.sz,KT.cells];rw[vD e _ h.2,h.1]
def vC:∀(b:List KT)(a:List D),HE b a=true->DZ a=Ss b
|[],a,h=>by grind[HE,DZ,Ss]
|t::r,a,h=>by
 cases a<;>simp only[HE,BY,BX]at h;simp only[DZ,Ss,Np t _ h.1,vC r _ h.2]
def vD:∀(t:KT)(a:List D),KT.D9 t a=true->DZ a=a.length*t.cells
|t,[],_=>by simp[DZ]
|t,x::s,h=>by
 simp only[KT.D9,BX]at h;simp only[DZ,Ip,Np t x h.1,vD t s h.2,Kg];omega
end
def Tb{b:KT}{t:TypeId}{x:D}{c1 d c3:List Value}(j:b.An P t=true)(m:Yl P t=some b.cells)(f:b.CI x=true)(g:x.A1 w ow d)(h:World):
 (part t (c1++(d++c3)).toArray c1.length).run P h=.ok (F8 x d) h:=by
 obtain⟨l,e⟩:=Rbm j f;have k:=H9 _ _ g;rw[Np b x f]at k;simp only[part,Cm,XX l,e,Ch,F8];cases n:x.isAgg with
 |true=>
  simp_all[X3]
 |false=>
  have i:x.sz=1:=by cases x<;>simp_all[D.isAgg,D.sz]
  have a:=H9 _ _ g;rw[i]at a;obtain⟨c,rfl⟩:=Nt.1 a;simp
mutual
def KT.equal:∀(v:KT)(t:TypeId)(x y:D)(l o:List Value)(d:Nat),v.An P t=true->v.CI x=true->v.CI y=true->x.A1 w ow l->y.A1 w ow o->v.depth<=d->∀j,(Op.equalIn d t (F8 x l) (F8 y o)).run P j=.ok (DN x y) j
|.int k,t,x,y,l,o,d,a,f,g,b,c,p,j=>by
 cases x<;>simp[KT.CI]at f;cases y<;>simp[KT.CI]at g;subst f;subst g;simp only[D.A1]at b c;subst b;subst c;simp only[KT.An]at a;obtain⟨d,rfl⟩:∃e,d=e+1:=⟨d-1,by simp_all[KT.depth]⟩
 grind[F8,D.isAgg,DN,run_equalIn_int]
|.bool,t,x,y,l,o,d,a,f,g,b,c,p,j=>by
 cases x<;>simp[KT.CI]at f;cases y<;>simp[KT.CI]at g;simp only[D.A1]at b c;subst b;subst c;simp only[KT.An]at a;obtain⟨d,rfl⟩:∃e,d=e+1:=⟨d-1,by simp_all[KT.depth]⟩
 grind[F8,D.isAgg,DN,run_equalIn_bool]
|.AV,t,x,y,l,o,d,a,f,g,b,c,p,j=>by
 cases x<;>simp[KT.CI]at f;cases y<;>simp[KT.CI]at g;simp only[D.A1]at b c;subst b;subst c;simp only[KT.An]at a;obtain⟨d,rfl⟩:∃e,d=e+1:=⟨d-1,by simp_all[KT.depth]⟩
 cases h:P.underlying t with
 |none=>simp[h]at a
 |some s=>
  cases s<;>simp[h]at a;simp_all[F8,D.isAgg,DN,run_equalIn_string]
|.st H,t,x,y,l,o,d,a,f,g,b,c,p,j=>by
 cases x<;>simp only[KT.CI,BY]at f;cases y<;>simp only[KT.CI,BY]at g;simp only[D.A1]at b c;simp only[KT.An]at a;simp only[KT.depth]at p;obtain⟨d,rfl⟩:∃e,d=e+1:=⟨d-1,by omega⟩
 cases h:P.underlying t with
 |none=>simp[h]at a
 |some s=>
  cases s<;>simp only[h,BY,BX,JQ]at a;rename_i q;have r:P.fieldsOf t=q:=by simp[Program.fieldsOf,h]
  simp only[F8,D.isAgg,CP,DN];rw[run_equalIn_struct j d t _ _ (by rw[r];exact h) a.1,r];exact vE H q.toList 0 _ _ [] l [] o d a.2 f g b c (by omega) rfl rfl j
|.ar n e,t,x,y,l,o,d,a,f,g,b,c,p,j=>by
 cases x<;>simp only[KT.CI,BY,BX,D2]at f;cases y<;>simp only[KT.CI,BY,BX,D2]at g;simp only[D.A1]at b c;simp only[KT.An]at a;simp only[KT.depth]at p;obtain⟨d,rfl⟩:∃e,d=e+1:=⟨d-1,by omega⟩
 cases h:P.underlying t with
 |none=>simp[h]at a
 |some s=>
  cases s<;>simp only[h,BY,BX,EN]at a;rename_i m u;obtain⟨⟨rfl,G⟩,z⟩:=a;obtain⟨i,J,K⟩:∃i,P.info? u=some i/\i.size=e.cells:=by
   simp_all[Yl]
  have F:P.cellsOf u=e.cells:=by grind[Program.cellsOf]
  simp only[F8,D.isAgg,CP,DN];rw[run_equalIn_array j d _ _ h J,F];rename_i L N;have:=vF e u 0 L N [] l [] o d z G f.2 g.2 (by omega) b c (by omega) (by simp) (by simp) j;simp_all[List.range_eq_range']
def vE:∀(v:List KT)(a:List Field)(o:Nat)(b c:List D)(i m j n:List Value)(d:Nat),KT.D8 P v a o=true->HE v b=true->HE v c=true->CT w ow b m->CT w ow c n->O0 v<=d->i.length=o->j.length=o->∀l,(Op.eqFields d (i++m).toArray (j++n).toArray a).run P l=.ok (FK b c) l
|[],a,o,b,c,i,m,j,n,d,p,g,h,s,u,N,lx,ly,l=>by
 cases a<;>simp[KT.D8]at p;cases b<;>simp[HE]at g;cases c<;>simp[HE]at h;simp[Op.eqFields,FK]
|t::r,a,o,b,c,i,m,j,n,d,p,g,h,s,u,N,lx,ly,l=>by
 cases a<;>simp only[KT.D8,BY,BX,bne_iff_ne,ne_eq,EN]at p;rename_i f W;cases b<;>simp only[HE,BY,BX]at g;cases c<;>simp only[HE,BY,BX]at h;rename_i x b y c;obtain⟨H,J,rfl,F,s⟩:=s;obtain⟨K,L,rfl,rb,u⟩:=u;obtain⟨⟨⟨⟨X,ho⟩,k⟩,e⟩,z⟩:=p;simp only[O0]at N;have T:f.offset=i.length:=by omega
 have U:f.offset=j.length:=by omega
 have O:=λG=>Tb (c1:=i) (c3:=J) e k g.1 F G;have Q:=λG=>Tb (c1:=j) (c3:=L) e k h.1 rb G;rw[<-T]at O;rw[<-U]at Q;have q:=KT.equal t f.type x y H K d e g.1 h.1 F rb (by omega);simp only[Op.eqFields,X,ne_eq,not_false_eq_true,CP,Cm,O,Q,q,Ch,FK];have Y:=H9 _ _ F;have Z:=H9 _ _ rb;rw[Np t x g.1]at Y;rw[Np t y h.1]at Z;have ih:=vE r W (o+t.cells) b c (i++H) J (j++K) L d z g.2 h.2 s u (by omega) (by simp;omega) (by simp;omega) l;split<;>simp_all
def vF:∀(e:KT)(u:TypeId)(i:Nat)(b a:List D)(g l h m:List Value)(d:Nat),e.An P u=true->Yl P u=some e.cells->KT.D9 e b=true->KT.D9 e a=true->b.length=a.length->CT w ow b l->CT w ow a m->e.depth<=d->g.length=i*e.cells->h.length=i*e.cells->∀k,
 (Op.eqItems d u e.cells (g++l).toArray (h++m).toArray (List.range' i b.length)).run P k=.ok (FK b a) k
|e,u,i,[],a,g,l,h,m,d,j,o,c,f,n,p,r,s,J,K,k=>by
 cases a<;>simp at n;simp[Op.eqItems,FK]
|e,u,i,x::b,a,g,l,h,m,d,j,o,c,f,n,p,r,s,J,K,k=>by
 cases a<;>simp at n;rename_i y a;simp only[KT.D9,BX]at c f;obtain⟨z,F,rfl,t,p⟩:=p;obtain⟨G,H,rfl,rb,r⟩:=r;have L:=λv=>Tb (c1:=g) (c3:=F) j o c.1 t v;have N:=λv=>Tb (c1:=h) (c3:=H) j o f.1 rb v;rw[J]at L;rw[K]at N;have q:=KT.equal e u x y z G d j c.1 f.1 t rb s;simp only[Ip,WV,Op.eqItems,Cm,L,N,q,Ch,FK];have O:=H9 _ _ t;have Q:=H9 _ _ rb;rw[Np e x c.1]at O;rw[Np e y f.1]at Q;have T:=vF e u (i+1) b a (g++z) F (h++G) H d j o c.2 f.2 n p r s (by grind) (by grind) k;split<;>simp_all
end
end
section
variable {P:Program} {a:Act} {w:World} {ρ:BF} {sl:Xf} {objs:AE} {K:V->Prop}
def Jy{t:TypeId}{b:List Value}(h:Jx P t=some b):∃v,v.cells.toList=b/\(P.info? t).bind (·.zero)=some v/\∀c,(zeroValue t).run P c=.ok v c:=by
 unfold Jx at h;cases d:P.info? t with
 |none=>simp[d]at h
 |some i=>
  cases e:i.zero<;>simp_all[zeroValue,typeInfo]
def Xzb(d:List Field)(b:d.all (λc=>(Yl P c.type).isSome)=true)(e:World):
 (d.mapM (λf=>(do pure (f.offset,<-sizeOf f.type):Sem (Nat×Nat)))).run P e=.ok (d.map λc=>(c.offset,(Yl P c.type).getD 0)) e:=by
 induction d with
 |nil=>simp
 |cons x r h=>
  simp at b;obtain⟨n,g⟩:=Le.1 b.1;simp_all[X3]
def xS(z:List D)(i:Nat):DZ (z.take i)=Sh.Br (((z.map V.d).map V.shape).take i):=by
 rw[<-Sy,<-Sy,<-WJ,D.Bz];simp[V.shape,Function.comp_def]
def Yg9(hs:SM w ρ sl a){z:List D}{Xr:List (Nat×A)}{Y:Op}(Q:C.An P Y (.Fs z Xr)=true)
 (h:Er (z.map .d) (Xr.map λ(i,x)=>(i,x.ev sl)) λks=>K (V.mk ks)):Y5 P a w ρ Y K:=by
 cases Y<;>simp only[C.An,BY]at Q;rename_i t r;simp only[BX]at Q;obtain⟨⟨hp,X⟩,q⟩:=Q;cases l:Jx P t with
 |none=>simp[l]at X
 |some p=>
  simp only[l]at X;obtain⟨zv,e1,e2,J⟩:=Jy l;have G:Cg w ρ (z.map .d) p:=(Kd z p).2 (WK z p X);have u:zv.cells=p.toArray:=by rw[<-e1]
  have L:∀c:Nat->Option (Nat×Nat),(∀i,i<z.length->c i=some (DZ (z.take i),(z.getD i default).sz))->
   (∀(o:Oper),o.op=.build t r->∀j b,Instr.fill c p.toArray (r.toList.map λ(i,x)=>(i,a.eval x))=some b->(execOp a.eval o).run P j=.ok (.value (.agg b)) j)->
   Y5 P a w ρ (.build t r) K:=by
   intro c aa H;obtain⟨N,s,hK,hR,y⟩:=gB (sl:=sl) hs c ((z.map V.d).map V.shape) (λi U=>by
    simp_all[xS,V.shape,D4]) r.toList Xr (z.map .d) p _ hp G rfl h
   exact⟨.agg s.toArray,V.mk N,hK,(x8 (dJ N)).2 ⟨s,rfl,hR⟩,λo F j _=>H o F j _ y⟩
  have g:∀m:Operand->Value,(r.map λ(i,x)=>(i,m x)).toList=r.toList.map λ(i,x)=>(i,m x):=λm=>by simp
  split at q
  ·rename_i O k;simp only[BX,EN]at q;obtain⟨h1,h2⟩:=q;refine L (λi=>((O.toList.map λv=>(v.offset,(Yl P v.type).getD 0)).toArray)[i]?) (λi U=>?_) (λo F j b y=>?_)
   ·rw[h2];simp[U]
   ·have hm:=Xzb (P:=P) O.toList h1 j;have W:(O.mapM (λf=>(do pure (f.offset,<-sizeOf f.type):Sem (Nat×Nat)))).run P j=.ok ((O.toList.map λv=>(v.offset,(Yl P v.type).getD 0)).toArray) j:=by
     simp_all[Array.mapM_eq_mapM_toList]
    simp only[execOp,F,Instr.build,Cm,J,Ch,Xa k,W,g,u,y,DD]
  ·rename_i n e k;cases T:Yl P e with
   |none=>simp[T]at q
   |some Z=>
    simp only[T,Fl,EN]at q;refine L (λi=>some (i*Z,Z)) (λi U=>?_) (λo F j b y=>?_)
    ·grind[FE,List.mem_of_mem_take,List.length_take,Nat.min_eq_left]
    ·simp only[execOp,F,Instr.build,Cm,J,Ch,Xa k,X3 T,g,u,y,DD]
  ·simp at q
def Yhk(U:SM w ρ sl a){t:Nat}{z:D}{x:A}{r:Op}(m:C.An P r (.Ie t z x)=true)(h:NT t z K (x.ev sl)):Y5 P a w ρ r K:=by
 cases r<;>simp only[C.An,BY]at m;rename_i x1 xt u J;cases J<;>simp only[BY]at m;simp only[BX,EN]at m;obtain⟨⟨⟨rfl,h0⟩,q⟩,O⟩:=m;obtain⟨d,hd,Q⟩:∃d,P.underlying t=some d/\∀Z,d≠.interface Z:=by
  grind
 have k:=A.A2 U O;cases j:Jx P t with
 |none=>simp[j]at q
 |some F=>
  simp only[j,BX,EN]at q;obtain⟨X,i⟩:=q;obtain⟨H,G,N,Y⟩:=Jy j;have e:(V.d z).A1 w ρ H:=by
   have T:(V.d z).Au w ρ F:=by simp_all[V.Au,No]
   rw[N]at i;simp at i;cases H with
   |agg L=>
    refine .inr (.inl ⟨i.symm,F,?_,T⟩);simp only[Value.cells]at G;rw[<-G]
   |_=>
    refine .inr (.inr ⟨i.symm,?_⟩);simp_all[Value.cells]
  have g:∀{v:V}{u:Value}(b:Bool),v.A1 w ρ u->(V.BU [v,.d (.bool b)]).A1 w ρ (.tuple #[u,.bool b]):=λb W=>by
   rw[CY];refine⟨[_,.bool b],rfl,?_⟩;exact⟨_,_,rfl,W,_,_,rfl,BW.2 rfl,rfl⟩
  unfold NT at h;split at h
  ·rename_i y v l;rw[l,Vf (by simp[V.isAgg]) (by simp)]at k;obtain⟨c,k,s⟩:=k;by_cases f:y=t
   ·refine⟨_,_,h.1 f,g true s,λo n p _=>?_⟩;simp_all[execOp,Instr.typeAssert,Xa]
   ·refine⟨_,_,h.2 f,g false e,λo n p _=>?_⟩;simp_all[execOp,Instr.typeAssert,Xa]
  ·rename_i y v l;rw[l,TT]at k;obtain⟨c,k,s⟩:=k;by_cases f:y=t
   ·refine⟨_,_,h.1 f,g true s,λo n p _=>?_⟩;simp_all[execOp,Instr.typeAssert,Xa]
   ·refine⟨_,_,h.2 f,g false e,λo n p _=>?_⟩;simp_all[execOp,Instr.typeAssert,Xa]
  next l=>rw[l,ZJ]at k;refine⟨_,_,h,g false e,λo n p _=>?_⟩;simp_all[execOp,Instr.typeAssert,Xa]
  ·cases h
def Yhl(Y:SM w ρ sl a)(T:OM w ρ objs){s:Op}{x:A}(i:C.An P s (.Ig x)=true)(h:KD objs K (x.ev sl)):Y5 P a w ρ s K:=by
 cases s<;>simp only[C.An,BY]at i;rename_i c;obtain⟨G,args,F⟩:=c;cases G<;>(try simp only[BY]at i);rename_i b;cases b<;>(try simp only[BY]at i);split at i
 ·rename_i u J;have L:args=#[u]:=by simpa using DH List.toArray J
  subst L;have t:=A.A2 Y i;have f:∀(g:Value)(o:Oper)(d:World),o.op=.call {callee:=.builtin .unsafeSliceData,args:=#[u],argTypes:=F}->(Builtin.unsafeSliceData_ F o.type #[a.eval u]).run P d=.ok g d->(execOp a.eval o).run P d=.ok (.value g) d:=by
   intro g o d k X;simp only[execOp,k,resolve,invoke,builtin,Cm,DD,Ch,O8,Dj,Kh,X]
  unfold KD at h;split at h
  ·rename_i id n q;obtain⟨⟨E,z,v,W,r,rfl,j⟩,Q⟩:=h;rw[q,Y9]at t;obtain⟨o,l,Z⟩:=t;rcases T.Ba id _ W with⟨m,rfl⟩|⟨b,p,H,sp,m,h2,N,O,h5⟩
   ·exact absurd rfl j
   ·rw[l]at m;simp at m;subst m;have hu:=Z.2.2 rfl;have y:p≠0:=by
     intro e;subst e;have U:H.length=v.length*z:=by rw[HC _ _ N,FE _ O]
     have hx:v.length≠0:=by simpa using j
     have:0<v.length*z:=Nat.mul_pos (O3 hx) (O3 r);simp_all
    refine⟨_,_,Q,Yrb.2 ⟨_,l,B9 _,⟨_,rfl⟩,λ_ _=>rfl⟩,λo k d _=>f _ o d k (by simp_all[Lib.run_unsafeSliceData_row])⟩
  next q=>rw[q,Uf]at t;exact⟨_,_,h,iz.2 rfl,λo k d _=>f _ o d k (by simp_all[Lib.run_unsafeSliceData_nil])⟩
  ·cases h
 ·simp at i
def iq{x:D}{u:Value}(h:(V.d x).A1 w ρ u):∃b,u=F8 x b/\x.A1 w (CS ρ) b:=by
 grind[KM,F8]
def Yhc(v:SM w ρ sl a){i:KT}{e:Bool}{x y:A}{n:Op}(k:C.An P n (.Fh i e x y)=true)(h:T6 i e K (x.ev sl) (y.ev sl)):Y5 P a w ρ n K:=by
 cases n<;>simp only[C.An,BY]at k;rename_i o t G H t2;simp at k;obtain⟨⟨⟨⟨⟨⟨Z,m⟩,b⟩,j⟩,l⟩,Q⟩,T⟩:=k;have z:=A.A2 v Q;have F:=A.A2 v T;unfold T6 at h;split at h
 ·rename_i f g J L;rw[J]at z;rw[L]at F;obtain⟨s,u,N⟩:=h;have r:f.isAgg=true/\g.isAgg=true:=by
   cases i<;>simp only[BY]at j<;>cases f<;>simp only[KT.CI,BY]at s<;>cases g<;>simp only[KT.CI,BY]at u<;>exact⟨rfl,rfl⟩
  obtain⟨c,ux,W⟩:=iq z;obtain⟨d,uy,X⟩:=iq F;have q:=KT.equal i t f g c d 10000 m s u W X b;have vx:F8 f c=.agg c.toArray:=by simp[F8,r.1]
  have vy:F8 g d=.agg d.toArray:=by simp[F8,r.2]
  refine⟨_,_,N,BW.2 rfl,λU O p _=>?_⟩;have Y:(eqGuard o t G H (.agg c.toArray) (.agg d.toArray)).run P p=.ok () p:=run_eqGuard_agg p o t G H _ _ l;cases e<;>simp_all[execOp,Cm,Ch,run_eql_struct,run_neq_struct]
 ·cases h
def X6r(L:SM w ρ sl a){n z:Nat}{g:Bool}{x y:A}{F:Op}(s:C.An P F (.Hv n z g x y)=true)(h:Pf n z g K (x.ev sl) (y.ev sl)):Y5 P a w ρ F K:=by
 cases F<;>simp only[C.An,BY]at s;rename_i t x1 y1;simp only[BX]at s;obtain⟨⟨h0,j⟩,U⟩:=s;have N:=A.A2 L j;have r2:=A.A2 L U;obtain⟨e,ht,he,Y,r⟩:∃e,P.underlying t=some (.array n e)/\Yl P e=some z/\(P.underlying e).isSome=true/\Gj P e=g:=by
  grind
 unfold Pf at h;split at h
 ·rename_i b k i Q T;rw[Q]at N;rw[T,Ye]at r2;obtain⟨⟨X,hi⟩,hl,l,H⟩:=h;obtain⟨p,u1,O⟩:=iq N;simp only[D.A1]at O;simp only[F8,D.isAgg,CP]at u1;have f:i.toNat<b.length:=by omega
  have G:=WH O f;have v:DZ (b.take i.toNat)=i.toNat*z:=by
   grind[FE,List.mem_of_mem_take,List.length_take,Nat.min_eq_left]
  have m:=l _ (DS f);rw[v,m.1]at G;have d:=H9 _ _ G;have W:b.getD i.toNat default=b[i.toNat]:=by simp[f]
  rw[W]at H;have J:∀q,(part e p.toArray (i.toNat*z)).run P q=.ok (F8 b[i.toNat] ((p.drop (i.toNat*z)).take z)) q:=by
   intro q;simp only[part,Cm,XX Y,r,Ch,F8,m.2];cases g with
   |true=>
    simp_all[X3]
   |false=>
    have j:b[i.toNat].sz=1:=by
     cases Z:b[i.toNat]<;>simp_all[D.isAgg,D.sz]
    have aa:z=1:=by rw[<-m.1,j]
    rw[j]at d;obtain⟨c,u⟩:=Nt.1 d;have:p[i.toNat*1]? = some c:=by
     have:=DH (·[0]?) u;grind
    simp_all
  refine⟨F8 b[i.toNat] ((p.drop (i.toNat*z)).take z),_,H,?_,λo ho q _=>?_⟩
  ·rw[KM];simp only[F8,m.2];cases g with
   |true=>simp_all
   |false=>
    refine .inr ⟨rfl,?_⟩;have j:b[i.toNat].sz=1:=by
     have:=m.2;cases Z:b[i.toNat]<;>simp_all[D.isAgg,D.sz]
    grind[List.length_eq_one_iff]
  simp_all[execOp,Instr.index,asIntOf,Xa,X3]
 ·cases h
def C.JG:C->Bool
|.ld _ _ _=>true
|_=>false
def C.G6:C->Bool
|_=>false
def C.A2(d:SM w ρ sl a)(e:OM w ρ objs){f:Op}:∀{c:C},c.An P f=true->c.wp sl objs K->YL c.JG P a w ρ f K
|.mv _,b,h=>Ym6 d b h
|.pick _ _ _,b,h=>X6v d b h
|.not _,b,h=>Yhj d b h
|.neg _,b,h=>Yhi d b h
|.HY _,b,h=>Yha d b h
|.Bl _ _ _,b,h=>Yg8 d b h
|.Db _ _,b,h=>X0q d b h
|.Ej _ _,b,h=>X6p d b h
|.Ig _,b,h=>Yhl d e b h
|.IU _ _,b,h=>Yhb d b h
|.G5 _ _,b,h=>Yhf d b h
|.C8 _ _ _,b,h=>X6q d e b h
|.Ci _ _ _ _,b,h=>Xl3 d e b h
|.Bs _ _ _,b,h=>Xl2 d e b h
|.IV _ _ _ _ _,b,h=>Yhe d b h
|.ld _ _ _,b,h=>TY d e b h
|.DT _,b,h=>X6u d b h
|.DO _,b,h=>X6t d b h
|.CU _,b,h=>X6s d e b h
|.DB _ _ _,b,h=>X6x d b h
|.DQ _ _ _ _,b,h=>X6w d b h
|.ext _ _,b,h=>Yhd d b h
|.Fs _ _,b,h=>Yg9 d b h
|.El _ _ _,b,h=>Yhg d b h
|.IY _ _,b,h=>Yhh d b h
|.Ie _ _ _,b,h=>Yhk d b h
|.Fh _ _ _ _,b,h=>Yhc d b h
|.Hv _ _ _ _ _,b,h=>X6r d b h
end
section
variable {P:Program} {w:World} {ρ:BF} {ob:AE}
def BF.Bp(ρ:BF)(id:Nat)(o:RO):BF:=⟨λj=>if j=id then some o else ρ.m j,ρ.xo,ρ.gl⟩
def OM.free(h:OM w ρ ob){id:Nat}(b:AD ob id=none):ρ.m id=none:=by
 cases c:ρ.m id with
 |none=>rfl
 |some o=>obtain⟨x,a⟩:=h.Ev id o c;rw[b]at a;cases a
def E4(w:World)(o:Obj):World:={w with heap:=w.heap.push o}
theorem Wq(w:World)(o:Obj):(E4 w o).heap[w.heap.size]? = some o:=by
 show(w.heap.push o)[w.heap.size]? = some o;simp
theorem zT(w:World)(o:Obj){b:Nat}(h:b<w.heap.size):(E4 w o).heap[b]? = w.heap[b]?:=by
 show(w.heap.push o)[b]? = w.heap[b]?;grind
def Wg(w:World)(o:Obj):CM w (E4 w o):=⟨by show w.heap.size<=(w.heap.push o).size;simp,λ_ h=>zT w o h,rfl,rfl,rfl,B9 _⟩
theorem Q3(h:OM w ρ ob){id:Nat}{o:RO}{b:Nat}(k:ρ.m id=some o)(H:o.blk? = some b):b<w.heap.size:=by
 obtain⟨x,p⟩:=h.Ev id o k;have c:=h.Ba id x p;cases x with
 |box E t=>
  obtain⟨d,g,a,e,_⟩:=c;grind[RO.blk?,Xu]
 |BO E r u=>
  rcases c with⟨a,_⟩|⟨d,f,g,q,a,e,_⟩<;>grind[RO.blk?,Xu]
 |A0 E r u=>
  rcases c with⟨a,_⟩|⟨d,f,g,q,a,e,_⟩<;>grind[RO.blk?,Xu]
 |map F=>
  obtain⟨d,l,i,a,e,_⟩:=c;grind[RO.blk?,Xu]
 |lp s N L=>
  obtain⟨d,G,O,z,K,v,y,a,e,_⟩:=c;grind[RO.blk?,Xu]
 |it m n seen=>
  cases m with
  |none=>
   obtain⟨d,a,e⟩:=c;grind[RO.blk?,Xu]
  |some j=>
   obtain⟨d,J,a,_,e⟩:=c;grind[RO.blk?,Xu]
 |Ar=>
  have a:ρ.m id=some .Ar:=c;grind[RO.blk?]
def Qd(d:World)(a:CM w d){id:Nat}{o:RO}(g:ρ.m id=none)(f:∀b,o.blk? = some b->w.heap.size<=b):Tr w ρ d (ρ.Bp id o):=by
 refine⟨a.size,λb _ h=>a.keep b h,λb h=>?_,rfl,rfl,λj x i=>⟨x,?_,.refl x⟩,a.tape,a.os,a.C3,a.drawn⟩
 ·obtain⟨j,x,c,e⟩:=h;simp only[BF.Bp]at c;split at c
  ·simp_all
  ·exact .inl ⟨j,x,c,e⟩
 grind[BF.Bp]
def D5.tr{v:World}{q:BF}(t:Tr w ρ v q){id:Nat}{x:Ob}(h:D5 w ρ id x)(e:q.m id=ρ.m id)(k:∀b o,ρ.m id=some o->o.blk? = some b->v.heap[b]? = w.heap[b]?):D5 v q id x:=by
 cases x with
 |box E y=>
  obtain⟨b,r,a,c,d⟩:=h;exact⟨b,r,e.trans a,(k b _ a rfl).trans c,Ii t _ _ d⟩
 |BO E O U=>
  rcases h with⟨a,c⟩|⟨b,g,r,u,a,c,d,f,i⟩
  ·exact .inl ⟨e.trans a,c⟩
  ·exact .inr ⟨b,g,r,u,e.trans a,(k b _ a rfl).trans c,GX t.mono _ _ d,f,i⟩
 |A0 E O U=>
  rcases h with⟨a,c⟩|⟨b,g,r,u,a,c,d,f,i⟩
  ·exact .inl ⟨e.trans a,c⟩
  ·exact .inr ⟨b,g,r,u,e.trans a,(k b _ a rfl).trans c,IA t _ _ d,f,i⟩
 |map W=>
  obtain⟨b,l,s,a,c,d,f⟩:=h;exact⟨b,l,s,e.trans a,(k b _ a rfl).trans c,Yp.tr t _ _ d,f⟩
 |lp Q Y X=>
  obtain⟨b,H,T,G,N,z,F,a,c,d,f⟩:=h;exact⟨b,H,T,G,N,z,F,e.trans a,(k b _ a rfl).trans c,by rw[t.gl];exact d,λp J=>HD t (f p J)⟩
 |it m n seen=>
  cases m with
  |none=>obtain⟨b,a,c⟩:=h;exact⟨b,e.trans a,(k b _ a rfl).trans c⟩
  |some j=>
   obtain⟨b,K,a,d,c⟩:=h;refine⟨b,K,e.trans a,?_,(k b _ a rfl).trans c⟩;rcases d with d|d
   ·obtain⟨L,f,i⟩:=t.same j _ d;cases i<;>simp_all
   ·obtain⟨L,f,i⟩:=t.same j _ d;cases i<;>simp_all
 |Ar=>exact e.trans h
theorem OM.Bp{l:World}(h:OM w ρ ob)(m:CM w l){id:Nat}{o:RO}{x:Ob}(n:AD ob id=none)(g:∀b,o.blk? = some b->w.heap.size<=b)
 (s:D5 l (ρ.Bp id o) id x):OM l (ρ.Bp id o) ((id,x)::ob):=by
 have r:=h.free n;have t:=Qd l m (o:=o) r g;refine⟨λj y k=>?_,λj y k=>?_,λi j p q b c a d f=>?_,λb g=>O5 (h.FV b g) m.size,Ms t h.EZ,λb c a=>?_,⟨n,h.C4⟩⟩
 ·simp only[AD]at k;split at k
  ·simp_all
  next e=>refine D5.tr t (h.Ba j y k) (by simp[BF.Bp,Ne.symm e]) (λb z c a=>m.keep b (Q3 h c a))
 ·simp only[AD];split
  ·exact⟨x,rfl⟩
  next e=>exact h.Ev j y (by simp_all[BF.Bp,Ne.symm])
 ·simp only[BF.Bp]at c a;split at c
  ·split at a
   ·omega
   ·simp at c;have:=Q3 h a f;grind
  ·split at a
   ·simp at a;have:=Q3 h c d;grind
   ·exact h.inj i j p q b c a d f
 ·obtain⟨i,p,d,f⟩:=c;simp only[BF.Bp]at d;split at d
  ·simp at d;subst d;have:=g b f;have:=h.FV b a;omega
  ·exact h.D1 b ⟨i,p,d,f⟩ a
def Yby(h:OM w ρ ob){id:Nat}(e:AD ob id=none){t:V}{a:List Value}(c:t.Au w ρ a)(E:TypeId):
 Tr w ρ (E4 w (.cells a.toArray E)) (ρ.Bp id (.box w.heap.size t.shape))/\OM (E4 w (.cells a.toArray E)) (ρ.Bp id (.box w.heap.size t.shape)) ((id,.box E t)::ob)/\
  (V.ptr id []).A1 (E4 w (.cells a.toArray E)) (ρ.Bp id (.box w.heap.size t.shape)) (.pointer (some ⟨w.heap.size,0,none⟩)):=by
 have d:=Wg w (.cells a.toArray E);have f:=Qd _ d (o:=.box w.heap.size t.shape) (h.free e) (λb g=>by simp_all[RO.blk?]);refine⟨f,h.Bp d e (λb g=>by simp_all[RO.blk?]) ?_,?_⟩
 ·exact⟨w.heap.size,a,by simp[BF.Bp],Wq _ _,Ii f _ _ c⟩
 ·have:t.shape.off []=0:=by simp[Sh.off]
  grind[XK,E4,BF.Bp]
mutual
def V.Hb:V->Bool
|.agg a=>IB a
|.BU _|.undef|.any=>false
|_=>true
def IB:List V->Bool
|[]=>true
|x::r=>x.Hb&&IB r
end
mutual
theorem D.Ba{e:Nat->Prop}:∀(d:D)(a:List Value),d.A1 w e a->∀c∈a,c.oneCell'=true
|.int _ _,a,h|.bool _,a,h|.AV _,a,h|.Ah,a,h|.CO,a,h|.CV,a,h|.B3,a,h|.Cj,a,h=>by simp_all[D.A1,Value.oneCell']
|.AH sz b,a,h=>by
 grind[D.A1,Value.oneCell']
|.CD x,a,h=>by grind[D.A1,Value.oneCell']
|.iface t x,a,h=>by grind[D.A1,Value.oneCell']
|.fn f i g,a,h=>by grind[D.A1,Value.oneCell']
|.agg b,a,h=>by exact WL b a h
theorem WL{i:Nat->Prop}:∀(j:List D)(b:List Value),CT w i j b->∀c∈b,c.oneCell'=true
|[],b,h=>by simp_all[CT]
|x::r,b,h=>by
 obtain⟨d,e,rfl,f,g⟩:=h;intro c a;rcases FM.1 a with a|a
 ·exact D.Ba x d f c a
 ·exact WL r e g c a
end
mutual
theorem V.Ba:∀(v:V)(a:List Value),v.Hb=true->v.Au w ρ a->∀c∈a,c.oneCell'=true
|.d x,a,_,h=>by grind[V.Au,D.Ba]
|.ptr id p,a,_,h=>by grind[V.Au,Value.oneCell']
|.sl id n,a,_,h=>by
 obtain⟨o,u,_,e,g⟩:=h;cases o<;>grind[RO.slice,Value.oneCell']
|.sd id n,a,_,h=>by
 obtain⟨o,u,_,e,g⟩:=h;cases o<;>grind[RO.GH,Value.oneCell']
|.mp id,a,_,h=>by grind[V.Au,Value.oneCell']
|.hd y id,a,_,h=>by rcases h with⟨_,_,e⟩|⟨_,_,e⟩<;>cases y<;>simp[e,LM,Value.oneCell']
|.bs id p m n,a,_,h=>by grind[V.Au,Value.oneCell']
|.ep id n z i f p,a,_,h=>by
 obtain⟨o,u,_,e,g⟩:=h;cases o<;>grind[RO.elem,Value.oneCell']
|.fn f l k,a,_,h=>by grind[V.Au,Value.oneCell']
|.agg j,a,b,h=>by exact dL j a b h
|.iface t x,a,_,h=>by grind[V.Au,Value.oneCell']
|.BU j,a,b,h|.undef,a,b,h|.any,a,b,h=>by simp[V.Hb]at b
theorem dL:∀(e:List V)(b:List Value),IB e=true->Cg w ρ e b->∀c∈b,c.oneCell'=true
|[],b,_,h=>by simp_all[Cg]
|x::r,b,d,h=>by
 simp only[IB,BX]at d;obtain⟨f,g,rfl,i,j⟩:=h;intro c a;rcases FM.1 a with a|a
 ·exact V.Ba x f d.1 i c a
 ·exact dL r g d.2 j c a
end
def dM{v:V}(h:v.Hb=true):v≠.any:=by grind[V.Hb]
theorem Xe{x:Ob}:∀(ob:AE)(id j:Nat),(∃y,AD ob id=some y)->AD (AG ob id x) j=if j=id then some x else AD ob j
|[],id,j,h=>by simp[AD]at h
|(k,y)::r,id,j,h=>by
 simp only[AG];split
 ·grind[AD]
 next e=>simp only[AD]at h⊢;rw[A5 e]at h;rw[Xe r id j h];grind
def YN(h:OM w ρ ob){id:Nat}{w2:World}(F:∃y,AD ob id=some y)(s:w2.heap.size=w.heap.size)(z:∀j,(∀o,ρ.m id=some o->o.blk?≠some j)->w2.heap[j]? = w.heap[j]?)
 (t:w2.tape=w.tape) (r:w2.os=w.os) (k:w2.output=w.output) (l:w.drawn<=w2.drawn):Tr w ρ w2 (ρ.Bp id .Ar)/\OM w2 (ρ.Bp id .Ar) (AG ob id .Ar)/\∀b o,ρ.m id=some o->o.blk? = some b->¬CS (ρ.Bp id .Ar) b:=by
 have v:Tr w ρ w2 (ρ.Bp id .Ar):=by
  refine⟨by omega,λb f _=>z b (λo a c=>f ⟨id,o,a,c⟩),λb f=>.inl ?_,rfl,rfl,λj o x=>?_,t,r,k,l⟩
  ·obtain⟨j,o,a,c⟩:=f;simp only[BF.Bp]at a;split at a
   ·grind[RO.blk?]
   ·exact⟨j,o,a,c⟩
  ·by_cases e:j=id
   ·exact⟨.Ar,by simp[BF.Bp,e],.Ar o⟩
   ·exact⟨o,by simp[BF.Bp,e,x],.refl o⟩
 have n:∀b o,ρ.m id=some o->o.blk? = some b->¬CS (ρ.Bp id .Ar) b:=by
  rintro b o a c (⟨j,p,d,g⟩|d)
  ·simp only[BF.Bp]at d;split at d
   ·grind[RO.blk?]
   next e=>exact e (h.inj j id p o b d a g c)
  ·exact h.D1 b ⟨id,o,a,c⟩ d
 refine⟨v,⟨λj y u=>?_,λj o x=>?_,λi j p q b a c d g=>?_,λb f=>by rw[s];exact h.FV b f,Ms v h.EZ,λb f=>?_,h.C4.set⟩,n⟩
 ·rw[Xe ob id j F]at u;split at u
  ·grind[D5,BF.Bp]
  next e=>exact D5.tr v (h.Ba j y u) (by simp[BF.Bp,e]) (λb p a c=>z b (λo d g=>e (h.inj j id p o b a d c g)))
 ·rw[Xe ob id j F];split
  ·exact⟨_,rfl⟩
  next e=>exact h.Ev j o (by simp_all[BF.Bp])
 ·simp only[BF.Bp]at a c;split at a
  ·grind[RO.blk?]
  ·split at c
   ·grind[RO.blk?]
   ·exact h.inj i j p q b a c d g
 ·obtain⟨j,o,a,c⟩:=f;simp only[BF.Bp]at a;split at a
  ·grind[RO.blk?]
  ·exact h.D1 b ⟨j,o,a,c⟩
def Ti(h:OM w ρ ob){id:Nat}(a:∃y,AD ob id=some y):Tr w ρ w (ρ.Bp id .Ar)/\OM w (ρ.Bp id .Ar) (AG ob id .Ar)/\∀b o,ρ.m id=some o->o.blk? = some b->¬CS (ρ.Bp id .Ar) b:=
 YN h a rfl (λ_ _=>rfl) rfl rfl rfl (B9 _)
def TZ(h:OM w ρ ob){id E e:Nat}{j:List D}(q:AD ob id=some (.BO E e j))(l:e≠0){u:Value}(g:(V.sl id j.length).A1 w ρ u):
 (V.d (.AH e j)).A1 w (ρ.Bp id .Ar) u:=by
 obtain⟨v,_,k⟩:=Ti h ⟨_,q⟩;rw[Y9]at g;obtain⟨o,c,g⟩:=g;rw[Zj];rcases h.Ba id _ q with⟨a,rfl⟩|⟨b,f,m,z,a,r,n,p,x⟩
 ·rw[c]at a;simp at a;subst a;exact .inl ⟨rfl,g.2⟩
 ·rw[c]at a;simp at a;subst a;have t:=g.2.2 rfl;refine .inr ⟨_,f,m,t,?_,⟨λ_=>⟨rfl,k b _ c rfl,Xu r⟩,λi y=>?_⟩,GX v.mono _ _ n,p⟩
  ·have s:m.length=j.length*e:=by rw[HC _ _ n,FE _ p]
   have:j.length*e<=f*e:=by grind
   exact S1 this (O3 l)
  grind[World.cell?]
def EG(h:OM w ρ ob){id:Nat}{t t':V}{b:Nat}{p a:List Value}{E:TypeId}(n:AD ob id=some (.box E t))(k:ρ.m id=some (.box b t.shape))
 (u:w.heap[b]? = some (.cells (List.toArray p) E (0,0))) (v:t'.shape=t.shape) (l:t'.Au w ρ a):
 Tr w ρ (w.setRow b a.toArray) ρ/\OM (w.setRow b a.toArray) ρ (AG ob id (.box E t')):=by
 have d:Tr w ρ (w.setRow b a.toArray) ρ:=by
  refine⟨by simp,λj i _=>setRow_other w b j _ (λe=>i ?_),λ_ h=>.inl h,rfl,rfl,λ_ o h=>⟨o,h,.refl o⟩,rfl,rfl,rfl,B9 _⟩;subst e;exact⟨id,_,k,rfl⟩
 refine⟨d,λj y c=>?_,λj o i=>?_,h.inj,λf g=>by simpa using h.FV f g,Ms d h.EZ,h.D1,h.C4.set⟩
 ·rw[Xe ob id j ⟨_,n⟩]at c;split at c
  next e=>subst e;simp at c;subst c;exact⟨b,a,by rw[v];exact k,setRow_heap w b _ _ E _ u,Ii d _ _ l⟩
  next e=>refine D5.tr d (h.Ba j y c) rfl (λf o r s=>setRow_other w b f _ (λq=>e ?_));subst q;exact h.inj j id _ _ _ r k s rfl
 ·rw[Xe ob id j ⟨_,n⟩];split
  ·exact⟨_,rfl⟩
  ·exact h.Ev j o i
theorem Za{x y:Ob}{id:Nat}:∀(ob:AE),AG (AG ob id x) id y=AG ob id y
|[]=>rfl
|(k,z)::r=>by
 simp only[AG];split
 ·simp_all[AG]
 next e=>simp[AG,e,Za r]
def OM.swap(h:OM w ρ ob){id:Nat}{x x':Ob}(b:AD ob id=some x)(d:D5 w ρ id x'):OM w ρ (AG ob id x'):=by
 refine⟨λj y a=>?_,λj o c=>?_,h.inj,h.FV,h.EZ,h.D1,h.C4.set⟩
 ·rw[Xe ob id j ⟨_,b⟩]at a;split at a
  ·simp_all
  ·exact h.Ba j y a
 ·rw[Xe ob id j ⟨_,b⟩];split
  ·exact⟨_,rfl⟩
  ·exact h.Ev j o c
def NH:Ob->Nat->V->Ob
|.A0 E a b,i,t=>.A0 E a (b.set i t)
|.BO E a b,i,.d x=>.BO E a (b.set i x)
|.BO E a b,i,t=>.A0 E a ((b.map .d).set i t)
|o,_,_=>o
def X64(h:OM w ρ ob){id n i:Nat}{o:Ob}{t:V}(Y:AD ob id=some o)(r:Ql n i (some o)=some t):
 ∃b a E l v q,ρ.m id=some (.BO b n a)/\w.heap[b]? = some (.cells (List.toArray (l++(v++q))) E (0,0))/\l.length=i*t.size/\t.Au w ρ v/\
  ∀(f:V)(c:List Value),f.shape=t.shape->f.Au w ρ c->Tr w ρ (w.setRow b (l++(c++q)).toArray) ρ/\OM (w.setRow b (l++(c++q)).toArray) ρ (AG ob id (NH o i f)):=by
 have U:∀(E p:Nat)(u:List V)(b a:Nat)(F k:List Value),ρ.m id=some (.BO b n a)->w.heap[b]? = some (.cells (List.toArray (F++k)) E (0,0))->Cg w ρ u F->(∀x∈u,x.size=p)->
  (F++k).length=a*p->n=u.length->u[i]? = some t->(∀L f g,L.heap[b]? = some (.cells (List.toArray (g++k)) E (0,0))->Cg L ρ (u.set i f) g->f.size=p->(g++k).length=a*p->D5 L ρ id (NH o i f))->
  ∃b a E l v q,ρ.m id=some (.BO b n a)/\w.heap[b]? = some (.cells (List.toArray (l++(v++q))) E (0,0))/\l.length=i*t.size/\t.Au w ρ v/\
  ∀(f:V)(c:List Value),f.shape=t.shape->f.Au w ρ c->Tr w ρ (w.setRow b (l++(c++q)).toArray) ρ/\OM (w.setRow b (l++(c++q)).toArray) ρ (AG ob id (NH o i f)):=by
  intro E p u b a F k s N O Q X h6 h7 H;obtain⟨l,v,q,e1,e2,g1,g2,g3⟩:=Oz O h7;have hv:t.size=p:=Q t (List.mem_of_getElem? h7);have ad:i<u.length:=(HF.1 h7).1;refine⟨b,a,E,l,v,q++k,s,by rw[N,e1];simp,?_,g2,λf c hs hr=>?_⟩
  ·rw[e2,<-Sy,Yg (z:=p) _ (λx H=>Q x (Lf H)),Mf,O2 (by omega),hv]
  have ae:c.length=v.length:=by grind[GK]
  have t1:Tr w ρ (w.setRow b (l++(c++(q++k))).toArray) ρ:=by
   refine⟨by simp,λj hj _=>setRow_other w b j _ (λe=>hj ?_),λ_ h=>.inl h,rfl,rfl,λ_ o h=>⟨o,h,.refl o⟩,rfl,rfl,rfl,B9 _⟩;subst e;exact⟨id,_,s,rfl⟩
  refine⟨t1,λj y J=>?_,λj o hj=>?_,h.inj,λb' ac=>by simpa using h.FV b' ac,Ms t1 h.EZ,h.D1,h.C4.set⟩
  ·rw[Xe ob id j ⟨_,Y⟩]at J;split at J
   ·rename_i e;subst e;simp at J;subst J;refine H _ f (l++(c++q)) (by grind[setRow_heap]) ?_ (by simp_all[V.size]) ?_
    ·refine IA t1 _ _ ?_;have e8:u.set i f=u.take i++(f::u.drop (i+1)):=WT.trans (by simp[ad]);grind[QL,Cg]
    simp_all
   next e=>refine D5.tr t1 (h.Ba j y J) rfl (λb' o' K G=>setRow_other w b b' _ (λe2=>e ?_));subst e2;exact h.inj j id _ _ _ K s G rfl
  ·rw[Xe ob id j ⟨_,Y⟩];split
   ·exact⟨_,rfl⟩
   ·exact h.Ev j o hj
 cases o with
 |A0 E p W=>
  simp only[Ql]at r;split at r
  ·rename_i T;rcases h.Ba id _ Y with⟨_,rfl⟩|⟨b,a,F,k,s,N,O,Q,X⟩
   ·simp at r
   ·refine U E p W b a F k (by rw[T];exact s) N O Q X T r (λL f g K G q3 Z=>.inr ⟨b,a,g,k,by simpa  using s,K,G,λx H=>?_,Z⟩);grind
  ·cases r
 |BO E p W=>
  simp only[Ql]at r;split at r
  ·rename_i T;rcases h.Ba id _ Y with⟨_,rfl⟩|⟨b,a,F,k,s,N,O,Q,X⟩
   ·simp at r
   ·have ab:∀x∈W.map V.d,x.size=p:=λx H=>by
     grind[V.size,V.shape,D4]
    refine U E p (W.map .d) b a F k (by rw[T];exact s) N ((Kd _ _).2 O) ab X (by simpa using T) r (λL f g K G q3 Z=>?_);have aa:D5 L ρ id (.A0 E p ((W.map .d).set i f)):=.inr ⟨b,a,g,k,by simpa using s,K,G,λx H=>by
     grind,Z⟩
    cases f with
    |d x=>
     refine .inr ⟨b,a,g,k,by simpa  using s,K,?_,λy J=>?_,Z⟩
     ·rw[<-Il,Kd]at G;exact G
     grind[V.size,V.shape,D4]
    |_=>exact aa
  ·cases r
 |_=>simp[Ql]at r
def Ywj(h:OM w ρ ob){id:Nat}(c:AD ob id=none):
 Tr w ρ (E4 w (.map #[] 0)) (ρ.Bp id (.map w.heap.size))/\OM (E4 w (.map #[] 0)) (ρ.Bp id (.map w.heap.size)) ((id,.map [])::ob)/\
  (V.mp id).A1 (E4 w (.map #[] 0)) (ρ.Bp id (.map w.heap.size)) (.map (some w.heap.size)):=by
 have a:=Wg w (.map #[] 0);have e:=Qd _ a (o:=.map w.heap.size) (h.free c) (λb d=>by simp_all[RO.blk?]);refine⟨e,h.Bp a c (λb d=>by simp_all[RO.blk?]) ?_,?_⟩
 ·exact⟨w.heap.size,[],0,by simp[BF.Bp],Wq _ _,rfl,rfl,trivial⟩
 simp_all[SD,BF.Bp]
def Et(w:World)(b:Nat)(o:Obj):World:={w with heap:=w.heap.setIfInBounds b o}
theorem XQ(w:World){b:Nat}(o:Obj)(h:b<w.heap.size):(Et w b o).heap[b]? = some o:=by
 show(w.heap.setIfInBounds b o)[b]? = some o;simp[h]
theorem Wn(w:World){b j:Nat}(o:Obj)(h:b≠j):(Et w b o).heap[j]? = w.heap[j]?:=by
 show(w.heap.setIfInBounds b o)[j]? = w.heap[j]?;simp_all
def U2(w:World)(b:Nat)(o:Obj):(Et w b o).heap.size=w.heap.size:=by
 show(w.heap.setIfInBounds b o).size=w.heap.size;simp
def Xtp(h:OM w ρ ob){id:Nat}{u c:List (D×V)}{b:Nat}{l a:List MapEntry}{g clk':Nat}(s:AD ob id=some (.map u))(p:ρ.m id=some (.map b))
 (z:w.heap[b]? = some (.map l.toArray g)) (q:Yp w ρ c a) (k:clk'=a.length/\F2 0 a):
 Tr w ρ (Et w b (.map a.toArray clk')) ρ/\OM (Et w b (.map a.toArray clk')) ρ (AG ob id (.map c)):=by
 have f:Tr w ρ (Et w b (.map a.toArray clk')) ρ:=by
  refine⟨by simp[U2,B9],λj n _=>Wn w _ (λe=>n ?_),λ_ h=>.inl h,rfl,rfl,λ_ o h=>⟨o,h,.refl o⟩,rfl,rfl,rfl,B9 _⟩;subst e;exact⟨id,_,p,rfl⟩
 refine⟨f,λj y d=>?_,λj o n=>?_,h.inj,λr i=>by rw[U2];exact h.FV r i,Ms f h.EZ,h.D1,h.C4.set⟩
 ·rw[Xe ob id j ⟨_,s⟩]at d;split at d
  next e=>subst e;simp at d;subst d;exact⟨b,a,clk',p,XQ w _ (Xu z),Yp.tr f _ _ q,k⟩
  next e=>refine D5.tr f (h.Ba j y d) rfl (λr o v x=>Wn w _ (λt=>e ?_));subst t;exact h.inj j id _ _ _ v p x rfl
 ·rw[Xe ob id j ⟨_,s⟩];split
  ·exact⟨_,rfl⟩
  ·exact h.Ev j o n
end
def K0(P:Program)(o:Oper)(a:Act)(next:Act->World->Prop)(Q:Exit->Act->World->Prop):Result Next->Prop
|.ok (.value v) e=>next (a.put o.dst v) e
|.ok .skip e=>next (a.put o.dst undef) e
|.ok (.enter f g) e=>Calls P f g e λ
 |.returned v,c=>next (a.put o.dst v) c
 |.panicked b,c=>Q (.panic b) a c
 |.outgrown,_=>LetsOut Q
|.ok (.round l f i d h) e=>RoundIn Fence.wide 0 P l f i d h e λ
 |.returned v,c=>next (a.put o.dst v) c
 |.panicked b,c=>Q (.panic b) a c
 |.outgrown,_=>LetsOut Q
|.halt (.panic v) e=>Q (.panic [{v,recovered:=false}]) a e
|_=>False
def Ef(P:Program)(o:Oper)(a:Act)(w:World)(next:Act->World->Prop)(Q:Exit->Act->World->Prop):Prop:=
 K0 P o a next Q ((execOp a.eval o).run P w)
def Gn:Option Nat->Fence
|none=>Fence.wide
|some l=>Fence.wide.inRound l
theorem WZ(r:Option Nat)(f:Nat):(Gn r).fn f:=by cases r<;>exact trivial
def Xrs(r:Option Nat):(Gn r).depth=none:=by cases r<;>rfl
def Ya6(r:Option Nat):(Gn r).round=r:=by cases r<;>rfl
def Xrr{r:Option Nat}{n:Nat}{P:Program}{f:Nat}{a:Array Value}{w:World}{R:Ending->World->Prop}(h:Calls P f a w R):CallsIn (Gn r) n P f a w R:=by
 cases r with
 |none=>exact callsIn_wide.2 h
 |some l=>exact(callsIn_wide (n:=n).2 h).inRound l
theorem X5r{r:Option Nat}{n:Nat}{P:Program}{l f:Nat}{d:Array Value}{a b:Code}{w:World}{R:Ending->World->Prop}(h:RoundIn Fence.wide 0 P l f d a b w R):RoundIn (Gn r) n P l f d a b w R:=by
 have e:RoundIn Fence.wide n P l f d a b w R:=⟨h.1,λc g _=>h.2 c g (room_wide _)⟩
 cases r with
 |none=>exact e
 |some j=>exact e
section
variable {P:Program} {ops:Array Oper} {Q:Exit->Act->World->Prop} {md:Region.Mode} {S:World->Prop}
theorem Yrk{o:Oper}(g:∀c,o.op≠.defer c){a:Act}{w:World}{next:Act->World->Prop}{r:Option Nat}(h:Ef P o a w next Q):o.wpIn (Gn r) 0 P a w next Q:=by
 unfold Oper.wpIn;refine⟨λf _=>WZ r f,?_⟩;have d:o.semAt (Gn r).round a.eval=execOp a.eval o:=by
  rw[Ya6];cases r<;>simp_all[Oper.semAt_none,Oper.semAt_some]
 rw[d];unfold Ef at h;generalize (execOp a.eval o).run P w=x at h⊢;have b:(Gn r).depth.isSome=true->1<=0:=λh=>by simp_all[Xrs]
 cases x with
 |ok n e=>
  cases n<;>simp only[K0]at h<;>simp only[Oper.uponIn]
  case value=>exact h
  case skip=>exact h
  case enter=>exact⟨b,Xrr h⟩
  grind[X5r]
 |halt x e=>
  cases x<;>simp only[K0]at h<;>simp only[Oper.uponIn];exact h
theorem xZ{o:Oper}{a:Act}{w:World}{K c:Act->World->Prop}(h:∀a w,K a w->c a w)(b:Ef P o a w K Q):Ef P o a w c Q:=by
 unfold Ef at *;generalize (execOp a.eval o).run P w=r at *;cases r with
 |ok n d=>
  cases n<;>simp only[K0]at b⊢<;>grind[K0,Calls.mono,RoundIn.mono]
 |halt x d=>cases x<;>simp only[K0]at b⊢<;>exact b
def Hs(P:Program)(ops:Array Oper)(Q:Exit->Act->World->Prop)(i:Nat)(K:Act->World->Prop)(a:Act)(w:World):Prop:=
 match ops[i]? with
 |none=>K a w
 |some o=>if Region.wanted o (yielded ops a.tmps) then Ef P o a w K Q else K (a.put o.dst undef) w
def Q6{i:Nat}{a:Act}{w:World}{K b:Act->World->Prop}(h:∀a w,K a w->b a w)(c:Hs P ops Q i K a w):Hs P ops Q i b a w:=by
 grind[Hs,xZ]
theorem Xtt{i:Nat}{o:Oper}{v:Value}{a:Act}(e:ops[i]? = some o)(c:YieldsIf P ops S o v a)
 {K:Act->World->Prop} {w:World} (d:S w) (h:K (a.put o.dst v) w):Hs P ops Q i K a w:=by
 unfold Hs;rcases c with⟨b,f⟩|⟨b,rfl⟩<;>simp_all[Ef,K0]
def X0z{j:Nat}{d e:Oper}{v:Value}(t:ops[j]? = some e)(g:d.apart ops e=true)
 (i:∀f b,d.op≠.select f b) (k:∀f b,e.op≠.select f b)
 (F:∀c a w,Q (.panic c) (a.put d.dst v) w->Q (.panic c) a w) {K:Act->World->Prop} {a:Act} {w:World}
 (q:YieldsIf P ops S d v a) (h:Hs P ops Q j K (a.put d.dst v) w):
 Hs P ops Q j (λm l=>YieldsIf P ops S d v m/\K (m.put d.dst v) l) a w:=by
 obtain⟨o,z,p⟩:=Oper.apart_spec g;have s:∀(a:Act),YieldsIf P ops S d v a->∀u,YieldsIf P ops S d v (a.put e.dst u):=λa q u=>
  q.of_same (execOp_put d i a e.dst u p) (wanted_put d a e.dst u p)
 unfold Hs at *;simp only[t]at *;rw[wanted_put e a d.dst v o]at h;split
 ·rename_i y;simp only[y,CP]at h;unfold Ef at *;rw[execOp_put e k a d.dst v o]at h;generalize (execOp a.eval e).run P w=r at *;cases r with
  |ok n l=>
   cases n<;>simp only[K0]at h⊢<;>grind[K0,Act.put_comm,undef,Calls.mono,RoundIn.mono]
  |halt x l=>
   cases x<;>simp only[K0]at h⊢;simp_all
 grind[Act.put_comm,undef]
def Nx(P:Program)(ops:Array Oper)(Q:Exit->Act->World->Prop):List Oper->Act->World->Prop
|[],a,w=>Q .normal a w
|o::b,a,w=>if Region.wanted o (yielded ops a.tmps) then Ef P o a w (Nx P ops Q b) Q else Nx P ops Q b (a.put o.dst undef) w
def ey{r:Option Nat}:∀(l:List Oper),(∀o∈l,∀c,o.op≠.defer c)->∀(a:Act)(w:World),Nx P ops Q l a w->wpListIn (Gn r) 0 P ops Q l a w
|[],_,a,w,h=>h
|o::b,e,a,w,h=>by
 simp only[Nx]at h;simp only[wpListIn];split
 next g=>rw[Bv g]at h;exact Yrk (e o (by simp)) (xZ (λj k=>ey b (λi d=>e i (by simp[d])) j k) h)
 next g=>rw[A5 g]at h;exact⟨λf _=>WZ r f,ey b (λi d=>e i (by simp[d])) _ _ h⟩
def T4(P:Program)(md:Region.Mode)(ops:Array Oper)(Q:Exit->Act->World->Prop):Nat->Array Bool->Act->World->Prop
|0,b,a,w=>Region.ready md ops b=[]/\Q .normal a w
|c+1,b,a,w=>
 (Region.ready md ops b=[]->Q .normal a w)/\
 ∀i∈Region.ready md ops b,Hs P ops Q i (T4 P md ops Q c (b.setIfInBounds i true)) a w
def Yni{r:Option Nat}(b:∀o∈ops.toList,∀c,o.op≠.defer c){i:Nat}{K:Act->World->Prop}{a:Act}{w:World}(h:Hs P ops Q i K a w):wpOpIn (Gn r) 0 P ops Q i K a w:=by
 grind[Hs,wpOpIn,Yrk,WZ]
def fX{r:Option Nat}(e:∀o∈ops.toList,∀c,o.op≠.defer c):∀(b:Nat)(d:Array Bool)(a:Act)(w:World),T4 P md ops Q b d a w->wpAnyIn (Gn r) 0 P md ops Q b d a w
|0,_,_,_,h=>h
|b+1,_,_,_,h=>⟨h.1,λi j=>wpOpIn_mono (λf k g=>fX e b _ f k g) (Yni e (h.2 i j))⟩
end
def AA:AE->Nat
|[]=>0
|(j,_)::r=>if AA r<=j then j+1 else AA r
theorem Ys:∀(a:AE)(j:Nat),AA a<=j->AD a j=none
|[],_,_=>rfl
|(i,o)::r,j,h=>by
 simp only[AA]at h;simp only[AD];split at h
 ·rw[A5 (by omega)];exact Ys r j (by omega)
 ·rw[A5 (by omega)];exact Ys r j h
theorem X1(a:AE):AD a (AA a)=none:=Ys a _ (B9 _)
def UD(c:AE)(id n:Nat):Option Ob->Option (D×AE)
|some (.BO _ a b)=>if a≠0/\n=b.length then some (.AH a b,AG c id .Ar) else none
|_=>none
def Fm:Option (List D×AE)->Option (D×AE)
|some (l,a)=>some (.agg l,a)
|none=>none
def SG(t:Nat):Option (D×AE)->Option (D×AE)
|some (x,a)=>some (.iface t x,a)
|none=>none
def LL(f:Nat)(a:AE):Option (List D)->Option (List D)->Option (D×AE)
|some l,some m=>some (.fn f l m,a)
|_,_=>none
def Jb(x:D):Option (List D×AE)->Option (List D×AE)
|some (l,a)=>some (x::l,a)
|none=>none
mutual
def EU(c:AE):V->Option (D×AE)
|.d x=>some (x,c)
|.sl id n=>UD c id n (AD c id)
|.agg e=>Fm (EJ c e)
|.iface t x=>SG t (EU c x)
|.fn f a b=>LL f c (Cb a) (Cb b)
|_=>none
def EJ(b:AE):List V->Option (List D×AE)
|[]=>some ([],b)
|x::r=>match EU b x with
 |some (y,a)=>Jb y (EJ a r)
 |none=>none
end
section
variable {w:World}
def Xro{n:BF}{f:Nat}{a b:List V}{k c:AE}{d:D}{j:List Value}(h:(V.fn f a b).Au w n j)(e:LL f k (Cb a) (Cb b)=some (d,c)):c=k/\d.A1 w (CS n) j/\d.isAgg=false:=by
 cases g:Cb a with
 |none=>simp[g,LL]at e
 |some l=>
  cases i:Cb b with
  |none=>simp[i,LL]at e
  |some m=>
   simp only[g,i,LL,ED,Ki]at e;obtain⟨rfl,rfl⟩:=e;have s:=V.Cd g;have o:=V.Cd i;subst o;simp only[V.Au]at h;obtain⟨q,r,p,t,u⟩:=h;exact⟨rfl,by grind[D.A1,T0],rfl⟩
mutual
theorem WM:∀(v:V)(j:AE)(i:BF)(s:List Value)(d:D)(g:AE),OM w i j->v.Au w i s->EU j v=some (d,g)->
 ∃c,Tr w i w c/\OM w c g/\d.A1 w (CS c) s/\d.isAgg=v.isAgg
|.d x,j,i,s,H,g,k,h,e=>by
 obtain⟨rfl,rfl⟩:=e;exact⟨i,Tr.refl _ _,k,by simp_all[V.Au],by cases x<;>rfl⟩
|.sl id n,j,i,s,H,g,k,h,e=>by
 simp only[EU]at e;unfold UD at e;split at e
 ·rename_i E Y K N;split at e
  next U=>obtain⟨rfl,rfl⟩:=e;obtain⟨J,rfl⟩:=U;obtain⟨G,W,_⟩:=Ti k ⟨_,N⟩;have Q:=h;obtain⟨o,u,F,rfl,L⟩:=Q;have:=TZ k N J (u:=u) (by simp_all[Y9]);refine⟨_,G,W,?_,rfl⟩;grind[Vf,V.isAgg,V.Au]
  ·cases e
 ·cases e
|.agg K,j,i,s,H,g,k,h,e=>by
 simp only[EU]at e;cases z:EJ j K with
 |none=>simp[z,Fm]at e
 |some r=>
  obtain⟨l,m⟩:=r;simp only[z,Fm,ED,Ki]at e;obtain⟨rfl,rfl⟩:=e;obtain⟨c,t,o,O⟩:=vG K j i s l m k h z;exact⟨c,t,o,by simp_all[D.A1],rfl⟩
|.iface t x,j,i,s,H,g,k,h,e=>by
 simp only[EU]at e;cases z:EU j x with
 |none=>simp[z,SG]at e
 |some r=>
  obtain⟨y,m⟩:=r;simp only[z,SG,ED,Ki]at e;obtain⟨rfl,rfl⟩:=e;obtain⟨u,X,F⟩:=h;rcases F with F|⟨p,P,q,r⟩|⟨p,r⟩
  ·simp_all[EU]
  ·obtain⟨c,G,o,O,T⟩:=WM x j i P y m k r z;exact⟨c,G,o,by simp_all[D.A1],rfl⟩
  ·obtain⟨c,G,o,O,T⟩:=WM x j i [u] y m k r z;exact⟨c,G,o,by simp_all[D.A1],rfl⟩
|.fn f a b,j,i,s,H,g,k,h,e=>by
 obtain⟨rfl,F,L⟩:=Xro h e;exact⟨i,Tr.refl _ _,k,F,by rw[L];rfl⟩
|.ptr _ _,_,_,_,_,_,_,_,e|.sd _ _,_,_,_,_,_,_,_,e|.mp _,_,_,_,_,_,_,_,e|.hd _ _,_,_,_,_,_,_,_,e|.ep _ _ _ _ _ _,_,_,_,_,_,_,_,e|.bs _ _ _ _,_,_,_,_,_,_,_,e|.BU _,_,_,_,_,_,_,_,e|.undef,_,_,_,_,_,_,_,e|.any,_,_,_,_,_,_,_,e=>by simp[EU]at e
theorem vG:∀(v:List V)(g:AE)(f:BF)(i:List Value)(l:List D)(a:AE),OM w f g->Cg w f v i->EJ g v=some (l,a)->
 ∃d,Tr w f w d/\OM w d a/\CT w (CS d) l i
|[],g,f,i,l,a,s,h,e=>by
 grind[EJ,Tr.refl,Cg,CT]
|x::r,g,f,i,l,a,s,h,e=>by
 simp only[EJ]at e;obtain⟨o,p,rfl,z,F⟩:=h;split at e
 ·rename_i y c G;obtain⟨m,t,K,H,_⟩:=WM x g f o y c s z G;cases b:EJ c r with
  |none=>simp[b,Jb]at e
  |some q=>
   obtain⟨J,k⟩:=q;simp only[b,Jb,ED,Ki]at e;obtain⟨rfl,rfl⟩:=e;obtain⟨n,u,L,j⟩:=vG r c m p J k K (IA t _ _ F) b;exact⟨n,t.trans u,L,by exact⟨o,p,rfl,Ih u.mono _ _ H,j⟩⟩
 ·cases e
end
theorem YI{c:BF}{f b:AE}{v:V}{d:D}{u:Value}(i:OM w c f)(h:v.A1 w c u)(e:EU f v=some (d,b)):∃a,Tr w c w a/\OM w a b/\(V.d d).A1 w a u:=by
 rcases h with h|⟨p,g,q,r⟩|⟨p,r⟩<;>grind[EU,WM,KM]
end
def FX(g:AE->V->Option (D×AE)):AE->List V->Option (List D×AE)
|a,[]=>some ([],a)
|a,x::r=>match g a x with
 |some (y,b)=>Jb y (FX g b r)
 |none=>none
def tW(id b:Nat)(l:List D)(a:AE):Option Ob->Option (D×AE)
|some (.A0 _ _ _)=>some (.AH b l,AG a id .Ar)
|_=>none
def cx(id b:Nat):Option (List D×AE)->Option (D×AE)
|some (l,a)=>tW id b l a (AD a id)
|none=>none
def UE(g:AE->V->Option (D×AE))(c:AE)(id n:Nat):Option Ob->Option (D×AE)
|some (.BO _ a b)=>if a≠0/\n=b.length then some (.AH a b,AG c id .Ar) else none
|some (.A0 _ a b)=>if a≠0/\n=b.length then cx id a (FX g c b) else none
|_=>none
def Dc:Nat->AE->V->Option (D×AE)
|0,_,_=>none
|k+1,c,v=>match v with
 |.d x=>some (x,c)
 |.sl id n=>UE (Dc k) c id n (AD c id)
 |.agg e=>Fm (FX (Dc k) c e)
 |.iface t x=>SG t (Dc k c x)
 |.fn f a b=>LL f c (Cb a) (Cb b)
 |_=>none
section
variable {w:World}
def Znp(g:AE->V->Option (D×AE))(w:World):Prop:=∀(v:V)(c:AE)(e:BF)(f:List Value)(d:D)(a:AE),OM w e c->v.Au w e f->g c v=some (d,a)->
 (∃b,Tr w e w b/\OM w b a/\d.A1 w (CS b) f/\d.isAgg=v.isAgg)/\∀j,AD a j=AD c j\/AD a j=some .Ar
theorem Xsa{a:AE}{id j:Nat}{x:Ob}(b:AD a id=some x):AD (AG a id .Ar) j=AD a j\/AD (AG a id .Ar) j=some .Ar:=by
 grind[Xe]
def fT{g:AE->V->Option (D×AE)}(F:Znp g w):∀(p:List V)(f:AE)(i:BF)(k:List Value)(l:List D)(a:AE),OM w i f->Cg w i p k->FX g f p=some (l,a)->
 (∃d,Tr w i w d/\OM w d a/\CT w (CS d) l k/\l.map D.sz=p.map V.size)/\∀j,AD a j=AD f j\/AD a j=some .Ar
|[],f,i,k,l,a,z,h,e=>by
 grind[FX,Tr.refl,Cg,CT]
|x::r,f,i,k,l,a,z,h,e=>by
 simp only[FX]at e;obtain⟨u,v,rfl,y,L⟩:=h;split at e
 ·rename_i K c N;obtain⟨⟨s,H,P,G,_⟩,T⟩:=F x f i u K c z y N;cases b:FX g c r with
  |none=>simp[b,Jb]at e
  |some q=>
   obtain⟨O,o⟩:=q;simp only[b,Jb,ED,Ki]at e;obtain⟨rfl,rfl⟩:=e;obtain⟨⟨t,J,Q,m,n⟩,U⟩:=fT F r c s v O o P (IA H _ _ L) b;refine⟨⟨t,H.trans J,Q,by exact⟨u,v,rfl,Ih J.mono _ _ G,m⟩,?_⟩,λj=>?_⟩
   ·simp only[Dj,n,Mg,Ld];rw[<-H9 _ _ G,GK _ _ y];rfl
   grind
 ·cases e
def yC{b:BF}{id n:Nat}{a:List Value}(h:(V.sl id n).Au w b a):∃o u,b.m id=some o/\a=[u]/\o.slice n u:=by
 simp_all[V.Au]
def fS:∀(k:Nat),Znp (Dc k) w
|0=>λv J K W d ab _ _ e=>by simp[Dc]at e
|k+1=>λv J K W dd ab H h e=>by
 have ih:=fS k;cases v with
 |d x=>
  simp only[Dc,ED,Ki]at e;obtain⟨rfl,rfl⟩:=e;exact⟨⟨K,Tr.refl _ _,H,by simp_all[V.Au],by cases x<;>rfl⟩,λ_=>.inl rfl⟩
 |agg G=>
  simp only[Dc]at e;cases s:FX (Dc k) J G with
  |none=>simp[s,Fm]at e
  |some r=>
   obtain⟨l,c⟩:=r;simp only[s,Fm,ED,Ki]at e;obtain⟨rfl,rfl⟩:=e;obtain⟨⟨g,t,o,hr,_⟩,L⟩:=fT ih G J K W l c H h s;exact⟨⟨g,t,o,by simp_all[D.A1],rfl⟩,L⟩
 |iface t x=>
  simp only[Dc]at e;cases s:Dc k J x with
  |none=>simp[s,SG]at e
  |some r=>
   obtain⟨y,c⟩:=r;simp only[s,SG,ED,Ki]at e;obtain⟨rfl,rfl⟩:=e;obtain⟨u,e1,N⟩:=h;rcases N with N|⟨p,ds,q,r⟩|⟨p,r⟩
   ·subst N;cases k<;>simp[Dc]at s
   ·obtain⟨⟨g,F,o,hr,ha⟩,L⟩:=ih x J K ds y c H r s;exact⟨⟨g,F,o,by simp_all[D.A1],rfl⟩,L⟩
   ·obtain⟨⟨g,F,o,hr,ha⟩,L⟩:=ih x J K [u] y c H r s;exact⟨⟨g,F,o,by simp_all[D.A1],rfl⟩,L⟩
 |fn f a b=>
  obtain⟨rfl,N,h2⟩:=Xro h e;exact⟨⟨K,Tr.refl _ _,H,N,by rw[h2];rfl⟩,λ_=>.inl rfl⟩
 |sl id n=>
  simp only[Dc]at e;unfold UE at e;split at e
  ·rename_i E T G X;split at e
   next hc=>obtain⟨rfl,rfl⟩:=e;obtain⟨P,rfl⟩:=hc;obtain⟨F,Q,_⟩:=Ti H ⟨_,X⟩;obtain⟨o,u,N,rfl,h2⟩:=yC h;have:=TZ H X P (u:=u) (by simp_all[Y9]);refine⟨⟨_,F,Q,?_,rfl⟩,λj=>Xsa X⟩;grind[Vf,V.isAgg,V.Au]
   ·cases e
  ·rename_i E T G X;split at e
   ·rename_i hc;obtain⟨P,rfl⟩:=hc;cases s:FX (Dc k) J G with
    |none=>simp[s,cx]at e
    |some r=>
     obtain⟨l,c⟩:=r;simp only[s,cx]at e;unfold tW at e;split at e
     ·rename_i E' ac ad O;simp only[ED,Ki]at e;obtain⟨rfl,rfl⟩:=e;obtain⟨o,u,N,rfl,h2⟩:=yC h;have CG:∀(i:BF),Tr w K w i->OM w i c->D5 w i id (.BO E T l)->l.length=G.length->(∀j,AD c j=AD J j\/AD c j=some .Ar)->
       (∃g,Tr w K w g/\OM w g (AG c id .Ar)/\(D.AH T l).A1 w (CS g) [u]/\(D.AH T l).isAgg=(V.sl id G.length).isAgg)/\∀j,AD (AG c id .Ar) j=AD J j\/AD (AG c id .Ar) j=some .Ar:=by
       intro i F Q hm z L;have o2:=Q.swap O hm;have Y:AD (AG c id (.BO E T l)) id=some (.BO E T l):=by simp_all[Xe]
       obtain⟨t3,o3,_⟩:=Ti o2 ⟨_,Y⟩;rw[Za]at o3;have hv:(V.sl id l.length).A1 w i u:=HD F (by simp_all[Y9]);have h4:=TZ o2 Y P hv;refine⟨⟨_,F.trans t3,o3,?_,rfl⟩,λj=>?_⟩<;>grind[Vf,V.isAgg,V.Au,Xsa]
      rcases H.Ba id _ X with⟨aa,rfl⟩|⟨b,U,W,sp,g1,g2,g3,g4,g5⟩
      ·obtain⟨rfl,rfl⟩:=s;exact CG K (Tr.refl _ _) H (.inl ⟨aa,rfl⟩) rfl (λ_=>.inl rfl)
      ·obtain⟨⟨i,F,Q,hr,hs⟩,L⟩:=fT ih G J K W l c H g3 s;have z:l.length=G.length:=by simpa using DH List.length hs
       have af:(Ob.A0 E' ac ad)=.A0 E T G:=by
        grind
       obtain⟨o',p1,p2⟩:=F.same id _ g1;have Z:i.m id=some (.BO b G.length U):=by
        cases p2 with
        |refl=>exact p1
        |Ar=>rcases Q.Ba id _ O with⟨q1,_⟩|⟨_,_,_,_,q1,_⟩<;>(rw[p1]at q1;cases q1)
        |grow ae hh=>
         rcases hh with⟨hq,_⟩|⟨b2,c2,hq⟩
         ·cases hq
         ·simp at hq;rcases Q.Ba id _ O with⟨q1,_⟩|⟨_,_,_,_,q1,_⟩<;>simp_all
       refine CG i F Q (.inr ⟨b,U,W,sp,by rw[z];exact Z,g2,hr,λx hx=>?_,g5⟩) z L;grind[D.sz,List.mem_map_of_mem]
     ·cases e
   ·cases e
  ·cases e
 |_=>simp[Dc]at e
end
inductive BQ where
|ret (v:V)
|panic (v:V)
def Un(w:World)(a:BF):Ending->BQ->Prop
|.returned u,.ret v=>v.A1 w a u
|.panicked b,.panic v=>∃u,b=[{v:=u,recovered:=false}]/\v.A1 w a u
|_,_=>False
structure BE where
 p:Program
 g:Gl
structure Aa(P:BE)(f:Nat)(vs:List V)(ob:AE)(K:BQ->AE->Prop):Prop where
 run:∀w ρ args,OM w ρ ob->ρ.gl=P.g->V.BT w ρ vs args->Calls P.p f args.toArray w (λe w'=>∃C3 ob' ρ',K C3 ob'/\Un w' ρ' e C3/\OM w' ρ' ob'/\Tr w ρ w' ρ')
theorem Aa.mono{P:BE}{f:Nat}{j:List V}{i:AE}{K g:BQ->AE->Prop}(h:Aa P f j i K)(m:∀o b,K o b->g o b):Aa P f j i g:=
 ⟨λw q a n l p=>(h.run w q a n l p).mono λ_ _ ⟨d,c,e,k,r⟩=>⟨d,c,e,m _ _ k,r⟩⟩
structure AW(P:BE)(f:Nat)(vs:List V)(ob:AE)(K:V->Prop):Prop where
 run:∀w ρ args,OM w ρ ob->ρ.gl=P.g->V.BT w ρ vs args->Calls P.p f args.toArray w (λe w'=>∃v u,K v/\e=.returned u/\v.A1 w' ρ u/\CM w w')
structure C1(P:BE)(f:Nat)(vs:List V)(ob:AE)(K:V->AE->Prop):Prop where
 run:∀w ρ args,OM w ρ ob->ρ.gl=P.g->V.BT w ρ vs args->Calls P.p f args.toArray w (λe w'=>∃v ob' ρ' u,K v ob'/\e=.returned u/\v.A1 w' ρ' u/\OM w' ρ' ob'/\Tr w ρ w' ρ'/\CM w w')
theorem C1.mono{P:BE}{f:Nat}{g:List V}{e:AE}{K d:V->AE->Prop}(h:C1 P f g e K)(j:∀v b,K v b->d v b):C1 P f g e d:=
 ⟨λw n a l i m=>(h.run w n a l i m).mono λ_ _ ⟨v,b,c,u,k,r⟩=>⟨v,b,c,u,j v b k,r⟩⟩
theorem AW.mono{P:BE}{f:Nat}{d:List V}{c:AE}{K b:V->Prop}(h:AW P f d c K)(g:∀v,K v->b v):AW P f d c b:=
 ⟨λw l a i e j=>(h.run w l a i e j).mono λ_ _ ⟨v,u,k,r⟩=>⟨v,u,g v k,r⟩⟩
def AW.Cc{P:BE}{f:Nat}{d:List V}{b:AE}{K:BQ->AE->Prop}(h:AW P f d b λv=>K (.ret v) b):Aa P f d b K:=
 ⟨λw g a c j l=>(h.run w g a c j l).mono λe m ⟨v,u,k,i,r,x⟩=>by subst i;exact⟨.ret v,b,g,k,r,c.ext x,x.tr⟩⟩
structure DI(P:BE)(id:Nat)(vs:List V)(ob:AE)(K:BQ->AE->Prop):Prop where
 run:∀w ρ args b,OM w ρ ob->ρ.gl=P.g->V.BT w ρ vs args->ρ.m id=some (.map b)->
  ∃fn tmps assign body,(Instr.yield b args.toArray).run P.p w=.ok (.round b fn tmps assign body) w/\
   RoundIn Fence.wide 0 P.p b fn tmps assign body w (λe w'=>∃C3 ob' ρ',K C3 ob'/\Un w' ρ' e C3/\OM w' ρ' ob'/\Tr w ρ w' ρ')
theorem DI.mono{P:BE}{id:Nat}{i:List V}{g:AE}{K f:BQ->AE->Prop}(h:DI P id i g K)(t:∀o b,K o b->f o b):DI P id i g f:=
 ⟨λw y a b u s v q=>let ⟨m,x,j,l,n,p⟩:=h.run w y a b u s v q;⟨m,x,j,l,n,p.mono λ_ _ ⟨d,c,e,k,r⟩=>⟨d,c,e,t _ _ k,r⟩⟩⟩
def UG:Option Ob->Prop
|some (.lp _ _ _)=>True
|_=>False
def Xd(P:Program)(f:Nat):Bool:=match P.funcs[f]? with
|some a=>a.name != "runtime.NumGoroutine" &&a.body.isSome
|none=>false
def F7(K b:V->AE->Prop):BQ->AE->Prop
|.ret v,a=>K v a
|.panic v,a=>b v a
def JU(E:Nat)(a:AE)(K:V->AE->Prop)(v:V):Prop:=v.Hb=true/\K (.ptr (AA a) []) ((AA a,.box E v)::a)
def NP(c:AE)(id:Nat)(p:List Nat)(n E:Nat)(v t:V)(K:V->AE->Prop):Option V->Prop
|some a=>v.shape=a.shape/\a.size=n/\v.Hb=true/\∃b,t.set p v=some b/\K .undef (AG c id (.box E b))
|none=>False
def NO(a:AE)(id:Nat)(p:List Nat)(n:Nat)(v:V)(K:V->AE->Prop):Option Ob->Prop
|some (.box E t)=>NP a id p n E v t K (t.at p)
|_=>False
def Px(c:AE)(id i n:Nat)(o:Ob)(v d:V)(p:List Nat)(K:V->AE->Prop):Option V->Prop
|some a=>v.shape=a.shape/\a.size=n/\v.Hb=true/\∃b,d.set p v=some b/\K .undef (AG c id (NH o i b))
|none=>False
def SQ(b:AE)(id i n:Nat)(o:Ob)(v:V)(z f:Nat)(p:List Nat)(K:V->AE->Prop):Option V->Prop
|some a=>(z=a.size/\f=a.shape.off p)/\Px b id i n o v a p K (a.at p)
|none=>False
def Pw(a:AE)(id m z i f:Nat)(p:List Nat)(n:Nat)(v:V)(K:V->AE->Prop):Option Ob->Prop
|some o=>SQ a id i n o v z f p K (Ql m i (some o))
|none=>False
def H5(a:AE)(n:Nat)(v:V)(K:V->AE->Prop):V->Prop
|.ptr id p=>NO a id p n v K (AD a id)
|.ep id m z i f p=>Pw a id m z i f p n v K (AD a id)
|_=>False
def dK(K:List D->Prop):Option (List D)->Prop
|some l=>K l
|none=>False
def Up(P:BE)(a:List V)(b:AE)(K c:V->AE->Prop):V->Prop
|.fn f g e=>Xd P.p f=true/\Aa P f (g++a++e) b (F7 K c)
|.d (.fn f g e)=>Xd P.p f=true/\Aa P f (g.map .d++a++e.map .d) b (F7 K c)
|.hd true id=>UG (AD b id)/\DI P id a b (F7 K c)
|_=>False
def Ko(b:AE)(a:V->AE->Prop):V->Prop
|.iface t v=>a (.iface t v) b
|.d (.iface t v)=>a (.d (.iface t v)) b
|_=>False
def I1(a:Nat)(K:List D->Prop):V->Prop
|.d (.AH z b)=>z=a/\K b
|.d .Ah=>K []
|_=>False
def OD(id E d B n:Nat)(f:AE)(c:List D)(K:V->AE->Prop):Option Ob->Prop
|some (.BO e b a)=>e=E/\b=d/\n=a.length/\(2*(a.length+c.length)+192)*B<=281474976710656/\K (.sl id (a.length+c.length)) (AG f id (.BO E d (a++c)))
|_=>False
def Gc(E c B:Nat)(a:AE)(b:List D)(K:V->AE->Prop):V->Prop
|.sl id n=>OD id E c B n a b K (AD a id)
|.d .Ah=>(2*b.length+192)*B<=281474976710656/\K (.sl (AA a) b.length) ((AA a,.BO E c b)::a)
|_=>False
def BK:List UInt8->List D
|[]=>[]
|b::r=>.int .u8 b.toNat::BK r
inductive I where
|c (x:C)
|box (E:Nat) (x:A)
|alloc (E:Nat) (z:D)
|Gk (sz:Nat) (z:List D) (Xr:List (Nat×A))
|Hw (E sz:Nat) (z:List D) (Xr:List (Nat×A))
|st (n:Nat) (x v:A)
|Dl (E sz B:Nat) (x y:A)
|Fq (E B:Nat) (x y:A)
|call (f:Nat) (args:List A)
|Bd (f:Nat) (args:List A)
|C6 (x:A) (args:List A)
|panic (x:A)
|JJ (x:A)
|Fv (E sz:Nat) (x:A)
 |MU (x:A)
 |KW (n:Nat) (ag:Bool) (x:A)
 |KY (E sz:Nat) (y x:A) (p:List Nat)
 |KZ (y x:A) (l:List (Nat×Nat×List Nat))
 |KS (x:A)
 |Fy (E:Nat) (x y:A)
 |IZ (r:Option A)
 |LR (kd z:D) (ok:Bool) (m k:A)
 |DP (kd:D) (m k v:A)
 |MR (g n:Nat) (ag:Bool) (x:D)
 |LZ (n z:Nat) (x:A)
 |IS (E sz:Nat) (z:List D) (Xr:List (Nat×A))
 |HX (E sz B:Nat) (x y:A)
 |gv (x:A)
 |LP (n:Nat) (ag:Bool) (x:A)
 |JL (n z:Nat) (x:A) (lo hi:Option A)
 |MQ (z:Nat) (x y:A)
|LF (z0:D) (z:Nat) (x:A)
 |KU (g n z:Nat) (x:D) (i:A)
 |LW (x:A)
|MV (x:A)
|LJ (x:A)
 |FZ (x:A)
 |JH (e m:Bool) (x:A)
 |LN (nm:String) (t f:Nat) (fl:Option (Nat×Nat×Nat×Bool)) (x:A) (args:List A)
 |MT (E sz B:Nat) (z:D) (l:A)
 |Ma (z:Nat) (x:A) (h:A)
 |Ca (f:Nat) (args:List A)
def NC(E b:Nat)(a:AE)(K:V->AE->Prop):V->Prop
|.d .Ah=>K (.sl (AA a) 0) ((AA a,.BO E b [])::a)
|_=>False
def HW(K:V->AE->Prop):Option (D×AE)->Prop
|some (d,a)=>K (.d d) a
|none=>False
def M4(n:Nat)(a:Bool)(b:AE)(K:V->AE->Prop):Option V->Prop
|some v=>v.size=n/\v.isAgg=a/\HW K (EU b v)
|none=>False
def MK(n:Nat)(b:Bool)(a:AE)(K:V->AE->Prop):V->Prop
|.ptr id p=>M4 n b a K (Dm a id p)
|_=>False
def aZ(b:AE)(id:Nat)(p:List Nat)(x:D)(K:V->AE->Prop):Option Ob->Prop
|some (.box E t)=>∃a,t.set p (.d x)=some a/\K (.d x) (AG b id (.box E a))
|_=>False
def UP(v:V)(id:Nat)(p:List Nat)(K:V->AE->Prop):Option (D×AE)->Prop
|some (x,a)=>x.shape=v.shape/\aZ a id p x K (AD a id)
|none=>False
def UQ(n:Nat)(a:Bool)(b:AE)(id:Nat)(p:List Nat)(K:V->AE->Prop):Option V->Prop
|some v=>v.size=n/\v.isAgg=a/\UP v id p K (Dc 40000 b v)
|none=>False
def Ps(n:Nat)(b:Bool)(a:AE)(K:V->AE->Prop):V->Prop
|.ptr id p=>UQ n b a id p K (Dm a id p)
|_=>False
def Pg(a:AE)(id b E c:Nat)(y:V)(K:V->AE->Prop):Option V->Prop
|some t=>K y ((AA a,.BO E c [])::AG a id (.box b t))
|none=>False
def ON(a:AE)(id:Nat)(p:List Nat)(E c:Nat)(y:V)(K:V->AE->Prop):Option Ob->Prop
|some (.box b t)=>(t.at p=some (.d .Ah)/\Pg a id b E c y K (t.set p (.sl (AA a) 0)))\/((∃i n,t.at p=some (.sl i n))/\K y a)
|_=>False
def Hu(a:AE)(E b:Nat)(p:List Nat)(y:V)(K:V->AE->Prop):V->Prop
|.ptr id q=>ON a id (q++p) E b y K (AD a id)
|_=>False
def JY(y:V)(K:V->AE->Prop)(x:V):List (Nat×Nat×List Nat)->AE->Prop
|[],a=>K y a
|e::l,a=>Hu a e.1 e.2.1 e.2.2 y (λ_ b=>JY y K x l b) x
def OG(id n:Nat)(c:AE)(K:V->AE->Prop):Option Ob->Prop
|some (.BO _ b a)=>b≠0/\n=a.length/\a≠[]/\K (.d (.AH b a)) (AG c id .Ar)
|_=>False
def ME(a:AE)(K:V->AE->Prop):V->Prop
|.sl id n=>OG id n a K (AD a id)
|_=>False
def N8(id n:Nat)(m:Int)(E:Nat)(c:AE)(K:V->AE->Prop):Option Ob->Prop
|some (.BO b e a)=>b=E/\e=1/\n=a.length/\m=n/\n<=9223372036854775807/\a≠[]/\∃s,a=BK s/\K (.d (.AV s)) (AG c id .Ar)
|_=>False
def KR(E:Nat)(a:AE)(K:V->AE->Prop):V->V->Prop
|.sd id n,.d (.int .i64 m)=>N8 id n m E a K (AD a id)
|.d .CV,.d (.int .i64 m)=>m=0/\K (.d (.AV [])) a
|_,_=>False
def NI(K:List D->Prop):V->Prop
|.d (.AV s)=>K (BK s)
|_=>False
def NM(K:V->Prop):V->Prop
|.d (.AV s)=>K (.d (.AH 1 (BK s)))
|_=>False
def Me:D->D->Bool
|.int k _,.int a _=>decide (k=a)
|.bool _,.bool _=>true
|.AV _,.AV _=>true
|_,_=>false
def V5:List D->List D->Bool
|[],[]=>true
|x::r,y::s=>Me x y&&V5 r s
|_,_=>false
def Eg:D->D->Bool
|.int k _,.int a _=>decide (k=a)
|.bool _,.bool _=>true
|.AV _,.AV _=>true
|.agg b,.agg c=>V5 b c
|_,_=>false
def Ds:D->D->Bool
|.int _ a,.int _ b=>a==b
|.bool a,.bool b=>a==b
|.AV a,.AV b=>a==b
|.agg c,.agg d=>FK c d
|_,_=>false
def Zo(k:D):List (D×V)->Option V
|[]=>none
|(j,v)::r=>if Ds k j then some v else Zo k r
def E6(k:D)(x:V):List (D×V)->List (D×V)
|[]=>[(k,x)]
|(j,v)::r=>if Ds k j then (k,x)::r else (j,v)::E6 k x r
def Ux(b k:D)(a:List (D×V)):Prop:=Eg b k=true/\∀e∈a,Eg k e.1=true
def JX(z:D):Bool->Option V->V
|true,some v=>.BU [v,.d (.bool true)]
|true,none=>.BU [.d z,.d (.bool false)]
|false,some v=>v
|false,none=>.d z
def OF(b z:D)(c:Bool)(k:D)(K:V->Prop):Option Ob->Prop
|some (.map a)=>Ux b k a/\K (JX z c (Zo k a))
|_=>False
def ML(c:AE)(a z:D)(b:Bool)(K:V->Prop):V->V->Prop
|.mp id,.d k=>OF a z b k K (AD c id)
|.d .Cj,.d k=>Eg a k=true/\K (JX z b none)
|_,_=>False
def Ny(c:AE)(id:Nat)(b k:D)(v:V)(K:V->AE->Prop):Option Ob->Prop
|some (.map a)=>Ux b k a/\v.Hb=true/\K .undef (AG c id (.map (E6 k v a)))
|_=>False
def Lz(a:AE)(b:D)(v:V)(K:V->AE->Prop):V->V->Prop
|.mp id,.d k=>Ny a id b k v K (AD a id)
|_,_=>False
def Ts:V->Prop
|.d (.int _ _)=>True
|_=>False
def NR(a:Xf):Option A->Prop
|none=>True
|some x=>Ts (x.ev a)
def OS(n z:Nat)(K:D->Prop):Option V->Prop
|some (.d (.agg a))=>a.length=n/\(∀x∈a,x.sz=z)/\K (.AH z a)
|_=>False
def L9(a:AE)(n z:Nat)(K:V->AE->Prop):V->Prop
|.ptr id p=>OS n z (λx=>K (.d x) (AG a id .Ar)) (Dm a id p)
|_=>False
def OR(id:Nat)(p:List Nat)(n z:Nat)(c b:Option V)(K:V->Prop):Option (List V)->Prop
|some a=>a.length=n/\(∀k∈a,k.size=z)/\Ei n (λl h=>K (.bs id p l (h-l))) c b
|none=>False
def Oc(a:AE)(n z:Nat)(c b:Option V)(K:V->AE->Prop):V->Prop
|.ptr id p=>OR id p n z c b (λv=>K v a) (Vu (Dm a id p))
|_=>False
def KJ(a:Nat)(b c:List D):List D:=b.take a++(c++b.drop (a+c.length))
def SY(f:AE)(id E:Nat)(t:V)(p:List Nat)(b n z:Nat)(e:List D)(r:V)(K:V->AE->Prop):Option V->Prop
|some (.d (.agg a))=>b+n<=a.length/\(∀x∈a,x.sz=z)/\(D.agg (KJ b a e)).shape=(D.agg a).shape/\∃c,t.set p (.d (.agg (KJ b a e)))=some c/\K r (AG f id (.box E c))
|_=>False
def JV(b:AE)(id:Nat)(p:List Nat)(a n z:Nat)(c:List D)(r:V)(K:V->AE->Prop):Option Ob->Prop
|some (.box E t)=>SY b id E t p a n z c r K (t.at p)
|_=>False
def Pq(z:Nat)(a:AE)(K:V->AE->Prop):V->V->Prop
|.bs id p c n,.d (.AH e b)=>e=z/\JV a id p c n z (b.take n) (.d (.int .i64 (min b.length n:Nat))) K (AD a id)
|_,_=>False
def Pm(b:D)(z:Nat)(a:AE)(K:V->AE->Prop):V->Prop
|.bs id p c n=>(n=0->(∃E t,AD a id=some (.box E t))/\K (.BU []) a)/\(n≠0->(b.sz=z/\z=1)/\JV a id p c n z (List.replicate n b) (.BU []) K (AD a id))
|_=>False
def OW(n z:Nat)(K:V->Prop):D->V->Prop
|.agg a,.d (.int _ m)=>(0<=m/\m<n)/\a.length=n/\(∀x∈a,x.sz=z)/\K (.d (.CD (a.getD m.toNat default)))
|_,_=>False
def Od(b:Nat)(K:List V->Prop)(c:AE):V->Prop
|.d (.AH z a)=>z=b/\K (a.map .d)
|.d .Ah=>K []
|.sl id n=>(∃E a,AD c id=some (.A0 E b a)/\n=a.length/\IB a=true/\K a)\/∃E a,AD c id=some (.BO E b a)/\n=a.length/\K (a.map .d)
|_=>False
def RR(id E e B n:Nat)(g:AE)(c:List V)(K:V->AE->Prop):Option Ob->Prop
|some (.A0 f b a)=>f=E/\b=e/\n=a.length/\(2*(a.length+c.length)+192)*B<=281474976710656/\K (.sl id (a.length+c.length)) (AG g id (.A0 E e (a++c)))
|some (.BO f b a)=>f=E/\b=e/\n=a.length/\(2*(a.length+c.length)+192)*B<=281474976710656/\K (.sl id (a.length+c.length)) (AG g id (.A0 E e (a.map .d++c)))
|_=>False
def Kn(E c B:Nat)(a:AE)(b:List V)(K:V->AE->Prop):V->Prop
|.sl id n=>RR id E c B n a b K (AD a id)
|.d .Ah=>(2*b.length+192)*B<=281474976710656/\K (.sl (AA a) b.length) ((AA a,.A0 E c b)::a)
|_=>False
def B5(P:BE)(g:Nat)(x:D):Prop:=∃a T f,P.g g=some (.cells (List.toArray a) T f)/\E0 x a=true
def NS(a:AE)(K:V->AE->Prop):V->Option Ob->Prop
|.mp id,some (.map b)=>K (.hd false (AA a)) ((AA a,.it (some id) b.length [])::a)
|.d .Cj,_=>K (.hd false (AA a)) ((AA a,.it none 0 [])::a)
|_,_=>False
def SK:V->Nat
|.mp id=>id
|_=>0
def RX(b:AE)(id j n:Nat)(seen:List Nat)(K:V->AE->Prop):Option Ob->Prop
|some (.map a)=>a.length=n/\((List.range n).all (λi=>seen.contains i)=true->K (.BU [.d (.bool false)]) b)/\
 ∀i,i<n->seen.contains i=false->K (.BU [.d (.bool true),.d (a.getD i default).1,(a.getD i default).2]) (AG b id (.it (some j) n (seen++[i])))
|_=>False
def ND(a:AE)(id:Nat)(K:V->AE->Prop):Option Ob->Prop
|some (.it none _ _)=>K (.BU [.d (.bool false)]) a
|some (.it (some j) n seen)=>RX a id j n seen K (AD a j)
|_=>False
def OY(a:AE)(K:V->AE->Prop):V->Prop
|.hd false id=>ND a id K (AD a id)
|_=>False
def Ra(i n:Nat)(K:V->Prop):Option Ob->Prop
|some (.map a)=>i<n/\a.length=n/\K (.BU [.d (a.getD i default).1,(a.getD i default).2])
|_=>False
def Rb(a:AE)(K:V->Prop):Option Ob->Prop
|some (.it (some j) n seen)=>seen≠[]/\Ra (seen.getLastD 0) n K (AD a j)
|_=>False
def OU(a:AE)(K:V->Prop):V->Prop
|.hd false id=>Rb a K (AD a id)
|_=>False
def RU(K:V->Prop):Option Ob->Prop
|some (.map a)=>K (.d (.int .i64 a.length))
|_=>False
def Lw(a:AE)(K:V->Prop):V->Prop
|.mp id=>RU K (AD a id)
|.d .Cj=>K (.d (.int .i64 0))
|_=>False
def sJ(e:Bool)(n:Nat)(K:V->Prop):Option Ob->Prop
|some (.BO _ _ a)=>n=a.length/\a≠[]/\K (.d (.bool !e))
|some (.A0 _ _ a)=>n=a.length/\a≠[]/\K (.d (.bool !e))
|_=>False
def SH(e:Bool)(K:V->Prop):Option Ob->Prop
|some (.map _)=>K (.d (.bool !e))
|_=>False
def Iy(a:AE)(e:Bool)(K:V->Prop):Bool->V->Prop
|true,.mp id=>SH e K (AD a id)
|true,.d .Cj=>K (.d (.bool e))
|false,.d .Ah=>K (.d (.bool e))
|false,.d (.AH _ b)=>K (.d (.bool !e))/\(b=[]->K (.d (.bool e)))
|false,.sl id n=>sJ e n K (AD a id)
|_,_=>False
def OQ(a:AE)(K:V->Prop)(v:V):Option (Nat×Nat×Nat×Bool)->Prop
|none=>K v
|some (c,d,n,b)=>Qm a c d (λu=>E9 a n b K u) v
def Po(P:BE)(t f:Nat)(d:Option (Nat×Nat×Nat×Bool))(a:List V)(b:AE)(K c:V->AE->Prop):V->Prop
|.iface e (.ptr id p)=>e=t/\Xd P.p f=true/\OQ b (λr=>Aa P f (r::a) b (F7 K c)) (.ptr id p) d
|_=>False
def Pu(E b B:Nat)(z:D)(a:AE)(K:V->AE->Prop):V->Prop
|.d (.int .i64 n)=>0<=n/\n*B<=281474976710656/\K (.sl (AA a) n.toNat) ((AA a,.BO E b (List.replicate n.toNat z))::a)
|_=>False
def cT(id n z:Nat)(h:Int)(a:AE)(K:V->AE->Prop):Option Ob->Prop
|some (.BO E c b)=>c=z/\n=b.length/\b≠[]/\(0<=h/\h<=n)/\K (.sl (AA a) h.toNat) ((AA a,.BO E c (b.take h.toNat))::AG a id .Ar)
|_=>False
def Py(z:Nat)(a:AE)(K:V->AE->Prop):V->V->Prop
|.sl id n,.d (.int .i64 h)=>cT id n z h a K (AD a id)
|_,_=>False
def I.wp(P:BE)(a:Xf)(b:AE)(K w:V->AE->Prop):I->Prop
|.c x=>x.wp a b (λv=>K v b)
|.box E x=>JU E b K (x.ev a)
|.alloc E z=>JU E b K (.d z)
|.Gk o z Xr=>Er (z.map .d) (Xr.map λ(i,x)=>(i,x.ev a)) λq=>dK (λl=>K (.d (.AH o l)) b) (Cb q)
|.Hw E o z Xr=>Er (z.map .d) (Xr.map λ(i,x)=>(i,x.ev a)) λq=>dK (λl=>K (.sl (AA b) l.length) ((AA b,.BO E o l)::b)) (Cb q)
|.st n x v=>H5 b n (v.ev a) K (x.ev a)
|.Dl E o B x y=>I1 o (λu=>Gc E o B b u K (x.ev a)) (y.ev a)
|.Fq E B x y=>NI (λu=>Gc E 1 B b u K (x.ev a)) (y.ev a)
|.call f j=>Aa P f (j.map (A.ev a)) b (F7 K w)
|.Bd f j=>AW P f (j.map (A.ev a)) b λv=>K v b
|.C6 x j=>Up P (j.map (A.ev a)) b K w (x.ev a)
|.panic x=>Ko b w (x.ev a)
|.JJ x=>NM (λv=>K v b) (x.ev a)
|.Fv E o x=>NC E o b K (x.ev a)
|.MU x=>HW K (EU b (x.ev a))
|.KW n s x=>MK n s b K (x.ev a)
|.KY E o y x p=>Hu b E o p (y.ev a) K (x.ev a)
|.KZ y x l=>JY (y.ev a) K (x.ev a) l b
|.KS x=>ME b K (x.ev a)
|.Fy E x y=>KR E b K (x.ev a) (y.ev a)
|.IZ r=>NR a r/\K (.mp (AA b)) ((AA b,.map [])::b)
|.LR F z L m k=>ML b F z L (λv=>K v b) (m.ev a) (k.ev a)
|.DP F m k v=>Lz b F (v.ev a) K (m.ev a) (k.ev a)
|.MR g n s x=>B5 P g x/\x.sz=n/\(V.d x).isAgg=s/\K (.d x) b
|.LZ n z x=>L9 b n z K (x.ev a)
|.IS E o z Xr=>Er (z.map .d) (Xr.map λ(i,x)=>(i,x.ev a)) λq=>K (.sl (AA b) q.length) ((AA b,.A0 E o q)::b)
|.HX E o B x y=>Od o (λu=>Kn E o B b u K (x.ev a)) b (y.ev a)
|.gv x=>HW K (Dc 40000 b (x.ev a))
|.LP n s x=>Ps n s b K (x.ev a)
|.JL n z x J H=>Oc b n z (J.map (A.ev a)) (H.map (A.ev a)) K (x.ev a)
|.MQ z x y=>Pq z b K (x.ev a) (y.ev a)
|.LF N z x=>Pm N z b K (x.ev a)
|.KU g n z x i=>B5 P g x/\OW n z (λv=>K v b) x (i.ev a)
|.LW x=>NS b K (x.ev a) (AD b (SK (x.ev a)))
|.MV x=>OY b K (x.ev a)
|.LJ x=>OU b (λv=>K v b) (x.ev a)
|.FZ x=>Lw b (λv=>K v b) (x.ev a)
|.JH e m x=>Iy b e (λv=>K v b) m (x.ev a)
|.LN _ t f G x j=>Po P t f G (j.map (A.ev a)) b K w (x.ev a)
|.MT E o B z l=>Pu E o B z b K (l.ev a)
|.Ma z x h=>Py z b K (x.ev a) (h.ev a)
|.Ca f j=>C1 P f (j.map (A.ev a)) b K
def Tl(P:Program)(e:TypeId)(b a:Nat):Option (List Value):=
 if b*a=0 then some [] else (Jx P e).map λz=>((Array.range (b*a)).map (z.toArray[· % z.toArray.size]!)).toList
def R1(P:Program)(d:Op)(E? : Option Nat)(b:Nat)(z:List D)(Xr:List (Nat×A)):Bool:=match d with
|.buildSlice t a f=>Ub f.toList Xr&&(match P.underlying t with
 |some (.slice e)=>(match E? with|some E=>e==E|none=>true)&&Yl P e==some b&&z.length==a&&decide (a*b<=2 ^ 24)&&z.all (λx=>x.sz==b)&&(match Tl P e a b with|some c=>He z c|none=>false)
 |_=>false)
|_=>false
def Ku:TypeDesc->D->Bool
|.int _,.int _ _=>true
|.string,.AV _=>true
|.bool,.bool _=>true
|_,_=>false
def Iu:D->KT
|.int k _=>.int k
|.bool _=>.bool
|_=>.AV
def Qo(P:Program)(t:TypeId):D->Bool
|.agg b=>(KT.st (b.map Iu)).An P t
|a=>match P.underlying t with
 |some d=>Ku d a
 |none=>false
def Y2t(P:Program)(t:TypeId)(nm:String)(f:Nat)(e:Option (Nat×Nat×Nat×Bool)):Bool:=match (P.info? t).bind (λi=>i.methods.find? (·.name==nm)) with
|some m=>(match e,m.func with
 |none,some (g,true)=>g==f&&m.path.isEmpty&&(P.underlying t matches some (.pointer _))
 |some (c,h,n,d),some (g,false)=>g==f&&(match m.path.toList with
  |[s]=>s.deref&&s.index==c&&(match P.underlying s.struct with
   |some (.struct a)=>(match a[c]? with
    |some b=>b.offset==h&&Yl P b.type==some n&&n != 0&&Gj P b.type==d&&!(P.underlying b.type matches some (.pointer _))&&(P.underlying b.type).isSome
    |none=>false)
   |_=>false)
  |_=>false)
 |_,_=>false)
|none=>false
def Y59:Bool->Option TypeDesc->Operand->Bool
|false,some (.slice _),.const (.slice none n m)=>n==0&&m==0
|true,some (.map _ _),.const (.map none)=>true
|_,_,_=>false
def rX:BinOp->Bool->Bool
|.eql,e=>e
|.neq,e=>!e
|_,_=>false
def I.An(P:Program)(a:Op):I->Bool
|.c x=>x.An P a
|.box E y=>match a with
 |.box e x=>e==E&&A.An x y
 |_=>false
|.alloc E z=>match a with
 |.alloc e=>e==E&&match Jx P e with
  |some q=>E0 z q
  |none=>false
 |_=>false
|.Gk b z Xr=>R1 P a none b z Xr
|.Hw E b z Xr=>R1 P a (some E) b z Xr
|.IS E b z Xr=>R1 P a (some E) b z Xr
|.st n x v=>match a with
 |.store t y u=>Yl P t==some n&&A.An y x&&A.An u v
 |_=>false
|.Dl E b B x y=>match a with
 |.call {callee:=.builtin .append,args:=args,argTypes:=p}=>match args.toList,p.toList with
  |[u,v],[t,G]=>(match P.underlying t with|some (.slice e)=>e==E|_=>false)&&(match P.info? E with|some i=>i.size==b&&i.bytes==B&&i.bytes != 0&&i.size != 0&&i.zero.isSome&&(i.zero.map (·.cells.size))==some b|none=>false)&&
   (P.underlying G matches some (.slice _))&&A.An u x&&A.An v y
  |_,_=>false
 |_=>false
|.HX E b B x y=>match a with
 |.call {callee:=.builtin .append,args:=args,argTypes:=p}=>match args.toList,p.toList with
  |[u,v],[t,G]=>(match P.underlying t with|some (.slice e)=>e==E|_=>false)&&(match P.info? E with|some i=>i.size==b&&i.bytes==B&&i.bytes != 0&&i.size != 0&&i.zero.isSome&&(i.zero.map (·.cells.size))==some b|none=>false)&&
   (P.underlying G matches some (.slice _))&&A.An u x&&A.An v y
  |_,_=>false
 |_=>false
|.Fq E B x y=>match a with
 |.call {callee:=.builtin .append,args:=args,argTypes:=p}=>match args.toList,p.toList with
  |[u,v],[t,G]=>(match P.underlying t with|some (.slice e)=>e==E|_=>false)&&(match P.info? E with|some i=>i.size==1&&i.bytes==B&&i.bytes != 0&&i.zero.isSome&&(i.zero.map (·.cells.size))==some 1|none=>false)&&
   (P.underlying G matches some .string)&&A.An u x&&A.An v y
  |_,_=>false
 |_=>false
|.call f args=>match a with
 |.call {callee:=.value (.func g),args:=as,.. }=>f==g&&Xd P f&&KG as.toList args
 |_=>false
|.Ca f args=>match a with
 |.call {callee:=.value (.func g),args:=as,.. }=>f==g&&Xd P f&&KG as.toList args
 |_=>false
|.Bd f args=>match a with
 |.call {callee:=.value (.func g),args:=as,.. }=>f==g&&Xd P f&&KG as.toList args
 |_=>false
|.C6 y args=>match a with
 |.call {callee:=.value x,args:=as,.. }=>A.An x y&&KG as.toList args
 |_=>false
|.panic y=>match a with
 |.panic x=>A.An x y
 |_=>false
|.JJ y=>match a with
 |.convert s t x=>(P.underlying s matches some .string)&&(match P.underlying t with|some (.slice e)=>(P.underlying e matches some (.int .u8))|_=>false)&&A.An x y
 |_=>false
|.Fv _ _ y=>match a with
 |.move x|.assign x=>A.An x y
 |_=>false
|.MU y=>match a with
 |.move x|.assign x=>A.An x y
 |_=>false
|.gv y=>false
|.KW n w y=>match a with
 |.load t x=>Yl P t==some n&&(P.underlying t).isSome&&Gj P t==w&&A.An x y
 |_=>false
|.LP n w y=>match a with
 |.load t x=>Yl P t==some n&&(P.underlying t).isSome&&Gj P t==w&&A.An x y
 |_=>false
|.KY _ _ y _ _=>match a with
 |.move x|.assign x=>A.An x y
 |_=>false
|.KZ y _ _=>match a with
 |.move x|.assign x=>A.An x y
 |_=>false
|.KS y=>match a with
 |.convert s t x=>s==t&&(match P.underlying s with|some (.slice e)=>(P.underlying e matches some (.int .u8))|_=>false)&&A.An x y
 |_=>false
|.Fy E y z=>match a with
 |.call {callee:=.builtin .unsafeString,args:=args,argTypes:=p}=>match args.toList,p.toList with
  |[x,n],[t,_]=>(match P.underlying t with|some (.pointer e)=>e==E&&P.cellsOf e==1|_=>false)&&A.An x y&&A.An n z
  |_,_=>false
 |_=>false
|.IZ r=>match a with
 |.makeMap t h=>(P.underlying t matches some (.map _ _))&&G1 h r
 |_=>false
|.LR H z T m k=>match a with
 |.lookup t x i o=>o==T&&(match P.underlying t with
  |some (.map F K)=>Qo P F H&&(match Jx P K with|some q=>E0 z q&&(((P.info? K).bind (·.zero)).map λv=>match v with|.agg _=>true|_=>false)==some (V.d z).isAgg|none=>false)
  |_=>false)&&A.An x m&&A.An i k
 |_=>false
|.DP H m k v=>match a with
 |.mapUpdate t x i y=>(match P.underlying t with|some (.map F _)=>Qo P F H|_=>false)&&A.An x m&&A.An i k&&A.An y v
 |.insert t x i y=>(match P.underlying t with|some (.map F _)=>Qo P F H|_=>false)&&A.An x m&&A.An i k&&A.An y v
 |_=>false
|.MR g n w _=>match a with
 |.load t (.global h)=>h==g&&Yl P t==some n&&(P.underlying t).isSome&&Gj P t==w
 |_=>false
|.LZ n z y=>match a with
 |.slice t x none none none=>(match P.underlying t with|some (.array m e)=>m==n&&Yl P e==some z|_=>false)&&A.An x y
 |_=>false
|.JL n z y Q O=>match a with
 |.slice t x l h none=>(match P.underlying t with|some (.array m e)=>m==n&&Yl P e==some z|_=>false)&&A.An x y&&G1 l Q&&G1 h O
 |_=>false
|.MQ z y s=>match a with
 |.call {callee:=.builtin .copy,args:=args,argTypes:=p}=>match args.toList,p.toList with
  |[u,v],[t,_]=>(match P.underlying t with|some (.slice e)=>Yl P e==some z&&z != 0|_=>false)&&A.An u y&&A.An v s
  |_,_=>false
 |_=>false
|.LF U z y=>match a with
 |.call {callee:=.builtin .clear,args:=args,argTypes:=p}=>match args.toList,p.toList with
  |[u],[t]=>(match P.underlying t with|some (.slice e)=>Yl P e==some z&&z != 0&&(match Jx P e with|some q=>E0 U q|none=>false)|_=>false)&&A.An u y
  |_,_=>false
 |_=>false
|.KU g n z _ j=>match a with
 |.indexAddr t (.global h) i=>h==g&&(match P.underlying t with|some (.array m e)=>n==m&&Yl P e==some z|_=>false)&&A.An i j
 |_=>false
|.LW y=>match a with
 |.range t x=>(P.underlying t matches some (.map _ _))&&A.An x y
 |_=>false
|.MV y=>match a with
 |.next x false=>A.An x y
 |_=>false
|.LJ y=>match a with
 |.entry x=>A.An x y
 |_=>false
|.FZ y=>match a with
 |.call {callee:=.builtin .len,args:=args,argTypes:=p}=>match args.toList,p.toList with
  |[u],[t]=>(P.underlying t matches some (.map _ _))&&A.An u y
  |_,_=>false
 |_=>false
|.JH e m y=>match a with
 |.binOp o t x J _=>rX o e&&A.An x y&&Y59 m (P.underlying t) J
 |_=>false
|.LN nm t f L y args=>match a with
 |.call {callee:=.invoke x m,args:=as,.. }=>m==nm&&A.An x y&&KG as.toList args&&Y2t P t nm f L
 |_=>false
|.MT E b B z l=>match a with
 |.makeSlice t x J=>A.An x l&&A.An J l&&(match P.underlying t with|some (.slice e)=>e==E|_=>false)&&(match P.info? E with|some i=>i.size==b&&i.bytes==B|none=>false)&&b != 0&&B != 0&&(match Jx P E with|some q=>E0 z q&&q.length==b|none=>false)&&z.sz==b
 |_=>false
|.Ma z y h=>match a with
 |.slice t x none (some N) none=>(match P.underlying t with|some (.slice e)=>Yl P e==some z&&z != 0|_=>false)&&A.An x y&&A.An N h
 |_=>false
end Go.Ab
