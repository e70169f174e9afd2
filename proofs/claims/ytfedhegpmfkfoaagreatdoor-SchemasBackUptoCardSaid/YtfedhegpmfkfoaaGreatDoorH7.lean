/- Contract: rules.read. Condition: the program is the seat's. -/
import Derived.Test.YtfedhegpmfkfoaaGreatDoorH6
set_option maxRecDepth 100000
set_option linter.unusedSimpArgs false
set_option linter.unusedVariables false
set_option linter.unusedSectionVars false
set_option linter.defProp false
namespace Go.Ab
open Go Go.Proofs
open Go.Proofs.Tryz (prog)
variable {P:Az}(hP:P.p=prog)
def Lg:List Edge->Nat
|[]=>0
|e::r=>cond (Region.binds .any e) (Nat.lor (Lg r) (Nat.shiftLeft 1 e.on)) (Lg r)
def SD(a:Array Oper):List Nat:=a.toList.map λo=>Lg o.after.toList
def U9(m:Nat):List Nat->Nat->List Nat
|[],_=>[]
|d::r,i=>cond (Nat.beq (Nat.land (Nat.shiftRight m i) 1) 0&&Nat.beq (Nat.land d m) d) (i::U9 m r (i+1)) (U9 m r (i+1))
def Mk(a:Array Oper)(b:Oper)(i:Nat):List Oper->Nat->Nat
|[],_=>0
|c::r,j=>cond (j==i||(c.after.any (λe=>Region.binds .any e&&e.on==i)||b.apart a c)) (Mk a b i r (j+1)) (Nat.lor (Mk a b i r (j+1)) (Nat.shiftLeft 1 j))
def PR(a:Array Oper):List Oper->Nat->List Nat
|[],_=>[]
|o::r,i=>Mk a o i a.toList 0::PR a r (i+1)
def SC(a:Array Oper):List Nat:=PR a a.toList 0
def Ra(a:List Nat)(m i:Nat):Bool:=match a[i]? with
|some c=>Nat.beq (Nat.land c m) c
|none=>false
def HI{a:Type}(n:Nat)(k:Nat->a):a:=match n with
|0=>k 0
|m+1=>k (m+1)
def wL{a:Type}(n:Nat)(k:Nat->a):HI n k=k n:=by cases n<;>rfl
mutual
def Jo(P:Program)(N:Nat)(a:Array Oper)(d:Nat->Nat)(b c:List Nat):Nat->Nat->Ot->Bool
|0,m,.done=>(U9 m b 0).isEmpty
|n+1,m,.BU i x r=>(U9 m b 0).contains i&&(match a[i]? with|some o=>x.Aa P N a o|none=>false)&&x.kind==d i&&
 (match x.kind with
 |0=>Ra c m i
 |5=>Ra c m i
 |1=>Ra c m i&&(List.range a.size).all (λj=>d j != 3||j==i||SS a i j)
 |_=>(U9 m b 0)==[i])&&
 HI (Nat.lor m (Nat.shiftLeft 1 i)) (λm=>Jo P N a d b c n m r)
|n+1,m,.br l=>!(U9 m b 0).isEmpty&&(U9 m b 0).all (λj=>l.has j)&&VI P N a d b c n m l
|_,_,_=>false
def VI(P:Program)(N:Nat)(a:Array Oper)(b:Nat->Nat)(c d:List Nat):Nat->Nat->Ev->Bool
|_,_,.nil=>true
|n,m,.cons i x r l=>(U9 m c 0).contains i&&(match a[i]? with|some o=>x.Aa P N a o|none=>false)&&x.kind==b i&&HI (Nat.lor m (Nat.shiftLeft 1 i)) (λm=>Jo P N a b c d n m r)&&VI P N a b c d n m l
end
structure HA(ops:Array Oper)(m:Nat)(listed:Array Bool):Prop where
 size:listed.size=ops.size
 P0:∀j,listed.getD j false=m.testBit j
def Xwf(a m:Nat):Nat.beq (Nat.land a m) a=true↔∀k,a.testBit k=true->m.testBit k=true:=by
 rw[Nat.beq_eq];show a &&&m=a↔_;constructor
 ·intro h k b;have:=CK (λx=>x.testBit k) h;simp only[Nat.testBit_and,b,EA]at this;exact this
 ·intro h;apply Nat.eq_of_testBit_eq;intro k;rw[Nat.testBit_and];cases b:a.testBit k with
  |false=>rfl
  |true=>rw[h k b];rfl
def Yib(m i:Nat):Nat.beq (Nat.land (Nat.shiftRight m i) 1) 0=!m.testBit i:=by
 rw[Dl,Nat.beq_eq];show(m >>> i) &&&1=0↔_;rw[Nat.testBit,Nat.and_comm];simp
def gL(m i k:Nat):(Nat.lor m (Nat.shiftLeft 1 i)).testBit k=(m.testBit k||decide (k=i)):=by
 show(m |||1 <<< i).testBit k=_;rw[Nat.testBit_or,Nat.one_shiftLeft,Nat.testBit_two_pow];congr 1;exact decide_eq_decide.2 ⟨λh=>h.symm,λh=>h.symm⟩
def dx:∀(l:List Edge)(k:Nat),(Lg l).testBit k=true↔∃e∈l,Region.binds .any e=true/\e.on=k
|[],k=>by simp[Lg]
|e::r,k=>by
 have d:=dx r k;rw[Lg];cases c:Region.binds .any e with
 |false=>simp[d,c]
 |true=>
  simp only[cond_true,gL,MW,d,Bs,DA];constructor
  ·rintro (⟨x,b,a⟩|rfl)
   ·exact⟨x,.inr b,a⟩
   ·exact⟨e,.inl rfl,c,rfl⟩
  ·rintro⟨x,(rfl|b),a⟩
   ·exact .inr a.2.symm
   ·exact .inl ⟨x,b,a⟩
def uU(m:Nat)(p:Nat->Bool):∀(l:List Oper)(i:Nat),(∀k (b:k<l.length),p (i+k)=(!m.testBit (i+k)&&Nat.beq (Nat.land (Lg l[k].after.toList) m) (Lg l[k].after.toList)))->U9 m (l.map λo=>Lg o.after.toList) i=(List.range' i l.length).filter p
|[],i,_=>by simp[U9]
|o::r,i,h=>by
 have a:=h 0 (by simp);have c:=uU m p r (i+1) λk b=>by
  have:=h (k+1) (by simpa using b);simpa[Kg,Nat.add_comm 1 k]using this
 simp only[Nat.add_zero,List.getElem_cons_zero]at a;rw[Cg,U9,Yib,<-a,List.length_cons,QU,List.filter_cons,c];cases p i<;>rfl
def VD{b:Array Oper}{m:Nat}{a:Array Bool}(h:HA b m a):U9 m (SD b) 0=Region.ready .any b a:=by
 unfold Region.ready SD;rw[List.range_eq_range',<-Array.length_toList];refine uU m _ _ _ λk f=>?_;have c:k<b.size:=by simpa using f
 have i:k<a.size:=by rw[h.size];exact c
 have j:a.getD k true=m.testBit k:=by
  rw[<-h.P0 k];simp[Array.getD,i]
 rw[JG,j,QX c];congr 1;simp only[Option.map_some,Option.getD_some];rw[Dl,Xwf,Array.getElem_toList];rw[<-Array.all_toList,DQ];constructor
 ·intro g k f;obtain⟨e,l,d,rfl⟩:=(dx _ _).1 f;have:=g e l;rw[d,h.P0]at this;simpa using this
 ·intro g x n;cases d:Region.binds .any x with
  |false=>rfl
  |true=>
   rw[h.P0,g x.on ((dx _ _).2 ⟨x,n,d,rfl⟩)];rfl
def X67{b:Array Oper}{m i:Nat}{a:Array Bool}(h:HA b m a)(f:i<b.size):HA b (Nat.lor m (Nat.shiftLeft 1 i)) (a.setIfInBounds i true):=by
 refine⟨by simpa using h.size,λj=>?_⟩;rw[gL,<-h.P0 j];have c:i<a.size:=by rw[h.size];exact f
 by_cases e:j=i
 ·subst e;simp[Array.getD,c]
 ·have d:¬i=j:=λh=>e h.symm;simp only[Array.getD,Array.size_setIfInBounds,e,decide_false,Bool.or_false];split
  next g=>show(a.setIfInBounds i true)[j]'(by simpa using g)=a[j];rw[Array.getElem_setIfInBounds,Af d]
  ·rfl
def zR{b:Array Oper}{a:Array Bool}{i:Nat}(h:i∈Region.ready .any b a):i<b.size:=by
 unfold Region.ready at h;simpa using(List.mem_filter.1 h).1
def yJ(a:Array Oper)(c:Oper)(i k:Nat):∀(l:List Oper)(b:Nat),(Mk a c i l b).testBit k=true↔∃t o,l[t]? = some o/\k=b+t/\(k==i||(o.after.any (λe=>Region.binds .any e&&e.on==i)||c.apart a o))=false
|[],b=>by simp[Mk]
|d::r,b=>by
 have n:=yJ a c i k r (b+1);have m:(∃t o,(d::r)[t]? = some o/\k=b+t/\(k==i||(o.after.any (λe=>Region.binds .any e&&e.on==i)||c.apart a o))=false)↔(k=b/\(b==i||(d.after.any (λe=>Region.binds .any e&&e.on==i)||c.apart a d))=false)\/(Mk a c i r (b+1)).testBit k=true:=by
  rw[n];constructor
  ·rintro⟨t,o,f,j,g⟩;cases t with
   |zero=>
    simp only[List.getElem?_cons_zero,Bu]at f;subst f;exact .inl ⟨j,by rw[j]at g;exact g⟩
   |succ t=>exact .inr ⟨t,o,by simpa using f,by omega,g⟩
  ·rintro (⟨rfl,h⟩|⟨t,o,f,j,g⟩)
   ·exact⟨0,d,rfl,rfl,h⟩
   ·exact⟨t+1,o,by simpa using f,by omega,g⟩
 rw[m,Mk];cases p:(b==i||(d.after.any (λe=>Region.binds .any e&&e.on==i)||c.apart a d)) with
 |true=>simp
 |false=>rw[cond_false,gL,MW,Bs,or_comm];simp
def wS(a:Array Oper):∀(l:List Oper)(b k:Nat),(PR a l b)[k]? = (l[k]?).map λo=>Mk a o (b+k) a.toList 0
|[],b,k=>by simp[PR]
|o::r,b,k=>by
 cases k with
 |zero=>simp[PR]
 |succ k=>
  have:=wS a r (b+1) k;simp only[PR,List.getElem?_cons_succ,this];rw[show b+1+k=b+(k+1) by omega]
def Ykd{b:Array Oper}{m:Nat}{a:Array Bool}(h:HA b m a)(i:Nat):Ra (SC b) m i=Region.free .any b a i:=by
 unfold Ra Region.free SC;rw[wS,Array.getElem?_toList,JG];cases x:b[i]? with
 |none=>rfl
 |some q=>
  simp only[Option.map_some];rw[Dl,Xwf,DQ];constructor
  ·intro g j u;have c:j<b.size:=by simpa using u
   have n:j<a.size:=by rw[h.size];exact c
   have f:a.getD j true=m.testBit j:=by
    rw[<-h.P0 j];simp[Array.getD,n]
   rw[QX c,f];cases r:(j==i||(b[j].after.any (λe=>Region.binds .any e&&e.on==i)||q.apart b b[j])) with
   |false=>
    rw[g j ((yJ b q i j _ 0).2 ⟨j,b[j],by rw[Array.getElem?_toList,QX c],by omega,r⟩)];simp
   |true=>
    revert r;cases (j==i)<;>cases m.testBit j<;>simp
  ·intro g k v;obtain⟨t,o,l,w,s⟩:=(yJ b q i k _ 0).1 v;have e:t=k:=by omega
   subst e;rw[Array.getElem?_toList]at l;have d:t<b.size:=(Array.getElem?_eq_some_iff.1 l).1;have p:t<a.size:=by rw[h.size];exact d
   have f:a.getD t true=m.testBit t:=by
    rw[<-h.P0 t];simp[Array.getD,p]
   have:=g t (by simpa using d);rw[l,f]at this;revert s this;cases (t==i)<;>cases m.testBit t<;>simp
section
variable {P:Program} {N:Nat} {ops:Array Oper} {kd:Nat->Nat}
mutual
def dn:∀(t:Ot)(n m:Nat)(a:Array Bool),HA ops m a->Jo P N ops kd (SD ops) (SC ops) n m t=true->Wx P N ops kd n a t=true
|.done,n,m,a,b,h=>by
 cases n with
 |zero=>simp only[Jo,Wx,VD b]at h⊢;exact h
 |succ n=>simp[Jo]at h
|.BU i x r,n,m,a,b,h=>by
 cases n with
 |zero=>simp[Jo]at h
 |succ n=>
  simp only[Jo,Wx,VD b,Ykd b,wL,As]at h⊢;exact⟨h.1,dn r n _ _ (X67 b (zR (List.contains_iff_mem.1 h.1.1.1.1))) h.2⟩
|.br l,n,m,a,b,h=>by
 cases n with
 |zero=>simp[Jo]at h
 |succ n=>
  simp only[Jo,Wx,VD b,As]at h⊢;exact⟨h.1,vW l n _ _ b h.2⟩
def vW:∀(l:Ev)(n m:Nat)(a:Array Bool),HA ops m a->VI P N ops kd (SD ops) (SC ops) n m l=true->Jx P N ops kd n a l=true
|.nil,n,m,a,_,_=>by simp only[Jx]
|.cons i x r l,n,m,a,b,h=>by
 simp only[VI,Jx,VD b,wL,As]at h⊢;exact⟨⟨h.1.1,dn r n _ _ (X67 b (zR (List.contains_iff_mem.1 h.1.1.1.1))) h.1.2⟩,vW l n _ _ b h.2⟩
end
end
def Ydi(a:Array Oper):HA a 0 (Array.replicate a.size false):=by
 refine⟨by simp,λj=>?_⟩;simp[Array.getD]
def aJ(P:Program)(N:Nat):Code->S->Bool
|.region _ e f,.E3 n t _ g=>VT e&&f&&decide (n<=e.size)&&Region.noSelect e&&Rl g e&&Jo P N e (aZ t.kinds) (SD e) (SC e) n 0 t
|.seq a b,.seq x y=>aJ P N a x&&aJ P N b y
|.cond c a b,.cond d x y=>A.Aa c d&&aJ P N a x&&aJ P N b y
|.block n a,.block m x=>n==m&&aJ P N a x
|.loop a,.loop _ x=>aJ P N a x
|c,s=>S.Aa P N c s
def Rc8{P:Program}{N:Nat}:∀(c:Code)(s:S),aJ P N c s=true->S.Aa P N c s=true:=λc s=>by
 induction s generalizing c with
 |E3 n t f g=>
  cases c<;>intro h<;>simp only[aJ,S.Aa,As]at h⊢<;>try exact h
  exact⟨h.1,dn _ _ _ _ (Ydi _) h.2⟩
 |seq x y a b=>
  cases c<;>intro h<;>simp only[aJ,S.Aa,As]at h⊢<;>try exact h
  exact⟨a _ h.1,b _ h.2⟩
 |cond d x y a b=>
  cases c<;>intro h<;>simp only[aJ,S.Aa,As]at h⊢<;>try exact h
  exact⟨⟨h.1.1,a _ h.1.2⟩,b _ h.2⟩
 |block m x e=>
  cases c<;>intro h<;>simp only[aJ,S.Aa,As]at h⊢<;>try exact h
  exact⟨h.1,e _ h.2⟩
 |loop f x e=>
  cases c<;>intro h<;>simp only[aJ,S.Aa]at h⊢<;>try exact h
  exact e _ h
 |_=>cases c<;>intro h<;>simpa only[aJ]using h
def Ytl(P:Program)(f n:Nat)(s:S)(c:List RV):Bool:=match P.funcs[f]? with
|some b=>match b.body with
 |some a=>decide (n<=b.ntmps)&&aJ P b.ntmps a s&&Qk P b.results.toList c&&s.DC
 |none=>false
|none=>false
def Ytm{P:Program}{f n:Nat}{s:S}{d:List RV}(h:Ytl P f n s d=true):Xr P f n s d=true:=by
 unfold Ytl at h;unfold Xr Hh;cases c:P.funcs[f]? with
 |none=>rw[c]at h;cases h
 |some e=>
  rw[c]at h;simp only at h⊢;cases b:e.body with
  |none=>rw[b]at h;cases h
  |some a=>
   rw[b]at h;simp only[As]at h⊢;exact⟨⟨⟨h.1.1.1,Rc8 _ _ h.1.1.2⟩,h.1.2⟩,h.2⟩
def Ygf:Nat:=0x1000c0459d02c07402b2d843a
def dF:Nat:=0x116a5029be0cb12f1420391661b83b59add0345a2acd34d0245a27f706cf627f84c1b7d34d0398180e27b34d98154e00150c45a0156c15d227b84c014d03a203d384c2acd34d0298180e27b34d98154e00150c45a0156c15d227b84c014d02a2039484c27f706cf627f04d1b7706a203d304dcf6a2039404d27f0621a13f81fdb5d00f10608c00b07205743317600406f00606a15f00006f00206a05d01804104284f0170b901c072927a270120ec23a0110b90160830120761f200e0ec19000d0b93408ee0761850098dc0bb0080b900d072c120f70030c8a010b958600307605a10708d04e03608800304907221fc33043026a3150228c1410d0bcd006048b080f80d20e105d02f8ba50289402d5d802b2050c608002c502158a4dbbf081
def dG:Nat:=0x1063c040a8c04097029004a940d20263bc80d0230250750240d21cf02200103f74b0210460200d201f91ca461e9
def pf:Nat:=0x1063c5f01973497a9f71767f283397a7f20549f77f8d1497a9f7176d1432a1907e70549f77f87f283397a7f2054d1432a1907e70547f204d46b32a00a06287e01f0090e70433b705d0160d11850153a608376e26101209311a0110050f71f501e14381b08b1b558653705a0090934340e904908305e0a904301a054
def jj:S:=zS [(zS [(zS [(zS [] Ygf)] dF)] dG)] pf
def Zf5:Xr prog 92 2 jj []=true:=Ytm (by kernel_rfl)
def Yfp:Nat:=0x138d3337ea02b0410231ae7a09de3337ea0299890670250a3b180271b100617c02608c7240a2026ccc3331b4c860242a201e7a02a58e1023d1e6e50f31730213690e6024196
def Ymy:S:=zS [] Yfp
def Yfq:Nat:=0x138db700f306208f0f01aea789deb707ea4370180670240a30cb01a0b998b01908c0020690a2019ccc2693da251173aa00fea78c8b016d1e016038b700f30621465360e6017196
def Ymz:S:=zS [] Yfq
def Yfr:Nat:=0x138d8c67ea0112791ae9d89de8c67ea00f19b0670230a3bf300609400c08c40c00400cccc8c6854c8600a0a473c0417ed009d1e0090388c60f31730070a40e600a196
def Ym0:S:=zS [] Yfr
def Yfs:Nat:=0x138d86598d0b304102d0740c69de86598d0c1041c3b0030225ed2afb9005413312c18e06a0ff11d0060340240eaa7101f05a0760f208d103004c3300603301e26c004be48e725100246105120e83e86595e0e10a90c62a50725c974f004896ae1c8602b0c67f4081
def Ym1:S:=zS [] Yfs
def jm:DK:=.pre (.rg [] [.op (some 1) (.box 29 (.t 0)),
 .op (some 2) (.alloc 29 (.agg [.AT,.AT,.AT,.AT,.AT,.AT])),
 .op (some 3) (.alloc 35 (.int .i64 0))] [1,2,3] [])
 (.pre (.rg [] [.op (some 11) (.c (.ld 6 true (.t 1))),
  .op (some 12) (.call 81 [(.t 11)]),
  .op (some 10) (.c (.mv (.t 12))),
  .op (some 13) (.c (.ext (.t 10) 0)),
  .op (some 14) (.c (.ext (.t 10) 1)),
  .op (some 4) (.c (.mv (.t 13))),
  .op (some 5) (.c (.mv (.t 14)))] [1,2,3,4,5] [])
 (.pre (.seq (.rg [] [.op (some 15) (.c (.mv (.t 5)))] [1,2,3,4,15] [])
 (.cond (.t 15) (.seq (.rg [] [.op (some 16) (.c (.ld 6 true (.t 2))),
  .op none (.st 6 (.t 2) (.t 16)),
  .op none (.st 1 (.t 3) (.int .i64 111))] [2,3] [])
 (.ret)) (.skip)))
 (.Dm [.op (some 17) (.c (.D5 82 [] [(.t 2),(.t 3)]))] [1,2,3,4,17] 17
 (.seq (.rg [0,3,6,9,12,15,1,4,7,10,13,16,2,5,8,11,14,17,18,19] [.op (some 18) (.c (.BW 0 0 (.t 1))),
  .op (some 21) (.c (.BW 1 1 (.t 1))),
  .op (some 24) (.c (.BW 2 2 (.t 1))),
  .op (some 27) (.c (.BW 3 3 (.t 1))),
  .op (some 30) (.c (.BW 4 4 (.t 1))),
  .op (some 33) (.c (.BW 5 5 (.t 1))),
  .op (some 19) (.c (.ld 1 false (.t 18))),
  .op (some 22) (.c (.ld 1 false (.t 21))),
  .op (some 25) (.c (.ld 1 false (.t 24))),
  .op (some 28) (.c (.ld 1 false (.t 27))),
  .op (some 31) (.c (.ld 1 false (.t 30))),
  .op (some 34) (.c (.ld 1 false (.t 33))),
  .op (some 20) (.Bx 83 [(.t 19)]),
  .op (some 23) (.Bx 84 [(.t 22)]),
  .op (some 26) (.Bx 85 [(.t 25)]),
  .op (some 29) (.Bx 86 [(.t 28)]),
  .op (some 32) (.Bx 87 [(.t 31)]),
  .op (some 35) (.Bx 88 [(.t 34)]),
  .op (some 36) (.c (.E0 [.AT,.AT,.AT,.AT,.AT,.AT] [(0,(.t 20)),(1,(.t 23)),(2,(.t 26)),(3,(.t 29)),(4,(.t 32)),(5,(.t 35))])),
  .op none (.st 6 (.t 2) (.t 36))] [2,3,4] [2,3])
 (.seq (.rg [] [.op (some 37) (.c (.mv (.t 4))),
  .op (some 38) (.c (.BW 1 1 (.t 2))),
  .op (some 39) (.c (.ld 1 false (.t 38))),
  .op (some 40) (.call 89 [(.t 37),(.t 39)])] [2,3,4] [2,3])
 (.seq (.seq (.rg [] [.op (some 41) (.c (.BW 2 2 (.t 2))),
  .op (some 42) (.c (.ld 1 false (.t 41))),
  .op (some 43) (.c (.CV (.t 42))),
  .op (some 44) (.c (.mv (.int .i64 0)))] [2,3,4,43,44] [2,3])
 (.block 0 (.loop [2,3,4,43,44] Ym1)))
 (.seq (.seq (.rg [] [.op (some 61) (.c (.BW 3 3 (.t 2))),
  .op (some 62) (.c (.ld 1 false (.t 61))),
  .op (some 63) (.c (.CV (.t 62))),
  .op (some 64) (.c (.mv (.int .i64 0)))] [2,3,4,63,64] [2,3])
 (.block 2 (.loop [2,3,4,63,64] Ym0)))
 (.seq (.seq (.rg [] [.op (some 74) (.c (.BW 4 4 (.t 2))),
  .op (some 75) (.c (.ld 1 false (.t 74))),
  .op (some 76) (.c (.CV (.t 75))),
  .op (some 77) (.c (.mv (.int .i64 0)))] [2,3,4,76,77] [2,3])
 (.block 4 (.loop [2,3,4,76,77] Ymz)))
 (.seq (.seq (.rg [] [.op (some 87) (.c (.BW 5 5 (.t 2))),
  .op (some 88) (.c (.ld 1 false (.t 87))),
  .op (some 89) (.c (.CV (.t 88))),
  .op (some 90) (.c (.mv (.int .i64 0)))] [2,3,4,89,90] [2,3])
 (.block 6 (.loop [2,3,4,89,90] Ymy)))
 (.seq (.rg [] [.op (some 100) (.Ia 6 true (.t 2)),
  .op none (.st 6 (.t 2) (.t 100)),
  .op none (.st 1 (.t 3) (.int .i64 0))] [2,3] [2,3])
 (.ret)))))))))))
def Znp:PU prog 41 1 jm [.c 2 6 true,.c 3 1 false]=true:=by kernel_rfl
def Yf7:Nat:=0x10400243270010750105f7044c4801102817e
def aX:List It:=[.op (some 2) (.c (.mv (.t 5)))]
def Yey:List Nat:=[0,1,2]
def pZ:Nat:=0x12f1003390afe09804056b00d57f00e52300427700c17505c01430502b039a020730af00c02500a0fe00930502b36501c1fd73c086007a7f27719a5b324019f
def jf:S:=zS [(zS [] Yf7)] pZ
def Zf4:PS prog 82 2 5 aX jf=true:=by kernel_rfl
def VZ:S2:=zL [] [] Ygf
def Yhs:=(by cbv:VZ=_)
def O6:S2:=zL [] [VZ] dF
def Ztu:=(show O6=_ from (λa=>(by cbv:zL [] [a] dF=_)) VZ)
def V0:S2:=zL [] [O6] dG
def Yht:=(show V0=_ from (λa=>(by cbv:zL [] [a] dG=_)) O6)
def XM:S2:=zL [] [V0] pf
def Zht:=(show XM=_ from (λa=>(by cbv:zL [] [a] pf=_)) V0)
def Zkp:jj.AZ []=some XM:=by kernel_rfl
def sM:S2:=zL [] [] Yfp
def Xzb:=(by cbv:sM=_)
def sN:S2:=zL [] [] Yfq
def Xzc:=(by cbv:sN=_)
def sO:S2:=zL [] [] Yfr
def Xzd:=(by cbv:sO=_)
def sQ:S2:=zL [] [] Yfs
def Xze:=(by cbv:sQ=_)
def Zds:LB:=.pre (.rg [.op (some 1) (.box 29 (.t 0)),.op (some 2) (.alloc 29 (.agg [.AT,.AT,.AT,.AT,.AT,.AT])),.op (some 3) (.alloc 35 (.int .i64 0))] [(1,(.a (.t 1))),(2,(.a (.t 2))),(3,(.a (.t 3)))] [])
 (.pre (.rg [.Aa [] (.u (.ld 6 true (.t 0)) (.a (.t 1))),.lt 11 [] (.u (.ld 6 true (.t 0)) (.a (.t 1))),.op (some 12) (.call 81 [(.t 11)])] [(1,(.a (.t 1))),(2,(.a (.t 2))),(3,(.a (.t 3))),(4,(.u (.ext (.t 0) 0) (.a (.t 12)))),(5,(.u (.ext (.t 0) 1) (.a (.t 12))))] [])
 (.pre (.seq (.rg [] [(1,(.a (.t 1))),(2,(.a (.t 2))),(3,(.a (.t 3))),(4,(.a (.t 4))),(15,(.a (.t 5)))] [])
 (.cond (.t 15) (.seq (.rg [.Aa [] (.u (.ld 6 true (.t 0)) (.a (.t 2))),.lt 16 [] (.u (.ld 6 true (.t 0)) (.a (.t 2))),.op none (.st 6 (.t 2) (.t 16)),.op none (.st 1 (.t 3) (.int .i64 111))] [(2,(.a (.t 2))),(3,(.a (.t 3)))] [])
 (.ret)) (.skip)))
 (.Dm [.op (some 17) (.c (.D5 82 [] [(.t 2),(.t 3)]))] [(1,(.a (.t 1))),(2,(.a (.t 2))),(3,(.a (.t 3))),(4,(.a (.t 4))),(17,(.a (.t 17)))] 17
 (.seq (.rg [.Aa [] (.u (.ld 1 false (.t 0)) (.u (.BW 5 5 (.t 0)) (.a (.t 1)))),.Aa [] (.u (.ld 1 false (.t 0)) (.u (.BW 4 4 (.t 0)) (.a (.t 1)))),.Aa [] (.u (.ld 1 false (.t 0)) (.u (.BW 3 3 (.t 0)) (.a (.t 1)))),.Aa [] (.u (.ld 1 false (.t 0)) (.u (.BW 2 2 (.t 0)) (.a (.t 1)))),.Aa [] (.u (.ld 1 false (.t 0)) (.u (.BW 1 1 (.t 0)) (.a (.t 1)))),.Aa [] (.u (.ld 1 false (.t 0)) (.u (.BW 0 0 (.t 0)) (.a (.t 1)))),.lt 34 [] (.u (.ld 1 false (.t 0)) (.u (.BW 5 5 (.t 0)) (.a (.t 1)))),.lt 31 [] (.u (.ld 1 false (.t 0)) (.u (.BW 4 4 (.t 0)) (.a (.t 1)))),.lt 28 [] (.u (.ld 1 false (.t 0)) (.u (.BW 3 3 (.t 0)) (.a (.t 1)))),.lt 25 [] (.u (.ld 1 false (.t 0)) (.u (.BW 2 2 (.t 0)) (.a (.t 1)))),.lt 22 [] (.u (.ld 1 false (.t 0)) (.u (.BW 1 1 (.t 0)) (.a (.t 1)))),.lt 19 [] (.u (.ld 1 false (.t 0)) (.u (.BW 0 0 (.t 0)) (.a (.t 1)))),.op (some 20) (.Bx 83 [(.t 19)]),.op (some 23) (.Bx 84 [(.t 22)]),.op (some 26) (.Bx 85 [(.t 25)]),.op (some 29) (.Bx 86 [(.t 28)]),.op (some 32) (.Bx 87 [(.t 31)]),.op (some 35) (.Bx 88 [(.t 34)]),.op (some 36) (.c (.E0 [.AT,.AT,.AT,.AT,.AT,.AT] [(0,(.t 20)),(1,(.t 23)),(2,(.t 26)),(3,(.t 29)),(4,(.t 32)),(5,(.t 35))])),.op none (.st 6 (.t 2) (.t 36))] [(2,(.a (.t 2))),(3,(.a (.t 3))),(4,(.a (.t 4)))] [2,3])
 (.seq (.rg [.Aa [] (.u (.ld 1 false (.t 0)) (.u (.BW 1 1 (.t 0)) (.a (.t 2)))),.lt 39 [] (.u (.ld 1 false (.t 0)) (.u (.BW 1 1 (.t 0)) (.a (.t 2)))),.lt 37 [] (.a (.t 4)),.op (some 40) (.call 89 [(.t 37),(.t 39)])] [(2,(.a (.t 2))),(3,(.a (.t 3))),(4,(.a (.t 4)))] [2,3])
 (.seq (.seq (.rg [] [(2,(.a (.t 2))),(3,(.a (.t 3))),(4,(.a (.t 4))),(43,(.u (.CV (.t 0)) (.u (.ld 1 false (.t 0)) (.u (.BW 2 2 (.t 0)) (.a (.t 2)))))),(44,(.a (.int .i64 0)))] [2,3])
 (.block 0 (.loop [2,3,4,43,44] sQ)))
 (.seq (.seq (.rg [] [(2,(.a (.t 2))),(3,(.a (.t 3))),(4,(.a (.t 4))),(63,(.u (.CV (.t 0)) (.u (.ld 1 false (.t 0)) (.u (.BW 3 3 (.t 0)) (.a (.t 2)))))),(64,(.a (.int .i64 0)))] [2,3])
 (.block 2 (.loop [2,3,4,63,64] sO)))
 (.seq (.seq (.rg [] [(2,(.a (.t 2))),(3,(.a (.t 3))),(4,(.a (.t 4))),(76,(.u (.CV (.t 0)) (.u (.ld 1 false (.t 0)) (.u (.BW 4 4 (.t 0)) (.a (.t 2)))))),(77,(.a (.int .i64 0)))] [2,3])
 (.block 4 (.loop [2,3,4,76,77] sN)))
 (.seq (.seq (.rg [] [(2,(.a (.t 2))),(3,(.a (.t 3))),(4,(.a (.t 4))),(89,(.u (.CV (.t 0)) (.u (.ld 1 false (.t 0)) (.u (.BW 5 5 (.t 0)) (.a (.t 2)))))),(90,(.a (.int .i64 0)))] [2,3])
 (.block 6 (.loop [2,3,4,89,90] sM)))
 (.seq (.rg [.op (some 100) (.Ia 6 true (.t 2)),.op none (.st 6 (.t 2) (.t 100)),.op none (.st 1 (.t 3) (.int .i64 0))] [(2,(.a (.t 2))),(3,(.a (.t 3)))] [2,3])
 (.ret)))))))))))
def Zjv:jm.AZ []=some Zds:=by kernel_rfl
def iP:S2:=zL [] [] Yf7
def Yhq:=(by cbv:iP=_)
def cQ:List Ek:=[]
def cO:List (Nat×E):=[(0,(.a (.t 0))),(1,(.a (.t 1))),(2,(.a (.t 5)))]
def Zc7:Hl [] Yey [] aX [] [] []=some (cQ,cO):=by kernel_rfl
def Zem:S2:=zL [] [iP] pZ
def Zbm:=(show Zem=_ from (λa=>(by cbv:zL [] [a] pZ=_)) iP)
def Zc5:jf.AZ []=some Zem:=by kernel_rfl
def og:S2:=match XM with
|.seq a _=>a
|s=>s
def oh:S2:=match O6 with
|.seq _ (.seq _ (.seq (.block _ (.seq _ (.seq _ t))) _))=>t
|s=>s
def Y2b:XM=.seq og V0:=rfl
def Yen:O6=.seq (.rg [] [(0,(.a (.t 0))),(1,(.a (.t 1))),(42,(.a (.t 42))),(43,(.a (.t 43))),(44,(.b (.Bc .lss (.t 0) (.t 1)) (.a (.t 43)) (.a (.t 42))))] [])
 (.seq (.cond (.t 44) (.skip) (.exit 0))
 (.seq (.block 1 (.seq (.rg [] [(0,(.a (.t 0))),(1,(.a (.t 1))),(4,(.a (.t 43))),(42,(.a (.t 42))),(43,(.a (.t 43)))] [])
 (.seq (.rg [] [(0,(.a (.t 0))),(1,(.a (.t 1))),(5,(.b (.DI 5 (.t 0) (.t 1)) (.u (.ld 1 false (.t 0)) (.u (.BW 4 4 (.t 0)) (.u (.Cw (.t 0)) (.a (.t 1))))) (.a (.t 4)))),(42,(.a (.t 42))),(43,(.a (.t 43)))] [])
 oh))) VZ)):=rfl
include hP
theorem Y14{y:Ah}{j:AB}{id m i:Nat}{k:List V}{c:Ag}{Q:Yt}(p:RC y j)(l:AA j id=some (.Ao 66 5 k))(q:k.length=m)(f:i<m)
 (g:∀h:i<k.length,k[i]=.d (.agg [.AM c.Aw,.AM c.CA,iD c.a,iD c.b,.AF 5 (c.Ap.map A8.enc)]))
 (w:∀a b,CU (y.AD.map AI.name) c.Aw=some a->CU (y.AD.map AI.name) c.CA=some b->Q .normal [(0,.ptr 4 []),(1,.ep id m 5 i 0 [])] (AG j id (.Ao 66 5 (k.set i (.d (.agg [.AM c.Aw,.AM c.CA,.int .i64 a,.int .i64 b,.AF 5 (c.Ap.map A8.enc)]))))))
 (t:CU (y.AD.map AI.name) c.Aw=none\/CU (y.AD.map AI.name) c.CA=none->Q (.panic (.d Y5)) [] j):
 Ys P [] og Q [(0,.ptr 4 []),(1,.ep id m 5 i 0 [])] j:=by
 have e:i<k.length:=by omega
 have n:=p.o4;have r:∀o,AA (AG j id o) id=some o:=λo=>by rw[Xc j id id ⟨_,l⟩,BL rfl]
 simp[og,Zht,n,l,q,f,e,g]
 repeat' apply And.intro
 all_goals refine Yy hP p.o7 (λa u=>?_) (λs=>t (.inl s))
 all_goals simp[n,l,q,f,e,g]
 repeat' apply And.intro
 all_goals refine Yy hP p.o7 (λb v=>?_) (λs=>t (.inr s))
 all_goals simp[n,l,q,f,e,g,r,X4]
 all_goals exact w a b u v
set_option maxHeartbeats 4000000 in
theorem Y15{y:Ah}{j:AB}{id c m i n k a b:Nat}{x w:List V}{f t:B}{u:A8}{A B:V}{Q:Yt}(G:RC y j)(K:AA j id=some (.Ao 66 5 x))(M:x.length=m)(r:i<m)
 (v:∀h:i<x.length,x[i]=.agg [.d (.AM f),.d (.AM t),.d (.int .i64 a),.d (.int .i64 b),.sl c n])
 (H:AA j c=some (.Ao 208 5 w)) (W:w.length=n) (L:k<n) (U:∀h:k<w.length,w[k]=.d (.agg [.AM u.CA,.AM u.Aw,iD u.b,iD u.a,iD u.shift])) (z:a<y.AD.length) (F:b<y.AD.length)
 (hn:∀p q,CU (D0 y.AD a) u.Aw=some p->CU (D0 y.AD b) u.CA=some q->Q .normal [(0,.ptr 4 []),(1,.ep id m 5 i 0 []),(42,A),(43,B)] (AG j c (.Ao 208 5 (w.set k (.d (.agg [.AM u.CA,.AM u.Aw,.int .i64 q,.int .i64 p,iD u.shift]))))))
 (X:CU (D0 y.AD a) u.Aw=none\/CU (D0 y.AD b) u.CA=none->Q (.panic (.d Y5)) [] j):
 Ys P [] oh Q [(0,.ptr 4 []),(1,.ep id m 5 i 0 []),(5,.ep c n 5 k 0 []),(42,A),(43,B)] j:=by
 have e:i<x.length:=by omega
 have s:k<w.length:=by omega
 have g:y.AD.length≠0:=by omega
 have J:=G.o4;have l:=G.QC g;have Y:=G.om a z;have Z:=G.om b F;have R:∀o,AA (AG j c o) c=some o:=λo=>by rw[Xc j c c ⟨_,H⟩,BL rfl]
 simp (maxSteps:=10000000) [oh,Ztu,J,l,K,M,r,e,v,H,W,L,s,U,HJ,g,z,F,Wm,Vg]
 repeat' apply And.intro
 all_goals refine Yy hP Y (λp N=>?_) (λT=>X (.inl T))
 all_goals simp[J,l,K,M,r,e,v,H,W,L,s,U,HJ,g,z,F,Wm,Vg]
 repeat' apply And.intro
 all_goals refine Yy hP Z (λq O=>?_) (λT=>X (.inr T))
 all_goals simp[J,l,K,M,r,e,v,H,W,L,s,U,HJ,g,z,F,Wm,Vg,R,X4]
 all_goals exact hn p q N O
omit hP
def MA(x:A8):V:=.d x.enc
include hP
theorem Xsp{a:List D}(c:∀x∈a,x.sz=5)(e:a.length<=1000000){b:AB}{K:V->AB->Prop}(h:K (.sl (fresh b) a.length) ((fresh b,.Ao 208 5 (a.map .d))::b)):CD P 183 [.d (.AF 5 a)] b K:=
 qN (ds:=[.AF 5 a]) (Zs hP AO Yss c (by omega) ⟨rfl,rfl⟩) h
theorem Xwv{y:Ah}{id m i:Nat}{Z:List V}{c:Ag}(hm:c.Ap.length<=1000000){f:AB}(hc:RC y f)(hi:AA f id=some (.Ao 66 5 Z))(hl:Z.length=m)(hv:Z[i]? = some (.d c.enc))(ae:∀p,BO p Z=false)(ao:id≠1/\id≠2){K:A7->AB->Prop}
 (h1:∀q,Zc y.AD c=some q->K (.ret (.BE [])) (AG f id (.Ao 66 5 (Z.set i (.d q.enc))))) (h0:Zc y.AD c=none->Pk K f):
 AV P 92 [.ptr 4 [],.ep id m 5 i 0 []] f K:=by
 refine AV.Gb ?_;refine Xk hP AO Zf5 Zkp BD.nil λ_ L=>?_;obtain⟨ap,ad⟩:=EK.1 hv;have pe:c.enc=.agg [.AM c.Aw,.AM c.CA,iD c.a,iD c.b,.AF 5 (c.Ap.map A8.enc)]:=rfl;rw[pe]at ad;have l:i<m:=by omega
 have aq:=Xf hi;have l4:=Xf hc.o4;have N:fresh f≠id:=by omega
 simp[Y2b];refine Y14 hP hc hi hl l (λ_=>ad) (λa b ha hb=>?_) (λv=>?_)
 ·have cR:Zc y.AD c=(Ju c.Ap (Nw y.AD a b)).map λms=>{c with a:=(a:Int),b:=(b:Int),Ap:=ms}:=by rw[Zc,ha,Option.bind_some,hb,Option.bind_some]
  obtain⟨v1,H⟩:∃v1,v1=Z.set i (V.d (.agg [.AM c.Aw,.AM c.CA,.int .i64 a,.int .i64 b,.AF 5 (c.Ap.map A8.enc)])):=⟨_,rfl⟩
  rw[<-H];have Y:v1.length=m:=by rw[H];simpa using hl
  have af:∀h:i<v1.length,v1[i]=V.d (.agg [.AM c.Aw,.AM c.CA,.int .i64 a,.int .i64 b,.AF 5 (c.Ap.map A8.enc)]):=λh=>by simp[H]
  have M:∀o,AA (AG f id o) id=some o:=λo=>by rw[Xc f id id ⟨_,hi⟩,BL rfl]
  simp[Yht,M,Y,af,l];refine Xsp hP (by intro x v;obtain⟨r,_,rfl⟩:=C9.1 v;rfl) (by simpa using hm) ?_;simp[M,N,Y,af,l,DZ,Bt,Zf,X4];refine⟨⟨_,_,_,⟨rfl,rfl,rfl⟩,by simp⟩,?_⟩;obtain⟨vs',t⟩:∃vs',vs'=v1.set i (V.agg [.d (.AM c.Aw),.d (.AM c.CA),.d (.int .i64 a),.d (.int .i64 b),.sl (fresh f) c.Ap.length]):=⟨_,rfl⟩
  rw[<-t];have ag:vs'.length=m:=by rw[t];simpa using Y
  have X:∀h:i<vs'.length,vs'[i]=V.agg [.d (.AM c.Aw),.d (.AM c.CA),.d (.int .i64 a),.d (.int .i64 b),.sl (fresh f) c.Ap.length]:=λh=>by simp[t]
  have ak:=hc.set (vs':=vs') hi (by decide);have fs:fresh (AG f id (.Ao 66 5 vs'))=fresh f:=by simp
  let j:List V->AB:=λus=>(fresh f,.Ao 208 5 us)::AG f id (.Ao 66 5 vs');have bG:∀us,AA (j us) (fresh f)=some (.Ao 208 5 us):=λus=>by simp[j,AA]
  have bS:∀us W,AG (j us) (fresh f) (.Ao 208 5 W)=j W:=λus W=>by simp[j,AG]
  have bI:∀us,AA (j us) id=some (.Ao 66 5 vs'):=λus=>by
   show AA ((fresh f,_)::AG f id _) id=_;rw[AA,Af N,M]
  have bC:∀us,RC y (j us):=λus=>by
   have:=ak.cons (.Ao 208 5 us)
   rwa [fs]at this
  have bF:∀us,fresh (j us)=fresh f+1:=λus=>by
   have:¬fresh f+1<=fresh f:=by omega
   simp[j,this]
  have bN:∀{n:Nat}{kp:List Nat}{us:List V},fresh f<=n->AE n kp (fresh f)=false->(∀p,BO p us=false)->AH (AE n kp) (j us)=true:=λhn hk hu=>by
   simp only[j,AH,hu,Bool.not_false,EA];refine Xn ?_ (X8 L hn);rw[t,H,List.set_set];exact Xy (by simp[V.BJ,BO,hk]) i (ae _)
  have bD:∀{n:Nat}{kp:List Nat}{us:List V},fresh f<=n->AE n kp (fresh f)=false->Xh (AE n kp) (j us)=j us:=λ{n kp us} hn hk=>by
   show Xh _ ((fresh f,_)::AG f id _)=_;rw[Xh,hk,Xe (by simp;omega)];rfl
  have aa:∀us x,x=1\/x=2->AA (j us) x=AA f x:=λus x v=>by
   have e1:fresh f≠x:=by omega
   show AA ((fresh f,_)::AG f id _) x=_;rw[AA,Af e1,Xc f id x ⟨_,hi⟩,Af (by omega)]
  have ai:a<y.AD.length:=by simpa using Nk ha
  have aj:b<y.AD.length:=by simpa using Nk hb
  show Ae _ _ _ _ (j (c.Ap.map (V.d∘A8.enc)));refine Ae.go (ι:=List A8) (λd=>[(0,.ptr 4 []),(1,.ep id m 5 i 0 []),(42,.d (.int .i64 c.Ap.length)),(43,.d (.int .i64 d.length))])
   (λd=>j ((d++c.Ap.drop d.length).map MA)) (λd=>d.length<=c.Ap.length/\Ju c.Ap (Nw y.AD a b)=DB (λ_=>Nw y.AD a b) d (c.Ap.drop d.length)) (λd=>c.Ap.length-d.length) [] ⟨by simp,rfl⟩ (by simp) (by simp;rfl) ?_
  rintro d ⟨hd,Q⟩ R rn re rr rp;have wl:((d++c.Ap.drop d.length).map MA).length=c.Ap.length:=by simp;omega
  by_cases w:d.length<c.Ap.length
  ·have wr:IntKind.i64.wrap ((d.length:Int)+1)=(d.length:Int)+1:=w_i _ (by omega);have wk:=Jp MA w;have ws:=Jq MA w;rw[Db w,Zd]at Q;generalize hu:c.Ap[d.length]=u at Q wk;have ue:MA u=.d (.agg [.AM u.CA,.AM u.Aw,iD u.b,iD u.a,iD u.shift]):=rfl;rw[ue]at wk;generalize al:(d++c.Ap.drop d.length).map MA=us at wl wk ws;have ac:∀p,BO p us=false:=λp=>by rw[<-al];exact Xw _ _
   have ab:∀s:Nat,Ya y.AD s=D0 y.AD s:=λs=>by
    unfold Ya D0;simp only[Int.toNat_natCast];cases y.AD[s]?<;>rfl
   have T:Nw y.AD a b u=(CU (D0 y.AD a) u.Aw).bind λ(x:Nat)=>(CU (D0 y.AD b) u.CA).map λ(z:Nat)=>{u with a:=x,b:=z}:=by rw[<-ab,<-ab];rfl
   simp[Yen,w,bI,bG,ag,X,l,wl,wk];refine Y15 hP (bC _) (bI _) ag l X (bG _) wl w (λ_=>wk _) ai aj (λp q hp hq=>?_) (λv=>?_)
   ·have hz:Nw y.AD a b u=some {u with a:=(p:Int),b:=(q:Int) }:=by rw[T,hp,Option.bind_some,hq];rfl
    rw[hz,Option.bind_some]at Q;have e1:us.set d.length (.d (.agg [.AM u.CA,.AM u.Aw,.int .i64 q,.int .i64 p,iD u.shift]))=((d++[{u with a:=(p:Int),b:=(q:Int) }])++c.Ap.drop (d++[{u with a:=(p:Int),b:=(q:Int) }]).length).map MA:=ws {u with a:=(p:Int),b:=(q:Int) };rw[bS];simp[Yhs];rw[e1];refine rn [] (d++[{u with a:=(p:Int),b:=(q:Int) }]) _ _ ⟨by simp;omega,by rw[Q,DV];rfl⟩ (by simp;omega) (by simp[wr]) ?_ ?_ ?_
    ·rw[bF];exact bD (n:=fresh f+1) (kp:=[]) (by omega) (by simp[AE])
    ·rw[bF];simp[AE];omega
    ·rw[bF];exact bN (n:=fresh f+1) (kp:=[]) (by omega) (by simp[AE]) (λp=>Xw _ _)
   ·simp;refine rp _ _ _ ?_;have hz:Nw y.AD a b u=none:=by
     rcases v with v|v
     ·rw[T,v];rfl
     ·rw[T,v];cases CU (D0 y.AD a) u.Aw<;>rfl
    have U:=h0 (by rw[cR,Q,hz];rfl);simp;have k0:AE (fresh f) [fresh f] (fresh f)=false:=by simp[AE]
    have J:=bD (us:=us) (BV _) k0;have nk:=bN (us:=us) (BV _) k0 ac;refine⟨[fresh f],by simp,by rw[J];exact nk,_,Wk.refl _,[fresh f],by simp[A7.BJ],by rw[J,J];exact nk,?_⟩;rw[J,J];exact U _ (aa us 1 (.inl rfl)) (aa us 2 (.inr rfl))
  ·have O:d.length=c.Ap.length:=by omega
   rw[O,List.drop_length,DB]at Q;simp[Yen,w];refine re _ _ _ ?_;simp;have e:List.drop d.length (c.Ap.map MA)=[]:=Gj (by simp[O]);rw[e,GL];have hq:Zc y.AD c=some {c with a:=(a:Int),b:=(b:Int),Ap:=d}:=by rw[cR,Q];rfl
   obtain⟨G,F⟩:∃G,G=j (d.map MA):=⟨_,rfl⟩
   have li:AA G id=some (.Ao 66 5 vs'):=by rw[F,bI]
   have lf:AA G (fresh f)=some (.Ao 208 5 (d.map λr=>V.d r.enc)):=by rw[F,bG];rfl
   have g:Ct 3 G (V.agg [.d (.AM c.Aw),.d (.AM c.CA),.d (.int .i64 a),.d (.int .i64 b),.sl (fresh f) c.Ap.length])=some (.agg [.AM c.Aw,.AM c.CA,.int .i64 a,.int .i64 b,.AF 5 (d.map A8.enc)],AG G (fresh f) .AY):=by
    have hd:∀(x:D)(o:AB),Ct 2 o (.d x)=some (x,o):=λx o=>rfl;show FF (Ej (Ct 2) G _)=_;simp only[Ej,hd,ID (k:=0) A8.enc lf (by decide) O.symm,Uq,FF]
   have sg:AG G (fresh f) .AY=(fresh f,.AY)::AG f id (.Ao 66 5 vs'):=by rw[F];simp[j,AG]
   have an:AA (AG G (fresh f) .AY) id=some (.Ao 66 5 vs'):=by rw[sg,AA,Af N,M]
   have ah:=Ox li (i:=i) (by rw[Cn (by omega),X]) g an rfl;have Cm:AG (AG G (fresh f) .AY) id (.Ao 66 5 (vs'.set i (.d (.agg [.AM c.Aw,.AM c.CA,.int .i64 a,.int .i64 b,.AF 5 (d.map A8.enc)]))))=(fresh f,.AY)::AG f id (.Ao 66 5 (Z.set i (.d ({c with a:=(a:Int),b:=(b:Int),Ap:=d}:Ag).enc))):=by
    rw[sg,AG,Af N,X4,t,H,List.set_set,List.set_set];rfl
   rw[Cm]at ah;rw[<-F];have k0:AE (fresh f) [fresh f] (fresh f)=false:=by simp[AE]
   have J:Xh (AE (fresh f) [fresh f]) G=G:=by rw[F];exact bD (BV _) k0
   refine⟨[fresh f],by simp,by rw[J,F];exact bN (BV _) k0 (λp=>Xw _ _),_,by rw[J];exact ah,[],by simp[A7.BJ],?_,?_⟩
   ·simp[AE,Xh];exact Xn (Xy rfl _ (ae _)) (L _)
   ·simp[AE,Xh];exact h1 _ hq
 ·simp;have hn:Zc y.AD c=none:=by
   rcases v with v|v
   ·rw[Zc,v];rfl
   ·rw[Zc,v];cases CU (y.AD.map AI.name) c.Aw<;>rfl
  have U:=h0 hn;have J:Xh (AE (fresh f) []) f=f:=by simp
  refine⟨[],by simp,by simpa using L [],_,Wk.refl _,[],by simp[A7.BJ],by simpa using L [],?_⟩;simpa using U f rfl rfl
omit hP
abbrev Lq:D:=.agg [.AT,.AT,.AT,.AT,.AT,.AT]
include hP
theorem Y2h{c:AB}{a b:Nat}{K:AB->Prop}(h:K c):B6 P 82 [.ptr a [],.ptr b []] c none K:=by
 refine B6.EM λ_ d=>?_;refine Q5 hP AO Zf4 Zc7 Zc5 BD.nil ?_;simp[cQ,cO,Zbm];refine⟨[],by simp,?_,?_⟩
 ·simp[d]
 ·simpa using h
theorem Y2g{a:AB}{x:V}{m:Int}(b:AA a 1=some (.box 29 x))(i:x.shape=Lq.shape)(c:AA a 2=some (.box 35 (.d (.int .i64 m)))){K:AB->Prop}(h:K (AG (AG a 1 (.box 29 (.d Lq))) 2 (.box 35 (.d (.int .i64 110))))):
 B6 P 82 [.ptr 1 [],.ptr 2 []] a (some (.d Y5)) K:=by
 refine B6.EM λ_ f=>?_;refine Q5 hP AO Zf4 Zc7 Zc5 BD.nil ?_;have j:fresh a≠1:=by have:=Xf b;omega
 have k:fresh a≠2:=by have:=Xf c;omega
 simp[cQ,cO,Zbm,Yhq,b,c,i,j,k];have g:AH (AE (fresh a) []) (AG (AG a 1 (.box 29 (.d Lq))) 2 (.box 35 (.d (.int .i64 110))))=true:=Ar _ _ _ _ _ (Ar _ _ _ _ _ (f []) rfl) rfl;have l:AE (fresh a) [] (fresh a)=true:=by simp[AE]
 have e:Xh (AE (fresh a) []) ((fresh a,Ob.box 163 (.d (.agg [])))::AG (AG a 1 (.box 29 (.d Lq))) 2 (.box 35 (.d (.int .i64 110))))=AG (AG a 1 (.box 29 (.d Lq))) 2 (.box 35 (.d (.int .i64 110))):=by
  rw[Xh,BL l,Xe (by simp)]
 exact⟨[],by simp,by rw[e];exact g,by rw[e];exact h⟩
omit hP
structure Ah.P6(y:Ah):Prop where
 Al:y.Al.length<=1000000
 Au:y.Au.length<=1000000
 AD:y.AD.length<=1000000
 AK:y.AK.length<=1000000
 AQ:y.AQ.length<=1000000
 AN:y.AN.length<=1000000
 AL:∀x∈y.AD,x.AL.length<=1000000
 Aj:∀x∈y.AD,x.Aj.length<=1000000
 names:∀x∈y.AD,∀d∈x.Aj,d.names.length<=1000000000000
 AW:∀x∈y.AK,x.AW.length<=1000000
 Ak:∀x∈y.AK,x.Ak.length<=1000000
 BK:∀x∈y.AK,x.BK.length<=1000000
 Ap:∀x∈y.AQ,x.Ap.length<=1000000
 CW:∀x∈y.AN,x.CW.length<=1000000
def G2(x:AI):V:=.d (Kd x)
def MJ(x:AI):V:=.d x.enc
def GG(x:Ai):V:=.d x.enc
def F8(x:Ag):V:=.d x.enc
def GF(x:AR):V:=.d x.enc
def Rg:Ah:=⟨[],[],[],[],[],[]⟩
def Xwq:D.le Lq Rg.enc:=by
 show D.le _ (.agg [Xg [],.AF 5 [],.AF 6 [],.AF 5 [],.AF 5 [],.AF 3 []]);exact D.le.agg (Bq.cons (D.le.nil 1) (Bq.cons (D.le.nil 5) (Bq.cons (D.le.nil 6) (Bq.cons (D.le.nil 5) (Bq.cons (D.le.nil 5) (Bq.cons (D.le.nil 3) Bq.nil))))))
def Hv(y:Ah):Ah×Int:=if PI y then (Rg,111) else match W7 y with
|some z=>(z,0)
|none=>(Rg,110)
def rq{b:Type}{f:List b->b->Option b}:∀{l a r:List b},DB f a l=some r->r.length=a.length+l.length
|[],a,r,h=>by cases h;simp
|x::l,a,r,h=>by
 simp only[DB]at h;obtain⟨z,_,c⟩:=H7.1 h;have:=rq c;simp at this⊢;omega
include hP
theorem Ysq:Xd P.p 82=true:=by rw[hP];kernel_rfl
theorem Xyp{xs:List D}(b:∀x∈xs,x.sz=1)(c:xs.length<=1000000){a:AB}{K:V->AB->Prop}(h:K (.sl (fresh a) xs.length) ((fresh a,.Ao 9 1 (xs.map .d))::a)):CD P 83 [.d (.AF 1 xs)] a K:=
 qN (ds:=[.AF 1 xs]) (Zs hP AO Zbw b (by omega) ⟨rfl,rfl⟩) h
theorem Xsr{xs:List D}(b:∀x∈xs,x.sz=5)(c:xs.length<=1000000){a:AB}{K:V->AB->Prop}(h:K (.sl (fresh a) xs.length) ((fresh a,.Ao 88 5 (xs.map .d))::a)):CD P 84 [.d (.AF 5 xs)] a K:=
 qN (ds:=[.AF 5 xs]) (Zs hP AO Zbx b (by omega) ⟨rfl,rfl⟩) h
theorem Xlp{xs:List D}(b:∀x∈xs,x.sz=6)(c:xs.length<=1000000){a:AB}{K:V->AB->Prop}(h:K (.sl (fresh a) xs.length) ((fresh a,.Ao 54 6 (xs.map .d))::a)):CD P 85 [.d (.AF 6 xs)] a K:=
 qN (ds:=[.AF 6 xs]) (Zs hP AO Zby b (by omega) ⟨rfl,rfl⟩) h
theorem Xsq{xs:List D}(b:∀x∈xs,x.sz=5)(c:xs.length<=1000000){a:AB}{K:V->AB->Prop}(h:K (.sl (fresh a) xs.length) ((fresh a,.Ao 45 5 (xs.map .d))::a)):CD P 86 [.d (.AF 5 xs)] a K:=
 qN (ds:=[.AF 5 xs]) (Zs hP AO Zbz b (by omega) ⟨rfl,rfl⟩) h
theorem Xg5{xs:List D}(b:∀x∈xs,x.sz=5)(c:xs.length<=1000000){a:AB}{K:V->AB->Prop}(h:K (.sl (fresh a) xs.length) ((fresh a,.Ao 66 5 (xs.map .d))::a)):CD P 87 [.d (.AF 5 xs)] a K:=
 qN (ds:=[.AF 5 xs]) (Zs hP AO Zb0 b (by omega) ⟨rfl,rfl⟩) h
theorem Xg6{xs:List D}(b:∀x∈xs,x.sz=3)(c:xs.length<=1000000){a:AB}{K:V->AB->Prop}(h:K (.sl (fresh a) xs.length) ((fresh a,.Ao 77 3 (xs.map .d))::a)):CD P 88 [.d (.AF 3 xs)] a K:=
 qN (ds:=[.AF 3 xs]) (Zs hP AO Zb1 b (by omega) ⟨rfl,rfl⟩) h
theorem X0g{y:Ah}(hy:y.BC)(X:y.P6){be:AB}{K:V->Prop}(h:∀d,D.le d (Hv y).1.enc->K (.BE [.d d,.d (.int .i64 (Hv y).2)])):AU P 41 [.d y.enc] be K:=by
 refine U8 hP AO (ds:=[y.enc]) Znp Zjv BD.nil ?_;have d0:=Ysq hP;have yk:(V.d y.enc).BM=some [.d (Xg y.Al),.d (.AF 5 (y.Au.map At.enc)),.d (.AF 6 (y.AD.map AI.enc)),.d (.AF 5 (y.AK.map Ai.enc)),.d (.AF 5 (y.AQ.map Ag.enc)),.d (.AF 3 (y.AN.map AR.enc))]:=rfl;have ys:y.enc.shape.size=6:=by rw[CC];rfl
 have yz:y.enc.sz=6:=rfl;simp[Zds,ys,yz];refine⟨rfl,X9l hP hy X.AD ?_⟩;obtain⟨k,hk⟩:∃k,k=y.AD.length:=⟨_,rfl⟩
 have b1:∀L J H,AA (Y8 y k L J H) 1=some J:=λ_ _ _=>by unfold Y8 Wp Ep;split<;>simp[AA]
 have b2:∀L J H,AA (Y8 y k L J H) 2=some L:=λ_ _ _=>by unfold Y8 Wp Ep;split<;>simp[AA]
 have b0:∀L J H,AA (Y8 y k L J H) 0=some H:=λ_ _ _=>by unfold Y8 Wp Ep;split<;>simp[AA]
 have t1:∀L J H x,AG (Y8 y k L J H) 1 x=Y8 y k L x H:=λ_ _ _ _=>by unfold Y8 Wp Ep;split<;>simp[AG]
 have t2:∀L J H x,AG (Y8 y k L J H) 2 x=Y8 y k x J H:=λ_ _ _ _=>by unfold Y8 Wp Ep;split<;>simp[AG]
 rw[<-hk];by_cases aa:PI y=true
 ·have hq:Hv y=(Rg,111):=by rw[Hv,BL aa]
  rw[hq]at h;simp[aa,b1,b2,t1,t2];exact h _ Xwq
 ·simp only[Bool.not_eq_true]at aa;have bc:W7 y=none->Hv y=(Rg,110):=λe=>by rw[Hv,aa,e];rfl
  have bd:∀z,W7 y=some z->Hv y=(z,0):=λz e=>by rw[Hv,aa,e];rfl
  obtain⟨F,hF⟩:∃F,F=if k=0 then 9 else 11+2*k:=⟨_,rfl⟩
  have bb:∀r∈y.AK,(r.AW.map Am.name).Nodup:=λr hr=>by
   simp only[PI,Bool.not_eq_false',As,DQ,Bs]at aa;exact aa.2 r hr
  have gf:∀L J H,fresh (Y8 y k L J H)=F:=λL J H=>by rw[hF];exact T3
  have F9:9<=F:=by rw[hF];split<;>omega
  have fn:∀n,n<=8->(F=n)=False:=λn hn=>eq_false (by omega);have ad:∀n,n<=8->(F+1=n)=False:=λn hn=>eq_false (by omega);have ae:∀n,n<=8->(F+2=n)=False:=λn hn=>eq_false (by omega);have af:∀n,n<=8->(F+3=n)=False:=λn hn=>eq_false (by omega);have ag:∀n,n<=8->(F+4=n)=False:=λn hn=>eq_false (by omega);have ah:∀n,n<=8->(F+5=n)=False:=λn hn=>eq_false (by omega);simp[aa,d0,b0,b1,b2,t1,t2,yk];refine⟨rfl,Xyp hP (xs:=y.Al.map .AM) (by intro x hx;obtain⟨r,_,rfl⟩:=C9.1 hx;rfl) (by simpa using X.Al) ?_⟩;rw[gf];refine Xsr hP (xs:=y.Au.map At.enc) (by intro x hx;obtain⟨r,_,rfl⟩:=C9.1 hx;rfl) (by simpa using X.Au) ?_;have f1:∀o L J H,fresh ((F,o)::Y8 y k L J H)=F+1:=λo L J H=>by simp[gf]
  rw[f1];refine Xlp hP (xs:=y.AD.map AI.enc) (by intro x hx;obtain⟨r,_,rfl⟩:=C9.1 hx;rfl) (by simpa using X.AD) ?_;have f2:∀a o L J H,fresh ((F+1,a)::(F,o)::Y8 y k L J H)=F+2:=λa o L J H=>by simp[f1]
  rw[f2];refine Xsq hP (xs:=y.AK.map Ai.enc) (by intro x hx;obtain⟨r,_,rfl⟩:=C9.1 hx;rfl) (by simpa using X.AK) ?_;have f3:∀b a o L J H,fresh ((F+2,b)::(F+1,a)::(F,o)::Y8 y k L J H)=F+3:=λb a o L J H=>by simp[f2]
  rw[f3];refine Xg5 hP (xs:=y.AQ.map Ag.enc) (by intro x hx;obtain⟨r,_,rfl⟩:=C9.1 hx;rfl) (by simpa using X.AQ) ?_;have f4:∀c b a o L J H,fresh ((F+3,c)::(F+2,b)::(F+1,a)::(F,o)::Y8 y k L J H)=F+4:=λc b a o L J H=>by simp[f3]
  rw[f4];refine Xg6 hP (xs:=y.AN.map AR.enc) (by intro x hx;obtain⟨r,_,rfl⟩:=C9.1 hx;rfl) (by simpa using X.AN) ?_;have f5:∀d c b a o L J H,fresh ((F+4,d)::(F+3,c)::(F+2,b)::(F+1,a)::(F,o)::Y8 y k L J H)=F+5:=λd c b a o L J H=>by simp[f4]
  have f6:∀e d c b a o L J H,fresh ((F+5,e)::(F+4,d)::(F+3,c)::(F+2,b)::(F+1,a)::(F,o)::Y8 y k L J H)=F+6:=λe d c b a o L J H=>by simp[f5]
  rw[f5];let W:V:=.agg [.sl F y.Al.length,.sl (F+1) y.Au.length,.sl (F+2) y.AD.length,.sl (F+3) y.AK.length,.sl (F+4) y.AQ.length,.sl (F+5) y.AN.length];let B:List V->List V->List V->List V->List V->AB:=λw m s t v=>(F+5,.Ao 77 3 v)::(F+4,.Ao 66 5 t)::(F+3,.Ao 45 5 s)::(F+2,.Ao 54 6 m)::(F+1,.Ao 88 5 w)::(F,.Ao 9 1 (y.Al.map λx=>V.d (.AM x)))::Y8 y k (.box 35 (.d (.int .i64 0))) (.box 29 W) (.box 29 (.d y.enc));simp[fn,ad,ae,af,ag,ah,b0,b1,b2,t1,t2,DZ,Bt,Zf,AA,AG];have cU:∀w m s t v,AA (B w m s t v) (F+1)=some (.Ao 88 5 w):=λ_ _ _ _ _=>by simp[B,AA]
  have cS:∀w m s t v,AA (B w m s t v) (F+2)=some (.Ao 54 6 m):=λ_ _ _ _ _=>by simp[B,AA]
  have cR:∀w m s t v,AA (B w m s t v) (F+3)=some (.Ao 45 5 s):=λ_ _ _ _ _=>by simp[B,AA]
  have cC:∀w m s t v,AA (B w m s t v) (F+4)=some (.Ao 66 5 t):=λ_ _ _ _ _=>by simp[B,AA]
  have cP:∀w m s t v,AA (B w m s t v) (F+5)=some (.Ao 77 3 v):=λ_ _ _ _ _=>by simp[B,AA]
  have cI:∀w m s t v,AA (B w m s t v) F=some (.Ao 9 1 (y.Al.map λx=>V.d (.AM x))):=λ_ _ _ _ _=>by simp[B,AA]
  have c1:∀w m s t v,AA (B w m s t v) 1=some (.box 29 W):=λ_ _ _ _ _=>by simp[B,AA,fn,ad,ae,af,ag,ah,b1]
  have c2:∀w m s t v,AA (B w m s t v) 2=some (.box 35 (.d (.int .i64 0))):=λ_ _ _ _ _=>by simp[B,AA,fn,ad,ae,af,ag,ah,b2]
  have sU:∀w m s t v x,AG (B w m s t v) (F+1) (.Ao 88 5 x)=B x m s t v:=λ_ _ _ _ _ _=>by simp[B,AG]
  have sS:∀w m s t v x,AG (B w m s t v) (F+2) (.Ao 54 6 x)=B w x s t v:=λ_ _ _ _ _ _=>by simp[B,AG]
  have sR:∀w m s t v x,AG (B w m s t v) (F+3) (.Ao 45 5 x)=B w m x t v:=λ_ _ _ _ _ _=>by simp[B,AG]
  have sC:∀w m s t v x,AG (B w m s t v) (F+4) (.Ao 66 5 x)=B w m s x v:=λ_ _ _ _ _ _=>by simp[B,AG]
  have sP:∀w m s t v x,AG (B w m s t v) (F+5) (.Ao 77 3 x)=B w m s t x:=λ_ _ _ _ _ _=>by simp[B,AG]
  have Q:∀w m s t v,RC y (B w m s t v):=λw m s t v=>by
   have h0:RC y (Y8 y k (.box 35 (.d (.int .i64 0))) (.box 29 W) (.box 29 (.d y.enc))):=by rw[hk];exact HW
   have h1:=h0.cons (.Ao 9 1 (y.Al.map λx=>V.d (.AM x)));rw[gf]at h1;have h2:=h1.cons (.Ao 88 5 w);rw[f1]at h2;have h3:=h2.cons (.Ao 54 6 m);rw[f2]at h3;have h4:=h3.cons (.Ao 45 5 s);rw[f3]at h4;have h5:=h4.cons (.Ao 66 5 t);rw[f4]at h5;have h6:=h5.cons (.Ao 77 3 v);rw[f5]at h6;exact h6
  have O:∀w m s t v,fresh (B w m s t v)=F+6:=λ_ _ _ _ _=>f6 _ _ _ _ _ _ _ _ _;have hD:∀w m s t v,Xh (AE (F+6) []) (B w m s t v)=B w m s t v:=λw m s t v=>Xe (by rw[O];exact BV _);have hN:∀w m s t v,(∀p,BO p w=false)->(∀p,BO p m=false)->(∀p,BO p s=false)->(∀p,BO p t=false)->(∀p,BO p v=false)->AH (AE (F+6) []) (B w m s t v)=true:=λw m s t v m1 m2 m3 m4 m5=>by
   have yF:∀j,j<F+6->AE (F+6) [] j=false:=λj hj=>by simp[AE];omega
   have mi:BO (AE (F+6) []) (y.Al.map λx=>V.d (.AM x))=false:=Xw (λx=>D.AM x) _;have M:AH (AE (F+6) []) (Y8 y k (.box 35 (.d (.int .i64 0))) (.box 29 W) (.box 29 (.d y.enc)))=true:=by
    refine Qt ?_ (yF _ (by omega)) (yF _ (by omega)) (yF _ (by omega)) (λba=>yF _ (by rw[hF,Af ba];omega)) (λi hi=>yF _ (by rw[hF,Af (by omega)];unfold Vj;split<;>omega));simp[AH,W,V.BJ,BO,yF F (by omega),yF (F+1) (by omega),yF (F+2) (by omega),yF (F+3) (by omega),yF (F+4) (by omega),yF (F+5) (by omega)]
   simp only[B,AH,m1,m2,m3,m4,m5,mi,M,Bool.not_false,EA]
  have ac:W7 y=none->∀U,AA U 1=some (.box 29 W)->AA U 2=some (.box 35 (.d (.int .i64 0)))->K2 P 82 [.ptr 1 [],.ptr 2 []] [RV.c 2 6 true,RV.c 3 1 false] K (.panic (.d Y5)) [(2,.ptr 1 []),(3,.ptr 2 [])] U:=λe U h1 h2=>by
   rw[bc e]at h;simp;refine Y2g hP h1 rfl h2 ?_;have z1:AA (AG (AG U 1 (.box 29 (.d Lq))) 2 (.box 35 (.d (.int .i64 110)))) 1=some (.box 29 (.d Lq)):=by simp[h1,h2]
   have z2:AA (AG (AG U 1 (.box 29 (.d Lq))) 2 (.box 35 (.d (.int .i64 110)))) 2=some (.box 35 (.d (.int .i64 110))):=by simp[h1,h2]
   simp[z1,z2];exact h _ Xwq
  have me:∀{α:Type}(f:α->D)(l:List α),∀p,BO p (l.map λx=>V.d (f x))=false:=λf l p=>Xw f l;have bl:y.AD.length=k:=hk.symm;show AV _ _ _ (B (y.Au.map EN) (y.AD.map (V.d∘AI.enc)) (y.AK.map (V.d∘Ai.enc)) (y.AQ.map (V.d∘Ag.enc)) (y.AN.map (V.d∘AR.enc))) _;refine Yhz hP (n:=k) (names:=y.Au.map At.name) X.Au (by rw[hk];exact(Q _ _ _ _ _).o4) (Q _ _ _ _ _).o6 (cU _ _ _ _ _) (λw a2=>?_) (λe ws=>?_)
  ·rw[sU];have rR:W7 y=(Ju y.AD (V4 y.Al (y.Au.map At.name))).bind λm=>(Ju y.AK (Ji y.AD)).bind λs=>(Ju y.AQ (Zc y.AD)).bind λt=>(Ju y.AN (W5 y.AD)).map λv=>{y with Au:=w,AD:=m,AK:=s,AQ:=t,AN:=v}:=by rw[W7,a2,Option.bind_some]
   simp[c1,c2,cS,W];refine⟨⟨_,_,_,⟨rfl,rfl,rfl⟩,by simp⟩,?_⟩;show Ae _ _ _ _ (B (w.map EN) (y.AD.map MJ) (y.AK.map GG) (y.AQ.map F8) (y.AN.map GF));have mU:∀p,BO p (w.map EN)=false:=me At.enc _;have mR:∀(l:List Ai) p,BO p (l.map GG)=false:=λl=>me Ai.enc l;have mC:∀(l:List Ag) p,BO p (l.map F8)=false:=λl=>me Ag.enc l;have mP:∀(l:List AR) p,BO p (l.map GF)=false:=λl=>me AR.enc l;have ap:∀p (a b:List V),BO p (a++b)=(BO p a||BO p b):=λp a b=>by
    induction a with
    |nil=>simp[BO]
    |cons x r ih=>simp[BO,ih,Bool.or_assoc]
   have mS:∀(a b:List AI) p,BO p (a.map G2++b.map MJ)=false:=λa b p=>by
    rw[ap,FC];exact⟨me Kd a p,me AI.enc b p⟩
   refine Ae.go (ι:=List AI) (λd=>[(2,.ptr 1 []),(3,.ptr 2 []),(4,.ptr 4 []),(43,.d (.int .i64 y.AD.length)),(44,.d (.int .i64 d.length))])
    (λd=>B (w.map EN) (d.map G2++(y.AD.drop d.length).map MJ) (y.AK.map GG) (y.AQ.map F8) (y.AN.map GF)) (λd=>d.length<=y.AD.length/\Ju y.AD (V4 y.Al (y.Au.map At.name))=DB (λ_=>V4 y.Al (y.Au.map At.name)) d (y.AD.drop d.length)) (λd=>y.AD.length-d.length) [] ⟨by simp,rfl⟩ (by simp) (by simp) ?_
   rintro m ⟨hd,M⟩ R rn re rr rp;have ai:=X.AD;by_cases G:m.length<y.AD.length
   ·have wr:IntKind.i64.wrap ((m.length:Int)+1)=(m.length:Int)+1:=w_i _ (by omega);have wl:=rJ G2 MJ hd;have Z:=rH G2 MJ G;have ws:=rM G2 MJ G;rw[Db G,Zd]at M;have hm:=CS G;have au:D0 y.AD m.length=y.AD[m.length].AL.map Ad.name:=by simp[D0,G]
    generalize hu:y.AD[m.length]=u at M Z hm au;have T:=mS m (y.AD.drop m.length);generalize al:m.map G2++(y.AD.drop m.length).map MJ=gs at wl Z ws T;have av:y.AD.length≠0:=by omega
    have c4:=λw m s t v=>(Q w m s t v).o4;have a7:=λw m s t v=>(Q w m s t v).QC av;simp[Xze,G,c1,cS,c4,a7,W,wl,HJ,av,Wm,Vg,Z];refine⟨rfl,Xz4 hP (X.AL _ hm) (X.Aj _ hm) (X.names _ hm) (Q _ _ _ _ _) (cS _ _ _ _ _) wl (by rw[Cn (by omega),Z];rfl) T ⟨by omega,by omega⟩ (by rw[<-au];exact(Q _ _ _ _ _).om _ G) (λq hq=>?_) (λe U e1 e2=>?_)⟩
    ·rw[sS];rw[hq,Option.bind_some]at M;have e1:gs.set m.length (.d (Kd q))=(m++[q]).map G2++(y.AD.drop (m++[q]).length).map MJ:=ws q;rw[e1];refine rn [] (m++[q]) _ _ ⟨by simp;omega,by rw[M,DV];rfl⟩ (by simp;omega) (by simp[wr]) ?_ ?_ ?_
     ·rw[O];exact hD _ _ _ _ _
     ·rw[O];simp[AE]
     ·rw[O];exact hN _ _ _ _ _ mU (mS _ _) (mR _) (mC _) (mP _)
    ·refine rp _ _ _ ?_;exact ac (by rw[rR,M,e];rfl) _ (by rw[e1,c1]) (by rw[e2,c2])
   ·have N:m.length=y.AD.length:=by omega
    rw[N,List.drop_length,DB]at M;simp[Xze,G];refine re _ _ _ ?_;have e0:(y.AD.map MJ).drop m.length=[]:=Gj (by simp[N]);rw[e0,GL];rw[M,Option.bind_some]at rR;have an:∀p,BO p (m.map G2)=false:=me Kd _;have bh:(m.map G2).length=y.AD.length:=by simpa using N
    simp[c1,c2,cR,W];refine⟨⟨_,_,_,⟨rfl,rfl,rfl⟩,by simp⟩,?_⟩;show Ae _ _ _ _ (B (w.map EN) (m.map G2) (y.AK.map GG) (y.AQ.map F8) (y.AN.map GF));refine Ae.go (λd=>[(2,.ptr 1 []),(3,.ptr 2 []),(4,.ptr 4 []),(63,.d (.int .i64 y.AK.length)),(64,.d (.int .i64 d.length))])
     (λd=>B (w.map EN) (m.map G2) ((d++y.AK.drop d.length).map GG) (y.AQ.map F8) (y.AN.map GF)) (λd=>d.length<=y.AK.length/\Ju y.AK (Ji y.AD)=DB (λ_=>Ji y.AD) d (y.AK.drop d.length)) (λd=>y.AK.length-d.length) [] ⟨by simp,rfl⟩ (by simp) (by simp) ?_
    rintro s ⟨hd,M⟩ R rn re rr rp;have wl:((s++y.AK.drop s.length).map GG).length=y.AK.length:=by simp;omega
    have ai:=X.AK;by_cases G:s.length<y.AK.length
    ·have wr:IntKind.i64.wrap ((s.length:Int)+1)=(s.length:Int)+1:=w_i _ (by omega);have Z:=Jp GG G;have ws:=Jq GG G;rw[Db G,Zd]at M;have hm:=CS G;generalize hu:y.AK[s.length]=u at M Z hm;have T:∀p,BO p ((s++y.AK.drop s.length).map GG)=false:=mR _;generalize al:(s++y.AK.drop s.length).map GG=gs at wl Z ws T;have c4:=λw m s t v=>(Q w m s t v).o4;simp[Xzd,G,c1,cR,c4,W,wl,Z];refine⟨rfl,Yhy hP (X.AW _ hm) (X.Ak _ hm) (X.BK _ hm) (bb _ hm) (Q _ _ _ _ _) (cR _ _ _ _ _) wl (by rw[Cn (by omega),Z];rfl) T ⟨by omega,by omega⟩ (λq hq=>?_) (λe U e1 e2=>?_)⟩
     ·rw[sR];rw[hq,Option.bind_some]at M;have e1:gs.set s.length (.d q.enc)=((s++[q])++y.AK.drop (s++[q]).length).map GG:=ws q;rw[e1];refine rn [] (s++[q]) _ _ ⟨by simp;omega,by rw[M,DV];rfl⟩ (by simp;omega) (by simp[wr]) ?_ ?_ ?_
      ·rw[O];exact hD _ _ _ _ _
      ·rw[O];simp[AE]
      ·rw[O];exact hN _ _ _ _ _ mU an (mR _) (mC _) (mP _)
     ·refine rp _ _ _ ?_;exact ac (by rw[rR,M,e];rfl) _ (by rw[e1,c1]) (by rw[e2,c2])
    ·have N:s.length=y.AK.length:=by omega
     rw[N,List.drop_length,DB]at M;simp[Xzd,G];refine re _ _ _ ?_;have e0:(y.AK.map GG).drop s.length=[]:=Gj (by simp[N]);rw[e0,GL];rw[M,Option.bind_some]at rR;have a4:(s.map GG).length=y.AK.length:=by simpa using N
     simp[c1,c2,cC,W];refine⟨⟨_,_,_,⟨rfl,rfl,rfl⟩,by simp⟩,?_⟩;show Ae _ _ _ _ (B (w.map EN) (m.map G2) (s.map GG) (y.AQ.map F8) (y.AN.map GF));refine Ae.go (λd=>[(2,.ptr 1 []),(3,.ptr 2 []),(4,.ptr 4 []),(76,.d (.int .i64 y.AQ.length)),(77,.d (.int .i64 d.length))])
      (λd=>B (w.map EN) (m.map G2) (s.map GG) ((d++y.AQ.drop d.length).map F8) (y.AN.map GF)) (λd=>d.length<=y.AQ.length/\Ju y.AQ (Zc y.AD)=DB (λ_=>Zc y.AD) d (y.AQ.drop d.length)) (λd=>y.AQ.length-d.length) [] ⟨by simp,rfl⟩ (by simp) (by simp) ?_
     rintro t ⟨hd,M⟩ R rn re rr rp;have wl:((t++y.AQ.drop t.length).map F8).length=y.AQ.length:=by simp;omega
     have ai:=X.AQ;by_cases G:t.length<y.AQ.length
     ·have wr:IntKind.i64.wrap ((t.length:Int)+1)=(t.length:Int)+1:=w_i _ (by omega);have Z:=Jp F8 G;have ws:=Jq F8 G;rw[Db G,Zd]at M;have hm:=CS G;generalize hu:y.AQ[t.length]=u at M Z hm;have T:∀p,BO p ((t++y.AQ.drop t.length).map F8)=false:=mC _;generalize al:(t++y.AQ.drop t.length).map F8=gs at wl Z ws T;have c4:=λw m s t v=>(Q w m s t v).o4;simp[Xzc,G,c1,cC,c4,W,wl,Z];refine⟨rfl,Xwv hP (X.Ap _ hm) (Q _ _ _ _ _) (cC _ _ _ _ _) wl (by rw[Cn (by omega),Z];rfl) T ⟨by omega,by omega⟩ (λq hq=>?_) (λe U e1 e2=>?_)⟩
      ·rw[sC];rw[hq,Option.bind_some]at M;have e1:gs.set t.length (.d q.enc)=((t++[q])++y.AQ.drop (t++[q]).length).map F8:=ws q;rw[e1];refine rn [] (t++[q]) _ _ ⟨by simp;omega,by rw[M,DV];rfl⟩ (by simp;omega) (by simp[wr]) ?_ ?_ ?_
       ·rw[O];exact hD _ _ _ _ _
       ·rw[O];simp[AE]
       ·rw[O];exact hN _ _ _ _ _ mU an (mR _) (mC _) (mP _)
      ·refine rp _ _ _ ?_;exact ac (by rw[rR,M,e];rfl) _ (by rw[e1,c1]) (by rw[e2,c2])
     ·have N:t.length=y.AQ.length:=by omega
      rw[N,List.drop_length,DB]at M;simp[Xzc,G];refine re _ _ _ ?_;have e0:(y.AQ.map F8).drop t.length=[]:=Gj (by simp[N]);rw[e0,GL];rw[M,Option.bind_some]at rR;have aq:(t.map F8).length=y.AQ.length:=by simpa using N
      simp[c1,c2,cP,W];refine⟨⟨_,_,_,⟨rfl,rfl,rfl⟩,by simp⟩,?_⟩;show Ae _ _ _ _ (B (w.map EN) (m.map G2) (s.map GG) (t.map F8) (y.AN.map GF));refine Ae.go (λd=>[(2,.ptr 1 []),(3,.ptr 2 []),(4,.ptr 4 []),(89,.d (.int .i64 y.AN.length)),(90,.d (.int .i64 d.length))])
       (λd=>B (w.map EN) (m.map G2) (s.map GG) (t.map F8) ((d++y.AN.drop d.length).map GF)) (λd=>d.length<=y.AN.length/\Ju y.AN (W5 y.AD)=DB (λ_=>W5 y.AD) d (y.AN.drop d.length)) (λd=>y.AN.length-d.length) [] ⟨by simp,rfl⟩ (by simp) (by simp) ?_
      rintro v ⟨hd,M⟩ R rn re rr rp;have wl:((v++y.AN.drop v.length).map GF).length=y.AN.length:=by simp;omega
      have ai:=X.AN;by_cases G:v.length<y.AN.length
      ·have wr:IntKind.i64.wrap ((v.length:Int)+1)=(v.length:Int)+1:=w_i _ (by omega);have Z:=Jp GF G;have ws:=Jq GF G;rw[Db G,Zd]at M;have hm:=CS G;generalize hu:y.AN[v.length]=u at M Z hm;have T:∀p,BO p ((v++y.AN.drop v.length).map GF)=false:=mP _;generalize al:(v++y.AN.drop v.length).map GF=gs at wl Z ws T;have c4:=λw m s t v=>(Q w m s t v).o4;simp[Xzb,G,c1,cP,c4,W,wl,Z];refine⟨rfl,Xww hP (X.CW _ hm) (Q _ _ _ _ _) (cP _ _ _ _ _) wl (by rw[Cn (by omega),Z];rfl) T ⟨by omega,by omega⟩ (λq hq=>?_) (λe U e1 e2=>?_)⟩
       ·rw[sP];rw[hq,Option.bind_some]at M;have e1:gs.set v.length (.d q.enc)=((v++[q])++y.AN.drop (v++[q]).length).map GF:=ws q;rw[e1];refine rn [] (v++[q]) _ _ ⟨by simp;omega,by rw[M,DV];rfl⟩ (by simp;omega) (by simp[wr]) ?_ ?_ ?_
        ·rw[O];exact hD _ _ _ _ _
        ·rw[O];simp[AE]
        ·rw[O];exact hN _ _ _ _ _ mU an (mR _) (mC _) (mP _)
       ·refine rp _ _ _ ?_;exact ac (by rw[rR,M,e];rfl) _ (by rw[e1,c1]) (by rw[e2,c2])
      ·have N:v.length=y.AN.length:=by omega
       rw[N,List.drop_length,DB]at M;simp[Xzb,G];refine re _ _ _ ?_;have e0:(y.AN.map GF).drop v.length=[]:=Gj (by simp[N]);rw[e0,GL];rw[M,Option.map_some]at rR;have a3:(v.map GF).length=y.AN.length:=by simpa using N
       simp[c1,c2,W];have hz:=h;rw[bd _ rR]at hz;have a6:w.length=y.Au.length:=by
        have:=rq a2;simpa using this
       have bi:m.length=y.AD.length:=by simpa using bh
       have bg:s.length=y.AK.length:=by simpa using a4
       have a8:t.length=y.AQ.length:=by simpa using aq
       have bf:v.length=y.AN.length:=by simpa using a3
       obtain⟨H,Y⟩:∃H,H=B (w.map EN) (m.map G2) (s.map GG) (t.map F8) (v.map GF):=⟨_,rfl⟩
       rw[<-Y];have l0:AA H F=some (.Ao 9 1 (y.Al.map λx=>V.d (.AM x))):=by rw[Y,cI]
       have l1:AA H (F+1)=some (.Ao 88 5 (w.map λx=>V.d x.enc)):=by rw[Y,cU];rfl
       have l2:AA H (F+2)=some (.Ao 54 6 (m.map λx=>V.d (Kd x))):=by rw[Y,cS];rfl
       have l3:AA H (F+3)=some (.Ao 45 5 (s.map λx=>V.d x.enc)):=by rw[Y,cR];rfl
       have l4:AA H (F+4)=some (.Ao 66 5 (t.map λx=>V.d x.enc)):=by rw[Y,cC];rfl
       have l5:AA H (F+5)=some (.Ao 77 3 (v.map λx=>V.d x.enc)):=by rw[Y,cP];rfl
       have w1:AA H 1=some (.box 29 W):=by rw[Y,c1]
       have w2:AA H 2=some (.box 35 (.d (.int .i64 0))):=by rw[Y,c2]
       obtain⟨J,aw⟩:∃J,J=AG H F .AY:=⟨_,rfl⟩
       have s1:∀j,j≠F->AA J j=AA H j:=λj hj=>by rw[aw,Xc H F j ⟨_,l0⟩,Af hj]
       obtain⟨L,ax⟩:∃L,L=AG J (F+1) .AY:=⟨_,rfl⟩
       have m1:AA J (F+1)=_:=(s1 _ (by omega)).trans l1;have s2:∀j,j≠F->j≠F+1->AA L j=AA H j:=λj h0 h1=>by rw[ax,Xc J (F+1) j ⟨_,m1⟩,Af h1,s1 j h0]
       obtain⟨o3,ay⟩:∃o3,o3=AG L (F+2) .AY:=⟨_,rfl⟩
       have m2:AA L (F+2)=_:=(s2 _ (by omega) (by omega)).trans l2;have s3:∀j,j≠F->j≠F+1->j≠F+2->AA o3 j=AA H j:=λj h0 h1 h2=>by rw[ay,Xc L (F+2) j ⟨_,m2⟩,Af h2,s2 j h0 h1]
       obtain⟨o4,az⟩:∃o4,o4=AG o3 (F+3) .AY:=⟨_,rfl⟩
       have m3:AA o3 (F+3)=_:=(s3 _ (by omega) (by omega) (by omega)).trans l3;have s4:∀j,j≠F->j≠F+1->j≠F+2->j≠F+3->AA o4 j=AA H j:=λj h0 h1 h2 h3=>by rw[az,Xc o3 (F+3) j ⟨_,m3⟩,Af h3,s3 j h0 h1 h2]
       obtain⟨o5,a0⟩:∃o5,o5=AG o4 (F+4) .AY:=⟨_,rfl⟩
       have m4:AA o4 (F+4)=_:=(s4 _ (by omega) (by omega) (by omega) (by omega)).trans l4;have s5:∀j,j≠F->j≠F+1->j≠F+2->j≠F+3->j≠F+4->AA o5 j=AA H j:=λj h0 h1 h2 h3 h4=>by rw[a0,Xc o4 (F+4) j ⟨_,m4⟩,Af h4,s4 j h0 h1 h2 h3]
       obtain⟨o6,a1⟩:∃o6,o6=AG o5 (F+5) .AY:=⟨_,rfl⟩
       have m5:AA o5 (F+5)=_:=(s5 _ (by omega) (by omega) (by omega) (by omega) (by omega)).trans l5;have s6:∀j,j<F->AA o6 j=AA H j:=λj hj=>by rw[a1,Xc o5 (F+5) j ⟨_,m5⟩,Af (by omega),s5 j (by omega) (by omega) (by omega) (by omega) (by omega)]
       obtain⟨dd,ab⟩:∃dd,dd=D.agg [.AF 1 (y.Al.map D.AM),.AF 5 (w.map At.enc),.AF 6 (m.map Kd),.AF 5 (s.map Ai.enc),.AF 5 (t.map Ag.enc),.AF 3 (v.map AR.enc)]:=⟨_,rfl⟩
       have g:Ct 40000 H W=some (dd,o6):=by
        show FF (Ej (Ct 39999) H _)=_;simp only[Ej,ID (k:=39997) (n:=y.Al.length) D.AM l0 (by decide) rfl,<-aw,ID (k:=39997) (n:=y.Au.length) At.enc m1 (by decide) a6.symm,<-ax,ID (k:=39997) (n:=y.AD.length) Kd m2 (by decide) bi.symm,<-ay,ID (k:=39997) (n:=y.AK.length) Ai.enc m3 (by decide) bg.symm,<-az,ID (k:=39997) (n:=y.AQ.length) Ag.enc m4 (by decide) a8.symm,<-a0,ID (k:=39997) (n:=y.AN.length) AR.enc m5 (by decide) bf.symm,<-a1,Uq,FF,ab]
       have a9:Cj H 1 []=some W:=by simp[Cj,w1]
       have ao:AA o6 1=some (.box 29 W):=by rw[s6 1 (by omega),w1]
       have bj:AA o6 2=some (.box 35 (.d (.int .i64 0))):=by rw[s6 2 (by omega),w2]
       have sh:dd.shape=W.shape:=by rw[ab];rfl
       simp only[I.wp];show Mr 6 true H _ (.ptr 1 []);simp only[Mr,a9,PY,g,PX,ao,Re];refine⟨rfl,rfl,sh,.d dd,by simp,?_⟩;obtain⟨o7,aj⟩:∃o7,o7=AG o6 1 (.box 29 (.d dd)):=⟨_,rfl⟩
       rw[<-aj];have x1:AA o7 1=some (.box 29 (.d dd)):=by rw[aj,Xc o6 1 1 ⟨_,ao⟩,BL rfl]
       have x2:AA o7 2=some (.box 35 (.d (.int .i64 0))):=by rw[aj,Xc o6 1 2 ⟨_,ao⟩,Af (by omega),bj]
       have a5:dd.shape=.node [.AX,.AX,.AX,.AX,.AX,.AX]:=by rw[ab];rfl
       have bk:(V.d dd).isAgg=true:=by rw[ab];rfl
       simp[x1,x2,a5];obtain⟨o8,ak⟩:∃o8,o8=AG (AG o7 1 (.box 29 (.d dd))) 2 (.box 35 (.d (.int .i64 0))):=⟨_,rfl⟩
       have y1:AA o8 1=some (.box 29 (.d dd)):=by rw[ak];simp[x1,x2]
       have y2:AA o8 2=some (.box 35 (.d (.int .i64 0))):=by rw[ak];simp[x1,x2]
       rw[<-ak];refine Y2h hP ?_;simp[y1,y2,a5];refine⟨by rw[ab],hz _ ?_⟩;rw[ab];show D.le _ (.agg [Xg y.Al,.AF 5 (w.map At.enc),.AF 6 (m.map AI.enc),.AF 5 (s.map Ai.enc),.AF 5 (t.map Ag.enc),.AF 3 (v.map AR.enc)]);exact D.le.agg (Bq.cons (D.le.refl _) (Bq.cons (D.le.refl _) (Bq.cons (D.le.AF (Bq.map λx _=>Zba x)) (Bq.cons (D.le.refl _) (Bq.cons (D.le.refl _) (Bq.cons (D.le.refl _) Bq.nil))))))
  ·rw[sU];exact ac (by rw[W7,e];rfl) _ (c1 _ _ _ _ _) (c2 _ _ _ _ _)
omit hP
deriving instance DecidableEq for BG,Am,BB,Ba,Ai,A8,Ag,CM,AR,At,A4,Ad,Ax,AI,Ah
def rf:KT:=.st [.AM,.AM,.int .i64,.int .i64,.int .i64]
def rX:KT:=.st [.AM,.AM,.int .i64,.st [.AM,.AM,.int .i64,.int .i64,.int .i64]]
def rW:KT:=.st [.int .i64,.st [.AM,.AM,.int .i64,.int .i64,.int .i64],.st [.AM,.AM,.int .i64,.int .i64,.int .i64]]
def Yeq:KT:=.st [.AM,.int .i64,.st [.AM,.AM,.int .i64,.int .i64,.int .i64]]
def ra:KT:=.st [.AM,.AM,.int .i64,.int .i64,.int .i64]
def Yep:KT:=.st [.AM,.AM,.int .i64,.int .i64]
mutual
def UB:∀x:D,D.Bg x x=true
|.int k a=>by simp[D.Bg]
|.bool a=>by simp[D.Bg]
|.AM a=>by simp[D.Bg]
|.AT=>rfl
|.AF z a=>by simp[D.Bg,Qq a]
|.agg a=>by simp[D.Bg,Qq a]
|.Bo=>rfl
|.B1=>rfl
|.Bl=>rfl
|.B0=>rfl
|.Bd a=>by simp[D.Bg,UB a]
|.iface t a=>by simp[D.Bg,UB a]
|.fn f a b=>by simp[D.Bg,Qq a,Qq b]
def Qq:∀l:List D,D.B8 l l=true
|[]=>rfl
|x::r=>by simp[D.B8,UB x,Qq r]
end
def O3{a:Type}[DecidableEq a]{f:a->D}(b:∀x y,f x=f y->x=y)(x y:a):D.Bg (f x) (f y)=decide (x=y):=by
 by_cases e:x=y
 ·subst e;simp[UB]
 ·rw[DX e];cases h:D.Bg (f x) (f y) with
  |false=>rfl
  |true=>exact absurd (b _ _ (D.Bf _ _ h)) e
def VR:∀x y:BG,x.enc=y.enc->x=y:=λx y h=>by
 cases x;cases y;simp[BG.enc]at h;simp[h]
def Ykp:∀x y:At,x.enc=y.enc->x=y:=λx y h=>by
 cases x;cases y;simp[At.enc]at h;simp[h]
def Ykn:∀x y:Am,x.enc=y.enc->x=y:=λx y h=>by
 cases x;cases y;simp[Am.enc]at h;simp[h,VR _ _ h.2.2.2]
def Ykm:∀x y:BB,x.enc=y.enc->x=y:=λx y h=>by
 cases x;cases y;simp[BB.enc]at h;simp[h,VR _ _ h.2.1,VR _ _ h.2.2]
def Yt5:∀x y:Ba,x.enc=y.enc->x=y:=λx y h=>by
 cases x;cases y;simp[Ba.enc]at h;simp[h,VR _ _ h.2.2]
def Yko:∀x y:A8,x.enc=y.enc->x=y:=λx y h=>by
 cases x;cases y;simp[A8.enc]at h;simp[h]
def Yt4:∀x y:CM,x.enc=y.enc->x=y:=λx y h=>by
 cases x;cases y;simp[CM.enc]at h;simp[h]
def Yj7:∀x y:At,D.Bg x.enc y.enc=decide (x=y):=O3 Ykp
def Yj5:∀x y:Am,D.Bg x.enc y.enc=decide (x=y):=O3 Ykn
def Yj4:∀x y:BB,D.Bg x.enc y.enc=decide (x=y):=O3 Ykm
def Yth:∀x y:Ba,D.Bg x.enc y.enc=decide (x=y):=O3 Yt5
def Yj6:∀x y:A8,D.Bg x.enc y.enc=decide (x=y):=O3 Yko
def Ytg:∀x y:CM,D.Bg x.enc y.enc=decide (x=y):=O3 Yt4
def QA:Nat:=0x17dccc209200f04826161707f47032c05a0518cd0710a707700bb8423907c00405900987100a21a6a20080a10609e501da02b6b06b00802506101e05d02932c09d01f1b66c8
def jK:S:=zS [] QA
def Zm7:Xr prog 21 1 jK [.t 2]=true:=by kernel_rfl
def Yfd:Nat:=0x108768e01290017c013ba30110a1005cdb1720e005900f0df3a65231720b300e4350e700e1fc5b52abb5c00c0046c664314305a129bac92a00a172004d29
def pG:Nat:=0x1b3c25990768eacf3827b20072460026c8
def jL:S:=zS [(zS [] Yfd)] pG
def Zm8:Xr prog 22 1 jL [.t 2]=true:=by kernel_rfl
def n45:Nat:=0x1d7b2ad3875dc00303a5edd8d8ec0393875b6b765ed84d4d65fb0030365ed7564cd0353872220030345ed5a20021d30bb5a1c474eecd501dc4d
def jn:S:=zS [] n45
def Znr:Xr prog 45 2 jn [.t 4]=true:=by kernel_rfl
def Yft:Nat:=0x15560df0160435510434b80f958c001594
def pO:Nat:=0x1530
def jo:S:=zS [(zS [] Yft)] pO
def Zns:Xr prog 46 2 jo [.t 4]=true:=by kernel_rfl
def Yfu:Nat:=0x1000cb6d677594561498042b44281690d95f62f90450af39ab8d2292b4cfc2f97fc00e0fea2e7fc9fd
def pP:Nat:=0x10950180a92280d604701504e0161cf125cb60a8cb6b8804e00a28a1cd
def jr:S:=zS [(zS [] Yfu)] pP
def Zf1:Xr prog 48 3 jr [.t 6]=true:=by kernel_rfl
def sI:Nat:=0x155696d5d30725510724b846858c005594
def kG:Nat:=0x1530
def mB:S:=zS [(zS [] sI)] kG
def Y86:Xr prog 107 2 mB [.t 4]=true:=by kernel_rfl
def sJ:Nat:=0x175305a08b53b8320096c6cef05a22809d0077842ef67f3e6c1d05a3b409d71a
def kJ:Nat:=0x1754
def mD:S:=zS [(zS [] sJ)] kJ
def Y87:Xr prog 108 3 mD [.t 6]=true:=by kernel_rfl
def Zev:Nat:=0x1d7b00801a1ff5dc0030192fcd8d5003a71ff5b60030172fcd84cd50360fc0361a9
def mE:S:=zS [] Zev
def Y88:Xr prog 109 2 mE [.t 4]=true:=by kernel_rfl
def sK:Nat:=0x175305d44205483232057bcef05d2280059fa1ad67f193497c1d05d3b47c971a
def kK:Nat:=0x1754
def mF:S:=zS [(zS [] sK)] kK
def Y89:Xr prog 110 3 mF [.t 6]=true:=by kernel_rfl
def Zew:Nat:=0x1c6e8ec0230ae01d22e84d5fb00201c22e8271c622e9f4cbc02d0fc02d1a9
def mG:S:=zS [] Zew
def Y9a:Xr prog 111 2 mG [.t 4]=true:=by kernel_rfl
def sL:Nat:=0x175305d4420548323209fbcff05d2280059fa1ad67f7a3c3c05d3b47c971a
def kL:Nat:=0x1754
def mH:S:=zS [(zS [] sL)] kL
def Y9b:Xr prog 112 3 mH [.t 6]=true:=by kernel_rfl
def Zex:Nat:=0x1c6e8ec0230ae01e22ed84cbc4720117721a9
def mI:S:=zS [] Zex
def Y9c:Xr prog 113 2 mI [.t 4]=true:=by kernel_rfl
def s7:Nat:=0x17530518bb1c671e50f014b26cff0512280039fa1c867fb26c3c05101120800671a
def kM:Nat:=0x1754
def mJ:S:=zS [(zS [] s7)] kM
def Y9d:Xr prog 114 3 mJ [.t 6]=true:=by kernel_rfl
def Zey:Nat:=0x199d56800201f22e45f0c71ca0453f41b90454d90b2d043750bd3e00933c86d6be8bd1a740fc2691a9
def lS:S:=zS [] Zey
def Y9e:Xr prog 115 2 lS [.t 4]=true:=by kernel_rfl
def sW:Nat:=0x175314308b5838321d06c5cef14322800b22771146900b67f3c3c1d1433b472571a
def kZ:Nat:=0x1754
def mQ:S:=zS [(zS [] sW)] kZ
def Zae:Xr prog 207 3 mQ [.t 6]=true:=by kernel_rfl
def Zfi:Nat:=0x107d9d8245cab0a40060c006703218f0545c7b5705806114d002aa4b575c70e02b98733d14de1410081070f20b23f612c05e3f60061303f613b05e3f60051303f60ff08911d0c600894d0b23d00f805e3d00061713d00ef05e3d00051713d002b08902a025008a6c0b23a9b5a3a90061053a902605e3a90051053a902408902373c0220200b242f02105e42f31e04542f01f05e42f38004542f01d08901c0170085b20b229c01a05e29c35300129c01805e29c1340017470895ac38534005c069285001164190737010099721045164185737164240b9ec71ad51de00b9949880370500610620d74cc6e448e4a60069f5c9e8130d76f58132f056f38dcc10050634cc6e448e4a60069f5c9e21da349f5cc105dc9e8130d76f581304ecc10059f521d01005d8133ac6e408d89f5c20830510e70200451b9ca9043a012341ed0fc1ed1a9
def mT:S:=zS [] Zfi
def Zaf:Xr prog 208 2 mT [.t 4]=true:=by kernel_rfl
def sX:Nat:=0x175304e08b1a2832009420770cff04e2280049fa25167f770c3c04e3b438271a
def kc:Nat:=0x1754
def mV:S:=zS [(zS [] sX)] kc
def Zag:Xr prog 209 3 mV [.t 6]=true:=by kernel_rfl
def Zfj:Nat:=0x107d01e24501d4909ff00202e0bb82ac474ee01b41333e0fc33e1a9
def mW:S:=zS [] Zfj
def Zah:Xr prog 210 2 mW [.t 4]=true:=by kernel_rfl
def sY:Nat:=0x1d0081e2355d30013a71d177db9800858c008594
def ke:Nat:=0x1530
def mX:S:=zS [(zS [] sY)] ke
def Zai:Xr prog 211 2 mX [.t 4]=true:=by kernel_rfl
def sZ:Nat:=0x1d009a74bf57e5d3b48551b48b9800b58c00b594
def kh:Nat:=0x1530
def nN:S:=zS [(zS [] sZ)] kh
def Zaj:Xr prog 212 2 nN [.t 4]=true:=by kernel_rfl
def sc:Nat:=0x1d0005f0555d3280551280b981a849f1a8040531
def kj:Nat:=0x1530
def nO:S:=zS [(zS [] sc)] kj
def Zak:Xr prog 213 2 nO [.t 4]=true:=by kernel_rfl
def sq:Nat:=0x155696d5d30725510724b846858c005594
def km:Nat:=0x1530
def nP:S:=zS [(zS [] sq)] km
def Zal:Xr prog 214 2 nP [.t 4]=true:=by kernel_rfl
def sr:Nat:=0x15569a72355d33d55513d54b872358c004594
def kn:Nat:=0x1530
def nQ:S:=zS [(zS [] sr)] kn
def Zam:Xr prog 215 2 nQ [.t 4]=true:=by kernel_rfl
def Zda:S2:=zL [] [] QA
def Zgs:=(by cbv:Zda=_)
def Zjd:jK.AZ []=some Zda:=by kernel_rfl
def gp:S2:=zL [] [] Yfd
def Xy1:=(by cbv:gp=_)
def Zdb:S2:=zL [] [gp] pG
def Zgt:=(show Zdb=_ from (λa=>(by cbv:zL [] [a] pG=_)) gp)
def Zje:jL.AZ []=some Zdb:=by kernel_rfl
def Zdu:S2:=zL [] [] n45
def Zg8:=(by cbv:Zdu=_)
def Zjx:jn.AZ []=some Zdu:=by kernel_rfl
def gT:S2:=zL [] [] Yfu
def VK:=(by cbv:gT=_)
def Zdx:S2:=zL [] [gT] pP
def Zbi:=(show Zdx=_ from (λa=>(by cbv:zL [] [a] pP=_)) gT)
def Zc2:jr.AZ []=some Zdx:=by kernel_rfl
def Yu7:S2:=zL [] [] Zev
def SW:=(by cbv:Yu7=_)
def Y6f:mE.AZ []=some Yu7:=by kernel_rfl
def Yu9:S2:=zL [] [] Zew
def kx:=(by cbv:Yu9=_)
def Y6h:mG.AZ []=some Yu9:=by kernel_rfl
def Yvb:S2:=zL [] [] Zex
def SU:=(by cbv:Yvb=_)
def Y6j:mI.AZ []=some Yvb:=by kernel_rfl
def Yvd:S2:=zL [] [] Zey
def ky:=(by cbv:Yvd=_)
def Y6l:lS.AZ []=some Yvd:=by kernel_rfl
def Ywg:S2:=zL [] [] Zfi
def KD:=(by cbv:Ywg=_)
def Y7h:mT.AZ []=some Ywg:=by kernel_rfl
def Ywi:S2:=zL [] [] Zfj
def Y1i:=(by cbv:Ywi=_)
def Y7j:mW.AZ []=some Ywi:=by kernel_rfl
def yC(e:E):S2:=.seq (.rg [] [(0,(.a (.t 0))),(1,(.a (.t 1))),(12,(.a (.t 12))),(13,(.a (.t 13))),(14,(.b (.Bc .lss (.t 0) (.t 1)) (.a (.t 13)) (.a (.t 12))))] [])
 (.seq (.cond (.t 14) (.skip) (.exit 0))
 (.seq (.block 1 (.seq (.rg [] [(0,(.a (.t 0))),(1,(.a (.t 1))),(5,(.a (.t 13))),(12,(.a (.t 12))),(13,(.a (.t 13)))] [])
 (.seq (.rg [] [(0,(.a (.t 0))),(1,(.a (.t 1))),(12,(.a (.t 12))),(13,(.a (.t 13))),(24,e)] [])
 (.cond (.t 24) (.seq (.rg [] [(4,(.a (.bool false)))] []) (.ret)) (.skip)))))
 (.rg [] [(0,(.a (.t 0))),(1,(.a (.t 1))),(12,(.a (.t 12))),(13,(.b (.Bc .add (.t 0) (.t 1)) (.a (.t 13)) (.a (.int .i64 1))))] [])))
def eR(e:E):S2:=.seq (.rg [] [(0,(.a (.t 0))),(1,(.a (.t 1)))] [])
 (.seq (.seq (.rg [] [(0,(.a (.t 0))),(1,(.a (.t 1))),(10,(.b (.Bc .neq (.t 0) (.t 1)) (.u (.CV (.t 0)) (.a (.t 0))) (.u (.CV (.t 0)) (.a (.t 1)))))] [])
 (.cond (.t 10) (.seq (.rg [] [(4,(.a (.bool false)))] []) (.ret)) (.skip)))
 (.seq (.seq (.rg [] [(0,(.a (.t 0))),(1,(.a (.t 1))),(12,(.u (.CV (.t 0)) (.a (.t 0)))),(13,(.a (.int .i64 0)))] [])
 (.block 0 (.loop [0,1,12,13] (yC e))))
 (.seq (.rg [] [(4,(.a (.bool true)))] []) (.ret))))
def ME(c:C)(d:Nat)(g:Bool):E:=.b c (.u (.ld d g (.t 0)) (.b (.DI d (.t 0) (.t 1)) (.a (.t 0)) (.a (.t 5)))) (.u (.ld d g (.t 0)) (.b (.DI d (.t 0) (.t 1)) (.a (.t 1)) (.a (.t 5))))
def fC{P:Az}{p:Type}[DecidableEq p]{f:p->D}{j:Nat}{e:E}{K:V->Prop}{a b:List p}
 (r:∀k (h:k<a.length) (x:k<b.length) (n:V),(E.val [] [(0,.d (.AF j (a.map f))),(1,.d (.AF j (b.map f))),(5,.d (.int .i64 k)),(12,n),(13,.d (.int .i64 k))] [] e=.d (.bool (decide (a[k]≠b[k]))))/\E.ok [] [(0,.d (.AF j (a.map f))),(1,.d (.AF j (b.map f))),(5,.d (.int .i64 k)),(12,n),(13,.d (.int .i64 k))] [] e)
 (y:b.length<=9223372036854775807) (h:K (.d (.bool (decide (a=b))))):Ys P [] (eR e) (IF [.t 4] K) (Uo 0 [.d (.AF j (a.map f)),.d (.AF j (b.map f))]) []:=by
 by_cases m:a.length=b.length
 ·simp[eR,m]
  refine Ae.go (ι:=Nat) (λk=>[(0,.d (.AF j (a.map f))),(1,.d (.AF j (b.map f))),(12,.d (.int .i64 b.length)),(13,.d (.int .i64 k))]) (λ_=>[]) (λk=>k<=b.length/\a.take k=b.take k) (λk=>b.length-k) 0 ⟨DM _,by simp⟩ (by simp) (by simp) ?_;rintro k ⟨z,l⟩ R u s v F;by_cases g:k<b.length
  ·have i:k<a.length:=by omega
   have w:=w_s k (by omega);have q:=r k i g (.d (.int .i64 b.length));by_cases c:a[k]=b[k]
   ·simp[yC,g,q,c]
    refine u [] (k+1) _ _ ⟨by omega,?_⟩ (by omega) (by simp[w]) (by simp[AE]) (by simp[AE]) (by simp[AE]);rw[Ca i,Ca g,l,c]
   ·simp[yC,g,q,c]
    refine v _ _ ?_;simp;have ne:a≠b:=λh=>by subst h;exact c rfl
    rw[DX ne]at h;exact h
  ·have:k=b.length:=by omega
   subst this;simp[yC];refine s _ _ _ ?_;simp;have e:a=b:=by rw[<-m,C0,m,C0]at l;exact l
   rw[En e]at h;exact h
 ·have o:¬(a.length:Int)=b.length:=by omega
  have e:a≠b:=λe=>m (by rw[e]);rw[DX e]at h;simp[eR,m];exact⟨λ_=>h,λh=>(o h).elim⟩
def Zt9:mB.AZ []=some (eR (ME (.GV rf false (.t 0) (.t 1)) 5 true)):=by kernel_rfl
def Zt7:mX.AZ []=some (eR (ME (.GV rX false (.t 0) (.t 1)) 8 true)):=by kernel_rfl
def Zt6:nN.AZ []=some (eR (ME (.GV rW false (.t 0) (.t 1)) 11 true)):=by kernel_rfl
def Zu8:nO.AZ []=some (eR (ME (.GV Yeq false (.t 0) (.t 1)) 7 true)):=by kernel_rfl
def Zt8:nP.AZ []=some (eR (ME (.GV ra false (.t 0) (.t 1)) 5 true)):=by kernel_rfl
def Zu7:nQ.AZ []=some (eR (ME (.GV Yep false (.t 0) (.t 1)) 4 true)):=by kernel_rfl
def Zu9:jo.AZ []=some (eR (ME (.Bc .neq (.t 0) (.t 1)) 1 false)):=by kernel_rfl
def Zva:mA.AZ []=some (eR (ME (.Bc .neq (.t 0) (.t 1)) 1 false)):=by kernel_rfl
include hP
theorem X90{a b:List At}(g:b.length<=9223372036854775807){i:AB}{K:V->Prop}(h:K (.d (.bool (decide (a=b))))):AU P 107 [.d (.AF 5 (a.map At.enc)),.d (.AF 5 (b.map At.enc))] i K:=by
 refine AJ hP AO (ds:=[.AF 5 (a.map At.enc),.AF 5 (b.map At.enc)]) Y86 Zt9 BD.nil (fC (λk e f n=>?_) g h);have j:∀x:At,x.enc.sz=5:=λ_=>rfl;have c:∀x:At,KT.Bk rf x.enc=true:=λ_=>rfl;simp[ME,e,f,j,c,Yj7];exact⟨rfl,rfl⟩
theorem X9y{a b:List Am}(g:b.length<=9223372036854775807){i:AB}{K:V->Prop}(h:K (.d (.bool (decide (a=b))))):AU P 211 [.d (.AF 8 (a.map Am.enc)),.d (.AF 8 (b.map Am.enc))] i K:=by
 refine AJ hP AO (ds:=[.AF 8 (a.map Am.enc),.AF 8 (b.map Am.enc)]) Zai Zt7 BD.nil (fC (λk e f n=>?_) g h);have j:∀x:Am,x.enc.sz=8:=λ_=>rfl;have c:∀x:Am,KT.Bk rX x.enc=true:=λ_=>rfl;simp[ME,e,f,j,c,Yj5];exact⟨rfl,rfl⟩
theorem X9x{a b:List BB}(g:b.length<=9223372036854775807){i:AB}{K:V->Prop}(h:K (.d (.bool (decide (a=b))))):AU P 212 [.d (.AF 11 (a.map BB.enc)),.d (.AF 11 (b.map BB.enc))] i K:=by
 refine AJ hP AO (ds:=[.AF 11 (a.map BB.enc),.AF 11 (b.map BB.enc)]) Zaj Zt6 BD.nil (fC (λk e f n=>?_) g h);have j:∀x:BB,x.enc.sz=11:=λ_=>rfl;have c:∀x:BB,KT.Bk rW x.enc=true:=λ_=>rfl;simp[ME,e,f,j,c,Yj4];exact⟨rfl,rfl⟩
theorem Yin{a b:List Ba}(g:b.length<=9223372036854775807){i:AB}{K:V->Prop}(h:K (.d (.bool (decide (a=b))))):AU P 213 [.d (.AF 7 (a.map Ba.enc)),.d (.AF 7 (b.map Ba.enc))] i K:=by
 refine AJ hP AO (ds:=[.AF 7 (a.map Ba.enc),.AF 7 (b.map Ba.enc)]) Zak Zu8 BD.nil (fC (λk e f n=>?_) g h);have j:∀x:Ba,x.enc.sz=7:=λ_=>rfl;have c:∀x:Ba,KT.Bk Yeq x.enc=true:=λ_=>rfl;simp[ME,e,f,j,c,Yth];exact⟨rfl,rfl⟩
theorem X9z{a b:List A8}(g:b.length<=9223372036854775807){i:AB}{K:V->Prop}(h:K (.d (.bool (decide (a=b))))):AU P 214 [.d (.AF 5 (a.map A8.enc)),.d (.AF 5 (b.map A8.enc))] i K:=by
 refine AJ hP AO (ds:=[.AF 5 (a.map A8.enc),.AF 5 (b.map A8.enc)]) Zal Zt8 BD.nil (fC (λk e f n=>?_) g h);have j:∀x:A8,x.enc.sz=5:=λ_=>rfl;have c:∀x:A8,KT.Bk ra x.enc=true:=λ_=>rfl;simp[ME,e,f,j,c,Yj6];exact⟨rfl,rfl⟩
theorem Yim{a b:List CM}(g:b.length<=9223372036854775807){i:AB}{K:V->Prop}(h:K (.d (.bool (decide (a=b))))):AU P 215 [.d (.AF 4 (a.map CM.enc)),.d (.AF 4 (b.map CM.enc))] i K:=by
 refine AJ hP AO (ds:=[.AF 4 (a.map CM.enc),.AF 4 (b.map CM.enc)]) Zam Zu7 BD.nil (fC (λk e f n=>?_) g h);have j:∀x:CM,x.enc.sz=4:=λ_=>rfl;have c:∀x:CM,KT.Bk Yep x.enc=true:=λ_=>rfl;simp[ME,e,f,j,c,Ytg];exact⟨rfl,rfl⟩
theorem Yil{a b:List Int}(f:b.length<=9223372036854775807){g:AB}{K:V->Prop}(h:K (.d (.bool (decide (a=b))))):AU P 46 [.d (X9 a),.d (X9 b)] g K:=by
 refine AJ hP AO (ds:=[X9 a,X9 b]) Zns Zu9 BD.nil (fC (λk c e n=>?_) f h);simp[ME,c,e];rw[Dl];simp
theorem ZX{a b:List B}(f:b.length<=9223372036854775807){g:AB}{K:V->Prop}(h:K (.d (.bool (decide (a=b))))):AU P 106 [.d (Xg a),.d (Xg b)] g K:=by
 refine AJ hP AO (ds:=[Xg a,Xg b]) Yy2 Zva BD.nil (fC (λk c e n=>?_) f h);simp[ME,c,e];rw[Dl];simp
theorem Xw4{x y:Ai}(e:y.BC){n:AB}{K:V->Prop}(h:K (.d (.bool (decide (x=y))))):AU P 111 [.d x.enc,.d y.enc] n K:=by
 refine AJ hP AO (ds:=[x.enc,y.enc]) Y9a Y6h BD.nil ?_;have f:∀x:Ai,(V.d x.enc).BM=some [.d (.AM x.head),.d (iD x.AP),.d (.AF 8 (x.AW.map Am.enc)),.d (.AF 11 (x.Ak.map BB.enc)),.d (.AF 7 (x.BK.map Ba.enc))]:=λ_=>rfl;have g:∀x:Ai,x.enc.sz=5:=λ_=>rfl;have i:∀x:Ai,x.enc.shape.size=5:=λx=>by rw[CC];rfl
 have m:decide (x=y)=(decide (x.head=y.head)&&(decide (x.AP=y.AP)&&(decide (x.AW=y.AW)&&(decide (x.Ak=y.Ak)&&decide (x.BK=y.BK))))):=by
  rw[Dl];cases x;cases y;simp
 rw[m]at h;by_cases a:x.head=y.head
 ·by_cases b:x.AP=y.AP
  ·simp[kx,f,g,i,a,b]at h⊢;refine X9y hP e.AW ?_;by_cases j:x.AW=y.AW
   ·simp[j]at h⊢;refine X9x hP e.Ak ?_;by_cases k:x.Ak=y.Ak
    ·simp[k]at h⊢;refine Yin hP e.BK ?_;by_cases l:x.BK=y.BK
     ·simpa[l]using h
     ·simpa[l]using h
    ·simpa[k]using h
   ·simpa[j]using h
  ·have c:(x.AP==y.AP)=false:=by simpa using b
   simp[kx,f,g,i,a,b,c]at h⊢;exact h
 ·simpa[kx,f,g,i,a]using h
theorem Xi4{x y:Ag}(p:y.Ap.length<=9223372036854775807){q:AB}{K:V->Prop}(h:K (.d (.bool (decide (x=y))))):AU P 113 [.d x.enc,.d y.enc] q K:=by
 refine AJ hP AO (ds:=[x.enc,y.enc]) Y9c Y6j BD.nil ?_;have e:∀x:Ag,(V.d x.enc).BM=some [.d (.AM x.Aw),.d (.AM x.CA),.d (iD x.a),.d (iD x.b),.d (.AF 5 (x.Ap.map A8.enc))]:=λ_=>rfl;have f:∀x:Ag,x.enc.sz=5:=λ_=>rfl;have g:∀x:Ag,x.enc.shape.size=5:=λx=>by rw[CC];rfl
 have o:decide (x=y)=(decide (x.Aw=y.Aw)&&(decide (x.CA=y.CA)&&(decide (x.a=y.a)&&(decide (x.b=y.b)&&decide (x.Ap=y.Ap))))):=by
  rw[Dl];cases x;cases y;simp[and_comm,and_left_comm]
 rw[o]at h;by_cases c:x.Aw=y.Aw
 ·by_cases i:x.CA=y.CA
  ·by_cases j:x.a=y.a
   ·by_cases l:x.b=y.b
    ·simp[SU,e,f,g,c,i,j,l]at h⊢;refine X9z hP p ?_;by_cases n:x.Ap=y.Ap
     ·simpa[n]using h
     ·simpa[n]using h
    ·have m:(x.b==y.b)=false:=by simpa using l
     simpa[SU,e,f,g,c,i,j,l,m]using h
   ·have k:(x.a==y.a)=false:=by simpa using j
    simpa[SU,e,f,g,c,i,j,k]using h
  ·simpa[SU,e,f,g,c,i]using h
 ·simpa[SU,e,f,g,c]using h
theorem Xi5{x y:AR}(k:y.CW.length<=9223372036854775807){l:AB}{K:V->Prop}(h:K (.d (.bool (decide (x=y))))):AU P 115 [.d x.enc,.d y.enc] l K:=by
 refine AJ hP AO (ds:=[x.enc,y.enc]) Y9e Y6l BD.nil ?_;have e:∀x:AR,(V.d x.enc).BM=some [.d (.AM x.name),.d (.AF 4 (x.CW.map CM.enc)),.d (iD x.DJ)]:=λ_=>rfl;have f:∀x:AR,x.enc.sz=3:=λ_=>rfl;have g:∀x:AR,x.enc.shape.size=3:=λx=>by rw[CC];rfl
 have j:decide (x=y)=(decide (x.name=y.name)&&(decide (x.DJ=y.DJ)&&decide (x.CW=y.CW))):=by
  rw[Dl];cases x;cases y;simp[and_comm,and_left_comm]
 rw[j]at h;by_cases a:x.name=y.name
 ·by_cases b:x.DJ=y.DJ
  ·simp[ky,e,f,g,a,b]at h⊢;refine Yim hP k ?_;by_cases i:x.CW=y.CW
   ·simpa[i]using h
   ·simpa[i]using h
  ·have c:(x.DJ==y.DJ)=false:=by simpa using b
   simpa[ky,e,f,g,a,b,c]using h
 ·simpa[ky,e,f,g,a]using h
theorem Xmf{x y:Ax}(k:y.BC){p:AB}{K:V->Prop}(h:K (.d (.bool (decide (x=y))))):AU P 210 [.d x.enc,.d y.enc] p K:=by
 refine AJ hP AO (ds:=[x.enc,y.enc]) Zah Y7j BD.nil ?_;have m:∀x:Ax,(V.d x.enc).BM=some [.d (Xg x.names),.d (.AM x.name),.d (X9 x.Aw),.d (iD x.CA)]:=λ_=>rfl;have n:∀x:Ax,x.enc.sz=4:=λ_=>rfl;have o:∀x:Ax,x.enc.shape.size=4:=λx=>by rw[CC];rfl
 have l:decide (x=y)=(decide (x.names=y.names)&&(decide (x.name=y.name)&&(decide (x.Aw=y.Aw)&&decide (x.CA=y.CA)))):=by
  rw[Dl];cases x;cases y;simp[and_comm,and_left_comm]
 rw[l]at h;simp[Y1i,m,n,o,Xg,X9]at h⊢;refine ZX hP (a:=x.names) (b:=y.names) k.names ?_;by_cases c:x.names=y.names
 ·by_cases e:x.name=y.name
  ·simp[c,e]at h⊢;refine Yil hP (a:=x.Aw) (b:=y.Aw) k.Aw ?_;by_cases g:x.Aw=y.Aw
   ·by_cases i:x.CA=y.CA
    ·simpa[g,i]using h
    ·have j:(x.CA==y.CA)=false:=by simpa using i
     simpa[g,i,j]using h
   ·simpa[g]using h
  ·have f:(x.name==y.name)=false:=by simpa using e
   simpa[c,e,f]using h
 ·simpa[c]using h
omit hP
def Zv5(t c:Nat)(z:D):S2:=.seq (.rg [] [(1,(.a (.t 1))),(2,(.a (.t 2))),(15,(.a (.t 15))),(16,(.a (.t 16))),(17,(.a (.t 17))),(18,(.b (.Bc .lss (.t 0) (.t 1)) (.a (.t 17)) (.a (.t 16))))] [])
 (.seq (.cond (.t 18) (.skip) (.exit 0))
 (.seq (.block 1 (.seq (.rg [.Aa [] (.u (.ld c true (.t 0)) (.b (.DI c (.t 0) (.t 1)) (.a (.t 15)) (.a (.t 17)))),.lt 21 [] (.u (.ld c true (.t 0)) (.b (.DI c (.t 0) (.t 1)) (.a (.t 15)) (.a (.t 17)))),.op (some 8) (.alloc t z),.op none (.st c (.t 8) (.t 21))] [(1,(.a (.t 1))),(2,(.a (.t 2))),(7,(.a (.t 17))),(8,(.a (.t 8))),(15,(.a (.t 15))),(16,(.a (.t 16))),(17,(.a (.t 17)))] [])
 (.seq (.rg [.Aa [] (.u (.ld c true (.t 0)) (.b (.DI c (.t 0) (.t 1)) (.a (.t 1)) (.a (.t 7)))),.lt 25 [] (.u (.ld c true (.t 0)) (.b (.DI c (.t 0) (.t 1)) (.a (.t 1)) (.a (.t 7)))),.op (some 9) (.alloc t z),.op none (.st c (.t 9) (.t 25))] [(1,(.a (.t 1))),(2,(.a (.t 2))),(8,(.a (.t 8))),(9,(.a (.t 9))),(15,(.a (.t 15))),(16,(.a (.t 16))),(17,(.a (.t 17)))] [])
 (.seq (.rg [.Aa [] (.u (.ld c true (.t 0)) (.a (.t 9))),.Aa [] (.u (.ld c true (.t 0)) (.a (.t 8))),.lt 28 [] (.u (.ld c true (.t 0)) (.a (.t 9))),.lt 27 [] (.u (.ld c true (.t 0)) (.a (.t 8))),.lt 26 [] (.a (.t 2)),.op (some 29) (.Cq (.t 26) [(.t 27),(.t 28)])] [(1,(.a (.t 1))),(2,(.a (.t 2))),(15,(.a (.t 15))),(16,(.a (.t 16))),(17,(.a (.t 17))),(30,(.u (.not (.t 0)) (.a (.t 29))))] [])
 (.cond (.t 30) (.seq (.rg [] [(6,(.a (.bool false)))] []) (.ret)) (.skip))))))
 (.rg [] [(1,(.a (.t 1))),(2,(.a (.t 2))),(15,(.a (.t 15))),(16,(.a (.t 16))),(17,(.b (.Bc .add (.t 0) (.t 1)) (.a (.t 17)) (.a (.int .i64 1))))] [])))
def e9(t c:Nat)(z:D):S2:=.seq (.rg [] [(0,(.a (.t 0))),(1,(.a (.t 1))),(2,(.a (.t 2)))] [])
 (.seq (.seq (.rg [] [(0,(.a (.t 0))),(1,(.a (.t 1))),(2,(.a (.t 2))),(14,(.b (.Bc .neq (.t 0) (.t 1)) (.u (.CV (.t 0)) (.a (.t 0))) (.u (.CV (.t 0)) (.a (.t 1)))))] [])
 (.cond (.t 14) (.seq (.rg [] [(6,(.a (.bool false)))] []) (.ret)) (.skip)))
 (.seq (.seq (.rg [] [(1,(.a (.t 1))),(2,(.a (.t 2))),(15,(.a (.t 0))),(16,(.u (.CV (.t 0)) (.a (.t 0)))),(17,(.a (.int .i64 0)))] [])
 (.block 0 (.loop [1,2,15,16,17] (Zv5 t c z))))
 (.seq (.rg [] [(6,(.a (.bool true)))] []) (.ret))))
def fU{P:Az}{s:Type}[DecidableEq s]{f:s->D}{t j g:Nat}{z:D}{K:V->Prop}{a b:List s}(w:z.sz=j)
 (r:∀x,(f x).sz=j/\(f x).shape=z.shape/\(V.d (f x)).isAgg=true) (v:Xd P.p g=true)
 (u:∀k (h:k<a.length) (O:k<b.length) (y:AB) (K:V->Prop),K (.d (.bool (decide (a[k]=b[k]))))->AU P g [.d (f a[k]),.d (f b[k])] y K)
 (Q:b.length<=9223372036854775807) (h:K (.d (.bool (decide (a=b))))):Ys P [] (e9 t j z) (IF [.t 6] K) (Uo 0 [.d (.AF j (a.map f)),.d (.AF j (b.map f)),.d (.fn g [] [])]) []:=by
 have N:∀x,(f x).sz=j:=λx=>(r x).1;have L:∀x,(f x).shape=z.shape:=λx=>(r x).2.1;have o:∀x,(V.d (f x)).isAgg=true:=λx=>(r x).2.2;have M:z.shape.size=j:=by rw[CC];exact w
 by_cases n:a.length=b.length
 ·simp[e9,n]
  refine Ae.go (ι:=Nat) (λk=>[(1,.d (.AF j (b.map f))),(2,.d (.fn g [] [])),(15,.d (.AF j (a.map f))),(16,.d (.int .i64 b.length)),(17,.d (.int .i64 k))]) (λ_=>[]) (λk=>k<=b.length/\a.take k=b.take k) (λk=>b.length-k) 0 ⟨DM _,by simp⟩ (by simp) (by simp) ?_;rintro k ⟨T,l⟩ R G F H U;by_cases m:k<b.length
  ·have i:k<a.length:=by omega
   have J:=w_s k (by omega);simp[Zv5,m,i,N,L,M,v];refine⟨o _,o _,o _,o _,o _,(u k i m _ _ ?_).Bm⟩;by_cases c:a[k]=b[k]
   ·simp[c]
    refine G [] (k+1) _ _ ⟨by omega,?_⟩ (by omega) (by simp[J]) (by simp[AE]) (by simp[AE]) (by simp[AE]);rw[Ca i,Ca m,l,c]
   ·simp[c]
    refine H _ _ ?_;simp;have ne:a≠b:=λh=>by subst h;exact c rfl
    rw[DX ne]at h;exact h
  ·have:k=b.length:=by omega
   subst this;simp[Zv5];refine F _ _ _ ?_;simp;have e:a=b:=by rw[<-n,C0,n,C0]at l;exact l
   rw[En e]at h;exact h
 ·have q:¬(a.length:Int)=b.length:=by omega
  have e:a≠b:=λe=>n (by rw[e]);rw[DX e]at h;simp[e9,n];exact⟨λ_=>h,λh=>(q h).elim⟩
def Yac:Xd prog 111=true:=by kernel_rfl
def Ztc:mF.AZ []=some (e9 45 5 (.agg [.AM [],.int .i64 0,.AT,.AT,.AT])):=by kernel_rfl
def X0h{P:Az}(c:P.p=prog){a b:List Ai}(g:b.length<=9223372036854775807)(i:∀x∈b,x.BC){e:AB}{K:V->Prop}(h:K (.d (.bool (decide (a=b))))):AU P 110 [.d (.AF 5 (a.map Ai.enc)),.d (.AF 5 (b.map Ai.enc)),.d (.fn 111 [] [])] e K:=
 AJ c AO (ds:=[.AF 5 (a.map Ai.enc),.AF 5 (b.map Ai.enc),.fn 111 [] []]) Y89 Ztc BD.nil (fU rfl (λ_=>⟨rfl,rfl,rfl⟩) (by rw[c];exact Yac) (λk j f e K=>Xw4 c (i _ (CS f))) g h)
def Xpx:Xd prog 113=true:=by kernel_rfl
def Zqu:mH.AZ []=some (e9 66 5 (.agg [.AM [],.AM [],.int .i64 0,.int .i64 0,.AT])):=by kernel_rfl
def Xmd{P:Az}(c:P.p=prog){a b:List Ag}(g:b.length<=9223372036854775807)(i:∀x∈b,x.Ap.length<=9223372036854775807){e:AB}{K:V->Prop}(h:K (.d (.bool (decide (a=b))))):AU P 112 [.d (.AF 5 (a.map Ag.enc)),.d (.AF 5 (b.map Ag.enc)),.d (.fn 113 [] [])] e K:=
 AJ c AO (ds:=[.AF 5 (a.map Ag.enc),.AF 5 (b.map Ag.enc),.fn 113 [] []]) Y9b Zqu BD.nil (fU rfl (λ_=>⟨rfl,rfl,rfl⟩) (by rw[c];exact Xpx) (λk j f e K=>Xi4 c (i _ (CS f))) g h)
def Xpy:Xd prog 115=true:=by kernel_rfl
def Zqv:mJ.AZ []=some (e9 77 3 (.agg [.AM [],.AT,.int .i64 0])):=by kernel_rfl
def Xme{P:Az}(c:P.p=prog){a b:List AR}(g:b.length<=9223372036854775807)(i:∀x∈b,x.CW.length<=9223372036854775807){e:AB}{K:V->Prop}(h:K (.d (.bool (decide (a=b))))):AU P 114 [.d (.AF 3 (a.map AR.enc)),.d (.AF 3 (b.map AR.enc)),.d (.fn 115 [] [])] e K:=
 AJ c AO (ds:=[.AF 3 (a.map AR.enc),.AF 3 (b.map AR.enc),.fn 115 [] []]) Y9d Zqv BD.nil (fU rfl (λ_=>⟨rfl,rfl,rfl⟩) (by rw[c];exact Xpy) (λk j f e K=>Xi5 c (i _ (CS f))) g h)
def Xw7:Xd prog 210=true:=by kernel_rfl
def Zrv:mV.AZ []=some (e9 98 4 (.agg [.AT,.AM [],.AT,.int .i64 0])):=by kernel_rfl
def Xpq{P:Az}(c:P.p=prog){a b:List Ax}(g:b.length<=9223372036854775807)(i:∀x∈b,x.BC){e:AB}{K:V->Prop}(h:K (.d (.bool (decide (a=b))))):AU P 209 [.d (.AF 4 (a.map Ax.enc)),.d (.AF 4 (b.map Ax.enc)),.d (.fn 210 [] [])] e K:=
 AJ c AO (ds:=[.AF 4 (a.map Ax.enc),.AF 4 (b.map Ax.enc),.fn 210 [] []]) Zag Zrv BD.nil (fU rfl (λ_=>⟨rfl,rfl,rfl⟩) (by rw[c];exact Xw7) (λk j f e K=>Xmf c (i _ (CS f))) g h)
include hP
set_option maxHeartbeats 2000000 in
theorem Xpt{x y:Ad}(F:y.type.names.length<=9223372036854775807){G:AB}{K:V->Prop}(h:K (.d (.bool (decide (x=y))))):AU P 208 [.d x.enc,.d y.enc] G K:=by
 refine AJ hP AO (ds:=[x.enc,y.enc]) Zaf Y7h BD.nil ?_;have e:∀x:Ad,(V.d x.enc).BM=some [.d (.AM x.name),.d x.type.enc,.d (.agg [iD x.w0,iD x.w1,iD x.w2,iD x.w3])]:=λ_=>rfl;have f:∀x:Ad,x.enc.sz=11:=λ_=>rfl;have g:∀x:Ad,x.enc.shape.size=11:=λx=>by rw[CC];rfl
 have i:∀x:A4,(V.d x.enc).BM=some [.d (iD x.kind),.d (iD x.lo),.d (iD x.hi),.d (.AM x.CF),.d (iD x.unit),.d (.AF 1 (x.names.map .AM))]:=λ_=>rfl;have j:∀x:A4,x.enc.sz=6:=λ_=>rfl;have k:∀x:A4,x.enc.shape.size=6:=λx=>by rw[CC];rfl
 have l:∀x:A4,x.enc.shape=.node [.AX,.AX,.AX,.AX,.AX,.AX]:=λ_=>rfl;have m:∀x:Ad,KT.Bk (.ar 4 (.int .i64)) (.agg [iD x.w0,iD x.w1,iD x.w2,iD x.w3])=true:=λ_=>rfl;have z:decide (x=y)=(decide (x.name=y.name)&&(decide (x.w0=y.w0)&&(decide (x.w1=y.w1)&&(decide (x.w2=y.w2)&&(decide (x.w3=y.w3)&&(decide (x.type.kind=y.type.kind)&&(decide (x.type.lo=y.type.lo)&&(decide (x.type.hi=y.type.hi)&&(decide (x.type.CF=y.type.CF)&&(decide (x.type.unit=y.type.unit)&&decide (x.type.names=y.type.names))))))))))):=by
  rw[Dl];obtain⟨a,⟨J,L,M,N,O,Q⟩,R,T,U,W⟩:=x;obtain⟨H,⟨X,Y,Z,d4,d5,d6⟩,g0,g1,g2,g3⟩:=y;simp;intro _;constructor<;>intro h<;>simp[h]
 rw[z]at h;by_cases c:x.name=y.name
 ·by_cases n:x.w0=y.w0
  ·by_cases o:x.w1=y.w1
   ·by_cases p:x.w2=y.w2
    ·by_cases q:x.w3=y.w3
     ·by_cases r:x.type.kind=y.type.kind
      ·by_cases s:x.type.lo=y.type.lo
       ·by_cases t:x.type.hi=y.type.hi
        ·by_cases u:x.type.CF=y.type.CF
         ·by_cases v:x.type.unit=y.type.unit
          ·simp[KD,e,f,g,i,j,k,l,m,c,n,o,p,q,r,s,t,u,v]at h⊢
           repeat' apply And.intro
           all_goals first|rfl|(refine ZX hP (a:=x.type.names) (b:=y.type.names) F ?_;simpa using h)
          ·have w:(x.type.unit==y.type.unit)=false:=by simpa using v
           simp[KD,e,f,g,i,j,k,l,m,c,n,o,p,q,r,s,t,u,v,w]at h⊢;exact⟨rfl,rfl,h⟩
         ·simp[KD,e,f,g,i,j,k,l,m,c,n,o,p,q,r,s,t,u]at h⊢;exact⟨rfl,rfl,h⟩
        ·simp[KD,e,f,g,i,j,k,l,m,c,n,o,p,q,r,s,t]at h⊢;exact⟨rfl,rfl,h⟩
       ·simp[KD,e,f,g,i,j,k,l,m,c,n,o,p,q,r,s]at h⊢;exact⟨rfl,rfl,h⟩
      ·simp[KD,e,f,g,i,j,k,l,m,c,n,o,p,q,r]at h⊢;exact⟨rfl,rfl,h⟩
     ·simp[KD,e,f,g,i,j,k,l,m,c,n,o,p,q]at h⊢;exact⟨rfl,rfl,h⟩
    ·simp[KD,e,f,g,i,j,k,l,m,c,n,o,p]at h⊢;exact⟨rfl,rfl,h⟩
   ·simp[KD,e,f,g,i,j,k,l,m,c,n,o]at h⊢;exact⟨rfl,rfl,h⟩
  ·simp[KD,e,f,g,i,j,k,l,m,c,n]at h⊢;exact⟨rfl,rfl,h⟩
 ·simp[KD,e,f,g,i,j,k,l,m,c]at h⊢;exact⟨rfl,rfl,h⟩
omit hP
def AV.P7{P:Az}{f g:Nat}{a b:V}{m:AB}{K:A7->AB->Prop}(h:AV P f [a,b,.d (.fn g [] [])] m K):AV P f [a,b,.fn g [] []] m K:=⟨λw z i t s l=>h.run w z i t s (by
 simp only[V.A1]at l⊢;obtain⟨u,y,e,p,v,j,n,q,x,k,o,c,r⟩:=l;refine⟨u,y,e,p,v,j,n,q,x,k,o,?_,r⟩;rcases c with c|c|⟨_,c⟩
 ·cases c
 ·exact absurd c.1 (by simp[V.isAgg])
 ·exact .inr (.inr ⟨rfl,by simpa[V.Ac,D.An,V.A1,E6]using c⟩))⟩
def X0y:Xd prog 208=true:=by kernel_rfl
def Zsa:mQ.AZ []=some (e9 136 11 (.agg [.AM [],.agg [.int .i64 0,.int .i64 0,.int .i64 0,.AM [],.int .i64 0,.AT],.agg [.int .i64 0,.int .i64 0,.int .i64 0,.int .i64 0]])):=by kernel_rfl
def Xw2{P:Az}(c:P.p=prog){a b:List Ad}(g:b.length<=9223372036854775807)(i:∀x∈b,x.type.names.length<=9223372036854775807){e:AB}{K:V->Prop}(h:K (.d (.bool (decide (a=b))))):AU P 207 [.d (.AF 11 (a.map Ad.enc)),.d (.AF 11 (b.map Ad.enc)),.d (.fn 208 [] [])] e K:=
 AJ c AO (ds:=[.AF 11 (a.map Ad.enc),.AF 11 (b.map Ad.enc),.fn 208 [] []]) Zae Zsa BD.nil (fU rfl (λ_=>⟨rfl,rfl,rfl⟩) (by rw[c];exact X0y) (λk j f e K=>Xpt c (i _ (CS f))) g h)
include hP
theorem Xmg{x y:AI}(g:y.BC){o:AB}{K:V->Prop}(h:K (.d (.bool (decide (x=y))))):AU P 109 [.d x.enc,.d y.enc] o K:=by
 refine AJ hP AO (ds:=[x.enc,y.enc]) Y88 Y6f BD.nil ?_;have a:∀x:AI,(V.d x.enc).BM=some [.d (.AM x.name),.d (.AM x.FJ),.d (iD x.Bz),.d (iD x.BT),.d (.AF 11 (x.AL.map Ad.enc)),.d (.AF 4 (x.Aj.map Ax.enc))]:=λ_=>rfl;have c:∀x:AI,x.enc.sz=6:=λ_=>rfl;have e:∀x:AI,x.enc.shape.size=6:=λx=>by rw[CC];rfl
 have n:decide (x=y)=(decide (x.name=y.name)&&(decide (x.FJ=y.FJ)&&(decide (x.Bz=y.Bz)&&(decide (x.BT=y.BT)&&(decide (x.AL=y.AL)&&decide (x.Aj=y.Aj)))))):=by
  rw[Dl];cases x;cases y;simp
 rw[n]at h;by_cases b:x.name=y.name
 ·by_cases f:x.FJ=y.FJ
  ·by_cases i:x.Bz=y.Bz
   ·by_cases j:x.BT=y.BT
    ·simp[SW,a,c,e,b,f,i,j]at h⊢;refine AV.P7 (Xw2 hP g.AL g.names ?_).Bm;by_cases l:x.AL=y.AL
     ·simp[l,a]at h⊢;refine AV.P7 (Xpq hP g.Aj g.L6 ?_).Bm;by_cases m:x.Aj=y.Aj
      ·simpa[m,a]using h
      ·simpa[m,a]using h
     ·simpa[l,a]using h
    ·have k:(x.BT==y.BT)=false:=by simpa using j
     simpa[SW,a,c,e,b,f,i,j,k]using h
   ·simpa[SW,a,c,e,b,f,i]using h
  ·simpa[SW,a,c,e,b,f]using h
 ·simpa[SW,a,c,e,b]using h
omit hP
def Xw8:Xd prog 109=true:=by kernel_rfl
def Zrw:mD.AZ []=some (e9 54 6 (.agg [.AM [],.AM [],.int .i64 0,.int .i64 0,.AT,.AT])):=by kernel_rfl
def Xpr{P:Az}(c:P.p=prog){a b:List AI}(g:b.length<=9223372036854775807)(i:∀x∈b,x.BC){e:AB}{K:V->Prop}(h:K (.d (.bool (decide (a=b))))):AU P 108 [.d (.AF 6 (a.map AI.enc)),.d (.AF 6 (b.map AI.enc)),.d (.fn 109 [] [])] e K:=
 AJ c AO (ds:=[.AF 6 (a.map AI.enc),.AF 6 (b.map AI.enc),.fn 109 [] []]) Y87 Zrw BD.nil (fU rfl (λ_=>⟨rfl,rfl,rfl⟩) (by rw[c];exact Xw8) (λk j f e K=>Xmg c (i _ (CS f))) g h)
include hP
theorem Ysk{x y:Ah}(e:y.BC){p:AB}{K:V->Prop}(h:K (.d (.bool (decide (x=y))))):AU P 45 [.d x.enc,.d y.enc] p K:=by
 refine AJ hP AO (ds:=[x.enc,y.enc]) Znr Zjx BD.nil ?_;have c:∀x:Ah,(V.d x.enc).BM=some [.d (.AF 1 (x.Al.map .AM)),.d (.AF 5 (x.Au.map At.enc)),.d (.AF 6 (x.AD.map AI.enc)),.d (.AF 5 (x.AK.map Ai.enc)),.d (.AF 5 (x.AQ.map Ag.enc)),.d (.AF 3 (x.AN.map AR.enc))]:=λ_=>rfl;have n:∀x:Ah,x.enc.sz=6:=λ_=>rfl;have o:∀x:Ah,x.enc.shape.size=6:=λx=>by rw[CC];rfl
 have m:decide (x=y)=(decide (x.Al=y.Al)&&(decide (x.Au=y.Au)&&(decide (x.AD=y.AD)&&(decide (x.AK=y.AK)&&(decide (x.AQ=y.AQ)&&decide (x.AN=y.AN)))))):=by
  rw[Dl];cases x;cases y;simp
 rw[m]at h;simp[Zg8,c,n,o]at h⊢;refine ZX hP (a:=x.Al) (b:=y.Al) e.Al ?_;by_cases f:x.Al=y.Al
 ·simp[f,c]at h⊢;refine X90 hP e.Au ?_;by_cases g:x.Au=y.Au
  ·simp[g,c]at h⊢;refine AV.P7 (Xpr hP e.AD e.AP ?_).Bm;by_cases i:x.AD=y.AD
   ·simp[i,c]at h⊢;refine AV.P7 (X0h hP e.AK e.FN ?_).Bm;by_cases j:x.AK=y.AK
    ·simp[j,c]at h⊢;refine AV.P7 (Xmd hP e.AQ e.Ap ?_).Bm;by_cases k:x.AQ=y.AQ
     ·simp[k,c]at h⊢;refine AV.P7 (Xme hP e.AN e.CW ?_).Bm;by_cases l:x.AN=y.AN
      ·simpa[l,c]using h
      ·simpa[l,c]using h
     ·simpa[k,c]using h
    ·simpa[j,c]using h
   ·simpa[i,c]using h
  ·simpa[g,c]using h
 ·simpa[f,c]using h
omit hP
mutual
def eh:∀{x y:D},D.le x y->x.shape=y.shape
|.AT,y,h=>by
 simp only[D.le]at h;rcases h with rfl|⟨_,rfl⟩<;>rfl
|.agg b,y,h=>by
 simp only[D.le]at h;obtain⟨c,rfl,h⟩:=h;simp only[D.shape,xO h]
|.AF a b,y,h=>by
 simp only[D.le]at h;obtain⟨c,rfl,h⟩:=h;rfl
|.int ..,y,h|.bool ..,y,h|.AM ..,y,h|.Bo,y,h|.B1,y,h|.Bl,y,h|.B0,y,h|.Bd ..,y,h|.iface ..,y,h|.fn ..,y,h=>by
 simp only[D.le]at h;subst h;rfl
def xO:∀{b a:List D},Bq b a->D.BN b=D.BN a
|[],a,h=>by simp only[Bq]at h;subst h;rfl
|x::r,a,h=>by
 simp only[Bq]at h;obtain⟨y,s,rfl,c,d⟩:=h;simp only[D.BN,eh c,xO d]
end
def Qn(y:Ah):Int:=if y.AD.all KC then 0 else 130
def J8(y:Ah):Int:=if (Hv y).2=0 then (if (Hv y).1=y then 0 else 160) else (Hv y).2
include hP
theorem Xmc{y:Ah}(c:y.BC){i:AB}{K:V->Prop}(h:K (.d (iD (Qn y)))):AU P 22 [.d y.enc] i K:=by
 refine AJ hP AO (ds:=[y.enc]) Zm8 Zje BD.nil ?_;have g:∀x:Ah,(V.d x.enc).BM=some [.d (.AF 1 (x.Al.map .AM)),.d (.AF 5 (x.Au.map At.enc)),.d (.AF 6 (x.AD.map AI.enc)),.d (.AF 5 (x.AK.map Ai.enc)),.d (.AF 5 (x.AQ.map Ag.enc)),.d (.AF 3 (x.AN.map AR.enc))]:=λ_=>rfl;have q:∀x:AI,x.enc.sz=6:=λ_=>rfl;have p:∀x:AI,x.enc.shape.size=6:=λx=>by rw[CC];rfl
 have o:∀x:AI,x.enc.shape=.node [.AX,.AX,.AX,.AX,.AX,.AX]:=λ_=>rfl;have s:=c.AD;simp[Zgt,g];refine Ae.go (ι:=Nat) (λk=>[(7,.d (.AF 6 (y.AD.map AI.enc))),(8,.d (.int .i64 y.AD.length)),(9,.d (.int .i64 k))]) (λ_=>[(0,.box 29 (.d y.enc))]) (λk=>k<=y.AD.length/\(y.AD.take k).all KC=true) (λk=>y.AD.length-k) 0 ⟨DM _,by simp⟩ (by simp) (by simp) ?_;rintro k ⟨r,b⟩ R l j m t;by_cases a:k<y.AD.length
 ·have n:=w_s k (by omega);simp[Xy1,a,q,p,o];refine⟨rfl,zG hP (c.AP _ (CS a)) ?_⟩;by_cases e:KC y.AD[k]=true
  ·simp[e];refine l [] (k+1) _ _ ⟨by omega,?_⟩ (by omega) (by simp[n]) (by simp[AE]) (by simp[AE]) (by simp[AE]);rw[Ca a,QY,b];simp[e]
  ·simp[e];refine m _ _ ?_;simp;have:Qn y=130:=by
    rw[Qn,Af];intro f;exact e (DQ.1 f _ (CS a))
   rw[this]at h;exact h
 ·obtain rfl:k=y.AD.length:=by omega
  rw[C0]at b;have:Qn y=0:=by rw[Qn,BL b]
  rw[this]at h;simp[Xy1];refine j _ _ _ ?_;simpa using h
theorem Xw3{y:Ah}(g:y.BC)(k:y.P6){l:AB}{K:V->Prop}(h:K (.d (iD (J8 y)))):AU P 21 [.d y.enc] l K:=by
 refine AJ hP AO (ds:=[y.enc]) Zm7 Zjd BD.nil ?_;have n:∀x:Ah,(V.d x.enc).BM=some [.d (.AF 1 (x.Al.map .AM)),.d (.AF 5 (x.Au.map At.enc)),.d (.AF 6 (x.AD.map AI.enc)),.d (.AF 5 (x.AK.map Ai.enc)),.d (.AF 5 (x.AQ.map Ag.enc)),.d (.AF 3 (x.AN.map AR.enc))]:=λ_=>rfl;have j:y.enc.shape.size=6:=by rw[CC];rfl
 have m:y.enc.sz=6:=rfl;simp[Zgs,j,m];refine⟨rfl,X0g hP g k λd f=>?_⟩;have b:d.shape=.node [.AX,.AX,.AX,.AX,.AX,.AX]:=eh f;simp[b];have c:(match V.d d with
 |V.d (D.agg i)=>true
 |V.agg i=>true
 |x=>false)=true:=by
  cases d<;>simp[D.shape]at b⊢
 refine⟨λe=>?_,λe=>⟨rfl,c,rfl,c,AU.le (xs:=[d,y.enc]) (ys:=[(Hv y).1.enc,y.enc]) (Bq.cons f (Bq.cons (D.le.refl _) Bq.nil)) (Ysk hP g ?_)⟩⟩
 ·rw[J8,Af e]at h;exact h
 ·rw[J8,BL e]at h;by_cases a:(Hv y).1=y
  ·rw[BL a]at h;simpa[a]using h
  ·rw[Af a]at h;simpa[a]using h
omit hP
def Qf(l:List Int):List (D×V):=l.map λx=>(.int .i64 x,V.d (.bool true))
def Rv(x:Int):∀l:List Int,Yh (.int .i64 x) (Qf l)=if x∈l then some (V.d (.bool true)) else none
|[]=>rfl
|y::r=>by
 have a:=Rv x r;unfold Qf at a⊢;simp only[Cg,Yh,a,DA];by_cases e:x=y
 ·simp[e,C8]
 ·simp[e,C8]
def fq(x:Int)(l:List Int):U7 (.int .i64 0) (.int .i64 x) (Qf l):=by
 refine⟨rfl,λe a=>?_⟩;obtain⟨y,_,rfl⟩:=C9.1 a;rfl
def R5(p:Nat->Bool):∀l:List Int,Ym p (Qf l)=false
|[]=>rfl
|y::r=>by
 have a:=R5 p r;unfold Qf at a⊢;simp[Ym,a,V.BJ]
def V2{p:Nat->Bool}{id:Nat}{a:List (D×V)}(c:Ym p a=false):∀{e:AB},AH p e=true->AH p (AG e id (.map a))=true
|[],_=>rfl
|(j,o)::r,h=>by
 have b:AH p r=true:=by cases o<;>simp[AH]at h<;>first|exact h|exact h.2
 simp only[AG];split
 ·simp[AH,c,b]
 ·have d:=V2 (id:=id) c b;cases o<;>simp[AH]at h⊢<;>first|exact d|exact⟨h.1,d⟩
def LU(l:List Int)(n:Int):Bool:=decide l.Nodup&&decide ((l.length:Int)=n)
include hP
theorem Yh0{l:List Int}{n:Int}{m:Nat}(L:l.length<=9223372036854775807){i:AB}(t:AA i m=some (.map [])){K:A7->AB->Prop}(h:∀j,K (.ret (.d (.bool (LU l n)))) (AG i m (.map j))):AV P 48 [.mp m,.d (X9 l),.d (.int .i64 n)] i K:=by
 refine Xk hP AO Zf1 Zc2 BD.nil λ_ r=>?_;have M:=Xf t;simp[Zbi,X9];have g:∀j b,b=LU l n->(∀p,Ym p j=false)->X0 (fresh i) (K (.ret (.d (.bool b)))) [] (AG i m (.map j)):=λj b s q=>by
  subst s;have v:Xh (AE (fresh i) []) (AG i m (.map j))=AG i m (.map j):=Xe (by simp);exact⟨[],by simp,by rw[v];exact V2 (q _) (r []),by rw[v];exact h j⟩
 refine Ae.go (ι:=Nat) (λk=>[(0,.mp m),(1,.d (X9 l)),(2,.d (.int .i64 n)),(9,.d (X9 l)),(10,.d (.int .i64 l.length)),(11,.d (.int .i64 k))]) (λk=>AG i m (.map (Qf (l.take k)))) (λk=>k<=l.length/\(l.take k).Nodup) (λk=>l.length-k) 0 ⟨DM _,by simp⟩ (by simp[X9]) (by simp[Qf,Wn t]) ?_;rintro k ⟨J,q⟩ R F z G N;have x:∀o,AA (AG i m o) m=some o:=λo=>by rw[Xc i m m ⟨_,t⟩,BL rfl]
 by_cases f:k<l.length
 ·have H:=w_s k (by omega);by_cases c:l[k]∈l.take k
  ·simp[VK,f,X9,x,Rv,fq,c];refine G _ _ ?_;simp;refine g _ _ ?_ (R5 · _);have:¬l.Nodup:=λw=>by
    rw[<-Kh k l,Db f]at w;exact(Em.1 w).2.2 _ c _ List.mem_cons_self rfl
   simp[LU,this]
  ·have u:EL (.int .i64 l[k]) (V.d (.bool true)) (Qf (l.take k))=Qf (l.take (k+1)):=by
    rw[Wo _ _ _ (by rw[Rv,Af c]),Ca f];rw[Qf,Qf,Ij];rfl
   simp[VK,f,X9,x,Rv,fq,c,u,X4];refine F [] (k+1) _ _ ⟨by omega,?_⟩ (by omega) (by simp[H,X9]) ?_ ?_ ?_
   ·rw[Ca f,Em];exact⟨q,by simp,λa y b s=>by rw[DW]at s;subst s;exact λe=>c (e▸y)⟩
   ·exact Xe (by simp)
   ·simp[AE];omega
   ·exact V2 (R5 _ _) (by simpa using r [])
 ·obtain rfl:k=l.length:=by omega
  rw[C0]at q;simp[VK,X9];refine z _ _ _ ?_;simp[X9];refine g _ _ ?_ (R5 · _);simp[LU,q];rfl
omit hP
def Yx7:Nat:=0x1000c8da5ea8437e10228dc000144b709404508e0718c925600718785a0df00701352325600712401119e01000100f00c08305aab022b256006124bd0256ace7cb63300d0804f81247d438400e081
def n7:Nat:=0x1c190234b702200102105f1932972204f502201f1346b70200e801f4b705c04508e07149511400505901d82101e2c711400401c0e841000905b01708e01709401701b46e8cc21e0198c501901f674c8d0a8c8d09718225f03b07889d25d00a2ba01400805d209a9701803668a0368ca0360020080363b503604b0081e51e509f00b02895d7b579440101030a7d8
def ou:S:=zS [(zS [] Yx7)] n7
def ok7:Xr prog 7 1 ou [.c 2 7 true,.t 3]=true:=by kernel_rfl
def n23:Nat:=0x17dc0227bb29e35c01d9ea01c17c10001b14f00303035610055d100b67016c2810016c1009b90007673203d800bc20013b843e74a1124a3c87101294a31f0100a118300e00505b00b08e9f900f02507f01e0f701932c8cdc3d00a0a105c078ca466382100919f5e50070e805a02f32c2279ed6c8
def jM:S:=zS [] n23
def Zm9:Xr prog 23 1 jM [.t 2]=true:=by kernel_rfl
def pI:Nat:=0x104c00437a02e000a7c05b0171599ce059d0d0a106885d309012152013676011431012488005b4ac7203300da7200d2605160719ce00dd0d0a10480711e40b300305900b8e900c94a1fd08f933a810905a503c14802e106007b8201e08e03200d0830064b91b6046059d0dadd011071
def jY:S:=zS [] pI
def Znb:Xr prog 25 1 jY [.t 2,.t 3,.t 4]=true:=by kernel_rfl
def n47:Nat:=0x17dc0227bb61f50632001521a109013b843e73810a7a3c8710122c7005b4a0a118300e00505b00b08e9f900f02507f01e0f701932c8cdc3d00a0a105c078ca466382100919f5e50070e805a00832c2279ed6c8
def jq:S:=zS [] n47
def Znt:Xr prog 47 1 jq [.t 2]=true:=by kernel_rfl
def Yfx:Nat:=0x1000bb072801107401004443a
def Yfw:Nat:=0x100082508b04102907402814ec090704de12c8049409da0f214199913b6dd0ff0461b903361605328d0203e80e811d30954226306891f03057926d40d00a0f80090e10c600203e0a30ef0469da2b902d4320ac57926d40d00902bc589e43cfa5508b86400856a02908002982500902702800d02a081
def cz:Nat:=0x1063c09430c0909702634621f04d026246
def cx:Nat:=0x14af26dc5e0245b68049b90226dd0200462251268f15440d008328645299901c6dd01a0461b901b0209d96b70203e80e80193095422630683d25440060178835a403e0a30156dd2b90154320ac26dc5e0130e057b42134005d7a5cfb01108079906c00f741012081
def pR:Nat:=0x1c195c43090450a206a7debb00a8bb009700eb9605e08db092b900c309843af80902639b957f0087b2bbe0061657b55425a503c44c30a7d8
def jt:S:=zS [(zS [(zS [(zS [] Yfw)] cz),(zS [] Yfx)] cx)] pR
def Znv:Xr prog 50 1 jt [.c 2 2 true,.t 3]=true:=by kernel_rfl
def n51:Nat:=0x150800375b03f0a3805194
def ju:S:=zS [] n51
def Znw:Xr prog 51 1 ju [.t 2]=true:=by kernel_rfl
def n52:Nat:=0x107705501e083040c5107804603304088d113
def jv:S:=zS [] n52
def Znx:Xr prog 52 1 jv [.t 2]=true:=by kernel_rfl
def Ze0:Nat:=0x107d00c24500bc5822000d32103d00905e96507828047596512604a3a605108737389a88d247
def lW:S:=zS [] Ze0
def Y9h:Xr prog 118 2 lW [.t 4]=true:=by kernel_rfl
def s9:Nat:=0x104b04d0070d07f6
def Cb:S:=zS [] s9
def tA:Nat:=0x104000b0450142204b600904341b00505f0435c216f072
def Cc:S:=zS [] tA
def Zky:Nat:=0x107d1b505b04300dbc943136106300608e03f1b404b07943105108a89d25d03008f5e9247
def PW:S:=zS [Cb,Cc] Zky
def Y9i:Hh prog 119 2 PW [.t 4]=true:=by kernel_rfl
def tB:Nat:=0x1000c300200e61ae0c22d843a
def yM:Nat:=0x11799fe0a904143704d06501d1b106d11b01d0babc0c0601a233c920090590199609697c7433a5416005067bc923855360850113180fd01373801208c01131800a06b011ccf67bc9200800f19b01e00e08c0c200a43306831400d1c044380700855caad00e196
def hX:Nat:=0x1063c30372c300590630c00098c70db0572270440794472ef0f600685434a061c150042793545c40541c5354007b69b69c1f00904c8a10ac07334a006c0519e0010ea0940ea03602513bc0b1410f44270ff3d506511d01d0ba00503201e1e9003b17a0b0b31010590e100f74f1e63e3d5204202a0e002b01e9d9
def tC:Nat:=0x1000a1c02901507461202a1f8
def hY:Nat:=0x1179a1c88a04d0650262b719a2860babc0023048023d28087059d4d0460200c5598160050d280af78707514f10601c02345201a99919a5620d100606b8cc439d280af0160a901420501508020c5240afad9b71081
def kO:Nat:=0x10e734a00420f063a1c0a8a1ca6051eb0252152404b0110d00100208594b41b30282ab46434fcf70010830543b704363f6ec8f7cf702b083c5b41f7b6c5b04e7030542253b781e32605ccf702b08384401d41f7b6c5b04e703a7a04dccb05c00f7b684401d04eccb48e7030542253b705f045a3b020211054
def lX:S:=zS [(zS [(zS [] tC)] hY),(zS [(zS [(zS [] tB)] yM)] hX)] kO
def Y9j:Xr prog 120 2 lX []=true:=by kernel_rfl
def tD:Nat:=0x11f581400681907514f0010d001c4b68d541b04801b04613200106104404b0448cc00b0bf01206d0b33210160d049400701202201d068003b170140805d106d00437101300701202101403b078
def ym:Nat:=0x1000cbe0218c10001fe0e200a012814b5f1f581400601102001d39a9990e362b00f87705081400500d08f00b2058991aa0510059fd
def kP:Nat:=0x10770220a100302305b125cbe0a8cbeb8851eb9a0680de054d4906021e02002501d00651e00724604603004088d113
def lY:S:=zS [(zS [(zS [] tD)] ym)] kP
def Y9k:Xr prog 121 1 lY [.t 2]=true:=by kernel_rfl
def Zxi:Nat:=0x1a827210211a40fd15f05c98a09b91a3b800036645816f09b05d0480c14d80033667f608f068
def lZ:S:=zS [] Zxi
def Yy3:Xr prog 122 2 lZ []=true:=by kernel_rfl
def Ze1:Nat:=0x15081f38053ad
def lj:S:=zS [] Ze1
def oM:Xr prog 123 1 lj [.t 2]=true:=by kernel_rfl
def Zxj:Nat:=0x1aae0a120e04b0014d800436680500b059a330221a405cac253d1c4240d6c17e0080b753d0dc07405d4b504309b91a3b800036604b15909b031092
def yn:S:=zS [] Zxj
def Y9l:Xr prog 124 1 yn [.t 2]=true:=by kernel_rfl
def Zsj:Nat:=0x139001600229e0e2048002091002012d6c9be040071aa75f68fc79daaf17c0e4282780d770000e416c00b5380e40bfba60080b206b0fe00a0ac04ea5a08f2ae00608d04a5e40d0071072
def ko:Nat:=0x106300105f066
def nT:S:=zS [(zS [] Zsj)] ko
def Zao:Xr prog 217 2 nT []=true:=by kernel_rfl
def Zsk:Nat:=0x110a2770c619e17c0e2009277268002028d6c17cb2b071aa774c1293f002600914a518d770070870400247e3
def Zq5:Nat:=0x117912962102200a21205f040aba00a1297fc05602001c4b905b01dd770dd03d98a2aabc22aa09ba66000132152263bbd6741727fc01800ba400443a728a1723f00163b604c078aa785d0733f00148801c4013c111782b495239a2b30477642bb0ac07362161742604400c2ae0a700700d159072
def kr:Nat:=0x10950f80a90e10ef23710a02e4a30072771bd00727715c35cbc61651ab
def nU:S:=zS [(zS [(zS [] Zsk)] Zq5)] kr
def Zap:Xr prog 218 3 nU [.t 6]=true:=by kernel_rfl
def Zfw:Nat:=0x109500f0a900e971ccbd112561061c9b4d0734e15cb29a0630f51cd
def ns:S:=zS [] Zfw
def Za3:Xr prog 320 3 ns [.t 6]=true:=by kernel_rfl
def Zfx:Nat:=0x107701f0a101e0030d60b64b401b3a101c042a3401a0f902601d0fd197b4c004a1004201509f0164fb04201127d28706e634a2a3d705f53d00f0e881c00d89f0fd0f72b7004bc23b7b064b91e91ad8acaf41ea01e8e729a20e05f09b031092
def nt:S:=zS [] Zfx
def Za4:Xr prog 321 1 nt [.t 2]=true:=by kernel_rfl
def Zfy:Nat:=0x117e9ddbe81b50120104b601104341b41f0465df00d4747ad84b5547f10521ce04400a08708f106007b822bb0f442700119e36b
def nu:S:=zS [] Zfy
def Yy6:Xr prog 322 2 nu []=true:=by kernel_rfl
def Zfz:Nat:=0x1ab101385508b51201207500705aab08ad9ec0644e1040b2706d10604705009b0400a98fd25653509e0610ca46d000
def nv:S:=zS [] Zfz
def Za5:Xr prog 324 3 nv []=true:=by kernel_rfl
def cK:S2:=zL [] [] Yx7
def Yee:=(by cbv:cK=_)
def lt7:S2:=zL [] [cK] n7
def Et7:=(show lt7=_ from (λa=>(by cbv:zL [] [a] n7=_)) cK)
def lf7:ou.AZ []=some lt7:=by kernel_rfl
def Zdc:S2:=zL [] [] n23
def Zgu:=(by cbv:Zdc=_)
def Zjf:jM.AZ []=some Zdc:=by kernel_rfl
def Zde:S2:=zL [] [] pI
def Zgw:=(by cbv:Zde=_)
def Zjh:jY.AZ []=some Zde:=by kernel_rfl
def Zdw:S2:=zL [] [] n47
def Zg9:=(by cbv:Zdw=_)
def Zjz:jq.AZ []=some Zdw:=by kernel_rfl
def VX:S2:=zL [] [] Yfx
def Yho:=(by cbv:VX=_)
def gV:S2:=zL [] [] Yfw
def Xzg:=(by cbv:gV=_)
def VY:S2:=zL [] [gV] cz
def Yhp:=(show VY=_ from (λa=>(by cbv:zL [] [a] cz=_)) gV)
def gW:S2:=zL [] [VY,VX] cx
def Xzh:=(show gW=_ from (λ(a b:S2)=>(by cbv:zL [] [a,b] cx=_)) VY VX)
def Zdz:S2:=zL [] [gW] pR
def Zha:=(show Zdz=_ from (λa=>(by cbv:zL [] [a] pR=_)) gW)
def Zj1:jt.AZ []=some Zdz:=by kernel_rfl
def Zd0:S2:=zL [] [] n51
def Zhb:=(by cbv:Zd0=_)
def Zj2:ju.AZ []=some Zd0:=by kernel_rfl
def Zd1:S2:=zL [] [] n52
def Zhc:=(by cbv:Zd1=_)
def Zj3:jv.AZ []=some Zd1:=by kernel_rfl
def Yvg:S2:=zL [] [] Ze0
def Y0x:=(by cbv:Yvg=_)
def Y6o:lW.AZ []=some Yvg:=by kernel_rfl
def z8:S2:=zL [] [] s9
def yO:=(by cbv:z8=_)
def Ycy:Cb.AZ []=some z8:=by kernel_rfl
def Xvn:S2:=zL [] [] tA
def xx:=(by cbv:Xvn=_)
def Ycz:Cc.AZ []=some Xvn:=by kernel_rfl
def Yvh:S2:=.seq (.rg [.op (some 2) (.box 32 (.t 0))] [(1,(.a (.t 1))),(2,(.a (.t 2))),(4,(.a .AT))] [])
 (.seq (.seq (.rg [] [(2,(.a (.t 2))),(4,(.a (.t 4))),(6,(.a (.t 1)))] [])
 (.block 0 (.E4 119 [7] (.t 6) Cb Cc [2,4])))
 (.seq (.rg [] [(4,(.u (.ld 1 false (.t 0)) (.a (.t 2))))] [])
 (.ret)))
def Y6p:PW.AZ []=some Yvh:=by kernel_rfl
def fG:S2:=zL [] [] tB
def x8:=(by cbv:fG=_)
def UI:S2:=zL [] [fG] yM
def xy:=(show UI=_ from (λa=>(by cbv:zL [] [a] yM=_)) fG)
def UJ:S2:=zL [] [UI] hX
def x7:=(show UJ=_ from (λa=>(by cbv:zL [] [a] hX=_)) UI)
def fH:S2:=zL [] [] tC
def eG:=(by cbv:fH=_)
def UU:S2:=zL [] [fH] hY
def eF:=(show UU=_ from (λa=>(by cbv:zL [] [a] hY=_)) fH)
def Yvi:S2:=zL [] [UU,UJ] kO
def Y0y:=(show Yvi=_ from (λ(a b:S2)=>(by cbv:zL [] [a,b] kO=_)) UU UJ)
def Y6q:lX.AZ []=some Yvi:=by kernel_rfl
def UW:S2:=zL [] [] tD
def x9:=(by cbv:UW=_)
def eN:S2:=zL [] [UW] ym
def yA:=(show eN=_ from (λa=>(by cbv:zL [] [a] ym=_)) UW)
def Yvj:S2:=zL [] [eN] kP
def Y0z:=(show Yvj=_ from (λa=>(by cbv:zL [] [a] kP=_)) eN)
def Y6r:lY.AZ []=some Yvj:=by kernel_rfl
def n0:S2:=zL [] [] Zxi
def Zui:=(by cbv:n0=_)
def Yuw:lZ.AZ []=some n0:=by kernel_rfl
def Yvk:S2:=zL [] [] Ze1
def lC:=(by cbv:Yvk=_)
def ny:lj.AZ []=some Yvk:=by kernel_rfl
def Yvl:S2:=zL [] [] Zxj
def Zvr:=(by cbv:Yvl=_)
def Y6s:yn.AZ []=some Yvl:=by kernel_rfl
def VA:S2:=zL [] [] Zsj
def Zrg:=(by cbv:VA=_)
def Ywp:S2:=zL [] [VA] ko
def Y1k:=(show Ywp=_ from (λa=>(by cbv:zL [] [a] ko=_)) VA)
def Y7q:nT.AZ []=some Ywp:=by kernel_rfl
def fc:S2:=zL [] [] Zsk
def Zs4:=(by cbv:fc=_)
def Rj:S2:=zL [] [fc] Zq5
def Zpv:=(show Rj=_ from (λa=>(by cbv:zL [] [a] Zq5=_)) fc)
def Ywq:S2:=zL [] [Rj] kr
def Y1l:=(show Ywq=_ from (λa=>(by cbv:zL [] [a] kr=_)) Rj)
def Y7r:nU.AZ []=some Ywq:=by kernel_rfl
def Yw4:S2:=zL [] [] Zfw
def Y1y:=(by cbv:Yw4=_)
def Y75:ns.AZ []=some Yw4:=by kernel_rfl
def Yw5:S2:=zL [] [] Zfx
def Y1z:=(by cbv:Yw5=_)
def Y76:nt.AZ []=some Yw5:=by kernel_rfl
def Yw6:S2:=zL [] [] Zfy
def Yq6:=(by cbv:Yw6=_)
def Yuz:nu.AZ []=some Yw6:=by kernel_rfl
def Yw7:S2:=zL [] [] Zfz
def Y10:=(by cbv:Yw7=_)
def Y77:nv.AZ []=some Yw7:=by kernel_rfl
def Ps:Option (List Int)->D
|some l=>X9 l
|none=>.AT
def rl{d:D}{l:List Int}(h:D.le d (X9 l)):d=X9 l\/(d=.AT/\l=[]):=by
 have e:∀(l:List Int)(b:List D),Bq b (l.map iD)->b=l.map iD:=λl=>by
  induction l with
  |nil=>intro b h;cases b with
   |nil=>rfl
   |cons x r=>simp[Bq]at h
  |cons a r i=>intro b h;cases b with
   |nil=>simp[Bq]at h
   |cons x s=>
    simp only[Cg,Bq]at h;obtain⟨y,t,e,f,c⟩:=h;cases e;rw[i _ c,Cg];congr 1;cases x<;>simp[D.le]at f<;>simp[f]
 cases d with
 |AT=>simp[D.le,X9]at h;exact .inr ⟨rfl,h⟩
 |AF a b=>
  simp only[D.le,X9]at h;obtain⟨j,g,c⟩:=h;cases g;left;rw[e l b c];rfl
 |_=>simp[D.le,X9]at h
structure HU(P:Az)(y:Ah)(e:Int)(o:Option (List Int)):Prop where
 call:∀(ob:AB)(K:V->Prop),(∀d,D.le d (Ps o)->K (.BE [.d d,.d (.bool o.isSome),.d (iD e)]))->AU P 25 [.d y.enc] ob K
 len:∀l,o=some l->l.length<=9223372036854775807
def Q0(y:Ah)(e:Int)(o:Option (List Int)):Int:=if Uj y=0 then (if e=0 then (if o.isSome then 0 else 141) else e) else Uj y
def XA(y:Ah):Option (List Int)->Bool
|some l=>LU l y.AD.length
|none=>false
def Vw(y:Ah)(e:Int)(o:Option (List Int)):Int:=if Q0 y e o=0 then (if XA y o then 0 else 141) else Q0 y e o
include hP
theorem X93{y:Ah}(f:y.BC){e:Int}{o:Option (List Int)}(c:HU P y e o){g:AB}{K:V->Prop}(h:K (.d (iD (Q0 y e o)))):AU P 47 [.d y.enc] g K:=by
 refine AJ hP AO (ds:=[y.enc]) Znt Zjz BD.nil ?_;have i:y.enc.shape.size=6:=by rw[CC];rfl
 have j:y.enc.sz=6:=rfl;simp[Zg9,i,j];refine⟨rfl,US hP f ?_⟩;by_cases a:Uj y=0
 ·simp[a];refine⟨rfl,c.call _ _ λd k=>?_⟩;by_cases b:e=0
  ·cases o<;>simpa[b,Q0,a]using h
  ·simpa[b,Q0,a]using h
 ·simpa[a,Q0]using h
theorem X9n{n:Int}{m:Nat}{a:AB}(f:AA a m=some (.map [])){K:A7->AB->Prop}(h:∀g,K (.ret (.d (.bool (LU [] n)))) (AG a m (.map g))):AV P 48 [.mp m,.d .AT,.d (.int .i64 n)] a K:=by
 refine Xk hP AO Zf1 Zc2 BD.nil λ_ c=>?_;have l:=Xf f;simp[Zbi];refine Ae.go (ι:=Nat) (λk=>[(0,.mp m),(1,.d .AT),(2,.d (.int .i64 n)),(9,.d .AT),(10,.d (.int .i64 0)),(11,.d (.int .i64 0))]) (λ_=>a) (λ_=>True) (λk=>0) 0 trivial (by simp) rfl ?_;rintro k _ R o j q p;simp[VK];refine j _ _ _ ?_;simp;have i:=Wn f;have b:=h [];rw[i]at b;refine⟨[],by simp,by simpa using c [],?_⟩;have e:LU [] n=((0:Int)==n):=by simp[LU];rfl
 rw[e]at b;simpa[AE]using b
theorem X0n{y:Ah}(p:y.BC){e:Int}{o:Option (List Int)}(c:HU P y e o){r:AB}{K:V->Prop}(h:K (.d (iD (Vw y e o)))):AU P 23 [.d y.enc] r K:=by
 refine AJ hP AO (ds:=[y.enc]) Zm9 Zjf BD.nil ?_;have s:y.enc.shape.size=6:=by rw[CC];rfl
 have t:y.enc.sz=6:=rfl;have q:∀x:Ah,(V.d x.enc).BM=some [.d (.AF 1 (x.Al.map .AM)),.d (.AF 5 (x.Au.map At.enc)),.d (.AF 6 (x.AD.map AI.enc)),.d (.AF 5 (x.AK.map Ai.enc)),.d (.AF 5 (x.AQ.map Ag.enc)),.d (.AF 3 (x.AN.map AR.enc))]:=λ_=>rfl;simp[Zgu,s,t];refine⟨rfl,X93 hP p c ?_⟩;by_cases a:Q0 y e o=0
 ·have f:e=0:=by
   unfold Q0 at a;split at a
   ·split at a
    ·assumption
    ·exact a
   ·contradiction
  have g:o.isSome=true:=by
   unfold Q0 at a;split at a
   ·rename_i u;cases m:o.isSome with
    |true=>rfl
    |false=>simp[m,f]at a
   ·contradiction
  rw[Vw,BL a]at h;simp[a];refine⟨rfl,c.call _ _ λd j=>?_⟩;cases o with
  |none=>cases g
  |some l=>
   simp[f,q,XA]at h⊢;have Cm:∀v b,v=V.d (.bool b)->K (.d (.int .i64 (if b=true then 0 else 141)))->S9 v/\Hf (K (V.d (D.int IntKind.i64 141))) (K (V.d (D.int IntKind.i64 0))) (M0 v):=λv b n k=>by
    subst n;cases b<;>simpa using k
   rcases rl j with rfl|⟨rfl,rfl⟩
   ·refine Yh0 hP (c.len l rfl) (by simp[AA]) λi=>?_;exact Cm _ _ rfl h
   ·refine X9n hP (by simp[AA]) λi=>?_;exact Cm _ _ rfl h
 ·simpa[a,Vw]using h
omit hP
abbrev We:D:=.agg [.agg [.AT,.AT,.AT,.AT,.AT,.AT],.AT]
def Y2a(y:Ah):Int:=if y.AQ.all (Hw y) then 0 else 150
def Qb(y:Ah)(e:Int)(o:Option (List Int)):List Int:=[J8 y,Uj y,Qn y,Vw y e o,Y2a y]
def Md:List Int->Int
|[]=>0
|x::r=>if x=0 then Md r else x
def LL(y:Ah)(e:Int)(o:Option (List Int)):Int:=Md (Qb y e o)
def u9:∀(l:List Int)(k:Nat)(h:k<l.length),(∀x∈l.take k,x=0)->l[k]≠0->Md l=l[k]
|x::r,0,_,_,h=>by simp only[List.getElem_cons_zero]at h⊢;rw[Md,Af h]
|x::r,k+1,b,a,h=>by
 have c:=a x (by simp);rw[Md,BL c];exact u9 r k (by simpa using b) (λz d=>a z (by simp[d])) h
def vA:∀(l:List Int),(∀x∈l,x=0)->Md l=0
|[],_=>rfl
|x::r,h=>by rw[Md,BL (h x (by simp))];exact vA r (λz a=>h z (by simp[a]))
def Sy:List Nat:=[21,8,22,23,24]
def X0t:Sy.all (Xd prog)=true:=by kernel_rfl
include hP
theorem Yig{y:Ah}(n:y.BC)(T:y.P6){e:Int}{o:Option (List Int)}(N:HU P y e o){g:AB}{K:V->Prop}(t:LL y e o≠0->K (.BE [.d We,.d (iD (LL y e o))]))(Y:LL y e o=0->∀d,D.le d (Ps o)->K (.BE [.d (.agg [y.enc,d]),.d (iD 0)])):AU P 7 [.d y.enc] g K:=by
 refine AJ hP AO (ds:=[y.enc]) ok7 lf7 BD.nil ?_;have H:y.enc.shape.size=6:=by rw[CC];rfl
 have J:y.enc.sz=6:=rfl;have step:∀(k:Nat)(b:k<5)(g:AB)(K:V->Prop),K (.d (iD ((Qb y e o)[k]'b)))->AU P (Sy[k]'b) [.d y.enc] g K:=λk b g K h=>by
  match k,b,h with
  |0,_,h=>exact Xw3 hP n T h
  |1,_,h=>exact US hP n h
  |2,_,h=>exact Xmc hP n h
  |3,_,h=>exact X0n hP n N h
  |4,_,h=>exact X97 hP n T.AL h
 have u:∀(k:Nat)(b:k<5),Xd P.p (Sy[k]'b)=true:=λk b=>by
  rw[hP];exact DQ.1 X0t _ (CS b)
 simp[Et7,H,J];have w1:IntKind.i64.wrap 1=1:=w_i _ (by omega);have w2:IntKind.i64.wrap 2=2:=w_i _ (by omega);have w3:IntKind.i64.wrap 3=3:=w_i _ (by omega);have w4:IntKind.i64.wrap 4=4:=w_i _ (by omega);have w5:IntKind.i64.wrap 5=5:=w_i _ (by omega);have l:(Qb y e o).length=5:=rfl;refine Ae.go (ι:=Nat) (λk=>[(1,.ptr 0 []),(2,.ptr 1 []),(11,.d (.agg [.fn 21 [] [],.fn 8 [] [],.fn 22 [] [],.fn 23 [] [],.fn 24 [] []])),(12,.d (.int .i64 k))])
  (λ_=>[(2,.box 78 (.agg [.fn 21 [] [],.fn 8 [] [],.fn 22 [] [],.fn 23 [] [],.fn 24 [] []])),(1,.box 34 (.d We)),(0,.box 29 (.d y.enc))]) (λk=>k<=5/\∀x∈(Qb y e o).take k,x=0) (λk=>5-k) 0 ⟨DM _,by simp⟩ (by simp) rfl ?_
 rintro k ⟨b,v⟩ R rn re rr rp;by_cases a:k<5
 ·have wr:=w_s k (by omega);have W:=step k a;have O:=u k a;have U:∀z,z=(Qb y e o)[k]'a->z=0->∀x∈(Qb y e o).take (k+1),x=0:=λz c t x j=>by
   rw[Ca (by rw[l];exact a),DF,DW]at j;rcases j with j|j
   ·exact v x j
   ·exact(j.trans c.symm).trans t
  have L:∀z,z=(Qb y e o)[k]'a->z≠0->K (.BE [.d We,.d (.int .i64 z)]):=λz c m=>by
   have Z:=u9 (Qb y e o) k a v (λh=>m (c.trans h));have:LL y e o=z:=by rw[LL,Z,c]
   have:=t (by rw[this];exact m)
   rwa [show LL y e o=z by assumption]at this
  have w:k=0\/k=1\/k=2\/k=3\/k=4:=by omega
  obtain⟨z,c⟩:∃z,z=(Qb y e o)[k]'a:=⟨_,rfl⟩
  have q:∀g K,K (.d (.int .i64 z))->AU P (Sy[k]'a) [.d y.enc] g K:=λg K h=>W g K (by rw[<-c];exact h);have G:=U z c;have s:=L z c;clear W U L;rcases w with rfl|rfl|rfl|rfl|rfl
  all_goals
   simp[Sy]at q O;simp[Yee,H,J,O];refine⟨⟨rfl,rfl,rfl,rfl,rfl⟩,rfl,(q _ _ ?_).Bm⟩;by_cases r:z=0
   ·simp[r,w1,w2,w3,w4,w5];exact rn [] _ _ _ ⟨by omega,G r⟩ (by omega) (by simp) (by simp[AE]) (by simp[AE]) (by simp[AE,AH,V.BJ,BO])
   ·simp[r];refine rr _ _ ?_;simpa using s r
 ·obtain rfl:k=5:=by omega
  have c:∀x∈Qb y e o,x=0:=v;have F:LL y e o=0:=vA _ c;have i:Vw y e o=0:=c _ (by simp[Qb]);have f:Q0 y e o=0:=by
   unfold Vw at i;split at i
   ·assumption
   ·exact i
  have X:e=0:=by
   unfold Q0 at f;split at f
   ·split at f
    ·assumption
    ·exact f
   ·contradiction
  simp[Yee];refine re _ _ _ ?_;simp[H,J];refine⟨rfl,N.call _ _ λd Q=>?_⟩;have M:d.shape=.AX:=by
   have:=eh Q;cases o<;>exact this
  have yh:y.enc.shape=.node [.AX,.AX,.AX,.AX,.AX,.AX]:=rfl;have b:=Y F d Q;simp[X,M,yh,DZ,Bt,Zf,D.shape,D.BN];exact⟨rfl,b⟩
omit hP
structure ZE(y:Ah):Prop where
 Al:y.Al.length<=4
 Au:y.Au.length<=5
 AD:y.AD.length<=6
 AK:y.AK.length<=4
 AQ:y.AQ.length<=4
 AN:y.AN.length<=4
 AP:∀k (h:k<y.AD.length),y.AD[k].AL.length<=6/\y.AD[k].Aj.length<=4
 FN:∀k (h:k<y.AK.length),y.AK[k].AW.length<=4/\y.AK[k].Ak.length<=5/\y.AK[k].BK.length<=6
 Ap:∀k (h:k<y.AQ.length),y.AQ[k].Ap.length<=6
 CW:∀k (h:k<y.AN.length),y.AN[k].CW.length<=10
include hP
theorem X9v{y:Ah}(r:y.BC){F:AB}{K:V->Prop}(h:∀b,(b=true->ZE y)->K (.d (.bool b))):AU P 6 [.d y.enc] F K:=by
 have s:=@w_t;refine AJ hP AO (ds:=[y.enc]) ok6 lf6 BD.nil ?_;simp[Et6,Ah.enc,Xg];refine Ae.go (ι:=Nat) (λi=>[(1,.ptr 0 []),(3,.d (.int .i64 i))]) (λ_=>[(0,.box 29 (.d y.enc))]) (λi=>i<=y.AD.length/\∀k (h:k<y.AD.length),k<i->y.AD[k].AL.length<=6/\y.AD[k].Aj.length<=4) (λi=>y.AD.length-i) 0 ⟨DM _,λ_ _ h=>by omega⟩ (by simp) (by simp[Ah.enc,Xg]) ?_;intro k ⟨p,u⟩ R g f l q;by_cases a:k<y.AD.length
 ·simp[Yed,a,Ah.enc,Xg,AI.enc];refine⟨λ_=>l _ _ (by simp;exact h _ (λe=>by cases e)),λt z=>g [] (k+1) _ _ ⟨by omega,λj m o=>?_⟩ (by omega) (by simp[s a r.AD]) (by simp[AE,Ah.enc,Xg]) (by simp[AE]) (by simp[AE])⟩;rcases FP j k with c|c
  ·exact u j m c
  ·obtain rfl:j=k:=by omega
   omega
 have:k=y.AD.length:=by omega
 subst this;simp[Yed,Ah.enc,Xg];refine f _ _ _ ?_;clear f l q g p a;simp[Ah.enc,Xg];refine Ae.go (ι:=Nat) (λi=>[(1,.ptr 0 []),(4,.d (.int .i64 i))]) (λ_=>[(0,.box 29 (.d y.enc))]) (λi=>i<=y.AK.length/\∀k (h:k<y.AK.length),k<i->y.AK[k].AW.length<=4/\y.AK[k].Ak.length<=5/\y.AK[k].BK.length<=6) (λi=>y.AK.length-i) 0 ⟨DM _,λ_ _ h=>by omega⟩ (by simp) (by simp[Ah.enc,Xg]) ?_;intro k ⟨p,v⟩ R g f l q;by_cases a:k<y.AK.length
 ·simp[Yec,a,Ah.enc,Xg,Ai.enc];refine⟨λ_=>l _ _ (by simp;exact h _ (λe=>by cases e)),λt z G=>g [] (k+1) _ _ ⟨by omega,λj m o=>?_⟩ (by omega) (by simp[s a r.AK]) (by simp[AE,Ah.enc,Xg]) (by simp[AE]) (by simp[AE])⟩;rcases FP j k with c|c
  ·exact v j m c
  ·obtain rfl:j=k:=by omega
   omega
 have:k=y.AK.length:=by omega
 subst this;simp[Yec,Ah.enc,Xg];refine f _ _ _ ?_;clear f l q g p a;simp[Ah.enc,Xg];refine Ae.go (ι:=Nat) (λi=>[(1,.ptr 0 []),(5,.d (.int .i64 i))]) (λ_=>[(0,.box 29 (.d y.enc))]) (λi=>i<=y.AQ.length/\∀k (h:k<y.AQ.length),k<i->y.AQ[k].Ap.length<=6) (λi=>y.AQ.length-i) 0 ⟨DM _,λ_ _ h=>by omega⟩ (by simp) (by simp[Ah.enc,Xg]) ?_;intro k ⟨p,w⟩ R g f l q;by_cases a:k<y.AQ.length
 ·simp[Yeb,a,Ah.enc,Xg,Ag.enc];refine⟨λ_=>l _ _ (by simp;exact h _ (λe=>by cases e)),λt=>g [] (k+1) _ _ ⟨by omega,λj m o=>?_⟩ (by omega) (by simp[s a r.AQ]) (by simp[AE,Ah.enc,Xg]) (by simp[AE]) (by simp[AE])⟩;rcases FP j k with c|c
  ·exact w j m c
  ·obtain rfl:j=k:=by omega
   omega
 have:k=y.AQ.length:=by omega
 subst this;simp[Yeb,Ah.enc,Xg];refine f _ _ _ ?_;clear f l q g p a;simp[Ah.enc,Xg];refine Ae.go (ι:=Nat) (λi=>[(1,.ptr 0 []),(6,.d (.int .i64 i))]) (λ_=>[(0,.box 29 (.d y.enc))]) (λi=>i<=y.AN.length/\∀k (h:k<y.AN.length),k<i->y.AN[k].CW.length<=10) (λi=>y.AN.length-i) 0 ⟨DM _,λ_ _ h=>by omega⟩ (by simp) (by simp[Ah.enc,Xg]) ?_;intro k ⟨p,x⟩ R g f l q;by_cases a:k<y.AN.length
 ·simp[Yea,a,Ah.enc,Xg,AR.enc];refine⟨λ_=>l _ _ (by simp;exact h _ (λe=>by cases e)),λt=>g [] (k+1) _ _ ⟨by omega,λj m o=>?_⟩ (by omega) (by simp[s a r.AN]) (by simp[AE,Ah.enc,Xg]) (by simp[AE]) (by simp[AE])⟩;rcases FP j k with c|c
  ·exact x j m c
  ·obtain rfl:j=k:=by omega
   omega
 have:k=y.AN.length:=by omega
 subst this;simp[Yea,Ah.enc,Xg];refine f _ _ _ ?_;clear f l q g p a;simp[Ah.enc,Xg];refine h _ (λe=>?_);simp at e;exact⟨by omega,by omega,by omega,by omega,by omega,by omega,λk h=>u k h h,λk h=>v k h h,λk h=>w k h h,λk h=>x k h h⟩
omit hP
def Yxc:Nat:=0x13770202a1
def Yxd:Nat:=0x115070a00392001b039ab6424022997
def oI:Nat:=0x12fd0200399f6004ade04f00c0a104f0e700e01310601f2132ab9f663a7d60136c601402e01c20605a4be3fd60f8e17b308001b0399f60043ea4be5b3039081
def Yxe:Nat:=0x13778b94fd03982d00a0134e381f20704f9410102f10ce79153a053053c6893501016d9353bd2630ceb470ce5e37f9053053c6893500c16d93500f14700a0ceb470ce00904f0af4e3c5d07325598e0040ce00616d06b0ce00f1470040ce01004052d09904f05f383011003177b2c
def Yxf:Nat:=0x1000b9501504f0381ae0370cf016997
def oJ:Nat:=0x12fd5ec5050fb00b05d0f704f04004f28700163809403b057039025938b6483d03c06700920b08c00f29d77406a4395ec50546b05d00a610a809e4caa039b8b8180350a41363140381c003803882d00ab680370e6039196
def Yxg:Nat:=0x13770330f6033170624007032bee4407f00df7fa030d0e3bd0b405800cd4f0cf02c279bbf0761b6
def oB:Nat:=0x1063b95372b950970350c003408c7d50352f8
def Yxh:Nat:=0x12d850505d20904f0221ae0210cf017997
def oK:Nat:=0x11fd2fdcca4f8b4502b0cf02a0e635c8c00948c002b30b0296d80760286d806700900e02708c38c08300602706ac3a0214ad30602419b00557b00c02e0232a602104101f0b956a0221c033350530659d0210e6023196
def Yfl:Nat:=0x161b9c801d0c01ae0032570470530389c84370cb38b80400610a04b9010040532720190f601952c4ce1af05d3a7112bb1017493b1435b0160f635b0152af35b00114735b26a35b0120cf01111200f38e93705c8bc26a8bc75008700f74004261b4ce1295612a30cf0c20fe77d0410940080e630b00b279aaa27905707ac6868d00a8a108661b4ce1af8a09b004b0410a90068750574335c49550041c000452c4ce3060021b10e6005196
def Yfm:Nat:=0x137712c004
def cY:Nat:=0x182e1fd9f663b06115070a0030970182a149d7b2018039246361cca41e20f2d850541e09701f0c001eaef01fc73b769c806661b9c81a60f687531e2f85a53b11070d00000130008d4078
def cZ:Nat:=0x12fd0363b10f20700e100813b11d0df05603d14151a03d0ff1890a004d0b403d0ea51a03d0f8189b370b403d0ef1350c60df02b77d8c502c01f00cc2002a1a70290241c40280b22d402704e2d402605e9181052d40680018ce135d4dbe525053bb9c8f13b105901e8e901f21a
def Yfn:Nat:=0x110962f018004
def cv:Nat:=0x106306b3b101d7a83d64e9a0201909401901d025a4385f2808c501b01f1b6
def Yfo:Nat:=0x1377a58
def cw:Nat:=0x12fd0180540178831068c50179ed
def n3:Nat:=0x12fd01519c00944f02c0780021a540e
def oq:S:=zS [(zS [] Yfo),(zS [(zS [] Yfn),(zS [(zS [(zS [] Yfm),(zS [(zS [] Yfl),(zS [(zS [] Yxg),(zS [(zS [(zS [] Yxe),(zS [] Yxf)] oJ)] oB),(zS [] Yxh)] oK),(zS [(zS [] Yxc),(zS [] Yxd)] oI)] cY)] cZ)] cv)] cw)] n3
def n12:Nat:=0x17dccc209249c18579d53300f17c23e28266540223e083af123e051af15a913500a87100b73c0866a20090a11c8d4aa02b6b06b0090250077b600700e05d31e04093d1e9419022113
def yr:S:=zS [] n12
def Zyb:Xr prog 12 1 yr [.t 2]=true:=by kernel_rfl
def n20:Nat:=0x1b9724500f3c500202e0bbd04b3741c9423c847000e79706830605404200d4130220fc0221a9
def Zio:S:=zS [] n20
def Zyg:Xr prog 20 2 Zio [.t 4]=true:=by kernel_rfl
def Zxa:S2:=zL [] [] n12
def Zxt:=(by cbv:Zxa=_)
def Zx2:yr.AZ []=some Zxa:=by kernel_rfl
def Zxf:S2:=zL [] [] n20
def Zxy:=(by cbv:Zxf=_)
def Zx7:Zio.AZ []=some Zxf:=by kernel_rfl
def Zt3:Xd prog 13=true:=by kernel_rfl
include hP
theorem Zpd{y:Ah}(h:y.BC)(g:y.P6)(f:y.AQ.all (Hw y)=true){n:Nat}(a:n<y.AQ.length){b:Bool}{x:EJ}(r:x.AL.length<=8){u:AB}{K:V->Prop}(p:Rp y y.AQ[n] b x=none->K (.BE [.d VL,.d (iD 150)]))(q:∀z,Rp y y.AQ[n] b x=some z->K (.BE [.d z.enc,.d (iD 0)])):
 AU P 39 [.d y.enc,.d (.int .i64 n),.d (.bool b),.d x.enc] u K:=by
 refine AJ hP AO (ds:=[y.enc,.int .i64 n,.bool b,x.enc]) Zyh Zx8 BD.nil ?_;have j:y.enc.shape.size=6:=by rw[CC];rfl
 have k:y.enc.sz=6:=rfl;have v:(V.d y.enc).BM=some [.d (Xg y.Al),.d (.AF 5 (y.Au.map At.enc)),.d (.AF 6 (y.AD.map AI.enc)),.d (.AF 5 (y.AK.map Ai.enc)),.d (.AF 5 (y.AQ.map Ag.enc)),.d (.AF 3 (y.AN.map AR.enc))]:=rfl;have i:x.enc.shape=.node [.AX,.AX,.AX]:=rfl;have xz:x.enc.sz=3:=rfl;have l:∀c:Ag,c.enc.shape=.node [.AX,.AX,.AX,.AX,.AX]:=λ_=>rfl;have m:∀c:Ag,c.enc.sz=5:=λ_=>rfl;have w:VL.shape=.node [.AX,.AX,.AX]:=rfl;have o:∀z:EJ,z.enc.shape=.node [.AX,.AX,.AX]:=λ_=>rfl;have s:¬(n:Int)<0:=by omega
 have t:¬(y.AQ.length:Int)<=n:=by omega
 simp[Zxz,k,j,i,xz];refine⟨rfl,X97 hP h g.AL ?_⟩;rw[BL f];simp[k,j,v,i,xz,s,t,a,l,m];refine⟨rfl,rfl,rfl,rfl,rfl,rfl,Zr8 hP h (DQ.1 f _ (CS a)) (g.Ap _ (CS a)) r (λe=>?_) (λz e=>?_)⟩
 ·simp[w];exact⟨rfl,p e⟩
 ·simp[o];exact⟨rfl,q z e⟩
theorem Zqp{y:Ah}(j:y.BC)(h:y.P6)(f:y.AQ.all (Hw y)=true){n:Nat}(g:n<y.AQ.length){x:EJ}(i:x.AL.length<=8){k:AB}{K:V->Prop}(b:Rp y y.AQ[n] false x=none->K (.BE [.d VL,.d (iD 150)]))(c:∀z,Rp y y.AQ[n] false x=some z->K (.BE [.d z.enc,.d (iD 0)])):
 AU P 15 [.d y.enc,.d (.int .i64 n),.d x.enc] k K:=by
 refine AJ hP AO (ds:=[y.enc,.int .i64 n,x.enc]) Zye Zx5 BD.nil ?_;have m:y.enc.shape.size=6:=by rw[CC];rfl
 have o:y.enc.sz=6:=rfl;have l:x.enc.shape=.node [.AX,.AX,.AX]:=rfl;have xz:x.enc.sz=3:=rfl;have p:VL.shape=.node [.AX,.AX,.AX]:=rfl;have a:∀z:EJ,z.enc.shape=.node [.AX,.AX,.AX]:=λ_=>rfl;simp[Zxw,o,m,l,xz];refine⟨rfl,rfl,rfl,rfl,Zpd hP j h f g i (λe=>?_) (λz e=>?_)⟩
 ·simp[p];exact⟨rfl,b e⟩
 ·simp[a];exact⟨rfl,c z e⟩
theorem Ztj{y:Ah}(j:y.BC)(h:y.P6)(f:y.AQ.all (Hw y)=true){n:Nat}(g:n<y.AQ.length){x:EJ}(i:x.AL.length<=8){k:AB}{K:V->Prop}(b:Rp y y.AQ[n] true x=none->K (.BE [.d VL,.d (iD 150)]))(c:∀z,Rp y y.AQ[n] true x=some z->K (.BE [.d z.enc,.d (iD 0)])):
 AU P 16 [.d y.enc,.d (.int .i64 n),.d x.enc] k K:=by
 refine AJ hP AO (ds:=[y.enc,.int .i64 n,x.enc]) Zyf Zx6 BD.nil ?_;have m:y.enc.shape.size=6:=by rw[CC];rfl
 have o:y.enc.sz=6:=rfl;have l:x.enc.shape=.node [.AX,.AX,.AX]:=rfl;have xz:x.enc.sz=3:=rfl;have p:VL.shape=.node [.AX,.AX,.AX]:=rfl;have a:∀z:EJ,z.enc.shape=.node [.AX,.AX,.AX]:=λ_=>rfl;simp[Zxx,o,m,l,xz];refine⟨rfl,rfl,rfl,rfl,Zpd hP j h f g i (λe=>?_) (λz e=>?_)⟩
 ·simp[p];exact⟨rfl,b e⟩
 ·simp[a];exact⟨rfl,c z e⟩
theorem Zo8{l:List Int}(g:l.length<=9223372036854775807){b:AB}{K:V->Prop}(h:K (.d (.bool true))):AU P 14 [.d (.AF 1 (l.map iD)),.d (.AF 1 (l.map iD))] b K:=by
 refine AJ hP AO (ds:=[.AF 1 (l.map iD),.AF 1 (l.map iD)]) Zyd Zx4 BD.nil ?_;simp[Zxv];refine Ae.go (ι:=Nat) (λk=>[(0,.d (.AF 1 (l.map iD))),(1,.d (.AF 1 (l.map iD))),(5,.d (.int .i64 k))]) (λ_=>[]) (λk=>k<=l.length) (λk=>l.length-k) 0 (by simp) (by simp) (by simp) ?_;intro k f R e c j i;by_cases a:k<l.length
 ·simp[Zrz,a];refine e [] (k+1) _ _ (by omega) (by omega) ?_ (by simp[AE]) (by simp[AE]) (by simp[AE]);simp;exact w_i _ (by omega)
 ·obtain rfl:k=l.length:=by omega
  simp[Zrz];refine c _ _ _ ?_;simp;exact h
theorem Zr7{x:EJ}(a:x.AL.length<=9223372036854775807)(b:x.CH.length<=9223372036854775807){c:AB}{K:V->Prop}(h:K (.d (.bool true))):AU P 13 [.d x.enc,.d x.enc] c K:=by
 refine AJ hP AO (ds:=[x.enc,x.enc]) Zyc Zx3 BD.nil ?_;simp[Zxu,EJ.enc];refine Zo8 hP a ?_;simp;refine Zo8 hP b ?_;simp;exact h
theorem Zty{x y:Ah}(f:y.BC){a b:List Int}(e:b.length<=9223372036854775807){g:AB}{K:V->Prop}(h:∀c,K (.d (.bool c))):AU P 20 [.d (.agg [x.enc,X9 a]),.d (.agg [y.enc,X9 b])] g K:=by
 refine AJ hP AO (ds:=[.agg [x.enc,X9 a],.agg [y.enc,X9 b]]) Zyg Zx7 BD.nil ?_;have s:∀x:Ah,x.enc.shape.size=6:=λx=>by rw[CC];rfl
 have z:∀x:Ah,x.enc.sz=6:=λ_=>rfl;simp[Zxy,s,z];refine⟨rfl,rfl,rfl,rfl,Ysk hP f ?_⟩;cases decide (x=y) with
 |false=>
  simp;exact h _
 |true=>
  simp;refine⟨rfl,rfl,rfl,rfl,Yil hP e ?_⟩;simp;exact h _
theorem Zuq{t:QI}(c:t.Gv.BC)(g:t.order.length<=9223372036854775807){f:AB}{K:V->Prop}(h:∀b,(b=true->ZE t.Gv)->K (.d (.bool b))):AU P 11 [.d t.enc] f K:=by
 refine AJ hP AO (ds:=[t.enc]) Zya Zx1 BD.nil ?_;have s:∀x:Ah,x.enc.shape.size=6:=λx=>by rw[CC];rfl
 have z:∀x:Ah,x.enc.sz=6:=λ_=>rfl;simp[Zxs,QI.enc,X9,s,z];refine⟨rfl,X9v hP c λb a=>?_⟩;cases b with
 |false=>simp;exact h _ (λe=>by cases e)
 |true=>simp;exact h _ (λ_=>a rfl)
omit hP
def LK(l:List Int)(x:Int):List Int:=if x∈l then l else l++[x]
abbrev Gr:=List (Int×List Int)
def Dx(g:Gr)(h:Int):Option Nat:=g.findIdx? (λx=>decide (x.1=h))
def D3(c:Nat)(g:Gr):Nat->List (D×V)
|0=>[]
|k+1=>match g[k]? with
 |none=>D3 c g k
 |some x=>D3 c g k++[(.int .i64 x.1,.mp (c+2*k))]
def DR(c:Nat)(g:Gr):Nat->AB
|0=>[]
|k+1=>match g[k]? with
 |none=>DR c g k
 |some x=>(c+2*k,.map (Qf x.2))::DR c g k
def Ypk(l:List Int)(x:Int):EL (.int .i64 x) (V.d (.bool true)) (Qf l)=Qf (LK l x):=by
 unfold LK;by_cases h:x∈l
 ·rw[BL h];induction l with
  |nil=>cases h
  |cons y r a=>
   unfold Qf at a⊢;simp only[Cg,EL];by_cases e:x=y
   ·subst e;simp[C8]
   ·have b:x∈r:=by
     rcases DA.1 h with h|h
     ·exact absurd h e
     ·exact h
    have c:C8 (.int .i64 x) (.int .i64 y)=false:=by simp[C8,e]
    rw[c];simp[a b]
 ·rw[Af h,Wo _ _ _ (by rw[Rv,Af h]),Qf,Qf,Ij];rfl
def PD(c:Nat)(g:Gr):∀(k j:Nat),j<c\/c+2*k<=j->AA (DR c g k) j=none
|0,_,_=>rfl
|k+1,j,h=>by
 have a:=PD c g k j (by omega);rw[DR];split
 ·exact a
 ·rw[AA,Af (by omega),a]
def UG(c:Nat)(g:Gr):∀(k i:Nat)(h:i<g.length),i<k->AA (DR c g k) (c+2*i)=some (.map (Qf g[i].2))
|0,_,_,h=>absurd h (by omega)
|k+1,i,a,h=>by
 rw[DR];by_cases e:i=k
 ·subst e;rw[Cn a];simp[AA]
 ·have b:=UG c g k i a (by omega);split
  ·exact b
  ·rw[AA,Af (by omega),b]
def r6(c:Nat)(g:Gr)(v:List Int):∀(k i:Nat)(h:i<g.length),AG (DR c g k) (c+2*i) (.map (Qf v))=DR c (g.set i (g[i].1,v)) k
|0,_,_=>rfl
|k+1,i,a=>by
 have d:=r6 c g v k i a;rw[DR,DR];by_cases e:i=k
 ·subst e;rw[Cn a,List.getElem?_set_self a];simp only[AG,Cz];have f:∀(m:Nat),m<=i->DR c (g.set i (g[i].1,v)) m=DR c g m:=λm=>by
   induction m with
   |zero=>intro _;rfl
   |succ m b=>
    intro j;rw[DR,DR,List.getElem?_set_ne (by omega),b (by omega)]
  rw[f i (BV _)]
 ·rw[List.getElem?_set_ne e];cases g[k]? with
  |none=>exact d
  |some x=>
   have:¬c+2*k=c+2*i:=by omega
   simp only[AG,Af this,d]
def zE(c:Nat)(g:Gr)(x:Int):∀k,k<=g.length->Yh (.int .i64 x) (D3 c g k)=(Dx (g.take k) x).map λi=>V.mp (c+2*i)
|0,_=>by simp[D3,Yh,Dx]
|k+1,d=>by
 have j:=zE c g x k (by omega);have a:k<g.length:=d;rw[D3,Cn a,Ca a];simp only;rw[Ub,j];unfold Dx;rw[List.findIdx?_append];have f:(g.take k).length=k:=by simp;omega
 cases List.findIdx? (λy=>decide (y.1=x)) (g.take k) with
 |some i=>simp
 |none=>
  by_cases e:g[k].1=x
  ·simp[e,C8,f]
  ·have b:¬x=g[k].1:=λh=>e h.symm;simp[e,b,C8]
def UF(c:Nat)(g:Gr)(x:Int):∀k,U7 (.int .i64 0) (.int .i64 x) (D3 c g k)
|0=>⟨rfl,λe a=>by cases a⟩
|k+1=>by
 have b:=UF c g x k;rw[D3];split
 ·exact b
 ·refine⟨b.1,λe a=>?_⟩;rw[DF]at a;rcases a with a|a
  ·exact b.2 e a
  ·simp only[DW]at a;subst a;rfl
def r4(c:Nat)(g:Gr)(v:List Int)(i:Nat)(a:i<g.length):∀k,D3 c (g.set i (g[i].1,v)) k=D3 c g k
|0=>rfl
|k+1=>by
 have b:=r4 c g v i a k;rw[D3,D3,b];by_cases e:i=k
 ·subst e;rw[List.getElem?_set_self a,Cn a]
 ·rw[List.getElem?_set_ne e]
def xF(c:Nat)(g:Gr):∀k,k<=g.length->fresh (DR c g k)=if k=0 then 0 else c+2*k-1
|0,_=>rfl
|k+1,b=>by
 have d:=xF c g k (by omega);have a:k<g.length:=b;rw[DR,Cn a];simp only[fresh,d];split<;>simp<;>omega
def xG(p:Nat->Bool)(c:Nat)(g:Gr):∀k,AH p (DR c g k)=true
|0=>rfl
|k+1=>by
 have a:=xG p c g k;rw[DR];split
 ·exact a
 ·simp[AH,R5,a]
include hP
theorem vH{n x:Int}{m:Nat}{a:AB}(f:m<fresh a){K:A7->AB->Prop}(h:K (.ret (.d (.bool (decide (0<=x)&&decide (x<n))))) a):AV P 118 [.agg [.d (.int .i64 n),.mp m],.d (.int .i64 x)] a K:=by
 refine Xk hP AO Y9h Y6o BD.nil λ_ b=>?_;simp[Y0x];have e:AE (fresh a) [] (fresh a)=true:=by simp[AE]
 have c:Xh (AE (fresh a) []) ((fresh a,Ob.box 116 (V.agg [V.d (D.int IntKind.i64 n),V.mp m]))::a)=a:=by
  rw[Xh,BL e,Xe (BV _)]
 exact⟨[],by simp,by rw[c];exact b [],by rw[c];exact h⟩
omit hP
def II(l:List Int)(i j:Nat):List Int:=(l.set i (l.getD j 0)).set j (l.getD i 0)
def Zy{l:List Int}{i:Nat}(h:i<l.length):l.getD i 0=l[i]:=by simp[FR,h]
def Z3(l:List Int)(i j:Nat):(II l i j).length=l.length:=by simp[II]
def db{l:List Int}{i j:Nat}(a:i<l.length)(b:j<l.length):(II l i j).Perm l:=by
 unfold II;rw[Zy a,Zy b];exact List.set_set_perm a b
def HS(l:List Int)(j:Nat):List Int:=
 if _h:j=0 then l else if l.getD j 0<l.getD ((j-1) / 2) 0 then HS (II l ((j-1) / 2) j) ((j-1) / 2) else l
termination_by j
decreasing_by omega
def JQ(l:List Int)(n i:Nat):Nat:=if 2*i+2<n/\l.getD (2*i+2) 0<l.getD (2*i+1) 0 then 2*i+2 else 2*i+1
def VS(l:List Int)(n i:Nat):i<JQ l n i:=by unfold JQ;split<;>omega
def gg{l:List Int}{n i:Nat}(h:2*i+1<n):JQ l n i<n:=by unfold JQ;split<;>omega
def Hg(l:List Int)(n i:Nat):List Int:=
 if _h:n<=2*i+1 then l else if l.getD (JQ l n i) 0<l.getD i 0 then Hg (II l i (JQ l n i)) n (JQ l n i) else l
termination_by n-i
decreasing_by have:=VS l n i;have:=gg (l:=l) (n:=n) (i:=i) (by omega);omega
def Yp5(l:List Int)(j:Nat):(HS l j).length=l.length:=by
 induction j using Nat.strongRecOn generalizing l with
 |ind j a=>
  rw[HS];split
  ·rfl
  ·split
   ·rw[a _ (by omega),Z3]
   ·rfl
def Ydy(l:List Int)(j:Nat)(a:j<l.length):(HS l j).Perm l:=by
 induction j using Nat.strongRecOn generalizing l with
 |ind j b=>
  rw[HS];split
  ·exact List.Perm.refl _
  ·split
   ·exact(b _ (by omega) _ (by rw[Z3];omega)).trans (db (by omega) a)
   ·exact List.Perm.refl _
def X1k(l:List Int)(n:Nat):∀(k i:Nat),n-i<=k->(Hg l n i).length=l.length:=λk=>by
 induction k generalizing l with
 |zero=>intro i h;rw[Hg,dif_pos (by omega)]
 |succ k a=>
  intro i h;rw[Hg];split
  ·rfl
  ·split
   ·have:=VS l n i;rw[a _ _ (by omega),Z3]
   ·rfl
def Xxe(l:List Int)(n:Nat)(a:n<=l.length):∀(k i:Nat),n-i<=k->(Hg l n i).Perm l:=λk=>by
 induction k generalizing l with
 |zero=>intro i h;rw[Hg,dif_pos (by omega)]
 |succ k b=>
  intro i h;rw[Hg];split
  ·exact List.Perm.refl _
  ·split
   ·have c:=VS l n i;have d:=gg (l:=l) (n:=n) (i:=i) (by omega);exact(b _ (by rw[Z3];exact a) _ (by omega)).trans (db (by omega) (by omega))
   ·exact List.Perm.refl _
def Hm(l:List Int)(x:Int):List Int:=HS (l++[x]) l.length
def JT(l:List Int):List Int:=Hg (II l 0 (l.length-1)) (l.length-1) 0
def Ey(l:List Int):Int:=(JT l).getD (l.length-1) 0
def GQ(l:List Int):List Int:=(JT l).take (l.length-1)
def Ug(l:List Int)(x:Int):(Hm l x).Perm (x::l):=(Ydy _ _ (by simp)).trans (List.perm_append_singleton x l)
def dq(l:List Int)(x:Int):(Hm l x).length=l.length+1:=by rw[Hm,Yp5];simp
def VC(l:List Int):(JT l).length=l.length:=by rw[JT,X1k _ _ _ _ (BV _),Z3]
def Ydf(l:List Int):(GQ l).length=l.length-1:=by rw[GQ,E9,VC];omega
def Ydg{l:List Int}(h:l≠[]):(Ey l::GQ l).Perm l:=by
 have g:0<l.length:=List.length_pos_iff.2 h;have d:(JT l).Perm l:=(Xxe _ _ (by rw[Z3];omega) _ _ (BV _)).trans (db (by omega) (by omega));have f:JT l=GQ l++[Ey l]:=by
  have b:l.length-1<(JT l).length:=by rw[VC];omega
  have e:=Ca b;have c:(JT l).take (l.length-1+1)=JT l:=JI (by rw[VC];omega);rw[c]at e;rw[GQ,Ey,Zy b];exact e
 have a:(Ey l::GQ l).Perm (GQ l++[Ey l]):=(List.perm_append_singleton _ _).symm;rw[<-f]at a;exact a.trans d
section
variable (need:Int->List Int) (n:Nat)
def DP(k:Nat)(x:Int):List Int:=((List.range k).filter λ(h:Nat)=>decide (x∈need (h:Int))).map λ(h:Nat)=>(h:Int)
def OZ:List Int:=(List.range n).map λ(x:Nat)=>((need (x:Int)).length:Int)
def qK(k:Nat):List Int:=(List.range k).foldl (λq (x:Nat)=>if (need (x:Int)).length=0 then Hm q (x:Int) else q) []
end
abbrev NZ:=List Int×List Int×List Int
def Iq(a:List Int×List Int)(u:Int):List Int×List Int:=(a.1.set u.toNat (a.1.getD u.toNat 0-1),if a.1.getD u.toNat 0-1=0 then Hm a.2 u else a.2)
def Rf(b:Int->List Int)(a:NZ):NZ:=
 (((b (Ey a.2.1)).foldl Iq (a.1,GQ a.2.1)).1,((b (Ey a.2.1)).foldl Iq (a.1,GQ a.2.1)).2,a.2.2++[Ey a.2.1])
def Nl(b:Int->List Int):Nat->NZ->List Int
|0,a=>a.2.2
|k+1,a=>if a.2.1=[] then a.2.2 else Nl b k (Rf b a)
def Kq(a:Int->List Int)(n:Nat):NZ:=(OZ a n,qK a n,[])
def Yf(a:Int->List Int)(n:Nat):List Int:=Nl (DP a n) (n+1) (Kq a n)
def K6(l a:List Int):Nat:=(l.filter λy=>decide (y∉a)).length
structure Ge(need:Int->List Int)(n:Nat)(rest:List Int)(op q CO:List Int):Prop where
 len:op.length=n
 nd:(CO++q).Nodup
 rg:∀v∈CO++q,0<=v/\v<n
 TP:∀v:Nat,v<n->op.getD v 0=K6 (need v) CO+(if (v:Int)∈rest then 1 else 0)
 ZD:∀v:Nat,v<n->(op.getD v 0=0↔(v:Int)∈CO++q)
 Of:∀i (h:i<CO.length),∀x∈need CO[i],x∈CO.take i
section
variable {need:Int->List Int} {n:Nat}
def dM{k:Nat}{x u:Int}:u∈DP need k x↔∃h:Nat,h<k/\x∈need h/\u=h:=by
 simp only[DP,C9,List.mem_filter,Ii,Bs];constructor
 ·rintro⟨h,⟨a,b⟩,rfl⟩;exact⟨h,a,b,rfl⟩
 ·rintro⟨h,a,b,rfl⟩;exact⟨h,⟨a,b⟩,rfl⟩
def Xwl(k:Nat)(x:Int):(DP need k x).Nodup:=by
 unfold DP;rw[List.Nodup,List.pairwise_map];exact(List.Pairwise.filter _ List.nodup_range).imp λh e=>h (by omega)
def Ycu{l b:List Int}{x:Int}(g:l.Nodup)(i:x∉b):K6 l b=K6 l (b++[x])+(if x∈l then 1 else 0):=by
 induction l with
 |nil=>simp[K6]
 |cons y r a=>
  have f:=(List.nodup_cons.1 g)
  have a:=a f.2;unfold K6 at a⊢;by_cases e:y=x
  ·subst e;rw[Af f.1]at a;simp[i]at a⊢;exact a
  ·have c:¬x=y:=λh=>e h.symm;by_cases d:y∈b
   ·simp[d,c]at a⊢;exact a
   ·simp[d,e,c]at a⊢;omega
def uK{c d q b:List Int}{u:Int}(k:0<=u)(z:u<n)(y:u∉c)(h:Ge need n (u::c) d q b):Ge need n c (Iq (d,q) u).1 (Iq (d,q) u).2 b:=by
 obtain⟨m,rfl⟩:=Int.eq_ofNat_of_zero_le k;have o:m<n:=by omega
 have t:=h.TP m o;simp only[DA,true_or,Cz]at t;have p:(m:Int)∉b++q:=λf=>by
  have:=(h.ZD m o).2 f;omega
 have l:∀v:Nat,v<n->(d.set m (d.getD m 0-1)).getD v 0=if v=m then d.getD m 0-1 else d.getD v 0:=λv a=>by
  have w:=h.len;by_cases e:v=m
  ·subst e;simp[FR,w,a]
  ·have r:¬m=v:=λh=>e h.symm;simp[FR,e,r]
 have j:((m:Int)).toNat=m:=rfl;simp only[Iq,j];refine⟨by simpa using h.len,?_,?_,λv a=>?_,λv a=>?_,h.Of⟩
 ·split
  ·have x:=(Ug q m).append_left b;rw[x.nodup_iff];have s:(b++(m:Int)::q).Perm ((m:Int)::(b++q)):=List.perm_middle;rw[s.nodup_iff,List.nodup_cons];exact⟨p,h.nd⟩
  ·exact h.nd
 ·intro v a;split at a
  ·rw[DF,(Ug q m).mem_iff,DA]at a;rcases a with a|rfl|a
   ·exact h.rg v (List.mem_append_left _ a)
   ·omega
   ·exact h.rg v (List.mem_append_right _ a)
  ·exact h.rg v a
 ·rw[l v a];by_cases e:v=m
  ·subst e;rw[BL rfl,Af y];omega
  ·rw[Af e];have:=h.TP v a;have i:¬(v:Int)=m:=by omega
   simpa[i]using this
 ·rw[l v a];by_cases e:v=m
  ·subst e;rw[BL rfl];by_cases g:d.getD v 0-1=0
   ·rw[BL g];simp only[g,true_iff];rw[DF,(Ug q v).mem_iff];simp
   ·rw[Af g];exact⟨λf=>absurd f g,λf=>absurd f p⟩
  ·rw[Af e,h.ZD v a];have i:¬(v:Int)=m:=by omega
   split
   ·rw[DF,DF,(Ug q m).mem_iff,DA];simp[i]
   ·exact Iff.rfl
def Xwi:∀{a d q b:List Int},(∀u∈a,0<=u/\u<n)->a.Nodup->Ge need n a d q b->Ge need n [] (a.foldl Iq (d,q)).1 (a.foldl Iq (d,q)).2 b
|[],_,_,_,_,_,h=>h
|u::r,d,q,b,e,g,h=>by
 have c:=List.nodup_cons.1 g;have f:=e u (by simp);rw[List.foldl_cons];exact Xwi (λv i=>e v (by simp[i])) c.2 (uK f.1 f.2 c.1 h)
def Ygn(G:∀h:Int,(need h).Nodup){w q a:List Int}(J:q≠[])(h:Ge need n [] w q a):Ge need n (DP need n (Ey q)) w (GQ q) (a++[Ey q])/\0<=Ey q/\Ey q<n:=by
 have H:=Ydg J;have c:((a++[Ey q])++GQ q).Perm (a++q):=by
  rw[Kk];exact H.append_left a
 have u:Ey q∈a++q:=c.mem_iff.1 (by simp);have r:Ey q∉a:=λp=>by
  have:=c.nodup_iff.2 h.nd;rw[Kk,Em]at this;exact this.2.2 _ p _ (by simp) rfl
 have t:=h.rg _ u;refine⟨⟨h.len,c.nodup_iff.2 h.nd,λv f=>h.rg v (c.mem_iff.1 f),λv f=>?_,λv f=>?_,λi F x b=>?_⟩,t⟩
 ·have l:=h.TP v f;have g:=Ycu (G v) r;have o:(v:Int)∈DP need n (Ey q)↔Ey q∈need v:=by
   rw[dM];constructor
   ·rintro⟨k,d,z,K⟩;obtain rfl:v=k:=by omega
    exact z
   ·exact λd=>⟨v,f,d,rfl⟩
  simp only[List.not_mem_nil,Ci]at l;by_cases d:Ey q∈need v
  ·rw[BL d]at g;rw[BL (o.2 d)];omega
  ·rw[Af d]at g;rw[Af (λp=>d (o.1 p))];omega
 ·rw[h.ZD v f,c.mem_iff]
 ·by_cases e:i<a.length
  ·rw[List.getElem_append_left e]at b;rw[List.take_append_of_le_length (by omega)];exact h.Of i e x b
  ·have y:i=a.length:=by simp at F;omega
   subst y;rw[List.getElem_append_right (by omega)]at b;simp only[Nat.sub_self,List.getElem_cons_zero]at b;rw[List.take_left];obtain⟨m,s⟩:=Int.eq_ofNat_of_zero_le t.1;have j:m<n:=by omega
   have l:=h.TP m j;rw[(h.ZD m j).2 (by rw[<-s];exact u)]at l;simp only[List.not_mem_nil,Ci]at l;have g:K6 (need m) a=0:=by omega
   rw[K6,Nd,List.filter_eq_nil_iff]at g;rw[s]at b;have o:=g x b;simpa using o
def Yo7(b:∀h:Int,(need h).Nodup){a:NZ}(c:a.2.1≠[])(h:Ge need n [] a.1 a.2.1 a.2.2):Ge need n [] (Rf (DP need n) a).1 (Rf (DP need n) a).2.1 (Rf (DP need n) a).2.2:=by
 refine Xwi (λu d=>?_) (Xwl _ _) (Ygn b c h).1;obtain⟨k,e,_,rfl⟩:=dM.1 d;omega
def Ge.H5{b e q a:List Int}(h:Ge need n b e q a):(a++q).length<=n:=by
 have c:(a++q) ⊆ (List.range n).map λ(x:Nat)=>(x:Int):=λv d=>by
  have:=h.rg v d;rw[C9];exact⟨v.toNat,by rw[Ii];omega,by omega⟩
 have:=List.Nodup.length_le_of_subset h.nd c;simpa using this
def Yy9(k:Nat):(qK need k).Nodup/\∀v:Int,v∈qK need k↔∃x:Nat,x<k/\v=x/\(need x).length=0:=by
 induction k with
 |zero=>simp[qK]
 |succ k c=>
  have e:qK need (k+1)=if (need (k:Int)).length=0 then Hm (qK need k) (k:Int) else qK need k:=by
   simp[qK,List.range_succ]
  rw[e];by_cases h:(need (k:Int)).length=0
  ·rw[BL h];have f:=Ug (qK need k) k;refine⟨?_,λv=>?_⟩
   ·rw[f.nodup_iff,List.nodup_cons];refine⟨λg=>?_,c.1⟩;obtain⟨x,d,a,_⟩:=(c.2 _).1 g;omega
   ·rw[f.mem_iff,DA,c.2];constructor
    ·rintro (rfl|⟨x,d,a,b⟩)
     ·exact⟨k,by omega,rfl,h⟩
     ·exact⟨x,by omega,a,b⟩
    ·rintro⟨x,d,a,b⟩;by_cases e:x=k
     ·subst e;exact .inl a
     ·exact .inr ⟨x,by omega,a,b⟩
  ·rw[Af h];refine⟨c.1,λv=>?_⟩;rw[c.2];constructor
   ·rintro⟨x,d,a,b⟩;exact⟨x,by omega,a,b⟩
   ·rintro⟨x,d,a,b⟩;have:x≠k:=λe=>h (by rw[<-e];exact b);exact⟨x,by omega,a,b⟩
def Zct:Ge need n [] (Kq need n).1 (Kq need n).2.1 (Kq need n).2.2:=by
 have b:=Yy9 (need:=need) n;have c:∀v:Nat,v<n->(OZ need n).getD v 0=((need v).length:Int):=λv a=>by simp[OZ,FR,a]
 refine⟨by simp[Kq,OZ],by simpa[Kq]using b.1,λv a=>?_,λv a=>?_,λv a=>?_,λi h=>?_⟩
 ·simp only[Kq,List.nil_append]at a;obtain⟨x,d,rfl,_⟩:=(b.2 v).1 a;omega
 ·simp only[Kq,List.not_mem_nil,Ci];have e:K6 (need v) []=(need v).length:=by
   unfold K6;rw[List.filter_eq_self.2 (by simp)]
  rw[c v a,e];simp
 ·simp only[Kq,List.nil_append];rw[c v a,b.2];constructor
  ·exact λh=>⟨v,a,rfl,by omega⟩
  ·rintro⟨x,d,f,g⟩;obtain rfl:v=x:=by omega
   omega
 ·simp[Kq]at h
def xY(b:∀h:Int,(need h).Nodup):∀(k:Nat)(a:NZ),Ge need n [] a.1 a.2.1 a.2.2->∃d q,Ge need n [] d q (Nl (DP need n) k a)
|0,a,h=>⟨_,_,h⟩
|k+1,a,h=>by
 rw[Nl];split
 ·exact⟨_,_,h⟩
 next c=>exact xY b k _ (Yo7 b c h)
def xZ(b:∀h:Int,(need h).Nodup):(Yf need n).Nodup/\(∀v∈Yf need n,0<=v/\v<n)/\(Yf need n).length<=n/\∀i (h:i<(Yf need n).length),∀x∈need (Yf need n)[i],x∈(Yf need n).take i:=by
 obtain⟨d,q,h⟩:=xY (n:=n) b (n+1) _ Zct;have a:=h.H5;rw[DV]at a;refine⟨?_,λv c=>h.rg v (List.mem_append_left _ c),?_,h.Of⟩
 ·exact(Em.1 h.nd).1
 ·exact FA (Nat.le_add_right _ _) a
end
section
variable {P:Az} {sl:Xb} {ob:AB} {KO Pn:V->AB->Prop} {x y:A} {K:V->Prop}
@[simp]def iwp_isn(e m:Bool):I.wp P sl ob KO Pn (.HO e m x)=Gt ob e (λv=>KO v ob) m (x.ev sl):=by simp only[I.wp]
@[simp]def isnK_mp(e:Bool)(id:Nat):Gt ob e K true (.mp id)=Pq e K (AA ob id):=by simp only[Gt]
@[simp]def isnK_nm(e:Bool):Gt ob e K true (.d .B0)=K (.d (.bool e)):=by simp only[Gt]
@[simp]def isnM_s(e:Bool)(a:List (D×V)):Pq e K (some (.map a))=K (.d (.bool !e)):=by simp only[Pq]
end
def FE(g:Gr)(h:Int):Gr:=match Dx g h with
|none=>g++[(h,[])]
|some _=>g
def Hs(g:Gr)(h x:Int):Gr:=match Dx g h with
|none=>g
|some i=>g.set i ((g.getD i (0,[])).1,LK (g.getD i (0,[])).2 x)
def Gq(n h:Int):Gr->List Am->Option Gr
|g,[]=>some g
|g,f::r=>if 0<=f.AP/\f.AP<n then Gq n h (Hs g h f.AP) r else none
def Gw(n:Int):Gr->List Ai->Option Gr
|g,[]=>some g
|g,r::s=>if 0<=r.AP/\r.AP<n then (match Gq n r.AP (FE g r.AP) r.AW with
 |none=>none
 |some a=>Gw n a s) else none
def Lf(y:Ah):Option Gr:=Gw y.AD.length [] y.AK
def Zx{g:Gr}{h:Int}{i:Nat}(e:Dx g h=some i):∃(a:i<g.length),g[i].1=h:=by
 unfold Dx at e;rw[List.findIdx?_eq_some_iff_getElem]at e;obtain⟨a,b,_⟩:=e;exact⟨a,by simpa using b⟩
def yw(g:Gr)(h:Int):∃i,Dx (FE g h) h=some i:=by
 unfold FE;cases e:Dx g h with
 |some i=>exact⟨i,e⟩
 |none=>
  refine⟨g.length,?_⟩;simp only;unfold Dx at e⊢;rw[List.findIdx?_append,e];simp
def ed{g:Gr}{h:Int}{i:Nat}(a:i<g.length)(v:List Int):Dx (g.set i (g[i].1,v)) h=Dx g h:=by
 unfold Dx;induction g generalizing i with
 |nil=>simp at a
 |cons x r b=>
  cases i with
  |zero=>simp[List.findIdx?_cons]
  |succ i=>
   have:=b (i:=i) (by simpa using a);simp only[List.set_cons_succ,List.getElem_cons_succ,List.findIdx?_cons];rw[this]
def VO{g:Gr}{h x:Int}{i:Nat}(e:Dx g h=some i)(a:i<g.length):Hs g h x=g.set i (g[i].1,LK g[i].2 x):=by
 unfold Hs;rw[e];simp[FR,a]
def yv{g:Gr}{h x:Int}{i:Nat}(e:Dx g h=some i):Dx (Hs g h x) h=some i:=by
 obtain⟨a,_⟩:=Zx e;rw[VO e a,ed a,e]
def eJ(g:Gr)(h x:Int):(Hs g h x).length=g.length:=by
 unfold Hs;split<;>simp
def IC(n:Int)(y:Ah)(g:Gr):AB:=[(3,.map (D3 5 g g.length)),(2,.box 116 (.agg [.d (iD n),.mp 3])),(1,.box 29 (.d y.enc)),(0,.box 29 (.d y.enc))]
def gA(n:Int)(y:Ah)(g:Gr):AB:=DR 5 g g.length++IC n y g
def Wr{j:Nat}:∀{a b:AB},AA a j=none->AA (a++b) j=AA b j
|[],_,_=>rfl
|(i,x)::r,b,h=>by
 rw[AA]at h;rw[List.cons_append,AA];split at h
 ·cases h
 next e=>rw[Af e];exact Wr h
def Vf{j:Nat}{o:Ob}:∀{a b:AB},AA a j=some o->AA (a++b) j=some o
|[],_,h=>by cases h
|(i,x)::r,b,h=>by
 rw[AA]at h;rw[List.cons_append,AA];split at h
 next e=>rw[BL e];exact h
 next e=>rw[Af e];exact Vf h
def Nh{j:Nat}{o:Ob}:∀{a b:AB},AA a j=none->AG (a++b) j o=a++AG b j o
|[],_,_=>rfl
|(i,x)::r,b,h=>by
 rw[AA]at h;rw[List.cons_append,AG];split at h
 ·cases h
 next e=>rw[Af e,Nh h,List.cons_append]
def SR{j:Nat}{o x:Ob}:∀{a b:AB},AA a j=some x->AG (a++b) j o=AG a j o++b
|[],_,h=>by cases h
|(i,x)::r,b,h=>by
 rw[AA]at h;rw[List.cons_append,AG,AG];split at h
 next e=>rw[BL e,BL e,List.cons_append]
 next e=>rw[Af e,Af e,SR h,List.cons_append]
section
variable {n:Int} {y:Ah} {g:Gr}
def Yts{j:Nat}(h:j<5):AA (gA n y g) j=AA (IC n y g) j:=Wr (PD 5 g _ j (.inl h))
def Zcq:AA (gA n y g) 3=some (.map (D3 5 g g.length)):=by rw[Yts (by omega)];simp[IC]
def Zcp:AA (gA n y g) 2=some (.box 116 (.agg [.d (iD n),.mp 3])):=by rw[Yts (by omega)];simp[IC]
def Ytr{i:Nat}(h:i<g.length):AA (gA n y g) (5+2*i)=some (.map (Qf g[i].2)):=Vf (UG 5 g _ i h h)
def eb:fresh (gA n y g)=4+2*g.length:=by
 have c:∀(a b:AB),fresh (a++b)=max (fresh a) (fresh b):=λa b=>by
  induction a with
  |nil=>simp[fresh]
  |cons x r d=>
   obtain⟨i,o⟩:=x;rw[List.cons_append,Yb,Yb,d];split<;>split<;>omega
 rw[gA,c,xF 5 g _ (BV _)];have:fresh (IC n y g)=4:=by simp[IC]
 rw[this];split<;>omega
def ec{p:Nat->Bool}(f:p 3=false)(j:∀i,i<g.length->p (5+2*i)=false):AH p (gA n y g)=true:=by
 have d:∀(a b:AB),AH p (a++b)=(AH p a&&AH p b):=Wa p;have h:∀k,k<=g.length->Ym p (D3 5 g k)=false:=λk=>by
  induction k with
  |zero=>intro _;rfl
  |succ k l=>
   intro m;rw[D3,Cn (by omega)];have e:∀(a b:List (D×V)),Ym p (a++b)=(Ym p a||Ym p b):=λa b=>by
    induction a with
    |nil=>simp[Ym]
    |cons x r c=>obtain⟨q,v⟩:=x;simp[Ym,c,Bool.or_assoc]
   simp only;rw[e,l (by omega)];simp[Ym,V.BJ,j k (by omega)]
 rw[gA,d,xG];simp[IC,AH,h _ (BV _),V.BJ,BO,f]
def VQ(x:Int):Yh (.int .i64 x) (D3 5 g g.length)=(Dx g x).map λi=>V.mp (5+2*i):=by
 have:=zE 5 g x g.length (BV _)
 rwa [C0]at this
def ru(c:Nat)(g l:Gr):∀k,k<=g.length->D3 c (g++l) k=D3 c g k
|0,_=>rfl
|k+1,h=>by
 rw[D3,D3,ru c g l k (by omega),O1 (by omega)]
def r5(c:Nat)(g l:Gr):∀k,k<=g.length->DR c (g++l) k=DR c g k
|0,_=>rfl
|k+1,h=>by
 rw[DR,DR,r5 c g l k (by omega),O1 (by omega)]
def Ytt{h:Int}(e:Dx g h=none):AG (gA n y g) 3 (.map (EL (.int .i64 h) (V.mp (5+2*g.length)) (D3 5 g g.length)))=DR 5 g g.length++IC n y (FE g h):=by
 have a:FE g h=g++[(h,[])]:=by unfold FE;rw[e]
 have b:EL (.int .i64 h) (V.mp (5+2*g.length)) (D3 5 g g.length)=D3 5 (FE g h) (FE g h).length:=by
  rw[Wo _ _ _ (by rw[VQ,e];rfl),a,DV,List.length_singleton,D3,ru 5 g _ _ (BV _),QS (BV _)];simp
 rw[gA,Nh (PD 5 g _ 3 (.inl (by omega))),b];rfl
def Ykf{h:Int}(e:Dx g h=none):(5+2*g.length,Ob.map [])::(DR 5 g g.length++IC n y (FE g h))=gA n y (FE g h):=by
 have a:FE g h=g++[(h,[])]:=by unfold FE;rw[e]
 rw[gA];have:DR 5 (FE g h) (FE g h).length=(5+2*g.length,Ob.map [])::DR 5 g g.length:=by
  rw[a,DV,List.length_singleton,DR,r5 5 g _ _ (BV _),QS (BV _)];simp[Qf]
 rw[this,List.cons_append]
def Ytq{h x:Int}{i:Nat}(e:Dx g h=some i)(a:i<g.length):AG (gA n y g) (5+2*i) (.map (EL (.int .i64 x) (V.d (.bool true)) (Qf g[i].2)))=gA n y (Hs g h x):=by
 rw[VO e a,Ypk,gA,SR (UG 5 g _ i a a),r6 5 g _ _ i a,gA,List.length_set];congr 1;unfold IC;rw[List.length_set,r4 5 g _ i a]
def vB{p:Nat->Bool}{c:Nat}:∀k,(∀i,i<k->p (c+2*i)=true)->Xh p (DR c g k)=[]
|0,_=>rfl
|k+1,h=>by
 have a:=vB k (λi b=>h i (by omega));rw[DR];split
 ·exact a
 ·rw[Xh,BL (h k (by omega)),a]
def dX{p:Nat->Bool}{c:Nat}:∀k,(∀i,i<k->p (c+2*i)=false)->Xh p (DR c g k)=DR c g k
|0,_=>rfl
|k+1,h=>by
 have a:=dX k (λi b=>h i (by omega));rw[DR];split
 ·exact a
 ·rw[Xh,h k (by omega),a];simp
def gE(o:Ob):AG (gA n y g) 2 o=DR 5 g g.length++[(3,.map (D3 5 g g.length)),(2,o),(1,.box 29 (.d y.enc)),(0,.box 29 (.d y.enc))]:=by
 rw[gA,Nh (PD 5 g _ 2 (.inl (by omega)))];simp[IC,AG]
def Qs(o:Ob):AA (AG (gA n y g) 2 o) 2=some o:=by
 rw[gE,Wr (PD 5 g _ 2 (.inl (by omega)))];simp[AA]
def Vs(o:Ob):Xh (AE 1 []) (AG (gA n y g) 2 o)=[(0,.box 29 (.d y.enc))]:=by
 rw[gE,Wi,vB _ (λi _=>by simp[AE];omega)];simp[Xh,AE]
def Yeu(o:Ob):Xh (AE 1 (3::(List.range g.length).map λi=>5+2*i)) (AG (gA n y g) 2 o)=DR 5 g g.length++[(3,.map (D3 5 g g.length)),(0,.box 29 (.d y.enc))]:=by
 rw[gE,Wi,dX]
 ·simp[Xh,AE];rw[BL (λx _=>by omega),BL (λx _=>by omega)]
 ·intro i a;simp[AE];exact λ_ _=>⟨i,a,rfl⟩
def Yke{p:Nat->Bool}(h:∀i,i<g.length->p (5+2*i)=false)(a:∀j,j<4->p j=false):Xh p (gA n y g)=gA n y g:=by
 rw[gA,Wi,dX _ h];simp[IC,Xh,a]
end
include hP
theorem Yr8{y:Ah}(hy:y.BC)(hw:y.P6){K:A7->AB->Prop}(h0:Lf y=none->K (.ret (.BE [.d (.agg [iD 0,.B0]),.d (iD 140)])) [(0,.box 29 (.d y.enc))])
 (h1:∀g,Lf y=some g->K (.ret (.BE [.agg [.d (iD y.AD.length),.mp 3],.d (iD 0)])) (DR 5 g g.length++[(3,.map (D3 5 g g.length)),(0,.box 29 (.d y.enc))])):
 AV P 50 [.d y.enc] [(0,.box 29 (.d y.enc))] K:=by
 refine Xk hP AO Znv Zj1 BD.nil λ_ aj=>?_;have yk:(V.d y.enc).BM=some [.d (Xg y.Al),.d (.AF 5 (y.Au.map At.enc)),.d (.AF 6 (y.AD.map AI.enc)),.d (.AF 5 (y.AK.map Ai.enc)),.d (.AF 5 (y.AQ.map Ag.enc)),.d (.AF 3 (y.AN.map AR.enc))]:=rfl;have gm:Bt [V.mp 3]=none:=rfl;have gs:(V.agg [V.d (D.int IntKind.i64 (y.AD.length:Int)),V.mp 3]).shape=Sh.node [Sh.AX,Sh.AX]:=rfl;simp[Zha,yk,gm,gs,DZ,Zf];refine Ae.go (ι:=Nat×Gr) (λs=>[(2,.ptr 2 []),(14,.d (.AF 5 (y.AK.map Ai.enc))),(15,.d (.int .i64 y.AK.length)),(16,.d (.int .i64 s.1))]) (λs=>gA y.AD.length y s.2) (λs=>s.1<=y.AK.length/\Gw y.AD.length s.2 (y.AK.drop s.1)=Lf y) (λs=>y.AK.length-s.1) (0,[]) ⟨DM _,rfl⟩ (by simp) ?_ ?_
 ·rfl
 rintro⟨k,g⟩ ⟨hk,M⟩ R rn re rr rp;simp only at hk M rn;obtain⟨f,hf⟩:∃f,f=4+2*g.length:=⟨_,rfl⟩
 have fg:fresh (gA y.AD.length y g)=f:=by rw[eb,hf]
 have X:=Zcp (n:=y.AD.length) (y:=y) (g:=g);have l3:=Zcq (n:=y.AD.length) (y:=y) (g:=g);have r:¬f=2:=by omega
 have O:¬f=3:=by omega
 rw[fg]at rn;by_cases z:k<y.AK.length
 ·have wr:IntKind.i64.wrap ((k:Int)+1)=(k:Int)+1:=w_i _ (by have:=hw.AK;omega);rw[Db z]at M;have fr:fresh ((f,Ob.box 45 (V.d y.AK[k].enc))::gA y.AD.length y g)=f+1:=by rw[Yb,fg,BL (BV _)]
  have Z:(V.d y.AK[k].enc).BM=some [.d (.AM y.AK[k].head),.d (iD y.AK[k].AP),.d (.AF 8 (y.AK[k].AW.map Am.enc)),.d (.AF 11 (y.AK[k].Ak.map BB.enc)),.d (.AF 7 (y.AK[k].BK.map Ba.enc))]:=rfl;have rs:y.AK[k].enc.shape=.node [.AX,.AX,.AX,.AX,.AX]:=rfl;have rz:y.AK[k].enc.sz=5:=rfl;simp[Xzh,z,fg,X,l3,r,O,Z,rs,rz,fr];obtain⟨o,c⟩:∃o,o=FE g y.AK[k].AP:=⟨_,rfl⟩
  have m:0<=y.AK[k].AP/\y.AK[k].AP<y.AD.length->∀t ex,Wk t ((f,Ob.box 45 (V.d y.AK[k].enc))::gA y.AD.length y o)->AA t f=some (Ob.box 45 (V.d y.AK[k].enc))->
   Ys P [] VY (Yw 1 (Wt (Ys P [] VX R) R)) ((2,V.ptr 2 [])::(5,V.ptr f [])::(14,V.d (D.AF 5 (List.map Ai.enc y.AK)))::(15,V.d (D.int IntKind.i64 y.AK.length))::(16,V.d (D.int IntKind.i64 k))::ex) t:=λa t ex ad aa=>by
   simp[Yhp,aa,Z];refine Ae.pre ad ?_;refine Ae.go (ι:=Nat×Gr) (λs=>[(2,.ptr 2 []),(5,.ptr f []),(14,.d (.AF 5 (y.AK.map Ai.enc))),(15,.d (.int .i64 y.AK.length)),(16,.d (.int .i64 k)),(38,.d (.AF 8 (y.AK[k].AW.map Am.enc))),(39,.d (.int .i64 y.AK[k].AW.length)),(40,.d (.int .i64 s.1))]) (λs=>(f,Ob.box 45 (V.d y.AK[k].enc))::gA y.AD.length y s.2)
    (λs=>s.1<=y.AK[k].AW.length/\Gq y.AD.length y.AK[k].AP s.2 (y.AK[k].AW.drop s.1)=Gq y.AD.length y.AK[k].AP o y.AK[k].AW/\s.2.length=o.length/\∃i,Dx s.2 y.AK[k].AP=some i) (λs=>y.AK[k].AW.length-s.1) (0,o) ⟨DM _,rfl,rfl,by rw[c];exact yw _ _⟩ (by simp) rfl ?_
   rintro⟨j,b⟩ ⟨hj,e,U,i,l⟩ R2 L ae af ak;simp only at hj e U l L;have ah:o.length=g.length\/o.length=g.length+1:=by
    rw[c];unfold FE;split<;>simp
   obtain⟨F,hF⟩:∃F,F=fresh ((f,Ob.box 45 (V.d y.AK[k].enc))::gA y.AD.length y b):=⟨_,rfl⟩
   have ai:f<F/\4+2*b.length<=F:=by
    rw[hF,Yb,eb];split<;>omega
   have J:=Zcp (n:=y.AD.length) (y:=y) (g:=b);have Y:=Zcq (n:=y.AD.length) (y:=y) (g:=b);have F2:¬F=2:=by omega
   have F3:¬F=3:=by omega
   have Ff:¬F=f:=by omega
   have T:=(Zx l).1;rw[<-hF]at L;by_cases u:j<y.AK[k].AW.length
   ·rw[Db u]at e;have ag:IntKind.i64.wrap ((j:Int)+1)=(j:Int)+1:=w_i _ (by have:=hw.AW _ (CS z);omega);have xk:(V.d y.AK[k].AW[j].enc).BM=some [.d (.AM y.AK[k].AW[j].name),.d (.AM y.AK[k].AW[j].kind),.d (iD y.AK[k].AW[j].AP),.d y.AK[k].AW[j].CF.enc]:=rfl;have xs:y.AK[k].AW[j].enc.shape=.node [.AX,.AX,.AX,.node [.AX,.AX,.AX,.AX,.AX]]:=rfl;have xz:y.AK[k].AW[j].enc.sz=8:=rfl;simp[Xzg,u,<-hF,J,Y,F2,F3,Ff,r,O,xk,xs,xz];refine⟨rfl,vH hP (by rw[Yb,<-hF];split<;>omega) ?_⟩;by_cases H:0<=y.AK[k].AW[j].AP/\y.AK[k].AW[j].AP<y.AD.length
    ·have v:=VQ (g:=b) y.AK[k].AP;have kk:=UF 5 b y.AK[k].AP b.length;have li:=Ytr (n:=y.AD.length) (y:=y) T;have fi:¬f=5+2*i:=by omega
     have Fi:¬F=5+2*i:=by omega
     have ki:=fq y.AK[k].AW[j].AP b[i].2;have ga:=Ytq (n:=y.AD.length) (y:=y) (x:=y.AK[k].AW[j].AP) l T;rw[l]at v;have he:Gq y.AD.length y.AK[k].AP b (y.AK[k].AW[j]::y.AK[k].AW.drop (j+1))=Gq y.AD.length y.AK[k].AP (Hs b y.AK[k].AP y.AK[k].AW[j].AP) (y.AK[k].AW.drop (j+1)):=by rw[Gq,BL H]
     rw[he]at e;simp[H,Ff,F2,F3,r,O,J,Y,Z,xk,kk,v,Ex,fi,Fi,li,ki,ga,ag];refine L [] (j+1,Hs b y.AK[k].AP y.AK[k].AW[j].AP) _ _ ⟨by simp only;omega,e,by rw[eJ];exact U,i,yv l⟩ (by simp only;omega) (by simp) ?_ (by simp[AE];omega) ?_
     ·simp only;rw[Xh,BL (by simp[AE]),Xe];rw[Yb,eb,eJ];split<;>omega
     ·simp only;simp only[AH,V.BJ];simp only[Bool.not_false,EA];exact ec (by simp[AE];omega) (λq hq=>by rw[eJ]at hq;simp[AE];omega)
    ·have hb:(decide (0<=y.AK[k].AW[j].AP)&&decide (y.AK[k].AW[j].AP<y.AD.length))=false:=by
      rw[ZR,MV,MV];omega
     rw[hb];simp[F2,r,J];refine af _ _ ?_;simp;refine rr _ _ ?_;have Q:=Qs (n:=y.AD.length) (y:=y) (g:=b);simp[F2,r,Q];refine⟨[],by simp,?_,?_⟩
     ·simp[Xh,AE,Vs,show 1<=F by omega,show 1<=f by omega]
     ·have G:Lf y=none:=by
       rw[<-M,Gw,BL a,<-c,<-e,Gq,Af H]
      have w:=h0 G;simpa[Xh,AE,Vs,show 1<=F by omega,show 1<=f by omega]using w
   ·obtain rfl:j=y.AK[k].AW.length:=by omega
    simp[Xzg];refine ae _ _ _ ?_;simp[Yho,wr];have ab:Gq y.AD.length y.AK[k].AP o y.AK[k].AW=some b:=by
     rw[<-e,List.drop_length,Gq]
    have ac:Gw y.AD.length b (y.AK.drop (k+1))=Lf y:=by
     rw[<-M,Gw,BL a,<-c,ab]
    have W:∀i,i<b.length->AE f [5+2*g.length] (5+2*i)=false:=λi hi=>by simp[AE];omega
    refine rn [5+2*g.length] (k+1,b) _ _ ⟨by simp only;omega,ac⟩ (by simp only;omega) (by simp) ?_ (by simp[AE];omega) ?_
    ·simp only;rw[Xh,BL (by simp[AE];omega)];exact Yke W (λq hq=>by simp[AE];omega)
    ·exact ec (by simp[AE];omega) W
  refine⟨rfl,vH hP (by rw[fr];omega) ?_⟩;by_cases a:0<=y.AK[k].AP/\y.AK[k].AP<y.AD.length
  ·have v:=VQ (g:=g) y.AK[k].AP;have kk:=UF 5 g y.AK[k].AP g.length;cases N:Dx g y.AK[k].AP with
   |some i=>
    have hi:=(Zx N).1;have li:=Ytr (n:=y.AD.length) (y:=y) hi;have fi:¬f=5+2*i:=by omega
    rw[N]at v;simp[a,r,O,X,l3,Z,kk,v,Ex,fi,li];have e1:o=g:=by rw[c];unfold FE;rw[N]
    exact m a _ [_] (by rw[e1];exact Wk.refl _) (by simp)
   |none=>
    rw[N]at v;simp[a,r,O,X,l3,Z,kk,v,Ex,fr];have e5:f+1=5+2*g.length:=by omega
    have ga:=Ytt (n:=y.AD.length) (y:=y) N;have gb:=Ykf (n:=y.AD.length) (y:=y) N;rw[<-c]at ga gb;rw[e5];refine m a _ [] ?_ (by simp[AA];omega);have:(V.mp (5+2*g.length))=V.mp (5+2*g.length):=rfl;simp only[ga];rw[<-gb];exact ZJ (List.Perm.swap _ _ _)
  ·have hb:(decide (0<=y.AK[k].AP)&&decide (y.AK[k].AP<y.AD.length))=false:=by
    rw[ZR,MV,MV];omega
   rw[hb];simp[r,X];refine rr _ _ ?_;have Q:=Qs (n:=y.AD.length) (y:=y) (g:=g);simp[r,Q];refine⟨[],by simp,?_,?_⟩
   ·simp[Xh,AE,Vs,show 1<=f by omega]
   ·have G:Lf y=none:=by
     rw[<-M,Gw,Af a]
    have w:=h0 G;simpa[Xh,AE,Vs,show 1<=f by omega]using w
 ·obtain rfl:k=y.AK.length:=by omega
  simp[Xzh];refine re _ _ _ ?_;have Q:=Qs (n:=y.AD.length) (y:=y) (g:=g);simp[X,Q];refine⟨3::(List.range g.length).map λi=>5+2*i,by simp[AE],?_,?_⟩
  ·rw[Yeu];have h:=ec (n:=y.AD.length) (y:=y) (g:=g) (p:=AE 1 (3::(List.range g.length).map λi=>5+2*i)) (by simp[AE]) (λi hi=>by simp[AE];exact λ_ _=>⟨i,hi,rfl⟩);rw[gA,Wa]at h;rw[Wa];simp only[As]at h⊢;refine⟨h.1,?_⟩;have h2:=h.2;simp only[IC,AH,As]at h2⊢;exact⟨h2.1,h2.2.2.2⟩
  ·rw[Yeu];exact h1 g (by rw[<-M,List.drop_length,Gw])
omit hP
end Go.Ab
