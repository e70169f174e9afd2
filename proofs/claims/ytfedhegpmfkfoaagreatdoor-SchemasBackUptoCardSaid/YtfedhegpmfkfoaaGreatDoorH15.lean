/- The bound of the second form: lists of names are not long. Condition: none; the seat's rows. -/
import Derived.Test.YtfedhegpmfkfoaaGreatDoorH14
import Derived.Test.YtfedhegpmfkfoaaGreatDoorRows
import Derived.RowKitTokens
import Derived.LaidHandle
import Derived.Stop.Joined
set_option maxRecDepth 100000
set_option linter.unusedSimpArgs false
set_option linter.unusedVariables false
set_option linter.unusedSectionVars false
set_option linter.defProp false
namespace Go.Ab
open Go Go.Proofs
section
variable {P:Az} (hP:P.p=Tryz.prog) (hI:JB P) (hG:NU P) (hL:GI P)
include hP hI hG hL
theorem Ybm:(CQ XY).ok P:=Yp9 hP hI hG hL
theorem Ybo:(CQ XZ).ok P:=Xx hP hI hG hL (l:=XY) (e:=Sb) (Ybm hP hI hG hL) Yjt
theorem Ybq:(CQ YA).ok P:=Xx hP hI hG hL (l:=XZ) (e:=Sc) (Ybo hP hI hG hL) Yju
theorem Ybs:(CQ YB).ok P:=Xx hP hI hG hL (l:=YA) (e:=Sd) (Ybq hP hI hG hL) Yjv
theorem Ybu:(CQ YC).ok P:=Xx hP hI hG hL (l:=YB) (e:=Se) (Ybs hP hI hG hL) Yjw
theorem Ybw:(CQ YD).ok P:=Xx hP hI hG hL (l:=YC) (e:=Sf) (Ybu hP hI hG hL) Yjx
theorem Yby:(CQ YE).ok P:=Xx hP hI hG hL (l:=YD) (e:=Si) (Ybw hP hI hG hL) Yjy
theorem Yb0:(CQ YF).ok P:=Xx hP hI hG hL (l:=YE) (e:=Sj) (Yby hP hI hG hL) Yjz
theorem Yb2:(CQ XW).ok P:=Xx hP hI hG hL (l:=YF) (e:=Sk) (Yb0 hP hI hG hL) Yj0
theorem Yb4:(CQ XX).ok P:=Xx hP hI hG hL (l:=XW) (e:=Sl) (Yb2 hP hI hG hL) Yj1
theorem X17:(CQ WH).ok P:=Xx hP hI hG hL (l:=XX) (e:=Sr) (Yb4 hP hI hG hL) Yj2
theorem X18:(CQ WI).ok P:=Xx hP hI hG hL (l:=WH) (e:=RM) (X17 hP hI hG hL) Ya2
theorem X19:(CQ WJ).ok P:=Xx hP hI hG hL (l:=WI) (e:=RN) (X18 hP hI hG hL) Ya3
theorem X2a:(CQ WK).ok P:=Xx hP hI hG hL (l:=WJ) (e:=RP) (X19 hP hI hG hL) Ya4
theorem X2b:(CQ WL).ok P:=Xx hP hI hG hL (l:=WK) (e:=RR) (X2a hP hI hG hL) Ya5
theorem X2c:(CQ WM).ok P:=Xx hP hI hG hL (l:=WL) (e:=RS) (X2b hP hI hG hL) Ya6
theorem X2d:(CQ WN).ok P:=Xx hP hI hG hL (l:=WM) (e:=RT) (X2c hP hI hG hL) Ya7
theorem X2e:(CQ WO).ok P:=Xx hP hI hG hL (l:=WN) (e:=RU) (X2d hP hI hG hL) Ya8
theorem X2f:(CQ WQ).ok P:=Xx hP hI hG hL (l:=WO) (e:=RW) (X2e hP hI hG hL) Ya9
theorem X2g:(CQ WR).ok P:=Xx hP hI hG hL (l:=WQ) (e:=RX) (X2f hP hI hG hL) Yba
theorem X2h:(CQ WS).ok P:=Xx hP hI hG hL (l:=WR) (e:=RY) (X2g hP hI hG hL) Ybb
theorem X2i:(CQ WT).ok P:=Xx hP hI hG hL (l:=WS) (e:=RZ) (X2h hP hI hG hL) Ybc
theorem X2j:(CQ WU).ok P:=Xx hP hI hG hL (l:=WT) (e:=RD) (X2i hP hI hG hL) Ybd
theorem X2k:(CQ WV).ok P:=Xx hP hI hG hL (l:=WU) (e:=RE) (X2j hP hI hG hL) Ybe
theorem X2l:(CQ WW).ok P:=Xx hP hI hG hL (l:=WV) (e:=RF) (X2k hP hI hG hL) Ybf
theorem X2m:(CQ WX).ok P:=Xx hP hI hG hL (l:=WW) (e:=RG) (X2l hP hI hG hL) Ybg
theorem X2n:(CQ WA).ok P:=Xx hP hI hG hL (l:=WX) (e:=RH) (X2m hP hI hG hL) Ybh
theorem X2o:(CQ WB).ok P:=Xx hP hI hG hL (l:=WA) (e:=RI) (X2n hP hI hG hL) Ybi
theorem X2p:(CQ Yeo).ok P:=Xx hP hI hG hL (l:=WB) (e:=RL) (X2o hP hI hG hL) Ybj
theorem Zi{f:Nat}{ds:List D}{v:V}(h:∀a,(DN 3000 Qg (CQ Yeo) 40).pc f (ds.map .d) a=some v)(a:AB)(K:V->Prop)(c:K v):AU P f (ds.map .d) a K:=by
 have b:=(SB (P:=P) (L:=3000) (F:=Qg) (by rw[hP];exact AO) (by rw[hP];exact tp) (Xwh hP hI hL) (X2p hP hI hG hL) (z6 hP hI hL) 40).pc f (ds.map .d) a v (h a);refine b.mono λg e=>?_;subst e;exact c
theorem Ysl(c:Bj P 5 Cp){a:AB}{K:V->Prop}(b:K (.d (.bool true))):AU P 5 [] a K:=by
 obtain⟨X,f⟩:=Yai [115,99,104,101,109,97,115] [105,115,115,117,101,114,32,105,32,59,32,115,99,104,101,109,97,32,97,32,98,121,32,105,32,118,101,114,115,105,111,110,32,49,32,115,101,108,102,32,49,32,48,32,48,32,48,32,123,32,125,32,115,99,104,101,109,97,32,98,32,98,121,32,105,32,118,101,114,115,105,111,110,32,49,32,115,101,108,102,32,49,32,48,32,48,32,48,32,123,32,125,32,100,101,114,105,118,101,32,97,32,123,32,102,114,111,109,32,120,32,98,32,59,32,125];have e:((HE X).map CP).length=32:=by rw[List.length_map,VG]
 refine X7i hP (x1:=[(.AM [105])]) (x2:=[]) (x3:=[Zcb,Zcc]) (x5:=[]) (x6:=[]) (r:=jE) (dg:=(HE X).map CP) (by rw[vf];rfl) e (rQ _) (uy _)
  (Zi hP hI hG hL (ds:=[_]) (λa=>by kernel_rfl)) (Zi hP hI hG hL (ds:=[_]) (λa=>by kernel_rfl)) (Zi hP hI hG hL (ds:=[_]) (λa=>by kernel_rfl)) (Zi hP hI hG hL (ds:=[_]) (λa=>by kernel_rfl))
  (Zi hP hI hG hL (ds:=[_]) (λa=>by kernel_rfl)) (Zi hP hI hG hL (ds:=[_]) (λa=>by kernel_rfl))
  (λa K b=>?_)
  (Zi hP hI hG hL (ds:=[_,_]) (λa=>by kernel_rfl)) (Zi hP hI hG hL (ds:=[_,_]) (λa=>by kernel_rfl)) (Zi hP hI hG hL (ds:=[_]) (λa=>by kernel_rfl)) (Zi hP hI hG hL (ds:=[_]) (λa=>by kernel_rfl))
  (Zi hP hI hG hL (ds:=[_,_]) (λa=>by kernel_rfl)) (Zi hP hI hG hL (ds:=[_,_]) (λa=>by kernel_rfl)) (Zi hP hI hG hL (ds:=[_,_]) (λa=>by kernel_rfl)) b
 refine Yd1 hP c (txt:=[105,115,115,117,101,114,32,105,32,59,32,115,99,104,101,109,97,32,97,32,98,121,32,105,32,118,101,114,115,105,111,110,32,49,32,115,101,108,102,32,49,32,48,32,48,32,48,32,123,32,125,32,115,99,104,101,109,97,32,98,32,98,121,32,105,32,118,101,114,115,105,111,110,32,49,32,115,101,108,102,32,49,32,48,32,48,32,48,32,123,32,125,32,100,101,114,105,118,101,32,97,32,123,32,102,114,111,109,32,120,32,98,32,59,32,125]) rfl rfl ⟨_,rfl⟩ (by decide) (Zi hP hI hG hL (ds:=[_]) (λa=>by kernel_rfl)) (Zi hP hI hG hL (ds:=[_]) (λa=>by kernel_rfl)) ?_;rw[f];exact b
end
end Go.Ab
namespace Go.Proofs.YtfedhegpmfkfoaaGreatDoor
open Go Go.Ab Go.ChangeShapes Go.WideShapes Go.RowKit
def Kc:ownKnob Tryz.prog.godebug=none:=by kernel_rfl
def KX:laidOutB Tryz.prog=true:=by kernel_rfl
abbrev Es:List (String×DataW Unit):=[("math/bits.deBruijn32tab", Rows.laid_math_bits_deBruijn32tab),("math/bits.deBruijn64tab", Rows.laid_math_bits_deBruijn64tab),("internal/strconv.uint64pow10", Rows.laid_internal_strconv_uint64pow10),("testamur/digest.constants", Rows.laid_testamur_digest_constants),("testamur/syntax.anyNumber", Rows.laid_testamur_syntax_anyNumber),("testamur/syntax.factors", Rows.laid_testamur_syntax_factors),("testamur/syntax.editions", Rows.laid_testamur_syntax_editions),("testamur/syntax.weights", Rows.laid_testamur_syntax_weights),("testamur/syntax.mosts", Rows.laid_testamur_syntax_mosts)]
def FK{i:TypeId×Value->Unit}{w:World}{d:Nat}{Q:Nat->Bool}{f:Bool}{c:Nat}{t e:TypeId}{j k:Field}{s:Array Field}{g:List Value}{a b:Int}{p:List MemPlace}
 (N:Tryz.prog.underlying t=some (.struct s)) (n:s.toList=[j,k]) (K:j.type=e) (L:k.type=e) (O:j.offset=0) (P:k.offset=1) (m:Tryz.prog.cellsOf t=2) (l:Tryz.prog.cellsOf e=1) (x:Tryz.prog.underlying e=some (.int .i64))
 (h:DataW.trod i Tryz.prog w d Q f c t g=some (.agg [.lit (.int .i64 a),.lit (.int .i64 b)],p)):g=[.int .i64 a,.int .i64 b]:=by
 cases c with
 |zero=>simp[DataW.trod]at h
 |succ c=>
  simp only[DataW.trod,N,m]at h;split at h
  ·rename_i M;obtain⟨Z,o,y⟩:=D9.1 h;rw[n]at o;simp only[List.mapM_cons,List.mapM_nil,Option.bind_eq_bind,H7,Option.pure_def,Bu,K,L,O,P,l]at o;obtain⟨X,z,R,⟨Y,F,T,G,H⟩,J⟩:=o;subst G;subst H;subst J;obtain⟨U,q,rfl,_⟩:=DataW.trod_int x z;obtain⟨W,r,rfl,_⟩:=DataW.trod_int x F;simp only[Cg,HB,Fh,DataW.agg.injEq,HY,DataW.lit.injEq,Lit.int.injEq,true_and,GK]at y;obtain⟨⟨rfl,rfl⟩,_⟩:=y
   match g,M with
   |[u,v],_=>
    simp at q r;rw[q,r]
  ·cases h
def HT{W:World}{n:String}{g:Nat}{a:Array Value}(d:Tryz.prog.globalNamed n=some g)(h:W.var? Tryz.prog n=some a):∃T f,W.heap[g]? = some (.cells a T f):=by
 simp only[World.var?,d,Option.bind_some]at h;cases b:W.heap[g]? with
 |none=>rw[b]at h;cases h
 |some o=>
  rw[b]at h;cases o with
  |cells c T f=>simp only[Bu]at h;subst h;exact⟨T,f,rfl⟩
  |_=>cases h
def Fa(k:IntKind):∀l:List Int,G7 (l.map (D.int k)) (l.map λz=>Value.int k z)=true
|[]=>rfl
|x::r=>by simp[G7,D8,D.sz,Fa k r]
structure Fb(W:World):Prop where
 pow:∃T f,W.heap[7]? = some (.cells (Lib.pow10Tab.map λz=>Value.int .u64 z).toArray T f)
 kst:∃T f,W.heap[5]? = some (.cells (Dg.map λz=>Value.int .u32 z).toArray T f)
 IT:∃T f,W.heap[4]? = some (.cells [Value.int .i64 0,Value.int .i64 1048576].toArray T f)
 Fk:∃T f,W.heap[0]? = some (.cells [Value.int .i64 2,Value.int .i64 1000].toArray T f)
 Er:∃T f,W.heap[1]? = some (.cells [Value.int .i64 1,Value.int .i64 255].toArray T f)
 Fv:∃T f,W.heap[3]? = some (.cells [Value.int .i64 0,Value.int .i64 9].toArray T f)
 Ka:∃T f,W.heap[2]? = some (.cells [Value.int .i64 0,Value.int .i64 32].toArray T f)
def Fs{W:World}(h:laidMetH Tryz.prog Es W):Fb W:=by
 have h':laidMet Tryz.prog Es W:=h;obtain⟨ps,⟨g6,t6,c6,f6,p6,q6,_,_,_,_,R,_⟩,_⟩:=h';obtain⟨g7,t7,c7,f7,p7,q7,_,_,_,_,U,_⟩:=R;obtain⟨g8,t8,c8,f8,p8,q8,L,ae,al,j,X,_⟩:=U;obtain⟨g9,t9,c9,f9,p9,q9,M,af,an,l,Y,_⟩:=X;obtain⟨g1,t1,c1,f1,p1,q1,F,Z,ag,v,N,_⟩:=Y;obtain⟨g2,t2,c2,f2,p2,q2,G,aa,ah,w,O,_⟩:=N;obtain⟨g3,t3,c3,f3,p3,q3,H,ab,ai,x,P,_⟩:=O;obtain⟨g4,t4,c4,f4,p4,q4,J,ac,aj,y,Q,_⟩:=P;obtain⟨g5,t5,c5,f5,p5,q5,K,ad,ak,z,ao,_⟩:=Q;have i:∀{n:String}{g t:Nat}{c:Array Value}{fu:Nat}{p:List MemPlace}{a b:Int},Tryz.prog.globalNamed n=some g->W.var? Tryz.prog n=some c->t=256->DataW.trod (λ_=>()) Tryz.prog W 0 (λ_=>true) false fu t c.toList=some (.agg [.lit (.int .i64 a),.lit (.int .i64 b)],p)->∃T f,W.heap[g]? = some (.cells [Value.int .i64 a,Value.int .i64 b].toArray T f):=by
  intro n g t c fu p a b hn hv ht hd;subst ht;obtain⟨T,f,m⟩:=HT hn hv;have:=FK (e:=3) Tryz.underlying256 rfl rfl rfl rfl rfl (by kernel_rfl) (by kernel_rfl) (by kernel_rfl) hd;have hc:c=[Value.int .i64 a,Value.int .i64 b].toArray:=by rw[<-this]
  exact⟨T,f,by rw[m,hc]⟩
 have o:∀{g t:Nat}(k:Nat),(Tryz.prog.globals[g]?).map (·.type)=some t->(Tryz.prog.globals[g]?).map (·.type)=some k->t=k:=λk h1 h2=>FQ (h1.symm.trans h2);refine⟨?_,?_,?_,?_,?_,?_,?_⟩
 ·have d:Tryz.prog.globalNamed "internal/strconv.uint64pow10" = some 7:=by kernel_rfl
  obtain rfl:=FQ (d.symm.trans L);have q:(Tryz.prog.globals[7]?).map (·.type)=some 406:=by kernel_rfl
  obtain rfl:=FQ (q.symm.trans ae);have r:Tryz.prog.underlying 406=some (.array 20 369):=by kernel_rfl
  have s:Tryz.prog.underlying 369=some (.int .u64):=by kernel_rfl
  have u:(Rows.laid_internal_strconv_uint64pow10:DataW Unit)=Lib.tabData .u64 Lib.pow10Tab:=by kernel_rfl
  rw[u]at j;obtain⟨T,f,m⟩:=HT d al;have:=Lib.cells_of_tab r s (by kernel_rfl) (by kernel_rfl) j;exact⟨T,f,by rw[m,<-this]⟩
 ·have d:Tryz.prog.globalNamed "testamur/digest.constants" = some 5:=by kernel_rfl
  obtain rfl:=FQ (d.symm.trans M);have q:(Tryz.prog.globals[5]?).map (·.type)=some 371:=by kernel_rfl
  obtain rfl:=FQ (q.symm.trans af);have r:Tryz.prog.underlying 371=some (.array 64 320):=by kernel_rfl
  have s:Tryz.prog.underlying 320=some (.int .u32):=by kernel_rfl
  have u:(Rows.laid_testamur_digest_constants:DataW Unit)=Lib.tabData .u32 Dg:=by kernel_rfl
  rw[u]at l;obtain⟨T,f,m⟩:=HT d an;have:=Lib.cells_of_tab r s (by kernel_rfl) (by kernel_rfl) l;exact⟨T,f,by rw[m,<-this]⟩
 ·have d:Tryz.prog.globalNamed "testamur/syntax.anyNumber" = some 4:=by kernel_rfl
  obtain rfl:=FQ (d.symm.trans F);exact i d ag (o 256 Z (by kernel_rfl)) v
 ·have d:Tryz.prog.globalNamed "testamur/syntax.factors" = some 0:=by kernel_rfl
  obtain rfl:=FQ (d.symm.trans G);exact i d ah (o 256 aa (by kernel_rfl)) w
 ·have d:Tryz.prog.globalNamed "testamur/syntax.editions" = some 1:=by kernel_rfl
  obtain rfl:=FQ (d.symm.trans H);exact i d ai (o 256 ab (by kernel_rfl)) x
 ·have d:Tryz.prog.globalNamed "testamur/syntax.weights" = some 3:=by kernel_rfl
  obtain rfl:=FQ (d.symm.trans J);exact i d aj (o 256 ac (by kernel_rfl)) y
 ·have d:Tryz.prog.globalNamed "testamur/syntax.mosts" = some 2:=by kernel_rfl
  obtain rfl:=FQ (d.symm.trans K);exact i d ak (o 256 ad (by kernel_rfl)) z
def TN(a:List Nat)(x y:S)(d:Array Nat)(N:Nat)(b c:Code):Prop:=((d.toList==a)&&a.all (λk=>decide (k<N))&&S.Aa Tryz.prog N b x&&S.Aa Tryz.prog N c y&&x.DC&&y.DC)=true
def KZ(a:Nat)(d:Array Nat)(N:Nat)(b c:Code):Prop:=
 a=119/\TN [7] Cb Cc d N b c
noncomputable def Dr (W:World):Az:=⟨Tryz.prog,⟨λb=>if b<=8 then W.heap[b]? else none,KZ⟩⟩
noncomputable def FY (W:World):A0:=⟨λ_=>none,λ_=>False,(Dr W).g⟩
def H4(W:World)(b:Nat):¬B2 (FY W) b:=by
 rintro (⟨_,_,h,_⟩|h)
 ·cases h
 ·exact h
def OR(W:World):OM W (FY W) []:=by
 refine⟨λ_ _ h=>(by cases h),λ_ _ h=>(by cases h),λ_ _ _ _ _ h=>(by cases h),λ_ h=>h.elim,λb o h=>⟨?_,H4 W b⟩,λ_ ⟨_,_,h,_⟩=>(by cases h),trivial⟩;simp only[FY,Dr]at h;split at h
 ·exact h
 ·cases h
def OU(W:World){b:Nat}(a:b<=8):(Dr W).g b=W.heap[b]?:=by simp only[Dr,a,Cz]
def OW{W:World}(h:Fb W):JB (Dr W):=by
 have c:∀{g:Nat}{a b:Int},g<=8->(∃T f,W.heap[g]? = some (.cells [Value.int .i64 a,Value.int .i64 b].toArray T f))->Bj (Dr W) g (.agg [.int .i64 a,.int .i64 b]):=λd ⟨T,f,h⟩=>⟨_,T,f,by rw[OU W d,h],by simp[D8,G7]⟩;exact⟨c (by decide) h.Fk,c (by decide) h.Er,c (by decide) h.Ka,c (by decide) h.Fv,c (by decide) h.IT⟩
def L9(W:World):GI (Dr W):=by
 refine λc N a b=>?_;show KZ _ c N a b↔_;unfold KZ;exact⟨λh=>h.2,λh=>⟨rfl,h⟩⟩
def Oa{W:World}(h:Fb W):NU (Dr W):=by
 obtain⟨T,f,h⟩:=h.pow;exact⟨T,f,by rw[OU W (by decide),h]⟩
def OX{W:World}(h:Fb W):Bj (Dr W) 5 Cp:=by
 obtain⟨T,f,h⟩:=h.kst;exact⟨_,T,f,by rw[OU W (by decide),h],Fa .u32 Dg⟩
def KM{w a:World}(h:Bv w a):Below w.heap.size w a:=⟨h.os,h.tape,h.CO,h.size,λb c=>h.keep b c⟩
def L8{f:Nat}{vs:List V}{args:List Value}{W:World}(a:laidMetH Tryz.prog Es W)
 (c:∀{P:Az},P.p=Tryz.prog->JB P->NU P->GI P->Bj P 5 Cp->AU P f vs [] (λv=>v=.d (.bool true))) (g:V.A1 W (FY W) vs args):
 Calls Tryz.prog f args.toArray W λe b=>e=.returned (.bool true)/\Below W.heap.size W b:=by
 refine((c (P:=Dr W) rfl (OW (Fs a)) (Oa (Fs a)) (L9 W) (OX (Fs a))).run W (FY W) args (OR W) rfl g).mono ?_;rintro e b ⟨v,u,rfl,rfl,h,i⟩;rw[BI]at h;subst h;exact⟨rfl,KM i⟩
def Ta:List Int:=[0,1,28,2,29,14,24,3,30,22,20,15,25,17,4,8,31,27,13,23,21,19,16,7,26,12,18,6,11,5,10,9]
def Tb:List Int:=[0,1,56,2,57,49,28,3,61,58,42,50,38,29,17,4,62,47,59,36,45,43,51,22,53,39,33,30,24,18,12,5,63,55,48,27,60,41,37,16,46,35,44,21,52,32,23,11,54,26,40,15,34,20,31,10,25,14,19,9,13,8,7,6]
noncomputable def EH (b:Os):World:=
 let a:=World.holding Tryz.prog b ⟨#[],#[],[]⟩
 {a with heap:=(((((((((a.heap.modify 5 λ
 |.cells _ t frozen=>.cells (Dg.map λz=>Value.int .u32 z).toArray t frozen
 |o=>o).modify 7 λ
 |.cells _ t frozen=>.cells (Lib.pow10Tab.map λz=>Value.int .u64 z).toArray t frozen
 |o=>o).modify 8 λ
 |.cells _ t frozen=>.cells (Ta.map λz=>Value.int .u8 z).toArray t frozen
 |o=>o).modify 9 λ
 |.cells _ t frozen=>.cells (Tb.map λz=>Value.int .u8 z).toArray t frozen
 |o=>o).modify 0 λ
 |.cells _ t frozen=>.cells (([2,1000]:List Int).map λz=>Value.int .i64 z).toArray t frozen
 |o=>o).modify 1 λ
 |.cells _ t frozen=>.cells (([1,255]:List Int).map λz=>Value.int .i64 z).toArray t frozen
 |o=>o).modify 2 λ
 |.cells _ t frozen=>.cells (([0,32]:List Int).map λz=>Value.int .i64 z).toArray t frozen
 |o=>o).modify 3 λ
 |.cells _ t frozen=>.cells (([0,9]:List Int).map λz=>Value.int .i64 z).toArray t frozen
 |o=>o).modify 4 λ
 |.cells _ t frozen=>.cells (([0,1048576]:List Int).map λz=>Value.int .i64 z).toArray t frozen
 |o=>o) }
def KW(b:Os)(a:Array Value):laidMetH Tryz.prog Es ((EH b).forCall (λ_ _=>0) ⟨#[],a,[]⟩).memory:=
 show laidMet Tryz.prog Es _ from laidMet_of_run' 8 (by kernel_rfl) (by kernel_rfl)
end Go.Proofs.YtfedhegpmfkfoaaGreatDoor
namespace Go.Ab
open Go
def Mt{b c:Type}(p:b->c->Prop):List b->List c->Prop
|[],a=>a=[]
|f::r,a=>∃x q,a=x::q/\p f x/\Mt p r q
def Mt.imp{c d:Type}{p q:c->d->Prop}(h:∀a b,p a b->q a b):∀{l:List c}{m:List d},Mt p l m->Mt q l m
|[],_,e=>e
|_::_,_,⟨x,r,e,f,g⟩=>⟨x,r,e,h _ _ f,Mt.imp h g⟩
def HD(P:Program):Nat->TypeId->D->Prop
|0,_,_=>False
|n+1,t,d=>match P.underlying t with
 |some .bool=>∃b,d=.bool b
 |some (.int k)=>∃z,d=.int k z/\(Lit.int k z).wf=true
 |some .string=>∃s,d=.AM s/\s.length<=maxLen
 |some (.slice e)=>∃a,d=.AF (P.cellsOf e) a/\a.length<=maxLen/\∀x∈a,HD P n e x
 |some (.struct c)=>∃a,d=.agg a/\Mt (λ(f:Field) x=>HD P n f.type x) c.toList a
 |some (.array m e)=>∃a,d=.agg a/\a.length=m/\∀x∈a,HD P n e x
 |_=>False
def Fw(P:Program)(t:TypeId)(d:D):Prop:=∃n,HD P n t d
section
variable {P:Program} {t e:TypeId} {d:D}
def Fw.bool(a:P.underlying t=some .bool):Fw P t d->∃b,d=.bool b
|⟨n+1,h⟩=>by simp only[HD,a]at h;exact h
def Fw.int{k:IntKind}(a:P.underlying t=some (.int k)):Fw P t d->∃z,d=.int k z/\(Lit.int k z).wf=true
|⟨n+1,h⟩=>by simp only[HD,a]at h;exact h
def Fw.AM(a:P.underlying t=some .string):Fw P t d->∃s,d=.AM s/\s.length<=maxLen
|⟨n+1,h⟩=>by simp only[HD,a]at h;exact h
def Fw.sl(g:P.underlying t=some (.slice e)):Fw P t d->∃a,d=.AF (P.cellsOf e) a/\a.length<=maxLen/\∀x∈a,Fw P e x
|⟨n+1,h⟩=>by
 simp only[HD,g]at h;obtain⟨a,b,c,f⟩:=h;exact⟨a,b,c,λx i=>⟨n,f x i⟩⟩
def Fw.st{b:Array Field}(i:P.underlying t=some (.struct b)):Fw P t d->∃a,d=.agg a/\Mt (λ(f:Field) x=>Fw P f.type x) b.toList a
|⟨n+1,h⟩=>by
 simp only[HD,i]at h;obtain⟨a,c,g⟩:=h;exact⟨a,c,g.imp λ_ _ h=>⟨n,h⟩⟩
def Fw.ar{m:Nat}(g:P.underlying t=some (.array m e)):Fw P t d->∃a,d=.agg a/\a.length=m/\∀x∈a,Fw P e x
|⟨n+1,h⟩=>by
 simp only[HD,g]at h;obtain⟨a,b,c,f⟩:=h;exact⟨a,b,c,λx i=>⟨n,f x i⟩⟩
def Fw.AF{b:Type}{f:b->D}{a:List D}:(∀x∈a,∃y,x=f y)->∃l:List b,a=l.map f:=by
 induction a with
 |nil=>exact λ_=>⟨[],rfl⟩
 |cons x r g=>
  intro h;obtain⟨y,rfl⟩:=h x (by simp);obtain⟨l,rfl⟩:=g λz c=>h z (by simp[c]);exact⟨y::l,rfl⟩
def Rdv{c:Type}{f:c->D}{p:c->Prop}{b:List D}:(∀x∈b,∃y,x=f y/\p y)->∃l:List c,b=l.map f/\∀y∈l,p y:=by
 induction b with
 |nil=>exact λ_=>⟨[],rfl,by simp⟩
 |cons x r j=>
  intro h;obtain⟨y,rfl,i⟩:=h x (by simp);obtain⟨l,rfl,g⟩:=j λz a=>h z (by simp[a]);refine⟨y::l,rfl,λz a=>?_⟩;rcases DA.1 a with rfl|a
  ·exact i
  ·exact g z a
end
def SN(P:Program)(a:List TypeId):List Field->Nat->Nat->Bool
|[],o,n=>o==n
|f::r,o,n=>f.offset==o&&a.contains f.type&&SN P a r (o+P.cellsOf f.type) n
def YM(P:Program)(a:List TypeId)(t:TypeId):Bool:=match P.underlying t with
|some .bool|some (.int _)|some .string=>P.cellsOf t==1
|some (.slice e)=>P.cellsOf t==1&&a.contains e&&decide (0<P.cellsOf e)
|some (.struct b)=>SN P a b.toList 0 (P.cellsOf t)
|some (.array m e)=>a.contains e&&P.cellsOf t==m*P.cellsOf e
|_=>false
section
variable {H:Type} {enc:TypeId×Value->H} {P:Program} {w:World} {base:Nat} {sp:Nat->Bool} {held:Bool} {ow:Nat->Prop}
def Yja{a:Addr}{i:Nat}{v:Value}(h:w.cell? (a.add i)=some v)(c:i=0\/a.spot=none):a.spot=none/\a.block<w.heap.size/\w.cell? ⟨a.block,a.off+i,none⟩=some v:=by
 have b:a.spot=none:=by
  rcases c with rfl|c
  ·have:a.add 0=a:=by simp[Addr.add]
   rw[this]at h;unfold World.cell? at h;split at h
   ·split at h
    ·cases h
    next e=>simpa using e
   ·cases h
  ·exact c
 rw[Addr.Be b]at h;refine⟨b,?_,h⟩;unfold World.cell? at h;cases d:w.heap[a.block]? with
 |none=>simp only[d]at h;cases h
 |some o=>exact Xi d
def Yad{a:Addr}{n:Nat}{c:List Value}(h:w.cells? base a n=some c):c.length=n/\∀i,i<n->w.cell? (a.add i)=c[i]?:=by
 unfold World.cells? at h;split at h
 ·refine⟨by simpa using Lib.mapM_length h,λi f=>?_⟩;obtain⟨b,d,e⟩:=Lib.mapM_at h i i (by simp[f]);rw[e,d]
 ·cases h
def Xxx{e g:Type}{f:e->Option g}{a:e}{l:List e}{r:List g}(h:(a::l).mapM f=some r):∃b c,r=b::c/\f a=some b/\l.mapM f=some c:=by
 simp only[List.mapM_cons,Option.bind_eq_bind,H7,Option.pure_def,Bu]at h;obtain⟨b,i,c,d,rfl⟩:=h;exact⟨b,c,rfl,i,d⟩
end
end Go.Ab
namespace Go.Proofs.YtfedhegpmfkfoaaGreatDoor
open Go Go.Ab
abbrev Fx(t:TypeId)(d:D):Prop:=Fw Tryz.prog t d
def Yk{d:D}(h:Fx 9 d):∃s:B,d=.AM s:=by obtain⟨s,h,_⟩:=h.AM (by kernel_rfl);exact⟨s,h⟩
def X5{d:D}(h:Fx 3 d):∃n:Int,d=iD n:=by obtain⟨s,h,_⟩:=h.int (k:=.i64) (by kernel_rfl);exact⟨s,h⟩
def Ut{a:Type}{f:a->D}{t e:TypeId}{sz:Nat}{p:a->Prop}{d:D}(k:Tryz.prog.underlying t=some (.slice e))(j:Tryz.prog.cellsOf e=sz)(g:∀x,Fx e x->∃y,x=f y/\p y)(h:Fx t d):∃l:List a,d=.AF sz (l.map f)/\l.length<=9223372036854775807/\∀y∈l,p y:=by
 obtain⟨n,rfl,b,c⟩:=h.sl k;obtain⟨l,rfl,i⟩:=Rdv (f:=f) (p:=p) λx m=>g x (c x m);exact⟨l,by rw[j],by simpa[maxLen]using b,i⟩
def Wl{a:Type}{f:a->D}{t e:TypeId}{sz:Nat}{d:D}(j:Tryz.prog.underlying t=some (.slice e))(i:Tryz.prog.cellsOf e=sz)(g:∀x,Fx e x->∃y,x=f y)(h:Fx t d):∃l:List a,d=.AF sz (l.map f)/\l.length<=9223372036854775807:=by
 obtain⟨l,b,c,_⟩:=Ut (p:=λ_=>True) j i (λx k=>by obtain⟨y,e⟩:=g x k;exact⟨y,e,trivial⟩) h;exact⟨l,b,c⟩
def yL{d:D}(h:Fx 22 d):∃l:List B,d=Xg l/\l.length<=9223372036854775807:=Wl (f:=D.AM) (by kernel_rfl) (by kernel_rfl) (λ_=>Yk) h
def Ycc{d:D}(h:Fx 32 d):∃l:List Int,d=X9 l/\l.length<=9223372036854775807:=Wl (f:=iD) (by kernel_rfl) (by kernel_rfl) (λ_=>X5) h
def UC{d:D}(h:Fx 48 d):∃y:BG,d=y.enc:=by
 obtain⟨_,rfl,m,_,rfl,g,n,_,rfl,i,o,_,rfl,j,p,_,rfl,k,q,_,rfl,l,rfl⟩:=h.st Tryz.underlying48;obtain⟨a,rfl⟩:=Yk g;obtain⟨b,rfl⟩:=Yk i;obtain⟨c,rfl⟩:=X5 j;obtain⟨e,rfl⟩:=X5 k;obtain⟨f,rfl⟩:=X5 l;exact⟨⟨a,b,c,e,f⟩,rfl⟩
def Ycb{d:D}(h:Fx 50 d):∃y:Am,d=y.enc:=by
 obtain⟨_,rfl,k,_,rfl,f,l,_,rfl,g,m,_,rfl,i,n,_,rfl,j,rfl⟩:=h.st Tryz.underlying50;obtain⟨a,rfl⟩:=Yk f;obtain⟨b,rfl⟩:=Yk g;obtain⟨c,rfl⟩:=X5 i;obtain⟨e,rfl⟩:=UC j;exact⟨⟨a,b,c,e⟩,rfl⟩
def Yca{d:D}(h:Fx 124 d):∃y:BB,d=y.enc:=by
 obtain⟨_,rfl,i,_,rfl,e,j,_,rfl,f,k,_,rfl,g,rfl⟩:=h.st Tryz.underlying124;obtain⟨a,rfl⟩:=X5 e;obtain⟨b,rfl⟩:=UC f;obtain⟨c,rfl⟩:=UC g;exact⟨⟨a,b,c⟩,rfl⟩
def Yj9{d:D}(h:Fx 127 d):∃y:Ba,d=y.enc:=by
 obtain⟨_,rfl,i,_,rfl,e,j,_,rfl,f,k,_,rfl,g,rfl⟩:=h.st Tryz.underlying127;obtain⟨a,rfl⟩:=Yk e;obtain⟨b,rfl⟩:=X5 f;obtain⟨c,rfl⟩:=UC g;exact⟨⟨a,b,c⟩,rfl⟩
def Yce{d:D}(h:Fx 45 d):∃y:Ai,d=y.enc/\y.BC:=by
 obtain⟨_,rfl,p,_,rfl,g,q,_,rfl,i,r,_,rfl,j,s,_,rfl,k,t,_,rfl,l,rfl⟩:=h.st Tryz.underlying45;obtain⟨a,rfl⟩:=Yk g;obtain⟨b,rfl⟩:=X5 i;obtain⟨c,rfl,m⟩:=Wl (f:=Am.enc) (by kernel_rfl) (sz:=8) (by kernel_rfl) (λ_=>Ycb) j;obtain⟨e,rfl,n⟩:=Wl (f:=BB.enc) (by kernel_rfl) (sz:=11) (by kernel_rfl) (λ_=>Yca) k;obtain⟨f,rfl,o⟩:=Wl (f:=Ba.enc) (by kernel_rfl) (sz:=7) (by kernel_rfl) (λ_=>Yj9) l;exact⟨⟨a,b,c,e,f⟩,rfl,m,n,o⟩
def Ycd{d:D}(h:Fx 208 d):∃y:A8,d=y.enc:=by
 obtain⟨_,rfl,m,_,rfl,g,n,_,rfl,i,o,_,rfl,j,p,_,rfl,k,q,_,rfl,l,rfl⟩:=h.st Tryz.underlying208;obtain⟨a,rfl⟩:=Yk g;obtain⟨b,rfl⟩:=Yk i;obtain⟨c,rfl⟩:=X5 j;obtain⟨e,rfl⟩:=X5 k;obtain⟨f,rfl⟩:=X5 l;exact⟨⟨a,b,c,e,f⟩,rfl⟩
def Xp6{d:D}(h:Fx 66 d):∃y:Ag,d=y.enc/\y.Ap.length<=9223372036854775807:=by
 obtain⟨_,rfl,n,_,rfl,g,o,_,rfl,i,p,_,rfl,j,q,_,rfl,k,r,_,rfl,l,rfl⟩:=h.st Tryz.underlying66;obtain⟨a,rfl⟩:=Yk g;obtain⟨b,rfl⟩:=Yk i;obtain⟨c,rfl⟩:=X5 j;obtain⟨e,rfl⟩:=X5 k;obtain⟨f,rfl,m⟩:=Wl (f:=A8.enc) (by kernel_rfl) (sz:=5) (by kernel_rfl) (λ_=>Ycd) l;exact⟨⟨a,b,c,e,f⟩,rfl,m⟩
def Yj8{d:D}(h:Fx 139 d):∃y:CM,d=y.enc:=by
 obtain⟨_,rfl,k,_,rfl,f,l,_,rfl,g,m,_,rfl,i,n,_,rfl,j,rfl⟩:=h.st Tryz.underlying139;obtain⟨a,rfl⟩:=Yk f;obtain⟨b,rfl⟩:=Yk g;obtain⟨c,rfl⟩:=X5 i;obtain⟨e,rfl⟩:=X5 j;exact⟨⟨a,b,c,e⟩,rfl⟩
def Xp7{d:D}(h:Fx 77 d):∃y:AR,d=y.enc/\y.CW.length<=9223372036854775807:=by
 obtain⟨_,rfl,k,_,rfl,e,l,_,rfl,g,m,_,rfl,i,rfl⟩:=h.st Tryz.underlying77;obtain⟨a,rfl⟩:=Yk e;obtain⟨b,rfl,j⟩:=Wl (f:=CM.enc) (by kernel_rfl) (sz:=4) (by kernel_rfl) (λ_=>Yj8) g;obtain⟨c,rfl⟩:=X5 i;exact⟨⟨a,b,c⟩,rfl,j⟩
def Ycg{d:D}(h:Fx 88 d):∃y:At,d=y.enc:=by
 obtain⟨_,rfl,m,_,rfl,g,n,_,rfl,i,o,_,rfl,j,p,_,rfl,k,q,_,rfl,l,rfl⟩:=h.st Tryz.underlying88;obtain⟨a,rfl⟩:=Yk g;obtain⟨b,rfl⟩:=Yk i;obtain⟨c,rfl⟩:=X5 j;obtain⟨e,rfl⟩:=X5 k;obtain⟨f,rfl⟩:=X5 l;exact⟨⟨a,b,c,e,f⟩,rfl⟩
def Ycf{d:D}(h:Fx 129 d):∃y:A4,d=y.enc/\y.names.length<=9223372036854775807:=by
 obtain⟨_,rfl,p,_,rfl,i,q,_,rfl,j,r,_,rfl,k,s,_,rfl,l,t,_,rfl,m,u,_,rfl,n,rfl⟩:=h.st Tryz.underlying129;obtain⟨a,rfl⟩:=X5 i;obtain⟨b,rfl⟩:=X5 j;obtain⟨c,rfl⟩:=X5 k;obtain⟨e,rfl⟩:=Yk l;obtain⟨f,rfl⟩:=X5 m;obtain⟨g,rfl,o⟩:=yL n;exact⟨⟨a,b,c,e,f,g⟩,rfl,o⟩
def X2z{d:D}(h:Fx 136 d):∃y:Ad,d=y.enc/\y.type.names.length<=9223372036854775807:=by
 obtain⟨_,rfl,n,_,rfl,f,o,_,rfl,g,p,_,rfl,i,rfl⟩:=h.st Tryz.underlying136;obtain⟨a,rfl⟩:=Yk f;obtain⟨b,rfl,j⟩:=Ycf g;obtain⟨l,rfl,k,c⟩:=i.ar (e:=3) (m:=4) (by kernel_rfl)
 match l,k,c with
 |[w,x,y,z],_,c=>
  obtain⟨w,rfl⟩:=X5 (c w (by simp));obtain⟨x,rfl⟩:=X5 (c x (by simp));obtain⟨y,rfl⟩:=X5 (c y (by simp));obtain⟨z,rfl⟩:=X5 (c z (by simp));exact⟨⟨a,b,w,x,y,z⟩,rfl,j⟩
def Xxj{d:D}(h:Fx 98 d):∃y:Ax,d=y.enc/\y.BC:=by
 obtain⟨_,rfl,m,_,rfl,f,n,_,rfl,g,o,_,rfl,i,p,_,rfl,j,rfl⟩:=h.st Tryz.underlying98;obtain⟨a,rfl,k⟩:=yL f;obtain⟨b,rfl⟩:=Yk g;obtain⟨c,rfl,l⟩:=Ycc i;obtain⟨e,rfl⟩:=X5 j;exact⟨⟨a,b,c,e⟩,rfl,k,l⟩
def Xxk{d:D}(h:Fx 54 d):∃y:AI,d=y.enc/\y.BC:=by
 obtain⟨_,rfl,s,_,rfl,i,t,_,rfl,j,u,_,rfl,k,v,_,rfl,l,w,_,rfl,m,x,_,rfl,n,rfl⟩:=h.st Tryz.underlying54;obtain⟨a,rfl⟩:=Yk i;obtain⟨b,rfl⟩:=Yk j;obtain⟨c,rfl⟩:=X5 k;obtain⟨e,rfl⟩:=X5 l;obtain⟨f,rfl,o,q⟩:=Ut (f:=Ad.enc) (by kernel_rfl) (sz:=11) (by kernel_rfl) (λ_=>X2z) m;obtain⟨g,rfl,p,r⟩:=Ut (f:=Ax.enc) (by kernel_rfl) (sz:=4) (by kernel_rfl) (λ_=>Xxj) n;exact⟨⟨a,b,c,e,f,g⟩,rfl,o,p,q,r⟩
def Xxl{d:D}(h:Fx 29 d):∃y:Ah,d=y.enc/\y.BC:=by
 obtain⟨_,rfl,z,_,rfl,i,F,_,rfl,j,G,_,rfl,k,H,_,rfl,l,J,_,rfl,m,K,_,rfl,n,rfl⟩:=h.st Tryz.underlying29;obtain⟨a,rfl,o⟩:=yL i;obtain⟨b,rfl,p⟩:=Wl (f:=At.enc) (by kernel_rfl) (sz:=5) (by kernel_rfl) (λ_=>Ycg) j;obtain⟨c,rfl,q,u⟩:=Ut (f:=AI.enc) (by kernel_rfl) (sz:=6) (by kernel_rfl) (λ_=>Xxk) k;obtain⟨e,rfl,r,v⟩:=Ut (f:=Ai.enc) (by kernel_rfl) (sz:=5) (by kernel_rfl) (λ_=>Yce) l;obtain⟨f,rfl,s,w⟩:=Ut (f:=Ag.enc) (by kernel_rfl) (sz:=5) (by kernel_rfl) (λ_=>Xp6) m;obtain⟨g,rfl,t,x⟩:=Ut (f:=AR.enc) (by kernel_rfl) (sz:=3) (by kernel_rfl) (λ_=>Xp7) n;exact⟨⟨a,b,c,e,f,g⟩,rfl,o,p,q,r,s,t,u,v,w,x⟩
def Zt4{d:D}(h:Fx 34 d):∃y:QI,d=y.enc/\y.Gv.BC/\y.order.length<=9223372036854775807:=by
 obtain⟨_,rfl,i,_,rfl,c,j,_,rfl,e,rfl⟩:=h.st Tryz.underlying34;obtain⟨a,rfl,f⟩:=Xxl c;obtain⟨b,rfl,g⟩:=Ycc e;exact⟨⟨a,b⟩,rfl,f,g⟩
abbrev oP:List TypeId:=[9,3,22,32,134,48,50,124,127,45,208,66,139,77,88,129,136,98,54,29,
 41,42,43,64,75,23,51,52,24,25,26,27,4,34]
end Go.Proofs.YtfedhegpmfkfoaaGreatDoor
namespace Go.Proofs.YtfedhegpmfkfoaaGreatDoor
open Go Go.Ab
def Zru{d:D}(h:Fx 57 d):∃y:EJ,d=y.enc/\y.AL.length<=9223372036854775807/\y.CH.length<=9223372036854775807:=by
 obtain⟨_,rfl,k,_,rfl,e,l,_,rfl,f,m,_,rfl,g,rfl⟩:=h.st Tryz.underlying57;obtain⟨a,rfl⟩:=X5 e;obtain⟨b,rfl,i⟩:=Ycc f;obtain⟨c,rfl,j⟩:=Ycc g;exact⟨⟨a,b,c⟩,rfl,i,j⟩
abbrev iM:List TypeId:=57::oP
def Zrs:iM.all (YM Tryz.prog iM)=true:=by kernel_rfl
end Go.Proofs.YtfedhegpmfkfoaaGreatDoor
namespace Go.Ab
open Go
mutual
def D.CI:D->Nat
|.AM s=>s.length+1
|.AF _ a=>Fc a+1
|.agg a=>Fc a+1
|_=>1
def Fc:List D->Nat
|[]=>0
|d::r=>D.CI d+Fc r
end
structure Dt{H:Type}(Bn:DataW H->Nat)(blks:List (DataW H)->Nat):Prop where
 lit:∀l,1<=Bn (.lit l)
 AM:∀b,Bn (.lit (.string b))=b.length+1
 nil:1<=Bn .nil
 sl:∀es sp,Bn (.slice es sp)=blks es+blks sp+1
 agg:∀ps,Bn (.agg ps)=blks ps+1
 none:blks []=0
 cons:∀d r,blks (d::r)=Bn d+blks r
section
variable {H:Type} {enc:TypeId×Value->H} {P:Program} {w:World} {base:Nat} {sp:Nat->Bool} {held:Bool} {ow:Nat->Prop} {Bn:DataW H->Nat} {blks:List (DataW H)->Nat}
def vT(b:List D)(y:D):Fc (b++[y])=Fc b+y.CI:=by
 induction b with
 |nil=>simp[Fc]
 |cons a r c=>simp only[List.cons_append,Fc,c];omega
def wD(b:Dt Bn blks)(c:List (DataW H))(y:DataW H):blks (c++[y])=blks c+Bn y:=by
 induction c with
 |nil=>simp[b.cons,b.none]
 |cons a r d=>simp only[List.cons_append,b.cons,d];omega
def wX(s:Dt Bn blks)(p:D->Prop)(c:Nat)(m:0<c)(a:Addr)(g:List (DataW H×List MemPlace)):∀n,n<=g.length->(∀i,(t:i<g.length)->i<n->∃f,w.cells? base (a.add (i*c)) c=some f/\∃y:D,p y/\y.CI<=Bn g[i].1/\y.An w ow f/\y.sz=c)->
 ∃(e:List D) (d:List Value),e.length=n/\d.length=n*c/\(∀y∈e,p y/\y.sz=c)/\Fc e<=blks ((g.take n).map (·.1))/\Bb w ow e d/\(0<n->a.spot=none/\a.block<w.heap.size)/\∀j (h:j<d.length),w.cell? ⟨a.block,a.off+j,none⟩=some d[j]
|0,_,_=>⟨[],[],rfl,by simp,by simp,by simp[Fc],rfl,by simp,by simp⟩
|n+1,R,u=>by
 obtain⟨e,d,F,G,J,Y,K,L,M⟩:=wX s p c m a g n (by omega) (λi t h=>u i t (by omega));obtain⟨f,N,y,U,Z,W,X⟩:=u n (by omega) (by omega);obtain⟨v,r⟩:=Yad N;have b:a.spot=none/\a.block<w.heap.size:=by
  rcases Nat.eq_zero_or_pos n with rfl|T
  ·have q:=r 0 m;rw[Cn (by omega)]at q;have x:(a.add (0*c)).add 0=a.add 0:=by simp[Addr.add]
   rw[x]at q;have:=Yja q (.inl rfl);exact⟨this.1,this.2.1⟩
  ·exact L T
 refine⟨e++[y],d++f,by simp[F],by simp[G,v,Fz],?_,?_,On K ⟨f,[],by simp,W,rfl⟩,λ_=>b,λj O=>?_⟩
 ·intro z o;rcases DF.1 o with o|o
  ·exact J z o
  ·rw[DW.1 o];exact⟨U,X⟩
 ·rw[Ca (by omega),Ij,Cg,HB,wD s,vT];omega
 ·rw[List.getElem_append];split
  next k=>exact M j k
  ·rename_i k;simp at O;have Q:j-d.length<c:=by omega
   have:=r (j-d.length) Q;rw[Cn (by omega)]at this;rw[Addr.Be b.1,Addr.Be rfl]at this;have l:a.off+n*c+(j-d.length)=a.off+j:=by omega
   simp only[l]at this;exact this
def wY(k:Dt Bn blks)(p:D->Prop)(b:Nat)(c:List Value)(f:List (DataW H×List MemPlace)):∀n,n<=f.length->n*b<=c.length->(∀i,(m:i<f.length)->i<n->∃y:D,p y/\y.CI<=Bn f[i].1/\y.An w ow ((c.drop (i*b)).take b)/\y.sz=b)->
 ∃d:List D,d.length=n/\(∀y∈d,p y)/\Fc d<=blks ((f.take n).map (·.1))/\Bb w ow d (c.take (n*b))/\Cf d=n*b
|0,_,_,_=>⟨[],rfl,by simp,by simp[Fc],by simp[Bb],by simp[Cf]⟩
|n+1,x,v,o=>by
 obtain⟨d,q,s,L,t,u⟩:=wY k p b c f n (by omega) (by rw[Fz]at v;omega) λi m h=>o i m (by omega);obtain⟨y,G,M,J,K⟩:=o n (by omega) (by omega);refine⟨d++[y],by simp[q],?_,?_,?_,?_⟩
 ·intro z g;rcases DF.1 g with g|g
  ·exact s z g
  ·rw[DW.1 g];exact G
 ·rw[Ca (by omega),Ij,Cg,HB,wD k,vT];omega
 ·have e:c.take ((n+1)*b)=c.take (n*b)++(c.drop (n*b)).take b:=by rw[Fz,Nat.one_mul,List.take_add]
  rw[e];exact On t ⟨_,[],by simp,J,rfl⟩
 ·have j:∀l:List D,Cf (l++[y])=Cf l+y.sz:=λl=>by induction l with
  |nil=>simp[Cf]
  |cons a r F=>simp only[List.cons_append,Cf,F];omega
  rw[j,u,K,Fz,Nat.one_mul]
def vn(j:Dt Bn blks)(g:List TypeId)(q:TypeId->List Value->Option (DataW H×List MemPlace))(p:TypeId->D->Prop)(l:∀t a x,t∈g->q t a=some x->∃y:D,p t y/\y.CI<=Bn x.1/\y.An w ow a/\y.sz=P.cellsOf t):∀(c:List Field)(o:Nat)(a:List Value) (e:List (DataW H×List MemPlace)),SN P g c o a.length=true->
 c.mapM (λf=>q f.type ((a.drop f.offset).take (P.cellsOf f.type)))=some e->∃b:List D,Mt (λ(f:Field) y=>p f.type y) c b/\Fc b<=blks (e.map (·.1))/\Bb w ow b (a.drop o)/\o+Cf b=a.length
|[],o,a,e,d,h=>by
 simp only[SN,CT]at d;refine⟨[],rfl,by simp[Fc],?_,by simpa[Cf]using d⟩;simp only[Bb];exact Gj (by omega)
|f::c,o,a,e,d,h=>by
 simp only[SN,As,CT,List.contains_iff_mem]at d;obtain⟨⟨m,n⟩,r⟩:=d;obtain⟨x,i,rfl,k,s⟩:=Xxx h;rw[m]at k;obtain⟨y,u,J,v,G⟩:=l f.type _ x n k;obtain⟨b,z,L,F,K⟩:=vn j g q p l c _ a i r s;refine⟨y::b,⟨y,b,rfl,u,z⟩,?_,?_,by simp only[Cf];omega⟩
 ·simp only[Cg,j.cons,Fc];omega
 ·simp only[Bb];refine⟨_,_,?_,v,F⟩;rw[<-List.drop_drop];exact(Kh _ _).symm
def vP(g:Dt Bn blks)(u:∀b,¬ow b)(L:List TypeId)(hl:L.all (YM P L)=true):∀(r:Nat)(t:TypeId)(J:List Value)(x:DataW H×List MemPlace),t∈L->DataW.trod enc P w base sp held r t J=some x->∃y:D,HD P r t y/\y.CI<=Bn x.1/\y.An w ow J/\y.sz=P.cellsOf t
|0,_,_,_,_,h=>by simp[DataW.trod]at h
|n+1,t,J,x,ht,h=>by
 have d:=DQ.1 hl t ht;have ih:=vP g u L hl n;simp only[YM]at d;unfold HD;split at d
 next p=>obtain⟨b,rfl,rfl⟩:=DataW.trod_bool p h;exact⟨.bool b,⟨b,rfl⟩,g.lit _,rfl,by simpa[D.sz]using Eq.symm (CT.1 d)⟩
 next k p=>obtain⟨z,rfl,rfl,hw⟩:=DataW.trod_int p h;exact⟨.int k z,⟨z,rfl,hw⟩,g.lit _,rfl,by simpa[D.sz]using Eq.symm (CT.1 d)⟩
 next p=>obtain⟨s,rfl,rfl,hs⟩:=DataW.trod_string p h;exact⟨.AM s.data.toList,⟨_,rfl,by simpa using hs⟩,by simp[D.CI,g.AM],by simp[D.An],by simpa[D.sz]using Eq.symm (CT.1 d)⟩
 ·rename_i e p;simp only[As,CT,Bs,List.contains_iff_mem]at d;obtain⟨⟨N,W⟩,h3⟩:=d;unfold DataW.trod at h;rw[p]at h;split at h<;>try (simp at *;done)
  ·simp only[Bu]at h;subst h;exact⟨.AF (P.cellsOf e) [],⟨[],rfl,by simp,by simp⟩,by simpa[D.CI,Fc]using g.nil,.inl ⟨rfl,rfl⟩,by simp[D.sz,N]⟩
  ·rename_i T a l c Z;obtain rfl:e=T:=by simpa using Z
   simp only at h;split at h
   ·rename_i O;obtain⟨f,he,h⟩:=H7.1 h;have K:f.length=l:=by simpa using Lib.mapM_length he
    obtain⟨G,vs,q1,q2,q3,qb,q4,q5,q6⟩:=wX (w:=w) (base:=base) (ow:=ow) g (HD P n e) (P.cellsOf e) h3 a f l (by omega) λi X F=>by
     obtain⟨b,j,O⟩:=Lib.mapM_at he i i (by simp[F]);obtain⟨J,hc,q⟩:=H7.1 O;rw[Cn X]at j;obtain rfl:=FQ j;exact⟨J,hc,ih e J _ W q⟩
    obtain⟨aa,_,q⟩:=D9.1 h;subst q;refine⟨.AF (P.cellsOf e) G,⟨G,rfl,by omega,λy hy=>(q3 y hy).1⟩,?_,.inr ⟨a,c,vs,by rw[q1],by omega,⟨λY=>?_,q6⟩,q4,λx q=>(q3 x q).2⟩,by simp[D.sz,N]⟩
    ·rw[JI (by omega)]at qb;simp only[D.CI,g.sl];omega
    have R:0<l:=by
     rcases Nat.eq_zero_or_pos l with rfl|R
     ·have:vs=[]:=Nd.1 (by simpa using q2);exact(Y this).elim
     ·exact R
    exact⟨(q5 R).1,u _,(q5 R).2⟩
   ·cases h
 ·rename_i fs p;unfold DataW.trod at h;rw[p]at h;split at h<;>try (simp at *;done)
  rename_i U v;obtain rfl:fs=U:=by simpa using v
  split at h
  next o=>obtain⟨G,Q,q⟩:=D9.1 h;subst q;rw[<-o]at d;obtain⟨M,y1,yb,y2,y3⟩:=vn g L _ (HD P n) ih fs.toList 0 _ G d Q;exact⟨.agg M,⟨M,rfl,y1⟩,by simp only[D.CI,g.agg];omega,by simpa[D.An]using y2,by simp only[D.sz];omega⟩
  ·cases h
 ·rename_i m e p;simp only[As,CT,List.contains_iff_mem]at d;obtain⟨N,W⟩:=d;unfold DataW.trod at h;rw[p]at h;split at h<;>try (simp at *;done)
  rename_i m' T v;obtain⟨rfl,rfl⟩:m=m'/\e=T:=by simpa using v
  split at h
  ·rename_i o;obtain⟨G,Q,q⟩:=D9.1 h;subst q;have K:G.length=m:=by simpa using Lib.mapM_length Q
   obtain⟨M,y1,y2,yb,y3,y4⟩:=wY (w:=w) (ow:=ow) g (HD P n e) (P.cellsOf e) _ G m (by omega) (Nat.le_of_eq (o.trans W).symm) λi X F=>by
    obtain⟨b,j,O⟩:=Lib.mapM_at Q i i (by simp[F]);rw[Cn X]at j;obtain rfl:=FQ j;exact ih e _ _ N O
   rw[JI (Nat.le_of_eq K)]at yb;refine⟨.agg M,⟨M,rfl,y1,y2⟩,by simp only[D.CI,g.agg];omega,?_,by simp only[D.sz];omega⟩;simp only[D.An];rw[JI (by omega)]at y3;exact y3
  ·cases h
 ·cases d
def X6w(f:Dt Bn blks)(c:∀b,¬ow b)(e:List TypeId)(g:e.all (YM P e)=true){t:TypeId}(i:t∈e){v:Value}{d:DataW H}{j:List MemPlace}(h:DataW.Trod enc P w base sp held t v d j):∃y:D,Fw P t y/\y.CI<=Bn d/\y.An w ow v.cells.toList:=by
 obtain⟨a,h⟩:=h;obtain⟨y,k,m,l,_⟩:=vP f c e g a t _ _ i h;exact⟨y,⟨a,k⟩,m,l⟩
end
end Go.Ab
namespace Go.Ab
open Go Go.Ab
def eD{d:D}:∀{l:List D},d∈l->d.CI<=Fc l
|[],h=>by cases h
|x::r,h=>by
 rw[Fc];rcases DA.1 h with rfl|h
 ·omega
 ·have:=eD h;omega
def X9u(d:D):1<=d.CI:=by
 cases d<;>simp[D.CI]
def yV:∀l:List D,l.length<=Fc l
|[]=>by simp
|x::r=>by
 have a:=yV r;have b:=X9u x;rw[Fc,List.length_cons];omega
def eC{d:D}{l:List D}(h:d∈l):d.CI<=(D.agg l).CI:=by
 have:=eD h;rw[D.CI];omega
def wF{d:D}{z:Nat}{l:List D}(h:d∈l):d.CI<=(D.AF z l).CI:=by
 have:=eD h;rw[D.CI];omega
def Xxy{y:Ah}(h:y.enc.CI<=1048576):∀x∈y.AD,∀d∈x.Aj,d.names.length<=1000000000000:=λx j d i=>by
 have b:(D.AF 6 (y.AD.map AI.enc)).CI<=y.enc.CI:=eC (by simp);have c:x.enc.CI<=(D.AF 6 (y.AD.map AI.enc)).CI:=wF (List.mem_map_of_mem j);have e:(D.AF 4 (x.Aj.map Ax.enc)).CI<=x.enc.CI:=eC (by simp);have f:d.enc.CI<=(D.AF 4 (x.Aj.map Ax.enc)).CI:=wF (List.mem_map_of_mem i);have g:(D.AF 1 (d.names.map D.AM)).CI<=d.enc.CI:=eC (by simp[Xg]);have a:(d.names.map D.AM).length<=(D.AF 1 (d.names.map D.AM)).CI:=by
  have:=yV (d.names.map D.AM);rw[D.CI];omega
 rw[List.length_map]at a;have:=FA a (FA g (FA f (FA e (FA c (FA b h)))));omega
end Go.Ab
namespace Go.Proofs.YtfedhegpmfkfoaaGreatDoor
open Go Go.Ab
def Yp6{H:Type}:Dt (H:=H) Rows.uptoBulk Rows.uptoBulkAll where
 lit l:=by cases l<;>simp[Rows.uptoBulk]
 AM b:=by simp[Rows.uptoBulk]
 nil:=by simp[Rows.uptoBulk]
 sl es sp:=by simp only[Rows.uptoBulk]
 agg ps:=by simp only[Rows.uptoBulk]
 none:=by simp[Rows.uptoBulkAll]
 cons d r:=by simp only[Rows.uptoBulkAll]
def X8o{H:Type}{l:List (DataW H)}(a:Rows.uptoSmall H l=true){d:DataW H}(hd:d∈l):Rows.uptoBulk d<=1048576:=by
 have h:Rows.uptoBulkAll l<=1048576:=Gk a;clear a;induction l with
 |nil=>cases hd
 |cons x r b=>
  simp only[Rows.uptoBulkAll]at h;rcases DA.1 hd with rfl|hd
  ·omega
  ·exact b hd (by omega)
end Go.Proofs.YtfedhegpmfkfoaaGreatDoor
