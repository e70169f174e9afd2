/- Joined texts, part 12 of 13. From a call to a row: what is laid, the witness, a law's run. Condition: none; the seat's program. -/
import Derived.Test.YtghnkpkellnmdaaGreatDoorT11
import Derived.Test.YtghnkpkellnmdaaGreatDoorRows
import Derived.ChangeSame
import Derived.ChangeVars
import Derived.ChangeMaps5
import Derived.JoinedOf
import Derived.RowKit
import Derived.RowKitTokens
import Derived.LaidLaws
import Derived.LaidHandle
import Derived.Lib.LaidTab
import Derived.Carry
import Derived.Below
import Derived.Stop.Joined
set_option maxRecDepth 100000
set_option linter.unusedSimpArgs false
set_option linter.unusedVariables false
set_option linter.unusedSectionVars false
set_option linter.defProp false
namespace Go.Proofs.YtghnkpkellnmdaaGreatDoor
open Go Go.Ab Go.ChangeShapes Go.WideShapes Go.RowKit
def LV:ownKnob Tryz.prog.godebug=none:=by kernel_rfl
abbrev E8:List (String×DataW Unit):=[("math/bits.deBruijn32tab", Rows.laid_math_bits_deBruijn32tab),("math/bits.deBruijn64tab", Rows.laid_math_bits_deBruijn64tab),("internal/strconv.uint64pow10", Rows.laid_internal_strconv_uint64pow10),("testamur/digest.constants", Rows.laid_testamur_digest_constants),("testamur/syntax.anyNumber", Rows.laid_testamur_syntax_anyNumber),("testamur/syntax.factors", Rows.laid_testamur_syntax_factors),("testamur/syntax.editions", Rows.laid_testamur_syntax_editions),("testamur/syntax.weights", Rows.laid_testamur_syntax_weights),("testamur/syntax.mosts", Rows.laid_testamur_syntax_mosts)]
def Ft{i:TypeId×Value->Unit}{w:World}{d:Nat}{T:Nat->Bool}{f:Bool}{c:Nat}{t e:TypeId}{j k:Field}{s:Array Field}{g:List Value}{a b:Int}{p:List MemPlace}
 (O:Tryz.prog.underlying t=some (.struct s)) (n:s.toList=[j,k]) (K:j.type=e) (L:k.type=e) (P:j.offset=0) (Q:k.offset=1) (m:Tryz.prog.cellsOf t=2) (l:Tryz.prog.cellsOf e=1) (x:Tryz.prog.underlying e=some (.int .i64))
 (h:DataW.trod i Tryz.prog w d T f c t g=some (.agg [.lit (.int .i64 a),.lit (.int .i64 b)],p)):g=[.int .i64 a,.int .i64 b]:=by
 cases c with
 |zero=>simp[DataW.trod]at h
 |succ c=>
  simp only[DataW.trod,O,m]at h;split at h
  ·rename_i N;obtain⟨xs,o,y⟩:=Hg.1 h;rw[n]at o;simp only[List.mapM_cons,List.mapM_nil,Option.bind_eq_bind,IF,Option.pure_def,ED,K,L,P,Q,l]at o;obtain⟨Z,z,U,⟨x2,F,W,G,H⟩,J⟩:=o;subst G;subst H;subst J;obtain⟨X,q,rfl,_⟩:=DataW.trod_int x z;obtain⟨Y,r,rfl,_⟩:=DataW.trod_int x F;simp only[Dj,Kh,Ki,DataW.agg.injEq,Mg,DataW.lit.injEq,Lit.int.injEq,true_and,Ld]at y;obtain⟨⟨rfl,rfl⟩,_⟩:=y
   match g,N with
   |[u,v],_=>
    simp at q r;rw[q,r]
  ·cases h
def H7{W:World}{n:String}{g:Nat}{a:Array Value}(d:Tryz.prog.globalNamed n=some g)(h:W.var? Tryz.prog n=some a):∃T f,W.heap[g]? = some (.cells a T f):=by
 simp only[World.var?,d,Dk]at h;cases b:W.heap[g]? with
 |none=>rw[b]at h;cases h
 |some o=>
  rw[b]at h;cases o with
  |cells c T f=>simp only[ED]at h;subst h;exact⟨T,f,rfl⟩
  |_=>cases h
def GD(k:IntKind):∀l:List Int,He (l.map (D.int k)) (l.map λz=>Value.int k z)=true
|[]=>rfl
|x::r=>by simp[He,E0,D.sz,GD k r]
structure GJ(W:World):Prop where
 pow:∃T f,W.heap[7]? = some (.cells (Lib.pow10Tab.map λz=>Value.int .u64 z).toArray T f)
 kst:∃T f,W.heap[5]? = some (.cells (EC.map λz=>Value.int .u32 z).toArray T f)
 JB:∃T f,W.heap[4]? = some (.cells [Value.int .i64 0,Value.int .i64 1048576].toArray T f)
 AX:∃T f,W.heap[0]? = some (.cells [Value.int .i64 2,Value.int .i64 1000].toArray T f)
 AO:∃T f,W.heap[1]? = some (.cells [Value.int .i64 1,Value.int .i64 255].toArray T f)
 AQ:∃T f,W.heap[3]? = some (.cells [Value.int .i64 0,Value.int .i64 9].toArray T f)
 As:∃T f,W.heap[2]? = some (.cells [Value.int .i64 0,Value.int .i64 32].toArray T f)
def GU{W:World}(h:laidMetH Tryz.prog E8 W):GJ W:=by
 have h':laidMet Tryz.prog E8 W:=h;obtain⟨ps,⟨g6,t6,c6,f6,p6,q6,_,_,_,_,X,_⟩,_⟩:=h';obtain⟨g7,t7,c7,f7,p7,q7,_,_,_,_,Y,_⟩:=X;obtain⟨g8,t8,c8,f8,p8,q8,L,ag,ao,j,Z,_⟩:=Y;obtain⟨g9,t9,c9,f9,p9,q9,N,ah,ap,l,aa,_⟩:=Z;obtain⟨g1,t1,c1,f1,p1,q1,F,ab,ai,v,O,_⟩:=aa;obtain⟨g2,t2,c2,f2,p2,q2,G,ac,aj,w,P,_⟩:=O;obtain⟨g3,t3,c3,f3,p3,q3,H,ad,ak,x,Q,_⟩:=P;obtain⟨g4,t4,c4,f4,p4,q4,J,ae,al,y,U,_⟩:=Q;obtain⟨g5,t5,c5,f5,p5,q5,K,af,an,z,aq,_⟩:=U;have i:∀{n:String}{g t:Nat}{c:Array Value}{fu:Nat}{p:List MemPlace}{a b:Int},Tryz.prog.globalNamed n=some g->W.var? Tryz.prog n=some c->t=153->DataW.trod (λ_=>()) Tryz.prog W 0 (λ_=>true) false fu t c.toList=some (.agg [.lit (.int .i64 a),.lit (.int .i64 b)],p)->∃T f,W.heap[g]? = some (.cells [Value.int .i64 a,Value.int .i64 b].toArray T f):=by
  intro n g t c fu p a b hn hv ht hd;subst ht;obtain⟨T,f,m⟩:=H7 hn hv;have:=Ft (e:=3) Tryz.underlying153 rfl rfl rfl rfl rfl (by kernel_rfl) (by kernel_rfl) (by kernel_rfl) hd;have hc:c=[Value.int .i64 a,Value.int .i64 b].toArray:=by rw[<-this]
  exact⟨T,f,by rw[m,hc]⟩
 have o:∀{g t:Nat}(k:Nat),(Tryz.prog.globals[g]?).map (·.type)=some t->(Tryz.prog.globals[g]?).map (·.type)=some k->t=k:=λk h1 h2=>JR (h1.symm.trans h2);refine⟨?_,?_,?_,?_,?_,?_,?_⟩
 ·have d:Tryz.prog.globalNamed "internal/strconv.uint64pow10" = some 7:=by kernel_rfl
  obtain rfl:=JR (d.symm.trans L);have q:(Tryz.prog.globals[7]?).map (·.type)=some 363:=by kernel_rfl
  obtain rfl:=JR (q.symm.trans ag);have r:Tryz.prog.underlying 363=some (.array 20 348):=by kernel_rfl
  have s:Tryz.prog.underlying 348=some (.int .u64):=by kernel_rfl
  have u:(Rows.laid_internal_strconv_uint64pow10:DataW Unit)=Lib.tabData .u64 Lib.pow10Tab:=by kernel_rfl
  rw[u]at j;obtain⟨T,f,m⟩:=H7 d ao;have:=Lib.cells_of_tab r s (by kernel_rfl) (by kernel_rfl) j;exact⟨T,f,by rw[m,<-this]⟩
 ·have d:Tryz.prog.globalNamed "testamur/digest.constants" = some 5:=by kernel_rfl
  obtain rfl:=JR (d.symm.trans N);have q:(Tryz.prog.globals[5]?).map (·.type)=some 356:=by kernel_rfl
  obtain rfl:=JR (q.symm.trans ah);have r:Tryz.prog.underlying 356=some (.array 64 313):=by kernel_rfl
  have s:Tryz.prog.underlying 313=some (.int .u32):=by kernel_rfl
  have u:(Rows.laid_testamur_digest_constants:DataW Unit)=Lib.tabData .u32 EC:=by kernel_rfl
  rw[u]at l;obtain⟨T,f,m⟩:=H7 d ap;have:=Lib.cells_of_tab r s (by kernel_rfl) (by kernel_rfl) l;exact⟨T,f,by rw[m,<-this]⟩
 ·have d:Tryz.prog.globalNamed "testamur/syntax.anyNumber" = some 4:=by kernel_rfl
  obtain rfl:=JR (d.symm.trans F);exact i d ai (o 153 ab (by kernel_rfl)) v
 ·have d:Tryz.prog.globalNamed "testamur/syntax.factors" = some 0:=by kernel_rfl
  obtain rfl:=JR (d.symm.trans G);exact i d aj (o 153 ac (by kernel_rfl)) w
 ·have d:Tryz.prog.globalNamed "testamur/syntax.editions" = some 1:=by kernel_rfl
  obtain rfl:=JR (d.symm.trans H);exact i d ak (o 153 ad (by kernel_rfl)) x
 ·have d:Tryz.prog.globalNamed "testamur/syntax.weights" = some 3:=by kernel_rfl
  obtain rfl:=JR (d.symm.trans J);exact i d al (o 153 ae (by kernel_rfl)) y
 ·have d:Tryz.prog.globalNamed "testamur/syntax.mosts" = some 2:=by kernel_rfl
  obtain rfl:=JR (d.symm.trans K);exact i d an (o 153 af (by kernel_rfl)) z
def VK(a:List Nat)(x y:S)(d:Array Nat)(N:Nat)(b c:Code):Prop:=((d.toList==a)&&a.all (λk=>decide (k<N))&&S.An Tryz.prog N b x&&S.An Tryz.prog N c y&&x.Fw&&y.Fw)=true
def LU(a:Nat)(d:Array Nat)(N:Nat)(b c:Code):Prop:=
 a=192/\VK [7] Dg Dh d N b c
noncomputable def ES (W:World):BE:=⟨Tryz.prog,⟨λb=>if b<=8 then W.heap[b]? else none,LU⟩⟩
noncomputable def GB (W:World):BF:=⟨λ_=>none,λ_=>False,(ES W).g⟩
def Nc(W:World)(b:Nat):¬CS (GB W) b:=by
 rintro (⟨_,_,h,_⟩|h)
 ·cases h
 ·exact h
def P2(W:World):OM W (GB W) []:=by
 refine⟨λ_ _ h=>(by cases h),λ_ _ h=>(by cases h),λ_ _ _ _ _ h=>(by cases h),λ_ h=>h.elim,λb o h=>⟨?_,Nc W b⟩,λ_ ⟨_,_,h,_⟩=>(by cases h),trivial⟩;simp only[GB,ES]at h;split at h
 ·exact h
 ·cases h
def P5(W:World){b:Nat}(a:b<=8):(ES W).g b=W.heap[b]?:=by simp only[ES,a,CP]
def P6{W:World}(h:GJ W):Ez (ES W):=by
 have c:∀{g:Nat}{a b:Int},g<=8->(∃T f,W.heap[g]? = some (.cells [Value.int .i64 a,Value.int .i64 b].toArray T f))->B5 (ES W) g (.agg [.int .i64 a,.int .i64 b]):=λd ⟨T,f,h⟩=>⟨_,T,f,by rw[P5 W d,h],by simp[E0,He]⟩;exact⟨c (by decide) h.AX,c (by decide) h.AO,c (by decide) h.As,c (by decide) h.AQ,c (by decide) h.JB⟩
def Na(W:World):DR (ES W):=by
 refine λc N a b=>?_;show LU _ c N a b↔_;unfold LU;exact⟨λh=>h.2,λh=>⟨rfl,h⟩⟩
def QC{W:World}(h:GJ W):Oy (ES W):=by
 obtain⟨T,f,h⟩:=h.pow;exact⟨T,f,by rw[P5 W (by decide),h]⟩
def P7{W:World}(h:GJ W):B5 (ES W) 5 C7:=by
 obtain⟨T,f,h⟩:=h.kst;exact⟨_,T,f,by rw[P5 W (by decide),h],GD .u32 EC⟩
def LB{w a:World}(h:CM w a):Below w.heap.size w a:=⟨h.os,h.tape,h.C3,h.size,λb c=>h.keep b c⟩
def NZ{f:Nat}{vs:List V}{args:List Value}{W:World}(a:laidMetH Tryz.prog E8 W)
 (c:∀{P:BE},P.p=Tryz.prog->Ez P->Oy P->DR P->B5 P 5 C7->AW P f vs [] (λv=>v=.d (.bool true))) (g:V.BT W (GB W) vs args):
 Calls Tryz.prog f args.toArray W λe b=>e=.returned (.bool true)/\Below W.heap.size W b:=by
 refine((c (P:=ES W) rfl (P6 (GU a)) (QC (GU a)) (Na W) (P7 (GU a))).run W (GB W) args (P2 W) rfl g).mono ?_;rintro e b ⟨v,u,rfl,rfl,h,i⟩;rw[BW]at h;subst h;exact⟨rfl,LB i⟩
def VZ:List Int:=[0,1,28,2,29,14,24,3,30,22,20,15,25,17,4,8,31,27,13,23,21,19,16,7,26,12,18,6,11,5,10,9]
def V0:List Int:=[0,1,56,2,57,49,28,3,61,58,42,50,38,29,17,4,62,47,59,36,45,43,51,22,53,39,33,30,24,18,12,5,63,55,48,27,60,41,37,16,46,35,44,21,52,32,23,11,54,26,40,15,34,20,31,10,25,14,19,9,13,8,7,6]
noncomputable def GF (b:Os):World:=
 let a:=World.holding Tryz.prog b ⟨#[],#[],[]⟩
 {a with heap:=(((((((((a.heap.modify 5 λ
 |.cells _ t frozen=>.cells (EC.map λz=>Value.int .u32 z).toArray t frozen
 |o=>o).modify 7 λ
 |.cells _ t frozen=>.cells (Lib.pow10Tab.map λz=>Value.int .u64 z).toArray t frozen
 |o=>o).modify 8 λ
 |.cells _ t frozen=>.cells (VZ.map λz=>Value.int .u8 z).toArray t frozen
 |o=>o).modify 9 λ
 |.cells _ t frozen=>.cells (V0.map λz=>Value.int .u8 z).toArray t frozen
 |o=>o).modify 0 λ
 |.cells _ t frozen=>.cells (([2,1000]:List Int).map λz=>Value.int .i64 z).toArray t frozen
 |o=>o).modify 1 λ
 |.cells _ t frozen=>.cells (([1,255]:List Int).map λz=>Value.int .i64 z).toArray t frozen
 |o=>o).modify 2 λ
 |.cells _ t frozen=>.cells (([0,32]:List Int).map λz=>Value.int .i64 z).toArray t frozen
 |o=>o).modify 3 λ
 |.cells _ t frozen=>.cells (([0,9]:List Int).map λz=>Value.int .i64 z).toArray t frozen
 |o=>o).modify 4 λ
 |.cells _ t frozen=>.cells (([0,1048576]:List Int).map λz=>Value.int .i64 z).toArray t frozen
 |o=>o) }
def LO(b:Os)(a:Array Value):laidMetH Tryz.prog E8 ((GF b).forCall (λ_ _=>0) ⟨#[],a,[]⟩).memory:=
 show laidMet Tryz.prog E8 _ from laidMet_of_run' 8 (by kernel_rfl) (by kernel_rfl)
end Go.Proofs.YtghnkpkellnmdaaGreatDoor
