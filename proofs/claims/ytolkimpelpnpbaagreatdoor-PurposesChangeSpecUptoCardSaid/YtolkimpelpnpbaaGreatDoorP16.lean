/- Texts of this claim joined by a program, part 16 of 20; the last is: The bound of the second form: a formula of a question has few parts. Condition: none; the seat's rows. -/
import Derived.Test.YtolkimpelpnpbaaGreatDoorP1
import Derived.Test.YtolkimpelpnpbaaGreatDoorP5
import Derived.Test.YtolkimpelpnpbaaGreatDoorP7
import Derived.Test.YtolkimpelpnpbaaGreatDoorP15
import Derived.Test.YtolkimpelpnpbaaGreatDoorRows
import Derived.ChangeSame
import Derived.ChangeVars
import Derived.ChangeMaps5
import Derived.JoinedOf
import Derived.RowKit
import Derived.RowKitTokens
import Derived.LaidLaws
import Derived.LaidHandle
import Derived.Lib.LaidTab
import Derived.Carry
import Derived.Below
import Derived.Stop.Joined
import Derived.ChangeArms
import Derived.Test.YtolkimpelpnpbaaGreatDoorProg
import Derived.KernelRfl
set_option maxRecDepth 100000
set_option linter.unusedSimpArgs false
set_option linter.unusedVariables false
set_option linter.unusedSectionVars false
set_option linter.defProp false
namespace Go.Proofs.YtolkimpelpnpbaaGreatDoor
open Go Go.Ab Go.Lx Go.Py Go.ChangeShapes Go.WideShapes Go.RowKit
theorem okWide_slice {P:Program}{w:World}{r:Reach}{b0:Nat}{t u:TypeId}{v:Value}(hu:P.underlying t=some (.slice u))(h:Value.okWide P w r b0 t v):v=.slice none 0 0\/∃a l c,v=.slice (some a) l c/\a.spot=none:=by
 unfold Value.okWide at h;rw[hu]at h;simp only[Cell.okWide,hu,Cell.ok]at h;split at h<;>simp_all;exact h.2.2.2.1
theorem own_knob:ownKnob Tryz.prog.godebug=none:=by kernel_rfl
theorem laid_out:laidOutB Tryz.prog=true:=by kernel_rfl
abbrev laidL:List (String×DataW Unit):=[("testamur/syntax.anyNumber", Rows.laid_testamur_syntax_anyNumber),("testamur/syntax.factors", Rows.laid_testamur_syntax_factors),("testamur/syntax.editions", Rows.laid_testamur_syntax_editions),("testamur/syntax.weights", Rows.laid_testamur_syntax_weights),("testamur/syntax.mosts", Rows.laid_testamur_syntax_mosts)]
theorem cells_of_pair {enc:TypeId×Value->Unit}{w:World}{base:Nat}{sp:Nat->Bool}{held:Bool}{fuel:Nat}{t e:TypeId}{f1 f2:Field}{fs:Array Field}{cs:List Value}{a b:Int}{p:List MemPlace}
  (ht:Tryz.prog.underlying t=some (.struct fs)) (hfs:fs.toList=[f1,f2]) (h1:f1.type=e) (h2:f2.type=e) (o1:f1.offset=0) (o2:f2.offset=1) (hct:Tryz.prog.cellsOf t=2) (hce:Tryz.prog.cellsOf e=1) (he:Tryz.prog.underlying e=some (.int .i64))
  (h:DataW.trod enc Tryz.prog w base sp held fuel t cs=some (.agg [.lit (.int .i64 a),.lit (.int .i64 b)],p)):cs=[.int .i64 a,.int .i64 b]:=by
 cases fuel with
 | zero=>simp[DataW.trod]at h
 | succ fuel=>
  simp only[DataW.trod,ht,hct]at h;split at h
  ·rename_i hl;obtain⟨xs,hm,hx⟩:=Ubr.1 h;rw[hfs]at hm;simp only[List.mapM_cons,List.mapM_nil,Option.bind_eq_bind,Ucw,Option.pure_def,Uaq,h1,h2,o1,o2,hce]at hm;obtain⟨x1,e1,l1,⟨x2,e2,l2,e3,e4⟩,e5⟩:=hm;subst e3; subst e4; subst e5;obtain⟨n1,c1,rfl,_⟩:=DataW.trod_int he e1;obtain⟨n2,c2,rfl,_⟩:=DataW.trod_int he e2;simp only[Uam,Ubm,Ub0,DataW.agg.injEq,Ua1,DataW.lit.injEq,Lit.int.injEq,true_and,Ua2]at hx;obtain⟨⟨rfl,rfl⟩,_⟩:=hx
   match cs,hl with
   | [u,v],_=>
    simp at c1 c2;rw[c1,c2]
  ·cases h
theorem var_at {W:World}{n:String}{g:Nat}{cs:Array Value}(hn:Tryz.prog.globalNamed n=some g)(h:W.var? Tryz.prog n=some cs):∃T f,W.heap[g]? = some (.cells cs T f):=by
 simp only[World.var?,hn,Option.bind_some]at h;cases hb:W.heap[g]? with
 | none=>rw[hb]at h; cases h
 | some o=>
  rw[hb]at h;cases o with
  | cells c T f=>simp only[Uaq]at h; subst h; exact⟨T,f,rfl⟩
  | _=>cases h
structure LaidIs (W:World):Prop where
 anyNumber:∃T f,W.heap[4]? = some (.cells [Value.int .i64 0,Value.int .i64 1048576].toArray T f)
 factors:∃T f,W.heap[0]? = some (.cells [Value.int .i64 2,Value.int .i64 1000].toArray T f)
 editions:∃T f,W.heap[1]? = some (.cells [Value.int .i64 1,Value.int .i64 255].toArray T f)
 weights:∃T f,W.heap[3]? = some (.cells [Value.int .i64 0,Value.int .i64 9].toArray T f)
 mosts:∃T f,W.heap[2]? = some (.cells [Value.int .i64 0,Value.int .i64 32].toArray T f)
theorem laid_is {W:World}(h:laidMetH Tryz.prog laidL W):LaidIs W:=by
 have h':laidMet Tryz.prog laidL W:=h;obtain⟨ps,⟨g1,t1,c1,f1,p1,q1,hg1,ht1,hv1,hd1,hr1,_⟩,_⟩:=h';obtain⟨g2,t2,c2,f2,p2,q2,hg2,ht2,hv2,hd2,hr2,_⟩:=hr1;obtain⟨g3,t3,c3,f3,p3,q3,hg3,ht3,hv3,hd3,hr3,_⟩:=hr2;obtain⟨g4,t4,c4,f4,p4,q4,hg4,ht4,hv4,hd4,hr4,_⟩:=hr3;obtain⟨g5,t5,c5,f5,p5,q5,hg5,ht5,hv5,hd5,hr5,_⟩:=hr4;have pair:∀{n:String} {g t:Nat} {c:Array Value} {fu:Nat} {p:List MemPlace} {a b:Int},Tryz.prog.globalNamed n=some g->W.var? Tryz.prog n=some c->t=236->DataW.trod (fun _=>()) Tryz.prog W 0 (fun _=>true) false fu t c.toList=some (.agg [.lit (.int .i64 a),.lit (.int .i64 b)],p)->∃T f,W.heap[g]? = some (.cells [Value.int .i64 a,Value.int .i64 b].toArray T f):=by
  intro n g t c fu p a b hn hv ht hd;subst ht;obtain⟨T,f,hh⟩:=var_at hn hv;have:=cells_of_pair (e:=3) Tryz.underlying236 rfl rfl rfl rfl rfl (by kernel_rfl) (by kernel_rfl) (by kernel_rfl) hd;have hc:c=[Value.int .i64 a,Value.int .i64 b].toArray:=by rw[<-this]
  exact⟨T,f,by rw[hh,hc]⟩
 have ty:∀{g t:Nat} (k:Nat),(Tryz.prog.globals[g]?).map (·.type)=some t->(Tryz.prog.globals[g]?).map (·.type)=some k->t=k:=fun k h1 h2=>Ub1 (h1.symm.trans h2);refine⟨?_,?_,?_,?_,?_⟩
 ·have e1:Tryz.prog.globalNamed "testamur/syntax.anyNumber" = some 4:=by kernel_rfl
  obtain rfl:=Ub1 (e1.symm.trans hg1);exact pair e1 hv1 (ty 236 ht1 (by kernel_rfl)) hd1
 ·have e1:Tryz.prog.globalNamed "testamur/syntax.factors" = some 0:=by kernel_rfl
  obtain rfl:=Ub1 (e1.symm.trans hg2);exact pair e1 hv2 (ty 236 ht2 (by kernel_rfl)) hd2
 ·have e1:Tryz.prog.globalNamed "testamur/syntax.editions" = some 1:=by kernel_rfl
  obtain rfl:=Ub1 (e1.symm.trans hg3);exact pair e1 hv3 (ty 236 ht3 (by kernel_rfl)) hd3
 ·have e1:Tryz.prog.globalNamed "testamur/syntax.weights" = some 3:=by kernel_rfl
  obtain rfl:=Ub1 (e1.symm.trans hg4);exact pair e1 hv4 (ty 236 ht4 (by kernel_rfl)) hd4
 ·have e1:Tryz.prog.globalNamed "testamur/syntax.mosts" = some 2:=by kernel_rfl
  obtain rfl:=Ub1 (e1.symm.trans hg5);exact pair e1 hv5 (ty 236 ht5 (by kernel_rfl)) hd5
def chkLp (ps:List Nat)(x y:S)(qs:Array Nat)(N:Nat)(ca cb:Code):Prop:=((qs.toList==ps)&&ps.all (fun k=>decide (k<N))&&S.chk Tryz.prog N ca x&&S.chk Tryz.prog N cb y&&x.noR&&y.noR)=true
def lpsOf (tag:Nat)(qs:Array Nat)(N:Nat)(ca cb:Code):Prop:=
 (tag=204/\chkLp [7] ir204900 ir204901 qs N ca cb)\/
 (tag=18/\chkLp [34] ir18900 ir18901 qs N ca cb)\/
 (tag=260/\chkLp [7] ir260900 ir260901 qs N ca cb)
noncomputable def prgOf (W:World):Prg:=⟨Tryz.prog,⟨fun b=>if b<=8 then W.heap[b]? else none,lpsOf⟩⟩
noncomputable def envOf (W:World):Env:=⟨fun _=>none,fun _=>False,(prgOf W).g⟩
theorem not_own (W:World)(b:Nat):¬own (envOf W) b:=by
 rintro (⟨_,_,h,_⟩ | h)
 ·cases h
 ·exact h
theorem env_om (W:World):OM W (envOf W) []:=by
 refine⟨fun _ _ h=>(by cases h),fun _ _ h=>(by cases h),fun _ _ _ _ _ h=>(by cases h),fun _ h=>h.elim,fun b o h=>⟨?_,not_own W b⟩,fun _ ⟨_,_,h,_⟩=>(by cases h),trivial⟩;simp only[envOf,prgOf]at h;split at h
 ·exact h
 ·cases h
theorem g_at (W:World){b:Nat}(hb:b<=8):(prgOf W).g b=W.heap[b]?:=by simp only[prgOf,hb,Ubb]
theorem ivl_of {W:World}(h:LaidIs W):IvlZ (prgOf W):=by
 have key:∀{g:Nat} {a b:Int},g<=8->(∃T f,W.heap[g]? = some (.cells [Value.int .i64 a,Value.int .i64 b].toArray T f))->GlobIs (prgOf W) g (.agg [.int .i64 a,.int .i64 b]):=fun hg ⟨T,f,h⟩=>⟨_,T,f,by rw[g_at W hg,h],by simp[Rbf,Rbg]⟩;exact⟨key (by decide) h.factors,key (by decide) h.editions,key (by decide) h.mosts,key (by decide) h.weights,key (by decide) h.anyNumber⟩
theorem loop_of (W:World):LoopZ (prgOf W):=by
 refine⟨fun qs N ca cb=>?_,fun qs N ca cb=>?_,fun qs N ca cb=>?_⟩
 ·show lpsOf _ qs N ca cb↔_;unfold lpsOf;exact⟨fun h=>by
   rcases h with⟨_,h⟩ | ⟨e,_⟩ | ⟨e,_⟩
   ·exact h
   ·exact absurd e (by decide)
   ·exact absurd e (by decide),fun h=>.inl ⟨rfl,h⟩⟩
 ·show lpsOf _ qs N ca cb↔_;unfold lpsOf;exact⟨fun h=>by
   rcases h with⟨e,_⟩ | ⟨_,h⟩ | ⟨e,_⟩
   ·exact absurd e (by decide)
   ·exact h
   ·exact absurd e (by decide),fun h=>.inr (.inl ⟨rfl,h⟩)⟩
 ·show lpsOf _ qs N ca cb↔_;unfold lpsOf;exact⟨fun h=>by
   rcases h with⟨e,_⟩ | ⟨e,_⟩ | ⟨_,h⟩
   ·exact absurd e (by decide)
   ·exact absurd e (by decide)
   ·exact h,fun h=>.inr (.inr ⟨rfl,h⟩)⟩
theorem below_of {w w':World}(h:Ext w w'):Below w.heap.size w w':=⟨h.os,h.tape,h.out,h.size,fun b hb=>h.keep b hb⟩
theorem law_run {f:Nat}{vs:List V}{args:List Value}{W:World}(hL:laidMetH Tryz.prog laidL W)
  (hp:∀{P:Prg},P.p=Tryz.prog->IvlZ P->LoopZ P->PCall P f vs [] (fun v=>v=.d (.bool true))) (hr:V.reps W (envOf W) vs args) :
  Calls Tryz.prog f args.toArray W fun e W'=>e=.returned (.bool true)/\Below W.heap.size W W':=by
 refine ((hp (P:=prgOf W) rfl (ivl_of (laid_is hL)) (loop_of W)).run W (envOf W) args (env_om W) rfl hr).mono ?_;rintro e W' ⟨v,u,rfl,rfl,h,hx⟩;rw[rep_bool]at h;subst h;exact⟨rfl,below_of hx⟩
noncomputable def laidWorld (os:Os):World:=
 let w0:=World.holding Tryz.prog os ⟨#[],#[],[]⟩
 { w0 with heap:=(((((w0.heap.modify 0 fun
   | .cells _ t frozen=>.cells (([2,1000]:List Int).map fun z=>Value.int .i64 z).toArray t frozen
   | o=>o).modify 1 fun
   | .cells _ t frozen=>.cells (([1,255]:List Int).map fun z=>Value.int .i64 z).toArray t frozen
   | o=>o).modify 2 fun
   | .cells _ t frozen=>.cells (([0,32]:List Int).map fun z=>Value.int .i64 z).toArray t frozen
   | o=>o).modify 3 fun
   | .cells _ t frozen=>.cells (([0,9]:List Int).map fun z=>Value.int .i64 z).toArray t frozen
   | o=>o).modify 4 fun
   | .cells _ t frozen=>.cells (([0,1048576]:List Int).map fun z=>Value.int .i64 z).toArray t frozen
   | o=>o) }
theorem laid_met (os:Os)(args:Array Value):laidMetH Tryz.prog laidL ((laidWorld os).forCall (fun _ _=>0) ⟨#[],args,[]⟩).memory:=
 show laidMet Tryz.prog laidL _ from laidMet_of_run' 8 (by kernel_rfl) (by kernel_rfl)
end Go.Proofs.YtolkimpelpnpbaaGreatDoor
namespace Go.Ab
open Go
def Yax {α β:Type}(p:α->β->Prop):List α->List β->Prop
 | [],xs=>xs=[]
 | f::r,xs=>∃x q,xs=x::q/\p f x/\Yax p r q
theorem Yax.imp {α β:Type}{p q:α->β->Prop}(h:∀a b,p a b->q a b):∀{l:List α} {m:List β},Yax p l m->Yax q l m
 | [],_,e=>e
 | _::_,_,⟨x,r,e,h1,h2⟩=>⟨x,r,e,h _ _ h1,Yax.imp h h2⟩
def Xez (P:Program):Nat->TypeId->D->Prop
 | 0,_,_=>False
 | n+1,t,d=>match P.underlying t with
  | some .bool=>∃b,d=.bool b
  | some (.int k)=>∃z,d=.int k z/\(Lit.int k z).wf=true
  | some .string=>∃s,d=.str s/\s.length<=maxLen
  | some (.slice e)=>∃xs,d=.list (P.cellsOf e) xs/\xs.length<=maxLen/\∀x∈xs,Xez P n e x
  | some (.struct fs)=>∃xs,d=.agg xs/\Yax (fun (f:Field) x=>Xez P n f.type x) fs.toList xs
  | some (.array m e)=>∃xs,d=.agg xs/\xs.length=m/\∀x∈xs,Xez P n e x
  | _=>False
def Fit (P:Program)(t:TypeId)(d:D):Prop:=∃n,Xez P n t d
section
variable {P:Program} {t e:TypeId} {d:D}
theorem Fit.bool (hu:P.underlying t=some .bool):Fit P t d->∃b,d=.bool b
 | ⟨n+1,h⟩=>by simp only[Xez,hu]at h; exact h
theorem Fit.int {k:IntKind}(hu:P.underlying t=some (.int k)):Fit P t d->∃z,d=.int k z/\(Lit.int k z).wf=true
 | ⟨n+1,h⟩=>by simp only[Xez,hu]at h; exact h
theorem Fit.str (hu:P.underlying t=some .string):Fit P t d->∃s,d=.str s/\s.length<=maxLen
 | ⟨n+1,h⟩=>by simp only[Xez,hu]at h; exact h
theorem Fit.sl (hu:P.underlying t=some (.slice e)):Fit P t d->∃xs,d=.list (P.cellsOf e) xs/\xs.length<=maxLen/\∀x∈xs,Fit P e x
 | ⟨n+1,h⟩=>by
  simp only[Xez,hu]at h;obtain⟨xs,h1,h2,h3⟩:=h;exact⟨xs,h1,h2,fun x hx=>⟨n,h3 x hx⟩⟩
theorem Fit.st {fs:Array Field}(hu:P.underlying t=some (.struct fs)):Fit P t d->∃xs,d=.agg xs/\Yax (fun (f:Field) x=>Fit P f.type x) fs.toList xs
 | ⟨n+1,h⟩=>by
  simp only[Xez,hu]at h;obtain⟨xs,h1,h2⟩:=h;exact⟨xs,h1,h2.imp fun _ _ h=>⟨n,h⟩⟩
theorem Fit.ar {m:Nat}(hu:P.underlying t=some (.array m e)):Fit P t d->∃xs,d=.agg xs/\xs.length=m/\∀x∈xs,Fit P e x
 | ⟨n+1,h⟩=>by
  simp only[Xez,hu]at h;obtain⟨xs,h1,h2,h3⟩:=h;exact⟨xs,h1,h2,fun x hx=>⟨n,h3 x hx⟩⟩
theorem Fit.list {α:Type}{f:α->D}{xs:List D}:(∀x∈xs,∃y,x=f y)->∃l:List α,xs=l.map f:=by
 induction xs with
 | nil=>exact fun _=>⟨[],rfl⟩
 | cons x r ih=>
  intro h;obtain⟨y,rfl⟩:=h x (by simp);obtain⟨l,rfl⟩:=ih fun z hz=>h z (by simp[hz]);exact⟨y::l,rfl⟩
theorem Rd2 {α:Type}{f:α->D}{p:α->Prop}{xs:List D}:(∀x∈xs,∃y,x=f y/\p y)->∃l:List α,xs=l.map f/\∀y∈l,p y:=by
 induction xs with
 | nil=>exact fun _=>⟨[],rfl,by simp⟩
 | cons x r ih=>
  intro h;obtain⟨y,rfl,hy⟩:=h x (by simp);obtain⟨l,rfl,hl⟩:=ih fun z hz=>h z (by simp[hz]);refine⟨y::l,rfl,fun z hz=>?_⟩;rcases Uax.1 hz with rfl | hz
  ·exact hy
  ·exact hl z hz
end
def Xl5 (P:Program)(ts:List TypeId):List Field->Nat->Nat->Bool
 | [],o,n=>o==n
 | f::r,o,n=>f.offset==o&&ts.contains f.type&&Xl5 P ts r (o+P.cellsOf f.type) n
def X9f (P:Program)(ts:List TypeId)(t:TypeId):Bool:=match P.underlying t with
 | some .bool | some (.int _) | some .string=>P.cellsOf t==1
 | some (.slice e)=>P.cellsOf t==1&&ts.contains e&&decide (0<P.cellsOf e)
 | some (.struct fs)=>Xl5 P ts fs.toList 0 (P.cellsOf t)
 | some (.array m e)=>ts.contains e&&P.cellsOf t==m*P.cellsOf e
 | _=>false
section
variable {H:Type} {enc:TypeId×Value->H} {P:Program} {w:World} {base:Nat} {sp:Nat->Bool} {held:Bool} {ow:Nat->Prop}
theorem Yfb {a:Addr}{i:Nat}{v:Value}(h:w.cell? (a.add i)=some v)(hs:i=0\/a.spot=none):a.spot=none/\a.block<w.heap.size/\w.cell? ⟨a.block,a.off+i,none⟩=some v:=by
 have hsp:a.spot=none:=by
  rcases hs with rfl | hs
  ·have:a.add 0=a:=by simp[Addr.add]
   rw[this]at h;unfold World.cell? at h;split at h
   ·split at h
    ·cases h
    ·rename_i e; simpa using e
   ·cases h
  ·exact hs
 rw[Ram hsp]at h;refine⟨hsp,?_,h⟩;unfold World.cell? at h;cases hb:w.heap[a.block]? with
 | none=>simp only[hb]at h; cases h
 | some o=>exact Xj hb
theorem X60 {a:Addr}{n:Nat}{vs:List Value}(h:w.cells? base a n=some vs):vs.length=n/\∀i,i<n->w.cell? (a.add i)=vs[i]?:=by
 unfold World.cells? at h;split at h
 ·refine⟨by simpa using Lib.mapM_length h,fun i hi=>?_⟩;obtain⟨b,hb,hf⟩:=Lib.mapM_at h i i (by simp[hi]);rw[hf,hb]
 ·cases h
theorem Xvl {α β:Type}{f:α->Option β}{a:α}{l:List α}{r:List β}(h:(a::l).mapM f=some r):∃b r',r=b::r'/\f a=some b/\l.mapM f=some r':=by
 simp only[List.mapM_cons,Option.bind_eq_bind,Ucw,Option.pure_def,Uaq]at h;obtain⟨b,hb,r',hr',rfl⟩:=h;exact⟨b,r',rfl,hb,hr'⟩
end
end Go.Ab
namespace Go.Proofs.YtolkimpelpnpbaaGreatDoor
open Go Go.Ab Go.Lx Go.Sx
abbrev Fx (t:TypeId)(d:D):Prop:=Fit Tryz.prog t d
theorem Yj {d:D}(h:Fx 9 d):∃s:B,d=.str s:=by obtain⟨s,h,_⟩:=h.str (by kernel_rfl); exact⟨s,h⟩
theorem X6 {d:D}(h:Fx 3 d):∃n:Int,d=iD n:=by obtain⟨s,h,_⟩:=h.int (k:=.i64) (by kernel_rfl); exact⟨s,h⟩
theorem Ug {α:Type}{f:α->D}{t e:TypeId}{sz:Nat}{p:α->Prop}{d:D}(hu:Tryz.prog.underlying t=some (.slice e))(hs:Tryz.prog.cellsOf e=sz)(he:∀x,Fx e x->∃y,x=f y/\p y)(h:Fx t d):∃l:List α,d=.list sz (l.map f)/\l.length<=9223372036854775807/\∀y∈l,p y:=by
 obtain⟨xs,rfl,h1,h2⟩:=h.sl hu;obtain⟨l,rfl,hp⟩:=Rd2 (f:=f) (p:=p) fun x hx=>he x (h2 x hx);exact⟨l,by rw[hs],by simpa[maxLen]using h1,hp⟩
theorem Zi {α:Type}{f:α->D}{t e:TypeId}{sz:Nat}{d:D}(hu:Tryz.prog.underlying t=some (.slice e))(hs:Tryz.prog.cellsOf e=sz)(he:∀x,Fx e x->∃y,x=f y)(h:Fx t d):∃l:List α,d=.list sz (l.map f)/\l.length<=9223372036854775807:=by
 obtain⟨l,h1,h2,_⟩:=Ug (p:=fun _=>True) hu hs (fun x hx=>by obtain⟨y,e⟩:=he x hx; exact⟨y,e,trivial⟩) h;exact⟨l,h1,h2⟩
theorem Xg7 {d:D}(h:Fx 22 d):∃l:List B,d=Xo l/\l.length<=9223372036854775807:=Zi (f:=D.str) (by kernel_rfl) (by kernel_rfl) (fun _=>Yj) h
theorem Xsu {d:D}(h:Fx 30 d):∃l:List Int,d=Xcd l/\l.length<=9223372036854775807:=Zi (f:=iD) (by kernel_rfl) (by kernel_rfl) (fun _=>X6) h
theorem Xcq {d:D}(h:Fx 36 d):∃y:RTerm,d=y.enc:=by
 obtain⟨_,rfl,x1,_,rfl,h1,x2,_,rfl,h2,x3,_,rfl,h3,x4,_,rfl,h4,x5,_,rfl,h5,rfl⟩:=h.st Tryz.underlying36;obtain⟨a,rfl⟩:=Yj h1;obtain⟨b,rfl⟩:=Yj h2;obtain⟨c,rfl⟩:=X6 h3;obtain⟨e,rfl⟩:=X6 h4;obtain⟨f,rfl⟩:=X6 h5;exact⟨⟨a,b,c,e,f⟩,rfl⟩
theorem X8y {d:D}(h:Fx 244 d):∃y:RFrom,d=y.enc:=by
 obtain⟨_,rfl,x1,_,rfl,h1,x2,_,rfl,h2,x3,_,rfl,h3,x4,_,rfl,h4,rfl⟩:=h.st Tryz.underlying244;obtain⟨a,rfl⟩:=Yj h1;obtain⟨b,rfl⟩:=Yj h2;obtain⟨c,rfl⟩:=X6 h3;obtain⟨e,rfl⟩:=Xcq h4;exact⟨⟨a,b,c,e⟩,rfl⟩
theorem Xst {d:D}(h:Fx 38 d):∃y:RAtom,d=y.enc:=by
 obtain⟨_,rfl,x1,_,rfl,h1,x2,_,rfl,h2,x3,_,rfl,h3,rfl⟩:=h.st Tryz.underlying38;obtain⟨a,rfl⟩:=X6 h1;obtain⟨b,rfl⟩:=Xcq h2;obtain⟨c,rfl⟩:=Xcq h3;exact⟨⟨a,b,c⟩,rfl⟩
theorem Yfz {d:D}(h:Fx 251 d):∃y:RSet,d=y.enc:=by
 obtain⟨_,rfl,x1,_,rfl,h1,x2,_,rfl,h2,x3,_,rfl,h3,rfl⟩:=h.st Tryz.underlying251;obtain⟨a,rfl⟩:=Yj h1;obtain⟨b,rfl⟩:=X6 h2;obtain⟨c,rfl⟩:=Xcq h3;exact⟨⟨a,b,c⟩,rfl⟩
theorem X81 {d:D}(h:Fx 170 d):∃y:RRule,d=y.enc/\y.small:=by
 obtain⟨_,rfl,x1,_,rfl,h1,x2,_,rfl,h2,x3,_,rfl,h3,x4,_,rfl,h4,x5,_,rfl,h5,rfl⟩:=h.st Tryz.underlying170;obtain⟨a,rfl⟩:=Yj h1;obtain⟨b,rfl⟩:=X6 h2;obtain⟨c,rfl,hc⟩:=Zi (f:=RFrom.enc) (by kernel_rfl) (sz:=8) (by kernel_rfl) (fun _=>X8y) h3;obtain⟨e,rfl,he⟩:=Zi (f:=RAtom.enc) (by kernel_rfl) (sz:=11) (by kernel_rfl) (fun _=>Xst) h4;obtain⟨f,rfl,hf⟩:=Zi (f:=RSet.enc) (by kernel_rfl) (sz:=7) (by kernel_rfl) (fun _=>Yfz) h5;exact⟨⟨a,b,c,e,f⟩,rfl,hc,he,hf⟩
theorem X8z {d:D}(h:Fx 255 d):∃y:RMove,d=y.enc:=by
 obtain⟨_,rfl,x1,_,rfl,h1,x2,_,rfl,h2,x3,_,rfl,h3,x4,_,rfl,h4,x5,_,rfl,h5,rfl⟩:=h.st Tryz.underlying255;obtain⟨a,rfl⟩:=Yj h1;obtain⟨b,rfl⟩:=Yj h2;obtain⟨c,rfl⟩:=X6 h3;obtain⟨e,rfl⟩:=X6 h4;obtain⟨f,rfl⟩:=X6 h5;exact⟨⟨a,b,c,e,f⟩,rfl⟩
theorem Xno {d:D}(h:Fx 174 d):∃y:RConvert,d=y.enc/\y.moves.length<=9223372036854775807:=by
 obtain⟨_,rfl,x1,_,rfl,h1,x2,_,rfl,h2,x3,_,rfl,h3,x4,_,rfl,h4,x5,_,rfl,h5,rfl⟩:=h.st Tryz.underlying174;obtain⟨a,rfl⟩:=Yj h1;obtain⟨b,rfl⟩:=Yj h2;obtain⟨c,rfl⟩:=X6 h3;obtain⟨e,rfl⟩:=X6 h4;obtain⟨f,rfl,hf⟩:=Zi (f:=RMove.enc) (by kernel_rfl) (sz:=5) (by kernel_rfl) (fun _=>X8z) h5;exact⟨⟨a,b,c,e,f⟩,rfl,hf⟩
theorem X0p {d:D}(h:Fx 56 d):∃y:RRef,d=y.enc:=by
 obtain⟨_,rfl,x1,_,rfl,h1,x2,_,rfl,h2,x3,_,rfl,h3,x4,_,rfl,h4,rfl⟩:=h.st Tryz.underlying56;obtain⟨a,rfl⟩:=Yj h1;obtain⟨b,rfl⟩:=Yj h2;obtain⟨c,rfl⟩:=X6 h3;obtain⟨e,rfl⟩:=X6 h4;exact⟨⟨a,b,c,e⟩,rfl⟩
theorem X80 {d:D}(h:Fx 45 d):∃l:List RRef,d=.list 4 (l.map RRef.enc)/\l.length<=9223372036854775807:=Zi (f:=RRef.enc) (by kernel_rfl) (sz:=4) (by kernel_rfl) (fun _=>X0p) h
theorem Xnp {d:D}(h:Fx 71 d):∃y:RPurpose,d=y.enc/\y.may.length<=9223372036854775807:=by
 obtain⟨_,rfl,x1,_,rfl,h1,x2,_,rfl,h2,x3,_,rfl,h3,rfl⟩:=h.st Tryz.underlying71;obtain⟨a,rfl⟩:=Yj h1;obtain⟨b,rfl,hb⟩:=Zi (f:=RRef.enc) (by kernel_rfl) (sz:=4) (by kernel_rfl) (fun _=>X0p) h2;obtain⟨c,rfl⟩:=X6 h3;exact⟨⟨a,b,c⟩,rfl,hb⟩
theorem X83 {d:D}(h:Fx 164 d):∃y:RUnit,d=y.enc:=by
 obtain⟨_,rfl,x1,_,rfl,h1,x2,_,rfl,h2,x3,_,rfl,h3,x4,_,rfl,h4,x5,_,rfl,h5,rfl⟩:=h.st Tryz.underlying164;obtain⟨a,rfl⟩:=Yj h1;obtain⟨b,rfl⟩:=Yj h2;obtain⟨c,rfl⟩:=X6 h3;obtain⟨e,rfl⟩:=X6 h4;obtain⟨f,rfl⟩:=X6 h5;exact⟨⟨a,b,c,e,f⟩,rfl⟩
theorem X82 {d:D}(h:Fx 112 d):∃y:RType,d=y.enc/\y.names.length<=9223372036854775807:=by
 obtain⟨_,rfl,x1,_,rfl,h1,x2,_,rfl,h2,x3,_,rfl,h3,x4,_,rfl,h4,x5,_,rfl,h5,x6,_,rfl,h6,rfl⟩:=h.st Tryz.underlying112;obtain⟨a,rfl⟩:=X6 h1;obtain⟨b,rfl⟩:=X6 h2;obtain⟨c,rfl⟩:=X6 h3;obtain⟨e,rfl⟩:=Yj h4;obtain⟨f,rfl⟩:=X6 h5;obtain⟨g,rfl,hg⟩:=Xg7 h6;exact⟨⟨a,b,c,e,f,g⟩,rfl,hg⟩
theorem X0o {d:D}(h:Fx 115 d):∃y:RField,d=y.enc/\y.type.names.length<=9223372036854775807:=by
 obtain⟨_,rfl,x1,_,rfl,h1,x2,_,rfl,h2,x3,_,rfl,h3,rfl⟩:=h.st Tryz.underlying115;obtain⟨a,rfl⟩:=Yj h1;obtain⟨b,rfl,hb⟩:=X82 h2;obtain⟨xs,rfl,hl,hx⟩:=h3.ar (e:=3) (m:=4) (by kernel_rfl)
 match xs,hl,hx with
 | [w,x,y,z],_,hx=>
  obtain⟨w,rfl⟩:=X6 (hx w (by simp));obtain⟨x,rfl⟩:=X6 (hx x (by simp));obtain⟨y,rfl⟩:=X6 (hx y (by simp));obtain⟨z,rfl⟩:=X6 (hx z (by simp));exact⟨⟨a,b,w,x,y,z⟩,rfl,hb⟩
theorem Xu4 {d:D}(h:Fx 240 d):∃y:RDepend,d=y.enc/\y.small:=by
 obtain⟨_,rfl,x1,_,rfl,h1,x2,_,rfl,h2,x3,_,rfl,h3,x4,_,rfl,h4,rfl⟩:=h.st Tryz.underlying240;obtain⟨a,rfl,ha⟩:=Xg7 h1;obtain⟨b,rfl⟩:=Yj h2;obtain⟨c,rfl,hc⟩:=Xsu h3;obtain⟨e,rfl⟩:=X6 h4;exact⟨⟨a,b,c,e⟩,rfl,ha,hc⟩
theorem Xu5 {d:D}(h:Fx 110 d):∃y:RSchema,d=y.enc/\y.small:=by
 obtain⟨_,rfl,x1,_,rfl,h1,x2,_,rfl,h2,x3,_,rfl,h3,x4,_,rfl,h4,x5,_,rfl,h5,x6,_,rfl,h6,rfl⟩:=h.st Tryz.underlying110;obtain⟨a,rfl⟩:=Yj h1;obtain⟨b,rfl⟩:=Yj h2;obtain⟨c,rfl⟩:=X6 h3;obtain⟨e,rfl⟩:=X6 h4;obtain⟨f,rfl,hf,pf⟩:=Ug (f:=RField.enc) (by kernel_rfl) (sz:=11) (by kernel_rfl) (fun _=>X0o) h5;obtain⟨g,rfl,hg,pg⟩:=Ug (f:=RDepend.enc) (by kernel_rfl) (sz:=4) (by kernel_rfl) (fun _=>Xu4) h6;exact⟨⟨a,b,c,e,f,g⟩,rfl,hf,hg,pf,pg⟩
theorem Xu6 {d:D}(h:Fx 29 d):∃y:RSrc,d=y.enc/\y.small:=by
 obtain⟨_,rfl,x1,_,rfl,h1,x2,_,rfl,h2,x3,_,rfl,h3,x4,_,rfl,h4,x5,_,rfl,h5,x6,_,rfl,h6,rfl⟩:=h.st Tryz.underlying29;obtain⟨a,rfl,ha⟩:=Xg7 h1;obtain⟨b,rfl,hb⟩:=Zi (f:=RUnit.enc) (by kernel_rfl) (sz:=5) (by kernel_rfl) (fun _=>X83) h2;obtain⟨c,rfl,hc,pc⟩:=Ug (f:=RSchema.enc) (by kernel_rfl) (sz:=6) (by kernel_rfl) (fun _=>Xu5) h3;obtain⟨e,rfl,he,pe⟩:=Ug (f:=RRule.enc) (by kernel_rfl) (sz:=5) (by kernel_rfl) (fun _=>X81) h4;obtain⟨f,rfl,hf,pf⟩:=Ug (f:=RConvert.enc) (by kernel_rfl) (sz:=5) (by kernel_rfl) (fun _=>Xno) h5;obtain⟨g,rfl,hg,pg⟩:=Ug (f:=RPurpose.enc) (by kernel_rfl) (sz:=3) (by kernel_rfl) (fun _=>Xnp) h6;exact⟨⟨a,b,c,e,f,g⟩,rfl,ha,hb,hc,he,hf,hg,pc,pe,pf,pg⟩
theorem X8x {d:D}(h:Fx 4 d):∃b:Bool,d=.bool b:=h.bool (by kernel_rfl)
theorem Yf0 {d:D}(h:Fx 32 d):∃y:RTab,d=y.enc/\y.src.small/\y.order.length<=9223372036854775807:=by
 obtain⟨_,rfl,x1,_,rfl,h1,x2,_,rfl,h2,rfl⟩:=h.st Tryz.underlying32;obtain⟨a,rfl,ha⟩:=Xu6 h1;obtain⟨b,rfl,hb⟩:=Xsu h2;exact⟨⟨a,b⟩,rfl,ha,hb⟩
theorem Yf1 {d:D}(h:Fx 87 d):∃y:RVar,d=y.enc:=by
 obtain⟨_,rfl,x1,_,rfl,h1,x2,_,rfl,h2,x3,_,rfl,h3,x4,_,rfl,h4,rfl⟩:=h.st Tryz.underlying87;obtain⟨a,rfl⟩:=Yj h1;obtain⟨b,rfl⟩:=Yj h2;obtain⟨c,rfl⟩:=X6 h3;obtain⟨e,rfl⟩:=X8x h4;exact⟨⟨a,b,c,e⟩,rfl⟩
theorem Rd3 {o n:Int}{l:List RForm}{a:RAtom}(h1:l.length<=9223372036854775807)(h2:∀k∈l,k.small):(RForm.mk o n l a).small:=by
 rw[RForm.small];refine⟨h1,?_⟩;clear h1;induction l with
 | nil=>rw[Rc5]; trivial
 | cons x r ih=>
  rw[Rc5];exact⟨h2 x (by simp),ih fun k hk=>h2 k (by simp[hk])⟩
theorem Xkt:∀(n:Nat) (d:D),Xez Tryz.prog n 40 d->∃y:RForm,d=y.enc/\y.small
 | 0,_,h=>by simp[Xez]at h
 | 1,d,h=>by
  simp only[Xez,Tryz.underlying40]at h;obtain⟨_,rfl,x1,_,rfl,h1,_⟩:=h;exact h1.elim
 | n+2,d,h=>by
  have ih:=Xkt n;rw[Xez,Tryz.underlying40]at h;obtain⟨_,rfl,x1,_,rfl,h1,x2,_,rfl,h2,x3,_,rfl,h3,x4,_,rfl,h4,rfl⟩:=h;obtain⟨a,rfl⟩:=X6 ⟨_,h1⟩;obtain⟨b,rfl⟩:=X6 ⟨_,h2⟩;obtain⟨c,rfl⟩:=Xst ⟨_,h4⟩;have hsl:Tryz.prog.underlying 34=some (.slice 40):=by kernel_rfl
  have h3':Xez Tryz.prog (n+1) 34 x3:=h3;rw[Xez,hsl]at h3';obtain⟨xs,rfl,hl,hx⟩:=h3';obtain⟨l,rfl,hp⟩:=Rd2 (f:=RForm.enc) (p:=RForm.small) fun x hx'=>ih x (hx x hx');have hsz:Tryz.prog.cellsOf 40=14:=by kernel_rfl
  refine⟨.mk a b l c,?_,Rd3 (by simpa[maxLen]using hl) hp⟩;rw[Rc4,hsz]; rfl
theorem Y1u {d:D}(h:Fx 42 d):∃y:RQ,d=y.enc/\y.small:=by
 obtain⟨_,rfl,x1,_,rfl,h1,x2,_,rfl,h2,x3,_,rfl,h3,x4,_,rfl,h4,rfl⟩:=h.st Tryz.underlying42;obtain⟨a,rfl⟩:=Yj h1;obtain⟨b,rfl⟩:=X6 h2;obtain⟨c,rfl,hc⟩:=Zi (f:=RVar.enc) (by kernel_rfl) (sz:=4) (by kernel_rfl) (fun _=>Yf1) h3;obtain⟨n,h4⟩:=h4;obtain⟨e,rfl,he⟩:=Xkt n _ h4;exact⟨⟨a,b,c,e⟩,rfl,hc,he⟩
abbrev X40:List TypeId:=[9,3,22,30,113,36,244,38,251,170,255,174,56,71,164,112,115,240,110,29,
 167,72,168,172,45,23,107,108,24,25,26,27,4,32,87,40,42,33,34]
theorem Xqm:X40.all (X9f Tryz.prog X40)=true:=by kernel_rfl
end Go.Proofs.YtolkimpelpnpbaaGreatDoor
namespace Go.Ab
open Go
mutual
def D.bulk:D->Nat
 | .str s=>s.length+1
 | .list _ xs=>Rd4 xs+1
 | .agg xs=>Rd4 xs+1
 | _=>1
def Rd4:List D->Nat
 | []=>0
 | d::r=>D.bulk d+Rd4 r
end
structure BulkOk {H:Type}(blk:DataW H->Nat)(blks:List (DataW H)->Nat):Prop where
 lit:∀l,1<=blk (.lit l)
 str:∀b,blk (.lit (.string b))=b.length+1
 nil:1<=blk .nil
 sl:∀es sp,blk (.slice es sp)=blks es+blks sp+1
 agg:∀ps,blk (.agg ps)=blks ps+1
 none:blks []=0
 cons:∀d r,blks (d::r)=blk d+blks r
section
variable {H:Type} {enc:TypeId×Value->H} {P:Program} {w:World} {base:Nat} {sp:Nat->Bool} {held:Bool} {ow:Nat->Prop} {blk:DataW H->Nat} {blks:List (DataW H)->Nat}
theorem Xfe (xs:List D)(y:D):Rd4 (xs++[y])=Rd4 xs+y.bulk:=by
 induction xs with
 | nil=>simp[Rd4]
 | cons a r ih=>simp only[List.cons_append,Rd4,ih]; omega
theorem Xj4 (hB:BulkOk blk blks)(xs:List (DataW H))(y:DataW H):blks (xs++[y])=blks xs+blk y:=by
 induction xs with
 | nil=>simp[hB.cons,hB.none]
 | cons a r ih=>simp only[List.cons_append,hB.cons,ih]; omega
theorem Xkm (hB:BulkOk blk blks)(p:D->Prop)(sz:Nat)(hsz:0<sz)(a:Addr)(es:List (DataW H×List MemPlace)):∀n,n<=es.length->(∀i,(hi:i<es.length)->i<n->∃cs,w.cells? base (a.add (i*sz)) sz=some cs/\∃y:D,p y/\y.bulk<=blk es[i].1/\y.rep w ow cs/\y.sz=sz)->
   ∃(xs:List D) (vs:List Value),xs.length=n/\vs.length=n*sz/\(∀y∈xs,p y/\y.sz=sz)/\Rd4 xs<=blks ((es.take n).map (·.1))/\Rac w ow xs vs/\(0<n->a.spot=none/\a.block<w.heap.size)/\∀j (h:j<vs.length),w.cell? ⟨a.block,a.off+j,none⟩=some vs[j]
 | 0,_,_=>⟨[],[],rfl,by simp,by simp,by simp[Rd4],rfl,by simp,by simp⟩
 | n+1,hle,hn=>by
  obtain⟨xs,vs,h1,h2,h3,hb,h4,h5,h6⟩:=Xkm hB p sz hsz a es n (by omega) (fun i hi h=>hn i hi (by omega));obtain⟨cs,hc,y,y1,yb,y2,y3⟩:=hn n (by omega) (by omega);obtain⟨c1,c2⟩:=X60 hc;have hspot:a.spot=none/\a.block<w.heap.size:=by
   rcases Nat.eq_zero_or_pos n with rfl | hp
   ·have h0:=c2 0 hsz;rw[Ubf (by omega)]at h0;have e0:(a.add (0*sz)).add 0=a.add 0:=by simp[Addr.add]
    rw[e0]at h0;have:=Yfb h0 (.inl rfl);exact⟨this.1,this.2.1⟩
   ·exact h5 hp
  refine⟨xs++[y],vs++cs,by simp[h1],by simp[h2,c1,Uac],?_,?_,Rai h4 ⟨cs,[],by simp,y2,rfl⟩,fun _=>hspot,fun j hj=>?_⟩
  ·intro z hz;rcases Ubu.1 hz with hz | hz
   ·exact h3 z hz
   ·rw[Uci.1 hz]; exact⟨y1,y3⟩
  ·rw[Ubj (by omega),Uca,Uam,Ubm,Xj4 hB,Xfe];omega
  ·rw[List.getElem_append];split
   ·rename_i hj'; exact h6 j hj'
   ·rename_i hj';simp at hj;have hk:j-vs.length<sz:=by omega
    have:=c2 (j-vs.length) hk;rw[Ubf (by omega)]at this;rw[Ram hspot.1,Ram rfl]at this;have hoff:a.off+n*sz+(j-vs.length)=a.off+j:=by omega
    simp only[hoff]at this;exact this
theorem Xkn (hB:BulkOk blk blks)(p:D->Prop)(sz:Nat)(cs:List Value)(es:List (DataW H×List MemPlace)):∀n,n<=es.length->n*sz<=cs.length->(∀i,(hi:i<es.length)->i<n->∃y:D,p y/\y.bulk<=blk es[i].1/\y.rep w ow ((cs.drop (i*sz)).take sz)/\y.sz=sz)->
   ∃xs:List D,xs.length=n/\(∀y∈xs,p y)/\Rd4 xs<=blks ((es.take n).map (·.1))/\Rac w ow xs (cs.take (n*sz))/\Raa xs=n*sz
 | 0,_,_,_=>⟨[],rfl,by simp,by simp[Rd4],by simp[Rac],by simp[Raa]⟩
 | n+1,hle,hc,hn=>by
  obtain⟨xs,h1,h2,hb,h3,h4⟩:=Xkn hB p sz cs es n (by omega) (by rw[Uac]at hc; omega) fun i hi h=>hn i hi (by omega);obtain⟨y,y1,yb,y2,y3⟩:=hn n (by omega) (by omega);refine⟨xs++[y],by simp[h1],?_,?_,?_,?_⟩
  ·intro z hz;rcases Ubu.1 hz with hz | hz
   ·exact h2 z hz
   ·rw[Uci.1 hz]; exact y1
  ·rw[Ubj (by omega),Uca,Uam,Ubm,Xj4 hB,Xfe];omega
  ·have e:cs.take ((n+1)*sz)=cs.take (n*sz)++(cs.drop (n*sz)).take sz:=by rw[Uac,Nat.one_mul,List.take_add]
   rw[e];exact Rai h3 ⟨_,[],by simp,y2,rfl⟩
  ·have key:∀l:List D,Raa (l++[y])=Raa l+y.sz:=fun l=>by induction l with
    | nil=>simp[Raa]
    | cons a r ih=>simp only[List.cons_append,Raa,ih]; omega
   rw[key,h4,y3,Uac,Nat.one_mul]
theorem Xfu (hB:BulkOk blk blks)(ts:List TypeId)(q:TypeId->List Value->Option (DataW H×List MemPlace))(p:TypeId->D->Prop)(ih:∀t cs x,t∈ts->q t cs=some x->∃y:D,p t y/\y.bulk<=blk x.1/\y.rep w ow cs/\y.sz=P.cellsOf t):∀(fs:List Field) (o:Nat) (cs:List Value) (xs:List (DataW H×List MemPlace)),Xl5 P ts fs o cs.length=true->
  fs.mapM (fun f=>q f.type ((cs.drop f.offset).take (P.cellsOf f.type)))=some xs->∃ys:List D,Yax (fun (f:Field) y=>p f.type y) fs ys/\Rd4 ys<=blks (xs.map (·.1))/\Rac w ow ys (cs.drop o)/\o+Raa ys=cs.length
 | [],o,cs,xs,hc,h=>by
  simp only[Xl5,Ubn]at hc;refine⟨[],rfl,by simp[Rd4],?_,by simpa[Raa]using hc⟩;simp only[Rac];exact Ubl (by omega)
 | f::fs,o,cs,xs,hc,h=>by
  simp only[Xl5,Uai,Ubn,List.contains_iff_mem]at hc;obtain⟨⟨h1,h2⟩,h3⟩:=hc;obtain⟨x,xs',rfl,hx,hr⟩:=Xvl h;rw[h1]at hx;obtain⟨y,y1,yb,y2,y3⟩:=ih f.type _ x h2 hx;obtain⟨ys,z1,zb,z2,z3⟩:=Xfu hB ts q p ih fs _ cs xs' h3 hr;refine⟨y::ys,⟨y,ys,rfl,y1,z1⟩,?_,?_,by simp only[Raa]; omega⟩
  ·simp only[Uam,hB.cons,Rd4]; omega
  ·simp only[Rac];refine⟨_,_,?_,y2,z2⟩;rw[<-List.drop_drop];exact (Uao _ _).symm
theorem Xf7 (hB:BulkOk blk blks)(hown:∀b,¬ow b)(ts:List TypeId)(hl:ts.all (X9f P ts)=true):∀(fuel:Nat) (t:TypeId) (cs:List Value) (x:DataW H×List MemPlace),t∈ts->DataW.trod enc P w base sp held fuel t cs=some x->∃y:D,Xez P fuel t y/\y.bulk<=blk x.1/\y.rep w ow cs/\y.sz=P.cellsOf t
 | 0,_,_,_,_,h=>by simp[DataW.trod]at h
 | n+1,t,cs,x,ht,h=>by
  have hk:=Ubt.1 hl t ht;have ih:=Xf7 hB hown ts hl n;simp only[X9f]at hk;unfold Xez;split at hk
  ·rename_i hu;obtain⟨b,rfl,rfl⟩:=DataW.trod_bool hu h;exact⟨.bool b,⟨b,rfl⟩,hB.lit _,rfl,by simpa[D.sz]using Eq.symm (Ubn.1 hk)⟩
  ·rename_i k hu;obtain⟨z,rfl,rfl,hw⟩:=DataW.trod_int hu h;exact⟨.int k z,⟨z,rfl,hw⟩,hB.lit _,rfl,by simpa[D.sz]using Eq.symm (Ubn.1 hk)⟩
  ·rename_i hu;obtain⟨s,rfl,rfl,hs⟩:=DataW.trod_string hu h;exact⟨.str s.data.toList,⟨_,rfl,by simpa using hs⟩,by simp[D.bulk,hB.str],by simp[D.rep],by simpa[D.sz]using Eq.symm (Ubn.1 hk)⟩
  ·rename_i e hu;simp only[Uai,Ubn,Ubp,List.contains_iff_mem]at hk;obtain⟨⟨h1,h2⟩,h3⟩:=hk;unfold DataW.trod at h;rw[hu]at h;split at h<;>try (simp at *; done)
   ·simp only[Uaq]at h;subst h;exact⟨.list (P.cellsOf e) [],⟨[],rfl,by simp,by simp⟩,by simpa[D.bulk,Rd4]using hB.nil,.inl ⟨rfl,rfl⟩,by simp[D.sz,h1]⟩
   ·rename_i e' a l c hu';obtain rfl:e=e':=by simpa using hu'
    simp only at h;split at h
    ·rename_i hb;obtain⟨elems,he,h⟩:=Ucw.1 h;have hel:elems.length=l:=by simpa using Lib.mapM_length he
     obtain⟨xs,vs,q1,q2,q3,qb,q4,q5,q6⟩:=Xkm (w:=w) (base:=base) (ow:=ow) hB (Xez P n e) (P.cellsOf e) h3 a elems l (by omega) fun i hi hil=>by
      obtain⟨b,hb0,hb⟩:=Lib.mapM_at he i i (by simp[hil]);obtain⟨cs,hc,hx⟩:=Ucw.1 hb;rw[Ubf hi]at hb0;obtain rfl:=Ub1 hb0;exact⟨cs,hc,ih e cs _ h2 hx⟩
     obtain⟨rest,_,hx⟩:=Ubr.1 h;subst hx;refine⟨.list (P.cellsOf e) xs,⟨xs,rfl,by omega,fun y hy=>(q3 y hy).1⟩,?_,.inr ⟨a,c,vs,by rw[q1],by omega,⟨fun hne=>?_,q6⟩,q4,fun x hx=>(q3 x hx).2⟩,by simp[D.sz,h1]⟩
     ·rw[Ubk (by omega)]at qb;simp only[D.bulk,hB.sl]; omega
     have hp:0<l:=by
      rcases Nat.eq_zero_or_pos l with rfl | hp
      ·have:vs=[]:=Uct.1 (by simpa using q2);exact (hne this).elim
      ·exact hp
     exact⟨(q5 hp).1,hown _,(q5 hp).2⟩
    ·cases h
  ·rename_i fs hu;unfold DataW.trod at h;rw[hu]at h;split at h<;>try (simp at *; done)
   rename_i fs' heq;obtain rfl:fs=fs':=by simpa using heq
   split at h
   ·rename_i hlen;obtain⟨xs,hm,hx⟩:=Ubr.1 h;subst hx;rw[<-hlen]at hk;obtain⟨ys,y1,yb,y2,y3⟩:=Xfu hB ts _ (Xez P n) ih fs.toList 0 _ xs hk hm;exact⟨.agg ys,⟨ys,rfl,y1⟩,by simp only[D.bulk,hB.agg]; omega,by simpa[D.rep]using y2,by simp only[D.sz]; omega⟩
   ·cases h
  ·rename_i m e hu;simp only[Uai,Ubn,List.contains_iff_mem]at hk;obtain⟨h1,h2⟩:=hk;unfold DataW.trod at h;rw[hu]at h;split at h<;>try (simp at *; done)
   rename_i m' e' heq;obtain⟨rfl,rfl⟩:m=m'/\e=e':=by simpa using heq
   split at h
   ·rename_i hlen;obtain⟨xs,hm,hx⟩:=Ubr.1 h;subst hx;have hel:xs.length=m:=by simpa using Lib.mapM_length hm
    obtain⟨ys,y1,y2,yb,y3,y4⟩:=Xkn (w:=w) (ow:=ow) hB (Xez P n e) (P.cellsOf e) _ xs m (by omega) (Nat.le_of_eq (hlen.trans h2).symm) fun i hi hil=>by
     obtain⟨b,hb0,hb⟩:=Lib.mapM_at hm i i (by simp[hil]);rw[Ubf hi]at hb0;obtain rfl:=Ub1 hb0;exact ih e _ _ h1 hb
    rw[Ubk (Nat.le_of_eq hel)]at yb;refine⟨.agg ys,⟨ys,rfl,y1,y2⟩,by simp only[D.bulk,hB.agg]; omega,?_,by simp only[D.sz]; omega⟩;simp only[D.rep];rw[Ubk (by omega)]at y3;exact y3
   ·cases h
  ·cases hk
theorem Xd7 (hB:BulkOk blk blks)(hown:∀b,¬ow b)(ts:List TypeId)(hl:ts.all (X9f P ts)=true){t:TypeId}(ht:t∈ts){v:Value}{d:DataW H}{ps:List MemPlace}(h:DataW.Trod enc P w base sp held t v d ps):∃y:D,Fit P t y/\y.bulk<=blk d/\y.rep w ow v.cells.toList:=by
 obtain⟨fuel,h⟩:=h;obtain⟨y,y1,yb,y2,_⟩:=Xf7 hB hown ts hl fuel t _ _ ht h;exact⟨y,⟨fuel,y1⟩,yb,y2⟩
end
end Go.Ab
namespace Go.Sx
open Go Go.Ab Go.Lx
mutual
theorem X3g:∀f:RForm,4*f.nm<=f.enc.bulk
 | .mk o n k a=>by
  have h:=Xtr k;rw[RForm.nm,RForm.enc,D.bulk,Rd4,Rd4,Rd4,Rd4,Rd4];have h1:(iD o).bulk=1:=rfl;have h2:(iD n).bulk=1:=rfl;have h3:(D.list 14 (Rc2 k)).bulk=Rd4 (Rc2 k)+1:=rfl;omega
theorem Xtr:∀l:List RForm,4*nmL l<=Rd4 (Rc2 l)
 | []=>by simp[nmL,Rc2,Rd4]
 | f::r=>by
  have h1:=X3g f;have h2:=Xtr r;rw[nmL,Rc2,Rd4];omega
end
theorem Yxo (q:RQ):4*q.form.nm<=q.enc.bulk:=by
 have h:=X3g q.form;have e:q.enc.bulk=Rd4 [.str q.name,iD q.purpose,.list 4 (q.vars.map RVar.enc),q.form.enc]+1:=rfl;rw[e];simp only[Rd4];omega
end Go.Sx
namespace Go.Proofs.YtolkimpelpnpbaaGreatDoor
open Go Go.Ab
theorem Xqo {H:Type}:BulkOk (H:=H) Rows.uptoBulk Rows.uptoBulkAll where
 lit l:=by cases l<;>simp[Rows.uptoBulk]
 str b:=by simp[Rows.uptoBulk]
 nil:=by simp[Rows.uptoBulk]
 sl es sp:=by simp only[Rows.uptoBulk]
 agg ps:=by simp only[Rows.uptoBulk]
 none:=by simp[Rows.uptoBulkAll]
 cons d r:=by simp only[Rows.uptoBulkAll]
theorem X5c {H:Type}{l:List (DataW H)}(hk:Rows.uptoSmall H l=true){d:DataW H}(hd:d∈l):Rows.uptoBulk d<=1048576:=by
 have h:Rows.uptoBulkAll l<=1048576:=Ucy hk;clear hk;induction l with
 | nil=>cases hd
 | cons x r ih=>
  simp only[Rows.uptoBulkAll]at h;rcases Uax.1 hd with rfl | hd
  ·omega
  ·exact ih hd (by omega)
end Go.Proofs.YtolkimpelpnpbaaGreatDoor
