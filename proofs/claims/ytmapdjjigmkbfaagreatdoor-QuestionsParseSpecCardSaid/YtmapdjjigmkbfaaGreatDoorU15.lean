/- Texts of this claim joined by a program, part 15 of 15; the last is: QuestionsParseSpec: the row, the card. Condition: none. -/
import Derived.Test.YtmapdjjigmkbfaaGreatDoorU1
import Derived.Test.YtmapdjjigmkbfaaGreatDoorU4
import Derived.Test.YtmapdjjigmkbfaaGreatDoorU9
import Derived.Test.YtmapdjjigmkbfaaGreatDoorU14
import Derived.Test.YtmapdjjigmkbfaaGreatDoorRows
import Derived.ChangeSame
import Derived.ChangeVars
import Derived.ChangeMaps5
import Derived.JoinedOf
import Derived.RowKit
import Derived.RowKitTokens
import Derived.LaidLaws
import Derived.LaidHandle
import Derived.Lib.LaidTab
import Derived.Carry
import Derived.Below
import Derived.Stop.Joined
import Derived.ChangeArms
import Derived.Test.YtmapdjjigmkbfaaGreatDoorProg
import Derived.KernelRfl
import Derived.Test.YtmapdjjigmkbfaaGreatDoorCards
import Derived.Test.YtmapdjjigmkbfaaGreatDoorTie
import Derived.SevenTiedAt
set_option maxRecDepth 100000
set_option linter.unusedSimpArgs false
set_option linter.unusedVariables false
set_option linter.unusedSectionVars false
set_option linter.defProp false
namespace Go.Proofs.YtmapdjjigmkbfaaGreatDoor
open Go Go.Ab Go.Lx Go.ChangeShapes Go.WideShapes Go.RowKit
theorem own_knob:ownKnob Tryz.prog.godebug=none:=by kernel_rfl
theorem laid_out:laidOutB Tryz.prog=true:=by kernel_rfl
abbrev laidL:List (String×DataW Unit):=[("math/bits.deBruijn32tab", Rows.laid_math_bits_deBruijn32tab),("math/bits.deBruijn64tab", Rows.laid_math_bits_deBruijn64tab),("internal/strconv.uint64pow10", Rows.laid_internal_strconv_uint64pow10),("testamur/digest.constants", Rows.laid_testamur_digest_constants)]
theorem var_at {W:World}{n:String}{g:Nat}{cs:Array Value}(hn:Tryz.prog.globalNamed n=some g)(h:W.var? Tryz.prog n=some cs):∃T f,W.heap[g]? = some (.cells cs T f):=by
 simp only[World.var?,hn,Option.bind_some]at h
 cases hb:W.heap[g]? with
 | none=>rw[hb]at h; cases h
 | some o=>
  rw[hb]at h
  cases o with
  | cells c T f=>simp only[Option.some.injEq]at h; subst h; exact⟨T,f,rfl⟩
  | _=>cases h
def kTab:List Int:=[1116352408,1899447441,3049323471,3921009573,961987163,1508970993,2453635748,2870763221,3624381080,310598401,607225278,1426881987,1925078388,2162078206,2614888103,3248222580,3835390401,4022224774,264347078,604807628,770255983,1249150122,1555081692,1996064986,2554220882,2821834349,2952996808,3210313671,3336571891,3584528711,113926993,338241895,666307205,773529912,1294757372,1396182291,1695183700,1986661051,2177026350,2456956037,2730485921,2820302411,3259730800,3345764771,3516065817,3600352804,4094571909,275423344,430227734,506948616,659060556,883997877,958139571,1322822218,1537002063,1747873779,1955562222,2024104815,2227730452,2361852424,2428436474,2756734187,3204031479,3329325298]
theorem isCs_ints (k:IntKind):∀l:List Int,D.isCs (l.map (D.int k)) (l.map fun z=>Value.int k z)=true
 | []=>rfl
 | x::r=>by simp[D.isCs,D.isC,D.sz,isCs_ints k r]
structure LaidIs (W:World):Prop where
 pow:∃T f,W.heap[2]? = some (.cells (Lib.pow10Tab.map fun z=>Value.int .u64 z).toArray T f)
 kst:∃T f,W.heap[0]? = some (.cells (kTab.map fun z=>Value.int .u32 z).toArray T f)
theorem laid_is {W:World}(h:laidMetH Tryz.prog laidL W):LaidIs W:=by
 have h':laidMet Tryz.prog laidL W:=h
 obtain⟨ps,⟨g1,t1,c1,f1,p1,q1,_,_,_,_,hr1,_⟩,_⟩:=h'
 obtain⟨g2,t2,c2,f2,p2,q2,_,_,_,_,hr2,_⟩:=hr1
 obtain⟨g3,t3,c3,f3,p3,q3,hg3,ht3,hv3,hd3,hr3,_⟩:=hr2
 obtain⟨g4,t4,c4,f4,p4,q4,hg4,ht4,hv4,hd4,hr4,_⟩:=hr3
 refine⟨?_,?_⟩
 ·have e1:Tryz.prog.globalNamed "internal/strconv.uint64pow10" = some 2:=by kernel_rfl
  obtain rfl:=Option.some.inj (e1.symm.trans hg3)
  have e2:(Tryz.prog.globals[2]?).map (·.type)=some 260:=by kernel_rfl
  obtain rfl:=Option.some.inj (e2.symm.trans ht3)
  have e3:Tryz.prog.underlying 260=some (.array 20 236):=by kernel_rfl
  have e4:Tryz.prog.underlying 236=some (.int .u64):=by kernel_rfl
  have e5:(Rows.laid_internal_strconv_uint64pow10:DataW Unit)=Lib.tabData .u64 Lib.pow10Tab:=by kernel_rfl
  rw[e5]at hd3
  obtain⟨T,f,hh⟩:=var_at e1 hv3
  have:=Lib.cells_of_tab e3 e4 (by kernel_rfl) (by kernel_rfl) hd3
  exact⟨T,f,by rw[hh,<-this]⟩
 ·have e1:Tryz.prog.globalNamed "testamur/digest.constants" = some 0:=by kernel_rfl
  obtain rfl:=Option.some.inj (e1.symm.trans hg4)
  have e2:(Tryz.prog.globals[0]?).map (·.type)=some 238:=by kernel_rfl
  obtain rfl:=Option.some.inj (e2.symm.trans ht4)
  have e3:Tryz.prog.underlying 238=some (.array 64 200):=by kernel_rfl
  have e4:Tryz.prog.underlying 200=some (.int .u32):=by kernel_rfl
  have e5:(Rows.laid_testamur_digest_constants:DataW Unit)=Lib.tabData .u32 kTab:=by kernel_rfl
  rw[e5]at hd4
  obtain⟨T,f,hh⟩:=var_at e1 hv4
  have:=Lib.cells_of_tab e3 e4 (by kernel_rfl) (by kernel_rfl) hd4
  exact⟨T,f,by rw[hh,<-this]⟩
noncomputable def prgOf (W:World):Prg:=⟨Tryz.prog,fun b=>if b<=8 then W.heap[b]? else none⟩
noncomputable def envOf (W:World):Env:=⟨fun _=>none,fun _=>False,(prgOf W).g⟩
theorem not_own (W:World)(b:Nat):¬own (envOf W) b:=by
 rintro (⟨_,_,h,_⟩ | h)
 ·cases h
 ·exact h
theorem env_om (W:World):OM W (envOf W) []:=by
 refine⟨fun _ _ h=>(by cases h),fun _ _ h=>(by cases h),fun _ _ _ _ _ h=>(by cases h),fun _ h=>h.elim,fun b o h=>⟨?_,not_own W b⟩,fun _ ⟨_,_,h,_⟩=>(by cases h),trivial⟩
 simp only[envOf,prgOf]at h
 split at h
 ·exact h
 ·cases h
theorem g_at (W:World){b:Nat}(hb:b<=8):(prgOf W).g b=W.heap[b]?:=by simp only[prgOf,hb,if_true]
theorem pow_of {W:World}(h:LaidIs W):Pow (prgOf W):=by
 obtain⟨T,f,h⟩:=h.pow
 exact⟨T,f,by rw[g_at W (by decide),h]⟩
theorem kst_of {W:World}(h:LaidIs W):Kst (prgOf W):=by
 obtain⟨T,f,h⟩:=h.kst
 exact⟨_,T,f,by rw[g_at W (by decide),h],isCs_ints .u32 kTab⟩
theorem below_of {w w':World}(h:Ext w w'):Below w.heap.size w w':=⟨h.os,h.tape,h.out,h.size,fun b hb=>h.keep b hb⟩
theorem law_run {f:Nat}{vs:List V}{args:List Value}{W:World}(hL:laidMetH Tryz.prog laidL W)
  (hp:∀{P:Prg},P.p=Tryz.prog->Kst P->Pow P->PCall P f vs [] (fun v=>v=.d (.bool true))) (hr:V.reps W (envOf W) vs args) :
  Calls Tryz.prog f args.toArray W fun e W'=>e=.returned (.bool true)/\Below W.heap.size W W':=by
 refine ((hp (P:=prgOf W) rfl (kst_of (laid_is hL)) (pow_of (laid_is hL))).run W (envOf W) args (env_om W) rfl hr).mono ?_
 rintro e W' ⟨v,u,rfl,rfl,h,hx⟩
 rw[rep_bool]at h
 subst h
 exact⟨rfl,below_of hx⟩
def tab32:List Int:=[0,1,28,2,29,14,24,3,30,22,20,15,25,17,4,8,31,27,13,23,21,19,16,7,26,12,18,6,11,5,10,9]
def tab64:List Int:=[0,1,56,2,57,49,28,3,61,58,42,50,38,29,17,4,62,47,59,36,45,43,51,22,53,39,33,30,24,18,12,5,63,55,48,27,60,41,37,16,46,35,44,21,52,32,23,11,54,26,40,15,34,20,31,10,25,14,19,9,13,8,7,6]
noncomputable def laidWorld (os:Os):World:=
 let w0:=World.holding Tryz.prog os ⟨#[],#[],[]⟩
 { w0 with heap:=((((w0.heap.modify 0 fun
   | .cells _ t frozen=>.cells (kTab.map fun z=>Value.int .u32 z).toArray t frozen
   | o=>o).modify 2 fun
   | .cells _ t frozen=>.cells (Lib.pow10Tab.map fun z=>Value.int .u64 z).toArray t frozen
   | o=>o).modify 3 fun
   | .cells _ t frozen=>.cells (tab32.map fun z=>Value.int .u8 z).toArray t frozen
   | o=>o).modify 4 fun
   | .cells _ t frozen=>.cells (tab64.map fun z=>Value.int .u8 z).toArray t frozen
   | o=>o) }
theorem laid_met (os:Os)(args:Array Value):laidMetH Tryz.prog laidL ((laidWorld os).forCall (fun _ _=>0) ⟨#[],args,[]⟩).memory:=
 show laidMet Tryz.prog laidL _ from laidMet_of_run' 8 (by kernel_rfl) (by kernel_rfl)
end Go.Proofs.YtmapdjjigmkbfaaGreatDoor
namespace Go.Ab
open Go
def X55 {α β:Type}(p:α->β->Prop):List α->List β->Prop
 | [],xs=>xs=[]
 | f::r,xs=>∃x q,xs=x::q/\p f x/\X55 p r q
theorem X55.imp {α β:Type}{p q:α->β->Prop}(h:∀a b,p a b->q a b):∀{l:List α} {m:List β},X55 p l m->X55 q l m
 | [],_,e=>e
 | _::_,_,⟨x,r,e,h1,h2⟩=>⟨x,r,e,h _ _ h1,X55.imp h h2⟩
def Xmc (P:Program):Nat->TypeId->D->Prop
 | 0,_,_=>False
 | n+1,t,d=>match P.underlying t with
  | some .bool=>∃b,d=.bool b
  | some (.int k)=>∃z,d=.int k z/\(Lit.int k z).wf=true
  | some .string=>∃s,d=.str s/\s.length<=maxLen
  | some (.slice e)=>∃xs,d=.list (P.cellsOf e) xs/\xs.length<=maxLen/\∀x∈xs,Xmc P n e x
  | some (.struct fs)=>∃xs,d=.agg xs/\X55 (fun (f:Field) x=>Xmc P n f.type x) fs.toList xs
  | some (.array m e)=>∃xs,d=.agg xs/\xs.length=m/\∀x∈xs,Xmc P n e x
  | _=>False
def Fit (P:Program)(t:TypeId)(d:D):Prop:=∃n,Xmc P n t d
section
variable {P:Program} {t e:TypeId} {d:D}
theorem Fit.bool (hu:P.underlying t=some .bool):Fit P t d->∃b,d=.bool b
 | ⟨n+1,h⟩=>by simp only[Xmc,hu]at h; exact h
theorem Fit.int {k:IntKind}(hu:P.underlying t=some (.int k)):Fit P t d->∃z,d=.int k z/\(Lit.int k z).wf=true
 | ⟨n+1,h⟩=>by simp only[Xmc,hu]at h; exact h
theorem Fit.str (hu:P.underlying t=some .string):Fit P t d->∃s,d=.str s/\s.length<=maxLen
 | ⟨n+1,h⟩=>by simp only[Xmc,hu]at h; exact h
theorem Fit.sl (hu:P.underlying t=some (.slice e)):Fit P t d->∃xs,d=.list (P.cellsOf e) xs/\xs.length<=maxLen/\∀x∈xs,Fit P e x
 | ⟨n+1,h⟩=>by
  simp only[Xmc,hu]at h
  obtain⟨xs,h1,h2,h3⟩:=h
  exact⟨xs,h1,h2,fun x hx=>⟨n,h3 x hx⟩⟩
theorem Fit.st {fs:Array Field}(hu:P.underlying t=some (.struct fs)):Fit P t d->∃xs,d=.agg xs/\X55 (fun (f:Field) x=>Fit P f.type x) fs.toList xs
 | ⟨n+1,h⟩=>by
  simp only[Xmc,hu]at h
  obtain⟨xs,h1,h2⟩:=h
  exact⟨xs,h1,h2.imp fun _ _ h=>⟨n,h⟩⟩
theorem Fit.ar {m:Nat}(hu:P.underlying t=some (.array m e)):Fit P t d->∃xs,d=.agg xs/\xs.length=m/\∀x∈xs,Fit P e x
 | ⟨n+1,h⟩=>by
  simp only[Xmc,hu]at h
  obtain⟨xs,h1,h2,h3⟩:=h
  exact⟨xs,h1,h2,fun x hx=>⟨n,h3 x hx⟩⟩
theorem Fit.list {α:Type}{f:α->D}{xs:List D}:(∀x∈xs,∃y,x=f y)->∃l:List α,xs=l.map f:=by
 induction xs with
 | nil=>exact fun _=>⟨[],rfl⟩
 | cons x r ih=>
  intro h
  obtain⟨y,rfl⟩:=h x (by simp)
  obtain⟨l,rfl⟩:=ih fun z hz=>h z (by simp[hz])
  exact⟨y::l,rfl⟩
theorem Fit.listP {α:Type}{f:α->D}{p:α->Prop}{xs:List D}:(∀x∈xs,∃y,x=f y/\p y)->∃l:List α,xs=l.map f/\∀y∈l,p y:=by
 induction xs with
 | nil=>exact fun _=>⟨[],rfl,by simp⟩
 | cons x r ih=>
  intro h
  obtain⟨y,rfl,hy⟩:=h x (by simp)
  obtain⟨l,rfl,hl⟩:=ih fun z hz=>h z (by simp[hz])
  refine⟨y::l,rfl,fun z hz=>?_⟩
  rcases List.mem_cons.1 hz with rfl | hz
  ·exact hy
  ·exact hl z hz
end
def Xky (P:Program)(ts:List TypeId):List Field->Nat->Nat->Bool
 | [],o,n=>o==n
 | f::r,o,n=>f.offset==o&&ts.contains f.type&&Xky P ts r (o+P.cellsOf f.type) n
def X4w (P:Program)(ts:List TypeId)(t:TypeId):Bool:=match P.underlying t with
 | some .bool | some (.int _) | some .string=>P.cellsOf t==1
 | some (.slice e)=>P.cellsOf t==1&&ts.contains e&&decide (0<P.cellsOf e)
 | some (.struct fs)=>Xky P ts fs.toList 0 (P.cellsOf t)
 | some (.array m e)=>ts.contains e&&P.cellsOf t==m*P.cellsOf e
 | _=>false
section
variable {H:Type} {enc:TypeId×Value->H} {P:Program} {w:World} {base:Nat} {sp:Nat->Bool} {held:Bool} {ow:Nat->Prop}
theorem Ybr {a:Addr}{i:Nat}{v:Value}(h:w.cell? (a.add i)=some v)(hs:i=0\/a.spot=none):a.spot=none/\a.block<w.heap.size/\w.cell? ⟨a.block,a.off+i,none⟩=some v:=by
 have hsp:a.spot=none:=by
  rcases hs with rfl | hs
  ·have:a.add 0=a:=by simp[Addr.add]
   rw[this]at h
   unfold World.cell? at h
   split at h
   ·split at h
    ·cases h
    ·rename_i e; simpa using e
   ·cases h
  ·exact hs
 rw[Addr.add_eq hsp]at h
 refine⟨hsp,?_,h⟩
 unfold World.cell? at h
 cases hb:w.heap[a.block]? with
 | none=>simp only[hb]at h; cases h
 | some o=>exact Xn hb
theorem X3g {a:Addr}{n:Nat}{vs:List Value}(h:w.cells? base a n=some vs):vs.length=n/\∀i,i<n->w.cell? (a.add i)=vs[i]?:=by
 unfold World.cells? at h
 split at h
 ·refine⟨by simpa using Lib.mapM_length h,fun i hi=>?_⟩
  obtain⟨b,hb,hf⟩:=Lib.mapM_at h i i (by simp[hi])
  rw[hf,hb]
 ·cases h
theorem Xrm (p:D->Prop)(sz:Nat)(hsz:0<sz)(a:Addr):∀n,(∀i,i<n->∃cs,w.cells? base (a.add (i*sz)) sz=some cs/\∃y:D,p y/\y.rep w ow cs/\y.sz=sz)->
   ∃(xs:List D) (vs:List Value),xs.length=n/\vs.length=n*sz/\(∀y∈xs,p y/\y.sz=sz)/\D.repL w ow xs vs/\(0<n->a.spot=none/\a.block<w.heap.size)/\∀j (h:j<vs.length),w.cell? ⟨a.block,a.off+j,none⟩=some vs[j]
 | 0,_=>⟨[],[],rfl,by simp,by simp,rfl,by simp,by simp⟩
 | n+1,hn=>by
  obtain⟨xs,vs,h1,h2,h3,h4,h5,h6⟩:=Xrm p sz hsz a n (fun i hi=>hn i (by omega))
  obtain⟨cs,hc,y,y1,y2,y3⟩:=hn n (by omega)
  obtain⟨c1,c2⟩:=X3g hc
  have hspot:a.spot=none/\a.block<w.heap.size:=by
   rcases Nat.eq_zero_or_pos n with rfl | hp
   ·have h0:=c2 0 hsz
    rw[List.getElem?_eq_getElem (by omega)]at h0
    have e0:(a.add (0*sz)).add 0=a.add 0:=by simp[Addr.add]
    rw[e0]at h0
    have:=Ybr h0 (.inl rfl)
    exact⟨this.1,this.2.1⟩
   ·exact h5 hp
  refine⟨xs++[y],vs++cs,by simp[h1],by simp[h2,c1,Nat.add_mul],?_,D.repL_append h4 ⟨cs,[],by simp,y2,rfl⟩,fun _=>hspot,fun j hj=>?_⟩
  ·intro z hz
   rcases List.mem_append.1 hz with hz | hz
   ·exact h3 z hz
   ·rw[List.mem_singleton.1 hz]; exact⟨y1,y3⟩
  ·rw[List.getElem_append]
   split
   ·rename_i hj'; exact h6 j hj'
   ·rename_i hj'
    simp at hj
    have hk:j-vs.length<sz:=by omega
    have:=c2 (j-vs.length) hk
    rw[List.getElem?_eq_getElem (by omega)]at this
    rw[Addr.add_eq hspot.1,Addr.add_eq rfl]at this
    have hoff:a.off+n*sz+(j-vs.length)=a.off+j:=by omega
    simp only[hoff]at this
    exact this
theorem Xrn (p:D->Prop)(sz:Nat)(cs:List Value):∀n,n*sz<=cs.length->(∀i,i<n->∃y:D,p y/\y.rep w ow ((cs.drop (i*sz)).take sz)/\y.sz=sz)->
   ∃xs:List D,xs.length=n/\(∀y∈xs,p y)/\D.repL w ow xs (cs.take (n*sz))/\D.szs xs=n*sz
 | 0,_,_=>⟨[],rfl,by simp,by simp[D.repL],by simp[D.szs]⟩
 | n+1,hc,hn=>by
  obtain⟨xs,h1,h2,h3,h4⟩:=Xrn p sz cs n (by rw[Nat.add_mul]at hc; omega) fun i hi=>hn i (by omega)
  obtain⟨y,y1,y2,y3⟩:=hn n (by omega)
  refine⟨xs++[y],by simp[h1],?_,?_,?_⟩
  ·intro z hz
   rcases List.mem_append.1 hz with hz | hz
   ·exact h2 z hz
   ·rw[List.mem_singleton.1 hz]; exact y1
  ·have e:cs.take ((n+1)*sz)=cs.take (n*sz)++(cs.drop (n*sz)).take sz:=by rw[Nat.add_mul,Nat.one_mul,List.take_add]
   rw[e]
   exact D.repL_append h3 ⟨_,[],by simp,y2,rfl⟩
  ·have key:∀l:List D,D.szs (l++[y])=D.szs l+y.sz:=fun l=>by induction l with
    | nil=>simp[D.szs]
    | cons a r ih=>simp only[List.cons_append,D.szs,ih]; omega
   rw[key,h4,y3,Nat.add_mul,Nat.one_mul]
theorem Xt2 {α β:Type}{f:α->Option β}{a:α}{l:List α}{r:List β}(h:(a::l).mapM f=some r):∃b r',r=b::r'/\f a=some b/\l.mapM f=some r':=by
 simp only[List.mapM_cons,Option.bind_eq_bind,Option.bind_eq_some_iff,Option.pure_def,Option.some.injEq]at h
 obtain⟨b,hb,r',hr',rfl⟩:=h
 exact⟨b,r',rfl,hb,hr'⟩
theorem Xj3 (ts:List TypeId)(q:TypeId->List Value->Option (DataW H×List MemPlace))(p:TypeId->D->Prop)(ih:∀t cs x,t∈ts->q t cs=some x->∃y:D,p t y/\y.rep w ow cs/\y.sz=P.cellsOf t):∀(fs:List Field) (o:Nat) (cs:List Value) (xs:List (DataW H×List MemPlace)),Xky P ts fs o cs.length=true->
  fs.mapM (fun f=>q f.type ((cs.drop f.offset).take (P.cellsOf f.type)))=some xs->∃ys:List D,X55 (fun (f:Field) y=>p f.type y) fs ys/\D.repL w ow ys (cs.drop o)/\o+D.szs ys=cs.length
 | [],o,cs,xs,hc,h=>by
  simp only[Xky,beq_iff_eq]at hc
  refine⟨[],rfl,?_,by simpa[D.szs]using hc⟩
  simp only[D.repL]
  exact List.drop_of_length_le (by omega)
 | f::fs,o,cs,xs,hc,h=>by
  simp only[Xky,Bool.and_eq_true,beq_iff_eq,List.contains_iff_mem]at hc
  obtain⟨⟨h1,h2⟩,h3⟩:=hc
  obtain⟨x,xs',rfl,hx,hr⟩:=Xt2 h
  rw[h1]at hx
  obtain⟨y,y1,y2,y3⟩:=ih f.type _ x h2 hx
  obtain⟨ys,z1,z2,z3⟩:=Xj3 ts q p ih fs _ cs xs' h3 hr
  refine⟨y::ys,⟨y,ys,rfl,y1,z1⟩,?_,by simp only[D.szs]; omega⟩
  simp only[D.repL]
  refine⟨_,_,?_,y2,z2⟩
  rw[<-List.drop_drop]
  exact (List.take_append_drop _ _).symm
theorem Xk0 (hown:∀b,¬ow b)(ts:List TypeId)(hl:ts.all (X4w P ts)=true):∀(fuel:Nat) (t:TypeId) (cs:List Value) (x:DataW H×List MemPlace),t∈ts->DataW.trod enc P w base sp held fuel t cs=some x->∃y:D,Xmc P fuel t y/\y.rep w ow cs/\y.sz=P.cellsOf t
 | 0,_,_,_,_,h=>by simp[DataW.trod]at h
 | n+1,t,cs,x,ht,h=>by
  have hk:=List.all_eq_true.1 hl t ht
  have ih:=Xk0 hown ts hl n
  simp only[X4w]at hk
  unfold Xmc
  split at hk
  ·rename_i hu
   obtain⟨b,rfl,_⟩:=DataW.trod_bool hu h
   exact⟨.bool b,⟨b,rfl⟩,rfl,by simpa[D.sz]using Eq.symm (beq_iff_eq.1 hk)⟩
  ·rename_i k hu
   obtain⟨z,rfl,_,hw⟩:=DataW.trod_int hu h
   exact⟨.int k z,⟨z,rfl,hw⟩,rfl,by simpa[D.sz]using Eq.symm (beq_iff_eq.1 hk)⟩
  ·rename_i hu
   obtain⟨s,rfl,_,hs⟩:=DataW.trod_string hu h
   exact⟨.str s.data.toList,⟨_,rfl,by simpa using hs⟩,by simp[D.rep],by simpa[D.sz]using Eq.symm (beq_iff_eq.1 hk)⟩
  ·rename_i e hu
   simp only[Bool.and_eq_true,beq_iff_eq,decide_eq_true_eq,List.contains_iff_mem]at hk
   obtain⟨⟨h1,h2⟩,h3⟩:=hk
   unfold DataW.trod at h
   rw[hu]at h
   split at h<;>try (simp at *; done)
   ·exact⟨.list (P.cellsOf e) [],⟨[],rfl,by simp,by simp⟩,.inl ⟨rfl,rfl⟩,by simp[D.sz,h1]⟩
   ·rename_i e' a l c hu'
    obtain rfl:e=e':=by simpa using hu'
    simp only at h
    split at h
    ·rename_i hb
     obtain⟨elems,he,h⟩:=Option.bind_eq_some_iff.1 h
     obtain⟨xs,vs,q1,q2,q3,q4,q5,q6⟩:=Xrm (w:=w) (base:=base) (ow:=ow) (Xmc P n e) (P.cellsOf e) h3 a l fun i hi=>by
      obtain⟨b,_,hb⟩:=Lib.mapM_at he i i (by simp[hi])
      obtain⟨cs,hc,hx⟩:=Option.bind_eq_some_iff.1 hb
      exact⟨cs,hc,ih e cs b h2 hx⟩
     refine⟨.list (P.cellsOf e) xs,⟨xs,rfl,by omega,fun y hy=>(q3 y hy).1⟩,.inr ⟨a,c,vs,by rw[q1],by omega,⟨fun hne=>?_,q6⟩,q4,fun x hx=>(q3 x hx).2⟩,by simp[D.sz,h1]⟩
     have hp:0<l:=by
      rcases Nat.eq_zero_or_pos l with rfl | hp
      ·have:vs=[]:=List.length_eq_zero_iff.1 (by simpa using q2)
       exact (hne this).elim
      ·exact hp
     exact⟨(q5 hp).1,hown _,(q5 hp).2⟩
    ·cases h
  ·rename_i fs hu
   unfold DataW.trod at h
   rw[hu]at h
   split at h<;>try (simp at *; done)
   rename_i fs' heq
   obtain rfl:fs=fs':=by simpa using heq
   split at h
   ·rename_i hlen
    obtain⟨xs,hm,_⟩:=Option.map_eq_some_iff.1 h
    rw[<-hlen]at hk
    obtain⟨ys,y1,y2,y3⟩:=Xj3 ts _ (Xmc P n) ih fs.toList 0 _ xs hk hm
    exact⟨.agg ys,⟨ys,rfl,y1⟩,by simpa[D.rep]using y2,by simp only[D.sz]; omega⟩
   ·cases h
  ·rename_i m e hu
   simp only[Bool.and_eq_true,beq_iff_eq,List.contains_iff_mem]at hk
   obtain⟨h1,h2⟩:=hk
   unfold DataW.trod at h
   rw[hu]at h
   split at h<;>try (simp at *; done)
   rename_i m' e' heq
   obtain⟨rfl,rfl⟩:m=m'/\e=e':=by simpa using heq
   split at h
   ·rename_i hlen
    obtain⟨xs,hm,_⟩:=Option.map_eq_some_iff.1 h
    obtain⟨ys,y1,y2,y3,y4⟩:=Xrn (w:=w) (ow:=ow) (Xmc P n e) (P.cellsOf e) _ m (Nat.le_of_eq (hlen.trans h2).symm) fun i hi=>by
     obtain⟨b,_,hb⟩:=Lib.mapM_at hm i i (by simp[hi])
     exact ih e _ b h1 hb
    refine⟨.agg ys,⟨ys,rfl,y1,y2⟩,?_,by simp only[D.sz]; omega⟩
    simp only[D.rep]
    rw[List.take_of_length_le (by omega)]at y3
    exact y3
   ·cases h
  ·cases hk
theorem open_arg (hown:∀b,¬ow b)(ts:List TypeId)(hl:ts.all (X4w P ts)=true){t:TypeId}(ht:t∈ts){v:Value}{d:DataW H}{ps:List MemPlace}(h:DataW.Trod enc P w base sp held t v d ps):∃y:D,Fit P t y/\y.rep w ow v.cells.toList:=by
 obtain⟨fuel,h⟩:=h
 obtain⟨y,y1,y2,_⟩:=Xk0 hown ts hl fuel t _ _ ht h
 exact⟨y,⟨fuel,y1⟩,y2⟩
end
end Go.Ab
namespace Go.Proofs.YtmapdjjigmkbfaaGreatDoor
open Go Go.Ab Go.Lx Go.Sx
abbrev Fx (t:TypeId)(d:D):Prop:=Fit Tryz.prog t d
theorem Yu {d:D}(h:Fx 9 d):∃s:B,d=.str s:=by obtain⟨s,h,_⟩:=h.str (by kernel_rfl); exact⟨s,h⟩
theorem X8 {d:D}(h:Fx 3 d):∃n:Int,d=iD n:=by obtain⟨s,h,_⟩:=h.int (k:=.i64) (by kernel_rfl); exact⟨s,h⟩
theorem Uy {α:Type}{f:α->D}{t e:TypeId}{sz:Nat}{p:α->Prop}{d:D}(hu:Tryz.prog.underlying t=some (.slice e))(hs:Tryz.prog.cellsOf e=sz)(he:∀x,Fx e x->∃y,x=f y/\p y)(h:Fx t d):∃l:List α,d=.list sz (l.map f)/\l.length<=9223372036854775807/\∀y∈l,p y:=by
 obtain⟨xs,rfl,h1,h2⟩:=h.sl hu
 obtain⟨l,rfl,hp⟩:=Fit.listP (f:=f) (p:=p) fun x hx=>he x (h2 x hx)
 exact⟨l,by rw[hs],by simpa[maxLen]using h1,hp⟩
theorem Wu {α:Type}{f:α->D}{t e:TypeId}{sz:Nat}{d:D}(hu:Tryz.prog.underlying t=some (.slice e))(hs:Tryz.prog.cellsOf e=sz)(he:∀x,Fx e x->∃y,x=f y)(h:Fx t d):∃l:List α,d=.list sz (l.map f)/\l.length<=9223372036854775807:=by
 obtain⟨l,h1,h2,_⟩:=Uy (p:=fun _=>True) hu hs (fun x hx=>by obtain⟨y,e⟩:=he x hx; exact⟨y,e,trivial⟩) h
 exact⟨l,h1,h2⟩
theorem Xg0 {d:D}(h:Fx 22 d):∃l:List B,d=Xg l/\l.length<=9223372036854775807:=Wu (f:=D.str) (by kernel_rfl) (by kernel_rfl) (fun _=>Yu) h
theorem Xrs {d:D}(h:Fx 30 d):∃l:List Int,d=Xmy l/\l.length<=9223372036854775807:=Wu (f:=iD) (by kernel_rfl) (by kernel_rfl) (fun _=>X8) h
theorem Xc1 {d:D}(h:Fx 38 d):∃y:RTerm,d=y.enc:=by
 obtain⟨_,rfl,x1,_,rfl,h1,x2,_,rfl,h2,x3,_,rfl,h3,x4,_,rfl,h4,x5,_,rfl,h5,rfl⟩:=h.st Tryz.underlying38
 obtain⟨a,rfl⟩:=Yu h1
 obtain⟨b,rfl⟩:=Yu h2
 obtain⟨c,rfl⟩:=X8 h3
 obtain⟨e,rfl⟩:=X8 h4
 obtain⟨f,rfl⟩:=X8 h5
 exact⟨⟨a,b,c,e,f⟩,rfl⟩
theorem X36 {d:D}(h:Fx 288 d):∃y:RFrom,d=y.enc:=by
 obtain⟨_,rfl,x1,_,rfl,h1,x2,_,rfl,h2,x3,_,rfl,h3,x4,_,rfl,h4,rfl⟩:=h.st Tryz.underlying288
 obtain⟨a,rfl⟩:=Yu h1
 obtain⟨b,rfl⟩:=Yu h2
 obtain⟨c,rfl⟩:=X8 h3
 obtain⟨e,rfl⟩:=Xc1 h4
 exact⟨⟨a,b,c,e⟩,rfl⟩
theorem X35 {d:D}(h:Fx 40 d):∃y:RAtom,d=y.enc:=by
 obtain⟨_,rfl,x1,_,rfl,h1,x2,_,rfl,h2,x3,_,rfl,h3,rfl⟩:=h.st Tryz.underlying40
 obtain⟨a,rfl⟩:=X8 h1
 obtain⟨b,rfl⟩:=Xc1 h2
 obtain⟨c,rfl⟩:=Xc1 h3
 exact⟨⟨a,b,c⟩,rfl⟩
theorem Yb3 {d:D}(h:Fx 290 d):∃y:RSet,d=y.enc:=by
 obtain⟨_,rfl,x1,_,rfl,h1,x2,_,rfl,h2,x3,_,rfl,h3,rfl⟩:=h.st Tryz.underlying290
 obtain⟨a,rfl⟩:=Yu h1
 obtain⟨b,rfl⟩:=X8 h2
 obtain⟨c,rfl⟩:=Xc1 h3
 exact⟨⟨a,b,c⟩,rfl⟩
theorem X38 {d:D}(h:Fx 158 d):∃y:RRule,d=y.enc/\y.small:=by
 obtain⟨_,rfl,x1,_,rfl,h1,x2,_,rfl,h2,x3,_,rfl,h3,x4,_,rfl,h4,x5,_,rfl,h5,rfl⟩:=h.st Tryz.underlying158
 obtain⟨a,rfl⟩:=Yu h1
 obtain⟨b,rfl⟩:=X8 h2
 obtain⟨c,rfl,hc⟩:=Wu (f:=RFrom.enc) (by kernel_rfl) (sz:=8) (by kernel_rfl) (fun _=>X36) h3
 obtain⟨e,rfl,he⟩:=Wu (f:=RAtom.enc) (by kernel_rfl) (sz:=11) (by kernel_rfl) (fun _=>X35) h4
 obtain⟨f,rfl,hf⟩:=Wu (f:=RSet.enc) (by kernel_rfl) (sz:=7) (by kernel_rfl) (fun _=>Yb3) h5
 exact⟨⟨a,b,c,e,f⟩,rfl,hc,he,hf⟩
theorem X37 {d:D}(h:Fx 292 d):∃y:RMove,d=y.enc:=by
 obtain⟨_,rfl,x1,_,rfl,h1,x2,_,rfl,h2,x3,_,rfl,h3,x4,_,rfl,h4,x5,_,rfl,h5,rfl⟩:=h.st Tryz.underlying292
 obtain⟨a,rfl⟩:=Yu h1
 obtain⟨b,rfl⟩:=Yu h2
 obtain⟨c,rfl⟩:=X8 h3
 obtain⟨e,rfl⟩:=X8 h4
 obtain⟨f,rfl⟩:=X8 h5
 exact⟨⟨a,b,c,e,f⟩,rfl⟩
theorem Xmr {d:D}(h:Fx 161 d):∃y:RConvert,d=y.enc/\y.moves.length<=9223372036854775807:=by
 obtain⟨_,rfl,x1,_,rfl,h1,x2,_,rfl,h2,x3,_,rfl,h3,x4,_,rfl,h4,x5,_,rfl,h5,rfl⟩:=h.st Tryz.underlying161
 obtain⟨a,rfl⟩:=Yu h1
 obtain⟨b,rfl⟩:=Yu h2
 obtain⟨c,rfl⟩:=X8 h3
 obtain⟨e,rfl⟩:=X8 h4
 obtain⟨f,rfl,hf⟩:=Wu (f:=RMove.enc) (by kernel_rfl) (sz:=5) (by kernel_rfl) (fun _=>X37) h5
 exact⟨⟨a,b,c,e,f⟩,rfl,hf⟩
theorem Yb2 {d:D}(h:Fx 71 d):∃y:RRef,d=y.enc:=by
 obtain⟨_,rfl,x1,_,rfl,h1,x2,_,rfl,h2,x3,_,rfl,h3,x4,_,rfl,h4,rfl⟩:=h.st Tryz.underlying71
 obtain⟨a,rfl⟩:=Yu h1
 obtain⟨b,rfl⟩:=Yu h2
 obtain⟨c,rfl⟩:=X8 h3
 obtain⟨e,rfl⟩:=X8 h4
 exact⟨⟨a,b,c,e⟩,rfl⟩
theorem Xms {d:D}(h:Fx 115 d):∃y:RPurpose,d=y.enc/\y.may.length<=9223372036854775807:=by
 obtain⟨_,rfl,x1,_,rfl,h1,x2,_,rfl,h2,x3,_,rfl,h3,rfl⟩:=h.st Tryz.underlying115
 obtain⟨a,rfl⟩:=Yu h1
 obtain⟨b,rfl,hb⟩:=Wu (f:=RRef.enc) (by kernel_rfl) (sz:=4) (by kernel_rfl) (fun _=>Yb2) h2
 obtain⟨c,rfl⟩:=X8 h3
 exact⟨⟨a,b,c⟩,rfl,hb⟩
theorem X4a {d:D}(h:Fx 197 d):∃y:RUnit,d=y.enc:=by
 obtain⟨_,rfl,x1,_,rfl,h1,x2,_,rfl,h2,x3,_,rfl,h3,x4,_,rfl,h4,x5,_,rfl,h5,rfl⟩:=h.st Tryz.underlying197
 obtain⟨a,rfl⟩:=Yu h1
 obtain⟨b,rfl⟩:=Yu h2
 obtain⟨c,rfl⟩:=X8 h3
 obtain⟨e,rfl⟩:=X8 h4
 obtain⟨f,rfl⟩:=X8 h5
 exact⟨⟨a,b,c,e,f⟩,rfl⟩
theorem X39 {d:D}(h:Fx 145 d):∃y:RType,d=y.enc/\y.names.length<=9223372036854775807:=by
 obtain⟨_,rfl,x1,_,rfl,h1,x2,_,rfl,h2,x3,_,rfl,h3,x4,_,rfl,h4,x5,_,rfl,h5,x6,_,rfl,h6,rfl⟩:=h.st Tryz.underlying145
 obtain⟨a,rfl⟩:=X8 h1
 obtain⟨b,rfl⟩:=X8 h2
 obtain⟨c,rfl⟩:=X8 h3
 obtain⟨e,rfl⟩:=Yu h4
 obtain⟨f,rfl⟩:=X8 h5
 obtain⟨g,rfl,hg⟩:=Xg0 h6
 exact⟨⟨a,b,c,e,f,g⟩,rfl,hg⟩
theorem Xw9 {d:D}(h:Fx 148 d):∃y:RField,d=y.enc/\y.type.names.length<=9223372036854775807:=by
 obtain⟨_,rfl,x1,_,rfl,h1,x2,_,rfl,h2,x3,_,rfl,h3,rfl⟩:=h.st Tryz.underlying148
 obtain⟨a,rfl⟩:=Yu h1
 obtain⟨b,rfl,hb⟩:=X39 h2
 obtain⟨xs,rfl,hl,hx⟩:=h3.ar (e:=3) (m:=4) (by kernel_rfl)
 match xs,hl,hx with
 | [w,x,y,z],_,hx=>
  obtain⟨w,rfl⟩:=X8 (hx w (by simp))
  obtain⟨x,rfl⟩:=X8 (hx x (by simp))
  obtain⟨y,rfl⟩:=X8 (hx y (by simp))
  obtain⟨z,rfl⟩:=X8 (hx z (by simp))
  exact⟨⟨a,b,w,x,y,z⟩,rfl,hb⟩
theorem Xtn {d:D}(h:Fx 286 d):∃y:RDepend,d=y.enc/\y.small:=by
 obtain⟨_,rfl,x1,_,rfl,h1,x2,_,rfl,h2,x3,_,rfl,h3,x4,_,rfl,h4,rfl⟩:=h.st Tryz.underlying286
 obtain⟨a,rfl,ha⟩:=Xg0 h1
 obtain⟨b,rfl⟩:=Yu h2
 obtain⟨c,rfl,hc⟩:=Xrs h3
 obtain⟨e,rfl⟩:=X8 h4
 exact⟨⟨a,b,c,e⟩,rfl,ha,hc⟩
theorem Xto {d:D}(h:Fx 67 d):∃y:RSchema,d=y.enc/\y.small:=by
 obtain⟨_,rfl,x1,_,rfl,h1,x2,_,rfl,h2,x3,_,rfl,h3,x4,_,rfl,h4,x5,_,rfl,h5,x6,_,rfl,h6,rfl⟩:=h.st Tryz.underlying67
 obtain⟨a,rfl⟩:=Yu h1
 obtain⟨b,rfl⟩:=Yu h2
 obtain⟨c,rfl⟩:=X8 h3
 obtain⟨e,rfl⟩:=X8 h4
 obtain⟨f,rfl,hf,pf⟩:=Uy (f:=RField.enc) (by kernel_rfl) (sz:=11) (by kernel_rfl) (fun _=>Xw9) h5
 obtain⟨g,rfl,hg,pg⟩:=Uy (f:=RDepend.enc) (by kernel_rfl) (sz:=4) (by kernel_rfl) (fun _=>Xtn) h6
 exact⟨⟨a,b,c,e,f,g⟩,rfl,hf,hg,pf,pg⟩
theorem Xtp {d:D}(h:Fx 29 d):∃y:RSrc,d=y.enc/\y.small:=by
 obtain⟨_,rfl,x1,_,rfl,h1,x2,_,rfl,h2,x3,_,rfl,h3,x4,_,rfl,h4,x5,_,rfl,h5,x6,_,rfl,h6,rfl⟩:=h.st Tryz.underlying29
 obtain⟨a,rfl,ha⟩:=Xg0 h1
 obtain⟨b,rfl,hb⟩:=Wu (f:=RUnit.enc) (by kernel_rfl) (sz:=5) (by kernel_rfl) (fun _=>X4a) h2
 obtain⟨c,rfl,hc,pc⟩:=Uy (f:=RSchema.enc) (by kernel_rfl) (sz:=6) (by kernel_rfl) (fun _=>Xto) h3
 obtain⟨e,rfl,he,pe⟩:=Uy (f:=RRule.enc) (by kernel_rfl) (sz:=5) (by kernel_rfl) (fun _=>X38) h4
 obtain⟨f,rfl,hf,pf⟩:=Uy (f:=RConvert.enc) (by kernel_rfl) (sz:=5) (by kernel_rfl) (fun _=>Xmr) h5
 obtain⟨g,rfl,hg,pg⟩:=Uy (f:=RPurpose.enc) (by kernel_rfl) (sz:=3) (by kernel_rfl) (fun _=>Xms) h6
 exact⟨⟨a,b,c,e,f,g⟩,rfl,ha,hb,hc,he,hf,hg,pc,pe,pf,pg⟩
theorem fit_tab {d:D}(h:Fx 32 d):∃y:RTab,d=y.enc/\y.src.small/\y.order.length<=9223372036854775807:=by
 obtain⟨_,rfl,x1,_,rfl,h1,x2,_,rfl,h2,rfl⟩:=h.st Tryz.underlying32
 obtain⟨a,rfl,ha⟩:=Xtp h1
 obtain⟨b,rfl,hb⟩:=Xrs h2
 exact⟨⟨a,b⟩,rfl,ha,hb⟩
abbrev srcTs:List TypeId:=[9,3,22,30,146,38,288,40,290,158,292,161,71,115,197,145,148,286,67,29,
 155,68,156,159,113,23,64,65,24,25,26,27,4,32,63,42,44,35,36]
theorem src_lay:srcTs.all (X4w Tryz.prog srcTs)=true:=by kernel_rfl
end Go.Proofs.YtmapdjjigmkbfaaGreatDoor
namespace Go.Proofs.YtmapdjjigmkbfaaGreatDoor
open Go Go.Ab Go.Lx Go.Sx Go.ChangeShapes Go.WideShapes Go.RowKit Go.ChangeMaps
theorem questionsParseSpec_lifted (os:Os)(started:os.Started)(H:Type)(enc:TypeId×Value->H) :
  ReturnsInHanded {} Tryz.checked os 3 .any (fun w args=>(Rows.questionsParseSpecSpec.pre enc Tryz.prog Tryz.f3 [] false w args/\laidMetH Tryz.prog laidL w)/\sizedMet enc Tryz.prog Tryz.f3 (OpenSpec.ofChange Rows.questionsParseSpecSpec) false w args)
   (Rows.questionsParseSpecSpec.post enc Tryz.prog Tryz.f3 false true false false):=by
 refine returnsInHanded_of_change_and (C:=Tryz.checked) (X:=fun w _=>laidMetH Tryz.prog laidL w) (fun _ _ _ hh h=>h.of_heap hh) own_knob started (by kernel_rfl) Tryz.func3
  (ChangeSpec.witness_at (enc:=enc) (C:=Tryz.checked) (os:=os) (X:=fun w _=>laidMetH Tryz.prog laidL w) false (laidWorld os) #[.agg #[.slice none 0 0,.slice none 0 0,.slice none 0 0,.slice none 0 0,.slice none 0 0,.slice none 0 0,.slice none 0 0],.string ⟨#[]⟩] 8 rfl (by kernel_rfl) (by kernel_rfl) (by kernel_rfl) (by kernel_rfl) (by kernel_rfl) (laid_met os _)) ?_
 intro W base args ds gs before hval0 hW _ _ hL _
 have hval:∀(j:Nat) t v,Tryz.f3.params[j]? = some t->args[j]? = some v->Value.okWide Tryz.prog W .any base t v:=hval0
 have hW':=hW
 obtain⟨p,q,hA0,hV0,rfl,hfz,hnd⟩:=hW
 have hA:DataW.TrodAll enc Tryz.prog W 0 (fun _=>true) true Tryz.f3.params.toList args.toList ds p:=hA0
 have hV:DataW.TrodVars enc Tryz.prog W (fun _=>true) [] gs q:=hV0
 rw[Tryz.params3]at hA hval
 obtain⟨v0,v1,d0,d1,p0,p1,rfl,rfl,rfl,h0,h1⟩:=trodAll_two hA
 obtain⟨cs0,rfl⟩:∃cs,v0=.agg cs:=by
  have hv:=hval 0 32 v0 rfl rfl
  unfold Value.okWide at hv
  rw[Tryz.underlying32]at hv
  obtain⟨cs,h,_⟩:=hv
  exact⟨cs,h⟩
 obtain⟨s1,rfl,rfl,rfl,hs1⟩:=open_string Tryz.underlying9 (hval 1 9 v1 rfl rfl) h1
 obtain⟨x0,f0,r0⟩:=open_arg (ow:=own (envOf W)) (not_own W) srcTs src_lay (t:=32) (by decide) h0
 obtain⟨y0,rfl,hy0,ho0⟩:=fit_tab f0
 have hlt:=hA.lt
 obtain⟨rfl,rfl⟩:gs=[]/\q=[]:=by
  cases gs with
  | nil=>exact⟨rfl,hV⟩
  | cons g r=>exact absurd hV (by intro h; cases h)
 have e1:Rows.questionsParseSpecSpec.fn H ([d0,.lit (.string s1.data.toList)]++[])={ results:=[.lit (.bool true)],args:=[d0,.lit (.string s1.data.toList)] }:=by simp[Rows.questionsParseSpecSpec]
 refine (law_run (f:=3) (vs:=[.d y0.enc,.d (.str s1.data.toList)]) (args:=[.agg cs0,.string s1]) hL (fun hP hK hG=>p_QuestionsParseSpec hP (fun h=>c_sane hP hK hG h) hG hy0 ho0 _ rfl) ?_).mono fun e W' ⟨he,hb⟩=>?_
 ·have rep_of_str:∀{s:ByteArray},(V.d (.str s.data.toList)).rep W (envOf W) (.string s):=fun {s}=>by simp[V.rep,V.isAgg,V.repC,D.rep]
  exact⟨_,_,rfl,.inr (.inl ⟨rfl,cs0.toList,by simp,r0⟩),⟨_,_,rfl,rep_of_str,rfl⟩⟩
 ·subst he
  refine⟨_,rfl,_,_,_,[],p0++[],[],hW',?_,?_,?_,hb.frame _,fun h=>by cases h⟩
  ·rw[e1]; exact trodAll_mk1 (shut_bool Tryz.underlying4 true)
  ·rw[e1]
   exact trodAll_mk2 (Below.trod laid_out (by kernel_rfl) (of_decide_eq_true (by kernel_rfl)) h0 hb (fun x hx=>hlt x (by simp[hx]))) (shut_string Tryz.underlying9 hs1)
  ·rw[e1]; rfl
theorem questionsParseSpec_row:Rows.QuestionsParseSpecSaid:=
 OpenClaim.holds_of_wide 3 Tryz.f3 rfl rfl rfl rfl rfl rfl rfl ⟨rfl,rfl,rfl,rfl,rfl⟩ rfl rfl rfl rfl rfl (by kernel_rfl) Tryz.func3 (by kernel_rfl)
  (of_decide_eq_true (by kernel_rfl)) (by unfold Func.isWrapper; rw[if_neg (of_decide_eq_false (by kernel_rfl))]; exact⟨rfl,rfl⟩)
  (fun os started H enc _=>questionsParseSpec_lifted os started H enc)
theorem questionsParseSpec_holds:Rows.QuestionsParseSpecCardSaid:=
 Claim7.holds_tied_plain_at .later [] [.data,.data,.data,.data] true (true, "bd053126c3707e8e365de890536bac7f2d6155c4efd319259b8fe18b41d16bca") true
  questionsParseSpec_row (fun _ h=>by cases h) (by kernel_rfl) (fun _ h=>by cases h) questionsParseSpec_row_tie rfl ⟨rfl,rfl⟩ (by kernel_rfl) rfl
  (fun f fn hf hfn=>by
   obtain rfl:f=3:=Option.some.inj ((show Tryz.prog.funcNamed "testamur/testamurlaw21.QuestionsParseSpec" = some 3 by kernel_rfl).symm.trans hf) |>.symm
   obtain rfl:fn=Tryz.f3:=(Option.some.inj (Tryz.func3.symm.trans hfn)).symm
   exact⟨by kernel_rfl,fun j t ht=>by
    rw[Tryz.params3]at ht
    rcases j with _ | _ | j
    ·obtain rfl:t=32:=by simpa using ht.symm
     exact (show Tryz.prog.wantsStandIn 32=false by kernel_rfl)
    ·obtain rfl:t=9:=by simpa using ht.symm
     exact (show Tryz.prog.wantsStandIn 9=false by kernel_rfl)
    ·simp at ht⟩)
  (by kernel_rfl)
end Go.Proofs.YtmapdjjigmkbfaaGreatDoor
