/- Texts of this claim joined by a program, part 9 of 20; the last is: Calls that are computed once, and what the evaluator makes of them. Over the seat's program; no condition. -/
import Derived.Test.YtolkimpelpnpbaaGreatDoorP4
import Derived.Test.YtolkimpelpnpbaaGreatDoorP5
import Derived.Test.YtolkimpelpnpbaaGreatDoorP6
import Derived.Test.YtolkimpelpnpbaaGreatDoorP7
import Derived.Test.YtolkimpelpnpbaaGreatDoorP8
import Derived.Test.YtolkimpelpnpbaaGreatDoorProg
import Derived.KernelRfl
set_option maxRecDepth 100000
set_option linter.unusedSimpArgs false
set_option linter.unusedVariables false
set_option linter.unusedSectionVars false
set_option linter.defProp false
namespace Go.Ab
open Go

theorem Ybd {p:Program}{f n:Nat}{s:S}{rs:List RV}(h:Xi p f n s rs=true):Uv p f n s rs=true:=by
 simp only[Xi,Uai]at h;exact h.1
inductive FI where
 | pl (s:S) (rs:List RV) (n:Nat)
 | df (s:FSt) (rs:List RV) (n:Nat)
 | rc (its:List It) (keep:List Nat) (k:Nat) (s:S) (n:Nat)
  | kp (s:S) (rs:List RV) (n:Nat)
  | pr (s:S) (rs:List RV) (n:Nat)
  | br (s:S) (rs:List RV) (n:Nat)
def FI.ok (p:Program)(f:Nat):FI->Bool
 | .pl s rs n=>Xi p f n s rs
 | .kp s rs n=>Xi p f n s rs
 | .pr s rs n=>Uv p f n s rs
 | .br s rs n=>Uv p f n s rs
 | .df s rs n=>Xkv p f n s rs
 | .rc its _ k s n=>Xkg p f n k its s
def FSt.noR:FSt->Bool
 | .pre s r=>s.noR&&r.noR
 | .dfr _ _ _ s=>s.noR
def FSt.loops (P:Prg):FSt->Prop
 | .pre s r=>s.loops P/\r.loops P
 | .dfr _ _ _ s=>s.loops P
theorem FSt.loops_noR {P:Prg}:∀s:FSt,s.noR=true->s.loops P
 | .pre s r,h=>by simp only[FSt.noR,Uai]at h; exact⟨S.loops_noR s h.1,FSt.loops_noR r h.2⟩
 | .dfr _ _ _ s,h=>S.loops_noR s h
def FI.nr:FI->Bool
 | .pl s _ _ | .kp s _ _ | .pr s _ _ | .br s _ _=>s.noR
 | .df s _ _=>s.noR
 | .rc _ _ _ s _=>s.noR
def FI.lps (P:Prg):FI->Prop
 | .pl s _ _ | .kp s _ _ | .pr s _ _ | .br s _ _=>s.loops P
 | .df s _ _=>s.loops P
 | .rc _ _ _ s _=>s.loops P
theorem FI.lps_nr {P:Prg}(x:FI)(h:x.nr=true):x.lps P:=by
 cases x<;>first | exact S.loops_noR _ h | exact FSt.loops_noR _ h
abbrev FT:=List (Nat×FI)
def Jj:FT->Nat->Option FI
 | [],_=>none
 | (j,x)::r,k=>bif Nat.beq j k then some x else Jj r k
def FT.lps (P:Prg)(F:FT):Prop:=∀f x,Jj F f=some x->x.lps P
theorem Rdw {P:Prg}:FT.lps P []:=fun f x h=>by cases h
theorem Rdx {P:Prg}{f:Nat}{x:FI}{F:FT}(h:x.lps P)(hF:FT.lps P F):FT.lps P ((f,x)::F):=fun g y hg=>by
 simp only[Jj]at hg;rw[Ucx]at hg;split at hg
 ·cases hg; exact h
 ·exact hF g y hg
theorem FT.lps_nr {P:Prg}:∀(F:FT),F.all (fun e=>e.2.nr)=true->FT.lps P F
 | [],_=>Rdw
 | (f,x)::r,h=>by
  simp only[List.all_cons,Uai]at h;exact Rdx (x.lps_nr h.1) (FT.lps_nr r h.2)
def FT.ok (p:Program)(F:FT):Prop:=∀f x,Jj F f=some x->FI.ok p f x=true/\Xm p f=true
theorem Rdy {p:Program}:FT.ok p []:=fun f x h=>by cases h
theorem Rdz {p:Program}{f:Nat}{x:FI}{F:FT}(h:FI.ok p f x=true)(hc:Xm p f=true)(hF:FT.ok p F):FT.ok p ((f,x)::F):=fun g y hg=>by
 simp only[Jj]at hg;rw[Ucx]at hg;split at hg
 ·rename_i e;cases hg;have e:f=g:=Uaj e;subst e;exact⟨h,hc⟩
 ·exact hF g y hg

def RV.run (sl:Xf)(ob:Xb):RV->Option V
 | .t k=>some (look sl k)
 | .c k n ag=>ldR ob n ag (look sl k)
def Yla (sl:Xf)(ob:Xb):List RV->Option (List V)
 | []=>some []
 | x::r=>match x.run sl ob with
  | some v=>(Yla sl ob r).map (v::·)
  | none=>none
def X0x:List V->Xb->List V×Xb
 | [],ob=>([],ob)
 | v::r,ob=>match V.giv ob v with
  | some (d,ob')=>let p:=X0x r ob'; (.d d::p.1,p.2)
  | none=>let p:=X0x r ob; (v::p.1,p.2)
def Xbz (n:Nat)(vs:List V)(ob:Xb):Option Xb:=
 let kp:=Rdu vs++X0y ob
 bif !Rb8 (Xc n kp) vs&&Xh (Xc n kp) (Y2 (Xc n kp) ob) then some (Y2 (Xc n kp) ob) else none
def Ylz (n:Nat)(rs:List RV)(sl:Xf)(ob:Xb):Option (Out×Xb):=match Yla sl ob rs with
 | some vs=>(Xbz n (X0x vs ob).1 (X0x vs ob).2).map fun b=>(.ret (Ws (X0x vs ob).1),b)
 | none=>none
def X0z (n:Nat):Xb->List Nat
 | []=>[]
 | (j,x)::r=>bif decide (j<n) then X0y [(j,x)]++X0z n r else X0z n r
def Yf5 (kp:List Nat):Xb->List Nat
 | []=>[]
 | (j,x)::r=>bif kp.contains j then X0y [(j,x)]++Yf5 kp r else Yf5 kp r
def Ya8 (ob:Xb):Nat->List Nat->List Nat
 | 0,kp=>kp
 | k+1,kp=>Ya8 ob k (kp++Yf5 kp ob)
def X1m (n:Nat)(vs:List V)(ob:Xb):Option Xb:=
 let kp:=Ya8 ob 3 (Rdu vs++X0z n ob)
 bif !Rb8 (Xc n kp) vs&&Xh (Xc n kp) (Y2 (Xc n kp) ob) then some (Y2 (Xc n kp) ob) else none
def Yzd (n:Nat)(rs:List RV)(sl:Xf)(ob:Xb):Option (Out×Xb):=match Yla sl ob rs with
 | some vs=>(X1m n (X0x vs ob).1 (X0x vs ob).2).map fun b=>(.ret (Ws (X0x vs ob).1),b)
 | none=>none
def Xyu (n:Nat)(rs:List RV):Rs->Option (Out×Xb)
 | some (.normal,sl,ob)=>Yzd n rs sl ob
 | some (.ret,sl,ob)=>Yzd n rs sl ob
 | _=>none
def Ye9 (n:Nat)(rs:List RV):Rs->Option (Out×Xb)
 | some (.normal,sl,ob)=>Ylz n rs sl ob
 | some (.ret,sl,ob)=>Ylz n rs sl ob
 | some (.panic v,_,ob)=>(Xbz n [v] ob).map fun b=>(.panic v,b)
 | _=>none
def Xyw (n:Nat)(rs:List RV):Rs->Option (Out×Xb)
 | some (.normal,sl,ob)=>Ylz n rs sl ob
 | some (.ret,sl,ob)=>Ylz n rs sl ob
 | _=>none
def X98 (n:Nat)(rs:List RV)(sl:Xf)(ob:Xb):Option (Out×Xb):=match Yla sl ob rs with
 | some vs=>(Xbz n vs ob).map fun b=>(.ret (Ws vs),b)
 | none=>none
def Xyv (n:Nat)(rs:List RV):Rs->Option (Out×Xb)
 | some (.normal,sl,ob)=>X98 n rs sl ob
 | some (.ret,sl,ob)=>X98 n rs sl ob
 | some (.panic v,_,ob)=>(Xbz n [v] ob).map fun b=>(.panic v,b)
 | _=>none
def Xk1 (rs:List RV)(sl:Xf)(ob:Xb):Option V:=match Yla sl ob rs with
 | some vs=>(Rbv ob vs).map fun p=>Ws (p.1.map .d)
 | none=>none
def Xmc (rs:List RV):Rs->Option V
 | some (.normal,sl,ob)=>Xk1 rs sl ob
 | some (.ret,sl,ob)=>Xk1 rs sl ob
 | _=>none

def Ymz (R:Fns)(L:Nat)(F:FT)(g:Nat)(vs:List V)(ob:Xb)(rv:Option V):Option Xb:=match Jj F g with
 | some (.rc its keep k s n)=>bif Nat.beq n vs.length then
   (match Yab R its ((k,rv.getD (.d .nili))::Ua 0 vs) ob with
    | .ok sl ob'=>(match s.run R L (Xk sl keep) ob' with
     | some (.normal,_,ob2)=>Xbz (Xa ob) [] ob2
     | some (.ret,_,ob2)=>Xbz (Xa ob) [] ob2
     | _=>none)
    | _=>none)
  else none
 | _=>none
def V.isIfc:V->Bool
 | .iface _ _=>true
 | .d (.iface _ _)=>true
 | _=>false
def Yfj (R:Fns)(L:Nat)(F:FT)(g:Nat)(cl:List V)(rs:List RV):Rs->Option V
 | some (.normal,sl,ob)=>(Ymz R L F g cl ob none).bind fun ob'=>Xk1 rs sl ob'
 | some (.ret,sl,ob)=>(Ymz R L F g cl ob none).bind fun ob'=>Xk1 rs sl ob'
 | some (.panic v,sl,ob)=>bif v.isIfc then (Ymz R L F g cl ob (some v)).bind fun ob'=>Xk1 rs sl ob' else none
 | _=>none
def Yni (R:Fns)(L:Nat)(F:FT)(rs:List RV):FSt->Xf->Xb->Option V
 | .pre s r,sl,ob=>match s.run R L sl ob with
  | some (.normal,sl',ob')=>Yni R L F rs r sl' ob'
  | some (.ret,sl',ob')=>Xk1 rs sl' ob'
  | _=>none
 | .dfr its keep k s,sl,ob=>match Yab R its sl ob with
  | .ok sl' ob'=>(match look (Xk sl' keep) k with
   | .fn g fi ca=>bif R.ca g then Yfj R L F g (fi++ca) rs (s.run R L (Xk sl' keep) ob') else none
   | _=>none)
  | _=>none

def pcD (R:Fns)(L:Nat)(F:FT)(f:Nat)(ds:List D):Option V:=match Jj F f with
 | some (.pl s rs n)=>bif Nat.beq n ds.length then Xmc rs (s.run R L (Ua 0 (ds.map .d)) []) else none
 | some (.pr s rs n)=>bif Nat.beq n ds.length then Xmc rs (s.run R L (Ua 0 (ds.map .d)) []) else none
 | some (.br s rs n)=>bif Nat.beq n ds.length then Ymg V.eqb (Xmc rs) (s.runM R L (Ua 0 (ds.map .d)) []) else none
 | some (.df s rs n)=>bif Nat.beq n ds.length then Yni R L F rs s (Ua 0 (ds.map .d)) [] else none
 | _=>none
def Ynj (o:Option V):Option V:=match o with
 | some v=>bif v.flatR then some v else none
 | none=>none
def pcX (X R:Fns)(L:Nat)(F:FT)(f:Nat)(ds:List D)(ob:Xb):Option V:=match X.pc f (ds.map .d) ob with
 | some v=>some v
 | none=>pcD R L F f ds
def pcR (X R:Fns)(L:Nat)(F:FT)(f:Nat)(vs:List V)(ob:Xb):Option V:=match Ra5 vs with
 | some ds=>pcX X R L F f ds ob
 | none=>match Rcr ob 12 vs with
  | some ds=>Ynj (pcX X R L F f ds [])
  | none=>none
def acR (R:Fns)(L:Nat)(F:FT)(f:Nat)(vs:List V)(ob:Xb):Option (Out×Xb):=match Jj F f with
 | some (.pl s rs n)=>bif Nat.beq n vs.length then Ye9 (Xa ob) rs (s.run R L (Ua 0 vs) ob) else none
 | some (.kp s rs n)=>bif Nat.beq n vs.length then Xyv (Xa ob) rs (s.run R L (Ua 0 vs) ob) else none
 | some (.pr s rs n)=>bif Nat.beq n vs.length then Xyw (Xa ob) rs (s.run R L (Ua 0 vs) ob) else none
 | some (.br s rs n)=>bif Nat.beq n vs.length then Ymg Y1t (Xyu (Xa ob) rs) (s.runM R L (Ua 0 vs) ob) else none
 | some (.df _ _ _)=>match Ra5 vs with
  | some ds=>(pcD R L F f ds).map fun v=>(.ret v,ob)
  | none=>none
 | _=>none
def fns (L:Nat)(F:FT)(X:Fns):Nat->Fns
 | 0=>X
 | n+1=>⟨fun f vs ob=>match X.call f vs ob with
   | some r=>some r
   | none=>acR (fns L F X n) L F f vs ob,
  fun f vs ob=>pcR X (fns L F X n) L F f vs ob,
  fun f=>(Jj F f).isSome||X.ca f,X.gl,fun id vs ob=>ydR (fns L F X n) L X.lt id vs ob,X.lt,X.xc⟩

section
variable {P:Prg} {R:Fns} {L:Nat} {F:FT}
theorem V8 {sl:Xf}{ob:Xb}:∀(rs:List RV) (K:List V->Prop) (vs:List V),Yla sl ob rs=some vs->K vs->Vg sl ob rs K
 | [],K,vs,h,hK=>by cases h; exact hK
 | x::r,K,vs,h,hK=>by
  simp only[Yla]at h;split at h
  ·rename_i v hv;rw[Ubr]at h;obtain⟨l,hl,rfl⟩:=h;simp only[Vg];have hr:=V8 r (fun vs=>K (v::vs)) l hl hK;cases x with
   | t k=>simp only[RV.run,Uaq]at hv; subst hv; exact hr
   | c k n ag=>
    simp only[RV.run]at hv;simp only[RV.wp];have h0:(C.ld n ag (.t 0)).run [(0,look sl k)] ob=some v:=by simpa[C.run,X1i,X0v,A.ev,look]using hv
    have h1:=C.run_sound (K:=fun v=>Vg sl ob r fun vs=>K (v::vs)) h0 hr;simpa[C.wp,A.ev,look]using h1
  ·cases h
theorem Ql:∀(vs:List V) (ob:Xb) (K:List V->Xb->Prop),K (X0x vs ob).1 (X0x vs ob).2->Xe1 vs ob K
 | [],ob,K,h=>h
 | v::r,ob,K,h=>by
  simp only[X0x]at h;simp only[Xe1];split at h
  ·rename_i d ob' e;rw[e];exact Ql r ob' _ h
  ·rename_i e;rw[e];exact Ql r ob _ h
theorem Zs {n:Nat}{vs:List V}{ob b:Xb}{K:Xb->Prop}(h:Xbz n vs ob=some b)(hK:K b):X8 n K vs ob:=by
 unfold Xbz at h;rw[Ucx]at h;split at h
 ·rename_i hc;simp only[Uai,Ubq]at hc;cases h;exact⟨_,hc.1,hc.2,hK⟩
 ·cases h
theorem Qr {n:Nat}{rs:List RV}{sl:Xf}{ob b:Xb}{o:Out}{K:Out->Xb->Prop}(h:Ylz n rs sl ob=some (o,b))(hK:K o b):Vg sl ob rs fun vs=>Xe1 vs ob fun vs ob=>X8 n (K (.ret (Ws vs))) vs ob:=by
 unfold Ylz at h;split at h
 ·rename_i vs hv;rw[Ubr]at h;obtain⟨b',hb,e⟩:=h;cases e;exact V8 rs _ vs hv (Ql vs ob _ (Zs hb hK))
 ·cases h
theorem Xnd {n:Nat}{rs:List RV}{r:Rs}{o:Out}{b:Xb}{K:Out->Xb->Prop}(h:Ye9 n rs r=some (o,b))(hK:K o b):r.to (Vs n rs K):=by
 unfold Ye9 at h;split at h
 ·exact Qr h hK
 ·exact Qr h hK
 ·rw[Ubr]at h;obtain⟨b',hb,e⟩:=h;cases e;exact Zs hb hK
 ·cases h
theorem Xkb {n:Nat}{rs:List RV}{r:Rs}{o:Out}{b:Xb}{K:Out->Xb->Prop}(h:Xyw n rs r=some (o,b))(hK:K o b):r.to (Xyt n rs K):=by
 unfold Xyw at h;split at h
 ·exact Qr h hK
 ·exact Qr h hK
 ·cases h
theorem Xll {n:Nat}{vs:List V}{ob b:Xb}{K:Xb->Prop}(h:X1m n vs ob=some b)(hK:K b):X8 n K vs ob:=by
 unfold X1m at h;rw[Ucx]at h;split at h
 ·rename_i hc;simp only[Uai,Ubq]at hc;cases h;exact⟨_,hc.1,hc.2,hK⟩
 ·cases h
theorem Xgd {n:Nat}{rs:List RV}{sl:Xf}{ob b:Xb}{o:Out}{K:Out->Xb->Prop}(h:Yzd n rs sl ob=some (o,b))(hK:K o b):Vg sl ob rs fun vs=>Xe1 vs ob fun vs ob=>X8 n (K (.ret (Ws vs))) vs ob:=by
 unfold Yzd at h;split at h
 ·rename_i vs hv;rw[Ubr]at h;obtain⟨b',hb,e⟩:=h;cases e;exact V8 rs _ vs hv (Ql vs ob _ (Xll hb hK))
 ·cases h
theorem Xj9 {n:Nat}{rs:List RV}{r:Rs}{o:Out}{b:Xb}{K:Out->Xb->Prop}(h:Xyu n rs r=some (o,b))(hK:K o b):r.to (Xyt n rs K):=by
 unfold Xyu at h;split at h
 ·exact Xgd h hK
 ·exact Xgd h hK
 ·cases h
theorem Xej {n:Nat}{rs:List RV}{sl:Xf}{ob b:Xb}{o:Out}{K:Out->Xb->Prop}(h:X98 n rs sl ob=some (o,b))(hK:K o b):Vg sl ob rs fun vs=>X8 n (K (.ret (Ws vs))) vs ob:=by
 unfold X98 at h;split at h
 ·rename_i vs hv;rw[Ubr]at h;obtain⟨b',hb,e⟩:=h;cases e;exact V8 rs _ vs hv (Zs hb hK)
 ·cases h
theorem Xka {n:Nat}{rs:List RV}{r:Rs}{o:Out}{b:Xb}{K:Out->Xb->Prop}(h:Xyv n rs r=some (o,b))(hK:K o b):r.to (Xgx n rs K):=by
 unfold Xyv at h;split at h
 ·exact Xej h hK
 ·exact Xej h hK
 ·rw[Ubr]at h;obtain⟨b',hb,e⟩:=h;cases e;exact Zs hb hK
 ·cases h
theorem Wa {rs:List RV}{sl:Xf}{ob:Xb}{v:V}{K:V->Prop}(h:Xk1 rs sl ob=some v)(hK:K v):Vg sl ob rs fun vs=>Vj (fun l _=>K (Ws (l.map .d))) (Rbv ob vs):=by
 unfold Xk1 at h;split at h
 ·rename_i vs hv;rw[Ubr]at h;obtain⟨p,hp,rfl⟩:=h;refine V8 rs _ vs hv ?_;rw[hp]; exact hK
 ·cases h
theorem Jm {rs:List RV}{r:Rs}{v:V}{K:V->Prop}(h:Xmc rs r=some v)(hK:K v):r.to (Ux rs K):=by
 unfold Xmc at h;split at h
 ·exact Wa h hK
 ·exact Wa h hK
 ·cases h
variable (hm:P.p.follows .mixedOrders=true) (hF:FT.ok P.p F) (hLp:FT.lps P F) (hR:R.ok P)
include hm hF hLp hR
theorem Xba {g:Nat}{vs:List V}{ob b:Xb}{rv:Option V}{K:Xb->Prop}(h:Ymz R L F g vs ob rv=some b)(hK:K b):DCall P g vs ob rv K:=by
 unfold Ymz at h;split at h
 ·rename_i its keep k s n hl;rw[Ucx]at h;split at h
  ·rename_i e;have e:n=vs.length:=Uaj e;subst e;have hok:=(hF g _ hl).1;simp only[FI.ok]at hok;refine Xfm (keep:=keep) hm hok (Wg hR _ _ _ ?_);split at h
   ·rename_i sl ob' e1;rw[e1];refine S.run_sound (L:=L) hR s _ _ _ (hLp g _ hl) ?_;split at h
    ·rename_i e2; rw[e2]; exact Zs h hK
    ·rename_i e2; rw[e2]; exact Zs h hK
    ·cases h
   ·cases h
  ·cases h
 ·cases h
theorem Xnj {g:Nat}{cl:List V}{rs:List RV}{r:Rs}{v:V}{K:V->Prop}(h:Yfj R L F g cl rs r=some v)(hK:K v):r.to (Xg3 P g cl rs K):=by
 unfold Yfj at h;split at h
 ·rw[Ucw]at h;obtain⟨b,h1,h2⟩:=h;exact Xba hm hF hLp hR h1 (Wa h2 hK)
 ·rw[Ucw]at h;obtain⟨b,h1,h2⟩:=h;exact Xba hm hF hLp hR h1 (Wa h2 hK)
 ·rw[Ucx]at h;split at h
  ·rename_i hi;rw[Ucw]at h;obtain⟨b,h1,h2⟩:=h;refine⟨?_,Xba hm hF hLp hR h1 (Wa h2 hK)⟩;unfold V.isIfc at hi;split at hi
   ·exact⟨_,_,.inl rfl⟩
   ·exact⟨_,.any,.inr ⟨_,rfl⟩⟩
   ·cases hi
  ·cases h
 ·cases h
theorem Xft {rs:List RV}{K:V->Prop}:∀(s:FSt) (sl:Xf) (ob:Xb) (v:V),s.loops P->Yni R L F rs s sl ob=some v->K v->fwp P rs K s sl ob
 | .pre s r,sl,ob,v,hl,h,hK=>by
  simp only[Yni]at h;simp only[fwp];refine S.run_sound (L:=L) hR s _ _ _ hl.1 ?_;split at h
  ·rename_i e; rw[e]; exact Xft r _ _ v hl.2 h hK
  ·rename_i e; rw[e]; exact Wa h hK
  ·cases h
 | .dfr its keep k s,sl,ob,v,hl,h,hK=>by
  simp only[Yni]at h;simp only[fwp];refine Wg hR _ _ _ ?_;split at h
  ·rename_i sl' ob' e;rw[e];simp only[Rq.to];split at h
   ·rename_i g fi ca e2;rw[e2];rw[Ucx]at h;split at h
    ·rename_i hc;exact⟨hR.ca _ hc,S.run_sound (L:=L) hR s _ _ _ hl (Xnj hm hF hLp hR h hK)⟩
    ·cases h
   ·cases h
  ·cases h
theorem Xl9 {f:Nat}{ds:List D}{v:V}{ob:Xb}{K:V->Prop}(h:pcD R L F f ds=some v)(hK:K v):PCall P f (ds.map .d) ob K:=by
 unfold pcD at h;split at h
 ·rename_i s rs n hl;rw[Ucx]at h;split at h
  ·rename_i e;have e:n=ds.length:=Uaj e;subst e;exact Xf8 hm (hF f _ hl).1 (S.run_sound (L:=L) hR s _ _ _ (hLp f _ hl) (Jm h hK))
  ·cases h
 ·rename_i s rs n hl;rw[Ucx]at h;split at h
  ·rename_i e;have e:n=ds.length:=Uaj e;subst e;exact Uj hm (hF f _ hl).1 (S.run_sound (L:=L) hR s _ _ _ (hLp f _ hl) (Jm h hK))
  ·cases h
 ·rename_i s rs n hl;rw[Ucx]at h;split at h
  ·rename_i e;have e:n=ds.length:=Uaj e;subst e;exact Uj hm (hF f _ hl).1 (Rdv (L:=L) hR s _ _ _ (hLp f _ hl) (Xx9 V.eqb_eq h fun x hx=>Jm hx hK))
  ·cases h
 ·rename_i s rs n hl;rw[Ucx]at h;split at h
  ·rename_i e;have e:n=ds.length:=Uaj e;subst e;exact Xec hm (hF f _ hl).1 (Xft hm hF hLp hR s _ _ v (hLp f _ hl) h hK)
  ·cases h
 ·cases h
theorem Xma {X:Fns}(hX:X.ok P){f:Nat}{ds:List D}{v:V}{ob:Xb}{K:V->Prop}(h:pcX X R L F f ds ob=some v)(hK:K v):PCall P f (ds.map .d) ob K:=by
 unfold pcX at h;split at h
 ·rename_i r hr; cases h; exact (hX.pc _ _ _ _ hr).mono fun v' e=>by subst e; exact hK
 ·exact Xl9 hm hF hLp hR h hK
theorem X3o {X:Fns}(hX:X.ok P){f:Nat}{vs:List V}{v:V}{ob:Xb}(h:pcR X R L F f vs ob=some v):PCall P f vs ob fun v'=>v'=v:=by
 unfold pcR at h;split at h
 ·rename_i ds hd;rw[V.allD_map hd];exact Xma hm hF hLp hR hX h rfl
 ·split at h
  ·rename_i ds hd;unfold Ynj at h;split at h
   ·rename_i v' hv;rw[Ucx]at h;split at h
    ·rename_i hfl;cases h;exact Rcu hd (Xma hm hF hLp hR hX hv ⟨hfl,rfl⟩)
    ·cases h
   ·cases h
  ·cases h
theorem Xx5 {f:Nat}{vs:List V}{o:Out}{ob b:Xb}(h:acR R L F f vs ob=some (o,b)):ACall P f vs ob fun o' b'=>o'=o/\b'=b:=by
 unfold acR at h;split at h
 ·rename_i s rs n hl;rw[Ucx]at h;split at h
  ·rename_i e;have e:n=vs.length:=Uaj e;subst e;exact Xfb hm (hF f _ hl).1 (S.run_sound (L:=L) hR s _ _ _ (hLp f _ hl) (Xnd h ⟨rfl,rfl⟩))
  ·cases h
 ·rename_i s rs n hl;rw[Ucx]at h;split at h
  ·rename_i e;have e:n=vs.length:=Uaj e;subst e;exact Xc8 hm (hF f _ hl).1 (S.run_sound (L:=L) hR s _ _ _ (hLp f _ hl) (Xka h ⟨rfl,rfl⟩))
  ·cases h
 ·rename_i s rs n hl;rw[Ucx]at h;split at h
  ·rename_i e;have e:n=vs.length:=Uaj e;subst e;exact Xc9 hm (hF f _ hl).1 (S.run_sound (L:=L) hR s _ _ _ (hLp f _ hl) (Xkb h ⟨rfl,rfl⟩))
  ·cases h
 ·rename_i s rs n hl;rw[Ucx]at h;split at h
  ·rename_i e;have e:n=vs.length:=Uaj e;subst e;exact Xc9 hm (hF f _ hl).1 (Rdv (L:=L) hR s _ _ _ (hLp f _ hl) (Xx9 Yfy h fun x hx=>Xj9 hx ⟨rfl,rfl⟩))
  ·cases h
 ·split at h
  ·rename_i ds hd;rw[Ubr]at h;obtain⟨v,hv,e⟩:=h;cases e;rw[V.allD_map hd];exact Rbz (Xl9 hm hF hLp hR hv ⟨rfl,rfl⟩)
  ·cases h
 ·cases h
end
theorem Ynl {p:Program}{F:FT}(hF:FT.ok p F)(f:Nat)(h:(Jj F f).isSome=true):Xm p f=true:=by
 obtain⟨x,hx⟩:=Ua3.1 h;exact (hF f x hx).2
theorem Xdu {P:Prg}{L:Nat}{F:FT}{X:Fns}(hm:P.p.follows .mixedOrders=true)(hF:FT.ok P.p F)(hLp:FT.lps P F)(hX:X.ok P)(hlt:∀tag ps x y,X.lt tag=some (ps,x,y)->Vm P tag ps x y/\x.noR=true/\y.noR=true):∀n,(fns L F X n).ok P
 | 0=>hX
 | n+1=>by
  refine⟨fun f vs ob o b h=>?_,fun f vs ob v h=>?_,fun f h=>?_,fun g x h=>hX.gl g x h,fun id vs ob o b h=>?_,fun f vs ob v b h=>hX.xc f vs ob v b h⟩
  ·simp only[fns]at h;split at h
   ·rename_i r hr; cases h; exact hX.call _ _ _ _ _ hr
   ·exact Xx5 hm hF hLp (Xdu hm hF hLp hX hlt n) h
  ·simp only[fns]at h;exact X3o hm hF hLp (Xdu hm hF hLp hX hlt n) hX h
  ·simp only[fns,Ucd]at h;rcases h with h | h
   ·exact Ynl hF f h
   ·exact hX.ca f h
  ·simp only[fns]at h;exact X5g hm (Xdu hm hF hLp hX hlt n) hlt h
end Go.Ab
namespace Go.Proofs.YtolkimpelpnpbaaGreatDoor
open Go Go.Ab
def W2:FT:=[(74,.df Y2v [.c 2 1 false,.c 3 1 false,.c 4 1 false] 1),
 (39,.pl Y19 [.t 2] 1),
 (126,.rc Xnz X07 6 Ygs 3),
 (127,.pl Ygt [.c 0 256 true] 0),
 (128,.pl Ygu [] 1),
 (129,.pl Ygv [] 1),
 (130,.pl Ygw [] 1),
 (131,.pl Ygx [] 1),
 (132,.pl Ygy [] 1),
 (112,.pl Ygi [.t 2] 1),
 (113,.pl Ygj [.t 2] 1),
 (55,.pl Y2k [.t 2] 1),
 (208,.pl Yg2 [.t 2] 1),
 (218,.pl Yg8 [.t 4] 2),
 (219,.pl Yg9 [.t 3] 2),
 (220,.pl Yha [] 3),
 (221,.pl Yhb [.t 3] 2),
 (222,.pl Yhc [.t 4] 2),
 (223,.pl Yhd [.t 2] 1),
 (285,.pl Yhi [.t 4] 2),
 (25,.pl Y11 [.t 2] 1),
 (9,.pl ir9 [.t 4] 2),
 (48,.pl Y2d [.t 2] 1),
 (26,.pl Y12 [.t 2] 1),
 (49,.pl Y2e [.t 2,.t 3] 1),
 (125,.pl Ygr [.t 6] 3),
 (40,.pl Y2a [.t 4,.t 5] 2),
 (216,.pl Yg6 [.c 4 6 true,.t 5] 2),
 (217,.pl Yg7 [.t 6] 3),
 (71,.pl Y2s [.t 4,.t 5] 2),
 (69,.pl Y2q [.t 6,.t 7] 3),
 (72,.pl Y2t [.t 4] 2),
 (245,.pl Yhf [.c 6 6 true,.t 7] 3),
 (252,.pl Yhg [.t 4] 2),
 (178,.pl Yg0 [.t 4] 2),
 (231,.pl Yhe [.t 4] 2),
 (121,.pl Ygn [.t 6,.t 7] 3),
 (119,.pl Ygl [.t 4] 2),
 (120,.pl Ygm [.t 4] 3),
 (123,.pl Ygp [.c 4 4 true,.t 5] 2),
 (124,.pl Ygq [.t 2] 1),
 (213,.pl Yg3 [.t 4] 2),
 (214,.pl Yg4 [.t 4] 3),
 (215,.pl Yg5 [.t 6,.t 7] 3),
 (319,.pl Yhm [.t 4] 2),
 (320,.pl Yhn [.t 4] 2),
 (321,.pl Yho [.t 4] 2),
 (322,.pl Yhp [.t 4] 2),
 (323,.pl Yhq [.t 2] 1),
 (284,.pl Yhh [.t 6,.t 7] 3),
 (316,.pl Yhk [.t 4] 2),
 (317,.pl Yhl [.t 4] 3),
 (70,.pl Y2r [.t 2] 1),
 (122,.pl Ygo [.t 2] 1),
 (161,.pl Ygz [.t 2] 1),
 (301,.pl Yhj [.c 0 5 true] 0),
 (21,.pl Y10 [.t 4] 2),
 (41,.pl Y2b [.t 2] 1),
 (42,.pl Y2c [.t 6] 3),
 (73,.pl Y2u [.t 4] 2),
 (50,.pl Y2f [.c 2 1 false] 1),
 (106,.pl Ygd [] 3),
 (20,.pl Y1z [.t 4] 2),
 (38,.pl Y18 [.t 4] 2),
 (10,.pl Zbm [.t 4,.t 5] 2),
 (13,.pl Zbn [.t 4] 2),
 (16,.pl Y1y [.c 6 17 true,.t 7] 3),
 (18,.br Yo5 [.c 4 1 false,.c 5 1 false] 2),
 (27,.pl Y13 [.t 4] 2),
 (28,.pl Y14 [.t 2] 1),
 (31,.pl Y15 [.t 4] 2),
 (34,.pl Y16 [.c 4 17 true,.t 5] 2),
 (36,.kp Y17 [.t 2] 1),
 (51,.pl Y2g [.c 4 2 true,.t 5] 2),
 (52,.pl Y2h [.t 4] 2),
 (53,.kp Y2i [.t 2] 1),
 (54,.pl Y2j [.t 4] 2),
 (61,.pl Y2l [.t 4] 2),
 (62,.pl Y2m [.t 3] 2),
 (64,.pl Y2n [.t 4] 3),
 (65,.pl Y2o [.c 4 14 true,.t 5] 3),
 (67,.pl Zcc [] 2),
 (68,.pl Y2p [.t 8] 6),
 (107,.pl Yge [.t 2] 1),
 (108,.pl Yny [] 2),
 (109,.pl Ygf [] 2),
 (110,.pl Ygg [.t 2] 1),
 (111,.pl Ygh [.t 4] 2),
 (118,.pl Ygk [.t 4] 2),
 (204,.pr Xve [.t 4] 2),
 (8,.pl ir8 [.t 0] 0),
 (44,.df Zb1 [.c 2 6 true,.c 3 1 false,.c 4 1 false] 1),
 (46,.pl Zb3 [.c 2 7 true,.t 3] 1),
 (79,.pl Zch [] 1),
 (82,.pl Zck [] 2),
 (91,.pl Zcn [] 2),
 (96,.pl Zcr [.t 2] 1),
 (98,.pl Zct [.t 2] 1),
 (100,.pl Yns [.t 2] 1),
 (147,.pl Yoh [.c 2 11 true] 1),
 (148,.pl Yoi [.t 8] 4),
 (149,.pl Yoj [.c 2 7 true] 1),
 (159,.pl Yot [.t 4,.t 5] 2),
 (160,.pl You [.t 4,.t 5] 2),
 (164,.pl Yox [.t 4] 2),
 (168,.pl Yoy [] 4),
 (190,.pl Ypg [.t 2] 1),
 (197,.pl Ypn [.t 2] 1),
 (200,.pl Ypq [.c 2 14 true] 1),
 (224,.pl Yp0 [.c 6 4 true] 3),
 (225,.pl Yp1 [.t 4] 2),
 (226,.pl Yp2 [.c 2 6 true] 1),
 (232,.pl Yp7 [.t 4] 2),
 (236,.pl Yqb [.t 4] 2),
 (241,.pl Yqg [.t 4] 2),
 (244,.pl Yqj [.t 4] 2),
 (250,.pl Yqo [.t 4] 2),
 (251,.pl Yqp [.t 3] 2),
 (255,.pl Yqs [.t 3] 2),
 (286,.pl Yrd [.t 1] 1),
 (287,.pl Yre [.t 8] 4),
 (289,.pl Yrg [.t 6] 3),
 (291,.pl Yri [.t 6] 3),
 (294,.pl Yrl [.t 4] 2),
 (298,.pl Yrp [.c 6 6 true,.t 7] 3),
 (299,.pl Yrq [.t 2] 1),
 (318,.pl Yr1 [.t 4] 2),
 (23,.pl Zbs [.c 2 7 true,.t 3,.t 4] 1),
 (24,.pl Zbt [.c 4 17 true,.t 5] 2),
 (77,.pl Zcf [] 1),
 (81,.pl Zcj [] 1),
 (83,.kp Zcl [.t 2,.t 3] 1),
 (93,.pl Zcp [] 2),
 (102,.rc X06 Ygc 7 Ynu 3),
 (103,.pl Ynv [.t 2] 1),
 (105,.pl Ynx [.c 4 17 true] 2),
 (135,.pl Yn5 [.t 2] 1),
 (136,.pl Yn6 [] 2),
 (137,.pl Yn7 [.t 6] 3),
 (139,.pl Yn9 [.c 2 4 true] 1),
 (140,.pl Yoa [.t 6] 3),
 (141,.pl Yob [.c 2 11 true] 1),
 (142,.pl Yoc [.c 2 4 true] 1),
 (143,.pl Yod [.t 8] 4),
 (144,.pl Yoe [.t 4] 2),
 (150,.pl Yok [.t 8] 4),
 (162,.pl Yov [.t 4,.t 5] 2),
 (176,.pl Yo2 [.t 2] 1),
 (177,.pl Yo3 [.t 4] 2),
 (180,.pl Yo6 [.t 4] 2),
 (184,.pl Ypa [.t 2] 1),
 (186,.pl Ypc [.t 6] 3),
 (188,.kp Ype [.c 2 2 true,.t 3] 1),
 (189,.pl Ypf [.t 2] 1),
 (192,.pl Ypi [.t 2] 1),
 (193,.pl Ypj [.c 1 14 true] 1),
 (198,.pl Ypo [.t 8] 4),
 (202,.pl Yps [.t 4] 2),
 (235,.pl Yqa [.t 6] 3),
 (249,.pl Yqn [.t 3] 2),
 (253,.pl Yqq [.t 4] 2),
 (257,.pl Yqu [.t 4] 2),
 (259,.pl Yqw [.t 4] 2),
 (262,.pl Yqy [.t 2] 1),
 (270,.pl Yq6 [] 4),
 (295,.pl Yrm [.t 4] 2),
 (297,.pl Yro [.t 4] 2),
 (303,.pl Yrt [.t 4] 2),
 (263,.pl Yqz [] 2),
 (264,.pl Yq0 [.t 2] 1),
 (265,.pl Yq1 [.t 2] 1),
 (305,.pl Yrv [] 2),
 (306,.pl Yrw [.t 6] 3),
 (342,.pl Yr3 [.t 6] 3),
 (343,.pl Yr4 [.t 2] 1),
 (344,.pl Yr5 [] 2),
 (346,.pl Yr6 [] 3),
 (76,.pl Zce [] 1),
 (78,.pl Zcg [] 1),
 (84,.rc Ybh Yr8 5 Zcm 2),
 (92,.pl Zco [] 3),
 (95,.pl Zcq [] 2),
 (99,.pl Zcu [.t 2] 1),
 (104,.kp Ynw [.c 2 18 true] 1),
 (138,.pl Yn8 [.t 4] 2),
 (145,.pl Yof [.c 2 8 true] 1),
 (151,.pl Yol [.c 2 5 true] 1),
 (152,.pl Yom [.t 8] 4),
 (154,.pl Yoo [.t 4,.t 5] 2),
 (156,.pl Yoq [.t 4,.t 5] 2),
 (157,.pl Yor [.t 2] 1),
 (174,.pl Yo0 [.t 2] 1),
 (175,.pl Yo1 [.t 3] 2),
 (179,.pl Yo4 [.t 4] 2),
 (182,.pl Yo8 [.t 4] 2),
 (185,.pl Ypb [.t 2] 1),
 (191,.pl Yph [.c 1 14 true] 1),
 (196,.pl Ypm [.c 1 14 true] 1),
 (199,.pl Ypp [.t 6] 3),
 (201,.pl Ypr [] 1),
 (203,.pl Ypt [] 2),
 (207,.pl Yg1 [.t 2] 1),
 (228,.pl Yp4 [.t 2] 2),
 (229,.pl Yp5 [.t 2,.t 3] 1),
 (234,.pl Yp9 [.t 4] 2),
 (239,.pl Yqe [.t 6] 3),
 (242,.pl Yqh [.t 2] 1),
 (248,.pl Yqm [.t 4] 2),
 (258,.pl Yqv [.t 6] 3),
 (260,.pr X08 [.t 4] 2),
 (261,.br Yqx [] 2),
 (266,.pl Yq2 [.c 2 5 true] 1),
 (290,.br Yrh [.t 4] 2),
 (292,.pl Yrj [.t 4] 2),
 (296,.pl Yrn [.t 4] 2),
 (302,.pl Yrs [.t 4] 2),
 (304,.pl Yru [.t 8] 4),
 (206,.pl Ypv [.t 2] 1),
 (278,.pl Yq7 [.t 2] 1),
 (279,.pl Yq8 [.t 2] 1),
 (12,.pl Y1x [.t 4] 2),
 (45,.df Zb2 [.c 2 6 true,.c 3 1 false] 1),
 (47,.df Zb4 [.c 4 17 true,.c 5 1 false,.c 6 1 false] 2),
 (75,.rc Ybg Yr7 6 Zcd 3),
 (80,.pl Zci [] 1),
 (97,.pl Zcs [.t 2] 1),
 (101,.pl Ynt [.t 2,.t 3,.t 4] 1),
 (133,.pl Yn3 [] 3),
 (134,.pl Yn4 [] 2),
 (146,.pl Yog [.t 8] 4),
 (153,.pl Yon [.c 2 4 true] 1),
 (155,.pl Yop [.t 2] 1),
 (158,.pl Yos [.t 4,.t 5] 2),
 (163,.pl Yow [.t 2] 1),
 (173,.pl Yoz [.t 4] 2),
 (181,.pl Yo7 [.t 4] 2),
 (183,.pl Yo9 [.t 4] 2),
 (187,.pl Ypd [.t 4] 2),
 (194,.pl Ypk [.c 1 14 true] 1),
 (195,.pl Ypl [.c 6 4 true] 3),
 (205,.pl Ypu [] 5),
 (227,.pl Yp3 [.t 4] 2),
 (230,.pl Yp6 [.c 2 5 true] 1),
 (233,.pl Yp8 [.t 6] 3),
 (237,.pl Yqc [.t 6] 3),
 (238,.pl Yqd [.t 4] 2),
 (240,.pl Yqf [.t 4] 2),
 (243,.pl Yqi [.t 2] 1),
 (246,.pl Yqk [.t 6] 3),
 (247,.pl Yql [.t 2] 1),
 (254,.pl Yqr [.t 3] 2),
 (256,.pl Yqt [.t 4] 2),
 (267,.pl Yq3 [.t 2] 1),
 (268,.pl Yq4 [.t 4] 2),
 (269,.pl Yq5 [] 2),
 (288,.pl Yrf [.t 1] 1),
 (293,.pl Yrk [.t 4] 2),
 (300,.pl Yrr [.t 4] 2)]
theorem Xi9:FT.ok Tryz.prog W2:=
 Rdz Zgt (by kernel_rfl)
 (Rdz Zf9 (by kernel_rfl)
 (Rdz Ykz (by kernel_rfl)
 (Rdz Ywm (by kernel_rfl)
 (Rdz Ywn (by kernel_rfl)
 (Rdz Ywo (by kernel_rfl)
 (Rdz Ywp (by kernel_rfl)
 (Rdz Ywq (by kernel_rfl)
 (Rdz Ywr (by kernel_rfl)
 (Rdz Ywc (by kernel_rfl)
 (Rdz Ywd (by kernel_rfl)
 (Rdz Zgj (by kernel_rfl)
 (Rdz Yww (by kernel_rfl)
 (Rdz Yw2 (by kernel_rfl)
 (Rdz Yw3 (by kernel_rfl)
 (Rdz Yw4 (by kernel_rfl)
 (Rdz Yw5 (by kernel_rfl)
 (Rdz Yw6 (by kernel_rfl)
 (Rdz Yw7 (by kernel_rfl)
 (Rdz Yxc (by kernel_rfl)
 (Rdz Zf0 (by kernel_rfl)
 (Rdz ok9 (by kernel_rfl)
 (Rdz Zgd (by kernel_rfl)
 (Rdz Zf1 (by kernel_rfl)
 (Rdz Zge (by kernel_rfl)
 (Rdz Ywl (by kernel_rfl)
 (Rdz Zga (by kernel_rfl)
 (Rdz Yw0 (by kernel_rfl)
 (Rdz Yw1 (by kernel_rfl)
 (Rdz Zgq (by kernel_rfl)
 (Rdz Zgo (by kernel_rfl)
 (Rdz Zgr (by kernel_rfl)
 (Rdz Yw9 (by kernel_rfl)
 (Rdz Yxa (by kernel_rfl)
 (Rdz Ywt (by kernel_rfl)
 (Rdz Yw8 (by kernel_rfl)
 (Rdz Ywh (by kernel_rfl)
 (Rdz Ywf (by kernel_rfl)
 (Rdz Ywg (by kernel_rfl)
 (Rdz Ywj (by kernel_rfl)
 (Rdz Ywk (by kernel_rfl)
 (Rdz Ywx (by kernel_rfl)
 (Rdz Ywy (by kernel_rfl)
 (Rdz Ywz (by kernel_rfl)
 (Rdz Yxg (by kernel_rfl)
 (Rdz Yxh (by kernel_rfl)
 (Rdz Yxi (by kernel_rfl)
 (Rdz Yxj (by kernel_rfl)
 (Rdz Yxk (by kernel_rfl)
 (Rdz Yxb (by kernel_rfl)
 (Rdz Yxe (by kernel_rfl)
 (Rdz Yxf (by kernel_rfl)
 (Rdz Zgp (by kernel_rfl)
 (Rdz Ywi (by kernel_rfl)
 (Rdz Yws (by kernel_rfl)
 (Rdz Yxd (by kernel_rfl)
 (Rdz Zfz (by kernel_rfl)
 (Rdz Zgb (by kernel_rfl)
 (Rdz Zgc (by kernel_rfl)
 (Rdz Zgs (by kernel_rfl)
 (Rdz Zgf (by kernel_rfl)
 (Rdz Yky (by kernel_rfl)
 (Rdz Zfy (by kernel_rfl)
 (Rdz Zf8 (by kernel_rfl)
 (Rdz Zpk (by kernel_rfl)
 (Rdz Zpl (by kernel_rfl)
 (Rdz Zfx (by kernel_rfl)
 (Rdz Zpo (by kernel_rfl)
 (Rdz Zf2 (by kernel_rfl)
 (Rdz Zf3 (by kernel_rfl)
 (Rdz Zf4 (by kernel_rfl)
 (Rdz Zf5 (by kernel_rfl)
 (Rdz Zf6 (by kernel_rfl)
 (Rdz Zgg (by kernel_rfl)
 (Rdz Yzb (by kernel_rfl)
 (Rdz Zgh (by kernel_rfl)
 (Rdz Zgi (by kernel_rfl)
 (Rdz Zgk (by kernel_rfl)
 (Rdz Zgl (by kernel_rfl)
 (Rdz Zgm (by kernel_rfl)
 (Rdz Zgn (by kernel_rfl)
 (Rdz Zqa (by kernel_rfl)
 (Rdz Y90 (by kernel_rfl)
 (Rdz Yv8 (by kernel_rfl)
 (Rdz Y5r (by kernel_rfl)
 (Rdz Yv9 (by kernel_rfl)
 (Rdz Ywa (by kernel_rfl)
 (Rdz Ywb (by kernel_rfl)
 (Rdz Ywe (by kernel_rfl)
 (Rdz Ywu (by kernel_rfl)
 (Rdz ok8 (by kernel_rfl)
 (Rdz Zpz (by kernel_rfl)
 (Rdz Zp1 (by kernel_rfl)
 (Rdz Zqf (by kernel_rfl)
 (Rdz Zqi (by kernel_rfl)
 (Rdz Zql (by kernel_rfl)
 (Rdz Zqp (by kernel_rfl)
 (Rdz Zqr (by kernel_rfl)
 (Rdz Y5l (by kernel_rfl)
 (Rdz Y6a (by kernel_rfl)
 (Rdz Y6b (by kernel_rfl)
 (Rdz Y6c (by kernel_rfl)
 (Rdz Y6m (by kernel_rfl)
 (Rdz Y6n (by kernel_rfl)
 (Rdz Y6q (by kernel_rfl)
 (Rdz Y6r (by kernel_rfl)
 (Rdz Y68 (by kernel_rfl)
 (Rdz Y7f (by kernel_rfl)
 (Rdz Y7i (by kernel_rfl)
 (Rdz Y7s (by kernel_rfl)
 (Rdz Y7t (by kernel_rfl)
 (Rdz Y7u (by kernel_rfl)
 (Rdz Y7z (by kernel_rfl)
 (Rdz Y73 (by kernel_rfl)
 (Rdz Y78 (by kernel_rfl)
 (Rdz Y8b (by kernel_rfl)
 (Rdz Y8g (by kernel_rfl)
 (Rdz Y8h (by kernel_rfl)
 (Rdz Y8k (by kernel_rfl)
 (Rdz Y86 (by kernel_rfl)
 (Rdz Y87 (by kernel_rfl)
 (Rdz Y89 (by kernel_rfl)
 (Rdz Y9b (by kernel_rfl)
 (Rdz Y9e (by kernel_rfl)
 (Rdz Y9i (by kernel_rfl)
 (Rdz Y9j (by kernel_rfl)
 (Rdz Y9u (by kernel_rfl)
 (Rdz Zpr (by kernel_rfl)
 (Rdz Zps (by kernel_rfl)
 (Rdz Zqd (by kernel_rfl)
 (Rdz Zqh (by kernel_rfl)
 (Rdz Zqj (by kernel_rfl)
 (Rdz Zqn (by kernel_rfl)
 (Rdz Y5n (by kernel_rfl)
 (Rdz Y5o (by kernel_rfl)
 (Rdz Y5q (by kernel_rfl)
 (Rdz Y5y (by kernel_rfl)
 (Rdz Y5z (by kernel_rfl)
 (Rdz Y50 (by kernel_rfl)
 (Rdz Y52 (by kernel_rfl)
 (Rdz Y53 (by kernel_rfl)
 (Rdz Y54 (by kernel_rfl)
 (Rdz Y55 (by kernel_rfl)
 (Rdz Y56 (by kernel_rfl)
 (Rdz Y57 (by kernel_rfl)
 (Rdz Y6d (by kernel_rfl)
 (Rdz Y6o (by kernel_rfl)
 (Rdz Y6v (by kernel_rfl)
 (Rdz Y6w (by kernel_rfl)
 (Rdz Y6y (by kernel_rfl)
 (Rdz Y62 (by kernel_rfl)
 (Rdz Y64 (by kernel_rfl)
 (Rdz Y66 (by kernel_rfl)
 (Rdz Y67 (by kernel_rfl)
 (Rdz Y7a (by kernel_rfl)
 (Rdz Y7b (by kernel_rfl)
 (Rdz Y7g (by kernel_rfl)
 (Rdz Y7k (by kernel_rfl)
 (Rdz Y72 (by kernel_rfl)
 (Rdz Y8f (by kernel_rfl)
 (Rdz Y8i (by kernel_rfl)
 (Rdz Y8m (by kernel_rfl)
 (Rdz Y8o (by kernel_rfl)
 (Rdz Y8r (by kernel_rfl)
 (Rdz Y8z (by kernel_rfl)
 (Rdz Y9f (by kernel_rfl)
 (Rdz Y9h (by kernel_rfl)
 (Rdz Y9m (by kernel_rfl)
 (Rdz Y8s (by kernel_rfl)
 (Rdz Y8t (by kernel_rfl)
 (Rdz Y8u (by kernel_rfl)
 (Rdz Y9o (by kernel_rfl)
 (Rdz Y9p (by kernel_rfl)
 (Rdz Y9w (by kernel_rfl)
 (Rdz Y9x (by kernel_rfl)
 (Rdz Y9y (by kernel_rfl)
 (Rdz Y9z (by kernel_rfl)
 (Rdz Zqc (by kernel_rfl)
 (Rdz Zqe (by kernel_rfl)
 (Rdz Zqk (by kernel_rfl)
 (Rdz Zqm (by kernel_rfl)
 (Rdz Zqo (by kernel_rfl)
 (Rdz Zqs (by kernel_rfl)
 (Rdz Y5p (by kernel_rfl)
 (Rdz Y51 (by kernel_rfl)
 (Rdz Y58 (by kernel_rfl)
 (Rdz Y6e (by kernel_rfl)
 (Rdz Y6f (by kernel_rfl)
 (Rdz Y6h (by kernel_rfl)
 (Rdz Y6j (by kernel_rfl)
 (Rdz Y6k (by kernel_rfl)
 (Rdz Y6t (by kernel_rfl)
 (Rdz Y6u (by kernel_rfl)
 (Rdz Y6x (by kernel_rfl)
 (Rdz Y60 (by kernel_rfl)
 (Rdz Y63 (by kernel_rfl)
 (Rdz Y69 (by kernel_rfl)
 (Rdz Y7e (by kernel_rfl)
 (Rdz Y7h (by kernel_rfl)
 (Rdz Y7j (by kernel_rfl)
 (Rdz Y7l (by kernel_rfl)
 (Rdz Ywv (by kernel_rfl)
 (Rdz Y7w (by kernel_rfl)
 (Rdz Y7x (by kernel_rfl)
 (Rdz Y71 (by kernel_rfl)
 (Rdz Y76 (by kernel_rfl)
 (Rdz Y79 (by kernel_rfl)
 (Rdz Y8e (by kernel_rfl)
 (Rdz Y8n (by kernel_rfl)
 (Rdz Y8p (by kernel_rfl)
 (Rdz (Ybd Y8q) (by kernel_rfl)
 (Rdz Y8v (by kernel_rfl)
 (Rdz (Ybd Y9a) (by kernel_rfl)
 (Rdz Y9c (by kernel_rfl)
 (Rdz Y9g (by kernel_rfl)
 (Rdz Y9l (by kernel_rfl)
 (Rdz Y9n (by kernel_rfl)
 (Rdz Y7n (by kernel_rfl)
 (Rdz Y80 (by kernel_rfl)
 (Rdz Y81 (by kernel_rfl)
 (Rdz Zfw (by kernel_rfl)
 (Rdz Zp0 (by kernel_rfl)
 (Rdz Zp2 (by kernel_rfl)
 (Rdz Zqb (by kernel_rfl)
 (Rdz Zqg (by kernel_rfl)
 (Rdz Zqq (by kernel_rfl)
 (Rdz Y5m (by kernel_rfl)
 (Rdz Y5w (by kernel_rfl)
 (Rdz Y5x (by kernel_rfl)
 (Rdz Y59 (by kernel_rfl)
 (Rdz Y6g (by kernel_rfl)
 (Rdz Y6i (by kernel_rfl)
 (Rdz Y6l (by kernel_rfl)
 (Rdz Y6p (by kernel_rfl)
 (Rdz Y6s (by kernel_rfl)
 (Rdz Y6z (by kernel_rfl)
 (Rdz Y61 (by kernel_rfl)
 (Rdz Y65 (by kernel_rfl)
 (Rdz Y7c (by kernel_rfl)
 (Rdz Y7d (by kernel_rfl)
 (Rdz Y7m (by kernel_rfl)
 (Rdz Y7v (by kernel_rfl)
 (Rdz Y7y (by kernel_rfl)
 (Rdz Y70 (by kernel_rfl)
 (Rdz Y74 (by kernel_rfl)
 (Rdz Y75 (by kernel_rfl)
 (Rdz Y77 (by kernel_rfl)
 (Rdz Y8a (by kernel_rfl)
 (Rdz Y8c (by kernel_rfl)
 (Rdz Y8d (by kernel_rfl)
 (Rdz Y8j (by kernel_rfl)
 (Rdz Y8l (by kernel_rfl)
 (Rdz Y8w (by kernel_rfl)
 (Rdz Y8x (by kernel_rfl)
 (Rdz Y8y (by kernel_rfl)
 (Rdz Y88 (by kernel_rfl)
 (Rdz Y9d (by kernel_rfl)
 (Rdz Y9k (by kernel_rfl)
 (Rdy))))))))))))))))))))))))))))))))))))))))))))))))))))))))))))))))))))))))))))))))))))))))))))))))))))))))))))))))))))))))))))))))))))))))))))))))))))))))))))))))))))))))))))))))))))))))))))))))))))))))))))))))))))))))))))))))))))))))))))))))))))))))))))))))))
end Go.Proofs.YtolkimpelpnpbaaGreatDoor
namespace Go.Lx
open Go Go.Ab
def TD (a:D)(l:List Tok):Prop:=a=Ylh l\/a=.nils/\l=[]
section
variable {a:D} {l:List Tok} (h:TD a l)
include h
theorem TD.len:U8 (.d a)=.d (.int .i64 l.length):=by rcases h with rfl | ⟨rfl,rfl⟩<;>simp[Ylh]
theorem TD.lenS (ob:Xb):Qz ob (.d a)=True:=by rcases h with rfl | ⟨rfl,rfl⟩<;>simp[Ylh]
theorem TD.idxS (ob:Xb)(k:IntKind)(i:Int):Xk7 ob 4 (.d a) (.d (.int k i))=(0<=i/\i<l.length):=by
 rcases h with rfl | ⟨rfl,rfl⟩
 ·simp[Ylh]
 ·simp[Xk7,Xcb]
theorem TD.idx {k:IntKind}{i:Nat}(hi:i<l.length):Xk8 4 (.d a) (.d (.int k i))=.d (.ref (l[i]?.getD default).enc):=by
 rcases h with rfl | ⟨rfl,rfl⟩
 ·simp[Ylh,hi]
 ·simp at hi
end
end Go.Lx
namespace Go.Lx
open Go Go.Ab

def Xd0 (c:UInt8):Bool:=Wc c.toNat
def Ys (c:UInt8):Bool:=Q6 c.toNat
def Xt4 (c:UInt8):Bool:=Ydi c.toNat
def Vw (c:UInt8):Bool:=Xeb c.toNat
def Ylc (c:UInt8):Bool:=Yx0 c.toNat
def Jh (c:UInt8):Bool:=c != 10

inductive St where
 | skip (n:Nat)
 | tok (k:Int) (t:List UInt8) (m:Int) (n:Nat)
 | err

def Xiu (t:List UInt8):Option Int:=match Xit 0 t with
 | none=>none
 | some n=>if t.length=1\/t.headD 0 ≠ 48 then some n else none

def stp (c:UInt8)(r:List UInt8):St:=
 if Xt4 c then .skip 0
 else if c=47/\r.head? = some 47 then .skip (r.takeWhile Jh).length
 else if Xd0 c then
  if (r.takeWhile Vw).length+1<=32 then .tok 1 (c::r.takeWhile Vw) 0 (r.takeWhile Vw).length else .err
 else if Ys c then
  match Xiu (c::r.takeWhile Ys) with
  | some n=>.tok 2 [] n (r.takeWhile Ys).length
  | none=>.err
 else if Ylc c then .tok 3 [c] 0 0 else .err

inductive Res where
 | ok (l:List Tok)
 | err (at_:Nat)

def Uo (t:Tok):Res->Res
 | .ok l=>.ok (t::l)
 | .err e=>.err e
def X5h (l:List Tok):Res->Res
 | .ok l'=>.ok (l++l')
 | .err e=>.err e

def Xjn:List UInt8->Nat->Res
 | [],_=>.ok []
 | c::r,off=>match stp c r with
  | .skip n=>Xjn (r.drop n) (off+n+1)
  | .tok k t m n=>Uo ⟨k,t,m,off⟩ (Xjn (r.drop n) (off+n+1))
  | .err=>.err off
termination_by l=>l.length
decreasing_by all_goals (simp only[List.length_drop,List.length_cons]; omega)

def Y96:Res->V
 | .ok l=>.tup [.d (Ylh l),.d (.int .i64 0),.d (.int .i64 0)]
 | .err e=>.tup [.d .nils,.d (.int .i64 e),.d (.int .i64 90)]
def Yss (s:List UInt8):V:=if s.length > 65536 then .tup [.d .nils,.d (.int .i64 0),.d (.int .i64 2)] else Y96 (Xjn s 0)

theorem X6h (r:Res):X5h [] r=r:=by cases r<;>rfl
theorem Xgr (l:List Tok)(t:Tok)(r:Res):X5h l (Uo t r)=X5h (l++[t]) r:=by cases r<;>simp[X5h,Uo]

def tw (p:UInt8->Bool)(s:List UInt8)(j:Nat):Nat:=((s.drop j).takeWhile p).length
theorem Y98 {p:UInt8->Bool}{s:List UInt8}{j:Nat}(h:s.length<=j):tw p s j=0:=by simp[tw,Ubl h]
theorem X49 {p:UInt8->Bool}{s:List UInt8}{j:Nat}(h:j<s.length)(hp:p (s[j]?.getD 0)=true):tw p s j=tw p s (j+1)+1:=by
 simp[h]at hp;unfold tw;rw[Uaf h,Uc1,Uby hp]; rfl
theorem Y99 {p:UInt8->Bool}{s:List UInt8}{j:Nat}(h:j<s.length)(hp:p (s[j]?.getD 0)=false):tw p s j=0:=by
 simp[h]at hp;unfold tw;rw[Uaf h,Uc1,hp]; rfl
theorem Xv9 (p:UInt8->Bool)(s:List UInt8)(j:Nat)(h:j<=s.length):j+tw p s j<=s.length:=by
 have:=(List.takeWhile_sublist p (l:=s.drop j)).length_le;simp[tw]at this⊢; omega
theorem Vy (p:UInt8->Bool):∀l:List UInt8,l.takeWhile p=l.take (l.takeWhile p).length
 | []=>rfl
 | c::r=>by
  simp only[Uc1];split
  ·simp; exact Vy p r
  ·rfl
theorem Ybt {p:UInt8->Bool}{x:UInt8}:∀{l:List UInt8},x∈l.takeWhile p->p x=true
 | c::r,h=>by
  rw[Uc1]at h;split at h
  ·rename_i hc;rcases Uax.mp h with rfl | h
   ·exact hc
   ·exact Ybt h
  ·cases h
theorem U1 {s:List UInt8}{i:Nat}(h:i<s.length):s.drop i=(s[i]?.getD 0)::s.drop (i+1):=by
 rw[Uaf h]; simp[h]
theorem Ylj (p:UInt8->Bool){s:List UInt8}{i:Nat}(h:i<s.length)(hp:p (s[i]?.getD 0)=true) :
  (s.take (i+tw p s i)).drop i=(s[i]?.getD 0)::(s.drop (i+1)).takeWhile p/\tw p s i=((s.drop (i+1)).takeWhile p).length+1:=by
 have h1:tw p s i=((s.drop (i+1)).takeWhile p).length+1:=X49 h hp;refine⟨?_,h1⟩;rw[Ubh,Nat.add_sub_cancel_left,h1,U1 h,List.take_succ_cons,<-Vy]

theorem X9l {s:List UInt8}{i off:Nat}(h:s.length<=i):Xjn (s.drop i) off=.ok []:=by
 rw[Ubl h,Xjn]
theorem Yh4 {s:List UInt8}{i:Nat}(h:i<s.length):Xjn (s.drop i) i=match stp (s[i]?.getD 0) (s.drop (i+1)) with
  | .skip n=>Xjn (s.drop (i+n+1)) (i+n+1)
  | .tok k t m n=>Uo ⟨k,t,m,i⟩ (Xjn (s.drop (i+n+1)) (i+n+1))
  | .err=>.err i:=by
 rw[U1 h,Xjn];cases stp (s[i]?.getD 0) (s.drop (i+1)) with
 | err=>rfl
 | skip n=>simp only[List.drop_drop]; congr 2; omega
 | tok k t m n=>simp only[List.drop_drop]; congr 3; omega
theorem Xk5 {s:List UInt8}{i:Nat}:(s.drop i).head? = s[i]?:=by simp[List.head?_drop]
end Go.Lx
namespace Go.Lx
open Go Go.Ab
def Yh3:Nat->List UInt8->Nat->Res
 | 0,_,_=>.ok []
 | _,[],_=>.ok []
 | f+1,c::r,off=>match stp c r with
  | .skip n=>Yh3 f (r.drop n) (off+n+1)
  | .tok k t m n=>Uo ⟨k,t,m,off⟩ (Yh3 f (r.drop n) (off+n+1))
  | .err=>.err off
theorem Xn5:∀(f:Nat) (s:List UInt8) (off:Nat),s.length<=f->Yh3 f s off=Xjn s off
 | 0,s,off,h=>by
  have:s=[]:=Uct.1 (by omega);subst this; simp[Yh3,Xjn]
 | f+1,[],off,h=>by simp[Yh3,Xjn]
 | f+1,c::r,off,h=>by
  rw[Yh3,Xjn];have hl:∀n,(r.drop n).length<=f:=fun n=>by simp at h⊢; omega
  split
  ·rw[Xn5 f _ _ (hl _)]; try simp_all
  ·rw[Xn5 f _ _ (hl _)]; try simp_all
  ·simp_all
end Go.Lx
namespace Go.Ab
open Go
theorem Rd0 {P:Prg}{f:Nat}{vs:List V}{ob:Xb}{K:Out->Xb->Prop}(h:ACall P f vs ob fun o b=>K o b\/(o=.ret (.d .nils)/\∃E z,K (.ret (.sl (Xa b) 0)) ((Xa b,.vec E z [])::b))):ACall P f vs ob K:=
  ⟨fun w ρ args ho hg hr=>(h.run w ρ args ho hg hr).mono fun e w' ⟨o,b,ρ',k,hre,hO,t⟩=>by
    rcases k with k | ⟨rfl,E,z,k⟩
    · exact⟨o,b,ρ',k,hre,hO,t⟩
    · have hl:Xd b (Xa b)=none:=X2 b
      have hbl:∀b,RO.virt.blk? = some b->w'.heap.size<=b:=fun b hb=>by simp[RO.blk?]at hb
      have t1:=Vn w' (Ext.refl w') (o:=.virt) (hO.free hl) hbl;have o1:OM w' (ρ'.ins (Xa b) .virt) ((Xa b,.vec E z [])::b):=hO.ins (Ext.refl w') hl hbl (.inl ⟨Yk,rfl⟩);refine⟨_,_,_,k,?_,o1,t.trans t1⟩;cases e with
      | returned u=>
        have h1:(V.d .nils).rep w' ρ' u:=hre;show (V.sl (Xa b) 0).rep w' (ρ'.ins (Xa b) .virt) u;rw[Xao]at h1;rcases h1 with⟨h1,_⟩ | ⟨_,h1⟩
        · cases h1
        · simp only[D.rep,Ua1,Ua2]at h1
          exact Yl.2 ⟨.virt,Yk,rfl,h1⟩
      | _=>exact (hre:False).elim⟩
def Zz (E z B:Nat):S:=.seq (.rg [] [.op (some 2) (.c (.mv .nils))] [0] [])
 (.seq (.seq (.rg [] [.op (some 3) (.c (.mv (.t 0))),
   .op (some 4) (.isn true false (.t 3))] [0,4] [])
 (.cond (.t 4) (.seq (.rg [] [.op (some 2) (.c (.mv .nils))] [2] [])
 (.ret)) (.skip)))
 (.seq (.rg [] [.op (some 5) (.blv E z [] []),
   .op (some 6) (.c (.mv (.t 0))),
   .op (some 7) (.apv E z B (.t 5) (.t 6)),
   .op (some 2) (.c (.mv (.t 7)))] [2] [])
 (.ret)))
def Xyz (E z B:Nat):S2:=.seq (.rg [] [(0,(.a (.t 0)))] [])
 (.seq (.seq (.rg [.lt 3 [] (.a (.t 0)),.op (some 4) (.isn true false (.t 3))] [(0,(.a (.t 0))),(4,(.a (.t 4)))] [])
 (.cond (.t 4) (.seq (.rg [] [(2,(.a .nils))] [])
 (.ret)) (.skip)))
 (.seq (.rg [.op (some 5) (.blv E z [] []),.lt 6 [] (.a (.t 0)),.op (some 7) (.apv E z B (.t 5) (.t 6))] [(2,(.a (.t 7)))] [])
 (.ret)))
theorem Xfj (E z B:Nat):(Zz E z B).lift []=some (Xyz E z B):=by rfl
theorem Yd8 {P:Prg}{p:Program}(hP:P.p=p)(hm:p.follows .mixedOrders=true){f E z B:Nat}(hc:Xi p f 1 (Zz E z B) [.t 2]=true){xs:List D}(hs:∀x∈xs,x.sz=z)(hB:(2*xs.length+192)*B<=281474976710656){ob:Xb}{K:Out->Xb->Prop}(h:K (.ret (.sl (Xa ob) xs.length)) ((Xa ob,.vec E z (xs.map .d))::ob)):ACall P f [.d (.list z xs)] ob K:=by
  refine Rd0 ?_;refine W6 hP hm hc (Xfj E z B) TOk.nil fun _ hno=>?_;simp[Xyz,I.wp,X09,Yl2,Xwf,Xun];constructor
  · refine⟨hB,[Xa ob],by simp[Xc],?_,?_⟩
    · have hd:∀(p:Nat->Bool) (l:List D),Rb8 p (l.map .d)=false:=fun p l=>by induction l<;>simp_all[Rb8,V.men]
      simp[Xc,hd];exact hno _
    · simpa[Xc]using h
  · intro e
    exact⟨[],by simp,by simpa using hno [],.inr ⟨E,z,by simpa[e]using h⟩⟩
theorem X59 {P:Prg}{p:Program}(hP:P.p=p)(hm:p.follows .mixedOrders=true){f E z B:Nat}(hc:Xi p f 1 (Zz E z B) [.t 2]=true){ob:Xb}{K:Out->Xb->Prop}(h:K (.ret (.sl (Xa ob) 0)) ((Xa ob,.vec E z [])::ob)):ACall P f [.d .nils] ob K:=by
  refine Rd0 ?_;refine W6 hP hm hc (Xfj E z B) TOk.nil fun _ hno=>?_;simp[Xyz,I.wp,X09];exact⟨[],by simp,by simpa using hno [],.inr ⟨E,z,by simpa using h⟩⟩
end Go.Ab
namespace Go.Proofs.YtolkimpelpnpbaaGreatDoor
open Go Go.Ab
theorem Zin:Xi Tryz.prog 85 1 (Zz 9 1 16) [.t 2]=true:=by kernel_rfl
theorem Zio:Xi Tryz.prog 86 1 (Zz 164 5 56) [.t 2]=true:=by kernel_rfl
theorem Zip:Xi Tryz.prog 87 1 (Zz 110 6 96) [.t 2]=true:=by kernel_rfl
theorem Ziq:Xi Tryz.prog 88 1 (Zz 170 5 96) [.t 2]=true:=by kernel_rfl
theorem Zir:Xi Tryz.prog 89 1 (Zz 174 5 72) [.t 2]=true:=by kernel_rfl
theorem Zis:Xi Tryz.prog 90 1 (Zz 71 3 48) [.t 2]=true:=by kernel_rfl
theorem Zit:Xi Tryz.prog 165 1 (Zz 115 11 120) [.t 2]=true:=by kernel_rfl
theorem Ziu:Xi Tryz.prog 166 1 (Zz 240 4 72) [.t 2]=true:=by kernel_rfl
theorem Ziv:Xi Tryz.prog 167 1 (Zz 244 8 96) [.t 2]=true:=by kernel_rfl
theorem Ziw:Xi Tryz.prog 169 1 (Zz 38 11 120) [.t 2]=true:=by kernel_rfl
theorem Y1d:Xi Tryz.prog 170 1 (Zz 251 7 80) [.t 2]=true:=by kernel_rfl
theorem Y1e:Xi Tryz.prog 171 1 (Zz 255 5 56) [.t 2]=true:=by kernel_rfl
theorem Y1f:Xi Tryz.prog 172 1 (Zz 56 4 48) [.t 2]=true:=by kernel_rfl
def Xrz:List (Nat×Nat×Nat×Nat):=[(85,9,1,16),(86,164,5,56),(87,110,6,96),(88,170,5,96),(89,174,5,72),(90,71,3,48),(165,115,11,120),(166,240,4,72),(167,244,8,96),(169,38,11,120),(170,251,7,80),(171,255,5,56),(172,56,4,48)]
theorem Xy0:∀e∈Xrz,Xi Tryz.prog e.1 1 (Zz e.2.1 e.2.2.1 e.2.2.2) [.t 2]=true:=by
  simp only[Xrz,List.forall_mem_cons];exact⟨Zin,Zio,Zip,Ziq,Zir,Zis,Zit,Ziu,Ziv,Ziw,Y1d,Y1e,Y1f,fun _ h=>by cases h⟩
def Xyx (E z B:Nat)(ob:Xb):D->Option (V×Xb)
  | .nils=>some (.sl (Xa ob) 0,(Xa ob,.vec E z [])::ob)
  | .list z' xs=>bif Nat.beq z' z&&xs.all (fun x=>Nat.beq x.sz z)&&decide ((2*xs.length+192)*B<=281474976710656) then some (.sl (Xa ob) xs.length,(Xa ob,.vec E z (xs.map .d))::ob) else none
  | _=>none
def Xry (f:Nat)(x:D)(ob:Xb):List (Nat×Nat×Nat×Nat)->Option (V×Xb)
  | []=>none
  | (g,E,z,B)::r=>bif Nat.beq f g then Xyx E z B ob x else Xry f x ob r
theorem Xyy {P:Prg}(hP:P.p=Tryz.prog){f E z B:Nat}(hc:Xi Tryz.prog f 1 (Zz E z B) [.t 2]=true){x:D}{ob b:Xb}{o:V}(h:Xyx E z B ob x=some (o,b)):XCall P f [.d x] ob fun o' b'=>o'=o/\b'=b:=by
  unfold Xyx at h;split at h
  · cases h; exact Rcz (ds:=[.nils]) (xs:=[]) (X59 hP mixed hc ⟨rfl,rfl⟩) ⟨rfl,rfl⟩
  · rw[Ucx]at h
    split at h
    · rename_i e
      cases h;simp only[Uai,Ubp,Ubt]at e;obtain⟨⟨e1,e3⟩,e4⟩:=e;rw[Uaj e1];exact Rcz (ds:=[.list _ _]) (Yd8 hP mixed hc (fun x hx=>Uaj (e3 x hx)) e4 ⟨rfl,rfl⟩) ⟨rfl,rfl⟩
    · cases h
  · cases h
theorem Xkf {P:Prg}(hP:P.p=Tryz.prog){f:Nat}{x:D}{ob b:Xb}{o:V}:∀l:List (Nat×Nat×Nat×Nat),(∀e∈l,Xi Tryz.prog e.1 1 (Zz e.2.1 e.2.2.1 e.2.2.2) [.t 2]=true)->Xry f x ob l=some (o,b)->XCall P f [.d x] ob fun o' b'=>o'=o/\b'=b
  | [],_,h=>by cases h
  | (g,E,z,B)::r,hl,h=>by
    simp only[Xry,Ucx]at h;split at h
    · rename_i e
      rw[Uaj e];exact Xyy hP (hl _ List.mem_cons_self) h
    · exact Xkf hP r (fun e he=>hl e (Uc0 _ he)) h
end Go.Proofs.YtolkimpelpnpbaaGreatDoor
namespace Go.Py
open Go Go.Ab Go.Lx
def Yh5 (s:List UInt8):V:=if s.length > 65536 then .tup [.d .nils,.d (.int .i64 0),.d (.int .i64 2)] else Y96 (Yh3 s.length s 0)
theorem X9m (s:List UInt8):Yh5 s=Yss s:=by
 have e:=Xn5 s.length s 0 (Uak _);unfold Yh5 Yss;rw[e]
def xgl (g:Nat):Option D:=
 bif Nat.beq g 0 then some (.agg [.int .i64 2,.int .i64 1000]) else
 bif Nat.beq g 1 then some (.agg [.int .i64 1,.int .i64 255]) else
 bif Nat.beq g 2 then some (.agg [.int .i64 0,.int .i64 32]) else
 bif Nat.beq g 3 then some (.agg [.int .i64 0,.int .i64 9]) else
 bif Nat.beq g 4 then some (.agg [.int .i64 0,.int .i64 1048576]) else none
def Yk1:Nat->List (List Nat)
 | 0=>[[]]
 | 1=>[[0]]
 | 2=>[[0,1],[1,0]]
 | 3=>[[0,1,2],[0,2,1],[1,0,2],[1,2,0],[2,0,1],[2,1,0]]
 | _=>[]
def Y1i:D×V->Option (Int×Int)
 | (.agg [.int .i64 a,.int .i64 b],.d (.bool true))=>some (a,b)
 | _=>none
def X64:List (D×V)->Option (List (Int×Int))
 | []=>some []
 | e::r=>match Y1i e,X64 r with
  | some p,some l=>some (p::l)
  | _,_=>none
def Zg2 (a n:Nat)(ob:Xb):Option (Out×Xb)->Option (List D)
 | some (.ret (.tup []),(j,.arr E 2 l)::r)=>bif Nat.beq j a&&Nat.beq l.length n&&Nat.beq E 76&&X5j r ob then some l else none
 | _=>none
end Go.Py
namespace Go.Proofs.YtolkimpelpnpbaaGreatDoor
open Go Go.Ab Go.Lx Go.Py
def xpc (f:Nat)(vs:List V):Option V:=match vs with
 | [.d (.str s)]=>bif Nat.beq f 74 then some (Yh5 s) else none
 | _=>none
def xz0:Fns:=⟨fun _ _ _=>none,fun _ _ _=>none,fun _=>false,xgl,fun _ _ _=>none,fun _=>none,fun _ _ _=>none⟩
def Yl0 (ob:Xb)(a:Nat)(fs:List (Int×Int))(sn:List Nat):Option (List D):=
 Zg2 a sn.length ob ((fns 100 W2 xz0 12).call 108 [.sl a sn.length,.fn 54 [] []] ((a,.arr 76 2 (sn.map fun i=>fD (atF fs i)))::ob))
def Yys (ob:Xb)(a:Nat)(fs:List (Int×Int))(s:List D):List (List Nat)->Bool
 | []=>true
 | sn::r=>(match Yl0 ob a fs sn with
  | some l=>D.eqbs l s
  | none=>false)&&Yys ob a fs s r
def Yaf (ob:Xb)(fs:List (Int×Int)):Option (Out×Xb):=match Yk1 fs.length with
 | sn::r=>(match Yl0 ob (Xa ob+5) fs sn with
  | some s=>bif Yys ob (Xa ob+5) fs s r then some (.ret (.d (.list 2 s)),ob) else none
  | none=>none)
 | []=>none
def Y5k (ob:Xb):Option (Out×Xb)->Option (Out×Xb)
 | some (.ret (.tup []),r)=>bif X5j r ob then some (.ret (.d .nils),ob) else none
 | _=>none
def Yx5 (ob:Xb):Option Ob->Option (Out×Xb)
 | some (.map es)=>(match X64 es with
  | some []=>Y5k ob ((fns 100 W2 xz0 12).call 108 [.d .nils,.fn 54 [] []] ob)
  | some fs=>Yaf ob fs
  | none=>none)
 | _=>none
def Yx6 (ob:Xb):Option Ob->Option (Out×Xb)
 | some (.box _ (.mp m))=>Yx5 ob (Xd ob m)
 | _=>none
def xcall (f:Nat)(vs:List V)(ob:Xb):Option (Out×Xb):=bif Nat.beq f 52 then
  (match vs with
  | [.fn g [] [.ptr bx []],.fn h [] []]=>bif Nat.beq g 109&&Nat.beq h 54 then Yx6 ob (Xd ob bx) else none
  | _=>none)
 else none
def xxc (f:Nat)(vs:List V)(ob:Xb):Option (V×Xb):=match vs with
 | [.d x]=>Xry f x ob Xrz
 | _=>none
def xlt (k:Nat):Option (List Nat×S×S):=
 bif Nat.beq k 18 then some ([34],ir18900,ir18901) else
 bif Nat.beq k 260 then some ([7],ir260900,ir260901) else none
def xz:Fns:=⟨xcall,fun f vs _=>xpc f vs,fun f=>Nat.beq f 109,xgl,fun _ _ _=>none,xlt,xxc⟩
end Go.Proofs.YtolkimpelpnpbaaGreatDoor
namespace Go.Lx
open Go Go.Ab
theorem Xms {i n:Nat}(h:i<n)(hn:n<=1000000):IntKind.i64.wrap ((i:Int)+1)=(i:Int)+1:=IntWalk.i64_in _ (by omega)
end Go.Lx
namespace Go.Lx
open Go Go.Ab
def Xja (f:Nat->Int):List D:=(List.range 256).map fun i=>.int .i64 (f i)
def Qv (f:Nat->Int):D:=.agg (Xja f)
def upd (f:Nat->Int)(n:Nat)(v:Int)(i:Nat):Int:=if i=n then v else f i
theorem Zw {f g:Nat->Int}(h:∀i,i<256->f i=g i):Qv f=Qv g:=by
 unfold Qv Xja;congr 1;exact List.map_congr_left fun i hi=>by rw[h i (Ub7.mp hi)]
@[simp] theorem tbl_kids (f:Nat->Int):V.kids (.d (Qv f))=some ((Xja f).map .d):=by simp only[Qv,V.kids]
@[simp] theorem tbl_getE (f:Nat->Int){n:Nat}(h:n<(Xja f).length):(Xja f)[n]=.int .i64 (f n):=by simp[Xja]
@[simp] theorem Xer (f:Nat->Int):(Xja f).length=256:=by simp[Xja]
@[simp] theorem allD_set (l:List D)(n:Nat)(x:D):Ra5 ((l.map V.d).set n (.d x))=some (l.set n x):=by rw[<-Uas,allD_map]
@[simp] theorem tblL_set (f:Nat->Int)(n:Nat)(v:Int):(Xja f).set n (.int .i64 v)=Xja (upd f n v):=by
 unfold Xja;apply Uat;intro i;by_cases hi:n=i
 ·subst hi;by_cases hl:n<256
  ·simp[Uau,hl,upd]
  ·simp[Uau,hl]
 ·by_cases hl:i<256
  ·simp[Uau,hi,hl,upd,Ne.symm hi]
  ·simp[Uau,hi,hl]
@[simp] theorem Yed (f:Nat->Int):D.agg (Xja f)=Qv f:=rfl
theorem Ylf {l:List D}{n:Nat}(h:∀x∈l,x.sz=n):Raa l=l.length*n:=Raj l h
theorem Xjb (f:Nat->Int):∀x∈Xja f,x.sz=1:=by
 intro x hx;simp only[Xja,Ua5]at hx;obtain⟨i,_,rfl⟩:=hx;rfl
@[simp] theorem Yyh (f:Nat->Int):(Qv f).sz=256:=by simp only[Qv,D.sz,Ylf (Xjb f),Xer]
@[simp] theorem tbl_size' (f:Nat->Int):(Qv f).shape.size=256:=by rw[Ran,Yyh]
@[simp] theorem tbl_agg (f:Nat->Int):V.isAgg (.d (Qv f))=true:=rfl
@[simp] theorem tbl_dagg (f:Nat->Int):(Qv f).isAgg=true:=rfl
@[simp] theorem tbl_ok (f:Nat->Int):(∀a,a∈Xja f->a.shape.size=1)=True:=
 eq_true fun x hx=>by rw[Ran]; exact Xjb f x hx
theorem X9t (n:Nat)(x:D):List.replicate n x=(List.range n).map fun _=>x:=by
 rw[List.map_const',List.length_range]
theorem Xa6:∀s:List UInt8,Zy s=s.map fun b=>.int .u8 b.toNat
 | []=>rfl
 | b::r=>by simp[Zy,Xa6 r]
theorem Xmx:List.replicate 256 (D.int .i64 0)=Xja fun _=>0:=X9t 256 _

def cl1 (k i:Nat):Int:=if 65<=i/\i<65+k\/97<=i/\i<97+k then 2 else 0
def cl2 (k i:Nat):Int:=if 48<=i/\i<48+k then 3 else cl1 26 i
def spc:List UInt8:=[32,9,10,13]
def cl3 (k i:Nat):Int:=if i∈(spc.take k).map UInt8.toNat then 1 else cl2 10 i
def cl4 (k i:Nat):Int:=if i∈(Xci.take k).map UInt8.toNat then 4 else cl3 4 i
def Xjm:Nat->Int:=cl4 15
theorem Xto {l:List UInt8}{k i:Nat}(h:k<l.length):(i∈(l.take (k+1)).map UInt8.toNat)↔(i=(l[k]?.getD 0).toNat\/i∈(l.take k).map UInt8.toNat):=by
 rw[List.take_add_one,Uca,Ubu,Ubf h];simp only[Option.toList_some,Uam,Ubm,Uci,Option.getD_some];exact Or.comm
def Zat:D:=Qv Xjm
end Go.Lx
namespace Go.Proofs.YtolkimpelpnpbaaGreatDoor
open Go Go.Ab Go.Lx
section
variable {P:Prg} (hP:P.p=Tryz.prog)
include hP
theorem Xur {ob:Xb}{K:V->Prop}(h:K (.d Zat)):PCall P 127 [] ob K:=by
 refine Xg hP mixed (ds:=[]) Ywm Y3h TOk.nil ?_;simp only[Ytj,Xmx];rw[show D.agg (Xja fun _=>0)=Qv fun _=>0 from rfl,show Qv (fun _=>0)=Qv (cl1 0) from Zw fun i _=>by simp[cl1]];simp;refine ALoop.go (ι:=Nat) (fun k=>[(0,.ptr 0 []),(7,.d (.int .i64 k))]) (fun k=>[(0,.box 225 (.d (Qv (cl1 k))))]) (fun k=>k<=26) (fun k=>26-k) 0 (by omega) (by simp) (by simp) ?_;intro k hk R rn re _ _;by_cases hlt:k<26
 ·have w1:IntKind.i64.wrap (65+(k:Int))=65+(k:Int):=IntWalk.i64_in _ (by omega);have w2:IntKind.i64.wrap (97+(k:Int))=97+(k:Int):=IntWalk.i64_in _ (by omega);have w3:=Xms hlt (by omega);simp[Xq2,w1,w2,w3,show (k:Int)<26 by omega,show ¬(26:Int)<=k by omega,show (0:Int)<=65+k by omega,show (0:Int)<=97+k by omega,show 65+(k:Int)<256 by omega,show 97+(k:Int)<256 by omega,show (65+(k:Int)).toNat=65+k by omega,show (97+(k:Int)).toNat=97+k by omega,show 65+k<256 by omega,show 97+k<256 by omega];refine rn [] (k+1) _ _ ?_ ?_ ?_ ?_ ?_ ?_
  ·omega
  ·omega
  ·simp
  ·simp;refine Zw fun i _=>?_;simp only[upd,cl1]
   repeat (first | split | omega)
   all_goals omega
  ·simp
  ·simp
 ·have hk':k=26:=by omega
  subst hk';simp[Xq2];refine re _ _ _ ?_;simp;clear rn re;rw[show Qv (cl1 26)=Qv (cl2 0) from Zw fun i _=>by simp[cl2]; omega];refine ALoop.go (ι:=Nat) (fun k=>[(0,.ptr 0 []),(17,.d (.int .i64 k))]) (fun k=>[(0,.box 225 (.d (Qv (cl2 k))))]) (fun k=>k<=10) (fun k=>10-k) 0 (by omega) (by simp) (by simp) ?_;intro k hk R rn re _ _;by_cases hlt:k<10
  ·have w1:IntKind.i64.wrap (48+(k:Int))=48+(k:Int):=IntWalk.i64_in _ (by omega);have w3:=Xms hlt (by omega);simp[Xq1,w1,w3,show (k:Int)<10 by omega,show ¬(10:Int)<=k by omega,show (0:Int)<=48+k by omega,show 48+(k:Int)<256 by omega,show (48+(k:Int)).toNat=48+k by omega,show 48+k<256 by omega];refine rn [] (k+1) _ _ ?_ ?_ ?_ ?_ ?_ ?_
   ·omega
   ·omega
   ·simp
   ·simp;refine Zw fun i _=>?_;simp only[upd,cl2]
    repeat (first | split | omega)
    all_goals omega
   ·simp
   ·simp
  ·have hk':k=10:=by omega
   subst hk';simp[Xq1];refine re _ _ _ ?_;simp;clear rn re;rw[show Qv (cl2 10)=Qv (cl3 0) from Zw fun i _=>by simp[cl3]];show ALoop _ _ _ [_,(25,V.d (D.list 1 (Zy spc))),_,_] _;refine ALoop.go (ι:=Nat) (fun k=>[(0,.ptr 0 []),(25,.d (.list 1 (Zy spc))),(26,.d (.int .i64 4)),(27,.d (.int .i64 k))]) (fun k=>[(1,.gone),(0,.box 225 (.d (Qv (cl3 k))))]) (fun k=>k<=4) (fun k=>4-k) 0 (by omega) (by simp[Xk]) (by simp) ?_;intro k hk R rn re _ _;by_cases hlt:k<4
   ·have w3:=Xms hlt (by omega);have hb:(Zy spc)[k]?.getD default=.int .u8 (spc[k]?.getD 0).toNat:=by
     rw[Xa6]; simp[show k<spc.length from hlt]
    have hlen:(Zy spc).length=4:=rfl;have hc:=(spc[k]?.getD 0).toNat_lt;generalize hcc:spc[k]?.getD 0=c at *;simp[Xq0,w3,hb,hlen,show (k:Int)<4 by omega,show ¬(4:Int)<=k by omega,hc,show ((c.toNat:Int)<256) by omega];refine rn [] (k+1) _ _ ?_ ?_ ?_ ?_ ?_ ?_
    ·omega
    ·omega
    ·simp
    ·simp;refine Zw fun i _=>?_;simp only[upd,cl3,Xto (show k<spc.length from hlt),hcc];split
     ·rename_i e; simp[e]
     ·rename_i e; simp[e]
    ·simp
    ·simp
   ·have hk':k=4:=by omega
    subst hk';simp[Xq0];refine re _ _ _ ?_;simp;clear rn re;rw[show Qv (cl3 4)=Qv (cl4 0) from Zw fun i _=>by simp[cl4]];show ALoop _ _ _ [_,(35,V.d (D.list 1 (Zy Xci))),_,_] _;refine ALoop.go (ι:=Nat) (fun k=>[(0,.ptr 0 []),(35,.d (.list 1 (Zy Xci))),(36,.d (.int .i64 15)),(37,.d (.int .i64 k))]) (fun k=>[(2,.gone),(1,.gone),(0,.box 225 (.d (Qv (cl4 k))))]) (fun k=>k<=15) (fun k=>15-k) 0 (by omega) (by simp[Xk]) (by simp) ?_;intro k hk R rn re _ _;by_cases hlt:k<15
    ·have w3:=Xms hlt (by omega);have hb:(Zy Xci)[k]?.getD default=.int .u8 (Xci[k]?.getD 0).toNat:=by
      rw[Xa6]; simp[show k<Xci.length from hlt]
     have hlen:(Zy Xci).length=15:=rfl;have hc:=(Xci[k]?.getD 0).toNat_lt;generalize hcc:Xci[k]?.getD 0=c at *;simp[Xqz,w3,hb,hlen,show (k:Int)<15 by omega,show ¬(15:Int)<=k by omega,hc,show ((c.toNat:Int)<256) by omega];refine rn [] (k+1) _ _ ?_ ?_ ?_ ?_ ?_ ?_
     ·omega
     ·omega
     ·simp
     ·simp;refine Zw fun i _=>?_;simp only[upd,cl4,Xto (show k<Xci.length from hlt),hcc];split
      ·rename_i e; simp[e]
      ·rename_i e; simp[e]
     ·simp
     ·simp
    ·have hk':k=15:=by omega
     subst hk';simp[Xqz];refine re _ _ _ ?_;simp;refine⟨rfl,?_⟩;exact h
end
end Go.Proofs.YtolkimpelpnpbaaGreatDoor
namespace Go.Lx
open Go Go.Ab
@[simp] theorem idxPV_tbl (f:Nat->Int)(kd:IntKind)(i:Int):Xhc (.d (.ref (Qv f))) (.d (.int kd i))=.d (.ref ((Xja f).getD i.toNat default)):=by simp only[Qv,Xhc]
@[simp] theorem idxPS_tbl (ob:Xb)(f:Nat->Int)(kd:IntKind)(i:Int):Xnw ob 256 1 (.d (.ref (Qv f))) (.d (.int kd i))=(0<=i/\i<256):=by
 simp only[Qv,Yf8,Xer];simp;intro _ _ x hx; exact Xjb f x hx
theorem Xfk:∀n,n<256->(Xjm n=2↔Wc n=true):=by decide +kernel
theorem Xdj:∀n,n<256->(Xjm n=3↔Q6 n=true):=by decide +kernel
theorem Xy2:∀n,n<256->(Xjm n=1↔Ydi n=true):=by decide +kernel
theorem X61:∀n,n<256->(Xjm n=4↔Yx0 n=true):=by decide +kernel
theorem Xy1:∀n,n<256->0<=Xjm n/\Xjm n<=4:=by decide +kernel
abbrev scD (s:List UInt8)(i:Int)(l:List D):D:=.agg [.str s,.int .i64 i,Qv Xjm,.list 4 l]
abbrev scV (s:List UInt8)(i:Int)(y n:Nat):V:=.agg [.d (.str s),.d (.int .i64 i),.d (Qv Xjm),.sl y n]
end Go.Lx
namespace Go.Proofs.YtolkimpelpnpbaaGreatDoor
open Go Go.Ab Go.Lx
section
variable {P:Prg} (hP:P.p=Tryz.prog)
include hP
theorem Ye1 (c:UInt8)(s:List UInt8)(i:Int)(l:List D){ob:Xb}{K:V->Prop}(h:K (.d (.bool (Vw c)))):PCall P 219 [.d (.int .u8 c.toNat),.d (.ref (.ref (scD s i l)))] ob K:=by
 refine Xg hP mixed (ds:=[.int .u8 c.toNat,.ref (.ref (scD s i l))]) Yw3 Y32 TOk.nil ?_;have hc:=c.toNat_lt;simp[Y0d,hc,show (c.toNat:Int)<256 by omega];refine (Ua4 K ?_).mp h;congr 2;rw[Ucl];have h2:=Xfk c.toNat hc;have h3:=Xdj c.toNat hc;simp[Vw,Xeb,h2,h3]
theorem Xyp (c:UInt8)(s:List UInt8)(i:Int)(l:List D){ob:Xb}{K:V->Prop}(h:K (.d (.bool (Ys c)))):PCall P 221 [.d (.int .u8 c.toNat),.d (.ref (.ref (scD s i l)))] ob K:=by
 refine Xg hP mixed (ds:=[.int .u8 c.toNat,.ref (.ref (scD s i l))]) Yw5 Y34 TOk.nil ?_;have hc:=c.toNat_lt;simp[Y0f,hc,show (c.toNat:Int)<256 by omega];refine (Ua4 K ?_).mp h;congr 2;rw[Ucl];have h3:=Xdj c.toNat hc;simp[Ys,h3]
theorem Ye5 (c:UInt8){ob:Xb}{K:V->Prop}(h:K (.d (.bool (Jh c)))):PCall P 223 [.d (.int .u8 c.toNat)] ob K:=by
 refine Xg hP mixed (ds:=[.int .u8 c.toNat]) Yw7 Y36 TOk.nil ?_;simp[Y0h];refine (Ua4 K ?_).mp h;congr 2;rw[Ucl];simp[Jh];constructor
 ·intro h1 h2; exact h1 (by rw[<-UInt8.ofNat_toNat (x:=c),show c.toNat=10 by omega]; rfl)
 ·intro h1 h2; subst h2; exact h1 rfl
theorem X6r (s t:List UInt8){ob:Xb}{K:V->Prop}(h:K (.d (.bool (t.isPrefixOf s)))):PCall P 222 [.d (.str s),.d (.str t)] ob K:=by
 have h0:∀{K:V->Prop},K (.d (.bool (t.isPrefixOf s)))->PCall P 285 [.d (.str s),.d (.str t)] [] K:=fun {K} h=>by
  refine Xg hP mixed (ds:=[.str s,.str t]) Yxc Y4f TOk.nil ?_;simp[Y0m];refine (Ua4 K ?_).mp h;congr 2;rw[Ucl];simp only[List.isPrefixOf_iff_prefix,List.prefix_iff_eq_take];by_cases hl:t.length<=s.length
  ·simp[hl]; exact eq_comm
  ·simp[hl];intro e;have:=Ua4 List.length e;simp at this; omega
 refine Xg hP mixed (ds:=[.str s,.str t]) Yw6 Y35 TOk.nil ?_;simp[Y0g];exact h0 (by simpa using h)
theorem Ye4 (s:List UInt8)(i:Nat)(hi:i<=s.length)(hs:s.length<=1000000)(l:List D)(f:Nat)(fi ca:List D)(p:UInt8->Bool)(hf:Xm P.p f=true)
  (hp:∀(c:UInt8) (K:V->Prop),K (.d (.bool (p c)))->PCall P f (fi.map .d++.d (.int .u8 c.toNat)::ca.map .d) [] K)
  {ob:Xb} {K:V->Prop} (h:K (.d (.str ((s.drop i).takeWhile p)))):PCall P 218 [.d (.ref (scD s i l)),.d (.fn f fi ca)] ob K:=by
 refine Xg hP mixed (ds:=[.ref (scD s i l),.fn f fi ca]) Yw2 Y31 TOk.nil ?_;simp[Y0c];refine ALoop.go (ι:=Nat) (fun j=>[(0,.d (.ref (scD s i l))),(1,.d (.fn f fi ca)),(5,.d (.int .i64 j))]) (fun _=>[]) (fun j=>i<=j/\j<=s.length/\j+tw p s j=i+tw p s i) (fun j=>s.length-j) i ⟨by omega,by omega,rfl⟩ rfl rfl ?_;rintro j ⟨hj0,hj1,hj2⟩ R rn re _ _;have ex:tw p s j=0->∀x,R (AExit.exit 0) [(0,.d (.ref (scD s i l))),(1,.d (.fn f fi ca)),(5,.d (.int .i64 j)),(26,x)] []:=fun h0 x=>by
  refine re _ _ _ ?_;simp[hj0,hj1];refine (Ua4 K ?_).mp h;congr 2;rw[Ubh,Vy];congr 1;simp only[tw]at hj2 h0⊢;omega
 simp[X5y];by_cases hjl:j<s.length
 ·have hwj:=Xms hjl hs;simp[hjl,hwj,hf];refine⟨Rbz (hp s[j] _ ?_),fun h=>absurd h (by omega)⟩;by_cases hb:p s[j]=true
  ·simp[hb];refine rn [] (j+1) _ _ ⟨?_,?_,?_⟩ ?_ ?_ ?_ ?_ ?_
   ·omega
   ·omega
   ·rw[<-hj2,X49 hjl (by simpa[hjl]using hb)]; omega
   ·omega
   ·simp
   ·simp
   ·simp
   ·simp
  ·simp[hb];exact ex (Y99 hjl (by simpa[hjl]using hb)) _
 ·simp[hjl];exact fun _=>ex (Y98 (by omega)) _
end
end Go.Proofs.YtolkimpelpnpbaaGreatDoor
namespace Go.Proofs.YtolkimpelpnpbaaGreatDoor
open Go Go.Ab Go.Lx
section
variable {P:Prg} (hP:P.p=Tryz.prog)
include hP
theorem Yew (s:List UInt8)(i n:Nat)(k m a0:Int)(t:List UInt8)(ts:List D)(hn:i+n<=1000000)(hts:ts.length<=1000000){ob:Xb}{x y:Nat}(hx:Xd ob x=some (.box 228 (scV s i y ts.length)))(hy:Xd ob y=some (.arr 153 4 ts))
  {K:Out->Xb->Prop} (h:K (.ret (.tup [])) (setO (setO ob y (.arr 153 4 (ts++[.agg [.int .i64 k,.str t,.int .i64 m,.int .i64 i]]))) x (.box 228 (scV s ((i+n:Nat):Int) y (ts.length+1))))) :
  ACall P 220 [.ptr x [],.d (.agg [.int .i64 k,.str t,.int .i64 m,.int .i64 a0]),.d (.int .i64 n)] ob K:=by
 have hxy:(y==x)=false:=by rw[Ucg]; intro e; subst e; rw[hx]at hy; cases hy
 have hyx:(x==y)=false:=by rw[Ucg]; intro e; subst e; rw[hx]at hy; cases hy
 refine Xn hP mixed Yw4 Y33 TOk.nil ?_;intro _ hm;have hw:IntKind.i64.wrap ((i:Int)+n)=(i:Int)+n:=IntWalk.i64_in _ (by omega);simp[Y0e,hx,hy,hxy,hyx,hw];refine⟨by omega,?_⟩;refine⟨[],by simp,?_,?_⟩
 ·simp;exact Xl _ _ _ _ _ (Yx _ _ _ _ _ _ (hm _)) (by simp[hy])
 ·simpa using h
abbrev Xgo (ob:Xb)(x y:Nat)(s:List UInt8)(ts:List D)(k:Int)(t:List UInt8)(m:Int)(i n:Nat):Xb:=
 setO (setO ob y (.arr 153 4 (ts++[.agg [.int .i64 k,.str t,.int .i64 m,.int .i64 i]]))) x (.box 228 (scV s ((i+n:Nat):Int) y (ts.length+1)))
theorem Xgy:Xm P.p 219=true/\Xm P.p 221=true/\Xm P.p 223=true:=by
 rw[hP]; exact⟨by kernel_rfl,by kernel_rfl,by kernel_rfl⟩
section
variable (s:List UInt8) (i:Nat) (ts:List D) (hs:s.length<=65536) (hi:i<s.length) (hts:ts.length<=1000000) {ob:Xb} {x y:Nat} (hx:Xd ob x=some (.box 228 (scV s i y ts.length))) (hy:Xd ob y=some (.arr 153 4 ts)) {K:Out->Xb->Prop}
include hs hi hts hx hy
omit hs hi hts hy in
theorem Ye2 (h:K (.panic (.d (.iface 222 (.int .i64 i)))) ob):ACall P 128 [.ptr x []] ob K:=by
 refine Xn hP mixed Ywn Y3i TOk.nil ?_;intro _ hm;simp[Yzz,hx];refine⟨[],by simp,?_,?_⟩
 ·simp[hm]
 ·simpa using h
omit hts in
theorem Ye7 (h:K (.ret (.tup [])) (setO ob x (.box 228 (scV s ((i+1:Nat):Int) y ts.length)))):ACall P 129 [.ptr x []] ob K:=by
 refine Xn hP mixed Ywo Y3j TOk.nil ?_;intro _ hm;have hw:=Xms hi (by omega);simp[Yz0,hx,hw];refine⟨[],by simp,?_,?_⟩
 ·simp;exact Xl _ _ _ _ _ (hm _) (by simp[hy])
 ·simpa using h
theorem Ymo (h1:32<tw Vw s i->K (.panic (.d (.iface 222 (.int .i64 i)))) ob)(h2:tw Vw s i<=32->K (.ret (.tup [])) (Xgo ob x y s ts 1 ((s.drop i).takeWhile Vw) 0 i (tw Vw s i))):ACall P 130 [.ptr x []] ob K:=by
 refine Xn hP mixed Ywp Y3k TOk.nil ?_;intro _ hm;have hle:=Xv9 Vw s i (by omega);simp[Yz1,hx];refine Rcu (n:=5) (ds:=[.ref (scD s i ts),.fn 219 [] [.ref (.ref (scD s i ts))]]) (by simp[hx,hy]) ?_;refine Ye4 hP s i (by omega) (by omega) ts _ [] _ Vw (Xgy hP).1 (fun c K h=>by simpa using Ye1 hP c s i ts h) ?_;simp;have hl:((s.drop i).takeWhile Vw).length=tw Vw s i:=rfl;simp[hl,hx];refine⟨fun h3=>?_,fun h3=>?_⟩
 ·refine⟨[],by simp,?_,?_⟩
  ·simp[hm]
  ·simpa using h1 (by omega)
 ·simp[X5u,hl,hx];refine Yew hP (y:=y) s i _ 1 0 0 _ ts (by omega) hts (by simp[hx]) (by simp[hy]) ?_;simp[hx,hy];refine⟨[],by simp,?_,?_⟩
  ·simp;exact Xl _ _ _ _ _ (Yx _ _ _ _ _ _ (hm _)) (by simp[hy])
  ·simpa[Xgo]using h2 (by omega)
theorem Xyq (hd:Ys (s[i]?.getD 0)=true)(h1:Xiu ((s.drop i).takeWhile Ys)=none->K (.panic (.d (.iface 222 (.int .i64 i)))) ob)
  (h2:∀m,Xiu ((s.drop i).takeWhile Ys)=some m->K (.ret (.tup [])) (Xgo ob x y s ts 2 [] m i (tw Ys s i))):ACall P 131 [.ptr x []] ob K:=by
 refine Xn hP mixed Ywq Y3l TOk.nil ?_;intro _ hm;have hle:=Xv9 Ys s i (by omega);simp[Yz2,hx];refine Rcu (n:=5) (ds:=[.ref (scD s i ts),.fn 221 [] [.ref (.ref (scD s i ts))]]) (by simp[hx,hy]) ?_;refine Ye4 hP s i (by omega) (by omega) ts _ [] _ Ys (Xgy hP).2.1 (fun c K h=>by simpa using Xyp hP c s i ts h) ?_;have hl:((s.drop i).takeWhile Ys).length=tw Ys s i:=rfl;have hdg:∀k,k<tw Ys s i->Q6 (((s.drop i).takeWhile Ys)[k]?.getD 0).toNat=true:=fun k hk=>by
  have:((s.drop i).takeWhile Ys)[k]∈(s.drop i).takeWhile Ys:=Uba hk;rw[Ubf hk];exact Ybt this
 have hne:0<tw Ys s i:=by have:=X49 hi hd; omega
 generalize ht:(s.drop i).takeWhile Ys=t at *;rw[<-hl]at hdg hne;simp;refine ALoop.go (ι:=Nat×Int) (fun k=>[(1,.ptr (Xa ob) []),(2,.d (.str t)),(3,.d (.int .i64 k.2)),(9,.d (.int .i64 t.length)),(10,.d (.int .i64 k.1))]) (fun _=>(Xa ob,.box 224 (.ptr x []))::ob)
  (fun k=>k.1<=t.length/\0<=k.2/\k.2<=1099511627776/\Xit 0 t=Xit k.2 (t.drop k.1)/\(2<=k.1->t.headD 0 ≠ 48)) (fun k=>t.length-k.1) (0,0) ⟨by simp,by simp,by simp,by simp,by simp⟩ rfl rfl ?_
 rintro⟨k,n⟩ ⟨hk,k1,k2,k3,k4⟩ R rn re _ rp;simp only at hk k1 k2 k3 k4;simp[X5v];by_cases hlt:k<t.length
 ·have hc:=hdg k hlt;rw[Xvp hlt]at k3;generalize hcc:t[k]?.getD 0=c at *;have hcc':t[k]=c:=by rw[<-hcc]; simp[hlt]
  simp[Q6]at hc;have hcl:=c.toNat_lt;have hw:IntKind.i64.wrap (IntKind.i64.wrap (10*n)+IntKind.i64.wrap (IntKind.u8.wrap (c.toNat-48)))=10*n+(c.toNat-48):=by
   rw[IntWalk.u8_in _ (by omega),IntWalk.i64_in (10*n) (by omega),IntWalk.i64_in (_-48) (by omega),IntWalk.i64_in _ (by omega)]
  have hwk:=Xms hlt (by omega);have hpan:Xiu t=none->R (AExit.panic (V.d (D.iface 222 (D.int IntKind.i64 i)))) [] ((Xa ob,.box 224 (.ptr x []))::ob):=fun hno=>by
   refine rp _ _ _ ?_;simp;refine⟨[],by simp,?_,?_⟩
   ·simp[hm]
   ·simpa using h1 hno
  have h0:(t[0]?.getD 0)=t.headD 0:=by cases t<;>rfl
  have hlead:0<k->t[0]?.getD 0=48->Xiu t=none:=fun k0 e=>by
   rw[h0]at e;unfold Xiu;cases Xit 0 t with
   | none=>rfl
   | some m=>simp only; rw[Ubo]; simp only[not_or,Classical.not_not]; exact⟨by omega,e⟩
  simp[hlt,hcc',hw,hwk,hx];refine⟨⟨fun _ _=>hne,fun e=>hpan ?_,fun e1 e2=>?_⟩,fun e=>absurd e (by omega)⟩
  ·rcases e with e | ⟨e1,e2⟩
   ·rw[Uby e]at k3;simp[Xiu,k3]
   ·refine hlead e1 ?_;have e3:(t[0]?.getD 0).toNat=48:=by omega
    generalize t[0]?.getD 0=z at e3;rw[<-UInt8.ofNat_toNat (x:=z),e3]; rfl
  ·rw[Ubo (by omega)]at k3;simp[X5w,hwk];refine rn [] (k+1,10*n+(c.toNat-48)) _ _ ⟨?_,?_,?_,?_,?_⟩ ?_ ?_ ?_ ?_ ?_
   ·simp only; omega
   ·simp only; omega
   ·exact e1
   ·exact k3
   ·intro h2k e3;have hk0:0<k:=by simp only at h2k; omega
    refine e2 hk0 ?_;rw[h0,e3]; rfl
   ·simp only; omega
   ·simp
   ·simp
   ·simp[Xc]
   ·simp[Xq _ hm,hx]
 ·have hk':k=t.length:=by omega
  subst hk';simp;refine re _ _ _ ?_;simp[hx];refine Yew hP (y:=y) s i _ 2 n 0 _ ts (by omega) hts (by simp[hx]) (by simp[hy]) ?_;simp[hx,hy];refine⟨[],by simp,?_,?_⟩
  ·simp;exact Xl _ _ _ _ _ (Yx _ _ _ _ _ _ (hm _)) (by simp[hy])
  ·have hn:Xiu t=some n:=by
    simp[Xit]at k3;simp only[Xiu,k3];rw[Uby];by_cases h2:2<=t.length
    ·exact .inr (k4 h2)
    ·exact .inl (by omega)
   simpa[Xgo,hl]using h2 n hn
theorem Ye6 (hsg:Ylc (s[i]?.getD 0)=true)(h1:s[i]?.getD 0=47/\(s.drop (i+1)).head? = some 47->K (.ret (.tup [])) (setO ob x (.box 228 (scV s ((i+tw Jh s i:Nat):Int) y ts.length))))
  (h2:¬(s[i]?.getD 0=47/\(s.drop (i+1)).head? = some 47)->K (.ret (.tup [])) (Xgo ob x y s ts 3 [s[i]?.getD 0] 0 i 1)):ACall P 132 [.ptr x []] ob K:=by
 refine Xn hP mixed Ywr Y3m TOk.nil ?_;intro _ hm;have hw:=Xms hi (by omega);have hle:=Xv9 Jh s i (by omega);simp[Yz3,hx,hw,show i<=s.length by omega];refine PCall.data (ds:=[.str (s.drop i),.str [47,47]]) rfl (X6r hP _ _ ?_);have hpre:([47,47]:List UInt8).isPrefixOf (s.drop i)=decide (s[i]?.getD 0=47/\(s.drop (i+1)).head? = some 47):=by
  rw[U1 hi];cases hd:s.drop (i+1) with
  | nil=>simp[List.isPrefixOf]
  | cons a r=>
   rw[Ucl];simp only[List.isPrefixOf,Uai,Ubn,Bool.and_true,Ubp,List.head?_cons,Uaq];exact⟨fun h=>⟨h.1.symm,h.2.symm⟩,fun h=>⟨h.1.symm,h.2.symm⟩⟩
 rw[hpre];simp[hx,hw];refine⟨fun e1 e2=>?_,fun e=>⟨by omega,?_⟩⟩
 ·refine Rcu (n:=5) (ds:=[.ref (scD s i ts),.fn 223 [] []]) (by simp[hx,hy]) ?_;refine Ye4 hP s i (by omega) (by omega) ts _ [] [] Jh (Xgy hP).2.2 (fun c K h=>by simpa using Ye5 hP c h) ?_;have hl:((s.drop i).takeWhile Jh).length=tw Jh s i:=rfl;have hw2:IntKind.i64.wrap ((i:Int)+tw Jh s i)=(i:Int)+tw Jh s i:=IntWalk.i64_in _ (by omega);simp[hl,hw2];refine⟨[],by simp,?_,?_⟩
  ·simp;exact Xl _ _ _ _ _ (hm _) (by simp[hy])
  ·have:=h1 ⟨e1,by rw[Xk5]; exact e2⟩;simpa using this
 ·have htx:(s.take (i+1)).drop i=[s[i]?.getD 0]:=by
   rw[Ubh,Nat.add_sub_cancel_left,U1 hi]; rfl
  rw[htx];refine Yew hP (y:=y) s i 1 3 0 0 _ ts (by omega) hts hx hy ?_;simp;refine⟨[],by simp,?_,?_⟩
  ·simp;exact Xl _ _ _ _ _ (Yx _ _ _ _ _ _ (hm _)) (by simp[hy])
  ·have:=h2 (fun e1=>e e1.1 (by rw[<-Xk5]; exact e1.2));simpa[Xgo]using this
end
end
end Go.Proofs.YtolkimpelpnpbaaGreatDoor
namespace Go.Proofs.YtolkimpelpnpbaaGreatDoor
open Go Go.Ab Go.Lx
section
variable {P:Prg} (hP:P.p=Tryz.prog)
include hP
theorem Ymq {ob:Xb}{a b c:Nat}{K:Xb->Prop}(h:K ob):DCall P 126 [.ptr a [],.ptr b [],.ptr c []] ob none K:=by
 refine DCall.of_wf fun _ hm=>?_;refine Xfl hP mixed Ykz Ysy Ysu TOk.nil ?_;simp[Xn8,Xn7,Yl5];refine⟨[],by simp,?_,?_⟩
 ·simp[hm]
 ·simpa using h
theorem Ymr {ob:Xb}{a b c:Nat}{i:Int}{K:Xb->Prop}{va vb vc:V}{Ea Eb Ec:Nat}(ha:Xd ob a=some (.box Ea va))(hb:Xd ob b=some (.box Eb vb))(hc:Xd ob c=some (.box Ec vc))(sa:va.shape=.leaf)(sb:vb.shape=.leaf)(sc:vc.shape=.leaf)
  (hab:(a==b)=false) (hac:(a==c)=false) (hbc:(b==c)=false) (h:K (setO (setO (setO ob a (.box Ea (.d .nils))) b (.box Eb (.d (.int .i64 i)))) c (.box Ec (.d (.int .i64 90))))):DCall P 126 [.ptr a [],.ptr b [],.ptr c []] ob (some (.d (.iface 222 (.int .i64 i)))) K:=by
 refine DCall.of_wf fun _ hm=>?_;refine Xfl hP mixed Ykz Ysy Ysu TOk.nil ?_;simp[Xn8,Xn7,Yl5,X5t,ha,hb,hc,hab,hac,hbc,sa,sb,sc];refine⟨[],by simp,?_,?_⟩
 ·rw[J0 (by simp)];exact Xl _ _ _ _ _ (Xl _ _ _ _ _ (Xl _ _ _ _ _ (hm _) (by simp)) (by simp)) (by simp)
 ·rw[J0 (by simp)];exact h
theorem X6z:Xm P.p 126=true/\Xm P.p 128=true/\Xm P.p 129=true/\Xm P.p 130=true/\Xm P.p 131=true/\Xm P.p 132=true:=by
 rw[hP]; exact⟨by kernel_rfl,by kernel_rfl,by kernel_rfl,by kernel_rfl,by kernel_rfl,by kernel_rfl⟩
omit hP in
theorem X46 (f g:Nat->Int):(Qv f).shape=(Qv g).shape:=by
 simp only[Qv,Xja,D.shape,D.shapes_eq,List.map_map,Function.comp_def]
theorem Y08 (s:List UInt8){ob:Xb}{K:V->Prop}(h:K (Yss s)):PCall P 74 [.d (.str s)] ob K:=by
 refine Xcg hP mixed (ds:=[.str s]) Zgt Zlk TOk.nil ?_;obtain⟨d0,d1,d2,d3,d4,d5⟩:=X6z hP;simp only[Zeh,Xmx,Yed];simp[d0];refine⟨fun hl=>?_,fun hl=>?_⟩
 ·simpa[Yss,show 65536<s.length by omega]using h
 ·have hl':¬65536<s.length:=by omega
  simp only[Yss,gt_iff_lt,hl',Uay]at h;refine Xur hP ?_;simp[Zat];refine⟨X46 _ _,?_⟩;refine ALoop.go (ι:=Nat×List Tok) (fun _=>[(0,.d (.str s)),(2,.ptr 0 []),(3,.ptr 1 []),(4,.ptr 2 []),(5,.ptr 3 []),(6,.ptr 5 [])])
   (fun k=>[(5,.box 229 (.agg [.fn 128 [.ptr 3 []] [],.fn 129 [.ptr 3 []] [],.fn 130 [.ptr 3 []] [],.fn 131 [.ptr 3 []] [],.fn 132 [.ptr 3 []] []])),
    (4,.arr 153 4 (k.2.map Tok.enc)),(3,.box 228 (scV s k.1 4 k.2.length)),(2,.box 46 (.d (.int .i64 0))),(1,.box 3 (.d (.int .i64 0))),(0,.box 141 (.d .nils))])
   (fun k=>k.1<=s.length/\k.2.length<=k.1/\Xjn s 0=X5h k.2 (Xjn (s.drop k.1) k.1)) (fun k=>s.length-k.1) (0,[]) ⟨by simp,by simp,by simp[X6h]⟩ rfl (by simp) ?_
  rintro⟨i,out⟩ ⟨hi,ho,he⟩ R rn re _ rp;simp only at hi ho he;have nx:∀j out' ob',j<=s.length->out'.length<=j->Xjn s 0=X5h out' (Xjn (s.drop j) j)->i<j->ob'=[(5,.box 229 (.agg [.fn 128 [.ptr 3 []] [],.fn 129 [.ptr 3 []] [],.fn 130 [.ptr 3 []] [],.fn 131 [.ptr 3 []] [],.fn 132 [.ptr 3 []] []])),
    (4,.arr 153 4 (out'.map Tok.enc)),(3,.box 228 (scV s j 4 out'.length)),(2,.box 46 (.d (.int .i64 0))),(1,.box 3 (.d (.int .i64 0))),(0,.box 141 (.d .nils))]->R .normal [(0,.d (.str s)),(2,.ptr 0 []),(3,.ptr 1 []),(4,.ptr 2 []),(5,.ptr 3 []),(6,.ptr 5 [])] ob':=fun j out' ob' h1 h2 h3 h4 h6=>
   rn [] (j,out') _ _ ⟨h1,h2,h3⟩ (by simp only; omega) rfl (by rw[h6]; simp[Xc]) (by simp[Xc]) (by simp[Xc])
  clear rn;by_cases hlt:i<s.length
  ·rw[Yh4 hlt]at he;generalize hc:s[i]?.getD 0=c at *;have hc':s[i]=c:=by rw[<-hc]; simp[hlt]
   have hcl:=c.toNat_lt;have hout:(out.map Tok.enc).length<=1000000:=by simp; omega
   have pan:Xjn s 0=.err i->R (.panic (.d (.iface 222 (.int .i64 i)))) [(2,.ptr 0 []),(3,.ptr 1 []),(4,.ptr 2 [])] [(5,.box 229 (.agg [.fn 128 [.ptr 3 []] [],.fn 129 [.ptr 3 []] [],.fn 130 [.ptr 3 []] [],.fn 131 [.ptr 3 []] [],.fn 132 [.ptr 3 []] []])),
    (4,.arr 153 4 (out.map Tok.enc)),(3,.box 228 (scV s i 4 out.length)),(2,.box 46 (.d (.int .i64 0))),(1,.box 3 (.d (.int .i64 0))),(0,.box 141 (.d .nils))]:=fun hr=>by
    refine rp _ _ _ ?_;simp;refine Ymr hP (Ea:=141) (Eb:=3) (Ec:=46) (va:=.d .nils) (vb:=.d (.int .i64 0)) (vc:=.d (.int .i64 0)) (by simp) (by simp) (by simp) (by simp) (by simp) (by simp) rfl rfl rfl ?_;simp;rw[hr]at h;exact h
   have hx:∀(o5:Ob),Xd [(5,o5),(4,Ob.arr 153 4 (out.map Tok.enc)),(3,Ob.box 228 (scV s i 4 (out.map Tok.enc).length)),(2,.box 46 (.d (.int .i64 0))),(1,.box 3 (.d (.int .i64 0))),(0,.box 141 (.d .nils))] 3=some (.box 228 (scV s i 4 (out.map Tok.enc).length)):=fun _=>by simp
   have hcr:=Xy1 c.toNat hcl;have cls:∀m:Nat,Xjm c.toNat=m->(Xjm c.toNat).toNat=m:=fun m e=>by omega
   have g1:=Xy2 c.toNat hcl;have g2:=Xfk c.toNat hcl;have g3:=Xdj c.toNat hcl;have g4:=X61 c.toNat hcl;have e47:Xjm c.toNat ≠ 4->¬(c=47/\(s.drop (i+1)).head? = some 47):=fun hne h=>by
    obtain⟨rfl,_⟩:=h; exact hne (by decide +kernel)
   have key:∀m:Int,Xjm c.toNat=m->(Xt4 c=decide (m=1))/\(Xd0 c=decide (m=2))/\(Ys c=decide (m=3))/\(Ylc c=decide (m=4)):=fun m e=>by
    rw[e]at g1 g2 g3 g4;refine⟨?_,?_,?_,?_⟩<;>rw[Ucl,Ubp]
    ·exact g1.symm
    ·exact g2.symm
    ·exact g3.symm
    ·exact g4.symm
   have htwt:∀p:UInt8->Bool,p c=true->tw p s i=((s.drop (i+1)).takeWhile p).length+1/\(s.drop i).takeWhile p=c::(s.drop (i+1)).takeWhile p:=fun p hp=>by
    refine⟨(Ylj p hlt (by rw[hc]; exact hp)).2,?_⟩;rw[U1 hlt,hc,Uc1,Uby hp]
   rcases (by omega:Xjm c.toNat=0\/Xjm c.toNat=1\/Xjm c.toNat=2\/Xjm c.toNat=3\/Xjm c.toNat=4) with e | e | e | e | e
   ·obtain⟨k1,k2,k3,k4⟩:=key 0 e;simp only[stp,k1,k2,k3,k4,e47 (by rw[e]; decide),Uay,X5h]at he;simp[Xa1,hlt,hc',hcl,show (c.toNat:Int)<256 by omega,e,d1];refine Ye2 hP s i (out.map Tok.enc) (y:=4) (by simp) ?_;simp;exact pan (by simpa using he)
   ·obtain⟨k1,k2,k3,k4⟩:=key 1 e;simp[stp,k1]at he;simp[Xa1,hlt,hc',hcl,show (c.toNat:Int)<256 by omega,e,d2];refine Ye7 hP s i (out.map Tok.enc) (by omega) hlt (y:=4) (by simp) (by simp) ?_;simp;refine nx (i+1) out _ (by omega) (by omega) he (by omega) (by simp)
   ·obtain⟨k1,k2,k3,k4⟩:=key 2 e;have hp:Vw c=true:=by
     have:Wc c.toNat=true:=by simpa[Xd0]using k2
     simp[Vw,Xeb,this]
    obtain⟨t1,t2⟩:=htwt Vw hp;have hle:=Xv9 Vw s i (by omega);have k1:Xt4 c=false:=by simpa using k1
    have k2:Xd0 c=true:=by simpa using k2
    simp only[stp,k1,k2,e47 (by rw[e]; decide),Uah,Uay,Ubb]at he;simp[Xa1,hlt,hc',hcl,show (c.toNat:Int)<256 by omega,e,d3];refine Ymo hP s i (out.map Tok.enc) (by omega) hlt hout (y:=4) (by simp) (by simp) (fun h5=>?_) (fun h5=>?_)
    ·simp;rw[Ubo (by omega)]at he;exact pan (by simpa[X5h]using he)
    ·simp[Xgo];rw[Uby (by omega)]at he;simp only[Xgr]at he;have hjj:i+((s.drop (i+1)).takeWhile Vw).length+1=i+tw Vw s i:=by omega
     rw[hjj]at he;refine nx (i+tw Vw s i) (out++[⟨1,c::(s.drop (i+1)).takeWhile Vw,0,i⟩]) _ (by omega) (by simp; omega) he (by omega) ?_;simp[Tok.enc,t2]
   ·obtain⟨k1,k2,k3,k4⟩:=key 3 e;have hp:Ys c=true:=by simpa using k3
    obtain⟨t1,t2⟩:=htwt Ys hp;have hle:=Xv9 Ys s i (by omega);have k1:Xt4 c=false:=by simpa using k1
    have k2:Xd0 c=false:=by simpa using k2
    simp only[stp,k1,k2,hp,e47 (by rw[e]; decide),Uah,Uay,Ubb]at he;simp[Xa1,hlt,hc',hcl,show (c.toNat:Int)<256 by omega,e,d4];refine Xyq hP s i (out.map Tok.enc) (by omega) hlt hout (y:=4) (by simp) (by simp) (by rw[hc]; exact hp) (fun h5=>?_) (fun m h5=>?_)
    ·simp;rw[t2]at h5;rw[h5]at he;exact pan (by simpa[X5h]using he)
    ·simp[Xgo];rw[t2]at h5;rw[h5]at he;simp only[Xgr]at he;have hjj:i+((s.drop (i+1)).takeWhile Ys).length+1=i+tw Ys s i:=by omega
     rw[hjj]at he;refine nx (i+tw Ys s i) (out++[⟨2,[],m,i⟩]) _ (by omega) (by simp; omega) he (by omega) ?_;simp[Tok.enc]
   ·obtain⟨k1,k2,k3,k4⟩:=key 4 e;simp[Xa1,hlt,hc',hcl,show (c.toNat:Int)<256 by omega,e,d5];refine Ye6 hP s i (out.map Tok.enc) (by omega) hlt hout (y:=4) (by simp) (by simp) (by rw[hc]; simpa using k4) (fun h5=>?_) (fun h5=>?_)
    ·rw[hc]at h5;obtain⟨rfl,h6⟩:=h5;obtain⟨t1,t2⟩:=htwt Jh rfl;have hle:=Xv9 Jh s i (by omega);simp only[stp,k1,h6,and_self,Ubb,Ubp,show ¬((4:Int)=1) by decide,Uay]at he;simp;have hjj:i+((s.drop (i+1)).takeWhile Jh).length+1=i+tw Jh s i:=by omega
     rw[hjj]at he;refine nx (i+tw Jh s i) out _ (by omega) (by omega) he (by omega) ?_;simp
    ·rw[hc]at h5;simp only[stp,k1,k2,k3,k4,h5,Uay,Ubp,show ¬((4:Int)=1) by decide,show ¬((4:Int)=2) by decide,show ¬((4:Int)=3) by decide,Ubb,Xgr]at he;simp[Xgo];refine nx (i+1) (out++[⟨3,[c],0,i⟩]) _ (by omega) (by simp; omega) he (by omega) ?_;simp[Tok.enc,hc]
  ·have hi':i=s.length:=by omega
   subst hi';simp[Xa1];refine re _ _ _ ?_;simp;refine Ymq hP ?_;simp;rw[X9l (Uak _)]at he;rw[he]at h;simpa[X5h,Y96,Ylh]using h
end
end Go.Proofs.YtolkimpelpnpbaaGreatDoor
namespace Go.Ab
open Go
def S.rgs:S->List (Nat×List Nat×S×S)
 | .seq a b=>a.rgs++b.rgs
 | .cond _ a b=>a.rgs++b.rgs
 | .block _ a=>a.rgs
 | .loop _ a=>a.rgs
 | .rgf tag ps _ x y _=>[(tag,ps,x,y)]
 | _=>[]
theorem Rd1 {P:Prg}:∀s:S,(∀t∈s.rgs,Vm P t.1 t.2.1 t.2.2.1 t.2.2.2)->s.loops P
 | .seq a b,h=>⟨Rd1 a fun t ht=>h t (List.mem_append_left _ ht),Rd1 b fun t ht=>h t (List.mem_append_right _ ht)⟩
 | .cond _ a b,h=>⟨Rd1 a fun t ht=>h t (List.mem_append_left _ ht),Rd1 b fun t ht=>h t (List.mem_append_right _ ht)⟩
 | .block _ a,h=>Rd1 a h
 | .loop _ a,h=>Rd1 a h
 | .rgf tag ps _ x y _,h=>h (tag,ps,x,y) (Uci.2 rfl)
 | .rg _ _ _ _,_ | .rgT _ _ _ _,_ | .skip,_ | .exit _,_ | .ret,_=>trivial
theorem Xln {p:Nat->FI->Bool}:∀{F:FT} {f:Nat} {x:FI},F.all (fun e=>p e.1 e.2)=true->Jj F f=some x->p f x=true
 | [],_,_,_,h=>by cases h
 | (j,y)::r,f,x,ha,h=>by
  simp only[List.all_cons,Uai]at ha;simp only[Jj,Ucx]at h;split at h
  ·rename_i e;cases h;have:=Uaj e;subst this;exact ha.1
  ·exact Xln ha.2 h
end Go.Ab
namespace Go.Py
open Go Go.Ab Go.Lx
theorem X9z:∀{n:Nat} {sn:List Nat},n<=3->sn.Perm (List.range n)->sn∈Yk1 n
 | 0,sn,_,h=>by
  have:sn=[]:=by simpa using h.length_eq
  simp[Yk1,this]
 | 1,sn,_,h=>by
  have:sn=[0]:=by simpa[List.range,List.range.loop]using h
  simp[Yk1,this]
 | 2,sn,_,h=>by
  have hl:=h.length_eq;have hn:=h.nodup_iff.2 List.nodup_range;have hm:∀x∈sn,x<2:=fun x hx=>by simpa using (h.mem_iff.1 hx)
  match sn,hl with
  | [a,b],_=>
   have ha:=hm a (by simp); have hb:=hm b (by simp);have:a ≠ b:=by simpa using hn
   have:a=0/\b=1\/a=1/\b=0:=by omega
   rcases this with⟨rfl,rfl⟩ | ⟨rfl,rfl⟩<;>simp[Yk1]
 | 3,sn,_,h=>by
  have hl:=h.length_eq;have hn:=h.nodup_iff.2 List.nodup_range;have hm:∀x∈sn,x<3:=fun x hx=>by simpa using (h.mem_iff.1 hx)
  match sn,hl with
  | [a,b,c],_=>
   have ha:=hm a (by simp); have hb:=hm b (by simp); have hc:=hm c (by simp);have h1:(a ≠ b/\a ≠ c)/\b ≠ c:=by simpa using hn
   obtain⟨⟨h1,h2⟩,h3⟩:=h1;have:a=0/\b=1/\c=2\/a=0/\b=2/\c=1\/a=1/\b=0/\c=2\/a=1/\b=2/\c=0\/a=2/\b=0/\c=1\/a=2/\b=1/\c=0:=by omega
   rcases this with⟨rfl,rfl,rfl⟩ | ⟨rfl,rfl,rfl⟩ | ⟨rfl,rfl,rfl⟩ | ⟨rfl,rfl,rfl⟩ | ⟨rfl,rfl,rfl⟩ | ⟨rfl,rfl,rfl⟩<;>simp[Yk1]
 | n+4,_,h,_=>by omega
theorem Yfh {e:D×V}{p:Int×Int}(h:Y1i e=some p):e=Uq p:=by
 unfold Y1i at h;split at h
 ·cases h; rfl
 ·cases h
theorem Xg1:∀{es:List (D×V)} {l:List (Int×Int)},X64 es=some l->es=l.map Uq
 | [],l,h=>by cases h; rfl
 | e::r,l,h=>by
  unfold X64 at h;split at h
  ·rename_i p l' h1 h2;cases h;rw[Yfh h1,Xg1 h2]; rfl
  ·cases h
end Go.Py
namespace Go.Proofs.YtolkimpelpnpbaaGreatDoor
open Go Go.Ab Go.Lx Go.Py
structure IvlZ (P:Prg):Prop where
 factors:GlobIs P 0 (.agg [.int .i64 2,.int .i64 1000])
 editions:GlobIs P 1 (.agg [.int .i64 1,.int .i64 255])
 mosts:GlobIs P 2 (.agg [.int .i64 0,.int .i64 32])
 weights:GlobIs P 3 (.agg [.int .i64 0,.int .i64 9])
 anyN:GlobIs P 4 (.agg [.int .i64 0,.int .i64 1048576])
structure LoopZ (P:Prg):Prop where
 keys:Xa2 P
 change:Vm P 18 [34] ir18900 ir18901
 ints:Vm P 260 [7] ir260900 ir260901
section
variable {P:Prg} (hP:P.p=Tryz.prog) (hI:IvlZ P) (hL:LoopZ P)
include hP hI hL
theorem Ydp (g:Nat)(x:D)(h:xgl g=some x):GlobIs P g x:=by
 simp only[xgl,Ucx]at h;split at h
 ·rename_i e; cases h; rw[Uaj e]; exact hI.factors
 split at h
 ·rename_i e; cases h; rw[Uaj e]; exact hI.editions
 split at h
 ·rename_i e; cases h; rw[Uaj e]; exact hI.mosts
 split at h
 ·rename_i e; cases h; rw[Uaj e]; exact hI.weights
 split at h
 ·rename_i e; cases h; rw[Uaj e]; exact hI.anyN
 ·cases h
theorem Ydq:xz0.ok P:=⟨fun _ _ _ _ _ h=>(by cases h),fun _ _ _ _ h=>(by cases h),fun _ h=>(by cases h),Ydp hP hI hL,fun _ _ _ _ _ h=>(by cases h),fun _ _ _ _ _ h=>(by cases h)⟩
theorem Xtd (tag:Nat)(ps:List Nat)(x y:S)(h:xlt tag=some (ps,x,y)):Vm P tag ps x y/\x.noR=true/\y.noR=true:=by
 simp only[xlt,Ucx]at h;split at h
 ·rename_i e; cases h; rw[Uaj e]; exact⟨hL.change,by kernel_rfl,by kernel_rfl⟩
 split at h
 ·rename_i e; cases h; rw[Uaj e]; exact⟨hL.ints,by kernel_rfl,by kernel_rfl⟩
 ·cases h
theorem Xc4:FT.lps P W2:=by
 intro f x h;have h1:=Xln (p:=fun f x=>Nat.beq f 18||Nat.beq f 204||Nat.beq f 260||x.nr) (F:=W2) (by kernel_rfl) h;simp only[Ucd]at h1;rcases h1 with ((e | e) | e) | e
 ·rw[Uaj e]at h;have h2:Jj W2 18=some (.br Yo5 [.c 4 1 false,.c 5 1 false] 2):=by kernel_rfl
  rw[h2]at h; cases h;refine Rd1 Yo5 fun t ht=>?_;have h3:Yo5.rgs=[(18,[34],ir18900,ir18901)]:=by kernel_rfl
  rw[h3]at ht;rw[Uci.1 ht]; exact hL.change
 ·rw[Uaj e]at h;have h2:Jj W2 204=some (.pr Xve [.t 4] 2):=by kernel_rfl
  rw[h2]at h; cases h;refine Rd1 Xve fun t ht=>?_;have h3:Xve.rgs=[(204,[7],ir204900,ir204901)]:=by kernel_rfl
  rw[h3]at ht;rw[Uci.1 ht]; exact hL.keys
 ·rw[Uaj e]at h;have h2:Jj W2 260=some (.pr X08 [.t 4] 2):=by kernel_rfl
  rw[h2]at h; cases h;refine Rd1 X08 fun t ht=>?_;have h3:X08.rgs=[(260,[7],ir260900,ir260901)]:=by kernel_rfl
  rw[h3]at ht;rw[Uci.1 ht]; exact hL.ints
 ·exact x.lps_nr e
theorem Yaa {ob:Xb}{a:Nat}{fs:List (Int×Int)}{sn:List Nat}{s:List D}(h:Yl0 ob a fs sn=some s):s.length=sn.length/\ACall P 108 [.sl a sn.length,.fn 54 [] []] ((a,.arr 76 2 (sn.map fun i=>fD (atF fs i)))::ob) fun o b=>o=.ret (.tup [])/\b=(a,.arr 76 2 s)::ob:=by
 have fo:=Xdu (P:=P) (L:=100) (F:=W2) (by rw[hP]; exact mixed) (by rw[hP]; exact Xi9) (Xc4 hP hI hL) (Ydq hP hI hL) (fun _ _ _ _ h=>by cases h) 12;unfold Yl0 at h;generalize hq:(fns 100 W2 xz0 12).call 108 [.sl a sn.length,.fn 54 [] []] ((a,.arr 76 2 (sn.map fun i=>fD (atF fs i)))::ob)=q at h;unfold Zg2 at h;split at h
 ·rw[Ucx]at h;split at h
  ·rename_i e;cases h;simp only[Uai]at e;obtain⟨⟨⟨e1,e2⟩,e3⟩,e4⟩:=e;have e1:=Uaj e1;have e3:=Uaj e3;have e4:=Jd _ _ e4;subst e1; subst e3; subst e4;exact⟨Uaj e2,fo.call _ _ _ _ _ hq⟩
  ·cases h
 ·cases h
theorem Xrn {ob:Xb}{a:Nat}{fs:List (Int×Int)}{s:List D}:∀{l:List (List Nat)},Yys ob a fs s l=true->∀sn∈l,Yl0 ob a fs sn=some s
 | [],_,sn,hm=>by cases hm
 | x::r,h,sn,hm=>by
  simp only[Yys,Uai]at h;rcases Uax.1 hm with rfl | hm
  ·have h1:=h.1;split at h1
   ·rename_i l e;rw[e,D.eqbs_eq _ _ h1]
   ·cases h1
  ·exact Xrn h.2 sn hm
theorem X6c {ob:Xb}{bx E m:Nat}{fs:List (Int×Int)}(hb:Xd ob bx=some (.box E (.mp m)))(hm:Xd ob m=some (.map (fs.map Uq)))(hn:fs.length<=3){o:Out}{b:Xb}(hne:fs ≠ [])(h:Yaf ob fs=some (o,b)):ACall P 52 [.fn 109 [] [.ptr bx []],.fn 54 [] []] ob fun o' b'=>o'=o/\b'=b:=by
 refine Xn hP mixed Yzb Y4t TOk.nil fun _ hno=>?_;simp[Y0x];refine Xc6 hP hL.keys hb hm (by omega) (fun e=>absurd (Uct.1 e) hne) (fun sn hs hsn=>?_);have hmem:=X9z hn hs;unfold Yaf at h;split at h
 ·rename_i s0 r e0;split at h
  ·rename_i s e1;rw[Ucx]at h;split at h
   ·rename_i e2;cases h;have hrun:Yl0 ob (Xa ob+5) fs sn=some s:=by
     rw[e0]at hmem;rcases Uax.1 hmem with e | e
     ·rw[e]; exact e1
     ·exact Xrn hP hI hL e2 sn e
    obtain⟨hlen,hcall⟩:=Yaa hP hI hL hrun;simp[Xgm];refine hcall.mono fun o b ⟨h1,h2⟩=>?_;subst h1; subst h2;rw[<-hlen];simp[Xgl];refine⟨[],by simp,?_,?_⟩
    ·simp[Xc]; exact hno _
    ·simp[Xc]
   ·cases h
  ·cases h
 ·cases h
theorem Xx4 {ob:Xb}{bx E m:Nat}(hb:Xd ob bx=some (.box E (.mp m)))(hm:Xd ob m=some (.map [])){o:Out}{b:Xb}(h:Y5k ob ((fns 100 W2 xz0 12).call 108 [.d .nils,.fn 54 [] []] ob)=some (o,b)):ACall P 52 [.fn 109 [] [.ptr bx []],.fn 54 [] []] ob fun o' b'=>o'=o/\b'=b:=by
 have fo:=Xdu (P:=P) (L:=100) (F:=W2) (by rw[hP]; exact mixed) (by rw[hP]; exact Xi9) (Xc4 hP hI hL) (Ydq hP hI hL) (fun _ _ _ _ h=>by cases h) 12;refine Xn hP mixed Yzb Y4t TOk.nil fun _ hno=>?_;simp[Y0x];refine Xc6 (fs:=[]) hP hL.keys hb hm (by simp) (fun _=>?_) (fun sn hs hsn=>absurd (by simpa using hs.length_eq) hsn);generalize hq:(fns 100 W2 xz0 12).call 108 [.d .nils,.fn 54 [] []] ob=q at h;unfold Y5k at h;split at h
 ·rw[Ucx]at h;split at h
  ·rename_i e;cases h;have e:=Jd _ _ e;subst e;simp[Xgm];refine (fo.call _ _ _ _ _ hq).mono fun o b ⟨h1,h2⟩=>?_;subst h1; subst h2;simp[Xgl];exact⟨[],by simp,by simpa using hno [],by simp⟩
  ·cases h
 ·cases h
theorem Yat (f:Nat)(vs:List V)(ob:Xb)(o:Out)(b:Xb)(h:xcall f vs ob=some (o,b)):ACall P f vs ob fun o' b'=>o'=o/\b'=b:=by
 unfold xcall at h;rw[Ucx]at h;split at h
 ·rename_i ef;rw[Uaj ef];split at h
  ·rename_i g bx hh;rw[Ucx]at h;split at h
   ·rename_i e;simp only[Uai]at e;rw[Uaj e.1,Uaj e.2];generalize hb:Xd ob bx=ox at h;unfold Yx6 at h;split at h
    ·rename_i E m;generalize hm:Xd ob m=om at h;unfold Yx5 at h;split at h
     ·rename_i es;split at h
      ·rename_i hd;rw[Xg1 hd]at hm;exact Xx4 hP hI hL hb hm h
      ·rename_i fs hne hd;rw[Xg1 hd]at hm;have hn:fs.length<=3:=by
        rcases Uaa 3 fs.length with h4 | h4
        ·exfalso;unfold Yaf at h;have:Yk1 fs.length=[]:=by
          match hk:fs.length,h4 with
          | k+4,_=>rfl
         rw[this]at h;cases h
        ·exact h4
       exact X6c hP hI hL hb hm hn (fun e=>hne e) h
      ·cases h
     ·cases h
    ·cases h
   ·cases h
  ·cases h
 ·cases h
theorem Zab:xz.ok P:=by
 refine⟨Yat hP hI hL,fun f vs ob v h=>?_,fun f h=>?_,Ydp hP hI hL,fun _ _ _ _ _ h=>(by cases h),fun f vs ob v b h=>?_⟩
 ·simp only[xz]at h;unfold xpc at h;split at h
  ·rename_i s;rw[Ucx]at h;split at h
   ·rename_i e;cases h;rw[Uaj e,X9m];exact Y08 hP s rfl
   ·cases h
  ·cases h
 ·simp only[xz]at h;rw[Uaj h];exact Xyr hP
 ·simp only[xz]at h;unfold xxc at h;split at h
  ·exact Xkf hP Xrz Xy0 h
  ·cases h
end
end Go.Proofs.YtolkimpelpnpbaaGreatDoor
namespace Go.Py
open Go Go.Ab Go.Lx
structure Ent where
 f:Nat
 xs:List D
 v:V
def Yy2 (f:Nat)(ds:List D):List Ent->Option V
 | []=>none
 | e::r=>bif Nat.beq f e.f&&D.eqbs ds e.xs then some e.v else Yy2 f ds r
def Ylq (f:Nat)(l:List Ent):Option (List D)->Option V
 | some ds=>Yy2 f ds l
 | none=>none
end Go.Py
namespace Go.Proofs.YtolkimpelpnpbaaGreatDoor
open Go Go.Ab Go.Lx Go.Py
def pcE (l:List Ent)(f:Nat)(vs:List V):Option V:=match Ylq f l (Ra5 vs) with
 | some v=>some v
 | none=>xpc f vs
def xzE (l:List Ent):Fns:=⟨xcall,fun f vs _=>pcE l f vs,fun f=>Nat.beq f 109,xgl,fun _ _ _=>none,xlt,xxc⟩
section
variable {P:Prg} (hP:P.p=Tryz.prog) (hI:IvlZ P) (hL:LoopZ P)
include hP hI hL
theorem Yll:(xzE []).ok P:=by
 have h:=Zab hP hI hL;refine⟨h.call,fun f vs ob v hv=>?_,h.ca,h.gl,h.yd,h.xc⟩;refine h.pc f vs ob v ?_;simp only[xzE,pcE]at hv;cases hd:Ra5 vs with
 | none=>rw[hd]at hv; exact hv
 | some ds=>rw[hd]at hv; exact hv
theorem Xw {l:List Ent}{e:Ent}(h:(xzE l).ok P)(he:∀ob,(fns 3000 W2 (xzE l) 40).pc e.f (e.xs.map .d) ob=some e.v):(xzE (e::l)).ok P:=by
 have fo:=Xdu (P:=P) (L:=3000) (F:=W2) (by rw[hP]; exact mixed) (by rw[hP]; exact Xi9) (Xc4 hP hI hL) h (Xtd hP hI hL) 40;refine⟨h.call,fun f vs ob v hv=>?_,h.ca,h.gl,h.yd,h.xc⟩;have old:(pcE l f vs=some v)->PCall P f vs ob fun v'=>v'=v:=fun hv=>h.pc f vs ob v hv;simp only[xzE]at hv;unfold pcE at hv;split at hv
 ·rename_i u hu;cases hv;cases hd:Ra5 vs with
  | none=>rw[hd]at hu; cases hu
  | some ds=>
   rw[hd]at hu;simp only[Ylq,Yy2,Ucx]at hu;split at hu
   ·rename_i hc;cases hu;simp only[Uai]at hc;rw[V.allD_map hd,Uaj hc.1,D.eqbs_eq _ _ hc.2];exact fo.pc _ _ ob _ (he ob)
   ·refine old ?_;unfold pcE;rw[hd];simp only[Ylq,hu]
 ·rename_i hu;refine old ?_;unfold pcE;cases hd:Ra5 vs with
  | none=>simp only[Ylq]; exact hv
  | some ds=>
   rw[hd]at hu;simp only[Ylq,Yy2,Ucx]at hu;split at hu
   ·cases hu
   ·simp only[Ylq,hu]; exact hv
end
end Go.Proofs.YtolkimpelpnpbaaGreatDoor
