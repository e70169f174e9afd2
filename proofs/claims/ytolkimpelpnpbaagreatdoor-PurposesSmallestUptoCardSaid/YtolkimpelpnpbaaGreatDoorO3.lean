/- Texts of this claim joined by a program, part 3 of 20; the last is: Expressions: what an operation that only reads yields, as a value. Over any program; no condition. -/
import Derived.Test.YtolkimpelpnpbaaGreatDoorO1
import Derived.Test.YtolkimpelpnpbaaGreatDoorO2
import Derived.Tactics
import Derived.RangeFuncIn
set_option linter.unusedSimpArgs false
set_option linter.unusedVariables false
set_option linter.unusedSectionVars false
set_option linter.defProp false
namespace Go.Ab
open Go
section
variable {P:Program} {ops:Array Oper} {Q:Exit->Act->World->Prop} {md:Region.Mode} {R:Nat->World->World->Prop}

def Wd (P:Program)(md:Region.Mode)(ops:Array Oper)(Q:Exit->Act->World->Prop)(R:Nat->World->World->Prop):Nat->Array Bool->Act->World->Prop
 | 0,listed,a,w=>Region.ready md ops listed=[]/\Q .normal a w
 | fuel+1,listed,a,w=>
  (Region.ready md ops listed=[]->Q .normal a w)/\
  ∀i∈Region.ready md ops listed,Q9 P ops Q i (fun a' w'=>R i w w'/\Wd P md ops Q R fuel (listed.setIfInBounds i true) a' w') a w

theorem Xa1:∀(fuel:Nat) (listed:Array Bool) (a:Act) (w:World),Wd P md ops Q R fuel listed a w->Xlb P md ops Q fuel listed a w
 | 0,_,_,_,h=>h
 | fuel+1,_,_,_,h=>⟨h.1,fun i hi=>Wq (fun a' w' h'=>Xa1 fuel _ a' w' h'.2) (h.2 i hi)⟩

theorem Q8 {R':Nat->World->World->Prop}(hR:∀j u v,R j u v->R' j u v):∀(fuel:Nat) (listed:Array Bool) (a:Act) (w:World),Wd P md ops Q R fuel listed a w->Wd P md ops Q R' fuel listed a w
 | 0,_,_,_,h=>h
 | fuel+1,_,_,_,h=>⟨h.1,fun i hi=>Wq (fun a' w' h'=>⟨hR _ _ _ h'.1,Q8 hR fuel _ a' w' h'.2⟩) (h.2 i hi)⟩

theorem Q7:∀(n m:Nat) (listed:Array Bool) (a:Act) (w:World),n<=m->Xlb P md ops Q n listed a w->Xlb P md ops Q m listed a w
 | 0,0,_,_,_,_,h=>h
 | 0,m+1,_,_,_,_,h=>⟨fun _=>h.2,fun i hi=>by rw[h.1]at hi; cases hi⟩
 | n+1,0,_,_,_,hle,_=>by omega
 | n+1,m+1,_,_,_,hle,h=>⟨h.1,fun i hi=>Wq (fun a' w' h'=>Q7 n m _ a' w' (by omega) h') (h.2 i hi)⟩

def Xa3 (md:Region.Mode)(ops:Array Oper)(listed:Array Bool):Prop:=
 ∀k o,ops[k]? = some o->listed.getD k false=true->∀e∈o.after,Region.binds md e=true->listed.getD e.on false=true

theorem Xa3.step {listed:Array Bool}(h:Xa3 md ops listed){j:Nat}(hj:j∈Region.ready md ops listed):Xa3 md ops (listed.setIfInBounds j true):=by
 obtain⟨_,oj,hoj,hall⟩:=mem_ready.1 hj;intro k o hk hl e he hb;by_cases hjk:j=k
 ·subst hjk;rw[hoj]at hk; simp at hk; subst hk;exact getD_set_true (hall e he hb)
 ·rw[getD_set_ne false hjk]at hl;exact getD_set_true (h k o hk hl e he hb)

def W4 (md:Region.Mode)(ops:Array Oper)(i:Nat):Nat->Nat->Bool
 | 0,_=>false
 | fuel+1,j=>match ops[j]? with
  | some o=>o.after.any fun e=>Region.binds md e&&(e.on==i||W4 md ops i fuel e.on)
  | none=>false

theorem Xbl {listed:Array Bool}(hc:Xa3 md ops listed){i:Nat}:∀(fuel k:Nat),W4 md ops i fuel k=true->listed.getD k false=true->listed.getD i false=true
 | 0,k,h,_=>by simp[W4]at h
 | fuel+1,k,h,hl=>by
  simp only[W4]at h;split at h
  ·rename_i o ho;rw[Array.any_eq_true']at h;obtain⟨e,he,h⟩:=h;simp only[Uai,Ucd,Ubn]at h;have h1:=hc k o ho hl e he h.1;rcases h.2 with h2 | h2
   ·rw[<-h2]; exact h1
   ·exact Xbl hc fuel e.on h2 h1
  ·simp at h

theorem Js {listed:Array Bool}(hc:Xa3 md ops listed){i j fuel:Nat}(hi:listed.getD i true=false)(h:W4 md ops i fuel j=true):j∉Region.ready md ops listed:=by
 intro hj;obtain⟨_,o,ho,hall⟩:=mem_ready.1 hj;cases fuel with
 | zero=>simp[W4]at h
 | succ fuel=>
  simp only[W4,ho]at h;rw[Array.any_eq_true']at h;obtain⟨e,he,h⟩:=h;simp only[Uai,Ucd,Ubn]at h;have h1:=hall e he h.1;have hli:listed.getD i false=true:=by
   rcases h.2 with h2 | h2
   ·rw[<-h2]; exact h1
   ·exact Xbl hc fuel e.on h2 h1
  rcases Uaa i listed.size with h' | h'
  ·simp[h']at hi hli; rw[hi]at hli; cases hli
  ·simp[Uab h']at hli

theorem Xtb {S S':World->Prop}{o:Oper}{v:Value}{a:Act}(h:YieldsIf P ops S o v a)(hs:∀w,S' w->S w):YieldsIf P ops S' o v a:=
 h.imp (fun ⟨h1,h2⟩=>⟨h1,fun w hw=>h2 w (hs w hw)⟩) id

theorem Yn {S:World->World->Prop}(hrefl:∀w,S w w)(htrans:∀u v w,S u v->S v w->S u w){l:Bool}{i:Nat}{oi:Oper}{v:Value}(hi:ops[i]? = some oi)(hsel:∀(j:Nat) (o:Oper) cs b,ops[j]? = some o->o.op ≠ .select cs b)
  (hQ:∀c a w,Q (.panic c) (a.put oi.dst v) w->Q (.panic c) a w) (hl:l=true->∀j,j<ops.size->j ≠ i->(∃fuel,W4 md ops i fuel j=true)\/∀u v,R j u v->S u v) (hself:∀w,R i w w) :
  ∀(fuel:Nat) (listed:Array Bool) (a:Act) (w:World),Xa3 md ops listed->
   (∀j oj,ops[j]? = some oj->j ≠ i->listed.getD j true=false->(∀e∈oj.after,Region.binds md e=true->e.on ≠ i)->oi.apart ops oj=true)->
   i∈Region.ready md ops listed->YieldsIf P ops (fun w'=>l=true->S w w') oi v a->
   Wd P md ops Q R fuel (listed.setIfInBounds i true) (a.put oi.dst v) w->Wd P md ops Q R (fuel+1) listed a w:=by
 intro fuel;induction fuel with
 | zero=>
  intro listed a w _ _ hr hy H;refine⟨fun h=>(by rw[h]at hr; cases hr),fun j hj=>?_⟩;by_cases hji:j=i
  ·subst hji; exact Xlg hi hy (fun _=>hrefl w) ⟨hself w,H⟩
  ·have:=ready_mono hj hji;rw[H.1]at this;cases this
 | succ fuel ih=>
  intro listed a w hcl hfree hr hy H;refine⟨fun h=>(by rw[h]at hr; cases hr),fun j hj=>?_⟩;by_cases hji:j=i
  ·subst hji; exact Xlg hi hy (fun _=>hrefl w) ⟨hself w,H⟩
  ·have h1:=H.2 j (ready_mono hj hji);obtain⟨hjun,oj,hoj,hall⟩:=mem_ready.1 hj;have hiun:=(mem_ready.1 hr).1;have hnot:∀e∈oj.after,Region.binds md e=true->e.on ≠ i:=fun e he hb heq=>by
    have h1:=hall e he hb;rw[heq]at h1;rcases Uaa i listed.size with h' | h'
    ·simp[h']at hiun h1; rw[hiun]at h1; cases h1
    ·simp[Uab h']at h1
   have h2:=Xoa hoj (hfree j oj hoj hji hjun hnot) (fun cs b=>hsel i oi cs b hi) (fun cs b=>hsel j oj cs b hoj) hQ hy h1;have hfree':∀k ok,ops[k]? = some ok->k ≠ i->(listed.setIfInBounds j true).getD k true=false->
     (∀e∈ok.after,Region.binds md e=true->e.on ≠ i)->oi.apart ops ok=true:=fun k ok hk hki hun hno=>by
    refine hfree k ok hk hki ?_ hno;by_cases hjk:j=k
    ·subst hjk; exact hjun
    ·rw[getD_set_ne true hjk]at hun; exact hun
   refine Wq (fun a' w' h3=>⟨h3.2.1,ih (listed.setIfInBounds j true) a' w' (hcl.step hj) hfree' (ready_mono hr (Ne.symm hji)) (Xtb h3.1 fun w'' h4 h5=>?_) ?_⟩) h2
   ·have hR:S w w':=by
     rcases hl h5 j (Array.getElem?_eq_some_iff.1 hoj).1 hji with⟨fl,hw⟩ | hs
     ·exact absurd hj (Js hcl hiun hw)
     ·exact hs _ _ h3.2.1
    exact htrans _ _ _ hR (h4 h5)
   ·rw[Array.setIfInBounds_comm _ _ hji];exact h3.2.2
end
end Go.Ab
namespace Go.Ab
open Go

def put (sl:Xf)(d:Option Nat)(v:V):Xf:=match d with
  | some k=>(k,v)::sl
  | none=>sl

inductive It where
  | op (d:Option Nat) (i:I)
  | gop (s:Nat) (want:Bool) (d:Option Nat) (i:I)

def gdK (s:Nat)(want:Bool)(sl:Xf)(Y N:Xf->Prop):V->Prop
  | .d (.bool b)=>(b=want->Y ((s,.d (.bool want))::sl))/\(b=!want->N ((s,.d (.bool (!want)))::sl))
  | .undef=>N sl
  | _=>False

def rwp (P:Prg)(K:Xf->Xb->Prop)(Pn:V->Xf->Xb->Prop):List It->Xf->Xb->Prop
  | [],sl,ob=>K sl ob
  | .op d i::r,sl,ob=>i.wp P sl ob (fun v ob'=>rwp P K Pn r (put sl d v) ob') (fun v ob'=>Pn v sl ob')
  | .gop s want d i::r,sl,ob=>gdK s want sl (fun sl=>i.wp P sl ob (fun v ob'=>rwp P K Pn r (put sl d v) ob') (fun v ob'=>Pn v sl ob')) (fun sl=>rwp P K Pn r (put sl d .undef) ob) (look sl s)

mutual
inductive Ot where
  | done
  | one (i:Nat) (x:It) (r:Ot)
  | br (l:Ots)
inductive Ots where
  | nil
  | cons (i:Nat) (x:It) (r:Ot) (l:Ots)
end
def itK (P:Prg)(next:Xf->Xb->Prop)(Pn:V->Xf->Xb->Prop):It->Xf->Xb->Prop
  | .op d i,sl,ob=>i.wp P sl ob (fun v ob'=>next (put sl d v) ob') (fun v ob'=>Pn v sl ob')
  | .gop s want d i,sl,ob=>gdK s want sl (fun sl=>i.wp P sl ob (fun v ob'=>next (put sl d v) ob') (fun v ob'=>Pn v sl ob')) (fun sl=>next (put sl d .undef) ob) (look sl s)
mutual
def owp (P:Prg)(K:Xf->Xb->Prop)(Pn:V->Xf->Xb->Prop):Ot->Xf->Xb->Prop
  | .done,sl,ob=>K sl ob
  | .one _ x r,sl,ob=>itK P (owp P K Pn r) Pn x sl ob
  | .br l,sl,ob=>Xee P K Pn l sl ob
def Xee (P:Prg)(K:Xf->Xb->Prop)(Pn:V->Xf->Xb->Prop):Ots->Xf->Xb->Prop
  | .nil,_,_=>True
  | .cons _ x r l,sl,ob=>itK P (owp P K Pn r) Pn x sl ob/\Xee P K Pn l sl ob
end

inductive S where
  | rg (ord:List Nat) (l:List It) (keep pk:List Nat)
  | rgT (n:Nat) (t:Ot) (keep pk:List Nat)
  | seq (a b:S)
  | skip
  | cond (c:A) (a b:S)
  | block (n:Nat) (a:S)
  | loop (keep:List Nat) (a:S)
  | exit (n:Nat)
  | ret
    | rgf (tag:Nat) (ps:List Nat) (g:A) (x y:S) (keep:List Nat)

def S.noR:S->Bool
  | .seq a b=>a.noR&&b.noR
  | .cond _ a b=>a.noR&&b.noR
  | .block _ a=>a.noR
  | .loop _ a=>a.noR
  | .rgf _ _ _ _ _ _=>false
  | _=>true

inductive AExit where
  | normal
  | exit (n:Nat)
  | ret
  | panic (v:V)

abbrev Y3:=AExit->Xf->Xb->Prop

def W3 (next:Xf->Xb->Prop)(Q:Y3):Y3
  | .normal,sl,ob=>next sl ob
  | .exit n,sl,ob=>Q (.exit n) sl ob
  | .ret,sl,ob=>Q .ret sl ob
  | .panic v,sl,ob=>Q (.panic v) sl ob
def Y7 (id:Nat)(Q:Y3):Y3
  | .normal,sl,ob=>Q .normal sl ob
  | .exit n,sl,ob=>if n=id then Q .normal sl ob else Q (.exit n) sl ob
  | .ret,sl,ob=>Q .ret sl ob
  | .panic v,sl,ob=>Q (.panic v) sl ob
def Xal (Y N:Prop):V->Prop
  | .d (.bool t)=>(t=true->Y)/\(t=false->N)
  | _=>False
def Xk (sl:Xf):List Nat->Xf
  | []=>[]
  | k::r=>(k,look sl k)::Xk sl r

mutual
def V.men (ids:Nat->Bool):V->Bool
  | .ptr id _=>ids id
  | .sl id _=>ids id
  | .sd id _=>ids id
  | .mp id=>ids id
  | .hd _ id=>ids id
  | .ep id _ _ _ _ _=>ids id
  | .bs id _ _ _=>ids id
  | .fn _ a b=>V.mens ids a||V.mens ids b
  | .agg xs=>V.mens ids xs
  | .iface _ v=>V.men ids v
  | .tup xs=>V.mens ids xs
  | _=>false
def V.mens (ids:Nat->Bool):List V->Bool
  | []=>false
  | x::r=>V.men ids x||V.mens ids r
end
def Yv (ids:Nat->Bool):Xb->Xb
  | []=>[]
  | (j,x)::r=>if ids j then Yv ids r else (j,x)::Yv ids r
def Wc (ids:Nat->Bool):Xf->Bool
  | []=>true
  | (_,v)::r=>!V.men ids v&&Wc ids r
def Q1 (ids:Nat->Bool):List (D×V)->Bool
  | []=>false
  | (_,v)::r=>V.men ids v||Q1 ids r
def Ju (ids:Nat->Bool):Option Nat->Bool
  | some j=>ids j
  | none=>false
def Xg (ids:Nat->Bool):Xb->Bool
  | []=>true
  | (_,.box _ t)::r=>!V.men ids t&&Xg ids r
  | (_,.vec _ _ xs)::r=>!V.mens ids xs&&Xg ids r
  | (_,.map es)::r=>!Q1 ids es&&Xg ids r
  | (_,.lp _ _ sl)::r=>Wc ids sl&&Xg ids r
  | (_,.it m _ _)::r=>!Ju ids m&&Xg ids r
  | _::r=>Xg ids r
def Xe (n:Nat)(kp:List Nat)(id:Nat):Bool:=decide (n<=id)&&!kp.contains id
def sub (keep:List Nat)(n:Nat)(K:Xf->Xb->Prop)(sl:Xf)(ob:Xb):Prop:=
  ∃kp:List Nat,Wc (Xe n kp) (Xk sl keep)=true/\Xg (Xe n kp) (Yv (Xe n kp) ob)=true/\K (Xk sl keep) (Yv (Xe n kp) ob)

structure ALoop (keep:List Nat)(body:Y3->Xf->Xb->Prop)(Q:Y3)(sl:Xf)(ob:Xb):Prop where
  run:∃(ι:Type) (S:ι->Xf) (O:ι->Xb) (I:ι->Prop) (μ:ι->Nat) (i0:ι),I i0/\Xk sl keep=S i0/\ob=O i0/\
    ∀i,I i->body (W3 (sub keep (Xa (O i)) fun sl' ob'=>∃j,I j/\μ j<μ i/\sl'=S j/\ob'=O j) Q) (S i) (O i)


def Xan (N:Nat):Option Nat->Option Nat->Bool
  | some k,some j=>k==j&&decide (k<N)
  | none,none=>true
  | _,_=>false

def It.chk (P:Program)(N:Nat)(ops:Array Oper)(o:Oper):It->Bool
  | .op d i=>Xan N o.dst d&&o.guard.isNone&&i.chk P o.op
  | .gop s want d i=>Xan N o.dst d&&(match o.guard with
    | some (j,b)=>b==want&&(match ops[j]? with | some o'=>o'.dst==some s | none=>false)
    | none=>false)&&i.chk P o.op

def Wk (P:Program)(N:Nat)(ops:Array Oper):List Oper->List It->Bool
  | [],[]=>true
  | o::r,i::s=>i.chk P N ops o&&Wk P N ops r s
  | _,_=>false

def It.kind:It->Nat
  | .op _ i=>i.kind
  | .gop _ _ _ i=>i.kind
def X6t:List Nat->List It->Nat->Nat
  | i::r,x::s,j=>if i=j then x.kind else X6t r s j
  | _,_,_=>3
def Xlv (P:Program)(N:Nat)(ops:Array Oper)(kd:Nat->Nat)(listed:Array Bool):List Nat->List It->Bool
  | [],[]=>(Region.ready .any ops listed).isEmpty
  | i::r,x::s=>(Region.ready .any ops listed).contains i&&(match ops[i]? with | some o=>x.chk P N ops o | none=>false)&&x.kind==kd i&&
      (match x.kind with
        | 0=>Region.free .any ops listed i
        | 5=>Region.free .any ops listed i
        | 1=>Region.free .any ops listed i&&(List.range ops.size).all (fun j=>kd j != 3||j==i||W4 .any ops i 1 j||W4 .any ops i ops.size j)
        | _=>(Region.ready .any ops listed)==[i])&&
      Xlv P N ops kd (listed.setIfInBounds i true) r s
  | _,_=>false
mutual
def Ot.kinds:Ot->List (Nat×Nat)
  | .done=>[]
  | .one i x r=>(i,x.kind)::r.kinds
  | .br l=>l.kinds
def Ots.kinds:Ots->List (Nat×Nat)
  | .nil=>[]
  | .cons i x r l=>(i,x.kind)::(r.kinds++l.kinds)
end
def X6u:List (Nat×Nat)->Nat->Nat
  | [],_=>3
  | (i,k)::r,j=>if i=j then k else X6u r j
def Ots.has (j:Nat):Ots->Bool
  | .nil=>false
  | .cons i _ _ l=>i==j||l.has j
mutual
def V7 (P:Program)(N:Nat)(ops:Array Oper)(kd:Nat->Nat):Nat->Array Bool->Ot->Bool
  | 0,listed,.done=>(Region.ready .any ops listed).isEmpty
  | n+1,listed,.one i x r=>(Region.ready .any ops listed).contains i&&(match ops[i]? with | some o=>x.chk P N ops o | none=>false)&&x.kind==kd i&&
      (match x.kind with
        | 0=>Region.free .any ops listed i
        | 5=>Region.free .any ops listed i
        | 1=>Region.free .any ops listed i&&(List.range ops.size).all (fun j=>kd j != 3||j==i||W4 .any ops i 1 j||W4 .any ops i ops.size j)
        | _=>(Region.ready .any ops listed)==[i])&&
      V7 P N ops kd n (listed.setIfInBounds i true) r
  | n+1,listed,.br l=>!(Region.ready .any ops listed).isEmpty&&(Region.ready .any ops listed).all (fun j=>l.has j)&&Xf7 P N ops kd n listed l
  | _,_,_=>false
def Xf7 (P:Program)(N:Nat)(ops:Array Oper)(kd:Nat->Nat):Nat->Array Bool->Ots->Bool
  | _,_,.nil=>true
  | n,listed,.cons i x r l=>(Region.ready .any ops listed).contains i&&(match ops[i]? with | some o=>x.chk P N ops o | none=>false)&&x.kind==kd i&&V7 P N ops kd n (listed.setIfInBounds i true) r&&Xf7 P N ops kd n listed l
end
def Xb1 (pk:List Nat)(ops:Array Oper):Bool:=ops.toList.all fun o=>match o.dst with
  | some d=>!pk.contains d
  | none=>true

def Xn0 (ops:Array Oper):Bool:=ops.toList.all fun o=>match o.op with
  | .defer _=>false
  | _=>true
def S.chk (P:Program)(N:Nat):Code->S->Bool
  | .skip,.skip=>true
  | .region _ ops draw,.rg ord l _ pk=>Xn0 ops&&if draw then decide (ord.length<=ops.size)&&Region.noSelect ops&&Xb1 pk ops&&Xlv P N ops (X6t ord l) (Array.replicate ops.size false) ord l else Wk P N ops ops.toList l
  | .region _ ops draw,.rgT n t _ pk=>Xn0 ops&&draw&&decide (n<=ops.size)&&Region.noSelect ops&&Xb1 pk ops&&V7 P N ops (X6u t.kinds) n (Array.replicate ops.size false) t
  | .seq a b,.seq x y=>S.chk P N a x&&S.chk P N b y
  | .cond c a b,.cond d x y=>A.chk c d&&S.chk P N a x&&S.chk P N b y
  | .block n a,.block m x=>n==m&&S.chk P N a x
  | .loop a,.loop _ x=>S.chk P N a x
  | .exit n,.exit m=>n==m
  | .ret,.ret=>true
  | .rangeFunc f qs a c,.rgf _ ps g x y _=>A.chk f g&&((qs.toList==ps)&&ps.all (fun k=>decide (k<N))&&S.chk P N a x&&S.chk P N c y&&x.noR&&y.noR)
  | _,_=>false

def W5 (P:Prg)(tag:Nat)(ps:List Nat)(x y:S):Prop:=∀(qs:Array Nat) (N:Nat) (ca cb:Code),P.g.l tag qs N ca cb↔((qs.toList==ps)&&ps.all (fun k=>decide (k<N))&&S.chk P.p N ca x&&S.chk P.p N cb y&&x.noR&&y.noR)=true
def rgE (Q:Y3)(slk:Xf)(id:Nat)(ob:Xb):Option Ob->Prop
  | some (.lp _ .ready _)=>Q .normal slk (setO ob id .gone)
  | some (.lp _ .ret _)=>Q .ret slk (setO ob id .gone)
  | some (.lp _ (.exit n) _)=>Q (.exit n) slk (setO ob id .gone)
  | _=>False
def rgQ (Q:Y3)(slk:Xf)(id:Nat):Out->Xb->Prop
  | .ret _,ob=>rgE Q slk id ob (Xc ob id)
  | .panic _,_=>False
def rgK (P:Prg)(tag:Nat)(slk:Xf)(ob:Xb)(Q:Y3):V->Prop
  | .fn f fi ca=>Xm P.p f=true/\ACall P f (fi++[.hd true (Xa ob)]++ca) ((Xa ob,.lp tag .ready slk)::ob) (rgQ Q slk (Xa ob))
  | .d (.fn f fi ca)=>Xm P.p f=true/\ACall P f (fi.map .d++[.hd true (Xa ob)]++ca.map .d) ((Xa ob,.lp tag .ready slk)::ob) (rgQ Q slk (Xa ob))
  | _=>False

def cwp (P:Prg):S->Y3->Xf->Xb->Prop
  | .rg _ l keep pk,Q,sl,ob=>rwp P (fun sl ob=>Q .normal (Xk sl keep) ob) (fun v sl ob=>Q (.panic v) (Xk sl pk) ob) l sl ob
  | .rgT _ t keep pk,Q,sl,ob=>owp P (fun sl ob=>Q .normal (Xk sl keep) ob) (fun v sl ob=>Q (.panic v) (Xk sl pk) ob) t sl ob
  | .seq a b,Q,sl,ob=>cwp P a (W3 (cwp P b Q) Q) sl ob
  | .skip,Q,sl,ob=>Q .normal sl ob
  | .cond c a b,Q,sl,ob=>Xal (cwp P a Q sl ob) (cwp P b Q sl ob) (c.ev sl)
  | .block n a,Q,sl,ob=>cwp P a (Y7 n Q) sl ob
  | .loop keep a,Q,sl,ob=>ALoop keep (cwp P a) Q sl ob
  | .exit n,Q,sl,ob=>Q (.exit n) sl ob
  | .ret,Q,sl,ob=>Q .ret sl ob
  | .rgf tag ps g x y keep,Q,sl,ob=>W5 P tag ps x y/\rgK P tag (Xk sl keep) ob Q (g.ev sl)


structure Ctx where
  w0:World
  ex:Nat->Prop
  N:Nat
  df:List Deferred
  g:Gl
  m0:Nat->Option RO
  ev:List (V×Value)
  mrk:Bool:=false

def Env.del (ρ:Env)(ids:Nat->Bool):Env:=⟨fun j=>if ids j then none else ρ.m j,ρ.xo,ρ.gl⟩
def mkD (r:Nat):Deferred:={ target:=.collected r,args:=#[] }
def Dfr (c:Ctx)(w:World)(ρ:Env)(ds:List Deferred):Prop:=
  ∃ms:List Nat,ds=ms.map mkD++c.df/\(c.mrk=false->ms=[])/\ms.Nodup/\∀r∈ms,c.w0.heap.size<=r/\w.heap[r]? = some (.deferred (some []))/\¬Xbr ρ r
theorem Dfr.tr {c:Ctx}{w w':World}{ρ ρ':Env}{ds:List Deferred}(h:Dfr c w ρ ds)(t:Tr w ρ w' ρ'):Dfr c w' ρ' ds:=by
  obtain⟨ms,h1,h2,h3,h4⟩:=h;refine⟨ms,h1,h2,h3,fun r hr=>?_⟩;obtain⟨g1,g2,g3⟩:=h4 r hr;have hlt:r<w.heap.size:=Xi g2;exact⟨g1,(t.keep r g3 hlt).trans g2,fun h=>(t.owns r h).elim g3 (fun h=>by omega)⟩
theorem Dfr.put {c:Ctx}{w:World}{ρ:Env}{a a':Act}(h:Dfr c w ρ a.defers)(e:a'.defers=a.defers):Dfr c w ρ a'.defers:=by rw[e]; exact h
theorem Dfr.del {c:Ctx}{w:World}{ρ:Env}{ds:List Deferred}{ids:Nat->Bool}(h:Dfr c w ρ ds)(hd:∀b,Xbr (ρ.del ids) b->Xbr ρ b):Dfr c w (ρ.del ids) ds:=by
  obtain⟨ms,h1,h2,h3,h4⟩:=h;exact⟨ms,h1,h2,h3,fun r hr=>⟨(h4 r hr).1,(h4 r hr).2.1,fun h=>(h4 r hr).2.2 (hd r h)⟩⟩
theorem Dfr.nil {c:Ctx}{w:World}{ρ:Env}:Dfr c w ρ c.df:=⟨[],rfl,fun _=>rfl,List.nodup_nil,fun _ h=>by cases h⟩
theorem Dfr.eq {c:Ctx}{w:World}{ρ:Env}{ds:List Deferred}(h:Dfr c w ρ ds)(hm:c.mrk=false):ds=c.df:=by
  obtain⟨ms,h1,h2,_⟩:=h;rw[h1,h2 hm]; rfl

structure Base (c:Ctx)(w:World)(ρ:Env):Prop where
  size:c.w0.heap.size<=w.heap.size
  keep:∀b,b<c.w0.heap.size->¬c.ex b->w.heap[b]? = c.w0.heap[b]?
  owns:∀b,Xbr ρ b->c.w0.heap.size<=b\/c.ex b
  tape:w.tape=c.w0.tape
  os:w.os=c.w0.os
  out:w.output=c.w0.output
  same:∀id o,c.m0 id=some o->∃o',ρ.m id=some o'/\o.le o'
  ext:∀p∈c.ev,p.1.rep w ρ p.2
  drawn:c.w0.drawn<=w.drawn

theorem Base.tr {c:Ctx}{w w':World}{ρ ρ':Env}(h:Base c w ρ)(t:Tr w ρ w' ρ'):Base c w' ρ':=by
  refine⟨Ual h.size t.size,fun b h1 h2=>?_,fun b h1=>?_,t.tape.trans h.tape,t.os.trans h.os,t.out.trans h.out,fun id o h1=>?_,fun p hp=>V.rep_tr t (h.ext p hp),Ual h.drawn t.drawn⟩
  · refine (t.keep b (fun h3=>?_) (Uaz h1 h.size)).trans (h.keep b h1 h2)
    exact (h.owns b h3).elim (fun h=>by omega) h2
  · rcases t.owns b h1 with h3 | h3
    · exact h.owns b h3
    · exact .inl (Ual h.size h3)
  · obtain⟨o',h2,h3⟩:=h.same id o h1
    obtain⟨o'',h4,h5⟩:=t.same id o' h2;exact⟨o'',h4,h3.trans h5⟩

structure Mod (c:Ctx)(xo:Nat->Prop)(ρ:Env)(sl:Xf)(ob:Xb)(a:Act)(w:World):Prop where
  base:Base c w ρ
  om:OM w ρ ob
  sm:SM w ρ sl a
  size:a.tmps.size=c.N
  df:Dfr c w ρ a.defers
  xo:ρ.xo=xo
  gl:ρ.gl=c.g

def exM (w:World)(ρ:Env):Exit->AExit->Prop
  | .normal,.normal=>True
  | .exit n,.exit m=>n=m
  | .ret,.ret=>True
  | .panic ch,.panic v=>∃u,ch=[{ v:=u,recovered:=false }]/\v.rep w ρ u
  | _,_=>False

def lift (c:Ctx)(xo:Nat->Prop)(Q:Y3):Exit->Act->World->Prop:=
  fun e a w=>∃ae sl ob ρ,Q ae sl ob/\exM w ρ e ae/\Mod c xo ρ sl ob a w

theorem Xo {w:World}{ρ:Env}{sl:Xf}{a:Act}{d:Option Nat}{x:V}{v:Value}{N:Nat}{o:Option Nat}(hd:Xan N o d=true)(hN:a.tmps.size=N)(hs:SM w ρ sl a)(hx:x.rep w ρ v) :
    SM w ρ (put sl d x) (a.put o v)/\(a.put o v).tmps.size=N/\(a.put o v).defers=a.defers:=by
  cases o with
  | none=>
    cases d with
    | none=>exact⟨hs,hN,rfl⟩
    | some j=>simp[Xan]at hd
  | some k=>
    cases d with
    | none=>simp[Xan]at hd
    | some j=>
      simp only[Xan,Uai,Ubn,Ubp]at hd;obtain⟨rfl,hk⟩:=hd;refine⟨fun i=>?_,by simpa[Act.put]using hN,rfl⟩;simp only[put,look,Act.put];split
      · rename_i e; subst e
        have:k<a.tmps.size:=by omega
        simpa[this]using hx
      · rename_i e
        have:=hs i;simpa[Ubx,e]using this

theorem Xlf {ops:Array Oper}{a:Act}{j s:Nat}{o':Oper}{b:Bool}(h1:ops[j]? = some o')(h2:o'.dst=some s)(h3:a.tmps.getD s undef=.bool b):yielded ops a.tmps j=some b:=by
  have hs:s<a.tmps.size:=by
    rcases Uaa s a.tmps.size with h | h
    · exact h
    · simp[Array.getD,Nat.not_lt.2 h,undef]at h3
  simp only[Array.getD,hs,dif_pos]at h3;have:a.tmps[s]? = some (.bool b):=by rw[Uce hs]; exact Ua4 some h3
  simp[yielded,h1,h2,this]

theorem Xh8 {ops:Array Oper}{a:Act}{j s:Nat}{o':Oper}(h1:ops[j]? = some o')(h2:o'.dst=some s)(h3:a.tmps.getD s undef=undef):yielded ops a.tmps j=none:=by
  rcases Uaa s a.tmps.size with hs | hs
  · simp only[Array.getD,hs,dif_pos]at h3
    have:a.tmps[s]? = some (.tuple #[]):=by rw[Uce hs]; exact Ua4 some h3
    simp[yielded,h1,h2,this]
  · have:a.tmps[s]? = none:=Uab hs
    simp[yielded,h1,h2,this]

theorem Z2 {w:World}{ρ:Env}{sl:Xf}{a:Act}{ops:Array Oper}{o:Oper}{s:Nat}{want:Bool}{Y N:Xf->Prop}(hs:SM w ρ sl a)
    (hg:(match o.guard with | some (j,b)=>b==want&&(match ops[j]? with | some o'=>o'.dst==some s | none=>false) | none=>false)=true)
    (h:gdK s want sl Y N (look sl s)) :
    (Region.wanted o (yielded ops a.tmps)=true/\∃sl',SM w ρ sl' a/\Y sl')\/(Region.wanted o (yielded ops a.tmps)=false/\∃sl',SM w ρ sl' a/\N sl'):=by
  split at hg
  · rename_i j b hj
    simp only[Uai,Ubn]at hg;obtain⟨rfl,hg⟩:=hg;split at hg
    · rename_i o' ho
      have hd:o'.dst=some s:=by simpa using hg
      have hv:=hs s;have key:∀c:Bool,a.tmps.getD s undef=.bool c->SM w ρ ((s,.d (.bool c))::sl) a:=fun c hc k=>by
        simp only[look];split
        · rename_i e; subst e; rw[hc]; exact rep_bool.2 rfl
        · exact hs k
      unfold gdK at h;split at h
      · rename_i c e
        rw[e,rep_bool]at hv;have hy:=Xlf (a:=a) ho hd hv;by_cases hcb:c=b
        · subst hcb
          exact .inl ⟨by simp[Region.wanted,hj,hy],_,key c hv,h.1 rfl⟩
        · have hcn:c=!b:=by cases c<;>cases b<;>simp_all
          subst hcn;exact .inr ⟨by simp[Region.wanted,hj,hy],_,key _ hv,h.2 rfl⟩
      · rename_i e
        rw[e,Y2]at hv;have hy:=Xh8 (a:=a) ho hd hv;exact .inr ⟨by simp[Region.wanted,hj,hy],_,hs,h⟩
      · exact h.elim
    · simp at hg
  · simp at hg

theorem Xat {P:Prg}{c:Ctx}(hg:P.g=c.g){xo:Nat->Prop}{ops:Array Oper}{Q:Exit->Act->World->Prop}{K:Xf->Xb->Prop}{Pn:V->Xf->Xb->Prop}
    (hK:∀sl ob ρ a w,K sl ob->Mod c xo ρ sl ob a w->Q .normal a w)
    (hP:∀v sl ob ρ a w u,Pn v sl ob->Mod c xo ρ sl ob a w->v.rep w ρ u->Q (.panic [{ v:=u,recovered:=false }]) a w) :
    ∀(l:List Oper) (its:List It) (sl:Xf) (ob:Xb) (ρ:Env) (a:Act) (w:World),Wk P.p c.N ops l its=true->rwp P K Pn its sl ob->Mod c xo ρ sl ob a w->V4 P.p ops Q l a w
  | [],[],sl,ob,ρ,a,w,_,h,m=>by simp only[V4]; exact hK sl ob ρ a w h m
  | o::r,i::s,sl,ob,ρ,a,w,hc,h,m=>by
    simp only[Wk,Uai]at hc;obtain⟨h1,h2⟩:=hc;have step:∀(d:Option Nat) (x:I) (sl:Xf),SM w ρ sl a->Xan c.N o.dst d=true->x.chk P.p o.op=true->x.wp P sl ob (fun v ob'=>rwp P K Pn s (put sl d v) ob') (fun v ob'=>Pn v sl ob')->wpA P.p o a w (V4 P.p ops Q r) Q:=by
      intro d x sl hs hd hx hw;refine I.sound (m.gl.trans hg.symm) hs m.om hx hw o rfl _ _ (fun v y ob' w' ρ' hk hr ho t=>?_) (fun u y ob' w' ρ' hk hr ho t=>?_)
      · obtain⟨g1,g2,g3⟩:=Xo hd m.size (hs.tr t) hr
        exact Xat hg hK hP r s _ ob' ρ' _ w' h2 hk ⟨m.base.tr t,ho,g1,g2,(m.df.tr t).put g3,t.xo.trans m.xo,t.gl.trans m.gl⟩
      · exact hP y sl ob' ρ' a w' u hk ⟨m.base.tr t,ho,hs.tr t,m.size,m.df.tr t,t.xo.trans m.xo,t.gl.trans m.gl⟩ hr
    cases i with
    | op d x=>
      simp only[It.chk,Uai,Ucf]at h1;simp only[rwp]at h;simp only[V4,Region.wanted,h1.1.2,Ubb];exact step d x sl m.sm h1.1.1 h1.2 h
    | gop g want d x=>
      simp only[It.chk,Uai]at h1;simp only[rwp]at h;simp only[V4];rcases Z2 (ops:=ops) m.sm h1.1.2 h with⟨hw,sl',hs,h⟩ | ⟨hw,sl',hs,h⟩
      · rw[Uby hw]
        exact step d x sl' hs h1.1.1 h1.2 h
      · rw[hw]
        simp only[Uah,Uay];obtain⟨g1,g2,g3⟩:=Xo h1.1.1 m.size hs (Y2.2 rfl);exact Xat hg hK hP r s _ ob ρ _ w h2 h ⟨m.base,m.om,g1,g2,m.df.put g3,m.xo,m.gl⟩
  | [],_::_,_,_,_,_,_,hc,_,_=>by simp[Wk]at hc
  | _::_,[],_,_,_,_,_,hc,_,_=>by simp[Wk]at hc

theorem SM.keep {w:World}{ρ:Env}{sl:Xf}{a:Act}(hs:SM w ρ sl a)(l:List Nat):SM w ρ (Xk sl l) a:=by
  intro k;induction l with
  | nil=>exact Q4
  | cons j r ih=>
    simp only[Xk,look];split
    · rename_i e; subst e; exact hs j
    · exact ih


theorem Z9 {ρ:Env}{ids:Nat->Bool}{b:Nat}(h:Xbr (ρ.del ids) b):Xbr ρ b:=by
  obtain⟨j,o,h1,h2⟩:=h;simp only[Env.del]at h1;split at h1
  · cases h1
  · exact⟨j,o,h1,h2⟩

theorem Xgb (w:World)(ρ:Env)(ids:Nat->Bool):Xh9 w (own ρ) w (own (ρ.del ids)):=fun _ h _=>
  ⟨rfl,fun h'=>h (h'.elim (fun h=>.inl (Z9 h)) .inr)⟩

mutual
theorem V.repC_del {w:World}{ρ:Env}{ids:Nat->Bool}:∀(x:V) (cs:List Value),V.men ids x=false->x.repC w ρ cs->x.repC w (ρ.del ids) cs
  | .d x,cs,_,h=>by simp only[V.repC]at h⊢; exact D.rep_mono (Xgb w ρ ids) x cs h
  | .ptr id p,cs,hm,h=>by
    simp only[V.repC]at h⊢;simp only[V.men]at hm;rcases h with⟨b,sh,h1,h2⟩ | ⟨h1,h2⟩
    · exact .inl ⟨b,sh,by simp only[Env.del,hm]; exact h1,h2⟩
    · exact .inr ⟨by simp only[Env.del,hm]; exact h1,h2⟩
  | .sl id n,cs,hm,h=>by
    simp only[V.repC]at h⊢;simp only[V.men]at hm;obtain⟨o,u,h1,h2⟩:=h;exact⟨o,u,by simp only[Env.del,hm]; exact h1,h2⟩
  | .sd id n,cs,hm,h=>by
    simp only[V.repC]at h⊢;simp only[V.men]at hm;obtain⟨o,u,h1,h2⟩:=h;exact⟨o,u,by simp only[Env.del,hm]; exact h1,h2⟩
  | .mp id,cs,hm,h=>by
    simp only[V.repC]at h⊢;simp only[V.men]at hm;rcases h with⟨b,h1,h2⟩ | ⟨h1,h2⟩
    · exact .inl ⟨b,by simp only[Env.del,hm]; exact h1,h2⟩
    · exact .inr ⟨by simp only[Env.del,hm]; exact h1,h2⟩
  | .hd y id,cs,hm,h=>by
    simp only[V.repC]at h⊢;simp only[V.men]at hm;rcases h with⟨b,h1,h2⟩ | ⟨h1,h2⟩
    · exact .inl ⟨b,by simp only[Env.del,hm]; exact h1,h2⟩
    · exact .inr ⟨by simp only[Env.del,hm]; exact h1,h2⟩
  | .bs id p lo n,cs,hm,h=>by
    simp only[V.repC]at h⊢;simp only[V.men]at hm;rcases h with⟨b,sh,cap,f,h1,h2⟩ | ⟨h1,h2⟩
    · exact .inl ⟨b,sh,cap,f,by simp only[Env.del,hm]; exact h1,h2⟩
    · exact .inr ⟨by simp only[Env.del,hm]; exact h1,h2⟩
  | .ep id n z i f p,cs,hm,h=>by
    simp only[V.repC]at h⊢;simp only[V.men]at hm;obtain⟨o,u,h1,h2⟩:=h;exact⟨o,u,by simp only[Env.del,hm]; exact h1,h2⟩
  | .fn f fi ca,cs,hm,h=>by
    simp only[V.repC]at h⊢;simp only[V.men,Ucb]at hm;obtain⟨fs,gs,e,h1,h2⟩:=h;exact⟨fs,gs,e,V.reps_del fi fs hm.1 h1,V.reps_del ca gs hm.2 h2⟩
  | .agg xs,cs,hm,h=>by
    simp only[V.repC]at h⊢;simp only[V.men]at hm;exact V.repCs_del xs cs hm h
  | .iface ty x,cs,hm,h=>by
    simp only[V.repC]at h⊢;simp only[V.men]at hm;obtain⟨u,e,h1⟩:=h;refine⟨u,e,?_⟩;rcases h1 with h1 | ⟨p,ds,q,r⟩ | ⟨p,r⟩
    · exact .inl h1
    · exact .inr (.inl ⟨p,ds,q,V.repC_del x ds hm r⟩)
    · exact .inr (.inr ⟨p,V.repC_del x _ hm r⟩)
  | .tup xs,cs,hm,h=>by
    simp only[V.repC]at h⊢;simp only[V.men]at hm;obtain⟨vs,e,h1⟩:=h;exact⟨vs,e,V.reps_del xs vs hm h1⟩
  | .undef,cs,_,h=>by simpa only[V.repC]using h
  | .any,cs,_,h=>by simpa only[V.repC]using h
theorem V.repCs_del {w:World}{ρ:Env}{ids:Nat->Bool}:∀(xs:List V) (cs:List Value),V.mens ids xs=false->V.repCs w ρ xs cs->V.repCs w (ρ.del ids) xs cs
  | [],cs,_,h=>by simpa only[V.repCs]using h
  | x::r,cs,hm,h=>by
    simp only[V.repCs]at h⊢;simp only[V.mens,Ucb]at hm;obtain⟨c1,c2,e,h1,h2⟩:=h;exact⟨c1,c2,e,V.repC_del x c1 hm.1 h1,V.repCs_del r c2 hm.2 h2⟩
theorem V.reps_del {w:World}{ρ:Env}{ids:Nat->Bool}:∀(xs:List V) (vs:List Value),V.mens ids xs=false->V.reps w ρ xs vs->V.reps w (ρ.del ids) xs vs
  | [],vs,_,h=>by simpa only[V.reps]using h
  | x::r,vs,hm,h=>by
    simp only[V.reps]at h⊢;simp only[V.mens,Ucb]at hm;obtain⟨u,us,e,h1,h2⟩:=h;refine⟨u,us,e,?_,V.reps_del r us hm.2 h2⟩;rcases h1 with h1 | ⟨p,ds,q,r⟩ | ⟨p,r⟩
    · exact .inl h1
    · exact .inr (.inl ⟨p,ds,q,V.repC_del x ds hm.1 r⟩)
    · exact .inr (.inr ⟨p,V.repC_del x _ hm.1 r⟩)
end

theorem V.rep_del {w:World}{ρ:Env}{ids:Nat->Bool}{x:V}{u:Value}(hm:V.men ids x=false)(h:x.rep w ρ u):x.rep w (ρ.del ids) u:=by
  rcases h with h1 | ⟨p,ds,q,r⟩ | ⟨p,r⟩
  · exact .inl h1
  · exact .inr (.inl ⟨p,ds,q,V.repC_del x ds hm r⟩)
  · exact .inr (.inr ⟨p,V.repC_del x _ hm r⟩)

theorem X9.del {w:World}{ρ:Env}{ids:Nat->Bool}:∀(l:List (D×V)) (es:List MapEntry),Q1 ids l=false->X9 w ρ l es->X9 w (ρ.del ids) l es
  | [],es,_,h=>h
  | (k,v)::r,es,hm,h=>by
    simp only[Q1,Ucb]at hm;obtain⟨e,es',h1,h2,h3,h4⟩:=h;exact⟨e,es',h1,h2,V.rep_del hm.1 h3,X9.del r es' hm.2 h4⟩

theorem Vn {ids:Nat->Bool}:∀(ob:Xb) (j:Nat),Xc (Yv ids ob) j=if ids j then none else Xc ob j
  | [],j=>by simp[Yv,Xc]
  | (k,x)::r,j=>by
    simp only[Yv];split
    · rename_i h
      rw[Vn r j];simp only[Xc];by_cases e:k=j
      · subst e; rw[Uby h,Uby h]
      · simp[e]
    · rename_i h
      simp only[Xc,Vn r j];by_cases e:k=j
      · subst e; rw[Uby rfl,Ubo h,Uby rfl]
      · simp[e]

theorem Xlm.drop {ids:Nat->Bool}:∀{ob:Xb},Xlm ob->Xlm (Yv ids ob)
  | [],h=>h
  | (k,x)::r,h=>by
    simp only[Yv];split
    · exact Xlm.drop h.2
    · refine⟨?_,Xlm.drop h.2⟩
      rw[Vn,h.1]; split<;>rfl

theorem Y0 {ids:Nat->Bool}:∀(ob:Xb) (j E:Nat) (t:V),Xg ids ob=true->Xc ob j=some (.box E t)->V.men ids t=false
  | [],j,E,t,_,h=>by simp[Xc]at h
  | (k,x)::r,j,E,t,hm,h=>by
    simp only[Xc]at h;split at h
    · simp at h; subst h
      simp only[Xg,Uai]at hm;simpa using hm.1
    · cases x with
      | box _ y=>simp only[Xg,Uai]at hm; exact Y0 r j E t hm.2 h
      | vec _ _ y=>simp only[Xg,Uai]at hm; exact Y0 r j E t hm.2 h
      | map y=>simp only[Xg,Uai]at hm; exact Y0 r j E t hm.2 h
      | arr _ z xs=>simp only[Xg]at hm; exact Y0 r j E t hm h
      | gone=>simp only[Xg]at hm; exact Y0 r j E t hm h
      | lp _ _ _=>simp only[Xg,Uai]at hm; exact Y0 r j E t hm.2 h
      | it m _ _=>simp only[Xg,Uai]at hm; exact Y0 r j E t hm.2 h
theorem Zj {ids:Nat->Bool}:∀(ob:Xb) (j E sz:Nat) (t:List V),Xg ids ob=true->Xc ob j=some (.vec E sz t)->V.mens ids t=false
  | [],j,E,sz,t,_,h=>by simp[Xc]at h
  | (k,x)::r,j,E,sz,t,hm,h=>by
    simp only[Xc]at h;split at h
    · simp at h; subst h
      simp only[Xg,Uai]at hm;simpa using hm.1
    · cases x with
      | box _ y=>simp only[Xg,Uai]at hm; exact Zj r j E sz t hm.2 h
      | vec _ _ y=>simp only[Xg,Uai]at hm; exact Zj r j E sz t hm.2 h
      | map y=>simp only[Xg,Uai]at hm; exact Zj r j E sz t hm.2 h
      | arr _ z xs=>simp only[Xg]at hm; exact Zj r j E sz t hm h
      | gone=>simp only[Xg]at hm; exact Zj r j E sz t hm h
      | lp _ _ _=>simp only[Xg,Uai]at hm; exact Zj r j E sz t hm.2 h
      | it m _ _=>simp only[Xg,Uai]at hm; exact Zj r j E sz t hm.2 h
theorem Zi {ids:Nat->Bool}:∀(ob:Xb) (j:Nat) (t:List (D×V)),Xg ids ob=true->Xc ob j=some (.map t)->Q1 ids t=false
  | [],j,t,_,h=>by simp[Xc]at h
  | (k,x)::r,j,t,hm,h=>by
    simp only[Xc]at h;split at h
    · simp at h; subst h
      simp only[Xg,Uai]at hm;simpa using hm.1
    · cases x with
      | box _ y=>simp only[Xg,Uai]at hm; exact Zi r j t hm.2 h
      | vec _ _ y=>simp only[Xg,Uai]at hm; exact Zi r j t hm.2 h
      | map y=>simp only[Xg,Uai]at hm; exact Zi r j t hm.2 h
      | arr _ z xs=>simp only[Xg]at hm; exact Zi r j t hm h
      | gone=>simp only[Xg]at hm; exact Zi r j t hm h
      | lp _ _ _=>simp only[Xg,Uai]at hm; exact Zi r j t hm.2 h
      | it m _ _=>simp only[Xg,Uai]at hm; exact Zi r j t hm.2 h

theorem Xkj {ids:Nat->Bool}:∀(ob:Xb) (j tag:Nat) (st:LSt) (t:Xf),Xg ids ob=true->Xc ob j=some (.lp tag st t)->Wc ids t=true
  | [],j,tag,st,t,_,h=>by simp[Xc]at h
  | (k,x)::r,j,tag,st,t,hm,h=>by
    simp only[Xc]at h;split at h
    · simp at h; subst h
      simp only[Xg,Uai]at hm;simpa using hm.1
    · refine Xkj r j tag st t ?_ h
      cases x with
      | box _ y=>simp only[Xg,Uai]at hm; exact hm.2
      | vec _ _ y=>simp only[Xg,Uai]at hm; exact hm.2
      | map y=>simp only[Xg,Uai]at hm; exact hm.2
      | arr _ z xs=>simp only[Xg]at hm; exact hm
      | gone=>simp only[Xg]at hm; exact hm
      | lp _ _ _=>simp only[Xg,Uai]at hm; exact hm.2
      | it m _ _=>simp only[Xg,Uai]at hm; exact hm.2
theorem Xki {ids:Nat->Bool}:∀(ob:Xb) (j i n:Nat) (t:List Nat),Xg ids ob=true->Xc ob j=some (.it (some i) n t)->ids i=false
  | [],j,i,n,t,_,h=>by simp[Xc]at h
  | (k,x)::r,j,i,n,t,hm,h=>by
    simp only[Xc]at h;split at h
    · simp at h; subst h
      simp only[Xg,Uai]at hm;simpa[Ju]using hm.1
    · refine Xki r j i n t ?_ h
      cases x with
      | box _ y=>simp only[Xg,Uai]at hm; exact hm.2
      | vec _ _ y=>simp only[Xg,Uai]at hm; exact hm.2
      | map y=>simp only[Xg,Uai]at hm; exact hm.2
      | arr _ z xs=>simp only[Xg]at hm; exact hm
      | gone=>simp only[Xg]at hm; exact hm
      | lp _ _ _=>simp only[Xg,Uai]at hm; exact hm.2
      | it m _ _=>simp only[Xg,Uai]at hm; exact hm.2
theorem Xav {ids:Nat->Bool}:∀(sl:Xf),Wc ids sl=true->∀p∈sl,V.men ids p.2=false
  | [],_,p,h=>by cases h
  | (j,v)::r,hm,p,h=>by
    simp only[Wc,Uai,Ubq]at hm;rcases Uax.1 h with rfl | h
    · exact hm.1
    · exact Xav r hm.2 p h
theorem Xdf {ids:Nat->Bool}:∀(sl:Xf) (k:Nat),Wc ids sl=true->V.men ids (look sl k)=false
  | [],k,_=>by simp[look,V.men]
  | (j,v)::r,k,hm=>by
    simp only[Wc,Uai]at hm;simp only[look];split
    · simpa using hm.1
    · exact Xdf r k hm.2

theorem OM.del {w:World}{ρ:Env}{ob:Xb}{ids:Nat->Bool}(h:OM w ρ ob)(hm:Xg ids (Yv ids ob)=true):OM w (ρ.del ids) (Yv ids ob):=by
  refine⟨fun j x hx=>?_,fun j o hj=>?_,fun i j o p b h1 h2 h3 h4=>?_,h.xlt,fun b o hb=>⟨(h.glb b o hb).1,(Xgb w ρ ids b (h.glb b o hb).2 (Xi (h.glb b o hb).1)).2⟩,fun b hb=>h.xdis b (Z9 hb),Xlm.drop h.once⟩
  · have hx0:=hx
    rw[Vn]at hx;split at hx
    · cases hx
    · rename_i hn
      have h1:=h.one j x hx;cases x with
      | box E t=>
        obtain⟨b,cs,g1,g2,g3⟩:=h1;exact⟨b,cs,by simp only[Env.del,hn]; exact g1,g2,V.repC_del t cs (Y0 _ j E t hm hx0) g3⟩
      | gone=>exact (by simp only[Env.del,hn]; exact h1:(ρ.del ids).m j=some .gone)
      | arr E sz xs=>
        rcases h1 with⟨g1,g2⟩ | ⟨b,cap,cs,sp,g1,g2,g3,g4⟩
        · exact .inl ⟨by simp only[Env.del,hn]; exact g1,g2⟩
        · exact .inr ⟨b,cap,cs,sp,by simp only[Env.del,hn]; exact g1,g2,D.repL_mono (Xgb w ρ ids) _ _ g3,g4⟩
      | vec E sz xs=>
        rcases h1 with⟨g1,g2⟩ | ⟨b,cap,cs,sp,g1,g2,g3,g4⟩
        · exact .inl ⟨by simp only[Env.del,hn]; exact g1,g2⟩
        · exact .inr ⟨b,cap,cs,sp,by simp only[Env.del,hn]; exact g1,g2,V.repCs_del xs cs (Zj _ j E sz xs hm hx0) g3,g4⟩
      | map es=>
        obtain⟨b,l,clk,g1,g2,g3,g4⟩:=h1;exact⟨b,l,clk,by simp only[Env.del,hn]; exact g1,g2,X9.del es l (Zi _ j es hm hx0) g3,g4⟩
      | lp tag st t=>
        obtain⟨b,fn,tm,dd,ps,ca,cb,g1,g2,g3,g4⟩:=h1;exact⟨b,fn,tm,dd,ps,ca,cb,by simp only[Env.del,hn]; exact g1,g2,g3,fun p hp=>V.rep_del (Xav t (Xkj _ j tag st t hm hx0) p hp) (g4 p hp)⟩
      | it m n t=>
        cases m with
        | none=>obtain⟨b,g1,g2⟩:=h1; exact⟨b,by simp only[Env.del,hn]; exact g1,g2⟩
        | some i=>
          obtain⟨b,mb,g1,g2,g3⟩:=h1;have hi:=Xki _ j i n t hm hx0;exact⟨b,mb,by simp only[Env.del,hn]; exact g1,by simp only[Env.del,hi]; exact g2,g3⟩
  · simp only[Env.del]at hj
    rw[Vn];split at hj
    · cases hj
    · rename_i hn
      rw[Ubo hn];exact h.dom j o hj
  · simp only[Env.del]at h1 h2
    split at h1
    · cases h1
    · split at h2
      · cases h2
      · exact h.inj i j o p b h1 h2 h3 h4

section
variable {w:World} {ρ:Env}
mutual
theorem V.men_dom {ids:Nat->Bool}(hd:∀id o,ρ.m id=some o->ids id=false):∀(v:V) (cs:List Value),v.repC w ρ cs->V.men ids v=false
  | .d _,_,_=>rfl
  | .ptr id p,cs,h=>by
    simp only[V.repC]at h;simp only[V.men];rcases h with⟨_,_,h,_⟩ | ⟨h,_⟩<;>exact hd _ _ h
  | .sl id n,cs,h=>by simp only[V.repC]at h; obtain⟨_,_,h,_⟩:=h; exact hd _ _ h
  | .sd id n,cs,h=>by simp only[V.repC]at h; obtain⟨_,_,h,_⟩:=h; exact hd _ _ h
  | .mp id,cs,h=>by
    simp only[V.repC]at h;simp only[V.men];rcases h with⟨_,h,_⟩ | ⟨h,_⟩<;>exact hd _ _ h
  | .hd y id,cs,h=>by
    simp only[V.repC]at h;simp only[V.men];rcases h with⟨_,h,_⟩ | ⟨h,_⟩<;>exact hd _ _ h
  | .bs id p lo n,cs,h=>by
    simp only[V.repC]at h;simp only[V.men];rcases h with⟨_,_,_,_,h,_⟩ | ⟨h,_⟩<;>exact hd _ _ h
  | .ep id n z i f p,cs,h=>by simp only[V.repC]at h; obtain⟨_,_,h,_⟩:=h; exact hd _ _ h
  | .fn f fi ca,cs,h=>by
    simp only[V.repC]at h;obtain⟨fs,gs,_,h1,h2⟩:=h;simp only[V.men,V.mens_dom hd fi fs h1,V.mens_dom hd ca gs h2,Bool.or_self]
  | .agg xs,cs,h=>by simp only[V.repC]at h; simp only[V.men]; exact V.menCs_dom hd xs cs h
  | .iface t x,cs,h=>by
    simp only[V.repC]at h;obtain⟨u,_,h⟩:=h;simp only[V.men];rcases h with h | ⟨_,ds,_,h⟩ | ⟨_,h⟩
    · subst h; rfl
    · exact V.men_dom hd x ds h
    · exact V.men_dom hd x _ h
  | .tup xs,cs,h=>by simp only[V.repC]at h; obtain⟨vs,_,h⟩:=h; simp only[V.men]; exact V.mens_dom hd xs vs h
  | .undef,_,_=>rfl
  | .any,_,_=>rfl
theorem V.menCs_dom {ids:Nat->Bool}(hd:∀id o,ρ.m id=some o->ids id=false):∀(xs:List V) (cs:List Value),V.repCs w ρ xs cs->V.mens ids xs=false
  | [],_,_=>rfl
  | x::r,cs,h=>by
    simp only[V.repCs]at h;obtain⟨c1,c2,_,h1,h2⟩:=h;simp only[V.mens,V.men_dom hd x c1 h1,V.menCs_dom hd r c2 h2,Bool.or_self]
theorem V.mens_dom {ids:Nat->Bool}(hd:∀id o,ρ.m id=some o->ids id=false):∀(xs:List V) (vs:List Value),V.reps w ρ xs vs->V.mens ids xs=false
  | [],_,_=>rfl
  | x::r,vs,h=>by
    simp only[V.reps]at h;obtain⟨u,us,_,h1,h2⟩:=h;have:V.men ids x=false:=by
      rcases h1 with h | ⟨_,ds,_,h⟩ | ⟨_,h⟩
      · subst h; rfl
      · exact V.men_dom hd x ds h
      · exact V.men_dom hd x _ h
    simp only[V.mens,this,V.mens_dom hd r us h2,Bool.or_self]
end
theorem V.men_temp {ids:Nat->Bool}(hd:∀id o,ρ.m id=some o->ids id=false){v:V}{u:Value}(h:v.rep w ρ u):V.men ids v=false:=by
  rcases h with h | ⟨_,ds,_,h⟩ | ⟨_,h⟩
  · subst h; rfl
  · exact V.men_dom hd v ds h
  · exact V.men_dom hd v _ h
end

theorem Mod.sub {c:Ctx}{xo:Nat->Prop}{ρ:Env}{sl:Xf}{ob:Xb}{a:Act}{w:World}{keep:List Nat}{drp:Nat->Bool}(m:Mod c xo ρ sl ob a w)(hd:∀id o,c.m0 id=some o->drp id=false)(hv:∀p∈c.ev,V.men drp p.1=false)
    (h1:Wc drp (Xk sl keep)=true) (h2:Xg drp (Yv drp ob)=true):Mod c xo (ρ.del drp) (Xk sl keep) (Yv drp ob) a w:=
  ⟨⟨m.base.size,m.base.keep,fun b hb=>m.base.owns b (Z9 hb),m.base.tape,m.base.os,m.base.out,fun id o h=>(m.base.same id o h).elim fun o' q=>⟨o',by simp only[Env.del,hd id o h]; exact q.1,q.2⟩,fun p hp=>V.rep_del (hv p hp) (m.base.ext p hp),m.base.drawn⟩,m.om.del h2,fun k=>V.rep_del (Xdf _ k h1) (m.sm.keep keep k),m.size,m.df.del fun _=>Z9,m.xo,m.gl⟩

def Xce (c:Ctx)(xo:Nat->Prop)(pk:List Nat)(Q:Y3)(ch:List PanicEntry)(a:Act)(w:World):Prop:=
  ∃v sl ob ρ u,Q (.panic v) (Xk sl pk) ob/\ch=[{ v:=u,recovered:=false }]/\v.rep w ρ u/\Mod c xo ρ (Xk sl pk) ob a w

theorem Xka (sl:Xf):∀(pk:List Nat) (k:Nat),k∉pk->look (Xk sl pk) k=.any
  | [],k,_=>by simp[Xk,look]
  | j::r,k,h=>by
    simp only[Xk,look];have:j ≠ k:=fun e=>h (by simp[e]);rw[Ubo this];exact Xka sl r k (fun h'=>h (by simp[h']))

theorem Xkt {c:Ctx}{xo:Nat->Prop}{pk:List Nat}{Q:Y3}{ch:List PanicEntry}{a:Act}{w:World}{d:Option Nat}{v:Value}(hd:∀k,d=some k->k∉pk)(h:Xce c xo pk Q ch (a.put d v) w):Xce c xo pk Q ch a w:=by
  obtain⟨x,sl,ob,ρ,u,h1,h2,h3,m⟩:=h;refine⟨x,sl,ob,ρ,u,h1,h2,h3,m.base,m.om,fun k=>?_,?_,?_,m.xo,m.gl⟩
  · by_cases hk:k∈pk
    · have:=m.sm k
      cases d with
      | none=>exact this
      | some j=>
        have hne:j ≠ k:=fun e=>hd j rfl (e▸hk);simpa[Act.put,Ubx,hne]using this
    · rw[Xka sl pk k hk]; exact Q4
  · have:=m.size
    cases d<;>simpa[Act.put]using this
  · have:=m.df
    cases d<;>simpa only[Act.put]using this

def FB (B:Nat->Prop)(u v:World):Prop:=∀b,B b->v.heap[b]? = u.heap[b]?
def X1j (B:Nat->Prop)(w:World)(ρ:Env):Prop:=∀b,B b->b<w.heap.size/\¬own ρ b
theorem X1j.tr {B:Nat->Prop}{w w':World}{ρ ρ':Env}(h:X1j B w ρ)(t:Tr w ρ w' ρ'):X1j B w' ρ':=fun b hb=>by
  obtain⟨h1,h2⟩:=h b hb;refine⟨Uaz h1 t.size,?_⟩;rintro (h3 | h3)
  · rcases t.owns b h3 with h4 | h4
    · exact h2 (.inl h4)
    · omega
  · exact h2 (.inr (t.xo▸h3))
theorem X1j.fb {B:Nat->Prop}{w w':World}{ρ ρ':Env}(h:X1j B w ρ)(t:Tr w ρ w' ρ'):FB B w w':=fun b hb=>t.keep b (fun h3=>(h b hb).2 (.inl h3)) (h b hb).1
theorem FB.refl (B:Nat->Prop)(w:World):FB B w w:=fun _ _=>rfl
theorem FB.trans {B:Nat->Prop}{u v w:World}(h:FB B u v)(h':FB B v w):FB B u w:=fun b hb=>(h' b hb).trans (h b hb)
def RJ (kd:Nat->Nat)(B:Nat->Prop)(j:Nat)(u v:World):Prop:=(kd j ≠ 3->Ext u v)/\FB B u v
theorem Yo {P:Prg}{c:Ctx}(hg:P.g=c.g){xo:Nat->Prop}{ops:Array Oper}{Q:Exit->Act->World->Prop}{QP:Y3}{pk:List Nat}{K:Xf->Xb->Prop}{kd:Nat->Nat}
    (hsel:Region.noSelect ops=true) (hpk:Xb1 pk ops=true)
    (hK:∀sl ob ρ a w,K sl ob->Mod c xo ρ sl ob a w->Q .normal a w)
    (hQ:∀ch a w,Q (.panic ch) a w↔Xce c xo pk QP ch a w) :
    ∀(ord:List Nat) (its:List It) (B:Nat->Prop) (listed:Array Bool) (sl:Xf) (ob:Xb) (ρ:Env) (a:Act) (w:World),X1j B w ρ->Xlv P.p c.N ops kd listed ord its=true->Xa3 .any ops listed->
      rwp P K (fun v sl ob=>QP (.panic v) (Xk sl pk) ob) its sl ob->Mod c xo ρ sl ob a w->Wd P.p .any ops Q (RJ kd B) ord.length listed a w
  | [],[],B,listed,sl,ob,ρ,a,w,hB,hc,_,h,m=>by
    simp only[Xlv]at hc;simp only[List.length_nil,Wd];exact⟨by simpa using hc,hK sl ob ρ a w h m⟩
  | i::r,x::s,B,listed,sl,ob,ρ,a,w,hB,hc,hcl,h,m=>by
    simp only[Xlv,Uai]at hc;obtain⟨⟨⟨⟨hr,hx⟩,hkd⟩,hkind⟩,hrest⟩:=hc;have hr':i∈Region.ready .any ops listed:=by simpa using hr
    cases ho:ops[i]? with
    | none=>simp[ho]at hx
    | some o=>
      simp only[ho]at hx;have hkd':x.kind=kd i:=by simpa using hkd
      have hpko:∀k,o.dst=some k->k∉pk:=by
        intro k hk;have:=Ubt.1 hpk o (by simpa using Ubz ho);simpa[hk]using this
      have hQo:∀v:Value,∀ch a w,Q (.panic ch) (a.put o.dst v) w->Q (.panic ch) a w:=fun v ch a w hq=>(hQ ch a w).2 (Xkt hpko ((hQ ch _ w).1 hq));have hcl':=hcl.step hr';simp only[List.length_cons]
      -- the operation's state and text,whichever way its guard goes
      have hd:∃(d:Option Nat) (y:I),Xan c.N o.dst d=true/\y.chk P.p o.op=true/\x.kind=y.kind/\
          ((Region.wanted o (yielded ops a.tmps)=true/\∃sl',SM w ρ sl' a/\y.wp P sl' ob (fun v ob'=>rwp P K (fun v sl ob=>QP (.panic v) (Xk sl pk) ob) s (put sl' d v) ob') (fun v ob'=>QP (.panic v) (Xk sl' pk) ob'))\/
           (Region.wanted o (yielded ops a.tmps)=false/\∃sl',SM w ρ sl' a/\rwp P K (fun v sl ob=>QP (.panic v) (Xk sl pk) ob) s (put sl' d .undef) ob)):=by
        cases x with
        | op d y=>
          simp only[It.chk,Uai,Ucf]at hx;simp only[rwp]at h;exact⟨d,y,hx.1.1,hx.2,rfl,.inl ⟨by simp[Region.wanted,hx.1.2],sl,m.sm,h⟩⟩
        | gop g want d y=>
          simp only[It.chk,Uai]at hx;simp only[rwp]at h;exact⟨d,y,hx.1.1,hx.2,rfl,Z2 (ops:=ops) m.sm hx.1.2 h⟩
      obtain⟨d,y,hdst,hy,hky,hways⟩:=hd
      -- an operation that may be taken first
      have first:∀l:Bool,(∀cc,y=.c cc->cc.isLd=l)->(∃cc,y=.c cc)->Region.free .any ops listed i=true->
          (l=true->∀j,j<ops.size->kd j=3->j ≠ i->∃fuel,W4 .any ops i fuel j=true)->kd i ≠ 3->Wd P.p .any ops Q (RJ kd B) (r.length+1) listed a w:=by
        intro l hld hcc hfree hwt hk3;have hwt':l=true->∀j,j<ops.size->j ≠ i->(∃fuel,W4 .any ops i fuel j=true)\/∀u v,RJ kd B j u v->Ext u v:=fun h1 j h2 h3=>by
          by_cases h4:kd j=3
          · exact .inl (hwt h1 j h2 h4 h3)
          · exact .inr fun u v h5=>h5.1 h4
        have hself:∀w,RJ kd B i w w:=fun w=>⟨fun _=>Ext.refl w,FB.refl B w⟩;obtain⟨cc,rfl⟩:=hcc;have hld:=hld cc rfl;rcases hways with⟨hw,sl',hs,hwp⟩ | ⟨hw,sl',hs,hwp⟩
        · simp only[I.wp]at hwp
          obtain⟨v,z,hk,hrep,hrun⟩:=C.sound hs m.om hy hwp;obtain⟨g1,g2,g3⟩:=Xo hdst m.size hs hrep;refine Yn (S:=Ext) (l:=l) Ext.refl (fun _ _ _=>Ext.trans) ho (Region.noSelect_spec hsel) (hQo v) hwt' hself _ listed a w hcl (Region.free_spec ho hfree) hr' (.inl ⟨hw,fun w' hw'=>hrun o rfl w' (fun e=>hw' (by rw[<-hld]; exact e))⟩) ?_;exact Yo hg hsel hpk hK hQ r s B _ _ ob ρ _ w hB hrest hcl' hk ⟨m.base,m.om,g1,g2,m.df.put g3,m.xo,m.gl⟩
        · obtain⟨g1,g2,g3⟩:=Xo hdst m.size hs (Y2.2 rfl)
          refine Yn (S:=Ext) (l:=l) Ext.refl (fun _ _ _=>Ext.trans) ho (Region.noSelect_spec hsel) (hQo undef) hwt' hself _ listed a w hcl (Region.free_spec ho hfree) hr' (.inr ⟨hw,rfl⟩) ?_;exact Yo hg hsel hpk hK hQ r s B _ _ ob ρ _ w hB hrest hcl' hwp ⟨m.base,m.om,g1,g2,m.df.put g3,m.xo,m.gl⟩
      -- the only one that may come up
      have alone:Region.ready .any ops listed=[i]->(y.kind=2\/y.kind=3\/y.kind=4)->Wd P.p .any ops Q (RJ kd B) (r.length+1) listed a w:=by
        intro hra hk23;refine⟨fun h0=>(by rw[hra]at h0; cases h0),fun j hj=>?_⟩;rw[hra]at hj;simp at hj; subst hj;unfold Q9;simp only[ho];rcases hways with⟨hw,sl',hs,hwp⟩ | ⟨hw,sl',hs,hwp⟩
        · rw[Uby hw]
          rcases hk23 with hk2 | hk3 | hk4
          · refine I.soundE (m.gl.trans hg.symm) hs m.om hk2 hy hwp o rfl _ _ (fun v z w' hk hrep he=>⟨⟨fun _=>he,hB.fb he.tr⟩,?_⟩)
            obtain⟨g1,g2,g3⟩:=Xo hdst m.size (hs.tr he.tr) hrep;exact Yo hg hsel hpk hK hQ r s B _ _ ob ρ _ w' (hB.tr he.tr) hrest hcl' hk ⟨m.base.tr he.tr,m.om.ext he,g1,g2,(m.df.tr he.tr).put g3,m.xo,m.gl⟩
          · refine I.sound (m.gl.trans hg.symm) hs m.om hy hwp o rfl _ _ (fun v z ob' w' ρ' hk hrep ho' t=>⟨⟨fun hf=>?_,hB.fb t⟩,?_⟩) (fun u z ob' w' ρ' hk hrep ho' t=>?_)
            · exact absurd (by rw[<-hkd',hky,hk3]) hf
            · obtain⟨g1,g2,g3⟩:=Xo hdst m.size (hs.tr t) hrep
              exact Yo hg hsel hpk hK hQ r s B _ _ ob' ρ' _ w' (hB.tr t) hrest hcl' hk ⟨m.base.tr t,ho',g1,g2,(m.df.tr t).put g3,t.xo.trans m.xo,t.gl.trans m.gl⟩
            · exact (hQ _ _ _).2 ⟨z,sl',ob',ρ',u,hk,rfl,hrep,m.base.tr t,ho',(hs.tr t).keep pk,m.size,m.df.tr t,t.xo.trans m.xo,t.gl.trans m.gl⟩
          · refine I.soundX (m.gl.trans hg.symm) hs m.om hk4 hy hwp o rfl _ _ (fun v z ob' w' ρ' hk hrep ho' t he=>⟨⟨fun _=>he,hB.fb t⟩,?_⟩)
            obtain⟨g1,g2,g3⟩:=Xo hdst m.size (hs.tr t) hrep;exact Yo hg hsel hpk hK hQ r s B _ _ ob' ρ' _ w' (hB.tr t) hrest hcl' hk ⟨m.base.tr t,ho',g1,g2,(m.df.tr t).put g3,t.xo.trans m.xo,t.gl.trans m.gl⟩
        · rw[hw]
          simp only[Uah,Uay];refine⟨⟨fun _=>Ext.refl w,FB.refl B w⟩,?_⟩;obtain⟨g1,g2,g3⟩:=Xo hdst m.size hs (Y2.2 rfl);exact Yo hg hsel hpk hK hQ r s B _ _ ob ρ _ w hB hrest hcl' hwp ⟨m.base,m.om,g1,g2,m.df.put g3,m.xo,m.gl⟩
      have hkl:y.kind=0\/y.kind=1\/y.kind=2\/y.kind=3\/y.kind=4\/y.kind=5:=by
        cases y with
        | c cc=>simp only[I.kind]; (repeat' split)<;>simp
        | _=>simp[I.kind]
      have hcc:∀n,(n=0\/n=1)->y.kind=n->(∃cc,y=.c cc)/\∀cc,y=.c cc->cc.isLd=(n==1):=by
        intro n hn hyn;cases y with
        | c cc=>
          refine⟨⟨cc,rfl⟩,fun c' e=>?_⟩;cases e;simp only[I.kind]at hyn;cases hd:cc.isLdd
          · cases hl:cc.isLd<;>simp[hl,hd]at hyn<;>subst hyn<;>rfl
          · simp[hd]at hyn; subst hyn; simp at hn
        | _=>simp[I.kind]at hyn; subst hyn; simp at hn
      rcases hkl with h0 | h1 | h2 | h3 | h4 | h5
      · rw[hky,h0]at hkind
        obtain⟨c1,c2⟩:=hcc 0 (.inl rfl) h0;exact first false (fun cc e=>by simpa using c2 cc e) c1 hkind (by simp) (by rw[<-hkd',hky,h0]; decide)
      · rw[hky,h1]at hkind
        simp only[Uai]at hkind;obtain⟨c1,c2⟩:=hcc 1 (.inr rfl) h1;refine first true (fun cc e=>by simpa using c2 cc e) c1 hkind.1 (fun _ j hj hk3 hne=>?_) (by rw[<-hkd',hky,h1]; decide)
        have:=Ubt.1 hkind.2 j (by simpa using hj);have hk3':kd j=3:=hk3;have hw:W4 .any ops i 1 j=true\/W4 .any ops i ops.size j=true:=by simpa[hk3',hne]using this
        exact hw.elim (fun h=>⟨_,h⟩) (fun h=>⟨_,h⟩)
      · rw[hky,h2]at hkind
        exact alone (by simpa using hkind) (.inl h2)
      · rw[hky,h3]at hkind
        exact alone (by simpa using hkind) (.inr (.inl h3))
      · rw[hky,h4]at hkind
        exact alone (by simpa using hkind) (.inr (.inr h4))
      · rw[hky,h5]at hkind
        obtain⟨cc,rfl,hld⟩:∃cc,y=.c cc/\cc.isLdd=true:=by
          cases y with
          | c cc=>
            simp only[I.kind]at h5;cases hd:cc.isLdd
            · cases hl:cc.isLd<;>simp[hl,hd]at h5
            · exact⟨cc,rfl,hd⟩
          | _=>simp[I.kind]at h5
        let B':Nat->Prop:=fun b=>b<w.heap.size/\¬own ρ b;have hB':X1j B' w ρ:=fun b hb=>hb;have hself:∀w,RJ kd B' i w w:=fun w=>⟨fun _=>Ext.refl w,FB.refl B' w⟩;have hwt:true=true->∀j,j<ops.size->j ≠ i->(∃fuel,W4 .any ops i fuel j=true)\/∀u v,RJ kd B' j u v->FB B' u v:=fun _ j _ _=>.inr fun u v h=>h.2;refine Q8 (R:=RJ kd B') (fun j u v h=>⟨h.1,fun b hb=>h.2 b (hB b hb)⟩) _ _ _ _ ?_;rcases hways with⟨hw,sl',hs,hwp⟩ | ⟨hw,sl',hs,hwp⟩
        · simp only[I.wp]at hwp
          obtain⟨v,z,hk,hrep,hrun⟩:=C.soundD hs m.om hld hy hwp;obtain⟨g1,g2,g3⟩:=Xo hdst m.size hs hrep;refine Yn (S:=FB B') (l:=true) (FB.refl B') (fun _ _ _=>FB.trans) ho (Region.noSelect_spec hsel) (hQo v) hwt hself _ listed a w hcl (Region.free_spec ho hkind) hr' (.inl ⟨hw,fun w' hw'=>hrun o rfl w' (fun b h1 h2=>hw' rfl b ⟨h1,h2⟩)⟩) ?_;exact Yo hg hsel hpk hK hQ r s B' _ _ ob ρ _ w hB' hrest hcl' hk ⟨m.base,m.om,g1,g2,m.df.put g3,m.xo,m.gl⟩
        · obtain⟨g1,g2,g3⟩:=Xo hdst m.size hs (Y2.2 rfl)
          refine Yn (S:=FB B') (l:=true) (FB.refl B') (fun _ _ _=>FB.trans) ho (Region.noSelect_spec hsel) (hQo undef) hwt hself _ listed a w hcl (Region.free_spec ho hkind) hr' (.inr ⟨hw,rfl⟩) ?_;exact Yo hg hsel hpk hK hQ r s B' _ _ ob ρ _ w hB' hrest hcl' hwp ⟨m.base,m.om,g1,g2,m.df.put g3,m.xo,m.gl⟩
  | [],_::_,_,_,_,_,_,_,_,_,hc,_,_,_=>by simp[Xlv]at hc
  | _::_,[],_,_,_,_,_,_,_,_,hc,_,_,_=>by simp[Xlv]at hc

theorem Xq8 {P:Prg}{c:Ctx}(hg:P.g=c.g){xo:Nat->Prop}{ops:Array Oper}{Q:Exit->Act->World->Prop}{QP:Y3}{pk:List Nat}{next:Xf->Xb->Prop}{i:Nat}{o:Oper}{x:It}{sl:Xf}{ob:Xb}{ρ:Env}{a:Act}{w:World}{N:Act->World->Prop}
    (hQ:∀ch a w,Q (.panic ch) a w↔Xce c xo pk QP ch a w) (ho:ops[i]? = some o) (hx:x.chk P.p c.N ops o=true) (h:itK P next (fun v sl ob=>QP (.panic v) (Xk sl pk) ob) x sl ob) (m:Mod c xo ρ sl ob a w)
    (hN:∀sl' ob' ρ' a' w',next sl' ob'->Mod c xo ρ' sl' ob' a' w'->Tr w ρ w' ρ'->N a' w'):Q9 P.p ops Q i (fun a' w'=>((x.kind ≠ 3->Ext w w')/\∃ρ',Tr w ρ w' ρ')/\N a' w') a w:=by
  have hd:∃(d:Option Nat) (y:I),Xan c.N o.dst d=true/\y.chk P.p o.op=true/\x.kind=y.kind/\
      ((Region.wanted o (yielded ops a.tmps)=true/\∃sl',SM w ρ sl' a/\y.wp P sl' ob (fun v ob'=>next (put sl' d v) ob') (fun v ob'=>QP (.panic v) (Xk sl' pk) ob'))\/
       (Region.wanted o (yielded ops a.tmps)=false/\∃sl',SM w ρ sl' a/\next (put sl' d .undef) ob)):=by
    cases x with
    | op d y=>
      simp only[It.chk,Uai,Ucf]at hx;exact⟨d,y,hx.1.1,hx.2,rfl,.inl ⟨by simp[Region.wanted,hx.1.2],sl,m.sm,h⟩⟩
    | gop g want d y=>
      simp only[It.chk,Uai]at hx;simp only[itK]at h;exact⟨d,y,hx.1.1,hx.2,rfl,Z2 (ops:=ops) m.sm hx.1.2 h⟩
  obtain⟨d,y,hdst,hy,hky,hways⟩:=hd;unfold Q9;simp only[ho];rcases hways with⟨hw,sl',hs,hwp⟩ | ⟨hw,sl',hs,hwp⟩
  · rw[Uby hw]
    by_cases hk3:y.kind=3
    · refine I.sound (m.gl.trans hg.symm) hs m.om hy hwp o rfl _ _ (fun v z ob' w' ρ' hk hrep ho' t=>⟨⟨fun hf=>?_,ρ',t⟩,?_⟩) (fun u z ob' w' ρ' hk hrep ho' t=>?_)
      · rw[hky]at hf; exact absurd hk3 hf
      · obtain⟨g1,g2,g3⟩:=Xo hdst m.size (hs.tr t) hrep
        exact hN _ ob' ρ' _ w' hk ⟨m.base.tr t,ho',g1,g2,(m.df.tr t).put g3,t.xo.trans m.xo,t.gl.trans m.gl⟩ t
      · exact (hQ _ _ _).2 ⟨z,sl',ob',ρ',u,hk,rfl,hrep,m.base.tr t,ho',(hs.tr t).keep pk,m.size,m.df.tr t,t.xo.trans m.xo,t.gl.trans m.gl⟩
    · by_cases hk2:y.kind=2
      · refine I.soundE (m.gl.trans hg.symm) hs m.om hk2 hy hwp o rfl _ _ (fun v z w' hk hrep he=>⟨⟨fun _=>he,ρ,he.tr⟩,?_⟩)
        obtain⟨g1,g2,g3⟩:=Xo hdst m.size (hs.tr he.tr) hrep;exact hN _ ob ρ _ w' hk ⟨m.base.tr he.tr,m.om.ext he,g1,g2,(m.df.tr he.tr).put g3,m.xo,m.gl⟩ he.tr
      · by_cases hk4:y.kind=4
        · refine I.soundX (m.gl.trans hg.symm) hs m.om hk4 hy hwp o rfl _ _ (fun v z ob' w' ρ' hk hrep ho' t he=>⟨⟨fun _=>he,ρ',t⟩,?_⟩)
          obtain⟨g1,g2,g3⟩:=Xo hdst m.size (hs.tr t) hrep;exact hN _ ob' ρ' _ w' hk ⟨m.base.tr t,ho',g1,g2,(m.df.tr t).put g3,t.xo.trans m.xo,t.gl.trans m.gl⟩ t
        cases y with
        | c cc=>
          simp only[I.wp]at hwp;obtain⟨v,z,hk,hrep,hrun⟩:=C.sound hs m.om hy hwp;obtain⟨g1,g2,g3⟩:=Xo hdst m.size hs hrep;unfold wpA;rw[hrun o rfl w (fun _=>Ext.refl w)];exact⟨⟨fun _=>Ext.refl w,ρ,Tr.refl w ρ⟩,hN _ ob ρ _ w hk ⟨m.base,m.om,g1,g2,m.df.put g3,m.xo,m.gl⟩ (Tr.refl w ρ)⟩
        | _=>exfalso; simp[I.kind]at hk2 hk3 hk4
  · rw[hw]
    simp only[Uah,Uay];refine⟨⟨fun _=>Ext.refl w,ρ,Tr.refl w ρ⟩,?_⟩;obtain⟨g1,g2,g3⟩:=Xo hdst m.size hs (Y2.2 rfl);exact hN _ ob ρ _ w hwp ⟨m.base,m.om,g1,g2,m.df.put g3,m.xo,m.gl⟩ (Tr.refl w ρ)

theorem Yw {P:Prg}{c:Ctx}(hg:P.g=c.g){xo:Nat->Prop}{ops:Array Oper}{Q:Exit->Act->World->Prop}{QP:Y3}{pk:List Nat}{K:Xf->Xb->Prop}{kd:Nat->Nat}
    (hsel:Region.noSelect ops=true) (hpk:Xb1 pk ops=true)
    (hK:∀sl ob ρ a w,K sl ob->Mod c xo ρ sl ob a w->Q .normal a w)
    (hQ:∀ch a w,Q (.panic ch) a w↔Xce c xo pk QP ch a w) :
    ∀(n:Nat) (t:Ot) (B:Nat->Prop) (listed:Array Bool) (sl:Xf) (ob:Xb) (ρ:Env) (a:Act) (w:World),X1j B w ρ->V7 P.p c.N ops kd n listed t=true->Xa3 .any ops listed->
      owp P K (fun v sl ob=>QP (.panic v) (Xk sl pk) ob) t sl ob->Mod c xo ρ sl ob a w->Wd P.p .any ops Q (RJ kd B) n listed a w
  | 0,.done,B,listed,sl,ob,ρ,a,w,hB,hc,_,h,m=>by
    simp only[V7]at hc;simp only[owp]at h;simp only[Wd];exact⟨by simpa using hc,hK sl ob ρ a w h m⟩
  | n+1,.br l,B,listed,sl,ob,ρ,a,w,hB,hc,hcl,h,m=>by
    simp only[V7,Uai,Ubq]at hc;obtain⟨⟨hne,hall⟩,hcs⟩:=hc;simp only[owp]at h;simp only[Wd];refine⟨fun h0=>by rw[h0]at hne; simp at hne,fun j hj=>?_⟩;have hh:=Ubt.1 hall j hj;obtain⟨x,r,o,g1,g2,g3,g4,g5⟩:∃x r o,ops[j]? = some o/\x.chk P.p c.N ops o=true/\x.kind=kd j/\V7 P.p c.N ops kd n (listed.setIfInBounds j true) r=true/\itK P (owp P K (fun v sl ob=>QP (.panic v) (Xk sl pk) ob) r) (fun v sl ob=>QP (.panic v) (Xk sl pk) ob) x sl ob:=by
      clear hne hall;revert h hcs hh;generalize l=l;intro hh hcs h;have go:∀(l:Ots),l.has j=true->Xf7 P.p c.N ops kd n listed l=true->Xee P K (fun v sl ob=>QP (.panic v) (Xk sl pk) ob) l sl ob->∃x r o,ops[j]? = some o/\x.chk P.p c.N ops o=true/\x.kind=kd j/\V7 P.p c.N ops kd n (listed.setIfInBounds j true) r=true/\itK P (owp P K (fun v sl ob=>QP (.panic v) (Xk sl pk) ob) r) (fun v sl ob=>QP (.panic v) (Xk sl pk) ob) x sl ob:=by
        intro l;induction l using Ots.rec (motive_1:=fun _=>True) with
        | nil=>intro h; simp[Ots.has]at h
        | cons i x r l _ ih=>
          intro h1 h2 h3;simp only[Ots.has,Ucd,Ubn]at h1;simp only[Xf7,Uai]at h2;simp only[Xee]at h3;by_cases e:i=j
          · subst e
            obtain⟨⟨⟨⟨_,hx⟩,hk⟩,hr⟩,_⟩:=h2;cases ho:ops[i]? with
            | none=>simp[ho]at hx
            | some o=>simp only[ho]at hx; exact⟨x,r,o,rfl,hx,by simpa using hk,hr,h3.1⟩
          · exact ih (h1.resolve_left e) h2.2 h3.2
        | done=>trivial
        | one i x r _=>trivial
        | br l _=>trivial
      first | exact go _ hh hcs h | exact go _ h hcs hh
    have hst:=Xq8 (Q:=Q) (N:=fun a' w'=>Wd P.p .any ops Q (RJ kd B) n (listed.setIfInBounds j true) a' w') hg hQ g1 g2 g5 m (fun sl' ob' ρ' a' w' hk m' t=>Yw hg hsel hpk hK hQ n r B _ sl' ob' ρ' a' w' (hB.tr t) g4 (hcl.step hj) hk m');refine Wq (fun a' w' h'=>⟨⟨fun hf=>h'.1.1 ?_,h'.1.2.elim fun ρ' t=>hB.fb t⟩,h'.2⟩) hst;rw[g3]; exact hf
  | n+1,.one i x r,B,listed,sl,ob,ρ,a,w,hB,hc,hcl,h,m=>by
    simp only[V7,Uai]at hc;obtain⟨⟨⟨⟨hr,hx⟩,hkd⟩,hkind⟩,hrest⟩:=hc;have hr':i∈Region.ready .any ops listed:=by simpa using hr
    simp only[owp]at h;cases ho:ops[i]? with
    | none=>simp[ho]at hx
    | some o=>
      simp only[ho]at hx;have hkd':x.kind=kd i:=by simpa using hkd
      have hcl':=hcl.step hr'
      -- the only one that may come up
      have alone:Region.ready .any ops listed=[i]->Wd P.p .any ops Q (RJ kd B) (n+1) listed a w:=by
        intro hra;refine⟨fun h0=>(by rw[hra]at h0; cases h0),fun j hj=>?_⟩;rw[hra]at hj;simp at hj; subst hj;have hst:=Xq8 (Q:=Q) (N:=fun a' w'=>Wd P.p .any ops Q (RJ kd B) n (listed.setIfInBounds j true) a' w') hg hQ ho hx h m (fun sl' ob' ρ' a' w' hk m' t=>Yw hg hsel hpk hK hQ n r B _ sl' ob' ρ' a' w' (hB.tr t) hrest hcl' hk m');refine Wq (fun a' w' h'=>⟨⟨fun hf=>h'.1.1 ?_,h'.1.2.elim fun ρ' t=>hB.fb t⟩,h'.2⟩) hst;rw[hkd']; exact hf
      have hpko:∀k,o.dst=some k->k∉pk:=by
        intro k hk;have:=Ubt.1 hpk o (by simpa using Ubz ho);simpa[hk]using this
      have hQo:∀v:Value,∀ch a w,Q (.panic ch) (a.put o.dst v) w->Q (.panic ch) a w:=fun v ch a w hq=>(hQ ch a w).2 (Xkt hpko ((hQ ch _ w).1 hq));have hd:∃(d:Option Nat) (y:I),Xan c.N o.dst d=true/\y.chk P.p o.op=true/\x.kind=y.kind/\
          ((Region.wanted o (yielded ops a.tmps)=true/\∃sl',SM w ρ sl' a/\y.wp P sl' ob (fun v ob'=>owp P K (fun v sl ob=>QP (.panic v) (Xk sl pk) ob) r (put sl' d v) ob') (fun v ob'=>QP (.panic v) (Xk sl' pk) ob'))\/
           (Region.wanted o (yielded ops a.tmps)=false/\∃sl',SM w ρ sl' a/\owp P K (fun v sl ob=>QP (.panic v) (Xk sl pk) ob) r (put sl' d .undef) ob)):=by
        cases x with
        | op d y=>
          simp only[It.chk,Uai,Ucf]at hx;exact⟨d,y,hx.1.1,hx.2,rfl,.inl ⟨by simp[Region.wanted,hx.1.2],sl,m.sm,h⟩⟩
        | gop g want d y=>
          simp only[It.chk,Uai]at hx;simp only[itK]at h;exact⟨d,y,hx.1.1,hx.2,rfl,Z2 (ops:=ops) m.sm hx.1.2 h⟩
      obtain⟨d,y,hdst,hy,hky,hways⟩:=hd;have first:∀l:Bool,(∀cc,y=.c cc->cc.isLd=l)->(∃cc,y=.c cc)->Region.free .any ops listed i=true->
          (l=true->∀j,j<ops.size->kd j=3->j ≠ i->∃fuel,W4 .any ops i fuel j=true)->kd i ≠ 3->Wd P.p .any ops Q (RJ kd B) (n+1) listed a w:=by
        intro l hld hcc hfree hwt hk3;have hwt':l=true->∀j,j<ops.size->j ≠ i->(∃fuel,W4 .any ops i fuel j=true)\/∀u v,RJ kd B j u v->Ext u v:=fun h1 j h2 h3=>by
          by_cases h4:kd j=3
          · exact .inl (hwt h1 j h2 h4 h3)
          · exact .inr fun u v h5=>h5.1 h4
        have hself:∀w,RJ kd B i w w:=fun w=>⟨fun _=>Ext.refl w,FB.refl B w⟩;obtain⟨cc,rfl⟩:=hcc;have hld:=hld cc rfl;rcases hways with⟨hw,sl',hs,hwp⟩ | ⟨hw,sl',hs,hwp⟩
        · simp only[I.wp]at hwp
          obtain⟨v,z,hk,hrep,hrun⟩:=C.sound hs m.om hy hwp;obtain⟨g1,g2,g3⟩:=Xo hdst m.size hs hrep;refine Yn (S:=Ext) (l:=l) Ext.refl (fun _ _ _=>Ext.trans) ho (Region.noSelect_spec hsel) (hQo v) hwt' hself _ listed a w hcl (Region.free_spec ho hfree) hr' (.inl ⟨hw,fun w' hw'=>hrun o rfl w' (fun e=>hw' (by rw[<-hld]; exact e))⟩) ?_;exact Yw hg hsel hpk hK hQ n r B _ _ ob ρ _ w hB hrest hcl' hk ⟨m.base,m.om,g1,g2,m.df.put g3,m.xo,m.gl⟩
        · obtain⟨g1,g2,g3⟩:=Xo hdst m.size hs (Y2.2 rfl)
          refine Yn (S:=Ext) (l:=l) Ext.refl (fun _ _ _=>Ext.trans) ho (Region.noSelect_spec hsel) (hQo undef) hwt' hself _ listed a w hcl (Region.free_spec ho hfree) hr' (.inr ⟨hw,rfl⟩) ?_;exact Yw hg hsel hpk hK hQ n r B _ _ ob ρ _ w hB hrest hcl' hwp ⟨m.base,m.om,g1,g2,m.df.put g3,m.xo,m.gl⟩
      have hcc:∀n,(n=0\/n=1)->y.kind=n->(∃cc,y=.c cc)/\∀cc,y=.c cc->cc.isLd=(n==1):=by
        intro n hn hyn;cases y with
        | c cc=>
          refine⟨⟨cc,rfl⟩,fun c' e=>?_⟩;cases e;simp only[I.kind]at hyn;cases hd:cc.isLdd
          · cases hl:cc.isLd<;>simp[hl,hd]at hyn<;>subst hyn<;>rfl
          · simp[hd]at hyn; subst hyn; simp at hn
        | _=>simp[I.kind]at hyn; subst hyn; simp at hn
      have hkl:y.kind=0\/y.kind=1\/y.kind=2\/y.kind=3\/y.kind=4\/y.kind=5:=by
        cases y with
        | c cc=>simp only[I.kind]; (repeat' split)<;>simp
        | _=>simp[I.kind]
      rcases hkl with h0 | h1 | h2 | h3 | h4 | h5
      · rw[hky,h0]at hkind
        obtain⟨c1,c2⟩:=hcc 0 (.inl rfl) h0;exact first false (fun cc e=>by simpa using c2 cc e) c1 hkind (by simp) (by rw[<-hkd',hky,h0]; decide)
      · rw[hky,h1]at hkind
        simp only[Uai]at hkind;obtain⟨c1,c2⟩:=hcc 1 (.inr rfl) h1;refine first true (fun cc e=>by simpa using c2 cc e) c1 hkind.1 (fun _ j hj hk3 hne=>?_) (by rw[<-hkd',hky,h1]; decide)
        have:=Ubt.1 hkind.2 j (by simpa using hj);have hk3':kd j=3:=hk3;have hw:W4 .any ops i 1 j=true\/W4 .any ops i ops.size j=true:=by simpa[hk3',hne]using this
        exact hw.elim (fun h=>⟨_,h⟩) (fun h=>⟨_,h⟩)
      · rw[hky,h2]at hkind
        exact alone (by simpa using hkind)
      · rw[hky,h3]at hkind
        exact alone (by simpa using hkind)
      · rw[hky,h4]at hkind
        exact alone (by simpa using hkind)
      · rw[hky,h5]at hkind
        obtain⟨cc,rfl,hld⟩:∃cc,y=.c cc/\cc.isLdd=true:=by
          cases y with
          | c cc=>
            simp only[I.kind]at h5;cases hd:cc.isLdd
            · cases hl:cc.isLd<;>simp[hl,hd]at h5
            · exact⟨cc,rfl,hd⟩
          | _=>simp[I.kind]at h5
        let B':Nat->Prop:=fun b=>b<w.heap.size/\¬own ρ b;have hB':X1j B' w ρ:=fun b hb=>hb;have hself:∀w,RJ kd B' i w w:=fun w=>⟨fun _=>Ext.refl w,FB.refl B' w⟩;have hwt:true=true->∀j,j<ops.size->j ≠ i->(∃fuel,W4 .any ops i fuel j=true)\/∀u v,RJ kd B' j u v->FB B' u v:=fun _ j _ _=>.inr fun u v h=>h.2;refine Q8 (R:=RJ kd B') (fun j u v h=>⟨h.1,fun b hb=>h.2 b (hB b hb)⟩) _ _ _ _ ?_;rcases hways with⟨hw,sl',hs,hwp⟩ | ⟨hw,sl',hs,hwp⟩
        · simp only[I.wp]at hwp
          obtain⟨v,z,hk,hrep,hrun⟩:=C.soundD hs m.om hld hy hwp;obtain⟨g1,g2,g3⟩:=Xo hdst m.size hs hrep;refine Yn (S:=FB B') (l:=true) (FB.refl B') (fun _ _ _=>FB.trans) ho (Region.noSelect_spec hsel) (hQo v) hwt hself _ listed a w hcl (Region.free_spec ho hkind) hr' (.inl ⟨hw,fun w' hw'=>hrun o rfl w' (fun b h1 h2=>hw' rfl b ⟨h1,h2⟩)⟩) ?_;exact Yw hg hsel hpk hK hQ n r B' _ _ ob ρ _ w hB' hrest hcl' hk ⟨m.base,m.om,g1,g2,m.df.put g3,m.xo,m.gl⟩
        · obtain⟨g1,g2,g3⟩:=Xo hdst m.size hs (Y2.2 rfl)
          refine Yn (S:=FB B') (l:=true) (FB.refl B') (fun _ _ _=>FB.trans) ho (Region.noSelect_spec hsel) (hQo undef) hwt hself _ listed a w hcl (Region.free_spec ho hkind) hr' (.inr ⟨hw,rfl⟩) ?_;exact Yw hg hsel hpk hK hQ n r B' _ _ ob ρ _ w hB' hrest hcl' hwp ⟨m.base,m.om,g1,g2,m.df.put g3,m.xo,m.gl⟩
  | 0,.one _ _ _,_,_,_,_,_,_,_,_,hc,_,_,_=>by simp[V7]at hc
  | 0,.br _,_,_,_,_,_,_,_,_,hc,_,_,_=>by simp[V7]at hc
  | _+1,.done,_,_,_,_,_,_,_,_,hc,_,_,_=>by simp[V7]at hc

theorem Xa7 {p:Nat->Prop}:∀n,p n->∃m,p m/\∀k,p k->m<=k:=by
  intro n;induction n using Nat.strongRecOn with
  | _ n ih=>
    intro hn;by_cases h:∃k,p k/\k<n
    · obtain⟨k,hk,hlt⟩:=h; exact ih k hlt hk
    · exact⟨n,hn,fun k hk=>Nat.le_of_not_lt fun hlt=>h ⟨k,hk,hlt⟩⟩

theorem Xjx {sl:Xf}:∀{l:List Nat} {p:Nat×V},p∈Xk sl l->p.2=look sl p.1
  | [],p,h=>by cases h
  | k::r,p,h=>by
    rcases Uax.1 h with rfl | h
    · rfl
    · exact Xjx h
theorem Ymk {w:World}{ρ:Env}{ob:Xb}(h:OM w ρ ob)(o:Obj):Tr w ρ (Xaa w o) (ρ.ins (Xa ob) (.map w.heap.size)):=
  W6 _ (Zd w o) (o:=.map w.heap.size) (h.free (X2 ob)) (fun b hb=>by simp[RO.blk?]at hb; omega)
theorem X47 {sl:Xf}{k:Nat}:look sl k=.any\/(k,look sl k)∈sl:=by
  induction sl with
  | nil=>exact .inl rfl
  | cons e r ih=>
    obtain⟨j,v⟩:=e;simp only[look];split
    · rename_i e; subst e; exact .inr (by simp)
    · exact ih.imp id (fun h=>by simp[h])

theorem Xzq {P:Prg}{c:Ctx}(hg:P.g=c.g){xo:Nat->Prop}{f:Operand}{tag:Nat}{slk:Xf}{Q:Y3}{ob:Xb}{ρ:Env}{a:Act}{w w1:World}{ρ1:Env}{fi ca:List V}{fs gs:List Value}{fk D:Nat}(hmk:c.mrk=true)
    (m:Mod c xo ρ slk ob a w) (hcal:Xm P.p fk=true) (h:ACall P fk (fi++[.hd true (Xa ob)]++ca) ((Xa ob,.lp tag .ready slk)::ob) (rgQ Q slk (Xa ob)))
    (e1:a.eval f=.func (.func fk) fs.toArray gs.toArray) (r2:V.reps w ρ fi fs) (r3:V.reps w ρ ca gs) (t1:Tr w ρ w1 ρ1) (o1:OM w1 ρ1 ((Xa ob,.lp tag .ready slk)::ob)) {L:Nat} (hL1:ρ1.m (Xa ob)=some (.map L))
    (hD:c.w0.heap.size<=D/\w1.heap[D]? = some (.deferred (some []))/\¬Xbr ρ1 D) (hDn:w.heap.size<=D) :
    ∃(d:Deferred) (w₁':World) (f':FuncId) (args:Array Value) (w₂:World),
      (resolve a.eval (rangeCall f L) 0).run P.p w1=.ok d w₁'/\(∀f',Target.leads P.p w₁' d.target d.args=some f'->(frm none).fn f')/\
      (invoke d.target d.args).run P.p w₁'=.ok (.enter f' args) w₂/\((frm none).depth.isSome=true->1<=0)/\
      CallsIn (frm none) (0-1) P.p f' args w₂ (rangePost (frm none) 0 P.p L (lift c xo Q) { a with defers:=[mkD D]++a.defers }):=by
  have hgl:ρ1.gl=P.g:=t1.gl.trans (m.gl.trans hg.symm);have hy:(V.hd true (Xa ob)).rep w1 ρ1 (.func (.yield L) #[] #[]):=J4.2 (.inl ⟨L,hL1,rfl⟩);have hreps:V.reps w1 ρ1 (fi++[.hd true (Xa ob)]++ca) (fs++[Value.func (.yield L) #[] #[]]++gs):=
    reps_append (reps_append (V.reps_tr t1 _ _ r2) (by simp only[V.reps]; exact⟨_,_,rfl,hy,rfl⟩)) (V.reps_tr t1 _ _ r3)
  refine⟨⟨.fn (.func fk) gs.toArray,fs.toArray++#[Value.func (.yield L) #[] #[]]⟩,w1,fk,(fs++[Value.func (.yield L) #[] #[]]++gs).toArray,w1,?_,fun _ _=>Xp4 _ _,?_,fun h=>(by rw[Xjk]at h; cases h),Xjj ?_⟩
  · simp only[resolve,rangeCall,e1,Deferred.ofValue,Sem.run_pure]
    simp[Act.eval]
  · simp only[invoke,Yl hcal]
    congr 2;apply Array.ext'; simp
  · refine (h.run w1 ρ1 _ o1 hgl hreps).mono fun e w' ⟨out,ob',ρ',hk,hr,o2,t2⟩=>?_
    cases e with
    | panicked ch=>cases out<;>first | exact hk.elim | exact hr.elim
    | outgrown=>cases out<;>exact hr.elim
    | returned u=>
      cases out with
      | panic v=>exact hr.elim
      | ret v=>
        simp only[rgQ]at hk;obtain⟨st,tg,sl2,hl,hst,hk⟩:∃st tg sl2,Xc ob' (Xa ob)=some (.lp tg st sl2)/\st ≠ .busy/\(match st with
            | .ready=>Q .normal slk (setO ob' (Xa ob) .gone)
            | .ret=>Q .ret slk (setO ob' (Xa ob) .gone)
            | .exit n=>Q (.exit n) slk (setO ob' (Xa ob) .gone)
            | .busy=>False):=by
          unfold rgE at hk;split at hk
          · rename_i hl; exact⟨_,_,_,hl,by simp,hk⟩
          · rename_i hl; exact⟨_,_,_,hl,by simp,hk⟩
          · rename_i hl; exact⟨_,_,_,hl,by simp,hk⟩
          · exact hk.elim
        obtain⟨b,fn,tm,dd,qs,c1,c2,g1,g2,g3,g4⟩:=o2.one _ _ hl;obtain⟨o',p1,p2⟩:=t2.same _ _ hL1;have hbL:b=L:=by
          rw[g1]at p1; simp only[Uaq]at p1; subst p1;cases p2 with
          | refl=>rfl
        subst hbL;have hend:(Instr.endLoop b).run P.p w'=.ok st.pend (Xac w' b (.loop { state:=.exhausted,pending:=st.pend,fn:=fn,tmps:=tm,params:=qs,assign:=c1,body:=c2,defers:=dd })):=by
          have hget:(Instr.getLoop b).run P.p w'=.ok { state:=st.st,pending:=st.pend,fn:=fn,tmps:=tm,params:=qs,assign:=c1,body:=c2,defers:=dd } w':=by
            simp[Instr.getLoop,getObj,Sem.run,g2]
          have hnb:(st.st==LoopState.busy)=false:=by cases st<;>first | exact absurd rfl hst | rfl
          have hset:=Qc (P:=P.p) (o:=.loop { state:=.exhausted,pending:=st.pend,fn:=fn,tmps:=tm,params:=qs,assign:=c1,body:=c2,defers:=dd }) w' g2 rfl;simp only[Instr.endLoop,Sem.run_bind,hget,Result.andThen_ok,hnb,Uah,Uay,hset,Sem.run_pure]
        obtain⟨t3,o3,_⟩:=Xgj (w2:=Xac w' b (.loop { state:=.exhausted,pending:=st.pend,fn:=fn,tmps:=tm,params:=qs,assign:=c1,body:=c2,defers:=dd })) o2 ⟨_,hl⟩ (W0 ..) (fun j hj=>Zk w' _ (fun e=>hj _ g1 (by simp[RO.blk?,e]))) rfl rfl rfl (Uak _);have t4:=(t1.trans t2).trans t3;have m4:Mod c xo (ρ'.ins (Xa ob) .gone) slk (setO ob' (Xa ob) .gone) { a with defers:=[mkD D]++a.defers } (Xac w' b (.loop { state:=.exhausted,pending:=st.pend,fn:=fn,tmps:=tm,params:=qs,assign:=c1,body:=c2,defers:=dd })):=by
          refine⟨m.base.tr t4,o3,m.sm.tr t4,m.size,?_,t4.xo.trans m.xo,t4.gl.trans m.gl⟩;obtain⟨ms,q1,q2,q3,q4⟩:=m.df.tr t4;have t5:=t2.trans t3;refine⟨D::ms,by simp[q1,mkD],fun h=>(by rw[hmk]at h; cases h),List.nodup_cons.2 ⟨fun hm=>?_,q3⟩,fun r hr=>?_⟩
          · obtain⟨ms',q1',_,_,q4'⟩:=m.df
            have:ms.map mkD++c.df=ms'.map mkD++c.df:=q1.symm.trans q1';have h2:=List.append_cancel_right this;have h3:mkD D∈ms'.map mkD:=by rw[<-h2]; exact List.mem_map_of_mem hm
            obtain⟨r,hr,e⟩:=Ua5.1 h3;have:r=D:=by simpa[mkD]using e
            subst this;have:=Xi (q4' r hr).2.1;omega
          · rcases Uax.1 hr with rfl | hr
            · exact⟨hD.1,(t5.keep _ hD.2.2 (Xi hD.2.1)).trans hD.2.1,fun h=>(t5.owns _ h).elim hD.2.2 (fun h=>by have:=Xi hD.2.1; omega)⟩
            · exact q4 r hr
        refine⟨st.pend,_,hend,?_⟩;cases st with
        | ready=>exact⟨.normal,slk,_,_,hk,trivial,m4⟩
        | busy=>exact hk.elim
        | ret=>exact wpIn_ret ⟨.ret,slk,_,_,hk,trivial,m4⟩
        | exit n=>exact wpIn_exit ⟨.exit n,slk,_,_,hk,rfl,m4⟩

theorem Xzr {P:Prg}{c:Ctx}(hg:P.g=c.g)(hmk:c.mrk=true){xo:Nat->Prop}{f:Operand}{qs:Array Nat}{ca cb:Code}{tag:Nat}{ps:List Nat}{g:A}{x y:S}{keep:List Nat}{Q:Y3}{sl:Xf}{ob:Xb}{ρ:Env}{a:Act}{w:World}
    (hc:(A.chk f g&&((qs.toList==ps)&&ps.all (fun k=>decide (k<c.N))&&S.chk P.p c.N ca x&&S.chk P.p c.N cb y&&x.noR&&y.noR))=true)
    (h:cwp P (.rgf tag ps g x y keep) Q sl ob) (m:Mod c xo ρ sl ob a w):(Code.rangeFunc f qs ca cb).wpIn (frm none) 0 P.p (lift c xo Q) a w:=by
  simp only[cwp]at h;obtain⟨hL,hr⟩:=h;rw[Uai]at hc;obtain⟨h1,h2⟩:=hc;refine wpIn_rangeFunc fun fn _=>?_;have r1:=A.sound m.sm h1;let D:=w.heap.size;let wd:=Xaa w (.deferred (some []));let L:=wd.heap.size;let lo:Loop:={ state:=.ready,pending:=none,fn:=fn,tmps:=a.tmps,params:=qs,assign:=ca,body:=cb,defers:=D }
  have t0:Tr w ρ wd ρ:=(Zd w _).tr;have o0:OM wd ρ ob:=m.om.ext (Zd w _);have t1:=Ymk o0 (.loop lo);have hbig:w.heap.size<wd.heap.size:=by show w.heap.size<(w.heap.push _).size; simp
  have hx:V6 (Xaa wd (.loop lo)) (ρ.ins (Xa ob) (.map wd.heap.size)) (Xa ob) (.lp tag .ready (Xk sl keep)):=by
    refine⟨L,fn,a.tmps,D,qs,ca,cb,by simp[Env.ins,L],Zm _ _,?_,fun p hp=>?_⟩
    · show ρ.gl.l tag qs a.tmps.size ca cb
      rw[m.gl,<-hg,m.size];exact (hL qs c.N ca cb).2 h2
    · rw[Xjx hp]
      exact V.rep_tr (t0.trans t1) (m.sm p.1)
  obtain⟨_,o1,_⟩:=Xxn o0 (.loop lo) (.lp tag .ready (Xk sl keep)) hx;have hent:(Instr.enterLoop fn a.tmps qs ca cb (frm none).round).run P.p w=.ok (L,[mkD D]) (Xaa wd (.loop lo)):=by
    simp only[Instr.enterLoop,Xjl,Sem.run_bind,run_newObj,Result.andThen_ok,Sem.run_pure];rfl
  have hown:¬Xbr ρ D:=fun ⟨i,o,q1,q2⟩=>by have:=Wl m.om q1 q2; omega
  have hD:c.w0.heap.size<=D/\(Xaa wd (.loop lo)).heap[D]? = some (.deferred (some []))/\¬Xbr (ρ.ins (Xa ob) (.map wd.heap.size)) D:=by
    refine⟨m.base.size,?_,fun ⟨i,o,q1,q2⟩=>?_⟩
    · have:(Xaa wd (.loop lo)).heap[D]? = wd.heap[D]?:=Xum wd _ hbig
      rw[this]; exact Zm _ _
    · simp only[Env.ins]at q1
      split at q1
      · cases q1; simp[RO.blk?]at q2; omega
      · exact hown ⟨i,o,q1,q2⟩
  have mk:Mod c xo ρ (Xk sl keep) ob a w:=⟨m.base,m.om,m.sm.keep keep,m.size,m.df,m.xo,m.gl⟩
  have hm1:(ρ.ins (Xa ob) (.map wd.heap.size)).m (Xa ob)=some (.map L):=by simp[Env.ins,L]
  unfold rgK at hr;split at hr
  · rename_i fk fi cc e1
    rw[e1,Xbi]at r1;obtain⟨fs,gs,r1,r2,r3⟩:=r1;obtain⟨d,w1',f',args,w2,q1,q2,q3,q4,q5⟩:=Xzq hg hmk mk hr.1 hr.2 r1 r2 r3 (t0.trans t1) o1 hm1 hD (Uak _);exact⟨L,[mkD D],_,d,w1',f',args,w2,hent,q1,q2,q3,q4,q5⟩
  · rename_i fk fi cc e1
    rw[e1,Xdo]at r1;obtain⟨fs,gs,r1,r2,r3⟩:=r1;obtain⟨d,w1',f',args,w2,q1,q2,q3,q4,q5⟩:=Xzq hg hmk mk hr.1 hr.2 r1 r2 r3 (t0.trans t1) o1 hm1 hD (Uak _);exact⟨L,[mkD D],_,d,w1',f',args,w2,hent,q1,q2,q3,q4,q5⟩
  · exact hr.elim

theorem Xbf {ops:Array Oper}(h:Xn0 ops=true):∀o∈ops.toList,∀c,o.op ≠ .defer c:=fun o ho c e=>by
  have:=Ubt.1 h o ho;simp[e]at this
theorem Ypp {a b:Bool}{p:Prop}(h:(a&&b)=true\/p):a=true\/p:=h.imp (fun h=>(by simp at h; exact h.1)) id
theorem Ypq {a b:Bool}{p:Prop}(h:(a&&b)=true\/p):b=true\/p:=h.imp (fun h=>(by simp at h; exact h.2)) id
theorem Yf {P:Prg}(hm:P.p.follows .mixedOrders=true){c:Ctx}(hg:P.g=c.g){xo:Nat->Prop}{rd:Option Nat}:∀(code:Code) (s:S) (Q:Y3) (sl:Xf) (ob:Xb) (ρ:Env) (a:Act) (w:World),
    S.chk P.p c.N code s=true->(s.noR=true\/(c.mrk=true/\rd=none))->cwp P s Q sl ob->Mod c xo ρ sl ob a w->code.wpIn (frm rd) 0 P.p (lift c xo Q) a w
  | .skip,s,Q,sl,ob,ρ,a,w,hc,hn,h,m=>by
    cases s<;>simp[S.chk]at hc;exact wpIn_skip ⟨.normal,sl,ob,ρ,h,trivial,m⟩
  | .region id ops draw,s,Q,sl,ob,ρ,a,w,hc,hn,h,m=>by
    cases s<;>simp only[S.chk,Uah]at hc
    case rgT n t keep pk=>
      simp only[cwp]at h;simp only[Uai]at hc;obtain⟨⟨⟨⟨⟨hnd,hdr⟩,hlen⟩,hsel⟩,hpk⟩,hcan⟩:=hc;have hnd:=Xbf hnd;subst hdr;have hlen:n<=ops.size:=by simpa using hlen
      let Q':Exit->Act->World->Prop:=fun e a w=>match e with
        | .panic ch=>Xce c xo pk Q ch a w
        | e=>lift c xo Q e a w
      have hx:Ext w { w with drawn:=w.drawn+1 }:=Ext.drew w _;have key:=Yw (Q:=Q') (QP:=Q) (K:=fun sl ob=>Q .normal (Xk sl keep) ob) hg hsel hpk
        (fun sl ob ρ a w hk m=>(⟨.normal,_,ob,ρ,hk,trivial,m.base,m.om,m.sm.keep keep,m.size,m.df,m.xo,m.gl⟩:lift c xo Q .normal a w))
        (fun ch a w=>Iff.rfl) n t (fun _=>False) (Array.replicate ops.size false) sl ob ρ a { w with drawn:=w.drawn+1 } (fun _ h=>h.elim) hcan
        (fun k o _ hl=>by
          rcases Uaa k ops.size with h' | h'
          · simp[h']at hl
          · simp[h']at hl) h ⟨m.base.tr hx.tr,m.om.ext hx,m.sm.tr hx.tr,m.size,m.df.tr hx.tr,m.xo,m.gl⟩
      have hany:=Xa1 _ _ _ _ key;refine wpIn_mono (wpIn_region_any hm (Xd3 hnd _ _ _ _ (Q7 _ _ _ _ _ hlen hany))) (fun e a' w' he=>?_);cases e with
      | panic ch=>
        obtain⟨v,sl',ob',ρ',u,h1,h2,h3,m'⟩:=he;exact⟨.panic v,_,ob',ρ',h1,⟨u,h2,h3⟩,m'⟩
      | _=>exact he
    rename_i ord l keep pk;simp only[cwp]at h;rw[Uai]at hc;obtain⟨hnd,hc⟩:=hc;have hnd:=Xbf hnd;cases draw with
    | false=>
      simp only[Uah,Uay]at hc;refine wpIn_region_list (Xa2 _ hnd _ _ (Xat (c:=c) (xo:=xo) hg (fun sl ob ρ a w hk m=>?_) (fun v sl ob ρ a w u hk m hr=>?_) ops.toList l sl ob ρ a w hc h m))
      · exact⟨.normal,_,ob,ρ,hk,trivial,m.base,m.om,m.sm.keep keep,m.size,m.df,m.xo,m.gl⟩
      · exact⟨.panic v,_,ob,ρ,hk,⟨u,rfl,hr⟩,m.base,m.om,m.sm.keep pk,m.size,m.df,m.xo,m.gl⟩
    | true=>
      simp only[Ubb,Uai]at hc;obtain⟨⟨⟨hlen,hsel⟩,hpk⟩,hcan⟩:=hc;have hlen:ord.length<=ops.size:=by simpa using hlen
      let Q':Exit->Act->World->Prop:=fun e a w=>match e with
        | .panic ch=>Xce c xo pk Q ch a w
        | e=>lift c xo Q e a w
      have hx:Ext w { w with drawn:=w.drawn+1 }:=Ext.drew w _;have key:=Yo (Q:=Q') (QP:=Q) (K:=fun sl ob=>Q .normal (Xk sl keep) ob) hg hsel hpk
        (fun sl ob ρ a w hk m=>(⟨.normal,_,ob,ρ,hk,trivial,m.base,m.om,m.sm.keep keep,m.size,m.df,m.xo,m.gl⟩:lift c xo Q .normal a w))
        (fun ch a w=>Iff.rfl) ord l (fun _=>False) (Array.replicate ops.size false) sl ob ρ a { w with drawn:=w.drawn+1 } (fun _ h=>h.elim) hcan
        (fun k o _ hl=>by
          rcases Uaa k ops.size with h' | h'
          · simp[h']at hl
          · simp[h']at hl) h ⟨m.base.tr hx.tr,m.om.ext hx,m.sm.tr hx.tr,m.size,m.df.tr hx.tr,m.xo,m.gl⟩
      have hany:=Xa1 _ _ _ _ key;refine wpIn_mono (wpIn_region_any hm (Xd3 hnd _ _ _ _ (Q7 _ _ _ _ _ hlen hany))) (fun e a' w' he=>?_);cases e with
      | panic ch=>
        obtain⟨v,sl',ob',ρ',u,h1,h2,h3,m'⟩:=he;exact⟨.panic v,_,ob',ρ',h1,⟨u,h2,h3⟩,m'⟩
      | _=>exact he
  | .seq x y,s,Q,sl,ob,ρ,a,w,hc,hn,h,m=>by
    cases s<;>simp[S.chk]at hc;simp only[cwp]at h;refine wpIn_seq (wpIn_mono (Yf hm hg x _ _ sl ob ρ a w hc.1 (Ypp hn) h m) ?_);rintro e a' w' ⟨ae,sl',ob',ρ',hq,he,m'⟩;cases ae with
    | normal=>
      cases e<;>simp only[exM]at he;exact Yf hm hg y _ Q sl' ob' ρ' a' w' hc.2 (Ypq hn) hq m'
    | exit n=>
      cases e<;>simp only[exM]at he;exact⟨.exit n,sl',ob',ρ',hq,he,m'⟩
    | ret=>
      cases e<;>simp only[exM]at he;exact⟨.ret,sl',ob',ρ',hq,trivial,m'⟩
    | panic v=>
      cases e<;>simp only[exM]at he;exact⟨.panic v,sl',ob',ρ',hq,he,m'⟩
  | .cond d x y,s,Q,sl,ob,ρ,a,w,hc,hn,h,m=>by
    cases s<;>simp[S.chk]at hc;obtain⟨⟨h1,h2⟩,h3⟩:=hc;simp only[cwp]at h;have r1:=A.sound m.sm h1;unfold Xal at h;split at h
    · rename_i t e
      rw[e,rep_bool]at r1;exact wpIn_cond_split r1 (fun ht=>Yf hm hg x _ Q sl ob ρ a w h2 (Ypp hn) (h.1 ht) m) (fun ht=>Yf hm hg y _ Q sl ob ρ a w h3 (Ypq hn) (h.2 ht) m)
    · exact h.elim
  | .block n x,s,Q,sl,ob,ρ,a,w,hc,hn,h,m=>by
    cases s<;>simp[S.chk]at hc;obtain⟨rfl,h1⟩:=hc;simp only[cwp]at h;refine wpIn_block (wpIn_mono (Yf hm hg x _ _ sl ob ρ a w h1 hn h m) ?_);rintro e a' w' ⟨ae,sl',ob',ρ',hq,he,m'⟩;cases ae with
    | normal=>
      cases e<;>simp only[exM]at he;exact⟨.normal,sl',ob',ρ',hq,trivial,m'⟩
    | exit k=>
      cases e<;>simp only[exM]at he;subst he;simp only[Y7]at hq;simp only[Exit.inBlock];split
      · rename_i e; rw[Uby e]at hq; exact⟨.normal,sl',ob',ρ',hq,trivial,m'⟩
      · rename_i e; rw[Ubo e]at hq; exact⟨.exit _,sl',ob',ρ',hq,rfl,m'⟩
    | ret=>
      cases e<;>simp only[exM]at he;exact⟨.ret,sl',ob',ρ',hq,trivial,m'⟩
    | panic v=>
      cases e<;>simp only[exM]at he;exact⟨.panic v,sl',ob',ρ',hq,he,m'⟩
  | .loop x,s,Q,sl,ob,ρ,a,w,hc,hn,h,m=>by
    cases s<;>simp[S.chk]at hc;simp only[cwp]at h;obtain⟨ι,St,Ot,I,μ,i0,hi0,he0,he1,hstep⟩:=h.run;let G:Act->World->Nat->Prop:=fun a w n=>∃i ρ,I i/\μ i=n/\Mod c xo ρ (St i) (Ot i) a w;let M:Act->World->Nat:=fun a w=>open Classical in if h:∃n,G a w n then Classical.choose (Xa7 (p:=G a w) (Classical.choose h) (Classical.choose_spec h)) else 0
    have hM:∀a w n,G a w n->G a w (M a w)/\M a w<=n:=by
      intro a w n hn;have hex:∃n,G a w n:=⟨n,hn⟩
      have:=Classical.choose_spec (Xa7 (p:=G a w) (Classical.choose hex) (Classical.choose_spec hex));simp only[M,hex,dif_pos];exact⟨this.1,this.2 n hn⟩
    refine wpIn_loop (I:=fun a w=>∃n,G a w n) (μ:=M) ⟨μ i0,i0,ρ,hi0,rfl,by rw[<-he0,<-he1]; exact⟨m.base,m.om,m.sm.keep _,m.size,m.df,m.xo,m.gl⟩⟩ ?_;rintro a1 w1 ⟨n,hgn⟩;obtain⟨⟨i,ρ1,hi,hmu,m1⟩,_⟩:=hM a1 w1 n hgn;refine wpIn_mono (Yf hm hg x _ _ _ _ ρ1 a1 w1 hc hn (hstep i hi) m1) ?_;rintro e a' w' ⟨ae,sl',ob',ρ',hq,he,m'⟩;cases ae with
    | normal=>
      cases e<;>simp only[exM]at he;simp only[W3]at hq;obtain⟨drp,q1,q2,j,hj,hlt,hSj,hOj⟩:=hq;have hold1:∀id o,ρ1.m id=some o->Xe (Xa (Ot i)) drp id=false:=fun id o h0=>by
        obtain⟨x,hx⟩:=m1.om.dom id o h0;have hlt:¬Xa (Ot i)<=id:=fun hle=>by rw[X1 _ _ hle]at hx; cases hx
        simp[Xe,hlt]
      have hold:∀id o,c.m0 id=some o->Xe (Xa (Ot i)) drp id=false:=fun id o h0=>by
        obtain⟨o',h1,_⟩:=m1.base.same id o h0;exact hold1 id o' h1
      have hev:∀p∈c.ev,V.men (Xe (Xa (Ot i)) drp) p.1=false:=fun p hp=>V.men_temp hold1 (m1.base.ext p hp);have hg:G a' w' (μ j):=⟨j,_,hj,rfl,by rw[<-hSj,<-hOj]; exact m'.sub hold hev q1 q2⟩
      have:=hM a' w' _ hg;exact⟨⟨_,hg⟩,by omega⟩
    | exit k=>
      cases e<;>simp only[exM]at he;exact⟨.exit k,sl',ob',ρ',hq,he,m'⟩
    | ret=>
      cases e<;>simp only[exM]at he;exact⟨.ret,sl',ob',ρ',hq,trivial,m'⟩
    | panic v=>
      cases e<;>simp only[exM]at he;exact⟨.panic v,sl',ob',ρ',hq,he,m'⟩
  | .exit n,s,Q,sl,ob,ρ,a,w,hc,hn,h,m=>by
    cases s<;>simp[S.chk]at hc;subst hc;exact wpIn_exit ⟨.exit n,sl,ob,ρ,h,rfl,m⟩
  | .ret,s,Q,sl,ob,ρ,a,w,hc,hn,h,m=>by
    cases s<;>simp[S.chk]at hc;exact wpIn_ret ⟨.ret,sl,ob,ρ,h,trivial,m⟩
  | .rangeFunc f qs ca cb,s,Q,sl,ob,ρ,a,w,hc,hn,h,m=>by
    cases s<;>simp only[S.chk,Uah]at hc;rename_i tag ps g x y keep;obtain⟨hmk,rfl⟩:c.mrk=true/\rd=none:=hn.resolve_left (by simp[S.noR]);exact Xzr hg hmk hc h m
  | .scope _,s,Q,sl,ob,ρ,a,w,hc,hn,h,m=>by cases s<;>simp[S.chk]at hc
  | .label _,s,Q,sl,ob,ρ,a,w,hc,hn,h,m=>by cases s<;>simp[S.chk]at hc
  | .goto _,s,Q,sl,ob,ρ,a,w,hc,hn,h,m=>by cases s<;>simp[S.chk]at hc
  | .refuse _,s,Q,sl,ob,ρ,a,w,hc,hn,h,m=>by cases s<;>simp[S.chk]at hc
end Go.Ab
namespace Go.Ab
open Go

structure Same (w w2:World):Prop where
 size:w2.heap.size=w.heap.size
 heap:∀b:Nat,w2.heap[b]? = w.heap[b]?\/∃x y,w.heap[b]? = some (Obj.deferred x)/\w2.heap[b]? = some (Obj.deferred y)
 tape:w2.tape=w.tape
 os:w2.os=w.os
 out:w2.output=w.output
 drawn:w2.drawn=w.drawn
theorem Same.refl (w:World):Same w w:=⟨rfl,fun _=>.inl rfl,rfl,rfl,rfl,rfl⟩
theorem Same.trans {w w2 w3:World}(h:Same w w2)(h':Same w2 w3):Same w w3:=by
 refine⟨h'.size.trans h.size,fun b=>?_,h'.tape.trans h.tape,h'.os.trans h.os,h'.out.trans h.out,h'.drawn.trans h.drawn⟩;rcases h.heap b with h1 | ⟨x,y,h1,h2⟩
 ·rcases h'.heap b with h3 | ⟨u,v,h3,h4⟩
  ·exact .inl (h3.trans h1)
  ·exact .inr ⟨u,v,h1.symm.trans h3,h4⟩
 ·rcases h'.heap b with h3 | ⟨u,v,h3,h4⟩
  ·exact .inr ⟨x,y,h1,h3.trans h2⟩
  ·exact .inr ⟨x,v,h1,h4⟩
section
variable {w w2:World} (s:Same w w2)
include s
theorem Same.keep {b:Nat}{o:Obj}(h:w.heap[b]? = some o)(ho:∀x,o ≠ .deferred x):w2.heap[b]? = some o:=by
 rcases s.heap b with h1 | ⟨x,y,h1,_⟩
 ·exact h1.trans h
 ·rw[h]at h1; cases h1; exact absurd rfl (ho x)
theorem Same.cell {b o:Nat}{v:Value}(h:w.cell? ⟨b,o,none⟩=some v):w2.cell? ⟨b,o,none⟩=some v:=by
 rcases s.heap b with h1 | ⟨x,y,h1,_⟩
 ·rw[cell?_congr h1]; exact h
 ·simp[World.cell?,h1]at h
theorem Same.cells {ow:Nat->Prop}{a:Addr}{vs:List Value}(h:Cells w ow a vs):Cells w2 ow a vs:=
 ⟨fun hne=>⟨(h.1 hne).1,(h.1 hne).2.1,by rw[s.size]; exact (h.1 hne).2.2⟩,fun i hi=>s.cell (h.2 i hi)⟩
mutual
theorem D.rep_same {ow:Nat->Prop}:∀(d:D) (cs:List Value),d.rep w ow cs->d.rep w2 ow cs
 | .int k n,cs,h=>by simpa[D.rep]using h
 | .bool b,cs,h=>by simpa[D.rep]using h
 | .str s,cs,h=>by simpa[D.rep]using h
 | .nils,cs,h=>by simpa[D.rep]using h
 | .nili,cs,h=>by simpa[D.rep]using h
 | .nilp,cs,h=>by simpa[D.rep]using h
 | .nilf,cs,h=>by simpa[D.rep]using h
 | .nilm,cs,h=>by simpa[D.rep]using h
 | .ref x,cs,h=>by
  simp only[D.rep]at h⊢;obtain⟨a,vs,e,h0,h1,h2⟩:=h;exact⟨a,vs,e,h0,s.cells h1,D.rep_same x vs h2⟩
 | .iface t x,cs,h=>by
  simp only[D.rep]at h⊢;obtain⟨u,e,h1⟩:=h;refine⟨u,e,?_⟩;rcases h1 with⟨p,ds,q,r⟩ | ⟨p,r⟩
  ·exact .inl ⟨p,ds,q,D.rep_same x ds r⟩
  ·exact .inr ⟨p,D.rep_same x _ r⟩
 | .fn f fi ca,cs,h=>by
  simp only[D.rep]at h⊢;obtain⟨fs,gs,e,h1,h2⟩:=h;exact⟨fs,gs,e,D.repT_same fi fs h1,D.repT_same ca gs h2⟩
 | .agg xs,cs,h=>by
  simp only[D.rep]at h⊢;exact D.repL_same xs cs h
 | .list sz xs,cs,h=>by
  simp only[D.rep]at h⊢;rcases h with h | ⟨a,cap,vs,h1,h2,h3,h4,h5⟩
  ·exact .inl h
  ·exact .inr ⟨a,cap,vs,h1,h2,s.cells h3,D.repL_same xs vs h4,h5⟩
theorem D.repT_same {ow:Nat->Prop}:∀(xs:List D) (vs:List Value),D.repT w ow xs vs->D.repT w2 ow xs vs
 | [],vs,h=>by simpa only[D.repT]using h
 | x::r,vs,h=>by
  simp only[D.repT]at h⊢;obtain⟨u,us,e,h1,h2⟩:=h;refine⟨u,us,e,?_,D.repT_same r us h2⟩;rcases h1 with⟨p,ds,q,r⟩ | ⟨p,r⟩
  ·exact .inl ⟨p,ds,q,D.rep_same x ds r⟩
  ·exact .inr ⟨p,D.rep_same x _ r⟩
theorem D.repL_same {ow:Nat->Prop}:∀(xs:List D) (cs:List Value),D.repL w ow xs cs->D.repL w2 ow xs cs
 | [],vs,h=>by simpa only[D.repL]using h
 | x::r,vs,h=>by
  simp only[D.repL]at h⊢;obtain⟨c1,c2,e,h1,h2⟩:=h;exact⟨c1,c2,e,D.rep_same x c1 h1,D.repL_same r c2 h2⟩
end
mutual
theorem V.repC_same {ρ:Env}:∀(x:V) (cs:List Value),x.repC w ρ cs->x.repC w2 ρ cs
 | .d x,cs,h=>by simp only[V.repC]at h⊢; exact D.rep_same s x cs h
 | .ptr _ _,cs,h=>by simpa only[V.repC]using h
 | .sl _ _,cs,h=>by simpa only[V.repC]using h
 | .sd _ _,cs,h=>by simpa only[V.repC]using h
 | .mp _,cs,h=>by simpa only[V.repC]using h
 | .hd _ _,cs,h=>by simpa only[V.repC]using h
 | .ep _ _ _ _ _ _,cs,h=>by simpa only[V.repC]using h
 | .bs _ _ _ _,cs,h=>by simpa only[V.repC]using h
 | .fn f fi ca,cs,h=>by
  simp only[V.repC]at h⊢;obtain⟨fs,gs,e,h1,h2⟩:=h;exact⟨fs,gs,e,V.reps_same fi fs h1,V.reps_same ca gs h2⟩
 | .agg xs,cs,h=>by simp only[V.repC]at h⊢; exact V.repCs_same xs cs h
 | .iface ty x,cs,h=>by
  simp only[V.repC]at h⊢;obtain⟨u,e,h1⟩:=h;refine⟨u,e,?_⟩;rcases h1 with h1 | ⟨p,ds,q,r⟩ | ⟨p,r⟩
  ·exact .inl h1
  ·exact .inr (.inl ⟨p,ds,q,V.repC_same x ds r⟩)
  ·exact .inr (.inr ⟨p,V.repC_same x _ r⟩)
 | .tup xs,cs,h=>by
  simp only[V.repC]at h⊢;obtain⟨vs,e,h1⟩:=h;exact⟨vs,e,V.reps_same xs vs h1⟩
 | .undef,cs,h=>by simpa only[V.repC]using h
 | .any,cs,h=>by simpa only[V.repC]using h
theorem V.repCs_same {ρ:Env}:∀(xs:List V) (cs:List Value),V.repCs w ρ xs cs->V.repCs w2 ρ xs cs
 | [],cs,h=>by simpa only[V.repCs]using h
 | x::r,cs,h=>by
  simp only[V.repCs]at h⊢;obtain⟨c1,c2,e,h1,h2⟩:=h;exact⟨c1,c2,e,V.repC_same x c1 h1,V.repCs_same r c2 h2⟩
theorem V.reps_same {ρ:Env}:∀(xs:List V) (vs:List Value),V.reps w ρ xs vs->V.reps w2 ρ xs vs
 | [],vs,h=>by simpa only[V.reps]using h
 | x::r,vs,h=>by
  simp only[V.reps]at h⊢;obtain⟨u,us,e,h1,h2⟩:=h;refine⟨u,us,e,?_,V.reps_same r us h2⟩;rcases h1 with h1 | ⟨p,ds,q,r⟩ | ⟨p,r⟩
  ·exact .inl h1
  ·exact .inr (.inl ⟨p,ds,q,V.repC_same x ds r⟩)
  ·exact .inr (.inr ⟨p,V.repC_same x _ r⟩)
end
theorem V.rep_same {ρ:Env}{x:V}{u:Value}(h:x.rep w ρ u):x.rep w2 ρ u:=by
 rcases h with h1 | ⟨p,ds,q,r⟩ | ⟨p,r⟩
 ·exact .inl h1
 ·exact .inr (.inl ⟨p,ds,q,V.repC_same s x ds r⟩)
 ·exact .inr (.inr ⟨p,V.repC_same s x _ r⟩)
theorem X9.same {ρ:Env}:∀(l:List (D×V)) (es:List MapEntry),X9 w ρ l es->X9 w2 ρ l es
 | [],es,h=>h
 | (k,v)::r,es,h=>by
  obtain⟨e,es',h1,h2,h3,h4⟩:=h;exact⟨e,es',h1,h2,V.rep_same s h3,X9.same r es' h4⟩
theorem V6.same {ρ:Env}{id:Nat}{x:Ob}(h:V6 w ρ id x):V6 w2 ρ id x:=by
 cases x with
 | box E t=>
  obtain⟨b,cs,h2,h3,h4⟩:=h;exact⟨b,cs,h2,s.keep h3 (by simp),V.repC_same s _ _ h4⟩
 | arr E sz xs=>
  rcases h with h1 | ⟨b,cap,cs,sp,h2,h3,h4,h5⟩
  ·exact .inl h1
  ·exact .inr ⟨b,cap,cs,sp,h2,s.keep h3 (by simp),D.repL_same s _ _ h4,h5⟩
 | vec E sz xs=>
  rcases h with h1 | ⟨b,cap,cs,sp,h2,h3,h4,h5⟩
  ·exact .inl h1
  ·exact .inr ⟨b,cap,cs,sp,h2,s.keep h3 (by simp),V.repCs_same s _ _ h4,h5⟩
 | map es=>
  obtain⟨b,l,clk,h2,h3,h4,h5⟩:=h;exact⟨b,l,clk,h2,s.keep h3 (by simp),X9.same s _ _ h4,h5⟩
 | lp tag st sl=>
  obtain⟨b,fn,tm,dd,ps,ca,cb,h2,h3,h4,h5⟩:=h;exact⟨b,fn,tm,dd,ps,ca,cb,h2,s.keep h3 (by simp),h4,fun p hp=>V.rep_same s (h5 p hp)⟩
 | it m n seen=>
  cases m with
  | none=>obtain⟨b,h2,h3⟩:=h; exact⟨b,h2,s.keep h3 (by simp)⟩
  | some j=>obtain⟨b,mb,h2,h4,h3⟩:=h; exact⟨b,mb,h2,h4,s.keep h3 (by simp)⟩
 | gone=>exact h
theorem OM.same {ρ:Env}{ob:Xb}(h:OM w ρ ob)(hg:∀b o,ρ.gl b=some o->w2.heap[b]? = w.heap[b]?):OM w2 ρ ob:=
 ⟨fun id x hx=>V6.same s (h.one id x hx),h.dom,h.inj,fun b hb=>by rw[s.size]; exact h.xlt b hb,fun b o hb=>⟨(hg b o hb).trans (h.glb b o hb).1,(h.glb b o hb).2⟩,h.xdis,h.once⟩
theorem SM.same {ρ:Env}{sl:Xf}{a:Act}(h:SM w ρ sl a):SM w2 ρ sl a:=fun k=>V.rep_same s (h k)
end

theorem X5z {P:Program}{w:World}{r:Nat}(h:w.heap[r]? = some (.deferred (some []))) :
  (Instr.takeDeferred r).run P w=.ok [] (Xac w r (.deferred none))/\Same w (Xac w r (.deferred none))/\∀b,b ≠ r->(Xac w r (.deferred none)).heap[b]? = w.heap[b]?:=by
 have hget:(getObj r).run P w=.ok (.deferred (some [])) w:=by simp[getObj,Sem.run,h]
 have hset:=Qc (P:=P) (o:=.deferred none) w h rfl;refine⟨by simp only[Instr.takeDeferred,Sem.run_bind,hget,Result.andThen_ok,hset,Sem.run_pure],⟨W0 ..,fun b=>?_,rfl,rfl,rfl,rfl⟩,fun b hb=>Zk w _ (Ne.symm hb)⟩;by_cases e:b=r
 ·subst e; exact .inr ⟨_,_,h,J8 w _ (Xi h)⟩
 ·exact .inl (Zk w _ (Ne.symm e))

theorem W7 {F:Fence}{n:Nat}{P:Program}{fn:Func}{tmps:Array Value}{R:Ending->World->Prop}:∀(ms:List Nat) (w:World),ms.Nodup->(∀r∈ms,w.heap[r]? = some (.deferred (some [])))->
  (∀w2,Same w w2->(∀b,b∉ms->w2.heap[b]? = w.heap[b]?)->∃v,(results fn tmps).run P w2=.ok v w2/\R (.returned v) w2)->LeavesInM F n P fn tmps R (ms.map mkD) .returning w
 | [],w,_,_,h=>by
  simp only[Ubm,LeavesInM,LeavesIn];exact h w (Same.refl w) (fun _ _=>rfl)
 | r::ms,w,hn,hm,h=>by
  obtain⟨h1,h2,h3⟩:=X5z (P:=P) (hm r (by simp));obtain⟨hr,hn'⟩:=List.nodup_cons.1 hn;simp only[Uam,LeavesInM];refine⟨by simp,.inl ⟨r,_,rfl,h1,W7 ms _ hn' (fun j hj=>?_) (fun w2 s hs=>?_)⟩⟩
  ·rw[h3 j (fun e=>hr (e▸hj))]; exact hm j (by simp[hj])
  ·exact h w2 (h2.trans s) (fun b hb=>(hs b (fun e=>hb (by simp[e]))).trans (h3 b (fun e=>hb (by simp[e]))))
end Go.Ab
namespace Go.Ab
open Go

inductive RV where
 | t (k:Nat)
 | c (k n:Nat) (ag:Bool)

def RV.chk (P:Program):ResultVar->RV->Bool
 | .tmp j,.t k=>j==k
 | .cell a ty,.c k n ag=>a==k&&Ye P ty==some n&&(P.underlying ty).isSome&&agT P ty==ag
 | _,_=>false
def Qn (P:Program):List ResultVar->List RV->Bool
 | [],[]=>true
 | x::r,y::s=>y.chk P x&&Qn P r s
 | _,_=>false

def RV.wp (sl:Xf)(ob:Xb)(K:V->Prop):RV->Prop
 | .t k=>K (look sl k)
 | .c k n ag=>ldK ob n ag K (look sl k)
def Wz (sl:Xf)(ob:Xb):List RV->(List V->Prop)->Prop
 | [],K=>K []
 | x::r,K=>x.wp sl ob fun v=>Wz sl ob r fun vs=>K (v::vs)

def Wf:List V->V
 | [v]=>v
 | vs=>.tup vs

def W1 (K:List D->Xb->Prop):Option (List D×Xb)->Prop
 | some (l,ob)=>K l ob
 | none=>False

def Uv (rs:List RV)(K:V->Prop):Y3
 | .normal,sl,ob=>Wz sl ob rs fun vs=>W1 (fun l _=>K (Wf (l.map .d))) (V.givs ob vs)
 | .ret,sl,ob=>Wz sl ob rs fun vs=>W1 (fun l _=>K (Wf (l.map .d))) (V.givs ob vs)
 | .exit _,_,_=>False
 | .panic _,_,_=>False

def gvO (v:V)(ob:Xb)(K:V->Xb->Prop):Option (D×Xb)->Prop
 | some (d,ob')=>K (.d d) ob'
 | none=>K v ob
def Xd9:List V->Xb->(List V->Xb->Prop)->Prop
 | [],ob,K=>K [] ob
 | v::r,ob,K=>gvO v ob (fun v' ob'=>Xd9 r ob' fun vs ob''=>K (v'::vs) ob'') (V.giv ob v)
def X6 (n:Nat)(K:Xb->Prop)(vs:List V)(ob:Xb):Prop:=
 ∃kp:List Nat,V.mens (Xe n kp) vs=false/\Xg (Xe n kp) (Yv (Xe n kp) ob)=true/\K (Yv (Xe n kp) ob)
def Va (n:Nat)(rs:List RV)(K:Out->Xb->Prop):Y3
 | .normal,sl,ob=>Wz sl ob rs fun vs=>Xd9 vs ob fun vs ob=>X6 n (K (.ret (Wf vs))) vs ob
 | .ret,sl,ob=>Wz sl ob rs fun vs=>Xd9 vs ob fun vs ob=>X6 n (K (.ret (Wf vs))) vs ob
 | .panic v,_,ob=>X6 n (K (.panic v)) [v] ob
 | .exit _,_,_=>False

def Vr (k:Nat):List V->Xf
 | []=>[]
 | v::r=>(k,v)::Vr (k+1) r

def Uc (P:Program)(f n:Nat)(s:S)(rs:List RV):Bool:=match P.funcs[f]? with
 | some fn=>match fn.body with
  | some code=>decide (n<=fn.ntmps)&&S.chk P fn.ntmps code s&&Qn P fn.results.toList rs
  | none=>false
 | none=>false
def Xj (P:Program)(f n:Nat)(s:S)(rs:List RV):Bool:=Uc P f n s rs&&s.noR

section
variable {P:Program} {w:World} {ρ:Env}

def Xfh (a:Act)(r:ResultVar):Sem Value:=match r with
 | .tmp t=>pure (a.tmps.getD t undef)
 | .cell x t=>do loadVar t (<-asAddr (a.tmps.getD x undef))

theorem Xk1 {a:Act}{sl:Xf}{ob:Xb}(hs:SM w ρ sl a)(hO:OM w ρ ob):∀(xs:List ResultVar) (rs:List RV) (K:List V->Prop),Qn P xs rs=true->Wz sl ob rs K->
  ∃vs us,K vs/\V.reps w ρ vs us/\(xs.mapM (Xfh a)).run P w=.ok us w
 | [],[],K,_,h=>⟨[],[],h,by simp[V.reps],by simp⟩
 | x::r,y::s,K,hc,h=>by
  simp only[Qn,Uai]at hc;simp only[Wz]at h;have one:∃v u,Wz sl ob s (fun vs=>K (v::vs))/\v.rep w ρ u/\(Xfh a x).run P w=.ok u w:=by
   cases x with
   | tmp t=>
    cases y with
    | t k=>simp[RV.chk]at hc; obtain⟨rfl,_⟩:=hc; exact⟨_,_,h,hs t,by simp[Xfh]⟩
    | c k n ag=>simp[RV.chk]at hc
   | cell z t=>
    cases y with
    | t k=>simp[RV.chk]at hc
    | c k n ag=>
     simp only[RV.chk,Uai,Ubn]at hc;obtain⟨⟨⟨⟨rfl,h1⟩,h2⟩,h3⟩,_⟩:=hc;simp only[RV.wp]at h;obtain⟨v,y,hK,hr,hrun⟩:=Qe (P:=P) (a:=a) (n:=n) (ag:=ag) (x:=.t z) (op:=.load t (.tmp z)) hs hO (by simp[C.chk,h1,h2,h3,A.chk]) (by simpa[A.ev]using h);refine⟨y,v,hK,hr,?_⟩
     have:=hrun ⟨none,.load t (.tmp z),0, "", #[],none⟩ rfl w (fun _=>Ext.refl w)
     simp only[execOp,Act.eval,Sem.run_bind,Instr.loadAt]at this;simp only[Xfh,Sem.run_bind];generalize hv:a.tmps.getD z undef=pv at *;cases pv with
     | pointer ad=>
      cases ad with
      | none=>simp[Instr.sureAddr]at this
      | some ad=>
       simp only[Instr.sureAddr,Sem.run_pure,Result.andThen_ok]at this;simp only[asAddr,Sem.run_pure,Result.andThen_ok];revert this;generalize (loadVar t ad).run P w=res;intro this;cases res with
       | ok x w'=>simp at this; obtain⟨rfl,rfl⟩:=this; rfl
       | halt x w'=>simp at this
     | _=>simp[Instr.sureAddr]at this
  obtain⟨v,u,h1,h2,h3⟩:=one;obtain⟨vs,us,k,h4,h5⟩:=Xk1 hs hO r s _ hc.2 h1;refine⟨v::vs,u::us,k,?_,?_⟩
  ·simp only[V.reps]; exact⟨u,us,rfl,h2,h4⟩
  ·simp only[List.mapM_cons,Sem.run_bind,h3,Result.andThen_ok,h5,Sem.run_pure]
 | [],_::_,_,hc,_=>by simp[Qn]at hc
 | _::_,[],_,hc,_=>by simp[Qn]at hc

def Xsp:List Value->Value
 | [u]=>u
 | us=>.tuple us.toArray

theorem Z5 {fn:Func}{a:Act}{sl:Xf}{ob:Xb}{rs:List RV}{K:List V->Prop}(hs:SM w ρ sl a)(hO:OM w ρ ob)(hc:Qn P fn.results.toList rs=true)(h:Wz sl ob rs K) :
  ∃vs us,K vs/\V.reps w ρ vs us/\(results fn a.tmps).run P w=.ok (Xsp us) w:=by
 obtain⟨vs,us,k,h1,h2⟩:=Xk1 (P:=P) hs hO _ _ _ hc h;refine⟨vs,us,k,h1,?_⟩;have h3:(fn.results.mapM (Xfh a)).run P w=.ok us.toArray w:=by
  rw[Array.mapM_eq_mapM_toList];simp only[Sem.run_map,h2,Result.andThen_ok]
 have h4:results fn a.tmps=(fn.results.mapM (Xfh a) >>= fun vs=>pure (if h:vs.size=1 then vs[0] else .tuple vs)):=rfl;rw[h4,Sem.run_bind];simp only[h3,Result.andThen_ok,Sem.run_pure];congr 1;cases us with
 | nil=>simp[Xsp]
 | cons u r=>
  cases r with
  | nil=>simp[Xsp]
  | cons u' r'=>simp[Xsp]

theorem Vo {vs:List V}{us:List Value}(h:V.reps w ρ vs us):(Wf vs).rep w ρ (Xsp us):=by
 cases vs with
 | nil=>
  simp only[V.reps]at h; subst h;rw[show Wf []=.tup [] from rfl,Z4]; exact⟨[],rfl,by simp[V.reps]⟩
 | cons v r=>
  simp only[V.reps]at h;obtain⟨u,us',rfl,h1,h2⟩:=h;cases r with
  | nil=>simp only[V.reps]at h2; subst h2; exact h1
  | cons v' r'=>
   have h2':=h2;simp only[V.reps]at h2;obtain⟨u',us'',rfl,h3,h4⟩:=h2;show (V.tup _).rep w ρ _;rw[Z4];refine⟨_,rfl,?_⟩;simp only[V.reps];exact⟨u,_,rfl,h1,u',us'',rfl,h3,h4⟩

theorem U4:∀(vs:List V) (us:List Value) {ρ:Env} {ob ob':Xb} {l:List D},OM w ρ ob->V.reps w ρ vs us->V.givs ob vs=some (l,ob')->∃ρ',Tr w ρ w ρ'/\OM w ρ' ob'/\V.reps w ρ' (l.map .d) us
 | [],us,ρ,ob,ob',l,hO,h,e=>by
  simp only[V.givs,Uaq,Ub0]at e;obtain⟨rfl,rfl⟩:=e;exact⟨ρ,Tr.refl _ _,hO,by simpa only[Ubm,V.reps]using h⟩
 | x::r,us,ρ,ob,ob',l,hO,h,e=>by
  simp only[V.givs]at e;simp only[V.reps]at h;obtain⟨u,us',rfl,h1,h2⟩:=h;split at e
  ·rename_i dd ob1 hg;obtain⟨ρ1,t1,o1,hr⟩:=Xb3 hO (u:=u) h1 hg;cases hg2:V.givs ob1 r with
   | none=>simp[hg2,Xbn]at e
   | some q=>
    obtain⟨l2,ob2⟩:=q;simp only[hg2,Xbn,Uaq,Ub0]at e;obtain⟨rfl,rfl⟩:=e;obtain⟨ρ2,t2,o2,hr2⟩:=U4 r us' o1 (V.reps_tr t1 _ _ h2) hg2;exact⟨ρ2,t1.trans t2,o2,by simp only[Uam,V.reps]; exact⟨u,us',rfl,V.rep_tr t2 hr,hr2⟩⟩
  ·cases e
theorem Jl:∀(vs:List V) (us:List Value) {ρ:Env} {ob:Xb} {K:List V->Xb->Prop},OM w ρ ob->V.reps w ρ vs us->Xd9 vs ob K->∃vs' ob' ρ',K vs' ob'/\Tr w ρ w ρ'/\OM w ρ' ob'/\V.reps w ρ' vs' us
 | [],us,ρ,ob,K,hO,h,e=>by
  simp only[Xd9]at e;exact⟨[],ob,ρ,e,Tr.refl _ _,hO,h⟩
 | x::r,us,ρ,ob,K,hO,h,e=>by
  simp only[Xd9]at e;simp only[V.reps]at h;obtain⟨u,us',rfl,h1,h2⟩:=h;cases hg:V.giv ob x with
  | none=>
   simp only[hg,gvO]at e;obtain⟨vs',ob',ρ',k,t,o,hr⟩:=Jl r us' hO h2 e;exact⟨_,ob',ρ',k,t,o,by simp only[V.reps]; exact⟨u,us',rfl,V.rep_tr (u:=u) t h1,hr⟩⟩
  | some q=>
   obtain⟨dd,ob1⟩:=q;simp only[hg,gvO]at e;obtain⟨ρ1,t1,o1,hr⟩:=Xb3 hO (u:=u) h1 hg;obtain⟨vs',ob',ρ',k,t,o,hr2⟩:=Jl r us' o1 (V.reps_tr t1 _ _ h2) e;exact⟨_,ob',ρ',k,t1.trans t,o,by simp only[V.reps]; exact⟨u,us',rfl,V.rep_tr t hr,hr2⟩⟩

theorem Vt {vs:List V}{us:List Value}(h:V.reps w ρ vs us):∀(k:Nat) (t:Array Value),(∀i (hi:i<us.length),t.getD (k+i) undef=us[i])->∀j,(look (Vr k vs) j).rep w ρ (t.getD j undef):=by
 induction vs generalizing us with
 | nil=>intro k t _ j; exact Q4
 | cons v r ih=>
  simp only[V.reps]at h;obtain⟨u,us',rfl,h1,h2⟩:=h;intro k t ht j;simp only[Vr,look];split
  ·rename_i e; subst e;have:=ht 0 (by simp);simp only[Nat.add_zero,List.getElem_cons_zero]at this;rw[this]; exact h1
  ·refine ih h2 (k+1) t (fun i hi=>?_) j;have:=ht (i+1) (by simpa using hi);simp only[List.getElem_cons_succ]at this;rw[<-this]; congr 1; omega

theorem Uh {ρ1:Env}(mo:Xh9 w (own ρ) w (own ρ1)):∀(vs:List V) (us:List Value) (ds:List D),vs=ds.map .d->V.reps w ρ vs us->V.reps w ρ1 vs us
 | [],us,ds,_,h=>by simpa[V.reps]using h
 | v::r,us,[],e,h=>by simp at e
 | v::r,us,d::ds,e,h=>by
  simp only[Uam,Ua1]at e;obtain⟨rfl,e⟩:=e;simp only[V.reps]at h⊢;obtain⟨u,us',rfl,h1,h2⟩:=h;refine⟨u,us',rfl,?_,Uh mo r us' ds e h2⟩;rcases h1 with h1 | ⟨p,x,q,r⟩ | ⟨p,r⟩
  ·cases h1
  ·exact .inr (.inl ⟨p,x,q,by simp only[V.repC]at r⊢; exact D.rep_mono mo d x r⟩)
  ·exact .inr (.inr ⟨p,by simp only[V.repC]at r⊢; exact D.rep_mono mo d _ r⟩)

theorem Yp:∀{vs:List V} {us:List Value},V.reps w ρ vs us->us.length=vs.length
 | [],us,h=>by simp[V.reps]at h; simp[h]
 | v::r,us,h=>by
  simp only[V.reps]at h;obtain⟨u,us',rfl,_,h2⟩:=h;simp[Yp h2]

theorem V1 {P:Prg}(hm:P.p.follows .mixedOrders=true){f:Nat}{s:S}{rs:List RV}{ds:List D}{ob0:Xb}{K:V->Prop}(hc:Uc P.p f ds.length s rs=true)
  (h:cwp P s (Uv rs K) (Vr 0 (ds.map .d)) []):PCall P f (ds.map .d) ob0 K:=by
 unfold Uc at hc;split at hc
 ·rename_i fn hf;split at hc
  ·rename_i code hb;simp only[Uai,Ubp]at hc;obtain⟨⟨hn,h1⟩,h2⟩:=hc;refine⟨fun w ρ args hO hg hr=>callsIn_wide.1 (callsIn_of_wp_marks (n:=0) hf hb trivial ?_)⟩;let ρ0:Env:=⟨fun _=>none,own ρ,ρ.gl⟩
   let c:Ctx:=⟨w,fun _=>False,fn.ntmps,[],P.g,fun _=>none,[],true⟩
   have hnone:∀b,¬Xbr ρ0 b:=fun b ⟨_,_,h,_⟩=>by cases h
   have hlt:∀b,own ρ b->b<w.heap.size:=fun b h=>h.elim (fun ⟨_,_,h1,h2⟩=>Wl hO h1 h2) (hO.xlt b);have mo:Xh9 w (own ρ) w (own ρ0):=fun b h1 _=>⟨rfl,fun h2=>h2.elim (hnone b) h1⟩;have hr0:=Uh mo _ _ ds rfl hr;have hlen:args.length=ds.length:=by simpa using Yp hr
   have m:Mod c (own ρ) ρ0 (Vr 0 (ds.map .d)) [] { tmps:=args.toArray++Array.replicate (fn.ntmps-args.toArray.size) undef,defers:=[] } w:=by
    refine⟨⟨Uak _,fun _ _ _=>rfl,fun b h=>absurd h (hnone b),rfl,rfl,rfl,(fun id o h=>by cases h),(fun p hp=>by cases hp),Uak _⟩,⟨fun j x hx=>(by simp[Xc]at hx),fun j o hj=>(by cases hj),fun i j o p b hi=>(by cases hi),fun b hb=>hlt b hb,fun b o hb=>⟨(hO.glb b o hb).1,fun h=>h.elim (hnone b) (hO.glb b o hb).2⟩,fun b hb=>absurd hb (hnone b),trivial⟩,?_,?_,Dfr.nil,rfl,hg⟩
    ·refine Vt hr0 0 _ (fun i hi=>?_);simp[Ub8,hi]
    ·simp[c]; omega
   refine wpIn_mono (Yf (rd:=none) hm rfl code s _ _ _ ρ0 _ w h1 (.inr ⟨rfl,rfl⟩) h m) ?_;rintro e a' w' ⟨ae,sl',ob',ρ',hq,he,m'⟩;have hfin:Wz sl' ob' rs (fun vs=>W1 (fun l _=>K (Wf (l.map .d))) (V.givs ob' vs))->LeavesInM Fence.wide 0 P.p fn a'.tmps (fun e w'=>∃v u,K v/\e=.returned u/\v.rep w' ρ u/\Ext w w') a'.defers .returning w':=by
    intro hq;obtain⟨ms,q1,_,q3,q4⟩:=m'.df;have q1:a'.defers=ms.map mkD:=by rw[q1]; simp[c]
    rw[q1];refine W7 ms w' q3 (fun r hr=>(q4 r hr).2.1) (fun w2 sm hs=>?_);have hgl:∀b o,ρ'.gl b=some o->w2.heap[b]? = w'.heap[b]?:=fun b o hb=>hs b (fun hm=>by
     have h3:=(hO.glb b o (by rw[hg,<-show ρ'.gl=P.g from m'.gl]; exact hb)).1;have:=(q4 b hm).1;have:=Xi h3;show False;simp only[c]at *;omega)
    have om2:=OM.same sm m'.om hgl;obtain⟨vs,us,hk,hrep,hrun⟩:=Z5 (P:=P.p) (fn:=fn) (SM.same sm m'.sm) om2 h2 hq;cases hgv:V.givs ob' vs with
    | none=>simp[hgv,W1]at hk
    | some q=>
     obtain⟨l,ob2⟩:=q;simp only[hgv,W1]at hk;obtain⟨ρ2,t2,o2,hr2⟩:=U4 vs us om2 hrep hgv;have mo2:Xh9 w2 (own ρ2) w2 (own ρ):=fun b h1 _=>⟨rfl,fun h2=>h1 (.inr (by rw[t2.xo,m'.xo]; exact h2))⟩;have hrep':=Uh mo2 _ _ l rfl hr2;have hext:Ext w w2:=⟨by rw[sm.size]; exact m'.base.size,fun b hb=>(hs b (fun hm=>by have:=(q4 b hm).1; simp only[c]at this; omega)).trans (m'.base.keep b hb (fun h=>h)),sm.tape.trans m'.base.tape,sm.os.trans m'.base.os,sm.out.trans m'.base.out,by rw[sm.drawn]; exact m'.base.drawn⟩
     exact⟨Xsp us,hrun,Wf (l.map .d),Xsp us,hk,rfl,Vo hrep',hext⟩
   cases ae with
   | normal=>
    cases e<;>simp only[exM]at he;exact hfin hq
   | ret=>
    cases e<;>simp only[exM]at he;exact hfin hq
   | exit n=>exact hq.elim
   | panic v=>exact hq.elim
  ·simp at hc
 ·simp at hc

theorem Xfe {P:Prg}(hm:P.p.follows .mixedOrders=true){f:Nat}{s:S}{rs:List RV}{ds:List D}{ob0:Xb}{K:V->Prop}(hc:Xj P.p f ds.length s rs=true)
  (h:cwp P s (Uv rs K) (Vr 0 (ds.map .d)) []):PCall P f (ds.map .d) ob0 K:=by
 simp only[Xj,Uai]at hc;exact V1 hm hc.1 h

theorem J6 {ids:Nat->Bool}{vs:List V}{us:List Value}(hm:V.mens ids vs=false)(h:V.reps w ρ vs us):V.reps w (ρ.del ids) vs us:=V.reps_del vs us hm h

def Ob.noMen (ids:Nat->Bool):Ob->Prop
 | .box _ t=>V.men ids t=false
 | .vec _ _ xs=>V.mens ids xs=false
 | .map es=>Q1 ids es=false
 | .lp _ _ sl=>Wc ids sl=true
 | .it m _ _=>Ju ids m=false
 | _=>True
theorem Zt {ids:Nat->Bool}:∀(ob:Xb),(∀e∈ob,e.2.noMen ids)->Xg ids ob=true
 | [],_=>rfl
 | (j,.box E t)::r,h=>by
  simp only[Xg,Uai,Ubq];exact⟨h (j,.box E t) (by simp),Zt r fun e he=>h e (by simp[he])⟩
 | (j,.vec E z t)::r,h=>by
  simp only[Xg,Uai,Ubq];exact⟨h (j,.vec E z t) (by simp),Zt r fun e he=>h e (by simp[he])⟩
 | (j,.map t)::r,h=>by
  simp only[Xg,Uai,Ubq];exact⟨h (j,.map t) (by simp),Zt r fun e he=>h e (by simp[he])⟩
 | (j,.arr _ _ _)::r,h=>by simp only[Xg]; exact Zt r fun e he=>h e (by simp[he])
 | (j,.gone)::r,h=>by simp only[Xg]; exact Zt r fun e he=>h e (by simp[he])
 | (j,.lp tg st t)::r,h=>by
  simp only[Xg,Uai];exact⟨h (j,.lp tg st t) (by simp),Zt r fun e he=>h e (by simp[he])⟩
 | (j,.it m n t)::r,h=>by
  simp only[Xg,Uai,Ubq];exact⟨h (j,.it m n t) (by simp),Zt r fun e he=>h e (by simp[he])⟩
theorem Xkb {ids:Nat->Bool}(hd:∀id o,ρ.m id=some o->ids id=false):∀(l:List (D×V)) (es:List MapEntry),X9 w ρ l es->Q1 ids l=false
 | [],_,_=>rfl
 | (k,v)::r,es,h=>by
  obtain⟨e,es',_,_,h3,h4⟩:=h;simp only[Q1,V.men_temp hd h3,Xkb hd r es' h4,Bool.or_self]
theorem Xdg {ids:Nat->Bool}:∀(sl:Xf),(∀p∈sl,V.men ids p.2=false)->Wc ids sl=true
 | [],_=>rfl
 | (j,v)::r,h=>by
  simp only[Wc,Uai,Ubq];exact⟨h (j,v) (by simp),Xdg r fun p hp=>h p (by simp[hp])⟩
theorem V6.noMen {ids:Nat->Bool}(hd:∀id o,ρ.m id=some o->ids id=false){j:Nat}{x:Ob}(h:V6 w ρ j x):x.noMen ids:=by
 cases x with
 | box E t=>obtain⟨b,cs,_,_,h3⟩:=h; exact V.men_dom hd _ _ h3
 | vec E sz xs=>
  rcases h with⟨_,rfl⟩ | ⟨b,cap,cs,sp,_,_,h3,_⟩
  ·rfl
  ·exact V.menCs_dom hd _ _ h3
 | map es=>obtain⟨b,l,clk,_,_,h3,_⟩:=h; exact Xkb hd _ _ h3
 | arr E sz xs=>trivial
 | gone=>trivial
 | lp tag st sl=>
  obtain⟨b,fn,tm,dd,ps,ca,cb,_,_,_,h3⟩:=h;exact Xdg sl fun p hp=>V.men_temp hd (h3 p hp)
 | it m n seen=>
  cases m with
  | none=>rfl
  | some i=>
   obtain⟨b,mb,_,h3,_⟩:=h;rcases h3 with h3 | h3<;>exact hd _ _ h3
theorem Xej {P:Prg}(hm:P.p.follows .mixedOrders=true){f:Nat}{s:S}{rs:List RV}{vs:List V}{ob:Xb}{K:Out->Xb->Prop}(hc:Xj P.p f vs.length s rs=true)
  (h:cwp P s (Va (Xa ob) rs K) (Vr 0 vs) ob):ACall P f vs ob K:=by
 simp only[Xj,Uai]at hc;obtain⟨hc,hnr⟩:=hc;unfold Uc at hc;split at hc
 ·rename_i fn hf;split at hc
  ·rename_i code hb;simp only[Uai,Ubp]at hc;obtain⟨⟨hn,h1⟩,h2⟩:=hc;refine⟨fun w ρ args hO hg hr=>calls_of_wp hf hb ?_⟩;let c:Ctx:=⟨w,Xbr ρ,fn.ntmps,[],P.g,ρ.m,[],false⟩
   have hlen:args.length=vs.length:=by simpa using Yp hr
   have m:Mod c ρ.xo ρ (Vr 0 vs) ob { tmps:=args.toArray++Array.replicate (fn.ntmps-args.toArray.size) undef,defers:=[] } w:=by
    refine⟨⟨Uak _,fun _ _ _=>rfl,fun b h=>.inr h,rfl,rfl,rfl,fun id o h=>⟨o,h,.refl o⟩,(fun p hp=>by cases hp),Uak _⟩,hO,?_,?_,Dfr.nil,rfl,hg⟩
    ·refine Vt hr 0 _ (fun i hi=>?_);simp[Ub8,hi]
    ·simp[c]; omega
   refine wp_mono (wpIn_wide.1 (Yf (rd:=none) hm rfl code s _ _ _ ρ _ w h1 (.inl hnr) h m)) ?_;rintro e a' w' ⟨ae,sl',ob',ρ',hq,he,m'⟩;have old:∀kp id o,ρ.m id=some o->Xe (Xa ob) kp id=false:=fun kp id o h0=>by
    obtain⟨x,hx⟩:=hO.dom id o h0;have hlt:¬Xa ob<=id:=fun hle=>by rw[X1 _ _ hle]at hx; cases hx
    simp[Xe,hlt]
   have tr:∀{ρ2:Env},Tr w' ρ' w' ρ2->∀kp,Tr w ρ w' (ρ2.del (Xe (Xa ob) kp)):=fun {ρ2} t kp=>by
    have b2:=m'.base.tr t;refine⟨b2.size,fun b h1 h2=>b2.keep b h2 h1,fun b h1=>(b2.owns b (Z9 h1)).symm,?_,?_,fun id o h1=>?_,b2.tape,b2.os,b2.out,b2.drawn⟩
    ·show ρ2.xo=ρ.xo; rw[t.xo,m'.xo]
    ·show ρ2.gl=ρ.gl; rw[t.gl,m'.gl,hg]
    ·obtain⟨o',h3,h4⟩:=b2.same id o h1;exact⟨o',by simp only[Env.del,old kp id o h1]; exact h3,h4⟩
   have hfin:Wz sl' ob' rs (fun vs=>Xd9 vs ob' fun vs ob'=>X6 (Xa ob) (K (.ret (Wf vs))) vs ob')->a'.defers=[]/\∃v,(results fn a'.tmps).run P.p w'=.ok v w'/\∃out ob2 ρ2,K out ob2/\Xa4 w' ρ2 (.returned v) out/\OM w' ρ2 ob2/\Tr w ρ w' ρ2:=by
    intro hq;obtain⟨vs,us,hk,hrep,hrun⟩:=Z5 (P:=P.p) (fn:=fn) m'.sm m'.om h2 hq;obtain⟨vs',ob2,ρ2,⟨kp,k1,k2,k3⟩,t2,o2,hr2⟩:=Jl vs us m'.om hrep hk;exact⟨m'.df.eq rfl,Xsp us,hrun,.ret (Wf vs'),_,_,k3,Vo (J6 k1 hr2),o2.del k2,tr t2 kp⟩
   cases ae with
   | normal=>
    cases e<;>simp only[exM]at he;exact hfin hq
   | ret=>
    cases e<;>simp only[exM]at he;exact hfin hq
   | exit n=>exact hq.elim
   | panic v=>
    cases e<;>simp only[exM]at he;obtain⟨u,rfl,hu⟩:=he;obtain⟨kp,k1,k2,k3⟩:=hq;simp only[V.mens,Bool.or_false]at k1;exact⟨m'.df.eq rfl,.panic v,_,_,k3,⟨u,rfl,V.rep_del k1 hu⟩,m'.om.del k2,tr (Tr.refl _ _) kp⟩
  ·simp at hc
 ·simp at hc

def Xu4 (n:Nat)(rs:List RV)(K:Out->Xb->Prop):Y3
 | .panic _,_,_=>False
 | e,sl,ob=>Va n rs K e sl ob
theorem Xci {P:Prg}(hm:P.p.follows .mixedOrders=true){f:Nat}{s:S}{rs:List RV}{vs:List V}{ob:Xb}{K:Out->Xb->Prop}(hc:Uc P.p f vs.length s rs=true)
  (h:cwp P s (Xu4 (Xa ob) rs K) (Vr 0 vs) ob):ACall P f vs ob K:=by
 unfold Uc at hc;split at hc
 ·rename_i fn hf;split at hc
  ·rename_i code hb;simp only[Uai,Ubp]at hc;obtain⟨⟨hn,h1⟩,h2⟩:=hc;refine⟨fun w ρ args hO hg hr=>callsIn_wide.1 (callsIn_of_wp_marks (n:=0) hf hb trivial ?_)⟩;let c:Ctx:=⟨w,Xbr ρ,fn.ntmps,[],P.g,ρ.m,[],true⟩
   have hlen:args.length=vs.length:=by simpa using Yp hr
   have m:Mod c ρ.xo ρ (Vr 0 vs) ob { tmps:=args.toArray++Array.replicate (fn.ntmps-args.toArray.size) undef,defers:=[] } w:=by
    refine⟨⟨Uak _,fun _ _ _=>rfl,fun b h=>.inr h,rfl,rfl,rfl,fun id o h=>⟨o,h,.refl o⟩,(fun p hp=>by cases hp),Uak _⟩,hO,?_,?_,Dfr.nil,rfl,hg⟩
    ·refine Vt hr 0 _ (fun i hi=>?_);simp[Ub8,hi]
    ·simp[c]; omega
   refine wpIn_mono (Yf (rd:=none) hm rfl code s _ _ _ ρ _ w h1 (.inr ⟨rfl,rfl⟩) h m) ?_;rintro e a' w' ⟨ae,sl',ob',ρ',hq,he,m'⟩;have old:∀kp id o,ρ.m id=some o->Xe (Xa ob) kp id=false:=fun kp id o h0=>by
    obtain⟨x,hx⟩:=hO.dom id o h0;have hlt:¬Xa ob<=id:=fun hle=>by rw[X1 _ _ hle]at hx; cases hx
    simp[Xe,hlt]
   have hfin:Wz sl' ob' rs (fun vs=>Xd9 vs ob' fun vs ob'=>X6 (Xa ob) (K (.ret (Wf vs))) vs ob')->LeavesInM Fence.wide 0 P.p fn a'.tmps (fun e w'=>∃out ob' ρ',K out ob'/\Xa4 w' ρ' e out/\OM w' ρ' ob'/\Tr w ρ w' ρ') a'.defers .returning w':=by
    intro hq;obtain⟨ms,q1,_,q3,q4⟩:=m'.df;have q1:a'.defers=ms.map mkD:=by rw[q1]; simp[c]
    rw[q1];refine W7 ms w' q3 (fun r hr=>(q4 r hr).2.1) (fun w2 sm hs=>?_);have hgl:∀b o,ρ'.gl b=some o->w2.heap[b]? = w'.heap[b]?:=fun b o hb=>hs b (fun hm=>by
     have h3:=(hO.glb b o (by rw[hg,<-show ρ'.gl=P.g from m'.gl]; exact hb)).1;have:=(q4 b hm).1;have:=Xi h3;show False;simp only[c]at *;omega)
    have om2:=OM.same sm m'.om hgl;have tr:∀{ρ2:Env},Tr w2 ρ' w2 ρ2->∀kp,Tr w ρ w2 (ρ2.del (Xe (Xa ob) kp)):=fun {ρ2} t kp=>by
     refine⟨by rw[sm.size]; exact m'.base.size,fun b h1 h2=>(hs b (fun hm=>by have:=(q4 b hm).1; simp only[c]at this; omega)).trans (m'.base.keep b h2 h1),fun b h1=>?_,?_,?_,fun id o h1=>?_,sm.tape.trans m'.base.tape,sm.os.trans m'.base.os,sm.out.trans m'.base.out,by rw[sm.drawn]; exact m'.base.drawn⟩
     ·rcases t.owns b (Z9 h1) with h3 | h3
      ·exact (m'.base.owns b h3).symm
      ·exact .inr (Ual (by rw[sm.size]; exact m'.base.size) h3)
     ·show ρ2.xo=ρ.xo; rw[t.xo,m'.xo]
     ·show ρ2.gl=ρ.gl; rw[t.gl,m'.gl,hg]
     ·obtain⟨o1,h3,h4⟩:=m'.base.same id o h1;obtain⟨o2,h5,h6⟩:=t.same id o1 h3;exact⟨o2,by simp only[Env.del,old kp id o h1]; exact h5,h4.trans h6⟩
    obtain⟨vs,us,hk,hrep,hrun⟩:=Z5 (P:=P.p) (fn:=fn) (SM.same sm m'.sm) om2 h2 hq;obtain⟨vs',ob2,ρ2,⟨kp,k1,k2,k3⟩,t2,o2,hr2⟩:=Jl vs us om2 hrep hk;exact⟨Xsp us,hrun,.ret (Wf vs'),_,_,k3,Vo (J6 k1 hr2),o2.del k2,tr t2 kp⟩
   cases ae with
   | normal=>
    cases e<;>simp only[exM]at he;exact hfin hq
   | ret=>
    cases e<;>simp only[exM]at he;exact hfin hq
   | exit n=>exact hq.elim
   | panic v=>exact hq.elim
  ·simp at hc
 ·simp at hc

theorem ACall.of_wf {P:Prg}{f:Nat}{vs:List V}{ob:Xb}{K:Out->Xb->Prop}(h:(∀kp,V.mens (Xe (Xa ob) kp) vs=false)->(∀kp,Xg (Xe (Xa ob) kp) ob=true)->ACall P f vs ob K):ACall P f vs ob K:=by
 refine⟨fun w ρ args hO hg hr=>?_⟩;have old:∀kp id o,ρ.m id=some o->Xe (Xa ob) kp id=false:=fun kp id o h0=>by
  obtain⟨x,hx⟩:=hO.dom id o h0;have hlt:¬Xa ob<=id:=fun hle=>by rw[X1 _ _ hle]at hx; cases hx
  simp[Xe,hlt]
 exact (h (fun kp=>V.mens_dom (old kp) _ _ hr) (fun kp=>Zt ob fun e he=>(hO.one e.1 _ (hO.once.look e he)).noMen (old kp))).run w ρ args hO hg hr

theorem X5i {P:Prg}{p:Program}(hP:P.p=p)(hm:p.follows .mixedOrders=true){f:Nat}{s:S}{rs:List RV}{ds:List D}{ob0:Xb}{K:V->Prop}(hc:Xj p f ds.length s rs=true)
  (h:cwp P s (Uv rs K) (Vr 0 (ds.map .d)) []):PCall P f (ds.map .d) ob0 K:=by
 subst hP;exact Xfe hm hc h
end
end Go.Ab
namespace Go.Ab
open Go
section
variable (P:Prg) (K:V->Prop) (KO:V->Xb->Prop) (Pn:V->Xb->Prop) (Q:Y3) (next:Xf->Xb->Prop) (sl:Xf) (ob:Xb) (r:Xf) (ro:Xb) (v v':V) (x y z:A) (k j n:Nat) (b c:Bool) (m m':Int) (kd kd':IntKind) (s s':List UInt8) (xs:List D) (vs:List V) (d:D)
@[simp] theorem Xmm:look ((k,v)::r) k=v:=by simp[look]
@[simp] theorem Xxv (h:(j==k)=false):look ((j,v)::r) k=look r k:=by simp at h; simp[look,h]
@[simp] theorem lookO_eq (o:Ob):Xc ((k,o)::ro) k=some o:=by simp[Xc]
@[simp] theorem lookO_ne (o:Ob)(h:(j==k)=false):Xc ((j,o)::ro) k=Xc ro k:=by simp at h; simp[Xc,h]
@[simp] theorem setO_eq (o o':Ob):setO ((k,o)::ro) k o'=(k,o')::ro:=by simp[setO]
@[simp] theorem setO_ne (o o':Ob)(h:(j==k)=false):setO ((j,o)::ro) k o'=(j,o)::setO ro k o':=by simp at h; simp[setO,h]
@[simp] theorem put_some:put sl (some k) v=(k,v)::sl:=by simp only[put]
@[simp] theorem put_none:put sl none v=sl:=by simp only[put]
@[simp] theorem Ysj:A.ev sl (.t k)=look sl k:=by simp only[A.ev]
@[simp] theorem ev_int:A.ev sl (.int kd m)=.d (.int kd m):=by simp only[A.ev]
@[simp] theorem ev_bool:A.ev sl (.bool b)=.d (.bool b):=by simp only[A.ev]
@[simp] theorem ev_str:A.ev sl (.str s)=.d (.str s):=by simp only[A.ev]
@[simp] theorem ev_nils:A.ev sl .nils=.d .nils:=by simp only[A.ev]
@[simp] theorem ev_fn:A.ev sl (.fn k)=.fn k [] []:=by simp only[A.ev]
-- calm operations
@[simp] theorem wp_mv:C.wp sl ob K (.mv x)=K (x.ev sl):=by simp only[C.wp]
@[simp] theorem wp_pick:C.wp sl ob K (.pick x y z)=Qj K (x.ev sl) (y.ev sl) (z.ev sl):=by simp only[C.wp]
@[simp] theorem Yfi:Qj K (.d (.bool true)) v v'=K v:=by unfold Qj; split<;>simp_all
@[simp] theorem Yfh:Qj K (.d (.bool false)) v v'=K v':=by unfold Qj; split<;>simp_all
@[simp] theorem pickK_b (b1 b2:Bool):Qj K (.d (.bool b)) (.d (.bool b1)) (.d (.bool b2))=K (.d (.bool (if b then b1 else b2))):=by simp only[Qj]
@[simp] theorem wp_not:C.wp sl ob K (.not x)=Xzb K (x.ev sl):=by simp only[C.wp]
@[simp] theorem notK_b:Xzb K (.d (.bool b))=K (.d (.bool (!b))):=by simp only[Xzb]
@[simp] theorem wp_mx:C.wp sl ob K (.mx x y)=mxK K (x.ev sl) (y.ev sl):=by simp only[C.wp]
@[simp] theorem wp_bin (op:BinOp):C.wp sl ob K (.bin op x y)=Xo3 op K (x.ev sl) (y.ev sl):=by simp only[C.wp]
@[simp] theorem binK_i (op:BinOp):Xo3 op K (.d (.int kd m)) (.d (.int kd' m'))=X04 op kd kd' m m' K:=by simp only[Xo3]
@[simp] theorem binK_s (op:BinOp):Xo3 op K (.d (.str s)) (.d (.str s'))=Xtk op s s' K:=by simp only[Xo3]
@[simp] theorem strK_eql:Xtk .eql s s' K=K (.d (.bool (s==s'))):=by simp[Xtk]
@[simp] theorem strK_neq:Xtk .neq s s' K=K (.d (.bool (s != s'))):=by simp[Xtk]
@[simp] theorem wp_isnil:C.wp sl ob K (.isnil b x)=Vm b K (x.ev sl):=by simp only[C.wp]
@[simp] theorem isnilK_n:Vm b K (.d .nili)=K (.d (.bool b)):=by simp only[Vm]
@[simp] theorem isnilK_di:Vm b K (.d (.iface k d))=K (.d (.bool (!b))):=by simp only[Vm]
@[simp] theorem mkiV_d:X5b k (.d d)=.d (.iface k d):=by simp only[X5b]
@[simp] theorem mkfV_eq (l1 l2:List V):X64 k l1 l2=Ycm k l1 l2 (V.allD l1) (V.allD l2):=by simp only[X64]
@[simp] theorem mkfO_n1 (l1 l2:List V)(o:Option (List D)):Ycm k l1 l2 none o=.fn k l1 l2:=by cases o<;>simp only[Ycm]
@[simp] theorem mkfO_n2 (l1 l2:List V)(o:Option (List D)):Ycm k l1 l2 o none=.fn k l1 l2:=by cases o<;>simp only[Ycm]
@[simp] theorem wp_cvi:C.wp sl ob K (.cvi kd x)=Xvh kd K (x.ev sl):=by simp only[C.wp]
@[simp] theorem cviK_i:Xvh kd K (.d (.int kd' m))=K (.d (.int kd (kd.wrap m))):=by simp only[Xvh]
@[simp] theorem wp_idx:C.wp sl ob K (.idx x y)=X03 K (x.ev sl) (y.ev sl):=by simp only[C.wp]
@[simp] theorem idxK_s:X03 K (.d (.str s)) (.d (.int kd m))=((0<=m/\m<s.length)/\K (.d (.int .u8 (s.getD m.toNat 0).toNat))):=by simp only[X03]
@[simp] theorem wp_idxA:C.wp sl ob K (.idxA n x y)=Xbo ob n K (x.ev sl) (y.ev sl):=by simp only[C.wp]
@[simp] theorem idxAK_l:Xbo ob n K (.d (.list n xs)) (.d (.int kd m))=((0<=m/\m<xs.length)/\K (.d (.ref (xs.getD m.toNat default)))):=by simp[Xbo]
@[simp] theorem wp_idxP:C.wp sl ob K (.idxP k n x y)=Xbp ob k n K (x.ev sl) (y.ev sl):=by simp only[C.wp]
@[simp] theorem idxPK_p (p:List Nat):Xbp ob k n K (.ptr j p) (.d (.int kd m))=((0<=m/\m<k)/\(∃ks,Zu (atO ob j p)=some ks/\ks.length=k/\∀k∈ks,k.size=n)/\K (.ptr j (p++[m.toNat]))):=by simp only[Xbp]
@[simp] theorem idxPK_c:Xbp ob k n K (.d (.ref (.agg xs))) (.d (.int kd m))=((0<=m/\m<k)/\xs.length=k/\(∀x∈xs,x.sz=n)/\K (.d (.ref (xs.getD m.toNat default)))):=by simp only[Xbp]
@[simp] theorem wp_fldA:C.wp sl ob K (.fldA k n x)=Ub ob k n K (x.ev sl):=by simp only[C.wp]
@[simp] theorem fldAK_p (p:List Nat):Ub ob k n K (.ptr j p)=Um j p k n K (Zu (atO ob j p)):=by simp only[Ub]
@[simp] theorem fldAKo_s (p:List Nat):Um j p k n K (some vs)=(k<vs.length/\Sh.sizes ((vs.take k).map V.shape)=n/\K (.ptr j (p++[k]))):=by simp only[Um]
@[simp] theorem fldAK_c:Ub ob k n K (.d (.ref (.agg xs)))=(k<xs.length/\D.szs (xs.take k)=n/\K (.d (.ref (xs.getD k default)))):=by simp only[Ub]
@[simp] theorem wp_ldd:C.wp sl ob K (.ldd n b x)=Xti n b K (x.ev sl):=by simp only[C.wp]
@[simp] theorem lddK_c {d:D}:Xti n b K (.d (.ref d))=(d.sz=n/\(V.d d).isAgg=b/\K (.d d)):=by simp only[Xti]
@[simp] theorem wp_ld:C.wp sl ob K (.ld n b x)=ldK ob n b K (x.ev sl):=by simp only[C.wp]
@[simp] theorem ldK_p (p:List Nat):ldK ob n b K (.ptr j p)=Xj3 n b K (atO ob j p):=by simp only[ldK]
@[simp] theorem ldKo_s:Xj3 n b K (some v)=(v.size=n/\v.isAgg=b/\K v):=by simp only[Xj3]
@[simp] theorem ldK_c:ldK ob n b K (.d (.ref d))=(d.sz=n/\(V.d d).isAgg=b/\K (.d d)):=by simp only[ldK]
@[simp] theorem wp_nilc:C.wp sl ob K (.nilc x)=Xbq K (x.ev sl):=by simp only[C.wp]
@[simp] theorem nilcK_p (p:List Nat):Xbq K (.ptr j p)=K (.ptr j p):=by simp only[Xbq]
@[simp] theorem nilcK_c:Xbq K (.d (.ref d))=K (.d (.ref d)):=by simp only[Xbq]
@[simp] theorem wp_lenS:C.wp sl ob K (.lenS x)=Xc9 K (x.ev sl):=by simp only[C.wp]
@[simp] theorem lenSK_s:Xc9 K (.d (.str s))=K (.d (.int .i64 s.length)):=by simp only[Xc9]
@[simp] theorem wp_lenL:C.wp sl ob K (.lenL x)=Jp ob K (x.ev sl):=by simp only[C.wp]
@[simp] theorem lenLK_l:Jp ob K (.d (.list n xs))=K (.d (.int .i64 xs.length)):=by simp only[Jp]
@[simp] theorem lenLK_n:Jp ob K (.d .nils)=K (.d (.int .i64 0)):=by simp only[Jp]
@[simp] theorem lenLK_o:Jp ob K (.sl j n)=(((∃E z xs,Xc ob j=some (.arr E z xs)/\n=xs.length)\/∃E z xs,Xc ob j=some (.vec E z xs)/\n=xs.length)/\K (.d (.int .i64 n))):=by simp only[Jp]
@[simp] theorem wp_slcS (lo hi:Option A):C.wp sl ob K (.slcS x lo hi)=Xeg (lo.map (A.ev sl)) (hi.map (A.ev sl)) K (x.ev sl):=by simp only[C.wp]
@[simp] theorem slcSK_s (lo hi:Option V):Xeg lo hi K (.d (.str s))=Xab s.length (fun l h=>K (.d (.str ((s.take h).drop l)))) lo hi:=by simp only[Xeg]
@[simp] theorem bndK_sn (KK:Nat->Nat->Prop):Xab n KK (some (.d (.int kd m))) none=((0<=m/\m<=n)/\KK m.toNat n):=by simp only[Xab]
@[simp] theorem bndK_ns (KK:Nat->Nat->Prop):Xab n KK none (some (.d (.int kd m)))=((0<=m/\m<=n)/\KK 0 m.toNat):=by simp only[Xab]
@[simp] theorem bndK_ss (KK:Nat->Nat->Prop):Xab n KK (some (.d (.int kd m))) (some (.d (.int kd' m')))=((0<=m'/\m'<=n)/\(0<=m/\m<=m')/\KK m.toNat m'.toNat):=by simp only[Xab]
@[simp] theorem wp_ext:C.wp sl ob K (.ext x n)=X02 n K (x.ev sl):=by simp only[C.wp]
@[simp] theorem extK_t:X02 n K (.tup vs)=(n<vs.length/\K (vs.getD n .any)):=by simp only[X02]
@[simp] theorem wp_bld (ps:List (Nat×A)):C.wp sl ob K (.bld xs ps)=Jc (xs.map .d) (ps.map fun p=>(p.1,p.2.ev sl)) fun ks=>K (V.mk ks):=by simp only[C.wp]
@[simp] theorem bldK_n (KL:List V->Prop):Jc vs [] KL=KL vs:=by simp only[Jc]
@[simp] theorem bldK_c (KL:List V->Prop)(l:List (Nat×V)):Jc vs ((k,v)::l) KL=(k<vs.length/\v.shape=(vs.getD k .any).shape/\v ≠ .any/\Jc (vs.set k v) l KL):=by simp only[Jc]
@[simp] theorem wp_mkf (l l':List A):C.wp sl ob K (.mkf k l l')=K (X64 k (l.map (A.ev sl)) (l'.map (A.ev sl))):=by simp only[C.wp]
@[simp] theorem wp_mki:C.wp sl ob K (.mki k x)=K (X5b k (x.ev sl)):=by simp only[C.wp]
@[simp] theorem wp_tas:C.wp sl ob K (.tas k d x)=X50 k d K (x.ev sl):=by simp only[C.wp]
-- trees
@[simp] theorem kids_agg:V.kids (.agg vs)=some vs:=by simp only[V.kids]
@[simp] theorem kids_d:V.kids (.d (.agg xs))=some (xs.map .d):=by simp only[V.kids]
@[simp] theorem kidsO_s:Zu (some v)=v.kids:=by simp only[Zu]
def atB (p:List Nat):Option Ob->Option V
 | some (.box _ t)=>t.at p
 | _=>none
@[simp] theorem atO_b (p:List Nat):atO ob k p=atB p (Xc ob k):=by
 unfold atO atB;cases Xc ob k with
 | none=>rfl
 | some o=>cases o<;>rfl
@[simp] theorem atB_s (p:List Nat)(E:Nat):atB p (some (.box E v))=v.at p:=by simp only[atB]
@[simp] theorem at_nil:V.at v []=some v:=by simp[V.at]
def Xio (i:Nat)(p:List Nat):Option (List V)->Option V
 | some ks=>atKid' p ks[i]?
 | none=>none
where atKid' (p:List Nat):Option V->Option V
 | some k=>V.at k p
 | none=>none
@[simp] theorem at_cons (p:List Nat):V.at v (k::p)=Xio k p v.kids:=by
 simp only[V.at,Xio];cases v.kids with
 | none=>rfl
 | some ks=>simp only[Xio.atKid']; cases ks[k]?<;>rfl
@[simp] theorem atKid_s (p:List Nat):Xio k p (some vs)=Xio.atKid' p vs[k]?:=by simp only[Xio]
@[simp] theorem atKid'_s (p:List Nat):Xio.atKid' p (some v)=V.at v p:=by simp only[Xio.atKid']
@[simp] theorem set_nil:V.set v [] v'=some v':=by simp[V.set]
def V9 (i:Nat)(p:List Nat)(x:V):Option (List V)->Option V
 | some ks=>setKid1 i p x ks ks[i]?
 | none=>none
where
 setKid1 (i:Nat) (p:List Nat) (x:V) (ks:List V):Option V->Option V
 | some k=>setKid2 i ks (V.set k p x)
 | none=>none
 setKid2 (i:Nat) (ks:List V):Option V->Option V
 | some k'=>some (V.mk (ks.set i k'))
 | none=>none
@[simp] theorem set_cons (p:List Nat):V.set v (k::p) v'=V9 k p v' v.kids:=by
 simp only[V.set,V9];cases v.kids with
 | none=>rfl
 | some ks=>
  simp only[V9.setKid1];cases ks[k]? with
  | none=>rfl
  | some y=>simp only[V9.setKid2]; cases V.set y p v'<;>rfl
@[simp] theorem setKid_s (p:List Nat):V9 k p v (some vs)=V9.setKid1 k p v vs vs[k]?:=by simp only[V9]
@[simp] theorem setKid1_s (p:List Nat):V9.setKid1 k p v vs (some v')=V9.setKid2 k vs (V.set v' p v):=by simp only[V9.setKid1]
@[simp] theorem setKid2_s:V9.setKid2 k vs (some v)=some (V.mk (vs.set k v)):=by simp only[V9.setKid2]
@[simp] theorem allD_nil:V.allD []=some []:=by simp[V.allD]
def Xvf (x:D):Option (List D)->Option (List D)
 | some l=>some (x::l)
 | none=>none
@[simp] theorem allD_cons:V.allD (.d d::vs)=Xvf d (V.allD vs):=by simp only[V.allD]; cases V.allD vs<;>rfl
@[simp] theorem consD_s:Xvf d (some xs)=some (d::xs):=by simp only[Xvf]
@[simp] theorem consD_n:Xvf d none=none:=by simp only[Xvf]
@[simp] theorem allD_map:V.allD (xs.map .d)=some xs:=by induction xs with | nil=>rfl | cons x r ih=>simp[ih]
@[simp] theorem allD_fn (a1 a2:List V):V.allD (.fn k a1 a2::vs)=none:=by simp only[V.allD]
@[simp] theorem allD_sl:V.allD (.sl k n::vs)=none:=by simp only[V.allD]
@[simp] theorem allD_ptr (p:List Nat):V.allD (.ptr k p::vs)=none:=by simp only[V.allD]
def mkO (vs:List V):Option (List D)->V
 | some l=>.d (.agg l)
 | none=>.agg vs
@[simp] theorem mk_eq:V.mk vs=mkO vs (V.allD vs):=by unfold V.mk mkO; cases V.allD vs<;>rfl
@[simp] theorem mkO_s:mkO vs (some xs)=.d (.agg xs):=by simp only[mkO]
@[simp] theorem mkO_n:mkO vs none=.agg vs:=by simp only[mkO]
-- sizes,shapes
attribute [simp] D.sz D.szs Sh.size Sh.sizes D.shape D.shapes V.shape V.shapes V.isAgg V.sto V.stos V.size V.men V.mens
-- operations on memory
@[simp] theorem za (e:C):I.wp P sl ob KO Pn (.c e)=e.wp sl ob (fun v=>KO v ob):=by simp only[I.wp]
@[simp] theorem qy:I.wp P sl ob KO Pn (.box k x)=Xtf k ob KO (x.ev sl):=by simp only[I.wp]
@[simp] theorem iwp_boxr:I.wp P sl ob KO Pn (.boxr k x)=Xlq ob KO (x.ev sl):=by simp only[I.wp]
@[simp] theorem boxrK_d {d:D}:Xlq ob KO (.d d)=KO (.d (.ref d)) ob:=by simp only[Xlq]
@[simp] theorem qu:I.wp P sl ob KO Pn (.alloc k d)=Xtf k ob KO (.d d):=by simp only[I.wp]
@[simp] theorem boxK_eq:Xtf k ob KO v=(v.sto=true/\KO (.ptr (Xa ob) []) ((Xa ob,.box k v)::ob)):=by simp only[Xtf]
@[simp] theorem qx (ps:List (Nat×A)):I.wp P sl ob KO Pn (.bls n xs ps)=Jc (xs.map .d) (ps.map fun p=>(p.1,p.2.ev sl)) (fun ks=>dK (fun l=>KO (.d (.list n l)) ob) (V.allD ks)):=by simp only[I.wp]
@[simp] theorem dK_s (KD:List D->Prop):dK KD (some xs)=KD xs:=by simp only[dK]
@[simp] theorem qw (ps:List (Nat×A)):I.wp P sl ob KO Pn (.blo j n xs ps)=Jc (xs.map .d) (ps.map fun p=>(p.1,p.2.ev sl)) (fun ks=>dK (fun l=>KO (.sl (Xa ob) l.length) ((Xa ob,.arr j n l)::ob)) (V.allD ks)):=by simp only[I.wp]
@[simp] theorem zm:I.wp P sl ob KO Pn (.st n x y)=stK ob n (y.ev sl) KO (x.ev sl):=by simp only[I.wp]
@[simp] theorem stK_p (p:List Nat):stK ob n v KO (.ptr k p)=X0n ob k p n v KO (Xc ob k):=by simp only[stK]
@[simp] theorem stKo_s (p:List Nat)(t:V)(E:Nat):X0n ob k p n v KO (some (.box E t))=X0o ob k p n E v t KO (t.at p):=by simp only[X0n]
def Ygf (ob:Xb)(id E:Nat)(K:V->Xb->Prop):Option V->Prop
 | some t'=>K .undef (setO ob id (.box E t'))
 | none=>False
@[simp] theorem stKt_s (p:List Nat)(t:V)(E:Nat):X0o ob k p n E v t KO (some v')=(v.shape=v'.shape/\v'.size=n/\v.sto=true/\Ygf ob k E KO (t.set p v)):=by
 simp only[X0o]; cases t.set p v<;>simp[Ygf]
@[simp] theorem stKs_s (E:Nat):Ygf ob k E KO (some v)=KO .undef (setO ob k (.box E v)):=by simp only[Ygf]
@[simp] theorem qv (E sz B:Nat):I.wp P sl ob KO Pn (.app E sz B x y)=X0k sz (fun ys=>Xel E sz B ob ys KO (x.ev sl)) (y.ev sl):=by simp only[I.wp]
@[simp] theorem srcK_l (KD:List D->Prop):X0k n KD (.d (.list n xs))=KD xs:=by simp[X0k]
@[simp] theorem appK_s (E sz B:Nat):Xel E sz B ob xs KO (.sl k n)=Xd8 k E sz B n ob xs KO (Xc ob k):=by simp[Xel]
@[simp] theorem appK_n (E sz B:Nat):Xel E sz B ob xs KO (.d .nils)=((2*xs.length+192)*B<=281474976710656/\KO (.sl (Xa ob) xs.length) ((Xa ob,.arr E sz xs)::ob)):=by simp only[Xel]
@[simp] theorem appKo_s (E sz B:Nat)(ys:List D):Xd8 k E sz B n ob xs KO (some (.arr E sz ys))=(n=ys.length/\(2*(ys.length+xs.length)+192)*B<=281474976710656/\KO (.sl k (ys.length+xs.length)) (setO ob k (.arr E sz (ys++xs)))):=by simp[Xd8]
@[simp] theorem zh:I.wp P sl ob KO Pn (.mvf x)=Xp5 KO (V.giv ob (x.ev sl)):=by simp only[I.wp]
@[simp] theorem zg:I.wp P sl ob KO Pn (.ldf n b x)=X4x n b ob KO (x.ev sl):=by simp only[I.wp]
@[simp] theorem zi (E sz:Nat)(p:List Nat):I.wp P sl ob KO Pn (.mvg E sz y x p)=Xkc ob E sz p (y.ev sl) KO (x.ev sl):=by simp only[I.wp]
@[simp] theorem zj (l:List (Nat×Nat×List Nat)):I.wp P sl ob KO Pn (.mvn y x l)=Xsi (y.ev sl) KO (x.ev sl) l ob:=by simp only[I.wp]
@[simp] theorem mvnK_n (v x:V):Xsi v KO x [] ob=KO v ob:=by simp only[Xsi]
@[simp] theorem mvnK_c (v x:V)(e:Nat×Nat×List Nat)(l:List (Nat×Nat×List Nat)):Xsi v KO x (e::l) ob=Xkc ob e.1 e.2.1 e.2.2 v (fun _ ob'=>Xsi v KO x l ob') x:=by simp only[Xsi]
@[simp] theorem mvgK_p (E sz:Nat)(p q:List Nat):Xkc ob E sz p v KO (.ptr k q)=Xed ob k (q++p) E sz v KO (Xc ob k):=by simp only[Xkc]
@[simp] theorem mvgKt_s (E E0 sz:Nat)(p:List Nat)(t:V):Xed ob k p E sz v KO (some (.box E0 t))=((t.at p=some (.d .nils)/\Xke ob k E0 E sz v KO (t.set p (.sl (Xa ob) 0)))\/((∃i n,t.at p=some (.sl i n))/\KO v ob)):=by simp only[Xed]
@[simp] theorem mvgKs_s (E E0 sz:Nat)(t:V):Xke ob k E0 E sz v KO (some t)=KO v ((Xa ob,.arr E sz [])::setO ob k (.box E0 t)):=by simp only[Xke]
@[simp] theorem iwp_cvb:I.wp P sl ob KO Pn (.cvb x)=Xvg ob KO (x.ev sl):=by simp only[I.wp]
@[simp] theorem cvbK_s:Xvg ob KO (.sl k n)=Xf9 k n ob KO (Xc ob k):=by simp only[Xvg]
@[simp] theorem cvbKo_s (E sz:Nat):Xf9 k n ob KO (some (.arr E sz xs))=(sz ≠ 0/\n=xs.length/\xs ≠ []/\KO (.d (.list sz xs)) (setO ob k .gone)):=by simp only[Xf9]
-- values given up
@[simp] theorem giv_d:V.giv ob (.d d)=some (d,ob):=by simp only[V.giv]
@[simp] theorem giv_sl:V.giv ob (.sl k n)=Yhv ob k n (Xc ob k):=by simp only[V.giv]
@[simp] theorem givO_s (E sz:Nat):Yhv ob k n (some (.arr E sz xs))=if sz ≠ 0/\n=xs.length then some (.list sz xs,setO ob k .gone) else none:=by simp only[Yhv]
@[simp] theorem giv_agg:V.giv ob (.agg vs)=X1s (V.givs ob vs):=by simp only[V.giv]
@[simp] theorem giv_fn (l1 l2:List V):V.giv ob (.fn k l1 l2)=fnG k ob (V.allD l1) (V.allD l2):=by simp only[V.giv]
@[simp] theorem fnG_s (l1 l2:List D):fnG k ob (some l1) (some l2)=some (.fn k l1 l2,ob):=by simp only[fnG]
@[simp] theorem fnG_m (o:Option (List D)):fnG k ob o none=none:=by cases o<;>simp only[fnG]
@[simp] theorem givs_nil:V.givs ob []=some ([],ob):=by simp only[V.givs]
def X88 (r:List V):Option (D×Xb)->Option (List D×Xb)
 | some (x,ob1)=>Xbn x (V.givs ob1 r)
 | none=>none
@[simp] theorem givs_cons:V.givs ob (v::vs)=X88 vs (V.giv ob v):=by
 simp only[V.givs]; cases V.giv ob v with
 | none=>rfl
 | some q=>obtain⟨y,ob1⟩:=q; rfl
@[simp] theorem bindO_s:X88 vs (some (d,ob))=Xbn d (V.givs ob vs):=by simp only[X88]
@[simp] theorem consO_s (l:List D):Xbn d (some (l,ob))=some (d::l,ob):=by simp only[Xbn]
@[simp] theorem aggO_s (l:List D):X1s (some (l,ob))=some (.agg l,ob):=by simp only[X1s]
@[simp] theorem givsK_s (KD:List D->Xb->Prop)(l:List D):W1 KD (some (l,ob))=KD l ob:=by simp only[W1]
@[simp] theorem gvsK_nil (KL:List V->Xb->Prop):Xd9 [] ob KL=KL [] ob:=by simp only[Xd9]
@[simp] theorem gvsK_cons (KL:List V->Xb->Prop):Xd9 (v::vs) ob KL=gvO v ob (fun v' ob'=>Xd9 vs ob' fun vs ob''=>KL (v'::vs) ob'') (V.giv ob v):=by simp only[Xd9]
@[simp] theorem gvO_s:gvO v ob KO (some (d,ro))=KO (.d d) ro:=by simp only[gvO]
@[simp] theorem gvO_n:gvO v ob KO none=KO v ob:=by simp only[gvO]
-- names
@[simp] theorem fresh_nil:Xa []=0:=by simp only[Xa]
@[simp] theorem fresh_cons (o:Ob):Xa ((k,o)::ro)=if Xa ro<=k then k+1 else Xa ro:=by simp only[Xa]
@[simp] theorem fresh_set (o:Ob):Xa (setO ob k o)=Xa ob:=by
 induction ob with
 | nil=>simp[setO]
 | cons e r ih=>obtain⟨i,y⟩:=e; simp only[setO]; split<;>simp[Xa,ih]
@[simp] theorem fresh_ne (h:(Xc ob k).isSome=true):(Xa ob==k)=false:=by
 rw[Ucg]; intro e; rw[<-e,X2]at h; cases h
@[simp] theorem fresh_add_ne (h:(Xc ob k).isSome=true):(Xa ob+n==k)=false:=by
 rw[Ucg]; intro e; rw[<-e,X1 ob _ (by omega)]at h; cases h
@[simp] theorem lookO_set_eq (o:Ob)(h:(Xc ob k).isSome=true):Xc (setO ob k o) k=some o:=by
 rw[Xs ob k k (Ua3.1 h)]; simp
@[simp] theorem lookO_set_ne (o:Ob)(h:(j==k)=false):Xc (setO ob j o) k=Xc ob k:=by
 by_cases hs:(Xc ob j).isSome=true
 ·rw[Xs ob j k (Ua3.1 hs)]; simp at h; rw[Ubo (fun e=>h e.symm)]
 ·have hn:Xc ob j=none:=by simpa using hs
  have:∀(ob:Xb),Xc ob j=none->setO ob j o=ob:=fun ob=>by
   induction ob with
   | nil=>intro _; rfl
   | cons e r ih=>obtain⟨i,y⟩:=e; intro h; simp only[Xc]at h; split at h; cases h; rename_i hne; simp[setO,hne,ih h]
  rw[this ob hn]
@[simp] theorem Xca (o o':Ob):setO (setO ob k o) k o'=setO ob k o':=by
 induction ob with
 | nil=>rfl
 | cons e r ih=>
  obtain⟨i,y⟩:=e;by_cases h:i=k
  ·subst h; simp[setO]
  ·simp[setO,h,ih]
theorem Xzz (o:Ob)(h:Xc ob k=some o):setO ob k o=ob:=by
 induction ob with
 | nil=>rfl
 | cons e r ih=>
  obtain⟨i,y⟩:=e;simp only[Xc]at h;split at h
  ·rename_i e; cases h; simp[setO,e]
  ·rename_i e; simp[setO,e,ih h]
-- Xe objects dropped
@[simp] theorem V5 (l:List Nat)(h:k<n):Xe n l k=false:=by simp[Xe]; omega
@[simp] theorem young_old (l:List Nat)(h:(Xc ob k).isSome=true):Xe (Xa ob) l k=false:=by
 have:k<Xa ob:=by
  rcases Uaa k (Xa ob) with h1 | h1
  ·exact h1
  ·rw[X1 ob k h1]at h; cases h
 simp[Xe]; omega
@[simp] theorem young_self:Xe n [] n=true:=by simp[Xe]
@[simp] theorem Xev (l:List Nat):Yv (Xe (Xa ob) l) ob=ob:=by
 have:∀(n:Nat) (ob:Xb),Xa ob<=n->Yv (Xe n l) ob=ob:=fun n ob=>by
  induction ob with
  | nil=>intro _; rfl
  | cons e r ih=>
   obtain⟨i,y⟩:=e;intro h;simp only[Xa]at h;have hi:i<n/\Xa r<=n:=by split at h<;>omega
   simp only[Yv,V5 i n l hi.1,Uah,Uay,ih hi.2]
 exact this _ ob (Uak _)
theorem Xl (ids:Nat->Bool)(E:Nat)(h:Xg ids ob=true)(hv:V.men ids v=false):Xg ids (setO ob k (.box E v))=true:=by
 induction ob with
 | nil=>rfl
 | cons e r ih=>
  obtain⟨i,y⟩:=e;simp only[setO];split
  ·cases y<;>simp_all[Xg]
  ·cases y<;>simp_all[Xg]
theorem Yq (ids:Nat->Bool)(E z:Nat)(h:Xg ids ob=true):Xg ids (setO ob k (.arr E z xs))=true:=by
 induction ob with
 | nil=>rfl
 | cons e r ih=>
  obtain⟨i,y⟩:=e;simp only[setO];split
  ·cases y<;>simp_all[Xg]
  ·cases y<;>simp_all[Xg]
@[simp] theorem zd (l:List A):I.wp P sl ob KO Pn (.call k l)=ACall P k (l.map (A.ev sl)) ob (Xb6 KO Pn):=by simp only[I.wp]
@[simp] theorem ze (l:List A):I.wp P sl ob KO Pn (.callv x l)=Wt P (l.map (A.ev sl)) ob KO Pn (x.ev sl):=by simp only[I.wp]
@[simp] theorem X8 (a1 a2:List V):Wt P vs ob KO Pn (.fn k a1 a2)=(Xm P.p k=true/\ACall P k (a1++vs++a2) ob (Xb6 KO Pn)):=by simp only[Wt]
@[simp] theorem callvK_df (a1 a2:List D):Wt P vs ob KO Pn (.d (.fn k a1 a2))=(Xm P.p k=true/\ACall P k (a1.map .d++vs++a2.map .d) ob (Xb6 KO Pn)):=by simp only[Wt]
@[simp] theorem zo:Xb6 KO Pn (.ret v) ob=KO v ob:=by simp only[Xb6]
@[simp] theorem zn:Xb6 KO Pn (.panic v) ob=Pn v ob:=by simp only[Xb6]
@[simp] theorem iwp_panic:I.wp P sl ob KO Pn (.panic x)=Jw ob Pn (x.ev sl):=by simp only[I.wp]
@[simp] theorem panicK_d:Jw ob Pn (.d (.iface k d))=Pn (.d (.iface k d)) ob:=by simp only[Jw]
@[simp] theorem zk (E sz:Nat):I.wp P sl ob KO Pn (.nilo E sz x)=Xhn E sz ob KO (x.ev sl):=by simp only[I.wp]
@[simp] theorem niloK_n (E sz:Nat):Xhn E sz ob KO (.d .nils)=KO (.sl (Xa ob) 0) ((Xa ob,.arr E sz [])::ob):=by simp only[Xhn]
-- regions and statements
@[simp] theorem gdK_tt (Y N:Xf->Prop):gdK k true sl Y N (.d (.bool true))=Y ((k,.d (.bool true))::sl):=by simp[gdK]
@[simp] theorem gdK_tf (Y N:Xf->Prop):gdK k true sl Y N (.d (.bool false))=N ((k,.d (.bool false))::sl):=by simp[gdK]
@[simp low] theorem gdK_b (Y N:Xf->Prop):gdK k c sl Y N (.d (.bool b))=((b=c->Y ((k,.d (.bool c))::sl))/\(b=!c->N ((k,.d (.bool (!c)))::sl))):=by simp only[gdK]
@[simp] theorem keepS_nil:Xk sl []=[]:=by simp only[Xk]
@[simp] theorem keepS_cons (l:List Nat):Xk sl (k::l)=(k,look sl k)::Xk sl l:=by simp only[Xk]
@[simp] theorem zl (l:List A):I.wp P sl ob KO Pn (.pcall k l)=PCall P k (l.map (A.ev sl)) ob (fun v=>KO v ob):=by simp only[I.wp]
@[simp] theorem condK_t (Y N:Prop):Xal Y N (.d (.bool true))=Y:=by simp[Xal]
@[simp] theorem condK_f (Y N:Prop):Xal Y N (.d (.bool false))=N:=by simp[Xal]
@[simp low] theorem condK_b (Y N:Prop):Xal Y N (.d (.bool b))=((b=true->Y)/\(b=false->N)):=by simp only[Xal]
@[simp] theorem wc:W3 next Q .normal sl ob=next sl ob:=by simp only[W3]
@[simp] theorem wb:W3 next Q (.exit n) sl ob=Q (.exit n) sl ob:=by simp only[W3]
@[simp] theorem wf:W3 next Q .ret sl ob=Q .ret sl ob:=by simp only[W3]
@[simp] theorem we:W3 next Q (.panic v) sl ob=Q (.panic v) sl ob:=by simp only[W3]
@[simp] theorem qc:Y7 n Q .normal sl ob=Q .normal sl ob:=by simp only[Y7]
@[simp] theorem qa:Y7 n Q (.exit n) sl ob=Q .normal sl ob:=by simp[Y7]
@[simp] theorem qe:Y7 n Q .ret sl ob=Q .ret sl ob:=by simp only[Y7]
@[simp] theorem qd:Y7 n Q (.panic v) sl ob=Q (.panic v) sl ob:=by simp only[Y7]
attribute [simp] Wc Xg Yv
-- results
@[simp] theorem pureQ_r (rs:List RV):Uv rs K .ret sl ob=Wz sl ob rs fun vs=>W1 (fun l _=>K (Wf (l.map .d))) (V.givs ob vs):=by simp only[Uv]
@[simp] theorem pureQ_p (rs:List RV):Uv rs K (.panic v) sl ob=False:=by simp only[Uv]
@[simp] theorem qf (rs:List RV)(KU:Out->Xb->Prop):Va n rs KU .normal sl ob=Wz sl ob rs fun vs=>Xd9 vs ob fun vs ob=>X6 n (KU (.ret (Wf vs))) vs ob:=by simp only[Va]
@[simp] theorem qh (rs:List RV)(KU:Out->Xb->Prop):Va n rs KU .ret sl ob=Wz sl ob rs fun vs=>Xd9 vs ob fun vs ob=>X6 n (KU (.ret (Wf vs))) vs ob:=by simp only[Va]
@[simp] theorem qg (rs:List RV)(KU:Out->Xb->Prop):Va n rs KU (.panic v) sl ob=X6 n (KU (.panic v)) [v] ob:=by simp only[Va]
@[simp] theorem resK_nil (KL:List V->Prop):Wz sl ob [] KL=KL []:=by simp only[Wz]
@[simp] theorem resK_t (KL:List V->Prop)(rs:List RV):Wz sl ob (.t k::rs) KL=Wz sl ob rs fun vs=>KL (look sl k::vs):=by simp only[Wz,RV.wp]
@[simp] theorem resK_c (KL:List V->Prop)(rs:List RV):Wz sl ob (.c k n b::rs) KL=ldK ob n b (fun v=>Wz sl ob rs fun vs=>KL (v::vs)) (look sl k):=by simp only[Wz,RV.wp]
@[simp] theorem retV_1:Wf [v]=v:=by simp only[Wf]
@[simp] theorem retV_0:Wf []=.tup []:=by simp only[Wf]
@[simp] theorem retV_2:Wf (v::v'::vs)=.tup (v::v'::vs):=by simp only[Wf]
@[simp] theorem argS_nil:Vr k []=[]:=by simp only[Vr]
@[simp] theorem argS_cons:Vr k (v::vs)=(k,v)::Vr (k+1) vs:=by simp only[Vr]
end

@[congr] theorem I_wp_congr {P:Prg}{sl:Xf}{ob:Xb}{KO:V->Xb->Prop}{Pn:V->Xb->Prop}{i:I}:I.wp P sl ob KO Pn i=I.wp P sl ob KO Pn i:=rfl
@[congr] theorem C_wp_congr {sl:Xf}{ob:Xb}{K:V->Prop}{e:C}:C.wp sl ob K e=C.wp sl ob K e:=rfl
@[congr] theorem rwp_congr {P:Prg}{KS:Xf->Xb->Prop}{PS:V->Xf->Xb->Prop}{l:List It}{sl:Xf}{ob:Xb}:rwp P KS PS l sl ob=rwp P KS PS l sl ob:=rfl
@[congr] theorem gdK_congr {k:Nat}{b:Bool}{sl:Xf}{Y N:Xf->Prop}{v v':V}(h0:v=v'):gdK k b sl Y N v=gdK k b sl Y N v':=by rw[h0]
@[congr] theorem condK_congr {Y N:Prop}{v v':V}(h0:v=v'):Xal Y N v=Xal Y N v':=by rw[h0]
@[congr] theorem pickK_congr {K:V->Prop}{u u':V}{v v':V}{w w':V}(h0:u=u')(h1:v=v')(h2:w=w'):Qj K u v w=Qj K u' v' w':=by rw[h0,h1,h2]
@[congr] theorem notK_congr {K:V->Prop}{v v':V}(h0:v=v'):Xzb K v=Xzb K v':=by rw[h0]
@[congr] theorem cplK_congr {K:V->Prop}{v v':V}(h0:v=v'):X9w K v=X9w K v':=by rw[h0]
@[congr] theorem mxK_congr {K:V->Prop}{u u' v v':V}(h0:u=u')(h1:v=v'):mxK K u v=mxK K u' v':=by rw[h0,h1]
@[congr] theorem negK_congr {K:V->Prop}{v v':V}(h0:v=v'):Ye7 K v=Ye7 K v':=by rw[h0]
@[congr] theorem cvsK_congr {K:V->Prop}{v v':V}(h0:v=v'):X9z K v=X9z K v':=by rw[h0]
@[congr] theorem nilcK_congr {K:V->Prop}{v v':V}(h0:v=v'):Xbq K v=Xbq K v':=by rw[h0]
@[congr] theorem lenSK_congr {K:V->Prop}{v v':V}(h0:v=v'):Xc9 K v=Xc9 K v':=by rw[h0]
@[congr] theorem b2sK_congr {K:V->Prop}{v v':V}(h0:v=v'):Ysc K v=Ysc K v':=by rw[h0]
@[congr] theorem s2bK_congr {K:V->Prop}{v v':V}(h0:v=v'):Ysu K v=Ysu K v':=by rw[h0]
@[congr] theorem binK_congr {op:BinOp}{K:V->Prop}{u u':V}{v v':V}(h0:u=u')(h1:v=v'):Xo3 op K u v=Xo3 op K u' v':=by rw[h0,h1]
@[congr] theorem intK_congr {op:BinOp}{k j:IntKind}{K:V->Prop}{a a':Int}{b b':Int}(h0:a=a')(h1:b=b'):X04 op k j a b K=X04 op k j a' b' K:=by rw[h0,h1]
@[congr] theorem strK_congr {op:BinOp}{K:V->Prop}{a a':List UInt8}{b b':List UInt8}(h0:a=a')(h1:b=b'):Xtk op a b K=Xtk op a' b' K:=by rw[h0,h1]
@[congr] theorem beqK_congr {e:Bool}{K:V->Prop}{u u':V}{v v':V}(h0:u=u')(h1:v=v'):X85 e K u v=X85 e K u' v':=by rw[h0,h1]
@[congr] theorem isnilK_congr {e:Bool}{K:V->Prop}{v v':V}(h0:v=v'):Vm e K v=Vm e K v':=by rw[h0]
@[congr] theorem cviK_congr {k:IntKind}{K:V->Prop}{v v':V}(h0:v=v'):Xvh k K v=Xvh k K v':=by rw[h0]
@[congr] theorem idxK_congr {K:V->Prop}{u u':V}{v v':V}(h0:u=u')(h1:v=v'):X03 K u v=X03 K u' v':=by rw[h0,h1]
@[congr] theorem idxAK_congr {ob:Xb}{n:Nat}{K:V->Prop}{u u':V}{v v':V}(h0:u=u')(h1:v=v'):Xbo ob n K u v=Xbo ob n K u' v':=by rw[h0,h1]
@[congr] theorem idxPK_congr {ob:Xb}{k n:Nat}{K:V->Prop}{u u':V}{v v':V}(h0:u=u')(h1:v=v'):Xbp ob k n K u v=Xbp ob k n K u' v':=by rw[h0,h1]
@[congr] theorem fldAK_congr {ob:Xb}{k n:Nat}{K:V->Prop}{v v':V}(h0:v=v'):Ub ob k n K v=Ub ob k n K v':=by rw[h0]
@[congr] theorem fldAKo_congr {j:Nat}{p:List Nat}{k n:Nat}{K:V->Prop}{v v':Option (List V)}(h0:v=v'):Um j p k n K v=Um j p k n K v':=by rw[h0]
@[congr] theorem fldK_congr {k j n:Nat}{b:Bool}{K:V->Prop}{v v':Option (List V)}(h0:v=v'):Yam k j n b K v=Yam k j n b K v':=by rw[h0]
@[congr] theorem ldK_congr {ob:Xb}{n:Nat}{b:Bool}{K:V->Prop}{v v':V}(h0:v=v'):ldK ob n b K v=ldK ob n b K v':=by rw[h0]
@[congr] theorem ldKo_congr {n:Nat}{b:Bool}{K:V->Prop}{v v':Option V}(h0:v=v'):Xj3 n b K v=Xj3 n b K v':=by rw[h0]
@[congr] theorem lenLK_congr {ob:Xb}{K:V->Prop}{v v':V}(h0:v=v'):Jp ob K v=Jp ob K v':=by rw[h0]
@[congr] theorem bndK_congr {n:Nat}{KK:Nat->Nat->Prop}{u u':Option V}{v v':Option V}(h0:u=u')(h1:v=v'):Xab n KK u v=Xab n KK u' v':=by rw[h0,h1]
@[congr] theorem slcSK_congr {K:V->Prop}{l l':Option V}{h h':Option V}{v v':V}(h0:l=l')(h1:h=h')(h2:v=v'):Xeg l h K v=Xeg l' h' K v':=by rw[h0,h1,h2]
@[congr] theorem slcLK_congr {n:Nat}{K:V->Prop}{l l':Option V}{h h':Option V}{v v':V}(h0:l=l')(h1:h=h')(h2:v=v'):Xsr n l h K v=Xsr n l' h' K v':=by rw[h0,h1,h2]
@[congr] theorem extK_congr {n:Nat}{K:V->Prop}{v v':V}(h0:v=v'):X02 n K v=X02 n K v':=by rw[h0]
@[congr] theorem bldK_congr {KL:List V->Prop}{u u':List V}{l l':List (Nat×V)}(h0:u=u')(h1:l=l'):Jc u l KL=Jc u' l' KL:=by rw[h0,h1]
@[congr] theorem tasK_congr {k:Nat}{d:D}{K:V->Prop}{v v':V}(h0:v=v'):X50 k d K v=X50 k d K v':=by rw[h0]
@[congr] theorem boxK_congr {k:Nat}{ob:Xb}{KO:V->Xb->Prop}{v v':V}(h0:v=v'):Xtf k ob KO v=Xtf k ob KO v':=by rw[h0]
@[congr] theorem stK_congr {ob:Xb}{n:Nat}{KO:V->Xb->Prop}{u u':V}{v v':V}(h0:u=u')(h1:v=v'):stK ob n u KO v=stK ob n u' KO v':=by rw[h0,h1]
@[congr] theorem stKo_congr {ob:Xb}{k:Nat}{p:List Nat}{n:Nat}{u:V}{KO:V->Xb->Prop}{v v':Option Ob}(h0:v=v'):X0n ob k p n u KO v=X0n ob k p n u KO v':=by rw[h0]
@[congr] theorem stKt_congr {ob:Xb}{k:Nat}{p:List Nat}{n E:Nat}{u t:V}{KO:V->Xb->Prop}{v v':Option V}(h0:v=v'):X0o ob k p n E u t KO v=X0o ob k p n E u t KO v':=by rw[h0]
@[congr] theorem stKs_congr {ob:Xb}{k E:Nat}{KO:V->Xb->Prop}{v v':Option V}(h0:v=v'):Ygf ob k E KO v=Ygf ob k E KO v':=by rw[h0]
@[congr] theorem dK_congr {KD:List D->Prop}{v v':Option (List D)}(h0:v=v'):dK KD v=dK KD v':=by rw[h0]
@[congr] theorem callvK_congr {P:Prg}{ob:Xb}{KO:V->Xb->Prop}{Pn:V->Xb->Prop}{u u':List V}{v v':V}(h0:u=u')(h1:v=v'):Wt P u ob KO Pn v=Wt P u' ob KO Pn v':=by rw[h0,h1]
@[congr] theorem panicK_congr {ob:Xb}{Pn:V->Xb->Prop}{v v':V}(h0:v=v'):Jw ob Pn v=Jw ob Pn v':=by rw[h0]
@[congr] theorem srcK_congr {n:Nat}{KD:List D->Prop}{v v':V}(h0:v=v'):X0k n KD v=X0k n KD v':=by rw[h0]
@[congr] theorem appK_congr {E sz B:Nat}{ob:Xb}{xs:List D}{KO:V->Xb->Prop}{v v':V}(h0:v=v'):Xel E sz B ob xs KO v=Xel E sz B ob xs KO v':=by rw[h0]
@[congr] theorem appKo_congr {k E sz B n:Nat}{ob:Xb}{xs:List D}{KO:V->Xb->Prop}{v v':Option Ob}(h0:v=v'):Xd8 k E sz B n ob xs KO v=Xd8 k E sz B n ob xs KO v':=by rw[h0]
@[congr] theorem niloK_congr {E sz:Nat}{ob:Xb}{KO:V->Xb->Prop}{v v':V}(h0:v=v'):Xhn E sz ob KO v=Xhn E sz ob KO v':=by rw[h0]
@[congr] theorem srcSK_congr {KD:List D->Prop}{v v':V}(h0:v=v'):X5w KD v=X5w KD v':=by rw[h0]
@[congr] theorem pnilK_congr {e:Bool}{K:V->Prop}{v v':V}(h0:v=v'):Xn5 e K v=Xn5 e K v':=by rw[h0]
@[congr] theorem fnilK_congr {e:Bool}{K:V->Prop}{v v':V}(h0:v=v'):Xl7 e K v=Xl7 e K v':=by rw[h0]
@[congr] theorem peqK_congr {ob:Xb}{e:Bool}{K:V->Prop}{u u' v v':V}(h1:u=u')(h0:v=v'):Yga ob e K u v=Yga ob e K u' v':=by rw[h0,h1]
@[congr] theorem givK_congr {KO:V->Xb->Prop}{v v':Option (D×Xb)}(h0:v=v'):Xp5 KO v=Xp5 KO v':=by rw[h0]
@[congr] theorem givsK_congr {KO:List D->Xb->Prop}{v v':Option (List D×Xb)}(h0:v=v'):W1 KO v=W1 KO v':=by rw[h0]
@[congr] theorem gvO_congr {u:V}{ob:Xb}{KO:V->Xb->Prop}{v v':Option (D×Xb)}(h0:v=v'):gvO u ob KO v=gvO u ob KO v':=by rw[h0]
@[congr] theorem gvsK_congr {KL:List V->Xb->Prop}{u u':List V}{ob ob':Xb}(h0:u=u')(h1:ob=ob'):Xd9 u ob KL=Xd9 u' ob' KL:=by rw[h0,h1]
@[congr] theorem leaveK_congr {n:Nat}{K:Xb->Prop}{u u':List V}{ob ob':Xb}(h0:u=u')(h1:ob=ob'):X6 n K u ob=X6 n K u' ob':=by rw[h0,h1]
@[congr] theorem ldfK_congr {n:Nat}{b:Bool}{ob:Xb}{KO:V->Xb->Prop}{v v':V}(h0:v=v'):X4x n b ob KO v=X4x n b ob KO v':=by rw[h0]
@[congr] theorem ldfKo_congr {n:Nat}{b:Bool}{ob:Xb}{KO:V->Xb->Prop}{v v':Option V}(h0:v=v'):Xmh n b ob KO v=Xmh n b ob KO v':=by rw[h0]
@[congr] theorem mvgK_congr {ob:Xb}{E sz:Nat}{p:List Nat}{KO:V->Xb->Prop}{u u' v v':V}(h1:u=u')(h0:v=v'):Xkc ob E sz p u KO v=Xkc ob E sz p u' KO v':=by rw[h0,h1]
@[congr] theorem mvgKt_congr {ob:Xb}{k E sz:Nat}{p p':List Nat}{KO:V->Xb->Prop}{u:V}{v v':Option Ob}(h1:p=p')(h0:v=v'):Xed ob k p E sz u KO v=Xed ob k p' E sz u KO v':=by rw[h0,h1]
@[congr] theorem mvgKs_congr {ob:Xb}{k E0 E sz:Nat}{KO:V->Xb->Prop}{u:V}{v v':Option V}(h0:v=v'):Xke ob k E0 E sz u KO v=Xke ob k E0 E sz u KO v':=by rw[h0]
@[congr] theorem cvbK_congr {ob:Xb}{KO:V->Xb->Prop}{v v':V}(h0:v=v'):Xvg ob KO v=Xvg ob KO v':=by rw[h0]
@[congr] theorem cvbKo_congr {k n:Nat}{ob:Xb}{KO:V->Xb->Prop}{v v':Option Ob}(h0:v=v'):Xf9 k n ob KO v=Xf9 k n ob KO v':=by rw[h0]
@[congr] theorem usdK_congr {ob:Xb}{K:V->Prop}{v v':V}(h0:v=v'):Yfv ob K v=Yfv ob K v':=by rw[h0]
@[congr] theorem ustrK_congr {E:Nat}{ob:Xb}{KO:V->Xb->Prop}{u u' v v':V}(h1:u=u')(h0:v=v'):Xs8 E ob KO u v=Xs8 E ob KO u' v':=by rw[h0,h1]
@[congr] theorem ustrKo_congr {k n:Nat}{m:Int}{E:Nat}{ob:Xb}{KO:V->Xb->Prop}{v v':Option Ob}(h0:v=v'):Xla k n m E ob KO v=Xla k n m E ob KO v':=by rw[h0]
@[congr] theorem resK_congr {sl:Xf}{ob:Xb}{rs:List RV}{KL:List V->Prop}:Wz sl ob rs KL=Wz sl ob rs KL:=rfl
@[congr] theorem ACall_congr {P:Prg}{f:Nat}{vs vs':List V}{ob ob':Xb}{K:Out->Xb->Prop}(h:vs=vs')(h':ob=ob'):ACall P f vs ob K=ACall P f vs' ob' K:=by rw[h,h']
@[congr] theorem PCall_congr {P:Prg}{f:Nat}{vs vs':List V}{ob ob':Xb}{K:V->Prop}(h:vs=vs')(h':ob=ob'):PCall P f vs ob K=PCall P f vs' ob' K:=by rw[h,h']
@[congr] theorem ALoop_congr {keep:List Nat}{body:Y3->Xf->Xb->Prop}{Q:Y3}{sl sl':Xf}{ob ob':Xb}(h:sl=sl')(h':ob=ob'):ALoop keep body Q sl ob=ALoop keep body Q sl' ob':=by rw[h,h']

theorem ALoop.of {keep:List Nat}{body:Y3->Xf->Xb->Prop}{Q:Y3}{sl:Xf}{ob:Xb}{ι:Type}(S:ι->Xf)(O:ι->Xb)(I:ι->Prop)(μ:ι->Nat)(i0:ι)(h0:I i0)(hs:Xk sl keep=S i0)(ho:ob=O i0)
  (step:∀i,I i->body (W3 (sub keep (Xa (O i)) fun sl' ob'=>∃j,I j/\μ j<μ i/\sl'=S j/\ob'=O j) Q) (S i) (O i)):ALoop keep body Q sl ob:=
 ⟨⟨ι,S,O,I,μ,i0,h0,hs,ho,step⟩⟩

theorem ALoop.go {keep:List Nat}{body:Y3->Xf->Xb->Prop}{Q:Y3}{sl:Xf}{ob:Xb}{ι:Type}(S:ι->Xf)(O:ι->Xb)(I:ι->Prop)(μ:ι->Nat)(i0:ι)(h0:I i0)(hs:Xk sl keep=S i0)(ho:ob=O i0)
  (step:∀i,I i->∀R:Y3,(∀kp j sl' ob',I j->μ j<μ i->Xk sl' keep=S j->Yv (Xe (Xa (O i)) kp) ob'=O j->Wc (Xe (Xa (O i)) kp) (S j)=true->Xg (Xe (Xa (O i)) kp) (O j)=true->R .normal sl' ob')->
   (∀n sl' ob',Q (.exit n) sl' ob'->R (.exit n) sl' ob')->(∀sl' ob',Q .ret sl' ob'->R .ret sl' ob')->(∀v sl' ob',Q (.panic v) sl' ob'->R (.panic v) sl' ob')->body R (S i) (O i)):ALoop keep body Q sl ob:=by
 refine ALoop.of S O I μ i0 h0 hs ho fun i hi=>step i hi _ (fun kp j sl' ob' h1 h2 h3 h4 h5 h6=>?_) (fun _ _ _ h=>h) (fun _ _ h=>h) (fun _ _ _ h=>h);simp only[W3,sub];refine⟨kp,?_⟩;rw[h3,h4];exact⟨h5,h6,j,h1,h2,rfl,rfl⟩
@[congr] theorem cwp_congr {P:Prg}{s:S}{Q:Y3}{sl sl':Xf}{ob ob':Xb}(h:sl=sl')(h':ob=ob'):cwp P s Q sl ob=cwp P s Q sl' ob':=by rw[h,h']
end Go.Ab
namespace Go.Ab
open Go

def Xdl:V->V->V->V
 | .d (.bool t),.d (.bool x),.d (.bool y)=>.d (.bool (if t then x else y))
 | .d (.bool t),x,y=>if t then x else y
 | _,_,_=>.any
def Ye8:V->V
 | .d (.bool b)=>.d (.bool (!b))
 | _=>.any
def Yxt:V->V
 | .d (.int k n)=>.d (.int k (k.wrap (0-n)))
 | _=>.any
def Yui:V->V
 | .d (.int k n)=>.d (.int k (Xf0 .xor k (if k.signed then -1 else k.max) n))
 | _=>.any
def mxV:V->V->V
 | .d (.int k a),.d (.int _ b)=>.d (.int k (if b > a then b else a))
 | _,_=>.any
def Qq (op:BinOp)(k:IntKind)(a b:Int):V:=
 match op with
 | .add=>.d (.int k (k.wrap (a+b)))
 | .sub=>.d (.int k (k.wrap (a-b)))
 | .mul=>.d (.int k (k.wrap (a*b)))
 | .quo=>.d (.int k (k.wrap (a.tdiv b)))
 | .rem=>.d (.int k (a.tmod b))
 | .and | .or | .xor | .andNot=>.d (.int k (Xf0 op k a b))
 | .shl=>.d (.int k (k.wrap (a*2 ^ (min b.toNat k.bits))))
 | .shr=>.d (.int k (a.fdiv (2 ^ (min b.toNat k.bits))))
 | .eql=>.d (.bool (a==b))
 | .neq=>.d (.bool (a != b))
 | .lss=>.d (.bool (decide (a<b)))
 | .leq=>.d (.bool (decide (a<=b)))
 | .gtr=>.d (.bool (decide (b<a)))
 | .geq=>.d (.bool (decide (b<=a)))
def X8b (op:BinOp)(x y:List UInt8):V:=
 match op with
 | .add=>.d (.str (x++y))
 | .eql=>.d (.bool (x==y))
 | .neq=>.d (.bool (x != y))
 | .lss=>.d (.bool (Op.bytesLess x y))
 | .leq=>.d (.bool (Op.bytesLess x y||x==y))
 | .gtr=>.d (.bool (!(Op.bytesLess x y||x==y)))
 | .geq=>.d (.bool (!Op.bytesLess x y))
 | _=>.any
def X87 (op:BinOp):V->V->V
 | .d (.int k a),.d (.int _ b)=>Qq op k a b
 | .d (.str x),.d (.str y)=>X8b op x y
 | _,_=>.any
def Yt6 (e:Bool):V->V->V
 | .d (.bool x),.d (.bool y)=>.d (.bool ((x==y)==e))
 | _,_=>.any
def Jn (e:Bool):V->V
 | .d .nili=>.d (.bool e)
 | .iface _ _=>.d (.bool (!e))
 | .d (.iface _ _)=>.d (.bool (!e))
 | _=>.any
def Yfj (e:Bool):V->V
 | .d .nilp=>.d (.bool e)
 | .d (.ref _)=>.d (.bool (!e))
 | .ptr _ _=>.d (.bool (!e))
 | _=>.any
def Yan (e:Bool):V->V
 | .d .nilf=>.d (.bool e)
 | .d (.fn _ _ _)=>.d (.bool (!e))
 | .fn _ _ _=>.d (.bool (!e))
 | _=>.any
def Zf6:V->V
 | .sl id n=>.sd id n
 | .d .nils=>.d .nilp
 | _=>.any
def X9y (k:IntKind):V->V
 | .d (.int _ n)=>.d (.int k (k.wrap n))
 | _=>.any
def Yuj:V->V
 | .d (.str s)=>.d (.str s)
 | _=>.any
def Yhy:V->V->V
 | .d (.str s),.d (.int _ n)=>.d (.int .u8 (s.getD n.toNat 0).toNat)
 | _,_=>.any
def Xjt (z:Nat):V->V->V
 | .d (.list _ xs),.d (.int _ n)=>.d (.ref (xs.getD n.toNat default))
 | .sl id n,.d (.int _ m)=>.ep id n z m.toNat 0 []
 | .bs id p lo _,.d (.int _ m)=>.ptr id (p++[lo+m.toNat])
 | _,_=>.any
def Xgk:V->V->V
 | .ptr id p,.d (.int _ n)=>.ptr id (p++[n.toNat])
 | .d (.ref (.agg xs)),.d (.int _ n)=>.d (.ref (xs.getD n.toNat default))
 | _,_=>.any
def Xl6 (f fo:Nat):V->V
 | .ptr id p=>.ptr id (p++[f])
 | .ep id n z i g p=>.ep id n z i (g+fo) (p++[f])
 | .d (.ref (.agg xs))=>.d (.ref (xs.getD f default))
 | _=>.any
def Y98 (f:Nat):Option (List V)->V
 | some ks=>ks.getD f .any
 | none=>.any
def X6v:Option V->V
 | some v=>v
 | none=>.any
def ldV (ob:Xb):V->V
 | .ptr id p=>X6v (atO ob id p)
 | .d (.ref x)=>.d x
 | .ep id m z i f p=>X6v (atE ob id m z i f p)
 | _=>.any
def Xmj:V->V
 | .d (.str s)=>.d (.int .i64 s.length)
 | _=>.any
def Vy:V->V
 | .d (.list _ xs)=>.d (.int .i64 xs.length)
 | .d .nils=>.d (.int .i64 0)
 | .sl _ n=>.d (.int .i64 n)
 | .bs _ _ _ n=>.d (.int .i64 n)
 | _=>.any
def X6e (len:Nat)(K:Nat->Nat->V):Option V->Option V->V
 | none,none=>K 0 len
 | some (.d (.int _ l)),none=>K l.toNat len
 | none,some (.d (.int _ h))=>K 0 h.toNat
 | some (.d (.int _ l)),some (.d (.int _ h))=>K l.toNat h.toNat
 | _,_=>.any
def J9 (lo hi:Option V):V->V
 | .d (.str s)=>X6e s.length (fun l h=>.d (.str ((s.take h).drop l))) lo hi
 | _=>.any
def Y12 (lo hi:Option V):V->V
 | .d (.list sz xs)=>X6e xs.length (fun l h=>.d (.list sz ((xs.take h).drop l))) lo hi
 | _=>.any
def Yf4 (i:Nat):V->V
 | .tup xs=>xs.getD i .any
 | _=>.any
def Ygg (t:Nat)(z:D):V->V
 | .iface t' v=>if t'=t then .tup [v,.d (.bool true)] else .tup [.d z,.d (.bool false)]
 | .d (.iface t' x)=>if t'=t then .tup [.d x,.d (.bool true)] else .tup [.d z,.d (.bool false)]
 | .d .nili=>.tup [.d z,.d (.bool false)]
 | _=>.any

def Yf3 (e:Bool):V->V->V
 | .d x,.d y=>.d (.bool (D.eqb x y==e))
 | _,_=>.any
def Xr9:V->V->V
 | .d (.agg xs),.d (.int _ n)=>.d (xs.getD n.toNat default)
 | _,_=>.any

def C.val (sl:Xf)(ob:Xb):C->V
 | .mv x=>x.ev sl
 | .pick c a b=>Xdl (c.ev sl) (a.ev sl) (b.ev sl)
 | .not x=>Ye8 (x.ev sl)
 | .neg x=>Yxt (x.ev sl)
 | .cpl x=>Yui (x.ev sl)
 | .mx x y=>mxV (x.ev sl) (y.ev sl)
 | .bin op x y=>X87 op (x.ev sl) (y.ev sl)
 | .beq e x y=>Yt6 e (x.ev sl) (y.ev sl)
 | .isnil e x=>Jn e (x.ev sl)
 | .pnil e x=>Yfj e (x.ev sl)
 | .fnil e x=>Yan e (x.ev sl)
 | .peq e _ _=>.d (.bool e)
 | .usd x=>Zf6 (x.ev sl)
 | .cvi k x=>X9y k (x.ev sl)
 | .cvs x=>Yuj (x.ev sl)
 | .idx x i=>Yhy (x.ev sl) (i.ev sl)
 | .idxA z x i=>Xjt z (x.ev sl) (i.ev sl)
 | .idxP _ _ x i=>Xgk (x.ev sl) (i.ev sl)
 | .fldA f fo x=>Xl6 f fo (x.ev sl)
 | .fld f _ _ _ x=>Y98 f (x.ev sl).kids
 | .ld _ _ x=>ldV ob (x.ev sl)
 | .ldd _ _ x=>ldV ob (x.ev sl)
 | .nilc x=>x.ev sl
 | .lenS x=>Xmj (x.ev sl)
 | .lenL x=>Vy (x.ev sl)
 | .lenA n=>.d (.int .i64 n)
 | .slcS x lo hi=>J9 (lo.map (A.ev sl)) (hi.map (A.ev sl)) (x.ev sl)
 | .slcL _ x lo hi=>Y12 (lo.map (A.ev sl)) (hi.map (A.ev sl)) (x.ev sl)
 | .ext x i=>Yf4 i (x.ev sl)
 | .bld _ _=>.any
 | .mkf f first cap=>X64 f (first.map (A.ev sl)) (cap.map (A.ev sl))
 | .mki t x=>X5b t (x.ev sl)
 | .tas t z x=>Ygg t z (x.ev sl)
 | .eqD _ e x y=>Yf3 e (x.ev sl) (y.ev sl)
 | .aix _ _ _ x i=>Xr9 (x.ev sl) (i.ev sl)

def C.ok (sl:Xf)(ob:Xb)(c:C):Prop:=c.wp sl ob fun v=>v=c.val sl ob

theorem Xxb {op:BinOp}{k k':IntKind}{a b:Int}{K K':V->Prop}(hk:∀v,K v->K' v)(h:X04 op k k' a b K):X04 op k k' a b K':=by
 cases op<;>simp only[X04]at h⊢<;>first | exact⟨h.1,hk _ h.2⟩ | exact⟨h.1,h.2.1,hk _ h.2.2⟩
theorem X0p {op:BinOp}{a b:List UInt8}{K K':V->Prop}(hk:∀v,K v->K' v)(h:Xtk op a b K):Xtk op a b K':=by
 cases op<;>simp only[Xtk]at h⊢<;>first | exact hk _ h | exact⟨h.1,hk _ h.2⟩ | exact h.elim
theorem Xcn {n:Nat}{K K':Nat->Nat->Prop}(hk:∀l h,K l h->K' l h){lo hi:Option V}(h:Xab n K lo hi):Xab n K' lo hi:=by
 unfold Xab at h⊢;split<;>simp_all
theorem Uk {K K':List V->Prop}(hk:∀l,K l->K' l):∀(ps:List (Nat×V)) (ks:List V),Jc ks ps K->Jc ks ps K'
 | [],_,h=>hk _ h
 | (_,_)::r,_,h=>⟨h.1,h.2.1,h.2.2.1,Uk hk r _ h.2.2.2⟩
theorem C.wp_mono {sl:Xf}{ob:Xb}{K K':V->Prop}(hk:∀v,K v->K' v)(c:C)(h:c.wp sl ob K):c.wp sl ob K':=by
 cases c<;>simp only[C.wp]at h⊢
 case mv=>exact hk _ h
 case lenA=>exact hk _ h
 case mkf=>exact hk _ h
 case mki=>exact hk _ h
 case bld=>exact Uk (fun _=>hk _) _ _ h
 case bin x y=>
  generalize A.ev sl x=v at h⊢; generalize A.ev sl y=u at h⊢;unfold Xo3 at h; split at h
  ·exact Xxb hk h
  ·exact X0p hk h
  ·exact h.elim
 case slcS x lo hi=>
  generalize A.ev sl x=v at h⊢;unfold Xeg at h; split at h
  ·exact Xcn (fun _ _=>hk _) h
  ·exact h.elim
 case slcL x lo hi=>
  generalize A.ev sl x=v at h⊢;unfold Xsr at h; split at h
  ·exact⟨h.1,Xcn (fun _ _=>hk _) h.2⟩
  ·exact h.elim
 case pick x y z=>
  generalize A.ev sl x=v at h⊢; generalize A.ev sl y=u at h⊢; generalize A.ev sl z=t at h⊢;unfold Qj at h; split at h
  ·exact hk _ h
  ·rename_i hn; simp only[Qj]; exact⟨fun e=>hk _ (h.1 e),fun e=>hk _ (h.2 e)⟩
  ·exact h.elim
 case fld x=>
  generalize (A.ev sl x).kids=v at h⊢;unfold Yam at h; split at h
  ·exact⟨h.1,h.2.1,h.2.2.1,h.2.2.2.1,hk _ h.2.2.2.2⟩
  ·exact h.elim
 case fldA x=>
  generalize A.ev sl x=v at h⊢;unfold Ub at h; split at h
  ·simp only[Ub];generalize Zu _=v at h⊢;unfold Um at h; split at h
   ·exact⟨h.1,h.2.1,hk _ h.2.2⟩
   ·exact h.elim
  ·exact⟨h.1,h.2.1,hk _ h.2.2⟩
  ·exact hk _ h
  ·exact h.elim
 case ld x=>
  generalize A.ev sl x=v at h⊢;unfold ldK at h; split at h
  ·simp only[ldK];generalize atO _ _ _=v at h⊢;unfold Xj3 at h; split at h
   ·exact⟨h.1,h.2.1,hk _ h.2.2⟩
   ·exact h.elim
  ·exact⟨h.1,h.2.1,hk _ h.2.2⟩
  ·simp only[ldK];generalize atE _ _ _ _ _ _ _=v at h⊢;unfold Xj3 at h; split at h
   ·exact⟨h.1,h.2.1,hk _ h.2.2⟩
   ·exact h.elim
  ·exact h.elim
 case tas x=>
  generalize A.ev sl x=v at h⊢;unfold X50 at h; split at h
  ·exact⟨fun e=>hk _ (h.1 e),fun e=>hk _ (h.2 e)⟩
  ·exact⟨fun e=>hk _ (h.1 e),fun e=>hk _ (h.2 e)⟩
  ·exact hk _ h
  ·exact h.elim
 case pnil x=>generalize A.ev sl x=v at h⊢; unfold Xn5 at h; split at h<;>first | exact hk _ h | exact h.elim
 case fnil x=>generalize A.ev sl x=v at h⊢; unfold Xl7 at h; split at h<;>first | exact hk _ h | exact h.elim
 case usd x=>generalize A.ev sl x=v at h⊢; unfold Yfv at h; split at h<;>first | exact⟨h.1,hk _ h.2⟩ | exact hk _ h | exact h.elim
 case peq x y=>generalize A.ev sl x=v at h⊢; generalize A.ev sl y=u at h⊢; unfold Yga at h; split at h<;>first | exact⟨h.1,h.2.1,h.2.2.1,hk _ h.2.2.2⟩ | exact h.elim
 case not x=>generalize A.ev sl x=v at h⊢; unfold Xzb at h; split at h<;>first | exact hk _ h | exact h.elim
 case cpl x=>generalize A.ev sl x=v at h⊢; unfold X9w at h; split at h<;>first | exact hk _ h | exact h.elim
 case mx x y=>generalize A.ev sl x=v at h⊢; generalize A.ev sl y=u at h⊢; unfold mxK at h; split at h<;>first | exact hk _ h | exact h.elim
 case neg x=>generalize A.ev sl x=v at h⊢; unfold Ye7 at h; split at h<;>first | exact hk _ h | exact h.elim
 case isnil x=>generalize A.ev sl x=v at h⊢; unfold Vm at h; split at h<;>first | exact hk _ h | exact h.elim
 case cvi x=>generalize A.ev sl x=v at h⊢; unfold Xvh at h; split at h<;>first | exact hk _ h | exact h.elim
 case cvs x=>generalize A.ev sl x=v at h⊢; unfold X9z at h; split at h<;>first | exact hk _ h | exact h.elim
 case nilc x=>generalize A.ev sl x=v at h⊢; unfold Xbq at h; split at h<;>first | exact hk _ h | exact h.elim
 case lenS x=>generalize A.ev sl x=v at h⊢; unfold Xc9 at h; split at h<;>first | exact hk _ h | exact h.elim
 case lenL x=>generalize A.ev sl x=v at h⊢; unfold Jp at h; split at h<;>first | exact hk _ h | exact⟨h.1,hk _ h.2⟩ | exact h.elim
 case ext x _=>generalize A.ev sl x=v at h⊢; unfold X02 at h; split at h<;>first | exact⟨h.1,hk _ h.2⟩ | exact h.elim
 case ldd x=>generalize A.ev sl x=v at h⊢; unfold Xti at h; split at h<;>first | exact⟨h.1,h.2.1,hk _ h.2.2⟩ | exact h.elim
 case eqD x y=>generalize A.ev sl x=v at h⊢; generalize A.ev sl y=u at h⊢; unfold Yhn at h; split at h<;>first | exact⟨h.1,h.2.1,hk _ h.2.2⟩ | exact h.elim
 case aix x y=>generalize A.ev sl x=v at h⊢; generalize A.ev sl y=u at h⊢; unfold Xmd at h; split at h<;>first | exact⟨h.1,h.2.1,h.2.2.1,hk _ h.2.2.2⟩ | exact h.elim
 case beq x y=>generalize A.ev sl x=v at h⊢; generalize A.ev sl y=u at h⊢; unfold X85 at h; split at h<;>first | exact hk _ h | exact h.elim
 case idx x y=>generalize A.ev sl x=v at h⊢; generalize A.ev sl y=u at h⊢; unfold X03 at h; split at h<;>first | exact⟨h.1,hk _ h.2⟩ | exact h.elim
 case idxA x y=>generalize A.ev sl x=v at h⊢; generalize A.ev sl y=u at h⊢; unfold Xbo at h; split at h<;>first | exact⟨h.1,h.2.1,hk _ h.2.2⟩ | exact h.elim
 case idxP x y=>generalize A.ev sl x=v at h⊢; generalize A.ev sl y=u at h⊢; unfold Xbp at h; split at h<;>first | exact⟨h.1,h.2.1,hk _ h.2.2⟩ | exact⟨h.1,h.2.1,h.2.2.1,hk _ h.2.2.2⟩ | exact h.elim
theorem C.wp_of {sl:Xf}{ob:Xb}{K:V->Prop}{c:C}(h:c.ok sl ob)(hK:K (c.val sl ob)):c.wp sl ob K:=
 C.wp_mono (fun _ e=>e▸hK) c h
end Go.Ab
