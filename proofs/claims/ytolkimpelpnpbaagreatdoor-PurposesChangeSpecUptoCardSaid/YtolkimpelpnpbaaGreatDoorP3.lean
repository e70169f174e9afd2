/- Texts of this claim joined by a program, part 3 of 20; the last is: Expressions: what an operation that only reads yields, as a value. Over any program; no condition. -/
import Derived.Test.YtolkimpelpnpbaaGreatDoorP1
import Derived.Test.YtolkimpelpnpbaaGreatDoorP2
import Derived.Tactics
import Derived.RangeFuncIn
set_option linter.unusedSimpArgs false
set_option linter.unusedVariables false
set_option linter.unusedSectionVars false
set_option linter.defProp false
namespace Go.Ab
open Go
section
variable {P:Program} {ops:Array Oper} {Q:Exit->Act->World->Prop} {md:Region.Mode} {R:Nat->World->World->Prop}

def Wr (P:Program)(md:Region.Mode)(ops:Array Oper)(Q:Exit->Act->World->Prop)(R:Nat->World->World->Prop):Nat->Array Bool->Act->World->Prop
 | 0,listed,a,w=>Region.ready md ops listed=[]/\Q .normal a w
 | fuel+1,listed,a,w=>
  (Region.ready md ops listed=[]->Q .normal a w)/\
  ∀i∈Region.ready md ops listed,Jt P ops Q i (fun a' w'=>R i w w'/\Wr P md ops Q R fuel (listed.setIfInBounds i true) a' w') a w

theorem Xbp:∀(fuel:Nat) (listed:Array Bool) (a:Act) (w:World),Wr P md ops Q R fuel listed a w->Xmr P md ops Q fuel listed a w
 | 0,_,_,_,h=>h
 | fuel+1,_,_,_,h=>⟨h.1,fun i hi=>W4 (fun a' w' h'=>Xbp fuel _ a' w' h'.2) (h.2 i hi)⟩

theorem Js {R':Nat->World->World->Prop}(hR:∀j u v,R j u v->R' j u v):∀(fuel:Nat) (listed:Array Bool) (a:Act) (w:World),Wr P md ops Q R fuel listed a w->Wr P md ops Q R' fuel listed a w
 | 0,_,_,_,h=>h
 | fuel+1,_,_,_,h=>⟨h.1,fun i hi=>W4 (fun a' w' h'=>⟨hR _ _ _ h'.1,Js hR fuel _ a' w' h'.2⟩) (h.2 i hi)⟩

theorem Jr:∀(n m:Nat) (listed:Array Bool) (a:Act) (w:World),n<=m->Xmr P md ops Q n listed a w->Xmr P md ops Q m listed a w
 | 0,0,_,_,_,_,h=>h
 | 0,m+1,_,_,_,_,h=>⟨fun _=>h.2,fun i hi=>by rw[h.1]at hi; cases hi⟩
 | n+1,0,_,_,_,hle,_=>by omega
 | n+1,m+1,_,_,_,hle,h=>⟨h.1,fun i hi=>W4 (fun a' w' h'=>Jr n m _ a' w' (by omega) h') (h.2 i hi)⟩

def Xbr (md:Region.Mode)(ops:Array Oper)(listed:Array Bool):Prop:=
 ∀k o,ops[k]? = some o->listed.getD k false=true->∀e∈o.after,Region.binds md e=true->listed.getD e.on false=true

theorem Xbr.step {listed:Array Bool}(h:Xbr md ops listed){j:Nat}(hj:j∈Region.ready md ops listed):Xbr md ops (listed.setIfInBounds j true):=by
 obtain⟨_,oj,hoj,hall⟩:=mem_ready.1 hj;intro k o hk hl e he hb;by_cases hjk:j=k
 ·subst hjk;rw[hoj]at hk; simp at hk; subst hk;exact getD_set_true (hall e he hb)
 ·rw[getD_set_ne false hjk]at hl;exact getD_set_true (h k o hk hl e he hb)

def Vl (md:Region.Mode)(ops:Array Oper)(i:Nat):Nat->Nat->Bool
 | 0,_=>false
 | fuel+1,j=>match ops[j]? with
  | some o=>o.after.any fun e=>Region.binds md e&&(e.on==i||Vl md ops i fuel e.on)
  | none=>false

theorem Xb8 {listed:Array Bool}(hc:Xbr md ops listed){i:Nat}:∀(fuel k:Nat),Vl md ops i fuel k=true->listed.getD k false=true->listed.getD i false=true
 | 0,k,h,_=>by simp[Vl]at h
 | fuel+1,k,h,hl=>by
  simp only[Vl]at h;split at h
  ·rename_i o ho;rw[Array.any_eq_true']at h;obtain⟨e,he,h⟩:=h;simp only[Uai,Ucd,Ubn]at h;have h1:=hc k o ho hl e he h.1;rcases h.2 with h2 | h2
   ·rw[<-h2]; exact h1
   ·exact Xb8 hc fuel e.on h2 h1
  ·simp at h

theorem Xah {listed:Array Bool}(hc:Xbr md ops listed){i j fuel:Nat}(hi:listed.getD i true=false)(h:Vl md ops i fuel j=true):j∉Region.ready md ops listed:=by
 intro hj;obtain⟨_,o,ho,hall⟩:=mem_ready.1 hj;cases fuel with
 | zero=>simp[Vl]at h
 | succ fuel=>
  simp only[Vl,ho]at h;rw[Array.any_eq_true']at h;obtain⟨e,he,h⟩:=h;simp only[Uai,Ucd,Ubn]at h;have h1:=hall e he h.1;have hli:listed.getD i false=true:=by
   rcases h.2 with h2 | h2
   ·rw[<-h2]; exact h1
   ·exact Xb8 hc fuel e.on h2 h1
  rcases Uaa i listed.size with h' | h'
  ·simp[h']at hi hli; rw[hi]at hli; cases hli
  ·simp[Uab h']at hli

theorem Xwd {S S':World->Prop}{o:Oper}{v:Value}{a:Act}(h:YieldsIf P ops S o v a)(hs:∀w,S' w->S w):YieldsIf P ops S' o v a:=
 h.imp (fun ⟨h1,h2⟩=>⟨h1,fun w hw=>h2 w (hs w hw)⟩) id

theorem Yt {S:World->World->Prop}(hrefl:∀w,S w w)(htrans:∀u v w,S u v->S v w->S u w){l:Bool}{i:Nat}{oi:Oper}{v:Value}(hi:ops[i]? = some oi)(hsel:∀(j:Nat) (o:Oper) cs b,ops[j]? = some o->o.op ≠ .select cs b)
  (hQ:∀c a w,Q (.panic c) (a.put oi.dst v) w->Q (.panic c) a w) (hl:l=true->∀j,j<ops.size->j ≠ i->(∃fuel,Vl md ops i fuel j=true)\/∀u v,R j u v->S u v) (hself:∀w,R i w w) :
  ∀(fuel:Nat) (listed:Array Bool) (a:Act) (w:World),Xbr md ops listed->
   (∀j oj,ops[j]? = some oj->j ≠ i->listed.getD j true=false->(∀e∈oj.after,Region.binds md e=true->e.on ≠ i)->oi.apart ops oj=true)->
   i∈Region.ready md ops listed->YieldsIf P ops (fun w'=>l=true->S w w') oi v a->
   Wr P md ops Q R fuel (listed.setIfInBounds i true) (a.put oi.dst v) w->Wr P md ops Q R (fuel+1) listed a w:=by
 intro fuel;induction fuel with
 | zero=>
  intro listed a w _ _ hr hy H;refine⟨fun h=>(by rw[h]at hr; cases hr),fun j hj=>?_⟩;by_cases hji:j=i
  ·subst hji; exact Xmw hi hy (fun _=>hrefl w) ⟨hself w,H⟩
  ·have:=ready_mono hj hji;rw[H.1]at this;cases this
 | succ fuel ih=>
  intro listed a w hcl hfree hr hy H;refine⟨fun h=>(by rw[h]at hr; cases hr),fun j hj=>?_⟩;by_cases hji:j=i
  ·subst hji; exact Xmw hi hy (fun _=>hrefl w) ⟨hself w,H⟩
  ·have h1:=H.2 j (ready_mono hj hji);obtain⟨hjun,oj,hoj,hall⟩:=mem_ready.1 hj;have hiun:=(mem_ready.1 hr).1;have hnot:∀e∈oj.after,Region.binds md e=true->e.on ≠ i:=fun e he hb heq=>by
    have h1:=hall e he hb;rw[heq]at h1;rcases Uaa i listed.size with h' | h'
    ·simp[h']at hiun h1; rw[hiun]at h1; cases h1
    ·simp[Uab h']at h1
   have h2:=Xqq hoj (hfree j oj hoj hji hjun hnot) (fun cs b=>hsel i oi cs b hi) (fun cs b=>hsel j oj cs b hoj) hQ hy h1;have hfree':∀k ok,ops[k]? = some ok->k ≠ i->(listed.setIfInBounds j true).getD k true=false->
     (∀e∈ok.after,Region.binds md e=true->e.on ≠ i)->oi.apart ops ok=true:=fun k ok hk hki hun hno=>by
    refine hfree k ok hk hki ?_ hno;by_cases hjk:j=k
    ·subst hjk; exact hjun
    ·rw[getD_set_ne true hjk]at hun; exact hun
   refine W4 (fun a' w' h3=>⟨h3.2.1,ih (listed.setIfInBounds j true) a' w' (hcl.step hj) hfree' (ready_mono hr (Ne.symm hji)) (Xwd h3.1 fun w'' h4 h5=>?_) ?_⟩) h2
   ·have hR:S w w':=by
     rcases hl h5 j (Array.getElem?_eq_some_iff.1 hoj).1 hji with⟨fl,hw⟩ | hs
     ·exact absurd hj (Xah hcl hiun hw)
     ·exact hs _ _ h3.2.1
    exact htrans _ _ _ hR (h4 h5)
   ·rw[Array.setIfInBounds_comm _ _ hji];exact h3.2.2
end
end Go.Ab
namespace Go.Ab
open Go

def put (sl:Xf)(d:Option Nat)(v:V):Xf:=match d with
  | some k=>(k,v)::sl
  | none=>sl

inductive It where
  | op (d:Option Nat) (i:I)
  | gop (s:Nat) (want:Bool) (d:Option Nat) (i:I)

def gdK (s:Nat)(want:Bool)(sl:Xf)(Y N:Xf->Prop):V->Prop
  | .d (.bool b)=>(b=want->Y ((s,.d (.bool want))::sl))/\(b=!want->N ((s,.d (.bool (!want)))::sl))
  | .undef=>N sl
  | _=>False

def rwp (P:Prg)(K:Xf->Xb->Prop)(Pn:V->Xf->Xb->Prop):List It->Xf->Xb->Prop
  | [],sl,ob=>K sl ob
  | .op d i::r,sl,ob=>i.wp P sl ob (fun v ob'=>rwp P K Pn r (put sl d v) ob') (fun v ob'=>Pn v sl ob')
  | .gop s want d i::r,sl,ob=>gdK s want sl (fun sl=>i.wp P sl ob (fun v ob'=>rwp P K Pn r (put sl d v) ob') (fun v ob'=>Pn v sl ob')) (fun sl=>rwp P K Pn r (put sl d .undef) ob) (look sl s)

mutual
inductive Ot where
  | done
  | one (i:Nat) (x:It) (r:Ot)
  | br (l:Ots)
inductive Ots where
  | nil
  | cons (i:Nat) (x:It) (r:Ot) (l:Ots)
end
def itK (P:Prg)(next:Xf->Xb->Prop)(Pn:V->Xf->Xb->Prop):It->Xf->Xb->Prop
  | .op d i,sl,ob=>i.wp P sl ob (fun v ob'=>next (put sl d v) ob') (fun v ob'=>Pn v sl ob')
  | .gop s want d i,sl,ob=>gdK s want sl (fun sl=>i.wp P sl ob (fun v ob'=>next (put sl d v) ob') (fun v ob'=>Pn v sl ob')) (fun sl=>next (put sl d .undef) ob) (look sl s)
mutual
def owp (P:Prg)(K:Xf->Xb->Prop)(Pn:V->Xf->Xb->Prop):Ot->Xf->Xb->Prop
  | .done,sl,ob=>K sl ob
  | .one _ x r,sl,ob=>itK P (owp P K Pn r) Pn x sl ob
  | .br l,sl,ob=>Xe6 P K Pn l sl ob
def Xe6 (P:Prg)(K:Xf->Xb->Prop)(Pn:V->Xf->Xb->Prop):Ots->Xf->Xb->Prop
  | .nil,_,_=>True
  | .cons _ x r l,sl,ob=>itK P (owp P K Pn r) Pn x sl ob/\Xe6 P K Pn l sl ob
end

inductive S where
  | rg (ord:List Nat) (l:List It) (keep pk:List Nat)
  | rgT (n:Nat) (t:Ot) (keep pk:List Nat)
  | seq (a b:S)
  | skip
  | cond (c:A) (a b:S)
  | block (n:Nat) (a:S)
  | loop (keep:List Nat) (a:S)
  | exit (n:Nat)
  | ret
    | rgf (tag:Nat) (ps:List Nat) (g:A) (x y:S) (keep:List Nat)

def S.noR:S->Bool
  | .seq a b=>a.noR&&b.noR
  | .cond _ a b=>a.noR&&b.noR
  | .block _ a=>a.noR
  | .loop _ a=>a.noR
  | .rgf _ _ _ _ _ _=>false
  | _=>true

inductive AExit where
  | normal
  | exit (n:Nat)
  | ret
  | panic (v:V)

abbrev Ze:=AExit->Xf->Xb->Prop

def W3 (next:Xf->Xb->Prop)(Q:Ze):Ze
  | .normal,sl,ob=>next sl ob
  | .exit n,sl,ob=>Q (.exit n) sl ob
  | .ret,sl,ob=>Q .ret sl ob
  | .panic v,sl,ob=>Q (.panic v) sl ob
def Y3 (id:Nat)(Q:Ze):Ze
  | .normal,sl,ob=>Q .normal sl ob
  | .exit n,sl,ob=>if n=id then Q .normal sl ob else Q (.exit n) sl ob
  | .ret,sl,ob=>Q .ret sl ob
  | .panic v,sl,ob=>Q (.panic v) sl ob
def Xa9 (Y N:Prop):V->Prop
  | .d (.bool t)=>(t=true->Y)/\(t=false->N)
  | _=>False
def Xk (sl:Xf):List Nat->Xf
  | []=>[]
  | k::r=>(k,look sl k)::Xk sl r

mutual
def V.men (ids:Nat->Bool):V->Bool
  | .ptr id _=>ids id
  | .sl id _=>ids id
  | .sd id _=>ids id
  | .mp id=>ids id
  | .hd _ id=>ids id
  | .ep id _ _ _ _ _=>ids id
  | .bs id _ _ _=>ids id
  | .fn _ a b=>Rb8 ids a||Rb8 ids b
  | .agg xs=>Rb8 ids xs
  | .iface _ v=>V.men ids v
  | .tup xs=>Rb8 ids xs
  | _=>false
def Rb8 (ids:Nat->Bool):List V->Bool
  | []=>false
  | x::r=>V.men ids x||Rb8 ids r
end
def Y2 (ids:Nat->Bool):Xb->Xb
  | []=>[]
  | (j,x)::r=>if ids j then Y2 ids r else (j,x)::Y2 ids r
def Wo (ids:Nat->Bool):Xf->Bool
  | []=>true
  | (_,v)::r=>!V.men ids v&&Wo ids r
def Jk (ids:Nat->Bool):List (D×V)->Bool
  | []=>false
  | (_,v)::r=>V.men ids v||Jk ids r
def Xaj (ids:Nat->Bool):Option Nat->Bool
  | some j=>ids j
  | none=>false
def Xh (ids:Nat->Bool):Xb->Bool
  | []=>true
  | (_,.box _ t)::r=>!V.men ids t&&Xh ids r
  | (_,.vec _ _ xs)::r=>!Rb8 ids xs&&Xh ids r
  | (_,.map es)::r=>!Jk ids es&&Xh ids r
  | (_,.lp _ _ sl)::r=>Wo ids sl&&Xh ids r
  | (_,.it m _ _)::r=>!Xaj ids m&&Xh ids r
  | _::r=>Xh ids r
def Xc (n:Nat)(kp:List Nat)(id:Nat):Bool:=decide (n<=id)&&!kp.contains id
def sub (keep:List Nat)(n:Nat)(K:Xf->Xb->Prop)(sl:Xf)(ob:Xb):Prop:=
  ∃kp:List Nat,Wo (Xc n kp) (Xk sl keep)=true/\Xh (Xc n kp) (Y2 (Xc n kp) ob)=true/\K (Xk sl keep) (Y2 (Xc n kp) ob)

structure ALoop (keep:List Nat)(body:Ze->Xf->Xb->Prop)(Q:Ze)(sl:Xf)(ob:Xb):Prop where
  run:∃(ι:Type) (S:ι->Xf) (O:ι->Xb) (I:ι->Prop) (μ:ι->Nat) (i0:ι),I i0/\Xk sl keep=S i0/\ob=O i0/\
    ∀i,I i->body (W3 (sub keep (Xa (O i)) fun sl' ob'=>∃j,I j/\μ j<μ i/\sl'=S j/\ob'=O j) Q) (S i) (O i)


def Xbb (N:Nat):Option Nat->Option Nat->Bool
  | some k,some j=>k==j&&decide (k<N)
  | none,none=>true
  | _,_=>false

def It.chk (P:Program)(N:Nat)(ops:Array Oper)(o:Oper):It->Bool
  | .op d i=>Xbb N o.dst d&&o.guard.isNone&&i.chk P o.op
  | .gop s want d i=>Xbb N o.dst d&&(match o.guard with
    | some (j,b)=>b==want&&(match ops[j]? with | some o'=>o'.dst==some s | none=>false)
    | none=>false)&&i.chk P o.op

def Wx (P:Program)(N:Nat)(ops:Array Oper):List Oper->List It->Bool
  | [],[]=>true
  | o::r,i::s=>i.chk P N ops o&&Wx P N ops r s
  | _,_=>false

def It.kind:It->Nat
  | .op _ i=>i.kind
  | .gop _ _ _ i=>i.kind
def Ybk:List Nat->List It->Nat->Nat
  | i::r,x::s,j=>if i=j then x.kind else Ybk r s j
  | _,_,_=>3
def Xne (P:Program)(N:Nat)(ops:Array Oper)(kd:Nat->Nat)(listed:Array Bool):List Nat->List It->Bool
  | [],[]=>(Region.ready .any ops listed).isEmpty
  | i::r,x::s=>(Region.ready .any ops listed).contains i&&(match ops[i]? with | some o=>x.chk P N ops o | none=>false)&&x.kind==kd i&&
      (match x.kind with
        | 0=>Region.free .any ops listed i
        | 5=>Region.free .any ops listed i
        | 1=>Region.free .any ops listed i&&(List.range ops.size).all (fun j=>kd j != 3||j==i||Vl .any ops i 1 j||Vl .any ops i ops.size j)
        | _=>(Region.ready .any ops listed)==[i])&&
      Xne P N ops kd (listed.setIfInBounds i true) r s
  | _,_=>false
mutual
def Ot.kinds:Ot->List (Nat×Nat)
  | .done=>[]
  | .one i x r=>(i,x.kind)::r.kinds
  | .br l=>l.kinds
def Ots.kinds:Ots->List (Nat×Nat)
  | .nil=>[]
  | .cons i x r l=>(i,x.kind)::(r.kinds++l.kinds)
end
def Ybl:List (Nat×Nat)->Nat->Nat
  | [],_=>3
  | (i,k)::r,j=>if i=j then k else Ybl r j
def Ots.has (j:Nat):Ots->Bool
  | .nil=>false
  | .cons i _ _ l=>i==j||l.has j
mutual
def Up (P:Program)(N:Nat)(ops:Array Oper)(kd:Nat->Nat):Nat->Array Bool->Ot->Bool
  | 0,listed,.done=>(Region.ready .any ops listed).isEmpty
  | n+1,listed,.one i x r=>(Region.ready .any ops listed).contains i&&(match ops[i]? with | some o=>x.chk P N ops o | none=>false)&&x.kind==kd i&&
      (match x.kind with
        | 0=>Region.free .any ops listed i
        | 5=>Region.free .any ops listed i
        | 1=>Region.free .any ops listed i&&(List.range ops.size).all (fun j=>kd j != 3||j==i||Vl .any ops i 1 j||Vl .any ops i ops.size j)
        | _=>(Region.ready .any ops listed)==[i])&&
      Up P N ops kd n (listed.setIfInBounds i true) r
  | n+1,listed,.br l=>!(Region.ready .any ops listed).isEmpty&&(Region.ready .any ops listed).all (fun j=>l.has j)&&Xgz P N ops kd n listed l
  | _,_,_=>false
def Xgz (P:Program)(N:Nat)(ops:Array Oper)(kd:Nat->Nat):Nat->Array Bool->Ots->Bool
  | _,_,.nil=>true
  | n,listed,.cons i x r l=>(Region.ready .any ops listed).contains i&&(match ops[i]? with | some o=>x.chk P N ops o | none=>false)&&x.kind==kd i&&Up P N ops kd n (listed.setIfInBounds i true) r&&Xgz P N ops kd n listed l
end
def Xcp (pk:List Nat)(ops:Array Oper):Bool:=ops.toList.all fun o=>match o.dst with
  | some d=>!pk.contains d
  | none=>true

def Xp8 (ops:Array Oper):Bool:=ops.toList.all fun o=>match o.op with
  | .defer _=>false
  | _=>true
def S.chk (P:Program)(N:Nat):Code->S->Bool
  | .skip,.skip=>true
  | .region _ ops draw,.rg ord l _ pk=>Xp8 ops&&if draw then decide (ord.length<=ops.size)&&Region.noSelect ops&&Xcp pk ops&&Xne P N ops (Ybk ord l) (Array.replicate ops.size false) ord l else Wx P N ops ops.toList l
  | .region _ ops draw,.rgT n t _ pk=>Xp8 ops&&draw&&decide (n<=ops.size)&&Region.noSelect ops&&Xcp pk ops&&Up P N ops (Ybl t.kinds) n (Array.replicate ops.size false) t
  | .seq a b,.seq x y=>S.chk P N a x&&S.chk P N b y
  | .cond c a b,.cond d x y=>A.chk c d&&S.chk P N a x&&S.chk P N b y
  | .block n a,.block m x=>n==m&&S.chk P N a x
  | .loop a,.loop _ x=>S.chk P N a x
  | .exit n,.exit m=>n==m
  | .ret,.ret=>true
  | .rangeFunc f qs a c,.rgf _ ps g x y _=>A.chk f g&&((qs.toList==ps)&&ps.all (fun k=>decide (k<N))&&S.chk P N a x&&S.chk P N c y&&x.noR&&y.noR)
  | _,_=>false

def Vm (P:Prg)(tag:Nat)(ps:List Nat)(x y:S):Prop:=∀(qs:Array Nat) (N:Nat) (ca cb:Code),P.g.l tag qs N ca cb↔((qs.toList==ps)&&ps.all (fun k=>decide (k<N))&&S.chk P.p N ca x&&S.chk P.p N cb y&&x.noR&&y.noR)=true
def rgE (Q:Ze)(slk:Xf)(id:Nat)(ob:Xb):Option Ob->Prop
  | some (.lp _ .ready _)=>Q .normal slk (setO ob id .gone)
  | some (.lp _ .ret _)=>Q .ret slk (setO ob id .gone)
  | some (.lp _ (.exit n) _)=>Q (.exit n) slk (setO ob id .gone)
  | _=>False
def rgQ (Q:Ze)(slk:Xf)(id:Nat):Out->Xb->Prop
  | .ret _,ob=>rgE Q slk id ob (Xd ob id)
  | .panic _,_=>False
def rgK (P:Prg)(tag:Nat)(slk:Xf)(ob:Xb)(Q:Ze):V->Prop
  | .fn f fi ca=>Xm P.p f=true/\ACall P f (fi++[.hd true (Xa ob)]++ca) ((Xa ob,.lp tag .ready slk)::ob) (rgQ Q slk (Xa ob))
  | .d (.fn f fi ca)=>Xm P.p f=true/\ACall P f (fi.map .d++[.hd true (Xa ob)]++ca.map .d) ((Xa ob,.lp tag .ready slk)::ob) (rgQ Q slk (Xa ob))
  | _=>False

def cwp (P:Prg):S->Ze->Xf->Xb->Prop
  | .rg _ l keep pk,Q,sl,ob=>rwp P (fun sl ob=>Q .normal (Xk sl keep) ob) (fun v sl ob=>Q (.panic v) (Xk sl pk) ob) l sl ob
  | .rgT _ t keep pk,Q,sl,ob=>owp P (fun sl ob=>Q .normal (Xk sl keep) ob) (fun v sl ob=>Q (.panic v) (Xk sl pk) ob) t sl ob
  | .seq a b,Q,sl,ob=>cwp P a (W3 (cwp P b Q) Q) sl ob
  | .skip,Q,sl,ob=>Q .normal sl ob
  | .cond c a b,Q,sl,ob=>Xa9 (cwp P a Q sl ob) (cwp P b Q sl ob) (c.ev sl)
  | .block n a,Q,sl,ob=>cwp P a (Y3 n Q) sl ob
  | .loop keep a,Q,sl,ob=>ALoop keep (cwp P a) Q sl ob
  | .exit n,Q,sl,ob=>Q (.exit n) sl ob
  | .ret,Q,sl,ob=>Q .ret sl ob
  | .rgf tag ps g x y keep,Q,sl,ob=>Vm P tag ps x y/\rgK P tag (Xk sl keep) ob Q (g.ev sl)


structure Ctx where
  w0:World
  ex:Nat->Prop
  N:Nat
  df:List Deferred
  g:Gl
  m0:Nat->Option RO
  ev:List (V×Value)
  mrk:Bool:=false

def Env.del (ρ:Env)(ids:Nat->Bool):Env:=⟨fun j=>if ids j then none else ρ.m j,ρ.xo,ρ.gl⟩
def mkD (r:Nat):Deferred:={ target:=.collected r,args:=#[] }
def Dfr (c:Ctx)(w:World)(ρ:Env)(ds:List Deferred):Prop:=
  ∃ms:List Nat,ds=ms.map mkD++c.df/\(c.mrk=false->ms=[])/\ms.Nodup/\∀r∈ms,c.w0.heap.size<=r/\w.heap[r]? = some (.deferred (some []))/\¬Xcf ρ r
theorem Dfr.tr {c:Ctx}{w w':World}{ρ ρ':Env}{ds:List Deferred}(h:Dfr c w ρ ds)(t:Tr w ρ w' ρ'):Dfr c w' ρ' ds:=by
  obtain⟨ms,h1,h2,h3,h4⟩:=h;refine⟨ms,h1,h2,h3,fun r hr=>?_⟩;obtain⟨g1,g2,g3⟩:=h4 r hr;have hlt:r<w.heap.size:=Xj g2;exact⟨g1,(t.keep r g3 hlt).trans g2,fun h=>(t.owns r h).elim g3 (fun h=>by omega)⟩
theorem Dfr.put {c:Ctx}{w:World}{ρ:Env}{a a':Act}(h:Dfr c w ρ a.defers)(e:a'.defers=a.defers):Dfr c w ρ a'.defers:=by rw[e]; exact h
theorem Dfr.del {c:Ctx}{w:World}{ρ:Env}{ds:List Deferred}{ids:Nat->Bool}(h:Dfr c w ρ ds)(hd:∀b,Xcf (ρ.del ids) b->Xcf ρ b):Dfr c w (ρ.del ids) ds:=by
  obtain⟨ms,h1,h2,h3,h4⟩:=h;exact⟨ms,h1,h2,h3,fun r hr=>⟨(h4 r hr).1,(h4 r hr).2.1,fun h=>(h4 r hr).2.2 (hd r h)⟩⟩
theorem Dfr.nil {c:Ctx}{w:World}{ρ:Env}:Dfr c w ρ c.df:=⟨[],rfl,fun _=>rfl,List.nodup_nil,fun _ h=>by cases h⟩
theorem Dfr.eq {c:Ctx}{w:World}{ρ:Env}{ds:List Deferred}(h:Dfr c w ρ ds)(hm:c.mrk=false):ds=c.df:=by
  obtain⟨ms,h1,h2,_⟩:=h;rw[h1,h2 hm]; rfl

structure Base (c:Ctx)(w:World)(ρ:Env):Prop where
  size:c.w0.heap.size<=w.heap.size
  keep:∀b,b<c.w0.heap.size->¬c.ex b->w.heap[b]? = c.w0.heap[b]?
  owns:∀b,Xcf ρ b->c.w0.heap.size<=b\/c.ex b
  tape:w.tape=c.w0.tape
  os:w.os=c.w0.os
  out:w.output=c.w0.output
  same:∀id o,c.m0 id=some o->∃o',ρ.m id=some o'/\o.le o'
  ext:∀p∈c.ev,p.1.rep w ρ p.2
  drawn:c.w0.drawn<=w.drawn

theorem Base.tr {c:Ctx}{w w':World}{ρ ρ':Env}(h:Base c w ρ)(t:Tr w ρ w' ρ'):Base c w' ρ':=by
  refine⟨Ual h.size t.size,fun b h1 h2=>?_,fun b h1=>?_,t.tape.trans h.tape,t.os.trans h.os,t.out.trans h.out,fun id o h1=>?_,fun p hp=>Raw t (h.ext p hp),Ual h.drawn t.drawn⟩
  · refine (t.keep b (fun h3=>?_) (Uaz h1 h.size)).trans (h.keep b h1 h2)
    exact (h.owns b h3).elim (fun h=>by omega) h2
  · rcases t.owns b h1 with h3 | h3
    · exact h.owns b h3
    · exact .inl (Ual h.size h3)
  · obtain⟨o',h2,h3⟩:=h.same id o h1
    obtain⟨o'',h4,h5⟩:=t.same id o' h2;exact⟨o'',h4,h3.trans h5⟩

structure Mod (c:Ctx)(xo:Nat->Prop)(ρ:Env)(sl:Xf)(ob:Xb)(a:Act)(w:World):Prop where
  base:Base c w ρ
  om:OM w ρ ob
  sm:SM w ρ sl a
  size:a.tmps.size=c.N
  df:Dfr c w ρ a.defers
  xo:ρ.xo=xo
  gl:ρ.gl=c.g

def exM (w:World)(ρ:Env):Exit->AExit->Prop
  | .normal,.normal=>True
  | .exit n,.exit m=>n=m
  | .ret,.ret=>True
  | .panic ch,.panic v=>∃u,ch=[{ v:=u,recovered:=false }]/\v.rep w ρ u
  | _,_=>False

def lift (c:Ctx)(xo:Nat->Prop)(Q:Ze):Exit->Act->World->Prop:=
  fun e a w=>∃ae sl ob ρ,Q ae sl ob/\exM w ρ e ae/\Mod c xo ρ sl ob a w

theorem Xp {w:World}{ρ:Env}{sl:Xf}{a:Act}{d:Option Nat}{x:V}{v:Value}{N:Nat}{o:Option Nat}(hd:Xbb N o d=true)(hN:a.tmps.size=N)(hs:SM w ρ sl a)(hx:x.rep w ρ v) :
    SM w ρ (put sl d x) (a.put o v)/\(a.put o v).tmps.size=N/\(a.put o v).defers=a.defers:=by
  cases o with
  | none=>
    cases d with
    | none=>exact⟨hs,hN,rfl⟩
    | some j=>simp[Xbb]at hd
  | some k=>
    cases d with
    | none=>simp[Xbb]at hd
    | some j=>
      simp only[Xbb,Uai,Ubn,Ubp]at hd;obtain⟨rfl,hk⟩:=hd;refine⟨fun i=>?_,by simpa[Act.put]using hN,rfl⟩;simp only[put,look,Act.put];split
      · rename_i e; subst e
        have:k<a.tmps.size:=by omega
        simpa[this]using hx
      · rename_i e
        have:=hs i;simpa[Ubx,e]using this

theorem Xmv {ops:Array Oper}{a:Act}{j s:Nat}{o':Oper}{b:Bool}(h1:ops[j]? = some o')(h2:o'.dst=some s)(h3:a.tmps.getD s undef=.bool b):yielded ops a.tmps j=some b:=by
  have hs:s<a.tmps.size:=by
    rcases Uaa s a.tmps.size with h | h
    · exact h
    · simp[Array.getD,Nat.not_lt.2 h,undef]at h3
  simp only[Array.getD,hs,dif_pos]at h3;have:a.tmps[s]? = some (.bool b):=by rw[Uce hs]; exact Ua4 some h3
  simp[yielded,h1,h2,this]

theorem Xjh {ops:Array Oper}{a:Act}{j s:Nat}{o':Oper}(h1:ops[j]? = some o')(h2:o'.dst=some s)(h3:a.tmps.getD s undef=undef):yielded ops a.tmps j=none:=by
  rcases Uaa s a.tmps.size with hs | hs
  · simp only[Array.getD,hs,dif_pos]at h3
    have:a.tmps[s]? = some (.tuple #[]):=by rw[Uce hs]; exact Ua4 some h3
    simp[yielded,h1,h2,this]
  · have:a.tmps[s]? = none:=Uab hs
    simp[yielded,h1,h2,this]

theorem Wb {w:World}{ρ:Env}{sl:Xf}{a:Act}{ops:Array Oper}{o:Oper}{s:Nat}{want:Bool}{Y N:Xf->Prop}(hs:SM w ρ sl a)
    (hg:(match o.guard with | some (j,b)=>b==want&&(match ops[j]? with | some o'=>o'.dst==some s | none=>false) | none=>false)=true)
    (h:gdK s want sl Y N (look sl s)) :
    (Region.wanted o (yielded ops a.tmps)=true/\∃sl',SM w ρ sl' a/\Y sl')\/(Region.wanted o (yielded ops a.tmps)=false/\∃sl',SM w ρ sl' a/\N sl'):=by
  split at hg
  · rename_i j b hj
    simp only[Uai,Ubn]at hg;obtain⟨rfl,hg⟩:=hg;split at hg
    · rename_i o' ho
      have hd:o'.dst=some s:=by simpa using hg
      have hv:=hs s;have key:∀c:Bool,a.tmps.getD s undef=.bool c->SM w ρ ((s,.d (.bool c))::sl) a:=fun c hc k=>by
        simp only[look];split
        · rename_i e; subst e; rw[hc]; exact rep_bool.2 rfl
        · exact hs k
      unfold gdK at h;split at h
      · rename_i c e
        rw[e,rep_bool]at hv;have hy:=Xmv (a:=a) ho hd hv;by_cases hcb:c=b
        · subst hcb
          exact .inl ⟨by simp[Region.wanted,hj,hy],_,key c hv,h.1 rfl⟩
        · have hcn:c=!b:=by cases c<;>cases b<;>simp_all
          subst hcn;exact .inr ⟨by simp[Region.wanted,hj,hy],_,key _ hv,h.2 rfl⟩
      · rename_i e
        rw[e,Zc]at hv;have hy:=Xjh (a:=a) ho hd hv;exact .inr ⟨by simp[Region.wanted,hj,hy],_,hs,h⟩
      · exact h.elim
    · simp at hg
  · simp at hg

theorem Xbf {P:Prg}{c:Ctx}(hg:P.g=c.g){xo:Nat->Prop}{ops:Array Oper}{Q:Exit->Act->World->Prop}{K:Xf->Xb->Prop}{Pn:V->Xf->Xb->Prop}
    (hK:∀sl ob ρ a w,K sl ob->Mod c xo ρ sl ob a w->Q .normal a w)
    (hP:∀v sl ob ρ a w u,Pn v sl ob->Mod c xo ρ sl ob a w->v.rep w ρ u->Q (.panic [{ v:=u,recovered:=false }]) a w) :
    ∀(l:List Oper) (its:List It) (sl:Xf) (ob:Xb) (ρ:Env) (a:Act) (w:World),Wx P.p c.N ops l its=true->rwp P K Pn its sl ob->Mod c xo ρ sl ob a w->Ul P.p ops Q l a w
  | [],[],sl,ob,ρ,a,w,_,h,m=>by simp only[Ul]; exact hK sl ob ρ a w h m
  | o::r,i::s,sl,ob,ρ,a,w,hc,h,m=>by
    simp only[Wx,Uai]at hc;obtain⟨h1,h2⟩:=hc;have step:∀(d:Option Nat) (x:I) (sl:Xf),SM w ρ sl a->Xbb c.N o.dst d=true->x.chk P.p o.op=true->x.wp P sl ob (fun v ob'=>rwp P K Pn s (put sl d v) ob') (fun v ob'=>Pn v sl ob')->wpA P.p o a w (Ul P.p ops Q r) Q:=by
      intro d x sl hs hd hx hw;refine I.sound (m.gl.trans hg.symm) hs m.om hx hw o rfl _ _ (fun v y ob' w' ρ' hk hr ho t=>?_) (fun u y ob' w' ρ' hk hr ho t=>?_)
      · obtain⟨g1,g2,g3⟩:=Xp hd m.size (hs.tr t) hr
        exact Xbf hg hK hP r s _ ob' ρ' _ w' h2 hk ⟨m.base.tr t,ho,g1,g2,(m.df.tr t).put g3,t.xo.trans m.xo,t.gl.trans m.gl⟩
      · exact hP y sl ob' ρ' a w' u hk ⟨m.base.tr t,ho,hs.tr t,m.size,m.df.tr t,t.xo.trans m.xo,t.gl.trans m.gl⟩ hr
    cases i with
    | op d x=>
      simp only[It.chk,Uai,Ucf]at h1;simp only[rwp]at h;simp only[Ul,Region.wanted,h1.1.2,Ubb];exact step d x sl m.sm h1.1.1 h1.2 h
    | gop g want d x=>
      simp only[It.chk,Uai]at h1;simp only[rwp]at h;simp only[Ul];rcases Wb (ops:=ops) m.sm h1.1.2 h with⟨hw,sl',hs,h⟩ | ⟨hw,sl',hs,h⟩
      · rw[Uby hw]
        exact step d x sl' hs h1.1.1 h1.2 h
      · rw[hw]
        simp only[Uah,Uay];obtain⟨g1,g2,g3⟩:=Xp h1.1.1 m.size hs (Zc.2 rfl);exact Xbf hg hK hP r s _ ob ρ _ w h2 h ⟨m.base,m.om,g1,g2,m.df.put g3,m.xo,m.gl⟩
  | [],_::_,_,_,_,_,_,hc,_,_=>by simp[Wx]at hc
  | _::_,[],_,_,_,_,_,hc,_,_=>by simp[Wx]at hc

theorem SM.keep {w:World}{ρ:Env}{sl:Xf}{a:Act}(hs:SM w ρ sl a)(l:List Nat):SM w ρ (Xk sl l) a:=by
  intro k;induction l with
  | nil=>exact Jp
  | cons j r ih=>
    simp only[Xk,look];split
    · rename_i e; subst e; exact hs j
    · exact ih


theorem Wi {ρ:Env}{ids:Nat->Bool}{b:Nat}(h:Xcf (ρ.del ids) b):Xcf ρ b:=by
  obtain⟨j,o,h1,h2⟩:=h;simp only[Env.del]at h1;split at h1
  · cases h1
  · exact⟨j,o,h1,h2⟩

theorem Xg2 (w:World)(ρ:Env)(ids:Nat->Bool):Xji w (own ρ) w (own (ρ.del ids)):=fun _ h _=>
  ⟨rfl,fun h'=>h (h'.elim (fun h=>.inl (Wi h)) .inr)⟩

mutual
theorem Rb9 {w:World}{ρ:Env}{ids:Nat->Bool}:∀(x:V) (cs:List Value),V.men ids x=false->x.repC w ρ cs->x.repC w (ρ.del ids) cs
  | .d x,cs,_,h=>by simp only[V.repC]at h⊢; exact Rad (Xg2 w ρ ids) x cs h
  | .ptr id p,cs,hm,h=>by
    simp only[V.repC]at h⊢;simp only[V.men]at hm;rcases h with⟨b,sh,h1,h2⟩ | ⟨h1,h2⟩
    · exact .inl ⟨b,sh,by simp only[Env.del,hm]; exact h1,h2⟩
    · exact .inr ⟨by simp only[Env.del,hm]; exact h1,h2⟩
  | .sl id n,cs,hm,h=>by
    simp only[V.repC]at h⊢;simp only[V.men]at hm;obtain⟨o,u,h1,h2⟩:=h;exact⟨o,u,by simp only[Env.del,hm]; exact h1,h2⟩
  | .sd id n,cs,hm,h=>by
    simp only[V.repC]at h⊢;simp only[V.men]at hm;obtain⟨o,u,h1,h2⟩:=h;exact⟨o,u,by simp only[Env.del,hm]; exact h1,h2⟩
  | .mp id,cs,hm,h=>by
    simp only[V.repC]at h⊢;simp only[V.men]at hm;rcases h with⟨b,h1,h2⟩ | ⟨h1,h2⟩
    · exact .inl ⟨b,by simp only[Env.del,hm]; exact h1,h2⟩
    · exact .inr ⟨by simp only[Env.del,hm]; exact h1,h2⟩
  | .hd y id,cs,hm,h=>by
    simp only[V.repC]at h⊢;simp only[V.men]at hm;rcases h with⟨b,h1,h2⟩ | ⟨h1,h2⟩
    · exact .inl ⟨b,by simp only[Env.del,hm]; exact h1,h2⟩
    · exact .inr ⟨by simp only[Env.del,hm]; exact h1,h2⟩
  | .bs id p lo n,cs,hm,h=>by
    simp only[V.repC]at h⊢;simp only[V.men]at hm;rcases h with⟨b,sh,cap,f,h1,h2⟩ | ⟨h1,h2⟩
    · exact .inl ⟨b,sh,cap,f,by simp only[Env.del,hm]; exact h1,h2⟩
    · exact .inr ⟨by simp only[Env.del,hm]; exact h1,h2⟩
  | .ep id n z i f p,cs,hm,h=>by
    simp only[V.repC]at h⊢;simp only[V.men]at hm;obtain⟨o,u,h1,h2⟩:=h;exact⟨o,u,by simp only[Env.del,hm]; exact h1,h2⟩
  | .fn f fi ca,cs,hm,h=>by
    simp only[V.repC]at h⊢;simp only[V.men,Ucb]at hm;obtain⟨fs,gs,e,h1,h2⟩:=h;exact⟨fs,gs,e,Rcb fi fs hm.1 h1,Rcb ca gs hm.2 h2⟩
  | .agg xs,cs,hm,h=>by
    simp only[V.repC]at h⊢;simp only[V.men]at hm;exact Rca xs cs hm h
  | .iface ty x,cs,hm,h=>by
    simp only[V.repC]at h⊢;simp only[V.men]at hm;obtain⟨u,e,h1⟩:=h;refine⟨u,e,?_⟩;rcases h1 with h1 | ⟨p,ds,q,r⟩ | ⟨p,r⟩
    · exact .inl h1
    · exact .inr (.inl ⟨p,ds,q,Rb9 x ds hm r⟩)
    · exact .inr (.inr ⟨p,Rb9 x _ hm r⟩)
  | .tup xs,cs,hm,h=>by
    simp only[V.repC]at h⊢;simp only[V.men]at hm;obtain⟨vs,e,h1⟩:=h;exact⟨vs,e,Rcb xs vs hm h1⟩
  | .undef,cs,_,h=>by simpa only[V.repC]using h
  | .any,cs,_,h=>by simpa only[V.repC]using h
theorem Rca {w:World}{ρ:Env}{ids:Nat->Bool}:∀(xs:List V) (cs:List Value),Rb8 ids xs=false->Rap w ρ xs cs->Rap w (ρ.del ids) xs cs
  | [],cs,_,h=>by simpa only[Rap]using h
  | x::r,cs,hm,h=>by
    simp only[Rap]at h⊢;simp only[Rb8,Ucb]at hm;obtain⟨c1,c2,e,h1,h2⟩:=h;exact⟨c1,c2,e,Rb9 x c1 hm.1 h1,Rca r c2 hm.2 h2⟩
theorem Rcb {w:World}{ρ:Env}{ids:Nat->Bool}:∀(xs:List V) (vs:List Value),Rb8 ids xs=false->V.reps w ρ xs vs->V.reps w (ρ.del ids) xs vs
  | [],vs,_,h=>by simpa only[V.reps]using h
  | x::r,vs,hm,h=>by
    simp only[V.reps]at h⊢;simp only[Rb8,Ucb]at hm;obtain⟨u,us,e,h1,h2⟩:=h;refine⟨u,us,e,?_,Rcb r us hm.2 h2⟩;rcases h1 with h1 | ⟨p,ds,q,r⟩ | ⟨p,r⟩
    · exact .inl h1
    · exact .inr (.inl ⟨p,ds,q,Rb9 x ds hm.1 r⟩)
    · exact .inr (.inr ⟨p,Rb9 x _ hm.1 r⟩)
end

theorem Rcc {w:World}{ρ:Env}{ids:Nat->Bool}{x:V}{u:Value}(hm:V.men ids x=false)(h:x.rep w ρ u):x.rep w (ρ.del ids) u:=by
  rcases h with h1 | ⟨p,ds,q,r⟩ | ⟨p,r⟩
  · exact .inl h1
  · exact .inr (.inl ⟨p,ds,q,Rb9 x ds hm r⟩)
  · exact .inr (.inr ⟨p,Rb9 x _ hm r⟩)

theorem Yb.del {w:World}{ρ:Env}{ids:Nat->Bool}:∀(l:List (D×V)) (es:List MapEntry),Jk ids l=false->Yb w ρ l es->Yb w (ρ.del ids) l es
  | [],es,_,h=>h
  | (k,v)::r,es,hm,h=>by
    simp only[Jk,Ucb]at hm;obtain⟨e,es',h1,h2,h3,h4⟩:=h;exact⟨e,es',h1,h2,Rcc hm.1 h3,Yb.del r es' hm.2 h4⟩

theorem V4 {ids:Nat->Bool}:∀(ob:Xb) (j:Nat),Xd (Y2 ids ob) j=if ids j then none else Xd ob j
  | [],j=>by simp[Y2,Xd]
  | (k,x)::r,j=>by
    simp only[Y2];split
    · rename_i h
      rw[V4 r j];simp only[Xd];by_cases e:k=j
      · subst e; rw[Uby h,Uby h]
      · simp[e]
    · rename_i h
      simp only[Xd,V4 r j];by_cases e:k=j
      · subst e; rw[Uby rfl,Ubo h,Uby rfl]
      · simp[e]

theorem Xm6.drop {ids:Nat->Bool}:∀{ob:Xb},Xm6 ob->Xm6 (Y2 ids ob)
  | [],h=>h
  | (k,x)::r,h=>by
    simp only[Y2];split
    · exact Xm6.drop h.2
    · refine⟨?_,Xm6.drop h.2⟩
      rw[V4,h.1]; split<;>rfl

theorem Za {ids:Nat->Bool}:∀(ob:Xb) (j E:Nat) (t:V),Xh ids ob=true->Xd ob j=some (.box E t)->V.men ids t=false
  | [],j,E,t,_,h=>by simp[Xd]at h
  | (k,x)::r,j,E,t,hm,h=>by
    simp only[Xd]at h;split at h
    · simp at h; subst h
      simp only[Xh,Uai]at hm;simpa using hm.1
    · cases x with
      | box _ y=>simp only[Xh,Uai]at hm; exact Za r j E t hm.2 h
      | vec _ _ y=>simp only[Xh,Uai]at hm; exact Za r j E t hm.2 h
      | map y=>simp only[Xh,Uai]at hm; exact Za r j E t hm.2 h
      | arr _ z xs=>simp only[Xh]at hm; exact Za r j E t hm h
      | gone=>simp only[Xh]at hm; exact Za r j E t hm h
      | lp _ _ _=>simp only[Xh,Uai]at hm; exact Za r j E t hm.2 h
      | it m _ _=>simp only[Xh,Uai]at hm; exact Za r j E t hm.2 h
theorem Zu {ids:Nat->Bool}:∀(ob:Xb) (j E sz:Nat) (t:List V),Xh ids ob=true->Xd ob j=some (.vec E sz t)->Rb8 ids t=false
  | [],j,E,sz,t,_,h=>by simp[Xd]at h
  | (k,x)::r,j,E,sz,t,hm,h=>by
    simp only[Xd]at h;split at h
    · simp at h; subst h
      simp only[Xh,Uai]at hm;simpa using hm.1
    · cases x with
      | box _ y=>simp only[Xh,Uai]at hm; exact Zu r j E sz t hm.2 h
      | vec _ _ y=>simp only[Xh,Uai]at hm; exact Zu r j E sz t hm.2 h
      | map y=>simp only[Xh,Uai]at hm; exact Zu r j E sz t hm.2 h
      | arr _ z xs=>simp only[Xh]at hm; exact Zu r j E sz t hm h
      | gone=>simp only[Xh]at hm; exact Zu r j E sz t hm h
      | lp _ _ _=>simp only[Xh,Uai]at hm; exact Zu r j E sz t hm.2 h
      | it m _ _=>simp only[Xh,Uai]at hm; exact Zu r j E sz t hm.2 h
theorem Zt {ids:Nat->Bool}:∀(ob:Xb) (j:Nat) (t:List (D×V)),Xh ids ob=true->Xd ob j=some (.map t)->Jk ids t=false
  | [],j,t,_,h=>by simp[Xd]at h
  | (k,x)::r,j,t,hm,h=>by
    simp only[Xd]at h;split at h
    · simp at h; subst h
      simp only[Xh,Uai]at hm;simpa using hm.1
    · cases x with
      | box _ y=>simp only[Xh,Uai]at hm; exact Zt r j t hm.2 h
      | vec _ _ y=>simp only[Xh,Uai]at hm; exact Zt r j t hm.2 h
      | map y=>simp only[Xh,Uai]at hm; exact Zt r j t hm.2 h
      | arr _ z xs=>simp only[Xh]at hm; exact Zt r j t hm h
      | gone=>simp only[Xh]at hm; exact Zt r j t hm h
      | lp _ _ _=>simp only[Xh,Uai]at hm; exact Zt r j t hm.2 h
      | it m _ _=>simp only[Xh,Uai]at hm; exact Zt r j t hm.2 h

theorem Xlz {ids:Nat->Bool}:∀(ob:Xb) (j tag:Nat) (st:LSt) (t:Xf),Xh ids ob=true->Xd ob j=some (.lp tag st t)->Wo ids t=true
  | [],j,tag,st,t,_,h=>by simp[Xd]at h
  | (k,x)::r,j,tag,st,t,hm,h=>by
    simp only[Xd]at h;split at h
    · simp at h; subst h
      simp only[Xh,Uai]at hm;simpa using hm.1
    · refine Xlz r j tag st t ?_ h
      cases x with
      | box _ y=>simp only[Xh,Uai]at hm; exact hm.2
      | vec _ _ y=>simp only[Xh,Uai]at hm; exact hm.2
      | map y=>simp only[Xh,Uai]at hm; exact hm.2
      | arr _ z xs=>simp only[Xh]at hm; exact hm
      | gone=>simp only[Xh]at hm; exact hm
      | lp _ _ _=>simp only[Xh,Uai]at hm; exact hm.2
      | it m _ _=>simp only[Xh,Uai]at hm; exact hm.2
theorem Xly {ids:Nat->Bool}:∀(ob:Xb) (j i n:Nat) (t:List Nat),Xh ids ob=true->Xd ob j=some (.it (some i) n t)->ids i=false
  | [],j,i,n,t,_,h=>by simp[Xd]at h
  | (k,x)::r,j,i,n,t,hm,h=>by
    simp only[Xd]at h;split at h
    · simp at h; subst h
      simp only[Xh,Uai]at hm;simpa[Xaj]using hm.1
    · refine Xly r j i n t ?_ h
      cases x with
      | box _ y=>simp only[Xh,Uai]at hm; exact hm.2
      | vec _ _ y=>simp only[Xh,Uai]at hm; exact hm.2
      | map y=>simp only[Xh,Uai]at hm; exact hm.2
      | arr _ z xs=>simp only[Xh]at hm; exact hm
      | gone=>simp only[Xh]at hm; exact hm
      | lp _ _ _=>simp only[Xh,Uai]at hm; exact hm.2
      | it m _ _=>simp only[Xh,Uai]at hm; exact hm.2
theorem Xbh {ids:Nat->Bool}:∀(sl:Xf),Wo ids sl=true->∀p∈sl,V.men ids p.2=false
  | [],_,p,h=>by cases h
  | (j,v)::r,hm,p,h=>by
    simp only[Wo,Uai,Ubq]at hm;rcases Uax.1 h with rfl | h
    · exact hm.1
    · exact Xbh r hm.2 p h
theorem Xd5 {ids:Nat->Bool}:∀(sl:Xf) (k:Nat),Wo ids sl=true->V.men ids (look sl k)=false
  | [],k,_=>by simp[look,V.men]
  | (j,v)::r,k,hm=>by
    simp only[Wo,Uai]at hm;simp only[look];split
    · simpa using hm.1
    · exact Xd5 r k hm.2

theorem OM.del {w:World}{ρ:Env}{ob:Xb}{ids:Nat->Bool}(h:OM w ρ ob)(hm:Xh ids (Y2 ids ob)=true):OM w (ρ.del ids) (Y2 ids ob):=by
  refine⟨fun j x hx=>?_,fun j o hj=>?_,fun i j o p b h1 h2 h3 h4=>?_,h.xlt,fun b o hb=>⟨(h.glb b o hb).1,(Xg2 w ρ ids b (h.glb b o hb).2 (Xj (h.glb b o hb).1)).2⟩,fun b hb=>h.xdis b (Wi hb),Xm6.drop h.once⟩
  · have hx0:=hx
    rw[V4]at hx;split at hx
    · cases hx
    · rename_i hn
      have h1:=h.one j x hx;cases x with
      | box E t=>
        obtain⟨b,cs,g1,g2,g3⟩:=h1;exact⟨b,cs,by simp only[Env.del,hn]; exact g1,g2,Rb9 t cs (Za _ j E t hm hx0) g3⟩
      | gone=>exact (by simp only[Env.del,hn]; exact h1:(ρ.del ids).m j=some .gone)
      | arr E sz xs=>
        rcases h1 with⟨g1,g2⟩ | ⟨b,cap,cs,sp,g1,g2,g3,g4⟩
        · exact .inl ⟨by simp only[Env.del,hn]; exact g1,g2⟩
        · exact .inr ⟨b,cap,cs,sp,by simp only[Env.del,hn]; exact g1,g2,Raf (Xg2 w ρ ids) _ _ g3,g4⟩
      | vec E sz xs=>
        rcases h1 with⟨g1,g2⟩ | ⟨b,cap,cs,sp,g1,g2,g3,g4⟩
        · exact .inl ⟨by simp only[Env.del,hn]; exact g1,g2⟩
        · exact .inr ⟨b,cap,cs,sp,by simp only[Env.del,hn]; exact g1,g2,Rca xs cs (Zu _ j E sz xs hm hx0) g3,g4⟩
      | map es=>
        obtain⟨b,l,clk,g1,g2,g3,g4⟩:=h1;exact⟨b,l,clk,by simp only[Env.del,hn]; exact g1,g2,Yb.del es l (Zt _ j es hm hx0) g3,g4⟩
      | lp tag st t=>
        obtain⟨b,fn,tm,dd,ps,ca,cb,g1,g2,g3,g4⟩:=h1;exact⟨b,fn,tm,dd,ps,ca,cb,by simp only[Env.del,hn]; exact g1,g2,g3,fun p hp=>Rcc (Xbh t (Xlz _ j tag st t hm hx0) p hp) (g4 p hp)⟩
      | it m n t=>
        cases m with
        | none=>obtain⟨b,g1,g2⟩:=h1; exact⟨b,by simp only[Env.del,hn]; exact g1,g2⟩
        | some i=>
          obtain⟨b,mb,g1,g2,g3⟩:=h1;have hi:=Xly _ j i n t hm hx0;exact⟨b,mb,by simp only[Env.del,hn]; exact g1,by simp only[Env.del,hi]; exact g2,g3⟩
  · simp only[Env.del]at hj
    rw[V4];split at hj
    · cases hj
    · rename_i hn
      rw[Ubo hn];exact h.dom j o hj
  · simp only[Env.del]at h1 h2
    split at h1
    · cases h1
    · split at h2
      · cases h2
      · exact h.inj i j o p b h1 h2 h3 h4

section
variable {w:World} {ρ:Env}
mutual
theorem Rcd {ids:Nat->Bool}(hd:∀id o,ρ.m id=some o->ids id=false):∀(v:V) (cs:List Value),v.repC w ρ cs->V.men ids v=false
  | .d _,_,_=>rfl
  | .ptr id p,cs,h=>by
    simp only[V.repC]at h;simp only[V.men];rcases h with⟨_,_,h,_⟩ | ⟨h,_⟩<;>exact hd _ _ h
  | .sl id n,cs,h=>by simp only[V.repC]at h; obtain⟨_,_,h,_⟩:=h; exact hd _ _ h
  | .sd id n,cs,h=>by simp only[V.repC]at h; obtain⟨_,_,h,_⟩:=h; exact hd _ _ h
  | .mp id,cs,h=>by
    simp only[V.repC]at h;simp only[V.men];rcases h with⟨_,h,_⟩ | ⟨h,_⟩<;>exact hd _ _ h
  | .hd y id,cs,h=>by
    simp only[V.repC]at h;simp only[V.men];rcases h with⟨_,h,_⟩ | ⟨h,_⟩<;>exact hd _ _ h
  | .bs id p lo n,cs,h=>by
    simp only[V.repC]at h;simp only[V.men];rcases h with⟨_,_,_,_,h,_⟩ | ⟨h,_⟩<;>exact hd _ _ h
  | .ep id n z i f p,cs,h=>by simp only[V.repC]at h; obtain⟨_,_,h,_⟩:=h; exact hd _ _ h
  | .fn f fi ca,cs,h=>by
    simp only[V.repC]at h;obtain⟨fs,gs,_,h1,h2⟩:=h;simp only[V.men,Rcf hd fi fs h1,Rcf hd ca gs h2,Bool.or_self]
  | .agg xs,cs,h=>by simp only[V.repC]at h; simp only[V.men]; exact Rce hd xs cs h
  | .iface t x,cs,h=>by
    simp only[V.repC]at h;obtain⟨u,_,h⟩:=h;simp only[V.men];rcases h with h | ⟨_,ds,_,h⟩ | ⟨_,h⟩
    · subst h; rfl
    · exact Rcd hd x ds h
    · exact Rcd hd x _ h
  | .tup xs,cs,h=>by simp only[V.repC]at h; obtain⟨vs,_,h⟩:=h; simp only[V.men]; exact Rcf hd xs vs h
  | .undef,_,_=>rfl
  | .any,_,_=>rfl
theorem Rce {ids:Nat->Bool}(hd:∀id o,ρ.m id=some o->ids id=false):∀(xs:List V) (cs:List Value),Rap w ρ xs cs->Rb8 ids xs=false
  | [],_,_=>rfl
  | x::r,cs,h=>by
    simp only[Rap]at h;obtain⟨c1,c2,_,h1,h2⟩:=h;simp only[Rb8,Rcd hd x c1 h1,Rce hd r c2 h2,Bool.or_self]
theorem Rcf {ids:Nat->Bool}(hd:∀id o,ρ.m id=some o->ids id=false):∀(xs:List V) (vs:List Value),V.reps w ρ xs vs->Rb8 ids xs=false
  | [],_,_=>rfl
  | x::r,vs,h=>by
    simp only[V.reps]at h;obtain⟨u,us,_,h1,h2⟩:=h;have:V.men ids x=false:=by
      rcases h1 with h | ⟨_,ds,_,h⟩ | ⟨_,h⟩
      · subst h; rfl
      · exact Rcd hd x ds h
      · exact Rcd hd x _ h
    simp only[Rb8,this,Rcf hd r us h2,Bool.or_self]
end
theorem Rcg {ids:Nat->Bool}(hd:∀id o,ρ.m id=some o->ids id=false){v:V}{u:Value}(h:v.rep w ρ u):V.men ids v=false:=by
  rcases h with h | ⟨_,ds,_,h⟩ | ⟨_,h⟩
  · subst h; rfl
  · exact Rcd hd v ds h
  · exact Rcd hd v _ h
end

theorem Mod.sub {c:Ctx}{xo:Nat->Prop}{ρ:Env}{sl:Xf}{ob:Xb}{a:Act}{w:World}{keep:List Nat}{drp:Nat->Bool}(m:Mod c xo ρ sl ob a w)(hd:∀id o,c.m0 id=some o->drp id=false)(hv:∀p∈c.ev,V.men drp p.1=false)
    (h1:Wo drp (Xk sl keep)=true) (h2:Xh drp (Y2 drp ob)=true):Mod c xo (ρ.del drp) (Xk sl keep) (Y2 drp ob) a w:=
  ⟨⟨m.base.size,m.base.keep,fun b hb=>m.base.owns b (Wi hb),m.base.tape,m.base.os,m.base.out,fun id o h=>(m.base.same id o h).elim fun o' q=>⟨o',by simp only[Env.del,hd id o h]; exact q.1,q.2⟩,fun p hp=>Rcc (hv p hp) (m.base.ext p hp),m.base.drawn⟩,m.om.del h2,fun k=>Rcc (Xd5 _ k h1) (m.sm.keep keep k),m.size,m.df.del fun _=>Wi,m.xo,m.gl⟩

def Xc5 (c:Ctx)(xo:Nat->Prop)(pk:List Nat)(Q:Ze)(ch:List PanicEntry)(a:Act)(w:World):Prop:=
  ∃v sl ob ρ u,Q (.panic v) (Xk sl pk) ob/\ch=[{ v:=u,recovered:=false }]/\v.rep w ρ u/\Mod c xo ρ (Xk sl pk) ob a w

theorem Xlp (sl:Xf):∀(pk:List Nat) (k:Nat),k∉pk->look (Xk sl pk) k=.any
  | [],k,_=>by simp[Xk,look]
  | j::r,k,h=>by
    simp only[Xk,look];have:j ≠ k:=fun e=>h (by simp[e]);rw[Ubo this];exact Xlp sl r k (fun h'=>h (by simp[h']))

theorem Xl8 {c:Ctx}{xo:Nat->Prop}{pk:List Nat}{Q:Ze}{ch:List PanicEntry}{a:Act}{w:World}{d:Option Nat}{v:Value}(hd:∀k,d=some k->k∉pk)(h:Xc5 c xo pk Q ch (a.put d v) w):Xc5 c xo pk Q ch a w:=by
  obtain⟨x,sl,ob,ρ,u,h1,h2,h3,m⟩:=h;refine⟨x,sl,ob,ρ,u,h1,h2,h3,m.base,m.om,fun k=>?_,?_,?_,m.xo,m.gl⟩
  · by_cases hk:k∈pk
    · have:=m.sm k
      cases d with
      | none=>exact this
      | some j=>
        have hne:j ≠ k:=fun e=>hd j rfl (e▸hk);simpa[Act.put,Ubx,hne]using this
    · rw[Xlp sl pk k hk]; exact Jp
  · have:=m.size
    cases d<;>simpa[Act.put]using this
  · have:=m.df
    cases d<;>simpa only[Act.put]using this

def FB (B:Nat->Prop)(u v:World):Prop:=∀b,B b->v.heap[b]? = u.heap[b]?
def X56 (B:Nat->Prop)(w:World)(ρ:Env):Prop:=∀b,B b->b<w.heap.size/\¬own ρ b
theorem X56.tr {B:Nat->Prop}{w w':World}{ρ ρ':Env}(h:X56 B w ρ)(t:Tr w ρ w' ρ'):X56 B w' ρ':=fun b hb=>by
  obtain⟨h1,h2⟩:=h b hb;refine⟨Uaz h1 t.size,?_⟩;rintro (h3 | h3)
  · rcases t.owns b h3 with h4 | h4
    · exact h2 (.inl h4)
    · omega
  · exact h2 (.inr (t.xo▸h3))
theorem X56.fb {B:Nat->Prop}{w w':World}{ρ ρ':Env}(h:X56 B w ρ)(t:Tr w ρ w' ρ'):FB B w w':=fun b hb=>t.keep b (fun h3=>(h b hb).2 (.inl h3)) (h b hb).1
theorem FB.refl (B:Nat->Prop)(w:World):FB B w w:=fun _ _=>rfl
theorem FB.trans {B:Nat->Prop}{u v w:World}(h:FB B u v)(h':FB B v w):FB B u w:=fun b hb=>(h' b hb).trans (h b hb)
def RJ (kd:Nat->Nat)(B:Nat->Prop)(j:Nat)(u v:World):Prop:=(kd j ≠ 3->Ext u v)/\FB B u v
theorem Yu {P:Prg}{c:Ctx}(hg:P.g=c.g){xo:Nat->Prop}{ops:Array Oper}{Q:Exit->Act->World->Prop}{QP:Ze}{pk:List Nat}{K:Xf->Xb->Prop}{kd:Nat->Nat}
    (hsel:Region.noSelect ops=true) (hpk:Xcp pk ops=true)
    (hK:∀sl ob ρ a w,K sl ob->Mod c xo ρ sl ob a w->Q .normal a w)
    (hQ:∀ch a w,Q (.panic ch) a w↔Xc5 c xo pk QP ch a w) :
    ∀(ord:List Nat) (its:List It) (B:Nat->Prop) (listed:Array Bool) (sl:Xf) (ob:Xb) (ρ:Env) (a:Act) (w:World),X56 B w ρ->Xne P.p c.N ops kd listed ord its=true->Xbr .any ops listed->
      rwp P K (fun v sl ob=>QP (.panic v) (Xk sl pk) ob) its sl ob->Mod c xo ρ sl ob a w->Wr P.p .any ops Q (RJ kd B) ord.length listed a w
  | [],[],B,listed,sl,ob,ρ,a,w,hB,hc,_,h,m=>by
    simp only[Xne]at hc;simp only[List.length_nil,Wr];exact⟨by simpa using hc,hK sl ob ρ a w h m⟩
  | i::r,x::s,B,listed,sl,ob,ρ,a,w,hB,hc,hcl,h,m=>by
    simp only[Xne,Uai]at hc;obtain⟨⟨⟨⟨hr,hx⟩,hkd⟩,hkind⟩,hrest⟩:=hc;have hr':i∈Region.ready .any ops listed:=by simpa using hr
    cases ho:ops[i]? with
    | none=>simp[ho]at hx
    | some o=>
      simp only[ho]at hx;have hkd':x.kind=kd i:=by simpa using hkd
      have hpko:∀k,o.dst=some k->k∉pk:=by
        intro k hk;have:=Ubt.1 hpk o (by simpa using Ubz ho);simpa[hk]using this
      have hQo:∀v:Value,∀ch a w,Q (.panic ch) (a.put o.dst v) w->Q (.panic ch) a w:=fun v ch a w hq=>(hQ ch a w).2 (Xl8 hpko ((hQ ch _ w).1 hq));have hcl':=hcl.step hr';simp only[List.length_cons]
      -- the operation's state and text,whichever way its guard goes
      have hd:∃(d:Option Nat) (y:I),Xbb c.N o.dst d=true/\y.chk P.p o.op=true/\x.kind=y.kind/\
          ((Region.wanted o (yielded ops a.tmps)=true/\∃sl',SM w ρ sl' a/\y.wp P sl' ob (fun v ob'=>rwp P K (fun v sl ob=>QP (.panic v) (Xk sl pk) ob) s (put sl' d v) ob') (fun v ob'=>QP (.panic v) (Xk sl' pk) ob'))\/
           (Region.wanted o (yielded ops a.tmps)=false/\∃sl',SM w ρ sl' a/\rwp P K (fun v sl ob=>QP (.panic v) (Xk sl pk) ob) s (put sl' d .undef) ob)):=by
        cases x with
        | op d y=>
          simp only[It.chk,Uai,Ucf]at hx;simp only[rwp]at h;exact⟨d,y,hx.1.1,hx.2,rfl,.inl ⟨by simp[Region.wanted,hx.1.2],sl,m.sm,h⟩⟩
        | gop g want d y=>
          simp only[It.chk,Uai]at hx;simp only[rwp]at h;exact⟨d,y,hx.1.1,hx.2,rfl,Wb (ops:=ops) m.sm hx.1.2 h⟩
      obtain⟨d,y,hdst,hy,hky,hways⟩:=hd
      -- an operation that may be taken first
      have first:∀l:Bool,(∀cc,y=.c cc->cc.isLd=l)->(∃cc,y=.c cc)->Region.free .any ops listed i=true->
          (l=true->∀j,j<ops.size->kd j=3->j ≠ i->∃fuel,Vl .any ops i fuel j=true)->kd i ≠ 3->Wr P.p .any ops Q (RJ kd B) (r.length+1) listed a w:=by
        intro l hld hcc hfree hwt hk3;have hwt':l=true->∀j,j<ops.size->j ≠ i->(∃fuel,Vl .any ops i fuel j=true)\/∀u v,RJ kd B j u v->Ext u v:=fun h1 j h2 h3=>by
          by_cases h4:kd j=3
          · exact .inl (hwt h1 j h2 h4 h3)
          · exact .inr fun u v h5=>h5.1 h4
        have hself:∀w,RJ kd B i w w:=fun w=>⟨fun _=>Ext.refl w,FB.refl B w⟩;obtain⟨cc,rfl⟩:=hcc;have hld:=hld cc rfl;rcases hways with⟨hw,sl',hs,hwp⟩ | ⟨hw,sl',hs,hwp⟩
        · simp only[I.wp]at hwp
          obtain⟨v,z,hk,hrep,hrun⟩:=C.sound hs m.om hy hwp;obtain⟨g1,g2,g3⟩:=Xp hdst m.size hs hrep;refine Yt (S:=Ext) (l:=l) Ext.refl (fun _ _ _=>Ext.trans) ho (Region.noSelect_spec hsel) (hQo v) hwt' hself _ listed a w hcl (Region.free_spec ho hfree) hr' (.inl ⟨hw,fun w' hw'=>hrun o rfl w' (fun e=>hw' (by rw[<-hld]; exact e))⟩) ?_;exact Yu hg hsel hpk hK hQ r s B _ _ ob ρ _ w hB hrest hcl' hk ⟨m.base,m.om,g1,g2,m.df.put g3,m.xo,m.gl⟩
        · obtain⟨g1,g2,g3⟩:=Xp hdst m.size hs (Zc.2 rfl)
          refine Yt (S:=Ext) (l:=l) Ext.refl (fun _ _ _=>Ext.trans) ho (Region.noSelect_spec hsel) (hQo undef) hwt' hself _ listed a w hcl (Region.free_spec ho hfree) hr' (.inr ⟨hw,rfl⟩) ?_;exact Yu hg hsel hpk hK hQ r s B _ _ ob ρ _ w hB hrest hcl' hwp ⟨m.base,m.om,g1,g2,m.df.put g3,m.xo,m.gl⟩
      -- the only one that may come up
      have alone:Region.ready .any ops listed=[i]->(y.kind=2\/y.kind=3\/y.kind=4)->Wr P.p .any ops Q (RJ kd B) (r.length+1) listed a w:=by
        intro hra hk23;refine⟨fun h0=>(by rw[hra]at h0; cases h0),fun j hj=>?_⟩;rw[hra]at hj;simp at hj; subst hj;unfold Jt;simp only[ho];rcases hways with⟨hw,sl',hs,hwp⟩ | ⟨hw,sl',hs,hwp⟩
        · rw[Uby hw]
          rcases hk23 with hk2 | hk3 | hk4
          · refine Rb6 (m.gl.trans hg.symm) hs m.om hk2 hy hwp o rfl _ _ (fun v z w' hk hrep he=>⟨⟨fun _=>he,hB.fb he.tr⟩,?_⟩)
            obtain⟨g1,g2,g3⟩:=Xp hdst m.size (hs.tr he.tr) hrep;exact Yu hg hsel hpk hK hQ r s B _ _ ob ρ _ w' (hB.tr he.tr) hrest hcl' hk ⟨m.base.tr he.tr,m.om.ext he,g1,g2,(m.df.tr he.tr).put g3,m.xo,m.gl⟩
          · refine I.sound (m.gl.trans hg.symm) hs m.om hy hwp o rfl _ _ (fun v z ob' w' ρ' hk hrep ho' t=>⟨⟨fun hf=>?_,hB.fb t⟩,?_⟩) (fun u z ob' w' ρ' hk hrep ho' t=>?_)
            · exact absurd (by rw[<-hkd',hky,hk3]) hf
            · obtain⟨g1,g2,g3⟩:=Xp hdst m.size (hs.tr t) hrep
              exact Yu hg hsel hpk hK hQ r s B _ _ ob' ρ' _ w' (hB.tr t) hrest hcl' hk ⟨m.base.tr t,ho',g1,g2,(m.df.tr t).put g3,t.xo.trans m.xo,t.gl.trans m.gl⟩
            · exact (hQ _ _ _).2 ⟨z,sl',ob',ρ',u,hk,rfl,hrep,m.base.tr t,ho',(hs.tr t).keep pk,m.size,m.df.tr t,t.xo.trans m.xo,t.gl.trans m.gl⟩
          · refine Rb7 (m.gl.trans hg.symm) hs m.om hk4 hy hwp o rfl _ _ (fun v z ob' w' ρ' hk hrep ho' t he=>⟨⟨fun _=>he,hB.fb t⟩,?_⟩)
            obtain⟨g1,g2,g3⟩:=Xp hdst m.size (hs.tr t) hrep;exact Yu hg hsel hpk hK hQ r s B _ _ ob' ρ' _ w' (hB.tr t) hrest hcl' hk ⟨m.base.tr t,ho',g1,g2,(m.df.tr t).put g3,t.xo.trans m.xo,t.gl.trans m.gl⟩
        · rw[hw]
          simp only[Uah,Uay];refine⟨⟨fun _=>Ext.refl w,FB.refl B w⟩,?_⟩;obtain⟨g1,g2,g3⟩:=Xp hdst m.size hs (Zc.2 rfl);exact Yu hg hsel hpk hK hQ r s B _ _ ob ρ _ w hB hrest hcl' hwp ⟨m.base,m.om,g1,g2,m.df.put g3,m.xo,m.gl⟩
      have hkl:y.kind=0\/y.kind=1\/y.kind=2\/y.kind=3\/y.kind=4\/y.kind=5:=by
        cases y with
        | c cc=>simp only[I.kind]; (repeat' split)<;>simp
        | _=>simp[I.kind]
      have hcc:∀n,(n=0\/n=1)->y.kind=n->(∃cc,y=.c cc)/\∀cc,y=.c cc->cc.isLd=(n==1):=by
        intro n hn hyn;cases y with
        | c cc=>
          refine⟨⟨cc,rfl⟩,fun c' e=>?_⟩;cases e;simp only[I.kind]at hyn;cases hd:cc.isLdd
          · cases hl:cc.isLd<;>simp[hl,hd]at hyn<;>subst hyn<;>rfl
          · simp[hd]at hyn; subst hyn; simp at hn
        | _=>simp[I.kind]at hyn; subst hyn; simp at hn
      rcases hkl with h0 | h1 | h2 | h3 | h4 | h5
      · rw[hky,h0]at hkind
        obtain⟨c1,c2⟩:=hcc 0 (.inl rfl) h0;exact first false (fun cc e=>by simpa using c2 cc e) c1 hkind (by simp) (by rw[<-hkd',hky,h0]; decide)
      · rw[hky,h1]at hkind
        simp only[Uai]at hkind;obtain⟨c1,c2⟩:=hcc 1 (.inr rfl) h1;refine first true (fun cc e=>by simpa using c2 cc e) c1 hkind.1 (fun _ j hj hk3 hne=>?_) (by rw[<-hkd',hky,h1]; decide)
        have:=Ubt.1 hkind.2 j (by simpa using hj);have hk3':kd j=3:=hk3;have hw:Vl .any ops i 1 j=true\/Vl .any ops i ops.size j=true:=by simpa[hk3',hne]using this
        exact hw.elim (fun h=>⟨_,h⟩) (fun h=>⟨_,h⟩)
      · rw[hky,h2]at hkind
        exact alone (by simpa using hkind) (.inl h2)
      · rw[hky,h3]at hkind
        exact alone (by simpa using hkind) (.inr (.inl h3))
      · rw[hky,h4]at hkind
        exact alone (by simpa using hkind) (.inr (.inr h4))
      · rw[hky,h5]at hkind
        obtain⟨cc,rfl,hld⟩:∃cc,y=.c cc/\cc.isLdd=true:=by
          cases y with
          | c cc=>
            simp only[I.kind]at h5;cases hd:cc.isLdd
            · cases hl:cc.isLd<;>simp[hl,hd]at h5
            · exact⟨cc,rfl,hd⟩
          | _=>simp[I.kind]at h5
        let B':Nat->Prop:=fun b=>b<w.heap.size/\¬own ρ b;have hB':X56 B' w ρ:=fun b hb=>hb;have hself:∀w,RJ kd B' i w w:=fun w=>⟨fun _=>Ext.refl w,FB.refl B' w⟩;have hwt:true=true->∀j,j<ops.size->j ≠ i->(∃fuel,Vl .any ops i fuel j=true)\/∀u v,RJ kd B' j u v->FB B' u v:=fun _ j _ _=>.inr fun u v h=>h.2;refine Js (R:=RJ kd B') (fun j u v h=>⟨h.1,fun b hb=>h.2 b (hB b hb)⟩) _ _ _ _ ?_;rcases hways with⟨hw,sl',hs,hwp⟩ | ⟨hw,sl',hs,hwp⟩
        · simp only[I.wp]at hwp
          obtain⟨v,z,hk,hrep,hrun⟩:=Rbq hs m.om hld hy hwp;obtain⟨g1,g2,g3⟩:=Xp hdst m.size hs hrep;refine Yt (S:=FB B') (l:=true) (FB.refl B') (fun _ _ _=>FB.trans) ho (Region.noSelect_spec hsel) (hQo v) hwt hself _ listed a w hcl (Region.free_spec ho hkind) hr' (.inl ⟨hw,fun w' hw'=>hrun o rfl w' (fun b h1 h2=>hw' rfl b ⟨h1,h2⟩)⟩) ?_;exact Yu hg hsel hpk hK hQ r s B' _ _ ob ρ _ w hB' hrest hcl' hk ⟨m.base,m.om,g1,g2,m.df.put g3,m.xo,m.gl⟩
        · obtain⟨g1,g2,g3⟩:=Xp hdst m.size hs (Zc.2 rfl)
          refine Yt (S:=FB B') (l:=true) (FB.refl B') (fun _ _ _=>FB.trans) ho (Region.noSelect_spec hsel) (hQo undef) hwt hself _ listed a w hcl (Region.free_spec ho hkind) hr' (.inr ⟨hw,rfl⟩) ?_;exact Yu hg hsel hpk hK hQ r s B' _ _ ob ρ _ w hB' hrest hcl' hwp ⟨m.base,m.om,g1,g2,m.df.put g3,m.xo,m.gl⟩
  | [],_::_,_,_,_,_,_,_,_,_,hc,_,_,_=>by simp[Xne]at hc
  | _::_,[],_,_,_,_,_,_,_,_,hc,_,_,_=>by simp[Xne]at hc

theorem Xt5 {P:Prg}{c:Ctx}(hg:P.g=c.g){xo:Nat->Prop}{ops:Array Oper}{Q:Exit->Act->World->Prop}{QP:Ze}{pk:List Nat}{next:Xf->Xb->Prop}{i:Nat}{o:Oper}{x:It}{sl:Xf}{ob:Xb}{ρ:Env}{a:Act}{w:World}{N:Act->World->Prop}
    (hQ:∀ch a w,Q (.panic ch) a w↔Xc5 c xo pk QP ch a w) (ho:ops[i]? = some o) (hx:x.chk P.p c.N ops o=true) (h:itK P next (fun v sl ob=>QP (.panic v) (Xk sl pk) ob) x sl ob) (m:Mod c xo ρ sl ob a w)
    (hN:∀sl' ob' ρ' a' w',next sl' ob'->Mod c xo ρ' sl' ob' a' w'->Tr w ρ w' ρ'->N a' w'):Jt P.p ops Q i (fun a' w'=>((x.kind ≠ 3->Ext w w')/\∃ρ',Tr w ρ w' ρ')/\N a' w') a w:=by
  have hd:∃(d:Option Nat) (y:I),Xbb c.N o.dst d=true/\y.chk P.p o.op=true/\x.kind=y.kind/\
      ((Region.wanted o (yielded ops a.tmps)=true/\∃sl',SM w ρ sl' a/\y.wp P sl' ob (fun v ob'=>next (put sl' d v) ob') (fun v ob'=>QP (.panic v) (Xk sl' pk) ob'))\/
       (Region.wanted o (yielded ops a.tmps)=false/\∃sl',SM w ρ sl' a/\next (put sl' d .undef) ob)):=by
    cases x with
    | op d y=>
      simp only[It.chk,Uai,Ucf]at hx;exact⟨d,y,hx.1.1,hx.2,rfl,.inl ⟨by simp[Region.wanted,hx.1.2],sl,m.sm,h⟩⟩
    | gop g want d y=>
      simp only[It.chk,Uai]at hx;simp only[itK]at h;exact⟨d,y,hx.1.1,hx.2,rfl,Wb (ops:=ops) m.sm hx.1.2 h⟩
  obtain⟨d,y,hdst,hy,hky,hways⟩:=hd;unfold Jt;simp only[ho];rcases hways with⟨hw,sl',hs,hwp⟩ | ⟨hw,sl',hs,hwp⟩
  · rw[Uby hw]
    by_cases hk3:y.kind=3
    · refine I.sound (m.gl.trans hg.symm) hs m.om hy hwp o rfl _ _ (fun v z ob' w' ρ' hk hrep ho' t=>⟨⟨fun hf=>?_,ρ',t⟩,?_⟩) (fun u z ob' w' ρ' hk hrep ho' t=>?_)
      · rw[hky]at hf; exact absurd hk3 hf
      · obtain⟨g1,g2,g3⟩:=Xp hdst m.size (hs.tr t) hrep
        exact hN _ ob' ρ' _ w' hk ⟨m.base.tr t,ho',g1,g2,(m.df.tr t).put g3,t.xo.trans m.xo,t.gl.trans m.gl⟩ t
      · exact (hQ _ _ _).2 ⟨z,sl',ob',ρ',u,hk,rfl,hrep,m.base.tr t,ho',(hs.tr t).keep pk,m.size,m.df.tr t,t.xo.trans m.xo,t.gl.trans m.gl⟩
    · by_cases hk2:y.kind=2
      · refine Rb6 (m.gl.trans hg.symm) hs m.om hk2 hy hwp o rfl _ _ (fun v z w' hk hrep he=>⟨⟨fun _=>he,ρ,he.tr⟩,?_⟩)
        obtain⟨g1,g2,g3⟩:=Xp hdst m.size (hs.tr he.tr) hrep;exact hN _ ob ρ _ w' hk ⟨m.base.tr he.tr,m.om.ext he,g1,g2,(m.df.tr he.tr).put g3,m.xo,m.gl⟩ he.tr
      · by_cases hk4:y.kind=4
        · refine Rb7 (m.gl.trans hg.symm) hs m.om hk4 hy hwp o rfl _ _ (fun v z ob' w' ρ' hk hrep ho' t he=>⟨⟨fun _=>he,ρ',t⟩,?_⟩)
          obtain⟨g1,g2,g3⟩:=Xp hdst m.size (hs.tr t) hrep;exact hN _ ob' ρ' _ w' hk ⟨m.base.tr t,ho',g1,g2,(m.df.tr t).put g3,t.xo.trans m.xo,t.gl.trans m.gl⟩ t
        cases y with
        | c cc=>
          simp only[I.wp]at hwp;obtain⟨v,z,hk,hrep,hrun⟩:=C.sound hs m.om hy hwp;obtain⟨g1,g2,g3⟩:=Xp hdst m.size hs hrep;unfold wpA;rw[hrun o rfl w (fun _=>Ext.refl w)];exact⟨⟨fun _=>Ext.refl w,ρ,Tr.refl w ρ⟩,hN _ ob ρ _ w hk ⟨m.base,m.om,g1,g2,m.df.put g3,m.xo,m.gl⟩ (Tr.refl w ρ)⟩
        | _=>exfalso; simp[I.kind]at hk2 hk3 hk4
  · rw[hw]
    simp only[Uah,Uay];refine⟨⟨fun _=>Ext.refl w,ρ,Tr.refl w ρ⟩,?_⟩;obtain⟨g1,g2,g3⟩:=Xp hdst m.size hs (Zc.2 rfl);exact hN _ ob ρ _ w hwp ⟨m.base,m.om,g1,g2,m.df.put g3,m.xo,m.gl⟩ (Tr.refl w ρ)

theorem Y4 {P:Prg}{c:Ctx}(hg:P.g=c.g){xo:Nat->Prop}{ops:Array Oper}{Q:Exit->Act->World->Prop}{QP:Ze}{pk:List Nat}{K:Xf->Xb->Prop}{kd:Nat->Nat}
    (hsel:Region.noSelect ops=true) (hpk:Xcp pk ops=true)
    (hK:∀sl ob ρ a w,K sl ob->Mod c xo ρ sl ob a w->Q .normal a w)
    (hQ:∀ch a w,Q (.panic ch) a w↔Xc5 c xo pk QP ch a w) :
    ∀(n:Nat) (t:Ot) (B:Nat->Prop) (listed:Array Bool) (sl:Xf) (ob:Xb) (ρ:Env) (a:Act) (w:World),X56 B w ρ->Up P.p c.N ops kd n listed t=true->Xbr .any ops listed->
      owp P K (fun v sl ob=>QP (.panic v) (Xk sl pk) ob) t sl ob->Mod c xo ρ sl ob a w->Wr P.p .any ops Q (RJ kd B) n listed a w
  | 0,.done,B,listed,sl,ob,ρ,a,w,hB,hc,_,h,m=>by
    simp only[Up]at hc;simp only[owp]at h;simp only[Wr];exact⟨by simpa using hc,hK sl ob ρ a w h m⟩
  | n+1,.br l,B,listed,sl,ob,ρ,a,w,hB,hc,hcl,h,m=>by
    simp only[Up,Uai,Ubq]at hc;obtain⟨⟨hne,hall⟩,hcs⟩:=hc;simp only[owp]at h;simp only[Wr];refine⟨fun h0=>by rw[h0]at hne; simp at hne,fun j hj=>?_⟩;have hh:=Ubt.1 hall j hj;obtain⟨x,r,o,g1,g2,g3,g4,g5⟩:∃x r o,ops[j]? = some o/\x.chk P.p c.N ops o=true/\x.kind=kd j/\Up P.p c.N ops kd n (listed.setIfInBounds j true) r=true/\itK P (owp P K (fun v sl ob=>QP (.panic v) (Xk sl pk) ob) r) (fun v sl ob=>QP (.panic v) (Xk sl pk) ob) x sl ob:=by
      clear hne hall;revert h hcs hh;generalize l=l;intro hh hcs h;have go:∀(l:Ots),l.has j=true->Xgz P.p c.N ops kd n listed l=true->Xe6 P K (fun v sl ob=>QP (.panic v) (Xk sl pk) ob) l sl ob->∃x r o,ops[j]? = some o/\x.chk P.p c.N ops o=true/\x.kind=kd j/\Up P.p c.N ops kd n (listed.setIfInBounds j true) r=true/\itK P (owp P K (fun v sl ob=>QP (.panic v) (Xk sl pk) ob) r) (fun v sl ob=>QP (.panic v) (Xk sl pk) ob) x sl ob:=by
        intro l;induction l using Ots.rec (motive_1:=fun _=>True) with
        | nil=>intro h; simp[Ots.has]at h
        | cons i x r l _ ih=>
          intro h1 h2 h3;simp only[Ots.has,Ucd,Ubn]at h1;simp only[Xgz,Uai]at h2;simp only[Xe6]at h3;by_cases e:i=j
          · subst e
            obtain⟨⟨⟨⟨_,hx⟩,hk⟩,hr⟩,_⟩:=h2;cases ho:ops[i]? with
            | none=>simp[ho]at hx
            | some o=>simp only[ho]at hx; exact⟨x,r,o,rfl,hx,by simpa using hk,hr,h3.1⟩
          · exact ih (h1.resolve_left e) h2.2 h3.2
        | done=>trivial
        | one i x r _=>trivial
        | br l _=>trivial
      first | exact go _ hh hcs h | exact go _ h hcs hh
    have hst:=Xt5 (Q:=Q) (N:=fun a' w'=>Wr P.p .any ops Q (RJ kd B) n (listed.setIfInBounds j true) a' w') hg hQ g1 g2 g5 m (fun sl' ob' ρ' a' w' hk m' t=>Y4 hg hsel hpk hK hQ n r B _ sl' ob' ρ' a' w' (hB.tr t) g4 (hcl.step hj) hk m');refine W4 (fun a' w' h'=>⟨⟨fun hf=>h'.1.1 ?_,h'.1.2.elim fun ρ' t=>hB.fb t⟩,h'.2⟩) hst;rw[g3]; exact hf
  | n+1,.one i x r,B,listed,sl,ob,ρ,a,w,hB,hc,hcl,h,m=>by
    simp only[Up,Uai]at hc;obtain⟨⟨⟨⟨hr,hx⟩,hkd⟩,hkind⟩,hrest⟩:=hc;have hr':i∈Region.ready .any ops listed:=by simpa using hr
    simp only[owp]at h;cases ho:ops[i]? with
    | none=>simp[ho]at hx
    | some o=>
      simp only[ho]at hx;have hkd':x.kind=kd i:=by simpa using hkd
      have hcl':=hcl.step hr'
      -- the only one that may come up
      have alone:Region.ready .any ops listed=[i]->Wr P.p .any ops Q (RJ kd B) (n+1) listed a w:=by
        intro hra;refine⟨fun h0=>(by rw[hra]at h0; cases h0),fun j hj=>?_⟩;rw[hra]at hj;simp at hj; subst hj;have hst:=Xt5 (Q:=Q) (N:=fun a' w'=>Wr P.p .any ops Q (RJ kd B) n (listed.setIfInBounds j true) a' w') hg hQ ho hx h m (fun sl' ob' ρ' a' w' hk m' t=>Y4 hg hsel hpk hK hQ n r B _ sl' ob' ρ' a' w' (hB.tr t) hrest hcl' hk m');refine W4 (fun a' w' h'=>⟨⟨fun hf=>h'.1.1 ?_,h'.1.2.elim fun ρ' t=>hB.fb t⟩,h'.2⟩) hst;rw[hkd']; exact hf
      have hpko:∀k,o.dst=some k->k∉pk:=by
        intro k hk;have:=Ubt.1 hpk o (by simpa using Ubz ho);simpa[hk]using this
      have hQo:∀v:Value,∀ch a w,Q (.panic ch) (a.put o.dst v) w->Q (.panic ch) a w:=fun v ch a w hq=>(hQ ch a w).2 (Xl8 hpko ((hQ ch _ w).1 hq));have hd:∃(d:Option Nat) (y:I),Xbb c.N o.dst d=true/\y.chk P.p o.op=true/\x.kind=y.kind/\
          ((Region.wanted o (yielded ops a.tmps)=true/\∃sl',SM w ρ sl' a/\y.wp P sl' ob (fun v ob'=>owp P K (fun v sl ob=>QP (.panic v) (Xk sl pk) ob) r (put sl' d v) ob') (fun v ob'=>QP (.panic v) (Xk sl' pk) ob'))\/
           (Region.wanted o (yielded ops a.tmps)=false/\∃sl',SM w ρ sl' a/\owp P K (fun v sl ob=>QP (.panic v) (Xk sl pk) ob) r (put sl' d .undef) ob)):=by
        cases x with
        | op d y=>
          simp only[It.chk,Uai,Ucf]at hx;exact⟨d,y,hx.1.1,hx.2,rfl,.inl ⟨by simp[Region.wanted,hx.1.2],sl,m.sm,h⟩⟩
        | gop g want d y=>
          simp only[It.chk,Uai]at hx;simp only[itK]at h;exact⟨d,y,hx.1.1,hx.2,rfl,Wb (ops:=ops) m.sm hx.1.2 h⟩
      obtain⟨d,y,hdst,hy,hky,hways⟩:=hd;have first:∀l:Bool,(∀cc,y=.c cc->cc.isLd=l)->(∃cc,y=.c cc)->Region.free .any ops listed i=true->
          (l=true->∀j,j<ops.size->kd j=3->j ≠ i->∃fuel,Vl .any ops i fuel j=true)->kd i ≠ 3->Wr P.p .any ops Q (RJ kd B) (n+1) listed a w:=by
        intro l hld hcc hfree hwt hk3;have hwt':l=true->∀j,j<ops.size->j ≠ i->(∃fuel,Vl .any ops i fuel j=true)\/∀u v,RJ kd B j u v->Ext u v:=fun h1 j h2 h3=>by
          by_cases h4:kd j=3
          · exact .inl (hwt h1 j h2 h4 h3)
          · exact .inr fun u v h5=>h5.1 h4
        have hself:∀w,RJ kd B i w w:=fun w=>⟨fun _=>Ext.refl w,FB.refl B w⟩;obtain⟨cc,rfl⟩:=hcc;have hld:=hld cc rfl;rcases hways with⟨hw,sl',hs,hwp⟩ | ⟨hw,sl',hs,hwp⟩
        · simp only[I.wp]at hwp
          obtain⟨v,z,hk,hrep,hrun⟩:=C.sound hs m.om hy hwp;obtain⟨g1,g2,g3⟩:=Xp hdst m.size hs hrep;refine Yt (S:=Ext) (l:=l) Ext.refl (fun _ _ _=>Ext.trans) ho (Region.noSelect_spec hsel) (hQo v) hwt' hself _ listed a w hcl (Region.free_spec ho hfree) hr' (.inl ⟨hw,fun w' hw'=>hrun o rfl w' (fun e=>hw' (by rw[<-hld]; exact e))⟩) ?_;exact Y4 hg hsel hpk hK hQ n r B _ _ ob ρ _ w hB hrest hcl' hk ⟨m.base,m.om,g1,g2,m.df.put g3,m.xo,m.gl⟩
        · obtain⟨g1,g2,g3⟩:=Xp hdst m.size hs (Zc.2 rfl)
          refine Yt (S:=Ext) (l:=l) Ext.refl (fun _ _ _=>Ext.trans) ho (Region.noSelect_spec hsel) (hQo undef) hwt' hself _ listed a w hcl (Region.free_spec ho hfree) hr' (.inr ⟨hw,rfl⟩) ?_;exact Y4 hg hsel hpk hK hQ n r B _ _ ob ρ _ w hB hrest hcl' hwp ⟨m.base,m.om,g1,g2,m.df.put g3,m.xo,m.gl⟩
      have hcc:∀n,(n=0\/n=1)->y.kind=n->(∃cc,y=.c cc)/\∀cc,y=.c cc->cc.isLd=(n==1):=by
        intro n hn hyn;cases y with
        | c cc=>
          refine⟨⟨cc,rfl⟩,fun c' e=>?_⟩;cases e;simp only[I.kind]at hyn;cases hd:cc.isLdd
          · cases hl:cc.isLd<;>simp[hl,hd]at hyn<;>subst hyn<;>rfl
          · simp[hd]at hyn; subst hyn; simp at hn
        | _=>simp[I.kind]at hyn; subst hyn; simp at hn
      have hkl:y.kind=0\/y.kind=1\/y.kind=2\/y.kind=3\/y.kind=4\/y.kind=5:=by
        cases y with
        | c cc=>simp only[I.kind]; (repeat' split)<;>simp
        | _=>simp[I.kind]
      rcases hkl with h0 | h1 | h2 | h3 | h4 | h5
      · rw[hky,h0]at hkind
        obtain⟨c1,c2⟩:=hcc 0 (.inl rfl) h0;exact first false (fun cc e=>by simpa using c2 cc e) c1 hkind (by simp) (by rw[<-hkd',hky,h0]; decide)
      · rw[hky,h1]at hkind
        simp only[Uai]at hkind;obtain⟨c1,c2⟩:=hcc 1 (.inr rfl) h1;refine first true (fun cc e=>by simpa using c2 cc e) c1 hkind.1 (fun _ j hj hk3 hne=>?_) (by rw[<-hkd',hky,h1]; decide)
        have:=Ubt.1 hkind.2 j (by simpa using hj);have hk3':kd j=3:=hk3;have hw:Vl .any ops i 1 j=true\/Vl .any ops i ops.size j=true:=by simpa[hk3',hne]using this
        exact hw.elim (fun h=>⟨_,h⟩) (fun h=>⟨_,h⟩)
      · rw[hky,h2]at hkind
        exact alone (by simpa using hkind)
      · rw[hky,h3]at hkind
        exact alone (by simpa using hkind)
      · rw[hky,h4]at hkind
        exact alone (by simpa using hkind)
      · rw[hky,h5]at hkind
        obtain⟨cc,rfl,hld⟩:∃cc,y=.c cc/\cc.isLdd=true:=by
          cases y with
          | c cc=>
            simp only[I.kind]at h5;cases hd:cc.isLdd
            · cases hl:cc.isLd<;>simp[hl,hd]at h5
            · exact⟨cc,rfl,hd⟩
          | _=>simp[I.kind]at h5
        let B':Nat->Prop:=fun b=>b<w.heap.size/\¬own ρ b;have hB':X56 B' w ρ:=fun b hb=>hb;have hself:∀w,RJ kd B' i w w:=fun w=>⟨fun _=>Ext.refl w,FB.refl B' w⟩;have hwt:true=true->∀j,j<ops.size->j ≠ i->(∃fuel,Vl .any ops i fuel j=true)\/∀u v,RJ kd B' j u v->FB B' u v:=fun _ j _ _=>.inr fun u v h=>h.2;refine Js (R:=RJ kd B') (fun j u v h=>⟨h.1,fun b hb=>h.2 b (hB b hb)⟩) _ _ _ _ ?_;rcases hways with⟨hw,sl',hs,hwp⟩ | ⟨hw,sl',hs,hwp⟩
        · simp only[I.wp]at hwp
          obtain⟨v,z,hk,hrep,hrun⟩:=Rbq hs m.om hld hy hwp;obtain⟨g1,g2,g3⟩:=Xp hdst m.size hs hrep;refine Yt (S:=FB B') (l:=true) (FB.refl B') (fun _ _ _=>FB.trans) ho (Region.noSelect_spec hsel) (hQo v) hwt hself _ listed a w hcl (Region.free_spec ho hkind) hr' (.inl ⟨hw,fun w' hw'=>hrun o rfl w' (fun b h1 h2=>hw' rfl b ⟨h1,h2⟩)⟩) ?_;exact Y4 hg hsel hpk hK hQ n r B' _ _ ob ρ _ w hB' hrest hcl' hk ⟨m.base,m.om,g1,g2,m.df.put g3,m.xo,m.gl⟩
        · obtain⟨g1,g2,g3⟩:=Xp hdst m.size hs (Zc.2 rfl)
          refine Yt (S:=FB B') (l:=true) (FB.refl B') (fun _ _ _=>FB.trans) ho (Region.noSelect_spec hsel) (hQo undef) hwt hself _ listed a w hcl (Region.free_spec ho hkind) hr' (.inr ⟨hw,rfl⟩) ?_;exact Y4 hg hsel hpk hK hQ n r B' _ _ ob ρ _ w hB' hrest hcl' hwp ⟨m.base,m.om,g1,g2,m.df.put g3,m.xo,m.gl⟩
  | 0,.one _ _ _,_,_,_,_,_,_,_,_,hc,_,_,_=>by simp[Up]at hc
  | 0,.br _,_,_,_,_,_,_,_,_,hc,_,_,_=>by simp[Up]at hc
  | _+1,.done,_,_,_,_,_,_,_,_,hc,_,_,_=>by simp[Up]at hc

theorem Xbv {p:Nat->Prop}:∀n,p n->∃m,p m/\∀k,p k->m<=k:=by
  intro n;induction n using Nat.strongRecOn with
  | _ n ih=>
    intro hn;by_cases h:∃k,p k/\k<n
    · obtain⟨k,hk,hlt⟩:=h; exact ih k hlt hk
    · exact⟨n,hn,fun k hk=>Nat.le_of_not_lt fun hlt=>h ⟨k,hk,hlt⟩⟩

theorem Xle {sl:Xf}:∀{l:List Nat} {p:Nat×V},p∈Xk sl l->p.2=look sl p.1
  | [],p,h=>by cases h
  | k::r,p,h=>by
    rcases Uax.1 h with rfl | h
    · rfl
    · exact Xle h
theorem Ysh {w:World}{ρ:Env}{ob:Xb}(h:OM w ρ ob)(o:Obj):Tr w ρ (Xay w o) (ρ.ins (Xa ob) (.map w.heap.size)):=
  Vn _ (Zp w o) (o:=.map w.heap.size) (h.free (X2 ob)) (fun b hb=>by simp[RO.blk?]at hb; omega)
theorem X9r {sl:Xf}{k:Nat}:look sl k=.any\/(k,look sl k)∈sl:=by
  induction sl with
  | nil=>exact .inl rfl
  | cons e r ih=>
    obtain⟨j,v⟩:=e;simp only[look];split
    · rename_i e; subst e; exact .inr (by simp)
    · exact ih.imp id (fun h=>by simp[h])

theorem X35 {P:Prg}{c:Ctx}(hg:P.g=c.g){xo:Nat->Prop}{f:Operand}{tag:Nat}{slk:Xf}{Q:Ze}{ob:Xb}{ρ:Env}{a:Act}{w w1:World}{ρ1:Env}{fi ca:List V}{fs gs:List Value}{fk D:Nat}(hmk:c.mrk=true)
    (m:Mod c xo ρ slk ob a w) (hcal:Xm P.p fk=true) (h:ACall P fk (fi++[.hd true (Xa ob)]++ca) ((Xa ob,.lp tag .ready slk)::ob) (rgQ Q slk (Xa ob)))
    (e1:a.eval f=.func (.func fk) fs.toArray gs.toArray) (r2:V.reps w ρ fi fs) (r3:V.reps w ρ ca gs) (t1:Tr w ρ w1 ρ1) (o1:OM w1 ρ1 ((Xa ob,.lp tag .ready slk)::ob)) {L:Nat} (hL1:ρ1.m (Xa ob)=some (.map L))
    (hD:c.w0.heap.size<=D/\w1.heap[D]? = some (.deferred (some []))/\¬Xcf ρ1 D) (hDn:w.heap.size<=D) :
    ∃(d:Deferred) (w₁':World) (f':FuncId) (args:Array Value) (w₂:World),
      (resolve a.eval (rangeCall f L) 0).run P.p w1=.ok d w₁'/\(∀f',Target.leads P.p w₁' d.target d.args=some f'->(frm none).fn f')/\
      (invoke d.target d.args).run P.p w₁'=.ok (.enter f' args) w₂/\((frm none).depth.isSome=true->1<=0)/\
      CallsIn (frm none) (0-1) P.p f' args w₂ (rangePost (frm none) 0 P.p L (lift c xo Q) { a with defers:=[mkD D]++a.defers }):=by
  have hgl:ρ1.gl=P.g:=t1.gl.trans (m.gl.trans hg.symm);have hy:(V.hd true (Xa ob)).rep w1 ρ1 (.func (.yield L) #[] #[]):=Xaq.2 (.inl ⟨L,hL1,rfl⟩);have hreps:V.reps w1 ρ1 (fi++[.hd true (Xa ob)]++ca) (fs++[Value.func (.yield L) #[] #[]]++gs):=
    reps_append (reps_append (Rav t1 _ _ r2) (by simp only[V.reps]; exact⟨_,_,rfl,hy,rfl⟩)) (Rav t1 _ _ r3)
  refine⟨⟨.fn (.func fk) gs.toArray,fs.toArray++#[Value.func (.yield L) #[] #[]]⟩,w1,fk,(fs++[Value.func (.yield L) #[] #[]]++gs).toArray,w1,?_,fun _ _=>Xsy _ _,?_,fun h=>(by rw[Xky]at h; cases h),Xkx ?_⟩
  · simp only[resolve,rangeCall,e1,Deferred.ofValue,Sem.run_pure]
    simp[Act.eval]
  · simp only[invoke,Yr hcal]
    congr 2;apply Array.ext'; simp
  · refine (h.run w1 ρ1 _ o1 hgl hreps).mono fun e w' ⟨out,ob',ρ',hk,hr,o2,t2⟩=>?_
    cases e with
    | panicked ch=>cases out<;>first | exact hk.elim | exact hr.elim
    | outgrown=>cases out<;>exact hr.elim
    | returned u=>
      cases out with
      | panic v=>exact hr.elim
      | ret v=>
        simp only[rgQ]at hk;obtain⟨st,tg,sl2,hl,hst,hk⟩:∃st tg sl2,Xd ob' (Xa ob)=some (.lp tg st sl2)/\st ≠ .busy/\(match st with
            | .ready=>Q .normal slk (setO ob' (Xa ob) .gone)
            | .ret=>Q .ret slk (setO ob' (Xa ob) .gone)
            | .exit n=>Q (.exit n) slk (setO ob' (Xa ob) .gone)
            | .busy=>False):=by
          unfold rgE at hk;split at hk
          · rename_i hl; exact⟨_,_,_,hl,by simp,hk⟩
          · rename_i hl; exact⟨_,_,_,hl,by simp,hk⟩
          · rename_i hl; exact⟨_,_,_,hl,by simp,hk⟩
          · exact hk.elim
        obtain⟨b,fn,tm,dd,qs,c1,c2,g1,g2,g3,g4⟩:=o2.one _ _ hl;obtain⟨o',p1,p2⟩:=t2.same _ _ hL1;have hbL:b=L:=by
          rw[g1]at p1; simp only[Uaq]at p1; subst p1;cases p2 with
          | refl=>rfl
        subst hbL;have hend:(Instr.endLoop b).run P.p w'=.ok st.pend (Xaz w' b (.loop { state:=.exhausted,pending:=st.pend,fn:=fn,tmps:=tm,params:=qs,assign:=c1,body:=c2,defers:=dd })):=by
          have hget:(Instr.getLoop b).run P.p w'=.ok { state:=st.st,pending:=st.pend,fn:=fn,tmps:=tm,params:=qs,assign:=c1,body:=c2,defers:=dd } w':=by
            simp[Instr.getLoop,getObj,Sem.run,g2]
          have hnb:(st.st==LoopState.busy)=false:=by cases st<;>first | exact absurd rfl hst | rfl
          have hset:=Qs (P:=P.p) (o:=.loop { state:=.exhausted,pending:=st.pend,fn:=fn,tmps:=tm,params:=qs,assign:=c1,body:=c2,defers:=dd }) w' g2 rfl;simp only[Instr.endLoop,Sem.run_bind,hget,Result.andThen_ok,hnb,Uah,Uay,hset,Sem.run_pure]
        obtain⟨t3,o3,_⟩:=Xhb (w2:=Xaz w' b (.loop { state:=.exhausted,pending:=st.pend,fn:=fn,tmps:=tm,params:=qs,assign:=c1,body:=c2,defers:=dd })) o2 ⟨_,hl⟩ (Vh ..) (fun j hj=>Zv w' _ (fun e=>hj _ g1 (by simp[RO.blk?,e]))) rfl rfl rfl (Uak _);have t4:=(t1.trans t2).trans t3;have m4:Mod c xo (ρ'.ins (Xa ob) .gone) slk (setO ob' (Xa ob) .gone) { a with defers:=[mkD D]++a.defers } (Xaz w' b (.loop { state:=.exhausted,pending:=st.pend,fn:=fn,tmps:=tm,params:=qs,assign:=c1,body:=c2,defers:=dd })):=by
          refine⟨m.base.tr t4,o3,m.sm.tr t4,m.size,?_,t4.xo.trans m.xo,t4.gl.trans m.gl⟩;obtain⟨ms,q1,q2,q3,q4⟩:=m.df.tr t4;have t5:=t2.trans t3;refine⟨D::ms,by simp[q1,mkD],fun h=>(by rw[hmk]at h; cases h),List.nodup_cons.2 ⟨fun hm=>?_,q3⟩,fun r hr=>?_⟩
          · obtain⟨ms',q1',_,_,q4'⟩:=m.df
            have:ms.map mkD++c.df=ms'.map mkD++c.df:=q1.symm.trans q1';have h2:=List.append_cancel_right this;have h3:mkD D∈ms'.map mkD:=by rw[<-h2]; exact List.mem_map_of_mem hm
            obtain⟨r,hr,e⟩:=Ua5.1 h3;have:r=D:=by simpa[mkD]using e
            subst this;have:=Xj (q4' r hr).2.1;omega
          · rcases Uax.1 hr with rfl | hr
            · exact⟨hD.1,(t5.keep _ hD.2.2 (Xj hD.2.1)).trans hD.2.1,fun h=>(t5.owns _ h).elim hD.2.2 (fun h=>by have:=Xj hD.2.1; omega)⟩
            · exact q4 r hr
        refine⟨st.pend,_,hend,?_⟩;cases st with
        | ready=>exact⟨.normal,slk,_,_,hk,trivial,m4⟩
        | busy=>exact hk.elim
        | ret=>exact wpIn_ret ⟨.ret,slk,_,_,hk,trivial,m4⟩
        | exit n=>exact wpIn_exit ⟨.exit n,slk,_,_,hk,rfl,m4⟩

theorem X36 {P:Prg}{c:Ctx}(hg:P.g=c.g)(hmk:c.mrk=true){xo:Nat->Prop}{f:Operand}{qs:Array Nat}{ca cb:Code}{tag:Nat}{ps:List Nat}{g:A}{x y:S}{keep:List Nat}{Q:Ze}{sl:Xf}{ob:Xb}{ρ:Env}{a:Act}{w:World}
    (hc:(A.chk f g&&((qs.toList==ps)&&ps.all (fun k=>decide (k<c.N))&&S.chk P.p c.N ca x&&S.chk P.p c.N cb y&&x.noR&&y.noR))=true)
    (h:cwp P (.rgf tag ps g x y keep) Q sl ob) (m:Mod c xo ρ sl ob a w):(Code.rangeFunc f qs ca cb).wpIn (frm none) 0 P.p (lift c xo Q) a w:=by
  simp only[cwp]at h;obtain⟨hL,hr⟩:=h;rw[Uai]at hc;obtain⟨h1,h2⟩:=hc;refine wpIn_rangeFunc fun fn _=>?_;have r1:=A.sound m.sm h1;let D:=w.heap.size;let wd:=Xay w (.deferred (some []));let L:=wd.heap.size;let lo:Loop:={ state:=.ready,pending:=none,fn:=fn,tmps:=a.tmps,params:=qs,assign:=ca,body:=cb,defers:=D }
  have t0:Tr w ρ wd ρ:=(Zp w _).tr;have o0:OM wd ρ ob:=m.om.ext (Zp w _);have t1:=Ysh o0 (.loop lo);have hbig:w.heap.size<wd.heap.size:=by show w.heap.size<(w.heap.push _).size; simp
  have hx:Un (Xay wd (.loop lo)) (ρ.ins (Xa ob) (.map wd.heap.size)) (Xa ob) (.lp tag .ready (Xk sl keep)):=by
    refine⟨L,fn,a.tmps,D,qs,ca,cb,by simp[Env.ins,L],Zx _ _,?_,fun p hp=>?_⟩
    · show ρ.gl.l tag qs a.tmps.size ca cb
      rw[m.gl,<-hg,m.size];exact (hL qs c.N ca cb).2 h2
    · rw[Xle hp]
      exact Raw (t0.trans t1) (m.sm p.1)
  obtain⟨_,o1,_⟩:=X1h o0 (.loop lo) (.lp tag .ready (Xk sl keep)) hx;have hent:(Instr.enterLoop fn a.tmps qs ca cb (frm none).round).run P.p w=.ok (L,[mkD D]) (Xay wd (.loop lo)):=by
    simp only[Instr.enterLoop,Xkz,Sem.run_bind,run_newObj,Result.andThen_ok,Sem.run_pure];rfl
  have hown:¬Xcf ρ D:=fun ⟨i,o,q1,q2⟩=>by have:=Wy m.om q1 q2; omega
  have hD:c.w0.heap.size<=D/\(Xay wd (.loop lo)).heap[D]? = some (.deferred (some []))/\¬Xcf (ρ.ins (Xa ob) (.map wd.heap.size)) D:=by
    refine⟨m.base.size,?_,fun ⟨i,o,q1,q2⟩=>?_⟩
    · have:(Xay wd (.loop lo)).heap[D]? = wd.heap[D]?:=Xx6 wd _ hbig
      rw[this]; exact Zx _ _
    · simp only[Env.ins]at q1
      split at q1
      · cases q1; simp[RO.blk?]at q2; omega
      · exact hown ⟨i,o,q1,q2⟩
  have mk:Mod c xo ρ (Xk sl keep) ob a w:=⟨m.base,m.om,m.sm.keep keep,m.size,m.df,m.xo,m.gl⟩
  have hm1:(ρ.ins (Xa ob) (.map wd.heap.size)).m (Xa ob)=some (.map L):=by simp[Env.ins,L]
  unfold rgK at hr;split at hr
  · rename_i fk fi cc e1
    rw[e1,Xb5]at r1;obtain⟨fs,gs,r1,r2,r3⟩:=r1;obtain⟨d,w1',f',args,w2,q1,q2,q3,q4,q5⟩:=X35 hg hmk mk hr.1 hr.2 r1 r2 r3 (t0.trans t1) o1 hm1 hD (Uak _);exact⟨L,[mkD D],_,d,w1',f',args,w2,hent,q1,q2,q3,q4,q5⟩
  · rename_i fk fi cc e1
    rw[e1,Xeh]at r1;obtain⟨fs,gs,r1,r2,r3⟩:=r1;obtain⟨d,w1',f',args,w2,q1,q2,q3,q4,q5⟩:=X35 hg hmk mk hr.1 hr.2 r1 r2 r3 (t0.trans t1) o1 hm1 hD (Uak _);exact⟨L,[mkD D],_,d,w1',f',args,w2,hent,q1,q2,q3,q4,q5⟩
  · exact hr.elim

theorem Xb2 {ops:Array Oper}(h:Xp8 ops=true):∀o∈ops.toList,∀c,o.op ≠ .defer c:=fun o ho c e=>by
  have:=Ubt.1 h o ho;simp[e]at this
theorem Yv3 {a b:Bool}{p:Prop}(h:(a&&b)=true\/p):a=true\/p:=h.imp (fun h=>(by simp at h; exact h.1)) id
theorem Yv4 {a b:Bool}{p:Prop}(h:(a&&b)=true\/p):b=true\/p:=h.imp (fun h=>(by simp at h; exact h.2)) id
theorem Yi {P:Prg}(hm:P.p.follows .mixedOrders=true){c:Ctx}(hg:P.g=c.g){xo:Nat->Prop}{rd:Option Nat}:∀(code:Code) (s:S) (Q:Ze) (sl:Xf) (ob:Xb) (ρ:Env) (a:Act) (w:World),
    S.chk P.p c.N code s=true->(s.noR=true\/(c.mrk=true/\rd=none))->cwp P s Q sl ob->Mod c xo ρ sl ob a w->code.wpIn (frm rd) 0 P.p (lift c xo Q) a w
  | .skip,s,Q,sl,ob,ρ,a,w,hc,hn,h,m=>by
    cases s<;>simp[S.chk]at hc;exact wpIn_skip ⟨.normal,sl,ob,ρ,h,trivial,m⟩
  | .region id ops draw,s,Q,sl,ob,ρ,a,w,hc,hn,h,m=>by
    cases s<;>simp only[S.chk,Uah]at hc
    case rgT n t keep pk=>
      simp only[cwp]at h;simp only[Uai]at hc;obtain⟨⟨⟨⟨⟨hnd,hdr⟩,hlen⟩,hsel⟩,hpk⟩,hcan⟩:=hc;have hnd:=Xb2 hnd;subst hdr;have hlen:n<=ops.size:=by simpa using hlen
      let Q':Exit->Act->World->Prop:=fun e a w=>match e with
        | .panic ch=>Xc5 c xo pk Q ch a w
        | e=>lift c xo Q e a w
      have hx:Ext w { w with drawn:=w.drawn+1 }:=Rba w _;have key:=Y4 (Q:=Q') (QP:=Q) (K:=fun sl ob=>Q .normal (Xk sl keep) ob) hg hsel hpk
        (fun sl ob ρ a w hk m=>(⟨.normal,_,ob,ρ,hk,trivial,m.base,m.om,m.sm.keep keep,m.size,m.df,m.xo,m.gl⟩:lift c xo Q .normal a w))
        (fun ch a w=>Iff.rfl) n t (fun _=>False) (Array.replicate ops.size false) sl ob ρ a { w with drawn:=w.drawn+1 } (fun _ h=>h.elim) hcan
        (fun k o _ hl=>by
          rcases Uaa k ops.size with h' | h'
          · simp[h']at hl
          · simp[h']at hl) h ⟨m.base.tr hx.tr,m.om.ext hx,m.sm.tr hx.tr,m.size,m.df.tr hx.tr,m.xo,m.gl⟩
      have hany:=Xbp _ _ _ _ key;refine wpIn_mono (wpIn_region_any hm (Xev hnd _ _ _ _ (Jr _ _ _ _ _ hlen hany))) (fun e a' w' he=>?_);cases e with
      | panic ch=>
        obtain⟨v,sl',ob',ρ',u,h1,h2,h3,m'⟩:=he;exact⟨.panic v,_,ob',ρ',h1,⟨u,h2,h3⟩,m'⟩
      | _=>exact he
    rename_i ord l keep pk;simp only[cwp]at h;rw[Uai]at hc;obtain⟨hnd,hc⟩:=hc;have hnd:=Xb2 hnd;cases draw with
    | false=>
      simp only[Uah,Uay]at hc;refine wpIn_region_list (Xbq _ hnd _ _ (Xbf (c:=c) (xo:=xo) hg (fun sl ob ρ a w hk m=>?_) (fun v sl ob ρ a w u hk m hr=>?_) ops.toList l sl ob ρ a w hc h m))
      · exact⟨.normal,_,ob,ρ,hk,trivial,m.base,m.om,m.sm.keep keep,m.size,m.df,m.xo,m.gl⟩
      · exact⟨.panic v,_,ob,ρ,hk,⟨u,rfl,hr⟩,m.base,m.om,m.sm.keep pk,m.size,m.df,m.xo,m.gl⟩
    | true=>
      simp only[Ubb,Uai]at hc;obtain⟨⟨⟨hlen,hsel⟩,hpk⟩,hcan⟩:=hc;have hlen:ord.length<=ops.size:=by simpa using hlen
      let Q':Exit->Act->World->Prop:=fun e a w=>match e with
        | .panic ch=>Xc5 c xo pk Q ch a w
        | e=>lift c xo Q e a w
      have hx:Ext w { w with drawn:=w.drawn+1 }:=Rba w _;have key:=Yu (Q:=Q') (QP:=Q) (K:=fun sl ob=>Q .normal (Xk sl keep) ob) hg hsel hpk
        (fun sl ob ρ a w hk m=>(⟨.normal,_,ob,ρ,hk,trivial,m.base,m.om,m.sm.keep keep,m.size,m.df,m.xo,m.gl⟩:lift c xo Q .normal a w))
        (fun ch a w=>Iff.rfl) ord l (fun _=>False) (Array.replicate ops.size false) sl ob ρ a { w with drawn:=w.drawn+1 } (fun _ h=>h.elim) hcan
        (fun k o _ hl=>by
          rcases Uaa k ops.size with h' | h'
          · simp[h']at hl
          · simp[h']at hl) h ⟨m.base.tr hx.tr,m.om.ext hx,m.sm.tr hx.tr,m.size,m.df.tr hx.tr,m.xo,m.gl⟩
      have hany:=Xbp _ _ _ _ key;refine wpIn_mono (wpIn_region_any hm (Xev hnd _ _ _ _ (Jr _ _ _ _ _ hlen hany))) (fun e a' w' he=>?_);cases e with
      | panic ch=>
        obtain⟨v,sl',ob',ρ',u,h1,h2,h3,m'⟩:=he;exact⟨.panic v,_,ob',ρ',h1,⟨u,h2,h3⟩,m'⟩
      | _=>exact he
  | .seq x y,s,Q,sl,ob,ρ,a,w,hc,hn,h,m=>by
    cases s<;>simp[S.chk]at hc;simp only[cwp]at h;refine wpIn_seq (wpIn_mono (Yi hm hg x _ _ sl ob ρ a w hc.1 (Yv3 hn) h m) ?_);rintro e a' w' ⟨ae,sl',ob',ρ',hq,he,m'⟩;cases ae with
    | normal=>
      cases e<;>simp only[exM]at he;exact Yi hm hg y _ Q sl' ob' ρ' a' w' hc.2 (Yv4 hn) hq m'
    | exit n=>
      cases e<;>simp only[exM]at he;exact⟨.exit n,sl',ob',ρ',hq,he,m'⟩
    | ret=>
      cases e<;>simp only[exM]at he;exact⟨.ret,sl',ob',ρ',hq,trivial,m'⟩
    | panic v=>
      cases e<;>simp only[exM]at he;exact⟨.panic v,sl',ob',ρ',hq,he,m'⟩
  | .cond d x y,s,Q,sl,ob,ρ,a,w,hc,hn,h,m=>by
    cases s<;>simp[S.chk]at hc;obtain⟨⟨h1,h2⟩,h3⟩:=hc;simp only[cwp]at h;have r1:=A.sound m.sm h1;unfold Xa9 at h;split at h
    · rename_i t e
      rw[e,rep_bool]at r1;exact wpIn_cond_split r1 (fun ht=>Yi hm hg x _ Q sl ob ρ a w h2 (Yv3 hn) (h.1 ht) m) (fun ht=>Yi hm hg y _ Q sl ob ρ a w h3 (Yv4 hn) (h.2 ht) m)
    · exact h.elim
  | .block n x,s,Q,sl,ob,ρ,a,w,hc,hn,h,m=>by
    cases s<;>simp[S.chk]at hc;obtain⟨rfl,h1⟩:=hc;simp only[cwp]at h;refine wpIn_block (wpIn_mono (Yi hm hg x _ _ sl ob ρ a w h1 hn h m) ?_);rintro e a' w' ⟨ae,sl',ob',ρ',hq,he,m'⟩;cases ae with
    | normal=>
      cases e<;>simp only[exM]at he;exact⟨.normal,sl',ob',ρ',hq,trivial,m'⟩
    | exit k=>
      cases e<;>simp only[exM]at he;subst he;simp only[Y3]at hq;simp only[Exit.inBlock];split
      · rename_i e; rw[Uby e]at hq; exact⟨.normal,sl',ob',ρ',hq,trivial,m'⟩
      · rename_i e; rw[Ubo e]at hq; exact⟨.exit _,sl',ob',ρ',hq,rfl,m'⟩
    | ret=>
      cases e<;>simp only[exM]at he;exact⟨.ret,sl',ob',ρ',hq,trivial,m'⟩
    | panic v=>
      cases e<;>simp only[exM]at he;exact⟨.panic v,sl',ob',ρ',hq,he,m'⟩
  | .loop x,s,Q,sl,ob,ρ,a,w,hc,hn,h,m=>by
    cases s<;>simp[S.chk]at hc;simp only[cwp]at h;obtain⟨ι,St,Ot,I,μ,i0,hi0,he0,he1,hstep⟩:=h.run;let G:Act->World->Nat->Prop:=fun a w n=>∃i ρ,I i/\μ i=n/\Mod c xo ρ (St i) (Ot i) a w;let M:Act->World->Nat:=fun a w=>open Classical in if h:∃n,G a w n then Classical.choose (Xbv (p:=G a w) (Classical.choose h) (Classical.choose_spec h)) else 0
    have hM:∀a w n,G a w n->G a w (M a w)/\M a w<=n:=by
      intro a w n hn;have hex:∃n,G a w n:=⟨n,hn⟩
      have:=Classical.choose_spec (Xbv (p:=G a w) (Classical.choose hex) (Classical.choose_spec hex));simp only[M,hex,dif_pos];exact⟨this.1,this.2 n hn⟩
    refine wpIn_loop (I:=fun a w=>∃n,G a w n) (μ:=M) ⟨μ i0,i0,ρ,hi0,rfl,by rw[<-he0,<-he1]; exact⟨m.base,m.om,m.sm.keep _,m.size,m.df,m.xo,m.gl⟩⟩ ?_;rintro a1 w1 ⟨n,hgn⟩;obtain⟨⟨i,ρ1,hi,hmu,m1⟩,_⟩:=hM a1 w1 n hgn;refine wpIn_mono (Yi hm hg x _ _ _ _ ρ1 a1 w1 hc hn (hstep i hi) m1) ?_;rintro e a' w' ⟨ae,sl',ob',ρ',hq,he,m'⟩;cases ae with
    | normal=>
      cases e<;>simp only[exM]at he;simp only[W3]at hq;obtain⟨drp,q1,q2,j,hj,hlt,hSj,hOj⟩:=hq;have hold1:∀id o,ρ1.m id=some o->Xc (Xa (Ot i)) drp id=false:=fun id o h0=>by
        obtain⟨x,hx⟩:=m1.om.dom id o h0;have hlt:¬Xa (Ot i)<=id:=fun hle=>by rw[X1 _ _ hle]at hx; cases hx
        simp[Xc,hlt]
      have hold:∀id o,c.m0 id=some o->Xc (Xa (Ot i)) drp id=false:=fun id o h0=>by
        obtain⟨o',h1,_⟩:=m1.base.same id o h0;exact hold1 id o' h1
      have hev:∀p∈c.ev,V.men (Xc (Xa (Ot i)) drp) p.1=false:=fun p hp=>Rcg hold1 (m1.base.ext p hp);have hg:G a' w' (μ j):=⟨j,_,hj,rfl,by rw[<-hSj,<-hOj]; exact m'.sub hold hev q1 q2⟩
      have:=hM a' w' _ hg;exact⟨⟨_,hg⟩,by omega⟩
    | exit k=>
      cases e<;>simp only[exM]at he;exact⟨.exit k,sl',ob',ρ',hq,he,m'⟩
    | ret=>
      cases e<;>simp only[exM]at he;exact⟨.ret,sl',ob',ρ',hq,trivial,m'⟩
    | panic v=>
      cases e<;>simp only[exM]at he;exact⟨.panic v,sl',ob',ρ',hq,he,m'⟩
  | .exit n,s,Q,sl,ob,ρ,a,w,hc,hn,h,m=>by
    cases s<;>simp[S.chk]at hc;subst hc;exact wpIn_exit ⟨.exit n,sl,ob,ρ,h,rfl,m⟩
  | .ret,s,Q,sl,ob,ρ,a,w,hc,hn,h,m=>by
    cases s<;>simp[S.chk]at hc;exact wpIn_ret ⟨.ret,sl,ob,ρ,h,trivial,m⟩
  | .rangeFunc f qs ca cb,s,Q,sl,ob,ρ,a,w,hc,hn,h,m=>by
    cases s<;>simp only[S.chk,Uah]at hc;rename_i tag ps g x y keep;obtain⟨hmk,rfl⟩:c.mrk=true/\rd=none:=hn.resolve_left (by simp[S.noR]);exact X36 hg hmk hc h m
  | .scope _,s,Q,sl,ob,ρ,a,w,hc,hn,h,m=>by cases s<;>simp[S.chk]at hc
  | .label _,s,Q,sl,ob,ρ,a,w,hc,hn,h,m=>by cases s<;>simp[S.chk]at hc
  | .goto _,s,Q,sl,ob,ρ,a,w,hc,hn,h,m=>by cases s<;>simp[S.chk]at hc
  | .refuse _,s,Q,sl,ob,ρ,a,w,hc,hn,h,m=>by cases s<;>simp[S.chk]at hc
end Go.Ab
namespace Go.Ab
open Go

structure Same (w w2:World):Prop where
 size:w2.heap.size=w.heap.size
 heap:∀b:Nat,w2.heap[b]? = w.heap[b]?\/∃x y,w.heap[b]? = some (Obj.deferred x)/\w2.heap[b]? = some (Obj.deferred y)
 tape:w2.tape=w.tape
 os:w2.os=w.os
 out:w2.output=w.output
 drawn:w2.drawn=w.drawn
theorem Same.refl (w:World):Same w w:=⟨rfl,fun _=>.inl rfl,rfl,rfl,rfl,rfl⟩
theorem Same.trans {w w2 w3:World}(h:Same w w2)(h':Same w2 w3):Same w w3:=by
 refine⟨h'.size.trans h.size,fun b=>?_,h'.tape.trans h.tape,h'.os.trans h.os,h'.out.trans h.out,h'.drawn.trans h.drawn⟩;rcases h.heap b with h1 | ⟨x,y,h1,h2⟩
 ·rcases h'.heap b with h3 | ⟨u,v,h3,h4⟩
  ·exact .inl (h3.trans h1)
  ·exact .inr ⟨u,v,h1.symm.trans h3,h4⟩
 ·rcases h'.heap b with h3 | ⟨u,v,h3,h4⟩
  ·exact .inr ⟨x,y,h1,h3.trans h2⟩
  ·exact .inr ⟨x,v,h1,h4⟩
section
variable {w w2:World} (s:Same w w2)
include s
theorem Same.keep {b:Nat}{o:Obj}(h:w.heap[b]? = some o)(ho:∀x,o ≠ .deferred x):w2.heap[b]? = some o:=by
 rcases s.heap b with h1 | ⟨x,y,h1,_⟩
 ·exact h1.trans h
 ·rw[h]at h1; cases h1; exact absurd rfl (ho x)
theorem Same.cell {b o:Nat}{v:Value}(h:w.cell? ⟨b,o,none⟩=some v):w2.cell? ⟨b,o,none⟩=some v:=by
 rcases s.heap b with h1 | ⟨x,y,h1,_⟩
 ·rw[cell?_congr h1]; exact h
 ·simp[World.cell?,h1]at h
theorem Same.cells {ow:Nat->Prop}{a:Addr}{vs:List Value}(h:Cells w ow a vs):Cells w2 ow a vs:=
 ⟨fun hne=>⟨(h.1 hne).1,(h.1 hne).2.1,by rw[s.size]; exact (h.1 hne).2.2⟩,fun i hi=>s.cell (h.2 i hi)⟩
mutual
theorem D.rep_same {ow:Nat->Prop}:∀(d:D) (cs:List Value),d.rep w ow cs->d.rep w2 ow cs
 | .int k n,cs,h=>by simpa[D.rep]using h
 | .bool b,cs,h=>by simpa[D.rep]using h
 | .str s,cs,h=>by simpa[D.rep]using h
 | .nils,cs,h=>by simpa[D.rep]using h
 | .nili,cs,h=>by simpa[D.rep]using h
 | .nilp,cs,h=>by simpa[D.rep]using h
 | .nilf,cs,h=>by simpa[D.rep]using h
 | .nilm,cs,h=>by simpa[D.rep]using h
 | .ref x,cs,h=>by
  simp only[D.rep]at h⊢;obtain⟨a,vs,e,h0,h1,h2⟩:=h;exact⟨a,vs,e,h0,s.cells h1,D.rep_same x vs h2⟩
 | .iface t x,cs,h=>by
  simp only[D.rep]at h⊢;obtain⟨u,e,h1⟩:=h;refine⟨u,e,?_⟩;rcases h1 with⟨p,ds,q,r⟩ | ⟨p,r⟩
  ·exact .inl ⟨p,ds,q,D.rep_same x ds r⟩
  ·exact .inr ⟨p,D.rep_same x _ r⟩
 | .fn f fi ca,cs,h=>by
  simp only[D.rep]at h⊢;obtain⟨fs,gs,e,h1,h2⟩:=h;exact⟨fs,gs,e,Rch fi fs h1,Rch ca gs h2⟩
 | .agg xs,cs,h=>by
  simp only[D.rep]at h⊢;exact Rci xs cs h
 | .list sz xs,cs,h=>by
  simp only[D.rep]at h⊢;rcases h with h | ⟨a,cap,vs,h1,h2,h3,h4,h5⟩
  ·exact .inl h
  ·exact .inr ⟨a,cap,vs,h1,h2,s.cells h3,Rci xs vs h4,h5⟩
theorem Rch {ow:Nat->Prop}:∀(xs:List D) (vs:List Value),Rab w ow xs vs->Rab w2 ow xs vs
 | [],vs,h=>by simpa only[Rab]using h
 | x::r,vs,h=>by
  simp only[Rab]at h⊢;obtain⟨u,us,e,h1,h2⟩:=h;refine⟨u,us,e,?_,Rch r us h2⟩;rcases h1 with⟨p,ds,q,r⟩ | ⟨p,r⟩
  ·exact .inl ⟨p,ds,q,D.rep_same x ds r⟩
  ·exact .inr ⟨p,D.rep_same x _ r⟩
theorem Rci {ow:Nat->Prop}:∀(xs:List D) (cs:List Value),Rac w ow xs cs->Rac w2 ow xs cs
 | [],vs,h=>by simpa only[Rac]using h
 | x::r,vs,h=>by
  simp only[Rac]at h⊢;obtain⟨c1,c2,e,h1,h2⟩:=h;exact⟨c1,c2,e,D.rep_same x c1 h1,Rci r c2 h2⟩
end
mutual
theorem Rcj {ρ:Env}:∀(x:V) (cs:List Value),x.repC w ρ cs->x.repC w2 ρ cs
 | .d x,cs,h=>by simp only[V.repC]at h⊢; exact D.rep_same s x cs h
 | .ptr _ _,cs,h=>by simpa only[V.repC]using h
 | .sl _ _,cs,h=>by simpa only[V.repC]using h
 | .sd _ _,cs,h=>by simpa only[V.repC]using h
 | .mp _,cs,h=>by simpa only[V.repC]using h
 | .hd _ _,cs,h=>by simpa only[V.repC]using h
 | .ep _ _ _ _ _ _,cs,h=>by simpa only[V.repC]using h
 | .bs _ _ _ _,cs,h=>by simpa only[V.repC]using h
 | .fn f fi ca,cs,h=>by
  simp only[V.repC]at h⊢;obtain⟨fs,gs,e,h1,h2⟩:=h;exact⟨fs,gs,e,Rcl fi fs h1,Rcl ca gs h2⟩
 | .agg xs,cs,h=>by simp only[V.repC]at h⊢; exact Rck xs cs h
 | .iface ty x,cs,h=>by
  simp only[V.repC]at h⊢;obtain⟨u,e,h1⟩:=h;refine⟨u,e,?_⟩;rcases h1 with h1 | ⟨p,ds,q,r⟩ | ⟨p,r⟩
  ·exact .inl h1
  ·exact .inr (.inl ⟨p,ds,q,Rcj x ds r⟩)
  ·exact .inr (.inr ⟨p,Rcj x _ r⟩)
 | .tup xs,cs,h=>by
  simp only[V.repC]at h⊢;obtain⟨vs,e,h1⟩:=h;exact⟨vs,e,Rcl xs vs h1⟩
 | .undef,cs,h=>by simpa only[V.repC]using h
 | .any,cs,h=>by simpa only[V.repC]using h
theorem Rck {ρ:Env}:∀(xs:List V) (cs:List Value),Rap w ρ xs cs->Rap w2 ρ xs cs
 | [],cs,h=>by simpa only[Rap]using h
 | x::r,cs,h=>by
  simp only[Rap]at h⊢;obtain⟨c1,c2,e,h1,h2⟩:=h;exact⟨c1,c2,e,Rcj x c1 h1,Rck r c2 h2⟩
theorem Rcl {ρ:Env}:∀(xs:List V) (vs:List Value),V.reps w ρ xs vs->V.reps w2 ρ xs vs
 | [],vs,h=>by simpa only[V.reps]using h
 | x::r,vs,h=>by
  simp only[V.reps]at h⊢;obtain⟨u,us,e,h1,h2⟩:=h;refine⟨u,us,e,?_,Rcl r us h2⟩;rcases h1 with h1 | ⟨p,ds,q,r⟩ | ⟨p,r⟩
  ·exact .inl h1
  ·exact .inr (.inl ⟨p,ds,q,Rcj x ds r⟩)
  ·exact .inr (.inr ⟨p,Rcj x _ r⟩)
end
theorem V.rep_same {ρ:Env}{x:V}{u:Value}(h:x.rep w ρ u):x.rep w2 ρ u:=by
 rcases h with h1 | ⟨p,ds,q,r⟩ | ⟨p,r⟩
 ·exact .inl h1
 ·exact .inr (.inl ⟨p,ds,q,Rcj s x ds r⟩)
 ·exact .inr (.inr ⟨p,Rcj s x _ r⟩)
theorem Yb.same {ρ:Env}:∀(l:List (D×V)) (es:List MapEntry),Yb w ρ l es->Yb w2 ρ l es
 | [],es,h=>h
 | (k,v)::r,es,h=>by
  obtain⟨e,es',h1,h2,h3,h4⟩:=h;exact⟨e,es',h1,h2,V.rep_same s h3,Yb.same r es' h4⟩
theorem Un.same {ρ:Env}{id:Nat}{x:Ob}(h:Un w ρ id x):Un w2 ρ id x:=by
 cases x with
 | box E t=>
  obtain⟨b,cs,h2,h3,h4⟩:=h;exact⟨b,cs,h2,s.keep h3 (by simp),Rcj s _ _ h4⟩
 | arr E sz xs=>
  rcases h with h1 | ⟨b,cap,cs,sp,h2,h3,h4,h5⟩
  ·exact .inl h1
  ·exact .inr ⟨b,cap,cs,sp,h2,s.keep h3 (by simp),Rci s _ _ h4,h5⟩
 | vec E sz xs=>
  rcases h with h1 | ⟨b,cap,cs,sp,h2,h3,h4,h5⟩
  ·exact .inl h1
  ·exact .inr ⟨b,cap,cs,sp,h2,s.keep h3 (by simp),Rck s _ _ h4,h5⟩
 | map es=>
  obtain⟨b,l,clk,h2,h3,h4,h5⟩:=h;exact⟨b,l,clk,h2,s.keep h3 (by simp),Yb.same s _ _ h4,h5⟩
 | lp tag st sl=>
  obtain⟨b,fn,tm,dd,ps,ca,cb,h2,h3,h4,h5⟩:=h;exact⟨b,fn,tm,dd,ps,ca,cb,h2,s.keep h3 (by simp),h4,fun p hp=>V.rep_same s (h5 p hp)⟩
 | it m n seen=>
  cases m with
  | none=>obtain⟨b,h2,h3⟩:=h; exact⟨b,h2,s.keep h3 (by simp)⟩
  | some j=>obtain⟨b,mb,h2,h4,h3⟩:=h; exact⟨b,mb,h2,h4,s.keep h3 (by simp)⟩
 | gone=>exact h
theorem OM.same {ρ:Env}{ob:Xb}(h:OM w ρ ob)(hg:∀b o,ρ.gl b=some o->w2.heap[b]? = w.heap[b]?):OM w2 ρ ob:=
 ⟨fun id x hx=>Un.same s (h.one id x hx),h.dom,h.inj,fun b hb=>by rw[s.size]; exact h.xlt b hb,fun b o hb=>⟨(hg b o hb).trans (h.glb b o hb).1,(h.glb b o hb).2⟩,h.xdis,h.once⟩
theorem SM.same {ρ:Env}{sl:Xf}{a:Act}(h:SM w ρ sl a):SM w2 ρ sl a:=fun k=>V.rep_same s (h k)
end

theorem Yal {P:Program}{w:World}{r:Nat}(h:w.heap[r]? = some (.deferred (some []))) :
  (Instr.takeDeferred r).run P w=.ok [] (Xaz w r (.deferred none))/\Same w (Xaz w r (.deferred none))/\∀b,b ≠ r->(Xaz w r (.deferred none)).heap[b]? = w.heap[b]?:=by
 have hget:(getObj r).run P w=.ok (.deferred (some [])) w:=by simp[getObj,Sem.run,h]
 have hset:=Qs (P:=P) (o:=.deferred none) w h rfl;refine⟨by simp only[Instr.takeDeferred,Sem.run_bind,hget,Result.andThen_ok,hset,Sem.run_pure],⟨Vh ..,fun b=>?_,rfl,rfl,rfl,rfl⟩,fun b hb=>Zv w _ (Ne.symm hb)⟩;by_cases e:b=r
 ·subst e; exact .inr ⟨_,_,h,Xau w _ (Xj h)⟩
 ·exact .inl (Zv w _ (Ne.symm e))

theorem Vo {F:Fence}{n:Nat}{P:Program}{fn:Func}{tmps:Array Value}{R:Ending->World->Prop}:∀(ms:List Nat) (w:World),ms.Nodup->(∀r∈ms,w.heap[r]? = some (.deferred (some [])))->
  (∀w2,Same w w2->(∀b,b∉ms->w2.heap[b]? = w.heap[b]?)->∃v,(results fn tmps).run P w2=.ok v w2/\R (.returned v) w2)->LeavesInM F n P fn tmps R (ms.map mkD) .returning w
 | [],w,_,_,h=>by
  simp only[Ubm,LeavesInM,LeavesIn];exact h w (Same.refl w) (fun _ _=>rfl)
 | r::ms,w,hn,hm,h=>by
  obtain⟨h1,h2,h3⟩:=Yal (P:=P) (hm r (by simp));obtain⟨hr,hn'⟩:=List.nodup_cons.1 hn;simp only[Uam,LeavesInM];refine⟨by simp,.inl ⟨r,_,rfl,h1,Vo ms _ hn' (fun j hj=>?_) (fun w2 s hs=>?_)⟩⟩
  ·rw[h3 j (fun e=>hr (e▸hj))]; exact hm j (by simp[hj])
  ·exact h w2 (h2.trans s) (fun b hb=>(hs b (fun e=>hb (by simp[e]))).trans (h3 b (fun e=>hb (by simp[e]))))
end Go.Ab
namespace Go.Ab
open Go

inductive RV where
 | t (k:Nat)
 | c (k n:Nat) (ag:Bool)

def RV.chk (P:Program):ResultVar->RV->Bool
 | .tmp j,.t k=>j==k
 | .cell a ty,.c k n ag=>a==k&&Yh P ty==some n&&(P.underlying ty).isSome&&agT P ty==ag
 | _,_=>false
def Q5 (P:Program):List ResultVar->List RV->Bool
 | [],[]=>true
 | x::r,y::s=>y.chk P x&&Q5 P r s
 | _,_=>false

def RV.wp (sl:Xf)(ob:Xb)(K:V->Prop):RV->Prop
 | .t k=>K (look sl k)
 | .c k n ag=>ldK ob n ag K (look sl k)
def Vg (sl:Xf)(ob:Xb):List RV->(List V->Prop)->Prop
 | [],K=>K []
 | x::r,K=>x.wp sl ob fun v=>Vg sl ob r fun vs=>K (v::vs)

def Ws:List V->V
 | [v]=>v
 | vs=>.tup vs

def Vj (K:List D->Xb->Prop):Option (List D×Xb)->Prop
 | some (l,ob)=>K l ob
 | none=>False

def Ux (rs:List RV)(K:V->Prop):Ze
 | .normal,sl,ob=>Vg sl ob rs fun vs=>Vj (fun l _=>K (Ws (l.map .d))) (Rbv ob vs)
 | .ret,sl,ob=>Vg sl ob rs fun vs=>Vj (fun l _=>K (Ws (l.map .d))) (Rbv ob vs)
 | .exit _,_,_=>False
 | .panic _,_,_=>False

def gvO (v:V)(ob:Xb)(K:V->Xb->Prop):Option (D×Xb)->Prop
 | some (d,ob')=>K (.d d) ob'
 | none=>K v ob
def Xe1:List V->Xb->(List V->Xb->Prop)->Prop
 | [],ob,K=>K [] ob
 | v::r,ob,K=>gvO v ob (fun v' ob'=>Xe1 r ob' fun vs ob''=>K (v'::vs) ob'') (V.giv ob v)
def X8 (n:Nat)(K:Xb->Prop)(vs:List V)(ob:Xb):Prop:=
 ∃kp:List Nat,Rb8 (Xc n kp) vs=false/\Xh (Xc n kp) (Y2 (Xc n kp) ob)=true/\K (Y2 (Xc n kp) ob)
def Vs (n:Nat)(rs:List RV)(K:Out->Xb->Prop):Ze
 | .normal,sl,ob=>Vg sl ob rs fun vs=>Xe1 vs ob fun vs ob=>X8 n (K (.ret (Ws vs))) vs ob
 | .ret,sl,ob=>Vg sl ob rs fun vs=>Xe1 vs ob fun vs ob=>X8 n (K (.ret (Ws vs))) vs ob
 | .panic v,_,ob=>X8 n (K (.panic v)) [v] ob
 | .exit _,_,_=>False

def Ua (k:Nat):List V->Xf
 | []=>[]
 | v::r=>(k,v)::Ua (k+1) r

def Uv (P:Program)(f n:Nat)(s:S)(rs:List RV):Bool:=match P.funcs[f]? with
 | some fn=>match fn.body with
  | some code=>decide (n<=fn.ntmps)&&S.chk P fn.ntmps code s&&Q5 P fn.results.toList rs
  | none=>false
 | none=>false
def Xi (P:Program)(f n:Nat)(s:S)(rs:List RV):Bool:=Uv P f n s rs&&s.noR

section
variable {P:Program} {w:World} {ρ:Env}

def Xgc (a:Act)(r:ResultVar):Sem Value:=match r with
 | .tmp t=>pure (a.tmps.getD t undef)
 | .cell x t=>do loadVar t (<-asAddr (a.tmps.getD x undef))

theorem Xmg {a:Act}{sl:Xf}{ob:Xb}(hs:SM w ρ sl a)(hO:OM w ρ ob):∀(xs:List ResultVar) (rs:List RV) (K:List V->Prop),Q5 P xs rs=true->Vg sl ob rs K->
  ∃vs us,K vs/\V.reps w ρ vs us/\(xs.mapM (Xgc a)).run P w=.ok us w
 | [],[],K,_,h=>⟨[],[],h,by simp[V.reps],by simp⟩
 | x::r,y::s,K,hc,h=>by
  simp only[Q5,Uai]at hc;simp only[Vg]at h;have one:∃v u,Vg sl ob s (fun vs=>K (v::vs))/\v.rep w ρ u/\(Xgc a x).run P w=.ok u w:=by
   cases x with
   | tmp t=>
    cases y with
    | t k=>simp[RV.chk]at hc; obtain⟨rfl,_⟩:=hc; exact⟨_,_,h,hs t,by simp[Xgc]⟩
    | c k n ag=>simp[RV.chk]at hc
   | cell z t=>
    cases y with
    | t k=>simp[RV.chk]at hc
    | c k n ag=>
     simp only[RV.chk,Uai,Ubn]at hc;obtain⟨⟨⟨⟨rfl,h1⟩,h2⟩,h3⟩,_⟩:=hc;simp only[RV.wp]at h;obtain⟨v,y,hK,hr,hrun⟩:=Qu (P:=P) (a:=a) (n:=n) (ag:=ag) (x:=.t z) (op:=.load t (.tmp z)) hs hO (by simp[C.chk,h1,h2,h3,A.chk]) (by simpa[A.ev]using h);refine⟨y,v,hK,hr,?_⟩
     have:=hrun ⟨none,.load t (.tmp z),0, "", #[],none⟩ rfl w (fun _=>Ext.refl w)
     simp only[execOp,Act.eval,Sem.run_bind,Instr.loadAt]at this;simp only[Xgc,Sem.run_bind];generalize hv:a.tmps.getD z undef=pv at *;cases pv with
     | pointer ad=>
      cases ad with
      | none=>simp[Instr.sureAddr]at this
      | some ad=>
       simp only[Instr.sureAddr,Sem.run_pure,Result.andThen_ok]at this;simp only[asAddr,Sem.run_pure,Result.andThen_ok];revert this;generalize (loadVar t ad).run P w=res;intro this;cases res with
       | ok x w'=>simp at this; obtain⟨rfl,rfl⟩:=this; rfl
       | halt x w'=>simp at this
     | _=>simp[Instr.sureAddr]at this
  obtain⟨v,u,h1,h2,h3⟩:=one;obtain⟨vs,us,k,h4,h5⟩:=Xmg hs hO r s _ hc.2 h1;refine⟨v::vs,u::us,k,?_,?_⟩
  ·simp only[V.reps]; exact⟨u,us,rfl,h2,h4⟩
  ·simp only[List.mapM_cons,Sem.run_bind,h3,Result.andThen_ok,h5,Sem.run_pure]
 | [],_::_,_,hc,_=>by simp[Q5]at hc
 | _::_,[],_,hc,_=>by simp[Q5]at hc

def Xvu:List Value->Value
 | [u]=>u
 | us=>.tuple us.toArray

theorem Wf {fn:Func}{a:Act}{sl:Xf}{ob:Xb}{rs:List RV}{K:List V->Prop}(hs:SM w ρ sl a)(hO:OM w ρ ob)(hc:Q5 P fn.results.toList rs=true)(h:Vg sl ob rs K) :
  ∃vs us,K vs/\V.reps w ρ vs us/\(results fn a.tmps).run P w=.ok (Xvu us) w:=by
 obtain⟨vs,us,k,h1,h2⟩:=Xmg (P:=P) hs hO _ _ _ hc h;refine⟨vs,us,k,h1,?_⟩;have h3:(fn.results.mapM (Xgc a)).run P w=.ok us.toArray w:=by
  rw[Array.mapM_eq_mapM_toList];simp only[Sem.run_map,h2,Result.andThen_ok]
 have h4:results fn a.tmps=(fn.results.mapM (Xgc a) >>= fun vs=>pure (if h:vs.size=1 then vs[0] else .tuple vs)):=rfl;rw[h4,Sem.run_bind];simp only[h3,Result.andThen_ok,Sem.run_pure];congr 1;cases us with
 | nil=>simp[Xvu]
 | cons u r=>
  cases r with
  | nil=>simp[Xvu]
  | cons u' r'=>simp[Xvu]

theorem V7 {vs:List V}{us:List Value}(h:V.reps w ρ vs us):(Ws vs).rep w ρ (Xvu us):=by
 cases vs with
 | nil=>
  simp only[V.reps]at h; subst h;rw[show Ws []=.tup [] from rfl,We]; exact⟨[],rfl,by simp[V.reps]⟩
 | cons v r=>
  simp only[V.reps]at h;obtain⟨u,us',rfl,h1,h2⟩:=h;cases r with
  | nil=>simp only[V.reps]at h2; subst h2; exact h1
  | cons v' r'=>
   have h2':=h2;simp only[V.reps]at h2;obtain⟨u',us'',rfl,h3,h4⟩:=h2;show (V.tup _).rep w ρ _;rw[We];refine⟨_,rfl,?_⟩;simp only[V.reps];exact⟨u,_,rfl,h1,u',us'',rfl,h3,h4⟩

theorem Qk:∀(vs:List V) (us:List Value) {ρ:Env} {ob ob':Xb} {l:List D},OM w ρ ob->V.reps w ρ vs us->Rbv ob vs=some (l,ob')->∃ρ',Tr w ρ w ρ'/\OM w ρ' ob'/\V.reps w ρ' (l.map .d) us
 | [],us,ρ,ob,ob',l,hO,h,e=>by
  simp only[Rbv,Uaq,Ub0]at e;obtain⟨rfl,rfl⟩:=e;exact⟨ρ,Tr.refl _ _,hO,by simpa only[Ubm,V.reps]using h⟩
 | x::r,us,ρ,ob,ob',l,hO,h,e=>by
  simp only[Rbv]at e;simp only[V.reps]at h;obtain⟨u,us',rfl,h1,h2⟩:=h;split at e
  ·rename_i dd ob1 hg;obtain⟨ρ1,t1,o1,hr⟩:=Xcr hO (u:=u) h1 hg;cases hg2:Rbv ob1 r with
   | none=>simp[hg2,Xca]at e
   | some q=>
    obtain⟨l2,ob2⟩:=q;simp only[hg2,Xca,Uaq,Ub0]at e;obtain⟨rfl,rfl⟩:=e;obtain⟨ρ2,t2,o2,hr2⟩:=Qk r us' o1 (Rav t1 _ _ h2) hg2;exact⟨ρ2,t1.trans t2,o2,by simp only[Uam,V.reps]; exact⟨u,us',rfl,Raw t2 hr,hr2⟩⟩
  ·cases e
theorem J6:∀(vs:List V) (us:List Value) {ρ:Env} {ob:Xb} {K:List V->Xb->Prop},OM w ρ ob->V.reps w ρ vs us->Xe1 vs ob K->∃vs' ob' ρ',K vs' ob'/\Tr w ρ w ρ'/\OM w ρ' ob'/\V.reps w ρ' vs' us
 | [],us,ρ,ob,K,hO,h,e=>by
  simp only[Xe1]at e;exact⟨[],ob,ρ,e,Tr.refl _ _,hO,h⟩
 | x::r,us,ρ,ob,K,hO,h,e=>by
  simp only[Xe1]at e;simp only[V.reps]at h;obtain⟨u,us',rfl,h1,h2⟩:=h;cases hg:V.giv ob x with
  | none=>
   simp only[hg,gvO]at e;obtain⟨vs',ob',ρ',k,t,o,hr⟩:=J6 r us' hO h2 e;exact⟨_,ob',ρ',k,t,o,by simp only[V.reps]; exact⟨u,us',rfl,Raw (u:=u) t h1,hr⟩⟩
  | some q=>
   obtain⟨dd,ob1⟩:=q;simp only[hg,gvO]at e;obtain⟨ρ1,t1,o1,hr⟩:=Xcr hO (u:=u) h1 hg;obtain⟨vs',ob',ρ',k,t,o,hr2⟩:=J6 r us' o1 (Rav t1 _ _ h2) e;exact⟨_,ob',ρ',k,t1.trans t,o,by simp only[V.reps]; exact⟨u,us',rfl,Raw t hr,hr2⟩⟩

theorem Uc {vs:List V}{us:List Value}(h:V.reps w ρ vs us):∀(k:Nat) (t:Array Value),(∀i (hi:i<us.length),t.getD (k+i) undef=us[i])->∀j,(look (Ua k vs) j).rep w ρ (t.getD j undef):=by
 induction vs generalizing us with
 | nil=>intro k t _ j; exact Jp
 | cons v r ih=>
  simp only[V.reps]at h;obtain⟨u,us',rfl,h1,h2⟩:=h;intro k t ht j;simp only[Ua,look];split
  ·rename_i e; subst e;have:=ht 0 (by simp);simp only[Nat.add_zero,List.getElem_cons_zero]at this;rw[this]; exact h1
  ·refine ih h2 (k+1) t (fun i hi=>?_) j;have:=ht (i+1) (by simpa using hi);simp only[List.getElem_cons_succ]at this;rw[<-this]; congr 1; omega

theorem Uz {ρ1:Env}(mo:Xji w (own ρ) w (own ρ1)):∀(vs:List V) (us:List Value) (ds:List D),vs=ds.map .d->V.reps w ρ vs us->V.reps w ρ1 vs us
 | [],us,ds,_,h=>by simpa[V.reps]using h
 | v::r,us,[],e,h=>by simp at e
 | v::r,us,d::ds,e,h=>by
  simp only[Uam,Ua1]at e;obtain⟨rfl,e⟩:=e;simp only[V.reps]at h⊢;obtain⟨u,us',rfl,h1,h2⟩:=h;refine⟨u,us',rfl,?_,Uz mo r us' ds e h2⟩;rcases h1 with h1 | ⟨p,x,q,r⟩ | ⟨p,r⟩
  ·cases h1
  ·exact .inr (.inl ⟨p,x,q,by simp only[V.repC]at r⊢; exact Rad mo d x r⟩)
  ·exact .inr (.inr ⟨p,by simp only[V.repC]at r⊢; exact Rad mo d _ r⟩)

theorem Yv:∀{vs:List V} {us:List Value},V.reps w ρ vs us->us.length=vs.length
 | [],us,h=>by simp[V.reps]at h; simp[h]
 | v::r,us,h=>by
  simp only[V.reps]at h;obtain⟨u,us',rfl,_,h2⟩:=h;simp[Yv h2]

theorem Uj {P:Prg}(hm:P.p.follows .mixedOrders=true){f:Nat}{s:S}{rs:List RV}{ds:List D}{ob0:Xb}{K:V->Prop}(hc:Uv P.p f ds.length s rs=true)
  (h:cwp P s (Ux rs K) (Ua 0 (ds.map .d)) []):PCall P f (ds.map .d) ob0 K:=by
 unfold Uv at hc;split at hc
 ·rename_i fn hf;split at hc
  ·rename_i code hb;simp only[Uai,Ubp]at hc;obtain⟨⟨hn,h1⟩,h2⟩:=hc;refine⟨fun w ρ args hO hg hr=>callsIn_wide.1 (callsIn_of_wp_marks (n:=0) hf hb trivial ?_)⟩;let ρ0:Env:=⟨fun _=>none,own ρ,ρ.gl⟩
   let c:Ctx:=⟨w,fun _=>False,fn.ntmps,[],P.g,fun _=>none,[],true⟩
   have hnone:∀b,¬Xcf ρ0 b:=fun b ⟨_,_,h,_⟩=>by cases h
   have hlt:∀b,own ρ b->b<w.heap.size:=fun b h=>h.elim (fun ⟨_,_,h1,h2⟩=>Wy hO h1 h2) (hO.xlt b);have mo:Xji w (own ρ) w (own ρ0):=fun b h1 _=>⟨rfl,fun h2=>h2.elim (hnone b) h1⟩;have hr0:=Uz mo _ _ ds rfl hr;have hlen:args.length=ds.length:=by simpa using Yv hr
   have m:Mod c (own ρ) ρ0 (Ua 0 (ds.map .d)) [] { tmps:=args.toArray++Array.replicate (fn.ntmps-args.toArray.size) undef,defers:=[] } w:=by
    refine⟨⟨Uak _,fun _ _ _=>rfl,fun b h=>absurd h (hnone b),rfl,rfl,rfl,(fun id o h=>by cases h),(fun p hp=>by cases hp),Uak _⟩,⟨fun j x hx=>(by simp[Xd]at hx),fun j o hj=>(by cases hj),fun i j o p b hi=>(by cases hi),fun b hb=>hlt b hb,fun b o hb=>⟨(hO.glb b o hb).1,fun h=>h.elim (hnone b) (hO.glb b o hb).2⟩,fun b hb=>absurd hb (hnone b),trivial⟩,?_,?_,Dfr.nil,rfl,hg⟩
    ·refine Uc hr0 0 _ (fun i hi=>?_);simp[Ub8,hi]
    ·simp[c]; omega
   refine wpIn_mono (Yi (rd:=none) hm rfl code s _ _ _ ρ0 _ w h1 (.inr ⟨rfl,rfl⟩) h m) ?_;rintro e a' w' ⟨ae,sl',ob',ρ',hq,he,m'⟩;have hfin:Vg sl' ob' rs (fun vs=>Vj (fun l _=>K (Ws (l.map .d))) (Rbv ob' vs))->LeavesInM Fence.wide 0 P.p fn a'.tmps (fun e w'=>∃v u,K v/\e=.returned u/\v.rep w' ρ u/\Ext w w') a'.defers .returning w':=by
    intro hq;obtain⟨ms,q1,_,q3,q4⟩:=m'.df;have q1:a'.defers=ms.map mkD:=by rw[q1]; simp[c]
    rw[q1];refine Vo ms w' q3 (fun r hr=>(q4 r hr).2.1) (fun w2 sm hs=>?_);have hgl:∀b o,ρ'.gl b=some o->w2.heap[b]? = w'.heap[b]?:=fun b o hb=>hs b (fun hm=>by
     have h3:=(hO.glb b o (by rw[hg,<-show ρ'.gl=P.g from m'.gl]; exact hb)).1;have:=(q4 b hm).1;have:=Xj h3;show False;simp only[c]at *;omega)
    have om2:=OM.same sm m'.om hgl;obtain⟨vs,us,hk,hrep,hrun⟩:=Wf (P:=P.p) (fn:=fn) (SM.same sm m'.sm) om2 h2 hq;cases hgv:Rbv ob' vs with
    | none=>simp[hgv,Vj]at hk
    | some q=>
     obtain⟨l,ob2⟩:=q;simp only[hgv,Vj]at hk;obtain⟨ρ2,t2,o2,hr2⟩:=Qk vs us om2 hrep hgv;have mo2:Xji w2 (own ρ2) w2 (own ρ):=fun b h1 _=>⟨rfl,fun h2=>h1 (.inr (by rw[t2.xo,m'.xo]; exact h2))⟩;have hrep':=Uz mo2 _ _ l rfl hr2;have hext:Ext w w2:=⟨by rw[sm.size]; exact m'.base.size,fun b hb=>(hs b (fun hm=>by have:=(q4 b hm).1; simp only[c]at this; omega)).trans (m'.base.keep b hb (fun h=>h)),sm.tape.trans m'.base.tape,sm.os.trans m'.base.os,sm.out.trans m'.base.out,by rw[sm.drawn]; exact m'.base.drawn⟩
     exact⟨Xvu us,hrun,Ws (l.map .d),Xvu us,hk,rfl,V7 hrep',hext⟩
   cases ae with
   | normal=>
    cases e<;>simp only[exM]at he;exact hfin hq
   | ret=>
    cases e<;>simp only[exM]at he;exact hfin hq
   | exit n=>exact hq.elim
   | panic v=>exact hq.elim
  ·simp at hc
 ·simp at hc

theorem Xf8 {P:Prg}(hm:P.p.follows .mixedOrders=true){f:Nat}{s:S}{rs:List RV}{ds:List D}{ob0:Xb}{K:V->Prop}(hc:Xi P.p f ds.length s rs=true)
  (h:cwp P s (Ux rs K) (Ua 0 (ds.map .d)) []):PCall P f (ds.map .d) ob0 K:=by
 simp only[Xi,Uai]at hc;exact Uj hm hc.1 h

theorem Xas {ids:Nat->Bool}{vs:List V}{us:List Value}(hm:Rb8 ids vs=false)(h:V.reps w ρ vs us):V.reps w (ρ.del ids) vs us:=Rcb vs us hm h

def Ob.noMen (ids:Nat->Bool):Ob->Prop
 | .box _ t=>V.men ids t=false
 | .vec _ _ xs=>Rb8 ids xs=false
 | .map es=>Jk ids es=false
 | .lp _ _ sl=>Wo ids sl=true
 | .it m _ _=>Xaj ids m=false
 | _=>True
theorem Z1 {ids:Nat->Bool}:∀(ob:Xb),(∀e∈ob,e.2.noMen ids)->Xh ids ob=true
 | [],_=>rfl
 | (j,.box E t)::r,h=>by
  simp only[Xh,Uai,Ubq];exact⟨h (j,.box E t) (by simp),Z1 r fun e he=>h e (by simp[he])⟩
 | (j,.vec E z t)::r,h=>by
  simp only[Xh,Uai,Ubq];exact⟨h (j,.vec E z t) (by simp),Z1 r fun e he=>h e (by simp[he])⟩
 | (j,.map t)::r,h=>by
  simp only[Xh,Uai,Ubq];exact⟨h (j,.map t) (by simp),Z1 r fun e he=>h e (by simp[he])⟩
 | (j,.arr _ _ _)::r,h=>by simp only[Xh]; exact Z1 r fun e he=>h e (by simp[he])
 | (j,.gone)::r,h=>by simp only[Xh]; exact Z1 r fun e he=>h e (by simp[he])
 | (j,.lp tg st t)::r,h=>by
  simp only[Xh,Uai];exact⟨h (j,.lp tg st t) (by simp),Z1 r fun e he=>h e (by simp[he])⟩
 | (j,.it m n t)::r,h=>by
  simp only[Xh,Uai,Ubq];exact⟨h (j,.it m n t) (by simp),Z1 r fun e he=>h e (by simp[he])⟩
theorem Xlr {ids:Nat->Bool}(hd:∀id o,ρ.m id=some o->ids id=false):∀(l:List (D×V)) (es:List MapEntry),Yb w ρ l es->Jk ids l=false
 | [],_,_=>rfl
 | (k,v)::r,es,h=>by
  obtain⟨e,es',_,_,h3,h4⟩:=h;simp only[Jk,Rcg hd h3,Xlr hd r es' h4,Bool.or_self]
theorem Xd6 {ids:Nat->Bool}:∀(sl:Xf),(∀p∈sl,V.men ids p.2=false)->Wo ids sl=true
 | [],_=>rfl
 | (j,v)::r,h=>by
  simp only[Wo,Uai,Ubq];exact⟨h (j,v) (by simp),Xd6 r fun p hp=>h p (by simp[hp])⟩
theorem Un.noMen {ids:Nat->Bool}(hd:∀id o,ρ.m id=some o->ids id=false){j:Nat}{x:Ob}(h:Un w ρ j x):x.noMen ids:=by
 cases x with
 | box E t=>obtain⟨b,cs,_,_,h3⟩:=h; exact Rcd hd _ _ h3
 | vec E sz xs=>
  rcases h with⟨_,rfl⟩ | ⟨b,cap,cs,sp,_,_,h3,_⟩
  ·rfl
  ·exact Rce hd _ _ h3
 | map es=>obtain⟨b,l,clk,_,_,h3,_⟩:=h; exact Xlr hd _ _ h3
 | arr E sz xs=>trivial
 | gone=>trivial
 | lp tag st sl=>
  obtain⟨b,fn,tm,dd,ps,ca,cb,_,_,_,h3⟩:=h;exact Xd6 sl fun p hp=>Rcg hd (h3 p hp)
 | it m n seen=>
  cases m with
  | none=>rfl
  | some i=>
   obtain⟨b,mb,_,h3,_⟩:=h;rcases h3 with h3 | h3<;>exact hd _ _ h3
theorem Xfb {P:Prg}(hm:P.p.follows .mixedOrders=true){f:Nat}{s:S}{rs:List RV}{vs:List V}{ob:Xb}{K:Out->Xb->Prop}(hc:Xi P.p f vs.length s rs=true)
  (h:cwp P s (Vs (Xa ob) rs K) (Ua 0 vs) ob):ACall P f vs ob K:=by
 simp only[Xi,Uai]at hc;obtain⟨hc,hnr⟩:=hc;unfold Uv at hc;split at hc
 ·rename_i fn hf;split at hc
  ·rename_i code hb;simp only[Uai,Ubp]at hc;obtain⟨⟨hn,h1⟩,h2⟩:=hc;refine⟨fun w ρ args hO hg hr=>calls_of_wp hf hb ?_⟩;let c:Ctx:=⟨w,Xcf ρ,fn.ntmps,[],P.g,ρ.m,[],false⟩
   have hlen:args.length=vs.length:=by simpa using Yv hr
   have m:Mod c ρ.xo ρ (Ua 0 vs) ob { tmps:=args.toArray++Array.replicate (fn.ntmps-args.toArray.size) undef,defers:=[] } w:=by
    refine⟨⟨Uak _,fun _ _ _=>rfl,fun b h=>.inr h,rfl,rfl,rfl,fun id o h=>⟨o,h,.refl o⟩,(fun p hp=>by cases hp),Uak _⟩,hO,?_,?_,Dfr.nil,rfl,hg⟩
    ·refine Uc hr 0 _ (fun i hi=>?_);simp[Ub8,hi]
    ·simp[c]; omega
   refine wp_mono (wpIn_wide.1 (Yi (rd:=none) hm rfl code s _ _ _ ρ _ w h1 (.inl hnr) h m)) ?_;rintro e a' w' ⟨ae,sl',ob',ρ',hq,he,m'⟩;have old:∀kp id o,ρ.m id=some o->Xc (Xa ob) kp id=false:=fun kp id o h0=>by
    obtain⟨x,hx⟩:=hO.dom id o h0;have hlt:¬Xa ob<=id:=fun hle=>by rw[X1 _ _ hle]at hx; cases hx
    simp[Xc,hlt]
   have tr:∀{ρ2:Env},Tr w' ρ' w' ρ2->∀kp,Tr w ρ w' (ρ2.del (Xc (Xa ob) kp)):=fun {ρ2} t kp=>by
    have b2:=m'.base.tr t;refine⟨b2.size,fun b h1 h2=>b2.keep b h2 h1,fun b h1=>(b2.owns b (Wi h1)).symm,?_,?_,fun id o h1=>?_,b2.tape,b2.os,b2.out,b2.drawn⟩
    ·show ρ2.xo=ρ.xo; rw[t.xo,m'.xo]
    ·show ρ2.gl=ρ.gl; rw[t.gl,m'.gl,hg]
    ·obtain⟨o',h3,h4⟩:=b2.same id o h1;exact⟨o',by simp only[Env.del,old kp id o h1]; exact h3,h4⟩
   have hfin:Vg sl' ob' rs (fun vs=>Xe1 vs ob' fun vs ob'=>X8 (Xa ob) (K (.ret (Ws vs))) vs ob')->a'.defers=[]/\∃v,(results fn a'.tmps).run P.p w'=.ok v w'/\∃out ob2 ρ2,K out ob2/\Xbs w' ρ2 (.returned v) out/\OM w' ρ2 ob2/\Tr w ρ w' ρ2:=by
    intro hq;obtain⟨vs,us,hk,hrep,hrun⟩:=Wf (P:=P.p) (fn:=fn) m'.sm m'.om h2 hq;obtain⟨vs',ob2,ρ2,⟨kp,k1,k2,k3⟩,t2,o2,hr2⟩:=J6 vs us m'.om hrep hk;exact⟨m'.df.eq rfl,Xvu us,hrun,.ret (Ws vs'),_,_,k3,V7 (Xas k1 hr2),o2.del k2,tr t2 kp⟩
   cases ae with
   | normal=>
    cases e<;>simp only[exM]at he;exact hfin hq
   | ret=>
    cases e<;>simp only[exM]at he;exact hfin hq
   | exit n=>exact hq.elim
   | panic v=>
    cases e<;>simp only[exM]at he;obtain⟨u,rfl,hu⟩:=he;obtain⟨kp,k1,k2,k3⟩:=hq;simp only[Rb8,Bool.or_false]at k1;exact⟨m'.df.eq rfl,.panic v,_,_,k3,⟨u,rfl,Rcc k1 hu⟩,m'.om.del k2,tr (Tr.refl _ _) kp⟩
  ·simp at hc
 ·simp at hc

def Xyt (n:Nat)(rs:List RV)(K:Out->Xb->Prop):Ze
 | .panic _,_,_=>False
 | e,sl,ob=>Vs n rs K e sl ob
theorem Xc9 {P:Prg}(hm:P.p.follows .mixedOrders=true){f:Nat}{s:S}{rs:List RV}{vs:List V}{ob:Xb}{K:Out->Xb->Prop}(hc:Uv P.p f vs.length s rs=true)
  (h:cwp P s (Xyt (Xa ob) rs K) (Ua 0 vs) ob):ACall P f vs ob K:=by
 unfold Uv at hc;split at hc
 ·rename_i fn hf;split at hc
  ·rename_i code hb;simp only[Uai,Ubp]at hc;obtain⟨⟨hn,h1⟩,h2⟩:=hc;refine⟨fun w ρ args hO hg hr=>callsIn_wide.1 (callsIn_of_wp_marks (n:=0) hf hb trivial ?_)⟩;let c:Ctx:=⟨w,Xcf ρ,fn.ntmps,[],P.g,ρ.m,[],true⟩
   have hlen:args.length=vs.length:=by simpa using Yv hr
   have m:Mod c ρ.xo ρ (Ua 0 vs) ob { tmps:=args.toArray++Array.replicate (fn.ntmps-args.toArray.size) undef,defers:=[] } w:=by
    refine⟨⟨Uak _,fun _ _ _=>rfl,fun b h=>.inr h,rfl,rfl,rfl,fun id o h=>⟨o,h,.refl o⟩,(fun p hp=>by cases hp),Uak _⟩,hO,?_,?_,Dfr.nil,rfl,hg⟩
    ·refine Uc hr 0 _ (fun i hi=>?_);simp[Ub8,hi]
    ·simp[c]; omega
   refine wpIn_mono (Yi (rd:=none) hm rfl code s _ _ _ ρ _ w h1 (.inr ⟨rfl,rfl⟩) h m) ?_;rintro e a' w' ⟨ae,sl',ob',ρ',hq,he,m'⟩;have old:∀kp id o,ρ.m id=some o->Xc (Xa ob) kp id=false:=fun kp id o h0=>by
    obtain⟨x,hx⟩:=hO.dom id o h0;have hlt:¬Xa ob<=id:=fun hle=>by rw[X1 _ _ hle]at hx; cases hx
    simp[Xc,hlt]
   have hfin:Vg sl' ob' rs (fun vs=>Xe1 vs ob' fun vs ob'=>X8 (Xa ob) (K (.ret (Ws vs))) vs ob')->LeavesInM Fence.wide 0 P.p fn a'.tmps (fun e w'=>∃out ob' ρ',K out ob'/\Xbs w' ρ' e out/\OM w' ρ' ob'/\Tr w ρ w' ρ') a'.defers .returning w':=by
    intro hq;obtain⟨ms,q1,_,q3,q4⟩:=m'.df;have q1:a'.defers=ms.map mkD:=by rw[q1]; simp[c]
    rw[q1];refine Vo ms w' q3 (fun r hr=>(q4 r hr).2.1) (fun w2 sm hs=>?_);have hgl:∀b o,ρ'.gl b=some o->w2.heap[b]? = w'.heap[b]?:=fun b o hb=>hs b (fun hm=>by
     have h3:=(hO.glb b o (by rw[hg,<-show ρ'.gl=P.g from m'.gl]; exact hb)).1;have:=(q4 b hm).1;have:=Xj h3;show False;simp only[c]at *;omega)
    have om2:=OM.same sm m'.om hgl;have tr:∀{ρ2:Env},Tr w2 ρ' w2 ρ2->∀kp,Tr w ρ w2 (ρ2.del (Xc (Xa ob) kp)):=fun {ρ2} t kp=>by
     refine⟨by rw[sm.size]; exact m'.base.size,fun b h1 h2=>(hs b (fun hm=>by have:=(q4 b hm).1; simp only[c]at this; omega)).trans (m'.base.keep b h2 h1),fun b h1=>?_,?_,?_,fun id o h1=>?_,sm.tape.trans m'.base.tape,sm.os.trans m'.base.os,sm.out.trans m'.base.out,by rw[sm.drawn]; exact m'.base.drawn⟩
     ·rcases t.owns b (Wi h1) with h3 | h3
      ·exact (m'.base.owns b h3).symm
      ·exact .inr (Ual (by rw[sm.size]; exact m'.base.size) h3)
     ·show ρ2.xo=ρ.xo; rw[t.xo,m'.xo]
     ·show ρ2.gl=ρ.gl; rw[t.gl,m'.gl,hg]
     ·obtain⟨o1,h3,h4⟩:=m'.base.same id o h1;obtain⟨o2,h5,h6⟩:=t.same id o1 h3;exact⟨o2,by simp only[Env.del,old kp id o h1]; exact h5,h4.trans h6⟩
    obtain⟨vs,us,hk,hrep,hrun⟩:=Wf (P:=P.p) (fn:=fn) (SM.same sm m'.sm) om2 h2 hq;obtain⟨vs',ob2,ρ2,⟨kp,k1,k2,k3⟩,t2,o2,hr2⟩:=J6 vs us om2 hrep hk;exact⟨Xvu us,hrun,.ret (Ws vs'),_,_,k3,V7 (Xas k1 hr2),o2.del k2,tr t2 kp⟩
   cases ae with
   | normal=>
    cases e<;>simp only[exM]at he;exact hfin hq
   | ret=>
    cases e<;>simp only[exM]at he;exact hfin hq
   | exit n=>exact hq.elim
   | panic v=>exact hq.elim
  ·simp at hc
 ·simp at hc

theorem ACall.of_wf {P:Prg}{f:Nat}{vs:List V}{ob:Xb}{K:Out->Xb->Prop}(h:(∀kp,Rb8 (Xc (Xa ob) kp) vs=false)->(∀kp,Xh (Xc (Xa ob) kp) ob=true)->ACall P f vs ob K):ACall P f vs ob K:=by
 refine⟨fun w ρ args hO hg hr=>?_⟩;have old:∀kp id o,ρ.m id=some o->Xc (Xa ob) kp id=false:=fun kp id o h0=>by
  obtain⟨x,hx⟩:=hO.dom id o h0;have hlt:¬Xa ob<=id:=fun hle=>by rw[X1 _ _ hle]at hx; cases hx
  simp[Xc,hlt]
 exact (h (fun kp=>Rcf (old kp) _ _ hr) (fun kp=>Z1 ob fun e he=>(hO.one e.1 _ (hO.once.look e he)).noMen (old kp))).run w ρ args hO hg hr

theorem X92 {P:Prg}{p:Program}(hP:P.p=p)(hm:p.follows .mixedOrders=true){f:Nat}{s:S}{rs:List RV}{ds:List D}{ob0:Xb}{K:V->Prop}(hc:Xi p f ds.length s rs=true)
  (h:cwp P s (Ux rs K) (Ua 0 (ds.map .d)) []):PCall P f (ds.map .d) ob0 K:=by
 subst hP;exact Xf8 hm hc h
end
end Go.Ab
namespace Go.Ab
open Go
section
variable (P:Prg) (K:V->Prop) (KO:V->Xb->Prop) (Pn:V->Xb->Prop) (Q:Ze) (next:Xf->Xb->Prop) (sl:Xf) (ob:Xb) (r:Xf) (ro:Xb) (v v':V) (x y z:A) (k j n:Nat) (b c:Bool) (m m':Int) (kd kd':IntKind) (s s':List UInt8) (xs:List D) (vs:List V) (d:D)
@[simp] theorem Xn6:look ((k,v)::r) k=v:=by simp[look]
@[simp] theorem X1p (h:(j==k)=false):look ((j,v)::r) k=look r k:=by simp at h; simp[look,h]
@[simp] theorem lookO_eq (o:Ob):Xd ((k,o)::ro) k=some o:=by simp[Xd]
@[simp] theorem lookO_ne (o:Ob)(h:(j==k)=false):Xd ((j,o)::ro) k=Xd ro k:=by simp at h; simp[Xd,h]
@[simp] theorem setO_eq (o o':Ob):setO ((k,o)::ro) k o'=(k,o')::ro:=by simp[setO]
@[simp] theorem setO_ne (o o':Ob)(h:(j==k)=false):setO ((j,o)::ro) k o'=(j,o)::setO ro k o':=by simp at h; simp[setO,h]
@[simp] theorem put_some:put sl (some k) v=(k,v)::sl:=by simp only[put]
@[simp] theorem put_none:put sl none v=sl:=by simp only[put]
@[simp] theorem Yy3:A.ev sl (.t k)=look sl k:=by simp only[A.ev]
@[simp] theorem ev_int:A.ev sl (.int kd m)=.d (.int kd m):=by simp only[A.ev]
@[simp] theorem ev_bool:A.ev sl (.bool b)=.d (.bool b):=by simp only[A.ev]
@[simp] theorem ev_str:A.ev sl (.str s)=.d (.str s):=by simp only[A.ev]
@[simp] theorem ev_nils:A.ev sl .nils=.d .nils:=by simp only[A.ev]
@[simp] theorem ev_fn:A.ev sl (.fn k)=.fn k [] []:=by simp only[A.ev]
-- calm operations
@[simp] theorem wp_mv:C.wp sl ob K (.mv x)=K (x.ev sl):=by simp only[C.wp]
@[simp] theorem wp_pick:C.wp sl ob K (.pick x y z)=Q2 K (x.ev sl) (y.ev sl) (z.ev sl):=by simp only[C.wp]
@[simp] theorem Yk4:Q2 K (.d (.bool true)) v v'=K v:=by unfold Q2; split<;>simp_all
@[simp] theorem Yk3:Q2 K (.d (.bool false)) v v'=K v':=by unfold Q2; split<;>simp_all
@[simp] theorem pickK_b (b1 b2:Bool):Q2 K (.d (.bool b)) (.d (.bool b1)) (.d (.bool b2))=K (.d (.bool (if b then b1 else b2))):=by simp only[Q2]
@[simp] theorem wp_not:C.wp sl ob K (.not x)=X3h K (x.ev sl):=by simp only[C.wp]
@[simp] theorem notK_b:X3h K (.d (.bool b))=K (.d (.bool (!b))):=by simp only[X3h]
@[simp] theorem wp_mx:C.wp sl ob K (.mx x y)=mxK K (x.ev sl) (y.ev sl):=by simp only[C.wp]
@[simp] theorem wp_bin (op:BinOp):C.wp sl ob K (.bin op x y)=Xru op K (x.ev sl) (y.ev sl):=by simp only[C.wp]
@[simp] theorem binK_i (op:BinOp):Xru op K (.d (.int kd m)) (.d (.int kd' m'))=Xmz op kd kd' m m' K:=by simp only[Xru]
@[simp] theorem binK_s (op:BinOp):Xru op K (.d (.str s)) (.d (.str s'))=Xwl op s s' K:=by simp only[Xru]
@[simp] theorem intK_add:Xmz .add kd kd m m' K=K (.d (.int kd (kd.wrap (m+m')))):=by simp[Xmz]
@[simp] theorem intK_eql:Xmz .eql kd kd m m' K=K (.d (.bool (m==m'))):=by simp[Xmz]
@[simp] theorem intK_gtr:Xmz .gtr kd kd m m' K=K (.d (.bool (decide (m'<m)))):=by simp[Xmz]
@[simp] theorem strK_eql:Xwl .eql s s' K=K (.d (.bool (s==s'))):=by simp[Xwl]
@[simp] theorem strK_neq:Xwl .neq s s' K=K (.d (.bool (s != s'))):=by simp[Xwl]
@[simp] theorem wp_isnil:C.wp sl ob K (.isnil b x)=V2 b K (x.ev sl):=by simp only[C.wp]
@[simp] theorem isnilK_n:V2 b K (.d .nili)=K (.d (.bool b)):=by simp only[V2]
@[simp] theorem isnilK_di:V2 b K (.d (.iface k d))=K (.d (.bool (!b))):=by simp only[V2]
@[simp] theorem mkiV_d:X9v k (.d d)=.d (.iface k d):=by simp only[X9v]
@[simp] theorem mkfV_eq (l1 l2:List V):Ybu k l1 l2=Yh7 k l1 l2 (Ra5 l1) (Ra5 l2):=by simp only[Ybu]
@[simp] theorem mkfO_n1 (l1 l2:List V)(o:Option (List D)):Yh7 k l1 l2 none o=.fn k l1 l2:=by cases o<;>simp only[Yh7]
@[simp] theorem mkfO_n2 (l1 l2:List V)(o:Option (List D)):Yh7 k l1 l2 o none=.fn k l1 l2:=by cases o<;>simp only[Yh7]
@[simp] theorem wp_cvi:C.wp sl ob K (.cvi kd x)=Xy6 kd K (x.ev sl):=by simp only[C.wp]
@[simp] theorem cviK_i:Xy6 kd K (.d (.int kd' m))=K (.d (.int kd (kd.wrap m))):=by simp only[Xy6]
@[simp] theorem wp_idx:C.wp sl ob K (.idx x y)=X5l K (x.ev sl) (y.ev sl):=by simp only[C.wp]
@[simp] theorem idxK_s:X5l K (.d (.str s)) (.d (.int kd m))=((0<=m/\m<s.length)/\K (.d (.int .u8 (s.getD m.toNat 0).toNat))):=by simp only[X5l]
@[simp] theorem wp_idxA:C.wp sl ob K (.idxA n x y)=Xcb ob n K (x.ev sl) (y.ev sl):=by simp only[C.wp]
@[simp] theorem idxAK_l:Xcb ob n K (.d (.list n xs)) (.d (.int kd m))=((0<=m/\m<xs.length)/\K (.d (.ref (xs.getD m.toNat default)))):=by simp[Xcb]
@[simp] theorem wp_idxP:C.wp sl ob K (.idxP k n x y)=Xcc ob k n K (x.ev sl) (y.ev sl):=by simp only[C.wp]
@[simp] theorem idxPK_p (p:List Nat):Xcc ob k n K (.ptr j p) (.d (.int kd m))=((0<=m/\m<k)/\(∃ks,Z3 (atO ob j p)=some ks/\ks.length=k/\∀k∈ks,k.size=n)/\K (.ptr j (p++[m.toNat]))):=by simp only[Xcc]
@[simp] theorem idxPK_c:Xcc ob k n K (.d (.ref (.agg xs))) (.d (.int kd m))=((0<=m/\m<k)/\xs.length=k/\(∀x∈xs,x.sz=n)/\K (.d (.ref (xs.getD m.toNat default)))):=by simp only[Xcc]
@[simp] theorem wp_fldA:C.wp sl ob K (.fldA k n x)=Uu ob k n K (x.ev sl):=by simp only[C.wp]
@[simp] theorem fldAK_p (p:List Nat):Uu ob k n K (.ptr j p)=U2 j p k n K (Z3 (atO ob j p)):=by simp only[Uu]
@[simp] theorem fldAKo_s (p:List Nat):U2 j p k n K (some vs)=(k<vs.length/\Sh.sizes ((vs.take k).map V.shape)=n/\K (.ptr j (p++[k]))):=by simp only[U2]
@[simp] theorem fldAK_c:Uu ob k n K (.d (.ref (.agg xs)))=(k<xs.length/\Raa (xs.take k)=n/\K (.d (.ref (xs.getD k default)))):=by simp only[Uu]
@[simp] theorem wp_ldd:C.wp sl ob K (.ldd n b x)=Xwj n b K (x.ev sl):=by simp only[C.wp]
@[simp] theorem lddK_c {d:D}:Xwj n b K (.d (.ref d))=(d.sz=n/\(V.d d).isAgg=b/\K (.d d)):=by simp only[Xwj]
@[simp] theorem wp_ld:C.wp sl ob K (.ld n b x)=ldK ob n b K (x.ev sl):=by simp only[C.wp]
@[simp] theorem ldK_p (p:List Nat):ldK ob n b K (.ptr j p)=Xlk n b K (atO ob j p):=by simp only[ldK]
@[simp] theorem ldKo_s:Xlk n b K (some v)=(v.size=n/\v.isAgg=b/\K v):=by simp only[Xlk]
@[simp] theorem ldK_c:ldK ob n b K (.d (.ref d))=(d.sz=n/\(V.d d).isAgg=b/\K (.d d)):=by simp only[ldK]
@[simp] theorem wp_nilc:C.wp sl ob K (.nilc x)=Xce K (x.ev sl):=by simp only[C.wp]
@[simp] theorem nilcK_p (p:List Nat):Xce K (.ptr j p)=K (.ptr j p):=by simp only[Xce]
@[simp] theorem nilcK_c:Xce K (.d (.ref d))=K (.d (.ref d)):=by simp only[Xce]
@[simp] theorem wp_lenS:C.wp sl ob K (.lenS x)=Xdz K (x.ev sl):=by simp only[C.wp]
@[simp] theorem lenSK_s:Xdz K (.d (.str s))=K (.d (.int .i64 s.length)):=by simp only[Xdz]
@[simp] theorem wp_lenL:C.wp sl ob K (.lenL x)=Xad ob K (x.ev sl):=by simp only[C.wp]
@[simp] theorem lenLK_l:Xad ob K (.d (.list n xs))=K (.d (.int .i64 xs.length)):=by simp only[Xad]
@[simp] theorem lenLK_n:Xad ob K (.d .nils)=K (.d (.int .i64 0)):=by simp only[Xad]
@[simp] theorem lenLK_o:Xad ob K (.sl j n)=(((∃E z xs,Xd ob j=some (.arr E z xs)/\n=xs.length)\/∃E z xs,Xd ob j=some (.vec E z xs)/\n=xs.length)/\K (.d (.int .i64 n))):=by simp only[Xad]
@[simp] theorem wp_slcS (lo hi:Option A):C.wp sl ob K (.slcS x lo hi)=Xe8 (lo.map (A.ev sl)) (hi.map (A.ev sl)) K (x.ev sl):=by simp only[C.wp]
@[simp] theorem slcSK_s (lo hi:Option V):Xe8 lo hi K (.d (.str s))=Jx s.length (fun l h=>K (.d (.str ((s.take h).drop l)))) lo hi:=by simp only[Xe8]
@[simp] theorem wp_slcL (lo hi:Option A):C.wp sl ob K (.slcL n x lo hi)=Xi5 n (lo.map (A.ev sl)) (hi.map (A.ev sl)) K (x.ev sl):=by simp only[C.wp]
@[simp] theorem slcLK_l (lo hi:Option V):Xi5 n lo hi K (.d (.list n xs))=Jx xs.length (fun l h=>K (.d (.list n ((xs.take h).drop l)))) lo hi:=by simp[Xi5]
@[simp] theorem bndK_sn (KK:Nat->Nat->Prop):Jx n KK (some (.d (.int kd m))) none=((0<=m/\m<=n)/\KK m.toNat n):=by simp only[Jx]
@[simp] theorem bndK_ns (KK:Nat->Nat->Prop):Jx n KK none (some (.d (.int kd m)))=((0<=m/\m<=n)/\KK 0 m.toNat):=by simp only[Jx]
@[simp] theorem bndK_ss (KK:Nat->Nat->Prop):Jx n KK (some (.d (.int kd m))) (some (.d (.int kd' m')))=((0<=m'/\m'<=n)/\(0<=m/\m<=m')/\KK m.toNat m'.toNat):=by simp only[Jx]
@[simp] theorem wp_ext:C.wp sl ob K (.ext x n)=X5k n K (x.ev sl):=by simp only[C.wp]
@[simp] theorem extK_t:X5k n K (.tup vs)=(n<vs.length/\K (vs.getD n .any)):=by simp only[X5k]
@[simp] theorem wp_bld (ps:List (Nat×A)):C.wp sl ob K (.bld xs ps)=Jw (xs.map .d) (ps.map fun p=>(p.1,p.2.ev sl)) fun ks=>K (V.mk ks):=by simp only[C.wp]
@[simp] theorem bldK_n (KL:List V->Prop):Jw vs [] KL=KL vs:=by simp only[Jw]
@[simp] theorem bldK_c (KL:List V->Prop)(l:List (Nat×V)):Jw vs ((k,v)::l) KL=(k<vs.length/\v.shape=(vs.getD k .any).shape/\v ≠ .any/\Jw (vs.set k v) l KL):=by simp only[Jw]
@[simp] theorem wp_mkf (l l':List A):C.wp sl ob K (.mkf k l l')=K (Ybu k (l.map (A.ev sl)) (l'.map (A.ev sl))):=by simp only[C.wp]
@[simp] theorem wp_mki:C.wp sl ob K (.mki k x)=K (X9v k (x.ev sl)):=by simp only[C.wp]
@[simp] theorem wp_tas:C.wp sl ob K (.tas k d x)=Yam k d K (x.ev sl):=by simp only[C.wp]
-- trees
@[simp] theorem kids_agg:V.kids (.agg vs)=some vs:=by simp only[V.kids]
@[simp] theorem kids_d:V.kids (.d (.agg xs))=some (xs.map .d):=by simp only[V.kids]
@[simp] theorem kidsO_s:Z3 (some v)=v.kids:=by simp only[Z3]
def atB (p:List Nat):Option Ob->Option V
 | some (.box _ t)=>t.at p
 | _=>none
@[simp] theorem atO_b (p:List Nat):atO ob k p=atB p (Xd ob k):=by
 unfold atO atB;cases Xd ob k with
 | none=>rfl
 | some o=>cases o<;>rfl
@[simp] theorem atB_s (p:List Nat)(E:Nat):atB p (some (.box E v))=v.at p:=by simp only[atB]
@[simp] theorem at_nil:V.at v []=some v:=by simp[V.at]
def Xj1 (i:Nat)(p:List Nat):Option (List V)->Option V
 | some ks=>atKid' p ks[i]?
 | none=>none
where atKid' (p:List Nat):Option V->Option V
 | some k=>V.at k p
 | none=>none
@[simp] theorem at_cons (p:List Nat):V.at v (k::p)=Xj1 k p v.kids:=by
 simp only[V.at,Xj1];cases v.kids with
 | none=>rfl
 | some ks=>simp only[Xj1.atKid']; cases ks[k]?<;>rfl
@[simp] theorem atKid_s (p:List Nat):Xj1 k p (some vs)=Xj1.atKid' p vs[k]?:=by simp only[Xj1]
@[simp] theorem atKid'_s (p:List Nat):Xj1.atKid' p (some v)=V.at v p:=by simp only[Xj1.atKid']
@[simp] theorem set_nil:V.set v [] v'=some v':=by simp[V.set]
def Us (i:Nat)(p:List Nat)(x:V):Option (List V)->Option V
 | some ks=>setKid1 i p x ks ks[i]?
 | none=>none
where
 setKid1 (i:Nat) (p:List Nat) (x:V) (ks:List V):Option V->Option V
 | some k=>setKid2 i ks (V.set k p x)
 | none=>none
 setKid2 (i:Nat) (ks:List V):Option V->Option V
 | some k'=>some (V.mk (ks.set i k'))
 | none=>none
@[simp] theorem set_cons (p:List Nat):V.set v (k::p) v'=Us k p v' v.kids:=by
 simp only[V.set,Us];cases v.kids with
 | none=>rfl
 | some ks=>
  simp only[Us.setKid1];cases ks[k]? with
  | none=>rfl
  | some y=>simp only[Us.setKid2]; cases V.set y p v'<;>rfl
@[simp] theorem setKid_s (p:List Nat):Us k p v (some vs)=Us.setKid1 k p v vs vs[k]?:=by simp only[Us]
@[simp] theorem setKid1_s (p:List Nat):Us.setKid1 k p v vs (some v')=Us.setKid2 k vs (V.set v' p v):=by simp only[Us.setKid1]
@[simp] theorem setKid2_s:Us.setKid2 k vs (some v)=some (V.mk (vs.set k v)):=by simp only[Us.setKid2]
@[simp] theorem allD_nil:Ra5 []=some []:=by simp[Ra5]
def Xy3 (x:D):Option (List D)->Option (List D)
 | some l=>some (x::l)
 | none=>none
@[simp] theorem allD_cons:Ra5 (.d d::vs)=Xy3 d (Ra5 vs):=by simp only[Ra5]; cases Ra5 vs<;>rfl
@[simp] theorem consD_s:Xy3 d (some xs)=some (d::xs):=by simp only[Xy3]
@[simp] theorem consD_n:Xy3 d none=none:=by simp only[Xy3]
@[simp] theorem allD_map:Ra5 (xs.map .d)=some xs:=by induction xs with | nil=>rfl | cons x r ih=>simp[ih]
@[simp] theorem allD_fn (a1 a2:List V):Ra5 (.fn k a1 a2::vs)=none:=by simp only[Ra5]
@[simp] theorem allD_sl:Ra5 (.sl k n::vs)=none:=by simp only[Ra5]
@[simp] theorem allD_ptr (p:List Nat):Ra5 (.ptr k p::vs)=none:=by simp only[Ra5]
def mkO (vs:List V):Option (List D)->V
 | some l=>.d (.agg l)
 | none=>.agg vs
@[simp] theorem mk_eq:V.mk vs=mkO vs (Ra5 vs):=by unfold V.mk mkO; cases Ra5 vs<;>rfl
@[simp] theorem mkO_s:mkO vs (some xs)=.d (.agg xs):=by simp only[mkO]
@[simp] theorem mkO_n:mkO vs none=.agg vs:=by simp only[mkO]
-- sizes,shapes
attribute [simp] D.sz Raa Sh.size Sh.sizes D.shape D.shapes V.shape V.shapes V.isAgg V.sto Rbr V.size V.men Rb8
-- operations on memory
@[simp] theorem za (e:C):I.wp P sl ob KO Pn (.c e)=e.wp sl ob (fun v=>KO v ob):=by simp only[I.wp]
@[simp] theorem qy:I.wp P sl ob KO Pn (.box k x)=Xwg k ob KO (x.ev sl):=by simp only[I.wp]
@[simp] theorem iwp_boxr:I.wp P sl ob KO Pn (.boxr k x)=Xna ob KO (x.ev sl):=by simp only[I.wp]
@[simp] theorem boxrK_d {d:D}:Xna ob KO (.d d)=KO (.d (.ref d)) ob:=by simp only[Xna]
@[simp] theorem qu:I.wp P sl ob KO Pn (.alloc k d)=Xwg k ob KO (.d d):=by simp only[I.wp]
@[simp] theorem boxK_eq:Xwg k ob KO v=(v.sto=true/\KO (.ptr (Xa ob) []) ((Xa ob,.box k v)::ob)):=by simp only[Xwg]
@[simp] theorem qx (ps:List (Nat×A)):I.wp P sl ob KO Pn (.bls n xs ps)=Jw (xs.map .d) (ps.map fun p=>(p.1,p.2.ev sl)) (fun ks=>dK (fun l=>KO (.d (.list n l)) ob) (Ra5 ks)):=by simp only[I.wp]
@[simp] theorem dK_s (KD:List D->Prop):dK KD (some xs)=KD xs:=by simp only[dK]
@[simp] theorem qw (ps:List (Nat×A)):I.wp P sl ob KO Pn (.blo j n xs ps)=Jw (xs.map .d) (ps.map fun p=>(p.1,p.2.ev sl)) (fun ks=>dK (fun l=>KO (.sl (Xa ob) l.length) ((Xa ob,.arr j n l)::ob)) (Ra5 ks)):=by simp only[I.wp]
@[simp] theorem zm:I.wp P sl ob KO Pn (.st n x y)=stK ob n (y.ev sl) KO (x.ev sl):=by simp only[I.wp]
@[simp] theorem stK_p (p:List Nat):stK ob n v KO (.ptr k p)=X43 ob k p n v KO (Xd ob k):=by simp only[stK]
@[simp] theorem stKo_s (p:List Nat)(t:V)(E:Nat):X43 ob k p n v KO (some (.box E t))=X44 ob k p n E v t KO (t.at p):=by simp only[X43]
def Yl3 (ob:Xb)(id E:Nat)(K:V->Xb->Prop):Option V->Prop
 | some t'=>K .undef (setO ob id (.box E t'))
 | none=>False
@[simp] theorem stKt_s (p:List Nat)(t:V)(E:Nat):X44 ob k p n E v t KO (some v')=(v.shape=v'.shape/\v'.size=n/\v.sto=true/\Yl3 ob k E KO (t.set p v)):=by
 simp only[X44]; cases t.set p v<;>simp[Yl3]
@[simp] theorem stKs_s (E:Nat):Yl3 ob k E KO (some v)=KO .undef (setO ob k (.box E v)):=by simp only[Yl3]
@[simp] theorem qv (E sz B:Nat):I.wp P sl ob KO Pn (.app E sz B x y)=X4z sz (fun ys=>Xfd E sz B ob ys KO (x.ev sl)) (y.ev sl):=by simp only[I.wp]
@[simp] theorem srcK_l (KD:List D->Prop):X4z n KD (.d (.list n xs))=KD xs:=by simp[X4z]
@[simp] theorem appK_s (E sz B:Nat):Xfd E sz B ob xs KO (.sl k n)=Xe0 k E sz B n ob xs KO (Xd ob k):=by simp[Xfd]
@[simp] theorem appK_n (E sz B:Nat):Xfd E sz B ob xs KO (.d .nils)=((2*xs.length+192)*B<=281474976710656/\KO (.sl (Xa ob) xs.length) ((Xa ob,.arr E sz xs)::ob)):=by simp only[Xfd]
@[simp] theorem appKo_s (E sz B:Nat)(ys:List D):Xe0 k E sz B n ob xs KO (some (.arr E sz ys))=(n=ys.length/\(2*(ys.length+xs.length)+192)*B<=281474976710656/\KO (.sl k (ys.length+xs.length)) (setO ob k (.arr E sz (ys++xs)))):=by simp[Xe0]
@[simp] theorem zh:I.wp P sl ob KO Pn (.mvf x)=Xsz KO (V.giv ob (x.ev sl)):=by simp only[I.wp]
@[simp] theorem zg:I.wp P sl ob KO Pn (.ldf n b x)=X9h n b ob KO (x.ev sl):=by simp only[I.wp]
@[simp] theorem zi (E sz:Nat)(p:List Nat):I.wp P sl ob KO Pn (.mvg E sz y x p)=Xls ob E sz p (y.ev sl) KO (x.ev sl):=by simp only[I.wp]
@[simp] theorem zj (l:List (Nat×Nat×List Nat)):I.wp P sl ob KO Pn (.mvn y x l)=Xvm (y.ev sl) KO (x.ev sl) l ob:=by simp only[I.wp]
@[simp] theorem mvnK_n (v x:V):Xvm v KO x [] ob=KO v ob:=by simp only[Xvm]
@[simp] theorem mvnK_c (v x:V)(e:Nat×Nat×List Nat)(l:List (Nat×Nat×List Nat)):Xvm v KO x (e::l) ob=Xls ob e.1 e.2.1 e.2.2 v (fun _ ob'=>Xvm v KO x l ob') x:=by simp only[Xvm]
@[simp] theorem mvgK_p (E sz:Nat)(p q:List Nat):Xls ob E sz p v KO (.ptr k q)=Xe5 ob k (q++p) E sz v KO (Xd ob k):=by simp only[Xls]
@[simp] theorem mvgKt_s (E E0 sz:Nat)(p:List Nat)(t:V):Xe5 ob k p E sz v KO (some (.box E0 t))=((t.at p=some (.d .nils)/\Xlu ob k E0 E sz v KO (t.set p (.sl (Xa ob) 0)))\/((∃i n,t.at p=some (.sl i n))/\KO v ob)):=by simp only[Xe5]
@[simp] theorem mvgKs_s (E E0 sz:Nat)(t:V):Xlu ob k E0 E sz v KO (some t)=KO v ((Xa ob,.arr E sz [])::setO ob k (.box E0 t)):=by simp only[Xlu]
@[simp] theorem iwp_cvb:I.wp P sl ob KO Pn (.cvb x)=Xy5 ob KO (x.ev sl):=by simp only[I.wp]
@[simp] theorem cvbK_s:Xy5 ob KO (.sl k n)=Xg0 k n ob KO (Xd ob k):=by simp only[Xy5]
@[simp] theorem cvbKo_s (E sz:Nat):Xg0 k n ob KO (some (.arr E sz xs))=(sz ≠ 0/\n=xs.length/\xs ≠ []/\KO (.d (.list sz xs)) (setO ob k .gone)):=by simp only[Xg0]
-- values given up
@[simp] theorem giv_d:V.giv ob (.d d)=some (d,ob):=by simp only[V.giv]
@[simp] theorem giv_sl:V.giv ob (.sl k n)=Ynm ob k n (Xd ob k):=by simp only[V.giv]
@[simp] theorem givO_s (E sz:Nat):Ynm ob k n (some (.arr E sz xs))=if sz ≠ 0/\n=xs.length then some (.list sz xs,setO ob k .gone) else none:=by simp only[Ynm]
@[simp] theorem giv_agg:V.giv ob (.agg vs)=X6f (Rbv ob vs):=by simp only[V.giv]
@[simp] theorem giv_fn (l1 l2:List V):V.giv ob (.fn k l1 l2)=fnG k ob (Ra5 l1) (Ra5 l2):=by simp only[V.giv]
@[simp] theorem fnG_s (l1 l2:List D):fnG k ob (some l1) (some l2)=some (.fn k l1 l2,ob):=by simp only[fnG]
@[simp] theorem fnG_m (o:Option (List D)):fnG k ob o none=none:=by cases o<;>simp only[fnG]
@[simp] theorem givs_nil:Rbv ob []=some ([],ob):=by simp only[Rbv]
def Yen (r:List V):Option (D×Xb)->Option (List D×Xb)
 | some (x,ob1)=>Xca x (Rbv ob1 r)
 | none=>none
@[simp] theorem givs_cons:Rbv ob (v::vs)=Yen vs (V.giv ob v):=by
 simp only[Rbv]; cases V.giv ob v with
 | none=>rfl
 | some q=>obtain⟨y,ob1⟩:=q; rfl
@[simp] theorem bindO_s:Yen vs (some (d,ob))=Xca d (Rbv ob vs):=by simp only[Yen]
@[simp] theorem consO_s (l:List D):Xca d (some (l,ob))=some (d::l,ob):=by simp only[Xca]
@[simp] theorem aggO_s (l:List D):X6f (some (l,ob))=some (.agg l,ob):=by simp only[X6f]
@[simp] theorem givsK_s (KD:List D->Xb->Prop)(l:List D):Vj KD (some (l,ob))=KD l ob:=by simp only[Vj]
@[simp] theorem gvsK_nil (KL:List V->Xb->Prop):Xe1 [] ob KL=KL [] ob:=by simp only[Xe1]
@[simp] theorem gvsK_cons (KL:List V->Xb->Prop):Xe1 (v::vs) ob KL=gvO v ob (fun v' ob'=>Xe1 vs ob' fun vs ob''=>KL (v'::vs) ob'') (V.giv ob v):=by simp only[Xe1]
@[simp] theorem gvO_s:gvO v ob KO (some (d,ro))=KO (.d d) ro:=by simp only[gvO]
@[simp] theorem gvO_n:gvO v ob KO none=KO v ob:=by simp only[gvO]
-- names
@[simp] theorem fresh_nil:Xa []=0:=by simp only[Xa]
@[simp] theorem fresh_cons (o:Ob):Xa ((k,o)::ro)=if Xa ro<=k then k+1 else Xa ro:=by simp only[Xa]
@[simp] theorem fresh_set (o:Ob):Xa (setO ob k o)=Xa ob:=by
 induction ob with
 | nil=>simp[setO]
 | cons e r ih=>obtain⟨i,y⟩:=e; simp only[setO]; split<;>simp[Xa,ih]
@[simp] theorem fresh_ne (h:(Xd ob k).isSome=true):(Xa ob==k)=false:=by
 rw[Ucg]; intro e; rw[<-e,X2]at h; cases h
@[simp] theorem fresh_add_ne (h:(Xd ob k).isSome=true):(Xa ob+n==k)=false:=by
 rw[Ucg]; intro e; rw[<-e,X1 ob _ (by omega)]at h; cases h
@[simp] theorem lookO_set_eq (o:Ob)(h:(Xd ob k).isSome=true):Xd (setO ob k o) k=some o:=by
 rw[Xs ob k k (Ua3.1 h)]; simp
@[simp] theorem lookO_set_ne (o:Ob)(h:(j==k)=false):Xd (setO ob j o) k=Xd ob k:=by
 by_cases hs:(Xd ob j).isSome=true
 ·rw[Xs ob j k (Ua3.1 hs)]; simp at h; rw[Ubo (fun e=>h e.symm)]
 ·have hn:Xd ob j=none:=by simpa using hs
  have:∀(ob:Xb),Xd ob j=none->setO ob j o=ob:=fun ob=>by
   induction ob with
   | nil=>intro _; rfl
   | cons e r ih=>obtain⟨i,y⟩:=e; intro h; simp only[Xd]at h; split at h; cases h; rename_i hne; simp[setO,hne,ih h]
  rw[this ob hn]
@[simp] theorem Xc2 (o o':Ob):setO (setO ob k o) k o'=setO ob k o':=by
 induction ob with
 | nil=>rfl
 | cons e r ih=>
  obtain⟨i,y⟩:=e;by_cases h:i=k
  ·subst h; simp[setO]
  ·simp[setO,h,ih]
theorem X4e (o:Ob)(h:Xd ob k=some o):setO ob k o=ob:=by
 induction ob with
 | nil=>rfl
 | cons e r ih=>
  obtain⟨i,y⟩:=e;simp only[Xd]at h;split at h
  ·rename_i e; cases h; simp[setO,e]
  ·rename_i e; simp[setO,e,ih h]
-- Xc objects dropped
@[simp] theorem Um (l:List Nat)(h:k<n):Xc n l k=false:=by simp[Xc]; omega
@[simp] theorem young_old (l:List Nat)(h:(Xd ob k).isSome=true):Xc (Xa ob) l k=false:=by
 have:k<Xa ob:=by
  rcases Uaa k (Xa ob) with h1 | h1
  ·exact h1
  ·rw[X1 ob k h1]at h; cases h
 simp[Xc]; omega
@[simp] theorem young_self:Xc n [] n=true:=by simp[Xc]
@[simp] theorem Xfo (l:List Nat):Y2 (Xc (Xa ob) l) ob=ob:=by
 have:∀(n:Nat) (ob:Xb),Xa ob<=n->Y2 (Xc n l) ob=ob:=fun n ob=>by
  induction ob with
  | nil=>intro _; rfl
  | cons e r ih=>
   obtain⟨i,y⟩:=e;intro h;simp only[Xa]at h;have hi:i<n/\Xa r<=n:=by split at h<;>omega
   simp only[Y2,Um i n l hi.1,Uah,Uay,ih hi.2]
 exact this _ ob (Uak _)
theorem Xl (ids:Nat->Bool)(E:Nat)(h:Xh ids ob=true)(hv:V.men ids v=false):Xh ids (setO ob k (.box E v))=true:=by
 induction ob with
 | nil=>rfl
 | cons e r ih=>
  obtain⟨i,y⟩:=e;simp only[setO];split
  ·cases y<;>simp_all[Xh]
  ·cases y<;>simp_all[Xh]
theorem Yx (ids:Nat->Bool)(E z:Nat)(h:Xh ids ob=true):Xh ids (setO ob k (.arr E z xs))=true:=by
 induction ob with
 | nil=>rfl
 | cons e r ih=>
  obtain⟨i,y⟩:=e;simp only[setO];split
  ·cases y<;>simp_all[Xh]
  ·cases y<;>simp_all[Xh]
@[simp] theorem zd (l:List A):I.wp P sl ob KO Pn (.call k l)=ACall P k (l.map (A.ev sl)) ob (Xcx KO Pn):=by simp only[I.wp]
@[simp] theorem ze (l:List A):I.wp P sl ob KO Pn (.callv x l)=Va P (l.map (A.ev sl)) ob KO Pn (x.ev sl):=by simp only[I.wp]
@[simp] theorem Ya (a1 a2:List V):Va P vs ob KO Pn (.fn k a1 a2)=(Xm P.p k=true/\ACall P k (a1++vs++a2) ob (Xcx KO Pn)):=by simp only[Va]
@[simp] theorem callvK_df (a1 a2:List D):Va P vs ob KO Pn (.d (.fn k a1 a2))=(Xm P.p k=true/\ACall P k (a1.map .d++vs++a2.map .d) ob (Xcx KO Pn)):=by simp only[Va]
@[simp] theorem zo:Xcx KO Pn (.ret v) ob=KO v ob:=by simp only[Xcx]
@[simp] theorem zn:Xcx KO Pn (.panic v) ob=Pn v ob:=by simp only[Xcx]
@[simp] theorem iwp_panic:I.wp P sl ob KO Pn (.panic x)=Xak ob Pn (x.ev sl):=by simp only[I.wp]
@[simp] theorem panicK_d:Xak ob Pn (.d (.iface k d))=Pn (.d (.iface k d)) ob:=by simp only[Xak]
@[simp] theorem zk (E sz:Nat):I.wp P sl ob KO Pn (.nilo E sz x)=Xis E sz ob KO (x.ev sl):=by simp only[I.wp]
@[simp] theorem niloK_n (E sz:Nat):Xis E sz ob KO (.d .nils)=KO (.sl (Xa ob) 0) ((Xa ob,.arr E sz [])::ob):=by simp only[Xis]
-- regions and statements
@[simp] theorem gdK_tt (Y N:Xf->Prop):gdK k true sl Y N (.d (.bool true))=Y ((k,.d (.bool true))::sl):=by simp[gdK]
@[simp] theorem gdK_ff (Y N:Xf->Prop):gdK k false sl Y N (.d (.bool false))=Y ((k,.d (.bool false))::sl):=by simp[gdK]
@[simp] theorem gdK_tf (Y N:Xf->Prop):gdK k true sl Y N (.d (.bool false))=N ((k,.d (.bool false))::sl):=by simp[gdK]
@[simp] theorem gdK_ft (Y N:Xf->Prop):gdK k false sl Y N (.d (.bool true))=N ((k,.d (.bool true))::sl):=by simp[gdK]
@[simp low] theorem gdK_b (Y N:Xf->Prop):gdK k c sl Y N (.d (.bool b))=((b=c->Y ((k,.d (.bool c))::sl))/\(b=!c->N ((k,.d (.bool (!c)))::sl))):=by simp only[gdK]
@[simp] theorem keepS_nil:Xk sl []=[]:=by simp only[Xk]
@[simp] theorem keepS_cons (l:List Nat):Xk sl (k::l)=(k,look sl k)::Xk sl l:=by simp only[Xk]
@[simp] theorem zl (l:List A):I.wp P sl ob KO Pn (.pcall k l)=PCall P k (l.map (A.ev sl)) ob (fun v=>KO v ob):=by simp only[I.wp]
@[simp] theorem condK_t (Y N:Prop):Xa9 Y N (.d (.bool true))=Y:=by simp[Xa9]
@[simp] theorem condK_f (Y N:Prop):Xa9 Y N (.d (.bool false))=N:=by simp[Xa9]
@[simp low] theorem condK_b (Y N:Prop):Xa9 Y N (.d (.bool b))=((b=true->Y)/\(b=false->N)):=by simp only[Xa9]
@[simp] theorem wc:W3 next Q .normal sl ob=next sl ob:=by simp only[W3]
@[simp] theorem wb:W3 next Q (.exit n) sl ob=Q (.exit n) sl ob:=by simp only[W3]
@[simp] theorem wf:W3 next Q .ret sl ob=Q .ret sl ob:=by simp only[W3]
@[simp] theorem we:W3 next Q (.panic v) sl ob=Q (.panic v) sl ob:=by simp only[W3]
@[simp] theorem qc:Y3 n Q .normal sl ob=Q .normal sl ob:=by simp only[Y3]
@[simp] theorem qa:Y3 n Q (.exit n) sl ob=Q .normal sl ob:=by simp[Y3]
@[simp] theorem qe:Y3 n Q .ret sl ob=Q .ret sl ob:=by simp only[Y3]
@[simp] theorem qd:Y3 n Q (.panic v) sl ob=Q (.panic v) sl ob:=by simp only[Y3]
attribute [simp] Wo Xh Y2
-- results
@[simp] theorem pureQ_r (rs:List RV):Ux rs K .ret sl ob=Vg sl ob rs fun vs=>Vj (fun l _=>K (Ws (l.map .d))) (Rbv ob vs):=by simp only[Ux]
@[simp] theorem pureQ_p (rs:List RV):Ux rs K (.panic v) sl ob=False:=by simp only[Ux]
@[simp] theorem qf (rs:List RV)(KU:Out->Xb->Prop):Vs n rs KU .normal sl ob=Vg sl ob rs fun vs=>Xe1 vs ob fun vs ob=>X8 n (KU (.ret (Ws vs))) vs ob:=by simp only[Vs]
@[simp] theorem qh (rs:List RV)(KU:Out->Xb->Prop):Vs n rs KU .ret sl ob=Vg sl ob rs fun vs=>Xe1 vs ob fun vs ob=>X8 n (KU (.ret (Ws vs))) vs ob:=by simp only[Vs]
@[simp] theorem qg (rs:List RV)(KU:Out->Xb->Prop):Vs n rs KU (.panic v) sl ob=X8 n (KU (.panic v)) [v] ob:=by simp only[Vs]
@[simp] theorem resK_nil (KL:List V->Prop):Vg sl ob [] KL=KL []:=by simp only[Vg]
@[simp] theorem resK_t (KL:List V->Prop)(rs:List RV):Vg sl ob (.t k::rs) KL=Vg sl ob rs fun vs=>KL (look sl k::vs):=by simp only[Vg,RV.wp]
@[simp] theorem resK_c (KL:List V->Prop)(rs:List RV):Vg sl ob (.c k n b::rs) KL=ldK ob n b (fun v=>Vg sl ob rs fun vs=>KL (v::vs)) (look sl k):=by simp only[Vg,RV.wp]
@[simp] theorem retV_1:Ws [v]=v:=by simp only[Ws]
@[simp] theorem retV_0:Ws []=.tup []:=by simp only[Ws]
@[simp] theorem retV_2:Ws (v::v'::vs)=.tup (v::v'::vs):=by simp only[Ws]
@[simp] theorem argS_nil:Ua k []=[]:=by simp only[Ua]
@[simp] theorem argS_cons:Ua k (v::vs)=(k,v)::Ua (k+1) vs:=by simp only[Ua]
end

@[congr] theorem I_wp_congr {P:Prg}{sl:Xf}{ob:Xb}{KO:V->Xb->Prop}{Pn:V->Xb->Prop}{i:I}:I.wp P sl ob KO Pn i=I.wp P sl ob KO Pn i:=rfl
@[congr] theorem C_wp_congr {sl:Xf}{ob:Xb}{K:V->Prop}{e:C}:C.wp sl ob K e=C.wp sl ob K e:=rfl
@[congr] theorem rwp_congr {P:Prg}{KS:Xf->Xb->Prop}{PS:V->Xf->Xb->Prop}{l:List It}{sl:Xf}{ob:Xb}:rwp P KS PS l sl ob=rwp P KS PS l sl ob:=rfl
@[congr] theorem gdK_congr {k:Nat}{b:Bool}{sl:Xf}{Y N:Xf->Prop}{v v':V}(h0:v=v'):gdK k b sl Y N v=gdK k b sl Y N v':=by rw[h0]
@[congr] theorem condK_congr {Y N:Prop}{v v':V}(h0:v=v'):Xa9 Y N v=Xa9 Y N v':=by rw[h0]
@[congr] theorem pickK_congr {K:V->Prop}{u u':V}{v v':V}{w w':V}(h0:u=u')(h1:v=v')(h2:w=w'):Q2 K u v w=Q2 K u' v' w':=by rw[h0,h1,h2]
@[congr] theorem notK_congr {K:V->Prop}{v v':V}(h0:v=v'):X3h K v=X3h K v':=by rw[h0]
@[congr] theorem cplK_congr {K:V->Prop}{v v':V}(h0:v=v'):Yfd K v=Yfd K v':=by rw[h0]
@[congr] theorem mxK_congr {K:V->Prop}{u u' v v':V}(h0:u=u')(h1:v=v'):mxK K u v=mxK K u' v':=by rw[h0,h1]
@[congr] theorem negK_congr {K:V->Prop}{v v':V}(h0:v=v'):Ykt K v=Ykt K v':=by rw[h0]
@[congr] theorem cvsK_congr {K:V->Prop}{v v':V}(h0:v=v'):Yfg K v=Yfg K v':=by rw[h0]
@[congr] theorem nilcK_congr {K:V->Prop}{v v':V}(h0:v=v'):Xce K v=Xce K v':=by rw[h0]
@[congr] theorem lenSK_congr {K:V->Prop}{v v':V}(h0:v=v'):Xdz K v=Xdz K v':=by rw[h0]
@[congr] theorem b2sK_congr {K:V->Prop}{v v':V}(h0:v=v'):Yyw K v=Yyw K v':=by rw[h0]
@[congr] theorem s2bK_congr {K:V->Prop}{v v':V}(h0:v=v'):Yzf K v=Yzf K v':=by rw[h0]
@[congr] theorem binK_congr {op:BinOp}{K:V->Prop}{u u':V}{v v':V}(h0:u=u')(h1:v=v'):Xru op K u v=Xru op K u' v':=by rw[h0,h1]
@[congr] theorem intK_congr {op:BinOp}{k j:IntKind}{K:V->Prop}{a a':Int}{b b':Int}(h0:a=a')(h1:b=b'):Xmz op k j a b K=Xmz op k j a' b' K:=by rw[h0,h1]
@[congr] theorem strK_congr {op:BinOp}{K:V->Prop}{a a':List UInt8}{b b':List UInt8}(h0:a=a')(h1:b=b'):Xwl op a b K=Xwl op a' b' K:=by rw[h0,h1]
@[congr] theorem beqK_congr {e:Bool}{K:V->Prop}{u u':V}{v v':V}(h0:u=u')(h1:v=v'):Yek e K u v=Yek e K u' v':=by rw[h0,h1]
@[congr] theorem isnilK_congr {e:Bool}{K:V->Prop}{v v':V}(h0:v=v'):V2 e K v=V2 e K v':=by rw[h0]
@[congr] theorem cviK_congr {k:IntKind}{K:V->Prop}{v v':V}(h0:v=v'):Xy6 k K v=Xy6 k K v':=by rw[h0]
@[congr] theorem idxK_congr {K:V->Prop}{u u':V}{v v':V}(h0:u=u')(h1:v=v'):X5l K u v=X5l K u' v':=by rw[h0,h1]
@[congr] theorem idxAK_congr {ob:Xb}{n:Nat}{K:V->Prop}{u u':V}{v v':V}(h0:u=u')(h1:v=v'):Xcb ob n K u v=Xcb ob n K u' v':=by rw[h0,h1]
@[congr] theorem idxPK_congr {ob:Xb}{k n:Nat}{K:V->Prop}{u u':V}{v v':V}(h0:u=u')(h1:v=v'):Xcc ob k n K u v=Xcc ob k n K u' v':=by rw[h0,h1]
@[congr] theorem fldAK_congr {ob:Xb}{k n:Nat}{K:V->Prop}{v v':V}(h0:v=v'):Uu ob k n K v=Uu ob k n K v':=by rw[h0]
@[congr] theorem fldAKo_congr {j:Nat}{p:List Nat}{k n:Nat}{K:V->Prop}{v v':Option (List V)}(h0:v=v'):U2 j p k n K v=U2 j p k n K v':=by rw[h0]
@[congr] theorem fldK_congr {k j n:Nat}{b:Bool}{K:V->Prop}{v v':Option (List V)}(h0:v=v'):Yf2 k j n b K v=Yf2 k j n b K v':=by rw[h0]
@[congr] theorem ldK_congr {ob:Xb}{n:Nat}{b:Bool}{K:V->Prop}{v v':V}(h0:v=v'):ldK ob n b K v=ldK ob n b K v':=by rw[h0]
@[congr] theorem ldKo_congr {n:Nat}{b:Bool}{K:V->Prop}{v v':Option V}(h0:v=v'):Xlk n b K v=Xlk n b K v':=by rw[h0]
@[congr] theorem lenLK_congr {ob:Xb}{K:V->Prop}{v v':V}(h0:v=v'):Xad ob K v=Xad ob K v':=by rw[h0]
@[congr] theorem bndK_congr {n:Nat}{KK:Nat->Nat->Prop}{u u':Option V}{v v':Option V}(h0:u=u')(h1:v=v'):Jx n KK u v=Jx n KK u' v':=by rw[h0,h1]
@[congr] theorem slcSK_congr {K:V->Prop}{l l':Option V}{h h':Option V}{v v':V}(h0:l=l')(h1:h=h')(h2:v=v'):Xe8 l h K v=Xe8 l' h' K v':=by rw[h0,h1,h2]
@[congr] theorem slcLK_congr {n:Nat}{K:V->Prop}{l l':Option V}{h h':Option V}{v v':V}(h0:l=l')(h1:h=h')(h2:v=v'):Xi5 n l h K v=Xi5 n l' h' K v':=by rw[h0,h1,h2]
@[congr] theorem extK_congr {n:Nat}{K:V->Prop}{v v':V}(h0:v=v'):X5k n K v=X5k n K v':=by rw[h0]
@[congr] theorem bldK_congr {KL:List V->Prop}{u u':List V}{l l':List (Nat×V)}(h0:u=u')(h1:l=l'):Jw u l KL=Jw u' l' KL:=by rw[h0,h1]
@[congr] theorem tasK_congr {k:Nat}{d:D}{K:V->Prop}{v v':V}(h0:v=v'):Yam k d K v=Yam k d K v':=by rw[h0]
@[congr] theorem boxK_congr {k:Nat}{ob:Xb}{KO:V->Xb->Prop}{v v':V}(h0:v=v'):Xwg k ob KO v=Xwg k ob KO v':=by rw[h0]
@[congr] theorem stK_congr {ob:Xb}{n:Nat}{KO:V->Xb->Prop}{u u':V}{v v':V}(h0:u=u')(h1:v=v'):stK ob n u KO v=stK ob n u' KO v':=by rw[h0,h1]
@[congr] theorem stKo_congr {ob:Xb}{k:Nat}{p:List Nat}{n:Nat}{u:V}{KO:V->Xb->Prop}{v v':Option Ob}(h0:v=v'):X43 ob k p n u KO v=X43 ob k p n u KO v':=by rw[h0]
@[congr] theorem stKt_congr {ob:Xb}{k:Nat}{p:List Nat}{n E:Nat}{u t:V}{KO:V->Xb->Prop}{v v':Option V}(h0:v=v'):X44 ob k p n E u t KO v=X44 ob k p n E u t KO v':=by rw[h0]
@[congr] theorem stKs_congr {ob:Xb}{k E:Nat}{KO:V->Xb->Prop}{v v':Option V}(h0:v=v'):Yl3 ob k E KO v=Yl3 ob k E KO v':=by rw[h0]
@[congr] theorem dK_congr {KD:List D->Prop}{v v':Option (List D)}(h0:v=v'):dK KD v=dK KD v':=by rw[h0]
@[congr] theorem callvK_congr {P:Prg}{ob:Xb}{KO:V->Xb->Prop}{Pn:V->Xb->Prop}{u u':List V}{v v':V}(h0:u=u')(h1:v=v'):Va P u ob KO Pn v=Va P u' ob KO Pn v':=by rw[h0,h1]
@[congr] theorem panicK_congr {ob:Xb}{Pn:V->Xb->Prop}{v v':V}(h0:v=v'):Xak ob Pn v=Xak ob Pn v':=by rw[h0]
@[congr] theorem srcK_congr {n:Nat}{KD:List D->Prop}{v v':V}(h0:v=v'):X4z n KD v=X4z n KD v':=by rw[h0]
@[congr] theorem appK_congr {E sz B:Nat}{ob:Xb}{xs:List D}{KO:V->Xb->Prop}{v v':V}(h0:v=v'):Xfd E sz B ob xs KO v=Xfd E sz B ob xs KO v':=by rw[h0]
@[congr] theorem appKo_congr {k E sz B n:Nat}{ob:Xb}{xs:List D}{KO:V->Xb->Prop}{v v':Option Ob}(h0:v=v'):Xe0 k E sz B n ob xs KO v=Xe0 k E sz B n ob xs KO v':=by rw[h0]
@[congr] theorem niloK_congr {E sz:Nat}{ob:Xb}{KO:V->Xb->Prop}{v v':V}(h0:v=v'):Xis E sz ob KO v=Xis E sz ob KO v':=by rw[h0]
@[congr] theorem srcSK_congr {KD:List D->Prop}{v v':V}(h0:v=v'):Yai KD v=Yai KD v':=by rw[h0]
@[congr] theorem pnilK_congr {e:Bool}{K:V->Prop}{v v':V}(h0:v=v'):Xqc e K v=Xqc e K v':=by rw[h0]
@[congr] theorem fnilK_congr {e:Bool}{K:V->Prop}{v v':V}(h0:v=v'):Xnr e K v=Xnr e K v':=by rw[h0]
@[congr] theorem peqK_congr {ob:Xb}{e:Bool}{K:V->Prop}{u u' v v':V}(h1:u=u')(h0:v=v'):Yly ob e K u v=Yly ob e K u' v':=by rw[h0,h1]
@[congr] theorem givK_congr {KO:V->Xb->Prop}{v v':Option (D×Xb)}(h0:v=v'):Xsz KO v=Xsz KO v':=by rw[h0]
@[congr] theorem givsK_congr {KO:List D->Xb->Prop}{v v':Option (List D×Xb)}(h0:v=v'):Vj KO v=Vj KO v':=by rw[h0]
@[congr] theorem gvO_congr {u:V}{ob:Xb}{KO:V->Xb->Prop}{v v':Option (D×Xb)}(h0:v=v'):gvO u ob KO v=gvO u ob KO v':=by rw[h0]
@[congr] theorem gvsK_congr {KL:List V->Xb->Prop}{u u':List V}{ob ob':Xb}(h0:u=u')(h1:ob=ob'):Xe1 u ob KL=Xe1 u' ob' KL:=by rw[h0,h1]
@[congr] theorem leaveK_congr {n:Nat}{K:Xb->Prop}{u u':List V}{ob ob':Xb}(h0:u=u')(h1:ob=ob'):X8 n K u ob=X8 n K u' ob':=by rw[h0,h1]
@[congr] theorem ldfK_congr {n:Nat}{b:Bool}{ob:Xb}{KO:V->Xb->Prop}{v v':V}(h0:v=v'):X9h n b ob KO v=X9h n b ob KO v':=by rw[h0]
@[congr] theorem ldfKo_congr {n:Nat}{b:Bool}{ob:Xb}{KO:V->Xb->Prop}{v v':Option V}(h0:v=v'):Xn2 n b ob KO v=Xn2 n b ob KO v':=by rw[h0]
@[congr] theorem mvgK_congr {ob:Xb}{E sz:Nat}{p:List Nat}{KO:V->Xb->Prop}{u u' v v':V}(h1:u=u')(h0:v=v'):Xls ob E sz p u KO v=Xls ob E sz p u' KO v':=by rw[h0,h1]
@[congr] theorem mvgKt_congr {ob:Xb}{k E sz:Nat}{p p':List Nat}{KO:V->Xb->Prop}{u:V}{v v':Option Ob}(h1:p=p')(h0:v=v'):Xe5 ob k p E sz u KO v=Xe5 ob k p' E sz u KO v':=by rw[h0,h1]
@[congr] theorem mvgKs_congr {ob:Xb}{k E0 E sz:Nat}{KO:V->Xb->Prop}{u:V}{v v':Option V}(h0:v=v'):Xlu ob k E0 E sz u KO v=Xlu ob k E0 E sz u KO v':=by rw[h0]
@[congr] theorem cvbK_congr {ob:Xb}{KO:V->Xb->Prop}{v v':V}(h0:v=v'):Xy5 ob KO v=Xy5 ob KO v':=by rw[h0]
@[congr] theorem cvbKo_congr {k n:Nat}{ob:Xb}{KO:V->Xb->Prop}{v v':Option Ob}(h0:v=v'):Xg0 k n ob KO v=Xg0 k n ob KO v':=by rw[h0]
@[congr] theorem usdK_congr {ob:Xb}{K:V->Prop}{v v':V}(h0:v=v'):Ylk ob K v=Ylk ob K v':=by rw[h0]
@[congr] theorem ustrK_congr {E:Nat}{ob:Xb}{KO:V->Xb->Prop}{u u' v v':V}(h1:u=u')(h0:v=v'):Xwb E ob KO u v=Xwb E ob KO u' v':=by rw[h0,h1]
@[congr] theorem ustrKo_congr {k n:Nat}{m:Int}{E:Nat}{ob:Xb}{KO:V->Xb->Prop}{v v':Option Ob}(h0:v=v'):Xmq k n m E ob KO v=Xmq k n m E ob KO v':=by rw[h0]
@[congr] theorem resK_congr {sl:Xf}{ob:Xb}{rs:List RV}{KL:List V->Prop}:Vg sl ob rs KL=Vg sl ob rs KL:=rfl
@[congr] theorem ACall_congr {P:Prg}{f:Nat}{vs vs':List V}{ob ob':Xb}{K:Out->Xb->Prop}(h:vs=vs')(h':ob=ob'):ACall P f vs ob K=ACall P f vs' ob' K:=by rw[h,h']
@[congr] theorem PCall_congr {P:Prg}{f:Nat}{vs vs':List V}{ob ob':Xb}{K:V->Prop}(h:vs=vs')(h':ob=ob'):PCall P f vs ob K=PCall P f vs' ob' K:=by rw[h,h']
@[congr] theorem ALoop_congr {keep:List Nat}{body:Ze->Xf->Xb->Prop}{Q:Ze}{sl sl':Xf}{ob ob':Xb}(h:sl=sl')(h':ob=ob'):ALoop keep body Q sl ob=ALoop keep body Q sl' ob':=by rw[h,h']

theorem ALoop.of {keep:List Nat}{body:Ze->Xf->Xb->Prop}{Q:Ze}{sl:Xf}{ob:Xb}{ι:Type}(S:ι->Xf)(O:ι->Xb)(I:ι->Prop)(μ:ι->Nat)(i0:ι)(h0:I i0)(hs:Xk sl keep=S i0)(ho:ob=O i0)
  (step:∀i,I i->body (W3 (sub keep (Xa (O i)) fun sl' ob'=>∃j,I j/\μ j<μ i/\sl'=S j/\ob'=O j) Q) (S i) (O i)):ALoop keep body Q sl ob:=
 ⟨⟨ι,S,O,I,μ,i0,h0,hs,ho,step⟩⟩

theorem ALoop.go {keep:List Nat}{body:Ze->Xf->Xb->Prop}{Q:Ze}{sl:Xf}{ob:Xb}{ι:Type}(S:ι->Xf)(O:ι->Xb)(I:ι->Prop)(μ:ι->Nat)(i0:ι)(h0:I i0)(hs:Xk sl keep=S i0)(ho:ob=O i0)
  (step:∀i,I i->∀R:Ze,(∀kp j sl' ob',I j->μ j<μ i->Xk sl' keep=S j->Y2 (Xc (Xa (O i)) kp) ob'=O j->Wo (Xc (Xa (O i)) kp) (S j)=true->Xh (Xc (Xa (O i)) kp) (O j)=true->R .normal sl' ob')->
   (∀n sl' ob',Q (.exit n) sl' ob'->R (.exit n) sl' ob')->(∀sl' ob',Q .ret sl' ob'->R .ret sl' ob')->(∀v sl' ob',Q (.panic v) sl' ob'->R (.panic v) sl' ob')->body R (S i) (O i)):ALoop keep body Q sl ob:=by
 refine ALoop.of S O I μ i0 h0 hs ho fun i hi=>step i hi _ (fun kp j sl' ob' h1 h2 h3 h4 h5 h6=>?_) (fun _ _ _ h=>h) (fun _ _ h=>h) (fun _ _ _ h=>h);simp only[W3,sub];refine⟨kp,?_⟩;rw[h3,h4];exact⟨h5,h6,j,h1,h2,rfl,rfl⟩
@[congr] theorem cwp_congr {P:Prg}{s:S}{Q:Ze}{sl sl':Xf}{ob ob':Xb}(h:sl=sl')(h':ob=ob'):cwp P s Q sl ob=cwp P s Q sl' ob':=by rw[h,h']
end Go.Ab
namespace Go.Ab
open Go

def Xed:V->V->V->V
 | .d (.bool t),.d (.bool x),.d (.bool y)=>.d (.bool (if t then x else y))
 | .d (.bool t),x,y=>if t then x else y
 | _,_,_=>.any
def Yku:V->V
 | .d (.bool b)=>.d (.bool (!b))
 | _=>.any
def Y5j:V->V
 | .d (.int k n)=>.d (.int k (k.wrap (0-n)))
 | _=>.any
def Y1g:V->V
 | .d (.int k n)=>.d (.int k (Xup .xor k (if k.signed then -1 else k.max) n))
 | _=>.any
def mxV:V->V->V
 | .d (.int k a),.d (.int _ b)=>.d (.int k (if b > a then b else a))
 | _,_=>.any
def Xby (op:BinOp)(k:IntKind)(a b:Int):V:=
 match op with
 | .add=>.d (.int k (k.wrap (a+b)))
 | .sub=>.d (.int k (k.wrap (a-b)))
 | .mul=>.d (.int k (k.wrap (a*b)))
 | .quo=>.d (.int k (k.wrap (a.tdiv b)))
 | .rem=>.d (.int k (a.tmod b))
 | .and | .or | .xor | .andNot=>.d (.int k (Xup op k a b))
 | .shl=>.d (.int k (k.wrap (a*2 ^ (min b.toNat k.bits))))
 | .shr=>.d (.int k (a.fdiv (2 ^ (min b.toNat k.bits))))
 | .eql=>.d (.bool (a==b))
 | .neq=>.d (.bool (a != b))
 | .lss=>.d (.bool (decide (a<b)))
 | .leq=>.d (.bool (decide (a<=b)))
 | .gtr=>.d (.bool (decide (b<a)))
 | .geq=>.d (.bool (decide (b<=a)))
def Ydk (op:BinOp)(x y:List UInt8):V:=
 match op with
 | .add=>.d (.str (x++y))
 | .eql=>.d (.bool (x==y))
 | .neq=>.d (.bool (x != y))
 | .lss=>.d (.bool (Op.bytesLess x y))
 | .leq=>.d (.bool (Op.bytesLess x y||x==y))
 | .gtr=>.d (.bool (!(Op.bytesLess x y||x==y)))
 | .geq=>.d (.bool (!Op.bytesLess x y))
 | _=>.any
def Yem (op:BinOp):V->V->V
 | .d (.int k a),.d (.int _ b)=>Xby op k a b
 | .d (.str x),.d (.str y)=>Ydk op x y
 | _,_=>.any
def Y05 (e:Bool):V->V->V
 | .d (.bool x),.d (.bool y)=>.d (.bool ((x==y)==e))
 | _,_=>.any
def J9 (e:Bool):V->V
 | .d .nili=>.d (.bool e)
 | .iface _ _=>.d (.bool (!e))
 | .d (.iface _ _)=>.d (.bool (!e))
 | _=>.any
def Yk5 (e:Bool):V->V
 | .d .nilp=>.d (.bool e)
 | .d (.ref _)=>.d (.bool (!e))
 | .ptr _ _=>.d (.bool (!e))
 | _=>.any
def Yf3 (e:Bool):V->V
 | .d .nilf=>.d (.bool e)
 | .d (.fn _ _ _)=>.d (.bool (!e))
 | .fn _ _ _=>.d (.bool (!e))
 | _=>.any
def Zqt:V->V
 | .sl id n=>.sd id n
 | .d .nils=>.d .nilp
 | _=>.any
def Yff (k:IntKind):V->V
 | .d (.int _ n)=>.d (.int k (k.wrap n))
 | _=>.any
def Y1h:V->V
 | .d (.str s)=>.d (.str s)
 | _=>.any
def Ynp:V->V->V
 | .d (.str s),.d (.int _ n)=>.d (.int .u8 (s.getD n.toNat 0).toNat)
 | _,_=>.any
def Xk8 (z:Nat):V->V->V
 | .d (.list _ xs),.d (.int _ n)=>.d (.ref (xs.getD n.toNat default))
 | .sl id n,.d (.int _ m)=>.ep id n z m.toNat 0 []
 | .bs id p lo _,.d (.int _ m)=>.ptr id (p++[lo+m.toNat])
 | _,_=>.any
def Xhc:V->V->V
 | .ptr id p,.d (.int _ n)=>.ptr id (p++[n.toNat])
 | .d (.ref (.agg xs)),.d (.int _ n)=>.d (.ref (xs.getD n.toNat default))
 | _,_=>.any
def Xnq (f fo:Nat):V->V
 | .ptr id p=>.ptr id (p++[f])
 | .ep id n z i g p=>.ep id n z i (g+fo) (p++[f])
 | .d (.ref (.agg xs))=>.d (.ref (xs.getD f default))
 | _=>.any
def Zj6 (f:Nat):Option (List V)->V
 | some ks=>ks.getD f .any
 | none=>.any
def Ybm:Option V->V
 | some v=>v
 | none=>.any
def ldV (ob:Xb):V->V
 | .ptr id p=>Ybm (atO ob id p)
 | .d (.ref x)=>.d x
 | .ep id m z i f p=>Ybm (atE ob id m z i f p)
 | _=>.any
def Xn4:V->V
 | .d (.str s)=>.d (.int .i64 s.length)
 | _=>.any
def U8:V->V
 | .d (.list _ xs)=>.d (.int .i64 xs.length)
 | .d .nils=>.d (.int .i64 0)
 | .sl _ n=>.d (.int .i64 n)
 | .bs _ _ _ n=>.d (.int .i64 n)
 | _=>.any
def Ya4 (len:Nat)(K:Nat->Nat->V):Option V->Option V->V
 | none,none=>K 0 len
 | some (.d (.int _ l)),none=>K l.toNat len
 | none,some (.d (.int _ h))=>K 0 h.toNat
 | some (.d (.int _ l)),some (.d (.int _ h))=>K l.toNat h.toNat
 | _,_=>.any
def Xav (lo hi:Option V):V->V
 | .d (.str s)=>Ya4 s.length (fun l h=>.d (.str ((s.take h).drop l))) lo hi
 | _=>.any
def Y97 (lo hi:Option V):V->V
 | .d (.list sz xs)=>Ya4 xs.length (fun l h=>.d (.list sz ((xs.take h).drop l))) lo hi
 | _=>.any
def Yls (i:Nat):V->V
 | .tup xs=>xs.getD i .any
 | _=>.any
def Yl4 (t:Nat)(z:D):V->V
 | .iface t' v=>if t'=t then .tup [v,.d (.bool true)] else .tup [.d z,.d (.bool false)]
 | .d (.iface t' x)=>if t'=t then .tup [.d x,.d (.bool true)] else .tup [.d z,.d (.bool false)]
 | .d .nili=>.tup [.d z,.d (.bool false)]
 | _=>.any

def Ylr (e:Bool):V->V->V
 | .d x,.d y=>.d (.bool (D.eqb x y==e))
 | _,_=>.any
def Xvd:V->V->V
 | .d (.agg xs),.d (.int _ n)=>.d (xs.getD n.toNat default)
 | _,_=>.any

def C.val (sl:Xf)(ob:Xb):C->V
 | .mv x=>x.ev sl
 | .pick c a b=>Xed (c.ev sl) (a.ev sl) (b.ev sl)
 | .not x=>Yku (x.ev sl)
 | .neg x=>Y5j (x.ev sl)
 | .cpl x=>Y1g (x.ev sl)
 | .mx x y=>mxV (x.ev sl) (y.ev sl)
 | .bin op x y=>Yem op (x.ev sl) (y.ev sl)
 | .beq e x y=>Y05 e (x.ev sl) (y.ev sl)
 | .isnil e x=>J9 e (x.ev sl)
 | .pnil e x=>Yk5 e (x.ev sl)
 | .fnil e x=>Yf3 e (x.ev sl)
 | .peq e _ _=>.d (.bool e)
 | .usd x=>Zqt (x.ev sl)
 | .cvi k x=>Yff k (x.ev sl)
 | .cvs x=>Y1h (x.ev sl)
 | .idx x i=>Ynp (x.ev sl) (i.ev sl)
 | .idxA z x i=>Xk8 z (x.ev sl) (i.ev sl)
 | .idxP _ _ x i=>Xhc (x.ev sl) (i.ev sl)
 | .fldA f fo x=>Xnq f fo (x.ev sl)
 | .fld f _ _ _ x=>Zj6 f (x.ev sl).kids
 | .ld _ _ x=>ldV ob (x.ev sl)
 | .ldd _ _ x=>ldV ob (x.ev sl)
 | .nilc x=>x.ev sl
 | .lenS x=>Xn4 (x.ev sl)
 | .lenL x=>U8 (x.ev sl)
 | .lenA n=>.d (.int .i64 n)
 | .slcS x lo hi=>Xav (lo.map (A.ev sl)) (hi.map (A.ev sl)) (x.ev sl)
 | .slcL _ x lo hi=>Y97 (lo.map (A.ev sl)) (hi.map (A.ev sl)) (x.ev sl)
 | .ext x i=>Yls i (x.ev sl)
 | .bld _ _=>.any
 | .mkf f first cap=>Ybu f (first.map (A.ev sl)) (cap.map (A.ev sl))
 | .mki t x=>X9v t (x.ev sl)
 | .tas t z x=>Yl4 t z (x.ev sl)
 | .eqD _ e x y=>Ylr e (x.ev sl) (y.ev sl)
 | .aix _ _ _ x i=>Xvd (x.ev sl) (i.ev sl)

def C.ok (sl:Xf)(ob:Xb)(c:C):Prop:=c.wp sl ob fun v=>v=c.val sl ob

theorem X05 {op:BinOp}{k k':IntKind}{a b:Int}{K K':V->Prop}(hk:∀v,K v->K' v)(h:Xmz op k k' a b K):Xmz op k k' a b K':=by
 cases op<;>simp only[Xmz]at h⊢<;>first | exact⟨h.1,hk _ h.2⟩ | exact⟨h.1,h.2.1,hk _ h.2.2⟩
theorem X45 {op:BinOp}{a b:List UInt8}{K K':V->Prop}(hk:∀v,K v->K' v)(h:Xwl op a b K):Xwl op a b K':=by
 cases op<;>simp only[Xwl]at h⊢<;>first | exact hk _ h | exact⟨h.1,hk _ h.2⟩ | exact h.elim
theorem Xdf {n:Nat}{K K':Nat->Nat->Prop}(hk:∀l h,K l h->K' l h){lo hi:Option V}(h:Jx n K lo hi):Jx n K' lo hi:=by
 unfold Jx at h⊢;split<;>simp_all
theorem U0 {K K':List V->Prop}(hk:∀l,K l->K' l):∀(ps:List (Nat×V)) (ks:List V),Jw ks ps K->Jw ks ps K'
 | [],_,h=>hk _ h
 | (_,_)::r,_,h=>⟨h.1,h.2.1,h.2.2.1,U0 hk r _ h.2.2.2⟩
theorem C.wp_mono {sl:Xf}{ob:Xb}{K K':V->Prop}(hk:∀v,K v->K' v)(c:C)(h:c.wp sl ob K):c.wp sl ob K':=by
 cases c<;>simp only[C.wp]at h⊢
 case mv=>exact hk _ h
 case lenA=>exact hk _ h
 case mkf=>exact hk _ h
 case mki=>exact hk _ h
 case bld=>exact U0 (fun _=>hk _) _ _ h
 case bin x y=>
  generalize A.ev sl x=v at h⊢; generalize A.ev sl y=u at h⊢;unfold Xru at h; split at h
  ·exact X05 hk h
  ·exact X45 hk h
  ·exact h.elim
 case slcS x lo hi=>
  generalize A.ev sl x=v at h⊢;unfold Xe8 at h; split at h
  ·exact Xdf (fun _ _=>hk _) h
  ·exact h.elim
 case slcL x lo hi=>
  generalize A.ev sl x=v at h⊢;unfold Xi5 at h; split at h
  ·exact⟨h.1,Xdf (fun _ _=>hk _) h.2⟩
  ·exact h.elim
 case pick x y z=>
  generalize A.ev sl x=v at h⊢; generalize A.ev sl y=u at h⊢; generalize A.ev sl z=t at h⊢;unfold Q2 at h; split at h
  ·exact hk _ h
  ·rename_i hn; simp only[Q2]; exact⟨fun e=>hk _ (h.1 e),fun e=>hk _ (h.2 e)⟩
  ·exact h.elim
 case fld x=>
  generalize (A.ev sl x).kids=v at h⊢;unfold Yf2 at h; split at h
  ·exact⟨h.1,h.2.1,h.2.2.1,h.2.2.2.1,hk _ h.2.2.2.2⟩
  ·exact h.elim
 case fldA x=>
  generalize A.ev sl x=v at h⊢;unfold Uu at h; split at h
  ·simp only[Uu];generalize Z3 _=v at h⊢;unfold U2 at h; split at h
   ·exact⟨h.1,h.2.1,hk _ h.2.2⟩
   ·exact h.elim
  ·exact⟨h.1,h.2.1,hk _ h.2.2⟩
  ·exact hk _ h
  ·exact h.elim
 case ld x=>
  generalize A.ev sl x=v at h⊢;unfold ldK at h; split at h
  ·simp only[ldK];generalize atO _ _ _=v at h⊢;unfold Xlk at h; split at h
   ·exact⟨h.1,h.2.1,hk _ h.2.2⟩
   ·exact h.elim
  ·exact⟨h.1,h.2.1,hk _ h.2.2⟩
  ·simp only[ldK];generalize atE _ _ _ _ _ _ _=v at h⊢;unfold Xlk at h; split at h
   ·exact⟨h.1,h.2.1,hk _ h.2.2⟩
   ·exact h.elim
  ·exact h.elim
 case tas x=>
  generalize A.ev sl x=v at h⊢;unfold Yam at h; split at h
  ·exact⟨fun e=>hk _ (h.1 e),fun e=>hk _ (h.2 e)⟩
  ·exact⟨fun e=>hk _ (h.1 e),fun e=>hk _ (h.2 e)⟩
  ·exact hk _ h
  ·exact h.elim
 case pnil x=>generalize A.ev sl x=v at h⊢; unfold Xqc at h; split at h<;>first | exact hk _ h | exact h.elim
 case fnil x=>generalize A.ev sl x=v at h⊢; unfold Xnr at h; split at h<;>first | exact hk _ h | exact h.elim
 case usd x=>generalize A.ev sl x=v at h⊢; unfold Ylk at h; split at h<;>first | exact⟨h.1,hk _ h.2⟩ | exact hk _ h | exact h.elim
 case peq x y=>generalize A.ev sl x=v at h⊢; generalize A.ev sl y=u at h⊢; unfold Yly at h; split at h<;>first | exact⟨h.1,h.2.1,h.2.2.1,hk _ h.2.2.2⟩ | exact h.elim
 case not x=>generalize A.ev sl x=v at h⊢; unfold X3h at h; split at h<;>first | exact hk _ h | exact h.elim
 case cpl x=>generalize A.ev sl x=v at h⊢; unfold Yfd at h; split at h<;>first | exact hk _ h | exact h.elim
 case mx x y=>generalize A.ev sl x=v at h⊢; generalize A.ev sl y=u at h⊢; unfold mxK at h; split at h<;>first | exact hk _ h | exact h.elim
 case neg x=>generalize A.ev sl x=v at h⊢; unfold Ykt at h; split at h<;>first | exact hk _ h | exact h.elim
 case isnil x=>generalize A.ev sl x=v at h⊢; unfold V2 at h; split at h<;>first | exact hk _ h | exact h.elim
 case cvi x=>generalize A.ev sl x=v at h⊢; unfold Xy6 at h; split at h<;>first | exact hk _ h | exact h.elim
 case cvs x=>generalize A.ev sl x=v at h⊢; unfold Yfg at h; split at h<;>first | exact hk _ h | exact h.elim
 case nilc x=>generalize A.ev sl x=v at h⊢; unfold Xce at h; split at h<;>first | exact hk _ h | exact h.elim
 case lenS x=>generalize A.ev sl x=v at h⊢; unfold Xdz at h; split at h<;>first | exact hk _ h | exact h.elim
 case lenL x=>generalize A.ev sl x=v at h⊢; unfold Xad at h; split at h<;>first | exact hk _ h | exact⟨h.1,hk _ h.2⟩ | exact h.elim
 case ext x _=>generalize A.ev sl x=v at h⊢; unfold X5k at h; split at h<;>first | exact⟨h.1,hk _ h.2⟩ | exact h.elim
 case ldd x=>generalize A.ev sl x=v at h⊢; unfold Xwj at h; split at h<;>first | exact⟨h.1,h.2.1,hk _ h.2.2⟩ | exact h.elim
 case eqD x y=>generalize A.ev sl x=v at h⊢; generalize A.ev sl y=u at h⊢; unfold Ynf at h; split at h<;>first | exact⟨h.1,h.2.1,hk _ h.2.2⟩ | exact h.elim
 case aix x y=>generalize A.ev sl x=v at h⊢; generalize A.ev sl y=u at h⊢; unfold Xnx at h; split at h<;>first | exact⟨h.1,h.2.1,h.2.2.1,hk _ h.2.2.2⟩ | exact h.elim
 case beq x y=>generalize A.ev sl x=v at h⊢; generalize A.ev sl y=u at h⊢; unfold Yek at h; split at h<;>first | exact hk _ h | exact h.elim
 case idx x y=>generalize A.ev sl x=v at h⊢; generalize A.ev sl y=u at h⊢; unfold X5l at h; split at h<;>first | exact⟨h.1,hk _ h.2⟩ | exact h.elim
 case idxA x y=>generalize A.ev sl x=v at h⊢; generalize A.ev sl y=u at h⊢; unfold Xcb at h; split at h<;>first | exact⟨h.1,h.2.1,hk _ h.2.2⟩ | exact h.elim
 case idxP x y=>generalize A.ev sl x=v at h⊢; generalize A.ev sl y=u at h⊢; unfold Xcc at h; split at h<;>first | exact⟨h.1,h.2.1,hk _ h.2.2⟩ | exact⟨h.1,h.2.1,h.2.2.1,hk _ h.2.2.2⟩ | exact h.elim
theorem Rcm {sl:Xf}{ob:Xb}{K:V->Prop}{c:C}(h:c.ok sl ob)(hK:K (c.val sl ob)):c.wp sl ob K:=
 C.wp_mono (fun _ e=>e▸hK) c h
end Go.Ab
