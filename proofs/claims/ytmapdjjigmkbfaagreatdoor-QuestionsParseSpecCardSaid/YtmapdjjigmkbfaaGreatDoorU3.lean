/- Texts of this claim joined by a program, part 3 of 15; the last is: Regions folded into expressions: the fold of a whole region, and that it Xkk what is shown. Over any program; no condition. -/
import Derived.Test.YtmapdjjigmkbfaaGreatDoorU2
import Derived.Tactics
set_option linter.unusedSimpArgs false
set_option linter.unusedVariables false
set_option linter.unusedSectionVars false
set_option linter.defProp false
namespace Go.Ab
open Go

def put (sl:Xb)(d:Option Nat)(v:V):Xb:=match d with
  | some k=>(k,v)::sl
  | none=>sl

inductive It where
  | op (d:Option Nat) (i:I)
  | gop (s:Nat) (want:Bool) (d:Option Nat) (i:I)

def gdK (s:Nat)(want:Bool)(sl:Xb)(Y N:Xb->Prop):V->Prop
  | .d (.bool b)=>(b=want->Y ((s,.d (.bool want))::sl))/\(b=!want->N ((s,.d (.bool (!want)))::sl))
  | .undef=>N sl
  | _=>False

def rwp (P:Prg)(K:Xb->Objs->Prop)(Pn:V->Xb->Objs->Prop):List It->Xb->Objs->Prop
  | [],sl,ob=>K sl ob
  | .op d i::r,sl,ob=>i.wp P sl ob (fun v ob'=>rwp P K Pn r (put sl d v) ob') (fun v ob'=>Pn v sl ob')
  | .gop s want d i::r,sl,ob=>gdK s want sl (fun sl=>i.wp P sl ob (fun v ob'=>rwp P K Pn r (put sl d v) ob') (fun v ob'=>Pn v sl ob')) (fun sl=>rwp P K Pn r (put sl d .undef) ob) (look sl s)

mutual
inductive Ot where
  | done
  | one (i:Nat) (x:It) (r:Ot)
  | br (l:Ots)
inductive Ots where
  | nil
  | cons (i:Nat) (x:It) (r:Ot) (l:Ots)
end
def itK (P:Prg)(next:Xb->Objs->Prop)(Pn:V->Xb->Objs->Prop):It->Xb->Objs->Prop
  | .op d i,sl,ob=>i.wp P sl ob (fun v ob'=>next (put sl d v) ob') (fun v ob'=>Pn v sl ob')
  | .gop s want d i,sl,ob=>gdK s want sl (fun sl=>i.wp P sl ob (fun v ob'=>next (put sl d v) ob') (fun v ob'=>Pn v sl ob')) (fun sl=>next (put sl d .undef) ob) (look sl s)
mutual
def owp (P:Prg)(K:Xb->Objs->Prop)(Pn:V->Xb->Objs->Prop):Ot->Xb->Objs->Prop
  | .done,sl,ob=>K sl ob
  | .one _ x r,sl,ob=>itK P (owp P K Pn r) Pn x sl ob
  | .br l,sl,ob=>Xjh P K Pn l sl ob
def Xjh (P:Prg)(K:Xb->Objs->Prop)(Pn:V->Xb->Objs->Prop):Ots->Xb->Objs->Prop
  | .nil,_,_=>True
  | .cons _ x r l,sl,ob=>itK P (owp P K Pn r) Pn x sl ob/\Xjh P K Pn l sl ob
end

inductive S where
  | rg (ord:List Nat) (l:List It) (keep pk:List Nat)
  | rgT (n:Nat) (t:Ot) (keep pk:List Nat)
  | seq (a b:S)
  | skip
  | cond (c:A) (a b:S)
  | block (n:Nat) (a:S)
  | loop (keep:List Nat) (a:S)
  | exit (n:Nat)
  | ret

inductive AExit where
  | normal
  | exit (n:Nat)
  | ret
  | panic (v:V)

abbrev Uc:=AExit->Xb->Objs->Prop

def Vs (next:Xb->Objs->Prop)(Q:Uc):Uc
  | .normal,sl,ob=>next sl ob
  | .exit n,sl,ob=>Q (.exit n) sl ob
  | .ret,sl,ob=>Q .ret sl ob
  | .panic v,sl,ob=>Q (.panic v) sl ob
def Y3 (id:Nat)(Q:Uc):Uc
  | .normal,sl,ob=>Q .normal sl ob
  | .exit n,sl,ob=>if n=id then Q .normal sl ob else Q (.exit n) sl ob
  | .ret,sl,ob=>Q .ret sl ob
  | .panic v,sl,ob=>Q (.panic v) sl ob
def Xbn (Y N:Prop):V->Prop
  | .d (.bool t)=>(t=true->Y)/\(t=false->N)
  | _=>False
def Xf (sl:Xb):List Nat->Xb
  | []=>[]
  | k::r=>(k,look sl k)::Xf sl r

mutual
def V.men (ids:Nat->Bool):V->Bool
  | .ptr id _=>ids id
  | .sl id _=>ids id
  | .sd id _=>ids id
  | .mp id=>ids id
  | .ep id _ _ _ _ _=>ids id
  | .bs id _ _ _=>ids id
  | .fn _ a b=>V.mens ids a||V.mens ids b
  | .agg xs=>V.mens ids xs
  | .iface _ v=>V.men ids v
  | .tup xs=>V.mens ids xs
  | _=>false
def V.mens (ids:Nat->Bool):List V->Bool
  | []=>false
  | x::r=>V.men ids x||V.mens ids r
end
def X1 (ids:Nat->Bool):Objs->Objs
  | []=>[]
  | (j,x)::r=>if ids j then X1 ids r else (j,x)::X1 ids r
def Qd (ids:Nat->Bool):Xb->Bool
  | []=>true
  | (_,v)::r=>!V.men ids v&&Qd ids r
def J6 (ids:Nat->Bool):List (D×V)->Bool
  | []=>false
  | (_,v)::r=>V.men ids v||J6 ids r
def noMenO (ids:Nat->Bool):Objs->Bool
  | []=>true
  | (_,.box _ t)::r=>!V.men ids t&&noMenO ids r
  | (_,.vec _ _ xs)::r=>!V.mens ids xs&&noMenO ids r
  | (_,.map es)::r=>!J6 ids es&&noMenO ids r
  | _::r=>noMenO ids r
def young (n:Nat)(kp:List Nat)(id:Nat):Bool:=decide (n<=id)&&!kp.contains id
def sub (keep:List Nat)(n:Nat)(K:Xb->Objs->Prop)(sl:Xb)(ob:Objs):Prop:=
  ∃kp:List Nat,Qd (young n kp) (Xf sl keep)=true/\noMenO (young n kp) (X1 (young n kp) ob)=true/\K (Xf sl keep) (X1 (young n kp) ob)

structure ALoop (keep:List Nat)(body:Uc->Xb->Objs->Prop)(Q:Uc)(sl:Xb)(ob:Objs):Prop where
  run:∃(ι:Type) (S:ι->Xb) (O:ι->Objs) (I:ι->Prop) (μ:ι->Nat) (i0:ι),I i0/\Xf sl keep=S i0/\ob=O i0/\
    ∀i,I i->body (Vs (sub keep (fresh (O i)) fun sl' ob'=>∃j,I j/\μ j<μ i/\sl'=S j/\ob'=O j) Q) (S i) (O i)

def cwp (P:Prg):S->Uc->Xb->Objs->Prop
  | .rg _ l keep pk,Q,sl,ob=>rwp P (fun sl ob=>Q .normal (Xf sl keep) ob) (fun v sl ob=>Q (.panic v) (Xf sl pk) ob) l sl ob
  | .rgT _ t keep pk,Q,sl,ob=>owp P (fun sl ob=>Q .normal (Xf sl keep) ob) (fun v sl ob=>Q (.panic v) (Xf sl pk) ob) t sl ob
  | .seq a b,Q,sl,ob=>cwp P a (Vs (cwp P b Q) Q) sl ob
  | .skip,Q,sl,ob=>Q .normal sl ob
  | .cond c a b,Q,sl,ob=>Xbn (cwp P a Q sl ob) (cwp P b Q sl ob) (c.ev sl)
  | .block n a,Q,sl,ob=>cwp P a (Y3 n Q) sl ob
  | .loop keep a,Q,sl,ob=>ALoop keep (cwp P a) Q sl ob
  | .exit n,Q,sl,ob=>Q (.exit n) sl ob
  | .ret,Q,sl,ob=>Q .ret sl ob


def Xbq (N:Nat):Option Nat->Option Nat->Bool
  | some k,some j=>k==j&&decide (k<N)
  | none,none=>true
  | _,_=>false

def It.chk (P:Program)(N:Nat)(ops:Array Oper)(o:Oper):It->Bool
  | .op d i=>Xbq N o.dst d&&o.guard.isNone&&i.chk P o.op
  | .gop s want d i=>Xbq N o.dst d&&(match o.guard with
    | some (j,b)=>b==want&&(match ops[j]? with | some o'=>o'.dst==some s | none=>false)
    | none=>false)&&i.chk P o.op

def W8 (P:Program)(N:Nat)(ops:Array Oper):List Oper->List It->Bool
  | [],[]=>true
  | o::r,i::s=>i.chk P N ops o&&W8 P N ops r s
  | _,_=>false

def It.kind:It->Nat
  | .op _ i=>i.kind
  | .gop _ _ _ i=>i.kind
def X6n:List Nat->List It->Nat->Nat
  | i::r,x::s,j=>if i=j then x.kind else X6n r s j
  | _,_,_=>3
def Xmk (P:Program)(N:Nat)(ops:Array Oper)(kd:Nat->Nat)(listed:Array Bool):List Nat->List It->Bool
  | [],[]=>(Region.ready .any ops listed).isEmpty
  | i::r,x::s=>(Region.ready .any ops listed).contains i&&(match ops[i]? with | some o=>x.chk P N ops o | none=>false)&&x.kind==kd i&&
      (match x.kind with
        | 0=>Region.free .any ops listed i
        | 1=>Region.free .any ops listed i&&(List.range ops.size).all (fun j=>kd j != 3||j==i||Xcw .any ops i ops.size j)
        | _=>(Region.ready .any ops listed)==[i])&&
      Xmk P N ops kd (listed.setIfInBounds i true) r s
  | _,_=>false
mutual
def Ot.kinds:Ot->List (Nat×Nat)
  | .done=>[]
  | .one i x r=>(i,x.kind)::r.kinds
  | .br l=>l.kinds
def Ots.kinds:Ots->List (Nat×Nat)
  | .nil=>[]
  | .cons i x r l=>(i,x.kind)::(r.kinds++l.kinds)
end
def X6o:List (Nat×Nat)->Nat->Nat
  | [],_=>3
  | (i,k)::r,j=>if i=j then k else X6o r j
def Ots.has (j:Nat):Ots->Bool
  | .nil=>false
  | .cons i _ _ l=>i==j||l.has j
mutual
def Qa (P:Program)(N:Nat)(ops:Array Oper)(kd:Nat->Nat):Nat->Array Bool->Ot->Bool
  | 0,listed,.done=>(Region.ready .any ops listed).isEmpty
  | n+1,listed,.one i x r=>(Region.ready .any ops listed).contains i&&(match ops[i]? with | some o=>x.chk P N ops o | none=>false)&&x.kind==kd i&&
      (match x.kind with
        | 0=>Region.free .any ops listed i
        | 1=>Region.free .any ops listed i&&(List.range ops.size).all (fun j=>kd j != 3||j==i||Xcw .any ops i ops.size j)
        | _=>(Region.ready .any ops listed)==[i])&&
      Qa P N ops kd n (listed.setIfInBounds i true) r
  | n+1,listed,.br l=>!(Region.ready .any ops listed).isEmpty&&(Region.ready .any ops listed).all (fun j=>l.has j)&&Xgs P N ops kd n listed l
  | _,_,_=>false
def Xgs (P:Program)(N:Nat)(ops:Array Oper)(kd:Nat->Nat):Nat->Array Bool->Ots->Bool
  | _,_,.nil=>true
  | n,listed,.cons i x r l=>(Region.ready .any ops listed).contains i&&(match ops[i]? with | some o=>x.chk P N ops o | none=>false)&&x.kind==kd i&&Qa P N ops kd n (listed.setIfInBounds i true) r&&Xgs P N ops kd n listed l
end
def Xc0 (pk:List Nat)(ops:Array Oper):Bool:=ops.toList.all fun o=>match o.dst with
  | some d=>!pk.contains d
  | none=>true

def S.chk (P:Program)(N:Nat):Code->S->Bool
  | .skip,.skip=>true
  | .region _ ops draw,.rg ord l _ pk=>if draw then decide (ord.length<=ops.size)&&Region.noSelect ops&&Xc0 pk ops&&Xmk P N ops (X6n ord l) (Array.replicate ops.size false) ord l else W8 P N ops ops.toList l
  | .region _ ops draw,.rgT n t _ pk=>draw&&decide (n<=ops.size)&&Region.noSelect ops&&Xc0 pk ops&&Qa P N ops (X6o t.kinds) n (Array.replicate ops.size false) t
  | .seq a b,.seq x y=>S.chk P N a x&&S.chk P N b y
  | .cond c a b,.cond d x y=>A.chk c d&&S.chk P N a x&&S.chk P N b y
  | .block n a,.block m x=>n==m&&S.chk P N a x
  | .loop a,.loop _ x=>S.chk P N a x
  | .exit n,.exit m=>n==m
  | .ret,.ret=>true
  | _,_=>false


structure Ctx where
  w0:World
  ex:Nat->Prop
  N:Nat
  df:List Deferred
  g:Nat->Option Obj
  m0:Nat->Option RO
  ev:List (V×Value)

structure Base (c:Ctx)(w:World)(ρ:Env):Prop where
  size:c.w0.heap.size<=w.heap.size
  keep:∀b,b<c.w0.heap.size->¬c.ex b->w.heap[b]? = c.w0.heap[b]?
  owns:∀b,Xsi ρ b->c.w0.heap.size<=b\/c.ex b
  tape:w.tape=c.w0.tape
  os:w.os=c.w0.os
  out:w.output=c.w0.output
  same:∀id o,c.m0 id=some o->∃o',ρ.m id=some o'/\o.le o'
  ext:∀p∈c.ev,p.1.rep w ρ p.2

theorem Base.tr {c:Ctx}{w w':World}{ρ ρ':Env}(h:Base c w ρ)(t:Tr w ρ w' ρ'):Base c w' ρ':=by
  refine⟨Nat.le_trans h.size t.size,fun b h1 h2=>?_,fun b h1=>?_,t.tape.trans h.tape,t.os.trans h.os,t.out.trans h.out,fun id o h1=>?_,fun p hp=>V.rep_tr t (h.ext p hp)⟩
  · refine (t.keep b (fun h3=>?_) (Nat.lt_of_lt_of_le h1 h.size)).trans (h.keep b h1 h2)
    exact (h.owns b h3).elim (fun h=>by omega) h2
  · rcases t.owns b h1 with h3 | h3
    · exact h.owns b h3
    · exact .inl (Nat.le_trans h.size h3)
  · obtain⟨o',h2,h3⟩:=h.same id o h1
    obtain⟨o'',h4,h5⟩:=t.same id o' h2
    exact⟨o'',h4,h3.trans h5⟩

structure Mod (c:Ctx)(xo:Nat->Prop)(ρ:Env)(sl:Xb)(ob:Objs)(a:Act)(w:World):Prop where
  base:Base c w ρ
  om:OM w ρ ob
  sm:SM w ρ sl a
  size:a.tmps.size=c.N
  df:a.defers=c.df
  xo:ρ.xo=xo
  gl:ρ.gl=c.g

def exM (w:World)(ρ:Env):Exit->AExit->Prop
  | .normal,.normal=>True
  | .exit n,.exit m=>n=m
  | .ret,.ret=>True
  | .panic ch,.panic v=>∃u,ch=[{ v:=u,recovered:=false }]/\v.rep w ρ u
  | _,_=>False

def lift (c:Ctx)(xo:Nat->Prop)(Q:Uc):Exit->Act->World->Prop:=
  fun e a w=>∃ae sl ob ρ,Q ae sl ob/\exM w ρ e ae/\Mod c xo ρ sl ob a w

theorem Xm {w:World}{ρ:Env}{sl:Xb}{a:Act}{d:Option Nat}{x:V}{v:Value}{N:Nat}{o:Option Nat}(hd:Xbq N o d=true)(hN:a.tmps.size=N)(hs:SM w ρ sl a)(hx:x.rep w ρ v) :
    SM w ρ (put sl d x) (a.put o v)/\(a.put o v).tmps.size=N/\(a.put o v).defers=a.defers:=by
  cases o with
  | none=>
    cases d with
    | none=>exact⟨hs,hN,rfl⟩
    | some j=>simp[Xbq]at hd
  | some k=>
    cases d with
    | none=>simp[Xbq]at hd
    | some j=>
      simp only[Xbq,Bool.and_eq_true,beq_iff_eq,decide_eq_true_eq]at hd
      obtain⟨rfl,hk⟩:=hd
      refine⟨fun i=>?_,by simpa[Act.put]using hN,rfl⟩
      simp only[put,look,Act.put]
      split
      · rename_i e; subst e
        have:k<a.tmps.size:=by omega
        simpa[this]using hx
      · rename_i e
        have:=hs i
        simpa[Array.getElem?_setIfInBounds,e]using this

theorem Xly {ops:Array Oper}{a:Act}{j s:Nat}{o':Oper}{b:Bool}(h1:ops[j]? = some o')(h2:o'.dst=some s)(h3:a.tmps.getD s undef=.bool b):yielded ops a.tmps j=some b:=by
  have hs:s<a.tmps.size:=by
    rcases Nat.lt_or_ge s a.tmps.size with h | h
    · exact h
    · simp[Array.getD,Nat.not_lt.2 h,undef]at h3
  simp only[Array.getD,hs,dif_pos]at h3
  have:a.tmps[s]? = some (.bool b):=by rw[Array.getElem?_eq_getElem hs]; exact congrArg some h3
  simp[yielded,h1,h2,this]

theorem Xjd {ops:Array Oper}{a:Act}{j s:Nat}{o':Oper}(h1:ops[j]? = some o')(h2:o'.dst=some s)(h3:a.tmps.getD s undef=undef):yielded ops a.tmps j=none:=by
  rcases Nat.lt_or_ge s a.tmps.size with hs | hs
  · simp only[Array.getD,hs,dif_pos]at h3
    have:a.tmps[s]? = some (.tuple #[]):=by rw[Array.getElem?_eq_getElem hs]; exact congrArg some h3
    simp[yielded,h1,h2,this]
  · have:a.tmps[s]? = none:=Array.getElem?_eq_none hs
    simp[yielded,h1,h2,this]

theorem Wh {w:World}{ρ:Env}{sl:Xb}{a:Act}{ops:Array Oper}{o:Oper}{s:Nat}{want:Bool}{Y N:Xb->Prop}(hs:SM w ρ sl a)
    (hg:(match o.guard with | some (j,b)=>b==want&&(match ops[j]? with | some o'=>o'.dst==some s | none=>false) | none=>false)=true)
    (h:gdK s want sl Y N (look sl s)) :
    (Region.wanted o (yielded ops a.tmps)=true/\∃sl',SM w ρ sl' a/\Y sl')\/(Region.wanted o (yielded ops a.tmps)=false/\∃sl',SM w ρ sl' a/\N sl'):=by
  split at hg
  · rename_i j b hj
    simp only[Bool.and_eq_true,beq_iff_eq]at hg
    obtain⟨rfl,hg⟩:=hg
    split at hg
    · rename_i o' ho
      have hd:o'.dst=some s:=by simpa using hg
      have hv:=hs s
      have key:∀c:Bool,a.tmps.getD s undef=.bool c->SM w ρ ((s,.d (.bool c))::sl) a:=fun c hc k=>by
        simp only[look]
        split
        · rename_i e; subst e; rw[hc]; exact rep_bool.2 rfl
        · exact hs k
      unfold gdK at h
      split at h
      · rename_i c e
        rw[e,rep_bool]at hv
        have hy:=Xly (a:=a) ho hd hv
        by_cases hcb:c=b
        · subst hcb
          exact .inl ⟨by simp[Region.wanted,hj,hy],_,key c hv,h.1 rfl⟩
        · have hcn:c=!b:=by cases c<;>cases b<;>simp_all
          subst hcn
          exact .inr ⟨by simp[Region.wanted,hj,hy],_,key _ hv,h.2 rfl⟩
      · rename_i e
        rw[e,Z8]at hv
        have hy:=Xjd (a:=a) ho hd hv
        exact .inr ⟨by simp[Region.wanted,hj,hy],_,hs,h⟩
      · exact h.elim
    · simp at hg
  · simp at hg

theorem Xby {P:Prg}{c:Ctx}(hg:P.g=c.g){xo:Nat->Prop}{ops:Array Oper}{Q:Exit->Act->World->Prop}{K:Xb->Objs->Prop}{Pn:V->Xb->Objs->Prop}
    (hK:∀sl ob ρ a w,K sl ob->Mod c xo ρ sl ob a w->Q .normal a w)
    (hP:∀v sl ob ρ a w u,Pn v sl ob->Mod c xo ρ sl ob a w->v.rep w ρ u->Q (.panic [{ v:=u,recovered:=false }]) a w) :
    ∀(l:List Oper) (its:List It) (sl:Xb) (ob:Objs) (ρ:Env) (a:Act) (w:World),W8 P.p c.N ops l its=true->rwp P K Pn its sl ob->Mod c xo ρ sl ob a w->wpList P.p ops Q l a w
  | [],[],sl,ob,ρ,a,w,_,h,m=>by simp only[wpList]; exact hK sl ob ρ a w h m
  | o::r,i::s,sl,ob,ρ,a,w,hc,h,m=>by
    simp only[W8,Bool.and_eq_true]at hc
    obtain⟨h1,h2⟩:=hc
    have step:∀(d:Option Nat) (x:I) (sl:Xb),SM w ρ sl a->Xbq c.N o.dst d=true->x.chk P.p o.op=true->x.wp P sl ob (fun v ob'=>rwp P K Pn s (put sl d v) ob') (fun v ob'=>Pn v sl ob')->o.wp P.p a w (wpList P.p ops Q r) Q:=by
      intro d x sl hs hd hx hw
      refine I.sound (m.gl.trans hg.symm) hs m.om hx hw o rfl _ _ (fun v y ob' w' ρ' hk hr ho t=>?_) (fun u y ob' w' ρ' hk hr ho t=>?_)
      · obtain⟨g1,g2,g3⟩:=Xm hd m.size (hs.tr t) hr
        exact Xby hg hK hP r s _ ob' ρ' _ w' h2 hk ⟨m.base.tr t,ho,g1,g2,g3.trans m.df,t.xo.trans m.xo,t.gl.trans m.gl⟩
      · exact hP y sl ob' ρ' a w' u hk ⟨m.base.tr t,ho,hs.tr t,m.size,m.df,t.xo.trans m.xo,t.gl.trans m.gl⟩ hr
    cases i with
    | op d x=>
      simp only[It.chk,Bool.and_eq_true,Option.isNone_iff_eq_none]at h1
      simp only[rwp]at h
      simp only[wpList,Region.wanted,h1.1.2,if_true]
      exact .inl (step d x sl m.sm h1.1.1 h1.2 h)
    | gop g want d x=>
      simp only[It.chk,Bool.and_eq_true]at h1
      simp only[rwp]at h
      simp only[wpList]
      rcases Wh (ops:=ops) m.sm h1.1.2 h with⟨hw,sl',hs,h⟩ | ⟨hw,sl',hs,h⟩
      · rw[if_pos hw]
        exact .inl (step d x sl' hs h1.1.1 h1.2 h)
      · rw[hw]
        simp only[Bool.false_eq_true,if_false]
        obtain⟨g1,g2,g3⟩:=Xm h1.1.1 m.size hs (Z8.2 rfl)
        exact Xby hg hK hP r s _ ob ρ _ w h2 h ⟨m.base,m.om,g1,g2,g3.trans m.df,m.xo,m.gl⟩
  | [],_::_,_,_,_,_,_,hc,_,_=>by simp[W8]at hc
  | _::_,[],_,_,_,_,_,hc,_,_=>by simp[W8]at hc

theorem SM.keep {w:World}{ρ:Env}{sl:Xb}{a:Act}(hs:SM w ρ sl a)(l:List Nat):SM w ρ (Xf sl l) a:=by
  intro k
  induction l with
  | nil=>exact Xen
  | cons j r ih=>
    simp only[Xf,look]
    split
    · rename_i e; subst e; exact hs j
    · exact ih

def Env.del (ρ:Env)(ids:Nat->Bool):Env:=⟨fun j=>if ids j then none else ρ.m j,ρ.xo,ρ.gl⟩

theorem Jd {ρ:Env}{ids:Nat->Bool}{b:Nat}(h:Xsi (ρ.del ids) b):Xsi ρ b:=by
  obtain⟨j,o,h1,h2⟩:=h
  simp only[Env.del]at h1
  split at h1
  · cases h1
  · exact⟨j,o,h1,h2⟩

theorem Xgv (w:World)(ρ:Env)(ids:Nat->Bool):Xje w (own ρ) w (own (ρ.del ids)):=fun _ h _=>
  ⟨rfl,fun h'=>h (h'.elim (fun h=>.inl (Jd h)) .inr)⟩

mutual
theorem V.repC_del {w:World}{ρ:Env}{ids:Nat->Bool}:∀(x:V) (cs:List Value),V.men ids x=false->x.repC w ρ cs->x.repC w (ρ.del ids) cs
  | .d x,cs,_,h=>by simp only[V.repC]at h⊢; exact D.rep_mono (Xgv w ρ ids) x cs h
  | .ptr id p,cs,hm,h=>by
    simp only[V.repC]at h⊢
    simp only[V.men]at hm
    rcases h with⟨b,sh,h1,h2⟩ | ⟨h1,h2⟩
    · exact .inl ⟨b,sh,by simp only[Env.del,hm]; exact h1,h2⟩
    · exact .inr ⟨by simp only[Env.del,hm]; exact h1,h2⟩
  | .sl id n,cs,hm,h=>by
    simp only[V.repC]at h⊢
    simp only[V.men]at hm
    obtain⟨o,u,h1,h2⟩:=h
    exact⟨o,u,by simp only[Env.del,hm]; exact h1,h2⟩
  | .sd id n,cs,hm,h=>by
    simp only[V.repC]at h⊢
    simp only[V.men]at hm
    obtain⟨o,u,h1,h2⟩:=h
    exact⟨o,u,by simp only[Env.del,hm]; exact h1,h2⟩
  | .mp id,cs,hm,h=>by
    simp only[V.repC]at h⊢
    simp only[V.men]at hm
    rcases h with⟨b,h1,h2⟩ | ⟨h1,h2⟩
    · exact .inl ⟨b,by simp only[Env.del,hm]; exact h1,h2⟩
    · exact .inr ⟨by simp only[Env.del,hm]; exact h1,h2⟩
  | .bs id p lo n,cs,hm,h=>by
    simp only[V.repC]at h⊢
    simp only[V.men]at hm
    rcases h with⟨b,sh,cap,f,h1,h2⟩ | ⟨h1,h2⟩
    · exact .inl ⟨b,sh,cap,f,by simp only[Env.del,hm]; exact h1,h2⟩
    · exact .inr ⟨by simp only[Env.del,hm]; exact h1,h2⟩
  | .ep id n z i f p,cs,hm,h=>by
    simp only[V.repC]at h⊢
    simp only[V.men]at hm
    obtain⟨o,u,h1,h2⟩:=h
    exact⟨o,u,by simp only[Env.del,hm]; exact h1,h2⟩
  | .fn f fi ca,cs,hm,h=>by
    simp only[V.repC]at h⊢
    simp only[V.men,Bool.or_eq_false_iff]at hm
    obtain⟨fs,gs,e,h1,h2⟩:=h
    exact⟨fs,gs,e,V.reps_del fi fs hm.1 h1,V.reps_del ca gs hm.2 h2⟩
  | .agg xs,cs,hm,h=>by
    simp only[V.repC]at h⊢
    simp only[V.men]at hm
    exact V.repCs_del xs cs hm h
  | .iface ty x,cs,hm,h=>by
    simp only[V.repC]at h⊢
    simp only[V.men]at hm
    obtain⟨u,e,h1⟩:=h
    refine⟨u,e,?_⟩
    rcases h1 with h1 | ⟨p,ds,q,r⟩ | ⟨p,r⟩
    · exact .inl h1
    · exact .inr (.inl ⟨p,ds,q,V.repC_del x ds hm r⟩)
    · exact .inr (.inr ⟨p,V.repC_del x _ hm r⟩)
  | .tup xs,cs,hm,h=>by
    simp only[V.repC]at h⊢
    simp only[V.men]at hm
    obtain⟨vs,e,h1⟩:=h
    exact⟨vs,e,V.reps_del xs vs hm h1⟩
  | .undef,cs,_,h=>by simpa only[V.repC]using h
  | .any,cs,_,h=>by simpa only[V.repC]using h
theorem V.repCs_del {w:World}{ρ:Env}{ids:Nat->Bool}:∀(xs:List V) (cs:List Value),V.mens ids xs=false->V.repCs w ρ xs cs->V.repCs w (ρ.del ids) xs cs
  | [],cs,_,h=>by simpa only[V.repCs]using h
  | x::r,cs,hm,h=>by
    simp only[V.repCs]at h⊢
    simp only[V.mens,Bool.or_eq_false_iff]at hm
    obtain⟨c1,c2,e,h1,h2⟩:=h
    exact⟨c1,c2,e,V.repC_del x c1 hm.1 h1,V.repCs_del r c2 hm.2 h2⟩
theorem V.reps_del {w:World}{ρ:Env}{ids:Nat->Bool}:∀(xs:List V) (vs:List Value),V.mens ids xs=false->V.reps w ρ xs vs->V.reps w (ρ.del ids) xs vs
  | [],vs,_,h=>by simpa only[V.reps]using h
  | x::r,vs,hm,h=>by
    simp only[V.reps]at h⊢
    simp only[V.mens,Bool.or_eq_false_iff]at hm
    obtain⟨u,us,e,h1,h2⟩:=h
    refine⟨u,us,e,?_,V.reps_del r us hm.2 h2⟩
    rcases h1 with h1 | ⟨p,ds,q,r⟩ | ⟨p,r⟩
    · exact .inl h1
    · exact .inr (.inl ⟨p,ds,q,V.repC_del x ds hm.1 r⟩)
    · exact .inr (.inr ⟨p,V.repC_del x _ hm.1 r⟩)
end

theorem V.rep_del {w:World}{ρ:Env}{ids:Nat->Bool}{x:V}{u:Value}(hm:V.men ids x=false)(h:x.rep w ρ u):x.rep w (ρ.del ids) u:=by
  rcases h with h1 | ⟨p,ds,q,r⟩ | ⟨p,r⟩
  · exact .inl h1
  · exact .inr (.inl ⟨p,ds,q,V.repC_del x ds hm r⟩)
  · exact .inr (.inr ⟨p,V.repC_del x _ hm r⟩)

theorem Zj.del {w:World}{ρ:Env}{ids:Nat->Bool}:∀(l:List (D×V)) (es:List MapEntry),J6 ids l=false->Zj w ρ l es->Zj w (ρ.del ids) l es
  | [],es,_,h=>h
  | (k,v)::r,es,hm,h=>by
    simp only[J6,Bool.or_eq_false_iff]at hm
    obtain⟨e,es',h1,h2,h3,h4⟩:=h
    exact⟨e,es',h1,h2,V.rep_del hm.1 h3,Zj.del r es' hm.2 h4⟩

theorem Un {ids:Nat->Bool}:∀(ob:Objs) (j:Nat),lookO (X1 ids ob) j=if ids j then none else lookO ob j
  | [],j=>by simp[X1,lookO]
  | (k,x)::r,j=>by
    simp only[X1]
    split
    · rename_i h
      rw[Un r j]
      simp only[lookO]
      by_cases e:k=j
      · subst e; rw[if_pos h,if_pos h]
      · simp[e]
    · rename_i h
      simp only[lookO,Un r j]
      by_cases e:k=j
      · subst e; rw[if_pos rfl,if_neg h,if_pos rfl]
      · simp[e]

theorem Xme.drop {ids:Nat->Bool}:∀{ob:Objs},Xme ob->Xme (X1 ids ob)
  | [],h=>h
  | (k,x)::r,h=>by
    simp only[X1]
    split
    · exact Xme.drop h.2
    · refine⟨?_,Xme.drop h.2⟩
      rw[Un,h.1]; split<;>rfl

theorem Zt {ids:Nat->Bool}:∀(ob:Objs) (j E:Nat) (t:V),noMenO ids ob=true->lookO ob j=some (.box E t)->V.men ids t=false
  | [],j,E,t,_,h=>by simp[lookO]at h
  | (k,x)::r,j,E,t,hm,h=>by
    simp only[lookO]at h
    split at h
    · simp at h; subst h
      simp only[noMenO,Bool.and_eq_true]at hm
      simpa using hm.1
    · cases x with
      | box _ y=>simp only[noMenO,Bool.and_eq_true]at hm; exact Zt r j E t hm.2 h
      | vec _ _ y=>simp only[noMenO,Bool.and_eq_true]at hm; exact Zt r j E t hm.2 h
      | map y=>simp only[noMenO,Bool.and_eq_true]at hm; exact Zt r j E t hm.2 h
      | arr _ z xs=>simp only[noMenO]at hm; exact Zt r j E t hm h
      | gone=>simp only[noMenO]at hm; exact Zt r j E t hm h
theorem Vj {ids:Nat->Bool}:∀(ob:Objs) (j E sz:Nat) (t:List V),noMenO ids ob=true->lookO ob j=some (.vec E sz t)->V.mens ids t=false
  | [],j,E,sz,t,_,h=>by simp[lookO]at h
  | (k,x)::r,j,E,sz,t,hm,h=>by
    simp only[lookO]at h
    split at h
    · simp at h; subst h
      simp only[noMenO,Bool.and_eq_true]at hm
      simpa using hm.1
    · cases x with
      | box _ y=>simp only[noMenO,Bool.and_eq_true]at hm; exact Vj r j E sz t hm.2 h
      | vec _ _ y=>simp only[noMenO,Bool.and_eq_true]at hm; exact Vj r j E sz t hm.2 h
      | map y=>simp only[noMenO,Bool.and_eq_true]at hm; exact Vj r j E sz t hm.2 h
      | arr _ z xs=>simp only[noMenO]at hm; exact Vj r j E sz t hm h
      | gone=>simp only[noMenO]at hm; exact Vj r j E sz t hm h
theorem Vi {ids:Nat->Bool}:∀(ob:Objs) (j:Nat) (t:List (D×V)),noMenO ids ob=true->lookO ob j=some (.map t)->J6 ids t=false
  | [],j,t,_,h=>by simp[lookO]at h
  | (k,x)::r,j,t,hm,h=>by
    simp only[lookO]at h
    split at h
    · simp at h; subst h
      simp only[noMenO,Bool.and_eq_true]at hm
      simpa using hm.1
    · cases x with
      | box _ y=>simp only[noMenO,Bool.and_eq_true]at hm; exact Vi r j t hm.2 h
      | vec _ _ y=>simp only[noMenO,Bool.and_eq_true]at hm; exact Vi r j t hm.2 h
      | map y=>simp only[noMenO,Bool.and_eq_true]at hm; exact Vi r j t hm.2 h
      | arr _ z xs=>simp only[noMenO]at hm; exact Vi r j t hm h
      | gone=>simp only[noMenO]at hm; exact Vi r j t hm h

theorem Xed {ids:Nat->Bool}:∀(sl:Xb) (k:Nat),Qd ids sl=true->V.men ids (look sl k)=false
  | [],k,_=>by simp[look,V.men]
  | (j,v)::r,k,hm=>by
    simp only[Qd,Bool.and_eq_true]at hm
    simp only[look]
    split
    · simpa using hm.1
    · exact Xed r k hm.2

theorem OM.del {w:World}{ρ:Env}{ob:Objs}{ids:Nat->Bool}(h:OM w ρ ob)(hm:noMenO ids (X1 ids ob)=true):OM w (ρ.del ids) (X1 ids ob):=by
  refine⟨fun j x hx=>?_,fun j o hj=>?_,fun i j o p b h1 h2 h3 h4=>?_,h.xlt,fun b o hb=>⟨(h.glb b o hb).1,(Xgv w ρ ids b (h.glb b o hb).2 (Xn (h.glb b o hb).1)).2⟩,fun b hb=>h.xdis b (Jd hb),Xme.drop h.once⟩
  · have hx0:=hx
    rw[Un]at hx
    split at hx
    · cases hx
    · rename_i hn
      have h1:=h.one j x hx
      cases x with
      | box E t=>
        obtain⟨b,cs,g1,g2,g3⟩:=h1
        exact⟨b,cs,by simp only[Env.del,hn]; exact g1,g2,V.repC_del t cs (Zt _ j E t hm hx0) g3⟩
      | gone=>exact (by simp only[Env.del,hn]; exact h1:(ρ.del ids).m j=some .gone)
      | arr E sz xs=>
        rcases h1 with⟨g1,g2⟩ | ⟨b,cap,cs,sp,g1,g2,g3,g4⟩
        · exact .inl ⟨by simp only[Env.del,hn]; exact g1,g2⟩
        · exact .inr ⟨b,cap,cs,sp,by simp only[Env.del,hn]; exact g1,g2,D.repL_mono (Xgv w ρ ids) _ _ g3,g4⟩
      | vec E sz xs=>
        rcases h1 with⟨g1,g2⟩ | ⟨b,cap,cs,sp,g1,g2,g3,g4⟩
        · exact .inl ⟨by simp only[Env.del,hn]; exact g1,g2⟩
        · exact .inr ⟨b,cap,cs,sp,by simp only[Env.del,hn]; exact g1,g2,V.repCs_del xs cs (Vj _ j E sz xs hm hx0) g3,g4⟩
      | map es=>
        obtain⟨b,l,clk,g1,g2,g3⟩:=h1
        exact⟨b,l,clk,by simp only[Env.del,hn]; exact g1,g2,Zj.del es l (Vi _ j es hm hx0) g3⟩
  · simp only[Env.del]at hj
    rw[Un]
    split at hj
    · cases hj
    · rename_i hn
      rw[if_neg hn]
      exact h.dom j o hj
  · simp only[Env.del]at h1 h2
    split at h1
    · cases h1
    · split at h2
      · cases h2
      · exact h.inj i j o p b h1 h2 h3 h4

section
variable {w:World} {ρ:Env}
mutual
theorem V.men_dom {ids:Nat->Bool}(hd:∀id o,ρ.m id=some o->ids id=false):∀(v:V) (cs:List Value),v.repC w ρ cs->V.men ids v=false
  | .d _,_,_=>rfl
  | .ptr id p,cs,h=>by
    simp only[V.repC]at h
    simp only[V.men]
    rcases h with⟨_,_,h,_⟩ | ⟨h,_⟩<;>exact hd _ _ h
  | .sl id n,cs,h=>by simp only[V.repC]at h; obtain⟨_,_,h,_⟩:=h; exact hd _ _ h
  | .sd id n,cs,h=>by simp only[V.repC]at h; obtain⟨_,_,h,_⟩:=h; exact hd _ _ h
  | .mp id,cs,h=>by
    simp only[V.repC]at h
    simp only[V.men]
    rcases h with⟨_,h,_⟩ | ⟨h,_⟩<;>exact hd _ _ h
  | .bs id p lo n,cs,h=>by
    simp only[V.repC]at h
    simp only[V.men]
    rcases h with⟨_,_,_,_,h,_⟩ | ⟨h,_⟩<;>exact hd _ _ h
  | .ep id n z i f p,cs,h=>by simp only[V.repC]at h; obtain⟨_,_,h,_⟩:=h; exact hd _ _ h
  | .fn f fi ca,cs,h=>by
    simp only[V.repC]at h
    obtain⟨fs,gs,_,h1,h2⟩:=h
    simp only[V.men,V.mens_dom hd fi fs h1,V.mens_dom hd ca gs h2,Bool.or_self]
  | .agg xs,cs,h=>by simp only[V.repC]at h; simp only[V.men]; exact V.menCs_dom hd xs cs h
  | .iface t x,cs,h=>by
    simp only[V.repC]at h
    obtain⟨u,_,h⟩:=h
    simp only[V.men]
    rcases h with h | ⟨_,ds,_,h⟩ | ⟨_,h⟩
    · subst h; rfl
    · exact V.men_dom hd x ds h
    · exact V.men_dom hd x _ h
  | .tup xs,cs,h=>by simp only[V.repC]at h; obtain⟨vs,_,h⟩:=h; simp only[V.men]; exact V.mens_dom hd xs vs h
  | .undef,_,_=>rfl
  | .any,_,_=>rfl
theorem V.menCs_dom {ids:Nat->Bool}(hd:∀id o,ρ.m id=some o->ids id=false):∀(xs:List V) (cs:List Value),V.repCs w ρ xs cs->V.mens ids xs=false
  | [],_,_=>rfl
  | x::r,cs,h=>by
    simp only[V.repCs]at h
    obtain⟨c1,c2,_,h1,h2⟩:=h
    simp only[V.mens,V.men_dom hd x c1 h1,V.menCs_dom hd r c2 h2,Bool.or_self]
theorem V.mens_dom {ids:Nat->Bool}(hd:∀id o,ρ.m id=some o->ids id=false):∀(xs:List V) (vs:List Value),V.reps w ρ xs vs->V.mens ids xs=false
  | [],_,_=>rfl
  | x::r,vs,h=>by
    simp only[V.reps]at h
    obtain⟨u,us,_,h1,h2⟩:=h
    have:V.men ids x=false:=by
      rcases h1 with h | ⟨_,ds,_,h⟩ | ⟨_,h⟩
      · subst h; rfl
      · exact V.men_dom hd x ds h
      · exact V.men_dom hd x _ h
    simp only[V.mens,this,V.mens_dom hd r us h2,Bool.or_self]
end
theorem V.men_temp {ids:Nat->Bool}(hd:∀id o,ρ.m id=some o->ids id=false){v:V}{u:Value}(h:v.rep w ρ u):V.men ids v=false:=by
  rcases h with h | ⟨_,ds,_,h⟩ | ⟨_,h⟩
  · subst h; rfl
  · exact V.men_dom hd v ds h
  · exact V.men_dom hd v _ h
end

theorem Mod.sub {c:Ctx}{xo:Nat->Prop}{ρ:Env}{sl:Xb}{ob:Objs}{a:Act}{w:World}{keep:List Nat}{drp:Nat->Bool}(m:Mod c xo ρ sl ob a w)(hd:∀id o,c.m0 id=some o->drp id=false)(hv:∀p∈c.ev,V.men drp p.1=false)
    (h1:Qd drp (Xf sl keep)=true) (h2:noMenO drp (X1 drp ob)=true):Mod c xo (ρ.del drp) (Xf sl keep) (X1 drp ob) a w:=
  ⟨⟨m.base.size,m.base.keep,fun b hb=>m.base.owns b (Jd hb),m.base.tape,m.base.os,m.base.out,fun id o h=>(m.base.same id o h).elim fun o' q=>⟨o',by simp only[Env.del,hd id o h]; exact q.1,q.2⟩,fun p hp=>V.rep_del (hv p hp) (m.base.ext p hp)⟩,m.om.del h2,fun k=>V.rep_del (Xed _ k h1) (m.sm.keep keep k),m.size,m.df,m.xo,m.gl⟩

def Xdj (c:Ctx)(xo:Nat->Prop)(pk:List Nat)(Q:Uc)(ch:List PanicEntry)(a:Act)(w:World):Prop:=
  ∃v sl ob ρ u,Q (.panic v) (Xf sl pk) ob/\ch=[{ v:=u,recovered:=false }]/\v.rep w ρ u/\Mod c xo ρ (Xf sl pk) ob a w

theorem Xkp (sl:Xb):∀(pk:List Nat) (k:Nat),k∉pk->look (Xf sl pk) k=.any
  | [],k,_=>by simp[Xf,look]
  | j::r,k,h=>by
    simp only[Xf,look]
    have:j ≠ k:=fun e=>h (by simp[e])
    rw[if_neg this]
    exact Xkp sl r k (fun h'=>h (by simp[h']))

theorem Xk2 {c:Ctx}{xo:Nat->Prop}{pk:List Nat}{Q:Uc}{ch:List PanicEntry}{a:Act}{w:World}{d:Option Nat}{v:Value}(hd:∀k,d=some k->k∉pk)(h:Xdj c xo pk Q ch (a.put d v) w):Xdj c xo pk Q ch a w:=by
  obtain⟨x,sl,ob,ρ,u,h1,h2,h3,m⟩:=h
  refine⟨x,sl,ob,ρ,u,h1,h2,h3,m.base,m.om,fun k=>?_,?_,?_,m.xo,m.gl⟩
  · by_cases hk:k∈pk
    · have:=m.sm k
      cases d with
      | none=>exact this
      | some j=>
        have hne:j ≠ k:=fun e=>hd j rfl (e▸hk)
        simpa[Act.put,Array.getElem?_setIfInBounds,hne]using this
    · rw[Xkp sl pk k hk]; exact Xen
  · have:=m.size
    cases d<;>simpa[Act.put]using this
  · have:=m.df
    cases d<;>simpa[Act.put]using this

theorem Zn {P:Prg}{c:Ctx}(hg:P.g=c.g){xo:Nat->Prop}{ops:Array Oper}{Q:Exit->Act->World->Prop}{QP:Uc}{pk:List Nat}{K:Xb->Objs->Prop}{kd:Nat->Nat}
    (hsel:Region.noSelect ops=true) (hpk:Xc0 pk ops=true)
    (hK:∀sl ob ρ a w,K sl ob->Mod c xo ρ sl ob a w->Q .normal a w)
    (hQ:∀ch a w,Q (.panic ch) a w↔Xdj c xo pk QP ch a w) :
    ∀(ord:List Nat) (its:List It) (listed:Array Bool) (sl:Xb) (ob:Objs) (ρ:Env) (a:Act) (w:World),Xmk P.p c.N ops kd listed ord its=true->Xcb .any ops listed->
      rwp P K (fun v sl ob=>QP (.panic v) (Xf sl pk) ob) its sl ob->Mod c xo ρ sl ob a w->Vv P.p .any ops Q Ext (fun j=>kd j==3) ord.length listed a w
  | [],[],listed,sl,ob,ρ,a,w,hc,_,h,m=>by
    simp only[Xmk]at hc
    simp only[List.length_nil,Vv]
    exact⟨by simpa using hc,hK sl ob ρ a w h m⟩
  | i::r,x::s,listed,sl,ob,ρ,a,w,hc,hcl,h,m=>by
    simp only[Xmk,Bool.and_eq_true]at hc
    obtain⟨⟨⟨⟨hr,hx⟩,hkd⟩,hkind⟩,hrest⟩:=hc
    have hr':i∈Region.ready .any ops listed:=by simpa using hr
    cases ho:ops[i]? with
    | none=>simp[ho]at hx
    | some o=>
      simp only[ho]at hx
      have hkd':x.kind=kd i:=by simpa using hkd
      have hpko:∀k,o.dst=some k->k∉pk:=by
        intro k hk
        have:=List.all_eq_true.1 hpk o (by simpa using Array.mem_of_getElem? ho)
        simpa[hk]using this
      have hQo:∀v:Value,∀ch a w,Q (.panic ch) (a.put o.dst v) w->Q (.panic ch) a w:=fun v ch a w hq=>(hQ ch a w).2 (Xk2 hpko ((hQ ch _ w).1 hq))
      have hcl':=hcl.step hr'
      simp only[List.length_cons]
      -- the operation's state and text,whichever way its guard goes
      have hd:∃(d:Option Nat) (y:I),Xbq c.N o.dst d=true/\y.chk P.p o.op=true/\x.kind=y.kind/\
          ((Region.wanted o (yielded ops a.tmps)=true/\∃sl',SM w ρ sl' a/\y.wp P sl' ob (fun v ob'=>rwp P K (fun v sl ob=>QP (.panic v) (Xf sl pk) ob) s (put sl' d v) ob') (fun v ob'=>QP (.panic v) (Xf sl' pk) ob'))\/
           (Region.wanted o (yielded ops a.tmps)=false/\∃sl',SM w ρ sl' a/\rwp P K (fun v sl ob=>QP (.panic v) (Xf sl pk) ob) s (put sl' d .undef) ob)):=by
        cases x with
        | op d y=>
          simp only[It.chk,Bool.and_eq_true,Option.isNone_iff_eq_none]at hx
          simp only[rwp]at h
          exact⟨d,y,hx.1.1,hx.2,rfl,.inl ⟨by simp[Region.wanted,hx.1.2],sl,m.sm,h⟩⟩
        | gop g want d y=>
          simp only[It.chk,Bool.and_eq_true]at hx
          simp only[rwp]at h
          exact⟨d,y,hx.1.1,hx.2,rfl,Wh (ops:=ops) m.sm hx.1.2 h⟩
      obtain⟨d,y,hdst,hy,hky,hways⟩:=hd
      -- an operation that may be taken first
      have first:∀l:Bool,(∀cc,y=.c cc->cc.isLd=l)->(∃cc,y=.c cc)->Region.free .any ops listed i=true->
          (l=true->∀j,j<ops.size->(kd j==3)=true->j ≠ i->∃fuel,Xcw .any ops i fuel j=true)->Vv P.p .any ops Q Ext (fun j=>kd j==3) (r.length+1) listed a w:=by
        intro l hld hcc hfree hwt
        obtain⟨cc,rfl⟩:=hcc
        have hld:=hld cc rfl
        rcases hways with⟨hw,sl',hs,hwp⟩ | ⟨hw,sl',hs,hwp⟩
        · simp only[I.wp]at hwp
          obtain⟨v,z,hk,hrep,hrun⟩:=C.sound hs m.om hy hwp
          obtain⟨g1,g2,g3⟩:=Xm hdst m.size hs hrep
          refine V4 (l:=l) Ext.refl (fun _ _ _=>Ext.trans) ho (Region.noSelect_spec hsel) (hQo v) hwt _ listed a w hcl (Region.free_spec ho hfree) hr' (.inl ⟨hw,fun w' hw'=>hrun o rfl w' (fun e=>hw' (by rw[<-hld]; exact e))⟩) ?_
          exact Zn hg hsel hpk hK hQ r s _ _ ob ρ _ w hrest hcl' hk ⟨m.base,m.om,g1,g2,g3.trans m.df,m.xo,m.gl⟩
        · obtain⟨g1,g2,g3⟩:=Xm hdst m.size hs (Z8.2 rfl)
          refine V4 (l:=l) Ext.refl (fun _ _ _=>Ext.trans) ho (Region.noSelect_spec hsel) (hQo undef) hwt _ listed a w hcl (Region.free_spec ho hfree) hr' (.inr ⟨hw,rfl⟩) ?_
          exact Zn hg hsel hpk hK hQ r s _ _ ob ρ _ w hrest hcl' hwp ⟨m.base,m.om,g1,g2,g3.trans m.df,m.xo,m.gl⟩
      -- the only one that may come up
      have alone:Region.ready .any ops listed=[i]->(y.kind=2\/y.kind=3\/y.kind=4)->Vv P.p .any ops Q Ext (fun j=>kd j==3) (r.length+1) listed a w:=by
        intro hra hk23
        refine⟨fun h0=>(by rw[hra]at h0; cases h0),fun j hj=>?_⟩
        rw[hra]at hj
        simp at hj; subst hj
        unfold wpOp
        simp only[ho]
        rcases hways with⟨hw,sl',hs,hwp⟩ | ⟨hw,sl',hs,hwp⟩
        · rw[if_pos hw]
          refine .inl ?_
          rcases hk23 with hk2 | hk3 | hk4
          · refine I.soundE (m.gl.trans hg.symm) hs m.om hk2 hy hwp o rfl _ _ (fun v z w' hk hrep he=>⟨fun _=>he,?_⟩)
            obtain⟨g1,g2,g3⟩:=Xm hdst m.size (hs.tr he.tr) hrep
            exact Zn hg hsel hpk hK hQ r s _ _ ob ρ _ w' hrest hcl' hk ⟨m.base.tr he.tr,m.om.ext he,g1,g2,g3.trans m.df,m.xo,m.gl⟩
          · refine I.sound (m.gl.trans hg.symm) hs m.om hy hwp o rfl _ _ (fun v z ob' w' ρ' hk hrep ho' t=>⟨fun hf=>?_,?_⟩) (fun u z ob' w' ρ' hk hrep ho' t=>?_)
            · rw[<-hkd',hky,hk3]at hf; cases hf
            · obtain⟨g1,g2,g3⟩:=Xm hdst m.size (hs.tr t) hrep
              exact Zn hg hsel hpk hK hQ r s _ _ ob' ρ' _ w' hrest hcl' hk ⟨m.base.tr t,ho',g1,g2,g3.trans m.df,t.xo.trans m.xo,t.gl.trans m.gl⟩
            · exact (hQ _ _ _).2 ⟨z,sl',ob',ρ',u,hk,rfl,hrep,m.base.tr t,ho',(hs.tr t).keep pk,m.size,m.df,t.xo.trans m.xo,t.gl.trans m.gl⟩
          · refine I.soundX hs m.om hk4 hy hwp o rfl _ _ (fun v z ob' w' ρ' hk hrep ho' t he=>⟨fun _=>he,?_⟩)
            obtain⟨g1,g2,g3⟩:=Xm hdst m.size (hs.tr t) hrep
            exact Zn hg hsel hpk hK hQ r s _ _ ob' ρ' _ w' hrest hcl' hk ⟨m.base.tr t,ho',g1,g2,g3.trans m.df,t.xo.trans m.xo,t.gl.trans m.gl⟩
        · rw[hw]
          simp only[Bool.false_eq_true,if_false]
          refine⟨fun _=>Ext.refl w,?_⟩
          obtain⟨g1,g2,g3⟩:=Xm hdst m.size hs (Z8.2 rfl)
          exact Zn hg hsel hpk hK hQ r s _ _ ob ρ _ w hrest hcl' hwp ⟨m.base,m.om,g1,g2,g3.trans m.df,m.xo,m.gl⟩
      have hkl:y.kind=0\/y.kind=1\/y.kind=2\/y.kind=3\/y.kind=4:=by
        cases y with
        | c cc=>simp only[I.kind]; split<;>simp
        | _=>simp[I.kind]
      have hcc:∀n,(n=0\/n=1)->y.kind=n->(∃cc,y=.c cc)/\∀cc,y=.c cc->cc.isLd=(n==1):=by
        intro n hn hyn
        cases y with
        | c cc=>
          refine⟨⟨cc,rfl⟩,fun c' e=>?_⟩
          cases e
          simp only[I.kind]at hyn
          cases hl:cc.isLd<;>simp[hl]at hyn<;>subst hyn<;>rfl
        | _=>simp[I.kind]at hyn; subst hyn; simp at hn
      rcases hkl with h0 | h1 | h2 | h3 | h4
      · rw[hky,h0]at hkind
        obtain⟨c1,c2⟩:=hcc 0 (.inl rfl) h0
        exact first false (fun cc e=>by simpa using c2 cc e) c1 hkind (by simp)
      · rw[hky,h1]at hkind
        simp only[Bool.and_eq_true]at hkind
        obtain⟨c1,c2⟩:=hcc 1 (.inr rfl) h1
        refine first true (fun cc e=>by simpa using c2 cc e) c1 hkind.1 (fun _ j hj hk3 hne=>⟨ops.size,?_⟩)
        have:=List.all_eq_true.1 hkind.2 j (by simpa using hj)
        have hk3':kd j=3:=by simpa using hk3
        simpa[hk3',hne]using this
      · rw[hky,h2]at hkind
        exact alone (by simpa using hkind) (.inl h2)
      · rw[hky,h3]at hkind
        exact alone (by simpa using hkind) (.inr (.inl h3))
      · rw[hky,h4]at hkind
        exact alone (by simpa using hkind) (.inr (.inr h4))
  | [],_::_,_,_,_,_,_,_,hc,_,_,_=>by simp[Xmk]at hc
  | _::_,[],_,_,_,_,_,_,hc,_,_,_=>by simp[Xmk]at hc

theorem Xsy {P:Prg}{c:Ctx}(hg:P.g=c.g){xo:Nat->Prop}{ops:Array Oper}{Q:Exit->Act->World->Prop}{QP:Uc}{pk:List Nat}{next:Xb->Objs->Prop}{i:Nat}{o:Oper}{x:It}{sl:Xb}{ob:Objs}{ρ:Env}{a:Act}{w:World}{N:Act->World->Prop}
    (hQ:∀ch a w,Q (.panic ch) a w↔Xdj c xo pk QP ch a w) (ho:ops[i]? = some o) (hx:x.chk P.p c.N ops o=true) (h:itK P next (fun v sl ob=>QP (.panic v) (Xf sl pk) ob) x sl ob) (m:Mod c xo ρ sl ob a w)
    (hN:∀sl' ob' ρ' a' w',next sl' ob'->Mod c xo ρ' sl' ob' a' w'->N a' w'):wpOp P.p ops Q i (fun a' w'=>(x.kind ≠ 3->Ext w w')/\N a' w') a w:=by
  have hd:∃(d:Option Nat) (y:I),Xbq c.N o.dst d=true/\y.chk P.p o.op=true/\x.kind=y.kind/\
      ((Region.wanted o (yielded ops a.tmps)=true/\∃sl',SM w ρ sl' a/\y.wp P sl' ob (fun v ob'=>next (put sl' d v) ob') (fun v ob'=>QP (.panic v) (Xf sl' pk) ob'))\/
       (Region.wanted o (yielded ops a.tmps)=false/\∃sl',SM w ρ sl' a/\next (put sl' d .undef) ob)):=by
    cases x with
    | op d y=>
      simp only[It.chk,Bool.and_eq_true,Option.isNone_iff_eq_none]at hx
      exact⟨d,y,hx.1.1,hx.2,rfl,.inl ⟨by simp[Region.wanted,hx.1.2],sl,m.sm,h⟩⟩
    | gop g want d y=>
      simp only[It.chk,Bool.and_eq_true]at hx
      simp only[itK]at h
      exact⟨d,y,hx.1.1,hx.2,rfl,Wh (ops:=ops) m.sm hx.1.2 h⟩
  obtain⟨d,y,hdst,hy,hky,hways⟩:=hd
  unfold wpOp
  simp only[ho]
  rcases hways with⟨hw,sl',hs,hwp⟩ | ⟨hw,sl',hs,hwp⟩
  · rw[if_pos hw]
    refine .inl ?_
    by_cases hk3:y.kind=3
    · refine I.sound (m.gl.trans hg.symm) hs m.om hy hwp o rfl _ _ (fun v z ob' w' ρ' hk hrep ho' t=>⟨fun hf=>?_,?_⟩) (fun u z ob' w' ρ' hk hrep ho' t=>?_)
      · rw[hky]at hf; exact absurd hk3 hf
      · obtain⟨g1,g2,g3⟩:=Xm hdst m.size (hs.tr t) hrep
        exact hN _ ob' ρ' _ w' hk ⟨m.base.tr t,ho',g1,g2,g3.trans m.df,t.xo.trans m.xo,t.gl.trans m.gl⟩
      · exact (hQ _ _ _).2 ⟨z,sl',ob',ρ',u,hk,rfl,hrep,m.base.tr t,ho',(hs.tr t).keep pk,m.size,m.df,t.xo.trans m.xo,t.gl.trans m.gl⟩
    · by_cases hk2:y.kind=2
      · refine I.soundE (m.gl.trans hg.symm) hs m.om hk2 hy hwp o rfl _ _ (fun v z w' hk hrep he=>⟨fun _=>he,?_⟩)
        obtain⟨g1,g2,g3⟩:=Xm hdst m.size (hs.tr he.tr) hrep
        exact hN _ ob ρ _ w' hk ⟨m.base.tr he.tr,m.om.ext he,g1,g2,g3.trans m.df,m.xo,m.gl⟩
      · by_cases hk4:y.kind=4
        · refine I.soundX hs m.om hk4 hy hwp o rfl _ _ (fun v z ob' w' ρ' hk hrep ho' t he=>⟨fun _=>he,?_⟩)
          obtain⟨g1,g2,g3⟩:=Xm hdst m.size (hs.tr t) hrep
          exact hN _ ob' ρ' _ w' hk ⟨m.base.tr t,ho',g1,g2,g3.trans m.df,t.xo.trans m.xo,t.gl.trans m.gl⟩
        cases y with
        | c cc=>
          simp only[I.wp]at hwp
          obtain⟨v,z,hk,hrep,hrun⟩:=C.sound hs m.om hy hwp
          obtain⟨g1,g2,g3⟩:=Xm hdst m.size hs hrep
          unfold Oper.wp
          rw[hrun o rfl w (fun _=>Ext.refl w)]
          exact⟨fun _=>Ext.refl w,hN _ ob ρ _ w hk ⟨m.base,m.om,g1,g2,g3.trans m.df,m.xo,m.gl⟩⟩
        | _=>exfalso; simp[I.kind]at hk2 hk3 hk4
  · rw[hw]
    simp only[Bool.false_eq_true,if_false]
    refine⟨fun _=>Ext.refl w,?_⟩
    obtain⟨g1,g2,g3⟩:=Xm hdst m.size hs (Z8.2 rfl)
    exact hN _ ob ρ _ w hwp ⟨m.base,m.om,g1,g2,g3.trans m.df,m.xo,m.gl⟩

theorem Ws {P:Prg}{c:Ctx}(hg:P.g=c.g){xo:Nat->Prop}{ops:Array Oper}{Q:Exit->Act->World->Prop}{QP:Uc}{pk:List Nat}{K:Xb->Objs->Prop}{kd:Nat->Nat}
    (hsel:Region.noSelect ops=true) (hpk:Xc0 pk ops=true)
    (hK:∀sl ob ρ a w,K sl ob->Mod c xo ρ sl ob a w->Q .normal a w)
    (hQ:∀ch a w,Q (.panic ch) a w↔Xdj c xo pk QP ch a w) :
    ∀(n:Nat) (t:Ot) (listed:Array Bool) (sl:Xb) (ob:Objs) (ρ:Env) (a:Act) (w:World),Qa P.p c.N ops kd n listed t=true->Xcb .any ops listed->
      owp P K (fun v sl ob=>QP (.panic v) (Xf sl pk) ob) t sl ob->Mod c xo ρ sl ob a w->Vv P.p .any ops Q Ext (fun j=>kd j==3) n listed a w
  | 0,.done,listed,sl,ob,ρ,a,w,hc,_,h,m=>by
    simp only[Qa]at hc
    simp only[owp]at h
    simp only[Vv]
    exact⟨by simpa using hc,hK sl ob ρ a w h m⟩
  | n+1,.br l,listed,sl,ob,ρ,a,w,hc,hcl,h,m=>by
    simp only[Qa,Bool.and_eq_true,Bool.not_eq_true']at hc
    obtain⟨⟨hne,hall⟩,hcs⟩:=hc
    simp only[owp]at h
    simp only[Vv]
    refine⟨fun h0=>by rw[h0]at hne; simp at hne,fun j hj=>?_⟩
    have hh:=List.all_eq_true.1 hall j hj
    obtain⟨x,r,o,g1,g2,g3,g4,g5⟩:∃x r o,ops[j]? = some o/\x.chk P.p c.N ops o=true/\x.kind=kd j/\Qa P.p c.N ops kd n (listed.setIfInBounds j true) r=true/\itK P (owp P K (fun v sl ob=>QP (.panic v) (Xf sl pk) ob) r) (fun v sl ob=>QP (.panic v) (Xf sl pk) ob) x sl ob:=by
      clear hne hall
      revert h hcs hh
      generalize l=l
      intro hh hcs h
      have go:∀(l:Ots),l.has j=true->Xgs P.p c.N ops kd n listed l=true->Xjh P K (fun v sl ob=>QP (.panic v) (Xf sl pk) ob) l sl ob->∃x r o,ops[j]? = some o/\x.chk P.p c.N ops o=true/\x.kind=kd j/\Qa P.p c.N ops kd n (listed.setIfInBounds j true) r=true/\itK P (owp P K (fun v sl ob=>QP (.panic v) (Xf sl pk) ob) r) (fun v sl ob=>QP (.panic v) (Xf sl pk) ob) x sl ob:=by
        intro l
        induction l using Ots.rec (motive_1:=fun _=>True) with
        | nil=>intro h; simp[Ots.has]at h
        | cons i x r l _ ih=>
          intro h1 h2 h3
          simp only[Ots.has,Bool.or_eq_true,beq_iff_eq]at h1
          simp only[Xgs,Bool.and_eq_true]at h2
          simp only[Xjh]at h3
          by_cases e:i=j
          · subst e
            obtain⟨⟨⟨⟨_,hx⟩,hk⟩,hr⟩,_⟩:=h2
            cases ho:ops[i]? with
            | none=>simp[ho]at hx
            | some o=>simp only[ho]at hx; exact⟨x,r,o,rfl,hx,by simpa using hk,hr,h3.1⟩
          · exact ih (h1.resolve_left e) h2.2 h3.2
        | done=>trivial
        | one i x r _=>trivial
        | br l _=>trivial
      first | exact go _ hh hcs h | exact go _ h hcs hh
    have hst:=Xsy (Q:=Q) (N:=fun a' w'=>Vv P.p .any ops Q Ext (fun j=>kd j==3) n (listed.setIfInBounds j true) a' w') hg hQ g1 g2 g5 m (fun sl' ob' ρ' a' w' hk m'=>Ws hg hsel hpk hK hQ n r _ sl' ob' ρ' a' w' g4 (hcl.step hj) hk m')
    refine wpOp_mono (fun a' w' h'=>⟨fun hf=>h'.1 ?_,h'.2⟩) hst
    rw[g3]; intro e; simp[e]at hf
  | n+1,.one i x r,listed,sl,ob,ρ,a,w,hc,hcl,h,m=>by
    simp only[Qa,Bool.and_eq_true]at hc
    obtain⟨⟨⟨⟨hr,hx⟩,hkd⟩,hkind⟩,hrest⟩:=hc
    have hr':i∈Region.ready .any ops listed:=by simpa using hr
    simp only[owp]at h
    cases ho:ops[i]? with
    | none=>simp[ho]at hx
    | some o=>
      simp only[ho]at hx
      have hkd':x.kind=kd i:=by simpa using hkd
      have hcl':=hcl.step hr'
      -- the only one that may come up
      have alone:Region.ready .any ops listed=[i]->Vv P.p .any ops Q Ext (fun j=>kd j==3) (n+1) listed a w:=by
        intro hra
        refine⟨fun h0=>(by rw[hra]at h0; cases h0),fun j hj=>?_⟩
        rw[hra]at hj
        simp at hj; subst hj
        have hst:=Xsy (Q:=Q) (N:=fun a' w'=>Vv P.p .any ops Q Ext (fun j=>kd j==3) n (listed.setIfInBounds j true) a' w') hg hQ ho hx h m (fun sl' ob' ρ' a' w' hk m'=>Ws hg hsel hpk hK hQ n r _ sl' ob' ρ' a' w' hrest hcl' hk m')
        refine wpOp_mono (fun a' w' h'=>⟨fun hf=>h'.1 ?_,h'.2⟩) hst
        rw[hkd']; intro e; simp[e]at hf
      have hpko:∀k,o.dst=some k->k∉pk:=by
        intro k hk
        have:=List.all_eq_true.1 hpk o (by simpa using Array.mem_of_getElem? ho)
        simpa[hk]using this
      have hQo:∀v:Value,∀ch a w,Q (.panic ch) (a.put o.dst v) w->Q (.panic ch) a w:=fun v ch a w hq=>(hQ ch a w).2 (Xk2 hpko ((hQ ch _ w).1 hq))
      have hd:∃(d:Option Nat) (y:I),Xbq c.N o.dst d=true/\y.chk P.p o.op=true/\x.kind=y.kind/\
          ((Region.wanted o (yielded ops a.tmps)=true/\∃sl',SM w ρ sl' a/\y.wp P sl' ob (fun v ob'=>owp P K (fun v sl ob=>QP (.panic v) (Xf sl pk) ob) r (put sl' d v) ob') (fun v ob'=>QP (.panic v) (Xf sl' pk) ob'))\/
           (Region.wanted o (yielded ops a.tmps)=false/\∃sl',SM w ρ sl' a/\owp P K (fun v sl ob=>QP (.panic v) (Xf sl pk) ob) r (put sl' d .undef) ob)):=by
        cases x with
        | op d y=>
          simp only[It.chk,Bool.and_eq_true,Option.isNone_iff_eq_none]at hx
          exact⟨d,y,hx.1.1,hx.2,rfl,.inl ⟨by simp[Region.wanted,hx.1.2],sl,m.sm,h⟩⟩
        | gop g want d y=>
          simp only[It.chk,Bool.and_eq_true]at hx
          simp only[itK]at h
          exact⟨d,y,hx.1.1,hx.2,rfl,Wh (ops:=ops) m.sm hx.1.2 h⟩
      obtain⟨d,y,hdst,hy,hky,hways⟩:=hd
      have first:∀l:Bool,(∀cc,y=.c cc->cc.isLd=l)->(∃cc,y=.c cc)->Region.free .any ops listed i=true->
          (l=true->∀j,j<ops.size->(kd j==3)=true->j ≠ i->∃fuel,Xcw .any ops i fuel j=true)->Vv P.p .any ops Q Ext (fun j=>kd j==3) (n+1) listed a w:=by
        intro l hld hcc hfree hwt
        obtain⟨cc,rfl⟩:=hcc
        have hld:=hld cc rfl
        rcases hways with⟨hw,sl',hs,hwp⟩ | ⟨hw,sl',hs,hwp⟩
        · simp only[I.wp]at hwp
          obtain⟨v,z,hk,hrep,hrun⟩:=C.sound hs m.om hy hwp
          obtain⟨g1,g2,g3⟩:=Xm hdst m.size hs hrep
          refine V4 (l:=l) Ext.refl (fun _ _ _=>Ext.trans) ho (Region.noSelect_spec hsel) (hQo v) hwt _ listed a w hcl (Region.free_spec ho hfree) hr' (.inl ⟨hw,fun w' hw'=>hrun o rfl w' (fun e=>hw' (by rw[<-hld]; exact e))⟩) ?_
          exact Ws hg hsel hpk hK hQ n r _ _ ob ρ _ w hrest hcl' hk ⟨m.base,m.om,g1,g2,g3.trans m.df,m.xo,m.gl⟩
        · obtain⟨g1,g2,g3⟩:=Xm hdst m.size hs (Z8.2 rfl)
          refine V4 (l:=l) Ext.refl (fun _ _ _=>Ext.trans) ho (Region.noSelect_spec hsel) (hQo undef) hwt _ listed a w hcl (Region.free_spec ho hfree) hr' (.inr ⟨hw,rfl⟩) ?_
          exact Ws hg hsel hpk hK hQ n r _ _ ob ρ _ w hrest hcl' hwp ⟨m.base,m.om,g1,g2,g3.trans m.df,m.xo,m.gl⟩
      have hcc:∀n,(n=0\/n=1)->y.kind=n->(∃cc,y=.c cc)/\∀cc,y=.c cc->cc.isLd=(n==1):=by
        intro n hn hyn
        cases y with
        | c cc=>
          refine⟨⟨cc,rfl⟩,fun c' e=>?_⟩
          cases e
          simp only[I.kind]at hyn
          cases hl:cc.isLd<;>simp[hl]at hyn<;>subst hyn<;>rfl
        | _=>simp[I.kind]at hyn; subst hyn; simp at hn
      have hkl:y.kind=0\/y.kind=1\/y.kind=2\/y.kind=3\/y.kind=4:=by
        cases y with
        | c cc=>simp only[I.kind]; split<;>simp
        | _=>simp[I.kind]
      rcases hkl with h0 | h1 | h2 | h3 | h4
      · rw[hky,h0]at hkind
        obtain⟨c1,c2⟩:=hcc 0 (.inl rfl) h0
        exact first false (fun cc e=>by simpa using c2 cc e) c1 hkind (by simp)
      · rw[hky,h1]at hkind
        simp only[Bool.and_eq_true]at hkind
        obtain⟨c1,c2⟩:=hcc 1 (.inr rfl) h1
        refine first true (fun cc e=>by simpa using c2 cc e) c1 hkind.1 (fun _ j hj hk3 hne=>⟨ops.size,?_⟩)
        have:=List.all_eq_true.1 hkind.2 j (by simpa using hj)
        have hk3':kd j=3:=by simpa using hk3
        simpa[hk3',hne]using this
      · rw[hky,h2]at hkind
        exact alone (by simpa using hkind)
      · rw[hky,h3]at hkind
        exact alone (by simpa using hkind)
      · rw[hky,h4]at hkind
        exact alone (by simpa using hkind)
  | 0,.one _ _ _,_,_,_,_,_,_,hc,_,_,_=>by simp[Qa]at hc
  | 0,.br _,_,_,_,_,_,_,hc,_,_,_=>by simp[Qa]at hc
  | _+1,.done,_,_,_,_,_,_,hc,_,_,_=>by simp[Qa]at hc

theorem Xb9 {P:Program}{ops:Array Oper}{Q:Exit->Act->World->Prop}{md:Region.Mode}:∀(n m:Nat) (listed:Array Bool) (a:Act) (w:World),n<=m->wpAny P md ops Q n listed a w->wpAny P md ops Q m listed a w
  | 0,0,_,_,_,_,h=>h
  | 0,m+1,listed,a,w,_,h=>⟨fun _=>h.2,fun i hi=>by rw[h.1]at hi; cases hi⟩
  | n+1,m+1,listed,a,w,hle,h=>⟨h.1,fun i hi=>wpOp_mono (fun a' w' h'=>Xb9 n m _ a' w' (by omega) h') (h.2 i hi)⟩
  | n+1,0,_,_,_,hle,_=>by omega

theorem Xce {p:Nat->Prop}:∀n,p n->∃m,p m/\∀k,p k->m<=k:=by
  intro n
  induction n using Nat.strongRecOn with
  | _ n ih=>
    intro hn
    by_cases h:∃k,p k/\k<n
    · obtain⟨k,hk,hlt⟩:=h; exact ih k hlt hk
    · exact⟨n,hn,fun k hk=>Nat.le_of_not_lt fun hlt=>h ⟨k,hk,hlt⟩⟩

theorem Yz {P:Prg}(hm:P.p.follows .mixedOrders=true){c:Ctx}(hg:P.g=c.g){xo:Nat->Prop}:∀(code:Code) (s:S) (Q:Uc) (sl:Xb) (ob:Objs) (ρ:Env) (a:Act) (w:World),
    S.chk P.p c.N code s=true->cwp P s Q sl ob->Mod c xo ρ sl ob a w->code.wp P.p (lift c xo Q) a w
  | .skip,s,Q,sl,ob,ρ,a,w,hc,h,m=>by
    cases s<;>simp[S.chk]at hc
    exact wp_skip ⟨.normal,sl,ob,ρ,h,trivial,m⟩
  | .region id ops draw,s,Q,sl,ob,ρ,a,w,hc,h,m=>by
    cases s<;>simp only[S.chk,Bool.false_eq_true]at hc
    case rgT n t keep pk=>
      simp only[cwp]at h
      simp only[Bool.and_eq_true]at hc
      obtain⟨⟨⟨⟨hdr,hlen⟩,hsel⟩,hpk⟩,hcan⟩:=hc
      subst hdr
      have hlen:n<=ops.size:=by simpa using hlen
      let Q':Exit->Act->World->Prop:=fun e a w=>match e with
        | .panic ch=>Xdj c xo pk Q ch a w
        | e=>lift c xo Q e a w
      have hx:Ext w { w with drawn:=w.drawn+1 }:=Ext.drew w _
      have key:=Ws (Q:=Q') (QP:=Q) (K:=fun sl ob=>Q .normal (Xf sl keep) ob) hg hsel hpk
        (fun sl ob ρ a w hk m=>(⟨.normal,_,ob,ρ,hk,trivial,m.base,m.om,m.sm.keep keep,m.size,m.df,m.xo,m.gl⟩:lift c xo Q .normal a w))
        (fun ch a w=>Iff.rfl) n t (Array.replicate ops.size false) sl ob ρ a { w with drawn:=w.drawn+1 } hcan
        (fun k o _ hl=>by
          rcases Nat.lt_or_ge k ops.size with h' | h'
          · simp[h']at hl
          · simp[h']at hl) h ⟨m.base.tr hx.tr,m.om.ext hx,m.sm.tr hx.tr,m.size,m.df,m.xo,m.gl⟩
      have hany:=Xca _ _ _ _ key
      refine wp_mono (wp_region_any hm (Xb9 _ _ _ _ _ hlen hany)) (fun e a' w' he=>?_)
      cases e with
      | panic ch=>
        obtain⟨v,sl',ob',ρ',u,h1,h2,h3,m'⟩:=he
        exact⟨.panic v,_,ob',ρ',h1,⟨u,h2,h3⟩,m'⟩
      | _=>exact he
    rename_i ord l keep pk
    simp only[cwp]at h
    cases draw with
    | false=>
      simp only[Bool.false_eq_true,if_false]at hc
      refine wp_region_list (Xby (c:=c) (xo:=xo) hg (fun sl ob ρ a w hk m=>?_) (fun v sl ob ρ a w u hk m hr=>?_) ops.toList l sl ob ρ a w hc h m)
      · exact⟨.normal,_,ob,ρ,hk,trivial,m.base,m.om,m.sm.keep keep,m.size,m.df,m.xo,m.gl⟩
      · exact⟨.panic v,_,ob,ρ,hk,⟨u,rfl,hr⟩,m.base,m.om,m.sm.keep pk,m.size,m.df,m.xo,m.gl⟩
    | true=>
      simp only[if_true,Bool.and_eq_true]at hc
      obtain⟨⟨⟨hlen,hsel⟩,hpk⟩,hcan⟩:=hc
      have hlen:ord.length<=ops.size:=by simpa using hlen
      let Q':Exit->Act->World->Prop:=fun e a w=>match e with
        | .panic ch=>Xdj c xo pk Q ch a w
        | e=>lift c xo Q e a w
      have hx:Ext w { w with drawn:=w.drawn+1 }:=Ext.drew w _
      have key:=Zn (Q:=Q') (QP:=Q) (K:=fun sl ob=>Q .normal (Xf sl keep) ob) hg hsel hpk
        (fun sl ob ρ a w hk m=>(⟨.normal,_,ob,ρ,hk,trivial,m.base,m.om,m.sm.keep keep,m.size,m.df,m.xo,m.gl⟩:lift c xo Q .normal a w))
        (fun ch a w=>Iff.rfl) ord l (Array.replicate ops.size false) sl ob ρ a { w with drawn:=w.drawn+1 } hcan
        (fun k o _ hl=>by
          rcases Nat.lt_or_ge k ops.size with h' | h'
          · simp[h']at hl
          · simp[h']at hl) h ⟨m.base.tr hx.tr,m.om.ext hx,m.sm.tr hx.tr,m.size,m.df,m.xo,m.gl⟩
      have hany:=Xca _ _ _ _ key
      refine wp_mono (wp_region_any hm (Xb9 _ _ _ _ _ hlen hany)) (fun e a' w' he=>?_)
      cases e with
      | panic ch=>
        obtain⟨v,sl',ob',ρ',u,h1,h2,h3,m'⟩:=he
        exact⟨.panic v,_,ob',ρ',h1,⟨u,h2,h3⟩,m'⟩
      | _=>exact he
  | .seq x y,s,Q,sl,ob,ρ,a,w,hc,h,m=>by
    cases s<;>simp[S.chk]at hc
    simp only[cwp]at h
    refine wp_seq (wp_mono (Yz hm hg x _ _ sl ob ρ a w hc.1 h m) ?_)
    rintro e a' w' ⟨ae,sl',ob',ρ',hq,he,m'⟩
    cases ae with
    | normal=>
      cases e<;>simp only[exM]at he
      exact Yz hm hg y _ Q sl' ob' ρ' a' w' hc.2 hq m'
    | exit n=>
      cases e<;>simp only[exM]at he
      exact⟨.exit n,sl',ob',ρ',hq,he,m'⟩
    | ret=>
      cases e<;>simp only[exM]at he
      exact⟨.ret,sl',ob',ρ',hq,trivial,m'⟩
    | panic v=>
      cases e<;>simp only[exM]at he
      exact⟨.panic v,sl',ob',ρ',hq,he,m'⟩
  | .cond d x y,s,Q,sl,ob,ρ,a,w,hc,h,m=>by
    cases s<;>simp[S.chk]at hc
    obtain⟨⟨h1,h2⟩,h3⟩:=hc
    simp only[cwp]at h
    have r1:=A.sound m.sm h1
    unfold Xbn at h
    split at h
    · rename_i t e
      rw[e,rep_bool]at r1
      exact wp_cond_split r1 (fun ht=>Yz hm hg x _ Q sl ob ρ a w h2 (h.1 ht) m) (fun ht=>Yz hm hg y _ Q sl ob ρ a w h3 (h.2 ht) m)
    · exact h.elim
  | .block n x,s,Q,sl,ob,ρ,a,w,hc,h,m=>by
    cases s<;>simp[S.chk]at hc
    obtain⟨rfl,h1⟩:=hc
    simp only[cwp]at h
    refine wp_block (wp_mono (Yz hm hg x _ _ sl ob ρ a w h1 h m) ?_)
    rintro e a' w' ⟨ae,sl',ob',ρ',hq,he,m'⟩
    cases ae with
    | normal=>
      cases e<;>simp only[exM]at he
      exact⟨.normal,sl',ob',ρ',hq,trivial,m'⟩
    | exit k=>
      cases e<;>simp only[exM]at he
      subst he
      simp only[Y3]at hq
      simp only[Exit.inBlock]
      split
      · rename_i e; rw[if_pos e]at hq; exact⟨.normal,sl',ob',ρ',hq,trivial,m'⟩
      · rename_i e; rw[if_neg e]at hq; exact⟨.exit _,sl',ob',ρ',hq,rfl,m'⟩
    | ret=>
      cases e<;>simp only[exM]at he
      exact⟨.ret,sl',ob',ρ',hq,trivial,m'⟩
    | panic v=>
      cases e<;>simp only[exM]at he
      exact⟨.panic v,sl',ob',ρ',hq,he,m'⟩
  | .loop x,s,Q,sl,ob,ρ,a,w,hc,h,m=>by
    cases s<;>simp[S.chk]at hc
    simp only[cwp]at h
    obtain⟨ι,St,Ot,I,μ,i0,hi0,he0,he1,hstep⟩:=h.run
    let G:Act->World->Nat->Prop:=fun a w n=>∃i ρ,I i/\μ i=n/\Mod c xo ρ (St i) (Ot i) a w
    let M:Act->World->Nat:=fun a w=>open Classical in if h:∃n,G a w n then Classical.choose (Xce (p:=G a w) (Classical.choose h) (Classical.choose_spec h)) else 0
    have hM:∀a w n,G a w n->G a w (M a w)/\M a w<=n:=by
      intro a w n hn
      have hex:∃n,G a w n:=⟨n,hn⟩
      have:=Classical.choose_spec (Xce (p:=G a w) (Classical.choose hex) (Classical.choose_spec hex))
      simp only[M,hex,dif_pos]
      exact⟨this.1,this.2 n hn⟩
    refine wp_loop (I:=fun a w=>∃n,G a w n) (μ:=M) ⟨μ i0,i0,ρ,hi0,rfl,by rw[<-he0,<-he1]; exact⟨m.base,m.om,m.sm.keep _,m.size,m.df,m.xo,m.gl⟩⟩ ?_
    rintro a1 w1 ⟨n,hn⟩
    obtain⟨⟨i,ρ1,hi,hmu,m1⟩,_⟩:=hM a1 w1 n hn
    refine wp_mono (Yz hm hg x _ _ _ _ ρ1 a1 w1 hc (hstep i hi) m1) ?_
    rintro e a' w' ⟨ae,sl',ob',ρ',hq,he,m'⟩
    cases ae with
    | normal=>
      cases e<;>simp only[exM]at he
      simp only[Vs]at hq
      obtain⟨drp,q1,q2,j,hj,hlt,hSj,hOj⟩:=hq
      have hold1:∀id o,ρ1.m id=some o->young (fresh (Ot i)) drp id=false:=fun id o h0=>by
        obtain⟨x,hx⟩:=m1.om.dom id o h0
        have hlt:¬fresh (Ot i)<=id:=fun hle=>by rw[Yn _ _ hle]at hx; cases hx
        simp[young,hlt]
      have hold:∀id o,c.m0 id=some o->young (fresh (Ot i)) drp id=false:=fun id o h0=>by
        obtain⟨o',h1,_⟩:=m1.base.same id o h0
        exact hold1 id o' h1
      have hev:∀p∈c.ev,V.men (young (fresh (Ot i)) drp) p.1=false:=fun p hp=>V.men_temp hold1 (m1.base.ext p hp)
      have hg:G a' w' (μ j):=⟨j,_,hj,rfl,by rw[<-hSj,<-hOj]; exact m'.sub hold hev q1 q2⟩
      have:=hM a' w' _ hg
      exact⟨⟨_,hg⟩,by omega⟩
    | exit k=>
      cases e<;>simp only[exM]at he
      exact⟨.exit k,sl',ob',ρ',hq,he,m'⟩
    | ret=>
      cases e<;>simp only[exM]at he
      exact⟨.ret,sl',ob',ρ',hq,trivial,m'⟩
    | panic v=>
      cases e<;>simp only[exM]at he
      exact⟨.panic v,sl',ob',ρ',hq,he,m'⟩
  | .exit n,s,Q,sl,ob,ρ,a,w,hc,h,m=>by
    cases s<;>simp[S.chk]at hc
    subst hc
    exact wp_exit ⟨.exit n,sl,ob,ρ,h,rfl,m⟩
  | .ret,s,Q,sl,ob,ρ,a,w,hc,h,m=>by
    cases s<;>simp[S.chk]at hc
    exact wp_ret ⟨.ret,sl,ob,ρ,h,trivial,m⟩
  | .rangeFunc _ _ _ _,s,Q,sl,ob,ρ,a,w,hc,h,m=>by cases s<;>simp[S.chk]at hc
  | .scope _,s,Q,sl,ob,ρ,a,w,hc,h,m=>by cases s<;>simp[S.chk]at hc
  | .label _,s,Q,sl,ob,ρ,a,w,hc,h,m=>by cases s<;>simp[S.chk]at hc
  | .goto _,s,Q,sl,ob,ρ,a,w,hc,h,m=>by cases s<;>simp[S.chk]at hc
  | .refuse _,s,Q,sl,ob,ρ,a,w,hc,h,m=>by cases s<;>simp[S.chk]at hc
end Go.Ab
namespace Go.Ab
open Go

inductive RV where
 | t (k:Nat)
 | c (k n:Nat) (ag:Bool)

def RV.chk (P:Program):ResultVar->RV->Bool
 | .tmp j,.t k=>j==k
 | .cell a ty,.c k n ag=>a==k&&Yb P ty==some n&&(P.underlying ty).isSome&&agT P ty==ag
 | _,_=>false
def Jt (P:Program):List ResultVar->List RV->Bool
 | [],[]=>true
 | x::r,y::s=>y.chk P x&&Jt P r s
 | _,_=>false

def RV.wp (sl:Xb)(ob:Objs)(K:V->Prop):RV->Prop
 | .t k=>K (look sl k)
 | .c k n ag=>ldK ob n ag K (look sl k)
def Ub (sl:Xb)(ob:Objs):List RV->(List V->Prop)->Prop
 | [],K=>K []
 | x::r,K=>x.wp sl ob fun v=>Ub sl ob r fun vs=>K (v::vs)

def Ur:List V->V
 | [v]=>v
 | vs=>.tup vs

def Vz (K:List D->Objs->Prop):Option (List D×Objs)->Prop
 | some (l,ob)=>K l ob
 | none=>False

def Q1 (rs:List RV)(K:V->Prop):Uc
 | .normal,sl,ob=>Ub sl ob rs fun vs=>Vz (fun l _=>K (Ur (l.map .d))) (V.givs ob vs)
 | .ret,sl,ob=>Ub sl ob rs fun vs=>Vz (fun l _=>K (Ur (l.map .d))) (V.givs ob vs)
 | .exit _,_,_=>False
 | .panic _,_,_=>False

def gvO (v:V)(ob:Objs)(K:V->Objs->Prop):Option (D×Objs)->Prop
 | some (d,ob')=>K (.d d) ob'
 | none=>K v ob
def Xg6:List V->Objs->(List V->Objs->Prop)->Prop
 | [],ob,K=>K [] ob
 | v::r,ob,K=>gvO v ob (fun v' ob'=>Xg6 r ob' fun vs ob''=>K (v'::vs) ob'') (V.giv ob v)
def X0 (n:Nat)(K:Objs->Prop)(vs:List V)(ob:Objs):Prop:=
 ∃kp:List Nat,V.mens (young n kp) vs=false/\noMenO (young n kp) (X1 (young n kp) ob)=true/\K (X1 (young n kp) ob)
def Uu (n:Nat)(rs:List RV)(K:Out->Objs->Prop):Uc
 | .normal,sl,ob=>Ub sl ob rs fun vs=>Xg6 vs ob fun vs ob=>X0 n (K (.ret (Ur vs))) vs ob
 | .ret,sl,ob=>Ub sl ob rs fun vs=>Xg6 vs ob fun vs ob=>X0 n (K (.ret (Ur vs))) vs ob
 | .panic v,_,ob=>X0 n (K (.panic v)) [v] ob
 | .exit _,_,_=>False

def Xab (k:Nat):List V->Xb
 | []=>[]
 | v::r=>(k,v)::Xab (k+1) r

def Xt (P:Program)(f n:Nat)(s:S)(rs:List RV):Bool:=match P.funcs[f]? with
 | some fn=>match fn.body with
  | some code=>decide (n<=fn.ntmps)&&S.chk P fn.ntmps code s&&Jt P fn.results.toList rs
  | none=>false
 | none=>false

section
variable {P:Program} {w:World} {ρ:Env}

def Xf7 (a:Act)(r:ResultVar):Sem Value:=match r with
 | .tmp t=>pure (a.tmps.getD t undef)
 | .cell x t=>do loadVar t (<-asAddr (a.tmps.getD x undef))

theorem Xli {a:Act}{sl:Xb}{ob:Objs}(hs:SM w ρ sl a)(hO:OM w ρ ob):∀(xs:List ResultVar) (rs:List RV) (K:List V->Prop),Jt P xs rs=true->Ub sl ob rs K->
  ∃vs us,K vs/\V.reps w ρ vs us/\(xs.mapM (Xf7 a)).run P w=.ok us w
 | [],[],K,_,h=>⟨[],[],h,by simp[V.reps],by simp⟩
 | x::r,y::s,K,hc,h=>by
  simp only[Jt,Bool.and_eq_true]at hc
  simp only[Ub]at h
  have one:∃v u,Ub sl ob s (fun vs=>K (v::vs))/\v.rep w ρ u/\(Xf7 a x).run P w=.ok u w:=by
   cases x with
   | tmp t=>
    cases y with
    | t k=>simp[RV.chk]at hc; obtain⟨rfl,_⟩:=hc; exact⟨_,_,h,hs t,by simp[Xf7]⟩
    | c k n ag=>simp[RV.chk]at hc
   | cell z t=>
    cases y with
    | t k=>simp[RV.chk]at hc
    | c k n ag=>
     simp only[RV.chk,Bool.and_eq_true,beq_iff_eq]at hc
     obtain⟨⟨⟨⟨rfl,h1⟩,h2⟩,h3⟩,_⟩:=hc
     simp only[RV.wp]at h
     obtain⟨v,y,hK,hr,hrun⟩:=Xdf (P:=P) (a:=a) (n:=n) (ag:=ag) (x:=.t z) (op:=.load t (.tmp z)) hs hO (by simp[C.chk,h1,h2,h3,A.chk]) (by simpa[A.ev]using h)
     refine⟨y,v,hK,hr,?_⟩
     have:=hrun ⟨none,.load t (.tmp z),0, "", #[],none⟩ rfl w (fun _=>Ext.refl w)
     simp only[execOp,Act.eval,Sem.run_bind,Instr.loadAt]at this
     simp only[Xf7,Sem.run_bind]
     generalize hv:a.tmps.getD z undef=pv at *
     cases pv with
     | pointer ad=>
      cases ad with
      | none=>simp[Instr.sureAddr]at this
      | some ad=>
       simp only[Instr.sureAddr,Sem.run_pure,Result.andThen_ok]at this
       simp only[asAddr,Sem.run_pure,Result.andThen_ok]
       revert this
       generalize (loadVar t ad).run P w=res
       intro this
       cases res with
       | ok x w'=>simp at this; obtain⟨rfl,rfl⟩:=this; rfl
       | halt x w'=>simp at this
     | _=>simp[Instr.sureAddr]at this
  obtain⟨v,u,h1,h2,h3⟩:=one
  obtain⟨vs,us,k,h4,h5⟩:=Xli hs hO r s _ hc.2 h1
  refine⟨v::vs,u::us,k,?_,?_⟩
  ·simp only[V.reps]; exact⟨u,us,rfl,h2,h4⟩
  ·simp only[List.mapM_cons,Sem.run_bind,h3,Result.andThen_ok,h5,Sem.run_pure]
 | [],_::_,_,hc,_=>by simp[Jt]at hc
 | _::_,[],_,hc,_=>by simp[Jt]at hc

def X0x:List Value->Value
 | [u]=>u
 | us=>.tuple us.toArray

theorem U8 {fn:Func}{a:Act}{sl:Xb}{ob:Objs}{rs:List RV}{K:List V->Prop}(hs:SM w ρ sl a)(hO:OM w ρ ob)(hc:Jt P fn.results.toList rs=true)(h:Ub sl ob rs K) :
  ∃vs us,K vs/\V.reps w ρ vs us/\(results fn a.tmps).run P w=.ok (X0x us) w:=by
 obtain⟨vs,us,k,h1,h2⟩:=Xli (P:=P) hs hO _ _ _ hc h
 refine⟨vs,us,k,h1,?_⟩
 have h3:(fn.results.mapM (Xf7 a)).run P w=.ok us.toArray w:=by
  rw[Array.mapM_eq_mapM_toList]
  simp only[Sem.run_map,h2,Result.andThen_ok]
 have h4:results fn a.tmps=(fn.results.mapM (Xf7 a) >>= fun vs=>pure (if h:vs.size=1 then vs[0] else .tuple vs)):=rfl
 rw[h4,Sem.run_bind]
 simp only[h3,Result.andThen_ok,Sem.run_pure]
 congr 1
 cases us with
 | nil=>simp[X0x]
 | cons u r=>
  cases r with
  | nil=>simp[X0x]
  | cons u' r'=>simp[X0x]

theorem Xa9 {vs:List V}{us:List Value}(h:V.reps w ρ vs us):(Ur vs).rep w ρ (X0x us):=by
 cases vs with
 | nil=>
  simp only[V.reps]at h; subst h
  rw[show Ur []=.tup [] from rfl,rep_tup]; exact⟨[],rfl,by simp[V.reps]⟩
 | cons v r=>
  simp only[V.reps]at h
  obtain⟨u,us',rfl,h1,h2⟩:=h
  cases r with
  | nil=>simp only[V.reps]at h2; subst h2; exact h1
  | cons v' r'=>
   have h2':=h2
   simp only[V.reps]at h2
   obtain⟨u',us'',rfl,h3,h4⟩:=h2
   show (V.tup _).rep w ρ _
   rw[rep_tup]
   refine⟨_,rfl,?_⟩
   simp only[V.reps]
   exact⟨u,_,rfl,h1,u',us'',rfl,h3,h4⟩

theorem Xbu:∀(vs:List V) (us:List Value) {ρ:Env} {ob ob':Objs} {l:List D},OM w ρ ob->V.reps w ρ vs us->V.givs ob vs=some (l,ob')->∃ρ',Tr w ρ w ρ'/\OM w ρ' ob'/\V.reps w ρ' (l.map .d) us
 | [],us,ρ,ob,ob',l,hO,h,e=>by
  simp only[V.givs,Option.some.injEq,Prod.mk.injEq]at e
  obtain⟨rfl,rfl⟩:=e
  exact⟨ρ,Tr.refl _ _,hO,by simpa only[List.map_nil,V.reps]using h⟩
 | x::r,us,ρ,ob,ob',l,hO,h,e=>by
  simp only[V.givs]at e
  simp only[V.reps]at h
  obtain⟨u,us',rfl,h1,h2⟩:=h
  split at e
  ·rename_i dd ob1 hg
   obtain⟨ρ1,t1,o1,hr⟩:=Xc3 hO (u:=u) h1 hg
   cases hg2:V.givs ob1 r with
   | none=>simp[hg2,Qk]at e
   | some q=>
    obtain⟨l2,ob2⟩:=q
    simp only[hg2,Qk,Option.some.injEq,Prod.mk.injEq]at e
    obtain⟨rfl,rfl⟩:=e
    obtain⟨ρ2,t2,o2,hr2⟩:=Xbu r us' o1 (V.reps_tr t1 _ _ h2) hg2
    exact⟨ρ2,t1.trans t2,o2,by simp only[List.map_cons,V.reps]; exact⟨u,us',rfl,V.rep_tr t2 hr,hr2⟩⟩
  ·cases e
theorem Xd1:∀(vs:List V) (us:List Value) {ρ:Env} {ob:Objs} {K:List V->Objs->Prop},OM w ρ ob->V.reps w ρ vs us->Xg6 vs ob K->∃vs' ob' ρ',K vs' ob'/\Tr w ρ w ρ'/\OM w ρ' ob'/\V.reps w ρ' vs' us
 | [],us,ρ,ob,K,hO,h,e=>by
  simp only[Xg6]at e
  exact⟨[],ob,ρ,e,Tr.refl _ _,hO,h⟩
 | x::r,us,ρ,ob,K,hO,h,e=>by
  simp only[Xg6]at e
  simp only[V.reps]at h
  obtain⟨u,us',rfl,h1,h2⟩:=h
  cases hg:V.giv ob x with
  | none=>
   simp only[hg,gvO]at e
   obtain⟨vs',ob',ρ',k,t,o,hr⟩:=Xd1 r us' hO h2 e
   exact⟨_,ob',ρ',k,t,o,by simp only[V.reps]; exact⟨u,us',rfl,V.rep_tr (u:=u) t h1,hr⟩⟩
  | some q=>
   obtain⟨dd,ob1⟩:=q
   simp only[hg,gvO]at e
   obtain⟨ρ1,t1,o1,hr⟩:=Xc3 hO (u:=u) h1 hg
   obtain⟨vs',ob',ρ',k,t,o,hr2⟩:=Xd1 r us' o1 (V.reps_tr t1 _ _ h2) e
   exact⟨_,ob',ρ',k,t1.trans t,o,by simp only[V.reps]; exact⟨u,us',rfl,V.rep_tr t hr,hr2⟩⟩

theorem Xac {vs:List V}{us:List Value}(h:V.reps w ρ vs us):∀(k:Nat) (t:Array Value),(∀i (hi:i<us.length),t.getD (k+i) undef=us[i])->∀j,(look (Xab k vs) j).rep w ρ (t.getD j undef):=by
 induction vs generalizing us with
 | nil=>intro k t _ j; exact Xen
 | cons v r ih=>
  simp only[V.reps]at h
  obtain⟨u,us',rfl,h1,h2⟩:=h
  intro k t ht j
  simp only[Xab,look]
  split
  ·rename_i e; subst e
   have:=ht 0 (by simp)
   simp only[Nat.add_zero,List.getElem_cons_zero]at this
   rw[this]; exact h1
  ·refine ih h2 (k+1) t (fun i hi=>?_) j
   have:=ht (i+1) (by simpa using hi)
   simp only[List.getElem_cons_succ]at this
   rw[<-this]; congr 1; omega

theorem Qp {ρ1:Env}(mo:Xje w (own ρ) w (own ρ1)):∀(vs:List V) (us:List Value) (ds:List D),vs=ds.map .d->V.reps w ρ vs us->V.reps w ρ1 vs us
 | [],us,ds,_,h=>by simpa[V.reps]using h
 | v::r,us,[],e,h=>by simp at e
 | v::r,us,d::ds,e,h=>by
  simp only[List.map_cons,List.cons.injEq]at e
  obtain⟨rfl,e⟩:=e
  simp only[V.reps]at h⊢
  obtain⟨u,us',rfl,h1,h2⟩:=h
  refine⟨u,us',rfl,?_,Qp mo r us' ds e h2⟩
  rcases h1 with h1 | ⟨p,x,q,r⟩ | ⟨p,r⟩
  ·cases h1
  ·exact .inr (.inl ⟨p,x,q,by simp only[V.repC]at r⊢; exact D.rep_mono mo d x r⟩)
  ·exact .inr (.inr ⟨p,by simp only[V.repC]at r⊢; exact D.rep_mono mo d _ r⟩)

theorem Wm:∀{vs:List V} {us:List Value},V.reps w ρ vs us->us.length=vs.length
 | [],us,h=>by simp[V.reps]at h; simp[h]
 | v::r,us,h=>by
  simp only[V.reps]at h
  obtain⟨u,us',rfl,_,h2⟩:=h
  simp[Wm h2]

theorem Xf4 {P:Prg}(hm:P.p.follows .mixedOrders=true){f:Nat}{s:S}{rs:List RV}{ds:List D}{ob0:Objs}{K:V->Prop}(hc:Xt P.p f ds.length s rs=true)
  (h:cwp P s (Q1 rs K) (Xab 0 (ds.map .d)) []):PCall P f (ds.map .d) ob0 K:=by
 unfold Xt at hc
 split at hc
 ·rename_i fn hf
  split at hc
  ·rename_i code hb
   simp only[Bool.and_eq_true,decide_eq_true_eq]at hc
   obtain⟨⟨hn,h1⟩,h2⟩:=hc
   refine⟨fun w ρ args hO hg hr=>calls_of_wp hf hb ?_⟩
   let ρ0:Env:=⟨fun _=>none,own ρ,ρ.gl⟩
   let c:Ctx:=⟨w,fun _=>False,fn.ntmps,[],P.g,fun _=>none,[]⟩
   have hnone:∀b,¬Xsi ρ0 b:=fun b ⟨_,_,h,_⟩=>by cases h
   have hlt:∀b,own ρ b->b<w.heap.size:=fun b h=>h.elim (fun ⟨_,_,h1,h2⟩=>Q0 hO h1 h2) (hO.xlt b)
   have mo:Xje w (own ρ) w (own ρ0):=fun b h1 _=>⟨rfl,fun h2=>h2.elim (hnone b) h1⟩
   have hr0:=Qp mo _ _ ds rfl hr
   have hlen:args.length=ds.length:=by simpa using Wm hr
   have m:Mod c (own ρ) ρ0 (Xab 0 (ds.map .d)) [] { tmps:=args.toArray++Array.replicate (fn.ntmps-args.toArray.size) undef,defers:=[] } w:=by
    refine⟨⟨Nat.le_refl _,fun _ _ _=>rfl,fun b h=>absurd h (hnone b),rfl,rfl,rfl,(fun id o h=>by cases h),(fun p hp=>by cases hp)⟩,⟨fun j x hx=>(by simp[lookO]at hx),fun j o hj=>(by cases hj),fun i j o p b hi=>(by cases hi),fun b hb=>hlt b hb,fun b o hb=>⟨(hO.glb b o hb).1,fun h=>h.elim (hnone b) (hO.glb b o hb).2⟩,fun b hb=>absurd hb (hnone b),trivial⟩,?_,?_,rfl,rfl,hg⟩
    ·refine Xac hr0 0 _ (fun i hi=>?_)
     simp[Array.getElem?_append,hi]
    ·simp[c]; omega
   refine wp_mono (Yz hm rfl code s _ _ _ ρ0 _ w h1 h m) ?_
   rintro e a' w' ⟨ae,sl',ob',ρ',hq,he,m'⟩
   have hfin:Ub sl' ob' rs (fun vs=>Vz (fun l _=>K (Ur (l.map .d))) (V.givs ob' vs))->a'.defers=[]/\∃v,(results fn a'.tmps).run P.p w'=.ok v w'/\∃x u,K x/\Ending.returned v=.returned u/\x.rep w' ρ u/\Ext w w':=by
    intro hq
    obtain⟨vs,us,hk,hrep,hrun⟩:=U8 (P:=P.p) (fn:=fn) m'.sm m'.om h2 hq
    cases hgv:V.givs ob' vs with
    | none=>simp[hgv,Vz]at hk
    | some q=>
     obtain⟨l,ob2⟩:=q
     simp only[hgv,Vz]at hk
     obtain⟨ρ2,t2,o2,hr2⟩:=Xbu vs us m'.om hrep hgv
     have mo2:Xje w' (own ρ2) w' (own ρ):=fun b h1 _=>⟨rfl,fun h2=>h1 (.inr (by rw[t2.xo,m'.xo]; exact h2))⟩
     have hrep':=Qp mo2 _ _ l rfl hr2
     have hext:Ext w w':=⟨m'.base.size,fun b hb=>m'.base.keep b hb (fun h=>h),m'.base.tape,m'.base.os,m'.base.out⟩
     exact⟨m'.df,X0x us,hrun,Ur (l.map .d),X0x us,hk,rfl,Xa9 hrep',hext⟩
   cases ae with
   | normal=>
    cases e<;>simp only[exM]at he
    exact hfin hq
   | ret=>
    cases e<;>simp only[exM]at he
    exact hfin hq
   | exit n=>exact hq.elim
   | panic v=>exact hq.elim
  ·simp at hc
 ·simp at hc

theorem Xle {ids:Nat->Bool}{vs:List V}{us:List Value}(hm:V.mens ids vs=false)(h:V.reps w ρ vs us):V.reps w (ρ.del ids) vs us:=V.reps_del vs us hm h

def Ob.noMen (ids:Nat->Bool):Ob->Prop
 | .box _ t=>V.men ids t=false
 | .vec _ _ xs=>V.mens ids xs=false
 | .map es=>J6 ids es=false
 | _=>True
theorem Vp {ids:Nat->Bool}:∀(ob:Objs),(∀e∈ob,e.2.noMen ids)->noMenO ids ob=true
 | [],_=>rfl
 | (j,.box E t)::r,h=>by
  simp only[noMenO,Bool.and_eq_true,Bool.not_eq_true']
  exact⟨h (j,.box E t) (by simp),Vp r fun e he=>h e (by simp[he])⟩
 | (j,.vec E z t)::r,h=>by
  simp only[noMenO,Bool.and_eq_true,Bool.not_eq_true']
  exact⟨h (j,.vec E z t) (by simp),Vp r fun e he=>h e (by simp[he])⟩
 | (j,.map t)::r,h=>by
  simp only[noMenO,Bool.and_eq_true,Bool.not_eq_true']
  exact⟨h (j,.map t) (by simp),Vp r fun e he=>h e (by simp[he])⟩
 | (j,.arr _ _ _)::r,h=>by simp only[noMenO]; exact Vp r fun e he=>h e (by simp[he])
 | (j,.gone)::r,h=>by simp only[noMenO]; exact Vp r fun e he=>h e (by simp[he])
theorem Xkq {ids:Nat->Bool}(hd:∀id o,ρ.m id=some o->ids id=false):∀(l:List (D×V)) (es:List MapEntry),Zj w ρ l es->J6 ids l=false
 | [],_,_=>rfl
 | (k,v)::r,es,h=>by
  obtain⟨e,es',_,_,h3,h4⟩:=h
  simp only[J6,V.men_temp hd h3,Xkq hd r es' h4,Bool.or_self]
theorem Xdi.noMen {ids:Nat->Bool}(hd:∀id o,ρ.m id=some o->ids id=false){j:Nat}{x:Ob}(h:Xdi w ρ j x):x.noMen ids:=by
 cases x with
 | box E t=>obtain⟨b,cs,_,_,h3⟩:=h; exact V.men_dom hd _ _ h3
 | vec E sz xs=>
  rcases h with⟨_,rfl⟩ | ⟨b,cap,cs,sp,_,_,h3,_⟩
  ·rfl
  ·exact V.menCs_dom hd _ _ h3
 | map es=>obtain⟨b,l,clk,_,_,h3⟩:=h; exact Xkq hd _ _ h3
 | arr E sz xs=>trivial
 | gone=>trivial
theorem Xff {P:Prg}(hm:P.p.follows .mixedOrders=true){f:Nat}{s:S}{rs:List RV}{vs:List V}{ob:Objs}{K:Out->Objs->Prop}(hc:Xt P.p f vs.length s rs=true)
  (h:cwp P s (Uu (fresh ob) rs K) (Xab 0 vs) ob):ACall P f vs ob K:=by
 unfold Xt at hc
 split at hc
 ·rename_i fn hf
  split at hc
  ·rename_i code hb
   simp only[Bool.and_eq_true,decide_eq_true_eq]at hc
   obtain⟨⟨hn,h1⟩,h2⟩:=hc
   refine⟨fun w ρ args hO hg hr=>calls_of_wp hf hb ?_⟩
   let c:Ctx:=⟨w,Xsi ρ,fn.ntmps,[],P.g,ρ.m,[]⟩
   have hlen:args.length=vs.length:=by simpa using Wm hr
   have m:Mod c ρ.xo ρ (Xab 0 vs) ob { tmps:=args.toArray++Array.replicate (fn.ntmps-args.toArray.size) undef,defers:=[] } w:=by
    refine⟨⟨Nat.le_refl _,fun _ _ _=>rfl,fun b h=>.inr h,rfl,rfl,rfl,fun id o h=>⟨o,h,.refl o⟩,(fun p hp=>by cases hp)⟩,hO,?_,?_,rfl,rfl,hg⟩
    ·refine Xac hr 0 _ (fun i hi=>?_)
     simp[Array.getElem?_append,hi]
    ·simp[c]; omega
   refine wp_mono (Yz hm rfl code s _ _ _ ρ _ w h1 h m) ?_
   rintro e a' w' ⟨ae,sl',ob',ρ',hq,he,m'⟩
   have old:∀kp id o,ρ.m id=some o->young (fresh ob) kp id=false:=fun kp id o h0=>by
    obtain⟨x,hx⟩:=hO.dom id o h0
    have hlt:¬fresh ob<=id:=fun hle=>by rw[Yn _ _ hle]at hx; cases hx
    simp[young,hlt]
   have tr:∀{ρ2:Env},Tr w' ρ' w' ρ2->∀kp,Tr w ρ w' (ρ2.del (young (fresh ob) kp)):=fun {ρ2} t kp=>by
    have b2:=m'.base.tr t
    refine⟨b2.size,fun b h1 h2=>b2.keep b h2 h1,fun b h1=>(b2.owns b (Jd h1)).symm,?_,?_,fun id o h1=>?_,b2.tape,b2.os,b2.out⟩
    ·show ρ2.xo=ρ.xo; rw[t.xo,m'.xo]
    ·show ρ2.gl=ρ.gl; rw[t.gl,m'.gl,hg]
    ·obtain⟨o',h3,h4⟩:=b2.same id o h1
     exact⟨o',by simp only[Env.del,old kp id o h1]; exact h3,h4⟩
   have hfin:Ub sl' ob' rs (fun vs=>Xg6 vs ob' fun vs ob'=>X0 (fresh ob) (K (.ret (Ur vs))) vs ob')->a'.defers=[]/\∃v,(results fn a'.tmps).run P.p w'=.ok v w'/\∃out ob2 ρ2,K out ob2/\Xv4 w' ρ2 (.returned v) out/\OM w' ρ2 ob2/\Tr w ρ w' ρ2:=by
    intro hq
    obtain⟨vs,us,hk,hrep,hrun⟩:=U8 (P:=P.p) (fn:=fn) m'.sm m'.om h2 hq
    obtain⟨vs',ob2,ρ2,⟨kp,k1,k2,k3⟩,t2,o2,hr2⟩:=Xd1 vs us m'.om hrep hk
    exact⟨m'.df,X0x us,hrun,.ret (Ur vs'),_,_,k3,Xa9 (Xle k1 hr2),o2.del k2,tr t2 kp⟩
   cases ae with
   | normal=>
    cases e<;>simp only[exM]at he
    exact hfin hq
   | ret=>
    cases e<;>simp only[exM]at he
    exact hfin hq
   | exit n=>exact hq.elim
   | panic v=>
    cases e<;>simp only[exM]at he
    obtain⟨u,rfl,hu⟩:=he
    obtain⟨kp,k1,k2,k3⟩:=hq
    simp only[V.mens,Bool.or_false]at k1
    exact⟨m'.df,.panic v,_,_,k3,⟨u,rfl,V.rep_del k1 hu⟩,m'.om.del k2,tr (Tr.refl _ _) kp⟩
  ·simp at hc
 ·simp at hc

theorem ACall.of_wf {P:Prg}{f:Nat}{vs:List V}{ob:Objs}{K:Out->Objs->Prop}(h:(∀kp,V.mens (young (fresh ob) kp) vs=false)->(∀kp,noMenO (young (fresh ob) kp) ob=true)->ACall P f vs ob K):ACall P f vs ob K:=by
 refine⟨fun w ρ args hO hg hr=>?_⟩
 have old:∀kp id o,ρ.m id=some o->young (fresh ob) kp id=false:=fun kp id o h0=>by
  obtain⟨x,hx⟩:=hO.dom id o h0
  have hlt:¬fresh ob<=id:=fun hle=>by rw[Yn _ _ hle]at hx; cases hx
  simp[young,hlt]
 exact (h (fun kp=>V.mens_dom (old kp) _ _ hr) (fun kp=>Vp ob fun e he=>(hO.one e.1 _ (hO.once.look e he)).noMen (old kp))).run w ρ args hO hg hr

theorem X5d {P:Prg}{p:Program}(hP:P.p=p)(hm:p.follows .mixedOrders=true){f:Nat}{s:S}{rs:List RV}{ds:List D}{ob0:Objs}{K:V->Prop}(hc:Xt p f ds.length s rs=true)
  (h:cwp P s (Q1 rs K) (Xab 0 (ds.map .d)) []):PCall P f (ds.map .d) ob0 K:=by
 subst hP
 exact Xf4 hm hc h
end
end Go.Ab
namespace Go.Ab
open Go
section
variable (P:Prg) (K:V->Prop) (KO:V->Objs->Prop) (Pn:V->Objs->Prop) (Q:Uc) (next:Xb->Objs->Prop) (sl:Xb) (ob:Objs) (r:Xb) (ro:Objs) (v v':V) (x y z:A) (k j n:Nat) (b c:Bool) (m m':Int) (kd kd':IntKind) (s s':List UInt8) (xs:List D) (vs:List V) (d:D)
@[simp] theorem Xm3:look ((k,v)::r) k=v:=by simp[look]
@[simp] theorem Xx2 (h:(j==k)=false):look ((j,v)::r) k=look r k:=by simp at h; simp[look,h]
@[simp] theorem lookO_eq (o:Ob):lookO ((k,o)::ro) k=some o:=by simp[lookO]
@[simp] theorem Xp (o:Ob)(h:(j==k)=false):lookO ((j,o)::ro) k=lookO ro k:=by simp at h; simp[lookO,h]
@[simp] theorem X03 (o o':Ob):setO ((k,o)::ro) k o'=(k,o')::ro:=by simp[setO]
@[simp] theorem Ys (o o':Ob)(h:(j==k)=false):setO ((j,o)::ro) k o'=(j,o)::setO ro k o':=by simp at h; simp[setO,h]
@[simp] theorem put_some:put sl (some k) v=(k,v)::sl:=by simp only[put]
@[simp] theorem put_none:put sl none v=sl:=by simp only[put]
@[simp] theorem Yk7:A.ev sl (.t k)=look sl k:=by simp only[A.ev]
@[simp] theorem ev_int:A.ev sl (.int kd m)=.d (.int kd m):=by simp only[A.ev]
@[simp] theorem ev_bool:A.ev sl (.bool b)=.d (.bool b):=by simp only[A.ev]
@[simp] theorem ev_str:A.ev sl (.str s)=.d (.str s):=by simp only[A.ev]
@[simp] theorem ev_nils:A.ev sl .nils=.d .nils:=by simp only[A.ev]
@[simp] theorem ev_nili:A.ev sl .nili=.d .nili:=by simp only[A.ev]
@[simp] theorem ev_fn:A.ev sl (.fn k)=.fn k [] []:=by simp only[A.ev]
-- calm operations
@[simp] theorem wp_mv:C.wp sl ob K (.mv x)=K (x.ev sl):=by simp only[C.wp]
@[simp] theorem Ydq:Xb0 K (.d (.bool true)) v v'=K v:=by unfold Xb0; split<;>simp_all
@[simp] theorem Ydp:Xb0 K (.d (.bool false)) v v'=K v':=by unfold Xb0; split<;>simp_all
@[simp] theorem wp_not:C.wp sl ob K (.not x)=Xz3 K (x.ev sl):=by simp only[C.wp]
@[simp] theorem notK_b:Xz3 K (.d (.bool b))=K (.d (.bool (!b))):=by simp only[Xz3]
@[simp] theorem wp_mx:C.wp sl ob K (.mx x y)=mxK K (x.ev sl) (y.ev sl):=by simp only[C.wp]
@[simp] theorem wp_bin (op:BinOp):C.wp sl ob K (.bin op x y)=Xrj op K (x.ev sl) (y.ev sl):=by simp only[C.wp]
@[simp] theorem binK_i (op:BinOp):Xrj op K (.d (.int kd m)) (.d (.int kd' m'))=Xrw op kd kd' m m' K:=by simp only[Xrj]
@[simp] theorem binK_s (op:BinOp):Xrj op K (.d (.str s)) (.d (.str s'))=Xux op s s' K:=by simp only[Xrj]
@[simp] theorem intK_sub:Xrw .sub kd kd m m' K=K (.d (.int kd (kd.wrap (m-m')))):=by simp[Xrw]
@[simp] theorem intK_geq:Xrw .geq kd kd m m' K=K (.d (.bool (decide (m'<=m)))):=by simp[Xrw]
@[simp] theorem strK_eql:Xux .eql s s' K=K (.d (.bool (s==s'))):=by simp[Xux]
@[simp] theorem strK_neq:Xux .neq s s' K=K (.d (.bool (s != s'))):=by simp[Xux]
@[simp] theorem wp_isnil:C.wp sl ob K (.isnil b x)=Ul b K (x.ev sl):=by simp only[C.wp]
@[simp] theorem isnilK_n:Ul b K (.d .nili)=K (.d (.bool b)):=by simp only[Ul]
@[simp] theorem isnilK_di:Ul b K (.d (.iface k d))=K (.d (.bool (!b))):=by simp only[Ul]
@[simp] theorem wp_fnil:C.wp sl ob K (.fnil b x)=Xbs b K (x.ev sl):=by simp only[C.wp]
@[simp] theorem fnilK_n:Xbs b K (.d .nilf)=K (.d (.bool b)):=by simp only[Xbs]
@[simp] theorem fnilK_f (l1 l2:List V):Xbs b K (.fn k l1 l2)=K (.d (.bool (!b))):=by simp only[Xbs]
@[simp] theorem mkiV_d:X46 k (.d d)=.d (.iface k d):=by simp only[X46]
@[simp] theorem mkfV_eq (l1 l2:List V):X6v k l1 l2=Ydg k l1 l2 (V.allD l1) (V.allD l2):=by simp only[X6v]
@[simp] theorem mkfO_n1 (l1 l2:List V)(o:Option (List D)):Ydg k l1 l2 none o=.fn k l1 l2:=by cases o<;>simp only[Ydg]
@[simp] theorem mkfO_n2 (l1 l2:List V)(o:Option (List D)):Ydg k l1 l2 o none=.fn k l1 l2:=by cases o<;>simp only[Ydg]
@[simp] theorem wp_cvi:C.wp sl ob K (.cvi kd x)=Xwt kd K (x.ev sl):=by simp only[C.wp]
@[simp] theorem cviK_i:Xwt kd K (.d (.int kd' m))=K (.d (.int kd (kd.wrap m))):=by simp only[Xwt]
@[simp] theorem wp_idx:C.wp sl ob K (.idx x y)=X16 K (x.ev sl) (y.ev sl):=by simp only[C.wp]
@[simp] theorem idxK_s:X16 K (.d (.str s)) (.d (.int kd m))=((0<=m/\m<s.length)/\K (.d (.int .u8 (s.getD m.toNat 0).toNat))):=by simp only[X16]
@[simp] theorem wp_idxA:C.wp sl ob K (.idxA n x y)=J2 ob n K (x.ev sl) (y.ev sl):=by simp only[C.wp]
@[simp] theorem Yb9:J2 ob n K (.d (.list n xs)) (.d (.int kd m))=((0<=m/\m<xs.length)/\K (.d (.ref (xs.getD m.toNat default)))):=by simp[J2]
@[simp] theorem wp_idxP:C.wp sl ob K (.idxP k n x y)=Xcq ob k n K (x.ev sl) (y.ev sl):=by simp only[C.wp]
@[simp] theorem idxPK_p (p:List Nat):Xcq ob k n K (.ptr j p) (.d (.int kd m))=((0<=m/\m<k)/\(∃ks,Zq (atO ob j p)=some ks/\ks.length=k/\∀k∈ks,k.size=n)/\K (.ptr j (p++[m.toNat]))):=by simp only[Xcq]
@[simp] theorem idxPK_c:Xcq ob k n K (.d (.ref (.agg xs))) (.d (.int kd m))=((0<=m/\m<k)/\xs.length=k/\(∀x∈xs,x.sz=n)/\K (.d (.ref (xs.getD m.toNat default)))):=by simp only[Xcq]
@[simp] theorem wp_fldA:C.wp sl ob K (.fldA k n x)=Vy ob k n K (x.ev sl):=by simp only[C.wp]
@[simp] theorem fldAK_p (p:List Nat):Vy ob k n K (.ptr j p)=W9 j p k n K (Zq (atO ob j p)):=by simp only[Vy]
@[simp] theorem fldAKo_s (p:List Nat):W9 j p k n K (some vs)=(k<vs.length/\Sh.sizes ((vs.take k).map V.shape)=n/\K (.ptr j (p++[k]))):=by simp only[W9]
@[simp] theorem fldAK_c:Vy ob k n K (.d (.ref (.agg xs)))=(k<xs.length/\D.szs (xs.take k)=n/\K (.d (.ref (xs.getD k default)))):=by simp only[Vy]
@[simp] theorem wp_fld:C.wp sl ob K (.fld k j n b x)=X13 k j n b K (x.ev sl).kids:=by simp only[C.wp]
@[simp] theorem wp_ld:C.wp sl ob K (.ld n b x)=ldK ob n b K (x.ev sl):=by simp only[C.wp]
@[simp] theorem ldK_p (p:List Nat):ldK ob n b K (.ptr j p)=Xc5 n b K (atO ob j p):=by simp only[ldK]
@[simp] theorem ldKo_s:Xc5 n b K (some v)=(v.size=n/\v.isAgg=b/\K v):=by simp only[Xc5]
@[simp] theorem ldK_c:ldK ob n b K (.d (.ref d))=(d.sz=n/\(V.d d).isAgg=b/\K (.d d)):=by simp only[ldK]
@[simp] theorem wp_nilc:C.wp sl ob K (.nilc x)=Qm K (x.ev sl):=by simp only[C.wp]
@[simp] theorem nilcK_p (p:List Nat):Qm K (.ptr j p)=K (.ptr j p):=by simp only[Qm]
@[simp] theorem nilcK_c:Qm K (.d (.ref d))=K (.d (.ref d)):=by simp only[Qm]
@[simp] theorem wp_lenS:C.wp sl ob K (.lenS x)=Xd6 K (x.ev sl):=by simp only[C.wp]
@[simp] theorem lenSK_s:Xd6 K (.d (.str s))=K (.d (.int .i64 s.length)):=by simp only[Xd6]
@[simp] theorem wp_lenL:C.wp sl ob K (.lenL x)=Xav ob K (x.ev sl):=by simp only[C.wp]
@[simp] theorem lenLK_l:Xav ob K (.d (.list n xs))=K (.d (.int .i64 xs.length)):=by simp only[Xav]
@[simp] theorem lenLK_n:Xav ob K (.d .nils)=K (.d (.int .i64 0)):=by simp only[Xav]
@[simp] theorem lenLK_o:Xav ob K (.sl j n)=(((∃E z xs,lookO ob j=some (.arr E z xs)/\n=xs.length)\/∃E z xs,lookO ob j=some (.vec E z xs)/\n=xs.length)/\K (.d (.int .i64 n))):=by simp only[Xav]
@[simp] theorem wp_slcS (lo hi:Option A):C.wp sl ob K (.slcS x lo hi)=Xfc (lo.map (A.ev sl)) (hi.map (A.ev sl)) K (x.ev sl):=by simp only[C.wp]
@[simp] theorem slcSK_s (lo hi:Option V):Xfc lo hi K (.d (.str s))=Xad s.length (fun l h=>K (.d (.str ((s.take h).drop l)))) lo hi:=by simp only[Xfc]
@[simp] theorem wp_slcL (lo hi:Option A):C.wp sl ob K (.slcL n x lo hi)=Xfb n (lo.map (A.ev sl)) (hi.map (A.ev sl)) K (x.ev sl):=by simp only[C.wp]
@[simp] theorem slcLK_l (lo hi:Option V):Xfb n lo hi K (.d (.list n xs))=Xad xs.length (fun l h=>K (.d (.list n ((xs.take h).drop l)))) lo hi:=by simp[Xfb]
@[simp] theorem bndK_sn (KK:Nat->Nat->Prop):Xad n KK (some (.d (.int kd m))) none=((0<=m/\m<=n)/\KK m.toNat n):=by simp only[Xad]
@[simp] theorem bndK_ns (KK:Nat->Nat->Prop):Xad n KK none (some (.d (.int kd m)))=((0<=m/\m<=n)/\KK 0 m.toNat):=by simp only[Xad]
@[simp] theorem bndK_ss (KK:Nat->Nat->Prop):Xad n KK (some (.d (.int kd m))) (some (.d (.int kd' m')))=((0<=m'/\m'<=n)/\(0<=m/\m<=m')/\KK m.toNat m'.toNat):=by simp only[Xad]
@[simp] theorem wp_ext:C.wp sl ob K (.ext x n)=Xl0 n K (x.ev sl):=by simp only[C.wp]
@[simp] theorem extK_t:Xl0 n K (.tup vs)=(n<vs.length/\K (vs.getD n .any)):=by simp only[Xl0]
@[simp] theorem wp_bld (ps:List (Nat×A)):C.wp sl ob K (.bld xs ps)=J9 (xs.map .d) (ps.map fun p=>(p.1,p.2.ev sl)) fun ks=>K (V.mk ks):=by simp only[C.wp]
@[simp] theorem bldK_n (KL:List V->Prop):J9 vs [] KL=KL vs:=by simp only[J9]
@[simp] theorem bldK_c (KL:List V->Prop)(l:List (Nat×V)):J9 vs ((k,v)::l) KL=(k<vs.length/\v.shape=(vs.getD k .any).shape/\v ≠ .any/\J9 (vs.set k v) l KL):=by simp only[J9]
@[simp] theorem wp_mkf (l l':List A):C.wp sl ob K (.mkf k l l')=K (X6v k (l.map (A.ev sl)) (l'.map (A.ev sl))):=by simp only[C.wp]
@[simp] theorem wp_mki:C.wp sl ob K (.mki k x)=K (X46 k (x.ev sl)):=by simp only[C.wp]
@[simp] theorem wp_tas:C.wp sl ob K (.tas k d x)=X5s k d K (x.ev sl):=by simp only[C.wp]
-- trees
@[simp] theorem kids_agg:V.kids (.agg vs)=some vs:=by simp only[V.kids]
@[simp] theorem kids_d:V.kids (.d (.agg xs))=some (xs.map .d):=by simp only[V.kids]
@[simp] theorem kidsO_s:Zq (some v)=v.kids:=by simp only[Zq]
def atB (p:List Nat):Option Ob->Option V
 | some (.box _ t)=>t.at p
 | _=>none
@[simp] theorem atO_b (p:List Nat):atO ob k p=atB p (lookO ob k):=by
 unfold atO atB
 cases lookO ob k with
 | none=>rfl
 | some o=>cases o<;>rfl
@[simp] theorem atB_s (p:List Nat)(E:Nat):atB p (some (.box E v))=v.at p:=by simp only[atB]
@[simp] theorem at_nil:V.at v []=some v:=by simp[V.at]
def Xjp (i:Nat)(p:List Nat):Option (List V)->Option V
 | some ks=>atKid' p ks[i]?
 | none=>none
where atKid' (p:List Nat):Option V->Option V
 | some k=>V.at k p
 | none=>none
@[simp] theorem at_cons (p:List Nat):V.at v (k::p)=Xjp k p v.kids:=by
 simp only[V.at,Xjp]
 cases v.kids with
 | none=>rfl
 | some ks=>simp only[Xjp.atKid']; cases ks[k]?<;>rfl
@[simp] theorem atKid_s (p:List Nat):Xjp k p (some vs)=Xjp.atKid' p vs[k]?:=by simp only[Xjp]
@[simp] theorem atKid'_s (p:List Nat):Xjp.atKid' p (some v)=V.at v p:=by simp only[Xjp.atKid']
@[simp] theorem set_nil:V.set v [] v'=some v':=by simp[V.set]
def Qh (i:Nat)(p:List Nat)(x:V):Option (List V)->Option V
 | some ks=>setKid1 i p x ks ks[i]?
 | none=>none
where
 setKid1 (i:Nat) (p:List Nat) (x:V) (ks:List V):Option V->Option V
 | some k=>setKid2 i ks (V.set k p x)
 | none=>none
 setKid2 (i:Nat) (ks:List V):Option V->Option V
 | some k'=>some (V.mk (ks.set i k'))
 | none=>none
@[simp] theorem set_cons (p:List Nat):V.set v (k::p) v'=Qh k p v' v.kids:=by
 simp only[V.set,Qh]
 cases v.kids with
 | none=>rfl
 | some ks=>
  simp only[Qh.setKid1]
  cases ks[k]? with
  | none=>rfl
  | some y=>simp only[Qh.setKid2]; cases V.set y p v'<;>rfl
@[simp] theorem setKid_s (p:List Nat):Qh k p v (some vs)=Qh.setKid1 k p v vs vs[k]?:=by simp only[Qh]
@[simp] theorem setKid1_s (p:List Nat):Qh.setKid1 k p v vs (some v')=Qh.setKid2 k vs (V.set v' p v):=by simp only[Qh.setKid1]
@[simp] theorem setKid2_s:Qh.setKid2 k vs (some v)=some (V.mk (vs.set k v)):=by simp only[Qh.setKid2]
@[simp] theorem allD_nil:V.allD []=some []:=by simp[V.allD]
def Xcp (x:D):Option (List D)->Option (List D)
 | some l=>some (x::l)
 | none=>none
@[simp] theorem allD_cons:V.allD (.d d::vs)=Xcp d (V.allD vs):=by simp only[V.allD]; cases V.allD vs<;>rfl
@[simp] theorem consD_s:Xcp d (some xs)=some (d::xs):=by simp only[Xcp]
@[simp] theorem consD_n:Xcp d none=none:=by simp only[Xcp]
@[simp] theorem allD_map:V.allD (xs.map .d)=some xs:=by induction xs with | nil=>rfl | cons x r ih=>simp[ih]
@[simp] theorem allD_fn (a1 a2:List V):V.allD (.fn k a1 a2::vs)=none:=by simp only[V.allD]
@[simp] theorem allD_sl:V.allD (.sl k n::vs)=none:=by simp only[V.allD]
@[simp] theorem allD_agg (l:List V):V.allD (.agg l::vs)=none:=by simp only[V.allD]
@[simp] theorem allD_ptr (p:List Nat):V.allD (.ptr k p::vs)=none:=by simp only[V.allD]
def mkO (vs:List V):Option (List D)->V
 | some l=>.d (.agg l)
 | none=>.agg vs
@[simp] theorem Ypr:V.mk vs=mkO vs (V.allD vs):=by unfold V.mk mkO; cases V.allD vs<;>rfl
@[simp] theorem mkO_s:mkO vs (some xs)=.d (.agg xs):=by simp only[mkO]
@[simp] theorem mkO_n:mkO vs none=.agg vs:=by simp only[mkO]
-- sizes,shapes
attribute [simp] D.sz D.szs Sh.size Sh.sizes D.shape D.shapes V.shape V.shapes V.isAgg V.sto V.stos V.size V.men V.mens
-- operations on memory
@[simp] theorem qx (e:C):I.wp P sl ob KO Pn (.c e)=e.wp sl ob (fun v=>KO v ob):=by simp only[I.wp]
@[simp] theorem qw:I.wp P sl ob KO Pn (.box k x)=Xus k ob KO (x.ev sl):=by simp only[I.wp]
@[simp] theorem qr:I.wp P sl ob KO Pn (.alloc k d)=Xus k ob KO (.d d):=by simp only[I.wp]
@[simp] theorem boxK_eq:Xus k ob KO v=(v.sto=true/\KO (.ptr (fresh ob) []) ((fresh ob,.box k v)::ob)):=by simp only[Xus]
@[simp] theorem qu (ps:List (Nat×A)):I.wp P sl ob KO Pn (.bls n xs ps)=J9 (xs.map .d) (ps.map fun p=>(p.1,p.2.ev sl)) (fun ks=>dK (fun l=>KO (.d (.list n l)) ob) (V.allD ks)):=by simp only[I.wp]
@[simp] theorem dK_s (KD:List D->Prop):dK KD (some xs)=KD xs:=by simp only[dK]
@[simp] theorem qt (ps:List (Nat×A)):I.wp P sl ob KO Pn (.blo j n xs ps)=J9 (xs.map .d) (ps.map fun p=>(p.1,p.2.ev sl)) (fun ks=>dK (fun l=>KO (.sl (fresh ob) l.length) ((fresh ob,.arr j n l)::ob)) (V.allD ks)):=by simp only[I.wp]
@[simp] theorem zi:I.wp P sl ob KO Pn (.st n x y)=stK ob n (y.ev sl) KO (x.ev sl):=by simp only[I.wp]
@[simp] theorem stK_p (p:List Nat):stK ob n v KO (.ptr k p)=stKo ob k p n v KO (lookO ob k):=by simp only[stK]
@[simp] theorem stKo_s (p:List Nat)(t:V)(E:Nat):stKo ob k p n v KO (some (.box E t))=X1o ob k p n E v t KO (t.at p):=by simp only[stKo]
def Yeq (ob:Objs)(id E:Nat)(K:V->Objs->Prop):Option V->Prop
 | some t'=>K .undef (setO ob id (.box E t'))
 | none=>False
@[simp] theorem stKt_s (p:List Nat)(t:V)(E:Nat):X1o ob k p n E v t KO (some v')=(v.shape=v'.shape/\v'.size=n/\v.sto=true/\Yeq ob k E KO (t.set p v)):=by
 simp only[X1o]; cases t.set p v<;>simp[Yeq]
@[simp] theorem stKs_s (E:Nat):Yeq ob k E KO (some v)=KO .undef (setO ob k (.box E v)):=by simp only[Yeq]
@[simp] theorem qs (E sz B:Nat):I.wp P sl ob KO Pn (.app E sz B x y)=X1m sz (fun ys=>Xe1 E sz B ob ys KO (x.ev sl)) (y.ev sl):=by simp only[I.wp]
@[simp] theorem srcK_l (KD:List D->Prop):X1m n KD (.d (.list n xs))=KD xs:=by simp[X1m]
@[simp] theorem appK_s (E sz B:Nat):Xe1 E sz B ob xs KO (.sl k n)=Xe2 k E sz B n ob xs KO (lookO ob k):=by simp[Xe1]
@[simp] theorem appK_n (E sz B:Nat):Xe1 E sz B ob xs KO (.d .nils)=((2*xs.length+192)*B<=281474976710656/\KO (.sl (fresh ob) xs.length) ((fresh ob,.arr E sz xs)::ob)):=by simp only[Xe1]
@[simp] theorem appKo_s (E sz B:Nat)(ys:List D):Xe2 k E sz B n ob xs KO (some (.arr E sz ys))=(n=ys.length/\(2*(ys.length+xs.length)+192)*B<=281474976710656/\KO (.sl k (ys.length+xs.length)) (setO ob k (.arr E sz (ys++xs)))):=by simp[Xe2]
@[simp] theorem iwp_appS (E B:Nat):I.wp P sl ob KO Pn (.appS E B x y)=Xi1 (fun ys=>Xe1 E 1 B ob ys KO (x.ev sl)) (y.ev sl):=by simp only[I.wp]
@[simp] theorem srcSK_s (KD:List D->Prop):Xi1 KD (.d (.str s))=KD (bytesD s):=by simp only[Xi1]
@[simp] theorem zd:I.wp P sl ob KO Pn (.mvf x)=Xj9 KO (V.giv ob (x.ev sl)):=by simp only[I.wp]
@[simp] theorem zb:I.wp P sl ob KO Pn (.ldf n b x)=X4x n b ob KO (x.ev sl):=by simp only[I.wp]
@[simp] theorem ze (E sz:Nat)(p:List Nat):I.wp P sl ob KO Pn (.mvg E sz y x p)=Xl1 ob E sz p (y.ev sl) KO (x.ev sl):=by simp only[I.wp]
@[simp] theorem zf (l:List (Nat×Nat×List Nat)):I.wp P sl ob KO Pn (.mvn y x l)=X6x (y.ev sl) KO (x.ev sl) l ob:=by simp only[I.wp]
@[simp] theorem mvgK_p (E sz:Nat)(p q:List Nat):Xl1 ob E sz p v KO (.ptr k q)=Xe7 ob k (q++p) E sz v KO (lookO ob k):=by simp only[Xl1]
@[simp] theorem mvgKt_s (E E0 sz:Nat)(p:List Nat)(t:V):Xe7 ob k p E sz v KO (some (.box E0 t))=((t.at p=some (.d .nils)/\Xks ob k E0 E sz v KO (t.set p (.sl (fresh ob) 0)))\/((∃i n,t.at p=some (.sl i n))/\KO v ob)):=by simp only[Xe7]
@[simp] theorem mvgKs_s (E E0 sz:Nat)(t:V):Xks ob k E0 E sz v KO (some t)=KO v ((fresh ob,.arr E sz [])::setO ob k (.box E0 t)):=by simp only[Xks]
@[simp] theorem iwp_cvb:I.wp P sl ob KO Pn (.cvb x)=Xws ob KO (x.ev sl):=by simp only[I.wp]
@[simp] theorem cvbK_s:Xws ob KO (.sl k n)=Xgt k n ob KO (lookO ob k):=by simp only[Xws]
@[simp] theorem cvbKo_s (E sz:Nat):Xgt k n ob KO (some (.arr E sz xs))=(sz ≠ 0/\n=xs.length/\xs ≠ []/\KO (.d (.list sz xs)) (setO ob k .gone)):=by simp only[Xgt]
@[simp] theorem wp_usd:C.wp sl ob K (.usd x)=Xuo ob K (x.ev sl):=by simp only[C.wp]
@[simp] theorem usdK_s:Xuo ob K (.sl k n)=((∃E sz xs,lookO ob k=some (.arr E sz xs)/\sz ≠ 0/\n=xs.length/\xs ≠ [])/\K (.sd k n)):=by simp only[Xuo]
@[simp] theorem usdK_n:Xuo ob K (.d .nils)=K (.d .nilp):=by simp only[Xuo]
@[simp] theorem iwp_ustr (E:Nat):I.wp P sl ob KO Pn (.ustr E x y)=Xb7 E ob KO (x.ev sl) (y.ev sl):=by simp only[I.wp]
@[simp] theorem ustrK_s (E:Nat):Xb7 E ob KO (.sd k n) (.d (.int .i64 m))=Xbe k n m E ob KO (lookO ob k):=by simp only[Xb7]
@[simp] theorem ustrK_n (E:Nat):Xb7 E ob KO (.d .nilp) (.d (.int .i64 m))=(m=0/\KO (.d (.str [])) ob):=by simp only[Xb7]
@[simp] theorem ustrKo_s (E E' sz:Nat):Xbe k n m E ob KO (some (.arr E' sz xs))=(E'=E/\sz=1/\n=xs.length/\m=n/\n<=9223372036854775807/\xs ≠ []/\∃s,xs=bytesD s/\KO (.d (.str s)) (setO ob k .gone)):=by simp only[Xbe]
-- values given up
@[simp] theorem giv_d:V.giv ob (.d d)=some (d,ob):=by simp only[V.giv]
@[simp] theorem giv_sl:V.giv ob (.sl k n)=X14 ob k n (lookO ob k):=by simp only[V.giv]
@[simp] theorem givO_s (E sz:Nat):X14 ob k n (some (.arr E sz xs))=if sz ≠ 0/\n=xs.length then some (.list sz xs,setO ob k .gone) else none:=by simp only[X14]
@[simp] theorem giv_agg:V.giv ob (.agg vs)=Xjn (V.givs ob vs):=by simp only[V.giv]
@[simp] theorem giv_fn (l1 l2:List V):V.giv ob (.fn k l1 l2)=fnG k ob (V.allD l1) (V.allD l2):=by simp only[V.giv]
@[simp] theorem fnG_s (l1 l2:List D):fnG k ob (some l1) (some l2)=some (.fn k l1 l2,ob):=by simp only[fnG]
@[simp] theorem givs_nil:V.givs ob []=some ([],ob):=by simp only[V.givs]
def Xwh (r:List V):Option (D×Objs)->Option (List D×Objs)
 | some (x,ob1)=>Qk x (V.givs ob1 r)
 | none=>none
@[simp] theorem givs_cons:V.givs ob (v::vs)=Xwh vs (V.giv ob v):=by
 simp only[V.givs]; cases V.giv ob v with
 | none=>rfl
 | some q=>obtain⟨y,ob1⟩:=q; rfl
@[simp] theorem bindO_s:Xwh vs (some (d,ob))=Qk d (V.givs ob vs):=by simp only[Xwh]
@[simp] theorem bindO_n:Xwh vs none=none:=by simp only[Xwh]
@[simp] theorem consO_s (l:List D):Qk d (some (l,ob))=some (d::l,ob):=by simp only[Qk]
@[simp] theorem consO_n:Qk d none=none:=by simp only[Qk]
@[simp] theorem aggO_s (l:List D):Xjn (some (l,ob))=some (.agg l,ob):=by simp only[Xjn]
@[simp] theorem givsK_s (KD:List D->Objs->Prop)(l:List D):Vz KD (some (l,ob))=KD l ob:=by simp only[Vz]
@[simp] theorem gvsK_nil (KL:List V->Objs->Prop):Xg6 [] ob KL=KL [] ob:=by simp only[Xg6]
@[simp] theorem gvsK_cons (KL:List V->Objs->Prop):Xg6 (v::vs) ob KL=gvO v ob (fun v' ob'=>Xg6 vs ob' fun vs ob''=>KL (v'::vs) ob'') (V.giv ob v):=by simp only[Xg6]
@[simp] theorem gvO_s:gvO v ob KO (some (d,ro))=KO (.d d) ro:=by simp only[gvO]
-- names
@[simp] theorem fresh_nil:fresh []=0:=by simp only[fresh]
@[simp] theorem fresh_cons (o:Ob):fresh ((k,o)::ro)=if fresh ro<=k then k+1 else fresh ro:=by simp only[fresh]
@[simp] theorem fresh_set (o:Ob):fresh (setO ob k o)=fresh ob:=by
 induction ob with
 | nil=>simp[setO]
 | cons e r ih=>obtain⟨i,y⟩:=e; simp only[setO]; split<;>simp[fresh,ih]
@[simp] theorem fresh_ne (h:(lookO ob k).isSome=true):(fresh ob==k)=false:=by
 rw[beq_eq_false_iff_ne]; intro e; rw[<-e,Yt]at h; cases h
@[simp] theorem fresh_add_ne (h:(lookO ob k).isSome=true):(fresh ob+n==k)=false:=by
 rw[beq_eq_false_iff_ne]; intro e; rw[<-e,Yn ob _ (by omega)]at h; cases h
@[simp] theorem lookO_set_eq (o:Ob)(h:(lookO ob k).isSome=true):lookO (setO ob k o) k=some o:=by
 rw[Xj ob k k (Option.isSome_iff_exists.1 h)]; simp
@[simp] theorem lookO_set_ne (o:Ob)(h:(j==k)=false):lookO (setO ob j o) k=lookO ob k:=by
 by_cases hs:(lookO ob j).isSome=true
 ·rw[Xj ob j k (Option.isSome_iff_exists.1 hs)]; simp at h; rw[if_neg (fun e=>h e.symm)]
 ·have hn:lookO ob j=none:=by simpa using hs
  have:∀(ob:Objs),lookO ob j=none->setO ob j o=ob:=fun ob=>by
   induction ob with
   | nil=>intro _; rfl
   | cons e r ih=>obtain⟨i,y⟩:=e; intro h; simp only[lookO]at h; split at h; cases h; rename_i hne; simp[setO,hne,ih h]
  rw[this ob hn]
@[simp] theorem Xba (o o':Ob):setO (setO ob k o) k o'=setO ob k o':=by
 induction ob with
 | nil=>rfl
 | cons e r ih=>
  obtain⟨i,y⟩:=e
  by_cases h:i=k
  ·subst h; simp[setO]
  ·simp[setO,h,ih]
theorem Xlm (o:Ob)(h:lookO ob k=some o):setO ob k o=ob:=by
 induction ob with
 | nil=>rfl
 | cons e r ih=>
  obtain⟨i,y⟩:=e
  simp only[lookO]at h
  split at h
  ·rename_i e; cases h; simp[setO,e]
  ·rename_i e; simp[setO,e,ih h]
-- young objects dropped
@[simp] theorem young_lt (l:List Nat)(h:k<n):young n l k=false:=by simp[young]; omega
@[simp] theorem young_old (l:List Nat)(h:(lookO ob k).isSome=true):young (fresh ob) l k=false:=by
 have:k<fresh ob:=by
  rcases Nat.lt_or_ge k (fresh ob) with h1 | h1
  ·exact h1
  ·rw[Yn ob k h1]at h; cases h
 simp[young]; omega
@[simp] theorem Uq:young n [] n=true:=by simp[young]
@[simp] theorem young_add:young n [] (n+k)=true:=by simp[young]
theorem noMenO_set_box (ids:Nat->Bool)(E:Nat)(h:noMenO ids ob=true)(hv:V.men ids v=false):noMenO ids (setO ob k (.box E v))=true:=by
 induction ob with
 | nil=>rfl
 | cons e r ih=>
  obtain⟨i,y⟩:=e
  simp only[setO]
  split
  ·cases y<;>simp_all[noMenO]
  ·cases y<;>simp_all[noMenO]
theorem noMenO_set_arr (ids:Nat->Bool)(E z:Nat)(h:noMenO ids ob=true):noMenO ids (setO ob k (.arr E z xs))=true:=by
 induction ob with
 | nil=>rfl
 | cons e r ih=>
  obtain⟨i,y⟩:=e
  simp only[setO]
  split
  ·cases y<;>simp_all[noMenO]
  ·cases y<;>simp_all[noMenO]
theorem Wp (ids:Nat->Bool)(E:Nat)(h:noMenO ids ob=true)(hl:lookO ob k=some (.box E v)):V.men ids v=false:=Zt ob k E v h hl
@[simp] theorem qy (l:List A):I.wp P sl ob KO Pn (.call k l)=ACall P k (l.map (A.ev sl)) ob (Xp0 KO Pn):=by simp only[I.wp]
@[simp] theorem qz (l:List A):I.wp P sl ob KO Pn (.callv x l)=Qr P (l.map (A.ev sl)) ob KO Pn (x.ev sl):=by simp only[I.wp]
@[simp] theorem callvK_f (a1 a2:List V):Qr P vs ob KO Pn (.fn k a1 a2)=(Xk P.p k=true/\ACall P k (a1++vs++a2) ob (Xp0 KO Pn)):=by simp only[Qr]
@[simp] theorem callvK_df (a1 a2:List D):Qr P vs ob KO Pn (.d (.fn k a1 a2))=(Xk P.p k=true/\ACall P k (a1.map .d++vs++a2.map .d) ob (Xp0 KO Pn)):=by simp only[Qr]
@[simp] theorem zk:Xp0 KO Pn (.ret v) ob=KO v ob:=by simp only[Xp0]
@[simp] theorem zj:Xp0 KO Pn (.panic v) ob=Pn v ob:=by simp only[Xp0]
@[simp] theorem iwp_panic:I.wp P sl ob KO Pn (.panic x)=Xa4 ob Pn (x.ev sl):=by simp only[I.wp]
@[simp] theorem panicK_d:Xa4 ob Pn (.d (.iface k d))=Pn (.d (.iface k d)) ob:=by simp only[Xa4]
@[simp] theorem zg (E sz:Nat):I.wp P sl ob KO Pn (.nilo E sz x)=Xis E sz ob KO (x.ev sl):=by simp only[I.wp]
@[simp] theorem niloK_n (E sz:Nat):Xis E sz ob KO (.d .nils)=KO (.sl (fresh ob) 0) ((fresh ob,.arr E sz [])::ob):=by simp only[Xis]
-- regions and statements
@[simp] theorem keepS_nil:Xf sl []=[]:=by simp only[Xf]
@[simp] theorem keepS_cons (l:List Nat):Xf sl (k::l)=(k,look sl k)::Xf sl l:=by simp only[Xf]
@[simp] theorem zh (l:List A):I.wp P sl ob KO Pn (.pcall k l)=PCall P k (l.map (A.ev sl)) ob (fun v=>KO v ob):=by simp only[I.wp]
@[simp] theorem condK_t (Y N:Prop):Xbn Y N (.d (.bool true))=Y:=by simp[Xbn]
@[simp] theorem condK_f (Y N:Prop):Xbn Y N (.d (.bool false))=N:=by simp[Xbn]
@[simp low] theorem condK_b (Y N:Prop):Xbn Y N (.d (.bool b))=((b=true->Y)/\(b=false->N)):=by simp only[Xbn]
@[simp] theorem zy:Vs next Q .normal sl ob=next sl ob:=by simp only[Vs]
@[simp] theorem zx:Vs next Q (.exit n) sl ob=Q (.exit n) sl ob:=by simp only[Vs]
@[simp] theorem wc:Vs next Q .ret sl ob=Q .ret sl ob:=by simp only[Vs]
@[simp] theorem zz:Vs next Q (.panic v) sl ob=Q (.panic v) sl ob:=by simp only[Vs]
@[simp] theorem qb:Y3 n Q .normal sl ob=Q .normal sl ob:=by simp only[Y3]
@[simp] theorem qa:Y3 n Q (.exit n) sl ob=Q .normal sl ob:=by simp[Y3]
@[simp] theorem qd:Y3 n Q .ret sl ob=Q .ret sl ob:=by simp only[Y3]
@[simp] theorem qc:Y3 n Q (.panic v) sl ob=Q (.panic v) sl ob:=by simp only[Y3]
attribute [simp] Qd noMenO X1
-- results
@[simp] theorem pureQ_r (rs:List RV):Q1 rs K .ret sl ob=Ub sl ob rs fun vs=>Vz (fun l _=>K (Ur (l.map .d))) (V.givs ob vs):=by simp only[Q1]
@[simp] theorem pureQ_p (rs:List RV):Q1 rs K (.panic v) sl ob=False:=by simp only[Q1]
@[simp] theorem qe (rs:List RV)(KU:Out->Objs->Prop):Uu n rs KU .normal sl ob=Ub sl ob rs fun vs=>Xg6 vs ob fun vs ob=>X0 n (KU (.ret (Ur vs))) vs ob:=by simp only[Uu]
@[simp] theorem qg (rs:List RV)(KU:Out->Objs->Prop):Uu n rs KU .ret sl ob=Ub sl ob rs fun vs=>Xg6 vs ob fun vs ob=>X0 n (KU (.ret (Ur vs))) vs ob:=by simp only[Uu]
@[simp] theorem qf (rs:List RV)(KU:Out->Objs->Prop):Uu n rs KU (.panic v) sl ob=X0 n (KU (.panic v)) [v] ob:=by simp only[Uu]
@[simp] theorem resK_nil (KL:List V->Prop):Ub sl ob [] KL=KL []:=by simp only[Ub]
@[simp] theorem resK_t (KL:List V->Prop)(rs:List RV):Ub sl ob (.t k::rs) KL=Ub sl ob rs fun vs=>KL (look sl k::vs):=by simp only[Ub,RV.wp]
@[simp] theorem resK_c (KL:List V->Prop)(rs:List RV):Ub sl ob (.c k n b::rs) KL=ldK ob n b (fun v=>Ub sl ob rs fun vs=>KL (v::vs)) (look sl k):=by simp only[Ub,RV.wp]
@[simp] theorem retV_1:Ur [v]=v:=by simp only[Ur]
@[simp] theorem retV_0:Ur []=.tup []:=by simp only[Ur]
@[simp] theorem retV_2:Ur (v::v'::vs)=.tup (v::v'::vs):=by simp only[Ur]
@[simp] theorem argS_nil:Xab k []=[]:=by simp only[Xab]
@[simp] theorem argS_cons:Xab k (v::vs)=(k,v)::Xab (k+1) vs:=by simp only[Xab]
end

@[congr] theorem I_wp_congr {P:Prg}{sl:Xb}{ob:Objs}{KO:V->Objs->Prop}{Pn:V->Objs->Prop}{i:I}:I.wp P sl ob KO Pn i=I.wp P sl ob KO Pn i:=rfl
@[congr] theorem C_wp_congr {sl:Xb}{ob:Objs}{K:V->Prop}{e:C}:C.wp sl ob K e=C.wp sl ob K e:=rfl
@[congr] theorem rwp_congr {P:Prg}{KS:Xb->Objs->Prop}{PS:V->Xb->Objs->Prop}{l:List It}{sl:Xb}{ob:Objs}:rwp P KS PS l sl ob=rwp P KS PS l sl ob:=rfl
@[congr] theorem gdK_congr {k:Nat}{b:Bool}{sl:Xb}{Y N:Xb->Prop}{v v':V}(h0:v=v'):gdK k b sl Y N v=gdK k b sl Y N v':=by rw[h0]
@[congr] theorem condK_congr {Y N:Prop}{v v':V}(h0:v=v'):Xbn Y N v=Xbn Y N v':=by rw[h0]
@[congr] theorem pickK_congr {K:V->Prop}{u u':V}{v v':V}{w w':V}(h0:u=u')(h1:v=v')(h2:w=w'):Xb0 K u v w=Xb0 K u' v' w':=by rw[h0,h1,h2]
@[congr] theorem notK_congr {K:V->Prop}{v v':V}(h0:v=v'):Xz3 K v=Xz3 K v':=by rw[h0]
@[congr] theorem cplK_congr {K:V->Prop}{v v':V}(h0:v=v'):Ybs K v=Ybs K v':=by rw[h0]
@[congr] theorem mxK_congr {K:V->Prop}{u u' v v':V}(h0:u=u')(h1:v=v'):mxK K u v=mxK K u' v':=by rw[h0,h1]
@[congr] theorem negK_congr {K:V->Prop}{v v':V}(h0:v=v'):Ydi K v=Ydi K v':=by rw[h0]
@[congr] theorem cvsK_congr {K:V->Prop}{v v':V}(h0:v=v'):Ybu K v=Ybu K v':=by rw[h0]
@[congr] theorem nilcK_congr {K:V->Prop}{v v':V}(h0:v=v'):Qm K v=Qm K v':=by rw[h0]
@[congr] theorem lenSK_congr {K:V->Prop}{v v':V}(h0:v=v'):Xd6 K v=Xd6 K v':=by rw[h0]
@[congr] theorem b2sK_congr {K:V->Prop}{v v':V}(h0:v=v'):Yd9 K v=Yd9 K v':=by rw[h0]
@[congr] theorem s2bK_congr {K:V->Prop}{v v':V}(h0:v=v'):Yen K v=Yen K v':=by rw[h0]
@[congr] theorem binK_congr {op:BinOp}{K:V->Prop}{u u':V}{v v':V}(h0:u=u')(h1:v=v'):Xrj op K u v=Xrj op K u' v':=by rw[h0,h1]
@[congr] theorem intK_congr {op:BinOp}{k j:IntKind}{K:V->Prop}{a a':Int}{b b':Int}(h0:a=a')(h1:b=b'):Xrw op k j a b K=Xrw op k j a' b' K:=by rw[h0,h1]
@[congr] theorem strK_congr {op:BinOp}{K:V->Prop}{a a':List UInt8}{b b':List UInt8}(h0:a=a')(h1:b=b'):Xux op a b K=Xux op a' b' K:=by rw[h0,h1]
@[congr] theorem beqK_congr {e:Bool}{K:V->Prop}{u u':V}{v v':V}(h0:u=u')(h1:v=v'):Ya5 e K u v=Ya5 e K u' v':=by rw[h0,h1]
@[congr] theorem isnilK_congr {e:Bool}{K:V->Prop}{v v':V}(h0:v=v'):Ul e K v=Ul e K v':=by rw[h0]
@[congr] theorem cviK_congr {k:IntKind}{K:V->Prop}{v v':V}(h0:v=v'):Xwt k K v=Xwt k K v':=by rw[h0]
@[congr] theorem idxK_congr {K:V->Prop}{u u':V}{v v':V}(h0:u=u')(h1:v=v'):X16 K u v=X16 K u' v':=by rw[h0,h1]
@[congr] theorem idxAK_congr {ob:Objs}{n:Nat}{K:V->Prop}{u u':V}{v v':V}(h0:u=u')(h1:v=v'):J2 ob n K u v=J2 ob n K u' v':=by rw[h0,h1]
@[congr] theorem idxPK_congr {ob:Objs}{k n:Nat}{K:V->Prop}{u u':V}{v v':V}(h0:u=u')(h1:v=v'):Xcq ob k n K u v=Xcq ob k n K u' v':=by rw[h0,h1]
@[congr] theorem fldAK_congr {ob:Objs}{k n:Nat}{K:V->Prop}{v v':V}(h0:v=v'):Vy ob k n K v=Vy ob k n K v':=by rw[h0]
@[congr] theorem fldAKo_congr {j:Nat}{p:List Nat}{k n:Nat}{K:V->Prop}{v v':Option (List V)}(h0:v=v'):W9 j p k n K v=W9 j p k n K v':=by rw[h0]
@[congr] theorem fldK_congr {k j n:Nat}{b:Bool}{K:V->Prop}{v v':Option (List V)}(h0:v=v'):X13 k j n b K v=X13 k j n b K v':=by rw[h0]
@[congr] theorem ldK_congr {ob:Objs}{n:Nat}{b:Bool}{K:V->Prop}{v v':V}(h0:v=v'):ldK ob n b K v=ldK ob n b K v':=by rw[h0]
@[congr] theorem ldKo_congr {n:Nat}{b:Bool}{K:V->Prop}{v v':Option V}(h0:v=v'):Xc5 n b K v=Xc5 n b K v':=by rw[h0]
@[congr] theorem lenLK_congr {ob:Objs}{K:V->Prop}{v v':V}(h0:v=v'):Xav ob K v=Xav ob K v':=by rw[h0]
@[congr] theorem bndK_congr {n:Nat}{KK:Nat->Nat->Prop}{u u':Option V}{v v':Option V}(h0:u=u')(h1:v=v'):Xad n KK u v=Xad n KK u' v':=by rw[h0,h1]
@[congr] theorem slcSK_congr {K:V->Prop}{l l':Option V}{h h':Option V}{v v':V}(h0:l=l')(h1:h=h')(h2:v=v'):Xfc l h K v=Xfc l' h' K v':=by rw[h0,h1,h2]
@[congr] theorem slcLK_congr {n:Nat}{K:V->Prop}{l l':Option V}{h h':Option V}{v v':V}(h0:l=l')(h1:h=h')(h2:v=v'):Xfb n l h K v=Xfb n l' h' K v':=by rw[h0,h1,h2]
@[congr] theorem extK_congr {n:Nat}{K:V->Prop}{v v':V}(h0:v=v'):Xl0 n K v=Xl0 n K v':=by rw[h0]
@[congr] theorem bldK_congr {KL:List V->Prop}{u u':List V}{l l':List (Nat×V)}(h0:u=u')(h1:l=l'):J9 u l KL=J9 u' l' KL:=by rw[h0,h1]
@[congr] theorem tasK_congr {k:Nat}{d:D}{K:V->Prop}{v v':V}(h0:v=v'):X5s k d K v=X5s k d K v':=by rw[h0]
@[congr] theorem boxK_congr {k:Nat}{ob:Objs}{KO:V->Objs->Prop}{v v':V}(h0:v=v'):Xus k ob KO v=Xus k ob KO v':=by rw[h0]
@[congr] theorem stK_congr {ob:Objs}{n:Nat}{KO:V->Objs->Prop}{u u':V}{v v':V}(h0:u=u')(h1:v=v'):stK ob n u KO v=stK ob n u' KO v':=by rw[h0,h1]
@[congr] theorem stKo_congr {ob:Objs}{k:Nat}{p:List Nat}{n:Nat}{u:V}{KO:V->Objs->Prop}{v v':Option Ob}(h0:v=v'):stKo ob k p n u KO v=stKo ob k p n u KO v':=by rw[h0]
@[congr] theorem stKt_congr {ob:Objs}{k:Nat}{p:List Nat}{n E:Nat}{u t:V}{KO:V->Objs->Prop}{v v':Option V}(h0:v=v'):X1o ob k p n E u t KO v=X1o ob k p n E u t KO v':=by rw[h0]
@[congr] theorem stKs_congr {ob:Objs}{k E:Nat}{KO:V->Objs->Prop}{v v':Option V}(h0:v=v'):Yeq ob k E KO v=Yeq ob k E KO v':=by rw[h0]
@[congr] theorem dK_congr {KD:List D->Prop}{v v':Option (List D)}(h0:v=v'):dK KD v=dK KD v':=by rw[h0]
@[congr] theorem callvK_congr {P:Prg}{ob:Objs}{KO:V->Objs->Prop}{Pn:V->Objs->Prop}{u u':List V}{v v':V}(h0:u=u')(h1:v=v'):Qr P u ob KO Pn v=Qr P u' ob KO Pn v':=by rw[h0,h1]
@[congr] theorem panicK_congr {ob:Objs}{Pn:V->Objs->Prop}{v v':V}(h0:v=v'):Xa4 ob Pn v=Xa4 ob Pn v':=by rw[h0]
@[congr] theorem srcK_congr {n:Nat}{KD:List D->Prop}{v v':V}(h0:v=v'):X1m n KD v=X1m n KD v':=by rw[h0]
@[congr] theorem appK_congr {E sz B:Nat}{ob:Objs}{xs:List D}{KO:V->Objs->Prop}{v v':V}(h0:v=v'):Xe1 E sz B ob xs KO v=Xe1 E sz B ob xs KO v':=by rw[h0]
@[congr] theorem appKo_congr {k E sz B n:Nat}{ob:Objs}{xs:List D}{KO:V->Objs->Prop}{v v':Option Ob}(h0:v=v'):Xe2 k E sz B n ob xs KO v=Xe2 k E sz B n ob xs KO v':=by rw[h0]
@[congr] theorem niloK_congr {E sz:Nat}{ob:Objs}{KO:V->Objs->Prop}{v v':V}(h0:v=v'):Xis E sz ob KO v=Xis E sz ob KO v':=by rw[h0]
@[congr] theorem srcSK_congr {KD:List D->Prop}{v v':V}(h0:v=v'):Xi1 KD v=Xi1 KD v':=by rw[h0]
@[congr] theorem pnilK_congr {e:Bool}{K:V->Prop}{v v':V}(h0:v=v'):Xp4 e K v=Xp4 e K v':=by rw[h0]
@[congr] theorem fnilK_congr {e:Bool}{K:V->Prop}{v v':V}(h0:v=v'):Xbs e K v=Xbs e K v':=by rw[h0]
@[congr] theorem peqK_congr {ob:Objs}{e:Bool}{K:V->Prop}{u u' v v':V}(h1:u=u')(h0:v=v'):Yek ob e K u v=Yek ob e K u' v':=by rw[h0,h1]
@[congr] theorem givK_congr {KO:V->Objs->Prop}{v v':Option (D×Objs)}(h0:v=v'):Xj9 KO v=Xj9 KO v':=by rw[h0]
@[congr] theorem givsK_congr {KO:List D->Objs->Prop}{v v':Option (List D×Objs)}(h0:v=v'):Vz KO v=Vz KO v':=by rw[h0]
@[congr] theorem gvO_congr {u:V}{ob:Objs}{KO:V->Objs->Prop}{v v':Option (D×Objs)}(h0:v=v'):gvO u ob KO v=gvO u ob KO v':=by rw[h0]
@[congr] theorem gvsK_congr {KL:List V->Objs->Prop}{u u':List V}{ob ob':Objs}(h0:u=u')(h1:ob=ob'):Xg6 u ob KL=Xg6 u' ob' KL:=by rw[h0,h1]
@[congr] theorem leaveK_congr {n:Nat}{K:Objs->Prop}{u u':List V}{ob ob':Objs}(h0:u=u')(h1:ob=ob'):X0 n K u ob=X0 n K u' ob':=by rw[h0,h1]
@[congr] theorem ldfK_congr {n:Nat}{b:Bool}{ob:Objs}{KO:V->Objs->Prop}{v v':V}(h0:v=v'):X4x n b ob KO v=X4x n b ob KO v':=by rw[h0]
@[congr] theorem ldfKo_congr {n:Nat}{b:Bool}{ob:Objs}{KO:V->Objs->Prop}{v v':Option V}(h0:v=v'):Xmz n b ob KO v=Xmz n b ob KO v':=by rw[h0]
@[congr] theorem mvgK_congr {ob:Objs}{E sz:Nat}{p:List Nat}{KO:V->Objs->Prop}{u u' v v':V}(h1:u=u')(h0:v=v'):Xl1 ob E sz p u KO v=Xl1 ob E sz p u' KO v':=by rw[h0,h1]
@[congr] theorem mvgKt_congr {ob:Objs}{k E sz:Nat}{p p':List Nat}{KO:V->Objs->Prop}{u:V}{v v':Option Ob}(h1:p=p')(h0:v=v'):Xe7 ob k p E sz u KO v=Xe7 ob k p' E sz u KO v':=by rw[h0,h1]
@[congr] theorem mvgKs_congr {ob:Objs}{k E0 E sz:Nat}{KO:V->Objs->Prop}{u:V}{v v':Option V}(h0:v=v'):Xks ob k E0 E sz u KO v=Xks ob k E0 E sz u KO v':=by rw[h0]
@[congr] theorem cvbK_congr {ob:Objs}{KO:V->Objs->Prop}{v v':V}(h0:v=v'):Xws ob KO v=Xws ob KO v':=by rw[h0]
@[congr] theorem cvbKo_congr {k n:Nat}{ob:Objs}{KO:V->Objs->Prop}{v v':Option Ob}(h0:v=v'):Xgt k n ob KO v=Xgt k n ob KO v':=by rw[h0]
@[congr] theorem usdK_congr {ob:Objs}{K:V->Prop}{v v':V}(h0:v=v'):Xuo ob K v=Xuo ob K v':=by rw[h0]
@[congr] theorem ustrK_congr {E:Nat}{ob:Objs}{KO:V->Objs->Prop}{u u' v v':V}(h1:u=u')(h0:v=v'):Xb7 E ob KO u v=Xb7 E ob KO u' v':=by rw[h0,h1]
@[congr] theorem ustrKo_congr {k n:Nat}{m:Int}{E:Nat}{ob:Objs}{KO:V->Objs->Prop}{v v':Option Ob}(h0:v=v'):Xbe k n m E ob KO v=Xbe k n m E ob KO v':=by rw[h0]
@[congr] theorem resK_congr {sl:Xb}{ob:Objs}{rs:List RV}{KL:List V->Prop}:Ub sl ob rs KL=Ub sl ob rs KL:=rfl
@[congr] theorem ACall_congr {P:Prg}{f:Nat}{vs vs':List V}{ob ob':Objs}{K:Out->Objs->Prop}(h:vs=vs')(h':ob=ob'):ACall P f vs ob K=ACall P f vs' ob' K:=by rw[h,h']
@[congr] theorem PCall_congr {P:Prg}{f:Nat}{vs vs':List V}{ob ob':Objs}{K:V->Prop}(h:vs=vs')(h':ob=ob'):PCall P f vs ob K=PCall P f vs' ob' K:=by rw[h,h']
@[congr] theorem ALoop_congr {keep:List Nat}{body:Uc->Xb->Objs->Prop}{Q:Uc}{sl sl':Xb}{ob ob':Objs}(h:sl=sl')(h':ob=ob'):ALoop keep body Q sl ob=ALoop keep body Q sl' ob':=by rw[h,h']

theorem ALoop.of {keep:List Nat}{body:Uc->Xb->Objs->Prop}{Q:Uc}{sl:Xb}{ob:Objs}{ι:Type}(S:ι->Xb)(O:ι->Objs)(I:ι->Prop)(μ:ι->Nat)(i0:ι)(h0:I i0)(hs:Xf sl keep=S i0)(ho:ob=O i0)
  (step:∀i,I i->body (Vs (sub keep (fresh (O i)) fun sl' ob'=>∃j,I j/\μ j<μ i/\sl'=S j/\ob'=O j) Q) (S i) (O i)):ALoop keep body Q sl ob:=
 ⟨⟨ι,S,O,I,μ,i0,h0,hs,ho,step⟩⟩

theorem ALoop.go {keep:List Nat}{body:Uc->Xb->Objs->Prop}{Q:Uc}{sl:Xb}{ob:Objs}{ι:Type}(S:ι->Xb)(O:ι->Objs)(I:ι->Prop)(μ:ι->Nat)(i0:ι)(h0:I i0)(hs:Xf sl keep=S i0)(ho:ob=O i0)
  (step:∀i,I i->∀R:Uc,(∀kp j sl' ob',I j->μ j<μ i->Xf sl' keep=S j->X1 (young (fresh (O i)) kp) ob'=O j->Qd (young (fresh (O i)) kp) (S j)=true->noMenO (young (fresh (O i)) kp) (O j)=true->R .normal sl' ob')->
   (∀n sl' ob',Q (.exit n) sl' ob'->R (.exit n) sl' ob')->(∀sl' ob',Q .ret sl' ob'->R .ret sl' ob')->(∀v sl' ob',Q (.panic v) sl' ob'->R (.panic v) sl' ob')->body R (S i) (O i)):ALoop keep body Q sl ob:=by
 refine ALoop.of S O I μ i0 h0 hs ho fun i hi=>step i hi _ (fun kp j sl' ob' h1 h2 h3 h4 h5 h6=>?_) (fun _ _ _ h=>h) (fun _ _ h=>h) (fun _ _ _ h=>h)
 simp only[Vs,sub]
 refine⟨kp,?_⟩
 rw[h3,h4]
 exact⟨h5,h6,j,h1,h2,rfl,rfl⟩
@[congr] theorem cwp_congr {P:Prg}{s:S}{Q:Uc}{sl sl':Xb}{ob ob':Objs}(h:sl=sl')(h':ob=ob'):cwp P s Q sl ob=cwp P s Q sl' ob':=by rw[h,h']
end Go.Ab
namespace Go.Ab
open Go

def Xei:V->V->V->V
 | .d (.bool t),.d (.bool x),.d (.bool y)=>.d (.bool (if t then x else y))
 | .d (.bool t),x,y=>if t then x else y
 | _,_,_=>.any
def Ydj:V->V
 | .d (.bool b)=>.d (.bool (!b))
 | _=>.any
def Yp8:V->V
 | .d (.int k n)=>.d (.int k (k.wrap (0-n)))
 | _=>.any
def Ymt:V->V
 | .d (.int k n)=>.d (.int k (Z2 .xor k (if k.signed then -1 else k.max) n))
 | _=>.any
def mxV:V->V->V
 | .d (.int k a),.d (.int _ b)=>.d (.int k (if b > a then b else a))
 | _,_=>.any
def Xci (op:BinOp)(k:IntKind)(a b:Int):V:=
 match op with
 | .add=>.d (.int k (k.wrap (a+b)))
 | .sub=>.d (.int k (k.wrap (a-b)))
 | .mul=>.d (.int k (k.wrap (a*b)))
 | .quo=>.d (.int k (k.wrap (a.tdiv b)))
 | .rem=>.d (.int k (a.tmod b))
 | .and | .or | .xor | .andNot=>.d (.int k (Z2 op k a b))
 | .shl=>.d (.int k (k.wrap (a*2 ^ (min b.toNat k.bits))))
 | .shr=>.d (.int k (a.fdiv (2 ^ (min b.toNat k.bits))))
 | .eql=>.d (.bool (a==b))
 | .neq=>.d (.bool (a != b))
 | .lss=>.d (.bool (decide (a<b)))
 | .leq=>.d (.bool (decide (a<=b)))
 | .gtr=>.d (.bool (decide (b<a)))
 | .geq=>.d (.bool (decide (b<=a)))
def X87 (op:BinOp)(x y:List UInt8):V:=
 match op with
 | .add=>.d (.str (x++y))
 | .eql=>.d (.bool (x==y))
 | .neq=>.d (.bool (x != y))
 | .lss=>.d (.bool (Op.bytesLess x y))
 | .leq=>.d (.bool (Op.bytesLess x y||x==y))
 | .gtr=>.d (.bool (!(Op.bytesLess x y||x==y)))
 | .geq=>.d (.bool (!Op.bytesLess x y))
 | _=>.any
def Ya7 (op:BinOp):V->V->V
 | .d (.int k a),.d (.int _ b)=>Xci op k a b
 | .d (.str x),.d (.str y)=>X87 op x y
 | _,_=>.any
def Ymp (e:Bool):V->V->V
 | .d (.bool x),.d (.bool y)=>.d (.bool ((x==y)==e))
 | _,_=>.any
def Xas (e:Bool):V->V
 | .d .nili=>.d (.bool e)
 | .iface _ _=>.d (.bool (!e))
 | .d (.iface _ _)=>.d (.bool (!e))
 | _=>.any
def Ydr (e:Bool):V->V
 | .d .nilp=>.d (.bool e)
 | .d (.ref _)=>.d (.bool (!e))
 | .ptr _ _=>.d (.bool (!e))
 | _=>.any
def Xg1 (e:Bool):V->V
 | .d .nilf=>.d (.bool e)
 | .d (.fn _ _ _)=>.d (.bool (!e))
 | .fn _ _ _=>.d (.bool (!e))
 | _=>.any
def Yd6:V->V
 | .sl id n=>.sd id n
 | .d .nils=>.d .nilp
 | _=>.any
def Ybt (k:IntKind):V->V
 | .d (.int _ n)=>.d (.int k (k.wrap n))
 | _=>.any
def Ymu:V->V
 | .d (.str s)=>.d (.str s)
 | _=>.any
def Yf4:V->V->V
 | .d (.str s),.d (.int _ n)=>.d (.int .u8 (s.getD n.toNat 0).toNat)
 | _,_=>.any
def Xkf (z:Nat):V->V->V
 | .d (.list _ xs),.d (.int _ n)=>.d (.ref (xs.getD n.toNat default))
 | .sl id n,.d (.int _ m)=>.ep id n z m.toNat 0 []
 | .bs id p lo _,.d (.int _ m)=>.ptr id (p++[lo+m.toNat])
 | _,_=>.any
def Xg8:V->V->V
 | .ptr id p,.d (.int _ n)=>.ptr id (p++[n.toNat])
 | .d (.ref (.agg xs)),.d (.int _ n)=>.d (.ref (xs.getD n.toNat default))
 | _,_=>.any
def Yq (f fo:Nat):V->V
 | .ptr id p=>.ptr id (p++[f])
 | .ep id n z i g p=>.ep id n z i (g+fo) (p++[f])
 | .d (.ref (.agg xs))=>.d (.ref (xs.getD f default))
 | _=>.any
def Yee (f:Nat):Option (List V)->V
 | some ks=>ks.getD f .any
 | none=>.any
def X6p:Option V->V
 | some v=>v
 | none=>.any
def ldV (ob:Objs):V->V
 | .ptr id p=>X6p (atO ob id p)
 | .d (.ref x)=>.d x
 | .ep id m z i f p=>X6p (atE ob id m z i f p)
 | _=>.any
def Xm0:V->V
 | .d (.str s)=>.d (.int .i64 s.length)
 | _=>.any
def Xd5:V->V
 | .d (.list _ xs)=>.d (.int .i64 xs.length)
 | .d .nils=>.d (.int .i64 0)
 | .sl _ n=>.d (.int .i64 n)
 | .bs _ _ _ n=>.d (.int .i64 n)
 | _=>.any
def X11 (len:Nat)(K:Nat->Nat->V):Option V->Option V->V
 | none,none=>K 0 len
 | some (.d (.int _ l)),none=>K l.toNat len
 | none,some (.d (.int _ h))=>K 0 h.toNat
 | some (.d (.int _ l)),some (.d (.int _ h))=>K l.toNat h.toNat
 | _,_=>.any
def Xbb (lo hi:Option V):V->V
 | .d (.str s)=>X11 s.length (fun l h=>.d (.str ((s.take h).drop l))) lo hi
 | _=>.any
def Xt9 (lo hi:Option V):V->V
 | .d (.list sz xs)=>X11 xs.length (fun l h=>.d (.list sz ((xs.take h).drop l))) lo hi
 | _=>.any
def Yed (i:Nat):V->V
 | .tup xs=>xs.getD i .any
 | _=>.any
def X89 (t:Nat)(z:D):V->V
 | .iface t' v=>if t'=t then .tup [v,.d (.bool true)] else .tup [.d z,.d (.bool false)]
 | .d (.iface t' x)=>if t'=t then .tup [.d x,.d (.bool true)] else .tup [.d z,.d (.bool false)]
 | .d .nili=>.tup [.d z,.d (.bool false)]
 | _=>.any

def Yeb (e:Bool):V->V->V
 | .d x,.d y=>.d (.bool (D.eqb x y==e))
 | _,_=>.any
def Xtv:V->V->V
 | .d (.agg xs),.d (.int _ n)=>.d (xs.getD n.toNat default)
 | _,_=>.any

def C.val (sl:Xb)(ob:Objs):C->V
 | .mv x=>x.ev sl
 | .pick c a b=>Xei (c.ev sl) (a.ev sl) (b.ev sl)
 | .not x=>Ydj (x.ev sl)
 | .neg x=>Yp8 (x.ev sl)
 | .cpl x=>Ymt (x.ev sl)
 | .mx x y=>mxV (x.ev sl) (y.ev sl)
 | .bin op x y=>Ya7 op (x.ev sl) (y.ev sl)
 | .beq e x y=>Ymp e (x.ev sl) (y.ev sl)
 | .isnil e x=>Xas e (x.ev sl)
 | .pnil e x=>Ydr e (x.ev sl)
 | .fnil e x=>Xg1 e (x.ev sl)
 | .peq e _ _=>.d (.bool e)
 | .usd x=>Yd6 (x.ev sl)
 | .cvi k x=>Ybt k (x.ev sl)
 | .cvs x=>Ymu (x.ev sl)
 | .idx x i=>Yf4 (x.ev sl) (i.ev sl)
 | .idxA z x i=>Xkf z (x.ev sl) (i.ev sl)
 | .idxP _ _ x i=>Xg8 (x.ev sl) (i.ev sl)
 | .fldA f fo x=>Yq f fo (x.ev sl)
 | .fld f _ _ _ x=>Yee f (x.ev sl).kids
 | .ld _ _ x=>ldV ob (x.ev sl)
 | .nilc x=>x.ev sl
 | .lenS x=>Xm0 (x.ev sl)
 | .lenL x=>Xd5 (x.ev sl)
 | .lenA n=>.d (.int .i64 n)
 | .slcS x lo hi=>Xbb (lo.map (A.ev sl)) (hi.map (A.ev sl)) (x.ev sl)
 | .slcL _ x lo hi=>Xt9 (lo.map (A.ev sl)) (hi.map (A.ev sl)) (x.ev sl)
 | .ext x i=>Yed i (x.ev sl)
 | .bld _ _=>.any
 | .mkf f first cap=>X6v f (first.map (A.ev sl)) (cap.map (A.ev sl))
 | .mki t x=>X46 t (x.ev sl)
 | .tas t z x=>X89 t z (x.ev sl)
 | .eqD _ e x y=>Yeb e (x.ev sl) (y.ev sl)
 | .aix _ _ _ x i=>Xtv (x.ev sl) (i.ev sl)

def C.ok (sl:Xb)(ob:Objs)(c:C):Prop:=c.wp sl ob fun v=>v=c.val sl ob

theorem Xxn {op:BinOp}{k k':IntKind}{a b:Int}{K K':V->Prop}(hk:∀v,K v->K' v)(h:Xrw op k k' a b K):Xrw op k k' a b K':=by
 cases op<;>simp only[Xrw]at h⊢<;>first | exact⟨h.1,hk _ h.2⟩ | exact⟨h.1,h.2.1,hk _ h.2.2⟩
theorem X1q {op:BinOp}{a b:List UInt8}{K K':V->Prop}(hk:∀v,K v->K' v)(h:Xux op a b K):Xux op a b K':=by
 cases op<;>simp only[Xux]at h⊢<;>first | exact hk _ h | exact⟨h.1,hk _ h.2⟩ | exact h.elim
theorem Xdr {n:Nat}{K K':Nat->Nat->Prop}(hk:∀l h,K l h->K' l h){lo hi:Option V}(h:Xad n K lo hi):Xad n K' lo hi:=by
 unfold Xad at h⊢
 split<;>simp_all
theorem Qq {K K':List V->Prop}(hk:∀l,K l->K' l):∀(ps:List (Nat×V)) (ks:List V),J9 ks ps K->J9 ks ps K'
 | [],_,h=>hk _ h
 | (_,_)::r,_,h=>⟨h.1,h.2.1,h.2.2.1,Qq hk r _ h.2.2.2⟩
theorem C.wp_mono {sl:Xb}{ob:Objs}{K K':V->Prop}(hk:∀v,K v->K' v)(c:C)(h:c.wp sl ob K):c.wp sl ob K':=by
 cases c<;>simp only[C.wp]at h⊢
 case mv=>exact hk _ h
 case lenA=>exact hk _ h
 case mkf=>exact hk _ h
 case mki=>exact hk _ h
 case bld=>exact Qq (fun _=>hk _) _ _ h
 case bin x y=>
  generalize A.ev sl x=v at h⊢; generalize A.ev sl y=u at h⊢
  unfold Xrj at h; split at h
  ·exact Xxn hk h
  ·exact X1q hk h
  ·exact h.elim
 case slcS x lo hi=>
  generalize A.ev sl x=v at h⊢
  unfold Xfc at h; split at h
  ·exact Xdr (fun _ _=>hk _) h
  ·exact h.elim
 case slcL x lo hi=>
  generalize A.ev sl x=v at h⊢
  unfold Xfb at h; split at h
  ·exact⟨h.1,Xdr (fun _ _=>hk _) h.2⟩
  ·exact h.elim
 case pick x y z=>
  generalize A.ev sl x=v at h⊢; generalize A.ev sl y=u at h⊢; generalize A.ev sl z=t at h⊢
  unfold Xb0 at h; split at h
  ·exact hk _ h
  ·rename_i hn; simp only[Xb0]; exact⟨fun e=>hk _ (h.1 e),fun e=>hk _ (h.2 e)⟩
  ·exact h.elim
 case fld x=>
  generalize (A.ev sl x).kids=v at h⊢
  unfold X13 at h; split at h
  ·exact⟨h.1,h.2.1,h.2.2.1,h.2.2.2.1,hk _ h.2.2.2.2⟩
  ·exact h.elim
 case fldA x=>
  generalize A.ev sl x=v at h⊢
  unfold Vy at h; split at h
  ·simp only[Vy]
   generalize Zq _=v at h⊢
   unfold W9 at h; split at h
   ·exact⟨h.1,h.2.1,hk _ h.2.2⟩
   ·exact h.elim
  ·exact⟨h.1,h.2.1,hk _ h.2.2⟩
  ·exact hk _ h
  ·exact h.elim
 case ld x=>
  generalize A.ev sl x=v at h⊢
  unfold ldK at h; split at h
  ·simp only[ldK]
   generalize atO _ _ _=v at h⊢
   unfold Xc5 at h; split at h
   ·exact⟨h.1,h.2.1,hk _ h.2.2⟩
   ·exact h.elim
  ·exact⟨h.1,h.2.1,hk _ h.2.2⟩
  ·simp only[ldK]
   generalize atE _ _ _ _ _ _ _=v at h⊢
   unfold Xc5 at h; split at h
   ·exact⟨h.1,h.2.1,hk _ h.2.2⟩
   ·exact h.elim
  ·exact h.elim
 case tas x=>
  generalize A.ev sl x=v at h⊢
  unfold X5s at h; split at h
  ·exact⟨fun e=>hk _ (h.1 e),fun e=>hk _ (h.2 e)⟩
  ·exact⟨fun e=>hk _ (h.1 e),fun e=>hk _ (h.2 e)⟩
  ·exact hk _ h
  ·exact h.elim
 case pnil x=>generalize A.ev sl x=v at h⊢; unfold Xp4 at h; split at h<;>first | exact hk _ h | exact h.elim
 case fnil x=>generalize A.ev sl x=v at h⊢; unfold Xbs at h; split at h<;>first | exact hk _ h | exact h.elim
 case usd x=>generalize A.ev sl x=v at h⊢; unfold Xuo at h; split at h<;>first | exact⟨h.1,hk _ h.2⟩ | exact hk _ h | exact h.elim
 case peq x y=>generalize A.ev sl x=v at h⊢; generalize A.ev sl y=u at h⊢; unfold Yek at h; split at h<;>first | exact⟨h.1,h.2.1,h.2.2.1,hk _ h.2.2.2⟩ | exact h.elim
 case not x=>generalize A.ev sl x=v at h⊢; unfold Xz3 at h; split at h<;>first | exact hk _ h | exact h.elim
 case cpl x=>generalize A.ev sl x=v at h⊢; unfold Ybs at h; split at h<;>first | exact hk _ h | exact h.elim
 case mx x y=>generalize A.ev sl x=v at h⊢; generalize A.ev sl y=u at h⊢; unfold mxK at h; split at h<;>first | exact hk _ h | exact h.elim
 case neg x=>generalize A.ev sl x=v at h⊢; unfold Ydi at h; split at h<;>first | exact hk _ h | exact h.elim
 case isnil x=>generalize A.ev sl x=v at h⊢; unfold Ul at h; split at h<;>first | exact hk _ h | exact h.elim
 case cvi x=>generalize A.ev sl x=v at h⊢; unfold Xwt at h; split at h<;>first | exact hk _ h | exact h.elim
 case cvs x=>generalize A.ev sl x=v at h⊢; unfold Ybu at h; split at h<;>first | exact hk _ h | exact h.elim
 case nilc x=>generalize A.ev sl x=v at h⊢; unfold Qm at h; split at h<;>first | exact hk _ h | exact h.elim
 case lenS x=>generalize A.ev sl x=v at h⊢; unfold Xd6 at h; split at h<;>first | exact hk _ h | exact h.elim
 case lenL x=>generalize A.ev sl x=v at h⊢; unfold Xav at h; split at h<;>first | exact hk _ h | exact⟨h.1,hk _ h.2⟩ | exact h.elim
 case ext x _=>generalize A.ev sl x=v at h⊢; unfold Xl0 at h; split at h<;>first | exact⟨h.1,hk _ h.2⟩ | exact h.elim
 case eqD x y=>generalize A.ev sl x=v at h⊢; generalize A.ev sl y=u at h⊢; unfold Yft at h; split at h<;>first | exact⟨h.1,h.2.1,hk _ h.2.2⟩ | exact h.elim
 case aix x y=>generalize A.ev sl x=v at h⊢; generalize A.ev sl y=u at h⊢; unfold Xmx at h; split at h<;>first | exact⟨h.1,h.2.1,h.2.2.1,hk _ h.2.2.2⟩ | exact h.elim
 case beq x y=>generalize A.ev sl x=v at h⊢; generalize A.ev sl y=u at h⊢; unfold Ya5 at h; split at h<;>first | exact hk _ h | exact h.elim
 case idx x y=>generalize A.ev sl x=v at h⊢; generalize A.ev sl y=u at h⊢; unfold X16 at h; split at h<;>first | exact⟨h.1,hk _ h.2⟩ | exact h.elim
 case idxA x y=>generalize A.ev sl x=v at h⊢; generalize A.ev sl y=u at h⊢; unfold J2 at h; split at h<;>first | exact⟨h.1,h.2.1,hk _ h.2.2⟩ | exact h.elim
 case idxP x y=>generalize A.ev sl x=v at h⊢; generalize A.ev sl y=u at h⊢; unfold Xcq at h; split at h<;>first | exact⟨h.1,h.2.1,hk _ h.2.2⟩ | exact⟨h.1,h.2.1,h.2.2.1,hk _ h.2.2.2⟩ | exact h.elim
theorem C.wp_of {sl:Xb}{ob:Objs}{K:V->Prop}{c:C}(h:c.ok sl ob)(hK:K (c.val sl ob)):c.wp sl ob K:=
 C.wp_mono (fun _ e=>e▸hK) c h
end Go.Ab
namespace Go.Ab
open Go

inductive E where
 | a (x:A)
 | u (c:C) (x:E)
 | b (c:C) (x y:E)
 | t (c:C) (x y z:E)
 | ite (c x y:E)
 | call (f:Nat) (x:E)
 | nil
 | cons (x r:E)

structure Fn where
 pre:List V->Prop
 val:List V->V
abbrev Tab:=List (Nat×Fn)
def Xax:Tab->Nat->Option Fn
 | [],_=>none
 | (j,x)::r,k=>if j=k then some x else Xax r k
def TOk (P:Prg)(T:Tab):Prop:=∀f F,Xax T f=some F->∀vs,F.pre vs->∀(ob:Objs) (K:V->Prop),K (F.val vs)->PCall P f vs ob K

def isB (pol:Bool):V->Bool
 | .d (.bool b)=>b==pol
 | _=>false
def Xds:V->Prop
 | .d (.bool _)=>True
 | _=>False
def Xwr (x:V):V->V
 | .tup xs=>.tup (x::xs)
 | _=>.any
def X3e:Option Fn->V->V
 | some F,.tup vs=>F.val vs
 | _,_=>.any
def X3d:Option Fn->V->Prop
 | some F,.tup vs=>F.pre vs
 | _,_=>False

def E.val (T:Tab)(sl:Xb)(ob:Objs):E->V
 | .a x=>x.ev sl
 | .u c x=>c.val [(0,x.val T sl ob)] ob
 | .b c x y=>c.val [(0,x.val T sl ob),(1,y.val T sl ob)] ob
 | .t c x y z=>c.val [(0,x.val T sl ob),(1,y.val T sl ob),(2,z.val T sl ob)] ob
 | .ite c x y=>Xei (c.val T sl ob) (x.val T sl ob) (y.val T sl ob)
 | .call f x=>X3e (Xax T f) (x.val T sl ob)
 | .nil=>.tup []
 | .cons x r=>Xwr (x.val T sl ob) (r.val T sl ob)
def E.ok (T:Tab)(sl:Xb)(ob:Objs):E->Prop
 | .a _=>True
 | .u c x=>x.ok T sl ob/\c.ok [(0,x.val T sl ob)] ob
 | .b c x y=>x.ok T sl ob/\y.ok T sl ob/\c.ok [(0,x.val T sl ob),(1,y.val T sl ob)] ob
 | .t c x y z=>x.ok T sl ob/\y.ok T sl ob/\z.ok T sl ob/\c.ok [(0,x.val T sl ob),(1,y.val T sl ob),(2,z.val T sl ob)] ob
 | .ite c x y=>c.ok T sl ob/\Xds (c.val T sl ob)/\(isB true (c.val T sl ob)=true->x.ok T sl ob)/\(isB false (c.val T sl ob)=true->y.ok T sl ob)
 | .call f x=>x.ok T sl ob/\X3d (Xax T f) (x.val T sl ob)
 | .nil=>True
 | .cons x r=>x.ok T sl ob/\r.ok T sl ob

def A.men (k:Nat):A->Bool
 | .t j=>j==k
 | _=>false
def E.men (k:Nat):E->Bool
 | .a x=>x.men k
 | .u _ x=>x.men k
 | .b _ x y=>x.men k||y.men k
 | .t _ x y z=>x.men k||y.men k||z.men k
 | .ite x y z=>x.men k||y.men k||z.men k
 | .call _ x=>x.men k
 | .nil=>false
 | .cons x y=>x.men k||y.men k
def C.rd:C->Bool
 | .ld _ _ _=>true
 | _=>false
def E.rd:E->Bool
 | .a _=>false
 | .u c x=>c.rd||x.rd
 | .b c x y=>c.rd||x.rd||y.rd
 | .t c x y z=>c.rd||x.rd||y.rd||z.rd
 | .ite x y z=>x.rd||y.rd||z.rd
 | .call _ x=>x.rd
 | .nil=>false
 | .cons x y=>x.rd||y.rd
def E.isA:E->Bool
 | .a _=>true
 | _=>false

theorem E.val_sl {T:Tab}{sl:Xb}{ob:Objs}{k:Nat}{v:V}:∀{e:E},e.men k=false->e.val T ((k,v)::sl) ob=e.val T sl ob
 | .a x,h=>by
  cases x<;>simp only[E.val,A.ev]
  rename_i j
  simp only[E.men,A.men,beq_eq_false_iff_ne,ne_eq]at h
  have h':¬k=j:=fun e=>h e.symm
  simp[look,h']
 | .u c x,h=>by simp only[E.men]at h; simp only[E.val,E.val_sl h]
 | .b c x y,h=>by simp only[E.men,Bool.or_eq_false_iff]at h; simp only[E.val,E.val_sl h.1,E.val_sl h.2]
 | .t c x y z,h=>by simp only[E.men,Bool.or_eq_false_iff]at h; simp only[E.val,E.val_sl h.1.1,E.val_sl h.1.2,E.val_sl h.2]
 | .ite x y z,h=>by simp only[E.men,Bool.or_eq_false_iff]at h; simp only[E.val,E.val_sl h.1.1,E.val_sl h.1.2,E.val_sl h.2]
 | .call f x,h=>by simp only[E.men]at h; simp only[E.val,E.val_sl h]
 | .nil,_=>rfl
 | .cons x y,h=>by simp only[E.men,Bool.or_eq_false_iff]at h; simp only[E.val,E.val_sl h.1,E.val_sl h.2]
theorem C.val_ob {sl:Xb}{ob ob':Objs}{c:C}(h:c.rd=false):c.val sl ob=c.val sl ob':=by
 cases c<;>simp_all[C.rd,C.val]
theorem E.val_ob {T:Tab}{sl:Xb}{ob ob':Objs}:∀{e:E},e.rd=false->e.val T sl ob=e.val T sl ob'
 | .a x,h=>rfl
 | .u c x,h=>by simp only[E.rd,Bool.or_eq_false_iff]at h; simp only[E.val,E.val_ob (ob':=ob') h.2,C.val_ob (ob':=ob') h.1]
 | .b c x y,h=>by simp only[E.rd,Bool.or_eq_false_iff]at h; simp only[E.val,E.val_ob (ob':=ob') h.1.2,E.val_ob (ob':=ob') h.2,C.val_ob (ob':=ob') h.1.1]
 | .t c x y z,h=>by simp only[E.rd,Bool.or_eq_false_iff]at h; simp only[E.val,E.val_ob (ob':=ob') h.1.1.2,E.val_ob (ob':=ob') h.1.2,E.val_ob (ob':=ob') h.2,C.val_ob (ob':=ob') h.1.1.1]
 | .ite x y z,h=>by simp only[E.rd,Bool.or_eq_false_iff]at h; simp only[E.val,E.val_ob (ob':=ob') h.1.1,E.val_ob (ob':=ob') h.1.2,E.val_ob (ob':=ob') h.2]
 | .call f x,h=>by simp only[E.rd]at h; simp only[E.val,E.val_ob (ob':=ob') h]
 | .nil,_=>rfl
 | .cons x y,h=>by simp only[E.rd,Bool.or_eq_false_iff]at h; simp only[E.val,E.val_ob (ob':=ob') h.1,E.val_ob (ob':=ob') h.2]


abbrev Qj:=List (Nat×Bool)
abbrev Sg:=List (Nat×Option (Qj×E))
def W5:Sg->Nat->Option (Option (Qj×E))
 | [],_=>none
 | (j,x)::r,k=>if j=k then some x else W5 r k
def ent (σ:Sg)(k:Nat):Option (Qj×E):=match W5 σ k with
 | none=>some ([],.a (.t k))
 | some x=>x
def Xr (sl:Xb)(p:Qj):Bool:=p.all fun g=>isB g.2 (look sl g.1)
def Z4 (T:Tab)(sl:Xb)(ob:Objs)(p:List (E×Bool)):Bool:=p.all fun g=>isB g.2 (g.1.val T sl ob)
def Inv (T:Tab)(σ:Sg)(sl sl0:Xb)(ob:Objs):Prop:=∀k p e,ent σ k=some (p,e)->
 (Xr sl p=true->look sl k=e.val T sl0 ob)/\(Xr sl p=false->look sl k=.undef)

def opE (σ:Sg)(p:Qj):A->Option E
 | .t k=>match ent σ k with
  | some (q,e)=>if q.isPrefixOf p then some e else none
  | none=>none
 | x=>some (.a x)
def Ve (σ:Sg)(p:Qj)(c:C)(x:A):Option E:=match opE σ p x with
 | some x=>some (.u c x)
 | none=>none
def Qy (σ:Sg)(p:Qj)(c:C)(x y:A):Option E:=match opE σ p x,opE σ p y with
 | some x,some y=>some (.b c x y)
 | _,_=>none
def Xt1 (σ:Sg)(p:Qj)(c:C)(x y z:A):Option E:=match opE σ p x,opE σ p y,opE σ p z with
 | some x,some y,some z=>some (.t c x y z)
 | _,_,_=>none
def Ydo (σ:Sg)(p:Qj)(g:Nat)(x y:A):Option E:=match opE σ p (.t g),opE σ (p++[(g,true)]) x,opE σ (p++[(g,false)]) y with
 | some c,some x,some y=>some (.ite c x y)
 | _,_,_=>none
def Xmf (σ:Sg)(p:Qj):List A->Option E
 | []=>some .nil
 | x::r=>match opE σ p x,Xmf σ p r with
  | some x,some r=>some (.cons x r)
  | _,_=>none

def C.lift (σ:Sg)(p:Qj):C->Option E
 | .mv x=>opE σ p x
 | .pick (.t g) x y=>Ydo σ p g x y
 | .pick _ _ _=>none
 | .not x=>Ve σ p (.not (.t 0)) x
 | .neg x=>Ve σ p (.neg (.t 0)) x
 | .cpl x=>Ve σ p (.cpl (.t 0)) x
 | .mx x y=>Qy σ p (.mx (.t 0) (.t 1)) x y
 | .bin o x y=>Qy σ p (.bin o (.t 0) (.t 1)) x y
 | .beq e x y=>Qy σ p (.beq e (.t 0) (.t 1)) x y
 | .isnil e x=>Ve σ p (.isnil e (.t 0)) x
 | .pnil e x=>Ve σ p (.pnil e (.t 0)) x
 | .fnil e x=>Ve σ p (.fnil e (.t 0)) x
 | .peq e x y=>Qy σ p (.peq e (.t 0) (.t 1)) x y
 | .usd x=>Ve σ p (.usd (.t 0)) x
 | .cvi k x=>Ve σ p (.cvi k (.t 0)) x
 | .cvs x=>Ve σ p (.cvs (.t 0)) x
 | .idx x i=>Qy σ p (.idx (.t 0) (.t 1)) x i
 | .idxA z x i=>Qy σ p (.idxA z (.t 0) (.t 1)) x i
 | .idxP n z x i=>Qy σ p (.idxP n z (.t 0) (.t 1)) x i
 | .fldA f fo x=>Ve σ p (.fldA f fo (.t 0)) x
 | .fld f fo n ag x=>Ve σ p (.fld f fo n ag (.t 0)) x
 | .ld n ag x=>Ve σ p (.ld n ag (.t 0)) x
 | .nilc x=>Ve σ p (.nilc (.t 0)) x
 | .lenS x=>Ve σ p (.lenS (.t 0)) x
 | .lenL x=>Ve σ p (.lenL (.t 0)) x
 | .lenA n=>some (.a (.int .i64 n))
 | .slcS x none none=>Ve σ p (.slcS (.t 0) none none) x
 | .slcS x (some l) none=>Qy σ p (.slcS (.t 0) (some (.t 1)) none) x l
 | .slcS x none (some h)=>Qy σ p (.slcS (.t 0) none (some (.t 1))) x h
 | .slcS x (some l) (some h)=>Xt1 σ p (.slcS (.t 0) (some (.t 1)) (some (.t 2))) x l h
 | .slcL z x none none=>Ve σ p (.slcL z (.t 0) none none) x
 | .slcL z x (some l) none=>Qy σ p (.slcL z (.t 0) (some (.t 1)) none) x l
 | .slcL z x none (some h)=>Qy σ p (.slcL z (.t 0) none (some (.t 1))) x h
 | .slcL z x (some l) (some h)=>Xt1 σ p (.slcL z (.t 0) (some (.t 1)) (some (.t 2))) x l h
 | .ext x i=>Ve σ p (.ext (.t 0) i) x
 | .mki t x=>Ve σ p (.mki t (.t 0)) x
 | .tas t z x=>Ve σ p (.tas t z (.t 0)) x
 | .eqD ty e x y=>Qy σ p (.eqD ty e (.t 0) (.t 1)) x y
 | .aix n z ag x i=>Qy σ p (.aix n z ag (.t 0) (.t 1)) x i
 | .bld _ _=>none
 | .mkf _ _ _=>none
def I.lift (fs:List Nat)(σ:Sg)(p:Qj):I->Option E
 | .c x=>x.lift σ p
 | .pcall f args=>if fs.contains f then (match Xmf σ p args with | some e=>some (.call f e) | none=>none) else none
 | _=>none

def Xew (σ:Sg)(p:Qj):A->List Nat
 | .t k=>match ent σ k with
  | some (q,_)=>if q==p then[k] else[]
  | none=>[]
 | _=>[]
def Ykr (σ:Sg)(p:Qj):List A->List Nat
 | []=>[]
 | x::r=>Xew σ p x++Ykr σ p r
def C.cons (σ:Sg)(p:Qj):C->List Nat
 | .mv x | .not x | .neg x | .cpl x | .isnil _ x | .pnil _ x | .fnil _ x | .usd x | .cvi _ x | .cvs x | .fldA _ _ x | .fld _ _ _ _ x | .ld _ _ x | .nilc x | .lenS x | .lenL x | .ext x _ | .mki _ x | .tas _ _ x=>Xew σ p x
 | .bin _ x y | .mx x y | .beq _ x y | .peq _ x y | .idx x y | .idxA _ x y | .idxP _ _ x y | .eqD _ _ x y | .aix _ _ _ x y=>Xew σ p x++Xew σ p y
 | .slcS x none none | .slcL _ x none none=>Xew σ p x
 | .slcS x (some y) none | .slcL _ x (some y) none | .slcS x none (some y) | .slcL _ x none (some y)=>Xew σ p x++Xew σ p y
 | .slcS x (some y) (some z) | .slcL _ x (some y) (some z)=>Xew σ p x++Xew σ p y++Xew σ p z
 | .pick (.t g) x y=>Xew σ p (.t g)++Xew σ (p++[(g,true)]) x++Xew σ (p++[(g,false)]) y
 | _=>[]
def I.cons (σ:Sg)(p:Qj):I->List Nat
 | .c x=>x.cons σ p
 | .pcall _ args=>Ykr σ p args
 | _=>[]
def I.gcons (σ:Sg)(p:Qj):I->List Nat
 | .c (.pick (.t g) _ _)=>Xew σ p (.t g)
 | _=>[]

section
variable {P:Prg} {T:Tab} {σ:Sg} {sl sl0:Xb} {ob:Objs} {p:Qj}

theorem Xch {q:Qj}(h:q.isPrefixOf p=true)(hp:Xr sl p=true):Xr sl q=true:=by
 rw[List.isPrefixOf_iff_prefix]at h
 obtain⟨t,rfl⟩:=h
 simp only[Xr,List.all_append,Bool.and_eq_true]at hp⊢
 exact hp.1
theorem Wk (hI:Inv T σ sl sl0 ob)(hp:Xr sl p=true){x:A}{e:E}(h:opE σ p x=some e):e.val T sl0 ob=x.ev sl:=by
 cases x with
 | t k=>
  simp only[opE]at h
  split at h
  ·rename_i q e' he
   split at h
   ·rename_i hq
    cases h
    exact ((hI k q e he).1 (Xch hq hp)).symm
   ·cases h
  ·cases h
 | _=>simp only[opE]at h; cases h; rfl
theorem Xr3 {c:C}{x:A}{e:E}(h:Ve σ p c x=some e):∃ex,e=.u c ex/\opE σ p x=some ex:=by
 unfold Ve at h; split at h
 ·cases h; exact⟨_,rfl,by assumption⟩
 ·cases h
theorem Xr4 {c:C}{x y:A}{e:E}(h:Qy σ p c x y=some e):∃ex ey,e=.b c ex ey/\opE σ p x=some ex/\opE σ p y=some ey:=by
 unfold Qy at h; split at h
 ·cases h; exact⟨_,_,rfl,by assumption,by assumption⟩
 ·cases h
theorem Xr5 {c:C}{x y z:A}{e:E}(h:Xt1 σ p c x y z=some e):∃ex ey ez,e=.t c ex ey ez/\opE σ p x=some ex/\opE σ p y=some ey/\opE σ p z=some ez:=by
 unfold Xt1 at h; split at h
 ·cases h; exact⟨_,_,_,rfl,by assumption,by assumption,by assumption⟩
 ·cases h
theorem Xiv {g:Nat}{x y:A}{e:E}(h:Ydo σ p g x y=some e):∃ec ex ey,e=.ite ec ex ey/\opE σ p (.t g)=some ec/\opE σ (p++[(g,true)]) x=some ex/\opE σ (p++[(g,false)]) y=some ey:=by
 unfold Ydo at h; split at h
 ·cases h; exact⟨_,_,_,rfl,by assumption,by assumption,by assumption⟩
 ·cases h
theorem Xjo (hI:Inv T σ sl sl0 ob)(hp:Xr sl p=true):∀{xs:List A} {e:E},Xmf σ p xs=some e->e.val T sl0 ob=.tup (xs.map (A.ev sl))
 | [],e,h=>by simp only[Xmf]at h; cases h; rfl
 | x::r,e,h=>by
  simp only[Xmf]at h
  split at h
  ·rename_i ex er hx hr
   cases h
   simp only[E.val,Wk hI hp hx,Xjo hI hp hr,Xwr,List.map_cons]
  ·cases h
theorem X0e (x y:V):Xei (.d (.bool true)) x y=x:=by unfold Xei; split<;>simp_all
theorem X0c (x y:V):Xei (.d (.bool false)) x y=y:=by unfold Xei; split<;>simp_all
theorem X0d {v:V}(h:¬Xds v)(x y:V):Xei v x y=.any:=by unfold Xei; split<;>simp_all[Xds]
theorem Xgm {v:V}(h:Xds v):v=.d (.bool true)\/v=.d (.bool false):=by
 unfold Xds at h; split at h
 ·rename_i b; cases b<;>simp
 ·exact h.elim

theorem C.lift_sound (hI:Inv T σ sl sl0 ob)(hp:Xr sl p=true){c:C}{e:E}(h:c.lift σ p=some e):e.val T sl0 ob=c.val sl ob/\(e.ok T sl0 ob->c.ok sl ob):=by
 have l1:∀{c x},Ve σ p c x=some e->∃ex,e=.u c ex/\ex.val T sl0 ob=x.ev sl:=fun h=>by
  obtain⟨ex,rfl,hx⟩:=Xr3 h; exact⟨ex,rfl,Wk hI hp hx⟩
 have l2:∀{c x y},Qy σ p c x y=some e->∃ex ey,e=.b c ex ey/\ex.val T sl0 ob=x.ev sl/\ey.val T sl0 ob=y.ev sl:=fun h=>by
  obtain⟨ex,ey,rfl,hx,hy⟩:=Xr4 h; exact⟨ex,ey,rfl,Wk hI hp hx,Wk hI hp hy⟩
 have l3:∀{c x y z},Xt1 σ p c x y z=some e->∃ex ey ez,e=.t c ex ey ez/\ex.val T sl0 ob=x.ev sl/\ey.val T sl0 ob=y.ev sl/\ez.val T sl0 ob=z.ev sl:=fun h=>by
  obtain⟨ex,ey,ez,rfl,hx,hy,hz⟩:=Xr5 h; exact⟨ex,ey,ez,rfl,Wk hI hp hx,Wk hI hp hy,Wk hI hp hz⟩
 unfold C.lift at h
 split at h
 case h_1=>exact⟨by rw[Wk hI hp h]; rfl,fun _=>rfl⟩
 case h_2 g x y=>
  obtain⟨ec,ex,ey,rfl,hc,hx,hy⟩:=Xiv h
  have hcv:=Wk hI hp hc
  simp only[A.ev]at hcv
  have hpt:∀b,look sl g=.d (.bool b)->Xr sl (p++[(g,b)])=true:=fun b hb=>by
   simp only[Xr,List.all_append,Bool.and_eq_true]at hp⊢
   exact⟨hp,by simp[hb,isB]⟩
  simp only[E.val,E.ok,C.val,C.ok,C.wp,Yk7,hcv]
  by_cases hb:Xds (look sl g)
  ·rcases Xgm hb with hb | hb
   ·have:=Wk hI (hpt true hb) hx
    rw[hb]; simp only[X0e,Ydq,this]; exact⟨trivial,fun _=>trivial⟩
   ·have:=Wk hI (hpt false hb) hy
    rw[hb]; simp only[X0c,Ydp,this]; exact⟨trivial,fun _=>trivial⟩
  ·rw[X0d hb,X0d hb]; exact⟨rfl,fun h=>(hb h.2.1).elim⟩
 case h_26=>cases h; exact⟨rfl,fun _=>rfl⟩
 all_goals first
  | (cases h; done)
  | (obtain⟨ex,rfl,hx⟩:=l1 h; simp only[E.val,E.ok,C.val,C.ok,C.wp,Yk7,Xm3,hx,Option.map]; exact⟨trivial,fun h=>h.2⟩)
  | (obtain⟨ex,ey,rfl,hx,hy⟩:=l2 h; simp only[E.val,E.ok,C.val,C.ok,C.wp,Yk7,Xm3,Xx2,Nat.reduceBEq,hx,hy,Option.map]; exact⟨trivial,fun h=>h.2.2⟩)
  | (obtain⟨ex,ey,ez,rfl,hx,hy,hz⟩:=l3 h; simp only[E.val,E.ok,C.val,C.ok,C.wp,Yk7,Xm3,Xx2,Nat.reduceBEq,hx,hy,hz,Option.map]; exact⟨trivial,fun h=>h.2.2.2⟩)
end
end Go.Ab
namespace Go.Ab
open Go

section
variable {P:Prg} {T:Tab} {σ:Sg} {sl sl0:Xb} {ob:Objs} {p:Qj}

theorem W6 {x:A}{k:Nat}{ex:E}(hk:k∈Xew σ p x)(h:opE σ p x=some ex):ent σ k=some (p,ex):=by
 cases x with
 | t j=>
  simp only[Xew]at hk
  simp only[opE]at h
  split at hk
  ·rename_i q e he
   split at hk
   ·rename_i hq
    simp at hk; subst hk
    simp at hq; subst hq
    rw[he]at h
    simp at h
    rw[he,h]
   ·cases hk
  ·cases hk
 | _=>simp[Xew]at hk
theorem Zg {g:Nat}{b:Bool}:Xr sl (p++[(g,b)])=(Xr sl p&&isB b (look sl g)):=by
 simp[Xr,List.all_append]
theorem Xs2:∀{xs:List A} {e:E},Xmf σ p xs=some e->∀{k q ek},k∈Ykr σ p xs->ent σ k=some (q,ek)->q=p/\(e.ok T sl0 ob->ek.ok T sl0 ob)
 | [],_,_,k,_,_,hk,_=>by simp[Ykr]at hk
 | x::r,e,h,k,q,ek,hk,he=>by
  simp only[Xmf]at h
  split at h
  ·rename_i ex er hx hr
   cases h
   simp only[Ykr,List.mem_append]at hk
   rcases hk with hk | hk
   ·have:=W6 hk hx
    rw[he]at this; cases this
    exact⟨rfl,fun h=>h.1⟩
   ·obtain⟨h1,h2⟩:=Xs2 hr hk he
    exact⟨h1,fun h=>h2 h.2⟩
  ·cases h

theorem C.cov (hI:Inv T σ sl sl0 ob){c:C}{e:E}(h:c.lift σ p=some e){k:Nat}{q:Qj}{ek:E}(hk:k∈c.cons σ p)(he:ent σ k=some (q,ek))(hq:Xr sl q=true)(ho:Xr sl p=true->e.ok T sl0 ob):ek.ok T sl0 ob:=by
 have l1:∀{c x},Ve σ p c x=some e->k∈Xew σ p x->ek.ok T sl0 ob:=fun h hk=>by
  obtain⟨ex,rfl,hx⟩:=Xr3 h
  have:=W6 hk hx
  rw[he]at this; cases this
  exact (ho hq).1
 have l2:∀{c x y},Qy σ p c x y=some e->k∈Xew σ p x++Xew σ p y->ek.ok T sl0 ob:=fun h hk=>by
  obtain⟨ex,ey,rfl,hx,hy⟩:=Xr4 h
  rw[List.mem_append]at hk
  rcases hk with hk | hk
  ·have:=W6 hk hx
   rw[he]at this; cases this
   exact (ho hq).1
  ·have:=W6 hk hy
   rw[he]at this; cases this
   exact (ho hq).2.1
 have l3:∀{c x y z},Xt1 σ p c x y z=some e->k∈Xew σ p x++Xew σ p y++Xew σ p z->ek.ok T sl0 ob:=fun h hk=>by
  obtain⟨ex,ey,ez,rfl,hx,hy,hz⟩:=Xr5 h
  rw[List.mem_append,List.mem_append]at hk
  rcases hk with (hk | hk) | hk
  ·have:=W6 hk hx
   rw[he]at this; cases this
   exact (ho hq).1
  ·have:=W6 hk hy
   rw[he]at this; cases this
   exact (ho hq).2.1
  ·have:=W6 hk hz
   rw[he]at this; cases this
   exact (ho hq).2.2.1
 unfold C.lift at h
 split at h<;>simp only[C.cons]at hk
 case h_1=>
  have:=W6 hk h
  rw[he]at this; cases this
  exact ho hq
 case h_2 g x y=>
  obtain⟨ec,ex,ey,rfl,hc,hx,hy⟩:=Xiv h
  rw[List.mem_append,List.mem_append]at hk
  rcases hk with (hk | hk) | hk
  ·have:=W6 hk hc
   rw[he]at this; cases this
   exact (ho hq).1
  ·have:=W6 hk hx
   rw[he]at this; cases this
   rw[Zg,Bool.and_eq_true]at hq
   have hv:=Wk hI hq.1 hc
   exact (ho hq.1).2.2.1 (by rw[hv]; exact hq.2)
  ·have:=W6 hk hy
   rw[he]at this; cases this
   rw[Zg,Bool.and_eq_true]at hq
   have hv:=Wk hI hq.1 hc
   exact (ho hq.1).2.2.2 (by rw[hv]; exact hq.2)
 all_goals first
  | (cases h; done)
  | exact l1 h hk
  | exact l2 h hk
  | exact l3 h hk
  | (cases hk; done)
theorem I.cov (hI:Inv T σ sl sl0 ob){fs:List Nat}{i:I}{e:E}(h:i.lift fs σ p=some e){k:Nat}{q:Qj}{ek:E}(hk:k∈i.cons σ p)(he:ent σ k=some (q,ek))(hq:Xr sl q=true)(ho:Xr sl p=true->e.ok T sl0 ob):ek.ok T sl0 ob:=by
 cases i<;>simp only[I.lift]at h<;>simp only[I.cons]at hk
 case c x=>exact C.cov hI h hk he hq ho
 case pcall f args=>
  split at h
  ·split at h
   ·rename_i e' ha
    cases h
    obtain⟨rfl,h2⟩:=Xs2 (T:=T) (sl0:=sl0) (ob:=ob) ha hk he
    exact h2 (ho hq).1
   ·cases h
  ·cases h
 all_goals cases h
theorem I.gcov {fs:List Nat}{i:I}{e:E}(h:i.lift fs σ p=some e){k:Nat}{q:Qj}{ek:E}(hk:k∈i.gcons σ p)(he:ent σ k=some (q,ek))(hq:Xr sl q=true)(ho:Xr sl p=true->e.ok T sl0 ob):Xds (ek.val T sl0 ob):=by
 unfold I.gcons at hk
 split at hk
 ·rename_i g x y
  simp only[I.lift,C.lift]at h
  obtain⟨ec,ex,ey,rfl,hc,hx,hy⟩:=Xiv h
  have:=W6 hk hc
  rw[he]at this; cases this
  exact (ho hq).2.1
 ·cases hk
theorem I.lift_sound (hT:TOk P T)(hI:Inv T σ sl sl0 ob)(hp:Xr sl p=true){fs:List Nat}{i:I}{e:E}(h:i.lift fs σ p=some e)(ho:e.ok T sl0 ob){KO Pn:V->Objs->Prop}(hK:KO (e.val T sl0 ob) ob):i.wp P sl ob KO Pn:=by
 cases i<;>simp only[I.lift]at h
 case c x=>
  obtain⟨h1,h2⟩:=C.lift_sound hI hp h
  simp only[I.wp]
  exact C.wp_of (h2 ho) (by rw[<-h1]; exact hK)
 case pcall f args=>
  split at h
  ·split at h
   ·rename_i e' ha
    cases h
    have hv:=Xjo hI hp ha
    simp only[E.ok,E.val,hv]at ho hK
    simp only[I.wp]
    cases hf:Xax T f with
    | none=>rw[hf]at ho; exact ho.2.elim
    | some F=>rw[hf]at ho hK; exact hT f F hf _ ho.2 _ _ hK
   ·cases h
  ·cases h
 all_goals cases h

theorem Inv.congr {sl':Xb}(hI:Inv T σ sl sl0 ob)(h:∀k,look sl' k=look sl k):Inv T σ sl' sl0 ob:=by
 intro k p e he
 have:Xr sl' p=Xr sl p:=by simp only[Xr,h]
 rw[this,h]
 exact hI k p e he

def U4 (d:Nat)(p:Qj):Bool:=p.all fun g=>g.1 != d
def Xmt (σ:Sg)(d:Nat):Bool:=σ.all fun x=>match x.2 with
 | some (p,_)=>U4 d p
 | none=>true
theorem Uk {d:Nat}{v:V}(h:U4 d p=true):Xr ((d,v)::sl) p=Xr sl p:=by
 induction p with
 | nil=>rfl
 | cons g r ih=>
  simp only[U4,List.all_cons,Bool.and_eq_true]at h
  simp only[Xr,List.all_cons]at ih⊢
  have:look ((d,v)::sl) g.1=look sl g.1:=by
   have:=h.1; simp at this
   have h':¬d=g.1:=fun e=>this e.symm
   simp[look,h']
  rw[this,ih h.2]
theorem Xfu:∀{σ:Sg} {d k:Nat} {p:Qj} {e:E},Xmt σ d=true->W5 σ k=some (some (p,e))->U4 d p=true
 | [],_,_,_,_,_,h=>by simp[W5]at h
 | (j,x)::r,d,k,p,e,hg,h=>by
  simp only[Xmt,List.all_cons,Bool.and_eq_true]at hg
  simp only[W5]at h
  split at h
  ·cases h; exact hg.1
  ·exact Xfu (σ:=r) hg.2 h
theorem Xal {d k:Nat}{q:Qj}{e:E}(hg:Xmt σ d=true)(h:ent σ k=some (q,e)):U4 d q=true:=by
 unfold ent at h
 split at h
 ·cases h; rfl
 ·rename_i x hx; subst h; exact Xfu hg hx

theorem We {k:Nat}{x:Option (Qj×E)}:ent ((k,x)::σ) k=x:=by simp[ent,W5]
theorem Zo {j k:Nat}{x:Option (Qj×E)}(h:k ≠ j):ent ((k,x)::σ) j=ent σ j:=by simp[ent,W5,h]

end
end Go.Ab
namespace Go.Ab
open Go

inductive It2 where
 | chk (p:List (E×Bool)) (e:E)
 | lt (k:Nat) (p:List (E×Bool)) (e:E)
 | op (d:Option Nat) (i:I)
 | gop (p:List (E×Bool)) (d:Option Nat) (i:I)

def Xjb (b:Bool)(v:V):V:=if b then v else .undef

def Us (P:Prg)(T:Tab)(K:Xb->Objs->Prop)(Pn:V->Xb->Objs->Prop):List It2->Xb->Objs->Prop
 | [],sl,ob=>K sl ob
 | .chk p e::r,sl,ob=>(Z4 T sl ob p=true->e.ok T sl ob)/\Us P T K Pn r sl ob
 | .lt k p e::r,sl,ob=>(Z4 T sl ob p=true->e.ok T sl ob)/\Us P T K Pn r ((k,Xjb (Z4 T sl ob p) (e.val T sl ob))::sl) ob
 | .op d i::r,sl,ob=>i.wp P sl ob (fun v ob'=>Us P T K Pn r (put sl d v) ob') (fun v ob'=>Pn v sl ob')
 | .gop p d i::r,sl,ob=>(Z4 T sl ob p=true->i.wp P sl ob (fun v ob'=>Us P T K Pn r (put sl d v) ob') (fun v ob'=>Pn v sl ob'))/\
   (Z4 T sl ob p=false->Us P T K Pn r (put sl d .undef) ob)

def Ql (T:Tab)(sl:Xb)(ob:Objs):List (Nat×E)->Xb
 | []=>[]
 | (k,e)::r=>(k,e.val T sl ob)::Ql T sl ob r
def Vm (T:Tab)(sl:Xb)(ob:Objs):List (Nat×E)->Prop
 | []=>True
 | (_,e)::r=>e.ok T sl ob/\Vm T sl ob r


def A.slots:A->List Nat
 | .t k=>[k]
 | _=>[]
def V3:List A->List Nat
 | []=>[]
 | x::r=>x.slots++V3 r
def Xgd:Option A->List Nat
 | some x=>x.slots
 | none=>[]
def C.slots:C->List Nat
 | .mv x | .not x | .neg x | .cpl x | .isnil _ x | .pnil _ x | .fnil _ x | .usd x | .cvi _ x | .cvs x | .fldA _ _ x | .fld _ _ _ _ x | .ld _ _ x | .nilc x | .lenS x | .lenL x | .ext x _ | .mki _ x | .tas _ _ x=>x.slots
 | .bin _ x y | .mx x y | .beq _ x y | .peq _ x y | .idx x y | .idxA _ x y | .idxP _ _ x y | .eqD _ _ x y | .aix _ _ _ x y=>x.slots++y.slots
 | .pick x y z=>x.slots++(y.slots++z.slots)
 | .slcS x l h | .slcL _ x l h=>x.slots++(Xgd l++Xgd h)
 | .lenA _=>[]
 | .bld _ ps=>V3 (ps.map (·.2))
 | .mkf _ a b=>V3 a++V3 b
def I.slots:I->List Nat
 | .c x=>x.slots
 | .box _ x=>x.slots
 | .alloc _ _=>[]
 | .bls _ _ ps=>V3 (ps.map (·.2))
 | .blo _ _ _ ps=>V3 (ps.map (·.2))
 | .st _ x y=>x.slots++y.slots
 | .app _ _ _ x y=>x.slots++y.slots
 | .appS _ _ x y=>x.slots++y.slots
 | .call _ l=>V3 l
 | .pcall _ l=>V3 l
 | .callv x l=>x.slots++V3 l
 | .panic x=>x.slots
 | .b2s x=>x.slots
 | .s2b x=>x.slots
 | .nilo _ _ x=>x.slots
 | .mvf x=>x.slots
 | .ldf _ _ x=>x.slots
 | .mvg _ _ y x _=>y.slots++x.slots
 | .mvn y x _=>y.slots++x.slots
 | .cvb x=>x.slots
 | .ustr _ x y=>x.slots++y.slots
 | .mkm r=>Xgd r
 | .lkp _ _ _ m k=>m.slots++k.slots
 | .mset _ m k v=>m.slots++(k.slots++v.slots)
 | .gld _ _ _ _=>[]
 | .slg _ _ x=>x.slots
 | .blv _ _ _ ps=>V3 (ps.map (·.2))
 | .apv _ _ _ x y=>x.slots++y.slots
 | .gv x=>x.slots
 | .ldg _ _ x=>x.slots
 | .slb _ _ x lo hi=>x.slots++(Xgd lo++Xgd hi)
 | .cpy _ x y=>x.slots++y.slots
 | .clr _ _ x=>x.slots
 | .gix _ _ _ _ i=>i.slots

section
variable {P:Prg} {sl sl':Xb} {ob:Objs}
theorem A.ev_eq {x:A}(h:∀k∈x.slots,look sl k=look sl' k):x.ev sl=x.ev sl':=by
 cases x<;>simp_all[A.ev,A.slots]
theorem Xfp:∀{l:List A},(∀k∈V3 l,look sl k=look sl' k)->l.map (A.ev sl)=l.map (A.ev sl')
 | [],_=>rfl
 | x::r,h=>by
  simp only[V3,List.mem_append]at h
  simp only[List.map_cons,A.ev_eq (fun k hk=>h k (.inl hk)),Xfp (fun k hk=>h k (.inr hk))]
theorem Xfq {l:Option A}(h:∀k∈Xgd l,look sl k=look sl' k):l.map (A.ev sl)=l.map (A.ev sl'):=by
 cases l with
 | none=>rfl
 | some x=>simp only[Option.map_some,A.ev_eq h]
theorem Xj1:∀{l:List (Nat×A)},(∀k∈V3 (l.map (·.2)),look sl k=look sl' k)->(l.map fun x=>(x.1,A.ev sl x.2))=l.map fun x=>(x.1,A.ev sl' x.2)
 | [],_=>rfl
 | x::r,h=>by
  simp only[List.map_cons,V3,List.mem_append]at h
  simp only[List.map_cons,A.ev_eq (fun k hk=>h k (.inl hk)),Xj1 (fun k hk=>h k (.inr hk))]
theorem C.wp_eq {K:V->Prop}{c:C}(h:∀k∈c.slots,look sl k=look sl' k):c.wp sl ob K=c.wp sl' ob K:=by
 cases c<;>simp only[C.slots,List.mem_append]at h<;>simp only[C.wp]
 case bld=>rw[Xj1 h]
 case mkf=>rw[Xfp (fun k hk=>h k (.inl hk)),Xfp (fun k hk=>h k (.inr hk))]
 case pick=>rw[A.ev_eq (fun k hk=>h k (.inl hk)),A.ev_eq (fun k hk=>h k (.inr (.inl hk))),A.ev_eq (fun k hk=>h k (.inr (.inr hk)))]
 case slcS=>rw[A.ev_eq (fun k hk=>h k (.inl hk)),Xfq (fun k hk=>h k (.inr (.inl hk))),Xfq (fun k hk=>h k (.inr (.inr hk)))]
 case slcL=>rw[A.ev_eq (fun k hk=>h k (.inl hk)),Xfq (fun k hk=>h k (.inr (.inl hk))),Xfq (fun k hk=>h k (.inr (.inr hk)))]
 all_goals first
  | rw[A.ev_eq h]
  | rw[A.ev_eq (fun k hk=>h k (.inl hk)),A.ev_eq (fun k hk=>h k (.inr hk))]
theorem I.wp_eq {K Pn:V->Objs->Prop}{i:I}(h:∀k∈i.slots,look sl k=look sl' k):i.wp P sl ob K Pn=i.wp P sl' ob K Pn:=by
 cases i<;>simp only[I.slots,List.mem_append]at h<;>simp only[I.wp]
 case c=>rw[C.wp_eq h]
 case bls=>rw[Xj1 h]
 case blo=>rw[Xj1 h]
 case blv=>rw[Xj1 h]
 case call=>rw[Xfp h]
 case pcall=>rw[Xfp h]
 case callv=>rw[A.ev_eq (fun k hk=>h k (.inl hk)),Xfp (fun k hk=>h k (.inr hk))]
 case mset=>rw[A.ev_eq (fun k hk=>h k (.inl hk)),A.ev_eq (fun k hk=>h k (.inr (.inl hk))),A.ev_eq (fun k hk=>h k (.inr (.inr hk)))]
 case slb=>rw[A.ev_eq (fun k hk=>h k (.inl hk)),Xfq (fun k hk=>h k (.inr (.inl hk))),Xfq (fun k hk=>h k (.inr (.inr hk)))]
 case mkm r=>
  cases r with
  | none=>rfl
  | some x=>simp only[X17,A.ev_eq (x:=x) h]
 all_goals first
  | rw[A.ev_eq h]
  | rw[A.ev_eq (fun k hk=>h k (.inl hk)),A.ev_eq (fun k hk=>h k (.inr hk))]
  | rfl

theorem Xkr {K K':V->Objs->Prop}{ob:Objs}{E sz:Nat}{p:List Nat}{y x:V}(hk:∀v b,K v b->K' v b)(h:Xl1 ob E sz p y K x):Xl1 ob E sz p y K' x:=by
 unfold Xl1 at h; split at h
 ·simp only[Xl1]
  generalize lookO _ _=o at h⊢
  unfold Xe7 at h; split at h
  ·simp only[Xe7]
   rcases h with h | h
   case inr=>exact .inr ⟨h.1,hk _ _ h.2⟩
   refine .inl ⟨h.1,?_⟩
   have h:=h.2
   generalize V.set _ _ _=o at h⊢
   cases o with
   | none=>exact h.elim
   | some t=>exact hk _ _ h
  ·exact h.elim
 ·exact h.elim
theorem Xkt {K K':V->Objs->Prop}{y x:V}(hk:∀v b,K v b->K' v b):∀{l:List (Nat×Nat×List Nat)} {ob:Objs},X6x y K x l ob->X6x y K' x l ob
 | [],_,h=>hk _ _ h
 | _::_,_,h=>Xkr (fun _ _ h=>Xkt hk h) h

theorem I.wp_mono {K K' Pn Pn':V->Objs->Prop}(hk:∀v b,K v b->K' v b)(hp:∀v b,Pn v b->Pn' v b){i:I}(h:i.wp P sl ob K Pn):i.wp P sl ob K' Pn':=by
 have ho:∀o b,Xp0 K Pn o b->Xp0 K' Pn' o b:=fun o b=>by cases o with | ret v=>exact hk v b | panic v=>exact hp v b
 have bx:∀{E v},Xus E ob K v->Xus E ob K' v:=fun h=>⟨h.1,hk _ _ h.2⟩
 have dk:∀{KD KD':List D->Prop},(∀l,KD l->KD' l)->∀o,dK KD o->dK KD' o:=fun f o h=>by cases o with | none=>exact h.elim | some l=>exact f l h
 have gv:∀(o:Option (D×Objs)),Xj9 K o->Xj9 K' o:=fun o h=>by
  cases o with
  | none=>exact h.elim
  | some q=>exact hk _ _ h
 have ap:∀{E sz B ys u},Xe1 E sz B ob ys K u->Xe1 E sz B ob ys K' u:=fun {E sz B ys u} h=>by
  unfold Xe1 at h; split at h
  ·simp only[Xe1]
   generalize lookO _ _=o at h⊢
   unfold Xe2 at h; split at h
   ·obtain⟨h1,h2,h3,h4,h5⟩:=h
    exact⟨h1,h2,h3,h4,hk _ _ h5⟩
   ·exact h.elim
  ·exact⟨h.1,hk _ _ h.2⟩
  ·exact h.elim
 have apv:∀{E sz B ys u},Xrh E sz B ob ys K u->Xrh E sz B ob ys K' u:=fun {E sz B ys u} h=>by
  unfold Xrh at h; split at h
  ·simp only[Xrh]
   generalize lookO _ _=o at h⊢
   unfold Xe3 at h; split at h
   ·obtain⟨h1,h2,h3,h4,h5⟩:=h
    exact⟨h1,h2,h3,h4,hk _ _ h5⟩
   ·obtain⟨h1,h2,h3,h4,h5⟩:=h
    exact⟨h1,h2,h3,h4,hk _ _ h5⟩
   ·exact h.elim
  ·exact⟨h.1,hk _ _ h.2⟩
  ·exact h.elim
 have bw:∀{id p lo n z ys r o},X12 ob id p lo n z ys r K o->X12 ob id p lo n z ys r K' o:=fun {id p lo n z ys r o} h=>by
  unfold X12 at h; split at h
  ·simp only[X12]
   generalize V.at _ _=o at h⊢
   unfold Yk2 at h; split at h
   ·obtain⟨h1,h2,h3,t,h4,h5⟩:=h
    exact⟨h1,h2,h3,t,h4,hk _ _ h5⟩
   ·exact h.elim
  ·exact h.elim
 cases i<;>simp only[I.wp]at h⊢
 case c x=>exact C.wp_mono (fun v=>hk v ob) x h
 case box=>exact bx h
 case alloc=>exact bx h
 case bls=>exact Qq (fun _=>dk (fun _=>hk _ _) _) _ _ h
 case blo=>exact Qq (fun _=>dk (fun _ h=>hk _ _ h) _) _ _ h
 case st x y=>
  generalize A.ev sl x=v at h⊢
  unfold stK at h; split at h
  ·simp only[stK]
   generalize lookO _ _=o at h⊢
   unfold stKo at h; split at h
   ·simp only[stKo]
    generalize V.at _ _=o at h⊢
    unfold X1o at h; split at h
    ·obtain⟨h1,h2,h3,t,h4,h5⟩:=h
     exact⟨h1,h2,h3,t,h4,hk _ _ h5⟩
    ·exact h.elim
   ·exact h.elim
  ·simp only[stK]
   generalize lookO _ _=o at h⊢
   unfold X2a at h; split at h
   ·simp only[X2a]
    generalize Vd _ _ _=o at h⊢
    unfold X5q at h; split at h
    ·refine⟨h.1,?_⟩
     have h:=h.2
     generalize V.at _ _=o at h⊢
     unfold X2b at h; split at h
     ·obtain⟨h1,h2,h3,t,h4,h5⟩:=h
      exact⟨h1,h2,h3,t,h4,hk _ _ h5⟩
     ·exact h.elim
    ·exact h.elim
   ·exact h.elim
  ·exact h.elim
 case app x y=>
  generalize A.ev sl y=v at h⊢
  unfold X1m at h; split at h
  ·exact⟨h.1,ap h.2⟩
  ·exact ap h
  ·exact h.elim
 case blv=>exact Qq (fun _=>hk _ _) _ _ h
 case apv x y=>
  generalize A.ev sl y=v at h⊢
  unfold Yep at h; split at h
  ·exact⟨h.1,apv h.2⟩
  ·exact apv h
  ·rcases h with⟨E,ys,h1,h2,h3,h4⟩ | ⟨E,ys,h1,h2,h4⟩
   ·exact .inl ⟨E,ys,h1,h2,h3,apv h4⟩
   ·exact .inr ⟨E,ys,h1,h2,apv h4⟩
  ·exact h.elim
 case gv x=>
  generalize V.gvF _ _ _=v at h⊢
  exact gv _ h
 case slb x lo hi=>
  generalize A.ev sl x=v at h⊢
  unfold Yeo at h; split at h
  ·simp only[Yeo]
   generalize Zq _=o at h⊢
   unfold Xt8 at h; split at h
   ·exact⟨h.1,h.2.1,Xdr (fun _ _=>hk _ _) h.2.2⟩
   ·exact h.elim
  ·exact h.elim
 case cpy x y=>
  generalize A.ev sl x=v at h⊢; generalize A.ev sl y=u at h⊢
  unfold Yk5 at h; split at h
  ·exact⟨h.1,bw h.2⟩
  ·exact h.elim
 case clr x=>
  generalize A.ev sl x=v at h⊢
  unfold Yk3 at h; split at h
  ·exact⟨fun e=>⟨(h.1 e).1,hk _ _ (h.1 e).2⟩,fun e=>⟨(h.2 e).1,bw (h.2 e).2⟩⟩
  ·exact h.elim
 case gix x y=>
  refine⟨h.1,?_⟩
  have h:=h.2
  generalize A.ev sl y=u at h⊢
  unfold Yla at h; split at h
  ·exact⟨h.1,h.2.1,h.2.2.1,hk _ _ h.2.2.2⟩
  ·exact h.elim
 case ldg x=>
  generalize A.ev sl x=v at h⊢
  unfold X6q at h; split at h
  ·simp only[X6q]
   generalize atO _ _ _=o at h⊢
   unfold Xty at h; split at h
   ·refine⟨h.1,h.2.1,?_⟩
    have h:=h.2.2
    generalize V.gvF _ _ _=o at h⊢
    unfold Xtx at h; split at h
    ·refine⟨h.1,?_⟩
     have h:=h.2
     generalize lookO _ _=o at h⊢
     unfold Xxv at h; split at h
     ·obtain⟨t',h1,h2⟩:=h
      exact⟨t',h1,hk _ _ h2⟩
     ·exact h.elim
    ·exact h.elim
   ·exact h.elim
  ·exact h.elim
 case appS x y=>
  generalize A.ev sl y=v at h⊢
  unfold Xi1 at h; split at h
  ·exact ap h
  ·exact h.elim
 case mvf x=>
  generalize V.giv _ _=v at h⊢
  exact gv _ h
 case ldf x=>
  generalize A.ev sl x=v at h⊢
  unfold X4x at h; split at h
  ·simp only[X4x]
   generalize atO _ _ _=o at h⊢
   unfold Xmz at h; split at h
   ·exact⟨h.1,h.2.1,gv _ h.2.2⟩
   ·exact h.elim
  ·exact h.elim
 case mvg=>exact Xkr hk h
 case mvn=>exact Xkt hk h
 case cvb x=>
  generalize A.ev sl x=v at h⊢
  unfold Xws at h; split at h
  ·simp only[Xws]
   generalize lookO _ _=o at h⊢
   unfold Xgt at h; split at h
   ·exact⟨h.1,h.2.1,h.2.2.1,hk _ _ h.2.2.2⟩
   ·exact h.elim
  ·exact h.elim
 case ustr x y=>
  generalize A.ev sl x=v at h⊢; generalize A.ev sl y=u at h⊢
  unfold Xb7 at h; split at h
  ·simp only[Xb7]
   generalize lookO _ _=o at h⊢
   unfold Xbe at h; split at h
   ·obtain⟨h1,h2,h3,h4,h5,h6,s,h7,h8⟩:=h
    exact⟨h1,h2,h3,h4,h5,h6,s,h7,hk _ _ h8⟩
   ·exact h.elim
  ·exact⟨h.1,hk _ _ h.2⟩
  ·exact h.elim
 case call=>exact h.mono ho
 case pcall=>exact h.mono fun v=>hk v ob
 case callv x l=>
  generalize A.ev sl x=v at h⊢
  unfold Qr at h; split at h
  ·exact⟨h.1,h.2.mono ho⟩
  ·exact⟨h.1,h.2.mono ho⟩
  ·exact h.elim
 case panic x=>
  generalize A.ev sl x=v at h⊢
  unfold Xa4 at h; split at h
  ·exact hp _ _ h
  ·exact hp _ _ h
  ·exact h.elim
 case b2s x=>
  generalize A.ev sl x=v at h⊢
  unfold Yd9 at h; split at h
  ·obtain⟨h1,s,h2,h3⟩:=h
   exact⟨h1,s,h2,hk _ _ h3⟩
  ·exact hk _ _ h
  ·exact h.elim
 case s2b x=>
  generalize A.ev sl x=v at h⊢
  unfold Yen at h; split at h
  ·exact hk _ _ h
  ·exact h.elim
 case nilo x=>
  generalize A.ev sl x=v at h⊢
  unfold Xis at h; split at h
  ·exact hk _ _ h
  ·exact h.elim
 case mkm r=>exact⟨h.1,hk _ _ h.2⟩
 case gld=>exact⟨h.1,h.2.1,h.2.2.1,hk _ _ h.2.2.2⟩
 case slg x=>
  generalize A.ev sl x=v at h⊢
  unfold X85 at h; split at h
  ·simp only[X85]
   generalize atO _ _ _=o at h⊢
   unfold Xua at h; split at h
   ·exact⟨h.1,h.2.1,hk _ _ h.2.2⟩
   ·exact h.elim
  ·exact h.elim
 case lkp x y=>
  generalize A.ev sl x=v at h⊢; generalize A.ev sl y=u at h⊢
  unfold Xx1 at h; split at h
  ·simp only[Xx1]
   generalize lookO _ _=o at h⊢
   unfold Xhc at h; split at h
   ·exact⟨h.1,hk _ _ h.2⟩
   ·exact h.elim
  ·exact⟨h.1,hk _ _ h.2⟩
  ·exact h.elim
 case mset x y z=>
  generalize A.ev sl x=v at h⊢; generalize A.ev sl y=u at h⊢
  unfold Xeb at h; split at h
  ·simp only[Xeb]
   generalize lookO _ _=o at h⊢
   unfold Xaz at h; split at h
   ·exact⟨h.1,h.2.1,hk _ _ h.2.2⟩
   ·exact h.elim
  ·exact h.elim
end
end Go.Ab
namespace Go.Ab
open Go

def Xp3 (σ:Sg):Qj->Qj->Option (List (E×Bool))
 | _,[]=>some []
 | dn,(g,b)::r=>match ent σ g with
  | some (q,e)=>if q.isPrefixOf dn then (match Xp3 σ (dn++[(g,b)]) r with | some l=>some ((e,b)::l) | none=>none) else none
  | none=>none
def Yrg (σ:Sg)(f:E->E)(k:Nat):Option It2:=match ent σ k with
 | some (p,e)=>match Xp3 σ [] p with
  | some l=>some (.chk l (f e))
  | none=>none
 | none=>none
def chks (σ:Sg)(f:E->E):List Nat->Option (List It2)
 | []=>some []
 | k::r=>match Yrg σ f k,chks σ f r with
  | some c,some l=>some (c::l)
  | _,_=>none
def bw (e:E):E:=.ite e (.a (.bool true)) (.a (.bool true))
def Xfk (σ:Sg)(k:Nat):Sg:=σ.filter fun x=>x.1 != k
def noMen (σ:Sg)(k:Nat):Bool:=σ.all fun x=>match x.2 with
 | some (_,e)=>!e.men k
 | none=>true
def Yi5 (σ:Sg):Bool:=σ.all fun x=>match x.2 with
 | some (_,e)=>!e.rd
 | none=>true
def Ygu (ns:List Nat)(σ:Sg)(k:Nat)(p:Qj):Sg:=if ns.contains k||p.isEmpty then Xfk σ k else (k,some (p,.a (.t k)))::Xfk σ k
def Yvb (ns:List Nat)(σ:Sg)(k:Nat):Option (It2×Sg):=match W5 σ k with
 | some (some (p,e))=>match Xp3 σ [] p with
  | some l=>if noMen (Xfk σ k) k then some (.lt k l e,Ygu ns σ k p) else none
  | none=>none
 | _=>none
def Yij (ns:List Nat):List Nat->Sg->Option (List It2×Sg)
 | [],σ=>some ([],σ)
 | k::r,σ=>match Yvb ns σ k with
  | some (i,σ')=>match Yij ns r σ' with
   | some (l,σ'')=>some (i::l,σ'')
   | none=>none
  | none=>none
def kill (lv:List Nat):Sg->Sg
 | []=>[]
 | (k,x)::r=>(if lv.contains k then (k,x) else (k,none))::kill lv r
def X41:List It->List Nat
 | []=>[]
 | .op _ i::r=>i.slots++X41 r
 | .gop g _ _ i::r=>g::(i.slots++X41 r)
def Yp7 (σ:Sg)(s:List Nat)(d:Option Nat):List Nat:=(σ.filter fun x=>match x.2 with
 | some (_,e)=>s.contains x.1||e.rd||(match d with | some k=>x.1 != k&&e.men k | none=>false)
 | none=>false).map (·.1)
def It.d:It->Option Nat
 | .op d _=>d
 | .gop _ _ d _=>d
def It.i:It->I
 | .op _ i=>i
 | .gop _ _ _ i=>i
def It.path (σ:Sg):It->Option (Qj×List Nat)
 | .op _ _=>some ([],[])
 | .gop g b _ _=>match ent σ g with
  | some (q,_)=>some (q++[(g,b)],[g])
  | none=>none
def It.eff (l:List (E×Bool)):It->It2
 | .op d i=>.op d i
 | .gop _ _ d i=>.gop l d i
def Ymw (σ:Sg):Option Nat->Sg
 | some k=>Xfk σ k
 | none=>σ
def Yb6 (σ:Sg)(p:Qj):Option Nat->Bool
 | some k=>noMen (Xfk σ k) k&&Xmt (Xfk σ k) k&&U4 k p
 | none=>true
def Xkk (σ:Sg):List Nat->Option (List (Nat×E))
 | []=>some []
 | k::r=>match ent σ k,Xkk σ r with
  | some ([],e),some l=>some ((k,e)::l)
  | _,_=>none
def Yky (e:E)(k:Nat)(l:List Nat):List Nat:=if e.isA then l else k::l

def Xaw (fs keep pk:List Nat):List It->Sg->List Nat->List Nat->Option (List It2×List (Nat×E))
 | [],σ,pe,pg=>match chks σ id (pe.filter fun k=>!keep.contains k),chks σ bw pg,Xkk σ keep with
  | some c1,some c2,some kp=>some (c1++c2,kp)
  | _,_,_=>none
 | it::r,σ,pe,pg=>match it.path σ with
  | none=>none
  | some (p,gs)=>match it.d,it.i.lift fs σ p with
   | some k,some e=>if Xmt (Xfk σ k) k&&U4 k p&&!pe.contains k&&!(gs++pg).contains k then
     Xaw fs keep pk r ((k,some (p,e))::Xfk σ k) (Yky e k (pe.filter fun j=>!(it.i.cons σ p).contains j)) ((gs++pg).filter fun j=>!(it.i.gcons σ p).contains j)
    else none
   | d,_=>match chks σ id pe,chks σ bw (gs++pg) with
    | some c1,some c2=>match Yij (it.i.slots++(pk++keep)) (Yp7 (kill (it.i.slots++(p.map (·.1)++(X41 r++keep))) σ) it.i.slots d) (kill (it.i.slots++(p.map (·.1)++(X41 r++keep))) σ) with
     | some (ms,σ2)=>match Xp3 σ2 [] p with
      | some l=>if (it.i.slots.all fun k=>(W5 σ2 k).isNone)&&Yb6 σ2 p d&&Yi5 σ2&&(pk.all fun k=>(W5 σ2 k).isNone) then
        match Xaw fs keep pk r (Ymw σ2 d) [] []with
        | some (t,kp)=>some (c1++(c2++(ms++(it.eff l::t))),kp)
        | none=>none
       else none
      | none=>none
     | none=>none
    | _,_=>none

section
variable {P:Prg} {T:Tab} {σ:Sg} {sl sl0:Xb} {ob:Objs} {p:Qj} {K:Xb->Objs->Prop} {Pn:V->Xb->Objs->Prop}

theorem U7 (hI:Inv T σ sl sl0 ob):∀(r dn:Qj) (l:List (E×Bool)),Xp3 σ dn r=some l->Xr sl dn=true->Xr sl r=Z4 T sl0 ob l
 | [],dn,l,h,_=>by simp only[Xp3]at h; cases h; rfl
 | (g,b)::r,dn,l,h,hd=>by
  simp only[Xp3]at h
  split at h
  ·rename_i q e he
   split at h
   ·rename_i hq
    split at h
    ·rename_i l' hl
     cases h
     have hv:=(hI g q e he).1 (Xch hq hd)
     simp only[Xr,Z4,List.all_cons,hv]
     cases hb:isB b (e.val T sl0 ob) with
     | false=>rfl
     | true=>
      have:=U7 hI r _ l' hl (by rw[Zg,hd,hv,hb]; rfl)
      simpa[Xr,Z4]using this
    ·cases h
   ·cases h
  ·cases h

theorem Zd (hI:Inv T σ sl sl0 ob){f:E->E}:∀{ks:List Nat} {cs l:List It2},chks σ f ks=some cs->Us P T K Pn (cs++l) sl0 ob->
  (∀k∈ks,∀p e,ent σ k=some (p,e)->Xr sl p=true->(f e).ok T sl0 ob)/\Us P T K Pn l sl0 ob
 | [],cs,l,h,hr=>by simp only[chks]at h; cases h; exact⟨fun _ h=>(by cases h),hr⟩
 | k::r,cs,l,h,hr=>by
  simp only[chks]at h
  split at h
  ·rename_i c l' hc hl
   cases h
   unfold Yrg at hc
   split at hc
   ·rename_i p e he
    split at hc
    ·rename_i lp hp
     cases hc
     simp only[List.cons_append,Us]at hr
     obtain⟨h1,h2⟩:=Zd hI hl hr.2
     refine⟨fun j hj q e' he' hq=>?_,h2⟩
     rcases List.mem_cons.mp hj with rfl | hj
     ·rw[he]at he'; cases he'
      exact hr.1 (by rw[<-U7 hI _ _ _ hp rfl]; exact hq)
     ·exact h1 j hj q e' he' hq
    ·cases hc
   ·cases hc
  ·cases h

theorem Xck:∀{σ:Sg} {k:Nat},W5 (Xfk σ k) k=none
 | [],_=>rfl
 | (j,x)::r,k=>by
  have ih:=Xck (σ:=r) (k:=k)
  simp only[Xfk]at ih⊢
  by_cases h:j=k
  ·subst h; simp[ih]
  ·simp[h,W5,ih]
theorem Xcl {k j:Nat}(h:k ≠ j):∀{σ:Sg},W5 (Xfk σ k) j=W5 σ j
 | []=>rfl
 | (i,x)::r=>by
  have ih:=Xcl h (σ:=r)
  simp only[Xfk]at ih⊢
  by_cases hi:i=k
  ·subst hi; simp[ih,W5,h]
  ·simp[hi,W5,ih]
theorem Xfn {k:Nat}:ent (Xfk σ k) k=some ([],.a (.t k)):=by simp[ent,Xck]
theorem Zv {k j:Nat}(h:k ≠ j):ent (Xfk σ k) j=ent σ j:=by simp[ent,Xcl h]
theorem Xf2:∀{σ:Sg} {d k:Nat} {p:Qj} {e:E},noMen σ d=true->W5 σ k=some (some (p,e))->e.men d=false
 | [],_,_,_,_,_,h=>by simp[W5]at h
 | (j,x)::r,d,k,p,e,hg,h=>by
  simp only[noMen,List.all_cons,Bool.and_eq_true]at hg
  simp only[W5]at h
  split at h
  ·cases h; simpa using hg.1
  ·exact Xf2 (σ:=r) hg.2 h
theorem Xkw:∀{σ:Sg} {k:Nat} {p:Qj} {e:E},Yi5 σ=true->W5 σ k=some (some (p,e))->e.rd=false
 | [],_,_,_,_,h=>by simp[W5]at h
 | (j,x)::r,k,p,e,hg,h=>by
  simp only[Yi5,List.all_cons,Bool.and_eq_true]at hg
  simp only[W5]at h
  split at h
  ·cases h; simpa using hg.1
  ·exact Xkw (σ:=r) hg.2 h
theorem Xsg {k:Nat}{e:E}(hg:Yi5 σ=true)(h:ent σ k=some (p,e)):e.rd=false:=by
 unfold ent at h
 split at h
 ·cases h; rfl
 ·rename_i x hx; subst h; exact Xkw hg hx
theorem Xkv {d k:Nat}{e:E}(hg:noMen (Xfk σ d) d=true)(hd:d ≠ k)(h:ent σ k=some (p,e)):e.men d=false:=by
 rw[<-Zv hd]at h
 unfold ent at h
 split at h
 ·cases h; simp[E.men,A.men]; exact fun e=>hd e.symm
 ·rename_i x hx; subst h; exact Xf2 hg hx

theorem Xf0 {ns:List Nat}:∀{ks:List Nat} {σ σ':Sg} {sl0:Xb} {ms l:List It2},Inv T σ sl sl0 ob->Yij ns ks σ=some (ms,σ')->Us P T K Pn (ms++l) sl0 ob->∃sl0',Inv T σ' sl sl0' ob/\Us P T K Pn l sl0' ob
 | [],σ,σ',sl0,ms,l,hI,h,hr=>by simp only[Yij]at h; cases h; exact⟨sl0,hI,hr⟩
 | k::r,σ,σ',sl0,ms,l,hI,h,hr=>by
  simp only[Yij]at h
  split at h
  ·rename_i i σ1 h1
   split at h
   ·rename_i l' σ2 h2
    cases h
    unfold Yvb at h1
    split at h1
    ·rename_i p e he
     split at h1
     ·rename_i lp hp
      split at h1
      ·rename_i hm
       cases h1
       simp only[List.cons_append,Us]at hr
       refine Xf0 ?_ h2 hr.2
       have hk:=hI k p e (by simp[ent,he])
       have hh:=U7 hI _ _ _ hp rfl
       have hdel:∀j q e',ent (Xfk σ k) j=some (q,e')->(Xr sl q=true->look sl j=e'.val T ((k,Xjb (Z4 T sl0 ob lp) (e.val T sl0 ob))::sl0) ob)/\(Xr sl q=false->look sl j=.undef):=by
        intro j q e' he'
        by_cases hj:k=j
        ·subst hj
         rw[Xfn]at he'; cases he'
         simp only[Xr,List.all_nil,E.val,A.ev,look,if_true]
         refine⟨fun _=>?_,fun h=>(by cases h)⟩
         rw[<-hh]
         cases hs:Xr sl p with
         | true=>rw[hk.1 hs]; rfl
         | false=>rw[hk.2 hs]; rfl
        ·rw[Zv hj]at he'
         rw[E.val_sl (Xkv hm hj he')]
         exact hI j q e' he'
       unfold Ygu
       split
       ·exact hdel
       ·intro j q e' he'
        by_cases hj:k=j
        ·subst hj
         rw[We]at he'; cases he'
         simp only[E.val,A.ev,look,if_true]
         rw[<-hh]
         exact⟨fun hs=>by rw[hk.1 hs,hs]; rfl,hk.2⟩
        ·rw[Zo hj]at he'
         exact hdel j q e' he'
      ·cases h1
     ·cases h1
    ·cases h1
   ·cases h
  ·cases h

theorem Xr1 {lv:List Nat}:∀{σ:Sg} {k:Nat} {e:E},ent (kill lv σ) k=some (p,e)->ent σ k=some (p,e)
 | [],_,_,h=>h
 | (j,x)::r,k,e,h=>by
  by_cases hj:j=k
  ·subst hj
   rw[We]
   simp only[kill]at h
   split at h
   ·rwa [We]at h
   ·rw[We]at h; cases h
  ·rw[Zo hj]
   simp only[kill]at h
   refine Xr1 (lv:=lv) (σ:=r) ?_
   split at h
   ·rwa [Zo hj]at h
   ·rwa [Zo hj]at h
theorem Inv.kill {lv:List Nat}(hI:Inv T σ sl sl0 ob):Inv T (kill lv σ) sl sl0 ob:=fun k p e h=>hI k p e (Xr1 h)

theorem Inv.fold' (hI:Inv T σ sl sl0 ob){k:Nat}{e:E}(hg:Xmt (Xfk σ k) k=true)(hp:U4 k p=true){v:V}(h1:Xr sl p=true->v=e.val T sl0 ob)(h2:Xr sl p=false->v=.undef) :
  Inv T ((k,some (p,e))::Xfk σ k) ((k,v)::sl) sl0 ob:=by
 intro j q e' he
 by_cases hj:k=j
 ·subst hj
  rw[We]at he; cases he
  rw[Uk hp]
  simp only[look,if_true]
  exact⟨h1,h2⟩
 ·rw[Zo hj]at he
  rw[Uk (Xal hg he)]
  rw[Zv hj]at he
  simp only[look,hj,if_false]
  exact hI j q e' he

theorem Inv.eff (hI:Inv T σ sl sl0 ob){d:Option Nat}(hf:Yb6 σ p d=true)(hr:Yi5 σ=true){v:V}{ob':Objs}:Inv T (Ymw σ d) (put sl d v) (put sl0 d v) ob':=by
 cases d with
 | none=>
  intro j q e he
  rw[E.val_ob (ob':=ob) (Xsg hr he)]
  exact hI j q e he
 | some k=>
  simp only[Yb6,Bool.and_eq_true]at hf
  intro j q e he
  simp only[put,Ymw]at he⊢
  by_cases hj:k=j
  ·subst hj
   rw[Xfn]at he; cases he
   simp[Xr,E.val,A.ev,look]
  ·have he':=he
   rw[Uk (Xal hf.1.2 he')]
   rw[Zv hj]at he
   rw[E.val_sl (Xkv hf.1.1 hj he),E.val_ob (ob':=ob) (Xsg hr he)]
   simp only[look,hj,if_false]
   exact hI j q e he
theorem J3 (hI:Inv T σ sl sl0 ob):∀{keep:List Nat} {kp:List (Nat×E)},Xkk σ keep=some kp->Ql T sl0 ob kp=Xf sl keep/\(Vm T sl0 ob kp->∀k∈keep,∀p e,ent σ k=some (p,e)->e.ok T sl0 ob)
 | [],kp,h=>by simp only[Xkk]at h; cases h; exact⟨rfl,fun _ _ h=>(by cases h)⟩
 | k::r,kp,h=>by
  simp only[Xkk]at h
  split at h
  ·rename_i e l he hl
   cases h
   obtain⟨h1,h2⟩:=J3 hI hl
   refine⟨by simp only[Ql,Xf,h1,(hI k [] e he).1 rfl],fun ho j hj p e' he'=>?_⟩
   rcases List.mem_cons.mp hj with rfl | hj
   ·rw[he]at he'; cases he'; exact ho.1
   ·exact h2 ho.2 j hj p e' he'
  ·cases h

def Xv5 (T:Tab)(σ:Sg)(pe pg:List Nat)(sl sl0:Xb)(ob:Objs):Prop:=
 (∀k∈pe,∀p e,ent σ k=some (p,e)->Xr sl p=true->e.ok T sl0 ob)/\
 (∀k∈pg,∀p e,ent σ k=some (p,e)->Xr sl p=true->Xds (e.val T sl0 ob))

theorem Xk6 {fs:List Nat}{i:I}{k:Nat}{e:E}{pe pg:List Nat}{v:V}(hI:Inv T σ sl sl0 ob)(he:i.lift fs σ p=some e)(c1:Xmt (Xfk σ k) k=true)(c2:U4 k p=true)(c3:k∉pe)(c4:k∉pg)
  (h:Xv5 T ((k,some (p,e))::Xfk σ k) (Yky e k (pe.filter fun j=>!(i.cons σ p).contains j)) (pg.filter fun j=>!(i.gcons σ p).contains j) ((k,v)::sl) sl0 ob) :
  Xv5 T σ pe pg sl sl0 ob/\(Xr sl p=true->e.ok T sl0 ob):=by
 obtain⟨a1,a2⟩:=h
 have hok:Xr sl p=true->e.ok T sl0 ob:=fun hh=>by
  cases hA:e.isA with
  | true=>cases e<;>simp[E.isA]at hA; trivial
  | false=>exact a1 k (by simp[Yky,hA]) p e We (by rw[Uk c2]; exact hh)
 refine⟨⟨fun j hj q e' he' hq=>?_,fun j hj q e' he' hq=>?_⟩,hok⟩
 ·by_cases hm:j∈i.cons σ p
  ·exact I.cov hI he hm he' hq hok
  ·have hkj:k ≠ j:=fun e=>c3 (e▸hj)
   refine a1 j ?_ q e' (by rw[Zo hkj,Zv hkj]; exact he') ?_
   ·simp only[Yky]; split<;>simp[hj,hm]
   ·rw[Uk]; exact hq
    exact Xal c1 (by rw[Zv hkj]; exact he')
 ·by_cases hm:j∈i.gcons σ p
  ·exact I.gcov he hm he' hq hok
  ·have hkj:k ≠ j:=fun e=>c4 (e▸hj)
   refine a2 j ?_ q e' (by rw[Zo hkj,Zv hkj]; exact he') ?_
   ·simp only[List.mem_filter]; exact⟨hj,by simp[hm]⟩
   ·rw[Uk]; exact hq
    exact Xal c1 (by rw[Zv hkj]; exact he')

theorem X0b {fs keep pk:List Nat}:∀(its:List It) {σ:Sg} {pe pg:List Nat} {sl sl0:Xb} {ob:Objs} {l:List It2} {kp:List (Nat×E)},Inv T σ sl sl0 ob->Xaw fs keep pk its σ pe pg=some (l,kp)->
  Us P T (fun sl ob=>Vm T sl ob kp/\K (Ql T sl ob kp) ob) Pn l sl0 ob->Xv5 T σ pe pg sl sl0 ob
 | [],σ,pe,pg,sl,sl0,ob,l,kp,hI,h,hr=>by
  simp only[Xaw]at h
  split at h
  ·rename_i c1 c2 kp' h1 h2 h3
   cases h
   obtain⟨a1,hr⟩:=Zd hI h1 hr
   obtain⟨a2,hr⟩:=Zd hI (l:=[]) h2 (by simpa using hr)
   simp only[Us]at hr
   obtain⟨_,a3⟩:=J3 hI h3
   refine⟨fun k hk p e he hp=>?_,fun k hk p e he hp=>(a2 k hk p e he hp).2.1⟩
   by_cases hm:k∈keep
   ·exact a3 hr.1 k hm p e he
   ·exact a1 k (by simp[hk,hm]) p e he hp
  ·cases h
 | it::r,σ,pe,pg,sl,sl0,ob,l,kp,hI,h,hr=>by
  simp only[Xaw]at h
  split at h
  ·cases h
  ·rename_i p gs hp
   split at h
   ·rename_i k e hd he
    split at h
    ·rename_i hc
     simp only[Bool.and_eq_true,Bool.not_eq_true',List.contains_eq_mem,decide_eq_false_iff_not]at hc
     obtain⟨⟨⟨c1,c2⟩,c3⟩,c4⟩:=hc
     have hI':=hI.fold' (e:=e) c1 c2 (v:=Xjb (Xr sl p) (e.val T sl0 ob)) (fun h=>by rw[h]; rfl) (fun h=>by rw[h]; rfl)
     obtain⟨a,_⟩:=Xk6 hI he c1 c2 c3 c4 (X0b r hI' h hr)
     exact⟨a.1,fun j hj=>a.2 j (List.mem_append.mpr (.inr hj))⟩
    ·cases h
   ·split at h
    ·rename_i c1 c2 h1 h2
     split at h
     ·split at h
      ·split at h
       ·split at h
        ·cases h
         obtain⟨a1,hr⟩:=Zd hI h1 hr
         obtain⟨a2,hr⟩:=Zd hI h2 hr
         exact⟨a1,fun k hk p e he hp=>(a2 k (List.mem_append.mpr (.inr hk)) p e he hp).2.1⟩
        ·cases h
       ·cases h
      ·cases h
     ·cases h
    ·cases h
end
end Go.Ab
