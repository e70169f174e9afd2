/- Joined texts, part 3 of 13. Regions folded into expressions: the fold of a whole region, and that it Xvf what is shown. Over any program; no condition. -/
import Derived.Test.YtghnkpkellnmdaaGreatDoorT2
import Derived.Tactics
import Derived.RangeFuncIn
set_option linter.unusedSimpArgs false
set_option linter.unusedVariables false
set_option linter.unusedSectionVars false
set_option linter.defProp false
namespace Go.Ab
open Go
def put(a:Xf)(d:Option Nat)(v:V):Xf:=match d with
|some k=>(k,v)::a
|none=>a
inductive It where
|op (d:Option Nat) (i:I)
|Ew (s:Nat) (want:Bool) (d:Option Nat) (i:I)
def GC(s:Nat)(a:Bool)(c:Xf)(Y N:Xf->Prop):V->Prop
|.d (.bool b)=>(b=a->Y ((s,.d (.bool a))::c))/\(b=!a->N ((s,.d (.bool (!a)))::c))
|.undef=>N c
|_=>False
def Ey(P:BE)(K:Xf->AE->Prop)(e:V->Xf->AE->Prop):List It->Xf->AE->Prop
|[],b,c=>K b c
|.op d i::r,b,c=>i.wp P b c (λv a=>Ey P K e r (put b d v) a) (λv a=>e v b a)
|.Ew s f d i::r,b,c=>GC s f b (λb=>i.wp P b c (λv a=>Ey P K e r (put b d v) a) (λv a=>e v b a)) (λb=>Ey P K e r (put b d .undef) c) (BG b s)
mutual
inductive Ot where
|done
|Ba (i:Nat) (x:It) (r:Ot)
|br (l:Gv)
inductive Gv where
|nil
|cons (i:Nat) (x:It) (r:Ot) (l:Gv)
end
def G7(P:BE)(next:Xf->AE->Prop)(f:V->Xf->AE->Prop):It->Xf->AE->Prop
|.op d i,b,e=>i.wp P b e (λv a=>next (put b d v) a) (λv a=>f v b a)
|.Ew s c d i,b,e=>GC s c b (λb=>i.wp P b e (λv a=>next (put b d v) a) (λv a=>f v b a)) (λb=>next (put b d .undef) e) (BG b s)
mutual
def FC(P:BE)(K:Xf->AE->Prop)(c:V->Xf->AE->Prop):Ot->Xf->AE->Prop
|.done,b,a=>K b a
|.Ba _ x r,b,a=>G7 P (FC P K c r) c x b a
|.br l,b,a=>I0 P K c l b a
def I0(P:BE)(K:Xf->AE->Prop)(a:V->Xf->AE->Prop):Gv->Xf->AE->Prop
|.nil,_,_=>True
|.cons _ x r l,c,b=>G7 P (FC P K a r) a x c b/\I0 P K a l c b
end
inductive S where
|rg (ord:List Nat) (l:List It) (keep pk:List Nat)
|Gs (n:Nat) (t:Ot) (keep pk:List Nat)
|seq (a b:S)
|skip
|cond (c:A) (a b:S)
|block (n:Nat) (a:S)
|loop (keep:List Nat) (a:S)
|exit (n:Nat)
|ret
 |Ia (tag:Nat) (ps:List Nat) (g:A) (x y:S) (keep:List Nat)
def S.Fw:S->Bool
|.seq a b=>a.Fw&&b.Fw
|.cond _ a b=>a.Fw&&b.Fw
|.block _ a=>a.Fw
|.loop _ a=>a.Fw
|.Ia _ _ _ _ _ _=>false
|_=>true
inductive H8 where
|normal
|exit (n:Nat)
|ret
|panic (v:V)
abbrev Z5:=H8->Xf->AE->Prop
def V2(next:Xf->AE->Prop)(Q:Z5):Z5
|.normal,b,a=>next b a
|.exit n,b,a=>Q (.exit n) b a
|.ret,b,a=>Q .ret b a
|.panic v,b,a=>Q (.panic v) b a
def Zu(id:Nat)(Q:Z5):Z5
|.normal,b,a=>Q .normal b a
|.exit n,b,a=>if n=id then Q .normal b a else Q (.exit n) b a
|.ret,b,a=>Q .ret b a
|.panic v,b,a=>Q (.panic v) b a
def II(Y N:Prop):V->Prop
|.d (.bool t)=>(t=true->Y)/\(t=false->N)
|_=>False
def X0(a:Xf):List Nat->Xf
|[]=>[]
|k::r=>(k,BG a k)::X0 a r
mutual
def V.Bg(c:Nat->Bool):V->Bool
|.ptr id _=>c id
|.sl id _=>c id
|.sd id _=>c id
|.mp id=>c id
|.hd _ id=>c id
|.ep id _ _ _ _ _=>c id
|.bs id _ _ _=>c id
|.fn _ a b=>Bu c a||Bu c b
|.agg d=>Bu c d
|.iface _ v=>V.Bg c v
|.BU d=>Bu c d
|_=>false
def Bu(a:Nat->Bool):List V->Bool
|[]=>false
|x::r=>V.Bg a x||Bu a r
end
def Xo(a:Nat->Bool):AE->AE
|[]=>[]
|(j,x)::r=>if a j then Xo a r else (j,x)::Xo a r
def Vo(a:Nat->Bool):Xf->Bool
|[]=>true
|(_,v)::r=>!V.Bg a v&&Vo a r
def Zp(a:Nat->Bool):List (D×V)->Bool
|[]=>false
|(_,v)::r=>V.Bg a v||Zp a r
def qI(a:Nat->Bool):Option Nat->Bool
|some j=>a j
|none=>false
def AN(a:Nat->Bool):AE->Bool
|[]=>true
|(_,.box _ t)::r=>!V.Bg a t&&AN a r
|(_,.A0 _ _ d)::r=>!Bu a d&&AN a r
|(_,.map b)::r=>!Zp a b&&AN a r
|(_,.lp _ _ c)::r=>Vo a c&&AN a r
|(_,.it m _ _)::r=>!qI a m&&AN a r
|_::r=>AN a r
def AF(n:Nat)(a:List Nat)(id:Nat):Bool:=decide (n<=id)&&!a.contains id
def Wk(d b:AE):Prop:=∀w c,OM w c d->∃a,Tr w c w a/\OM w a b
theorem Wk.refl(a:AE):Wk a a:=λw b h=>⟨b,Tr.refl w b,h⟩
def Wk.trans{a b c:AE}(h:Wk a b)(f:Wk b c):Wk a c:=λw l o=>by
 obtain⟨d,j,g⟩:=h w l o;obtain⟨e,k,i⟩:=f w d g;exact⟨e,j.trans k,i⟩
def sub(a:List Nat)(n:Nat)(K:Xf->AE->Prop)(d:Xf)(e:AE):Prop:=
 ∃(c:List Nat) (b:AE),Wk e b/\Vo (AF n c) (X0 d a)=true/\AN (AF n c) (Xo (AF n c) b)=true/\K (X0 d a) (Xo (AF n c) b)
structure Aw(keep:List Nat)(body:Z5->Xf->AE->Prop)(Q:Z5)(sl:Xf)(ob:AE):Prop where
 run:∃(ι:Type) (S:ι->Xf) (O:ι->AE) (I:ι->Prop) (μ:ι->Nat) (i0:ι),I i0/\X0 sl keep=S i0/\Wk ob (O i0)/\
  ∀i,I i->body (V2 (sub keep (AA (O i)) λsl' ob'=>∃j,I j/\μ j<μ i/\sl'=S j/\ob'=O j) Q) (S i) (O i)
def I6(N:Nat):Option Nat->Option Nat->Bool
|some k,some j=>k==j&&decide (k<N)
|none,none=>true
|_,_=>false
def It.An(P:Program)(N:Nat)(c:Array Oper)(o:Oper):It->Bool
|.op d i=>I6 N o.dst d&&o.guard.isNone&&i.An P o.op
|.Ew s a d i=>I6 N o.dst d&&(match o.guard with
 |some (j,b)=>b==a&&(match c[j]? with|some e=>e.dst==some s|none=>false)
 |none=>false)&&i.An P o.op
def V7(P:Program)(N:Nat)(a:Array Oper):List Oper->List It->Bool
|[],[]=>true
|o::r,i::s=>i.An P N a o&&V7 P N a r s
|_,_=>false
def It.kind:It->Nat
|.op _ i=>i.kind
|.Ew _ _ _ i=>i.kind
def Yoi:List Nat->List It->Nat->Nat
|i::r,x::s,j=>if i=j then x.kind else Yoi r s j
|_,_,_=>3
def T3(a:Array Oper)(i j:Nat):Bool:=Ga .any a i 1 j||Ga .any a i 2 j||Ga .any a i 3 j||Ga .any a i 4 j||Ga .any a i 5 j||Ga .any a i a.size j
theorem Xtl{b:Array Oper}{i j:Nat}(h:T3 b i j=true):∃a,Ga .any b i a j=true:=by
 grind[T3]
def Pc(P:Program)(N:Nat)(b:Array Oper)(c:Nat->Nat)(a:Array Bool):List Nat->List It->Bool
|[],[]=>(Region.ready .any b a).isEmpty
|i::r,x::s=>(Region.ready .any b a).contains i&&(match b[i]? with|some o=>x.An P N b o|none=>false)&&x.kind==c i&&
 (match x.kind with
 |0=>Region.free .any b a i
 |5=>Region.free .any b a i
 |1=>Region.free .any b a i&&(List.range b.size).all (λj=>c j != 3||j==i||T3 b i j)
 |_=>(Region.ready .any b a)==[i])&&
 Pc P N b c (a.setIfInBounds i true) r s
|_,_=>false
mutual
def Ot.kinds:Ot->List (Nat×Nat)
|.done=>[]
|.Ba i x r=>(i,x.kind)::r.kinds
|.br l=>l.kinds
def Gv.kinds:Gv->List (Nat×Nat)
|.nil=>[]
|.cons i x r l=>(i,x.kind)::(r.kinds++l.kinds)
end
def nt:List (Nat×Nat)->Nat->Nat
|[],_=>3
|(i,k)::r,j=>if i=j then k else nt r j
def Gv.has(j:Nat):Gv->Bool
|.nil=>false
|.cons i _ _ l=>i==j||l.has j
mutual
def V6(P:Program)(N:Nat)(b:Array Oper)(c:Nat->Nat):Nat->Array Bool->Ot->Bool
|0,a,.done=>(Region.ready .any b a).isEmpty
|n+1,a,.Ba i x r=>(Region.ready .any b a).contains i&&(match b[i]? with|some o=>x.An P N b o|none=>false)&&x.kind==c i&&
 (match x.kind with
 |0=>Region.free .any b a i
 |5=>Region.free .any b a i
 |1=>Region.free .any b a i&&(List.range b.size).all (λj=>c j != 3||j==i||T3 b i j)
 |_=>(Region.ready .any b a)==[i])&&
 V6 P N b c n (a.setIfInBounds i true) r
|n+1,a,.br l=>!(Region.ready .any b a).isEmpty&&(Region.ready .any b a).all (λj=>l.has j)&&PC P N b c n a l
|_,_,_=>false
def PC(P:Program)(N:Nat)(b:Array Oper)(c:Nat->Nat):Nat->Array Bool->Gv->Bool
|_,_,.nil=>true
|n,a,.cons i x r l=>(Region.ready .any b a).contains i&&(match b[i]? with|some o=>x.An P N b o|none=>false)&&x.kind==c i&&V6 P N b c n (a.setIfInBounds i true) r&&PC P N b c n a l
end
def TR(b:List Nat)(a:Array Oper):Bool:=a.toList.all λo=>match o.dst with
|some d=>!b.contains d
|none=>true
def aB(a:Array Oper):Bool:=a.toList.all λo=>match o.op with
|.defer _=>false
|_=>true
def S.An(P:Program)(N:Nat):Code->S->Bool
|.skip,.skip=>true
|.region _ e h,.rg i l _ j=>aB e&&if h then decide (i.length<=e.size)&&Region.noSelect e&&TR j e&&Pc P N e (Yoi i l) (Array.replicate e.size false) i l else V7 P N e e.toList l
|.region _ e h,.Gs n t _ j=>aB e&&h&&decide (n<=e.size)&&Region.noSelect e&&TR j e&&V6 P N e (nt t.kinds) n (Array.replicate e.size false) t
|.seq a b,.seq x y=>S.An P N a x&&S.An P N b y
|.cond c a b,.cond d x y=>A.An c d&&S.An P N a x&&S.An P N b y
|.block n a,.block m x=>n==m&&S.An P N a x
|.loop a,.loop _ x=>S.An P N a x
|.exit n,.exit m=>n==m
|.ret,.ret=>true
|.rangeFunc f p a c,.Ia _ o g x y _=>A.An f g&&((p.toList==o)&&o.all (λk=>decide (k<N))&&S.An P N a x&&S.An P N c y&&x.Fw&&y.Fw)
|_,_=>false
def PH(P:BE)(a:Nat)(d:List Nat)(x y:S):Prop:=∀(e:Array Nat)(N:Nat)(b c:Code),P.g.l a e N b c↔((e.toList==d)&&d.all (λk=>decide (k<N))&&S.An P.p N b x&&S.An P.p N c y&&x.Fw&&y.Fw)=true
def Sm(Q:Z5)(a:Xf)(id:Nat)(b:AE):Option Ob->Prop
|some (.lp _ .ready _)=>Q .normal a (AG b id .Ar)
|some (.lp _ .ret _)=>Q .ret a (AG b id .Ar)
|some (.lp _ (.exit n) _)=>Q (.exit n) a (AG b id .Ar)
|_=>False
def MX(Q:Z5)(a:Xf)(id:Nat):BQ->AE->Prop
|.ret _,b=>Sm Q a id b (AD b id)
|.panic _,_=>False
def Nh(P:BE)(c:Nat)(a:Xf)(b:AE)(Q:Z5):V->Prop
|.fn f g e=>Xd P.p f=true/\Aa P f (g++[.hd true (AA b)]++e) ((AA b,.lp c .ready a)::b) (MX Q a (AA b))
|.d (.fn f g e)=>Xd P.p f=true/\Aa P f (g.map .d++[.hd true (AA b)]++e.map .d) ((AA b,.lp c .ready a)::b) (MX Q a (AA b))
|_=>False
def EX(P:BE):S->Z5->Xf->AE->Prop
|.rg _ l f i,Q,d,e=>Ey P (λd e=>Q .normal (X0 d f) e) (λv d e=>Q (.panic v) (X0 d i) e) l d e
|.Gs _ t f i,Q,d,e=>FC P (λd e=>Q .normal (X0 d f) e) (λv d e=>Q (.panic v) (X0 d i) e) t d e
|.seq a b,Q,d,e=>EX P a (V2 (EX P b Q) Q) d e
|.skip,Q,d,e=>Q .normal d e
|.cond c a b,Q,d,e=>II (EX P a Q d e) (EX P b Q d e) (c.ev d)
|.block n a,Q,d,e=>EX P a (Zu n Q) d e
|.loop f a,Q,d,e=>Aw f (EX P a) Q d e
|.exit n,Q,d,e=>Q (.exit n) d e
|.ret,Q,d,e=>Q .ret d e
|.Ia h j g x y f,Q,d,e=>PH P h j x y/\Nh P h (X0 d f) e Q (g.ev d)
structure EH where
 w0:World
 ex:Nat->Prop
 N:Nat
 df:List Deferred
 g:Gl
 m0:Nat->Option RO
 ev:List (V×Value)
 Sk:Bool:=false
def BF.Cs(b:BF)(a:Nat->Bool):BF:=⟨λj=>if a j then none else b.m j,b.xo,b.gl⟩
def KX(r:Nat):Deferred:={target:=.collected r,args:=#[] }
def Fa(c:EH)(w:World)(d:BF)(b:List Deferred):Prop:=
 ∃a:List Nat,b=a.map KX++c.df/\(c.Sk=false->a=[])/\a.Nodup/\∀r∈a,c.w0.heap.size<=r/\w.heap[r]? = some (.deferred (some []))/\¬FW d r
def Fa.tr{c:EH}{w g:World}{ρ a:BF}{d:List Deferred}(h:Fa c w ρ d)(t:Tr w ρ g a):Fa c g a d:=by
 obtain⟨o,j,k,l,m⟩:=h;refine⟨o,j,k,l,λr n=>?_⟩;obtain⟨i,e,f⟩:=m r n;have b:r<w.heap.size:=Xu e;exact⟨i,(t.keep r f b).trans e,λh=>(t.DY r h).elim f (λh=>by omega)⟩
theorem Fa.put{c:EH}{w:World}{d:BF}{a b:Act}(h:Fa c w d a.defers)(e:b.defers=a.defers):Fa c w d b.defers:=by rw[e];exact h
def Fa.Cs{c:EH}{w:World}{d:BF}{g:List Deferred}{a:Nat->Bool}(h:Fa c w d g)(l:∀b,FW (d.Cs a) b->FW d b):Fa c w (d.Cs a) g:=by
 obtain⟨m,i,j,k,e⟩:=h;exact⟨m,i,j,k,λr f=>⟨(e r f).1,(e r f).2.1,λh=>(e r f).2.2 (l r h)⟩⟩
def Fa.nil{c:EH}{w:World}{a:BF}:Fa c w a c.df:=⟨[],rfl,λ_=>rfl,List.nodup_nil,λ_ h=>by cases h⟩
def Fa.eq{c:EH}{w:World}{f:BF}{a:List Deferred}(h:Fa c w f a)(e:c.Sk=false):a=c.df:=by
 obtain⟨g,b,d,_⟩:=h;rw[b,d e];rfl
structure Kc(c:EH)(w:World)(ρ:BF):Prop where
 size:c.w0.heap.size<=w.heap.size
 keep:∀b,b<c.w0.heap.size->¬c.ex b->w.heap[b]? = c.w0.heap[b]?
 DY:∀b,FW ρ b->c.w0.heap.size<=b\/c.ex b
 tape:w.tape=c.w0.tape
 os:w.os=c.w0.os
 C3:w.output=c.w0.output
 same:∀id o,c.m0 id=some o->∃o',ρ.m id=some o'/\o.le o'
 ext:∀p∈c.ev,p.1.A1 w ρ p.2
 drawn:c.w0.drawn<=w.drawn
def Kc.tr{c:EH}{w i:World}{ρ e:BF}(h:Kc c w ρ)(t:Tr w ρ i e):Kc c i e:=by
 refine⟨IE h.size t.size,λb d f=>?_,λb d=>?_,t.tape.trans h.tape,t.os.trans h.os,t.C3.trans h.C3,λid o d=>?_,λp l=>HD t (h.ext p l),IE h.drawn t.drawn⟩
 ·refine(t.keep b (λa=>?_) (O5 d h.size)).trans (h.keep b d f)
  exact(h.DY b a).elim (λh=>by omega) f
 ·rcases t.DY b d with a|a
  ·exact h.DY b a
  ·exact .inl (IE h.size a)
 ·obtain⟨m,f,a⟩:=h.same id o d
  obtain⟨g,j,k⟩:=t.same id m f;exact⟨g,j,a.trans k⟩
structure De(c:EH)(xo:Nat->Prop)(ρ:BF)(sl:Xf)(ob:AE)(a:Act)(w:World):Prop where
 BA:Kc c w ρ
 om:OM w ρ ob
 sm:SM w ρ sl a
 size:a.tmps.size=c.N
 df:Fa c w ρ a.defers
 xo:ρ.xo=xo
 gl:ρ.gl=c.g
def EF(w:World)(b:BF):Exit->H8->Prop
|.normal,.normal=>True
|.exit n,.exit m=>n=m
|.ret,.ret=>True
|.panic a,.panic v=>∃u,a=[{v:=u,recovered:=false}]/\v.A1 w b u
|_,_=>False
def Af(c:EH)(h:Nat->Prop)(Q:Z5):Exit->Act->World->Prop:=
 λe a w=>∃b f d g,Q b f d/\EF w g e b/\De c h g f d a w
def X2{w:World}{c:BF}{f:Xf}{a:Act}{d:Option Nat}{x:V}{v:Value}{N:Nat}{o:Option Nat}(b:I6 N o d=true)(g:a.tmps.size=N)(e:SM w c f a)(l:x.A1 w c v):
 SM w c (put f d x) (a.put o v)/\(a.put o v).tmps.size=N/\(a.put o v).defers=a.defers:=by
 cases o with
 |none=>
  cases d with
  |none=>exact⟨e,g,rfl⟩
  |some j=>simp[I6]at b
 |some k=>
  cases d with
  |none=>simp[I6]at b
  |some j=>
   simp only[I6,BX,EN,D2]at b;obtain⟨rfl,h⟩:=b;refine⟨λi=>?_,by grind[Act.put],rfl⟩;simp only[put,BG,Act.put];split
   ·simp_all
   ·have:=e i
    simp_all
def Xts{c:Array Oper}{a:Act}{j s:Nat}{d:Oper}{b:Bool}(e:c[j]? = some d)(f:d.dst=some s)(g:a.tmps.getD s undef=.bool b):yielded c a.tmps j=some b:=by
 have h:s<a.tmps.size:=by
  grind[undef]
 simp_all[yielded]
theorem Xp7{b:Array Oper}{a:Act}{j s:Nat}{e:Oper}(f:b[j]? = some e)(g:e.dst=some s)(d:a.tmps.getD s undef=undef):yielded b a.tmps j=none:=by
 rcases QV s a.tmps.size with c|c
 ·simp only[Array.getD,c,dif_pos]at d
  have:a.tmps[s]? = some (.tuple #[]):=by rw[Array.getElem?_eq_getElem c];exact DH some d
  simp_all[yielded]
 simp_all[yielded]
def W6{w:World}{m:BF}{l:Xf}{a:Act}{ops:Array Oper}{o:Oper}{s:Nat}{i:Bool}{Y N:Xf->Prop}(p:SM w m l a)
 (g:(match o.guard with|some (j,b)=>b==i&&(match ops[j]? with|some n=>n.dst==some s|none=>false)|none=>false)=true)
 (h:GC s i l Y N (BG l s)):
 (Region.wanted o (yielded ops a.tmps)=true/\∃f,SM w m f a/\Y f)\/(Region.wanted o (yielded ops a.tmps)=false/\∃f,SM w m f a/\N f):=by
 split at g
 ·rename_i j b z
  simp at g;obtain⟨rfl,g⟩:=g;split at g
  ·rename_i n v
   have u:n.dst=some s:=by simpa using g
   have q:=p s;have x:∀c:Bool,a.tmps.getD s undef=.bool c->SM w m ((s,.d (.bool c))::l) a:=λc y k=>by
    simp only[BG];split
    ·simp_all[BW]
    ·exact p k
   unfold GC at h;split at h
   ·rename_i c e
    rw[e,BW]at q;have F:=Xts (a:=a) v u q;by_cases r:c=b
    ·grind[Region.wanted]
    ·have t:c=!b:=by cases c<;>cases b<;>simp_all
     grind[Region.wanted]
   ·grind[Wz,Xp7,Region.wanted]
   ·cases h
  ·simp at g
 ·simp at g
def eN{P:BE}{c:EH}(W:P.g=c.g){xo:Nat->Prop}{ops:Array Oper}{Q:Exit->Act->World->Prop}{K:Xf->AE->Prop}{G:V->Xf->AE->Prop}
 (T:∀b f j a w,K b f->De c xo j b f a w->Q .normal a w)
 (U:∀v b f j a w u,G v b f->De c xo j b f a w->v.A1 w j u->Q (.panic [{v:=u,recovered:=false}]) a w):
 ∀(l:List Oper)(F:List It)(b:Xf)(f:AE)(j:BF)(a:Act)(w:World),V7 P.p c.N ops l F=true->Ey P K G F b f->De c xo j b f a w->Nx P.p ops Q l a w
|[],[],b,f,j,a,w,_,h,m=>by exact T b f j a w h m
|o::r,i::s,b,f,j,a,w,q,h,m=>by
 simp only[V7,BX]at q;obtain⟨k,h2⟩:=q;have step:∀(d:Option Nat)(x:I)(b:Xf),SM w j b a->I6 c.N o.dst d=true->x.An P.p o.op=true->x.wp P b f (λv e=>Ey P K G s (put b d v) e) (λv e=>G v b e)->Ef P.p o a w (Nx P.p ops Q r) Q:=by
  intro d x b z hd hx H;refine I.A2 (m.gl.trans W.symm) z m.om hx H o rfl _ _ (λv y e w' n X Z Y t=>?_) (λu y e w' n X Z Y t=>?_)
  ·obtain⟨J,L,O⟩:=X2 hd m.size (z.tr t) Z
   exact eN W T U r s _ e n _ w' h2 X ⟨m.BA.tr t,Y,J,L,(m.df.tr t).put O,t.xo.trans m.xo,t.gl.trans m.gl⟩
  ·exact U y b e n a w' u X ⟨m.BA.tr t,Y,z.tr t,m.size,m.df.tr t,t.xo.trans m.xo,t.gl.trans m.gl⟩ Z
 cases i with
 |op d x=>
  simp only[It.An,BX,Mi]at k;simp only[Nx,Region.wanted,k.1.2,CP];exact step d x b m.sm k.1.1 k.2 h
 |Ew g ab d x=>
  simp only[It.An,BX]at k;simp only[Nx];rcases W6 (ops:=ops) m.sm k.1.2 h with⟨H,aa,z,h⟩|⟨H,aa,z,h⟩
  ·grind
  ·rw[H]
   obtain⟨J,L,O⟩:=X2 k.1.1 m.size z (Wz.2 rfl);exact eN W T U r s _ f j _ w h2 h ⟨m.BA,m.om,J,L,m.df.put O,m.xo,m.gl⟩
|[],_::_,_,_,_,_,_,q,_,_=>by simp[V7]at q
|_::_,[],_,_,_,_,_,q,_,_=>by simp[V7]at q
def SM.keep{w:World}{c:BF}{b:Xf}{a:Act}(d:SM w c b a)(l:List Nat):SM w c (X0 b l) a:=by
 intro k;induction l with
 |nil=>exact Nv
 |cons j r f=>
  simp only[X0,BG];split
  next e=>subst e;exact d j
  ·exact f
def Vc{d:BF}{c:Nat->Bool}{b:Nat}(h:FW (d.Cs c) b):FW d b:=by
 obtain⟨j,o,a,e⟩:=h;simp only[BF.Cs]at a;split at a
 ·cases a
 ·exact⟨j,o,a,e⟩
def gO(w:World)(b:BF)(a:Nat->Bool):Gb w (CS b) w (CS (b.Cs a)):=λ_ h _=>
 ⟨rfl,λc=>h (c.elim (λh=>.inl (Vc h)) .inr)⟩
mutual
def Nn{w:World}{k:BF}{g:Nat->Bool}:∀(x:V)(a:List Value),V.Bg g x=false->x.Au w k a->x.Au w (k.Cs g) a
|.d x,a,_,h=>by exact Ih (gO w k g) x a h
|.ptr id p,a,b,h=>by
 simp_all[V.Au,V.Bg,BF.Cs]
|.sl id n,a,b,h=>by
 simp_all[V.Au,V.Bg,BF.Cs]
|.sd id n,a,b,h=>by
 simp_all[V.Au,V.Bg,BF.Cs]
|.mp id,a,b,h=>by
 simp_all[V.Au,V.Bg,BF.Cs]
|.hd y id,a,b,h=>by
 simp_all[V.Au,V.Bg,BF.Cs]
|.bs id p G n,a,b,h=>by
 simp_all[V.Au,V.Bg,BF.Cs]
|.ep id n z i f p,a,b,h=>by
 simp_all[V.Au,V.Bg,BF.Cs]
|.fn f v t,a,b,h=>by
 simp only[V.Bg,HG]at b;obtain⟨m,o,e,c,F⟩:=h;exact⟨m,o,e,Su v m b.1 c,Su t o b.2 F⟩
|.agg j,a,b,h=>by
 exact dO j a b h
|.iface H x,a,b,h=>by
 obtain⟨u,e,c⟩:=h;refine⟨u,e,?_⟩;rcases c with c|⟨p,l,q,r⟩|⟨p,r⟩
 ·exact .inl c
 ·exact .inr (.inl ⟨p,l,q,Nn x l b r⟩)
 ·exact .inr (.inr ⟨p,Nn x _ b r⟩)
|.BU j,a,b,h=>by
 obtain⟨s,e,c⟩:=h;exact⟨s,e,Su j s b c⟩
|.undef,a,_,h=>by simp_all[V.Au]
|.any,a,_,h=>by simp_all[V.Au]
def dO{w:World}{i:BF}{a:Nat->Bool}:∀(d:List V)(b:List Value),Bu a d=false->Cg w i d b->Cg w (i.Cs a) d b
|[],b,_,h=>by simp_all[Cg]
|x::r,b,c,h=>by
 simp only[Bu,HG]at c;obtain⟨f,g,e,j,k⟩:=h;exact⟨f,g,e,Nn x f c.1 j,dO r g c.2 k⟩
def Su{w:World}{j:BF}{a:Nat->Bool}:∀(f:List V)(c:List Value),Bu a f=false->V.BT w j f c->V.BT w (j.Cs a) f c
|[],c,_,h=>by simp_all[V.BT]
|x::r,c,b,h=>by
 simp only[Bu,HG]at b;obtain⟨u,i,e,d,k⟩:=h;refine⟨u,i,e,?_,Su r i b.2 k⟩;rcases d with d|⟨p,g,q,r⟩|⟨p,r⟩
 ·exact .inl d
 ·exact .inr (.inl ⟨p,g,q,Nn x g b.1 r⟩)
 ·exact .inr (.inr ⟨p,Nn x _ b.1 r⟩)
end
def Nq{w:World}{d:BF}{a:Nat->Bool}{x:V}{u:Value}(c:V.Bg a x=false)(h:x.A1 w d u):x.A1 w (d.Cs a) u:=by
 rcases h with e|⟨p,b,q,r⟩|⟨p,r⟩
 ·exact .inl e
 ·exact .inr (.inl ⟨p,b,q,Nn x b c r⟩)
 ·exact .inr (.inr ⟨p,Nn x _ c r⟩)
def Yp.Cs{w:World}{f:BF}{b:Nat->Bool}:∀(l:List (D×V)) (c:List MapEntry),Zp b l=false->Yp w f l c->Yp w (f.Cs b) l c
|[],c,_,h=>h
|(k,v)::r,c,d,h=>by
 simp only[Zp,HG]at d;obtain⟨e,a,g,i,j,m⟩:=h;exact⟨e,a,g,i,Nq d.1 j,Yp.Cs r a d.2 m⟩
def W8{a:Nat->Bool}:∀(b:AE)(j:Nat),AD (Xo a b) j=if a j then none else AD b j
|[],j=>by simp[Xo,AD]
|(k,x)::r,j=>by
 simp only[Xo];split
 ·rw[W8 r j]
  grind[AD]
 ·simp only[AD,W8 r j]
  grind
def FN.drop{a:Nat->Bool}:∀{b:AE},FN b->FN (Xo a b)
|[],h=>h
|(k,x)::r,h=>by
 simp only[Xo];split
 ·exact FN.drop h.2
 ·refine⟨?_,FN.drop h.2⟩
  rw[W8,h.1];split<;>rfl
def Zw{b:Nat->Bool}:∀(c:AE)(j E:Nat)(t:V),AN b c=true->AD c j=some (.box E t)->V.Bg b t=false
|[],j,E,t,_,h=>by simp[AD]at h
|(k,x)::r,j,E,t,a,h=>by
 simp only[AD]at h;split at h
 ·simp_all[AN]
 ·cases x with
  |box _ y=>simp only[AN,BX]at a;exact Zw r j E t a.2 h
  |A0 _ _ y=>simp only[AN,BX]at a;exact Zw r j E t a.2 h
  |map y=>simp only[AN,BX]at a;exact Zw r j E t a.2 h
  |BO _ z d=>exact Zw r j E t a h
  |Ar=>exact Zw r j E t a h
  |lp _ _ _=>simp only[AN,BX]at a;exact Zw r j E t a.2 h
  |it m _ _=>simp only[AN,BX]at a;exact Zw r j E t a.2 h
def Wm{c:Nat->Bool}:∀(d:AE)(j E b:Nat)(t:List V),AN c d=true->AD d j=some (.A0 E b t)->Bu c t=false
|[],j,E,b,t,_,h=>by simp[AD]at h
|(k,x)::r,j,E,b,t,a,h=>by
 simp only[AD]at h;split at h
 ·simp_all[AN]
 ·cases x with
  |box _ y=>simp only[AN,BX]at a;exact Wm r j E b t a.2 h
  |A0 _ _ y=>simp only[AN,BX]at a;exact Wm r j E b t a.2 h
  |map y=>simp only[AN,BX]at a;exact Wm r j E b t a.2 h
  |BO _ z e=>exact Wm r j E b t a h
  |Ar=>exact Wm r j E b t a h
  |lp _ _ _=>simp only[AN,BX]at a;exact Wm r j E b t a.2 h
  |it m _ _=>simp only[AN,BX]at a;exact Wm r j E b t a.2 h
def Wl{b:Nat->Bool}:∀(c:AE)(j:Nat) (t:List (D×V)),AN b c=true->AD c j=some (.map t)->Zp b t=false
|[],j,t,_,h=>by simp[AD]at h
|(k,x)::r,j,t,a,h=>by
 simp only[AD]at h;split at h
 ·simp_all[AN]
 ·cases x with
  |box _ y=>simp only[AN,BX]at a;exact Wl r j t a.2 h
  |A0 _ _ y=>simp only[AN,BX]at a;exact Wl r j t a.2 h
  |map y=>simp only[AN,BX]at a;exact Wl r j t a.2 h
  |BO _ z d=>exact Wl r j t a h
  |Ar=>exact Wl r j t a h
  |lp _ _ _=>simp only[AN,BX]at a;exact Wl r j t a.2 h
  |it m _ _=>simp only[AN,BX]at a;exact Wl r j t a.2 h
def Xsm{b:Nat->Bool}:∀(d:AE)(j a:Nat)(c:Hc)(t:Xf),AN b d=true->AD d j=some (.lp a c t)->Vo b t=true
|[],j,a,c,t,_,h=>by simp[AD]at h
|(k,x)::r,j,a,c,t,e,h=>by
 simp only[AD]at h;split at h
 ·simp_all[AN]
 ·refine Xsm r j a c t ?_ h
  cases x<;>simp_all[AN]
def Xsl{a:Nat->Bool}:∀(b:AE)(j i n:Nat)(t:List Nat),AN a b=true->AD b j=some (.it (some i) n t)->a i=false
|[],j,i,n,t,_,h=>by simp[AD]at h
|(k,x)::r,j,i,n,t,c,h=>by
 simp only[AD]at h;split at h
 ·simp_all[AN,qI]
 ·refine Xsl r j i n t ?_ h
  cases x<;>simp_all[AN]
def eO{a:Nat->Bool}:∀(c:Xf),Vo a c=true->∀p∈c,V.Bg a p.2=false
|[],_,p,h=>by cases h
|(j,v)::r,b,p,h=>by
 simp only[Vo,BX,JQ]at b;rcases Fb.1 h with rfl|h
 ·exact b.1
 ·exact eO r b.2 p h
def Xjd{a:Nat->Bool}:∀(c:Xf)(k:Nat),Vo a c=true->V.Bg a (BG c k)=false
|[],k,_=>by simp[BG,V.Bg]
|(j,v)::r,k,b=>by
 simp only[Vo,BX]at b;simp only[BG];split
 ·simpa using b.1
 ·exact Xjd r k b.2
def OM.Cs{w:World}{y:BF}{J:AE}{c:Nat->Bool}(h:OM w y J)(u:AN c (Xo c J)=true):OM w (y.Cs c) (Xo c J):=by
 refine⟨λj x v=>?_,λj o F=>?_,λi j o p b d z Y Z=>?_,h.FV,λb o s=>⟨(h.EZ b o s).1,(gO w y c b (h.EZ b o s).2 (Xu (h.EZ b o s).1)).2⟩,λb s=>h.D1 b (Vc s),FN.drop h.C4⟩
 ·have f:=v
  rw[W8]at v;split at v
  ·cases v
  ·rename_i H
   have d:=h.Ba j x v;cases x with
   |box E t=>
    obtain⟨b,q,g,a,e⟩:=d;exact⟨b,q,by simp_all[BF.Cs],a,Nn t q (Zw _ j E t u f) e⟩
   |Ar=>exact(by simp only[BF.Cs,H];exact d:(y.Cs c).m j=some .Ar)
   |BO E Q N=>
    rcases d with⟨g,a⟩|⟨b,k,q,K,g,a,e,r⟩
    ·exact .inl ⟨by simp_all[BF.Cs],a⟩
    ·exact .inr ⟨b,k,q,K,by simp_all[BF.Cs],a,GX (gO w y c) _ _ e,r⟩
   |A0 E Q N=>
    rcases d with⟨g,a⟩|⟨b,k,q,K,g,a,e,r⟩
    ·exact .inl ⟨by simp_all[BF.Cs],a⟩
    ·exact .inr ⟨b,k,q,K,by simp_all[BF.Cs],a,dO N q (Wm _ j E Q N u f) e,r⟩
   |map O=>
    obtain⟨b,l,G,g,a,e,r⟩:=d;exact⟨b,l,G,by simp_all[BF.Cs],a,Yp.Cs O l (Wl _ j O u f) e,r⟩
   |lp L st t=>
    obtain⟨b,X,tm,W,ps,T,U,g,a,e,r⟩:=d;exact⟨b,X,tm,W,ps,T,U,by simp_all[BF.Cs],a,e,λp P=>Nq (eO t (Xsm _ j L st t u f) p P) (r p P)⟩
   |it m n t=>
    cases m with
    |none=>obtain⟨b,g,a⟩:=d;exact⟨b,by simp_all[BF.Cs],a⟩
    |some i=>
     obtain⟨b,mb,g,a,e⟩:=d;have hi:=Xsl _ j i n t u f;exact⟨b,mb,by simp_all[BF.Cs],by simp_all[BF.Cs],e⟩
 ·simp only[BF.Cs]at F
  rw[W8];split at F
  ·cases F
  ·rename_i H
   rw[A5 H];exact h.Ev j o F
 ·simp only[BF.Cs]at d z
  split at d
  ·cases d
  ·split at z
   ·cases z
   ·exact h.inj i j o p b d z Y Z
section
variable {w:World} {ρ:BF}
mutual
theorem Nr{c:Nat->Bool}(b:∀id o,ρ.m id=some o->c id=false):∀(v:V)(a:List Value),v.Au w ρ a->V.Bg c v=false
|.d _,_,_=>rfl
|.ptr id p,a,h=>by
 grind[V.Au,V.Bg]
|.sl id n,a,h=>by obtain⟨_,_,h,_⟩:=h;exact b _ _ h
|.sd id n,a,h=>by obtain⟨_,_,h,_⟩:=h;exact b _ _ h
|.mp id,a,h=>by
 grind[V.Au,V.Bg]
|.hd y id,a,h=>by
 grind[V.Au,V.Bg]
|.bs id p G n,a,h=>by
 grind[V.Au,V.Bg]
|.ep id n z i f p,a,h=>by obtain⟨_,_,h,_⟩:=h;exact b _ _ h
|.fn f k g,a,h=>by
 obtain⟨l,q,_,r,s⟩:=h;simp only[V.Bg,QS b k l r,QS b g q s,Bool.or_self]
|.agg e,a,h=>by exact dP b e a h
|.iface t x,a,h=>by
 obtain⟨u,_,h⟩:=h;rcases h with h|⟨_,j,_,h⟩|⟨_,h⟩
 ·subst h;rfl
 ·exact Nr b x j h
 ·exact Nr b x _ h
|.BU e,a,h=>by obtain⟨F,_,h⟩:=h;exact QS b e F h
|.undef,_,_=>rfl
|.any,_,_=>rfl
theorem dP{a:Nat->Bool}(c:∀id o,ρ.m id=some o->a id=false):∀(d:List V)(b:List Value),Cg w ρ d b->Bu a d=false
|[],_,_=>rfl
|x::r,b,h=>by
 obtain⟨e,f,_,g,i⟩:=h;simp only[Bu,Nr c x e g,dP c r f i,Bool.or_self]
theorem QS{a:Nat->Bool}(b:∀id o,ρ.m id=some o->a id=false):∀(d:List V)(c:List Value),V.BT w ρ d c->Bu a d=false
|[],_,_=>rfl
|x::r,c,h=>by
 obtain⟨u,i,_,f,g⟩:=h;have:V.Bg a x=false:=by
  rcases f with h|⟨_,e,_,h⟩|⟨_,h⟩
  ·subst h;rfl
  ·exact Nr b x e h
  ·exact Nr b x _ h
 simp only[Bu,this,QS b r i g,Bool.or_self]
end
def dR{a:Nat->Bool}(c:∀id o,ρ.m id=some o->a id=false){v:V}{u:Value}(h:v.A1 w ρ u):V.Bg a v=false:=by
 rcases h with h|⟨_,b,_,h⟩|⟨_,h⟩
 ·subst h;rfl
 ·grind[Nr]
 grind[Nr]
end
def De.wk{c:EH}{f:Nat->Prop}{g b:BF}{e:Xf}{h d:AE}{a:Act}{w:World}(m:De c f g e h a w)(t:Tr w g w b)(o:OM w b d):De c f b e d a w:=
 ⟨m.BA.tr t,o,m.sm.tr t,m.size,m.df.tr t,t.xo.trans m.xo,t.gl.trans m.gl⟩
theorem De.sub{c:EH}{j:Nat->Prop}{l:BF}{g:Xf}{f:AE}{a:Act}{w:World}{e:List Nat}{d:Nat->Bool}(m:De c j l g f a w)(v:∀id o,c.m0 id=some o->d id=false)(t:∀p∈c.ev,V.Bg d p.1=false)
 (n:Vo d (X0 g e)=true) (r:AN d (Xo d f)=true):De c j (l.Cs d) (X0 g e) (Xo d f) a w:=
 ⟨⟨m.BA.size,m.BA.keep,λb s=>m.BA.DY b (Vc s),m.BA.tape,m.BA.os,m.BA.C3,λid o h=>(m.BA.same id o h).elim λu q=>⟨u,by simp_all[BF.Cs],q.2⟩,λp i=>Nq (t p i) (m.BA.ext p i),m.BA.drawn⟩,m.om.Cs r,λk=>Nq (Xjd _ k n) (m.sm.keep e k),m.size,m.df.Cs λ_=>Vc,m.xo,m.gl⟩
def PI(c:EH)(h:Nat->Prop)(d:List Nat)(Q:Z5)(g:List PanicEntry)(a:Act)(w:World):Prop:=
 ∃v e b f u,Q (.panic v) (X0 e d) b/\g=[{v:=u,recovered:=false}]/\v.A1 w f u/\De c h f (X0 e d) b a w
def Xsb(b:Xf):∀(a:List Nat)(k:Nat),k∉a->BG (X0 b a) k=.any
|[],k,_=>by simp[X0,BG]
|j::r,k,h=>by
 simp only[X0,BG];have:j≠k:=λe=>h (by simp[e]);rw[A5 this];exact Xsb b r k (λc=>h (by simp[c]))
def Xst{c:EH}{g:Nat->Prop}{b:List Nat}{Q:Z5}{f:List PanicEntry}{a:Act}{w:World}{d:Option Nat}{v:Value}(o:∀k,d=some k->k∉b)(h:PI c g b Q f (a.put d v) w):PI c g b Q f a w:=by
 obtain⟨x,s,r,t,u,i,l,n,m⟩:=h;refine⟨x,s,r,t,u,i,l,n,m.BA,m.om,λk=>?_,?_,?_,m.xo,m.gl⟩
 ·by_cases p:k∈b
  ·have:=m.sm k
   cases d with
   |none=>exact this
   |some j=>
    have q:j≠k:=λe=>o j rfl (e▸p);simp_all[Act.put]
  simp_all[Xsb,Nv]
 ·have:=m.size
  cases d<;>simpa[Act.put]using this
 ·have:=m.df
  cases d<;>simpa only[Act.put]using this
def FB(B:Nat->Prop)(u v:World):Prop:=∀b,B b->v.heap[b]? = u.heap[b]?
def Pl(B:Nat->Prop)(w:World)(a:BF):Prop:=∀b,B b->b<w.heap.size/\¬CS a b
def Pl.tr{B:Nat->Prop}{w f:World}{ρ a:BF}(h:Pl B w ρ)(t:Tr w ρ f a):Pl B f a:=λb i=>by
 obtain⟨g,d⟩:=h b i;refine⟨O5 g t.size,?_⟩;rintro (c|c)
 ·rcases t.DY b c with e|e
  ·exact d (.inl e)
  ·omega
 ·exact d (.inr (t.xo▸c))
def Pl.fb{B:Nat->Prop}{w d:World}{e a:BF}(h:Pl B w e)(t:Tr w e d a):FB B w d:=λb c=>t.keep b (λf=>(h b c).2 (.inl f)) (h b c).1
theorem FB.refl(B:Nat->Prop)(w:World):FB B w w:=λ_ _=>rfl
def FB.trans{B:Nat->Prop}{u v w:World}(h:FB B u v)(c:FB B v w):FB B u w:=λb a=>(c b a).trans (h b a)
def RJ(a:Nat->Nat)(B:Nat->Prop)(j:Nat)(u v:World):Prop:=(a j≠3->CM u v)/\FB B u v
def Wf{P:BE}{c:EH}(hg:P.g=c.g){xo:Nat->Prop}{f:Array Oper}{Q:Exit->Act->World->Prop}{QP:Z5}{pk:List Nat}{K:Xf->AE->Prop}{kd:Nat->Nat}
 (H:Region.noSelect f=true) (Y:TR pk f=true)
 (hK:∀Z W ρ a w,K Z W->De c xo ρ Z W a w->Q .normal a w)
 (hQ:∀ch a w,Q (.panic ch) a w↔PI c xo pk QP ch a w):
 ∀(ax:List Nat)(ao:List It)(B:Nat->Prop)(b:Array Bool)(Z:Xf)(W:AE)(ρ:BF)(a:Act)(w:World),Pl B w ρ->Pc P.p c.N f kd b ax ao=true->N1 .any f b->
  Ey P K (λv Z W=>QP (.panic v) (X0 Z pk) W) ao Z W->De c xo ρ Z W a w->Qh P.p .any f Q (RJ kd B) ax.length b a w
|[],[],B,b,Z,W,ρ,a,w,hB,hc,_,h,m=>by
 simp only[Pc]at hc;exact⟨by simpa using hc,hK Z W ρ a w h m⟩
|i::r,x::s,B,b,Z,W,ρ,a,w,hB,hc,aj,h,m=>by
 simp only[Pc,BX]at hc;obtain⟨⟨⟨⟨hr,hx⟩,a1⟩,F⟩,G⟩:=hc;have al:i∈Region.ready .any f b:=by simpa using hr
 cases ho:f[i]? with
 |none=>simp[ho]at hx
 |some o=>
  simp only[ho]at hx;have a5:x.kind=kd i:=by simpa using a1
  have av:∀k,o.dst=some k->k∉pk:=by
   intro k hk;have:=Fl.1 Y o (by grind);simpa[hk]using this
  have ap:∀v:Value,∀ch a w,Q (.panic ch) (a.put o.dst v) w->Q (.panic ch) a w:=λv ch a w hq=>(hQ ch a w).2 (Xst av ((hQ ch _ w).1 hq));have T:=aj.step al;simp only[Ip]
  -- the operation's state and text,whichever way ao guard goes
  have hd:∃(d:Option Nat) (y:I),I6 c.N o.dst d=true/\y.An P.p o.op=true/\x.kind=y.kind/\
   ((Region.wanted o (yielded f a.tmps)=true/\∃J,SM w ρ J a/\y.wp P J W (λv X=>Ey P K (λv Z W=>QP (.panic v) (X0 Z pk) W) s (put J d v) X) (λv X=>QP (.panic v) (X0 J pk) X))\/
    (Region.wanted o (yielded f a.tmps)=false/\∃J,SM w ρ J a/\Ey P K (λv Z W=>QP (.panic v) (X0 Z pk) W) s (put J d .undef) W)):=by
   cases x with
   |op d y=>
    simp only[It.An,BX,Mi]at hx;exact⟨d,y,hx.1.1,hx.2,rfl,.inl ⟨by grind[Region.wanted],Z,m.sm,h⟩⟩
   |Ew g a6 d y=>
    simp only[It.An,BX]at hx;exact⟨d,y,hx.1.1,hx.2,rfl,W6 (ops:=f) m.sm hx.1.2 h⟩
  obtain⟨d,y,U,hy,ak,af⟩:=hd
  -- an operation that CC be taken first
  have first:∀l:Bool,(∀L,y=.c L->L.JG=l)->(∃L,y=.c L)->Region.free .any f b i=true->
   (l=true->∀j,j<f.size->kd j=3->j≠i->∃aa,Ga .any f i aa j=true)->kd i≠3->Qh P.p .any f Q (RJ kd B) (r.length+1) b a w:=by
   intro l ac ah ab a8 au;have ai:l=true->∀j,j<f.size->j≠i->(∃aa,Ga .any f i aa j=true)\/∀u v,RJ kd B j u v->CM u v:=λh1 j h2 h3=>by
    by_cases h4:kd j=3
    ·simp_all
    ·exact .inr λu v h5=>h5.1 h4
   have ae:∀w,RJ kd B i w w:=λw=>⟨λ_=>CM.refl w,FB.refl B w⟩;obtain⟨L,rfl⟩:=ah;have ac:=ac L rfl;rcases af with⟨hw,J,hs,O⟩|⟨hw,J,hs,O⟩
   ·simp only[I.wp]at O
    obtain⟨v,z,hk,q,aw⟩:=C.A2 hs m.om hy O;obtain⟨g1,g2,g3⟩:=X2 U m.size hs q;refine Qi (S:=CM) (l:=l) CM.refl (λ_ _ _=>CM.trans) ho (Region.noSelect_spec H) (ap v) ai ae _ b a w aj (Region.free_spec ho ab) al (.inl ⟨hw,λw' a4=>aw o rfl w' (λe=>a4 (by rw[<-ac];exact e))⟩) ?_;exact Wf hg H Y hK hQ r s B _ _ W ρ _ w hB G T hk ⟨m.BA,m.om,g1,g2,m.df.put g3,m.xo,m.gl⟩
   ·obtain⟨g1,g2,g3⟩:=X2 U m.size hs (Wz.2 rfl)
    refine Qi (S:=CM) (l:=l) CM.refl (λ_ _ _=>CM.trans) ho (Region.noSelect_spec H) (ap undef) ai ae _ b a w aj (Region.free_spec ho ab) al (.inr ⟨hw,rfl⟩) ?_;exact Wf hg H Y hK hQ r s B _ _ W ρ _ w hB G T O ⟨m.BA,m.om,g1,g2,m.df.put g3,m.xo,m.gl⟩
  -- the only Ba that CC come up
  have ay:Region.ready .any f b=[i]->(y.kind=2\/y.kind=3\/y.kind=4)->Qh P.p .any f Q (RJ kd B) (r.length+1) b a w:=by
   intro a3 aq;refine⟨λh0=>(by simp_all),λj hj=>?_⟩;rw[a3]at hj;simp at hj;subst hj;unfold Hs;simp only[ho];rcases af with⟨hw,J,hs,O⟩|⟨hw,J,hs,O⟩
   ·rw[Bv hw]
    rcases aq with az|au|a0
    ·refine vA (m.gl.trans hg.symm) hs m.om az hy O o rfl _ _ (λv z w' hk q he=>⟨⟨λ_=>he,hB.fb he.tr⟩,?_⟩)
     obtain⟨g1,g2,g3⟩:=X2 U m.size (hs.tr he.tr) q;exact Wf hg H Y hK hQ r s B _ _ W ρ _ w' (hB.tr he.tr) G T hk ⟨m.BA.tr he.tr,m.om.ext he,g1,g2,(m.df.tr he.tr).put g3,m.xo,m.gl⟩
    ·refine I.A2 (m.gl.trans hg.symm) hs m.om hy O o rfl _ _ (λv z X w' ag hk q ad t=>⟨⟨λhf=>?_,hB.fb t⟩,?_⟩) (λu z X w' ag hk q ad t=>?_)
     ·omega
     ·obtain⟨g1,g2,g3⟩:=X2 U m.size (hs.tr t) q
      exact Wf hg H Y hK hQ r s B _ _ X ag _ w' (hB.tr t) G T hk ⟨m.BA.tr t,ad,g1,g2,(m.df.tr t).put g3,t.xo.trans m.xo,t.gl.trans m.gl⟩
     ·exact(hQ _ _ _).2 ⟨z,J,X,ag,u,hk,rfl,q,m.BA.tr t,ad,(hs.tr t).keep pk,m.size,m.df.tr t,t.xo.trans m.xo,t.gl.trans m.gl⟩
    ·refine vB (m.gl.trans hg.symm) hs m.om a0 hy O o rfl _ _ (λv z X w' ag hk q ad t he=>⟨⟨λ_=>he,hB.fb t⟩,?_⟩)
     obtain⟨g1,g2,g3⟩:=X2 U m.size (hs.tr t) q;exact Wf hg H Y hK hQ r s B _ _ X ag _ w' (hB.tr t) G T hk ⟨m.BA.tr t,ad,g1,g2,(m.df.tr t).put g3,t.xo.trans m.xo,t.gl.trans m.gl⟩
   ·rw[hw]
    refine⟨⟨λ_=>CM.refl w,FB.refl B w⟩,?_⟩;obtain⟨g1,g2,g3⟩:=X2 U m.size hs (Wz.2 rfl);exact Wf hg H Y hK hQ r s B _ _ W ρ _ w hB G T O ⟨m.BA,m.om,g1,g2,m.df.put g3,m.xo,m.gl⟩
  have a2:y.kind=0\/y.kind=1\/y.kind=2\/y.kind=3\/y.kind=4\/y.kind=5:=by
   cases y with
   |c L=>grind[I.kind]
   |_=>simp[I.kind]
  have ah:∀n,(n=0\/n=1)->y.kind=n->(∃L,y=.c L)/\∀L,y=.c L->L.JG=(n==1):=by
   intro n hn a9;cases y with
   |c L=>
    grind[I.kind]
   |_=>grind[I.kind]
  rcases a2 with h0|h1|h2|h3|h4|h5
  ·rw[ak,h0]at F
   obtain⟨c1,c2⟩:=ah 0 (.inl rfl) h0;exact first false (λL e=>by simpa using c2 L e) c1 F (by simp) (by omega)
  ·rw[ak,h1]at F
   simp at F;obtain⟨c1,c2⟩:=ah 1 (.inr rfl) h1;refine first true (λL e=>by simpa using c2 L e) c1 F.1 (λ_ j hj au a7=>?_) (by omega)
   grind[Xtl]
  ·grind
  ·grind
  ·grind
  ·rw[ak,h5]at F
   obtain⟨L,rfl,ac⟩:∃L,y=.c L/\L.G6=true:=by
    cases y with
    |c L=>
     grind[I.kind]
    |_=>simp[I.kind]at h5
   simp[C.G6]at ac
|[],_::_,_,_,_,_,_,_,_,_,hc,_,_,_=>by simp[Pc]at hc
|_::_,[],_,_,_,_,_,_,_,_,hc,_,_,_=>by simp[Pc]at hc
def xQ{P:BE}{c:EH}(hg:P.g=c.g){xo:Nat->Prop}{n:Array Oper}{Q:Exit->Act->World->Prop}{QP:Z5}{pk:List Nat}{next:Xf->AE->Prop}{i:Nat}{o:Oper}{x:It}{Y:Xf}{O:AE}{q:BF}{a:Act}{w:World}{N:Act->World->Prop}
 (hQ:∀ch a w,Q (.panic ch) a w↔PI c xo pk QP ch a w) (ho:n[i]? = some o) (U:x.An P.p c.N n o=true) (h:G7 P next (λv Y O=>QP (.panic v) (X0 Y pk) O) x Y O) (m:De c xo q Y O a w)
 (W:∀e f j Z r,next e f->De c xo j e f Z r->Tr w q r j->N Z r):Hs P.p n Q i (λZ r=>((x.kind≠3->CM w r)/\∃j,Tr w q r j)/\N Z r) a w:=by
 have hd:∃(d:Option Nat) (y:I),I6 c.N o.dst d=true/\y.An P.p o.op=true/\x.kind=y.kind/\
  ((Region.wanted o (yielded n a.tmps)=true/\∃e,SM w q e a/\y.wp P e O (λv f=>next (put e d v) f) (λv f=>QP (.panic v) (X0 e pk) f))\/
   (Region.wanted o (yielded n a.tmps)=false/\∃e,SM w q e a/\next (put e d .undef) O)):=by
  cases x with
  |op d y=>
   simp only[It.An,BX,Mi]at U;exact⟨d,y,U.1.1,U.2,rfl,.inl ⟨by grind[Region.wanted],Y,m.sm,h⟩⟩
  |Ew g ac d y=>
   simp only[It.An,BX]at U;exact⟨d,y,U.1.1,U.2,rfl,W6 (ops:=n) m.sm U.1.2 h⟩
 obtain⟨d,y,k,hy,ae,T⟩:=hd;unfold Hs;simp only[ho];rcases T with⟨hw,e,F,l⟩|⟨hw,e,F,l⟩
 ·rw[Bv hw]
  by_cases ad:y.kind=3
  ·refine I.A2 (m.gl.trans hg.symm) F m.om hy l o rfl _ _ (λv z f r j L b s t=>⟨⟨λhf=>?_,j,t⟩,?_⟩) (λu z f r j L b s t=>?_)
   ·omega
   ·obtain⟨G,H,J⟩:=X2 k m.size (F.tr t) b
    exact W _ f j _ r L ⟨m.BA.tr t,s,G,H,(m.df.tr t).put J,t.xo.trans m.xo,t.gl.trans m.gl⟩ t
   ·exact(hQ _ _ _).2 ⟨z,e,f,j,u,L,rfl,b,m.BA.tr t,s,(F.tr t).keep pk,m.size,m.df.tr t,t.xo.trans m.xo,t.gl.trans m.gl⟩
  ·by_cases aa:y.kind=2
   ·refine vA (m.gl.trans hg.symm) F m.om aa hy l o rfl _ _ (λv z r L b K=>⟨⟨λ_=>K,q,K.tr⟩,?_⟩)
    obtain⟨G,H,J⟩:=X2 k m.size (F.tr K.tr) b;exact W _ O q _ r L ⟨m.BA.tr K.tr,m.om.ext K,G,H,(m.df.tr K.tr).put J,m.xo,m.gl⟩ K.tr
   ·by_cases ab:y.kind=4
    ·refine vB (m.gl.trans hg.symm) F m.om ab hy l o rfl _ _ (λv z f r j L b s t K=>⟨⟨λ_=>K,j,t⟩,?_⟩)
     obtain⟨G,H,J⟩:=X2 k m.size (F.tr t) b;exact W _ f j _ r L ⟨m.BA.tr t,s,G,H,(m.df.tr t).put J,t.xo.trans m.xo,t.gl.trans m.gl⟩ t
    cases y with
    |c cc=>
     simp only[I.wp]at l;obtain⟨v,z,L,b,X⟩:=C.A2 F m.om hy l;obtain⟨G,H,J⟩:=X2 k m.size F b;unfold Ef;rw[X o rfl w (λ_=>CM.refl w)];exact⟨⟨λ_=>CM.refl w,q,Tr.refl w q⟩,W _ O q _ w L ⟨m.BA,m.om,G,H,m.df.put J,m.xo,m.gl⟩ (Tr.refl w q)⟩
    |_=>simp_all[I.kind]
 ·rw[hw]
  refine⟨⟨λ_=>CM.refl w,q,Tr.refl w q⟩,?_⟩;obtain⟨G,H,J⟩:=X2 k m.size F (Wz.2 rfl);exact W _ O q _ w l ⟨m.BA,m.om,G,H,m.df.put J,m.xo,m.gl⟩ (Tr.refl w q)
def Vh{P:BE}{c:EH}(hg:P.g=c.g){xo:Nat->Prop}{f:Array Oper}{Q:Exit->Act->World->Prop}{QP:Z5}{W:List Nat}{K:Xf->AE->Prop}{L:Nat->Nat}
 (J:Region.noSelect f=true) (ac:TR W f=true)
 (hK:∀s q ρ a w,K s q->De c xo ρ s q a w->Q .normal a w)
 (hQ:∀ch a w,Q (.panic ch) a w↔PI c xo W QP ch a w):
 ∀(n:Nat)(t:Ot)(B:Nat->Prop)(b:Array Bool)(s:Xf)(q:AE)(ρ:BF)(a:Act)(w:World),Pl B w ρ->V6 P.p c.N f L n b t=true->N1 .any f b->
  FC P K (λv s q=>QP (.panic v) (X0 s W) q) t s q->De c xo ρ s q a w->Qh P.p .any f Q (RJ L B) n b a w
|0,.done,B,b,s,q,ρ,a,w,hB,U,_,h,m=>by
 grind[V6,FC,Qh]
|n+1,.br l,B,b,s,q,ρ,a,w,hB,U,Y,h,m=>by
 simp only[V6,BX,JQ]at U;obtain⟨⟨a2,ap⟩,aq⟩:=U;simp only[FC]at h;simp only[Qh];refine⟨λh0=>by simp_all,λj hj=>?_⟩;have hh:=Fl.1 ap j hj;obtain⟨x,r,o,g1,g2,g3,g4,g5⟩:∃x r o,f[j]? = some o/\x.An P.p c.N f o=true/\x.kind=L j/\V6 P.p c.N f L n (b.setIfInBounds j true) r=true/\G7 P (FC P K (λv s q=>QP (.panic v) (X0 s W) q) r) (λv s q=>QP (.panic v) (X0 s W) q) x s q:=by
  revert h aq hh;intro hh aq h;have go:∀(l:Gv),l.has j=true->PC P.p c.N f L n b l=true->I0 P K (λv s q=>QP (.panic v) (X0 s W) q) l s q->∃x r o,f[j]? = some o/\x.An P.p c.N f o=true/\x.kind=L j/\V6 P.p c.N f L n (b.setIfInBounds j true) r=true/\G7 P (FC P K (λv s q=>QP (.panic v) (X0 s W) q) r) (λv s q=>QP (.panic v) (X0 s W) q) x s q:=by
   intro l;induction l using Gv.rec (motive_1:=λ_=>True)<;>grind[Gv.has,PC,I0]
  grind
 have al:=xQ (Q:=Q) (N:=λa' w'=>Qh P.p .any f Q (RJ L B) n (b.setIfInBounds j true) a' w') hg hQ g1 g2 g5 m (λG T ae a' w' hk m' t=>Vh hg J ac hK hQ n r B _ G T ae a' w' (hB.tr t) g4 (Y.step hj) hk m');refine Q6 (λa' w' h'=>⟨⟨λhf=>h'.1.1 ?_,h'.1.2.elim λae t=>hB.fb t⟩,h'.2⟩) al;rw[g3];exact hf
|n+1,.Ba i x r,B,b,s,q,ρ,a,w,hB,U,Y,h,m=>by
 simp only[V6,BX]at U;obtain⟨⟨⟨⟨hr,hx⟩,a0⟩,F⟩,O⟩:=U;have ak:i∈Region.ready .any f b:=by simpa using hr
 simp only[FC]at h;cases ho:f[i]? with
 |none=>simp[ho]at hx
 |some o=>
  simp only[ho]at hx;have au:x.kind=L i:=by simpa using a0
  have Z:=Y.step ak
  -- the only Ba that CC come up
  have ay:Region.ready .any f b=[i]->Qh P.p .any f Q (RJ L B) (n+1) b a w:=by
   intro a3;refine⟨λh0=>(by simp_all),λj hj=>?_⟩;rw[a3]at hj;simp at hj;subst hj;have al:=xQ (Q:=Q) (N:=λa' w'=>Qh P.p .any f Q (RJ L B) n (b.setIfInBounds j true) a' w') hg hQ ho hx h m (λG T ae a' w' hk m' t=>Vh hg J ac hK hQ n r B _ G T ae a' w' (hB.tr t) O Z hk m');refine Q6 (λa' w' h'=>⟨⟨λhf=>h'.1.1 ?_,h'.1.2.elim λae t=>hB.fb t⟩,h'.2⟩) al;rw[au];exact hf
  have av:∀k,o.dst=some k->k∉W:=by
   intro k hk;have:=Fl.1 ac o (by grind);simpa[hk]using this
  have ao:∀v:Value,∀ch a w,Q (.panic ch) (a.put o.dst v) w->Q (.panic ch) a w:=λv ch a w hq=>(hQ ch a w).2 (Xst av ((hQ ch _ w).1 hq));have hd:∃(d:Option Nat) (y:I),I6 c.N o.dst d=true/\y.An P.p o.op=true/\x.kind=y.kind/\
   ((Region.wanted o (yielded f a.tmps)=true/\∃G,SM w ρ G a/\y.wp P G q (λv T=>FC P K (λv s q=>QP (.panic v) (X0 s W) q) r (put G d v) T) (λv T=>QP (.panic v) (X0 G W) T))\/
    (Region.wanted o (yielded f a.tmps)=false/\∃G,SM w ρ G a/\FC P K (λv s q=>QP (.panic v) (X0 s W) q) r (put G d .undef) q)):=by
   cases x with
   |op d y=>
    simp only[It.An,BX,Mi]at hx;exact⟨d,y,hx.1.1,hx.2,rfl,.inl ⟨by grind[Region.wanted],s,m.sm,h⟩⟩
   |Ew g a5 d y=>
    simp only[It.An,BX]at hx;exact⟨d,y,hx.1.1,hx.2,rfl,W6 (ops:=f) m.sm hx.1.2 h⟩
  obtain⟨d,y,ah,hy,aj,an⟩:=hd;have first:∀l:Bool,(∀H,y=.c H->H.JG=l)->(∃H,y=.c H)->Region.free .any f b i=true->
   (l=true->∀j,j<f.size->L j=3->j≠i->∃X,Ga .any f i X j=true)->L i≠3->Qh P.p .any f Q (RJ L B) (n+1) b a w:=by
   intro l ab af aa a6 az;have ai:l=true->∀j,j<f.size->j≠i->(∃X,Ga .any f i X j=true)\/∀u v,RJ L B j u v->CM u v:=λh1 j h2 h3=>by
    by_cases h4:L j=3
    ·simp_all
    ·exact .inr λu v h5=>h5.1 h4
   have ad:∀w,RJ L B i w w:=λw=>⟨λ_=>CM.refl w,FB.refl B w⟩;obtain⟨H,rfl⟩:=af;have ab:=ab H rfl;rcases an with⟨hw,G,hs,ag⟩|⟨hw,G,hs,ag⟩
   ·simp only[I.wp]at ag
    obtain⟨v,z,hk,aw,ax⟩:=C.A2 hs m.om hy ag;obtain⟨g1,g2,g3⟩:=X2 ah m.size hs aw;refine Qi (S:=CM) (l:=l) CM.refl (λ_ _ _=>CM.trans) ho (Region.noSelect_spec J) (ao v) ai ad _ b a w Y (Region.free_spec ho aa) ak (.inl ⟨hw,λw' a4=>ax o rfl w' (λe=>a4 (by rw[<-ab];exact e))⟩) ?_;exact Vh hg J ac hK hQ n r B _ _ q ρ _ w hB O Z hk ⟨m.BA,m.om,g1,g2,m.df.put g3,m.xo,m.gl⟩
   ·obtain⟨g1,g2,g3⟩:=X2 ah m.size hs (Wz.2 rfl)
    refine Qi (S:=CM) (l:=l) CM.refl (λ_ _ _=>CM.trans) ho (Region.noSelect_spec J) (ao undef) ai ad _ b a w Y (Region.free_spec ho aa) ak (.inr ⟨hw,rfl⟩) ?_;exact Vh hg J ac hK hQ n r B _ _ q ρ _ w hB O Z ag ⟨m.BA,m.om,g1,g2,m.df.put g3,m.xo,m.gl⟩
  have af:∀n,(n=0\/n=1)->y.kind=n->(∃H,y=.c H)/\∀H,y=.c H->H.JG=(n==1):=by
   intro n hn a7;cases y with
   |c H=>
    grind[I.kind]
   |_=>grind[I.kind]
  have a1:y.kind=0\/y.kind=1\/y.kind=2\/y.kind=3\/y.kind=4\/y.kind=5:=by
   cases y with
   |c H=>grind[I.kind]
   |_=>simp[I.kind]
  rcases a1 with h0|h1|h2|h3|h4|h5
  ·rw[aj,h0]at F
   obtain⟨c1,c2⟩:=af 0 (.inl rfl) h0;exact first false (λH e=>by simpa using c2 H e) c1 F (by simp) (by omega)
  ·rw[aj,h1]at F
   simp at F;obtain⟨c1,c2⟩:=af 1 (.inr rfl) h1;refine first true (λH e=>by simpa using c2 H e) c1 F.1 (λ_ j hj az a2=>?_) (by omega)
   grind[Xtl]
  ·grind
  ·grind
  ·grind
  ·rw[aj,h5]at F
   obtain⟨H,rfl,ab⟩:∃H,y=.c H/\H.G6=true:=by
    cases y with
    |c H=>
     grind[I.kind]
    |_=>simp[I.kind]at h5
   simp[C.G6]at ab
|0,.Ba _ _ _,_,_,_,_,_,_,_,_,U,_,_,_=>by simp[V6]at U
|0,.br _,_,_,_,_,_,_,_,_,U,_,_,_=>by simp[V6]at U
|_+1,.done,_,_,_,_,_,_,_,_,U,_,_,_=>by simp[V6]at U
def Xfs{p:Nat->Prop}:∀n,p n->∃m,p m/\∀k,p k->m<=k:=by
 intro n;induction n using Nat.strongRecOn<;>grind
def Xr2{a:Xf}:∀{l:List Nat}{p:Nat×V},p∈X0 a l->p.2=BG a p.1
|[],p,h=>by cases h
|k::r,p,h=>by
 rcases Fb.1 h with rfl|h
 ·rfl
 ·exact Xr2 h
def Y6i{w:World}{c:BF}{a:AE}(h:OM w c a)(o:Obj):Tr w c (E4 w o) (c.Bp (AA a) (.map w.heap.size)):=
 Qd _ (Wg w o) (o:=.map w.heap.size) (h.free (X1 a)) (λb d=>by simp_all[RO.blk?])
theorem Yl7{a:Xf}{k:Nat}:BG a k=.any\/(k,BG a k)∈a:=by
 induction a<;>grind[BG]
def Ygr{P:BE}{c:EH}(hg:P.g=c.g){xo:Nat->Prop}{f:Operand}{ae:Nat}{i:Xf}{Q:Z5}{l:AE}{ρ:BF}{a:Act}{w x:World}{k:BF}{fi ca:List V}{X Y:List Value}{W D:Nat}(ah:c.Sk=true)
 (m:De c xo ρ i l a w) (al:Xd P.p W=true) (h:Aa P W (fi++[.hd true (AA l)]++ca) ((AA l,.lp ae .ready i)::l) (MX Q i (AA l)))
 (e1:a.eval f=.func (.func W) X.toArray Y.toArray) (r2:V.BT w ρ fi X) (r3:V.BT w ρ ca Y) (t1:Tr w ρ x k) (o1:OM x k ((AA l,.lp ae .ready i)::l)) {L:Nat} (aa:k.m (AA l)=some (.map L))
 (Z:c.w0.heap.size<=D/\x.heap[D]? = some (.deferred (some []))/\¬FW k D) (ap:w.heap.size<=D):
 ∃(d:Deferred) (s:World) (U:FuncId) (y:Array Value) (G:World),
  (resolve a.eval (rangeCall f L) 0).run P.p x=.ok d s/\(∀U,Target.leads P.p s d.target d.args=some U->(Gn none).fn U)/\
  (invoke d.target d.args).run P.p s=.ok (.enter U y) G/\((Gn none).depth.isSome=true->1<=0)/\
  CallsIn (Gn none) (0-1) P.p U y G (rangePost (Gn none) 0 P.p L (Af c xo Q) {a with defers:=[KX D]++a.defers}):=by
 have ag:k.gl=P.g:=t1.gl.trans (m.gl.trans hg.symm);have hy:(V.hd true (AA l)).A1 x k (.func (.yield L) #[] #[]):=Mq.2 (.inl ⟨L,aa,rfl⟩);have J:V.BT x k (fi++[.hd true (AA l)]++ca) (X++[Value.func (.yield L) #[] #[]]++Y):=
  CQ (CQ (Md t1 _ _ r2) (by exact⟨_,_,rfl,hy,rfl⟩)) (Md t1 _ _ r3)
 refine⟨⟨.fn (.func W) Y.toArray,X.toArray++#[Value.func (.yield L) #[] #[]]⟩,x,W,(X++[Value.func (.yield L) #[] #[]]++Y).toArray,x,?_,λ_ _=>WZ _ _,?_,λh=>(by simp_all[Xrs]),Xrr ?_⟩
 ·simp_all[resolve,Deferred.ofValue,Act.eval]
 ·simp_all[invoke,Zf]
 ·refine(h.run x k _ o1 ag J).mono λe F ⟨K,t,ak,z,H,o2,t2⟩=>?_
  cases e with
  |panicked ch=>cases K<;>first|exact z.elim|cases H
  |outgrown=>cases K<;>cases H
  |returned u=>
   cases K with
   |panic v=>cases H
   |ret v=>
    simp only[MX]at z;obtain⟨q,tg,ad,hl,ai,z⟩:∃q tg ad,AD t (AA l)=some (.lp tg q ad)/\q≠.busy/\(match q with
    |.ready=>Q .normal i (AG t (AA l) .Ar)
    |.ret=>Q .ret i (AG t (AA l) .Ar)
    |.exit n=>Q (.exit n) i (AG t (AA l) .Ar)
    |.busy=>False):=by
     unfold Sm at z;grind
    obtain⟨b,fn,tm,T,qs,N,O,g1,g2,g3,g4⟩:=o2.Ba _ _ hl;obtain⟨o',p1,p2⟩:=t2.same _ _ aa;have af:b=L:=by
     rw[g1]at p1;simp at p1;subst p1;cases p2<;>omega
    subst af;have ab:(Instr.endLoop b).run P.p F=.ok q.D0 (Et F b (.loop {state:=.exhausted,pending:=q.D0,fn:=fn,tmps:=tm,params:=qs,assign:=N,body:=O,defers:=T})):=by
     have an:(Instr.getLoop b).run P.p F=.ok {state:=q.st,pending:=q.D0,fn:=fn,tmps:=tm,params:=qs,assign:=N,body:=O,defers:=T} F:=by
      simp[Instr.getLoop,getObj,Sem.run,g2]
     have aq:(q.st==LoopState.busy)=false:=by cases q<;>first|exact absurd rfl ai|rfl
     have ao:=XM (P:=P.p) (o:=.loop {state:=.exhausted,pending:=q.D0,fn:=fn,tmps:=tm,params:=qs,assign:=N,body:=O,defers:=T}) F g2 rfl;simp_all[Instr.endLoop]
    obtain⟨t3,o3,_⟩:=YN (w2:=Et F b (.loop {state:=.exhausted,pending:=q.D0,fn:=fn,tmps:=tm,params:=qs,assign:=N,body:=O,defers:=T})) o2 ⟨_,hl⟩ (U2 ..) (λj hj=>Wn F _ (λe=>hj _ g1 (by simp[RO.blk?,e]))) rfl rfl rfl (B9 _);have t4:=(t1.trans t2).trans t3;have m4:De c xo (ak.Bp (AA l) .Ar) i (AG t (AA l) .Ar) {a with defers:=[KX D]++a.defers} (Et F b (.loop {state:=.exhausted,pending:=q.D0,fn:=fn,tmps:=tm,params:=qs,assign:=N,body:=O,defers:=T})):=by
     refine⟨m.BA.tr t4,o3,m.sm.tr t4,m.size,?_,t4.xo.trans m.xo,t4.gl.trans m.gl⟩;obtain⟨ms,q1,q2,q3,q4⟩:=m.df.tr t4;have t5:=t2.trans t3;refine⟨D::ms,by simp[q1],λh=>(by rw[ah]at h;cases h),List.nodup_cons.2 ⟨λhm=>?_,q3⟩,λr H=>?_⟩
     ·obtain⟨ac,aj,_,_,au⟩:=m.df
      have:ms.map KX++c.df=ac.map KX++c.df:=q1.symm.trans aj;have h2:=List.append_cancel_right this;have h3:KX D∈ac.map KX:=by grind
      grind[KX,Xu]
     ·rcases Fb.1 H with rfl|H
      ·exact⟨Z.1,(t5.keep _ Z.2.2 (Xu Z.2.1)).trans Z.2.1,λh=>(t5.DY _ h).elim Z.2.2 (λh=>by simp_all)⟩
      ·exact q4 r H
    refine⟨q.D0,_,ab,?_⟩;cases q with
    |ready=>exact⟨.normal,i,_,_,z,trivial,m4⟩
    |busy=>cases z
    |ret=>exact wpIn_ret ⟨.ret,i,_,_,z,trivial,m4⟩
    |exit n=>exact wpIn_exit ⟨.exit n,i,_,_,z,rfl,m4⟩
theorem Ygs{P:BE}{c:EH}(W:P.g=c.g)(H:c.Sk=true){xo:Nat->Prop}{f:Operand}{z:Array Nat}{s t:Code}{q:Nat}{X:List Nat}{g:A}{x y:S}{b:List Nat}{Q:Z5}{T:Xf}{n:AE}{j:BF}{a:Act}{w:World}
 (hc:(A.An f g&&((z.toList==X)&&X.all (λk=>decide (k<c.N))&&S.An P.p c.N s x&&S.An P.p c.N t y&&x.Fw&&y.Fw))=true)
 (h:EX P (.Ia q X g x y b) Q T n) (m:De c xo j T n a w):(Code.rangeFunc f z s t).wpIn (Gn none) 0 P.p (Af c xo Q) a w:=by
 simp only[EX]at h;obtain⟨hL,u⟩:=h;rw[BX]at hc;obtain⟨h1,h2⟩:=hc;refine wpIn_rangeFunc λfn _=>?_;have r:=A.A2 m.sm h1;let D:=w.heap.size;let e:=E4 w (.deferred (some []));let L:=e.heap.size;let K:Loop:={state:=.ready,pending:=none,fn:=fn,tmps:=a.tmps,params:=z,assign:=s,body:=t,defers:=D}
 have t0:Tr w j e j:=(Wg w _).tr;have o0:OM e j n:=m.om.ext (Wg w _);have t1:=Y6i o0 (.loop K);have ab:w.heap.size<e.heap.size:=by show w.heap.size<(w.heap.push _).size;simp
 have hx:D5 (E4 e (.loop K)) (j.Bp (AA n) (.map e.heap.size)) (AA n) (.lp q .ready (X0 T b)):=by
  refine⟨L,fn,a.tmps,D,z,s,t,by simp[BF.Bp,L],Wq _ _,?_,λp hp=>?_⟩
  ·show j.gl.l q z a.tmps.size s t
   rw[m.gl,<-W,m.size];exact(hL z c.N s t).2 h2
  ·rw[Xr2 hp]
   exact HD (t0.trans t1) (m.sm p.1)
 obtain⟨_,o1,_⟩:=nu o0 (.loop K) (.lp q .ready (X0 T b)) hx;have ac:(Instr.enterLoop fn a.tmps z s t (Gn none).round).run P.p w=.ok (L,[KX D]) (E4 e (.loop K)):=by
  rfl
 have J:¬FW j D:=λ⟨i,o,v,O⟩=>by have:=Q3 m.om v O;omega
 have hD:c.w0.heap.size<=D/\(E4 e (.loop K)).heap[D]? = some (.deferred (some []))/\¬FW (j.Bp (AA n) (.map e.heap.size)) D:=by
  refine⟨m.BA.size,?_,λ⟨i,o,v,O⟩=>?_⟩
  ·grind[E4,zT,Wq]
  ·simp only[BF.Bp]at v
   split at v
   ·grind[RO.blk?]
   ·exact J ⟨i,o,v,O⟩
 have mk:De c xo j (X0 T b) n a w:=⟨m.BA,m.om,m.sm.keep b,m.size,m.df,m.xo,m.gl⟩
 have G:(j.Bp (AA n) (.map e.heap.size)).m (AA n)=some (.map L):=by simp[BF.Bp,L]
 unfold Nh at u;split at u
 ·rename_i fk fi cc U
  rw[U,N0]at r;obtain⟨fs,gs,r,Y,Z⟩:=r;obtain⟨d,aa,f',F,w2,v,O,q3,q4,q5⟩:=Ygr W H mk u.1 u.2 r Y Z (t0.trans t1) o1 G hD (B9 _);grind
 ·rename_i fk fi cc U
  rw[U,To]at r;obtain⟨fs,gs,r,Y,Z⟩:=r;obtain⟨d,aa,f',F,w2,v,O,q3,q4,q5⟩:=Ygr W H mk u.1 u.2 r Y Z (t0.trans t1) o1 G hD (B9 _);grind
 ·cases u
def Xf2{a:Array Oper}(h:aB a=true):∀o∈a.toList,∀c,o.op≠.defer c:=λo b c e=>by
 have:=Fl.1 h o b;simp[e]at this
def Y95{a b:Bool}{p:Prop}(h:(a&&b)=true\/p):a=true\/p:=h.imp (λh=>(by simp at h;exact h.1)) id
def Y96{a b:Bool}{p:Prop}(h:(a&&b)=true\/p):b=true\/p:=h.imp (λh=>(by simp at h;exact h.2)) id
def Y4{P:BE}(hm:P.p.follows .mixedOrders=true){c:EH}(Z:P.g=c.g){xo:Nat->Prop}{rd:Option Nat}:∀(af:Code)(s:S)(Q:Z5)(H:Xf)(q:AE)(F:BF)(a:Act)(w:World),
 S.An P.p c.N af s=true->(s.Fw=true\/(c.Sk=true/\rd=none))->EX P s Q H q->De c xo F H q a w->af.wpIn (Gn rd) 0 P.p (Af c xo Q) a w
|.skip,s,Q,H,q,F,a,w,z,U,h,m=>by
 cases s<;>simp[S.An]at z;exact wpIn_skip ⟨.normal,H,q,F,h,trivial,m⟩
|.region id Y al,s,Q,H,q,F,a,w,z,U,h,m=>by
 cases s<;>simp only[S.An,BY]at z
 case Gs n t keep pk=>
  simp at z;obtain⟨⟨⟨⟨⟨X,av⟩,O⟩,ad⟩,ai⟩,ab⟩:=z;have X:=Xf2 X;subst av;have O:n<=Y.size:=by simpa using O
  let Q':Exit->Act->World->Prop:=λe a w=>match e with
  |.panic ch=>PI c xo pk Q ch a w
  |e=>Af c xo Q e a w
  have hx:CM w {w with drawn:=w.drawn+1}:=QO w _;have ak:=Vh (Q:=Q') (QP:=Q) (K:=λH q=>Q .normal (X0 H keep) q) Z ad ai
   (λH q F a w hk m=>(⟨.normal,_,q,F,hk,trivial,m.BA,m.om,m.sm.keep keep,m.size,m.df,m.xo,m.gl⟩:Af c xo Q .normal a w))
   (λch a w=>Iff.rfl) n t (λ_=>False) (Array.replicate Y.size false) H q F a {w with drawn:=w.drawn+1} (λ_ h=>h.elim) ab
   (λk o _ hl=>by
    rcases QV k Y.size with h'|h'<;>simp_all) h ⟨m.BA.tr hx.tr,m.om.ext hx,m.sm.tr hx.tr,m.size,m.df.tr hx.tr,m.xo,m.gl⟩
  have aa:=ew _ _ _ _ ak;refine wpIn_mono (wpIn_region_any hm (fX X _ _ _ _ (eI _ _ _ _ _ O aa))) (λe a' w' L=>?_);cases e with
  |panic ch=>
   obtain⟨v,J,r,b,u,h1,h2,h3,T⟩:=L;exact⟨.panic v,_,r,b,h1,⟨u,h2,h3⟩,T⟩
  |_=>exact L
 rename_i ao l keep pk;simp only[EX]at h;rw[BX]at z;obtain⟨X,z⟩:=z;have X:=Xf2 X;cases al with
 |false=>
  refine wpIn_region_list (ey _ X _ _ (eN (c:=c) (xo:=xo) Z (λH q F a w hk m=>?_) (λv H q F a w u hk m hr=>?_) Y.toList l H q F a w z h m))
  ·exact⟨.normal,_,q,F,hk,trivial,m.BA,m.om,m.sm.keep keep,m.size,m.df,m.xo,m.gl⟩
  ·exact⟨.panic v,_,q,F,hk,⟨u,rfl,hr⟩,m.BA,m.om,m.sm.keep pk,m.size,m.df,m.xo,m.gl⟩
 |true=>
  simp at z;obtain⟨⟨⟨O,ad⟩,ai⟩,ab⟩:=z;have O:ao.length<=Y.size:=by simpa using O
  let Q':Exit->Act->World->Prop:=λe a w=>match e with
  |.panic ch=>PI c xo pk Q ch a w
  |e=>Af c xo Q e a w
  have hx:CM w {w with drawn:=w.drawn+1}:=QO w _;have ak:=Wf (Q:=Q') (QP:=Q) (K:=λH q=>Q .normal (X0 H keep) q) Z ad ai
   (λH q F a w hk m=>(⟨.normal,_,q,F,hk,trivial,m.BA,m.om,m.sm.keep keep,m.size,m.df,m.xo,m.gl⟩:Af c xo Q .normal a w))
   (λch a w=>Iff.rfl) ao l (λ_=>False) (Array.replicate Y.size false) H q F a {w with drawn:=w.drawn+1} (λ_ h=>h.elim) ab
   (λk o _ hl=>by
    rcases QV k Y.size with h'|h'<;>simp_all) h ⟨m.BA.tr hx.tr,m.om.ext hx,m.sm.tr hx.tr,m.size,m.df.tr hx.tr,m.xo,m.gl⟩
  have aa:=ew _ _ _ _ ak;refine wpIn_mono (wpIn_region_any hm (fX X _ _ _ _ (eI _ _ _ _ _ O aa))) (λe a' w' L=>?_);cases e with
  |panic ch=>
   obtain⟨v,J,r,b,u,h1,h2,h3,T⟩:=L;exact⟨.panic v,_,r,b,h1,⟨u,h2,h3⟩,T⟩
  |_=>exact L
|.seq x y,s,Q,H,q,F,a,w,z,U,h,m=>by
 cases s<;>simp[S.An]at z;refine wpIn_seq (wpIn_mono (Y4 hm Z x _ _ H q F a w z.1 (Y95 U) h m) ?_);rintro e a' w' ⟨ae,J,r,b,W,L,T⟩;cases ae with
 |normal=>
  cases e<;>simp only[EF]at L;exact Y4 hm Z y _ Q J r b a' w' z.2 (Y96 U) W T
 |exit n=>
  cases e<;>simp only[EF]at L;exact⟨.exit n,J,r,b,W,L,T⟩
 |ret=>
  cases e<;>simp only[EF]at L;exact⟨.ret,J,r,b,W,trivial,T⟩
 |panic v=>
  cases e<;>simp only[EF]at L;exact⟨.panic v,J,r,b,W,L,T⟩
|.cond d x y,s,Q,H,q,F,a,w,z,U,h,m=>by
 cases s<;>simp[S.An]at z;obtain⟨⟨h1,h2⟩,h3⟩:=z;simp only[EX]at h;have r1:=A.A2 m.sm h1;unfold II at h;split at h
 ·rename_i t e
  rw[e,BW]at r1;exact wpIn_cond_split r1 (λht=>Y4 hm Z x _ Q H q F a w h2 (Y95 U) (h.1 ht) m) (λht=>Y4 hm Z y _ Q H q F a w h3 (Y96 U) (h.2 ht) m)
 ·cases h
|.block n x,s,Q,H,q,F,a,w,z,U,h,m=>by
 cases s<;>simp[S.An]at z;obtain⟨rfl,h1⟩:=z;refine wpIn_block (wpIn_mono (Y4 hm Z x _ _ H q F a w h1 U h m) ?_);rintro e a' w' ⟨ae,J,r,b,W,L,T⟩;cases ae with
 |normal=>
  cases e<;>simp only[EF]at L;exact⟨.normal,J,r,b,W,trivial,T⟩
 |exit k=>
  cases e<;>simp only[EF]at L;subst L;simp only[Zu]at W;simp only[Exit.inBlock];split
  next e=>rw[Bv e]at W;exact⟨.normal,J,r,b,W,trivial,T⟩
  next e=>rw[A5 e]at W;exact⟨.exit _,J,r,b,W,rfl,T⟩
 |ret=>
  cases e<;>simp only[EF]at L;exact⟨.ret,J,r,b,W,trivial,T⟩
 |panic v=>
  cases e<;>simp only[EF]at L;exact⟨.panic v,J,r,b,W,L,T⟩
|.loop x,s,Q,H,q,F,a,w,z,U,h,m=>by
 cases s<;>simp[S.An]at z;simp only[EX]at h;obtain⟨ι,St,Ot,I,μ,i0,a0,aw,ax,aj⟩:=h.run;let G:Act->World->Nat->Prop:=λa w n=>∃i F,I i/\μ i=n/\De c xo F (St i) (Ot i) a w;let M:Act->World->Nat:=λa w=>open Classical in if h:∃n,G a w n then Classical.choose (Xfs (p:=G a w) (Classical.choose h) (Classical.choose_spec h)) else 0
 have hM:∀a w n,G a w n->G a w (M a w)/\M a w<=n:=by
  intro a w n U;have ah:∃n,G a w n:=⟨n,U⟩
  have:=Classical.choose_spec (Xfs (p:=G a w) (Classical.choose ah) (Classical.choose_spec ah));simp only[M,ah,dif_pos];simp_all
 obtain⟨a3,t0,o0⟩:=ax w F m.om;replace m:=m.wk t0 o0;refine wpIn_loop (I:=λa w=>∃n,G a w n) (μ:=M) ⟨μ i0,i0,a3,a0,rfl,by rw[<-aw];exact⟨m.BA,m.om,m.sm.keep _,m.size,m.df,m.xo,m.gl⟩⟩ ?_;rintro a1 w1 ⟨n,az⟩;obtain⟨⟨i,ap,hi,a5,m1⟩,_⟩:=hM a1 w1 n az;refine wpIn_mono (Y4 hm Z x _ _ _ _ ap a1 w1 z U (aj i hi) m1) ?_;rintro e a' w' ⟨ae,J,r,b,W,L,T⟩;cases ae with
 |normal=>
  cases e<;>simp only[EF]at L;obtain⟨ag,a6,a2,q1,q2,j,hj,a4,au,aq⟩:=W;obtain⟨a7,t2,o2⟩:=a2 w' b T.om;replace T:=T.wk t2 o2;have ac:∀id o,ap.m id=some o->AF (AA (Ot i)) ag id=false:=λid o h0=>by
   obtain⟨x,hx⟩:=m1.om.Ev id o h0;grind[AA,Ys,AF]
  have an:∀id o,c.m0 id=some o->AF (AA (Ot i)) ag id=false:=λid o h0=>by
   obtain⟨o',h1,_⟩:=m1.BA.same id o h0;exact ac id o' h1
  have ay:∀p∈c.ev,V.Bg (AF (AA (Ot i)) ag) p.1=false:=λp hp=>dR ac (m1.BA.ext p hp);have Z:G a' w' (μ j):=⟨j,_,hj,rfl,by rw[<-au,<-aq];exact T.sub an ay q1 q2⟩
  have:=hM a' w' _ Z;exact⟨⟨_,Z⟩,by omega⟩
 |exit k=>
  cases e<;>simp only[EF]at L;exact⟨.exit k,J,r,b,W,L,T⟩
 |ret=>
  cases e<;>simp only[EF]at L;exact⟨.ret,J,r,b,W,trivial,T⟩
 |panic v=>
  cases e<;>simp only[EF]at L;exact⟨.panic v,J,r,b,W,L,T⟩
|.exit n,s,Q,H,q,F,a,w,z,U,h,m=>by
 cases s<;>simp[S.An]at z;subst z;exact wpIn_exit ⟨.exit n,H,q,F,h,rfl,m⟩
|.ret,s,Q,H,q,F,a,w,z,U,h,m=>by
 cases s<;>simp[S.An]at z;exact wpIn_ret ⟨.ret,H,q,F,h,trivial,m⟩
|.rangeFunc f qs ca cb,s,Q,H,q,F,a,w,z,U,h,m=>by
 cases s<;>simp only[S.An,BY]at z;grind[S.Fw,Ygs]
|.scope _,s,Q,H,q,F,a,w,z,U,h,m=>by simp_all[S.An]
|.label _,s,Q,H,q,F,a,w,z,U,h,m=>by simp_all[S.An]
|.goto _,s,Q,H,q,F,a,w,z,U,h,m=>by simp_all[S.An]
|.refuse _,s,Q,H,q,F,a,w,z,U,h,m=>by simp_all[S.An]
structure E1(w w2:World):Prop where
 size:w2.heap.size=w.heap.size
 heap:∀b:Nat,w2.heap[b]? = w.heap[b]?\/∃x y,w.heap[b]? = some (Obj.deferred x)/\w2.heap[b]? = some (Obj.deferred y)
 tape:w2.tape=w.tape
 os:w2.os=w.os
 C3:w2.output=w.output
 drawn:w2.drawn=w.drawn
theorem E1.refl(w:World):E1 w w:=⟨rfl,λ_=>.inl rfl,rfl,rfl,rfl,rfl⟩
def E1.trans{w d e:World}(h:E1 w d)(a:E1 d e):E1 w e:=by
 refine⟨a.size.trans h.size,λb=>?_,a.tape.trans h.tape,a.os.trans h.os,a.C3.trans h.C3,a.drawn.trans h.drawn⟩;rcases h.heap b with f|⟨x,y,f,i⟩
 ·rcases a.heap b with c|⟨u,v,c,g⟩<;>grind
 ·rcases a.heap b with c|⟨u,v,c,g⟩<;>simp_all
section
variable {w w2:World} (s:E1 w w2)
include s
theorem E1.keep{b:Nat}{o:Obj}(h:w.heap[b]? = some o)(c:∀x,o≠.deferred x):w2.heap[b]? = some o:=by
 rcases s.heap b with a|⟨x,y,a,_⟩<;>grind
theorem E1.cell{b o:Nat}{v:Value}(h:w.cell? ⟨b,o,none⟩=some v):w2.cell? ⟨b,o,none⟩=some v:=by
 rcases s.heap b with a|⟨x,y,a,_⟩<;>simp_all[cell?_congr,World.cell?]
theorem E1.cells{c:Nat->Prop}{a:Addr}{d:List Value}(h:C5 w c a d):C5 w2 c a d:=
 ⟨λb=>⟨(h.1 b).1,(h.1 b).2.1,by rw[s.size];exact(h.1 b).2.2⟩,λi e=>s.cell (h.2 i e)⟩
mutual
theorem D.Cf{z:Nat->Prop}:∀(d:D)(c:List Value),d.A1 w z c->d.A1 w2 z c
|.int k n,c,h=>by simpa[D.A1]using h
|.bool b,c,h=>by simpa[D.A1]using h
|.AV s,c,h=>by simpa[D.A1]using h
|.Ah,c,h=>by simpa[D.A1]using h
|.CO,c,h=>by simpa[D.A1]using h
|.CV,c,h=>by simpa[D.A1]using h
|.B3,c,h=>by simpa[D.A1]using h
|.Cj,c,h=>by simpa[D.A1]using h
|.CD x,c,h=>by
 simp only[D.A1]at h⊢;obtain⟨a,j,e,H,g,i⟩:=h;exact⟨a,j,e,H,s.cells g,D.Cf x j i⟩
|.iface t x,c,h=>by
 simp only[D.A1]at h⊢;obtain⟨u,e,g⟩:=h;refine⟨u,e,?_⟩;rcases g with⟨p,o,q,r⟩|⟨p,r⟩
 ·exact .inl ⟨p,o,q,D.Cf x o r⟩
 ·exact .inr ⟨p,D.Cf x _ r⟩
|.fn f G F,c,h=>by
 simp only[D.A1]at h⊢;obtain⟨v,y,e,g,i⟩:=h;exact⟨v,y,e,dS G v g,dS F y i⟩
|.agg m,c,h=>by
 simp only[D.A1]at h⊢;exact WO m c h
|.AH sz m,c,h=>by
 simp only[D.A1]at h⊢;rcases h with h|⟨a,l,j,g,i,J,K,L⟩
 ·exact .inl h
 ·exact .inr ⟨a,l,j,g,i,s.cells J,WO m j K,L⟩
theorem dS{c:Nat->Prop}:∀(f:List D)(a:List Value),GL w c f a->GL w2 c f a
|[],a,h=>by simp_all[GL]
|x::r,a,h=>by
 simp only[GL]at h⊢;obtain⟨u,d,e,g,i⟩:=h;refine⟨u,d,e,?_,dS r d i⟩;rcases g with⟨p,b,q,r⟩|⟨p,r⟩
 ·exact .inl ⟨p,b,q,D.Cf x b r⟩
 ·exact .inr ⟨p,D.Cf x _ r⟩
theorem WO{d:Nat->Prop}:∀(f:List D)(c:List Value),CT w d f c->CT w2 d f c
|[],j,h=>by simp_all[CT]
|x::r,j,h=>by
 simp only[CT]at h⊢;obtain⟨a,b,e,g,i⟩:=h;exact⟨a,b,e,D.Cf x a g,WO r b i⟩
end
mutual
theorem Ns{l:BF}:∀(x:V)(a:List Value),x.Au w l a->x.Au w2 l a
|.d x,a,h=>by grind[V.Au,D.Cf]
|.ptr _ _,a,h=>by simp_all[V.Au]
|.sl _ _,a,h=>by simp_all[V.Au]
|.sd _ _,a,h=>by simp_all[V.Au]
|.mp _,a,h=>by simp_all[V.Au]
|.hd _ _,a,h=>by simp_all[V.Au]
|.ep _ _ _ _ _ _,a,h=>by simp_all[V.Au]
|.bs _ _ _ _,a,h=>by simp_all[V.Au]
|.fn f n m,a,h=>by
 simp only[V.Au]at h⊢;obtain⟨i,j,e,b,o⟩:=h;exact⟨i,j,e,WQ n i b,WQ m j o⟩
|.agg c,a,h=>by simp only[V.Au]at h⊢;exact dT c a h
|.iface t x,a,h=>by
 simp only[V.Au]at h⊢;obtain⟨u,e,b⟩:=h;refine⟨u,e,?_⟩;rcases b with b|⟨p,g,q,r⟩|⟨p,r⟩
 ·exact .inl b
 ·exact .inr (.inl ⟨p,g,q,Ns x g r⟩)
 ·exact .inr (.inr ⟨p,Ns x _ r⟩)
|.BU c,a,h=>by
 simp only[V.Au]at h⊢;obtain⟨k,e,b⟩:=h;exact⟨k,e,WQ c k b⟩
|.undef,a,h=>by simp_all[V.Au]
|.any,a,h=>by simp_all[V.Au]
theorem dT{f:BF}:∀(d:List V)(a:List Value),Cg w f d a->Cg w2 f d a
|[],a,h=>by simp_all[Cg]
|x::r,a,h=>by
 simp only[Cg]at h⊢;obtain⟨b,c,e,g,i⟩:=h;exact⟨b,c,e,Ns x b g,dT r c i⟩
theorem WQ{g:BF}:∀(f:List V)(a:List Value),V.BT w g f a->V.BT w2 g f a
|[],a,h=>by simp_all[V.BT]
|x::r,a,h=>by
 simp only[V.BT]at h⊢;obtain⟨u,d,e,b,i⟩:=h;refine⟨u,d,e,?_,WQ r d i⟩;rcases b with b|⟨p,c,q,r⟩|⟨p,r⟩
 ·exact .inl b
 ·exact .inr (.inl ⟨p,c,q,Ns x c r⟩)
 ·exact .inr (.inr ⟨p,Ns x _ r⟩)
end
theorem V.Cf{b:BF}{x:V}{u:Value}(h:x.A1 w b u):x.A1 w2 b u:=by
 rcases h with c|⟨p,a,q,r⟩|⟨p,r⟩
 ·exact .inl c
 ·exact .inr (.inl ⟨p,a,q,Ns s x a r⟩)
 ·exact .inr (.inr ⟨p,Ns s x _ r⟩)
theorem Yp.same{c:BF}:∀(l:List (D×V)) (b:List MapEntry),Yp w c l b->Yp w2 c l b
|[],b,h=>h
|(k,v)::r,b,h=>by
 obtain⟨e,a,d,f,g,i⟩:=h;exact⟨e,a,d,f,V.Cf s g,Yp.same r a i⟩
theorem D5.same{q:BF}{id:Nat}{x:Ob}(h:D5 w q id x):D5 w2 q id x:=by
 cases x with
 |box E t=>
  obtain⟨b,g,a,c,d⟩:=h;exact⟨b,g,a,s.keep c (by simp),Ns s _ _ d⟩
 |BO E H L=>
  rcases h with k|⟨b,e,g,o,a,c,d,f⟩
  ·exact .inl k
  ·exact .inr ⟨b,e,g,o,a,s.keep c (by simp),WO s _ _ d,f⟩
 |A0 E H L=>
  rcases h with k|⟨b,e,g,o,a,c,d,f⟩
  ·exact .inl k
  ·exact .inr ⟨b,e,g,o,a,s.keep c (by simp),dT s _ _ d,f⟩
 |map N=>
  obtain⟨b,l,i,a,c,d,f⟩:=h;exact⟨b,l,i,a,s.keep c (by simp),Yp.same s _ _ d,f⟩
 |lp J P O=>
  obtain⟨b,y,K,v,G,r,u,a,c,d,f⟩:=h;exact⟨b,y,K,v,G,r,u,a,s.keep c (by simp),d,λp z=>V.Cf s (f p z)⟩
 |it m n seen=>
  cases m with
  |none=>obtain⟨b,a,c⟩:=h;exact⟨b,a,s.keep c (by simp)⟩
  |some j=>obtain⟨b,F,a,d,c⟩:=h;exact⟨b,F,a,d,s.keep c (by simp)⟩
 |Ar=>exact h
theorem OM.same{c:BF}{d:AE}(h:OM w c d)(e:∀b o,c.gl b=some o->w2.heap[b]? = w.heap[b]?):OM w2 c d:=
 ⟨λid x f=>D5.same s (h.Ba id x f),h.Ev,h.inj,λb a=>by rw[s.size];exact h.FV b a,λb o a=>⟨(e b o a).trans (h.EZ b o a).1,(h.EZ b o a).2⟩,h.D1,h.C4⟩
theorem SM.same{c:BF}{b:Xf}{a:Act}(h:SM w c b a):SM w2 c b a:=λk=>V.Cf s (h k)
end
def Ync{P:Program}{w:World}{r:Nat}(h:w.heap[r]? = some (.deferred (some []))):
 (Instr.takeDeferred r).run P w=.ok [] (Et w r (.deferred none))/\E1 w (Et w r (.deferred none))/\∀b,b≠r->(Et w r (.deferred none)).heap[b]? = w.heap[b]?:=by
 have a:(getObj r).run P w=.ok (.deferred (some [])) w:=by simp[getObj,Sem.run,h]
 have c:=XM (P:=P) (o:=.deferred none) w h rfl;refine⟨by simp_all[Instr.takeDeferred],⟨U2 ..,λb=>?_,rfl,rfl,rfl,rfl⟩,λb d=>Wn w _ (Ne.symm d)⟩;grind[XQ,Xu,Wn]
def dx{F:Fence}{n:Nat}{P:Program}{g:Func}{a:Array Value}{R:Ending->World->Prop}:∀(d:List Nat)(w:World),d.Nodup->(∀r∈d,w.heap[r]? = some (.deferred (some [])))->
 (∀c,E1 w c->(∀b,b∉d->c.heap[b]? = w.heap[b]?)->∃v,(results g a).run P c=.ok v c/\R (.returned v) c)->LeavesInM F n P g a R (d.map KX) .returning w
|[],w,_,_,h=>by
 simp_all[LeavesInM,LeavesIn,E1.refl]
|r::d,w,p,o,h=>by
 obtain⟨k,l,m⟩:=Ync (P:=P) (o r (by simp));obtain⟨u,f⟩:=List.nodup_cons.1 p;refine⟨by simp,.inl ⟨r,_,rfl,k,dx d _ f (λj t=>?_) (λc s q=>?_)⟩⟩
 ·grind
 ·exact h c (l.trans s) (λb i=>(q b (λe=>i (by simp[e]))).trans (m b (λe=>i (by simp[e]))))
inductive RV where
|t (k:Nat)
|c (k n:Nat) (ag:Bool)
def RV.An(P:Program):ResultVar->RV->Bool
|.tmp j,.t k=>j==k
|.cell a b,.c k n d=>a==k&&Yl P b==some n&&(P.underlying b).isSome&&Gj P b==d
|_,_=>false
def Kr(P:Program):List ResultVar->List RV->Bool
|[],[]=>true
|x::r,y::s=>y.An P x&&Kr P r s
|_,_=>false
def RV.wp(a:Xf)(d:AE)(K:V->Prop):RV->Prop
|.t k=>K (BG a k)
|.c k n b=>E9 d n b K (BG a k)
def Q8(b:Xf)(a:AE):List RV->(List V->Prop)->Prop
|[],K=>K []
|x::r,K=>x.wp b a λv=>Q8 b a r λc=>K (v::c)
def J7:List V->V
|[v]=>v
|a=>.BU a
def Qn(K:List D->AE->Prop):Option (List D×AE)->Prop
|some (l,a)=>K l a
|none=>False
def Hp(e:List RV)(K:V->Prop):Z5
|.normal,b,a=>Q8 b a e λc=>Qn (λl _=>K (J7 (l.map .d))) (EJ a c)
|.ret,b,a=>Q8 b a e λc=>Qn (λl _=>K (J7 (l.map .d))) (EJ a c)
|.exit _,_,_=>False
|.panic _,_,_=>False
def MS(v:V)(b:AE)(K:V->AE->Prop):Option (D×AE)->Prop
|some (d,a)=>K (.d d) a
|none=>K v b
def HO:List V->AE->(List V->AE->Prop)->Prop
|[],b,K=>K [] b
|v::r,b,K=>MS v b (λd c=>HO r c λe a=>K (d::e) a) (EU b v)
def Yh(n:Nat)(K:AE->Prop)(c:List V)(b:AE):Prop:=
 ∃a:List Nat,Bu (AF n a) c=false/\AN (AF n a) (Xo (AF n a) b)=true/\K (Xo (AF n a) b)
def IH(n:Nat)(d:List RV)(K:BQ->AE->Prop):Z5
|.normal,c,a=>Q8 c a d λb=>HO b a λb a=>Yh n (K (.ret (J7 b))) b a
|.ret,c,a=>Q8 c a d λb=>HO b a λb a=>Yh n (K (.ret (J7 b))) b a
|.panic v,_,a=>Yh n (K (.panic v)) [v] a
|.exit _,_,_=>False
def Eh(k:Nat):List V->Xf
|[]=>[]
|v::r=>(k,v)::Eh (k+1) r
def Lr(P:Program)(f n:Nat)(s:S)(c:List RV):Bool:=match P.funcs[f]? with
|some b=>match b.body with
 |some a=>decide (n<=b.ntmps)&&S.An P b.ntmps a s&&Kr P b.results.toList c
 |none=>false
|none=>false
def Xp(P:Program)(f n:Nat)(s:S)(a:List RV):Bool:=Lr P f n s a&&s.Fw
section
variable {P:Program} {w:World} {ρ:BF}
def SE(a:Act)(r:ResultVar):Sem Value:=match r with
|.tmp t=>pure (a.tmps.getD t undef)
|.cell x t=>do loadVar t (<-asAddr (a.tmps.getD x undef))
def Xs3{a:Act}{m:Xf}{j:AE}(i:SM w ρ m a)(q:OM w ρ j):∀(G:List ResultVar)(F:List RV)(K:List V->Prop),Kr P G F=true->Q8 m j F K->
 ∃d f,K d/\V.BT w ρ d f/\(G.mapM (SE a)).run P w=.ok f w
|[],[],K,_,h=>⟨[],[],h,by simp[V.BT],by simp⟩
|x::r,y::s,K,b,h=>by
 simp only[Kr,BX]at b;simp only[Q8]at h;have Ba:∃v u,Q8 m j s (λd=>K (v::d))/\v.A1 w ρ u/\(SE a x).run P w=.ok u w:=by
  cases x with
  |tmp t=>
   cases y with
   |t k=>simp[RV.An]at b;obtain⟨rfl,_⟩:=b;exact⟨_,_,h,i t,by simp[SE]⟩
   |c k n ag=>simp[RV.An]at b
  |cell z t=>
   cases y with
   |t k=>simp[RV.An]at b
   |c k n ag=>
    simp only[RV.An,BX,EN]at b;obtain⟨⟨⟨⟨rfl,o⟩,p⟩,H⟩,_⟩:=b;simp only[RV.wp]at h;obtain⟨v,y,L,N,e⟩:=TY (P:=P) (a:=a) (n:=n) (ag:=ag) (x:=.t z) (op:=.load t (.tmp z)) i q (by simp_all[C.An,A.An]) (by simpa[A.ev]using h);refine⟨y,v,L,N,?_⟩
    have:=e ⟨none,.load t (.tmp z),0, "", #[],none⟩ rfl w (λ_=>CM.refl w)
    simp only[execOp,Act.eval,Cm,Instr.loadAt]at this;simp only[SE,Cm];generalize Q:a.tmps.getD z undef=pv at *;cases pv with
    |pointer g=>
     cases g with
     |none=>simp[Instr.sureAddr]at this
     |some g=>
      simp only[Instr.sureAddr,DD,Ch]at this;simp only[asAddr,DD,Ch];revert this;generalize (loadVar t g).run P w=l;intro this;cases l<;>simp_all
    |_=>simp[Instr.sureAddr]at this
 obtain⟨v,u,o,p,H⟩:=Ba;obtain⟨d,f,k,J,O⟩:=Xs3 i q r s _ b.2 o;refine⟨v::d,u::f,k,?_,?_⟩
 ·exact⟨u,f,rfl,p,J⟩
 simp_all
|[],_::_,_,b,_=>by simp[Kr]at b
|_::_,[],_,b,_=>by simp[Kr]at b
def L8:List Value->Value
|[u]=>u
|a=>.tuple a.toArray
def U1{fn:Func}{a:Act}{f:Xf}{d:AE}{e:List RV}{K:List V->Prop}(n:SM w ρ f a)(l:OM w ρ d)(m:Kr P fn.results.toList e=true)(h:Q8 f d e K):
 ∃b c,K b/\V.BT w ρ b c/\(results fn a.tmps).run P w=.ok (L8 c) w:=by
 obtain⟨b,c,k,g,o⟩:=Xs3 (P:=P) n l _ _ _ m h;refine⟨b,c,k,g,?_⟩;have i:(fn.results.mapM (SE a)).run P w=.ok c.toArray w:=by
  simp_all[Array.mapM_eq_mapM_toList]
 have j:results fn a.tmps=(fn.results.mapM (SE a) >>= λb=>pure (if h:b.size=1 then b[0] else .tuple b)):=rfl;rw[j,Cm];simp only[i,Ch,DD];cases c with
 |nil=>simp[L8]
 |cons u r=>
  cases r<;>simp[L8]
theorem TC{b:List V}{c:List Value}(h:V.BT w ρ b c):(J7 b).A1 w ρ (L8 c):=by
 cases b with
 |nil=>
  subst h;rw[show J7 []=.BU [] from rfl,CY];exact⟨[],rfl,by simp[V.BT]⟩
 |cons v r=>
  obtain⟨u,g,rfl,e,a⟩:=h;cases r with
  |nil=>subst a;exact e
  |cons m k=>
   have f:=a;obtain⟨l,d,rfl,i,j⟩:=a;show(V.BU _).A1 w ρ _;rw[CY];refine⟨_,rfl,?_⟩;grind[V.BT]
def eY:∀(s:List V)(i:List Value){ρ:BF}{g a:AE}{l:List D},OM w ρ g->V.BT w ρ s i->EJ g s=some (l,a)->∃c,Tr w ρ w c/\OM w c a/\V.BT w c (l.map .d) i
|[],i,ρ,g,a,l,n,h,e=>by
 grind[EJ,Tr.refl,V.BT]
|x::r,i,ρ,g,a,l,n,h,e=>by
 simp only[EJ]at e;obtain⟨u,f,rfl,t,v⟩:=h;split at e
 ·rename_i J k y;obtain⟨H,o,F,z⟩:=YI n (u:=u) t y;cases b:EJ k r with
  |none=>simp[b,Jb]at e
  |some q=>
   simp only[b,Jb,ED,Ki]at e;obtain⟨rfl,rfl⟩:=e;obtain⟨m,p,G,j⟩:=eY r f F (Md o _ _ v) b;exact⟨m,o.trans p,G,by exact⟨u,f,rfl,HD p z,j⟩⟩
 ·cases e
def fU:∀(v:List V)(g:List Value){ρ:BF}{f:AE}{K:List V->AE->Prop},OM w ρ f->V.BT w ρ v g->HO v f K->∃d b a,K d b/\Tr w ρ w a/\OM w a b/\V.BT w a d g
|[],g,ρ,f,K,i,h,e=>by
 grind[HO,Tr.refl]
|x::r,g,ρ,f,K,i,h,e=>by
 simp only[HO]at e;obtain⟨u,c,rfl,n,p⟩:=h;cases j:EU f x with
 |none=>
  simp only[j,MS]at e;obtain⟨d,b,a,k,t,o,l⟩:=fU r c i p e;exact⟨_,b,a,k,t,o,by exact⟨u,c,rfl,HD (u:=u) t n,l⟩⟩
 |some q=>
  simp only[j,MS]at e;obtain⟨z,s,y,l⟩:=YI i (u:=u) n j;obtain⟨d,b,a,k,t,o,m⟩:=fU r c y (Md s _ _ p) e;exact⟨_,b,a,k,s.trans t,o,by exact⟨u,c,rfl,HD t l,m⟩⟩
def Rk{b:List V}{a:List Value}(h:V.BT w ρ b a):∀(k:Nat)(t:Array Value),(∀i (c:i<a.length),t.getD (k+i) undef=a[i])->∀j,(BG (Eh k b) j).A1 w ρ (t.getD j undef):=by
 induction b generalizing a with
 |nil=>intro k t _ j;exact Nv
 |cons v r l=>
  obtain⟨u,m,rfl,f,g⟩:=h;intro k t d j;simp only[Eh,BG];split
  next e=>subst e;have:=d 0 (by simp);simp only[Nat.add_zero,List.getElem_cons_zero]at this;rw[this];exact f
  ·refine l g (k+1) t (λi c=>?_) j;have:=d (i+1) (by simpa using c);grind
def TF{c:BF}(j:Gb w (CS ρ) w (CS c)):∀(g:List V)(a:List Value)(f:List D),g=f.map .d->V.BT w ρ g a->V.BT w c g a
|[],a,f,_,h=>by simpa[V.BT]using h
|v::r,a,[],e,h=>by simp at e
|v::r,a,d::f,e,h=>by
 simp at e;obtain⟨rfl,e⟩:=e;obtain⟨u,b,rfl,k,i⟩:=h;refine⟨u,b,rfl,?_,TF j r b f e i⟩;grind[V.Au,Ih]
theorem Zy:∀{b:List V}{a:List Value},V.BT w ρ b a->a.length=b.length
|[],a,h=>by simp_all[V.BT]
|v::r,a,h=>by
 obtain⟨u,d,rfl,_,c⟩:=h;simp[Zy c]
theorem X0g{P:BE}(hm:P.p.follows .mixedOrders=true){f:Nat}{s:S}{rs:List RV}{O:List D}{ah:AE}{K:V->Prop}(J:Lr P.p f O.length s rs=true)
 (h:EX P s (Hp rs K) (Eh 0 (O.map .d)) []):AW P f (O.map .d) ah K:=by
 unfold Lr at J;split at J
 ·rename_i fn hf;split at J
  ·rename_i U k;simp only[BX,D2]at J;obtain⟨⟨hn,G⟩,H⟩:=J;refine⟨λw ρ t W hg hr=>callsIn_wide.1 (callsIn_of_wp_marks (n:=0) hf k trivial ?_)⟩;let z:BF:=⟨λ_=>none,CS ρ,ρ.gl⟩
   let c:EH:=⟨w,λ_=>False,fn.ntmps,[],P.g,λ_=>none,[],true⟩
   have a:∀b,¬FW z b:=λb ⟨_,_,h,_⟩=>by cases h
   have ab:∀b,CS ρ b->b<w.heap.size:=λb h=>h.elim (λ⟨_,_,G,H⟩=>Q3 W G H) (W.FV b);have mo:Gb w (CS ρ) w (CS z):=λb G _=>⟨rfl,λH=>H.elim (a b) G⟩;have ac:=TF mo _ _ O rfl hr;have al:t.length=O.length:=by simpa using Zy hr
   have m:De c (CS ρ) z (Eh 0 (O.map .d)) [] {tmps:=t.toArray++Array.replicate (fn.ntmps-t.toArray.size) undef,defers:=[] } w:=by
    refine⟨⟨B9 _,λ_ _ _=>rfl,λb h=>absurd h (a b),rfl,rfl,rfl,(λid o h=>by cases h),(λp hp=>by cases hp),B9 _⟩,⟨λj x hx=>(by simp[AD]at hx),λj o hj=>(by cases hj),λi j o p b hi=>(by cases hi),λb k=>ab b k,λb o k=>⟨(W.EZ b o k).1,λh=>h.elim (a b) (W.EZ b o k).2⟩,λb k=>absurd k (a b),trivial⟩,?_,?_,Fa.nil,rfl,hg⟩
    ·refine Rk ac 0 _ (λi hi=>?_);simp[O7,hi]
    ·simp[c];omega
   refine wpIn_mono (Y4 (rd:=none) hm rfl U s _ _ _ z _ w G (.inr ⟨rfl,rfl⟩) h m) ?_;rintro e a' T ⟨ae,ai,N,Z,Q,he,y⟩;have F:Q8 ai N rs (λvs=>Qn (λl _=>K (J7 (l.map .d))) (EJ N vs))->LeavesInM Fence.wide 0 P.p fn a'.tmps (λe T=>∃v u,K v/\e=.returned u/\v.A1 T ρ u/\CM w T) a'.defers .returning T:=by
    intro Q;obtain⟨ms,q1,_,q3,q4⟩:=y.df;have q1:a'.defers=ms.map KX:=by rw[q1];simp[c]
    rw[q1];refine dx ms T q3 (λr hr=>(q4 r hr).2.1) (λw2 sm hs=>?_);have aa:∀b o,Z.gl b=some o->w2.heap[b]? = T.heap[b]?:=λb o k=>hs b (λhm=>by
     have h3:=(W.EZ b o (by rw[hg,<-show Z.gl=P.g from y.gl];exact k)).1;grind)
    have Y:=OM.same sm y.om aa;obtain⟨vs,us,hk,X,an⟩:=U1 (P:=P.p) (fn:=fn) (SM.same sm y.sm) Y H Q;cases L:EJ N vs with
    |none=>simp[L,Qn]at hk
    |some q=>
     obtain⟨l,ao⟩:=q;simp only[L,Qn]at hk;obtain⟨aj,t2,o2,ad⟩:=eY vs us Y X L;have ag:Gb w2 (CS aj) w2 (CS ρ):=λb G _=>⟨rfl,λH=>G (.inr (by rw[t2.xo,y.xo];exact H))⟩;have af:=TF ag _ _ l rfl ad;have ak:CM w w2:=⟨by rw[sm.size];exact y.BA.size,λb k=>(hs b (λhm=>by grind)).trans (y.BA.keep b k (λh=>h)),sm.tape.trans y.BA.tape,sm.os.trans y.BA.os,sm.C3.trans y.BA.C3,by rw[sm.drawn];exact y.BA.drawn⟩
     grind[L8,J7,TC]
   cases ae with
   |normal=>
    cases e<;>simp only[EF]at he;exact F Q
   |ret=>
    cases e<;>simp only[EF]at he;exact F Q
   |exit n=>cases Q
   |panic v=>cases Q
  ·simp at J
 ·simp at J
theorem X6i{P:BE}(g:P.p.follows .mixedOrders=true){f:Nat}{s:S}{c:List RV}{a:List D}{b:AE}{K:V->Prop}(e:Xp P.p f a.length s c=true)
 (h:EX P s (Hp c K) (Eh 0 (a.map .d)) []):AW P f (a.map .d) b K:=by
 grind[Xp,X0g]
def fh{a:Nat->Bool}{b:List V}{c:List Value}(d:Bu a b=false)(h:V.BT w ρ b c):V.BT w (ρ.Cs a) b c:=Su b c d h
def Ob.DU(a:Nat->Bool):Ob->Prop
|.box _ t=>V.Bg a t=false
|.A0 _ _ d=>Bu a d=false
|.map b=>Zp a b=false
|.lp _ _ c=>Vo a c=true
|.it m _ _=>qI a m=false
|_=>True
def Wx{b:Nat->Bool}:∀(c:AE),(∀e∈c,e.2.DU b)->AN b c=true
|[],_=>rfl
|(j,.box E t)::r,h=>by
 simp only[AN,BX,JQ];exact⟨h (j,.box E t) (by simp),Wx r λe a=>h e (by simp[a])⟩
|(j,.A0 E z t)::r,h=>by
 simp only[AN,BX,JQ];exact⟨h (j,.A0 E z t) (by simp),Wx r λe a=>h e (by simp[a])⟩
|(j,.map t)::r,h=>by
 simp only[AN,BX,JQ];exact⟨h (j,.map t) (by simp),Wx r λe a=>h e (by simp[a])⟩
|(j,.BO _ _ _)::r,h=>by exact Wx r λe a=>h e (by simp[a])
|(j,.Ar)::r,h=>by exact Wx r λe a=>h e (by simp[a])
|(j,.lp f d t)::r,h=>by
 simp only[AN,BX];exact⟨h (j,.lp f d t) (by simp),Wx r λe a=>h e (by simp[a])⟩
|(j,.it m n t)::r,h=>by
 simp only[AN,BX,JQ];exact⟨h (j,.it m n t) (by simp),Wx r λe a=>h e (by simp[a])⟩
def Xse{a:Nat->Bool}(d:∀id o,ρ.m id=some o->a id=false):∀(l:List (D×V)) (c:List MapEntry),Yp w ρ l c->Zp a l=false
|[],_,_=>rfl
|(k,v)::r,c,h=>by
 obtain⟨e,b,_,_,f,g⟩:=h;simp only[Zp,dR d f,Xse d r b g,Bool.or_self]
def fc{a:Nat->Bool}:∀(b:Xf),(∀p∈b,V.Bg a p.2=false)->Vo a b=true
|[],_=>rfl
|(j,v)::r,h=>by
 simp only[Vo,BX,JQ];exact⟨h (j,v) (by simp),fc r λp c=>h p (by simp[c])⟩
def D5.DU{d:Nat->Bool}(c:∀id o,ρ.m id=some o->d id=false){j:Nat}{x:Ob}(h:D5 w ρ j x):x.DU d:=by
 cases x with
 |box E t=>obtain⟨b,g,_,_,a⟩:=h;exact Nr c _ _ a
 |A0 E r u=>
  rcases h with⟨_,rfl⟩|⟨b,e,g,K,_,_,a,_⟩
  ·rfl
  ·exact dP c _ _ a
 |map F=>obtain⟨b,l,f,_,_,a,_⟩:=h;exact Xse c _ _ a
 |BO E r u=>trivial
 |Ar=>trivial
 |lp s L q=>
  obtain⟨b,G,N,z,J,v,y,_,_,_,a⟩:=h;exact fc q λp k=>dR c (a p k)
 |it m n seen=>
  cases m with
  |none=>rfl
  |some i=>
   obtain⟨b,H,_,a,_⟩:=h;rcases a with a|a<;>exact c _ _ a
theorem X4p{P:BE}(hm:P.p.follows .mixedOrders=true){f:Nat}{s:S}{rs:List RV}{d:List V}{H:AE}{K:BQ->AE->Prop}(k:Xp P.p f d.length s rs=true)
 (h:EX P s (IH (AA H) rs K) (Eh 0 d) H):Aa P f d H K:=by
 simp only[Xp,BX]at k;obtain⟨k,Y⟩:=k;unfold Lr at k;split at k
 ·rename_i fn hf;split at k
  ·rename_i N hb;simp only[BX,D2]at k;obtain⟨⟨hn,G⟩,X⟩:=k;refine⟨λw ρ j hO hg hr=>calls_of_wp hf hb ?_⟩;let c:EH:=⟨w,FW ρ,fn.ntmps,[],P.g,ρ.m,[],false⟩
   have ad:j.length=d.length:=by grind[Zy]
   have m:De c ρ.xo ρ (Eh 0 d) H {tmps:=j.toArray++Array.replicate (fn.ntmps-j.toArray.size) undef,defers:=[] } w:=by
    refine⟨⟨B9 _,λ_ _ _=>rfl,λb h=>.inr h,rfl,rfl,rfl,λid o h=>⟨o,h,.refl o⟩,(λp hp=>by cases hp),B9 _⟩,hO,?_,?_,Fa.nil,rfl,hg⟩
    ·refine Rk hr 0 _ (λi hi=>?_);simp[O7,hi]
    ·simp[c];omega
   refine wp_mono (wpIn_wide.1 (Y4 (rd:=none) hm rfl N s _ _ _ ρ _ w G (.inl Y) h m)) ?_;rintro e a' F ⟨ae,aa,r,ac,L,U,q⟩;have af:∀l id o,ρ.m id=some o->AF (AA H) l id=false:=λl id o h0=>by
    obtain⟨x,hx⟩:=hO.Ev id o h0;grind[AA,Ys,AF]
   have tr:∀{a:BF},Tr F ac F a->∀l,Tr w ρ F (a.Cs (AF (AA H) l)):=λ{a} t l=>by
    have y:=q.BA.tr t;refine⟨y.size,λb G X=>y.keep b X G,λb G=>(y.DY b (Vc G)).symm,?_,?_,λid o G=>?_,y.tape,y.os,y.C3,y.drawn⟩
    ·show a.xo=ρ.xo;rw[t.xo,q.xo]
    ·show a.gl=ρ.gl;rw[t.gl,q.gl,hg]
    ·obtain⟨o',h3,h4⟩:=y.same id o G;simp_all[BF.Cs]
   have z:Q8 aa r rs (λd=>HO d r λd r=>Yh (AA H) (K (.ret (J7 d))) d r)->a'.defers=[]/\∃v,(results fn a'.tmps).run P.p F=.ok v F/\∃T J a,K T J/\Un F a (.returned v) T/\OM F a J/\Tr w ρ F a:=by
    intro L;obtain⟨d,us,hk,O,Q⟩:=U1 (P:=P.p) (fn:=fn) q.sm q.om X L;obtain⟨ab,J,a,⟨l,W,k2,k3⟩,t2,o2,Z⟩:=fU d us q.om O hk;exact⟨q.df.eq rfl,L8 us,Q,.ret (J7 ab),_,_,k3,TC (fh W Z),o2.Cs k2,tr t2 l⟩
   cases ae with
   |normal=>
    cases e<;>simp only[EF]at U;exact z L
   |ret=>
    cases e<;>simp only[EF]at U;exact z L
   |exit n=>cases L
   |panic v=>
    cases e<;>simp only[EF]at U;obtain⟨u,rfl,hu⟩:=U;obtain⟨l,W,k2,k3⟩:=L;simp only[Bu,Bool.or_false]at W;exact⟨q.df.eq rfl,.panic v,_,_,k3,⟨u,rfl,Nq W hu⟩,q.om.Cs k2,tr (Tr.refl _ _) l⟩
  ·simp at k
 ·simp at k
def Aa.ER{P:BE}{f:Nat}{i:List V}{b:AE}{K:BQ->AE->Prop}(h:(∀a,Bu (AF (AA b) a) i=false)->(∀a,AN (AF (AA b) a) b=true)->Aa P f i b K):Aa P f i b K:=by
 refine⟨λw ρ c g n j=>?_⟩;have d:∀a id o,ρ.m id=some o->AF (AA b) a id=false:=λa id o k=>by
  obtain⟨x,p⟩:=g.Ev id o k;grind[AA,Ys,AF]
 exact(h (λa=>QS (d a) _ _ j) (λa=>Wx b λe l=>(g.Ba e.1 _ (g.C4.BG e l)).DU (d a))).run w ρ c g n j
def Ymq{P:BE}{p:Program}(e:P.p=p)(i:p.follows .mixedOrders=true){f:Nat}{s:S}{c:List RV}{a:List D}{b:AE}{K:V->Prop}(g:Xp p f a.length s c=true)
 (h:EX P s (Hp c K) (Eh 0 (a.map .d)) []):AW P f (a.map .d) b K:=by
 grind[X6i]
end
section
variable (P:BE) (K:V->Prop) (KO:V->AE->Prop) (Pn:V->AE->Prop) (Q:Z5) (next:Xf->AE->Prop) (sl:Xf) (ob:AE) (r:Xf) (ro:AE) (v v':V) (x y z:A) (k j n:Nat) (b c:Bool) (m m':Int) (kd kd':IntKind) (s s':List UInt8) (xs:List D) (vs:List V) (d:D)
@[simp]def jl:BG ((k,v)::r) k=v:=by simp[BG]
@[simp]def Yb4(h:(j==k)=false):BG ((j,v)::r) k=BG r k:=by simp at h;simp[BG,h]
@[simp]def lookO_nil:AD [] k=none:=by simp only[AD]
@[simp]def lookO_eq(o:Ob):AD ((k,o)::ro) k=some o:=by simp[AD]
@[simp]def xc(o:Ob)(h:(j==k)=false):AD ((j,o)::ro) k=AD ro k:=by simp at h;simp[AD,h]
@[simp]def setO_eq(o a:Ob):AG ((k,o)::ro) k a=(k,a)::ro:=by simp[AG]
@[simp]def Yza(o a:Ob)(h:(j==k)=false):AG ((j,o)::ro) k a=(j,o)::AG ro k a:=by simp at h;simp[AG,h]
@[simp]def put_some:put sl (some k) v=(k,v)::sl:=by simp only[put]
@[simp]def put_none:put sl none v=sl:=by simp only[put]
@[simp]def bW:A.ev sl (.t k)=BG sl k:=by simp only[A.ev]
@[simp]def ev_int:A.ev sl (.int kd m)=.d (.int kd m):=by simp only[A.ev]
@[simp]def ev_bool:A.ev sl (.bool b)=.d (.bool b):=by simp only[A.ev]
@[simp]def ev_str:A.ev sl (.AV s)=.d (.AV s):=by simp only[A.ev]
@[simp]def ev_nils:A.ev sl .Ah=.d .Ah:=by simp only[A.ev]
@[simp]def ev_nili:A.ev sl .CO=.d .CO:=by simp only[A.ev]
@[simp]def ev_fn:A.ev sl (.fn k)=.fn k [] []:=by simp only[A.ev]
-- calm operations
@[simp]def wp_mv:C.wp sl ob K (.mv x)=K (x.ev sl):=by simp only[C.wp]
@[simp]def wp_pick:C.wp sl ob K (.pick x y z)=KL K (x.ev sl) (y.ev sl) (z.ev sl):=by simp only[C.wp]
@[simp]def Yy5:KL K (.d (.bool true)) v v'=K v:=by unfold KL;split<;>simp_all
@[simp]def Yy4:KL K (.d (.bool false)) v v'=K v':=by unfold KL;split<;>simp_all
@[simp]def wp_not:C.wp sl ob K (.not x)=MP K (x.ev sl):=by simp only[C.wp]
@[simp]def notK_b:MP K (.d (.bool b))=K (.d (.bool (!b))):=by simp only[MP]
@[simp]def wp_cpl:C.wp sl ob K (.HY x)=MD K (x.ev sl):=by simp only[C.wp]
@[simp]def cplK_i:MD K (.d (.int kd m))=K (.d (.int kd (Zk .xor kd (if kd.signed then -1 else kd.max) m))):=by simp only[MD]
@[simp]def wp_neg:C.wp sl ob K (.neg x)=MN K (x.ev sl):=by simp only[C.wp]
@[simp]def negK_i:MN K (.d (.int kd m))=K (.d (.int kd (kd.wrap (0-m)))):=by simp only[MN]
@[simp]def wp_bin(a:BinOp):C.wp sl ob K (.Bl a x y)=JS a K (x.ev sl) (y.ev sl):=by simp only[C.wp]
@[simp]def binK_i(a:BinOp):JS a K (.d (.int kd m)) (.d (.int kd' m'))=Ix a kd kd' m m' K:=by simp only[JS]
@[simp]def binK_s(a:BinOp):JS a K (.d (.AV s)) (.d (.AV s'))=KA a s s' K:=by simp only[JS]
@[simp]def intK_shl:Ix .shl kd kd' m m' K=(0<=m'/\K (.d (.int kd (kd.wrap (m*2 ^ (min m'.toNat kd.bits)))))):=by simp[Ix]
@[simp]def intK_shr:Ix .shr kd kd' m m' K=(0<=m'/\K (.d (.int kd (m.fdiv (2 ^ (min m'.toNat kd.bits)))))):=by simp[Ix]
@[simp]def strK_eql:KA .eql s s' K=K (.d (.bool (s==s'))):=by simp[KA]
@[simp]def strK_neq:KA .neq s s' K=K (.d (.bool (s != s'))):=by simp[KA]
@[simp]def wp_isnil:C.wp sl ob K (.Db b x)=J3 b K (x.ev sl):=by simp only[C.wp]
@[simp]def isnilK_n:J3 b K (.d .CO)=K (.d (.bool b)):=by simp only[J3]
@[simp]def isnilK_di:J3 b K (.d (.iface k d))=K (.d (.bool (!b))):=by simp only[J3]
@[simp]def wp_fnil:C.wp sl ob K (.Ej b x)=KH b K (x.ev sl):=by simp only[C.wp]
@[simp]def fnilK_n:KH b K (.d .B3)=K (.d (.bool b)):=by simp only[KH]
@[simp]def fnilK_f(a e:List V):KH b K (.fn k a e)=K (.d (.bool (!b))):=by simp only[KH]
@[simp]def mkiV_d:MM k (.d d)=.d (.iface k d):=by simp only[MM]
@[simp]def mkiV_p(p:List Nat):MM k (.ptr j p)=.iface k (.ptr j p):=by simp only[MM]
@[simp]def mkfV_eq(a e:List V):Pt k a e=NQ k a e (Cb a) (Cb e):=by simp only[Pt]
@[simp]def mkfO_ss(f g:List V)(a e:List D):NQ k f g (some a) (some e)=.d (.fn k a e):=by simp only[NQ]
@[simp]def mkfO_n1(a e:List V)(o:Option (List D)):NQ k a e none o=.fn k a e:=by cases o<;>simp only[NQ]
@[simp]def mkfO_n2(a e:List V)(o:Option (List D)):NQ k a e o none=.fn k a e:=by cases o<;>simp only[NQ]
@[simp]def wp_cvi:C.wp sl ob K (.IU kd x)=MF kd K (x.ev sl):=by simp only[C.wp]
@[simp]def cviK_i:MF kd K (.d (.int kd' m))=K (.d (.int kd (kd.wrap m))):=by simp only[MF]
@[simp]def wp_idx:C.wp sl ob K (.G5 x y)=MJ K (x.ev sl) (y.ev sl):=by simp only[C.wp]
@[simp]def idxK_s:MJ K (.d (.AV s)) (.d (.int kd m))=((0<=m/\m<s.length)/\K (.d (.int .u8 (s.getD m.toNat 0).toNat))):=by simp only[MJ]
@[simp]def wp_idxA:C.wp sl ob K (.C8 n x y)=Hl ob n K (x.ev sl) (y.ev sl):=by simp only[C.wp]
@[simp]def idxAK_l:Hl ob n K (.d (.AH n xs)) (.d (.int kd m))=((0<=m/\m<xs.length)/\K (.d (.CD (xs.getD m.toNat default)))):=by simp[Hl]
@[simp]def wp_idxP:C.wp sl ob K (.Ci k n x y)=KI ob k n K (x.ev sl) (y.ev sl):=by simp only[C.wp]
@[simp]def idxPK_p(p:List Nat):KI ob k n K (.ptr j p) (.d (.int kd m))=((0<=m/\m<k)/\(∃a,Vu (Dm ob j p)=some a/\a.length=k/\∀k∈a,k.size=n)/\K (.ptr j (p++[m.toNat]))):=by simp only[KI]
@[simp]def idxPK_c:KI ob k n K (.d (.CD (.agg xs))) (.d (.int kd m))=((0<=m/\m<k)/\xs.length=k/\(∀x∈xs,x.sz=n)/\K (.d (.CD (xs.getD m.toNat default)))):=by simp only[KI]
@[simp]def wp_fldA:C.wp sl ob K (.Bs k n x)=Qm ob k n K (x.ev sl):=by simp only[C.wp]
@[simp]def fldAK_p(p:List Nat):Qm ob k n K (.ptr j p)=Kt j p k n K (Vu (Dm ob j p)):=by simp only[Qm]
@[simp]def fldAKo_s(p:List Nat):Kt j p k n K (some vs)=(k<vs.length/\Sh.Br ((vs.take k).map V.shape)=n/\K (.ptr j (p++[k]))):=by simp only[Kt]
@[simp]def fldAK_c:Qm ob k n K (.d (.CD (.agg xs)))=(k<xs.length/\DZ (xs.take k)=n/\K (.d (.CD (xs.getD k default)))):=by simp only[Qm]
@[simp]def wp_fld:C.wp sl ob K (.IV k j n b x)=MH k j n b K (x.ev sl).Bk:=by simp only[C.wp]
@[simp]def wp_ld:C.wp sl ob K (.ld n b x)=E9 ob n b K (x.ev sl):=by simp only[C.wp]
@[simp]def ldK_p(p:List Nat):E9 ob n b K (.ptr j p)=Ge n b K (Dm ob j p):=by simp only[E9]
@[simp]def ldKo_s:Ge n b K (some v)=(v.size=n/\v.isAgg=b/\K v):=by simp only[Ge]
@[simp]def ldK_c:E9 ob n b K (.d (.CD d))=(d.sz=n/\(V.d d).isAgg=b/\K (.d d)):=by simp only[E9]
@[simp]def wp_nilc:C.wp sl ob K (.DT x)=IP K (x.ev sl):=by simp only[C.wp]
@[simp]def nilcK_p(p:List Nat):IP K (.ptr j p)=K (.ptr j p):=by simp only[IP]
@[simp]def nilcK_c:IP K (.d (.CD d))=K (.d (.CD d)):=by simp only[IP]
@[simp]def wp_lenS:C.wp sl ob K (.DO x)=Ly K (x.ev sl):=by simp only[C.wp]
@[simp]def lenSK_s:Ly K (.d (.AV s))=K (.d (.int .i64 s.length)):=by simp only[Ly]
@[simp]def wp_lenL:C.wp sl ob K (.CU x)=IK ob K (x.ev sl):=by simp only[C.wp]
@[simp]def lenLK_l:IK ob K (.d (.AH n xs))=K (.d (.int .i64 xs.length)):=by simp only[IK]
@[simp]def lenLK_n:IK ob K (.d .Ah)=K (.d (.int .i64 0)):=by simp only[IK]
@[simp]def lenLK_o:IK ob K (.sl j n)=(((∃E z xs,AD ob j=some (.BO E z xs)/\n=xs.length)\/∃E z xs,AD ob j=some (.A0 E z xs)/\n=xs.length)/\K (.d (.int .i64 n))):=by simp only[IK]
@[simp]def wp_slcS(e a:Option A):C.wp sl ob K (.DB x e a)=L4 (e.map (A.ev sl)) (a.map (A.ev sl)) K (x.ev sl):=by simp only[C.wp]
@[simp]def slcSK_s(e a:Option V):L4 e a K (.d (.AV s))=Ei s.length (λl h=>K (.d (.AV ((s.take h).drop l)))) e a:=by simp only[L4]
@[simp]def wp_slcL(e a:Option A):C.wp sl ob K (.DQ n x e a)=L3 n (e.map (A.ev sl)) (a.map (A.ev sl)) K (x.ev sl):=by simp only[C.wp]
@[simp]def slcLK_l(e a:Option V):L3 n e a K (.d (.AH n xs))=Ei xs.length (λl h=>K (.d (.AH n ((xs.take h).drop l)))) e a:=by simp[L3]
@[simp]def bndK_nn(a:Nat->Nat->Prop):Ei n a none none=a 0 n:=by simp only[Ei]
@[simp]def bndK_sn(a:Nat->Nat->Prop):Ei n a (some (.d (.int kd m))) none=((0<=m/\m<=n)/\a m.toNat n):=by simp only[Ei]
@[simp]def bndK_ns(a:Nat->Nat->Prop):Ei n a none (some (.d (.int kd m)))=((0<=m/\m<=n)/\a 0 m.toNat):=by simp only[Ei]
@[simp]def bndK_ss(a:Nat->Nat->Prop):Ei n a (some (.d (.int kd m))) (some (.d (.int kd' m')))=((0<=m'/\m'<=n)/\(0<=m/\m<=m')/\a m.toNat m'.toNat):=by simp only[Ei]
@[simp]def wp_ext:C.wp sl ob K (.ext x n)=MG n K (x.ev sl):=by simp only[C.wp]
@[simp]def extK_t:MG n K (.BU vs)=(n<vs.length/\K (vs.getD n .any)):=by simp only[MG]
@[simp]def wp_bld(a:List (Nat×A)):C.wp sl ob K (.Fs xs a)=Er (xs.map .d) (a.map λp=>(p.1,p.2.ev sl)) λe=>K (V.mk e):=by simp only[C.wp]
@[simp]def bldK_n(a:List V->Prop):Er vs [] a=a vs:=by simp only[Er]
@[simp]def bldK_c(a:List V->Prop)(l:List (Nat×V)):Er vs ((k,v)::l) a=(k<vs.length/\v.shape=(vs.getD k .any).shape/\v≠.any/\Er (vs.set k v) l a):=by simp only[Er]
@[simp]def wp_mkf(l a:List A):C.wp sl ob K (.El k l a)=K (Pt k (l.map (A.ev sl)) (a.map (A.ev sl))):=by simp only[C.wp]
@[simp]def wp_mki:C.wp sl ob K (.IY k x)=K (MM k (x.ev sl)):=by simp only[C.wp]
@[simp]def wp_tas:C.wp sl ob K (.Ie k d x)=NT k d K (x.ev sl):=by simp only[C.wp]
-- trees
@[simp]def kids_agg:V.Bk (.agg vs)=some vs:=by simp only[V.Bk]
@[simp]def kids_d:V.Bk (.d (.agg xs))=some (xs.map .d):=by simp only[V.Bk]
@[simp]def kidsO_s:Vu (some v)=v.Bk:=by simp only[Vu]
def cY(p:List Nat):Option Ob->Option V
|some (.box _ t)=>t.at p
|_=>none
@[simp]def atO_b(p:List Nat):Dm ob k p=cY p (AD ob k):=by
 unfold Dm cY;cases AD ob k with
 |none=>rfl
 |some o=>cases o<;>rfl
@[simp]def atB_s(p:List Nat)(E:Nat):cY p (some (.box E v))=v.at p:=by simp only[cY]
@[simp]def at_nil:V.at v []=some v:=by simp[V.at]
def OE(i:Nat)(p:List Nat):Option (List V)->Option V
|some ks=>atKid' p ks[i]?
|none=>none
where atKid' (p:List Nat):Option V->Option V
|some k=>V.at k p
|none=>none
@[simp]def at_cons(p:List Nat):V.at v (k::p)=OE k p v.Bk:=by
 simp only[V.at,OE];cases v.Bk with
 |none=>rfl
 |some a=>simp only[OE.atKid'];cases a[k]?<;>rfl
@[simp]def atKid_s(p:List Nat):OE k p (some vs)=OE.atKid' p vs[k]?:=by simp only[OE]
@[simp]def atKid'_s(p:List Nat):OE.atKid' p (some v)=V.at v p:=by simp only[OE.atKid']
@[simp]def set_nil:V.set v [] v'=some v':=by simp[V.set]
def J8(i:Nat)(p:List Nat)(x:V):Option (List V)->Option V
|some ks=>setKid1 i p x ks ks[i]?
|none=>none
where
 setKid1 (i:Nat) (p:List Nat) (x:V) (ks:List V):Option V->Option V
 |some k=>setKid2 i ks (V.set k p x)
 |none=>none
 setKid2 (i:Nat) (ks:List V):Option V->Option V
 |some k'=>some (V.mk (ks.set i k'))
 |none=>none
@[simp]def set_cons(p:List Nat):V.set v (k::p) v'=J8 k p v' v.Bk:=by
 simp only[V.set,J8];cases v.Bk with
 |none=>rfl
 |some a=>
  simp only[J8.setKid1];cases a[k]? with
  |none=>rfl
  |some y=>simp only[J8.setKid2];cases V.set y p v'<;>rfl
@[simp]def setKid_s(p:List Nat):J8 k p v (some vs)=J8.setKid1 k p v vs vs[k]?:=by simp only[J8]
@[simp]def setKid1_s(p:List Nat):J8.setKid1 k p v vs (some v')=J8.setKid2 k vs (V.set v' p v):=by simp only[J8.setKid1]
@[simp]def setKid2_s:J8.setKid2 k vs (some v)=some (V.mk (vs.set k v)):=by simp only[J8.setKid2]
@[simp]def allD_nil:Cb []=some []:=by simp[Cb]
def HM(x:D):Option (List D)->Option (List D)
|some l=>some (x::l)
|none=>none
@[simp]def allD_cons:Cb (.d d::vs)=HM d (Cb vs):=by simp only[Cb];cases Cb vs<;>rfl
@[simp]def consD_s:HM d (some xs)=some (d::xs):=by simp only[HM]
@[simp]def consD_n:HM d none=none:=by simp only[HM]
@[simp]theorem Cd:Cb (xs.map .d)=some xs:=by induction xs with|nil=>rfl|cons x r a=>simp[a]
@[simp]def allD_fn(a e:List V):Cb (.fn k a e::vs)=none:=by simp only[Cb]
@[simp]def allD_sl:Cb (.sl k n::vs)=none:=by simp only[Cb]
@[simp]def allD_agg(l:List V):Cb (.agg l::vs)=none:=by simp only[Cb]
@[simp]def allD_ptr(p:List Nat):Cb (.ptr k p::vs)=none:=by simp only[Cb]
def GV(vs:List V):Option (List D)->V
|some l=>.d (.agg l)
|none=>.agg vs
@[simp]def mk_eq:V.mk vs=GV vs (Cb vs):=by unfold V.mk GV;cases Cb vs<;>rfl
@[simp]def mkO_s:GV vs (some xs)=.d (.agg xs):=by simp only[GV]
@[simp]def mkO_n:GV vs none=.agg vs:=by simp only[GV]
-- Br,BN
attribute [simp] D.sz DZ Sh.size Sh.Br D.shape D.BN V.shape V.BN V.isAgg V.Hb IB V.size V.Bg Bu
-- operations on memory
@[simp]def qy(e:C):I.wp P sl ob KO Pn (.c e)=e.wp sl ob (λv=>KO v ob):=by simp only[I.wp]
@[simp]def qx:I.wp P sl ob KO Pn (.box k x)=JU k ob KO (x.ev sl):=by simp only[I.wp]
@[simp]def qr:I.wp P sl ob KO Pn (.alloc k d)=JU k ob KO (.d d):=by simp only[I.wp]
@[simp]def boxK_eq:JU k ob KO v=(v.Hb=true/\KO (.ptr (AA ob) []) ((AA ob,.box k v)::ob)):=by simp only[JU]
@[simp]def qw(a:List (Nat×A)):I.wp P sl ob KO Pn (.Gk n xs a)=Er (xs.map .d) (a.map λp=>(p.1,p.2.ev sl)) (λe=>dK (λl=>KO (.d (.AH n l)) ob) (Cb e)):=by simp only[I.wp]
@[simp]def dK_s(a:List D->Prop):dK a (some xs)=a xs:=by simp only[dK]
@[simp]def qv(a:List (Nat×A)):I.wp P sl ob KO Pn (.Hw j n xs a)=Er (xs.map .d) (a.map λp=>(p.1,p.2.ev sl)) (λe=>dK (λl=>KO (.sl (AA ob) l.length) ((AA ob,.BO j n l)::ob)) (Cb e)):=by simp only[I.wp]
@[simp]def zo:I.wp P sl ob KO Pn (.st n x y)=H5 ob n (y.ev sl) KO (x.ev sl):=by simp only[I.wp]
@[simp]def stK_p(p:List Nat):H5 ob n v KO (.ptr k p)=NO ob k p n v KO (AD ob k):=by simp only[H5]
@[simp]def stKo_s(p:List Nat)(t:V)(E:Nat):NO ob k p n v KO (some (.box E t))=NP ob k p n E v t KO (t.at p):=by simp only[NO]
def SR(ob:AE)(id E:Nat)(K:V->AE->Prop):Option V->Prop
|some a=>K .undef (AG ob id (.box E a))
|none=>False
@[simp]def stKt_s(p:List Nat)(t:V)(E:Nat):NP ob k p n E v t KO (some v')=(v.shape=v'.shape/\v'.size=n/\v.Hb=true/\SR ob k E KO (t.set p v)):=by
 simp only[NP];cases t.set p v<;>simp[SR]
@[simp]def stKs_s(E:Nat):SR ob k E KO (some v)=KO .undef (AG ob k (.box E v)):=by simp only[SR]
@[simp]def qt(E a B:Nat):I.wp P sl ob KO Pn (.Dl E a B x y)=I1 a (λe=>Gc E a B ob e KO (x.ev sl)) (y.ev sl):=by simp only[I.wp]
@[simp]def srcK_l(a:List D->Prop):I1 n a (.d (.AH n xs))=a xs:=by simp[I1]
@[simp]def srcK_n(a:List D->Prop):I1 n a (.d .Ah)=a []:=by simp only[I1]
@[simp]def appK_s(E a B:Nat):Gc E a B ob xs KO (.sl k n)=OD k E a B n ob xs KO (AD ob k):=by simp[Gc]
@[simp]def appK_n(E a B:Nat):Gc E a B ob xs KO (.d .Ah)=((2*xs.length+192)*B<=281474976710656/\KO (.sl (AA ob) xs.length) ((AA ob,.BO E a xs)::ob)):=by simp only[Gc]
@[simp]def appKo_s(E e B:Nat)(a:List D):OD k E e B n ob xs KO (some (.BO E e a))=(n=a.length/\(2*(a.length+xs.length)+192)*B<=281474976710656/\KO (.sl k (a.length+xs.length)) (AG ob k (.BO E e (a++xs)))):=by simp[OD]
@[simp]def iwp_appS(E B:Nat):I.wp P sl ob KO Pn (.Fq E B x y)=NI (λa=>Gc E 1 B ob a KO (x.ev sl)) (y.ev sl):=by simp only[I.wp]
@[simp]def srcSK_s(a:List D->Prop):NI a (.d (.AV s))=a (BK s):=by simp only[NI]
@[simp]def zi:I.wp P sl ob KO Pn (.MU x)=HW KO (EU ob (x.ev sl)):=by simp only[I.wp]
@[simp]def givK_s:HW KO (some (d,ob))=KO (.d d) ob:=by simp only[HW]
@[simp]def zf:I.wp P sl ob KO Pn (.KW n b x)=MK n b ob KO (x.ev sl):=by simp only[I.wp]
@[simp]def ldfK_p(p:List Nat):MK n b ob KO (.ptr k p)=M4 n b ob KO (Dm ob k p):=by simp only[MK]
@[simp]def ldfKo_s:M4 n b ob KO (some v)=(v.size=n/\v.isAgg=b/\HW KO (EU ob v)):=by simp only[M4]
@[simp]def zj(E a:Nat)(p:List Nat):I.wp P sl ob KO Pn (.KY E a y x p)=Hu ob E a p (y.ev sl) KO (x.ev sl):=by simp only[I.wp]
@[simp]def zl(l:List (Nat×Nat×List Nat)):I.wp P sl ob KO Pn (.KZ y x l)=JY (y.ev sl) KO (x.ev sl) l ob:=by simp only[I.wp]
@[simp]def mvnK_n(v x:V):JY v KO x [] ob=KO v ob:=by simp only[JY]
@[simp]def mvnK_c(v x:V)(e:Nat×Nat×List Nat)(l:List (Nat×Nat×List Nat)):JY v KO x (e::l) ob=Hu ob e.1 e.2.1 e.2.2 v (λ_ a=>JY v KO x l a) x:=by simp only[JY]
@[simp]def mvgK_p(E a:Nat)(p q:List Nat):Hu ob E a p v KO (.ptr k q)=ON ob k (q++p) E a v KO (AD ob k):=by simp only[Hu]
@[simp]def mvgKt_s(E a e:Nat)(p:List Nat)(t:V):ON ob k p E e v KO (some (.box a t))=((t.at p=some (.d .Ah)/\Pg ob k a E e v KO (t.set p (.sl (AA ob) 0)))\/((∃i n,t.at p=some (.sl i n))/\KO v ob)):=by simp only[ON]
@[simp]def mvgKs_s(E a e:Nat)(t:V):Pg ob k a E e v KO (some t)=KO v ((AA ob,.BO E e [])::AG ob k (.box a t)):=by simp only[Pg]
@[simp]def iwp_cvb:I.wp P sl ob KO Pn (.KS x)=ME ob KO (x.ev sl):=by simp only[I.wp]
@[simp]def cvbK_s:ME ob KO (.sl k n)=OG k n ob KO (AD ob k):=by simp only[ME]
@[simp]def cvbKo_s(E a:Nat):OG k n ob KO (some (.BO E a xs))=(a≠0/\n=xs.length/\xs≠[]/\KO (.d (.AH a xs)) (AG ob k .Ar)):=by simp only[OG]
@[simp]def wp_usd:C.wp sl ob K (.Ig x)=KD ob K (x.ev sl):=by simp only[C.wp]
@[simp]def usdK_s:KD ob K (.sl k n)=((∃E a xs,AD ob k=some (.BO E a xs)/\a≠0/\n=xs.length/\xs≠[])/\K (.sd k n)):=by simp only[KD]
@[simp]def usdK_n:KD ob K (.d .Ah)=K (.d .CV):=by simp only[KD]
@[simp]def iwp_ustr(E:Nat):I.wp P sl ob KO Pn (.Fy E x y)=KR E ob KO (x.ev sl) (y.ev sl):=by simp only[I.wp]
@[simp]def ustrK_s(E:Nat):KR E ob KO (.sd k n) (.d (.int .i64 m))=N8 k n m E ob KO (AD ob k):=by simp only[KR]
@[simp]def ustrK_n(E:Nat):KR E ob KO (.d .CV) (.d (.int .i64 m))=(m=0/\KO (.d (.AV [])) ob):=by simp only[KR]
@[simp]def ustrKo_s(E a e:Nat):N8 k n m E ob KO (some (.BO a e xs))=(a=E/\e=1/\n=xs.length/\m=n/\n<=9223372036854775807/\xs≠[]/\∃s,xs=BK s/\KO (.d (.AV s)) (AG ob k .Ar)):=by simp only[N8]
-- values given up
@[simp]def giv_d:EU ob (.d d)=some (d,ob):=by simp only[EU]
@[simp]def giv_sl:EU ob (.sl k n)=UD ob k n (AD ob k):=by simp only[EU]
@[simp]def givO_s(E a:Nat):UD ob k n (some (.BO E a xs))=if a≠0/\n=xs.length then some (.AH a xs,AG ob k .Ar) else none:=by simp only[UD]
@[simp]def giv_agg:EU ob (.agg vs)=Fm (EJ ob vs):=by simp only[EU]
@[simp]def giv_fn(a e:List V):EU ob (.fn k a e)=LL k ob (Cb a) (Cb e):=by simp only[EU]
@[simp]def fnG_s(a e:List D):LL k ob (some a) (some e)=some (.fn k a e,ob):=by simp only[LL]
@[simp]def fnG_m(o:Option (List D)):LL k ob o none=none:=by cases o<;>simp only[LL]
@[simp]def givs_nil:EJ ob []=some ([],ob):=by simp only[EJ]
def rQ(r:List V):Option (D×AE)->Option (List D×AE)
|some (x,a)=>Jb x (EJ a r)
|none=>none
@[simp]def givs_cons:EJ ob (v::vs)=rQ vs (EU ob v):=by
 simp only[EJ];cases EU ob v with
 |none=>rfl
 |some q=>obtain⟨y,a⟩:=q;rfl
@[simp]def bindO_s:rQ vs (some (d,ob))=Jb d (EJ ob vs):=by simp only[rQ]
@[simp]def consO_s(l:List D):Jb d (some (l,ob))=some (d::l,ob):=by simp only[Jb]
@[simp]def aggO_s(l:List D):Fm (some (l,ob))=some (.agg l,ob):=by simp only[Fm]
@[simp]def givsK_s(a:List D->AE->Prop)(l:List D):Qn a (some (l,ob))=a l ob:=by simp only[Qn]
@[simp]def gvsK_nil(a:List V->AE->Prop):HO [] ob a=a [] ob:=by simp only[HO]
@[simp]def gvsK_cons(f:List V->AE->Prop):HO (v::vs) ob f=MS v ob (λv' e=>HO vs e λvs a=>f (v'::vs) a) (EU ob v):=by simp only[HO]
@[simp]def gvO_s:MS v ob KO (some (d,ro))=KO (.d d) ro:=by simp only[MS]
@[simp]def gvO_n:MS v ob KO none=KO v ob:=by simp only[MS]
-- names
@[simp]def fresh_nil:AA []=0:=by simp only[AA]
@[simp]theorem Qx(o:Ob):AA ((k,o)::ro)=if AA ro<=k then k+1 else AA ro:=by simp only[AA]
@[simp]theorem XT(o:Ob):AA (AG ob k o)=AA ob:=by
 induction ob with
 |nil=>simp[AG]
 |cons e r a=>obtain⟨i,y⟩:=e;simp only[AG];split<;>simp[AA,a]
@[simp]def fresh_ne(h:(AD ob k).isSome=true):(AA ob==k)=false:=by
 rw[QX];intro e;rw[<-e,X1]at h;cases h
@[simp]def fresh_add_ne(h:(AD ob k).isSome=true):(AA ob+n==k)=false:=by
 rw[QX];intro e;rw[<-e,Ys ob _ (by omega)]at h;cases h
@[simp]def fresh_ne'(h:(AD ob k).isSome=true):(k==AA ob)=false:=by
 rw[QX];intro e;rw[e,X1]at h;cases h
@[simp]def lookO_fresh:AD ob (AA ob)=none:=X1 ob
@[simp]def lookO_set_eq(o:Ob)(h:(AD ob k).isSome=true):AD (AG ob k o) k=some o:=by
 rw[Xe ob k k (Le.1 h)];simp
@[simp]def lookO_set_ne(o:Ob)(h:(j==k)=false):AD (AG ob j o) k=AD ob k:=by
 by_cases f:(AD ob j).isSome=true
 ·rw[Xe ob j k (Le.1 f)];simp at h;rw[A5 (λe=>h e.symm)]
 ·have g:AD ob j=none:=by simpa using f
  have:∀(ob:AE),AD ob j=none->AG ob j o=ob:=λob=>by
   induction ob with
   |nil=>intro _;rfl
   |cons e r l=>obtain⟨i,y⟩:=e;intro h;simp only[AD]at h;split at h;cases h;rename_i a;simp[AG,a,l h]
  rw[this ob g]
@[simp]def ZL(o a:Ob):AG (AG ob k o) k a=AG ob k a:=by
 induction ob with
 |nil=>rfl
 |cons e r f=>
  obtain⟨i,y⟩:=e;by_cases h:i=k
  ·subst h;simp[AG]
  ·simp[AG,h,f]
-- AF objects dropped
@[simp]def Ynn(l:List Nat)(h:k<n):AF n l k=false:=by simp[AF];omega
@[simp]def young_old(l:List Nat)(h:(AD ob k).isSome=true):AF (AA ob) l k=false:=by
 have:k<AA ob:=by
  rcases QV k (AA ob) with a|a
  ·exact a
  ·rw[Ys ob k a]at h;cases h
 simp[AF];omega
@[simp]def young_self:AF n [] n=true:=by simp[AF]
@[simp]def young_add:AF n [] (n+k)=true:=by simp[AF]
@[simp]def X5h(l:List Nat):Xo (AF (AA ob) l) ob=ob:=by
 have:∀(n:Nat)(ob:AE),AA ob<=n->Xo (AF n l) ob=ob:=λn ob=>by
  induction ob with
  |nil=>intro _;rfl
  |cons e r f=>
   obtain⟨i,y⟩:=e;intro h;simp only[AA]at h;have a:i<n/\AA r<=n:=by split at h<;>omega
   simp only[Xo,Ynn i n l a.1,BY,CR,f a.2]
 exact this _ ob (B9 _)
@[simp]def Xkg(l:List Nat)(o:Ob):Xo (AF (AA ob) l) (AG ob k o)=AG ob k o:=by
 rw[<-XT ob k o];exact X5h _ _
@[simp]def zZ(l:List Nat)(o a:Ob):Xo (AF (AA ob) l) (AG (AG ob k o) j a)=AG (AG ob k o) j a:=by
 rw[<-XT ob k o];exact Xkg _ _ _ _
theorem Ao(a:Nat->Bool)(E:Nat)(h:AN a ob=true)(f:V.Bg a v=false):AN a (AG ob k (.box E v))=true:=by
 induction ob with
 |nil=>rfl
 |cons e r g=>
  obtain⟨i,y⟩:=e;simp only[AG];split
  ·cases y<;>simp_all[AN]
  ·cases y<;>simp_all[AN]
theorem BR(a:Nat->Bool)(E z:Nat)(h:AN a ob=true):AN a (AG ob k (.BO E z xs))=true:=by
 induction ob with
 |nil=>rfl
 |cons e r f=>
  obtain⟨i,y⟩:=e;simp only[AG];split
  ·cases y<;>simp_all[AN]
  ·cases y<;>simp_all[AN]
@[simp]def qz(l:List A):I.wp P sl ob KO Pn (.call k l)=Aa P k (l.map (A.ev sl)) ob (F7 KO Pn):=by simp only[I.wp]
@[simp]def zb(l:List A):I.wp P sl ob KO Pn (.C6 x l)=Up P (l.map (A.ev sl)) ob KO Pn (x.ev sl):=by simp only[I.wp]
@[simp]def callvK_f(a e:List V):Up P vs ob KO Pn (.fn k a e)=(Xd P.p k=true/\Aa P k (a++vs++e) ob (F7 KO Pn)):=by simp only[Up]
@[simp]def callvK_df(a e:List D):Up P vs ob KO Pn (.d (.fn k a e))=(Xd P.p k=true/\Aa P k (a.map .d++vs++e.map .d) ob (F7 KO Pn)):=by simp only[Up]
@[simp]def zq:F7 KO Pn (.ret v) ob=KO v ob:=by simp only[F7]
@[simp]def zp:F7 KO Pn (.panic v) ob=Pn v ob:=by simp only[F7]
@[simp]def iwp_panic:I.wp P sl ob KO Pn (.panic x)=Ko ob Pn (x.ev sl):=by simp only[I.wp]
@[simp]def panicK_i:Ko ob Pn (.iface k v)=Pn (.iface k v) ob:=by simp only[Ko]
@[simp]def panicK_d:Ko ob Pn (.d (.iface k d))=Pn (.d (.iface k d)) ob:=by simp only[Ko]
@[simp]def iwp_s2b:I.wp P sl ob KO Pn (.JJ x)=NM (λv=>KO v ob) (x.ev sl):=by simp only[I.wp]
@[simp]def s2bK_s:NM K (.d (.AV s))=K (.d (.AH 1 (BK s))):=by simp only[NM]
@[simp]def zm(E a:Nat):I.wp P sl ob KO Pn (.Fv E a x)=NC E a ob KO (x.ev sl):=by simp only[I.wp]
@[simp]def niloK_n(E a:Nat):NC E a ob KO (.d .Ah)=KO (.sl (AA ob) 0) ((AA ob,.BO E a [])::ob):=by simp only[NC]
-- regions and statements
@[simp]def gdK_tt(Y N:Xf->Prop):GC k true sl Y N (.d (.bool true))=Y ((k,.d (.bool true))::sl):=by simp[GC]
@[simp]def gdK_ff(Y N:Xf->Prop):GC k false sl Y N (.d (.bool false))=Y ((k,.d (.bool false))::sl):=by simp[GC]
@[simp]def gdK_tf(Y N:Xf->Prop):GC k true sl Y N (.d (.bool false))=N ((k,.d (.bool false))::sl):=by simp[GC]
@[simp]def gdK_ft(Y N:Xf->Prop):GC k false sl Y N (.d (.bool true))=N ((k,.d (.bool true))::sl):=by simp[GC]
@[simp]def gdK_u(Y N:Xf->Prop):GC k c sl Y N .undef=N sl:=by simp only[GC]
@[simp]def keepS_nil:X0 sl []=[]:=by simp only[X0]
@[simp]def keepS_cons(l:List Nat):X0 sl (k::l)=(k,BG sl k)::X0 sl l:=by simp only[X0]
@[simp]def zn(l:List A):I.wp P sl ob KO Pn (.Bd k l)=AW P k (l.map (A.ev sl)) ob (λv=>KO v ob):=by simp only[I.wp]
@[simp]def condK_t(Y N:Prop):II Y N (.d (.bool true))=Y:=by simp[II]
@[simp]def condK_f(Y N:Prop):II Y N (.d (.bool false))=N:=by simp[II]
@[simp low] theorem condK_b (Y N:Prop):II Y N (.d (.bool b))=((b=true->Y)/\(b=false->N)):=by simp only[II]
@[simp]def wo:V2 next Q .normal sl ob=next sl ob:=by simp only[V2]
@[simp]def wj:V2 next Q (.exit n) sl ob=Q (.exit n) sl ob:=by simp only[V2]
@[simp]def wq:V2 next Q .ret sl ob=Q .ret sl ob:=by simp only[V2]
@[simp]theorem wp:V2 next Q (.panic v) sl ob=Q (.panic v) sl ob:=by simp only[V2]
@[simp]def qb:Zu n Q .normal sl ob=Q .normal sl ob:=by simp only[Zu]
@[simp]def qa:Zu n Q (.exit n) sl ob=Q .normal sl ob:=by simp[Zu]
@[simp]def blockK_ne(h:(j==n)=false):Zu n Q (.exit j) sl ob=Q (.exit j) sl ob:=by simp at h;simp[Zu,h]
@[simp]def qd:Zu n Q .ret sl ob=Q .ret sl ob:=by simp only[Zu]
@[simp]def qc:Zu n Q (.panic v) sl ob=Q (.panic v) sl ob:=by simp only[Zu]
attribute [simp] Vo AN Xo
-- results
@[simp]def pureQ_r(a:List RV):Hp a K .ret sl ob=Q8 sl ob a λvs=>Qn (λl _=>K (J7 (l.map .d))) (EJ ob vs):=by simp only[Hp]
@[simp]def pureQ_p(a:List RV):Hp a K (.panic v) sl ob=False:=by simp only[Hp]
@[simp]def qe(e:List RV)(a:BQ->AE->Prop):IH n e a .normal sl ob=Q8 sl ob e λvs=>HO vs ob λvs ob=>Yh n (a (.ret (J7 vs))) vs ob:=by simp only[IH]
@[simp]def qg(e:List RV)(a:BQ->AE->Prop):IH n e a .ret sl ob=Q8 sl ob e λvs=>HO vs ob λvs ob=>Yh n (a (.ret (J7 vs))) vs ob:=by simp only[IH]
@[simp]def qf(e:List RV)(a:BQ->AE->Prop):IH n e a (.panic v) sl ob=Yh n (a (.panic v)) [v] ob:=by simp only[IH]
@[simp]def resK_nil(a:List V->Prop):Q8 sl ob [] a=a []:=by simp only[Q8]
@[simp]def resK_t(a:List V->Prop)(e:List RV):Q8 sl ob (.t k::e) a=Q8 sl ob e λvs=>a (BG sl k::vs):=by simp only[Q8,RV.wp]
@[simp]def resK_c(a:List V->Prop)(e:List RV):Q8 sl ob (.c k n b::e) a=E9 ob n b (λv=>Q8 sl ob e λvs=>a (v::vs)) (BG sl k):=by simp only[Q8,RV.wp]
@[simp]def retV_1:J7 [v]=v:=by simp only[J7]
@[simp]def retV_0:J7 []=.BU []:=by simp only[J7]
@[simp]def retV_2:J7 (v::v'::vs)=.BU (v::v'::vs):=by simp only[J7]
@[simp]def argS_nil:Eh k []=[]:=by simp only[Eh]
@[simp]def argS_cons:Eh k (v::vs)=(k,v)::Eh (k+1) vs:=by simp only[Eh]
end
@[congr]def I_wp_congr{P:BE}{d:Xf}{c:AE}{a:V->AE->Prop}{b:V->AE->Prop}{i:I}:I.wp P d c a b i=I.wp P d c a b i:=rfl
@[congr]def C_wp_congr{b:Xf}{a:AE}{K:V->Prop}{e:C}:C.wp b a K e=C.wp b a K e:=rfl
@[congr]def rwp_congr{P:BE}{a:Xf->AE->Prop}{PS:V->Xf->AE->Prop}{l:List It}{c:Xf}{b:AE}:Ey P a PS l c b=Ey P a PS l c b:=rfl
@[congr]def gdK_congr{k:Nat}{b:Bool}{a:Xf}{Y N:Xf->Prop}{v c:V}(d:v=c):GC k b a Y N v=GC k b a Y N c:=by rw[d]
@[congr]def condK_congr{Y N:Prop}{v a:V}(b:v=a):II Y N v=II Y N a:=by rw[b]
@[congr]def pickK_congr{K:V->Prop}{u a:V}{v b:V}{w c:V}(d:u=a)(e:v=b)(f:w=c):KL K u v w=KL K a b c:=by rw[d,e,f]
@[congr]def notK_congr{K:V->Prop}{v a:V}(b:v=a):MP K v=MP K a:=by rw[b]
@[congr]def cplK_congr{K:V->Prop}{v a:V}(b:v=a):MD K v=MD K a:=by rw[b]
@[congr]def negK_congr{K:V->Prop}{v a:V}(b:v=a):MN K v=MN K a:=by rw[b]
@[congr]def nilcK_congr{K:V->Prop}{v a:V}(b:v=a):IP K v=IP K a:=by rw[b]
@[congr]def lenSK_congr{K:V->Prop}{v a:V}(b:v=a):Ly K v=Ly K a:=by rw[b]
@[congr]def s2bK_congr{K:V->Prop}{v a:V}(b:v=a):NM K v=NM K a:=by rw[b]
@[congr]def binK_congr{a:BinOp}{K:V->Prop}{u b:V}{v c:V}(d:u=b)(e:v=c):JS a K u v=JS a K b c:=by rw[d,e]
@[congr]def intK_congr{e:BinOp}{k j:IntKind}{K:V->Prop}{a c:Int}{b d:Int}(f:a=c)(g:b=d):Ix e k j a b K=Ix e k j c d K:=by rw[f,g]
@[congr]def strK_congr{e:BinOp}{K:V->Prop}{a c:List UInt8}{b d:List UInt8}(f:a=c)(g:b=d):KA e a b K=KA e c d K:=by rw[f,g]
@[congr]def isnilK_congr{e:Bool}{K:V->Prop}{v a:V}(b:v=a):J3 e K v=J3 e K a:=by rw[b]
@[congr]def cviK_congr{k:IntKind}{K:V->Prop}{v a:V}(b:v=a):MF k K v=MF k K a:=by rw[b]
@[congr]def idxK_congr{K:V->Prop}{u a:V}{v b:V}(c:u=a)(d:v=b):MJ K u v=MJ K a b:=by rw[c,d]
@[congr]def idxAK_congr{a:AE}{n:Nat}{K:V->Prop}{u b:V}{v c:V}(d:u=b)(e:v=c):Hl a n K u v=Hl a n K b c:=by rw[d,e]
@[congr]def idxPK_congr{a:AE}{k n:Nat}{K:V->Prop}{u b:V}{v c:V}(d:u=b)(e:v=c):KI a k n K u v=KI a k n K b c:=by rw[d,e]
@[congr]def fldAK_congr{a:AE}{k n:Nat}{K:V->Prop}{v b:V}(c:v=b):Qm a k n K v=Qm a k n K b:=by rw[c]
@[congr]def fldAKo_congr{j:Nat}{p:List Nat}{k n:Nat}{K:V->Prop}{v a:Option (List V)}(b:v=a):Kt j p k n K v=Kt j p k n K a:=by rw[b]
@[congr]def fldK_congr{k j n:Nat}{b:Bool}{K:V->Prop}{v a:Option (List V)}(c:v=a):MH k j n b K v=MH k j n b K a:=by rw[c]
@[congr]def ldK_congr{a:AE}{n:Nat}{b:Bool}{K:V->Prop}{v c:V}(d:v=c):E9 a n b K v=E9 a n b K c:=by rw[d]
@[congr]def ldKo_congr{n:Nat}{b:Bool}{K:V->Prop}{v a:Option V}(c:v=a):Ge n b K v=Ge n b K a:=by rw[c]
@[congr]def lenLK_congr{a:AE}{K:V->Prop}{v b:V}(c:v=b):IK a K v=IK a K b:=by rw[c]
@[congr]def bndK_congr{n:Nat}{a:Nat->Nat->Prop}{u b:Option V}{v c:Option V}(d:u=b)(e:v=c):Ei n a u v=Ei n a b c:=by rw[d,e]
@[congr]def slcSK_congr{K:V->Prop}{l b:Option V}{h a:Option V}{v c:V}(d:l=b)(e:h=a)(f:v=c):L4 l h K v=L4 b a K c:=by rw[d,e,f]
@[congr]def slcLK_congr{n:Nat}{K:V->Prop}{l b:Option V}{h a:Option V}{v c:V}(d:l=b)(e:h=a)(f:v=c):L3 n l h K v=L3 n b a K c:=by rw[d,e,f]
@[congr]def extK_congr{n:Nat}{K:V->Prop}{v a:V}(b:v=a):MG n K v=MG n K a:=by rw[b]
@[congr]def bldK_congr{a:List V->Prop}{u c:List V}{l b:List (Nat×V)}(d:u=c)(e:l=b):Er u l a=Er c b a:=by rw[d,e]
@[congr]def tasK_congr{k:Nat}{d:D}{K:V->Prop}{v a:V}(b:v=a):NT k d K v=NT k d K a:=by rw[b]
@[congr]def boxK_congr{k:Nat}{b:AE}{a:V->AE->Prop}{v c:V}(d:v=c):JU k b a v=JU k b a c:=by rw[d]
@[congr]def stK_congr{b:AE}{n:Nat}{a:V->AE->Prop}{u c:V}{v d:V}(e:u=c)(f:v=d):H5 b n u a v=H5 b n c a d:=by rw[e,f]
@[congr]def stKo_congr{b:AE}{k:Nat}{p:List Nat}{n:Nat}{u:V}{a:V->AE->Prop}{v c:Option Ob}(d:v=c):NO b k p n u a v=NO b k p n u a c:=by rw[d]
@[congr]def stKt_congr{b:AE}{k:Nat}{p:List Nat}{n E:Nat}{u t:V}{a:V->AE->Prop}{v c:Option V}(d:v=c):NP b k p n E u t a v=NP b k p n E u t a c:=by rw[d]
@[congr]def stKs_congr{b:AE}{k E:Nat}{a:V->AE->Prop}{v c:Option V}(d:v=c):SR b k E a v=SR b k E a c:=by rw[d]
@[congr]def dK_congr{a:List D->Prop}{v b:Option (List D)}(c:v=b):dK a v=dK a b:=by rw[c]
@[congr]def callvK_congr{P:BE}{c:AE}{a:V->AE->Prop}{b:V->AE->Prop}{u d:List V}{v e:V}(f:u=d)(g:v=e):Up P u c a b v=Up P d c a b e:=by rw[f,g]
@[congr]def panicK_congr{b:AE}{a:V->AE->Prop}{v c:V}(d:v=c):Ko b a v=Ko b a c:=by rw[d]
@[congr]def srcK_congr{n:Nat}{a:List D->Prop}{v b:V}(c:v=b):I1 n a v=I1 n a b:=by rw[c]
@[congr]def appK_congr{E c B:Nat}{b:AE}{e:List D}{a:V->AE->Prop}{v d:V}(f:v=d):Gc E c B b e a v=Gc E c B b e a d:=by rw[f]
@[congr]def appKo_congr{k E c B n:Nat}{b:AE}{e:List D}{a:V->AE->Prop}{v d:Option Ob}(f:v=d):OD k E c B n b e a v=OD k E c B n b e a d:=by rw[f]
@[congr]def niloK_congr{E c:Nat}{b:AE}{a:V->AE->Prop}{v d:V}(e:v=d):NC E c b a v=NC E c b a d:=by rw[e]
@[congr]def srcSK_congr{a:List D->Prop}{v b:V}(c:v=b):NI a v=NI a b:=by rw[c]
@[congr]def fnilK_congr{e:Bool}{K:V->Prop}{v a:V}(b:v=a):KH e K v=KH e K a:=by rw[b]
@[congr]def givK_congr{a:V->AE->Prop}{v b:Option (D×AE)}(c:v=b):HW a v=HW a b:=by rw[c]
@[congr]def givsK_congr{a:List D->AE->Prop}{v b:Option (List D×AE)}(c:v=b):Qn a v=Qn a b:=by rw[c]
@[congr]def gvO_congr{u:V}{b:AE}{a:V->AE->Prop}{v c:Option (D×AE)}(d:v=c):MS u b a v=MS u b a c:=by rw[d]
@[congr]def gvsK_congr{b:List V->AE->Prop}{u d:List V}{c a:AE}(e:u=d)(f:c=a):HO u c b=HO d a b:=by rw[e,f]
@[congr]def leaveK_congr{n:Nat}{K:AE->Prop}{u c:List V}{b a:AE}(d:u=c)(e:b=a):Yh n K u b=Yh n K c a:=by rw[d,e]
@[congr]def ldfK_congr{n:Nat}{b:Bool}{c:AE}{a:V->AE->Prop}{v d:V}(e:v=d):MK n b c a v=MK n b c a d:=by rw[e]
@[congr]def ldfKo_congr{n:Nat}{b:Bool}{c:AE}{a:V->AE->Prop}{v d:Option V}(e:v=d):M4 n b c a v=M4 n b c a d:=by rw[e]
@[congr]def mvgK_congr{b:AE}{E c:Nat}{p:List Nat}{a:V->AE->Prop}{u d v e:V}(g:u=d)(f:v=e):Hu b E c p u a v=Hu b E c p d a e:=by rw[f,g]
@[congr]def mvgKt_congr{b:AE}{k E d:Nat}{p c:List Nat}{a:V->AE->Prop}{u:V}{v e:Option Ob}(g:p=c)(f:v=e):ON b k p E d u a v=ON b k c E d u a e:=by rw[f,g]
@[congr]def mvgKs_congr{c:AE}{k a E d:Nat}{b:V->AE->Prop}{u:V}{v e:Option V}(f:v=e):Pg c k a E d u b v=Pg c k a E d u b e:=by rw[f]
@[congr]def cvbK_congr{b:AE}{a:V->AE->Prop}{v c:V}(d:v=c):ME b a v=ME b a c:=by rw[d]
@[congr]def cvbKo_congr{k n:Nat}{b:AE}{a:V->AE->Prop}{v c:Option Ob}(d:v=c):OG k n b a v=OG k n b a c:=by rw[d]
@[congr]def usdK_congr{a:AE}{K:V->Prop}{v b:V}(c:v=b):KD a K v=KD a K b:=by rw[c]
@[congr]def ustrK_congr{E:Nat}{b:AE}{a:V->AE->Prop}{u c v d:V}(f:u=c)(e:v=d):KR E b a u v=KR E b a c d:=by rw[e,f]
@[congr]def ustrKo_congr{k n:Nat}{m:Int}{E:Nat}{b:AE}{a:V->AE->Prop}{v c:Option Ob}(d:v=c):N8 k n m E b a v=N8 k n m E b a c:=by rw[d]
@[congr]def resK_congr{d:Xf}{b:AE}{c:List RV}{a:List V->Prop}:Q8 d b c a=Q8 d b c a:=rfl
@[congr]def ACall_congr{P:BE}{f:Nat}{d b:List V}{c a:AE}{K:BQ->AE->Prop}(h:d=b)(e:c=a):Aa P f d c K=Aa P f b a K:=by rw[h,e]
@[congr]def PCall_congr{P:BE}{f:Nat}{d b:List V}{c a:AE}{K:V->Prop}(h:d=b)(e:c=a):AW P f d c K=AW P f b a K:=by rw[h,e]
@[congr]def ALoop_congr{b:List Nat}{a:Z5->Xf->AE->Prop}{Q:Z5}{f d:Xf}{e c:AE}(h:f=d)(g:e=c):Aw b a Q f e=Aw b a Q d c:=by rw[h,g]
def Aw.of{a:List Nat}{b:Z5->Xf->AE->Prop}{Q:Z5}{k:Xf}{h:AE}{c:Type}(S:c->Xf)(O:c->AE)(I:c->Prop)(g:c->Nat)(d:c)(l:I d)(n:X0 k a=S d)(m:h=O d)
 (step:∀i,I i->b (V2 (sub a (AA (O i)) λf e=>∃j,I j/\g j<g i/\f=S j/\e=O j) Q) (S i) (O i)):Aw a b Q k h:=
 ⟨⟨c,S,O,I,g,d,l,n,m▸Wk.refl _,step⟩⟩
def Aw.pre{f:List Nat}{e:Z5->Xf->AE->Prop}{Q:Z5}{j:Xf}{i g:AE}(k:Wk i g)(h:Aw f e Q j g):Aw f e Q j i:=by
 obtain⟨m,S,O,I,n,l,a,b,c,d⟩:=h.run;exact⟨⟨m,S,O,I,n,l,a,b,k.trans c,d⟩⟩
def Aw.go{c:List Nat}{d:Z5->Xf->AE->Prop}{Q:Z5}{l:Xf}{k:AE}{ι:Type}(S:ι->Xf)(O:ι->AE)(I:ι->Prop)(g:ι->Nat)(e:ι)(m:I e)(q:X0 l c=S e)(p:k=O e)
 (step:∀i,I i->∀R:Z5,(∀f j b a,I j->g j<g i->X0 b c=S j->Xo (AF (AA (O i)) f) a=O j->Vo (AF (AA (O i)) f) (S j)=true->AN (AF (AA (O i)) f) (O j)=true->R .normal b a)->
  (∀n b a,Q (.exit n) b a->R (.exit n) b a)->(∀b a,Q .ret b a->R .ret b a)->(∀v b a,Q (.panic v) b a->R (.panic v) b a)->d R (S i) (O i)):Aw c d Q l k:=by
 refine Aw.of S O I g e m q p λi o=>step i o _ (λf j b a r s t u w x=>?_) (λ_ _ _ h=>h) (λ_ _ h=>h) (λ_ _ _ h=>h);grind[V2,sub,Wk.refl]
def vJ{c:List Nat}{d:Z5->Xf->AE->Prop}{Q:Z5}{m:Xf}{l:AE}{ι:Type}(S:ι->Xf)(O:ι->AE)(I:ι->Prop)(k:ι->Nat)(f:ι)(o:I f)(r:X0 m c=S f)(q:l=O f)
 (step:∀i,I i->∀R:Z5,(∀g j b a e,Wk a e->I j->k j<k i->X0 b c=S j->Xo (AF (AA (O i)) g) e=O j->Vo (AF (AA (O i)) g) (S j)=true->AN (AF (AA (O i)) g) (O j)=true->R .normal b a)->
  (∀n b a,Q (.exit n) b a->R (.exit n) b a)->(∀b a,Q .ret b a->R .ret b a)->(∀v b a,Q (.panic v) b a->R (.panic v) b a)->d R (S i) (O i)):Aw c d Q m l:=by
 refine Aw.of S O I k f o r q λi p=>step i p _ (λg j b a e z s t u w x y=>?_) (λ_ _ _ h=>h) (λ_ _ h=>h) (λ_ _ _ h=>h);grind[V2,sub]
@[congr]def cwp_congr{P:BE}{s:S}{Q:Z5}{d b:Xf}{c a:AE}(h:d=b)(e:c=a):EX P s Q d c=EX P s Q b a:=by rw[h,e]
def K1:V->V->V->V
|.d (.bool t),.d (.bool x),.d (.bool y)=>.d (.bool (if t then x else y))
|.d (.bool t),x,y=>if t then x else y
|_,_,_=>.any
def SL:V->V
|.d (.bool b)=>.d (.bool (!b))
|_=>.any
def UH:V->V
|.d (.int k n)=>.d (.int k (k.wrap (0-n)))
|_=>.any
def UA:V->V
|.d (.int k n)=>.d (.int k (Zk .xor k (if k.signed then -1 else k.max) n))
|_=>.any
def D7(c:BinOp)(k:IntKind)(a b:Int):V:=
 match c with
 |.add=>.d (.int k (k.wrap (a+b)))
 |.sub=>.d (.int k (k.wrap (a-b)))
 |.mul=>.d (.int k (k.wrap (a*b)))
 |.quo=>.d (.int k (k.wrap (a.tdiv b)))
 |.rem=>.d (.int k (a.tmod b))
 |.and|.or|.xor|.andNot=>.d (.int k (Zk c k a b))
 |.shl=>.d (.int k (k.wrap (a*2 ^ (min b.toNat k.bits))))
 |.shr=>.d (.int k (a.fdiv (2 ^ (min b.toNat k.bits))))
 |.eql=>.d (.bool (a==b))
 |.neq=>.d (.bool (a != b))
 |.lss=>.d (.bool (decide (a<b)))
 |.leq=>.d (.bool (decide (a<=b)))
 |.gtr=>.d (.bool (decide (b<a)))
 |.geq=>.d (.bool (decide (b<=a)))
def SS(a:BinOp)(x y:List UInt8):V:=
 match a with
 |.add=>.d (.AV (x++y))
 |.eql=>.d (.bool (x==y))
 |.neq=>.d (.bool (x != y))
 |.lss=>.d (.bool (Op.bytesLess x y))
 |.leq=>.d (.bool (Op.bytesLess x y||x==y))
 |.gtr=>.d (.bool (!(Op.bytesLess x y||x==y)))
 |.geq=>.d (.bool (!Op.bytesLess x y))
 |_=>.any
def Pj(c:BinOp):V->V->V
|.d (.int k a),.d (.int _ b)=>D7 c k a b
|.d (.AV x),.d (.AV y)=>SS c x y
|_,_=>.any
def PQ(e:Bool):V->V
|.d .CO=>.d (.bool e)
|.iface _ _=>.d (.bool (!e))
|.d (.iface _ _)=>.d (.bool (!e))
|_=>.any
def Pa(e:Bool):V->V
|.d .B3=>.d (.bool e)
|.d (.fn _ _ _)=>.d (.bool (!e))
|.fn _ _ _=>.d (.bool (!e))
|_=>.any
def Pz:V->V
|.sl id n=>.sd id n
|.d .Ah=>.d .CV
|_=>.any
def UB(k:IntKind):V->V
|.d (.int _ n)=>.d (.int k (k.wrap n))
|_=>.any
def UF:V->V->V
|.d (.AV s),.d (.int _ n)=>.d (.int .u8 (s.getD n.toNat 0).toNat)
|_,_=>.any
def Lt(z:Nat):V->V->V
|.d (.AH _ b),.d (.int _ n)=>.d (.CD (b.getD n.toNat default))
|.sl id n,.d (.int _ m)=>.ep id n z m.toNat 0 []
|.bs id p a _,.d (.int _ m)=>.ptr id (p++[a+m.toNat])
|_,_=>.any
def M1:V->V->V
|.ptr id p,.d (.int _ n)=>.ptr id (p++[n.toNat])
|.d (.CD (.agg a)),.d (.int _ n)=>.d (.CD (a.getD n.toNat default))
|_,_=>.any
def Us(f a:Nat):V->V
|.ptr id p=>.ptr id (p++[f])
|.ep id n z i g p=>.ep id n z i (g+a) (p++[f])
|.d (.CD (.agg b))=>.d (.CD (b.getD f default))
|_=>.any
def Sb(f:Nat):Option (List V)->V
|some a=>a.getD f .any
|none=>.any
def OX:Option V->V
|some v=>v
|none=>.any
def G8(a:AE):V->V
|.ptr id p=>OX (Dm a id p)
|.d (.CD x)=>.d x
|.ep id m z i f p=>OX (JD a id m z i f p)
|_=>.any
def UR:V->V
|.d (.AV s)=>.d (.int .i64 s.length)
|_=>.any
def Lv:V->V
|.d (.AH _ a)=>.d (.int .i64 a.length)
|.d .Ah=>.d (.int .i64 0)
|.sl _ n=>.d (.int .i64 n)
|.bs _ _ _ n=>.d (.int .i64 n)
|_=>.any
def SX(a:Nat)(K:Nat->Nat->V):Option V->Option V->V
|none,none=>K 0 a
|some (.d (.int _ l)),none=>K l.toNat a
|none,some (.d (.int _ h))=>K 0 h.toNat
|some (.d (.int _ l)),some (.d (.int _ h))=>K l.toNat h.toNat
|_,_=>.any
def K2(b a:Option V):V->V
|.d (.AV s)=>SX s.length (λl h=>.d (.AV ((s.take h).drop l))) b a
|_=>.any
def UX(c b:Option V):V->V
|.d (.AH e a)=>SX a.length (λl h=>.d (.AH e ((a.take h).drop l))) c b
|_=>.any
def T8(i:Nat):V->V
|.BU a=>a.getD i .any
|_=>.any
def Oe(t:Nat)(z:D):V->V
|.iface a v=>if a=t then .BU [v,.d (.bool true)] else .BU [.d z,.d (.bool false)]
|.d (.iface a x)=>if a=t then .BU [.d x,.d (.bool true)] else .BU [.d z,.d (.bool false)]
|.d .CO=>.BU [.d z,.d (.bool false)]
|_=>.any
def Sa(e:Bool):V->V->V
|.d x,.d y=>.d (.bool (DN x y==e))
|_,_=>.any
def Rf:V->V->V
|.d (.agg a),.d (.int _ n)=>.d (a.getD n.toNat default)
|_,_=>.any
def C.val(d:Xf)(m:AE):C->V
|.mv x=>x.ev d
|.pick c a b=>K1 (c.ev d) (a.ev d) (b.ev d)
|.not x=>SL (x.ev d)
|.neg x=>UH (x.ev d)
|.HY x=>UA (x.ev d)
|.Bl n x y=>Pj n (x.ev d) (y.ev d)
|.Db e x=>PQ e (x.ev d)
|.Ej e x=>Pa e (x.ev d)
|.Ig x=>Pz (x.ev d)
|.IU k x=>UB k (x.ev d)
|.G5 x i=>UF (x.ev d) (i.ev d)
|.C8 z x i=>Lt z (x.ev d) (i.ev d)
|.Ci _ _ x i=>M1 (x.ev d) (i.ev d)
|.Bs f l x=>Us f l (x.ev d)
|.IV f _ _ _ x=>Sb f (x.ev d).Bk
|.ld _ _ x=>G8 m (x.ev d)
|.DT x=>x.ev d
|.DO x=>UR (x.ev d)
|.CU x=>Lv (x.ev d)
|.DB x j h=>K2 (j.map (A.ev d)) (h.map (A.ev d)) (x.ev d)
|.DQ _ x j h=>UX (j.map (A.ev d)) (h.map (A.ev d)) (x.ev d)
|.ext x i=>T8 i (x.ev d)
|.Fs _ _=>.any
|.El f first g=>Pt f (first.map (A.ev d)) (g.map (A.ev d))
|.IY t x=>MM t (x.ev d)
|.Ie t z x=>Oe t z (x.ev d)
|.Fh _ e x y=>Sa e (x.ev d) (y.ev d)
|.Hv _ _ _ x i=>Rf (x.ev d) (i.ev d)
def C.ok(b:Xf)(a:AE)(c:C):Prop:=c.wp b a λv=>v=c.val b a
def Ybk{c:BinOp}{k e:IntKind}{a b:Int}{K d:V->Prop}(f:∀v,K v->d v)(h:Ix c k e a b K):Ix c k e a b d:=by
 cases c<;>simp only[Ix]at h⊢<;>first|grind|grind
def Yho{c:BinOp}{a b:List UInt8}{K d:V->Prop}(e:∀v,K v->d v)(h:KA c a b K):KA c a b d:=by
 cases c<;>simp only[KA]at h⊢<;>first|exact e _ h|simp_all|cases h
def fD{n:Nat}{K a:Nat->Nat->Prop}(d:∀l h,K l h->a l h){c b:Option V}(h:Ei n K c b):Ei n a c b:=by
 unfold Ei at h⊢;split<;>simp_all
theorem TG{K a:List V->Prop}(b:∀l,K l->a l):∀(d:List (Nat×V)) (c:List V),Er c d K->Er c d a
|[],_,h=>b _ h
|(_,_)::r,_,h=>⟨h.1,h.2.1,h.2.2.1,TG b r _ h.2.2.2⟩
theorem C.wp_mono{sl:Xf}{ob:AE}{K b:V->Prop}(a:∀v,K v->b v)(c:C)(h:c.wp sl ob K):c.wp sl ob b:=by
 cases c<;>simp only[C.wp]at h⊢
 case mv=>exact a _ h
 case El=>exact a _ h
 case IY=>exact a _ h
 case Fs=>grind[TG]
 case Bl x y=>
  generalize A.ev sl x=v at h⊢;generalize A.ev sl y=u at h⊢;unfold JS at h;split at h
  ·exact Ybk a h
  ·exact Yho a h
  ·cases h
 case DB x lo hi=>
  generalize A.ev sl x=v at h⊢;unfold L4 at h;split at h
  ·exact fD (λ_ _=>a _) h
  ·cases h
 case DQ x lo hi=>
  generalize A.ev sl x=v at h⊢;unfold L3 at h;split at h
  ·exact⟨h.1,fD (λ_ _=>a _) h.2⟩
  ·cases h
 case pick x y z=>
  generalize A.ev sl x=v at h⊢;generalize A.ev sl y=u at h⊢;generalize A.ev sl z=t at h⊢;unfold KL at h;grind[KL]
 case IV x=>
  generalize (A.ev sl x).Bk=v at h⊢;unfold MH at h;split at h
  ·exact⟨h.1,h.2.1,h.2.2.1,h.2.2.2.1,a _ h.2.2.2.2⟩
  ·cases h
 case Bs x=>
  generalize A.ev sl x=v at h⊢;unfold Qm at h;split at h
  ·simp only[Qm];generalize Vu _=v at h⊢;unfold Kt at h;split at h<;>simp_all
  ·exact⟨h.1,h.2.1,a _ h.2.2⟩
  ·exact a _ h
  ·cases h
 case ld x=>
  generalize A.ev sl x=v at h⊢;unfold E9 at h;split at h
  ·simp only[E9];generalize Dm _ _ _=v at h⊢;unfold Ge at h;split at h<;>simp_all
  ·exact⟨h.1,h.2.1,a _ h.2.2⟩
  ·simp only[E9];generalize JD _ _ _ _ _ _ _=v at h⊢;unfold Ge at h;split at h
   ·exact⟨h.1,h.2.1,a _ h.2.2⟩
   ·cases h
  ·cases h
 case Ie x=>
  generalize A.ev sl x=v at h⊢;unfold NT at h;split at h
  ·exact⟨λe=>a _ (h.1 e),λe=>a _ (h.2 e)⟩
  ·exact⟨λe=>a _ (h.1 e),λe=>a _ (h.2 e)⟩
  ·exact a _ h
  ·cases h
 case Ej x=>generalize A.ev sl x=v at h⊢;unfold KH at h;split at h<;>first|exact a _ h|cases h
 case Ig x=>generalize A.ev sl x=v at h⊢;unfold KD at h;split at h<;>first|exact⟨h.1,a _ h.2⟩|exact a _ h|cases h
 case not x=>generalize A.ev sl x=v at h⊢;unfold MP at h;split at h<;>first|exact a _ h|cases h
 case HY x=>generalize A.ev sl x=v at h⊢;unfold MD at h;split at h<;>first|exact a _ h|cases h
 case neg x=>generalize A.ev sl x=v at h⊢;unfold MN at h;split at h<;>first|exact a _ h|cases h
 case Db x=>generalize A.ev sl x=v at h⊢;unfold J3 at h;split at h<;>first|exact a _ h|cases h
 case IU x=>generalize A.ev sl x=v at h⊢;unfold MF at h;split at h<;>first|exact a _ h|cases h
 case DT x=>generalize A.ev sl x=v at h⊢;unfold IP at h;split at h<;>first|exact a _ h|cases h
 case DO x=>generalize A.ev sl x=v at h⊢;unfold Ly at h;split at h<;>first|exact a _ h|cases h
 case CU x=>generalize A.ev sl x=v at h⊢;unfold IK at h;split at h<;>first|exact a _ h|exact⟨h.1,a _ h.2⟩|cases h
 case ext x _=>generalize A.ev sl x=v at h⊢;unfold MG at h;split at h<;>first|exact⟨h.1,a _ h.2⟩|cases h
 case Fh x y=>generalize A.ev sl x=v at h⊢;generalize A.ev sl y=u at h⊢;unfold T6 at h;split at h<;>first|exact⟨h.1,h.2.1,a _ h.2.2⟩|cases h
 case Hv x y=>generalize A.ev sl x=v at h⊢;generalize A.ev sl y=u at h⊢;unfold Pf at h;split at h<;>first|exact⟨h.1,h.2.1,h.2.2.1,a _ h.2.2.2⟩|cases h
 case G5 x y=>generalize A.ev sl x=v at h⊢;generalize A.ev sl y=u at h⊢;unfold MJ at h;split at h<;>first|exact⟨h.1,a _ h.2⟩|cases h
 case C8 x y=>generalize A.ev sl x=v at h⊢;generalize A.ev sl y=u at h⊢;unfold Hl at h;split at h<;>first|exact⟨h.1,h.2.1,a _ h.2.2⟩|cases h
 case Ci x y=>generalize A.ev sl x=v at h⊢;generalize A.ev sl y=u at h⊢;unfold KI at h;split at h<;>first|exact⟨h.1,h.2.1,a _ h.2.2⟩|exact⟨h.1,h.2.1,h.2.2.1,a _ h.2.2.2⟩|cases h
theorem Rcn{b:Xf}{a:AE}{K:V->Prop}{c:C}(h:c.ok b a)(d:K (c.val b a)):c.wp b a K:=
 C.wp_mono (λ_ e=>e▸d) c h
inductive E where
|a (x:A)
|u (c:C) (x:E)
|b (c:C) (x y:E)
|t (c:C) (x y z:E)
|ite (c x y:E)
|call (f:Nat) (x:E)
|nil
|cons (x r:E)
structure Fn where
 pre:List V->Prop
 val:List V->V
abbrev DW:=List (Nat×Fn)
def IM:DW->Nat->Option Fn
|[],_=>none
|(j,x)::r,k=>if j=k then some x else IM r k
def A6(P:BE)(T:DW):Prop:=∀f F,IM T f=some F->∀a,F.pre a->∀(b:AE)(K:V->Prop),K (F.val a)->AW P f a b K
def Ha(a:Bool):V->Bool
|.d (.bool b)=>b==a
|_=>false
def Kz:V->Prop
|.d (.bool _)=>True
|_=>False
def UO(x:V):V->V
|.BU a=>.BU (x::a)
|_=>.any
def aT:Option Fn->V->V
|some F,.BU a=>F.val a
|_,_=>.any
def aQ:Option Fn->V->Prop
|some F,.BU a=>F.pre a
|_,_=>False
def E.val(T:DW)(e:Xf)(d:AE):E->V
|.a x=>x.ev e
|.u c x=>c.val [(0,x.val T e d)] d
|.b c x y=>c.val [(0,x.val T e d),(1,y.val T e d)] d
|.t c x y z=>c.val [(0,x.val T e d),(1,y.val T e d),(2,z.val T e d)] d
|.ite c x y=>K1 (c.val T e d) (x.val T e d) (y.val T e d)
|.call f x=>aT (IM T f) (x.val T e d)
|.nil=>.BU []
|.cons x r=>UO (x.val T e d) (r.val T e d)
def E.ok(T:DW)(e:Xf)(d:AE):E->Prop
|.a _=>True
|.u c x=>x.ok T e d/\c.ok [(0,x.val T e d)] d
|.b c x y=>x.ok T e d/\y.ok T e d/\c.ok [(0,x.val T e d),(1,y.val T e d)] d
|.t c x y z=>x.ok T e d/\y.ok T e d/\z.ok T e d/\c.ok [(0,x.val T e d),(1,y.val T e d),(2,z.val T e d)] d
|.ite c x y=>c.ok T e d/\Kz (c.val T e d)/\(Ha true (c.val T e d)=true->x.ok T e d)/\(Ha false (c.val T e d)=true->y.ok T e d)
|.call f x=>x.ok T e d/\aQ (IM T f) (x.val T e d)
|.nil=>True
|.cons x r=>x.ok T e d/\r.ok T e d
def A.Bg(k:Nat):A->Bool
|.t j=>j==k
|_=>false
def E.Bg(k:Nat):E->Bool
|.a x=>x.Bg k
|.u _ x=>x.Bg k
|.b _ x y=>x.Bg k||y.Bg k
|.t _ x y z=>x.Bg k||y.Bg k||z.Bg k
|.ite x y z=>x.Bg k||y.Bg k||z.Bg k
|.call _ x=>x.Bg k
|.nil=>false
|.cons x y=>x.Bg k||y.Bg k
def C.rd:C->Bool
|.ld _ _ _=>true
|_=>false
def E.rd:E->Bool
|.a _=>false
|.u c x=>c.rd||x.rd
|.b c x y=>c.rd||x.rd||y.rd
|.t c x y z=>c.rd||x.rd||y.rd||z.rd
|.ite x y z=>x.rd||y.rd||z.rd
|.call _ x=>x.rd
|.nil=>false
|.cons x y=>x.rd||y.rd
def E.tX:E->Bool
|.a _=>true
|_=>false
def IC{T:DW}{g:Xf}{d:AE}{k:Nat}{v:V}:∀{e:E},e.Bg k=false->e.val T ((k,v)::g) d=e.val T g d
|.a x,h=>by
 cases x<;>simp only[E.val,A.ev];grind[E.Bg,A.Bg,BG]
|.u c x,h=>by simp only[E.Bg]at h;simp only[E.val,IC h]
|.b c x y,h=>by simp only[E.Bg,HG]at h;simp only[E.val,IC h.1,IC h.2]
|.t c x y z,h=>by simp only[E.Bg,HG]at h;simp only[E.val,IC h.1.1,IC h.1.2,IC h.2]
|.ite x y z,h=>by simp only[E.Bg,HG]at h;simp only[E.val,IC h.1.1,IC h.1.2,IC h.2]
|.call f x,h=>by simp only[E.Bg]at h;simp only[E.val,IC h]
|.nil,_=>rfl
|.cons x y,h=>by simp only[E.Bg,HG]at h;simp only[E.val,IC h.1,IC h.2]
def C.CW{a:Xf}{b ob':AE}{c:C}(h:c.rd=false):c.val a b=c.val a ob':=by
 cases c<;>simp_all[C.rd,C.val]
def E.CW{T:DW}{d:Xf}{g ob':AE}:∀{e:E},e.rd=false->e.val T d g=e.val T d ob'
|.a x,h=>rfl
|.u c x,h=>by simp only[E.rd,HG]at h;simp only[E.val,E.CW (ob':=ob') h.2,C.CW (ob':=ob') h.1]
|.b c x y,h=>by simp only[E.rd,HG]at h;simp only[E.val,E.CW (ob':=ob') h.1.2,E.CW (ob':=ob') h.2,C.CW (ob':=ob') h.1.1]
|.t c x y z,h=>by simp only[E.rd,HG]at h;simp only[E.val,E.CW (ob':=ob') h.1.1.2,E.CW (ob':=ob') h.1.2,E.CW (ob':=ob') h.2,C.CW (ob':=ob') h.1.1.1]
|.ite x y z,h=>by simp only[E.rd,HG]at h;simp only[E.val,E.CW (ob':=ob') h.1.1,E.CW (ob':=ob') h.1.2,E.CW (ob':=ob') h.2]
|.call f x,h=>by simp only[E.rd]at h;simp only[E.val,E.CW (ob':=ob') h]
|.nil,_=>rfl
|.cons x y,h=>by simp only[E.rd,HG]at h;simp only[E.val,E.CW (ob':=ob') h.1,E.CW (ob':=ob') h.2]
abbrev Dw:=List (Nat×Bool)
abbrev Sg:=List (Nat×Option (Dw×E))
def U8:Sg->Nat->Option (Option (Dw×E))
|[],_=>none
|(j,x)::r,k=>if j=k then some x else U8 r k
def Dz(b:Sg)(k:Nat):Option (Dw×E):=match U8 b k with
|none=>some ([],.a (.t k))
|some x=>x
def X6(a:Xf)(p:Dw):Bool:=p.all λg=>Ha g.2 (BG a g.1)
def Wu(T:DW)(b:Xf)(a:AE)(p:List (E×Bool)):Bool:=p.all λg=>Ha g.2 (g.1.val T b a)
def EI(T:DW)(d:Sg)(a b:Xf)(c:AE):Prop:=∀k p e,Dz d k=some (p,e)->
 (X6 a p=true->BG a k=e.val T b c)/\(X6 a p=false->BG a k=.undef)
def FU(b:Sg)(p:Dw):A->Option E
|.t k=>match Dz b k with
 |some (q,e)=>if q.isPrefixOf p then some e else none
 |none=>none
|x=>some (.a x)
def U7(a:Sg)(p:Dw)(c:C)(x:A):Option E:=match FU a p x with
|some x=>some (.u c x)
|none=>none
def IL(a:Sg)(p:Dw)(c:C)(x y:A):Option E:=match FU a p x,FU a p y with
|some x,some y=>some (.b c x y)
|_,_=>none
def RW(a:Sg)(p:Dw)(c:C)(x y z:A):Option E:=match FU a p x,FU a p y,FU a p z with
|some x,some y,some z=>some (.t c x y z)
|_,_,_=>none
def ru(a:Sg)(p:Dw)(g:Nat)(x y:A):Option E:=match FU a p (.t g),FU a (p++[(g,true)]) x,FU a (p++[(g,false)]) y with
|some c,some x,some y=>some (.ite c x y)
|_,_,_=>none
def RS(a:Sg)(p:Dw):List A->Option E
|[]=>some .nil
|x::r=>match FU a p x,RS a p r with
 |some x,some r=>some (.cons x r)
 |_,_=>none
def C.Af(a:Sg)(p:Dw):C->Option E
|.mv x=>FU a p x
|.pick (.t g) x y=>ru a p g x y
|.pick _ _ _=>none
|.not x=>U7 a p (.not (.t 0)) x
|.neg x=>U7 a p (.neg (.t 0)) x
|.HY x=>U7 a p (.HY (.t 0)) x
|.Bl o x y=>IL a p (.Bl o (.t 0) (.t 1)) x y
|.Db e x=>U7 a p (.Db e (.t 0)) x
|.Ej e x=>U7 a p (.Ej e (.t 0)) x
|.Ig x=>U7 a p (.Ig (.t 0)) x
|.IU k x=>U7 a p (.IU k (.t 0)) x
|.G5 x i=>IL a p (.G5 (.t 0) (.t 1)) x i
|.C8 z x i=>IL a p (.C8 z (.t 0) (.t 1)) x i
|.Ci n z x i=>IL a p (.Ci n z (.t 0) (.t 1)) x i
|.Bs f c x=>U7 a p (.Bs f c (.t 0)) x
|.IV f c n b x=>U7 a p (.IV f c n b (.t 0)) x
|.ld n b x=>U7 a p (.ld n b (.t 0)) x
|.DT x=>U7 a p (.DT (.t 0)) x
|.DO x=>U7 a p (.DO (.t 0)) x
|.CU x=>U7 a p (.CU (.t 0)) x
|.DB x none none=>U7 a p (.DB (.t 0) none none) x
|.DB x (some l) none=>IL a p (.DB (.t 0) (some (.t 1)) none) x l
|.DB x none (some h)=>IL a p (.DB (.t 0) none (some (.t 1))) x h
|.DB x (some l) (some h)=>RW a p (.DB (.t 0) (some (.t 1)) (some (.t 2))) x l h
|.DQ z x none none=>U7 a p (.DQ z (.t 0) none none) x
|.DQ z x (some l) none=>IL a p (.DQ z (.t 0) (some (.t 1)) none) x l
|.DQ z x none (some h)=>IL a p (.DQ z (.t 0) none (some (.t 1))) x h
|.DQ z x (some l) (some h)=>RW a p (.DQ z (.t 0) (some (.t 1)) (some (.t 2))) x l h
|.ext x i=>U7 a p (.ext (.t 0) i) x
|.IY t x=>U7 a p (.IY t (.t 0)) x
|.Ie t z x=>U7 a p (.Ie t z (.t 0)) x
|.Fh d e x y=>IL a p (.Fh d e (.t 0) (.t 1)) x y
|.Hv n z b x i=>IL a p (.Hv n z b (.t 0) (.t 1)) x i
|.Fs _ _=>none
|.El _ _ _=>none
def I.Af(d:List Nat)(b:Sg)(p:Dw):I->Option E
|.c x=>x.Af b p
|.Bd f a=>if d.contains f then (match RS b p a with|some e=>some (.call f e)|none=>none) else none
|_=>none
def Fg(a:Sg)(p:Dw):A->List Nat
|.t k=>match Dz a k with
 |some (q,_)=>if q==p then[k] else[]
 |none=>[]
|_=>[]
def VC(a:Sg)(p:Dw):List A->List Nat
|[]=>[]
|x::r=>Fg a p x++VC a p r
def C.cons(a:Sg)(p:Dw):C->List Nat
|.mv x|.not x|.neg x|.HY x|.Db _ x|.Ej _ x|.Ig x|.IU _ x|.Bs _ _ x|.IV _ _ _ _ x|.ld _ _ x|.DT x|.DO x|.CU x|.ext x _|.IY _ x|.Ie _ _ x=>Fg a p x
|.Bl _ x y|.G5 x y|.C8 _ x y|.Ci _ _ x y|.Fh _ _ x y|.Hv _ _ _ x y=>Fg a p x++Fg a p y
|.DB x none none|.DQ _ x none none=>Fg a p x
|.DB x (some y) none|.DQ _ x (some y) none|.DB x none (some y)|.DQ _ x none (some y)=>Fg a p x++Fg a p y
|.DB x (some y) (some z)|.DQ _ x (some y) (some z)=>Fg a p x++Fg a p y++Fg a p z
|.pick (.t g) x y=>Fg a p (.t g)++Fg a (p++[(g,true)]) x++Fg a (p++[(g,false)]) y
|_=>[]
def I.cons(b:Sg)(p:Dw):I->List Nat
|.c x=>x.cons b p
|.Bd _ a=>VC b p a
|_=>[]
def I.G4(a:Sg)(p:Dw):I->List Nat
|.c (.pick (.t g) _ _)=>Fg a p (.t g)
|_=>[]
section
variable {P:BE} {T:DW} {σ:Sg} {sl sl0:Xf} {ob:AE} {p:Dw}
def Xfx{q:Dw}(h:q.isPrefixOf p=true)(a:X6 sl p=true):X6 sl q=true:=by
 grind[X6]
theorem Qt(a:EI T σ sl sl0 ob)(c:X6 sl p=true){x:A}{e:E}(h:FU σ p x=some e):e.val T sl0 ob=x.ev sl:=by
 cases x with
 |t k=>
  simp only[FU]at h;split at h
  ·rename_i q f b;split at h
   next d=>cases h;exact((a k q e b).1 (Xfx d c)).symm
   ·cases h
  ·cases h
 |_=>cases h;rfl
theorem wV{c:C}{x:A}{e:E}(h:U7 σ p c x=some e):∃a,e=.u c a/\FU σ p x=some a:=by
 grind[U7]
theorem wW{c:C}{x y:A}{e:E}(h:IL σ p c x y=some e):∃a d,e=.b c a d/\FU σ p x=some a/\FU σ p y=some d:=by
 grind[IL]
theorem wX{c:C}{x y z:A}{e:E}(h:RW σ p c x y z=some e):∃a b d,e=.t c a b d/\FU σ p x=some a/\FU σ p y=some b/\FU σ p z=some d:=by
 grind[RW]
def ix{g:Nat}{x y:A}{e:E}(h:ru σ p g x y=some e):∃a b c,e=.ite a b c/\FU σ p (.t g)=some a/\FU σ (p++[(g,true)]) x=some b/\FU σ (p++[(g,false)]) y=some c:=by
 grind[ru]
def Xqo(a:EI T σ sl sl0 ob)(b:X6 sl p=true):∀{c:List A}{e:E},RS σ p c=some e->e.val T sl0 ob=.BU (c.map (A.ev sl))
|[],e,h=>by cases h;rfl
|x::r,e,h=>by
 simp only[RS]at h;split at h
 next i g f d=>cases h;simp only[E.val,Qt a b f,Xqo a b d,UO,Dj]
 ·cases h
def Ygm(x y:V):K1 (.d (.bool true)) x y=x:=by unfold K1;split<;>simp_all
def Ygk(x y:V):K1 (.d (.bool false)) x y=y:=by unfold K1;split<;>simp_all
def Ygl{v:V}(h:¬Kz v)(x y:V):K1 v x y=.any:=by unfold K1;grind[Kz]
theorem gL{v:V}(h:Kz v):v=.d (.bool true)\/v=.d (.bool false):=by
 unfold Kz at h;split at h<;>simp_all
theorem C.BP(m:EI T σ sl sl0 ob)(n:X6 sl p=true){c:C}{e:E}(h:c.Af σ p=some e):e.val T sl0 ob=c.val sl ob/\(e.ok T sl0 ob->c.ok sl ob):=by
 have v:∀{c x},U7 σ p c x=some e->∃a,e=.u c a/\a.val T sl0 ob=x.ev sl:=λh=>by
  grind[wV,Qt]
 have w:∀{c x y},IL σ p c x y=some e->∃a i,e=.b c a i/\a.val T sl0 ob=x.ev sl/\i.val T sl0 ob=y.ev sl:=λh=>by
  grind[wW,Qt]
 have F:∀{c x y z},RW σ p c x y z=some e->∃a i o,e=.t c a i o/\a.val T sl0 ob=x.ev sl/\i.val T sl0 ob=y.ev sl/\o.val T sl0 ob=z.ev sl:=λh=>by
  grind[wX,Qt]
 unfold C.Af at h;split at h
 case h_1=>exact⟨by rw[Qt m n h];rfl,λ_=>rfl⟩
 case h_2 g x y=>
  obtain⟨G,a,i,rfl,r,j,l⟩:=ix h;have q:=Qt m n r;have k:∀b,BG sl g=.d (.bool b)->X6 sl (p++[(g,b)])=true:=λb f=>by
   simp only[X6,vM,BX]at n⊢;exact⟨n,by simp[f,Ha]⟩
  simp only[E.val,E.ok,C.val,C.ok,C.wp,bW,q];by_cases f:Kz (BG sl g)
  ·rcases gL f with f|f
   ·have:=Qt m (k true f) j;rw[f];simp only[Ygm,Yy5,this];exact⟨trivial,λ_=>trivial⟩
   ·have:=Qt m (k false f) l;rw[f];simp only[Ygk,Yy4,this];exact⟨trivial,λ_=>trivial⟩
  ·rw[Ygl f,Ygl f];exact⟨rfl,λh=>(f h.2.1).elim⟩
 all_goals first
 |(cases h;done)
 |(obtain⟨a,rfl,j⟩:=v h;simp only[E.val,E.ok,C.val,C.ok,C.wp,bW,jl,j,Option.map];exact⟨trivial,λh=>h.2⟩)
 |(obtain⟨a,i,rfl,j,l⟩:=w h;simp only[E.val,E.ok,C.val,C.ok,C.wp,bW,jl,Yb4,Nat.reduceBEq,j,l,Option.map];exact⟨trivial,λh=>h.2.2⟩)
 |(obtain⟨a,i,o,rfl,j,l,s⟩:=F h;simp only[E.val,E.ok,C.val,C.ok,C.wp,bW,jl,Yb4,Nat.reduceBEq,j,l,s,Option.map];exact⟨trivial,λh=>h.2.2.2⟩)
def V3{x:A}{k:Nat}{a:E}(b:k∈Fg σ p x)(h:FU σ p x=some a):Dz σ k=some (p,a):=by
 cases x<;>grind[Fg,FU]
theorem Z1{g:Nat}{b:Bool}:X6 sl (p++[(g,b)])=(X6 sl p&&Ha b (BG sl g)):=by
 simp[X6]
def xW:∀{d:List A}{e:E},RS σ p d=some e->∀{k q b},k∈VC σ p d->Dz σ k=some (q,b)->q=p/\(e.ok T sl0 ob->b.ok T sl0 ob)
|[],_,_,k,_,_,a,_=>by simp[VC]at a
|x::r,e,h,k,q,b,a,c=>by
 simp only[RS]at h;split at h
 ·rename_i m l j i;cases h;simp only[VC,FM]at a;rcases a with a|a
  ·have:=V3 a j;rw[c]at this;cases this;exact⟨rfl,λh=>h.1⟩
  ·obtain⟨f,g⟩:=xW i a c;exact⟨f,λh=>g h.2⟩
 ·cases h
theorem C.tR(s:EI T σ sl sl0 ob){c:C}{e:E}(h:c.Af σ p=some e){k:Nat}{q:Dw}{j:E}(a:k∈c.cons σ p)(d:Dz σ k=some (q,j))(b:X6 sl q=true)(f:X6 sl p=true->e.ok T sl0 ob):j.ok T sl0 ob:=by
 have u:∀{c x},U7 σ p c x=some e->k∈Fg σ p x->j.ok T sl0 ob:=λh a=>by
  obtain⟨m,rfl,i⟩:=wV h;have:=V3 a i;rw[d]at this;cases this;exact(f b).1
 have v:∀{c x y},IL σ p c x y=some e->k∈Fg σ p x++Fg σ p y->j.ok T sl0 ob:=λh a=>by
  obtain⟨m,r,rfl,i,l⟩:=wW h;rw[FM]at a;rcases a with a|a
  ·have:=V3 a i;rw[d]at this;cases this;exact(f b).1
  ·have:=V3 a l;rw[d]at this;cases this;exact(f b).2.1
 have w:∀{c x y z},RW σ p c x y z=some e->k∈Fg σ p x++Fg σ p y++Fg σ p z->j.ok T sl0 ob:=λh a=>by
  obtain⟨m,r,G,rfl,i,l,t⟩:=wX h;rw[FM,FM]at a;rcases a with (a|a)|a
  ·have:=V3 a i;rw[d]at this;cases this;exact(f b).1
  ·have:=V3 a l;rw[d]at this;cases this;exact(f b).2.1
  ·have:=V3 a t;rw[d]at this;cases this;exact(f b).2.2.1
 unfold C.Af at h;split at h<;>simp only[C.cons]at a
 case h_1=>
  have:=V3 a h;simp_all
 case h_2 g x y=>
  obtain⟨F,m,r,rfl,n,i,l⟩:=ix h;rw[FM,FM]at a;rcases a with (a|a)|a
  ·have:=V3 a n;rw[d]at this;cases this;exact(f b).1
  ·have:=V3 a i;rw[d]at this;cases this;rw[Z1,BX]at b;have o:=Qt s b.1 n;exact(f b.1).2.2.1 (by rw[o];exact b.2)
  ·have:=V3 a l;rw[d]at this;cases this;rw[Z1,BX]at b;have o:=Qt s b.1 n;exact(f b.1).2.2.2 (by rw[o];exact b.2)
 all_goals first
 |(cases h;done)
 |exact u h a
 |exact v h a
 |exact w h a
 |(cases a;done)
theorem I.tR(r:EI T σ sl sl0 ob){d:List Nat}{i:I}{e:E}(h:i.Af d σ p=some e){k:Nat}{q:Dw}{a:E}(b:k∈i.cons σ p)(l:Dz σ k=some (q,a))(n:X6 sl q=true)(m:X6 sl p=true->e.ok T sl0 ob):a.ok T sl0 ob:=by
 cases i<;>simp only[I.Af]at h<;>simp only[I.cons]at b
 case c x=>grind[C.tR]
 case Bd f args=>
  split at h
  ·split at h
   next o j=>cases h;obtain⟨rfl,g⟩:=xW (T:=T) (sl0:=sl0) (ob:=ob) j b l;exact g (m n).1
   ·cases h
  ·cases h
 all_goals cases h
theorem Rcp{c:List Nat}{i:I}{e:E}(h:i.Af c σ p=some e){k:Nat}{q:Dw}{b:E}(a:k∈i.G4 σ p)(f:Dz σ k=some (q,b))(j:X6 sl q=true)(g:X6 sl p=true->e.ok T sl0 ob):Kz (b.val T sl0 ob):=by
 unfold I.G4 at a;split at a
 ·obtain⟨l,m,n,rfl,d,o,r⟩:=ix h;have:=V3 a d;rw[f]at this;cases this;exact(g j).2.1
 ·cases a
theorem I.BP(m:A6 P T)(l:EI T σ sl sl0 ob)(o:X6 sl p=true){k:List Nat}{i:I}{e:E}(h:i.Af k σ p=some e)(a:e.ok T sl0 ob){g j:V->AE->Prop}(b:g (e.val T sl0 ob) ob):i.wp P sl ob g j:=by
 cases i<;>simp only[I.Af]at h
 case c x=>
  grind[C.BP,I.wp,Rcn]
 case Bd f args=>
  split at h
  ·split at h
   ·rename_i r n;cases h;have q:=Xqo l o n;simp only[E.ok,E.val,q]at a b;cases d:IM T f with
    |none=>rw[d]at a;exact a.2.elim
    |some F=>rw[d]at a b;exact m f F d _ a.2 _ _ b
   ·cases h
  ·cases h
 all_goals cases h
def EI.congr{a:Xf}(b:EI T σ sl sl0 ob)(h:∀k,BG a k=BG sl k):EI T σ a sl0 ob:=by
 intro k p e c;have:X6 a p=X6 sl p:=by simp only[X6,h]
 rw[this,h];exact b k p e c
def Jo(d:Nat)(p:Dw):Bool:=p.all λg=>g.1 != d
def Pd(σ:Sg)(d:Nat):Bool:=σ.all λx=>match x.2 with
|some (p,_)=>Jo d p
|none=>true
def Qz{d:Nat}{v:V}(h:Jo d p=true):X6 ((d,v)::sl) p=X6 sl p:=by
 grind[Jo,X6,BG]
theorem Xld:∀{σ:Sg}{d k:Nat}{p:Dw}{e:E},Pd σ d=true->U8 σ k=some (some (p,e))->Jo d p=true
|[],_,_,_,_,_,h=>by simp[U8]at h
|(j,x)::r,d,k,p,e,a,h=>by
 simp only[Pd,Mn,BX]at a;simp only[U8]at h;split at h
 ·cases h;exact a.1
 ·exact Xld (σ:=r) a.2 h
def XV{d k:Nat}{q:Dw}{e:E}(a:Pd σ d=true)(h:Dz σ k=some (q,e)):Jo d q=true:=by
 unfold Dz at h;split at h
 ·cases h;rfl
 grind[Xld]
theorem Je{k:Nat}{x:Option (Dw×E)}:Dz ((k,x)::σ) k=x:=by simp[Dz,U8]
theorem W5{j k:Nat}{x:Option (Dw×E)}(h:k≠j):Dz ((k,x)::σ) j=Dz σ j:=by simp[Dz,U8,h]
end
inductive FJ where
|An (p:List (E×Bool)) (e:E)
|lt (k:Nat) (p:List (E×Bool)) (e:E)
|op (d:Option Nat) (i:I)
|Ew (p:List (E×Bool)) (d:Option Nat) (i:I)
def M7(b:Bool)(v:V):V:=if b then v else .undef
def Dx(P:BE)(T:DW)(K:Xf->AE->Prop)(f:V->Xf->AE->Prop):List FJ->Xf->AE->Prop
|[],a,b=>K a b
|.An p e::r,a,b=>(Wu T a b p=true->e.ok T a b)/\Dx P T K f r a b
|.lt k p e::r,a,b=>(Wu T a b p=true->e.ok T a b)/\Dx P T K f r ((k,M7 (Wu T a b p) (e.val T a b))::a) b
|.op d i::r,a,b=>i.wp P a b (λv c=>Dx P T K f r (put a d v) c) (λv c=>f v a c)
|.Ew p d i::r,a,b=>(Wu T a b p=true->i.wp P a b (λv c=>Dx P T K f r (put a d v) c) (λv c=>f v a c))/\
 (Wu T a b p=false->Dx P T K f r (put a d .undef) b)
def GY(T:DW)(b:Xf)(a:AE):List (Nat×E)->Xf
|[]=>[]
|(k,e)::r=>(k,e.val T b a)::GY T b a r
def Uw(T:DW)(b:Xf)(a:AE):List (Nat×E)->Prop
|[]=>True
|(_,e)::r=>e.ok T b a/\Uw T b a r
def A.BI:A->List Nat
|.t k=>[k]
|_=>[]
def V8:List A->List Nat
|[]=>[]
|x::r=>x.BI++V8 r
def R3:Option A->List Nat
|some x=>x.BI
|none=>[]
def C.BI:C->List Nat
|.mv x|.not x|.neg x|.HY x|.Db _ x|.Ej _ x|.Ig x|.IU _ x|.Bs _ _ x|.IV _ _ _ _ x|.ld _ _ x|.DT x|.DO x|.CU x|.ext x _|.IY _ x|.Ie _ _ x=>x.BI
|.Bl _ x y|.G5 x y|.C8 _ x y|.Ci _ _ x y|.Fh _ _ x y|.Hv _ _ _ x y=>x.BI++y.BI
|.pick x y z=>x.BI++(y.BI++z.BI)
|.DB x l h|.DQ _ x l h=>x.BI++(R3 l++R3 h)
|.Fs _ c=>V8 (c.map (·.2))
|.El _ a b=>V8 a++V8 b
def I.BI:I->List Nat
|.c x=>x.BI
|.box _ x=>x.BI
|.alloc _ _=>[]
|.Gk _ _ a=>V8 (a.map (·.2))
|.Hw _ _ _ a=>V8 (a.map (·.2))
|.st _ x y=>x.BI++y.BI
|.Dl _ _ _ x y=>x.BI++y.BI
|.Fq _ _ x y=>x.BI++y.BI
|.call _ l=>V8 l
|.Bd _ l=>V8 l
|.Ca _ l=>V8 l
|.C6 x l=>x.BI++V8 l
|.panic x=>x.BI
|.JJ x=>x.BI
|.Fv _ _ x=>x.BI
|.MU x=>x.BI
|.KW _ _ x=>x.BI
|.KY _ _ y x _=>y.BI++x.BI
|.KZ y x _=>y.BI++x.BI
|.KS x=>x.BI
|.Fy _ x y=>x.BI++y.BI
|.IZ r=>R3 r
|.LR _ _ _ m k=>m.BI++k.BI
|.DP _ m k v=>m.BI++(k.BI++v.BI)
|.MR _ _ _ _=>[]
|.LZ _ _ x=>x.BI
|.IS _ _ _ a=>V8 (a.map (·.2))
|.HX _ _ _ x y=>x.BI++y.BI
|.gv x=>x.BI
|.LP _ _ x=>x.BI
|.JL _ _ x d b=>x.BI++(R3 d++R3 b)
|.MQ _ x y=>x.BI++y.BI
|.LF _ _ x=>x.BI
|.KU _ _ _ _ i=>i.BI
|.LW x=>x.BI
|.MV x=>x.BI
|.LJ x=>x.BI
|.FZ x=>x.BI
|.JH _ _ x=>x.BI
|.LN _ _ _ _ x l=>x.BI++V8 l
|.MT _ _ _ _ l=>l.BI
|.Ma _ x y=>x.BI++y.BI
section
variable {P:BE} {sl sl':Xf} {ob:AE}
theorem Ij{x:A}(h:∀k∈x.BI,BG sl k=BG sl' k):x.ev sl=x.ev sl':=by
 cases x<;>simp_all[A.ev,A.BI]
theorem PN:∀{l:List A},(∀k∈V8 l,BG sl k=BG sl' k)->l.map (A.ev sl)=l.map (A.ev sl')
|[],_=>rfl
|x::r,h=>by
 simp only[V8,FM]at h;simp only[Dj,Ij (λk a=>h k (.inl a)),PN (λk a=>h k (.inr a))]
theorem ni{l:Option A}(h:∀k∈R3 l,BG sl k=BG sl' k):l.map (A.ev sl)=l.map (A.ev sl'):=by
 cases l with
 |none=>rfl
 |some x=>simp only[Mm,Ij h]
def Tx:∀{l:List (Nat×A)},(∀k∈V8 (l.map (·.2)),BG sl k=BG sl' k)->(l.map λx=>(x.1,A.ev sl x.2))=l.map λx=>(x.1,A.ev sl' x.2)
|[],_=>rfl
|x::r,h=>by
 simp only[Dj,V8,FM]at h;simp only[Dj,Ij (λk a=>h k (.inl a)),Tx (λk a=>h k (.inr a))]
def C.La{K:V->Prop}{c:C}(h:∀k∈c.BI,BG sl k=BG sl' k):c.wp sl ob K=c.wp sl' ob K:=by
 cases c<;>simp only[C.BI,FM]at h<;>simp only[C.wp]
 case Fs=>rw[Tx h]
 case El=>grind[PN]
 case pick=>grind[Ij]
 case DB=>grind[Ij,ni]
 case DQ=>grind[Ij,ni]
 all_goals grind[Ij]
def I.La{K a:V->AE->Prop}{i:I}(h:∀k∈i.BI,BG sl k=BG sl' k):i.wp P sl ob K a=i.wp P sl' ob K a:=by
 cases i<;>simp only[I.BI,FM]at h<;>simp only[I.wp]
 case c=>rw[C.La h]
 case Gk=>rw[Tx h]
 case Hw=>rw[Tx h]
 case IS=>rw[Tx h]
 case call=>rw[PN h]
 case Bd=>rw[PN h]
 case Ca=>rw[PN h]
 case C6=>grind[Ij,PN]
 case LN=>grind[Ij,PN]
 case DP=>grind[Ij]
 case JL=>grind[Ij,ni]
 case IZ r=>
  cases r with
  |none=>rfl
  |some x=>simp only[NR,Ij (x:=x) h]
 all_goals grind[Ij]
def Xsh{K a:V->AE->Prop}{ob:AE}{E c:Nat}{p:List Nat}{y x:V}(d:∀v b,K v b->a v b)(h:Hu ob E c p y K x):Hu ob E c p y a x:=by
 unfold Hu at h;split at h
 ·simp only[Hu];generalize AD _ _=o at h⊢;unfold ON at h;split at h
  ·rcases h with h|h
   case inr=>simp_all
   refine .inl ⟨h.1,?_⟩;have h:=h.2;generalize V.set _ _ _=o at h⊢;cases o with
   |none=>cases h
   |some t=>exact d _ _ h
  ·cases h
 ·cases h
def Xsj{K a:V->AE->Prop}{y x:V}(c:∀v b,K v b->a v b):∀{l:List (Nat×Nat×List Nat)} {ob:AE},JY y K x l ob->JY y a x l ob
|[],_,h=>c _ _ h
|_::_,_,h=>Xsh (λ_ _ h=>Xsj c h) h
def X5o{K b:V->Prop}{f a:Nat}{v:V}(c:∀v,K v->b v)(h:Qm ob f a K v):Qm ob f a b v:=by
 have:=C.wp_mono (sl:=[(0,v)]) (ob:=ob) c (.Bs f a (.t 0)) (by simp_all);simp_all
def Ylw{K b:V->Prop}{n:Nat}{a:Bool}{v:V}(c:∀v,K v->b v)(h:E9 ob n a K v):E9 ob n a b v:=by
 have:=C.wp_mono (sl:=[(0,v)]) (ob:=ob) c (.ld n a (.t 0)) (by simp_all);simp_all
theorem I.wp_mono{K G O H:V->AE->Prop}(a:∀v b,K v b->G v b)(hp:∀v b,O v b->H v b){i:I}(h:i.wp P sl ob K O):i.wp P sl ob G H:=by
 have L:∀o b,F7 K O o b->F7 G H o b:=λo b=>by cases o<;>simp_all
 have T:∀{E v},JU E ob K v->JU E ob G v:=λh=>⟨h.1,a _ _ h.2⟩;have dk:∀{Q N:List D->Prop},(∀l,Q l->N l)->∀o,dK Q o->dK N o:=λf o h=>by cases o with|none=>exact h.elim|some l=>exact f l h
 have gv:∀(o:Option (D×AE)),HW K o->HW G o:=λo h=>by
  cases o with
  |none=>cases h
  |some q=>exact a _ _ h
 have Z:∀{E J B j u},Gc E J B ob j K u->Gc E J B ob j G u:=λ{E J B j u} h=>by
  unfold Gc at h;split at h
  ·simp only[Gc];unfold OD at h;split at h<;>simp_all
  ·simp_all
  ·cases h
 have HX:∀{E J B j u},Kn E J B ob j K u->Kn E J B ob j G u:=λ{E J B j u} h=>by
  unfold Kn at h;split at h
  ·simp only[Kn];generalize AD _ _=o at h⊢;unfold RR at h;split at h
   ·obtain⟨d,g,w,k,F⟩:=h;exact⟨d,g,w,k,a _ _ F⟩
   ·obtain⟨d,g,w,k,F⟩:=h;exact⟨d,g,w,k,a _ _ F⟩
   ·cases h
  ·exact⟨h.1,a _ _ h.2⟩
  ·cases h
 have bw:∀{id p lo n z j r o},JV ob id p lo n z j r K o->JV ob id p lo n z j r G o:=λ{id p lo n z j r o} h=>by
  unfold JV at h;split at h
  ·simp only[JV];generalize V.at _ _=o at h⊢;unfold SY at h;split at h
   ·obtain⟨d,g,w,t,k,F⟩:=h;exact⟨d,g,w,t,k,a _ _ F⟩
   ·cases h
  ·cases h
 cases i<;>simp only[I.wp]at h⊢
 case c x=>grind[C.wp_mono]
 case box=>exact T h
 case alloc=>exact T h
 case Gk=>grind[TG]
 case Hw=>grind[TG]
 case st x y=>
  generalize A.ev sl x=v at h⊢;unfold H5 at h;split at h
  ·simp only[H5];generalize AD _ _=o at h⊢;unfold NO at h;split at h
   ·simp only[NO];unfold NP at h;split at h
    ·obtain⟨d,g,w,t,k,F⟩:=h;simp_all
    ·cases h
   ·cases h
  ·simp only[H5];generalize AD _ _=o at h⊢;unfold Pw at h;split at h
   ·simp only[Pw];generalize Ql _ _ _=o at h⊢;unfold SQ at h;split at h
    ·refine⟨h.1,?_⟩;have h:=h.2;generalize V.at _ _=o at h⊢;unfold Px at h;split at h
     ·obtain⟨d,g,w,t,k,F⟩:=h;exact⟨d,g,w,t,k,a _ _ F⟩
     ·cases h
    ·cases h
   ·cases h
  ·cases h
 case Dl x y=>
  generalize A.ev sl y=v at h⊢;unfold I1 at h;split at h<;>simp_all
 case IS=>grind[TG]
 case HX x y=>
  generalize A.ev sl y=v at h⊢;unfold Od at h;split at h
  ·exact⟨h.1,HX h.2⟩
  ·exact HX h
  ·rcases h with⟨E,j,d,g,w,k⟩|⟨E,j,d,g,k⟩
   ·exact .inl ⟨E,j,d,g,w,HX k⟩
   ·exact .inr ⟨E,j,d,g,HX k⟩
  ·cases h
 case gv x=>
  simp_all
 case JL x lo hi=>
  generalize A.ev sl x=v at h⊢;unfold Oc at h;split at h
  ·simp only[Oc];generalize Vu _=o at h⊢;unfold OR at h;split at h
   ·exact⟨h.1,h.2.1,fD (λ_ _=>a _ _) h.2.2⟩
   ·cases h
  ·cases h
 case MQ x y=>
  generalize A.ev sl x=v at h⊢;generalize A.ev sl y=u at h⊢;unfold Pq at h;split at h
  ·exact⟨h.1,bw h.2⟩
  ·cases h
 case LF x=>
  generalize A.ev sl x=v at h⊢;unfold Pm at h;split at h
  ·exact⟨λe=>⟨(h.1 e).1,a _ _ (h.1 e).2⟩,λe=>⟨(h.2 e).1,bw (h.2 e).2⟩⟩
  ·cases h
 case KU x y=>
  refine⟨h.1,?_⟩;have h:=h.2;generalize A.ev sl y=u at h⊢;unfold OW at h;split at h
  ·exact⟨h.1,h.2.1,h.2.2.1,a _ _ h.2.2.2⟩
  ·cases h
 case LP x=>
  generalize A.ev sl x=v at h⊢;unfold Ps at h;split at h
  ·simp only[Ps];generalize Dm _ _ _=o at h⊢;unfold UQ at h;split at h
   ·refine⟨h.1,h.2.1,?_⟩;have h:=h.2.2;generalize Dc _ _ _=o at h⊢;unfold UP at h;split at h
    ·refine⟨h.1,?_⟩;have h:=h.2;generalize AD _ _=o at h⊢;unfold aZ at h;split at h
     ·obtain⟨Y,d,g⟩:=h;exact⟨Y,d,a _ _ g⟩
     ·cases h
    ·cases h
   ·cases h
  ·cases h
 case Fq x y=>
  generalize A.ev sl y=v at h⊢;unfold NI at h;split at h<;>simp_all
 case MU x=>
  simp_all
 case KW x=>
  generalize A.ev sl x=v at h⊢;unfold MK at h;split at h
  ·simp only[MK];unfold M4 at h;split at h<;>simp_all
  ·cases h
 case KY=>exact Xsh a h
 case KZ=>exact Xsj a h
 case KS x=>
  generalize A.ev sl x=v at h⊢;unfold ME at h;split at h
  ·simp only[ME];unfold OG at h;split at h<;>simp_all
  ·cases h
 case Fy x y=>
  generalize A.ev sl x=v at h⊢;generalize A.ev sl y=u at h⊢;unfold KR at h;split at h
  ·simp only[KR];generalize AD _ _=o at h⊢;unfold N8 at h;split at h
   ·obtain⟨d,g,w,k,F,U,s,W,X⟩:=h;exact⟨d,g,w,k,F,U,s,W,a _ _ X⟩
   ·cases h
  ·simp_all
  ·cases h
 case call=>exact h.mono L
 case Bd=>exact h.mono λv=>a v ob
 case Ca=>exact h.mono a
 case C6 x l=>
  generalize A.ev sl x=v at h⊢;unfold Up at h;split at h
  ·exact⟨h.1,h.2.mono L⟩
  ·exact⟨h.1,h.2.mono L⟩
  ·exact⟨h.1,h.2.mono L⟩
  ·cases h
 case LW x=>
  generalize A.ev sl x=v at h⊢;generalize AD ob (SK v)=o at h⊢;unfold NS at h;split at h
  ·exact a _ _ h
  ·exact a _ _ h
  ·cases h
 case MV x=>
  generalize A.ev sl x=v at h⊢;unfold OY at h;split at h
  ·simp only[OY];generalize AD ob _=o at h⊢;unfold ND at h;split at h
   ·exact a _ _ h
   ·simp only[ND];generalize AD ob _=o at h⊢;unfold RX at h;split at h
    ·exact⟨h.1,λe=>a _ _ (h.2.1 e),λi d g=>a _ _ (h.2.2 i d g)⟩
    ·cases h
   ·cases h
  ·cases h
 case LJ x=>
  generalize A.ev sl x=v at h⊢;unfold OU at h;split at h
  ·simp only[OU];generalize AD ob _=o at h⊢;unfold Rb at h;split at h
   ·refine⟨h.1,?_⟩;have h:=h.2;generalize AD ob _=o at h⊢;unfold Ra at h;split at h
    ·exact⟨h.1,h.2.1,a _ _ h.2.2⟩
    ·cases h
   ·cases h
  ·cases h
 case FZ x=>
  generalize A.ev sl x=v at h⊢;unfold Lw at h;split at h
  ·simp only[Lw];generalize AD ob _=o at h⊢;unfold RU at h;split at h
   ·exact a _ _ h
   ·cases h
  ·exact a _ _ h
  ·cases h
 case JH e m x=>
  generalize A.ev sl x=v at h⊢;unfold Iy at h;split at h
  ·simp only[Iy];generalize AD ob _=o at h⊢;unfold SH at h;split at h
   ·exact a _ _ h
   ·cases h
  ·exact a _ _ h
  ·exact a _ _ h
  ·exact⟨a _ _ h.1,λe=>a _ _ (h.2 e)⟩
  ·simp only[Iy];generalize AD ob _=o at h⊢;unfold sJ at h;split at h
   ·exact⟨h.1,h.2.1,a _ _ h.2.2⟩
   ·exact⟨h.1,h.2.1,a _ _ h.2.2⟩
   ·cases h
  ·cases h
 case LN nm t f fl x l=>
  generalize A.ev sl x=v at h⊢;unfold Po at h;split at h
  ·refine⟨h.1,h.2.1,?_⟩;have h:=h.2.2;unfold OQ at h⊢;split at h
   ·exact h.mono L
   ·exact X5o (λu h=>Ylw (λr h=>h.mono L) h) h
  ·cases h
 case MT l=>
  generalize A.ev sl l=v at h⊢;unfold Pu at h;split at h
  ·exact⟨h.1,h.2.1,a _ _ h.2.2⟩
  ·cases h
 case Ma x y=>
  generalize A.ev sl x=v at h⊢;generalize A.ev sl y=u at h⊢;unfold Py at h;split at h
  ·simp only[Py];generalize AD ob _=o at h⊢;unfold cT at h;split at h
   ·exact⟨h.1,h.2.1,h.2.2.1,h.2.2.2.1,a _ _ h.2.2.2.2⟩
   ·cases h
  ·cases h
 case panic x=>
  generalize A.ev sl x=v at h⊢;unfold Ko at h;split at h<;>simp_all
 case JJ x=>
  generalize A.ev sl x=v at h⊢;unfold NM at h;split at h<;>simp_all
 case Fv x=>
  grind[A.ev,NC]
 case IZ r=>simp_all
 case MR=>simp_all
 case LZ x=>
  generalize A.ev sl x=v at h⊢;unfold L9 at h;split at h
  ·simp only[L9];generalize Dm _ _ _=o at h⊢;unfold OS at h;split at h
   ·exact⟨h.1,h.2.1,a _ _ h.2.2⟩
   ·cases h
  ·cases h
 case LR x y=>
  generalize A.ev sl x=v at h⊢;generalize A.ev sl y=u at h⊢;unfold ML at h;split at h
  ·simp only[ML];generalize AD _ _=o at h⊢;unfold OF at h;split at h
   ·exact⟨h.1,a _ _ h.2⟩
   ·cases h
  ·exact⟨h.1,a _ _ h.2⟩
  ·cases h
 case DP x y z=>
  generalize A.ev sl x=v at h⊢;generalize A.ev sl y=u at h⊢;unfold Lz at h;split at h
  ·simp only[Lz];generalize AD _ _=o at h⊢;unfold Ny at h;split at h
   ·exact⟨h.1,h.2.1,a _ _ h.2.2⟩
   ·cases h
  ·cases h
end
def Rg(c:Sg):Dw->Dw->Option (List (E×Bool))
|_,[]=>some []
|a,(g,b)::r=>match Dz c g with
 |some (q,e)=>if q.isPrefixOf a then (match Rg c (a++[(g,b)]) r with|some l=>some ((e,b)::l)|none=>none) else none
 |none=>none
def Zns(a:Sg)(f:E->E)(k:Nat):Option FJ:=match Dz a k with
|some (p,e)=>match Rg a [] p with
 |some l=>some (.An l (f e))
 |none=>none
|none=>none
def D8(a:Sg)(f:E->E):List Nat->Option (List FJ)
|[]=>some []
|k::r=>match Zns a f k,D8 a f r with
 |some c,some l=>some (c::l)
 |_,_=>none
def bw(e:E):E:=.ite e (.a (.bool true)) (.a (.bool true))
def F4(a:Sg)(k:Nat):Sg:=a.filter λx=>x.1 != k
def DU(a:Sg)(k:Nat):Bool:=a.all λx=>match x.2 with
|some (_,e)=>!e.Bg k
|none=>true
def UI(a:Sg):Bool:=a.all λx=>match x.2 with
|some (_,e)=>!e.rd
|none=>true
def Y6g(c:List Nat)(b:Sg)(k:Nat)(p:Dw):Sg:=if c.contains k||p.isEmpty then F4 b k else (k,some (p,.a (.t k)))::F4 b k
def Zsn(b:List Nat)(a:Sg)(k:Nat):Option (FJ×Sg):=match U8 a k with
|some (some (p,e))=>match Rg a [] p with
 |some l=>if DU (F4 a k) k then some (.lt k l e,Y6g b a k p) else none
 |none=>none
|_=>none
def UK(d:List Nat):List Nat->Sg->Option (List FJ×Sg)
|[],b=>some ([],b)
|k::r,b=>match Zsn d b k with
 |some (i,c)=>match UK d r c with
  |some (l,a)=>some (i::l,a)
  |none=>none
 |none=>none
def GS(a:List Nat):Sg->Sg
|[]=>[]
|(k,x)::r=>(if a.contains k then (k,x) else (k,none))::GS a r
def aX:List It->List Nat
|[]=>[]
|.op _ i::r=>i.BI++aX r
|.Ew g _ _ i::r=>g::(i.BI++aX r)
def Zi7(a:Sg)(s:List Nat)(d:Option Nat):List Nat:=(a.filter λx=>match x.2 with
|some (_,e)=>s.contains x.1||e.rd||(match d with|some k=>x.1 != k&&e.Bg k|none=>false)
|none=>false).map (·.1)
def It.d:It->Option Nat
|.op d _=>d
|.Ew _ _ d _=>d
def It.i:It->I
|.op _ i=>i
|.Ew _ _ _ i=>i
def It.path(a:Sg):It->Option (Dw×List Nat)
|.op _ _=>some ([],[])
|.Ew g b _ _=>match Dz a g with
 |some (q,_)=>some (q++[(g,b)],[g])
 |none=>none
def It.VM(l:List (E×Bool)):It->FJ
|.op d i=>.op d i
|.Ew _ _ d i=>.Ew l d i
def sE(a:Sg):Option Nat->Sg
|some k=>F4 a k
|none=>a
def rj(a:Sg)(p:Dw):Option Nat->Bool
|some k=>DU (F4 a k) k&&Pd (F4 a k) k&&Jo k p
|none=>true
def aJ(a:Sg):List Nat->Option (List (Nat×E))
|[]=>some []
|k::r=>match Dz a k,aJ a r with
 |some ([],e),some l=>some ((k,e)::l)
 |_,_=>none
def bK(e:E)(k:Nat)(l:List Nat):List Nat:=if e.tX then l else k::l
def Hm(o a h:List Nat):List It->Sg->List Nat->List Nat->Option (List FJ×List (Nat×E))
|[],b,f,g=>match D8 b id (f.filter λk=>!a.contains k),D8 b bw g,aJ b a with
 |some m,some n,some s=>some (m++n,s)
 |_,_,_=>none
|it::r,b,f,g=>match it.path b with
 |none=>none
 |some (p,q)=>match it.d,it.i.Af o b p with
  |some k,some e=>if Pd (F4 b k) k&&Jo k p&&!f.contains k&&!(q++g).contains k then
   Hm o a h r ((k,some (p,e))::F4 b k) (bK e k (f.filter λj=>!(it.i.cons b p).contains j)) ((q++g).filter λj=>!(it.i.G4 b p).contains j)
   else none
  |d,_=>match D8 b id f,D8 b bw (q++g) with
   |some m,some n=>match UK (it.i.BI++(h++a)) (Zi7 (GS (it.i.BI++(p.map (·.1)++(aX r++a))) b) it.i.BI d) (GS (it.i.BI++(p.map (·.1)++(aX r++a))) b) with
    |some (u,c)=>match Rg c [] p with
     |some l=>if (it.i.BI.all λk=>(U8 c k).isNone)&&rj c p d&&UI c&&(h.all λk=>(U8 c k).isNone) then
      match Hm o a h r (sE c d) [] []with
      |some (t,s)=>some (m++(n++(u++(it.VM l::t))),s)
      |none=>none
      else none
     |none=>none
    |none=>none
   |_,_=>none
section
variable {P:BE} {T:DW} {σ:Sg} {sl sl0:Xf} {ob:AE} {p:Dw} {K:Xf->AE->Prop} {Pn:V->Xf->AE->Prop}
def Jr(c:EI T σ sl sl0 ob):∀(r a:Dw) (l:List (E×Bool)),Rg σ a r=some l->X6 sl a=true->X6 sl r=Wu T sl0 ob l
|[],a,l,h,_=>by cases h;rfl
|(g,b)::r,a,l,h,d=>by
 simp only[Rg]at h;split at h
 ·rename_i q e f;split at h
  ·rename_i j;split at h
   ·rename_i m i;cases h;have k:=(c g q e f).1 (Xfx j d);simp only[X6,Wu,Mn,k];cases n:Ha b (e.val T sl0 ob) with
    |false=>rfl
    |true=>
     have:=Jr c r _ m i (by simp_all[Z1]);simp_all[X6,Wu]
   ·cases h
  ·cases h
 ·cases h
def Zz(i:EI T σ sl sl0 ob){f:E->E}:∀{n:List Nat}{d l:List FJ},D8 σ f n=some d->Dx P T K Pn (d++l) sl0 ob->
 (∀k∈n,∀p e,Dz σ k=some (p,e)->X6 sl p=true->(f e).ok T sl0 ob)/\Dx P T K Pn l sl0 ob
|[],d,l,h,g=>by simp_all[D8]
|k::r,d,l,h,g=>by
 simp only[D8]at h;split at h
 ·rename_i c y a t;cases h;unfold Zns at a;split at a
  ·rename_i p e s;split at a
   ·rename_i z u;cases a;obtain⟨x,o⟩:=Zz i t g.2;refine⟨λj m q w b v=>?_,o⟩;rcases Fb.mp m with rfl|m
    ·rw[s]at b;cases b;exact g.1 (by rw[<-Jr i _ _ _ u rfl];exact v)
    grind
   ·cases a
  ·cases a
 ·cases h
def Xfy:∀{σ:Sg}{k:Nat},U8 (F4 σ k) k=none
|[],_=>rfl
|(j,x)::r,k=>by
 have a:=Xfy (σ:=r) (k:=k);grind[F4,U8]
def Xfz{k j:Nat}(h:k≠j):∀{σ:Sg},U8 (F4 σ k) j=U8 σ j
|[]=>rfl
|(i,x)::r=>by
 have a:=Xfz h (σ:=r);grind[F4,U8]
theorem Xk9{k:Nat}:Dz (F4 σ k) k=some ([],.a (.t k)):=by simp[Dz,Xfy]
def Wi{k j:Nat}(h:k≠j):Dz (F4 σ k) j=Dz σ j:=by simp[Dz,Xfz h]
theorem Xls:∀{σ:Sg}{d k:Nat}{p:Dw}{e:E},DU σ d=true->U8 σ k=some (some (p,e))->e.Bg d=false
|[],_,_,_,_,_,h=>by simp[U8]at h
|(j,x)::r,d,k,p,e,a,h=>by
 simp only[DU,Mn,BX]at a;simp only[U8]at h;split at h
 ·simp_all
 ·exact Xls (σ:=r) a.2 h
theorem Xsp:∀{σ:Sg}{k:Nat}{p:Dw}{e:E},UI σ=true->U8 σ k=some (some (p,e))->e.rd=false
|[],_,_,_,_,h=>by simp[U8]at h
|(j,x)::r,k,p,e,a,h=>by
 simp only[UI,Mn,BX]at a;simp only[U8]at h;split at h
 ·simp_all
 ·exact Xsp (σ:=r) a.2 h
def xu{k:Nat}{e:E}(a:UI σ=true)(h:Dz σ k=some (p,e)):e.rd=false:=by
 unfold Dz at h;split at h
 ·cases h;rfl
 grind[Xsp]
def Xsn{d k:Nat}{e:E}(b:DU (F4 σ d) d=true)(a:d≠k)(h:Dz σ k=some (p,e)):e.Bg d=false:=by
 rw[<-Wi a]at h;grind[Dz,E.Bg,A.Bg,Xls]
def Xlm{H:List Nat}:∀{F:List Nat}{σ b:Sg}{sl0:Xf}{t l:List FJ},EI T σ sl sl0 ob->UK H F σ=some (t,b)->Dx P T K Pn (t++l) sl0 ob->∃d,EI T b sl d ob/\Dx P T K Pn l d ob
|[],σ,b,sl0,t,l,o,h,v=>by grind[UK]
|k::r,σ,b,sl0,t,l,o,h,v=>by
 simp only[UK]at h;split at h
 ·rename_i i J c;split at h
  ·rename_i N L w;cases h;unfold Zsn at c;split at c
   ·rename_i p e x;split at c
    ·rename_i G z;split at c
     ·rename_i y;cases c;refine Xlm ?_ w v.2;have s:=o k p e (by simp[Dz,x]);have u:=Jr o _ _ _ z rfl;have g:∀j q f,Dz (F4 σ k) j=some (q,f)->(X6 sl q=true->BG sl j=f.val T ((k,M7 (Wu T sl0 ob G) (e.val T sl0 ob))::sl0) ob)/\(X6 sl q=false->BG sl j=.undef):=by
       intro j q f a;by_cases m:k=j
       ·subst m;rw[Xk9]at a;cases a;simp only[X6,List.all_nil,E.val,A.ev,BG,CP];refine⟨λ_=>?_,λh=>(by cases h)⟩;rw[<-u];cases n:X6 sl p with
        |true=>rw[s.1 n];rfl
        |false=>rw[s.2 n];rfl
       ·rw[Wi m]at a;rw[IC (Xsn y m a)];exact o j q f a
      unfold Y6g;split
      ·exact g
      ·intro j q f a;by_cases m:k=j
       ·subst m;rw[Je]at a;cases a;simp only[E.val,A.ev,BG,CP];rw[<-u];exact⟨λn=>by rw[s.1 n,n];rfl,s.2⟩
       grind[W5]
     ·cases c
    ·cases c
   ·cases c
  ·cases h
 ·cases h
def wU{lv:List Nat}:∀{σ:Sg}{k:Nat}{e:E},Dz (GS lv σ) k=some (p,e)->Dz σ k=some (p,e)
|[],_,_,h=>h
|(j,x)::r,k,e,h=>by
 by_cases a:j=k
 ·grind[Je,GS]
 ·rw[W5 a];simp only[GS]at h;refine wU (lv:=lv) (σ:=r) ?_;grind[W5]
theorem EI.GS{b:List Nat}(a:EI T σ sl sl0 ob):EI T (GS b σ) sl sl0 ob:=λk p e h=>a k p e (wU h)
def EI.G3(d:EI T σ sl sl0 ob){k:Nat}{e:E}(f:Pd (F4 σ k) k=true)(i:Jo k p=true){v:V}(g:X6 sl p=true->v=e.val T sl0 ob)(h:X6 sl p=false->v=.undef):
 EI T ((k,some (p,e))::F4 σ k) ((k,v)::sl) sl0 ob:=by
 intro j q c a;by_cases b:k=j
 ·simp_all[Je,Qz]
 ·rw[W5 b]at a;rw[Qz (XV f a)];rw[Wi b]at a;simp only[BG,b,CR];exact d j q c a
def EI.VM(h:EI T σ sl sl0 ob){d:Option Nat}(f:rj σ p d=true)(i:UI σ=true){v:V}{b:AE}:EI T (sE σ d) (put sl d v) (put sl0 d v) b:=by
 cases d with
 |none=>
  intro j q e a;rw[E.CW (ob':=ob) (xu i a)];exact h j q e a
 |some k=>
  simp only[rj,BX]at f;intro j q e a;simp only[put,sE]at a⊢;by_cases g:k=j
  ·grind[Xk9,X6,E.val,A.ev,BG]
  ·have c:=a;rw[Qz (XV f.1.2 c)];rw[Wi g]at a;rw[IC (Xsn f.1.1 g a),E.CW (ob':=ob) (xu i a)];simp only[BG,g,CR];exact h j q e a
theorem eE(f:EI T σ sl sl0 ob):∀{a:List Nat} {c:List (Nat×E)},aJ σ a=some c->GY T sl0 ob c=X0 sl a/\(Uw T sl0 ob c->∀k∈a,∀p e,Dz σ k=some (p,e)->e.ok T sl0 ob)
|[],c,h=>by cases h;exact⟨rfl,λ_ _ h=>(by cases h)⟩
|k::r,c,h=>by
 simp only[aJ]at h;split at h
 ·rename_i e l g q;cases h;obtain⟨n,o⟩:=eE f q;refine⟨by simp only[GY,X0,n,(f k [] e g).1 rfl],λi j d p m b=>?_⟩;rcases Fb.mp d with rfl|d
  ·rw[g]at b;cases b;exact i.1
  ·exact o i.2 j d p m b
 ·cases h
def dr(T:DW)(σ:Sg)(a b:List Nat)(sl sl0:Xf)(ob:AE):Prop:=
 (∀k∈a,∀p e,Dz σ k=some (p,e)->X6 sl p=true->e.ok T sl0 ob)/\
 (∀k∈b,∀p e,Dz σ k=some (p,e)->X6 sl p=true->Kz (e.val T sl0 ob))
def Xsx{u:List Nat}{i:I}{k:Nat}{e:E}{l m:List Nat}{v:V}(z:EI T σ sl sl0 ob)(F:i.Af u σ p=some e)(n:Pd (F4 σ k) k=true)(y:Jo k p=true)(s:k∉l)(t:k∉m)
 (h:dr T ((k,some (p,e))::F4 σ k) (bK e k (l.filter λj=>!(i.cons σ p).contains j)) (m.filter λj=>!(i.G4 σ p).contains j) ((k,v)::sl) sl0 ob):
 dr T σ l m sl sl0 ob/\(X6 sl p=true->e.ok T sl0 ob):=by
 obtain⟨o,r⟩:=h;have f:X6 sl p=true->e.ok T sl0 ob:=λG=>by
  cases w:e.tX with
  |true=>cases e<;>simp[E.tX]at w;trivial
  |false=>simp_all[bK,Je,Qz]
 refine⟨⟨λj d q c a g=>?_,λj d q c a g=>?_⟩,f⟩
 ·by_cases x:j∈i.cons σ p
  ·grind[I.tR]
  ·have b:k≠j:=λe=>s (e▸d);refine o j ?_ q c (by simp_all[W5,Wi]) ?_
   ·grind[bK]
   ·rw[Qz];exact g;exact XV n (by rw[Wi b];exact a)
 ·by_cases x:j∈i.G4 σ p
  ·grind[Rcp]
  ·have b:k≠j:=λe=>t (e▸d);refine r j ?_ q c (by simp_all[W5,Wi]) ?_
   ·simp_all
   ·rw[Qz];exact g;exact XV n (by rw[Wi b];exact a)
def Ygj{J d U:List Nat}:∀(z:List It){σ:Sg}{q s:List Nat}{sl sl0:Xf}{ob:AE}{l:List FJ} {m:List (Nat×E)},EI T σ sl sl0 ob->Hm J d U z σ q s=some (l,m)->
 Dx P T (λsl ob=>Uw T sl ob m/\K (GY T sl ob m) ob) Pn l sl0 ob->dr T σ q s sl sl0 ob
|[],σ,q,s,sl,sl0,ob,l,m,c,h,b=>by
 simp only[Hm]at h;split at h
 ·rename_i n o Q w x L;cases h;obtain⟨t,b⟩:=Zz c w b;obtain⟨u,b⟩:=Zz c (l:=[]) x (by simpa using b);simp only[Dx]at b;obtain⟨_,W⟩:=eE c L;refine⟨λk i p e f g=>?_,λk i p e f g=>(u k i p e f g).2.1⟩;by_cases O:k∈d
  ·grind
  ·exact t k (by simp[i,O]) p e f g
 ·cases h
|it::r,σ,q,s,sl,sl0,ob,l,m,c,h,b=>by
 simp only[Hm]at h;split at h
 ·cases h
 ·rename_i p X g;split at h
  ·rename_i k e Y f;split at h
   next F=>simp only[BX,JQ,List.contains_eq_mem,S0]at F;obtain⟨⟨⟨n,o⟩,G⟩,H⟩:=F;have y:=c.G3 (e:=e) n o (v:=M7 (X6 sl p) (e.val T sl0 ob)) (λh=>by rw[h];rfl) (λh=>by rw[h];rfl);obtain⟨a,_⟩:=Xsx c f n o G H (Ygj r y h b);exact⟨a.1,λj N=>a.2 j (FM.mpr (.inr N))⟩
   ·cases h
  ·split at h
   ·rename_i n o w x;split at h
    ·split at h
     ·split at h
      ·split at h
       ·cases h;obtain⟨t,b⟩:=Zz c w b;obtain⟨u,b⟩:=Zz c x b;exact⟨t,λk i p e f g=>(u k (FM.mpr (.inr i)) p e f g).2.1⟩
       ·cases h
      ·cases h
     ·cases h
    ·cases h
   ·cases h
end
end Go.Ab
