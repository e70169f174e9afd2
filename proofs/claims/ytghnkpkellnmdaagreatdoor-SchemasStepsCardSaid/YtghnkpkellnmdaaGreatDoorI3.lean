/- Joined texts, part 3 of 13. Regions folded into expressions: the fold itself, and that it Xpj what is shown. Over any program; no condition. -/
import Derived.Test.YtghnkpkellnmdaaGreatDoorI1
import Derived.Test.YtghnkpkellnmdaaGreatDoorI2
import Derived.Tactics
import Derived.RangeFuncIn
set_option linter.unusedSimpArgs false
set_option linter.unusedVariables false
set_option linter.unusedSectionVars false
set_option linter.defProp false
namespace Go.Ab
open Go
section
variable {P:Program} {ops:Array Oper} {Q:Exit->Act->World->Prop} {md:Region.Mode} {R:Nat->World->World->Prop}
def Uf(P:Program)(md:Region.Mode)(ops:Array Oper)(Q:Exit->Act->World->Prop)(R:Nat->World->World->Prop):Nat->Array Bool->Act->World->Prop
|0,b,a,w=>Region.ready md ops b=[]/\Q .normal a w
|c+1,b,a,w=>
 (Region.ready md ops b=[]->Q .normal a w)/\
 ∀i∈Region.ready md ops b,HU P ops Q i (λe d=>R i w d/\Uf P md ops Q R c (b.setIfInBounds i true) e d) a w
def dF:∀(b:Nat)(c:Array Bool)(a:Act)(w:World),Uf P md ops Q R b c a w->S6 P md ops Q b c a w
|0,_,_,_,h=>h
|b+1,_,_,_,h=>⟨h.1,λi f=>Qc (λd g e=>dF b _ d g e.2) (h.2 i f)⟩
def cO:∀(n m:Nat)(b:Array Bool)(a:Act)(w:World),n<=m->S6 P md ops Q n b a w->S6 P md ops Q m b a w
|0,0,_,_,_,_,h=>h
|0,m+1,_,_,_,_,h=>⟨λ_=>h.2,λi c=>by rw[h.1]at c;cases c⟩
|n+1,0,_,_,_,d,_=>by omega
|n+1,m+1,_,_,_,d,h=>⟨h.1,λi c=>Qc (λe g f=>cO n m _ e g (by omega) f) (h.2 i c)⟩
def M8(md:Region.Mode)(ops:Array Oper)(a:Array Bool):Prop:=
 ∀k o,ops[k]? = some o->a.getD k false=true->∀e∈o.after,Region.binds md e=true->a.getD e.on false=true
def M8.step{a:Array Bool}(h:M8 md ops a){j:Nat}(m:j∈Region.ready md ops a):M8 md ops (a.setIfInBounds j true):=by
 obtain⟨_,n,f,b⟩:=mem_ready.1 m;intro k o d l e i g;by_cases c:j=k
 ·subst c;rw[f]at d;simp at d;subst d;exact getD_set_true (b e i g)
 ·rw[getD_set_ne false c]at l;exact getD_set_true (h k o d l e i g)
def Qv(md:Region.Mode)(ops:Array Oper)(i:Nat):Nat->Nat->Bool
|0,_=>false
|a+1,j=>match ops[j]? with
 |some o=>o.after.any λe=>Region.binds md e&&(e.on==i||Qv md ops i a e.on)
 |none=>false
def wI{a:Array Bool}(f:M8 md ops a){i:Nat}:∀(b k:Nat),Qv md ops i b k=true->a.getD k false=true->a.getD i false=true
|0,k,h,_=>by simp[Qv]at h
|b+1,k,h,j=>by
 simp only[Qv]at h;split at h
 ·rename_i o l;rw[Array.any_eq_true']at h;obtain⟨e,g,h⟩:=h;simp only[BB,PZ,C9]at h;have d:=f k o l j e g h.1;rcases h.2 with c|c
  ·rw[<-c];exact d
  ·exact wI f b e.on c d
 ·simp at h
def Xcg{a:Array Bool}(m:M8 md ops a){i j b:Nat}(l:a.getD i true=false)(h:Qv md ops i b j=true):j∉Region.ready md ops a:=by
 intro p;obtain⟨_,o,q,d⟩:=mem_ready.1 p;cases b with
 |zero=>simp[Qv]at h
 |succ b=>
  simp only[Qv,q]at h;rw[Array.any_eq_true']at h;obtain⟨e,n,h⟩:=h;simp only[BB,PZ,C9]at h;have k:=d e n h.1;have c:a.getD i false=true:=by
   rcases h.2 with g|g
   ·rw[<-g];exact k
   ·exact wI m b e.on g k
  rcases Fo i a.size with f|f
  ·simp[f]at l c;rw[l]at c;cases c
  ·simp[UB f]at c
def X3c{S b:World->Prop}{o:Oper}{v:Value}{a:Act}(h:YieldsIf P ops S o v a)(e:∀w,b w->S w):YieldsIf P ops b o v a:=
 h.imp (λ⟨c,d⟩=>⟨c,λw f=>d w (e w f)⟩) id
def Ut{S:World->World->Prop}(p:∀w,S w w)(t:∀u v w,S u v->S v w->S u w){l:Bool}{i:Nat}{G:Oper}{v:Value}(hi:ops[i]? = some G)(y:∀(j:Nat)(o:Oper) L b,ops[j]? = some o->o.op≠.select L b)
 (hQ:∀c a w,Q (.panic c) (a.put G.dst v) w->Q (.panic c) a w) (hl:l=true->∀j,j<ops.size->j≠i->(∃f,Qv md ops i f j=true)\/∀u v,R j u v->S u v) (q:∀w,R i w w):
 ∀(f:Nat)(d:Array Bool)(a:Act)(w:World),M8 md ops d->
  (∀j J,ops[j]? = some J->j≠i->d.getD j true=false->(∀e∈J.after,Region.binds md e=true->e.on≠i)->G.apart ops J=true)->
  i∈Region.ready md ops d->YieldsIf P ops (λw'=>l=true->S w w') G v a->
  Uf P md ops Q R f (d.setIfInBounds i true) (a.put G.dst v) w->Uf P md ops Q R (f+1) d a w:=by
 intro f;induction f with
 |zero=>
  intro d a w _ _ F Z H;refine⟨λh=>(by rw[h]at F;cases F),λj K=>?_⟩;by_cases g:j=i
  ·subst g;exact ye hi Z (λ_=>p w) ⟨q w,H⟩
  ·have:=ready_mono K g;rw[H.1]at this;cases this
 |succ f ih=>
  intro d a w O m F Z H;refine⟨λh=>(by rw[h]at F;cases F),λj K=>?_⟩;by_cases g:j=i
  ·subst g;exact ye hi Z (λ_=>p w) ⟨q w,H⟩
  ·have z:=H.2 j (ready_mono K g);obtain⟨x,J,s,N⟩:=mem_ready.1 K;have n:=(mem_ready.1 F).1;have U:∀e∈J.after,Region.binds md e=true->e.on≠i:=λe he hb aa=>by
    have z:=N e he hb;rw[aa]at z;rcases Fo i d.size with h'|h'
    ·simp[h']at n z;rw[n]at z;cases z
    ·simp[UB h']at z
   have h2:=Xxi s (m j J s g x U) (λL b=>y i G L b hi) (λL b=>y j J L b s) hQ Z z;have r:∀k X,ops[k]? = some X->k≠i->(d.setIfInBounds j true).getD k true=false->
    (∀e∈X.after,Region.binds md e=true->e.on≠i)->G.apart ops X=true:=λk X hk ab W ac=>by
    refine m k X hk ab ?_ ac;by_cases T:j=k
    ·subst T;exact x
    ·rw[getD_set_ne true T]at W;exact W
   refine Qc (λa' w' Y=>⟨Y.2.1,ih (d.setIfInBounds j true) a' w' (O.step K) r (ready_mono F (Ne.symm g)) (X3c Y.1 λad h4 h5=>?_) ?_⟩) h2
   ·have hR:S w w':=by
     rcases hl h5 j (Array.getElem?_eq_some_iff.1 s).1 g with⟨fl,hw⟩|hs
     ·exact absurd K (Xcg O n hw)
     ·exact hs _ _ Y.2.1
    exact t _ _ _ hR (h4 h5)
   ·rw[Array.setIfInBounds_comm _ _ g];exact Y.2.2
end
def put(a:Xe)(d:Option Nat)(v:V):Xe:=match d with
|some k=>(k,v)::a
|none=>a
inductive It where
|op (d:Option Nat) (i:I)
|Eu (s:Nat) (want:Bool) (d:Option Nat) (i:I)
def Fw(s:Nat)(a:Bool)(c:Xe)(Y N:Xe->Prop):V->Prop
|.d (.bool b)=>(b=a->Y ((s,.d (.bool a))::c))/\(b=!a->N ((s,.d (.bool (!a)))::c))
|.undef=>N c
|_=>False
def Dg(P:BA)(K:Xe->AF->Prop)(e:V->Xe->AF->Prop):List It->Xe->AF->Prop
|[],b,c=>K b c
|.op d i::r,b,c=>i.wp P b c (λv a=>Dg P K e r (put b d v) a) (λv a=>e v b a)
|.Eu s f d i::r,b,c=>Fw s f b (λb=>i.wp P b c (λv a=>Dg P K e r (put b d v) a) (λv a=>e v b a)) (λb=>Dg P K e r (put b d .undef) c) (A7 b s)
mutual
inductive Ot where
|done
|BW (i:Nat) (x:It) (r:Ot)
|br (l:GD)
inductive GD where
|nil
|cons (i:Nat) (x:It) (r:Ot) (l:GD)
end
def F7(P:BA)(next:Xe->AF->Prop)(f:V->Xe->AF->Prop):It->Xe->AF->Prop
|.op d i,b,e=>i.wp P b e (λv a=>next (put b d v) a) (λv a=>f v b a)
|.Eu s c d i,b,e=>Fw s c b (λb=>i.wp P b e (λv a=>next (put b d v) a) (λv a=>f v b a)) (λb=>next (put b d .undef) e) (A7 b s)
mutual
def EZ(P:BA)(K:Xe->AF->Prop)(c:V->Xe->AF->Prop):Ot->Xe->AF->Prop
|.done,b,a=>K b a
|.BW _ x r,b,a=>F7 P (EZ P K c r) c x b a
|.br l,b,a=>H9 P K c l b a
def H9(P:BA)(K:Xe->AF->Prop)(a:V->Xe->AF->Prop):GD->Xe->AF->Prop
|.nil,_,_=>True
|.cons _ x r l,c,b=>F7 P (EZ P K a r) a x c b/\H9 P K a l c b
end
inductive S where
|rg (ord:List Nat) (l:List It) (keep pk:List Nat)
|Gc (n:Nat) (t:Ot) (keep pk:List Nat)
|seq (a b:S)
|skip
|cond (c:A) (a b:S)
|block (n:Nat) (a:S)
|loop (keep:List Nat) (a:S)
|exit (n:Nat)
|ret
 |IJ (tag:Nat) (ps:List Nat) (g:A) (x y:S) (keep:List Nat)
def S.Fh:S->Bool
|.seq a b=>a.Fh&&b.Fh
|.cond _ a b=>a.Fh&&b.Fh
|.block _ a=>a.Fh
|.loop _ a=>a.Fh
|.IJ _ _ _ _ _ _=>false
|_=>true
inductive Hn where
|normal
|exit (n:Nat)
|ret
|panic (v:V)
abbrev Zi:=Hn->Xe->AF->Prop
def Wh(next:Xe->AF->Prop)(Q:Zi):Zi
|.normal,b,a=>next b a
|.exit n,b,a=>Q (.exit n) b a
|.ret,b,a=>Q .ret b a
|.panic v,b,a=>Q (.panic v) b a
def Zs(id:Nat)(Q:Zi):Zi
|.normal,b,a=>Q .normal b a
|.exit n,b,a=>if n=id then Q .normal b a else Q (.exit n) b a
|.ret,b,a=>Q .ret b a
|.panic v,b,a=>Q (.panic v) b a
def Hy(Y N:Prop):V->Prop
|.d (.bool t)=>(t=true->Y)/\(t=false->N)
|_=>False
def Xy(a:Xe):List Nat->Xe
|[]=>[]
|k::r=>(k,A7 a k)::Xy a r
mutual
def V.BQ(c:Nat->Bool):V->Bool
|.ptr id _=>c id
|.sl id _=>c id
|.sd id _=>c id
|.mp id=>c id
|.hd _ id=>c id
|.ep id _ _ _ _ _=>c id
|.bs id _ _ _=>c id
|.fn _ a b=>BY c a||BY c b
|.agg d=>BY c d
|.iface _ v=>V.BQ c v
|.BT d=>BY c d
|_=>false
def BY(a:Nat->Bool):List V->Bool
|[]=>false
|x::r=>V.BQ a x||BY a r
end
def Xk(a:Nat->Bool):AF->AF
|[]=>[]
|(j,x)::r=>if a j then Xk a r else (j,x)::Xk a r
def Z0(a:Nat->Bool):Xe->Bool
|[]=>true
|(_,v)::r=>!V.BQ a v&&Z0 a r
def Zd(a:Nat->Bool):List (D×V)->Bool
|[]=>false
|(_,v)::r=>V.BQ a v||Zd a r
def mN(a:Nat->Bool):Option Nat->Bool
|some j=>a j
|none=>false
def AI(a:Nat->Bool):AF->Bool
|[]=>true
|(_,.box _ t)::r=>!V.BQ a t&&AI a r
|(_,.Ay _ _ d)::r=>!BY a d&&AI a r
|(_,.map b)::r=>!Zd a b&&AI a r
|(_,.lp _ _ c)::r=>Z0 a c&&AI a r
|(_,.it m _ _)::r=>!mN a m&&AI a r
|_::r=>AI a r
def AD(n:Nat)(a:List Nat)(id:Nat):Bool:=decide (n<=id)&&!a.contains id
def Wk(d b:AF):Prop:=∀w c,OM w c d->∃a,Tr w c w a/\OM w a b
def Wk.refl(a:AF):Wk a a:=λw b h=>⟨b,Tr.refl w b,h⟩
def Wk.trans{a b c:AF}(h:Wk a b)(f:Wk b c):Wk a c:=λw l o=>by
 obtain⟨d,j,g⟩:=h w l o;obtain⟨e,k,i⟩:=f w d g;exact⟨e,j.trans k,i⟩
def sub(a:List Nat)(n:Nat)(K:Xe->AF->Prop)(d:Xe)(e:AF):Prop:=
 ∃(c:List Nat) (b:AF),Wk e b/\Z0 (AD n c) (Xy d a)=true/\AI (AD n c) (Xk (AD n c) b)=true/\K (Xy d a) (Xk (AD n c) b)
structure Au(keep:List Nat)(body:Zi->Xe->AF->Prop)(Q:Zi)(sl:Xe)(ob:AF):Prop where
 run:∃(ι:Type) (S:ι->Xe) (O:ι->AF) (I:ι->Prop) (μ:ι->Nat) (i0:ι),I i0/\Xy sl keep=S i0/\Wk ob (O i0)/\
  ∀i,I i->body (Wh (sub keep (AA (O i)) λsl' ob'=>∃j,I j/\μ j<μ i/\sl'=S j/\ob'=O j) Q) (S i) (O i)
def Ic(N:Nat):Option Nat->Option Nat->Bool
|some k,some j=>k==j&&decide (k<N)
|none,none=>true
|_,_=>false
def It.Ak(P:Program)(N:Nat)(c:Array Oper)(o:Oper):It->Bool
|.op d i=>Ic N o.dst d&&o.guard.isNone&&i.Ak P o.op
|.Eu s a d i=>Ic N o.dst d&&(match o.guard with
 |some (j,b)=>b==a&&(match c[j]? with|some e=>e.dst==some s|none=>false)
 |none=>false)&&i.Ak P o.op
def Vo(P:Program)(N:Nat)(a:Array Oper):List Oper->List It->Bool
|[],[]=>true
|o::r,i::s=>i.Ak P N a o&&Vo P N a r s
|_,_=>false
def It.kind:It->Nat
|.op _ i=>i.kind
|.Eu _ _ _ i=>i.kind
def Yjk:List Nat->List It->Nat->Nat
|i::r,x::s,j=>if i=j then x.kind else Yjk r s j
|_,_,_=>3
def S5(a:Array Oper)(i j:Nat):Bool:=Qv .any a i 1 j||Qv .any a i 2 j||Qv .any a i 3 j||Qv .any a i 4 j||Qv .any a i 5 j||Qv .any a i a.size j
def yr{b:Array Oper}{i j:Nat}(h:S5 b i j=true):∃a,Qv .any b i a j=true:=by
 simp only[S5,PZ]at h;rcases h with ((((h|h)|h)|h)|h)|h<;>exact⟨_,h⟩
def OY(P:Program)(N:Nat)(b:Array Oper)(c:Nat->Nat)(a:Array Bool):List Nat->List It->Bool
|[],[]=>(Region.ready .any b a).isEmpty
|i::r,x::s=>(Region.ready .any b a).contains i&&(match b[i]? with|some o=>x.Ak P N b o|none=>false)&&x.kind==c i&&
 (match x.kind with
 |0=>Region.free .any b a i
 |5=>Region.free .any b a i
 |1=>Region.free .any b a i&&(List.range b.size).all (λj=>c j != 3||j==i||S5 b i j)
 |_=>(Region.ready .any b a)==[i])&&
 OY P N b c (a.setIfInBounds i true) r s
|_,_=>false
mutual
def Ot.kinds:Ot->List (Nat×Nat)
|.done=>[]
|.BW i x r=>(i,x.kind)::r.kinds
|.br l=>l.kinds
def GD.kinds:GD->List (Nat×Nat)
|.nil=>[]
|.cons i x r l=>(i,x.kind)::(r.kinds++l.kinds)
end
def ZX:List (Nat×Nat)->Nat->Nat
|[],_=>3
|(i,k)::r,j=>if i=j then k else ZX r j
def GD.has(j:Nat):GD->Bool
|.nil=>false
|.cons i _ _ l=>i==j||l.has j
mutual
def Vn(P:Program)(N:Nat)(b:Array Oper)(c:Nat->Nat):Nat->Array Bool->Ot->Bool
|0,a,.done=>(Region.ready .any b a).isEmpty
|n+1,a,.BW i x r=>(Region.ready .any b a).contains i&&(match b[i]? with|some o=>x.Ak P N b o|none=>false)&&x.kind==c i&&
 (match x.kind with
 |0=>Region.free .any b a i
 |5=>Region.free .any b a i
 |1=>Region.free .any b a i&&(List.range b.size).all (λj=>c j != 3||j==i||S5 b i j)
 |_=>(Region.ready .any b a)==[i])&&
 Vn P N b c n (a.setIfInBounds i true) r
|n+1,a,.br l=>!(Region.ready .any b a).isEmpty&&(Region.ready .any b a).all (λj=>l.has j)&&OH P N b c n a l
|_,_,_=>false
def OH(P:Program)(N:Nat)(b:Array Oper)(c:Nat->Nat):Nat->Array Bool->GD->Bool
|_,_,.nil=>true
|n,a,.cons i x r l=>(Region.ready .any b a).contains i&&(match b[i]? with|some o=>x.Ak P N b o|none=>false)&&x.kind==c i&&Vn P N b c n (a.setIfInBounds i true) r&&OH P N b c n a l
end
def SQ(b:List Nat)(a:Array Oper):Bool:=a.toList.all λo=>match o.dst with
|some d=>!b.contains d
|none=>true
def WU(a:Array Oper):Bool:=a.toList.all λo=>match o.op with
|.defer _=>false
|_=>true
def S.Ak(P:Program)(N:Nat):Code->S->Bool
|.skip,.skip=>true
|.region _ e h,.rg i l _ j=>WU e&&if h then decide (i.length<=e.size)&&Region.noSelect e&&SQ j e&&OY P N e (Yjk i l) (Array.replicate e.size false) i l else Vo P N e e.toList l
|.region _ e h,.Gc n t _ j=>WU e&&h&&decide (n<=e.size)&&Region.noSelect e&&SQ j e&&Vn P N e (ZX t.kinds) n (Array.replicate e.size false) t
|.seq a b,.seq x y=>S.Ak P N a x&&S.Ak P N b y
|.cond c a b,.cond d x y=>A.Ak c d&&S.Ak P N a x&&S.Ak P N b y
|.block n a,.block m x=>n==m&&S.Ak P N a x
|.loop a,.loop _ x=>S.Ak P N a x
|.exit n,.exit m=>n==m
|.ret,.ret=>true
|.rangeFunc f p a c,.IJ _ o g x y _=>A.Ak f g&&((p.toList==o)&&o.all (λk=>decide (k<N))&&S.Ak P N a x&&S.Ak P N c y&&x.Fh&&y.Fh)
|_,_=>false
def OJ(P:BA)(a:Nat)(d:List Nat)(x y:S):Prop:=∀(e:Array Nat)(N:Nat)(b c:Code),P.g.l a e N b c↔((e.toList==d)&&d.all (λk=>decide (k<N))&&S.Ak P.p N b x&&S.Ak P.p N c y&&x.Fh&&y.Fh)=true
def Rj(Q:Zi)(a:Xe)(id:Nat)(b:AF):Option Ob->Prop
|some (.lp _ .ready _)=>Q .normal a (AG b id .An)
|some (.lp _ .ret _)=>Q .ret a (AG b id .An)
|some (.lp _ (.exit n) _)=>Q (.exit n) a (AG b id .An)
|_=>False
def Ll(Q:Zi)(a:Xe)(id:Nat):BN->AF->Prop
|.ret _,b=>Rj Q a id b (AB b id)
|.panic _,_=>False
def Mr(P:BA)(c:Nat)(a:Xe)(b:AF)(Q:Zi):V->Prop
|.fn f g e=>Xd P.p f=true/\AX P f (g++[.hd true (AA b)]++e) ((AA b,.lp c .ready a)::b) (Ll Q a (AA b))
|.d (.fn f g e)=>Xd P.p f=true/\AX P f (g.map .d++[.hd true (AA b)]++e.map .d) ((AA b,.lp c .ready a)::b) (Ll Q a (AA b))
|_=>False
def Dj(P:BA):S->Zi->Xe->AF->Prop
|.rg _ l f i,Q,d,e=>Dg P (λd e=>Q .normal (Xy d f) e) (λv d e=>Q (.panic v) (Xy d i) e) l d e
|.Gc _ t f i,Q,d,e=>EZ P (λd e=>Q .normal (Xy d f) e) (λv d e=>Q (.panic v) (Xy d i) e) t d e
|.seq a b,Q,d,e=>Dj P a (Wh (Dj P b Q) Q) d e
|.skip,Q,d,e=>Q .normal d e
|.cond c a b,Q,d,e=>Hy (Dj P a Q d e) (Dj P b Q d e) (c.ev d)
|.block n a,Q,d,e=>Dj P a (Zs n Q) d e
|.loop f a,Q,d,e=>Au f (Dj P a) Q d e
|.exit n,Q,d,e=>Q (.exit n) d e
|.ret,Q,d,e=>Q .ret d e
|.IJ h j g x y f,Q,d,e=>OJ P h j x y/\Mr P h (Xy d f) e Q (g.ev d)
structure Dz where
 w0:World
 ex:Nat->Prop
 N:Nat
 df:List Deferred
 g:Gl
 m0:Nat->Option RO
 ev:List (V×Value)
 O8:Bool:=false
def A9.CY(b:A9)(a:Nat->Bool):A9:=⟨λj=>if a j then none else b.m j,b.xo,b.gl⟩
def Hi(r:Nat):Deferred:={target:=.collected r,args:=#[] }
def FA(c:Dz)(w:World)(d:A9)(b:List Deferred):Prop:=
 ∃a:List Nat,b=a.map Hi++c.df/\(c.O8=false->a=[])/\a.Nodup/\∀r∈a,c.w0.heap.size<=r/\w.heap[r]? = some (.deferred (some []))/\¬FD d r
def FA.tr{c:Dz}{w g:World}{ρ a:A9}{d:List Deferred}(h:FA c w ρ d)(t:Tr w ρ g a):FA c g a d:=by
 obtain⟨o,j,k,l,m⟩:=h;refine⟨o,j,k,l,λr n=>?_⟩;obtain⟨i,e,f⟩:=m r n;have b:r<w.heap.size:=Xl e;exact⟨i,(t.keep r f b).trans e,λh=>(t.DF r h).elim f (λh=>by omega)⟩
def FA.put{c:Dz}{w:World}{d:A9}{a b:Act}(h:FA c w d a.defers)(e:b.defers=a.defers):FA c w d b.defers:=by rw[e];exact h
def FA.CY{c:Dz}{w:World}{d:A9}{g:List Deferred}{a:Nat->Bool}(h:FA c w d g)(l:∀b,FD (d.CY a) b->FD d b):FA c w (d.CY a) g:=by
 obtain⟨m,i,j,k,e⟩:=h;exact⟨m,i,j,k,λr f=>⟨(e r f).1,(e r f).2.1,λh=>(e r f).2.2 (l r h)⟩⟩
def FA.nil{c:Dz}{w:World}{a:A9}:FA c w a c.df:=⟨[],rfl,λ_=>rfl,List.nodup_nil,λ_ h=>by cases h⟩
def FA.eq{c:Dz}{w:World}{f:A9}{a:List Deferred}(h:FA c w f a)(e:c.O8=false):a=c.df:=by
 obtain⟨g,b,d,_⟩:=h;rw[b,d e];rfl
structure JT(c:Dz)(w:World)(ρ:A9):Prop where
 size:c.w0.heap.size<=w.heap.size
 keep:∀b,b<c.w0.heap.size->¬c.ex b->w.heap[b]? = c.w0.heap[b]?
 DF:∀b,FD ρ b->c.w0.heap.size<=b\/c.ex b
 tape:w.tape=c.w0.tape
 os:w.os=c.w0.os
 Ck:w.output=c.w0.output
 same:∀id o,c.m0 id=some o->∃o',ρ.m id=some o'/\o.le o'
 ext:∀p∈c.ev,p.1.Ax w ρ p.2
 drawn:c.w0.drawn<=w.drawn
def JT.tr{c:Dz}{w i:World}{ρ e:A9}(h:JT c w ρ)(t:Tr w ρ i e):JT c i e:=by
 refine⟨IQ h.size t.size,λb d f=>?_,λb d=>?_,t.tape.trans h.tape,t.os.trans h.os,t.Ck.trans h.Ck,λid o d=>?_,λp l=>Gw t (h.ext p l),IQ h.drawn t.drawn⟩
 ·refine(t.keep b (λa=>?_) (OD d h.size)).trans (h.keep b d f)
  exact(h.DF b a).elim (λh=>by omega) f
 ·rcases t.DF b d with a|a
  ·exact h.DF b a
  ·exact .inl (IQ h.size a)
 ·obtain⟨m,f,a⟩:=h.same id o d
  obtain⟨g,j,k⟩:=t.same id m f;exact⟨g,j,a.trans k⟩
structure DM(c:Dz)(xo:Nat->Prop)(ρ:A9)(sl:Xe)(ob:AF)(a:Act)(w:World):Prop where
 A1:JT c w ρ
 om:OM w ρ ob
 sm:SM w ρ sl a
 size:a.tmps.size=c.N
 df:FA c w ρ a.defers
 xo:ρ.xo=xo
 gl:ρ.gl=c.g
def Dx(w:World)(b:A9):Exit->Hn->Prop
|.normal,.normal=>True
|.exit n,.exit m=>n=m
|.ret,.ret=>True
|.panic a,.panic v=>∃u,a=[{v:=u,recovered:=false}]/\v.Ax w b u
|_,_=>False
def AZ(c:Dz)(h:Nat->Prop)(Q:Zi):Exit->Act->World->Prop:=
 λe a w=>∃b f d g,Q b f d/\Dx w g e b/\DM c h g f d a w
def X1{w:World}{c:A9}{h:Xe}{a:Act}{d:Option Nat}{x:V}{v:Value}{N:Nat}{o:Option Nat}(b:Ic N o d=true)(f:a.tmps.size=N)(g:SM w c h a)(l:x.Ax w c v):
 SM w c (put h d x) (a.put o v)/\(a.put o v).tmps.size=N/\(a.put o v).defers=a.defers:=by
 cases o with
 |none=>
  cases d with
  |none=>exact⟨g,f,rfl⟩
  |some j=>simp[Ic]at b
 |some k=>
  cases d with
  |none=>simp[Ic]at b
  |some j=>
   simp only[Ic,BB,C9,DK]at b;obtain⟨rfl,m⟩:=b;refine⟨λi=>?_,by simpa[Act.put]using f,rfl⟩;simp only[put,A7,Act.put];split
   ·rename_i e;subst e
    have:k<a.tmps.size:=by omega
    simpa[this]using l
   ·rename_i e
    have:=g i;simpa[UE,e]using this
def Xq0{c:Array Oper}{a:Act}{j s:Nat}{f:Oper}{b:Bool}(g:c[j]? = some f)(i:f.dst=some s)(d:a.tmps.getD s undef=.bool b):yielded c a.tmps j=some b:=by
 have e:s<a.tmps.size:=by
  rcases Fo s a.tmps.size with h|h
  ·exact h
  ·simp[Array.getD,Nat.not_lt.2 h,undef]at d
 simp only[Array.getD,e,dif_pos]at d;have:a.tmps[s]? = some (.bool b):=by rw[R4 e];exact Cc some d
 simp[yielded,g,i,this]
def Xnt{b:Array Oper}{a:Act}{j s:Nat}{g:Oper}(d:b[j]? = some g)(e:g.dst=some s)(f:a.tmps.getD s undef=undef):yielded b a.tmps j=none:=by
 rcases Fo s a.tmps.size with c|c
 ·simp only[Array.getD,c,dif_pos]at f
  have:a.tmps[s]? = some (.tuple #[]):=by rw[R4 c];exact Cc some f
  simp[yielded,d,e,this]
 ·have:a.tmps[s]? = none:=UB c
  simp[yielded,d,e,this]
def Ww{w:World}{q:A9}{p:Xe}{a:Act}{ops:Array Oper}{o:Oper}{s:Nat}{i:Bool}{Y N:Xe->Prop}(v:SM w q p a)
 (g:(match o.guard with|some (j,b)=>b==i&&(match ops[j]? with|some x=>x.dst==some s|none=>false)|none=>false)=true)
 (h:Fw s i p Y N (A7 p s)):
 (Region.wanted o (yielded ops a.tmps)=true/\∃f,SM w q f a/\Y f)\/(Region.wanted o (yielded ops a.tmps)=false/\∃f,SM w q f a/\N f):=by
 split at g
 ·rename_i j b u
  simp only[BB,C9]at g;obtain⟨rfl,g⟩:=g;split at g
  ·rename_i x z
   have y:x.dst=some s:=by simpa using g
   have l:=v s;have m:∀c:Bool,a.tmps.getD s undef=.bool c->SM w q ((s,.d (.bool c))::p) a:=λc F k=>by
    simp only[A7];split
    next e=>subst e;rw[F];exact BR.2 rfl
    ·exact v k
   unfold Fw at h;split at h
   ·rename_i c e
    rw[e,BR]at l;have n:=Xq0 (a:=a) z y l;by_cases r:c=b
    ·subst r
     exact .inl ⟨by simp[Region.wanted,u,n],_,m c l,h.1 rfl⟩
    ·have t:c=!b:=by cases c<;>cases b<;>simp_all
     subst t;exact .inr ⟨by simp[Region.wanted,u,n],_,m _ l,h.2 rfl⟩
   ·rename_i e
    rw[e,Wq]at l;have n:=Xnt (a:=a) z y l;exact .inr ⟨by simp[Region.wanted,u,n],_,v,h⟩
   ·cases h
  ·simp at g
 ·simp at g
def cz{P:BA}{c:Dz}(X:P.g=c.g){xo:Nat->Prop}{ops:Array Oper}{Q:Exit->Act->World->Prop}{K:Xe->AF->Prop}{J:V->Xe->AF->Prop}
 (U:∀b f j a w,K b f->DM c xo j b f a w->Q .normal a w)
 (W:∀v b f j a w u,J v b f->DM c xo j b f a w->v.Ax w j u->Q (.panic [{v:=u,recovered:=false}]) a w):
 ∀(l:List Oper)(G:List It)(b:Xe)(f:AF)(j:A9)(a:Act)(w:World),Vo P.p c.N ops l G=true->Dg P K J G b f->DM c xo j b f a w->Qx P.p ops Q l a w
|[],[],b,f,j,a,w,_,h,m=>by simp only[Qx];exact U b f j a w h m
|o::r,i::s,b,f,j,a,w,z,h,m=>by
 simp only[Vo,BB]at z;obtain⟨k,h2⟩:=z;have step:∀(d:Option Nat)(x:I)(b:Xe),SM w j b a->Ic c.N o.dst d=true->x.Ak P.p o.op=true->x.wp P b f (λv e=>Dg P K J s (put b d v) e) (λv e=>J v b e)->EH P.p o a w (Qx P.p ops Q r) Q:=by
  intro d x b n hd hx F;refine I.Az (m.gl.trans X.symm) n m.om hx F o rfl _ _ (λv y e w' q Y hr Z t=>?_) (λu y e w' q Y hr Z t=>?_)
  ·obtain⟨L,O,T⟩:=X1 hd m.size (n.tr t) hr
   exact cz X U W r s _ e q _ w' h2 Y ⟨m.A1.tr t,Z,L,O,(m.df.tr t).put T,t.xo.trans m.xo,t.gl.trans m.gl⟩
  ·exact W y b e q a w' u Y ⟨m.A1.tr t,Z,n.tr t,m.size,m.df.tr t,t.xo.trans m.xo,t.gl.trans m.gl⟩ hr
 cases i with
 |op d x=>
  simp only[It.Ak,BB,Lv]at k;simp only[Dg]at h;simp only[Qx,Region.wanted,k.1.2,Bu];exact step d x b m.sm k.1.1 k.2 h
 |Eu g aa d x=>
  simp only[It.Ak,BB]at k;simp only[Dg]at h;simp only[Qx];rcases Ww (ops:=ops) m.sm k.1.2 h with⟨F,H,n,h⟩|⟨F,H,n,h⟩
  ·rw[BS F]
   exact step d x H n k.1.1 k.2 h
  ·rw[F]
   simp only[BO,Bs];obtain⟨L,O,T⟩:=X1 k.1.1 m.size n (Wq.2 rfl);exact cz X U W r s _ f j _ w h2 h ⟨m.A1,m.om,L,O,m.df.put T,m.xo,m.gl⟩
|[],_::_,_,_,_,_,_,z,_,_=>by simp[Vo]at z
|_::_,[],_,_,_,_,_,z,_,_=>by simp[Vo]at z
def SM.keep{w:World}{c:A9}{b:Xe}{a:Act}(d:SM w c b a)(l:List Nat):SM w c (Xy b l) a:=by
 intro k;induction l with
 |nil=>exact J0
 |cons j r f=>
  simp only[Xy,A7];split
  next e=>subst e;exact d j
  ·exact f
def W2{d:A9}{c:Nat->Bool}{b:Nat}(h:FD (d.CY c) b):FD d b:=by
 obtain⟨j,o,a,e⟩:=h;simp only[A9.CY]at a;split at a
 ·cases a
 ·exact⟨j,o,a,e⟩
def eH(w:World)(b:A9)(a:Nat->Bool):GO w (CH b) w (CH (b.CY a)):=λ_ h _=>
 ⟨rfl,λc=>h (c.elim (λh=>.inl (W2 h)) .inr)⟩
mutual
def My{w:World}{t:A9}{k:Nat->Bool}:∀(x:V)(j:List Value),V.BQ k x=false->x.Al w t j->x.Al w (t.CY k) j
|.d x,j,_,h=>by simp only[V.Al]at h⊢;exact Ho (eH w t k) x j h
|.ptr id p,j,a,h=>by
 simp only[V.Al]at h⊢;simp only[V.BQ]at a;rcases h with⟨b,m,c,g⟩|⟨c,g⟩
 ·exact .inl ⟨b,m,by simp only[A9.CY,a];exact c,g⟩
 ·exact .inr ⟨by simp only[A9.CY,a];exact c,g⟩
|.sl id n,j,a,h=>by
 simp only[V.Al]at h⊢;simp only[V.BQ]at a;obtain⟨o,u,c,g⟩:=h;exact⟨o,u,by simp only[A9.CY,a];exact c,g⟩
|.sd id n,j,a,h=>by
 simp only[V.Al]at h⊢;simp only[V.BQ]at a;obtain⟨o,u,c,g⟩:=h;exact⟨o,u,by simp only[A9.CY,a];exact c,g⟩
|.mp id,j,a,h=>by
 simp only[V.Al]at h⊢;simp only[V.BQ]at a;rcases h with⟨b,c,g⟩|⟨c,g⟩
 ·exact .inl ⟨b,by simp only[A9.CY,a];exact c,g⟩
 ·exact .inr ⟨by simp only[A9.CY,a];exact c,g⟩
|.hd y id,j,a,h=>by
 simp only[V.Al]at h⊢;simp only[V.BQ]at a;rcases h with⟨b,c,g⟩|⟨c,g⟩
 ·exact .inl ⟨b,by simp only[A9.CY,a];exact c,g⟩
 ·exact .inr ⟨by simp only[A9.CY,a];exact c,g⟩
|.bs id p L n,j,a,h=>by
 simp only[V.Al]at h⊢;simp only[V.BQ]at a;rcases h with⟨b,m,l,f,c,g⟩|⟨c,g⟩
 ·exact .inl ⟨b,m,l,f,by simp only[A9.CY,a];exact c,g⟩
 ·exact .inr ⟨by simp only[A9.CY,a];exact c,g⟩
|.ep id n z i f p,j,a,h=>by
 simp only[V.Al]at h⊢;simp only[V.BQ]at a;obtain⟨o,u,c,g⟩:=h;exact⟨o,u,by simp only[A9.CY,a];exact c,g⟩
|.fn f K J,j,a,h=>by
 simp only[V.Al]at h⊢;simp only[V.BQ,FU]at a;obtain⟨F,G,e,c,g⟩:=h;exact⟨F,G,e,Rq K F a.1 c,Rq J G a.2 g⟩
|.agg s,j,a,h=>by
 simp only[V.Al]at h⊢;simp only[V.BQ]at a;exact YW s j a h
|.iface N x,j,a,h=>by
 simp only[V.Al]at h⊢;simp only[V.BQ]at a;obtain⟨u,e,c⟩:=h;refine⟨u,e,?_⟩;rcases c with c|⟨p,v,q,r⟩|⟨p,r⟩
 ·exact .inl c
 ·exact .inr (.inl ⟨p,v,q,My x v a r⟩)
 ·exact .inr (.inr ⟨p,My x _ a r⟩)
|.BT s,j,a,h=>by
 simp only[V.Al]at h⊢;simp only[V.BQ]at a;obtain⟨H,e,c⟩:=h;exact⟨H,e,Rq s H a c⟩
|.undef,j,_,h=>by simpa only[V.Al]using h
|.any,j,_,h=>by simpa only[V.Al]using h
def YW{w:World}{i:A9}{a:Nat->Bool}:∀(d:List V)(b:List Value),BY a d=false->Bz w i d b->Bz w (i.CY a) d b
|[],b,_,h=>by simpa only[Bz]using h
|x::r,b,c,h=>by
 simp only[Bz]at h⊢;simp only[BY,FU]at c;obtain⟨f,g,e,j,k⟩:=h;exact⟨f,g,e,My x f c.1 j,YW r g c.2 k⟩
def Rq{w:World}{j:A9}{a:Nat->Bool}:∀(f:List V)(c:List Value),BY a f=false->V.A8 w j f c->V.A8 w (j.CY a) f c
|[],c,_,h=>by simpa only[V.A8]using h
|x::r,c,b,h=>by
 simp only[V.A8]at h⊢;simp only[BY,FU]at b;obtain⟨u,i,e,d,k⟩:=h;refine⟨u,i,e,?_,Rq r i b.2 k⟩;rcases d with d|⟨p,g,q,r⟩|⟨p,r⟩
 ·exact .inl d
 ·exact .inr (.inl ⟨p,g,q,My x g b.1 r⟩)
 ·exact .inr (.inr ⟨p,My x _ b.1 r⟩)
end
def M1{w:World}{d:A9}{a:Nat->Bool}{x:V}{u:Value}(c:V.BQ a x=false)(h:x.Ax w d u):x.Ax w (d.CY a) u:=by
 rcases h with e|⟨p,b,q,r⟩|⟨p,r⟩
 ·exact .inl e
 ·exact .inr (.inl ⟨p,b,q,My x b c r⟩)
 ·exact .inr (.inr ⟨p,My x _ c r⟩)
def Yj.CY{w:World}{f:A9}{b:Nat->Bool}:∀(l:List (D×V)) (c:List MapEntry),Zd b l=false->Yj w f l c->Yj w (f.CY b) l c
|[],c,_,h=>h
|(k,v)::r,c,d,h=>by
 simp only[Zd,FU]at d;obtain⟨e,a,g,i,j,m⟩:=h;exact⟨e,a,g,i,M1 d.1 j,Yj.CY r a d.2 m⟩
def Wy{a:Nat->Bool}:∀(b:AF)(j:Nat),AB (Xk a b) j=if a j then none else AB b j
|[],j=>by simp[Xk,AB]
|(k,x)::r,j=>by
 simp only[Xk];split
 ·rename_i h
  rw[Wy r j];simp only[AB];by_cases e:k=j
  ·subst e;rw[BS h,BS h]
  ·simp[e]
 ·rename_i h
  simp only[AB,Wy r j];by_cases e:k=j
  ·subst e;rw[BS rfl,Aq h,BS rfl]
  ·simp[e]
def E4.drop{a:Nat->Bool}:∀{b:AF},E4 b->E4 (Xk a b)
|[],h=>h
|(k,x)::r,h=>by
 simp only[Xk];split
 ·exact E4.drop h.2
 ·refine⟨?_,E4.drop h.2⟩
  rw[Wy,h.1];split<;>rfl
def Y9{b:Nat->Bool}:∀(c:AF)(j E:Nat)(t:V),AI b c=true->AB c j=some (.box E t)->V.BQ b t=false
|[],j,E,t,_,h=>by simp[AB]at h
|(k,x)::r,j,E,t,a,h=>by
 simp only[AB]at h;split at h
 ·simp at h;subst h
  simp only[AI,BB]at a;simpa using a.1
 ·cases x with
  |box _ y=>simp only[AI,BB]at a;exact Y9 r j E t a.2 h
  |Ay _ _ y=>simp only[AI,BB]at a;exact Y9 r j E t a.2 h
  |map y=>simp only[AI,BB]at a;exact Y9 r j E t a.2 h
  |BG _ z d=>simp only[AI]at a;exact Y9 r j E t a h
  |An=>simp only[AI]at a;exact Y9 r j E t a h
  |lp _ _ _=>simp only[AI,BB]at a;exact Y9 r j E t a.2 h
  |it m _ _=>simp only[AI,BB]at a;exact Y9 r j E t a.2 h
def We{c:Nat->Bool}:∀(d:AF)(j E b:Nat)(t:List V),AI c d=true->AB d j=some (.Ay E b t)->BY c t=false
|[],j,E,b,t,_,h=>by simp[AB]at h
|(k,x)::r,j,E,b,t,a,h=>by
 simp only[AB]at h;split at h
 ·simp at h;subst h
  simp only[AI,BB]at a;simpa using a.1
 ·cases x with
  |box _ y=>simp only[AI,BB]at a;exact We r j E b t a.2 h
  |Ay _ _ y=>simp only[AI,BB]at a;exact We r j E b t a.2 h
  |map y=>simp only[AI,BB]at a;exact We r j E b t a.2 h
  |BG _ z e=>simp only[AI]at a;exact We r j E b t a h
  |An=>simp only[AI]at a;exact We r j E b t a h
  |lp _ _ _=>simp only[AI,BB]at a;exact We r j E b t a.2 h
  |it m _ _=>simp only[AI,BB]at a;exact We r j E b t a.2 h
def Wd{b:Nat->Bool}:∀(c:AF)(j:Nat) (t:List (D×V)),AI b c=true->AB c j=some (.map t)->Zd b t=false
|[],j,t,_,h=>by simp[AB]at h
|(k,x)::r,j,t,a,h=>by
 simp only[AB]at h;split at h
 ·simp at h;subst h
  simp only[AI,BB]at a;simpa using a.1
 ·cases x with
  |box _ y=>simp only[AI,BB]at a;exact Wd r j t a.2 h
  |Ay _ _ y=>simp only[AI,BB]at a;exact Wd r j t a.2 h
  |map y=>simp only[AI,BB]at a;exact Wd r j t a.2 h
  |BG _ z d=>simp only[AI]at a;exact Wd r j t a h
  |An=>simp only[AI]at a;exact Wd r j t a h
  |lp _ _ _=>simp only[AI,BB]at a;exact Wd r j t a.2 h
  |it m _ _=>simp only[AI,BB]at a;exact Wd r j t a.2 h
def yB{c:Nat->Bool}:∀(e:AF)(j b:Nat)(d:Gu)(t:Xe),AI c e=true->AB e j=some (.lp b d t)->Z0 c t=true
|[],j,b,d,t,_,h=>by simp[AB]at h
|(k,x)::r,j,b,d,t,a,h=>by
 simp only[AB]at h;split at h
 ·simp at h;subst h
  simp only[AI,BB]at a;simpa using a.1
 ·refine yB r j b d t ?_ h
  cases x with
  |box _ y=>simp only[AI,BB]at a;exact a.2
  |Ay _ _ y=>simp only[AI,BB]at a;exact a.2
  |map y=>simp only[AI,BB]at a;exact a.2
  |BG _ z f=>simp only[AI]at a;exact a
  |An=>simp only[AI]at a;exact a
  |lp _ _ _=>simp only[AI,BB]at a;exact a.2
  |it m _ _=>simp only[AI,BB]at a;exact a.2
def yd{b:Nat->Bool}:∀(c:AF)(j i n:Nat)(t:List Nat),AI b c=true->AB c j=some (.it (some i) n t)->b i=false
|[],j,i,n,t,_,h=>by simp[AB]at h
|(k,x)::r,j,i,n,t,a,h=>by
 simp only[AB]at h;split at h
 ·simp at h;subst h
  simp only[AI,BB]at a;simpa[mN]using a.1
 ·refine yd r j i n t ?_ h
  cases x with
  |box _ y=>simp only[AI,BB]at a;exact a.2
  |Ay _ _ y=>simp only[AI,BB]at a;exact a.2
  |map y=>simp only[AI,BB]at a;exact a.2
  |BG _ z d=>simp only[AI]at a;exact a
  |An=>simp only[AI]at a;exact a
  |lp _ _ _=>simp only[AI,BB]at a;exact a.2
  |it m _ _=>simp only[AI,BB]at a;exact a.2
def c0{a:Nat->Bool}:∀(c:Xe),Z0 a c=true->∀p∈c,V.BQ a p.2=false
|[],_,p,h=>by cases h
|(j,v)::r,b,p,h=>by
 simp only[Z0,BB,GK]at b;rcases EJ.1 h with rfl|h
 ·exact b.1
 ·exact c0 r b.2 p h
def wS{a:Nat->Bool}:∀(c:Xe)(k:Nat),Z0 a c=true->V.BQ a (A7 c k)=false
|[],k,_=>by simp[A7,V.BQ]
|(j,v)::r,k,b=>by
 simp only[Z0,BB]at b;simp only[A7];split
 ·simpa using b.1
 ·exact wS r k b.2
def OM.CY{w:World}{z:A9}{J:AF}{d:Nat->Bool}(h:OM w z J)(v:AI d (Xk d J)=true):OM w (z.CY d) (Xk d J):=by
 refine⟨λj x y=>?_,λj o G=>?_,λi j o p b e F Y Z=>?_,h.E9,λb o u=>⟨(h.EF b o u).1,(eH w z d b (h.EF b o u).2 (Xl (h.EF b o u).1)).2⟩,λb u=>h.Dm b (W2 u),E4.drop h.Cn⟩
 ·have k:=y
  rw[Wy]at y;split at y
  ·cases y
  ·rename_i f
   have e:=h.BW j x y;cases x with
   |box E t=>
    obtain⟨b,r,a,c,g⟩:=e;exact⟨b,r,by simp only[A9.CY,f];exact a,c,My t r (Y9 _ j E t v k) g⟩
   |An=>exact(by simp only[A9.CY,f];exact e:(z.CY d).m j=some .An)
   |BG E Q N=>
    rcases e with⟨a,c⟩|⟨b,q,r,K,a,c,g,s⟩
    ·exact .inl ⟨by simp only[A9.CY,f];exact a,c⟩
    ·exact .inr ⟨b,q,r,K,by simp only[A9.CY,f];exact a,c,GF (eH w z d) _ _ g,s⟩
   |Ay E Q N=>
    rcases e with⟨a,c⟩|⟨b,q,r,K,a,c,g,s⟩
    ·exact .inl ⟨by simp only[A9.CY,f];exact a,c⟩
    ·exact .inr ⟨b,q,r,K,by simp only[A9.CY,f];exact a,c,YW N r (We _ j E Q N v k) g,s⟩
   |map O=>
    obtain⟨b,l,H,a,c,g,s⟩:=e;exact⟨b,l,H,by simp only[A9.CY,f];exact a,c,Yj.CY O l (Wd _ j O v k) g,s⟩
   |lp L st t=>
    obtain⟨b,X,tm,W,ps,T,U,a,c,g,s⟩:=e;exact⟨b,X,tm,W,ps,T,U,by simp only[A9.CY,f];exact a,c,g,λp P=>M1 (c0 t (yB _ j L st t v k) p P) (s p P)⟩
   |it m n t=>
    cases m with
    |none=>obtain⟨b,a,c⟩:=e;exact⟨b,by simp only[A9.CY,f];exact a,c⟩
    |some i=>
     obtain⟨b,mb,a,c,g⟩:=e;have hi:=yd _ j i n t v k;exact⟨b,mb,by simp only[A9.CY,f];exact a,by simp only[A9.CY,hi];exact c,g⟩
 ·simp only[A9.CY]at G
  rw[Wy];split at G
  ·cases G
  ·rename_i f
   rw[Aq f];exact h.EY j o G
 ·simp only[A9.CY]at e F
  split at e
  ·cases e
  ·split at F
   ·cases F
   ·exact h.inj i j o p b e F Y Z
section
variable {w:World} {ρ:A9}
mutual
def M3{c:Nat->Bool}(b:∀id o,ρ.m id=some o->c id=false):∀(v:V)(a:List Value),v.Al w ρ a->V.BQ c v=false
|.d _,_,_=>rfl
|.ptr id p,a,h=>by
 simp only[V.Al]at h;simp only[V.BQ];rcases h with⟨_,_,h,_⟩|⟨h,_⟩<;>exact b _ _ h
|.sl id n,a,h=>by simp only[V.Al]at h;obtain⟨_,_,h,_⟩:=h;exact b _ _ h
|.sd id n,a,h=>by simp only[V.Al]at h;obtain⟨_,_,h,_⟩:=h;exact b _ _ h
|.mp id,a,h=>by
 simp only[V.Al]at h;simp only[V.BQ];rcases h with⟨_,h,_⟩|⟨h,_⟩<;>exact b _ _ h
|.hd y id,a,h=>by
 simp only[V.Al]at h;simp only[V.BQ];rcases h with⟨_,h,_⟩|⟨h,_⟩<;>exact b _ _ h
|.bs id p G n,a,h=>by
 simp only[V.Al]at h;simp only[V.BQ];rcases h with⟨_,_,_,_,h,_⟩|⟨h,_⟩<;>exact b _ _ h
|.ep id n z i f p,a,h=>by simp only[V.Al]at h;obtain⟨_,_,h,_⟩:=h;exact b _ _ h
|.fn f k g,a,h=>by
 simp only[V.Al]at h;obtain⟨l,q,_,r,s⟩:=h;simp only[V.BQ,PW b k l r,PW b g q s,Bool.or_self]
|.agg e,a,h=>by simp only[V.Al]at h;simp only[V.BQ];exact YX b e a h
|.iface t x,a,h=>by
 simp only[V.Al]at h;obtain⟨u,_,h⟩:=h;simp only[V.BQ];rcases h with h|⟨_,j,_,h⟩|⟨_,h⟩
 ·subst h;rfl
 ·exact M3 b x j h
 ·exact M3 b x _ h
|.BT e,a,h=>by simp only[V.Al]at h;obtain⟨F,_,h⟩:=h;simp only[V.BQ];exact PW b e F h
|.undef,_,_=>rfl
|.any,_,_=>rfl
def YX{a:Nat->Bool}(c:∀id o,ρ.m id=some o->a id=false):∀(d:List V)(b:List Value),Bz w ρ d b->BY a d=false
|[],_,_=>rfl
|x::r,b,h=>by
 simp only[Bz]at h;obtain⟨e,f,_,g,i⟩:=h;simp only[BY,M3 c x e g,YX c r f i,Bool.or_self]
def PW{a:Nat->Bool}(b:∀id o,ρ.m id=some o->a id=false):∀(d:List V)(c:List Value),V.A8 w ρ d c->BY a d=false
|[],_,_=>rfl
|x::r,c,h=>by
 simp only[V.A8]at h;obtain⟨u,i,_,f,g⟩:=h;have:V.BQ a x=false:=by
  rcases f with h|⟨_,e,_,h⟩|⟨_,h⟩
  ·subst h;rfl
  ·exact M3 b x e h
  ·exact M3 b x _ h
 simp only[BY,this,PW b r i g,Bool.or_self]
end
def YY{a:Nat->Bool}(b:∀id o,ρ.m id=some o->a id=false){v:V}{u:Value}(h:v.Ax w ρ u):V.BQ a v=false:=by
 rcases h with h|⟨_,c,_,h⟩|⟨_,h⟩
 ·subst h;rfl
 ·exact M3 b v c h
 ·exact M3 b v _ h
end
def DM.wk{c:Dz}{f:Nat->Prop}{g b:A9}{e:Xe}{h d:AF}{a:Act}{w:World}(m:DM c f g e h a w)(t:Tr w g w b)(o:OM w b d):DM c f b e d a w:=
 ⟨m.A1.tr t,o,m.sm.tr t,m.size,m.df.tr t,t.xo.trans m.xo,t.gl.trans m.gl⟩
def DM.sub{c:Dz}{j:Nat->Prop}{l:A9}{g:Xe}{f:AF}{a:Act}{w:World}{e:List Nat}{d:Nat->Bool}(m:DM c j l g f a w)(t:∀id o,c.m0 id=some o->d id=false)(u:∀p∈c.ev,V.BQ d p.1=false)
 (n:Z0 d (Xy g e)=true) (r:AI d (Xk d f)=true):DM c j (l.CY d) (Xy g e) (Xk d f) a w:=
 ⟨⟨m.A1.size,m.A1.keep,λb s=>m.A1.DF b (W2 s),m.A1.tape,m.A1.os,m.A1.Ck,λid o h=>(m.A1.same id o h).elim λv q=>⟨v,by simp only[A9.CY,t id o h];exact q.1,q.2⟩,λp i=>M1 (u p i) (m.A1.ext p i),m.A1.drawn⟩,m.om.CY r,λk=>M1 (wS _ k n) (m.sm.keep e k),m.size,m.df.CY λ_=>W2,m.xo,m.gl⟩
def OK(c:Dz)(h:Nat->Prop)(d:List Nat)(Q:Zi)(g:List PanicEntry)(a:Act)(w:World):Prop:=
 ∃v e b f u,Q (.panic v) (Xy e d) b/\g=[{v:=u,recovered:=false}]/\v.Ax w f u/\DM c h f (Xy e d) b a w
def yW(b:Xe):∀(a:List Nat)(k:Nat),k∉a->A7 (Xy b a) k=.any
|[],k,_=>by simp[Xy,A7]
|j::r,k,h=>by
 simp only[Xy,A7];have:j≠k:=λe=>h (by simp[e]);rw[Aq this];exact yW b r k (λc=>h (by simp[c]))
def yK{c:Dz}{n:Nat->Prop}{b:List Nat}{Q:Zi}{g:List PanicEntry}{a:Act}{w:World}{d:Option Nat}{v:Value}(r:∀k,d=some k->k∉b)(h:OK c n b Q g (a.put d v) w):OK c n b Q g a w:=by
 obtain⟨x,l,s,t,u,o,p,q,m⟩:=h;refine⟨x,l,s,t,u,o,p,q,m.A1,m.om,λk=>?_,?_,?_,m.xo,m.gl⟩
 ·by_cases i:k∈b
  ·have:=m.sm k
   cases d with
   |none=>exact this
   |some j=>
    have f:j≠k:=λe=>r j rfl (e▸i);simpa[Act.put,UE,f]using this
  ·rw[yW l b k i];exact J0
 ·have:=m.size
  cases d<;>simpa[Act.put]using this
 ·have:=m.df
  cases d<;>simpa only[Act.put]using this
def FB(B:Nat->Prop)(u v:World):Prop:=∀b,B b->v.heap[b]? = u.heap[b]?
def Oh(B:Nat->Prop)(w:World)(a:A9):Prop:=∀b,B b->b<w.heap.size/\¬CH a b
def Oh.tr{B:Nat->Prop}{w f:World}{ρ a:A9}(h:Oh B w ρ)(t:Tr w ρ f a):Oh B f a:=λb i=>by
 obtain⟨g,d⟩:=h b i;refine⟨OD g t.size,?_⟩;rintro (c|c)
 ·rcases t.DF b c with e|e
  ·exact d (.inl e)
  ·omega
 ·exact d (.inr (t.xo▸c))
def Oh.fb{B:Nat->Prop}{w d:World}{e a:A9}(h:Oh B w e)(t:Tr w e d a):FB B w d:=λb c=>t.keep b (λf=>(h b c).2 (.inl f)) (h b c).1
def FB.refl(B:Nat->Prop)(w:World):FB B w w:=λ_ _=>rfl
def FB.trans{B:Nat->Prop}{u v w:World}(h:FB B u v)(c:FB B v w):FB B u w:=λb a=>(c b a).trans (h b a)
def RJ(a:Nat->Nat)(B:Nat->Prop)(j:Nat)(u v:World):Prop:=(a j≠3->B5 u v)/\FB B u v
def Z8{P:BA}{c:Dz}(hg:P.g=c.g){xo:Nat->Prop}{q:Array Oper}{Q:Exit->Act->World->Prop}{QP:Zi}{pk:List Nat}{K:Xe->AF->Prop}{kd:Nat->Nat}
 (J:Region.noSelect q=true) (aa:SQ pk q=true)
 (hK:∀sl W ρ a w,K sl W->DM c xo ρ sl W a w->Q .normal a w)
 (hQ:∀ch a w,Q (.panic ch) a w↔OK c xo pk QP ch a w):
 ∀(a1:List Nat)(au:List It)(B:Nat->Prop)(b:Array Bool)(sl:Xe)(W:AF)(ρ:A9)(a:Act)(w:World),Oh B w ρ->OY P.p c.N q kd b a1 au=true->M8 .any q b->
  Dg P K (λv sl W=>QP (.panic v) (Xy sl pk) W) au sl W->DM c xo ρ sl W a w->Uf P.p .any q Q (RJ kd B) a1.length b a w
|[],[],B,b,sl,W,ρ,a,w,hB,hc,_,h,m=>by
 simp only[OY]at hc;simp only[List.length_nil,Uf];exact⟨by simpa using hc,hK sl W ρ a w h m⟩
|i::r,x::s,B,b,sl,W,ρ,a,w,hB,hc,ap,h,m=>by
 simp only[OY,BB]at hc;obtain⟨⟨⟨⟨hr,hx⟩,a4⟩,f⟩,H⟩:=hc;have aq:i∈Region.ready .any q b:=by simpa using hr
 cases ho:q[i]? with
 |none=>simp[ho]at hx
 |some o=>
  simp only[ho]at hx;have ae:x.kind=kd i:=by simpa using a4
  have ay:∀k,o.dst=some k->k∉pk:=by
   intro k hk;have:=Es.1 aa o (by simpa using UF ho);simpa[hk]using this
  have av:∀v:Value,∀ch a w,Q (.panic ch) (a.put o.dst v) w->Q (.panic ch) a w:=λv ch a w hq=>(hQ ch a w).2 (yK ay ((hQ ch _ w).1 hq));have T:=ap.step aq;simp only[List.length_cons]
  -- the operation's state and DJ,whichever way au guard goes
  have hd:∃(d:Option Nat) (y:I),Ic c.N o.dst d=true/\y.Ak P.p o.op=true/\x.kind=y.kind/\
   ((Region.wanted o (yielded q a.tmps)=true/\∃L,SM w ρ L a/\y.wp P L W (λv Y=>Dg P K (λv sl W=>QP (.panic v) (Xy sl pk) W) s (put L d v) Y) (λv Y=>QP (.panic v) (Xy L pk) Y))\/
    (Region.wanted o (yielded q a.tmps)=false/\∃L,SM w ρ L a/\Dg P K (λv sl W=>QP (.panic v) (Xy sl pk) W) s (put L d .undef) W)):=by
   cases x with
   |op d y=>
    simp only[It.Ak,BB,Lv]at hx;simp only[Dg]at h;exact⟨d,y,hx.1.1,hx.2,rfl,.inl ⟨by simp[Region.wanted,hx.1.2],sl,m.sm,h⟩⟩
   |Eu g a9 d y=>
    simp only[It.Ak,BB]at hx;simp only[Dg]at h;exact⟨d,y,hx.1.1,hx.2,rfl,Ww (ops:=q) m.sm hx.1.2 h⟩
  obtain⟨d,y,U,hy,X,ai⟩:=hd
  -- an operation that CN be taken first
  have first:∀l:Bool,(∀G,y=.c G->G.Ew=l)->(∃G,y=.c G)->Region.free .any q b i=true->
   (l=true->∀j,j<q.size->kd j=3->j≠i->∃ac,Qv .any q i ac j=true)->kd i≠3->Uf P.p .any q Q (RJ kd B) (r.length+1) b a w:=by
   intro l af ak ad a8 al;have ao:l=true->∀j,j<q.size->j≠i->(∃ac,Qv .any q i ac j=true)\/∀u v,RJ kd B j u v->B5 u v:=λh1 j h2 h3=>by
    by_cases h4:kd j=3
    ·exact .inl (a8 h1 j h2 h4 h3)
    ·exact .inr λu v h5=>h5.1 h4
   have ah:∀w,RJ kd B i w w:=λw=>⟨λ_=>B5.refl w,FB.refl B w⟩;obtain⟨G,rfl⟩:=ak;have af:=af G rfl;rcases ai with⟨hw,L,hs,O⟩|⟨hw,L,hs,O⟩
   ·simp only[I.wp]at O
    obtain⟨v,z,hk,F,a0⟩:=C.Az hs m.om hy O;obtain⟨g1,g2,g3⟩:=X1 U m.size hs F;refine Ut (S:=B5) (l:=l) B5.refl (λ_ _ _=>B5.trans) ho (Region.noSelect_spec J) (av v) ao ah _ b a w ap (Region.free_spec ho ad) aq (.inl ⟨hw,λw' a7=>a0 o rfl w' (λe=>a7 (by rw[<-af];exact e))⟩) ?_;exact Z8 hg J aa hK hQ r s B _ _ W ρ _ w hB H T hk ⟨m.A1,m.om,g1,g2,m.df.put g3,m.xo,m.gl⟩
   ·obtain⟨g1,g2,g3⟩:=X1 U m.size hs (Wq.2 rfl)
    refine Ut (S:=B5) (l:=l) B5.refl (λ_ _ _=>B5.trans) ho (Region.noSelect_spec J) (av undef) ao ah _ b a w ap (Region.free_spec ho ad) aq (.inr ⟨hw,rfl⟩) ?_;exact Z8 hg J aa hK hQ r s B _ _ W ρ _ w hB H T O ⟨m.A1,m.om,g1,g2,m.df.put g3,m.xo,m.gl⟩
  -- the only BW that CN come up
  have Z:Region.ready .any q b=[i]->(y.kind=2\/y.kind=3\/y.kind=4)->Uf P.p .any q Q (RJ kd B) (r.length+1) b a w:=by
   intro az aw;refine⟨λh0=>(by rw[az]at h0;cases h0),λj hj=>?_⟩;rw[az]at hj;simp at hj;subst hj;unfold HU;simp only[ho];rcases ai with⟨hw,L,hs,O⟩|⟨hw,L,hs,O⟩
   ·rw[BS hw]
    rcases aw with a2|al|a3
    ·refine rj (m.gl.trans hg.symm) hs m.om a2 hy O o rfl _ _ (λv z w' hk F he=>⟨⟨λ_=>he,hB.fb he.tr⟩,?_⟩)
     obtain⟨g1,g2,g3⟩:=X1 U m.size (hs.tr he.tr) F;exact Z8 hg J aa hK hQ r s B _ _ W ρ _ w' (hB.tr he.tr) H T hk ⟨m.A1.tr he.tr,m.om.ext he,g1,g2,(m.df.tr he.tr).put g3,m.xo,m.gl⟩
    ·refine I.Az (m.gl.trans hg.symm) hs m.om hy O o rfl _ _ (λv z Y w' aj hk F ag t=>⟨⟨λhf=>?_,hB.fb t⟩,?_⟩) (λu z Y w' aj hk F ag t=>?_)
     ·exact absurd (by rw[<-ae,X,al]) hf
     ·obtain⟨g1,g2,g3⟩:=X1 U m.size (hs.tr t) F
      exact Z8 hg J aa hK hQ r s B _ _ Y aj _ w' (hB.tr t) H T hk ⟨m.A1.tr t,ag,g1,g2,(m.df.tr t).put g3,t.xo.trans m.xo,t.gl.trans m.gl⟩
     ·exact(hQ _ _ _).2 ⟨z,L,Y,aj,u,hk,rfl,F,m.A1.tr t,ag,(hs.tr t).keep pk,m.size,m.df.tr t,t.xo.trans m.xo,t.gl.trans m.gl⟩
    ·refine rl (m.gl.trans hg.symm) hs m.om a3 hy O o rfl _ _ (λv z Y w' aj hk F ag t he=>⟨⟨λ_=>he,hB.fb t⟩,?_⟩)
     obtain⟨g1,g2,g3⟩:=X1 U m.size (hs.tr t) F;exact Z8 hg J aa hK hQ r s B _ _ Y aj _ w' (hB.tr t) H T hk ⟨m.A1.tr t,ag,g1,g2,(m.df.tr t).put g3,t.xo.trans m.xo,t.gl.trans m.gl⟩
   ·rw[hw]
    simp only[BO,Bs];refine⟨⟨λ_=>B5.refl w,FB.refl B w⟩,?_⟩;obtain⟨g1,g2,g3⟩:=X1 U m.size hs (Wq.2 rfl);exact Z8 hg J aa hK hQ r s B _ _ W ρ _ w hB H T O ⟨m.A1,m.om,g1,g2,m.df.put g3,m.xo,m.gl⟩
  have a5:y.kind=0\/y.kind=1\/y.kind=2\/y.kind=3\/y.kind=4\/y.kind=5:=by
   cases y with
   |c G=>simp only[I.kind];(repeat' split)<;>simp
   |_=>simp[I.kind]
  have ak:∀n,(n=0\/n=1)->y.kind=n->(∃G,y=.c G)/\∀G,y=.c G->G.Ew=(n==1):=by
   intro n hn ab;cases y with
   |c G=>
    refine⟨⟨G,rfl⟩,λc' e=>?_⟩;cases e;simp only[I.kind]at ab;cases hd:G.Ds
    ·cases hl:G.Ew<;>simp[hl,hd]at ab<;>subst ab<;>rfl
    ·simp[hd]at ab;subst ab;simp at hn
   |_=>simp[I.kind]at ab;subst ab;simp at hn
  rcases a5 with h0|h1|h2|h3|h4|h5
  ·rw[X,h0]at f
   obtain⟨c1,c2⟩:=ak 0 (.inl rfl) h0;exact first false (λG e=>by simpa using c2 G e) c1 f (by simp) (by rw[<-ae,X,h0];decide)
  ·rw[X,h1]at f
   simp only[BB]at f;obtain⟨c1,c2⟩:=ak 1 (.inr rfl) h1;refine first true (λG e=>by simpa using c2 G e) c1 f.1 (λ_ j hj al a6=>?_) (by rw[<-ae,X,h1];decide)
   have:=Es.1 f.2 j (by simpa using hj);have ax:kd j=3:=al;exact yr (by simpa[ax,a6]using this)
  ·rw[X,h2]at f
   exact Z (by simpa using f) (.inl h2)
  ·rw[X,h3]at f
   exact Z (by simpa using f) (.inr (.inl h3))
  ·rw[X,h4]at f
   exact Z (by simpa using f) (.inr (.inr h4))
  ·rw[X,h5]at f
   obtain⟨G,rfl,af⟩:∃G,y=.c G/\G.Ds=true:=by
    cases y with
    |c G=>
     simp only[I.kind]at h5;cases hd:G.Ds
     ·cases hl:G.Ew<;>simp[hl,hd]at h5
     ·exact⟨G,rfl,hd⟩
    |_=>simp[I.kind]at h5
   simp[C.Ds]at af
|[],_::_,_,_,_,_,_,_,_,_,hc,_,_,_=>by simp[OY]at hc
|_::_,[],_,_,_,_,_,_,_,_,hc,_,_,_=>by simp[OY]at hc
def sE{P:BA}{c:Dz}(hg:P.g=c.g){xo:Nat->Prop}{n:Array Oper}{Q:Exit->Act->World->Prop}{QP:Zi}{pk:List Nat}{next:Xe->AF->Prop}{i:Nat}{o:Oper}{x:It}{sl:Xe}{O:AF}{q:A9}{a:Act}{w:World}{N:Act->World->Prop}
 (hQ:∀ch a w,Q (.panic ch) a w↔OK c xo pk QP ch a w) (ho:n[i]? = some o) (T:x.Ak P.p c.N n o=true) (h:F7 P next (λv sl O=>QP (.panic v) (Xy sl pk) O) x sl O) (m:DM c xo q sl O a w)
 (W:∀e f j a' r,next e f->DM c xo j e f a' r->Tr w q r j->N a' r):HU P.p n Q i (λa' r=>((x.kind≠3->B5 w r)/\∃j,Tr w q r j)/\N a' r) a w:=by
 have hd:∃(d:Option Nat) (y:I),Ic c.N o.dst d=true/\y.Ak P.p o.op=true/\x.kind=y.kind/\
  ((Region.wanted o (yielded n a.tmps)=true/\∃e,SM w q e a/\y.wp P e O (λv f=>next (put e d v) f) (λv f=>QP (.panic v) (Xy e pk) f))\/
   (Region.wanted o (yielded n a.tmps)=false/\∃e,SM w q e a/\next (put e d .undef) O)):=by
  cases x with
  |op d y=>
   simp only[It.Ak,BB,Lv]at T;exact⟨d,y,T.1.1,T.2,rfl,.inl ⟨by simp[Region.wanted,T.1.2],sl,m.sm,h⟩⟩
  |Eu g ac d y=>
   simp only[It.Ak,BB]at T;simp only[F7]at h;exact⟨d,y,T.1.1,T.2,rfl,Ww (ops:=n) m.sm T.1.2 h⟩
 obtain⟨d,y,k,hy,ab,U⟩:=hd;unfold HU;simp only[ho];rcases U with⟨hw,e,F,l⟩|⟨hw,e,F,l⟩
 ·rw[BS hw]
  by_cases Y:y.kind=3
  ·refine I.Az (m.gl.trans hg.symm) F m.om hy l o rfl _ _ (λv z f r j L b s t=>⟨⟨λhf=>?_,j,t⟩,?_⟩) (λu z f r j L b s t=>?_)
   ·rw[ab]at hf;exact absurd Y hf
   ·obtain⟨G,H,J⟩:=X1 k m.size (F.tr t) b
    exact W _ f j _ r L ⟨m.A1.tr t,s,G,H,(m.df.tr t).put J,t.xo.trans m.xo,t.gl.trans m.gl⟩ t
   ·exact(hQ _ _ _).2 ⟨z,e,f,j,u,L,rfl,b,m.A1.tr t,s,(F.tr t).keep pk,m.size,m.df.tr t,t.xo.trans m.xo,t.gl.trans m.gl⟩
  ·by_cases X:y.kind=2
   ·refine rj (m.gl.trans hg.symm) F m.om X hy l o rfl _ _ (λv z r L b K=>⟨⟨λ_=>K,q,K.tr⟩,?_⟩)
    obtain⟨G,H,J⟩:=X1 k m.size (F.tr K.tr) b;exact W _ O q _ r L ⟨m.A1.tr K.tr,m.om.ext K,G,H,(m.df.tr K.tr).put J,m.xo,m.gl⟩ K.tr
   ·by_cases Z:y.kind=4
    ·refine rl (m.gl.trans hg.symm) F m.om Z hy l o rfl _ _ (λv z f r j L b s t K=>⟨⟨λ_=>K,j,t⟩,?_⟩)
     obtain⟨G,H,J⟩:=X1 k m.size (F.tr t) b;exact W _ f j _ r L ⟨m.A1.tr t,s,G,H,(m.df.tr t).put J,t.xo.trans m.xo,t.gl.trans m.gl⟩ t
    cases y with
    |c cc=>
     simp only[I.wp]at l;obtain⟨v,z,L,b,aa⟩:=C.Az F m.om hy l;obtain⟨G,H,J⟩:=X1 k m.size F b;unfold EH;rw[aa o rfl w (λ_=>B5.refl w)];exact⟨⟨λ_=>B5.refl w,q,Tr.refl w q⟩,W _ O q _ w L ⟨m.A1,m.om,G,H,m.df.put J,m.xo,m.gl⟩ (Tr.refl w q)⟩
    |_=>exfalso;simp[I.kind]at X Y Z
 ·rw[hw]
  simp only[BO,Bs];refine⟨⟨λ_=>B5.refl w,q,Tr.refl w q⟩,?_⟩;obtain⟨G,H,J⟩:=X1 k m.size F (Wq.2 rfl);exact W _ O q _ w l ⟨m.A1,m.om,G,H,m.df.put J,m.xo,m.gl⟩ (Tr.refl w q)
def W8{P:BA}{c:Dz}(hg:P.g=c.g){xo:Nat->Prop}{f:Array Oper}{Q:Exit->Act->World->Prop}{QP:Zi}{pk:List Nat}{K:Xe->AF->Prop}{L:Nat->Nat}
 (J:Region.noSelect f=true) (ah:SQ pk f=true)
 (hK:∀F s ρ a w,K F s->DM c xo ρ F s a w->Q .normal a w)
 (hQ:∀ch a w,Q (.panic ch) a w↔OK c xo pk QP ch a w):
 ∀(n:Nat)(t:Ot)(B:Nat->Prop)(b:Array Bool)(F:Xe)(s:AF)(ρ:A9)(a:Act)(w:World),Oh B w ρ->Vn P.p c.N f L n b t=true->M8 .any f b->
  EZ P K (λv F s=>QP (.panic v) (Xy F pk) s) t F s->DM c xo ρ F s a w->Uf P.p .any f Q (RJ L B) n b a w
|0,.done,B,b,F,s,ρ,a,w,hB,Z,_,h,m=>by
 simp only[Vn]at Z;simp only[EZ]at h;simp only[Uf];exact⟨by simpa using Z,hK F s ρ a w h m⟩
|n+1,.br l,B,b,F,s,ρ,a,w,hB,Z,ab,h,m=>by
 simp only[Vn,BB,GK]at Z;obtain⟨⟨ag,ao⟩,al⟩:=Z;simp only[EZ]at h;simp only[Uf];refine⟨λh0=>by rw[h0]at ag;simp at ag,λj hj=>?_⟩;have hh:=Es.1 ao j hj;obtain⟨x,r,o,g1,g2,g3,g4,g5⟩:∃x r o,f[j]? = some o/\x.Ak P.p c.N f o=true/\x.kind=L j/\Vn P.p c.N f L n (b.setIfInBounds j true) r=true/\F7 P (EZ P K (λv F s=>QP (.panic v) (Xy F pk) s) r) (λv F s=>QP (.panic v) (Xy F pk) s) x F s:=by
  clear ag ao;revert h al hh;generalize l=l;intro hh al h;have go:∀(l:GD),l.has j=true->OH P.p c.N f L n b l=true->H9 P K (λv F s=>QP (.panic v) (Xy F pk) s) l F s->∃x r o,f[j]? = some o/\x.Ak P.p c.N f o=true/\x.kind=L j/\Vn P.p c.N f L n (b.setIfInBounds j true) r=true/\F7 P (EZ P K (λv F s=>QP (.panic v) (Xy F pk) s) r) (λv F s=>QP (.panic v) (Xy F pk) s) x F s:=by
   intro l;induction l using GD.rec (motive_1:=λ_=>True) with
   |nil=>intro h;simp[GD.has]at h
   |cons i x r l _ ih=>
    intro h1 h2 h3;simp only[GD.has,PZ,C9]at h1;simp only[OH,BB]at h2;simp only[H9]at h3;by_cases e:i=j
    ·subst e
     obtain⟨⟨⟨⟨_,W⟩,hk⟩,hr⟩,_⟩:=h2;cases ho:f[i]? with
     |none=>simp[ho]at W
     |some o=>simp only[ho]at W;exact⟨x,r,o,rfl,W,by simpa using hk,hr,h3.1⟩
    ·exact ih (h1.resolve_left e) h2.2 h3.2
   |done=>trivial
   |BW i x r _=>trivial
   |br l _=>trivial
  first|exact go _ hh al h|exact go _ h al hh
 have av:=sE (Q:=Q) (N:=λa' w'=>Uf P.p .any f Q (RJ L B) n (b.setIfInBounds j true) a' w') hg hQ g1 g2 g5 m (λH Y aj a' w' hk m' t=>W8 hg J ah hK hQ n r B _ H Y aj a' w' (hB.tr t) g4 (ab.step hj) hk m');refine Qc (λa' w' h'=>⟨⟨λhf=>h'.1.1 ?_,h'.1.2.elim λaj t=>hB.fb t⟩,h'.2⟩) av;rw[g3];exact hf
|n+1,.BW i x r,B,b,F,s,ρ,a,w,hB,Z,ab,h,m=>by
 simp only[Vn,BB]at Z;obtain⟨⟨⟨⟨hr,W⟩,a4⟩,q⟩,U⟩:=Z;have au:i∈Region.ready .any f b:=by simpa using hr
 simp only[EZ]at h;cases ho:f[i]? with
 |none=>simp[ho]at W
 |some o=>
  simp only[ho]at W;have ae:x.kind=L i:=by simpa using a4
  have ac:=ab.step au
  -- the only BW that CN come up
  have T:Region.ready .any f b=[i]->Uf P.p .any f Q (RJ L B) (n+1) b a w:=by
   intro a1;refine⟨λh0=>(by rw[a1]at h0;cases h0),λj hj=>?_⟩;rw[a1]at hj;simp at hj;subst hj;have av:=sE (Q:=Q) (N:=λa' w'=>Uf P.p .any f Q (RJ L B) n (b.setIfInBounds j true) a' w') hg hQ ho W h m (λH Y aj a' w' hk m' t=>W8 hg J ah hK hQ n r B _ H Y aj a' w' (hB.tr t) U ac hk m');refine Qc (λa' w' h'=>⟨⟨λhf=>h'.1.1 ?_,h'.1.2.elim λaj t=>hB.fb t⟩,h'.2⟩) av;rw[ae];exact hf
  have a0:∀k,o.dst=some k->k∉pk:=by
   intro k hk;have:=Es.1 ah o (by simpa using UF ho);simpa[hk]using this
  have ax:∀v:Value,∀ch a w,Q (.panic ch) (a.put o.dst v) w->Q (.panic ch) a w:=λv ch a w hq=>(hQ ch a w).2 (yK a0 ((hQ ch _ w).1 hq));have hd:∃(d:Option Nat) (y:I),Ic c.N o.dst d=true/\y.Ak P.p o.op=true/\x.kind=y.kind/\
   ((Region.wanted o (yielded f a.tmps)=true/\∃H,SM w ρ H a/\y.wp P H s (λv Y=>EZ P K (λv F s=>QP (.panic v) (Xy F pk) s) r (put H d v) Y) (λv Y=>QP (.panic v) (Xy H pk) Y))\/
    (Region.wanted o (yielded f a.tmps)=false/\∃H,SM w ρ H a/\EZ P K (λv F s=>QP (.panic v) (Xy F pk) s) r (put H d .undef) s)):=by
   cases x with
   |op d y=>
    simp only[It.Ak,BB,Lv]at W;exact⟨d,y,W.1.1,W.2,rfl,.inl ⟨by simp[Region.wanted,W.1.2],F,m.sm,h⟩⟩
   |Eu g a8 d y=>
    simp only[It.Ak,BB]at W;simp only[F7]at h;exact⟨d,y,W.1.1,W.2,rfl,Ww (ops:=f) m.sm W.1.2 h⟩
  obtain⟨d,y,ap,hy,O,aw⟩:=hd;have first:∀l:Bool,(∀G,y=.c G->G.Ew=l)->(∃G,y=.c G)->Region.free .any f b i=true->
   (l=true->∀j,j<f.size->L j=3->j≠i->∃aa,Qv .any f i aa j=true)->L i≠3->Uf P.p .any f Q (RJ L B) (n+1) b a w:=by
   intro l af ak ad a7 ay;have aq:l=true->∀j,j<f.size->j≠i->(∃aa,Qv .any f i aa j=true)\/∀u v,RJ L B j u v->B5 u v:=λh1 j h2 h3=>by
    by_cases h4:L j=3
    ·exact .inl (a7 h1 j h2 h4 h3)
    ·exact .inr λu v h5=>h5.1 h4
   have ai:∀w,RJ L B i w w:=λw=>⟨λ_=>B5.refl w,FB.refl B w⟩;obtain⟨G,rfl⟩:=ak;have af:=af G rfl;rcases aw with⟨hw,H,hs,an⟩|⟨hw,H,hs,an⟩
   ·simp only[I.wp]at an
    obtain⟨v,z,hk,a2,a3⟩:=C.Az hs m.om hy an;obtain⟨g1,g2,g3⟩:=X1 ap m.size hs a2;refine Ut (S:=B5) (l:=l) B5.refl (λ_ _ _=>B5.trans) ho (Region.noSelect_spec J) (ax v) aq ai _ b a w ab (Region.free_spec ho ad) au (.inl ⟨hw,λw' a6=>a3 o rfl w' (λe=>a6 (by rw[<-af];exact e))⟩) ?_;exact W8 hg J ah hK hQ n r B _ _ s ρ _ w hB U ac hk ⟨m.A1,m.om,g1,g2,m.df.put g3,m.xo,m.gl⟩
   ·obtain⟨g1,g2,g3⟩:=X1 ap m.size hs (Wq.2 rfl)
    refine Ut (S:=B5) (l:=l) B5.refl (λ_ _ _=>B5.trans) ho (Region.noSelect_spec J) (ax undef) aq ai _ b a w ab (Region.free_spec ho ad) au (.inr ⟨hw,rfl⟩) ?_;exact W8 hg J ah hK hQ n r B _ _ s ρ _ w hB U ac an ⟨m.A1,m.om,g1,g2,m.df.put g3,m.xo,m.gl⟩
  have ak:∀n,(n=0\/n=1)->y.kind=n->(∃G,y=.c G)/\∀G,y=.c G->G.Ew=(n==1):=by
   intro n hn X;cases y with
   |c G=>
    refine⟨⟨G,rfl⟩,λc' e=>?_⟩;cases e;simp only[I.kind]at X;cases hd:G.Ds
    ·cases hl:G.Ew<;>simp[hl,hd]at X<;>subst X<;>rfl
    ·simp[hd]at X;subst X;simp at hn
   |_=>simp[I.kind]at X;subst X;simp at hn
  have a5:y.kind=0\/y.kind=1\/y.kind=2\/y.kind=3\/y.kind=4\/y.kind=5:=by
   cases y with
   |c G=>simp only[I.kind];(repeat' split)<;>simp
   |_=>simp[I.kind]
  rcases a5 with h0|h1|h2|h3|h4|h5
  ·rw[O,h0]at q
   obtain⟨c1,c2⟩:=ak 0 (.inl rfl) h0;exact first false (λG e=>by simpa using c2 G e) c1 q (by simp) (by rw[<-ae,O,h0];decide)
  ·rw[O,h1]at q
   simp only[BB]at q;obtain⟨c1,c2⟩:=ak 1 (.inr rfl) h1;refine first true (λG e=>by simpa using c2 G e) c1 q.1 (λ_ j hj ay ag=>?_) (by rw[<-ae,O,h1];decide)
   have:=Es.1 q.2 j (by simpa using hj);have az:L j=3:=ay;exact yr (by simpa[az,ag]using this)
  ·rw[O,h2]at q
   exact T (by simpa using q)
  ·rw[O,h3]at q
   exact T (by simpa using q)
  ·rw[O,h4]at q
   exact T (by simpa using q)
  ·rw[O,h5]at q
   obtain⟨G,rfl,af⟩:∃G,y=.c G/\G.Ds=true:=by
    cases y with
    |c G=>
     simp only[I.kind]at h5;cases hd:G.Ds
     ·cases hl:G.Ew<;>simp[hl,hd]at h5
     ·exact⟨G,rfl,hd⟩
    |_=>simp[I.kind]at h5
   simp[C.Ds]at af
|0,.BW _ _ _,_,_,_,_,_,_,_,_,Z,_,_,_=>by simp[Vn]at Z
|0,.br _,_,_,_,_,_,_,_,_,Z,_,_,_=>by simp[Vn]at Z
|_+1,.done,_,_,_,_,_,_,_,_,Z,_,_,_=>by simp[Vn]at Z
def vy{p:Nat->Prop}:∀n,p n->∃m,p m/\∀k,p k->m<=k:=by
 intro n;induction n using Nat.strongRecOn with
 |_ n d=>
  intro c;by_cases h:∃k,p k/\k<n
  ·obtain⟨k,b,a⟩:=h;exact d k a b
  ·exact⟨n,c,λk b=>Nat.le_of_not_lt λa=>h ⟨k,b,a⟩⟩
def yS{a:Xe}:∀{l:List Nat}{p:Nat×V},p∈Xy a l->p.2=A7 a p.1
|[],p,h=>by cases h
|k::r,p,h=>by
 rcases EJ.1 h with rfl|h
 ·rfl
 ·exact yS h
def Y0h{w:World}{c:A9}{a:AF}(h:OM w c a)(o:Obj):Tr w c (Ee w o) (c.Be (AA a) (.map w.heap.size)):=
 Uo _ (Wa w o) (o:=.map w.heap.size) (h.free (X0 a)) (λb d=>by simp[RO.blk?]at d;omega)
def Yhh{sl:Xe}{k:Nat}:A7 sl k=.any\/(k,A7 sl k)∈sl:=by
 induction sl with
 |nil=>exact .inl rfl
 |cons e r a=>
  obtain⟨j,v⟩:=e;simp only[A7];split
  next e=>subst e;exact .inr (by simp)
  ·exact a.imp id (λh=>by simp[h])
def Ycd{P:BA}{c:Dz}(hg:P.g=c.g){xo:Nat->Prop}{f:Operand}{ah:Nat}{i:Xe}{Q:Zi}{l:AF}{ρ:A9}{a:Act}{w z:World}{k:A9}{fi ca:List V}{Z gs:List Value}{Y D:Nat}(ak:c.O8=true)
 (m:DM c xo ρ i l a w) (ab:Xd P.p Y=true) (h:AX P Y (fi++[.hd true (AA l)]++ca) ((AA l,.lp ah .ready i)::l) (Ll Q i (AA l)))
 (e1:a.eval f=.func (.func Y) Z.toArray gs.toArray) (r2:V.A8 w ρ fi Z) (r3:V.A8 w ρ ca gs) (t1:Tr w ρ z k) (o1:OM z k ((AA l,.lp ah .ready i)::l)) {L:Nat} (aa:k.m (AA l)=some (.map L))
 (O:c.w0.heap.size<=D/\z.heap[D]? = some (.deferred (some []))/\¬FD k D) (au:w.heap.size<=D):
 ∃(d:Deferred) (s:World) (X:FuncId) (F:Array Value) (J:World),
  (resolve a.eval (rangeCall f L) 0).run P.p z=.ok d s/\(∀X,Target.leads P.p s d.target d.args=some X->(GY none).fn X)/\
  (invoke d.target d.args).run P.p s=.ok (.enter X F) J/\((GY none).depth.isSome=true->1<=0)/\
  CallsIn (GY none) (0-1) P.p X F J (rangePost (GY none) 0 P.p L (AZ c xo Q) {a with defers:=[Hi D]++a.defers}):=by
 have aj:k.gl=P.g:=t1.gl.trans (m.gl.trans hg.symm);have hy:(V.hd true (AA l)).Ax z k (.func (.yield L) #[] #[]):=L4.2 (.inl ⟨L,aa,rfl⟩);have K:V.A8 z k (fi++[.hd true (AA l)]++ca) (Z++[Value.func (.yield L) #[] #[]]++gs):=
  CC (CC (Lq t1 _ _ r2) (by simp only[V.A8];exact⟨_,_,rfl,hy,rfl⟩)) (Lq t1 _ _ r3)
 refine⟨⟨.fn (.func Y) gs.toArray,Z.toArray++#[Value.func (.yield L) #[] #[]]⟩,z,Y,(Z++[Value.func (.yield L) #[] #[]]++gs).toArray,z,?_,λ_ _=>WY _ _,?_,λh=>(by rw[xp]at h;cases h),xn ?_⟩
 ·simp only[resolve,rangeCall,e1,Deferred.ofValue,Sem.run_pure]
  simp[Act.eval]
 ·simp only[invoke,Y8 ab]
  congr 2;apply Array.ext';simp
 ·refine(h.run z k _ o1 aj K).mono λe H ⟨N,x,aq,t,y,o2,t2⟩=>?_
  cases e with
  |panicked ch=>cases N<;>first|exact t.elim|cases y
  |outgrown=>cases N<;>cases y
  |returned u=>
   cases N with
   |panic v=>cases y
   |ret v=>
    simp only[Ll]at t;obtain⟨q,tg,ag,G,an,t⟩:∃q tg ag,AB x (AA l)=some (.lp tg q ag)/\q≠.busy/\(match q with
    |.ready=>Q .normal i (AG x (AA l) .An)
    |.ret=>Q .ret i (AG x (AA l) .An)
    |.exit n=>Q (.exit n) i (AG x (AA l) .An)
    |.busy=>False):=by
     unfold Rj at t;split at t
     next G=>exact⟨_,_,_,G,by simp,t⟩
     next G=>exact⟨_,_,_,G,by simp,t⟩
     next G=>exact⟨_,_,_,G,by simp,t⟩
     ·cases t
    obtain⟨b,fn,tm,W,qs,T,U,g1,g2,g3,g4⟩:=o2.BW _ _ G;obtain⟨o',p1,p2⟩:=t2.same _ _ aa;have ai:b=L:=by
     rw[g1]at p1;simp only[CJ]at p1;subst p1;cases p2 with
     |refl=>rfl
    subst ai;have ac:(Instr.endLoop b).run P.p H=.ok q.Dl (EV H b (.loop {state:=.exhausted,pending:=q.Dl,fn:=fn,tmps:=tm,params:=qs,assign:=T,body:=U,defers:=W})):=by
     have ad:(Instr.getLoop b).run P.p H=.ok {state:=q.st,pending:=q.Dl,fn:=fn,tmps:=tm,params:=qs,assign:=T,body:=U,defers:=W} H:=by
      simp[Instr.getLoop,getObj,Sem.run,g2]
     have al:(q.st==LoopState.busy)=false:=by cases q<;>first|exact absurd rfl an|rfl
     have ae:=UR (P:=P.p) (o:=.loop {state:=.exhausted,pending:=q.Dl,fn:=fn,tmps:=tm,params:=qs,assign:=T,body:=U,defers:=W}) H g2 rfl;simp only[Instr.endLoop,Sem.run_bind,ad,Result.andThen_ok,al,BO,Bs,ae,Sem.run_pure]
    obtain⟨t3,o3,_⟩:=VQ (w2:=EV H b (.loop {state:=.exhausted,pending:=q.Dl,fn:=fn,tmps:=tm,params:=qs,assign:=T,body:=U,defers:=W})) o2 ⟨_,G⟩ (Ud ..) (λj hj=>Wf H _ (λe=>hj _ g1 (by simp[RO.blk?,e]))) rfl rfl rfl (Bg _);have t4:=(t1.trans t2).trans t3;have m4:DM c xo (aq.Be (AA l) .An) i (AG x (AA l) .An) {a with defers:=[Hi D]++a.defers} (EV H b (.loop {state:=.exhausted,pending:=q.Dl,fn:=fn,tmps:=tm,params:=qs,assign:=T,body:=U,defers:=W})):=by
     refine⟨m.A1.tr t4,o3,m.sm.tr t4,m.size,?_,t4.xo.trans m.xo,t4.gl.trans m.gl⟩;obtain⟨ms,q1,q2,q3,q4⟩:=m.df.tr t4;have t5:=t2.trans t3;refine⟨D::ms,by simp[q1,Hi],λh=>(by rw[ak]at h;cases h),List.nodup_cons.2 ⟨λhm=>?_,q3⟩,λr y=>?_⟩
     ·obtain⟨af,ao,_,_,ap⟩:=m.df
      have:ms.map Hi++c.df=af.map Hi++c.df:=q1.symm.trans ao;have h2:=List.append_cancel_right this;have h3:Hi D∈af.map Hi:=by rw[<-h2];exact List.mem_map_of_mem hm
      obtain⟨r,y,e⟩:=DY.1 h3;have:r=D:=by simpa[Hi]using e
      subst this;have:=Xl (ap r y).2.1;omega
     ·rcases EJ.1 y with rfl|y
      ·exact⟨O.1,(t5.keep _ O.2.2 (Xl O.2.1)).trans O.2.1,λh=>(t5.DF _ h).elim O.2.2 (λh=>by have:=Xl O.2.1;omega)⟩
      ·exact q4 r y
    refine⟨q.Dl,_,ac,?_⟩;cases q with
    |ready=>exact⟨.normal,i,_,_,t,trivial,m4⟩
    |busy=>cases t
    |ret=>exact wpIn_ret ⟨.ret,i,_,_,t,trivial,m4⟩
    |exit n=>exact wpIn_exit ⟨.exit n,i,_,_,t,rfl,m4⟩
def Yce{P:BA}{c:Dz}(hg:P.g=c.g)(U:c.O8=true){xo:Nat->Prop}{f:Operand}{H:Array Nat}{z F:Code}{s:Nat}{ps:List Nat}{g:A}{x y:S}{b:List Nat}{Q:Zi}{X:Xe}{r:AF}{q:A9}{a:Act}{w:World}
 (hc:(A.Ak f g&&((H.toList==ps)&&ps.all (λk=>decide (k<c.N))&&S.Ak P.p c.N z x&&S.Ak P.p c.N F y&&x.Fh&&y.Fh))=true)
 (h:Dj P (.IJ s ps g x y b) Q X r) (m:DM c xo q X r a w):(Code.rangeFunc f H z F).wpIn (GY none) 0 P.p (AZ c xo Q) a w:=by
 simp only[Dj]at h;obtain⟨hL,G⟩:=h;rw[BB]at hc;obtain⟨h1,h2⟩:=hc;refine wpIn_rangeFunc λfn _=>?_;have v:=A.Az m.sm h1;let D:=w.heap.size;let e:=Ee w (.deferred (some []));let L:=e.heap.size;let K:Loop:={state:=.ready,pending:=none,fn:=fn,tmps:=a.tmps,params:=H,assign:=z,body:=F,defers:=D}
 have t0:Tr w q e q:=(Wa w _).tr;have o0:OM e q r:=m.om.ext (Wa w _);have t1:=Y0h o0 (.loop K);have O:w.heap.size<e.heap.size:=by show w.heap.size<(w.heap.push _).size;simp
 have hx:Je (Ee e (.loop K)) (q.Be (AA r) (.map e.heap.size)) (AA r) (.lp s .ready (Xy X b)):=by
  refine⟨L,fn,a.tmps,D,H,z,F,by simp[A9.Be,L],Wi _ _,?_,λp hp=>?_⟩
  ·show q.gl.l s H a.tmps.size z F
   rw[m.gl,<-hg,m.size];exact(hL H c.N z F).2 h2
  ·rw[yS hp]
   exact Gw (t0.trans t1) (m.sm p.1)
 obtain⟨_,o1,_⟩:=ZY o0 (.loop K) (.lp s .ready (Xy X b)) hx;have t:(Instr.enterLoop fn a.tmps H z F (GY none).round).run P.p w=.ok (L,[Hi D]) (Ee e (.loop K)):=by
  simp only[Instr.enterLoop,xq,Sem.run_bind,run_newObj,Result.andThen_ok,Sem.run_pure];rfl
 have W:¬FD q D:=λ⟨i,o,n,u⟩=>by have:=Qa m.om n u;omega
 have hD:c.w0.heap.size<=D/\(Ee e (.loop K)).heap[D]? = some (.deferred (some []))/\¬FD (q.Be (AA r) (.map e.heap.size)) D:=by
  refine⟨m.A1.size,?_,λ⟨i,o,n,u⟩=>?_⟩
  ·have:(Ee e (.loop K)).heap[D]? = e.heap[D]?:=tu e _ O
   rw[this];exact Wi _ _
  ·simp only[A9.Be]at n
   split at n
   ·cases n;simp[RO.blk?]at u;omega
   ·exact W ⟨i,o,n,u⟩
 have mk:DM c xo q (Xy X b) r a w:=⟨m.A1,m.om,m.sm.keep b,m.size,m.df,m.xo,m.gl⟩
 have T:(q.Be (AA r) (.map e.heap.size)).m (AA r)=some (.map L):=by simp[A9.Be,L]
 unfold Mr at G;split at G
 ·rename_i fk fi cc Y
  rw[Y,NJ]at v;obtain⟨fs,gs,v,r2,r3⟩:=v;obtain⟨d,J,Z,j,w2,n,u,q3,q4,q5⟩:=Ycd hg U mk G.1 G.2 v r2 r3 (t0.trans t1) o1 T hD (Bg _);exact⟨L,[Hi D],_,d,J,Z,j,w2,t,n,u,q3,q4,q5⟩
 ·rename_i fk fi cc Y
  rw[Y,Sn]at v;obtain⟨fs,gs,v,r2,r3⟩:=v;obtain⟨d,J,Z,j,w2,n,u,q3,q4,q5⟩:=Ycd hg U mk G.1 G.2 v r2 r3 (t0.trans t1) o1 T hD (Bg _);exact⟨L,[Hi D],_,d,J,Z,j,w2,t,n,u,q3,q4,q5⟩
 ·cases G
def wD{a:Array Oper}(h:WU a=true):∀o∈a.toList,∀c,o.op≠.defer c:=λo b c e=>by
 have:=Es.1 h o b;simp[e]at this
def Y3s{a b:Bool}{p:Prop}(h:(a&&b)=true\/p):a=true\/p:=h.imp (λh=>(by simp at h;exact h.1)) id
def Y3t{a b:Bool}{p:Prop}(h:(a&&b)=true\/p):b=true\/p:=h.imp (λh=>(by simp at h;exact h.2)) id
def Yz{P:BA}(hm:P.p.follows .mixedOrders=true){c:Dz}(Z:P.g=c.g){xo:Nat->Prop}{rd:Option Nat}:∀(af:Code)(s:S)(Q:Zi)(H:Xe)(r:AF)(F:A9)(a:Act)(w:World),
 S.Ak P.p c.N af s=true->(s.Fh=true\/(c.O8=true/\rd=none))->Dj P s Q H r->DM c xo F H r a w->af.wpIn (GY rd) 0 P.p (AZ c xo Q) a w
|.skip,s,Q,H,r,F,a,w,b,T,h,m=>by
 cases s<;>simp[S.Ak]at b;exact wpIn_skip ⟨.normal,H,r,F,h,trivial,m⟩
|.region id Y al,s,Q,H,r,F,a,w,b,T,h,m=>by
 cases s<;>simp only[S.Ak,BO]at b
 case Gc n t keep pk=>
  simp only[Dj]at h;simp only[BB]at b;obtain⟨⟨⟨⟨⟨X,aw⟩,O⟩,ad⟩,ai⟩,ab⟩:=b;have X:=wD X;subst aw;have O:n<=Y.size:=by simpa using O
  let Q':Exit->Act->World->Prop:=λe a w=>match e with
  |.panic ch=>OK c xo pk Q ch a w
  |e=>AZ c xo Q e a w
  have hx:B5 w {w with drawn:=w.drawn+1}:=PT w _;have ak:=W8 (Q:=Q') (QP:=Q) (K:=λH r=>Q .normal (Xy H keep) r) Z ad ai
   (λH r F a w hk m=>(⟨.normal,_,r,F,hk,trivial,m.A1,m.om,m.sm.keep keep,m.size,m.df,m.xo,m.gl⟩:AZ c xo Q .normal a w))
   (λch a w=>Iff.rfl) n t (λ_=>False) (Array.replicate Y.size false) H r F a {w with drawn:=w.drawn+1} (λ_ h=>h.elim) ab
   (λk o _ hl=>by
    rcases Fo k Y.size with h'|h'
    ·simp[h']at hl
    ·simp[h']at hl) h ⟨m.A1.tr hx.tr,m.om.ext hx,m.sm.tr hx.tr,m.size,m.df.tr hx.tr,m.xo,m.gl⟩
  have aa:=dF _ _ _ _ ak;refine wpIn_mono (wpIn_region_any hm (dj X _ _ _ _ (cO _ _ _ _ _ O aa))) (λe a' w' L=>?_);cases e with
  |panic ch=>
   obtain⟨v,J,z,q,u,h1,h2,h3,U⟩:=L;exact⟨.panic v,_,z,q,h1,⟨u,h2,h3⟩,U⟩
  |_=>exact L
 rename_i ap l keep pk;simp only[Dj]at h;rw[BB]at b;obtain⟨X,b⟩:=b;have X:=wD X;cases al with
 |false=>
  simp only[BO,Bs]at b;refine wpIn_region_list (cQ _ X _ _ (cz (c:=c) (xo:=xo) Z (λH r F a w hk m=>?_) (λv H r F a w u hk m hr=>?_) Y.toList l H r F a w b h m))
  ·exact⟨.normal,_,r,F,hk,trivial,m.A1,m.om,m.sm.keep keep,m.size,m.df,m.xo,m.gl⟩
  ·exact⟨.panic v,_,r,F,hk,⟨u,rfl,hr⟩,m.A1,m.om,m.sm.keep pk,m.size,m.df,m.xo,m.gl⟩
 |true=>
  simp only[Bu,BB]at b;obtain⟨⟨⟨O,ad⟩,ai⟩,ab⟩:=b;have O:ap.length<=Y.size:=by simpa using O
  let Q':Exit->Act->World->Prop:=λe a w=>match e with
  |.panic ch=>OK c xo pk Q ch a w
  |e=>AZ c xo Q e a w
  have hx:B5 w {w with drawn:=w.drawn+1}:=PT w _;have ak:=Z8 (Q:=Q') (QP:=Q) (K:=λH r=>Q .normal (Xy H keep) r) Z ad ai
   (λH r F a w hk m=>(⟨.normal,_,r,F,hk,trivial,m.A1,m.om,m.sm.keep keep,m.size,m.df,m.xo,m.gl⟩:AZ c xo Q .normal a w))
   (λch a w=>Iff.rfl) ap l (λ_=>False) (Array.replicate Y.size false) H r F a {w with drawn:=w.drawn+1} (λ_ h=>h.elim) ab
   (λk o _ hl=>by
    rcases Fo k Y.size with h'|h'
    ·simp[h']at hl
    ·simp[h']at hl) h ⟨m.A1.tr hx.tr,m.om.ext hx,m.sm.tr hx.tr,m.size,m.df.tr hx.tr,m.xo,m.gl⟩
  have aa:=dF _ _ _ _ ak;refine wpIn_mono (wpIn_region_any hm (dj X _ _ _ _ (cO _ _ _ _ _ O aa))) (λe a' w' L=>?_);cases e with
  |panic ch=>
   obtain⟨v,J,z,q,u,h1,h2,h3,U⟩:=L;exact⟨.panic v,_,z,q,h1,⟨u,h2,h3⟩,U⟩
  |_=>exact L
|.seq x y,s,Q,H,r,F,a,w,b,T,h,m=>by
 cases s<;>simp[S.Ak]at b;simp only[Dj]at h;refine wpIn_seq (wpIn_mono (Yz hm Z x _ _ H r F a w b.1 (Y3s T) h m) ?_);rintro e a' w' ⟨ae,J,z,q,W,L,U⟩;cases ae with
 |normal=>
  cases e<;>simp only[Dx]at L;exact Yz hm Z y _ Q J z q a' w' b.2 (Y3t T) W U
 |exit n=>
  cases e<;>simp only[Dx]at L;exact⟨.exit n,J,z,q,W,L,U⟩
 |ret=>
  cases e<;>simp only[Dx]at L;exact⟨.ret,J,z,q,W,trivial,U⟩
 |panic v=>
  cases e<;>simp only[Dx]at L;exact⟨.panic v,J,z,q,W,L,U⟩
|.cond d x y,s,Q,H,r,F,a,w,b,T,h,m=>by
 cases s<;>simp[S.Ak]at b;obtain⟨⟨h1,h2⟩,h3⟩:=b;simp only[Dj]at h;have r1:=A.Az m.sm h1;unfold Hy at h;split at h
 ·rename_i t e
  rw[e,BR]at r1;exact wpIn_cond_split r1 (λht=>Yz hm Z x _ Q H r F a w h2 (Y3s T) (h.1 ht) m) (λht=>Yz hm Z y _ Q H r F a w h3 (Y3t T) (h.2 ht) m)
 ·cases h
|.block n x,s,Q,H,r,F,a,w,b,T,h,m=>by
 cases s<;>simp[S.Ak]at b;obtain⟨rfl,h1⟩:=b;simp only[Dj]at h;refine wpIn_block (wpIn_mono (Yz hm Z x _ _ H r F a w h1 T h m) ?_);rintro e a' w' ⟨ae,J,z,q,W,L,U⟩;cases ae with
 |normal=>
  cases e<;>simp only[Dx]at L;exact⟨.normal,J,z,q,W,trivial,U⟩
 |exit k=>
  cases e<;>simp only[Dx]at L;subst L;simp only[Zs]at W;simp only[Exit.inBlock];split
  next e=>rw[BS e]at W;exact⟨.normal,J,z,q,W,trivial,U⟩
  next e=>rw[Aq e]at W;exact⟨.exit _,J,z,q,W,rfl,U⟩
 |ret=>
  cases e<;>simp only[Dx]at L;exact⟨.ret,J,z,q,W,trivial,U⟩
 |panic v=>
  cases e<;>simp only[Dx]at L;exact⟨.panic v,J,z,q,W,L,U⟩
|.loop x,s,Q,H,r,F,a,w,b,T,h,m=>by
 cases s<;>simp[S.Ak]at b;simp only[Dj]at h;obtain⟨ι,St,Ot,I,μ,i0,a2,ax,ay,aj⟩:=h.run;let G:Act->World->Nat->Prop:=λa w n=>∃i F,I i/\μ i=n/\DM c xo F (St i) (Ot i) a w;let M:Act->World->Nat:=λa w=>open Classical in if h:∃n,G a w n then Classical.choose (vy (p:=G a w) (Classical.choose h) (Classical.choose_spec h)) else 0
 have hM:∀a w n,G a w n->G a w (M a w)/\M a w<=n:=by
  intro a w n T;have ah:∃n,G a w n:=⟨n,T⟩
  have:=Classical.choose_spec (vy (p:=G a w) (Classical.choose ah) (Classical.choose_spec ah));simp only[M,ah,dif_pos];exact⟨this.1,this.2 n T⟩
 obtain⟨a6,t0,o0⟩:=ay w F m.om;replace m:=m.wk t0 o0;refine wpIn_loop (I:=λa w=>∃n,G a w n) (μ:=M) ⟨μ i0,i0,a6,a2,rfl,by rw[<-ax];exact⟨m.A1,m.om,m.sm.keep _,m.size,m.df,m.xo,m.gl⟩⟩ ?_;rintro a1 w1 ⟨n,a0⟩;obtain⟨⟨i,aq,hi,a7,m1⟩,_⟩:=hM a1 w1 n a0;refine wpIn_mono (Yz hm Z x _ _ _ _ aq a1 w1 b T (aj i hi) m1) ?_;rintro e a' w' ⟨ae,J,z,q,W,L,U⟩;cases ae with
 |normal=>
  cases e<;>simp only[Dx]at L;simp only[Wh]at W;obtain⟨ag,a8,a5,q1,q2,j,hj,an,av,au⟩:=W;obtain⟨ba,t2,o2⟩:=a5 w' q U.om;replace U:=U.wk t2 o2;have ac:∀id o,aq.m id=some o->AD (AA (Ot i)) ag id=false:=λid o h0=>by
   obtain⟨x,hx⟩:=m1.om.EY id o h0;have an:¬AA (Ot i)<=id:=λa3=>by rw[X9 _ _ a3]at hx;cases hx
   simp[AD,an]
  have ao:∀id o,c.m0 id=some o->AD (AA (Ot i)) ag id=false:=λid o h0=>by
   obtain⟨o',h1,_⟩:=m1.A1.same id o h0;exact ac id o' h1
  have az:∀p∈c.ev,V.BQ (AD (AA (Ot i)) ag) p.1=false:=λp hp=>YY ac (m1.A1.ext p hp);have Z:G a' w' (μ j):=⟨j,_,hj,rfl,by rw[<-av,<-au];exact U.sub ao az q1 q2⟩
  have:=hM a' w' _ Z;exact⟨⟨_,Z⟩,by omega⟩
 |exit k=>
  cases e<;>simp only[Dx]at L;exact⟨.exit k,J,z,q,W,L,U⟩
 |ret=>
  cases e<;>simp only[Dx]at L;exact⟨.ret,J,z,q,W,trivial,U⟩
 |panic v=>
  cases e<;>simp only[Dx]at L;exact⟨.panic v,J,z,q,W,L,U⟩
|.exit n,s,Q,H,r,F,a,w,b,T,h,m=>by
 cases s<;>simp[S.Ak]at b;subst b;exact wpIn_exit ⟨.exit n,H,r,F,h,rfl,m⟩
|.ret,s,Q,H,r,F,a,w,b,T,h,m=>by
 cases s<;>simp[S.Ak]at b;exact wpIn_ret ⟨.ret,H,r,F,h,trivial,m⟩
|.rangeFunc f qs ca cb,s,Q,H,r,F,a,w,b,T,h,m=>by
 cases s<;>simp only[S.Ak,BO]at b;rename_i a9 ps g x y keep;obtain⟨a4,rfl⟩:c.O8=true/\rd=none:=T.resolve_left (by simp[S.Fh]);exact Yce Z a4 b h m
|.scope _,s,Q,H,r,F,a,w,b,T,h,m=>by cases s<;>simp[S.Ak]at b
|.label _,s,Q,H,r,F,a,w,b,T,h,m=>by cases s<;>simp[S.Ak]at b
|.goto _,s,Q,H,r,F,a,w,b,T,h,m=>by cases s<;>simp[S.Ak]at b
|.refuse _,s,Q,H,r,F,a,w,b,T,h,m=>by cases s<;>simp[S.Ak]at b
structure Ed(w w2:World):Prop where
 size:w2.heap.size=w.heap.size
 heap:∀b:Nat,w2.heap[b]? = w.heap[b]?\/∃x y,w.heap[b]? = some (Obj.deferred x)/\w2.heap[b]? = some (Obj.deferred y)
 tape:w2.tape=w.tape
 os:w2.os=w.os
 Ck:w2.output=w.output
 drawn:w2.drawn=w.drawn
def Ed.refl(w:World):Ed w w:=⟨rfl,λ_=>.inl rfl,rfl,rfl,rfl,rfl⟩
def Ed.trans{w f g:World}(h:Ed w f)(a:Ed f g):Ed w g:=by
 refine⟨a.size.trans h.size,λb=>?_,a.tape.trans h.tape,a.os.trans h.os,a.Ck.trans h.Ck,a.drawn.trans h.drawn⟩;rcases h.heap b with d|⟨x,y,d,i⟩
 ·rcases a.heap b with c|⟨u,v,c,e⟩
  ·exact .inl (c.trans d)
  ·exact .inr ⟨u,v,d.symm.trans c,e⟩
 ·rcases a.heap b with c|⟨u,v,c,e⟩
  ·exact .inr ⟨x,y,d,c.trans i⟩
  ·exact .inr ⟨x,v,d,e⟩
section
variable {w w2:World} (s:Ed w w2)
include s
theorem Ed.keep{b:Nat}{o:Obj}(h:w.heap[b]? = some o)(c:∀x,o≠.deferred x):w2.heap[b]? = some o:=by
 rcases s.heap b with a|⟨x,y,a,_⟩
 ·exact a.trans h
 ·rw[h]at a;cases a;exact absurd rfl (c x)
theorem Ed.cell{b o:Nat}{v:Value}(h:w.cell? ⟨b,o,none⟩=some v):w2.cell? ⟨b,o,none⟩=some v:=by
 rcases s.heap b with a|⟨x,y,a,_⟩
 ·rw[cell?_congr a];exact h
 ·simp[World.cell?,a]at h
theorem Ed.cells{c:Nat->Prop}{a:Addr}{d:List Value}(h:Co w c a d):Co w2 c a d:=
 ⟨λb=>⟨(h.1 b).1,(h.1 b).2.1,by rw[s.size];exact(h.1 b).2.2⟩,λi e=>s.cell (h.2 i e)⟩
mutual
theorem D.CW{z:Nat->Prop}:∀(d:D)(c:List Value),d.Ax w z c->d.Ax w2 z c
|.int k n,c,h=>by simpa[D.Ax]using h
|.bool b,c,h=>by simpa[D.Ax]using h
|.AU s,c,h=>by simpa[D.Ax]using h
|.Ad,c,h=>by simpa[D.Ax]using h
|.B6,c,h=>by simpa[D.Ax]using h
|.CL,c,h=>by simpa[D.Ax]using h
|.Br,c,h=>by simpa[D.Ax]using h
|.CV,c,h=>by simpa[D.Ax]using h
|.Bv x,c,h=>by
 simp only[D.Ax]at h⊢;obtain⟨a,j,e,H,g,i⟩:=h;exact⟨a,j,e,H,s.cells g,D.CW x j i⟩
|.iface t x,c,h=>by
 simp only[D.Ax]at h⊢;obtain⟨u,e,g⟩:=h;refine⟨u,e,?_⟩;rcases g with⟨p,o,q,r⟩|⟨p,r⟩
 ·exact .inl ⟨p,o,q,D.CW x o r⟩
 ·exact .inr ⟨p,D.CW x _ r⟩
|.fn f G F,c,h=>by
 simp only[D.Ax]at h⊢;obtain⟨v,y,e,g,i⟩:=h;exact⟨v,y,e,YZ G v g,YZ F y i⟩
|.agg m,c,h=>by
 simp only[D.Ax]at h⊢;exact T8 m c h
|.AH sz m,c,h=>by
 simp only[D.Ax]at h⊢;rcases h with h|⟨a,l,j,g,i,J,K,L⟩
 ·exact .inl h
 ·exact .inr ⟨a,l,j,g,i,s.cells J,T8 m j K,L⟩
theorem YZ{c:Nat->Prop}:∀(f:List D)(a:List Value),FR w c f a->FR w2 c f a
|[],a,h=>by simpa only[FR]using h
|x::r,a,h=>by
 simp only[FR]at h⊢;obtain⟨u,d,e,g,i⟩:=h;refine⟨u,d,e,?_,YZ r d i⟩;rcases g with⟨p,b,q,r⟩|⟨p,r⟩
 ·exact .inl ⟨p,b,q,D.CW x b r⟩
 ·exact .inr ⟨p,D.CW x _ r⟩
theorem T8{d:Nat->Prop}:∀(f:List D)(c:List Value),Bq w d f c->Bq w2 d f c
|[],j,h=>by simpa only[Bq]using h
|x::r,j,h=>by
 simp only[Bq]at h⊢;obtain⟨a,b,e,g,i⟩:=h;exact⟨a,b,e,D.CW x a g,T8 r b i⟩
end
mutual
theorem M4{l:A9}:∀(x:V)(a:List Value),x.Al w l a->x.Al w2 l a
|.d x,a,h=>by simp only[V.Al]at h⊢;exact D.CW s x a h
|.ptr _ _,a,h=>by simpa only[V.Al]using h
|.sl _ _,a,h=>by simpa only[V.Al]using h
|.sd _ _,a,h=>by simpa only[V.Al]using h
|.mp _,a,h=>by simpa only[V.Al]using h
|.hd _ _,a,h=>by simpa only[V.Al]using h
|.ep _ _ _ _ _ _,a,h=>by simpa only[V.Al]using h
|.bs _ _ _ _,a,h=>by simpa only[V.Al]using h
|.fn f n m,a,h=>by
 simp only[V.Al]at h⊢;obtain⟨i,j,e,b,o⟩:=h;exact⟨i,j,e,T9 n i b,T9 m j o⟩
|.agg c,a,h=>by simp only[V.Al]at h⊢;exact ZA c a h
|.iface t x,a,h=>by
 simp only[V.Al]at h⊢;obtain⟨u,e,b⟩:=h;refine⟨u,e,?_⟩;rcases b with b|⟨p,g,q,r⟩|⟨p,r⟩
 ·exact .inl b
 ·exact .inr (.inl ⟨p,g,q,M4 x g r⟩)
 ·exact .inr (.inr ⟨p,M4 x _ r⟩)
|.BT c,a,h=>by
 simp only[V.Al]at h⊢;obtain⟨k,e,b⟩:=h;exact⟨k,e,T9 c k b⟩
|.undef,a,h=>by simpa only[V.Al]using h
|.any,a,h=>by simpa only[V.Al]using h
theorem ZA{f:A9}:∀(d:List V)(a:List Value),Bz w f d a->Bz w2 f d a
|[],a,h=>by simpa only[Bz]using h
|x::r,a,h=>by
 simp only[Bz]at h⊢;obtain⟨b,c,e,g,i⟩:=h;exact⟨b,c,e,M4 x b g,ZA r c i⟩
theorem T9{g:A9}:∀(f:List V)(a:List Value),V.A8 w g f a->V.A8 w2 g f a
|[],a,h=>by simpa only[V.A8]using h
|x::r,a,h=>by
 simp only[V.A8]at h⊢;obtain⟨u,d,e,b,i⟩:=h;refine⟨u,d,e,?_,T9 r d i⟩;rcases b with b|⟨p,c,q,r⟩|⟨p,r⟩
 ·exact .inl b
 ·exact .inr (.inl ⟨p,c,q,M4 x c r⟩)
 ·exact .inr (.inr ⟨p,M4 x _ r⟩)
end
theorem V.CW{b:A9}{x:V}{u:Value}(h:x.Ax w b u):x.Ax w2 b u:=by
 rcases h with c|⟨p,a,q,r⟩|⟨p,r⟩
 ·exact .inl c
 ·exact .inr (.inl ⟨p,a,q,M4 s x a r⟩)
 ·exact .inr (.inr ⟨p,M4 s x _ r⟩)
theorem Yj.same{c:A9}:∀(l:List (D×V)) (b:List MapEntry),Yj w c l b->Yj w2 c l b
|[],b,h=>h
|(k,v)::r,b,h=>by
 obtain⟨e,a,d,f,g,i⟩:=h;exact⟨e,a,d,f,V.CW s g,Yj.same r a i⟩
theorem Je.same{q:A9}{id:Nat}{x:Ob}(h:Je w q id x):Je w2 q id x:=by
 cases x with
 |box E t=>
  obtain⟨b,g,a,c,d⟩:=h;exact⟨b,g,a,s.keep c (by simp),M4 s _ _ d⟩
 |BG E H L=>
  rcases h with k|⟨b,e,g,o,a,c,d,f⟩
  ·exact .inl k
  ·exact .inr ⟨b,e,g,o,a,s.keep c (by simp),T8 s _ _ d,f⟩
 |Ay E H L=>
  rcases h with k|⟨b,e,g,o,a,c,d,f⟩
  ·exact .inl k
  ·exact .inr ⟨b,e,g,o,a,s.keep c (by simp),ZA s _ _ d,f⟩
 |map N=>
  obtain⟨b,l,i,a,c,d,f⟩:=h;exact⟨b,l,i,a,s.keep c (by simp),Yj.same s _ _ d,f⟩
 |lp J P O=>
  obtain⟨b,y,K,v,G,r,u,a,c,d,f⟩:=h;exact⟨b,y,K,v,G,r,u,a,s.keep c (by simp),d,λp z=>V.CW s (f p z)⟩
 |it m n seen=>
  cases m with
  |none=>obtain⟨b,a,c⟩:=h;exact⟨b,a,s.keep c (by simp)⟩
  |some j=>obtain⟨b,F,a,d,c⟩:=h;exact⟨b,F,a,d,s.keep c (by simp)⟩
 |An=>exact h
theorem OM.same{c:A9}{d:AF}(h:OM w c d)(e:∀b o,c.gl b=some o->w2.heap[b]? = w.heap[b]?):OM w2 c d:=
 ⟨λid x f=>Je.same s (h.BW id x f),h.EY,h.inj,λb a=>by rw[s.size];exact h.E9 b a,λb o a=>⟨(e b o a).trans (h.EF b o a).1,(h.EF b o a).2⟩,h.Dm,h.Cn⟩
theorem SM.same{c:A9}{b:Xe}{a:Act}(h:SM w c b a):SM w2 c b a:=λk=>V.CW s (h k)
end
def Yic{P:Program}{w:World}{r:Nat}(h:w.heap[r]? = some (.deferred (some []))):
 (Instr.takeDeferred r).run P w=.ok [] (EV w r (.deferred none))/\Ed w (EV w r (.deferred none))/\∀b,b≠r->(EV w r (.deferred none)).heap[b]? = w.heap[b]?:=by
 have a:(getObj r).run P w=.ok (.deferred (some [])) w:=by simp[getObj,Sem.run,h]
 have c:=UR (P:=P) (o:=.deferred none) w h rfl;refine⟨by simp only[Instr.takeDeferred,Sem.run_bind,a,Result.andThen_ok,c,Sem.run_pure],⟨Ud ..,λb=>?_,rfl,rfl,rfl,rfl⟩,λb d=>Wf w _ (Ne.symm d)⟩;by_cases e:b=r
 ·subst e;exact .inr ⟨_,_,h,VA w _ (Xl h)⟩
 ·exact .inl (Wf w _ (Ne.symm e))
def Jw{F:Fence}{n:Nat}{P:Program}{g:Func}{a:Array Value}{R:Ending->World->Prop}:∀(d:List Nat)(w:World),d.Nodup->(∀r∈d,w.heap[r]? = some (.deferred (some [])))->
 (∀c,Ed w c->(∀b,b∉d->c.heap[b]? = w.heap[b]?)->∃v,(results g a).run P c=.ok v c/\R (.returned v) c)->LeavesInM F n P g a R (d.map Hi) .returning w
|[],w,_,_,h=>by
 simp only[Ht,LeavesInM,LeavesIn];exact h w (Ed.refl w) (λ_ _=>rfl)
|r::d,w,q,m,h=>by
 obtain⟨o,p,i⟩:=Yic (P:=P) (m r (by simp));obtain⟨t,f⟩:=List.nodup_cons.1 q;simp only[Cw,LeavesInM];refine⟨by simp,.inl ⟨r,_,rfl,o,Jw d _ f (λj l=>?_) (λc s u=>?_)⟩⟩
 ·rw[i j (λe=>t (e▸l))];exact m j (by simp[l])
 ·exact h c (p.trans s) (λb k=>(u b (λe=>k (by simp[e]))).trans (i b (λe=>k (by simp[e]))))
inductive RV where
|t (k:Nat)
|c (k n:Nat) (ag:Bool)
def RV.Ak(P:Program):ResultVar->RV->Bool
|.tmp j,.t k=>j==k
|.cell a b,.c k n d=>a==k&&Yl P b==some n&&(P.underlying b).isSome&&GV P b==d
|_,_=>false
def Jh(P:Program):List ResultVar->List RV->Bool
|[],[]=>true
|x::r,y::s=>y.Ak P x&&Jh P r s
|_,_=>false
def RV.wp(a:Xe)(d:AF)(K:V->Prop):RV->Prop
|.t k=>K (A7 a k)
|.c k n b=>En d n b K (A7 a k)
def Qe(b:Xe)(a:AF):List RV->(List V->Prop)->Prop
|[],K=>K []
|x::r,K=>x.wp b a λv=>Qe b a r λc=>K (v::c)
def Qt:List V->V
|[v]=>v
|a=>.BT a
def Uy(K:List D->AF->Prop):Option (List D×AF)->Prop
|some (l,a)=>K l a
|none=>False
def Ih(e:List RV)(K:V->Prop):Zi
|.normal,b,a=>Qe b a e λc=>Uy (λl _=>K (Qt (l.map .d))) (D1 a c)
|.ret,b,a=>Qe b a e λc=>Uy (λl _=>K (Qt (l.map .d))) (D1 a c)
|.exit _,_,_=>False
|.panic _,_,_=>False
def Lh(v:V)(b:AF)(K:V->AF->Prop):Option (D×AF)->Prop
|some (d,a)=>K (.d d) a
|none=>K v b
def HB:List V->AF->(List V->AF->Prop)->Prop
|[],b,K=>K [] b
|v::r,b,K=>Lh v b (λd c=>HB r c λe a=>K (d::e) a) (Du b v)
def Yk(n:Nat)(K:AF->Prop)(c:List V)(b:AF):Prop:=
 ∃a:List Nat,BY (AD n a) c=false/\AI (AD n a) (Xk (AD n a) b)=true/\K (Xk (AD n a) b)
def Hx(n:Nat)(d:List RV)(K:BN->AF->Prop):Zi
|.normal,c,a=>Qe c a d λb=>HB b a λb a=>Yk n (K (.ret (Qt b))) b a
|.ret,c,a=>Qe c a d λb=>HB b a λb a=>Yk n (K (.ret (Qt b))) b a
|.panic v,_,a=>Yk n (K (.panic v)) [v] a
|.exit _,_,_=>False
def EK(k:Nat):List V->Xe
|[]=>[]
|v::r=>(k,v)::EK (k+1) r
def K8(P:Program)(f n:Nat)(s:S)(c:List RV):Bool:=match P.funcs[f]? with
|some b=>match b.body with
 |some a=>decide (n<=b.ntmps)&&S.Ak P b.ntmps a s&&Jh P b.results.toList c
 |none=>false
|none=>false
def Xp(P:Program)(f n:Nat)(s:S)(a:List RV):Bool:=K8 P f n s a&&s.Fh
section
variable {P:Program} {w:World} {ρ:A9}
def QZ(a:Act)(r:ResultVar):Sem Value:=match r with
|.tmp t=>pure (a.tmps.getD t undef)
|.cell x t=>do loadVar t (<-asAddr (a.tmps.getD x undef))
def yi{a:Act}{q:Xe}{o:AF}(m:SM w ρ q a)(F:OM w ρ o):∀(H:List ResultVar)(G:List RV)(K:List V->Prop),Jh P H G=true->Qe q o G K->
 ∃d f,K d/\V.A8 w ρ d f/\(H.mapM (QZ a)).run P w=.ok f w
|[],[],K,_,h=>⟨[],[],h,by simp[V.A8],by simp⟩
|x::r,y::s,K,b,h=>by
 simp only[Jh,BB]at b;simp only[Qe]at h;have BW:∃v u,Qe q o s (λd=>K (v::d))/\v.Ax w ρ u/\(QZ a x).run P w=.ok u w:=by
  cases x with
  |tmp t=>
   cases y with
   |t k=>simp[RV.Ak]at b;obtain⟨rfl,_⟩:=b;exact⟨_,_,h,m t,by simp[QZ]⟩
   |c k n ag=>simp[RV.Ak]at b
  |cell z t=>
   cases y with
   |t k=>simp[RV.Ak]at b
   |c k n ag=>
    simp only[RV.Ak,BB,C9]at b;obtain⟨⟨⟨⟨rfl,i⟩,j⟩,l⟩,_⟩:=b;simp only[RV.wp]at h;obtain⟨v,y,N,O,e⟩:=SZ (P:=P) (a:=a) (n:=n) (ag:=ag) (x:=.t z) (op:=.load t (.tmp z)) m F (by simp[C.Ak,i,j,l,A.Ak]) (by simpa[A.ev]using h);refine⟨y,v,N,O,?_⟩
    have:=e ⟨none,.load t (.tmp z),0, "", #[],none⟩ rfl w (λ_=>B5.refl w)
    simp only[execOp,Act.eval,Sem.run_bind,Instr.loadAt]at this;simp only[QZ,Sem.run_bind];generalize T:a.tmps.getD z undef=pv at *;cases pv with
    |pointer g=>
     cases g with
     |none=>simp[Instr.sureAddr]at this
     |some g=>
      simp only[Instr.sureAddr,Sem.run_pure,Result.andThen_ok]at this;simp only[asAddr,Sem.run_pure,Result.andThen_ok];revert this;generalize (loadVar t g).run P w=p;intro this;cases p with
      |ok x Q=>simp at this;obtain⟨rfl,rfl⟩:=this;rfl
      |halt x Q=>simp at this
    |_=>simp[Instr.sureAddr]at this
 obtain⟨v,u,i,j,l⟩:=BW;obtain⟨d,f,k,J,L⟩:=yi m F r s _ b.2 i;refine⟨v::d,u::f,k,?_,?_⟩
 ·simp only[V.A8];exact⟨u,f,rfl,j,J⟩
 ·simp only[List.mapM_cons,Sem.run_bind,l,Result.andThen_ok,L,Sem.run_pure]
|[],_::_,_,b,_=>by simp[Jh]at b
|_::_,[],_,b,_=>by simp[Jh]at b
def I5:List Value->Value
|[u]=>u
|a=>.tuple a.toArray
def Ub{fn:Func}{a:Act}{f:Xe}{d:AF}{e:List RV}{K:List V->Prop}(o:SM w ρ f a)(m:OM w ρ d)(n:Jh P fn.results.toList e=true)(h:Qe f d e K):
 ∃b c,K b/\V.A8 w ρ b c/\(results fn a.tmps).run P w=.ok (I5 c) w:=by
 obtain⟨b,c,k,g,i⟩:=yi (P:=P) o m _ _ _ n h;refine⟨b,c,k,g,?_⟩;have j:(fn.results.mapM (QZ a)).run P w=.ok c.toArray w:=by
  rw[Array.mapM_eq_mapM_toList];simp only[Sem.run_map,i,Result.andThen_ok]
 have l:results fn a.tmps=(fn.results.mapM (QZ a) >>= λb=>pure (if h:b.size=1 then b[0] else .tuple b)):=rfl;rw[l,Sem.run_bind];simp only[j,Result.andThen_ok,Sem.run_pure];congr 1;cases c with
 |nil=>simp[I5]
 |cons u r=>
  cases r with
  |nil=>simp[I5]
  |cons q p=>simp[I5]
def J2{c:List V}{e:List Value}(h:V.A8 w ρ c e):(Qt c).Ax w ρ (I5 e):=by
 cases c with
 |nil=>
  simp only[V.A8]at h;subst h;rw[show Qt []=.BT [] from rfl,CP];exact⟨[],rfl,by simp[V.A8]⟩
 |cons v r=>
  simp only[V.A8]at h;obtain⟨u,k,rfl,d,a⟩:=h;cases r with
  |nil=>simp only[V.A8]at a;subst a;exact d
  |cons m l=>
   have f:=a;simp only[V.A8]at a;obtain⟨j,b,rfl,g,i⟩:=a;show(V.BT _).Ax w ρ _;rw[CP];refine⟨_,rfl,?_⟩;simp only[V.A8];exact⟨u,_,rfl,d,j,b,rfl,g,i⟩
def cv:∀(s:List V)(i:List Value){ρ:A9}{g a:AF}{l:List D},OM w ρ g->V.A8 w ρ s i->D1 g s=some (l,a)->∃c,Tr w ρ w c/\OM w c a/\V.A8 w c (l.map .d) i
|[],i,ρ,g,a,l,j,h,e=>by
 simp only[D1,CJ,GH]at e;obtain⟨rfl,rfl⟩:=e;exact⟨ρ,Tr.refl _ _,j,by simpa only[Ht,V.A8]using h⟩
|x::r,i,ρ,g,a,l,j,h,e=>by
 simp only[D1]at e;simp only[V.A8]at h;obtain⟨u,f,rfl,t,v⟩:=h;split at e
 ·rename_i K m y;obtain⟨J,o,F,z⟩:=VP j (u:=u) t y;cases b:D1 m r with
  |none=>simp[b,Qg]at e
  |some q=>
   obtain⟨L,H⟩:=q;simp only[b,Qg,CJ,GH]at e;obtain⟨rfl,rfl⟩:=e;obtain⟨n,p,G,k⟩:=cv r f F (Lq o _ _ v) b;exact⟨n,o.trans p,G,by simp only[Cw,V.A8];exact⟨u,f,rfl,Gw p z,k⟩⟩
 ·cases e
def dI:∀(v:List V)(i:List Value){ρ:A9}{f:AF}{K:List V->AF->Prop},OM w ρ f->V.A8 w ρ v i->HB v f K->∃d b a,K d b/\Tr w ρ w a/\OM w a b/\V.A8 w a d i
|[],i,ρ,f,K,g,h,e=>by
 simp only[HB]at e;exact⟨[],f,ρ,e,Tr.refl _ _,g,h⟩
|x::r,i,ρ,f,K,g,h,e=>by
 simp only[HB]at e;simp only[V.A8]at h;obtain⟨u,c,rfl,n,p⟩:=h;cases j:Du f x with
 |none=>
  simp only[j,Lh]at e;obtain⟨d,b,a,k,t,o,l⟩:=dI r c g p e;exact⟨_,b,a,k,t,o,by simp only[V.A8];exact⟨u,c,rfl,Gw (u:=u) t n,l⟩⟩
 |some q=>
  obtain⟨G,z⟩:=q;simp only[j,Lh]at e;obtain⟨F,s,y,l⟩:=VP g (u:=u) n j;obtain⟨d,b,a,k,t,o,m⟩:=dI r c y (Lq s _ _ p) e;exact⟨_,b,a,k,s.trans t,o,by simp only[V.A8];exact⟨u,c,rfl,Gw t l,m⟩⟩
def P4{b:List V}{a:List Value}(h:V.A8 w ρ b a):∀(k:Nat)(t:Array Value),(∀i (c:i<a.length),t.getD (k+i) undef=a[i])->∀j,(A7 (EK k b) j).Ax w ρ (t.getD j undef):=by
 induction b generalizing a with
 |nil=>intro k t _ j;exact J0
 |cons v r l=>
  simp only[V.A8]at h;obtain⟨u,m,rfl,f,g⟩:=h;intro k t d j;simp only[EK,A7];split
  next e=>subst e;have:=d 0 (by simp);simp only[Nat.add_zero,List.getElem_cons_zero]at this;rw[this];exact f
  ·refine l g (k+1) t (λi c=>?_) j;have:=d (i+1) (by simpa using c);simp only[List.getElem_cons_succ]at this;rw[<-this];congr 1;omega
def Jf{c:A9}(i:GO w (CH ρ) w (CH c)):∀(j:List V)(a:List Value)(f:List D),j=f.map .d->V.A8 w ρ j a->V.A8 w c j a
|[],a,f,_,h=>by simpa[V.A8]using h
|v::r,a,[],e,h=>by simp at e
|v::r,a,d::f,e,h=>by
 simp only[Cw,HN]at e;obtain⟨rfl,e⟩:=e;simp only[V.A8]at h⊢;obtain⟨u,b,rfl,g,k⟩:=h;refine⟨u,b,rfl,?_,Jf i r b f e k⟩;rcases g with g|⟨p,x,q,r⟩|⟨p,r⟩
 ·cases g
 ·exact .inr (.inl ⟨p,x,q,by simp only[V.Al]at r⊢;exact Ho i d x r⟩)
 ·exact .inr (.inr ⟨p,by simp only[V.Al]at r⊢;exact Ho i d _ r⟩)
def Zm:∀{b:List V}{a:List Value},V.A8 w ρ b a->a.length=b.length
|[],a,h=>by simp[V.A8]at h;simp[h]
|v::r,a,h=>by
 simp only[V.A8]at h;obtain⟨u,d,rfl,_,c⟩:=h;simp[Zm c]
def Xw9{P:BA}(Z:P.p.follows .mixedOrders=true){f:Nat}{s:S}{rs:List RV}{Q:List D}{ak:AF}{K:V->Prop}(J:K8 P.p f Q.length s rs=true)
 (h:Dj P s (Ih rs K) (EK 0 (Q.map .d)) []):AW P f (Q.map .d) ak K:=by
 unfold K8 at J;split at J
 ·rename_i fn hf;split at J
  ·rename_i W k;simp only[BB,DK]at J;obtain⟨⟨hn,G⟩,H⟩:=J;refine⟨λw ρ t X hg hr=>callsIn_wide.1 (callsIn_of_wp_marks (n:=0) hf k trivial ?_)⟩;let z:A9:=⟨λ_=>none,CH ρ,ρ.gl⟩
   let c:Dz:=⟨w,λ_=>False,fn.ntmps,[],P.g,λ_=>none,[],true⟩
   have a:∀b,¬FD z b:=λb ⟨_,_,h,_⟩=>by cases h
   have ag:∀b,CH ρ b->b<w.heap.size:=λb h=>h.elim (λ⟨_,_,G,H⟩=>Qa X G H) (X.E9 b);have mo:GO w (CH ρ) w (CH z):=λb G _=>⟨rfl,λH=>H.elim (a b) G⟩;have ah:=Jf mo _ _ Q rfl hr;have ao:t.length=Q.length:=by simpa using Zm hr
   have m:DM c (CH ρ) z (EK 0 (Q.map .d)) [] {tmps:=t.toArray++Array.replicate (fn.ntmps-t.toArray.size) undef,defers:=[] } w:=by
    refine⟨⟨Bg _,λ_ _ _=>rfl,λb h=>absurd h (a b),rfl,rfl,rfl,(λid o h=>by cases h),(λp hp=>by cases hp),Bg _⟩,⟨λj x hx=>(by simp[AB]at hx),λj o hj=>(by cases hj),λi j o p b hi=>(by cases hi),λb k=>ag b k,λb o k=>⟨(X.EF b o k).1,λh=>h.elim (a b) (X.EF b o k).2⟩,λb k=>absurd k (a b),trivial⟩,?_,?_,FA.nil,rfl,hg⟩
    ·refine P4 ah 0 _ (λi hi=>?_);simp[M5,hi]
    ·simp[c];omega
   refine wpIn_mono (Yz (rd:=none) Z rfl W s _ _ _ z _ w G (.inr ⟨rfl,rfl⟩) h m) ?_;rintro e a' U ⟨ae,al,O,ad,T,he,y⟩;have F:Qe al O rs (λvs=>Uy (λl _=>K (Qt (l.map .d))) (D1 O vs))->LeavesInM Fence.wide 0 P.p fn a'.tmps (λe U=>∃v u,K v/\e=.returned u/\v.Ax U ρ u/\B5 w U) a'.defers .returning U:=by
    intro T;obtain⟨ms,q1,_,q3,q4⟩:=y.df;have q1:a'.defers=ms.map Hi:=by rw[q1];simp[c]
    rw[q1];refine Jw ms U q3 (λr hr=>(q4 r hr).2.1) (λw2 sm hs=>?_);have af:∀b o,ad.gl b=some o->w2.heap[b]? = U.heap[b]?:=λb o k=>hs b (λZ=>by
     have h3:=(X.EF b o (by rw[hg,<-show ad.gl=P.g from y.gl];exact k)).1;have:=(q4 b Z).1;have:=Xl h3;show False;simp only[c]at *;omega)
    have ac:=OM.same sm y.om af;obtain⟨vs,us,hk,aa,ab⟩:=Ub (P:=P.p) (fn:=fn) (SM.same sm y.sm) ac H T;cases L:D1 O vs with
    |none=>simp[L,Uy]at hk
    |some q=>
     obtain⟨l,ap⟩:=q;simp only[L,Uy]at hk;obtain⟨an,t2,o2,ai⟩:=cv vs us ac aa L;have aj:GO w2 (CH an) w2 (CH ρ):=λb G _=>⟨rfl,λH=>G (.inr (by rw[t2.xo,y.xo];exact H))⟩;have N:=Jf aj _ _ l rfl ai;have Y:B5 w w2:=⟨by rw[sm.size];exact y.A1.size,λb k=>(hs b (λZ=>by have:=(q4 b Z).1;simp only[c]at this;omega)).trans (y.A1.keep b k (λh=>h)),sm.tape.trans y.A1.tape,sm.os.trans y.A1.os,sm.Ck.trans y.A1.Ck,by rw[sm.drawn];exact y.A1.drawn⟩
     exact⟨I5 us,ab,Qt (l.map .d),I5 us,hk,rfl,J2 N,Y⟩
   cases ae with
   |normal=>
    cases e<;>simp only[Dx]at he;exact F T
   |ret=>
    cases e<;>simp only[Dx]at he;exact F T
   |exit n=>cases T
   |panic v=>cases T
  ·simp at J
 ·simp at J
def X2m{P:BA}(g:P.p.follows .mixedOrders=true){f:Nat}{s:S}{e:List RV}{a:List D}{b:AF}{K:V->Prop}(c:Xp P.p f a.length s e=true)
 (h:Dj P s (Ih e K) (EK 0 (a.map .d)) []):AW P f (a.map .d) b K:=by
 simp only[Xp,BB]at c;exact Xw9 g c.1 h
def de{a:Nat->Bool}{b:List V}{c:List Value}(d:BY a b=false)(h:V.A8 w ρ b c):V.A8 w (ρ.CY a) b c:=Rq b c d h
def Ob.DB(a:Nat->Bool):Ob->Prop
|.box _ t=>V.BQ a t=false
|.Ay _ _ d=>BY a d=false
|.map b=>Zd a b=false
|.lp _ _ c=>Z0 a c=true
|.it m _ _=>mN a m=false
|_=>True
def Wp{b:Nat->Bool}:∀(c:AF),(∀e∈c,e.2.DB b)->AI b c=true
|[],_=>rfl
|(j,.box E t)::r,h=>by
 simp only[AI,BB,GK];exact⟨h (j,.box E t) (by simp),Wp r λe a=>h e (by simp[a])⟩
|(j,.Ay E z t)::r,h=>by
 simp only[AI,BB,GK];exact⟨h (j,.Ay E z t) (by simp),Wp r λe a=>h e (by simp[a])⟩
|(j,.map t)::r,h=>by
 simp only[AI,BB,GK];exact⟨h (j,.map t) (by simp),Wp r λe a=>h e (by simp[a])⟩
|(j,.BG _ _ _)::r,h=>by simp only[AI];exact Wp r λe a=>h e (by simp[a])
|(j,.An)::r,h=>by simp only[AI];exact Wp r λe a=>h e (by simp[a])
|(j,.lp f d t)::r,h=>by
 simp only[AI,BB];exact⟨h (j,.lp f d t) (by simp),Wp r λe a=>h e (by simp[a])⟩
|(j,.it m n t)::r,h=>by
 simp only[AI,BB,GK];exact⟨h (j,.it m n t) (by simp),Wp r λe a=>h e (by simp[a])⟩
def yZ{a:Nat->Bool}(d:∀id o,ρ.m id=some o->a id=false):∀(l:List (D×V)) (c:List MapEntry),Yj w ρ l c->Zd a l=false
|[],_,_=>rfl
|(k,v)::r,c,h=>by
 obtain⟨e,b,_,_,f,g⟩:=h;simp only[Zd,YY d f,yZ d r b g,Bool.or_self]
def db{a:Nat->Bool}:∀(b:Xe),(∀p∈b,V.BQ a p.2=false)->Z0 a b=true
|[],_=>rfl
|(j,v)::r,h=>by
 simp only[Z0,BB,GK];exact⟨h (j,v) (by simp),db r λp c=>h p (by simp[c])⟩
def Je.DB{d:Nat->Bool}(c:∀id o,ρ.m id=some o->d id=false){j:Nat}{x:Ob}(h:Je w ρ j x):x.DB d:=by
 cases x with
 |box E t=>obtain⟨b,g,_,_,a⟩:=h;exact M3 c _ _ a
 |Ay E r u=>
  rcases h with⟨_,rfl⟩|⟨b,e,g,K,_,_,a,_⟩
  ·rfl
  ·exact YX c _ _ a
 |map F=>obtain⟨b,l,f,_,_,a,_⟩:=h;exact yZ c _ _ a
 |BG E r u=>trivial
 |An=>trivial
 |lp s L q=>
  obtain⟨b,G,N,z,J,v,y,_,_,_,a⟩:=h;exact db q λp k=>YY c (a p k)
 |it m n seen=>
  cases m with
  |none=>rfl
  |some i=>
   obtain⟨b,H,_,a,_⟩:=h;rcases a with a|a<;>exact c _ _ a
def X02{P:BA}(hm:P.p.follows .mixedOrders=true){f:Nat}{s:S}{rs:List RV}{d:List V}{G:AF}{K:BN->AF->Prop}(k:Xp P.p f d.length s rs=true)
 (h:Dj P s (Hx (AA G) rs K) (EK 0 d) G):AX P f d G K:=by
 simp only[Xp,BB]at k;obtain⟨k,aa⟩:=k;unfold K8 at k;split at k
 ·rename_i fn hf;split at k
  ·rename_i N hb;simp only[BB,DK]at k;obtain⟨⟨hn,z⟩,X⟩:=k;refine⟨λw ρ j hO hg hr=>calls_of_wp hf hb ?_⟩;let c:Dz:=⟨w,FD ρ,fn.ntmps,[],P.g,ρ.m,[],false⟩
   have ah:j.length=d.length:=by simpa using Zm hr
   have m:DM c ρ.xo ρ (EK 0 d) G {tmps:=j.toArray++Array.replicate (fn.ntmps-j.toArray.size) undef,defers:=[] } w:=by
    refine⟨⟨Bg _,λ_ _ _=>rfl,λb h=>.inr h,rfl,rfl,rfl,λid o h=>⟨o,h,.refl o⟩,(λp hp=>by cases hp),Bg _⟩,hO,?_,?_,FA.nil,rfl,hg⟩
    ·refine P4 hr 0 _ (λi hi=>?_);simp[M5,hi]
    ·simp[c];omega
   refine wp_mono (wpIn_wide.1 (Yz (rd:=none) hm rfl N s _ _ _ ρ _ w z (.inl aa) h m)) ?_;rintro e a' H ⟨ae,ad,r,ag,L,U,q⟩;have ac:∀l id o,ρ.m id=some o->AD (AA G) l id=false:=λl id o h0=>by
    obtain⟨x,hx⟩:=hO.EY id o h0;have Z:¬AA G<=id:=λY=>by rw[X9 _ _ Y]at hx;cases hx
    simp[AD,Z]
   have tr:∀{a:A9},Tr H ag H a->∀l,Tr w ρ H (a.CY (AD (AA G) l)):=λ{a} t l=>by
    have y:=q.A1.tr t;refine⟨y.size,λb z X=>y.keep b X z,λb z=>(y.DF b (W2 z)).symm,?_,?_,λid o z=>?_,y.tape,y.os,y.Ck,y.drawn⟩
    ·show a.xo=ρ.xo;rw[t.xo,q.xo]
    ·show a.gl=ρ.gl;rw[t.gl,q.gl,hg]
    ·obtain⟨o',h3,h4⟩:=y.same id o z;exact⟨o',by simp only[A9.CY,ac l id o z];exact h3,h4⟩
   have F:Qe ad r rs (λd=>HB d r λd r=>Yk (AA G) (K (.ret (Qt d))) d r)->a'.defers=[]/\∃v,(results fn a'.tmps).run P.p H=.ok v H/\∃T J a,K T J/\Vz H a (.returned v) T/\OM H a J/\Tr w ρ H a:=by
    intro L;obtain⟨d,us,hk,O,Q⟩:=Ub (P:=P.p) (fn:=fn) q.sm q.om X L;obtain⟨af,J,a,⟨l,W,k2,k3⟩,t2,o2,ab⟩:=dI d us q.om O hk;exact⟨q.df.eq rfl,I5 us,Q,.ret (Qt af),_,_,k3,J2 (de W ab),o2.CY k2,tr t2 l⟩
   cases ae with
   |normal=>
    cases e<;>simp only[Dx]at U;exact F L
   |ret=>
    cases e<;>simp only[Dx]at U;exact F L
   |exit n=>cases L
   |panic v=>
    cases e<;>simp only[Dx]at U;obtain⟨u,rfl,hu⟩:=U;obtain⟨l,W,k2,k3⟩:=L;simp only[BY,Bool.or_false]at W;exact⟨q.df.eq rfl,.panic v,_,_,k3,⟨u,rfl,M1 W hu⟩,q.om.CY k2,tr (Tr.refl _ _) l⟩
  ·simp at k
 ·simp at k
def AX.D8{P:BA}{f:Nat}{k:List V}{b:AF}{K:BN->AF->Prop}(h:(∀a,BY (AD (AA b) a) k=false)->(∀a,AI (AD (AA b) a) b=true)->AX P f k b K):AX P f k b K:=by
 refine⟨λw ρ c g r l=>?_⟩;have d:∀a id o,ρ.m id=some o->AD (AA b) a id=false:=λa id o p=>by
  obtain⟨x,n⟩:=g.EY id o p;have j:¬AA b<=id:=λi=>by rw[X9 _ _ i]at n;cases n
  simp[AD,j]
 exact(h (λa=>PW (d a) _ _ l) (λa=>Wp b λe q=>(g.BW e.1 _ (g.Cn.A7 e q)).DB (d a))).run w ρ c g r l
def Yhu{P:BA}{p:Program}(e:P.p=p)(i:p.follows .mixedOrders=true){f:Nat}{s:S}{c:List RV}{a:List D}{b:AF}{K:V->Prop}(g:Xp p f a.length s c=true)
 (h:Dj P s (Ih c K) (EK 0 (a.map .d)) []):AW P f (a.map .d) b K:=by
 subst e;exact X2m i g h
end
section
variable (P:BA) (K:V->Prop) (KO:V->AF->Prop) (Pn:V->AF->Prop) (Q:Zi) (next:Xe->AF->Prop) (sl:Xe) (ob:AF) (r:Xe) (ro:AF) (v v':V) (x y z:A) (k j n:Nat) (b c:Bool) (m m':Int) (kd kd':IntKind) (s s':List UInt8) (xs:List D) (vs:List V) (d:D)
@[simp]def hE:A7 ((k,v)::r) k=v:=by simp[A7]
@[simp]def ur(h:(j==k)=false):A7 ((j,v)::r) k=A7 r k:=by simp at h;simp[A7,h]
@[simp]def lookO_eq(o:Ob):AB ((k,o)::ro) k=some o:=by simp[AB]
@[simp]def Xzm(o:Ob)(h:(j==k)=false):AB ((j,o)::ro) k=AB ro k:=by simp at h;simp[AB,h]
@[simp]def setO_eq(o a:Ob):AG ((k,o)::ro) k a=(k,a)::ro:=by simp[AG]
@[simp]def Ycq(o a:Ob)(h:(j==k)=false):AG ((j,o)::ro) k a=(j,o)::AG ro k a:=by simp at h;simp[AG,h]
@[simp]def put_some:put sl (some k) v=(k,v)::sl:=by simp only[put]
@[simp]def put_none:put sl none v=sl:=by simp only[put]
@[simp]def XN:A.ev sl (.t k)=A7 sl k:=by simp only[A.ev]
@[simp]def ev_int:A.ev sl (.int kd m)=.d (.int kd m):=by simp only[A.ev]
@[simp]def ev_bool:A.ev sl (.bool b)=.d (.bool b):=by simp only[A.ev]
@[simp]def ev_str:A.ev sl (.AU s)=.d (.AU s):=by simp only[A.ev]
@[simp]def ev_nils:A.ev sl .Ad=.d .Ad:=by simp only[A.ev]
@[simp]def ev_nili:A.ev sl .B6=.d .B6:=by simp only[A.ev]
@[simp]def ev_fn:A.ev sl (.fn k)=.fn k [] []:=by simp only[A.ev]
-- calm operations
@[simp]def wp_mv:C.wp sl ob K (.mv x)=K (x.ev sl):=by simp only[C.wp]
@[simp]def wp_pick:C.wp sl ob K (.pick x y z)=JJ K (x.ev sl) (y.ev sl) (z.ev sl):=by simp only[C.wp]
@[simp]def Ytn:JJ K (.d (.bool true)) v v'=K v:=by unfold JJ;split<;>simp_all
@[simp]def Ytm:JJ K (.d (.bool false)) v v'=K v':=by unfold JJ;split<;>simp_all
@[simp]def wp_not:C.wp sl ob K (.not x)=Lb K (x.ev sl):=by simp only[C.wp]
@[simp]def notK_b:Lb K (.d (.bool b))=K (.d (.bool (!b))):=by simp only[Lb]
@[simp]def wp_cpl:C.wp sl ob K (.HF x)=MQ K (x.ev sl):=by simp only[C.wp]
@[simp]def wp_neg:C.wp sl ob K (.neg x)=LZ K (x.ev sl):=by simp only[C.wp]
@[simp]def negK_i:LZ K (.d (.int kd m))=K (.d (.int kd (kd.wrap (0-m)))):=by simp only[LZ]
@[simp]def wp_bin(a:BinOp):C.wp sl ob K (.CR a x y)=Iy a K (x.ev sl) (y.ev sl):=by simp only[C.wp]
@[simp]def binK_i(a:BinOp):Iy a K (.d (.int kd m)) (.d (.int kd' m'))=IW a kd kd' m m' K:=by simp only[Iy]
@[simp]def binK_s(a:BinOp):Iy a K (.d (.AU s)) (.d (.AU s'))=I6 a s s' K:=by simp only[Iy]
@[simp]def intK_shl:IW .shl kd kd' m m' K=(0<=m'/\K (.d (.int kd (kd.wrap (m*2 ^ (min m'.toNat kd.bits)))))):=by simp[IW]
@[simp]def intK_shr:IW .shr kd kd' m m' K=(0<=m'/\K (.d (.int kd (m.fdiv (2 ^ (min m'.toNat kd.bits)))))):=by simp[IW]
@[simp]def strK_eql:I6 .eql s s' K=K (.d (.bool (s==s'))):=by simp[I6]
@[simp]def strK_neq:I6 .neq s s' K=K (.d (.bool (s != s'))):=by simp[I6]
@[simp]def wp_isnil:C.wp sl ob K (.DG b x)=Q6 b K (x.ev sl):=by simp only[C.wp]
@[simp]def isnilK_n:Q6 b K (.d .B6)=K (.d (.bool b)):=by simp only[Q6]
@[simp]def isnilK_di:Q6 b K (.d (.iface k d))=K (.d (.bool (!b))):=by simp only[Q6]
@[simp]def wp_fnil:C.wp sl ob K (.EP b x)=JH b K (x.ev sl):=by simp only[C.wp]
@[simp]def fnilK_n:JH b K (.d .Br)=K (.d (.bool b)):=by simp only[JH]
@[simp]def fnilK_f(a e:List V):JH b K (.fn k a e)=K (.d (.bool (!b))):=by simp only[JH]
@[simp]def mkiV_d:LY k (.d d)=.d (.iface k d):=by simp only[LY]
@[simp]def mkiV_p(p:List Nat):LY k (.ptr j p)=.iface k (.ptr j p):=by simp only[LY]
@[simp]def mkfV_eq(a e:List V):Oq k a e=MW k a e (CA a) (CA e):=by simp only[Oq]
@[simp]def mkfO_ss(f g:List V)(a e:List D):MW k f g (some a) (some e)=.d (.fn k a e):=by simp only[MW]
@[simp]def mkfO_n1(a e:List V)(o:Option (List D)):MW k a e none o=.fn k a e:=by cases o<;>simp only[MW]
@[simp]def mkfO_n2(a e:List V)(o:Option (List D)):MW k a e o none=.fn k a e:=by cases o<;>simp only[MW]
@[simp]def wp_cvi:C.wp sl ob K (.IE kd x)=LQ kd K (x.ev sl):=by simp only[C.wp]
@[simp]def cviK_i:LQ kd K (.d (.int kd' m))=K (.d (.int kd (kd.wrap m))):=by simp only[LQ]
@[simp]def wp_idx:C.wp sl ob K (.Gn x y)=LV K (x.ev sl) (y.ev sl):=by simp only[C.wp]
@[simp]def idxK_s:LV K (.d (.AU s)) (.d (.int kd m))=((0<=m/\m<s.length)/\K (.d (.int .u8 (s.getD m.toNat 0).toNat))):=by simp only[LV]
@[simp]def wp_idxA:C.wp sl ob K (.Cs n x y)=HQ ob n K (x.ev sl) (y.ev sl):=by simp only[C.wp]
@[simp]def idxAK_l:HQ ob n K (.d (.AH n xs)) (.d (.int kd m))=((0<=m/\m<xs.length)/\K (.d (.Bv (xs.getD m.toNat default)))):=by simp[HQ]
@[simp]def wp_idxP:C.wp sl ob K (.CZ k n x y)=JI ob k n K (x.ev sl) (y.ev sl):=by simp only[C.wp]
@[simp]def idxPK_p(p:List Nat):JI ob k n K (.ptr j p) (.d (.int kd m))=((0<=m/\m<k)/\(∃a,Vf (DL ob j p)=some a/\a.length=k/\∀k∈a,k.size=n)/\K (.ptr j (p++[m.toNat]))):=by simp only[JI]
@[simp]def idxPK_c:JI ob k n K (.d (.Bv (.agg xs))) (.d (.int kd m))=((0<=m/\m<k)/\xs.length=k/\(∀x∈xs,x.sz=n)/\K (.d (.Bv (xs.getD m.toNat default)))):=by simp only[JI]
@[simp]def wp_fldA:C.wp sl ob K (.Bf k n x)=Ux ob k n K (x.ev sl):=by simp only[C.wp]
@[simp]def fldAK_p(p:List Nat):Ux ob k n K (.ptr j p)=Jo j p k n K (Vf (DL ob j p)):=by simp only[Ux]
@[simp]def fldAKo_s(p:List Nat):Jo j p k n K (some vs)=(k<vs.length/\Sh.BX ((vs.take k).map V.shape)=n/\K (.ptr j (p++[k]))):=by simp only[Jo]
@[simp]def fldAK_c:Ux ob k n K (.d (.Bv (.agg xs)))=(k<xs.length/\C8 (xs.take k)=n/\K (.d (.Bv (xs.getD k default)))):=by simp only[Ux]
@[simp]def wp_fld:C.wp sl ob K (.IF k j n b x)=LU k j n b K (x.ev sl).Bc:=by simp only[C.wp]
@[simp]def wp_ld:C.wp sl ob K (.ld n b x)=En ob n b K (x.ev sl):=by simp only[C.wp]
@[simp]def ldK_p(p:List Nat):En ob n b K (.ptr j p)=GU n b K (DL ob j p):=by simp only[En]
@[simp]def ldKo_s:GU n b K (some v)=(v.size=n/\v.isAgg=b/\K v):=by simp only[GU]
@[simp]def ldK_c:En ob n b K (.d (.Bv d))=(d.sz=n/\(V.d d).isAgg=b/\K (.d d)):=by simp only[En]
@[simp]def wp_nilc:C.wp sl ob K (.DA x)=H5 K (x.ev sl):=by simp only[C.wp]
@[simp]def nilcK_p(p:List Nat):H5 K (.ptr j p)=K (.ptr j p):=by simp only[H5]
@[simp]def nilcK_c:H5 K (.d (.Bv d))=K (.d (.Bv d)):=by simp only[H5]
@[simp]def wp_lenS:C.wp sl ob K (.DI x)=LF K (x.ev sl):=by simp only[C.wp]
@[simp]def lenSK_s:LF K (.d (.AU s))=K (.d (.int .i64 s.length)):=by simp only[LF]
@[simp]def wp_lenL:C.wp sl ob K (.CK x)=Hw ob K (x.ev sl):=by simp only[C.wp]
@[simp]def lenLK_l:Hw ob K (.d (.AH n xs))=K (.d (.int .i64 xs.length)):=by simp only[Hw]
@[simp]def lenLK_n:Hw ob K (.d .Ad)=K (.d (.int .i64 0)):=by simp only[Hw]
@[simp]def lenLK_o:Hw ob K (.sl j n)=(((∃E z xs,AB ob j=some (.BG E z xs)/\n=xs.length)\/∃E z xs,AB ob j=some (.Ay E z xs)/\n=xs.length)/\K (.d (.int .i64 n))):=by simp only[Hw]
@[simp]def wp_slcS(e a:Option A):C.wp sl ob K (.Cu x e a)=LK (e.map (A.ev sl)) (a.map (A.ev sl)) K (x.ev sl):=by simp only[C.wp]
@[simp]def slcSK_s(e a:Option V):LK e a K (.d (.AU s))=EL s.length (λl h=>K (.d (.AU ((s.take h).drop l)))) e a:=by simp only[LK]
@[simp]def wp_slcL(e a:Option A):C.wp sl ob K (.C6 n x e a)=LJ n (e.map (A.ev sl)) (a.map (A.ev sl)) K (x.ev sl):=by simp only[C.wp]
@[simp]def slcLK_l(e a:Option V):LJ n e a K (.d (.AH n xs))=EL xs.length (λl h=>K (.d (.AH n ((xs.take h).drop l)))) e a:=by simp[LJ]
@[simp]def bndK_nn(a:Nat->Nat->Prop):EL n a none none=a 0 n:=by simp only[EL]
@[simp]def bndK_sn(a:Nat->Nat->Prop):EL n a (some (.d (.int kd m))) none=((0<=m/\m<=n)/\a m.toNat n):=by simp only[EL]
@[simp]def bndK_ns(a:Nat->Nat->Prop):EL n a none (some (.d (.int kd m)))=((0<=m/\m<=n)/\a 0 m.toNat):=by simp only[EL]
@[simp]def bndK_ss(a:Nat->Nat->Prop):EL n a (some (.d (.int kd m))) (some (.d (.int kd' m')))=((0<=m'/\m'<=n)/\(0<=m/\m<=m')/\a m.toNat m'.toNat):=by simp only[EL]
@[simp]def wp_ext:C.wp sl ob K (.ext x n)=LS n K (x.ev sl):=by simp only[C.wp]
@[simp]def extK_t:LS n K (.BT vs)=(n<vs.length/\K (vs.getD n .any)):=by simp only[LS]
@[simp]def wp_bld(a:List (Nat×A)):C.wp sl ob K (.Fa xs a)=EU (xs.map .d) (a.map λp=>(p.1,p.2.ev sl)) λe=>K (V.mk e):=by simp only[C.wp]
@[simp]def bldK_n(a:List V->Prop):EU vs [] a=a vs:=by simp only[EU]
@[simp]def bldK_c(a:List V->Prop)(l:List (Nat×V)):EU vs ((k,v)::l) a=(k<vs.length/\v.shape=(vs.getD k .any).shape/\v≠.any/\EU (vs.set k v) l a):=by simp only[EU]
@[simp]def wp_mkf(l a:List A):C.wp sl ob K (.ES k l a)=K (Oq k (l.map (A.ev sl)) (a.map (A.ev sl))):=by simp only[C.wp]
@[simp]def wp_mki:C.wp sl ob K (.IH k x)=K (LY k (x.ev sl)):=by simp only[C.wp]
@[simp]def wp_tas:C.wp sl ob K (.IL k d x)=MZ k d K (x.ev sl):=by simp only[C.wp]
-- trees
@[simp]def kids_agg:V.Bc (.agg vs)=some vs:=by simp only[V.Bc]
@[simp]def kids_d:V.Bc (.d (.agg xs))=some (xs.map .d):=by simp only[V.Bc]
@[simp]def kidsO_s:Vf (some v)=v.Bc:=by simp only[Vf]
def YC(p:List Nat):Option Ob->Option V
|some (.box _ t)=>t.at p
|_=>none
@[simp]def atO_b(p:List Nat):DL ob k p=YC p (AB ob k):=by
 unfold DL YC;cases AB ob k with
 |none=>rfl
 |some o=>cases o<;>rfl
@[simp]def atB_s(p:List Nat)(E:Nat):YC p (some (.box E v))=v.at p:=by simp only[YC]
@[simp]def at_nil:V.at v []=some v:=by simp[V.at]
def NS(i:Nat)(p:List Nat):Option (List V)->Option V
|some ks=>atKid' p ks[i]?
|none=>none
where atKid' (p:List Nat):Option V->Option V
|some k=>V.at k p
|none=>none
@[simp]def at_cons(p:List Nat):V.at v (k::p)=NS k p v.Bc:=by
 simp only[V.at,NS];cases v.Bc with
 |none=>rfl
 |some a=>simp only[NS.atKid'];cases a[k]?<;>rfl
@[simp]def atKid_s(p:List Nat):NS k p (some vs)=NS.atKid' p vs[k]?:=by simp only[NS]
@[simp]def atKid'_s(p:List Nat):NS.atKid' p (some v)=V.at v p:=by simp only[NS.atKid']
@[simp]def set_nil:V.set v [] v'=some v':=by simp[V.set]
def Q9(i:Nat)(p:List Nat)(x:V):Option (List V)->Option V
|some ks=>setKid1 i p x ks ks[i]?
|none=>none
where
 setKid1 (i:Nat) (p:List Nat) (x:V) (ks:List V):Option V->Option V
 |some k=>setKid2 i ks (V.set k p x)
 |none=>none
 setKid2 (i:Nat) (ks:List V):Option V->Option V
 |some k'=>some (V.mk (ks.set i k'))
 |none=>none
@[simp]def set_cons(p:List Nat):V.set v (k::p) v'=Q9 k p v' v.Bc:=by
 simp only[V.set,Q9];cases v.Bc with
 |none=>rfl
 |some a=>
  simp only[Q9.setKid1];cases a[k]? with
  |none=>rfl
  |some y=>simp only[Q9.setKid2];cases V.set y p v'<;>rfl
@[simp]def setKid_s(p:List Nat):Q9 k p v (some vs)=Q9.setKid1 k p v vs vs[k]?:=by simp only[Q9]
@[simp]def setKid1_s(p:List Nat):Q9.setKid1 k p v vs (some v')=Q9.setKid2 k vs (V.set v' p v):=by simp only[Q9.setKid1]
@[simp]def setKid2_s:Q9.setKid2 k vs (some v)=some (V.mk (vs.set k v)):=by simp only[Q9.setKid2]
@[simp]def allD_nil:CA []=some []:=by simp[CA]
def Z7(x:D):Option (List D)->Option (List D)
|some l=>some (x::l)
|none=>none
@[simp]def allD_cons:CA (.d d::vs)=Z7 d (CA vs):=by simp only[CA];cases CA vs<;>rfl
@[simp]def consD_s:Z7 d (some xs)=some (d::xs):=by simp only[Z7]
@[simp]def consD_n:Z7 d none=none:=by simp only[Z7]
@[simp]def CI:CA (xs.map .d)=some xs:=by induction xs with|nil=>rfl|cons x r a=>simp[a]
@[simp]def allD_fn(a e:List V):CA (.fn k a e::vs)=none:=by simp only[CA]
@[simp]def allD_sl:CA (.sl k n::vs)=none:=by simp only[CA]
@[simp]def allD_agg(l:List V):CA (.agg l::vs)=none:=by simp only[CA]
@[simp]def allD_ptr(p:List Nat):CA (.ptr k p::vs)=none:=by simp only[CA]
def Dn(vs:List V):Option (List D)->V
|some l=>.d (.agg l)
|none=>.agg vs
@[simp]def mk_eq:V.mk vs=Dn vs (CA vs):=by unfold V.mk Dn;cases CA vs<;>rfl
@[simp]def mkO_s:Dn vs (some xs)=.d (.agg xs):=by simp only[Dn]
@[simp]def mkO_n:Dn vs none=.agg vs:=by simp only[Dn]
-- BX,BM
attribute [simp] D.sz C8 Sh.size Sh.BX D.shape D.BM V.shape V.BM V.isAgg V.Gs Hp V.size V.BQ BY
-- operations on memory
@[simp]def qy(e:C):I.wp P sl ob KO Pn (.c e)=e.wp sl ob (λv=>KO v ob):=by simp only[I.wp]
@[simp]def qx:I.wp P sl ob KO Pn (.box k x)=I0 k ob KO (x.ev sl):=by simp only[I.wp]
@[simp]def qr:I.wp P sl ob KO Pn (.alloc k d)=I0 k ob KO (.d d):=by simp only[I.wp]
@[simp]def boxK_eq:I0 k ob KO v=(v.Gs=true/\KO (.ptr (AA ob) []) ((AA ob,.box k v)::ob)):=by simp only[I0]
@[simp]def qw(a:List (Nat×A)):I.wp P sl ob KO Pn (.GW n xs a)=EU (xs.map .d) (a.map λp=>(p.1,p.2.ev sl)) (λe=>dK (λl=>KO (.d (.AH n l)) ob) (CA e)):=by simp only[I.wp]
@[simp]def dK_s(a:List D->Prop):dK a (some xs)=a xs:=by simp only[dK]
@[simp]def qv(a:List (Nat×A)):I.wp P sl ob KO Pn (.HZ j n xs a)=EU (xs.map .d) (a.map λp=>(p.1,p.2.ev sl)) (λe=>dK (λl=>KO (.sl (AA ob) l.length) ((AA ob,.BG j n l)::ob)) (CA e)):=by simp only[I.wp]
@[simp]def zo:I.wp P sl ob KO Pn (.st n x y)=Hk ob n (y.ev sl) KO (x.ev sl):=by simp only[I.wp]
@[simp]def stK_p(p:List Nat):Hk ob n v KO (.ptr k p)=MV ob k p n v KO (AB ob k):=by simp only[Hk]
@[simp]def stKo_s(p:List Nat)(t:V)(E:Nat):MV ob k p n v KO (some (.box E t))=MY ob k p n E v t KO (t.at p):=by simp only[MV]
def RZ(ob:AF)(id E:Nat)(K:V->AF->Prop):Option V->Prop
|some a=>K .undef (AG ob id (.box E a))
|none=>False
@[simp]def stKt_s(p:List Nat)(t:V)(E:Nat):MY ob k p n E v t KO (some v')=(v.shape=v'.shape/\v'.size=n/\v.Gs=true/\RZ ob k E KO (t.set p v)):=by
 simp only[MY];cases t.set p v<;>simp[RZ]
@[simp]def stKs_s(E:Nat):RZ ob k E KO (some v)=KO .undef (AG ob k (.box E v)):=by simp only[RZ]
@[simp]def qt(E a B:Nat):I.wp P sl ob KO Pn (.Im E a B x y)=KN a (λe=>GQ E a B ob e KO (x.ev sl)) (y.ev sl):=by simp only[I.wp]
@[simp]def srcK_l(a:List D->Prop):KN n a (.d (.AH n xs))=a xs:=by simp[KN]
@[simp]def appK_s(E a B:Nat):GQ E a B ob xs KO (.sl k n)=NQ k E a B n ob xs KO (AB ob k):=by simp[GQ]
@[simp]def appK_n(E a B:Nat):GQ E a B ob xs KO (.d .Ad)=((2*xs.length+192)*B<=281474976710656/\KO (.sl (AA ob) xs.length) ((AA ob,.BG E a xs)::ob)):=by simp only[GQ]
@[simp]def appKo_s(E e B:Nat)(a:List D):NQ k E e B n ob xs KO (some (.BG E e a))=(n=a.length/\(2*(a.length+xs.length)+192)*B<=281474976710656/\KO (.sl k (a.length+xs.length)) (AG ob k (.BG E e (a++xs)))):=by simp[NQ]
@[simp]def iwp_appS(E B:Nat):I.wp P sl ob KO Pn (.FZ E B x y)=MJ (λa=>GQ E 1 B ob a KO (x.ev sl)) (y.ev sl):=by simp only[I.wp]
@[simp]def srcSK_s(a:List D->Prop):MJ a (.d (.AU s))=a (BD s):=by simp only[MJ]
@[simp]def zi:I.wp P sl ob KO Pn (.Lj x)=HA KO (Du ob (x.ev sl)):=by simp only[I.wp]
@[simp]def givK_s:HA KO (some (d,ob))=KO (.d d) ob:=by simp only[HA]
@[simp]def zf:I.wp P sl ob KO Pn (.JO n b x)=LW n b ob KO (x.ev sl):=by simp only[I.wp]
@[simp]def ldfK_p(p:List Nat):LW n b ob KO (.ptr k p)=MB n b ob KO (DL ob k p):=by simp only[LW]
@[simp]def ldfKo_s:MB n b ob KO (some v)=(v.size=n/\v.isAgg=b/\HA KO (Du ob v)):=by simp only[MB]
@[simp]def zj(E a:Nat)(p:List Nat):I.wp P sl ob KO Pn (.JQ E a y x p)=HW ob E a p (y.ev sl) KO (x.ev sl):=by simp only[I.wp]
@[simp]def zl(l:List (Nat×Nat×List Nat)):I.wp P sl ob KO Pn (.JR y x l)=I3 (y.ev sl) KO (x.ev sl) l ob:=by simp only[I.wp]
@[simp]def mvnK_n(v x:V):I3 v KO x [] ob=KO v ob:=by simp only[I3]
@[simp]def mvnK_c(v x:V)(e:Nat×Nat×List Nat)(l:List (Nat×Nat×List Nat)):I3 v KO x (e::l) ob=HW ob e.1 e.2.1 e.2.2 v (λ_ a=>I3 v KO x l a) x:=by simp only[I3]
@[simp]def mvgK_p(E a:Nat)(p q:List Nat):HW ob E a p v KO (.ptr k q)=ME ob k (q++p) E a v KO (AB ob k):=by simp only[HW]
@[simp]def mvgKt_s(E a e:Nat)(p:List Nat)(t:V):ME ob k p E e v KO (some (.box a t))=((t.at p=some (.d .Ad)/\Od ob k a E e v KO (t.set p (.sl (AA ob) 0)))\/((∃i n,t.at p=some (.sl i n))/\KO v ob)):=by simp only[ME]
@[simp]def mvgKs_s(E a e:Nat)(t:V):Od ob k a E e v KO (some t)=KO v ((AA ob,.BG E e [])::AG ob k (.box a t)):=by simp only[Od]
@[simp]def iwp_cvb:I.wp P sl ob KO Pn (.JL x)=LP ob KO (x.ev sl):=by simp only[I.wp]
@[simp]def cvbK_s:LP ob KO (.sl k n)=NV k n ob KO (AB ob k):=by simp only[LP]
@[simp]def cvbKo_s(E a:Nat):NV k n ob KO (some (.BG E a xs))=(a≠0/\n=xs.length/\xs≠[]/\KO (.d (.AH a xs)) (AG ob k .An)):=by simp only[NV]
@[simp]def wp_usd:C.wp sl ob K (.IM x)=I8 ob K (x.ev sl):=by simp only[C.wp]
@[simp]def usdK_s:I8 ob K (.sl k n)=((∃E a xs,AB ob k=some (.BG E a xs)/\a≠0/\n=xs.length/\xs≠[])/\K (.sd k n)):=by simp only[I8]
@[simp]def usdK_n:I8 ob K (.d .Ad)=K (.d .CL):=by simp only[I8]
@[simp]def iwp_ustr(E:Nat):I.wp P sl ob KO Pn (.Fl E x y)=JD E ob KO (x.ev sl) (y.ev sl):=by simp only[I.wp]
@[simp]def ustrK_s(E:Nat):JD E ob KO (.sd k n) (.d (.int .i64 m))=NK k n m E ob KO (AB ob k):=by simp only[JD]
@[simp]def ustrK_n(E:Nat):JD E ob KO (.d .CL) (.d (.int .i64 m))=(m=0/\KO (.d (.AU [])) ob):=by simp only[JD]
@[simp]def ustrKo_s(E a e:Nat):NK k n m E ob KO (some (.BG a e xs))=(a=E/\e=1/\n=xs.length/\m=n/\n<=9223372036854775807/\xs≠[]/\∃s,xs=BD s/\KO (.d (.AU s)) (AG ob k .An)):=by simp only[NK]
-- values given up
@[simp]def giv_d:Du ob (.d d)=some (d,ob):=by simp only[Du]
@[simp]def giv_sl:Du ob (.sl k n)=TZ ob k n (AB ob k):=by simp only[Du]
@[simp]def givO_s(E a:Nat):TZ ob k n (some (.BG E a xs))=if a≠0/\n=xs.length then some (.AH a xs,AG ob k .An) else none:=by simp only[TZ]
@[simp]def giv_agg:Du ob (.agg vs)=FX (D1 ob vs):=by simp only[Du]
@[simp]def giv_fn(a e:List V):Du ob (.fn k a e)=Kd k ob (CA a) (CA e):=by simp only[Du]
@[simp]def fnG_s(a e:List D):Kd k ob (some a) (some e)=some (.fn k a e,ob):=by simp only[Kd]
@[simp]def fnG_m(o:Option (List D)):Kd k ob o none=none:=by cases o<;>simp only[Kd]
@[simp]def givs_nil:D1 ob []=some ([],ob):=by simp only[D1]
def nT(r:List V):Option (D×AF)->Option (List D×AF)
|some (x,a)=>Qg x (D1 a r)
|none=>none
@[simp]def givs_cons:D1 ob (v::vs)=nT vs (Du ob v):=by
 simp only[D1];cases Du ob v with
 |none=>rfl
 |some q=>obtain⟨y,a⟩:=q;rfl
@[simp]def bindO_s:nT vs (some (d,ob))=Qg d (D1 ob vs):=by simp only[nT]
@[simp]def consO_s(l:List D):Qg d (some (l,ob))=some (d::l,ob):=by simp only[Qg]
@[simp]def aggO_s(l:List D):FX (some (l,ob))=some (.agg l,ob):=by simp only[FX]
@[simp]def givsK_s(a:List D->AF->Prop)(l:List D):Uy a (some (l,ob))=a l ob:=by simp only[Uy]
@[simp]def gvsK_nil(a:List V->AF->Prop):HB [] ob a=a [] ob:=by simp only[HB]
@[simp]def gvsK_cons(f:List V->AF->Prop):HB (v::vs) ob f=Lh v ob (λv' e=>HB vs e λvs a=>f (v'::vs) a) (Du ob v):=by simp only[HB]
@[simp]def gvO_s:Lh v ob KO (some (d,ro))=KO (.d d) ro:=by simp only[Lh]
@[simp]def gvO_n:Lh v ob KO none=KO v ob:=by simp only[Lh]
-- names
@[simp]def fresh_nil:AA []=0:=by simp only[AA]
@[simp]def Ys(o:Ob):AA ((k,o)::ro)=if AA ro<=k then k+1 else AA ro:=by simp only[AA]
@[simp]def Wl(o:Ob):AA (AG ob k o)=AA ob:=by
 induction ob with
 |nil=>simp[AG]
 |cons e r a=>obtain⟨i,y⟩:=e;simp only[AG];split<;>simp[AA,a]
@[simp]def fresh_ne(h:(AB ob k).isSome=true):(AA ob==k)=false:=by
 rw[Gz];intro e;rw[<-e,X0]at h;cases h
@[simp]def fresh_add_ne(h:(AB ob k).isSome=true):(AA ob+n==k)=false:=by
 rw[Gz];intro e;rw[<-e,X9 ob _ (by omega)]at h;cases h
@[simp]def lookO_set_eq(o:Ob)(h:(AB ob k).isSome=true):AB (AG ob k o) k=some o:=by
 rw[Xb ob k k (Kt.1 h)];simp
@[simp]def lookO_set_ne(o:Ob)(h:(j==k)=false):AB (AG ob j o) k=AB ob k:=by
 by_cases f:(AB ob j).isSome=true
 ·rw[Xb ob j k (Kt.1 f)];simp at h;rw[Aq (λe=>h e.symm)]
 ·have g:AB ob j=none:=by simpa using f
  have:∀(ob:AF),AB ob j=none->AG ob j o=ob:=λob=>by
   induction ob with
   |nil=>intro _;rfl
   |cons e r l=>obtain⟨i,y⟩:=e;intro h;simp only[AB]at h;split at h;cases h;rename_i a;simp[AG,a,l h]
  rw[this ob g]
@[simp]def QA(o a:Ob):AG (AG ob k o) k a=AG ob k a:=by
 induction ob with
 |nil=>rfl
 |cons e r f=>
  obtain⟨i,y⟩:=e;by_cases h:i=k
  ·subst h;simp[AG]
  ·simp[AG,h,f]
-- AD objects dropped
@[simp]def Yip(l:List Nat)(h:k<n):AD n l k=false:=by simp[AD];omega
@[simp]def young_old(l:List Nat)(h:(AB ob k).isSome=true):AD (AA ob) l k=false:=by
 have:k<AA ob:=by
  rcases Fo k (AA ob) with a|a
  ·exact a
  ·rw[X9 ob k a]at h;cases h
 simp[AD];omega
@[simp]def young_self:AD n [] n=true:=by simp[AD]
@[simp]def young_add:AD n [] (n+k)=true:=by simp[AD]
@[simp]def X1t(l:List Nat):Xk (AD (AA ob) l) ob=ob:=by
 have:∀(n:Nat)(ob:AF),AA ob<=n->Xk (AD n l) ob=ob:=λn ob=>by
  induction ob with
  |nil=>intro _;rfl
  |cons e r f=>
   obtain⟨i,y⟩:=e;intro h;simp only[AA]at h;have a:i<n/\AA r<=n:=by split at h<;>omega
   simp only[Xk,Yip i n l a.1,BO,Bs,f a.2]
 exact this _ ob (Bg _)
@[simp]def Xh9(l:List Nat)(o:Ob):Xk (AD (AA ob) l) (AG ob k o)=AG ob k o:=by
 rw[<-Wl ob k o];exact X1t _ _
@[simp]def Jl(l:List Nat)(o a:Ob):Xk (AD (AA ob) l) (AG (AG ob k o) j a)=AG (AG ob k o) j a:=by
 rw[<-Wl ob k o];exact Xh9 _ _ _ _
def Af(a:Nat->Bool)(E:Nat)(h:AI a ob=true)(f:V.BQ a v=false):AI a (AG ob k (.box E v))=true:=by
 induction ob with
 |nil=>rfl
 |cons e r g=>
  obtain⟨i,y⟩:=e;simp only[AG];split
  ·cases y<;>simp_all[AI]
  ·cases y<;>simp_all[AI]
def BL(a:Nat->Bool)(E z:Nat)(h:AI a ob=true):AI a (AG ob k (.BG E z xs))=true:=by
 induction ob with
 |nil=>rfl
 |cons e r f=>
  obtain⟨i,y⟩:=e;simp only[AG];split
  ·cases y<;>simp_all[AI]
  ·cases y<;>simp_all[AI]
def W4(a:Nat->Bool)(E:Nat)(h:AI a ob=true)(e:AB ob k=some (.box E v)):V.BQ a v=false:=Y9 ob k E v h e
@[simp]def qz(l:List A):I.wp P sl ob KO Pn (.call k l)=AX P k (l.map (A.ev sl)) ob (Fs KO Pn):=by simp only[I.wp]
@[simp]def zb(l:List A):I.wp P sl ob KO Pn (.Cp x l)=V2 P (l.map (A.ev sl)) ob KO Pn (x.ev sl):=by simp only[I.wp]
@[simp]def callvK_f(a e:List V):V2 P vs ob KO Pn (.fn k a e)=(Xd P.p k=true/\AX P k (a++vs++e) ob (Fs KO Pn)):=by simp only[V2]
@[simp]def callvK_df(a e:List D):V2 P vs ob KO Pn (.d (.fn k a e))=(Xd P.p k=true/\AX P k (a.map .d++vs++e.map .d) ob (Fs KO Pn)):=by simp only[V2]
@[simp]def zq:Fs KO Pn (.ret v) ob=KO v ob:=by simp only[Fs]
@[simp]def zp:Fs KO Pn (.panic v) ob=Pn v ob:=by simp only[Fs]
@[simp]def iwp_panic:I.wp P sl ob KO Pn (.panic x)=L2 ob Pn (x.ev sl):=by simp only[I.wp]
@[simp]def panicK_d:L2 ob Pn (.d (.iface k d))=Pn (.d (.iface k d)) ob:=by simp only[L2]
@[simp]def iwp_s2b:I.wp P sl ob KO Pn (.Iq x)=MU (λv=>KO v ob) (x.ev sl):=by simp only[I.wp]
@[simp]def s2bK_s:MU K (.d (.AU s))=K (.d (.AH 1 (BD s))):=by simp only[MU]
@[simp]def zm(E a:Nat):I.wp P sl ob KO Pn (.Fg E a x)=MG E a ob KO (x.ev sl):=by simp only[I.wp]
@[simp]def niloK_n(E a:Nat):MG E a ob KO (.d .Ad)=KO (.sl (AA ob) 0) ((AA ob,.BG E a [])::ob):=by simp only[MG]
-- regions and statements
@[simp]def gdK_tt(Y N:Xe->Prop):Fw k true sl Y N (.d (.bool true))=Y ((k,.d (.bool true))::sl):=by simp[Fw]
@[simp]def gdK_ff(Y N:Xe->Prop):Fw k false sl Y N (.d (.bool false))=Y ((k,.d (.bool false))::sl):=by simp[Fw]
@[simp]def gdK_ft(Y N:Xe->Prop):Fw k false sl Y N (.d (.bool true))=N ((k,.d (.bool true))::sl):=by simp[Fw]
@[simp]def keepS_nil:Xy sl []=[]:=by simp only[Xy]
@[simp]def keepS_cons(l:List Nat):Xy sl (k::l)=(k,A7 sl k)::Xy sl l:=by simp only[Xy]
@[simp]def zn(l:List A):I.wp P sl ob KO Pn (.Bn k l)=AW P k (l.map (A.ev sl)) ob (λv=>KO v ob):=by simp only[I.wp]
@[simp]def condK_t(Y N:Prop):Hy Y N (.d (.bool true))=Y:=by simp[Hy]
@[simp]def condK_f(Y N:Prop):Hy Y N (.d (.bool false))=N:=by simp[Hy]
@[simp low] theorem condK_b (Y N:Prop):Hy Y N (.d (.bool b))=((b=true->Y)/\(b=false->N)):=by simp only[Hy]
@[simp]def wo:Wh next Q .normal sl ob=next sl ob:=by simp only[Wh]
@[simp]def wj:Wh next Q (.exit n) sl ob=Q (.exit n) sl ob:=by simp only[Wh]
@[simp]def wq:Wh next Q .ret sl ob=Q .ret sl ob:=by simp only[Wh]
@[simp]def wp:Wh next Q (.panic v) sl ob=Q (.panic v) sl ob:=by simp only[Wh]
@[simp]def qb:Zs n Q .normal sl ob=Q .normal sl ob:=by simp only[Zs]
@[simp]def qa:Zs n Q (.exit n) sl ob=Q .normal sl ob:=by simp[Zs]
@[simp]def blockK_ne(h:(j==n)=false):Zs n Q (.exit j) sl ob=Q (.exit j) sl ob:=by simp at h;simp[Zs,h]
@[simp]def qd:Zs n Q .ret sl ob=Q .ret sl ob:=by simp only[Zs]
@[simp]def qc:Zs n Q (.panic v) sl ob=Q (.panic v) sl ob:=by simp only[Zs]
attribute [simp] Z0 AI Xk
-- results
@[simp]def pureQ_r(a:List RV):Ih a K .ret sl ob=Qe sl ob a λvs=>Uy (λl _=>K (Qt (l.map .d))) (D1 ob vs):=by simp only[Ih]
@[simp]def pureQ_p(a:List RV):Ih a K (.panic v) sl ob=False:=by simp only[Ih]
@[simp]def qe(e:List RV)(a:BN->AF->Prop):Hx n e a .normal sl ob=Qe sl ob e λvs=>HB vs ob λvs ob=>Yk n (a (.ret (Qt vs))) vs ob:=by simp only[Hx]
@[simp]def qg(e:List RV)(a:BN->AF->Prop):Hx n e a .ret sl ob=Qe sl ob e λvs=>HB vs ob λvs ob=>Yk n (a (.ret (Qt vs))) vs ob:=by simp only[Hx]
@[simp]def qf(e:List RV)(a:BN->AF->Prop):Hx n e a (.panic v) sl ob=Yk n (a (.panic v)) [v] ob:=by simp only[Hx]
@[simp]def resK_nil(a:List V->Prop):Qe sl ob [] a=a []:=by simp only[Qe]
@[simp]def resK_t(a:List V->Prop)(e:List RV):Qe sl ob (.t k::e) a=Qe sl ob e λvs=>a (A7 sl k::vs):=by simp only[Qe,RV.wp]
@[simp]def resK_c(a:List V->Prop)(e:List RV):Qe sl ob (.c k n b::e) a=En ob n b (λv=>Qe sl ob e λvs=>a (v::vs)) (A7 sl k):=by simp only[Qe,RV.wp]
@[simp]def retV_1:Qt [v]=v:=by simp only[Qt]
@[simp]def retV_0:Qt []=.BT []:=by simp only[Qt]
@[simp]def retV_2:Qt (v::v'::vs)=.BT (v::v'::vs):=by simp only[Qt]
@[simp]def argS_nil:EK k []=[]:=by simp only[EK]
@[simp]def argS_cons:EK k (v::vs)=(k,v)::EK (k+1) vs:=by simp only[EK]
end
@[congr]def I_wp_congr{P:BA}{d:Xe}{c:AF}{a:V->AF->Prop}{b:V->AF->Prop}{i:I}:I.wp P d c a b i=I.wp P d c a b i:=rfl
@[congr]def C_wp_congr{b:Xe}{a:AF}{K:V->Prop}{e:C}:C.wp b a K e=C.wp b a K e:=rfl
@[congr]def rwp_congr{P:BA}{a:Xe->AF->Prop}{PS:V->Xe->AF->Prop}{l:List It}{c:Xe}{b:AF}:Dg P a PS l c b=Dg P a PS l c b:=rfl
@[congr]def gdK_congr{k:Nat}{b:Bool}{a:Xe}{Y N:Xe->Prop}{v c:V}(d:v=c):Fw k b a Y N v=Fw k b a Y N c:=by rw[d]
@[congr]def condK_congr{Y N:Prop}{v a:V}(b:v=a):Hy Y N v=Hy Y N a:=by rw[b]
@[congr]def pickK_congr{K:V->Prop}{u a:V}{v b:V}{w c:V}(d:u=a)(e:v=b)(f:w=c):JJ K u v w=JJ K a b c:=by rw[d,e,f]
@[congr]def notK_congr{K:V->Prop}{v a:V}(b:v=a):Lb K v=Lb K a:=by rw[b]
@[congr]def cplK_congr{K:V->Prop}{v a:V}(b:v=a):MQ K v=MQ K a:=by rw[b]
@[congr]def negK_congr{K:V->Prop}{v a:V}(b:v=a):LZ K v=LZ K a:=by rw[b]
@[congr]def nilcK_congr{K:V->Prop}{v a:V}(b:v=a):H5 K v=H5 K a:=by rw[b]
@[congr]def lenSK_congr{K:V->Prop}{v a:V}(b:v=a):LF K v=LF K a:=by rw[b]
@[congr]def s2bK_congr{K:V->Prop}{v a:V}(b:v=a):MU K v=MU K a:=by rw[b]
@[congr]def binK_congr{a:BinOp}{K:V->Prop}{u b:V}{v c:V}(d:u=b)(e:v=c):Iy a K u v=Iy a K b c:=by rw[d,e]
@[congr]def intK_congr{e:BinOp}{k j:IntKind}{K:V->Prop}{a c:Int}{b d:Int}(f:a=c)(g:b=d):IW e k j a b K=IW e k j c d K:=by rw[f,g]
@[congr]def strK_congr{e:BinOp}{K:V->Prop}{a c:List UInt8}{b d:List UInt8}(f:a=c)(g:b=d):I6 e a b K=I6 e c d K:=by rw[f,g]
@[congr]def isnilK_congr{e:Bool}{K:V->Prop}{v a:V}(b:v=a):Q6 e K v=Q6 e K a:=by rw[b]
@[congr]def cviK_congr{k:IntKind}{K:V->Prop}{v a:V}(b:v=a):LQ k K v=LQ k K a:=by rw[b]
@[congr]def idxK_congr{K:V->Prop}{u a:V}{v b:V}(c:u=a)(d:v=b):LV K u v=LV K a b:=by rw[c,d]
@[congr]def idxAK_congr{a:AF}{n:Nat}{K:V->Prop}{u b:V}{v c:V}(d:u=b)(e:v=c):HQ a n K u v=HQ a n K b c:=by rw[d,e]
@[congr]def idxPK_congr{a:AF}{k n:Nat}{K:V->Prop}{u b:V}{v c:V}(d:u=b)(e:v=c):JI a k n K u v=JI a k n K b c:=by rw[d,e]
@[congr]def fldAK_congr{a:AF}{k n:Nat}{K:V->Prop}{v b:V}(c:v=b):Ux a k n K v=Ux a k n K b:=by rw[c]
@[congr]def fldAKo_congr{j:Nat}{p:List Nat}{k n:Nat}{K:V->Prop}{v a:Option (List V)}(b:v=a):Jo j p k n K v=Jo j p k n K a:=by rw[b]
@[congr]def fldK_congr{k j n:Nat}{b:Bool}{K:V->Prop}{v a:Option (List V)}(c:v=a):LU k j n b K v=LU k j n b K a:=by rw[c]
@[congr]def ldK_congr{a:AF}{n:Nat}{b:Bool}{K:V->Prop}{v c:V}(d:v=c):En a n b K v=En a n b K c:=by rw[d]
@[congr]def ldKo_congr{n:Nat}{b:Bool}{K:V->Prop}{v a:Option V}(c:v=a):GU n b K v=GU n b K a:=by rw[c]
@[congr]def lenLK_congr{a:AF}{K:V->Prop}{v b:V}(c:v=b):Hw a K v=Hw a K b:=by rw[c]
@[congr]def bndK_congr{n:Nat}{a:Nat->Nat->Prop}{u b:Option V}{v c:Option V}(d:u=b)(e:v=c):EL n a u v=EL n a b c:=by rw[d,e]
@[congr]def slcSK_congr{K:V->Prop}{l b:Option V}{h a:Option V}{v c:V}(d:l=b)(e:h=a)(f:v=c):LK l h K v=LK b a K c:=by rw[d,e,f]
@[congr]def slcLK_congr{n:Nat}{K:V->Prop}{l b:Option V}{h a:Option V}{v c:V}(d:l=b)(e:h=a)(f:v=c):LJ n l h K v=LJ n b a K c:=by rw[d,e,f]
@[congr]def extK_congr{n:Nat}{K:V->Prop}{v a:V}(b:v=a):LS n K v=LS n K a:=by rw[b]
@[congr]def bldK_congr{a:List V->Prop}{u c:List V}{l b:List (Nat×V)}(d:u=c)(e:l=b):EU u l a=EU c b a:=by rw[d,e]
@[congr]def tasK_congr{k:Nat}{d:D}{K:V->Prop}{v a:V}(b:v=a):MZ k d K v=MZ k d K a:=by rw[b]
@[congr]def boxK_congr{k:Nat}{b:AF}{a:V->AF->Prop}{v c:V}(d:v=c):I0 k b a v=I0 k b a c:=by rw[d]
@[congr]def stK_congr{b:AF}{n:Nat}{a:V->AF->Prop}{u c:V}{v d:V}(e:u=c)(f:v=d):Hk b n u a v=Hk b n c a d:=by rw[e,f]
@[congr]def stKo_congr{b:AF}{k:Nat}{p:List Nat}{n:Nat}{u:V}{a:V->AF->Prop}{v c:Option Ob}(d:v=c):MV b k p n u a v=MV b k p n u a c:=by rw[d]
@[congr]def stKt_congr{b:AF}{k:Nat}{p:List Nat}{n E:Nat}{u t:V}{a:V->AF->Prop}{v c:Option V}(d:v=c):MY b k p n E u t a v=MY b k p n E u t a c:=by rw[d]
@[congr]def stKs_congr{b:AF}{k E:Nat}{a:V->AF->Prop}{v c:Option V}(d:v=c):RZ b k E a v=RZ b k E a c:=by rw[d]
@[congr]def dK_congr{a:List D->Prop}{v b:Option (List D)}(c:v=b):dK a v=dK a b:=by rw[c]
@[congr]def callvK_congr{P:BA}{c:AF}{a:V->AF->Prop}{b:V->AF->Prop}{u d:List V}{v e:V}(f:u=d)(g:v=e):V2 P u c a b v=V2 P d c a b e:=by rw[f,g]
@[congr]def panicK_congr{b:AF}{a:V->AF->Prop}{v c:V}(d:v=c):L2 b a v=L2 b a c:=by rw[d]
@[congr]def srcK_congr{n:Nat}{a:List D->Prop}{v b:V}(c:v=b):KN n a v=KN n a b:=by rw[c]
@[congr]def appK_congr{E c B:Nat}{b:AF}{e:List D}{a:V->AF->Prop}{v d:V}(f:v=d):GQ E c B b e a v=GQ E c B b e a d:=by rw[f]
@[congr]def appKo_congr{k E c B n:Nat}{b:AF}{e:List D}{a:V->AF->Prop}{v d:Option Ob}(f:v=d):NQ k E c B n b e a v=NQ k E c B n b e a d:=by rw[f]
@[congr]def niloK_congr{E c:Nat}{b:AF}{a:V->AF->Prop}{v d:V}(e:v=d):MG E c b a v=MG E c b a d:=by rw[e]
@[congr]def srcSK_congr{a:List D->Prop}{v b:V}(c:v=b):MJ a v=MJ a b:=by rw[c]
@[congr]def fnilK_congr{e:Bool}{K:V->Prop}{v a:V}(b:v=a):JH e K v=JH e K a:=by rw[b]
@[congr]def givK_congr{a:V->AF->Prop}{v b:Option (D×AF)}(c:v=b):HA a v=HA a b:=by rw[c]
@[congr]def givsK_congr{a:List D->AF->Prop}{v b:Option (List D×AF)}(c:v=b):Uy a v=Uy a b:=by rw[c]
@[congr]def gvO_congr{u:V}{b:AF}{a:V->AF->Prop}{v c:Option (D×AF)}(d:v=c):Lh u b a v=Lh u b a c:=by rw[d]
@[congr]def gvsK_congr{b:List V->AF->Prop}{u d:List V}{c a:AF}(e:u=d)(f:c=a):HB u c b=HB d a b:=by rw[e,f]
@[congr]def leaveK_congr{n:Nat}{K:AF->Prop}{u c:List V}{b a:AF}(d:u=c)(e:b=a):Yk n K u b=Yk n K c a:=by rw[d,e]
@[congr]def ldfK_congr{n:Nat}{b:Bool}{c:AF}{a:V->AF->Prop}{v d:V}(e:v=d):LW n b c a v=LW n b c a d:=by rw[e]
@[congr]def ldfKo_congr{n:Nat}{b:Bool}{c:AF}{a:V->AF->Prop}{v d:Option V}(e:v=d):MB n b c a v=MB n b c a d:=by rw[e]
@[congr]def mvgK_congr{b:AF}{E c:Nat}{p:List Nat}{a:V->AF->Prop}{u d v e:V}(g:u=d)(f:v=e):HW b E c p u a v=HW b E c p d a e:=by rw[f,g]
@[congr]def mvgKt_congr{b:AF}{k E d:Nat}{p c:List Nat}{a:V->AF->Prop}{u:V}{v e:Option Ob}(g:p=c)(f:v=e):ME b k p E d u a v=ME b k c E d u a e:=by rw[f,g]
@[congr]def mvgKs_congr{c:AF}{k a E d:Nat}{b:V->AF->Prop}{u:V}{v e:Option V}(f:v=e):Od c k a E d u b v=Od c k a E d u b e:=by rw[f]
@[congr]def cvbK_congr{b:AF}{a:V->AF->Prop}{v c:V}(d:v=c):LP b a v=LP b a c:=by rw[d]
@[congr]def cvbKo_congr{k n:Nat}{b:AF}{a:V->AF->Prop}{v c:Option Ob}(d:v=c):NV k n b a v=NV k n b a c:=by rw[d]
@[congr]def usdK_congr{a:AF}{K:V->Prop}{v b:V}(c:v=b):I8 a K v=I8 a K b:=by rw[c]
@[congr]def ustrK_congr{E:Nat}{b:AF}{a:V->AF->Prop}{u c v d:V}(f:u=c)(e:v=d):JD E b a u v=JD E b a c d:=by rw[e,f]
@[congr]def ustrKo_congr{k n:Nat}{m:Int}{E:Nat}{b:AF}{a:V->AF->Prop}{v c:Option Ob}(d:v=c):NK k n m E b a v=NK k n m E b a c:=by rw[d]
@[congr]def resK_congr{d:Xe}{b:AF}{c:List RV}{a:List V->Prop}:Qe d b c a=Qe d b c a:=rfl
@[congr]def ACall_congr{P:BA}{f:Nat}{d b:List V}{c a:AF}{K:BN->AF->Prop}(h:d=b)(e:c=a):AX P f d c K=AX P f b a K:=by rw[h,e]
@[congr]def PCall_congr{P:BA}{f:Nat}{d b:List V}{c a:AF}{K:V->Prop}(h:d=b)(e:c=a):AW P f d c K=AW P f b a K:=by rw[h,e]
@[congr]def ALoop_congr{b:List Nat}{a:Zi->Xe->AF->Prop}{Q:Zi}{f d:Xe}{e c:AF}(h:f=d)(g:e=c):Au b a Q f e=Au b a Q d c:=by rw[h,g]
def Au.of{a:List Nat}{b:Zi->Xe->AF->Prop}{Q:Zi}{k:Xe}{h:AF}{c:Type}(S:c->Xe)(O:c->AF)(I:c->Prop)(g:c->Nat)(d:c)(l:I d)(n:Xy k a=S d)(m:h=O d)
 (step:∀i,I i->b (Wh (sub a (AA (O i)) λf e=>∃j,I j/\g j<g i/\f=S j/\e=O j) Q) (S i) (O i)):Au a b Q k h:=
 ⟨⟨c,S,O,I,g,d,l,n,m▸Wk.refl _,step⟩⟩
def Au.pre{f:List Nat}{e:Zi->Xe->AF->Prop}{Q:Zi}{j:Xe}{i g:AF}(k:Wk i g)(h:Au f e Q j g):Au f e Q j i:=by
 obtain⟨m,S,O,I,n,l,a,b,c,d⟩:=h.run;exact⟨⟨m,S,O,I,n,l,a,b,k.trans c,d⟩⟩
def Au.go{c:List Nat}{d:Zi->Xe->AF->Prop}{Q:Zi}{l:Xe}{k:AF}{ι:Type}(S:ι->Xe)(O:ι->AF)(I:ι->Prop)(g:ι->Nat)(f:ι)(m:I f)(x:Xy l c=S f)(w:k=O f)
 (step:∀i,I i->∀R:Zi,(∀e j b a,I j->g j<g i->Xy b c=S j->Xk (AD (AA (O i)) e) a=O j->Z0 (AD (AA (O i)) e) (S j)=true->AI (AD (AA (O i)) e) (O j)=true->R .normal b a)->
  (∀n b a,Q (.exit n) b a->R (.exit n) b a)->(∀b a,Q .ret b a->R .ret b a)->(∀v b a,Q (.panic v) b a->R (.panic v) b a)->d R (S i) (O i)):Au c d Q l k:=by
 refine Au.of S O I g f m x w λi u=>step i u _ (λe j b a o p q r s t=>?_) (λ_ _ _ h=>h) (λ_ _ h=>h) (λ_ _ _ h=>h);simp only[Wh,sub];refine⟨e,a,Wk.refl _,?_⟩;rw[q,r];exact⟨s,t,j,o,p,rfl,rfl⟩
def r7{c:List Nat}{e:Zi->Xe->AF->Prop}{Q:Zi}{m:Xe}{l:AF}{ι:Type}(S:ι->Xe)(O:ι->AF)(I:ι->Prop)(k:ι->Nat)(g:ι)(o:I g)(y:Xy m c=S g)(x:l=O g)
 (step:∀i,I i->∀R:Zi,(∀f j b a d,Wk a d->I j->k j<k i->Xy b c=S j->Xk (AD (AA (O i)) f) d=O j->Z0 (AD (AA (O i)) f) (S j)=true->AI (AD (AA (O i)) f) (O j)=true->R .normal b a)->
  (∀n b a,Q (.exit n) b a->R (.exit n) b a)->(∀b a,Q .ret b a->R .ret b a)->(∀v b a,Q (.panic v) b a->R (.panic v) b a)->e R (S i) (O i)):Au c e Q m l:=by
 refine Au.of S O I k g o y x λi w=>step i w _ (λf j b a d z p q r s t u=>?_) (λ_ _ _ h=>h) (λ_ _ h=>h) (λ_ _ _ h=>h);simp only[Wh,sub];refine⟨f,d,z,?_⟩;rw[r,s];exact⟨t,u,j,p,q,rfl,rfl⟩
@[congr]def cwp_congr{P:BA}{s:S}{Q:Zi}{d b:Xe}{c a:AF}(h:d=b)(e:c=a):Dj P s Q d c=Dj P s Q b a:=by rw[h,e]
def KK:V->V->V->V
|.d (.bool t),.d (.bool x),.d (.bool y)=>.d (.bool (if t then x else y))
|.d (.bool t),x,y=>if t then x else y
|_,_,_=>.any
def RU:V->V
|.d (.bool b)=>.d (.bool (!b))
|_=>.any
def TA:V->V
|.d (.int k n)=>.d (.int k (k.wrap (0-n)))
|_=>.any
def TQ:V->V
|.d (.int k n)=>.d (.int k (Zf .xor k (if k.signed then -1 else k.max) n))
|_=>.any
def Jt(c:BinOp)(k:IntKind)(a b:Int):V:=
 match c with
 |.add=>.d (.int k (k.wrap (a+b)))
 |.sub=>.d (.int k (k.wrap (a-b)))
 |.mul=>.d (.int k (k.wrap (a*b)))
 |.quo=>.d (.int k (k.wrap (a.tdiv b)))
 |.rem=>.d (.int k (a.tmod b))
 |.and|.or|.xor|.andNot=>.d (.int k (Zf c k a b))
 |.shl=>.d (.int k (k.wrap (a*2 ^ (min b.toNat k.bits))))
 |.shr=>.d (.int k (a.fdiv (2 ^ (min b.toNat k.bits))))
 |.eql=>.d (.bool (a==b))
 |.neq=>.d (.bool (a != b))
 |.lss=>.d (.bool (decide (a<b)))
 |.leq=>.d (.bool (decide (a<=b)))
 |.gtr=>.d (.bool (decide (b<a)))
 |.geq=>.d (.bool (decide (b<=a)))
def RA(a:BinOp)(x y:List UInt8):V:=
 match a with
 |.add=>.d (.AU (x++y))
 |.eql=>.d (.bool (x==y))
 |.neq=>.d (.bool (x != y))
 |.lss=>.d (.bool (Op.bytesLess x y))
 |.leq=>.d (.bool (Op.bytesLess x y||x==y))
 |.gtr=>.d (.bool (!(Op.bytesLess x y||x==y)))
 |.geq=>.d (.bool (!Op.bytesLess x y))
 |_=>.any
def Og(c:BinOp):V->V->V
|.d (.int k a),.d (.int _ b)=>Jt c k a b
|.d (.AU x),.d (.AU y)=>RA c x y
|_,_=>.any
def OL(e:Bool):V->V
|.d .B6=>.d (.bool e)
|.iface _ _=>.d (.bool (!e))
|.d (.iface _ _)=>.d (.bool (!e))
|_=>.any
def OT(e:Bool):V->V
|.d .Br=>.d (.bool e)
|.d (.fn _ _ _)=>.d (.bool (!e))
|.fn _ _ _=>.d (.bool (!e))
|_=>.any
def Ov:V->V
|.sl id n=>.sd id n
|.d .Ad=>.d .CL
|_=>.any
def TS(k:IntKind):V->V
|.d (.int _ n)=>.d (.int k (k.wrap n))
|_=>.any
def TR:V->V->V
|.d (.AU s),.d (.int _ n)=>.d (.int .u8 (s.getD n.toNat 0).toNat)
|_,_=>.any
def LA(z:Nat):V->V->V
|.d (.AH _ b),.d (.int _ n)=>.d (.Bv (b.getD n.toNat default))
|.sl id n,.d (.int _ m)=>.ep id n z m.toNat 0 []
|.bs id p a _,.d (.int _ m)=>.ptr id (p++[a+m.toNat])
|_,_=>.any
def L7:V->V->V
|.ptr id p,.d (.int _ n)=>.ptr id (p++[n.toNat])
|.d (.Bv (.agg a)),.d (.int _ n)=>.d (.Bv (a.getD n.toNat default))
|_,_=>.any
def Vt(f a:Nat):V->V
|.ptr id p=>.ptr id (p++[f])
|.ep id n z i g p=>.ep id n z i (g+a) (p++[f])
|.d (.Bv (.agg b))=>.d (.Bv (b.getD f default))
|_=>.any
def RM(f:Nat):Option (List V)->V
|some a=>a.getD f .any
|none=>.any
def Ng:Option V->V
|some v=>v
|none=>.any
def Gp(a:AF):V->V
|.ptr id p=>Ng (DL a id p)
|.d (.Bv x)=>.d x
|.ep id m z i f p=>Ng (F6 a id m z i f p)
|_=>.any
def SK:V->V
|.d (.AU s)=>.d (.int .i64 s.length)
|_=>.any
def LC:V->V
|.d (.AH _ a)=>.d (.int .i64 a.length)
|.d .Ad=>.d (.int .i64 0)
|.sl _ n=>.d (.int .i64 n)
|.bs _ _ _ n=>.d (.int .i64 n)
|_=>.any
def LO(a:Nat)(K:Nat->Nat->V):Option V->Option V->V
|none,none=>K 0 a
|some (.d (.int _ l)),none=>K l.toNat a
|none,some (.d (.int _ h))=>K 0 h.toNat
|some (.d (.int _ l)),some (.d (.int _ h))=>K l.toNat h.toNat
|_,_=>.any
def H8(b a:Option V):V->V
|.d (.AU s)=>LO s.length (λl h=>.d (.AU ((s.take h).drop l))) b a
|_=>.any
def P2(c b:Option V):V->V
|.d (.AH e a)=>LO a.length (λl h=>.d (.AH e ((a.take h).drop l))) c b
|_=>.any
def RL(i:Nat):V->V
|.BT a=>a.getD i .any
|_=>.any
def Nq(t:Nat)(z:D):V->V
|.iface a v=>if a=t then .BT [v,.d (.bool true)] else .BT [.d z,.d (.bool false)]
|.d (.iface a x)=>if a=t then .BT [.d x,.d (.bool true)] else .BT [.d z,.d (.bool false)]
|.d .B6=>.BT [.d z,.d (.bool false)]
|_=>.any
def RI(e:Bool):V->V->V
|.d x,.d y=>.d (.bool (Cy x y==e))
|_,_=>.any
def Pp:V->V->V
|.d (.agg a),.d (.int _ n)=>.d (a.getD n.toNat default)
|_,_=>.any
def C.val(d:Xe)(m:AF):C->V
|.mv x=>x.ev d
|.pick c a b=>KK (c.ev d) (a.ev d) (b.ev d)
|.not x=>RU (x.ev d)
|.neg x=>TA (x.ev d)
|.HF x=>TQ (x.ev d)
|.CR n x y=>Og n (x.ev d) (y.ev d)
|.DG e x=>OL e (x.ev d)
|.EP e x=>OT e (x.ev d)
|.IM x=>Ov (x.ev d)
|.IE k x=>TS k (x.ev d)
|.Gn x i=>TR (x.ev d) (i.ev d)
|.Cs z x i=>LA z (x.ev d) (i.ev d)
|.CZ _ _ x i=>L7 (x.ev d) (i.ev d)
|.Bf f l x=>Vt f l (x.ev d)
|.IF f _ _ _ x=>RM f (x.ev d).Bc
|.ld _ _ x=>Gp m (x.ev d)
|.DA x=>x.ev d
|.DI x=>SK (x.ev d)
|.CK x=>LC (x.ev d)
|.Cu x j h=>H8 (j.map (A.ev d)) (h.map (A.ev d)) (x.ev d)
|.C6 _ x j h=>P2 (j.map (A.ev d)) (h.map (A.ev d)) (x.ev d)
|.ext x i=>RL i (x.ev d)
|.Fa _ _=>.any
|.ES f first g=>Oq f (first.map (A.ev d)) (g.map (A.ev d))
|.IH t x=>LY t (x.ev d)
|.IL t z x=>Nq t z (x.ev d)
|.Fc _ e x y=>RI e (x.ev d) (y.ev d)
|.HY _ _ _ x i=>Pp (x.ev d) (i.ev d)
def C.ok(b:Xe)(a:AF)(c:C):Prop:=c.wp b a λv=>v=c.val b a
def X7e{c:BinOp}{k f:IntKind}{a b:Int}{K d:V->Prop}(e:∀v,K v->d v)(h:IW c k f a b K):IW c k f a b d:=by
 cases c<;>simp only[IW]at h⊢<;>first|exact⟨h.1,e _ h.2⟩|exact⟨h.1,h.2.1,e _ h.2.2⟩
def Ydb{c:BinOp}{a b:List UInt8}{K d:V->Prop}(e:∀v,K v->d v)(h:I6 c a b K):I6 c a b d:=by
 cases c<;>simp only[I6]at h⊢<;>first|exact e _ h|exact⟨h.1,e _ h.2⟩|cases h
def dP{n:Nat}{K a:Nat->Nat->Prop}(d:∀l h,K l h->a l h){c b:Option V}(h:EL n K c b):EL n a c b:=by
 unfold EL at h⊢;split<;>simp_all
def Jg{K a:List V->Prop}(b:∀l,K l->a l):∀(d:List (Nat×V)) (c:List V),EU c d K->EU c d a
|[],_,h=>b _ h
|(_,_)::r,_,h=>⟨h.1,h.2.1,h.2.2.1,Jg b r _ h.2.2.2⟩
def C.wp_mono{sl:Xe}{ob:AF}{K b:V->Prop}(a:∀v,K v->b v)(c:C)(h:c.wp sl ob K):c.wp sl ob b:=by
 cases c<;>simp only[C.wp]at h⊢
 case mv=>exact a _ h
 case ES=>exact a _ h
 case IH=>exact a _ h
 case Fa=>exact Jg (λ_=>a _) _ _ h
 case CR x y=>
  generalize A.ev sl x=v at h⊢;generalize A.ev sl y=u at h⊢;unfold Iy at h;split at h
  ·exact X7e a h
  ·exact Ydb a h
  ·cases h
 case Cu x lo hi=>
  generalize A.ev sl x=v at h⊢;unfold LK at h;split at h
  ·exact dP (λ_ _=>a _) h
  ·cases h
 case C6 x lo hi=>
  generalize A.ev sl x=v at h⊢;unfold LJ at h;split at h
  ·exact⟨h.1,dP (λ_ _=>a _) h.2⟩
  ·cases h
 case pick x y z=>
  generalize A.ev sl x=v at h⊢;generalize A.ev sl y=u at h⊢;generalize A.ev sl z=t at h⊢;unfold JJ at h;split at h
  ·exact a _ h
  next d=>simp only[JJ];exact⟨λe=>a _ (h.1 e),λe=>a _ (h.2 e)⟩
  ·cases h
 case IF x=>
  generalize (A.ev sl x).Bc=v at h⊢;unfold LU at h;split at h
  ·exact⟨h.1,h.2.1,h.2.2.1,h.2.2.2.1,a _ h.2.2.2.2⟩
  ·cases h
 case Bf x=>
  generalize A.ev sl x=v at h⊢;unfold Ux at h;split at h
  ·simp only[Ux];generalize Vf _=v at h⊢;unfold Jo at h;split at h
   ·exact⟨h.1,h.2.1,a _ h.2.2⟩
   ·cases h
  ·exact⟨h.1,h.2.1,a _ h.2.2⟩
  ·exact a _ h
  ·cases h
 case ld x=>
  generalize A.ev sl x=v at h⊢;unfold En at h;split at h
  ·simp only[En];generalize DL _ _ _=v at h⊢;unfold GU at h;split at h
   ·exact⟨h.1,h.2.1,a _ h.2.2⟩
   ·cases h
  ·exact⟨h.1,h.2.1,a _ h.2.2⟩
  ·simp only[En];generalize F6 _ _ _ _ _ _ _=v at h⊢;unfold GU at h;split at h
   ·exact⟨h.1,h.2.1,a _ h.2.2⟩
   ·cases h
  ·cases h
 case IL x=>
  generalize A.ev sl x=v at h⊢;unfold MZ at h;split at h
  ·exact⟨λe=>a _ (h.1 e),λe=>a _ (h.2 e)⟩
  ·exact⟨λe=>a _ (h.1 e),λe=>a _ (h.2 e)⟩
  ·exact a _ h
  ·cases h
 case EP x=>generalize A.ev sl x=v at h⊢;unfold JH at h;split at h<;>first|exact a _ h|cases h
 case IM x=>generalize A.ev sl x=v at h⊢;unfold I8 at h;split at h<;>first|exact⟨h.1,a _ h.2⟩|exact a _ h|cases h
 case not x=>generalize A.ev sl x=v at h⊢;unfold Lb at h;split at h<;>first|exact a _ h|cases h
 case HF x=>generalize A.ev sl x=v at h⊢;unfold MQ at h;split at h<;>first|exact a _ h|cases h
 case neg x=>generalize A.ev sl x=v at h⊢;unfold LZ at h;split at h<;>first|exact a _ h|cases h
 case DG x=>generalize A.ev sl x=v at h⊢;unfold Q6 at h;split at h<;>first|exact a _ h|cases h
 case IE x=>generalize A.ev sl x=v at h⊢;unfold LQ at h;split at h<;>first|exact a _ h|cases h
 case DA x=>generalize A.ev sl x=v at h⊢;unfold H5 at h;split at h<;>first|exact a _ h|cases h
 case DI x=>generalize A.ev sl x=v at h⊢;unfold LF at h;split at h<;>first|exact a _ h|cases h
 case CK x=>generalize A.ev sl x=v at h⊢;unfold Hw at h;split at h<;>first|exact a _ h|exact⟨h.1,a _ h.2⟩|cases h
 case ext x _=>generalize A.ev sl x=v at h⊢;unfold LS at h;split at h<;>first|exact⟨h.1,a _ h.2⟩|cases h
 case Fc x y=>generalize A.ev sl x=v at h⊢;generalize A.ev sl y=u at h⊢;unfold TV at h;split at h<;>first|exact⟨h.1,h.2.1,a _ h.2.2⟩|cases h
 case HY x y=>generalize A.ev sl x=v at h⊢;generalize A.ev sl y=u at h⊢;unfold Oa at h;split at h<;>first|exact⟨h.1,h.2.1,h.2.2.1,a _ h.2.2.2⟩|cases h
 case Gn x y=>generalize A.ev sl x=v at h⊢;generalize A.ev sl y=u at h⊢;unfold LV at h;split at h<;>first|exact⟨h.1,a _ h.2⟩|cases h
 case Cs x y=>generalize A.ev sl x=v at h⊢;generalize A.ev sl y=u at h⊢;unfold HQ at h;split at h<;>first|exact⟨h.1,h.2.1,a _ h.2.2⟩|cases h
 case CZ x y=>generalize A.ev sl x=v at h⊢;generalize A.ev sl y=u at h⊢;unfold JI at h;split at h<;>first|exact⟨h.1,h.2.1,a _ h.2.2⟩|exact⟨h.1,h.2.1,h.2.2.1,a _ h.2.2.2⟩|cases h
def Rcn{b:Xe}{a:AF}{K:V->Prop}{c:C}(h:c.ok b a)(d:K (c.val b a)):c.wp b a K:=
 C.wp_mono (λ_ e=>e▸d) c h
inductive E where
|a (x:A)
|u (c:C) (x:E)
|b (c:C) (x y:E)
|t (c:C) (x y z:E)
|ite (c x y:E)
|call (f:Nat) (x:E)
|nil
|cons (x r:E)
structure Fn where
 pre:List V->Prop
 val:List V->V
abbrev DD:=List (Nat×Fn)
def H2:DD->Nat->Option Fn
|[],_=>none
|(j,x)::r,k=>if j=k then some x else H2 r k
def A4(P:BA)(T:DD):Prop:=∀f F,H2 T f=some F->∀a,F.pre a->∀(b:AF)(K:V->Prop),K (F.val a)->AW P f a b K
def HH(a:Bool):V->Bool
|.d (.bool b)=>b==a
|_=>false
def KI:V->Prop
|.d (.bool _)=>True
|_=>False
def SD(x:V):V->V
|.BT a=>.BT (x::a)
|_=>.any
def XQ:Option Fn->V->V
|some F,.BT a=>F.val a
|_,_=>.any
def XR:Option Fn->V->Prop
|some F,.BT a=>F.pre a
|_,_=>False
def E.val(T:DD)(e:Xe)(d:AF):E->V
|.a x=>x.ev e
|.u c x=>c.val [(0,x.val T e d)] d
|.b c x y=>c.val [(0,x.val T e d),(1,y.val T e d)] d
|.t c x y z=>c.val [(0,x.val T e d),(1,y.val T e d),(2,z.val T e d)] d
|.ite c x y=>KK (c.val T e d) (x.val T e d) (y.val T e d)
|.call f x=>XQ (H2 T f) (x.val T e d)
|.nil=>.BT []
|.cons x r=>SD (x.val T e d) (r.val T e d)
def E.ok(T:DD)(e:Xe)(d:AF):E->Prop
|.a _=>True
|.u c x=>x.ok T e d/\c.ok [(0,x.val T e d)] d
|.b c x y=>x.ok T e d/\y.ok T e d/\c.ok [(0,x.val T e d),(1,y.val T e d)] d
|.t c x y z=>x.ok T e d/\y.ok T e d/\z.ok T e d/\c.ok [(0,x.val T e d),(1,y.val T e d),(2,z.val T e d)] d
|.ite c x y=>c.ok T e d/\KI (c.val T e d)/\(HH true (c.val T e d)=true->x.ok T e d)/\(HH false (c.val T e d)=true->y.ok T e d)
|.call f x=>x.ok T e d/\XR (H2 T f) (x.val T e d)
|.nil=>True
|.cons x r=>x.ok T e d/\r.ok T e d
def A.BQ(k:Nat):A->Bool
|.t j=>j==k
|_=>false
def E.BQ(k:Nat):E->Bool
|.a x=>x.BQ k
|.u _ x=>x.BQ k
|.b _ x y=>x.BQ k||y.BQ k
|.t _ x y z=>x.BQ k||y.BQ k||z.BQ k
|.ite x y z=>x.BQ k||y.BQ k||z.BQ k
|.call _ x=>x.BQ k
|.nil=>false
|.cons x y=>x.BQ k||y.BQ k
def C.rd:C->Bool
|.ld _ _ _=>true
|_=>false
def E.rd:E->Bool
|.a _=>false
|.u c x=>c.rd||x.rd
|.b c x y=>c.rd||x.rd||y.rd
|.t c x y z=>c.rd||x.rd||y.rd||z.rd
|.ite x y z=>x.rd||y.rd||z.rd
|.call _ x=>x.rd
|.nil=>false
|.cons x y=>x.rd||y.rd
def E.pU:E->Bool
|.a _=>true
|_=>false
def Hq{T:DD}{g:Xe}{d:AF}{k:Nat}{v:V}:∀{e:E},e.BQ k=false->e.val T ((k,v)::g) d=e.val T g d
|.a x,h=>by
 cases x<;>simp only[E.val,A.ev];rename_i j;simp only[E.BQ,A.BQ,Gz,ne_eq]at h;have i:¬k=j:=λe=>h e.symm;simp[A7,i]
|.u c x,h=>by simp only[E.BQ]at h;simp only[E.val,Hq h]
|.b c x y,h=>by simp only[E.BQ,FU]at h;simp only[E.val,Hq h.1,Hq h.2]
|.t c x y z,h=>by simp only[E.BQ,FU]at h;simp only[E.val,Hq h.1.1,Hq h.1.2,Hq h.2]
|.ite x y z,h=>by simp only[E.BQ,FU]at h;simp only[E.val,Hq h.1.1,Hq h.1.2,Hq h.2]
|.call f x,h=>by simp only[E.BQ]at h;simp only[E.val,Hq h]
|.nil,_=>rfl
|.cons x y,h=>by simp only[E.BQ,FU]at h;simp only[E.val,Hq h.1,Hq h.2]
def C.CM{a:Xe}{b ob':AF}{c:C}(h:c.rd=false):c.val a b=c.val a ob':=by
 cases c<;>simp_all[C.rd,C.val]
def E.CM{T:DD}{d:Xe}{g ob':AF}:∀{e:E},e.rd=false->e.val T d g=e.val T d ob'
|.a x,h=>rfl
|.u c x,h=>by simp only[E.rd,FU]at h;simp only[E.val,E.CM (ob':=ob') h.2,C.CM (ob':=ob') h.1]
|.b c x y,h=>by simp only[E.rd,FU]at h;simp only[E.val,E.CM (ob':=ob') h.1.2,E.CM (ob':=ob') h.2,C.CM (ob':=ob') h.1.1]
|.t c x y z,h=>by simp only[E.rd,FU]at h;simp only[E.val,E.CM (ob':=ob') h.1.1.2,E.CM (ob':=ob') h.1.2,E.CM (ob':=ob') h.2,C.CM (ob':=ob') h.1.1.1]
|.ite x y z,h=>by simp only[E.rd,FU]at h;simp only[E.val,E.CM (ob':=ob') h.1.1,E.CM (ob':=ob') h.1.2,E.CM (ob':=ob') h.2]
|.call f x,h=>by simp only[E.rd]at h;simp only[E.val,E.CM (ob':=ob') h]
|.nil,_=>rfl
|.cons x y,h=>by simp only[E.rd,FU]at h;simp only[E.val,E.CM (ob':=ob') h.1,E.CM (ob':=ob') h.2]
abbrev Jb:=List (Nat×Bool)
abbrev Sg:=List (Nat×Option (Jb×E))
def Vg:Sg->Nat->Option (Option (Jb×E))
|[],_=>none
|(j,x)::r,k=>if j=k then some x else Vg r k
def Da(b:Sg)(k:Nat):Option (Jb×E):=match Vg b k with
|none=>some ([],.a (.t k))
|some x=>x
def X6(a:Xe)(p:Jb):Bool:=p.all λg=>HH g.2 (A7 a g.1)
def Wn(T:DD)(b:Xe)(a:AF)(p:List (E×Bool)):Bool:=p.all λg=>HH g.2 (g.1.val T b a)
def D0(T:DD)(d:Sg)(a b:Xe)(c:AF):Prop:=∀k p e,Da d k=some (p,e)->
 (X6 a p=true->A7 a k=e.val T b c)/\(X6 a p=false->A7 a k=.undef)
def Ey(b:Sg)(p:Jb):A->Option E
|.t k=>match Da b k with
 |some (q,e)=>if q.isPrefixOf p then some e else none
 |none=>none
|x=>some (.a x)
def Uj(a:Sg)(p:Jb)(c:C)(x:A):Option E:=match Ey a p x with
|some x=>some (.u c x)
|none=>none
def H0(a:Sg)(p:Jb)(c:C)(x y:A):Option E:=match Ey a p x,Ey a p y with
|some x,some y=>some (.b c x y)
|_,_=>none
def Py(a:Sg)(p:Jb)(c:C)(x y z:A):Option E:=match Ey a p x,Ey a p y,Ey a p z with
|some x,some y,some z=>some (.t c x y z)
|_,_,_=>none
def oI(a:Sg)(p:Jb)(g:Nat)(x y:A):Option E:=match Ey a p (.t g),Ey a (p++[(g,true)]) x,Ey a (p++[(g,false)]) y with
|some c,some x,some y=>some (.ite c x y)
|_,_,_=>none
def OX(a:Sg)(p:Jb):List A->Option E
|[]=>some .nil
|x::r=>match Ey a p x,OX a p r with
 |some x,some r=>some (.cons x r)
 |_,_=>none
def C.AZ(a:Sg)(p:Jb):C->Option E
|.mv x=>Ey a p x
|.pick (.t g) x y=>oI a p g x y
|.pick _ _ _=>none
|.not x=>Uj a p (.not (.t 0)) x
|.neg x=>Uj a p (.neg (.t 0)) x
|.HF x=>Uj a p (.HF (.t 0)) x
|.CR o x y=>H0 a p (.CR o (.t 0) (.t 1)) x y
|.DG e x=>Uj a p (.DG e (.t 0)) x
|.EP e x=>Uj a p (.EP e (.t 0)) x
|.IM x=>Uj a p (.IM (.t 0)) x
|.IE k x=>Uj a p (.IE k (.t 0)) x
|.Gn x i=>H0 a p (.Gn (.t 0) (.t 1)) x i
|.Cs z x i=>H0 a p (.Cs z (.t 0) (.t 1)) x i
|.CZ n z x i=>H0 a p (.CZ n z (.t 0) (.t 1)) x i
|.Bf f c x=>Uj a p (.Bf f c (.t 0)) x
|.IF f c n b x=>Uj a p (.IF f c n b (.t 0)) x
|.ld n b x=>Uj a p (.ld n b (.t 0)) x
|.DA x=>Uj a p (.DA (.t 0)) x
|.DI x=>Uj a p (.DI (.t 0)) x
|.CK x=>Uj a p (.CK (.t 0)) x
|.Cu x none none=>Uj a p (.Cu (.t 0) none none) x
|.Cu x (some l) none=>H0 a p (.Cu (.t 0) (some (.t 1)) none) x l
|.Cu x none (some h)=>H0 a p (.Cu (.t 0) none (some (.t 1))) x h
|.Cu x (some l) (some h)=>Py a p (.Cu (.t 0) (some (.t 1)) (some (.t 2))) x l h
|.C6 z x none none=>Uj a p (.C6 z (.t 0) none none) x
|.C6 z x (some l) none=>H0 a p (.C6 z (.t 0) (some (.t 1)) none) x l
|.C6 z x none (some h)=>H0 a p (.C6 z (.t 0) none (some (.t 1))) x h
|.C6 z x (some l) (some h)=>Py a p (.C6 z (.t 0) (some (.t 1)) (some (.t 2))) x l h
|.ext x i=>Uj a p (.ext (.t 0) i) x
|.IH t x=>Uj a p (.IH t (.t 0)) x
|.IL t z x=>Uj a p (.IL t z (.t 0)) x
|.Fc d e x y=>H0 a p (.Fc d e (.t 0) (.t 1)) x y
|.HY n z b x i=>H0 a p (.HY n z b (.t 0) (.t 1)) x i
|.Fa _ _=>none
|.ES _ _ _=>none
def I.AZ(d:List Nat)(b:Sg)(p:Jb):I->Option E
|.c x=>x.AZ b p
|.Bn f a=>if d.contains f then (match OX b p a with|some e=>some (.call f e)|none=>none) else none
|_=>none
def FE(a:Sg)(p:Jb):A->List Nat
|.t k=>match Da a k with
 |some (q,_)=>if q==p then[k] else[]
 |none=>[]
|_=>[]
def TK(a:Sg)(p:Jb):List A->List Nat
|[]=>[]
|x::r=>FE a p x++TK a p r
def C.cons(a:Sg)(p:Jb):C->List Nat
|.mv x|.not x|.neg x|.HF x|.DG _ x|.EP _ x|.IM x|.IE _ x|.Bf _ _ x|.IF _ _ _ _ x|.ld _ _ x|.DA x|.DI x|.CK x|.ext x _|.IH _ x|.IL _ _ x=>FE a p x
|.CR _ x y|.Gn x y|.Cs _ x y|.CZ _ _ x y|.Fc _ _ x y|.HY _ _ _ x y=>FE a p x++FE a p y
|.Cu x none none|.C6 _ x none none=>FE a p x
|.Cu x (some y) none|.C6 _ x (some y) none|.Cu x none (some y)|.C6 _ x none (some y)=>FE a p x++FE a p y
|.Cu x (some y) (some z)|.C6 _ x (some y) (some z)=>FE a p x++FE a p y++FE a p z
|.pick (.t g) x y=>FE a p (.t g)++FE a (p++[(g,true)]) x++FE a (p++[(g,false)]) y
|_=>[]
def I.cons(b:Sg)(p:Jb):I->List Nat
|.c x=>x.cons b p
|.Bn _ a=>TK b p a
|_=>[]
def I.Gm(a:Sg)(p:Jb):I->List Nat
|.c (.pick (.t g) _ _)=>FE a p (.t g)
|_=>[]
section
variable {P:BA} {T:DD} {σ:Sg} {sl sl0:Xe} {ob:AF} {p:Jb}
def v8{q:Jb}(h:q.isPrefixOf p=true)(a:X6 sl p=true):X6 sl q=true:=by
 rw[List.isPrefixOf_iff_prefix]at h;obtain⟨t,rfl⟩:=h;simp only[X6,R5,BB]at a⊢;exact a.1
def W0(a:D0 T σ sl sl0 ob)(c:X6 sl p=true){x:A}{e:E}(h:Ey σ p x=some e):e.val T sl0 ob=x.ev sl:=by
 cases x with
 |t k=>
  simp only[Ey]at h;split at h
  ·rename_i q f b;split at h
   next d=>cases h;exact((a k q e b).1 (v8 d c)).symm
   ·cases h
  ·cases h
 |_=>simp only[Ey]at h;cases h;rfl
def Xzi{c:C}{x:A}{e:E}(h:Uj σ p c x=some e):∃a,e=.u c a/\Ey σ p x=some a:=by
 unfold Uj at h;split at h
 ·cases h;exact⟨_,rfl,by assumption⟩
 ·cases h
def Xzj{c:C}{x y:A}{e:E}(h:H0 σ p c x y=some e):∃a d,e=.b c a d/\Ey σ p x=some a/\Ey σ p y=some d:=by
 unfold H0 at h;split at h
 ·cases h;exact⟨_,_,rfl,by assumption,by assumption⟩
 ·cases h
def Xzk{c:C}{x y z:A}{e:E}(h:Py σ p c x y z=some e):∃a b d,e=.t c a b d/\Ey σ p x=some a/\Ey σ p y=some b/\Ey σ p z=some d:=by
 unfold Py at h;split at h
 ·cases h;exact⟨_,_,_,rfl,by assumption,by assumption,by assumption⟩
 ·cases h
def gF{g:Nat}{x y:A}{e:E}(h:oI σ p g x y=some e):∃a b c,e=.ite a b c/\Ey σ p (.t g)=some a/\Ey σ (p++[(g,true)]) x=some b/\Ey σ (p++[(g,false)]) y=some c:=by
 unfold oI at h;split at h
 ·cases h;exact⟨_,_,_,rfl,by assumption,by assumption,by assumption⟩
 ·cases h
def xf(a:D0 T σ sl sl0 ob)(b:X6 sl p=true):∀{c:List A}{e:E},OX σ p c=some e->e.val T sl0 ob=.BT (c.map (A.ev sl))
|[],e,h=>by simp only[OX]at h;cases h;rfl
|x::r,e,h=>by
 simp only[OX]at h;split at h
 next i g f d=>cases h;simp only[E.val,W0 a b f,xf a b d,SD,Cw]
 ·cases h
def Yb9(x y:V):KK (.d (.bool true)) x y=x:=by unfold KK;split<;>simp_all
def Yb7(x y:V):KK (.d (.bool false)) x y=y:=by unfold KK;split<;>simp_all
def Yb8{v:V}(h:¬KI v)(x y:V):KK v x y=.any:=by unfold KK;split<;>simp_all[KI]
def eD{v:V}(h:KI v):v=.d (.bool true)\/v=.d (.bool false):=by
 unfold KI at h;split at h
 next b=>cases b<;>simp
 ·cases h
def C.BK(k:D0 T σ sl sl0 ob)(l:X6 sl p=true){c:C}{e:E}(h:c.AZ σ p=some e):e.val T sl0 ob=c.val sl ob/\(e.ok T sl0 ob->c.ok sl ob):=by
 have v:∀{c x},Uj σ p c x=some e->∃a,e=.u c a/\a.val T sl0 ob=x.ev sl:=λh=>by
  obtain⟨a,rfl,f⟩:=Xzi h;exact⟨a,rfl,W0 k l f⟩
 have w:∀{c x y},H0 σ p c x y=some e->∃a i,e=.b c a i/\a.val T sl0 ob=x.ev sl/\i.val T sl0 ob=y.ev sl:=λh=>by
  obtain⟨a,i,rfl,f,m⟩:=Xzj h;exact⟨a,i,rfl,W0 k l f,W0 k l m⟩
 have F:∀{c x y z},Py σ p c x y z=some e->∃a i n,e=.t c a i n/\a.val T sl0 ob=x.ev sl/\i.val T sl0 ob=y.ev sl/\n.val T sl0 ob=z.ev sl:=λh=>by
  obtain⟨a,i,n,rfl,f,m,r⟩:=Xzk h;exact⟨a,i,n,rfl,W0 k l f,W0 k l m,W0 k l r⟩
 unfold C.AZ at h;split at h
 case h_1=>exact⟨by rw[W0 k l h];rfl,λ_=>rfl⟩
 case h_2 g x y=>
  obtain⟨G,a,i,rfl,s,f,m⟩:=gF h;have o:=W0 k l s;simp only[A.ev]at o;have q:∀b,A7 sl g=.d (.bool b)->X6 sl (p++[(g,b)])=true:=λb j=>by
   simp only[X6,R5,BB]at l⊢;exact⟨l,by simp[j,HH]⟩
  simp only[E.val,E.ok,C.val,C.ok,C.wp,XN,o];by_cases j:KI (A7 sl g)
  ·rcases eD j with j|j
   ·have:=W0 k (q true j) f;rw[j];simp only[Yb9,Ytn,this];exact⟨trivial,λ_=>trivial⟩
   ·have:=W0 k (q false j) m;rw[j];simp only[Yb7,Ytm,this];exact⟨trivial,λ_=>trivial⟩
  ·rw[Yb8 j,Yb8 j];exact⟨rfl,λh=>(j h.2.1).elim⟩
 all_goals first
 |(cases h;done)
 |(obtain⟨a,rfl,f⟩:=v h;simp only[E.val,E.ok,C.val,C.ok,C.wp,XN,hE,f,Option.map];exact⟨trivial,λh=>h.2⟩)
 |(obtain⟨a,i,rfl,f,m⟩:=w h;simp only[E.val,E.ok,C.val,C.ok,C.wp,XN,hE,ur,Nat.reduceBEq,f,m,Option.map];exact⟨trivial,λh=>h.2.2⟩)
 |(obtain⟨a,i,n,rfl,f,m,r⟩:=F h;simp only[E.val,E.ok,C.val,C.ok,C.wp,XN,hE,ur,Nat.reduceBEq,f,m,r,Option.map];exact⟨trivial,λh=>h.2.2.2⟩)
def Vl{x:A}{k:Nat}{b:E}(a:k∈FE σ p x)(h:Ey σ p x=some b):Da σ k=some (p,b):=by
 cases x with
 |t j=>
  simp only[FE]at a;simp only[Ey]at h;split at a
  ·rename_i q e c;split at a
   next d=>simp at a;subst a;simp at d;subst d;rw[c]at h;simp at h;rw[c,h]
   ·cases a
  ·cases a
 |_=>simp[FE]at a
def Zp{g:Nat}{b:Bool}:X6 sl (p++[(g,b)])=(X6 sl p&&HH b (A7 sl g)):=by
 simp[X6,R5]
def sK:∀{d:List A}{e:E},OX σ p d=some e->∀{k q b},k∈TK σ p d->Da σ k=some (q,b)->q=p/\(e.ok T sl0 ob->b.ok T sl0 ob)
|[],_,_,k,_,_,a,_=>by simp[TK]at a
|x::r,e,h,k,q,b,a,c=>by
 simp only[OX]at h;split at h
 ·rename_i m l j i;cases h;simp only[TK,DT]at a;rcases a with a|a
  ·have:=Vl a j;rw[c]at this;cases this;exact⟨rfl,λh=>h.1⟩
  ·obtain⟨f,g⟩:=sK i a c;exact⟨f,λh=>g h.2⟩
 ·cases h
def C.pM(s:D0 T σ sl sl0 ob){c:C}{e:E}(h:c.AZ σ p=some e){k:Nat}{q:Jb}{j:E}(a:k∈c.cons σ p)(d:Da σ k=some (q,j))(b:X6 sl q=true)(f:X6 sl p=true->e.ok T sl0 ob):j.ok T sl0 ob:=by
 have u:∀{c x},Uj σ p c x=some e->k∈FE σ p x->j.ok T sl0 ob:=λh a=>by
  obtain⟨m,rfl,i⟩:=Xzi h;have:=Vl a i;rw[d]at this;cases this;exact(f b).1
 have v:∀{c x y},H0 σ p c x y=some e->k∈FE σ p x++FE σ p y->j.ok T sl0 ob:=λh a=>by
  obtain⟨m,r,rfl,i,l⟩:=Xzj h;rw[DT]at a;rcases a with a|a
  ·have:=Vl a i;rw[d]at this;cases this;exact(f b).1
  ·have:=Vl a l;rw[d]at this;cases this;exact(f b).2.1
 have w:∀{c x y z},Py σ p c x y z=some e->k∈FE σ p x++FE σ p y++FE σ p z->j.ok T sl0 ob:=λh a=>by
  obtain⟨m,r,G,rfl,i,l,t⟩:=Xzk h;rw[DT,DT]at a;rcases a with (a|a)|a
  ·have:=Vl a i;rw[d]at this;cases this;exact(f b).1
  ·have:=Vl a l;rw[d]at this;cases this;exact(f b).2.1
  ·have:=Vl a t;rw[d]at this;cases this;exact(f b).2.2.1
 unfold C.AZ at h;split at h<;>simp only[C.cons]at a
 case h_1=>
  have:=Vl a h;rw[d]at this;cases this;exact f b
 case h_2 g x y=>
  obtain⟨F,m,r,rfl,n,i,l⟩:=gF h;rw[DT,DT]at a;rcases a with (a|a)|a
  ·have:=Vl a n;rw[d]at this;cases this;exact(f b).1
  ·have:=Vl a i;rw[d]at this;cases this;rw[Zp,BB]at b;have o:=W0 s b.1 n;exact(f b.1).2.2.1 (by rw[o];exact b.2)
  ·have:=Vl a l;rw[d]at this;cases this;rw[Zp,BB]at b;have o:=W0 s b.1 n;exact(f b.1).2.2.2 (by rw[o];exact b.2)
 all_goals first
 |(cases h;done)
 |exact u h a
 |exact v h a
 |exact w h a
 |(cases a;done)
def I.pM(n:D0 T σ sl sl0 ob){l:List Nat}{i:I}{e:E}(h:i.AZ l σ p=some e){k:Nat}{q:Jb}{b:E}(a:k∈i.cons σ p)(d:Da σ k=some (q,b))(j:X6 sl q=true)(g:X6 sl p=true->e.ok T sl0 ob):b.ok T sl0 ob:=by
 cases i<;>simp only[I.AZ]at h<;>simp only[I.cons]at a
 case c x=>exact C.pM n h a d j g
 case Bn f args=>
  split at h
  ·split at h
   next r o=>cases h;obtain⟨rfl,m⟩:=sK (T:=T) (sl0:=sl0) (ob:=ob) o a d;exact m (g j).1
   ·cases h
  ·cases h
 all_goals cases h
def Rcp{c:List Nat}{i:I}{e:E}(h:i.AZ c σ p=some e){k:Nat}{q:Jb}{b:E}(a:k∈i.Gm σ p)(f:Da σ k=some (q,b))(l:X6 sl q=true)(j:X6 sl p=true->e.ok T sl0 ob):KI (b.val T sl0 ob):=by
 unfold I.Gm at a;split at a
 next g x y=>simp only[I.AZ,C.AZ]at h;obtain⟨m,n,o,rfl,d,r,s⟩:=gF h;have:=Vl a d;rw[f]at this;cases this;exact(j l).2.1
 ·cases a
def I.BK(q:A4 P T)(j:D0 T σ sl sl0 ob)(k:X6 sl p=true){m:List Nat}{i:I}{e:E}(h:i.AZ m σ p=some e)(a:e.ok T sl0 ob){g l:V->AF->Prop}(b:g (e.val T sl0 ob) ob):i.wp P sl ob g l:=by
 cases i<;>simp only[I.AZ]at h
 case c x=>
  obtain⟨n,o⟩:=C.BK j k h;simp only[I.wp];exact Rcn (o a) (by rw[<-n];exact b)
 case Bn f args=>
  split at h
  ·split at h
   ·rename_i t r;cases h;have s:=xf j k r;simp only[E.ok,E.val,s]at a b;simp only[I.wp];cases d:H2 T f with
    |none=>rw[d]at a;exact a.2.elim
    |some F=>rw[d]at a b;exact q f F d _ a.2 _ _ b
   ·cases h
  ·cases h
 all_goals cases h
def D0.congr{a:Xe}(b:D0 T σ sl sl0 ob)(h:∀k,A7 a k=A7 sl k):D0 T σ a sl0 ob:=by
 intro k p e c;have:X6 a p=X6 sl p:=by simp only[X6,h]
 rw[this,h];exact b k p e c
def Qn(d:Nat)(p:Jb):Bool:=p.all λg=>g.1 != d
def OV(σ:Sg)(d:Nat):Bool:=σ.all λx=>match x.2 with
|some (p,_)=>Qn d p
|none=>true
def U8{d:Nat}{v:V}(h:Qn d p=true):X6 ((d,v)::sl) p=X6 sl p:=by
 induction p with
 |nil=>rfl
 |cons g r a=>
  simp only[Qn,List.all_cons,BB]at h;simp only[X6,List.all_cons]at a⊢;have:A7 ((d,v)::sl) g.1=A7 sl g.1:=by
   have:=h.1;simp at this;have b:¬d=g.1:=λe=>this e.symm;simp[A7,b]
  rw[this,a h.2]
def wz:∀{σ:Sg}{d k:Nat}{p:Jb}{e:E},OV σ d=true->Vg σ k=some (some (p,e))->Qn d p=true
|[],_,_,_,_,_,h=>by simp[Vg]at h
|(j,x)::r,d,k,p,e,a,h=>by
 simp only[OV,List.all_cons,BB]at a;simp only[Vg]at h;split at h
 ·cases h;exact a.1
 ·exact wz (σ:=r) a.2 h
def UT{d k:Nat}{q:Jb}{e:E}(a:OV σ d=true)(h:Da σ k=some (q,e)):Qn d q=true:=by
 unfold Da at h;split at h
 ·cases h;rfl
 next x b=>subst h;exact wz a b
def Wv{k:Nat}{x:Option (Jb×E)}:Da ((k,x)::σ) k=x:=by simp[Da,Vg]
def Z9{j k:Nat}{x:Option (Jb×E)}(h:k≠j):Da ((k,x)::σ) j=Da σ j:=by simp[Da,Vg,h]
end
inductive E0 where
|Ak (p:List (E×Bool)) (e:E)
|lt (k:Nat) (p:List (E×Bool)) (e:E)
|op (d:Option Nat) (i:I)
|Eu (p:List (E×Bool)) (d:Option Nat) (i:I)
def MN(b:Bool)(v:V):V:=if b then v else .undef
def Qf(P:BA)(T:DD)(K:Xe->AF->Prop)(f:V->Xe->AF->Prop):List E0->Xe->AF->Prop
|[],a,b=>K a b
|.Ak p e::r,a,b=>(Wn T a b p=true->e.ok T a b)/\Qf P T K f r a b
|.lt k p e::r,a,b=>(Wn T a b p=true->e.ok T a b)/\Qf P T K f r ((k,MN (Wn T a b p) (e.val T a b))::a) b
|.op d i::r,a,b=>i.wp P a b (λv c=>Qf P T K f r (put a d v) c) (λv c=>f v a c)
|.Eu p d i::r,a,b=>(Wn T a b p=true->i.wp P a b (λv c=>Qf P T K f r (put a d v) c) (λv c=>f v a c))/\
 (Wn T a b p=false->Qf P T K f r (put a d .undef) b)
def Jc(T:DD)(b:Xe)(a:AF):List (Nat×E)->Xe
|[]=>[]
|(k,e)::r=>(k,e.val T b a)::Jc T b a r
def V7(T:DD)(b:Xe)(a:AF):List (Nat×E)->Prop
|[]=>True
|(_,e)::r=>e.ok T b a/\V7 T b a r
def A.BC:A->List Nat
|.t k=>[k]
|_=>[]
def Vq:List A->List Nat
|[]=>[]
|x::r=>x.BC++Vq r
def QO:Option A->List Nat
|some x=>x.BC
|none=>[]
def C.BC:C->List Nat
|.mv x|.not x|.neg x|.HF x|.DG _ x|.EP _ x|.IM x|.IE _ x|.Bf _ _ x|.IF _ _ _ _ x|.ld _ _ x|.DA x|.DI x|.CK x|.ext x _|.IH _ x|.IL _ _ x=>x.BC
|.CR _ x y|.Gn x y|.Cs _ x y|.CZ _ _ x y|.Fc _ _ x y|.HY _ _ _ x y=>x.BC++y.BC
|.pick x y z=>x.BC++(y.BC++z.BC)
|.Cu x l h|.C6 _ x l h=>x.BC++(QO l++QO h)
|.Fa _ c=>Vq (c.map (·.2))
|.ES _ a b=>Vq a++Vq b
def I.BC:I->List Nat
|.c x=>x.BC
|.box _ x=>x.BC
|.alloc _ _=>[]
|.GW _ _ a=>Vq (a.map (·.2))
|.HZ _ _ _ a=>Vq (a.map (·.2))
|.st _ x y=>x.BC++y.BC
|.Im _ _ _ x y=>x.BC++y.BC
|.FZ _ _ x y=>x.BC++y.BC
|.call _ l=>Vq l
|.Bn _ l=>Vq l
|.CQ _ l=>Vq l
|.Cp x l=>x.BC++Vq l
|.panic x=>x.BC
|.Iq x=>x.BC
|.Fg _ _ x=>x.BC
|.Lj x=>x.BC
|.JO _ _ x=>x.BC
|.JQ _ _ y x _=>y.BC++x.BC
|.JR y x _=>y.BC++x.BC
|.JL x=>x.BC
|.Fl _ x y=>x.BC++y.BC
|.II r=>QO r
|.Kj _ _ _ m k=>m.BC++k.BC
|.C4 _ m k v=>m.BC++(k.BC++v.BC)
|.Lg _ _ _ _=>[]
|.Kp _ _ x=>x.BC
|.IC _ _ _ a=>Vq (a.map (·.2))
|.HE _ _ _ x y=>x.BC++y.BC
|.gv x=>x.BC
|.Kh _ _ x=>x.BC
|.Is _ _ x d b=>x.BC++(QO d++QO b)
|.Lf _ x y=>x.BC++y.BC
|.KZ _ _ x=>x.BC
|.JN _ _ _ _ i=>i.BC
|.Km x=>x.BC
|.Lk x=>x.BC
|.Kb x=>x.BC
|.FG x=>x.BC
|.Ip _ _ x=>x.BC
|.Kf _ _ _ _ x l=>x.BC++Vq l
|.Li _ _ _ _ l=>l.BC
|.Ln _ x y=>x.BC++y.BC
section
variable {P:BA} {sl sl':Xe} {ob:AF}
def FT{x:A}(h:∀k∈x.BC,A7 sl k=A7 sl' k):x.ev sl=x.ev sl':=by
 cases x<;>simp_all[A.ev,A.BC]
def ND:∀{l:List A},(∀k∈Vq l,A7 sl k=A7 sl' k)->l.map (A.ev sl)=l.map (A.ev sl')
|[],_=>rfl
|x::r,h=>by
 simp only[Vq,DT]at h;simp only[Cw,FT (λk a=>h k (.inl a)),ND (λk a=>h k (.inr a))]
def QK{l:Option A}(h:∀k∈QO l,A7 sl k=A7 sl' k):l.map (A.ev sl)=l.map (A.ev sl'):=by
 cases l with
 |none=>rfl
 |some x=>simp only[Option.map_some,FT h]
def Sq:∀{l:List (Nat×A)},(∀k∈Vq (l.map (·.2)),A7 sl k=A7 sl' k)->(l.map λx=>(x.1,A.ev sl x.2))=l.map λx=>(x.1,A.ev sl' x.2)
|[],_=>rfl
|x::r,h=>by
 simp only[Cw,Vq,DT]at h;simp only[Cw,FT (λk a=>h k (.inl a)),Sq (λk a=>h k (.inr a))]
def C.Kr{K:V->Prop}{c:C}(h:∀k∈c.BC,A7 sl k=A7 sl' k):c.wp sl ob K=c.wp sl' ob K:=by
 cases c<;>simp only[C.BC,DT]at h<;>simp only[C.wp]
 case Fa=>rw[Sq h]
 case ES=>rw[ND (λk a=>h k (.inl a)),ND (λk a=>h k (.inr a))]
 case pick=>rw[FT (λk a=>h k (.inl a)),FT (λk a=>h k (.inr (.inl a))),FT (λk a=>h k (.inr (.inr a)))]
 case Cu=>rw[FT (λk a=>h k (.inl a)),QK (λk a=>h k (.inr (.inl a))),QK (λk a=>h k (.inr (.inr a)))]
 case C6=>rw[FT (λk a=>h k (.inl a)),QK (λk a=>h k (.inr (.inl a))),QK (λk a=>h k (.inr (.inr a)))]
 all_goals first
 |rw[FT h]
 |rw[FT (λk a=>h k (.inl a)),FT (λk a=>h k (.inr a))]
def I.Kr{K b:V->AF->Prop}{i:I}(h:∀k∈i.BC,A7 sl k=A7 sl' k):i.wp P sl ob K b=i.wp P sl' ob K b:=by
 cases i<;>simp only[I.BC,DT]at h<;>simp only[I.wp]
 case c=>rw[C.Kr h]
 case GW=>rw[Sq h]
 case HZ=>rw[Sq h]
 case IC=>rw[Sq h]
 case call=>rw[ND h]
 case Bn=>rw[ND h]
 case CQ=>rw[ND h]
 case Cp=>rw[FT (λk a=>h k (.inl a)),ND (λk a=>h k (.inr a))]
 case Kf=>rw[FT (λk a=>h k (.inl a)),ND (λk a=>h k (.inr a))]
 case C4=>rw[FT (λk a=>h k (.inl a)),FT (λk a=>h k (.inr (.inl a))),FT (λk a=>h k (.inr (.inr a)))]
 case Is=>rw[FT (λk a=>h k (.inl a)),QK (λk a=>h k (.inr (.inl a))),QK (λk a=>h k (.inr (.inr a)))]
 case II r=>
  cases r with
  |none=>rfl
  |some x=>simp only[MX,FT (x:=x) h]
 all_goals first
 |rw[FT h]
 |rw[FT (λk a=>h k (.inl a)),FT (λk a=>h k (.inr a))]
 |rfl
def yb{K a:V->AF->Prop}{ob:AF}{E d:Nat}{p:List Nat}{y x:V}(c:∀v b,K v b->a v b)(h:HW ob E d p y K x):HW ob E d p y a x:=by
 unfold HW at h;split at h
 ·simp only[HW];generalize AB _ _=o at h⊢;unfold ME at h;split at h
  ·simp only[ME];rcases h with h|h
   case inr=>exact .inr ⟨h.1,c _ _ h.2⟩
   refine .inl ⟨h.1,?_⟩;have h:=h.2;generalize V.set _ _ _=o at h⊢;cases o with
   |none=>cases h
   |some t=>exact c _ _ h
  ·cases h
 ·cases h
def yc{K a:V->AF->Prop}{y x:V}(c:∀v b,K v b->a v b):∀{l:List (Nat×Nat×List Nat)} {ob:AF},I3 y K x l ob->I3 y a x l ob
|[],_,h=>c _ _ h
|_::_,_,h=>yb (λ_ _ h=>yc c h) h
def X10{K b:V->Prop}{f a:Nat}{v:V}(c:∀v,K v->b v)(h:Ux ob f a K v):Ux ob f a b v:=by
 have:=C.wp_mono (sl:=[(0,v)]) (ob:=ob) c (.Bf f a (.t 0)) (by simpa[C.wp,A.ev,A7]using h);simpa[C.wp,A.ev,A7]using this
def Yg6{K b:V->Prop}{n:Nat}{a:Bool}{v:V}(c:∀v,K v->b v)(h:En ob n a K v):En ob n a b v:=by
 have:=C.wp_mono (sl:=[(0,v)]) (ob:=ob) c (.ld n a (.t 0)) (by simpa[C.wp,A.ev,A7]using h);simpa[C.wp,A.ev,A7]using this
def I.wp_mono{K G O H:V->AF->Prop}(a:∀v b,K v b->G v b)(T:∀v b,O v b->H v b){i:I}(h:i.wp P sl ob K O):i.wp P sl ob G H:=by
 have L:∀o b,Fs K O o b->Fs G H o b:=λo b=>by cases o with|ret v=>exact a v b|panic v=>exact T v b
 have W:∀{E v},I0 E ob K v->I0 E ob G v:=λh=>⟨h.1,a _ _ h.2⟩;have X:∀{U N:List D->Prop},(∀l,U l->N l)->∀o,dK U o->dK N o:=λf o h=>by cases o with|none=>exact h.elim|some l=>exact f l h
 have gv:∀(o:Option (D×AF)),HA K o->HA G o:=λo h=>by
  cases o with
  |none=>cases h
  |some q=>exact a _ _ h
 have Q:∀{E J B w u},GQ E J B ob w K u->GQ E J B ob w G u:=λ{E J B w u} h=>by
  unfold GQ at h;split at h
  ·simp only[GQ];generalize AB _ _=o at h⊢;unfold NQ at h;split at h
   ·obtain⟨d,g,k,j,F⟩:=h;exact⟨d,g,k,j,a _ _ F⟩
   ·cases h
  ·exact⟨h.1,a _ _ h.2⟩
  ·cases h
 have HE:∀{E J B w u},KD E J B ob w K u->KD E J B ob w G u:=λ{E J B w u} h=>by
  unfold KD at h;split at h
  ·simp only[KD];generalize AB _ _=o at h⊢;unfold Pe at h;split at h
   ·obtain⟨d,g,k,j,F⟩:=h;exact⟨d,g,k,j,a _ _ F⟩
   ·obtain⟨d,g,k,j,F⟩:=h;exact⟨d,g,k,j,a _ _ F⟩
   ·cases h
  ·exact⟨h.1,a _ _ h.2⟩
  ·cases h
 have bw:∀{id p lo n z w r o},I1 ob id p lo n z w r K o->I1 ob id p lo n z w r G o:=λ{id p lo n z w r o} h=>by
  unfold I1 at h;split at h
  ·simp only[I1];generalize V.at _ _=o at h⊢;unfold RG at h;split at h
   ·obtain⟨d,g,k,t,j,F⟩:=h;exact⟨d,g,k,t,j,a _ _ F⟩
   ·cases h
  ·cases h
 cases i<;>simp only[I.wp]at h⊢
 case c x=>exact C.wp_mono (λv=>a v ob) x h
 case box=>exact W h
 case alloc=>exact W h
 case GW=>exact Jg (λ_=>X (λ_=>a _ _) _) _ _ h
 case HZ=>exact Jg (λ_=>X (λ_ h=>a _ _ h) _) _ _ h
 case st x y=>
  generalize A.ev sl x=v at h⊢;unfold Hk at h;split at h
  ·simp only[Hk];generalize AB _ _=o at h⊢;unfold MV at h;split at h
   ·simp only[MV];generalize V.at _ _=o at h⊢;unfold MY at h;split at h
    ·obtain⟨d,g,k,t,j,F⟩:=h;exact⟨d,g,k,t,j,a _ _ F⟩
    ·cases h
   ·cases h
  ·simp only[Hk];generalize AB _ _=o at h⊢;unfold Oy at h;split at h
   ·simp only[Oy];generalize Uw _ _ _=o at h⊢;unfold RY at h;split at h
    ·refine⟨h.1,?_⟩;have h:=h.2;generalize V.at _ _=o at h⊢;unfold Oz at h;split at h
     ·obtain⟨d,g,k,t,j,F⟩:=h;exact⟨d,g,k,t,j,a _ _ F⟩
     ·cases h
    ·cases h
   ·cases h
  ·cases h
 case Im x y=>
  generalize A.ev sl y=v at h⊢;unfold KN at h;split at h
  ·exact⟨h.1,Q h.2⟩
  ·exact Q h
  ·cases h
 case IC=>exact Jg (λ_=>a _ _) _ _ h
 case HE x y=>
  generalize A.ev sl y=v at h⊢;unfold Y5 at h;split at h
  ·exact⟨h.1,HE h.2⟩
  ·exact HE h
  ·rcases h with⟨E,w,d,g,k,j⟩|⟨E,w,d,g,j⟩
   ·exact .inl ⟨E,w,d,g,k,HE j⟩
   ·exact .inr ⟨E,w,d,g,HE j⟩
  ·cases h
 case gv x=>
  generalize DC _ _ _=v at h⊢;exact gv _ h
 case Is x lo hi=>
  generalize A.ev sl x=v at h⊢;unfold Np at h;split at h
  ·simp only[Np];generalize Vf _=o at h⊢;unfold Na at h;split at h
   ·exact⟨h.1,h.2.1,dP (λ_ _=>a _ _) h.2.2⟩
   ·cases h
  ·cases h
 case Lf x y=>
  generalize A.ev sl x=v at h⊢;generalize A.ev sl y=u at h⊢;unfold Oj at h;split at h
  ·exact⟨h.1,bw h.2⟩
  ·cases h
 case KZ x=>
  generalize A.ev sl x=v at h⊢;unfold Ok at h;split at h
  ·exact⟨λe=>⟨(h.1 e).1,a _ _ (h.1 e).2⟩,λe=>⟨(h.2 e).1,bw (h.2 e).2⟩⟩
  ·cases h
 case JN x y=>
  refine⟨h.1,?_⟩;have h:=h.2;generalize A.ev sl y=u at h⊢;unfold Nf at h;split at h
  ·exact⟨h.1,h.2.1,h.2.2.1,a _ _ h.2.2.2⟩
  ·cases h
 case Kh x=>
  generalize A.ev sl x=v at h⊢;unfold Om at h;split at h
  ·simp only[Om];generalize DL _ _ _=o at h⊢;unfold SJ at h;split at h
   ·refine⟨h.1,h.2.1,?_⟩;have h:=h.2.2;generalize DC _ _ _=o at h⊢;unfold SI at h;split at h
    ·refine⟨h.1,?_⟩;have h:=h.2;generalize AB _ _=o at h⊢;unfold XU at h;split at h
     ·obtain⟨t',d,g⟩:=h;exact⟨t',d,a _ _ g⟩
     ·cases h
    ·cases h
   ·cases h
  ·cases h
 case FZ x y=>
  generalize A.ev sl y=v at h⊢;unfold MJ at h;split at h
  ·exact Q h
  ·cases h
 case Lj x=>
  generalize Du _ _=v at h⊢;exact gv _ h
 case JO x=>
  generalize A.ev sl x=v at h⊢;unfold LW at h;split at h
  ·simp only[LW];generalize DL _ _ _=o at h⊢;unfold MB at h;split at h
   ·exact⟨h.1,h.2.1,gv _ h.2.2⟩
   ·cases h
  ·cases h
 case JQ=>exact yb a h
 case JR=>exact yc a h
 case JL x=>
  generalize A.ev sl x=v at h⊢;unfold LP at h;split at h
  ·simp only[LP];generalize AB _ _=o at h⊢;unfold NV at h;split at h
   ·exact⟨h.1,h.2.1,h.2.2.1,a _ _ h.2.2.2⟩
   ·cases h
  ·cases h
 case Fl x y=>
  generalize A.ev sl x=v at h⊢;generalize A.ev sl y=u at h⊢;unfold JD at h;split at h
  ·simp only[JD];generalize AB _ _=o at h⊢;unfold NK at h;split at h
   ·obtain⟨d,g,k,j,F,Y,s,Z,h8⟩:=h;exact⟨d,g,k,j,F,Y,s,Z,a _ _ h8⟩
   ·cases h
  ·exact⟨h.1,a _ _ h.2⟩
  ·cases h
 case call=>exact h.mono L
 case Bn=>exact h.mono λv=>a v ob
 case CQ=>exact h.mono a
 case Cp x l=>
  generalize A.ev sl x=v at h⊢;unfold V2 at h;split at h
  ·exact⟨h.1,h.2.mono L⟩
  ·exact⟨h.1,h.2.mono L⟩
  ·exact⟨h.1,h.2.mono L⟩
  ·cases h
 case Km x=>
  generalize A.ev sl x=v at h⊢;generalize AB ob (RT v)=o at h⊢;unfold MS at h;split at h
  ·exact a _ _ h
  ·exact a _ _ h
  ·cases h
 case Lk x=>
  generalize A.ev sl x=v at h⊢;unfold No at h;split at h
  ·simp only[No];generalize AB ob _=o at h⊢;unfold MH at h;split at h
   ·exact a _ _ h
   ·simp only[MH];generalize AB ob _=o at h⊢;unfold Pz at h;split at h
    ·exact⟨h.1,λe=>a _ _ (h.2.1 e),λi d g=>a _ _ (h.2.2 i d g)⟩
    ·cases h
   ·cases h
  ·cases h
 case Kb x=>
  generalize A.ev sl x=v at h⊢;unfold Nd at h;split at h
  ·simp only[Nd];generalize AB ob _=o at h⊢;unfold Pu at h;split at h
   ·refine⟨h.1,?_⟩;have h:=h.2;generalize AB ob _=o at h⊢;unfold Pt at h;split at h
    ·exact⟨h.1,h.2.1,a _ _ h.2.2⟩
    ·cases h
   ·cases h
  ·cases h
 case FG x=>
  generalize A.ev sl x=v at h⊢;unfold LD at h;split at h
  ·simp only[LD];generalize AB ob _=o at h⊢;unfold Px at h;split at h
   ·exact a _ _ h
   ·cases h
  ·exact a _ _ h
  ·cases h
 case Ip e m x=>
  generalize A.ev sl x=v at h⊢;unfold IX at h;split at h
  ·simp only[IX];generalize AB ob _=o at h⊢;unfold RR at h;split at h
   ·exact a _ _ h
   ·cases h
  ·exact a _ _ h
  ·exact a _ _ h
  ·exact⟨a _ _ h.1,λe=>a _ _ (h.2 e)⟩
  ·simp only[IX];generalize AB ob _=o at h⊢;unfold lQ at h;split at h
   ·exact⟨h.1,h.2.1,a _ _ h.2.2⟩
   ·exact⟨h.1,h.2.1,a _ _ h.2.2⟩
   ·cases h
  ·cases h
 case Kf nm t f fl x l=>
  generalize A.ev sl x=v at h⊢;unfold Oo at h;split at h
  ·refine⟨h.1,h.2.1,?_⟩;have h:=h.2.2;unfold NZ at h⊢;split at h
   ·exact h.mono L
   ·exact X10 (λu h=>Yg6 (λr h=>h.mono L) h) h
  ·cases h
 case Li l=>
  generalize A.ev sl l=v at h⊢;unfold Ou at h;split at h
  ·exact⟨h.1,h.2.1,a _ _ h.2.2⟩
  ·cases h
 case Ln x y=>
  generalize A.ev sl x=v at h⊢;generalize A.ev sl y=u at h⊢;unfold O0 at h;split at h
  ·simp only[O0];generalize AB ob _=o at h⊢;unfold XH at h;split at h
   ·exact⟨h.1,h.2.1,h.2.2.1,h.2.2.2.1,a _ _ h.2.2.2.2⟩
   ·cases h
  ·cases h
 case panic x=>
  generalize A.ev sl x=v at h⊢;unfold L2 at h;split at h
  ·exact T _ _ h
  ·exact T _ _ h
  ·cases h
 case Iq x=>
  generalize A.ev sl x=v at h⊢;unfold MU at h;split at h
  ·exact a _ _ h
  ·cases h
 case Fg x=>
  generalize A.ev sl x=v at h⊢;unfold MG at h;split at h
  ·exact a _ _ h
  ·cases h
 case II r=>exact⟨h.1,a _ _ h.2⟩
 case Lg=>exact⟨h.1,h.2.1,h.2.2.1,a _ _ h.2.2.2⟩
 case Kp x=>
  generalize A.ev sl x=v at h⊢;unfold Ld at h;split at h
  ·simp only[Ld];generalize DL _ _ _=o at h⊢;unfold Nb at h;split at h
   ·exact⟨h.1,h.2.1,a _ _ h.2.2⟩
   ·cases h
  ·cases h
 case Kj x y=>
  generalize A.ev sl x=v at h⊢;generalize A.ev sl y=u at h⊢;unfold LX at h;split at h
  ·simp only[LX];generalize AB _ _=o at h⊢;unfold NW at h;split at h
   ·exact⟨h.1,a _ _ h.2⟩
   ·cases h
  ·exact⟨h.1,a _ _ h.2⟩
  ·cases h
 case C4 x y z=>
  generalize A.ev sl x=v at h⊢;generalize A.ev sl y=u at h⊢;unfold LG at h;split at h
  ·simp only[LG];generalize AB _ _=o at h⊢;unfold NH at h;split at h
   ·exact⟨h.1,h.2.1,a _ _ h.2.2⟩
   ·cases h
  ·cases h
end
end Go.Ab
