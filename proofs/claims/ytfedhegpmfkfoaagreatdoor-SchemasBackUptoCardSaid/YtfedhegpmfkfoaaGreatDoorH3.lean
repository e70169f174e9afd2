/- Joined texts, part 3 of 19. Regions folded into expressions: the fold itself, and that it Xno what is shown. Over any program; no condition. -/
import Derived.Test.YtfedhegpmfkfoaaGreatDoorH2
set_option linter.unusedSimpArgs false
set_option linter.unusedVariables false
set_option linter.unusedSectionVars false
set_option linter.defProp false
namespace Go.Ab
open Go
section
variable {P:Program} {ops:Array Oper} {Q:Exit->Act->World->Prop} {md:Region.Mode} {R:Nat->World->World->Prop}
def Vi(P:Program)(md:Region.Mode)(ops:Array Oper)(Q:Exit->Act->World->Prop)(R:Nat->World->World->Prop):Nat->Array Bool->Act->World->Prop
|0,b,a,w=>Region.ready md ops b=[]/\Q .normal a w
|c+1,b,a,w=>
 (Region.ready md ops b=[]->Q .normal a w)/\
 ∀i∈Region.ready md ops b,HC P ops Q i (λe d=>R i w d/\Vi P md ops Q R c (b.setIfInBounds i true) e d) a w
def dc:∀(b:Nat)(c:Array Bool)(a:Act)(w:World),Vi P md ops Q R b c a w->SL P md ops Q b c a w
|0,_,_,_,h=>h
|b+1,_,_,_,h=>⟨h.1,λi f=>Uk (λd g e=>dc b _ d g e.2) (h.2 i f)⟩
def dO:∀(n m:Nat)(b:Array Bool)(a:Act)(w:World),n<=m->SL P md ops Q n b a w->SL P md ops Q m b a w
|0,0,_,_,_,_,h=>h
|0,m+1,_,_,_,_,h=>⟨λ_=>h.2,λi c=>by rw[h.1]at c;cases c⟩
|n+1,0,_,_,_,d,_=>by omega
|n+1,m+1,_,_,_,d,h=>⟨h.1,λi c=>Uk (λe g f=>dO n m _ e g (by omega) f) (h.2 i c)⟩
def Ma(md:Region.Mode)(ops:Array Oper)(a:Array Bool):Prop:=
 ∀k o,ops[k]? = some o->a.getD k false=true->∀e∈o.after,Region.binds md e=true->a.getD e.on false=true
def Ma.step{a:Array Bool}(h:Ma md ops a){j:Nat}(m:j∈Region.ready md ops a):Ma md ops (a.setIfInBounds j true):=by
 obtain⟨_,n,f,b⟩:=mem_ready.1 m;intro k o d l e i g;by_cases c:j=k
 ·subst c;rw[f]at d;simp at d;subst d;exact getD_set_true (b e i g)
 ·rw[getD_set_ne false c]at l;exact getD_set_true (h k o d l e i g)
def U0(md:Region.Mode)(ops:Array Oper)(i:Nat):Nat->Nat->Bool
|0,_=>false
|a+1,j=>match ops[j]? with
 |some o=>o.after.any λe=>Region.binds md e&&(e.on==i||U0 md ops i a e.on)
 |none=>false
def uu{a:Array Bool}(f:Ma md ops a){i:Nat}:∀(b k:Nat),U0 md ops i b k=true->a.getD k false=true->a.getD i false=true
|0,k,h,_=>by simp[U0]at h
|b+1,k,h,j=>by
 simp only[U0]at h;split at h
 ·rename_i o l;rw[Array.any_eq_true']at h;obtain⟨e,g,h⟩:=h;simp only[As,MW,CT]at h;have d:=f k o l j e g h.1;rcases h.2 with c|c
  ·rw[<-c];exact d
  ·exact uu f b e.on c d
 ·simp at h
def Xa7{a:Array Bool}(m:Ma md ops a){i j b:Nat}(l:a.getD i true=false)(h:U0 md ops i b j=true):j∉Region.ready md ops a:=by
 intro p;obtain⟨_,o,q,d⟩:=mem_ready.1 p;cases b with
 |zero=>simp[U0]at h
 |succ b=>
  simp only[U0,q]at h;rw[Array.any_eq_true']at h;obtain⟨e,n,h⟩:=h;simp only[As,MW,CT]at h;have k:=d e n h.1;have c:a.getD i false=true:=by
   rcases h.2 with g|g
   ·rw[<-g];exact k
   ·exact uu m b e.on g k
  rcases FP i a.size with f|f
  ·simp[f]at l c;rw[l]at c;cases c
  ·simp[Tq f]at c
def Xyq{S b:World->Prop}{o:Oper}{v:Value}{a:Act}(h:YieldsIf P ops S o v a)(e:∀w,b w->S w):YieldsIf P ops b o v a:=
 h.imp (λ⟨c,d⟩=>⟨c,λw f=>d w (e w f)⟩) id
def Vx{S:World->World->Prop}(p:∀w,S w w)(t:∀u v w,S u v->S v w->S u w){l:Bool}{i:Nat}{G:Oper}{v:Value}(hi:ops[i]? = some G)(y:∀(j:Nat)(o:Oper) L b,ops[j]? = some o->o.op≠.select L b)
 (hQ:∀c a w,Q (.panic c) (a.put G.dst v) w->Q (.panic c) a w) (hl:l=true->∀j,j<ops.size->j≠i->(∃f,U0 md ops i f j=true)\/∀u v,R j u v->S u v) (q:∀w,R i w w):
 ∀(f:Nat)(d:Array Bool)(a:Act)(w:World),Ma md ops d->
  (∀j J,ops[j]? = some J->j≠i->d.getD j true=false->(∀e∈J.after,Region.binds md e=true->e.on≠i)->G.apart ops J=true)->
  i∈Region.ready md ops d->YieldsIf P ops (λZ=>l=true->S w Z) G v a->
  Vi P md ops Q R f (d.setIfInBounds i true) (a.put G.dst v) w->Vi P md ops Q R (f+1) d a w:=by
 intro f;induction f with
 |zero=>
  intro d a w _ _ F Y H;refine⟨λh=>(by rw[h]at F;cases F),λj K=>?_⟩;by_cases g:j=i
  ·subst g;exact xV hi Y (λ_=>p w) ⟨q w,H⟩
  ·have:=ready_mono K g;rw[H.1]at this;cases this
 |succ f ih=>
  intro d a w N m F Y H;refine⟨λh=>(by rw[h]at F;cases F),λj K=>?_⟩;by_cases g:j=i
  ·subst g;exact xV hi Y (λ_=>p w) ⟨q w,H⟩
  ·have z:=H.2 j (ready_mono K g);obtain⟨x,J,s,M⟩:=mem_ready.1 K;have n:=(mem_ready.1 F).1;have T:∀e∈J.after,Region.binds md e=true->e.on≠i:=λe he hb aa=>by
    have z:=M e he hb;rw[aa]at z;rcases FP i d.size with h'|h'
    ·simp[h']at n z;rw[n]at z;cases z
    ·simp[Tq h']at z
   have h2:=Xsm s (m j J s g x T) (λL b=>y i G L b hi) (λL b=>y j J L b s) hQ Y z;have r:∀k W,ops[k]? = some W->k≠i->(d.setIfInBounds j true).getD k true=false->
    (∀e∈W.after,Region.binds md e=true->e.on≠i)->G.apart ops W=true:=λk W hk ab U ac=>by
    refine m k W hk ab ?_ ac;by_cases O:j=k
    ·subst O;exact x
    ·rw[getD_set_ne true O]at U;exact U
   refine Uk (λa' Z X=>⟨X.2.1,ih (d.setIfInBounds j true) a' Z (N.step K) r (ready_mono F (Ne.symm g)) (Xyq X.1 λad h4 h5=>?_) ?_⟩) h2
   ·have hR:S w Z:=by
     rcases hl h5 j (Array.getElem?_eq_some_iff.1 s).1 g with⟨fl,hw⟩|hs
     ·exact absurd K (Xa7 N n hw)
     ·exact hs _ _ X.2.1
    exact t _ _ _ hR (h4 h5)
   ·rw[Array.setIfInBounds_comm _ _ g];exact X.2.2
end
def put(a:Xb)(d:Option Nat)(v:V):Xb:=match d with
|some k=>(k,v)::a
|none=>a
inductive It where
|op (d:Option Nat) (i:I)
|C6 (s:Nat) (want:Bool) (d:Option Nat) (i:I)
def HK(s:Nat)(a:Bool)(c:Xb)(Y N:Xb->Prop):V->Prop
|.d (.bool b)=>(b=a->Y ((s,.d (.bool a))::c))/\(b=!a->N ((s,.d (.bool (!a)))::c))
|.undef=>N c
|_=>False
def DE(P:Az)(K:Xb->AB->Prop)(e:V->Xb->AB->Prop):List It->Xb->AB->Prop
|[],b,c=>K b c
|.op d i::r,b,c=>i.wp P b c (λv a=>DE P K e r (put b d v) a) (λv a=>e v b a)
|.C6 s f d i::r,b,c=>HK s f b (λb=>i.wp P b c (λv a=>DE P K e r (put b d v) a) (λv a=>e v b a)) (λb=>DE P K e r (put b d .undef) c) (Ay b s)
mutual
inductive Ot where
|done
|BU (i:Nat) (x:It) (r:Ot)
|br (l:Ev)
inductive Ev where
|nil
|cons (i:Nat) (x:It) (r:Ot) (l:Ev)
end
def Fo(P:Az)(next:Xb->AB->Prop)(f:V->Xb->AB->Prop):It->Xb->AB->Prop
|.op d i,b,e=>i.wp P b e (λv a=>next (put b d v) a) (λv a=>f v b a)
|.C6 s c d i,b,e=>HK s c b (λb=>i.wp P b e (λv a=>next (put b d v) a) (λv a=>f v b a)) (λb=>next (put b d .undef) e) (Ay b s)
mutual
def Dh(P:Az)(K:Xb->AB->Prop)(c:V->Xb->AB->Prop):Ot->Xb->AB->Prop
|.done,b,a=>K b a
|.BU _ x r,b,a=>Fo P (Dh P K c r) c x b a
|.br l,b,a=>FH P K c l b a
def FH(P:Az)(K:Xb->AB->Prop)(a:V->Xb->AB->Prop):Ev->Xb->AB->Prop
|.nil,_,_=>True
|.cons _ x r l,c,b=>Fo P (Dh P K a r) a x c b/\FH P K a l c b
end
inductive S where
|rg (ord:List Nat) (l:List It) (keep pk:List Nat)
|E3 (n:Nat) (t:Ot) (keep pk:List Nat)
|seq (a b:S)
|skip
|cond (c:A) (a b:S)
|block (n:Nat) (a:S)
|loop (keep:List Nat) (a:S)
|exit (n:Nat)
|ret
 |E4 (tag:Nat) (ps:List Nat) (g:A) (x y:S) (keep:List Nat)
def S.DC:S->Bool
|.seq a b=>a.DC&&b.DC
|.cond _ a b=>a.DC&&b.DC
|.block _ a=>a.DC
|.loop _ a=>a.DC
|.E4 _ _ _ _ _ _=>false
|_=>true
inductive Cv where
|normal
|exit (n:Nat)
|ret
|panic (v:V)
abbrev Yt:=Cv->Xb->AB->Prop
def Wt(next:Xb->AB->Prop)(Q:Yt):Yt
|.normal,b,a=>next b a
|.exit n,b,a=>Q (.exit n) b a
|.ret,b,a=>Q .ret b a
|.panic v,b,a=>Q (.panic v) b a
def Yw(id:Nat)(Q:Yt):Yt
|.normal,b,a=>Q .normal b a
|.exit n,b,a=>if n=id then Q .normal b a else Q (.exit n) b a
|.ret,b,a=>Q .ret b a
|.panic v,b,a=>Q (.panic v) b a
def Hf(Y N:Prop):V->Prop
|.d (.bool t)=>(t=true->Y)/\(t=false->N)
|_=>False
def Xj(a:Xb):List Nat->Xb
|[]=>[]
|k::r=>(k,Ay a k)::Xj a r
mutual
def V.BJ(GZ:Nat->Bool):V->Bool
|.ptr id _=>GZ id
|.sl id _=>GZ id
|.sd id _=>GZ id
|.mp id=>GZ id
|.hd _ id=>GZ id
|.ep id _ _ _ _ _=>GZ id
|.bs id _ _ _=>GZ id
|.fn _ a b=>BO GZ a||BO GZ b
|.agg c=>BO GZ c
|.iface _ v=>V.BJ GZ v
|.BE c=>BO GZ c
|_=>false
def BO(a:Nat->Bool):List V->Bool
|[]=>false
|x::r=>V.BJ a x||BO a r
end
def Xh(a:Nat->Bool):AB->AB
|[]=>[]
|(j,x)::r=>if a j then Xh a r else (j,x)::Xh a r
def Za(a:Nat->Bool):Xb->Bool
|[]=>true
|(_,v)::r=>!V.BJ a v&&Za a r
def Ym(a:Nat->Bool):List (D×V)->Bool
|[]=>false
|(_,v)::r=>V.BJ a v||Ym a r
def dI(a:Nat->Bool):Option Nat->Bool
|some j=>a j
|none=>false
def AH(a:Nat->Bool):AB->Bool
|[]=>true
|(_,.box _ t)::r=>!V.BJ a t&&AH a r
|(_,.Ao _ _ d)::r=>!BO a d&&AH a r
|(_,.map b)::r=>!Ym a b&&AH a r
|(_,.lp _ _ c)::r=>Za a c&&AH a r
|(_,.it m _ _)::r=>!dI a m&&AH a r
|_::r=>AH a r
def AE(n:Nat)(a:List Nat)(id:Nat):Bool:=decide (n<=id)&&!a.contains id
def Wk(d b:AB):Prop:=∀w c,OM w c d->∃a,Tr w c w a/\OM w a b
def Wk.refl(a:AB):Wk a a:=λw b h=>⟨b,Tr.refl w b,h⟩
def Wk.trans{a b c:AB}(h:Wk a b)(f:Wk b c):Wk a c:=λw l o=>by
 obtain⟨d,j,g⟩:=h w l o;obtain⟨e,k,i⟩:=f w d g;exact⟨e,j.trans k,i⟩
def sub(a:List Nat)(n:Nat)(K:Xb->AB->Prop)(d:Xb)(e:AB):Prop:=
 ∃(c:List Nat) (b:AB),Wk e b/\Za (AE n c) (Xj d a)=true/\AH (AE n c) (Xh (AE n c) b)=true/\K (Xj d a) (Xh (AE n c) b)
structure Ae(keep:List Nat)(body:Yt->Xb->AB->Prop)(Q:Yt)(sl:Xb)(ob:AB):Prop where
 run:∃(ι:Type) (S:ι->Xb) (O:ι->AB) (I:ι->Prop) (μ:ι->Nat) (i0:ι),I i0/\Xj sl keep=S i0/\Wk ob (O i0)/\
  ∀i,I i->body (Wt (sub keep (fresh (O i)) λsl' ob'=>∃j,I j/\μ j<μ i/\sl'=S j/\ob'=O j) Q) (S i) (O i)
def IA(N:Nat):Option Nat->Option Nat->Bool
|some k,some j=>k==j&&decide (k<N)
|none,none=>true
|_,_=>false
def It.Aa(P:Program)(N:Nat)(c:Array Oper)(o:Oper):It->Bool
|.op d i=>IA N o.dst d&&o.guard.isNone&&i.Aa P o.op
|.C6 s a d i=>IA N o.dst d&&(match o.guard with
 |some (j,b)=>b==a&&(match c[j]? with|some e=>e.dst==some s|none=>false)
 |none=>false)&&i.Aa P o.op
def Wy(P:Program)(N:Nat)(a:Array Oper):List Oper->List It->Bool
|[],[]=>true
|o::r,i::s=>i.Aa P N a o&&Wy P N a r s
|_,_=>false
def It.kind:It->Nat
|.op _ i=>i.kind
|.C6 _ _ _ i=>i.kind
def Ye0:List Nat->List It->Nat->Nat
|i::r,x::s,j=>if i=j then x.kind else Ye0 r s j
|_,_,_=>3
def SS(a:Array Oper)(i j:Nat):Bool:=U0 .any a i 1 j||U0 .any a i 2 j||U0 .any a i 3 j||U0 .any a i 4 j||U0 .any a i 5 j||U0 .any a i a.size j
def xw{b:Array Oper}{i j:Nat}(h:SS b i j=true):∃a,U0 .any b i a j=true:=by
 simp only[SS,MW]at h;rcases h with ((((h|h)|h)|h)|h)|h<;>exact⟨_,h⟩
def Nr(P:Program)(N:Nat)(b:Array Oper)(c:Nat->Nat)(a:Array Bool):List Nat->List It->Bool
|[],[]=>(Region.ready .any b a).isEmpty
|i::r,x::s=>(Region.ready .any b a).contains i&&(match b[i]? with|some o=>x.Aa P N b o|none=>false)&&x.kind==c i&&
 (match x.kind with
 |0=>Region.free .any b a i
 |5=>Region.free .any b a i
 |1=>Region.free .any b a i&&(List.range b.size).all (λj=>c j != 3||j==i||SS b i j)
 |_=>(Region.ready .any b a)==[i])&&
 Nr P N b c (a.setIfInBounds i true) r s
|_,_=>false
mutual
def Ot.kinds:Ot->List (Nat×Nat)
|.done=>[]
|.BU i x r=>(i,x.kind)::r.kinds
|.br l=>l.kinds
def Ev.kinds:Ev->List (Nat×Nat)
|.nil=>[]
|.cons i x r l=>(i,x.kind)::(r.kinds++l.kinds)
end
def aZ:List (Nat×Nat)->Nat->Nat
|[],_=>3
|(i,k)::r,j=>if i=j then k else aZ r j
def Ev.has(j:Nat):Ev->Bool
|.nil=>false
|.cons i _ _ l=>i==j||l.has j
mutual
def Wx(P:Program)(N:Nat)(b:Array Oper)(c:Nat->Nat):Nat->Array Bool->Ot->Bool
|0,a,.done=>(Region.ready .any b a).isEmpty
|n+1,a,.BU i x r=>(Region.ready .any b a).contains i&&(match b[i]? with|some o=>x.Aa P N b o|none=>false)&&x.kind==c i&&
 (match x.kind with
 |0=>Region.free .any b a i
 |5=>Region.free .any b a i
 |1=>Region.free .any b a i&&(List.range b.size).all (λj=>c j != 3||j==i||SS b i j)
 |_=>(Region.ready .any b a)==[i])&&
 Wx P N b c n (a.setIfInBounds i true) r
|n+1,a,.br l=>!(Region.ready .any b a).isEmpty&&(Region.ready .any b a).all (λj=>l.has j)&&Jx P N b c n a l
|_,_,_=>false
def Jx(P:Program)(N:Nat)(b:Array Oper)(c:Nat->Nat):Nat->Array Bool->Ev->Bool
|_,_,.nil=>true
|n,a,.cons i x r l=>(Region.ready .any b a).contains i&&(match b[i]? with|some o=>x.Aa P N b o|none=>false)&&x.kind==c i&&Wx P N b c n (a.setIfInBounds i true) r&&Jx P N b c n a l
end
def Rl(b:List Nat)(a:Array Oper):Bool:=a.toList.all λo=>match o.dst with
|some d=>!b.contains d
|none=>true
def VT(a:Array Oper):Bool:=a.toList.all λo=>match o.op with
|.defer _=>false
|_=>true
def S.Aa(P:Program)(N:Nat):Code->S->Bool
|.skip,.skip=>true
|.region _ e h,.rg i l _ j=>VT e&&if h then decide (i.length<=e.size)&&Region.noSelect e&&Rl j e&&Nr P N e (Ye0 i l) (Array.replicate e.size false) i l else Wy P N e e.toList l
|.region _ e h,.E3 n t _ j=>VT e&&h&&decide (n<=e.size)&&Region.noSelect e&&Rl j e&&Wx P N e (aZ t.kinds) n (Array.replicate e.size false) t
|.seq a b,.seq x y=>S.Aa P N a x&&S.Aa P N b y
|.cond c a b,.cond d x y=>A.Aa c d&&S.Aa P N a x&&S.Aa P N b y
|.block n a,.block m x=>n==m&&S.Aa P N a x
|.loop a,.loop _ x=>S.Aa P N a x
|.exit n,.exit m=>n==m
|.ret,.ret=>true
|.rangeFunc f p a c,.E4 _ o g x y _=>A.Aa f g&&((p.toList==o)&&o.all (λk=>decide (k<N))&&S.Aa P N a x&&S.Aa P N c y&&x.DC&&y.DC)
|_,_=>false
def V7(P:Az)(a:Nat)(d:List Nat)(x y:S):Prop:=∀(e:Array Nat)(N:Nat)(b c:Code),P.g.l a e N b c↔((e.toList==d)&&d.all (λk=>decide (k<N))&&S.Aa P.p N b x&&S.Aa P.p N c y&&x.DC&&y.DC)=true
def QE(Q:Yt)(a:Xb)(id:Nat)(b:AB):Option Ob->Prop
|some (.lp _ .ready _)=>Q .normal a (AG b id .AY)
|some (.lp _ .ret _)=>Q .ret a (AG b id .AY)
|some (.lp _ (.exit n) _)=>Q (.exit n) a (AG b id .AY)
|_=>False
def I8(Q:Yt)(a:Xb)(id:Nat):A7->AB->Prop
|.ret _,b=>QE Q a id b (AA b id)
|.panic _,_=>False
def MI(P:Az)(c:Nat)(a:Xb)(b:AB)(Q:Yt):V->Prop
|.fn f g e=>Xd P.p f=true/\AV P f (g++[.hd true (fresh b)]++e) ((fresh b,.lp c .ready a)::b) (I8 Q a (fresh b))
|.d (.fn f g e)=>Xd P.p f=true/\AV P f (g.map .d++[.hd true (fresh b)]++e.map .d) ((fresh b,.lp c .ready a)::b) (I8 Q a (fresh b))
|_=>False
def Co(P:Az):S->Yt->Xb->AB->Prop
|.rg _ l f i,Q,d,e=>DE P (λd e=>Q .normal (Xj d f) e) (λv d e=>Q (.panic v) (Xj d i) e) l d e
|.E3 _ t f i,Q,d,e=>Dh P (λd e=>Q .normal (Xj d f) e) (λv d e=>Q (.panic v) (Xj d i) e) t d e
|.seq a b,Q,d,e=>Co P a (Wt (Co P b Q) Q) d e
|.skip,Q,d,e=>Q .normal d e
|.cond c a b,Q,d,e=>Hf (Co P a Q d e) (Co P b Q d e) (c.ev d)
|.block n a,Q,d,e=>Co P a (Yw n Q) d e
|.loop f a,Q,d,e=>Ae f (Co P a) Q d e
|.exit n,Q,d,e=>Q (.exit n) d e
|.ret,Q,d,e=>Q .ret d e
|.E4 h j g x y f,Q,d,e=>V7 P h j x y/\MI P h (Xj d f) e Q (g.ev d)
structure Di where
 w0:World
 ex:Nat->Prop
 N:Nat
 df:List Deferred
 g:Gl
 m0:Nat->Option RO
 ev:List (V×Value)
 OY:Bool:=false
def A0.CB(b:A0)(a:Nat->Bool):A0:=⟨λj=>if a j then none else b.m j,b.xo,b.gl⟩
def G0(r:Nat):Deferred:={target:=.collected r,args:=#[] }
def EZ(c:Di)(w:World)(d:A0)(b:List Deferred):Prop:=
 ∃a:List Nat,b=a.map G0++c.df/\(c.OY=false->a=[])/\a.Nodup/\∀r∈a,c.w0.heap.size<=r/\w.heap[r]? = some (.deferred (some []))/\¬Eg d r
def EZ.tr{c:Di}{w g:World}{ρ a:A0}{d:List Deferred}(h:EZ c w ρ d)(t:Tr w ρ g a):EZ c g a d:=by
 obtain⟨o,j,k,l,m⟩:=h;refine⟨o,j,k,l,λr n=>?_⟩;obtain⟨i,e,f⟩:=m r n;have b:r<w.heap.size:=Xi e;exact⟨i,(t.keep r f b).trans e,λh=>(t.Cs r h).elim f (λh=>by omega)⟩
def EZ.put{c:Di}{w:World}{d:A0}{a b:Act}(h:EZ c w d a.defers)(e:b.defers=a.defers):EZ c w d b.defers:=by rw[e];exact h
def EZ.CB{c:Di}{w:World}{d:A0}{g:List Deferred}{a:Nat->Bool}(h:EZ c w d g)(l:∀b,Eg (d.CB a) b->Eg d b):EZ c w (d.CB a) g:=by
 obtain⟨m,i,j,k,e⟩:=h;exact⟨m,i,j,k,λr f=>⟨(e r f).1,(e r f).2.1,λh=>(e r f).2.2 (l r h)⟩⟩
def EZ.nil{c:Di}{w:World}{a:A0}:EZ c w a c.df:=⟨[],rfl,λ_=>rfl,List.nodup_nil,λ_ h=>by cases h⟩
def EZ.eq{c:Di}{w:World}{f:A0}{a:List Deferred}(h:EZ c w f a)(e:c.OY=false):a=c.df:=by
 obtain⟨g,b,d,_⟩:=h;rw[b,d e];rfl
structure JA(c:Di)(w:World)(ρ:A0):Prop where
 size:c.w0.heap.size<=w.heap.size
 keep:∀b,b<c.w0.heap.size->¬c.ex b->w.heap[b]? = c.w0.heap[b]?
 Cs:∀b,Eg ρ b->c.w0.heap.size<=b\/c.ex b
 tape:w.tape=c.w0.tape
 os:w.os=c.w0.os
 CO:w.output=c.w0.output
 same:∀id o,c.m0 id=some o->∃o',ρ.m id=some o'/\o.le o'
 ext:∀p∈c.ev,p.1.An w ρ p.2
 drawn:c.w0.drawn<=w.drawn
def JA.tr{c:Di}{w i:World}{ρ e:A0}(h:JA c w ρ)(t:Tr w ρ i e):JA c i e:=by
 refine⟨FA h.size t.size,λb d f=>?_,λb d=>?_,t.tape.trans h.tape,t.os.trans h.os,t.CO.trans h.CO,λid o d=>?_,λp l=>Gg t (h.ext p l),FA h.drawn t.drawn⟩
 ·refine(t.keep b (λa=>?_) (Oz d h.size)).trans (h.keep b d f)
  exact(h.Cs b a).elim (λh=>by omega) f
 ·rcases t.Cs b d with a|a
  ·exact h.Cs b a
  ·exact .inl (FA h.size a)
 ·obtain⟨m,f,a⟩:=h.same id o d
  obtain⟨g,j,k⟩:=t.same id m f;exact⟨g,j,a.trans k⟩
structure C3(c:Di)(xo:Nat->Prop)(ρ:A0)(sl:Xb)(ob:AB)(a:Act)(w:World):Prop where
 base:JA c w ρ
 om:OM w ρ ob
 sm:SM w ρ sl a
 size:a.tmps.size=c.N
 df:EZ c w ρ a.defers
 xo:ρ.xo=xo
 gl:ρ.gl=c.g
def DY(w:World)(b:A0):Exit->Cv->Prop
|.normal,.normal=>True
|.exit n,.exit m=>n=m
|.ret,.ret=>True
|.panic a,.panic v=>∃u,a=[{v:=u,recovered:=false}]/\v.An w b u
|_,_=>False
def AZ(c:Di)(h:Nat->Prop)(Q:Yt):Exit->Act->World->Prop:=
 λe a w=>∃b f d g,Q b f d/\DY w g e b/\C3 c h g f d a w
def Xp{w:World}{c:A0}{h:Xb}{a:Act}{d:Option Nat}{x:V}{v:Value}{N:Nat}{o:Option Nat}(b:IA N o d=true)(f:a.tmps.size=N)(g:SM w c h a)(l:x.An w c v):
 SM w c (put h d x) (a.put o v)/\(a.put o v).tmps.size=N/\(a.put o v).defers=a.defers:=by
 cases o with
 |none=>
  cases d with
  |none=>exact⟨g,f,rfl⟩
  |some j=>simp[IA]at b
 |some k=>
  cases d with
  |none=>simp[IA]at b
  |some j=>
   simp only[IA,As,CT,Bs]at b;obtain⟨rfl,m⟩:=b;refine⟨λi=>?_,by simpa[Act.put]using f,rfl⟩;simp only[put,Ay,Act.put];split
   ·rename_i e;subst e
    have:k<a.tmps.size:=by omega
    simpa[this]using l
   ·rename_i e
    have:=g i;simpa[Tu,e]using this
def Xo4{c:Array Oper}{a:Act}{j s:Nat}{f:Oper}{b:Bool}(g:c[j]? = some f)(i:f.dst=some s)(d:a.tmps.getD s undef=.bool b):yielded c a.tmps j=some b:=by
 have e:s<a.tmps.size:=by
  rcases FP s a.tmps.size with h|h
  ·exact h
  ·simp[Array.getD,Nat.not_lt.2 h,undef]at d
 simp only[Array.getD,e,dif_pos]at d;have:a.tmps[s]? = some (.bool b):=by rw[QX e];exact CK some d
 simp[yielded,g,i,this]
def Xlq{b:Array Oper}{a:Act}{j s:Nat}{g:Oper}(d:b[j]? = some g)(e:g.dst=some s)(f:a.tmps.getD s undef=undef):yielded b a.tmps j=none:=by
 rcases FP s a.tmps.size with c|c
 ·simp only[Array.getD,c,dif_pos]at f
  have:a.tmps[s]? = some (.tuple #[]):=by rw[QX c];exact CK some f
  simp[yielded,d,e,this]
 ·have:a.tmps[s]? = none:=Tq c
  simp[yielded,d,e,this]
def Z7{w:World}{q:A0}{p:Xb}{a:Act}{ops:Array Oper}{o:Oper}{s:Nat}{i:Bool}{Y N:Xb->Prop}(v:SM w q p a)
 (g:(match o.guard with|some (j,b)=>b==i&&(match ops[j]? with|some x=>x.dst==some s|none=>false)|none=>false)=true)
 (h:HK s i p Y N (Ay p s)):
 (Region.wanted o (yielded ops a.tmps)=true/\∃f,SM w q f a/\Y f)\/(Region.wanted o (yielded ops a.tmps)=false/\∃f,SM w q f a/\N f):=by
 split at g
 ·rename_i j b u
  simp only[As,CT]at g;obtain⟨rfl,g⟩:=g;split at g
  ·rename_i x z
   have y:x.dst=some s:=by simpa using g
   have l:=v s;have m:∀c:Bool,a.tmps.getD s undef=.bool c->SM w q ((s,.d (.bool c))::p) a:=λc F k=>by
    simp only[Ay];split
    next e=>subst e;rw[F];exact BI.2 rfl
    ·exact v k
   unfold HK at h;split at h
   ·rename_i c e
    rw[e,BI]at l;have n:=Xo4 (a:=a) z y l;by_cases r:c=b
    ·subst r
     exact .inl ⟨by simp[Region.wanted,u,n],_,m c l,h.1 rfl⟩
    ·have t:c=!b:=by cases c<;>cases b<;>simp_all
     subst t;exact .inr ⟨by simp[Region.wanted,u,n],_,m _ l,h.2 rfl⟩
   ·rename_i e
    rw[e,Z2]at l;have n:=Xlq (a:=a) z y l;exact .inr ⟨by simp[Region.wanted,u,n],_,v,h⟩
   ·cases h
  ·simp at g
 ·simp at g
def dY{P:Az}{c:Di}(U:P.g=c.g){xo:Nat->Prop}{ops:Array Oper}{Q:Exit->Act->World->Prop}{K:Xb->AB->Prop}{J:V->Xb->AB->Prop}
 (R:∀b f j a w,K b f->C3 c xo j b f a w->Q .normal a w)
 (T:∀v b f j a w u,J v b f->C3 c xo j b f a w->v.An w j u->Q (.panic [{v:=u,recovered:=false}]) a w):
 ∀(l:List Oper)(G:List It)(b:Xb)(f:AB)(j:A0)(a:Act)(w:World),Wy P.p c.N ops l G=true->DE P K J G b f->C3 c xo j b f a w->U1 P.p ops Q l a w
|[],[],b,f,j,a,w,_,h,m=>by simp only[U1];exact R b f j a w h m
|o::r,i::s,b,f,j,a,w,z,h,m=>by
 simp only[Wy,As]at z;obtain⟨k,h2⟩:=z;have step:∀(d:Option Nat)(x:I)(b:Xb),SM w j b a->IA c.N o.dst d=true->x.Aa P.p o.op=true->x.wp P b f (λv e=>DE P K J s (put b d v) e) (λv e=>J v b e)->Dw P.p o a w (U1 P.p ops Q r) Q:=by
  intro d x b n hd hx F;refine I.Av (m.gl.trans U.symm) n m.om hx F o rfl _ _ (λv y e Z q W Y X t=>?_) (λu y e Z q W Y X t=>?_)
  ·obtain⟨L,M,O⟩:=Xp hd m.size (n.tr t) Y
   exact dY U R T r s _ e q _ Z h2 W ⟨m.base.tr t,X,L,M,(m.df.tr t).put O,t.xo.trans m.xo,t.gl.trans m.gl⟩
  ·exact T y b e q a Z u W ⟨m.base.tr t,X,n.tr t,m.size,m.df.tr t,t.xo.trans m.xo,t.gl.trans m.gl⟩ Y
 cases i with
 |op d x=>
  simp only[It.Aa,As,LJ]at k;simp only[DE]at h;simp only[U1,Region.wanted,k.1.2,Cz];exact step d x b m.sm k.1.1 k.2 h
 |C6 g aa d x=>
  simp only[It.Aa,As]at k;simp only[DE]at h;simp only[U1];rcases Z7 (ops:=ops) m.sm k.1.2 h with⟨F,H,n,h⟩|⟨F,H,n,h⟩
  ·rw[BL F]
   exact step d x H n k.1.1 k.2 h
  ·rw[F]
   simp only[BF,Ci];obtain⟨L,M,O⟩:=Xp k.1.1 m.size n (Z2.2 rfl);exact dY U R T r s _ f j _ w h2 h ⟨m.base,m.om,L,M,m.df.put O,m.xo,m.gl⟩
|[],_::_,_,_,_,_,_,z,_,_=>by simp[Wy]at z
|_::_,[],_,_,_,_,_,z,_,_=>by simp[Wy]at z
def SM.keep{w:World}{c:A0}{b:Xb}{a:Act}(d:SM w c b a)(l:List Nat):SM w c (Xj b l) a:=by
 intro k;induction l with
 |nil=>exact Qy
 |cons j r f=>
  simp only[Xj,Ay];split
  next e=>subst e;exact d j
  ·exact f
def Zv{d:A0}{c:Nat->Bool}{b:Nat}(h:Eg (d.CB c) b):Eg d b:=by
 obtain⟨j,o,a,e⟩:=h;simp only[A0.CB]at a;split at a
 ·cases a
 ·exact⟨j,o,a,e⟩
def eX(w:World)(b:A0)(a:Nat->Bool):F0 w (B2 b) w (B2 (b.CB a)):=λ_ h _=>
 ⟨rfl,λc=>h (c.elim (λh=>.inl (Zv h)) .inr)⟩
mutual
def MO{w:World}{t:A0}{k:Nat->Bool}:∀(x:V)(j:List Value),V.BJ k x=false->x.Ac w t j->x.Ac w (t.CB k) j
|.d x,j,_,h=>by simp only[V.Ac]at h⊢;exact HV (eX w t k) x j h
|.ptr id p,j,a,h=>by
 simp only[V.Ac]at h⊢;simp only[V.BJ]at a;rcases h with⟨b,m,c,g⟩|⟨c,g⟩
 ·exact .inl ⟨b,m,by simp only[A0.CB,a];exact c,g⟩
 ·exact .inr ⟨by simp only[A0.CB,a];exact c,g⟩
|.sl id n,j,a,h=>by
 simp only[V.Ac]at h⊢;simp only[V.BJ]at a;obtain⟨o,u,c,g⟩:=h;exact⟨o,u,by simp only[A0.CB,a];exact c,g⟩
|.sd id n,j,a,h=>by
 simp only[V.Ac]at h⊢;simp only[V.BJ]at a;obtain⟨o,u,c,g⟩:=h;exact⟨o,u,by simp only[A0.CB,a];exact c,g⟩
|.mp id,j,a,h=>by
 simp only[V.Ac]at h⊢;simp only[V.BJ]at a;rcases h with⟨b,c,g⟩|⟨c,g⟩
 ·exact .inl ⟨b,by simp only[A0.CB,a];exact c,g⟩
 ·exact .inr ⟨by simp only[A0.CB,a];exact c,g⟩
|.hd y id,j,a,h=>by
 simp only[V.Ac]at h⊢;simp only[V.BJ]at a;rcases h with⟨b,c,g⟩|⟨c,g⟩
 ·exact .inl ⟨b,by simp only[A0.CB,a];exact c,g⟩
 ·exact .inr ⟨by simp only[A0.CB,a];exact c,g⟩
|.bs id p L n,j,a,h=>by
 simp only[V.Ac]at h⊢;simp only[V.BJ]at a;rcases h with⟨b,m,l,f,c,g⟩|⟨c,g⟩
 ·exact .inl ⟨b,m,l,f,by simp only[A0.CB,a];exact c,g⟩
 ·exact .inr ⟨by simp only[A0.CB,a];exact c,g⟩
|.ep id n z i f p,j,a,h=>by
 simp only[V.Ac]at h⊢;simp only[V.BJ]at a;obtain⟨o,u,c,g⟩:=h;exact⟨o,u,by simp only[A0.CB,a];exact c,g⟩
|.fn f K J,j,a,h=>by
 simp only[V.Ac]at h⊢;simp only[V.BJ,FC]at a;obtain⟨F,G,e,c,g⟩:=h;exact⟨F,G,e,QJ K F a.1 c,QJ J G a.2 g⟩
|.agg s,j,a,h=>by
 simp only[V.Ac]at h⊢;simp only[V.BJ]at a;exact ZG s j a h
|.iface M x,j,a,h=>by
 simp only[V.Ac]at h⊢;simp only[V.BJ]at a;obtain⟨u,e,c⟩:=h;refine⟨u,e,?_⟩;rcases c with c|⟨p,v,q,r⟩|⟨p,r⟩
 ·exact .inl c
 ·exact .inr (.inl ⟨p,v,q,MO x v a r⟩)
 ·exact .inr (.inr ⟨p,MO x _ a r⟩)
|.BE s,j,a,h=>by
 simp only[V.Ac]at h⊢;simp only[V.BJ]at a;obtain⟨H,e,c⟩:=h;exact⟨H,e,QJ s H a c⟩
|.undef,j,_,h=>by simpa only[V.Ac]using h
|.any,j,_,h=>by simpa only[V.Ac]using h
def ZG{w:World}{i:A0}{a:Nat->Bool}:∀(d:List V)(b:List Value),BO a d=false->Br w i d b->Br w (i.CB a) d b
|[],b,_,h=>by simpa only[Br]using h
|x::r,b,c,h=>by
 simp only[Br]at h⊢;simp only[BO,FC]at c;obtain⟨f,g,e,j,k⟩:=h;exact⟨f,g,e,MO x f c.1 j,ZG r g c.2 k⟩
def QJ{w:World}{j:A0}{a:Nat->Bool}:∀(f:List V)(c:List Value),BO a f=false->V.A1 w j f c->V.A1 w (j.CB a) f c
|[],c,_,h=>by simpa only[V.A1]using h
|x::r,c,b,h=>by
 simp only[V.A1]at h⊢;simp only[BO,FC]at b;obtain⟨u,i,e,d,k⟩:=h;refine⟨u,i,e,?_,QJ r i b.2 k⟩;rcases d with d|⟨p,g,q,r⟩|⟨p,r⟩
 ·exact .inl d
 ·exact .inr (.inl ⟨p,g,q,MO x g b.1 r⟩)
 ·exact .inr (.inr ⟨p,MO x _ b.1 r⟩)
end
def MP{w:World}{d:A0}{a:Nat->Bool}{x:V}{u:Value}(c:V.BJ a x=false)(h:x.An w d u):x.An w (d.CB a) u:=by
 rcases h with e|⟨p,b,q,r⟩|⟨p,r⟩
 ·exact .inl e
 ·exact .inr (.inl ⟨p,b,q,MO x b c r⟩)
 ·exact .inr (.inr ⟨p,MO x _ c r⟩)
def X6.CB{w:World}{f:A0}{b:Nat->Bool}:∀(l:List (D×V)) (c:List MapEntry),Ym b l=false->X6 w f l c->X6 w (f.CB b) l c
|[],c,_,h=>h
|(k,v)::r,c,d,h=>by
 simp only[Ym,FC]at d;obtain⟨e,a,g,i,j,m⟩:=h;exact⟨e,a,g,i,MP d.1 j,X6.CB r a d.2 m⟩
def Z9{a:Nat->Bool}:∀(b:AB)(j:Nat),AA (Xh a b) j=if a j then none else AA b j
|[],j=>by simp[Xh,AA]
|(k,x)::r,j=>by
 simp only[Xh];split
 ·rename_i h
  rw[Z9 r j];simp only[AA];by_cases e:k=j
  ·subst e;rw[BL h,BL h]
  ·simp[e]
 ·rename_i h
  simp only[AA,Z9 r j];by_cases e:k=j
  ·subst e;rw[BL rfl,Af h,BL rfl]
  ·simp[e]
def Ee.drop{a:Nat->Bool}:∀{b:AB},Ee b->Ee (Xh a b)
|[],h=>h
|(k,x)::r,h=>by
 simp only[Xh];split
 ·exact Ee.drop h.2
 ·refine⟨?_,Ee.drop h.2⟩
  rw[Z9,h.1];split<;>rfl
def Y0{b:Nat->Bool}:∀(c:AB)(j E:Nat)(t:V),AH b c=true->AA c j=some (.box E t)->V.BJ b t=false
|[],j,E,t,_,h=>by simp[AA]at h
|(k,x)::r,j,E,t,a,h=>by
 simp only[AA]at h;split at h
 ·simp at h;subst h
  simp only[AH,As]at a;simpa using a.1
 ·cases x with
  |box _ y=>simp only[AH,As]at a;exact Y0 r j E t a.2 h
  |Ao _ _ y=>simp only[AH,As]at a;exact Y0 r j E t a.2 h
  |map y=>simp only[AH,As]at a;exact Y0 r j E t a.2 h
  |A9 _ z d=>simp only[AH]at a;exact Y0 r j E t a h
  |AY=>simp only[AH]at a;exact Y0 r j E t a h
  |lp _ _ _=>simp only[AH,As]at a;exact Y0 r j E t a.2 h
  |it m _ _=>simp only[AH,As]at a;exact Y0 r j E t a.2 h
def Zo{c:Nat->Bool}:∀(d:AB)(j E b:Nat)(t:List V),AH c d=true->AA d j=some (.Ao E b t)->BO c t=false
|[],j,E,b,t,_,h=>by simp[AA]at h
|(k,x)::r,j,E,b,t,a,h=>by
 simp only[AA]at h;split at h
 ·simp at h;subst h
  simp only[AH,As]at a;simpa using a.1
 ·cases x with
  |box _ y=>simp only[AH,As]at a;exact Zo r j E b t a.2 h
  |Ao _ _ y=>simp only[AH,As]at a;exact Zo r j E b t a.2 h
  |map y=>simp only[AH,As]at a;exact Zo r j E b t a.2 h
  |A9 _ z e=>simp only[AH]at a;exact Zo r j E b t a h
  |AY=>simp only[AH]at a;exact Zo r j E b t a h
  |lp _ _ _=>simp only[AH,As]at a;exact Zo r j E b t a.2 h
  |it m _ _=>simp only[AH,As]at a;exact Zo r j E b t a.2 h
def Zn{b:Nat->Bool}:∀(c:AB)(j:Nat) (t:List (D×V)),AH b c=true->AA c j=some (.map t)->Ym b t=false
|[],j,t,_,h=>by simp[AA]at h
|(k,x)::r,j,t,a,h=>by
 simp only[AA]at h;split at h
 ·simp at h;subst h
  simp only[AH,As]at a;simpa using a.1
 ·cases x with
  |box _ y=>simp only[AH,As]at a;exact Zn r j t a.2 h
  |Ao _ _ y=>simp only[AH,As]at a;exact Zn r j t a.2 h
  |map y=>simp only[AH,As]at a;exact Zn r j t a.2 h
  |A9 _ z d=>simp only[AH]at a;exact Zn r j t a h
  |AY=>simp only[AH]at a;exact Zn r j t a h
  |lp _ _ _=>simp only[AH,As]at a;exact Zn r j t a.2 h
  |it m _ _=>simp only[AH,As]at a;exact Zn r j t a.2 h
def xA{c:Nat->Bool}:∀(e:AB)(j b:Nat)(d:EC)(t:Xb),AH c e=true->AA e j=some (.lp b d t)->Za c t=true
|[],j,b,d,t,_,h=>by simp[AA]at h
|(k,x)::r,j,b,d,t,a,h=>by
 simp only[AA]at h;split at h
 ·simp at h;subst h
  simp only[AH,As]at a;simpa using a.1
 ·refine xA r j b d t ?_ h
  cases x with
  |box _ y=>simp only[AH,As]at a;exact a.2
  |Ao _ _ y=>simp only[AH,As]at a;exact a.2
  |map y=>simp only[AH,As]at a;exact a.2
  |A9 _ z f=>simp only[AH]at a;exact a
  |AY=>simp only[AH]at a;exact a
  |lp _ _ _=>simp only[AH,As]at a;exact a.2
  |it m _ _=>simp only[AH,As]at a;exact a.2
def w9{b:Nat->Bool}:∀(c:AB)(j i n:Nat)(t:List Nat),AH b c=true->AA c j=some (.it (some i) n t)->b i=false
|[],j,i,n,t,_,h=>by simp[AA]at h
|(k,x)::r,j,i,n,t,a,h=>by
 simp only[AA]at h;split at h
 ·simp at h;subst h
  simp only[AH,As]at a;simpa[dI]using a.1
 ·refine w9 r j i n t ?_ h
  cases x with
  |box _ y=>simp only[AH,As]at a;exact a.2
  |Ao _ _ y=>simp only[AH,As]at a;exact a.2
  |map y=>simp only[AH,As]at a;exact a.2
  |A9 _ z d=>simp only[AH]at a;exact a
  |AY=>simp only[AH]at a;exact a
  |lp _ _ _=>simp only[AH,As]at a;exact a.2
  |it m _ _=>simp only[AH,As]at a;exact a.2
def dZ{a:Nat->Bool}:∀(c:Xb),Za a c=true->∀p∈c,V.BJ a p.2=false
|[],_,p,h=>by cases h
|(j,v)::r,b,p,h=>by
 simp only[Za,As,El]at b;rcases DA.1 h with rfl|h
 ·exact b.1
 ·exact dZ r b.2 p h
def vC{a:Nat->Bool}:∀(c:Xb)(k:Nat),Za a c=true->V.BJ a (Ay c k)=false
|[],k,_=>by simp[Ay,V.BJ]
|(j,v)::r,k,b=>by
 simp only[Za,As]at b;simp only[Ay];split
 ·simpa using b.1
 ·exact vC r k b.2
def OM.CB{w:World}{z:A0}{J:AB}{d:Nat->Bool}(h:OM w z J)(v:AH d (Xh d J)=true):OM w (z.CB d) (Xh d J):=by
 refine⟨λj x y=>?_,λj o G=>?_,λi j o p b e F W X=>?_,h.D7,λb o u=>⟨(h.Dn b o u).1,(eX w z d b (h.Dn b o u).2 (Xi (h.Dn b o u).1)).2⟩,λb u=>h.DT b (Zv u),Ee.drop h.CX⟩
 ·have k:=y
  rw[Z9]at y;split at y
  ·cases y
  ·rename_i f
   have e:=h.BU j x y;cases x with
   |box E t=>
    obtain⟨b,r,a,c,g⟩:=e;exact⟨b,r,by simp only[A0.CB,f];exact a,c,MO t r (Y0 _ j E t v k) g⟩
   |AY=>exact(by simp only[A0.CB,f];exact e:(z.CB d).m j=some .AY)
   |A9 E P M=>
    rcases e with⟨a,c⟩|⟨b,q,r,K,a,c,g,s⟩
    ·exact .inl ⟨by simp only[A0.CB,f];exact a,c⟩
    ·exact .inr ⟨b,q,r,K,by simp only[A0.CB,f];exact a,c,Fy (eX w z d) _ _ g,s⟩
   |Ao E P M=>
    rcases e with⟨a,c⟩|⟨b,q,r,K,a,c,g,s⟩
    ·exact .inl ⟨by simp only[A0.CB,f];exact a,c⟩
    ·exact .inr ⟨b,q,r,K,by simp only[A0.CB,f];exact a,c,ZG M r (Zo _ j E P M v k) g,s⟩
   |map N=>
    obtain⟨b,l,H,a,c,g,s⟩:=e;exact⟨b,l,H,by simp only[A0.CB,f];exact a,c,X6.CB N l (Zn _ j N v k) g,s⟩
   |lp L st t=>
    obtain⟨b,U,tm,T,ps,Q,R,a,c,g,s⟩:=e;exact⟨b,U,tm,T,ps,Q,R,by simp only[A0.CB,f];exact a,c,g,λp O=>MP (dZ t (xA _ j L st t v k) p O) (s p O)⟩
   |it m n t=>
    cases m with
    |none=>obtain⟨b,a,c⟩:=e;exact⟨b,by simp only[A0.CB,f];exact a,c⟩
    |some i=>
     obtain⟨b,Z,a,c,g⟩:=e;have Y:=w9 _ j i n t v k;exact⟨b,Z,by simp only[A0.CB,f];exact a,by simp only[A0.CB,Y];exact c,g⟩
 ·simp only[A0.CB]at G
  rw[Z9];split at G
  ·cases G
  ·rename_i f
   rw[Af f];exact h.D1 j o G
 ·simp only[A0.CB]at e F
  split at e
  ·cases e
  ·split at F
   ·cases F
   ·exact h.inj i j o p b e F W X
section
variable {w:World} {ρ:A0}
mutual
def MS{c:Nat->Bool}(b:∀id o,ρ.m id=some o->c id=false):∀(v:V)(a:List Value),v.Ac w ρ a->V.BJ c v=false
|.d _,_,_=>rfl
|.ptr id p,a,h=>by
 simp only[V.Ac]at h;simp only[V.BJ];rcases h with⟨_,_,h,_⟩|⟨h,_⟩<;>exact b _ _ h
|.sl id n,a,h=>by simp only[V.Ac]at h;obtain⟨_,_,h,_⟩:=h;exact b _ _ h
|.sd id n,a,h=>by simp only[V.Ac]at h;obtain⟨_,_,h,_⟩:=h;exact b _ _ h
|.mp id,a,h=>by
 simp only[V.Ac]at h;simp only[V.BJ];rcases h with⟨_,h,_⟩|⟨h,_⟩<;>exact b _ _ h
|.hd y id,a,h=>by
 simp only[V.Ac]at h;simp only[V.BJ];rcases h with⟨_,h,_⟩|⟨h,_⟩<;>exact b _ _ h
|.bs id p G n,a,h=>by
 simp only[V.Ac]at h;simp only[V.BJ];rcases h with⟨_,_,_,_,h,_⟩|⟨h,_⟩<;>exact b _ _ h
|.ep id n z i f p,a,h=>by simp only[V.Ac]at h;obtain⟨_,_,h,_⟩:=h;exact b _ _ h
|.fn f k g,a,h=>by
 simp only[V.Ac]at h;obtain⟨l,q,_,r,s⟩:=h;simp only[V.BJ,Ou b k l r,Ou b g q s,Bool.or_self]
|.agg e,a,h=>by simp only[V.Ac]at h;simp only[V.BJ];exact ZK b e a h
|.iface t x,a,h=>by
 simp only[V.Ac]at h;obtain⟨u,_,h⟩:=h;simp only[V.BJ];rcases h with h|⟨_,j,_,h⟩|⟨_,h⟩
 ·subst h;rfl
 ·exact MS b x j h
 ·exact MS b x _ h
|.BE e,a,h=>by simp only[V.Ac]at h;obtain⟨F,_,h⟩:=h;simp only[V.BJ];exact Ou b e F h
|.undef,_,_=>rfl
|.any,_,_=>rfl
def ZK{a:Nat->Bool}(c:∀id o,ρ.m id=some o->a id=false):∀(d:List V)(b:List Value),Br w ρ d b->BO a d=false
|[],_,_=>rfl
|x::r,b,h=>by
 simp only[Br]at h;obtain⟨e,f,_,g,i⟩:=h;simp only[BO,MS c x e g,ZK c r f i,Bool.or_self]
def Ou{a:Nat->Bool}(b:∀id o,ρ.m id=some o->a id=false):∀(d:List V)(c:List Value),V.A1 w ρ d c->BO a d=false
|[],_,_=>rfl
|x::r,c,h=>by
 simp only[V.A1]at h;obtain⟨u,i,_,f,g⟩:=h;have:V.BJ a x=false:=by
  rcases f with h|⟨_,e,_,h⟩|⟨_,h⟩
  ·subst h;rfl
  ·exact MS b x e h
  ·exact MS b x _ h
 simp only[BO,this,Ou b r i g,Bool.or_self]
end
def ZL{a:Nat->Bool}(b:∀id o,ρ.m id=some o->a id=false){v:V}{u:Value}(h:v.An w ρ u):V.BJ a v=false:=by
 rcases h with h|⟨_,c,_,h⟩|⟨_,h⟩
 ·subst h;rfl
 ·exact MS b v c h
 ·exact MS b v _ h
end
def C3.wk{c:Di}{f:Nat->Prop}{g b:A0}{e:Xb}{h d:AB}{a:Act}{w:World}(m:C3 c f g e h a w)(t:Tr w g w b)(o:OM w b d):C3 c f b e d a w:=
 ⟨m.base.tr t,o,m.sm.tr t,m.size,m.df.tr t,t.xo.trans m.xo,t.gl.trans m.gl⟩
def C3.sub{c:Di}{j:Nat->Prop}{l:A0}{g:Xb}{f:AB}{a:Act}{w:World}{e:List Nat}{d:Nat->Bool}(m:C3 c j l g f a w)(t:∀id o,c.m0 id=some o->d id=false)(u:∀p∈c.ev,V.BJ d p.1=false)
 (n:Za d (Xj g e)=true) (r:AH d (Xh d f)=true):C3 c j (l.CB d) (Xj g e) (Xh d f) a w:=
 ⟨⟨m.base.size,m.base.keep,λb s=>m.base.Cs b (Zv s),m.base.tape,m.base.os,m.base.CO,λid o h=>(m.base.same id o h).elim λv q=>⟨v,by simp only[A0.CB,t id o h];exact q.1,q.2⟩,λp i=>MP (u p i) (m.base.ext p i),m.base.drawn⟩,m.om.CB r,λk=>MP (vC _ k n) (m.sm.keep e k),m.size,m.df.CB λ_=>Zv,m.xo,m.gl⟩
def Ng(c:Di)(h:Nat->Prop)(d:List Nat)(Q:Yt)(g:List PanicEntry)(a:Act)(w:World):Prop:=
 ∃v e b f u,Q (.panic v) (Xj e d) b/\g=[{v:=u,recovered:=false}]/\v.An w f u/\C3 c h f (Xj e d) b a w
def xR(b:Xb):∀(a:List Nat)(k:Nat),k∉a->Ay (Xj b a) k=.any
|[],k,_=>by simp[Xj,Ay]
|j::r,k,h=>by
 simp only[Xj,Ay];have:j≠k:=λe=>h (by simp[e]);rw[Af this];exact xR b r k (λc=>h (by simp[c]))
def xf{c:Di}{n:Nat->Prop}{b:List Nat}{Q:Yt}{g:List PanicEntry}{a:Act}{w:World}{d:Option Nat}{v:Value}(r:∀k,d=some k->k∉b)(h:Ng c n b Q g (a.put d v) w):Ng c n b Q g a w:=by
 obtain⟨x,l,s,t,u,o,p,q,m⟩:=h;refine⟨x,l,s,t,u,o,p,q,m.base,m.om,λk=>?_,?_,?_,m.xo,m.gl⟩
 ·by_cases i:k∈b
  ·have:=m.sm k
   cases d with
   |none=>exact this
   |some j=>
    have f:j≠k:=λe=>r j rfl (e▸i);simpa[Act.put,Tu,f]using this
  ·rw[xR l b k i];exact Qy
 ·have:=m.size
  cases d<;>simpa[Act.put]using this
 ·have:=m.df
  cases d<;>simpa only[Act.put]using this
def FB(B:Nat->Prop)(u v:World):Prop:=∀b,B b->v.heap[b]? = u.heap[b]?
def N1(B:Nat->Prop)(w:World)(a:A0):Prop:=∀b,B b->b<w.heap.size/\¬B2 a b
def N1.tr{B:Nat->Prop}{w f:World}{ρ a:A0}(h:N1 B w ρ)(t:Tr w ρ f a):N1 B f a:=λb i=>by
 obtain⟨g,d⟩:=h b i;refine⟨Oz g t.size,?_⟩;rintro (c|c)
 ·rcases t.Cs b c with e|e
  ·exact d (.inl e)
  ·omega
 ·exact d (.inr (t.xo▸c))
def N1.fb{B:Nat->Prop}{w d:World}{e a:A0}(h:N1 B w e)(t:Tr w e d a):FB B w d:=λb c=>t.keep b (λf=>(h b c).2 (.inl f)) (h b c).1
def FB.refl(B:Nat->Prop)(w:World):FB B w w:=λ_ _=>rfl
def FB.trans{B:Nat->Prop}{u v w:World}(h:FB B u v)(c:FB B v w):FB B u w:=λb a=>(c b a).trans (h b a)
def RJ(a:Nat->Nat)(B:Nat->Prop)(j:Nat)(u v:World):Prop:=(a j≠3->Bv u v)/\FB B u v
def Zg{P:Az}{c:Di}(hg:P.g=c.g){xo:Nat->Prop}{q:Array Oper}{Q:Exit->Act->World->Prop}{QP:Yt}{pk:List Nat}{K:Xb->AB->Prop}{kd:Nat->Nat}
 (J:Region.noSelect q=true) (Y:Rl pk q=true)
 (hK:∀sl T ρ a w,K sl T->C3 c xo ρ sl T a w->Q .normal a w)
 (hQ:∀ch a w,Q (.panic ch) a w↔Ng c xo pk QP ch a w):
 ∀(az:List Nat)(ap:List It)(B:Nat->Prop)(b:Array Bool)(sl:Xb)(T:AB)(ρ:A0)(a:Act)(w:World),N1 B w ρ->Nr P.p c.N q kd b az ap=true->Ma .any q b->
  DE P K (λv sl T=>QP (.panic v) (Xj sl pk) T) ap sl T->C3 c xo ρ sl T a w->Vi P.p .any q Q (RJ kd B) az.length b a w
|[],[],B,b,sl,T,ρ,a,w,hB,hc,_,h,m=>by
 simp only[Nr]at hc;simp only[List.length_nil,Vi];exact⟨by simpa using hc,hK sl T ρ a w h m⟩
|i::r,x::s,B,b,sl,T,ρ,a,w,hB,hc,al,h,m=>by
 simp only[Nr,As]at hc;obtain⟨⟨⟨⟨hr,hx⟩,a2⟩,f⟩,H⟩:=hc;have ao:i∈Region.ready .any q b:=by simpa using hr
 cases ho:q[i]? with
 |none=>simp[ho]at hx
 |some o=>
  simp only[ho]at hx;have ac:x.kind=kd i:=by simpa using a2
  have aw:∀k,o.dst=some k->k∉pk:=by
   intro k hk;have:=DQ.1 Y o (by simpa using Tv ho);simpa[hk]using this
  have aq:∀v:Value,∀ch a w,Q (.panic ch) (a.put o.dst v) w->Q (.panic ch) a w:=λv ch a w hq=>(hQ ch a w).2 (xf aw ((hQ ch _ w).1 hq));have O:=al.step ao;simp only[List.length_cons]
  -- the operation's state and Gd,whichever way ap guard goes
  have hd:∃(d:Option Nat) (y:I),IA c.N o.dst d=true/\y.Aa P.p o.op=true/\x.kind=y.kind/\
   ((Region.wanted o (yielded q a.tmps)=true/\∃L,SM w ρ L a/\y.wp P L T (λv W=>DE P K (λv sl T=>QP (.panic v) (Xj sl pk) T) s (put L d v) W) (λv W=>QP (.panic v) (Xj L pk) W))\/
    (Region.wanted o (yielded q a.tmps)=false/\∃L,SM w ρ L a/\DE P K (λv sl T=>QP (.panic v) (Xj sl pk) T) s (put L d .undef) T)):=by
   cases x with
   |op d y=>
    simp only[It.Aa,As,LJ]at hx;simp only[DE]at h;exact⟨d,y,hx.1.1,hx.2,rfl,.inl ⟨by simp[Region.wanted,hx.1.2],sl,m.sm,h⟩⟩
   |C6 g a7 d y=>
    simp only[It.Aa,As]at hx;simp only[DE]at h;exact⟨d,y,hx.1.1,hx.2,rfl,Z7 (ops:=q) m.sm hx.1.2 h⟩
  obtain⟨d,y,R,hy,U,ag⟩:=hd
  -- an operation that CW be taken first
  have first:∀l:Bool,(∀G,y=.c G->G.ES=l)->(∃G,y=.c G)->Region.free .any q b i=true->
   (l=true->∀j,j<q.size->kd j=3->j≠i->∃aa,U0 .any q i aa j=true)->kd i≠3->Vi P.p .any q Q (RJ kd B) (r.length+1) b a w:=by
   intro l ad ai ab a6 aj;have ak:l=true->∀j,j<q.size->j≠i->(∃aa,U0 .any q i aa j=true)\/∀u v,RJ kd B j u v->Bv u v:=λh1 j h2 h3=>by
    by_cases h4:kd j=3
    ·exact .inl (a6 h1 j h2 h4 h3)
    ·exact .inr λu v h5=>h5.1 h4
   have af:∀w,RJ kd B i w w:=λw=>⟨λ_=>Bv.refl w,FB.refl B w⟩;obtain⟨G,rfl⟩:=ai;have ad:=ad G rfl;rcases ag with⟨hw,L,hs,M⟩|⟨hw,L,hs,M⟩
   ·simp only[I.wp]at M
    obtain⟨v,z,hk,F,ay⟩:=C.Av hs m.om hy M;obtain⟨g1,g2,g3⟩:=Xp R m.size hs F;refine Vx (S:=Bv) (l:=l) Bv.refl (λ_ _ _=>Bv.trans) ho (Region.noSelect_spec J) (aq v) ak af _ b a w al (Region.free_spec ho ab) ao (.inl ⟨hw,λw' a5=>ay o rfl w' (λe=>a5 (by rw[<-ad];exact e))⟩) ?_;exact Zg hg J Y hK hQ r s B _ _ T ρ _ w hB H O hk ⟨m.base,m.om,g1,g2,m.df.put g3,m.xo,m.gl⟩
   ·obtain⟨g1,g2,g3⟩:=Xp R m.size hs (Z2.2 rfl)
    refine Vx (S:=Bv) (l:=l) Bv.refl (λ_ _ _=>Bv.trans) ho (Region.noSelect_spec J) (aq undef) ak af _ b a w al (Region.free_spec ho ab) ao (.inr ⟨hw,rfl⟩) ?_;exact Zg hg J Y hK hQ r s B _ _ T ρ _ w hB H O M ⟨m.base,m.om,g1,g2,m.df.put g3,m.xo,m.gl⟩
  -- the only BU that CW come up
  have X:Region.ready .any q b=[i]->(y.kind=2\/y.kind=3\/y.kind=4)->Vi P.p .any q Q (RJ kd B) (r.length+1) b a w:=by
   intro ax au;refine⟨λh0=>(by rw[ax]at h0;cases h0),λj hj=>?_⟩;rw[ax]at hj;simp at hj;subst hj;unfold HC;simp only[ho];rcases ag with⟨hw,L,hs,M⟩|⟨hw,L,hs,M⟩
   ·rw[BL hw]
    rcases au with a0|aj|a1
    ·refine qF (m.gl.trans hg.symm) hs m.om a0 hy M o rfl _ _ (λv z w' hk F he=>⟨⟨λ_=>he,hB.fb he.tr⟩,?_⟩)
     obtain⟨g1,g2,g3⟩:=Xp R m.size (hs.tr he.tr) F;exact Zg hg J Y hK hQ r s B _ _ T ρ _ w' (hB.tr he.tr) H O hk ⟨m.base.tr he.tr,m.om.ext he,g1,g2,(m.df.tr he.tr).put g3,m.xo,m.gl⟩
    ·refine I.Av (m.gl.trans hg.symm) hs m.om hy M o rfl _ _ (λv z W w' ah hk F ae t=>⟨⟨λhf=>?_,hB.fb t⟩,?_⟩) (λu z W w' ah hk F ae t=>?_)
     ·exact absurd (by rw[<-ac,U,aj]) hf
     ·obtain⟨g1,g2,g3⟩:=Xp R m.size (hs.tr t) F
      exact Zg hg J Y hK hQ r s B _ _ W ah _ w' (hB.tr t) H O hk ⟨m.base.tr t,ae,g1,g2,(m.df.tr t).put g3,t.xo.trans m.xo,t.gl.trans m.gl⟩
     ·exact(hQ _ _ _).2 ⟨z,L,W,ah,u,hk,rfl,F,m.base.tr t,ae,(hs.tr t).keep pk,m.size,m.df.tr t,t.xo.trans m.xo,t.gl.trans m.gl⟩
    ·refine qG (m.gl.trans hg.symm) hs m.om a1 hy M o rfl _ _ (λv z W w' ah hk F ae t he=>⟨⟨λ_=>he,hB.fb t⟩,?_⟩)
     obtain⟨g1,g2,g3⟩:=Xp R m.size (hs.tr t) F;exact Zg hg J Y hK hQ r s B _ _ W ah _ w' (hB.tr t) H O hk ⟨m.base.tr t,ae,g1,g2,(m.df.tr t).put g3,t.xo.trans m.xo,t.gl.trans m.gl⟩
   ·rw[hw]
    simp only[BF,Ci];refine⟨⟨λ_=>Bv.refl w,FB.refl B w⟩,?_⟩;obtain⟨g1,g2,g3⟩:=Xp R m.size hs (Z2.2 rfl);exact Zg hg J Y hK hQ r s B _ _ T ρ _ w hB H O M ⟨m.base,m.om,g1,g2,m.df.put g3,m.xo,m.gl⟩
  have a3:y.kind=0\/y.kind=1\/y.kind=2\/y.kind=3\/y.kind=4\/y.kind=5:=by
   cases y with
   |c G=>simp only[I.kind];(repeat' split)<;>simp
   |_=>simp[I.kind]
  have ai:∀n,(n=0\/n=1)->y.kind=n->(∃G,y=.c G)/\∀G,y=.c G->G.ES=(n==1):=by
   intro n hn Z;cases y with
   |c G=>
    refine⟨⟨G,rfl⟩,λc' e=>?_⟩;cases e;simp only[I.kind]at Z;cases hd:G.Df
    ·cases hl:G.ES<;>simp[hl,hd]at Z<;>subst Z<;>rfl
    ·simp[hd]at Z;subst Z;simp at hn
   |_=>simp[I.kind]at Z;subst Z;simp at hn
  rcases a3 with h0|h1|h2|h3|h4|h5
  ·rw[U,h0]at f
   obtain⟨c1,c2⟩:=ai 0 (.inl rfl) h0;exact first false (λG e=>by simpa using c2 G e) c1 f (by simp) (by rw[<-ac,U,h0];decide)
  ·rw[U,h1]at f
   simp only[As]at f;obtain⟨c1,c2⟩:=ai 1 (.inr rfl) h1;refine first true (λG e=>by simpa using c2 G e) c1 f.1 (λ_ j hj aj a4=>?_) (by rw[<-ac,U,h1];decide)
   have:=DQ.1 f.2 j (by simpa using hj);have av:kd j=3:=aj;exact xw (by simpa[av,a4]using this)
  ·rw[U,h2]at f
   exact X (by simpa using f) (.inl h2)
  ·rw[U,h3]at f
   exact X (by simpa using f) (.inr (.inl h3))
  ·rw[U,h4]at f
   exact X (by simpa using f) (.inr (.inr h4))
  ·rw[U,h5]at f
   obtain⟨G,rfl,ad⟩:∃G,y=.c G/\G.Df=true:=by
    cases y with
    |c G=>
     simp only[I.kind]at h5;cases hd:G.Df
     ·cases hl:G.ES<;>simp[hl,hd]at h5
     ·exact⟨G,rfl,hd⟩
    |_=>simp[I.kind]at h5
   simp[C.Df]at ad
|[],_::_,_,_,_,_,_,_,_,_,hc,_,_,_=>by simp[Nr]at hc
|_::_,[],_,_,_,_,_,_,_,_,hc,_,_,_=>by simp[Nr]at hc
def Xwe{P:Az}{c:Di}(hg:P.g=c.g){xo:Nat->Prop}{n:Array Oper}{Q:Exit->Act->World->Prop}{QP:Yt}{pk:List Nat}{next:Xb->AB->Prop}{i:Nat}{o:Oper}{x:It}{Z:Xb}{M:AB}{q:A0}{a:Act}{w:World}{N:Act->World->Prop}
 (hQ:∀ch a w,Q (.panic ch) a w↔Ng c xo pk QP ch a w) (ho:n[i]? = some o) (O:x.Aa P.p c.N n o=true) (h:Fo P next (λv Z M=>QP (.panic v) (Xj Z pk) M) x Z M) (m:C3 c xo q Z M a w)
 (T:∀e f j a' r,next e f->C3 c xo j e f a' r->Tr w q r j->N a' r):HC P.p n Q i (λa' r=>((x.kind≠3->Bv w r)/\∃j,Tr w q r j)/\N a' r) a w:=by
 have hd:∃(d:Option Nat) (y:I),IA c.N o.dst d=true/\y.Aa P.p o.op=true/\x.kind=y.kind/\
  ((Region.wanted o (yielded n a.tmps)=true/\∃e,SM w q e a/\y.wp P e M (λv f=>next (put e d v) f) (λv f=>QP (.panic v) (Xj e pk) f))\/
   (Region.wanted o (yielded n a.tmps)=false/\∃e,SM w q e a/\next (put e d .undef) M)):=by
  cases x with
  |op d y=>
   simp only[It.Aa,As,LJ]at O;exact⟨d,y,O.1.1,O.2,rfl,.inl ⟨by simp[Region.wanted,O.1.2],Z,m.sm,h⟩⟩
  |C6 g ab d y=>
   simp only[It.Aa,As]at O;simp only[Fo]at h;exact⟨d,y,O.1.1,O.2,rfl,Z7 (ops:=n) m.sm O.1.2 h⟩
 obtain⟨d,y,k,hy,aa,R⟩:=hd;unfold HC;simp only[ho];rcases R with⟨hw,e,F,l⟩|⟨hw,e,F,l⟩
 ·rw[BL hw]
  by_cases W:y.kind=3
  ·refine I.Av (m.gl.trans hg.symm) F m.om hy l o rfl _ _ (λv z f r j L b s t=>⟨⟨λhf=>?_,j,t⟩,?_⟩) (λu z f r j L b s t=>?_)
   ·rw[aa]at hf;exact absurd W hf
   ·obtain⟨G,H,J⟩:=Xp k m.size (F.tr t) b
    exact T _ f j _ r L ⟨m.base.tr t,s,G,H,(m.df.tr t).put J,t.xo.trans m.xo,t.gl.trans m.gl⟩ t
   ·exact(hQ _ _ _).2 ⟨z,e,f,j,u,L,rfl,b,m.base.tr t,s,(F.tr t).keep pk,m.size,m.df.tr t,t.xo.trans m.xo,t.gl.trans m.gl⟩
  ·by_cases U:y.kind=2
   ·refine qF (m.gl.trans hg.symm) F m.om U hy l o rfl _ _ (λv z r L b K=>⟨⟨λ_=>K,q,K.tr⟩,?_⟩)
    obtain⟨G,H,J⟩:=Xp k m.size (F.tr K.tr) b;exact T _ M q _ r L ⟨m.base.tr K.tr,m.om.ext K,G,H,(m.df.tr K.tr).put J,m.xo,m.gl⟩ K.tr
   ·by_cases X:y.kind=4
    ·refine qG (m.gl.trans hg.symm) F m.om X hy l o rfl _ _ (λv z f r j L b s t K=>⟨⟨λ_=>K,j,t⟩,?_⟩)
     obtain⟨G,H,J⟩:=Xp k m.size (F.tr t) b;exact T _ f j _ r L ⟨m.base.tr t,s,G,H,(m.df.tr t).put J,t.xo.trans m.xo,t.gl.trans m.gl⟩ t
    cases y with
    |c cc=>
     simp only[I.wp]at l;obtain⟨v,z,L,b,Y⟩:=C.Av F m.om hy l;obtain⟨G,H,J⟩:=Xp k m.size F b;unfold Dw;rw[Y o rfl w (λ_=>Bv.refl w)];exact⟨⟨λ_=>Bv.refl w,q,Tr.refl w q⟩,T _ M q _ w L ⟨m.base,m.om,G,H,m.df.put J,m.xo,m.gl⟩ (Tr.refl w q)⟩
    |_=>exfalso;simp[I.kind]at U W X
 ·rw[hw]
  simp only[BF,Ci];refine⟨⟨λ_=>Bv.refl w,q,Tr.refl w q⟩,?_⟩;obtain⟨G,H,J⟩:=Xp k m.size F (Z2.2 rfl);exact T _ M q _ w l ⟨m.base,m.om,G,H,m.df.put J,m.xo,m.gl⟩ (Tr.refl w q)
def Wh{P:Az}{c:Di}(hg:P.g=c.g){xo:Nat->Prop}{f:Array Oper}{Q:Exit->Act->World->Prop}{QP:Yt}{Y:List Nat}{K:Xb->AB->Prop}{L:Nat->Nat}
 (J:Region.noSelect f=true) (ah:Rl Y f=true)
 (hK:∀F s Z a w,K F s->C3 c xo Z F s a w->Q .normal a w)
 (hQ:∀ch a w,Q (.panic ch) a w↔Ng c xo Y QP ch a w):
 ∀(n:Nat)(t:Ot)(B:Nat->Prop)(b:Array Bool)(F:Xb)(s:AB)(Z:A0)(a:Act)(w:World),N1 B w Z->Wx P.p c.N f L n b t=true->Ma .any f b->
  Dh P K (λv F s=>QP (.panic v) (Xj F Y) s) t F s->C3 c xo Z F s a w->Vi P.p .any f Q (RJ L B) n b a w
|0,.done,B,b,F,s,Z,a,w,hB,X,_,h,m=>by
 simp only[Wx]at X;simp only[Dh]at h;simp only[Vi];exact⟨by simpa using X,hK F s Z a w h m⟩
|n+1,.br l,B,b,F,s,Z,a,w,hB,X,ab,h,m=>by
 simp only[Wx,As,El]at X;obtain⟨⟨ag,ao⟩,al⟩:=X;simp only[Dh]at h;simp only[Vi];refine⟨λh0=>by rw[h0]at ag;simp at ag,λj hj=>?_⟩;have hh:=DQ.1 ao j hj;obtain⟨x,r,o,g1,g2,g3,g4,g5⟩:∃x r o,f[j]? = some o/\x.Aa P.p c.N f o=true/\x.kind=L j/\Wx P.p c.N f L n (b.setIfInBounds j true) r=true/\Fo P (Dh P K (λv F s=>QP (.panic v) (Xj F Y) s) r) (λv F s=>QP (.panic v) (Xj F Y) s) x F s:=by
  clear ag ao;revert h al hh;generalize l=l;intro hh al h;have go:∀(l:Ev),l.has j=true->Jx P.p c.N f L n b l=true->FH P K (λv F s=>QP (.panic v) (Xj F Y) s) l F s->∃x r o,f[j]? = some o/\x.Aa P.p c.N f o=true/\x.kind=L j/\Wx P.p c.N f L n (b.setIfInBounds j true) r=true/\Fo P (Dh P K (λv F s=>QP (.panic v) (Xj F Y) s) r) (λv F s=>QP (.panic v) (Xj F Y) s) x F s:=by
   intro l;induction l using Ev.rec (motive_1:=λ_=>True) with
   |nil=>intro h;simp[Ev.has]at h
   |cons i x r l _ ih=>
    intro h1 h2 h3;simp only[Ev.has,MW,CT]at h1;simp only[Jx,As]at h2;simp only[FH]at h3;by_cases e:i=j
    ·subst e
     obtain⟨⟨⟨⟨_,T⟩,hk⟩,hr⟩,_⟩:=h2;cases ho:f[i]? with
     |none=>simp[ho]at T
     |some o=>simp only[ho]at T;exact⟨x,r,o,rfl,T,by simpa using hk,hr,h3.1⟩
    ·exact ih (h1.resolve_left e) h2.2 h3.2
   |done=>trivial
   |BU i x r _=>trivial
   |br l _=>trivial
  first|exact go _ hh al h|exact go _ h al hh
 have av:=Xwe (Q:=Q) (N:=λa' w'=>Vi P.p .any f Q (RJ L B) n (b.setIfInBounds j true) a' w') hg hQ g1 g2 g5 m (λH W aj a' w' hk m' t=>Wh hg J ah hK hQ n r B _ H W aj a' w' (hB.tr t) g4 (ab.step hj) hk m');refine Uk (λa' w' h'=>⟨⟨λhf=>h'.1.1 ?_,h'.1.2.elim λaj t=>hB.fb t⟩,h'.2⟩) av;rw[g3];exact hf
|n+1,.BU i x r,B,b,F,s,Z,a,w,hB,X,ab,h,m=>by
 simp only[Wx,As]at X;obtain⟨⟨⟨⟨hr,T⟩,a4⟩,q⟩,R⟩:=X;have au:i∈Region.ready .any f b:=by simpa using hr
 simp only[Dh]at h;cases ho:f[i]? with
 |none=>simp[ho]at T
 |some o=>
  simp only[ho]at T;have ae:x.kind=L i:=by simpa using a4
  have ac:=ab.step au
  -- the only BU that CW come up
  have O:Region.ready .any f b=[i]->Vi P.p .any f Q (RJ L B) (n+1) b a w:=by
   intro a1;refine⟨λh0=>(by rw[a1]at h0;cases h0),λj hj=>?_⟩;rw[a1]at hj;simp at hj;subst hj;have av:=Xwe (Q:=Q) (N:=λa' w'=>Vi P.p .any f Q (RJ L B) n (b.setIfInBounds j true) a' w') hg hQ ho T h m (λH W aj a' w' hk m' t=>Wh hg J ah hK hQ n r B _ H W aj a' w' (hB.tr t) R ac hk m');refine Uk (λa' w' h'=>⟨⟨λhf=>h'.1.1 ?_,h'.1.2.elim λaj t=>hB.fb t⟩,h'.2⟩) av;rw[ae];exact hf
  have a0:∀k,o.dst=some k->k∉Y:=by
   intro k hk;have:=DQ.1 ah o (by simpa using Tv ho);simpa[hk]using this
  have ax:∀v:Value,∀ch a w,Q (.panic ch) (a.put o.dst v) w->Q (.panic ch) a w:=λv ch a w hq=>(hQ ch a w).2 (xf a0 ((hQ ch _ w).1 hq));have hd:∃(d:Option Nat) (y:I),IA c.N o.dst d=true/\y.Aa P.p o.op=true/\x.kind=y.kind/\
   ((Region.wanted o (yielded f a.tmps)=true/\∃H,SM w Z H a/\y.wp P H s (λv W=>Dh P K (λv F s=>QP (.panic v) (Xj F Y) s) r (put H d v) W) (λv W=>QP (.panic v) (Xj H Y) W))\/
    (Region.wanted o (yielded f a.tmps)=false/\∃H,SM w Z H a/\Dh P K (λv F s=>QP (.panic v) (Xj F Y) s) r (put H d .undef) s)):=by
   cases x with
   |op d y=>
    simp only[It.Aa,As,LJ]at T;exact⟨d,y,T.1.1,T.2,rfl,.inl ⟨by simp[Region.wanted,T.1.2],F,m.sm,h⟩⟩
   |C6 g a8 d y=>
    simp only[It.Aa,As]at T;simp only[Fo]at h;exact⟨d,y,T.1.1,T.2,rfl,Z7 (ops:=f) m.sm T.1.2 h⟩
  obtain⟨d,y,ap,hy,M,aw⟩:=hd;have first:∀l:Bool,(∀G,y=.c G->G.ES=l)->(∃G,y=.c G)->Region.free .any f b i=true->
   (l=true->∀j,j<f.size->L j=3->j≠i->∃aa,U0 .any f i aa j=true)->L i≠3->Vi P.p .any f Q (RJ L B) (n+1) b a w:=by
   intro l af ak ad a7 ay;have aq:l=true->∀j,j<f.size->j≠i->(∃aa,U0 .any f i aa j=true)\/∀u v,RJ L B j u v->Bv u v:=λh1 j h2 h3=>by
    by_cases h4:L j=3
    ·exact .inl (a7 h1 j h2 h4 h3)
    ·exact .inr λu v h5=>h5.1 h4
   have ai:∀w,RJ L B i w w:=λw=>⟨λ_=>Bv.refl w,FB.refl B w⟩;obtain⟨G,rfl⟩:=ak;have af:=af G rfl;rcases aw with⟨hw,H,hs,an⟩|⟨hw,H,hs,an⟩
   ·simp only[I.wp]at an
    obtain⟨v,z,hk,a2,a3⟩:=C.Av hs m.om hy an;obtain⟨g1,g2,g3⟩:=Xp ap m.size hs a2;refine Vx (S:=Bv) (l:=l) Bv.refl (λ_ _ _=>Bv.trans) ho (Region.noSelect_spec J) (ax v) aq ai _ b a w ab (Region.free_spec ho ad) au (.inl ⟨hw,λw' a6=>a3 o rfl w' (λe=>a6 (by rw[<-af];exact e))⟩) ?_;exact Wh hg J ah hK hQ n r B _ _ s Z _ w hB R ac hk ⟨m.base,m.om,g1,g2,m.df.put g3,m.xo,m.gl⟩
   ·obtain⟨g1,g2,g3⟩:=Xp ap m.size hs (Z2.2 rfl)
    refine Vx (S:=Bv) (l:=l) Bv.refl (λ_ _ _=>Bv.trans) ho (Region.noSelect_spec J) (ax undef) aq ai _ b a w ab (Region.free_spec ho ad) au (.inr ⟨hw,rfl⟩) ?_;exact Wh hg J ah hK hQ n r B _ _ s Z _ w hB R ac an ⟨m.base,m.om,g1,g2,m.df.put g3,m.xo,m.gl⟩
  have ak:∀n,(n=0\/n=1)->y.kind=n->(∃G,y=.c G)/\∀G,y=.c G->G.ES=(n==1):=by
   intro n hn U;cases y with
   |c G=>
    refine⟨⟨G,rfl⟩,λc' e=>?_⟩;cases e;simp only[I.kind]at U;cases hd:G.Df
    ·cases hl:G.ES<;>simp[hl,hd]at U<;>subst U<;>rfl
    ·simp[hd]at U;subst U;simp at hn
   |_=>simp[I.kind]at U;subst U;simp at hn
  have a5:y.kind=0\/y.kind=1\/y.kind=2\/y.kind=3\/y.kind=4\/y.kind=5:=by
   cases y with
   |c G=>simp only[I.kind];(repeat' split)<;>simp
   |_=>simp[I.kind]
  rcases a5 with h0|h1|h2|h3|h4|h5
  ·rw[M,h0]at q
   obtain⟨c1,c2⟩:=ak 0 (.inl rfl) h0;exact first false (λG e=>by simpa using c2 G e) c1 q (by simp) (by rw[<-ae,M,h0];decide)
  ·rw[M,h1]at q
   simp only[As]at q;obtain⟨c1,c2⟩:=ak 1 (.inr rfl) h1;refine first true (λG e=>by simpa using c2 G e) c1 q.1 (λ_ j hj ay ag=>?_) (by rw[<-ae,M,h1];decide)
   have:=DQ.1 q.2 j (by simpa using hj);have az:L j=3:=ay;exact xw (by simpa[az,ag]using this)
  ·rw[M,h2]at q
   exact O (by simpa using q)
  ·rw[M,h3]at q
   exact O (by simpa using q)
  ·rw[M,h4]at q
   exact O (by simpa using q)
  ·rw[M,h5]at q
   obtain⟨G,rfl,af⟩:∃G,y=.c G/\G.Df=true:=by
    cases y with
    |c G=>
     simp only[I.kind]at h5;cases hd:G.Df
     ·cases hl:G.ES<;>simp[hl,hd]at h5
     ·exact⟨G,rfl,hd⟩
    |_=>simp[I.kind]at h5
   simp[C.Df]at af
|0,.BU _ _ _,_,_,_,_,_,_,_,_,X,_,_,_=>by simp[Wx]at X
|0,.br _,_,_,_,_,_,_,_,_,X,_,_,_=>by simp[Wx]at X
|_+1,.done,_,_,_,_,_,_,_,_,X,_,_,_=>by simp[Wx]at X
def uj{p:Nat->Prop}:∀n,p n->∃m,p m/\∀k,p k->m<=k:=by
 intro n;induction n using Nat.strongRecOn with
 |_ n d=>
  intro c;by_cases h:∃k,p k/\k<n
  ·obtain⟨k,b,a⟩:=h;exact d k a b
  ·exact⟨n,c,λk b=>Nat.le_of_not_lt λa=>h ⟨k,b,a⟩⟩
def xL{a:Xb}:∀{l:List Nat}{p:Nat×V},p∈Xj a l->p.2=Ay a p.1
|[],p,h=>by cases h
|k::r,p,h=>by
 rcases DA.1 h with rfl|h
 ·rfl
 ·exact xL h
def Yul{w:World}{c:A0}{a:AB}(h:OM w c a)(o:Obj):Tr w c (EE w o) (c.BS (fresh a) (.map w.heap.size)):=
 Vt _ (Zj w o) (o:=.map w.heap.size) (h.free (Xo a)) (λb d=>by simp[RO.blk?]at d;omega)
def Yc1{sl:Xb}{k:Nat}:Ay sl k=.any\/(k,Ay sl k)∈sl:=by
 induction sl with
 |nil=>exact .inl rfl
 |cons e r a=>
  obtain⟨j,v⟩:=e;simp only[Ay];split
  next e=>subst e;exact .inr (by simp)
  ·exact a.imp id (λh=>by simp[h])
def tt{P:Az}{c:Di}(hg:P.g=c.g){xo:Nat->Prop}{f:Operand}{ag:Nat}{i:Xb}{Q:Yt}{l:AB}{ρ:A0}{a:Act}{w z:World}{k:A0}{fi ca:List V}{X Y:List Value}{W D:Nat}(aj:c.OY=true)
 (m:C3 c xo ρ i l a w) (aa:Xd P.p W=true) (h:AV P W (fi++[.hd true (fresh l)]++ca) ((fresh l,.lp ag .ready i)::l) (I8 Q i (fresh l)))
 (e1:a.eval f=.func (.func W) X.toArray Y.toArray) (r2:V.A1 w ρ fi X) (r3:V.A1 w ρ ca Y) (t1:Tr w ρ z k) (o1:OM z k ((fresh l,.lp ag .ready i)::l)) {L:Nat} (Z:k.m (fresh l)=some (.map L))
 (N:c.w0.heap.size<=D/\z.heap[D]? = some (.deferred (some []))/\¬Eg k D) (aq:w.heap.size<=D):
 ∃(d:Deferred) (s:World) (U:FuncId) (F:Array Value) (J:World),
  (resolve a.eval (rangeCall f L) 0).run P.p z=.ok d s/\(∀U,Target.leads P.p s d.target d.args=some U->(GB none).fn U)/\
  (invoke d.target d.args).run P.p s=.ok (.enter U F) J/\((GB none).depth.isSome=true->1<=0)/\
  CallsIn (GB none) (0-1) P.p U F J (rangePost (GB none) 0 P.p L (AZ c xo Q) {a with defers:=[G0 D]++a.defers}):=by
 have ai:k.gl=P.g:=t1.gl.trans (m.gl.trans hg.symm);have hy:(V.hd true (fresh l)).An z k (.func (.yield L) #[] #[]):=LR.2 (.inl ⟨L,Z,rfl⟩);have K:V.A1 z k (fi++[.hd true (fresh l)]++ca) (X++[Value.func (.yield L) #[] #[]]++Y):=
  Bw (Bw (LC t1 _ _ r2) (by simp only[V.A1];exact⟨_,_,rfl,hy,rfl⟩)) (LC t1 _ _ r3)
 refine⟨⟨.fn (.func W) Y.toArray,X.toArray++#[Value.func (.yield L) #[] #[]]⟩,z,W,(X++[Value.func (.yield L) #[] #[]]++Y).toArray,z,?_,λ_ _=>WD _ _,?_,λh=>(by rw[wN]at h;cases h),wM ?_⟩
 ·simp only[resolve,rangeCall,e1,Deferred.ofValue,Sem.run_pure]
  simp[Act.eval]
 ·simp only[invoke,Yn aa]
  congr 2;apply Array.ext';simp
 ·refine(h.run z k _ o1 ai K).mono λe H ⟨M,x,ap,t,y,o2,t2⟩=>?_
  cases e with
  |panicked ch=>cases M<;>first|exact t.elim|cases y
  |outgrown=>cases M<;>cases y
  |returned u=>
   cases M with
   |panic v=>cases y
   |ret v=>
    simp only[I8]at t;obtain⟨q,tg,af,G,al,t⟩:∃q tg af,AA x (fresh l)=some (.lp tg q af)/\q≠.busy/\(match q with
    |.ready=>Q .normal i (AG x (fresh l) .AY)
    |.ret=>Q .ret i (AG x (fresh l) .AY)
    |.exit n=>Q (.exit n) i (AG x (fresh l) .AY)
    |.busy=>False):=by
     unfold QE at t;split at t
     next G=>exact⟨_,_,_,G,by simp,t⟩
     next G=>exact⟨_,_,_,G,by simp,t⟩
     next G=>exact⟨_,_,_,G,by simp,t⟩
     ·cases t
    obtain⟨b,fn,tm,T,qs,O,R,g1,g2,g3,g4⟩:=o2.BU _ _ G;obtain⟨o',p1,p2⟩:=t2.same _ _ Z;have ah:b=L:=by
     rw[g1]at p1;simp only[Bu]at p1;subst p1;cases p2 with
     |refl=>rfl
    subst ah;have ab:(Instr.endLoop b).run P.p H=.ok q.DS (EB H b (.loop {state:=.exhausted,pending:=q.DS,fn:=fn,tmps:=tm,params:=qs,assign:=O,body:=R,defers:=T})):=by
     have ac:(Instr.getLoop b).run P.p H=.ok {state:=q.st,pending:=q.DS,fn:=fn,tmps:=tm,params:=qs,assign:=O,body:=R,defers:=T} H:=by
      simp[Instr.getLoop,getObj,Sem.run,g2]
     have ak:(q.st==LoopState.busy)=false:=by cases q<;>first|exact absurd rfl al|rfl
     have ad:=Jf (P:=P.p) (o:=.loop {state:=.exhausted,pending:=q.DS,fn:=fn,tmps:=tm,params:=qs,assign:=O,body:=R,defers:=T}) H g2 rfl;simp only[Instr.endLoop,Sem.run_bind,ac,Result.andThen_ok,ak,BF,Ci,ad,Sem.run_pure]
    obtain⟨t3,o3,_⟩:=UE (w2:=EB H b (.loop {state:=.exhausted,pending:=q.DS,fn:=fn,tmps:=tm,params:=qs,assign:=O,body:=R,defers:=T})) o2 ⟨_,G⟩ (Vh ..) (λj hj=>Zp H _ (λe=>hj _ g1 (by simp[RO.blk?,e]))) rfl rfl rfl (BV _);have t4:=(t1.trans t2).trans t3;have m4:C3 c xo (ap.BS (fresh l) .AY) i (AG x (fresh l) .AY) {a with defers:=[G0 D]++a.defers} (EB H b (.loop {state:=.exhausted,pending:=q.DS,fn:=fn,tmps:=tm,params:=qs,assign:=O,body:=R,defers:=T})):=by
     refine⟨m.base.tr t4,o3,m.sm.tr t4,m.size,?_,t4.xo.trans m.xo,t4.gl.trans m.gl⟩;obtain⟨ms,q1,q2,q3,q4⟩:=m.df.tr t4;have t5:=t2.trans t3;refine⟨D::ms,by simp[q1,G0],λh=>(by rw[aj]at h;cases h),List.nodup_cons.2 ⟨λhm=>?_,q3⟩,λr y=>?_⟩
     ·obtain⟨ae,an,_,_,ao⟩:=m.df
      have:ms.map G0++c.df=ae.map G0++c.df:=q1.symm.trans an;have h2:=List.append_cancel_right this;have h3:G0 D∈ae.map G0:=by rw[<-h2];exact List.mem_map_of_mem hm
      obtain⟨r,y,e⟩:=C9.1 h3;have:r=D:=by simpa[G0]using e
      subst this;have:=Xi (ao r y).2.1;omega
     ·rcases DA.1 y with rfl|y
      ·exact⟨N.1,(t5.keep _ N.2.2 (Xi N.2.1)).trans N.2.1,λh=>(t5.Cs _ h).elim N.2.2 (λh=>by have:=Xi N.2.1;omega)⟩
      ·exact q4 r y
    refine⟨q.DS,_,ab,?_⟩;cases q with
    |ready=>exact⟨.normal,i,_,_,t,trivial,m4⟩
    |busy=>cases t
    |ret=>exact wpIn_ret ⟨.ret,i,_,_,t,trivial,m4⟩
    |exit n=>exact wpIn_exit ⟨.exit n,i,_,_,t,rfl,m4⟩
def X7b{P:Az}{c:Di}(Y:P.g=c.g)(R:c.OY=true){xo:Nat->Prop}{f:Operand}{H:Array Nat}{z F:Code}{s:Nat}{Z:List Nat}{g:A}{x y:S}{b:List Nat}{Q:Yt}{U:Xb}{r:AB}{q:A0}{a:Act}{w:World}
 (hc:(A.Aa f g&&((H.toList==Z)&&Z.all (λk=>decide (k<c.N))&&S.Aa P.p c.N z x&&S.Aa P.p c.N F y&&x.DC&&y.DC))=true)
 (h:Co P (.E4 s Z g x y b) Q U r) (m:C3 c xo q U r a w):(Code.rangeFunc f H z F).wpIn (GB none) 0 P.p (AZ c xo Q) a w:=by
 simp only[Co]at h;obtain⟨hL,G⟩:=h;rw[As]at hc;obtain⟨h1,h2⟩:=hc;refine wpIn_rangeFunc λfn _=>?_;have v:=A.Av m.sm h1;let D:=w.heap.size;let e:=EE w (.deferred (some []));let L:=e.heap.size;let K:Loop:={state:=.ready,pending:=none,fn:=fn,tmps:=a.tmps,params:=H,assign:=z,body:=F,defers:=D}
 have t0:Tr w q e q:=(Zj w _).tr;have o0:OM e q r:=m.om.ext (Zj w _);have t1:=Yul o0 (.loop K);have M:w.heap.size<e.heap.size:=by show w.heap.size<(w.heap.push _).size;simp
 have hx:Qh (EE e (.loop K)) (q.BS (fresh r) (.map e.heap.size)) (fresh r) (.lp s .ready (Xj U b)):=by
  refine⟨L,fn,a.tmps,D,H,z,F,by simp[A0.BS,L],Zt _ _,?_,λp hp=>?_⟩
  ·show q.gl.l s H a.tmps.size z F
   rw[m.gl,<-Y,m.size];exact(hL H c.N z F).2 h2
  ·rw[xL hp]
   exact Gg (t0.trans t1) (m.sm p.1)
 obtain⟨_,o1,_⟩:=bA o0 (.loop K) (.lp s .ready (Xj U b)) hx;have t:(Instr.enterLoop fn a.tmps H z F (GB none).round).run P.p w=.ok (L,[G0 D]) (EE e (.loop K)):=by
  simp only[Instr.enterLoop,wO,Sem.run_bind,run_newObj,Result.andThen_ok,Sem.run_pure];rfl
 have T:¬Eg q D:=λ⟨i,o,n,u⟩=>by have:=Uf m.om n u;omega
 have hD:c.w0.heap.size<=D/\(EE e (.loop K)).heap[D]? = some (.deferred (some []))/\¬Eg (q.BS (fresh r) (.map e.heap.size)) D:=by
  refine⟨m.base.size,?_,λ⟨i,o,n,u⟩=>?_⟩
  ·have:(EE e (.loop K)).heap[D]? = e.heap[D]?:=Xz7 e _ M
   rw[this];exact Zt _ _
  ·simp only[A0.BS]at n
   split at n
   ·cases n;simp[RO.blk?]at u;omega
   ·exact T ⟨i,o,n,u⟩
 have mk:C3 c xo q (Xj U b) r a w:=⟨m.base,m.om,m.sm.keep b,m.size,m.df,m.xo,m.gl⟩
 have O:(q.BS (fresh r) (.map e.heap.size)).m (fresh r)=some (.map L):=by simp[A0.BS,L]
 unfold MI at G;split at G
 ·rename_i fk fi cc W
  rw[W,Me]at v;obtain⟨fs,gs,v,r2,r3⟩:=v;obtain⟨d,J,X,j,w2,n,u,q3,q4,q5⟩:=tt Y R mk G.1 G.2 v r2 r3 (t0.trans t1) o1 O hD (BV _);exact⟨L,[G0 D],_,d,J,X,j,w2,t,n,u,q3,q4,q5⟩
 ·rename_i fk fi cc W
  rw[W,R4]at v;obtain⟨fs,gs,v,r2,r3⟩:=v;obtain⟨d,J,X,j,w2,n,u,q3,q4,q5⟩:=tt Y R mk G.1 G.2 v r2 r3 (t0.trans t1) o1 O hD (BV _);exact⟨L,[G0 D],_,d,J,X,j,w2,t,n,u,q3,q4,q5⟩
 ·cases G
def uf{a:Array Oper}(h:VT a=true):∀o∈a.toList,∀c,o.op≠.defer c:=λo b c e=>by
 have:=DQ.1 h o b;simp[e]at this
def Yyt{a b:Bool}{p:Prop}(h:(a&&b)=true\/p):a=true\/p:=h.imp (λh=>(by simp at h;exact h.1)) id
def Yyu{a b:Bool}{p:Prop}(h:(a&&b)=true\/p):b=true\/p:=h.imp (λh=>(by simp at h;exact h.2)) id
def Yc{P:Az}(hm:P.p.follows .mixedOrders=true){c:Di}(Y:P.g=c.g){xo:Nat->Prop}{rd:Option Nat}:∀(af:Code)(s:S)(Q:Yt)(H:Xb)(r:AB)(F:A0)(a:Act)(w:World),
 S.Aa P.p c.N af s=true->(s.DC=true\/(c.OY=true/\rd=none))->Co P s Q H r->C3 c xo F H r a w->af.wpIn (GB rd) 0 P.p (AZ c xo Q) a w
|.skip,s,Q,H,r,F,a,w,b,R,h,m=>by
 cases s<;>simp[S.Aa]at b;exact wpIn_skip ⟨.normal,H,r,F,h,trivial,m⟩
|.region id X al,s,Q,H,r,F,a,w,b,R,h,m=>by
 cases s<;>simp only[S.Aa,BF]at b
 case E3 n t keep pk=>
  simp only[Co]at h;simp only[As]at b;obtain⟨⟨⟨⟨⟨W,aw⟩,O⟩,ad⟩,ai⟩,ab⟩:=b;have W:=uf W;subst aw;have O:n<=X.size:=by simpa using O
  let Q':Exit->Act->World->Prop:=λe a w=>match e with
  |.panic ch=>Ng c xo pk Q ch a w
  |e=>AZ c xo Q e a w
  have Z:Bv w {w with drawn:=w.drawn+1}:=Om w _;have ak:=Wh (Q:=Q') (QP:=Q) (K:=λH r=>Q .normal (Xj H keep) r) Y ad ai
   (λH r F a w hk m=>(⟨.normal,_,r,F,hk,trivial,m.base,m.om,m.sm.keep keep,m.size,m.df,m.xo,m.gl⟩:AZ c xo Q .normal a w))
   (λch a w=>Iff.rfl) n t (λ_=>False) (Array.replicate X.size false) H r F a {w with drawn:=w.drawn+1} (λ_ h=>h.elim) ab
   (λk o _ hl=>by
    rcases FP k X.size with h'|h'
    ·simp[h']at hl
    ·simp[h']at hl) h ⟨m.base.tr Z.tr,m.om.ext Z,m.sm.tr Z.tr,m.size,m.df.tr Z.tr,m.xo,m.gl⟩
  have aa:=dc _ _ _ _ ak;refine wpIn_mono (wpIn_region_any hm (yK W _ _ _ _ (dO _ _ _ _ _ O aa))) (λe a' w' L=>?_);cases e with
  |panic ch=>
   obtain⟨v,J,z,q,u,h1,h2,h3,T⟩:=L;exact⟨.panic v,_,z,q,h1,⟨u,h2,h3⟩,T⟩
  |_=>exact L
 rename_i ap l keep pk;simp only[Co]at h;rw[As]at b;obtain⟨W,b⟩:=b;have W:=uf W;cases al with
 |false=>
  simp only[BF,Ci]at b;refine wpIn_region_list (de _ W _ _ (dY (c:=c) (xo:=xo) Y (λH r F a w hk m=>?_) (λv H r F a w u hk m hr=>?_) X.toList l H r F a w b h m))
  ·exact⟨.normal,_,r,F,hk,trivial,m.base,m.om,m.sm.keep keep,m.size,m.df,m.xo,m.gl⟩
  ·exact⟨.panic v,_,r,F,hk,⟨u,rfl,hr⟩,m.base,m.om,m.sm.keep pk,m.size,m.df,m.xo,m.gl⟩
 |true=>
  simp only[Cz,As]at b;obtain⟨⟨⟨O,ad⟩,ai⟩,ab⟩:=b;have O:ap.length<=X.size:=by simpa using O
  let Q':Exit->Act->World->Prop:=λe a w=>match e with
  |.panic ch=>Ng c xo pk Q ch a w
  |e=>AZ c xo Q e a w
  have Z:Bv w {w with drawn:=w.drawn+1}:=Om w _;have ak:=Zg (Q:=Q') (QP:=Q) (K:=λH r=>Q .normal (Xj H keep) r) Y ad ai
   (λH r F a w hk m=>(⟨.normal,_,r,F,hk,trivial,m.base,m.om,m.sm.keep keep,m.size,m.df,m.xo,m.gl⟩:AZ c xo Q .normal a w))
   (λch a w=>Iff.rfl) ap l (λ_=>False) (Array.replicate X.size false) H r F a {w with drawn:=w.drawn+1} (λ_ h=>h.elim) ab
   (λk o _ hl=>by
    rcases FP k X.size with h'|h'
    ·simp[h']at hl
    ·simp[h']at hl) h ⟨m.base.tr Z.tr,m.om.ext Z,m.sm.tr Z.tr,m.size,m.df.tr Z.tr,m.xo,m.gl⟩
  have aa:=dc _ _ _ _ ak;refine wpIn_mono (wpIn_region_any hm (yK W _ _ _ _ (dO _ _ _ _ _ O aa))) (λe a' w' L=>?_);cases e with
  |panic ch=>
   obtain⟨v,J,z,q,u,h1,h2,h3,T⟩:=L;exact⟨.panic v,_,z,q,h1,⟨u,h2,h3⟩,T⟩
  |_=>exact L
|.seq x y,s,Q,H,r,F,a,w,b,R,h,m=>by
 cases s<;>simp[S.Aa]at b;simp only[Co]at h;refine wpIn_seq (wpIn_mono (Yc hm Y x _ _ H r F a w b.1 (Yyt R) h m) ?_);rintro e a' w' ⟨ae,J,z,q,U,L,T⟩;cases ae with
 |normal=>
  cases e<;>simp only[DY]at L;exact Yc hm Y y _ Q J z q a' w' b.2 (Yyu R) U T
 |exit n=>
  cases e<;>simp only[DY]at L;exact⟨.exit n,J,z,q,U,L,T⟩
 |ret=>
  cases e<;>simp only[DY]at L;exact⟨.ret,J,z,q,U,trivial,T⟩
 |panic v=>
  cases e<;>simp only[DY]at L;exact⟨.panic v,J,z,q,U,L,T⟩
|.cond d x y,s,Q,H,r,F,a,w,b,R,h,m=>by
 cases s<;>simp[S.Aa]at b;obtain⟨⟨h1,h2⟩,h3⟩:=b;simp only[Co]at h;have r1:=A.Av m.sm h1;unfold Hf at h;split at h
 ·rename_i t e
  rw[e,BI]at r1;exact wpIn_cond_split r1 (λht=>Yc hm Y x _ Q H r F a w h2 (Yyt R) (h.1 ht) m) (λht=>Yc hm Y y _ Q H r F a w h3 (Yyu R) (h.2 ht) m)
 ·cases h
|.block n x,s,Q,H,r,F,a,w,b,R,h,m=>by
 cases s<;>simp[S.Aa]at b;obtain⟨rfl,h1⟩:=b;simp only[Co]at h;refine wpIn_block (wpIn_mono (Yc hm Y x _ _ H r F a w h1 R h m) ?_);rintro e a' w' ⟨ae,J,z,q,U,L,T⟩;cases ae with
 |normal=>
  cases e<;>simp only[DY]at L;exact⟨.normal,J,z,q,U,trivial,T⟩
 |exit k=>
  cases e<;>simp only[DY]at L;subst L;simp only[Yw]at U;simp only[Exit.inBlock];split
  next e=>rw[BL e]at U;exact⟨.normal,J,z,q,U,trivial,T⟩
  next e=>rw[Af e]at U;exact⟨.exit _,J,z,q,U,rfl,T⟩
 |ret=>
  cases e<;>simp only[DY]at L;exact⟨.ret,J,z,q,U,trivial,T⟩
 |panic v=>
  cases e<;>simp only[DY]at L;exact⟨.panic v,J,z,q,U,L,T⟩
|.loop x,s,Q,H,r,F,a,w,b,R,h,m=>by
 cases s<;>simp[S.Aa]at b;simp only[Co]at h;obtain⟨ι,St,Ot,I,μ,i0,a2,ax,ay,aj⟩:=h.run;let G:Act->World->Nat->Prop:=λa w n=>∃i F,I i/\μ i=n/\C3 c xo F (St i) (Ot i) a w;let M:Act->World->Nat:=λa w=>open Classical in if h:∃n,G a w n then Classical.choose (uj (p:=G a w) (Classical.choose h) (Classical.choose_spec h)) else 0
 have hM:∀a w n,G a w n->G a w (M a w)/\M a w<=n:=by
  intro a w n R;have ah:∃n,G a w n:=⟨n,R⟩
  have:=Classical.choose_spec (uj (p:=G a w) (Classical.choose ah) (Classical.choose_spec ah));simp only[M,ah,dif_pos];exact⟨this.1,this.2 n R⟩
 obtain⟨a6,t0,o0⟩:=ay w F m.om;replace m:=m.wk t0 o0;refine wpIn_loop (I:=λa w=>∃n,G a w n) (μ:=M) ⟨μ i0,i0,a6,a2,rfl,by rw[<-ax];exact⟨m.base,m.om,m.sm.keep _,m.size,m.df,m.xo,m.gl⟩⟩ ?_;rintro a1 w1 ⟨n,a0⟩;obtain⟨⟨i,aq,hi,a7,m1⟩,_⟩:=hM a1 w1 n a0;refine wpIn_mono (Yc hm Y x _ _ _ _ aq a1 w1 b R (aj i hi) m1) ?_;rintro e a' w' ⟨ae,J,z,q,U,L,T⟩;cases ae with
 |normal=>
  cases e<;>simp only[DY]at L;simp only[Wt]at U;obtain⟨ag,a8,a5,q1,q2,j,hj,an,av,au⟩:=U;obtain⟨ba,t2,o2⟩:=a5 w' q T.om;replace T:=T.wk t2 o2;have ac:∀id o,aq.m id=some o->AE (fresh (Ot i)) ag id=false:=λid o h0=>by
   obtain⟨x,Z⟩:=m1.om.D1 id o h0;have an:¬fresh (Ot i)<=id:=λa3=>by rw[Xu _ _ a3]at Z;cases Z
   simp[AE,an]
  have ao:∀id o,c.m0 id=some o->AE (fresh (Ot i)) ag id=false:=λid o h0=>by
   obtain⟨o',h1,_⟩:=m1.base.same id o h0;exact ac id o' h1
  have az:∀p∈c.ev,V.BJ (AE (fresh (Ot i)) ag) p.1=false:=λp hp=>ZL ac (m1.base.ext p hp);have Y:G a' w' (μ j):=⟨j,_,hj,rfl,by rw[<-av,<-au];exact T.sub ao az q1 q2⟩
  have:=hM a' w' _ Y;exact⟨⟨_,Y⟩,by omega⟩
 |exit k=>
  cases e<;>simp only[DY]at L;exact⟨.exit k,J,z,q,U,L,T⟩
 |ret=>
  cases e<;>simp only[DY]at L;exact⟨.ret,J,z,q,U,trivial,T⟩
 |panic v=>
  cases e<;>simp only[DY]at L;exact⟨.panic v,J,z,q,U,L,T⟩
|.exit n,s,Q,H,r,F,a,w,b,R,h,m=>by
 cases s<;>simp[S.Aa]at b;subst b;exact wpIn_exit ⟨.exit n,H,r,F,h,rfl,m⟩
|.ret,s,Q,H,r,F,a,w,b,R,h,m=>by
 cases s<;>simp[S.Aa]at b;exact wpIn_ret ⟨.ret,H,r,F,h,trivial,m⟩
|.rangeFunc f qs ca cb,s,Q,H,r,F,a,w,b,R,h,m=>by
 cases s<;>simp only[S.Aa,BF]at b;rename_i a9 ps g x y keep;obtain⟨a4,rfl⟩:c.OY=true/\rd=none:=R.resolve_left (by simp[S.DC]);exact X7b Y a4 b h m
|.scope _,s,Q,H,r,F,a,w,b,R,h,m=>by cases s<;>simp[S.Aa]at b
|.label _,s,Q,H,r,F,a,w,b,R,h,m=>by cases s<;>simp[S.Aa]at b
|.goto _,s,Q,H,r,F,a,w,b,R,h,m=>by cases s<;>simp[S.Aa]at b
|.refuse _,s,Q,H,r,F,a,w,b,R,h,m=>by cases s<;>simp[S.Aa]at b
structure ED(w w2:World):Prop where
 size:w2.heap.size=w.heap.size
 heap:∀b:Nat,w2.heap[b]? = w.heap[b]?\/∃x y,w.heap[b]? = some (Obj.deferred x)/\w2.heap[b]? = some (Obj.deferred y)
 tape:w2.tape=w.tape
 os:w2.os=w.os
 CO:w2.output=w.output
 drawn:w2.drawn=w.drawn
def ED.refl(w:World):ED w w:=⟨rfl,λ_=>.inl rfl,rfl,rfl,rfl,rfl⟩
def ED.trans{w f g:World}(h:ED w f)(a:ED f g):ED w g:=by
 refine⟨a.size.trans h.size,λb=>?_,a.tape.trans h.tape,a.os.trans h.os,a.CO.trans h.CO,a.drawn.trans h.drawn⟩;rcases h.heap b with d|⟨x,y,d,i⟩
 ·rcases a.heap b with c|⟨u,v,c,e⟩
  ·exact .inl (c.trans d)
  ·exact .inr ⟨u,v,d.symm.trans c,e⟩
 ·rcases a.heap b with c|⟨u,v,c,e⟩
  ·exact .inr ⟨x,y,d,c.trans i⟩
  ·exact .inr ⟨x,v,d,e⟩
section
variable {w w2:World} (s:ED w w2)
include s
theorem ED.keep{b:Nat}{o:Obj}(h:w.heap[b]? = some o)(c:∀x,o≠.deferred x):w2.heap[b]? = some o:=by
 rcases s.heap b with a|⟨x,y,a,_⟩
 ·exact a.trans h
 ·rw[h]at a;cases a;exact absurd rfl (c x)
theorem ED.cell{b o:Nat}{v:Value}(h:w.cell? ⟨b,o,none⟩=some v):w2.cell? ⟨b,o,none⟩=some v:=by
 rcases s.heap b with a|⟨x,y,a,_⟩
 ·rw[cell?_congr a];exact h
 ·simp[World.cell?,a]at h
theorem ED.cells{c:Nat->Prop}{a:Addr}{d:List Value}(h:CZ w c a d):CZ w2 c a d:=
 ⟨λb=>⟨(h.1 b).1,(h.1 b).2.1,by rw[s.size];exact(h.1 b).2.2⟩,λi e=>s.cell (h.2 i e)⟩
mutual
theorem D.CG{z:Nat->Prop}:∀(d:D)(c:List Value),d.An w z c->d.An w2 z c
|.int k n,c,h=>by simpa[D.An]using h
|.bool b,c,h=>by simpa[D.An]using h
|.AM s,c,h=>by simpa[D.An]using h
|.AT,c,h=>by simpa[D.An]using h
|.Bo,c,h=>by simpa[D.An]using h
|.B1,c,h=>by simpa[D.An]using h
|.Bl,c,h=>by simpa[D.An]using h
|.B0,c,h=>by simpa[D.An]using h
|.Bd x,c,h=>by
 simp only[D.An]at h⊢;obtain⟨a,j,e,H,g,i⟩:=h;exact⟨a,j,e,H,s.cells g,D.CG x j i⟩
|.iface t x,c,h=>by
 simp only[D.An]at h⊢;obtain⟨u,e,g⟩:=h;refine⟨u,e,?_⟩;rcases g with⟨p,o,q,r⟩|⟨p,r⟩
 ·exact .inl ⟨p,o,q,D.CG x o r⟩
 ·exact .inr ⟨p,D.CG x _ r⟩
|.fn f G F,c,h=>by
 simp only[D.An]at h⊢;obtain⟨v,y,e,g,i⟩:=h;exact⟨v,y,e,ZM G v g,ZM F y i⟩
|.agg m,c,h=>by
 simp only[D.An]at h⊢;exact Tm m c h
|.AF sz m,c,h=>by
 simp only[D.An]at h⊢;rcases h with h|⟨a,l,j,g,i,J,K,L⟩
 ·exact .inl h
 ·exact .inr ⟨a,l,j,g,i,s.cells J,Tm m j K,L⟩
theorem ZM{c:Nat->Prop}:∀(f:List D)(a:List Value),E6 w c f a->E6 w2 c f a
|[],a,h=>by simpa only[E6]using h
|x::r,a,h=>by
 simp only[E6]at h⊢;obtain⟨u,d,e,g,i⟩:=h;refine⟨u,d,e,?_,ZM r d i⟩;rcases g with⟨p,b,q,r⟩|⟨p,r⟩
 ·exact .inl ⟨p,b,q,D.CG x b r⟩
 ·exact .inr ⟨p,D.CG x _ r⟩
theorem Tm{d:Nat->Prop}:∀(f:List D)(c:List Value),Bb w d f c->Bb w2 d f c
|[],j,h=>by simpa only[Bb]using h
|x::r,j,h=>by
 simp only[Bb]at h⊢;obtain⟨a,b,e,g,i⟩:=h;exact⟨a,b,e,D.CG x a g,Tm r b i⟩
end
mutual
theorem MT{l:A0}:∀(x:V)(a:List Value),x.Ac w l a->x.Ac w2 l a
|.d x,a,h=>by simp only[V.Ac]at h⊢;exact D.CG s x a h
|.ptr _ _,a,h=>by simpa only[V.Ac]using h
|.sl _ _,a,h=>by simpa only[V.Ac]using h
|.sd _ _,a,h=>by simpa only[V.Ac]using h
|.mp _,a,h=>by simpa only[V.Ac]using h
|.hd _ _,a,h=>by simpa only[V.Ac]using h
|.ep _ _ _ _ _ _,a,h=>by simpa only[V.Ac]using h
|.bs _ _ _ _,a,h=>by simpa only[V.Ac]using h
|.fn f n m,a,h=>by
 simp only[V.Ac]at h⊢;obtain⟨i,j,e,b,o⟩:=h;exact⟨i,j,e,Tn n i b,Tn m j o⟩
|.agg c,a,h=>by simp only[V.Ac]at h⊢;exact ZN c a h
|.iface t x,a,h=>by
 simp only[V.Ac]at h⊢;obtain⟨u,e,b⟩:=h;refine⟨u,e,?_⟩;rcases b with b|⟨p,g,q,r⟩|⟨p,r⟩
 ·exact .inl b
 ·exact .inr (.inl ⟨p,g,q,MT x g r⟩)
 ·exact .inr (.inr ⟨p,MT x _ r⟩)
|.BE c,a,h=>by
 simp only[V.Ac]at h⊢;obtain⟨k,e,b⟩:=h;exact⟨k,e,Tn c k b⟩
|.undef,a,h=>by simpa only[V.Ac]using h
|.any,a,h=>by simpa only[V.Ac]using h
theorem ZN{f:A0}:∀(d:List V)(a:List Value),Br w f d a->Br w2 f d a
|[],a,h=>by simpa only[Br]using h
|x::r,a,h=>by
 simp only[Br]at h⊢;obtain⟨b,c,e,g,i⟩:=h;exact⟨b,c,e,MT x b g,ZN r c i⟩
theorem Tn{g:A0}:∀(f:List V)(a:List Value),V.A1 w g f a->V.A1 w2 g f a
|[],a,h=>by simpa only[V.A1]using h
|x::r,a,h=>by
 simp only[V.A1]at h⊢;obtain⟨u,d,e,b,i⟩:=h;refine⟨u,d,e,?_,Tn r d i⟩;rcases b with b|⟨p,c,q,r⟩|⟨p,r⟩
 ·exact .inl b
 ·exact .inr (.inl ⟨p,c,q,MT x c r⟩)
 ·exact .inr (.inr ⟨p,MT x _ r⟩)
end
theorem V.CG{b:A0}{x:V}{u:Value}(h:x.An w b u):x.An w2 b u:=by
 rcases h with c|⟨p,a,q,r⟩|⟨p,r⟩
 ·exact .inl c
 ·exact .inr (.inl ⟨p,a,q,MT s x a r⟩)
 ·exact .inr (.inr ⟨p,MT s x _ r⟩)
theorem X6.same{c:A0}:∀(l:List (D×V)) (b:List MapEntry),X6 w c l b->X6 w2 c l b
|[],b,h=>h
|(k,v)::r,b,h=>by
 obtain⟨e,a,d,f,g,i⟩:=h;exact⟨e,a,d,f,V.CG s g,X6.same r a i⟩
theorem Qh.same{q:A0}{id:Nat}{x:Ob}(h:Qh w q id x):Qh w2 q id x:=by
 cases x with
 |box E t=>
  obtain⟨b,g,a,c,d⟩:=h;exact⟨b,g,a,s.keep c (by simp),MT s _ _ d⟩
 |A9 E H L=>
  rcases h with k|⟨b,e,g,o,a,c,d,f⟩
  ·exact .inl k
  ·exact .inr ⟨b,e,g,o,a,s.keep c (by simp),Tm s _ _ d,f⟩
 |Ao E H L=>
  rcases h with k|⟨b,e,g,o,a,c,d,f⟩
  ·exact .inl k
  ·exact .inr ⟨b,e,g,o,a,s.keep c (by simp),ZN s _ _ d,f⟩
 |map M=>
  obtain⟨b,l,i,a,c,d,f⟩:=h;exact⟨b,l,i,a,s.keep c (by simp),X6.same s _ _ d,f⟩
 |lp J O N=>
  obtain⟨b,y,K,v,G,r,u,a,c,d,f⟩:=h;exact⟨b,y,K,v,G,r,u,a,s.keep c (by simp),d,λp z=>V.CG s (f p z)⟩
 |it m n seen=>
  cases m with
  |none=>obtain⟨b,a,c⟩:=h;exact⟨b,a,s.keep c (by simp)⟩
  |some j=>obtain⟨b,F,a,d,c⟩:=h;exact⟨b,F,a,d,s.keep c (by simp)⟩
 |AY=>exact h
theorem OM.same{c:A0}{d:AB}(h:OM w c d)(e:∀b o,c.gl b=some o->w2.heap[b]? = w.heap[b]?):OM w2 c d:=
 ⟨λid x f=>Qh.same s (h.BU id x f),h.D1,h.inj,λb a=>by rw[s.size];exact h.D7 b a,λb o a=>⟨(e b o a).trans (h.Dn b o a).1,(h.Dn b o a).2⟩,h.DT,h.CX⟩
theorem SM.same{c:A0}{b:Xb}{a:Act}(h:SM w c b a):SM w2 c b a:=λk=>V.CG s (h k)
end
def Ydv{P:Program}{w:World}{r:Nat}(h:w.heap[r]? = some (.deferred (some []))):
 (Instr.takeDeferred r).run P w=.ok [] (EB w r (.deferred none))/\ED w (EB w r (.deferred none))/\∀b,b≠r->(EB w r (.deferred none)).heap[b]? = w.heap[b]?:=by
 have a:(getObj r).run P w=.ok (.deferred (some [])) w:=by simp[getObj,Sem.run,h]
 have c:=Jf (P:=P) (o:=.deferred none) w h rfl;refine⟨by simp only[Instr.takeDeferred,Sem.run_bind,a,Result.andThen_ok,c,Sem.run_pure],⟨Vh ..,λb=>?_,rfl,rfl,rfl,rfl⟩,λb d=>Zp w _ (Ne.symm d)⟩;by_cases e:b=r
 ·subst e;exact .inr ⟨_,_,h,UA w _ (Xi h)⟩
 ·exact .inl (Zp w _ (Ne.symm e))
def Vv{F:Fence}{n:Nat}{P:Program}{g:Func}{a:Array Value}{R:Ending->World->Prop}:∀(d:List Nat)(w:World),d.Nodup->(∀r∈d,w.heap[r]? = some (.deferred (some [])))->
 (∀c,ED w c->(∀b,b∉d->c.heap[b]? = w.heap[b]?)->∃v,(results g a).run P c=.ok v c/\R (.returned v) c)->LeavesInM F n P g a R (d.map G0) .returning w
|[],w,_,_,h=>by
 simp only[HB,LeavesInM,LeavesIn];exact h w (ED.refl w) (λ_ _=>rfl)
|r::d,w,q,m,h=>by
 obtain⟨o,p,i⟩:=Ydv (P:=P) (m r (by simp));obtain⟨t,f⟩:=List.nodup_cons.1 q;simp only[Cg,LeavesInM];refine⟨by simp,.inl ⟨r,_,rfl,o,Vv d _ f (λj l=>?_) (λc s u=>?_)⟩⟩
 ·rw[i j (λe=>t (e▸l))];exact m j (by simp[l])
 ·exact h c (p.trans s) (λb k=>(u b (λe=>k (by simp[e]))).trans (i b (λe=>k (by simp[e]))))
inductive RV where
|t (k:Nat)
|c (k n:Nat) (ag:Bool)
def RV.Aa(P:Program):ResultVar->RV->Bool
|.tmp j,.t k=>j==k
|.cell a b,.c k n d=>a==k&&X7 P b==some n&&(P.underlying b).isSome&&F6 P b==d
|_,_=>false
def Qk(P:Program):List ResultVar->List RV->Bool
|[],[]=>true
|x::r,y::s=>y.Aa P x&&Qk P r s
|_,_=>false
def RV.wp(a:Xb)(d:AB)(K:V->Prop):RV->Prop
|.t k=>K (Ay a k)
|.c k n b=>D4 d n b K (Ay a k)
def Va(b:Xb)(a:AB):List RV->(List V->Prop)->Prop
|[],K=>K []
|x::r,K=>x.wp b a λv=>Va b a r λc=>K (v::c)
def W8:List V->V
|[v]=>v
|a=>.BE a
def Vl(K:List D->AB->Prop):Option (List D×AB)->Prop
|some (l,a)=>K l a
|none=>False
def IF(e:List RV)(K:V->Prop):Yt
|.normal,b,a=>Va b a e λc=>Vl (λl _=>K (W8 (l.map .d))) (Da a c)
|.ret,b,a=>Va b a e λc=>Vl (λl _=>K (W8 (l.map .d))) (Da a c)
|.exit _,_,_=>False
|.panic _,_,_=>False
def NG(v:V)(b:AB)(K:V->AB->Prop):Option (D×AB)->Prop
|some (d,a)=>K (.d d) a
|none=>K v b
def FG:List V->AB->(List V->AB->Prop)->Prop
|[],b,K=>K [] b
|v::r,b,K=>NG v b (λd c=>FG r c λe a=>K (d::e) a) (DU b v)
def X0(n:Nat)(K:AB->Prop)(c:List V)(b:AB):Prop:=
 ∃a:List Nat,BO (AE n a) c=false/\AH (AE n a) (Xh (AE n a) b)=true/\K (Xh (AE n a) b)
def Jh(n:Nat)(d:List RV)(K:A7->AB->Prop):Yt
|.normal,c,a=>Va c a d λb=>FG b a λb a=>X0 n (K (.ret (W8 b))) b a
|.ret,c,a=>Va c a d λb=>FG b a λb a=>X0 n (K (.ret (W8 b))) b a
|.panic v,_,a=>X0 n (K (.panic v)) [v] a
|.exit _,_,_=>False
def Uo(k:Nat):List V->Xb
|[]=>[]
|v::r=>(k,v)::Uo (k+1) r
def Hh(P:Program)(f n:Nat)(s:S)(c:List RV):Bool:=match P.funcs[f]? with
|some b=>match b.body with
 |some a=>decide (n<=b.ntmps)&&S.Aa P b.ntmps a s&&Qk P b.results.toList c
 |none=>false
|none=>false
def Xr(P:Program)(f n:Nat)(s:S)(a:List RV):Bool:=Hh P f n s a&&s.DC
section
variable {P:Program} {w:World} {ρ:A0}
def PG(a:Act)(r:ResultVar):Sem Value:=match r with
|.tmp t=>pure (a.tmps.getD t undef)
|.cell x t=>do loadVar t (<-asAddr (a.tmps.getD x undef))
def xl{a:Act}{q:Xb}{o:AB}(m:SM w ρ q a)(F:OM w ρ o):∀(H:List ResultVar)(G:List RV)(K:List V->Prop),Qk P H G=true->Va q o G K->
 ∃d f,K d/\V.A1 w ρ d f/\(H.mapM (PG a)).run P w=.ok f w
|[],[],K,_,h=>⟨[],[],h,by simp[V.A1],by simp⟩
|x::r,y::s,K,b,h=>by
 simp only[Qk,As]at b;simp only[Va]at h;have BU:∃v u,Va q o s (λd=>K (v::d))/\v.An w ρ u/\(PG a x).run P w=.ok u w:=by
  cases x with
  |tmp t=>
   cases y with
   |t k=>simp[RV.Aa]at b;obtain⟨rfl,_⟩:=b;exact⟨_,_,h,m t,by simp[PG]⟩
   |c k n ag=>simp[RV.Aa]at b
  |cell z t=>
   cases y with
   |t k=>simp[RV.Aa]at b
   |c k n ag=>
    simp only[RV.Aa,As,CT]at b;obtain⟨⟨⟨⟨rfl,i⟩,j⟩,l⟩,_⟩:=b;simp only[RV.wp]at h;obtain⟨v,y,M,N,e⟩:=Rx (P:=P) (a:=a) (n:=n) (ag:=ag) (x:=.t z) (op:=.load t (.tmp z)) m F (by simp[C.Aa,i,j,l,A.Aa]) (by simpa[A.ev]using h);refine⟨y,v,M,N,?_⟩
    have:=e ⟨none,.load t (.tmp z),0, "", #[],none⟩ rfl w (λ_=>Bv.refl w)
    simp only[execOp,Act.eval,Sem.run_bind,Instr.loadAt]at this;simp only[PG,Sem.run_bind];generalize R:a.tmps.getD z undef=O at *;cases O with
    |pointer g=>
     cases g with
     |none=>simp[Instr.sureAddr]at this
     |some g=>
      simp only[Instr.sureAddr,Sem.run_pure,Result.andThen_ok]at this;simp only[asAddr,Sem.run_pure,Result.andThen_ok];revert this;generalize (loadVar t g).run P w=p;intro this;cases p with
      |ok x Q=>simp at this;obtain⟨rfl,rfl⟩:=this;rfl
      |halt x Q=>simp at this
    |_=>simp[Instr.sureAddr]at this
 obtain⟨v,u,i,j,l⟩:=BU;obtain⟨d,f,k,J,L⟩:=xl m F r s _ b.2 i;refine⟨v::d,u::f,k,?_,?_⟩
 ·simp only[V.A1];exact⟨u,f,rfl,j,J⟩
 ·simp only[List.mapM_cons,Sem.run_bind,l,Result.andThen_ok,L,Sem.run_pure]
|[],_::_,_,b,_=>by simp[Qk]at b
|_::_,[],_,b,_=>by simp[Qk]at b
def IP:List Value->Value
|[u]=>u
|a=>.tuple a.toArray
def Wc{fn:Func}{a:Act}{f:Xb}{d:AB}{e:List RV}{K:List V->Prop}(o:SM w ρ f a)(m:OM w ρ d)(n:Qk P fn.results.toList e=true)(h:Va f d e K):
 ∃b c,K b/\V.A1 w ρ b c/\(results fn a.tmps).run P w=.ok (IP c) w:=by
 obtain⟨b,c,k,g,i⟩:=xl (P:=P) o m _ _ _ n h;refine⟨b,c,k,g,?_⟩;have j:(fn.results.mapM (PG a)).run P w=.ok c.toArray w:=by
  rw[Array.mapM_eq_mapM_toList];simp only[Sem.run_map,i,Result.andThen_ok]
 have l:results fn a.tmps=(fn.results.mapM (PG a) >>= λb=>pure (if h:b.size=1 then b[0] else .tuple b)):=rfl;rw[l,Sem.run_bind];simp only[j,Result.andThen_ok,Sem.run_pure];congr 1;cases c with
 |nil=>simp[IP]
 |cons u r=>
  cases r with
  |nil=>simp[IP]
  |cons q p=>simp[IP]
def Uh{c:List V}{e:List Value}(h:V.A1 w ρ c e):(W8 c).An w ρ (IP e):=by
 cases c with
 |nil=>
  simp only[V.A1]at h;subst h;rw[show W8 []=.BE [] from rfl,CJ];exact⟨[],rfl,by simp[V.A1]⟩
 |cons v r=>
  simp only[V.A1]at h;obtain⟨u,k,rfl,d,a⟩:=h;cases r with
  |nil=>simp only[V.A1]at a;subst a;exact d
  |cons m l=>
   have f:=a;simp only[V.A1]at a;obtain⟨j,b,rfl,g,i⟩:=a;show(V.BE _).An w ρ _;rw[CJ];refine⟨_,rfl,?_⟩;simp only[V.A1];exact⟨u,_,rfl,d,j,b,rfl,g,i⟩
def dW:∀(s:List V)(i:List Value){ρ:A0}{g a:AB}{l:List D},OM w ρ g->V.A1 w ρ s i->Da g s=some (l,a)->∃c,Tr w ρ w c/\OM w c a/\V.A1 w c (l.map .d) i
|[],i,ρ,g,a,l,j,h,e=>by
 simp only[Da,Bu,Fh]at e;obtain⟨rfl,rfl⟩:=e;exact⟨ρ,Tr.refl _ _,j,by simpa only[HB,V.A1]using h⟩
|x::r,i,ρ,g,a,l,j,h,e=>by
 simp only[Da]at e;simp only[V.A1]at h;obtain⟨u,f,rfl,t,v⟩:=h;split at e
 ·rename_i K m y;obtain⟨J,o,F,z⟩:=UD j (u:=u) t y;cases b:Da m r with
  |none=>simp[b,Uq]at e
  |some q=>
   obtain⟨L,H⟩:=q;simp only[b,Uq,Bu,Fh]at e;obtain⟨rfl,rfl⟩:=e;obtain⟨n,p,G,k⟩:=dW r f F (LC o _ _ v) b;exact⟨n,o.trans p,G,by simp only[Cg,V.A1];exact⟨u,f,rfl,Gg p z,k⟩⟩
 ·cases e
def T5:∀(v:List V)(i:List Value){ρ:A0}{f:AB}{K:List V->AB->Prop},OM w ρ f->V.A1 w ρ v i->FG v f K->∃d b a,K d b/\Tr w ρ w a/\OM w a b/\V.A1 w a d i
|[],i,ρ,f,K,g,h,e=>by
 simp only[FG]at e;exact⟨[],f,ρ,e,Tr.refl _ _,g,h⟩
|x::r,i,ρ,f,K,g,h,e=>by
 simp only[FG]at e;simp only[V.A1]at h;obtain⟨u,c,rfl,n,p⟩:=h;cases j:DU f x with
 |none=>
  simp only[j,NG]at e;obtain⟨d,b,a,k,t,o,l⟩:=T5 r c g p e;exact⟨_,b,a,k,t,o,by simp only[V.A1];exact⟨u,c,rfl,Gg (u:=u) t n,l⟩⟩
 |some q=>
  obtain⟨G,z⟩:=q;simp only[j,NG]at e;obtain⟨F,s,y,l⟩:=UD g (u:=u) n j;obtain⟨d,b,a,k,t,o,m⟩:=T5 r c y (LC s _ _ p) e;exact⟨_,b,a,k,s.trans t,o,by simp only[V.A1];exact⟨u,c,rfl,Gg t l,m⟩⟩
def Up{b:List V}{a:List Value}(h:V.A1 w ρ b a):∀(k:Nat)(t:Array Value),(∀i (c:i<a.length),t.getD (k+i) undef=a[i])->∀j,(Ay (Uo k b) j).An w ρ (t.getD j undef):=by
 induction b generalizing a with
 |nil=>intro k t _ j;exact Qy
 |cons v r l=>
  simp only[V.A1]at h;obtain⟨u,m,rfl,f,g⟩:=h;intro k t d j;simp only[Uo,Ay];split
  next e=>subst e;have:=d 0 (by simp);simp only[Nat.add_zero,List.getElem_cons_zero]at this;rw[this];exact f
  ·refine l g (k+1) t (λi c=>?_) j;have:=d (i+1) (by simpa using c);simp only[List.getElem_cons_succ]at this;rw[<-this];congr 1;omega
def Qi{c:A0}(i:F0 w (B2 ρ) w (B2 c)):∀(j:List V)(a:List Value)(f:List D),j=f.map .d->V.A1 w ρ j a->V.A1 w c j a
|[],a,f,_,h=>by simpa[V.A1]using h
|v::r,a,[],e,h=>by simp at e
|v::r,a,d::f,e,h=>by
 simp only[Cg,HY]at e;obtain⟨rfl,e⟩:=e;simp only[V.A1]at h⊢;obtain⟨u,b,rfl,g,k⟩:=h;refine⟨u,b,rfl,?_,Qi i r b f e k⟩;rcases g with g|⟨p,x,q,r⟩|⟨p,r⟩
 ·cases g
 ·exact .inr (.inl ⟨p,x,q,by simp only[V.Ac]at r⊢;exact HV i d x r⟩)
 ·exact .inr (.inr ⟨p,by simp only[V.Ac]at r⊢;exact HV i d _ r⟩)
def Yr:∀{b:List V}{a:List Value},V.A1 w ρ b a->a.length=b.length
|[],a,h=>by simp[V.A1]at h;simp[h]
|v::r,a,h=>by
 simp only[V.A1]at h;obtain⟨u,d,rfl,_,c⟩:=h;simp[Yr c]
def J6{P:Az}(X:P.p.follows .mixedOrders=true){f:Nat}{s:S}{rs:List RV}{O:List D}{ai:AB}{K:V->Prop}(J:Hh P.p f O.length s rs=true)
 (h:Co P s (IF rs K) (Uo 0 (O.map .d)) []):AU P f (O.map .d) ai K:=by
 unfold Hh at J;split at J
 ·rename_i fn hf;split at J
  ·rename_i T k;simp only[As,Bs]at J;obtain⟨⟨hn,G⟩,H⟩:=J;refine⟨λw ρ t U hg hr=>callsIn_wide.1 (callsIn_of_wp_marks (n:=0) hf k trivial ?_)⟩;let z:A0:=⟨λ_=>none,B2 ρ,ρ.gl⟩
   let c:Di:=⟨w,λ_=>False,fn.ntmps,[],P.g,λ_=>none,[],true⟩
   have a:∀b,¬Eg z b:=λb ⟨_,_,h,_⟩=>by cases h
   have ad:∀b,B2 ρ b->b<w.heap.size:=λb h=>h.elim (λ⟨_,_,G,H⟩=>Uf U G H) (U.D7 b);have mo:F0 w (B2 ρ) w (B2 z):=λb G _=>⟨rfl,λH=>H.elim (a b) G⟩;have af:=Qi mo _ _ O rfl hr;have al:t.length=O.length:=by simpa using Yr hr
   have m:C3 c (B2 ρ) z (Uo 0 (O.map .d)) [] {tmps:=t.toArray++Array.replicate (fn.ntmps-t.toArray.size) undef,defers:=[] } w:=by
    refine⟨⟨BV _,λ_ _ _=>rfl,λb h=>absurd h (a b),rfl,rfl,rfl,(λid o h=>by cases h),(λp hp=>by cases hp),BV _⟩,⟨λj x hx=>(by simp[AA]at hx),λj o hj=>(by cases hj),λi j o p b hi=>(by cases hi),λb k=>ad b k,λb o k=>⟨(U.Dn b o k).1,λh=>h.elim (a b) (U.Dn b o k).2⟩,λb k=>absurd k (a b),trivial⟩,?_,?_,EZ.nil,rfl,hg⟩
    ·refine Up af 0 _ (λi hi=>?_);simp[LI,hi]
    ·simp[c];omega
   refine wpIn_mono (Yc (rd:=none) X rfl T s _ _ _ z _ w G (.inr ⟨rfl,rfl⟩) h m) ?_;rintro e a' R ⟨ae,aj,N,ab,Q,he,y⟩;have F:Va aj N rs (λvs=>Vl (λl _=>K (W8 (l.map .d))) (Da N vs))->LeavesInM Fence.wide 0 P.p fn a'.tmps (λe R=>∃v u,K v/\e=.returned u/\v.An R ρ u/\Bv w R) a'.defers .returning R:=by
    intro Q;obtain⟨ms,q1,_,q3,q4⟩:=y.df;have q1:a'.defers=ms.map G0:=by rw[q1];simp[c]
    rw[q1];refine Vv ms R q3 (λr hr=>(q4 r hr).2.1) (λw2 sm hs=>?_);have ac:∀b o,ab.gl b=some o->w2.heap[b]? = R.heap[b]?:=λb o k=>hs b (λX=>by
     have h3:=(U.Dn b o (by rw[hg,<-show ab.gl=P.g from y.gl];exact k)).1;have:=(q4 b X).1;have:=Xi h3;show False;simp only[c]at *;omega)
    have aa:=OM.same sm y.om ac;obtain⟨vs,us,hk,Y,Z⟩:=Wc (P:=P.p) (fn:=fn) (SM.same sm y.sm) aa H Q;cases L:Da N vs with
    |none=>simp[L,Vl]at hk
    |some q=>
     obtain⟨l,an⟩:=q;simp only[L,Vl]at hk;obtain⟨ak,t2,o2,ag⟩:=dW vs us aa Y L;have ah:F0 w2 (B2 ak) w2 (B2 ρ):=λb G _=>⟨rfl,λH=>G (.inr (by rw[t2.xo,y.xo];exact H))⟩;have M:=Qi ah _ _ l rfl ag;have W:Bv w w2:=⟨by rw[sm.size];exact y.base.size,λb k=>(hs b (λX=>by have:=(q4 b X).1;simp only[c]at this;omega)).trans (y.base.keep b k (λh=>h)),sm.tape.trans y.base.tape,sm.os.trans y.base.os,sm.CO.trans y.base.CO,by rw[sm.drawn];exact y.base.drawn⟩
     exact⟨IP us,Z,W8 (l.map .d),IP us,hk,rfl,Uh M,W⟩
   cases ae with
   |normal=>
    cases e<;>simp only[DY]at he;exact F Q
   |ret=>
    cases e<;>simp only[DY]at he;exact F Q
   |exit n=>cases Q
   |panic v=>cases Q
  ·simp at J
 ·simp at J
def vR{P:Az}(g:P.p.follows .mixedOrders=true){f:Nat}{s:S}{e:List RV}{a:List D}{b:AB}{K:V->Prop}(c:Xr P.p f a.length s e=true)
 (h:Co P s (IF e K) (Uo 0 (a.map .d)) []):AU P f (a.map .d) b K:=by
 simp only[Xr,As]at c;exact J6 g c.1 h
def T9{a:Nat->Bool}{b:List V}{c:List Value}(d:BO a b=false)(h:V.A1 w ρ b c):V.A1 w (ρ.CB a) b c:=QJ b c d h
def Ob.Cx(a:Nat->Bool):Ob->Prop
|.box _ t=>V.BJ a t=false
|.Ao _ _ d=>BO a d=false
|.map b=>Ym a b=false
|.lp _ _ c=>Za a c=true
|.it m _ _=>dI a m=false
|_=>True
def Z1{b:Nat->Bool}:∀(c:AB),(∀e∈c,e.2.Cx b)->AH b c=true
|[],_=>rfl
|(j,.box E t)::r,h=>by
 simp only[AH,As,El];exact⟨h (j,.box E t) (by simp),Z1 r λe a=>h e (by simp[a])⟩
|(j,.Ao E z t)::r,h=>by
 simp only[AH,As,El];exact⟨h (j,.Ao E z t) (by simp),Z1 r λe a=>h e (by simp[a])⟩
|(j,.map t)::r,h=>by
 simp only[AH,As,El];exact⟨h (j,.map t) (by simp),Z1 r λe a=>h e (by simp[a])⟩
|(j,.A9 _ _ _)::r,h=>by simp only[AH];exact Z1 r λe a=>h e (by simp[a])
|(j,.AY)::r,h=>by simp only[AH];exact Z1 r λe a=>h e (by simp[a])
|(j,.lp f d t)::r,h=>by
 simp only[AH,As];exact⟨h (j,.lp f d t) (by simp),Z1 r λe a=>h e (by simp[a])⟩
|(j,.it m n t)::r,h=>by
 simp only[AH,As,El];exact⟨h (j,.it m n t) (by simp),Z1 r λe a=>h e (by simp[a])⟩
def Xn0{a:Nat->Bool}(d:∀id o,ρ.m id=some o->a id=false):∀(l:List (D×V)) (c:List MapEntry),X6 w ρ l c->Ym a l=false
|[],_,_=>rfl
|(k,v)::r,c,h=>by
 obtain⟨e,b,_,_,f,g⟩:=h;simp only[Ym,ZL d f,Xn0 d r b g,Bool.or_self]
def dy{a:Nat->Bool}:∀(b:Xb),(∀p∈b,V.BJ a p.2=false)->Za a b=true
|[],_=>rfl
|(j,v)::r,h=>by
 simp only[Za,As,El];exact⟨h (j,v) (by simp),dy r λp c=>h p (by simp[c])⟩
def Qh.Cx{d:Nat->Bool}(c:∀id o,ρ.m id=some o->d id=false){j:Nat}{x:Ob}(h:Qh w ρ j x):x.Cx d:=by
 cases x with
 |box E t=>obtain⟨b,g,_,_,a⟩:=h;exact MS c _ _ a
 |Ao E r u=>
  rcases h with⟨_,rfl⟩|⟨b,e,g,K,_,_,a,_⟩
  ·rfl
  ·exact ZK c _ _ a
 |map F=>obtain⟨b,l,f,_,_,a,_⟩:=h;exact Xn0 c _ _ a
 |A9 E r u=>trivial
 |AY=>trivial
 |lp s L q=>
  obtain⟨b,G,M,z,J,v,y,_,_,_,a⟩:=h;exact dy q λp k=>ZL c (a p k)
 |it m n seen=>
  cases m with
  |none=>rfl
  |some i=>
   obtain⟨b,H,_,a,_⟩:=h;rcases a with a|a<;>exact c _ _ a
def vI{P:Az}(hm:P.p.follows .mixedOrders=true){f:Nat}{s:S}{rs:List RV}{d:List V}{G:AB}{K:A7->AB->Prop}(k:Xr P.p f d.length s rs=true)
 (h:Co P s (Jh (fresh G) rs K) (Uo 0 d) G):AV P f d G K:=by
 simp only[Xr,As]at k;obtain⟨k,Y⟩:=k;unfold Hh at k;split at k
 ·rename_i fn hf;split at k
  ·rename_i M hb;simp only[As,Bs]at k;obtain⟨⟨hn,z⟩,U⟩:=k;refine⟨λw ρ j hO hg hr=>calls_of_wp hf hb ?_⟩;let c:Di:=⟨w,Eg ρ,fn.ntmps,[],P.g,ρ.m,[],false⟩
   have af:j.length=d.length:=by simpa using Yr hr
   have m:C3 c ρ.xo ρ (Uo 0 d) G {tmps:=j.toArray++Array.replicate (fn.ntmps-j.toArray.size) undef,defers:=[] } w:=by
    refine⟨⟨BV _,λ_ _ _=>rfl,λb h=>.inr h,rfl,rfl,rfl,λid o h=>⟨o,h,.refl o⟩,(λp hp=>by cases hp),BV _⟩,hO,?_,?_,EZ.nil,rfl,hg⟩
    ·refine Up hr 0 _ (λi hi=>?_);simp[LI,hi]
    ·simp[c];omega
   refine wp_mono (wpIn_wide.1 (Yc (rd:=none) hm rfl M s _ _ _ ρ _ w z (.inl Y) h m)) ?_;rintro e a' H ⟨ae,ab,r,ad,L,R,q⟩;have aa:∀l id o,ρ.m id=some o->AE (fresh G) l id=false:=λl id o h0=>by
    obtain⟨x,hx⟩:=hO.D1 id o h0;have X:¬fresh G<=id:=λW=>by rw[Xu _ _ W]at hx;cases hx
    simp[AE,X]
   have tr:∀{a:A0},Tr H ad H a->∀l,Tr w ρ H (a.CB (AE (fresh G) l)):=λ{a} t l=>by
    have y:=q.base.tr t;refine⟨y.size,λb z U=>y.keep b U z,λb z=>(y.Cs b (Zv z)).symm,?_,?_,λid o z=>?_,y.tape,y.os,y.CO,y.drawn⟩
    ·show a.xo=ρ.xo;rw[t.xo,q.xo]
    ·show a.gl=ρ.gl;rw[t.gl,q.gl,hg]
    ·obtain⟨o',h3,h4⟩:=y.same id o z;exact⟨o',by simp only[A0.CB,aa l id o z];exact h3,h4⟩
   have F:Va ab r rs (λd=>FG d r λd r=>X0 (fresh G) (K (.ret (W8 d))) d r)->a'.defers=[]/\∃v,(results fn a'.tmps).run P.p H=.ok v H/\∃Q J a,K Q J/\Wv H a (.returned v) Q/\OM H a J/\Tr w ρ H a:=by
    intro L;obtain⟨d,us,hk,N,O⟩:=Wc (P:=P.p) (fn:=fn) q.sm q.om U L;obtain⟨ac,J,a,⟨l,T,k2,k3⟩,t2,o2,Z⟩:=T5 d us q.om N hk;exact⟨q.df.eq rfl,IP us,O,.ret (W8 ac),_,_,k3,Uh (T9 T Z),o2.CB k2,tr t2 l⟩
   cases ae with
   |normal=>
    cases e<;>simp only[DY]at R;exact F L
   |ret=>
    cases e<;>simp only[DY]at R;exact F L
   |exit n=>cases L
   |panic v=>
    cases e<;>simp only[DY]at R;obtain⟨u,rfl,hu⟩:=R;obtain⟨l,T,k2,k3⟩:=L;simp only[BO,Bool.or_false]at T;exact⟨q.df.eq rfl,.panic v,_,_,k3,⟨u,rfl,MP T hu⟩,q.om.CB k2,tr (Tr.refl _ _) l⟩
  ·simp at k
 ·simp at k
def ZY(n:Nat)(b:List RV)(K:A7->AB->Prop):Yt
|.panic _,_,_=>False
|e,c,a=>Jh n b K e c a
def u3{P:Az}(N:P.p.follows .mixedOrders=true){f:Nat}{s:S}{rs:List RV}{l:List V}{F:AB}{K:A7->AB->Prop}(H:Hh P.p f l.length s rs=true)
 (h:Co P s (ZY (fresh F) rs K) (Uo 0 l) F):AV P f l F K:=by
 unfold Hh at H;split at H
 ·rename_i fn hf;split at H
  ·rename_i M hb;simp only[As,Bs]at H;obtain⟨⟨hn,u⟩,Y⟩:=H;refine⟨λw ρ q Z hg U=>callsIn_wide.1 (callsIn_of_wp_marks (n:=0) hf hb trivial ?_)⟩;let c:Di:=⟨w,Eg ρ,fn.ntmps,[],P.g,ρ.m,[],true⟩
   have ai:q.length=l.length:=by simpa using Yr U
   have m:C3 c ρ.xo ρ (Uo 0 l) F {tmps:=q.toArray++Array.replicate (fn.ntmps-q.toArray.size) undef,defers:=[] } w:=by
    refine⟨⟨BV _,λ_ _ _=>rfl,λb h=>.inr h,rfl,rfl,rfl,λid o h=>⟨o,h,.refl o⟩,(λp hp=>by cases hp),BV _⟩,Z,?_,?_,EZ.nil,rfl,hg⟩
    ·refine Up U 0 _ (λi hi=>?_);simp[LI,hi]
    ·simp[c];omega
   refine wpIn_mono (Yc (rd:=none) N rfl M s _ _ _ ρ _ w u (.inr ⟨rfl,rfl⟩) h m) ?_;rintro e X J ⟨ae,ag,d,j,L,he,a⟩;have af:∀z id o,ρ.m id=some o->AE (fresh F) z id=false:=λz id o h0=>by
    obtain⟨x,hx⟩:=Z.D1 id o h0;have ac:¬fresh F<=id:=λab=>by rw[Xu _ _ ab]at hx;cases hx
    simp[AE,ac]
   have y:Va ag d rs (λl=>FG l d λl d=>X0 (fresh F) (K (.ret (W8 l))) l d)->LeavesInM Fence.wide 0 P.p fn X.tmps (λe J=>∃T d j,K T d/\Wv J j e T/\OM J j d/\Tr w ρ J j) X.defers .returning J:=by
    intro L;obtain⟨ms,q1,_,q3,q4⟩:=a.df;have q1:X.defers=ms.map G0:=by rw[q1];simp[c]
    rw[q1];refine Vv ms J q3 (λr U=>(q4 r U).2.1) (λW sm hs=>?_);have aa:∀b o,j.gl b=some o->W.heap[b]? = J.heap[b]?:=λb o hb=>hs b (λN=>by
     have G:=(Z.Dn b o (by rw[hg,<-show j.gl=P.g from a.gl];exact hb)).1;have:=(q4 b N).1;have:=Xi G;show False;simp only[c]at *;omega)
    have R:=OM.same sm a.om aa;have tr:∀{k:A0},Tr W j W k->∀z,Tr w ρ W (k.CB (AE (fresh F) z)):=λ{k} t z=>by
     refine⟨by rw[sm.size];exact a.base.size,λb u Y=>(hs b (λN=>by have:=(q4 b N).1;simp only[c]at this;omega)).trans (a.base.keep b Y u),λb u=>?_,?_,?_,λid o u=>?_,sm.tape.trans a.base.tape,sm.os.trans a.base.os,sm.CO.trans a.base.CO,by rw[sm.drawn];exact a.base.drawn⟩
     ·rcases t.Cs b (Zv u) with G|G
      ·exact(a.base.Cs b G).symm
      ·exact .inr (FA (by rw[sm.size];exact a.base.size) G)
     ·show k.xo=ρ.xo;rw[t.xo,a.xo]
     ·show k.gl=ρ.gl;rw[t.gl,a.gl,hg]
     ·obtain⟨o1,G,h4⟩:=a.base.same id o u;obtain⟨o2,h5,h6⟩:=t.same id o1 G;exact⟨o2,by simp only[A0.CB,af z id o u];exact h5,h4.trans h6⟩
    obtain⟨l,us,hk,O,Q⟩:=Wc (P:=P.p) (fn:=fn) (SM.same sm a.sm) R Y L;obtain⟨ah,aj,k,⟨z,k1,k2,k3⟩,t2,o2,ad⟩:=T5 l us R O hk;exact⟨IP us,Q,.ret (W8 ah),_,_,k3,Uh (T9 k1 ad),o2.CB k2,tr t2 z⟩
   cases ae with
   |normal=>
    cases e<;>simp only[DY]at he;exact y L
   |ret=>
    cases e<;>simp only[DY]at he;exact y L
   |exit n=>cases L
   |panic v=>cases L
  ·simp at H
 ·simp at H
def AV.EM{P:Az}{f:Nat}{k:List V}{b:AB}{K:A7->AB->Prop}(h:(∀a,BO (AE (fresh b) a) k=false)->(∀a,AH (AE (fresh b) a) b=true)->AV P f k b K):AV P f k b K:=by
 refine⟨λw ρ c g r l=>?_⟩;have d:∀a id o,ρ.m id=some o->AE (fresh b) a id=false:=λa id o p=>by
  obtain⟨x,n⟩:=g.D1 id o p;have j:¬fresh b<=id:=λi=>by rw[Xu _ _ i]at n;cases n
  simp[AE,j]
 exact(h (λa=>Ou (d a) _ _ l) (λa=>Z1 b λe q=>(g.BU e.1 _ (g.CX.Ay e q)).Cx (d a))).run w ρ c g r l
def Yde{P:Az}{p:Program}(e:P.p=p)(i:p.follows .mixedOrders=true){f:Nat}{s:S}{c:List RV}{a:List D}{b:AB}{K:V->Prop}(g:Xr p f a.length s c=true)
 (h:Co P s (IF c K) (Uo 0 (a.map .d)) []):AU P f (a.map .d) b K:=by
 subst e;exact vR i g h
end
section
variable (P:Az) (K:V->Prop) (KO:V->AB->Prop) (Pn:V->AB->Prop) (Q:Yt) (next:Xb->AB->Prop) (sl:Xb) (ob:AB) (r:Xb) (ro:AB) (v v':V) (x y z:A) (k j n:Nat) (b c:Bool) (m m':Int) (kd kd':IntKind) (s s':List UInt8) (xs:List D) (vs:List V) (d:D)
@[simp]def gi:Ay ((k,v)::r) k=v:=by simp[Ay]
@[simp]def rm(h:(j==k)=false):Ay ((j,v)::r) k=Ay r k:=by simp at h;simp[Ay,h]
@[simp]def lookO_eq(o:Ob):AA ((k,o)::ro) k=some o:=by simp[AA]
@[simp]def lookO_ne(o:Ob)(h:(j==k)=false):AA ((j,o)::ro) k=AA ro k:=by simp at h;simp[AA,h]
@[simp]def setO_eq(o a:Ob):AG ((k,o)::ro) k a=(k,a)::ro:=by simp[AG]
@[simp]def setO_ne(o a:Ob)(h:(j==k)=false):AG ((j,o)::ro) k a=(j,o)::AG ro k a:=by simp at h;simp[AG,h]
@[simp]def put_some:put sl (some k) v=(k,v)::sl:=by simp only[put]
@[simp]def put_none:put sl none v=sl:=by simp only[put]
@[simp]def XK:A.ev sl (.t k)=Ay sl k:=by simp only[A.ev]
@[simp]def ev_int:A.ev sl (.int kd m)=.d (.int kd m):=by simp only[A.ev]
@[simp]def ev_bool:A.ev sl (.bool b)=.d (.bool b):=by simp only[A.ev]
@[simp]def ev_str:A.ev sl (.AM s)=.d (.AM s):=by simp only[A.ev]
@[simp]def ev_nils:A.ev sl .AT=.d .AT:=by simp only[A.ev]
@[simp]def ev_nili:A.ev sl .Bo=.d .Bo:=by simp only[A.ev]
@[simp]def ev_fn:A.ev sl (.fn k)=.fn k [] []:=by simp only[A.ev]
-- calm operations
@[simp]def wp_mv:C.wp sl ob K (.mv x)=K (x.ev sl):=by simp only[C.wp]
@[simp]def wp_pick:C.wp sl ob K (.pick x y z)=IE K (x.ev sl) (y.ev sl) (z.ev sl):=by simp only[C.wp]
@[simp]def Ypg:IE K (.d (.bool true)) v v'=K v:=by unfold IE;split<;>simp_all
@[simp]def Ypf:IE K (.d (.bool false)) v v'=K v':=by unfold IE;split<;>simp_all
@[simp]def pickK_b(a e:Bool):IE K (.d (.bool b)) (.d (.bool a)) (.d (.bool e))=K (.d (.bool (if b then a else e))):=by simp only[IE]
@[simp]def wp_not:C.wp sl ob K (.not x)=JU K (x.ev sl):=by simp only[C.wp]
@[simp]def notK_b:JU K (.d (.bool b))=K (.d (.bool (!b))):=by simp only[JU]
@[simp]def wp_cpl:C.wp sl ob K (.GA x)=Kv K (x.ev sl):=by simp only[C.wp]
@[simp]def wp_bin(a:BinOp):C.wp sl ob K (.Bc a x y)=Hq a K (x.ev sl) (y.ev sl):=by simp only[C.wp]
@[simp]def binK_i(a:BinOp):Hq a K (.d (.int kd m)) (.d (.int kd' m'))=Ht a kd kd' m m' K:=by simp only[Hq]
@[simp]def binK_s(a:BinOp):Hq a K (.d (.AM s)) (.d (.AM s'))=Iz a s s' K:=by simp only[Hq]
@[simp]def intK_shl:Ht .shl kd kd' m m' K=(0<=m'/\K (.d (.int kd (kd.wrap (m*2 ^ (min m'.toNat kd.bits)))))):=by simp[Ht]
@[simp]def intK_shr:Ht .shr kd kd' m m' K=(0<=m'/\K (.d (.int kd (m.fdiv (2 ^ (min m'.toNat kd.bits)))))):=by simp[Ht]
@[simp]def intK_neq:Ht .neq kd kd m m' K=K (.d (.bool (m != m'))):=by simp[Ht]
@[simp]def strK_eql:Iz .eql s s' K=K (.d (.bool (s==s'))):=by simp[Iz]
@[simp]def strK_neq:Iz .neq s s' K=K (.d (.bool (s != s'))):=by simp[Iz]
@[simp]def wp_isnil:C.wp sl ob K (.Cr b x)=Ud b K (x.ev sl):=by simp only[C.wp]
@[simp]def isnilK_n:Ud b K (.d .Bo)=K (.d (.bool b)):=by simp only[Ud]
@[simp]def isnilK_di:Ud b K (.d (.iface k d))=K (.d (.bool (!b))):=by simp only[Ud]
@[simp]def mkiV_d:JS k (.d d)=.d (.iface k d):=by simp only[JS]
@[simp]def mkiV_p(p:List Nat):JS k (.ptr j p)=.iface k (.ptr j p):=by simp only[JS]
@[simp]def mkfV_eq(a e:List V):Ms k a e=Lt k a e (Bt a) (Bt e):=by simp only[Ms]
@[simp]def mkfO_ss(f g:List V)(a e:List D):Lt k f g (some a) (some e)=.d (.fn k a e):=by simp only[Lt]
@[simp]def mkfO_n1(a e:List V)(o:Option (List D)):Lt k a e none o=.fn k a e:=by cases o<;>simp only[Lt]
@[simp]def mkfO_n2(a e:List V)(o:Option (List D)):Lt k a e o none=.fn k a e:=by cases o<;>simp only[Lt]
@[simp]def wp_cvi:C.wp sl ob K (.Gy kd x)=JK kd K (x.ev sl):=by simp only[C.wp]
@[simp]def cviK_i:JK kd K (.d (.int kd' m))=K (.d (.int kd (kd.wrap m))):=by simp only[JK]
@[simp]def wp_idx:C.wp sl ob K (.Fl x y)=Kn K (x.ev sl) (y.ev sl):=by simp only[C.wp]
@[simp]def idxK_s:Kn K (.d (.AM s)) (.d (.int kd m))=((0<=m/\m<s.length)/\K (.d (.int .u8 (s.getD m.toNat 0).toNat))):=by simp only[Kn]
@[simp]def wp_idxA:C.wp sl ob K (.DI n x y)=J0 ob n K (x.ev sl) (y.ev sl):=by simp only[C.wp]
@[simp]def idxAK_l:J0 ob n K (.d (.AF n xs)) (.d (.int kd m))=((0<=m/\m<xs.length)/\K (.d (.Bd (xs.getD m.toNat default)))):=by simp[J0]
@[simp]def wp_idxP:C.wp sl ob K (.B9 k n x y)=Il ob k n K (x.ev sl) (y.ev sl):=by simp only[C.wp]
@[simp]def idxPK_p(p:List Nat):Il ob k n K (.ptr j p) (.d (.int kd m))=((0<=m/\m<k)/\(∃a,Y4 (Cj ob j p)=some a/\a.length=k/\∀k∈a,k.size=n)/\K (.ptr j (p++[m.toNat]))):=by simp only[Il]
@[simp]def idxPK_c:Il ob k n K (.d (.Bd (.agg xs))) (.d (.int kd m))=((0<=m/\m<k)/\xs.length=k/\(∀x∈xs,x.sz=n)/\K (.d (.Bd (xs.getD m.toNat default)))):=by simp only[Il]
@[simp]def wp_fldA:C.wp sl ob K (.BW k n x)=Vk ob k n K (x.ev sl):=by simp only[C.wp]
@[simp]def fldAK_p(p:List Nat):Vk ob k n K (.ptr j p)=Qr j p k n K (Y4 (Cj ob j p)):=by simp only[Vk]
@[simp]def fldAKo_s(p:List Nat):Qr j p k n K (some vs)=(k<vs.length/\Sh.BR ((vs.take k).map V.shape)=n/\K (.ptr j (p++[k]))):=by simp only[Qr]
@[simp]def fldAK_c:Vk ob k n K (.d (.Bd (.agg xs)))=(k<xs.length/\Cf (xs.take k)=n/\K (.d (.Bd (xs.getD k default)))):=by simp only[Vk]
@[simp]def wp_ld:C.wp sl ob K (.ld n b x)=D4 ob n b K (x.ev sl):=by simp only[C.wp]
@[simp]def ldK_p(p:List Nat):D4 ob n b K (.ptr j p)=F4 n b K (Cj ob j p):=by simp only[D4]
@[simp]def ldKo_s:F4 n b K (some v)=(v.size=n/\v.isAgg=b/\K v):=by simp only[F4]
@[simp]def ldK_c:D4 ob n b K (.d (.Bd d))=(d.sz=n/\(V.d d).isAgg=b/\K (.d d)):=by simp only[D4]
@[simp]def wp_nilc:C.wp sl ob K (.Cw x)=He K (x.ev sl):=by simp only[C.wp]
@[simp]def nilcK_p(p:List Nat):He K (.ptr j p)=K (.ptr j p):=by simp only[He]
@[simp]def nilcK_c:He K (.d (.Bd d))=K (.d (.Bd d)):=by simp only[He]
@[simp]def wp_lenS:C.wp sl ob K (.C2 x)=KH K (x.ev sl):=by simp only[C.wp]
@[simp]def lenSK_s:KH K (.d (.AM s))=K (.d (.int .i64 s.length)):=by simp only[KH]
@[simp]def wp_lenL:C.wp sl ob K (.CV x)=Hi ob K (x.ev sl):=by simp only[C.wp]
@[simp]def lenLK_l:Hi ob K (.d (.AF n xs))=K (.d (.int .i64 xs.length)):=by simp only[Hi]
@[simp]def lenLK_n:Hi ob K (.d .AT)=K (.d (.int .i64 0)):=by simp only[Hi]
@[simp]def lenLK_o:Hi ob K (.sl j n)=(((∃E z xs,AA ob j=some (.A9 E z xs)/\n=xs.length)\/∃E z xs,AA ob j=some (.Ao E z xs)/\n=xs.length)/\K (.d (.int .i64 n))):=by simp only[Hi]
@[simp]def wp_slcS(e a:Option A):C.wp sl ob K (.CY x e a)=Ky (e.map (A.ev sl)) (a.map (A.ev sl)) K (x.ev sl):=by simp only[C.wp]
@[simp]def slcSK_s(e a:Option V):Ky e a K (.d (.AM s))=Jn s.length (λl h=>K (.d (.AM ((s.take h).drop l)))) e a:=by simp only[Ky]
@[simp]def wp_slcL(e a:Option A):C.wp sl ob K (.Ck n x e a)=Kx n (e.map (A.ev sl)) (a.map (A.ev sl)) K (x.ev sl):=by simp only[C.wp]
@[simp]def slcLK_l(e a:Option V):Kx n e a K (.d (.AF n xs))=Jn xs.length (λl h=>K (.d (.AF n ((xs.take h).drop l)))) e a:=by simp[Kx]
@[simp]def bndK_nn(a:Nat->Nat->Prop):Jn n a none none=a 0 n:=by simp only[Jn]
@[simp]def bndK_sn(a:Nat->Nat->Prop):Jn n a (some (.d (.int kd m))) none=((0<=m/\m<=n)/\a m.toNat n):=by simp only[Jn]
@[simp]def bndK_ns(a:Nat->Nat->Prop):Jn n a none (some (.d (.int kd m)))=((0<=m/\m<=n)/\a 0 m.toNat):=by simp only[Jn]
@[simp]def bndK_ss(a:Nat->Nat->Prop):Jn n a (some (.d (.int kd m))) (some (.d (.int kd' m')))=((0<=m'/\m'<=n)/\(0<=m/\m<=m')/\a m.toNat m'.toNat):=by simp only[Jn]
@[simp]def wp_ext:C.wp sl ob K (.ext x n)=Km n K (x.ev sl):=by simp only[C.wp]
@[simp]def extK_t:Km n K (.BE vs)=(n<vs.length/\K (vs.getD n .any)):=by simp only[Km]
@[simp]def wp_bld(a:List (Nat×A)):C.wp sl ob K (.E0 xs a)=Dz (xs.map .d) (a.map λp=>(p.1,p.2.ev sl)) λe=>K (V.mk e):=by simp only[C.wp]
@[simp]def bldK_n(a:List V->Prop):Dz vs [] a=a vs:=by simp only[Dz]
@[simp]def bldK_c(a:List V->Prop)(l:List (Nat×V)):Dz vs ((k,v)::l) a=(k<vs.length/\v.shape=(vs.getD k .any).shape/\v≠.any/\Dz (vs.set k v) l a):=by simp only[Dz]
@[simp]def wp_mkf(l a:List A):C.wp sl ob K (.D5 k l a)=K (Ms k (l.map (A.ev sl)) (a.map (A.ev sl))):=by simp only[C.wp]
@[simp]def wp_mki:C.wp sl ob K (.G1 k x)=K (JS k (x.ev sl)):=by simp only[C.wp]
@[simp]def wp_tas:C.wp sl ob K (.G3 k d x)=L1 k d K (x.ev sl):=by simp only[C.wp]
-- trees
@[simp]def kids_agg:V.BM (.agg vs)=some vs:=by simp only[V.BM]
@[simp]def kids_d:V.BM (.d (.agg xs))=some (xs.map .d):=by simp only[V.BM]
@[simp]def kidsO_s:Y4 (some v)=v.BM:=by simp only[Y4]
def YR(p:List Nat):Option Ob->Option V
|some (.box _ t)=>t.at p
|_=>none
@[simp]def atO_b(p:List Nat):Cj ob k p=YR p (AA ob k):=by
 unfold Cj YR;cases AA ob k with
 |none=>rfl
 |some o=>cases o<;>rfl
@[simp]def atB_s(p:List Nat)(E:Nat):YR p (some (.box E v))=v.at p:=by simp only[YR]
@[simp]def at_nil:V.at v []=some v:=by simp[V.at]
def Mg(i:Nat)(p:List Nat):Option (List V)->Option V
|some ks=>atKid' p ks[i]?
|none=>none
where atKid' (p:List Nat):Option V->Option V
|some k=>V.at k p
|none=>none
@[simp]def at_cons(p:List Nat):V.at v (k::p)=Mg k p v.BM:=by
 simp only[V.at,Mg];cases v.BM with
 |none=>rfl
 |some a=>simp only[Mg.atKid'];cases a[k]?<;>rfl
@[simp]def atKid_s(p:List Nat):Mg k p (some vs)=Mg.atKid' p vs[k]?:=by simp only[Mg]
@[simp]def atKid'_s(p:List Nat):Mg.atKid' p (some v)=V.at v p:=by simp only[Mg.atKid']
@[simp]def set_nil:V.set v [] v'=some v':=by simp[V.set]
def Qa(i:Nat)(p:List Nat)(x:V):Option (List V)->Option V
|some ks=>setKid1 i p x ks ks[i]?
|none=>none
where
 setKid1 (i:Nat) (p:List Nat) (x:V) (ks:List V):Option V->Option V
 |some k=>setKid2 i ks (V.set k p x)
 |none=>none
 setKid2 (i:Nat) (ks:List V):Option V->Option V
 |some k'=>some (V.mk (ks.set i k'))
 |none=>none
@[simp]def set_cons(p:List Nat):V.set v (k::p) v'=Qa k p v' v.BM:=by
 simp only[V.set,Qa];cases v.BM with
 |none=>rfl
 |some a=>
  simp only[Qa.setKid1];cases a[k]? with
  |none=>rfl
  |some y=>simp only[Qa.setKid2];cases V.set y p v'<;>rfl
@[simp]def setKid_s(p:List Nat):Qa k p v (some vs)=Qa.setKid1 k p v vs vs[k]?:=by simp only[Qa]
@[simp]def setKid1_s(p:List Nat):Qa.setKid1 k p v vs (some v')=Qa.setKid2 k vs (V.set v' p v):=by simp only[Qa.setKid1]
@[simp]def setKid2_s:Qa.setKid2 k vs (some v)=some (V.mk (vs.set k v)):=by simp only[Qa.setKid2]
@[simp]def allD_nil:Bt []=some []:=by simp[Bt]
def Zf(x:D):Option (List D)->Option (List D)
|some l=>some (x::l)
|none=>none
@[simp]def allD_cons:Bt (.d d::vs)=Zf d (Bt vs):=by simp only[Bt];cases Bt vs<;>rfl
@[simp]def consD_s:Zf d (some xs)=some (d::xs):=by simp only[Zf]
@[simp]def consD_n:Zf d none=none:=by simp only[Zf]
@[simp]def Bi:Bt (xs.map .d)=some xs:=by induction xs with|nil=>rfl|cons x r a=>simp[a]
@[simp]def allD_fn(a e:List V):Bt (.fn k a e::vs)=none:=by simp only[Bt]
@[simp]def allD_sl:Bt (.sl k n::vs)=none:=by simp only[Bt]
@[simp]def allD_ptr(p:List Nat):Bt (.ptr k p::vs)=none:=by simp only[Bt]
def DZ(vs:List V):Option (List D)->V
|some l=>.d (.agg l)
|none=>.agg vs
@[simp]def mk_eq:V.mk vs=DZ vs (Bt vs):=by unfold V.mk DZ;cases Bt vs<;>rfl
@[simp]def mkO_s:DZ vs (some xs)=.d (.agg xs):=by simp only[DZ]
@[simp]def mkO_n:DZ vs none=.agg vs:=by simp only[DZ]
-- BR,BN
attribute [simp] D.sz Cf Sh.size Sh.BR D.shape D.BN V.shape V.BN V.isAgg V.Eu G8 V.size V.BJ BO
-- operations on memory
@[simp]def zj(e:C):I.wp P sl ob KO Pn (.c e)=e.wp sl ob (λv=>KO v ob):=by simp only[I.wp]
@[simp]def zi:I.wp P sl ob KO Pn (.box k x)=Iv k ob KO (x.ev sl):=by simp only[I.wp]
@[simp]def qy:I.wp P sl ob KO Pn (.alloc k d)=Iv k ob KO (.d d):=by simp only[I.wp]
@[simp]def boxK_eq:Iv k ob KO v=(v.Eu=true/\KO (.ptr (fresh ob) []) ((fresh ob,.box k v)::ob)):=by simp only[Iv]
@[simp]def zf(a:List (Nat×A)):I.wp P sl ob KO Pn (.GU n xs a)=Dz (xs.map .d) (a.map λp=>(p.1,p.2.ev sl)) (λe=>dK (λl=>KO (.d (.AF n l)) ob) (Bt e)):=by simp only[I.wp]
@[simp]def dK_s(a:List D->Prop):dK a (some xs)=a xs:=by simp only[dK]
@[simp]def zd(a:List (Nat×A)):I.wp P sl ob KO Pn (.GS j n xs a)=Dz (xs.map .d) (a.map λp=>(p.1,p.2.ev sl)) (λe=>dK (λl=>KO (.sl (fresh ob) l.length) ((fresh ob,.A9 j n l)::ob)) (Bt e)):=by simp only[I.wp]
@[simp]def wc:I.wp P sl ob KO Pn (.st n x y)=GH ob n (y.ev sl) KO (x.ev sl):=by simp only[I.wp]
@[simp]def stK_p(p:List Nat):GH ob n v KO (.ptr k p)=JX ob k p n v KO (AA ob k):=by simp only[GH]
@[simp]def stKo_s(p:List Nat)(t:V)(E:Nat):JX ob k p n v KO (some (.box E t))=JY ob k p n E v t KO (t.at p):=by simp only[JX]
def Pv(ob:AB)(id E:Nat)(K:V->AB->Prop):Option V->Prop
|some a=>K .undef (AG ob id (.box E a))
|none=>False
@[simp]def stKt_s(p:List Nat)(t:V)(E:Nat):JY ob k p n E v t KO (some v')=(v.shape=v'.shape/\v'.size=n/\v.Eu=true/\Pv ob k E KO (t.set p v)):=by
 simp only[JY];cases t.set p v<;>simp[Pv]
@[simp]def stKs_s(E:Nat):Pv ob k E KO (some v)=KO .undef (AG ob k (.box E v)):=by simp only[Pv]
@[simp]def qz(E a B:Nat):I.wp P sl ob KO Pn (.I0 E a B x y)=JW a (λe=>Ew E a B ob e KO (x.ev sl)) (y.ev sl):=by simp only[I.wp]
@[simp]def srcK_l(a:List D->Prop):JW n a (.d (.AF n xs))=a xs:=by simp[JW]
@[simp]def appK_s(E a B:Nat):Ew E a B ob xs KO (.sl k n)=K0 k E a B n ob xs KO (AA ob k):=by simp[Ew]
@[simp]def appK_n(E a B:Nat):Ew E a B ob xs KO (.d .AT)=((2*xs.length+192)*B<=281474976710656/\KO (.sl (fresh ob) xs.length) ((fresh ob,.A9 E a xs)::ob)):=by simp only[Ew]
@[simp]def appKo_s(E e B:Nat)(a:List D):K0 k E e B n ob xs KO (some (.A9 E e a))=(n=a.length/\(2*(a.length+xs.length)+192)*B<=281474976710656/\KO (.sl k (a.length+xs.length)) (AG ob k (.A9 E e (a++xs)))):=by simp[K0]
@[simp]def iwp_appS(E B:Nat):I.wp P sl ob KO Pn (.ER E B x y)=Lm (λa=>Ew E 1 B ob a KO (x.ev sl)) (y.ev sl):=by simp only[I.wp]
@[simp]def srcSK_s(a:List D->Prop):Lm a (.d (.AM s))=a (A2 s):=by simp only[Lm]
@[simp]def zq:I.wp P sl ob KO Pn (.Kb x)=Gs KO (DU ob (x.ev sl)):=by simp only[I.wp]
@[simp]def givK_s:Gs KO (some (d,ob))=KO (.d d) ob:=by simp only[Gs]
@[simp]def zp:I.wp P sl ob KO Pn (.IZ n b x)=JR n b ob KO (x.ev sl):=by simp only[I.wp]
@[simp]def ldfK_p(p:List Nat):JR n b ob KO (.ptr k p)=K5 n b ob KO (Cj ob k p):=by simp only[JR]
@[simp]def ldfKo_s:K5 n b ob KO (some v)=(v.size=n/\v.isAgg=b/\Gs KO (DU ob v)):=by simp only[K5]
@[simp]def zr(E a:Nat)(p:List Nat):I.wp P sl ob KO Pn (.H3 E a y x p)=Gu ob E a p (y.ev sl) KO (x.ev sl):=by simp only[I.wp]
@[simp]def zt(l:List (Nat×Nat×List Nat)):I.wp P sl ob KO Pn (.I5 y x l)=OE (y.ev sl) KO (x.ev sl) l ob:=by simp only[I.wp]
@[simp]def mvnK_n(v x:V):OE v KO x [] ob=KO v ob:=by simp only[OE]
@[simp]def mvnK_c(v x:V)(e:Nat×Nat×List Nat)(l:List (Nat×Nat×List Nat)):OE v KO x (e::l) ob=Gu ob e.1 e.2.1 e.2.2 v (λ_ a=>OE v KO x l a) x:=by simp only[OE]
@[simp]def mvgK_p(E a:Nat)(p q:List Nat):Gu ob E a p v KO (.ptr k q)=K7 ob k (q++p) E a v KO (AA ob k):=by simp only[Gu]
@[simp]def mvgKt_s(E a e:Nat)(p:List Nat)(t:V):K7 ob k p E e v KO (some (.box a t))=((t.at p=some (.d .AT)/\Ml ob k a E e v KO (t.set p (.sl (fresh ob) 0)))\/((∃i n,t.at p=some (.sl i n))/\KO v ob)):=by simp only[K7]
@[simp]def mvgKs_s(E a e:Nat)(t:V):Ml ob k a E e v KO (some t)=KO v ((fresh ob,.A9 E e [])::AG ob k (.box a t)):=by simp only[Ml]
@[simp]def iwp_cvb:I.wp P sl ob KO Pn (.Hy x)=JJ ob KO (x.ev sl):=by simp only[I.wp]
@[simp]def cvbK_s:JJ ob KO (.sl k n)=LW k n ob KO (AA ob k):=by simp only[JJ]
@[simp]def cvbKo_s(E a:Nat):LW k n ob KO (some (.A9 E a xs))=(a≠0/\n=xs.length/\xs≠[]/\KO (.d (.AF a xs)) (AG ob k .AY)):=by simp only[LW]
@[simp]def wp_usd:C.wp sl ob K (.G4 x)=IS ob K (x.ev sl):=by simp only[C.wp]
@[simp]def usdK_s:IS ob K (.sl k n)=((∃E a xs,AA ob k=some (.A9 E a xs)/\a≠0/\n=xs.length/\xs≠[])/\K (.sd k n)):=by simp only[IS]
@[simp]def usdK_n:IS ob K (.d .AT)=K (.d .B1):=by simp only[IS]
@[simp]def iwp_ustr(E:Nat):I.wp P sl ob KO Pn (.EY E x y)=IK E ob KO (x.ev sl) (y.ev sl):=by simp only[I.wp]
@[simp]def ustrK_s(E:Nat):IK E ob KO (.sd k n) (.d (.int .i64 m))=LS k n m E ob KO (AA ob k):=by simp only[IK]
@[simp]def ustrK_n(E:Nat):IK E ob KO (.d .B1) (.d (.int .i64 m))=(m=0/\KO (.d (.AM [])) ob):=by simp only[IK]
@[simp]def ustrKo_s(E a e:Nat):LS k n m E ob KO (some (.A9 a e xs))=(a=E/\e=1/\n=xs.length/\m=n/\n<=9223372036854775807/\xs≠[]/\∃s,xs=A2 s/\KO (.d (.AM s)) (AG ob k .AY)):=by simp only[LS]
-- CH given up
@[simp]def giv_d:DU ob (.d d)=some (d,ob):=by simp only[DU]
@[simp]def giv_sl:DU ob (.sl k n)=Sz ob k n (AA ob k):=by simp only[DU]
@[simp]def givO_s(E a:Nat):Sz ob k n (some (.A9 E a xs))=if a≠0/\n=xs.length then some (.AF a xs,AG ob k .AY) else none:=by simp only[Sz]
@[simp]def giv_agg:DU ob (.agg vs)=FF (Da ob vs):=by simp only[DU]
@[simp]def giv_fn(a e:List V):DU ob (.fn k a e)=L7 k ob (Bt a) (Bt e):=by simp only[DU]
@[simp]def fnG_s(a e:List D):L7 k ob (some a) (some e)=some (.fn k a e,ob):=by simp only[L7]
@[simp]def givs_nil:Da ob []=some ([],ob):=by simp only[Da]
def lI(r:List V):Option (D×AB)->Option (List D×AB)
|some (x,a)=>Uq x (Da a r)
|none=>none
@[simp]def givs_cons:Da ob (v::vs)=lI vs (DU ob v):=by
 simp only[Da];cases DU ob v with
 |none=>rfl
 |some q=>obtain⟨y,a⟩:=q;rfl
@[simp]def bindO_s:lI vs (some (d,ob))=Uq d (Da ob vs):=by simp only[lI]
@[simp]def consO_s(l:List D):Uq d (some (l,ob))=some (d::l,ob):=by simp only[Uq]
@[simp]def aggO_s(l:List D):FF (some (l,ob))=some (.agg l,ob):=by simp only[FF]
@[simp]def givsK_s(a:List D->AB->Prop)(l:List D):Vl a (some (l,ob))=a l ob:=by simp only[Vl]
@[simp]def gvsK_nil(a:List V->AB->Prop):FG [] ob a=a [] ob:=by simp only[FG]
@[simp]def gvsK_cons(f:List V->AB->Prop):FG (v::vs) ob f=NG v ob (λv' e=>FG vs e λvs a=>f (v'::vs) a) (DU ob v):=by simp only[FG]
@[simp]def gvO_s:NG v ob KO (some (d,ro))=KO (.d d) ro:=by simp only[NG]
-- names
@[simp]def fresh_nil:fresh []=0:=by simp only[fresh]
@[simp]def Yb(o:Ob):fresh ((k,o)::ro)=if fresh ro<=k then k+1 else fresh ro:=by simp only[fresh]
@[simp]def Zw(o:Ob):fresh (AG ob k o)=fresh ob:=by
 induction ob with
 |nil=>simp[AG]
 |cons e r a=>obtain⟨i,y⟩:=e;simp only[AG];split<;>simp[fresh,a]
@[simp]def fresh_ne(h:(AA ob k).isSome=true):(fresh ob==k)=false:=by
 rw[HZ];intro e;rw[<-e,Xo]at h;cases h
@[simp]def fresh_add_ne(h:(AA ob k).isSome=true):(fresh ob+n==k)=false:=by
 rw[HZ];intro e;rw[<-e,Xu ob _ (by omega)]at h;cases h
@[simp]def lookO_set_eq(o:Ob)(h:(AA ob k).isSome=true):AA (AG ob k o) k=some o:=by
 rw[Xc ob k k (JE.1 h)];simp
@[simp]def lookO_set_ne(o:Ob)(h:(j==k)=false):AA (AG ob j o) k=AA ob k:=by
 by_cases f:(AA ob j).isSome=true
 ·rw[Xc ob j k (JE.1 f)];simp at h;rw[Af (λe=>h e.symm)]
 ·have g:AA ob j=none:=by simpa using f
  have:∀(ob:AB),AA ob j=none->AG ob j o=ob:=λob=>by
   induction ob with
   |nil=>intro _;rfl
   |cons e r l=>obtain⟨i,y⟩:=e;intro h;simp only[AA]at h;split at h;cases h;rename_i a;simp[AG,a,l h]
  rw[this ob g]
@[simp]def Xwb(o a:Ob):AG (AG ob k o) k a=AG ob k a:=by
 induction ob with
 |nil=>rfl
 |cons e r f=>
  obtain⟨i,y⟩:=e;by_cases h:i=k
  ·subst h;simp[AG]
  ·simp[AG,h,f]
-- AE objects dropped
@[simp]def Yd4(l:List Nat)(h:k<n):AE n l k=false:=by simp[AE];omega
@[simp]def young_old(l:List Nat)(h:(AA ob k).isSome=true):AE (fresh ob) l k=false:=by
 have:k<fresh ob:=by
  rcases FP k (fresh ob) with a|a
  ·exact a
  ·rw[Xu ob k a]at h;cases h
 simp[AE];omega
@[simp]def young_self:AE n [] n=true:=by simp[AE]
@[simp]def Xxf(l:List Nat):Xh (AE (fresh ob) l) ob=ob:=by
 have:∀(n:Nat)(ob:AB),fresh ob<=n->Xh (AE n l) ob=ob:=λn ob=>by
  induction ob with
  |nil=>intro _;rfl
  |cons e r f=>
   obtain⟨i,y⟩:=e;intro h;simp only[fresh]at h;have a:i<n/\fresh r<=n:=by split at h<;>omega
   simp only[Xh,Yd4 i n l a.1,BF,Ci,f a.2]
 exact this _ ob (BV _)
@[simp]def Xgr(l:List Nat)(o:Ob):Xh (AE (fresh ob) l) (AG ob k o)=AG ob k o:=by
 rw[<-Zw ob k o];exact Xxf _ _
@[simp]def Qp(l:List Nat)(o a:Ob):Xh (AE (fresh ob) l) (AG (AG ob k o) j a)=AG (AG ob k o) j a:=by
 rw[<-Zw ob k o];exact Xgr _ _ _ _
def Ar(a:Nat->Bool)(E:Nat)(h:AH a ob=true)(f:V.BJ a v=false):AH a (AG ob k (.box E v))=true:=by
 induction ob with
 |nil=>rfl
 |cons e r g=>
  obtain⟨i,y⟩:=e;simp only[AG];split
  ·cases y<;>simp_all[AH]
  ·cases y<;>simp_all[AH]
def BH(a:Nat->Bool)(E z:Nat)(h:AH a ob=true):AH a (AG ob k (.A9 E z xs))=true:=by
 induction ob with
 |nil=>rfl
 |cons e r f=>
  obtain⟨i,y⟩:=e;simp only[AG];split
  ·cases y<;>simp_all[AH]
  ·cases y<;>simp_all[AH]
@[simp]def zm(l:List A):I.wp P sl ob KO Pn (.call k l)=AV P k (l.map (A.ev sl)) ob (Ef KO Pn):=by simp only[I.wp]
@[simp]def zn(l:List A):I.wp P sl ob KO Pn (.Cq x l)=V9 P (l.map (A.ev sl)) ob KO Pn (x.ev sl):=by simp only[I.wp]
@[simp]def fX(a e:List V):V9 P vs ob KO Pn (.fn k a e)=(Xd P.p k=true/\AV P k (a++vs++e) ob (Ef KO Pn)):=by simp only[V9]
@[simp]def callvK_df(a e:List D):V9 P vs ob KO Pn (.d (.fn k a e))=(Xd P.p k=true/\AV P k (a.map .d++vs++e.map .d) ob (Ef KO Pn)):=by simp only[V9]
@[simp]def wg:Ef KO Pn (.ret v) ob=KO v ob:=by simp only[Ef]
@[simp]def we:Ef KO Pn (.panic v) ob=Pn v ob:=by simp only[Ef]
@[simp]def iwp_panic:I.wp P sl ob KO Pn (.panic x)=LN ob Pn (x.ev sl):=by simp only[I.wp]
@[simp]def panicK_d:LN ob Pn (.d (.iface k d))=Pn (.d (.iface k d)) ob:=by simp only[LN]
@[simp]def iwp_s2b:I.wp P sl ob KO Pn (.HQ x)=Lz (λv=>KO v ob) (x.ev sl):=by simp only[I.wp]
@[simp]def s2bK_s:Lz K (.d (.AM s))=K (.d (.AF 1 (A2 s))):=by simp only[Lz]
@[simp]def zu(E a:Nat):I.wp P sl ob KO Pn (.ET E a x)=Li E a ob KO (x.ev sl):=by simp only[I.wp]
@[simp]def niloK_n(E a:Nat):Li E a ob KO (.d .AT)=KO (.sl (fresh ob) 0) ((fresh ob,.A9 E a [])::ob):=by simp only[Li]
-- regions and statements
@[simp]def gdK_ff(Y N:Xb->Prop):HK k false sl Y N (.d (.bool false))=Y ((k,.d (.bool false))::sl):=by simp[HK]
@[simp]def keepS_nil:Xj sl []=[]:=by simp only[Xj]
@[simp]def keepS_cons(l:List Nat):Xj sl (k::l)=(k,Ay sl k)::Xj sl l:=by simp only[Xj]
@[simp]def zw(l:List A):I.wp P sl ob KO Pn (.BX k l)=AU P k (l.map (A.ev sl)) ob (λv=>KO v ob):=by simp only[I.wp]
@[simp]def condK_t(Y N:Prop):Hf Y N (.d (.bool true))=Y:=by simp[Hf]
@[simp]def condK_f(Y N:Prop):Hf Y N (.d (.bool false))=N:=by simp[Hf]
@[simp low] theorem condK_b (Y N:Prop):Hf Y N (.d (.bool b))=((b=true->Y)/\(b=false->N)):=by simp only[Hf]
@[simp]def ye:Wt next Q .normal sl ob=next sl ob:=by simp only[Wt]
@[simp]def yc:Wt next Q (.exit n) sl ob=Q (.exit n) sl ob:=by simp only[Wt]
@[simp]def yg:Wt next Q .ret sl ob=Q .ret sl ob:=by simp only[Wt]
@[simp]def yf:Wt next Q (.panic v) sl ob=Q (.panic v) sl ob:=by simp only[Wt]
@[simp]def qd:Yw n Q .normal sl ob=Q .normal sl ob:=by simp only[Yw]
@[simp]def qc:Yw n Q (.exit n) sl ob=Q .normal sl ob:=by simp[Yw]
@[simp]def blockK_ne(h:(j==n)=false):Yw n Q (.exit j) sl ob=Q (.exit j) sl ob:=by simp at h;simp[Yw,h]
@[simp]def qf:Yw n Q .ret sl ob=Q .ret sl ob:=by simp only[Yw]
@[simp]def qe:Yw n Q (.panic v) sl ob=Q (.panic v) sl ob:=by simp only[Yw]
attribute [simp] Za AH Xh
-- results
@[simp]def pureQ_r(a:List RV):IF a K .ret sl ob=Va sl ob a λvs=>Vl (λl _=>K (W8 (l.map .d))) (Da ob vs):=by simp only[IF]
@[simp]def pureQ_p(a:List RV):IF a K (.panic v) sl ob=False:=by simp only[IF]
@[simp]def qg(e:List RV)(a:A7->AB->Prop):Jh n e a .normal sl ob=Va sl ob e λvs=>FG vs ob λvs ob=>X0 n (a (.ret (W8 vs))) vs ob:=by simp only[Jh]
@[simp]def qi(e:List RV)(a:A7->AB->Prop):Jh n e a .ret sl ob=Va sl ob e λvs=>FG vs ob λvs ob=>X0 n (a (.ret (W8 vs))) vs ob:=by simp only[Jh]
@[simp]def qh(e:List RV)(a:A7->AB->Prop):Jh n e a (.panic v) sl ob=X0 n (a (.panic v)) [v] ob:=by simp only[Jh]
@[simp]def resK_nil(a:List V->Prop):Va sl ob [] a=a []:=by simp only[Va]
@[simp]def resK_t(a:List V->Prop)(e:List RV):Va sl ob (.t k::e) a=Va sl ob e λvs=>a (Ay sl k::vs):=by simp only[Va,RV.wp]
@[simp]def resK_c(a:List V->Prop)(e:List RV):Va sl ob (.c k n b::e) a=D4 ob n b (λv=>Va sl ob e λvs=>a (v::vs)) (Ay sl k):=by simp only[Va,RV.wp]
@[simp]def retV_1:W8 [v]=v:=by simp only[W8]
@[simp]def retV_0:W8 []=.BE []:=by simp only[W8]
@[simp]def retV_2:W8 (v::v'::vs)=.BE (v::v'::vs):=by simp only[W8]
@[simp]def argS_nil:Uo k []=[]:=by simp only[Uo]
@[simp]def argS_cons:Uo k (v::vs)=(k,v)::Uo (k+1) vs:=by simp only[Uo]
end
@[congr]def I_wp_congr{P:Az}{d:Xb}{c:AB}{a:V->AB->Prop}{b:V->AB->Prop}{i:I}:I.wp P d c a b i=I.wp P d c a b i:=rfl
@[congr]def C_wp_congr{b:Xb}{a:AB}{K:V->Prop}{e:C}:C.wp b a K e=C.wp b a K e:=rfl
@[congr]def rwp_congr{P:Az}{a:Xb->AB->Prop}{b:V->Xb->AB->Prop}{l:List It}{d:Xb}{c:AB}:DE P a b l d c=DE P a b l d c:=rfl
@[congr]def gdK_congr{k:Nat}{b:Bool}{a:Xb}{Y N:Xb->Prop}{v c:V}(d:v=c):HK k b a Y N v=HK k b a Y N c:=by rw[d]
@[congr]def condK_congr{Y N:Prop}{v a:V}(b:v=a):Hf Y N v=Hf Y N a:=by rw[b]
@[congr]def pickK_congr{K:V->Prop}{u a:V}{v b:V}{w c:V}(d:u=a)(e:v=b)(f:w=c):IE K u v w=IE K a b c:=by rw[d,e,f]
@[congr]def notK_congr{K:V->Prop}{v a:V}(b:v=a):JU K v=JU K a:=by rw[b]
@[congr]def cplK_congr{K:V->Prop}{v a:V}(b:v=a):Kv K v=Kv K a:=by rw[b]
@[congr]def negK_congr{K:V->Prop}{v a:V}(b:v=a):OF K v=OF K a:=by rw[b]
@[congr]def nilcK_congr{K:V->Prop}{v a:V}(b:v=a):He K v=He K a:=by rw[b]
@[congr]def lenSK_congr{K:V->Prop}{v a:V}(b:v=a):KH K v=KH K a:=by rw[b]
@[congr]def s2bK_congr{K:V->Prop}{v a:V}(b:v=a):Lz K v=Lz K a:=by rw[b]
@[congr]def binK_congr{a:BinOp}{K:V->Prop}{u b:V}{v c:V}(d:u=b)(e:v=c):Hq a K u v=Hq a K b c:=by rw[d,e]
@[congr]def intK_congr{e:BinOp}{k j:IntKind}{K:V->Prop}{a c:Int}{b d:Int}(f:a=c)(g:b=d):Ht e k j a b K=Ht e k j c d K:=by rw[f,g]
@[congr]def strK_congr{e:BinOp}{K:V->Prop}{a c:List UInt8}{b d:List UInt8}(f:a=c)(g:b=d):Iz e a b K=Iz e c d K:=by rw[f,g]
@[congr]def isnilK_congr{e:Bool}{K:V->Prop}{v a:V}(b:v=a):Ud e K v=Ud e K a:=by rw[b]
@[congr]def cviK_congr{k:IntKind}{K:V->Prop}{v a:V}(b:v=a):JK k K v=JK k K a:=by rw[b]
@[congr]def idxK_congr{K:V->Prop}{u a:V}{v b:V}(c:u=a)(d:v=b):Kn K u v=Kn K a b:=by rw[c,d]
@[congr]def idxAK_congr{a:AB}{n:Nat}{K:V->Prop}{u b:V}{v c:V}(d:u=b)(e:v=c):J0 a n K u v=J0 a n K b c:=by rw[d,e]
@[congr]def idxPK_congr{a:AB}{k n:Nat}{K:V->Prop}{u b:V}{v c:V}(d:u=b)(e:v=c):Il a k n K u v=Il a k n K b c:=by rw[d,e]
@[congr]def fldAK_congr{a:AB}{k n:Nat}{K:V->Prop}{v b:V}(c:v=b):Vk a k n K v=Vk a k n K b:=by rw[c]
@[congr]def fldAKo_congr{j:Nat}{p:List Nat}{k n:Nat}{K:V->Prop}{v a:Option (List V)}(b:v=a):Qr j p k n K v=Qr j p k n K a:=by rw[b]
@[congr]def fldK_congr{k j n:Nat}{b:Bool}{K:V->Prop}{v a:Option (List V)}(c:v=a):N9 k j n b K v=N9 k j n b K a:=by rw[c]
@[congr]def ldK_congr{a:AB}{n:Nat}{b:Bool}{K:V->Prop}{v c:V}(d:v=c):D4 a n b K v=D4 a n b K c:=by rw[d]
@[congr]def ldKo_congr{n:Nat}{b:Bool}{K:V->Prop}{v a:Option V}(c:v=a):F4 n b K v=F4 n b K a:=by rw[c]
@[congr]def lenLK_congr{a:AB}{K:V->Prop}{v b:V}(c:v=b):Hi a K v=Hi a K b:=by rw[c]
@[congr]def bndK_congr{n:Nat}{a:Nat->Nat->Prop}{u b:Option V}{v c:Option V}(d:u=b)(e:v=c):Jn n a u v=Jn n a b c:=by rw[d,e]
@[congr]def slcSK_congr{K:V->Prop}{l b:Option V}{h a:Option V}{v c:V}(d:l=b)(e:h=a)(f:v=c):Ky l h K v=Ky b a K c:=by rw[d,e,f]
@[congr]def slcLK_congr{n:Nat}{K:V->Prop}{l b:Option V}{h a:Option V}{v c:V}(d:l=b)(e:h=a)(f:v=c):Kx n l h K v=Kx n b a K c:=by rw[d,e,f]
@[congr]def extK_congr{n:Nat}{K:V->Prop}{v a:V}(b:v=a):Km n K v=Km n K a:=by rw[b]
@[congr]def bldK_congr{a:List V->Prop}{u c:List V}{l b:List (Nat×V)}(d:u=c)(e:l=b):Dz u l a=Dz c b a:=by rw[d,e]
@[congr]def tasK_congr{k:Nat}{d:D}{K:V->Prop}{v a:V}(b:v=a):L1 k d K v=L1 k d K a:=by rw[b]
@[congr]def boxK_congr{k:Nat}{b:AB}{a:V->AB->Prop}{v c:V}(d:v=c):Iv k b a v=Iv k b a c:=by rw[d]
@[congr]def stK_congr{b:AB}{n:Nat}{a:V->AB->Prop}{u c:V}{v d:V}(e:u=c)(f:v=d):GH b n u a v=GH b n c a d:=by rw[e,f]
@[congr]def stKo_congr{b:AB}{k:Nat}{p:List Nat}{n:Nat}{u:V}{a:V->AB->Prop}{v c:Option Ob}(d:v=c):JX b k p n u a v=JX b k p n u a c:=by rw[d]
@[congr]def stKt_congr{b:AB}{k:Nat}{p:List Nat}{n E:Nat}{u t:V}{a:V->AB->Prop}{v c:Option V}(d:v=c):JY b k p n E u t a v=JY b k p n E u t a c:=by rw[d]
@[congr]def stKs_congr{b:AB}{k E:Nat}{a:V->AB->Prop}{v c:Option V}(d:v=c):Pv b k E a v=Pv b k E a c:=by rw[d]
@[congr]def dK_congr{a:List D->Prop}{v b:Option (List D)}(c:v=b):dK a v=dK a b:=by rw[c]
@[congr]def callvK_congr{P:Az}{c:AB}{a:V->AB->Prop}{b:V->AB->Prop}{u d:List V}{v e:V}(f:u=d)(g:v=e):V9 P u c a b v=V9 P d c a b e:=by rw[f,g]
@[congr]def panicK_congr{b:AB}{a:V->AB->Prop}{v c:V}(d:v=c):LN b a v=LN b a c:=by rw[d]
@[congr]def srcK_congr{n:Nat}{a:List D->Prop}{v b:V}(c:v=b):JW n a v=JW n a b:=by rw[c]
@[congr]def appK_congr{E c B:Nat}{b:AB}{e:List D}{a:V->AB->Prop}{v d:V}(f:v=d):Ew E c B b e a v=Ew E c B b e a d:=by rw[f]
@[congr]def appKo_congr{k E c B n:Nat}{b:AB}{e:List D}{a:V->AB->Prop}{v d:Option Ob}(f:v=d):K0 k E c B n b e a v=K0 k E c B n b e a d:=by rw[f]
@[congr]def niloK_congr{E c:Nat}{b:AB}{a:V->AB->Prop}{v d:V}(e:v=d):Li E c b a v=Li E c b a d:=by rw[e]
@[congr]def srcSK_congr{a:List D->Prop}{v b:V}(c:v=b):Lm a v=Lm a b:=by rw[c]
@[congr]def fnilK_congr{e:Bool}{K:V->Prop}{v a:V}(b:v=a):Np e K v=Np e K a:=by rw[b]
@[congr]def givK_congr{a:V->AB->Prop}{v b:Option (D×AB)}(c:v=b):Gs a v=Gs a b:=by rw[c]
@[congr]def givsK_congr{a:List D->AB->Prop}{v b:Option (List D×AB)}(c:v=b):Vl a v=Vl a b:=by rw[c]
@[congr]def gvO_congr{u:V}{b:AB}{a:V->AB->Prop}{v c:Option (D×AB)}(d:v=c):NG u b a v=NG u b a c:=by rw[d]
@[congr]def gvsK_congr{b:List V->AB->Prop}{u d:List V}{c a:AB}(e:u=d)(f:c=a):FG u c b=FG d a b:=by rw[e,f]
@[congr]def leaveK_congr{n:Nat}{K:AB->Prop}{u c:List V}{b a:AB}(d:u=c)(e:b=a):X0 n K u b=X0 n K c a:=by rw[d,e]
@[congr]def ldfK_congr{n:Nat}{b:Bool}{c:AB}{a:V->AB->Prop}{v d:V}(e:v=d):JR n b c a v=JR n b c a d:=by rw[e]
@[congr]def ldfKo_congr{n:Nat}{b:Bool}{c:AB}{a:V->AB->Prop}{v d:Option V}(e:v=d):K5 n b c a v=K5 n b c a d:=by rw[e]
@[congr]def mvgK_congr{b:AB}{E c:Nat}{p:List Nat}{a:V->AB->Prop}{u d v e:V}(g:u=d)(f:v=e):Gu b E c p u a v=Gu b E c p d a e:=by rw[f,g]
@[congr]def mvgKt_congr{b:AB}{k E d:Nat}{p c:List Nat}{a:V->AB->Prop}{u:V}{v e:Option Ob}(g:p=c)(f:v=e):K7 b k p E d u a v=K7 b k c E d u a e:=by rw[f,g]
@[congr]def mvgKs_congr{c:AB}{k a E d:Nat}{b:V->AB->Prop}{u:V}{v e:Option V}(f:v=e):Ml c k a E d u b v=Ml c k a E d u b e:=by rw[f]
@[congr]def cvbK_congr{b:AB}{a:V->AB->Prop}{v c:V}(d:v=c):JJ b a v=JJ b a c:=by rw[d]
@[congr]def cvbKo_congr{k n:Nat}{b:AB}{a:V->AB->Prop}{v c:Option Ob}(d:v=c):LW k n b a v=LW k n b a c:=by rw[d]
@[congr]def usdK_congr{a:AB}{K:V->Prop}{v b:V}(c:v=b):IS a K v=IS a K b:=by rw[c]
@[congr]def ustrK_congr{E:Nat}{b:AB}{a:V->AB->Prop}{u c v d:V}(f:u=c)(e:v=d):IK E b a u v=IK E b a c d:=by rw[e,f]
@[congr]def ustrKo_congr{k n:Nat}{m:Int}{E:Nat}{b:AB}{a:V->AB->Prop}{v c:Option Ob}(d:v=c):LS k n m E b a v=LS k n m E b a c:=by rw[d]
@[congr]def resK_congr{d:Xb}{b:AB}{c:List RV}{a:List V->Prop}:Va d b c a=Va d b c a:=rfl
@[congr]def ACall_congr{P:Az}{f:Nat}{d b:List V}{c a:AB}{K:A7->AB->Prop}(h:d=b)(e:c=a):AV P f d c K=AV P f b a K:=by rw[h,e]
@[congr]def PCall_congr{P:Az}{f:Nat}{d b:List V}{c a:AB}{K:V->Prop}(h:d=b)(e:c=a):AU P f d c K=AU P f b a K:=by rw[h,e]
@[congr]def ALoop_congr{b:List Nat}{a:Yt->Xb->AB->Prop}{Q:Yt}{f d:Xb}{e c:AB}(h:f=d)(g:e=c):Ae b a Q f e=Ae b a Q d c:=by rw[h,g]
def Ae.of{a:List Nat}{b:Yt->Xb->AB->Prop}{Q:Yt}{h:Xb}{g:AB}{ι:Type}(S:ι->Xb)(O:ι->AB)(I:ι->Prop)(f:ι->Nat)(c:ι)(k:I c)(m:Xj h a=S c)(l:g=O c)
 (step:∀i,I i->b (Wt (sub a (fresh (O i)) λe d=>∃j,I j/\f j<f i/\e=S j/\d=O j) Q) (S i) (O i)):Ae a b Q h g:=
 ⟨⟨ι,S,O,I,f,c,k,m,l▸Wk.refl _,step⟩⟩
def Ae.pre{f:List Nat}{e:Yt->Xb->AB->Prop}{Q:Yt}{j:Xb}{i g:AB}(k:Wk i g)(h:Ae f e Q j g):Ae f e Q j i:=by
 obtain⟨m,S,O,I,n,l,a,b,c,d⟩:=h.run;exact⟨⟨m,S,O,I,n,l,a,b,k.trans c,d⟩⟩
def Ae.go{c:List Nat}{d:Yt->Xb->AB->Prop}{Q:Yt}{l:Xb}{k:AB}{ι:Type}(S:ι->Xb)(O:ι->AB)(I:ι->Prop)(g:ι->Nat)(f:ι)(m:I f)(x:Xj l c=S f)(w:k=O f)
 (step:∀i,I i->∀R:Yt,(∀e j b a,I j->g j<g i->Xj b c=S j->Xh (AE (fresh (O i)) e) a=O j->Za (AE (fresh (O i)) e) (S j)=true->AH (AE (fresh (O i)) e) (O j)=true->R .normal b a)->
  (∀n b a,Q (.exit n) b a->R (.exit n) b a)->(∀b a,Q .ret b a->R .ret b a)->(∀v b a,Q (.panic v) b a->R (.panic v) b a)->d R (S i) (O i)):Ae c d Q l k:=by
 refine Ae.of S O I g f m x w λi u=>step i u _ (λe j b a o p q r s t=>?_) (λ_ _ _ h=>h) (λ_ _ h=>h) (λ_ _ _ h=>h);simp only[Wt,sub];refine⟨e,a,Wk.refl _,?_⟩;rw[q,r];exact⟨s,t,j,o,p,rfl,rfl⟩
def qO{c:List Nat}{e:Yt->Xb->AB->Prop}{Q:Yt}{m:Xb}{l:AB}{ι:Type}(S:ι->Xb)(O:ι->AB)(I:ι->Prop)(k:ι->Nat)(g:ι)(o:I g)(y:Xj m c=S g)(x:l=O g)
 (step:∀i,I i->∀R:Yt,(∀f j b a d,Wk a d->I j->k j<k i->Xj b c=S j->Xh (AE (fresh (O i)) f) d=O j->Za (AE (fresh (O i)) f) (S j)=true->AH (AE (fresh (O i)) f) (O j)=true->R .normal b a)->
  (∀n b a,Q (.exit n) b a->R (.exit n) b a)->(∀b a,Q .ret b a->R .ret b a)->(∀v b a,Q (.panic v) b a->R (.panic v) b a)->e R (S i) (O i)):Ae c e Q m l:=by
 refine Ae.of S O I k g o y x λi w=>step i w _ (λf j b a d z p q r s t u=>?_) (λ_ _ _ h=>h) (λ_ _ h=>h) (λ_ _ _ h=>h);simp only[Wt,sub];refine⟨f,d,z,?_⟩;rw[r,s];exact⟨t,u,j,p,q,rfl,rfl⟩
@[congr]def cwp_congr{P:Az}{s:S}{Q:Yt}{d b:Xb}{c a:AB}(h:d=b)(e:c=a):Co P s Q d c=Co P s Q b a:=by rw[h,e]
def KJ:V->V->V->V
|.d (.bool t),.d (.bool x),.d (.bool y)=>.d (.bool (if t then x else y))
|.d (.bool t),x,y=>if t then x else y
|_,_,_=>.any
def M0:V->V
|.d (.bool b)=>.d (.bool (!b))
|_=>.any
def kI:V->V
|.d (.int k n)=>.d (.int k (k.wrap (0-n)))
|_=>.any
def N6:V->V
|.d (.int k n)=>.d (.int k (Yu .xor k (if k.signed then -1 else k.max) n))
|_=>.any
def Ul(c:BinOp)(k:IntKind)(a b:Int):V:=
 match c with
 |.add=>.d (.int k (k.wrap (a+b)))
 |.sub=>.d (.int k (k.wrap (a-b)))
 |.mul=>.d (.int k (k.wrap (a*b)))
 |.quo=>.d (.int k (k.wrap (a.tdiv b)))
 |.rem=>.d (.int k (a.tmod b))
 |.and|.or|.xor|.andNot=>.d (.int k (Yu c k a b))
 |.shl=>.d (.int k (k.wrap (a*2 ^ (min b.toNat k.bits))))
 |.shr=>.d (.int k (a.fdiv (2 ^ (min b.toNat k.bits))))
 |.eql=>.d (.bool (a==b))
 |.neq=>.d (.bool (a != b))
 |.lss=>.d (.bool (decide (a<b)))
 |.leq=>.d (.bool (decide (a<=b)))
 |.gtr=>.d (.bool (decide (b<a)))
 |.geq=>.d (.bool (decide (b<=a)))
def M8(a:BinOp)(x y:List UInt8):V:=
 match a with
 |.add=>.d (.AM (x++y))
 |.eql=>.d (.bool (x==y))
 |.neq=>.d (.bool (x != y))
 |.lss=>.d (.bool (Op.bytesLess x y))
 |.leq=>.d (.bool (Op.bytesLess x y||x==y))
 |.gtr=>.d (.bool (!(Op.bytesLess x y||x==y)))
 |.geq=>.d (.bool (!Op.bytesLess x y))
 |_=>.any
def N0(c:BinOp):V->V->V
|.d (.int k a),.d (.int _ b)=>Ul c k a b
|.d (.AM x),.d (.AM y)=>M8 c x y
|_,_=>.any
def LP(e:Bool):V->V
|.d .Bo=>.d (.bool e)
|.iface _ _=>.d (.bool (!e))
|.d (.iface _ _)=>.d (.bool (!e))
|_=>.any
def lr(e:Bool):V->V
|.d .Bl=>.d (.bool e)
|.d (.fn _ _ _)=>.d (.bool (!e))
|.fn _ _ _=>.d (.bool (!e))
|_=>.any
def OI:V->V
|.sl id n=>.sd id n
|.d .AT=>.d .B1
|_=>.any
def N8(k:IntKind):V->V
|.d (.int _ n)=>.d (.int k (k.wrap n))
|_=>.any
def Sq:V->V->V
|.d (.AM s),.d (.int _ n)=>.d (.int .u8 (s.getD n.toNat 0).toNat)
|_,_=>.any
def K4(z:Nat):V->V->V
|.d (.AF _ b),.d (.int _ n)=>.d (.Bd (b.getD n.toNat default))
|.sl id n,.d (.int _ m)=>.ep id n z m.toNat 0 []
|.bs id p a _,.d (.int _ m)=>.ptr id (p++[a+m.toNat])
|_,_=>.any
def La:V->V->V
|.ptr id p,.d (.int _ n)=>.ptr id (p++[n.toNat])
|.d (.Bd (.agg a)),.d (.int _ n)=>.d (.Bd (a.getD n.toNat default))
|_,_=>.any
def W3(f a:Nat):V->V
|.ptr id p=>.ptr id (p++[f])
|.ep id n z i g p=>.ep id n z i (g+a) (p++[f])
|.d (.Bd (.agg b))=>.d (.Bd (b.getD f default))
|_=>.any
def Zii(f:Nat):Option (List V)->V
|some a=>a.getD f .any
|none=>.any
def Mq:Option V->V
|some v=>v
|none=>.any
def Ga(a:AB):V->V
|.ptr id p=>Mq (Cj a id p)
|.d (.Bd x)=>.d x
|.ep id m z i f p=>Mq (FW a id m z i f p)
|_=>.any
def Nv:V->V
|.d (.AM s)=>.d (.int .i64 s.length)
|_=>.any
def Hj:V->V
|.d (.AF _ a)=>.d (.int .i64 a.length)
|.d .AT=>.d (.int .i64 0)
|.sl _ n=>.d (.int .i64 n)
|.bs _ _ _ n=>.d (.int .i64 n)
|_=>.any
def Ku(a:Nat)(K:Nat->Nat->V):Option V->Option V->V
|none,none=>K 0 a
|some (.d (.int _ l)),none=>K l.toNat a
|none,some (.d (.int _ h))=>K 0 h.toNat
|some (.d (.int _ l)),some (.d (.int _ h))=>K l.toNat h.toNat
|_,_=>.any
def Hn(b a:Option V):V->V
|.d (.AM s)=>Ku s.length (λl h=>.d (.AM ((s.take h).drop l))) b a
|_=>.any
def PQ(c b:Option V):V->V
|.d (.AF e a)=>Ku a.length (λl h=>.d (.AF e ((a.take h).drop l))) c b
|_=>.any
def Pl(i:Nat):V->V
|.BE a=>a.getD i .any
|_=>.any
def Px(t:Nat)(z:D):V->V
|.iface a v=>if a=t then .BE [v,.d (.bool true)] else .BE [.d z,.d (.bool false)]
|.d (.iface a x)=>if a=t then .BE [.d x,.d (.bool true)] else .BE [.d z,.d (.bool false)]
|.d .Bo=>.BE [.d z,.d (.bool false)]
|_=>.any
def Pj(e:Bool):V->V->V
|.d x,.d y=>.d (.bool (D.Bg x y==e))
|_,_=>.any
def PV:V->V->V
|.d (.agg a),.d (.int _ n)=>.d (a.getD n.toNat default)
|_,_=>.any
def C.val(d:Xb)(m:AB):C->V
|.mv x=>x.ev d
|.pick c a b=>KJ (c.ev d) (a.ev d) (b.ev d)
|.not x=>M0 (x.ev d)
|.neg x=>kI (x.ev d)
|.GA x=>N6 (x.ev d)
|.Bc n x y=>N0 n (x.ev d) (y.ev d)
|.Cr e x=>LP e (x.ev d)
|.EG e x=>lr e (x.ev d)
|.G4 x=>OI (x.ev d)
|.Gy k x=>N8 k (x.ev d)
|.Fl x i=>Sq (x.ev d) (i.ev d)
|.DI z x i=>K4 z (x.ev d) (i.ev d)
|.B9 _ _ x i=>La (x.ev d) (i.ev d)
|.BW f l x=>W3 f l (x.ev d)
|.IX f _ _ _ x=>Zii f (x.ev d).BM
|.ld _ _ x=>Ga m (x.ev d)
|.Cw x=>x.ev d
|.C2 x=>Nv (x.ev d)
|.CV x=>Hj (x.ev d)
|.CY x j h=>Hn (j.map (A.ev d)) (h.map (A.ev d)) (x.ev d)
|.Ck _ x j h=>PQ (j.map (A.ev d)) (h.map (A.ev d)) (x.ev d)
|.ext x i=>Pl i (x.ev d)
|.E0 _ _=>.any
|.D5 f first g=>Ms f (first.map (A.ev d)) (g.map (A.ev d))
|.G1 t x=>JS t (x.ev d)
|.G3 t z x=>Px t z (x.ev d)
|.GV _ e x y=>Pj e (x.ev d) (y.ev d)
|.GR _ _ _ x i=>PV (x.ev d) (i.ev d)
def C.ok(b:Xb)(a:AB)(c:C):Prop:=c.wp b a λv=>v=c.val b a
def X3m{c:BinOp}{k f:IntKind}{a b:Int}{K d:V->Prop}(e:∀v,K v->d v)(h:Ht c k f a b K):Ht c k f a b d:=by
 cases c<;>simp only[Ht]at h⊢<;>first|exact⟨h.1,e _ h.2⟩|exact⟨h.1,h.2.1,e _ h.2.2⟩
def X77{c:BinOp}{a b:List UInt8}{K d:V->Prop}(e:∀v,K v->d v)(h:Iz c a b K):Iz c a b d:=by
 cases c<;>simp only[Iz]at h⊢<;>first|exact e _ h|exact⟨h.1,e _ h.2⟩|cases h
def dm{n:Nat}{K a:Nat->Nat->Prop}(d:∀l h,K l h->a l h){c b:Option V}(h:Jn n K c b):Jn n a c b:=by
 unfold Jn at h⊢;split<;>simp_all
def Qj{K a:List V->Prop}(b:∀l,K l->a l):∀(d:List (Nat×V)) (c:List V),Dz c d K->Dz c d a
|[],_,h=>b _ h
|(_,_)::r,_,h=>⟨h.1,h.2.1,h.2.2.1,Qj b r _ h.2.2.2⟩
def C.wp_mono{sl:Xb}{ob:AB}{K b:V->Prop}(a:∀v,K v->b v)(c:C)(h:c.wp sl ob K):c.wp sl ob b:=by
 cases c<;>simp only[C.wp]at h⊢
 case mv=>exact a _ h
 case D5=>exact a _ h
 case G1=>exact a _ h
 case E0=>exact Qj (λ_=>a _) _ _ h
 case Bc x y=>
  generalize A.ev sl x=v at h⊢;generalize A.ev sl y=u at h⊢;unfold Hq at h;split at h
  ·exact X3m a h
  ·exact X77 a h
  ·cases h
 case CY x lo hi=>
  generalize A.ev sl x=v at h⊢;unfold Ky at h;split at h
  ·exact dm (λ_ _=>a _) h
  ·cases h
 case Ck x lo hi=>
  generalize A.ev sl x=v at h⊢;unfold Kx at h;split at h
  ·exact⟨h.1,dm (λ_ _=>a _) h.2⟩
  ·cases h
 case pick x y z=>
  generalize A.ev sl x=v at h⊢;generalize A.ev sl y=u at h⊢;generalize A.ev sl z=t at h⊢;unfold IE at h;split at h
  ·exact a _ h
  next d=>simp only[IE];exact⟨λe=>a _ (h.1 e),λe=>a _ (h.2 e)⟩
  ·cases h
 case IX x=>
  generalize (A.ev sl x).BM=v at h⊢;unfold N9 at h;split at h
  ·exact⟨h.1,h.2.1,h.2.2.1,h.2.2.2.1,a _ h.2.2.2.2⟩
  ·cases h
 case BW x=>
  generalize A.ev sl x=v at h⊢;unfold Vk at h;split at h
  ·simp only[Vk];generalize Y4 _=v at h⊢;unfold Qr at h;split at h
   ·exact⟨h.1,h.2.1,a _ h.2.2⟩
   ·cases h
  ·exact⟨h.1,h.2.1,a _ h.2.2⟩
  ·exact a _ h
  ·cases h
 case ld x=>
  generalize A.ev sl x=v at h⊢;unfold D4 at h;split at h
  ·simp only[D4];generalize Cj _ _ _=v at h⊢;unfold F4 at h;split at h
   ·exact⟨h.1,h.2.1,a _ h.2.2⟩
   ·cases h
  ·exact⟨h.1,h.2.1,a _ h.2.2⟩
  ·simp only[D4];generalize FW _ _ _ _ _ _ _=v at h⊢;unfold F4 at h;split at h
   ·exact⟨h.1,h.2.1,a _ h.2.2⟩
   ·cases h
  ·cases h
 case G3 x=>
  generalize A.ev sl x=v at h⊢;unfold L1 at h;split at h
  ·exact⟨λe=>a _ (h.1 e),λe=>a _ (h.2 e)⟩
  ·exact⟨λe=>a _ (h.1 e),λe=>a _ (h.2 e)⟩
  ·exact a _ h
  ·cases h
 case EG x=>generalize A.ev sl x=v at h⊢;unfold Np at h;split at h<;>first|exact a _ h|cases h
 case G4 x=>generalize A.ev sl x=v at h⊢;unfold IS at h;split at h<;>first|exact⟨h.1,a _ h.2⟩|exact a _ h|cases h
 case not x=>generalize A.ev sl x=v at h⊢;unfold JU at h;split at h<;>first|exact a _ h|cases h
 case GA x=>generalize A.ev sl x=v at h⊢;unfold Kv at h;split at h<;>first|exact a _ h|cases h
 case neg x=>generalize A.ev sl x=v at h⊢;unfold OF at h;split at h<;>first|exact a _ h|cases h
 case Cr x=>generalize A.ev sl x=v at h⊢;unfold Ud at h;split at h<;>first|exact a _ h|cases h
 case Gy x=>generalize A.ev sl x=v at h⊢;unfold JK at h;split at h<;>first|exact a _ h|cases h
 case Cw x=>generalize A.ev sl x=v at h⊢;unfold He at h;split at h<;>first|exact a _ h|cases h
 case C2 x=>generalize A.ev sl x=v at h⊢;unfold KH at h;split at h<;>first|exact a _ h|cases h
 case CV x=>generalize A.ev sl x=v at h⊢;unfold Hi at h;split at h<;>first|exact a _ h|exact⟨h.1,a _ h.2⟩|cases h
 case ext x _=>generalize A.ev sl x=v at h⊢;unfold Km at h;split at h<;>first|exact⟨h.1,a _ h.2⟩|cases h
 case GV x y=>generalize A.ev sl x=v at h⊢;generalize A.ev sl y=u at h⊢;unfold Ss at h;split at h<;>first|exact⟨h.1,h.2.1,a _ h.2.2⟩|cases h
 case GR x y=>generalize A.ev sl x=v at h⊢;generalize A.ev sl y=u at h⊢;unfold Nu at h;split at h<;>first|exact⟨h.1,h.2.1,h.2.2.1,a _ h.2.2.2⟩|cases h
 case Fl x y=>generalize A.ev sl x=v at h⊢;generalize A.ev sl y=u at h⊢;unfold Kn at h;split at h<;>first|exact⟨h.1,a _ h.2⟩|cases h
 case DI x y=>generalize A.ev sl x=v at h⊢;generalize A.ev sl y=u at h⊢;unfold J0 at h;split at h<;>first|exact⟨h.1,h.2.1,a _ h.2.2⟩|cases h
 case B9 x y=>generalize A.ev sl x=v at h⊢;generalize A.ev sl y=u at h⊢;unfold Il at h;split at h<;>first|exact⟨h.1,h.2.1,a _ h.2.2⟩|exact⟨h.1,h.2.1,h.2.2.1,a _ h.2.2.2⟩|cases h
def Rck{b:Xb}{a:AB}{K:V->Prop}{c:C}(h:c.ok b a)(d:K (c.val b a)):c.wp b a K:=
 C.wp_mono (λ_ e=>e▸d) c h
inductive E where
|a (x:A)
|u (c:C) (x:E)
|b (c:C) (x y:E)
|t (c:C) (x y z:E)
|ite (c x y:E)
|call (f:Nat) (x:E)
|nil
|cons (x r:E)
structure Fn where
 pre:List V->Prop
 val:List V->V
abbrev Cy:=List (Nat×Fn)
def Ha:Cy->Nat->Option Fn
|[],_=>none
|(j,x)::r,k=>if j=k then some x else Ha r k
def BD(P:Az)(T:Cy):Prop:=∀f F,Ha T f=some F->∀a,F.pre a->∀(b:AB)(K:V->Prop),K (F.val a)->AU P f a b K
def Gz(a:Bool):V->Bool
|.d (.bool b)=>b==a
|_=>false
def KE:V->Prop
|.d (.bool _)=>True
|_=>False
def RB(x:V):V->V
|.BE a=>.BE (x::a)
|_=>.any
def XU:Option Fn->V->V
|some F,.BE a=>F.val a
|_,_=>.any
def Tx:Option Fn->V->Prop
|some F,.BE a=>F.pre a
|_,_=>False
def E.val(T:Cy)(e:Xb)(d:AB):E->V
|.a x=>x.ev e
|.u c x=>c.val [(0,x.val T e d)] d
|.b c x y=>c.val [(0,x.val T e d),(1,y.val T e d)] d
|.t c x y z=>c.val [(0,x.val T e d),(1,y.val T e d),(2,z.val T e d)] d
|.ite c x y=>KJ (c.val T e d) (x.val T e d) (y.val T e d)
|.call f x=>XU (Ha T f) (x.val T e d)
|.nil=>.BE []
|.cons x r=>RB (x.val T e d) (r.val T e d)
def E.ok(T:Cy)(e:Xb)(d:AB):E->Prop
|.a _=>True
|.u c x=>x.ok T e d/\c.ok [(0,x.val T e d)] d
|.b c x y=>x.ok T e d/\y.ok T e d/\c.ok [(0,x.val T e d),(1,y.val T e d)] d
|.t c x y z=>x.ok T e d/\y.ok T e d/\z.ok T e d/\c.ok [(0,x.val T e d),(1,y.val T e d),(2,z.val T e d)] d
|.ite c x y=>c.ok T e d/\KE (c.val T e d)/\(Gz true (c.val T e d)=true->x.ok T e d)/\(Gz false (c.val T e d)=true->y.ok T e d)
|.call f x=>x.ok T e d/\Tx (Ha T f) (x.val T e d)
|.nil=>True
|.cons x r=>x.ok T e d/\r.ok T e d
def A.BJ(k:Nat):A->Bool
|.t j=>j==k
|_=>false
def E.BJ(k:Nat):E->Bool
|.a x=>x.BJ k
|.u _ x=>x.BJ k
|.b _ x y=>x.BJ k||y.BJ k
|.t _ x y z=>x.BJ k||y.BJ k||z.BJ k
|.ite x y z=>x.BJ k||y.BJ k||z.BJ k
|.call _ x=>x.BJ k
|.nil=>false
|.cons x y=>x.BJ k||y.BJ k
def C.rd:C->Bool
|.ld _ _ _=>true
|_=>false
def E.rd:E->Bool
|.a _=>false
|.u c x=>c.rd||x.rd
|.b c x y=>c.rd||x.rd||y.rd
|.t c x y z=>c.rd||x.rd||y.rd||z.rd
|.ite x y z=>x.rd||y.rd||z.rd
|.call _ x=>x.rd
|.nil=>false
|.cons x y=>x.rd||y.rd
def E.pD:E->Bool
|.a _=>true
|_=>false
def HX{T:Cy}{g:Xb}{d:AB}{k:Nat}{v:V}:∀{e:E},e.BJ k=false->e.val T ((k,v)::g) d=e.val T g d
|.a x,h=>by
 cases x<;>simp only[E.val,A.ev];rename_i j;simp only[E.BJ,A.BJ,HZ,ne_eq]at h;have i:¬k=j:=λe=>h e.symm;simp[Ay,i]
|.u c x,h=>by simp only[E.BJ]at h;simp only[E.val,HX h]
|.b c x y,h=>by simp only[E.BJ,FC]at h;simp only[E.val,HX h.1,HX h.2]
|.t c x y z,h=>by simp only[E.BJ,FC]at h;simp only[E.val,HX h.1.1,HX h.1.2,HX h.2]
|.ite x y z,h=>by simp only[E.BJ,FC]at h;simp only[E.val,HX h.1.1,HX h.1.2,HX h.2]
|.call f x,h=>by simp only[E.BJ]at h;simp only[E.val,HX h]
|.nil,_=>rfl
|.cons x y,h=>by simp only[E.BJ,FC]at h;simp only[E.val,HX h.1,HX h.2]
def C.B5{a:Xb}{b ob':AB}{c:C}(h:c.rd=false):c.val a b=c.val a ob':=by
 cases c<;>simp_all[C.rd,C.val]
def E.B5{T:Cy}{d:Xb}{g ob':AB}:∀{e:E},e.rd=false->e.val T d g=e.val T d ob'
|.a x,h=>rfl
|.u c x,h=>by simp only[E.rd,FC]at h;simp only[E.val,E.B5 (ob':=ob') h.2,C.B5 (ob':=ob') h.1]
|.b c x y,h=>by simp only[E.rd,FC]at h;simp only[E.val,E.B5 (ob':=ob') h.1.2,E.B5 (ob':=ob') h.2,C.B5 (ob':=ob') h.1.1]
|.t c x y z,h=>by simp only[E.rd,FC]at h;simp only[E.val,E.B5 (ob':=ob') h.1.1.2,E.B5 (ob':=ob') h.1.2,E.B5 (ob':=ob') h.2,C.B5 (ob':=ob') h.1.1.1]
|.ite x y z,h=>by simp only[E.rd,FC]at h;simp only[E.val,E.B5 (ob':=ob') h.1.1,E.B5 (ob':=ob') h.1.2,E.B5 (ob':=ob') h.2]
|.call f x,h=>by simp only[E.rd]at h;simp only[E.val,E.B5 (ob':=ob') h]
|.nil,_=>rfl
|.cons x y,h=>by simp only[E.rd,FC]at h;simp only[E.val,E.B5 (ob':=ob') h.1,E.B5 (ob':=ob') h.2]
abbrev Qd:=List (Nat×Bool)
abbrev Sg:=List (Nat×Option (Qd×E))
def Wq:Sg->Nat->Option (Option (Qd×E))
|[],_=>none
|(j,x)::r,k=>if j=k then some x else Wq r k
def DH(b:Sg)(k:Nat):Option (Qd×E):=match Wq b k with
|none=>some ([],.a (.t k))
|some x=>x
def Xt(a:Xb)(p:Qd):Bool:=p.all λg=>Gz g.2 (Ay a g.1)
def Zz(T:Cy)(b:Xb)(a:AB)(p:List (E×Bool)):Bool:=p.all λg=>Gz g.2 (g.1.val T b a)
def Dk(T:Cy)(d:Sg)(a b:Xb)(c:AB):Prop:=∀k p e,DH d k=some (p,e)->
 (Xt a p=true->Ay a k=e.val T b c)/\(Xt a p=false->Ay a k=.undef)
def EV(b:Sg)(p:Qd):A->Option E
|.t k=>match DH b k with
 |some (q,e)=>if q.isPrefixOf p then some e else none
 |none=>none
|x=>some (.a x)
def Vn(a:Sg)(p:Qd)(c:C)(x:A):Option E:=match EV a p x with
|some x=>some (.u c x)
|none=>none
def Hk(a:Sg)(p:Qd)(c:C)(x y:A):Option E:=match EV a p x,EV a p y with
|some x,some y=>some (.b c x y)
|_,_=>none
def Pa(a:Sg)(p:Qd)(c:C)(x y z:A):Option E:=match EV a p x,EV a p y,EV a p z with
|some x,some y,some z=>some (.t c x y z)
|_,_,_=>none
def oN(a:Sg)(p:Qd)(g:Nat)(x y:A):Option E:=match EV a p (.t g),EV a (p++[(g,true)]) x,EV a (p++[(g,false)]) y with
|some c,some x,some y=>some (.ite c x y)
|_,_,_=>none
def Nq(a:Sg)(p:Qd):List A->Option E
|[]=>some .nil
|x::r=>match EV a p x,Nq a p r with
 |some x,some r=>some (.cons x r)
 |_,_=>none
def C.AZ(a:Sg)(p:Qd):C->Option E
|.mv x=>EV a p x
|.pick (.t g) x y=>oN a p g x y
|.pick _ _ _=>none
|.not x=>Vn a p (.not (.t 0)) x
|.neg x=>Vn a p (.neg (.t 0)) x
|.GA x=>Vn a p (.GA (.t 0)) x
|.Bc o x y=>Hk a p (.Bc o (.t 0) (.t 1)) x y
|.Cr e x=>Vn a p (.Cr e (.t 0)) x
|.EG e x=>Vn a p (.EG e (.t 0)) x
|.G4 x=>Vn a p (.G4 (.t 0)) x
|.Gy k x=>Vn a p (.Gy k (.t 0)) x
|.Fl x i=>Hk a p (.Fl (.t 0) (.t 1)) x i
|.DI z x i=>Hk a p (.DI z (.t 0) (.t 1)) x i
|.B9 n z x i=>Hk a p (.B9 n z (.t 0) (.t 1)) x i
|.BW f c x=>Vn a p (.BW f c (.t 0)) x
|.IX f c n b x=>Vn a p (.IX f c n b (.t 0)) x
|.ld n b x=>Vn a p (.ld n b (.t 0)) x
|.Cw x=>Vn a p (.Cw (.t 0)) x
|.C2 x=>Vn a p (.C2 (.t 0)) x
|.CV x=>Vn a p (.CV (.t 0)) x
|.CY x none none=>Vn a p (.CY (.t 0) none none) x
|.CY x (some l) none=>Hk a p (.CY (.t 0) (some (.t 1)) none) x l
|.CY x none (some h)=>Hk a p (.CY (.t 0) none (some (.t 1))) x h
|.CY x (some l) (some h)=>Pa a p (.CY (.t 0) (some (.t 1)) (some (.t 2))) x l h
|.Ck z x none none=>Vn a p (.Ck z (.t 0) none none) x
|.Ck z x (some l) none=>Hk a p (.Ck z (.t 0) (some (.t 1)) none) x l
|.Ck z x none (some h)=>Hk a p (.Ck z (.t 0) none (some (.t 1))) x h
|.Ck z x (some l) (some h)=>Pa a p (.Ck z (.t 0) (some (.t 1)) (some (.t 2))) x l h
|.ext x i=>Vn a p (.ext (.t 0) i) x
|.G1 t x=>Vn a p (.G1 t (.t 0)) x
|.G3 t z x=>Vn a p (.G3 t z (.t 0)) x
|.GV d e x y=>Hk a p (.GV d e (.t 0) (.t 1)) x y
|.GR n z b x i=>Hk a p (.GR n z b (.t 0) (.t 1)) x i
|.E0 _ _=>none
|.D5 _ _ _=>none
def I.AZ(d:List Nat)(b:Sg)(p:Qd):I->Option E
|.c x=>x.AZ b p
|.BX f a=>if d.contains f then (match Nq b p a with|some e=>some (.call f e)|none=>none) else none
|_=>none
def Eo(a:Sg)(p:Qd):A->List Nat
|.t k=>match DH a k with
 |some (q,_)=>if q==p then[k] else[]
 |none=>[]
|_=>[]
def TC(a:Sg)(p:Qd):List A->List Nat
|[]=>[]
|x::r=>Eo a p x++TC a p r
def C.cons(a:Sg)(p:Qd):C->List Nat
|.mv x|.not x|.neg x|.GA x|.Cr _ x|.EG _ x|.G4 x|.Gy _ x|.BW _ _ x|.IX _ _ _ _ x|.ld _ _ x|.Cw x|.C2 x|.CV x|.ext x _|.G1 _ x|.G3 _ _ x=>Eo a p x
|.Bc _ x y|.Fl x y|.DI _ x y|.B9 _ _ x y|.GV _ _ x y|.GR _ _ _ x y=>Eo a p x++Eo a p y
|.CY x none none|.Ck _ x none none=>Eo a p x
|.CY x (some y) none|.Ck _ x (some y) none|.CY x none (some y)|.Ck _ x none (some y)=>Eo a p x++Eo a p y
|.CY x (some y) (some z)|.Ck _ x (some y) (some z)=>Eo a p x++Eo a p y++Eo a p z
|.pick (.t g) x y=>Eo a p (.t g)++Eo a (p++[(g,true)]) x++Eo a (p++[(g,false)]) y
|_=>[]
def I.cons(b:Sg)(p:Qd):I->List Nat
|.c x=>x.cons b p
|.BX _ a=>TC b p a
|_=>[]
def I.GY(a:Sg)(p:Qd):I->List Nat
|.c (.pick (.t g) _ _)=>Eo a p (.t g)
|_=>[]
section
variable {P:Az} {T:Cy} {σ:Sg} {sl sl0:Xb} {ob:AB} {p:Qd}
def uX{q:Qd}(h:q.isPrefixOf p=true)(a:Xt sl p=true):Xt sl q=true:=by
 rw[List.isPrefixOf_iff_prefix]at h;obtain⟨t,rfl⟩:=h;simp only[Xt,QY,As]at a⊢;exact a.1
def Wb(a:Dk T σ sl sl0 ob)(c:Xt sl p=true){x:A}{e:E}(h:EV σ p x=some e):e.val T sl0 ob=x.ev sl:=by
 cases x with
 |t k=>
  simp only[EV]at h;split at h
  ·rename_i q f b;split at h
   next d=>cases h;exact((a k q e b).1 (uX d c)).symm
   ·cases h
  ·cases h
 |_=>simp only[EV]at h;cases h;rfl
def Xvf{c:C}{x:A}{e:E}(h:Vn σ p c x=some e):∃a,e=.u c a/\EV σ p x=some a:=by
 unfold Vn at h;split at h
 ·cases h;exact⟨_,rfl,by assumption⟩
 ·cases h
def Xvg{c:C}{x y:A}{e:E}(h:Hk σ p c x y=some e):∃a d,e=.b c a d/\EV σ p x=some a/\EV σ p y=some d:=by
 unfold Hk at h;split at h
 ·cases h;exact⟨_,_,rfl,by assumption,by assumption⟩
 ·cases h
def Xvh{c:C}{x y z:A}{e:E}(h:Pa σ p c x y z=some e):∃a b d,e=.t c a b d/\EV σ p x=some a/\EV σ p y=some b/\EV σ p z=some d:=by
 unfold Pa at h;split at h
 ·cases h;exact⟨_,_,_,rfl,by assumption,by assumption,by assumption⟩
 ·cases h
def fJ{g:Nat}{x y:A}{e:E}(h:oN σ p g x y=some e):∃a b c,e=.ite a b c/\EV σ p (.t g)=some a/\EV σ (p++[(g,true)]) x=some b/\EV σ (p++[(g,false)]) y=some c:=by
 unfold oN at h;split at h
 ·cases h;exact⟨_,_,_,rfl,by assumption,by assumption,by assumption⟩
 ·cases h
def wA(a:Dk T σ sl sl0 ob)(b:Xt sl p=true):∀{c:List A}{e:E},Nq σ p c=some e->e.val T sl0 ob=.BE (c.map (A.ev sl))
|[],e,h=>by simp only[Nq]at h;cases h;rfl
|x::r,e,h=>by
 simp only[Nq]at h;split at h
 next i g f d=>cases h;simp only[E.val,Wb a b f,wA a b d,RB,Cg]
 ·cases h
def tc(x y:V):KJ (.d (.bool true)) x y=x:=by unfold KJ;split<;>simp_all
def tY(x y:V):KJ (.d (.bool false)) x y=y:=by unfold KJ;split<;>simp_all
def tZ{v:V}(h:¬KE v)(x y:V):KJ v x y=.any:=by unfold KJ;split<;>simp_all[KE]
def eA{v:V}(h:KE v):v=.d (.bool true)\/v=.d (.bool false):=by
 unfold KE at h;split at h
 next b=>cases b<;>simp
 ·cases h
def C.BA(k:Dk T σ sl sl0 ob)(l:Xt sl p=true){c:C}{e:E}(h:c.AZ σ p=some e):e.val T sl0 ob=c.val sl ob/\(e.ok T sl0 ob->c.ok sl ob):=by
 have v:∀{c x},Vn σ p c x=some e->∃a,e=.u c a/\a.val T sl0 ob=x.ev sl:=λh=>by
  obtain⟨a,rfl,f⟩:=Xvf h;exact⟨a,rfl,Wb k l f⟩
 have w:∀{c x y},Hk σ p c x y=some e->∃a i,e=.b c a i/\a.val T sl0 ob=x.ev sl/\i.val T sl0 ob=y.ev sl:=λh=>by
  obtain⟨a,i,rfl,f,m⟩:=Xvg h;exact⟨a,i,rfl,Wb k l f,Wb k l m⟩
 have F:∀{c x y z},Pa σ p c x y z=some e->∃a i n,e=.t c a i n/\a.val T sl0 ob=x.ev sl/\i.val T sl0 ob=y.ev sl/\n.val T sl0 ob=z.ev sl:=λh=>by
  obtain⟨a,i,n,rfl,f,m,r⟩:=Xvh h;exact⟨a,i,n,rfl,Wb k l f,Wb k l m,Wb k l r⟩
 unfold C.AZ at h;split at h
 case h_1=>exact⟨by rw[Wb k l h];rfl,λ_=>rfl⟩
 case h_2 g x y=>
  obtain⟨G,a,i,rfl,s,f,m⟩:=fJ h;have o:=Wb k l s;simp only[A.ev]at o;have q:∀b,Ay sl g=.d (.bool b)->Xt sl (p++[(g,b)])=true:=λb j=>by
   simp only[Xt,QY,As]at l⊢;exact⟨l,by simp[j,Gz]⟩
  simp only[E.val,E.ok,C.val,C.ok,C.wp,XK,o];by_cases j:KE (Ay sl g)
  ·rcases eA j with j|j
   ·have:=Wb k (q true j) f;rw[j];simp only[tc,Ypg,this];exact⟨trivial,λ_=>trivial⟩
   ·have:=Wb k (q false j) m;rw[j];simp only[tY,Ypf,this];exact⟨trivial,λ_=>trivial⟩
  ·rw[tZ j,tZ j];exact⟨rfl,λh=>(j h.2.1).elim⟩
 all_goals first
 |(cases h;done)
 |(obtain⟨a,rfl,f⟩:=v h;simp only[E.val,E.ok,C.val,C.ok,C.wp,XK,gi,f,Option.map];exact⟨trivial,λh=>h.2⟩)
 |(obtain⟨a,i,rfl,f,m⟩:=w h;simp only[E.val,E.ok,C.val,C.ok,C.wp,XK,gi,rm,Nat.reduceBEq,f,m,Option.map];exact⟨trivial,λh=>h.2.2⟩)
 |(obtain⟨a,i,n,rfl,f,m,r⟩:=F h;simp only[E.val,E.ok,C.val,C.ok,C.wp,XK,gi,rm,Nat.reduceBEq,f,m,r,Option.map];exact⟨trivial,λh=>h.2.2.2⟩)
def Wu{x:A}{k:Nat}{b:E}(a:k∈Eo σ p x)(h:EV σ p x=some b):DH σ k=some (p,b):=by
 cases x with
 |t j=>
  simp only[Eo]at a;simp only[EV]at h;split at a
  ·rename_i q e c;split at a
   next d=>simp at a;subst a;simp at d;subst d;rw[c]at h;simp at h;rw[c,h]
   ·cases a
  ·cases a
 |_=>simp[Eo]at a
def Y2{g:Nat}{b:Bool}:Xt sl (p++[(g,b)])=(Xt sl p&&Gz b (Ay sl g)):=by
 simp[Xt,QY]
def Xwm:∀{d:List A}{e:E},Nq σ p d=some e->∀{k q b},k∈TC σ p d->DH σ k=some (q,b)->q=p/\(e.ok T sl0 ob->b.ok T sl0 ob)
|[],_,_,k,_,_,a,_=>by simp[TC]at a
|x::r,e,h,k,q,b,a,c=>by
 simp only[Nq]at h;split at h
 ·rename_i m l j i;cases h;simp only[TC,DF]at a;rcases a with a|a
  ·have:=Wu a j;rw[c]at this;cases this;exact⟨rfl,λh=>h.1⟩
  ·obtain⟨f,g⟩:=Xwm i a c;exact⟨f,λh=>g h.2⟩
 ·cases h
def C.od(s:Dk T σ sl sl0 ob){c:C}{e:E}(h:c.AZ σ p=some e){k:Nat}{q:Qd}{j:E}(a:k∈c.cons σ p)(d:DH σ k=some (q,j))(b:Xt sl q=true)(f:Xt sl p=true->e.ok T sl0 ob):j.ok T sl0 ob:=by
 have u:∀{c x},Vn σ p c x=some e->k∈Eo σ p x->j.ok T sl0 ob:=λh a=>by
  obtain⟨m,rfl,i⟩:=Xvf h;have:=Wu a i;rw[d]at this;cases this;exact(f b).1
 have v:∀{c x y},Hk σ p c x y=some e->k∈Eo σ p x++Eo σ p y->j.ok T sl0 ob:=λh a=>by
  obtain⟨m,r,rfl,i,l⟩:=Xvg h;rw[DF]at a;rcases a with a|a
  ·have:=Wu a i;rw[d]at this;cases this;exact(f b).1
  ·have:=Wu a l;rw[d]at this;cases this;exact(f b).2.1
 have w:∀{c x y z},Pa σ p c x y z=some e->k∈Eo σ p x++Eo σ p y++Eo σ p z->j.ok T sl0 ob:=λh a=>by
  obtain⟨m,r,G,rfl,i,l,t⟩:=Xvh h;rw[DF,DF]at a;rcases a with (a|a)|a
  ·have:=Wu a i;rw[d]at this;cases this;exact(f b).1
  ·have:=Wu a l;rw[d]at this;cases this;exact(f b).2.1
  ·have:=Wu a t;rw[d]at this;cases this;exact(f b).2.2.1
 unfold C.AZ at h;split at h<;>simp only[C.cons]at a
 case h_1=>
  have:=Wu a h;rw[d]at this;cases this;exact f b
 case h_2 g x y=>
  obtain⟨F,m,r,rfl,n,i,l⟩:=fJ h;rw[DF,DF]at a;rcases a with (a|a)|a
  ·have:=Wu a n;rw[d]at this;cases this;exact(f b).1
  ·have:=Wu a i;rw[d]at this;cases this;rw[Y2,As]at b;have o:=Wb s b.1 n;exact(f b.1).2.2.1 (by rw[o];exact b.2)
  ·have:=Wu a l;rw[d]at this;cases this;rw[Y2,As]at b;have o:=Wb s b.1 n;exact(f b.1).2.2.2 (by rw[o];exact b.2)
 all_goals first
 |(cases h;done)
 |exact u h a
 |exact v h a
 |exact w h a
 |(cases a;done)
def I.od(n:Dk T σ sl sl0 ob){l:List Nat}{i:I}{e:E}(h:i.AZ l σ p=some e){k:Nat}{q:Qd}{b:E}(a:k∈i.cons σ p)(d:DH σ k=some (q,b))(j:Xt sl q=true)(g:Xt sl p=true->e.ok T sl0 ob):b.ok T sl0 ob:=by
 cases i<;>simp only[I.AZ]at h<;>simp only[I.cons]at a
 case c x=>exact C.od n h a d j g
 case BX f args=>
  split at h
  ·split at h
   next r o=>cases h;obtain⟨rfl,m⟩:=Xwm (T:=T) (sl0:=sl0) (ob:=ob) o a d;exact m (g j).1
   ·cases h
  ·cases h
 all_goals cases h
def Rcm{c:List Nat}{i:I}{e:E}(h:i.AZ c σ p=some e){k:Nat}{q:Qd}{b:E}(a:k∈i.GY σ p)(f:DH σ k=some (q,b))(l:Xt sl q=true)(j:Xt sl p=true->e.ok T sl0 ob):KE (b.val T sl0 ob):=by
 unfold I.GY at a;split at a
 next g x y=>simp only[I.AZ,C.AZ]at h;obtain⟨m,n,o,rfl,d,r,s⟩:=fJ h;have:=Wu a d;rw[f]at this;cases this;exact(j l).2.1
 ·cases a
def I.BA(q:BD P T)(j:Dk T σ sl sl0 ob)(k:Xt sl p=true){m:List Nat}{i:I}{e:E}(h:i.AZ m σ p=some e)(a:e.ok T sl0 ob){g l:V->AB->Prop}(b:g (e.val T sl0 ob) ob):i.wp P sl ob g l:=by
 cases i<;>simp only[I.AZ]at h
 case c x=>
  obtain⟨n,o⟩:=C.BA j k h;simp only[I.wp];exact Rck (o a) (by rw[<-n];exact b)
 case BX f args=>
  split at h
  ·split at h
   ·rename_i t r;cases h;have s:=wA j k r;simp only[E.ok,E.val,s]at a b;simp only[I.wp];cases d:Ha T f with
    |none=>rw[d]at a;exact a.2.elim
    |some F=>rw[d]at a b;exact q f F d _ a.2 _ _ b
   ·cases h
  ·cases h
 all_goals cases h
def Dk.congr{a:Xb}(b:Dk T σ sl sl0 ob)(h:∀k,Ay a k=Ay sl k):Dk T σ a sl0 ob:=by
 intro k p e c;have:Xt a p=Xt sl p:=by simp only[Xt,h]
 rw[this,h];exact b k p e c
def Uu(d:Nat)(p:Qd):Bool:=p.all λg=>g.1 != d
def Ns(σ:Sg)(d:Nat):Bool:=σ.all λx=>match x.2 with
|some (p,_)=>Uu d p
|none=>true
def Uc{d:Nat}{v:V}(h:Uu d p=true):Xt ((d,v)::sl) p=Xt sl p:=by
 induction p with
 |nil=>rfl
 |cons g r a=>
  simp only[Uu,List.all_cons,As]at h;simp only[Xt,List.all_cons]at a⊢;have:Ay ((d,v)::sl) g.1=Ay sl g.1:=by
   have:=h.1;simp at this;have b:¬d=g.1:=λe=>this e.symm;simp[Ay,b]
  rw[this,a h.2]
def vo:∀{σ:Sg}{d k:Nat}{p:Qd}{e:E},Ns σ d=true->Wq σ k=some (some (p,e))->Uu d p=true
|[],_,_,_,_,_,h=>by simp[Wq]at h
|(j,x)::r,d,k,p,e,a,h=>by
 simp only[Ns,List.all_cons,As]at a;simp only[Wq]at h;split at h
 ·cases h;exact a.1
 ·exact vo (σ:=r) a.2 h
def T4{d k:Nat}{q:Qd}{e:E}(a:Ns σ d=true)(h:DH σ k=some (q,e)):Uu d q=true:=by
 unfold DH at h;split at h
 ·cases h;rfl
 next x b=>subst h;exact vo a b
def Z5{k:Nat}{x:Option (Qd×E)}:DH ((k,x)::σ) k=x:=by simp[DH,Wq]
def Zh{j k:Nat}{x:Option (Qd×E)}(h:k≠j):DH ((k,x)::σ) j=DH σ j:=by simp[DH,Wq,h]
end
inductive Ek where
|Aa (p:List (E×Bool)) (e:E)
|lt (k:Nat) (p:List (E×Bool)) (e:E)
|op (d:Option Nat) (i:I)
|C6 (p:List (E×Bool)) (d:Option Nat) (i:I)
def Lp(b:Bool)(v:V):V:=if b then v else .undef
def Un(P:Az)(T:Cy)(K:Xb->AB->Prop)(f:V->Xb->AB->Prop):List Ek->Xb->AB->Prop
|[],a,b=>K a b
|.Aa p e::r,a,b=>(Zz T a b p=true->e.ok T a b)/\Un P T K f r a b
|.lt k p e::r,a,b=>(Zz T a b p=true->e.ok T a b)/\Un P T K f r ((k,Lp (Zz T a b p) (e.val T a b))::a) b
|.op d i::r,a,b=>i.wp P a b (λv c=>Un P T K f r (put a d v) c) (λv c=>f v a c)
|.C6 p d i::r,a,b=>(Zz T a b p=true->i.wp P a b (λv c=>Un P T K f r (put a d v) c) (λv c=>f v a c))/\
 (Zz T a b p=false->Un P T K f r (put a d .undef) b)
def Qe(T:Cy)(b:Xb)(a:AB):List (Nat×E)->Xb
|[]=>[]
|(k,e)::r=>(k,e.val T b a)::Qe T b a r
def Ve(T:Cy)(b:Xb)(a:AB):List (Nat×E)->Prop
|[]=>True
|(_,e)::r=>e.ok T b a/\Ve T b a r
def A.A6:A->List Nat
|.t k=>[k]
|_=>[]
def Wz:List A->List Nat
|[]=>[]
|x::r=>x.A6++Wz r
def PH:Option A->List Nat
|some x=>x.A6
|none=>[]
def C.A6:C->List Nat
|.mv x|.not x|.neg x|.GA x|.Cr _ x|.EG _ x|.G4 x|.Gy _ x|.BW _ _ x|.IX _ _ _ _ x|.ld _ _ x|.Cw x|.C2 x|.CV x|.ext x _|.G1 _ x|.G3 _ _ x=>x.A6
|.Bc _ x y|.Fl x y|.DI _ x y|.B9 _ _ x y|.GV _ _ x y|.GR _ _ _ x y=>x.A6++y.A6
|.pick x y z=>x.A6++(y.A6++z.A6)
|.CY x l h|.Ck _ x l h=>x.A6++(PH l++PH h)
|.E0 _ c=>Wz (c.map (·.2))
|.D5 _ a b=>Wz a++Wz b
def I.A6:I->List Nat
|.c x=>x.A6
|.box _ x=>x.A6
|.alloc _ _=>[]
|.GU _ _ a=>Wz (a.map (·.2))
|.GS _ _ _ a=>Wz (a.map (·.2))
|.st _ x y=>x.A6++y.A6
|.I0 _ _ _ x y=>x.A6++y.A6
|.ER _ _ x y=>x.A6++y.A6
|.call _ l=>Wz l
|.BX _ l=>Wz l
|.Bx _ l=>Wz l
|.Cq x l=>x.A6++Wz l
|.panic x=>x.A6
|.HQ x=>x.A6
|.ET _ _ x=>x.A6
|.Kb x=>x.A6
|.IZ _ _ x=>x.A6
|.H3 _ _ y x _=>y.A6++x.A6
|.I5 y x _=>y.A6++x.A6
|.Hy x=>x.A6
|.EY _ x y=>x.A6++y.A6
|.HP r=>PH r
|.Ib _ _ _ m k=>m.A6++k.A6
|.C7 _ m k v=>m.A6++(k.A6++v.A6)
|.KS _ _ _ _=>[]
|.Ie _ _ x=>x.A6
|.Gx _ _ _ a=>Wz (a.map (·.2))
|.F7 _ _ _ x y=>x.A6++y.A6
|.gv x=>x.A6
|.Ia _ _ x=>x.A6
|.HR _ _ x d b=>x.A6++(PH d++PH b)
|.I1 _ x y=>x.A6++y.A6
|.IV _ _ x=>x.A6
|.Hz _ _ _ _ i=>i.A6
|.Ic x=>x.A6
|.I6 x=>x.A6
|.IW x=>x.A6
|.EI x=>x.A6
|.HO _ _ x=>x.A6
|.Dp _ _ _ _ x l=>x.A6++Wz l
|.I4 _ _ _ _ l=>l.A6
|.I9 _ x y=>x.A6++y.A6
section
variable {P:Az} {sl sl':Xb} {ob:AB}
def E8{x:A}(h:∀k∈x.A6,Ay sl k=Ay sl' k):x.ev sl=x.ev sl':=by
 cases x<;>simp_all[A.ev,A.A6]
def Mc:∀{l:List A},(∀k∈Wz l,Ay sl k=Ay sl' k)->l.map (A.ev sl)=l.map (A.ev sl')
|[],_=>rfl
|x::r,h=>by
 simp only[Wz,DF]at h;simp only[Cg,E8 (λk a=>h k (.inl a)),Mc (λk a=>h k (.inr a))]
def PC{l:Option A}(h:∀k∈PH l,Ay sl k=Ay sl' k):l.map (A.ev sl)=l.map (A.ev sl'):=by
 cases l with
 |none=>rfl
 |some x=>simp only[Option.map_some,E8 h]
def SE:∀{l:List (Nat×A)},(∀k∈Wz (l.map (·.2)),Ay sl k=Ay sl' k)->(l.map λx=>(x.1,A.ev sl x.2))=l.map λx=>(x.1,A.ev sl' x.2)
|[],_=>rfl
|x::r,h=>by
 simp only[Cg,Wz,DF]at h;simp only[Cg,E8 (λk a=>h k (.inl a)),SE (λk a=>h k (.inr a))]
def C.Kf{K:V->Prop}{c:C}(h:∀k∈c.A6,Ay sl k=Ay sl' k):c.wp sl ob K=c.wp sl' ob K:=by
 cases c<;>simp only[C.A6,DF]at h<;>simp only[C.wp]
 case E0=>rw[SE h]
 case D5=>rw[Mc (λk a=>h k (.inl a)),Mc (λk a=>h k (.inr a))]
 case pick=>rw[E8 (λk a=>h k (.inl a)),E8 (λk a=>h k (.inr (.inl a))),E8 (λk a=>h k (.inr (.inr a)))]
 case CY=>rw[E8 (λk a=>h k (.inl a)),PC (λk a=>h k (.inr (.inl a))),PC (λk a=>h k (.inr (.inr a)))]
 case Ck=>rw[E8 (λk a=>h k (.inl a)),PC (λk a=>h k (.inr (.inl a))),PC (λk a=>h k (.inr (.inr a)))]
 all_goals first
 |rw[E8 h]
 |rw[E8 (λk a=>h k (.inl a)),E8 (λk a=>h k (.inr a))]
def I.Kf{K b:V->AB->Prop}{i:I}(h:∀k∈i.A6,Ay sl k=Ay sl' k):i.wp P sl ob K b=i.wp P sl' ob K b:=by
 cases i<;>simp only[I.A6,DF]at h<;>simp only[I.wp]
 case c=>rw[C.Kf h]
 case GU=>rw[SE h]
 case GS=>rw[SE h]
 case Gx=>rw[SE h]
 case call=>rw[Mc h]
 case BX=>rw[Mc h]
 case Bx=>rw[Mc h]
 case Cq=>rw[E8 (λk a=>h k (.inl a)),Mc (λk a=>h k (.inr a))]
 case Dp=>rw[E8 (λk a=>h k (.inl a)),Mc (λk a=>h k (.inr a))]
 case C7=>rw[E8 (λk a=>h k (.inl a)),E8 (λk a=>h k (.inr (.inl a))),E8 (λk a=>h k (.inr (.inr a)))]
 case HR=>rw[E8 (λk a=>h k (.inl a)),PC (λk a=>h k (.inr (.inl a))),PC (λk a=>h k (.inr (.inr a)))]
 case HP r=>
  cases r with
  |none=>rfl
  |some x=>simp only[Ko,E8 (x:=x) h]
 all_goals first
 |rw[E8 h]
 |rw[E8 (λk a=>h k (.inl a)),E8 (λk a=>h k (.inr a))]
 |rfl
def Xn2{K a:V->AB->Prop}{ob:AB}{E d:Nat}{p:List Nat}{y x:V}(c:∀v b,K v b->a v b)(h:Gu ob E d p y K x):Gu ob E d p y a x:=by
 unfold Gu at h;split at h
 ·simp only[Gu];generalize AA _ _=o at h⊢;unfold K7 at h;split at h
  ·simp only[K7];rcases h with h|h
   case inr=>exact .inr ⟨h.1,c _ _ h.2⟩
   refine .inl ⟨h.1,?_⟩;have h:=h.2;generalize V.set _ _ _=o at h⊢;cases o with
   |none=>cases h
   |some t=>exact c _ _ h
  ·cases h
 ·cases h
def w6{K a:V->AB->Prop}{y x:V}(c:∀v b,K v b->a v b):∀{l:List (Nat×Nat×List Nat)} {ob:AB},OE y K x l ob->OE y a x l ob
|[],_,h=>c _ _ h
|_::_,_,h=>Xn2 (λ_ _ h=>w6 c h) h
def Xxm{K b:V->Prop}{f a:Nat}{v:V}(c:∀v,K v->b v)(h:Vk ob f a K v):Vk ob f a b v:=by
 have:=C.wp_mono (sl:=[(0,v)]) (ob:=ob) c (.BW f a (.t 0)) (by simpa[C.wp,A.ev,Ay]using h);simpa[C.wp,A.ev,Ay]using this
def Yct{K b:V->Prop}{n:Nat}{a:Bool}{v:V}(c:∀v,K v->b v)(h:D4 ob n a K v):D4 ob n a b v:=by
 have:=C.wp_mono (sl:=[(0,v)]) (ob:=ob) c (.ld n a (.t 0)) (by simpa[C.wp,A.ev,Ay]using h);simpa[C.wp,A.ev,Ay]using this
def I.wp_mono{K G N H:V->AB->Prop}(a:∀v b,K v b->G v b)(Q:∀v b,N v b->H v b){i:I}(h:i.wp P sl ob K N):i.wp P sl ob G H:=by
 have L:∀o b,Ef K N o b->Ef G H o b:=λo b=>by cases o with|ret v=>exact a v b|panic v=>exact Q v b
 have T:∀{E v},Iv E ob K v->Iv E ob G v:=λh=>⟨h.1,a _ _ h.2⟩;have U:∀{R M:List D->Prop},(∀l,R l->M l)->∀o,dK R o->dK M o:=λf o h=>by cases o with|none=>exact h.elim|some l=>exact f l h
 have gv:∀(o:Option (D×AB)),Gs K o->Gs G o:=λo h=>by
  cases o with
  |none=>cases h
  |some q=>exact a _ _ h
 have O:∀{E J B w u},Ew E J B ob w K u->Ew E J B ob w G u:=λ{E J B w u} h=>by
  unfold Ew at h;split at h
  ·simp only[Ew];generalize AA _ _=o at h⊢;unfold K0 at h;split at h
   ·obtain⟨d,g,k,j,F⟩:=h;exact⟨d,g,k,j,a _ _ F⟩
   ·cases h
  ·exact⟨h.1,a _ _ h.2⟩
  ·cases h
 have F7:∀{E J B w u},Hp E J B ob w K u->Hp E J B ob w G u:=λ{E J B w u} h=>by
  unfold Hp at h;split at h
  ·simp only[Hp];generalize AA _ _=o at h⊢;unfold Mf at h;split at h
   ·obtain⟨d,g,k,j,F⟩:=h;exact⟨d,g,k,j,a _ _ F⟩
   ·obtain⟨d,g,k,j,F⟩:=h;exact⟨d,g,k,j,a _ _ F⟩
   ·cases h
  ·exact⟨h.1,a _ _ h.2⟩
  ·cases h
 have bw:∀{id p lo n z w r o},Hr ob id p lo n z w r K o->Hr ob id p lo n z w r G o:=λ{id p lo n z w r o} h=>by
  unfold Hr at h;split at h
  ·simp only[Hr];generalize V.at _ _=o at h⊢;unfold N2 at h;split at h
   ·obtain⟨d,g,k,t,j,F⟩:=h;exact⟨d,g,k,t,j,a _ _ F⟩
   ·cases h
  ·cases h
 cases i<;>simp only[I.wp]at h⊢
 case c x=>exact C.wp_mono (λv=>a v ob) x h
 case box=>exact T h
 case alloc=>exact T h
 case GU=>exact Qj (λ_=>U (λ_=>a _ _) _) _ _ h
 case GS=>exact Qj (λ_=>U (λ_ h=>a _ _ h) _) _ _ h
 case st x y=>
  generalize A.ev sl x=v at h⊢;unfold GH at h;split at h
  ·simp only[GH];generalize AA _ _=o at h⊢;unfold JX at h;split at h
   ·simp only[JX];generalize V.at _ _=o at h⊢;unfold JY at h;split at h
    ·obtain⟨d,g,k,t,j,F⟩:=h;exact⟨d,g,k,t,j,a _ _ F⟩
    ·cases h
   ·cases h
  ·simp only[GH];generalize AA _ _=o at h⊢;unfold M6 at h;split at h
   ·simp only[M6];generalize W2 _ _ _=o at h⊢;unfold OO at h;split at h
    ·refine⟨h.1,?_⟩;have h:=h.2;generalize V.at _ _=o at h⊢;unfold M7 at h;split at h
     ·obtain⟨d,g,k,t,j,F⟩:=h;exact⟨d,g,k,t,j,a _ _ F⟩
     ·cases h
    ·cases h
   ·cases h
  ·cases h
 case I0 x y=>
  generalize A.ev sl y=v at h⊢;unfold JW at h;split at h
  ·exact⟨h.1,O h.2⟩
  ·exact O h
  ·cases h
 case Gx=>exact Qj (λ_=>a _ _) _ _ h
 case F7 x y=>
  generalize A.ev sl y=v at h⊢;unfold M5 at h;split at h
  ·exact⟨h.1,F7 h.2⟩
  ·exact F7 h
  ·rcases h with⟨E,w,d,g,k,j⟩|⟨E,w,d,g,j⟩
   ·exact .inl ⟨E,w,d,g,k,F7 j⟩
   ·exact .inr ⟨E,w,d,g,F7 j⟩
  ·cases h
 case gv x=>
  generalize Ct _ _ _=v at h⊢;exact gv _ h
 case HR x lo hi=>
  generalize A.ev sl x=v at h⊢;unfold L0 at h;split at h
  ·simp only[L0];generalize Y4 _=o at h⊢;unfold Lk at h;split at h
   ·exact⟨h.1,h.2.1,dm (λ_ _=>a _ _) h.2.2⟩
   ·cases h
  ·cases h
 case I1 x y=>
  generalize A.ev sl x=v at h⊢;generalize A.ev sl y=u at h⊢;unfold N7 at h;split at h
  ·exact⟨h.1,bw h.2⟩
  ·cases h
 case IV x=>
  generalize A.ev sl x=v at h⊢;unfold N4 at h;split at h
  ·exact⟨λe=>⟨(h.1 e).1,a _ _ (h.1 e).2⟩,λe=>⟨(h.2 e).1,bw (h.2 e).2⟩⟩
  ·cases h
 case Hz x y=>
  refine⟨h.1,?_⟩;have h:=h.2;generalize A.ev sl y=u at h⊢;unfold Mx at h;split at h
  ·exact⟨h.1,h.2.1,h.2.2.1,a _ _ h.2.2.2⟩
  ·cases h
 case Ia x=>
  generalize A.ev sl x=v at h⊢;unfold Mr at h;split at h
  ·simp only[Mr];generalize Cj _ _ _=o at h⊢;unfold PY at h;split at h
   ·refine⟨h.1,h.2.1,?_⟩;have h:=h.2.2;generalize Ct _ _ _=o at h⊢;unfold PX at h;split at h
    ·refine⟨h.1,?_⟩;have h:=h.2;generalize AA _ _=o at h⊢;unfold Re at h;split at h
     ·obtain⟨Z,d,g⟩:=h;exact⟨Z,d,a _ _ g⟩
     ·cases h
    ·cases h
   ·cases h
  ·cases h
 case ER x y=>
  generalize A.ev sl y=v at h⊢;unfold Lm at h;split at h
  ·exact O h
  ·cases h
 case Kb x=>
  generalize DU _ _=v at h⊢;exact gv _ h
 case IZ x=>
  generalize A.ev sl x=v at h⊢;unfold JR at h;split at h
  ·simp only[JR];generalize Cj _ _ _=o at h⊢;unfold K5 at h;split at h
   ·exact⟨h.1,h.2.1,gv _ h.2.2⟩
   ·cases h
  ·cases h
 case H3=>exact Xn2 a h
 case I5=>exact w6 a h
 case Hy x=>
  generalize A.ev sl x=v at h⊢;unfold JJ at h;split at h
  ·simp only[JJ];generalize AA _ _=o at h⊢;unfold LW at h;split at h
   ·exact⟨h.1,h.2.1,h.2.2.1,a _ _ h.2.2.2⟩
   ·cases h
  ·cases h
 case EY x y=>
  generalize A.ev sl x=v at h⊢;generalize A.ev sl y=u at h⊢;unfold IK at h;split at h
  ·simp only[IK];generalize AA _ _=o at h⊢;unfold LS at h;split at h
   ·obtain⟨d,g,k,j,F,W,s,X,Y⟩:=h;exact⟨d,g,k,j,F,W,s,X,a _ _ Y⟩
   ·cases h
  ·exact⟨h.1,a _ _ h.2⟩
  ·cases h
 case call=>exact h.mono L
 case BX=>exact h.mono λv=>a v ob
 case Bx=>exact h.mono a
 case Cq x l=>
  generalize A.ev sl x=v at h⊢;unfold V9 at h;split at h
  ·exact⟨h.1,h.2.mono L⟩
  ·exact⟨h.1,h.2.mono L⟩
  ·exact⟨h.1,h.2.mono L⟩
  ·cases h
 case Ic x=>
  generalize A.ev sl x=v at h⊢;generalize AA ob (My v)=o at h⊢;unfold Lw at h;split at h
  ·exact a _ _ h
  ·exact a _ _ h
  ·cases h
 case I6 x=>
  generalize A.ev sl x=v at h⊢;unfold Lu at h;split at h
  ·simp only[Lu];generalize AA ob _=o at h⊢;unfold K8 at h;split at h
   ·exact a _ _ h
   ·simp only[K8];generalize AA ob _=o at h⊢;unfold PN at h;split at h
    ·exact⟨h.1,λe=>a _ _ (h.2.1 e),λi d g=>a _ _ (h.2.2 i d g)⟩
    ·cases h
   ·cases h
  ·cases h
 case IW x=>
  generalize A.ev sl x=v at h⊢;unfold Ls at h;split at h
  ·simp only[Ls];generalize AA ob _=o at h⊢;unfold No at h;split at h
   ·refine⟨h.1,?_⟩;have h:=h.2;generalize AA ob _=o at h⊢;unfold PT at h;split at h
    ·exact⟨h.1,h.2.1,a _ _ h.2.2⟩
    ·cases h
   ·cases h
  ·cases h
 case EI x=>
  generalize A.ev sl x=v at h⊢;unfold KG at h;split at h
  ·simp only[KG];generalize AA ob _=o at h⊢;unfold PZ at h;split at h
   ·exact a _ _ h
   ·cases h
  ·exact a _ _ h
  ·cases h
 case HO e m x=>
  generalize A.ev sl x=v at h⊢;unfold Gt at h;split at h
  ·simp only[Gt];generalize AA ob _=o at h⊢;unfold Pq at h;split at h
   ·exact a _ _ h
   ·cases h
  ·exact a _ _ h
  ·exact a _ _ h
  ·exact⟨a _ _ h.1,λe=>a _ _ (h.2 e)⟩
  ·simp only[Gt];generalize AA ob _=o at h⊢;unfold kD at h;split at h
   ·exact⟨h.1,h.2.1,a _ _ h.2.2⟩
   ·exact⟨h.1,h.2.1,a _ _ h.2.2⟩
   ·cases h
  ·cases h
 case Dp nm t f fl x l=>
  generalize A.ev sl x=v at h⊢;unfold OA at h;split at h
  ·refine⟨h.1,h.2.1,?_⟩;have h:=h.2.2;unfold Lj at h⊢;split at h
   ·exact h.mono L
   ·exact Xxm (λu h=>Yct (λr h=>h.mono L) h) h
  ·cases h
 case I4 l=>
  generalize A.ev sl l=v at h⊢;unfold OD at h;split at h
  ·exact⟨h.1,h.2.1,a _ _ h.2.2⟩
  ·cases h
 case I9 x y=>
  generalize A.ev sl x=v at h⊢;generalize A.ev sl y=u at h⊢;unfold Mz at h;split at h
  ·simp only[Mz];generalize AA ob _=o at h⊢;unfold XT at h;split at h
   ·exact⟨h.1,h.2.1,h.2.2.1,h.2.2.2.1,a _ _ h.2.2.2.2⟩
   ·cases h
  ·cases h
 case panic x=>
  generalize A.ev sl x=v at h⊢;unfold LN at h;split at h
  ·exact Q _ _ h
  ·exact Q _ _ h
  ·cases h
 case HQ x=>
  generalize A.ev sl x=v at h⊢;unfold Lz at h;split at h
  ·exact a _ _ h
  ·cases h
 case ET x=>
  generalize A.ev sl x=v at h⊢;unfold Li at h;split at h
  ·exact a _ _ h
  ·cases h
 case HP r=>exact⟨h.1,a _ _ h.2⟩
 case KS=>exact⟨h.1,h.2.1,h.2.2.1,a _ _ h.2.2.2⟩
 case Ie x=>
  generalize A.ev sl x=v at h⊢;unfold KA at h;split at h
  ·simp only[KA];generalize Cj _ _ _=o at h⊢;unfold Ll at h;split at h
   ·exact⟨h.1,h.2.1,a _ _ h.2.2⟩
   ·cases h
  ·cases h
 case Ib x y=>
  generalize A.ev sl x=v at h⊢;generalize A.ev sl y=u at h⊢;unfold JN at h;split at h
  ·simp only[JN];generalize AA _ _=o at h⊢;unfold Lb at h;split at h
   ·exact⟨h.1,a _ _ h.2⟩
   ·cases h
  ·exact⟨h.1,a _ _ h.2⟩
  ·cases h
 case C7 x y z=>
  generalize A.ev sl x=v at h⊢;generalize A.ev sl y=u at h⊢;unfold KI at h;split at h
  ·simp only[KI];generalize AA _ _=o at h⊢;unfold LM at h;split at h
   ·exact⟨h.1,h.2.1,a _ _ h.2.2⟩
   ·cases h
  ·cases h
end
end Go.Ab
