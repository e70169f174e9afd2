/- Joined texts, part 2 of 13. Regions that draw their order: which operations may be taken first. Over any program; no condition. -/
import Derived.Test.YtghnkpkellnmdaaGreatDoorT1
set_option linter.unusedSimpArgs false
set_option linter.unusedVariables false
set_option linter.unusedSectionVars false
set_option linter.defProp false
namespace Go.Ab
open Go
def Dv(P:Program)(a:Act)(w:World)(e:BF)(g:Op)(K f:V->AE->Prop):Prop:=
 ∀(o:Oper),o.op=g->∀(next:Act->World->Prop)(Q:Exit->Act->World->Prop),
  (∀v x c d b,K x c->x.A1 d b v->OM d b c->Tr w e d b->next (a.put o.dst v) d)->
  (∀u x c d b,f x c->x.A1 d b u->OM d b c->Tr w e d b->Q (.panic [{v:=u,recovered:=false}]) a d)->
  Ef P o a w next Q
def Iq(P:Program)(a:Act)(w:World)(e:BF)(d:Op)(c:AE)(K:V->AE->Prop):Prop:=
 ∃v x b,K x c/\x.A1 b e v/\CM w b/\∀(o:Oper),o.op=d->(execOp a.eval o).run P w=.ok (.value v) b
section
variable {P:Program} {a:Act} {w:World} {ρ:BF} {sl:Xf} {ob:AE} {K Pn:V->AE->Prop}
theorem Xy{c:Op}{v:Value}{x:V}{b:AE}{w':World}{ρ':BF}(j:∀o:Oper,o.op=c->(execOp a.eval o).run P w=.ok (.value v) w')
 (g:K x b) (d:x.A1 w' ρ' v) (e:OM w' ρ' b) (f:Tr w ρ w' ρ'):Dv P a w ρ c K Pn:=by
 intro o i next Q h _
 unfold Ef;rw[j o i];exact h v x b w' ρ' g d e f
def Iq.EY{c:Op}(h:Iq P a w ρ c ob K)(g:OM w ρ ob):Dv P a w ρ c K Pn:=by
 obtain⟨v,x,i,f,d,b,e⟩:=h;exact Xy e f d (g.ext b) b.tr
def S8(P:Program)(a:Act)(w:World)(ρ:BF)(c:Op)(ob:AE)(K:V->AE->Prop):Prop:=
 ∀(o:Oper),o.op=c->∀(next:Act->World->Prop)(Q:Exit->Act->World->Prop),
  (∀v x b,K x ob->x.A1 b ρ v->CM w b->next (a.put o.dst v) b)->Ef P o a w next Q
def Iq.GA{b:Op}(h:Iq P a w ρ b ob K):S8 P a w ρ b ob K:=by
 obtain⟨v,x,j,f,c,d,e⟩:=h;intro o i next Q g
 unfold Ef;rw[e o i];exact g v x j f c d
def S8.EY{c:Op}(h:S8 P a w ρ c ob K)(f:OM w ρ ob):Dv P a w ρ c K Pn:=λo i next Q g _=>
 h o i next Q λv x j e d b=>g v x ob j ρ e d (f.ext b) b.tr
def Ln(P:Program)(a:Act)(w:World)(ρ:BF)(e:Op)(K:V->AE->Prop):Prop:=
 ∀(o:Oper),o.op=e->∀(next:Act->World->Prop)(Q:Exit->Act->World->Prop),
  (∀v x c d b,K x c->x.A1 d b v->OM d b c->Tr w ρ d b->CM w d->next (a.put o.dst v) d)->Ef P o a w next Q
def Ln.EY{d:Op}(h:Ln P a w ρ d K):Dv P a w ρ d K Pn:=λo k next Q j _=>
 h o k next Q λv x b l c e f g i _=>j v x b l c e f g i
def W4{e:Op}{v:Value}{x:V}{c:AE}{d:World}{b:BF}(m:∀o:Oper,o.op=e->(execOp a.eval o).run P w=.ok (.value v) d)
 (j:K x c) (f:x.A1 d b v) (g:OM d b c) (h:Tr w ρ d b) (i:CM w d):Ln P a w ρ e K:=by
 intro o l next Q k
 unfold Ef;rw[m o l];exact k v x c d b j f g h i
def XO{e:Op}{b:AE}{d:World}{c:BF}(k:∀o:Oper,o.op=e->(execOp a.eval o).run P w=.ok .skip d)
 (h:K .undef b) (f:OM d c b) (g:Tr w ρ d c):Dv P a w ρ e K Pn:=by
 intro o j next Q i _
 unfold Ef;rw[k o j];exact i undef .undef b d c h (Wz.2 rfl) f g
def Y12(e:SM w ρ sl a)(c:OM w ρ ob){b:Op}{x:C}(d:x.An P b=true)(h:x.wp sl ob (λv=>K v ob)):Dv P a w ρ b K Pn:=by
 obtain⟨v,y,i,f,g⟩:=C.A2 e c d h;grind[Xy,CM.refl,Tr.refl]
def Xrh(l:SM w ρ sl a)(j:OM w ρ ob){d:Op}{E:Nat}{x:A}(b:I.An P d (.box E x)=true)(h:JU E ob K (x.ev sl)):Ln P a w ρ d K:=by
 cases d<;>simp[I.An]at b;rename_i e y;obtain⟨rfl,b⟩:=b;obtain⟨g,i⟩:=h;have f:=X1 ob;have p:=A.A2 l b;have c:=Qa (dM g) p;obtain⟨q,m,n⟩:=Yby j f c e;refine W4 (λo k=>?_) i n m q (Wg w _);simp only[execOp,k,Instr.box,newVar,newRow,Cm,run_newObj,Ch,DD,Array.toArray_toList];rfl
def Xig(n:OM w ρ ob){g:Op}{i:Nat}{z:D}(b:I.An P g (.alloc i z)=true)(h:JU i ob K (.d z)):Ln P a w ρ g K:=by
 cases g<;>simp only[I.An,BY]at b;rename_i E;simp at b;obtain⟨rfl,b⟩:=b;obtain⟨t,m⟩:=h;have l:=X1 ob;cases e:Jx P E with
 |none=>simp[e]at b
 |some j=>
  simp only[e]at b;obtain⟨v,k,_,f⟩:=Jy e;have c:(V.d z).Au w ρ j:=by simp_all[V.Au,No]
  obtain⟨s,q,r⟩:=Yby n l c E;refine W4 (λo p=>?_) m r q s (Wg w _);simp only[execOp,p,Instr.alloc,newVar,newRow,Cm,f,run_newObj,Ch,DD];rw[<-k,Array.toArray_toList];rfl
def Yvg(hs:SM w ρ sl a)(X:OM w ρ ob){op:Op}{n:Nat}{x v:A}(hc:I.An P op (.st n x v)=true)(h:H5 ob n (v.ev sl) K (x.ev sl)):Dv P a w ρ op K Pn:=by
 cases op<;>simp[I.An]at hc;rename_i t y u;obtain⟨⟨hn,h1⟩,h2⟩:=hc;have q:=A.A2 hs h1;have r2:=A.A2 hs h2;unfold H5 at h;split at h
 ·rename_i id p e1;rw[e1]at q;unfold NO at h;split at h
  ·rename_i E Z N;obtain⟨b,sh,Q,q⟩:=B2 X N q;cases c:Z.at p with
   |none=>simp[c,NP]at h
   |some k=>
    simp only[c,NP]at h;obtain⟨H,ae,j,t',g,hK⟩:=h;obtain⟨b',cs,T,U,W⟩:=X.Ba id _ N;rw[Q]at T;obtain⟨rfl,rfl⟩:=T;have d:=Qa (dM j) r2;obtain⟨af,G,e3,h4⟩:=QN p Z k _ cs _ W c d H;rw[g]at G;simp at G;subst G;obtain⟨t1,o1⟩:=EG X N Q U e3 h4;obtain⟨l,s,J,Y,q2,q3⟩:=Ke p Z k cs W c;have O:=GK _ _ d;have ab:=GK _ _ q3;refine XO (λo ho=>?_) hK o1 t1;have e:(a.eval u).cells.size=n:=by
     simp_all[V.size]
    have F:=run_storeCells_at (P:=P) b (Z.shape.off p) E (a.eval u).cells.toList 0 cs.toArray w U (by
     simp_all) (V.Ba _ _ j d)
    simp only[execOp,ho,Instr.storeAt,Instr.sureAddr,storeVar,q,Cm,DD,Ch,X3 hn,e,ne_eq,not_true,CR];rw[F];simp
  ·cases h
 ·rename_i id m z i f p e1;rw[e1]at q;unfold Pw at h;split at h
  ·rename_i ox N;unfold SQ at h;split at h
   ·rename_i r aa;obtain⟨⟨ac,ad⟩,h⟩:=h;cases c:r.at p with
    |none=>simp[c,Px]at h
    |some k=>
     simp only[c,Px]at h;obtain⟨H,ae,j,t',g,hK⟩:=h;obtain⟨b,ag,E,l,s,J,T,U,W,g4,g5⟩:=X64 X N aa;rw[Tz]at q;obtain⟨o,Y,q2⟩:=q;rw[T]at Y;simp only[ED]at Y;subst Y;have q:=q2.2.2 rfl;have d:=Qa (dM j) r2;obtain⟨af,G,e3,h4⟩:=QN p r k _ s _ g4 c d H;rw[g]at G;simp at G;subst G;obtain⟨t1,o1⟩:=g5 t' _ e3 h4;obtain⟨d1,d2,d3,z1,z2,z3⟩:=Ke p r k s g4 c;have O:=GK _ _ d;have ab:=GK _ _ z3;refine XO (λo ho=>?_) hK o1 t1;have e:(a.eval u).cells.size=n:=by
      simp_all[V.size]
     have L:i*z+f=l.length+r.shape.off p:=by rw[ac,ad,W]
     have F:=run_storeCells_at (P:=P) b (l.length+r.shape.off p) E (a.eval u).cells.toList 0 (l++(s++J)).toArray w U (by
      grind) (V.Ba _ _ j d)
     simp only[execOp,ho,Instr.storeAt,Instr.sureAddr,storeVar,q,Cm,DD,Ch,X3 hn,e,ne_eq,not_true,CR,L];have e7:(l++(s++J)).take (l.length+r.shape.off p)=l++s.take (r.shape.off p):=by
      grind[List.take_length_add_append]
     have e8:(l++(s++J)).drop (l.length+r.shape.off p+(a.eval u).cells.toList.length)=s.drop (r.shape.off p+(a.eval u).cells.toList.length)++J:=by
      rw[dV,WS,List.drop_append_of_le_length (by simp_all)]
     simp_all
   ·cases h
  ·cases h
 ·cases h
def X5f(l:SM w ρ sl a)(j:OM w ρ ob){i:Op}{x:A}(k:I.An P i (.panic x)=true)(h:Ko ob Pn (x.ev sl)):Dv P a w ρ i K Pn:=by
 cases i<;>simp[I.An]at k;have d:=A.A2 l k;unfold Ko at h;split at h
 ·rename_i t v e;rw[e]at d;have b:=d;rw[Vf (by simp[V.isAgg]) (by simp)]at b;simp only[V.Au,Mg,Ld]at b;obtain⟨c,b,_⟩:=b;intro o f next Q _ g
  unfold Ef;have:(execOp a.eval o).run P w=.halt (.panic (.iface t c)) w:=by simp[execOp,f,Instr.panic,b]
  rw[this];rw[b]at d;exact g _ _ _ _ _ h d j (Tr.refl _ _)
 ·rename_i t v e;rw[e]at d;have b:=d;rw[TT]at b;obtain⟨c,b,_⟩:=b;intro o f next Q _ g
  unfold Ef;have:(execOp a.eval o).run P w=.halt (.panic (.iface t c)) w:=by simp[execOp,f,Instr.panic,b]
  rw[this];rw[b]at d;exact g _ _ _ _ _ h d j (Tr.refl _ _)
 ·cases h
theorem CQ{w:World}{ρ:BF}:∀{h d:List V}{c b:List Value},V.BT w ρ h c->V.BT w ρ d b->V.BT w ρ (h++d) (c++b)
|[],d,c,b,f,g=>by simp_all[V.BT]
|x::r,d,c,b,f,g=>by
 obtain⟨u,e,rfl,i,j⟩:=f;exact⟨u,e++b,rfl,i,CQ j g⟩
def XG{P:BE}(t:ρ.gl=P.g){j:Op}{f:Nat}{m:List V}{args:List Value}(F:∀o:Oper,o.op=j->(execOp a.eval o).run P.p w=.ok (.enter f args.toArray) w)
 (h:Aa P f m ob (F7 K Pn)) (s:OM w ρ ob) (q:V.BT w ρ m args):Dv P.p a w ρ j K Pn:=by
 intro o y next Q x z
 unfold Ef;rw[F o y];refine(h.run w ρ args s t q).mono λe n ⟨b,c,d,k,r,i,l⟩=>?_;cases e with
 |returned u=>
  cases b with
  |ret v=>exact x u v c n d k r i l
  |panic v=>cases r
 |panicked G=>
  cases b with
  |ret v=>cases r
  |panic v=>obtain⟨u,rfl,r⟩:=r;exact z u v c n d k r i l
 |outgrown=>cases b<;>cases r
theorem Zf{f:Nat}(h:Xd P f=true)(c:Array Value)(w:World):(callFunc f c).run P w=.ok (.enter f c) w:=by
 unfold Xd at h;split at h
 next d g=>simp at h;obtain⟨b,e⟩:=Le.1 h.2;simp_all[callFunc]
 ·simp at h
def Yan{P:BE}(m:ρ.gl=P.g)(q:SM w ρ sl a)(l:OM w ρ ob){e:Op}{f:Nat}{b:List A}(d:I.An P.p e (.call f b)=true)(h:Aa P f (b.map (A.ev sl)) ob (F7 K Pn)):Dv P.p a w ρ e K Pn:=by
 cases e<;>simp only[I.An,BY]at d;rename_i c;obtain⟨i,as,r⟩:=c;cases i<;>(try simp only[BY]at d);rename_i g;cases g<;>(try simp only[BY]at d);simp at d;obtain⟨⟨rfl,j⟩,k⟩:=d;refine XG m (args:=as.toList.map a.eval) (λo n=>?_) h l (Z8 q k);have:a.eval (.func f)=.func (.func f) #[] #[]:=rfl;simp only[execOp,n,resolve,this,Deferred.ofValue,Cm,DD,Ch,invoke,Zf j,Uz];simp
def Xif{P:BE}(s:ρ.gl=P.g)(y:SM w ρ sl a)(q:OM w ρ ob){j:Op}{f:Nat}{b:List A}(d:I.An P.p j (.Bd f b)=true)(h:AW P f (b.map (A.ev sl)) ob λv=>K v ob):S8 P.p a w ρ j ob K:=by
 cases j<;>simp only[I.An,BY]at d;rename_i c;obtain⟨l,as,G⟩:=c;cases l<;>(try simp only[BY]at d);rename_i g;cases g<;>(try simp only[BY]at d);simp only[BX,EN]at d;obtain⟨⟨rfl,m⟩,n⟩:=d;intro o t next Q F
 have i:(execOp a.eval o).run P.p w=.ok (.enter f (as.toList.map a.eval).toArray) w:=by
  have:a.eval (.func f)=.func (.func f) #[] #[]:=rfl;simp only[execOp,t,resolve,this,Deferred.ofValue,Cm,DD,Ch,invoke,Zf m,Uz];simp
 unfold Ef;rw[i];refine(h.run w ρ _ q s (Z8 y n)).mono λe H ⟨v,u,k,z,r,x⟩=>?_;grind
def Xih{P:BE}(y:ρ.gl=P.g)(F:SM w ρ sl a)(s:OM w ρ ob){l:Op}{f:Nat}{d:List A}(i:I.An P.p l (.Ca f d)=true)(h:C1 P f (d.map (A.ev sl)) ob K):Ln P.p a w ρ l K:=by
 cases l<;>simp only[I.An,BY]at i;rename_i c;obtain⟨m,as,L⟩:=c;cases m<;>(try simp only[BY]at i);rename_i g;cases g<;>(try simp only[BY]at i);simp only[BX,EN]at i;obtain⟨⟨rfl,n⟩,q⟩:=i;intro o z next Q J
 have j:(execOp a.eval o).run P.p w=.ok (.enter f (as.toList.map a.eval).toArray) w:=by
  have:a.eval (.func f)=.func (.func f) #[] #[]:=rfl;simp only[execOp,z,resolve,this,Deferred.ofValue,Cm,DD,Ch,invoke,Zf n,Uz];simp
 unfold Ef;rw[j];refine(h.run w ρ _ s y (Z8 F q)).mono λe N ⟨v,b,G,u,k,H,r,o,t,x⟩=>?_;grind
def X5e{P:BE}(N:ρ.gl=P.g)(F:SM w ρ sl a)(t:OM w ρ ob){W:Op}{x:A}{d:List A}(y:I.An P.p W (.C6 x d)=true)(h:Up P (d.map (A.ev sl)) ob K Pn (x.ev sl)):Dv P.p a w ρ W K Pn:=by
 cases W<;>simp only[I.An,BY]at y;rename_i c;obtain⟨l,as,ts⟩:=c;cases l<;>(try simp only[BY]at y);rename_i g;simp only[BX]at y;obtain⟨h1,J⟩:=y;have i:=A.A2 F h1;unfold Up at h;split at h
 next f fi l m=>rw[m,N0]at i;obtain⟨G,H,i,X,Y⟩:=i;refine XG N (args:=G++as.toList.map a.eval++H) (λo z=>?_) h.2 t (CQ (CQ X (Z8 F J)) Y);simp only[execOp,z,resolve,i,Deferred.ofValue,Cm,DD,Ch,invoke,Zf h.1,Uz];simp
 next f fi l m=>rw[m,To]at i;obtain⟨G,H,i,X,Y⟩:=i;refine XG N (args:=G++as.toList.map a.eval++H) (λo z=>?_) h.2 t (CQ (CQ X (Z8 F J)) Y);simp only[execOp,z,resolve,i,Deferred.ofValue,Cm,DD,Ch,invoke,Zf h.1,Uz];simp
 ·rename_i id m;rw[m,Mq]at i;obtain⟨O,hy⟩:=h;rcases i with⟨b,L,i⟩|⟨L,_⟩
  ·simp only[LM]at i;obtain⟨fn,tm,l,cb,aa,U⟩:=hy.run w ρ _ b t N (Z8 F J) L;intro o z next Q hn hq
   have n:(execOp a.eval o).run P.p w=.ok (.round b fn tm l cb) w:=by
    simp_all[execOp,resolve,Deferred.ofValue,Cm,DD,Ch,invoke,Uz]
   unfold Ef;rw[n];simp only[K0];refine U.mono λe w' ⟨j,q,s,k,r,o1,t1⟩=>?_;cases e with
   |returned u=>
    cases j with
    |ret v=>exact hn u v q w' s k r o1 t1
    |panic v=>cases r
   |panicked ch=>
    cases j with
    |ret v=>cases r
    |panic v=>obtain⟨u,rfl,r⟩:=r;exact hq u v q w' s k r o1 t1
   |outgrown=>cases j<;>cases r
  ·exfalso;unfold UG at O;split at O
   next T=>obtain⟨b,_,_,_,_,_,_,Z,_⟩:=t.Ba id _ T;rw[L]at Z;cases Z
   ·exact O
 ·cases h
def Yla(g:SM w ρ sl a)(e:OM w ρ ob){c:Op}{x:A}(d:I.An P c (.MU x)=true)(h:HW K (EU ob (x.ev sl))):Dv P a w ρ c K Pn:=by
 cases b:EU ob (x.ev sl) with
 |none=>simp[b,HW]at h
 |some q=>
  simp only[b,HW]at h;cases c<;>simp[I.An]at d
  all_goals
   have j:=A.A2 g d;obtain⟨m,l,i,k⟩:=YI e j b;exact Xy (λo f=>by simp[execOp,f]) h k i l
def Yk5(k:SM w ρ sl a)(i:OM w ρ ob){e:Op}{n:Nat}{c:Bool}{x:A}(j:I.An P e (.KW n c x)=true)(h:MK n c ob K (x.ev sl)):Dv P a w ρ e K Pn:=by
 have d:C.An P e (.ld n c x)=true:=j;unfold MK at h;split at h
 ·rename_i id p l;cases b:Dm ob id p with
  |none=>simp[b,M4]at h
  |some v=>
   simp only[b,M4]at h;cases f:EU ob v with
   |none=>simp[f,HW]at h
   |some q=>
    simp only[f,HW]at h;obtain⟨u,y,o,m,g⟩:=TY (K:=λy=>y=v) k i d (by simp_all[E9,Ge]);grind[YI,Xy,CM.refl]
 ·cases h
def Yk6(hs:SM w ρ sl a)(J:OM w ρ ob){O:Op}{n:Nat}{s:Bool}{x:A}(hc:I.An P O (.LP n s x)=true)(h:Ps n s ob K (x.ev sl)):Dv P a w ρ O K Pn:=by
 cases O<;>simp[I.An]at hc;rename_i t y;obtain⟨⟨⟨hn,hu⟩,ac⟩,h1⟩:=hc;have Q:=A.A2 hs h1;unfold Ps at h;split at h
 ·rename_i id p e1;rw[e1]at Q;cases e:Dm ob id p with
  |none=>simp[e,UQ]at h
  |some v=>
   simp only[e,UQ]at h;obtain⟨h2,h3,h⟩:=h;cases L:Dc 40000 ob v with
   |none=>simp[L,UP]at h
   |some q=>
    obtain⟨d,o⟩:=q;simp only[L,UP]at h;obtain⟨af,h⟩:=h;obtain⟨g,b',cs,E,W,X,z,Y,Z⟩:=N2 J e;obtain⟨b,sh,k,Q⟩:=B2 J W Q;rw[k]at z;simp only[ED,RO.box.injEq]at z;obtain⟨rfl,rfl⟩:=z;obtain⟨c1,c,c3,T,U,G⟩:=Ke p g v cs Z X;obtain⟨⟨r,t1,o1,hx,N⟩,hk⟩:=fS 40000 v ob ρ c d o J G L;have f:AD o id=some (.box E g):=by
     rcases hk id with H|H
     ·rw[H,W]
     ·rw[H]at h;cases h
    rw[f]at h;simp only[aZ]at h;obtain⟨t',j,hK⟩:=h;have l:r.m id=some (.box b g.shape):=by
     obtain⟨o',p1,p2⟩:=t1.same id _ k;obtain⟨b2,ab,q1,_⟩:=o1.Ba id _ f;rw[p1]at q1;cases p2<;>simp_all
    have F:=Ii t1 _ _ Z;obtain⟨ah,u,e5,h6⟩:=QN p g v (.d d) cs c F X (by simp_all[V.Au]) (by simp_all[V.shape]);rw[j]at u;simp at u;subst u;have e7:cs.take (g.shape.off p)++(c++cs.drop (g.shape.off p+c.length))=cs:=by
     rw[<-U,T];simp
    rw[e7]at h6;have o2:=o1.swap f (x':=.box E t') ⟨b,cs,by rw[e5];exact l,Y,h6⟩;have hl:c.length=n:=by rw[GK _ _ G,<-h2];rfl
    have aa:=wY (P:=P) (t:=t) (n:=n) hn hu (b:=b) (off:=g.shape.off p) (cs:=c) hl (w':=w) (λi hi=>by
     rw[<-U];simp[World.cell?,Y,T,List.getElem?_append,hi]) (λG=>by simp_all[Qk])
    have ae:=dy (w:=w) (ρ:=r) (v:=.d d) (cs:=c) (by simp_all[V.Au]);have ad:(V.d d).isAgg=s:=by
     rw[<-h3,<-N];cases d<;>rfl
    grind[Xy,execOp,Sem.run_bind,Result.andThen_ok,Sem.run_pure]
 ·cases h
def xp(m:OM w ρ ob){E s:Nat}{y x:V}{p:List Nat}(h:Hu ob E s p y K x):∃l k,Tr w ρ w l/\OM w l k/\K y k:=by
 unfold Hu at h;split at h
 ·rename_i id q;unfold ON at h;split at h
  ·rename_i u t Q;rcases h with⟨i,h⟩|⟨_,h⟩
   case inr=>grind[Tr.refl]
   obtain⟨b,c,H,v,J⟩:=m.Ba id _ Q;have r:id≠AA ob:=by grind[X1]
   have j:∀b,RO.Cl.blk? = some b->w.heap.size<=b:=λb O=>by simp[RO.blk?]at O
   have U:=Qd w (CM.refl w) (o:=.Cl) (m.free (X1 ob)) j;have T:OM w (ρ.Bp (AA ob) .Cl) ((AA ob,.BO E s [])::ob):=m.Bp (CM.refl w) (X1 ob) j (.inl ⟨by simp[BF.Bp],rfl⟩);have g:=Ii U _ _ J;obtain⟨W,X,Y,z,F,L⟩:=Ke (q++p) t (.d .Ah) c g i;subst L;obtain⟨t',Z,G,N⟩:=QN (q++p) t (.d .Ah) (.sl (AA ob) 0) c [.slice none 0 0] g i (by exact⟨.Cl,_,by simp[BF.Bp],rfl,rfl,rfl⟩) (by simp[V.shape,D.shape]);simp only[Pg]at h;have e7:c.take (t.shape.off (q++p))++([Value.slice none 0 0]++c.drop (t.shape.off (q++p) + [Value.slice none 0 0].length))=c:=by
    rw[<-F,z];simp
   have n:AD ((AA ob,Ob.BO E s [])::ob) id=some (.box u t):=by grind[AD]
   obtain⟨t2,o2⟩:=EG T (t':=t') n (by simp[BF.Bp,r,H]) v G N;have hw:w.setRow b c.toArray=w:=by
    have:w.heap[b]? = some (.cells c.toArray u (0,0)):=v;unfold World.setRow;have hh:(w.heap.modify b λo=>match o with|.cells _ e f=>.cells c.toArray e f|o=>o)=w.heap:=by
     grind
    cases w;grind
   grind[AG]
  ·cases h
 ·cases h
def xq{y x:V}:∀{l:List (Nat×Nat×List Nat)} {ρ ob},OM w ρ ob->JY y K x l ob->∃c b,Tr w ρ w c/\OM w c b/\K y b
|[],ρ,ob,d,h=>⟨ρ,ob,Tr.refl w ρ,d,h⟩
|e::l,ρ,ob,d,h=>by
 obtain⟨q,n,o,k,i⟩:=xp d h;obtain⟨g,f,p,m,j⟩:=xq k i;exact⟨g,f,o.trans p,m,j⟩
def Ylb(j:SM w ρ sl a)(g:OM w ρ ob){b:Op}{E d:Nat}{y x:A}{p:List Nat}(c:I.An P b (.KY E d y x p)=true)(h:Hu ob E d p (y.ev sl) K (x.ev sl)):Dv P a w ρ b K Pn:=by
 obtain⟨n,l,e,k,f⟩:=xp g h;cases b<;>simp[I.An]at c
 all_goals
  have m:=A.A2 j c;exact Xy (λo i=>by simp[execOp,i]) f (HD e m) k e
def Ylc(i:SM w ρ sl a)(f:OM w ρ ob){b:Op}{y x:A}{l:List (Nat×Nat×List Nat)}(c:I.An P b (.KZ y x l)=true)(h:JY (y.ev sl) K (x.ev sl) l ob):Dv P a w ρ b K Pn:=by
 obtain⟨n,k,d,j,e⟩:=xq f h;cases b<;>simp[I.An]at c
 all_goals
  have m:=A.A2 i c;exact Xy (λo g=>by simp[execOp,g]) e (HD d m) j d
def de(hs:SM w ρ sl a){z:List D}{Xr:List (Nat×A)}{t e:TypeId}{b f:Nat}{k:Array (Nat×Operand)}{K:List V->Prop}(N:P.underlying t=some (.slice e))(he:Yl P e=some f)
 (hp:Ub k.toList Xr=true) (hl:z.length=b) (Z:b*f<=2 ^ 24) (hu:∀x∈z,x.sz=f) (Q:(match Tl P e b f with|some j=>He z j|none=>false)=true)
 (h:Er (z.map .d) (Xr.map λ(i,x)=>(i,x.ev sl)) K):
 ∃g j,K g/\Cg w ρ g j/\g.map V.shape=(z.map V.d).map V.shape/\∀o:Oper,o.op=.buildSlice t b k->(execOp a.eval o).run P w=.ok (.value (.slice (some ⟨w.heap.size,0,none⟩) b b)) (E4 w (.cells j.toArray e)):=by
 cases c:Tl P e b f with
 |none=>simp[c]at Q
 |some j=>
  simp only[c]at Q;have y:Cg w ρ (z.map .d) j:=(Kd z j).2 (WK z j Q);have m:∀i,i<((z.map V.d).map V.shape).length->(λi=>some (i*f,f)) i=some (Sh.Br (((z.map V.d).map V.shape).take i),(((z.map V.d).map V.shape).getD i .leaf).size):=by
   intro i hi;have J:i<z.length:=by simpa using hi
   have O:z[i].shape.size=f:=by simp_all[D4]
   rw[<-xS,FE (sz:=f) _ (λx O=>hu x (Lf O)),Mf,O2 (by omega)];simp[J,V.shape,O]
  have q:∀(g:List V) (k:List (Nat×V)) (K:List V->Prop),Er g k K->Er g k (λn=>K n/\n.map V.shape=g.map V.shape):=by
   intro g k;induction k generalizing g with
   |nil=>intro K h;exact⟨h,rfl⟩
   |cons p r ih=>
    obtain⟨i,v⟩:=p;intro K h;simp only[Er]at h⊢;obtain⟨X,Y,h3,h4⟩:=h;refine⟨X,Y,h3,?_⟩;have h5:=ih (g.set i v) K h4;have e:(g.set i v).map V.shape=g.map V.shape:=by
     apply Sz;grind
    simp_all
  obtain⟨n,G,⟨hK,L⟩,hR,T⟩:=gB (sl:=sl) hs (λi=>some (i*f,f)) ((z.map V.d).map V.shape) m k.toList Xr (z.map .d) j _ hp y rfl (q _ _ _ h);refine⟨n,G,hK,hR,L,λo ho=>?_⟩;have l:∀u:Operand->Value,(k.map λ(i,x)=>(i,u x)).toList=k.toList.map λ(i,x)=>(i,u x):=λu=>by simp
  simp only[execOp,ho,Instr.buildSlice,Cm,Xa N,X3 he,Ch,l];rw[A5 (by omega)];unfold Tl at c;by_cases H:b*f=0
  ·simp only[H,CP,ED]at c;subst c;simp only[H,CP,DD];have:(Array.map (λx=>(#[]:Array Value)[x % (#[]:Array Value).size]!) (Array.range 0))=([]:List Value).toArray:=by simp
   simp only[this,T,newRow,Cm,run_newObj,Ch,DD];rfl
  ·simp only[H,CR]at c⊢;cases F:Jx P e with
   |none=>simp[F]at c
   |some zc=>
    obtain⟨U,e1,_,s⟩:=Jy F;have W:Array.map (λx=>U.cells[x % U.cells.size]!) (Array.range (b*f))=j.toArray:=by
     grind
    simp only[Cm,s,Ch,DD,W,T,newRow,run_newObj];rfl
def Xgb{l z:List D}{e:Nat}(h:(l.map V.d).map V.shape=(z.map V.d).map V.shape)(j:∀x∈z,x.sz=e):l.length=z.length/\∀x∈l,x.sz=e:=by
 have b:l.length=z.length:=by simpa using DH List.length h
 refine⟨b,λx g=>?_⟩;obtain⟨i,c,rfl⟩:=List.getElem_of_mem g;have f:=DH (λs:List Sh=>(s.getD i .leaf).size) h;simp only[Nu,List.getElem?_map,EW c,EW (b▸c),Mm,Option.getD_some,V.shape,D4]at f;simp_all
def jW{z:List D}{Xr:List (Nat×A)}{op:Op}{sz:Nat}{E? : Option Nat}
 (f:R1 P op E? sz z Xr=true):
 ∃t b c e,op=.buildSlice t b c/\P.underlying t=some (.slice e)/\(∀E,E? = some E->e=E)/\Yl P e=some sz/\Ub c.toList Xr=true/\z.length=b/\b*sz<=2 ^ 24/\(∀x∈z,x.sz=sz)/\(match Tl P e b sz with|some d=>He z d|none=>false)=true:=by
 cases op<;>simp only[R1,BY]at f;grind
def wZ(Q:SM w ρ sl a)(s:OM w ρ ob){op:Op}{sz:Nat}{z:List D}{Xr:List (Nat×A)}(L:I.An P op (.Gk sz z Xr)=true)
 (h:Er (z.map .d) (Xr.map λ(i,x)=>(i,x.ev sl)) λp=>dK (λl=>K (.d (.AH sz l)) ob) (Cb p)):Iq P a w ρ op ob K:=by
 obtain⟨t,q,W,e,rfl,n,_,N,O,v,g,y,T⟩:=jW (P:=P) (op:=op) (z:=z) (Xr:=Xr) (sz:=sz) (E?:=none) L;obtain⟨p,r,j,u,m,c⟩:=de Q n N O v g y T h;cases k:Cb p with
 |none=>simp[k,dK]at j
 |some l=>
  simp only[k,dK]at j;have F:=V.Cd k;subst F;rw[Kd]at u;obtain⟨G,H⟩:=Xgb m y;have b:=Wg w (.cells r.toArray e);refine⟨_,_,_,j,Zj.2 (.inr ⟨_,q,r,by rw[G,v],by omega,?_,GX (b.tr (ρ:=ρ)).mono _ _ u,H⟩),b,c⟩;refine⟨λ_=>⟨rfl,?_,?_⟩,λi U=>?_⟩
  ·rintro (⟨id,o,f,J⟩|f)
   ·have:=Q3 s f J;simp at this
   ·have:=s.FV _ f;simp at this
  ·simp_all[Wq,Xu]
  simp[World.cell?,Wq]
def Xrf(T:SM w ρ sl a)(y:OM w ρ ob){op:Op}{E sz:Nat}{z:List D}{Xr:List (Nat×A)}(L:I.An P op (.Hw E sz z Xr)=true)
 (h:Er (z.map .d) (Xr.map λ(i,x)=>(i,x.ev sl)) λs=>dK (λl=>K (.sl (AA ob) l.length) ((AA ob,.BO E sz l)::ob)) (Cb s)):Ln P a w ρ op K:=by
 have c:=X1 ob;obtain⟨t,W,Z,e,rfl,r,J,N,Q,O,k,F,U⟩:=jW (P:=P) (op:=op) (z:=z) (Xr:=Xr) (sz:=sz) (E?:=some E) L;obtain rfl:=J E rfl;obtain⟨s,u,m,n,q,j⟩:=de T r N Q O k F U h;cases p:Cb s with
 |none=>simp[p,dK]at m
 |some l=>
  simp only[p,dK]at m;have H:=V.Cd p;subst H;rw[Kd]at n;obtain⟨X,v⟩:=Xgb q F;have f:=Wg w (.cells u.toArray e);have g:∀b,(RO.BO w.heap.size l.length l.length).blk? = some b->w.heap.size<=b:=λb Y=>by simp_all[RO.blk?]
  have G:=Qd _ f (o:=.BO w.heap.size l.length l.length) (y.free c) g;refine W4 j m (Y9.2 ⟨_,by simp[BF.Bp];rfl,?_⟩) (y.Bp f c g ?_) G f
  ·simp_all[RO.slice]
  ·refine .inr ⟨w.heap.size,l.length,u,[],by simp[BF.Bp],by simp[Wq],GX G.mono _ _ n,v,?_⟩;rw[HH,HC _ _ n,FE _ v]
def Xks{l:List V}{z:List D}{e:Nat}(h:l.map V.shape=(z.map V.d).map V.shape)(j:∀x∈z,x.sz=e):l.length=z.length/\∀x∈l,x.size=e:=by
 have b:l.length=z.length:=by simpa using DH List.length h
 refine⟨b,λx g=>?_⟩;obtain⟨i,c,rfl⟩:=List.getElem_of_mem g;have f:=DH (λs:List Sh=>(s.getD i .leaf).size) h;simp only[Nu,List.getElem?_map,EW c,EW (b▸c),Mm,Option.getD_some,V.shape,D4]at f;simp_all[V.size]
def Xrg(N:SM w ρ sl a)(r:OM w ρ ob){op:Op}{E sz:Nat}{z:List D}{Xr:List (Nat×A)}(G:I.An P op (.IS E sz z Xr)=true)
 (h:Er (z.map .d) (Xr.map λ(i,x)=>(i,x.ev sl)) λf=>K (.sl (AA ob) f.length) ((AA ob,.A0 E sz f)::ob)):Ln P a w ρ op K:=by
 have c:=X1 ob;obtain⟨t,Q,W,e,rfl,n,y,H,L,J,l,u,O⟩:=jW (P:=P) (op:=op) (z:=z) (Xr:=Xr) (sz:=sz) (E?:=some E) G;obtain rfl:=y E rfl;obtain⟨f,p,F,s,m,k⟩:=de N n H L J l u O h;obtain⟨T,q⟩:=Xks m u;have g:=Wg w (.cells p.toArray e);have j:∀b,(RO.BO w.heap.size f.length f.length).blk? = some b->w.heap.size<=b:=λb U=>by simp_all[RO.blk?]
 have v:=Qd _ g (o:=.BO w.heap.size f.length f.length) (r.free c) j;refine W4 k F (Y9.2 ⟨_,by simp[BF.Bp];rfl,?_⟩) (r.Bp g c j ?_) v g
 ·simp_all[RO.slice]
 ·refine .inr ⟨w.heap.size,f.length,p,[],by simp[BF.Bp],by simp[Wq],IA v _ _ s,q,?_⟩;rw[HH,Nk _ _ s,V.Bz,Yg (z:=sz) _ q]
def YR(d:OM w ρ ob){id:Nat}{x z:Ob}{o:RO}{s:World}(v:AD ob id=some x)(t:Tr w ρ s (ρ.Bp id o))(L:D5 s (ρ.Bp id o) id z)
 (n:∀b,o.blk? = some b->w.heap.size<=b\/∃p,ρ.m id=some p/\p.blk? = some b) (H:∀j p b,j≠id->ρ.m j=some p->p.blk? = some b->s.heap[b]? = w.heap[b]?):OM s (ρ.Bp id o) (AG ob id z):=by
 refine⟨λj y u=>?_,λj p J=>?_,λi j p q b f c g k=>?_,λb n=>O5 (d.FV b n) t.size,Ms t d.EZ,λb f c=>?_,d.C4.set⟩
 ·rw[Xe ob id j ⟨_,v⟩]at u;split at u
  ·simp_all
  next e=>exact D5.tr t (d.Ba j y u) (by simp[BF.Bp,e]) (λb p f c=>H j p b e f c)
 ·rw[Xe ob id j ⟨_,v⟩];split
  ·exact⟨_,rfl⟩
  next e=>exact d.Ev j p (by simp_all[BF.Bp])
 ·simp only[BF.Bp]at f c;split at f
  ·rename_i F;split at c
   ·omega
   ·simp at f;subst f;rcases n b g with h|⟨r,h,l⟩
    ·grind[Q3]
    ·subst F;exact d.inj _ _ _ _ _ h c l k
  ·split at c
   ·rename_i G;simp at c;subst c;rcases n b k with h|⟨r,h,l⟩
    ·grind[Q3]
    ·subst G;exact d.inj _ _ _ _ _ f h g l
   ·exact d.inj i j p q b f c g k
 ·obtain⟨i,p,g,k⟩:=f;simp only[BF.Bp]at g c;split at g
  ·simp at g;subst g;rcases n b k with h|⟨r,h,l⟩
   ·have:=d.FV b c;omega
   ·exact d.D1 b ⟨_,r,h,l⟩ c
  ·exact d.D1 b ⟨i,p,g,k⟩ c
def Yp.len:∀{b:List (D×V)} {l:List MapEntry},Yp w ρ b l->l.length=b.length
|[],l,h=>by simp_all[Yp]
|(k,v)::r,l,h=>by obtain⟨e,d,rfl,_,_,c⟩:=h;simp[Yp.len c]
theorem Yp.On:∀{b:List (D×V)} {l:List MapEntry},Yp w ρ b l->∀(i:Nat)(e:MapEntry),l[i]? = some e->(b.getD i default).1.key=some e.key/\(b.getD i default).2.A1 w ρ e.val
|[],l,h,i,e,c=>by simp_all[Yp]
|(k,v)::r,l,h,0,e,c=>by obtain⟨f,m,rfl,g,j,d⟩:=h;simp_all
|(k,v)::r,l,h,i+1,e,c=>by obtain⟨f,m,rfl,g,j,d⟩:=h;simpa using Yp.On d i e (by simpa using c)
theorem F2.On:∀{l:List MapEntry}{n:Nat},F2 n l->∀(i:Nat)(e:MapEntry),l[i]? = some e->e.born=n+i
|[],n,h,i,e,b=>by simp at b
|x::r,n,h,0,e,b=>by simp at b;subst b;simpa using h.1
|x::r,n,h,i+1,e,b=>by have:=F2.On h.2 i e (by simpa using b);omega
theorem F2.mem{l:List MapEntry}(h:F2 0 l){e:MapEntry}(b:e∈l):e.born<l.length/\l[e.born]? = some e:=by
 obtain⟨i,c,rfl⟩:=List.mem_iff_getElem.1 b;have:=F2.On h i _ (EW c);simp_all
def F2.find{l:List MapEntry}(h:F2 0 l){i:Nat}{e:MapEntry}(b:l[i]? = some e):l.find? (·.born==i)=some e:=by
 cases c:l.find? (·.born==i)<;>grind[F2.On,F2.mem]
def TO{g:Nat->Prop}:∀{e:List D}{b:List Value},Qp e=some b->CT w g e b
|[],b,h=>by simp only[Qp,ED]at h;subst h;rfl
|x::r,b,h=>by
 simp only[Qp]at h;split at h
 next u c d f=>cases h;refine⟨[u],c,rfl,?_,TO f⟩;cases x<;>simp only[D.GR,ED,reduceCtorEq]at d<;>subst d<;>simp[D.A1]
 ·cases h
theorem Wr{o:Option (List Value)}{u:Value}(h:sG o=some u):∃b,o=some b/\u=.agg b.toArray:=by
 cases o with
 |none=>cases h
 |some b=>cases h;simp
def Ybu{d:D}{u:Value}(h:d.key=some u):(V.d d).A1 w ρ u:=by
 cases d<;>simp only[D.key,ED,reduceCtorEq]at h
 ·simp_all[Ye]
 ·simp_all[BW]
 ·simp_all[CX]
 ·obtain⟨b,c,rfl⟩:=Wr h;exact .inr (.inl ⟨rfl,b,rfl,by simp_all[V.Au,D.A1,TO]⟩)
def nu(h:OM w ρ ob)(o:Obj)(x:Ob)(f:D5 (E4 w o) (ρ.Bp (AA ob) (.map w.heap.size)) (AA ob) x):
 Tr w ρ (E4 w o) (ρ.Bp (AA ob) (.map w.heap.size))/\OM (E4 w o) (ρ.Bp (AA ob) (.map w.heap.size)) ((AA ob,x)::ob)/\CM w (E4 w o):=by
 have c:=Wg w o;have d:=X1 ob;exact⟨Qd _ c (o:=.map w.heap.size) (h.free d) (λb e=>by simp_all[RO.blk?]),h.Bp c d (λb e=>by simp_all[RO.blk?]) f,c⟩
def Xri(N:SM w ρ sl a)(i:OM w ρ ob){p:Op}{x:A}(u:I.An P p (.LW x)=true)(h:NS ob K (x.ev sl) (AD ob (SK (x.ev sl)))):Ln P a w ρ p K:=by
 cases p<;>simp only[I.An,BY,BX]at u;rename_i t y;obtain⟨m,O⟩:=u;obtain⟨F,r,m⟩:∃F r,P.underlying t=some (.map F r):=by grind
 have c:=A.A2 N O;generalize x.ev sl=v at h c;unfold NS at h;split at h
 ·rename_i id H z;simp only[SK]at z;obtain⟨b,l,G,s,J,L,rfl,T⟩:=i.Ba id _ z;rw[SD]at c;rcases c with⟨Q,g,c⟩|⟨g,_⟩
  ·rw[s]at g;cases g;have j:id≠AA ob:=λe=>by simp_all[X1]
   obtain⟨q,n,f⟩:=nu i (.mapIter (some b) l.length #[] l.length) (.it (some id) H.length []) ⟨w.heap.size,b,by simp[BF.Bp],.inl (by simp[BF.Bp,j,s]),by rw[Wq,L.len]⟩;refine W4 (λo k=>?_) h (Mq.2 (.inl ⟨w.heap.size,by simp[BF.Bp],rfl⟩)) n q f;have d:(getObj b).run P w=.ok (.map l.toArray l.length) w:=by simp[getObj,Sem.run,J]
   simp only[execOp,k,Instr.range,c,Cm,Xa m,Ch,d,run_newObj,DD];rfl
  simp_all
 ·rw[TU]at c;obtain⟨q,n,f⟩:=nu i (.mapIter none 0 #[] 0) (.it none 0 []) ⟨w.heap.size,by simp[BF.Bp],by rw[Wq]⟩;refine W4 (λo k=>?_) h (Mq.2 (.inl ⟨w.heap.size,by simp[BF.Bp],rfl⟩)) n q f;simp only[execOp,k,Instr.range,c,Cm,Xa m,Ch,run_newObj,DD];rfl
 ·cases h
def yD(h:OM w ρ ob){id b:Nat}{y x:Ob}{o:Obj}(k:AD ob id=some y)(l:ρ.m id=some (.map b))(r:b<w.heap.size)(s:D5 (Et w b o) ρ id x):
 Tr w ρ (Et w b o) ρ/\OM (Et w b o) ρ (AG ob id x):=by
 have g:Tr w ρ (Et w b o) ρ:=by
  refine⟨by simp[U2,B9],λj d _=>Wn w _ (λe=>d ?_),λ_ h=>.inl h,rfl,rfl,λ_ o h=>⟨o,h,.refl o⟩,rfl,rfl,rfl,B9 _⟩;subst e;exact⟨id,_,l,rfl⟩
 refine⟨g,λj z f=>?_,λj o d=>?_,h.inj,λi c=>by rw[U2];exact h.FV i c,Ms g h.EZ,h.D1,h.C4.set⟩
 ·rw[Xe ob id j ⟨_,k⟩]at f;split at f
  ·simp_all
  next e=>refine D5.tr g (h.Ba j z f) rfl (λi o p q=>Wn w _ (λn=>e ?_));subst n;exact h.inj j id _ _ _ p l q rfl
 ·rw[Xe ob id j ⟨_,k⟩];split
  ·exact⟨_,rfl⟩
  ·exact h.Ev j o d
def XM{b:Nat}{o y:Obj}(w:World)(c:w.heap[b]? = some y)(d:y.isCells=false):(setObj b o).run P w=.ok () (Et w b o):=by
 grind[setObj,Sem.run,Et,Obj.isCells]
def Ymz(P:Program)(w:World){n:Nat}(c:0<n):∃k b,(choose (.mapNext n)).run P w=.ok k b/\k<n/\CM w b/\b.heap=w.heap:=by
 rw[run_choose_drew];split
 ·grind[CM.refl]
 ·exact⟨_,_,rfl,Nat.mod_lt _ c,QO w _,rfl⟩
def Yld(hs:SM w ρ sl a)(L:OM w ρ ob){op:Op}{x:A}(hc:I.An P op (.MV x)=true)(h:OY ob K (x.ev sl)):Dv P a w ρ op K Pn:=by
 cases op<;>simp only[I.An,BY]at hc;rename_i y st;cases st<;>simp only[BY]at hc;have m:=A.A2 hs hc;generalize x.ev sl=v at h m;unfold OY at h;split at h
 ·rename_i id;have t:(V.BU [.d (.bool false)]).A1 w ρ (.tuple #[.bool false]):=by
   rw[CY];exact⟨[.bool false],rfl,by simp only[V.BT];exact⟨_,_,rfl,BW.2 rfl,rfl⟩⟩
  unfold ND at h;split at h
  ·rename_i n sn hl;obtain⟨b,J,z⟩:=L.Ba id _ hl;rw[Mq]at m;rcases m with⟨b',F,m⟩|⟨F,_⟩
   ·rw[J]at F;cases F;simp only[LM]at m;have g:(getObj b).run P w=.ok (.mapIter none 0 #[] 0) w:=by simp[getObj,Sem.run,z]
    exact Xy (λo ho=>by simp[execOp,ho,Instr.next,m,g]) h t L (Tr.refl _ _)
   simp_all
  ·rename_i j n seen hl;obtain⟨b,H,J,z,g3⟩:=L.Ba id _ hl;rw[Mq]at m;rcases m with⟨b',F,m⟩|⟨F,_⟩
   ·rw[J]at F;cases F;simp only[LM]at m;unfold RX at h;split at h
    ·rename_i es ai;obtain⟨Z,al,ae⟩:=h;obtain⟨au,l,ao,m1,m2,m3,rfl,m5⟩:=L.Ba j _ ai;rcases z with z|z
     ·rw[m1]at z;cases z;have aj:l.length=n:=by rw[m3.len,Z]
      have g:(getObj b).run P w=.ok (.mapIter (some H) n seen.toArray n) w:=by simp[getObj,Sem.run,g3]
      have W:(getObj H).run P w=.ok (.map l.toArray l.length) w:=by simp[getObj,Sem.run,m2]
      have s:(!seen.toArray.isEmpty&&!l.toArray.isEmpty&&l.toArray.all (λe=>decide (e.born≥n)))=false:=by
       cases l with
       |nil=>simp
       |cons e r=>
        have h0:=m5.1;grind
      let left:Array MapEntry:=l.toArray.filter λe=>!seen.toArray.contains e.born;have ac:left.filter (λe=>decide (e.born<n))=left:=by
       grind[Array.filter_eq_self,F2.mem]
      have aa:left.filter (λe=>decide (e.born≥n))=#[]:=by
       simp_all
      have q:Array.filter (λx=>decide (x.born<n)) (Array.filter (λe=>!seen.toArray.contains e.born) l.toArray)=left:=ac;have p:Array.filter (λx=>decide (x.born≥n)) (Array.filter (λe=>!seen.toArray.contains e.born) l.toArray)=#[]:=aa;let f:Array (Option MapEntry):=(if left.isEmpty then #[none] else #[])++(left++#[]).map some;have ad:0<f.size:=by
       simp only[f];split<;>grind
      obtain⟨k,u,X,ap,G,ag⟩:=Ymz P w ad;have N:=L.ext G;cases T:f[k]? with
      |none=>simp_all
      |some c=>
       cases c with
       |none=>
        have Y:left.isEmpty=true:=by
         grind
        have O:(List.range n).all (λi=>seen.contains i)=true:=by
         rw[Fl];intro i hi;have hi:=List.mem_range.1 hi;have ah:i<l.length:=by omega
         have hb:=F2.On m5 i _ (EW ah);rw[RA]at hb;cases hc:seen.contains i with
         |true=>rfl
         |false=>
          exfalso;have:l[i]∈left:=by
           grind
          simp_all
        refine Xy (w':=u) (ρ':=ρ) (λo ho=>?_) (al O) t N G.tr;simp only[execOp,ho,Instr.next,m,Cm,g,Ch,W,s,BY,CR];rw[q,p]
        change ((Sem.run P (choose (.mapNext f.size)) w).andThen _).andThen _=_
        rw[X];simp only[Ch]
        change (Sem.run P (match f[k]? with|some (some e)=>_|some none=>_|none=>_) u).andThen _=_
        simp_all
       |some e=>
        have U:e∈left:=by
         have hm:some e∈f:=Array.mem_of_getElem? T;simp only[f,Array.append_empty,Array.mem_append,Array.mem_map]at hm;simp_all
        obtain⟨af,ak⟩:=Array.mem_filter.1 U;obtain⟨aq,Y⟩:=F2.mem m5 (e:=e) (by simpa using af);have ab:seen.contains e.born=false:=by simpa using ak
        obtain⟨n1,n2⟩:=m3.On e.born e Y;have Q:b<u.heap.size:=by grind
        obtain⟨t2,o2⟩:=yD (o:=.mapIter (some H) n (seen++[e.born]).toArray n) N hl J Q (x:=.it (some j) n (seen++[e.born])) ⟨b,H,J,.inl m1,XQ u _ Q⟩;have t3:=G.tr.trans t2;refine Xy (ρ':=ρ) (v:=.tuple #[.bool true,e.key,e.val]) (λo ho=>?_) (ae e.born (by omega) ab) ?_ o2 t3
        ·simp only[execOp,ho,Instr.next,m,Cm,g,Ch,W,s,BY,CR];rw[q,p]
         change ((Sem.run P (choose (.mapNext f.size)) w).andThen _).andThen _=_
         rw[X];simp only[Ch]
         change (Sem.run P (match f[k]? with|some (some e)=>_|some none=>_|none=>_) u).andThen _=_
         rw[T];have an:(setObj b (.mapIter (some H) n (seen.toArray.push e.born) l.length)).run P u=.ok () (Et u b (.mapIter (some H) n (seen++[e.born]).toArray n)):=by
          rw[aj];have:(seen.toArray.push e.born)=(seen++[e.born]).toArray:=by simp
          rw[this];exact XM u (y:=.mapIter (some H) n seen.toArray n) (by rw[ag];exact g3) rfl
         simp_all
        ·rw[CY];refine⟨_,rfl,?_⟩;simp only[V.BT];exact⟨_,_,rfl,BW.2 rfl,_,_,rfl,Ybu n1,_,_,rfl,HD t3 n2,rfl⟩
     simp_all
    ·cases h
   simp_all
  ·cases h
 ·cases h
def wu(Y:SM w ρ sl a)(s:OM w ρ ob){m:Op}{x:A}(t:I.An P m (.LJ x)=true)(h:OU ob (λv=>K v ob) (x.ev sl)):Iq P a w ρ m ob K:=by
 cases m<;>simp only[I.An,BY]at t;rename_i y;have f:=A.A2 Y t;generalize x.ev sl=v at h f;unfold OU at h;split at h
 ·rename_i id;unfold Rb at h;split at h
  ·rename_i j n seen U;obtain⟨X,h⟩:=h;unfold Ra at h;split at h
   ·rename_i es g;obtain⟨T,e,r⟩:=h;obtain⟨b,F,L,d,N⟩:=s.Ba id _ U;obtain⟨aa,l,J,Z,m2,z,rfl,m5⟩:=s.Ba j _ g;rw[Mq]at f;rcases f with⟨b',q,f⟩|⟨q,_⟩
    ·rw[L]at q;rcases d with d|d
     ·rw[Z]at d;cases d;simp only[LM]at f;have W:l.length=n:=by rw[z.len,e]
      have u:(getObj b).run P w=.ok (.mapIter (some F) n seen.toArray n) w:=by simp[getObj,Sem.run,N]
      have Q:(getObj F).run P w=.ok (.map l.toArray l.length) w:=by simp[getObj,Sem.run,m2]
      have k:seen.toArray.back? = some (seen.getLastD 0):=by
       cases seen<;>grind
      generalize seen.getLastD 0=i at T r k;have c:l[i]? = some (l[i]'(by omega)):=EW (by omega);have O:=m5.find c;obtain⟨G,H⟩:=z.On _ _ c;generalize l[i]'(by omega)=p at c O G H;refine⟨.tuple #[p.key,p.val],_,w,r,?_,CM.refl w,λo ho=>?_⟩
      ·rw[CY];refine⟨_,rfl,?_⟩;exact⟨_,_,rfl,Ybu G,_,_,rfl,H,rfl⟩
      simp_all[execOp,Instr.entry]
     simp_all
    simp_all
   ·cases h
  ·cases h
 ·cases h
def Xqm(N:SM w ρ sl a)(J:OM w ρ ob){m:Op}{x:A}(d:I.An P m (.FZ x)=true)(h:Lw ob (λv=>K v ob) (x.ev sl)):Iq P a w ρ m ob K:=by
 cases m<;>simp only[I.An,BY]at d;rename_i c;obtain⟨q,f,O⟩:=c;cases q<;>(try simp only[BY]at d);rename_i b;cases b<;>(try simp only[BY]at d);split at d
 ·rename_i y t T U;simp only[BX]at d;obtain⟨G,H⟩:=d;obtain⟨p,i,n⟩:∃p i,P.underlying t=some (.map p i):=by revert G;split<;>simp_all
  have e:=A.A2 N H;have s:f=#[y]:=by grind
  have i:O=#[t]:=by grind
  subst s i;generalize x.ev sl=v at h e;unfold Lw at h;split at h
  ·rename_i id;unfold RU at h;split at h
   ·rename_i W L;obtain⟨b,l,r,u,z,F,rfl,X⟩:=J.Ba id _ L;rw[SD]at e;rcases e with⟨Q,j,e⟩|⟨j,_⟩
    ·rw[u]at j;cases j;have g:(getObj b).run P w=.ok (.map l.toArray l.length) w:=by simp[getObj,Sem.run,z]
     refine⟨_,_,w,h,Ye.2 rfl,CM.refl w,λo k=>?_⟩;simp[execOp,k,resolve,invoke,builtin,Builtin.len_,e,Xa n,goInt,g,F.len]
    simp_all
   ·cases h
  ·rw[TU]at e;refine⟨_,_,w,h,Ye.2 rfl,CM.refl w,λo k=>?_⟩;simp[execOp,k,resolve,invoke,builtin,Builtin.len_,e,Xa n,goInt]
  ·cases h
 ·simp at d
def Ylm{t e:TypeId}(c:P.underlying t=some (.slice e))(x:Option Addr)(n m:Nat)(b:World):(Op.equal t (.slice x n m) (.slice none 0 0)).run P b=.ok x.isNone b:=by
 have:∀d,(Op.equalIn (d+1) t (.slice x n m) (.slice none 0 0)).run P b=.ok x.isNone b:=λd=>by cases x<;>simp[Op.equalIn,Xa c]
 exact this 9999
def Ylk{t k e:TypeId}(c:P.underlying t=some (.map k e))(x:Option Nat)(b:World):(Op.equal t (.map x) (.map none)).run P b=.ok x.isNone b:=by
 have:∀d,(Op.equalIn (d+1) t (.map x) (.map none)).run P b=.ok x.isNone b:=λd=>by cases x<;>simp[Op.equalIn,Xa c]
 exact this 9999
def X5m(d:BinOp)(t:TypeId)(x y:Operand)(b:Option Addr)(n m:Nat)(v:Value)(c:World):(eqGuard d t x y (.slice b n m) v).run P c=.ok () c:=by
 simp[eqGuard]
def Xu3(d:BinOp)(t:TypeId)(x y:Operand)(b:Option Nat)(v:Value)(c:World):(eqGuard d t x y (.map b) v).run P c=.ok () c:=by
 simp[eqGuard]
def wy(hs:SM w ρ sl a)(y:OM w ρ ob){N:Op}{e m:Bool}{x:A}(z:I.An P N (.JH e m x)=true)(h:Iy ob e (λv=>K v ob) m (x.ev sl)):Iq P a w ρ N ob K:=by
 cases N<;>simp only[I.An,BY]at z;rename_i p t q y1 Q;simp only[BX]at z;obtain⟨⟨r,Z⟩,f⟩:=z;have O:=A.A2 hs Z;generalize x.ev sl=v at h O;unfold Y59 at f;split at f
 ·rename_i X n m' L;simp only[BX,EN]at f;obtain⟨rfl,rfl⟩:=f;have ab:∀{u:Option Addr}{n m:Nat},a.eval q=.slice u n m->K (.d (.bool (if u.isNone then e else !e))) ob->Iq P a w ρ (.binOp p t q (.const (.slice none 0 0)) Q) ob K:=by
   intro u n m s g;have F:a.eval (.const (.slice none 0 0))=.slice none 0 0:=rfl;refine⟨_,_,w,g,BW.2 rfl,CM.refl w,λo J=>?_⟩;cases u<;>cases p<;>simp only[rX,BY]at r<;>(try (cases e<;>simp at r))<;>simp[execOp,J,s,F,X5m,binOp,Ylm L]
  unfold Iy at h;split at h
  next G=>cases G
  next G=>cases G
  ·simp_all[Uf]
  ·grind[Zj]
  ·rename_i id k _;rw[Y9]at O;obtain⟨o,Y,g2⟩:=O;have T:∀b j c,o=.BO b j c->k=j->K (.d (.bool !e)) ob->Iq P a w ρ (.binOp p t q (.const (.slice none 0 0)) Q) ob K:=by
    grind[RO.slice]
   unfold sJ at h;split at h
   next E sz xs i=>obtain⟨rfl,H,g⟩:=h;rcases y.Ba id _ i with⟨_,q2⟩|⟨b,c,W,sp,q1,_⟩<;>grind
   next E sz xs i=>obtain⟨rfl,H,g⟩:=h;rcases y.Ba id _ i with⟨_,q2⟩|⟨b,c,W,sp,q1,_⟩<;>grind
   ·cases h
  ·cases h
 ·rename_i k X L;have aa:∀{u:Option Nat},a.eval q=.map u->K (.d (.bool (if u.isNone then e else !e))) ob->Iq P a w ρ (.binOp p t q (.const (.map none)) Q) ob K:=by
   intro u s g;have F:a.eval (.const (.map none))=.map none:=rfl;refine⟨_,_,w,g,BW.2 rfl,CM.refl w,λo J=>?_⟩;cases u<;>cases p<;>simp only[rX,BY]at r<;>(try (cases e<;>simp at r))<;>simp[execOp,J,s,F,Xu3,binOp,Ylk L]
  unfold Iy at h;split at h
  ·rename_i id _;unfold SH at h;split at h
   next es i=>obtain⟨b,l,U,Y,_⟩:=y.Ba id _ i;simp_all[SD]
   ·cases h
  ·simp_all[TU]
  all_goals grind
 ·cases f
def Ymb{t f:Nat}{nm:String}{v:Value}{b:TypeInfo}{m:Method}(d:P.info? t=some b)(g:b.methods.find? (·.name==nm)=some m)(h:m.path=#[])(c:m.func=some (f,true)){e:TypeId}(i:P.underlying t=some (.pointer e))(k:Nat):
 (method (k+1) t v nm).run P w=.ok (f,v) w:=by
 simp only[method,Cm,run_typeInfo w d,Ch,g,h,follow,DD,c,receiverAt,Xa i,Place.get]
def Yk4{P:BE}(hg:ρ.gl=P.g)(hs:SM w ρ sl a)(hO:OM w ρ ob){op:Op}{nm:String}{t f:Nat}{fl:Option (Nat×Nat×Nat×Bool)}{x:A}{i:List A}(hc:I.An P.p op (.LN nm t f fl x i)=true)
 (h:Po P t f fl (i.map (A.ev sl)) ob K Pn (x.ev sl)):Dv P.p a w ρ op K Pn:=by
 cases op<;>simp only[I.An,BY]at hc;rename_i c;obtain⟨ca,as,ts⟩:=c;cases ca<;>(try simp only[BY]at hc);rename_i rc m0;simp only[BX,EN]at hc;obtain⟨⟨⟨rfl,h1⟩,h2⟩,b⟩:=hc;have U:=A.A2 hs h1;generalize x.ev sl=v at h U;unfold Po at h;split at h
 ·rename_i z id p;obtain⟨rfl,aw,hr⟩:=h;rw[Vf (by simp[V.isAgg]) (by simp)]at U;simp only[V.Au,Mg,Ld]at U;obtain⟨c,U,j⟩:=U;have N:(V.ptr id p).A1 w ρ c:=by
   rcases j with j|⟨q,_⟩|⟨_,j⟩
   ·cases j
   ·simp[V.isAgg]at q
   ·exact ZK.2 j
  obtain⟨u,rfl⟩:=Xf8 N;have J:∃rv r,(method (P.p.types.size+Made.depth) z (.pointer (some u)) m0).run P.p w=.ok (f,rv) w/\r.A1 w ρ rv/\Aa P f (r::i.map (A.ev sl)) ob (F7 K Pn):=by
   unfold Y2t at b;split at b
   ·rename_i m H;obtain⟨d,X,H⟩:∃d,P.p.info? z=some d/\d.methods.find? (·.name==m0)=some m:=by
     cases X:P.p.info? z with
     |none=>rw[X]at H;cases H
     |some d=>rw[X]at H;exact⟨d,rfl,H⟩
    split at b
    ·rename_i g G;simp only[BX,EN]at b;obtain⟨⟨rfl,L⟩,au⟩:=b;obtain⟨e,ht⟩:∃e,P.p.underlying z=some (.pointer e):=by revert au;split<;>simp_all
     have L:m.path=#[]:=by simpa[Array.isEmpty_iff]using L
     exact⟨_,_,Ymb X H L G ht _,N,hr⟩
    ·rename_i fi fo n ag g G;simp only[BX,EN]at b;obtain⟨rfl,b⟩:=b;split at b
     ·rename_i s ak;simp only[BX,EN]at b;obtain⟨⟨ae,ai⟩,b⟩:=b;split at b
      ·rename_i aa T;split at b
       ·rename_i y F;simp only[BX,EN,bne_iff_ne,ne_eq]at b;obtain⟨⟨⟨⟨⟨ho,aq⟩,aj⟩,ay⟩,a0⟩,Z⟩:=b;simp only[OQ]at hr;let a2:Act:=⟨#[.pointer (some u)],[]⟩
        have ao:SM w ρ [(0,.ptr id p)] a2:=by
         intro k;simp only[BG];split
         next e=>subst e;exact N
         ·exact Nv
        have af:Ws P.p s.struct fi=some y:=by simp[Ws,T,F]
        obtain⟨v2,y2,ab,al,O⟩:=Xl2 (P:=P.p) (a:=a2) (f:=fi) (fo:=fo) (x:=.t 0) (op:=.fieldAddr s.struct (.tmp 0) fi) ao hO (by simp[C.An,af,ho,aq,aj,A.An]) (by simpa[A.ev,BG]using hr)
        have W:=O ⟨none,.fieldAddr s.struct (.tmp 0) fi,0, "", #[],none⟩ rfl w (λ_=>CM.refl w)
        obtain⟨l,ah,rfl⟩:∃l,(fieldPlace u y).run P.p w=.ok l w/\v2=.pointer (some l):=by
         have ea:a2.eval (.tmp 0)=.pointer (some u):=rfl;simp only[execOp,ea,Instr.fieldAt,Cm,Xa T,Ch,F,Instr.sureAddr,DD]at W;cases hq:(fieldPlace u y).run P.p w with
         |ok l w'=>simp[hq]at W;exact⟨l,by rw[W.2],W.1.symm⟩
         |halt q w'=>simp[hq]at W
        let a3:Act:=⟨#[.pointer (some l)],[]⟩
        have ap:SM w ρ [(0,y2)] a3:=by
         intro k;simp only[BG];split
         next e=>subst e;exact al
         ·exact Nv
        obtain⟨v3,y3,ac,an,Q⟩:=TY (P:=P.p) (a:=a3) (n:=n) (ag:=ag) (x:=.t 0) (op:=.load y.type (.tmp 0)) ap hO (by simp_all[C.An,A.An]) (by simpa[A.ev,BG]using ab)
        have e3:=Q ⟨none,.load y.type (.tmp 0),0, "", #[],none⟩ rfl w (λ_=>CM.refl w)
        have az:(loadVar y.type l).run P.p w=.ok v3 w:=by
         have ea:a3.eval (.tmp 0)=.pointer (some l):=rfl;simp only[execOp,ea,Instr.loadAt,Cm,Instr.sureAddr,DD,Ch]at e3;revert e3;generalize (loadVar y.type l).run P.p w=av;intro e3;cases av<;>simp_all
        refine⟨v3,y3,?_,an,ac⟩;subst ai;have hk:P.p.types.size+Made.depth=(P.p.types.size+99)+1:=rfl;rw[hk];generalize P.p.types.size+99=kf;obtain⟨td,a1⟩:=Le.1 Z;have ax:∀e,td≠.pointer e:=λe he=>by simp_all
        have Y:∀wr,(receiverAt y.type (.var l) false wr).run P.p w=.ok v3 w:=by
         simp_all[receiverAt,Cm,Xa,Ch,Place.get]
        simp only[method,Cm,run_typeInfo w X,Ch,H,ak,follow,Xa T,F,ae,CP,Place.get,DD,asAddr,ah,G,Y]
       ·cases b
      ·cases b
     ·cases b
    ·cases b
   ·cases b
  obtain⟨rv,r,q1,q2,q3⟩:=J;refine XG hg (args:=rv::as.toList.map a.eval) (λo ho=>?_) q3 hO (by exact⟨_,_,rfl,q2,Z8 hs h2⟩);have e0:(#[Value.iface z (.pointer (some u))]++Array.map a.eval as)[0]? = some (.iface z (.pointer (some u))):=by grind
  have e1:(#[Value.iface z (.pointer (some u))]++Array.map a.eval as).extract 1 (#[Value.iface z (.pointer (some u))]++Array.map a.eval as).size=Array.map a.eval as:=by
   simp
  simp only[execOp,ho,resolve,U,Cm,DD,Ch,invoke,e0,e1,callMethod];have hp:∀w,(program).run P.p w=.ok P.p w:=λ_=>rfl;simp_all[Cm,Ch,Zf,Array.ext']
 ·cases h
theorem Yw{id:Nat}{o:RO}:(ρ.Bp id o).m id=some o:=by simp[BF.Bp]
theorem Xry(n:Nat):∀(r c:Nat),c<=2*n+192->Builtin.growBy n r c<=2*n+192
|0,c,h=>by grind[Builtin.growBy]
|r+1,c,h=>by
 simp only[Builtin.growBy];split
 ·exact h
 ·exact Xry n r _ (by omega)
def X57{b c:Nat}(h:c<b):Builtin.nextslicecap b c<=2*b+192:=by
 grind[Builtin.nextslicecap,Xry]
def Yhn{m:Nat}{v:V}{x:Value}{K:List D->Prop}(i:v.A1 w ρ x)(h:I1 m K v):
 ∃c d,K c/\CT w (CS ρ) c d/\(∀y∈c,y.sz=m)/\(∀b,(Builtin.lenOf x).run P b=.ok c.length b)/\∀b,b.heap=w.heap->(Builtin.firstCells m c.length x).run P b=.ok d.toArray b:=by
 unfold I1 at h;split at h
 ·rename_i z c;obtain⟨rfl,h⟩:=h;rw[Zj]at i;rcases i with⟨rfl,rfl⟩|⟨p,q,d,rfl,n,f,g,o⟩
  ·exact⟨[],[],h,by simp[CT],by simp,λb=>by simp[Builtin.lenOf],λb _=>by simp[Builtin.firstCells]⟩
  ·refine⟨c,d,h,g,o,λb=>by simp[Builtin.lenOf],λb t=>?_⟩;have s:d.length=c.length*z:=by rw[HC _ _ g,FE _ o]
   simp only[Builtin.firstCells,<-s];exact run_loadCells_list b p d (λj u r=>by
    obtain⟨k,e⟩:=HF.1 r;have l:d≠[]:=by grind
    rw[Addr.CH (f.1 l).1,cell?_congr (w:=w) (w':=b) (by rw[t]),<-e];exact f.2 j k)
 ·rw[Uf]at i;subst i;exact⟨[],[],h,by simp[CT],by simp,λb=>by simp[Builtin.lenOf],λb _=>by simp[Builtin.firstCells]⟩
 ·cases h
structure Fk(P:Program)(t t2 E sz B:Nat):Prop where
 u1:P.underlying t=some (.slice E)
 u2:(∃e,P.underlying t2=some (.slice e))\/P.underlying t2=some .string
 C9:∃i z,P.info? E=some i/\i.size=sz/\i.bytes=B/\i.zero=some z/\z.cells.size=sz
 b0:B≠0
 s0:sz≠0
def w7{t l ty E k B:Nat}(T:Fk P t l E k B){f:Option Addr}{b c n:Nat}{x:Value}{m o:List Value}
 (Z:∀e,(Builtin.lenOf x).run P e=.ok n e) (U:∀e,e.heap=w.heap->(Builtin.firstCells k n x).run P e=.ok o.toArray e)
 (X:∀e,e.heap=w.heap->(Builtin.firstCells k b (.slice f b c)).run P e=.ok m.toArray e) (h:c<b+n) (N:(2*(b+n)+192)*B<=281474976710656):
 ∃d g,b+n<=d/\g.length=(d-(b+n))*k/\
  (Builtin.append_ #[t,l] ty #[.slice f b c,x]).run P w=.ok (.slice (some ⟨w.heap.size,0,none⟩) (b+n) d) (E4 {w with drawn:=w.drawn+1} (.cells ((m++o)++g).toArray E)):=by
 obtain⟨i,z,p,G,H,J,L⟩:=T.C9;have q:Yl P E=some k:=by simp[Yl,p,G]
 have r:∀e,(typeInfo E).run P e=.ok i e:=λe=>by simp[typeInfo,p]
 have s:∀e,(zeroValue E).run P e=.ok z e:=λe=>by simp[zeroValue,typeInfo,p,J]
 have j:=X57 h;have W:Builtin.nextslicecap (b+n) c*B<=281474976710656:=IE (RB B j) N;have Y:(Question.appendCap (b+n) c E).forced=false:=rfl;refine⟨(Question.appendCap (b+n) c E).cut (w.tape w.drawn (.appendCap (b+n) c E)),(Builtin.zeroCells z.cells ((Question.appendCap (b+n) c E).cut (w.tape w.drawn (.appendCap (b+n) c E))-(b+n))).toList,?_,?_,?_⟩
 ·simp[Question.cut]
 ·simp[Builtin.zeroCells,L]
 ·generalize Q:(Question.appendCap (b+n) c E).cut (w.tape w.drawn (.appendCap (b+n) c E))=d;unfold Builtin.append_;have v:(#[t,l]:Array TypeId)[0]? = some t:=rfl;have y:(#[t,l]:Array TypeId)[1]? = some l:=rfl;rcases T.u2 with⟨e2,u⟩|u
  all_goals
   simp only[v,y,List.getElem?_toArray,List.getElem?_cons_zero,List.getElem?_cons_succ,Cm,Xa T.u1,Xa u,Ch,X3 q,DD,Z,BY,CR,Kj,CP];rw[A5 (by omega)];have O:¬(Builtin.nextslicecap (b+n) c*B > 2 ^ 48):=by omega
   simp only[O,T.b0,or_self,and_false,CR,Cm,run_choose,Y,BY,Q,Ch,run_askRoom,r,H,X {w with drawn:=w.drawn+1} rfl,U {w with drawn:=w.drawn+1} rfl,s,newRow,run_newObj,DD];have F:(m.toArray++o.toArray)++Builtin.zeroCells z.cells (d-(b+n))=((m++o)++(Builtin.zeroCells z.cells (d-(b+n))).toList).toArray:=by apply Array.ext';simp
   rw[F];rfl
def xA{t o ty E e B:Nat}(T:Fk P t o E e B){b c d n:Nat}{x:Value}{j p g:List Value}
 (Q:∀h,(Builtin.lenOf x).run P h=.ok n h) (L:∀h,h.heap=w.heap->(Builtin.firstCells e n x).run P h=.ok g.toArray h)
 (H:w.heap[b]? = some (.cells (List.toArray (j++p)) E (0,0))) (J:j.length=c*e) (O:g.length=n*e) (r:(j++p).length=d*e) (l:∀v∈g,v.oneCell'=true) (f:c+n<=d):
 (Builtin.append_ #[t,o] ty #[.slice (some ⟨b,0,none⟩) c d,x]).run P w=.ok (.slice (some ⟨b,0,none⟩) (c+n) d) (w.setRow b ((j++g)++p.drop g.length).toArray):=by
 obtain⟨i,z,N,G,W,X,Y⟩:=T.C9;have q:Yl P E=some e:=by simp[Yl,N,G]
 unfold Builtin.append_;have y:(#[t,o]:Array TypeId)[0]? = some t:=rfl;have F:(#[t,o]:Array TypeId)[1]? = some o:=rfl;have s:c*e+n*e<=d*e:=by rw[<-Kg];exact RB e f
 have m:=run_storeCells_at (P:=P) b (c*e) E g 0 (j++p).toArray w H (by simp_all) l;have k:(⟨b,0,none⟩:Addr).add (c*e)=⟨b,c*e,none⟩:=by simp[Addr.CH]
 rcases T.u2 with⟨U,u⟩|u
 all_goals
  simp only[y,F,List.getElem?_toArray,List.getElem?_cons_zero,List.getElem?_cons_succ,Cm,Xa T.u1,Xa u,Ch,X3 q,DD,Q,BY,CR,Kj,CP];rw[Bv f];simp only[Cm,L w rfl,Ch,k,m,DD];congr 3;simp_all[Nat.add_zero,List.drop_append]
def w9{t e l E d B:Nat}(T:Fk P t e E d B){x:Value}
 (k:∀b,(Builtin.lenOf x).run P b=.ok 0 b) (h:∀b,b.heap=w.heap->(Builtin.firstCells d 0 x).run P b=.ok #[] b):
 (Builtin.append_ #[t,e] l #[.slice none 0 0,x]).run P w=.ok (.slice none 0 0) w:=by
 obtain⟨i,z,j,g,n,o,p⟩:=T.C9;have c:Yl P E=some d:=by simp[Yl,j,g]
 unfold Builtin.append_;rcases T.u2 with⟨m,f⟩|f<;>simp[Xa T.u1,Xa f,X3 c,k,h w rfl]
def w6{t t2 ty E l B:Nat}(T:Fk P t t2 E l B)(F:OM w ρ ob){id:Nat}{d ys:List D}{s x:Value}{G:List Value}(hl:AD ob id=some (.BO E l d))
 (O:(V.sl id d.length).A1 w ρ s) (U:CT w (CS ρ) ys G) (hu:∀y∈ys,y.sz=l)
 (hx:∀f,(Builtin.lenOf x).run P f=.ok ys.length f) (hf:∀f,f.heap=w.heap->(Builtin.firstCells l ys.length x).run P f=.ok G.toArray f)
 (hB:(2*(d.length+ys.length)+192)*B<=281474976710656):
 ∃v f q,(Builtin.append_ #[t,t2] ty #[s,x]).run P w=.ok v f/\Tr w ρ f q/\OM f q (AG ob id (.BO E l (d++ys)))/\(V.sl id (d.length+ys.length)).A1 f q v:=by
 rw[Y9]at O;obtain⟨o,g,O⟩:=O;have Q:=F.Ba id _ hl;have ab:G.length=ys.length*l:=by rw[HC _ _ U,FE _ hu]
 -- a new row,from whatever was there
 have grow:∀(H:Option Addr)(i:Nat)(z:List Value),s=.slice H d.length i->CT w (CS ρ) d z->(∀y∈d,y.sz=l)->
  (∀f,f.heap=w.heap->(Builtin.firstCells l d.length (.slice H d.length i)).run P f=.ok z.toArray f)->i<d.length+ys.length->
  (o=.Cl/\d.length=0\/∃b c,o=.BO b d.length c)->d.length<=i->
  ∃v f q,(Builtin.append_ #[t,t2] ty #[s,x]).run P w=.ok v f/\Tr w ρ f q/\OM f q (AG ob id (.BO E l (d++ys)))/\(V.sl id (d.length+ys.length)).A1 f q v:=by
  intro H i z es af ag ad aa ho ac;subst es;obtain⟨u,N,g1,g2,g3⟩:=w7 (ty:=ty) T hx hf ad aa hB;have Z:CM w (E4 {w with drawn:=w.drawn+1} (.cells ((z++G)++N).toArray E)):=(QO w _).trans (Wg _ _);have W:Tr w ρ (E4 {w with drawn:=w.drawn+1} (.cells ((z++G)++N).toArray E)) (ρ.Bp id (.BO w.heap.size (d.length+ys.length) u)):=by
   refine⟨Z.size,λb _ h=>Z.keep b h,λb h=>?_,rfl,rfl,λj p X=>?_,Z.tape,Z.os,Z.C3,Z.drawn⟩
   ·obtain⟨j,p,L,q2⟩:=h;simp only[BF.Bp]at L;split at L
    ·grind[RO.blk?]
    ·exact .inl ⟨j,p,L,q2⟩
   ·by_cases ej:j=id
    ·subst ej;refine⟨_,Yw,.grow (n:=d.length) (by omega) ?_⟩;simp_all
    ·exact⟨p,by simp[BF.Bp,ej,X],.refl p⟩
  refine⟨_,_,_,g3,W,YR F hl W (.inr ⟨w.heap.size,u,z++G,N,by simp[BF.Bp],Wq _ _,WG (GX W.mono _ _ af) (GX W.mono _ _ U),?_,?_⟩) (λb hb=>?_) (λj p b hj h2 h3=>Z.keep b (Q3 F h2 h3)),?_⟩
  ·grind
  ·have Y:z.length=d.length*l:=by rw[HC _ _ af,FE _ ag]
   rw[Dd,Dd,g2,Y,ab,<-Kg,<-Kg];congr 1;omega
  ·simp_all[RO.blk?]
  ·rw[Y9];refine⟨_,Yw,?_⟩;exact⟨B9 _,⟨_,_,_,rfl⟩,λ_=>rfl⟩
 rcases Q with⟨Q,rfl⟩|⟨b,m,z,sp,Q,h2,h3,h4,h5⟩
 ·-- nothing yet
  rw[g]at Q;simp at Q;subst Q;obtain⟨_,rfl⟩:=O;by_cases hy:ys=[]
  ·subst hy;have ah:G=[]:=by simpa using ab
   subst ah;refine⟨_,w,ρ,w9 T hx (λf hw=>hf f hw),Tr.refl _ _,?_,?_⟩
   ·refine⟨λj y hy=>?_,λj p X=>?_,F.inj,F.FV,F.EZ,F.D1,F.C4.set⟩
    ·rw[Xe ob id j ⟨_,hl⟩]at hy;split at hy
     next e=>subst e;simp at hy;subst hy;exact .inl ⟨g,rfl⟩
     ·exact F.Ba j y hy
    ·rw[Xe ob id j ⟨_,hl⟩];split
     ·exact⟨_,rfl⟩
     ·exact F.Ev j p X
   ·rw[Y9];exact⟨_,g,rfl,rfl⟩
  ·refine grow none 0 [] rfl (by simp[CT]) (by simp) (λf _=>by simp[Builtin.firstCells]) ?_ (.inl ⟨rfl,rfl⟩) (B9 _);cases ys<;>simp_all
 ·rw[g]at Q;simp at Q;subst Q;obtain⟨_,_,O⟩:=O;have O:=O rfl;have Y:z.length=d.length*l:=by rw[HC _ _ h3,FE _ h4]
  have ac:d.length<=m:=by
   have:d.length*l<=m*l:=by grind
   exact S1 this (O3 T.s0)
  by_cases J:d.length+ys.length<=m
  ·subst O;have ae:=xA (ty:=ty) T hx hf h2 Y ab h5 (WL ys G U) J;have W:Tr w ρ (w.setRow b ((z++G)++sp.drop G.length).toArray) (ρ.Bp id (.BO b (d.length+ys.length) m)):=by
    refine⟨by simp,λj hj _=>setRow_other w b j _ (λe=>hj ?_),λj h=>?_,rfl,rfl,λj p X=>?_,rfl,rfl,rfl,B9 _⟩
    ·subst e;exact⟨id,_,g,rfl⟩
    ·obtain⟨k,p,L,q2⟩:=h;simp only[BF.Bp]at L;split at L
     ·simp at L;subst L;simp[RO.blk?]at q2;subst q2;exact .inl ⟨id,_,g,rfl⟩
     ·exact .inl ⟨k,p,L,q2⟩
    ·by_cases ej:j=id
     ·subst ej;rw[g]at X;simp at X;subst X;refine⟨_,Yw,?_⟩;cases ys with
      |nil=>exact .refl _
      |cons y r=>exact .grow (n:=d.length) (by simp) (.inr ⟨_,_,rfl⟩)
     ·exact⟨p,by simp[BF.Bp,ej,X],.refl p⟩
   refine⟨_,_,_,ae,W,YR F hl W (.inr ⟨b,m,z++G,sp.drop G.length,by simp[BF.Bp],setRow_heap w b _ _ E _ h2,WG (GX W.mono _ _ h3) (GX W.mono _ _ U),?_,?_⟩) (λb' hb=>?_) (λj p b' hj L q2=>setRow_other w b b' _ (λe=>hj ?_)),?_⟩
   ·grind
   ·have ai:d.length*l+ys.length*l<=m*l:=by rw[<-Kg];exact RB l J
    grind
   ·simp_all[RO.blk?]
   ·subst e;exact F.inj j id _ _ _ L g q2 rfl
   ·rw[Y9];refine⟨_,Yw,?_⟩;exact⟨B9 _,⟨_,_,_,rfl⟩,λ_=>rfl⟩
  ·refine grow (some ⟨b,0,none⟩) m z O h3 h4 (λf hw=>?_) (by omega) (.inr ⟨_,_,rfl⟩) ac;grind[Builtin.firstCells,run_loadCells_list,Addr.CH,cell?_congr,World.cell?]
def fC{t t2 ty E l B:Nat}(T:Fk P t t2 E l B)(F:OM w ρ ob){id:Nat}{d ys:List V}{s x:Value}{G:List Value}(hl:AD ob id=some (.A0 E l d))
 (O:(V.sl id d.length).A1 w ρ s) (ag:IB ys=true) (U:Cg w ρ ys G) (hu:∀y∈ys,y.size=l)
 (hx:∀f,(Builtin.lenOf x).run P f=.ok ys.length f) (hf:∀f,f.heap=w.heap->(Builtin.firstCells l ys.length x).run P f=.ok G.toArray f)
 (hB:(2*(d.length+ys.length)+192)*B<=281474976710656):
 ∃v f q,(Builtin.append_ #[t,t2] ty #[s,x]).run P w=.ok v f/\Tr w ρ f q/\OM f q (AG ob id (.A0 E l (d++ys)))/\(V.sl id (d.length+ys.length)).A1 f q v:=by
 rw[Y9]at O;obtain⟨o,g,O⟩:=O;have Q:=F.Ba id _ hl;have ab:G.length=ys.length*l:=by rw[Nk _ _ U,V.Bz,Yg _ hu]
 -- a new row,from whatever was there
 have grow:∀(H:Option Addr)(i:Nat)(z:List Value),s=.slice H d.length i->Cg w ρ d z->(∀y∈d,y.size=l)->
  (∀f,f.heap=w.heap->(Builtin.firstCells l d.length (.slice H d.length i)).run P f=.ok z.toArray f)->i<d.length+ys.length->
  (o=.Cl/\d.length=0\/∃b c,o=.BO b d.length c)->d.length<=i->
  ∃v f q,(Builtin.append_ #[t,t2] ty #[s,x]).run P w=.ok v f/\Tr w ρ f q/\OM f q (AG ob id (.A0 E l (d++ys)))/\(V.sl id (d.length+ys.length)).A1 f q v:=by
  intro H i z es af ah ad aa ho ac;subst es;obtain⟨u,N,g1,g2,g3⟩:=w7 (ty:=ty) T hx hf ad aa hB;have Z:CM w (E4 {w with drawn:=w.drawn+1} (.cells ((z++G)++N).toArray E)):=(QO w _).trans (Wg _ _);have W:Tr w ρ (E4 {w with drawn:=w.drawn+1} (.cells ((z++G)++N).toArray E)) (ρ.Bp id (.BO w.heap.size (d.length+ys.length) u)):=by
   refine⟨Z.size,λb _ h=>Z.keep b h,λb h=>?_,rfl,rfl,λj p X=>?_,Z.tape,Z.os,Z.C3,Z.drawn⟩
   ·obtain⟨j,p,L,q2⟩:=h;simp only[BF.Bp]at L;split at L
    ·grind[RO.blk?]
    ·exact .inl ⟨j,p,L,q2⟩
   ·by_cases ej:j=id
    ·subst ej;refine⟨_,Yw,.grow (n:=d.length) (by omega) ?_⟩;simp_all
    ·exact⟨p,by simp[BF.Bp,ej,X],.refl p⟩
  refine⟨_,_,_,g3,W,YR F hl W (.inr ⟨w.heap.size,u,z++G,N,by simp[BF.Bp],Wq _ _,QL (IA W _ _ af) (IA W _ _ U),?_,?_⟩) (λb hb=>?_) (λj p b hj h2 h3=>Z.keep b (Q3 F h2 h3)),?_⟩
  ·grind
  ·have Y:z.length=d.length*l:=by rw[Nk _ _ af,V.Bz,Yg _ ah]
   rw[Dd,Dd,g2,Y,ab,<-Kg,<-Kg];congr 1;omega
  ·simp_all[RO.blk?]
  ·rw[Y9];refine⟨_,Yw,?_⟩;exact⟨B9 _,⟨_,_,_,rfl⟩,λ_=>rfl⟩
 rcases Q with⟨Q,rfl⟩|⟨b,m,z,sp,Q,h2,h3,h4,h5⟩
 ·-- nothing yet
  rw[g]at Q;simp at Q;subst Q;obtain⟨_,rfl⟩:=O;by_cases hy:ys=[]
  ·subst hy;have ai:G=[]:=by simpa using ab
   subst ai;refine⟨_,w,ρ,w9 T hx (λf hw=>hf f hw),Tr.refl _ _,?_,?_⟩
   ·refine⟨λj y hy=>?_,λj p X=>?_,F.inj,F.FV,F.EZ,F.D1,F.C4.set⟩
    ·rw[Xe ob id j ⟨_,hl⟩]at hy;split at hy
     next e=>subst e;simp at hy;subst hy;exact .inl ⟨g,rfl⟩
     ·exact F.Ba j y hy
    ·rw[Xe ob id j ⟨_,hl⟩];split
     ·exact⟨_,rfl⟩
     ·exact F.Ev j p X
   ·rw[Y9];exact⟨_,g,rfl,rfl⟩
  ·refine grow none 0 [] rfl (by simp[Cg]) (by simp) (λf _=>by simp[Builtin.firstCells]) ?_ (.inl ⟨rfl,rfl⟩) (B9 _);cases ys<;>simp_all
 ·rw[g]at Q;simp at Q;subst Q;obtain⟨_,_,O⟩:=O;have O:=O rfl;have Y:z.length=d.length*l:=by rw[Nk _ _ h3,V.Bz,Yg _ h4]
  have ac:d.length<=m:=by
   have:d.length*l<=m*l:=by grind
   exact S1 this (O3 T.s0)
  by_cases J:d.length+ys.length<=m
  ·subst O;have ae:=xA (ty:=ty) T hx hf h2 Y ab h5 (dL ys G ag U) J;have W:Tr w ρ (w.setRow b ((z++G)++sp.drop G.length).toArray) (ρ.Bp id (.BO b (d.length+ys.length) m)):=by
    refine⟨by simp,λj hj _=>setRow_other w b j _ (λe=>hj ?_),λj h=>?_,rfl,rfl,λj p X=>?_,rfl,rfl,rfl,B9 _⟩
    ·subst e;exact⟨id,_,g,rfl⟩
    ·obtain⟨k,p,L,q2⟩:=h;simp only[BF.Bp]at L;split at L
     ·simp at L;subst L;simp[RO.blk?]at q2;subst q2;exact .inl ⟨id,_,g,rfl⟩
     ·exact .inl ⟨k,p,L,q2⟩
    ·by_cases ej:j=id
     ·subst ej;rw[g]at X;simp at X;subst X;refine⟨_,Yw,?_⟩;cases ys with
      |nil=>exact .refl _
      |cons y r=>exact .grow (n:=d.length) (by simp) (.inr ⟨_,_,rfl⟩)
     ·exact⟨p,by simp[BF.Bp,ej,X],.refl p⟩
   refine⟨_,_,_,ae,W,YR F hl W (.inr ⟨b,m,z++G,sp.drop G.length,by simp[BF.Bp],setRow_heap w b _ _ E _ h2,QL (IA W _ _ h3) (IA W _ _ U),?_,?_⟩) (λb' hb=>?_) (λj p b' hj L q2=>setRow_other w b b' _ (λe=>hj ?_)),?_⟩
   ·grind
   ·have aj:d.length*l+ys.length*l<=m*l:=by rw[<-Kg];exact RB l J
    grind
   ·simp_all[RO.blk?]
   ·subst e;exact F.inj j id _ _ _ L g q2 rfl
   ·rw[Y9];refine⟨_,Yw,?_⟩;exact⟨B9 _,⟨_,_,_,rfl⟩,λ_=>rfl⟩
  ·refine grow (some ⟨b,0,none⟩) m z O h3 h4 (λf hw=>?_) (by omega) (.inr ⟨_,_,rfl⟩) ac;grind[Builtin.firstCells,run_loadCells_list,Addr.CH,cell?_congr,World.cell?]
theorem zV{u v:Operand}{t p E k B:Nat}{O:V}{ys:List D}{N:List Value}(T:Fk P t p E k B)(F:O.A1 w ρ (a.eval u))(x:OM w ρ ob)(e:Gc E k B ob ys K O)
 (j:CT w (CS ρ) ys N) (H:∀y∈ys,y.sz=k) (J:∀d,(Builtin.lenOf (a.eval v)).run P d=.ok ys.length d)
 (G:∀d,d.heap=w.heap->(Builtin.firstCells k ys.length (a.eval v)).run P d=.ok N.toArray d):Dv P a w ρ (.call {callee:=.builtin .append,args:=#[u,v],argTypes:=#[t,p] }) K Pn:=by
 have f:∀(d:World)(c:Value)(o:Oper),o.op=.call {callee:=.builtin .append,args:=#[u,v],argTypes:=#[t,p] }->(Builtin.append_ #[t,p] o.type #[a.eval u,a.eval v]).run P w=.ok c d->(execOp a.eval o).run P w=.ok (.value c) d:=by
  intro d c o i W;simp only[execOp,i,resolve,invoke,builtin,Cm,DD,Ch,O8,Dj,Kh,W]
 unfold Gc at e;split at e
 ·unfold OD at e;split at e
  ·rename_i E' Z xs n;obtain⟨rfl,rfl,rfl,s,e⟩:=e;intro o i next Q z _
   obtain⟨c,d,g,q,r,l,m⟩:=w6 (ty:=o.type) T x n F j H J G s;unfold Ef;rw[f d c o i q];exact z c _ _ d g e m l r
  ·cases e
 ·obtain⟨s,e⟩:=e;have n:=X1 ob;rw[Uf]at F;have h:∀b,RO.Cl.blk? = some b->w.heap.size<=b:=λb U=>by simp[RO.blk?]at U
  have L:=Qd w (CM.refl w) (o:=.Cl) (x.free n) h;have X:OM w (ρ.Bp (AA ob) .Cl) ((AA ob,.BO E k [])::ob):=x.Bp (CM.refl w) n h (.inl ⟨Yw,rfl⟩);have Y:(V.sl (AA ob) ([]:List D).length).A1 w (ρ.Bp (AA ob) .Cl) (a.eval u):=by
   rw[Y9];exact⟨_,Yw,rfl,F⟩
  intro o i next Q z _
  obtain⟨c,d,g,q,r,l,m⟩:=w6 (ty:=o.type) (ys:=ys) T X (by simp[AD]) Y (GX L.mono _ _ j) H J G (by simpa using s);unfold Ef;rw[f d c o i q];simp only[AG,CP,Gx,S5,RA]at l m;exact z c _ _ d g e m l (L.trans r)
 ·cases e
def Yky(o:SM w ρ sl a)(hO:OM w ρ ob){l:Op}{E f B:Nat}{x y:A}(d:I.An P l (.Dl E f B x y)=true)
 (h:I1 f (λr=>Gc E f B ob r K (x.ev sl)) (y.ev sl)):Dv P a w ρ l K Pn:=by
 cases l<;>simp only[I.An,BY]at d;rename_i c;obtain⟨s,e,W⟩:=c;cases s<;>(try simp only[BY]at d);rename_i b;cases b<;>(try simp only[BY]at d);split at d
 ·rename_i u v t q X Y;simp only[BX]at d;obtain⟨⟨⟨⟨Z,j⟩,h2⟩,N⟩,O⟩:=d;have F:e=#[u,v]:=by grind
  have G:W=#[t,q]:=by grind
  subst F G;have T:Fk P t q E f B:=by
   cases k:P.info? E with
   |none=>simp[k]at j
   |some i=>
    simp only[k,BX,EN,bne_iff_ne,ne_eq]at j;obtain⟨⟨⟨⟨⟨m,n⟩,H⟩,J⟩,L⟩,g⟩:=j;obtain⟨z,p⟩:=Le.1 L;rw[p]at g;simp at g;refine⟨?_,?_,⟨i,z,k,m,n,p,g⟩,by rw[<-n];exact H,by rw[<-m];exact J⟩<;>grind
  have r1:=A.A2 o N;have U:=A.A2 o O;obtain⟨r,vs,hK,Q,hu,hx,hf⟩:=Yhn (P:=P) U h;grind[zV]
 ·simp at d
def FQ{id E f:Nat}{xs:List D}(h:D5 w ρ id (.BO E f xs)):D5 w ρ id (.A0 E f (xs.map .d)):=by
 rcases h with⟨e,rfl⟩|⟨b,c,g,l,e,i,j,m,k⟩
 ·exact .inl ⟨e,rfl⟩
 ·refine .inr ⟨b,c,g,l,by simpa using e,i,(Kd _ _).2 j,λx n=>?_,k⟩;grind[V.size,V.shape,D4]
def Ym7{i:Nat}{v:V}{x:Value}{K:List V->Prop}(z:OM w ρ ob)(f:v.A1 w ρ x)(h:Od i K ob v):
 ∃c j,K c/\Cg w ρ c j/\IB c=true/\(∀y∈c,y.size=i)/\(∀e,(Builtin.lenOf x).run P e=.ok c.length e)/\∀e,e.heap=w.heap->(Builtin.firstCells i c.length x).run P e=.ok j.toArray e:=by
 have G:∀{c:List D}{j:List Value},CT w (CS ρ) c j->(∀y∈c,y.sz=i)->Cg w ρ (c.map .d) j/\IB (c.map .d)=true/\∀y∈c.map V.d,y.size=i:=by
  intro c j g s;refine⟨(Kd _ _).2 g,?_,λy W=>?_⟩
  ·clear g s;induction c<;>simp_all[IB,V.Hb]
  grind[V.size,V.shape,D4]
 have CS:∀{id:Nat}{E:Nat}{c:List V},D5 w ρ id (.A0 E i c)->(V.sl id c.length).A1 w ρ x->IB c=true->K c->
  ∃c j,K c/\Cg w ρ c j/\IB c=true/\(∀y∈c,y.size=i)/\(∀e,(Builtin.lenOf x).run P e=.ok c.length e)/\∀e,e.heap=w.heap->(Builtin.firstCells i c.length x).run P e=.ok j.toArray e:=by
  intro id E c q f l k;rw[Y9]at f;obtain⟨o,p,f⟩:=f;rcases q with⟨g,rfl⟩|⟨b,F,r,X,g,s,t,u,O⟩
  ·rw[p]at g;simp at g;subst g;obtain⟨_,rfl⟩:=f;exact⟨[],[],k,by simp[Cg],rfl,by simp,λe=>by simp[Builtin.lenOf],λe _=>by simp[Builtin.firstCells]⟩
  ·rw[p]at g;simp at g;subst g;have L:=f.2.2 rfl;subst L;refine⟨c,r,k,t,l,u,λe=>by simp[Builtin.lenOf],λe U=>?_⟩;have H:r.length=c.length*i:=by rw[Nk _ _ t,V.Bz,Yg _ u]
   grind[Builtin.firstCells,run_loadCells_list,Addr.CH,cell?_congr,World.cell?]
 unfold Od at h;split at h
 ·obtain⟨N,j,k,J,T,m,Q⟩:=Yhn (P:=P) (K:=λc=>K (c.map .d)) f (by simpa only[I1]using h);grind
 ·rw[Uf]at f;subst f;exact⟨[],[],h,by simp[Cg],rfl,by simp,λe=>by simp[Builtin.lenOf],λe _=>by simp[Builtin.firstCells]⟩
 ·rename_i id n;rcases h with⟨E,c,m,rfl,l,k⟩|⟨E,c,m,rfl,k⟩
  ·exact CS (z.Ba id _ m) f l k
  ·have q:D5 w ρ id (.A0 E i (c.map .d)):=FQ (z.Ba id _ m);refine CS q (by simpa using f) ?_ k;clear q m f k;induction c<;>simp_all[IB,V.Hb]
 ·cases h
theorem Yt8{u v:Operand}{t L E H B:Nat}{vx:V}{ys:List V}{vs:List Value}(T:Fk P t L E H B)(J:vx.A1 w ρ (a.eval u))(z:OM w ρ ob)(f:Kn E H B ob ys K vx)
 (p:IB ys=true) (m:Cg w ρ ys vs) (W:∀y∈ys,y.size=H) (X:∀e,(Builtin.lenOf (a.eval v)).run P e=.ok ys.length e)
 (O:∀e,e.heap=w.heap->(Builtin.firstCells H ys.length (a.eval v)).run P e=.ok vs.toArray e):Dv P a w ρ (.call {callee:=.builtin .append,args:=#[u,v],argTypes:=#[t,L] }) K Pn:=by
 have g:∀(e:World)(c:Value)(o:Oper),o.op=.call {callee:=.builtin .append,args:=#[u,v],argTypes:=#[t,L] }->(Builtin.append_ #[t,L] o.type #[a.eval u,a.eval v]).run P w=.ok c e->(execOp a.eval o).run P w=.ok (.value c) e:=by
  intro e c o l hr;simp only[execOp,l,resolve,invoke,builtin,Cm,DD,Ch,O8,Dj,Kh,hr]
 unfold Kn at f;split at f
 ·rename_i id n;unfold RR at f;split at f
  ·rename_i N q Y k;obtain⟨rfl,rfl,rfl,x,f⟩:=f;intro o l next Q G _
   obtain⟨c,e,h,r,s,i,j⟩:=fC (ty:=o.type) T z k J p m W X O x;unfold Ef;rw[g e c o l r];exact G c _ _ e h f j i s
  ·rename_i N q Y k;obtain⟨rfl,rfl,rfl,x,f⟩:=f;have o2:=z.swap k (FQ (z.Ba id _ k));have U:AD (AG ob id (.A0 N q (Y.map .d))) id=some (.A0 N q (Y.map .d)):=by simp_all[Xe]
   intro o l next Q G _
   obtain⟨c,e,h,r,s,i,j⟩:=fC (ty:=o.type) T o2 U (by simpa using J) p m W X O (by simpa using x);rw[Za]at i;rw[Kk]at j;unfold Ef;rw[g e c o l r];exact G c _ _ e h f j i s
  ·cases f
 ·obtain⟨x,f⟩:=f;have k:=X1 ob;rw[Uf]at J;have F:∀b,RO.Cl.blk? = some b->w.heap.size<=b:=λb hb=>by simp[RO.blk?]at hb
  have Z:=Qd w (CM.refl w) (o:=.Cl) (z.free k) F;have o1:OM w (ρ.Bp (AA ob) .Cl) ((AA ob,.A0 E H [])::ob):=z.Bp (CM.refl w) k F (.inl ⟨Yw,rfl⟩);have q1:(V.sl (AA ob) ([]:List V).length).A1 w (ρ.Bp (AA ob) .Cl) (a.eval u):=by
   rw[Y9];exact⟨_,Yw,rfl,J⟩
  intro o l next Q G _
  obtain⟨c,e,h,r,s,i,j⟩:=fC (ty:=o.type) (ys:=ys) T o1 (by simp[AD]) q1 p (IA Z _ _ m) W X O (by simpa using x);unfold Ef;rw[g e c o l r];simp only[AG,CP,Gx,S5,RA]at i j;exact G c _ _ e h f j i (Z.trans s)
 ·cases f
def Ykz(o:SM w ρ sl a)(Q:OM w ρ ob){l:Op}{E f B:Nat}{x y:A}(d:I.An P l (.HX E f B x y)=true)
 (h:Od f (λr=>Kn E f B ob r K (x.ev sl)) ob (y.ev sl)):Dv P a w ρ l K Pn:=by
 cases l<;>simp only[I.An,BY]at d;rename_i c;obtain⟨s,e,Y⟩:=c;cases s<;>(try simp only[BY]at d);rename_i b;cases b<;>(try simp only[BY]at d);split at d
 ·rename_i u v t q Z e2;simp only[BX]at d;obtain⟨⟨⟨⟨h0,j⟩,h2⟩,N⟩,O⟩:=d;have F:e=#[u,v]:=by grind
  have G:Y=#[t,q]:=by grind
  subst F G;have T:Fk P t q E f B:=by
   cases k:P.info? E with
   |none=>simp[k]at j
   |some i=>
    simp only[k,BX,EN,bne_iff_ne,ne_eq]at j;obtain⟨⟨⟨⟨⟨m,n⟩,H⟩,J⟩,L⟩,g⟩:=j;obtain⟨z,p⟩:=Le.1 L;rw[p]at g;simp at g;refine⟨?_,?_,⟨i,z,k,m,n,p,g⟩,by rw[<-n];exact H,by rw[<-m];exact J⟩<;>grind
  have r1:=A.A2 o N;have X:=A.A2 o O;obtain⟨r,vs,hK,U,W,hu,hx,hf⟩:=Ym7 (P:=P) Q X h;grind[Yt8]
 ·simp at d
def Xqt(s:List UInt8):∀x∈BK s,x.sz=1:=by
 induction s with
 |nil=>simp[BK]
 |cons b r c=>simp only[BK,Fb];rintro x (rfl|h);exact rfl;exact c x h
theorem Ua(s:List UInt8):(BK s).length=s.length:=by
 induction s<;>simp_all[BK]
def XE{d:Nat->Prop}:∀(s:List UInt8)(c:List Value),CT w d (BK s) c↔c=s.map λb=>.int .u8 b.toNat
|[],c=>by simp[BK,CT]
|b::r,c=>by
 simp only[BK,CT,D.A1,Dj,XE r];simp
def Yam(n:SM w ρ sl a)(U:OM w ρ ob){k:Op}{E B:Nat}{x y:A}(d:I.An P k (.Fq E B x y)=true)
 (h:NI (λys=>Gc E 1 B ob ys K (x.ev sl)) (y.ev sl)):Dv P a w ρ k K Pn:=by
 cases k<;>simp only[I.An,BY]at d;rename_i c;obtain⟨q,e,Y⟩:=c;cases q<;>(try simp only[BY]at d);rename_i b;cases b<;>(try simp only[BY]at d);split at d
 ·rename_i u v t p r e2;simp only[BX]at d;obtain⟨⟨⟨⟨h0,g⟩,h2⟩,O⟩,Q⟩:=d;have G:e=#[u,v]:=by simpa using DH List.toArray r
  have H:Y=#[t,p]:=by grind
  subst G H;have T:Fk P t p E 1 B:=by
   cases j:P.info? E with
   |none=>simp[j]at g
   |some i=>
    simp only[j,BX,EN,bne_iff_ne,ne_eq]at g;obtain⟨⟨⟨⟨J,l⟩,L⟩,N⟩,f⟩:=g;obtain⟨z,o⟩:=Le.1 N;rw[o]at f;simp at f;refine⟨?_,?_,⟨i,z,j,J,l,o,f⟩,by rw[<-l];exact L,by omega⟩<;>grind
  have W:=A.A2 n O;have X:=A.A2 n Q;unfold NI at h;split at h
  ·rename_i s F;rw[F,CX]at X;have m:(BK s).length=s.length:=Ua s;refine zV T W U h ((XE s _).2 rfl) (Xqt s) (λZ=>?_) (λZ _=>?_)
   ·simp_all[Builtin.lenOf,YA]
   simp_all[Builtin.firstCells,DD,Array.ext',ByteArray.data_extract]
  ·cases h
 ·simp at d
def Yk2(hs:SM w ρ sl a)(q:OM w ρ ob){H:Op}{x:A}(r:I.An P H (.KS x)=true)(h:ME ob K (x.ev sl)):Dv P a w ρ H K Pn:=by
 cases H<;>simp only[I.An,BY]at r;rename_i s t y;simp only[BX,EN]at r;obtain⟨⟨rfl,h0⟩,p⟩:=r;have m:=A.A2 hs p;obtain⟨e,G,Y⟩:∃e,P.underlying s=some (.slice e)/\P.underlying e=some (.int .u8):=by
  grind
 unfold ME at h;split at h
 ·rename_i id n U;unfold OG at h;split at h
  ·rename_i E J L u;obtain⟨g,rfl,z,W⟩:=h;rw[U]at m;have r3:=TZ q u g m;rw[Y9]at m;obtain⟨o,f,hv⟩:=m;rcases q.Ba id _ u with⟨l,rfl⟩|⟨b,c,d,k,l,p,N,O,h5⟩
   ·exact absurd rfl z
   ·rw[f]at l;simp at l;subst l;have hu:=hv.2.2 rfl;have hw:∃w2,w2.heap.size=w.heap.size/\(∀j,j≠b->w2.heap[j]? = w.heap[j]?)/\w2.heap[b]? = some (.cells (List.toArray (d++k)) E ((d++k).length,(d++k).length+1))/\w2.tape=w.tape/\w2.os=w.os/\w2.output=w.output/\w2.drawn=w.drawn/\(markStringish ⟨b,0,none⟩).run P w=.ok () w2:=by
     have aa:w.shape? b=some (E,(d++k).length):=by simp[World.shape?,p]
     refine⟨w.freeze ⟨b,(d++k).length,none⟩ 1,by simp[World.freeze],λj Q=>?_,?_,rfl,rfl,rfl,rfl,?_⟩<;>grind[World.freeze,markStringish,Sem.run_bind,run_shape,Result.andThen_ok,run_freeze]
    obtain⟨w2,q1,q2,q3,q4,q5,q6,q8,q7⟩:=hw;obtain⟨T,o1,F⟩:=YN q (w2:=w2) ⟨_,u⟩ q1 (λj Q=>q2 j (λe=>Q _ f (by rw[e];rfl))) q4 q5 q6 (by omega);refine Xy (v:=.slice (some ⟨b,0,none⟩) L.length c) (λo Z=>?_) W ?_ o1 T
    ·simp only[execOp,Z,hu,convert,Cm,Xa G,Ch,beq_self_eq_true,Xa Y,q7,DD]
    ·rw[Zj];refine .inr ⟨_,c,d,rfl,?_,⟨λ_=>⟨rfl,F b _ f rfl,Xu q3⟩,λi hi=>?_⟩,GX T.mono _ _ N,O⟩
     ·have X:d.length=L.length*J:=by rw[HC _ _ N,FE _ O]
      have:L.length*J<=c*J:=by grind
      exact S1 this (O3 g)
     grind[World.cell?]
  ·cases h
 ·cases h
def Yaq(hs:SM w ρ sl a)(J:OM w ρ ob){Q:Op}{E:Nat}{x y:A}(f:I.An P Q (.Fy E x y)=true)(h:KR E ob K (x.ev sl) (y.ev sl)):Dv P a w ρ Q K Pn:=by
 cases Q<;>simp only[I.An,BY]at f;rename_i c;obtain⟨ca,args,ts⟩:=c;cases ca<;>(try simp only[BY]at f);rename_i b;cases b<;>(try simp only[BY]at f);split at f
 ·rename_i u v t r e1 e2;have ea:args=#[u,v]:=by simpa using DH List.toArray e1
  have et:ts=#[t,r]:=by simpa using DH List.toArray e2
  subst ea et;simp only[BX]at f;obtain⟨⟨k,l⟩,G⟩:=f;have T:=A.A2 hs l;have U:=A.A2 hs G;obtain⟨hp,L⟩:P.underlying t=some (.pointer E)/\P.cellsOf E=1:=by
   split at k
   next e he=>simp only[BX,EN]at k;obtain⟨rfl,k⟩:=k;exact⟨he,k⟩
   ·simp at k
  have d:∀(W:World)(i:Value)(o:Oper),o.op=.call {callee:=.builtin .unsafeString,args:=#[u,v],argTypes:=#[t,r] }->(Builtin.unsafeString_ #[t,r] o.type #[a.eval u,a.eval v]).run P w=.ok i W->(execOp a.eval o).run P w=.ok (.value i) W:=by
   intro W i o p hr;simp only[execOp,p,resolve,invoke,builtin,Cm,DD,Ch,O8,Dj,Kh,hr]
  unfold KR at h;split at h
  ·rename_i id n m z F;unfold N8 at h;split at h
   ·rename_i E' sz xs Z;obtain⟨rfl,rfl,rfl,rfl,ab,g,s,rfl,H⟩:=h;rw[z,Yrb]at T;rw[F,Ye]at U;obtain⟨o,q,hv⟩:=T;have O:s≠[]:=by intro e;subst e;exact g rfl
    rcases J.Ba id _ Z with⟨l,hx⟩|⟨b,aa,cs,sp,l,G,X,h4,h5⟩
    ·exact absurd hx g
    ·rw[q]at l;simp at l;subst l;have hu:=hv.2.2 rfl (by simpa using g);rw[XE]at X;subst X;have N:(BK s).length=s.length:=Ua s;obtain⟨t1,o1,ac⟩:=YN J (w2:=w.freeze ⟨b,0,none⟩ s.length) ⟨_,Z⟩ (by unfold World.freeze;split<;>simp) (λj Y=>by
      have:b≠j:=λe=>Y _ q (by rw[e];rfl);simp_all[World.freeze,Array.getElem?_modify]) (by simp_all[World.freeze]) (by simp_all[World.freeze]) (by simp_all[World.freeze]) (by simp_all[World.freeze,B9])
     refine Xy (v:=.string ⟨s.toArray⟩) (λo p=>d _ _ o p ?_) H (CX.2 rfl) o1 t1;rw[hu,U,N];exact Lib.run_unsafeString_row (P:=P) (w:=w) t r _ E' hp L b ((s.map λb=>Value.int .u8 b.toNat)++sp).length (by simp[World.shape?,G]) s O (by simp) (by omega) (λj x Y=>by
      grind[List.getElem?_eq_some_iff,Addr.CH,World.cell?])
   ·cases h
  next m z F=>obtain⟨rfl,H⟩:=h;rw[z,iz]at T;rw[F,Ye]at U;refine Xy (v:=.string .empty) (λo p=>d _ _ o p ?_) H (CX.2 rfl) J (Tr.refl _ _);simp_all[Lib.run_unsafeString_none]
  ·cases h
 ·simp at f
def wz(hs:SM w ρ sl a)(F:OM w ρ ob){z:Op}{x:A}(G:I.An P z (.JJ x)=true)(h:NM (λv=>K v ob) (x.ev sl)):Iq P a w ρ z ob K:=by
 cases z<;>simp[I.An]at G;rename_i s t y;obtain⟨⟨h0,h1⟩,Q⟩:=G;have L:=A.A2 hs Q;have u:P.underlying s=some .string:=by grind
 obtain⟨e,ht,U⟩:∃e,P.underlying t=some (.slice e)/\P.underlying e=some (.int .u8):=by
  grind
 unfold NM at h;split at h
 ·rename_i d N;rw[N,CX]at L;have Z:(Question.appendCap d.length 0 e).forced=false:=rfl;generalize m:(Question.appendCap d.length 0 e).cut (w.tape w.drawn (.appendCap d.length 0 e))=c;have W:d.length<=c:=by grind[Question.cut]
  let k:List Value:=(d.map λb=>Value.int .u8 b.toNat)++List.replicate (c-d.length) (.int .u8 0);let g:World:=E4 {w with drawn:=w.drawn+1} (.cells k.toArray e);have H:k.length=c:=by simp[k];omega
  have f:CM w g:=(QO w _).trans (Wg _ _);have hn:g.heap[w.heap.size]? = some (.cells k.toArray e (0,0)):=Wq _ _;let l:World:=g.freeze ⟨w.heap.size,c,none⟩ 1;have r:l.heap[w.heap.size]? = some (.cells k.toArray e (c,c+1)):=by
   grind[World.freeze]
  have J:l.heap.size=g.heap.size:=by simp[l,World.freeze]
  have n:CM w l:=by
   refine⟨by grind,λb T=>?_,f.tape,f.os,f.C3,f.drawn⟩;rw[<-f.keep b T];grind[World.freeze]
  refine⟨.slice (some ⟨w.heap.size,0,none⟩) d.length c,_,l,h,Zj.2 (.inr ⟨⟨w.heap.size,0,none⟩,c,d.map λb=>Value.int .u8 b.toNat,by rw[Ua],by grind[Ua],⟨λ_=>⟨rfl,?_,Xu r⟩,λi hi=>?_⟩,(XE d _).2 rfl,Xqt d⟩),n,λo Y=>?_⟩
  rotate_left 2
  ·simp only[execOp,Y,L,convert,Cm,Xa u,Xa ht,Ch,Xa U,Conv.stringToBytes,YA,run_choose,Z,BY,CR,m,newRow,run_newObj,DD];have O:Array.map (λb:UInt8=>Value.int IntKind.u8 b.toNat) (ByteArray.mk d.toArray).data++Array.replicate (c-d.length) (Value.int IntKind.u8 0)=k.toArray:=by
    grind
   rw[O];have aa:g.shape? w.heap.size=some (e,c):=by grind[World.shape?]
   have X:(markStringish ⟨w.heap.size,0,none⟩).run P g=.ok () l:=by
    grind[markStringish,Sem.run_bind,run_shape,Result.andThen_ok,run_freeze]
   show((Sem.run P (markStringish ⟨w.heap.size,0,none⟩) g).andThen _).andThen _=_;rw[X];simp
  ·rintro (⟨j,p,q1,q2⟩|q)
   ·have:=Q3 F q1 q2;simp at this
   ·have:=F.FV _ q;simp at this
  grind[World.cell?]
 ·cases h
def Yap(n:SM w ρ sl a)(f:OM w ρ ob){d:Op}{E e:Nat}{x:A}(g:I.An P d (.Fv E e x)=true)(h:NC E e ob K (x.ev sl)):Dv P a w ρ d K Pn:=by
 unfold NC at h;split at h
 ·rename_i k;have i:=X1 ob;have c:∀b,RO.Cl.blk? = some b->w.heap.size<=b:=λb l=>by simp[RO.blk?]at l
  have q:=Qd w (CM.refl w) (o:=.Cl) (f.free i) c;have p:OM w (ρ.Bp (AA ob) .Cl) ((AA ob,.BO E e [])::ob):=f.Bp (CM.refl w) i c (.inl ⟨Yw,rfl⟩);cases d<;>simp[I.An]at g
  all_goals
   have j:=A.A2 n g;rw[k,Uf]at j;exact Xy (λo m=>by simp[execOp,m]) h (Y9.2 ⟨.Cl,Yw,⟨rfl,j⟩⟩) p q
 ·cases h
def Yk8(q:SM w ρ sl a)(p:OM w ρ ob){e:Op}{r:Option A}(c:I.An P e (.IZ r)=true)(h:NR sl r/\K (.mp (AA ob)) ((AA ob,.map [])::ob)):Dv P a w ρ e K Pn:=by
 cases e<;>simp only[I.An,BY]at c;rename_i t b;simp at c;obtain⟨d,m⟩:=h;obtain⟨i,f,s⟩:∃i f,P.underlying t=some (.map i f):=by
  grind
 obtain⟨z,u,v⟩:=Ywj p (X1 ob);refine Xy (λo g=>?_) m v u z;cases b with
 |none=>
  simp only[execOp,g,S3,Instr.makeMap,Cm,run_newObj,Ch,DD];rfl
 |some x=>
  cases r with
  |none=>simp[G1]at c
  |some y=>
   have j:=A.A2 q c.2;simp only[NR]at d;unfold Ts at d;split at d
   next k n l=>rw[l,Ye]at j;simp only[execOp,g,Mm,Instr.makeMap,Cm,Xa s,run_newObj,Ch,DD,j,asInt];rfl
   ·cases d
def X4q{x y:D}(h:Me x y=true):∃u v,x.GR=some u/\y.GR=some v:=by
 unfold Me at h;split at h<;>first|exact⟨_,_,rfl,rfl⟩|cases h
def Xk1:∀{d e:List D},V5 d e=true->∃b c,Qp d=some b/\Qp e=some c
|[],[],_=>⟨[],[],rfl,rfl⟩
|x::r,y::s,h=>by
 simp only[V5,BX]at h;obtain⟨u,v,f,g⟩:=X4q h.1;obtain⟨b,c,i,j⟩:=Xk1 h.2;simp_all[Qp]
|[],_::_,h=>by cases h
|_::_,[],h=>by cases h
def e9{k j:D}(h:Eg k j=true):∃u v,k.key=some u/\j.key=some v:=by
 unfold Eg at h;split at h<;>first|exact⟨_,_,rfl,rfl⟩|(cases h;done)|skip
 obtain⟨d,e,b,c⟩:=Xk1 h;simp_all[D.key,sG]
def D.Ok:D->Bool
|.agg _=>false
|_=>true
def Xvi{b:TypeDesc}{k:D}(h:Ku b k=true):k.Ok=true:=by
 unfold Ku at h;split at h<;>first|rfl|cases h
theorem eK{d:TypeDesc}{c k:D}(h:Ku d c=true)(b:Eg c k=true):Ku d k=true:=by
 unfold Ku at h;split at h
 ·cases k<;>simp[Eg]at b<;>rfl
 ·cases k<;>simp[Eg]at b<;>rfl
 ·cases k<;>simp[Eg]at b<;>rfl
 ·cases h
def X6k{c:TypeDesc}{k j:D}{u v:Value}(d:Ku c k=true)(g:Eg k j=true)(e:k.key=some u)(f:j.key=some v):Instr.sameNow c u v=some (Ds k j):=by
 have b:=Xvi d;cases k<;>simp only[D.Ok,BY]at b<;>cases j<;>simp only[Eg,BY,D2]at g<;>simp only[D.key,ED]at e f<;>subst e<;>subst f<;>cases c<;>simp only[Ku,BY]at d
 ·simp_all[Instr.sameNow,Ds]
 ·simp[Instr.sameNow,Ds]
 simp[Instr.sameNow,Ds,beq_toListBytes,Yht]
theorem Ygy:∀{b c:List D}{d e:List Value},V5 b c=true->FK b c=true->Qp b=some d->Qp c=some e->e=d:=by
 grind[QM]
def jB{k j:D}{u v:Value}(b:Eg k j=true)(c:Ds k j=true)(d:k.key=some u)(e:j.key=some v):v=u:=by
 cases k<;>cases j<;>simp only[Eg,BY,D2]at b<;>simp only[Ds,EN]at c<;>simp only[D.key,ED]at d e
 ·simp_all
 ·simp_all
 ·simp_all
 grind[Wr,Ygy]
def Ylv{x y:D}{u:Value}(b:x.GR=some u)(c:y.GR=some u)(d:Me x y=true):DN x y=true:=by
 cases x<;>cases y<;>simp only[Me,BY,D2]at d<;>simp only[D.GR,ED]at b c<;>rw[<-b]at c
 ·grind[Value.int.injEq,DN]
 ·grind[Value.bool.injEq,DN]
 grind[Value.string.injEq,DN]
def Xr3:∀{f g:List D}{e:List Value},Qp f=some e->Qp g=some e->V5 f g=true->FK f g=true
|[],[],_,_,_,_=>rfl
|x::r,y::s,e,b,c,d=>by
 simp only[V5,BX]at d;simp only[Qp]at b c;split at b
 ·rename_i o m i j;split at c
  next p n k l=>cases b;cases c;simp only[FK,BX];exact⟨Ylv i k d.1,Xr3 j l d.2⟩
  ·cases c
 ·cases b
|[],_::_,_,_,_,h=>by cases h
|_::_,[],_,_,_,h=>by cases h
def jj{k j:D}{u:Value}(e:k.key=some u)(d:j.key=some u)(c:Eg k j=true):Ds k j=true:=by
 cases k<;>cases j<;>simp only[Eg,BY,D2]at c<;>simp only[D.key,ED]at e d
 ·grind[Value.int.injEq,Ds]
 ·grind[Value.bool.injEq,Ds]
 ·grind[Value.string.injEq,Ds]
 ·obtain⟨h,f,rfl⟩:=Wr e;obtain⟨i,g,b⟩:=Wr d;have b:h=i:=by simpa using b
  subst b;exact Xr3 f g c
def xP{e:MapEntry}{l:List MapEntry}{u:Value}{j:Nat}(h:∀i,i<j->∀b,l[i]? = some b->b.key≠u)(d:e.key≠u):∀i,i<j+1->∀b,(e::l)[i]? = some b->b.key≠u
|0,_,b,c=>by simp_all
|i+1,f,b,c=>h i (by omega) b (by simpa using c)
theorem jL{n:TypeDesc}{k:D}{u:Value}(f:Ku n k=true)(m:k.key=some u):∀(d:List (D×V)) (l:List MapEntry) (i:Nat),Yp w ρ d l->(∀e∈d,Eg k e.1=true)->
 (Zo k d=none/\Instr.findNow n u l i=some none)\/∃v j e,Zo k d=some v/\Instr.findNow n u l i=some (some (i+j,e.val))/\l[j]? = some e/\v.A1 w ρ e.val/\e.key=u/\∀i,i<j->∀c,l[i]? = some c->c.key≠u
|[],l,i,h,_=>by
 subst h;exact .inl ⟨rfl,rfl⟩
|(j,v)::r,l,i,h,q=>by
 obtain⟨e,O,rfl,p,G,H⟩:=h;have b:=q (j,v) (by simp);have J:=X6k f b m p;simp only[Instr.findNow,Zo,J];cases g:Ds k j with
 |true=>
  exact .inr ⟨v,0,e,by simp,by simp,by simp,G,jB b g m p,λ_ h=>(by omega)⟩
 |false=>
  rcases jL f m r O (i+1) H (λx L=>q x (by simp[L])) with⟨o,s⟩|⟨Q,N,c,o,s,t,y,z,F⟩
  ·simp_all
  ·exact .inr ⟨Q,N+1,c,by simpa using o,by grind,by simpa using t,y,z,xP F λf=>by simp_all[jj]⟩
theorem Xu6{b:TypeId}{c:TypeDesc}(e:P.underlying b=some c){u:Value}{l:List MapEntry}{r:Option (Nat×Value)}(h:Instr.findNow c u l 0=some r)(d:World):(Instr.findKey b u l).run P d=.ok r d:=by
 simp[Instr.findKey,Xa e,h]
theorem Xq3{c:TypeId}{d:TypeDesc}(f:P.underlying c=some d){k:D}(g:Ku d k=true)(u:Value)(b:Bool)(e:World):(Instr.checkKey b 10000 c u).run P e=.ok () e:=by
 unfold Instr.checkKey;simp only[Cm,Xa f,Ch];split<;>simp_all[Ku]
def ZM:∀{b c:List D},V5 b c=true->HE (b.map Iu) c=true
|[],[],_=>rfl
|x::r,y::s,h=>by
 simp only[V5,BX]at h;simp only[Dj,HE,BX];refine⟨?_,ZM h.2⟩;have d:=h.1;unfold Me at d;grind[Iu,KT.CI]
|[],_::_,h=>by cases h
|_::_,[],h=>by cases h
theorem xK:∀{kd:List D},O0 (kd.map Iu)<=1
|[]=>by simp[O0]
|x::r=>by
 simp only[Dj,O0];have:=xK (kd:=r);have b:(Iu x).depth<=1:=by cases x<;>simp[Iu,KT.depth]
 omega
theorem Yu5{t:TypeId}{x:D}(c:(Iu x).An P t=true)(b:Bool)(u:Value)(n:Nat)(d:World):(Instr.checkKey b (n+1) t u).run P d=.ok () d:=by
 unfold Instr.checkKey;cases x<;>simp only[Iu,KT.An]at c<;>(split at c<;>first|(cases c;done)|simp_all[Xa])
def Xq5(b:Bool)(n:Nat):∀(s:List D)(c:List Field)(o:Nat)(e:List D)(d i:List Value),KT.D8 P (s.map Iu) c o=true->HE (s.map Iu) e=true->CT w (CS ρ) e i->d.length=o->∀g,
 (forIn c PUnit.unit (λf (_:PUnit)=>(if f.name ≠ "_" then (do Instr.checkKey b (n+1) f.type (<-part f.type (d++i).toArray f.offset);pure (ForInStep.yield PUnit.unit)) else pure (ForInStep.yield PUnit.unit):Sem (ForInStep PUnit)))).run P g=.ok PUnit.unit g
|[],c,o,e,d,i,j,h,k,F,g=>by
 cases c<;>simp[KT.D8]at j;simp
|t::r,c,o,e,d,i,j,h,k,F,g=>by
 cases c<;>simp only[Dj,KT.D8,BY,BX,bne_iff_ne,ne_eq,EN]at j;rename_i f y;cases e<;>simp only[Dj,HE,BY,BX]at h;rename_i x e;obtain⟨v,q,rfl,u,k⟩:=k;obtain⟨⟨⟨⟨H,J⟩,p⟩,m⟩,l⟩:=j;have G:f.offset=d.length:=by omega
 have N:=Tb (c1:=d) (c3:=q) m p h.1 u g;have z:=H9 _ _ u;rw[Np _ x h.1]at z;have L:=Xq5 b n r y (o+(Iu t).cells) e (d++v) q l h.2 k (by simp;omega) g;grind[Sem.run_bind,Yu5,Result.andThen_ok,Sem.run_pure]
def eC{i:TypeId}{h k:D}{u:Value}(c:Qo P i h=true)(g:Eg h k=true)(l:k.key=some u)(b:Bool)(d:World):(Instr.checkKey b 10000 i u).run P d=.ok () d:=by
 unfold Qo at c;split at c
 ·rename_i n;cases k<;>simp only[Eg,BY]at g;rename_i o;obtain⟨m,j,rfl⟩:=Wr l;simp only[KT.An]at c;split at c
  next e f=>simp at c;unfold Instr.checkKey;simp only[Cm,Xa f,Ch];have:=Xq5 (P:=P) (w:=d) (ρ:=⟨λ_=>none,λ_=>False,⟨λ_=>none,λ_ _ _ _ _=>False⟩⟩) b 9998 n e.toList 0 o [] m c.2 (ZM g) (TO j) rfl d;simp_all
  ·cases c
 grind[Xq3,eK]
theorem Ya0{f:TypeId}{e b c:List D}{g h:List Value}(i:(KT.st (e.map Iu)).An P f=true)(l:V5 e b=true)(m:V5 b c=true)(n:V5 e c=true)(j:Qp b=some g)(k:Qp c=some h)(d:World):
 (Op.equal f (.agg g.toArray) (.agg h.toArray)).run P d=.ok (Ds (.agg b) (.agg c)) d:=by
 have:=KT.equal (P:=P) (w:=d) (ow:=λ_=>False) (KT.st (e.map Iu)) f (.agg b) (.agg c) g h 10000 i (by simp_all[KT.CI,ZM]) (by simp_all[KT.CI,ZM]) (by simp_all[D.A1,TO]) (by simp_all[D.A1,TO]) (by grind[KT.depth,xK]) d;exact this
theorem Xfo:∀{a b c:List D},V5 a b=true->V5 b c=true->V5 a c=true
|[],[],[],_,_=>rfl
|x::r,y::s,z::t,h,d=>by
 simp only[V5,BX]at h d⊢;refine⟨?_,Xfo h.2 d.2⟩;have e:=h.1;have f:=d.1;cases x<;>cases y<;>simp[Me]at e<;>cases z<;>simp[Me]at f<;>simp_all[Me]
|[],[],_::_,_,h=>by cases h
|[],_::_,_,h,_=>by cases h
|_::_,[],_,h,_=>by cases h
|_::_,_::_,[],_,h=>by cases h
def Ynx{m:TypeId}{k:D}{u:Value}(t:k.key=some u)(s:∀j v,Eg k j=true->j.key=some v->∀b,(Op.equal m u v).run P b=.ok (Ds k j) b):∀(g:List (D×V)) (l:List MapEntry) (i:Nat),Yp w ρ g l->(∀e∈g,Eg k e.1=true)->
 (Zo k g=none/\∀b,(Instr.findAsking m u l i).run P b=.ok none b)\/∃v j e,Zo k g=some v/\(∀b,(Instr.findAsking m u l i).run P b=.ok (some (i+j,e.val)) b)/\l[j]? = some e/\v.A1 w ρ e.val/\e.key=u/\∀i,i<j->∀f,l[i]? = some f->f.key≠u
|[],l,i,h,_=>by
 subst h;exact .inl ⟨rfl,λb=>by simp[Instr.findAsking]⟩
|(j,v)::r,l,i,h,p=>by
 obtain⟨e,Q,rfl,o,J,L⟩:=h;have c:=p (j,v) (by simp);have q:=s j _ c o;simp only[Zo];cases d:Ds k j with
 |true=>
  rw[d]at q;exact .inr ⟨v,0,e,by simp,λb=>by simp[Instr.findAsking,q],by simp,J,jB c d t o,λ_ h=>(by omega)⟩
 |false=>
  rcases Ynx t s r Q (i+1) L (λx N=>p x (by simp[N])) with⟨n,y⟩|⟨T,O,f,n,y,z,F,G,H⟩
  ·simp_all[Instr.findAsking]
  ·exact .inr ⟨T,O+1,f,by simpa using n,λb=>by grind[Instr.findAsking,Sem.run_bind,Result.andThen_ok],by simpa using z,F,G,xP H λU=>by simp_all[jj]⟩
theorem Xik{c:TypeId}{b:Array Field}(e:P.underlying c=some (.struct b)){u:Value}{l:List MapEntry}(d:World):(Instr.findKey c u l).run P d=(Instr.findAsking c u l).run P d:=by
 cases l<;>simp_all[Instr.findKey,Xa,Instr.findNow,Instr.findAsking,Instr.sameNow]
def eX{m:TypeId}{x k:D}{u:Value}(d:Qo P m x=true)(f:Eg x k=true)(q:k.key=some u){es:List (D×V)}{l:List MapEntry}(h:Yp w ρ es l)(t:∀e∈es,Eg k e.1=true):
 (Zo k es=none/\∀b,(Instr.findKey m u l).run P b=.ok none b)\/∃v j e,Zo k es=some v/\(∀b,(Instr.findKey m u l).run P b=.ok (some (j,e.val)) b)/\l[j]? = some e/\v.A1 w ρ e.val/\e.key=u/\∀i,i<j->∀s,l[i]? = some s->s.key≠u:=by
 unfold Qo at d;split at d
 ·cases k<;>simp only[Eg,BY]at f;rename_i y;have r:=q;obtain⟨G,H,rfl⟩:=Wr q;have g:∃c,P.underlying m=some (.struct c):=by
   grind[KT.An]
  obtain⟨c,g⟩:=g;have F:∀j v,Eg (.agg y) j=true->j.key=some v->∀b,(Op.equal m (.agg G.toArray) v).run P b=.ok (Ds (.agg y) j) b:=by
   intro j v p J b;cases j<;>simp only[Eg,BY]at p;grind[D.key,Wr,Ya0,Xfo]
  rcases Ynx (w:=w) (ρ:=ρ) r F es l 0 h t with⟨n,o⟩|⟨v,j,e,n,o,z⟩
  ·simp_all[Xik]
  grind[Xik]
 ·split at d
  ·rcases jL (eK d f) q es l 0 h t with⟨n,o⟩|⟨v,j,e,n,o,z⟩<;>grind[jL,eK,Xu6]
  ·cases d
theorem Ybt{w:World}{j:Nat->Prop}:∀{g:List D}{c b:List Value},Qp g=some c->CT w j g b->b=c
|[],c,b,h,e=>by simp_all[Qp,CT]
|x::r,c,b,h,e=>by
 simp only[Qp]at h;split at h
 next u l d i=>cases h;obtain⟨m,n,rfl,f,k⟩:=e;rw[Ybt i k];cases x<;>simp only[D.GR,ED,reduceCtorEq]at d<;>subst d<;>simp only[D.A1]at f<;>rw[f]<;>rfl
 ·cases h
def ns{d:D}{u v:Value}(c:d.key=some u)(b:(V.d d).A1 w ρ v):v=u:=by
 cases d<;>simp only[D.key,ED,reduceCtorEq]at c
 ·simp_all[Ye]
 ·simp_all[BW]
 ·simp_all[CX]
 ·obtain⟨g,f,rfl⟩:=Wr c;rw[KM]at b;rcases b with⟨_,e,rfl,b⟩|⟨b,_⟩
  ·grind[D.A1,Ybt]
  ·cases b
def Yno{g:TypeId}{z:D}(h:(match Jx P g with|some f=>E0 z f&&(((P.info? g).bind (·.zero)).map λv=>match v with|.agg _=>true|_=>false)==some (V.d z).isAgg|none=>false)=true):
 ∃e,(V.d z).A1 w ρ e/\∀k,(zeroValue g).run P k=.ok e k:=by
 cases c:Jx P g with
 |none=>simp[c]at h
 |some f=>
  simp only[c,BX,EN]at h;obtain⟨o,b⟩:=h;obtain⟨e,j,m,i⟩:=Jy c;refine⟨e,?_,i⟩;have n:(V.d z).Au w ρ f:=by simp_all[V.Au,No]
  rw[m]at b;simp at b;cases e with
  |agg l=>
   refine .inr (.inl ⟨b.symm,f,?_,n⟩);simp only[Value.cells]at j;rw[<-j]
  |_=>
   refine .inr (.inr ⟨b.symm,?_⟩);simp_all[Value.cells]
def Yk7(hs:SM w ρ sl a)(H:OM w ρ ob){op:Op}{kd z:D}{ok:Bool}{m k:A}(hc:I.An P op (.LR kd z ok m k)=true)(h:ML ob kd z ok (λv=>K v ob) (m.ev sl) (k.ev sl)):Dv P a w ρ op K Pn:=by
 cases op<;>simp only[I.An,BY]at hc;rename_i t x i o;simp only[BX,EN]at hc;obtain⟨⟨⟨rfl,aa⟩,hx⟩,hi⟩:=hc;obtain⟨W,T,U,s,hz⟩:∃W T,P.underlying t=some (.map W T)/\Qo P W kd=true/\(match Jx P T with|some cs=>E0 z cs&&(((P.info? T).bind (·.zero)).map λv=>match v with|.agg _=>true|_=>false)==some (V.d z).isAgg|none=>false)=true:=by
  grind
 obtain⟨zv,F,Q⟩:=Yno (w:=w) (ρ:=ρ) hz;have G:=A.A2 hs hx;have X:=A.A2 hs hi;have J:∀{v:V}{u:Value}(b:Bool),v.A1 w ρ u->(V.BU [v,.d (.bool b)]).A1 w ρ (.tuple #[u,.bool b]):=λb hv=>by
  rw[CY];refine⟨[_,.bool b],rfl,?_⟩;exact⟨_,_,rfl,hv,_,_,rfl,BW.2 rfl,rfl⟩
 unfold ML at h;split at h
 ·rename_i id kk Z e2;rw[Z]at G;rw[e2]at X;unfold OF at h;split at h
  ·rename_i es hl;obtain⟨⟨c,O⟩,r⟩:=h;obtain⟨b,l,Y,g1,g2,g3,_⟩:=H.Ba id _ hl;rw[SD]at G;rcases G with⟨b',g4,G⟩|⟨g4,_⟩
   ·rw[g1]at g4;cases g4;obtain⟨_,ku,_,g⟩:=e9 c;have q:=ns g X;have p:=λb L=>eC s c g b L;have n:(getObj b).run P w=.ok (.map l.toArray Y) w:=by simp[getObj,Sem.run,g2]
    rcases eX s c g g3 O with⟨f1,N⟩|⟨v,j,e,f1,N,f3,f4,f5,_⟩
    ·rw[f1]at r;cases o
     ·exact Xy (λo y=>by simp[execOp,y,Instr.lookup,G,q,Xa U,n,p,N,Q]) r F H (Tr.refl _ _)
     ·exact Xy (λo y=>by simp[execOp,y,Instr.lookup,G,q,Xa U,n,p,N,Q]) r (J false F) H (Tr.refl _ _)
    ·rw[f1]at r;cases o
     ·exact Xy (λo y=>by simp[execOp,y,Instr.lookup,G,q,Xa U,n,p,N]) r f4 H (Tr.refl _ _)
     ·exact Xy (λo y=>by simp[execOp,y,Instr.lookup,G,q,Xa U,n,p,N]) r (J true f4) H (Tr.refl _ _)
   simp_all
  ·cases h
 ·rename_i kk Z e2;rw[Z,TU]at G;rw[e2]at X;obtain⟨c,r⟩:=h;obtain⟨_,ku,_,g⟩:=e9 c;have q:=ns g X;have p:=λb L=>eC s c g b L;have N:∀L,(Instr.findKey W ku ([]:List MapEntry)).run P L=.ok none L:=λL=>by
   rcases eX (w:=w) (ρ:=ρ) (es:=[]) (l:=[]) s c g rfl (by simp) with⟨_,f⟩|⟨_,_,_,f,_⟩<;>simp_all
  cases o
  ·exact Xy (λo y=>by simp_all[execOp,Instr.lookup,Xa]) r F H (Tr.refl _ _)
  ·exact Xy (λo y=>by simp_all[execOp,Instr.lookup,Xa]) r (J false F) H (Tr.refl _ _)
 ·cases h
def Yrg{k:D}{u:Value}{x:V}{i:Value}(f:k.key=some u)(g:x.A1 w ρ i)(b:Nat):∀(d:List (D×V)) (l:List MapEntry),Yp w ρ d l->Zo k d=none->Yp w ρ (E6 k x d) (l++[{key:=u,val:=i,born:=b}])
|[],l,h,_=>by subst h;exact⟨_,[],rfl,f,g,rfl⟩
|(j,v)::r,l,h,c=>by
 obtain⟨e,q,rfl,m,n,o⟩:=h;simp only[Zo]at c;split at c
 ·cases c
 next p=>simp only[E6,p];exact⟨e,_,rfl,m,n,Yrg f g b r q o c⟩
def Yhy{k:D}{u:Value}{x:V}{H:Value}(m:k.key=some u)(n:x.A1 w ρ H):∀(o:List (D×V)) (l:List MapEntry) (v:V) (j:Nat) (e:MapEntry),Yp w ρ o l->(∀e∈o,Eg k e.1=true)->(∀i,i<j->∀b,l[i]? = some b->b.key≠u)->l[j]? = some e->e.key=u->
 Yp w ρ (E6 k x o) (l.modify j λe=>{e with key:=u,val:=H})
|[],l,v,j,e,h,_,_,c,_=>by simp_all[Yp]
|(q,y)::r,l,v,0,e,h,g,_,c,s=>by
 obtain⟨b,z,rfl,f,F,p⟩:=h;simp at c;subst c;have d:=jj m (by rw[f,s]) (g (q,y) (by simp));simp only[E6,d,CP];exact⟨_,z,rfl,m,n,p⟩
|(q,y)::r,l,v,j+1,e,h,g,G,c,s=>by
 obtain⟨b,z,rfl,f,F,p⟩:=h;have t:=G 0 (by omega) b (by simp);have d:Ds k q=false:=by
  cases d:Ds k q with
  |false=>rfl
  |true=>exact absurd (jB (g (q,y) (by simp)) d m f) t
 simp only[E6,d,BY,CR];exact⟨b,_,rfl,f,F,Yhy m n r z v j e p (λx n=>g x (by simp[n])) (λi N J L=>G (i+1) (by omega) J (by simpa using L)) (by simpa using c) s⟩
def zh{n:Nat}:∀{f:List D}{b:List Value},Qp f=some b->(b.zip b).all (λ(x,y)=>Instr.sameBits n x y)=true
|[],b,h=>by simp_all[Qp]
|x::r,b,h=>by
 simp only[Qp]at h;split at h
 next u e c d=>cases h;simp only[List.zip_cons_cons,Mn,BX];refine⟨?_,zh d⟩;cases x<;>simp only[D.GR,ED,reduceCtorEq]at c<;>subst c<;>cases n<;>simp[Instr.sameBits,beq_toListBytes]
 ·cases h
def Xs5{k:D}{u:Value}(h:k.key=some u):Instr.sameBits 10000 u u=true:=by
 cases k<;>simp only[D.key,ED,reduceCtorEq]at h
 ·subst h;show(_==_&&_==_)=true;simp
 ·subst h;show(_==_)=true;simp
 ·subst h;show(_==_)=true;rw[beq_toListBytes];simp
 ·obtain⟨c,b,rfl⟩:=Wr h;have:=zh (n:=9999) b;show(_==_&&_)=true;simpa using this
def u7:∀{l:List MapEntry}{n:Nat}{e:MapEntry},F2 n l->e.born=n+l.length->F2 n (l++[e])
|[],n,e,_,h=>⟨by simpa using h,trivial⟩
|x::r,n,e,h,b=>⟨h.1,u7 h.2 (by simp at b;omega)⟩
def u9:∀{l:List MapEntry}{n:Nat},F2 n l->∀(j:Nat)(u v:Value),F2 n (l.modify j λe=>{e with key:=u,val:=v})
|[],n,h,j,u,v=>by simpa using h
|x::r,n,h,0,u,v=>⟨h.1,h.2⟩
|x::r,n,h,j+1,u,v=>⟨h.1,u9 h.2 j u v⟩
def Yao(hs:SM w ρ sl a)(X:OM w ρ ob){H:Op}{N:D}{m k v:A}(hc:I.An P H (.DP N m k v)=true)(h:Lz ob N (v.ev sl) K (m.ev sl) (k.ev sl)):Dv P a w ρ H K Pn:=by
 obtain⟨t,x,i,y,F,ab,hx,hi,hy⟩:∃t x i y,(H=.mapUpdate t x i y\/H=.insert t x i y)/\(match P.underlying t with|some (.map G _)=>Qo P G N|_=>false)=true/\A.An x m=true/\A.An i k=true/\A.An y v=true:=by
  cases H<;>simp only[I.An,BY,BX]at hc<;>grind
 obtain⟨G,et,ht,z⟩:∃G et,P.underlying t=some (.map G et)/\Qo P G N=true:=by
  grind
 have r:=A.A2 hs hx;have r2:=A.A2 hs hi;have r3:=A.A2 hs hy;unfold Lz at h;split at h
 ·rename_i id kk e1 e2;rw[e1]at r;rw[e2]at r2;unfold Ny at h;split at h
  ·rename_i es Z;obtain⟨⟨p,g⟩,aa,hK⟩:=h;obtain⟨b,l,c,Q,s,T,W,g6⟩:=X.Ba id _ Z;rw[SD]at r;rcases r with⟨b',U,r⟩|⟨U,_⟩
   ·rw[Q]at U;cases U;obtain⟨_,q,_,d⟩:=e9 p;have J:=ns d r2;have u:=λb w'=>eC z p d b w';have n:(getObj b).run P w=.ok (.map l.toArray c) w:=by simp[getObj,Sem.run,s]
    rcases eX z p d T g with⟨f0,O⟩|⟨v',j,e,f0,O,L,_,f3,f6⟩
    ·have L:=Yrg d r3 c es l T f0;obtain⟨t1,o1⟩:=Xtp (clk':=c+1) X Z Q s L ⟨by simp[W],u7 g6 (by simp[W])⟩;refine XO (λo ho=>?_) hK o1 t1;have f:(setObj b (.map ((l++[(⟨q,a.eval y,c⟩:MapEntry)]).toArray) (c+1))).run P w=.ok () (Et w b (.map ((l++[(⟨q,a.eval y,c⟩:MapEntry)]).toArray) (c+1))):=by simp[setObj,Sem.run,s,Et]
     rcases F with rfl|rfl<;>simp[execOp,ho,Instr.mapUpdate,r,J,Xa ht,n,u,O]<;>(rw[f];simp)
    ·have f4:=Yhy d r3 es l v' j e T g f6 L f3;obtain⟨t1,o1⟩:=Xtp (clk':=c) X Z Q s f4 ⟨by simp[W],u9 g6 j _ _⟩;refine XO (λo ho=>?_) hK o1 t1;have Y:(Instr.keyThatStays e.key q).run P w=.ok q w:=by simp[Instr.keyThatStays,f3,Xs5 d]
     have f:(setObj b (.map (l.modify j λe=>{e with key:=q,val:=a.eval y}).toArray c)).run P w=.ok () (Et w b (.map (l.modify j λe=>{e with key:=q,val:=a.eval y}).toArray c)):=by simp[setObj,Sem.run,s,Et]
     rcases F with rfl|rfl<;>simp[execOp,ho,Instr.mapUpdate,r,J,Xa ht,n,u,O,L,Y]<;>(rw[f];simp)
   simp_all
  ·cases h
 ·cases h
def Yk3{P:BE}(J:ρ.gl=P.g)(q:OM w ρ ob){op:Op}{g n:Nat}{ag:Bool}{x:D}(H:I.An P.p op (.MR g n ag x)=true)(h:B5 P g x/\x.sz=n/\(V.d x).isAgg=ag/\K (.d x) ob):Dv P.p a w ρ op K Pn:=by
 obtain⟨t,N,W,X,Y⟩:∃t,op=.load t (.global g)/\Yl P.p t=some n/\(P.p.underlying t).isSome=true/\Gj P.p t=ag:=by
  simp only[I.An]at H;grind
 obtain⟨⟨l,T,f,r,U⟩,Q,G,F⟩:=h;obtain⟨L,s⟩:=q.EZ g _ (by rw[J];exact r);have b:x.A1 w (CS ρ) l:=No x l U;have O:(V.d (.CD x)).A1 w ρ (.pointer (some ⟨g,0,none⟩)):=Mp.2 ⟨⟨g,0,none⟩,l,rfl,rfl,⟨λ_=>⟨rfl,s,Xu L⟩,λi Z=>by grind[World.cell?]⟩,b⟩;let j:Act:=⟨#[.pointer (some ⟨g,0,none⟩)],[]⟩
 have z:SM w ρ [(0,.d (.CD x))] j:=by
  intro k;simp only[BG];split
  next e=>subst e;exact O
  ·exact Nv
 obtain⟨v,y,m,u,c⟩:=TY (P:=P.p) (K:=λv=>v=V.d x) (a:=j) (n:=n) (ag:=ag) (x:=.t 0) (op:=.load t (.tmp 0)) z q (by simp_all[C.An,A.An]) (by simp_all[A.ev,BG,E9]);subst m;refine Xy (λo ho=>?_) F u q (Tr.refl _ _)
 have:=c ⟨none,.load t (.tmp 0),0, "", #[],none⟩ rfl w (λ_=>CM.refl w)
 simp only[execOp,Act.eval,j]at this;simp_all[execOp,Act.eval]
def Ylf(W:SM w ρ sl a)(g:OM w ρ ob){m:Op}{n z:Nat}{x:A}(O:I.An P m (.LZ n z x)=true)(h:L9 ob n z K (x.ev sl)):Dv P a w ρ m K Pn:=by
 obtain⟨t,r,e,l,X,Q,Y⟩:∃t r e,m=.slice t r none none none/\P.underlying t=some (.array n e)/\Yl P e=some z/\A.An r x=true:=by
  simp only[I.An]at O;grind
 have d:=A.A2 W Y;unfold L9 at h;split at h
 ·rename_i id p G;rw[G]at d;unfold OS at h;split at h
  ·rename_i xs j;obtain⟨T,Z,N⟩:=h;obtain⟨q,b',F,E,s,H,f,J,L⟩:=N2 g j;obtain⟨b,sh,c,d⟩:=B2 g s d;rw[c]at f;simp at f;obtain⟨rfl,rfl⟩:=f;obtain⟨u,o1,k⟩:=Ti g (id:=id) ⟨_,s⟩;obtain⟨c1,y,c3,q1,q2,q3⟩:=Ke p q _ F L H;refine Xy (v:=.slice (some ⟨b,q.shape.off p,none⟩) n n) (λo U=>?_) N ?_ o1 u
   ·simp only[execOp,U,l,d,S3,Instr.sliceAt,Cm,Xa X,Ch,Instr.sureAddr,DD,Instr.sliceBounds,X3 Q];simp_all[Addr.CH]
   ·rw[Zj];refine .inr ⟨⟨b,q.shape.off p,none⟩,n,y,by rw[T],by omega,⟨λ_=>⟨rfl,k b _ c rfl,Xu J⟩,λi hi=>?_⟩,GX u.mono _ _ q3,Z⟩;grind[World.cell?]
  ·cases h
 ·cases h
def Yle(G:SM w ρ sl a)(k:OM w ρ ob){s:Op}{n z:Nat}{x:A}{H u:Option A}(g:I.An P s (.JL n z x H u)=true)(h:Oc ob n z (H.map (A.ev sl)) (u.map (A.ev sl)) K (x.ev sl)):Dv P a w ρ s K Pn:=by
 cases s<;>simp only[I.An,BY]at g;rename_i t x1 l1 h1 m1;cases m1<;>simp only[BY]at g;simp only[BX]at g;obtain⟨⟨⟨h0,r⟩,q⟩,m⟩:=g;obtain⟨e,Y,T⟩:∃e,P.underlying t=some (.array n e)/\Yl P e=some z:=by
  grind
 have i:=A.A2 G r;unfold Oc at h;split at h
 ·rename_i id p J;rw[J]at i;cases d:Dm ob id p with
  |none=>simp_all[Vu,OR]
  |some v=>
   cases y:v.Bk with
   |none=>simp_all[Vu,OR]
   |some ks=>
    simp only[d,Vu,y,OR]at h;obtain⟨F,Z,h⟩:=h;obtain⟨c,b',cs,E,L,N,j,g4,g5⟩:=N2 k d;obtain⟨b,sh,f,i⟩:=B2 k L i;rw[f]at j;simp at j;obtain⟨rfl,rfl⟩:=j;obtain⟨l,O,Q,q1,q2,X⟩:=XD (P:=P) (cap:=n) (isS:=false) G (B9 _) q m h;refine Xy (v:=.slice (some (if n=l then⟨b,c.shape.off p,none⟩ else (⟨b,c.shape.off p,none⟩:Addr).add (l*z))) (O-l) (n-l)) (λo W=>?_) Q ?_ k (Tr.refl _ _)
    ·simp only[execOp,W,i,Instr.sliceAt,Cm,Xa Y,Ch,Instr.sureAddr,DD,S3,X,X3 T]
    ·rw[Ty];refine .inl ⟨b,c.shape,n-l,if n=l then c.shape.off p else c.shape.off p+l*z,f,⟨by omega,λU=>?_⟩,?_⟩
     ·rw[A5 (by omega),QQ _ p c v l rfl N,Tn y,Yg (z:=z) _ (λx r=>Z x (Lf r)),Mf,O2 (by omega)]
     grind[Addr.CH]
 ·cases h
def zW(W:OM w ρ ob){id c n z:Nat}{p:List Nat}{e:List D}{j:List Value}{r:V}{u:Value}(hu:(V.bs id p c n).A1 w ρ u)(hy:CT w (CS ρ) e j)(hz:∀y∈e,y.sz=z)(hn:e.length<=n)
 (h:JV ob id p c n z e r K (AD ob id)):∃b f k w' L,u=.slice (some ⟨b,f,none⟩) n k/\(storeCells ⟨b,f,none⟩ j).run P w=.ok () w'/\Tr w ρ w' ρ/\OM w' ρ L/\K r L:=by
 unfold JV at h;split at h
 ·rename_i E t Z;unfold SY at h;split at h
  ·rename_i l o;obtain⟨ag,ad,ah,t',H,hK⟩:=h;obtain⟨b,m,q,U,g3⟩:=W.Ba id _ Z;rw[Ty]at hu;rcases hu with⟨b',sh,k,f,N,⟨q2,q3⟩,q4⟩|⟨N,_⟩
   case inr=>rw[N]at q;cases q
   rw[q]at N;simp only[ED,RO.box.injEq]at N;obtain⟨rfl,rfl⟩:=N;obtain⟨c1,g,c3,e2,e3,O⟩:=Ke p t _ m g3 o;simp only[V.Au,D.A1]at O;have J:j.length=e.length*z:=by rw[HC _ _ hy,FE _ hz]
   have X:g.length=l.length*z:=by rw[HC _ _ O,FE _ ad]
   have tk:∀i,i<=l.length->DZ (l.take i)=i*z:=λi hi=>by
    grind[FE,List.mem_of_mem_take,List.length_take,Nat.min_eq_left]
   have s1:=(Nl l c g O).1;have s2:=(Nl l (c+e.length) g O).2;rw[tk c (by omega)]at s1;rw[tk (c+e.length) (by omega)]at s2;have v:CT w (CS ρ) (KJ c l e) (g.take (c*z)++(j++g.drop ((c+e.length)*z))):=WG s1 (WG hy s2);have aa:(c+e.length)*z<=g.length:=by rw[X];exact RB z (by omega)
   have s:c*z+j.length=(c+e.length)*z:=by rw[J,Kg]
   obtain⟨ai,T,e5,Q⟩:=QN p t _ (.d (.agg (KJ c l e))) m _ g3 o (by simp only[V.Au,D.A1];exact v) (by simp_all[V.shape]);rw[H]at T;simp only[ED]at T;subst T;have e7:m.take (t.shape.off p)++(g.take (c*z)++(j++g.drop ((c+e.length)*z))++m.drop (t.shape.off p+(g.take (c*z)++(j++g.drop ((c+e.length)*z))).length))=c1++((g.take (c*z)++(j++g.drop ((c+e.length)*z)))++c3):=by
    have af:(g.take (c*z)++(j++g.drop ((c+e.length)*z))).length=g.length:=by
     grind
    grind
   rw[e7]at Q;by_cases ab:n=0
   ·have ae:e=[]:=dY (by omega);subst ae;have ac:j=[]:=dY (by simpa using J);subst ac;have e8:c1++((g.take (c*z)++([]++g.drop ((c+([]:List D).length)*z)))++c3)=m:=by rw[e2];simp
    rw[e8]at Q;exact⟨b,f,k,w,_,q4,by simp[storeCells],Tr.refl _ _,W.swap Z (x':=.box E t') ⟨b,m,by rw[e5];exact q,U,Q⟩,hK⟩
   ·have hf:=q3 ab;have Y:(V.d (.agg l)).Bk=some (l.map .d):=rfl;have F:t.shape.off (p++[c])=t.shape.off p+c*z:=by
     rw[QQ _ p t _ c rfl o,Tn Y,Yg (z:=z) _ (λx hx=>?_),Mf,Kk,O2 (by omega)];grind[V.size,V.shape,D4]
    obtain⟨t1,o1⟩:=EG W Z q U e5 Q;have G:=run_storeCells_at (P:=P) b (t.shape.off p+c*z) E j 0 m.toArray w U (by grind) (WL e j hy);refine⟨b,f,k,_,_,q4,?_,t1,o1,hK⟩;rw[hf,F,G];simp;rw[e2,<-e3,Uac,dV,WS,s,vO (by omega),List.drop_append_of_le_length aa];simp
  ·cases h
 ·cases h
def Yk1(T:SM w ρ sl a)(hO:OM w ρ ob){O:Op}{z:Nat}{x y:A}(i:I.An P O (.MQ z x y)=true)(h:Pq z ob K (x.ev sl) (y.ev sl)):Dv P a w ρ O K Pn:=by
 cases O<;>simp only[I.An,BY]at i;rename_i c;obtain⟨ca,q,ts⟩:=c;cases ca<;>(try simp only[BY]at i);rename_i b;cases b<;>(try simp only[BY]at i);split at i
 ·rename_i u v t Y e1 e2;simp only[BX]at i;obtain⟨⟨h0,h1⟩,h2⟩:=i;have ea:q=#[u,v]:=by simpa using DH List.toArray e1
  have et:ts=#[t,Y]:=by simpa using DH List.toArray e2
  subst ea et;obtain⟨e,ht,he,ae⟩:∃e,P.underlying t=some (.slice e)/\Yl P e=some z/\z≠0:=by
   revert h0;split<;>simp_all
  have W:=A.A2 T h1;have l:=A.A2 T h2;unfold Pq at h;split at h
  ·rename_i id p lo n m d e3 e4;obtain⟨rfl,h⟩:=h;rw[e3]at W;rw[e4,Zj]at l;have N:∃g,CT w (CS ρ) (d.take n) g/\(∀y∈d.take n,y.sz=m)/\(Builtin.lenOf (a.eval v)).run P w=.ok d.length w/\(Builtin.firstCells m (Nat.min d.length n) (a.eval v)).run P w=.ok g.toArray w:=by
    rcases l with⟨rfl,l⟩|⟨Z,G,g,l,Q,r,F,U⟩
    ·exact⟨[],by simp[CT],by simp,by simp[l,Builtin.lenOf],by simp[l,Builtin.firstCells]⟩
    ·have X:=(Nl d n g F).1;have ac:g.length=d.length*m:=by rw[HC _ _ F,FE _ U]
     have tk:DZ (d.take n)=Nat.min d.length n*m:=by
      grind[FE,List.mem_of_mem_take,List.length_take,Nat.min_comm]
     rw[tk]at X;refine⟨_,X,λy L=>U y (Lf L),by simp[l,Builtin.lenOf],?_⟩;have s:(g.take (Nat.min d.length n*m)).length=Nat.min d.length n*m:=by
      simp_all
     have hl:=run_loadCells_list (P:=P) (w:=w) Z (g.take (Nat.min d.length n*m)) (λj c hj=>by
      obtain⟨ab,e⟩:=HF.1 hj;have H:j<g.length:=by grind
      have J:g≠[]:=by grind
      rw[Addr.CH (r.1 J).1,<-e,List.getElem_take];exact r.2 j H)
     simp_all[Builtin.firstCells]
   obtain⟨g,L,hz,s,aa⟩:=N;obtain⟨b,f,G,w',af,q1,q2,t1,o1,hK⟩:=zW (P:=P) hO W L hz (by grind) h;refine Xy (v:=.int .i64 (Nat.min d.length n:Nat)) (λo ho=>?_) hK (Ye.2 rfl) o1 t1;have k:∀ty,(Builtin.copy_ #[t,Y] ty #[a.eval u,a.eval v]).run P w=.ok (goInt (Nat.min d.length n)) w':=by
    simp_all[Builtin.copy_,TypeId,Cm,Xa,Ch,X3,DD]
   simp only[execOp,ho,resolve,invoke,builtin,Cm,DD,Ch,O8,Dj,Kh,k];rfl
  ·cases h
 ·simp at i
def Yk0(hs:SM w ρ sl a)(N:OM w ρ ob){Y:Op}{G:D}{z:Nat}{x:A}(i:I.An P Y (.LF G z x)=true)(h:Pm G z ob K (x.ev sl)):Dv P a w ρ Y K Pn:=by
 cases Y<;>simp only[I.An,BY]at i;rename_i c;obtain⟨ca,k,ts⟩:=c;cases ca<;>(try simp only[BY]at i);rename_i b;cases b<;>(try simp only[BY]at i);split at i
 ·rename_i u t e1 e2;simp only[BX]at i;obtain⟨h0,h1⟩:=i;have ea:k=#[u]:=by simpa using DH List.toArray e1
  have et:ts=#[t]:=by simpa using DH List.toArray e2
  subst ea et;obtain⟨e,ht,he,aa,g,X,r⟩:∃e,P.underlying t=some (.slice e)/\Yl P e=some z/\z≠0/\∃g,Jx P e=some g/\E0 G g=true:=by
   revert h0;split
   ·rename_i e hu;simp only[BX,EN,bne_iff_ne,ne_eq];rintro⟨⟨h2,h3⟩,L⟩;refine⟨e,hu,h2,h3,?_⟩;cases hz:Jx P e with
    |none=>simp[hz]at L
    |some g=>simp only[hz]at L;exact⟨g,rfl,L⟩
   ·simp
  obtain⟨zv,ez,_,W⟩:=Jy X;have s:=A.A2 hs h1;unfold Pm at h;split at h
  ·rename_i id p lo n e3;rw[e3]at s;have Z:(#[t]:Array TypeId)[0]? = some t:=rfl;have l:(#[a.eval u]:Array Value)[0]? = some (a.eval u):=rfl;by_cases hn:n=0
   ·subst hn;obtain⟨⟨E,t0,hl⟩,h⟩:=h.1 rfl;refine Xy (v:=.tuple #[]) (λo Q=>?_) h (CY.2 ⟨[],rfl,rfl⟩) N (Tr.refl _ _);have d:∀F,(Builtin.clear_ #[t] F #[a.eval u]).run P w=.ok (.tuple #[]) w:=by
     intro F;unfold Builtin.clear_;rw[Z,l];rw[Ty]at s;rcases s with⟨b,sh,H,f,_,_,s⟩|⟨hg,_⟩
     ·simp_all[Cm,Xa,Ch,DD]
     ·obtain⟨b,g,h5,_⟩:=N.Ba id _ hl;rw[hg]at h5;cases h5
    simp only[execOp,Q,resolve,invoke,builtin,Cm,DD,Ch,O8,Dj,Kh,d]
   ·obtain⟨⟨T,U⟩,h⟩:=h.2 hn;have j:∀m,CT w (CS ρ) (List.replicate m G) (List.replicate m g).flatten:=by
     intro m;induction m<;>grind[CT,List.flatten_cons,No]
    have q:=j n;obtain⟨b,f,H,w',ac,q1,q2,t1,o1,hK⟩:=zW (P:=P) N s q (λy hy=>by simp_all) (by simp) h;refine Xy (v:=.tuple #[]) (λo Q=>?_) hK (CY.2 ⟨[],rfl,rfl⟩) o1 t1;have d:∀F,(Builtin.clear_ #[t] F #[a.eval u]).run P w=.ok (.tuple #[]) w':=by
     intro F;unfold Builtin.clear_;rw[Z,l,q1];obtain⟨m,rfl⟩:∃m,n=m+1:=⟨n-1,by omega⟩
     have ab:(Builtin.zeroCells zv.cells (m+1)).toList=(List.replicate (m+1) g).flatten:=by
      have O:g.length=1:=by rw[H9 _ _ (No (w:=w) (ρ:=ρ) G g r),T,U]
      obtain⟨c,rfl⟩:=Nt.1 O;have J:zv.cells=#[c]:=by grind
      simp only[Builtin.zeroCells,J];apply RD<;>simp[RD,Nat.mod_one]
     simp_all[Cm,Xa,Ch,DD]
    simp only[execOp,Q,resolve,invoke,builtin,Cm,DD,Ch,O8,Dj,Kh,d]
  ·cases h
 ·simp at i
def wx{P:BE}(Q:ρ.gl=P.g)(hs:SM w ρ sl a)(J:OM w ρ ob){op:Op}{g n z:Nat}{x:D}{i:A}(O:I.An P.p op (.KU g n z x i)=true)(h:B5 P g x/\OW n z (λv=>K v ob) x (i.ev sl)):Iq P.p a w ρ op ob K:=by
 obtain⟨t,j,e,Z,ht,he,W⟩:∃t j e,op=.indexAddr t (.global g) j/\P.p.underlying t=some (.array n e)/\Yl P.p e=some z/\A.An j i=true:=by
  simp only[I.An]at O;grind
 obtain⟨⟨r,T,f,u,hx⟩,h⟩:=h;obtain⟨U,F⟩:=J.EZ g _ (by rw[Q];exact u);have b:x.A1 w (CS ρ) r:=No x r hx;have hr:(V.d (.CD x)).A1 w ρ (.pointer (some ⟨g,0,none⟩)):=Mp.2 ⟨⟨g,0,none⟩,r,rfl,rfl,⟨λ_=>⟨rfl,F,Xu U⟩,λi hi=>by grind[World.cell?]⟩,b⟩;have r2:=A.A2 hs W;let q:Act:=⟨#[.pointer (some ⟨g,0,none⟩),a.eval j],[]⟩
 have H:SM w ρ [(0,.d (.CD x)),(1,i.ev sl)] q:=by
  intro k;simp only[BG];split
  next e=>subst e;exact hr
  ·split
   next e=>subst e;exact r2
   ·exact Nv
 unfold OW at h;split at h
 ·rename_i l k m L;obtain⟨Y,X,hz,N⟩:=h;obtain⟨v,y,s,G,c⟩:=Xl3 (P:=P.p) (K:=λv=>v=V.d (.CD (l.getD m.toNat default))) (a:=q) (n:=n) (z:=z) (x:=.t 0) (y:=.t 1) (op:=.indexAddr t (.tmp 0) (.tmp 1)) H J (by grind[C.An,A.An]) (by
   have q0:A.ev [(0,V.d (.CD (.agg l))),(1,i.ev sl)] (.t 0)=.d (.CD (.agg l)):=rfl;have q1:A.ev [(0,V.d (.CD (.agg l))),(1,i.ev sl)] (.t 1)=.d (.int k m):=by rw[<-L];rfl
   rw[q0,q1];exact⟨Y,X,hz,rfl⟩)
  subst s;refine⟨_,_,w,N,G,CM.refl w,λo ho=>?_⟩
  have:=c ⟨none,.indexAddr t (.tmp 0) (.tmp 1),0, "", #[],none⟩ rfl w (λ_=>CM.refl w)
  simp only[execOp,Act.eval,q]at this;simp_all[execOp,Act.eval]
 ·cases h
def Ygu(b:List Value)(d:b.length≠0):∀n:Nat,((Array.range (n*b.length)).map (λi=>b.toArray[i % b.toArray.size]!))=((List.replicate n b).flatten).toArray:=by
 intro n;apply Array.ext';simp;induction n with
 |zero=>simp
 |succ n c=>
  rw[List.replicate_succ,List.flatten_cons,<-c,Nat.succ_mul,Nat.add_comm,List.range_add,Mh,List.map_map];congr 1
  ·grind[List.ext_getElem,List.length_map,List.length_range,Nat.mod_eq_of_lt]
  simp
def Yk9(hs:SM w ρ sl a)(Y:OM w ρ ob){Q:Op}{E p B:Nat}{z:D}{l:A}(F:I.An P Q (.MT E p B z l)=true)(h:Pu E p B z ob K (l.ev sl)):Dv P a w ρ Q K Pn:=by
 cases Q<;>simp only[I.An,BY]at F;rename_i t x y;simp only[BX,bne_iff_ne,ne_eq,EN]at F;obtain⟨⟨⟨⟨⟨⟨⟨h1,h2⟩,h3⟩,h4⟩,X⟩,h6⟩,h7⟩,h8⟩:=F;have ht:P.underlying t=some (.slice E):=by
  grind
 obtain⟨c,Z,G,H⟩:∃c,P.info? E=some c/\c.size=p/\c.bytes=B:=by
  grind
 obtain⟨d,O,ad,j⟩:∃d,Jx P E=some d/\E0 z d=true/\d.length=p:=by
  grind
 have r1:=A.A2 hs h1;have r2:=A.A2 hs h2;unfold Pu at h;split at h
 ·rename_i m e1;obtain⟨s,ac,hK⟩:=h;rw[e1,Ye]at r1 r2;have aa:m<=281474976710656:=by
   have:m*1<=m*(B:Int):=Int.mul_le_mul_of_nonneg_left (by omega) s;omega
  have N:IntKind.i64.wrap m=m:=by
   have U:m % (2 ^ IntKind.i64.bits:Int)=m:=Int.emod_eq_of_lt s (by show m<2 ^ 64;omega);have e2:¬m≥(2 ^ (IntKind.i64.bits-1):Int):=by show ¬m≥2 ^ 63;omega
   grind[IntKind.wrap]
  obtain⟨zv,ez,_,k⟩:=Jy O;have L:∀T,(typeInfo E).run P T=.ok c T:=λT=>by simp[typeInfo,Z]
  have J:Yl P E=some p:=by simp[Yl,Z,G]
  have r:=Wg w (.cells ((List.replicate m.toNat d).flatten).toArray E);have q:∀b,(RO.BO w.heap.size m.toNat m.toNat).blk? = some b->w.heap.size<=b:=λb hb=>by simp_all[RO.blk?]
  have e:=X1 ob;have t1:=Qd _ r (o:=.BO w.heap.size m.toNat m.toNat) (Y.free e) q;have g:∀n,CT w (CS ρ) (List.replicate n z) (List.replicate n d).flatten:=by
   intro n;induction n<;>grind[CT,No]
  refine Xy (v:=.slice (some ⟨w.heap.size,0,none⟩) m.toNat m.toNat) (λo ho=>?_) hK (Y9.2 ⟨_,by simp[BF.Bp];rfl,?_⟩) (Y.Bp r e q ?_) t1
  ·have ab:¬((B:Int)*m > 2 ^ 48):=by grind
   have hg:∀n,(Array.range n).map (λi=>zv.cells[i % zv.cells.size]!)=(Array.range n).map (λi=>d.toArray[i % d.toArray.size]!):=λn=>by
    grind
   have f:(decide (m<0)||decide ((B:Int)*m > 2 ^ 48)||decide (m<0)||decide (m > m))=false:=by
    simp_all
   simp only[execOp,ho,Instr.makeSlice,Cm,Xa ht,Ch,r1,r2,asInt,asIntOf,DD,L,H,N,f,BY,CR,run_askRoom,X3 J];by_cases W:m.toNat=0
   ·have U:(Array.map (λx=>(#[]:Array Value)[x % (#[]:Array Value).size]!) (Array.range 0))=(List.replicate 0 d).flatten.toArray:=by simp
    simp only[W,Nat.zero_mul,CP,DD,Ch,newRow,Cm,run_newObj];rw[U];rfl
   ·have u:m.toNat*p≠0:=Nat.mul_ne_zero W X;simp only[u,CR,Cm,k,Ch,DD,newRow,run_newObj,hg];have:=Ygu d (by rw[j];exact X) m.toNat;rw[j]at this;rw[this];rfl
  ·simp[RO.slice]
  ·refine .inr ⟨w.heap.size,m.toNat,(List.replicate m.toNat d).flatten,[],by simp[BF.Bp],by simp_all[Wq],GX t1.mono _ _ (g _),λx hx=>by simp_all,?_⟩;simp[j]
 ·cases h
def Yve(h:OM w ρ ob){id E X k b f:Nat}{v:List D}(z:AD ob id=some (.BO E X v))(U:ρ.m id=some (.BO b v.length f))(hk:k<=v.length)(ac:X≠0):
 Tr w ρ w ((ρ.Bp id .Ar).Bp (AA ob) (.BO b k f))/\OM w ((ρ.Bp id .Ar).Bp (AA ob) (.BO b k f)) ((AA ob,.BO E X (v.take k))::AG ob id .Ar):=by
 have T:id≠AA ob:=λe=>by rw[e,X1]at z;cases z
 have ab:ρ.m (AA ob)=none:=h.free (X1 ob);let d:=(ρ.Bp id .Ar).Bp (AA ob) (.BO b k f);have Q:d.m (AA ob)=some (.BO b k f):=by simp[d,BF.Bp]
 have F:d.m id=some .Ar:=by simp[d,BF.Bp,T]
 have G:∀j,j≠AA ob->j≠id->d.m j=ρ.m j:=λj n r=>by simp[d,BF.Bp,n,r]
 have J:Tr w ρ w d:=by
  refine⟨B9 _,λ_ _ _=>rfl,λc u=>.inl ?_,rfl,rfl,λj o hj=>?_,rfl,rfl,rfl,B9 _⟩
  ·obtain⟨j,o,n,r⟩:=u;by_cases s:j=AA ob
   ·subst s;rw[Q]at n;cases n;simp[RO.blk?]at r;subst r;exact⟨id,_,U,rfl⟩
   ·by_cases t:j=id
    ·grind[RO.blk?]
    ·rw[G j s t]at n;exact⟨j,o,n,r⟩
  ·by_cases s:j=AA ob
   ·simp_all
   ·by_cases t:j=id
    ·subst t;exact⟨_,F,.Ar o⟩
    ·exact⟨o,by simp_all,.refl o⟩
 refine⟨J,⟨λj y g=>?_,λj o hj=>?_,λi j p q c n r h3 h4=>?_,h.FV,Ms J h.EZ,λc u=>?_,⟨?_,h.C4.set⟩⟩⟩
 ·simp only[AD]at g;split at g
  ·rename_i e;subst e;simp only[ED]at g;subst g;rcases h.Ba id _ z with⟨q,_⟩|⟨b',Y,L,sp,N,g2,g3,g4,g5⟩
   ·rw[U]at q;cases q
   ·rw[U]at N;simp only[ED,RO.BO.injEq]at N;obtain⟨rfl,_,rfl⟩:=N;have O:=GX J.mono _ _ g3;have q1:=(Nl v k L O).1;generalize aa:DZ (v.take k)=Z at q1;refine .inr ⟨b,f,L.take Z,L.drop Z++sp,by grind,by rw[<-O4,QW];exact g2,q1,λx W=>g4 x (Lf W),by grind⟩
  ·rename_i s;rw[Xe ob id j ⟨_,z⟩]at g;split at g
   next e=>subst e;simp at g;subst g;exact F
   next t=>exact D5.tr J (h.Ba j y g) (G j (λe=>s e.symm) t) (λ_ _ _ _=>rfl)
 ·simp only[AD];split
  ·exact⟨_,rfl⟩
  ·rename_i s;rw[Xe ob id j ⟨_,z⟩];split
   ·exact⟨_,rfl⟩
   next t=>exact h.Ev j o (by grind)
 ·have l:∀{j:Nat}{o:RO}{c:Nat},d.m j=some o->o.blk? = some c->∃H o',ρ.m H=some o'/\o'.blk? = some c/\(j=if H=id then AA ob else H):=by
   grind[AA,RO.blk?]
  obtain⟨i',p',a1,a2,a3⟩:=l n h3;obtain⟨H,q',b1,b2,b3⟩:=l r h4;have:=h.inj i' H p' q' c a1 b1 a2 b2;subst this;rw[a3,b3]
 ·rcases J.DY c u with u|u
  ·exact h.D1 c u
  ·intro W;have:=h.FV c W;omega
 ·exact fm ob _ (X1 ob)
def Ylg(H:SM w ρ sl a)(u:OM w ρ ob){p:Op}{z:Nat}{x F:A}(d:I.An P p (.Ma z x F)=true)(h:Py z ob K (x.ev sl) (F.ev sl)):Dv P a w ρ p K Pn:=by
 cases p<;>simp only[I.An,BY]at d;rename_i t x1 lo hi mx;cases lo<;>cases hi<;>cases mx<;>(try simp only[BY]at d)
 ·rename_i h1;simp only[BX]at d;obtain⟨⟨Y,hx⟩,hy⟩:=d;obtain⟨E,ht,g,hz⟩:∃E,P.underlying t=some (.slice E)/\Yl P E=some z/\z≠0:=by
   revert Y;split
   next e g=>intro h;simp at h;exact⟨e,g,h.1,h.2⟩
   ·intro h;cases h
  have N:=A.A2 H hx;have O:=A.A2 H hy;unfold Py at h;split at h
  ·rename_i id n m T U;rw[T,Y9]at N;rw[U,Ye]at O;obtain⟨o,r,s⟩:=N;unfold cT at h;split at h
   ·rename_i E' q f G;obtain⟨rfl,rfl,j,⟨i,aa⟩,Z⟩:=h;rcases u.Ba id _ G with⟨_,L⟩|⟨b,c,Q,sp,J,L,q3,q4,q5⟩
    ·exact absurd L j
    ·rw[r]at J;cases J;simp only[RO.slice]at s;have W:a.eval x1=.slice (some ⟨b,0,none⟩) f.length c:=by simpa using s.2.2
     have y:f.length<=c:=by
      have e4:Q.length=f.length*q:=by rw[HC _ _ q3,FE _ q4]
      have X:f.length*q<=c*q:=by rw[<-q5,Dd];omega
      exact S1 X (by omega)
     obtain⟨t1,o1⟩:=Yve u (k:=m.toNat) G r (by omega) hz;refine Xy (v:=.slice (some ⟨b,0,none⟩) m.toNat c) (λo ho=>?_) Z (Y9.2 ⟨.BO b m.toNat c,by simp[BF.Bp],?_⟩) o1 t1
     ·have l:(Instr.sliceBound (.int .i64 m) c .sliceAcap).run P w=.ok m.toNat w:=by
       simp only[Instr.sliceBound,asIntOf,Cm,DD,Ch];rw[Bv ⟨i,by omega⟩];simp
      simp[execOp,ho,Instr.sliceAt,Instr.slice,W,O,Xa ht,Instr.sliceBounds,l,X3 g,Addr.add]
     ·simp[RO.slice]
   ·cases h
  ·cases h
def I.A2{P:BE}(f:ρ.gl=P.g)(e:SM w ρ sl a)(d:OM w ρ ob){j:Op}:∀{i:I},i.An P.p j=true->i.wp P sl ob K Pn->Dv P.p a w ρ j K Pn
|.c _,b,h=>Y12 e d b h
|.box _ _,b,h=>(Xrh e d b h).EY
|.alloc _ _,b,h=>(Xig d b h).EY
|.Gk _ _ _,b,h=>(wZ e d b h).EY d
|.Hw _ _ _ _,b,h=>(Xrf e d b h).EY
|.st _ _ _,b,h=>Yvg e d b h
|.Dl _ _ _ _ _,b,h=>Yky e d b h
|.Fq _ _ _ _,b,h=>Yam e d b h
|.call _ _,b,h=>Yan f e d b h
|.Bd _ _,b,h=>(Xif f e d b h).EY d
|.C6 _ _,b,h=>X5e f e d b h
|.panic _,b,h=>X5f e d b h
|.JJ _,b,h=>(wz e d b h).EY d
|.Fv _ _ _,b,h=>Yap e d b h
|.MU _,b,h=>Yla e d b h
|.KW _ _ _,b,h=>Yk5 e d b h
|.KY _ _ _ _ _,b,h=>Ylb e d b h
|.KZ _ _ _,b,h=>Ylc e d b h
|.KS _,b,h=>Yk2 e d b h
|.Fy _ _ _,b,h=>Yaq e d b h
|.IZ _,b,h=>Yk8 e d b h
|.LR _ _ _ _ _,b,h=>Yk7 e d b h
|.DP _ _ _ _,b,h=>Yao e d b h
|.MR _ _ _ _,b,h=>Yk3 f d b h
|.LZ _ _ _,b,h=>Ylf e d b h
|.IS _ _ _ _,b,h=>(Xrg e d b h).EY
|.HX _ _ _ _ _,b,h=>Ykz e d b h
|.gv _,b,_=>absurd b (by simp[I.An])
|.LP _ _ _,b,h=>Yk6 e d b h
|.JL _ _ _ _ _,b,h=>Yle e d b h
|.MQ _ _ _,b,h=>Yk1 e d b h
|.LF _ _ _,b,h=>Yk0 e d b h
|.KU _ _ _ _ _,b,h=>(wx f e d b h).EY d
|.LW _,b,h=>(Xri e d b h).EY
|.MV _,b,h=>Yld e d b h
|.LJ _,b,h=>(wu e d b h).EY d
|.FZ _,b,h=>(Xqm e d b h).EY d
|.JH _ _ _,b,h=>(wy e d b h).EY d
|.LN _ _ _ _ _ _,b,h=>Yk4 f e d b h
|.MT _ _ _ _ _,b,h=>Yk9 e d b h
|.Ma _ _ _,b,h=>Ylg e d b h
|.Ca _ _,b,h=>(Xih f e d b h).EY
def I.kind:I->Nat
|.c b=>if b.G6 then 5 else if b.JG then 1 else 0
|.Gk _ _ _|.JJ _|.Bd _ _|.KU _ _ _ _ _|.LJ _|.FZ _|.JH _ _ _=>2
|.box _ _|.alloc _ _|.Hw _ _ _ _|.IS _ _ _ _|.LW _|.Ca _ _=>4
|_=>3
def vA{P:BE}(j:ρ.gl=P.g)(f:SM w ρ sl a)(e:OM w ρ ob){k:Op}:∀{i:I},i.kind=2->i.An P.p k=true->i.wp P sl ob K Pn->S8 P.p a w ρ k ob K
|.Gk _ _ _,_,d,h=>(wZ f e d h).GA
|.KU _ _ _ _ _,_,d,h=>(wx j f e d h).GA
|.JJ _,_,d,h=>(wz f e d h).GA
|.Bd _ _,_,d,h=>Xif j f e d h
|.LJ _,_,d,h=>(wu f e d h).GA
|.FZ _,_,d,h=>(Xqm f e d h).GA
|.JH _ _ _,_,d,h=>(wy f e d h).GA
|.c l,b,_,_=>by grind[I.kind]
|.Ca _ _,b,_,_|.LW _,b,_,_|.MV _,b,_,_|.LN _ _ _ _ _ _,b,_,_|.MT _ _ _ _ _,b,_,_|.Ma _ _ _,b,_,_|.box _ _,b,_,_|.alloc _ _,b,_,_|.Hw _ _ _ _,b,_,_|.st _ _ _,b,_,_|.Dl _ _ _ _ _,b,_,_|.Fq _ _ _ _,b,_,_|.call _ _,b,_,_|.C6 _ _,b,_,_|.panic _,b,_,_|.Fv _ _ _,b,_,_|.MU _,b,_,_|.KW _ _ _,b,_,_|.KY _ _ _ _ _,b,_,_|.KZ _ _ _,b,_,_|.KS _,b,_,_|.Fy _ _ _,b,_,_|.IZ _,b,_,_|.LR _ _ _ _ _,b,_,_|.DP _ _ _ _,b,_,_|.MR _ _ _ _,b,_,_|.LZ _ _ _,b,_,_|.IS _ _ _ _,b,_,_|.HX _ _ _ _ _,b,_,_|.gv _,b,_,_|.LP _ _ _,b,_,_|.JL _ _ _ _ _,b,_,_|.MQ _ _ _,b,_,_|.LF _ _ _,b,_,_=>by simp[I.kind]at b
def vB{P:BE}(k:ρ.gl=P.g)(f:SM w ρ sl a)(e:OM w ρ ob){j:Op}:∀{i:I},i.kind=4->i.An P.p j=true->i.wp P sl ob K Pn->Ln P.p a w ρ j K
|.Ca _ _,_,d,h=>Xih k f e d h
|.box _ _,_,d,h=>Xrh f e d h
|.alloc _ _,_,d,h=>Xig e d h
|.Hw _ _ _ _,_,d,h=>Xrf f e d h
|.IS _ _ _ _,_,d,h=>Xrg f e d h
|.LW _,_,d,h=>Xri f e d h
|.c l,b,_,_=>by grind[I.kind]
|.MV _,b,_,_|.LJ _,b,_,_|.FZ _,b,_,_|.JH _ _ _,b,_,_|.LN _ _ _ _ _ _,b,_,_|.MT _ _ _ _ _,b,_,_|.Ma _ _ _,b,_,_|.Gk _ _ _,b,_,_|.JJ _,b,_,_|.Bd _ _,b,_,_|.st _ _ _,b,_,_|.Dl _ _ _ _ _,b,_,_|.Fq _ _ _ _,b,_,_|.call _ _,b,_,_|.C6 _ _,b,_,_|.panic _,b,_,_|.Fv _ _ _,b,_,_|.MU _,b,_,_|.KW _ _ _,b,_,_|.KY _ _ _ _ _,b,_,_|.KZ _ _ _,b,_,_|.KS _,b,_,_|.Fy _ _ _,b,_,_|.IZ _,b,_,_|.LR _ _ _ _ _,b,_,_|.DP _ _ _ _,b,_,_|.MR _ _ _ _,b,_,_|.LZ _ _ _,b,_,_|.HX _ _ _ _ _,b,_,_|.gv _,b,_,_|.LP _ _ _,b,_,_|.JL _ _ _ _ _,b,_,_|.MQ _ _ _,b,_,_|.LF _ _ _,b,_,_|.KU _ _ _ _ _,b,_,_=>by simp[I.kind]at b
end
section
variable {P:Program} {ops:Array Oper} {Q:Exit->Act->World->Prop} {md:Region.Mode} {R:Nat->World->World->Prop}
def Qh(P:Program)(md:Region.Mode)(ops:Array Oper)(Q:Exit->Act->World->Prop)(R:Nat->World->World->Prop):Nat->Array Bool->Act->World->Prop
|0,b,a,w=>Region.ready md ops b=[]/\Q .normal a w
|c+1,b,a,w=>
 (Region.ready md ops b=[]->Q .normal a w)/\
 ∀i∈Region.ready md ops b,Hs P ops Q i (λe d=>R i w d/\Qh P md ops Q R c (b.setIfInBounds i true) e d) a w
def ew:∀(b:Nat)(c:Array Bool)(a:Act)(w:World),Qh P md ops Q R b c a w->T4 P md ops Q b c a w
|0,_,_,_,h=>h
|b+1,_,_,_,h=>⟨h.1,λi f=>Q6 (λd g e=>ew b _ d g e.2) (h.2 i f)⟩
def eI:∀(n m:Nat)(b:Array Bool)(a:Act)(w:World),n<=m->T4 P md ops Q n b a w->T4 P md ops Q m b a w
|0,0,_,_,_,_,h=>h
|0,m+1,_,_,_,_,h=>⟨λ_=>h.2,λi c=>by rw[h.1]at c;cases c⟩
|n+1,0,_,_,_,d,_=>by omega
|n+1,m+1,_,_,_,d,h=>⟨h.1,λi c=>Q6 (λe g f=>eI n m _ e g (by omega) f) (h.2 i c)⟩
def N1(md:Region.Mode)(ops:Array Oper)(a:Array Bool):Prop:=
 ∀k o,ops[k]? = some o->a.getD k false=true->∀e∈o.after,Region.binds md e=true->a.getD e.on false=true
theorem N1.step{a:Array Bool}(h:N1 md ops a){j:Nat}(i:j∈Region.ready md ops a):N1 md ops (a.setIfInBounds j true):=by
 obtain⟨_,n,m,c⟩:=mem_ready.1 i;intro k o l d e g f;by_cases b:j=k
 ·grind[getD_set_true]
 ·rw[getD_set_ne false b]at d;exact getD_set_true (h k o l d e g f)
def Ga(md:Region.Mode)(ops:Array Oper)(i:Nat):Nat->Nat->Bool
|0,_=>false
|a+1,j=>match ops[j]? with
 |some o=>o.after.any λe=>Region.binds md e&&(e.on==i||Ga md ops i a e.on)
 |none=>false
theorem Xgf{a:Array Bool}(f:N1 md ops a){i:Nat}:∀(b k:Nat),Ga md ops i b k=true->a.getD k false=true->a.getD i false=true
|0,k,h,_=>by simp[Ga]at h
|b+1,k,h,j=>by
 simp only[Ga]at h;split at h
 ·rename_i o l;rw[Array.any_eq_true']at h;obtain⟨e,g,h⟩:=h;simp at h;have d:=f k o l j e g h.1;rcases h.2 with c|c
  ·rw[<-c];exact d
  ·exact Xgf f b e.on c d
 ·simp at h
theorem Xdv{a:Array Bool}(e:N1 md ops a){i j b:Nat}(f:a.getD i true=false)(h:Ga md ops i b j=true):j∉Region.ready md ops a:=by
 intro d;obtain⟨_,o,g,c⟩:=mem_ready.1 d;cases b<;>grind[Ga,Xgf]
def X7a{S b:World->Prop}{o:Oper}{v:Value}{a:Act}(h:YieldsIf P ops S o v a)(e:∀w,b w->S w):YieldsIf P ops b o v a:=
 h.imp (λ⟨c,d⟩=>⟨c,λw f=>d w (e w f)⟩) id
def Qi{S:World->World->Prop}(T:∀w,S w w)(J:∀u v w,S u v->S v w->S u w){l:Bool}{i:Nat}{t:Oper}{v:Value}(hi:ops[i]? = some t)(q:∀(j:Nat)(o:Oper) y b,ops[j]? = some o->o.op≠.select y b)
 (hQ:∀c a w,Q (.panic c) (a.put t.dst v) w->Q (.panic c) a w) (hl:l=true->∀j,j<ops.size->j≠i->(∃f,Ga md ops i f j=true)\/∀u v,R j u v->S u v) (U:∀w,R i w w):
 ∀(f:Nat)(d:Array Bool)(a:Act)(w:World),N1 md ops d->
  (∀j x,ops[j]? = some x->j≠i->d.getD j true=false->(∀e∈x.after,Region.binds md e=true->e.on≠i)->t.apart ops x=true)->
  i∈Region.ready md ops d->YieldsIf P ops (λW=>l=true->S w W) t v a->
  Qh P md ops Q R f (d.setIfInBounds i true) (a.put t.dst v) w->Qh P md ops Q R (f+1) d a w:=by
 intro f;induction f with
 |zero=>
  intro d a w _ _ s hy H;refine⟨λh=>(by rw[h]at s;cases s),λj z=>?_⟩;by_cases m:j=i
  ·grind[Xtt]
  ·have:=ready_mono z m;rw[H.1]at this;cases this
 |succ f ih=>
  intro d a w K g s hy H;refine⟨λh=>(by rw[h]at s;cases s),λj z=>?_⟩;by_cases m:j=i
  ·grind[Xtt]
  ·have h1:=H.2 j (ready_mono z m);obtain⟨p,x,r,Y⟩:=mem_ready.1 z;have Z:=(mem_ready.1 s).1;have F:∀e∈x.after,Region.binds md e=true->e.on≠i:=λe he hb aa=>by
    grind
   have h2:=X0z r (g j x r m p F) (λy b=>q i t y b hi) (λy b=>q j x y b r) hQ hy h1;have n:∀k G,ops[k]? = some G->k≠i->(d.setIfInBounds j true).getD k true=false->
    (∀e∈G.after,Region.binds md e=true->e.on≠i)->t.apart ops G=true:=λk G hk N ab O=>by
    refine g k G hk N ?_ O;by_cases L:j=k
    ·subst L;exact p
    simp_all
   refine Q6 (λa' W X=>⟨X.2.1,ih (d.setIfInBounds j true) a' W (K.step z) n (ready_mono s (Ne.symm m)) (X7a X.1 λac h4 h5=>?_) ?_⟩) h2
   ·grind[Xdv]
   grind[Array.setIfInBounds_comm]
end
end Go.Ab
