/- Joined texts, part 7 of 19. The state of rules.addable's loop, and what its calls do to it. Condition: the program is the seat's. -/
import Derived.Test.YtfedhegpmfkfoaaGreatDoorG4
import Derived.Test.YtfedhegpmfkfoaaGreatDoorG5
import Derived.Test.YtfedhegpmfkfoaaGreatDoorG6
import Derived.Test.YtfedhegpmfkfoaaGreatDoorProg
import Derived.KernelRfl
set_option maxRecDepth 100000
set_option linter.unusedSimpArgs false
set_option linter.unusedVariables false
set_option linter.unusedSectionVars false
set_option linter.defProp false
namespace Go.Ab
open Go Go.Proofs
section
variable {P:Az} (hP:P.p=Tryz.prog)
include hP
theorem Xmh:Xd P.p 35=true:=by rw[hP];kernel_rfl
theorem Yi4:Xd P.p 67=true:=by rw[hP];kernel_rfl
abbrev MC (c:D)(o1 o0:Ob):AB:=[(2,.box 94 (.d (.fn 35 [c] []))),(1,o1),(0,o0)]
theorem Yr4 {y:Ah}{x:AR}(f:x.CW.length<=9223372036854775807){c b:Ob}{K:A7->AB->Prop}(h:K (.ret (.d (.bool (!Yl y x)))) (MC (.agg [y.enc]) c b)):AV P 67 [.d x.enc,.ptr 2 []] (MC (.agg [y.enc]) c b) K:=by
 refine Aq hP AO Zob Zkh BD.nil λ_ e=>?_;simp[Zhm,Xmh hP];have a:=e [];simp[fresh]at a;refine⟨⟨by rw[CC];rfl,rfl⟩,AU.Bm (Xps hP f ?_)⟩;simp;refine⟨[],by simp,?_,?_⟩
 ·simp[AE];simpa[AE]using a
 ·simpa[AE]using h
theorem Yrz {y:Ah}{l:List AR}(p:l.length<=9223372036854775807)(r:∀x∈l,x.CW.length<=9223372036854775807){g f:Ob}{K:A7->AB->Prop}(h:K (.ret (.d (.int .i64 (Q8 (λx=>!Yl y x) l 0)))) (MC (.agg [y.enc]) g f)):AV P 125 [.d (.AF 3 (l.map AR.enc)),.fn 67 [] [.ptr 2 []]] (MC (.agg [y.enc]) g f) K:=by
 have w:∀{k n:Nat},k<n->n<=9223372036854775807->IntKind.i64.wrap ((k:Int)+1)=(k:Int)+1:=λj m=>IntWalk.i64_in _ (by omega);refine Aq hP AO Yy4 Yux BD.nil λ_ q=>?_;have b:=q [];simp[fresh]at b;have o:∀{v:V},BO (AE 3 []) [v]=false->K (.ret v) (MC (.agg [y.enc]) g f)->X0 3 (K (.ret v)) [v] (MC (.agg [y.enc]) g f):=λj m=>⟨[],j,by simpa[AE]using b,by simpa[AE]using m⟩;simp[Yqx];refine Ae.go (ι:=Nat) (λk=>[(0,.d (.AF 3 (l.map AR.enc))),(1,.fn 67 [] [.ptr 2 []]),(7,.d (.int .i64 l.length)),(8,.d (.int .i64 k))]) (λ_=>MC (.agg [y.enc]) g f) (λk=>k<=l.length/\Q8 (λx=>!Yl y x) l 0=Q8 (λx=>!Yl y x) (l.drop k) k) (λk=>l.length-k) 0 ⟨DM _,rfl⟩ (by simp) (by simp) ?_;rintro k ⟨z,c⟩ R t s u F;by_cases a:k<l.length
 ·rw[Db a]at c;simp[UL,a,Yi4 hP];refine⟨⟨rfl,rfl⟩,Yr4 hP (r _ (CS a)) ?_⟩;cases e:Yl y l[k]with
  |false=>
   simp[UN];refine u _ _ ?_;simp;have i:=h;rw[c,Q8,BL (by simp[e])]at i;exact o (by simp) i
  |true=>
   rw[Q8,Af (by simp[e])]at c;simp[UN,yB];refine t [] (k+1) _ _ ⟨by omega,c⟩ (by omega) (by simp[w a p]) (by simp[AE]) (by simp[AE]) (by simpa[AE]using b)
 ·have:k=l.length:=by omega
  subst this;simp[UL];refine s _ _ _ ?_;simp;rw[c,List.drop_length,Q8]at h;exact o (by simp) h
theorem Yru {y:Ah}{l:List AR}(e:l.length<=9223372036854775807)(g:∀x∈l,x.CW.length<=9223372036854775807){c b:Ob}{K:A7->AB->Prop}(h:K (.ret (.d (.bool (l.any λx=>!Yl y x)))) (MC (.agg [y.enc]) c b)):AV P 53 [.d (.AF 3 (l.map AR.enc)),.fn 67 [] [.ptr 2 []]] (MC (.agg [y.enc]) c b) K:=by
 refine Aq hP AO Zf2 Zc3 BD.nil λ_ f=>?_;have a:=f [];simp[fresh]at a;simp[Zbk];refine Yrz hP e g ?_;simp;rw[Q9];exact⟨[],by simp,by simpa[AE]using a,by simpa[AE]using h⟩
theorem Yrn {y:Ah}{l:List AR}(f:l.length<=9223372036854775807)(i:∀x∈l,x.CW.length<=9223372036854775807){c b:Ob}{K:A7->AB->Prop}(h:K (.ret (.d (.bool (l.all (Yl y))))) [(1,c),(0,b)]):AV P 34 [.d (.AF 3 (l.map AR.enc)),.d (.fn 35 [.agg [y.enc]] [])] [(1,c),(0,b)] K:=by
 refine Aq hP AO Znk Zjq BD.nil λ_ g=>?_;have a:=g [];simp[fresh]at a;simp[Zg3];refine Yru hP f i ?_;have e:(!(l.any λx=>!Yl y x))=l.all (Yl y):=by simp[List.all_eq_not_any_not]
 simp;refine⟨[],by simp,by simpa[AE]using a,?_⟩;simpa[AE,e]using h
end
def Hu (a:Int)(x:A4):Bool:=!(decide (a=2)||decide (a=3))||decide (x.kind=1)||decide (x.kind=2)
def I7 (y:Ah)(r:Ai)(t:BG):Bool:=(Jm y r r.AW.length t).isSome||OG t
def FD (y:Ah)(r:Ai)(l:List BG):List A4:=l.filterMap (Jm y r r.AW.length)
def U4 (y:Ah)(r:Ai)(a:BB):Bool:=
 decide (1<=a.op)&&decide (a.op<=4)&&I7 y r a.a&&I7 y r a.b&&
 (match FD y r [a.a,a.b]with|[]=>false |[x,z]=>RA y x z|_=>true)&&(FD y r [a.a,a.b]).all (Hu a.op)
theorem X8l {y:Ah}{r:Ai}{n:Int}{t:BG}{x:A4}(h:Jm y r n t=some x):∃s∈y.AD,∃f∈s.AL,f.type=x:=by
 unfold Jm at h;split at h
 ·cases h
 ·simp only[H7,D9]at h;obtain⟨f,_,g,a,rfl⟩:=h;unfold Ua at a;split at a
  ·cases a
  ·simp only[H7]at a;obtain⟨s,c,b⟩:=a;exact⟨s,List.mem_of_getElem? c,g,List.mem_of_getElem? b,rfl⟩
theorem uq {y:Ah}(d:y.AD.all (X2 y)=true){s:AI}(h:s∈y.AD){f:Ad}(c:f∈s.AL):Ir y.Au.length f.type=true:=by
 have a:=DQ.1 d s h;unfold X2 at a;simp only[As]at a;have b:=DQ.1 a.2 f c;unfold U6 at b;simp only[As]at b;exact b.1.1.1.1
theorem Xwk {y:Ah}{r:Ai}{l:List BG}{x:A4}(h:x∈FD y r l):∃s∈y.AD,∃f∈s.AL,f.type=x:=by
 unfold FD at h;rw[List.mem_filterMap]at h;obtain⟨t,_,h⟩:=h;exact X8l h
section
variable {P:Az} (hP:P.p=Tryz.prog)
include hP
theorem X9w {y:Ah}(hy:y.BC)(hs:y.AD.all (X2 y)=true){r:Ai}(hr:r.AW.length<=9223372036854775807){a:BB}{ob:AB}{K:V->Prop}(h:K (.d (.bool (U4 y r a)))):AU P 56 [.d (DD y r),.d a.enc] ob K:=by
 refine AJ hP AO (ds:=[DD y r,a.enc]) Zn0 Zj6 BD.nil ?_;have o:y.enc.sz=6:=rfl;have Y:y.enc.shape.size=6:=by rw[CC];rfl
 have f:U4 y r a=false->K (.d (.bool false)):=λe=>by rw[e]at h;exact h
 have X:∀t:BG,t.enc=.agg [.AM t.name,.AM t.path,iD t.var,iD t.field,iD t.n]:=λ_=>rfl;have ae:a.enc=.agg [iD a.op,a.a.enc,a.b.enc]:=rfl;by_cases a1:a.op<1
 ·simp[iz,DD,Ai.enc,ae,X,o,Y,a1];exact f (by simp[U4];omega)
 by_cases a2:4<a.op
 ·simp[iz,DD,Ai.enc,ae,X,o,Y,a1,a2];exact f (by simp[U4];omega)
 simp[iz,DD,Ai.enc,ae,X,o,Y,a1,a2];let c:=[a.a,a.b]
 let O:Nat->AB:=λk=>[(2,.A9 129 6 ((FD y r (c.take k)).map A4.enc)),(1,.box 124 (.d (.agg [iD a.op,.agg [.AM a.a.name,.AM a.a.path,iD a.a.var,iD a.a.field,iD a.a.n],.agg [.AM a.b.name,.AM a.b.path,iD a.b.var,iD a.b.field,iD a.b.n]]))),(0,.box 84 (.d (.agg [.agg [y.enc],.agg [.AM r.head,iD r.AP,.AF 8 (r.AW.map Am.enc),.AF 11 (r.Ak.map BB.enc),.AF 7 (r.BK.map Ba.enc)]])))];refine Ae.upto 2 (λk=>[(2,.ptr 0 []),(3,.ptr 1 []),(5,.sl 2 (FD y r (c.take k)).length),(25,.d (.AF 5 (c.map BG.enc))),(26,.d (.int .i64 2)),(27,.d (.int .i64 k))]) O
  (λk=>(c.take k).all (I7 y r)=true) (by simp) ?_ ?_ ?_ ?_
 ·simp[FD,c,X]
 ·simp[O,FD]
 ·intro k hk Z R G s m W;have u:IntKind.i64.wrap ((k:Int)+1)=(k:Int)+1:=IntWalk.i64_in _ (by omega);have w:k<c.length:=hk;have ac:(k:Int)<2:=by omega
  have F:=Wg (p:=I7 y r) w;rw[Z,EA]at F;have tk:=X c[k];have U:FD y r (c.take (k+1))=FD y r (c.take k)++(Jm y r r.AW.length c[k]).toList:=by
   unfold FD;rw[Ca w,List.filterMap_append];cases e:Jm y r r.AW.length c[k]<;>simp[e]
  have aa:I7 y r c[k]=false->K (.d (.bool false)):=by
   intro e;refine f ?_;have:I7 y r a.a=false\/I7 y r a.b=false:=by
    rcases (by omega:k=0\/k=1) with rfl|rfl
    ·exact .inl e
    ·exact .inr e
   rcases this with e|e<;>simp[U4,e]
  simp[Xzj,w,hk,O,o,Y,tk,ac];refine dS (y:=y) (r:=r) hP (n:=r.AW.length) (by omega) (t:=c[k]) (λe=>?_) (λx e hx=>?_)
  ·simp[Ln];refine rE hP (t:=c[k]) ?_;cases hn:OG c[k]with
   |false=>
    simp;refine m _ _ ?_;simp;exact aa (by simp[I7,e,hn])
   |true=>
    simp[Xzk];have i:FD y r (c.take (k+1))=FD y r (c.take k):=by rw[U,e];simp
    refine G [] _ _ (by rw[F];simp[I7,hn]) (by simp[u,i]) (by simp[AE,O,i]) (by simp[AE,O,fresh]) (by simp[AE,O,fresh])
  ·have af:x.enc.shape=.node [.AX,.AX,.AX,.AX,.AX,.AX]:=rfl;have ag:(match V.d x.enc with|V.d (D.agg xs)=>true|V.agg xs=>true|x=>false)=true:=rfl;have i:FD y r (c.take (k+1))=FD y r (c.take k)++[x]:=by rw[U,e];simp
   simp[af,Xzk];have q:(FD y r (c.take k)).length<=2:=by
    have g:=List.length_filterMap_le (Jm y r r.AW.length) (c.take k);have J:(c.take k).length<=2:=by simp[c];omega
    unfold FD;omega
   refine⟨ag,by omega,G [] _ _ (by rw[F];simp[I7,e]) (by simp[u,i]) (by simp[AE,O,i]) (by simp[AE,O,fresh]) (by simp[AE,O,fresh])⟩
 ·intro Z R s m W;have t2:c.take 2=c:=rfl;rw[t2]at Z;have hA:U4 y r a=((match FD y r c with|[]=>false |[x,z]=>RA y x z|_=>true)&&(FD y r c).all (Hu a.op)):=by
   have c1:1<=a.op:=by omega
   have c2:a.op<=4:=by omega
   have c3:I7 y r a.a=true/\I7 y r a.b=true:=by simpa[c]using Z
   simp[U4,c1,c2,c3,c]
  rw[hA]at h f;have q:(FD y r c).length<=2:=List.length_filterMap_le (Jm y r r.AW.length) c;simp[Xzj,O,t2];refine s _ _ _ ?_
  match M:FD y r c,q with
  |[],_=>
   simp
   first|exact⟨⟨_,_,_,⟨rfl,rfl,rfl⟩,rfl⟩,f (by simp[M])⟩|exact f (by simp[M])
  |[x],_=>
   simp
   try refine⟨⟨_,_,_,⟨rfl,rfl,rfl⟩,rfl⟩,?_⟩
   rw[M]at h f;simp only[EA]at h f;have H:x.enc=.agg [iD x.kind,iD x.lo,iD x.hi,.AM x.CF,iD x.unit,Xg x.names]:=rfl;refine Ae.upto 1 (λj=>[(3,.ptr 1 []),(74,.sl 2 1),(75,.d (.int .i64 1)),(76,.d (.int .i64 j))]) (λ_=>[(2,.A9 129 6 [x.enc]),(1,.box 124 (.d (.agg [iD a.op,.agg [.AM a.a.name,.AM a.a.path,iD a.a.var,iD a.a.field,iD a.a.n],.agg [.AM a.b.name,.AM a.b.path,iD a.b.var,iD a.b.field,iD a.b.n]]))),(0,.box 84 (.d (.agg [.agg [y.enc],.agg [.AM r.head,iD r.AP,.AF 8 (r.AW.map Am.enc),.AF 11 (r.Ak.map BB.enc),.AF 7 (r.BK.map Ba.enc)]])))])
    (λj=>j=0\/Hu a.op x=true) (by simp) (by simp) (by simp) ?_ ?_
   ·intro j hj _ R G s m W;obtain rfl:j=0:=by omega
    have u:IntKind.i64.wrap 1=1:=IntWalk.i64_in _ (by omega);simp[R1,H,Xg];refine⟨λg J N=>?_,λg=>?_⟩
    ·refine m _ _ ?_;simp;exact f (by rcases g with g|g<;>simp[Hu,g,J,N])
    ·refine G [] _ _ (.inr (by simp[Hu];grind)) (by simp[u]) (by simp[AE,H,Xg]) (by simp[AE]) (by simp[AE])
   ·intro L R s m W;have ho:Hu a.op x=true:=L.resolve_left (by omega);simp[R1];refine s _ _ _ ?_;simp[ho]at h⊢;exact h
  |[x,z],_=>
   have hx:=Xwk (y:=y) (r:=r) (l:=c) (x:=x) (by rw[M];simp);have hz:=Xwk (y:=y) (r:=r) (l:=c) (x:=z) (by rw[M];simp);obtain⟨sx,T,fx,Q,ex⟩:=hx;obtain⟨sz,ad,fz,ab,ez⟩:=hz;have tx:=uq hs T Q;have tz:=uq hs ad ab;have nx:=(hy.AP sx T).names fx Q;rw[ex]at tx nx;rw[ez]at tz;have zz:∀x:A4,x.enc.shape.size=6:=λx=>by rw[CC];rfl
   have zg:∀x:A4,x.enc.isAgg=true:=λ_=>rfl;rw[M]at h f;simp[zz,Y];have v:∃E ah xs,(129=E/\6=ah/\[x.enc,z.enc]=xs)/\2=xs.length:=⟨_,_,_,⟨rfl,rfl,rfl⟩,rfl⟩
   repeat' first|with_reducible apply And.intro|exact rfl|exact v
   refine Xmb hP x z nx tx tz ?_;have H:∀x:A4,x.enc=.agg [iD x.kind,iD x.lo,iD x.hi,.AM x.CF,iD x.unit,Xg x.names]:=λ_=>rfl;cases hc:RA y x z with
   |false=>
    simp
    first|exact⟨v,f (by simp[hc])⟩|exact f (by simp[hc])
   |true=>
    simp
    try refine⟨v,?_⟩
    simp only[hc,EA]at h f;refine Ae.upto 2 (λj=>[(3,.ptr 1 []),(74,.sl 2 2),(75,.d (.int .i64 2)),(76,.d (.int .i64 j))]) (λ_=>[(2,.A9 129 6 [x.enc,z.enc]),(1,.box 124 (.d (.agg [iD a.op,.agg [.AM a.a.name,.AM a.a.path,iD a.a.var,iD a.a.field,iD a.a.n],.agg [.AM a.b.name,.AM a.b.path,iD a.b.var,iD a.b.field,iD a.b.n]]))),(0,.box 84 (.d (.agg [.agg [y.enc],.agg [.AM r.head,iD r.AP,.AF 8 (r.AW.map Am.enc),.AF 11 (r.Ak.map BB.enc),.AF 7 (r.BK.map Ba.enc)]])))])
     (λj=>(j=0\/Hu a.op x=true)/\(j<=1\/Hu a.op z=true)) (by simp) (by simp) (by simp) ?_ ?_
    ·intro j hj L R G s m W;rcases (by omega:j=0\/j=1) with rfl|rfl
     ·have u:IntKind.i64.wrap 1=1:=IntWalk.i64_in _ (by omega);simp[R1,H,Xg];refine⟨λg J N=>?_,λg=>?_⟩
      ·refine m _ _ ?_;simp;exact f (by rcases g with g|g<;>simp[Hu,g,J,N])
      ·refine G [] _ _ ⟨.inr (by simp[Hu];grind),.inl (by omega)⟩ (by simp[u]) (by simp[AE,H,Xg]) (by simp[AE]) (by simp[AE])
     ·have u:IntKind.i64.wrap 2=2:=IntWalk.i64_in _ (by omega);simp[R1,H,Xg];refine⟨λg J N=>?_,λg=>?_⟩
      ·refine m _ _ ?_;simp;exact f (by rcases g with g|g<;>simp[Hu,g,J,N])
      ·refine G [] _ _ ⟨.inr (L.1.resolve_left (by omega)),.inr (by simp[Hu];grind)⟩ (by simp[u]) (by simp[AE,H,Xg]) (by simp[AE]) (by simp[AE])
    ·intro L R s m W;have o1:Hu a.op x=true:=L.1.resolve_left (by omega);have o2:Hu a.op z=true:=L.2.resolve_left (by omega);simp[R1];refine s _ _ _ ?_;simp[o1,o2]at h⊢;exact h
end
def Kw (y:Ah)(r:Ai)(s:Ba):Bool:=match Ua y r.AP s.field with
|none=>false
|some f=>decide (s.field≠0)&&Jw y r f.type s.Ce
def Rc (y:Ah)(s:Int):Option Int:=if s<0 then none else (y.AD[s.toNat]?).map λc=>(c.AL.length:Int)-1
def Vp (y:Ah)(r:Ai):Bool:=
 MY y r&&decide (r.Ak.length<=8)&&r.Ak.all (U4 y r)&&decide (Rc y r.AP=some r.BK.length)&&r.BK.all (Kw y r)&&decide (r.BK.map Ba.field).Nodup
section
variable {P:Az} (hP:P.p=Tryz.prog)
include hP
theorem X94 {y:Ah}(hy:y.BC)(hs:y.AD.all (X2 y)=true){r:Ai}(hr:r.BC){ob:AB}{K:V->Prop}(h:K (.d (.bool (Vp y r)))):AU P 28 [.d (DD y r)] ob K:=by
 refine AJ hP AO (ds:=[DD y r]) Zne Zjk BD.nil ?_;have v:y.enc.sz=6:=rfl;have yz:y.enc.shape.size=6:=by rw[CC];rfl
 have g:Vp y r=false->K (.d (.bool false)):=λe=>by rw[e]at h;exact h
 have te:∀t:BG,t.enc=.agg [.AM t.name,.AM t.path,iD t.var,iD t.field,iD t.n]:=λ_=>rfl;have ae:∀a:BB,a.enc=.agg [iD a.op,a.a.enc,a.b.enc]:=λ_=>rfl;have H:(DD y r).shape.size=11:=by rw[CC];rfl
 simp[Zgz,H];refine⟨rfl,X0i hP ?_⟩;cases hf:MY y r with
 |false=>
  simp;exact g (by simp[Vp,hf])
 |true=>
  by_cases a1:(8:Int)<r.Ak.length
  ·simp[DD,Ai.enc,a1,v,yz];exact g (by simp[Vp,show ¬r.Ak.length<=8 by omega])
  simp[DD,Ai.enc,a1,v,yz];have Y:r.Ak.length<=8:=by omega
  refine Ae.upto r.Ak.length (λk=>[(1,.ptr 0 []),(23,.d (.AF 11 (r.Ak.map BB.enc))),(24,.d (.int .i64 r.Ak.length)),(25,.d (.int .i64 k))])
   (λ_=>[(0,.box 84 (.d (DD y r)))]) (λk=>(r.Ak.take k).all (U4 y r)=true) (by simp) (by simp) (by simp[DD,Ai.enc]) ?_ ?_
  ·intro k q M R rn J u rp;have wr:IntKind.i64.wrap ((k:Int)+1)=(k:Int)+1:=IntWalk.i64_in _ (by omega);have l:=Wg (p:=U4 y r) q;rw[M,EA]at l;have ak:=ae r.Ak[k];simp[Xy4,q,H];have w:∀a:BB,a.enc.shape.size=11:=λa=>by rw[CC];rfl
   refine⟨⟨rfl,rfl⟩,rfl,⟨w _,rfl⟩,rfl,⟨w _,rfl⟩,rfl,X9w hP hy hs hr.AW ?_⟩;cases ha:U4 y r r.Ak[k]with
   |false=>
    simp;refine u _ _ ?_;simp;refine g ?_;have:r.Ak.all (U4 y r)=false:=List.all_eq_false.2 ⟨_,CS q,by simp[ha]⟩;simp[Vp,this]
   |true=>
    simp;refine rn [] _ _ (by rw[l,ha]) (by simp[wr]) (by simp[AE,DD,Ai.enc]) (by simp[AE]) (by simp[AE])
  ·intro M R J u rp;rw[C0]at M;simp[Xy4];refine J _ _ _ ?_;have se:∀c:AI,c.enc=.agg [.AM c.name,.AM c.FJ,iD c.Bz,iD c.BT,.AF 11 (c.AL.map Ad.enc),.AF 4 (c.Aj.map Ax.enc)]:=λ_=>rfl;have yI:y.enc=.agg [Xg y.Al,.AF 5 (y.Au.map At.enc),.AF 6 (y.AD.map AI.enc),.AF 5 (y.AK.map Ai.enc),.AF 5 (y.AQ.map Ag.enc),.AF 3 (y.AN.map AR.enc)]:=rfl;by_cases L:r.AP<0
   ·simp[DD,Ai.enc,yI,Xg,L];exact g (by simp[Vp,Rc,L])
   by_cases b2:(y.AD.length:Int)<=r.AP
   ·simp[DD,Ai.enc,yI,Xg,L,b2];exact g (by simp[Vp,Rc,L,show y.AD[r.AP.toNat]? = none from O2 (by omega)])
   obtain⟨i,m⟩:∃i:Nat,r.AP=i:=⟨r.AP.toNat,by omega⟩
   have O:i<y.AD.length:=by omega
   have sk:=se y.AD[i];have b3:¬(i:Int)<0:=by omega
   have b4:¬(y.AD.length:Int)<=i:=by omega
   have W:Rc y r.AP=some ((y.AD[i].AL.length:Int)-1):=by simp[Rc,m,b3,Cn O]
   simp[DD,Ai.enc,yI,Xg,m,O,sk,b3,b4];have ab:y.AD[i].AL.length<=12:=by
    have U:=DQ.1 hs _ (CS O);unfold X2 at U;simp only[As,Bs]at U;exact U.1.1.2
   have wf:IntKind.i64.wrap ((y.AD[i].AL.length:Int)-1)=(y.AD[i].AL.length:Int)-1:=IntWalk.i64_in _ (by omega);rw[wf];refine⟨λhn=>g (by simp[Vp,W];omega),λhn=>?_⟩;have hB:Vp y r=(r.BK.all (Kw y r)&&decide (r.BK.map Ba.field).Nodup):=by
    rw[<-hn]at W;simp[Vp,hf,Y,M,W]
   rw[hB]at h g;have Z:D.agg [.agg [.agg [.AF 1 (y.Al.map .AM),.AF 5 (y.Au.map At.enc),.AF 6 (y.AD.map AI.enc),.AF 5 (y.AK.map Ai.enc),.AF 5 (y.AQ.map Ag.enc),.AF 3 (y.AN.map AR.enc)]],.agg [.AM r.head,iD i,.AF 8 (r.AW.map Am.enc),.AF 11 (r.Ak.map BB.enc),.AF 7 (r.BK.map Ba.enc)]]=DD y r:=by rw[<-m];rfl
   rw[Z];have ze:∀z:Ba,z.enc=.agg [.AM z.path,iD z.field,.agg [.AM z.Ce.name,.AM z.Ce.path,iD z.Ce.var,iD z.Ce.field,iD z.Ce.n]]:=λ_=>rfl;have ad:r.BK.length<=11:=by omega
   refine Ae.upto r.BK.length (λk=>[(1,.ptr 0 []),(5,.d (iD i)),(6,.sl 1 k),(67,.d (.AF 7 (r.BK.map Ba.enc))),(68,.d (.int .i64 r.BK.length)),(69,.d (.int .i64 k))])
    (λk=>[(1,.A9 3 1 ((r.BK.take k).map λs=>iD s.field)),(0,.box 84 (.d (DD y r)))]) (λk=>(r.BK.take k).all (Kw y r)=true) (by simp) (by simp) (by simp) ?_ ?_
   ·intro k q N R rn J u rp;have wr:IntKind.i64.wrap ((k:Int)+1)=(k:Int)+1:=IntWalk.i64_in _ (by omega);have l:=Wg (p:=Kw y r) q;rw[N,EA]at l;have zk:=ze r.BK[k];have o:Kw y r r.BK[k]=false->K (.d (.bool false)):=λe=>g (by
     have:r.BK.all (Kw y r)=false:=List.all_eq_false.2 ⟨_,CS q,by simp[e]⟩;simp[this])
    simp[Xy3,q,zk,DD,Ai.enc,v,yz];generalize hz:r.BK[k]=z at l o;refine UT hP (λX=>?_) (λG ac j hj es ef=>?_)
    ·have T:=Us (y:=y) (s:=i) (f:=z.field) X;simp[Ln];refine u _ _ ?_;simp;exact o (by simp[Kw,m,T])
    ·obtain rfl:G=i:=by omega
     have T:=T2 O hj;have xs:∀x:A4,x.enc.shape.size=6:=λx=>by rw[CC];rfl
     have xh:∀x:A4,x.enc.shape=.node [.AX,.AX,.AX,.AX,.AX,.AX]:=λ_=>rfl;have xm:(match V.d y.AD[G].AL[j].type.enc with|V.d (D.agg xs)=>true|V.agg xs=>true|x=>false)=true:=rfl;by_cases Q:z.field=0
     ·simp[xh,Q];refine u _ _ ?_;simp;exact o (by unfold Kw;split<;>simp[Q])
     ·have aa:(z.field==0)=false:=by simpa using Q
      have kl:min k r.BK.length=k:=by omega
      simp[xh,aa,kl];refine⟨rfl,?_⟩;refine Yiw hP hr.AW hy (r:=r) (x:=y.AD[G].AL[j].type) (t:=z.Ce) ?_;have eB:Kw y r z=Jw y r y.AD[G].AL[j].type z.Ce:=by
       have:j≠0:=λh=>Q (by omega);simp[Kw,m,ef,T,this]
      cases F:Jw y r y.AD[G].AL[j].type z.Ce with
      |false=>
       simp;refine u _ _ ?_;simp;exact o (by rw[eB,F])
      |true=>
       simp;refine⟨by omega,rn [] _ _ (by rw[l,eB,F]) (by simp[wr]) ?_ (by simp[AE]) (by simp[AE])⟩;rw[Ca q,hz];simp[AE,DD,Ai.enc]
   ·intro N R J u rp;rw[C0]at N;simp[Xy3];refine J _ _ _ ?_;simp;refine Ov (n:=5) (ds:=[X9 (r.BK.map Ba.field)]) (by simp[X9]) (Yik hP (by simp;omega) ?_);simp[N]at h⊢;exact h
end
section
variable {P:Az} (hP:P.p=Tryz.prog)
include hP
theorem Ysm:Xd P.p 27=true:=by rw[hP];kernel_rfl
theorem Yi5:Xd P.p 66=true:=by rw[hP];kernel_rfl
abbrev YS (y:Ah):Ob:=.box 82 (.d (.agg [y.enc]))
abbrev MD (y:Ah)(o0:Ob):AB:=[(2,.box 85 (.fn 27 [] [.ptr 1 []])),(1,YS y),(0,o0)]
theorem Y13 {y:Ah}(k:y.BC)(j:y.AD.all (X2 y)=true){r:Ai}(i:r.BC){b:AB}(f:AA b 1=some (YS y)){K:A7->AB->Prop}(h:K (.ret (.d (.bool (Vp y r)))) b):AV P 27 [.d r.enc,.ptr 1 []] b K:=by
 refine Aq hP AO Znd Zjj BD.nil λ_ g=>?_;have c:r.enc.shape.size=5:=by rw[CC];rfl
 have e:y.enc.shape.size=6:=by rw[CC];rfl
 have a:=g [];simp[Zgy,f];refine⟨⟨c,rfl⟩,e,⟨c,rfl⟩,e,rfl,rfl,X94 hP k j i ?_⟩;simp;refine⟨[],by simp,?_,?_⟩
 ·simpa[AE]using a
 ·simpa[AE]using h
theorem Yr5 {y:Ah}(g:y.BC)(a:y.AD.all (X2 y)=true){x:Ai}(f:x.BC){c:Ob}{K:A7->AB->Prop}(h:K (.ret (.d (.bool (!Vp y x)))) (MD y c)):AV P 66 [.d x.enc,.ptr 2 []] (MD y c) K:=by
 refine Aq hP AO Zoa Zkg BD.nil λ_ e=>?_;simp[Zhl,Ysm hP];have b:=e [];simp[fresh]at b;refine⟨⟨by rw[CC];rfl,rfl⟩,Y13 hP g a f (by simp) ?_⟩;simp;refine⟨[],by simp,?_,?_⟩
 ·simp[AE];simpa[AE]using b
 ·simpa[AE]using h
theorem Yr0 {y:Ah}(s:y.BC)(g:y.AD.all (X2 y)=true){l:List Ai}(p:l.length<=9223372036854775807)(r:∀x∈l,x.BC){f:Ob}{K:A7->AB->Prop}(h:K (.ret (.d (.int .i64 (Q8 (λx=>!Vp y x) l 0)))) (MD y f)):AV P 131 [.d (.AF 5 (l.map Ai.enc)),.fn 66 [] [.ptr 2 []]] (MD y f) K:=by
 have z:∀{k n:Nat},k<n->n<=9223372036854775807->IntKind.i64.wrap ((k:Int)+1)=(k:Int)+1:=λj m=>IntWalk.i64_in _ (by omega);refine Aq hP AO Y9r Y6y BD.nil λ_ q=>?_;have b:=q [];simp[fresh]at b;have o:∀{v:V},BO (AE 3 []) [v]=false->K (.ret v) (MD y f)->X0 3 (K (.ret v)) [v] (MD y f):=λj m=>⟨[],j,by simpa[AE]using b,by simpa[AE]using m⟩;simp[Y03];refine Ae.go (ι:=Nat) (λk=>[(0,.d (.AF 5 (l.map Ai.enc))),(1,.fn 66 [] [.ptr 2 []]),(7,.d (.int .i64 l.length)),(8,.d (.int .i64 k))]) (λ_=>MD y f) (λk=>k<=l.length/\Q8 (λx=>!Vp y x) l 0=Q8 (λx=>!Vp y x) (l.drop k) k) (λk=>l.length-k) 0 ⟨DM _,rfl⟩ (by simp) (by simp) ?_;rintro k ⟨F,c⟩ R u t w G;by_cases a:k<l.length
 ·rw[Db a]at c;simp[yD,a,Yi5 hP];refine⟨⟨rfl,rfl⟩,Yr5 hP s g (r _ (CS a)) ?_⟩;cases e:Vp y l[k]with
  |false=>
   simp;refine w _ _ ?_;simp;have i:=h;rw[c,Q8,BL (by simp[e])]at i;exact o (by simp) i
  |true=>
   rw[Q8,Af (by simp[e])]at c;simp;refine u [] (k+1) _ _ ⟨by omega,c⟩ (by omega) (by simp[z a p]) (by simp[AE]) (by simp[AE]) (by simpa[AE]using b)
 ·have:k=l.length:=by omega
  subst this;simp[yD];refine t _ _ _ ?_;simp;rw[c,List.drop_length,Q8]at h;exact o (by simp) h
theorem Yrv {y:Ah}(i:y.BC)(b:y.AD.all (X2 y)=true){l:List Ai}(e:l.length<=9223372036854775807)(g:∀x∈l,x.BC){c:Ob}{K:A7->AB->Prop}(h:K (.ret (.d (.bool (l.any λx=>!Vp y x)))) (MD y c)):AV P 65 [.d (.AF 5 (l.map Ai.enc)),.fn 66 [] [.ptr 2 []]] (MD y c) K:=by
 refine Aq hP AO Zn9 Zkf BD.nil λ_ f=>?_;have a:=f [];simp[fresh]at a;simp[Zhk];refine Yr0 hP i b e g ?_;simp;rw[Q9];exact⟨[],by simp,by simpa[AE]using a,by simpa[AE]using h⟩
theorem Yro {y:Ah}(j:y.BC)(b:y.AD.all (X2 y)=true){l:List Ai}(f:l.length<=9223372036854775807)(i:∀x∈l,x.BC){c:Ob}{K:A7->AB->Prop}(h:K (.ret (.d (.bool (l.all (Vp y))))) [(1,YS y),(0,c)]):AV P 33 [.d (.AF 5 (l.map Ai.enc)),.fn 27 [] [.ptr 1 []]] [(1,YS y),(0,c)] K:=by
 refine Aq hP AO Znj Zjp BD.nil λ_ g=>?_;have a:=g [];simp[fresh]at a;simp[Zg2];refine Yrv hP j b f i ?_;have e:(!(l.any λx=>!Vp y x))=l.all (Vp y):=by simp[List.all_eq_not_any_not]
 simp;refine⟨[],by simp,by simpa[AE]using a,?_⟩;simpa[AE,e]using h
end
def U5 (p:AR):Bool:=decide (p.CW.length<=64)
def OC (y:Ah):Bool:=
 decide (y.Al.length<=8)&&decide (y.Au.length<=64)&&decide (y.AD.length<=16)&&decide (y.AK.length<=16)&&decide (y.AQ.length<=16)&&decide (y.AN.length<=8)&&y.AN.all U5
def PJ (y:Ah):Bool:=y.Au.all (IJ y)&&y.AD.all (X2 y)&&y.AK.all (Vp y)&&y.AN.all (Yl y)
def Uj (y:Ah):Int:=if OC y then (if PJ y then 0 else 120) else 2
section
variable {P:Az} (hP:P.p=Tryz.prog)
include hP
theorem Yi7:Xd P.p 54=true:=by rw[hP];kernel_rfl
theorem Ysg {p:AR}{c:AB}{K:V->Prop}(h:K (.d (.bool (!U5 p)))):AU P 54 [.d p.enc] c K:=by
 refine AJ hP AO (ds:=[p.enc]) Zny Zj4 BD.nil ?_;have a:∀b,b=!U5 p->K (.d (.bool b)):=λb e=>e▸h;simp[Zhd,AR.enc];apply a;rw[Dl];simp[U5];omega
theorem Yry {l:List AR}(o:l.length<=9223372036854775807){f:Ob}{K:A7->AB->Prop}(h:K (.ret (.d (.int .i64 (Q8 (λx=>!U5 x) l 0)))) ([(0,f)])):AV P 125 [.d (.AF 3 (l.map AR.enc)),.fn 54 [] []] ([(0,f)]) K:=by
 have t:∀{k n:Nat},k<n->n<=9223372036854775807->IntKind.i64.wrap ((k:Int)+1)=(k:Int)+1:=λi j=>IntWalk.i64_in _ (by omega);refine Aq hP AO Yy4 Yux BD.nil λ_ p=>?_;have b:=p [];simp[fresh]at b;have m:∀{v:V},BO (AE 1 []) [v]=false->K (.ret v) ([(0,f)])->X0 1 (K (.ret v)) [v] ([(0,f)]):=λi j=>⟨[],i,by simpa[AE]using b,by simpa[AE]using j⟩;simp[Yqx];refine Ae.go (ι:=Nat) (λk=>[(0,.d (.AF 3 (l.map AR.enc))),(1,.fn 54 [] []),(7,.d (.int .i64 l.length)),(8,.d (.int .i64 k))]) (λ_=>[(0,f)]) (λk=>k<=l.length/\Q8 (λx=>!U5 x) l 0=Q8 (λx=>!U5 x) (l.drop k) k) (λk=>l.length-k) 0 ⟨DM _,rfl⟩ (by simp) (by simp) ?_;rintro k ⟨u,c⟩ R r q s w;by_cases a:k<l.length
 ·rw[Db a]at c;simp[UL,a,Yi7 hP];refine⟨⟨rfl,rfl⟩,AU.Bm (Ysg hP ?_)⟩;cases e:U5 l[k]with
  |false=>
   simp[UN];refine s _ _ ?_;simp;have g:=h;rw[c,Q8,BL (by simp[e])]at g;exact m (by simp) g
  |true=>
   rw[Q8,Af (by simp[e])]at c;simp[UN,yB];refine r [] (k+1) _ _ ⟨by omega,c⟩ (by omega) (by simp[t a o]) (by simp[AE]) (by simp[AE]) (by simpa[AE]using b)
 ·have:k=l.length:=by omega
  subst this;simp[UL];refine q _ _ _ ?_;simp;rw[c,List.drop_length,Q8]at h;exact m (by simp) h
theorem Yrt {l:List AR}(c:l.length<=9223372036854775807){b:Ob}{K:A7->AB->Prop}(h:K (.ret (.d (.bool (l.any λx=>!U5 x)))) ([(0,b)])):AV P 53 [.d (.AF 3 (l.map AR.enc)),.fn 54 [] []] ([(0,b)]) K:=by
 refine Aq hP AO Zf2 Zc3 BD.nil λ_ e=>?_;have a:=e [];simp[fresh]at a;simp[Zbk];refine Yry hP c ?_;simp;rw[Q9];exact⟨[],by simp,by simpa[AE]using a,by simpa[AE]using h⟩
theorem X0k {y:Ah}(s:y.BC){k:AB}{K:V->Prop}(h:K (.d (.bool (OC y)))):AU P 26 [.d (.agg [y.enc])] k K:=by
 refine AJ hP AO (ds:=[.agg [y.enc]]) Znc Zji BD.nil ?_;simp[Zgx,Ah.enc,Xg];refine⟨λr=>?_,λl m n o p q=>?_⟩
 ·have e:OC y=false:=by
   rw[Nc];simp only[OC,ne_eq,As,Bs];omega
  rw[e]at h;exact h
 ·refine Yrt hP (by omega) ?_;simp;have e:OC y=y.AN.all U5:=by
   have a:y.Al.length<=8:=by omega
   have b:y.Au.length<=64:=by omega
   have c:y.AD.length<=16:=by omega
   have f:y.AK.length<=16:=by omega
   have g:y.AQ.length<=16:=by omega
   have i:y.AN.length<=8:=by omega
   simp[OC,a,b,c,f,g,i]
  have j:(!(y.AN.any λx=>!U5 x))=y.AN.all U5:=by simp[List.all_eq_not_any_not]
  rw[e,<-j]at h;exact h
theorem US {y:Ah}(a:y.BC){o:AB}{K:V->Prop}(h:K (.d (iD (Uj y)))):AU P 8 [.d y.enc] o K:=by
 refine AJ hP AO (ds:=[y.enc]) ok8 lf8 BD.nil ?_;have i:y.enc.shape.size=6:=by rw[CC];rfl
 have m:y.enc.sz=6:=rfl;have j:(V.d y.enc).BM=some [.d (Xg y.Al),.d (.AF 5 (y.Au.map At.enc)),.d (.AF 6 (y.AD.map AI.enc)),.d (.AF 5 (y.AK.map Ai.enc)),.d (.AF 5 (y.AQ.map Ag.enc)),.d (.AF 3 (y.AN.map AR.enc))]:=rfl;have p:∀l,Go.Ab.V.isAgg (.d y.enc)=l->l=true:=λl e=>e▸rfl;simp[Et8,i,m];refine⟨rfl,rfl,X0k hP a ?_⟩;cases b:OC y with
 |false=>
  simp;simpa[Uj,b]using h
 |true=>
  simp[j,i]
  try refine⟨rfl,?_⟩
  refine Yrp hP (y:=y) a.Au ?_;cases f:y.Au.all (IJ y) with
  |false=>
   simp;simpa[Uj,b,PJ,f]using h
  |true=>
   simp[j,i]
   try refine⟨rfl,?_⟩
   refine Yrm hP (y:=y) a.AD (λx g=>a.AP x g) ?_;cases c:y.AD.all (X2 y) with
   |false=>
    simp;simpa[Uj,b,PJ,f,c]using h
   |true=>
    simp[j,i]
    try refine⟨rfl,?_⟩
    refine Yro hP (y:=y) a c a.AK (λx g=>a.FN x g) ?_;cases k:y.AK.all (Vp y) with
    |false=>
     simp;simpa[Uj,b,PJ,f,c,k]using h
    |true=>
     simp[j,i]
     try refine⟨rfl,?_⟩
     refine Yrn hP (y:=y) a.AN (λx g=>a.CW x g) ?_;cases n:y.AN.all (Yl y) with
     |false=>
      simp;simpa[Uj,b,PJ,f,c,k,n]using h
     |true=>
      simp;simpa[Uj,b,PJ,f,c,k,n]using h
end
theorem iq {n:Nat}(h:n<2 ^ 64):IntKind.u64.wrap (n:Int)=n:=IntWalk.u64_in _ (by omega)
theorem lK (b:BitVec 64):BitVec.ofInt IntKind.u64.bits (b.toNat:Int)=b:=by
 show BitVec.ofInt 64 _=_;rw[BitVec.ofInt_natCast,BitVec.ofNat_toNat,BitVec.setWidth_eq]
theorem Yt0 (b:BitVec 64)(f:Nat)(e:f<64):(Yu .and .u64 ((b.toNat:Int).fdiv (2 ^ min f IntKind.u64.bits)) 1==1)=b.getLsbD f:=by
 have a:min f IntKind.u64.bits=f:=by simp[IntKind.bits];omega
 have c:((b.toNat:Int).fdiv (2 ^ f))=((b >>> f).toNat:Int):=by
  rw[BitVec.toNat_ushiftRight,Nat.shiftRight_eq_div_pow,Int.fdiv_eq_ediv_of_nonneg _ (by exact Int.pow_nonneg (by omega))];simp
 rw[a,c];unfold Yu;simp only;have d:BitVec.ofInt IntKind.u64.bits 1=1#64:=rfl;rw[lK,d,iq (by exact BitVec.isLt _)];show((((b >>> f) &&&1#64:BitVec 64).toNat:Int)==(1:Int))=_;rw[BitVec.toNat_and];show(((b >>> f).toNat &&&1:Nat)==(1:Int))=_;rw[Nat.and_one_is_mod];have:b.getLsbD f=decide ((b >>> f).toNat % 2=1):=by
  rw[BitVec.getLsbD,BitVec.toNat_ushiftRight,Nat.testBit,Nat.one_and_eq_mod_two];rcases Nat.mod_two_eq_zero_or_one (b.toNat >>> f) with h|h<;>simp[h]
 rw[this,Dl,CT,decide_eq_true_iff];omega
theorem Be (b:BitVec 64)(f:Nat)(d:f<64):Yu .or .u64 (b.toNat:Int) (IntKind.u64.wrap (1*2 ^ min f IntKind.u64.bits))=((b |||BitVec.twoPow 64 f).toNat:Int):=by
 have a:min f IntKind.u64.bits=f:=by simp[IntKind.bits];omega
 have c:((1:Int)*2 ^ f)=((BitVec.twoPow 64 f).toNat:Int):=by
  rw[BitVec.toNat_twoPow,Nat.mod_eq_of_lt (Nat.pow_lt_pow_right (by omega) d)];simp
 rw[a,c,iq (by exact BitVec.isLt _)];unfold Yu;simp only;rw[lK,lK,iq (by exact BitVec.isLt _)];rfl
def IL (l:List Int):BitVec 64:=l.foldl (λb f=>b |||BitVec.twoPow 64 f.toNat) 0#64
theorem wE (l:List Int)(f:Int):IL (l++[f])=IL l |||BitVec.twoPow 64 f.toNat:=by simp[IL]
theorem UQ (f:Nat)(c:f<64):∀(n:Nat)(l:List Int),l.length=n->(∀g∈l,0<=g)->(IL l).getLsbD f=decide ((f:Int)∈l)
|0,l,a,_=>by
 obtain rfl:=Tt a;simp[IL]
|n+1,l,a,b=>by
 obtain⟨r,g,rfl⟩:∃r g,l=r++[g]:=⟨l.dropLast,l.getLast (by intro e;simp[e]at a),(List.dropLast_concat_getLast _).symm⟩
 have i:=UQ f c n r (by simpa using a) (λx d=>b x (by simp[d]));have j:=b g (by simp);rw[wE,BitVec.getLsbD_or,i,BitVec.getLsbD_twoPow];rw[Dl];simp[c];constructor
 ·rintro (h|h)
  ·exact .inl h
  ·exact .inr (by omega)
 ·rintro (h|h)
  ·exact .inl h
  ·exact .inr (by omega)
theorem Yie {l:List Int}(h:∀g∈l,0<=g/\g<64):((IL l).toNat:Int)≠0↔l≠[]:=by
 constructor
 ·rintro a rfl;exact a rfl
 ·intro a c;obtain⟨g,b⟩:=List.exists_mem_of_ne_nil l a;have f:=h g b;have e:=UQ g.toNat (by omega) _ l rfl (λx d=>(h x d).1);rw[show((g.toNat:Nat):Int)=g from by omega,En b]at e;have:IL l=0#64:=BitVec.eq_of_toNat_eq (by simpa using c);rw[this]at e;simp at e
def JL (n:Int)(d:Ax):Bool:=
 d.Aw.all (λf=>decide (0<=f)&&decide (f<n))&&decide d.Aw.Nodup&&decide (d.Aw≠[])&&decide (0<=d.CA)&&decide (d.CA<n)&&!d.Aw.contains d.CA
def KC (s:AI):Bool:=decide (1<=s.AL.length)&&decide (s.AL.length<=12)&&decide (s.Aj.length<=12)&&s.Aj.all (JL s.AL.length)
section
variable {P:Az} (hP:P.p=Tryz.prog)
include hP
theorem Yej {b:BitVec 64}{f:Nat}(a:f<64){c:AB}{K:V->Prop}(h:K (.d (.bool (b.getLsbD f)))):AU P 70 [.d (.int .u64 b.toNat),.d (.int .i64 f)] c K:=by
 refine AJ hP AO (ds:=[.int .u64 b.toNat,.int .i64 f]) Zod Zkj BD.nil ?_;simp[Zho];rw[Yt0 b f a];exact h
theorem Yij {n:Nat}(F:n<=12){d:Ax}(hd:d.BC){ob:AB}{K:V->Prop}(h:K (.d (.bool (JL n d)))):AU P 38 [.d d.enc,.d (.int .i64 n)] ob K:=by
 refine AJ hP AO (ds:=[d.enc,.int .i64 n]) Zno Zju BD.nil ?_;have c:JL n d=false->K (.d (.bool false)):=λe=>by rw[e]at h;exact h
 simp[Zg7,Ax.enc,X9,Xg];refine Ae.upto d.Aw.length (λk=>[(1,.d (.int .i64 n)),(2,.ptr 0 []),(5,.d (.int .u64 (IL (d.Aw.take k)).toNat)),(9,.d (.AF 1 (d.Aw.map iD))),(10,.d (.int .i64 d.Aw.length)),(11,.d (.int .i64 k))])
  (λ_=>[(0,.box 98 (.d d.enc))]) (λk=>(∀g∈d.Aw.take k,0<=g/\g<n)/\(d.Aw.take k).Nodup) (by simp) (by simp[IL]) (by simp[Ax.enc,X9,Xg]) ?_ ?_
 ·intro k t i R rn T y rp;have wr:IntKind.i64.wrap ((k:Int)+1)=(k:Int)+1:=IntWalk.i64_in _ (by have:=hd.Aw;omega);have u:d.Aw.take (k+1)=d.Aw.take k++[d.Aw[k]]:=Ca t;have s:(¬(0<=d.Aw[k]/\d.Aw[k]<n)\/d.Aw[k]∈d.Aw.take k)->JL n d=false:=by
   intro m;rw[Nc];intro H;simp only[JL,As,DQ,Bs]at H;rcases m with m|m
   ·exact m (H.1.1.1.1.1 _ (CS t))
   ·have F:=H.1.1.1.1.2;rw[<-Kh (k+1) d.Aw,Em,u,Em]at F;exact F.1.2.2 _ m _ (by simp) rfl
  generalize o:d.Aw[k]=g at u s;by_cases L:g<0
  ·simp[VJ,t,o,L];refine y _ _ ?_;simp;exact c (s (.inl (by omega)))
  by_cases M:(n:Int)<=g
  ·simp[VJ,t,o,L,M];refine y _ _ ?_;simp;exact c (s (.inl (by omega)))
  obtain⟨f,rfl⟩:∃f:Nat,g=f:=⟨g.toNat,by omega⟩
  have U:¬(f:Int)<0:=by omega
  simp[VJ,t,o,M,U];refine Yej hP (by omega) ?_;have m:=UQ f (by omega) _ _ rfl (λx p=>(i.1 x p).1);rw[m];by_cases w:(f:Int)∈d.Aw.take k
  ·simp[w];refine y _ _ ?_;simp;exact c (s (.inr w))
  ·have J:=Be (IL (d.Aw.take k)) f (by omega);rw[Int.one_mul]at J;simp[w,J];refine rn [] _ _ ⟨?_,?_⟩ ?_ (by simp[AE]) (by simp[AE]) (by simp[AE])
   ·rw[u];intro x p;rw[DF,DW]at p;rcases p with p|rfl
    ·exact i.1 x p
    ·omega
   ·rw[u,Em];refine⟨i.2,by simp,λa ha b s=>?_⟩;simp only[DW]at s;subst s;exact λe=>w (e▸ha)
   ·rw[u,wE];simp[wr]
 ·intro i R T y rp;rw[C0]at i;simp[VJ,Ax.enc,X9,Xg];refine T _ _ _ ?_;have G:=Yie (l:=d.Aw) (λg o=>⟨(i.1 g o).1,by have:=(i.1 g o).2;omega⟩);have Z:JL n d=(decide (d.Aw≠[])&&decide (0<=d.CA)&&decide (d.CA<n)&&!d.Aw.contains d.CA):=by
   have Y:d.Aw.all (λf=>decide (0<=f)&&decide (f<n))=true:=by
    rw[DQ];intro g o;have:=i.1 g o;simp[this]
   unfold JL;rw[Y,En i.2,EA,EA]
  rw[Z]at h c;by_cases v:d.Aw=[]
  ·have z:(IL d.Aw).toNat=0:=by rw[v];rfl
   simp[z];exact c (by simp[v])
  have z:¬((IL d.Aw).toNat:Int)=0:=G.2 v;have q:¬(IL d.Aw).toNat=0:=λe=>z (by omega);by_cases W:d.CA<0
  ·have j:¬0<=d.CA:=by omega
   simp[q,W,j];exact c (by simp[j])
  have j:0<=d.CA:=by omega
  by_cases g3:(n:Int)<=d.CA
  ·have r:¬d.CA<n:=by omega
   simp[q,j,r];exact c (by simp[r])
  have r:d.CA<n:=by omega
  obtain⟨f,Q⟩:∃f:Nat,d.CA=f:=⟨d.CA.toNat,by omega⟩
  have N:(f:Int)<n:=by omega
  have O:0<=(f:Int):=by omega
  simp[q,Q,N,O];refine Yej hP (by omega) ?_;have m:=UQ f (by omega) _ _ rfl (λx p=>(i.1 x p).1);rw[m];have X:∀b,b=(decide (d.Aw≠[])&&decide (0<=d.CA)&&decide (d.CA<n)&&!d.Aw.contains d.CA)->K (.d (.bool b)):=λb e=>e▸h;simp;apply X;simp[v,Q,N,O]
theorem zG {x:AI}(w:x.BC){y:AB}{K:V->Prop}(h:K (.d (iD (if KC x then 0 else 130)))):AU P 10 [.d x.enc] y K:=by
 refine AJ hP AO (ds:=[x.enc]) Zm5 Zjb BD.nil ?_;have a:KC x=false->K (.d (.int .i64 130)):=λe=>by rw[e]at h;exact h
 by_cases c:(x.AL.length:Int)<1
 ·simp[XB,AI.enc,c];exact a (by rw[Nc];simp only[KC,ne_eq,As,Bs];omega)
 by_cases i:(12:Int)<x.AL.length
 ·simp[XB,AI.enc,c,i];exact a (by rw[Nc];simp only[KC,ne_eq,As,Bs];omega)
 by_cases l:(12:Int)<x.Aj.length
 ·simp[XB,AI.enc,c,i,l];exact a (by rw[Nc];simp only[KC,ne_eq,As,Bs];omega)
 have v:KC x=x.Aj.all (JL x.AL.length):=by
  have q:1<=x.AL.length:=by omega
  have r:x.AL.length<=12:=by omega
  have s:x.Aj.length<=12:=by omega
  simp[KC,q,r,s]
 rw[v]at h a;simp[XB,AI.enc,c,i,l];refine Ae.upto x.Aj.length (λk=>[(1,.ptr 0 []),(22,.d (.AF 4 (x.Aj.map Ax.enc))),(23,.d (.int .i64 x.Aj.length)),(24,.d (.int .i64 k))])
  (λ_=>[(0,.box 54 (.d x.enc))]) (λk=>(x.Aj.take k).all (JL x.AL.length)=true) (by simp) (by simp) (by simp[AI.enc]) ?_ ?_
 ·intro k g f R z n o F;have G:IntKind.i64.wrap ((k:Int)+1)=(k:Int)+1:=IntWalk.i64_in _ (by omega);have b:=Wg (p:=JL x.AL.length) g;rw[f,EA]at b;have j:∀d:Ax,d.enc.shape.size=4:=λd=>by rw[CC];rfl
  have u:∀d:Ax,d.enc.sz=4:=λd=>rfl;have t:∀d:Ax,d.enc.shape=.node [.AX,.AX,.AX,.AX]:=λ_=>rfl;simp[Xyz,g,u,j,t,AI.enc];refine⟨rfl,Yij hP (by omega) (w.L6 _ (CS g)) ?_⟩;cases m:JL x.AL.length x.Aj[k]with
  |false=>
   simp;refine o _ _ ?_;simp;exact a (List.all_eq_false.2 ⟨_,CS g,by simp[m]⟩)
  |true=>
   simp;refine z [] _ _ (by rw[b,m]) (by simp[G]) (by simp[AE,AI.enc]) (by simp[AE]) (by simp[AE])
 ·intro f R n o F;rw[C0]at f;simp[Xyz];refine n _ _ _ ?_;simp;rw[f]at h;exact h
end
mutual
theorem eh:∀{x y:D},D.le x y->x.shape=y.shape
|.AT,y,h=>by
 simp only[D.le]at h;rcases h with rfl|⟨_,rfl⟩<;>rfl
|.agg b,y,h=>by
 simp only[D.le]at h;obtain⟨c,rfl,h⟩:=h;simp only[D.shape,xO h]
|.AF a b,y,h=>by
 simp only[D.le]at h;obtain⟨c,rfl,h⟩:=h;rfl
|.int ..,y,h|.bool ..,y,h|.AM ..,y,h|.Bo,y,h|.B1,y,h|.Bl,y,h|.B0,y,h|.Bd ..,y,h|.iface ..,y,h|.fn ..,y,h=>by
 simp only[D.le]at h;subst h;rfl
theorem xO:∀{b a:List D},Bq b a->D.BN b=D.BN a
|[],a,h=>by simp only[Bq]at h;subst h;rfl
|x::r,a,h=>by
 simp only[Bq]at h;obtain⟨y,s,rfl,c,d⟩:=h;simp only[D.BN,eh c,xO d]
end
def Qn (y:Ah):Int:=if y.AD.all KC then 0 else 130
def J8 (y:Ah):Int:=if (Hv y).2=0 then (if (Hv y).1=y then 0 else 160) else (Hv y).2
section
variable {P:Az} (hP:P.p=Tryz.prog)
include hP
theorem Xmc {y:Ah}(c:y.BC){i:AB}{K:V->Prop}(h:K (.d (iD (Qn y)))):AU P 22 [.d y.enc] i K:=by
 refine AJ hP AO (ds:=[y.enc]) Zm8 Zje BD.nil ?_;have g:∀x:Ah,(V.d x.enc).BM=some [.d (.AF 1 (x.Al.map .AM)),.d (.AF 5 (x.Au.map At.enc)),.d (.AF 6 (x.AD.map AI.enc)),.d (.AF 5 (x.AK.map Ai.enc)),.d (.AF 5 (x.AQ.map Ag.enc)),.d (.AF 3 (x.AN.map AR.enc))]:=λ_=>rfl;have q:∀x:AI,x.enc.sz=6:=λ_=>rfl;have p:∀x:AI,x.enc.shape.size=6:=λx=>by rw[CC];rfl
 have o:∀x:AI,x.enc.shape=.node [.AX,.AX,.AX,.AX,.AX,.AX]:=λ_=>rfl;have s:=c.AD;simp[Zgt,g];refine Ae.go (ι:=Nat) (λk=>[(7,.d (.AF 6 (y.AD.map AI.enc))),(8,.d (.int .i64 y.AD.length)),(9,.d (.int .i64 k))]) (λ_=>[(0,.box 29 (.d y.enc))]) (λk=>k<=y.AD.length/\(y.AD.take k).all KC=true) (λk=>y.AD.length-k) 0 ⟨DM _,by simp⟩ (by simp) (by simp) ?_;rintro k ⟨r,b⟩ R l j m t;by_cases a:k<y.AD.length
 ·have n:IntKind.i64.wrap ((k:Int)+1)=(k:Int)+1:=IntWalk.i64_in _ (by omega);simp[Xy1,a,q,p,o];refine⟨rfl,zG hP (c.AP _ (CS a)) ?_⟩;by_cases e:KC y.AD[k]=true
  ·simp[e];refine l [] (k+1) _ _ ⟨by omega,?_⟩ (by omega) (by simp[n]) (by simp[AE]) (by simp[AE]) (by simp[AE]);rw[Ca a,QY,b];simp[e]
  ·simp[e];refine m _ _ ?_;simp;have:Qn y=130:=by
    rw[Qn,Af];intro f;exact e (DQ.1 f _ (CS a))
   rw[this]at h;exact h
 ·obtain rfl:k=y.AD.length:=by omega
  rw[C0]at b;have:Qn y=0:=by rw[Qn,BL b]
  rw[this]at h;simp[Xy1];refine j _ _ _ ?_;simpa using h
theorem Xw3 {y:Ah}(g:y.BC)(k:y.P6){l:AB}{K:V->Prop}(h:K (.d (iD (J8 y)))):AU P 21 [.d y.enc] l K:=by
 refine AJ hP AO (ds:=[y.enc]) Zm7 Zjd BD.nil ?_;have n:∀x:Ah,(V.d x.enc).BM=some [.d (.AF 1 (x.Al.map .AM)),.d (.AF 5 (x.Au.map At.enc)),.d (.AF 6 (x.AD.map AI.enc)),.d (.AF 5 (x.AK.map Ai.enc)),.d (.AF 5 (x.AQ.map Ag.enc)),.d (.AF 3 (x.AN.map AR.enc))]:=λ_=>rfl;have j:y.enc.shape.size=6:=by rw[CC];rfl
 have m:y.enc.sz=6:=rfl;simp[Zgs,j,m];refine⟨rfl,X0g hP g k λd f=>?_⟩;have b:d.shape=.node [.AX,.AX,.AX,.AX,.AX,.AX]:=eh f;simp[b];have c:(match V.d d with
 |V.d (D.agg i)=>true
 |V.agg i=>true
 |x=>false)=true:=by
  cases d<;>simp[D.shape]at b⊢
 refine⟨λe=>?_,λe=>⟨rfl,c,rfl,c,AU.le (xs:=[d,y.enc]) (ys:=[(Hv y).1.enc,y.enc]) (Bq.cons f (Bq.cons (D.le.refl _) Bq.nil)) (Ysk hP g ?_)⟩⟩
 ·rw[J8,Af e]at h;exact h
 ·rw[J8,BL e]at h;by_cases a:(Hv y).1=y
  ·rw[BL a]at h;simpa[a]using h
  ·rw[Af a]at h;simpa[a]using h
end
def Qf (l:List Int):List (D×V):=l.map λx=>(.int .i64 x,V.d (.bool true))
theorem Rv (x:Int):∀l:List Int,Yh (.int .i64 x) (Qf l)=if x∈l then some (V.d (.bool true)) else none
|[]=>rfl
|y::r=>by
 have a:=Rv x r;unfold Qf at a⊢;simp only[Cg,Yh,a,DA];by_cases e:x=y
 ·simp[e,C8]
 ·simp[e,C8]
theorem fq (x:Int)(l:List Int):U7 (.int .i64 0) (.int .i64 x) (Qf l):=by
 refine⟨rfl,λe a=>?_⟩;obtain⟨y,_,rfl⟩:=C9.1 a;rfl
theorem R5 (p:Nat->Bool):∀l:List Int,Ym p (Qf l)=false
|[]=>rfl
|y::r=>by
 have a:=R5 p r;unfold Qf at a⊢;simp[Ym,a,V.BJ]
theorem V2 {p:Nat->Bool}{id:Nat}{a:List (D×V)}(c:Ym p a=false):∀{e:AB},AH p e=true->AH p (AG e id (.map a))=true
|[],_=>rfl
|(j,o)::r,h=>by
 have b:AH p r=true:=by cases o<;>simp[AH]at h<;>first|exact h|exact h.2
 simp only[AG];split
 ·simp[AH,c,b]
 ·have d:=V2 (id:=id) c b;cases o<;>simp[AH]at h⊢<;>first|exact d|exact⟨h.1,d⟩
def LU (l:List Int)(n:Int):Bool:=decide l.Nodup&&decide ((l.length:Int)=n)
section
variable {P:Az} (hP:P.p=Tryz.prog)
include hP
theorem Yh0 {l:List Int}{n:Int}{m:Nat}(L:l.length<=9223372036854775807){i:AB}(t:AA i m=some (.map [])){K:A7->AB->Prop}(h:∀j,K (.ret (.d (.bool (LU l n)))) (AG i m (.map j))):AV P 48 [.mp m,.d (X9 l),.d (.int .i64 n)] i K:=by
 refine Xk hP AO Zf1 Zc2 BD.nil λ_ r=>?_;have M:=Xf t;simp[Zbi,X9];have g:∀j b,b=LU l n->(∀p,Ym p j=false)->X0 (fresh i) (K (.ret (.d (.bool b)))) [] (AG i m (.map j)):=λj b s q=>by
  subst s;have v:Xh (AE (fresh i) []) (AG i m (.map j))=AG i m (.map j):=Xe (by simp);exact⟨[],by simp,by rw[v];exact V2 (q _) (r []),by rw[v];exact h j⟩
 refine Ae.go (ι:=Nat) (λk=>[(0,.mp m),(1,.d (X9 l)),(2,.d (.int .i64 n)),(9,.d (X9 l)),(10,.d (.int .i64 l.length)),(11,.d (.int .i64 k))]) (λk=>AG i m (.map (Qf (l.take k)))) (λk=>k<=l.length/\(l.take k).Nodup) (λk=>l.length-k) 0 ⟨DM _,by simp⟩ (by simp[X9]) (by simp[Qf,Wn t]) ?_;rintro k ⟨J,q⟩ R F z G N;have x:∀o,AA (AG i m o) m=some o:=λo=>by rw[Xc i m m ⟨_,t⟩,BL rfl]
 by_cases f:k<l.length
 ·have H:IntKind.i64.wrap ((k:Int)+1)=(k:Int)+1:=IntWalk.i64_in _ (by omega);by_cases c:l[k]∈l.take k
  ·simp[VK,f,X9,x,Rv,fq,c];refine G _ _ ?_;simp;refine g _ _ ?_ (R5 · _);have:¬l.Nodup:=λw=>by
    rw[<-Kh k l,Db f]at w;exact(Em.1 w).2.2 _ c _ List.mem_cons_self rfl
   simp[LU,this]
  ·have u:EL (.int .i64 l[k]) (V.d (.bool true)) (Qf (l.take k))=Qf (l.take (k+1)):=by
    rw[Wo _ _ _ (by rw[Rv,Af c]),Ca f];rw[Qf,Qf,Ij];rfl
   simp[VK,f,X9,x,Rv,fq,c,u,X4];refine F [] (k+1) _ _ ⟨by omega,?_⟩ (by omega) (by simp[H,X9]) ?_ ?_ ?_
   ·rw[Ca f,Em];exact⟨q,by simp,λa y b s=>by rw[DW]at s;subst s;exact λe=>c (e▸y)⟩
   ·exact Xe (by simp)
   ·simp[AE];omega
   ·exact V2 (R5 _ _) (by simpa using r [])
 ·obtain rfl:k=l.length:=by omega
  rw[C0]at q;simp[VK,X9];refine z _ _ _ ?_;simp[X9];refine g _ _ ?_ (R5 · _);simp[LU,q];rfl
end
def Yx7:Nat:=0x1000bdf01600d9f03700f525fb66014586007afc06f7f08ce0480067d10cd007013b3c8ce3df01122601000100f00c07b05c2c29c22c10063df00e0b32c19ebb1309400d0815113df86731800e080
def n7:Nat:=0x1a7c0e002358699c0210b67772a10069da0d290e0200e001f228195afc06f3f413400505701d74c01ea9813400401c0e043f00905d0170930170a4017522a48347bd728101f86bbdf0aebdf0970da2363d256426600a2790141669f9a04018036a9103600301603600200803600101503604700819619609e00b02800372e05704438f3a1895
def ou:S:=zS [(zS [] Yx7)] n7
theorem ok7:Xr Tryz.prog 7 1 ou [.c 2 7 true,.t 3]=true:=by kernel_rfl
def n23:Nat:=0x1b8b02273b3f400101d95401c25511801b1410030303c21184d6118aee016b8c11815711834a7c581730c3a400b584013b0f0dd59e47b3df0570117710125f230b0100c78a800505d00b09300b0a4ab602508401e0fabd7b5115914e7e50960ddbfd5b074cbf104480d0e005c02f2e01e1712648
def jM:S:=zS [] n23
theorem Zm9:Xr Tryz.prog 23 1 jM [.t 2]=true:=by kernel_rfl
def pI:Nat:=0x164d19802e000016b0f01711e00364d057c500c707a76a0152c301217b0133670113980123130479f3bde03300d9bc29b05200f58100364d00dc500c704c06f1c50c0003a170cd5b35f2214ab20b99ca04425b03c1b402e0e2007af101e09303200d07b4c7923046057c5004054906f
def jY:S:=zS [] pI
theorem Znb:Xr Tryz.prog 25 1 jY [.t 2,.t 3,.t 4]=true:=by kernel_rfl
def n47:Nat:=0x1b8b02273b76a4be30c01505d584013b0f0dd8150b90030570117710121fc0479f30c78a800505d00b09300b0a4ab602508401e0fabd7b5115914e7e50960ddbfd5b074cbf104480d0e005c0082e01e1712648
def jq:S:=zS [] n47
theorem Znt:Xr Tryz.prog 47 1 jq [.t 2]=true:=by kernel_rfl
def Yfx:Nat:=0x1000b1d0029f40720100443e9
def Yfw:Nat:=0x100094108d0410290720281a2b9f06945112d7858660070910fb15595a14866612a04633903356805025f0204340e01362c308932205f07aa056442523e700a1210090f30c900203e09d11204600728939301f4d46442523e700902bbc69453359e708d7f900850c0290812853924fd00902702800d02a080
def cz:Nat:=0x105fb9f5aeb9f0970262c533304e0265a5
def cx:Nat:=0x146b252b350246e478534a01d0226660200461e314c8aa4fd0d707b02401d4cc95a01c66601a04633901b0200060c325f0204340e00192c308932205f07a3724fd006017b784c503e09d0156667e401501f4d4252b350130e95233c00120f1813ba901108173207c59200d012080
def pR:Nat:=0x1a7c0040960412c304809906a84eb1d0aeb1d09700e00400d05908b18f57800c2c375d83432226a0133e400400870c76700672eaf704425b6e83a1895
def jt:S:=zS [(zS [(zS [(zS [] Yfw)] cz),(zS [] Yfx)] cx)] pR
theorem Znv:Xr Tryz.prog 50 1 jt [.c 2 2 true,.t 3]=true:=by kernel_rfl
def n51:Nat:=0x152d03000203f09d91517a
def ju:S:=zS [] n51
theorem Znw:Xr Tryz.prog 51 1 ju [.t 2]=true:=by kernel_rfl
def n52:Nat:=0x107305401e07b040baa0740460330406e8108
def jv:S:=zS [] n52
theorem Znx:Xr Tryz.prog 52 1 jv [.t 2]=true:=by kernel_rfl
def Ze0:Nat:=0x107800c24100bbc61f000d23003d00905996e07416740f96e14c04b36f0580898990006e8243
def lW:S:=zS [] Ze0
theorem Y9h:Xr Tryz.prog 118 2 lW [.t 4]=true:=by kernel_rfl
def s9:Nat:=0x104704e007a86040
def Cb:S:=zS [] s9
def tA:Nat:=0x14eb0480141f02ac2c0c1e005045043861184060
def Cc:S:=zS [] tA
def Zky:Nat:=0x107817405d04300d77239839005f00609303f26d04706839805808c56426603008f1b1243
def PW:S:=zS [Cb,Cc] Zky
theorem Y9i:Hh Tryz.prog 119 2 PW [.t 4]=true:=by kernel_rfl
def tB:Nat:=0x100092c7220ed1810c122b3e9
def hS:Nat:=0x120e92c0b30418af04e06601d1c707d0f9b21a0ab6a01a203175bed009057a2d0e1b398be39900a37d095690bed8d06c108301119c00613f0139e901208a01119c9ee0610110765c7690bed00800f18301e00e08a0c100a39907a30800d1ae47f1753ad008843a4200e1b0
def hX:Nat:=0x105f92c00736592c00705705f0c500908a0080e80881e10441f90033530f00067e83ad0638a300419f36274605227b362007a36a36b830090550761880494398919e60fb2260010e50a40e503602514803101e1550fc3c612a3be066136b2100503262d003a8196d0c02270570f300f6e7186427c849b50e902ba7f
def tC:Nat:=0x100098002901507201400002a1db
def hY:Nat:=0x120e9807dc04e0660262e5190024b21a0a02304c023c4b089057c780460200ea09a37d095c4b0b4a920561410e201c0234cc01a95a190019b60006061a484fac4b0b40160b301418b0150811c357b0b4a1ea90080
def kO:Nat:=0x11300c07921fe05f9800ae9809d24b6a4a003b890580470110d70100207d050e168ad20610582eac2a00107b05242e6d06718b1c2a02b07bb0827c74eb0804d6810521e342e8094b9070c2a02b07b67101d27c74eb0804d681a0f04ec2f01f07000f74e67101d04dc2f24a0526810521e342e04504883802024d052
def lX:S:=zS [(zS [(zS [] tC)] hY),(zS [(zS [(zS [] tB)] hS)] hX)] kO
theorem Y9j:Xr Tryz.prog 120 2 lX []=true:=by kernel_rfl
def tD:Nat:=0x120b79e00654d0561410010d701c73f01dc1e04ca9715f0010630440470440186bc0d001207d0c02300160d742a00701202201d07a003a8101408142879e0a44a90120210143d2
def hZ:Nat:=0x1000c7a0217b0627ada01279eb5720b79e00601102001d54895a0fd58500f53209579e00500d08f00b18b00c08134e0580057be
def kP:Nat:=0x107302200309602314405fc7a0aec7aaf74b600a020003b0dc6705e34702002501d0064b60075a50460300406e8108
def lY:S:=zS [(zS [(zS [] tD)] hZ)] kP
theorem Y9k:Xr Tryz.prog 121 1 lY [.t 2]=true:=by kernel_rfl
def lZ:S:=.seq (.rg [] [.op (some 4) (.c (.mv (.t 0))),
 .op (some 5) (.c (.mv (.t 1))),
 .op (some 6) (.Dp "Push" 213 322 none (.t 4) [(.t 5)])] [0] [])
 (.rg [] [.op (some 7) (.c (.mv (.t 0))),
  .op (some 8) (.c (.mv (.t 0))),
  .op (some 9) (.Dp "Len" 213 123 (some (0,0,1,false)) (.t 8) []),
  .op (some 10) (.c (.Bc .sub (.t 9) (.int .i64 1))),
  .op (some 11) (.call 217 [(.t 7),(.t 10)])] [] [])
theorem Yy3:Xr Tryz.prog 122 2 lZ []=true:=by kernel_rfl
def Ze1:Nat:=0x152d0049153b2
def lj:S:=zS [] Ze1
theorem oM:Xr Tryz.prog 123 1 lj [.t 2]=true:=by kernel_rfl
def lk:S:=.seq (.rg [] [.op (some 2) (.c (.mv .Bo))] [0] [])
 (.seq (.rg [] [.op (some 4) (.c (.mv (.t 0))),
  .op (some 5) (.Dp "Len" 213 123 (some (0,0,1,false)) (.t 4) []),
  .op (some 6) (.c (.Bc .sub (.t 5) (.int .i64 1))),
  .op (some 3) (.c (.mv (.t 6)))] [0,3] [])
 (.seq (.rg [] [.op (some 7) (.c (.mv (.t 0))),
  .op (some 8) (.c (.mv (.t 3))),
  .op (some 9) (.Dp "Swap" 213 324 (some (0,0,1,false)) (.t 7) [(.int .i64 0),(.t 8)])] [0,3] [])
 (.seq (.rg [] [.op (some 10) (.c (.mv (.t 0))),
  .op (some 11) (.c (.mv (.t 3))),
  .op (some 12) (.call 218 [(.t 10),(.int .i64 0),(.t 11)])] [0] [])
 (.seq (.rg [] [.op (some 13) (.c (.mv (.t 0))),
  .op (some 14) (.Dp "Pop" 213 321 none (.t 13) []),
  .op (some 2) (.c (.mv (.t 14)))] [2] [])
 (.ret)))))
theorem Y9l:Xr Tryz.prog 124 1 lk [.t 2]=true:=by kernel_rfl
def Ycl:S:=.block 1 (.seq (.rg [] [.op (some 5) (.c (.mv (.t 1))),
 .op (some 6) (.c (.Bc .sub (.t 5) (.int .i64 1))),
 .op (some 7) (.c (.Bc .quo (.t 6) (.int .i64 2))),
 .op (some 4) (.c (.mv (.t 7)))] [0,1,4] [])
 (.seq (.seq (.rg [] [.op (some 8) (.c (.mv (.t 4))),
  .op (some 9) (.c (.mv (.t 1))),
  .op (some 10) (.c (.Bc .eql (.t 8) (.t 9))),
  .op (some 11) (.c (.mv (.t 10))),
  .C6 11 false (some 12) (.c (.mv (.t 0))),
  .C6 11 false (some 13) (.c (.mv (.t 1))),
  .C6 11 false (some 14) (.c (.mv (.t 4))),
  .C6 11 false (some 15) (.Dp "Less" 213 320 (some (0,0,1,false)) (.t 12) [(.t 13),(.t 14)]),
  .C6 11 false (some 16) (.c (.not (.t 15))),
  .op (some 17) (.c (.pick (.t 11) (.bool true) (.t 16)))] [0,1,4,17] [])
 (.cond (.t 17) (.exit 0) (.skip)))
 (.seq (.rg [] [.op (some 18) (.c (.mv (.t 0))),
  .op (some 19) (.c (.mv (.t 4))),
  .op (some 20) (.c (.mv (.t 1))),
  .op (some 21) (.Dp "Swap" 213 324 (some (0,0,1,false)) (.t 18) [(.t 19),(.t 20)])] [0,4] [])
 (.rg [] [.op (some 22) (.c (.mv (.t 4))),
  .op (some 1) (.c (.mv (.t 22)))] [0,1] []))))
def ko:Nat:=0x105f001045071
def nT:S:=zS [Ycl] ko
theorem Zao:Xr Tryz.prog 217 2 nT []=true:=by kernel_rfl
def Ycn:S:=.seq (.seq (.rg [] [.op (some 35) (.c (.mv (.t 0))),
 .op (some 36) (.c (.mv (.t 9))),
 .op (some 37) (.c (.mv (.t 7))),
 .op (some 38) (.Dp "Less" 213 320 (some (0,0,1,false)) (.t 35) [(.t 36),(.t 37)]),
 .op (some 39) (.c (.not (.t 38)))] [0,1,2,7,9,39] [])
 (.cond (.t 39) (.exit 0) (.skip)))
 (.seq (.rg [] [.op (some 40) (.c (.mv (.t 0))),
  .op (some 41) (.c (.mv (.t 7))),
  .op (some 42) (.c (.mv (.t 9))),
  .op (some 43) (.Dp "Swap" 213 324 (some (0,0,1,false)) (.t 40) [(.t 41),(.t 42)])] [0,1,2,9] [])
 (.rg [] [.op (some 44) (.c (.mv (.t 9))),
  .op (some 7) (.c (.mv (.t 44)))] [0,1,2,7] []))
def Ycm:S:=.block 1 (.seq (.rg [] [.op (some 12) (.c (.mv (.t 7))),
 .op (some 13) (.c (.Bc .mul (.int .i64 2) (.t 12))),
 .op (some 14) (.c (.Bc .add (.t 13) (.int .i64 1))),
 .op (some 8) (.c (.mv (.t 14)))] [0,1,2,7,8] [])
 (.seq (.seq (.rg [] [.op (some 15) (.c (.mv (.t 8))),
  .op (some 16) (.c (.mv (.t 2))),
  .op (some 17) (.c (.Bc .geq (.t 15) (.t 16))),
  .op (some 18) (.c (.mv (.t 17))),
  .C6 18 false (some 19) (.c (.mv (.t 8))),
  .C6 18 false (some 20) (.c (.Bc .lss (.t 19) (.int .i64 0))),
  .op (some 21) (.c (.pick (.t 18) (.bool true) (.t 20)))] [0,1,2,7,8,21] [])
 (.cond (.t 21) (.exit 0) (.skip)))
 (.seq (.rg [] [.op (some 22) (.c (.mv (.t 8))),
  .op (some 9) (.c (.mv (.t 22)))] [0,1,2,7,8,9] [])
 (.seq (.seq (.rg [] [.op (some 23) (.c (.mv (.t 8))),
  .op (some 24) (.c (.Bc .add (.t 23) (.int .i64 1))),
  .op (some 10) (.c (.mv (.t 24)))] [0,1,2,7,8,9,10] [])
 (.seq (.rg [] [.op (some 25) (.c (.mv (.t 10))),
  .op (some 26) (.c (.mv (.t 2))),
  .op (some 27) (.c (.Bc .lss (.t 25) (.t 26))),
  .op (some 28) (.c (.mv (.t 27))),
  .C6 28 true (some 29) (.c (.mv (.t 0))),
  .C6 28 true (some 30) (.c (.mv (.t 10))),
  .C6 28 true (some 31) (.c (.mv (.t 8))),
  .C6 28 true (some 32) (.Dp "Less" 213 320 (some (0,0,1,false)) (.t 29) [(.t 30),(.t 31)]),
  .op (some 33) (.c (.pick (.t 28) (.t 32) (.bool false)))] [0,1,2,7,9,10,33] [])
 (.cond (.t 33) (.rg [] [.op (some 34) (.c (.mv (.t 10))),
  .op (some 9) (.c (.mv (.t 34)))] [0,1,2,7,9] []) (.skip))))
 (Ycn)))))
def kr:Nat:=0x109b1210b30f311225113102e4f5cbe4bbcbe17656300c14418c
def nU:S:=zS [Ycm] kr
theorem Zap:Xr Tryz.prog 218 3 nU [.t 6]=true:=by kernel_rfl
def Zfw:Nat:=0x109b00f0b300e900c2f9edc692c10e21f800c01e07e731546295a0d18c
def ns:S:=zS [] Zfw
theorem Za3:Xr Tryz.prog 320 3 ns [.t 6]=true:=by kernel_rfl
def Zfx:Nat:=0x107301f0c70960e10ac50e01b36001c9d000501a1ea02601d13f01918601800496c04201509e7ef04201123f28206c00c95783904532200f0e094800d99013f0fa2e5ab3c0100627201f1591660897530040a673a1df05e21f1b60450a2031092
def nt:S:=zS [] Zfx
theorem Za4:Xr Tryz.prog 321 1 nt [.t 2]=true:=by kernel_rfl
def Zfy:Nat:=0x127093d01404217401201073f011c1e27c04655900d1844eb4eb2353f783605114904400a08908f0e2007af133a0fc3c6001226007042
def nu:S:=zS [] Zfy
theorem Yy6:Xr Tryz.prog 322 2 nu []=true:=by kernel_rfl
def Zfz:Nat:=0x19d1013a3e08d44b01283205c2c2ae08f9a9306573104000f01e07d0e20490950a20400b38d88ce7b828d0003a1
def nv:S:=zS [] Zfz
theorem Za5:Xr Tryz.prog 324 3 nv []=true:=by kernel_rfl
def cK:S2:=zL [] [] Yx7
def Yee:=(by cbv:cK=_)
def lt7:S2:=zL [] [cK] n7
def Et7:=(show lt7=_ from (λ(a:S2)=>(by cbv:zL [] [a] n7=_)) cK)
theorem lf7:ou.AZ []=some lt7:=by kernel_rfl
def Zdc:S2:=zL [] [] n23
def Zgu:=(by cbv:Zdc=_)
theorem Zjf:jM.AZ []=some Zdc:=by kernel_rfl
def Zde:S2:=zL [] [] pI
def Zgw:=(by cbv:Zde=_)
theorem Zjh:jY.AZ []=some Zde:=by kernel_rfl
def Zdw:S2:=zL [] [] n47
def Zg9:=(by cbv:Zdw=_)
theorem Zjz:jq.AZ []=some Zdw:=by kernel_rfl
def VX:S2:=zL [] [] Yfx
def Yho:=(by cbv:VX=_)
def gV:S2:=zL [] [] Yfw
def Xzg:=(by cbv:gV=_)
def VY:S2:=zL [] [gV] cz
def Yhp:=(show VY=_ from (λ(a:S2)=>(by cbv:zL [] [a] cz=_)) gV)
def gW:S2:=zL [] [VY,VX] cx
def Xzh:=(show gW=_ from (λ(a b:S2)=>(by cbv:zL [] [a,b] cx=_)) VY VX)
def Zdz:S2:=zL [] [gW] pR
def Zha:=(show Zdz=_ from (λ(a:S2)=>(by cbv:zL [] [a] pR=_)) gW)
theorem Zj1:jt.AZ []=some Zdz:=by kernel_rfl
def Zd0:S2:=zL [] [] n51
def Zhb:=(by cbv:Zd0=_)
theorem Zj2:ju.AZ []=some Zd0:=by kernel_rfl
def Zd1:S2:=zL [] [] n52
def Zhc:=(by cbv:Zd1=_)
theorem Zj3:jv.AZ []=some Zd1:=by kernel_rfl
def Yvg:S2:=zL [] [] Ze0
def Y0x:=(by cbv:Yvg=_)
theorem Y6o:lW.AZ []=some Yvg:=by kernel_rfl
def z8:S2:=zL [] [] s9
def yO:=(by cbv:z8=_)
theorem Ycy:Cb.AZ []=some z8:=by kernel_rfl
def Xvn:S2:=zL [] [] tA
def xx:=(by cbv:Xvn=_)
theorem Ycz:Cc.AZ []=some Xvn:=by kernel_rfl
def Yvh:S2:=.seq (.rg [.op (some 2) (.box 32 (.t 0))] [(1,(.a (.t 1))),(2,(.a (.t 2))),(4,(.a .AT))] [])
 (.seq (.seq (.rg [] [(2,(.a (.t 2))),(4,(.a (.t 4))),(6,(.a (.t 1)))] [])
 (.block 0 (.E4 119 [7] (.t 6) Cb Cc [2,4])))
 (.seq (.rg [] [(4,(.u (.ld 1 false (.t 0)) (.a (.t 2))))] [])
 (.ret)))
theorem Y6p:PW.AZ []=some Yvh:=by kernel_rfl
def fG:S2:=zL [] [] tB
def x8:=(by cbv:fG=_)
def UI:S2:=zL [] [fG] hS
def xy:=(show UI=_ from (λ(a:S2)=>(by cbv:zL [] [a] hS=_)) fG)
def UJ:S2:=zL [] [UI] hX
def x7:=(show UJ=_ from (λ(a:S2)=>(by cbv:zL [] [a] hX=_)) UI)
def fH:S2:=zL [] [] tC
def eG:=(by cbv:fH=_)
def UU:S2:=zL [] [fH] hY
def eF:=(show UU=_ from (λ(a:S2)=>(by cbv:zL [] [a] hY=_)) fH)
def Yvi:S2:=zL [] [UU,UJ] kO
def Y0y:=(show Yvi=_ from (λ(a b:S2)=>(by cbv:zL [] [a,b] kO=_)) UU UJ)
theorem Y6q:lX.AZ []=some Yvi:=by kernel_rfl
def UW:S2:=zL [] [] tD
def x9:=(by cbv:UW=_)
def eN:S2:=zL [] [UW] hZ
def yA:=(show eN=_ from (λ(a:S2)=>(by cbv:zL [] [a] hZ=_)) UW)
def Yvj:S2:=zL [] [eN] kP
def Y0z:=(show Yvj=_ from (λ(a:S2)=>(by cbv:zL [] [a] kP=_)) eN)
theorem Y6r:lY.AZ []=some Yvj:=by kernel_rfl
def n0:S2:=.seq (.rg [.lt 5 [] (.a (.t 1)),.lt 4 [] (.a (.t 0)),.op (some 6) (.Dp "Push" 213 322 none (.t 4) [(.t 5)])] [(0,(.a (.t 0)))] [])
 (.rg [.lt 8 [] (.a (.t 0)),.op (some 9) (.Dp "Len" 213 123 (some (0,0,1,false)) (.t 8) []),.Aa [] (.b (.Bc .sub (.t 0) (.t 1)) (.a (.t 9)) (.a (.int .i64 1))),.lt 10 [] (.b (.Bc .sub (.t 0) (.t 1)) (.a (.t 9)) (.a (.int .i64 1))),.lt 7 [] (.a (.t 0)),.op (some 11) (.call 217 [(.t 7),(.t 10)])] [] [])
theorem Yuw:lZ.AZ []=some n0:=by kernel_rfl
def Yvk:S2:=zL [] [] Ze1
def lC:=(by cbv:Yvk=_)
theorem ny:lj.AZ []=some Yvk:=by kernel_rfl
def Yvl:S2:=.seq (.rg [] [(0,(.a (.t 0)))] [])
 (.seq (.rg [.lt 4 [] (.a (.t 0)),.op (some 5) (.Dp "Len" 213 123 (some (0,0,1,false)) (.t 4) [])] [(0,(.a (.t 0))),(3,(.b (.Bc .sub (.t 0) (.t 1)) (.a (.t 5)) (.a (.int .i64 1))))] [])
 (.seq (.rg [.lt 8 [] (.a (.t 3)),.lt 7 [] (.a (.t 0)),.op (some 9) (.Dp "Swap" 213 324 (some (0,0,1,false)) (.t 7) [(.int .i64 0),(.t 8)])] [(0,(.a (.t 0))),(3,(.a (.t 3)))] [])
 (.seq (.rg [.lt 11 [] (.a (.t 3)),.lt 10 [] (.a (.t 0)),.op (some 12) (.call 218 [(.t 10),(.int .i64 0),(.t 11)])] [(0,(.a (.t 0)))] [])
 (.seq (.rg [.lt 13 [] (.a (.t 0)),.op (some 14) (.Dp "Pop" 213 321 none (.t 13) [])] [(2,(.a (.t 14)))] [])
 (.ret)))))
theorem Y6s:lk.AZ []=some Yvl:=by kernel_rfl
def VA:S2:=.block 1 (.seq (.rg [] [(0,(.a (.t 0))),(1,(.a (.t 1))),(4,(.b (.Bc .quo (.t 0) (.t 1)) (.b (.Bc .sub (.t 0) (.t 1)) (.a (.t 1)) (.a (.int .i64 1))) (.a (.int .i64 2))))] [])
 (.seq (.seq (.rg [.Aa [] (.b (.Bc .eql (.t 0) (.t 1)) (.a (.t 4)) (.a (.t 1))),.Aa [] (.ite (.b (.Bc .eql (.t 0) (.t 1)) (.a (.t 4)) (.a (.t 1))) (.a (.bool true)) (.a (.bool true))),.Aa [] (.ite (.b (.Bc .eql (.t 0) (.t 1)) (.a (.t 4)) (.a (.t 1))) (.a (.bool true)) (.a (.bool true))),.Aa [] (.ite (.b (.Bc .eql (.t 0) (.t 1)) (.a (.t 4)) (.a (.t 1))) (.a (.bool true)) (.a (.bool true))),.Aa [] (.ite (.b (.Bc .eql (.t 0) (.t 1)) (.a (.t 4)) (.a (.t 1))) (.a (.bool true)) (.a (.bool true))),.lt 14 [((.b (.Bc .eql (.t 0) (.t 1)) (.a (.t 4)) (.a (.t 1))),false)] (.a (.t 4)),.lt 13 [((.b (.Bc .eql (.t 0) (.t 1)) (.a (.t 4)) (.a (.t 1))),false)] (.a (.t 1)),.lt 12 [((.b (.Bc .eql (.t 0) (.t 1)) (.a (.t 4)) (.a (.t 1))),false)] (.a (.t 0)),.C6 [((.b (.Bc .eql (.t 0) (.t 1)) (.a (.t 4)) (.a (.t 1))),false)] (some 15) (.Dp "Less" 213 320 (some (0,0,1,false)) (.t 12) [(.t 13),(.t 14)])] [(0,(.a (.t 0))),(1,(.a (.t 1))),(4,(.a (.t 4))),(17,(.ite (.b (.Bc .eql (.t 0) (.t 1)) (.a (.t 4)) (.a (.t 1))) (.a (.bool true)) (.u (.not (.t 0)) (.a (.t 15)))))] [])
 (.cond (.t 17) (.exit 0) (.skip)))
 (.seq (.rg [.lt 20 [] (.a (.t 1)),.lt 19 [] (.a (.t 4)),.lt 18 [] (.a (.t 0)),.op (some 21) (.Dp "Swap" 213 324 (some (0,0,1,false)) (.t 18) [(.t 19),(.t 20)])] [(0,(.a (.t 0))),(4,(.a (.t 4)))] [])
 (.rg [] [(0,(.a (.t 0))),(1,(.a (.t 4)))] []))))
def Ywp:S2:=zL [] [VA] ko
def Y1k:=(show Ywp=_ from (λ(a:S2)=>(by cbv:zL [] [a] ko=_)) VA)
theorem Y7q:nT.AZ []=some Ywp:=by kernel_rfl
def fc:S2:=.seq (.seq (.rg [.lt 37 [] (.a (.t 7)),.lt 36 [] (.a (.t 9)),.lt 35 [] (.a (.t 0)),.op (some 38) (.Dp "Less" 213 320 (some (0,0,1,false)) (.t 35) [(.t 36),(.t 37)])] [(0,(.a (.t 0))),(1,(.a (.t 1))),(2,(.a (.t 2))),(7,(.a (.t 7))),(9,(.a (.t 9))),(39,(.u (.not (.t 0)) (.a (.t 38))))] [])
 (.cond (.t 39) (.exit 0) (.skip)))
 (.seq (.rg [.lt 42 [] (.a (.t 9)),.lt 41 [] (.a (.t 7)),.lt 40 [] (.a (.t 0)),.op (some 43) (.Dp "Swap" 213 324 (some (0,0,1,false)) (.t 40) [(.t 41),(.t 42)])] [(0,(.a (.t 0))),(1,(.a (.t 1))),(2,(.a (.t 2))),(9,(.a (.t 9)))] [])
 (.rg [] [(0,(.a (.t 0))),(1,(.a (.t 1))),(2,(.a (.t 2))),(7,(.a (.t 9)))] []))
def Rj:S2:=.block 1 (.seq (.rg [] [(0,(.a (.t 0))),(1,(.a (.t 1))),(2,(.a (.t 2))),(7,(.a (.t 7))),(8,(.b (.Bc .add (.t 0) (.t 1)) (.b (.Bc .mul (.t 0) (.t 1)) (.a (.int .i64 2)) (.a (.t 7))) (.a (.int .i64 1))))] [])
 (.seq (.seq (.rg [] [(0,(.a (.t 0))),(1,(.a (.t 1))),(2,(.a (.t 2))),(7,(.a (.t 7))),(8,(.a (.t 8))),(21,(.ite (.b (.Bc .geq (.t 0) (.t 1)) (.a (.t 8)) (.a (.t 2))) (.a (.bool true)) (.b (.Bc .lss (.t 0) (.t 1)) (.a (.t 8)) (.a (.int .i64 0)))))] [])
 (.cond (.t 21) (.exit 0) (.skip)))
 (.seq (.rg [] [(0,(.a (.t 0))),(1,(.a (.t 1))),(2,(.a (.t 2))),(7,(.a (.t 7))),(8,(.a (.t 8))),(9,(.a (.t 8)))] [])
 (.seq (.seq (.rg [] [(0,(.a (.t 0))),(1,(.a (.t 1))),(2,(.a (.t 2))),(7,(.a (.t 7))),(8,(.a (.t 8))),(9,(.a (.t 9))),(10,(.b (.Bc .add (.t 0) (.t 1)) (.a (.t 8)) (.a (.int .i64 1))))] [])
 (.seq (.rg [.Aa [] (.b (.Bc .lss (.t 0) (.t 1)) (.a (.t 10)) (.a (.t 2))),.Aa [] (.ite (.b (.Bc .lss (.t 0) (.t 1)) (.a (.t 10)) (.a (.t 2))) (.a (.bool true)) (.a (.bool true))),.Aa [] (.ite (.b (.Bc .lss (.t 0) (.t 1)) (.a (.t 10)) (.a (.t 2))) (.a (.bool true)) (.a (.bool true))),.Aa [] (.ite (.b (.Bc .lss (.t 0) (.t 1)) (.a (.t 10)) (.a (.t 2))) (.a (.bool true)) (.a (.bool true))),.Aa [] (.ite (.b (.Bc .lss (.t 0) (.t 1)) (.a (.t 10)) (.a (.t 2))) (.a (.bool true)) (.a (.bool true))),.lt 31 [((.b (.Bc .lss (.t 0) (.t 1)) (.a (.t 10)) (.a (.t 2))),true)] (.a (.t 8)),.lt 30 [((.b (.Bc .lss (.t 0) (.t 1)) (.a (.t 10)) (.a (.t 2))),true)] (.a (.t 10)),.lt 29 [((.b (.Bc .lss (.t 0) (.t 1)) (.a (.t 10)) (.a (.t 2))),true)] (.a (.t 0)),.C6 [((.b (.Bc .lss (.t 0) (.t 1)) (.a (.t 10)) (.a (.t 2))),true)] (some 32) (.Dp "Less" 213 320 (some (0,0,1,false)) (.t 29) [(.t 30),(.t 31)])] [(0,(.a (.t 0))),(1,(.a (.t 1))),(2,(.a (.t 2))),(7,(.a (.t 7))),(9,(.a (.t 9))),(10,(.a (.t 10))),(33,(.ite (.b (.Bc .lss (.t 0) (.t 1)) (.a (.t 10)) (.a (.t 2))) (.a (.t 32)) (.a (.bool false))))] [])
 (.cond (.t 33) (.rg [] [(0,(.a (.t 0))),(1,(.a (.t 1))),(2,(.a (.t 2))),(7,(.a (.t 7))),(9,(.a (.t 10)))] []) (.skip))))
 (fc)))))
def Ywq:S2:=zL [] [Rj] kr
def Y1l:=(show Ywq=_ from (λ(a:S2)=>(by cbv:zL [] [a] kr=_)) Rj)
theorem Y7r:nU.AZ []=some Ywq:=by kernel_rfl
def Yw4:S2:=zL [] [] Zfw
def Y1y:=(by cbv:Yw4=_)
theorem Y75:ns.AZ []=some Yw4:=by kernel_rfl
def Yw5:S2:=zL [] [] Zfx
def Y1z:=(by cbv:Yw5=_)
theorem Y76:nt.AZ []=some Yw5:=by kernel_rfl
def Yw6:S2:=zL [] [] Zfy
def Yq6:=(by cbv:Yw6=_)
theorem Yuz:nu.AZ []=some Yw6:=by kernel_rfl
def Yw7:S2:=zL [] [] Zfz
def Y10:=(by cbv:Yw7=_)
theorem Y77:nv.AZ []=some Yw7:=by kernel_rfl
def Ps:Option (List Int)->D
|some l=>X9 l
|none=>.AT
theorem rl {d:D}{l:List Int}(h:D.le d (X9 l)):d=X9 l\/(d=.AT/\l=[]):=by
 have e:∀(l:List Int)(b:List D),Bq b (l.map iD)->b=l.map iD:=λl=>by
  induction l with
  |nil=>intro b h;cases b with
   |nil=>rfl
   |cons x r=>simp[Bq]at h
  |cons a r i=>intro b h;cases b with
   |nil=>simp[Bq]at h
   |cons x s=>
    simp only[Cg,Bq]at h;obtain⟨y,t,e,f,c⟩:=h;cases e;rw[i _ c,Cg];congr 1;cases x<;>simp[D.le]at f<;>simp[f]
 cases d with
 |AT=>simp[D.le,X9]at h;exact .inr ⟨rfl,h⟩
 |AF a b=>
  simp only[D.le,X9]at h;obtain⟨j,g,c⟩:=h;cases g;left;rw[e l b c];rfl
 |_=>simp[D.le,X9]at h
structure HU (P:Az)(y:Ah)(e:Int)(o:Option (List Int)):Prop where
 call:∀(ob:AB)(K:V->Prop),(∀d,D.le d (Ps o)->K (.BE [.d d,.d (.bool o.isSome),.d (iD e)]))->AU P 25 [.d y.enc] ob K
 len:∀l,o=some l->l.length<=9223372036854775807
def Q0 (y:Ah)(e:Int)(o:Option (List Int)):Int:=if Uj y=0 then (if e=0 then (if o.isSome then 0 else 141) else e) else Uj y
def XA (y:Ah):Option (List Int)->Bool
|some l=>LU l y.AD.length
|none=>false
def Vw (y:Ah)(e:Int)(o:Option (List Int)):Int:=if Q0 y e o=0 then (if XA y o then 0 else 141) else Q0 y e o
section
variable {P:Az} (hP:P.p=Tryz.prog)
include hP
theorem X93 {y:Ah}(f:y.BC){e:Int}{o:Option (List Int)}(c:HU P y e o){g:AB}{K:V->Prop}(h:K (.d (iD (Q0 y e o)))):AU P 47 [.d y.enc] g K:=by
 refine AJ hP AO (ds:=[y.enc]) Znt Zjz BD.nil ?_;have i:y.enc.shape.size=6:=by rw[CC];rfl
 have j:y.enc.sz=6:=rfl;simp[Zg9,i,j];refine⟨rfl,US hP f ?_⟩;by_cases a:Uj y=0
 ·simp[a];refine⟨rfl,c.call _ _ λd k=>?_⟩;by_cases b:e=0
  ·cases o<;>simpa[b,Q0,a]using h
  ·simpa[b,Q0,a]using h
 ·simpa[a,Q0]using h
theorem X9n {n:Int}{m:Nat}{a:AB}(f:AA a m=some (.map [])){K:A7->AB->Prop}(h:∀g,K (.ret (.d (.bool (LU [] n)))) (AG a m (.map g))):AV P 48 [.mp m,.d .AT,.d (.int .i64 n)] a K:=by
 refine Xk hP AO Zf1 Zc2 BD.nil λ_ c=>?_;have l:=Xf f;simp[Zbi];refine Ae.go (ι:=Nat) (λk=>[(0,.mp m),(1,.d .AT),(2,.d (.int .i64 n)),(9,.d .AT),(10,.d (.int .i64 0)),(11,.d (.int .i64 0))]) (λ_=>a) (λ_=>True) (λk=>0) 0 trivial (by simp) rfl ?_;rintro k _ R o j q p;simp[VK];refine j _ _ _ ?_;simp;have i:=Wn f;have b:=h [];rw[i]at b;refine⟨[],by simp,by simpa using c [],?_⟩;have e:LU [] n=((0:Int)==n):=by simp[LU];rfl
 rw[e]at b;simpa[AE]using b
theorem X0n {y:Ah}(p:y.BC){e:Int}{o:Option (List Int)}(c:HU P y e o){r:AB}{K:V->Prop}(h:K (.d (iD (Vw y e o)))):AU P 23 [.d y.enc] r K:=by
 refine AJ hP AO (ds:=[y.enc]) Zm9 Zjf BD.nil ?_;have s:y.enc.shape.size=6:=by rw[CC];rfl
 have t:y.enc.sz=6:=rfl;have q:∀x:Ah,(V.d x.enc).BM=some [.d (.AF 1 (x.Al.map .AM)),.d (.AF 5 (x.Au.map At.enc)),.d (.AF 6 (x.AD.map AI.enc)),.d (.AF 5 (x.AK.map Ai.enc)),.d (.AF 5 (x.AQ.map Ag.enc)),.d (.AF 3 (x.AN.map AR.enc))]:=λ_=>rfl;simp[Zgu,s,t];refine⟨rfl,X93 hP p c ?_⟩;by_cases a:Q0 y e o=0
 ·have f:e=0:=by
   unfold Q0 at a;split at a
   ·split at a
    ·assumption
    ·exact a
   ·contradiction
  have g:o.isSome=true:=by
   unfold Q0 at a;split at a
   ·rename_i u;cases m:o.isSome with
    |true=>rfl
    |false=>simp[m,f]at a
   ·contradiction
  rw[Vw,BL a]at h;simp[a];refine⟨rfl,c.call _ _ λd j=>?_⟩;cases o with
  |none=>cases g
  |some l=>
   simp[f,q,XA]at h⊢;have Cm:∀v b,v=V.d (.bool b)->K (.d (.int .i64 (if b=true then 0 else 141)))->S9 v/\Hf (K (V.d (D.int IntKind.i64 141))) (K (V.d (D.int IntKind.i64 0))) (M0 v):=λv b n k=>by
    subst n;cases b<;>simpa using k
   rcases rl j with rfl|⟨rfl,rfl⟩
   ·refine Yh0 hP (c.len l rfl) (by simp[AA]) λi=>?_;exact Cm _ _ rfl h
   ·refine X9n hP (by simp[AA]) λi=>?_;exact Cm _ _ rfl h
 ·simpa[a,Vw]using h
end
def Nn (y:Ah)(s f v:Int):Bool:=match Ua y s f with
|none=>false
|some x=>Ir y.Au.length x.type&&decide (x.type.lo<=v)&&decide (v<=x.type.hi)
def Ux (y:Ah)(s:Int):Nat->List Ad->Bool
|_,[]=>true
|k,f::r=>Nn y s k f.type.lo&&Ux y s (k+1) r
def Ws (y:Ah)(s:Int):Bool:=decide (0<=s)&&(match y.AD[s.toNat]? with
|none=>false
|some c=>Ux y s 0 c.AL&&(match c.AL[0]? with|none=>false|some f=>decide (f.type.kind=3)))
def Mi (a b:A4)(n:Int):Bool:=
 if a.kind≠b.kind then false
 else if a.kind=1\/a.kind=2 then decide (b.lo=IntKind.i64.wrap (a.lo+n))&&decide (b.hi=IntKind.i64.wrap (a.hi+n))&&decide (a.unit=b.unit)
 else decide (n=0)&&decide (a.lo=b.lo)&&decide (a.hi=b.hi)&&decide (a.names.length=b.names.length)
section
variable {P:Az} (hP:P.p=Tryz.prog)
include hP
theorem Yi0 {y:Ah}(u:y.BC){s f v:Int}{w:AB}{K:V->Prop}(h:K (.d (.bool (Nn y s f v)))):AU P 216 [.d y.enc,.d (.int .i64 s),.d (.int .i64 f),.d (.int .i64 v)] w K:=by
 refine AJ hP AO (ds:=[y.enc,.int .i64 s,.int .i64 f,.int .i64 v]) Zan Y7p BD.nil ?_;have o:y.enc.shape.size=6:=by rw[CC];rfl
 have F:∀x:A4,x.enc.shape.size=6:=λx=>by rw[CC];rfl
 have z:∀x:A4,x.enc.shape=.node [.AX,.AX,.AX,.AX,.AX,.AX]:=λ_=>rfl;have n:∀x:A4,x.enc=.agg [iD x.kind,iD x.lo,iD x.hi,.AM x.CF,iD x.unit,Xg x.names]:=λ_=>rfl;simp[Y1j,o];refine⟨rfl,rfl,UT hP (λc=>?_) (λi g j k q p=>?_)⟩
 ·have a:=Us (y:=y) (s:=s) (f:=f) c;simp[Ln];simpa[Nn,a]using h
 ·have a:=T2 g k;rw[<-q,<-p]at a;have t:Nn y s f v=(Ir y.Au.length y.AD[i].AL[j].type&&decide (y.AD[i].AL[j].type.lo<=v)&&decide (v<=y.AD[i].AL[j].type.hi)):=by simp[Nn,a]
  rw[t]at h;have l:=(u.AP _ (CS g)).names _ (CS k);generalize y.AD[i].AL[j].type=x at h l;simp[z,F,o];refine⟨rfl,zJ hP (y:=y) x l ?_⟩;cases m:Ir y.Au.length x with
  |false=>simpa[n,m]using h
  |true=>
   have r:∀b,b=(decide (x.lo<=v)&&decide (v<=x.hi))->K (.d (.bool b)):=λb e=>by rw[e];simpa[m]using h
   simp[n];apply r;rfl
theorem Ysf {a b:A4}{n:Int}{l:AB}{K:V->Prop}(h:K (.d (.bool (Mi a b n)))):AU P 117 [.d a.enc,.d b.enc,.d (.int .i64 n)] l K:=by
 refine AJ hP AO (ds:=[a.enc,b.enc,.int .i64 n]) Y9g Y6n BD.nil ?_;have i:∀c,c=Mi a b n->K (.d (.bool c)):=λc e=>e▸h;clear h;by_cases g:a.kind=b.kind
 rotate_left
 ·simp[k9,A4.enc,Xg,g];exact i _ (by simp[Mi,g])
 by_cases f:b.kind=1\/b.kind=2
 ·rcases f with f|f
  all_goals
   simp[k9,A4.enc,Xg,g,f];exact i _ (by rw[Dl];simp[Mi,g,f])
 ·have j:¬b.kind=1:=λe=>f (.inl e);have k:¬b.kind=2:=λe=>f (.inr e);simp[k9,A4.enc,Xg,g,j,k];exact i _ (by simp[Mi,g,j,k];rw[Dl];simp;omega)
theorem zH {y:Ah}(u:y.BC){s:Int}{N:AB}{K:V->Prop}(h:K (.d (.bool (Ws y s)))):AU P 116 [.d y.enc,.d (.int .i64 s)] N K:=by
 refine AJ hP AO (ds:=[y.enc,.int .i64 s]) Y9f Y6m BD.nil ?_;have g:Ws y s=false->K (.d (.bool false)):=λe=>by rw[e]at h;exact h
 have X:y.enc.shape.size=6:=by rw[CC];rfl
 have l:y.enc=.agg [Xg y.Al,.AF 5 (y.Au.map At.enc),.AF 6 (y.AD.map AI.enc),.AF 5 (y.AK.map Ai.enc),.AF 5 (y.AQ.map Ag.enc),.AF 3 (y.AN.map AR.enc)]:=rfl;have T:∀c:AI,c.enc=.agg [.AM c.name,.AM c.FJ,iD c.Bz,iD c.BT,.AF 11 (c.AL.map Ad.enc),.AF 4 (c.Aj.map Ax.enc)]:=λ_=>rfl;have p:∀f:Ad,f.enc=.agg [.AM f.name,.agg [iD f.type.kind,iD f.type.lo,iD f.type.hi,.AM f.type.CF,iD f.type.unit,Xg f.type.names],.agg [iD f.w0,iD f.w1,iD f.w2,iD f.w3]]:=λ_=>rfl;by_cases o:s<0
 ·simp[kz,l,Xg,o];exact g (by simp[Ws,show ¬0<=s by omega])
 by_cases x:(y.AD.length:Int)<=s
 ·simp[kz,l,Xg,o,x];have M:y.AD[s.toNat]? = none:=O2 (by omega);exact g (by unfold Ws;rw[M];simp)
 obtain⟨i,rfl⟩:∃i:Nat,s=i:=⟨s.toNat,by omega⟩
 have n:i<y.AD.length:=by omega
 have z:¬(i:Int)<0:=by omega
 have F:¬(y.AD.length:Int)<=i:=by omega
 have U:=T y.AD[i];have L:y.AD[i].AL.length<=9223372036854775807:=(u.AP _ (CS n)).AL;have J:Ws y i=(Ux y i 0 y.AD[i].AL&&(match y.AD[i].AL[0]? with|none=>false|some f=>decide (f.type.kind=3))):=by
  simp[Ws,Cn n]
 rw[J]at h g;simp[kz,l,Xg,n,U,z,F];generalize y.AD[i].AL=a at h g L;refine Ae.upto a.length (λk=>[(1,.d (.int .i64 i)),(2,.ptr 0 []),(5,.d (.AF 11 (a.map Ad.enc))),(23,.d (.AF 11 (a.map Ad.enc))),(24,.d (.int .i64 a.length)),(25,.d (.int .i64 k))])
  (λ_=>[(0,.box 29 (.d y.enc))]) (λk=>Ux y i 0 a=Ux y i k (a.drop k)) (by simp) (by simp) (by simp[l,Xg]) ?_ ?_
 ·intro k q m R O v w Q;have W:IntKind.i64.wrap ((k:Int)+1)=(k:Int)+1:=IntWalk.i64_in _ (by omega);have j:Ux y i 0 a=(Nn y i k a[k].type.lo&&Ux y i (k+1) (a.drop (k+1))):=by rw[m,Db q,Ux]
  have G:=p a[k];simp[yN,q,G,Xg,X];refine⟨rfl,Yi0 hP u ?_⟩;cases t:Nn y i k a[k].type.lo with
  |false=>
   simp;refine w _ _ ?_;simp;exact g (by rw[j,t];rfl)
  |true=>
   simp;refine O [] _ _ (by rw[j,t,EA]) (by simp[W]) (by simp[AE]) (by simp[AE]) (by simp[AE])
 ·intro m R v w Q;simp[yN];refine v _ _ _ ?_;rw[m,List.drop_length,Ux,EA]at h
  match a,h with
  |[],h=>simpa using h
  |f::r,h=>
   simp[p f];have H:∀b,b=decide (f.type.kind=3)->K (.d (.bool b)):=λb e=>by rw[e];simpa using h
   apply H;rw[Dl];simp
end
def Qx (n:Nat)(l:List Int):List D:=(List.range n).map λ(i:Nat)=>D.bool (decide ((i:Int)∈l))
theorem xS (n:Nat):Qx n []=List.replicate n (.bool false):=by
 apply List.ext_getElem<;>simp[Qx]
theorem X4z (n:Nat)(l:List Int):(Qx n l).length=n:=by simp[Qx]
theorem Yc4 (n:Nat)(l:List Int)(i:Nat)(h:i<(Qx n l).length):(Qx n l)[i]=.bool (decide ((i:Int)∈l)):=by simp[Qx]
theorem xT (n:Nat)(l:List Int)(i:Nat)(h:i<n):(Qx n l).set i (.bool true)=Qx n (l++[(i:Int)]):=by
 apply List.ext_getElem
 ·simp[Qx]
 ·intro j a b;simp only[Qx,List.length_set,List.length_map,List.length_range]at a;rw[List.getElem_set];split
  ·rename_i e;subst e;simp[Qx]
  ·rename_i e;have:¬((j:Int)=i):=by omega
   simp[Qx,this]
def Hc (c d:List Ad)(m:A8):Bool:=
 decide (1<=m.a)&&decide (m.a<c.length)&&decide (1<=m.b)&&decide (m.b<d.length)&&
 (match c[m.a.toNat]?,d[m.b.toNat]? with|some x,some z=>Mi x.type z.type m.shift|_,_=>false)
def Wj (y:Ah)(s:Int):List Ad:=match y.AD[s.toNat]? with|some c=>c.AL|none=>[]
def Hw (y:Ah)(c:Ag):Bool:=
 decide (c.a≠c.b)&&Ws y c.a&&Ws y c.b&&decide ((c.Ap.length:Int)=(Wj y c.a).length-1)&&decide ((c.Ap.length:Int)=(Wj y c.b).length-1)&&
 c.Ap.all (Hc (Wj y c.a) (Wj y c.b))&&decide (c.Ap.map A8.a).Nodup&&decide (c.Ap.map A8.b).Nodup
theorem vO {l:List Int}{k:Nat}(a:k<l.length)(h:l.Nodup):l[k]∉l.take k:=by
 intro b;rw[<-Kh (k+1) l,Em,Ca a,Em]at h;exact h.1.2.2 _ b _ (by simp) rfl
section
variable {P:Az} (hP:P.p=Tryz.prog)
include hP
set_option maxHeartbeats 2000000 in
theorem X95 {y:Ah}(hy:y.BC)(hf:∀s∈y.AD,s.AL.length<=1000000){c:Ag}(hc:c.Ap.length<=9223372036854775807){ob:AB}{K:V->Prop}(h:K (.d (.bool (Hw y c)))):AU P 49 [.d y.enc,.d c.enc] ob K:=by
 refine AJ hP AO (ds:=[y.enc,c.enc]) Znu Zj0 BD.nil ?_;have o:Hw y c=false->K (.d (.bool false)):=λe=>by rw[e]at h;exact h
 have yz:y.enc.shape.size=6:=by rw[CC];rfl
 have yI:y.enc=.agg [Xg y.Al,.AF 5 (y.Au.map At.enc),.AF 6 (y.AD.map AI.enc),.AF 5 (y.AK.map Ai.enc),.AF 5 (y.AQ.map Ag.enc),.AF 3 (y.AN.map AR.enc)]:=rfl;have se:∀c:AI,c.enc=.agg [.AM c.name,.AM c.FJ,iD c.Bz,iD c.BT,.AF 11 (c.AL.map Ad.enc),.AF 4 (c.Aj.map Ax.enc)]:=λ_=>rfl;have fe:∀f:Ad,f.enc=.agg [.AM f.name,.agg [iD f.type.kind,iD f.type.lo,iD f.type.hi,.AM f.type.CF,iD f.type.unit,Xg f.type.names],.agg [iD f.w0,iD f.w1,iD f.w2,iD f.w3]]:=λ_=>rfl;by_cases b1:c.a=c.b
 ·simp[Zbj,Ag.enc,yz,b1];exact o (by simp[Hw,b1])
 have Z:(c.a==c.b)=false:=by simpa using b1
 simp[Zbj,Ag.enc,yz,Z];have yk:(V.d y.enc).BM=some [.d (Xg y.Al),.d (.AF 5 (y.Au.map At.enc)),.d (.AF 6 (y.AD.map AI.enc)),.d (.AF 5 (y.AK.map Ai.enc)),.d (.AF 5 (y.AQ.map Ag.enc)),.d (.AF 3 (y.AN.map AR.enc))]:=rfl;refine⟨rfl,zH hP hy ?_⟩;cases W:Ws y c.a with
 |false=>
  simp;exact o (by simp[Hw,W])
 |true=>
  simp;refine⟨rfl,zH hP hy ?_⟩;cases X:Ws y c.b with
  |false=>
   simp;exact o (by simp[Hw,X])
  |true=>
   have hA:∃i:Nat,c.a=i/\∃L:i<y.AD.length,True:=by
    unfold Ws at W;simp only[As,Bs]at W;refine⟨c.a.toNat,by omega,?_⟩;have J:=W.2;split at J
    ·cases J
    ·rename_i e;exact⟨(EK.1 e).1,trivial⟩
   have aa:∃i:Nat,c.b=i/\∃L:i<y.AD.length,True:=by
    unfold Ws at X;simp only[As,Bs]at X;refine⟨c.b.toNat,by omega,?_⟩;have J:=X.2;split at J
    ·cases J
    ·rename_i e;exact⟨(EK.1 e).1,trivial⟩
   obtain⟨i,ei,L,_⟩:=hA;obtain⟨j,ej,hj,_⟩:=aa;have si:=se y.AD[i];have sj:=se y.AD[j];have fA:Wj y c.a=y.AD[i].AL:=by simp[Wj,ei,Cn L]
   have fB:Wj y c.b=y.AD[j].AL:=by simp[Wj,ej,Cn hj]
   have hB:Hw y c=(decide ((c.Ap.length:Int)=y.AD[i].AL.length-1)&&decide ((c.Ap.length:Int)=y.AD[j].AL.length-1)&&
    c.Ap.all (Hc y.AD[i].AL y.AD[j].AL)&&decide (c.Ap.map A8.a).Nodup&&decide (c.Ap.map A8.b).Nodup):=by
    have:c.a≠c.b:=b1;simp[Hw,this,W,X,fA,fB]
   rw[hB]at h o;have la:=hf _ (CS L);have lb:=hf _ (CS hj);have wa:IntKind.i64.wrap ((y.AD[i].AL.length:Int)-1)=(y.AD[i].AL.length:Int)-1:=IntWalk.i64_in _ (by omega);have wb:IntKind.i64.wrap ((y.AD[j].AL.length:Int)-1)=(y.AD[j].AL.length:Int)-1:=IntWalk.i64_in _ (by omega);simp[yk,ei,ej,L,hj,si,sj,wa,wb]
   try (refine⟨rfl,?_⟩)
   refine⟨λag=>o ?_,λna nb=>?_⟩
   ·rw[Nc];intro ht;simp only[As,Bs]at ht;omega
   have ab:Hw y c=(c.Ap.all (Hc y.AD[i].AL y.AD[j].AL)&&decide (c.Ap.map A8.a).Nodup&&decide (c.Ap.map A8.b).Nodup):=by
    rw[hB,En na,En nb];simp
   rw[<-hB,ab]at h o;generalize ae:y.AD[i].AL=g at *;generalize af:y.AD[j].AL=l at *;have me:∀m:A8,m.enc=.agg [.AM m.CA,.AM m.Aw,iD m.b,iD m.a,iD m.shift]:=λ_=>rfl;refine⟨⟨by omega,by omega,Ae.upto c.Ap.length (λk=>[(5,.d (.AF 11 (g.map Ad.enc))),(6,.d (.AF 11 (l.map Ad.enc))),(7,.sl 2 g.length),(8,.sl 3 l.length),(67,.d (.AF 5 (c.Ap.map A8.enc))),(68,.d (.int .i64 c.Ap.length)),(69,.d (.int .i64 k))]) (λk=>[(3,.A9 4 1 (Qx l.length ((c.Ap.map A8.b).take k))),(2,.A9 4 1 (Qx g.length ((c.Ap.map A8.a).take k))),(1,.box 66 (.d (.agg [.AM c.Aw,.AM c.CA,iD i,iD j,.AF 5 (c.Ap.map A8.enc)]))),(0,.box 29 (.d y.enc))]) (λk=>(c.Ap.take k).all (Hc g l)=true/\((c.Ap.map A8.a).take k).Nodup/\((c.Ap.map A8.b).take k).Nodup) (by simp) (by simp) (by simp[xS]) ?a1 ?a2⟩,by omega,by omega,Ae.upto c.Ap.length (λk=>[(5,.d (.AF 11 (g.map Ad.enc))),(6,.d (.AF 11 (l.map Ad.enc))),(7,.sl 3 g.length),(8,.sl 2 l.length),(67,.d (.AF 5 (c.Ap.map A8.enc))),(68,.d (.int .i64 c.Ap.length)),(69,.d (.int .i64 k))]) (λk=>[(3,.A9 4 1 (Qx g.length ((c.Ap.map A8.a).take k))),(2,.A9 4 1 (Qx l.length ((c.Ap.map A8.b).take k))),(1,.box 66 (.d (.agg [.AM c.Aw,.AM c.CA,iD i,iD j,.AF 5 (c.Ap.map A8.enc)]))),(0,.box 29 (.d y.enc))]) (λk=>(c.Ap.take k).all (Hc g l)=true/\((c.Ap.map A8.a).take k).Nodup/\((c.Ap.map A8.b).take k).Nodup) (by simp) (by simp) (by simp[xS]) ?b1 ?b2⟩
   case a1|b1=>
    intro k t r R rn re F rp;have wr:IntKind.i64.wrap ((k:Int)+1)=(k:Int)+1:=IntWalk.i64_in _ (by omega);have Q:=Wg (p:=Hc g l) t;rw[r.1,EA]at Q;have M:k<(c.Ap.map A8.a).length:=by simpa using t
    have N:k<(c.Ap.map A8.b).length:=by simpa using t
    have ta:=Ca M;have tb:=Ca N;have q:Hc g l c.Ap[k]=false->K (.d (.bool false)):=λe=>o (by
     have:c.Ap.all (Hc g l)=false:=List.all_eq_false.2 ⟨_,CS t,by simp[e]⟩;rw[this];rfl)
    have u:c.Ap[k].a∈(c.Ap.map A8.a).take k->K (.d (.bool false)):=λe=>o (by
     have:¬(c.Ap.map A8.a).Nodup:=λhn=>vO M hn (by simpa using e);rw[DX this];simp)
    have v:c.Ap[k].b∈(c.Ap.map A8.b).take k->K (.d (.bool false)):=λe=>o (by
     have:¬(c.Ap.map A8.b).Nodup:=λhn=>vO N hn (by simpa using e);rw[DX this];simp)
    simp only[List.getElem_map]at ta tb;have U:=me c.Ap[k];generalize O:c.Ap[k]=m at *;by_cases Y:m.a<1
    ·simp[O4,t,O,U,Y];refine F _ _ ?_;simp;exact q (by simp[Hc,show ¬1<=m.a by omega])
    by_cases d2:(g.length:Int)<=m.a
    ·simp[O4,t,O,U,Y,d2];refine F _ _ ?_;simp;exact q (by simp[Hc,show ¬m.a<g.length by omega])
    by_cases d3:m.b<1
    ·simp[O4,t,O,U,Y,d2,d3];refine F _ _ ?_;simp;exact q (by simp[Hc,show ¬1<=m.b by omega])
    by_cases d4:(l.length:Int)<=m.b
    ·simp[O4,t,O,U,Y,d2,d3,d4];refine F _ _ ?_;simp;exact q (by simp[Hc,show ¬m.b<l.length by omega])
    obtain⟨a,G⟩:∃a:Nat,m.a=a:=⟨m.a.toNat,by omega⟩
    obtain⟨b,H⟩:∃b:Nat,m.b=b:=⟨m.b.toNat,by omega⟩
    have ha:a<g.length:=by omega
    have hb:b<l.length:=by omega
    have sa:=xT g.length ((c.Ap.map A8.a).take k) a ha;have sb:=xT l.length ((c.Ap.map A8.b).take k) b hb;have xa:=fe g[a];have xb:=fe l[b];have e1:¬(a:Int)<1:=by omega
    have e2:¬(b:Int)<1:=by omega
    have e3:¬(g.length:Int)<=a:=by omega
    have e4:¬(l.length:Int)<=b:=by omega
    rw[G]at u;rw[H]at v;simp[O4,t,O,U,G,H,e1,e2,e3,e4,ha,hb,Yc4,sa,sb,X4z,xa,xb,Xg];refine⟨λhh=>?_,λma mb=>?_⟩
    ·refine F _ _ ?_;simp;exact hh.elim u v
    ·refine Ysf hP (a:=g[a].type) (b:=l[b].type) (n:=m.shift) ?_;have eM:Hc g l m=Mi g[a].type l[b].type m.shift:=by
      have u1:(1:Int)<=a:=by omega
      have u2:(1:Int)<=b:=by omega
      simp[Hc,G,H,ha,hb,u1,u2]
     cases w:Mi g[a].type l[b].type m.shift with
     |false=>
      simp;refine F _ _ ?_;simp;exact q (by rw[eM,w])
     |true=>
      simp;refine rn [] _ _ ⟨by rw[Q,eM,w],?_,?_⟩ (by simp[wr]) ?_ (by simp[AE]) (by simp[AE])
      ·rw[ta,G,Em];refine⟨r.2.1,by simp,λx hx z T=>?_⟩;simp only[DW]at T;subst T;exact λe=>ma (e▸hx)
      ·rw[tb,H,Em];refine⟨r.2.2,by simp,λx hx z T=>?_⟩;simp only[DW]at T;subst T;exact λe=>mb (e▸hx)
      ·rw[ta,tb,G,H];simp[AE]
   case a2|b2=>
    intro r R re F rp;simp only[C0]at r;have ac:(c.Ap.map A8.a).take c.Ap.length=c.Ap.map A8.a:=JI (by simp);have ad:(c.Ap.map A8.b).take c.Ap.length=c.Ap.map A8.b:=JI (by simp);rw[ac,ad]at r;simp[O4];refine re _ _ _ ?_;simp;rw[r.1,En r.2.1,En r.2.2]at h;exact h
theorem X97 {y:Ah}(g:y.BC)(o:∀s∈y.AD,s.AL.length<=1000000){q:AB}{K:V->Prop}(h:K (.d (iD (if y.AQ.all (Hw y) then 0 else 150)))):AU P 24 [.d y.enc] q K:=by
 refine AJ hP AO (ds:=[y.enc]) Zna Zjg BD.nil ?_;have z:y.enc=.agg [Xg y.Al,.AF 5 (y.Au.map At.enc),.AF 6 (y.AD.map AI.enc),.AF 5 (y.AK.map Ai.enc),.AF 5 (y.AQ.map Ag.enc),.AF 3 (y.AN.map AR.enc)]:=rfl;have w:y.enc.shape.size=6:=by rw[CC];rfl
 have v:(V.d y.enc).BM=some [.d (Xg y.Al),.d (.AF 5 (y.Au.map At.enc)),.d (.AF 6 (y.AD.map AI.enc)),.d (.AF 5 (y.AK.map Ai.enc)),.d (.AF 5 (y.AQ.map Ag.enc)),.d (.AF 3 (y.AN.map AR.enc))]:=rfl;have x:=g.AQ;simp[Zgv,v]
 try (refine⟨rfl,?_⟩)
 refine Ae.upto y.AQ.length (λk=>[(1,.ptr 0 []),(6,.d (.AF 5 (y.AQ.map Ag.enc))),(7,.d (.int .i64 y.AQ.length)),(8,.d (.int .i64 k))])
  (λ_=>[(0,.box 29 (.d y.enc))]) (λk=>(y.AQ.take k).all (Hw y)=true) (by simp) (by simp) (by simp) ?_ ?_
 ·intro k e b R r j l t;have u:IntKind.i64.wrap ((k:Int)+1)=(k:Int)+1:=IntWalk.i64_in _ (by omega);have a:=Wg (p:=Hw y) e;rw[b,EA]at a;have n:∀c:Ag,c.enc.sz=5:=λc=>rfl;have f:∀c:Ag,c.enc.shape.size=5:=λc=>by rw[CC];rfl
  have m:∀c:Ag,c.enc.shape=.node [.AX,.AX,.AX,.AX,.AX]:=λ_=>rfl;simp[Xy2,e,n,f,m,w];refine⟨rfl,rfl,rfl,rfl,X95 hP g o (g.Ap _ (CS e)) ?_⟩;cases i:Hw y y.AQ[k]with
  |false=>
   simp;refine l _ _ ?_;simp;have:y.AQ.all (Hw y)=false:=List.all_eq_false.2 ⟨_,CS e,by simp[i]⟩;rw[this]at h;exact h
  |true=>
   simp;refine r [] _ _ (by rw[a,i]) (by simp[u]) (by simp[AE]) (by simp[AE]) (by simp[AE])
 ·intro b R j l t;rw[C0]at b;simp[Xy2];refine j _ _ _ ?_;simp;rw[b]at h;exact h
end
abbrev We:D:=.agg [.agg [.AT,.AT,.AT,.AT,.AT,.AT],.AT]
def Y2a (y:Ah):Int:=if y.AQ.all (Hw y) then 0 else 150
def Qb (y:Ah)(e:Int)(o:Option (List Int)):List Int:=[J8 y,Uj y,Qn y,Vw y e o,Y2a y]
def Md:List Int->Int
|[]=>0
|x::r=>if x=0 then Md r else x
def LL (y:Ah)(e:Int)(o:Option (List Int)):Int:=Md (Qb y e o)
theorem u9:∀(l:List Int)(k:Nat)(h:k<l.length),(∀x∈l.take k,x=0)->l[k]≠0->Md l=l[k]
|x::r,0,_,_,h=>by simp only[List.getElem_cons_zero]at h⊢;rw[Md,Af h]
|x::r,k+1,b,a,h=>by
 have c:=a x (by simp);rw[Md,BL c];exact u9 r k (by simpa using b) (λz d=>a z (by simp[d])) h
theorem vA:∀(l:List Int),(∀x∈l,x=0)->Md l=0
|[],_=>rfl
|x::r,h=>by rw[Md,BL (h x (by simp))];exact vA r (λz a=>h z (by simp[a]))
def Sy:List Nat:=[21,8,22,23,24]
theorem X0t:Sy.all (Xd Tryz.prog)=true:=by kernel_rfl
section
variable {P:Az} (hP:P.p=Tryz.prog)
include hP
theorem Yig {y:Ah}(n:y.BC)(T:y.P6){e:Int}{o:Option (List Int)}(N:HU P y e o){g:AB}{K:V->Prop}(t:LL y e o≠0->K (.BE [.d We,.d (iD (LL y e o))]))(Y:LL y e o=0->∀d,D.le d (Ps o)->K (.BE [.d (.agg [y.enc,d]),.d (iD 0)])):AU P 7 [.d y.enc] g K:=by
 refine AJ hP AO (ds:=[y.enc]) ok7 lf7 BD.nil ?_;have H:y.enc.shape.size=6:=by rw[CC];rfl
 have J:y.enc.sz=6:=rfl;have step:∀(k:Nat)(b:k<5)(g:AB)(K:V->Prop),K (.d (iD ((Qb y e o)[k]'b)))->AU P (Sy[k]'b) [.d y.enc] g K:=λk b g K h=>by
  match k,b,h with
  |0,_,h=>exact Xw3 hP n T h
  |1,_,h=>exact US hP n h
  |2,_,h=>exact Xmc hP n h
  |3,_,h=>exact X0n hP n N h
  |4,_,h=>exact X97 hP n T.AL h
 have u:∀(k:Nat)(b:k<5),Xd P.p (Sy[k]'b)=true:=λk b=>by
  rw[hP];exact DQ.1 X0t _ (CS b)
 simp[Et7,H,J];have w1:IntKind.i64.wrap 1=1:=IntWalk.i64_in _ (by omega);have w2:IntKind.i64.wrap 2=2:=IntWalk.i64_in _ (by omega);have w3:IntKind.i64.wrap 3=3:=IntWalk.i64_in _ (by omega);have w4:IntKind.i64.wrap 4=4:=IntWalk.i64_in _ (by omega);have w5:IntKind.i64.wrap 5=5:=IntWalk.i64_in _ (by omega);have l:(Qb y e o).length=5:=rfl;refine Ae.go (ι:=Nat) (λk=>[(1,.ptr 0 []),(2,.ptr 1 []),(11,.d (.agg [.fn 21 [] [],.fn 8 [] [],.fn 22 [] [],.fn 23 [] [],.fn 24 [] []])),(12,.d (.int .i64 k))])
  (λ_=>[(2,.box 78 (.agg [.fn 21 [] [],.fn 8 [] [],.fn 22 [] [],.fn 23 [] [],.fn 24 [] []])),(1,.box 34 (.d We)),(0,.box 29 (.d y.enc))]) (λk=>k<=5/\∀x∈(Qb y e o).take k,x=0) (λk=>5-k) 0 ⟨DM _,by simp⟩ (by simp) rfl ?_
 rintro k ⟨b,v⟩ R rn re rr rp;by_cases a:k<5
 ·have wr:IntKind.i64.wrap ((k:Int)+1)=(k:Int)+1:=IntWalk.i64_in _ (by omega);have W:=step k a;have O:=u k a;have U:∀z,z=(Qb y e o)[k]'a->z=0->∀x∈(Qb y e o).take (k+1),x=0:=λz c t x j=>by
   rw[Ca (by rw[l];exact a),DF,DW]at j;rcases j with j|j
   ·exact v x j
   ·exact(j.trans c.symm).trans t
  have L:∀z,z=(Qb y e o)[k]'a->z≠0->K (.BE [.d We,.d (.int .i64 z)]):=λz c m=>by
   have Z:=u9 (Qb y e o) k a v (λh=>m (c.trans h));have:LL y e o=z:=by rw[LL,Z,c]
   have:=t (by rw[this];exact m)
   rwa [show LL y e o=z by assumption]at this
  have w:k=0\/k=1\/k=2\/k=3\/k=4:=by omega
  obtain⟨z,c⟩:∃z,z=(Qb y e o)[k]'a:=⟨_,rfl⟩
  have q:∀g K,K (.d (.int .i64 z))->AU P (Sy[k]'a) [.d y.enc] g K:=λg K h=>W g K (by rw[<-c];exact h);have G:=U z c;have s:=L z c;clear W U L;rcases w with rfl|rfl|rfl|rfl|rfl
  all_goals
   simp[Sy]at q O;simp[Yee,H,J,O];refine⟨⟨rfl,rfl,rfl,rfl,rfl⟩,rfl,(q _ _ ?_).Bm⟩;by_cases r:z=0
   ·simp[r,w1,w2,w3,w4,w5];exact rn [] _ _ _ ⟨by omega,G r⟩ (by omega) (by simp) (by simp[AE]) (by simp[AE]) (by simp[AE,AH,V.BJ,BO])
   ·simp[r];refine rr _ _ ?_;simpa using s r
 ·obtain rfl:k=5:=by omega
  have c:∀x∈Qb y e o,x=0:=v;have F:LL y e o=0:=vA _ c;have i:Vw y e o=0:=c _ (by simp[Qb]);have f:Q0 y e o=0:=by
   unfold Vw at i;split at i
   ·assumption
   ·exact i
  have X:e=0:=by
   unfold Q0 at f;split at f
   ·split at f
    ·assumption
    ·exact f
   ·contradiction
  simp[Yee];refine re _ _ _ ?_;simp[H,J];refine⟨rfl,N.call _ _ λd Q=>?_⟩;have M:d.shape=.AX:=by
   have:=eh Q;cases o<;>exact this
  have yh:y.enc.shape=.node [.AX,.AX,.AX,.AX,.AX,.AX]:=rfl;have b:=Y F d Q;simp[X,M,yh,DZ,Bt,Zf,D.shape,D.BN];exact⟨rfl,b⟩
end
def LK (l:List Int)(x:Int):List Int:=if x∈l then l else l++[x]
abbrev Gr:=List (Int×List Int)
def Dx (g:Gr)(h:Int):Option Nat:=g.findIdx? (λx=>decide (x.1=h))
def D3 (c:Nat)(g:Gr):Nat->List (D×V)
|0=>[]
|k+1=>match g[k]? with
 |none=>D3 c g k
 |some x=>D3 c g k++[(.int .i64 x.1,.mp (c+2*k))]
def DR (c:Nat)(g:Gr):Nat->AB
|0=>[]
|k+1=>match g[k]? with
 |none=>DR c g k
 |some x=>(c+2*k,.map (Qf x.2))::DR c g k
theorem Ypk (l:List Int)(x:Int):EL (.int .i64 x) (V.d (.bool true)) (Qf l)=Qf (LK l x):=by
 unfold LK;by_cases h:x∈l
 ·rw[BL h];induction l with
  |nil=>cases h
  |cons y r a=>
   unfold Qf at a⊢;simp only[Cg,EL];by_cases e:x=y
   ·subst e;simp[C8]
   ·have b:x∈r:=by
     rcases DA.1 h with h|h
     ·exact absurd h e
     ·exact h
    have c:C8 (.int .i64 x) (.int .i64 y)=false:=by simp[C8,e]
    rw[c];simp[a b]
 ·rw[Af h,Wo _ _ _ (by rw[Rv,Af h]),Qf,Qf,Ij];rfl
theorem PD (c:Nat)(g:Gr):∀(k j:Nat),j<c\/c+2*k<=j->AA (DR c g k) j=none
|0,_,_=>rfl
|k+1,j,h=>by
 have a:=PD c g k j (by omega);rw[DR];split
 ·exact a
 ·rw[AA,Af (by omega),a]
theorem UG (c:Nat)(g:Gr):∀(k i:Nat)(h:i<g.length),i<k->AA (DR c g k) (c+2*i)=some (.map (Qf g[i].2))
|0,_,_,h=>absurd h (by omega)
|k+1,i,a,h=>by
 rw[DR];by_cases e:i=k
 ·subst e;rw[Cn a];simp[AA]
 ·have b:=UG c g k i a (by omega);split
  ·exact b
  ·rw[AA,Af (by omega),b]
theorem r6 (c:Nat)(g:Gr)(v:List Int):∀(k i:Nat)(h:i<g.length),AG (DR c g k) (c+2*i) (.map (Qf v))=DR c (g.set i (g[i].1,v)) k
|0,_,_=>rfl
|k+1,i,a=>by
 have d:=r6 c g v k i a;rw[DR,DR];by_cases e:i=k
 ·subst e;rw[Cn a,List.getElem?_set_self a];simp only[AG,Cz];have f:∀(m:Nat),m<=i->DR c (g.set i (g[i].1,v)) m=DR c g m:=λm=>by
   induction m with
   |zero=>intro _;rfl
   |succ m b=>
    intro j;rw[DR,DR,List.getElem?_set_ne (by omega),b (by omega)]
  rw[f i (BV _)]
 ·rw[List.getElem?_set_ne e];cases g[k]? with
  |none=>exact d
  |some x=>
   have:¬c+2*k=c+2*i:=by omega
   simp only[AG,Af this,d]
theorem zE (c:Nat)(g:Gr)(x:Int):∀k,k<=g.length->Yh (.int .i64 x) (D3 c g k)=(Dx (g.take k) x).map λi=>V.mp (c+2*i)
|0,_=>by simp[D3,Yh,Dx]
|k+1,d=>by
 have j:=zE c g x k (by omega);have a:k<g.length:=d;rw[D3,Cn a,Ca a];simp only;rw[Ub,j];unfold Dx;rw[List.findIdx?_append];have f:(g.take k).length=k:=by simp;omega
 cases List.findIdx? (λy=>decide (y.1=x)) (g.take k) with
 |some i=>simp
 |none=>
  by_cases e:g[k].1=x
  ·simp[e,C8,f]
  ·have b:¬x=g[k].1:=λh=>e h.symm;simp[e,b,C8]
theorem UF (c:Nat)(g:Gr)(x:Int):∀k,U7 (.int .i64 0) (.int .i64 x) (D3 c g k)
|0=>⟨rfl,λe a=>by cases a⟩
|k+1=>by
 have b:=UF c g x k;rw[D3];split
 ·exact b
 ·refine⟨b.1,λe a=>?_⟩;rw[DF]at a;rcases a with a|a
  ·exact b.2 e a
  ·simp only[DW]at a;subst a;rfl
theorem r4 (c:Nat)(g:Gr)(v:List Int)(i:Nat)(a:i<g.length):∀k,D3 c (g.set i (g[i].1,v)) k=D3 c g k
|0=>rfl
|k+1=>by
 have b:=r4 c g v i a k;rw[D3,D3,b];by_cases e:i=k
 ·subst e;rw[List.getElem?_set_self a,Cn a]
 ·rw[List.getElem?_set_ne e]
theorem xF (c:Nat)(g:Gr):∀k,k<=g.length->fresh (DR c g k)=if k=0 then 0 else c+2*k-1
|0,_=>rfl
|k+1,b=>by
 have d:=xF c g k (by omega);have a:k<g.length:=b;rw[DR,Cn a];simp only[fresh,d];split<;>simp<;>omega
theorem xG (p:Nat->Bool)(c:Nat)(g:Gr):∀k,AH p (DR c g k)=true
|0=>rfl
|k+1=>by
 have a:=xG p c g k;rw[DR];split
 ·exact a
 ·simp[AH,R5,a]
section
variable {P:Az} (hP:P.p=Tryz.prog)
include hP
theorem vH {n x:Int}{m:Nat}{a:AB}(f:m<fresh a){K:A7->AB->Prop}(h:K (.ret (.d (.bool (decide (0<=x)&&decide (x<n))))) a):AV P 118 [.agg [.d (.int .i64 n),.mp m],.d (.int .i64 x)] a K:=by
 refine Xk hP AO Y9h Y6o BD.nil λ_ b=>?_;simp[Y0x];have e:AE (fresh a) [] (fresh a)=true:=by simp[AE]
 have c:Xh (AE (fresh a) []) ((fresh a,Ob.box 116 (V.agg [V.d (D.int IntKind.i64 n),V.mp m]))::a)=a:=by
  rw[Xh,BL e,Xe (BV _)]
 exact⟨[],by simp,by rw[c];exact b [],by rw[c];exact h⟩
end
def II (l:List Int)(i j:Nat):List Int:=(l.set i (l.getD j 0)).set j (l.getD i 0)
theorem Zy {l:List Int}{i:Nat}(h:i<l.length):l.getD i 0=l[i]:=by simp[FR,h]
theorem Z3 (l:List Int)(i j:Nat):(II l i j).length=l.length:=by simp[II]
theorem db {l:List Int}{i j:Nat}(a:i<l.length)(b:j<l.length):(II l i j).Perm l:=by
 unfold II;rw[Zy a,Zy b];exact List.set_set_perm a b
def HS (l:List Int)(j:Nat):List Int:=
 if _h:j=0 then l else if l.getD j 0<l.getD ((j-1) / 2) 0 then HS (II l ((j-1) / 2) j) ((j-1) / 2) else l
termination_by j
decreasing_by omega
def JQ (l:List Int)(n i:Nat):Nat:=if 2*i+2<n/\l.getD (2*i+2) 0<l.getD (2*i+1) 0 then 2*i+2 else 2*i+1
theorem VS (l:List Int)(n i:Nat):i<JQ l n i:=by unfold JQ;split<;>omega
theorem gg {l:List Int}{n i:Nat}(h:2*i+1<n):JQ l n i<n:=by unfold JQ;split<;>omega
def Hg (l:List Int)(n i:Nat):List Int:=
 if _h:n<=2*i+1 then l else if l.getD (JQ l n i) 0<l.getD i 0 then Hg (II l i (JQ l n i)) n (JQ l n i) else l
termination_by n-i
decreasing_by have:=VS l n i;have:=gg (l:=l) (n:=n) (i:=i) (by omega);omega
theorem Yp5 (l:List Int)(j:Nat):(HS l j).length=l.length:=by
 induction j using Nat.strongRecOn generalizing l with
 |ind j a=>
  rw[HS];split
  ·rfl
  ·split
   ·rw[a _ (by omega),Z3]
   ·rfl
theorem Ydy (l:List Int)(j:Nat)(a:j<l.length):(HS l j).Perm l:=by
 induction j using Nat.strongRecOn generalizing l with
 |ind j b=>
  rw[HS];split
  ·exact List.Perm.refl _
  ·split
   ·exact(b _ (by omega) _ (by rw[Z3];omega)).trans (db (by omega) a)
   ·exact List.Perm.refl _
theorem X1k (l:List Int)(n:Nat):∀(k i:Nat),n-i<=k->(Hg l n i).length=l.length:=λk=>by
 induction k generalizing l with
 |zero=>intro i h;rw[Hg,dif_pos (by omega)]
 |succ k a=>
  intro i h;rw[Hg];split
  ·rfl
  ·split
   ·have:=VS l n i;rw[a _ _ (by omega),Z3]
   ·rfl
theorem Xxe (l:List Int)(n:Nat)(a:n<=l.length):∀(k i:Nat),n-i<=k->(Hg l n i).Perm l:=λk=>by
 induction k generalizing l with
 |zero=>intro i h;rw[Hg,dif_pos (by omega)]
 |succ k b=>
  intro i h;rw[Hg];split
  ·exact List.Perm.refl _
  ·split
   ·have c:=VS l n i;have d:=gg (l:=l) (n:=n) (i:=i) (by omega);exact(b _ (by rw[Z3];exact a) _ (by omega)).trans (db (by omega) (by omega))
   ·exact List.Perm.refl _
def Hm (l:List Int)(x:Int):List Int:=HS (l++[x]) l.length
def JT (l:List Int):List Int:=Hg (II l 0 (l.length-1)) (l.length-1) 0
def Ey (l:List Int):Int:=(JT l).getD (l.length-1) 0
def GQ (l:List Int):List Int:=(JT l).take (l.length-1)
theorem Ug (l:List Int)(x:Int):(Hm l x).Perm (x::l):=(Ydy _ _ (by simp)).trans (List.perm_append_singleton x l)
theorem dq (l:List Int)(x:Int):(Hm l x).length=l.length+1:=by rw[Hm,Yp5];simp
theorem VC (l:List Int):(JT l).length=l.length:=by rw[JT,X1k _ _ _ _ (BV _),Z3]
theorem Ydf (l:List Int):(GQ l).length=l.length-1:=by rw[GQ,E9,VC];omega
theorem Ydg {l:List Int}(h:l≠[]):(Ey l::GQ l).Perm l:=by
 have g:0<l.length:=List.length_pos_iff.2 h;have d:(JT l).Perm l:=(Xxe _ _ (by rw[Z3];omega) _ _ (BV _)).trans (db (by omega) (by omega));have f:JT l=GQ l++[Ey l]:=by
  have b:l.length-1<(JT l).length:=by rw[VC];omega
  have e:=Ca b;have c:(JT l).take (l.length-1+1)=JT l:=JI (by rw[VC];omega);rw[c]at e;rw[GQ,Ey,Zy b];exact e
 have a:(Ey l::GQ l).Perm (GQ l++[Ey l]):=(List.perm_append_singleton _ _).symm;rw[<-f]at a;exact a.trans d
section
variable (need:Int->List Int) (n:Nat)
def DP (k:Nat)(x:Int):List Int:=((List.range k).filter λ(h:Nat)=>decide (x∈need (h:Int))).map λ(h:Nat)=>(h:Int)
def OZ:List Int:=(List.range n).map λ(x:Nat)=>((need (x:Int)).length:Int)
def qK (k:Nat):List Int:=(List.range k).foldl (λq (x:Nat)=>if (need (x:Int)).length=0 then Hm q (x:Int) else q) []
end
abbrev NZ:=List Int×List Int×List Int
def Iq (a:List Int×List Int)(u:Int):List Int×List Int:=(a.1.set u.toNat (a.1.getD u.toNat 0-1),if a.1.getD u.toNat 0-1=0 then Hm a.2 u else a.2)
def Rf (b:Int->List Int)(a:NZ):NZ:=
 (((b (Ey a.2.1)).foldl Iq (a.1,GQ a.2.1)).1,((b (Ey a.2.1)).foldl Iq (a.1,GQ a.2.1)).2,a.2.2++[Ey a.2.1])
def Nl (b:Int->List Int):Nat->NZ->List Int
|0,a=>a.2.2
|k+1,a=>if a.2.1=[] then a.2.2 else Nl b k (Rf b a)
def Kq (a:Int->List Int)(n:Nat):NZ:=(OZ a n,qK a n,[])
def Yf (a:Int->List Int)(n:Nat):List Int:=Nl (DP a n) (n+1) (Kq a n)
def K6 (l a:List Int):Nat:=(l.filter λy=>decide (y∉a)).length
structure Ge (need:Int->List Int)(n:Nat)(rest:List Int)(op q CO:List Int):Prop where
 len:op.length=n
 nd:(CO++q).Nodup
 rg:∀v∈CO++q,0<=v/\v<n
 TP:∀v:Nat,v<n->op.getD v 0=K6 (need v) CO+(if (v:Int)∈rest then 1 else 0)
 ZD:∀v:Nat,v<n->(op.getD v 0=0↔(v:Int)∈CO++q)
 Of:∀i (h:i<CO.length),∀x∈need CO[i],x∈CO.take i
section
variable {need:Int->List Int} {n:Nat}
theorem dM {k:Nat}{x u:Int}:u∈DP need k x↔∃h:Nat,h<k/\x∈need h/\u=h:=by
 simp only[DP,C9,List.mem_filter,Ii,Bs];constructor
 ·rintro⟨h,⟨a,b⟩,rfl⟩;exact⟨h,a,b,rfl⟩
 ·rintro⟨h,a,b,rfl⟩;exact⟨h,⟨a,b⟩,rfl⟩
theorem Xwl (k:Nat)(x:Int):(DP need k x).Nodup:=by
 unfold DP;rw[List.Nodup,List.pairwise_map];exact(List.Pairwise.filter _ List.nodup_range).imp λh e=>h (by omega)
theorem Ycu {l b:List Int}{x:Int}(g:l.Nodup)(i:x∉b):K6 l b=K6 l (b++[x])+(if x∈l then 1 else 0):=by
 induction l with
 |nil=>simp[K6]
 |cons y r a=>
  have f:=(List.nodup_cons.1 g)
  have a:=a f.2;unfold K6 at a⊢;by_cases e:y=x
  ·subst e;rw[Af f.1]at a;simp[i]at a⊢;exact a
  ·have c:¬x=y:=λh=>e h.symm;by_cases d:y∈b
   ·simp[d,c]at a⊢;exact a
   ·simp[d,e,c]at a⊢;omega
theorem uK {c d q b:List Int}{u:Int}(k:0<=u)(z:u<n)(y:u∉c)(h:Ge need n (u::c) d q b):Ge need n c (Iq (d,q) u).1 (Iq (d,q) u).2 b:=by
 obtain⟨m,rfl⟩:=Int.eq_ofNat_of_zero_le k;have o:m<n:=by omega
 have t:=h.TP m o;simp only[DA,true_or,Cz]at t;have p:(m:Int)∉b++q:=λf=>by
  have:=(h.ZD m o).2 f;omega
 have l:∀v:Nat,v<n->(d.set m (d.getD m 0-1)).getD v 0=if v=m then d.getD m 0-1 else d.getD v 0:=λv a=>by
  have w:=h.len;by_cases e:v=m
  ·subst e;simp[FR,w,a]
  ·have r:¬m=v:=λh=>e h.symm;simp[FR,e,r]
 have j:((m:Int)).toNat=m:=rfl;simp only[Iq,j];refine⟨by simpa using h.len,?_,?_,λv a=>?_,λv a=>?_,h.Of⟩
 ·split
  ·have x:=(Ug q m).append_left b;rw[x.nodup_iff];have s:(b++(m:Int)::q).Perm ((m:Int)::(b++q)):=List.perm_middle;rw[s.nodup_iff,List.nodup_cons];exact⟨p,h.nd⟩
  ·exact h.nd
 ·intro v a;split at a
  ·rw[DF,(Ug q m).mem_iff,DA]at a;rcases a with a|rfl|a
   ·exact h.rg v (List.mem_append_left _ a)
   ·omega
   ·exact h.rg v (List.mem_append_right _ a)
  ·exact h.rg v a
 ·rw[l v a];by_cases e:v=m
  ·subst e;rw[BL rfl,Af y];omega
  ·rw[Af e];have:=h.TP v a;have i:¬(v:Int)=m:=by omega
   simpa[i]using this
 ·rw[l v a];by_cases e:v=m
  ·subst e;rw[BL rfl];by_cases g:d.getD v 0-1=0
   ·rw[BL g];simp only[g,true_iff];rw[DF,(Ug q v).mem_iff];simp
   ·rw[Af g];exact⟨λf=>absurd f g,λf=>absurd f p⟩
  ·rw[Af e,h.ZD v a];have i:¬(v:Int)=m:=by omega
   split
   ·rw[DF,DF,(Ug q m).mem_iff,DA];simp[i]
   ·exact Iff.rfl
theorem Xwi:∀{a d q b:List Int},(∀u∈a,0<=u/\u<n)->a.Nodup->Ge need n a d q b->Ge need n [] (a.foldl Iq (d,q)).1 (a.foldl Iq (d,q)).2 b
|[],_,_,_,_,_,h=>h
|u::r,d,q,b,e,g,h=>by
 have c:=List.nodup_cons.1 g;have f:=e u (by simp);rw[List.foldl_cons];exact Xwi (λv i=>e v (by simp[i])) c.2 (uK f.1 f.2 c.1 h)
theorem Ygn (G:∀h:Int,(need h).Nodup){w q a:List Int}(J:q≠[])(h:Ge need n [] w q a):Ge need n (DP need n (Ey q)) w (GQ q) (a++[Ey q])/\0<=Ey q/\Ey q<n:=by
 have H:=Ydg J;have c:((a++[Ey q])++GQ q).Perm (a++q):=by
  rw[Kk];exact H.append_left a
 have u:Ey q∈a++q:=c.mem_iff.1 (by simp);have r:Ey q∉a:=λp=>by
  have:=c.nodup_iff.2 h.nd;rw[Kk,Em]at this;exact this.2.2 _ p _ (by simp) rfl
 have t:=h.rg _ u;refine⟨⟨h.len,c.nodup_iff.2 h.nd,λv f=>h.rg v (c.mem_iff.1 f),λv f=>?_,λv f=>?_,λi F x b=>?_⟩,t⟩
 ·have l:=h.TP v f;have g:=Ycu (G v) r;have o:(v:Int)∈DP need n (Ey q)↔Ey q∈need v:=by
   rw[dM];constructor
   ·rintro⟨k,d,z,K⟩;obtain rfl:v=k:=by omega
    exact z
   ·exact λd=>⟨v,f,d,rfl⟩
  simp only[List.not_mem_nil,Ci]at l;by_cases d:Ey q∈need v
  ·rw[BL d]at g;rw[BL (o.2 d)];omega
  ·rw[Af d]at g;rw[Af (λp=>d (o.1 p))];omega
 ·rw[h.ZD v f,c.mem_iff]
 ·by_cases e:i<a.length
  ·rw[List.getElem_append_left e]at b;rw[List.take_append_of_le_length (by omega)];exact h.Of i e x b
  ·have y:i=a.length:=by simp at F;omega
   subst y;rw[List.getElem_append_right (by omega)]at b;simp only[Nat.sub_self,List.getElem_cons_zero]at b;rw[List.take_left];obtain⟨m,s⟩:=Int.eq_ofNat_of_zero_le t.1;have j:m<n:=by omega
   have l:=h.TP m j;rw[(h.ZD m j).2 (by rw[<-s];exact u)]at l;simp only[List.not_mem_nil,Ci]at l;have g:K6 (need m) a=0:=by omega
   rw[K6,Nd,List.filter_eq_nil_iff]at g;rw[s]at b;have o:=g x b;simpa using o
theorem Yo7 (b:∀h:Int,(need h).Nodup){a:NZ}(c:a.2.1≠[])(h:Ge need n [] a.1 a.2.1 a.2.2):Ge need n [] (Rf (DP need n) a).1 (Rf (DP need n) a).2.1 (Rf (DP need n) a).2.2:=by
 refine Xwi (λu d=>?_) (Xwl _ _) (Ygn b c h).1;obtain⟨k,e,_,rfl⟩:=dM.1 d;omega
theorem Ge.H5 {b e q a:List Int}(h:Ge need n b e q a):(a++q).length<=n:=by
 have c:(a++q) ⊆ (List.range n).map λ(x:Nat)=>(x:Int):=λv d=>by
  have:=h.rg v d;rw[C9];exact⟨v.toNat,by rw[Ii];omega,by omega⟩
 have:=List.Nodup.length_le_of_subset h.nd c;simpa using this
theorem Yy9 (k:Nat):(qK need k).Nodup/\∀v:Int,v∈qK need k↔∃x:Nat,x<k/\v=x/\(need x).length=0:=by
 induction k with
 |zero=>simp[qK]
 |succ k c=>
  have e:qK need (k+1)=if (need (k:Int)).length=0 then Hm (qK need k) (k:Int) else qK need k:=by
   simp[qK,List.range_succ]
  rw[e];by_cases h:(need (k:Int)).length=0
  ·rw[BL h];have f:=Ug (qK need k) k;refine⟨?_,λv=>?_⟩
   ·rw[f.nodup_iff,List.nodup_cons];refine⟨λg=>?_,c.1⟩;obtain⟨x,d,a,_⟩:=(c.2 _).1 g;omega
   ·rw[f.mem_iff,DA,c.2];constructor
    ·rintro (rfl|⟨x,d,a,b⟩)
     ·exact⟨k,by omega,rfl,h⟩
     ·exact⟨x,by omega,a,b⟩
    ·rintro⟨x,d,a,b⟩;by_cases e:x=k
     ·subst e;exact .inl a
     ·exact .inr ⟨x,by omega,a,b⟩
  ·rw[Af h];refine⟨c.1,λv=>?_⟩;rw[c.2];constructor
   ·rintro⟨x,d,a,b⟩;exact⟨x,by omega,a,b⟩
   ·rintro⟨x,d,a,b⟩;have:x≠k:=λe=>h (by rw[<-e];exact b);exact⟨x,by omega,a,b⟩
theorem Zct:Ge need n [] (Kq need n).1 (Kq need n).2.1 (Kq need n).2.2:=by
 have b:=Yy9 (need:=need) n;have c:∀v:Nat,v<n->(OZ need n).getD v 0=((need v).length:Int):=λv a=>by simp[OZ,FR,a]
 refine⟨by simp[Kq,OZ],by simpa[Kq]using b.1,λv a=>?_,λv a=>?_,λv a=>?_,λi h=>?_⟩
 ·simp only[Kq,List.nil_append]at a;obtain⟨x,d,rfl,_⟩:=(b.2 v).1 a;omega
 ·simp only[Kq,List.not_mem_nil,Ci];have e:K6 (need v) []=(need v).length:=by
   unfold K6;rw[List.filter_eq_self.2 (by simp)]
  rw[c v a,e];simp
 ·simp only[Kq,List.nil_append];rw[c v a,b.2];constructor
  ·exact λh=>⟨v,a,rfl,by omega⟩
  ·rintro⟨x,d,f,g⟩;obtain rfl:v=x:=by omega
   omega
 ·simp[Kq]at h
theorem xY (b:∀h:Int,(need h).Nodup):∀(k:Nat)(a:NZ),Ge need n [] a.1 a.2.1 a.2.2->∃d q,Ge need n [] d q (Nl (DP need n) k a)
|0,a,h=>⟨_,_,h⟩
|k+1,a,h=>by
 rw[Nl];split
 ·exact⟨_,_,h⟩
 ·rename_i c;exact xY b k _ (Yo7 b c h)
theorem xZ (b:∀h:Int,(need h).Nodup):(Yf need n).Nodup/\(∀v∈Yf need n,0<=v/\v<n)/\(Yf need n).length<=n/\∀i (h:i<(Yf need n).length),∀x∈need (Yf need n)[i],x∈(Yf need n).take i:=by
 obtain⟨d,q,h⟩:=xY (n:=n) b (n+1) _ Zct;have a:=h.H5;rw[DV]at a;refine⟨?_,λv c=>h.rg v (List.mem_append_left _ c),?_,h.Of⟩
 ·exact(Em.1 h.nd).1
 ·exact FA (Nat.le_add_right _ _) a
end
section
variable {P:Az} {sl:Xb} {ob:AB} {KO Pn:V->AB->Prop} {x y:A} {K:V->Prop}
@[simp] theorem iwp_isn (e m:Bool):I.wp P sl ob KO Pn (.HO e m x)=Gt ob e (λv=>KO v ob) m (x.ev sl):=by simp only[I.wp]
@[simp] theorem isnK_mp (e:Bool)(id:Nat):Gt ob e K true (.mp id)=Pq e K (AA ob id):=by simp only[Gt]
@[simp] theorem isnK_nm (e:Bool):Gt ob e K true (.d .B0)=K (.d (.bool e)):=by simp only[Gt]
@[simp] theorem isnM_s (e:Bool)(a:List (D×V)):Pq e K (some (.map a))=K (.d (.bool !e)):=by simp only[Pq]
end
def FE (g:Gr)(h:Int):Gr:=match Dx g h with
|none=>g++[(h,[])]
|some _=>g
def Hs (g:Gr)(h x:Int):Gr:=match Dx g h with
|none=>g
|some i=>g.set i ((g.getD i (0,[])).1,LK (g.getD i (0,[])).2 x)
def Gq (n h:Int):Gr->List Am->Option Gr
|g,[]=>some g
|g,f::r=>if 0<=f.AP/\f.AP<n then Gq n h (Hs g h f.AP) r else none
def Gw (n:Int):Gr->List Ai->Option Gr
|g,[]=>some g
|g,r::s=>if 0<=r.AP/\r.AP<n then (match Gq n r.AP (FE g r.AP) r.AW with
 |none=>none
 |some a=>Gw n a s) else none
def Lf (y:Ah):Option Gr:=Gw y.AD.length [] y.AK
theorem Zx {g:Gr}{h:Int}{i:Nat}(e:Dx g h=some i):∃(a:i<g.length),g[i].1=h:=by
 unfold Dx at e;rw[List.findIdx?_eq_some_iff_getElem]at e;obtain⟨a,b,_⟩:=e;exact⟨a,by simpa using b⟩
theorem yw (g:Gr)(h:Int):∃i,Dx (FE g h) h=some i:=by
 unfold FE;cases e:Dx g h with
 |some i=>exact⟨i,e⟩
 |none=>
  refine⟨g.length,?_⟩;simp only;unfold Dx at e⊢;rw[List.findIdx?_append,e];simp
theorem ed {g:Gr}{h:Int}{i:Nat}(a:i<g.length)(v:List Int):Dx (g.set i (g[i].1,v)) h=Dx g h:=by
 unfold Dx;induction g generalizing i with
 |nil=>simp at a
 |cons x r b=>
  cases i with
  |zero=>simp[List.findIdx?_cons]
  |succ i=>
   have:=b (i:=i) (by simpa using a);simp only[List.set_cons_succ,List.getElem_cons_succ,List.findIdx?_cons];rw[this]
theorem VO {g:Gr}{h x:Int}{i:Nat}(e:Dx g h=some i)(a:i<g.length):Hs g h x=g.set i (g[i].1,LK g[i].2 x):=by
 unfold Hs;rw[e];simp[FR,a]
theorem yv {g:Gr}{h x:Int}{i:Nat}(e:Dx g h=some i):Dx (Hs g h x) h=some i:=by
 obtain⟨a,_⟩:=Zx e;rw[VO e a,ed a,e]
theorem eJ (g:Gr)(h x:Int):(Hs g h x).length=g.length:=by
 unfold Hs;split<;>simp
def IC (n:Int)(y:Ah)(g:Gr):AB:=[(3,.map (D3 5 g g.length)),(2,.box 116 (.agg [.d (iD n),.mp 3])),(1,.box 29 (.d y.enc)),(0,.box 29 (.d y.enc))]
def gA (n:Int)(y:Ah)(g:Gr):AB:=DR 5 g g.length++IC n y g
theorem Wr {j:Nat}:∀{a b:AB},AA a j=none->AA (a++b) j=AA b j
|[],_,_=>rfl
|(i,x)::r,b,h=>by
 rw[AA]at h;rw[List.cons_append,AA];split at h
 ·cases h
 ·rename_i e;rw[Af e];exact Wr h
theorem Vf {j:Nat}{o:Ob}:∀{a b:AB},AA a j=some o->AA (a++b) j=some o
|[],_,h=>by cases h
|(i,x)::r,b,h=>by
 rw[AA]at h;rw[List.cons_append,AA];split at h
 ·rename_i e;rw[BL e];exact h
 ·rename_i e;rw[Af e];exact Vf h
theorem Nh {j:Nat}{o:Ob}:∀{a b:AB},AA a j=none->AG (a++b) j o=a++AG b j o
|[],_,_=>rfl
|(i,x)::r,b,h=>by
 rw[AA]at h;rw[List.cons_append,AG];split at h
 ·cases h
 ·rename_i e;rw[Af e,Nh h,List.cons_append]
theorem SR {j:Nat}{o x:Ob}:∀{a b:AB},AA a j=some x->AG (a++b) j o=AG a j o++b
|[],_,h=>by cases h
|(i,x)::r,b,h=>by
 rw[AA]at h;rw[List.cons_append,AG,AG];split at h
 ·rename_i e;rw[BL e,BL e,List.cons_append]
 ·rename_i e;rw[Af e,Af e,SR h,List.cons_append]
section
variable {n:Int} {y:Ah} {g:Gr}
theorem Yts {j:Nat}(h:j<5):AA (gA n y g) j=AA (IC n y g) j:=Wr (PD 5 g _ j (.inl h))
theorem Zcq:AA (gA n y g) 3=some (.map (D3 5 g g.length)):=by rw[Yts (by omega)];simp[IC]
theorem Zcp:AA (gA n y g) 2=some (.box 116 (.agg [.d (iD n),.mp 3])):=by rw[Yts (by omega)];simp[IC]
theorem Ytr {i:Nat}(h:i<g.length):AA (gA n y g) (5+2*i)=some (.map (Qf g[i].2)):=Vf (UG 5 g _ i h h)
theorem eb:fresh (gA n y g)=4+2*g.length:=by
 have c:∀(a b:AB),fresh (a++b)=max (fresh a) (fresh b):=λa b=>by
  induction a with
  |nil=>simp[fresh]
  |cons x r d=>
   obtain⟨i,o⟩:=x;rw[List.cons_append,Yb,Yb,d];split<;>split<;>omega
 rw[gA,c,xF 5 g _ (BV _)];have:fresh (IC n y g)=4:=by simp[IC]
 rw[this];split<;>omega
theorem ec {p:Nat->Bool}(f:p 3=false)(j:∀i,i<g.length->p (5+2*i)=false):AH p (gA n y g)=true:=by
 have d:∀(a b:AB),AH p (a++b)=(AH p a&&AH p b):=Wa p;have h:∀k,k<=g.length->Ym p (D3 5 g k)=false:=λk=>by
  induction k with
  |zero=>intro _;rfl
  |succ k l=>
   intro m;rw[D3,Cn (by omega)];have e:∀(a b:List (D×V)),Ym p (a++b)=(Ym p a||Ym p b):=λa b=>by
    induction a with
    |nil=>simp[Ym]
    |cons x r c=>obtain⟨q,v⟩:=x;simp[Ym,c,Bool.or_assoc]
   simp only;rw[e,l (by omega)];simp[Ym,V.BJ,j k (by omega)]
 rw[gA,d,xG];simp[IC,AH,h _ (BV _),V.BJ,BO,f]
theorem VQ (x:Int):Yh (.int .i64 x) (D3 5 g g.length)=(Dx g x).map λi=>V.mp (5+2*i):=by
 have:=zE 5 g x g.length (BV _)
 rwa [C0]at this
theorem ru (c:Nat)(g l:Gr):∀k,k<=g.length->D3 c (g++l) k=D3 c g k
|0,_=>rfl
|k+1,h=>by
 rw[D3,D3,ru c g l k (by omega),O1 (by omega)]
theorem r5 (c:Nat)(g l:Gr):∀k,k<=g.length->DR c (g++l) k=DR c g k
|0,_=>rfl
|k+1,h=>by
 rw[DR,DR,r5 c g l k (by omega),O1 (by omega)]
theorem Ytt {h:Int}(e:Dx g h=none):AG (gA n y g) 3 (.map (EL (.int .i64 h) (V.mp (5+2*g.length)) (D3 5 g g.length)))=DR 5 g g.length++IC n y (FE g h):=by
 have a:FE g h=g++[(h,[])]:=by unfold FE;rw[e]
 have b:EL (.int .i64 h) (V.mp (5+2*g.length)) (D3 5 g g.length)=D3 5 (FE g h) (FE g h).length:=by
  rw[Wo _ _ _ (by rw[VQ,e];rfl),a,DV,List.length_singleton,D3,ru 5 g _ _ (BV _),QS (BV _)];simp
 rw[gA,Nh (PD 5 g _ 3 (.inl (by omega))),b];rfl
theorem Ykf {h:Int}(e:Dx g h=none):(5+2*g.length,Ob.map [])::(DR 5 g g.length++IC n y (FE g h))=gA n y (FE g h):=by
 have a:FE g h=g++[(h,[])]:=by unfold FE;rw[e]
 rw[gA];have:DR 5 (FE g h) (FE g h).length=(5+2*g.length,Ob.map [])::DR 5 g g.length:=by
  rw[a,DV,List.length_singleton,DR,r5 5 g _ _ (BV _),QS (BV _)];simp[Qf]
 rw[this,List.cons_append]
theorem Ytq {h x:Int}{i:Nat}(e:Dx g h=some i)(a:i<g.length):AG (gA n y g) (5+2*i) (.map (EL (.int .i64 x) (V.d (.bool true)) (Qf g[i].2)))=gA n y (Hs g h x):=by
 rw[VO e a,Ypk,gA,SR (UG 5 g _ i a a),r6 5 g _ _ i a,gA,List.length_set];congr 1;unfold IC;rw[List.length_set,r4 5 g _ i a]
theorem vB {p:Nat->Bool}{c:Nat}:∀k,(∀i,i<k->p (c+2*i)=true)->Xh p (DR c g k)=[]
|0,_=>rfl
|k+1,h=>by
 have a:=vB k (λi b=>h i (by omega));rw[DR];split
 ·exact a
 ·rw[Xh,BL (h k (by omega)),a]
theorem dX {p:Nat->Bool}{c:Nat}:∀k,(∀i,i<k->p (c+2*i)=false)->Xh p (DR c g k)=DR c g k
|0,_=>rfl
|k+1,h=>by
 have a:=dX k (λi b=>h i (by omega));rw[DR];split
 ·exact a
 ·rw[Xh,h k (by omega),a];simp
theorem gE (o:Ob):AG (gA n y g) 2 o=DR 5 g g.length++[(3,.map (D3 5 g g.length)),(2,o),(1,.box 29 (.d y.enc)),(0,.box 29 (.d y.enc))]:=by
 rw[gA,Nh (PD 5 g _ 2 (.inl (by omega)))];simp[IC,AG]
theorem Qs (o:Ob):AA (AG (gA n y g) 2 o) 2=some o:=by
 rw[gE,Wr (PD 5 g _ 2 (.inl (by omega)))];simp[AA]
theorem Vs (o:Ob):Xh (AE 1 []) (AG (gA n y g) 2 o)=[(0,.box 29 (.d y.enc))]:=by
 rw[gE,Wi,vB _ (λi _=>by simp[AE];omega)];simp[Xh,AE]
theorem Yeu (o:Ob):Xh (AE 1 (3::(List.range g.length).map λi=>5+2*i)) (AG (gA n y g) 2 o)=DR 5 g g.length++[(3,.map (D3 5 g g.length)),(0,.box 29 (.d y.enc))]:=by
 rw[gE,Wi,dX]
 ·simp[Xh,AE];rw[BL (λx _=>by omega),BL (λx _=>by omega)]
 ·intro i a;simp[AE];exact λ_ _=>⟨i,a,rfl⟩
theorem Yke {p:Nat->Bool}(h:∀i,i<g.length->p (5+2*i)=false)(a:∀j,j<4->p j=false):Xh p (gA n y g)=gA n y g:=by
 rw[gA,Wi,dX _ h];simp[IC,Xh,a]
end
section
variable {P:Az} (hP:P.p=Tryz.prog)
include hP
theorem Yr8 {y:Ah}(hy:y.BC)(hw:y.P6){K:A7->AB->Prop}(h0:Lf y=none->K (.ret (.BE [.d (.agg [iD 0,.B0]),.d (iD 140)])) [(0,.box 29 (.d y.enc))])
 (h1:∀g,Lf y=some g->K (.ret (.BE [.agg [.d (iD y.AD.length),.mp 3],.d (iD 0)])) (DR 5 g g.length++[(3,.map (D3 5 g g.length)),(0,.box 29 (.d y.enc))])):
 AV P 50 [.d y.enc] [(0,.box 29 (.d y.enc))] K:=by
 refine Xk hP AO Znv Zj1 BD.nil λ_ aj=>?_;have yk:(V.d y.enc).BM=some [.d (Xg y.Al),.d (.AF 5 (y.Au.map At.enc)),.d (.AF 6 (y.AD.map AI.enc)),.d (.AF 5 (y.AK.map Ai.enc)),.d (.AF 5 (y.AQ.map Ag.enc)),.d (.AF 3 (y.AN.map AR.enc))]:=rfl;have gm:Bt [V.mp 3]=none:=rfl;have gs:(V.agg [V.d (D.int IntKind.i64 (y.AD.length:Int)),V.mp 3]).shape=Sh.node [Sh.AX,Sh.AX]:=rfl;simp[Zha,yk,gm,gs,DZ,Zf];refine Ae.go (ι:=Nat×Gr) (λs=>[(2,.ptr 2 []),(14,.d (.AF 5 (y.AK.map Ai.enc))),(15,.d (.int .i64 y.AK.length)),(16,.d (.int .i64 s.1))]) (λs=>gA y.AD.length y s.2) (λs=>s.1<=y.AK.length/\Gw y.AD.length s.2 (y.AK.drop s.1)=Lf y) (λs=>y.AK.length-s.1) (0,[]) ⟨DM _,rfl⟩ (by simp) ?_ ?_
 ·rfl
 rintro⟨k,g⟩ ⟨hk,M⟩ R rn re rr rp;simp only at hk M rn;obtain⟨f,hf⟩:∃f,f=4+2*g.length:=⟨_,rfl⟩
 have fg:fresh (gA y.AD.length y g)=f:=by rw[eb,hf]
 have X:=Zcp (n:=y.AD.length) (y:=y) (g:=g);have l3:=Zcq (n:=y.AD.length) (y:=y) (g:=g);have r:¬f=2:=by omega
 have O:¬f=3:=by omega
 rw[fg]at rn;by_cases z:k<y.AK.length
 ·have wr:IntKind.i64.wrap ((k:Int)+1)=(k:Int)+1:=IntWalk.i64_in _ (by have:=hw.AK;omega);rw[Db z]at M;have fr:fresh ((f,Ob.box 45 (V.d y.AK[k].enc))::gA y.AD.length y g)=f+1:=by rw[Yb,fg,BL (BV _)]
  have Z:(V.d y.AK[k].enc).BM=some [.d (.AM y.AK[k].head),.d (iD y.AK[k].AP),.d (.AF 8 (y.AK[k].AW.map Am.enc)),.d (.AF 11 (y.AK[k].Ak.map BB.enc)),.d (.AF 7 (y.AK[k].BK.map Ba.enc))]:=rfl;have rs:y.AK[k].enc.shape=.node [.AX,.AX,.AX,.AX,.AX]:=rfl;have rz:y.AK[k].enc.sz=5:=rfl;simp[Xzh,z,fg,X,l3,r,O,Z,rs,rz,fr];obtain⟨o,c⟩:∃o,o=FE g y.AK[k].AP:=⟨_,rfl⟩
  have m:0<=y.AK[k].AP/\y.AK[k].AP<y.AD.length->∀t ex,Wk t ((f,Ob.box 45 (V.d y.AK[k].enc))::gA y.AD.length y o)->AA t f=some (Ob.box 45 (V.d y.AK[k].enc))->
   Ys P [] VY (Yw 1 (Wt (Ys P [] VX R) R)) ((2,V.ptr 2 [])::(5,V.ptr f [])::(14,V.d (D.AF 5 (List.map Ai.enc y.AK)))::(15,V.d (D.int IntKind.i64 y.AK.length))::(16,V.d (D.int IntKind.i64 k))::ex) t:=λa t ex ad aa=>by
   simp[Yhp,aa,Z];refine Ae.pre ad ?_;refine Ae.go (ι:=Nat×Gr) (λs=>[(2,.ptr 2 []),(5,.ptr f []),(14,.d (.AF 5 (y.AK.map Ai.enc))),(15,.d (.int .i64 y.AK.length)),(16,.d (.int .i64 k)),(38,.d (.AF 8 (y.AK[k].AW.map Am.enc))),(39,.d (.int .i64 y.AK[k].AW.length)),(40,.d (.int .i64 s.1))]) (λs=>(f,Ob.box 45 (V.d y.AK[k].enc))::gA y.AD.length y s.2)
    (λs=>s.1<=y.AK[k].AW.length/\Gq y.AD.length y.AK[k].AP s.2 (y.AK[k].AW.drop s.1)=Gq y.AD.length y.AK[k].AP o y.AK[k].AW/\s.2.length=o.length/\∃i,Dx s.2 y.AK[k].AP=some i) (λs=>y.AK[k].AW.length-s.1) (0,o) ⟨DM _,rfl,rfl,by rw[c];exact yw _ _⟩ (by simp) rfl ?_
   rintro⟨j,b⟩ ⟨hj,e,U,i,l⟩ R2 L ae af ak;simp only at hj e U l L;have ah:o.length=g.length\/o.length=g.length+1:=by
    rw[c];unfold FE;split<;>simp
   obtain⟨F,hF⟩:∃F,F=fresh ((f,Ob.box 45 (V.d y.AK[k].enc))::gA y.AD.length y b):=⟨_,rfl⟩
   have ai:f<F/\4+2*b.length<=F:=by
    rw[hF,Yb,eb];split<;>omega
   have J:=Zcp (n:=y.AD.length) (y:=y) (g:=b);have Y:=Zcq (n:=y.AD.length) (y:=y) (g:=b);have F2:¬F=2:=by omega
   have F3:¬F=3:=by omega
   have Ff:¬F=f:=by omega
   have T:=(Zx l).1;rw[<-hF]at L;by_cases u:j<y.AK[k].AW.length
   ·rw[Db u]at e;have ag:IntKind.i64.wrap ((j:Int)+1)=(j:Int)+1:=IntWalk.i64_in _ (by have:=hw.AW _ (CS z);omega);have xk:(V.d y.AK[k].AW[j].enc).BM=some [.d (.AM y.AK[k].AW[j].name),.d (.AM y.AK[k].AW[j].kind),.d (iD y.AK[k].AW[j].AP),.d y.AK[k].AW[j].CF.enc]:=rfl;have xs:y.AK[k].AW[j].enc.shape=.node [.AX,.AX,.AX,.node [.AX,.AX,.AX,.AX,.AX]]:=rfl;have xz:y.AK[k].AW[j].enc.sz=8:=rfl;simp[Xzg,u,<-hF,J,Y,F2,F3,Ff,r,O,xk,xs,xz];refine⟨rfl,vH hP (by rw[Yb,<-hF];split<;>omega) ?_⟩;by_cases H:0<=y.AK[k].AW[j].AP/\y.AK[k].AW[j].AP<y.AD.length
    ·have v:=VQ (g:=b) y.AK[k].AP;have kk:=UF 5 b y.AK[k].AP b.length;have li:=Ytr (n:=y.AD.length) (y:=y) T;have fi:¬f=5+2*i:=by omega
     have Fi:¬F=5+2*i:=by omega
     have ki:=fq y.AK[k].AW[j].AP b[i].2;have ga:=Ytq (n:=y.AD.length) (y:=y) (x:=y.AK[k].AW[j].AP) l T;rw[l]at v;have he:Gq y.AD.length y.AK[k].AP b (y.AK[k].AW[j]::y.AK[k].AW.drop (j+1))=Gq y.AD.length y.AK[k].AP (Hs b y.AK[k].AP y.AK[k].AW[j].AP) (y.AK[k].AW.drop (j+1)):=by rw[Gq,BL H]
     rw[he]at e;simp[H,Ff,F2,F3,r,O,J,Y,Z,xk,kk,v,Ex,fi,Fi,li,ki,ga,ag];refine L [] (j+1,Hs b y.AK[k].AP y.AK[k].AW[j].AP) _ _ ⟨by simp only;omega,e,by rw[eJ];exact U,i,yv l⟩ (by simp only;omega) (by simp) ?_ (by simp[AE];omega) ?_
     ·simp only;rw[Xh,BL (by simp[AE]),Xe];rw[Yb,eb,eJ];split<;>omega
     ·simp only;simp only[AH,V.BJ];simp only[Bool.not_false,EA];exact ec (by simp[AE];omega) (λq hq=>by rw[eJ]at hq;simp[AE];omega)
    ·have hb:(decide (0<=y.AK[k].AW[j].AP)&&decide (y.AK[k].AW[j].AP<y.AD.length))=false:=by
      rw[ZR,MV,MV];omega
     rw[hb];simp[F2,r,J];refine af _ _ ?_;simp;refine rr _ _ ?_;have Q:=Qs (n:=y.AD.length) (y:=y) (g:=b);simp[F2,r,Q];refine⟨[],by simp,?_,?_⟩
     ·simp[Xh,AE,Vs,show 1<=F by omega,show 1<=f by omega]
     ·have G:Lf y=none:=by
       rw[<-M,Gw,BL a,<-c,<-e,Gq,Af H]
      have w:=h0 G;simpa[Xh,AE,Vs,show 1<=F by omega,show 1<=f by omega]using w
   ·obtain rfl:j=y.AK[k].AW.length:=by omega
    simp[Xzg];refine ae _ _ _ ?_;simp[Yho,wr];have ab:Gq y.AD.length y.AK[k].AP o y.AK[k].AW=some b:=by
     rw[<-e,List.drop_length,Gq]
    have ac:Gw y.AD.length b (y.AK.drop (k+1))=Lf y:=by
     rw[<-M,Gw,BL a,<-c,ab]
    have W:∀i,i<b.length->AE f [5+2*g.length] (5+2*i)=false:=λi hi=>by simp[AE];omega
    refine rn [5+2*g.length] (k+1,b) _ _ ⟨by simp only;omega,ac⟩ (by simp only;omega) (by simp) ?_ (by simp[AE];omega) ?_
    ·simp only;rw[Xh,BL (by simp[AE];omega)];exact Yke W (λq hq=>by simp[AE];omega)
    ·exact ec (by simp[AE];omega) W
  refine⟨rfl,vH hP (by rw[fr];omega) ?_⟩;by_cases a:0<=y.AK[k].AP/\y.AK[k].AP<y.AD.length
  ·have v:=VQ (g:=g) y.AK[k].AP;have kk:=UF 5 g y.AK[k].AP g.length;cases N:Dx g y.AK[k].AP with
   |some i=>
    have hi:=(Zx N).1;have li:=Ytr (n:=y.AD.length) (y:=y) hi;have fi:¬f=5+2*i:=by omega
    rw[N]at v;simp[a,r,O,X,l3,Z,kk,v,Ex,fi,li];have e1:o=g:=by rw[c];unfold FE;rw[N]
    exact m a _ [_] (by rw[e1];exact Wk.refl _) (by simp)
   |none=>
    rw[N]at v;simp[a,r,O,X,l3,Z,kk,v,Ex,fr];have e5:f+1=5+2*g.length:=by omega
    have ga:=Ytt (n:=y.AD.length) (y:=y) N;have gb:=Ykf (n:=y.AD.length) (y:=y) N;rw[<-c]at ga gb;rw[e5];refine m a _ [] ?_ (by simp[AA];omega);have:(V.mp (5+2*g.length))=V.mp (5+2*g.length):=rfl;simp only[ga];rw[<-gb];exact ZJ (List.Perm.swap _ _ _)
  ·have hb:(decide (0<=y.AK[k].AP)&&decide (y.AK[k].AP<y.AD.length))=false:=by
    rw[ZR,MV,MV];omega
   rw[hb];simp[r,X];refine rr _ _ ?_;have Q:=Qs (n:=y.AD.length) (y:=y) (g:=g);simp[r,Q];refine⟨[],by simp,?_,?_⟩
   ·simp[Xh,AE,Vs,show 1<=f by omega]
   ·have G:Lf y=none:=by
     rw[<-M,Gw,Af a]
    have w:=h0 G;simpa[Xh,AE,Vs,show 1<=f by omega]using w
 ·obtain rfl:k=y.AK.length:=by omega
  simp[Xzh];refine re _ _ _ ?_;have Q:=Qs (n:=y.AD.length) (y:=y) (g:=g);simp[X,Q];refine⟨3::(List.range g.length).map λi=>5+2*i,by simp[AE],?_,?_⟩
  ·rw[Yeu];have h:=ec (n:=y.AD.length) (y:=y) (g:=g) (p:=AE 1 (3::(List.range g.length).map λi=>5+2*i)) (by simp[AE]) (λi hi=>by simp[AE];exact λ_ _=>⟨i,hi,rfl⟩);rw[gA,Wa]at h;rw[Wa];simp only[As]at h⊢;refine⟨h.1,?_⟩;have h2:=h.2;simp only[IC,AH,As]at h2⊢;exact⟨h2.1,h2.2.2.2⟩
  ·rw[Yeu];exact h1 g (by rw[<-M,List.drop_length,Gw])
end
theorem Uy {w:World}{i:A0}:∀(h:List D)(b:List Value),Br w i (h.map .d) b↔Bb w (B2 i) h b
|[],b=>by simp[Br,Bb]
|x::r,b=>by
 simp only[Cg,Br,Bb,V.Ac];exact⟨λ⟨c,a,e,f,g⟩=>⟨c,a,e,f,(Uy r a).1 g⟩,λ⟨c,a,e,f,g⟩=>⟨c,a,e,f,(Uy r a).2 g⟩⟩
theorem Wk.Eh {e:AB}{id E z:Nat}{xs:List D}(g:AA e id=some (.A9 E z xs)):Wk e (AG e id (.Ao E z (xs.map .d))):=λw h f=>by
 refine⟨h,Tr.refl w h,f.swap g ?_⟩;rcases f.BU id _ g with⟨c,rfl⟩|⟨b,a,i,p,c,j,k,l,m⟩
 ·exact .inl ⟨c,rfl⟩
 ·refine .inr ⟨b,a,i,p,by simpa using c,j,(Uy _ _).2 k,λx n=>?_,m⟩;obtain⟨y,o,rfl⟩:=C9.1 n;have:=l y o;rw[<-this];exact CC y
theorem Rc8 {ob:AB}{id E z:Nat}{xs:List D}(g:AA ob id=some (.Ao E z (xs.map .d))):Wk ob (AG ob id (.A9 E z xs)):=λw h f=>by
 refine⟨h,Tr.refl w h,f.swap g ?_⟩;rcases f.BU id _ g with⟨c,e⟩|⟨b,a,i,n,c,e,j,k,l⟩
 ·exact .inl ⟨c,by simpa using e⟩
 ·refine .inr ⟨b,a,i,n,by simpa using c,e,(Uy _ _).1 j,λx m=>?_,l⟩;have:=k _ (List.mem_map_of_mem m);rw[<-this];exact(CC x).symm
@[simp] theorem rngK_nm {a:AB}{b:V->AB->Prop}(o:Option Ob):Lw a b (.d .B0) o=b (.hd false (fresh a)) ((fresh a,.it none 0 [])::a):=by simp only[Lw]
def Xm (g:Gr)(h:Int):List Int:=match Dx g h with
|some i=>(g.getD i (0,[])).2
|none=>[]
structure GM (ob:AB)(m:Nat)(g:Gr)(mi:Nat->Nat):Prop where
 pv:∃es,AA ob m=some (.map es)/\(∀h,U7 (.int .i64 0) (.int .i64 h) es)/\∀h,Yh (.int .i64 h) es=(Dx g h).map λi=>V.mp (mi i)
 YU:∀i (hi:i<g.length),AA ob (mi i)=some (.map (Qf g[i].2))
def Oj (n:Nat)(g:Gr):Prop:=∀h:Int,(Xm g h).Nodup/\∀x∈Xm g h,0<=x/\x<n
theorem Ydz (a:Int->List Int)(k:Nat)(x:Int):DP a (k+1) x=DP a k x++if x∈a k then[(k:Int)] else[]:=by
 unfold DP;rw[List.range_succ,List.filter_append,Ij];congr 1;by_cases h:x∈a k
 ·simp[h]
 ·simp[h]
theorem uM (a:Int->List Int)(k:Nat)(x:Int):(DP a k x).length<=k:=by
 unfold DP;rw[List.length_map];exact FA (List.length_filter_le _ _) (by simp)
def Oh (l:List Int):D:=if l=[] then .AT else X9 l
structure UM (f n:Nat)(U:Nat->List Int)(vs:List V)(N:AB):Prop where
 len:vs.length=n
 nm:∀j o,AA N j=some o->f+2<=j
 el:∀x,x<n->(U x=[]/\vs[x]? = some (.d .AT))\/(U x≠[]/\∃a,vs[x]? = some (.sl a (U x).length)/\AA N a=some (.A9 3 1 ((U x).map iD)))
 inj:∀x x' a m m':Nat,vs[x]? = some (.sl a m)->vs[x']? = some (.sl a m')->x=x'
 BJ:∀p:Nat->Bool,(∀j,j<f->p j=false)->AH p N=true
section
variable {f n:Nat} {U U':Nat->List Int} {vs:List V} {N:AB}
theorem UM.Oc (h:UM f n U vs N){x a m:Nat}(e:vs[x]? = some (.sl a m)):x<n/\U x≠[]/\m=(U x).length/\AA N a=some (.A9 3 1 ((U x).map iD)):=by
 have c:x<n:=by rw[<-h.len];exact(EK.1 e).1
 rcases h.el x c with⟨_,b⟩|⟨d,i,b,g⟩
 ·rw[e]at b;cases b
 ·rw[e]at b;cases b;exact⟨c,d,rfl,g⟩
theorem UM.new (h:UM f n U vs N){x a:Nat}{z:Int}(H:x<n)(L:U x=[])(M:f+2<=a)(t:AA N a=none)(F:∀y,U' y=if y=x then[z] else U y):UM f n U' (vs.set x (.sl a 1)) ((a,.A9 3 1 [iD z])::N):=by
 have d:x<vs.length:=by rw[h.len];exact H
 refine⟨by simpa using h.len,λj o s=>?_,λy J=>?_,λy u b m K k g=>?_,λp G=>?_⟩
 ·rw[AA]at s;split at s
  ·omega
  ·exact h.nm j o s
 ·rw[F];by_cases e:y=x
  ·subst e;right;rw[BL rfl];exact⟨by simp,a,by simp[d],by simp[AA]⟩
  ·have w:¬x=y:=λc=>e c.symm;rw[Af e,List.getElem?_set_ne w];rcases h.el y J with⟨l,q⟩|⟨l,b,q,r⟩
   ·exact .inl ⟨l,q⟩
   ·refine .inr ⟨l,b,q,?_⟩;rw[AA,Af (λc=>by subst c;rw[t]at r;cases r)];exact r
 ·by_cases v:y=x
  ·subst v;rw[List.getElem?_set_self d]at k;cases k;by_cases i:u=y
   ·exact i.symm
   ·rw[List.getElem?_set_ne (λc=>i c.symm)]at g;have:=(h.Oc g).2.2.2;rw[t]at this;cases this
  ·rw[List.getElem?_set_ne (λc=>v c.symm)]at k;by_cases i:u=x
   ·subst i;rw[List.getElem?_set_self d]at g;cases g;have:=(h.Oc k).2.2.2;rw[t]at this;cases this
   ·rw[List.getElem?_set_ne (λc=>i c.symm)]at g;exact h.inj y u b m K k g
 ·simp only[AH];exact h.BJ p G
theorem ug {p:Nat->Bool}{a E z:Nat}{l:List D}:∀{N:AB},AH p N=true->AH p (AG N a (.A9 E z l))=true
|[],h=>h
|(j,o)::r,h=>by
 rw[AG];have b:AH p r=true:=by cases o<;>simp_all[AH]
 split
 ·simpa only[AH]using b
 ·have:=ug (a:=a) (E:=E) (z:=z) (l:=l) b;cases o<;>simp_all[AH]
theorem UM.old (h:UM f n U vs N){x a m:Nat}{z:Int}(e:vs[x]? = some (.sl a m))(H:∀y,U' y=if y=x then U x++[z] else U y):UM f n U' (vs.set x (.sl a (m+1))) (AG N a (.A9 3 1 ((U x).map iD++[iD z]))):=by
 obtain⟨L,O,J,w⟩:=h.Oc e;have g:x<vs.length:=by rw[h.len];exact L
 have u:∀j,AA (AG N a (.A9 3 1 ((U x).map iD++[iD z]))) j=if j=a then some (.A9 3 1 ((U x).map iD++[iD z])) else AA N j:=λj=>Xc N a j ⟨_,w⟩;refine⟨by simpa using h.len,λj o t=>?_,λy M=>?_,λy F b k P q i=>?_,λp K=>ug (h.BJ p K)⟩
 ·rw[u]at t;split at t
  ·rename_i c;subst c;exact h.nm _ _ w
  ·exact h.nm j o t
 ·rw[H];by_cases c:y=x
  ·subst c;right;rw[BL rfl];exact⟨by simp,a,by simp[g,J],by rw[u,BL rfl];simp⟩
  ·rw[Af c,List.getElem?_set_ne (λd=>c d.symm)];rcases h.el y M with⟨s,r⟩|⟨s,b,r,G⟩
   ·exact .inl ⟨s,r⟩
   ·refine .inr ⟨s,b,r,?_⟩;rw[u,Af (λd=>by subst d;exact c (h.inj _ _ _ _ _ r e))];exact G
 ·by_cases v:y=x
  ·subst v;rw[List.getElem?_set_self g]at q;cases q;by_cases l:F=y
   ·exact l.symm
   ·rw[List.getElem?_set_ne (λd=>l d.symm)]at i;exact h.inj _ _ _ _ _ e i
  ·rw[List.getElem?_set_ne (λd=>v d.symm)]at q;by_cases l:F=x
   ·subst l;rw[List.getElem?_set_self g]at i;cases i;exact h.inj _ _ _ _ _ q e
   ·rw[List.getElem?_set_ne (λd=>l d.symm)]at i;exact h.inj _ _ _ _ _ q i
theorem UM.congr (h:UM f n U vs N)(b:∀x,x<n->U' x=U x):UM f n U' vs N:=
 ⟨h.len,h.nm,λx a=>by rw[b x a];exact h.el x a,h.inj,h.BJ⟩
theorem UM.it (h:UM f n U vs N){t k:Nat}{o:Option Nat}{s:List Nat}(r:f+2<=t)(l:AA N t=none)(m:∀j,o=some j->j<f):UM f n U vs ((t,.it o k s)::N):=by
 refine⟨h.len,λj x d=>?_,λx q=>?_,h.inj,λp e=>?_⟩
 ·rw[AA]at d;split at d
  ·omega
  ·exact h.nm j x d
 ·rcases h.el x q with b|⟨b,a,g,c⟩
  ·exact .inl b
  ·refine .inr ⟨b,a,g,?_⟩;rw[AA,Af (λi=>by subst i;rw[l]at c;cases c)];exact c
 ·simp only[AH,h.BJ p e,Bool.and_true,El];cases o with
  |none=>rfl
  |some j=>exact e j (m j rfl)
theorem vE {p:Nat->Bool}{t k:Nat}{o:Option Nat}{s:List Nat}(a:∀j,o=some j->p j=false):∀{N:AB},AH p N=true->AH p (AG N t (.it o k s))=true
|[],h=>h
|(j,x)::r,h=>by
 rw[AG];have b:AH p r=true:=by cases x<;>simp_all[AH]
 split
 ·simp only[AH,b,Bool.and_true,El];cases o with
  |none=>rfl
  |some j=>exact a j rfl
 ·have:=vE (t:=t) (k:=k) (s:=s) a b;cases x<;>simp_all[AH]
theorem UM.TS (h:UM f n U vs N){t k k':Nat}{o:Option Nat}{b:Option Nat}{s s':List Nat}(l:AA N t=some (.it o k s))(v:∀j,b=some j->j<f):UM f n U vs (AG N t (.it b k' s')):=by
 have q:∀j,AA (AG N t (.it b k' s')) j=if j=t then some (.it b k' s') else AA N j:=λj=>Xc N t j ⟨_,l⟩;refine⟨h.len,λj x i=>?_,λx w=>?_,h.inj,λp m=>vE (λj e=>m j (v j e)) (h.BJ p m)⟩
 ·rw[q]at i;split at i
  ·rename_i c;subst c;exact h.nm _ _ l
  ·exact h.nm j x i
 ·rcases h.el x w with d|⟨d,a,r,g⟩
  ·exact .inl d
  ·refine .inr ⟨d,a,r,?_⟩;rw[q,Af (λu=>by subst u;rw[l]at g;cases g)];exact g
theorem Rc9 (f n:Nat):UM f n (λ_=>[]) ((List.replicate n D.AT).map V.d) []:=by
 refine⟨by simp,λj o h=>(by cases h),λx b=>.inl ⟨rfl,by simp[b]⟩,λx g a m c h=>?_,λp _=>rfl⟩;rw[List.getElem?_map]at h;cases e:(List.replicate n D.AT)[x]? with
 |none=>rw[e]at h;cases h
 |some d=>rw[e]at h;cases h
theorem ee {ob:AB}{j:Nat}(h:j∈W4 ob):∃o,AA ob j=some o:=by
 induction ob with
 |nil=>simp[W4]at h
 |cons e r b=>
  obtain⟨i,x⟩:=e;rw[AA];split
  ·exact⟨_,rfl⟩
  ·rename_i a;simp only[W4,Cg,DA]at h;rcases h with h|h
   ·exact absurd h.symm a
   ·exact b h
theorem Z0 {N:AB}{b:Nat}(h:∀j o,AA N j=some o->b<=j){j:Nat}(a:j<b):AA N j=none:=by
 cases e:AA N j with
 |none=>rfl
 |some o=>have:=h j o e;omega
theorem qR (h:UM f n U vs N)(r:AB):∀k,k<=n->∃y q,Wk (N++((f+1,Ob.Ao 32 1 vs)::r)) (y++((f+1,Ob.Ao 32 1 q)::r))/\q.length=n/\(∀j o,AA y j=some o->f+2<=j)/\(∀x,x<k->q[x]? = some (.d (Oh (U x))))/\(∀x,k<=x->q[x]? = vs[x]?)/\∀x a m:Nat,k<=x->vs[x]? = some (.sl a m)->AA y a=AA N a
|0,_=>⟨N,vs,Wk.refl _,h.len,h.nm,λx l=>absurd l (by omega),λ_ _=>rfl,λ_ _ _ _ _=>rfl⟩
|k+1,hk=>by
 obtain⟨e,p,Q,O,v,F,t,G⟩:=qR h r k (by omega);have M:∀x,x<k+1->x≠k->x<k:=λx F t=>by omega
 rcases h.el k (by omega) with⟨W,s⟩|⟨T,a,s,X⟩
 ·refine⟨e,p,Q,O,v,λx l=>?_,λx l=>t x (by omega),λx a m l=>G x a m (by omega)⟩;by_cases c:x=k
  ·subst c;rw[t x (BV _),s,Oh,BL W]
  ·exact F x (M x l c)
 ·have w:AA e a=some (.A9 3 1 ((U k).map iD)):=by rw[G k a _ (BV _) s,X]
  have na:=v _ _ w;have R:AA e (f+1)=none:=Z0 v (by omega);have L:AA (e++((f+1,Ob.Ao 32 1 p)::r)) (f+1)=some (.Ao 32 1 p):=by rw[Wr R];simp[AA]
  have g:=Yew (k:=0) (n:=(U k).length) (Vf (b:=(f+1,Ob.Ao 32 1 p)::r) w) (by decide) (by simp);have Y:AG (e++((f+1,Ob.Ao 32 1 p)::r)) a .AY=AG e a .AY++((f+1,Ob.Ao 32 1 p)::r):=SR w;rw[Y]at g;have K:∀j,AA (AG e a .AY) j=if j=a then some .AY else AA e j:=λj=>Xc e a j ⟨_,w⟩;have u:AA (AG e a .AY) (f+1)=none:=by rw[K,Af (by omega)];exact R
  have z:=Ox L (i:=k) (by rw[t k (BV _)];exact s) g (by rw[Wr u];simp[AA]) rfl;rw[Nh u]at z;have Z:AG ((f+1,Ob.Ao 32 1 p)::r) (f+1) (.Ao 32 1 (p.set k (.d (.AF 1 ((U k).map iD)))))=(f+1,.Ao 32 1 (p.set k (.d (.AF 1 ((U k).map iD)))))::r:=by simp[AG]
  rw[Z]at z;refine⟨_,_,Q.trans z,by simpa using O,λj o J=>?_,λx l=>?_,λx l=>?_,λx b m l P=>?_⟩
  ·rw[K]at J;split at J
   ·omega
   ·exact v j o J
  ·by_cases c:x=k
   ·subst c;rw[List.getElem?_set_self (by omega),Oh,Af T];rfl
   ·rw[List.getElem?_set_ne (λH=>c H.symm)];exact F x (M x l c)
  ·rw[List.getElem?_set_ne (by omega)];exact t x (by omega)
  ·rw[K,Af (λH=>by subst H;have:=h.inj _ _ _ _ _ P s;omega)];exact G x b m (by omega) P
def Ih (n:Nat)(U:Nat->List Int):List D:=(List.range n).map λx=>Oh (U x)
theorem UM.Cm (h:UM f n U vs N)(r:AB):∃k,Wk (N++((f+1,Ob.Ao 32 1 vs)::r)) (k++((f+1,Ob.A9 32 1 (Ih n U))::r))/\∀j o,AA k j=some o->f+2<=j:=by
 obtain⟨a,b,q,t,l,p,_,_⟩:=qR h r n (BV _);have e:b=(Ih n U).map .d:=by
  refine QR λi=>?_;by_cases c:i<n
  ·rw[p i c];simp[Ih,c]
  ·rw[O2 (by omega),O2 (by simp[Ih];omega)]
 have m:AA a (f+1)=none:=Z0 l (by omega);have g:=Rc8 (ob:=a++((f+1,Ob.Ao 32 1 b)::r)) (id:=f+1) (E:=32) (z:=1) (xs:=Ih n U) (by rw[Wr m,e];simp[AA]);rw[Nh m]at g;have s:AG ((f+1,Ob.Ao 32 1 b)::r) (f+1) (.A9 32 1 (Ih n U))=(f+1,.A9 32 1 (Ih n U))::r:=by simp[AG]
 rw[s]at g;exact⟨a,q.trans g,l⟩
end
theorem Xvv {p:Nat->Bool}:∀{vs:List V},(∀v∈vs,V.BJ p v=false)->BO p vs=false
|[],_=>by simp[BO]
|v::r,h=>by
 have a:=Xvv (vs:=r) λu b=>h u (Kl _ b);simp[BO,h v (by simp),a]
theorem UM.Cx {f n t:Nat}{U:Nat->List Int}{e:List V}{N r:AB}{l:List Nat}(h:UM f n U e N)(s:f<=t)(k:∀j o,AA N j=some o->j∈l)(i:AH (AE t l) r=true):AH (AE t l) (N++((f+1,Ob.Ao 32 1 e)::r))=true:=by
 have m:BO (AE t l) e=false:=Xvv λv p=>by
  obtain⟨x,c⟩:=List.getElem?_of_mem p;have d:x<n:=by rw[<-h.len];exact(EK.1 c).1
  rcases h.el x d with⟨_,b⟩|⟨_,a,b,g⟩
  ·rw[c]at b;cases b;simp[V.BJ]
  ·rw[c]at b;cases b;simp[V.BJ,AE,k a _ g]
 rw[Wa,h.BJ _ (λj q=>by simp[AE];omega)];simp[AH,m,i]
section
variable {P:Az} (hP:P.p=Tryz.prog)
include hP
theorem gK {g:Gr}{n m:Nat}{mi:Nat->Nat}{G:AB}(hg:GM G m g mi)(hn:Oj n g)(bc:n<=1000000){K:A7->AB->Prop}(h:K (.ret (.sl (fresh G+1) n)) ((fresh G+1,.A9 32 1 (Ih n λx=>DP (Xm g) n x))::G)):
 AV P 121 [.agg [.d (.int .i64 n),.mp m]] G K:=by
 refine AV.Gb ?_;refine Xk hP AO Y9k Y6r BD.nil λ_ ad=>?_;obtain⟨es,lm,kk,fe⟩:=hg.pv;obtain⟨f,hf⟩:∃f,f=fresh G:=⟨_,rfl⟩
 rw[<-hf]at h ad⊢;have lt:∀j o,AA G j=some o->j<f:=λj o h=>by rw[hf];exact Xf h
 have bb:=lt _ _ lm;simp[Y0z,<-hf];refine⟨by omega,Ae.pre (Wk.Eh (id:=f+1) (E:=32) (z:=1) (xs:=List.replicate n D.AT) (by simp[AA])) ?_⟩;refine Ae.go (ι:=Nat×List V×AB) (λs=>[(1,.ptr f []),(3,.sl (f+1) n),(10,.d (.int .i64 n)),(11,.d (.int .i64 s.1))]) (λs=>s.2.2++((f+1,Ob.Ao 32 1 s.2.1)::(f,Ob.box 116 (V.agg [V.d (D.int IntKind.i64 n),V.mp m]))::G)) (λs=>s.1<=n/\UM f n (λx=>DP (Xm g) s.1 x) s.2.1 s.2.2) (λs=>n-s.1) (0,(List.replicate n D.AT).map V.d,[]) ⟨DM _,(Rc9 f n).congr (λx _=>rfl)⟩ (by simp) (by simp[AG]) ?_;rintro⟨k,u,N⟩ ⟨hk,hu⟩ R rn re rr rp;simp only at hk hu rn;by_cases a2:k<n
 ·have wr:IntKind.i64.wrap ((k:Int)+1)=(k:Int)+1:=IntWalk.i64_in _ (by omega);obtain⟨r,hr⟩:∃r,r=(f,Ob.box 116 (V.agg [V.d (D.int IntKind.i64 n),V.mp m]))::G:=⟨_,rfl⟩
  rw[<-hr]at rn⊢;have lN:∀u N U,UM f n U u N->AA (N++((f+1,Ob.Ao 32 1 u)::r)) f=some (Ob.box 116 (V.agg [V.d (D.int IntKind.i64 n),V.mp m])):=λu N U h=>by rw[Wr (Z0 h.nm (by omega)),hr];simp[AA]
  have lV:∀u N U,UM f n U u N->AA (N++((f+1,Ob.Ao 32 1 u)::r)) (f+1)=some (Ob.Ao 32 1 u):=λu N U h=>by rw[Wr (Z0 h.nm (by omega))];simp[AA]
  have lO:∀u N U,UM f n U u N->∀j o,AA G j=some o->AA (N++((f+1,Ob.Ao 32 1 u)::r)) j=some o:=λu N U h j o w=>by
   have:=lt j o w;rw[Wr (Z0 h.nm (by omega)),AA,Af (by omega),hr,AA,Af (by omega),w]
  have an:∀t l,f<=t->AH (AE t l) r=true:=λt l h1=>by
   rw[hr];have h2:AH (AE t l) G=true:=X8 (by rw[<-hf];exact ad) (by rw[<-hf];exact h1);simp[AH,V.BJ,BO,h2,AE];omega
  obtain⟨t,ht⟩:∃t,t=fresh (N++((f+1,Ob.Ao 32 1 u)::r)):=⟨_,rfl⟩
  have a0:f+2<=t:=by
   have:=Xf (lV u N _ hu);rw[ht];omega
  rw[<-ht]at rn;have l1:=lN u N _ hu;have l2:=lO u N _ hu m _ lm;have fk:=fe k;have aa:∀(o:Option Nat)(l:List Int),l=Xm g k->(o=none->l=[])->(∀j,o=some j->AA G j=some (.map (Qf l)))->Ae [1,3,4,10,11,18] (Ys P [] UW)
   (Yw 2 (Yw 1 (Wt (Ys P [] (S2.rg [] [(1,E.a (A.t 1)),(3,E.a (A.t 3)),(10,E.a (A.t 10)),(11,E.b (C.Bc BinOp.add (A.t 0) (A.t 1)) (E.a (A.t 11)) (E.a (A.int IntKind.i64 1)))] []) R) R)))
   [(1,V.ptr f []),(3,V.sl (f+1) n),(4,V.d (D.int IntKind.i64 k)),(10,V.d (D.int IntKind.i64 n)),(11,V.d (D.int IntKind.i64 k)),(18,V.hd false t)]
   ((t,Ob.it o l.length [])::(N++((f+1,Ob.Ao 32 1 u)::r))):=λo l hl ho ah=>by
   have au:∀j,o=some j->j<f:=λj e=>lt _ _ (ah j e);have az:AA N t=none:=by
    have h1:AA (N++((f+1,Ob.Ao 32 1 u)::r)) t=none:=by rw[ht];exact Xo _
    cases e:AA N t with
    |none=>rfl
    |some x=>rw[Vf e]at h1;cases h1
   have ag:=hn k;rw[<-hl]at ag;refine Ae.go (ι:=List Nat×List V×AB) (λs=>[(1,.ptr f []),(3,.sl (f+1) n),(4,.d (.int .i64 k)),(10,.d (.int .i64 n)),(11,.d (.int .i64 k)),(18,.hd false t)]) (λs=>s.2.2++((f+1,Ob.Ao 32 1 s.2.1)::r))
    (λs=>s.1.Nodup/\(∀i∈s.1,i<l.length)/\AA s.2.2 t=some (.it o l.length s.1)/\UM f n (λx=>DP (Xm g) k x++if (x:Int)∈s.1.map (λi=>l.getD i 0) then[(k:Int)] else[]) s.2.1 s.2.2) (λs=>l.length-s.1.length) ([],u,(t,.it o l.length [])::N)
    ⟨List.nodup_nil,by simp,by simp[AA],(hu.it a0 az au).congr (λx _=>by simp)⟩ (by simp) rfl ?_
   rintro⟨q,p,L⟩ ⟨ai,X,hit,Q⟩ R2 aw a9 bh bg;simp only at ai X hit Q aw;have q1:=Vf (b:=(f+1,Ob.Ao 32 1 p)::r) hit
   -- the end of a round of heads
   have Cm:(∀i,i<l.length->i∈q)->R2 (.exit 2) [(1,V.ptr f []),(3,V.sl (f+1) n),(4,V.d (D.int IntKind.i64 k)),(10,V.d (D.int IntKind.i64 n)),(11,V.d (D.int IntKind.i64 k)),(18,V.hd false t),(20,V.d (D.bool false))] (L++((f+1,Ob.Ao 32 1 p)::r)):=λal=>by
    refine a9 _ _ _ ?_;simp[wr];refine rn (W4 (L++((f+1,Ob.Ao 32 1 p)::r))) (k+1,p,L) _ _ ⟨by simp only;omega,Q.congr λx Y=>?_⟩ (by simp only;omega) (by simp) (Yg λj w=>w) (by simp[AE];omega) (Q.Cx (by omega) (λj o w=>Ze (Vf w)) (an t _ (by omega)));have e:(x:Int)∈q.map (λi=>l.getD i 0)↔(x:Int)∈Xm g k:=by
     rw[<-hl,C9];constructor
     ·rintro⟨i,F,he⟩;rw[<-he,Zy (X i F)];exact CS _
     ·intro a8;obtain⟨i,F,he⟩:=JF.1 a8;exact⟨i,al i F,by rw[Zy F,he]⟩
    simp only[Ydz,e]
   cases o with
   |none=>
    simp[x9,q1];have l0:=ho rfl;subst l0;exact Cm (λi F=>absurd F (by simp))
   |some j=>
    have q2:=lO p L _ Q _ _ (ah j rfl);simp[x9,q1,q2];refine⟨by simp[Qf],Cm,λi F af=>?_⟩;rw[SR hit];have av:∀c,AA (AG L t (Ob.it (some j) l.length (q++[i]))) c=if c=t then some (Ob.it (some j) l.length (q++[i])) else AA L c:=λc=>Xc L t c ⟨_,hit⟩;have v:=Q.TS (k':=l.length) (s':=q++[i]) hit au;obtain⟨O,ay⟩:∃O,O=AG L t (Ob.it (some j) l.length (q++[i])):=⟨_,rfl⟩
    rw[<-ay]at av v⊢;have H:AA O t=some (Ob.it (some j) l.length (q++[i])):=by rw[av,BL rfl]
    have p1:=lV p O _ v;have p2:=lO p O _ v _ _ (ah j rfl);have be:=ag.2 l[i] (CS F);obtain⟨x,Y⟩:∃x:Nat,l[i]=(x:Int):=⟨l[i].toNat,by omega⟩
    have Z:x<n:=by omega
    have eg:∀h:i<(Qf l).length,(Qf l)[i]=(.int .i64 (x:Int),V.d (.bool true)):=λh=>by simp[Qf,Y]
    have el:(Qf l).length=l.length:=by simp[Qf]
    have vl:=v.len;have J:((x:Int)∉q.map λi=>l.getD i 0):=λhm=>by
     obtain⟨i',aq,he⟩:=C9.1 hm;rw[Zy (X i' aq),<-Y]at he;have:i'=i:=(List.getElem_inj ag.1).1 he;subst this;exact af aq
    have bi:q.length<l.length:=by
     have a4:(i::q).Nodup:=List.nodup_cons.2 ⟨af,ai⟩;have a7:(i::q) ⊆ List.range l.length:=λa T=>by
      rcases DA.1 T with rfl|T
      ·simpa using F
      ·simpa using X a T
     have:=List.Nodup.length_le_of_subset a4 a7;simp at this;omega
    have a6:(q++[i]).Nodup:=by
     rw[Em];exact⟨ai,by simp,λa T b hb=>by simp at hb;subst hb;exact λe=>af (e▸T)⟩
    have a5:∀a∈q++[i],a<l.length:=λa T=>by
     rcases DF.1 T with T|T
     ·exact X a T
     ·simp at T;subst T;exact F
    have hU:∀y:Nat,(DP (Xm g) k y++if (y:Int)∈(q++[i]).map (λi=>l.getD i 0) then[(k:Int)] else[])=if y=x then (DP (Xm g) k x++if (x:Int)∈q.map (λi=>l.getD i 0) then[(k:Int)] else[])++[(k:Int)] else DP (Xm g) k y++if (y:Int)∈q.map (λi=>l.getD i 0) then[(k:Int)] else[]:=λy=>by
     by_cases c:y=x
     ·subst c;rw[BL rfl,Af J];have:(y:Int)∈(q++[i]).map (λi=>l.getD i 0):=by
       rw[Ij,DF];right;simp[FR,F,Y]
      rw[BL this];simp
     ·rw[Af c];have:((y:Int)∈(q++[i]).map (λi=>l.getD i 0))↔(y:Int)∈q.map (λi=>l.getD i 0):=by
       rw[Ij,DF];refine⟨λhh=>hh.resolve_right λhh=>?_,.inl⟩;simp[FR,F,Y]at hh;exact c (by omega)
      simp only[this]
    have ul:(DP (Xm g) k x).length<=k:=uM _ _ _;have W:∀ab N3,UM f n (λy=>DP (Xm g) k y++if (y:Int)∈(q++[i]).map (λi=>l.getD i 0) then[(k:Int)] else[]) ab N3->AA N3 t=some (Ob.it (some j) l.length (q++[i]))->R2 .normal [(1,V.ptr f []),(3,V.sl (f+1) n),(4,V.d (D.int IntKind.i64 k)),(10,V.d (D.int IntKind.i64 n)),(11,V.d (D.int IntKind.i64 k)),(18,V.hd false t)] (N3++((f+1,Ob.Ao 32 1 ab)::r)):=λab N3 h3 a1=>by
     have ba:f+2<=fresh (L++((f+1,Ob.Ao 32 1 p)::r)):=by
      have:=Xf (lV p L _ Q);omega
     have bd:t<fresh (L++((f+1,Ob.Ao 32 1 p)::r)):=Xf q1;refine aw (W4 (N3++((f+1,Ob.Ao 32 1 ab)::r))) (q++[i],ab,N3) _ _ ⟨a6,a5,a1,h3⟩ (by simp;omega) (by simp) (Yg λj w=>w) (by simp[AE];omega) (h3.Cx (by omega) (λj o w=>Ze (Vf w)) (an _ _ (by omega)))
    obtain⟨t2,ak⟩:∃t2,t2=fresh (O++((f+1,Ob.Ao 32 1 p)::r)):=⟨_,rfl⟩
    have ap:f+2<=t2:=by
     have:=Xf p1;rw[ak];omega
    have bf:x<p.length:=by rw[vl];exact Z
    rcases v.el x Z with⟨e1,e2⟩|⟨e1,a,e2,e3⟩
    ·have ax:(DP (Xm g) k x++if (x:Int)∈q.map (λi=>l.getD i 0) then[(k:Int)] else[])=[]:=e1;have ac:∀h:x<p.length,p[x]=.d .AT:=λh=>by rw[Cn h]at e2;exact FQ e2
     simp[p1,p2,eg,el,F,Z,vl,ac,FW,GN,<-ak,show ¬t2=f+1 by omega];rw[Nh (Z0 v.nm (by omega))];have sx:AG ((f+1,Ob.Ao 32 1 p)::r) (f+1) (Ob.Ao 32 1 (p.set x (V.sl t2 1)))=(f+1,Ob.Ao 32 1 (p.set x (V.sl t2 1)))::r:=by simp[AG]
     rw[sx];have n2:AA O t2=none:=by
      have h1:AA (O++((f+1,Ob.Ao 32 1 p)::r)) t2=none:=by rw[ak];exact Xo _
      cases e:AA O t2 with
      |none=>rfl
      |some x=>rw[Vf e]at h1;cases h1
     exact W _ _ (v.new (z:=(k:Int)) Z e1 ap n2 (λy=>by rw[hU y,ax,List.nil_append])) (by rw[AA,Af (λhh=>by subst hh;rw[H]at n2;cases n2)];exact H)
    ·have ac:∀h:x<p.length,p[x]=.sl a (DP (Xm g) k x++if (x:Int)∈q.map (λi=>l.getD i 0) then[(k:Int)] else[]).length:=λh=>by rw[Cn h]at e2;exact FQ e2
     rw[Af J,GL]at e3;simp only[Af J,GL]at ac;have e4:=Vf (b:=(f+1,Ob.Ao 32 1 p)::r) e3;have e5:=SR (b:=(f+1,Ob.Ao 32 1 p)::r) (o:=.A9 3 1 ((DP (Xm g) k x).map iD++[iD k])) e3;have aj:∀c,AA (AG O a (.A9 3 1 ((DP (Xm g) k x).map iD++[iD k]))) c=if c=a then some (.A9 3 1 ((DP (Xm g) k x).map iD++[iD k])) else AA O c:=λc=>Xc O a c ⟨_,e3⟩;have na:=v.nm _ _ e3;have e6:AA (AG O a (.A9 3 1 ((DP (Xm g) k x).map iD++[iD k]))++((f+1,Ob.Ao 32 1 p)::r)) (f+1)=some (Ob.Ao 32 1 p):=by
      rw[Wr (by rw[aj,Af (by omega)];exact Z0 v.nm (by omega))];simp[AA]
     simp[p1,p2,eg,el,F,Z,vl,ac,FW,GN,e4,e5,e6];refine⟨by omega,?_⟩;rw[Nh (by rw[aj,Af (by omega)];exact Z0 v.nm (by omega))];have sx:AG ((f+1,Ob.Ao 32 1 p)::r) (f+1) (Ob.Ao 32 1 (p.set x (V.sl a ((DP (Xm g) k x).length+1))))=(f+1,Ob.Ao 32 1 (p.set x (V.sl a ((DP (Xm g) k x).length+1))))::r:=by simp[AG]
     rw[sx];have ae:=v.old (z:=(k:Int)) e2 hU;simp only[Af J,GL]at ae;exact W _ _ ae (by rw[aj,Af (λhh=>by subst hh;rw[H]at e3;cases e3)];exact H)
  simp[yA,a2,l1,l2,kk,<-ht];cases Y:Dx g k with
  |none=>
   rw[Y]at fk;simp[fk,Ex,<-ht];exact aa none [] (by simp[Xm,Y]) (λ_=>rfl) (λj e=>by cases e)
  |some i=>
   rw[Y]at fk;have F:=(Zx Y).1;have li:=hg.YU i F;have l3:=lO u N _ hu _ _ li;simp[fk,Ex,l3,<-ht];have e:(Qf g[i].2).length=g[i].2.length:=by simp[Qf]
   rw[e];exact aa (some (mi i)) g[i].2 (by simp[Xm,Y,FR,F]) (λe=>by cases e) (λj e=>by cases e;exact li)
 ·obtain rfl:k=n:=by omega
  simp[yA];refine re _ _ _ ?_;simp;obtain⟨L,hw,a3⟩:=hu.Cm ((f,Ob.box 116 (V.agg [V.d (D.int IntKind.i64 k),V.mp m]))::G);have hb:∀l,AH (AE f l) ((f,Ob.box 116 (V.agg [V.d (D.int IntKind.i64 k),V.mp m]))::G)=true:=λl=>by
   simp[AH,V.BJ,BO,ad l,AE];omega
  have hid:f+1∈W4 (N++((f+1,Ob.Ao 32 1 u)::(f,Ob.box 116 (V.agg [V.d (D.int IntKind.i64 k),V.mp m]))::G)):=Ze (o:=Ob.Ao 32 1 u) (by rw[Wr (Z0 hu.nm (by omega))];simp[AA]);have ao:Xh (AE f [f+1]) (L++((f+1,Ob.A9 32 1 (Ih k λx=>DP (Xm g) k x))::(f,Ob.box 116 (V.agg [V.d (D.int IntKind.i64 k),V.mp m]))::G))=(f+1,Ob.A9 32 1 (Ih k λx=>DP (Xm g) k x))::G:=by
   have h1:∀M:AB,(∀j∈W4 M,f+2<=j)->Xh (AE f [f+1]) M=[]:=λM=>by
    induction M with
    |nil=>intro _;rfl
    |cons e r ih=>
     intro h;obtain⟨i,o⟩:=e;have F:=h i (by simp[W4]);rw[Xh,BL (by simp[AE];omega),ih λj w=>h j (by simp only[W4,Cg]at w⊢;exact Kl _ w)]
   rw[Wi,h1 _ (λj w=>by obtain⟨o,ho⟩:=ee w;exact a3 j o ho)];simp only[List.nil_append,Xh];rw[Af (by simp[AE]),BL (by simp[AE]),Xe (by omega)]
  refine⟨W4 (N++((f+1,Ob.Ao 32 1 u)::(f,Ob.box 116 (V.agg [V.d (D.int IntKind.i64 k),V.mp m]))::G)),by simp[V.BJ,BO,AE];exact hid,?_,?_⟩
  ·rw[Yg λj w=>w];exact hu.Cx (BV _) (λj o w=>Ze (Vf w)) (hb _)
  ·rw[Yg λj w=>w];refine⟨_,hw,[f+1],by simp[A7.BJ,V.BJ,AE],?_,?_⟩
   ·rw[ao];simp only[AH];exact ad _
   ·rw[ao];exact h
end
section
variable {P:Az} {sl:Xb} {ob:AB} {KO Pn:V->AB->Prop} {x:A}
@[simp] theorem iwpT_inv (c:String)(t f:Nat)(b:Option (Nat×Nat×Nat×Bool))(a:List A):I.wp P sl ob KO Pn (.Dp c t f b x a)=OA P t f b (a.map (A.ev sl)) ob KO Pn (x.ev sl):=by simp only[I.wp]
@[simp] theorem iwpT_trn (z:Nat)(h:A):I.wp P sl ob KO Pn (.I9 z x h)=Mz z ob KO (x.ev sl) (h.ev sl):=by simp only[I.wp]
@[simp] theorem invK_p (t f c id:Nat)(b:Option (Nat×Nat×Nat×Bool))(a:List V)(p:List Nat):OA P t f b a ob KO Pn (.iface c (.ptr id p))=(c=t/\Xd P.p f=true/\Lj ob (λr=>AV P f (r::a) ob (Ef KO Pn)) (.ptr id p) b):=by simp only[OA]
@[simp] theorem recvK_n (K:V->Prop)(v:V):Lj ob K v none=K v:=by simp only[Lj]
@[simp] theorem recvK_s (K:V->Prop)(v:V)(b c n:Nat)(a:Bool):Lj ob K v (some (b,c,n,a))=Vk ob b c (λu=>D4 ob n a K u) v:=by simp only[Lj]
end
abbrev qB (a n:Nat):Ob:=.box 216 (.agg [.sl a n])
abbrev qA (q:List Int):Ob:=.A9 3 1 (q.map iD)
theorem tv {a b:Nat}{x y z:Ob}(h:¬b=a):∀{ob:AB},AG (AG (AG ob a x) b y) a z=AG (AG ob a z) b y
|[]=>rfl
|(j,o)::r=>by
 have f:¬a=b:=λe=>h e.symm;have g:=tv (a:=a) (b:=b) (x:=x) (y:=y) (z:=z) h (ob:=r);have i:=X4 (x:=x) (y:=z) (id:=a) r;by_cases c:j=a
 ·subst c;simp[AG,f]
 ·by_cases d:j=b
  ·subst d;simp[AG,c,X4]
  ·simp[AG,c,d,g]
theorem da {p:Nat->Bool}{k:Nat}:∀{b:AB},AH p b=true->AH p (AG b k .AY)=true
|[],h=>h
|(j,x)::r,h=>by
 rw[AG];have a:AH p r=true:=by cases x<;>simp_all[AH]
 split
 ·simpa only[AH]using a
 ·have:=da (k:=k) a;cases x<;>simp_all[AH]
theorem rF:Xd Tryz.prog 320=true:=by kernel_rfl
theorem gD:Xd Tryz.prog 324=true:=by kernel_rfl
theorem ZV:Xd Tryz.prog 123=true:=by kernel_rfl
theorem rG:Xd Tryz.prog 322=true:=by kernel_rfl
theorem Ysv:Xd Tryz.prog 321=true:=by kernel_rfl
section
variable {P:Az} (hP:P.p=Tryz.prog)
include hP
theorem iu {q:List Int}{a i j:Nat}{c:AB}(g:AA c a=some (.A9 3 1 (q.map iD)))(e:i<q.length)(f:j<q.length){K:A7->AB->Prop}(h:K (.ret (.d (.bool (decide (q.getD i 0<q.getD j 0))))) c):
 AV P 320 [.sl a q.length,.d (.int .i64 i),.d (.int .i64 j)] c K:=by
 refine Xk hP AO Za3 Y75 BD.nil λ_ b=>?_;rw[Zy e,Zy f]at h;simp[Y1y,g,e,f,FW,GN];exact⟨[],by simp,by simpa using b [],by simpa[AE]using h⟩
theorem iw {q:List Int}{a i j:Nat}{c:AB}(g:AA c a=some (.A9 3 1 (q.map iD)))(e:i<q.length)(f:j<q.length){K:A7->AB->Prop}(h:K (.ret (.BE [])) (AG c a (.A9 3 1 ((II q i j).map iD)))):
 AV P 324 [.sl a q.length,.d (.int .i64 i),.d (.int .i64 j)] c K:=by
 refine Xk hP AO Za5 Y77 BD.nil λ_ b=>?_;simp only[II,Zy e,Zy f]at h;have k:∀h:j<((List.map (V.d∘iD) q).set i (V.d (iD q[j]))).length,(((List.map (V.d∘iD) q).set i (V.d (iD q[j])))[j]).shape=Sh.AX:=λh=>by
  rw[List.getElem_set];split
  ·rfl
  ·simp[D.shape]
 simp[Y10,g,e,f,FW,GN,k];refine⟨[],by simp,?_,?_⟩
 ·rw[Xe (by simp)];apply BH;exact b []
 ·rw[Xe (by simp)];simpa[Fg]using h
theorem ZW {q:List Int}{a:Nat}{c:AB}(e:AA c a=some (.A9 3 1 (q.map iD))){K:A7->AB->Prop}(h:K (.ret (.d (.int .i64 q.length))) c):AV P 123 [.sl a q.length] c K:=by
 refine Xk hP AO oM ny BD.nil λ_ b=>?_;simp[lC,e];exact⟨[],by simp,by simpa using b [],by simpa[AE]using h⟩
theorem Zbo {q:List Int}{a b j:Nat}{f:AB}(n:AA f b=some (qB a q.length))(t:AA f a=some (qA q))(Q:j<q.length)(W:q.length<=1000000){K:A7->AB->Prop}(h:K (.ret (.BE [])) (AG f a (qA (HS q j)))):
 AV P 217 [.iface 213 (.ptr b []),.d (.int .i64 j)] f K:=by
 refine Xk hP AO Zao Y7q BD.nil λ_ k=>?_;have J:¬b=a:=λe=>by subst e;rw[t]at n;cases n
 have L:Xd P.p 320=true:=by rw[hP];exact rF
 have M:Xd P.p 324=true:=by rw[hP];exact gD
 have x:∀l:List Int,∀c,AA (AG f a (qA l)) c=if c=a then some (qA l) else AA f c:=λl c=>Xc f a c ⟨_,t⟩;have F:∀l:List Int,AA (AG f a (qA l)) a=some (qA l):=λl=>by rw[x,BL rfl]
 have G:∀l:List Int,AA (AG f a (qA l)) b=some (qB a q.length):=λl=>by rw[x,Af J,n]
 simp[Y1k];refine Ae.go (ι:=Nat×List Int) (λs=>[(0,.iface 213 (.ptr b [])),(1,.d (.int .i64 s.1))]) (λs=>AG f a (qA s.2)) (λs=>s.2.length=q.length/\s.1<q.length/\HS s.2 s.1=HS q j) (λs=>s.1) (j,q) ⟨rfl,Q,rfl⟩ (by simp) (by rw[Wn t]) ?_;rintro⟨i,l⟩ ⟨r,O,g⟩ R y T Y X;simp only at r O g y;have U:IntKind.i64.wrap ((i:Int)-1)=(i:Int)-1:=IntWalk.i64_in _ (by omega);have Cm:∀H,HS q j=l->R (.exit 0) H (AG f a (qA l)):=λH e=>by
  refine T _ _ _ ?_;simp;refine⟨[],by simp,?_,?_⟩
  ·rw[Xe (by simp)];apply BH;exact k []
  ·rw[Xe (by simp),<-e];exact h
 by_cases v:i=0
 ·subst v;have z:IntKind.i64.wrap ((IntKind.i64.wrap (-1)).tdiv 2)=0:=by decide
  simp[VA,z];exact Cm _ (by rw[<-g,HS];simp)
 ·have w:IntKind.i64.wrap (((i:Int)-1).tdiv 2)=(((i-1) / 2:Nat):Int):=by
   have:((i:Int)-1).tdiv 2=(((i-1) / 2:Nat):Int):=by
    rw[Int.tdiv_eq_ediv_of_nonneg (by omega)];omega
   rw[this];exact IntWalk.i64_in _ (by omega)
  rw[HS,dif_neg v]at g;obtain⟨m,N⟩:∃m,m=(i-1) / 2:=⟨_,rfl⟩
  rw[<-N]at w g;have u:((m:Int)==i)=false:=by rw[HZ];omega
  simp[VA,U,w,u,L,M,G];rw[<-r];refine iu hP (F l) (by omega) (by omega) ?_;by_cases o:l.getD i 0<l.getD m 0
  ·rw[BL o]at g;simp[o,G,-List.getD_eq_getElem?_getD];rw[<-r];refine iw hP (F l) (by omega) (by omega) ?_;simp[X4];refine y [] (m,II l m i) _ _ ⟨by simp only[Z3];exact r,by simp only;omega,g⟩ (by simp only;omega) (by simp) (Xe (by simp)) (by simp[AE];exact Xf n) ?_;apply BH;simpa using k []
  ·rw[Af o]at g;simp[o,-List.getD_eq_getElem?_getD];exact Cm _ g.symm
theorem Yrr {q:List Int}{a b n:Nat}{f:AB}(u:AA f b=some (qB a q.length))(z:AA f a=some (qA q))(hn:n<=q.length)(hq:q.length<=1000000){K:A7->AB->Prop}(h:∀c,K (.ret (.d (.bool c))) (AG f a (qA (Hg q n 0)))):
 AV P 218 [.iface 213 (.ptr b []),.d (.int .i64 0),.d (.int .i64 n)] f K:=by
 refine Xk hP AO Zap Y7r BD.nil λ_ o=>?_;have T:¬b=a:=λe=>by subst e;rw[z]at u;cases u
 have x:Xd P.p 320=true:=by rw[hP];exact rF
 have U:Xd P.p 324=true:=by rw[hP];exact gD
 have N:∀l:List Int,∀c,AA (AG f a (qA l)) c=if c=a then some (qA l) else AA f c:=λl c=>Xc f a c ⟨_,z⟩;have G:∀l:List Int,AA (AG f a (qA l)) a=some (qA l):=λl=>by rw[N,BL rfl]
 have w:∀l:List Int,AA (AG f a (qA l)) b=some (qB a q.length):=λl=>by rw[N,Af T,u]
 simp[Y1l];refine Ae.go (ι:=Nat×List Int) (λs=>[(0,.iface 213 (.ptr b [])),(1,.d (.int .i64 0)),(2,.d (.int .i64 n)),(7,.d (.int .i64 s.1))]) (λs=>AG f a (qA s.2)) (λs=>s.2.length=q.length/\s.1<=q.length/\Hg s.2 n s.1=Hg q n 0) (λs=>n-s.1) (0,q) ⟨rfl,DM _,rfl⟩ (by simp) (by rw[Wn z]) ?_;rintro⟨i,l⟩ ⟨m,W,j⟩ R O Z rr rp;simp only at m W j O;have H:IntKind.i64.wrap (IntKind.i64.wrap (2*(i:Int))+1)=((2*i+1:Nat):Int):=by
  rw[IntWalk.i64_in (2*(i:Int)) (by omega)];rw[IntWalk.i64_in _ (by omega)];omega
 have Q:IntKind.i64.wrap (((2*i+1:Nat):Int)+1)=((2*i+2:Nat):Int):=by
  rw[IntWalk.i64_in _ (by omega)];omega
 have Cm:∀r,Hg q n 0=l->R (.exit 0) ((0,V.iface 213 (V.ptr b []))::(1,.d (.int .i64 0))::(2,.d (.int .i64 n))::(7,.d (.int .i64 i))::r) (AG f a (qA l)):=λr e=>by
  refine Z _ _ _ ?_;simp;refine⟨[],by simp,?_,?_⟩
  ·rw[Xe (by simp)];apply BH;exact o []
  ·rw[Xe (by simp),<-e];exact h _
 by_cases L:n<=2*i+1
 ·have t:(n:Int)<=((2*i+1:Nat):Int):=by omega
  simp[Rj,H,t,-Int.natCast_add,-Int.natCast_mul];exact Cm _ (by rw[<-j,Hg,dif_pos L])
 ·have t:¬(n:Int)<=((2*i+1:Nat):Int):=by omega
  have J:¬((2*i+1:Nat):Int)<0:=by omega
  rw[Hg,dif_neg L]at j
  -- what follows CX the child is known
  have g:∀r c,c=JQ l n i->Ys P [] fc R ((0,V.iface 213 (V.ptr b []))::(1,.d (.int .i64 0))::(2,.d (.int .i64 n))::(7,.d (.int .i64 i))::(9,.d (.int .i64 (c:Nat)))::r) (AG f a (qA l)):=λr c k=>by
   have X:=VS l n i;have Y:=gg (l:=l) (n:=n) (i:=i) (by omega);rw[<-k]at X Y j;simp[fc,x,U,w];rw[<-m];refine iu hP (G l) (by omega) (by omega) ?_;by_cases v:l.getD c 0<l.getD i 0
   ·rw[BL v]at j;simp[v,w,-List.getD_eq_getElem?_getD];rw[<-m];refine iw hP (G l) (by omega) (by omega) ?_;simp[X4];refine O [] (c,II l i c) _ _ ⟨by simp only[Z3];exact m,by simp only;omega,j⟩ (by simp only;omega) (by simp) (Xe (by simp)) (by simp[AE];exact Xf u) ?_;apply BH;simpa using o []
   ·rw[Af v]at j;simp[v,-List.getD_eq_getElem?_getD];exact Cm _ j.symm
  by_cases M:2*i+2<n
  ·have y:((2*i+2:Nat):Int)<n:=by omega
   simp[Rj,H,Q,t,J,y,x,w,-Int.natCast_add,-Int.natCast_mul];rw[<-m];refine iu hP (G l) (by omega) (by omega) ?_;by_cases k:l.getD (2*i+2) 0<l.getD (2*i+1) 0
   ·simp[k,-List.getD_eq_getElem?_getD,-Int.natCast_add,-Int.natCast_mul];exact g [] _ (by rw[JQ,BL ⟨M,k⟩])
   ·simp[k,-List.getD_eq_getElem?_getD,-Int.natCast_add,-Int.natCast_mul];exact g _ _ (by rw[JQ,Af (λF=>k F.2)])
  ·have y:¬((2*i+2:Nat):Int)<n:=by omega
   simp[Rj,H,Q,t,J,y,x,w,-Int.natCast_add,-Int.natCast_mul];exact g _ _ (by rw[JQ,Af (λF=>M F.1)])
theorem X9m {b:Nat}{x:Int}{a:AB}(e:AA a b=some (.box 216 (.d (.agg [.AT])))){K:A7->AB->Prop}(h:K (.ret (.BE [])) ((fresh a,qA [x])::AG a b (qB (fresh a) 1))):
 AV P 322 [.ptr b [],.d (.iface 3 (.int .i64 x))] a K:=by
 refine Xk hP AO Yy6 Yuz BD.nil λ_ c=>?_;have g:=Xf e;simp[Yq6,e,show ¬fresh a=b by omega];have f:Xh (AE (fresh a) [fresh a]) (AG a b (qB (fresh a) 1))=AG a b (qB (fresh a) 1):=Xe (by simp);refine⟨[fresh a],by simp,?_,?_⟩
 ·rw[Xh,Af (by simp[AE]),f];simp only[AH];apply Ar
  ·exact c _
  ·simp[V.BJ,BO,AE]
 ·rw[Xh,Af (by simp[AE]),f];exact h
theorem Yhx {a b:Nat}{q:List Int}{x:Int}{f:AB}(i:AA f b=some (qB a q.length))(g:AA f a=some (qA q))(p:q.length<=1000000){K:A7->AB->Prop}(h:K (.ret (.BE [])) (AG (AG f a (qA (q++[x]))) b (qB a (q.length+1)))):
 AV P 322 [.ptr b [],.d (.iface 3 (.int .i64 x))] f K:=by
 refine Xk hP AO Yy6 Yuz BD.nil λ_ j=>?_;have k:¬b=a:=λe=>by subst e;rw[g]at i;cases i
 have m:=Xf i;have n:∀o c,AA (AG f a o) c=if c=a then some o else AA f c:=λo c=>Xc f a c ⟨_,g⟩;simp[Yq6,i,g,n,k];have l:=Xf g;refine⟨by omega,[],by simp,?_,?_⟩
 ·rw[Xe (by simp)];apply Ar
  ·apply BH;exact j _
  ·simp[V.BJ,BO,AE];omega
 ·rw[Xe (by simp)];simpa[qA,qB]using h
theorem Yr7 {a b:Nat}{q:List Int}{f:AB}(g:AA f b=some (qB a q.length))(i:AA f a=some (qA q))(u:q.length<=1000000)(l:0<q.length){K:A7->AB->Prop}(h:K (.ret (.d (.iface 3 (.int .i64 (q.getD (q.length-1) 0))))) ((fresh f,qA (q.take (q.length-1)))::AG (AG f a .AY) b (qB (fresh f) (q.length-1)))):
 AV P 321 [.ptr b []] f K:=by
 refine Xk hP AO Za4 Y76 BD.nil λ_ k=>?_;have n:¬b=a:=λe=>by subst e;rw[i]at g;cases g
 have r:=Xf g;have s:∀o c,AA (AG f a o) c=if c=a then some o else AA f c:=λo c=>Xc f a c ⟨_,i⟩;have p:q[q.length-1]? = some (q[q.length-1]'(by omega)):=Cn _;have t:IntKind.i64.wrap ((q.length:Int)-1)=((q.length-1:Nat):Int):=by
  rw[IntWalk.i64_in _ (by omega)];omega
 simp[Y1z,g,i,s,n,t,Mz,XT,FW,GN,p,show q.length-1<q.length by omega];have j:q≠[]:=λe=>by rw[e]at l;simp at l
 have m:∀o,Xh (AE (fresh f) [fresh f]) (AG (AG f a .AY) b o)=AG (AG f a .AY) b o:=λo=>Xe (by simp);refine⟨j,[fresh f],by simp,?_,?_⟩
 ·rw[Xh,Af (by simp[AE]),m];simp only[AH];apply Ar
  ·exact da (k _)
  ·simp[V.BJ,BO,AE]
 ·rw[Xh,Af (by simp[AE]),m];rw[Zy (by omega)]at h;simpa[qA,qB,Ki]using h
theorem KL {b:Nat}{x:Int}{a:AB}(c:AA a b=some (.box 216 (.d (.agg [.AT])))){K:A7->AB->Prop}(h:K (.ret (.BE [])) ((fresh a,qA (Hm [] x))::AG a b (qB (fresh a) 1))):
 AV P 122 [.iface 213 (.ptr b []),.d (.iface 3 (.int .i64 x))] a K:=by
 refine Xk hP AO Yy3 Yuw BD.nil λ_ e=>?_;have m:Xd P.p 322=true:=by rw[hP];exact rG
 have n:Xd P.p 123=true:=by rw[hP];exact ZV
 have o:=Xf c;have i:AA ((fresh a,qA [x])::AG a b (qB (fresh a) 1)) b=some (qB (fresh a) 1):=by
  rw[AA,Af (by omega),Xc a b b ⟨_,c⟩,BL rfl]
 have k:AA ((fresh a,qA [x])::AG a b (qB (fresh a) 1)) (fresh a)=some (qA [x]):=by simp[AA]
 have f:Hm [] x=[x]:=by rw[Hm,HS];simp
 rw[f]at h;simp[n0,m,n];refine X9m hP c ?_;simp[i];refine ZW (q:=[x]) hP k ?_;have r:IntKind.i64.wrap 0=0:=by decide
 simp[r];refine Zbo (q:=[x]) (j:=0) hP i k (by simp) (by simp) ?_;have g:HS [x] 0=[x]:=by rw[HS];simp
 simp[g];have l:Xh (AE (fresh a) [fresh a]) (AG a b (qB (fresh a) 1))=AG a b (qB (fresh a) 1):=Xe (by simp);refine⟨[fresh a],by simp,?_,?_⟩
 ·rw[Xh,Af (by simp[AE]),l];simp only[AH];apply Ar
  ·exact e _
  ·simp[V.BJ,BO,AE]
 ·rw[Xh,Af (by simp[AE]),l];exact h
theorem L2 {a b:Nat}{q:List Int}{x:Int}{f:AB}(i:AA f b=some (qB a q.length))(m:AA f a=some (qA q))(J:q.length<1000000){K:A7->AB->Prop}(h:K (.ret (.BE [])) (AG (AG f a (qA (Hm q x))) b (qB a (q.length+1)))):
 AV P 122 [.iface 213 (.ptr b []),.d (.iface 3 (.int .i64 x))] f K:=by
 refine Xk hP AO Yy3 Yuw BD.nil λ_ t=>?_;have y:Xd P.p 322=true:=by rw[hP];exact rG
 have z:Xd P.p 123=true:=by rw[hP];exact ZV
 have n:¬b=a:=λe=>by subst e;rw[m]at i;cases i
 have w:¬a=b:=λe=>n e.symm;have G:=Xf i;have F:=Xf m;have v:∀o c,AA (AG f a o) c=if c=a then some o else AA f c:=λo c=>Xc f a c ⟨_,m⟩;have g:∀o u c,AA (AG (AG f a o) b u) c=if c=b then some u else if c=a then some o else AA f c:=λo u c=>by
  rw[Xc _ b c ⟨qB a q.length,by rw[v,Af n,i]⟩,v]
 have r:AA (AG (AG f a (qA (q++[x]))) b (qB a (q.length+1))) b=some (qB a (q++[x]).length):=by rw[g,BL rfl];simp
 have l:AA (AG (AG f a (qA (q++[x]))) b (qB a (q.length+1))) a=some (qA (q++[x])):=by rw[g,Af w,BL rfl]
 simp[n0,y,z];refine Yhx hP i m (by omega) ?_;have s:AA (AG (AG f a (qA (q++[x]))) b (qB a (q.length+1))) b=some (qB a (q.length+1)):=by rw[g,BL rfl]
 simp only[zt];simp[s];have k:q.length+1=(q++[x]).length:=by simp
 rw[k];rw[k]at r l;refine ZW hP l ?_;have H:IntKind.i64.wrap (q.length:Int)=q.length:=IntWalk.i64_in _ (by omega);simp[H];rw[DV,List.length_singleton]at r l;refine Zbo (q:=q++[x]) (j:=q.length) hP (by rw[r];simp) l (by simp) (by simp;omega) ?_;rw[tv n];simp;refine⟨[],by simp,?_,?_⟩
 ·rw[Qp];apply Ar
  ·apply BH;exact t _
  ·simp[V.BJ,BO,AE];omega
 ·rw[Qp];exact h
theorem OP {a b:Nat}{q:List Int}{f:AB}(g:AA f b=some (qB a q.length))(k:AA f a=some (qA q))(u:q.length<=1000000)(s:0<q.length){K:A7->AB->Prop}(h:K (.ret (.d (.iface 3 (.int .i64 (Ey q))))) ((fresh f,qA (GQ q))::AG (AG f a .AY) b (qB (fresh f) (q.length-1)))):
 AV P 124 [.iface 213 (.ptr b [])] f K:=by
 refine Xk hP AO Y9l Y6s BD.nil λ_ m=>?_;have z:Xd P.p 321=true:=by rw[hP];exact Ysv
 have F:Xd P.p 123=true:=by rw[hP];exact ZV
 have G:Xd P.p 324=true:=by rw[hP];exact gD
 have y:¬b=a:=λe=>by subst e;rw[k]at g;cases g
 have J:=Xf g;have H:=Xf k;have v:∀o c,AA (AG f a o) c=if c=a then some o else AA f c:=λo c=>Xc f a c ⟨_,k⟩;have x:∀o,AA (AG f a o) b=some (qB a q.length):=λo=>by rw[v,Af y,g]
 have w:∀o,AA (AG f a o) a=some o:=λo=>by rw[v,BL rfl]
 have L:IntKind.i64.wrap ((q.length:Int)-1)=((q.length-1:Nat):Int):=by
  rw[IntWalk.i64_in _ (by omega)];omega
 have r:(II q 0 (q.length-1)).length=q.length:=Z3 _ _ _;have l:(JT q).length=q.length:=VC q;simp[Yvl,z,F,G,g];refine ZW hP k ?_;simp[L,g];refine iw (i:=0) (j:=q.length-1) hP k s (by omega) ?_;simp;refine Yrr (q:=II q 0 (q.length-1)) (n:=q.length-1) hP (by rw[r];exact x _) (w _) (by rw[r];omega) (by rw[r];exact u) λc=>?_;rw[X4];simp;refine Yr7 (q:=JT q) hP (by rw[l];exact x _) (w _) (by rw[l];exact u) (by rw[l];exact s) ?_;rw[l,X4,Zw];simp only[zt];simp;have t:∀o,Xh (AE (fresh f) [fresh f]) (AG (AG f a .AY) b o)=AG (AG f a .AY) b o:=λo=>Xe (by simp);refine⟨[fresh f],by simp,?_,?_⟩
 ·rw[Xh,Af (by simp[AE]),t];simp only[AH];apply Ar
  ·exact da (m _)
  ·simp[V.BJ,BO,AE]
 ·rw[Xh,Af (by simp[AE]),t];simpa[Ey,GQ]using h
end
theorem AV.CX {P:Az}{f:Nat}{d:List V}{b:AB}{K:A7->AB->Prop}(h:Ee b->AV P f d b K):AV P f d b K:=
 ⟨λw i a c e g=>(h c.CX).run w i a c e g⟩
theorem Wk.Ay {a b:AB}(h:∀j,AA b j=AA a j)(e:Ee b):Wk a b:=λw d c=>
 ⟨d,Tr.refl w d,λj x g=>c.BU j x (by rw[<-h];exact g),λj o f=>by rw[h];exact c.D1 j o f,c.inj,c.D7,c.Dn,c.DT,e⟩
theorem xC {p:Nat->Bool}:∀{L:AB},AH p L=true->∀e∈L,AH p [e]=true
|[],_,e,a=>by cases a
|(j,x)::r,h,e,a=>by
 have b:AH p [(j,x)]=true/\AH p r=true:=by cases x<;>simp_all[AH]
 rcases DA.1 a with rfl|a
 ·exact b.1
 ·exact xC b.2 e a
theorem zn {j:Nat}{x:Ob}:∀{L:AB},AA L j=some x->(j,x)∈L
|[],h=>by cases h
|(i,y)::r,h=>by
 rw[AA]at h;split at h
 ·rename_i e;cases h;subst e;simp
 ·exact Kl _ (zn h)
theorem vD {p:Nat->Bool}{L:AB}(d:Ee L)(h:∀j x,AA L j=some x->AH p [(j,x)]=true):AH p L=true:=by
 have b:∀M:AB,(∀e∈M,AH p [e]=true)->AH p M=true:=λM=>by
  induction M with
  |nil=>intro _;rfl
  |cons e r f=>
   intro c;obtain⟨j,x⟩:=e;have g:=c (j,x) (by simp);have i:=f λe a=>c e (Kl _ a);cases x<;>simp_all[AH]
 exact b L λe a=>h e.1 e.2 (d.Ay e a)
theorem Yi {p:Nat->Bool}{k:Nat}{x:Ob}(c:AH p [(k,x)]=true):∀{a:AB},AH p a=true->AH p (AG a k x)=true
|[],h=>h
|(j,y)::r,h=>by
 have b:AH p r=true:=by cases y<;>simp_all[AH]
 have d:=Yi c b;rw[AG];split
 ·cases x<;>simp_all[AH]
 ·cases y<;>simp_all[AH]
theorem Z8 (a:AB)(k:Nat)(x:Ob):W4 (AG a k x)=W4 a:=by
 induction a with
 |nil=>rfl
 |cons e r b=>
  obtain⟨j,y⟩:=e;rw[AG];split
  ·rfl
  ·simpa[W4]using b
abbrev TI:Ob:=.box 216 (.d (.agg [.AT]))
abbrev lB (a n:Nat):Ob:=.box 32 (.sl a n)
abbrev lN:Ob:=.box 32 (.d .AT)
structure AS (ob:AB)(s u o b:Nat)(ud:List D)(op q CO:List Int)(ob':AB):Prop where
 CX:Ee ob'
 fr:∀j,j<fresh ob->j≠s->AA ob' j=AA ob j
 us:AA ob' u=some (.A9 32 1 ud)
 FM:AA ob' o=some (qA op)
 qu:(AA ob' b=some TI/\q=[])\/∃a,fresh ob<=a/\a≠o/\AA ob' b=some (qB a q.length)/\AA ob' a=some (qA q)/\∀c n,AA ob' s=some (lB c n)->c≠a
 ls:(AA ob' s=some lN/\CO=[])\/∃c,fresh ob<=c/\c≠o/\AA ob' s=some (lB c CO.length)/\AA ob' c=some (qA CO)
 L5:∀p:Nat->Bool,(∀j,j<fresh ob->p j=false)->(∀j∈W4 ob',p j=false)->AH p ob'=true
structure NA (ob:AB)(s u o b:Nat):Prop where
 s:s<fresh ob
 u:fresh ob<=u
 o:fresh ob<=o
 b:fresh ob<=b
section
variable {ob ob':AB} {s u o b:Nat} {ud:List D} {op q CO:List Int}
theorem AS.NR (i:NA ob s u o b)(h:AS ob s u o b ud op q CO ob')(g:List Int):AS ob s u o b ud g q CO (AG ob' o (qA g)):=by
 have f:∀c,AA (AG ob' o (qA g)) c=if c=o then some (qA g) else AA ob' c:=λc=>Xc ob' o c ⟨_,h.FM⟩;have N:=i.s;have O:=i.u;have n3:=i.o;have P:=i.b;have M:u≠o:=λe=>by have d:=h.us;rw[e,h.FM]at d;simp at d
 have r:b≠o:=λe=>by
  rcases h.qu with⟨d,_⟩|⟨a,_,_,d,_⟩<;>(rw[e,h.FM]at d;simp at d)
 refine⟨h.CX.set,λj K l=>by rw[f,Af (by omega)];exact h.fr j K l,by rw[f,Af M];exact h.us,by rw[f,BL rfl],?_,?_,λp L J=>Yi (by simp[AH]) (h.L5 p L (by simpa[Z8]using J))⟩
 ·rcases h.qu with⟨d,k⟩|⟨a,w,m,x,y,z⟩
  ·exact .inl ⟨by rw[f,Af r];exact d,k⟩
  ·exact .inr ⟨a,w,m,by rw[f,Af r];exact x,by rw[f,Af m];exact y,λc n v=>z c n (by rw[f,Af (by omega)]at v;exact v)⟩
 ·rcases h.ls with⟨d,k⟩|⟨c,F,t,G,H⟩
  ·exact .inl ⟨by rw[f,Af (by omega)];exact d,k⟩
  ·exact .inr ⟨c,F,t,by rw[f,Af (by omega)];exact G,by rw[f,Af t];exact H⟩
theorem AS.push (O:NA ob s u o b)(h:AS ob s u o b ud op q CO ob'){P:Az}(hP:P.p=Go.Proofs.Tryz.prog){x:Int}(hq:q.length<1000000){K:A7->AB->Prop}(hK:∀i,AS ob s u o b ud op (Hm q x) CO i->fresh ob'<=fresh i->K (.ret (.BE [])) i):
 AV P 122 [.iface 213 (.ptr b []),.d (.iface 3 (.int .i64 x))] ob' K:=by
 have n1:=O.s;have n2:=O.u;have n3:=O.o;have n4:=O.b;have lO:=Xf h.FM;rcases h.qu with⟨w,g⟩|⟨a,a1,X,v,F,Y⟩
 ·subst g;obtain⟨t,L⟩:∃t,t=fresh ob':=⟨_,rfl⟩
  refine Go.Ab.KL hP w (hK _ ?_ ?_)
  ·rw[<-L]at lO⊢;have f:∀x c,AA ((t,x)::AG ob' b (qB t 1)) c=if c=t then some x else if c=b then some (qB t 1) else AA ob' c:=λx c=>by
    rw[AA,Xc ob' b c ⟨_,w⟩];by_cases e:t=c
    ·rw[BL e,BL e.symm]
    ·have e':¬c=t:=λhh=>e hh.symm;rw[Af e,Af e']
   have lb:=Xf w;have lu:=Xf h.us;rw[<-L]at lb lu;have uo:u≠b:=λe=>by have g:=h.us;rw[e,w]at g;simp at g
   have Q:o≠b:=λe=>by have g:=h.FM;rw[e,w]at g;simp at g
   refine⟨⟨by rw[Xc ob' b t ⟨_,w⟩,Af (by omega),L];exact Xo _,h.CX.set⟩,λj r z=>by rw[f,Af (by omega),Af (by omega)];exact h.fr j r z,by rw[f,Af (by omega),Af uo];exact h.us,by rw[f,Af (by omega),Af Q];exact h.FM,.inr ⟨t,by omega,by omega,by rw[f,Af (by omega),BL rfl,dq];rfl,by rw[f,BL rfl],λc n m=>?_⟩,?_,λp W J=>?_⟩
   ·rw[f,Af (by omega),Af (by omega)]at m;rcases h.ls with⟨H,_⟩|⟨c',M,N,G,k⟩
    ·rw[H]at m;simp at m
    ·rw[G]at m;simp only[Bu,Ob.box.injEq,V.sl.injEq,true_and]at m;have:=Xf k;rw[<-L]at this;omega
   ·rcases h.ls with⟨H,T⟩|⟨c,M,N,G,k⟩
    ·exact .inl ⟨by rw[f,Af (by omega),Af (by omega)];exact H,T⟩
    ·have U:=Xf k;rw[<-L]at U;have R:c≠b:=λe=>by rw[e,w]at k;simp at k
     exact .inr ⟨c,M,N,by rw[f,Af (by omega),Af (by omega)];exact G,by rw[f,Af (by omega),Af R];exact k⟩
   ·simp only[W4,Cg,DA,forall_eq_or_imp]at J;have l:∀j∈W4 ob',p j=false:=λj r=>J.2 j (by have:=Z8 ob' b (qB t 1);simp only[W4]at this r;rw[this];exact r);simp only[AH];exact Yi (by simp[AH,V.BJ,BO,J.1]) (h.L5 p W l)
  ·rw[Yb,Zw];split<;>omega
 ·have Z:¬b=a:=λe=>by rw[e,F]at v;cases v
  refine Go.Ab.L2 hP v F hq (hK _ ?_ (by simp));have f:∀x y c,AA (AG (AG ob' a x) b y) c=if c=b then some y else if c=a then some x else AA ob' c:=λx y c=>by
   rw[Xc _ b c ⟨qB a q.length,by rw[Xc ob' a b ⟨_,F⟩,Af Z];exact v⟩,Xc ob' a c ⟨_,F⟩]
  have ub:u≠b:=λe=>by have g:=h.us;rw[e,v]at g;simp at g
  have ua:u≠a:=λe=>by have g:=h.us;rw[e,F]at g;simp at g
  have Q:o≠b:=λe=>by have g:=h.FM;rw[e,v]at g;simp at g
  refine⟨h.CX.set.set,λj r z=>by rw[f,Af (by omega),Af (by omega)];exact h.fr j r z,by rw[f,Af ub,Af ua];exact h.us,by rw[f,Af Q,Af (λe=>X e.symm)];exact h.FM,.inr ⟨a,a1,X,by rw[f,BL rfl,dq],by rw[f,Af (λe=>Z e.symm),BL rfl],λc n m=>?_⟩,?_,λp W J=>?_⟩
  ·rw[f,Af (by omega),Af (by omega)]at m;exact Y c n m
  ·rcases h.ls with⟨H,T⟩|⟨c,M,N,G,k⟩
   ·exact .inl ⟨by rw[f,Af (by omega),Af (by omega)];exact H,T⟩
   ·have R:c≠b:=λe=>by rw[e,v]at k;simp at k
    exact .inr ⟨c,M,N,by rw[f,Af (by omega),Af (by omega)];exact G,by rw[f,Af R,Af (Y c _ G)];exact k⟩
  ·have l:∀j∈W4 ob',p j=false:=λj r=>J j (by rw[Z8,Z8];exact r);exact Yi (by simp[AH,V.BJ,BO,l a (Ze F)]) (Yi (by simp[AH]) (h.L5 p W l))
theorem AS.pop (G:NA ob s u o b)(h:AS ob s u o b ud op q CO ob'){P:Az}(hP:P.p=Go.Proofs.Tryz.prog)(hq:q.length<=1000000)(T:q≠[]){K:A7->AB->Prop}(hK:∀f,AS ob s u o b ud op (GQ q) CO f->fresh ob'<=fresh f->K (.ret (.d (.iface 3 (.int .i64 (Ey q))))) f):
 AV P 124 [.iface 213 (.ptr b [])] ob' K:=by
 have n1:=G.s;have n2:=G.u;have n3:=G.o;have n4:=G.b;rcases h.qu with⟨h1,g⟩|⟨a,a1,U,k,l,W⟩
 ·exact absurd g T
 have X:¬b=a:=λe=>by rw[e,l]at k;cases k
 have N:0<q.length:=List.length_pos_iff.2 T;obtain⟨t,w⟩:∃t,t=fresh ob':=⟨_,rfl⟩
 refine Go.Ab.OP hP k l hq N (hK _ ?_ ?_)
 ·rw[<-w];have v:∀y c,AA (AG (AG ob' a .AY) b y) c=if c=b then some y else if c=a then some .AY else AA ob' c:=λy c=>by
   rw[Xc _ b c ⟨qB a q.length,by rw[Xc ob' a b ⟨_,l⟩,Af X];exact k⟩,Xc ob' a c ⟨_,l⟩]
  have i:∀x y c,AA ((t,x)::AG (AG ob' a .AY) b y) c=if c=t then some x else if c=b then some y else if c=a then some .AY else AA ob' c:=λx y c=>by
   rw[AA,v];by_cases e:t=c
   ·rw[BL e,BL e.symm]
   ·have e':¬c=t:=λhh=>e hh.symm;rw[Af e,Af e']
  have lb:=Xf k;have lu:=Xf h.us;have lo:=Xf h.FM;have la:=Xf l;rw[<-w]at lb lu lo la;have ub:u≠b:=λe=>by have g:=h.us;rw[e,k]at g;simp at g
  have ua:u≠a:=λe=>by have g:=h.us;rw[e,l]at g;simp at g
  have Y:o≠b:=λe=>by have g:=h.FM;rw[e,k]at g;simp at g
  refine⟨⟨by rw[v,Af (by omega),Af (by omega),w];exact Xo _,h.CX.set.set⟩,λj F M=>by rw[i,Af (by omega),Af (by omega),Af (by omega)];exact h.fr j F M,by rw[i,Af (by omega),Af ub,Af ua];exact h.us,by rw[i,Af (by omega),Af Y,Af (λe=>U e.symm)];exact h.FM,.inr ⟨t,by omega,by omega,by rw[i,Af (by omega),BL rfl,Ydf],by rw[i,BL rfl],λc n r=>?_⟩,?_,λp hp J=>?_⟩
  ·rw[i,Af (by omega),Af (by omega),Af (by omega)]at r;rcases h.ls with⟨H,_⟩|⟨c',Q,R,z,m⟩
   ·rw[H]at r;simp at r
   ·rw[z]at r;simp only[Bu,Ob.box.injEq,V.sl.injEq,true_and]at r;have:=Xf m;rw[<-w]at this;omega
  ·rcases h.ls with⟨H,g2⟩|⟨c,Q,R,z,m⟩
   ·exact .inl ⟨by rw[i,Af (by omega),Af (by omega),Af (by omega)];exact H,g2⟩
   ·have O:=Xf m;rw[<-w]at O;have Z:c≠b:=λe=>by rw[e,k]at m;simp at m
    exact .inr ⟨c,Q,R,by rw[i,Af (by omega),Af (by omega),Af (by omega)];exact z,by rw[i,Af (by omega),Af Z,Af (W c _ z)];exact m⟩
  ·simp only[W4,Cg,DA,forall_eq_or_imp]at J;have L:∀j∈W4 ob',p j=false:=λj F=>J.2 j (by have e:W4 (AG (AG ob' a .AY) b (qB t (q.length-1)))=W4 ob':=(by rw[Z8,Z8]);simp only[W4]at e F;rw[e];exact F);simp only[AH];exact Yi (by simp[AH,V.BJ,BO,J.1]) (Yi (by simp[AH]) (h.L5 p hp L))
 ·rw[Yb,Zw,Zw];split<;>omega
abbrev Zgh (s:Nat):Xb:=[(2,.ptr s []),(4,.d .AT)]
abbrev I3 (s:Nat)(st:EC):Ob:=.lp 119 st (Zgh s)
theorem AS.yield (Y:NA ob s u o b)(h:AS ob s u o b ud op q CO ob'){P:Az}(hP:P.p=Go.Proofs.Tryz.prog)(hL:V7 P 119 [7] Cb Cc){y:Nat}(Z:AA ob y=some (I3 s .ready))(G:s≠y){x:Int}(hq:CO.length<1000000){K:A7->AB->Prop}
 (hK:∀F,AS ob s u o b ud op q (CO++[x]) F->fresh ob'<=fresh F->K (.ret (.d (.bool true))) F):CL P y [.d (.int .i64 x)] ob' K:=by
 have n1:=Y.s;have n2:=Y.u;have n3:=Y.o;have n4:=Y.b;have ly:=Xf Z;have ys:¬y=s:=λe=>G e.symm;have J:AA ob' y=some (I3 s .ready):=by rw[h.fr y ly (λe=>G e.symm)];exact Z
 have l:∀z c,AA (AG ob' y z) c=if c=y then some z else AA ob' c:=λz c=>Xc ob' y c ⟨_,J⟩;refine CL.AZ (slk:=Zgh s) hP AO BD.nil hL Ycy Ycz J rfl ?_;rcases h.ls with⟨g1,g2⟩|⟨c,c1,c2,c3,L⟩
 ·subst g2;obtain⟨t,Q⟩:∃t,t=fresh ob':=⟨_,rfl⟩
  have lo:=Xf h.FM;have lu:=Xf h.us;rw[<-Q]at lo lu;have k:∀z w c,AA (AG (AG ob' y z) s w) c=if c=s then some w else if c=y then some z else AA ob' c:=λz w c=>by
   rw[Xc _ s c ⟨lN,by rw[l,Af G];exact g1⟩,l]
  have m:∀z w v c,AA (AG (AG (AG ob' y z) s w) y v) c=if c=y then some v else if c=s then some w else AA ob' c:=λz w v c=>by
   rw[Xc _ y c ⟨z,by rw[k,Af (λe=>G e.symm),BL rfl]⟩,k];split
   ·rfl
   ·rfl
  simp[yO,xx,J,l,k,G,ys,g1,<-Q,show ¬t=s by omega,show ¬t=y by omega];have hid:∀z w v,W4 (AG (AG (AG ob' y z) s w) y v)=W4 ob':=λz w v=>by rw[Z8,Z8,Z8]
  have W:∀z w v,Xh (AE t [t]) (AG (AG (AG ob' y z) s w) y v)=AG (AG (AG ob' y z) s w) y v:=λz w v=>Xe (by simp[Q]);have g:AS ob s u o b ud op q [x] ((t,qA [x])::AG (AG (AG ob' y (I3 s .busy)) s (lB t 1)) y (I3 s .ready)):=by
   have H:∀z w v x c,AA ((t,x)::AG (AG (AG ob' y z) s w) y v) c=if c=t then some x else if c=y then some v else if c=s then some w else AA ob' c:=λz w v x c=>by
    rw[AA,m];by_cases e:t=c
    ·rw[BL e,BL e.symm]
    ·have e':¬c=t:=λhh=>e hh.symm;rw[Af e,Af e']
   refine⟨⟨by rw[m,Af (by omega),Af (by omega),Q];exact Xo _,h.CX.set.set.set⟩,λj i N=>?_,by rw[H,Af (by omega),Af (by omega),Af (by omega)];exact h.us,by rw[H,Af (by omega),Af (by omega),Af (by omega)];exact h.FM,?_,.inr ⟨t,by omega,by omega,by rw[H,Af (by omega),Af G,BL rfl];rfl,by rw[H,BL rfl]⟩,λp O M=>?_⟩
   ·rw[H,Af (by omega)];split
    ·rename_i e;subst e;exact Z.symm
    ·exact h.fr j i N
   ·rcases h.qu with⟨T,g4⟩|⟨a,a1,a2,R,X,a5⟩
    ·have:=Xf T;rw[<-Q]at this;exact .inl ⟨by rw[H,Af (by omega),Af (by omega),Af (by omega)];exact T,g4⟩
    ·have l1:=Xf R;have l2:=Xf X;rw[<-Q]at l1 l2;refine .inr ⟨a,a1,a2,by rw[H,Af (by omega),Af (by omega),Af (by omega)];exact R,by rw[H,Af (by omega),Af (by omega),Af (by omega)];exact X,λc n U=>?_⟩;rw[H,Af (by omega),Af G,BL rfl]at U;simp only[Bu,Ob.box.injEq,V.sl.injEq,true_and]at U;omega
   ·simp only[W4,Cg,DA,forall_eq_or_imp]at M;have aa:∀j∈W4 ob',p j=false:=λj i=>M.2 j (by have e:=hid (I3 s .busy) (lB t 1) (I3 s .ready);simp only[W4]at e i;rw[e];exact i);simp only[AH];exact Yi (by simp[AH,Za,V.BJ,BO,O s n1]) (Yi (by simp[AH,V.BJ,BO,M.1]) (Yi (by simp[AH,Za,V.BJ,BO,O s n1]) (h.L5 p O aa)))
  refine⟨[t],by simp,?_,?_⟩
  ·rw[Xh,Af (by simp[AE]),W];have ab:fresh ob<=t:=by omega
   refine g.L5 _ (λj i=>by simp[AE];omega) (λj i=>?_);simp only[W4,Cg,DA]at i;rcases i with rfl|i
   ·simp[AE]
   ·have e:=hid (I3 s .busy) (lB t 1) (I3 s .ready);simp only[W4]at e;rw[e]at i;obtain⟨z,hz⟩:=ee (ob:=ob') (j:=j) i;have:=Xf hz;rw[<-Q]at this;simp[AE];omega
  ·rw[Xh,Af (by simp[AE]),W];refine hK _ g ?_;rw[Yb,Zw,Zw,Zw];split<;>omega
 ·have cy:¬c=y:=by omega
  have k:∀z w d,AA (AG (AG ob' y z) c w) d=if d=c then some w else if d=y then some z else AA ob' d:=λz w d=>by
   rw[Xc _ c d ⟨qA CO,by rw[l,Af cy];exact L⟩,l]
  have m:∀z w v d,AA (AG (AG (AG ob' y z) c w) s v) d=if d=s then some v else if d=c then some w else if d=y then some z else AA ob' d:=λz w v d=>by
   rw[Xc _ s d ⟨lB c CO.length,by rw[k,Af (by omega),Af G];exact c3⟩,k]
  simp[yO,xx,J,l,k,m,G,ys,cy,show ¬y=c by omega,show ¬s=c by omega,c3,L];have lc:=Xf L;have f:∀z w v r d,AA (AG (AG (AG (AG ob' y z) c w) s v) y r) d=if d=y then some r else if d=s then some v else if d=c then some w else AA ob' d:=λz w v r d=>by
   rw[Xc _ y d ⟨z,by rw[m,Af ys,Af (by omega),BL rfl]⟩,m];split
   ·rfl
   ·rfl
  have hid:∀z w v r,W4 (AG (AG (AG (AG ob' y z) c w) s v) y r)=W4 ob':=λz w v r=>by rw[Z8,Z8,Z8,Z8]
  have W:∀z w v r,Xh (AE (fresh ob') []) (AG (AG (AG (AG ob' y z) c w) s v) y r)=AG (AG (AG (AG ob' y z) c w) s v) y r:=λz w v r=>Xe (by simp);have g:AS ob s u o b ud op q (CO++[x]) (AG (AG (AG (AG ob' y (I3 s .busy)) c (.A9 3 1 (CO.map iD++[iD x]))) s (lB c (CO.length+1))) y (I3 s .ready)):=by
   refine⟨h.CX.set.set.set.set,λj i N=>?_,?_,by rw[f,Af (by omega),Af (by omega),Af (λe=>c2 e.symm)];exact h.FM,?_,.inr ⟨c,c1,c2,by rw[f,Af G,BL rfl];simp,by rw[f,Af cy,Af (by omega),BL rfl];simp⟩,λp O M=>?_⟩
   ·rw[f];split
    ·rename_i e;subst e;exact Z.symm
    ·rw[Af (by omega)];exact h.fr j i N
   ·have uc:u≠c:=λe=>by have h2:=h.us;rw[e,L]at h2;simp at h2
    rw[f,Af (by omega),Af (by omega),Af uc];exact h.us
   ·rcases h.qu with⟨T,g4⟩|⟨a,a1,a2,R,X,a5⟩
    ·have bc:b≠c:=λe=>by rw[e,L]at T;cases T
     exact .inl ⟨by rw[f,Af (by omega),Af (by omega),Af bc];exact T,g4⟩
    ·have bc:b≠c:=λe=>by rw[e,L]at R;cases R
     have ca:=a5 c _ c3;refine .inr ⟨a,a1,a2,by rw[f,Af (by omega),Af (by omega),Af bc];exact R,by rw[f,Af (by omega),Af (by omega),Af (λe=>ca e.symm)];exact X,λd n U=>?_⟩;rw[f,Af G,BL rfl]at U;simp only[Bu,Ob.box.injEq,V.sl.injEq,true_and]at U;rw[<-U.1];exact ca
   ·rw[hid]at M;exact Yi (by simp[AH,Za,V.BJ,BO,O s n1]) (Yi (by simp[AH,V.BJ,BO,M c (Ze L)]) (Yi (by simp[AH]) (Yi (by simp[AH,Za,V.BJ,BO,O s n1]) (h.L5 p O M))))
  refine⟨by omega,[],by simp,?_,?_⟩
  ·rw[W];refine g.L5 _ (λj i=>?_) (λj i=>?_)
   ·have:=Xf h.FM;simp[AE];omega
   ·rw[hid]at i;obtain⟨z,hz⟩:=ee i;have:=Xf hz;simp[AE];omega
  ·rw[W];exact hK _ g (by simp)
end
end Go.Ab
