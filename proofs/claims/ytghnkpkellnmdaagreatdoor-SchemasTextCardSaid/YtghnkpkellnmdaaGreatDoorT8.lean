/- Joined texts, part 8 of 13. Contract: schemas.Compile. Condition: the program is the seat's. -/
import Derived.Test.YtghnkpkellnmdaaGreatDoorT4
import Derived.Test.YtghnkpkellnmdaaGreatDoorT5
import Derived.Test.YtghnkpkellnmdaaGreatDoorT7
import Derived.Test.YtghnkpkellnmdaaGreatDoorProg
import Derived.KernelRfl
set_option maxRecDepth 100000
set_option linter.unusedSimpArgs false
set_option linter.unusedVariables false
set_option linter.unusedSectionVars false
set_option linter.defProp false
namespace Go.Ab
open Go Go.Proofs
open Go.Proofs.Tryz (prog)
variable {P:BE}(hP:P.p=prog)
def IG(a:Int)(x:Az):Bool:=!(decide (a=2)||decide (a=3))||decide (x.kind=1)||decide (x.kind=2)
def MW(y:Al)(r:Ap)(t:A4):Bool:=(Hr y r r.Ad.length t).isSome||Pv t
def Fo(y:Al)(r:Ap)(l:List A4):List Az:=l.filterMap (Hr y r r.Ad.length)
def J0(y:Al)(r:Ap)(a:BH):Bool:=
 decide (1<=a.op)&&decide (a.op<=4)&&MW y r a.a&&MW y r a.b&&
 (match Fo y r [a.a,a.b]with|[]=>false |[x,z]=>UN y x z|_=>true)&&(Fo y r [a.a,a.b]).all (IG a.op)
theorem Yhs{y:Al}{r:Ap}{n:Int}{t:A4}{x:Az}(h:Hr y r n t=some x):∃s∈y.AB,∃f∈s.AL,f.type=x:=by
 grind[Hr,Option.bind_eq_some_iff,Option.map_eq_some_iff,J2,List.mem_of_getElem?]
def Xf9{y:Al}(a:y.AB.all (Yz y)=true){s:AM}(h:s∈y.AB){f:Ak}(c:f∈s.AL):KQ y.Ac.length f.type=true:=by
 have b:=Fl.1 a s h;simp_all[Yz,BX,Fl,Ks]
def xU{y:Al}{r:Ap}{l:List A4}{x:Az}(h:x∈Fo y r l):∃s∈y.AB,∃f∈s.AL,f.type=x:=by
 grind[Fo,Yhs]
include hP
theorem Yj9{y:Al}(hy:y.BJ)(hs:y.AB.all (Yz y)=true){r:Ap}(hr:r.Ad.length<=9223372036854775807){a:BH}{ob:AE}{K:V->Prop}(h:K (.d (.bool (J0 y r a)))):AW P 176 [.d (EM y r),.d a.enc] ob K:=by
 refine AK hP AT (ds:=[EM y r,a.enc]) Zky.1 Zky.2 A6.nil ?_;have ad:y.enc.sz=6:=rfl;have yz:y.enc.shape.size=6:=by rfl
 have g:J0 y r a=false->K (.d (.bool false)):=λe=>by rw[e]at h;exact h
 have te:∀t:A4,t.enc=.agg [.AV t.name,.AV t.path,iD t.var,iD t.field,iD t.n]:=λ_=>rfl;have W:a.enc=.agg [iD a.op,a.a.enc,a.b.enc]:=rfl;by_cases a1:a.op<1
 ·simp[rH,W,a1];grind[J0]
 by_cases a2:4<a.op
 ·simp[rH,W,a2];grind[J0]
 simp[rH,EM,Ap.enc,W,te,a1,a2];let c:=[a.a,a.b]
 let O:Nat->AE:=λk=>[(2,.BO 155 6 ((Fo y r (c.take k)).map Az.enc)),(1,.box 173 (.d (.agg [iD a.op,.agg [.AV a.a.name,.AV a.a.path,iD a.a.var,iD a.a.field,iD a.a.n],.agg [.AV a.b.name,.AV a.b.path,iD a.b.var,iD a.b.field,iD a.b.n]]))),(0,.box 222 (.d (.agg [.agg [y.enc],.agg [.AV r.head,iD r.Am,.AH 8 (r.Ad.map At.enc),.AH 11 (r.AY.map BH.enc),.AH 7 (r.BC.map Bj.enc)]])))];refine EK 2 (λk=>[(2,.ptr 0 []),(3,.ptr 1 []),(5,.sl 2 (Fo y r (c.take k)).length),(25,.d (.AH 5 (c.map A4.enc))),(26,.d (.int .i64 2)),(27,.d (.int .i64 k))]) O
  (λk=>(c.take k).all (MW y r)=true) (by simp) ?_ ?_ ?_ ?_
 ·simp[Fo,c,te]
 ·simp[O,Fo]
 ·intro k hk X R u o i Q;have q:=w_s k (by omega);have s:k<c.length:=hk;have Z:(k:Int)<2:=by omega
  have J:=Vg (p:=MW y r) s;rw[X,Fc]at J;have tk:=te c[k];have N:Fo y r (c.take (k+1))=Fo y r (c.take k)++(Hr y r r.Ad.length c[k]).toList:=by
   unfold Fo;rw[F0 s,List.filterMap_append];grind
  have ag:MW y r c[k]=false->K (.d (.bool false)):=by
   grind[MW,J0]
  simp[wA,s,hk,O,ad,yz,tk,Z];refine eR (y:=y) (r:=r) hP (n:=r.Ad.length) (by omega) (t:=c[k]) (λe=>?_) (λx e hx=>?_)
  ·simp[M6];refine zY hP (t:=c[k]) ?_;cases hn:Pv c[k]with
   |false=>
    simp;refine i _ _ ?_;simp_all[MW]
   |true=>
    simp[wC];have f:Fo y r (c.take (k+1))=Fo y r (c.take k):=by rw[N,e];simp
    refine u [] _ _ (by simp_all[MW]) (by simp[q,f]) (by simp[AF,O,f]) (by simp[O]) (by simp[O])
  ·have ab:x.enc.shape=.node [.leaf,.leaf,.leaf,.leaf,.leaf,.leaf]:=rfl;have ac:(match V.d x.enc with|V.d (D.agg U)=>true|V.agg U=>true|x=>false)=true:=rfl;have f:Fo y r (c.take (k+1))=Fo y r (c.take k)++[x]:=by rw[N,e];simp
   simp[ab,wC];have m:(Fo y r (c.take k)).length<=2:=by
    grind[List.length_filterMap_le,Hr,Fo]
   refine⟨ac,by omega,u [] _ _ (by rw[J];simp[MW,e]) (by simp[q,f]) (by simp[AF,O,f]) (by simp[O]) (by simp[O])⟩
 ·intro X R o i Q;have t2:c.take 2=c:=rfl;rw[t2]at X;have hA:J0 y r a=((match Fo y r c with|[]=>false |[x,z]=>UN y x z|_=>true)&&(Fo y r c).all (IG a.op)):=by
   grind[MW,J0]
  rw[hA]at h g;have m:(Fo y r c).length<=2:=List.length_filterMap_le (Hr y r r.Ad.length) c;simp[wA,O,t2];refine o _ _ _ ?_
  match T:Fo y r c,m with
  |[],_=>
   simp;grind
  |[x],_=>
   simp
   try refine⟨⟨_,_,_,⟨rfl,rfl,rfl⟩,rfl⟩,?_⟩
   rw[T]at h g;simp only[Fc]at h g;have v:x.enc=.agg [iD x.kind,iD x.lo,iD x.hi,.AV x.Bo,iD x.unit,Xg x.names]:=rfl;refine EK 1 (λj=>[(3,.ptr 1 []),(74,.sl 2 1),(75,.d (.int .i64 1)),(76,.d (.int .i64 j))]) (λ_=>[(2,.BO 155 6 [x.enc]),(1,.box 173 (.d (.agg [iD a.op,.agg [.AV a.a.name,.AV a.a.path,iD a.a.var,iD a.a.field,iD a.a.n],.agg [.AV a.b.name,.AV a.b.path,iD a.b.var,iD a.b.field,iD a.b.n]]))),(0,.box 222 (.d (.agg [.agg [y.enc],.agg [.AV r.head,iD r.Am,.AH 8 (r.Ad.map At.enc),.AH 11 (r.AY.map BH.enc),.AH 7 (r.BC.map Bj.enc)]])))])
    (λj=>j=0\/IG a.op x=true) (by simp) (by simp) (by simp) ?_ ?_
   ·intro j hj _ R u o i Q;obtain rfl:j=0:=by omega
    have q:IntKind.i64.wrap 1=1:=w_i _ (by omega);simp[TQ,v,Xg];refine⟨λG h2 h3=>?_,λG=>?_⟩
    ·refine i _ _ ?_;simp;grind[IG]
    ·refine u [] _ _ (.inr (by simp[IG];grind)) (by simp[q]) (by simp[v,Xg]) (by simp ) (by simp )
   ·intro w R o i Q;have ho:IG a.op x=true:=w.resolve_left (by omega);simp[TQ];refine o _ _ _ ?_;simp[ho]at h⊢;exact h
  |[x,z],_=>
   have hx:=xU (y:=y) (r:=r) (l:=c) (x:=x) (by rw[T];simp);have hz:=xU (y:=y) (r:=r) (l:=c) (x:=z) (by rw[T];simp);obtain⟨sx,L,fx,H,ex⟩:=hx;obtain⟨sz,aa,fz,Y,ez⟩:=hz;have tx:=Xf9 hs L H;have tz:=Xf9 hs aa Y;have nx:=(hy.Am sx L).names fx H;rw[ex]at tx nx;rw[ez]at tz;have zz:∀x:Az,x.enc.shape.size=6:=λx=>by rw[D4];rfl
   have zg:∀x:Az,x.enc.isAgg=true:=λ_=>rfl;rw[T]at h g;simp[zz,yz];have F:∃E af U,(155=E/\6=af/\[x.enc,z.enc]=U)/\2=U.length:=⟨_,_,_,⟨rfl,rfl,rfl⟩,rfl⟩
   repeat' first|with_reducible apply And.intro|exact rfl|exact F
   refine Xqw hP x z nx tx tz ?_;have v:∀x:Az,x.enc=.agg [iD x.kind,iD x.lo,iD x.hi,.AV x.Bo,iD x.unit,Xg x.names]:=λ_=>rfl;cases hc:UN y x z with
   |false=>
    simp;simp_all
   |true=>
    simp
    try refine⟨F,?_⟩
    simp only[hc,Fc]at h g;refine EK 2 (λj=>[(3,.ptr 1 []),(74,.sl 2 2),(75,.d (.int .i64 2)),(76,.d (.int .i64 j))]) (λ_=>[(2,.BO 155 6 [x.enc,z.enc]),(1,.box 173 (.d (.agg [iD a.op,.agg [.AV a.a.name,.AV a.a.path,iD a.a.var,iD a.a.field,iD a.a.n],.agg [.AV a.b.name,.AV a.b.path,iD a.b.var,iD a.b.field,iD a.b.n]]))),(0,.box 222 (.d (.agg [.agg [y.enc],.agg [.AV r.head,iD r.Am,.AH 8 (r.Ad.map At.enc),.AH 11 (r.AY.map BH.enc),.AH 7 (r.BC.map Bj.enc)]])))])
     (λj=>(j=0\/IG a.op x=true)/\(j<=1\/IG a.op z=true)) (by simp) (by simp) (by simp) ?_ ?_
    ·intro j hj w R u o i Q;rcases (by omega:j=0\/j=1) with rfl|rfl
     ·have q:IntKind.i64.wrap 1=1:=w_i _ (by omega);simp[TQ,v,Xg];refine⟨λG h2 h3=>?_,λG=>?_⟩
      ·refine i _ _ ?_;simp;grind[IG]
      ·refine u [] _ _ ⟨.inr (by simp[IG];grind),.inl (by omega)⟩ (by simp[q]) (by simp[AF,v,Xg]) (by simp[AF]) (by simp[AF])
     ·have q:IntKind.i64.wrap 2=2:=w_i _ (by omega);simp[TQ,v,Xg];refine⟨λG h2 h3=>?_,λG=>?_⟩
      ·refine i _ _ ?_;simp;grind[IG]
      ·refine u [] _ _ ⟨.inr (w.1.resolve_left (by omega)),.inr (by simp[IG];grind)⟩ (by simp[q]) (by simp[AF,v,Xg]) (by simp[AF]) (by simp[AF])
    ·intro w R o i Q;have o1:IG a.op x=true:=w.1.resolve_left (by omega);have o2:IG a.op z=true:=w.2.resolve_left (by omega);simp[TQ];refine o _ _ _ ?_;simp[o1,o2]at h⊢;exact h
omit hP
def NG(y:Al)(r:Ap)(s:Bj):Bool:=match J2 y r.Am s.field with
|none=>false
|some f=>decide (s.field≠0)&&Lm y r f.type s.BZ
def UT(y:Al)(s:Int):Option Int:=if s<0 then none else (y.AB[s.toNat]?).map λc=>(c.AL.length:Int)-1
def U9(y:Al)(r:Ap):Bool:=
 N6 y r&&decide (r.AY.length<=8)&&r.AY.all (J0 y r)&&decide (UT y r.Am=some r.BC.length)&&r.BC.all (NG y r)&&decide (r.BC.map Bj.field).Nodup
include hP
theorem Ykl{y:Al}(hy:y.BJ)(hs:y.AB.all (Yz y)=true){r:Ap}(hr:r.BJ){ob:AE}{K:V->Prop}(h:K (.d (.bool (U9 y r)))):AW P 116 [.d (EM y r)] ob K:=by
 refine AK hP AT (ds:=[EM y r]) Zjh.1 Zjh.2 A6.nil ?_;have X:y.enc.sz=6:=rfl;have Y:y.enc.shape.size=6:=by rfl
 have l:U9 y r=false->K (.d (.bool false)):=λe=>by rw[e]at h;exact h
 have te:∀t:A4,t.enc=.agg [.AV t.name,.AV t.path,iD t.var,iD t.field,iD t.n]:=λ_=>rfl;have ae:∀a:BH,a.enc=.agg [iD a.op,a.a.enc,a.b.enc]:=λ_=>rfl;have F:(EM y r).shape.size=11:=by rfl
 simp[Zb1,F];refine⟨rfl,X9w hP ?_⟩;cases hf:N6 y r with
 |false=>
  simp;simp_all[U9]
 |true=>
  by_cases a1:(8:Int)<r.AY.length
  ·simp[EM,Ap.enc,a1,Y];grind[U9]
  simp[EM,Ap.enc,a1,Y];have af:r.AY.length<=8:=by omega
  refine EK r.AY.length (λk=>[(1,.ptr 0 []),(23,.d (.AH 11 (r.AY.map BH.enc))),(24,.d (.int .i64 r.AY.length)),(25,.d (.int .i64 k))])
   (λ_=>[(0,.box 222 (.d (EM y r)))]) (λk=>(r.AY.take k).all (J0 y r)=true) (by simp) (by simp) (by simp[EM,Ap.enc]) ?_ ?_
  ·intro k q J R Q G u T;have U:=w_s k (by omega);have g:=Vg (p:=J0 y r) q;rw[J,Fc]at g;simp[vR,q,F];have v:∀a:BH,a.enc.shape.size=11:=λa=>by rfl
   refine⟨⟨rfl,rfl⟩,rfl,⟨v _,rfl⟩,rfl,⟨v _,rfl⟩,rfl,Yj9 hP hy hs hr.Ad ?_⟩;cases ha:J0 y r r.AY[k]with
   |false=>
    simp;refine u _ _ ?_;simp;grind[J0,List.all_eq_false,List.getElem_mem,U9]
   |true=>
    simp;refine Q [] _ _ (by rw[g,ha]) (by simp[U]) (by simp) (by simp ) (by simp )
  ·intro J R G u T;rw[HI]at J;simp[vR];refine G _ _ _ ?_;have se:∀c:AM,c.enc=.agg [.AV c.name,.AV c.Dy,iD c.CN,iD c.BL,.AH 11 (c.AL.map Ak.enc),.AH 4 (c.AU.map Av.enc)]:=λ_=>rfl;have W:y.enc=.agg [Xg y.AR,.AH 5 (y.Ac.map Ax.enc),.AH 6 (y.AB.map AM.enc),.AH 5 (y.AP.map Ap.enc),.AH 5 (y.AJ.map Ai.enc),.AH 3 (y.AI.map AZ.enc)]:=rfl;by_cases b1:r.Am<0
   ·simp[EM,Ap.enc,W,Xg,b1];simp_all[U9,UT]
   by_cases b2:(y.AB.length:Int)<=r.Am
   ·simp[EM,Ap.enc,W,Xg,b2];simp_all[U9,UT,dX]
   obtain⟨i,o⟩:∃i:Nat,r.Am=i:=⟨r.Am.toNat,by omega⟩
   have hi:i<y.AB.length:=by omega
   have sk:=se y.AB[i];have b3:¬(i:Int)<0:=by omega
   have b4:¬(y.AB.length:Int)<=i:=by omega
   have hN:UT y r.Am=some ((y.AB[i].AL.length:Int)-1):=by simp_all[UT,EW]
   simp[EM,Ap.enc,W,Xg,o,hi,sk,b3,b4];have ab:y.AB[i].AL.length<=12:=by
    simp_all[Fl,DS,Yz,BX,D2]
   have wf:IntKind.i64.wrap ((y.AB[i].AL.length:Int)-1)=(y.AB[i].AL.length:Int)-1:=w_i _ (by omega);rw[wf];refine⟨λhn=>l (by simp[U9,hN];omega),λhn=>?_⟩;have hB:U9 y r=(r.BC.all (NG y r)&&decide (r.BC.map Bj.field).Nodup):=by
    grind[U9]
   rw[hB]at h l;have O:D.agg [.agg [.agg [.AH 1 (y.AR.map .AV),.AH 5 (y.Ac.map Ax.enc),.AH 6 (y.AB.map AM.enc),.AH 5 (y.AP.map Ap.enc),.AH 5 (y.AJ.map Ai.enc),.AH 3 (y.AI.map AZ.enc)]],.agg [.AV r.head,iD i,.AH 8 (r.Ad.map At.enc),.AH 11 (r.AY.map BH.enc),.AH 7 (r.BC.map Bj.enc)]]=EM y r:=by rw[<-o];rfl
   rw[O];have ze:∀z:Bj,z.enc=.agg [.AV z.path,iD z.field,.agg [.AV z.BZ.name,.AV z.BZ.path,iD z.BZ.var,iD z.BZ.field,iD z.BZ.n]]:=λ_=>rfl;have ad:r.BC.length<=11:=by omega
   refine EK r.BC.length (λk=>[(1,.ptr 0 []),(5,.d (iD i)),(6,.sl 1 k),(67,.d (.AH 7 (r.BC.map Bj.enc))),(68,.d (.int .i64 r.BC.length)),(69,.d (.int .i64 k))])
    (λk=>[(1,.BO 3 1 ((r.BC.take k).map λs=>iD s.field)),(0,.box 222 (.d (EM y r)))]) (λk=>(r.BC.take k).all (NG y r)=true) (by simp) (by simp) (by simp) ?_ ?_
   ·intro k q L R Q G u T;have U:=w_s k (by omega);have g:=Vg (p:=NG y r) q;rw[L,Fc]at g;have zk:=ze r.BC[k];have m:NG y r r.BC[k]=false->K (.d (.bool false)):=λe=>l (by
     grind)
    simp[vQ,q,zk,EM,Ap.enc,X,Y];generalize hz:r.BC[k]=z at g m;refine YD hP (λN=>?_) (λH ac j hj es ef=>?_)
    ·have e0:=Jg (y:=y) (s:=i) (f:=z.field) N;simp[M6];simp_all[NG]
    ·obtain rfl:H=i:=by omega
     have e0:=XS hi hj;have xh:∀x:Az,x.enc.shape=.node [.leaf,.leaf,.leaf,.leaf,.leaf,.leaf]:=λ_=>rfl;by_cases Z:z.field=0
     ·simp[xh,Z];refine u _ _ ?_;exact m (by simp_all[NG])
     ·have aa:(z.field==0)=false:=by simpa using Z
      have kl:min k r.BC.length=k:=by omega
      simp[xh,aa,kl];refine⟨rfl,?_⟩;refine Yuv hP hr.Ad hy (r:=r) (x:=y.AB[H].AL[j].type) (t:=z.BZ) ?_;have eB:NG y r z=Lm y r y.AB[H].AL[j].type z.BZ:=by
       have:j≠0:=λh=>Z (by omega);simp[NG,o,ef,e0,this]
      cases w:Lm y r y.AB[H].AL[j].type z.BZ with
      |false=>
       simp;refine u _ _ ?_;exact m (by rw[eB,w])
      |true=>
       simp;refine⟨by omega,Q [] _ _ (by rw[g,eB,w]) (by simp[U]) ?_ (by simp ) (by simp )⟩;rw[F0 q,hz];simp[AF,EM,Ap.enc]
   ·intro L R G u T;rw[HI]at L;simp[vQ];refine G _ _ _ ?_;simp;refine QU (n:=5) (ds:=[X4 (r.BC.map Bj.field)]) (by simp[X4]) (Yuh hP (by simp;omega) ?_);simp_all
theorem Y1q:Xd P.p 115=true:=by rw[hP];kernel_rfl
theorem Yu3:Xd P.p 186=true:=by rw[hP];kernel_rfl
abbrev cv(y:Al):Ob:=.box 220 (.d (.agg [y.enc]))
abbrev Nd(y:Al)(o0:Ob):AE:=[(2,.box 223 (.fn 115 [] [.ptr 1 []])),(1,cv y),(0,o0)]
theorem Zdp{y:Al}(k:y.BJ)(j:y.AB.all (Yz y)=true){r:Ap}(i:r.BJ){b:AE}(f:AD b 1=some (cv y)){K:BQ->AE->Prop}(h:K (.ret (.d (.bool (U9 y r)))) b):Aa P 115 [.d r.enc,.ptr 1 []] b K:=by
 refine Ae hP AT Zjg.1 Zjg.2 A6.nil λ_ g=>?_;have c:r.enc.shape.size=5:=by rw[D4];rfl
 have e:y.enc.shape.size=6:=by rw[D4];rfl
 have a:=g [];simp[Zb0,f];refine⟨⟨c,rfl⟩,e,⟨c,rfl⟩,e,rfl,rfl,Ykl hP k j i ?_⟩;simp;refine⟨[],by simp,?_,?_⟩
 ·simpa[AF]using a
 ·simpa[AF]using h
theorem Y1e{y:Al}(g:y.BJ)(a:y.AB.all (Yz y)=true){x:Ap}(f:x.BJ){c:Ob}{K:BQ->AE->Prop}(h:K (.ret (.d (.bool (!U9 y x)))) (Nd y c)):Aa P 186 [.d x.enc,.ptr 2 []] (Nd y c) K:=by
 refine Ae hP AT Zk8.1 Zk8.2 A6.nil λ_ e=>?_;simp[Zcu,Y1q hP];have b:=e [];simp[AA]at b;refine⟨⟨by rw[D4];rfl,rfl⟩,Zdp hP g a f (by simp) ?_⟩;simp;refine⟨[],by simp,?_,?_⟩
 ·simp[AF];simpa[AF]using b
 ·simpa[AF]using h
theorem Y1d{y:Al}(s:y.BJ)(g:y.AB.all (Yz y)=true){l:List Ap}(p:l.length<=9223372036854775807)(r:∀x∈l,x.BJ){f:Ob}{K:BQ->AE->Prop}(h:K (.ret (.d (.int .i64 (Fe (λx=>!U9 y x) l 0)))) (Nd y f)):Aa P 239 [.d (.AH 5 (l.map Ap.enc)),.fn 186 [] [.ptr 2 []]] (Nd y f) K:=by
 have z:=@w_t;refine Ae hP AT Zmj.1 Zmj.2 A6.nil λ_ q=>?_;have b:=q [];simp[AA]at b;have o:∀{v:V},Bu (AF 3 []) [v]=false->K (.ret v) (Nd y f)->Yh 3 (K (.ret v)) [v] (Nd y f):=λj m=>⟨[],j,by simpa[AF]using b,by simpa[AF]using m⟩;simp[Zdc];refine Aw.go (ι:=Nat) (λk=>[(0,.d (.AH 5 (l.map Ap.enc))),(1,.fn 186 [] [.ptr 2 []]),(7,.d (.int .i64 l.length)),(8,.d (.int .i64 k))]) (λ_=>Nd y f) (λk=>k<=l.length/\Fe (λx=>!U9 y x) l 0=Fe (λx=>!U9 y x) (l.drop k) k) (λk=>l.length-k) 0 ⟨FL _,rfl⟩ (by simp) (by simp) ?_;rintro k ⟨F,c⟩ R u t w G;by_cases a:k<l.length
 ·rw[EV a]at c;simp[vi,a,Yu3 hP];refine⟨⟨rfl,rfl⟩,Y1e hP s g (r _ (DS a)) ?_⟩;cases e:U9 y l[k]with
  |false=>
   simp;refine w _ _ ?_;simp;have i:=h;rw[c,Fe,Bv (by simp[e])]at i;exact o (by simp) i
  |true=>
   rw[Fe,A5 (by simp[e])]at c;simp;refine u [] (k+1) _ _ ⟨by omega,c⟩ (by omega) (by simp[z a p]) (by simp[AF]) (by simp[AF]) (by simpa[AF]using b)
 ·have:k=l.length:=by omega
  subst this;simp[vi];refine t _ _ _ ?_;simp;rw[c,GN,Fe]at h;exact o (by simp) h
theorem Y1b{y:Al}(i:y.BJ)(b:y.AB.all (Yz y)=true){l:List Ap}(e:l.length<=9223372036854775807)(g:∀x∈l,x.BJ){c:Ob}{K:BQ->AE->Prop}(h:K (.ret (.d (.bool (l.any λx=>!U9 y x)))) (Nd y c)):Aa P 185 [.d (.AH 5 (l.map Ap.enc)),.fn 186 [] [.ptr 2 []]] (Nd y c) K:=by
 refine Ae hP AT Zk7.1 Zk7.2 A6.nil λ_ f=>?_;have a:=f [];simp[AA]at a;simp[Zct];refine Y1d hP i b e g ?_;simp;rw[YS];exact⟨[],by simp,by simpa[AF]using a,by simpa[AF]using h⟩
theorem Y06{y:Al}(j:y.BJ)(b:y.AB.all (Yz y)=true){l:List Ap}(f:l.length<=9223372036854775807)(i:∀x∈l,x.BJ){c:Ob}{K:BQ->AE->Prop}(h:K (.ret (.d (.bool (l.all (U9 y))))) [(1,cv y),(0,c)]):Aa P 121 [.d (.AH 5 (l.map Ap.enc)),.fn 115 [] [.ptr 1 []]] [(1,cv y),(0,c)] K:=by
 refine Ae hP AT Zjm.1 Zjm.2 A6.nil λ_ g=>?_;have a:=g [];simp[AA]at a;simp[Zb2];refine Y1b hP j b f i ?_;have e:(!(l.any λx=>!U9 y x))=l.all (U9 y):=by simp[List.all_eq_not_any_not]
 simp;refine⟨[],by simp,by simpa[AF]using a,?_⟩;simpa[AF,e]using h
omit hP
def Lj(p:AZ):Bool:=decide (p.CC.length<=64)
def SJ(y:Al):Bool:=
 decide (y.AR.length<=8)&&decide (y.Ac.length<=64)&&decide (y.AB.length<=16)&&decide (y.AP.length<=16)&&decide (y.AJ.length<=16)&&decide (y.AI.length<=8)&&y.AI.all Lj
def R6(y:Al):Bool:=y.Ac.all (VA y)&&y.AB.all (Yz y)&&y.AP.all (U9 y)&&y.AI.all (Qg y)
def Kv(y:Al):Int:=if SJ y then (if R6 y then 0 else 120) else 2
include hP
theorem Yu4:Xd P.p 174=true:=by rw[hP];kernel_rfl
theorem Y1l{p:AZ}{c:AE}{K:V->Prop}(h:K (.d (.bool (!Lj p)))):AW P 174 [.d p.enc] c K:=by
 refine AK hP AT (ds:=[p.enc]) Zkw.1 Zkw.2 A6.nil ?_;have a:∀b,b=!Lj p->K (.d (.bool b)):=λb e=>e▸h;simp[Zcq,AZ.enc];apply a;rw[E3];simp[Lj];omega
theorem Y1c{l:List AZ}(o:l.length<=9223372036854775807){f:Ob}{K:BQ->AE->Prop}(h:K (.ret (.d (.int .i64 (Fe (λx=>!Lj x) l 0)))) ([(0,f)])):Aa P 232 [.d (.AH 3 (l.map AZ.enc)),.fn 174 [] []] ([(0,f)]) K:=by
 have t:=@w_t;refine Ae hP AT Zad Zhg A6.nil λ_ p=>?_;have b:=p [];simp  at b;have m:∀{v:V},Bu (AF 1 []) [v]=false->K (.ret v) ([(0,f)])->Yh 1 (K (.ret v)) [v] ([(0,f)]):=λi j=>⟨[],i,by simpa  using b,by simpa  using j⟩;simp[Zc9];refine Aw.go (ι:=Nat) (λk=>[(0,.d (.AH 3 (l.map AZ.enc))),(1,.fn 174 [] []),(7,.d (.int .i64 l.length)),(8,.d (.int .i64 k))]) (λ_=>[(0,f)]) (λk=>k<=l.length/\Fe (λx=>!Lj x) l 0=Fe (λx=>!Lj x) (l.drop k) k) (λk=>l.length-k) 0 ⟨FL _,rfl⟩ (by simp) (by simp) ?_;rintro k ⟨u,c⟩ R r q s w;by_cases a:k<l.length
 ·rw[EV a]at c;simp[vg,a,Yu4 hP];refine⟨⟨rfl,rfl⟩,AW.Cc (Y1l hP ?_)⟩;cases e:Lj l[k]with
  |false=>
   simp[vh];refine s _ _ ?_;have g:=h;rw[c,Fe,Bv (by simp[e])]at g;exact m (by simp) g
  |true=>
   rw[Fe,A5 (by simp[e])]at c;simp[vh,Yjs];refine r [] (k+1) _ _ ⟨by omega,c⟩ (by omega) (by simp[t a o]) (by simp ) (by simp ) (by simpa  using b)
 ·have:k=l.length:=by omega
  subst this;simp[vg];refine q _ _ _ ?_;simp;rw[c,GN,Fe]at h;exact m (by simp) h
theorem Y1a{l:List AZ}(c:l.length<=9223372036854775807){b:Ob}{K:BQ->AE->Prop}(h:K (.ret (.d (.bool (l.any λx=>!Lj x)))) ([(0,b)])):Aa P 173 [.d (.AH 3 (l.map AZ.enc)),.fn 174 [] []] ([(0,b)]) K:=by
 refine Ae hP AT Zab Zgh A6.nil λ_ e=>?_;have a:=e [];simp[Zcp];refine Y1c hP c ?_;simp;rw[YS];exact⟨[],by simp,by simpa  using a,by simpa  using h⟩
theorem X9y{y:Al}(l:y.BJ){a:AE}{K:V->Prop}(h:K (.d (.bool (SJ y)))):AW P 114 [.d (.agg [y.enc])] a K:=by
 refine AK hP AT (ds:=[.agg [y.enc]]) Zjf.1 Zjf.2 A6.nil ?_;simp[Zbz,Al.enc,Xg];refine⟨λk=>?_,λb c f g i j=>?_⟩
 ·have e:SJ y=false:=by
   rw[QY];simp_all[SJ,ne_eq,BX,D2]<;>omega
  rw[e]at h;exact h
 ·refine Y1a hP (by omega) ?_;simp;grind[SJ,Lj,List.all_eq_not_any_not]
theorem xE{y:Al}(a:y.BJ){j:AE}{K:V->Prop}(h:K (.d (iD (Kv y)))):AW P 42 [.d y.enc] j K:=by
 refine AK hP AT (ds:=[y.enc]) Z03.1 Z03.2 A6.nil ?_;have g:y.enc.shape.size=6:=by rfl
 have f:y.enc.sz=6:=rfl;have c:(V.d y.enc).Bk=some [.d (Xg y.AR),.d (.AH 5 (y.Ac.map Ax.enc)),.d (.AH 6 (y.AB.map AM.enc)),.d (.AH 5 (y.AP.map Ap.enc)),.d (.AH 5 (y.AJ.map Ai.enc)),.d (.AH 3 (y.AI.map AZ.enc))]:=rfl;have p:∀l,Go.Ab.V.isAgg (.d y.enc)=l->l=true:=λl e=>e▸rfl;simp[Zvk,g,f];refine⟨rfl,rfl,X9y hP a ?_⟩;cases k:SJ y with
 |false=>
  simp_all[Kv]
 |true=>
  simp[c]
  try refine⟨rfl,?_⟩
  refine Y07 hP (y:=y) a.Ac ?_;cases o:y.Ac.all (VA y) with
  |false=>
   simp_all[Kv,R6]
  |true=>
   simp[c,g]
   try refine⟨rfl,?_⟩
   refine Y04 hP (y:=y) a.AB (λx b=>a.Am x b) ?_;cases i:y.AB.all (Yz y) with
   |false=>
    simp_all[Kv,R6]
   |true=>
    simp[c]
    try refine⟨rfl,?_⟩
    refine Y06 hP (y:=y) a i a.AP (λx b=>a.FH x b) ?_;cases n:y.AP.all (U9 y) with
    |false=>
     simp_all[Kv,R6]
    |true=>
     simp[c,g]
     try refine⟨rfl,?_⟩
     refine Y05 hP (y:=y) a.AI (λx b=>a.CC x b) ?_;cases m:y.AI.all (Qg y) with
     |false=>
      simp_all[Kv,R6]
     |true=>
      simp_all[Kv,R6]
omit hP
def di{n:Nat}(h:n<2 ^ 64):IntKind.u64.wrap (n:Int)=n:=IntWalk.u64_in _ (by omega)
def rT(b:BitVec 64):BitVec.ofInt IntKind.u64.bits (b.toNat:Int)=b:=by
 show BitVec.ofInt 64 _=_;simp
def Y2n(b:BitVec 64)(f:Nat)(e:f<64):(Zk .and .u64 ((b.toNat:Int).fdiv (2 ^ min f IntKind.u64.bits)) 1==1)=b.getLsbD f:=by
 have a:min f IntKind.u64.bits=f:=by simp[IntKind.bits];omega
 have c:((b.toNat:Int).fdiv (2 ^ f))=((b >>> f).toNat:Int):=by
  simp[BitVec.toNat_ushiftRight,Nat.shiftRight_eq_div_pow,Int.fdiv_eq_ediv_of_nonneg,Int.pow_nonneg]
 rw[a,c];unfold Zk;have d:BitVec.ofInt IntKind.u64.bits 1=1#64:=rfl;rw[rT,d,di (by exact BitVec.isLt _)];show((((b >>> f) &&&1#64:BitVec 64).toNat:Int)==(1:Int))=_;show(((b >>> f).toNat &&&1:Nat)==(1:Int))=_;rw[Nat.and_one_is_mod];have:b.getLsbD f=decide ((b >>> f).toNat % 2=1):=by
  rw[BitVec.getLsbD,BitVec.toNat_ushiftRight,Nat.testBit,Nat.one_and_eq_mod_two];rcases Nat.mod_two_eq_zero_or_one (b.toNat >>> f) with h|h<;>simp[h]
 rw[this,E3,EN,decide_eq_true_iff];omega
theorem CH(b:BitVec 64)(f:Nat)(d:f<64):Zk .or .u64 (b.toNat:Int) (IntKind.u64.wrap (1*2 ^ min f IntKind.u64.bits))=((b |||BitVec.twoPow 64 f).toNat:Int):=by
 have a:min f IntKind.u64.bits=f:=by simp[IntKind.bits];omega
 have c:((1:Int)*2 ^ f)=((BitVec.twoPow 64 f).toNat:Int):=by
  rw[BitVec.toNat_twoPow,Nat.mod_eq_of_lt (Nat.pow_lt_pow_right (by omega) d)];simp
 rw[a,c,di (by exact BitVec.isLt _)];unfold Zk;simp only;rw[rT,rT,di (by exact BitVec.isLt _)];rfl
def Is(l:List Int):BitVec 64:=l.foldl (λb f=>b |||BitVec.twoPow 64 f.toNat) 0#64
def Xqr(l:List Int)(f:Int):Is (l++[f])=Is l |||BitVec.twoPow 64 f.toNat:=by simp[Is]
def XZ(f:Nat)(c:f<64):∀(n:Nat)(l:List Int),l.length=n->(∀g∈l,0<=g)->(Is l).getLsbD f=decide ((f:Int)∈l)
|0,l,a,_=>by
 simp_all[dY,Is]
|n+1,l,a,b=>by
 obtain⟨r,g,rfl⟩:∃r g,l=r++[g]:=⟨l.dropLast,l.getLast (by intro e;simp[e]at a),(List.dropLast_concat_getLast _).symm⟩
 have h:=XZ f c n r (by simpa using a) (λx d=>b x (by simp[d]));have i:=b g (by simp);rw[Xqr,BitVec.getLsbD_or,h,BitVec.getLsbD_twoPow];grind
def Yuc{l:List Int}(h:∀g∈l,0<=g/\g<64):((Is l).toNat:Int)≠0↔l≠[]:=by
 constructor
 ·rintro a rfl;exact a rfl
 ·intro a c;obtain⟨g,b⟩:=List.exists_mem_of_ne_nil l a;have f:=h g b;have e:=XZ g.toNat (by omega) _ l rfl (λx d=>(h x d).1);rw[show((g.toNat:Nat):Int)=g from by omega,decide_eq_true b]at e;have:Is l=0#64:=BitVec.eq_of_toNat_eq (by simpa using c);simp_all
def K4(n:Int)(d:Av):Bool:=
 d.Aq.all (λf=>decide (0<=f)&&decide (f<n))&&decide d.Aq.Nodup&&decide (d.Aq≠[])&&decide (0<=d.B1)&&decide (d.B1<n)&&!d.Aq.contains d.B1
def Lq(s:AM):Bool:=decide (1<=s.AL.length)&&decide (s.AL.length<=12)&&decide (s.AU.length<=12)&&s.AU.all (K4 s.AL.length)
include hP
theorem Ynz{b:BitVec 64}{f:Nat}(a:f<64){c:AE}{K:V->Prop}(h:K (.d (.bool (b.getLsbD f)))):AW P 240 [.d (.int .u64 b.toNat),.d (.int .i64 f)] c K:=by
 refine AK hP AT (ds:=[.int .u64 b.toNat,.int .i64 f]) Zmk.1 Zmk.2 A6.nil ?_;simp[Zdd];rw[Y2n b f a];exact h
theorem Yug{n:Nat}(y:n<=12){d:Av}(Q:d.BJ){W:AE}{K:V->Prop}(h:K (.d (.bool (K4 n d)))):AW P 188 [.d d.enc,.d (.int .i64 n)] W K:=by
 refine AK hP AT (ds:=[d.enc,.int .i64 n]) Zla.1 Zla.2 A6.nil ?_;have j:K4 n d=false->K (.d (.bool false)):=λe=>by rw[e]at h;exact h
 simp[Zcv,Av.enc,X4,Xg];refine EK d.Aq.length (λk=>[(1,.d (.int .i64 n)),(2,.ptr 0 []),(5,.d (.int .u64 (Is (d.Aq.take k)).toNat)),(9,.d (.AH 1 (d.Aq.map iD))),(10,.d (.int .i64 d.Aq.length)),(11,.d (.int .i64 k))])
  (λ_=>[(0,.box 162 (.d d.enc))]) (λk=>(∀g∈d.Aq.take k,0<=g/\g<n)/\(d.Aq.take k).Nodup) (by simp) (by simp[Is]) (by simp[Av.enc,X4,Xg]) ?_ ?_
 ·intro k i b R X F G Y;have Z:IntKind.i64.wrap ((k:Int)+1)=(k:Int)+1:=w_i _ (by have:=Q.Aq;omega);have t:d.Aq.take (k+1)=d.Aq.take k++[d.Aq[k]]:=F0 i;have O:(¬(0<=d.Aq[k]/\d.Aq[k]<n)\/d.Aq[k]∈d.Aq.take k)->K4 n d=false:=by
   intro a;rw[QY];intro z;simp only[K4,BX,Fl,D2]at z;rcases a with a|a
   ·grind[List.getElem_mem]
   ·have y:=z.1.1.1.1.2;rw[<-QW (k+1) d.Aq,Io,t,Io]at y;grind
  generalize c:d.Aq[k]=g at t O;by_cases H:g<0
  ·simp[YK,i,c,H];refine G _ _ ?_;simp;grind
  by_cases v:(n:Int)<=g
  ·simp[YK,i,c,v];simp_all
  obtain⟨f,rfl⟩:∃f:Nat,g=f:=⟨g.toNat,by omega⟩
  have J:¬(f:Int)<0:=by omega
  simp[YK,i,c,v,J];refine Ynz hP (by omega) ?_;have a:=XZ f (by omega) _ _ rfl (λx s=>(b.1 x s).1);rw[a];by_cases U:(f:Int)∈d.Aq.take k
  ·simp_all
  ·have u:=CH (Is (d.Aq.take k)) f (by omega);rw[Int.one_mul]at u;simp[U,u];refine X [] _ _ ⟨?_,?_⟩ ?_ (by simp ) (by simp ) (by simp )
   ·grind
   ·grind
   ·rw[t,Xqr];simp[Z]
 ·intro b R F G Y;rw[HI]at b;simp[YK,Av.enc,X4,Xg];refine F _ _ _ ?_;have r:=Yuc (l:=d.Aq) (λg c=>⟨(b.1 g c).1,by grind⟩);have N:K4 n d=(decide (d.Aq≠[])&&decide (0<=d.B1)&&decide (d.B1<n)&&!d.Aq.contains d.B1):=by
   have h1:d.Aq.all (λf=>decide (0<=f)&&decide (f<n))=true:=by
    simp_all
   unfold K4;grind
  rw[N]at h j;by_cases w:d.Aq=[]
  ·have m:(Is d.Aq).toNat=0:=by rw[w];rfl
   simp[m];simp_all
  have m:¬((Is d.Aq).toNat:Int)=0:=r.2 w;have o:¬(Is d.Aq).toNat=0:=λe=>m (by omega);by_cases g2:d.B1<0
  ·have p:¬0<=d.B1:=by omega
   simp[p];simp_all
  by_cases g3:(n:Int)<=d.B1
  ·have q:¬d.B1<n:=by omega
   simp[q];simp_all
  obtain⟨f,T⟩:∃f:Nat,d.B1=f:=⟨d.B1.toNat,by omega⟩
  have L:(f:Int)<n:=by omega
  simp[o,T,L];refine Ynz hP (by omega) ?_;have a:=XZ f (by omega) _ _ rfl (λx s=>(b.1 x s).1);simp_all
theorem Yka{x:AM}(t:x.BJ){u:AE}{K:V->Prop}(h:K (.d (iD (if Lq x then 0 else 130)))):AW P 124 [.d x.enc] u K:=by
 refine AK hP AT (ds:=[x.enc]) Zjp.1 Zjp.2 A6.nil ?_;have a:Lq x=false->K (.d (.int .i64 130)):=λe=>by rw[e]at h;exact h
 by_cases g:(x.AL.length:Int)<1
 ·simp[aK,AM.enc,g];exact a (by rw[QY];simp only[Lq,ne_eq,BX,D2];omega)
 by_cases i:(12:Int)<x.AL.length
 ·simp[aK,AM.enc,i];exact a (by rw[QY];simp only[Lq,ne_eq,BX,D2];omega)
 by_cases j:(12:Int)<x.AU.length
 ·simp[aK,AM.enc,j];exact a (by rw[QY];simp only[Lq,ne_eq,BX,D2];omega)
 have r:Lq x=x.AU.all (K4 x.AL.length):=by
  grind[Lq]
 rw[r]at h a;simp[aK,AM.enc,g,i,j];refine EK x.AU.length (λk=>[(1,.ptr 0 []),(22,.d (.AH 4 (x.AU.map Av.enc))),(23,.d (.int .i64 x.AU.length)),(24,.d (.int .i64 k))])
  (λ_=>[(0,.box 72 (.d x.enc))]) (λk=>(x.AU.take k).all (K4 x.AL.length)=true) (by simp) (by simp) (by simp[AM.enc]) ?_ ?_
 ·intro k f c R v l m w;have y:=w_s k (by omega);have b:=Vg (p:=K4 x.AL.length) f;rw[c,Fc]at b;have o:∀d:Av,d.enc.shape.size=4:=λd=>by rw[D4];rfl
  have q:∀d:Av,d.enc.sz=4:=λd=>rfl;have n:∀d:Av,d.enc.shape=.node [.leaf,.leaf,.leaf,.leaf]:=λ_=>rfl;simp[vn,f,q,n,AM.enc];refine⟨rfl,Yug hP (by omega) (t.LG _ (DS f)) ?_⟩;cases s:K4 x.AL.length x.AU[k]with
  |false=>
   simp;refine m _ _ ?_;simp;grind
  |true=>
   simp;refine v [] _ _ (by rw[b,s]) (by simp[y]) (by simp[AF,AM.enc]) (by simp[AF]) (by simp[AF])
 ·intro c R l m w;rw[HI]at c;simp[vn];refine l _ _ _ ?_;simp;rw[c]at h;exact h
omit hP
mutual
def Jk:∀{x y:D},D.le x y->x.shape=y.shape
|.Ah,y,h=>by
 simp only[D.le]at h;rcases h with rfl|⟨_,rfl⟩<;>rfl
|.agg b,y,h=>by
 simp only[D.le]at h;obtain⟨c,rfl,h⟩:=h;simp only[D.shape,Xr7 h]
|.AH a b,y,h=>by
 simp only[D.le]at h;obtain⟨c,rfl,h⟩:=h;rfl
|.int ..,y,h|.bool ..,y,h|.AV ..,y,h|.CO,y,h|.CV,y,h|.B3,y,h|.Cj,y,h|.CD ..,y,h|.iface ..,y,h|.fn ..,y,h=>by
 simp only[D.le]at h;subst h;rfl
def Xr7:∀{b a:List D},B8 b a->D.BN b=D.BN a
|[],a,h=>by simp only[B8]at h;subst h;rfl
|x::r,a,h=>by
 simp only[B8]at h;obtain⟨y,s,rfl,c,d⟩:=h;simp only[D.BN,Jk c,Xr7 d]
end
def Ru(y:Al):Int:=if y.AB.all Lq then 0 else 130
def aH(y:Al):Int:=if (Wp y).2=0 then (if (Wp y).1=y then 0 else 160) else (Wp y).2
include hP
theorem Xqx{y:Al}(c:y.BJ){i:AE}{K:V->Prop}(h:K (.d (iD (Ru y)))):AW P 43 [.d y.enc] i K:=by
 refine AK hP AT (ds:=[y.enc]) Z04.1 Z04.2 A6.nil ?_;have g:∀x:Al,(V.d x.enc).Bk=some [.d (.AH 1 (x.AR.map .AV)),.d (.AH 5 (x.Ac.map Ax.enc)),.d (.AH 6 (x.AB.map AM.enc)),.d (.AH 5 (x.AP.map Ap.enc)),.d (.AH 5 (x.AJ.map Ai.enc)),.d (.AH 3 (x.AI.map AZ.enc))]:=λ_=>rfl;have q:∀x:AM,x.enc.sz=6:=λ_=>rfl;have p:∀x:AM,x.enc.shape.size=6:=λx=>by rw[D4];rfl
 have o:∀x:AM,x.enc.shape=.node [.leaf,.leaf,.leaf,.leaf,.leaf,.leaf]:=λ_=>rfl;have s:=c.AB;simp[Zvl,g];refine Aw.go (ι:=Nat) (λk=>[(7,.d (.AH 6 (y.AB.map AM.enc))),(8,.d (.int .i64 y.AB.length)),(9,.d (.int .i64 k))]) (λ_=>[(0,.box 30 (.d y.enc))]) (λk=>k<=y.AB.length/\(y.AB.take k).all Lq=true) (λk=>y.AB.length-k) 0 ⟨FL _,by simp⟩ (by simp) (by simp) ?_;rintro k ⟨r,b⟩ R l j m t;by_cases a:k<y.AB.length
 ·have n:=w_s k (by omega);simp[y8,a,q,p,o];refine⟨rfl,Yka hP (c.Am _ (DS a)) ?_⟩;by_cases e:Lq y.AB[k]=true
  ·simp[e];refine l [] (k+1) _ _ ⟨by omega,?_⟩ (by omega) (by simp[n]) (by simp[AF]) (by simp[AF]) (by simp[AF]);rw[F0 a,vM,b];simp[e]
  ·simp[e];refine m _ _ ?_;simp;have:Ru y=130:=by
    rw[Ru,A5];intro f;exact e (Fl.1 f _ (DS a))
   rw[this]at h;exact h
 ·obtain rfl:k=y.AB.length:=by omega
  rw[HI]at b;have:Ru y=0:=by rw[Ru,Bv b]
  rw[this]at h;simp[y8];refine j _ _ _ ?_;simpa using h
theorem X42{y:Al}(g:y.BJ)(k:y.CB){l:AE}{K:V->Prop}(h:K (.d (iD (aH y)))):AW P 41 [.d y.enc] l K:=by
 refine AK hP AT (ds:=[y.enc]) Z02.1 Z02.2 A6.nil ?_;have n:∀x:Al,(V.d x.enc).Bk=some [.d (.AH 1 (x.AR.map .AV)),.d (.AH 5 (x.Ac.map Ax.enc)),.d (.AH 6 (x.AB.map AM.enc)),.d (.AH 5 (x.AP.map Ap.enc)),.d (.AH 5 (x.AJ.map Ai.enc)),.d (.AH 3 (x.AI.map AZ.enc))]:=λ_=>rfl;have j:y.enc.shape.size=6:=by rw[D4];rfl
 have m:y.enc.sz=6:=rfl;simp[Zvj,j,m];refine⟨rfl,Xqu hP g k λd f=>?_⟩;have b:d.shape=.node [.leaf,.leaf,.leaf,.leaf,.leaf,.leaf]:=Jk f;simp[b];have c:(match V.d d with
 |V.d (D.agg i)=>true
 |V.agg i=>true
 |x=>false)=true:=by
  cases d<;>simp[D.shape]at b⊢
 refine⟨λe=>?_,λe=>⟨rfl,c,rfl,c,AW.le (xs:=[d,y.enc]) (ys:=[(Wp y).1.enc,y.enc]) (B8.cons f (B8.cons (D.le.refl _) B8.nil)) (Yn0 hP g ?_)⟩⟩
 ·rw[aH,A5 e]at h;exact h
 ·rw[aH,Bv e]at h;by_cases a:(Wp y).1=y
  ·rw[Bv a]at h;simpa[a]using h
  ·rw[A5 a]at h;simpa[a]using h
omit hP
def D3(l:List Int):List (D×V):=l.map λx=>(.int .i64 x,V.d (.bool true))
def TV(x:Int):∀l:List Int,Zo (.int .i64 x) (D3 l)=if x∈l then some (V.d (.bool true)) else none
|[]=>rfl
|y::r=>by
 have a:=TV x r;unfold D3 at a⊢;simp only[Dj,Zo,a,Fb];by_cases e:x=y
 ·simp[e,Ds]
 ·simp[e,Ds]
def jC(x:Int)(l:List Int):Ux (.int .i64 0) (.int .i64 x) (D3 l):=by
 refine⟨rfl,λe a=>?_⟩;obtain⟨y,_,rfl⟩:=E2.1 a;rfl
def Tp(p:Nat->Bool):∀l:List Int,Zp p (D3 l)=false
|[]=>rfl
|y::r=>by
 have a:=Tp p r;unfold D3 at a⊢;simp[Zp,a,V.Bg]
def Qs{p:Nat->Bool}{id:Nat}{a:List (D×V)}(c:Zp p a=false):∀{e:AE},AN p e=true->AN p (AG e id (.map a))=true
|[],_=>rfl
|(j,o)::r,h=>by
 have b:AN p r=true:=by cases o<;>simp[AN]at h<;>first|exact h|exact h.2
 simp only[AG];split
 ·simp[AN,c,b]
 ·have d:=Qs (id:=id) c b;cases o<;>simp[AN]at h⊢<;>first|exact d|exact⟨h.1,d⟩
def PU(l:List Int)(n:Int):Bool:=decide l.Nodup&&decide ((l.length:Int)=n)
include hP
theorem Yt2{l:List Int}{n:Int}{m:Nat}(L:l.length<=9223372036854775807){i:AE}(t:AD i m=some (.map [])){K:BQ->AE->Prop}(h:∀j,K (.ret (.d (.bool (PU l n)))) (AG i m (.map j))):Aa P 126 [.mp m,.d (X4 l),.d (.int .i64 n)] i K:=by
 refine Xv hP AT Y99.1 Y99.2 A6.nil λ_ r=>?_;have N:=Xk t;simp[Y0o,X4];have g:∀j b,b=PU l n->(∀p,Zp p j=false)->Yh (AA i) (K (.ret (.d (.bool b)))) [] (AG i m (.map j)):=λj b s q=>by
  subst s;have v:Xo (AF (AA i) []) (AG i m (.map j))=AG i m (.map j):=Xl (by simp);exact⟨[],by simp,by rw[v];exact Qs (q _) (r []),by rw[v];exact h j⟩
 refine Aw.go (ι:=Nat) (λk=>[(0,.mp m),(1,.d (X4 l)),(2,.d (.int .i64 n)),(9,.d (X4 l)),(10,.d (.int .i64 l.length)),(11,.d (.int .i64 k))]) (λk=>AG i m (.map (D3 (l.take k)))) (λk=>k<=l.length/\(l.take k).Nodup) (λk=>l.length-k) 0 ⟨FL _,by simp⟩ (by simp[X4]) (by simp[D3,Yd t]) ?_;rintro k ⟨J,q⟩ R F z G O;have x:∀o,AD (AG i m o) m=some o:=λo=>by rw[Xe i m m ⟨_,t⟩,Bv rfl]
 by_cases f:k<l.length
 ·have H:=w_s k (by omega);by_cases c:l[k]∈l.take k
  ·simp[YJ,f,X4,x,TV,jC,c];refine G _ _ ?_;simp;refine g _ _ ?_ (Tp · _);have:¬l.Nodup:=λw=>by
    rw[<-QW k l,EV f]at w;exact(Io.1 w).2.2 _ c _ List.mem_cons_self rfl
   simp[PU,this]
  ·have u:E6 (.int .i64 l[k]) (V.d (.bool true)) (D3 (l.take k))=D3 (l.take (k+1)):=by
    rw[U4 _ _ _ (by rw[TV,A5 c]),F0 f];rw[D3,D3,Mh];rfl
   simp[YJ,f,X4,x,TV,jC,c,u,Za];refine F [] (k+1) _ _ ⟨by omega,?_⟩ (by omega) (by simp[H,X4]) ?_ ?_ ?_
   ·rw[F0 f,Io];exact⟨q,by simp,λa y b s=>by rw[O6]at s;subst s;exact λe=>c (e▸y)⟩
   ·exact Xl (by simp)
   ·simp[AF];omega
   ·exact Qs (Tp _ _) (by simpa using r [])
 ·obtain rfl:k=l.length:=by omega
  rw[HI]at q;simp[YJ,X4];refine z _ _ _ ?_;simp[X4];refine g _ _ ?_ (Tp · _);simp[PU,q];rfl
omit hP
def Yoz:Nat:=0x1000baa01600da7a3802593e5b0d0141e56a806808f07078f8982477bd16b00701386d89816526601e010001a093fe0710107f82b300616500e0b02b39b6af909500d08348a16585530d00e082
def ti:Nat:=0x1a6c0d20231e50140220010215541980491c935797a0d35ec0200d201f1e519206808f07039913b00505701d78101ea1f13b00401c0d246800905a01708f01709b01751a0183e05a63fe01901f859baa0a5baa0930df20603b0747d62ce00a26b01419306003971002d03600402c03600302b03600202a036001029036047c7127709600b02800370105704430039e882
def Zn1:S:=zS [(zS [] Yoz)] ti
def n44:Nat:=0x1b5a02272839900101d76f01c17c11101b1420030064451114d3111ab5016b5911116d11134196684d2f101537d05e17595db115ce4561650570117aa0127463560100c118f33e05a00b82409ba7c0250844025a6aa4b3d17579d0720e2a4d00368f781b4949b0076c5060a6920a785637
def Zos:S:=zS [] n44
def n46:Nat:=0x10084db1a602e00001600305a0170ff9210579ff9693487e004e3a51b70133870113a00122880479c00c100f3271ac00e0b51ac00506500f4be92100d9ff0300c104c0701e10b300305784a13800c7461d8a2e0bf9940c60476d8314c594981ac3febb81580460579ff03004055d070
def Zou:S:=zS [] n46
def Zsw:Nat:=0x1b5a02272858b4752f10151de17595db11a360bf0030570117aa0121de0479c00c118f33e05a00b82409ba7c0250844025a6aa4b3d17579d0720e2a4d00368f781b4949b0070d209c02a00e05420a785637
def Y29:S:=zS [] Zsw
def Ydd:Nat:=0x1000adf0020410110730100442c0
def Ydc:Nat:=0x10006510bf0b90410290730281a1bf106a42f1378e613255608c0f315292813f5941220461eb0336170513e50204530d21347df0b70c60550869aa6510070bf00a12c0091160c21e521e1075562b931301f549651007a5502baefc0d2a49670b97e900860302908327e4fea5502702800d02a082
def nI:Nat:=0x1055bf13dcbf109302653e1fe04e0265b2
def nH:Nat:=0x18db2458610246b68e634101d0225940205e41bea612450bf0e105402401d4b192801c59401a0461eb01b02000605e5ec0204530d20197df0b70c60550863542454250170097a51e521e0155947d501501f54924586101313d9c421702e01211501033e1af0110836ff07600f7a1012082
def sX:Nat:=0x1a6c0040720417df04808706c839adf0a5adf09300e0042a5abb05e71d00c7df3350450090c60de0134011ba817af300670157c0c60476d839e882
def Y3c:S:=zS [(zS [(zS [(zS [] Ydc)] nI),(zS [] Ydd)] nH)] sX
def Zsx:Nat:=0x151c03000200821e7270300b2
def Y3d:S:=zS [] Zsx
def Zsy:Nat:=0x10a005001e0540b78d90740460330406d8113
def Y3e:S:=zS [] Zsy
def Ztq:Nat:=0x107700c23100baef1c96fb73400905973407416c47373400614a0055d10b75c34a66d825a
def Y4o:S:=zS [] Ztq
def Yd1:Nat:=0x104704e00798c040
def Dg:S:=zS [] Yd1
def Yd2:Nat:=0x104000b0480141c90b90032b2bd300504504380b1a5060
def Dh:S:=zS [] Yd2
def Zzv:Nat:=0x107717705a04300d01f0743a06e805500649803a7ce0583a005c08b7d62ce03009427025a
def Y4p:S:=zS [Dg,Dh] Zzv
def Zle:Lr prog 192 2 Y4p [.t 4]=true:=by kernel_rfl
def Yd3:Nat:=0x1000ac70200eb1e80c43ef2c0
def nP:Nat:=0x120290d0b004101c06700b21e01d19e07a0f6a570a9040a6701a2162d700a43600905744f11d8a392214000a36109d61600ab675f301507f01110e1401560130be9e909101110e14000a05f01107e5d461600ab6700f1b501e00e0910c400a140ba700d1e62fe2d7b67528a5900e1fb
def nQ:Nat:=0x1055ac73b8ac70570550c70098710d514000704422307c0060f50066c60b35d00058a40044c92f78300652672f7007a4fa4fb5000906607e1580495995d0b2e2ef0010e809b0e803602513f03101e1529ae37812215521e134a570050324e3c449430b30f405711600f6d600100c2d0c3da1713d02ba70
def Yd4:Nat:=0x100095202901507301400002a0fe
def nR:Nat:=0x120295282eaa221e0262731b6024a570a904002304c023c120b705702211d0210466ef07100636109dc12088ace05614207101c0234b101a9281b601905996c05f01801e4f7c120880160b00141880150831d44ba088a0faf2082
def tC:Nat:=0x10b50b35f62350559520a59529994cf0138f818c05c0470110e101002a03b7f119d011aba05f6a123faca67d0540993a804319904466001d23facaa3c054b6a23f726b6a53067d0651c53a804500241206e00facaa3c05478a01d23f726b6a530a3c73ac2406e00f72678a01d04dc2405c24c67d0651c53a80450487a2020260065
def Y4q:S:=zS [(zS [(zS [] Yd4)] nR),(zS [(zS [(zS [] Yd3)] nP)] nQ)] tC
def Yd5:Nat:=0x121876e00653b05614207101e01c0b932d01dbd304c01b0461570010624d104401837d11b01207a4ba0070160e182800701202201d086c440140833a576e09b4e901202101403b074
def nT:Nat:=0x1000c030217d1732a2f01276e09707621876e00601102001d3df9281084f300f7b409d76e00500d09400b18800c08333405c005796
def tD:Nat:=0x10a00220030720230d9055c030a5c0357c4cf00a8f849bc300644207c59b74cf0075b20460300406d8113
def Y4r:S:=zS [(zS [(zS [] Yd5)] nT)] tD
def Ztr:Nat:=0x16c752b03a21e1561bc06e00849c00c03a2b700031140f7f011504c02a49f00331100137b348
def Y4s:S:=zS [] Ztr
def Zts:Nat:=0x151c0047273ba
def Y4t:S:=zS [] Zts
def Ztt:Nat:=0x19960c100014c02949f00431172700b05779d03b21e06e4100c62271e5c642620083480c60bb07308a5f649c00c03a2b70003110470ff0ae0310b2
def Y4u:S:=zS [] Ztt
def Yev:Nat:=0x111201600214804511bad308e84cc6489e24696d63e3847049bf17c0dc53124cc620000dc16d00b5460dc11b2790000780a705f0f100a17904d04400709424b00608d04a08a05c0e1070060
def tH:Nat:=0x105500104506f
def Y5s:S:=zS [(zS [] Yev)] tH
def Yew:Nat:=0x112523b0c22ef00904511b00923b7c7002028c6417c09b24696d7c61b334c026009143002023c6209b009040024288
def nA:Nat:=0x12021b354802200a1ab6f49a400a1b372d0520205ef01f05a01dc620cd03d00804334f83234f0ae34f95a1571b725101a4e305522b72d01800b9760440080184e422b34c01600a5270e296d7e014d34c0147dd2279bd06e17a3168ab3df21d0490080102b117914d5484ab07300d04400c24b00244c00d0ff060
def tI:Nat:=0x11a30a602c0b011610723212502e4b900723b4b700723b16879b9d7196
def Y5t:S:=zS [(zS [(zS [] Yew)] nA)] tI
def Zuj:Nat:=0x157800f0b000e961c24009b9a2b307122200c01e14d209558bdb196
def Y51:S:=zS [] Zuj
def Zuk:Nat:=0x10a001f0c107211d0aa7b001b34a01c99800501a21c02601d1560191410180049480420150960165a704201120e2ca06bc3193a00f0450c600f0d281300d5231561312730048323a8006250b3d0080960f10d30040a950706422400000d0450ae0310b2
def Y52:S:=zS [] Zuk
def Zul:Nat:=0x126291a0140421770120100b932d011bd323f0463eb00d7f08788e000438d00c05318c04400a0b7094c590079ae3781b49fa
def Y53:S:=zS [] Zul
def Zum:Nat:=0x1972a6b07807100d0120561d707188b01f7376d206320904000f01e07a07104909d0ae0400b084289843819f20539e
def Y54:S:=zS [] Zum
def jm:S2:=zL [] [] Yoz
def yW:=(by cbv:jm=_)
def Zqi:S2:=zL [] [jm] ti
def Zu0:=(show Zqi=_ from (λa=>(by cbv:zL [] [a] ti=_)) jm)
def Z0g:w_P prog 11 1 Zn1 [.c 2 7 true,.t 3] [] Zqi:=w_p (by kernel_rfl)
def Zq8:S2:=zL [] [] n44
def Zvm:=(by cbv:Zq8=_)
def Z05:w_P prog 44 1 Zos [.t 2] [] Zq8:=w_p (by kernel_rfl)
def Zra:S2:=zL [] [] n46
def Zvo:=(by cbv:Zra=_)
def Z07:w_P prog 46 1 Zou [.t 2,.t 3,.t 4] [] Zra:=w_p (by kernel_rfl)
def Y63:S2:=zL [] [] Zsw
def Zb4:=(by cbv:Y63=_)
def Zjq:w_P prog 125 1 Y29 [.t 2] [] Y63:=w_p (by kernel_rfl)
def YU:S2:=zL [] [] Ydd
def Yi6:=(by cbv:YU=_)
def gw:S2:=zL [] [] Ydc
def vo:=(by cbv:gw=_)
def YV:S2:=zL [] [gw] nI
def Yi7:=(show YV=_ from (λa=>(by cbv:zL [] [a] nI=_)) gw)
def gx:S2:=zL [] [YV,YU] nH
def vp:=(show gx=_ from (λ(a b:S2)=>(by cbv:zL [] [a,b] nH=_)) YV YU)
def Y66:S2:=zL [] [gx] sX
def Zb5:=(show Y66=_ from (λa=>(by cbv:zL [] [a] sX=_)) gx)
def Zjs:w_P prog 128 1 Y3c [.c 2 2 true,.t 3] [] Y66:=w_p (by kernel_rfl)
def Y67:S2:=zL [] [] Zsx
def Zb6:=(by cbv:Y67=_)
def Zjt:w_P prog 129 1 Y3d [.t 2] [] Y67:=w_p (by kernel_rfl)
def Y68:S2:=zL [] [] Zsy
def Zb7:=(by cbv:Y68=_)
def Zju:w_P prog 130 1 Y3e [.t 2] [] Y68:=w_p (by kernel_rfl)
def Y8e:S2:=zL [] [] Ztq
def Zcw:=(by cbv:Y8e=_)
def Zld:w_P prog 191 2 Y4o [.t 4] [] Y8e:=w_p (by kernel_rfl)
def xg:S2:=zL [] [] Yd1
def wG:=(by cbv:xg=_)
def Yl4:Dg.Af []=some xg:=by kernel_rfl
def xi:S2:=zL [] [] Yd2
def wH:=(by cbv:xi=_)
def Yl5:Dh.Af []=some xi:=by kernel_rfl
def Y8f:S2:=.seq (.rg [.op (some 2) (.box 35 (.t 0))] [(1,(.a (.t 1))),(2,(.a (.t 2))),(4,(.a .Ah))] [])
 (.seq (.seq (.rg [] [(2,(.a (.t 2))),(4,(.a (.t 4))),(6,(.a (.t 1)))] [])
 (.block 0 (.Ia 192 [7] (.t 6) Dg Dh [2,4])))
 (.seq (.rg [] [(4,(.u (.ld 1 false (.t 0)) (.a (.t 2))))] [])
 (.ret)))
def Zgv:Y4p.Af []=some Y8f:=by kernel_rfl
def iO:S2:=zL [] [] Yd3
def wK:=(by cbv:iO=_)
def YW:S2:=zL [] [iO] nP
def wI:=(show YW=_ from (λa=>(by cbv:zL [] [a] nP=_)) iO)
def YX:S2:=zL [] [YW] nQ
def wJ:=(show YX=_ from (λa=>(by cbv:zL [] [a] nQ=_)) YW)
def iP:S2:=zL [] [] Yd4
def gF:=(by cbv:iP=_)
def YY:S2:=zL [] [iP] nR
def gE:=(show YY=_ from (λa=>(by cbv:zL [] [a] nR=_)) iP)
def Y8g:S2:=zL [] [YY,YX] tC
def Zcx:=(show Y8g=_ from (λ(a b:S2)=>(by cbv:zL [] [a,b] tC=_)) YY YX)
def Zlf:w_P prog 193 2 Y4q [] [] Y8g:=w_p (by kernel_rfl)
def YZ:S2:=zL [] [] Yd5
def wL:=(by cbv:YZ=_)
def iQ:S2:=zL [] [YZ] nT
def wM:=(show iQ=_ from (λa=>(by cbv:zL [] [a] nT=_)) YZ)
def Y8h:S2:=zL [] [iQ] tD
def Zcy:=(show Y8h=_ from (λa=>(by cbv:zL [] [a] tD=_)) iQ)
def Zlg:w_P prog 194 1 Y4r [.t 2] [] Y8h:=w_p (by kernel_rfl)
def Y8i:S2:=zL [] [] Ztr
def Y0s:=(by cbv:Y8i=_)
def Zac:w_P prog 195 2 Y4s [] [] Y8i:=w_p (by kernel_rfl)
def Y8j:S2:=zL [] [] Zts
def qV:=(by cbv:Y8j=_)
def sA:w_P prog 196 1 Y4t [.t 2] [] Y8j:=w_p (by kernel_rfl)
def Y8k:S2:=zL [] [] Ztt
def Zcz:=(by cbv:Y8k=_)
def Zlh:w_P prog 197 1 Y4u [.t 2] [] Y8k:=w_p (by kernel_rfl)
def iB:S2:=zL [] [] Yev
def vj:=(by cbv:iB=_)
def Y9a:S2:=zL [] [iB] tH
def Zdf:=(show Y9a=_ from (λa=>(by cbv:zL [] [a] tH=_)) iB)
def Zmm:w_P prog 242 2 Y5s [] [] Y9a:=w_p (by kernel_rfl)
def ZD:S2:=zL [] [] Yew
def Yjt:=(by cbv:ZD=_)
def iC:S2:=zL [] [ZD] nA
def gG:=(show iC=_ from (λa=>(by cbv:zL [] [a] nA=_)) ZD)
def Y9b:S2:=zL [] [iC] tI
def Zdg:=(show Y9b=_ from (λa=>(by cbv:zL [] [a] tI=_)) iC)
def Zmn:w_P prog 243 3 Y5t [.t 6] [] Y9b:=w_p (by kernel_rfl)
def Y9j:S2:=zL [] [] Zuj
def Zdm:=(by cbv:Y9j=_)
def Zmw:w_P prog 288 3 Y51 [.t 6] [] Y9j:=w_p (by kernel_rfl)
def Y9k:S2:=zL [] [] Zuk
def Zdn:=(by cbv:Y9k=_)
def Zmx:w_P prog 289 1 Y52 [.t 2] [] Y9k:=w_p (by kernel_rfl)
def Y9l:S2:=zL [] [] Zul
def Y0v:=(by cbv:Y9l=_)
def Zae:w_P prog 290 2 Y53 [] [] Y9l:=w_p (by kernel_rfl)
def Y9m:S2:=zL [] [] Zum
def Zdo:=(by cbv:Y9m=_)
def Zmy:w_P prog 292 3 Y54 [] [] Y9m:=w_p (by kernel_rfl)
def L6:Option (List Int)->D
|some l=>X4 l
|none=>.Ah
def Ywl{d:D}{l:List Int}(h:D.le d (X4 l)):d=X4 l\/(d=.Ah/\l=[]):=by
 have e:∀(l:List Int)(b:List D),B8 b (l.map iD)->b=l.map iD:=λl=>by
  induction l with
  |nil=>intro b h;cases b<;>simp_all[B8]
  |cons a r g=>intro b h;cases b with
   |nil=>simp[B8]at h
   |cons x s=>
    obtain⟨y,t,e,c,f⟩:=h;cases e;rw[g _ f,Dj];cases x<;>simp[D.le]at c<;>simp[c]
 cases d with
 |Ah=>simp_all[D.le,X4]
 |AH a b=>
  grind[D.le,X4]
 |_=>simp[D.le,X4]at h
structure Gu(P:BE)(y:Al)(e:Int)(o:Option (List Int)):Prop where
 call:∀(ob:AE)(K:V->Prop),(∀d,D.le d (L6 o)->K (.BU [.d d,.d (.bool o.isSome),.d (iD e)]))->AW P 46 [.d y.enc] ob K
 len:∀l,o=some l->l.length<=9223372036854775807
def Kp(y:Al)(e:Int)(o:Option (List Int)):Int:=if Kv y=0 then (if e=0 then (if o.isSome then 0 else 141) else e) else Kv y
def qS(y:Al):Option (List Int)->Bool
|some l=>PU l y.AB.length
|none=>false
def Jq(y:Al)(e:Int)(o:Option (List Int)):Int:=if Kp y e o=0 then (if qS y o then 0 else 141) else Kp y e o
include hP
theorem Ykk{y:Al}(f:y.BJ){e:Int}{o:Option (List Int)}(c:Gu P y e o){g:AE}{K:V->Prop}(h:K (.d (iD (Kp y e o)))):AW P 125 [.d y.enc] g K:=by
 refine AK hP AT (ds:=[y.enc]) Zjq.1 Zjq.2 A6.nil ?_;have i:y.enc.shape.size=6:=by rfl
 simp[Zb4,i];refine⟨rfl,xE hP f ?_⟩;by_cases a:Kv y=0
 ·simp[a];refine⟨rfl,c.call _ _ λd j=>?_⟩;by_cases b:e=0
  ·cases o<;>simpa[b,Kp,a]using h
  simp_all[Kp]
 simp_all[Kp]
theorem Yj0{n:Int}{m:Nat}{a:AE}(f:AD a m=some (.map [])){K:BQ->AE->Prop}(h:∀c,K (.ret (.d (.bool (PU [] n)))) (AG a m (.map c))):Aa P 126 [.mp m,.d .Ah,.d (.int .i64 n)] a K:=by
 refine Xv hP AT Y99.1 Y99.2 A6.nil λ_ b=>?_;simp[Y0o];refine Aw.go (ι:=Nat) (λk=>[(0,.mp m),(1,.d .Ah),(2,.d (.int .i64 n)),(9,.d .Ah),(10,.d (.int .i64 0)),(11,.d (.int .i64 0))]) (λ_=>a) (λ_=>True) (λk=>0) 0 trivial (by simp) rfl ?_;rintro k _ R j i o l;simp[YJ];refine i _ _ _ ?_;simp;have g:=Yd f;have e:=h [];rw[g]at e;refine⟨[],by simp,by simpa using b [],?_⟩;simp_all[PU,AF]<;>omega
theorem X91{y:Al}(n:y.BJ){e:Int}{o:Option (List Int)}(c:Gu P y e o){q:AE}{K:V->Prop}(h:K (.d (iD (Jq y e o)))):AW P 44 [.d y.enc] q K:=by
 refine AK hP AT (ds:=[y.enc]) Z05.1 Z05.2 A6.nil ?_;have r:y.enc.shape.size=6:=by rfl
 have s:y.enc.sz=6:=rfl;have p:∀x:Al,(V.d x.enc).Bk=some [.d (.AH 1 (x.AR.map .AV)),.d (.AH 5 (x.Ac.map Ax.enc)),.d (.AH 6 (x.AB.map AM.enc)),.d (.AH 5 (x.AP.map Ap.enc)),.d (.AH 5 (x.AJ.map Ai.enc)),.d (.AH 3 (x.AI.map AZ.enc))]:=λ_=>rfl;simp[Zvm,r,s];refine⟨rfl,Ykk hP n c ?_⟩;by_cases a:Kp y e o=0
 ·have f:e=0:=by
   grind[Kp]
  have g:o.isSome=true:=by
   grind[Kp]
  rw[Jq,Bv a]at h;simp[a];refine⟨rfl,c.call _ _ λd j=>?_⟩;cases o with
  |none=>cases g
  |some l=>
   simp[f,p,qS]at h⊢;have CG:∀v b,v=V.d (.bool b)->K (.d (.int .i64 (if b=true then 0 else 141)))->UJ v/\II (K (V.d (D.int IntKind.i64 141))) (K (V.d (D.int IntKind.i64 0))) (SL v):=λv b m k=>by
    subst m;cases b<;>simpa using k
   rcases Ywl j with rfl|⟨rfl,rfl⟩
   ·refine Yt2 hP (c.len l rfl) (by simp ) λi=>?_;exact CG _ _ rfl h
   ·refine Yj0 hP (by simp ) λi=>?_;exact CG _ _ rfl h
 ·simpa[a,Jq]using h
omit hP
def PT(y:Al)(s f v:Int):Bool:=match J2 y s f with
|none=>false
|some x=>KQ y.Ac.length x.type&&decide (x.type.lo<=v)&&decide (v<=x.type.hi)
def Js(y:Al)(s:Int):Nat->List Ak->Bool
|_,[]=>true
|k,f::r=>PT y s k f.type.lo&&Js y s (k+1) r
def Vz(y:Al)(s:Int):Bool:=decide (0<=s)&&(match y.AB[s.toNat]? with
|none=>false
|some c=>Js y s 0 c.AL&&(match c.AL[0]? with|none=>false|some f=>decide (f.type.kind=3)))
def OI(a b:Az)(n:Int):Bool:=
 if a.kind≠b.kind then false
 else if a.kind=1\/a.kind=2 then decide (b.lo=IntKind.i64.wrap (a.lo+n))&&decide (b.hi=IntKind.i64.wrap (a.hi+n))&&decide (a.unit=b.unit)
 else decide (n=0)&&decide (a.lo=b.lo)&&decide (a.hi=b.hi)&&decide (a.names.length=b.names.length)
include hP
theorem Yu0{y:Al}(r:y.BJ){s f v:Int}{t:AE}{K:V->Prop}(h:K (.d (.bool (PT y s f v)))):AW P 241 [.d y.enc,.d (.int .i64 s),.d (.int .i64 f),.d (.int .i64 v)] t K:=by
 refine AK hP AT (ds:=[y.enc,.int .i64 s,.int .i64 f,.int .i64 v]) Zml.1 Zml.2 A6.nil ?_;have z:y.enc.shape.size=6:=by rfl
 have F:∀x:Az,x.enc.shape.size=6:=λx=>by rfl
 have w:∀x:Az,x.enc.shape=.node [.leaf,.leaf,.leaf,.leaf,.leaf,.leaf]:=λ_=>rfl;have u:∀x:Az,x.enc=.agg [iD x.kind,iD x.lo,iD x.hi,.AV x.Bo,iD x.unit,Xg x.names]:=λ_=>rfl;simp[Zde,z];refine⟨rfl,rfl,YD hP (λc=>?_) (λi g j k n m=>?_)⟩
 ·have a:=Jg (y:=y) (s:=s) (f:=f) c;simp[M6];simp_all[PT]
 ·have a:=XS g k;rw[<-n,<-m]at a;have p:PT y s f v=(KQ y.Ac.length y.AB[i].AL[j].type&&decide (y.AB[i].AL[j].type.lo<=v)&&decide (v<=y.AB[i].AL[j].type.hi)):=by simp[PT,a]
  rw[p]at h;have l:=(r.Am _ (DS g)).names _ (DS k);generalize y.AB[i].AL[j].type=x at h l;simp[w];refine⟨rfl,xF hP (y:=y) x l ?_⟩;cases q:KQ y.Ac.length x with
  |false=>simpa[q]using h
  |true=>
   have o:∀b,b=(decide (x.lo<=v)&&decide (v<=x.hi))->K (.d (.bool b)):=λb e=>by simp_all
   simp[u];apply o;rfl
theorem Y1k{a b:Az}{n:Int}{l:AE}{K:V->Prop}(h:K (.d (.bool (OI a b n)))):AW P 190 [.d a.enc,.d b.enc,.d (.int .i64 n)] l K:=by
 refine AK hP AT (ds:=[a.enc,b.enc,.int .i64 n]) Zlc.1 Zlc.2 A6.nil ?_;have k:∀c,c=OI a b n->K (.d (.bool c)):=λc e=>e▸h;clear h;by_cases g:a.kind=b.kind
 rotate_left
 ·simp[qU,Az.enc,Xg,g];simp_all[OI]
 by_cases f:b.kind=1\/b.kind=2
 ·rcases f with f|f
  all_goals
   simp[qU,Az.enc,Xg,g,f];exact k _ (by rw[E3];simp[OI,g,f])
 ·have i:¬b.kind=1:=λe=>f (.inl e);have j:¬b.kind=2:=λe=>f (.inr e);simp[qU,Az.enc,Xg,g,i,j];exact k _ (by simp[OI,g,i,j];grind)
theorem xC{y:Al}(p:y.BJ){s:Int}{J:AE}{K:V->Prop}(h:K (.d (.bool (Vz y s)))):AW P 189 [.d y.enc,.d (.int .i64 s)] J K:=by
 refine AK hP AT (ds:=[y.enc,.int .i64 s]) Zlb.1 Zlb.2 A6.nil ?_;have b:Vz y s=false->K (.d (.bool false)):=λe=>by rw[e]at h;exact h
 have U:y.enc.shape.size=6:=by rfl
 have l:y.enc=.agg [Xg y.AR,.AH 5 (y.Ac.map Ax.enc),.AH 6 (y.AB.map AM.enc),.AH 5 (y.AP.map Ap.enc),.AH 5 (y.AJ.map Ai.enc),.AH 3 (y.AI.map AZ.enc)]:=rfl;have O:∀c:AM,c.enc=.agg [.AV c.name,.AV c.Dy,iD c.CN,iD c.BL,.AH 11 (c.AL.map Ak.enc),.AH 4 (c.AU.map Av.enc)]:=λ_=>rfl;have n:∀f:Ak,f.enc=.agg [.AV f.name,.agg [iD f.type.kind,iD f.type.lo,iD f.type.hi,.AV f.type.Bo,iD f.type.unit,Xg f.type.names],.agg [iD f.w0,iD f.w1,iD f.w2,iD f.w3]]:=λ_=>rfl;by_cases m:s<0
 ·simp[rJ,m];grind[Vz]
 by_cases u:(y.AB.length:Int)<=s
 ·simp[rJ,l,Xg,m,u];have H:y.AB[s.toNat]? = none:=dX (by omega);exact b (by unfold Vz;rw[H];simp)
 obtain⟨i,rfl⟩:∃i:Nat,s=i:=⟨s.toNat,by omega⟩
 have j:i<y.AB.length:=by omega
 have v:¬(i:Int)<0:=by omega
 have w:¬(y.AB.length:Int)<=i:=by omega
 have Q:=O y.AB[i];have F:y.AB[i].AL.length<=9223372036854775807:=(p.Am _ (DS j)).AL;have z:Vz y i=(Js y i 0 y.AB[i].AL&&(match y.AB[i].AL[0]? with|none=>false|some f=>decide (f.type.kind=3))):=by
  simp[Vz,EW j]
 rw[z]at h b;simp[rJ,l,Xg,j,Q,v,w];generalize y.AB[i].AL=a at h b F;refine EK a.length (λk=>[(1,.d (.int .i64 i)),(2,.ptr 0 []),(5,.d (.AH 11 (a.map Ak.enc))),(23,.d (.AH 11 (a.map Ak.enc))),(24,.d (.int .i64 a.length)),(25,.d (.int .i64 k))])
  (λ_=>[(0,.box 30 (.d y.enc))]) (λk=>Js y i 0 a=Js y i k (a.drop k)) (by simp) (by simp) (by simp[l,Xg]) ?_ ?_
 ·intro k o g R L q t N;have T:=w_s k (by omega);have G:Js y i 0 a=(PT y i k a[k].type.lo&&Js y i (k+1) (a.drop (k+1))):=by rw[g,EV o,Js]
  have x:=n a[k];simp[wF,o,x,Xg,U];refine⟨rfl,Yu0 hP p ?_⟩;cases W:PT y i k a[k].type.lo with
  |false=>
   simp;refine t _ _ ?_;simp_all
  |true=>
   simp;refine L [] _ _ (by simp_all) (by simp[T]) (by simp ) (by simp ) (by simp )
 ·intro g R q t N;simp[wF];refine q _ _ _ ?_;rw[g,GN,Js,Fc]at h
  match a,h with
  |[],h=>simpa using h
  |f::r,h=>
   simp[n f];simp_all<;>omega
omit hP
def Hn(n:Nat)(l:List Int):List D:=(List.range n).map λ(i:Nat)=>D.bool (decide ((i:Int)∈l))
def Xsc(n:Nat):Hn n []=List.replicate n (.bool false):=by
 apply RD<;>simp[Hn]
def Yc1(n:Nat)(l:List Int):(Hn n l).length=n:=by simp[Hn]
def Yma(n:Nat)(l:List Int)(i:Nat)(h:i<(Hn n l).length):(Hn n l)[i]=.bool (decide ((i:Int)∈l)):=by simp[Hn]
def Xsd(n:Nat)(l:List Int)(i:Nat)(h:i<n):(Hn n l).set i (.bool true)=Hn n (l++[(i:Int)]):=by
 apply RD
 ·simp[Hn]
 grind[Hn,List.length_set,List.length_map,List.length_range]
def I3(c d:List Ak)(m:BD):Bool:=
 decide (1<=m.a)&&decide (m.a<c.length)&&decide (1<=m.b)&&decide (m.b<d.length)&&
 (match c[m.a.toNat]?,d[m.b.toNat]? with|some x,some z=>OI x.type z.type m.shift|_,_=>false)
def Vj(y:Al)(s:Int):List Ak:=match y.AB[s.toNat]? with|some c=>c.AL|none=>[]
def Iz(y:Al)(c:Ai):Bool:=
 decide (c.a≠c.b)&&Vz y c.a&&Vz y c.b&&decide ((c.Ag.length:Int)=(Vj y c.a).length-1)&&decide ((c.Ag.length:Int)=(Vj y c.b).length-1)&&
 c.Ag.all (I3 (Vj y c.a) (Vj y c.b))&&decide (c.Ag.map BD.a).Nodup&&decide (c.Ag.map BD.b).Nodup
def Xlt{l:List Int}{k:Nat}(a:k<l.length)(h:l.Nodup):l[k]∉l.take k:=by
 grind[List.take_append_drop,List.nodup_append,List.take_succ_eq_append_getElem]
include hP
set_option maxHeartbeats 2000000 in
theorem Ykm{y:Al}(hy:y.BJ)(hf:∀s∈y.AB,s.AL.length<=1000000){c:Ai}(hc:c.Ag.length<=9223372036854775807){ob:AE}{K:V->Prop}(h:K (.d (.bool (Iz y c)))):AW P 127 [.d y.enc,.d c.enc] ob K:=by
 refine AK hP AT (ds:=[y.enc,c.enc]) Zjr.1 Zjr.2 A6.nil ?_;have q:Iz y c=false->K (.d (.bool false)):=λe=>by rw[e]at h;exact h
 have yz:y.enc.shape.size=6:=by rfl
 have yI:y.enc=.agg [Xg y.AR,.AH 5 (y.Ac.map Ax.enc),.AH 6 (y.AB.map AM.enc),.AH 5 (y.AP.map Ap.enc),.AH 5 (y.AJ.map Ai.enc),.AH 3 (y.AI.map AZ.enc)]:=rfl;have se:∀c:AM,c.enc=.agg [.AV c.name,.AV c.Dy,iD c.CN,iD c.BL,.AH 11 (c.AL.map Ak.enc),.AH 4 (c.AU.map Av.enc)]:=λ_=>rfl;have fe:∀f:Ak,f.enc=.agg [.AV f.name,.agg [iD f.type.kind,iD f.type.lo,iD f.type.hi,.AV f.type.Bo,iD f.type.unit,Xg f.type.names],.agg [iD f.w0,iD f.w1,iD f.w2,iD f.w3]]:=λ_=>rfl;by_cases b1:c.a=c.b
 ·simp[Y0p,Ai.enc,yz,b1];simp_all[Iz]
 have X:(c.a==c.b)=false:=by simpa using b1
 simp[Y0p,Ai.enc,yz,X];have yk:(V.d y.enc).Bk=some [.d (Xg y.AR),.d (.AH 5 (y.Ac.map Ax.enc)),.d (.AH 6 (y.AB.map AM.enc)),.d (.AH 5 (y.AP.map Ap.enc)),.d (.AH 5 (y.AJ.map Ai.enc)),.d (.AH 3 (y.AI.map AZ.enc))]:=rfl;refine⟨rfl,xC hP hy ?_⟩;cases pa:Vz y c.a with
 |false=>
  simp;simp_all[Iz]
 |true=>
  simp;refine⟨rfl,xC hP hy ?_⟩;cases pb:Vz y c.b with
  |false=>
   simp;simp_all[Iz]
  |true=>
   have hA:∃i:Nat,c.a=i/\∃W:i<y.AB.length,True:=by
    unfold Vz at pa;grind
   have Z:∃i:Nat,c.b=i/\∃W:i<y.AB.length,True:=by
    unfold Vz at pb;grind
   obtain⟨i,ei,W,_⟩:=hA;obtain⟨j,ej,hj,_⟩:=Z;have si:=se y.AB[i];have sj:=se y.AB[j];have fA:Vj y c.a=y.AB[i].AL:=by grind[Vj,List.getElem?_eq_getElem]
   have fB:Vj y c.b=y.AB[j].AL:=by grind[Vj,List.getElem?_eq_getElem]
   have hB:Iz y c=(decide ((c.Ag.length:Int)=y.AB[i].AL.length-1)&&decide ((c.Ag.length:Int)=y.AB[j].AL.length-1)&&
    c.Ag.all (I3 y.AB[i].AL y.AB[j].AL)&&decide (c.Ag.map BD.a).Nodup&&decide (c.Ag.map BD.b).Nodup):=by
    simp_all[Iz]
   rw[hB]at h q;have la:=hf _ (DS W);have lb:=hf _ (DS hj);have wa:IntKind.i64.wrap ((y.AB[i].AL.length:Int)-1)=(y.AB[i].AL.length:Int)-1:=w_i _ (by omega);have wb:IntKind.i64.wrap ((y.AB[j].AL.length:Int)-1)=(y.AB[j].AL.length:Int)-1:=w_i _ (by omega);simp[yk,ei,ej,W,hj,si,sj,wa,wb]
   try (refine⟨rfl,?_⟩)
   refine⟨λaf=>q ?_,λna nb=>?_⟩
   ·grind
   have aa:Iz y c=(c.Ag.all (I3 y.AB[i].AL y.AB[j].AL)&&decide (c.Ag.map BD.a).Nodup&&decide (c.Ag.map BD.b).Nodup):=by
    simp_all
   rw[<-hB,aa]at h q;generalize ad:y.AB[i].AL=g at *;generalize ae:y.AB[j].AL=l at *;have me:∀m:BD,m.enc=.agg [.AV m.B1,.AV m.Aq,iD m.b,iD m.a,iD m.shift]:=λ_=>rfl;refine⟨⟨by omega,by omega,EK c.Ag.length (λk=>[(5,.d (.AH 11 (g.map Ak.enc))),(6,.d (.AH 11 (l.map Ak.enc))),(7,.sl 2 g.length),(8,.sl 3 l.length),(67,.d (.AH 5 (c.Ag.map BD.enc))),(68,.d (.int .i64 c.Ag.length)),(69,.d (.int .i64 k))]) (λk=>[(3,.BO 4 1 (Hn l.length ((c.Ag.map BD.b).take k))),(2,.BO 4 1 (Hn g.length ((c.Ag.map BD.a).take k))),(1,.box 80 (.d (.agg [.AV c.Aq,.AV c.B1,iD i,iD j,.AH 5 (c.Ag.map BD.enc)]))),(0,.box 30 (.d y.enc))]) (λk=>(c.Ag.take k).all (I3 g l)=true/\((c.Ag.map BD.a).take k).Nodup/\((c.Ag.map BD.b).take k).Nodup) (by simp) (by simp) (by simp[Xsc]) ?a1 ?a2⟩,by omega,by omega,EK c.Ag.length (λk=>[(5,.d (.AH 11 (g.map Ak.enc))),(6,.d (.AH 11 (l.map Ak.enc))),(7,.sl 3 g.length),(8,.sl 2 l.length),(67,.d (.AH 5 (c.Ag.map BD.enc))),(68,.d (.int .i64 c.Ag.length)),(69,.d (.int .i64 k))]) (λk=>[(3,.BO 4 1 (Hn g.length ((c.Ag.map BD.a).take k))),(2,.BO 4 1 (Hn l.length ((c.Ag.map BD.b).take k))),(1,.box 80 (.d (.agg [.AV c.Aq,.AV c.B1,iD i,iD j,.AH 5 (c.Ag.map BD.enc)]))),(0,.box 30 (.d y.enc))]) (λk=>(c.Ag.take k).all (I3 g l)=true/\((c.Ag.map BD.a).take k).Nodup/\((c.Ag.map BD.b).take k).Nodup) (by simp) (by simp) (by simp[Xsc]) ?b1 ?b2⟩
   case a1|b1=>
    intro k v F R rn re w rp;have wr:=w_s k (by omega);have O:=Vg (p:=I3 g l) v;rw[F.1,Fc]at O;have J:k<(c.Ag.map BD.a).length:=by simpa using v
    have L:k<(c.Ag.map BD.b).length:=by simpa using v
    have ta:=F0 J;have tb:=F0 L;have o:I3 g l c.Ag[k]=false->K (.d (.bool false)):=λe=>q (by
     grind)
    have r:c.Ag[k].a∈(c.Ag.map BD.a).take k->K (.d (.bool false)):=λe=>q (by
     have:¬(c.Ag.map BD.a).Nodup:=λhn=>Xlt J hn (by simpa using e);simp_all)
    have t:c.Ag[k].b∈(c.Ag.map BD.b).take k->K (.d (.bool false)):=λe=>q (by
     have:¬(c.Ag.map BD.b).Nodup:=λhn=>Xlt L hn (by simpa using e);simp_all)
    simp only[List.getElem_map]at ta tb;have T:=me c.Ag[k];generalize N:c.Ag[k]=m at *;by_cases U:m.a<1
    ·simp[Rj,v,N,T,U];refine w _ _ ?_;exact o (by grind[I3])
    by_cases Y:(g.length:Int)<=m.a
    ·simp[Rj,v,N,T,U,Y];refine w _ _ ?_;exact o (by grind[I3])
    by_cases d3:m.b<1
    ·simp[Rj,v,N,T,U,Y,d3];refine w _ _ ?_;exact o (by grind[I3])
    by_cases d4:(l.length:Int)<=m.b
    ·simp[Rj,v,N,T,U,Y,d3,d4];refine w _ _ ?_;exact o (by grind[I3])
    obtain⟨a,G⟩:∃a:Nat,m.a=a:=⟨m.a.toNat,by omega⟩
    obtain⟨b,H⟩:∃b:Nat,m.b=b:=⟨m.b.toNat,by omega⟩
    have ha:a<g.length:=by omega
    have hb:b<l.length:=by omega
    have sa:=Xsd g.length ((c.Ag.map BD.a).take k) a ha;have sb:=Xsd l.length ((c.Ag.map BD.b).take k) b hb;have xa:=fe g[a];have xb:=fe l[b];have e1:¬(a:Int)<1:=by omega
    have e2:¬(b:Int)<1:=by omega
    have e3:¬(g.length:Int)<=a:=by omega
    have e4:¬(l.length:Int)<=b:=by omega
    rw[G]at r;rw[H]at t;simp[Rj,v,N,T,G,H,e1,e2,e3,e4,ha,hb,Yma,sa,sb,Yc1,xa,xb,Xg];refine⟨λhh=>?_,λma mb=>?_⟩
    ·refine w _ _ ?_;exact hh.elim r t
    ·refine Y1k hP (a:=g[a].type) (b:=l[b].type) (n:=m.shift) ?_;have eM:I3 g l m=OI g[a].type l[b].type m.shift:=by
      have u1:(1:Int)<=a:=by omega
      have u2:(1:Int)<=b:=by omega
      simp[I3,G,H,ha,hb,u1,u2]
     cases u:OI g[a].type l[b].type m.shift with
     |false=>
      simp;refine w _ _ ?_;exact o (by rw[eM,u])
     |true=>
      simp;refine rn [] _ _ ⟨by rw[O,eM,u],?_,?_⟩ (by simp[wr]) ?_ (by simp ) (by simp )
      ·rw[ta,G,Io];refine⟨F.2.1,by simp,λx hx z Q=>?_⟩;simp at Q;subst Q;exact λe=>ma (e▸hx)
      ·rw[tb,H,Io];refine⟨F.2.2,by simp,λx hx z Q=>?_⟩;simp at Q;subst Q;exact λe=>mb (e▸hx)
      ·rw[ta,tb,G,H];simp 
   case a2|b2=>
    intro F R re w rp;simp only[HI]at F;have ab:(c.Ag.map BD.a).take c.Ag.length=c.Ag.map BD.a:=QZ (by simp);have ac:(c.Ag.map BD.b).take c.Ag.length=c.Ag.map BD.b:=QZ (by simp);rw[ab,ac]at F;simp[Rj];refine re _ _ _ ?_;simp;simp_all
theorem Yko{y:Al}(f:y.BJ)(n:∀s∈y.AB,s.AL.length<=1000000){o:AE}{K:V->Prop}(h:K (.d (iD (if y.AJ.all (Iz y) then 0 else 150)))):AW P 45 [.d y.enc] o K:=by
 refine AK hP AT (ds:=[y.enc]) Z06.1 Z06.2 A6.nil ?_;have x:y.enc=.agg [Xg y.AR,.AH 5 (y.Ac.map Ax.enc),.AH 6 (y.AB.map AM.enc),.AH 5 (y.AP.map Ap.enc),.AH 5 (y.AJ.map Ai.enc),.AH 3 (y.AI.map AZ.enc)]:=rfl;have v:y.enc.shape.size=6:=by rfl
 have u:(V.d y.enc).Bk=some [.d (Xg y.AR),.d (.AH 5 (y.Ac.map Ax.enc)),.d (.AH 6 (y.AB.map AM.enc)),.d (.AH 5 (y.AP.map Ap.enc)),.d (.AH 5 (y.AJ.map Ai.enc)),.d (.AH 3 (y.AI.map AZ.enc))]:=rfl;have w:=f.AJ;simp[Zvn,u]
 try (refine⟨rfl,?_⟩)
 refine EK y.AJ.length (λk=>[(1,.ptr 0 []),(6,.d (.AH 5 (y.AJ.map Ai.enc))),(7,.d (.int .i64 y.AJ.length)),(8,.d (.int .i64 k))])
  (λ_=>[(0,.box 30 (.d y.enc))]) (λk=>(y.AJ.take k).all (Iz y)=true) (by simp) (by simp) (by simp) ?_ ?_
 ·intro k e b R q g i r;have t:=w_s k (by omega);have a:=Vg (p:=Iz y) e;rw[b,Fc]at a;have l:∀c:Ai,c.enc.sz=5:=λc=>rfl;have j:∀c:Ai,c.enc.shape=.node [.leaf,.leaf,.leaf,.leaf,.leaf]:=λ_=>rfl;simp[y9,e,l,j,v];refine⟨rfl,rfl,rfl,rfl,Ykm hP f n (f.Ag _ (DS e)) ?_⟩;cases m:Iz y y.AJ[k]with
  |false=>
   simp;refine i _ _ ?_;simp;grind
  |true=>
   simp;refine q [] _ _ (by rw[a,m]) (by simp[t]) (by simp ) (by simp ) (by simp )
 ·intro b R g i r;rw[HI]at b;simp[y9];refine g _ _ _ ?_;simp;rw[b]at h;exact h
omit hP
abbrev Ze:D:=.agg [.agg [.Ah,.Ah,.Ah,.Ah,.Ah,.Ah],.Ah]
def Zd0(y:Al):Int:=if y.AJ.all (Iz y) then 0 else 150
def J9(y:Al)(e:Int)(o:Option (List Int)):List Int:=[aH y,Kv y,Ru y,Jq y e o,Zd0 y]
def N5:List Int->Int
|[]=>0
|x::r=>if x=0 then N5 r else x
def Mt(y:Al)(e:Int)(o:Option (List Int)):Int:=N5 (J9 y e o)
theorem Xil:∀(l:List Int)(k:Nat)(h:k<l.length),(∀x∈l.take k,x=0)->l[k]≠0->N5 l=l[k]
|x::r,0,_,_,h=>by simp_all[List.getElem_cons_zero,N5,A5]
|x::r,k+1,b,a,h=>by
 have c:=a x (by simp);rw[N5,Bv c];exact Xil r k (by simpa using b) (λz d=>a z (by simp[d])) h
def Xim:∀(l:List Int),(∀x∈l,x=0)->N5 l=0
|[],_=>rfl
|x::r,h=>by rw[N5,Bv (h x (by simp))];exact Xim r (λz a=>h z (by simp[a]))
def UC:List Nat:=[41,42,43,44,45]
theorem X98:UC.all (Xd prog)=true:=by kernel_rfl
include hP
theorem jT{y:Al}(g:y.BJ)(G:y.CB){e:Int}{o:Option (List Int)}(u:Gu P y e o){f:AE}{K:V->Prop}(O:Mt y e o≠0->K (.BU [.d Ze,.d (iD (Mt y e o))]))(Q:Mt y e o=0->∀d,D.le d (L6 o)->K (.BU [.d (.agg [y.enc,d]),.d (iD 0)])):AW P 11 [.d y.enc] f K:=by
 refine AK hP AT (ds:=[y.enc]) Z0g.1 Z0g.2 A6.nil ?_;have L:y.enc.shape.size=6:=by rfl
 have yz:y.enc.sz=6:=rfl;have step:∀(k:Nat)(b:k<5)(f:AE)(K:V->Prop),K (.d (iD ((J9 y e o)[k]'b)))->AW P (UC[k]'b) [.d y.enc] f K:=λk b f K h=>by
  match k,b,h with
  |0,_,h=>exact X42 hP g G h
  |1,_,h=>exact xE hP g h
  |2,_,h=>exact Xqx hP g h
  |3,_,h=>exact X91 hP g u h
  |4,_,h=>exact Yko hP g G.AL h
 have m:∀(k:Nat)(b:k<5),Xd P.p (UC[k]'b)=true:=λk b=>by
  grind[List.all_eq_true,X98,List.getElem_mem]
 simp[Zu0];have w1:IntKind.i64.wrap 1=1:=w_i _ (by omega);have w2:IntKind.i64.wrap 2=2:=w_i _ (by omega);have w3:IntKind.i64.wrap 3=3:=w_i _ (by omega);have w4:IntKind.i64.wrap 4=4:=w_i _ (by omega);have w5:IntKind.i64.wrap 5=5:=w_i _ (by omega);have F:(J9 y e o).length=5:=rfl;refine Aw.go (ι:=Nat) (λk=>[(1,.ptr 0 []),(2,.ptr 1 []),(11,.d (.agg [.fn 41 [] [],.fn 42 [] [],.fn 43 [] [],.fn 44 [] [],.fn 45 [] []])),(12,.d (.int .i64 k))])
  (λ_=>[(2,.box 113 (.agg [.fn 41 [] [],.fn 42 [] [],.fn 43 [] [],.fn 44 [] [],.fn 45 [] []])),(1,.box 37 (.d Ze)),(0,.box 30 (.d y.enc))]) (λk=>k<=5/\∀x∈(J9 y e o).take k,x=0) (λk=>5-k) 0 ⟨FL _,by simp⟩ (by simp) rfl ?_
 rintro k ⟨b,T⟩ R Z Y rr rp;by_cases a:k<5
 ·have wr:=w_s k (by omega);have J:=step k a;have v:=m k a;have H:∀z,z=(J9 y e o)[k]'a->z=0->∀x∈(J9 y e o).take (k+1),x=0:=λz c O x hx=>by
   grind[List.take_succ_eq_append_getElem,List.mem_singleton]
  have s:∀z,z=(J9 y e o)[k]'a->z≠0->K (.BU [.d Ze,.d (.int .i64 z)]):=λz c U=>by
   grind[Xil,J9,Mt]
  have n:k=0\/k=1\/k=2\/k=3\/k=4:=by omega
  obtain⟨z,c⟩:∃z,z=(J9 y e o)[k]'a:=⟨_,rfl⟩
  have i:∀f K,K (.d (.int .i64 z))->AW P (UC[k]'a) [.d y.enc] f K:=λf K h=>J f K (by rw[<-c];exact h);have r:=H z c;have l:=s z c;clear J H s;rcases n with rfl|rfl|rfl|rfl|rfl
  all_goals
   simp[UC]at i v;simp[yW,L,v];refine⟨⟨rfl,rfl,rfl,rfl,rfl⟩,rfl,(i _ _ ?_).Cc⟩;by_cases j:z=0
   ·simp[j,w1,w2,w3,w4,w5];exact Z [] _ _ _ ⟨by omega,r j⟩ (by omega) (by simp) (by simp[AF]) (by simp[AF]) (by simp)
   ·simp[j];refine rr _ _ ?_;simpa using l j
 ·obtain rfl:k=5:=by omega
  have c:∀x∈J9 y e o,x=0:=T;have q:Mt y e o=0:=Xim _ c;have W:Jq y e o=0:=c _ (by simp[J9]);have X:Kp y e o=0:=by
   grind[Jq]
  have N:e=0:=by
   grind[Kp]
  simp[yW];refine Y _ _ _ ?_;simp[L,yz];refine⟨rfl,u.call _ _ λd w=>?_⟩;have t:d.shape=.leaf:=by
   have:=Jk w;cases o<;>exact this
  have yh:y.enc.shape=.node [.leaf,.leaf,.leaf,.leaf,.leaf,.leaf]:=rfl;have b:=Q q d w;simp[N,t,yh,GV,Cb,HM,D.shape,D.BN];exact⟨rfl,b⟩
omit hP
def Ph(l:List Int)(x:Int):List Int:=if x∈l then l else l++[x]
abbrev Gr:=List (Int×List Int)
def FF(g:Gr)(h:Int):Option Nat:=g.findIdx? (λx=>decide (x.1=h))
def Ek(c:Nat)(g:Gr):Nat->List (D×V)
|0=>[]
|k+1=>match g[k]? with
 |none=>Ek c g k
 |some x=>Ek c g k++[(.int .i64 x.1,.mp (c+2*k))]
def EB(c:Nat)(g:Gr):Nat->AE
|0=>[]
|k+1=>match g[k]? with
 |none=>EB c g k
 |some x=>(c+2*k,.map (D3 x.2))::EB c g k
def Yy9(l:List Int)(x:Int):E6 (.int .i64 x) (V.d (.bool true)) (D3 l)=D3 (Ph l x):=by
 unfold Ph;by_cases h:x∈l
 ·rw[Bv h];induction l with
  |nil=>cases h
  |cons y r a=>
   unfold D3 at a⊢;simp only[Dj,E6];by_cases e:x=y
   ·subst e;simp[Ds]
   ·have b:x∈r:=by
     rcases Fb.1 h with h|h
     ·exact absurd h e
     ·exact h
    have c:Ds (.int .i64 x) (.int .i64 y)=false:=by simp[Ds,e]
    rw[c];simp[a b]
 ·rw[A5 h,U4 _ _ _ (by rw[TV,A5 h]),D3,D3,Mh];rfl
def R8(c:Nat)(g:Gr):∀(k j:Nat),j<c\/c+2*k<=j->AD (EB c g k) j=none
|0,_,_=>rfl
|k+1,j,h=>by
 have a:=R8 c g k j (by omega);rw[EB];split
 ·exact a
 ·rw[AD,A5 (by omega),a]
def YQ(c:Nat)(g:Gr):∀(k i:Nat)(h:i<g.length),i<k->AD (EB c g k) (c+2*i)=some (.map (D3 g[i].2))
|0,_,_,h=>absurd h (by omega)
|k+1,i,a,h=>by
 rw[EB];by_cases e:i=k
 ·subst e;rw[EW a];simp[AD]
 ·have b:=YQ c g k i a (by omega);split
  ·exact b
  ·rw[AD,A5 (by omega),b]
def Ybh(c:Nat)(g:Gr)(v:List Int):∀(k i:Nat)(h:i<g.length),AG (EB c g k) (c+2*i) (.map (D3 v))=EB c (g.set i (g[i].1,v)) k
|0,_,_=>rfl
|k+1,i,a=>by
 have d:=Ybh c g v k i a;rw[EB,EB];by_cases e:i=k
 ·subst e;rw[EW a,List.getElem?_set_self a];simp only[AG,CP];have f:∀(m:Nat),m<=i->EB c (g.set i (g[i].1,v)) m=EB c g m:=λm=>by
   induction m with
   |zero=>intro _;rfl
   |succ m b=>
    intro j;rw[EB,EB,List.getElem?_set_ne (by omega),b (by omega)]
  rw[f i (B9 _)]
 ·rw[List.getElem?_set_ne e];cases g[k]? with
  |none=>exact d
  |some x=>
   have:¬c+2*k=c+2*i:=by omega
   simp only[AG,A5 this,d]
def wQ(c:Nat)(g:Gr)(x:Int):∀k,k<=g.length->Zo (.int .i64 x) (Ek c g k)=(FF (g.take k) x).map λi=>V.mp (c+2*i)
|0,_=>by simp[Ek,Zo,FF]
|k+1,d=>by
 have j:=wQ c g x k (by omega);have a:k<g.length:=d;rw[Ek,EW a,F0 a];simp only;rw[eW,j];unfold FF;rw[List.findIdx?_append];have f:(g.take k).length=k:=by simp;omega
 cases List.findIdx? (λy=>decide (y.1=x)) (g.take k) with
 |some i=>simp
 |none=>
  by_cases e:g[k].1=x
  ·simp[e,Ds,f]
  ·have b:¬x=g[k].1:=λh=>e h.symm;simp[e,b,Ds]
def YP(c:Nat)(g:Gr)(x:Int):∀k,Ux (.int .i64 0) (.int .i64 x) (Ek c g k)
|0=>⟨rfl,λe a=>by cases a⟩
|k+1=>by
 have b:=YP c g x k;rw[Ek];split
 ·exact b
 ·refine⟨b.1,λe a=>?_⟩;rw[FM]at a;rcases a with a|a
  ·exact b.2 e a
  ·simp only[O6]at a;subst a;rfl
def Ybf(c:Nat)(g:Gr)(v:List Int)(i:Nat)(a:i<g.length):∀k,Ek c (g.set i (g[i].1,v)) k=Ek c g k
|0=>rfl
|k+1=>by
 have b:=Ybf c g v i a k;rw[Ek,Ek,b];by_cases e:i=k
 ·subst e;rw[List.getElem?_set_self a,EW a]
 ·rw[List.getElem?_set_ne e]
theorem Xrw(c:Nat)(g:Gr):∀k,k<=g.length->AA (EB c g k)=if k=0 then 0 else c+2*k-1
|0,_=>rfl
|k+1,b=>by
 have d:=Xrw c g k (by omega);have a:k<g.length:=b;rw[EB,EW a];simp only[AA,d];split<;>simp<;>omega
theorem Xrx(p:Nat->Bool)(c:Nat)(g:Gr):∀k,AN p (EB c g k)=true
|0=>rfl
|k+1=>by
 have a:=Xrx p c g k;rw[EB];split
 ·exact a
 ·simp[AN,Tp,a]
include hP
theorem Xk0{n x:Int}{m:Nat}{a:AE}(f:m<AA a){K:BQ->AE->Prop}(h:K (.ret (.d (.bool (decide (0<=x)&&decide (x<n))))) a):Aa P 191 [.agg [.d (.int .i64 n),.mp m],.d (.int .i64 x)] a K:=by
 refine Xv hP AT Zld.1 Zld.2 A6.nil λ_ b=>?_;simp[Zcw];have e:AF (AA a) [] (AA a)=true:=by simp[AF]
 have c:Xo (AF (AA a) []) ((AA a,Ob.box 238 (V.agg [V.d (D.int IntKind.i64 n),V.mp m]))::a)=a:=by
  rw[Xo,Bv e,Xl (B9 _)]
 exact⟨[],by simp,by rw[c];exact b [],by rw[c];exact h⟩
omit hP
def I9(l:List Int)(i j:Nat):List Int:=(l.set i (l.getD j 0)).set j (l.getD i 0)
theorem Jh{l:List Int}{i:Nat}(h:i<l.length):l.getD i 0=l[i]:=by simp_all
theorem W0(l:List Int)(i j:Nat):(I9 l i j).length=l.length:=by simp[I9]
theorem eh{l:List Int}{i j:Nat}(a:i<l.length)(b:j<l.length):(I9 l i j).Perm l:=by
 grind[I9,Jh]
def H6(l:List Int)(j:Nat):List Int:=
 if _h:j=0 then l else if l.getD j 0<l.getD ((j-1) / 2) 0 then H6 (I9 l ((j-1) / 2) j) ((j-1) / 2) else l
termination_by j
decreasing_by omega
def K5(l:List Int)(n i:Nat):Nat:=if 2*i+2<n/\l.getD (2*i+2) 0<l.getD (2*i+1) 0 then 2*i+2 else 2*i+1
theorem ZV(l:List Int)(n i:Nat):i<K5 l n i:=by unfold K5;split<;>omega
theorem jk{l:List Int}{n i:Nat}(h:2*i+1<n):K5 l n i<n:=by unfold K5;split<;>omega
def IJ(l:List Int)(n i:Nat):List Int:=
 if _h:n<=2*i+1 then l else if l.getD (K5 l n i) 0<l.getD i 0 then IJ (I9 l i (K5 l n i)) n (K5 l n i) else l
termination_by n-i
decreasing_by grind[ZV,jk]
def Yzi(l:List Int)(j:Nat):(H6 l j).length=l.length:=by
 induction j using Nat.strongRecOn generalizing l with
 |ind j a=>
  grind[H6,W0]
def Yne(l:List Int)(j:Nat)(a:j<l.length):(H6 l j).Perm l:=by
 induction j using Nat.strongRecOn generalizing l with
 |ind j b=>
  grind[H6,W0,eh]
def Yar(l:List Int)(n:Nat):∀(k i:Nat),n-i<=k->(IJ l n i).length=l.length:=λk=>by
 induction k generalizing l with
 |zero=>intro i h;rw[IJ,dif_pos (by omega)]
 |succ k a=>
  grind[IJ,ZV,W0]
def X5g(l:List Int)(n:Nat)(c:n<=l.length):∀(k i:Nat),n-i<=k->(IJ l n i).Perm l:=λk=>by
 induction k generalizing l with
 |zero=>intro i h;rw[IJ,dif_pos (by omega)]
 |succ k d=>
  intro i h;rw[IJ];split
  ·exact List.Perm.refl _
  ·split
   ·have a:=ZV l n i;have b:=jk (l:=l) (n:=n) (i:=i) (by omega);grind[W0,eh]
   simp
def IQ(l:List Int)(x:Int):List Int:=H6 (l++[x]) l.length
def L7(l:List Int):List Int:=IJ (I9 l 0 (l.length-1)) (l.length-1) 0
def Gf(l:List Int):Int:=(L7 l).getD (l.length-1) 0
def Hh(l:List Int):List Int:=(L7 l).take (l.length-1)
theorem Q4(l:List Int)(x:Int):(IQ l x).Perm (x::l):=(Yne _ _ (by simp)).trans (List.perm_append_singleton x l)
theorem ff(l:List Int)(x:Int):(IQ l x).length=l.length+1:=by rw[IQ,Yzi];simp
theorem ZH(l:List Int):(L7 l).length=l.length:=by rw[L7,Yar _ _ _ _ (B9 _),W0]
def Ymr(l:List Int):(Hh l).length=l.length-1:=by rw[Hh,Mf,ZH];omega
def Yms{l:List Int}(h:l≠[]):(Gf l::Hh l).Perm l:=by
 have d:0<l.length:=S6.2 h;have b:(L7 l).Perm l:=(X5g _ _ (by rw[W0];omega) _ _ (B9 _)).trans (eh (by omega) (by omega));have c:L7 l=Hh l++[Gf l]:=by
  have a:l.length-1<(L7 l).length:=by rw[ZH];omega
  have e:=F0 a;grind[L7,ZH,Hh,Gf,Jh]
 grind
section
variable (need:Int->List Int) (n:Nat)
def Dt(k:Nat)(x:Int):List Int:=((List.range k).filter λ(h:Nat)=>decide (x∈need (h:Int))).map λ(h:Nat)=>(h:Int)
def QA:List Int:=(List.range n).map λ(x:Nat)=>((need (x:Int)).length:Int)
def qK(k:Nat):List Int:=(List.range k).foldl (λq (x:Nat)=>if (need (x:Int)).length=0 then IQ q (x:Int) else q) []
end
abbrev O1:=List Int×List Int×List Int
def KP(a:List Int×List Int)(u:Int):List Int×List Int:=(a.1.set u.toNat (a.1.getD u.toNat 0-1),if a.1.getD u.toNat 0-1=0 then IQ a.2 u else a.2)
def UW(b:Int->List Int)(a:O1):O1:=
 (((b (Gf a.2.1)).foldl KP (a.1,Hh a.2.1)).1,((b (Gf a.2.1)).foldl KP (a.1,Hh a.2.1)).2,a.2.2++[Gf a.2.1])
def PV(b:Int->List Int):Nat->O1->List Int
|0,a=>a.2.2
|k+1,a=>if a.2.1=[] then a.2.2 else PV b k (UW b a)
def MA(a:Int->List Int)(n:Nat):O1:=(QA a n,qK a n,[])
def Zm(a:Int->List Int)(n:Nat):List Int:=PV (Dt a n) (n+1) (MA a n)
def Lu(l a:List Int):Nat:=(l.filter λy=>decide (y∉a)).length
structure HB(need:Int->List Int)(n:Nat)(Ng:List Int)(op q C3:List Int):Prop where
 len:op.length=n
 nd:(C3++q).Nodup
 rg:∀v∈C3++q,0<=v/\v<n
 cnt:∀v:Nat,v<n->op.getD v 0=Lu (need v) C3+(if (v:Int)∈Ng then 1 else 0)
 dF:∀v:Nat,v<n->(op.getD v 0=0↔(v:Int)∈C3++q)
 QF:∀i (h:i<C3.length),∀x∈need C3[i],x∈C3.take i
section
variable {need:Int->List Int} {n:Nat}
theorem qN{k:Nat}{x u:Int}:u∈Dt need k x↔∃h:Nat,h<k/\x∈need h/\u=h:=by
 grind[Dt]
def xV(k:Nat)(x:Int):(Dt need k x).Nodup:=by
 unfold Dt;rw[List.Nodup,List.pairwise_map];exact(List.Pairwise.filter _ List.nodup_range).imp λh e=>h (by omega)
theorem Ylz{l a:List Int}{x:Int}(b:l.Nodup)(c:x∉a):Lu l a=Lu l (a++[x])+(if x∈l then 1 else 0):=by
 induction l with
 |nil=>simp[Lu]
 |cons y r d=>
  grind[Lu]
def Yhr{c d q b:List Int}{u:Int}(g:0<=u)(y:u<n)(x:u∉c)(h:HB need n (u::c) d q b):HB need n c (KP (d,q) u).1 (KP (d,q) u).2 b:=by
 obtain⟨m,rfl⟩:=RF g;have k:m<n:=by omega
 have o:=h.cnt m k;simp only[Fb,true_or,CP]at o;have s:(m:Int)∉b++q:=λp=>by
  have:=(h.dF m k).2 p;omega
 have j:∀v:Nat,v<n->(d.set m (d.getD m 0-1)).getD v 0=if v=m then d.getD m 0-1 else d.getD v 0:=λv a=>by
  have w:=h.len;by_cases e:v=m
  ·simp_all
  grind
 have f:((m:Int)).toNat=m:=rfl;simp only[KP,f];refine⟨by simpa using h.len,?_,?_,λv a=>?_,λv a=>?_,h.QF⟩
 ·split
  ·have r:=(Q4 q m).append_left b;rw[r.nodup_iff];have l:(b++(m:Int)::q).Perm ((m:Int)::(b++q)):=List.perm_middle;rw[l.nodup_iff,List.nodup_cons];exact⟨s,h.nd⟩
  ·exact h.nd
 ·intro v a;split at a
  ·rw[FM,(Q4 q m).mem_iff,Fb]at a;rcases a with a|rfl|a
   ·exact h.rg v (List.mem_append_left _ a)
   ·omega
   ·exact h.rg v (List.mem_append_right _ a)
  ·exact h.rg v a
 ·rw[j v a];by_cases e:v=m
  ·simp_all
  ·rw[A5 e];have:=h.cnt v a;have i:¬(v:Int)=m:=by omega
   simpa[i]using this
 ·rw[j v a];by_cases e:v=m
  ·subst e;rw[Bv rfl];by_cases t:d.getD v 0-1=0
   ·grind[Q4]
   simp_all
  ·rw[A5 e,h.dF v a];have i:¬(v:Int)=m:=by omega
   split
   ·grind[Q4]
   ·exact Iff.rfl
def xT:∀{a d q b:List Int},(∀u∈a,0<=u/\u<n)->a.Nodup->HB need n a d q b->HB need n [] (a.foldl KP (d,q)).1 (a.foldl KP (d,q)).2 b
|[],_,_,_,_,_,h=>h
|u::r,d,q,b,e,g,h=>by
 have c:=List.nodup_cons.1 g;have f:=e u (by simp);rw[List.foldl_cons];exact xT (λv i=>e v (by simp[i])) c.2 (Yhr f.1 f.2 c.1 h)
def Yq9(y:∀h:Int,(need h).Nodup){l q a:List Int}(t:q≠[])(h:HB need n [] l q a):HB need n (Dt need n (Gf q)) l (Hh q) (a++[Gf q])/\0<=Gf q/\Gf q<n:=by
 have z:=Yms t;have b:((a++[Gf q])++Hh q).Perm (a++q):=by
  grind
 have k:Gf q∈a++q:=b.mem_iff.1 (by simp);have u:Gf q∉a:=λw=>by
  have:=b.nodup_iff.2 h.nd;grind
 have j:=h.rg _ k;refine⟨⟨h.len,b.nodup_iff.2 h.nd,λv f=>h.rg v (b.mem_iff.1 f),λv f=>?_,λv f=>?_,λi r x c=>?_⟩,j⟩
 ·have g:=h.cnt v f;grind[Ylz,Dt,Gf,qN]
 ·rw[h.dF v f,b.mem_iff]
 ·by_cases e:i<a.length
  ·rw[List.getElem_append_left e]at c;rw[vO (by omega)];exact h.QF i e x c
  ·have o:i=a.length:=by simp at r;omega
   subst o;rw[List.getElem_append_right (by omega)]at c;simp only[Nat.sub_self,List.getElem_cons_zero]at c;rw[List.take_left];obtain⟨m,s⟩:=RF j.1;have d:m<n:=by omega
   have g:=h.cnt m d;rw[(h.dF m d).2 (by rw[<-s];exact k)]at g;simp only[List.not_mem_nil,CR]at g;have p:Lu (need m) a=0:=by omega
   rw[Lu,RE,List.filter_eq_nil_iff]at p;grind
def Yyt(b:∀h:Int,(need h).Nodup){a:O1}(c:a.2.1≠[])(h:HB need n [] a.1 a.2.1 a.2.2):HB need n [] (UW (Dt need n) a).1 (UW (Dt need n) a).2.1 (UW (Dt need n) a).2.2:=by
 refine xT (λu d=>?_) (xV _ _) (Yq9 b c h).1;grind[qN]
def HB.Ib{b e q a:List Int}(h:HB need n b e q a):(a++q).length<=n:=by
 have c:(a++q) ⊆ (List.range n).map λ(x:Nat)=>(x:Int):=λv d=>by
  have:=h.rg v d;rw[E2];exact⟨v.toNat,by simp_all,by omega⟩
 have:=WW h.nd c;simpa using this
def Zao(k:Nat):(qK need k).Nodup/\∀v:Int,v∈qK need k↔∃x:Nat,x<k/\v=x/\(need x).length=0:=by
 induction k with
 |zero=>simp[qK]
 |succ k a=>
  have e:qK need (k+1)=if (need (k:Int)).length=0 then IQ (qK need k) (k:Int) else qK need k:=by
   simp[qK,List.range_succ]
  grind[Q4,qK]
def Zny:HB need n [] (MA need n).1 (MA need n).2.1 (MA need n).2.2:=by
 have b:=Zao (need:=need) n;have c:∀v:Nat,v<n->(QA need n).getD v 0=((need v).length:Int):=λv a=>by simp[QA,Nu,a]
 refine⟨by simp[MA,QA],by simpa[MA]using b.1,λv a=>?_,λv a=>?_,λv a=>?_,λi h=>?_⟩
 ·grind[MA]
 ·simp only[MA,List.not_mem_nil,CR];have e:Lu (need v) []=(need v).length:=by
   simp_all[Lu]
  simp_all
 ·grind[MA]
 ·simp[MA]at h
def Xsr(b:∀h:Int,(need h).Nodup):∀(k:Nat)(a:O1),HB need n [] a.1 a.2.1 a.2.2->∃d q,HB need n [] d q (PV (Dt need n) k a)
|0,a,h=>⟨_,_,h⟩
|k+1,a,h=>by
 rw[PV];split
 ·exact⟨_,_,h⟩
 next c=>exact Xsr b k _ (Yyt b c h)
def Ygc(b:∀h:Int,(need h).Nodup):(Zm need n).Nodup/\(∀v∈Zm need n,0<=v/\v<n)/\(Zm need n).length<=n/\∀i (h:i<(Zm need n).length),∀x∈need (Zm need n)[i],x∈(Zm need n).take i:=by
 obtain⟨d,q,h⟩:=Xsr (n:=n) b (n+1) _ Zny;have a:=h.Ib;rw[Dd]at a;refine⟨?_,λv c=>h.rg v (List.mem_append_left _ c),?_,h.QF⟩
 ·exact(Io.1 h.nd).1
 ·exact IE (Nat.le_add_right _ _) a
end
section
variable {P:BE} {sl:Xf} {ob:AE} {KO Pn:V->AE->Prop} {x y:A} {K:V->Prop}
@[simp]def iwp_isn(e m:Bool):I.wp P sl ob KO Pn (.JH e m x)=Iy ob e (λv=>KO v ob) m (x.ev sl):=by simp only[I.wp]
@[simp]def isnK_mp(e:Bool)(id:Nat):Iy ob e K true (.mp id)=SH e K (AD ob id):=by simp only[Iy]
@[simp]def isnK_nm(e:Bool):Iy ob e K true (.d .Cj)=K (.d (.bool e)):=by simp only[Iy]
@[simp]def isnM_s(e:Bool)(a:List (D×V)):SH e K (some (.map a))=K (.d (.bool !e)):=by simp only[SH]
end
def HT(g:Gr)(h:Int):Gr:=match FF g h with
|none=>g++[(h,[])]
|some _=>g
def Km(g:Gr)(h x:Int):Gr:=match FF g h with
|none=>g
|some i=>g.set i ((g.getD i (0,[])).1,Ph (g.getD i (0,[])).2 x)
def Iw(n h:Int):Gr->List At->Option Gr
|g,[]=>some g
|g,f::r=>if 0<=f.Am/\f.Am<n then Iw n h (Km g h f.Am) r else none
def K9(n:Int):Gr->List Ap->Option Gr
|g,[]=>some g
|g,r::s=>if 0<=r.Am/\r.Am<n then (match Iw n r.Am (HT g r.Am) r.Ad with
 |none=>none
 |some a=>K9 n a s) else none
def NF(y:Al):Option Gr:=K9 y.AB.length [] y.AP
def Uu{g:Gr}{h:Int}{i:Nat}(e:FF g h=some i):∃(a:i<g.length),g[i].1=h:=by
 grind[FF,List.findIdx?_eq_some_iff_getElem]
def Yj2(g:Gr)(h:Int):∃i,FF (HT g h) h=some i:=by
 unfold HT;split<;>simp_all[FF]
theorem Ylo{g:Gr}{h:Int}{i:Nat}(a:i<g.length)(v:List Int):FF (g.set i (g[i].1,v)) h=FF g h:=by
 unfold FF;induction g generalizing i with
 |nil=>simp at a
 |cons x r b=>
  cases i<;>grind
theorem zR{g:Gr}{h x:Int}{i:Nat}(e:FF g h=some i)(a:i<g.length):Km g h x=g.set i (g[i].1,Ph g[i].2 x):=by
 simp_all[Km]
def Yj1{g:Gr}{h x:Int}{i:Nat}(e:FF g h=some i):FF (Km g h x) h=some i:=by
 obtain⟨a,_⟩:=Uu e;grind[zR,Ylo]
theorem gJ(g:Gr)(h x:Int):(Km g h x).length=g.length:=by
 grind[Km]
def KE(n:Int)(y:Al)(g:Gr):AE:=[(3,.map (Ek 5 g g.length)),(2,.box 238 (.agg [.d (iD n),.mp 3])),(1,.box 30 (.d y.enc)),(0,.box 30 (.d y.enc))]
def gA(n:Int)(y:Al)(g:Gr):AE:=EB 5 g g.length++KE n y g
theorem Vv{j:Nat}:∀{a b:AE},AD a j=none->AD (a++b) j=AD b j
|[],_,_=>rfl
|(i,x)::r,b,h=>by
 rw[AD]at h;rw[F1,AD];split at h
 ·cases h
 next e=>rw[A5 e];exact Vv h
theorem Uy{j:Nat}{o:Ob}:∀{a b:AE},AD a j=some o->AD (a++b) j=some o
|[],_,h=>by cases h
|(i,x)::r,b,h=>by
 rw[AD]at h;rw[F1,AD];split at h
 ·simp_all
 next e=>rw[A5 e];exact Uy h
def PX{j:Nat}{o:Ob}:∀{a b:AE},AD a j=none->AG (a++b) j o=a++AG b j o
|[],_,_=>rfl
|(i,x)::r,b,h=>by
 rw[AD]at h;rw[F1,AG];split at h
 ·cases h
 next e=>rw[A5 e,PX h,F1]
def T1{j:Nat}{o x:Ob}:∀{a b:AE},AD a j=some x->AG (a++b) j o=AG a j o++b
|[],_,h=>by cases h
|(i,x)::r,b,h=>by
 rw[AD]at h;rw[F1,AG,AG];split at h
 ·simp_all
 next e=>rw[A5 e,A5 e,T1 h,F1]
section
variable {n:Int} {y:Al} {g:Gr}
def Y2f{j:Nat}(h:j<5):AD (gA n y g) j=AD (KE n y g) j:=Vv (R8 5 g _ j (.inl h))
def Znx:AD (gA n y g) 3=some (.map (Ek 5 g g.length)):=by simp[Y2f,KE]
def Znw:AD (gA n y g) 2=some (.box 238 (.agg [.d (iD n),.mp 3])):=by simp[Y2f,KE]
def Y2e{i:Nat}(h:i<g.length):AD (gA n y g) (5+2*i)=some (.map (D3 g[i].2)):=Uy (YQ 5 g _ i h h)
theorem gC:AA (gA n y g)=4+2*g.length:=by
 have c:∀(a b:AE),AA (a++b)=max (AA a) (AA b):=λa b=>by
  induction a<;>grind[AA,Qx]
 grind[gA,Xrw,AA,KE]
theorem gD{p:Nat->Bool}(d:p 3=false)(h:∀i,i<g.length->p (5+2*i)=false):AN p (gA n y g)=true:=by
 have c:∀(a b:AE),AN p (a++b)=(AN p a&&AN p b):=Um p;have f:∀k,k<=g.length->Zp p (Ek 5 g k)=false:=λk=>by
  induction k with
  |zero=>intro _;rfl
  |succ k l=>
   intro j;rw[Ek,EW (by omega)];have e:∀(a b:List (D×V)),Zp p (a++b)=(Zp p a||Zp p b):=λa b=>by
    induction a<;>grind[Zp]
   grind[Zp,V.Bg]
 grind[gA,Xrx,KE,AN,V.Bg,Bu]
def ZN(x:Int):Zo (.int .i64 x) (Ek 5 g g.length)=(FF g x).map λi=>V.mp (5+2*i):=by
 simp_all[wQ]
def Ybe(c:Nat)(g l:Gr):∀k,k<=g.length->Ek c (g++l) k=Ek c g k
|0,_=>rfl
|k+1,h=>by
 rw[Ek,Ek,Ybe c g l k (by omega),WU (by omega)]
def Ybg(c:Nat)(g l:Gr):∀k,k<=g.length->EB c (g++l) k=EB c g k
|0,_=>rfl
|k+1,h=>by
 rw[EB,EB,Ybg c g l k (by omega),WU (by omega)]
def Y2g{h:Int}(e:FF g h=none):AG (gA n y g) 3 (.map (E6 (.int .i64 h) (V.mp (5+2*g.length)) (Ek 5 g g.length)))=EB 5 g g.length++KE n y (HT g h):=by
 have b:HT g h=g++[(h,[])]:=by unfold HT;rw[e]
 have a:E6 (.int .i64 h) (V.mp (5+2*g.length)) (Ek 5 g g.length)=Ek 5 (HT g h) (HT g h).length:=by
  simp_all[U4,ZN,Ek,Ybe]
 rw[gA,PX (R8 5 g _ 3 (.inl (by omega))),a];rfl
def Yvs{h:Int}(e:FF g h=none):(5+2*g.length,Ob.map [])::(EB 5 g g.length++KE n y (HT g h))=gA n y (HT g h):=by
 simp_all[HT,gA,EB,Ybg,D3]
def Y2d{h x:Int}{i:Nat}(e:FF g h=some i)(a:i<g.length):AG (gA n y g) (5+2*i) (.map (E6 (.int .i64 x) (V.d (.bool true)) (D3 g[i].2)))=gA n y (Km g h x):=by
 rw[zR e a,Yy9,gA,T1 (YQ 5 g _ i a a),Ybh 5 g _ _ i a,gA,List.length_set];simp_all[KE,Ybf]
theorem Xit{p:Nat->Bool}{c:Nat}:∀k,(∀i,i<k->p (c+2*i)=true)->Xo p (EB c g k)=[]
|0,_=>rfl
|k+1,h=>by
 have b:=Xit k (λi a=>h i (by omega));grind[EB,Xo]
def eJ{p:Nat->Bool}{c:Nat}:∀k,(∀i,i<k->p (c+2*i)=false)->Xo p (EB c g k)=EB c g k
|0,_=>rfl
|k+1,h=>by
 have b:=eJ k (λi a=>h i (by omega));grind[EB,Xo]
theorem jh(o:Ob):AG (gA n y g) 2 o=EB 5 g g.length++[(3,.map (Ek 5 g g.length)),(2,o),(1,.box 30 (.d y.enc)),(0,.box 30 (.d y.enc))]:=by
 simp[gA,PX,R8,KE,AG]
def dz(o:Ob):AD (AG (gA n y g) 2 o) 2=some o:=by
 simp[jh,Vv,R8,AD]
theorem Qc(o:Ob):Xo (AF 1 []) (AG (gA n y g) 2 o)=[(0,.box 30 (.d y.enc))]:=by
 grind[jh,Vi,Xit,AF,Xo]
def Yoa(o:Ob):Xo (AF 1 (3::(List.range g.length).map λi=>5+2*i)) (AG (gA n y g) 2 o)=EB 5 g g.length++[(3,.map (Ek 5 g g.length)),(0,.box 30 (.d y.enc))]:=by
 rw[jh,Vi,eJ]
 ·simp[AF];grind
 grind[AF]
theorem Yvr{p:Nat->Bool}(h:∀i,i<g.length->p (5+2*i)=false)(a:∀j,j<4->p j=false):Xo p (gA n y g)=gA n y g:=by
 simp_all[gA,Vi,eJ,KE,Xo]
end
include hP
theorem Y1g{y:Al}(hy:y.BJ)(hw:y.CB){K:BQ->AE->Prop}(h0:NF y=none->K (.ret (.BU [.d (.agg [iD 0,.Cj]),.d (iD 140)])) [(0,.box 30 (.d y.enc))])
 (h1:∀g,NF y=some g->K (.ret (.BU [.agg [.d (iD y.AB.length),.mp 3],.d (iD 0)])) (EB 5 g g.length++[(3,.map (Ek 5 g g.length)),(0,.box 30 (.d y.enc))])):
 Aa P 128 [.d y.enc] [(0,.box 30 (.d y.enc))] K:=by
 refine Xv hP AT Zjs.1 Zjs.2 A6.nil λ_ ak=>?_;have yk:(V.d y.enc).Bk=some [.d (Xg y.AR),.d (.AH 5 (y.Ac.map Ax.enc)),.d (.AH 6 (y.AB.map AM.enc)),.d (.AH 5 (y.AP.map Ap.enc)),.d (.AH 5 (y.AJ.map Ai.enc)),.d (.AH 3 (y.AI.map AZ.enc))]:=rfl;have gm:Cb [V.mp 3]=none:=rfl;have gs:(V.agg [V.d (D.int IntKind.i64 (y.AB.length:Int)),V.mp 3]).shape=Sh.node [Sh.leaf,Sh.leaf]:=rfl;simp[Zb5,yk,gm];refine Aw.go (ι:=Nat×Gr) (λs=>[(2,.ptr 2 []),(14,.d (.AH 5 (y.AP.map Ap.enc))),(15,.d (.int .i64 y.AP.length)),(16,.d (.int .i64 s.1))]) (λs=>gA y.AB.length y s.2) (λs=>s.1<=y.AP.length/\K9 y.AB.length s.2 (y.AP.drop s.1)=NF y) (λs=>y.AP.length-s.1) (0,[]) ⟨FL _,rfl⟩ (by simp) ?_ ?_
 ·rfl
 rintro⟨k,g⟩ ⟨hk,hr⟩ R rn re rr rp;simp only at hk hr rn;obtain⟨f,hf⟩:∃f,f=4+2*g.length:=⟨_,rfl⟩
 have fg:AA (gA y.AB.length y g)=f:=by rw[gC,hf]
 have L:=Znw (n:=y.AB.length) (y:=y) (g:=g);have l3:=Znx (n:=y.AB.length) (y:=y) (g:=g);have m:¬f=2:=by omega
 have T:¬f=3:=by omega
 rw[fg]at rn;by_cases v:k<y.AP.length
 ·have wr:IntKind.i64.wrap ((k:Int)+1)=(k:Int)+1:=w_i _ (by have:=hw.AP;omega);rw[EV v]at hr;have fr:AA ((f,Ob.box 77 (V.d y.AP[k].enc))::gA y.AB.length y g)=f+1:=by simp_all
  have O:(V.d y.AP[k].enc).Bk=some [.d (.AV y.AP[k].head),.d (iD y.AP[k].Am),.d (.AH 8 (y.AP[k].Ad.map At.enc)),.d (.AH 11 (y.AP[k].AY.map BH.enc)),.d (.AH 7 (y.AP[k].BC.map Bj.enc))]:=rfl;have rs:y.AP[k].enc.shape=.node [.leaf,.leaf,.leaf,.leaf,.leaf]:=rfl;have rz:y.AP[k].enc.sz=5:=rfl;simp[vp,v,fg,L,m,O,rs,rz];obtain⟨l,u⟩:∃l,l=HT g y.AP[k].Am:=⟨_,rfl⟩
  have e:0<=y.AP[k].Am/\y.AP[k].Am<y.AB.length->∀q ex,Wk q ((f,Ob.box 77 (V.d y.AP[k].enc))::gA y.AB.length y l)->AD q f=some (Ob.box 77 (V.d y.AP[k].enc))->
   Zh P [] YV (Zu 1 (V2 (Zh P [] YU R) R)) ((2,V.ptr 2 [])::(5,V.ptr f [])::(14,V.d (D.AH 5 (List.map Ap.enc y.AP)))::(15,V.d (D.int IntKind.i64 y.AP.length))::(16,V.d (D.int IntKind.i64 k))::ex) q:=λb q ex ae aa=>by
   simp[Yi7,aa,O];refine Aw.pre ae ?_;refine Aw.go (ι:=Nat×Gr) (λs=>[(2,.ptr 2 []),(5,.ptr f []),(14,.d (.AH 5 (y.AP.map Ap.enc))),(15,.d (.int .i64 y.AP.length)),(16,.d (.int .i64 k)),(38,.d (.AH 8 (y.AP[k].Ad.map At.enc))),(39,.d (.int .i64 y.AP[k].Ad.length)),(40,.d (.int .i64 s.1))]) (λs=>(f,Ob.box 77 (V.d y.AP[k].enc))::gA y.AB.length y s.2)
    (λs=>s.1<=y.AP[k].Ad.length/\Iw y.AB.length y.AP[k].Am s.2 (y.AP[k].Ad.drop s.1)=Iw y.AB.length y.AP[k].Am l y.AP[k].Ad/\s.2.length=l.length/\∃i,FF s.2 y.AP[k].Am=some i) (λs=>y.AP[k].Ad.length-s.1) (0,l) ⟨FL _,rfl,rfl,by rw[u];exact Yj2 _ _⟩ (by simp) rfl ?_
   rintro⟨j,a⟩ ⟨hj,o,ab,i,c⟩ R2 z af ag an;simp only at hj o ab c z;have ai:l.length=g.length\/l.length=g.length+1:=by
    grind[HT]
   obtain⟨F,hF⟩:∃F,F=AA ((f,Ob.box 77 (V.d y.AP[k].enc))::gA y.AB.length y a):=⟨_,rfl⟩
   have aj:f<F/\4+2*a.length<=F:=by
    grind[Qx,gC]
   have w:=Znw (n:=y.AB.length) (y:=y) (g:=a);have N:=Znx (n:=y.AB.length) (y:=y) (g:=a);have Q:¬F=2:=by omega
   have F3:¬F=3:=by omega
   have Ff:¬F=f:=by omega
   have G:=(Uu c).1;rw[<-hF]at z;by_cases r:j<y.AP[k].Ad.length
   ·rw[EV r]at o;have ah:IntKind.i64.wrap ((j:Int)+1)=(j:Int)+1:=w_i _ (by have:=hw.Ad _ (DS v);omega);have xk:(V.d y.AP[k].Ad[j].enc).Bk=some [.d (.AV y.AP[k].Ad[j].name),.d (.AV y.AP[k].Ad[j].kind),.d (iD y.AP[k].Ad[j].Am),.d y.AP[k].Ad[j].Bo.enc]:=rfl;have xs:y.AP[k].Ad[j].enc.shape=.node [.leaf,.leaf,.leaf,.node [.leaf,.leaf,.leaf,.leaf,.leaf]]:=rfl;have xz:y.AP[k].Ad[j].enc.sz=8:=rfl;simp[vo,r,<-hF,w,N,Q,F3,Ff,m,T,xk,xs,xz];refine⟨rfl,Xk0 hP (by grind[Qx]) ?_⟩;by_cases J:0<=y.AP[k].Ad[j].Am/\y.AP[k].Ad[j].Am<y.AB.length
    ·have t:=ZN (g:=a) y.AP[k].Am;have X:=YP 5 a y.AP[k].Am a.length;have li:=Y2e (n:=y.AB.length) (y:=y) G;have Y:¬f=5+2*i:=by omega
     have Fi:¬F=5+2*i:=by omega
     have ki:=jC y.AP[k].Ad[j].Am a[i].2;have U:=Y2d (n:=y.AB.length) (y:=y) (x:=y.AP[k].Ad[j].Am) c G;rw[c]at t;have he:Iw y.AB.length y.AP[k].Am a (y.AP[k].Ad[j]::y.AP[k].Ad.drop (j+1))=Iw y.AB.length y.AP[k].Am (Km a y.AP[k].Am y.AP[k].Ad[j].Am) (y.AP[k].Ad.drop (j+1)):=by rw[Iw,Bv J]
     rw[he]at o;simp[J,Ff,Q,F3,m,T,w,N,O,xk,X,t,JX,Y,Fi,li,ki,U,ah];refine z [] (j+1,Km a y.AP[k].Am y.AP[k].Ad[j].Am) _ _ ⟨by omega,o,by grind[gJ],i,Yj1 c⟩ (by omega) (by simp) ?_ (by simp[AF];omega) ?_
     ·grind[Xo,AF,Xl,Qx,gC,gJ]
     grind[AN,V.Bg,gD,AF,gJ]
    ·have Z:(decide (0<=y.AP[k].Ad[j].Am)&&decide (y.AP[k].Ad[j].Am<y.AB.length))=false:=by
      grind
     rw[Z];simp[Q,m,w];refine ag _ _ ?_;simp;refine rr _ _ ?_;have W:=dz (n:=y.AB.length) (y:=y) (g:=a);simp[Q,m,W];refine⟨[],by simp,?_,?_⟩
     ·simp[AF,Qc,show 1<=F by omega,show 1<=f by omega]
     grind[NF,K9,Iw,Xo,AF,Qc]
   ·obtain rfl:j=y.AP[k].Ad.length:=by omega
    simp[vo];refine af _ _ _ ?_;simp[Yi6,wr];have ac:Iw y.AB.length y.AP[k].Am l y.AP[k].Ad=some a:=by
     grind[List.drop_length,Iw]
    have ad:K9 y.AB.length a (y.AP.drop (k+1))=NF y:=by
     rw[<-hr,K9,Bv b,<-u,ac]
    have al:∀i,i<a.length->AF f [5+2*g.length] (5+2*i)=false:=λi hi=>by simp[AF];omega
    refine rn [5+2*g.length] (k+1,a) _ _ ⟨by omega,ad⟩ (by omega) (by simp) ?_ (by simp[AF];omega) ?_
    ·grind[Xo,AF,Yvr]
    grind[gD,AF]
  refine⟨rfl,Xk0 hP (by omega) ?_⟩;by_cases b:0<=y.AP[k].Am/\y.AP[k].Am<y.AB.length
  ·have t:=ZN (g:=g) y.AP[k].Am;have X:=YP 5 g y.AP[k].Am g.length;cases H:FF g y.AP[k].Am with
   |some i=>
    have hi:=(Uu H).1;have li:=Y2e (n:=y.AB.length) (y:=y) hi;have Y:¬f=5+2*i:=by omega
    rw[H]at t;simp[b,m,T,L,l3,O,X,t,Y,li];have e1:l=g:=by grind[HT]
    exact e b _ [_] (by grind[Wk.refl]) (by simp)
   |none=>
    rw[H]at t;simp[b,m,T,L,l3,O,X,t,fr];have e5:f+1=5+2*g.length:=by omega
    have U:=Y2g (n:=y.AB.length) (y:=y) H;have gb:=Yvs (n:=y.AB.length) (y:=y) H;rw[<-u]at U gb;rw[e5];refine e b _ [] ?_ (by simp[AD];omega);simp only[U];rw[<-gb];exact dN (List.Perm.swap _ _ _)
  ·have Z:(decide (0<=y.AP[k].Am)&&decide (y.AP[k].Am<y.AB.length))=false:=by
    grind
   rw[Z];simp[m,L];refine rr _ _ ?_;have W:=dz (n:=y.AB.length) (y:=y) (g:=g);simp[m,W];refine⟨[],by simp,?_,?_⟩
   ·simp[AF,Qc,show 1<=f by omega]
   grind[NF,K9,Xo,AF,Qc]
 ·obtain rfl:k=y.AP.length:=by omega
  simp[vp];refine re _ _ _ ?_;have W:=dz (n:=y.AB.length) (y:=y) (g:=g);simp[L];refine⟨3::(List.range g.length).map λi=>5+2*i,by simp[AF],?_,?_⟩
  ·rw[Yoa];have h:=gD (n:=y.AB.length) (y:=y) (g:=g) (p:=AF 1 (3::(List.range g.length).map λi=>5+2*i)) (by simp[AF]) (λi hi=>by grind[AF]);simp_all[gA,Um,KE]
  simp_all[Yoa,K9]
omit hP
def Ju{w:World}{i:BF}:∀(h:List D)(b:List Value),Cg w i (h.map .d) b↔CT w (CS i) h b
|[],b=>by simp[Cg,CT]
|x::r,b=>by
 exact⟨λ⟨c,a,e,f,g⟩=>⟨c,a,e,f,(Ju r a).1 g⟩,λ⟨c,a,e,f,g⟩=>⟨c,a,e,f,(Ju r a).2 g⟩⟩
def Wk.FQ{e:AE}{id E z:Nat}{xs:List D}(g:AD e id=some (.BO E z xs)):Wk e (AG e id (.A0 E z (xs.map .d))):=λw h f=>by
 refine⟨h,Tr.refl w h,f.swap g ?_⟩;rcases f.Ba id _ g with⟨c,rfl⟩|⟨b,a,i,n,c,j,k,o,l⟩
 ·exact .inl ⟨c,rfl⟩
 ·refine .inr ⟨b,a,i,n,by simpa using c,j,(Ju _ _).2 k,λx m=>?_,l⟩;obtain⟨y,p,rfl⟩:=E2.1 m;simp_all[D4]
def Rdj{ob:AE}{id E z:Nat}{xs:List D}(g:AD ob id=some (.A0 E z (xs.map .d))):Wk ob (AG ob id (.BO E z xs)):=λw h f=>by
 refine⟨h,Tr.refl w h,f.swap g ?_⟩;rcases f.Ba id _ g with⟨c,e⟩|⟨b,a,i,l,c,e,j,m,k⟩
 ·exact .inl ⟨c,by simpa using e⟩
 ·refine .inr ⟨b,a,i,l,by simpa using c,e,(Ju _ _).1 j,λx n=>?_,k⟩;simp_all[List.mem_map_of_mem,D4]
@[simp]def rngK_nm{a:AE}{b:V->AE->Prop}(o:Option Ob):NS a b (.d .Cj) o=b (.hd false (AA a)) ((AA a,.it none 0 [])::a):=by simp only[NS]
def X5(g:Gr)(h:Int):List Int:=match FF g h with
|some i=>(g.getD i (0,[])).2
|none=>[]
structure GM(ob:AE)(m:Nat)(g:Gr)(mi:Nat->Nat):Prop where
 Sn:∃es,AD ob m=some (.map es)/\(∀h,Ux (.int .i64 0) (.int .i64 h) es)/\∀h,Zo (.int .i64 h) es=(FF g h).map λi=>V.mp (mi i)
 cz:∀i (hi:i<g.length),AD ob (mi i)=some (.map (D3 g[i].2))
def QJ(n:Nat)(g:Gr):Prop:=∀h:Int,(X5 g h).Nodup/\∀x∈X5 g h,0<=x/\x<n
def Ynf(a:Int->List Int)(k:Nat)(x:Int):Dt a (k+1) x=Dt a k x++if x∈a k then[(k:Int)] else[]:=by
 grind[Dt,List.range_succ]
def Yhz(a:Int->List Int)(k:Nat)(x:Int):(Dt a k x).length<=k:=by
 grind[Dt]
def QH(l:List Int):D:=if l=[] then .Ah else X4 l
structure UM(f n:Nat)(U:Nat->List Int)(vs:List V)(N:AE):Prop where
 len:vs.length=n
 nm:∀j o,AD N j=some o->f+2<=j
 el:∀x,x<n->(U x=[]/\vs[x]? = some (.d .Ah))\/(U x≠[]/\∃a,vs[x]? = some (.sl a (U x).length)/\AD N a=some (.BO 3 1 ((U x).map iD)))
 inj:∀x x' a m m':Nat,vs[x]? = some (.sl a m)->vs[x']? = some (.sl a m')->x=x'
 Bg:∀p:Nat->Bool,(∀j,j<f->p j=false)->AN p N=true
section
variable {f n:Nat} {U U':Nat->List Int} {vs:List V} {N:AE}
def UM.QD(h:UM f n U vs N){x a m:Nat}(e:vs[x]? = some (.sl a m)):x<n/\U x≠[]/\m=(U x).length/\AD N a=some (.BO 3 1 ((U x).map iD)):=by
 have c:x<n:=by rw[<-h.len];grind
 rcases h.el x c with⟨_,b⟩|⟨g,d,b,i⟩<;>simp_all
def UM.new(h:UM f n U vs N){x a:Nat}{z:Int}(F:x<n)(J:U x=[])(L:f+2<=a)(O:AD N a=none)(v:∀y,U' y=if y=x then[z] else U y):UM f n U' (vs.set x (.sl a 1)) ((a,.BO 3 1 [iD z])::N):=by
 have i:x<vs.length:=by rw[h.len];exact F
 refine⟨by simpa using h.len,λj o l=>?_,λy G=>?_,λy q b m H k g=>?_,λp w=>?_⟩
 ·rw[AD]at l;split at l
  ·omega
  ·exact h.nm j o l
 ·rw[v];by_cases e:y=x
  ·simp_all
  ·have s:¬x=y:=λc=>e c.symm;rw[A5 e,List.getElem?_set_ne s];rcases h.el y G with⟨t,u⟩|⟨t,b,u,K⟩<;>grind[AD]
 ·by_cases r:y=x
  ·subst r;rw[List.getElem?_set_self i]at k;by_cases d:q=y
   ·exact d.symm
   ·rw[List.getElem?_set_ne (λc=>d c.symm)]at g;have:=(h.QD g).2.2.2;simp_all
  ·rw[List.getElem?_set_ne (λc=>r c.symm)]at k;by_cases d:q=x
   ·subst d;rw[List.getElem?_set_self i]at g;have:=(h.QD k).2.2.2;simp_all
   ·rw[List.getElem?_set_ne (λc=>d c.symm)]at g;exact h.inj y q b m H k g
 ·exact h.Bg p w
def Xf3{p:Nat->Bool}{a E z:Nat}{l:List D}:∀{N:AE},AN p N=true->AN p (AG N a (.BO E z l))=true
|[],h=>h
|(j,o)::r,h=>by
 rw[AG];have b:AN p r=true:=by cases o<;>simp_all[AN]
 split
 ·simp_all
 ·have:=Xf3 (a:=a) (E:=E) (z:=z) (l:=l) b;cases o<;>simp_all[AN]
def UM.old(h:UM f n U vs N){x a m:Nat}{z:Int}(e:vs[x]? = some (.sl a m))(H:∀y,U' y=if y=x then U x++[z] else U y):UM f n U' (vs.set x (.sl a (m+1))) (AG N a (.BO 3 1 ((U x).map iD++[iD z]))):=by
 obtain⟨K,O,P,v⟩:=h.QD e;have q:x<vs.length:=by rw[h.len];exact K
 have w:∀j,AD (AG N a (.BO 3 1 ((U x).map iD++[iD z]))) j=if j=a then some (.BO 3 1 ((U x).map iD++[iD z])) else AD N j:=λj=>Xe N a j ⟨_,v⟩;refine⟨by simpa using h.len,λj o t=>?_,λy L=>?_,λy F b k Q l g=>?_,λp J=>Xf3 (h.Bg p J)⟩
 ·rw[w]at t;split at t
  next c=>subst c;exact h.nm _ _ v
  ·exact h.nm j o t
 ·rw[H];by_cases c:y=x
  ·simp_all
  ·rw[A5 c,List.getElem?_set_ne (λd=>c d.symm)];rcases h.el y L with⟨s,r⟩|⟨s,b,r,G⟩
   ·exact .inl ⟨s,r⟩
   ·refine .inr ⟨s,b,r,?_⟩;rw[w,A5 (λd=>by subst d;exact c (h.inj _ _ _ _ _ r e))];exact G
 ·by_cases u:y=x
  ·subst u;rw[List.getElem?_set_self q]at l;cases l;by_cases i:F=y
   ·exact i.symm
   ·rw[List.getElem?_set_ne (λd=>i d.symm)]at g;exact h.inj _ _ _ _ _ e g
  ·rw[List.getElem?_set_ne (λd=>u d.symm)]at l;by_cases i:F=x
   ·subst i;rw[List.getElem?_set_self q]at g;cases g;exact h.inj _ _ _ _ _ l e
   ·rw[List.getElem?_set_ne (λd=>i d.symm)]at g;exact h.inj _ _ _ _ _ l g
def UM.congr(h:UM f n U vs N)(b:∀x,x<n->U' x=U x):UM f n U' vs N:=
 ⟨h.len,h.nm,λx a=>by rw[b x a];exact h.el x a,h.inj,h.Bg⟩
def UM.it(h:UM f n U vs N){t k:Nat}{o:Option Nat}{s:List Nat}(q:f+2<=t)(m:AD N t=none)(e:∀j,o=some j->j<f):UM f n U vs ((t,.it o k s)::N):=by
 refine⟨h.len,λj x b=>?_,λx g=>?_,h.inj,λp c=>?_⟩
 ·rw[AD]at b;split at b
  ·omega
  ·exact h.nm j x b
 ·rcases h.el x g with d|⟨d,a,i,l⟩<;>grind[AD]
 ·simp only[AN,h.Bg p c,Bool.and_true,JQ];cases o with
  |none=>rfl
  |some j=>exact c j (e j rfl)
def Xjg{p:Nat->Bool}{t k:Nat}{o:Option Nat}{s:List Nat}(a:∀j,o=some j->p j=false):∀{N:AE},AN p N=true->AN p (AG N t (.it o k s))=true
|[],h=>h
|(j,x)::r,h=>by
 rw[AG];have b:AN p r=true:=by cases x<;>simp_all[AN]
 split
 ·simp only[AN,b,Bool.and_true,JQ];cases o with
  |none=>rfl
  |some j=>exact a j rfl
 ·have:=Xjg (t:=t) (k:=k) (s:=s) a b;cases x<;>simp_all[AN]
def UM.VQ(h:UM f n U vs N){t k k':Nat}{o:Option Nat}{b:Option Nat}{s s':List Nat}(i:AD N t=some (.it o k s))(m:∀j,b=some j->j<f):UM f n U vs (AG N t (.it b k' s')):=by
 have q:∀j,AD (AG N t (.it b k' s')) j=if j=t then some (.it b k' s') else AD N j:=λj=>Xe N t j ⟨_,i⟩;refine⟨h.len,λj x d=>?_,λx r=>?_,h.inj,λp g=>Xjg (λj e=>g j (m j e)) (h.Bg p g)⟩
 ·rw[q]at d;split at d
  next c=>subst c;exact h.nm _ _ i
  ·exact h.nm j x d
 ·rcases h.el x r with l|⟨l,a,u,v⟩<;>grind
def Rdk(f n:Nat):UM f n (λ_=>[]) ((List.replicate n D.Ah).map V.d) []:=by
 refine⟨by simp,λj o h=>(by cases h),λx b=>.inl ⟨rfl,by simp[b]⟩,λx e a m c h=>?_,λp _=>rfl⟩;grind
theorem ga{ob:AE}{j:Nat}(h:j∈Uc ob):∃o,AD ob j=some o:=by
 induction ob with
 |nil=>simp[Uc]at h
 |cons e r a=>
  rw[AD];split<;>grind[Uc]
def Ww{N:AE}{b:Nat}(h:∀j o,AD N j=some o->b<=j){j:Nat}(a:j<b):AD N j=none:=by
 cases e:AD N j<;>grind
def vL(h:UM f n U vs N)(r:AE):∀k,k<=n->∃t l,Wk (N++((f+1,Ob.A0 35 1 vs)::r)) (t++((f+1,Ob.A0 35 1 l)::r))/\l.length=n/\(∀j o,AD t j=some o->f+2<=j)/\(∀x,x<k->l[x]? = some (.d (QH (U x))))/\(∀x,k<=x->l[x]? = vs[x]?)/\∀x a m:Nat,k<=x->vs[x]? = some (.sl a m)->AD t a=AD N a
|0,_=>⟨N,vs,Wk.refl _,h.len,h.nm,λx q=>absurd q (by omega),λ_ _=>rfl,λ_ _ _ _ _=>rfl⟩
|k+1,hk=>by
 obtain⟨e,p,P,K,z,G,H,Z⟩:=vL h r k (by omega);have Y:∀x,x<k+1->x≠k->x<k:=λx G H=>by omega
 rcases h.el k (by omega) with⟨W,y⟩|⟨F,a,y,X⟩
 ·grind[QH]
 ·have s:AD e a=some (.BO 3 1 ((U k).map iD)):=by grind
  have na:=z _ _ s;have lf:AD e (f+1)=none:=Ww z (by omega);have w:AD (e++((f+1,Ob.A0 35 1 p)::r)) (f+1)=some (.A0 35 1 p):=by grind[Vv,AD]
  have g:=Yoc (k:=0) (n:=(U k).length) (Uy (b:=(f+1,Ob.A0 35 1 p)::r) s) (by decide) (by simp);have Q:AG (e++((f+1,Ob.A0 35 1 p)::r)) a .Ar=AG e a .Ar++((f+1,Ob.A0 35 1 p)::r):=T1 s;rw[Q]at g;have L:∀j,AD (AG e a .Ar) j=if j=a then some .Ar else AD e j:=λj=>Xe e a j ⟨_,s⟩;have v:AD (AG e a .Ar) (f+1)=none:=by grind
  have u:=QR w (i:=k) (by simp_all) g (by grind[Vv,AD]) rfl;rw[PX v]at u;have T:AG ((f+1,Ob.A0 35 1 p)::r) (f+1) (.A0 35 1 (p.set k (.d (.AH 1 ((U k).map iD)))))=(f+1,.A0 35 1 (p.set k (.d (.AH 1 ((U k).map iD)))))::r:=by simp 
  rw[T]at u;refine⟨_,_,P.trans u,by simpa using K,λj o hj=>?_,λx q=>?_,λx q=>?_,λx b m q O=>?_⟩
  ·grind
  ·by_cases c:x=k
   ·subst c;rw[List.getElem?_set_self (by omega),QH,A5 F];rfl
   grind
  ·grind
  ·rw[L,A5 (λJ=>by subst J;have:=h.inj _ _ _ _ _ O y;omega)];grind
def Ka(n:Nat)(U:Nat->List Int):List D:=(List.range n).map λx=>QH (U x)
def UM.CG(h:UM f n U vs N)(r:AE):∃c,Wk (N++((f+1,Ob.A0 35 1 vs)::r)) (c++((f+1,Ob.BO 35 1 (Ka n U))::r))/\∀j o,AD c j=some o->f+2<=j:=by
 obtain⟨a,b,l,s,k,q,_,_⟩:=vL h r n (B9 _);have e:b=(Ka n U).map .d:=by
  refine Sz λi=>?_;grind[Ka]
 have m:AD a (f+1)=none:=Ww k (by omega);have g:=Rdj (ob:=a++((f+1,Ob.A0 35 1 b)::r)) (id:=f+1) (E:=35) (z:=1) (xs:=Ka n U) (by simp_all[Vv,AD]);rw[PX m]at g;have p:AG ((f+1,Ob.A0 35 1 b)::r) (f+1) (.BO 35 1 (Ka n U))=(f+1,.BO 35 1 (Ka n U))::r:=by simp 
 rw[p]at g;exact⟨a,l.trans g,k⟩
end
def xn{p:Nat->Bool}:∀{vs:List V},(∀v∈vs,V.Bg p v=false)->Bu p vs=false
|[],_=>by simp 
|v::r,h=>by
 have b:=xn (vs:=r) λu a=>h u (WX _ a);simp_all
def UM.DU{f n t:Nat}{U:Nat->List Int}{c:List V}{N r:AE}{l:List Nat}(h:UM f n U c N)(q:f<=t)(p:∀j o,AD N j=some o->j∈l)(e:AN (AF t l) r=true):AN (AF t l) (N++((f+1,Ob.A0 35 1 c)::r))=true:=by
 have g:Bu (AF t l) c=false:=xn λv i=>by
  obtain⟨x,s⟩:=List.getElem?_of_mem i;have b:x<n:=by rw[<-h.len];grind
  rcases h.el x b with⟨_,d⟩|⟨_,a,d,k⟩<;>grind[V.Bg,AF]
 rw[Um,h.Bg _ (λj m=>by simp[AF];omega)];simp[g,e]
include hP
theorem jQ{g:Gr}{n m:Nat}{mi:Nat->Nat}{F:AE}(hg:GM F m g mi)(hn:QJ n g)(a9:n<=1000000){K:BQ->AE->Prop}(h:K (.ret (.sl (AA F+1) n)) ((AA F+1,.BO 35 1 (Ka n λx=>Dt (X5 g) n x))::F)):
 Aa P 194 [.agg [.d (.int .i64 n),.mp m]] F K:=by
 refine Aa.G9 ?_;refine Xv hP AT Zlg.1 Zlg.2 A6.nil λ_ az=>?_;obtain⟨es,lm,kk,fe⟩:=hg.Sn;obtain⟨f,hf⟩:∃f,f=AA F:=⟨_,rfl⟩
 rw[<-hf]at h az⊢;have lt:∀j o,AD F j=some o->j<f:=λj o h=>by rw[hf];exact Xk h
 have a7:=lt _ _ lm;simp[Zcy,<-hf];refine⟨by omega,Aw.pre (Wk.FQ (id:=f+1) (E:=35) (z:=1) (xs:=List.replicate n D.Ah) (by simp )) ?_⟩;refine Aw.go (ι:=Nat×List V×AE) (λs=>[(1,.ptr f []),(3,.sl (f+1) n),(10,.d (.int .i64 n)),(11,.d (.int .i64 s.1))]) (λs=>s.2.2++((f+1,Ob.A0 35 1 s.2.1)::(f,Ob.box 238 (V.agg [V.d (D.int IntKind.i64 n),V.mp m]))::F)) (λs=>s.1<=n/\UM f n (λx=>Dt (X5 g) s.1 x) s.2.1 s.2.2) (λs=>n-s.1) (0,(List.replicate n D.Ah).map V.d,[]) ⟨FL _,(Rdk f n).congr (λx _=>rfl)⟩ (by simp) (by simp ) ?_;rintro⟨k,u,N⟩ ⟨hk,X⟩ R rn re rr rp;simp only at hk X rn;by_cases aw:k<n
 ·have wr:=w_s k (by omega);obtain⟨r,hr⟩:∃r,r=(f,Ob.box 238 (V.agg [V.d (D.int IntKind.i64 n),V.mp m]))::F:=⟨_,rfl⟩
  rw[<-hr]at rn⊢;have lN:∀u N U,UM f n U u N->AD (N++((f+1,Ob.A0 35 1 u)::r)) f=some (Ob.box 238 (V.agg [V.d (D.int IntKind.i64 n),V.mp m])):=λu N U h=>by rw[Vv (Ww h.nm (by omega)),hr];simp 
  have lV:∀u N U,UM f n U u N->AD (N++((f+1,Ob.A0 35 1 u)::r)) (f+1)=some (Ob.A0 35 1 u):=λu N U h=>by rw[Vv (Ww h.nm (by omega))];simp 
  have lO:∀u N U,UM f n U u N->∀j o,AD F j=some o->AD (N++((f+1,Ob.A0 35 1 u)::r)) j=some o:=λu N U h j o w=>by
   have:=lt j o w;rw[Vv (Ww h.nm (by omega)),AD,A5 (by omega),hr,AD,A5 (by omega),w]
  have ae:∀t l,f<=t->AN (AF t l) r=true:=λt l h1=>by
   grind[AN,AF,BV,V.Bg,Bu]
  obtain⟨t,ht⟩:∃t,t=AA (N++((f+1,Ob.A0 35 1 u)::r)):=⟨_,rfl⟩
  have aq:f+2<=t:=by
   have:=Xk (lV u N _ X);omega
  rw[<-ht]at rn;have l1:=lN u N _ X;have l2:=lO u N _ X m _ lm;have fk:=fe k;have a3:∀(o:Option Nat)(l:List Int),l=X5 g k->(o=none->l=[])->(∀j,o=some j->AD F j=some (.map (D3 l)))->Aw [1,3,4,10,11,18] (Zh P [] YZ)
   (Zu 2 (Zu 1 (V2 (Zh P [] (S2.rg [] [(1,E.a (A.t 1)),(3,E.a (A.t 3)),(10,E.a (A.t 10)),(11,E.b (C.Bl BinOp.add (A.t 0) (A.t 1)) (E.a (A.t 11)) (E.a (A.int IntKind.i64 1)))] []) R) R)))
   [(1,V.ptr f []),(3,V.sl (f+1) n),(4,V.d (D.int IntKind.i64 k)),(10,V.d (D.int IntKind.i64 n)),(11,V.d (D.int IntKind.i64 k)),(18,V.hd false t)]
   ((t,Ob.it o l.length [])::(N++((f+1,Ob.A0 35 1 u)::r))):=λo l hl ho ac=>by
   have ag:∀j,o=some j->j<f:=λj e=>lt _ _ (ac j e);have ap:AD N t=none:=by
    have h1:AD (N++((f+1,Ob.A0 35 1 u)::r)) t=none:=by grind[X1]
    cases e:AD N t<;>grind[AD,Uy]
   have ab:=hn k;rw[<-hl]at ab;refine Aw.go (ι:=List Nat×List V×AE) (λs=>[(1,.ptr f []),(3,.sl (f+1) n),(4,.d (.int .i64 k)),(10,.d (.int .i64 n)),(11,.d (.int .i64 k)),(18,.hd false t)]) (λs=>s.2.2++((f+1,Ob.A0 35 1 s.2.1)::r))
    (λs=>s.1.Nodup/\(∀i∈s.1,i<l.length)/\AD s.2.2 t=some (.it o l.length s.1)/\UM f n (λx=>Dt (X5 g) k x++if (x:Int)∈s.1.map (λi=>l.getD i 0) then[(k:Int)] else[]) s.2.1 s.2.2) (λs=>l.length-s.1.length) ([],u,(t,.it o l.length [])::N)
    ⟨List.nodup_nil,by simp,by simp , (X.it aq ap ag).congr (λx _=>by simp)⟩ (by simp) rfl ?_
   rintro⟨q,p,J⟩ ⟨ai,aj,hit,O⟩ R2 al a4 be bd;simp only at ai aj hit O al;have q1:=Uy (b:=(f+1,Ob.A0 35 1 p)::r) hit
   -- the end of a round of heads
   have CG:(∀i,i<l.length->i∈q)->R2 (.exit 2) [(1,V.ptr f []),(3,V.sl (f+1) n),(4,V.d (D.int IntKind.i64 k)),(10,V.d (D.int IntKind.i64 n)),(11,V.d (D.int IntKind.i64 k)),(18,V.hd false t),(20,V.d (D.bool false))] (J++((f+1,Ob.A0 35 1 p)::r)):=λa5=>by
    refine a4 _ _ _ ?_;simp[wr];refine rn (Uc (J++((f+1,Ob.A0 35 1 p)::r))) (k+1,p,J) _ _ ⟨by omega,O.congr λx hx=>?_⟩ (by omega) (by simp) (Y7 λj w=>w) (by simp[AF];omega) (O.DU (by omega) (λj o w=>Wv (Uy w)) (ae t _ (by omega)));have e:(x:Int)∈q.map (λi=>l.getD i 0)↔(x:Int)∈X5 g k:=by
     grind[List.mem_iff_getElem]
    simp only[Ynf,e]
   cases o with
   |none=>
    simp[wL,q1];grind
   |some j=>
    have q2:=lO p J _ O _ _ (ac j rfl);simp[wL,q1,q2];refine⟨by simp[D3],CG,λi hi ay=>?_⟩;rw[T1 hit];have ah:∀c,AD (AG J t (Ob.it (some j) l.length (q++[i]))) c=if c=t then some (Ob.it (some j) l.length (q++[i])) else AD J c:=λc=>Xe J t c ⟨_,hit⟩;have v:=O.VQ (k':=l.length) (s':=q++[i]) hit ag;obtain⟨H,ao⟩:∃H,H=AG J t (Ob.it (some j) l.length (q++[i])):=⟨_,rfl⟩
    rw[<-ao]at ah v⊢;have Z:AD H t=some (Ob.it (some j) l.length (q++[i])):=by rw[ah,Bv rfl]
    have p1:=lV p H _ v;have p2:=lO p H _ v _ _ (ac j rfl);have bb:=ab.2 l[i] (DS hi);obtain⟨x,hx⟩:∃x:Nat,l[i]=(x:Int):=⟨l[i].toNat,by omega⟩
    have Q:x<n:=by omega
    have eg:∀h:i<(D3 l).length,(D3 l)[i]=(.int .i64 (x:Int),V.d (.bool true)):=λh=>by simp[D3,hx]
    have el:(D3 l).length=l.length:=by simp[D3]
    have vl:=v.len;have G:((x:Int)∉q.map λi=>l.getD i 0):=λhm=>by
     obtain⟨i',au,he⟩:=E2.1 hm;rw[Jh (aj i' au),<-hx]at he;have:i'=i:=(List.getElem_inj ab.1).1 he;grind
    have bf:q.length<l.length:=by
     have ax:(i::q).Nodup:=List.nodup_cons.2 ⟨ay,ai⟩;have a2:(i::q) ⊆ List.range l.length:=λa ha=>by
      grind
     have:=WW ax a2;simp at this;omega
    have a1:(q++[i]).Nodup:=by
     grind
    have a0:∀a∈q++[i],a<l.length:=λa ha=>by
     grind
    have hU:∀y:Nat,(Dt (X5 g) k y++if (y:Int)∈(q++[i]).map (λi=>l.getD i 0) then[(k:Int)] else[])=if y=x then (Dt (X5 g) k x++if (x:Int)∈q.map (λi=>l.getD i 0) then[(k:Int)] else[])++[(k:Int)] else Dt (X5 g) k y++if (y:Int)∈q.map (λi=>l.getD i 0) then[(k:Int)] else[]:=λy=>by
     by_cases c:y=x
     ·subst c;rw[Bv rfl,A5 G];have:(y:Int)∈(q++[i]).map (λi=>l.getD i 0):=by
       rw[Mh,FM];grind
      rw[Bv this];simp
     ·rw[A5 c];have:((y:Int)∈(q++[i]).map (λi=>l.getD i 0))↔(y:Int)∈q.map (λi=>l.getD i 0):=by
       rw[Mh,FM];refine⟨λhh=>hh.resolve_right λhh=>?_,.inl⟩;grind
      simp only[this]
    have ul:(Dt (X5 g) k x).length<=k:=Yhz _ _ _;have L:∀T N3,UM f n (λy=>Dt (X5 g) k y++if (y:Int)∈(q++[i]).map (λi=>l.getD i 0) then[(k:Int)] else[]) T N3->AD N3 t=some (Ob.it (some j) l.length (q++[i]))->R2 .normal [(1,V.ptr f []),(3,V.sl (f+1) n),(4,V.d (D.int IntKind.i64 k)),(10,V.d (D.int IntKind.i64 n)),(11,V.d (D.int IntKind.i64 k)),(18,V.hd false t)] (N3++((f+1,Ob.A0 35 1 T)::r)):=λT N3 h3 av=>by
     have ba:t<AA (J++((f+1,Ob.A0 35 1 p)::r)):=Xk q1;refine al (Uc (N3++((f+1,Ob.A0 35 1 T)::r))) (q++[i],T,N3) _ _ ⟨a1,a0,av,h3⟩ (by simp;omega) (by simp) (Y7 λj w=>w) (by simp[AF];omega) (h3.DU (by omega) (λj o w=>Wv (Uy w)) (ae _ _ (by omega)))
    obtain⟨Y,ak⟩:∃Y,Y=AA (H++((f+1,Ob.A0 35 1 p)::r)):=⟨_,rfl⟩
    have af:f+2<=Y:=by
     have:=Xk p1;omega
    have bc:x<p.length:=by rw[vl];exact Q
    rcases v.el x Q with⟨e1,e2⟩|⟨e1,a,e2,e3⟩
    ·have an:(Dt (X5 g) k x++if (x:Int)∈q.map (λi=>l.getD i 0) then[(k:Int)] else[])=[]:=e1;have W:∀h:x<p.length,p[x]=.d .Ah:=λh=>by grind
     simp[p1,p2,eg,el,hi,Q,vl,W,<-ak,show ¬Y=f+1 by omega];rw[PX (Ww v.nm (by omega))];have sx:AG ((f+1,Ob.A0 35 1 p)::r) (f+1) (Ob.A0 35 1 (p.set x (V.sl Y 1)))=(f+1,Ob.A0 35 1 (p.set x (V.sl Y 1)))::r:=by simp 
     rw[sx];have n2:AD H Y=none:=by
      have h1:AD (H++((f+1,Ob.A0 35 1 p)::r)) Y=none:=by rw[ak];exact X1 _
      cases e:AD H Y with
      |none=>rfl
      |some x=>rw[Uy e]at h1;cases h1
     exact L _ _ (v.new (z:=(k:Int)) Q e1 af n2 (λy=>by rw[hU y,an,Gx])) (by rw[AD,A5 (λhh=>by grind)];exact Z)
    ·have W:∀h:x<p.length,p[x]=.sl a (Dt (X5 g) k x++if (x:Int)∈q.map (λi=>l.getD i 0) then[(k:Int)] else[]).length:=λh=>by grind
     rw[A5 G,HH]at e3;simp only[A5 G,HH]at W;have e4:=Uy (b:=(f+1,Ob.A0 35 1 p)::r) e3;have e5:=T1 (b:=(f+1,Ob.A0 35 1 p)::r) (o:=.BO 3 1 ((Dt (X5 g) k x).map iD++[iD k])) e3;have ad:∀c,AD (AG H a (.BO 3 1 ((Dt (X5 g) k x).map iD++[iD k]))) c=if c=a then some (.BO 3 1 ((Dt (X5 g) k x).map iD++[iD k])) else AD H c:=λc=>Xe H a c ⟨_,e3⟩;have na:=v.nm _ _ e3;have e6:AD (AG H a (.BO 3 1 ((Dt (X5 g) k x).map iD++[iD k]))++((f+1,Ob.A0 35 1 p)::r)) (f+1)=some (Ob.A0 35 1 p):=by
      rw[Vv (by rw[ad,A5 (by omega)];exact Ww v.nm (by omega))];simp 
     simp[p1,p2,eg,el,hi,Q,vl,W,JD,NJ,e4,e5,e6];refine⟨by omega,?_⟩;rw[PX (by rw[ad,A5 (by omega)];exact Ww v.nm (by omega))];have sx:AG ((f+1,Ob.A0 35 1 p)::r) (f+1) (Ob.A0 35 1 (p.set x (V.sl a ((Dt (X5 g) k x).length+1))))=(f+1,Ob.A0 35 1 (p.set x (V.sl a ((Dt (X5 g) k x).length+1))))::r:=by simp 
     rw[sx];have aa:=v.old (z:=(k:Int)) e2 hU;simp only[A5 G,HH]at aa;exact L _ _ aa (by rw[ad,A5 (λhh=>by grind)];exact Z)
  simp[wM,aw,l1,l2,kk];cases hx:FF g k with
  |none=>
   rw[hx]at fk;simp[fk,<-ht];grind[X5]
  |some i=>
   rw[hx]at fk;have hi:=(Uu hx).1;have li:=hg.cz i hi;have l3:=lO u N _ X _ _ li;simp[fk,l3,<-ht];grind[D3,X5]
 ·obtain rfl:k=n:=by omega
  simp[wM];refine re _ _ _ ?_;simp;obtain⟨J,hw,a8⟩:=X.CG ((f,Ob.box 238 (V.agg [V.d (D.int IntKind.i64 k),V.mp m]))::F);have hb:∀l,AN (AF f l) ((f,Ob.box 238 (V.agg [V.d (D.int IntKind.i64 k),V.mp m]))::F)=true:=λl=>by
   simp_all
  have hid:f+1∈Uc (N++((f+1,Ob.A0 35 1 u)::(f,Ob.box 238 (V.agg [V.d (D.int IntKind.i64 k),V.mp m]))::F)):=Wv (o:=Ob.A0 35 1 u) (by rw[Vv (Ww X.nm (by omega))];simp );have a6:Xo (AF f [f+1]) (J++((f+1,Ob.BO 35 1 (Ka k λx=>Dt (X5 g) k x))::(f,Ob.box 238 (V.agg [V.d (D.int IntKind.i64 k),V.mp m]))::F))=(f+1,Ob.BO 35 1 (Ka k λx=>Dt (X5 g) k x))::F:=by
   have h1:∀M:AE,(∀j∈Uc M,f+2<=j)->Xo (AF f [f+1]) M=[]:=λM=>by
    induction M with
    |nil=>intro _;rfl
    |cons e r ih=>
     intro h;obtain⟨i,o⟩:=e;have hi:=h i (by simp[Uc]);grind[Xo,AF,Uc]
   rw[Vi,h1 _ (λj w=>by grind[ga])];simp_all[Xo,AF,Xl]
  refine⟨Uc (N++((f+1,Ob.A0 35 1 u)::(f,Ob.box 238 (V.agg [V.d (D.int IntKind.i64 k),V.mp m]))::F)),by grind[V.Bg,Bu,AF],?_,?_⟩
  ·rw[Y7 λj w=>w];exact X.DU (B9 _) (λj o w=>Wv (Uy w)) (hb _)
  ·rw[Y7 λj w=>w];grind[BQ.Bg,V.Bg,AF,AN]
omit hP
section
variable {P:BE} {sl:Xf} {ob:AE} {KO Pn:V->AE->Prop} {x:A}
@[simp]def iwpT_inv(nm:String)(t f:Nat)(b:Option (Nat×Nat×Nat×Bool))(a:List A):I.wp P sl ob KO Pn (.LN nm t f b x a)=Po P t f b (a.map (A.ev sl)) ob KO Pn (x.ev sl):=by simp only[I.wp]
@[simp]def iwpT_trn(z:Nat)(h:A):I.wp P sl ob KO Pn (.Ma z x h)=Py z ob KO (x.ev sl) (h.ev sl):=by simp only[I.wp]
@[simp]def invK_p(t f c id:Nat)(b:Option (Nat×Nat×Nat×Bool))(a:List V)(p:List Nat):Po P t f b a ob KO Pn (.iface c (.ptr id p))=(c=t/\Xd P.p f=true/\OQ ob (λr=>Aa P f (r::a) ob (F7 KO Pn)) (.ptr id p) b):=by simp only[Po]
@[simp]def recvK_n(K:V->Prop)(v:V):OQ ob K v none=K v:=by simp only[OQ]
@[simp]def recvK_s(K:V->Prop)(v:V)(b c n:Nat)(a:Bool):OQ ob K v (some (b,c,n,a))=Qm ob b c (λu=>E9 ob n a K u) v:=by simp only[OQ]
end
abbrev qB(a n:Nat):Ob:=.box 290 (.agg [.sl a n])
abbrev qA(q:List Int):Ob:=.BO 3 1 (q.map iD)
def Yg4{a b:Nat}{x y z:Ob}(h:¬b=a):∀{ob:AE},AG (AG (AG ob a x) b y) a z=AG (AG ob a z) b y
|[]=>rfl
|(j,o)::r=>by
 have c:¬a=b:=λe=>h e.symm;have d:=Yg4 (a:=a) (b:=b) (x:=x) (y:=y) (z:=z) h (ob:=r);grind[Za,AG]
def eP{p:Nat->Bool}{k:Nat}:∀{a:AE},AN p a=true->AN p (AG a k .Ar)=true
|[],h=>h
|(j,x)::r,h=>by
 rw[AG];have b:AN p r=true:=by cases x<;>simp_all[AN]
 split
 ·simp_all
 ·have:=eP (k:=k) b;cases x<;>simp_all[AN]
def Yah:Xd prog 288=true:=by kernel_rfl
def jK:Xd prog 292=true:=by kernel_rfl
def nn:Xd prog 196=true:=by kernel_rfl
def Yai:Xd prog 290=true:=by kernel_rfl
def Y1v:Xd prog 289=true:=by kernel_rfl
include hP
theorem du{q:List Int}{a i j:Nat}{c:AE}(g:AD c a=some (.BO 3 1 (q.map iD)))(e:i<q.length)(f:j<q.length){K:BQ->AE->Prop}(h:K (.ret (.d (.bool (decide (q.getD i 0<q.getD j 0))))) c):
 Aa P 288 [.sl a q.length,.d (.int .i64 i),.d (.int .i64 j)] c K:=by
 refine Xv hP AT Zmw.1 Zmw.2 A6.nil λ_ b=>?_;rw[Jh e,Jh f]at h;simp[Zdm,g,e,f];exact⟨[],by simp,by simpa using b [],by simpa  using h⟩
theorem dv{q:List Int}{a i j:Nat}{c:AE}(g:AD c a=some (.BO 3 1 (q.map iD)))(e:i<q.length)(f:j<q.length){K:BQ->AE->Prop}(h:K (.ret (.BU [])) (AG c a (.BO 3 1 ((I9 q i j).map iD)))):
 Aa P 292 [.sl a q.length,.d (.int .i64 i),.d (.int .i64 j)] c K:=by
 refine Xv hP AT Zmy.1 Zmy.2 A6.nil λ_ b=>?_;simp only[I9,Jh e,Jh f]at h;have k:∀h:j<((List.map (V.d∘iD) q).set i (V.d (iD q[j]))).length,(((List.map (V.d∘iD) q).set i (V.d (iD q[j])))[j]).shape=Sh.leaf:=λh=>by
  simp[List.getElem_set,D.shape]
 simp[Zdo,g,e,f,k];refine⟨[],by simp,?_,?_⟩
 ·rw[Xl (by simp)];apply BR;exact b []
 ·simpa  using h
theorem dp{q:List Int}{a:Nat}{c:AE}(e:AD c a=some (.BO 3 1 (q.map iD))){K:BQ->AE->Prop}(h:K (.ret (.d (.int .i64 q.length))) c):Aa P 196 [.sl a q.length] c K:=by
 refine Xv hP AT sA.1 sA.2 A6.nil λ_ b=>?_;simp[qV,e];exact⟨[],by simp,by simpa using b [],by simpa  using h⟩
theorem Znq{q:List Int}{a b j:Nat}{f:AE}(N:AD f b=some (qB a q.length))(t:AD f a=some (qA q))(Q:j<q.length)(X:q.length<=1000000){K:BQ->AE->Prop}(h:K (.ret (.BU [])) (AG f a (qA (H6 q j)))):
 Aa P 242 [.iface 287 (.ptr b []),.d (.int .i64 j)] f K:=by
 refine Xv hP AT Zmm.1 Zmm.2 A6.nil λ_ T=>?_;have G:¬b=a:=λe=>by simp_all
 have H:Xd P.p 288=true:=by rw[hP];exact Yah
 have J:Xd P.p 292=true:=by rw[hP];exact jK
 have v:∀l:List Int,∀c,AD (AG f a (qA l)) c=if c=a then some (qA l) else AD f c:=λl c=>Xe f a c ⟨_,t⟩;have x:∀l:List Int,AD (AG f a (qA l)) a=some (qA l):=λl=>by rw[v,Bv rfl]
 have y:∀l:List Int,AD (AG f a (qA l)) b=some (qB a q.length):=λl=>by rw[v,A5 G,N]
 simp[Zdf];refine Aw.go (ι:=Nat×List Int) (λs=>[(0,.iface 287 (.ptr b [])),(1,.d (.int .i64 s.1))]) (λs=>AG f a (qA s.2)) (λs=>s.2.length=q.length/\s.1<q.length/\H6 s.2 s.1=H6 q j) (λs=>s.1) (j,q) ⟨rfl,Q,rfl⟩ (by simp) (by rw[Yd t]) ?_;rintro⟨i,l⟩ ⟨n,O,g⟩ R w U Z Y;simp only at n O g w;have W:IntKind.i64.wrap ((i:Int)-1)=(i:Int)-1:=w_i _ (by omega);have CG:∀F,H6 q j=l->R (.exit 0) F (AG f a (qA l)):=λF e=>by
  refine U _ _ _ ?_;refine⟨[],by simp,?_,?_⟩
  ·simp_all[Xl,BR]
  simp_all
 by_cases r:i=0
 ·subst r;have z:IntKind.i64.wrap ((IntKind.i64.wrap (-1)).tdiv 2)=0:=by decide
  simp[vj,z];grind[H6]
 ·have u:IntKind.i64.wrap (((i:Int)-1).tdiv 2)=(((i-1) / 2:Nat):Int):=by
   grind[Int.tdiv_eq_ediv_of_nonneg,w_i]
  rw[H6,dif_neg r]at g;obtain⟨m,L⟩:∃m,m=(i-1) / 2:=⟨_,rfl⟩
  rw[<-L]at u g;have o:((m:Int)==i)=false:=by grind
  simp[vj,W,u,o,H,J,y];rw[<-n];refine du hP (x l) (by omega) (by omega) ?_;by_cases k:l.getD i 0<l.getD m 0
  ·rw[Bv k]at g;simp[k,y,-List.getD_eq_getElem?_getD];rw[<-n];refine dv hP (x l) (by omega) (by omega) ?_;simp ;refine w [] (m,I9 l m i) _ _ ⟨by simp_all[W0],by omega,g⟩ (by omega) (by simp) (Xl (by simp)) (by simp_all) ?_;simp_all[BR]
  ·rw[A5 k]at g;simp[k,-List.getD_eq_getElem?_getD];exact CG _ g.symm
theorem Y09{q:List Int}{a b n:Nat}{f:AE}(N:AD f b=some (qB a q.length))(L:AD f a=some (qA q))(hn:n<=q.length)(hq:q.length<=1000000){K:BQ->AE->Prop}(h:∀c,K (.ret (.d (.bool c))) (AG f a (qA (IJ q n 0)))):
 Aa P 243 [.iface 287 (.ptr b []),.d (.int .i64 0),.d (.int .i64 n)] f K:=by
 refine Xv hP AT Zmn.1 Zmn.2 A6.nil λ_ w=>?_;have U:¬b=a:=λe=>by simp_all
 have F:Xd P.p 288=true:=by rw[hP];exact Yah
 have W:Xd P.p 292=true:=by rw[hP];exact jK
 have O:∀l:List Int,∀c,AD (AG f a (qA l)) c=if c=a then some (qA l) else AD f c:=λl c=>Xe f a c ⟨_,L⟩;have x:∀l:List Int,AD (AG f a (qA l)) a=some (qA l):=λl=>by rw[O,Bv rfl]
 have y:∀l:List Int,AD (AG f a (qA l)) b=some (qB a q.length):=λl=>by rw[O,A5 U,N]
 simp[Zdg];refine Aw.go (ι:=Nat×List Int) (λs=>[(0,.iface 287 (.ptr b [])),(1,.d (.int .i64 0)),(2,.d (.int .i64 n)),(7,.d (.int .i64 s.1))]) (λs=>AG f a (qA s.2)) (λs=>s.2.length=q.length/\s.1<=q.length/\IJ s.2 n s.1=IJ q n 0) (λs=>n-s.1) (0,q) ⟨rfl,FL _,rfl⟩ (by simp) (by rw[Yd L]) ?_;rintro⟨i,l⟩ ⟨r,X,j⟩ R Q re rr rp;simp only at r X j Q;have z:IntKind.i64.wrap (IntKind.i64.wrap (2*(i:Int))+1)=((2*i+1:Nat):Int):=by
  grind[w_i]
 have T:IntKind.i64.wrap (((2*i+1:Nat):Int)+1)=((2*i+2:Nat):Int):=by
  grind[w_i]
 have CG:∀m,IJ q n 0=l->R (.exit 0) ((0,V.iface 287 (V.ptr b []))::(1,.d (.int .i64 0))::(2,.d (.int .i64 n))::(7,.d (.int .i64 i))::m) (AG f a (qA l)):=λm e=>by
  refine re _ _ _ ?_;simp;refine⟨[],by simp,?_,?_⟩
  ·simp_all[Xl,BR]
  ·rw[Xl (by simp),<-e];exact h _
 by_cases H:n<=2*i+1
 ·have o:(n:Int)<=((2*i+1:Nat):Int):=by omega
  simp[gG,z,o,-Int.natCast_add];exact CG _ (by rw[<-j,IJ,dif_pos H])
 ·have o:¬(n:Int)<=((2*i+1:Nat):Int):=by omega
  have G:¬((2*i+1:Nat):Int)<0:=by omega
  rw[IJ,dif_neg H]at j
  -- what follows C4 the child is known
  have g:∀m c,c=K5 l n i->Zh P [] ZD R ((0,V.iface 287 (V.ptr b []))::(1,.d (.int .i64 0))::(2,.d (.int .i64 n))::(7,.d (.int .i64 i))::(9,.d (.int .i64 (c:Nat)))::m) (AG f a (qA l)):=λm c k=>by
   have Y:=ZV l n i;have Z:=jk (l:=l) (n:=n) (i:=i) (by omega);rw[<-k]at Y Z j;simp[Yjt,F,W,y];rw[<-r];refine du hP (x l) (by omega) (by omega) ?_;by_cases t:l.getD c 0<l.getD i 0
   ·rw[Bv t]at j;simp[t,y,-List.getD_eq_getElem?_getD];rw[<-r];refine dv hP (x l) (by omega) (by omega) ?_;simp ;refine Q [] (c,I9 l i c) _ _ ⟨by grind[W0],by omega,j⟩ (by omega) (by simp) (Xl (by simp)) (by simp[AF];exact Xk N) ?_;apply BR;simpa using w []
   ·rw[A5 t]at j;simp[t,-List.getD_eq_getElem?_getD];exact CG _ j.symm
  by_cases J:2*i+2<n
  ·have u:((2*i+2:Nat):Int)<n:=by omega
   simp[gG,z,T,o,G,u,F,y,-Int.natCast_add];rw[<-r];refine du hP (x l) (by omega) (by omega) ?_;by_cases k:l.getD (2*i+2) 0<l.getD (2*i+1) 0
   ·simp[k,-List.getD_eq_getElem?_getD,-Int.natCast_add];exact g [] _ (by rw[K5,Bv ⟨J,k⟩])
   ·simp[k,-List.getD_eq_getElem?_getD,-Int.natCast_add];exact g _ _ (by rw[K5,A5 (λv=>k v.2)])
  ·have u:¬((2*i+2:Nat):Int)<n:=by omega
   simp[gG,z,T,o,G,u,-Int.natCast_add];exact g _ _ (by rw[K5,A5 (λv=>J v.1)])
theorem Yjz{b:Nat}{x:Int}{a:AE}(c:AD a b=some (.box 290 (.d (.agg [.Ah])))){K:BQ->AE->Prop}(h:K (.ret (.BU [])) ((AA a,qA [x])::AG a b (qB (AA a) 1))):
 Aa P 290 [.ptr b [],.d (.iface 3 (.int .i64 x))] a K:=by
 refine Xv hP AT Zae.1 Zae.2 A6.nil λ_ f=>?_;simp[Y0v,c];have e:Xo (AF (AA a) [AA a]) (AG a b (qB (AA a) 1))=AG a b (qB (AA a) 1):=Xl (by simp);refine⟨[AA a],by simp,?_,?_⟩
 ·simp_all[Xo,A5,AF,AN,Ao,V.Bg,Bu]
 ·rw[Xo,A5 (by simp[AF]),e];exact h
theorem Ytz{a b:Nat}{q:List Int}{x:Int}{f:AE}(j:AD f b=some (qB a q.length))(g:AD f a=some (qA q))(n:q.length<=1000000){K:BQ->AE->Prop}(h:K (.ret (.BU [])) (AG (AG f a (qA (q++[x]))) b (qB a (q.length+1)))):
 Aa P 290 [.ptr b [],.d (.iface 3 (.int .i64 x))] f K:=by
 refine Xv hP AT Zae.1 Zae.2 A6.nil λ_ l=>?_;have i:¬b=a:=λe=>by simp_all
 have m:∀o c,AD (AG f a o) c=if c=a then some o else AD f c:=λo c=>Xe f a c ⟨_,g⟩;simp[Y0v,j,g,m,i];have k:=Xk g;refine⟨by omega,[],by simp,?_,?_⟩<;>simp_all[Xl,Ao,BR,V.Bg,Bu,AF,qA,qB]
theorem Y1f{a b:Nat}{q:List Int}{f:AE}(k:AD f b=some (qB a q.length))(i:AD f a=some (qA q))(s:q.length<=1000000)(r:0<q.length){K:BQ->AE->Prop}(h:K (.ret (.d (.iface 3 (.int .i64 (q.getD (q.length-1) 0))))) ((AA f,qA (q.take (q.length-1)))::AG (AG f a .Ar) b (qB (AA f) (q.length-1)))):
 Aa P 289 [.ptr b []] f K:=by
 refine Xv hP AT Zmx.1 Zmx.2 A6.nil λ_ m=>?_;have j:¬b=a:=λe=>by simp_all
 have n:∀o c,AD (AG f a o) c=if c=a then some o else AD f c:=λo c=>Xe f a c ⟨_,i⟩;have p:IntKind.i64.wrap ((q.length:Int)-1)=((q.length-1:Nat):Int):=by
  grind[w_i]
 simp[Zdn,k,i,n,j,p,Py,cT,show q.length-1<q.length by omega];have g:q≠[]:=λe=>by simp_all
 have l:∀o,Xo (AF (AA f) [AA f]) (AG (AG f a .Ar) b o)=AG (AG f a .Ar) b o:=λo=>Xl (by simp);refine⟨g,[AA f],by simp,?_,?_⟩
 ·simp_all[Xo,A5,AF,AN,Ao,eP,V.Bg,Bu]
 ·rw[Xo,A5 (by simp[AF]),l];rw[Jh (by omega)]at h;simpa[qA]using h
theorem LA{b:Nat}{x:Int}{a:AE}(i:AD a b=some (.box 290 (.d (.agg [.Ah])))){K:BQ->AE->Prop}(h:K (.ret (.BU [])) ((AA a,qA (IQ [] x))::AG a b (qB (AA a) 1))):
 Aa P 195 [.iface 287 (.ptr b []),.d (.iface 3 (.int .i64 x))] a K:=by
 refine Xv hP AT Zac.1 Zac.2 A6.nil λ_ n=>?_;have k:Xd P.p 290=true:=by rw[hP];exact Yai
 have l:Xd P.p 196=true:=by rw[hP];exact nn
 have m:=Xk i;have f:AD ((AA a,qA [x])::AG a b (qB (AA a) 1)) b=some (qB (AA a) 1):=by
  simp_all
 have g:AD ((AA a,qA [x])::AG a b (qB (AA a) 1)) (AA a)=some (qA [x]):=by simp 
 have c:IQ [] x=[x]:=by rw[IQ,H6];simp
 rw[c]at h;simp[Y0s,k,l];refine Yjz hP i ?_;simp[f];refine dp (q:=[x]) hP g ?_;have o:IntKind.i64.wrap 0=0:=by decide
 simp[o];refine Znq (q:=[x]) (j:=0) hP f g (by simp) (by simp) ?_;have e:H6 [x] 0=[x]:=by rw[H6];simp
 simp[e];have r:Xo (AF (AA a) [AA a]) (AG a b (qB (AA a) 1))=AG a b (qB (AA a) 1):=Xl (by simp);refine⟨[AA a],by simp,?_,?_⟩<;>simp_all[AA,Xo,A5,AF,AN,Ao,V.Bg,Bu]
theorem NU{a b:Nat}{q:List Int}{x:Int}{f:AE}(t:AD f b=some (qB a q.length))(m:AD f a=some (qA q))(H:q.length<1000000){K:BQ->AE->Prop}(h:K (.ret (.BU [])) (AG (AG f a (qA (IQ q x))) b (qB a (q.length+1)))):
 Aa P 195 [.iface 287 (.ptr b []),.d (.iface 3 (.int .i64 x))] f K:=by
 refine Xv hP AT Zac.1 Zac.2 A6.nil λ_ z=>?_;have u:Xd P.p 290=true:=by rw[hP];exact Yai
 have v:Xd P.p 196=true:=by rw[hP];exact nn
 have s:¬b=a:=λe=>by simp_all
 have G:¬a=b:=λe=>s e.symm;have y:=Xk t;have w:=Xk m;have J:∀o c,AD (AG f a o) c=if c=a then some o else AD f c:=λo c=>Xe f a c ⟨_,m⟩;have n:∀o r c,AD (AG (AG f a o) b r) c=if c=b then some r else if c=a then some o else AD f c:=λo r c=>by
  simp_all[Xe,qB,A5]
 have k:AD (AG (AG f a (qA (q++[x]))) b (qB a (q.length+1))) b=some (qB a (q++[x]).length):=by simp_all
 have i:AD (AG (AG f a (qA (q++[x]))) b (qB a (q.length+1))) a=some (qA (q++[x])):=by simp_all
 simp[Y0s,u,v];refine Ytz hP t m (by omega) ?_;have l:AD (AG (AG f a (qA (q++[x]))) b (qB a (q.length+1))) b=some (qB a (q.length+1)):=by rw[n,Bv rfl]
 simp[l];have g:q.length+1=(q++[x]).length:=by simp
 rw[g];rw[g]at k i;refine dp hP i ?_;have F:IntKind.i64.wrap (q.length:Int)=q.length:=w_i _ (by omega);simp[F];rw[Dd,Ml]at k i;refine Znq (q:=q++[x]) (j:=q.length) hP (by rw[k];simp) i (by simp) (by omega) ?_;rw[Yg4 s];refine⟨[],by simp,?_,?_⟩
 ·rw[zZ];grind[Ao,BR,V.Bg,Bu,AF]
 ·rw[zZ];exact h
theorem P0{a b:Nat}{q:List Int}{f:AE}(k:AD f b=some (qB a q.length))(g:AD f a=some (qA q))(r:q.length<=1000000)(m:0<q.length){K:BQ->AE->Prop}(h:K (.ret (.d (.iface 3 (.int .i64 (Gf q))))) ((AA f,qA (Hh q))::AG (AG f a .Ar) b (qB (AA f) (q.length-1)))):
 Aa P 197 [.iface 287 (.ptr b [])] f K:=by
 refine Xv hP AT Zlh.1 Zlh.2 A6.nil λ_ H=>?_;have x:Xd P.p 289=true:=by rw[hP];exact Y1v
 have y:Xd P.p 196=true:=by rw[hP];exact nn
 have z:Xd P.p 292=true:=by rw[hP];exact jK
 have w:¬b=a:=λe=>by simp_all
 have G:=Xk k;have F:=Xk g;have s:∀o c,AD (AG f a o) c=if c=a then some o else AD f c:=λo c=>Xe f a c ⟨_,g⟩;have v:∀o,AD (AG f a o) b=some (qB a q.length):=λo=>by rw[s,A5 w,k]
 have u:∀o,AD (AG f a o) a=some o:=λo=>by rw[s,Bv rfl]
 have J:IntKind.i64.wrap ((q.length:Int)-1)=((q.length-1:Nat):Int):=by
  grind[w_i]
 have t:(I9 q 0 (q.length-1)).length=q.length:=W0 _ _ _;have l:(L7 q).length=q.length:=ZH q;simp[Zcz,x,y,z,k];refine dp hP g ?_;simp[J,k];refine dv (i:=0) (j:=q.length-1) hP g m (by omega) ?_;refine Y09 (q:=I9 q 0 (q.length-1)) (n:=q.length-1) hP (by rw[t];exact v _) (u _) (by omega) (by rw[t];exact r) λc=>?_;simp;refine Y1f (q:=L7 q) hP (by rw[l];exact v _) (u _) (by rw[l];exact r) (by rw[l];exact m) ?_;rw[l,Za,XT];have L:∀o,Xo (AF (AA f) [AA f]) (AG (AG f a .Ar) b o)=AG (AG f a .Ar) b o:=λo=>Xl (by simp);refine⟨[AA f],by simp,?_,?_⟩
 ·simp_all[Xo,A5,AF,AN,Ao,eP,V.Bg,Bu]
 simp_all[Xo,A5,AF,Gf,Hh]
omit hP
def Aa.C4{P:BE}{f:Nat}{d:List V}{b:AE}{K:BQ->AE->Prop}(h:FN b->Aa P f d b K):Aa P f d b K:=
 ⟨λw i a c e g=>(h c.C4).run w i a c e g⟩
theorem Wk.BG{a b:AE}(h:∀j,AD b j=AD a j)(e:FN b):Wk a b:=λw d c=>
 ⟨d,Tr.refl w d,λj x g=>c.Ba j x (by rw[<-h];exact g),λj o f=>by rw[h];exact c.Ev j o f,c.inj,c.FV,c.EZ,c.D1,e⟩
theorem Xso{p:Nat->Bool}:∀{L:AE},AN p L=true->∀e∈L,AN p [e]=true
|[],_,e,a=>by cases a
|(j,x)::r,h,e,a=>by
 have b:AN p [(j,x)]=true/\AN p r=true:=by cases x<;>simp_all[AN]
 rcases Fb.1 a with rfl|a
 ·exact b.1
 ·exact Xso b.2 e a
theorem xd{j:Nat}{x:Ob}:∀{L:AE},AD L j=some x->(j,x)∈L
|[],h=>by cases h
|(i,y)::r,h=>by
 rw[AD]at h;split at h
 ·simp_all
 ·exact WX _ (xd h)
def Xjf{p:Nat->Bool}{L:AE}(d:FN L)(h:∀j x,AD L j=some x->AN p [(j,x)]=true):AN p L=true:=by
 have b:∀M:AE,(∀e∈M,AN p [e]=true)->AN p M=true:=λM=>by
  induction M with
  |nil=>intro _;rfl
  |cons e r f=>
   intro c;obtain⟨j,x⟩:=e;have g:=c (j,x) (by simp);have i:=f λe a=>c e (WX _ a);cases x<;>simp_all[AN]
 exact b L λe a=>h e.1 e.2 (d.BG e a)
def Y8{p:Nat->Bool}{k:Nat}{x:Ob}(c:AN p [(k,x)]=true):∀{a:AE},AN p a=true->AN p (AG a k x)=true
|[],h=>h
|(j,y)::r,h=>by
 have b:AN p r=true:=by cases y<;>simp_all[AN]
 have d:=Y8 c b;rw[AG];split
 ·cases x<;>simp_all[AN]
 ·cases y<;>simp_all[AN]
theorem PE(a:AE)(k:Nat)(x:Ob):Uc (AG a k x)=Uc a:=by
 induction a<;>grind[AG,Uc]
abbrev VG:Ob:=.box 290 (.d (.agg [.Ah]))
abbrev lB(a n:Nat):Ob:=.box 35 (.sl a n)
abbrev lN:Ob:=.box 35 (.d .Ah)
structure AS(ob:AE)(s u o b:Nat)(ud:List D)(op q C3:List Int)(ob':AE):Prop where
 C4:FN ob'
 fr:∀j,j<AA ob->j≠s->AD ob' j=AD ob j
 us:AD ob' u=some (.BO 35 1 ud)
 GG:AD ob' o=some (qA op)
 qu:(AD ob' b=some VG/\q=[])\/∃a,AA ob<=a/\a≠o/\AD ob' b=some (qB a q.length)/\AD ob' a=some (qA q)/\∀c n,AD ob' s=some (lB c n)->c≠a
 ls:(AD ob' s=some lN/\C3=[])\/∃c,AA ob<=c/\c≠o/\AD ob' s=some (lB c C3.length)/\AD ob' c=some (qA C3)
 NY:∀p:Nat->Bool,(∀j,j<AA ob->p j=false)->(∀j∈Uc ob',p j=false)->AN p ob'=true
structure NA(ob:AE)(s u o b:Nat):Prop where
 s:s<AA ob
 u:AA ob<=u
 o:AA ob<=o
 b:AA ob<=b
section
variable {ob ob':AE} {s u o b:Nat} {ud:List D} {op q C3:List Int}
def AS.Ov(k:NA ob s u o b)(h:AS ob s u o b ud op q C3 ob')(d:List Int):AS ob s u o b ud d q C3 (AG ob' o (qA d)):=by
 have g:∀c,AD (AG ob' o (qA d)) c=if c=o then some (qA d) else AD ob' c:=λc=>Xe ob' o c ⟨_,h.GG⟩;have L:=k.s;have N:=k.o;have r:u≠o:=λe=>by have f:=h.us;rw[e,h.GG]at f;simp at f
 have z:b≠o:=λe=>by
  rcases h.qu with⟨f,_⟩|⟨a,_,_,f,_⟩<;>(rw[e,h.GG]at f;simp at f)
 refine⟨h.C4.set,λj m i=>by rw[g,A5 (by omega)];exact h.fr j m i,by rw[g,A5 r];exact h.us,by rw[g,Bv rfl],?_,?_,λp n K=>Y8 (by simp ) (h.NY p n (by grind[PE]))⟩
 ·rcases h.qu with⟨f,l⟩|⟨a,t,v,w,x,y⟩<;>grind
 ·rcases h.ls with⟨f,l⟩|⟨c,F,G,H,J⟩<;>grind
def AS.push(z:NA ob s u o b)(h:AS ob s u o b ud op q C3 ob'){P:BE}(U:P.p=prog){x:Int}(hq:q.length<1000000){K:BQ->AE->Prop}(T:∀f,AS ob s u o b ud op (IQ q x) C3 f->AA ob'<=AA f->K (.ret (.BU [])) f):
 Aa P 195 [.iface 287 (.ptr b []),.d (.iface 3 (.int .i64 x))] ob' K:=by
 have n1:=z.s;have n2:=z.u;have n3:=z.o;have n4:=z.b;have lO:=Xk h.GG;rcases h.qu with⟨H,l⟩|⟨a,X,L,Y,Z,a5⟩
 ·subst l;obtain⟨t,W⟩:∃t,t=AA ob':=⟨_,rfl⟩
  refine Go.Ab.LA U H (T _ ?_ ?_)
  ·rw[<-W]at lO⊢;have g:∀x c,AD ((t,x)::AG ob' b (qB t 1)) c=if c=t then some x else if c=b then some (qB t 1) else AD ob' c:=λx c=>by
    rw[AD,Xe ob' b c ⟨_,H⟩];grind
   have lb:=Xk H;have lu:=Xk h.us;rw[<-W]at lb lu;have uo:u≠b:=λe=>by have l:=h.us;simp_all
   have F:o≠b:=λe=>by have l:=h.GG;simp_all
   refine⟨⟨by simp_all,h.C4.set⟩,λj m k=>by rw[g,A5 (by omega),A5 (by omega)];exact h.fr j m k,by rw[g,A5 (by omega),A5 uo];exact h.us,by rw[g,A5 (by omega),A5 F];exact h.GG,.inr ⟨t,by omega,by omega,by simp_all[A5,Bv,ff]<;>omega,by rw[g,Bv rfl],λc n v=>?_⟩,?_,λp J w=>?_⟩
   ·rw[g,A5 (by omega),A5 (by omega)]at v;rcases h.ls with⟨Q,_⟩|⟨c',N,O,G,r⟩
    ·simp_all
    ·rw[G]at v;simp at v;have:=Xk r;omega
   ·rcases h.ls with⟨Q,g2⟩|⟨c,N,O,G,r⟩
    ·grind
    ·have aa:=Xk r;grind
   ·simp only[Uc,Dj,Fb,forall_eq_or_imp]at w;have i:∀j∈Uc ob',p j=false:=λj m=>w.2 j (by have:=PE ob' b (qB t 1);simp_all[Uc]);exact Y8 (by simp_all) (h.NY p J i)
  simp
 ·have ab:¬b=a:=λe=>by simp_all
  refine Go.Ab.NU U Y Z hq (T _ ?_ (by simp));have g:∀x y c,AD (AG (AG ob' a x) b y) c=if c=b then some y else if c=a then some x else AD ob' c:=λx y c=>by
   simp_all[Xe,qB,A5]
  have ub:u≠b:=λe=>by have l:=h.us;simp_all
  have ua:u≠a:=λe=>by have l:=h.us;simp_all
  have F:o≠b:=λe=>by have l:=h.GG;simp_all
  refine⟨h.C4.set.set,λj m k=>by rw[g,A5 (by omega),A5 (by omega)];exact h.fr j m k,by rw[g,A5 ub,A5 ua];exact h.us,by rw[g,A5 F,A5 (λe=>L e.symm)];exact h.GG,.inr ⟨a,X,L,by rw[g,Bv rfl,ff],by grind,λc n v=>?_⟩,?_,λp J w=>?_⟩
  ·grind
  ·rcases h.ls with⟨Q,g2⟩|⟨c,N,O,G,r⟩<;>grind
  ·have i:∀j∈Uc ob',p j=false:=λj m=>w j (by simp_all[PE]);exact Y8 (by simp_all[AN,V.Bg,Bu,Wv]) (Y8 (by simp ) (h.NY p J i))
def AS.pop(l:NA ob s u o b)(h:AS ob s u o b ud op q C3 ob'){P:BE}(Z:P.p=prog)(hq:q.length<=1000000)(L:q≠[]){K:BQ->AE->Prop}(Y:∀f,AS ob s u o b ud op (Hh q) C3 f->AA ob'<=AA f->K (.ret (.d (.iface 3 (.int .i64 (Gf q))))) f):
 Aa P 197 [.iface 287 (.ptr b [])] ob' K:=by
 have n1:=l.s;have n2:=l.u;have n3:=l.o;have n4:=l.b;rcases h.qu with⟨h1,k⟩|⟨a,a1,Q,G,H,a5⟩
 ·exact absurd k L
 have ab:¬b=a:=λe=>by simp_all
 have z:0<q.length:=S6.2 L;obtain⟨t,F⟩:∃t,t=AA ob':=⟨_,rfl⟩
 refine Go.Ab.P0 Z G H hq z (Y _ ?_ ?_)
 ·rw[<-F];have i:∀y c,AD (AG (AG ob' a .Ar) b y) c=if c=b then some y else if c=a then some .Ar else AD ob' c:=λy c=>by
   simp_all[Xe,qB,A5]
  have g:∀x y c,AD ((t,x)::AG (AG ob' a .Ar) b y) c=if c=t then some x else if c=b then some y else if c=a then some .Ar else AD ob' c:=λx y c=>by
   rw[AD,i];grind
  have lb:=Xk G;have lu:=Xk h.us;have lo:=Xk h.GG;have la:=Xk H;rw[<-F]at lb lu lo la;have ub:u≠b:=λe=>by have k:=h.us;simp_all
  have ua:u≠a:=λe=>by have k:=h.us;simp_all
  have T:o≠b:=λe=>by have k:=h.GG;simp_all
  refine⟨⟨by rw[i,A5 (by omega),A5 (by omega),F];exact X1 _,h.C4.set.set⟩,λj O w=>by rw[g,A5 (by omega),A5 (by omega),A5 (by omega)];exact h.fr j O w,by rw[g,A5 (by omega),A5 ub,A5 ua];exact h.us,by rw[g,A5 (by omega),A5 T,A5 (λe=>Q e.symm)];exact h.GG,.inr ⟨t,by omega,by omega,by simp_all[A5,Bv,Ymr]<;>omega,by rw[g,Bv rfl],λc n r=>?_⟩,?_,λp hp N=>?_⟩
  ·rw[g,A5 (by omega),A5 (by omega),A5 (by omega)]at r;rcases h.ls with⟨X,_⟩|⟨c',U,W,J,m⟩
   ·simp_all
   ·rw[J]at r;simp at r;have:=Xk m;omega
  ·rcases h.ls with⟨X,g2⟩|⟨c,U,W,J,m⟩
   ·grind
   ·have aa:=Xk m;grind
  ·simp only[Uc,Dj,Fb,forall_eq_or_imp]at N;have v:∀j∈Uc ob',p j=false:=λj O=>N.2 j (by have e:Uc (AG (AG ob' a .Ar) b (qB t (q.length-1)))=Uc ob':=(by rw[PE,PE]);simp_all[Uc]);exact Y8 (by simp_all) (Y8 (by simp ) (h.NY p hp v))
 simp
abbrev Zuy(s:Nat):Xf:=[(2,.ptr s []),(4,.d .Ah)]
abbrev LS(s:Nat)(st:Hc):Ob:=.lp 192 st (Zuy s)
def AS.yield(L:NA ob s u o b)(h:AS ob s u o b ud op q C3 ob'){P:BE}(hP:P.p=prog)(hL:PH P 192 [7] Dg Dh){y:Nat}(hy:AD ob y=some (LS s .ready))(Q:s≠y){x:Int}(hq:C3.length<1000000){K:BQ->AE->Prop}
 (hK:∀k,AS ob s u o b ud op q (C3++[x]) k->AA ob'<=AA k->K (.ret (.d (.bool true))) k):DI P y [.d (.int .i64 x)] ob' K:=by
 have n1:=L.s;have n2:=L.u;have n3:=L.o;have n4:=L.b;have ly:=Xk hy;have ys:¬y=s:=λe=>Q e.symm;have l:AD ob' y=some (LS s .ready):=by rw[h.fr y ly (λe=>Q e.symm)];exact hy
 have W:∀z c,AD (AG ob' y z) c=if c=y then some z else AD ob' c:=λz c=>Xe ob' y c ⟨_,l⟩;refine DI.Af (slk:=Zuy s) hP AT A6.nil hL Yl4 Yl5 l rfl ?_;rcases h.ls with⟨g1,g2⟩|⟨c,c1,c2,c3,c4⟩
 ·subst g2;obtain⟨t,O⟩:∃t,t=AA ob':=⟨_,rfl⟩
  have lo:=Xk h.GG;have lu:=Xk h.us;rw[<-O]at lo lu;have F:∀z w c,AD (AG (AG ob' y z) s w) c=if c=s then some w else if c=y then some z else AD ob' c:=λz w c=>by
   simp_all[Xe,lN,A5]
  have i:∀z w v c,AD (AG (AG (AG ob' y z) s w) y v) c=if c=y then some v else if c=s then some w else AD ob' c:=λz w v c=>by
   simp_all[Xe,A5,Bv]
  simp[wG,wH,l,Q,ys,g1,<-O,show ¬t=s by omega,show ¬t=y by omega];have hid:∀z w v,Uc (AG (AG (AG ob' y z) s w) y v)=Uc ob':=λz w v=>by simp[PE]
  have J:∀z w v,Xo (AF t [t]) (AG (AG (AG ob' y z) s w) y v)=AG (AG (AG ob' y z) s w) y v:=λz w v=>Xl (by simp[O]);have g:AS ob s u o b ud op q [x] ((t,qA [x])::AG (AG (AG ob' y (LS s .busy)) s (lB t 1)) y (LS s .ready)):=by
   have N:∀z w v x c,AD ((t,x)::AG (AG (AG ob' y z) s w) y v) c=if c=t then some x else if c=y then some v else if c=s then some w else AD ob' c:=λz w v x c=>by
    rw[AD,i];grind
   refine⟨⟨by rw[i,A5 (by omega),A5 (by omega),O];exact X1 _,h.C4.set.set.set⟩,λj f m=>?_,by rw[N,A5 (by omega),A5 (by omega),A5 (by omega)];exact h.us,by rw[N,A5 (by omega),A5 (by omega),A5 (by omega)];exact h.GG,?_,.inr ⟨t,by omega,by omega,by grind,by rw[N,Bv rfl]⟩,λp U H=>?_⟩
   ·rw[N,A5 (by omega)];split
    ·simp_all
    ·exact h.fr j f m
   ·rcases h.qu with⟨g3,g4⟩|⟨a,X,Y,Z,a4,a5⟩
    ·have:=Xk g3;grind
    ·have l1:=Xk Z;have l2:=Xk a4;grind
   ·simp only[Uc,Dj,Fb,forall_eq_or_imp]at H;have T:∀j∈Uc ob',p j=false:=λj f=>H.2 j (by simp_all[LS,lB,Uc]);exact Y8 (by simp_all) (Y8 (by simp_all) (Y8 (by simp_all) (h.NY p U T)))
  refine⟨[t],by simp,?_,?_⟩
  ·rw[Xo,A5 (by simp[AF]),J];refine g.NY _ (λj f=>by simp[AF];omega) (λj f=>?_);simp only[Uc,Dj,Fb]at f;rcases f with rfl|f
   ·simp[AF]
   ·have e:=hid (LS s .busy) (lB t 1) (LS s .ready);simp only[Uc]at e;rw[e]at f;obtain⟨z,hz⟩:=ga (ob:=ob') (j:=j) f;simp_all
  ·rw[Xo,A5 (by simp[AF]),J];grind[Qx,XT]
 ·have cy:¬c=y:=by omega
  have F:∀z w d,AD (AG (AG ob' y z) c w) d=if d=c then some w else if d=y then some z else AD ob' d:=λz w d=>by
   simp_all[Xe,qA,A5]
  have i:∀z w v d,AD (AG (AG (AG ob' y z) c w) s v) d=if d=s then some v else if d=c then some w else if d=y then some z else AD ob' d:=λz w v d=>by
   rw[Xe _ s d ⟨lB c C3.length,by grind⟩,F]
  simp[wG,wH,l,W,F,i,Q,ys,cy,show ¬y=c by omega,show ¬s=c by omega,c3,c4];have lc:=Xk c4;have G:∀z w v r d,AD (AG (AG (AG (AG ob' y z) c w) s v) y r) d=if d=y then some r else if d=s then some v else if d=c then some w else AD ob' d:=λz w v r d=>by
   rw[Xe _ y d ⟨z,by grind⟩,i];simp_all
  have hid:∀z w v r,Uc (AG (AG (AG (AG ob' y z) c w) s v) y r)=Uc ob':=λz w v r=>by simp[PE]
  have J:∀z w v r,Xo (AF (AA ob') []) (AG (AG (AG (AG ob' y z) c w) s v) y r)=AG (AG (AG (AG ob' y z) c w) s v) y r:=λz w v r=>Xl (by simp);have g:AS ob s u o b ud op q (C3++[x]) (AG (AG (AG (AG ob' y (LS s .busy)) c (.BO 3 1 (C3.map iD++[iD x]))) s (lB c (C3.length+1))) y (LS s .ready)):=by
   refine⟨h.C4.set.set.set.set,λj f m=>?_,?_,by rw[G,A5 (by omega),A5 (by omega),A5 (λe=>c2 e.symm)];exact h.GG,?_,.inr ⟨c,c1,c2,by simp_all,by grind⟩,λp U H=>?_⟩
   ·rw[G];split
    ·simp_all
    ·rw[A5 (by omega)];exact h.fr j f m
   ·have uc:u≠c:=λe=>by have h2:=h.us;simp_all
    rw[G,A5 (by omega),A5 (by omega),A5 uc];exact h.us
   ·rcases h.qu with⟨g3,g4⟩|⟨a,X,Y,Z,a4,a5⟩
    ·have bc:b≠c:=λe=>by simp_all
     exact .inl ⟨by grind,g4⟩
    ·have bc:b≠c:=λe=>by simp_all
     have ca:=a5 c _ c3;refine .inr ⟨a,X,Y,by grind,by grind,λd n hc=>?_⟩;simp_all
   ·rw[hid]at H;exact Y8 (by simp_all) (Y8 (by simp_all[AN,V.Bg,Bu,Wv]) (Y8 (by simp ) (Y8 (by simp_all) (h.NY p U H))))
  refine⟨by omega,[],by simp,?_,?_⟩
  ·rw[J];refine g.NY _ (λj f=>?_) (λj f=>?_)
   ·grind[Xk,AF]
   ·rw[hid]at f;obtain⟨z,hz⟩:=ga f;simp_all
  simp_all
end
@[simp]def lenMK_nm{a:AE}{K:V->Prop}:Lw a K (.d .Cj)=K (.d (.int .i64 0)):=by simp only[Lw]
def Fj(a:Int->List Int)(n k:Nat):List Int:=(List.range n).map λ(x:Nat)=>if x<k then ((a (x:Int)).length:Int) else 0
def Ymh(a:Int->List Int)(n:Nat):Fj a n 0=List.replicate n 0:=by
 unfold Fj;refine RD (by simp) λi b c=>by simp
theorem aE(a:Int->List Int)(k:Nat):qK a (k+1)=if (a (k:Int)).length=0 then IQ (qK a k) (k:Int) else qK a k:=by
 simp[qK,List.range_succ]
theorem qM(a:Int->List Int):∀k,(qK a k).length<=k
|0=>by simp[qK]
|k+1=>by
 have:=qM a k;grind[aE,ff]
theorem Yyy(a:Int->List Int)(n:Nat):Fj a n n=QA a n:=by
 simp_all[Fj,QA,List.map_congr_left,Bv,List.mem_range]
theorem Ymg(a:Int->List Int){n k:Nat}(h:k<n):(Fj a n k).set k ((a (k:Int)).length:Int)=Fj a n (k+1):=by
 unfold Fj;refine RD (by simp) λi b c=>?_;grind
abbrev DR(P:BE):Prop:=PH P 192 [7] Dg Dh
include hP
theorem Ykj{a:AE}{K:V->Prop}(h:K (.d (.int .i64 0))):AW P 196 [.d .Ah] a K:=by
 refine AK hP AT (ds:=[.Ah]) sA.1 sA.2 A6.nil ?_;simp[qV];exact h
theorem Yur{q:List Int}{a:Nat}{b:AE}(c:AD b a=some (qA q)){K:V->Prop}(h:K (.d (.int .i64 q.length))):AW P 196 [.sl a q.length] b K:=by
 refine QU (n:=5) (ds:=[.AH 1 (q.map iD)]) (by simp_all) ?_;refine AK hP AT (ds:=[.AH 1 (q.map iD)]) sA.1 sA.2 A6.nil ?_;simp[qV,V.G2];exact h
set_option maxHeartbeats 2000000 in
theorem Y03(hL:DR P){g:Gr}{n m y s gb:Nat}{mi:Nat->Nat}{f:AE}(hy:AD f y=some (LS s .ready))(hs:AD f s=some lN)(ac:AD f gb=some (.box 238 (.agg [.d (.int .i64 n),.mp m])))(hg:GM f m g mi)(hn:QJ n g)(bx:n<1000000){K:BQ->AE->Prop}
 (h:∀L,FN L->(∀j,j<AA f->j≠s->AD L j=AD f j)->((AD L s=some lN/\Zm (X5 g) n=[])\/∃c,AA f<=c/\AD L s=some (lB c (Zm (X5 g) n).length)/\AD L c=some (qA (Zm (X5 g) n)))->K (.ret (.BU [])) L):
 Aa P 193 [.hd true y,.ptr gb []] f K:=by
 refine Aa.C4 λaw=>?_;refine Xv hP AT Zlf.1 Zlf.2 A6.nil λ_ bh=>?_;obtain⟨es,lm,kk,fe⟩:=hg.Sn;have sy:s≠y:=λe=>by simp_all
 have sg:gb≠s:=λe=>by simp_all
 have sm:m≠s:=λe=>by simp_all
 have ly:=Xk hy;have ls:=Xk hs;have lg:=Xk ac;have bm:=Xk lm;obtain⟨W,ae⟩:∃W,W=Ka n λx=>Dt (X5 g) n x:=⟨_,rfl⟩
 have ag:∀u o b Q,NA f s u o b->AS f s u o b W (List.replicate n 0) [] [] Q->Aw [0,1,3,4,5,19,20] (Zh P [] YY)
  (Zu 0 (V2 (Zh P [] (S2.block 2 (S2.loop [0,3,4,5] YX)) (KF (AA f) [] K)) (KF (AA f) [] K)))
  [(0,V.hd true y),(1,V.ptr gb []),(3,.sl u n),(4,.sl o n),(5,V.ptr b []),(19,V.d (D.int IntKind.i64 n)),(20,V.d (D.int IntKind.i64 0))] Q:=λu o b Q hN hA=>by
  have n1:=hN.s;have n2:=hN.u;have n3:=hN.o;have n4:=hN.b;have al:∀k,(Fj (X5 g) n k).length=n:=λk=>by simp[Fj]
  -- what rounds O
  have O:∀(t:Nat)(T:AE)(op q w:List Int),AA f<=t->AS f s u o b W op q w T->AN (AF t (Uc T)) T=true/\AF t (Uc T) y=false/\AF t (Uc T) gb=false/\AF t (Uc T) u=false/\AF t (Uc T) o=false/\AF t (Uc T) b=false:=λt T op q w ht N=>by
   refine⟨N.NY _ (λj Y=>by simp[AF];omega) (λj Y=>by simp[AF,Y]),by simp[AF];omega,by simp[AF];omega,by simp[AF,Wv N.us],by simp[AF,Wv N.GG],?_⟩;rcases N.qu with⟨g1,_⟩|⟨a,_,_,g1,_⟩<;>simp_all[AF,Wv]
  refine Aw.go (ι:=Nat×AE) (λz=>[(0,.hd true y),(1,.ptr gb []),(3,.sl u n),(4,.sl o n),(5,.ptr b []),(19,.d (.int .i64 n)),(20,.d (.int .i64 z.1))]) (λz=>z.2) (λz=>z.1<=n/\AS f s u o b W (Fj (X5 g) n z.1) (qK (X5 g) z.1) [] z.2) (λz=>n-z.1) (0,Q) ⟨FL _,by rw[Ymh];exact hA⟩ (by simp) rfl ?_;rintro⟨k,T⟩ ⟨hk,N⟩ R rn re rr rp;simp only at hk N rn;have l1:AD T gb=some (.box 238 (.agg [.d (.int .i64 n),.mp m])):=by rw[N.fr gb lg sg];exact ac
  have l2:AD T m=some (.map es):=by rw[N.fr m bm sm];exact lm
  by_cases H:k<n
  ·have wr:=w_s k (by omega);have l3:=N.GG;have fk:=fe k;have ft:AA f<=AA T:=by have:=Xk l3;omega
   have CG:∀F,AS f s u o b W (Fj (X5 g) n (k+1)) (qK (X5 g) (k+1)) [] F->R .normal [(0,.hd true y),(1,.ptr gb []),(3,.sl u n),(4,.sl o n),(5,.ptr b []),(19,.d (.int .i64 n)),(20,.d (.int .i64 (IntKind.i64.wrap ((k:Int)+1))))] F:=λF hy=>by
    rw[wr];obtain⟨k1,k2,k3,k4,k5,k6⟩:=O (AA T) F _ _ _ ft hy;refine rn (Uc F) (k+1,F) _ _ ⟨by omega,hy⟩ (by omega) (by simp) (Y7 λj Y=>Y) (by simp[k2,k3,k4,k5,k6]) k1
   have nl:(X5 g k).length<=1000000:=by
    have Z:=hn k;have h2:X5 g k ⊆ (List.range n).map λ(x:Nat)=>(x:Int):=λv hv=>by
     have:=Z.2 v hv;rw[E2];exact⟨v.toNat,by grind,by omega⟩
    have:=WW Z.1 h2;simp at this;omega
   have so:=N.Ov hN (Fj (X5 g) n (k+1));have a0:AD (AG T o (qA (Fj (X5 g) n (k+1)))) o=some (qA (Fj (X5 g) n (k+1))):=so.GG;have ab:(List.map iD (Fj (X5 g) n k)).set k (.int .i64 (X5 g k).length)=(Fj (X5 g) n (k+1)).map iD:=by
    grind[Ymg,List.map_set]
   have bv:k<(Fj (X5 g) n (k+1)).length:=by rw[al];exact H
   have bz:∀h:k<(Fj (X5 g) n (k+1)).length,(Fj (X5 g) n (k+1))[k]=(X5 g k).length:=λh=>by simp[Fj]
   cases ai:FF g k with
   |none=>
    rw[ai]at fk;have nk:X5 g k=[]:=by simp[X5,ai]
    simp[gE,H,l1,l2,kk,fk,l3,al];have e0:(List.map iD (Fj (X5 g) n k)).set k (D.int IntKind.i64 0)=(Fj (X5 g) n (k+1)).map iD:=by rw[<-ab,nk];rfl
    rw[e0];refine so.push hN hP (x:=(k:Int)) (by grind[qM,X5]) λF hy _=>?_;simp[gF];exact CG F (by rw[aE,Bv (by rw[nk];rfl)];exact hy)
   |some i=>
    rw[ai]at fk;have hi:=(Uu ai).1;have li:AD T (mi i)=some (.map (D3 g[i].2)):=by
     have Z:=hg.cz i hi;rw[N.fr _ (Xk Z) (λe=>by grind)];exact Z
    simp[gE,H,l1,l2,kk,fk,l3,al,li];have en:X5 g k=g[i].2:=by grind[X5]
    have el:(D3 g[i].2).length=(X5 g k).length:=by rw[en];simp[D3]
    have ez:(D3 g[i].2=[])↔(X5 g k).length=0:=by grind
    rw[el,ab];refine⟨λhe=>?_,λhe=>?_⟩
    ·refine so.push hN hP (x:=(k:Int)) (by grind[qM,X5]) λF hy _=>?_;simp[gF];exact CG F (by rw[aE,Bv (ez.1 he)];exact hy)
    ·simp[gF];exact CG _ (by rw[aE,A5 (λh0=>he (ez.2 h0))];exact so)
  ·obtain rfl:k=n:=by omega
   simp[gE];refine re _ _ _ ?_;simp;have bg:∀h:Int,(X5 g h).Nodup:=λh=>(hn h).1;refine Aw.go (ι:=O1×AE) (λz=>[(0,.hd true y),(3,.sl u k),(4,.sl o k),(5,.ptr b [])]) (λz=>z.2) (λz=>HB (X5 g) k [] z.1.1 z.1.2.1 z.1.2.2/\AS f s u o b W z.1.1 z.1.2.1 z.1.2.2 z.2/\PV (Dt (X5 g) k) (k+1-z.1.2.2.length) z.1=Zm (X5 g) k) (λz=>k-z.1.2.2.length) ((QA (X5 g) k,qK (X5 g) k,[]),T) ⟨Zny,by grind[Yyy],rfl⟩ (by simp) rfl ?_;clear rn re rr rp l1 l2 N;rintro⟨⟨op,q,w⟩,F⟩ ⟨hI,hB,hO⟩ R rn re rr rp;simp only at hI hB hO rn;have sh:=hI.Ib;rw[Dd]at sh;have CG:q=[]->∀sl,R (.exit 2) sl F:=λhq sl=>by
    refine re _ _ _ ?_;have eo:Zm (X5 g) k=w:=by
     rw[<-hO,show k+1-w.length=(k-w.length)+1 by omega,PV,Bv hq]
    obtain⟨k1,_⟩:=O (AA f) F _ _ _ (B9 _) hB;refine⟨Uc F,by simp,by rw[Y7 λj Y=>Y];exact k1,?_⟩;rw[Y7 λj Y=>Y];refine h F hB.C4 hB.fr ?_;rw[eo];rcases hB.ls with g1|⟨c,c1,_,c3,c4⟩
    ·exact .inl g1
    grind
   rcases hB.qu with⟨g1,g2⟩|⟨a,a1,a2,a3,a4,a5⟩
   ·simp[wJ,g1];refine Ykj hP ?_;simp;exact CG g2 _
   ·simp[wJ,a3];refine Yur hP a4 ?_;by_cases hq:q=[]
    ·simp[hq];exact CG hq _
    ·have bj:0<q.length:=S6.2 hq;simp[bj];refine hB.pop hN hP (by omega) hq λoz hz bt=>?_;obtain⟨ak,x0,xk⟩:=Yq9 bg hq hI;obtain⟨x,N⟩:∃x,x=Gf q:=⟨_,rfl⟩
     rw[<-N]at ak x0 xk⊢;simp;refine⟨by rw[hz.fr y ly (λe=>sy e.symm),hy];simp,hz.yield hN hP hL hy sy (by omega) λow hw bq=>?_⟩;obtain⟨X,rfl⟩:=RF x0;have aq:X<k:=by omega
     have a6:=hw.us;have ba:W.length=k:=by rw[ae];simp[Ka]
     have an:∀h:X<W.length,W[X]=QH (Dt (X5 g) k X):=λh=>by simp[ae,Ka]
     obtain⟨U,hU⟩:∃U,U=Dt (X5 g) k X:=⟨_,rfl⟩
     rw[<-hU]at an ak;have bp:U.length<=k:=by rw[hU];exact Yhz _ _ _
     have be:∀v∈U,0<=v/\v<k:=λv hv=>by
      rw[hU]at hv;obtain⟨j,Z,_,rfl⟩:=qN.1 hv;omega
     have bc:U.Nodup:=by rw[hU];exact xV _ _
     have fw:AA f<=AA F:=by have:=Xk hB.GG;omega
     -- the end of a round
     have next:∀sl ov l q',HB (X5 g) k [] l q' (w++[(X:Int)])->AS f s u o b W l q' (w++[(X:Int)]) ov->U.foldl KP (op,Hh q)=(l,q')->R .normal ((0,V.hd true y)::(3,V.sl u k)::(4,V.sl o k)::(5,V.ptr b [])::sl) ov:=λsl ov l q' i1 a1 e1=>by
      obtain⟨k1,k2,k3,k4,k5,k6⟩:=O (AA F) ov _ _ _ fw a1;refine rn (Uc ov) ((l,q',w++[(X:Int)]),ov) _ _ ⟨i1,a1,?_⟩ ?_ (by simp) (Y7 λj Y=>Y) (by simp[k2,k4,k5,k6]) k1
      ·rw[<-hO,show k+1-w.length=(k-w.length)+1 by omega,PV,A5 hq];have e2:k+1-(w++[(X:Int)]).length=k-w.length:=by simp
       simp only[e2,UW,<-N,<-hU,e1]
      ·have:=i1.Ib;simp;omega
     have af:∀dU:D,(U≠[]->dU=X4 U)->Aw [0,3,4,5,66,67,68] (Zh P [] YW) (Zu 4 (Zu 3 R))
      [(0,V.hd true y),(3,V.sl u k),(4,V.sl o k),(5,V.ptr b []),(66,V.d dU),(67,V.d (D.int IntKind.i64 U.length)),(68,V.d (D.int IntKind.i64 0))] ow:=λdU bf=>by
      refine Aw.go (ι:=Nat×List Int×List Int×AE) (λz=>[(0,.hd true y),(3,.sl u k),(4,.sl o k),(5,.ptr b []),(66,.d dU),(67,.d (.int .i64 U.length)),(68,.d (.int .i64 z.1))]) (λz=>z.2.2.2)
       (λz=>z.1<=U.length/\HB (X5 g) k (U.drop z.1) z.2.1 z.2.2.1 (w++[(X:Int)])/\AS f s u o b W z.2.1 z.2.2.1 (w++[(X:Int)]) z.2.2.2/\(U.drop z.1).foldl KP (z.2.1,z.2.2.1)=U.foldl KP (op,Hh q)) (λz=>U.length-z.1) (0,op,Hh q,ow) ⟨FL _,ak,hw,rfl⟩ (by simp) rfl ?_
      rintro⟨j,l,q',ov⟩ ⟨Y,i1,a1,e1⟩ R2 a9 bn b2 b1;simp only at Y i1 a1 e1 a9;by_cases H:j<U.length
      ·have wr:=w_s j (by omega);have au:=bf (λe=>by rw[e]at H;simp at H);have hr:=be _ (DS H);rw[EV H]at i1 e1;have av:U[j]∉U.drop (j+1):=by
        have:=bc;rw[<-QW j U,EV H,Io]at this;exact(List.nodup_cons.1 this.2.1).1
       have i2:=Yhr hr.1 hr.2 av i1;rw[List.foldl_cons]at e1;obtain⟨G,ao⟩:=RF hr.1;have ap:G<k:=by omega
       have bd:∀h:j<U.length,U[j]=(G:Int):=λh=>ao;have aj:l.length=k:=i1.len;have az:=a1.GG;have fv:AA f<=AA ov:=by have:=Xk az;omega
       have cn:=i1.cnt G ap;have ln:Lu (X5 g G) (w++[(X:Int)])<=k:=by
        refine IE (List.length_filter_le _ _) ?_;have Z:=hn G;have h2:X5 g G ⊆ (List.range k).map λ(x:Nat)=>(x:Int):=λv hv=>by
         have:=Z.2 v hv;rw[E2];exact⟨v.toNat,by rw[List.mem_range];omega,by omega⟩
        have:=WW Z.1 h2;simpa using this
       have bb:l.getD G 0=l[G]'(by omega):=Jh (by omega);have w1:IntKind.i64.wrap (l[G]'(by omega)-1)=l[G]'(by omega)-1:=w_i _ (by
        split at cn<;>omega)
       have tn:(G:Int).toNat=G:=rfl;have te:KP (l,q') U[j]=(l.set G (l[G]'(by omega)-1),if l[G]'(by omega)-1=0 then IQ q' (G:Int) else q'):=by
        simp only[KP,ao,tn,bb]
       rw[te]at i2 e1;simp only at i2 e1;obtain⟨z,ay⟩:∃z,z=l[G]'(by omega)-1:=⟨_,rfl⟩
       rw[<-ay]at i2 e1 w1;obtain⟨J,aa⟩:∃J,J=l.set G z:=⟨_,rfl⟩
       have ab:(List.map iD l).set G (.int .i64 z)=J.map iD:=by rw[aa,Il]
       rw[<-aa]at i2 e1;have so:=a1.Ov hN J;have a0:AD (AG ov o (qA J)) o=some (qA J):=so.GG;have a8:J.length=k:=by rw[aa];simpa using aj
       have a7:∀h:G<J.length,J[G]=z:=λh=>by simp[aa]
       have ad:∀F q2,q2=(if z=0 then IQ q' (G:Int) else q')->AS f s u o b W J q2 (w++[(X:Int)]) F->R2 .normal [(0,.hd true y),(3,.sl u k),(4,.sl o k),(5,.ptr b []),(66,.d dU),(67,.d (.int .i64 U.length)),(68,.d (.int .i64 (IntKind.i64.wrap ((j:Int)+1))))] F:=λF q2 bk ax=>by
        rw[wr];obtain⟨k1,k2,k3,k4,k5,k6⟩:=O (AA ov) F _ _ _ fv ax;rw[<-bk]at i2 e1;refine a9 (Uc F) (j+1,_,q2,F) _ _ ⟨by omega,i2,ax,e1⟩ (by omega) (by simp) (Y7 λj Y=>Y) (by simp[k2,k4,k5,k6]) k1
       simp[wI,H,au,X4,bd,ap,az,aj,JD,NJ,w1,ab,<-ay,a8,a7,a0];have bl:q'.length<1000000:=by
        have h2:=i1.Ib;rw[Dd]at h2;omega
       simp only[au,X4]at ad;refine⟨λhe=>?_,λhe=>?_⟩
       ·refine so.push hN hP (x:=(G:Int)) bl λF hy _=>?_;simp[wK];exact ad F _ (by rw[Bv he]) hy
       ·simp[wK];exact ad _ _ (by rw[A5 he]) so
      ·obtain rfl:j=U.length:=by omega
       simp[wI];refine bn _ _ _ ?_;rw[GN]at i1 e1;exact next _ ov l q' i1 a1 e1.symm
     by_cases ah:U=[]
     ·simp[aq,a6,ba,an,QH,ah];have:=af .Ah (λh=>absurd ah h);simpa[ah]using this
     ·simp[aq,a6,ba,an,QH,ah,X4];exact af (X4 U) (λ_=>rfl)
 have mk:∀u o b r,AA f<=u->AA f<=o->AA f<=b->u≠o->(u=AA f+1/\o=AA f+2/\r=[(o,qA (List.replicate n 0)),(u,.BO 35 1 W)]\/o=AA f/\u=AA f+2/\r=[(u,.BO 35 1 W),(o,qA (List.replicate n 0))])->b=AA f+3->AS f s u o b W (List.replicate n 0) [] [] ((b,VG)::(r++f)):=λu o b r Z h2 h3 h4 h5 h6=>by
  have N:∀c,AD ((b,VG)::(r++f)) c=if c=b then some VG else if c=o then some (qA (List.replicate n 0)) else if c=u then some (.BO 35 1 W) else AD f c:=λc=>by
   grind[AD]
  have on:FN ((b,VG)::(r++f)):=by
   have f0:∀k,AA f<=k->AD f k=none:=λk hk=>Ys f _ hk;have b0:¬o=b:=by omega
   have b3:¬u=b:=by omega
   have bo:¬o=u:=λe=>h4 e.symm;rcases h5 with⟨_,_,rfl⟩|⟨_,_,rfl⟩
   ·exact⟨by simp_all,by simp_all,by simpa using f0 u Z,aw⟩
   ·exact⟨by simp_all,by simp_all,by simpa using f0 o h2,aw⟩
  refine⟨on,λj Y bu=>by rw[N,A5 (by omega),A5 (by omega),A5 (by omega)],by simp_all<;>omega,by simp_all<;>omega,.inl ⟨by rw[N,Bv rfl],rfl⟩,.inl ⟨by rw[N,A5 (by omega),A5 (by omega),A5 (by omega)];exact hs,rfl⟩,λp hp hi=>?_⟩;have bi:AN p f=true:=CE (λj e=>by
   simp_all[AA,AF]) f (bh [])
  rcases h5 with⟨_,_,rfl⟩|⟨_,_,rfl⟩<;>simp[AN,bi]
 have um:∀Q,(∀j x,AD f j=some x->AD Q j=some x)->GM Q m g mi:=λQ Z=>⟨⟨es,Z _ _ lm,kk,fe⟩,λi hi=>Z _ _ (hg.cz i hi)⟩;have zz:List.replicate n (D.int IntKind.i64 0)=(List.replicate n (0:Int)).map iD:=by simp
 simp[Zcx,ac];refine⟨jQ hP hg hn (by omega) ?_,jQ hP hg hn (by omega) ?_,by omega,jQ (mi:=mi) (g:=g) hP (um _ λj x Y=>by simp_all) hn (by omega) ?_⟩
 ·rw[<-ae];simp[ac];refine⟨by omega,?_⟩;have e:=mk (AA f+1) (AA f+2) (AA f+3) _ (by omega) (by omega) (by omega) (by omega) (.inl ⟨rfl,rfl,rfl⟩) rfl;have e2:=ag _ _ _ _ ⟨ls,by omega,by omega,by omega⟩ e;simpa[qA]using e2
 ·rw[<-ae];simp[ac];refine⟨by omega,?_⟩;have e:=mk (AA f+1) (AA f+2) (AA f+3) _ (by omega) (by omega) (by omega) (by omega) (.inl ⟨rfl,rfl,rfl⟩) rfl;have e2:=ag _ _ _ _ ⟨ls,by omega,by omega,by omega⟩ e;simpa[qA]using e2
 ·rw[<-ae];simp[ac];have e:=mk (AA f+2) (AA f) (AA f+3) _ (by omega) (by omega) (by omega) (by omega) (.inr ⟨rfl,rfl,rfl⟩) rfl;have e2:=ag _ _ _ _ ⟨ls,by omega,by omega,by omega⟩ e;simpa[qA]using e2
omit hP
def GP(n:Int)(g:Gr):Prop:=∀e∈g,e.2.Nodup/\∀x∈e.2,0<=x/\x<n
def Yt4{n:Int}{g:Gr}(h:GP n g)(k:Int):GP n (HT g k):=by
 unfold HT;split
 ·intro e a;rw[FM]at a;rcases a with a|a
  ·exact h e a
  simp_all
 ·exact h
def Yt6{n:Int}{l:List Int}{x:Int}(h:l.Nodup/\∀x∈l,0<=x/\x<n)(a:0<=x/\x<n):(Ph l x).Nodup/\∀z∈Ph l x,0<=z/\z<n:=by
 grind[Ph,List.nodup_append]
def Yt3{n:Int}{g:Gr}(h:GP n g)(k:Int){x:Int}(d:0<=x/\x<n):GP n (Km g k x):=by
 unfold Km;split
 ·exact h
 ·rename_i i c;obtain⟨b,_⟩:=Uu c;intro e a;rcases List.mem_or_eq_of_mem_set a with a|rfl
  ·exact h e a
  ·simp only[Nu,EW b,Option.getD_some];exact Yt6 (h _ (DS b)) d
def Ya7{n h:Int}:∀{l:List At}{g a:Gr},GP n g->Iw n h g l=some a->GP n a
|[],g,a,b,e=>by simp_all[Iw]
|f::r,g,a,b,e=>by
 rw[Iw]at e;split at e
 next c=>exact Ya7 (Yt3 b h c) e
 ·cases e
def Ygw{n:Int}:∀{l:List Ap}{g a:Gr},GP n g->K9 n g l=some a->GP n a
|[],g,a,b,e=>by simp_all[K9]
|f::r,g,a,b,e=>by
 rw[K9]at e;split at e
 ·split at e
  ·cases e
  next d c=>exact Ygw (Ya7 (Yt4 b _) c) e
 ·cases e
def xx{y:Al}{g:Gr}(h:NF y=some g):QJ y.AB.length g:=by
 have d:GP y.AB.length g:=Ygw (λe b=>by cases b) h;intro k;unfold X5;split
 next i c=>obtain⟨a,_⟩:=Uu c;rw[Nu,EW a];exact d _ (DS a)
 ·simp
def HR(y:Al):Option (List Int):=match NF y with
|none=>none
|some g=>if (Zm (X5 g) y.AB.length).length<y.AB.length then none else some (Zm (X5 g) y.AB.length)
def SN(y:Al):Int:=if NF y=none then 140 else 0
def Y1u:Xd prog 193=true:=by kernel_rfl
include hP
theorem Y08(O:DR P){g:Gr}{n m N:Nat}{X:Nat->Nat}{a:AE}(w:AD a N=some (.box 238 (.agg [.d (.int .i64 n),.mp m])))(U:GM a m g X)(hn:QJ n g)(F:n<1000000){K:BQ->AE->Prop}
 (h0:Zm (X5 g) n=[]->K (.ret (.d .Ah)) a) (h1:∀c,AA a<=c->K (.ret (.sl c (Zm (X5 g) n).length)) ((c,qA (Zm (X5 g) n))::a)):
 Aa P 192 [.d .Ah,.fn 193 [] [.ptr N []]] a K:=by
 refine Aa.C4 λq=>?_;refine Aa.wk ?_;refine Xqk hP AT Zle Zgv A6.nil λ_ aa=>?_;have L:Xd P.p 193=true:=by rw[hP];exact Y1u
 obtain⟨f,T⟩:∃f,f=AA a:=⟨_,rfl⟩
 have lt:∀j o,AD a j=some o->j<f:=λj o h=>by rw[T];exact Xk h
 simp[Y8f,L,<-T];obtain⟨b,u⟩:∃b,b=(f+1,Ob.lp 192 Hc.ready [(2,V.ptr f []),(4,V.d D.Ah)])::(f,Ob.box 35 (V.d D.Ah))::a:=⟨_,rfl⟩
 have Z:AA b=f+2:=by
  simp_all
 have lA:∀j,j<f->AD b j=AD a j:=λj z=>by rw[u,AD,A5 (by omega),AD,A5 (by omega)]
 have W:∀j o,AD a j=some o->AD b j=some o:=λj o h=>by simp_all
 have v:GM b m g X:=⟨by obtain⟨es,e1,e2⟩:=U.Sn;simp_all,λi hi=>W _ _ (U.cz i hi)⟩
 rw[<-u];refine⟨O,Y03 hP O (s:=f) (y:=f+1) (by rw[u];simp ) (by rw[u];simp ) (W _ _ w) v hn F λk J fr ls=>?_⟩;rw[Z]at fr;have H:AD k (f+1)=some (LS f .ready):=by simp_all
 have ab:∀j,AD (AG k (f+1) .Ar) j=if j=f+1 then some .Ar else AD k j:=λj=>Xe k (f+1) j ⟨_,H⟩;have ad:∀j,j<f->AD (AG k (f+1) .Ar) j=AD a j:=λj z=>by grind
 have ac:∀j x,AD a j=some x->∀l,AN (AF f l) [(j,x)]=true:=λj x G l=>by grind[Xso,xd]
 have r:FN (AG k (f+1) .Ar):=J.set;rcases ls with⟨g1,g2⟩|⟨c,L,Y,c3⟩
 ·simp[H,g1];have t:∀j,AD (Xo (AF f []) (AG k (f+1) .Ar)) j=AD a j:=λj=>by
   rw[W8];by_cases z:j<f
   ·simp_all
   simp_all[Bv,AF,Ys]
  refine⟨[],by simp,Xjf r.drop λj x G=>?_,a,Wk.BG (λj=>(t j).symm) q,h0 g2⟩;simp_all
 ·have t:∀j,AD (Xo (AF f [c]) (AG k (f+1) .Ar)) j=AD ((c,qA (Zm (X5 g) n))::a) j:=λj=>by
   rw[W8,AD];by_cases z:j<f
   ·simp_all<;>omega
   ·by_cases Q:j=c
    ·simp_all[A5,AF,Bv]<;>omega
    ·rw[Bv (by simp[AF,Q];omega),A5 (λe=>Q e.symm),Ys a j (by omega)]
  simp[H,Y];refine⟨[c],by simp[AF],Xjf r.drop λj x G=>?_,_,Wk.BG (λj=>(t j).symm) ⟨Ys a c (by omega),q⟩,h1 c (by omega)⟩;rw[t,AD]at G;grind[AN]
theorem Yty(j:DR P){g:Gr}{n m gb:Nat}{o:Nat->Nat}{a:AE}(b:AD a gb=some (.box 238 (.agg [.d (.int .i64 n),.mp m])))(k:GM a m g o)(l:QJ n g)(f:n<1000000){K:BQ->AE->Prop}
 (i:Zm (X5 g) n=[]->K (.ret (.d .Ah)) a) (p:∀c,AA a<=c->K (.ret (.sl c (Zm (X5 g) n).length)) ((c,qA (Zm (X5 g) n))::a)):
 Aa P 129 [.fn 193 [] [.ptr gb []]] a K:=by
 refine Xv hP AT Zjt.1 Zjt.2 A6.nil λ_ h=>?_;simp[Zb6];refine Y08 hP j b k l f (λe=>?_) (λc q=>?_)
 ·exact⟨[],by simp,by simpa using h [],by simpa using i e⟩
 ·have r:Xo (AF (AA a) [c]) ((c,qA (Zm (X5 g) n))::a)=(c,qA (Zm (X5 g) n))::a:=by
   simp[Xo,A5,AF,Xl,B9]
  refine⟨[c],by simp[Bu,V.Bg,AF],?_,?_⟩<;>simp_all
theorem X9c{n m:Nat}{a:AE}{K:BQ->AE->Prop}(e:m<AA a)(h:K (.ret (.fn 193 [] [.ptr (AA a) []])) ((AA a,.box 238 (.agg [.d (.int .i64 n),.mp m]))::a)):
 Aa P 130 [.agg [.d (.int .i64 n),.mp m]] a K:=by
 refine Xv hP AT Zju.1 Zju.2 A6.nil λ_ b=>?_;simp[Zb7];have c:Xo (AF (AA a) [AA a]) ((AA a,Ob.box 238 (V.agg [V.d (D.int IntKind.i64 n),V.mp m]))::a)=(AA a,Ob.box 238 (V.agg [V.d (D.int IntKind.i64 n),V.mp m]))::a:=by
  simp[Xo,A5,AF,Xl,B9]
 refine⟨[AA a],by simp[Bu,V.Bg,AF],?_,?_⟩<;>simp_all
theorem Rt(J:DR P){y:Al}(W:y.BJ)(U:y.CB)(w:y.AB.length<1000000):Gu P y (SN y) (HR y):=by
 refine⟨λob K h=>?_,λl k=>?_⟩
 ·refine AK hP AT (ds:=[y.enc]) Z07.1 Z07.2 A6.nil ?_;have Z:y.enc.shape.size=6:=by rfl
  have yz:y.enc.sz=6:=rfl;simp[Zvo,Z];refine⟨rfl,Y1g hP W U (λs=>?_) (λg s=>?_)⟩
  ·have b:HR y=none:=by unfold HR;rw[s]
   have p:SN y=140:=by unfold SN;rw[Bv s]
   have v:=h .Ah (by grind[L6,D.le]);rw[b,p]at v;simpa  using v
  ·obtain⟨n,r⟩:∃n,n=y.AB.length:=⟨_,rfl⟩
   rw[<-r]at w⊢;obtain⟨a,G⟩:∃a,a=EB 5 g g.length++[(3,.map (Ek 5 g g.length)),(0,.box 30 (.d y.enc))]:=⟨_,rfl⟩
   rw[<-G];have sh:(V.agg [V.d (D.int IntKind.i64 (n:Int)),V.mp 3]).shape=.node [.leaf,.leaf]:=rfl;have x:AD a 3=some (.map (Ek 5 g g.length)):=by simp_all[Vv,R8,AD]
   have Y:∀i (q:i<g.length),AD a (5+2*i)=some (.map (D3 g[i].2)):=λi q=>by simp_all[Uy,YQ]
   have Q:=Xk x;have F:∀e,(∀j o,AD a j=some o->AD e j=some o)->GM e 3 g (λi=>5+2*i):=λe u=>⟨⟨_,u _ _ x,λh=>YP 5 g h g.length,λh=>ZN h⟩,λi q=>u _ _ (Y i q)⟩;obtain⟨f,O⟩:∃f,f=AA a:=⟨_,rfl⟩
   have b:HR y=if (Zm (X5 g) n).length<n then none else some (Zm (X5 g) n):=by
    simp_all[HR]
   have p:SN y=0:=by simp_all[SN,A5]
   have H:QJ n g:=by simp_all[xx]
   rw[p]at h;simp[<-O];have t:AA ((f,Ob.box 238 (V.agg [V.d (D.int IntKind.i64 n),V.mp 3]))::a)=f+1:=by simp_all
   refine X9c hP (by rw[t];omega) ?_;rw[t];refine Yty hP J (gb:=f+1) (by simp ) (F _ λj o hj=>by simp_all) H w (λX=>?_) (λc L=>?_)
   ·simp;rw[X]at b;refine⟨λm=>?_,λm=>?_⟩
    ·rw[Bv (by simpa using m)]at b;grind[L6,D.le]
    ·rw[A5 (by omega)]at b;grind[L6,D.le,X4]
   ·have z:AA ((f+1,Ob.box 238 (V.agg [V.d (D.int IntKind.i64 n),V.mp 3]))::(f,Ob.box 238 (V.agg [V.d (D.int IntKind.i64 n),V.mp 3]))::a)=f+2:=by simp_all
    have N:f+2<=c:=by rw[<-z];exact L
    simp[show ¬c=f by omega];refine⟨λm=>?_,λm=>?_⟩
    ·rw[Bv m]at b;grind[L6,D.le]
    ·rw[A5 (by omega)]at b;rw[b]at h;exact h (X4 (Zm (X5 g) n)) (D.le.refl _)
 ·unfold HR at k;split at k
  ·cases k
  ·rename_i g T;split at k
   ·cases k
   ·cases k;have:=(Ygc (need:=X5 g) (n:=y.AB.length) λh=>(xx T h).1).2.2.1;omega
omit hP
def n8:Nat:=0x10084db02014a0d201fbc60680076ef0d305f04e01ea121e521c01a09b01a80c3449c71d333e07101c01f3e292101914a0d2018bc6068c08042aaa0170b3087057016c090171de44900301509442413c00101109b01101502515c5a70b533e07101301f3e292139e00f0d200ebc6703523042c040b31cc05700cc0900d74617600b0550d22f17471396a320ac5952300e0881ab16e05714a044300248086
def ir8:S:=zS [] n8
def lt8:S2:=zL [] [] n8
def Et8:=(by cbv:lt8=_)
def ok8:w_P prog 8 1 ir8 [.c 2 7 true,.t 3,.t 4] [] lt8:=w_p (by kernel_rfl)
def Xj(s:B):Al×Int×Int:=if s.length > 65536 then (Yy,0,2) else match Jl s 0 with
|.B0 e=>(Yy,e,90)
|.ok l=>match Vp l with
 |.ok x _=>(x.A7,0,0)
 |.B0 a e=>(Yy,VF s.length a,OH a e)
def Jw:D.le Ri Yy.enc:=.agg (.cons (.nil 1) (.cons (.nil 5) (.cons (.nil 6) (.cons (.nil 5) (.cons (.nil 5) (.cons (.nil 3) .nil))))))
def Ymp(s:B):∃d,T2 s=.BU [.d d,.d (.int .i64 (Xj s).2.1),.d (.int .i64 (Xj s).2.2)]/\D.le d (Xj s).1.enc:=by
 unfold T2 Xj;split
 ·simp[Jw]
 ·cases a:Jl s 0 with
  |B0 e=>exact⟨_,rfl,Jw⟩
  |ok l=>
   simp only;cases b:Vp l with
   |B0 c e=>exact⟨_,rfl,Jw⟩
   |ok x r=>exact⟨_,rfl,x.Cx (ZF (Q0 _ _ _ a).1 b)⟩
theorem Qf(s:B):(Xj s).1.BJ/\(Xj s).1.CB/\(Xj s).1.AB.length<=16:=by
 unfold Xj;split
 ·grind[Yv,Yy]
 ·split
  ·grind[Yv,Yy]
  ·rename_i l a;split
   next x r b=>have:=ZF (Q0 _ _ _ a).1 b;exact⟨x.Nj this,x.VN this,by have:=this.CB.AB;simp_all[Bm.A7]⟩
   grind[Yv,Yy]
def HP(y:Al):Int:=Mt y (SN y) (HR y)
include hP
theorem xB(b:Ez P)(s:B){a:AE}{K:V->Prop}(h:∀d,D.le d (Xj s).1.enc->K (.BU [.d d,.d (.int .i64 (Xj s).2.1),.d (.int .i64 (Xj s).2.2)])):AW P 6 [.d (.AV s)] a K:=by
 obtain⟨d,e,c⟩:=Ymp s;simp_all[Yue]
theorem X9s(F:Ez P)(G:DR P)(s:B){L:AE}{K:V->Prop}
 (v:(Xj s).2.2≠0->K (.BU [.d Ze,.d (.int .i64 (Xj s).2.1),.d (.int .i64 (Xj s).2.2)]))
 (w:(Xj s).2.2=0->(Wp (Xj s).1).2≠0->K (.BU [.d Ze,.d (.int .i64 0),.d (.int .i64 (Wp (Xj s).1).2)]))
 (x:(Xj s).2.2=0->(Wp (Xj s).1).2=0->HP (Wp (Xj s).1).1≠0->K (.BU [.d Ze,.d (.int .i64 0),.d (.int .i64 (HP (Wp (Xj s).1).1))]))
 (z:(Xj s).2.2=0->(Wp (Xj s).1).2=0->HP (Wp (Xj s).1).1=0->∀d,D.le d (.agg [(Wp (Xj s).1).1.enc,L6 (HR (Wp (Xj s).1).1)])->K (.BU [.d d,.d (.int .i64 0),.d (.int .i64 0)])):
 AW P 8 [.d (.AV s)] L K:=by
 refine AK hP AT (ds:=[.AV s]) ok8.1 ok8.2 A6.nil ?_;obtain⟨m,n,W⟩:=Qf s;obtain⟨p,q,X⟩:=XL m n;have H:=Rt hP G p q (by omega);have U:Ze.shape=.node [.node [.leaf,.leaf,.leaf,.leaf,.leaf,.leaf],.leaf]:=rfl;have b:∀{d:D}{y:Al},D.le d y.enc->d.shape=.node [.leaf,.leaf,.leaf,.leaf,.leaf,.leaf]/\d.sz=6/\∃e,d=.agg e:=λ{d y} h=>
  ⟨Jk h,by have:=(D.le.same h).1;rw[<-this];rfl,by cases d<;>simp[D.le,Al.enc]at h⊢⟩
 have g:∀{d:D},(∃e,d=.agg e)->(V.d d).isAgg=true:=λ{d} h=>by obtain⟨e,rfl⟩:=h;rfl
 simp[Et8];refine xB hP F s (λd j=>?_);obtain⟨i,T,u⟩:=b j;by_cases a:(Xj s).2.2=0
 rotate_left
 ·simp[i,a];exact v a
 simp[i,a];refine⟨g u,AW.le (ys:=[(Xj s).1.enc]) (B8.cons j B8.nil) (Xqu hP m n λr l=>?_)⟩;obtain⟨t,Y,O⟩:=b l;by_cases c:(Wp (Xj s).1).2=0
 rotate_left
 ·simp[t,c];exact w a c
 simp[t,c];refine⟨g O,AW.le (ys:=[(Wp (Xj s).1).1.enc]) (B8.cons l B8.nil) (jT hP p q H (λf=>?_) (λJ o k=>?_))⟩
 ·simp ;exact x a c f
 ·have N:o.shape=.leaf:=by
   rw[Jk k];cases HR (Wp (Xj s).1).1<;>rfl
  have Q:(Wp (Xj s).1).1.enc.shape=.node [.leaf,.leaf,.leaf,.leaf,.leaf,.leaf]:=rfl;simp[N,Q];exact z a c J _ (D.le.agg (.cons (.refl _) (.cons k .nil)))
omit hP
end Go.Ab
