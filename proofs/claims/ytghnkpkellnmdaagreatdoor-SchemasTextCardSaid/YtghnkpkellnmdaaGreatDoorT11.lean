/- Joined texts, part 11 of 13. The law: tokens alone decide, and what is printed is compiled to the same tables. Condition: the program is the seat's; its examples hold; its package variables are laid and its range Xgn a function is known. -/
import Derived.Test.YtghnkpkellnmdaaGreatDoorT9
import Derived.Test.YtghnkpkellnmdaaGreatDoorT10
set_option maxRecDepth 100000
set_option linter.unusedSimpArgs false
set_option linter.unusedVariables false
set_option linter.unusedSectionVars false
set_option linter.defProp false
namespace Go.Ab
open Go Go.Proofs
open Go.Proofs.Tryz (prog)
variable {P:BE}(hP:P.p=prog)
abbrev KC(x1 x2 x3 x4 x5 x6:List D)(o:D):D:=.agg [.agg [.AH 1 x1,.AH 5 x2,.AH 6 x3,.AH 5 x4,.AH 5 x5,.AH 3 x6],o]
include hP
set_option maxHeartbeats 4000000 in
theorem Ygz{x1 x2 x3 x5 x6:List D}{r:D}{dg:List D}(h:D.BN dg=D.BN (List.replicate 32 (.int .u8 0)))(x:dg.length=32)(v:(KT.int .u8).D9 dg=true)(u:FK dg dg=true)
 (y:∀a K,K (.BU [.d (KC [] [] [] [] [] [] (.AH 1 [])),.d (iD 0)])->AW P 11 [.d (.agg [.Ah,.Ah,.Ah,.Ah,.Ah,.Ah])] a K)
 (k:∀a K,K (.BU [.d (KC [] [] [] [] [] [] (.AH 1 [])),.d (iD 0),.d (iD 0)])->AW P 8 [.d (.AV [])] a K)
 (l:∀a K,K (.BU [.d Ze,.d (iD 6),.d (iD 100)])->AW P 8 [.d (.AV [115,99,104,101,109,97])] a K)
 (m:∀a K,K (.BU [.d Ze,.d (iD 0),.d (iD 141)])->AW P 8 [.d (.AV bQ)] a K)
 (n:∀a K,K (.BU [.d (KC x1 x2 x3 [r] x5 x6 (.AH 1 [iD 1,iD 0])),.d (iD 0),.d (iD 0)])->AW P 8 [.d (.AV bT)] a K)
 (o:∀a K,K (.BU [.d (KC x1 x2 x3 [r] x5 x6 (.AH 1 [iD 1,iD 0])),.d (iD 0),.d (iD 0)])->AW P 8 [.d (.AV sI)] a K)
 (p:∀a K,K (.BU [.d (.agg dg),.d (iD 0)])->AW P 15 [.d (KC x1 x2 x3 [r] x5 x6 (.AH 1 [iD 1,iD 0]))] a K)
 (q:∀a K,K (.d (.bool true))->AW P 9 [.d (KC [] [] [] [] [] [] (.AH 1 [])),.d Ze] a K)
 (i:∀a K,K (.d (iD 160))->AW P 16 [.d (.agg [.agg [.Ah,.Ah,.Ah,.Ah,.Ah,.Ah],.AH 1 [iD 0]])] a K)
 (j:∀a K,K (.d (iD 0))->AW P 16 [.d Ze] a K)
 (w:∀a K,K (.d (.bool true))->AW P 17 [.d (.AH 1 [iD 1,iD 0]),.d (.AH 1 [iD 1,iD 0])] a K)
 (s:∀a K,K (.d (.bool true))->AW P 18 [.d (KC x1 x2 x3 [r] x5 x6 (.AH 1 [iD 1,iD 0])),.d (KC x1 x2 x3 [r] x5 x6 (.AH 1 [iD 1,iD 0]))] a K)
 (t:∀a K,K (.d (.bool false))->AW P 18 [.d (KC x1 x2 x3 [r] x5 x6 (.AH 1 [iD 1,iD 0])),.d (KC [] [] [] [] [] [] (.AH 1 []))] a K)
 {a:AE} {K:V->Prop} (z:K (.d (.bool true))):AW P 5 [] a K:=by
 refine AK hP AT (ds:=[]) ok5.1 ok5.2 A6.nil ?_;have e:(KC x1 x2 x3 [r] x5 x6 (.AH 1 [iD 1,iD 0])).shape=.node [.node [.leaf,.leaf,.leaf,.leaf,.leaf,.leaf],.leaf]:=rfl;have f:(KC [] [] [] [] [] [] (.AH 1 [])).shape=.node [.node [.leaf,.leaf,.leaf,.leaf,.leaf,.leaf],.leaf]:=rfl;have g:Ze.shape=.node [.node [.leaf,.leaf,.leaf,.leaf,.leaf,.leaf],.leaf]:=rfl;simp[Et5];refine y _ _ ?_;simp[Y01];refine k _ _ ?_;simp[Y00];refine l _ _ ?_;simp[Y0z];refine m _ _ ?_;simp[Y0y];refine n _ _ ?_;simp[Y0x];refine o _ _ ?_;simp[oG,-List.reduceReplicate];have b:Sh.Br (D.BN (List.replicate 32 (D.int IntKind.u8 0)))=32:=by decide
 have c:(D.agg dg).shape=Sh.node (D.BN (List.replicate 32 (D.int IntKind.u8 0))):=by simp_all
 refine p _ _ ?_;simp[Yos,b,-List.reduceReplicate];refine⟨h,p _ _ ?_⟩;simp[Y0w,-zn,↓Wj,↓ql,↓qn,↓qi,↓wg,↓zy,↓we,↓wh,↓wc,↓wo,e,f,g,c,b,-List.reduceReplicate];refine⟨h,q _ _ ?_⟩;simp[-zn,↓Wj,↓ql,↓qn,↓qi,↓wg,↓zy,↓we,↓wh,↓wc,↓wo,e,f,g,c,b,-List.reduceReplicate];refine q _ _ ?_;simp[-zn,↓Wj,↓ql,↓qn,↓qi,↓wg,↓zy,↓we,↓wh,↓wc,↓wo,e,f,g,c,b,-List.reduceReplicate];refine i _ _ ?_;simp[-zn,↓Wj,↓ql,↓qn,↓qi,↓wg,↓zy,↓we,↓wh,↓wc,↓wo,e,f,g,c,b,-List.reduceReplicate];refine j _ _ ?_;simp[-zn,↓Wj,↓ql,↓qn,↓qi,↓wg,↓zy,↓we,↓wh,↓wc,↓wo,e,f,g,c,b,-List.reduceReplicate];refine w _ _ ?_;simp[-zn,↓Wj,↓ql,↓qn,↓qi,↓wg,↓zy,↓we,↓wh,↓wc,↓wo,e,f,g,c,b,-List.reduceReplicate];refine s _ _ ?_;have F:Sh.Br (D.BN dg)=32:=by rw[h];exact b
 simp[-zn,↓Wj,↓ql,↓qn,↓qi,↓wg,↓zy,↓we,↓wh,↓wc,↓wo,e,f,g,c,b,-List.reduceReplicate,u,x,v,F];refine t _ _ ?_;simp[-zn,↓Wj,↓ql,↓qn,↓qi,↓wg,↓zy,↓we,↓wh,↓wc,↓wo,e,f,g,c,b,-List.reduceReplicate,u];exact z
omit hP
def Rp:Hj.BJ/\Hj.CB:=by
 grind[XL,Qf,bT,Zap]
def Xtu:D.le Ze (.agg [Yy.enc,X4 []]):=.agg (.cons Jw (.cons (.nil 1) .nil))
def Zav:Iv Yy=.agg [Yy.enc,X4 []]:=by rfl
def Zau:Iv Hj=.agg [Hj.enc,X4 [1,0]]:=by rw[Iv,UU.2];rfl
def xL(a s:List UInt8):∃X,SU a s=.agg ((F5 X).map Cn):=⟨_,rfl⟩
def eU:∀l:List Int,FK (l.map Cn) (l.map Cn)=true
|[]=>rfl
|x::r=>by
 have h:=eU r;simp_all[FK,DN,Cn]
def jM:∀l:List Int,(KT.int .u8).D9 (l.map Cn)=true
|[]=>rfl
|x::r=>by
 have h:=jM r;simp_all[KT.D9,KT.CI,Cn]
include hP
theorem yE(c:B5 P 5 C7){s o:D}{txt:B}(p:s.shape=.node [.leaf,.leaf,.leaf,.leaf,.leaf,.leaf])(k:o.shape=.leaf)(e:∃l,s=.agg l)(j:txt.length<=9223372036854775807)
 (i:∀b K,K (.d (iD 0))->AW P 16 [.d (.agg [s,o])] b K)
 (m:∀b K,K (.BU [.d (.AV txt),.d (iD 0)])->AW P 14 [.d s] b K) {b:AE} {K:V->Prop}
 (h:K (.BU [.d (SU [115,99,104,101,109,97,115] txt),.d (iD 0)])):AW P 15 [.d (.agg [s,o])] b K:=by
 refine AK hP AT (ds:=[.agg [s,o]]) Z0k.1 Z0k.2 A6.nil ?_;obtain⟨l,rfl⟩:=e;have f:D.BN l=[.leaf,.leaf,.leaf,.leaf,.leaf,.leaf]:=by
  simp_all
 have g:Sh.Br (D.BN (List.replicate 32 (D.int IntKind.u8 0)))=32:=by decide
 have q:List.replicate 32 (D.int .u8 0)=(List.replicate 32 (0:Int)).map Cn:=rfl;simp[Zqm,k,f,-List.reduceReplicate];refine i _ _ ?_;simp[-List.reduceReplicate];refine m _ _ ?_;simp[-List.reduceReplicate];refine Ynj hP c (by simp) j ?_;simp[-List.reduceReplicate];have a:(SU [115,99,104,101,109,97,115] txt).shape=Sh.node (D.BN (List.replicate 32 (D.int .u8 0))):=by
  obtain⟨X,n⟩:∃X,SU [115,99,104,101,109,97,115] txt=.agg ((F5 X).map Cn):=⟨_,rfl⟩
  grind[D.shape,eT]
 refine⟨a,g,by rw[a];exact g,rfl,h⟩
theorem dw(a:Ez P)(b:DR P){s:B}{y:Al}{t:D}(c:(Xj s).2=(0,0))(f:Wp (Xj s).1=(y,0))(i:HP y=0)(j:Iv y=t){g:AE}{K:V->Prop}(h:K (.BU [.d t,.d (iD 0),.d (iD 0)])):AW P 8 [.d (.AV s)] g K:=
 XF hP a b s (λe=>absurd (by rw[c]) e) (λ_ e=>absurd (by rw[f]) e) λ_ _=>by simp_all
theorem Yuu(g:Ez P)(f:DR P)(j:B5 P 5 C7){t:B}(p:t.length<=9223372036854775807)(k:∀c K,K (.BU [.d (.AV t),.d (iD 0)])->AW P 14 [.d Hj.enc] c K){c:AE}{K:V->Prop}(i:K (.d (.bool true))):AW P 5 [] c K:=by
 obtain⟨X,o⟩:=xL [115,99,104,101,109,97,115] t;have n:((F5 X).map Cn).length=32:=by rw[Kk,TW]
 have m:=Rt hP f Yv.1 Yv.2 (by decide);have q:=Rt hP f Rp.1 Rp.2 (by decide);refine Ygz hP (x1:=[.AV [105]]) (x2:=[]) (x3:=[(cK [97] [105]).enc,(cK [98] [105]).enc]) (x5:=[]) (x6:=[]) (r:=(Zux [97] [120] [98]).enc) (dg:=(F5 X).map Cn) (by rw[eT];rfl) n (jM _) (eU _)
  (λc K h=>AW.le (.cons Jw .nil) (Yj7 hP f Yv.1 Yv.2 (by decide) (by exact h)))
  (λc K h=>dw hP g f (by rw[Yq7]) (by simp[Yq7,SB]) SB.2.1 Zav h)
  (λc K h=>XF hP g f _ (λ_=>by rw[qL];exact h) (λe=>absurd e (by rw[qL];decide)) (λe=>absurd e (by rw[qL];decide)))
  (λc K h=>XF hP g f _ (λe=>absurd (by rw[Zm0]) e) (λ_ e=>absurd Zm6 e) (λ_ _=>by simp_all[Ze6,A5]))
  (λc K h=>dw hP g f Zm1 Zap UU.1 Zau h)
  (λc K h=>dw hP g f Zmz Zm5 UU.1 Zau h)
  (λc K i=>?_)
  (λc K h=>AW.le (.cons (.refl _) (.cons Xtu .nil)) (ZS hP Yv.1 (l:=[]) (by decide) h))
  (λc K h=>AW.le (.cons (.agg (.cons Jw (.cons (.refl _) .nil))) .nil) (YB hP (a:=[0]) Yv.1 Yv.2 m SB.2.1 SB.2.2 (by decide) h))
  (λc K h=>AW.le (.cons Xtu .nil) (YB hP (a:=[]) Yv.1 Yv.2 m SB.2.1 SB.2.2 (by decide) h))
  (λc K h=>zP hP (l:=[1,0]) (by decide) h)
  (λc K h=>jV hP (x:=Hj) Rp.1 (a:=[1,0]) (b:=[1,0]) (by decide) (by simpa using h))
  (λc K h=>jV hP (x:=Hj) Yv.1 (a:=[1,0]) (b:=[]) (by decide) (by simpa using h)) i
 refine yE hP j (txt:=t) rfl rfl ⟨_,rfl⟩ p (λc K h=>YB hP (a:=[1,0]) Rp.1 Rp.2 q UU.1 UU.2 (by decide) h) k ?_;rw[o];exact i
omit hP
def Yy6:PW Hj=.BU [.d (.AV (Zb (FO Hj))),.d (iD 0)]:=by kernel_rfl
def NW{P:BE}(c:P.p=prog)(b:Ez P)(e:Oy P)(g:DR P)(a:B5 P 5 C7){i:AE}{K:V->Prop}(f:K (.d (.bool true))):AW P 5 [] i K:=
 Yuu c b g a (t:=Zb (FO Hj)) (Nat.le_of_ble_eq_true (by kernel_rfl)) (λ_ _ h=>jU c b e Hj Rp.1 (by rw[Yy6];exact h)) f
include hP
set_option maxHeartbeats 4000000 in
theorem Fx(k:∀(i:AE)(K:V->Prop),K (.d (.bool true))->AW P 5 [] i K)(m:Ez P)(T:Oy P)(v:DR P)(U:B5 P 5 C7)(s:B){i:AE}{K:V->Prop}(u:K (.d (.bool true))):AW P 4 [.d (.AV s)] i K:=by
 refine AK hP AT (ds:=[.AV s]) ok4 lf4 A6.nil ?_;obtain⟨p1,p2,p3⟩:=Qf s;obtain⟨H,q2,q3⟩:=XL p1 p2;have z:∀y:Al,y.enc.sz=6:=λ_=>rfl;have ss:∀y:Al,y.enc.shape.size=6:=λy=>by rfl
 have J:∀y:Al,y.enc.shape=.node [.leaf,.leaf,.leaf,.leaf,.leaf,.leaf]:=λ_=>rfl;have tS:=λs=>(Xtd s).1;have tA:=λs=>(Xtd s).2;simp[lt4];refine k _ _ ?_;simp[Ycn];by_cases hs:(1500:Int)<s.length
 ·simp[lU,hs];exact u
 simp[lU,hs];refine Yj8 hP m s ?_;simp[J]
 -- behind the tokens' part
 have k4:∀(r:Xf)(E:AE),(E=[]\/∃d,E=[(2,.box 37 (.d d))])->Zh P [] XA (Hp [RV.t 2] K) ((6,.ptr 1 [])::(8,.d (.int .i64 (F6 s)))::r) (E++[(1,.box 37 (.d (Gg s))),(0,.box 30 (.d (Xj s).1.enc))]):=λr E hE=>by
  by_cases q:F6 s=0
  rotate_left
  ·have n1:(F6 s != 0)=true:=by simpa using q
   simp[XA,n1];exact u
  obtain⟨n,c1,Z⟩:=Yln q;obtain⟨o,L⟩:=Zaf (y:=(Wp (Xj s).1).1) Z;have hT:Gg s=.agg [(Wp (Xj s).1).1.enc,X4 o]:=by
   have W:HR (Wp (Xj s).1).1=some o:=L;rw[Gg,Bv q,Iv,W];rfl
  obtain⟨t,F,f⟩:=Ygn s c1;rw[hT];generalize hz:(Wp (Xj s).1).1=y at *;have io:(X4 o).shape=.leaf:=rfl;have tP:(D.agg [y.enc,X4 o]).shape=.node [.node [.leaf,.leaf,.leaf,.leaf,.leaf,.leaf],.leaf]:=rfl;have N:t.length<=65536->F6 t=F6 s:=λh=>(fq (by rw[f h]) (by rw[f h,n])).1;have O:t.length<=65536->Gg t=Gg s:=λh=>(fq (by rw[f h]) (by rw[f h,n])).2;obtain⟨X,hX⟩:=xL [115,99,104,101,109,97,115] t;have c:D.BN ((F5 X).map Cn)=D.BN (List.replicate 32 (.int .u8 0)):=by rw[eT];rfl
  have w:((F5 X).map Cn).length=32:=by rw[Kk,TW]
  have g:=jM (F5 X);have x:=eU (F5 X);have Y:=Rt hP v H q2 (by omega);have Q:t.length<=65536->∀i K,K (.BU [.d (.agg ((F5 X).map Cn)),.d (iD 0)])->AW P 15 [.d (.agg [y.enc,X4 o])] i K:=λj i K h=>by
   refine yE hP U (txt:=t) rfl rfl ⟨_,rfl⟩ (by omega) (λi K h=>YB hP (a:=o) H q2 Y Z L (Y.len o L) (by simpa using h)) (λi K h=>jU hP m T y H (by rw[F];exact h)) ?_;rw[hX];exact h
  generalize (F5 X).map Cn=dg at c w g x Q;have zs:Sh.Br (D.BN (List.replicate 32 (D.int IntKind.u8 0)))=32:=by decide
  have ds:(D.agg dg).shape=Sh.node (D.BN (List.replicate 32 (D.int IntKind.u8 0))):=by simp_all
  rcases hE with rfl|⟨d,rfl⟩
  all_goals
   simp[XA,q,J];refine⟨rfl,jU hP m T y H ?_⟩;rw[F];by_cases j:(65536:Int)<t.length
   ·simp[oE,j];exact u
   simp[oE,j];refine jS hP m v t λp=>?_;rw[N (by omega),O (by omega),hT,q];simp[J,Yom,-List.reduceReplicate];refine Q (by omega) _ _ ?_;simp[Yol,zs,-List.reduceReplicate];refine⟨c,ss y,Q (by omega) _ _ ?_⟩;have sz:Sh.Br (D.BN dg)=32:=by rw[c];exact zs
   simp[Yok,J,x,w,g,sz,-List.reduceReplicate];refine⟨c,ZS hP H (Y.len o L) ?_⟩;simp;exact u
 have G:∀r:Xf,Zh P [] lT (Hp [RV.t 2] K) ((0,.d (.AV s))::r) [(0,.box 30 (.d (Xj s).1.enc))]:=λr=>by
  simp[lT];refine jS hP m v s λp=>?_;simp[tS,Yoq];refine Y1i hP s ?_;rw[NK,A5 (by omega)];cases j:Jl s 0 with
  |B0 e=>
   simp[SP,oF];exact k4 _ [] (.inl rfl)
  |ok l=>
   obtain⟨hv,hj⟩:=Q0 s 0 l j;simp[SP,oF];refine Yny hP T (l:=l) (.inl rfl) (by have:=gd _ s 0 l (B9 _) j;omega) ?_;rw[K3,Bv (Fl.2 hv)];have ht:¬(65536:Int)<(Zb l).length:=by omega
   simp[Yop,ht];intro _;refine jS hP m v (Zb l) λp=>?_;obtain⟨g1,g2⟩:=X0c (by omega) j (by omega);obtain⟨N,O⟩:=fq g1 g2;rw[N,O];simp[tS,Yoo];refine⟨tA s,Yuz hP v s ?_⟩;simp[Yon];exact k4 _ [_] (.inr ⟨_,rfl⟩)
 by_cases n:(Xj s).2.2=0
 rotate_left
 ·have n0:((Xj s).2.2==0)=false:=by simpa using n
  simp[lS,ZY,n0];exact G _
 simp[lS,n,J];refine⟨rfl,Yj6 hP p1 λb _=>?_⟩;cases b with
 |false=>
  simp[ZY];exact u
 |true=>
  simp[ZY];exact G _
omit hP
end Go.Ab
