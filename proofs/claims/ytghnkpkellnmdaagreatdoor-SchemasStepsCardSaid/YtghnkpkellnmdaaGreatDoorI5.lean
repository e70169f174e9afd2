/- Joined texts, part 5 of 13. Contracts: the parser's readers of Xs. Condition: the program is the seat's, and its intervals are laid. -/
import Derived.Test.YtghnkpkellnmdaaGreatDoorI4
import Derived.Test.YtghnkpkellnmdaaGreatDoorProg
import Derived.KernelRfl
set_option maxRecDepth 100000
set_option linter.unusedSimpArgs false
set_option linter.unusedVariables false
set_option linter.unusedSectionVars false
set_option linter.defProp false
namespace Go.Ab
open Go Go.Proofs
open Go.Proofs.Tryz (prog)
variable {P:BA}(hP:P.p=prog)
def uZ:S2:=zL [] [] Yjx
def QB:=(by cbv:uZ=_)
def Zio:Ks:=.pre (.rg [.op (some 2) (.alloc 46 .Ad),.op (some 3) (.alloc 3 (.int .i64 0)),.op (some 4) (.alloc 31 (.int .i64 0))] [(0,(.a (.t 0))),(2,(.a (.t 2))),(3,(.a (.t 3))),(4,(.a (.t 4)))] [])
 (.pre (.seq (.rg [] [(0,(.a (.t 0))),(2,(.a (.t 2))),(3,(.a (.t 3))),(4,(.a (.t 4))),(9,(.b (.CR .gtr (.t 0) (.t 1)) (.u (.DI (.t 0)) (.a (.t 0))) (.a (.int .i64 65536))))] [])
 (.cond (.t 9) (.seq (.rg [.op none (.st 1 (.t 2) .Ad),.op none (.st 1 (.t 3) (.int .i64 0)),.op none (.st 1 (.t 4) (.int .i64 2))] [(2,(.a (.t 2))),(3,(.a (.t 3))),(4,(.a (.t 4)))] [])
 (.ret)) (.skip)))
 (.EX [.op (some 10) (.c (.ES 47 [] [(.t 2),(.t 3),(.t 4)]))] [(0,(.a (.t 0))),(2,(.a (.t 2))),(3,(.a (.t 3))),(4,(.a (.t 4))),(10,(.a (.t 10)))] 10
 (.seq (.rg [.op (some 12) (.Bn 48 []),.lt 11 [] (.a (.t 0)),.op (some 13) (.c (.Fa [(.AU []),(.int .i64 0),(.agg (List.replicate 256 (.int .i64 0))),.Ad] [(0,(.t 11)),(2,(.t 12))])),.op (some 14) (.box 122 (.t 13)),.op (some 5) (.JQ 67 4 (.t 14) (.t 14) [3])] [(0,(.a (.t 0))),(2,(.a (.t 2))),(3,(.a (.t 3))),(4,(.a (.t 4))),(5,(.a (.t 5)))] [2,3,4])
 (.seq (.rg [.lt 15 [] (.a (.t 5)),.op (some 16) (.c (.ES 49 [(.t 15)] [])),.lt 17 [] (.a (.t 5)),.op (some 18) (.c (.ES 50 [(.t 17)] [])),.lt 19 [] (.a (.t 5)),.op (some 20) (.c (.ES 51 [(.t 19)] [])),.lt 21 [] (.a (.t 5)),.op (some 22) (.c (.ES 52 [(.t 21)] [])),.lt 23 [] (.a (.t 5)),.op (some 24) (.c (.ES 53 [(.t 23)] [])),.op (some 25) (.c (.Fa [.Br,.Br,.Br,.Br,.Br] [(0,(.t 16)),(1,(.t 18)),(2,(.t 20)),(3,(.t 22)),(4,(.t 24))])),.op (some 6) (.alloc 123 (.agg [.Br,.Br,.Br,.Br,.Br])),.op none (.st 5 (.t 6) (.t 25))] [(0,(.a (.t 0))),(2,(.a (.t 2))),(3,(.a (.t 3))),(4,(.a (.t 4))),(5,(.a (.t 5))),(6,(.a (.t 6)))] [2,3,4])
 (.seq (.block 0 (.loop [0,2,3,4,5,6] uZ))
 (.seq (.rg [.Ak [] (.u (.ld 1 false (.t 0)) (.u (.Bf 3 258 (.t 0)) (.u (.DA (.t 0)) (.a (.t 5))))),.lt 50 [] (.u (.ld 1 false (.t 0)) (.u (.Bf 3 258 (.t 0)) (.u (.DA (.t 0)) (.a (.t 5))))),.op none (.st 1 (.t 2) (.t 50)),.op none (.st 1 (.t 3) (.int .i64 0)),.op none (.st 1 (.t 4) (.int .i64 0))] [(2,(.a (.t 2))),(3,(.a (.t 3))),(4,(.a (.t 4)))] [2,3,4])
 (.ret)))))))
def Zoy:Zf8.AZ []=some Zio:=by kernel_rfl
def hY:S2:=zL [] [] Yjy
def WL:=(by cbv:hY=_)
def hZ:S2:=zL [] [] Yjz
def tB:=(by cbv:hZ=_)
def hX:S2:=zL [] [hZ,hY] bT
def gN:=(show hX=_ from (λ(a b:S2)=>(by cbv:zL [] [a,b] bT=_)) hZ hY)
def Zip:S2:=zL [] [hX] pc
def Zms:=(show Zip=_ from (λa=>(by cbv:zL [] [a] pc=_)) hX)
def Zoz:Zf9.AZ []=some Zip:=by kernel_rfl
def jg:S2:=zL [] [] Yky
def Yn0:=(by cbv:jg=_)
def aL:List E0:=[]
def aK:List (Nat×E):=[(0,(.a (.t 0))),(1,(.a (.t 1))),(2,(.a (.t 2))),(3,(.a (.t 6)))]
def Zil:HR [] Yz8 [] Yjj [] [] []=some (aL,aK):=by kernel_rfl
def Zjg:S2:=zL [] [jg] qI
def Zft:=(show Zjg=_ from (λa=>(by cbv:zL [] [a] qI=_)) jg)
def Zii:Zg1.AZ []=some Zjg:=by kernel_rfl
def vA:S2:=zL [] [] Ykz
def tW:=(by cbv:vA=_)
def vB:S2:=zL [] [] Yk0
def tX:=(by cbv:vB=_)
def vC:S2:=zL [] [] Yk1
def tY:=(by cbv:vC=_)
def vD:S2:=zL [] [] Yk2
def tZ:=(by cbv:vD=_)
def Zjh:S2:=.seq (.rg [.op (some 0) (.alloc 119 (.agg (List.replicate 256 (.int .i64 0))))] [(0,(.a (.t 0)))] [])
 (.seq (.seq (.rg [] [(0,(.a (.t 0))),(7,(.a (.int .i64 0)))] [])
 (.block 0 (.loop [0,7] vD)))
 (.seq (.seq (.rg [] [(0,(.a (.t 0))),(17,(.a (.int .i64 0)))] [])
 (.block 2 (.loop [0,17] vC)))
 (.seq (.seq (.rg [.op (some 24) (.HZ 5 1 [(.int .u8 0),(.int .u8 0),(.int .u8 0),(.int .u8 0)] [(0,(.int .u8 32)),(1,(.int .u8 9)),(2,(.int .u8 10)),(3,(.int .u8 13))]),.op (some 25) (.JL (.t 24))] [(0,(.a (.t 0))),(25,(.a (.t 25))),(26,(.u (.CK (.t 0)) (.a (.t 25)))),(27,(.a (.int .i64 0)))] [])
 (.block 4 (.loop [0,25,26,27] vB)))
 (.seq (.seq (.rg [.op (some 34) (.HZ 5 1 (List.replicate 15 (.int .u8 0)) [(0,(.int .u8 123)),(1,(.int .u8 125)),(2,(.int .u8 40)),(3,(.int .u8 41)),(4,(.int .u8 59)),(5,(.int .u8 44)),(6,(.int .u8 61)),(7,(.int .u8 35)),(8,(.int .u8 47)),(9,(.int .u8 60)),(10,(.int .u8 33)),(11,(.int .u8 45)),(12,(.int .u8 46)),(13,(.int .u8 58)),(14,(.int .u8 43))]),.op (some 35) (.JL (.t 34))] [(0,(.a (.t 0))),(35,(.a (.t 35))),(36,(.u (.CK (.t 0)) (.a (.t 35)))),(37,(.a (.int .i64 0)))] [])
 (.block 6 (.loop [0,35,36,37] vA)))
 (.seq (.rg [.Ak [] (.u (.ld 256 true (.t 0)) (.a (.t 0))),.lt 44 [] (.u (.ld 256 true (.t 0)) (.a (.t 0))),.op none (.st 256 (.t 0) (.t 44))] [(0,(.a (.t 0)))] [])
 (.ret))))))
def Zpp:Zg2.AZ []=some Zjh:=by kernel_rfl
def Zji:S2:=zL [] [] n49
def Zng:=(by cbv:Zji=_)
def Zpq:Zg3.AZ []=some Zji:=by kernel_rfl
def Zjj:S2:=zL [] [] n50
def Znh:=(by cbv:Zjj=_)
def Zpr:Zg4.AZ []=some Zjj:=by kernel_rfl
def jh:S2:=zL [] [] Yk3
def Yn1:=(by cbv:jh=_)
def Zjk:S2:=zL [] [jh] qJ
def Zni:=(show Zjk=_ from (λa=>(by cbv:zL [] [a] qJ=_)) jh)
def Zps:Zg5.AZ []=some Zjk:=by kernel_rfl
def jj:S2:=zL [] [] Yk4
def Yn3:=(by cbv:jj=_)
def ji:S2:=zL [] [jj] mW
def Yn2:=(show ji=_ from (λa=>(by cbv:zL [] [a] mW=_)) jj)
def Zjl:S2:=zL [] [ji] qL
def Znj:=(show Zjl=_ from (λa=>(by cbv:zL [] [a] qL=_)) ji)
def Zpt:Zg6.AZ []=some Zjl:=by kernel_rfl
def Zjm:S2:=zL [] [] n53
def Znk:=(by cbv:Zjm=_)
def Zpu:Zg7.AZ []=some Zjm:=by kernel_rfl
def Zjn:S2:=zL [137,138] [] n54
def YP:=(by cbv:Zjn=_)
def pX:Zg8.AZ [137,138]=some Zjn:=by kernel_rfl
def Zjo:S2:=zL [] [] n55
def YQ:=(by cbv:Zjo=_)
def pY:Zg9.AZ []=some Zjo:=by kernel_rfl
def Zjp:S2:=zL [] [] n56
def Rl:=(by cbv:Zjp=_)
def Tl:Zha.AZ []=some Zjp:=by kernel_rfl
def Zjq:S2:=zL [] [] n58
def Rm:=(by cbv:Zjq=_)
def Tm:Zhb.AZ []=some Zjq:=by kernel_rfl
def eu:S2:=zL [] [] u9
def Yeo:=(by cbv:eu=_)
def Y09:S2:=zL [] [eu] oU
def Y5n:=(show Y09=_ from (λa=>(by cbv:zL [] [a] oU=_)) eu)
def Y8y:Yxs.AZ []=some Y09:=by kernel_rfl
def Y1a:S2:=zL [] [] Zk3
def Y5o:=(by cbv:Y1a=_)
def Y8z:Yxt.AZ []=some Y1a:=by kernel_rfl
def Y1b:S2:=zL [] [] Zk4
def Y5p:=(by cbv:Y1b=_)
def Y80:Yxu.AZ []=some Y1b:=by kernel_rfl
def Y1c:S2:=zL [] [] Zk5
def Y5q:=(by cbv:Y1c=_)
def Y81:Yxv.AZ []=some Y1c:=by kernel_rfl
def Y1d:S2:=zL [] [] Zk6
def Y5r:=(by cbv:Y1d=_)
def Y82:Yxw.AZ []=some Y1d:=by kernel_rfl
def Y1e:S2:=zL [] [] Zk7
def Y5s:=(by cbv:Y1e=_)
def Y83:Yxx.AZ []=some Y1e:=by kernel_rfl
def ew:S2:=zL [] [] vL
def Yep:=(by cbv:ew=_)
def Y1f:S2:=zL [] [ew] oV
def Y5t:=(show Y1f=_ from (λa=>(by cbv:zL [] [a] oV=_)) ew)
def Y84:Yxy.AZ []=some Y1f:=by kernel_rfl
def Y2h:S2:=zL [] [] Zlv
def Y6g:=(by cbv:Y2h=_)
def Y94:Yy4.AZ []=some Y2h:=by kernel_rfl
def AQ:prog.follows .mixedOrders=true:=by kernel_rfl
def O3(f:List UInt8->Bool):Ab.Fn:=⟨λa=>match a with|[.d (.AU _)]=>True|_=>False,λa=>match a with|[.d (.AU s)]=>.d (.bool (f s))|_=>.any⟩
@[simp]def fnS_pre(f:List UInt8->Bool)(s:List UInt8):(O3 f).pre [.d (.AU s)]=True:=by simp only[O3]
@[simp]def fnS_val(f:List UInt8->Bool)(s:List UInt8):(O3 f).val [.d (.AU s)]=.d (.bool (f s)):=by simp only[O3]
def Ywp{P:BA}{k:Nat}{f:List UInt8->Bool}(h:∀s c (K:V->Prop),K (.d (.bool (f s)))->AW P k [.d (.AU s)] c K):Lp P k (O3 f):=by
 intro e a c K b;simp only[O3]at a b;split at a
 ·exact h _ _ _ b
 ·cases a
include hP
theorem Dq:Lp P 137 (O3 CU):=Ywp λs H K h=>by
 refine AJ hP AQ (ds:=[.AU s]) Zco Y84 A4.nil ?_;have c:∀b,b=CU s->K (.d (.bool b)):=λb e=>e▸h;clear h;simp[Y5t];refine⟨λo=>c _ ?_,λt u=>?_⟩
 ·rcases o with rfl|u
  ·simp[CU]
  ·simp[CU];omega
 ·have f:1<=s.length:=by cases s with|nil=>exact absurd rfl t|cons=>simp
  refine Au.go (ι:=Nat) (λk=>[(0,.d (.AU s)),(14,.d (.int .i64 s.length)),(15,.d (.int .i64 k))]) (λ_=>[]) (λk=>k<=s.length/\(∀i,i<k->NY (s.getD i 0).toNat=true)/\(0<k->U0 (s.getD 0 0).toNat=true)) (λk=>s.length-k) 0 ⟨by omega,by omega,by omega⟩ (by simp) rfl ?_;rintro k ⟨G,p,m⟩ R r w x _;simp[Yep];simp only[Gy]at p m r;refine⟨λa=>⟨a,λy z q=>x _ _ ?_,λe=>r [] (k+1) _ _ ⟨by omega,λi F=>?_,λ_=>?_⟩ (by omega) ?_ rfl rfl rfl⟩,λv=>w _ _ _ ?_⟩
  ·simp;refine c _ (Eq.symm ?_);rw[OG];intro n;simp only[CU,BB,tv,Gy]at n;have:=n.2 k a;have g:=n.1.2;rcases q with rfl|q
   ·simp[U0]at g;omega
   ·simp[NY,U0,NB]at this;omega
  ·by_cases j:i=k
   ·subst j;simp[NY,U0,NB];omega
   ·exact p i (by omega)
  ·by_cases g:k=0
   ·subst g;simp[U0];omega
   ·exact m (by omega)
  ·simp;exact w_i _ (by omega)
  ·have l:k=s.length:=by omega
   subst l;simp;refine c _ (Eq.symm ?_);simp only[CU,BB,tv,Gy];exact⟨⟨by simp;omega,m f⟩,p⟩
omit hP
def QL{a:Type}(f:a->B):List a->B->Int->Int
|[],_,_=>-1
|x::r,n,k=>if f x=n then k else QL f r n (k+1)
include hP
omit hP
def JF(n:Nat)(d:List RV)(K:BN->AF->Prop):Zi
|.normal,c,a=>Qe c a d λb=>Yk n (K (.ret (Qt b))) b a
|.ret,c,a=>Qe c a d λb=>Yk n (K (.ret (Qt b))) b a
|.panic v,_,a=>Yk n (K (.panic v)) [v] a
|.exit _,_,_=>False
section
variable {n k:Nat} {sl:Xe} {ob:AF} {v:V}
@[simp]def callN_n(b:List RV)(a:BN->AF->Prop):JF n b a .normal sl ob=Qe sl ob b λc=>Yk n (a (.ret (Qt c))) c ob:=by simp only[JF]
@[simp]def callN_r(b:List RV)(a:BN->AF->Prop):JF n b a .ret sl ob=Qe sl ob b λc=>Yk n (a (.ret (Qt c))) c ob:=by simp only[JF]
@[simp]def callN_p(b:List RV)(a:BN->AF->Prop):JF n b a (.panic v) sl ob=Yk n (a (.panic v)) [v] ob:=by simp only[JF]
end
def Xrg{P:BA}(hm:P.p.follows .mixedOrders=true){f:Nat}{s:S}{rs:List RV}{l:List V}{G:AF}{K:BN->AF->Prop}(j:Xp P.p f l.length s rs=true)
 (h:Dj P s (JF (AA G) rs K) (EK 0 l) G):AX P f l G K:=by
 simp only[Xp,BB]at j;obtain⟨j,ab⟩:=j;unfold K8 at j;split at j
 ·rename_i fn hf;split at j
  ·rename_i L hb;simp only[BB,DK]at j;obtain⟨⟨hn,z⟩,Y⟩:=j;refine⟨λw q d hO hg hr=>calls_of_wp hf hb ?_⟩;let c:Dz:=⟨w,FD q,fn.ntmps,[],P.g,q.m,[],false⟩
   have ag:d.length=l.length:=by simpa using Zm hr
   have m:DM c q.xo q (EK 0 l) G {tmps:=d.toArray++Array.replicate (fn.ntmps-d.toArray.size) undef,defers:=[] } w:=by
    refine⟨⟨Bg _,λ_ _ _=>rfl,λb h=>.inr h,rfl,rfl,rfl,λid o h=>⟨o,h,.refl o⟩,(λp hp=>by cases hp),Bg _⟩,hO,?_,?_,FA.nil,rfl,hg⟩
    ·refine P4 hr 0 _ (λi hi=>?_);simp[M5,hi]
    ·simp[c];omega
   refine wp_mono (wpIn_wide.1 (Yz (rd:=none) hm rfl L s _ _ _ q _ w z (.inl ab) h m)) ?_;rintro e a' H ⟨ae,ad,Q,af,J,W,r⟩;have ac:∀k id o,q.m id=some o->AD (AA G) k id=false:=λk id o h0=>by
    obtain⟨x,hx⟩:=hO.EY id o h0;have aa:¬AA G<=id:=λZ=>by rw[X9 _ _ Z]at hx;cases hx
    simp[AD,aa]
   have tr:∀{a:A9},Tr H af H a->∀k,Tr w q H (a.CY (AD (AA G) k)):=λ{a} t k=>by
    have y:=r.A1.tr t;refine⟨y.size,λb z Y=>y.keep b Y z,λb z=>(y.DF b (W2 z)).symm,?_,?_,λid o z=>?_,y.tape,y.os,y.Ck,y.drawn⟩
    ·show a.xo=q.xo;rw[t.xo,r.xo]
    ·show a.gl=q.gl;rw[t.gl,r.gl,hg]
    ·obtain⟨o',h3,h4⟩:=y.same id o z;exact⟨o',by simp only[A9.CY,ac k id o z];exact h3,h4⟩
   have F:Qe ad Q rs (λl=>Yk (AA G) (K (.ret (Qt l))) l Q)->a'.defers=[]/\∃v,(results fn a'.tmps).run P.p H=.ok v H/\∃U T a,K U T/\Vz H a (.returned v) U/\OM H a T/\Tr w q H a:=by
    intro J;obtain⟨l,us,hk,N,O⟩:=Ub (P:=P.p) (fn:=fn) r.sm r.om Y J;obtain⟨k,X,k2,k3⟩:=hk;exact⟨r.df.eq rfl,I5 us,O,.ret (Qt l),_,_,k3,J2 (de X N),r.om.CY k2,tr (Tr.refl _ _) k⟩
   cases ae with
   |normal=>
    cases e<;>simp only[Dx]at W;exact F J
   |ret=>
    cases e<;>simp only[Dx]at W;exact F J
   |exit n=>cases J
   |panic v=>
    cases e<;>simp only[Dx]at W;obtain⟨u,rfl,hu⟩:=W;obtain⟨k,X,k2,k3⟩:=J;simp only[BY,Bool.or_false]at X;exact⟨r.df.eq rfl,.panic v,_,_,k3,⟨u,rfl,M1 X hu⟩,r.om.CY k2,tr (Tr.refl _ _) k⟩
  ·simp at j
 ·simp at j
def Xt{P:BA}{p:Program}(k:P.p=p)(o:p.follows .mixedOrders=true){f:Nat}{s:S}{d:List RV}{b:List V}{a:AF}{K:BN->AF->Prop}{g:List Nat}{e:S2}{T:DD}(m:Xp p f b.length s d=true)(n:s.AZ g=some e)(l:A4 P T)
 (h:(∀c,BY (AD (AA a) c) b=false)->(∀c,AI (AD (AA a) c) a=true)->Zb P T e (JF (AA a) d K) (EK 0 b) a):AX P f b a K:=
 AX.D8 λi j=>by subst k;exact Xrg o m (S.BK l s n (λ_ _ _ h=>h) (h i j))
include hP
theorem Zoj{x:Ae}{a:AF}{K:BN->AF->Prop}(h:K (.ret (.d (.AU x.name))) a):AX P 100 [.d x.enc] a K:=
 AW.CS (by
  refine AJ hP AQ (ds:=[x.enc]) Zbv Y8g A4.nil ?_;simp[Y49,Ae.enc];exact h)
theorem Y68{x:AO}{a:AF}{K:BN->AF->Prop}(h:K (.ret (.d (.AU x.name))) a):AX P 98 [.d x.enc] a K:=
 AW.CS (by
  refine AJ hP AQ (ds:=[x.enc]) Zt2 Zqu A4.nil ?_;simp[Zoi,AO.enc];exact h)
abbrev obFS(o:Ob)(n:B):AF:=[(2,.box 9 (.d (.AU n))),(1,.box 196 (.fn 98 [] [])),(0,o)]
theorem Y67{x:Aj}{a:AF}{K:BN->AF->Prop}(h:K (.ret (.d (.AU x.name))) a):AX P 102 [.d x.enc] a K:=
 AW.CS (by
  refine AJ hP AQ (ds:=[x.enc]) Zbx Y8h A4.nil ?_;simp[Y5a,Aj.enc];exact h)
omit hP
def ML:D:=.agg [iD 0,iD 0,iD 0,.AU [],iD 0,.Ad]
include hP
theorem VN{y:Ai}{s f:Int}{o:AF}{K:V->Prop}(b:¬(∃(i:Nat) (a:i<y.AE.length) (j:Nat),s=i/\f=j/\j<y.AE[i].AL.length)->K (.BT [.d ML,.d (.bool false)]))
 (h:∀(i:Nat)(a:i<y.AE.length)(j:Nat) (c:j<y.AE[i].AL.length),s=i->f=j->K (.BT [.d y.AE[i].AL[j].type.enc,.d (.bool true)])):
 AW P 177 [.d (.agg [y.enc]),.d (.int .i64 s),.d (.int .i64 f)] o K:=by
 refine AJ hP AQ (ds:=[.agg [y.enc],.int .i64 s,.int .i64 f]) Zdj Y9q A4.nil ?_;by_cases g:s<0
 ·simp[R6,Ai.enc,Xg,g];refine b ?_;rintro⟨i,_,j,rfl,_⟩;omega
 by_cases m:(y.AE.length:Int)<=s
 ·simp[R6,Ai.enc,Xg,g,m];refine b ?_;rintro⟨i,a,j,rfl,_⟩;omega
 obtain⟨i,rfl,a⟩:∃i:Nat,s=i/\i<y.AE.length:=⟨s.toNat,by omega,by omega⟩
 by_cases k:f<0
 ·simp[R6,Ai.enc,Xg,a,k];refine b ?_;rintro⟨l,_,j,_,rfl,_⟩;omega
 by_cases n:(y.AE[i].AL.length:Int)<=f
 ·simp[R6,Ai.enc,Xg,a,k,n,AO.enc];refine b ?_;rintro⟨l,_,j,e,rfl,c⟩;have:i=l:=by omega
  subst this;omega
 obtain⟨j,rfl,c⟩:∃j:Nat,f=j/\j<y.AE[i].AL.length:=⟨f.toNat,by omega,by omega⟩
 simp[R6,Ai.enc,Xg,a,c,AO.enc,Aj.enc,A5.enc];exact⟨λp=>by omega,h i a j c rfl rfl⟩
omit hP
def TP(y:Ai)(u:A0):Bool:=decide (1<=u.Ba)&&decide (u.Ba<=1099511627776)&&decide (0<=u.A1)&&(match y.Am[u.A1.toNat]? with|some v=>decide (v.Ba=1)|none=>false)
include hP
theorem Yfw{y:Ai}(u:A0){l:AF}{K:V->Prop}(h:K (.d (.bool (TP y u)))):AW P 118 [.d (.agg [y.enc]),.d u.enc] l K:=by
 refine AJ hP AQ (ds:=[.agg [y.enc],u.enc]) Zb6 Y8o A4.nil ?_;obtain⟨n,o,f,b,s⟩:=u;simp only[TP]at h;by_cases a:1<=s
 ·by_cases c:s<=1099511627776
  ·by_cases k:0<=b
   ·obtain⟨i,rfl⟩:∃i:Nat,b=i:=⟨b.toNat,by omega⟩
    by_cases e:i<y.Am.length
    ·by_cases g:y.Am[i].Ba=1
     ·simp[Pg,Ai.enc,Xg,A0.enc,a,c,e,g]at h⊢;exact h
     ·have j:(y.Am[i].Ba==1)=false:=by simpa using g
      simp[Pg,Ai.enc,Xg,A0.enc,a,c,e,g,j]at h⊢;exact h
    ·simp[Pg,Ai.enc,Xg,A0.enc,a,c,e]at h⊢;exact h
   ·simp[Pg,Ai.enc,Xg,A0.enc,a,c,k]at h⊢;exact h
  ·simp[Pg,Ai.enc,Xg,A0.enc,a,c]at h⊢;exact h
 ·simp[Pg,Ai.enc,Xg,A0.enc,a]at h⊢;exact h
omit hP
def FK{b:Type}(p:b->Bool):List b->Nat->Int
|[],_=>-1
|a::r,k=>if p a=true then (k:Int) else FK p r (k+1)
def VV{b:Type}(p:b->Bool):∀(l:List b)(k:Nat),decide (0<=FK p l k)=l.any p
|[],_=>by simp[FK]
|a::r,k=>by
 rw[FK,List.any_cons];cases h:p a with
 |true=>simp
 |false=>simpa using VV p r (k+1)
def Zmh(t b:Nat):S2:=.seq (.rg [.op (some 2) (.box t (.t 0))] [(1,(.a (.t 1))),(2,(.a (.t 2)))] [])
 (.seq (.rg [.Ak [] (.u (.ld b true (.t 0)) (.a (.t 2))),.Ak [] (.u (.ld 1 false (.t 0)) (.a (.t 1))),.lt 5 [] (.u (.ld b true (.t 0)) (.a (.t 2))),.lt 4 [] (.u (.ld 1 false (.t 0)) (.a (.t 1))),.op (some 6) (.Cp (.t 4) [(.t 5)])] [(3,(.u (.not (.t 0)) (.a (.t 6))))] [])
 (.ret))
def lM(c:Nat):S2:=.seq (.rg [] [(0,(.a (.t 0))),(1,(.a (.t 1))),(7,(.a (.t 7))),(8,(.a (.t 8))),(9,(.b (.CR .lss (.t 0) (.t 1)) (.a (.t 8)) (.a (.t 7))))] [])
 (.seq (.cond (.t 9) (.skip) (.exit 0))
 (.seq (.block 1 (.seq (.rg [] [(0,(.a (.t 0))),(1,(.a (.t 1))),(5,(.a (.t 8))),(7,(.a (.t 7))),(8,(.a (.t 8)))] [])
 (.seq (.rg [.Ak [] (.u (.ld c true (.t 0)) (.b (.Cs c (.t 0) (.t 1)) (.a (.t 0)) (.a (.t 5)))),.lt 15 [] (.u (.ld c true (.t 0)) (.b (.Cs c (.t 0) (.t 1)) (.a (.t 0)) (.a (.t 5)))),.lt 11 [] (.a (.t 1)),.op (some 16) (.Cp (.t 11) [(.t 15)])] [(0,(.a (.t 0))),(1,(.a (.t 1))),(5,(.a (.t 5))),(7,(.a (.t 7))),(8,(.a (.t 8))),(16,(.a (.t 16)))] [])
 (.cond (.t 16) (.seq (.rg [] [(4,(.a (.t 5)))] []) (.ret)) (.skip)))))
 (.rg [] [(0,(.a (.t 0))),(1,(.a (.t 1))),(7,(.a (.t 7))),(8,(.b (.CR .add (.t 0) (.t 1)) (.a (.t 8)) (.a (.int .i64 1))))] [])))
def Yjg(b:Nat):S2:=.seq (.rg [] [(0,(.a (.t 0))),(1,(.a (.t 1)))] [])
 (.seq (.seq (.rg [] [(0,(.a (.t 0))),(1,(.a (.t 1))),(7,(.u (.CK (.t 0)) (.a (.t 0)))),(8,(.a (.int .i64 0)))] [])
 (.block 0 (.loop [0,1,7,8] (lM b))))
 (.seq (.rg [] [(4,(.a (.int .i64 (-1))))] []) (.ret)))
def Zf0(f:Nat):S2:=.seq (.rg [] [(0,(.a (.t 0))),(1,(.a (.t 1)))] [])
 (.seq (.rg [.lt 6 [] (.a (.t 1)),.lt 5 [] (.a (.t 0)),.op (some 7) (.call f [(.t 5),(.t 6)])] [(4,(.b (.CR .geq (.t 0) (.t 1)) (.a (.t 7)) (.a (.int .i64 0))))] [])
 (.ret))
def Zfx(t b d:Nat):S2:=.seq (.rg [.op (some 3) (.box t (.t 1))] [(0,(.a (.t 0))),(3,(.a (.t 3)))] [])
 (.seq (.rg [.op (some 6) (.c (.ES b [] [(.t 3)])),.lt 5 [] (.a (.t 0)),.op (some 7) (.call d [(.t 5),(.t 6)])] [(4,(.u (.not (.t 0)) (.a (.t 7))))] [])
 (.ret))
structure Fz(p:Program)(t tf sz f1 f2 f3 f4:Nat):Prop where
 n1:∃s,Xp p f1 2 s [.t 3]=true/\s.AZ []=some (Zmh t sz)
 n2:∃s,Xp p f2 2 s [.t 4]=true/\s.AZ []=some (Yjg sz)
 n3:∃s,Xp p f3 2 s [.t 4]=true/\s.AZ []=some (Zf0 f2)
 n4:∃s,Xp p f4 2 s [.t 4]=true/\s.AZ []=some (Zfx tf f1 f3)
 c1:Xd p f1=true
def ZE{P:BA}{p:Program}(w:P.p=p)(i:p.follows .mixedOrders=true){t T m u J L N g:Nat}(F:Fz p t T m u J L N){H:Type}{b:H->D}{q:H->Bool}{c:D}{l:List H}
 (hl:l.length<=9223372036854775807) (hg:Xd P.p g=true) (y:∀x,(b x).sz=m/\(V.d (b x)).isAgg=true)
 (hc:∀x∈l,∀(ob:AF)(K:V->Prop),K (.d (.bool (q x)))->AW P g [.d c,.d (b x)] ob K) {G z:Ob} {K:BN->AF->Prop}
 (h:K (.ret (.d (.bool (l.all q)))) [(1,G),(0,z)]):AX P N [.d (.AH m (l.map b)),.d (.fn g [c] [])] [(1,G),(0,z)] K:=by
 have W:∀x,(b x).sz=m:=λx=>(y x).1;have U:∀x,(b x).shape.size=m:=λx=>by rw[Cb];exact(y x).1
 let a:AF:=[(2,.box T (.d (.fn g [c] []))),(1,G),(0,z)]
 have c1:Xd P.p u=true:=by rw[w];exact F.c1
 have X:∀x∈l,∀K:BN->AF->Prop,K (.ret (.d (.bool (!q x)))) a->AX P u [.d (b x),.ptr 2 []] a K:=λx hx K h=>by
  obtain⟨s,r,o⟩:=F.n1;refine AY w i r o A4.nil λ_ i=>?_;have j:=i [];simp[a,AA]at j;simp[Zmh,a,hg,W,U];refine⟨(y x).2,(hc x hx _ _ ?_).CS⟩;simp;refine⟨[],by simp,?_,?_⟩
  ·simp[AD];simpa[AD]using j
  ·simpa[AD,a]using h
 have Y:∀K:BN->AF->Prop,K (.ret (.d (.int .i64 (FK (λx=>!q x) l 0)))) a->AX P J [.d (.AH m (l.map b)),.fn u [] [.ptr 2 []]] a K:=λK h=>by
  obtain⟨s,r,o⟩:=F.n2;refine AY w i r o A4.nil λ_ i=>?_;have f:=i [];simp[a,AA]at f;have Q:∀{v:V},BY (AD 3 []) [v]=false->K (.ret v) a->Yk 3 (K (.ret v)) [v] a:=λh1 h2=>⟨[],h1,by simpa[AD,a]using f,by simpa[AD,a]using h2⟩;simp[Yjg];refine Au.go (ι:=Nat) (λk=>[(0,.d (.AH m (l.map b))),(1,.fn u [] [.ptr 2 []]),(7,.d (.int .i64 l.length)),(8,.d (.int .i64 k))]) (λ_=>a) (λk=>k<=l.length/\FK (λx=>!q x) l 0=FK (λx=>!q x) (l.drop k) k) (λk=>l.length-k) 0 ⟨E2 _,rfl⟩ (by simp) (by simp) ?_;rintro k ⟨hk,j⟩ R rn re rr rp;by_cases n:k<l.length
  ·have wr:=w_s k (by omega)
   rw[D5 n]at j;simp[lM,n,c1,W,U];refine⟨(y _).2,X _ (Ci n) _ ?_⟩;cases e:q l[k]with
   |false=>
    simp;refine rr _ _ ?_;simp;have O:=h;rw[j,FK,BS (by simp[e])]at O;exact Q (by simp) O
   |true=>
    rw[FK,Aq (by simp[e])]at j;simp;refine rn [] (k+1) _ _ ⟨by omega,j⟩ (by omega) (by simp[wr]) (by simp[AD,a]) (by simp[AD,a]) (by simpa[AD,a]using f)
  ·have:k=l.length:=by omega
   subst this;simp[lM];refine re _ _ _ ?_;simp;rw[j,List.drop_length,FK]at h;exact Q (by simp) h
 have Z:∀K:BN->AF->Prop,K (.ret (.d (.bool (l.any λx=>!q x)))) a->AX P L [.d (.AH m (l.map b)),.fn u [] [.ptr 2 []]] a K:=λK h=>by
  obtain⟨s,r,o⟩:=F.n3;refine AY w i r o A4.nil λ_ i=>?_;have f:=i [];simp[a,AA]at f;simp[Zf0];refine Y _ ?_;simp;rw[VV];exact⟨[],by simp,by simpa[AD,a]using f,by simpa[AD,a]using h⟩
 obtain⟨s,r,o⟩:=F.n4;refine AY w i r o A4.nil λ_ i=>?_;have f:=i [];simp[AA]at f;simp[Zfx];refine Z _ ?_;have e:(!(l.any λx=>!q x))=l.all q:=by simp[List.all_eq_not_any_not]
 simp[a];refine⟨[],by simp,by simpa[AD]using f,?_⟩;simpa[AD,e]using h
def n42:Nat:=0x1b5b0382c60ad7a9001a0e58b02517c27c78704e5b127c23518242000027c38305527c80127c3c004927c94c01ebcc01d17c20a3200485b120a18a6947835adb7f06530f01617c0c320700203f0be0c30000140554200000c338305531e07b0c3afd2bd0002bc21800203d0be35103e71206108100b05d0010b202001d11f00499d3db07005503b03867303a0802e41f20ad8cd06153f00908d03a03819785d6c347366f5ac1573ab4c66ba17b05530406c74107d60f
def Zgw:S:=zS [] n42
def Zsp:Xp prog 42 1 Zgw [.t 2]=true:=by kernel_rfl
def Zkw:Nat:=0x10a011b11c1110090362830fa002035110bdd92404002c45c23f1a502a04c02a05302906592e26e0281f437a4a837aa549b37b637a58991e69806501d00820d0211f43c802004c3c801f07b3c801e1aa3c85893c801c00001b74c20d01a1f41176be11701859e01719611758983abbe20d0131f42e101225c03d01107b2e101016d2e15892e120400d06500824a34300c1f46cf04c0f200a07b3d16bd0f204b1f009926e33d13906921304b0285fc3ab169
def Yxe:S:=zS [] Zkw
def Zb2:Xp prog 114 1 Yxe [.t 2]=true:=by kernel_rfl
def Zkx:Nat:=0x176508103c51e08800437c38f17b157241a399e86d727b23a
def Yxf:S:=zS [] Zkx
def Zb3:Xp prog 115 2 Yxf [.t 3]=true:=by kernel_rfl
def ux:Nat:=0x10008e502e5431da00d0ce02f8578e57920b444aa915d402b06b4b702a089a4c00602a6f14d302810f028894ba219b02714c0210b302604117c5330250417a718d03a14200053362905ab8c00816d53324db8c9a5b8c0200ce01f91a2a301ea0f59501d315595093262a870000b068901b08500f11fa1a5343790190ce2850094be342001011041099011a215062f4a5b01604195c18d0391422e3a4c09501213c0b90400137e806f2d4ba225b742075bf427a00f828b560d65cc00e1c200e89405f25b00c13313300f1c6
def uy:Nat:=0x1000b4102101a071019698b1c0205122ae05a01f10194e03814204d3d89a501e01f00406f2ae0cc01c4a0bce8d201b3b20196731d301a08215114305a01801900d01b07e
def oN:Nat:=0x10a065111c02f0a803b1420060301fd0420a38e53a78e52d9a7c56f14b08100a9ef11f05f18203018238448db33c1942c0886cc14c0ea6870411480dc25913b0050a806825900410f03009a3150301550411aa0301490ce26600312e7497b406a749a93259aba9b17490b708574913816d2590f006f0301490400360207491341aa2599e125911b06202c0650270080fa0284953d6a283d602b07b3d602a16d3d602906f3d65893d64ec3d60261750250cb00598970f3882070674fb0a473c01c0452450530240dfbda3130813e707d057b4109fb4108e92c01604601514408101647e87b8e205301395800826eb2826101111ab859d01962619e1261a1b1de0010371429a53ba00a5fc96e169
def Yxg:S:=zS [(zS [] uy),(zS [] ux)] oN
def Zb4:Xp prog 116 1 Yxg [.t 2]=true:=by kernel_rfl
def Zq0:Nat:=0x1b7803c0399e503d4208f269b805
def Y7s:S:=zS [] Zq0
def Zb5:Xp prog 117 2 Y7s [.t 4]=true:=by kernel_rfl
def Zq1:Nat:=0x1b7803e0399e503f4208f204302b805
def Y7t:S:=zS [] Zq1
def Zb7:Xp prog 119 2 Y7t [.t 4]=true:=by kernel_rfl
def uz:Nat:=0x1057a610068d41168100ce37f28a01210f25500a6131bf01114c00f0b301204a7421f400f05b33700f05ba4817500d499b026f16c16130081bf8f910100a3b406b004a7821b00b1c211600a6131bf9cb0410831c6
def jv:Nat:=0x10002b07ec0ce1da12d83b85797ca610a1078057a6100608e0080a80d34f40090c99c50b800710f0074520060020a1041292b0404929c00413c06c0c20480c549f11f2b02030022667332c40018bb12d0f000b1d30000ba1f145207813812d3511c6
def oO:Nat:=0x123c2b009209f2b009208e0f0004148a100352910c40b8a930330a5a2f6f21911340dc1bda751bd11b06f1bd1116bd1bd0580fa00b1868449b541ebb40659546da0281f439e4a839ea5402541e39e34e0653a213b02200d0680e77b7a9801f41e32100001d06501a0758a801c1f454907b01a51548600001806535c13b77d0687a2916515b8d06500c22000e4952b701115eb852b700f06f00c15506f2b700d07b00c4f07c51759230091ea79c02002b397aea880
def Yxi:S:=zS [(zS [(zS [] uz)] jv)] oO
def Zb8:Xp prog 120 2 Yxi [.t 4]=true:=by kernel_rfl
def Zkz:Nat:=0x18e405f04816606104587e8f278a805
def Yxj:S:=zS [] Zkz
def Zb9:Xp prog 121 2 Yxj [.t 4]=true:=by kernel_rfl
def Zq2:Nat:=0x1b7803511006104487e8f27ad805
def Y7u:S:=zS [] Zq2
def Zca:Xp prog 122 2 Y7u [.t 4]=true:=by kernel_rfl
def u0:Nat:=0x1000b217c607192801c28a7ee2f914f01909c01a7e02f900814f0184490074be26a21f099010018025016282207011b0e0143dc08a0123dc26d00601201f00c06f2f900614f00f0c5014b7e2c40dd4f700a0041d300d082a3714f00b31000e07e
def oP:Nat:=0x107302322d02201f24a3430211974ab01f34a32117501d21701c99601d0207fab2109fb210580570040096df0a3291397acd880
def Yxk:S:=zS [(zS [] u0)] oP
def Zcb:Xp prog 123 2 Yxk [.t 4]=true:=by kernel_rfl
def u3:Nat:=0x1000b59022019071018235a8500c6ef96538805a97b01f01c09229c0d8a2c0d104d00401d01f00606f3880cc01b0690144258d23ca04d0182771d30190822ae01605aa2000d01a07e
def oQ:Nat:=0x1a2ab5909fb5908e27754f05a1db2916ee00c6ef8e2053013bbe6dab282e101125cb852e13c00492e120400d06509c6da00c1f46f700b54003d00a07b0091491aa6f71409a10cb0c50057de006020010060344040b12
def Yxl:S:=zS [(zS [] u3)] oQ
def Zcc:Xp prog 124 1 Yxl [.t 2]=true:=by kernel_rfl
def Zlj:Nat:=0x1905030903
def Yyk:S:=zS [] Zlj
def Y31:Xp prog 173 2 Yyk [.t 4]=true:=by kernel_rfl
def Zlk:Nat:=0x114006c11cc2700515906900305d0c2005b6e14a169
def Yyl:S:=zS [] Zlk
def Zdg:Xp prog 174 1 Yyl [.t 2]=true:=by kernel_rfl
def vW:Nat:=0x1000b24069884960047038b1c0030ba04403869105a00214c12d0081912900dc3d50003153d500506f3d55d90f04f60368206916c89ea8224be35f0010fa0990fa03402512602e01e134852b4706811b1120041441bb91c00b04253ea2802ca3c06108d98d0bb7aa67005002a29187b6fb028a3c53e0270653a20260214950e78af0e76e40e702316d0e702206f0e7589a980e700416d32117501d0cb6bc3b701d02000d11fa3c38301b0043b50190cfb988d23ca09301735c00601727401808238801505a01677d01907e
def oc:Nat:=0x181cb2400409fb2400408e0153a304601392d05647e87b9d305301106579a1910101f42b700f15e03d00e07b2b700d16d2b79e17c527e9238b700713608100802000c5fc96e169
def Yym:S:=zS [(zS [] vW)] oc
def Zdh:Xp prog 175 1 Yym [.t 2]=true:=by kernel_rfl
def vX:Nat:=0x1000af844a0151da0140ce02d03828a02b10f02b0384e0139062b740b3a911fba0ab05a0a0270ce02614c0230b3191025a0f02305b0243150236a806f02305b6029e29210bb02008926b0217e806f4e085b01f1333e614c9c91f201da0f37101c315371a34ac127e40c0bb8277f00190c94ac4e083301715a4be00c02e01613c0563870416e521b0151c227b4e01398d40141330161c6
def vY:Nat:=0x10008de0f0be200003611e
def kX:Nat:=0x11b58de1480df1561341b900611d00faba1309ac0089e80470409481ab1a89a20090310520030b8bde1ab80c05e0090621116f20fa1fb8440010323f81bd00705a0b9bb400900902a25211f1ab14600505e0090286b60084be27a00101f09901f0288634c50252b5b47024004bda2a29e40071129306d200d06f1ab18305e0b41832646d626a01d1125000051d3bb6005688bed
def od:Nat:=0x18040a3af83a7af895b0ba00529616a0b801110f01112705001014c29094600f0c10b304305b00e3b44aab7b0d618d03329c4aa00c13c00eb8400913c00bb8400613c008b8413b71d0a105a26500c0854aa5da0410a105a2650090854aa08005a4290410eb05b1f20030410bb043795a922658ca04117512d0bb13825a03701e0c80e13524f80794220140452418de09f8de08e7972dc0160451221222450120171127e404e01511277601695306028803000611d00c01d04b0030b88e20a50130656aa1d8b2868d07b0107fd98127e00e0cb00d1ea7c758b3973220e096e1d2
def Yyn:S:=zS [(zS [(zS [] vY)] kX),(zS [] vX)] od
def Zdi:Xp prog 176 2 Yyn [.t 4]=true:=by kernel_rfl
def Zlm:Nat:=0x11470b06c440c0140b3938543ae205b0170890564291363f32e305629a1363f30133390121330b301104100f0f40618d70101798d7b148d700e17900d29a1368d700c33900b2660b300a0b39e900605b00917900642992d29a17900605b08d1780062653390048591fc0a80f40610371551793d5b143d50001793d508d1783d51380870f00ea00814812658d70525915605d25925a0e825913405d2591830e825911b0871110290089da0b64880bf05d48800414b48802a05d48800714b4880280870276cd0260240b61dc02505d1dc07d001ae41dc00747a5040ab02201e0334ce1be0200009794be26aa6a099017020025389502693b4701c0049e001a08b7e405300511295601901f00d23f1470166c44fa3b501219717701305d177af5a9517700514bb3a21746e9c000b1fe0d1b2c1d48701fb03229c00505a71c0020601720500620456d62b47070265bf07d
def Yyp:S:=zS [] Zlm
def Zdk:Xp prog 178 3 Yyp [.t 6]=true:=by kernel_rfl
def vZ:Nat:=0x10005a6bff0e500304d02e17489d44b7fe4d34450e52b9006ad05d244bb860e5005139b60046908139762
def og:Nat:=0x181c5a609f5a66720ca1a20c0bf208d01390e28907d876
def Yyq:S:=zS [(zS [] vZ)] og
def Zdl:Xp prog 179 1 Yyq [.t 2]=true:=by kernel_rfl
def Zre:Nat:=0x1905034903
def Y71:S:=zS [] Zre
def Zdm:Xp prog 180 2 Y71 [.t 4]=true:=by kernel_rfl
def Zrf:Nat:=0x1906a398e62b623a
def Y72:S:=zS [] Zrf
def Zdn:Xp prog 181 2 Y72 [.t 3]=true:=by kernel_rfl
def Zrg:Nat:=0x1905035903
def Y73:S:=zS [] Zrg
def Zdo:Xp prog 182 2 Y73 [.t 4]=true:=by kernel_rfl
def Zrh:Nat:=0x19060480810018e61b923a
def Y74:S:=zS [] Zrh
def Zdp:Xp prog 183 2 Y74 [.t 3]=true:=by kernel_rfl
def Zlo:Nat:=0x1905037903
def Yys:S:=zS [] Zlo
def Zdr:Xp prog 185 2 Yys [.t 4]=true:=by kernel_rfl
def Zlp:Nat:=0x1906a398e627b23a
def Yyt:S:=zS [] Zlp
def Zds:Xp prog 186 2 Yyt [.t 3]=true:=by kernel_rfl
def Zri:Nat:=0x19060487768e614a23a
def Y75:S:=zS [] Zri
def Zdt:Xp prog 187 2 Y75 [.t 3]=true:=by kernel_rfl
def vf:Nat:=0x1000b8b01f7610000205a20e50e80df0df4a266f01c1bf02d0096cc04701c0ec1637ee0e50070e800801974c1430025902041173231174ec83a06530f1744950c34c80c33232bd175ac40070103a811f0e50077e500e25d46e9087e5762
def oh:Nat:=0x10730336e0126a181341fb24e8520020383f824e11b05d02db5524e6baaa808702b02700878b92202752c3d602805d027b553d6026087025022212024010061ae4022b555040404a302085b91b0156c1b8b09fb8b08e8b708b0095350470480684a3043b7723623a
def Yyu:S:=zS [(zS [] vf)] oh
def Zdu:Xp prog 188 2 Yyu [.t 4]=true:=by kernel_rfl
def vg:Nat:=0x1000ba502601a0710196b628a8af0252ae7e50240093e701f0d803929c7860c24a900610406c01f3a206f2ae19d5b301d00736701b0b434c26a01c3b201967300601927401a0821511437e501801900d01b07e
def oj:Nat:=0x10730316e00ea02a00819111b0b63fe11105d3fe0fa47a3fe0bf3133fe0589100813fe6ba3fe02917502815902725a0283a86c1ba509fba508e01725a01848c27f0160df54f0140d11740a105548b08b01295323f0b85e50482500651e500e00b21778f00d04c0bd00c04678f5100bd4c80bd0091752df0611010091b61353ff78d080
def Yyv:S:=zS [(zS [] vg)] oj
def Zdv:Xp prog 189 2 Yyv [.t 4]=true:=by kernel_rfl
def Zlq:Nat:=0x114771d6c400a18d0b30092660410b6b07b5245a29a179b0725a0e8003b2b45a429179b071390e80037953392901480540411380b642612d05d426af54260f005d03434a426156087126a1813411b0b624e0ea05d24eb1424e11105d24e061178aa817591005e02c93a23f14702a6c402992e7890b637a4cd37a00414b9b305d0244d291e08702201b00802101d0b618f93e92901bb2d18f01e05d01b34a93c05d18faf57cc3b90150bb1430440490166df2ef0469c001804275f004164012bbe1f201138c2e14af00f7fd2e100e27e00d0bb00c1ea04000d58b0c410d8990041641e50d200904607d43800511f3550620b400170711d1b208c
def Yyw:S:=zS [] Zlq
def Zdw:Xp prog 190 3 Yyw [.t 6]=true:=by kernel_rfl
def Zl2:Nat:=0x171500202025d01f6af0c60992524a2013b0e01c04301e01f01a04601908b0183de0066f501533e1a106c28d00405001d29104e0184a108b0030816b426b0130200a406e26714600604d00a2b998237c71513525d0116af0068085e50c514e00f7134f84951081f1bc600416d3641750090cb37b00408b00911f0c505e50804412511d2c40650390e00265bf07d
def Yzn:S:=zS [] Zl2
def Zeo:Xp prog 233 3 Yzn [.c 6 6 true,.t 7]=true:=by kernel_rfl
def Zl3:Nat:=0x191124c00e1c536052f00d19754205d99b14b3640874f621200801038303d9a014914b8876ba8c605004605304e3ed270087039169
def Yzo:S:=zS [] Zl3
def Zep:Xp prog 234 1 Yzo [.t 2]=true:=by kernel_rfl
def Ysv:Nat:=0x18f1239732bab9f61129c7bdf
def Zry:Nat:=0x1927
def Y8b:S:=zS [(zS [] Ysv)] Zry
def Zer:Xp prog 236 2 Y8b [.t 4]=true:=by kernel_rfl
def Yag:Nat:=0x18f1239732bab9f61129c7bdf
def oy:Nat:=0x1927
def Yzr:S:=zS [(zS [] Yag)] oy
def Zeu:Xp prog 239 2 Yzr [.t 4]=true:=by kernel_rfl
def Zl6:Nat:=0x10732920594a300800b05e4a318300305f00a3a66a90421f5
def Yzs:S:=zS [] Zl6
def Zev:Xp prog 240 2 Yzs [.t 4]=true:=by kernel_rfl
def Zl7:Nat:=0x14b202510106202458b69719727c49227c00a13602083f27c01f08793a00801d01c19701a83fb2500a313bd835c2080493f828f00a06c0b928f24d0b96d10ab01501e0136c109c14e01310101200a1211300230ae02e13d09940a02501100e01e246b0e5b60ef06c56a00a06f0090840043525ac1573ab34200b04317b05500a0d33ba0048255081010000ec02f080
def Yzt:S:=zS [] Zl7
def Zew:Xp prog 241 4 Yzt [.t 8]=true:=by kernel_rfl
def Zjb:S2:=zL [] [] n42
def Znb:=(by cbv:Zjb=_)
def Zpk:Zgw.AZ []=some Zjb:=by kernel_rfl
def Y0v:S2:=zL [] [] Zkw
def Y5e:=(by cbv:Y0v=_)
def Y8l:Yxe.AZ []=some Y0v:=by kernel_rfl
def Y0w:S2:=zL [] [] Zkx
def Y5f:=(by cbv:Y0w=_)
def Y8m:Yxf.AZ []=some Y0w:=by kernel_rfl
def eV:S2:=zL [] [] ux
def zF:=(by cbv:eV=_)
def eW:S2:=zL [] [] uy
def zG:=(by cbv:eW=_)
def Y0x:S2:=zL [] [eW,eV] oN
def Y5g:=(show Y0x=_ from (λ(a b:S2)=>(by cbv:zL [] [a,b] oN=_)) eW eV)
def Y8n:Yxg.AZ []=some Y0x:=by kernel_rfl
def eX:S2:=zL [] [] uz
def zH:=(by cbv:eX=_)
def eY:S2:=zL [] [eX] jv
def zI:=(show eY=_ from (λa=>(by cbv:zL [] [a] jv=_)) eX)
def Y0z:S2:=zL [] [eY] oO
def NP:=(show Y0z=_ from (λa=>(by cbv:zL [] [a] oO=_)) eY)
def Y8p:Yxi.AZ []=some Y0z:=by kernel_rfl
def Y00:S2:=zL [] [] Zkz
def Y5h:=(by cbv:Y00=_)
def Y8q:Yxj.AZ []=some Y00:=by kernel_rfl
def eZ:S2:=zL [] [] u0
def zJ:=(by cbv:eZ=_)
def Y01:S2:=zL [] [eZ] oP
def Y5i:=(show Y01=_ from (λa=>(by cbv:zL [] [a] oP=_)) eZ)
def Y8r:Yxk.AZ []=some Y01:=by kernel_rfl
def eb:S2:=zL [] [] u3
def zK:=(by cbv:eb=_)
def Y02:S2:=zL [] [eb] oQ
def XP:=(show Y02=_ from (λa=>(by cbv:zL [] [a] oQ=_)) eb)
def Y8s:Yxl.AZ []=some Y02:=by kernel_rfl
def Y1x:S2:=zL [] [] Zlj
def Y55:=(by cbv:Y1x=_)
def Y9m:Yyk.AZ []=some Y1x:=by kernel_rfl
def Y1y:S2:=zL [] [] Zlk
def Y56:=(by cbv:Y1y=_)
def Y9n:Yyl.AZ []=some Y1y:=by kernel_rfl
def eO:S2:=zL [] [] vW
def yw:=(by cbv:eO=_)
def Y1z:S2:=zL [] [eO] oc
def nN:=(show Y1z=_ from (λa=>(by cbv:zL [] [a] oc=_)) eO)
def Y9o:Yym.AZ []=some Y1z:=by kernel_rfl
def eP:S2:=zL [] [] vX
def SP:=(by cbv:eP=_)
def eR:S2:=zL [] [] vY
def yy:=(by cbv:eR=_)
def eQ:S2:=zL [] [eR] kX
def yx:=(show eQ=_ from (λa=>(by cbv:zL [] [a] kX=_)) eR)
def Y10:S2:=zL [] [eQ,eP] od
def nO:=(show Y10=_ from (λ(a b:S2)=>(by cbv:zL [] [a,b] od=_)) eQ eP)
def Y9p:Yyn.AZ []=some Y10:=by kernel_rfl
def Y12:S2:=zL [] [] Zlm
def Y57:=(by cbv:Y12=_)
def Y9r:Yyp.AZ []=some Y12:=by kernel_rfl
def eS:S2:=zL [] [] vZ
def y4:=(by cbv:eS=_)
def Y13:S2:=zL [] [eS] og
def Y58:=(show Y13=_ from (λa=>(by cbv:zL [] [a] og=_)) eS)
def Y9s:Yyq.AZ []=some Y13:=by kernel_rfl
def Y15:S2:=zL [] [] Zlo
def Y59:=(by cbv:Y15=_)
def Y9u:Yys.AZ []=some Y15:=by kernel_rfl
def Y16:S2:=zL [] [] Zlp
def Y6a:=(by cbv:Y16=_)
def Y9v:Yyt.AZ []=some Y16:=by kernel_rfl
def fK:S2:=zL [] [] vf
def VD:=(by cbv:fK=_)
def Y17:S2:=zL [] [fK] oh
def Y6b:=(show Y17=_ from (λa=>(by cbv:zL [] [a] oh=_)) fK)
def Y9w:Yyu.AZ []=some Y17:=by kernel_rfl
def fL:S2:=zL [] [] vg
def y8:=(by cbv:fL=_)
def Y18:S2:=zL [] [fL] oj
def nP:=(show Y18=_ from (λa=>(by cbv:zL [] [a] oj=_)) fL)
def Y9x:Yyv.AZ []=some Y18:=by kernel_rfl
def Y19:S2:=zL [] [] Zlq
def nQ:=(by cbv:Y19=_)
def Y9y:Yyw.AZ []=some Y19:=by kernel_rfl
def Y2s:S2:=zL [] [] Zl2
def nK:=(by cbv:Y2s=_)
def Zaf:Yzn.AZ []=some Y2s:=by kernel_rfl
def Y2t:S2:=zL [] [] Zl3
def Y6o:=(by cbv:Y2t=_)
def Zag:Yzo.AZ []=some Y2t:=by kernel_rfl
def fy:S2:=zL [] [] Yag
def Xym:=(by cbv:fy=_)
def Y2w:S2:=zL [] [fy] oy
def Y6q:=(show Y2w=_ from (λa=>(by cbv:zL [] [a] oy=_)) fy)
def Zaj:Yzr.AZ []=some Y2w:=by kernel_rfl
def Y2x:S2:=zL [] [] Zl6
def Y6r:=(by cbv:Y2x=_)
def Zak:Yzs.AZ []=some Y2x:=by kernel_rfl
def Y2y:S2:=zL [] [] Zl7
def Y6s:=(by cbv:Y2y=_)
def Zal:Yzt.AZ []=some Y2y:=by kernel_rfl
def Y7o:Fz prog 94 225 5 181 236 180 117:=⟨⟨_,Zdn,by kernel_rfl⟩,⟨_,Zer,by kernel_rfl⟩,⟨_,Zdm,by kernel_rfl⟩,⟨_,Zb5,by kernel_rfl⟩,by kernel_rfl⟩
def X50:Xd prog 118=true:=by kernel_rfl
def Yvm{P:BA}(a:P.p=prog){y:Ai}{l:List A0}(e:l.length<=9223372036854775807){c b:Ob}{K:BN->AF->Prop}(h:K (.ret (.d (.bool (l.all (TP y))))) [(1,c),(0,b)]):AX P 117 [.d (.AH 5 (l.map A0.enc)),.d (.fn 118 [.agg [y.enc]] [])] [(1,c),(0,b)] K:=
 ZE a AQ Y7o e (by rw[a];exact X50) (λ_=>⟨rfl,rfl⟩) (λx f g K h=>Yfw a x h) h
include hP
theorem zT{a b:List B}(t:a.length<=9223372036854775807){l:AF}{K:V->Prop}(h:K (.d (.bool (decide (a=b))))):AW P 154 [.d (Xg a),.d (Xg b)] l K:=by
 have q:=@w_t;refine AJ hP AQ (ds:=[Xg a,Xg b]) Y30 Y88 A4.nil ?_;by_cases g:a.length=b.length
 ·simp[Yu5,Xg,g];refine Au.go (ι:=Nat) (λk=>[(0,.d (.AH 1 (a.map D.AU))),(1,.d (.AH 1 (b.map D.AU))),(12,.d (.int .i64 b.length)),(13,.d (.int .i64 k))]) (λ_=>[]) (λk=>k<=b.length/\a.take k=b.take k) (λk=>b.length-k) 0 ⟨E2 _,by simp⟩ (by simp) (by simp) ?_;rintro k ⟨u,i⟩ R o m p v;by_cases f:k<b.length
  ·have c:k<a.length:=by omega
   simp[zQ,f,c];refine⟨λe=>p _ _ ?_,λe=>o [] (k+1) _ _ ⟨by omega,?_⟩ (by omega) (by simp[q f (by omega)]) (by simp[AD]) (by simp[AD]) (by simp[AD])⟩
   ·simp;have ne:a≠b:=λh=>by subst h;exact e rfl
    rw[Lw ne]at h;exact h
   ·rw[D2 c,D2 f,i,e]
  ·have:k=b.length:=by omega
   subst this;simp[zQ];refine m _ _ _ ?_;simp;have e:a=b:=by rw[<-g,FV,g,FV]at i;exact i
   rw[JZ e]at h;exact h
 ·have j:¬(a.length:Int)=b.length:=by omega
  have e:a≠b:=λe=>g (by rw[e]);rw[Lw e]at h;simp[Yu5,Xg,g];exact⟨λ_=>h,λh=>(j h).elim⟩
omit hP
def Y3k:Nat:=0x1a0602084201f9780201fd4d302810f7d108171b04a4ed159ac30250890247d97a718d511a5f3c00220c916777201e10f3c70810035b50b00cb01c0ba01b08905a40401b396
def Y3l:Nat:=0x10470530112660710101ce0050111fd4d301910f0190380880034a72851590170ba0160894c90d195c0c105f2811790690130c916731c00f10f00f03808800300e15a49900d0ba00c17986800c396
def Y3m:Nat:=0x10002050260057ef0440040260704d300a0410ca03845a009aa44a7b5215904329aa9205b006089043b2b0d104342918d0c10060434290eb79508904340008a0434e9856065a3e8d51381f432da6f32d14807b32d15619632da9918632d18a32d0ea5095adaf10ab04a0fa1590bfa6b04602a08b2695b204c4cd05002802001c04221b9be02445a3e70cb02200402105d08a004021373
def Y3n:Nat:=0x147395007100c0446f40704d3a2306111c74c1d801d1f411701c04c11701b59e01a7b611769351101609a0409d559eafd7144a7014159013004a270110d13aa0a106800e7f600f02001223000b04c0b6a8c0070cb8b705304e53f373
def n7:Nat:=0x10a0b0624c0092252801d800804f00e00305a0ed71e0cc0ed00616c05a0ed3fa0050ed00455b00396f0b31d800204f19703f40004f04d03f4e9a7103f40014b03f05b03e3396a10390b31d803c9e9abb83104dabb03a179039400144abb0383399990330b34a70369e9a4d97104da4d034179033400136a4d03233980902d0b38d5651197a2b7ba04da2b02e17902d400313a2b44a0ab98d54300302a0ba02917904002a0c902323f00a9e4552a066a004e3db0530c50aa053bb22053a72058554f505306647319c06027041b
def ir7:S:=zS [(zS [] Y3n),(zS [] Y3m),(zS [] Y3l),(zS [] Y3k)] n7
def ok7:Xp prog 7 1 ir7 [.t 2]=true:=by kernel_rfl
def bA:S2:=zL [] [] Y3k
def Yix:=(by cbv:bA=_)
def bB:S2:=zL [] [] Y3l
def Yiy:=(by cbv:bB=_)
def bE:S2:=zL [] [] Y3m
def Yiz:=(by cbv:bE=_)
def bH:S2:=zL [] [] Y3n
def Yi0:=(by cbv:bH=_)
def lt7:S2:=zL [] [bH,bE,bB,bA] n7
def Et7:=(show lt7=_ from (λ(a b c d:S2)=>(by cbv:zL [] [a,b,c,d] n7=_)) bH bE bB bA)
def lf7:ir7.AZ []=some lt7:=by kernel_rfl
def Zay(a b:Int×Int):Int×Int:=(IntKind.i64.wrap (a.1+b.1),if b.2 > a.2 then b.2 else a.2)
def Zqv(a:Int×Int):Int×Int:=(a.1,IntKind.i64.wrap (a.2+1))
mutual
def Cl.pZ:Cl->Int×Int
|.mk _ _ k _=>Zqv ((r6 k).foldl Zay (1,0))
def r6:List Cl->List (Int×Int)
|[]=>[]
|f::r=>f.pZ::r6 r
end
include hP
omit hP
def ON(a:Nat)(t:A5):Bool:=decide (0<=t.lo/\t.lo<=t.hi/\t.hi<=1048576/\-1<=t.unit/\t.unit<a/\t.names.length=0)
def Sy(t:A5):Bool:=decide (t.lo=0/\t.hi=1023/\t.unit=-1/\t.names.length=0)
def Sz(t:A5):Bool:=decide (t.lo=0/\t.hi=4095/\t.unit=-1/\t.names.length=0)
def OO(t:A5):Bool:=decide (t.lo=0/\t.hi=(t.names.length:Int)-1/\t.unit=-1/\1<=t.names.length/\t.names.length<=16)&&decide (t.names.Nodup)
def JB(a:Nat)(t:A5):Bool:=
 if t.kind=1 then ON a t else if t.kind=2 then Sy t else if t.kind=3 then Sz t else if t.kind=4 then OO t else false
def U6(y:Ai)(s f:Int):Option Aj:=if s<0\/f<0 then none else (y.AE[s.toNat]?).bind λc=>c.AL[f.toNat]?
def Pf(y:Ai)(u:Int):Int:=match y.Am[u.toNat]? with|some v=>v.A1|none=>0
def SC(y:Ai)(a b:A5):Bool:=
 if a.kind≠b.kind then false else if a.kind=4 then decide (a.names=b.names)
 else if a.kind≠1\/a.unit=-1\/b.unit=-1 then decide (a.unit=b.unit) else decide (Pf y a.unit=Pf y b.unit)
def refOZZ(y:Ai)(a:List Gf)(t:BE):Option (Int×Int):=
 if CU t.name&&CU t.path&&decide (t.n=0) then
  (match a[(QL Gf.name a t.name 0).toNat]? with
  |some v=>if QL Gf.name a t.name 0<0\/QL Gf.name a t.name 0≠t.var then none else
   (match y.AE[v.Ag.toNat]? with
   |some c=>if QL Aj.name c.AL t.path 0<0\/QL Aj.name c.AL t.path 0≠t.field then none else some (v.Ag,t.field)
   |none=>none)
  |none=>none)
 else none
def BE.zero(t:BE):Bool:=decide (t.name=[])&&decide (t.path=[])&&decide (t.var=0)&&decide (t.field=0)&&decide (t.n=0)
def BP.zero(a:BP):Bool:=decide (a.op=0)&&a.a.zero&&a.b.zero
def Qi{y:Ai}{s f:Int}(h:¬∃(i:Nat) (b:i<y.AE.length) (j:Nat),s=i/\f=j/\j<y.AE[i].AL.length):U6 y s f=none:=by
 unfold U6;split
 ·rfl
 ·rename_i g;cases e:y.AE[s.toNat]? with
  |none=>rfl
  |some c=>
   obtain⟨b,d⟩:=Ek.1 e;simp only[Option.bind_some];rw[Pa];rcases Fo f.toNat c.AL.length with a|a
   ·exact(h ⟨s.toNat,b,f.toNat,by omega,by omega,by rw[d];exact a⟩).elim
   ·exact a
def UZ{y:Ai}{i j:Nat}(a:i<y.AE.length)(b:j<y.AE[i].AL.length):U6 y i j=some y.AE[i].AL[j]:=by
 unfold U6;rw[Aq (by omega)];simp[a,b]
def G4(l:List B):List (D×V):=l.map λs=>(.AU s,.d (.bool true))
def ym(s:B):∀l:List B,Y4 (.AU s) (G4 l)=if s∈l then some (.d (.bool true)) else none
|[]=>by simp[G4,Y4]
|x::r=>by
 have a:=ym s r;simp only[G4,Cw,Y4,DW]at a⊢;by_cases e:s=x
 ·simp[e]
 ·simp only[Gz.2 e,BO,Bs,a,EJ,e,false_or]
def sA(s:B)(v:V):∀l:List B,s∉l->EW (.AU s) v (G4 l)=G4 l++[(.AU s,v)]
|[],_=>by simp[G4,EW]
|x::r,h=>by
 have b:s≠x:=λe=>h (by simp[e]);have c:s∉r:=λe=>h (by simp[e]);have a:=sA s v r c;simp only[G4,Cw,EW,DW,List.cons_append]at a⊢;simp only[Gz.2 b,BO,Bs,a]
def Yco(s:B)(l:List B):V8 (.AU []) (.AU s) (G4 l):=by
 refine⟨rfl,λe a=>?_⟩;simp only[G4,DY]at a;obtain⟨x,_,rfl⟩:=a;rfl
def Yh5(p:Nat->Bool)(l:List B):Zd p (G4 l)=false:=by
 induction l with
 |nil=>rfl
 |cons x r a=>simpa[G4,Zd,V.BQ]using a
def Ycp(l:List B)(x:B):G4 (l++[x])=G4 l++[(.AU x,.d (.bool true))]:=by simp[G4]
include hP
theorem Ypb(t:A5)(u:Nat){c:AF}{K:V->Prop}(h:K (.d (.bool (ON u t)))):AW P 252 [.d t.enc,.d (.int .i64 u)] c K:=by
 refine AJ hP AQ (ds:=[t.enc,.int .i64 u]) Ze2 Zaq A4.nil ?_;have a:∀b,b=ON u t->K (.d (.bool b)):=λb e=>e▸h;clear h;simp[Y6x,A5.enc,Xg];apply a;rw[Dv];simp[ON,and_assoc]
theorem Ypc(t:A5)(u:Nat){c:AF}{K:V->Prop}(h:K (.d (.bool (Sy t)))):AW P 253 [.d t.enc,.d (.int .i64 u)] c K:=by
 refine AJ hP AQ (ds:=[t.enc,.int .i64 u]) Ze3 Zar A4.nil ?_;have a:∀b,b=Sy t->K (.d (.bool b)):=λb e=>e▸h;clear h;simp[Y6y,A5.enc,Xg];apply a;rw[Dv];simp[Sy,and_assoc]
theorem Ypd(t:A5)(u:Nat){c:AF}{K:V->Prop}(h:K (.d (.bool (Sz t)))):AW P 254 [.d t.enc,.d (.int .i64 u)] c K:=by
 refine AJ hP AQ (ds:=[t.enc,.int .i64 u]) Ze4 Zas A4.nil ?_;have a:∀b,b=Sz t->K (.d (.bool b)):=λb e=>e▸h;clear h;simp[Y6z,A5.enc,Xg];apply a;rw[Dv];simp[Sz,and_assoc]
theorem Xrl{l:List B}(q:l.length<=9223372036854775807){s:AF}{K:V->Prop}(h:K (.d (.bool (decide l.Nodup)))):AW P 256 [.d (Xg l)] s K:=by
 have v:=@w_t;refine AJ hP AQ (ds:=[Xg l]) Ze6 Zau A4.nil ?_;simp[Y60,Xg];refine EC l.length (λk=>[(3,.mp 0),(9,.d (.AH 1 (l.map D.AU))),(10,.d (.int .i64 l.length)),(11,.d (.int .i64 k))]) (λk=>[(0,.map (G4 (l.take k)))]) (λk=>(l.take k).Nodup) (by simp) (by simp) (by simp[G4]) ?_ ?_
 ·intro k c f R t m o u;simp[Xyo,c,Yco,ym];by_cases g:l[k]∈l.take k
  ·simp[g];refine o _ _ ?_;have:¬l.Nodup:=λr=>by
    have i:(l.take (k+1)).Nodup:=r.sublist (List.take_sublist _ _);rw[D2 c,FC]at i;exact i.2.2 _ g _ (by simp) rfl
   simpa[this]using h
  ·simp[g,sA];refine t [] _ _ ?_ (by simp[v c q]) ?_ (by simp[AD]) ?_
   ·rw[D2 c,FC];refine⟨f,by simp,?_⟩;intro a p b j;simp only[E3]at j;subst j;exact λe=>g (e▸p)
   ·rw[D2 c,Ycp];simp[AD]
   ·simp[AI,Yh5]
 ·intro f R m o u;simp[Xyo];refine m _ _ _ ?_;simp;rw[FV]at f;simpa[f]using h
theorem Ype(t:A5)(q:t.names.length<=9223372036854775807)(u:Nat){o:AF}{K:V->Prop}(h:K (.d (.bool (OO t)))):AW P 255 [.d t.enc,.d (.int .i64 u)] o K:=by
 refine AJ hP AQ (ds:=[t.enc,.int .i64 u]) Ze5 Zat A4.nil ?_;have l:IntKind.i64.wrap ((t.names.length:Int)-1)=(t.names.length:Int)-1:=w_i _ (by omega);have c:∀{o:AF}{K:V->Prop},K (.d (.bool (decide t.names.Nodup)))->AW P 256 [.d (.AH 1 (t.names.map .AU))] o K:=λh=>Xrl hP q h;by_cases n:t.lo=0/\t.hi=(t.names.length:Int)-1/\t.unit=-1/\1<=t.names.length/\t.names.length<=16
 ·obtain⟨a,b,f,k,m⟩:=n;have g:¬t.names=[]:=by intro e;simp[e]at k
  have i:(1:Int)<=t.names.length:=by omega
  have j:(t.names.length:Int)<=16:=by omega
  simp[Pl,A5.enc,Xg,a,b,f,i,j,l];refine c ?_;have e:OO t=decide t.names.Nodup:=by simp only[OO,a,b,f,k,m,and_self,decide_true,EN]
  rw[e]at h;simpa using h
 ·have p:OO t=false:=by simp only[OO,n,decide_false,Bool.false_and]
  rw[p]at h;by_cases a:t.lo=0
  ·by_cases b:t.hi=(t.names.length:Int)-1
   ·by_cases f:t.unit=-1
    ·by_cases k:1<=t.names.length
     ·have m:¬t.names.length<=16:=λm=>n ⟨a,b,f,k,m⟩;have g:¬t.names=[]:=by intro e;simp[e]at k
      have i:(1:Int)<=t.names.length:=by omega
      have j:¬(t.names.length:Int)<=16:=by omega
      simp[Pl,A5.enc,Xg,a,b,f,i,j,l];exact h
     ·have g:t.names=[]:=by simpa using k
      simp[Pl,A5.enc,Xg,a,b,f,g,l];exact h
    ·simp[Pl,A5.enc,Xg,a,b,f,l];exact h
   ·simp[Pl,A5.enc,Xg,a,b,l];exact h
  ·simp[Pl,A5.enc,Xg,a,l];exact h
def S0:D:=.agg [.Br,.fn 252 [] [],.fn 253 [] [],.fn 254 [] [],.fn 255 [] []]
theorem WN{a:AF}{K:V->Prop}(h:K (.d S0)):AW P 238 [] a K:=by
 refine AJ hP AQ (ds:=[]) Zet Zai A4.nil ?_;simp[Y6p];exact h
theorem zV{y:Ai}(t:A5)(s:t.names.length<=9223372036854775807){a:AF}{K:V->Prop}(h:K (.d (.bool (JB y.Am.length t)))):AW P 184 [.d (.agg [y.enc]),.d t.enc] a K:=by
 have n:Xd P.p 252=true:=by rw[hP];kernel_rfl
 have o:Xd P.p 253=true:=by rw[hP];kernel_rfl
 have q:Xd P.p 254=true:=by rw[hP];kernel_rfl
 have r:Xd P.p 255=true:=by rw[hP];kernel_rfl
 have j:∀{a:AF}{K:V->Prop},K (.d (.bool (ON y.Am.length t)))->AW P 252 [.d (.agg [iD t.kind,iD t.lo,iD t.hi,.AU t.CB,iD t.unit,.AH 1 (t.names.map .AU)]),.d (.int .i64 y.Am.length)] a K:=λh=>Ypb hP t _ h;have k:∀{a:AF}{K:V->Prop},K (.d (.bool (Sy t)))->AW P 253 [.d (.agg [iD t.kind,iD t.lo,iD t.hi,.AU t.CB,iD t.unit,.AH 1 (t.names.map .AU)]),.d (.int .i64 y.Am.length)] a K:=λh=>Ypc hP t _ h;have l:∀{a:AF}{K:V->Prop},K (.d (.bool (Sz t)))->AW P 254 [.d (.agg [iD t.kind,iD t.lo,iD t.hi,.AU t.CB,iD t.unit,.AH 1 (t.names.map .AU)]),.d (.int .i64 y.Am.length)] a K:=λh=>Ypd hP t _ h;have m:∀{a:AF}{K:V->Prop},K (.d (.bool (OO t)))->AW P 255 [.d (.agg [iD t.kind,iD t.lo,iD t.hi,.AU t.CB,iD t.unit,.AH 1 (t.names.map .AU)]),.d (.int .i64 y.Am.length)] a K:=λh=>Ype hP t s _ h;refine AJ hP AQ (ds:=[.agg [y.enc],t.enc]) Zdq Y9t A4.nil ?_;unfold JB at h;by_cases c:t.kind=1
 ·rw[BS c]at h;simp only[c]at j;simp[Ph,Ai.enc,A5.enc,Xg,c];refine WN hP ?_;simp[S0,n];refine⟨⟨rfl,rfl,rfl,rfl,rfl⟩,AW.CS (j ?_)⟩;simpa using h
 rw[Aq c]at h;by_cases e:t.kind=2
 ·rw[BS e]at h;simp only[e]at k;simp[Ph,Ai.enc,A5.enc,Xg,e];refine WN hP ?_;simp[S0,o];refine⟨⟨rfl,rfl,rfl,rfl,rfl⟩,AW.CS (k ?_)⟩;simpa using h
 rw[Aq e]at h;by_cases f:t.kind=3
 ·rw[BS f]at h;simp only[f]at l;simp[Ph,Ai.enc,A5.enc,Xg,f];refine WN hP ?_;simp[S0,q];refine⟨⟨rfl,rfl,rfl,rfl,rfl⟩,AW.CS (l ?_)⟩;simpa using h
 rw[Aq f]at h;by_cases g:t.kind=4
 ·rw[BS g]at h;simp only[g]at m;simp[Ph,Ai.enc,A5.enc,Xg,g];refine WN hP ?_;simp[S0,r];refine⟨⟨rfl,rfl,rfl,rfl,rfl⟩,AW.CS (m ?_)⟩;simpa using h
 rw[Aq g]at h;have b:t.kind<1\/4<t.kind:=by omega
 rcases b with b|b
 ·simp[Ph,Ai.enc,A5.enc,Xg,b];exact h
 ·have i:¬t.kind<1:=by omega
  simp[Ph,Ai.enc,A5.enc,Xg,b,i];exact h
theorem Xoh{y:Ai}(a b:A5)(G:a.names.length<=9223372036854775807)(t:JB y.Am.length a=true)(w:JB y.Am.length b=true){x:AF}{K:V->Prop}(h:K (.d (.bool (SC y a b)))):
 AW P 235 [.d (.agg [y.enc]),.d a.enc,.d b.enc] x K:=by
 refine AJ hP AQ (ds:=[.agg [y.enc],a.enc,b.enc]) Zeq Zah A4.nil ?_;have c:∀{x:AF}{K:V->Prop},K (.d (.bool (decide (a.names=b.names))))->AW P 154 [.d (.AH 1 (a.names.map .AU)),.d (.AH 1 (b.names.map .AU))] x K:=λh=>zT hP G h;unfold SC at h;by_cases p:a.kind=b.kind
 ·rw[Aq (by simp[p])]at h;by_cases r:a.kind=4
  ·rw[BS r]at h;have i:b.kind=4:=by omega
   simp[Pj,Ai.enc,A5.enc,Xg,r,i];refine c ?_;simpa using h
  ·rw[Aq r]at h;have i:¬b.kind=4:=by omega
   by_cases k:a.kind=1
   ·have f:b.kind=1:=by omega
    by_cases q:a.unit=-1
    ·rw[BS (.inr (.inl q))]at h;have j:∀g,g=decide (a.unit=b.unit)->K (.d (.bool g)):=λg e=>e▸h;simp[Pj,Ai.enc,A5.enc,Xg,k,f,q];apply j;rw[Dv];simp;omega
    ·by_cases s:b.unit=-1
     ·rw[BS (.inr (.inr s))]at h;have j:∀g,g=decide (a.unit=b.unit)->K (.d (.bool g)):=λg e=>e▸h;simp[Pj,Ai.enc,A5.enc,Xg,k,f,q,s];apply j;rw[Dv];simp;omega
     ·rw[Aq (by omega)]at h;have H:0<=a.unit/\a.unit<y.Am.length:=by
       simp only[JB,k,Bu,ON,DK]at t;omega
      have J:0<=b.unit/\b.unit<y.Am.length:=by
       simp only[JB,f,Bu,ON,DK]at w;omega
      obtain⟨u,l⟩:∃u:Nat,a.unit=u:=⟨a.unit.toNat,by omega⟩
      obtain⟨v,n⟩:∃u:Nat,b.unit=u:=⟨b.unit.toNat,by omega⟩
      have m:u<y.Am.length:=by omega
      have o:v<y.Am.length:=by omega
      have z:Pf y a.unit=y.Am[u].A1:=by simp[Pf,l,m]
      have F:Pf y b.unit=y.Am[v].A1:=by simp[Pf,n,o]
      rw[z,F]at h;simp[Pj,Ai.enc,A5.enc,A0.enc,Xg,k,f,q,s,l,n,m,o]
      first|exact h|skip
   ·rw[BS (.inl k)]at h;have f:¬b.kind=1:=by omega
    have j:∀g,g=decide (a.unit=b.unit)->K (.d (.bool g)):=λg e=>e▸h;simp[Pj,Ai.enc,A5.enc,Xg,p,i,f];apply j;rw[Dv];simp
 ·rw[BS (by simpa using p)]at h;simp[Pj,Ai.enc,A5.enc,Xg,p];exact h
omit hP
def Ur(y:Ai)(p:Ae):Bool:=(p.CN.all λr=>(U6 y r.Ag r.field).isSome)&&decide (0<=p.C3)&&decide (p.C3<=64)
def wB(w:Int):Bool:=decide (0<=w)&&decide (w<=9)
def Zfm{w:Int}(a:0<=w)(b:w<=9):wB w=true:=by unfold wB;rw[JZ a,JZ b];rfl
def Q4(y:Ai)(f:Aj):Bool:=JB y.Am.length f.type&&wB f.w0&&wB f.w1&&wB f.w2&&wB f.w3
def Yw(y:Ai)(s:AO):Bool:=
 decide (0<=s.CF)&&decide (s.CF<y.Aa.length)&&decide (1<=s.BU)&&decide (s.BU<=255)&&decide (1<=s.AL.length)&&decide (s.AL.length<=12)&&
 (match s.AL[0]? with|none=>false|some f=>decide (f.type.kind=3))&&s.AL.all (Q4 y)
def W7{a:Type}{p:a->Bool}{l:List a}{k:Nat}(b:k<l.length):(l.take (k+1)).all p=((l.take k).all p&&p l[k]):=by
 rw[D2 b,R5];simp
include hP
theorem Xro{y:Ai}{p:Ae}(J:p.CN.length<=9223372036854775807){z:AF}{K:V->Prop}(h:K (.d (.bool (Ur y p)))):AW P 123 [.d (.agg [y.enc]),.d p.enc] z K:=by
 refine AJ hP AQ (ds:=[.agg [y.enc],p.enc]) Zcb Y8r A4.nil ?_;have b:y.enc.sz=6:=rfl;simp[Y5i,Ae.enc,b];refine EC p.CN.length (λk=>[(2,.ptr 0 []),(3,.ptr 1 []),(10,.d (.AH 4 (p.CN.map Ch.enc))),(11,.d (.int .i64 p.CN.length)),(12,.d (.int .i64 k))])
  (λ_=>[(1,.box 83 (.d (.agg [.AU p.name,.AH 4 (p.CN.map Ch.enc),iD p.C3]))),(0,.box 220 (.d (.agg [y.enc])))]) (λk=>(p.CN.take k).all (λr=>(U6 y r.Ag r.field).isSome)=true) (by simp) (by simp) (by simp) ?_ ?_
 ·intro k m g R F n o G;have H:=w_s k (by omega);have a:=W7 (p:=λr:Ch=>(U6 y r.Ag r.field).isSome) m;rw[g,EN]at a;simp[zJ,m,Ch.enc,b];refine⟨by rw[Cb];rfl,VN hP (λw=>?_) (λi u j v x q=>?_)⟩
  ·have c:=Qi (y:=y) (s:=p.CN[k].Ag) (f:=p.CN[k].field) w;rw[c]at a;have e:Ur y p=false:=by
    unfold Ur;have:(p.CN.all λr=>(U6 y r.Ag r.field).isSome)=false:=by
     rw[List.all_eq_false];exact⟨p.CN[k],Ci m,by simp[c]⟩
    rw[this];rfl
   rw[e]at h;simp[ML];refine o _ _ ?_;simp;exact h
  ·have c:=UZ u v;rw[x,q,c]at a;have l:∀t:A5,t.enc.shape=.node [.AR,.AR,.AR,.AR,.AR,.AR]:=λt=>rfl;simp[l,H];refine F [] _ _ a (by simp) (by simp[AD]) (by simp[AD]) (by simp[AD])
 ·intro g R n o G;simp[zJ];refine n _ _ _ ?_;rw[FV]at g;have e:Ur y p=(decide (0<=p.C3)&&decide (p.C3<=64)):=by unfold Ur;rw[g,EN]
  rw[e]at h;simp;exact h
theorem X1f{y:Ai}{x:AO}(hx:x.BF){ob:AF}{K:V->Prop}(h:K (.d (.bool (Yw y x)))):AW P 120 [.d (.agg [y.enc]),.d x.enc] ob K:=by
 refine AJ hP AQ (ds:=[.agg [y.enc],x.enc]) Zb8 Y8p A4.nil ?_;have c:y.enc.sz=6:=rfl;have r:y.enc=.agg [Xg y.Aa,.AH 5 (y.Am.map A0.enc),.AH 6 (y.AE.map AO.enc),.AH 5 (y.AT.map Ao.enc),.AH 5 (y.AM.map Ar.enc),.AH 3 (y.AK.map Ae.enc)]:=rfl;have g:Yw y x=false->K (.d (.bool false)):=λe=>by rw[e]at h;exact h
 obtain⟨nm,bn,i,l,a,o⟩:=x;have J:=hx.AL;have m:=hx.names;dsimp only at J m;by_cases s:i<0
 ·simp[NP,AO.enc,c,r,Xg,s];exact g (by simp[Yw];omega)
 by_cases t:(y.Aa.length:Int)<=i
 ·simp[NP,AO.enc,c,r,Xg,s,t];exact g (by simp[Yw];omega)
 by_cases z:l<1
 ·simp[NP,AO.enc,c,r,Xg,s,t,z];exact g (by simp[Yw];omega)
 by_cases G:255<l
 ·simp[NP,AO.enc,c,r,Xg,s,t,z,G];exact g (by simp[Yw];omega)
 by_cases X:(a.length:Int)<1
 ·simp[NP,AO.enc,c,r,Xg,s,t,z,G,X];exact g (by simp[Yw];omega)
 by_cases a6:(12:Int)<a.length
 ·simp[NP,AO.enc,c,r,Xg,s,t,z,G,X,a6];exact g (by simp[Yw];omega)
 have q:0<a.length:=by omega
 have fe:∀f:Aj,f.enc=.agg [.AU f.name,.agg [iD f.type.kind,iD f.type.lo,iD f.type.hi,.AU f.type.CB,iD f.type.unit,Xg f.type.names],.agg [iD f.w0,iD f.w1,iD f.w2,iD f.w3]]:=λ_=>rfl;have H:=fe a[0];by_cases Y:a[0].type.kind=3
 ·simp[NP,AO.enc,c,r,Xg,s,t,z,G,X,a6,H,q,Y];have O:∀b,Yw y ⟨nm,bn,i,l,a,o⟩=b->a.all (Q4 y)=b:=by
   intro b e;rw[<-e];have c1:0<=i:=by omega
   have c2:i<y.Aa.length:=by omega
   have c3:1<=l:=by omega
   have c4:l<=255:=by omega
   have c5:1<=a.length:=by omega
   have c6:a.length<=12:=by omega
   simp[Yw,c1,c2,c3,c4,c5,c6,q,Y]
  rw[<-O _ rfl]at h;have wr:=@w_t;refine EC a.length (λk=>[(2,.ptr 0 []),(53,.d (.AH 11 (a.map Aj.enc))),(54,.d (.int .i64 a.length)),(55,.d (.int .i64 k))])
   (λ_=>[(1,.box 72 (.d (.agg [.AU nm,.AU bn,iD i,iD l,.AH 11 (a.map Aj.enc),.AH 4 (o.map A2.enc)]))),(0,.box 220 (.d (.agg [y.enc])))]) (λk=>(a.take k).all (Q4 y)=true) (by simp) (by simp) (by simp[r,Xg]) ?_ ?_
  ·intro k L Z R rn re rr rp;have v:=W7 (p:=Q4 y) L;rw[Z,EN]at v;have F:Q4 y a[k]=false->K (.d (.bool false)):=by
    intro e;have:a.all (Q4 y)=false:=by
     rw[List.all_eq_false];exact⟨a[k],Ci L,by simp[e]⟩
    rw[this]at h;exact h
   have N:=m _ (Ci L);have fk:=fe a[k];simp[zI,L,fk,Xg];generalize a[k]=f at v F N;refine⟨by rw[Cb];rfl,zV hP f.type N ?_⟩;cases ht:JB y.Am.length f.type with
   |false=>
    simp;refine rr _ _ ?_;simp;exact F (by simp[Q4,ht])
   |true=>
    simp;have T:Q4 y f=(wB f.w0&&wB f.w1&&wB f.w2&&wB f.w3):=by simp[Q4,ht]
    refine EC 4 (λj=>[(2,.ptr 0 []),(53,.d (.AH 11 (a.map Aj.enc))),(54,.d (.int .i64 a.length)),(55,.d (.int .i64 k)),(65,.d (.agg [iD f.w0,iD f.w1,iD f.w2,iD f.w3])),(66,.d (.int .i64 j))])
     (λ_=>[(2,.box 158 (.d (.agg [.AU f.name,.agg [iD f.type.kind,iD f.type.lo,iD f.type.hi,.AU f.type.CB,iD f.type.unit,.AH 1 (f.type.names.map .AU)],.agg [iD f.w0,iD f.w1,iD f.w2,iD f.w3]]))),(1,.box 72 (.d (.agg [.AU nm,.AU bn,iD i,iD l,.AH 11 (a.map Aj.enc),.AH 4 (o.map A2.enc)]))),(0,.box 220 (.d (.agg [y.enc])))])
     (λj=>([f.w0,f.w1,f.w2,f.w3].take j).all wB=true) (by simp) (by simp) (by simp) ?_ ?_
    ·intro j hj hJ R' aa U W ab;have u:j=0\/j=1\/j=2\/j=3:=by omega
     have bw:∀{w:Int},wB w=false->w∈[f.w0,f.w1,f.w2,f.w3]->Q4 y f=false:=by
      intro w e Q;rw[T];simp only[EJ,List.not_mem_nil,or_false]at Q;rcases Q with rfl|rfl|rfl|rfl<;>simp[e]
     have w1:IntKind.i64.wrap 1=1:=rfl;have w2:IntKind.i64.wrap 2=2:=rfl;have w3:IntKind.i64.wrap 3=3:=rfl;have w4:IntKind.i64.wrap 4=4:=rfl;rcases u with rfl|rfl|rfl|rfl
     all_goals
      simp[zH];refine⟨⟨rfl,rfl,rfl,rfl⟩,λQ=>?_,λh1 h2=>?_⟩
      ·refine W _ _ ?_;simp;refine rr _ _ ?_;simp
       first
       |exact F (bw (w:=f.w0) (by simp[wB];omega) (by simp))
       |exact F (bw (w:=f.w1) (by simp[wB];omega) (by simp))
       |exact F (bw (w:=f.w2) (by simp[wB];omega) (by simp))
       |exact F (bw (w:=f.w3) (by simp[wB];omega) (by simp))
      ·refine aa [] _ _ ?_ (by simp[w1,w2,w3,w4]) (by simp[AD]) (by simp[AD]) (by simp[AD]);have Q:=Zfm h1 h2;simp at hJ⊢;simp[hJ,Q]
    ·intro hJ R' U W ab;simp[zH];refine U _ _ _ ?_;simp[wr L J];have hb:Q4 y f=true:=by
      rw[T];simpa[Bool.and_assoc]using hJ
     refine rn [] _ _ (by rw[v,hb]) (by simp) (by simp[AD]) (by simp[AD]) (by simp[AD])
  ·intro Z R re rr rp;simp[zI];refine re _ _ _ ?_;rw[FV]at Z;rw[Z]at h;simp;exact h
 ·simp[NP,AO.enc,c,r,Xg,s,t,z,G,X,a6,H,q,Y];exact g (by simp[Yw,q,Y])
omit hP
def Ow(t:BE):Bool:=decide (t.var=-1)&&decide (0<=t.n)&&decide (t.n<=1048576)
def G6(y:Ai)(r:Ao)(n:Int)(t:BE):Option A5:=
 if t.var<0\/n<=t.var then none else (r.Ah[t.var.toNat]?).bind λf=>(U6 y f.Ag t.field).map Aj.type
def DU(y:Ai)(r:Ao):D:=.agg [.agg [y.enc],r.enc]
def L6(y:Ai)(r:Ao)(i:Nat)(f:Av):Bool:=
 decide (0<=f.Ag)&&decide (f.Ag<y.AE.length)&&(decide (f.CB.var=-1)||(match G6 y r i f.CB with|some t=>decide (t.kind=3)|none=>false))
def V4(y:Ai)(r:Ao):Nat->List Av->Bool
|_,[]=>true
|k,f::l=>L6 y r k f&&V4 y r (k+1) l
def NG(y:Ai)(r:Ao):Bool:=decide (1<=r.Ah.length)&&decide (r.Ah.length<=3)&&V4 y r 0 r.Ah
include hP
theorem uD{t:BE}{c:AF}{K:V->Prop}(h:K (.d (.bool (Ow t)))):AW P 234 [.d t.enc] c K:=by
 refine AJ hP AQ (ds:=[t.enc]) Zep Zag A4.nil ?_;have a:∀b,b=Ow t->K (.d (.bool b)):=λb e=>e▸h;simp[Y6o,BE.enc];apply a;rw[Dv];simp[Ow]
theorem cX{y:Ai}{r:Ao}{n:Int}(Q:n<=r.Ah.length){t:BE}{N:AF}{K:V->Prop}
 (g:G6 y r n t=none->K (.BT [.d ML,.d (.bool false)])) (G:∀x,G6 y r n t=some x->(∃i,∃h:i<y.AE.length,∃j,∃k:j<y.AE[i].AL.length,x=y.AE[i].AL[j].type)->K (.BT [.d x.enc,.d (.bool true)])):
 AW P 233 [.d (DU y r),.d t.enc,.d (.int .i64 n)] N K:=by
 refine AJ hP AQ (ds:=[DU y r,t.enc,.int .i64 n]) Zeo Zaf A4.nil ?_;have a:y.enc.sz=6:=rfl;by_cases c:t.var<0
 ·simp[nK,BE.enc,DU,Ao.enc,a,c];exact g (by simp[G6,c])
 by_cases m:n<=t.var
 ·simp[nK,BE.enc,DU,Ao.enc,a,c,m];exact g (by simp[G6,m])
 obtain⟨v,q⟩:∃v:Nat,t.var=v:=⟨t.var.toNat,by omega⟩
 have b:v<r.Ah.length:=by omega
 have p:G6 y r n t=(U6 y r.Ah[v].Ag t.field).map Aj.type:=by
  unfold G6;rw[Aq (by omega),q,Int.toNat_natCast,DN b];rfl
 have z:∀f:Av,f.enc=.agg [.AU f.name,.AU f.kind,iD f.Ag,f.CB.enc]:=λ_=>rfl;have F:=z r.Ah[v];have s:(v:Int)<n:=by omega
 have u:¬n<=(v:Int):=by omega
 have w:¬(v:Int)<0:=by omega
 simp[nK,BE.enc,DU,Ao.enc,a,q,b,F,s,u,w];refine⟨by rw[Cb];rfl,VN hP (λl=>?_) (λi h j k L H=>?_)⟩
 ·simp[ML];exact g (by rw[p,Qi l];rfl)
 ·have o:=UZ h k;rw[<-L,<-H]at o;have J:(match V.d y.AE[i].AL[j].type.enc with|V.d (D.agg O)=>true|V.agg O=>true|x=>false)=true:=rfl;have e:∀t:A5,t.enc.shape=.node [.AR,.AR,.AR,.AR,.AR,.AR]:=λt=>rfl;simp[e];exact⟨J,G _ (by rw[p,o];rfl) ⟨i,h,j,k,rfl⟩⟩
theorem X5p{y:Ai}{r:Ao}{T:AF}{K:V->Prop}(h:K (.d (.bool (NG y r)))):AW P 175 [.d (DU y r)] T K:=by
 refine AJ hP AQ (ds:=[DU y r]) Zdh Y9o A4.nil ?_;have b:y.enc.sz=6:=rfl;have p:y.enc.shape.size=6:=by rw[Cb];rfl
 have u:y.enc=.agg [Xg y.Aa,.AH 5 (y.Am.map A0.enc),.AH 6 (y.AE.map AO.enc),.AH 5 (y.AT.map Ao.enc),.AH 5 (y.AM.map Ar.enc),.AH 3 (y.AK.map Ae.enc)]:=rfl;have a:NG y r=false->K (.d (.bool false)):=λe=>by rw[e]at h;exact h
 by_cases q:(r.Ah.length:Int)<1
 ·simp[nN,DU,Ao.enc,b,p,q];exact a (by simp[NG];omega)
 by_cases v:(3:Int)<r.Ah.length
 ·simp[nN,DU,Ao.enc,b,p,q,v];exact a (by simp[NG];omega)
 have Q:NG y r=V4 y r 0 r.Ah:=by
  have g:1<=r.Ah.length:=by omega
  have i:r.Ah.length<=3:=by omega
  simp[NG,g,i]
 rw[Q]at h a;simp[nN,DU,Ao.enc,b,p,q,v];refine EC r.Ah.length (λk=>[(1,.ptr 0 []),(21,.d (.AH 8 (r.Ah.map Av.enc))),(22,.d (.int .i64 r.Ah.length)),(23,.d (.int .i64 k))])
  (λ_=>[(0,.box 222 (.d (DU y r)))]) (λk=>V4 y r 0 r.Ah=V4 y r k (r.Ah.drop k)) (by simp) (by simp) (by simp[DU,Ao.enc]) ?_ ?_
 ·intro k w s R G F o U;have H:=w_s k (by omega);have c:V4 y r 0 r.Ah=(L6 y r k r.Ah[k]&&V4 y r (k+1) (r.Ah.drop (k+1))):=by rw[s,D5 w,V4]
  have L:∀f:Av,f.enc=.agg [.AU f.name,.AU f.kind,iD f.Ag,f.CB.enc]:=λ_=>rfl;have W:∀t:BE,t.enc=.agg [.AU t.name,.AU t.path,iD t.var,iD t.field,iD t.n]:=λ_=>rfl;have N:=L r.Ah[k];have j:L6 y r k r.Ah[k]=false->K (.d (.bool false)):=λe=>a (by rw[c,e];rfl);simp[yw,w,N,W,DU,Ao.enc,b,p,u,Xg];generalize r.Ah[k]=f at c j;have z:L6 y r k f=true->V4 y r 0 r.Ah=V4 y r (k+1) (r.Ah.drop (k+1)):=λe=>by rw[c,e,EN]
  refine⟨λX=>?_,λg i=>⟨λm=>?_,λm=>?_⟩⟩
  ·refine o _ _ ?_;simp;exact j (by simp[L6];omega)
  ·refine G [] _ _ (z (by simp[L6,g,i,m])) (by simp[H]) (by simp[AD,DU,Ao.enc,u,Xg]) (by simp[AD]) (by simp[AD,DU])
  ·refine cX (y:=y) (r:=r) hP (n:=k) (by omega) (t:=f.CB) (λe=>?_) (λx e _=>?_)
   ·simp[ML];refine o _ _ ?_;simp;exact j (by simp[L6,g,i,m,e])
   ·have O:∀t:A5,t.enc.shape=.node [.AR,.AR,.AR,.AR,.AR,.AR]:=λt=>rfl;have J:x.enc=.agg [iD x.kind,iD x.lo,iD x.hi,.AU x.CB,iD x.unit,Xg x.names]:=rfl;by_cases l:x.kind=3
    ·simp[J,l,Xg,H];refine G [] _ _ (z (by simp[L6,g,i,e,l])) (by simp) (by simp[AD,DU,Ao.enc,u,Xg]) (by simp[AD]) (by simp[AD,DU])
    ·simp[J,l,Xg];refine o _ _ ?_;simp;exact j (by simp[L6,g,i,m,e,l])
 ·intro s R F o U;simp[yw];refine F _ _ _ ?_;rw[s,List.drop_length,V4]at h;simp;exact h
omit hP
def Nn(x z:A5):Bool:=decide (z.kind=x.kind)&&decide (z.unit=x.unit)&&decide (z.names=x.names)&&decide (x.lo<=z.lo)&&decide (z.lo<=x.hi)&&decide (x.lo<=z.hi)&&decide (z.hi<=x.hi)
def K2(y:Ai)(r:Ao)(x:A5)(t:BE):Bool:=
 if Ow t then decide (x.lo<=t.n)&&decide (t.n<=x.hi) else (match G6 y r r.Ah.length t with|some z=>Nn x z|none=>false)
def G5(l:List Int):List (D×V):=l.map λs=>(iD s,.d (.bool true))
def xD(s:Int):∀l:List Int,Y4 (iD s) (G5 l)=if s∈l then some (.d (.bool true)) else none
|[]=>by simp[G5,Y4]
|x::r=>by
 have a:=xD s r;simp only[G5,Cw,Y4,DW]at a⊢;by_cases e:s=x
 ·simp[e]
 ·simp only[Gz.2 e,BO,Bs,a,EJ,e,false_or]
def yl(s:Int)(v:V):∀l:List Int,s∉l->EW (iD s) v (G5 l)=G5 l++[(iD s,v)]
|[],_=>by simp[G5,EW]
|x::r,h=>by
 have b:s≠x:=λe=>h (by simp[e]);have c:s∉r:=λe=>h (by simp[e]);have a:=yl s v r c;simp only[G5,Cw,EW,DW,List.cons_append]at a⊢;simp only[Gz.2 b,BO,Bs,a]
def X2p(s:Int)(l:List Int):V8 (iD 0) (iD s) (G5 l):=by
 refine⟨rfl,λe a=>?_⟩;simp only[G5,DY]at a;obtain⟨x,_,rfl⟩:=a;rfl
def Ycn(p:Nat->Bool)(l:List Int):Zd p (G5 l)=false:=by
 induction l with
 |nil=>rfl
 |cons x r a=>simpa[G5,Zd,V.BQ]using a
def X2q(l:List Int)(x:Int):G5 (l++[x])=G5 l++[(iD x,.d (.bool true))]:=by simp[G5]
include hP
theorem Yo8{l:List Int}(t:l.length<=9223372036854775807){v:AF}{K:V->Prop}(h:K (.d (.bool (decide l.Nodup)))):AW P 179 [.d (X4 l)] v K:=by
 have y:=@w_t;refine AJ hP AQ (ds:=[X4 l]) Zdl Y9s A4.nil ?_;simp[Y58,X4];refine EC l.length (λk=>[(3,.mp 0),(9,.d (.AH 1 (l.map iD))),(10,.d (.int .i64 l.length)),(11,.d (.int .i64 k))]) (λk=>[(0,.map (G5 (l.take k)))]) (λk=>(l.take k).Nodup) (by simp) (by simp) (by simp[G5]) ?_ ?_
 ·intro k c g R w m o x;have p:=xD l[k] (l.take k);have q:=X2p l[k] (l.take k);simp[y4,c,p,q];by_cases f:l[k]∈l.take k
  ·simp[f];refine o _ _ ?_;have:¬l.Nodup:=λu=>by
    have i:(l.take (k+1)).Nodup:=u.sublist (List.take_sublist _ _);rw[D2 c,FC]at i;exact i.2.2 _ f _ (by simp) rfl
   simpa[this]using h
  ·have r:=yl l[k] (.d (.bool true)) (l.take k) f;simp[f,r];refine w [] _ _ ?_ (by simp[y c t]) ?_ (by simp[AD]) ?_
   ·rw[D2 c,FC];refine⟨g,by simp,?_⟩;intro a s b j;simp only[E3]at j;subst j;exact λe=>f (e▸s)
   ·rw[D2 c,X2q];simp[AD]
   ·simp[AI,Ycn]
 ·intro g R m o x;simp[y4];refine m _ _ _ ?_;simp;rw[FV]at g;simpa[g]using h
theorem Ypj{y:Ai}{r:Ao}(L:r.Ah.length<=9223372036854775807)(F:y.BF){x:A5}{t:BE}{H:AF}{K:V->Prop}(h:K (.d (.bool (K2 y r x t)))):AW P 178 [.d (DU y r),.d x.enc,.d t.enc] H K:=by
 refine AJ hP AQ (ds:=[DU y r,x.enc,t.enc]) Zdk Y9r A4.nil ?_;have f:y.enc.sz=6:=rfl;have s:y.enc.shape.size=6:=by rw[Cb];rfl
 have J:t.enc=.agg [.AU t.name,.AU t.path,iD t.var,iD t.field,iD t.n]:=rfl;have k:∀x:A5,x.enc=.agg [iD x.kind,iD x.lo,iD x.hi,.AU x.CB,iD x.unit,Xg x.names]:=λ_=>rfl;simp[Y57,DU,Ao.enc,J,k,f,s];refine uD hP (t:=t) ?_;cases p:Ow t with
 |true=>
  simp;have e:K2 y r x t=(decide (x.lo<=t.n)&&decide (t.n<=x.hi)):=by unfold K2;rw[p];rfl
  rw[e]at h;exact h
 |false=>
  simp[f,s];refine cX (y:=y) (r:=r) hP (n:=r.Ah.length) (by omega) (t:=t) (λe=>?_) (λz e G=>?_)
  ·have l:K2 y r x t=false:=by unfold K2;rw[p,e];rfl
   rw[l]at h;simp[ML];exact h
  ·have l:K2 y r x t=Nn x z:=by unfold K2;rw[p,e];rfl
   rw[l]at h;have q:z.names.length<=9223372036854775807:=by
    obtain⟨i,v,j,w,rfl⟩:=G;exact(F.Ag _ (Ci v)).names _ (Ci w)
   by_cases c:z.kind=x.kind
   rotate_left
   ·have m:Nn x z=false:=by simp[Nn,c]
    rw[m]at h;simp[k,Xg,c];exact h
   by_cases g:z.unit=x.unit
   rotate_left
   ·have m:Nn x z=false:=by simp[Nn,g]
    rw[m]at h;have o:(z.unit==x.unit)=false:=by simpa using g
    simp[k,Xg,c,o];exact h
   simp[k,Xg,c,g];refine zT hP (a:=z.names) (b:=x.names) q ?_;have u:∀b,b=Nn x z->K (.d (.bool b)):=λb e=>e▸h;simp;apply u;rw[Dv];simp[Nn,c,g]
omit hP
def Cr(l:List B)(n:B):Option Nat:=l.findIdx? (λx=>decide (x=n))
def Yho(l:List B)(x n:B):Cr (l++[x]) n=(Cr l n).or (if x=n then some l.length else none):=by
 unfold Cr;rw[List.findIdx?_append];congr 1;by_cases e:x=n<;>simp[e]
def P7{l:List B}{n:B}:Cr l n=none↔n∉l:=by
 unfold Cr;rw[List.findIdx?_eq_none_iff];constructor
 ·intro h a;simpa using h n a
 ·intro h x b;simp;rintro rfl;exact h b
def QV{l:List B}{n:B}{i:Nat}(h:Cr l n=some i):i<l.length:=by
 unfold Cr at h;rw[List.findIdx?_eq_some_iff_getElem]at h;exact h.1
def Zu(l:List B):Nat->List (D×V)
|0=>[]
|k+1=>match l[k]? with
 |none=>Zu l k
 |some n=>if n∈l.take k then Zu l k else Zu l k++[(.AU n,.d (.int .i64 k))]
def cY(k j:D)(v:V):∀l:List (D×V),Y4 k (l++[(j,v)])=(Y4 k l).or (if DW k j then some v else none)
|[]=>by simp[Y4]
|(a,b)::r=>by
 have c:=cY k j v r;simp only[List.cons_append,Y4,c];split<;>simp
def Ue(k:D)(v:V):∀l:List (D×V),Y4 k l=none->EW k v l=l++[(k,v)]
|[],_=>by simp[EW]
|(a,b)::r,h=>by
 simp only[Y4]at h;split at h
 ·cases h
 next e=>simp only[EW,e,BO,Bs,List.cons_append,Ue k v r h]
def Ji(l:List B)(n:B):∀k,k<=l.length->Y4 (.AU n) (Zu l k)=(Cr (l.take k) n).map λi=>V.d (.int .i64 i)
|0,_=>by simp[Zu,Y4,Cr]
|k+1,g=>by
 have c:=Ji l n k (by omega);have a:k<l.length:=g;rw[Zu,DN a,D2 a,Yho];simp only;by_cases b:l[k]∈l.take k
 ·rw[BS b,c];by_cases e:l[k]=n
  ·have:Cr (l.take k) n≠none:=λh=>P7.1 h (e▸b);cases h:Cr (l.take k) n with
   |none=>exact absurd h this
   |some i=>simp
  ·simp[e]
 ·rw[Aq b,cY,c];by_cases e:l[k]=n
  ·cases h:Cr (l.take k) n with
   |none=>
    have j:(l.take k).length=k:=by simp;omega
    simp[e,DW,j]
   |some i=>simp
  ·have f:¬n=l[k]:=λh=>e h.symm;simp[e,f,DW]
def Jj(l:List B)(n:B):∀k,V8 (.AU []) (.AU n) (Zu l k)
|0=>⟨rfl,λe a=>by cases a⟩
|k+1=>by
 have b:=Jj l n k;rw[Zu];split
 ·exact b
 ·split
  ·exact b
  ·refine⟨b.1,λe a=>?_⟩;rw[DT]at a;rcases a with a|a
   ·exact b.2 e a
   ·simp only[E3]at a;subst a;rfl
def xS(p:Nat->Bool)(k:D)(v:V):∀l:List (D×V),Zd p (l++[(k,v)])=(Zd p l||V.BQ p v)
|[]=>by simp[Zd]
|(a,b)::r=>by simp[Zd,xS p k v r,Bool.or_assoc]
def Zh(p:Nat->Bool)(l:List B):∀k,Zd p (Zu l k)=false
|0=>rfl
|k+1=>by
 have a:=Zh p l k;rw[Zu];split
 ·exact a
 ·split
  ·exact a
  ·rw[xS,a];rfl
def Db{a:Type}(f:List a->a->Option a):List a->List a->Option (List a)
|pre,[]=>some pre
|pre,x::r=>(f pre x).bind λy=>Db f (pre++[y]) r
def D6{a:Type}(l:List a)(f:a->Option a):Option (List a):=Db (λ_=>f) [] l
def MM(a:List B)(b:List A0)(u:A0):Option A0:=
 if u.CB=[] then some {u with A1:=b.length,Ba:=1}
 else (Cr a u.CB).bind λ(n:Nat)=>(b[n]?).map λv=>{u with A1:=v.A1,Ba:=if 2<=u.Bb/\u.Bb<=1000/\u.Bb*v.Ba<=1099511627776 then u.Bb*v.Ba else 0}
def Q5(a:List B)(f:Aj):Option Aj:=
 if f.type.kind=1/\f.type.CB≠[] then (Cr a f.type.CB).map λ(n:Nat)=>{f with type:={f.type with unit:=n} }
 else some {f with type:={f.type with unit:=-1} }
def NI(a:List B):List Nat->List B->Option (List Nat)
|pre,[]=>some pre
|pre,x::r=>(Cr a x).bind λn=>NI a (pre++[n]) r
def KF(a:List B)(d:A2):Option A2:=
 (NI a [] d.names).bind λl=>(Cr a d.name).map λ(n:Nat)=>{d with Aw:=l.map Int.ofNat,B8:=n}
def Uc(a b:List B)(s:AO):Option AO:=
 (Cr a s.Eg).bind λ(i:Nat)=>(D6 s.AL (Q5 b)).bind λd=>(D6 s.Ac (KF (s.AL.map Aj.name))).map λc=>{s with CF:=i,AL:=d,Ac:=c}
def Yr(a:List AO)(s:Int):List B:=(match a[s.toNat]? with|some x=>x.AL|none=>[]).map Aj.name
def HT(b:List AO)(a:List Av)(t:BE):Option BE:=
 if t.name=[] then some {t with var:=-1,field:=0}
 else (Cr (a.map Av.name) t.name).bind λ(v:Nat)=>(a[v]?).bind λx=>(Cr (Yr b x.Ag) t.path).map λ(f:Nat)=>{t with var:=v,field:=f}
def OU(a:List AO)(b:List Av)(x:Av):Option Av:=
 (Cr (a.map AO.name) x.kind).bind λ(n:Nat)=>(HT a b x.CB).map λt=>{x with Ag:=n,CB:=t}
def NT(c:List AO)(d:List Av)(a:BP):Option BP:=
 (HT c d a.a).bind λx=>(HT c d a.b).map λy=>{a with a:=x,b:=y}
def Nl(a:List AO)(s:Int)(b:List Av)(x:Bo):Option Bo:=
 (Cr (Yr a s) x.path).bind λ(n:Nat)=>(HT a b x.Cd).map λt=>{x with field:=n,Cd:=t}
def G2(a:List AO)(r:Ao):Option Ao:=
 (Cr (a.map AO.name) r.head).bind λ(n:Nat)=>(Db (OU a) [] r.Ah).bind λb=>(D6 r.Ap (NT a b)).bind λc=>(D6 r.BJ (Nl a n b)).map λd=>{r with Ag:=n,Ah:=b,Ap:=c,BJ:=d}
def Oc(c:List AO)(a b:Int)(m:BI):Option BI:=
 (Cr (Yr c a) m.Aw).bind λ(x:Nat)=>(Cr (Yr c b) m.B8).map λ(y:Nat)=>{m with a:=x,b:=y}
def Zo(d:List AO)(c:Ar):Option Ar:=
 (Cr (d.map AO.name) c.Aw).bind λ(a:Nat)=>(Cr (d.map AO.name) c.B8).bind λ(b:Nat)=>(D6 c.At (Oc d a b)).map λe=>{c with a:=a,b:=b,At:=e}
def Ox(a:List AO)(m:Ch):Option Ch:=
 (Cr (a.map AO.name) m.name).bind λ(s:Nat)=>(Cr (Yr a s) m.path).map λ(f:Nat)=>{m with Ag:=s,field:=f}
def W5(a:List AO)(p:Ae):Option Ae:=
 (D6 p.CN (Ox a)).map λl=>{p with CN:=l}
def Us(s:Ai):Option Ai:=
 (Db (MM (s.Am.map A0.name)) [] s.Am).bind λe=>
 (D6 s.AE (Uc s.Aa (s.Am.map A0.name))).bind λd=>
 (D6 s.AT (G2 s.AE)).bind λc=>
 (D6 s.AM (Zo s.AE)).bind λa=>
 (D6 s.AK (W5 s.AE)).map λb=>{s with Am:=e,AE:=d,AT:=c,AM:=a,AK:=b}
def QQ(s:Ai):Bool:=
 !(decide s.Aa.Nodup&&decide (s.Am.map A0.name).Nodup&&decide (s.AE.map AO.name).Nodup&&decide (s.AK.map Ae.name).Nodup&&s.AE.all (λx=>decide (x.AL.map Aj.name).Nodup)&&s.AT.all (λr=>decide (r.Ah.map Av.name).Nodup))
def Ykk:Nat:=0x12354c71bc8090241da0230ce1955a274d1bc0300ba01e02f14c02e0b300c08705b02d1ce02e08520074d00c14f02c0ce02b7a60014ed0994ed02c506b7408524403602906402f05c028089ae10290c976b74d00a14f026206005b4400b02e0252cd42e0210c15cc0241c230874d14f6020231330251c6
def Ykl:Nat:=0x11656e97410b31da0079d9857c320df0ba50291a0b3337a874ca1280074a413700728501a07a0190c70110c12f40150b306503801901d01606b1fb0433ce01801d4840890130c776a0b7045a5ba340074a40080635b30100ce00f0b301e1bb04197d0f450600e2280853ce03600d06402d95708900606900d0c976b0073fc21e08400700a0416af7102c400913c25b0c1041a9c0081c26526e91ec0d61330091c6
def pw:Nat:=0x12380330ce03218d07004503308507d0a374d1bc2032354c71bc08e0210ba020179050021823241c3200609fc3200605804704106917904e0059c60600440480500ba059aa40048ca1ce0017e38250040374870011260991260370250f003301e02c03803614800202b05c1560463c00349530425e31340cf0ea065a3e18aaf104402f0ec825a6b09002a0fa0560bf08b02608802509902502b02502998902a03803602800202905c4cd2a20279705e30240cf0230656cd18a5040440220ec8250cf93d02005601f0c20190880180990187cf01c01901e7d103601b00202705c01a59a04e01a9705e3ab001401705601691208800f09900f01502501301001e2b603676802505c01132600228200b34907f6bf00e11c00d67704400900900911a02808c2700000322c26ea
def Zgo:S:=zS [(zS [] Ykl),(zS [] Ykk)] pw
def Zsi:Xp prog 28 1 Zgo [.t 2,.t 3]=true:=by kernel_rfl
def Ykx:Nat:=0x171f85a0106c0011a850346ef5d50758b190f0831bf14204d94d06c6960044ce0060cc00b25a74001869d00a112ba21d376c8b1793
def qH:Nat:=0x1a2a07585a09f07585a6e225a7de00653560f
def Zgz:S:=zS [(zS [] Ykx)] qH
def Zss:Xp prog 45 1 Zgz [.t 2]=true:=by kernel_rfl
def Yly:Nat:=0x1b690430866a63840430866652430b4a2710006c00f04723064c
def rJ:Nat:=0x16c9
def Zh9:S:=zS [(zS [] Yly)] rJ
def Ztx:Xp prog 93 2 Zh9 [.t 4,.t 5]=true:=by kernel_rfl
def n94:Nat:=0x10a005001e04227daa0
def Zia:S:=zS [] n94
def Zty:Xp prog 94 1 Zia [.t 2]=true:=by kernel_rfl
def Y3o:Nat:=0x1b6911277038411275e1834620b41222b69838818ec
def n95:Nat:=0x16c9
def Zib:S:=zS [(zS [] Y3o)] n95
def Ztz:Xp prog 95 2 Zib [.t 4,.t 5]=true:=by kernel_rfl
def n96:Nat:=0x17732b6169
def Zic:S:=zS [] n96
def Zt0:Xp prog 96 1 Zic [.t 2]=true:=by kernel_rfl
def Y3p:Nat:=0x1b691d97703841d9b29121aa57109831d91000a100f75c
def n97:Nat:=0x16c9
def Zid:S:=zS [(zS [] Y3p)] n97
def Zt1:Xp prog 97 2 Zid [.t 4,.t 5]=true:=by kernel_rfl
def Y3q:Nat:=0x1b95061ba906175e0634620b45bb26a66d061ac48ec
def n99:Nat:=0x16c9
def Zif:S:=zS [(zS [] Y3q)] n99
def Zt3:Xp prog 99 2 Zif [.t 4,.t 5]=true:=by kernel_rfl
def Yrj:Nat:=0x1b953d8ba93d8b29367aa534c983be48ec
def Zqy:Nat:=0x16c9
def Yw8:S:=zS [(zS [] Yrj)] Zqy
def Zbw:Xp prog 101 2 Yw8 [.t 4,.t 5]=true:=by kernel_rfl
def Yrk:Nat:=0x1b95093ba9093b293b5aa5b9826a66d0931000088ec
def Zqz:Nat:=0x16c9
def Yxa:S:=zS [(zS [] Yrk)] Zqz
def Zby:Xp prog 103 2 Yxa [.t 4,.t 5]=true:=by kernel_rfl
def Zku:Nat:=0x17732f3169
def Yxb:S:=zS [] Zku
def Zbz:Xp prog 104 1 Yxb [.t 2]=true:=by kernel_rfl
def vE:Nat:=0x1bc5
def oM:Nat:=0x10570e321f01500f02168a83726b2230b700d4f600e9bd05f254a410df25b09900700c0251e501e0090934d54c8101167754
def Yxc:S:=zS [(zS [] vE)] oM
def Zb0:Xp prog 105 2 Yxc [.t 4]=true:=by kernel_rfl
def u5:Nat:=0x1000bfd88b00e1da00d0ce00e03928a00c04f15e11021488200b3cd00a28019f33100629c00929800b2c371e06c06c4b500533104f00b0c52980060390f104f06c0554b5ade03d95203e06b0002c300a06900a4eb00a08b0c50391a005007803e0857df1c30b14611ec055010215a1a8827ad03c07a1fb679a9e03d12e09303906b03b06a08804802e03b45d7ad03c07a1fb679a9e03d12e09306503b07a08d03906b03b49f04e999a8803c12e08103606b03806a6ac08b18703908506100a14425b03608504300a6850b803410f03489400a2a400903314c02e0b303208906205b80902f13c06205b0300890627e704e13505b00808705b02d0ce02c14c0270b302b31502705bb7413c6b605b0293150277e719602729a04002705b0260ce025a240b36290220f40681b402310f1b41b01b40213151b400a16dbe914c9c913b01d13306837101c31537100a16dac13b914c0140b39380f40683f301710f0142650403f30153153f300a1963f38d427e01249901108900a0500120c902411fa1a88201020600526403d0ae02e00f2cdb560c11d300e1c200e89488200c13313300f1c6
def oS:Nat:=0x123cbfd09fbfd2d9a7c81f00b8230492a400377b0ce7450b313a05a8d0007a005b38d001d09556f10171a8d02e003ba500b313a05a8d0007a0008b0070ba0d300808580b04104d3c00852536850b80030ba04403805f14e00214c1560930411380dc3bf13b0000a80683bf12d04c3bf1b03bfa6f3bf14807b03341e3bf126000ad770004a0ea00110202c0040950fa0040bfa1078501011f05f05002b0b47aa0d17890a1bd10259fc0240dfbda0d16d20a102004302201f01e04302021d05002802008b0260207432b508b7b93aaa37b020de06115004901037c0b801d04c01d0a501c0657e601b17c22101a018078b3622101907b0175152217c105569283b0650103b517c177013011078b3617701207b0104f01777c1055b3a0bb00d1ea08a00b996ab7013397b0ba7e
def Yxo:S:=zS [(zS [] u5)] oS
def Zce:Xp prog 127 2 Yxo [.t 4]=true:=by kernel_rfl
def jQ:S2:=zL [] [] Ykk
def tL:=(by cbv:jQ=_)
def jR:S2:=zL [] [] Ykl
def tM:=(by cbv:jR=_)
def Zi4:S2:=zL [] [jR,jQ] pw
def Zm4:=(show Zi4=_ from (λ(a b:S2)=>(by cbv:zL [] [a,b] pw=_)) jR jQ)
def Zpd:Zgo.AZ []=some Zi4:=by kernel_rfl
def jf:S2:=zL [] [] Ykx
def tV:=(by cbv:jf=_)
def Zje:S2:=zL [] [jf] qH
def Zne:=(show Zje=_ from (λa=>(by cbv:zL [] [a] qH=_)) jf)
def Zpn:Zgz.AZ []=some Zje:=by kernel_rfl
def ju:S2:=zL [] [] Yly
def tI:=(by cbv:ju=_)
def Zkn:S2:=zL [] [ju] rJ
def Zof:=(show Zkn=_ from (λa=>(by cbv:zL [] [a] rJ=_)) ju)
def Zqr:Zh9.AZ []=some Zkn:=by kernel_rfl
def Zko:S2:=zL [] [] n94
def Zog:=(by cbv:Zko=_)
def Zqs:Zia.AZ []=some Zko:=by kernel_rfl
def Zkp:S2:=zL [] [] n96
def Zoh:=(by cbv:Zkp=_)
def Zqt:Zic.AZ []=some Zkp:=by kernel_rfl
def Y0s:S2:=zL [] [] Zku
def Y5b:=(by cbv:Y0s=_)
def Y8i:Yxb.AZ []=some Y0s:=by kernel_rfl
def eU:S2:=zL [] [] vE
def zE:=(by cbv:eU=_)
def Y0t:S2:=zL [] [eU] oM
def Y5c:=(show Y0t=_ from (λa=>(by cbv:zL [] [a] oM=_)) eU)
def Y8j:Yxc.AZ []=some Y0t:=by kernel_rfl
def ed:S2:=zL [] [] u5
def J9:=(by cbv:ed=_)
def Y05:S2:=zL [] [ed] oS
def Yu4:=(show Y05=_ from (λa=>(by cbv:zL [] [a] oS=_)) ed)
def Y8u:Yxo.AZ []=some Y05:=by kernel_rfl
def nZ(E z:Nat)(c:D):S2:=.seq (.rg [] [(1,(.a (.t 1))),(4,(.a (.t 4))),(5,(.a (.t 5))),(13,(.a (.t 13))),(14,(.a (.t 14))),(15,(.a (.t 15))),(16,(.b (.CR .lss (.t 0) (.t 1)) (.a (.t 15)) (.a (.t 14))))] [])
 (.seq (.cond (.t 16) (.skip) (.exit 0))
 (.seq (.block 1 (.seq (.rg [.Ak [] (.u (.ld z true (.t 0)) (.b (.Cs z (.t 0) (.t 1)) (.a (.t 13)) (.a (.t 15)))),.lt 19 [] (.u (.ld z true (.t 0)) (.b (.Cs z (.t 0) (.t 1)) (.a (.t 13)) (.a (.t 15)))),.op (some 7) (.alloc E c),.op none (.st z (.t 7) (.t 19))] [(1,(.a (.t 1))),(4,(.a (.t 4))),(5,(.a (.t 5))),(6,(.a (.t 15))),(7,(.a (.t 7))),(13,(.a (.t 13))),(14,(.a (.t 14))),(15,(.a (.t 15)))] [])
 (.seq (.seq (.rg [.Ak [] (.u (.ld z true (.t 0)) (.a (.t 7))),.lt 23 [] (.u (.ld z true (.t 0)) (.a (.t 7))),.lt 22 [] (.a (.t 1)),.op (some 24) (.Cp (.t 22) [(.t 23)]),.lt 21 [] (.a (.t 4)),.op (some 25) (.Kj (.AU []) (.int .i64 0) true (.t 21) (.t 24)),.Ak [] (.u (.ext (.t 0) 0) (.a (.t 25)))] [(1,(.a (.t 1))),(4,(.a (.t 4))),(5,(.a (.t 5))),(6,(.a (.t 6))),(7,(.a (.t 7))),(9,(.u (.ext (.t 0) 1) (.a (.t 25)))),(13,(.a (.t 13))),(14,(.a (.t 14))),(15,(.a (.t 15)))] [])
 (.seq (.rg [] [(1,(.a (.t 1))),(4,(.a (.t 4))),(5,(.a (.t 5))),(6,(.a (.t 6))),(7,(.a (.t 7))),(13,(.a (.t 13))),(14,(.a (.t 14))),(15,(.a (.t 15))),(28,(.a (.t 9)))] [])
 (.cond (.t 28) (.seq (.rg [] [(1,(.a (.t 1))),(4,(.a (.t 4))),(5,(.a (.bool true))),(13,(.a (.t 13))),(14,(.a (.t 14))),(15,(.a (.t 15)))] [])
 (.exit 1)) (.skip))))
 (.rg [.Ak [] (.u (.ld z true (.t 0)) (.a (.t 7))),.lt 31 [] (.u (.ld z true (.t 0)) (.a (.t 7))),.lt 30 [] (.a (.t 1)),.op (some 32) (.Cp (.t 30) [(.t 31)]),.lt 33 [] (.a (.t 6)),.lt 29 [] (.a (.t 4)),.op none (.C4 (.AU []) (.t 29) (.t 32) (.t 33))] [(1,(.a (.t 1))),(4,(.a (.t 4))),(5,(.a (.t 5))),(13,(.a (.t 13))),(14,(.a (.t 14))),(15,(.a (.t 15)))] []))))
 (.rg [] [(1,(.a (.t 1))),(4,(.a (.t 4))),(5,(.a (.t 5))),(13,(.a (.t 13))),(14,(.a (.t 14))),(15,(.b (.CR .add (.t 0) (.t 1)) (.a (.t 15)) (.a (.int .i64 1))))] [])))
def Ol(E z:Nat)(b:D):S2:=.seq (.rg [] [(0,(.a (.t 0))),(1,(.a (.t 1))),(5,(.a (.bool false)))] [])
 (.seq (.rg [.Ak [] (.u (.CK (.t 0)) (.a (.t 0))),.lt 11 [] (.u (.CK (.t 0)) (.a (.t 0))),.op (some 12) (.II (some (.t 11)))] [(0,(.a (.t 0))),(1,(.a (.t 1))),(4,(.a (.t 12))),(5,(.a (.t 5)))] [])
 (.seq (.seq (.rg [] [(1,(.a (.t 1))),(4,(.a (.t 4))),(5,(.a (.t 5))),(13,(.a (.t 0))),(14,(.u (.CK (.t 0)) (.a (.t 0)))),(15,(.a (.int .i64 0)))] [])
 (.block 0 (.loop [1,4,5,13,14,15] (nZ E z b))))
 (.seq (.rg [] [(4,(.a (.t 4))),(5,(.a (.t 5)))] [])
 (.ret))))
section
variable {P:BA} {p:Program} (hPp:P.p=p) (hm:p.follows .mixedOrders=true)
include hPp hm
theorem SA{f E z o:Nat}{y:D}{ir:S}(N:Xp p f 2 ir [.t 4,.t 5]=true)(L:ir.AZ []=some (Ol E z y))
 {w:Type} {l:List w} {c:w->D} {nm:w->B} (hl:l.length<=9223372036854775807) (J:Xd p o=true) (u:∀(x:w)(j:AF)(K:BN->AF->Prop),K (.ret (.d (.AU (nm x)))) j->AX P o [.d (c x)] j K)
 (Q:∀x,(c x).sz=z) (H:∀x,V.isAgg (.d (c x))=true) (O:∀x,(c x).shape=y.shape)
 {j:AF} {K:BN->AF->Prop} (h:K (.ret (.BT [.mp (AA j),.d (.bool (!decide (l.map nm).Nodup))])) ((AA j,.map (Zu (l.map nm) l.length))::j)):
 AX P f [.d (.AH z (l.map c)),.fn o [] []] j K:=by
 refine Xt hPp hm N L A4.nil λ_ n=>?_;have q:Xd P.p o=true:=by rw[hPp];exact J
 simp[Ol];refine EC l.length (λk=>[(1,.fn o [] []),(4,.mp (AA j)),(5,.d (.bool (!decide ((l.map nm).take k).Nodup))),(13,.d (.AH z (l.map c))),(14,.d (.int .i64 l.length)),(15,.d (.int .i64 k))])
  (λk=>(AA j,.map (Zu (l.map nm) k))::j) (λ_=>True) trivial (by simp) (by simp[Zu]) ?_ ?_
 ·intro k hk _ R rn re rr rp
  have wr:=w_s k (by omega);have hx:=Q l[k];have hs:=O l[k];have T:(c l[k]).shape.size=z:=by rw[Cb];exact hx
  have G:=H l[k];have s:k<(l.map nm).length:=by simpa using hk
  have X:=Ji (l.map nm) (nm l[k]) k (by simp;omega);have Y:=Jj (l.map nm) (nm l[k]) k;have U:y.shape.size=z:=by rw[<-hs];exact T
  have ts:(l.map nm).take (k+1)=(l.map nm).take k++[nm l[k]]:=by rw[D2 s];simp
  have W:Zu (l.map nm) (k+1)=if nm l[k]∈(l.map nm).take k then Zu (l.map nm) k else Zu (l.map nm) k++[(.AU (nm l[k]),.d (.int .i64 k))]:=by
   rw[Zu,DN s];simp
  simp[nZ,hk,hx,hs,T,U,q];refine⟨G,u _ _ _ ?_⟩;simp[X,Y];cases v:Cr ((l.map nm).take k) (nm l[k]) with
  |some i=>
   have g:nm l[k]∈(l.map nm).take k:=by
    rcases Classical.em (nm l[k]∈(l.map nm).take k) with h|h
    ·exact h
    ·rw[P7.2 h]at v;cases v
   have m:¬((l.map nm).take (k+1)).Nodup:=by
    rw[ts,FC];exact λr=>r.2.2 _ g _ (by simp) rfl
   simp;refine rn [] _ _ trivial (by simp[wr,m]) ?_ (by simp[AD]) ?_
   ·simp[W,g,AD]
   ·simp[AD,AI,Zh]
    exact BV n (by omega)
  |none=>
   have g:=P7.1 v;simp[T,G];refine⟨G,u _ _ _ ?_⟩;have F:Y4 (.AU (nm l[k])) (Zu (l.map nm) k)=none:=by rw[X,v];rfl
   have m:decide ((l.map nm).take (k+1)).Nodup=decide ((l.map nm).take k).Nodup:=by
    rw[ts,decide_eq_decide,FC];constructor
    ·exact λr=>r.1
    ·refine λr=>⟨r,by simp,λa h1 b Z=>?_⟩
     simp only[E3]at Z;subst Z;exact λe=>g (e▸h1)
   simp[Y,Ue _ _ _ F];refine rn [] _ _ trivial (by simp[wr,m]) ?_ (by simp[AD]) ?_
   ·simp[W,g,AD]
   ·simp[AD,AI,Zh]
    exact BV n (by omega)
 ·intro _ R re rr rp
  simp[nZ];refine re _ _ _ ?_;have ht:(l.map nm).take l.length=l.map nm:=M6 (by simp);simp[ht];refine⟨[AA j],by simp[AD],?_,?_⟩
  ·simp[AD,AI,Zh]
   exact BV n (by omega)
  ·simpa[AD]using h
end
def Ypu:Zib.AZ []=some (Ol 94 5 (.agg [.AU [],.AU [],.int .i64 0,.int .i64 0,.int .i64 0])):=by kernel_rfl
def Ypp:Xd prog 96=true:=by kernel_rfl
def X53:Zid.AZ []=some (Ol 72 6 (.agg [.AU [],.AU [],.int .i64 0,.int .i64 0,.Ad,.Ad])):=by kernel_rfl
def X5y:Xd prog 98=true:=by kernel_rfl
def X1j:Zif.AZ []=some (Ol 83 3 (.agg [.AU [],.Ad,.int .i64 0])):=by kernel_rfl
def X1g:Xd prog 100=true:=by kernel_rfl
def Yf3:Yw8.AZ []=some (Ol 158 11 (.agg [.AU [],.agg [.int .i64 0,.int .i64 0,.int .i64 0,.AU [],.int .i64 0,.Ad],.agg (List.replicate 4 (.int .i64 0))])):=by kernel_rfl
def Yfy:Xd prog 102=true:=by kernel_rfl
def Ypt:Yxa.AZ []=some (Ol 168 8 (.agg [.AU [],.AU [],.int .i64 0,.agg [.AU [],.AU [],.int .i64 0,.int .i64 0,.int .i64 0]])):=by kernel_rfl
def Ypo:Xd prog 104=true:=by kernel_rfl
include hP
theorem Ypx{x:A0}{a:AF}{K:BN->AF->Prop}(h:K (.ret (.d (.AU x.name))) a):AX P 96 [.d x.enc] a K:=by
 refine AW.CS (AJ hP AQ (ds:=[x.enc]) Zt0 Zqt A4.nil ?_);simp[Zoh,A0.enc];exact h
theorem X5a{l:List A0}(b:l.length<=9223372036854775807){a:AF}{K:BN->AF->Prop}(h:K (.ret (.BT [.mp (AA a),.d (.bool (!decide (l.map A0.name).Nodup))])) ((AA a,.map (Zu (l.map A0.name) l.length))::a)):
 AX P 95 [.d (.AH 5 (l.map A0.enc)),.fn 96 [] []] a K:=
 SA hP AQ (nm:=A0.name) Ztz Ypu b Ypp (λx a K h=>Ypx hP h) (λ_=>rfl) (λ_=>rfl) (λ_=>rfl) h
theorem Xre{l:List AO}(b:l.length<=9223372036854775807){a:AF}{K:BN->AF->Prop}(h:K (.ret (.BT [.mp (AA a),.d (.bool (!decide (l.map AO.name).Nodup))])) ((AA a,.map (Zu (l.map AO.name) l.length))::a)):
 AX P 97 [.d (.AH 6 (l.map AO.enc)),.fn 98 [] []] a K:=
 SA hP AQ (nm:=AO.name) Zt1 X53 b X5y (λx a K h=>Y68 hP h) (λ_=>rfl) (λ_=>rfl) (λ_=>rfl) h
theorem Xn3{l:List Ae}(b:l.length<=9223372036854775807){a:AF}{K:BN->AF->Prop}(h:K (.ret (.BT [.mp (AA a),.d (.bool (!decide (l.map Ae.name).Nodup))])) ((AA a,.map (Zu (l.map Ae.name) l.length))::a)):
 AX P 99 [.d (.AH 3 (l.map Ae.enc)),.fn 100 [] []] a K:=
 SA hP AQ (nm:=Ae.name) Zt3 X1j b X1g (λx a K h=>Zoj hP h) (λ_=>rfl) (λ_=>rfl) (λ_=>rfl) h
theorem X0z{l:List Aj}(b:l.length<=9223372036854775807){a:AF}{K:BN->AF->Prop}(h:K (.ret (.BT [.mp (AA a),.d (.bool (!decide (l.map Aj.name).Nodup))])) ((AA a,.map (Zu (l.map Aj.name) l.length))::a)):
 AX P 101 [.d (.AH 11 (l.map Aj.enc)),.fn 102 [] []] a K:=
 SA hP AQ (nm:=Aj.name) Zbw Yf3 b Yfy (λx a K h=>Y67 hP h) (λ_=>rfl) (λ_=>rfl) (λ_=>rfl) h
theorem Ypw{x:Av}{a:AF}{K:BN->AF->Prop}(h:K (.ret (.d (.AU x.name))) a):AX P 104 [.d x.enc] a K:=by
 refine AW.CS (AJ hP AQ (ds:=[x.enc]) Zbz Y8i A4.nil ?_);simp[Y5b,Av.enc,BE.enc];exact h
theorem X49{l:List Av}(b:l.length<=9223372036854775807){a:AF}{K:BN->AF->Prop}(h:K (.ret (.BT [.mp (AA a),.d (.bool (!decide (l.map Av.name).Nodup))])) ((AA a,.map (Zu (l.map Av.name) l.length))::a)):
 AX P 103 [.d (.AH 8 (l.map Av.enc)),.fn 104 [] []] a K:=
 SA hP AQ (nm:=Av.name) Zby Ypt b Ypo (λx a K h=>Ypw hP h) (λ_=>rfl) (λ_=>rfl) (λ_=>rfl) h
omit hP
abbrev Zw:D:=.iface 89 (.agg [])
def Yv5:Xd prog 94=true:=by kernel_rfl
include hP
theorem Yi7{x:B}{a:AF}{K:BN->AF->Prop}(h:K (.ret (.d (.AU x))) a):AX P 94 [.d (.AU x)] a K:=by
 refine AW.CS (AJ hP AQ (ds:=[.AU x]) Zty Zqs A4.nil ?_);simp[Zog];exact h
theorem Yfb{l:List B}(N:l.length<=9223372036854775807){g:AF}{K:BN->AF->Prop}(h:K (.ret (.BT [.mp (AA g),.d (.bool (!decide l.Nodup))])) ((AA g,.map (Zu l l.length))::g)):
 AX P 93 [.d (Xg l),.fn 94 [] []] g K:=by
 have f:Xd P.p 94=true:=by rw[hP];exact Yv5
 refine Xt hP AQ Ztx Zqr A4.nil λ_ m=>?_;simp only[Xg];simp[Zof];refine EC l.length (λk=>[(1,.fn 94 [] []),(4,.mp (AA g)),(5,.d (.bool (!decide (l.take k).Nodup))),(13,.d (.AH 1 (l.map .AU))),(14,.d (.int .i64 l.length)),(15,.d (.int .i64 k))])
  (λk=>(AA g,.map (Zu l k))::g) (λ_=>True) trivial (by simp) (by simp[Zu]) ?_ ?_
 ·intro k w _ R y x L J;have F:=w_s k (by omega);have o:=w;have t:=Ji l l[k] k (by omega);have u:=Jj l l[k] k;have z:l.take (k+1)=l.take k++[l[k]]:=by rw[D2 o]
  have s:Zu l (k+1)=if l[k]∈l.take k then Zu l k else Zu l k++[(.AU l[k],.d (.int .i64 k))]:=by
   rw[Zu,DN o]
  simp[tI,w,f];refine Yi7 hP ?_;simp[t,u];cases q:Cr (l.take k) (l[k]) with
  |some i=>
   have c:l[k]∈l.take k:=by
    rcases Classical.em (l[k]∈l.take k) with h|h
    ·exact h
    ·rw[P7.2 h]at q;cases q
   have j:¬(l.take (k+1)).Nodup:=by
    rw[z,FC];exact λn=>n.2.2 _ c _ (by simp) rfl
   simp;refine y [] _ _ trivial (by simp[F,j]) ?_ (by simp[AD]) ?_
   ·simp[s,c,AD]
   ·simp[AD,AI,Zh];exact BV m (by omega)
  |none=>
   have c:=P7.1 q;simp[f];refine Yi7 hP ?_;have r:Y4 (.AU l[k]) (Zu l k)=none:=by rw[t,q];rfl
   have j:decide (l.take (k+1)).Nodup=decide (l.take k).Nodup:=by
    rw[z,decide_eq_decide,FC];constructor
    ·exact λn=>n.1
    ·refine λn=>⟨n,by simp,λa G b v=>?_⟩;simp only[E3]at v;subst v;exact λe=>c (e▸G)
   simp[u,Ue _ _ _ r];refine y [] _ _ trivial (by simp[F,j]) ?_ (by simp[AD]) ?_
   ·simp[s,c,AD]
   ·simp[AD,AI,Zh];exact BV m (by omega)
 ·intro _ R x L J;simp[tI];refine x _ _ _ ?_;have H:l.take l.length=l:=M6 (by simp);simp[H];refine⟨[AA g],by simp[AD],?_,?_⟩
  ·simp[AD,AI,Zh];exact BV m (by omega)
  ·simpa[AD]using h
theorem Zj{m:Nat}{l:List B}{n:B}{b:AF}(j:AB b m=some (.map (Zu l l.length))){K:BN->AF->Prop}(h:∀i,Cr l n=some i->K (.ret (.d (.int .i64 i))) b)(g:Cr l n=none->K (.panic (.d Zw)) b):
 AX P 105 [.mp m,.d (.AU n)] b K:=by
 refine AY hP AQ Zb0 Y8j A4.nil λ_ k=>?_;have a:=k [];have c:=Ji l n l.length (Bg _);have f:=Jj l n l.length;rw[FV]at c;simp[Y5c,j,c,f];cases e:Cr l n with
 |none=>
  simp[zE];exact⟨[],by simp,by simpa[AD]using a,by simpa[AD]using g e⟩
 |some i=>
  simp[zE];exact⟨[],by simp,by simpa[AD]using a,by simpa[AD]using h i e⟩
omit hP
section
variable (ob:AF) (z n i f j k:Nat) (kd:IntKind) (m:Int) (p:List Nat) (b:Bool) (v:V) (E:Nat) (xs:List D) (vs:List V)
@[simp]def idxAV_sl:LA z (.sl j n) (.d (.int kd m))=.ep j n z m.toNat 0 []:=by simp only[LA]
@[simp]def idxAS_sl:K9 ob z (.sl j n) (.d (.int kd m))=((0<=m/\m<n)/\OW z (Uw n m.toNat (AB ob j))):=by simp[K9,HQ]
@[simp]def elemO_arr:Uw n i (some (.BG E z xs))=if n=xs.length then (xs.map V.d)[i]? else none:=by simp only[Uw]
@[simp]def elemO_vec:Uw n i (some (.Ay E z vs))=if n=vs.length then vs[i]? else none:=by simp only[Uw]
@[simp]def idxEK_s:OW z (some v)=(v.size=z):=by simp only[OW]
@[simp]def ldV_ep:Gp ob (.ep j n z i f p)=Ng (F6 ob j n z i f p):=by simp only[Gp]
@[simp]def ldS_ep:IG ob k b (.ep j n z i f p)=RS k b (F6 ob j n z i f p):=by
 simp only[IG,En,Gp];cases F6 ob j n z i f p<;>simp[GU,RS,Ng]
@[simp]def atE_eq:F6 ob j n z i f p=Gh z f p (Uw n i (AB ob j)):=rfl
@[simp]def atEv_s:Gh z f p (some v)=if z=v.size/\f=v.shape.off p then v.at p else none:=by simp only[Gh]
@[simp]def fldAV_ep(a:Nat):Vt k f (.ep j n z i a p)=.ep j n z i (a+f) (p++[k]):=by simp only[Vt]
@[simp]def fldAS_ep(a:Nat):Ie ob k f (.ep j n z i a p)=True:=by simp[Ie,Ux,Vt]
@[simp]def Sh.Mo(s:Sh):s.off []=0:=by cases s<;>simp[Sh.off]
@[simp]def Rc3(l:List Sh)(i:Nat)(p:List Nat):(Sh.node l).off (i::p)=Sh.BX (l.take i)+(l.getD i .AR).off p:=by simp only[Sh.off]
end
section
variable {P:BA} {sl:Xe} {ob:AF} {KO Pn:V->AF->Prop} {x y:A} {K:V->Prop}
@[simp]def iwp_mks(E a B:Nat)(z:D):I.wp P sl ob KO Pn (.Li E a B z x)=Ou E a B z ob KO (x.ev sl):=by simp only[I.wp]
@[simp]def mksK_i(E a B:Nat)(z:D)(n:Int):Ou E a B z ob KO (.d (.int .i64 n))=(0<=n/\n*B<=281474976710656/\KO (.sl (AA ob) n.toNat) ((AA ob,.BG E a (List.replicate n.toNat z))::ob)):=by simp only[Ou]
@[simp]def idxAK_sl(j n z:Nat)(a:IntKind)(m:Int):HQ ob z K (.sl j n) (.d (.int a m))=((0<=m/\m<n)/\OW z (Uw n m.toNat (AB ob j))/\K (.ep j n z m.toNat 0 [])):=by simp only[HQ]
@[simp]def stK_ep(n:Nat)(v:V)(j m z i f:Nat)(p:List Nat):Hk ob n v KO (.ep j m z i f p)=Oy ob j m z i f p n v KO (AB ob j):=by simp only[Hk]
@[simp]def stEo_s(n:Nat)(v:V)(j m z i f:Nat)(p:List Nat)(o:Ob):Oy ob j m z i f p n v KO (some o)=RY ob j i n o v z f p KO (Uw m i (some o)):=by simp only[Oy]
@[simp]def stEv_s(n:Nat)(v:V)(j i z f:Nat)(p:List Nat)(o:Ob)(a:V):RY ob j i n o v z f p KO (some a)=((z=a.size/\f=a.shape.off p)/\Oz ob j i n o v a p KO (a.at p)):=by simp only[RY]
@[simp]def stEt_s(n:Nat)(v:V)(j i:Nat)(p:List Nat)(o:Ob)(c a:V):Oz ob j i n o v c p KO (some a)=(v.shape=a.shape/\a.size=n/\v.Gs=true/\∃b,c.set p v=some b/\KO .undef (AG ob j (KM o i b))):=by simp only[Oz]
@[simp]def setEl_vec(E z i:Nat)(a:List V)(t:V):KM (.Ay E z a) i t=.Ay E z (a.set i t):=by simp only[KM]
@[simp]def setEl_arr(E z i:Nat)(a:List D)(t:D):KM (.BG E z a) i (.d t)=.BG E z (a.set i t):=by simp only[KM]
@[simp]def fldAK_ep(k f:Nat)(j n z i a:Nat)(p:List Nat):Ux ob k f K (.ep j n z i a p)=K (.ep j n z i (a+f) (p++[k])):=by simp only[Ux]
@[simp]def ldK_ep(n:Nat)(a:Bool)(j m z i f:Nat)(p:List Nat):En ob n a K (.ep j m z i f p)=GU n a K (F6 ob j m z i f p):=by simp only[En]
@[simp]def nilcK_ep(j m z i f:Nat)(p:List Nat):H5 K (.ep j m z i f p)=K (.ep j m z i f p):=by simp only[H5]
@[simp]def nilcS_ep(j m z i f:Nat)(p:List Nat):MF (.ep j m z i f p)=True:=by simp[MF]
end
def PV{n a:AF}{id i E z k:Nat}{c:List V}{v:V}{d:D}(hl:AB n id=some (.Ay E z c))(q:c[i]? = some v)(Y:DC k n v=some (d,a))(g:AB a id=some (.Ay E z c))(hs:d.shape=v.shape):
 Wk n (AG a id (.Ay E z (c.set i (.d d)))):=λw ρ u=>by
 have p:i<c.length:=(Ek.1 q).1;rcases u.BW id _ hl with⟨_,rfl⟩|⟨b,f,J,sp,T,U,W,t,X⟩
 ·simp at p
 obtain⟨c1,G,H,L,e2,O,P,Q⟩:=N8 W q;obtain⟨⟨l,o,y,h,ab⟩,hk⟩:=dG k v n ρ G d a u P Y;refine⟨l,o,y.swap g ?_⟩;have j:l.m id=some (.BG b c.length f):=by
  obtain⟨o',F,p2⟩:=o.same id _ T;rcases y.BW id _ g with⟨_,rfl⟩|⟨b',s,K,ac,r,_⟩
  ·simp at p
  ·rw[F]at r;cases p2 with
   |refl=>exact F
   |An=>cases r
   |grow aa Z=>
    simp only[CJ,RO.BG.injEq]at r;rcases Z with⟨e,_⟩|⟨_,_,e⟩
    ·cases e
    ·simp only[RO.BG.injEq]at e;omega
 refine .inr ⟨b,f,J,sp,by simpa using j,U,?_,λx h=>?_,X⟩
 ·have N:c.set i (.d d)=c.take i++(.d d::c.drop (i+1)):=UC.trans (by simp[p]);rw[N,L];refine PN (HJ o _ _ O) ?_;simp only[Bz];exact⟨_,H,rfl,by simpa only[V.Al]using h,HJ o _ _ Q⟩
 ·rcases R3 h with h|rfl
  ·exact t x h
  ·have:=t v (List.mem_of_getElem? q);unfold V.size at this⊢;simpa[V.shape,hs]using this
def X7u{a b:AF}(h:a.Perm b):E4 a->E4 b/\∀j,AB b j=AB a j:=by
 induction h with
 |nil=>exact λ_=>⟨trivial,λ_=>rfl⟩
 |cons x _ t=>
  obtain⟨i,o⟩:=x;rintro⟨c,n⟩;obtain⟨m,d⟩:=t n;refine⟨⟨by rw[d];exact c,m⟩,λj=>?_⟩;simp only[AB,d]
 |swap x y l=>
  obtain⟨i,o⟩:=x;obtain⟨k,p⟩:=y;rintro⟨c,n,s⟩;simp only[AB]at c;split at c
  ·cases c
  ·rename_i e;refine⟨⟨?_,c,s⟩,λj=>?_⟩
   ·simp only[AB];rw[Aq (λf=>e f.symm)];exact n
   ·simp only[AB];by_cases g:i=j
    ·subst g;rw[BS rfl,Aq (λf=>e f.symm),BS rfl]
    ·rw[Aq g,Aq g]
 |trans _ _ q r=>
  intro h;obtain⟨m,d⟩:=q h;obtain⟨u,v⟩:=r m;exact⟨u,λj=>(v j).trans (d j)⟩
def YV{a b:AF}(h:a.Perm b):Wk a b:=λw e c=>by
 obtain⟨f,d⟩:=X7u h c.Cn;exact⟨e,Tr.refl w e,λj x i=>c.BW j x (by rw[<-d];exact i),λj o g=>by rw[d];exact c.EY j o g,c.inj,c.E9,c.EF,c.Dm,f⟩
def Vz.tr{w b:World}{ρ a:A9}(t:Tr w ρ b a){e:Ending}{o:BN}(h:Vz w ρ e o):Vz b a e o:=by
 cases e<;>cases o<;>first|exact(h:False).elim|skip
 ·exact Gw t h
 ·obtain⟨u,e,h⟩:=h;exact⟨u,e,Gw t h⟩
def AX.wk{P:BA}{f:Nat}{m:List V}{j:AF}{K:BN->AF->Prop}(h:AX P f m j λo b=>∃c,Wk b c/\K o c):AX P f m j K:=
 ⟨λw x a q p r=>(h.run w x a q p r).mono λe v ⟨o,b,g,⟨c,s,k⟩,d,n,t⟩=>by
  obtain⟨i,l,u⟩:=s v g n;refine⟨o,c,i,k,?_,u,t.trans l⟩;exact Vz.tr l d⟩
def BN.BQ(p:Nat->Bool):BN->Bool
|.ret v=>V.BQ p v
|.panic v=>V.BQ p v
def Vz.CY{w:World}{b:A9}{p:Nat->Bool}{e:Ending}{o:BN}(a:BN.BQ p o=false)(h:Vz w b e o):Vz w (b.CY p) e o:=by
 cases e<;>cases o<;>first|exact(h:False).elim|skip
 ·exact M1 a h
 ·obtain⟨u,e,h⟩:=h;exact⟨u,e,M1 a h⟩
def AX.Gq{P:BA}{f:Nat}{v:List V}{c:AF}{K:BN->AF->Prop}
 (h:AX P f v c λo b=>∃i d,Wk b i/\BN.BQ (AD (AA c) d) o=false/\AI (AD (AA c) d) (Xk (AD (AA c) d) i)=true/\K o (Xk (AD (AA c) d) i)):AX P f v c K:=
 ⟨λw W g r G H=>(h.run w W g r G H).mono λe U ⟨o,b,p,⟨i,d,J,L,N,O⟩,m,F,t⟩=>by
  obtain⟨q,u,T⟩:=J U p F;have a:=t.trans u;refine⟨o,_,q.CY (AD (AA c) d),O,Vz.CY L (Vz.tr u m),T.CY N,?_⟩;refine⟨a.size,a.keep,λb j=>a.DF b (W2 j),a.xo,a.gl,λid o j=>?_,a.tape,a.os,a.Ck,a.drawn⟩;obtain⟨Q,y,z⟩:=a.same id o j;have n:AD (AA c) d id=false:=by
   obtain⟨x,s⟩:=r.EY id o j;have l:¬AA c<=id:=λk=>by rw[X9 _ _ k]at s;cases s
   simp[AD,l]
  exact⟨Q,by simp only[A9.CY,n];exact y,z⟩⟩
def AX.pre{P:BA}{f:Nat}{m:List V}{l c:AF}{K:BN->AF->Prop}(s:Wk l c)(h:AX P f m c K):AX P f m l K:=
 ⟨λw v a q p r=>by
  obtain⟨j,g,u⟩:=s w v q;exact(h.run w j a u (g.gl.trans p) (Lq g _ _ r)).mono λe x ⟨o,b,i,k,d,n,t⟩=>⟨o,b,i,k,d,n,g.trans t⟩⟩
def uh{b:Type}{k:Nat}(f:b->D)(a:AF):∀l:List b,E8 (DC (k+1)) a (l.map λx=>V.d (f x))=some (l.map f,a)
|[]=>rfl
|x::r=>by
 have e:DC (k+1) a (.d (f x))=some (f x,a):=rfl;simp only[Cw,E8,e,uh f a r,Qg]
def Ig{b:Type}{k id E z n:Nat}(f:b->D){l:List b}{a:AF}(h:AB a id=some (.Ay E z (l.map λx=>V.d (f x))))(g:z≠0)(c:n=l.length):DC (k+2) a (.sl id n)=some (.AH z (l.map f),AG a id .An):=by
 have e:DC (k+2) a (.sl id n)=RN (DC (k+1)) a id n (AB a id):=rfl;rw[e,h];simp only[RN,uh,List.length_map];rw[BS ⟨g,c⟩];simp only[YF,h,pR]
def Yje{k id E z n:Nat}{b:List D}{a:AF}(h:AB a id=some (.BG E z b))(d:z≠0)(c:n=b.length):DC (k+1) a (.sl id n)=some (.AH z b,AG a id .An):=by
 have e:DC (k+1) a (.sl id n)=RN (DC k) a id n (AB a id):=rfl;rw[e,h];simp only[RN];rw[BS ⟨d,c⟩]
def Uh(k:Nat):Nat:=if k=0 then 10 else 12+2*k
def H3(k:Nat):List V:=(List.range k).map λj=>.mp (Uh j)
def EO(a:List AO)(k:Nat):List B:=match a[k]? with
|some s=>s.AL.map Aj.name
|none=>[]
def Qd(l:List B):Ob:=.map (Zu l l.length)
def U2(a:List AO):Nat->AF
|0=>[]
|k+1=>(Uh k,Qd (EO a k))::U2 a k
def FF(k:Nat):AF:=if k=0 then[] else[(12,.Ay 102 1 (H3 k))]
def Hf(k:Nat):V:=if k=0 then .d .Ad else .sl 12 k
abbrev Tt(k:Nat):Ob:=.box 105 (.agg [.mp 5,.mp 6,.mp 7,Hf k])
def Vd(y:Ai)(k:Nat)(c b a:Ob):AF:=[(8,Qd (y.AK.map Ae.name)),(7,Qd (y.AE.map AO.name)),(6,Qd (y.Am.map A0.name)),(5,Qd y.Aa),(4,Tt k),(3,.box 30 (.d y.enc)),(2,c),(1,b),(0,a)]
def Zy(y:Ai)(k:Nat)(c b a:Ob):AF:=FF k++(Vd y k c b a++U2 y.AE k)
def Yre(k:Nat):10<=Uh k/\Uh k≠12/\Uh k≠11:=by unfold Uh;split<;>omega
def yn{a:List AO}{i:Nat}:∀k,i<k->AB (U2 a k) (Uh i)=some (Qd (EO a i))
|0,h=>absurd h (by omega)
|k+1,h=>by
 rw[U2,AB];by_cases e:i=k
 ·subst e;rw[BS rfl]
 ·rw[Aq (by unfold Uh;split<;>split<;>omega)];exact yn k (by omega)
def xG{ss:List AO}:∀k,AA (U2 ss k)=if k=0 then 0 else Uh (k-1)+1
|0=>rfl
|k+1=>by
 have c:=xG (ss:=ss) k;have a:AA (U2 ss k)<=Uh k:=by
  rw[c];unfold Uh;split
  ·omega
  ·rename_i d;by_cases b:k-1=0
   ·rw[BS b];omega
   ·rw[Aq b];omega
 rw[U2,AA,BS a];simp
def xT(k:Nat):H3 (k+1)=H3 k++[.mp (Uh k)]:=by simp[H3,List.range_succ]
def Vc(k:Nat):(H3 k).length=k:=by simp[H3]
section
variable {y:Ai} {k:Nat} {o2 o1 o0:Ob}
def W9(p:Nat->Bool):∀(a b:AF),Xk p (a++b)=Xk p a++Xk p b
|[],b=>rfl
|(j,o)::r,b=>by
 simp only[List.cons_append,Xk,W9 p r b];split<;>simp
def nj:AB (Zy y k o2 o1 o0) 4=some (Tt k):=by
 unfold Zy Vd FF;split<;>simp[AB]
def ZM(h:k≠0):AB (Zy y k o2 o1 o0) 12=some (.Ay 102 1 (H3 k)):=by
 unfold Zy Vd FF;rw[Aq h];simp[AB]
def US:AA (Zy y k o2 o1 o0)=if k=0 then 9 else 11+2*k:=by
 have b:=xG (ss:=y.AE) k;unfold Zy Vd FF;by_cases h:k=0
 ·subst h;simp[U2]
 ·rw[Aq h,Aq h];rw[Aq h]at b;by_cases c:k-1=0
  ·obtain rfl:k=1:=by omega
   simp[U2,Uh]
  ·have a:AA (U2 y.AE k)=11+2*k:=by rw[b];unfold Uh;rw[Aq c];omega
   have e:∀{j:Nat}{o:Ob}{r:AF},AA r=11+2*k->j<13->AA ((j,o)::r)=11+2*k:=λd f=>by
    rw[Ys,d,Aq (by omega)]
   simp only[List.cons_append,List.nil_append]
   repeat' refine e ?_ (by omega)
   exact a
def Wz(p:Nat->Bool):∀(a b:AF),AI p (a++b)=(AI p a&&AI p b)
|[],b=>by simp[AI]
|(j,o)::r,b=>by
 have c:=Wz p r b;cases o<;>simp only[List.cons_append,AI,c,Bool.and_assoc]
def xH(p:Nat->Bool)(a:List AO):∀k,AI p (U2 a k)=true
|0=>rfl
|k+1=>by simp[U2,AI,Qd,Zh,xH p a k]
def ya{p:Nat->Bool}:∀{k:Nat},(∀i,i<k->p (Uh i)=false)->BY p (H3 k)=false
|0,_=>rfl
|k+1,h=>by
 have c:∀(a b:List V),BY p (a++b)=(BY p a||BY p b):=λa b=>by
  induction a with
  |nil=>simp[BY]
  |cons x r d=>simp[BY,d,Bool.or_assoc]
 rw[xT,c,ya λi e=>h i (by omega)];simp[BY,V.BQ,h k (by omega)]
def Jq{p:Nat->Bool}(c:AI p [(2,o2),(1,o1),(0,o0)]=true)(d:p 5=false)(e:p 6=false)(f:p 7=false)(a:k≠0->p 12=false)(g:∀i,i<k->p (Uh i)=false):AI p (Zy y k o2 o1 o0)=true:=by
 unfold Zy Vd FF;rw[Wz,Wz,xH];by_cases b:k=0
 ·simpa[b,AI,Qd,Zh,V.BQ,BY,Hf,d,e,f]using c
 ·simpa[b,AI,Qd,Zh,V.BQ,BY,Hf,d,e,f,a b,ya g]using c
def Y7p:AB (Zy y k o2 o1 o0) 3=some (.box 30 (.d y.enc)):=by
 unfold Zy Vd FF;split<;>simp[AB]
def Yqh(a:k≠0):AG (AG (Zy y k o2 o1 o0) 12 (.Ay 102 1 (H3 k++[.mp (Uh k)]))) 4 (.box 105 (.agg [.mp 5,.mp 6,.mp 7,.sl 12 (k+1)]))=FF (k+1)++(Vd y (k+1) o2 o1 o0++U2 y.AE k):=by
 unfold Zy Vd FF;simp[a,AG,xT,Hf]
def Ygz{n:Nat}{l:List Nat}(p:13<=n)(d:k≠0)(e:∀i,i<k->n<=Uh i->Uh i∈l):Xk (AD n l) (Zy y k o2 o1 o0)=Zy y k o2 o1 o0:=by
 have j:∀m,(∀i,i<m->n<=Uh i->Uh i∈l)->Xk (AD n l) (U2 y.AE m)=U2 y.AE m:=λm=>by
  induction m with
  |zero=>intro _;rfl
  |succ m g=>
   intro h;have b:AD n l (Uh m)=false:=by
    simp only[AD,ZC,M7,Bool.not_eq_eq_eq_not,Bool.not_false,List.contains_eq_mem,DK];rcases Fo (Uh m) n with a|a
    ·exact .inl (by omega)
    ·exact .inr (h m (by omega) a)
   rw[U2,Xk,b,g λi o=>h i (by omega)];simp
 unfold Zy;rw[W9,W9,j k e];have c:Xk (AD n l) (Vd y k o2 o1 o0)=Vd y k o2 o1 o0:=Xh (by simp[Vd];omega);have f:Xk (AD n l) (FF k)=FF k:=Xh (by simp[FF,d];omega);rw[c,f]
def Ywv:AB (Zy y k o2 o1 o0) 5=some (Qd y.Aa):=by
 unfold Zy Vd FF;split<;>simp[AB]
def Yww:AB (Zy y k o2 o1 o0) 6=some (Qd (y.Am.map A0.name)):=by
 unfold Zy Vd FF;split<;>simp[AB]
def Ywx:AB (Zy y k o2 o1 o0) 7=some (Qd (y.AE.map AO.name)):=by
 unfold Zy Vd FF;split<;>simp[AB]
def uG{i:Nat}(a:i<k):AB (Zy y k o2 o1 o0) (Uh i)=some (Qd (EO y.AE i)):=by
 have b:=Yre i;have e:∀(j:Nat)(o:Ob)(r:AF),j≠Uh i->AB ((j,o)::r) (Uh i)=AB r (Uh i):=λj o r h=>by simp[AB,h]
 unfold Zy Vd FF;rw[Aq (by omega)];simp only[List.cons_append,List.nil_append]
 repeat rw[e _ _ _ (by omega)]
 exact yn k a
def X64(c:∀d,AI (AD 3 d) [(2,o2),(1,o1),(0,o0)]=true){n:Nat}{l:List Nat}(a:AA (Zy y k o2 o1 o0)<=n):AI (AD n l) (Zy y k o2 o1 o0)=true:=by
 have b:=US (y:=y) (k:=k) (o2:=o2) (o1:=o1) (o0:=o0);have e:9<=n:=by
  rw[b]at a;split at a<;>omega
 refine Jq (BV (ob:=[(2,o2),(1,o1),(0,o0)]) (by simpa using c) (by simp;omega)) (by simp[AD];omega) (by simp[AD];omega) (by simp[AD];omega) (λh=>?_) (λi f=>?_)
 ·rw[b,Aq h]at a;simp[AD];omega
 ·rw[b,Aq (by omega)]at a;have:Uh i<11+2*k:=by unfold Uh;split<;>omega
  simp[AD];omega
def Vu(a:AF):List Nat:=a.map (·.1)
def Z5{a:AF}{j:Nat}{o:Ob}(h:AB a j=some o):j∈Vu a:=by
 induction a with
 |nil=>cases h
 |cons e r b=>
  obtain⟨i,x⟩:=e;simp only[AB]at h;split at h
  next e=>subst e;simp[Vu]
  ·exact Pc _ (b h)
def Y1{n:Nat}{l:List Nat}:∀{a:AF},(∀j∈Vu a,j∈l)->Xk (AD n l) a=a
|[],_=>rfl
|(i,x)::r,h=>by
 have c:AD n l i=false:=by simp[AD,h i (by simp[Vu])]
 rw[Xk,c,Y1 λj b=>h j (by simp only[Vu]at b⊢;exact Pc _ b)];simp
end
include hP
theorem Yfc{y:Ai}(t:y.BF)(hn:y.AE.length<=1000000){o2 o1 o0:Ob}{K:BN->AF->Prop}(h:K (.ret (.BT [.ptr 4 [],.d (.bool (QQ y))])) (Zy y y.AE.length o2 o1 o0)):
 AX P 28 [.d y.enc] [(2,o2),(1,o1),(0,o0)] K:=by
 refine Xt hP AQ Zsi Zpd A4.nil λ_ q=>?_;have F:(V.d y.enc).Bc=some [.d (Xg y.Aa),.d (.AH 5 (y.Am.map A0.enc)),.d (.AH 6 (y.AE.map AO.enc)),.d (.AH 5 (y.AT.map Ao.enc)),.d (.AH 5 (y.AM.map Ar.enc)),.d (.AH 3 (y.AK.map Ae.enc))]:=rfl;simp[Zm4,F];have Y:(Xg y.Aa).shape.size=1:=rfl;refine⟨⟨rfl,rfl⟩,Yfb hP t.Aa ?_⟩;simp[F,Y,Dn,CA,Z7];refine X5a hP t.Am ?_;simp[F,Y,Dn,CA,Z7];refine Xre hP t.AE ?_;simp[F,Y,Dn,CA,Z7];refine Xn3 hP t.AK ?_;simp[F,Y,Dn,CA,Z7];have aa:∀k,k<y.AE.length->(EO y.AE k)=(y.AE.map λs=>s.AL.map Aj.name)[k]!:=λk g=>by simp[EO,g]
 let tw:=λk=>(!decide y.Aa.Nodup||!decide (y.Am.map A0.name).Nodup||!decide (y.AE.map AO.name).Nodup||!decide (y.AK.map Ae.name).Nodup)||(y.AE.take k).any λx=>!decide (x.AL.map Aj.name).Nodup
 refine r7 (ι:=Nat) (λk=>[(1,.ptr 3 []),(2,.ptr 4 []),(3,.d (.bool (tw k))),(61,.d (.AH 6 (y.AE.map AO.enc))),(62,.d (.int .i64 y.AE.length)),(63,.d (.int .i64 k))])
  (λk=>Zy y k o2 o1 o0) (λk=>k<=y.AE.length) (λk=>y.AE.length-k) 0 (E2 _) (by simp[tw]) (by simp[Zy,Vd,FF,U2,Hf,Qd]) ?_
 intro k g R X W rr rp;by_cases e:k<y.AE.length
 ·have wr:=w_s k (by omega);have hx:=t.Ag _ (Ci e);have xk:(V.d y.AE[k].enc).Bc=some [.d (.AU y.AE[k].name),.d (.AU y.AE[k].Eg),.d (iD y.AE[k].CF),.d (iD y.AE[k].BU),.d (.AH 11 (y.AE[k].AL.map Aj.enc)),.d (.AH 4 (y.AE[k].Ac.map A2.enc))]:=rfl;have xz:∀x:AO,x.enc.sz=6:=λ_=>rfl;have xs:∀x:AO,x.enc.shape.size=6:=λx=>by rw[Cb];rfl
  have xh:∀x:AO,x.enc.shape=.node [.AR,.AR,.AR,.AR,.AR,.AR]:=λ_=>rfl;have Q:=nj (y:=y) (k:=k) (o2:=o2) (o1:=o1) (o0:=o0);have f:=US (y:=y) (k:=k) (o2:=o2) (o1:=o1) (o0:=o0);have fr:AA ((AA (Zy y k o2 o1 o0),Ob.box 72 (.d y.AE[k].enc))::Zy y k o2 o1 o0)=AA (Zy y k o2 o1 o0)+1:=by simp
  simp[tM,e,xz,xh,xs,xk];refine⟨rfl,X0z hP hx.AL ?_⟩;have G:∀{b:Bool},tw (k+1)=(tw k||!decide (y.AE[k].AL.map Aj.name).Nodup):=by
   intro b;simp only[tw,D2 e,List.any_append];simp[Bool.or_assoc]
  by_cases c:k=0
  ·subst c;have w1:IntKind.i64.wrap 1=1:=w_i _ (by omega);simp[Zy,Vd,FF,U2,Hf,I.wp,Y5,KD,Pe,Qd];refine⟨_,_,⟨rfl,rfl⟩,rfl,rfl,?_⟩;simp[Dn,CA,w1];have H:tw 1=(tw 0||!decide (y.AE[0].AL.map Aj.name).Nodup):=G (b:=true);have ea:∀v w m b,[(12,v),(11,w),(10,m),(9,b),(8,.map (Zu (y.AK.map Ae.name) y.AK.length)),(7,.map (Zu (y.AE.map AO.name) y.AE.length)),(6,.map (Zu (y.Am.map A0.name) y.Am.length)),(5,.map (Zu y.Aa y.Aa.length)),(4,.box 105 (V.agg [.mp 5,.mp 6,.mp 7,.sl 12 1])),(3,.box 30 (.d y.enc)),(2,o2),(1,o1),(0,o0)]
    = (12,v)::(11,w)::(10,m)::((9,b)::Vd y 1 o2 o1 o0):=λv w m b=>by simp[Vd,Qd,Hf]
   have Z:Ob.map (Zu (y.AE[0].AL.map Aj.name) y.AE[0].AL.length)=Qd (EO y.AE 0):=by simp[Qd,EO,e]
   rw[ea,Z];refine X [10,12] 1 _ _ _ (YV (.cons _ (.cons _ (List.perm_append_singleton _ _).symm))) (by omega) (by omega) (by simp[H]) ?_ (by rw[f];simp[AD]) ?_
   ·rw[f];simp[Zy,Vd,FF,U2,AD,Uh,W9,H3]
   ·rw[f];refine Jq ?_ (by simp[AD]) (by simp[AD]) (by simp[AD]) (λ_=>by simp[AD]) (λi U=>?_)
    ·exact BV (ob:=[(2,o2),(1,o1),(0,o0)]) q (by simp)
    ·obtain rfl:i=0:=by omega
     simp[AD,Uh]
  ·have N:=ZM (y:=y) (o2:=o2) (o1:=o1) (o0:=o0) c;rw[Aq c]at f;have L:∀n,n<=12->(AA (Zy y k o2 o1 o0)=n)=False:=λn hn=>by rw[f];exact eq_false (by omega)
   simp[Q,N,Hf,c,I.wp,Y5,KD,Pe,L];refine⟨_,_,⟨rfl,rfl⟩,rfl,rfl,?_⟩;simp[Q,N,L,Dn,CA,Vc];refine⟨by omega,?_⟩;have Z:Ob.map (Zu (y.AE[k].AL.map Aj.name) y.AE[k].AL.length)=Qd (EO y.AE k):=by simp[Qd,EO,e]
   have ek:AA (Zy y k o2 o1 o0)+1=Uh k:=by rw[f];unfold Uh;rw[Aq c];omega
   rw[Z,ek,Yqh c];have pm:∀(x z:Nat×Ob)(A B T:AF),(x::z::(A++(B++T))).Perm (z::(A++(B++x::T))):=λx z A B T=>by
    have:=(List.perm_middle (a:=x) (l₁:=z::(A++B)) (l₂:=T)).symm;simpa using this
   refine X [Uh k] (k+1) _ _ _ (YV (.cons _ (pm _ _ _ _ _))) (by omega) (by omega) (by simp[G (b:=true),wr]) ?_ (by rw[f];simp[AD];omega) ?_
   ·rw[f];have:=Ygz (y:=y) (k:=k+1) (o2:=o2) (o1:=o1) (o0:=o0) (n:=11+2*k) (l:=[Uh k]) (by omega) (by omega) (λi U h1=>by
     have:i=k:=by
      rcases Fo i k with h2|h2
      ·exfalso;unfold Uh at h1;split at h1<;>omega
      ·omega
     simp[this])
    unfold Zy at this;rw[U2]at this;have k1:AD (11+2*k) [Uh k] (Uh k+1)=true:=by simp[AD,Uh,c];omega
    have k2:AD (11+2*k) [Uh k] (11+2*k)=true:=by simp[AD,Uh,c]
    rw[Xk,BS k1,Xk,BS k2,this];unfold Zy;rw[U2]
   ·rw[f];refine Jq (BV (ob:=[(2,o2),(1,o1),(0,o0)]) q (by simp;omega)) (by simp[AD];omega) (by simp[AD];omega) (by simp[AD];omega) (λ_=>by simp[AD];omega) (λi U=>?_);rcases Fo i k with h2|h2
    ·have:Uh i<11+2*k:=by unfold Uh;split<;>omega
     simp[AD];omega
    ·obtain rfl:i=k:=by omega
     simp[AD]
 ·obtain rfl:k=y.AE.length:=by omega
  simp[tM];refine W _ _ _ ?_;have g3:=Y7p (y:=y) (k:=y.AE.length) (o2:=o2) (o1:=o1) (o0:=o0);have Q:=nj (y:=y) (k:=y.AE.length) (o2:=o2) (o1:=o1) (o0:=o0);have p:∀kp,AI (AD 3 kp) [(2,o2),(1,o1),(0,o0)]=true:=by simpa using q
  simp[g3,F];refine⟨rfl,?_⟩;let u:=λk=>tw y.AE.length||(y.AT.take k).any λr=>!decide (r.Ah.map Av.name).Nodup
  have h9:9<=AA (Zy y y.AE.length o2 o1 o0):=by rw[US];split<;>omega
  refine EC y.AT.length (λk=>[(2,.ptr 4 []),(3,.d (.bool (u k))),(89,.d (.AH 5 (y.AT.map Ao.enc))),(90,.d (.int .i64 y.AT.length)),(91,.d (.int .i64 k))])
   (λ_=>Zy y y.AE.length o2 o1 o0) (λ_=>True) trivial (by simp[u]) rfl ?_ ?_
  ·intro k g _ R X W rr rp;have wr:IntKind.i64.wrap ((k:Int)+1)=(k:Int)+1:=w_i _ (by have:=t.AT;omega);have hx:=t.Hj _ (Ci g);have xk:(V.d y.AT[k].enc).Bc=some [.d (.AU y.AT[k].head),.d (iD y.AT[k].Ag),.d (.AH 8 (y.AT[k].Ah.map Av.enc)),.d (.AH 11 (y.AT[k].Ap.map BP.enc)),.d (.AH 7 (y.AT[k].BJ.map Bo.enc))]:=rfl;have xz:∀x:Ao,x.enc.sz=5:=λ_=>rfl;have xs:∀x:Ao,x.enc.shape.size=5:=λx=>by rw[Cb];rfl
   have xh:∀x:Ao,x.enc.shape=.node [.AR,.AR,.AR,.AR,.AR]:=λ_=>rfl;have J:u (k+1)=(u k||!decide (y.AT[k].Ah.map Av.name).Nodup):=by
    simp only[u,D2 g,List.any_append];simp[Bool.or_assoc]
   simp[tL,g,xz,xh,xs,xk];refine⟨rfl,X49 hP hx.Ah ?_⟩;simp;refine X [] _ _ trivial (by simp[J,wr]) ?_ ?_ (X64 p (Bg _))
   ·simp[AD]
   ·simp[AD];omega
  ·intro _ R W rr rp;simp[tL];refine W _ _ _ ?_;have ht:u y.AT.length=QQ y:=by
    simp[u,tw,QQ,List.all_eq_not_any_not]
   simp;rw[ht];refine⟨Vu (Zy y y.AE.length o2 o1 o0),?_,?_,?_⟩
   ·have:=Z5 Q;simp[AD,this]
   ·rw[Y1 λ_ h=>h];have O:∀{j:Nat}{o:Ob},AB (Zy y y.AE.length o2 o1 o0) j=some o->AD 3 (Vu (Zy y y.AE.length o2 o1 o0)) j=false:=λh=>by simp[AD,Z5 h]
    exact Jq (p _) (O Ywv) (O Yww) (O Ywx) (λg=>O (ZM g)) (λi U=>O (uG U))
   ·rw[Y1 λ_ h=>h];exact h
omit hP
def Ykn:Nat:=0x10006ed022206b00023357
def Yko:Nat:=0x10686ed7e102107a5db0d14c9090a2106400301d06b01f21906b01a06a01c0410d10a60b00050a193b0850170b50160c10aa7ea3f90042a41ca9ad10f37f5349f00620130b3041bd676a19774401122806406174401006b01206a19b05b00b06b00d06a19b05b6d814b744b3008174400625340000e08519b7e704113674456f08800826525329a3390060a80b301f0103700059e90014291790016a804113600179504194d2650464e90419e212d2171380460f008b0e90952ae0164fa9ab4830e54220192155342780581560561260d102a00511bacf08a0290051110460fa08a0bf02b0050a10430470479b0b2c
def lj:Nat:=0x187d53427802801502702168a83726bbdb5349f013e21704c0060254ba534afc0230b4022059286a258627f15030200c201f1734c501c0c201b4ec00ab890610996ed13b01a0560190d10151db6fe01708a0147b50470ef04275f80c04d0009dc0120bb48b0100c200f1730100ec11f80c22f00e0df9c70c59f522e09c55000b9f218b8fb40709397a803
def py:Nat:=0x10576ed09f6eda3d18736c
def Zgq:S:=zS [(zS [(zS [] Yko),(zS [] Ykn)] lj)] py
def Zsj:Xp prog 36 2 Zgq []=true:=by kernel_rfl
def Ykp:Nat:=0x100099309304f1950718090450395a2993054c2c3cb98f02d1fbbef2057fc4b7054c2c5d41fb7fc42f04396c030093bef3b783103a168099c2c5d41fb7fc4b709383103a0a205b0ac08dbef3b700ba0603b0850880370b50610360c10480099a30360859f505561e03845f0480090347a603308980902f13cb5f0321c21959930096510311331a707e
def lk:Nat:=0x10008a200b04f0211da5db18c8a200877c44d00904f05004e22500733119f28600616c0054b50042250090450ef58f1a083770e5b338e70e5b308e02f0ba02e08979204202c0c100907211f4131883b303002b07a02a0b50290c1009ae500406f4131883b302820601e4edac300605402508902482f42e088abd5966d50083b36021015db7180211c20214960383b37e10201330221c6
def Ykq:Nat:=0x10008cb76a0267ef00029611e
def mQ:Nat:=0x11b58cb6d801107a7420d1ae600e20616800d06b00f06a00906b00b06a00c0c700bab100c0850087d90070c1040099083adb0470ba04703856470c99e85996a0032280610371551790371490411443d56f90883d5bc93d513827e0f00bb14804615604203207c9a606f564338593acf0d1a55b7922e56433811125d0fa0c20bf9105117aa0d102808802945e06f13e0063380270b402518bb76338bea
def qC:Nat:=0x10a38a23a78a208e01e0ba01d08901c82f0a662b6de28501a07a01982f0130c10170a81a702701d01608901582f59281a8697fa8cb09f8cbbbd7860d147e2781b604401d01f05601e0d10180056841950274a204601a0d101981a0ef1ad0440150170568b318e014010451441a6d0111a10c20110886b23ed7980eb00d6e8adb045
def Zgr:S:=zS [(zS [(zS [] Ykq)] mQ),(zS [(zS [] Ykp)] lk)] qC
def Zsk:Xp prog 37 3 Zgr []=true:=by kernel_rfl
def Ykr:Nat:=0x10008d902496f1da9c118c8d90223a07f700c99708b6fc01f04f1ec17c01e16c01d84901c7961fe01c26800912844e188603000c0b40542d02401818216c06104e8496ca04f0888650022c3043002bc7286909c0b40542d02401818229800503921d053bc713f01903902b909c0b04f1ec2dcbc713f01903902b01718216c05e04e8496ca04f0888650022c304552316c01600101504f04243004f01340501669923e01216c66d01184901121f22501018204676700e16c0dd00d3cd04f06c00d0b216c13200b4b52fa22500a1829a319b16c09371e08a7452259e49c82c30880090152682764f626804d01b26244e18860300077c01e9c1b7d03f1c298f44e12714f6a103e13347107e
def Yks:Nat:=0x10008c065101c1da0a618c8c002e0a802722802d26604e44a02b95205402a0890290c702847c04677b1289b61a814f0250a801e2280247d97a7952054a5f0200c701f47c1fea9a4ac9b61a814f5b51010a671801c1c201c0383e412714f0b00a600d01d1c6
def Ykt:Nat:=0x100088d8ad0267ef7ea85788db310d604143f00aa7300425306a00600d08556f042bca6ab0850079bc084323acc05e1a80410532280040c7003ab104704706facc9a212dbe30b58021381264518aca4a0ea08ba555b603001f1480c282200703425202f6e868608419d00000d215acc9a20fa25d0bf6f25117aa08b0282b98d159613e0de6880270b402518bb760b1688bea
def qD:Nat:=0x12278d938e8d908e03c0ba03b0896790d103947c3dc04228803604103807a9990d10310c1a880377ce0340894720d103247c1ea98e06aad207700a8c03a78c008e0190ba8270170c701647c3dc0602888d401507a0140c700e0c10120a80367ce0119d10c700f47c1ea04300f06aad204505788d09f88dbbd78608b0202b9bf300606017216401f0df16406803503801702003a00206f35501e04d01427a69d9af08c81b01b32801c08b0160053ca0347ce01904601808b0172b91ea33e01fad20451710498c200c0560c22fa01502300a86583d04356800e45117c8c200c0560c22fa00530479d00213f01402b00986583d04500248b09301004208d95108100304608846e4f708b9560e85b63ba0b900d0531710481a70e001d03823a
def Zgs:S:=zS [(zS [] Ykt),(zS [] Yks),(zS [] Ykr)] qD
def Zsl:Xp prog 38 2 Zgs []=true:=by kernel_rfl
def Ykv:Nat:=0x100082900204101407101318c82912dbe30c70280051381264518aca4a0ea0bf06c11b04303101f02b04302d01f1480c282200503401e11108b02d07c8d201e02a08a0294ec0951746c7b2f0044c35c101304017425702502705602608b53d024020451a49025503bf302204202117302201e05904e01d00515d01d6e8adb21517425701b0df1513052c10460170c201608801782017455001509001318b0140820c868e9a701507e
def qF:Nat:=0x105782909f82908e90d010046aab2ed27841900b00d05600c0c205f304039336481046a4c00781a0b4190
def Zgu:S:=zS [(zS [] Ykv)] qF
def Zsn:Xp prog 40 2 Zgu []=true:=by kernel_rfl
def Zkv:Nat:=0x126b11bacf08a01900511102a4510fa04391c0290462f006c99202608b0250216870240430267b904601f08b0ec0030466bc01b08a01a0b793b01f0bf0c202b09502c01e02308b02209502301e04015138801573e2cc0840c80e52940511030166fe01708b0100050150114510143680f10d001f0130420120959d704074605f0011be2410455d546f31100e0d246eadf77a2f504421c05800a05600908a05f593008056c2d0052000df167
def Yxd:S:=zS [] Zkv
def Zb1:Xp prog 109 4 Yxd []=true:=by kernel_rfl
def jU:S2:=zL [] [] Ykn
def gR:=(by cbv:jU=_)
def jV:S2:=zL [] [] Yko
def Ynw:=(by cbv:jV=_)
def jT:S2:=zL [] [jV,jU] lj
def gQ:=(show jT=_ from (λ(a b:S2)=>(by cbv:zL [] [a,b] lj=_)) jV jU)
def Zi6:S2:=zL [] [jT] py
def Zm5:=(show Zi6=_ from (λa=>(by cbv:zL [] [a] py=_)) jT)
def Zpe:Zgq.AZ []=some Zi6:=by kernel_rfl
def jW:S2:=zL [] [] Ykp
def gS:=(by cbv:jW=_)
def jX:S2:=zL [] [jW] lk
def tN:=(show jX=_ from (λa=>(by cbv:zL [] [a] lk=_)) jW)
def jZ:S2:=zL [] [] Ykq
def tP:=(by cbv:jZ=_)
def jY:S2:=zL [] [jZ] mQ
def tO:=(show jY=_ from (λa=>(by cbv:zL [] [a] mQ=_)) jZ)
def Zi7:S2:=zL [] [jY,jX] qC
def Zm6:=(show Zi7=_ from (λ(a b:S2)=>(by cbv:zL [] [a,b] qC=_)) jY jX)
def Zpf:Zgr.AZ []=some Zi7:=by kernel_rfl
def ja:S2:=zL [] [] Ykr
def tQ:=(by cbv:ja=_)
def jb:S2:=zL [] [] Yks
def tR:=(by cbv:jb=_)
def jc:S2:=zL [] [] Ykt
def tS:=(by cbv:jc=_)
def Zi8:S2:=zL [] [jc,jb,ja] qD
def Zm7:=(show Zi8=_ from (λ(a b c:S2)=>(by cbv:zL [] [a,b,c] qD=_)) jc jb ja)
def Zpg:Zgs.AZ []=some Zi8:=by kernel_rfl
def jd:S2:=zL [] [] Ykv
def tT:=(by cbv:jd=_)
def Zi9:S2:=zL [] [jd] qF
def Zm9:=(show Zi9=_ from (λa=>(by cbv:zL [] [a] qF=_)) jd)
def Zpi:Zgu.AZ []=some Zi9:=by kernel_rfl
def Y0u:S2:=zL [] [] Zkv
def Y5d:=(by cbv:Y0u=_)
def Y8k:Yxd.AZ []=some Y0u:=by kernel_rfl
def Yd:∀{a:AF}{k:Nat}{o:Ob},AB a k=some o->AG a k o=a
|(j,b)::r,k,o,h=>by
 simp only[AB]at h;simp only[AG];split
 next e=>simp[e]at h;subst h;rfl
 next e=>rw[Yd (by simpa[e]using h)]
def Xi{a:AF}{k:Nat}{o:Ob}(h:AB a k=some o):k<AA a:=by
 rcases Fo k (AA a) with b|b
 ·exact b
 ·rw[X9 a k b]at h;cases h
@[simp]def one_le_succ(n:Nat):(1<=(n:Int)+1)=True:=by simp;omega
@[simp]def ex3(a b n:Nat)(c:List D):(∃E z d,(a=E/\b=z/\c=d)/\n=d.length)=(n=c.length):=by
 rw[eq_iff_iff];exact⟨λ⟨_,_,_,⟨_,_,e⟩,f⟩=>e▸f,λh=>⟨_,_,_,⟨rfl,rfl,rfl⟩,h⟩⟩
@[simp]def add11(n:Nat):n+1+1=n+2:=rfl
@[simp]def add21(n:Nat):n+2+1=n+3:=rfl
@[simp]def add31(n:Nat):n+3+1=n+4:=rfl
@[simp]def add41(n:Nat):n+4+1=n+5:=rfl
@[simp]def add51(n:Nat):n+5+1=n+6:=rfl
@[simp]def add61(n:Nat):n+6+1=n+7:=rfl
@[simp]def add71(n:Nat):n+7+1=n+8:=rfl
@[simp]def add12(n:Nat):n+1+2=n+3:=rfl
@[simp]def add22(n:Nat):n+2+2=n+4:=rfl
@[simp]def strsD_shape(l:List B):(Xg l).shape=.AR:=by simp[Xg,D.shape]
@[simp]def strsD_sz(l:List B):(Xg l).sz=1:=by simp[Xg,D.sz]
@[simp]def strsD_agg(l:List B):(Xg l).isAgg=false:=rfl
@[simp]def intsD_shape(l:List Int):(X4 l).shape=.AR:=by simp[X4,D.shape]
@[simp]def BE.Cv(t:BE):t.enc.shape=.node [.AR,.AR,.AR,.AR,.AR]:=rfl
@[simp]def Rc6(t:BE):t.enc.isAgg=true:=rfl
def Z4{b:Type}(f:List b->b->Option b)(a:List b)(x:b)(r:List b):Db f a (x::r)=(f a x).bind λy=>Db f (a++[y]) r:=rfl
def K4{a:Type}(f:a->V){d l:List a}(b:d.length<l.length)(h:d.length<((d++l.drop d.length).map f).length):((d++l.drop d.length).map f)[d.length]=f l[d.length]:=by
 rw[List.getElem_map,List.getElem_append_right (Bg _)];simp
def Kz{b:Type}(f:b->V){d l:List b}(a:d.length<l.length)(z:b):((d++l.drop d.length).map f).set d.length (f z)=((d++[z])++l.drop (d++[z]).length).map f:=by
 rw[<-GG,List.set_append_right _ _ (Bg _),D5 a,Nat.sub_self,List.set_cons_zero];simp
def Eo(u:A0):V:=.d u.enc
def Xx{p:Nat->Bool}{id E z:Nat}{e:List V}(b:BY p e=false):∀{d:AF},AI p d=true->AI p (AG d id (.Ay E z e))=true
|[],_=>rfl
|(j,o)::r,h=>by
 have a:AI p r=true:=by cases o<;>simp[AI]at h<;>first|exact h|exact h.2
 simp only[AG];split
 ·simp[AI,b,a]
 ·have c:=Xx (id:=id) (E:=E) (z:=z) b a;cases o<;>simp[AI]at h⊢<;>first|exact c|exact⟨h.1,c⟩
def X8{a:Type}{p:Nat->Bool}(f:a->D)(l:List a):BY p (l.map λx=>V.d (f x))=false:=by
 induction l with
 |nil=>rfl
 |cons x r b=>simpa[BY,V.BQ]using b
include hP
theorem Yos{n id:Nat}{names:List B}{l:List A0}(hl:l.length<=1000000){b:AF}(X:AB b 4=some (Tt n))(h6:AB b 6=some (Qd names))(j:AB b id=some (.Ay 94 5 (l.map Eo))){K:BN->AF->Prop}
 (W:∀us,Db (MM names) [] l=some us->K (.ret (.BT [])) (AG b id (.Ay 94 5 (us.map Eo))))
 (h0:Db (MM names) [] l=none->∀J:List A0,K (.panic (.d Zw)) (AG b id (.Ay 94 5 (J.map Eo)))):
 AX P 36 [.ptr 4 [],.sl id l.length] b K:=by
 refine AY hP AQ Zsj Zpe A4.nil λ_ L=>?_;have p:=Xi X;have H:=Xi j;have n4:id≠4:=λe=>by rw[e,X]at j;simp at j
 have n6:id≠6:=λe=>by rw[e,h6]at j;simp[Qd]at j
 simp[Zm5];refine⟨.inr ⟨_,_,_,j,by simp⟩,?_⟩;refine Au.go (ι:=List A0) (λd=>[(0,.ptr 4 []),(1,.sl id l.length),(8,.d (.int .i64 l.length)),(9,.d (.int .i64 d.length))])
  (λd=>AG b id (.Ay 94 5 ((d++l.drop d.length).map Eo))) (λd=>d.length<=l.length/\Db (MM names) [] l=Db (MM names) d (l.drop d.length)/\∀u∈d,0<=u.Ba/\u.Ba<=1099511627776) (λd=>l.length-d.length) [] ⟨by simp,rfl,by simp⟩ (by simp) (by simp[Yd j]) ?_
 rintro d ⟨hd,h,r⟩ R rn re rr rp;have o4:∀o,AB (AG b id o) 4=some (Tt n):=λo=>by rw[Xb b id 4 ⟨_,j⟩,Aq (by omega),X]
 have o6:∀o,AB (AG b id o) 6=some (Qd names):=λo=>by rw[Xb b id 6 ⟨_,j⟩,Aq (by omega),h6]
 have oi:∀o,AB (AG b id o) id=some o:=λo=>by rw[Xb b id id ⟨_,j⟩,BS rfl]
 have N:((d++l.drop d.length).map Eo).length=l.length:=by simp;omega
 by_cases a:d.length<l.length
 ·have wr:IntKind.i64.wrap ((d.length:Int)+1)=(d.length:Int)+1:=w_i _ (by omega);have y:=K4 Eo a;have J:=Kz Eo a;rw[D5 a,Z4]at h;generalize hu:l[d.length]=u at h y;have ue:Eo u=.d (.agg [.AU u.name,.AU u.CB,iD u.Bb,iD u.A1,iD u.Ba]):=rfl;simp only[ue]at y;generalize s:(d++l.drop d.length).map Eo=q at N y J;have ad:d.length<q.length:=by omega
  by_cases f:u.CB=[]
  ·have e2:(q.set d.length (.d (.agg [.AU u.name,.AU u.CB,iD u.Bb,iD d.length,iD 1])))=((d++[{u with A1:=d.length,Ba:=1}])++l.drop (d++[{u with A1:=d.length,Ba:=1}]).length).map Eo:=J {u with A1:=d.length,Ba:=1};simp[gQ,a,oi,y,N,f];simp[gR];have O:q.set d.length (.d (.agg [.AU u.name,.AU [],iD u.Bb,iD d.length,iD 1]))=((d++[{u with A1:=d.length,Ba:=1}])++l.drop (d++[{u with A1:=d.length,Ba:=1}]).length).map Eo:=by rw[<-e2,f]
   have uR:MM names d u=some {u with A1:=d.length,Ba:=1}:=by unfold MM;rw[BS f]
   rw[uR]at h;refine rn [] (d++[{u with A1:=d.length,Ba:=1}]) _ _ ⟨by simp;omega,?_,?_⟩ (by simp;omega) (by simp[wr]) ?_ (by simp[AD,p,H]) ?_
   ·rw[h,Option.bind_some,C7];rfl
   ·intro x m;rw[DT,E3]at m;rcases m with m|rfl
    ·exact r x m
    ·simp
   ·rw[<-O];simp[AD,iD]
   ·exact Xx (X8 _ _) (BV L (by simp))
  ·have un:MM names d u=(Cr names u.CB).bind λn=>(d[n]?).map λv=>{u with A1:=v.A1,Ba:=if 2<=u.Bb/\u.Bb<=1000/\u.Bb*v.Ba<=1099511627776 then u.Bb*v.Ba else 0}:=by unfold MM;rw[Aq f]
   simp[gQ,a,oi,o4,y,N,f];have pn:((Cr names u.CB).bind λn=>(d[n]?).map λv=>{u with A1:=v.A1,Ba:=if 2<=u.Bb/\u.Bb<=1000/\u.Bb*v.Ba<=1099511627776 then u.Bb*v.Ba else 0})=none->R (.panic (.d Zw)) [] (AG b id (.Ay 94 5 q)):=λe=>by
    refine rp _ _ _ ?_;simp;rw[un,e]at h;refine⟨[],by simp,?_,?_⟩
    ·simp[AD];rw[<-s];exact Xx (X8 _ _) (L _)
    ·simp[AD];rw[<-s];exact h0 h _
   refine Zj hP (o6 _) (λi G=>?_) (λhn=>?_)
   ·simp;refine⟨λc=>pn (by rw[G,Option.bind_some,Pa c];rfl),λc=>?_⟩;have w:q[i]'(by omega)=Eo d[i]:=by
     subst s;rw[List.getElem_map,List.getElem_append_left c]
    have ve:Eo d[i]=.d (.agg [.AU d[i].name,.AU d[i].CB,iD d[i].Bb,iD d[i].A1,iD d[i].Ba]):=rfl;rw[ve]at w;have g:=r d[i] (Ci c);have ac:i<q.length:=by omega
    have Z:i<l.length:=by omega
    have aa:d.length≠i:=by omega
    generalize Y:d[i]=v at w g ve;simp[Ynw,oi,y,N,w,a,Z,aa];have Cq:∀k:Int,0<=k->k<=1099511627776->(if 2<=u.Bb/\u.Bb<=1000/\u.Bb*d[i].Ba<=1099511627776 then u.Bb*d[i].Ba else 0)=k->∀t,Xy t [0,1,8,9]=[(0,.ptr 4 []),(1,.sl id l.length),(8,.d (.int .i64 l.length)),(9,.d (.int .i64 (d.length+1:Nat)))]->
     R .normal t (AG b id (.Ay 94 5 (q.set d.length (.d (.agg [.AU u.name,.AU u.CB,iD u.Bb,iD d[i].A1,iD k]))))):=λk s1 s2 he t hk=>by
     have O:q.set d.length (.d (.agg [.AU u.name,.AU u.CB,iD u.Bb,iD d[i].A1,iD k]))=((d++[{u with A1:=d[i].A1,Ba:=k}])++l.drop (d++[{u with A1:=d[i].A1,Ba:=k}]).length).map Eo:=J {u with A1:=d[i].A1,Ba:=k};rw[un,G,Option.bind_some,DN c,Option.map_some,he]at h;refine rn [] (d++[{u with A1:=d[i].A1,Ba:=k}]) _ _ ⟨by simp;omega,?_,?_⟩ (by simp;omega) (by simpa using hk) ?_ (by simp[AD,p,H]) ?_
     ·rw[h,Option.bind_some,C7];rfl
     ·intro x m;rw[DT,E3]at m;rcases m with m|rfl
      ·exact r x m
      ·exact⟨s1,s2⟩
     ·rw[<-O];simp[AD]
     ·exact Xx (X8 _ _) (BV L (by simp))
    rw[Y]at Cq;refine⟨λQ f2 U=>?_,λQ=>?_⟩
    ·have hb:0<=u.Bb*v.Ba/\u.Bb*v.Ba<=1099511627776000:=⟨Int.mul_nonneg (by omega) g.1,by
      have W:u.Bb*v.Ba<=1000*v.Ba:=Int.mul_le_mul_of_nonneg_right f2 g.1;omega⟩
     have wm:IntKind.i64.wrap (u.Bb*v.Ba)=u.Bb*v.Ba:=w_i _ (by omega);rw[wm]at U⊢;simp[gR];exact Cq _ hb.1 U (BS ⟨Q,f2,U⟩) _ (by simp[wr])
    ·simp[gR];refine Cq 0 (by omega) (by omega) (Aq λ⟨T,z,ab⟩=>?_) _ (by simp[wr]);have hb:0<=u.Bb*v.Ba/\u.Bb*v.Ba<=1099511627776000:=⟨Int.mul_nonneg (by omega) g.1,by
      have W:u.Bb*v.Ba<=1000*v.Ba:=Int.mul_le_mul_of_nonneg_right z g.1;omega⟩
     have wm:IntKind.i64.wrap (u.Bb*v.Ba)=u.Bb*v.Ba:=w_i _ (by omega);have:=Q T z;rw[wm]at this;omega
   ·simp;exact pn (by rw[hn];rfl)
 ·have F:d.length=l.length:=by omega
  simp[gQ,a];refine re _ _ _ ?_;simp;rw[F,List.drop_length,Db]at h;have e:List.drop l.length (List.map Eo l)=[]:=HO (by simp);rw[F,e,GJ];refine⟨[],by simp,?_,?_⟩
  ·simp[AD];exact Xx (X8 _ _) (L _)
  ·simpa[AD]using W d h
omit hP
def H6:Int->List UInt8->Option Int
|n,[]=>some n
|n,c::r=>if 1099511627776<10*n+(c.toNat-48) then none else H6 (10*n+(c.toNat-48)) r
def X2h{s:List UInt8}{k:Nat}{n:Int}(h:k<s.length):H6 n (s.drop k)=if 1099511627776<10*n+((s[k]?.getD 0).toNat-48) then none else H6 (10*n+((s[k]?.getD 0).toNat-48)) (s.drop (k+1)):=by
 rw[D5 h];simp[H6,h]
include hP
omit hP
def TD(a:D)(l:List BH):Prop:=a=B9 l\/a=.Ad/\l=[]
section
variable {a:D} {l:List BH} (h:TD a l)
include h
theorem TD.len:LC (.d a)=.d (.int .i64 l.length):=by rcases h with rfl|⟨rfl,rfl⟩<;>simp[B9]
theorem TD.DI(b:AF):MC b (.d a)=True:=by rcases h with rfl|⟨rfl,rfl⟩<;>simp[B9]
theorem TD.Hh(b:AF)(k:IntKind)(i:Int):K9 b 4 (.d a) (.d (.int k i))=(0<=i/\i<l.length):=by
 rcases h with rfl|⟨rfl,rfl⟩
 ·simp[B9]
 ·simp[K9,HQ]
theorem TD.Gn{k:IntKind}{i:Nat}(b:i<l.length):LA 4 (.d a) (.d (.int k i))=.d (.Bv (l[i]?.getD default).enc):=by
 rcases h with rfl|⟨rfl,rfl⟩
 ·simp[B9,b]
 ·simp at b
end
def Ql(c:UInt8):Bool:=U0 c.toNat
def Yq(c:UInt8):Bool:=NB c.toNat
def UH(c:UInt8):Bool:=Ymb c.toNat
def W1(c:UInt8):Bool:=NY c.toNat
def FI(c:UInt8):Bool:=Ko c.toNat
def G1(c:UInt8):Bool:=c != 10
inductive St where
|skip (n:Nat)
|Kq (k:Int) (t:List UInt8) (m:Int) (n:Nat)
|Bi
def KJ(t:List UInt8):Option Int:=match H6 0 t with
|none=>none
|some n=>if t.length=1\/t.headD 0≠48 then some n else none
def FO(c:UInt8)(r:List UInt8):St:=
 if UH c then .skip 0
 else if c=47/\r.head? = some 47 then .skip (r.takeWhile G1).length
 else if Ql c then
  if (r.takeWhile W1).length+1<=32 then .Kq 1 (c::r.takeWhile W1) 0 (r.takeWhile W1).length else .Bi
 else if Yq c then
  match KJ (c::r.takeWhile Yq) with
  |some n=>.Kq 2 [] n (r.takeWhile Yq).length
  |none=>.Bi
 else if FI c then .Kq 3 [c] 0 0 else .Bi
inductive Ls where
|ok (l:List BH)
|Bi (pI:Nat)
def RE(t:BH):Ls->Ls
|.ok l=>.ok (t::l)
|.Bi e=>.Bi e
def LN(l:List BH):Ls->Ls
|.ok a=>.ok (l++a)
|.Bi e=>.Bi e
def EM:List UInt8->Nat->Ls
|[],_=>.ok []
|c::r,a=>match FO c r with
 |.skip n=>EM (r.drop n) (a+n+1)
 |.Kq k t m n=>RE ⟨k,t,m,a⟩ (EM (r.drop n) (a+n+1))
 |.Bi=>.Bi a
termination_by l=>l.length
decreasing_by all_goals (simp only[List.length_drop,List.length_cons];omega)
def XE:Ls->V
|.ok l=>.BT [.d (B9 l),.d (.int .i64 0),.d (.int .i64 0)]
|.Bi e=>.BT [.d .Ad,.d (.int .i64 e),.d (.int .i64 90)]
def Nh(s:List UInt8):V:=if s.length > 65536 then .BT [.d .Ad,.d (.int .i64 0),.d (.int .i64 2)] else XE (EM s 0)
def Yfh(r:Ls):LN [] r=r:=by cases r<;>rfl
def eC(l:List BH)(t:BH)(r:Ls):LN l (RE t r)=LN (l++[t]) r:=by cases r<;>simp[LN,RE]
def tw(p:UInt8->Bool)(s:List UInt8)(j:Nat):Nat:=((s.drop j).takeWhile p).length
def Zfi{p:UInt8->Bool}{s:List UInt8}{j:Nat}(h:s.length<=j):tw p s j=0:=by simp[tw,HO h]
def nD{p:UInt8->Bool}{s:List UInt8}{j:Nat}(h:j<s.length)(a:p (s[j]?.getD 0)=true):tw p s j=tw p s (j+1)+1:=by
 simp[h]at a;unfold tw;rw[D5 h,Pd,BS a];rfl
def Zfj{p:UInt8->Bool}{s:List UInt8}{j:Nat}(h:j<s.length)(a:p (s[j]?.getD 0)=false):tw p s j=0:=by
 simp[h]at a;unfold tw;rw[D5 h,Pd,a];rfl
def Pv(p:UInt8->Bool)(s:List UInt8)(j:Nat)(h:j<=s.length):j+tw p s j<=s.length:=by
 have:=(List.takeWhile_sublist p (l:=s.drop j)).length_le;simp[tw]at this⊢;omega
def Z2(p:UInt8->Bool):∀l:List UInt8,l.takeWhile p=l.take (l.takeWhile p).length
|[]=>rfl
|c::r=>by
 simp only[Pd];split
 ·simp;exact Z2 p r
 ·rfl
def Yjr{p:UInt8->Bool}{x:UInt8}:∀{l:List UInt8},x∈l.takeWhile p->p x=true
|c::r,h=>by
 rw[Pd]at h;split at h
 ·rename_i a;rcases EJ.mp h with rfl|h
  ·exact a
  ·exact Yjr h
 ·cases h
def Jk{s:List UInt8}{i:Nat}(h:i<s.length):s.drop i=(s[i]?.getD 0)::s.drop (i+1):=by
 rw[D5 h];simp[h]
def Ytz(p:UInt8->Bool){s:List UInt8}{i:Nat}(h:i<s.length)(b:p (s[i]?.getD 0)=true):
 (s.take (i+tw p s i)).drop i=(s[i]?.getD 0)::(s.drop (i+1)).takeWhile p/\tw p s i=((s.drop (i+1)).takeWhile p).length+1:=by
 have a:tw p s i=((s.drop (i+1)).takeWhile p).length+1:=nD h b;refine⟨?_,a⟩;rw[Ry,Nat.add_sub_cancel_left,a,Jk h,List.take_succ_cons,<-Z2]
def Yhc{s:List UInt8}{i a:Nat}(h:s.length<=i):EM (s.drop i) a=.ok []:=by
 rw[HO h,EM]
def Yq6{s:List UInt8}{i:Nat}(h:i<s.length):EM (s.drop i) i=match FO (s[i]?.getD 0) (s.drop (i+1)) with
|.skip n=>EM (s.drop (i+n+1)) (i+n+1)
|.Kq k t m n=>RE ⟨k,t,m,i⟩ (EM (s.drop (i+n+1)) (i+n+1))
|.Bi=>.Bi i:=by
 rw[Jk h,EM];cases FO (s[i]?.getD 0) (s.drop (i+1)) with
 |Bi=>rfl
 |skip n=>simp only[List.drop_drop];congr 2;omega
 |Kq k t m n=>simp only[List.drop_drop];congr 3;omega
def yQ{s:List UInt8}{i:Nat}:(s.drop i).head? = s[i]?:=by simp[List.head?_drop]
section
inductive R(α:Type) where
|ok (a:α) (ts:List BH)
|Bi (ts:List BH) (e:Int)
abbrev M(α:Type):=List BH->R α
def M.bind{b c:Type}(m:M b)(f:b->M c):M c:=λd=>match m d with
|.ok a ts'=>f a ts'
|.Bi ts' e=>.Bi ts' e
def M.pure{b:Type}(a:b):M b:=λc=>.ok a c
instance:Monad M where
 pure:=M.pure
 bind:=M.bind
section
variable {α β:Type}
@[simp]def Yto(a:α)(b:List BH):(pure a:M α) b=.ok a b:=rfl
def Xo(m:M α)(f:α->M β)(b:List BH):(m >>= f) b=match m b with
|.ok a ts'=>f a ts'
|.Bi ts' e=>.Bi ts' e:=rfl
def Yc{c:Type}(m:M α)(f:α->M β)(g:β->M c):((m >>= f) >>= g)=(m >>= λa=>f a >>= g):=by
 funext b;simp only[Xo];cases m b<;>rfl
def Y6(a:α)(f:α->M β):((pure a:M α) >>= f)=f a:=rfl
def Ev(c:List BH->Bool)(a b:M α):M α:=λd=>if c d then a d else b d
def fail(e:Int):M α:=λa=>.Bi a e
end
def Xz(k:Int)(t:B):List BH->Bool
|[]=>false
|x::_=>decide (x.kind=k)&&(decide (t=[])||x.DJ==t)
def LL(k:Int)(t:B):M BH:=λa=>if Xz k t a then .ok (a.headD default) a.tail else .Bi a 100
def Yy:M B:=do let t <-LL 1 [];pure t.DJ
def Y7(t:B):M Unit:=do let _ <-LL 1 t;pure ()
def Yo(t:B):M Unit:=do let _ <-LL 3 t;pure ()
def Yt(k:Int)(t:B):M Bool:=λa=>if Xz k t a then .ok true a.tail else .ok false a
def Yi(c b:Int):M Int:=λa=>if Xz 2 [] a&&decide (c<=(a.headD default).n)&&decide ((a.headD default).n<=b) then .ok (a.headD default).n a.tail else .Bi a 100
def xX{c b n:Int}{d ts':List BH}(h:Yi c b d=.ok n ts'):c<=n/\n<=b:=by
 simp only[Yi]at h;split at h
 next a=>simp only[BB,DK]at a;cases h;exact⟨a.1.2,a.2⟩
 ·cases h
def Uk(a b:Nat):M Unit:=λc=>if a=b then .Bi c 2 else .ok () c
def X7{e:Type}(b:List BH->Bool)(c:M e):Nat->M (List e)
|0=>λd=>if b d then .Bi d 2 else .ok [] d
|n+1=>λd=>if b d then (do let a <-c;let l <-X7 b c n;pure (a::l):M (List e)) d else .ok [] d
inductive DE where
|Fj (n:Int)
|path (a b:B)
structure Dp where
 name:B
 kind:B
 CB:Option (B×B)
structure DV where
 op:Int
 a:DE
 b:DE
structure DX where
 path:B
 Cd:DE
structure EB where
 B8:B
 Aw:B
 shift:Int
structure HL where
 name:B
 path:B
inductive C1 where
|Fj (lo hi:Int) (CB:Option B)
|Mh
|Dc
|Eh (l:List B)
structure Field where
 name:B
 type:C1
 AP:List Int
structure CE where
 names:List B
 name:B
structure C2 where
 name:B
 CB:Option (Int×B)
structure Bt where
 name:B
 Eg:B
 BU:Int
 AL:List Field
 Ac:List CE
structure DH where
 head:B
 Ah:List Dp
 Ap:List DV
 BJ:List DX
structure B0 where
 Aw:B
 B8:B
 At:List EB
structure B1 where
 name:B
 CN:List HL
 C3:Int
structure Bl where
 Aa:List B
 Am:List C2
 AE:List Bt
 AT:List DH
 AM:List B0
 AK:List B1
def DE.enc:DE->D
|.Fj n=>.agg [.AU [],.AU [],iD (-1),iD 0,iD n]
|.path a b=>.agg [.AU a,.AU b,iD 0,iD 0,iD 0]
def Dp.enc(f:Dp):D:=.agg [.AU f.name,.AU f.kind,iD 0,match f.CB with|none=>.agg [.AU [],.AU [],iD 0,iD 0,iD 0] |some x=>.agg [.AU x.1,.AU x.2,iD 0,iD 0,iD 0]]
def DV.enc(a:DV):D:=.agg [iD a.op,a.a.enc,a.b.enc]
def DX.enc(s:DX):D:=.agg [.AU s.path,iD 0,s.Cd.enc]
def EB.enc(m:EB):D:=.agg [.AU m.B8,.AU m.Aw,iD 0,iD 0,iD m.shift]
def HL.enc(r:HL):D:=.agg [.AU r.name,.AU r.path,iD 0,iD 0]
def C1.enc:C1->D
|.Fj c b a=>.agg [iD 1,iD c,iD b,.AU (a.getD []),iD 0,.Ad]
|.Mh=>.agg [iD 2,iD 0,iD 1023,.AU [],iD 0,.Ad]
|.Dc=>.agg [iD 3,iD 0,iD 4095,.AU [],iD 0,.Ad]
|.Eh l=>.agg [iD 4,iD 0,iD (l.length-1),.AU [],iD 0,Xg l]
def Field.enc(f:Field):D:=.agg [.AU f.name,f.type.enc,.agg (f.AP.map iD)]
def CE.enc(d:CE):D:=.agg [Xg d.names,.AU d.name,.Ad,iD 0]
def C2.enc(u:C2):D:=match u.CB with
|none=>.agg [.AU u.name,.AU [],iD 0,iD 0,iD 0]
|some x=>.agg [.AU u.name,.AU x.2,iD x.1,iD 0,iD 0]
def Bt.enc(s:Bt):D:=.agg [.AU s.name,.AU s.Eg,iD 0,iD s.BU,.AH 11 (s.AL.map Field.enc),.AH 4 (s.Ac.map CE.enc)]
def DH.enc(r:DH):D:=.agg [.AU r.head,iD 0,.AH 8 (r.Ah.map Dp.enc),.AH 11 (r.Ap.map DV.enc),.AH 7 (r.BJ.map DX.enc)]
def B0.enc(c:B0):D:=.agg [.AU c.Aw,.AU c.B8,iD 0,iD 0,.AH 5 (c.At.map EB.enc)]
def B1.enc(p:B1):D:=.agg [.AU p.name,.AH 4 (p.CN.map HL.enc),iD p.C3]
def P0:M (B×B):=do let a <-Yy;Yo [46];let b <-Yy;pure (a,b)
def MK:M DE:=λa=>if Xz 2 [] a then (do let n <-Yi 0 1048576;pure (.Fj n):M DE) a else (do let x <-P0;pure (.path x.1 x.2):M DE) a
def Hv:M Dp:=do
 Y7 [102,114,111,109]
 let a <-Yy;let b <-Yy;let c <-Yt 1 [111,102]
 if c then do let x <-P0;Yo [59];pure ⟨a,b,some x⟩ else do Yo [59];pure ⟨a,b,none⟩
def YK:M Int:=do
 let b <-Yt 3 [61]
 if b then pure 1 else do
  let b <-Yt 3 [60]
  if b then do
   let b <-Yt 3 [61]
   pure (if b then 3 else 2)
  else do Yo [33];Yo [61];pure 4
def NM:M DV:=do
 Y7 [119,104,101,114,101]
 let a <-MK;let o <-YK;let b <-MK
 Yo [59]
 pure ⟨o,a,b⟩
def Nk:M DX:=do Y7 [115,101,116];let a <-Yy;Yo [61];let t <-MK;Yo [59];pure ⟨a,t⟩
def UG:M Int:=do
 let b <-Yt 3 [43]
 if b then Yi 0 1048576 else do
  let b <-Yt 3 [45]
  if b then do let n <-Yi 0 1048576;pure (-n) else pure 0
def NX:M EB:=do let a <-Yy;Yo [61];let b <-Yy;let n <-UG;Yo [59];pure ⟨a,b,n⟩
def Ni:M HL:=do Y7 [109,97,121];let x <-P0;Yo [59];pure ⟨x.1,x.2⟩
def GN:Nat->M (List Int)
|0=>pure []
|n+1=>do let a <-Yi 0 9;let l <-GN n;pure (a::l)
def Qw:M (List Int):=GN 4
def OI(b:Nat):M (List B):=do let a <-Yy;let l <-X7 (Xz 3 [44]) (do Yo [44];Yy) (b-1);pure (a::l)
def XT:M C1:=do
 let b <-Yt 1 [110,117,109,98,101,114]
 if b then do
  let c <-Yi 0 1048576
  Y7 [116,111]
  let a <-Yi 0 1048576;let b <-Yt 1 [105,110]
  if b then do let n <-Yy;pure (.Fj c a (some n)) else pure (.Fj c a none)
 else do
  let b <-Yt 1 [100,97,116,101]
  if b then pure .Mh else do
   let b <-Yt 1 [112,101,114,115,111,110]
   if b then pure .Dc else do
    let b <-Yt 1 [99,104,111,105,99,101]
    if b then do let l <-OI 16;pure (.Eh l) else fail 100
def NF:M Field:=do Y7 [102,105,101,108,100];let n <-Yy;Yo [58];let t <-XT;let w <-Qw;Yo [59];pure ⟨n,t,w⟩
def Si:M CE:=do Y7 [100,101,112,101,110,100];let l <-OI 11;Y7 [103,105,118,101];let n <-Yy;Yo [59];pure ⟨l,n⟩
def QI(s:Bl):M Bl:=do
 Uk s.Aa.length 8
 Y7 [105,115,115,117,101,114]
 let a <-Yy
 Yo [59]
 pure {s with Aa:=s.Aa++[a] }
def Pw(s:Bl):M Bl:=do
 Uk s.Am.length 16
 Y7 [117,110,105,116]
 let a <-Yy;let b <-Yt 3 [61]
 if b then do
  let n <-Yi 2 1000;let o <-Yy
  Yo [59]
  pure {s with Am:=s.Am++[⟨a,some (n,o)⟩] }
 else do
  Yo [59]
  pure {s with Am:=s.Am++[⟨a,none⟩] }
def L8:Nat->Bt->M Bt
|0,_=>fail 0
|n+1,s=>do
 let b <-Yt 3 [125]
 if b then pure s else (Ev (Xz 1 [102,105,101,108,100]) (do Uk s.AL.length 12;let f <-NF;L8 n {s with AL:=s.AL++[f] }) (Ev (Xz 1 [100,101,112,101,110,100]) (do Uk s.Ac.length 8;let d <-Si;L8 n {s with Ac:=s.Ac++[d] }) (fail 100)))
def QJ(s:Bl):M Bl:=do
 Uk s.AE.length 16
 Y7 [115,99,104,101,109,97]
 let a <-Yy
 Y7 [98,121]
 let b <-Yy
 Y7 [118,101,114,115,105,111,110]
 let v <-Yi 1 255
 Y7 [115,101,108,102]
 let w <-Qw
 Yo [123]
 let x <-L8 21 ⟨a,b,v,[⟨[115,101,108,102],.Dc,w⟩],[]⟩
 pure {s with AE:=s.AE++[x] }
def P1(s:Bl):M Bl:=do
 Uk s.AT.length 16
 Y7 [100,101,114,105,118,101]
 let a <-Yy
 Yo [123]
 Ev (Xz 1 [102,114,111,109]) (do
  let f <-X7 (Xz 1 [102,114,111,109]) Hv 3;let w <-X7 (Xz 1 [119,104,101,114,101]) NM 8;let t <-X7 (Xz 1 [115,101,116]) Nk 11
  Yo [125]
  pure {s with AT:=s.AT++[⟨a,f,w,t⟩] }) (fail 100)
def P5(s:Bl):M Bl:=do
 Uk s.AM.length 16
 Y7 [99,111,110,118,101,114,116]
 let a <-Yy
 Y7 [116,111]
 let b <-Yy
 Yo [123]
 let l <-X7 (Xz 1 []) NX 11
 Yo [125]
 pure {s with AM:=s.AM++[⟨a,b,l⟩] }
def P9(s:Bl):M Bl:=do
 Uk s.AK.length 8
 Y7 [112,117,114,112,111,115,101]
 let a <-Yy
 Yo [123]
 let l <-X7 (Xz 1 [109,97,121]) Ni 32
 Y7 [109,111,115,116]
 let n <-Yi 0 32
 Yo [59]
 Yo [125]
 pure {s with AK:=s.AK++[⟨a,l,n⟩] }
def Ta(a:Int):List BH->Int
|[]=>a
|x::_=>x.pI
def SF(a:List BH)(e:Int):Int:=match a with
|[]=>100
|_=>e
abbrev pv(ts:List BH)(en:Int)(S:V):V:=.agg [.d (.AH 4 (ts.map BH.enc)),.d (.int .i64 en),S]
abbrev G0(en:Int)(ts:List BH)(e:Int):D:=.iface 59 (.agg [.int .i64 (Ta en ts),.int .i64 (SF ts e)])
abbrev pb(ts:List BH)(en:Int)(S:V):Ob:=.box 65 (pv ts en S)
def PK{g:Type}(K:BN->AF->Prop)(f:AF)(p:Nat)(c:Int)(S:V)(v:g->V):R g->Prop
|.ok a b=>K (.ret (v a)) (AG f p (pb b c S))
|.Bi b e=>K (.panic (.d (G0 c b e))) (AG f p (pb b c S))
section
variable {α β:Type} {K:BN->AF->Prop} {ob:AF} {p:Nat} {en:Int} {S:V} {v:α->V}
@[simp]def PK_ok(a:α)(b:List BH):PK K ob p en S v (.ok a b)=K (.ret (v a)) (AG ob p (pb b en S)):=rfl
@[simp]def PK_err(e:Int)(a:List BH):PK K ob p en S v (.Bi a e)=K (.panic (.d (G0 en a e))) (AG ob p (pb a en S)):=rfl
def PK.bind{g:BN->AF->Prop}{b:AF}{j:β->V}{m:M α}{f:α->M β}{c:List BH}(h:PK K ob p en S j ((m >>= f) c))
 (k:∀ts' e,K (.panic (.d (G0 en ts' e))) (AG ob p (pb ts' en S))->g (.panic (.d (G0 en ts' e))) (AG b p (pb ts' en S)))
 (l:∀a ts',m c=.ok a ts'->PK K ob p en S j (f a ts')->g (.ret (v a)) (AG b p (pb ts' en S))):PK g b p en S v (m c):=by
 rw[Xo]at h;cases i:m c with
 |ok a ts'=>rw[i]at h;exact l a ts' i h
 |Bi ts' e=>rw[i]at h;exact k ts' e h
end
def PK.tail{k:Type}{K g:BN->AF->Prop}{j c:AF}{p:Nat}{b:Int}{S:V}{v:k->V}{l:k->V}{m:M k}{f:List BH}(h:PK K j p b S l (m f))
 (n:∀ts' e,K (.panic (.d (G0 b ts' e))) (AG j p (pb ts' b S))->g (.panic (.d (G0 b ts' e))) (AG c p (pb ts' b S)))
 (o:∀a ts',m f=.ok a ts'->K (.ret (l a)) (AG j p (pb ts' b S))->g (.ret (v a)) (AG c p (pb ts' b S))):PK g c p b S v (m f):=by
 cases i:m f with
 |ok a ts'=>rw[i]at h;exact o a ts' i h
 |Bi ts' e=>rw[i]at h;exact n ts' e h
def xQ{q:Nat->Bool}:∀{ob:AF}{k E:Nat}{v:V},AI q ob=true->AB ob k=some (.box E v)->V.BQ q v=false
|(j,o)::r,k,E,v,h,a=>by
 simp only[AB]at a;split at a
 ·cases a;simp only[AI,BB,GK]at h;exact h.1
 ·refine xQ (ob:=r) ?_ a;cases o<;>simp_all[AI]
def Ca(n:Nat):((n:Int)+1=0)=False:=by simp;omega
def B7(n:Nat):(0<(n:Int)+1)=True:=by simp
attribute [local simp] Ca B7
def Xc{a b:AF}{p:Nat}{k ts':List BH}{c:Int}{S:V}(g:AB a p=some (pb k c S))(e:∀j,AI (AD (AA a) j) a=true){K:AF->Prop}{f:List V}(h:K (AG a p (pb ts' c S)))(i:BY (AD (AA a) []) f=false)(d:Xk (AD (AA a) []) b=AG a p (pb ts' c S)):Yk (AA a) K f b:=by
 refine⟨[],i,?_,?_⟩
 ·rw[d];refine Af _ _ _ _ _ (e _) ?_;have:=xQ (e []) g;simpa[pv]using this
 ·rw[d];exact h
@[simp]def DE.Cv(t:DE):t.enc.shape=.node [.AR,.AR,.AR,.AR,.AR]:=by cases t<;>simp[DE.enc,D.shape]
@[simp]def C1.Cv(t:C1):t.enc.shape=.node [.AR,.AR,.AR,.AR,.AR,.AR]:=by cases t<;>simp[C1.enc,Xg,D.shape]
def Xz7:∀{n:Nat}{c ts':List BH}{l:List Int},GN n c=.ok l ts'->l.length=n
|0,c,ts',l,h=>by cases h;rfl
|n+1,c,ts',l,h=>by
 simp only[GN,Xo]at h;cases e:Yi 0 9 c with
 |Bi a b=>rw[e]at h;cases h
 |ok a f=>
  rw[e]at h;cases d:GN n f with
  |Bi a b=>simp only[d]at h;cases h
  |ok g i=>
   simp only[d]at h;cases h;simp[Xz7 d]
def J7{e ts':List BH}{l:List Int}(h:Qw e=.ok l ts'):∃a b c d,l=[a,b,c,d]:=by
 have:=Xz7 h
 match l,this with
 |[a,b,c,d],_=>exact⟨a,b,c,d,rfl⟩
def dL{i:Type}{c:List BH->Bool}{d:M i}:∀{n:Nat}{e ts':List BH}{l:List i},X7 c d n e=.ok l ts'->l.length<=n
|0,e,ts',l,h=>by
 simp only[X7]at h;split at h
 ·cases h
 ·cases h;simp
|n+1,e,ts',l,h=>by
 simp only[X7]at h;split at h
 ·simp only[Xo]at h;cases g:d e with
  |Bi a b=>rw[g]at h;cases h
  |ok a j=>
   rw[g]at h;cases f:X7 c d n j with
   |Bi a b=>simp only[f]at h;cases h
   |ok k m=>
    simp only[f]at h;cases h;have:=dL f;simpa using this
 ·cases h;simp
def Xsi{n:Nat}{e ts':List BH}{l:List B}(h:OI n e=.ok l ts'):1<=l.length/\l.length<=n-1+1:=by
 simp only[OI,Xo]at h;cases d:Yy e with
 |Bi a b=>rw[d]at h;cases h
 |ok a f=>
  rw[d]at h;cases c:X7 (Xz 3 [44]) (do Yo [44];Yy) (n-1) f with
  |Bi a b=>simp only[c]at h;cases h
  |ok g i=>
   simp only[c]at h;cases h;have:=dL c;simpa using this
@[simp]def Dp.Cv(f:Dp):f.enc.shape=.node [.AR,.AR,.AR,.node [.AR,.AR,.AR,.AR,.AR]]:=by
 obtain⟨a,b,c⟩:=f;cases c<;>simp[Dp.enc,D.shape]
@[simp]def DV.Cv(f:DV):f.enc.shape=.node [.AR,.node [.AR,.AR,.AR,.AR,.AR],.node [.AR,.AR,.AR,.AR,.AR]]:=by simp[DV.enc,D.shape]
@[simp]def DX.Cv(f:DX):f.enc.shape=.node [.AR,.AR,.node [.AR,.AR,.AR,.AR,.AR]]:=by simp[DX.enc,D.shape]
@[simp]def EB.Cv(f:EB):f.enc.shape=.node [.AR,.AR,.AR,.AR,.AR]:=by simp[EB.enc,D.shape]
@[simp]def HL.Cv(f:HL):f.enc.shape=.node [.AR,.AR,.AR,.AR]:=by simp[HL.enc,D.shape]
abbrev nA(s:Bl):V:=.agg [.sl 5 s.Aa.length,.sl 6 s.Am.length,.sl 7 s.AE.length,.sl 8 s.AT.length,.sl 9 s.AM.length,.sl 10 s.AK.length]
abbrev Y7g:Ob:=.map [(.AU [105,115,115,117,101,114],.fn 20 [] []),(.AU [117,110,105,116],.fn 21 [] []),(.AU [115,99,104,101,109,97],.fn 22 [] []),(.AU [100,101,114,105,118,101],.fn 23 [] []),(.AU [99,111,110,118,101,114,116],.fn 24 [] []),(.AU [112,117,114,112,111,115,101],.fn 25 [] [])]
abbrev P3:D:=.agg [.Ad,.Ad,.Ad,.Ad,.Ad,.Ad]
abbrev GC(en:Int)(ts:List BH)(s:Bl):AF:=
 [(10,.BG 83 3 (s.AK.map B1.enc)),(9,.BG 80 5 (s.AM.map B0.enc)),(8,.BG 77 5 (s.AT.map DH.enc)),(7,.BG 72 6 (s.AE.map Bt.enc)),(6,.BG 94 5 (s.Am.map C2.enc)),(5,.BG 9 1 (s.Aa.map D.AU)),
  (4,pb ts en (nA s)),(3,Y7g),(2,.box 31 (.d (.int .i64 0))),(1,.box 3 (.d (.int .i64 0))),(0,.box 30 (.d P3))]
def PS(K:BN->AF->Prop)(b:Int):R Bl->Prop
|.ok s a=>K (.ret (.BT [])) (GC b a s)
|.Bi a e=>∀s,K (.panic (.d (G0 b a e))) (GC b a s)
def PS.bind{k:Type}{K i:BN->AF->Prop}{b:Int}{S:V}{c:AF}{v:k->V}{m:M k}{f:k->M Bl}{g:List BH}(h:PS K b ((m >>= f) g))
 (l:∀ts' e,(∀s,K (.panic (.d (G0 b ts' e))) (GC b ts' s))->i (.panic (.d (G0 b ts' e))) (AG c 4 (pb ts' b S)))
 (n:∀a ts',m g=.ok a ts'->PS K b (f a ts')->i (.ret (v a)) (AG c 4 (pb ts' b S))):PK i c 4 b S v (m g):=by
 rw[Xo]at h;cases j:m g with
 |ok a ts'=>rw[j]at h;exact n a ts' j h
 |Bi ts' e=>rw[j]at h;exact l ts' e h
def Xr{b:Int}{d:List BH}{s:Bl}{K:AF->Prop}{e:List V}{a:AF}(h:K (GC b d s))(f:BY (AD 11 []) e=false)(c:Xk (AD 11 []) a=GC b d s):Yk 11 K e a:=by
 refine⟨[],f,?_,?_⟩
 ·rw[c];simp[AD,Zd]
 ·rw[c];exact h
structure Iw(s:Bl):Prop where
 Aa:s.Aa.length<=8
 Am:s.Am.length<=16
 AE:s.AE.length<=16
 AT:s.AT.length<=16
 AM:s.AM.length<=16
 AK:s.AK.length<=8
attribute [local simp] Ca B7
section
variable {P:BA} (hPp:P.p=prog) {ob:AF} {p:Nat} {ts:List BH} {en:Int} {S:V} (hS:CA [S]=none) (hp:AB ob p=some (pb ts en S)) {K:BN->AF->Prop}
include hPp hS hp
theorem Ug(e:Int)(h:K (.panic (.d (G0 en ts e))) (AG ob p (pb ts en S))):AX P 26 [.ptr p [],.d (.int .i64 e)] ob K:=by
 refine AY hPp AQ Zsg Zpb A4.nil λ_ a=>?_;cases ts with
 |nil=>
  simp[Zfr,hp];exact Xc hp a (by simpa[G0,Ta,SF]using h) (by simp) (by simp[Yd hp])
 |cons t ts=>
  simp[Zfr,Ynu,hp,BH.enc];exact Xc hp a (by simpa[G0,Ta,SF]using h) (by simp) (by simp[Yd hp])
theorem L0(k:Int)(t:B)(h:K (.ret (.d (.bool (Xz k t ts)))) (AG ob p (pb ts en S))):AX P 74 [.ptr p [],.d (.int .i64 k),.d (.AU t)] ob K:=by
 refine AY hPp AQ Zte Zp8 A4.nil λ_ a=>?_;cases ts with
 |nil=>
  simp[Zfu,hp];exact Xc hp a (by simpa[Xz]using h) (by simp) (by simp[Yd hp])
 |cons x ts=>
  simp[Zfu,hp,BH.enc];exact Xc hp a (by simpa[Xz]using h) (by simp) (by simp[Yd hp])
theorem UI(k:Int)(t:B)(h:PK K ob p en S (λt=>.d t.enc) (LL k t ts)):AX P 164 [.ptr p [],.d (.int .i64 k),.d (.AU t)] ob K:=by
 refine AY hPp AQ Zc7 Y9d A4.nil λ_ b=>?_;simp[Y5w,hp];refine L0 hPp hS (ts:=ts) (en:=en) (S:=S) (by simp[hp]) _ _ ?_;simp[hp];refine⟨λa=>?_,λa=>?_⟩
 ·simp[LL,a]at h;refine Ug hPp hS (ts:=ts) (en:=en) (S:=S) (by simp[hp]) _ ?_;simp[hp];exact Xc hp b h (by simp) (by simp[hp])
 ·cases ts with
  |nil=>simp[Xz]at a
  |cons x ts=>
   simp[LL,a]at h;simp[Yet,hp,hS,BH.enc];exact Xc hp b h (by simp) (by simp[hp])
theorem Zt(h:PK K ob p en S (λt=>.d (.AU t)) (Yy ts)):AX P 69 [.ptr p []] ob K:=by
 refine AY hPp AQ Zs9 Zp3 A4.nil λ_ b=>?_;simp[Zns,hp];refine UI hPp hS hp _ _ ?_;refine PK.bind h (λts' e h=>?_) (λa ts' c h=>?_)
 ·simp;exact Xc hp b h (by simp) (by simp[hp])
 ·simp[BH.enc];exact Xc hp b h (by simp) (by simp[hp])
theorem Ws(t:B)(h:PK K ob p en S (λ_=>.BT []) (Y7 t ts)):AX P 68 [.ptr p [],.d (.AU t)] ob K:=by
 refine AY hPp AQ Zs8 Zp2 A4.nil λ_ b=>?_;simp[Znr,hp];refine UI hPp hS hp _ _ ?_;refine PK.bind h (λts' e h=>?_) (λa ts' c h=>?_)
 ·simp;exact Xc hp b h (by simp) (by simp[hp])
 ·simp[BH.enc];exact Xc hp b h (by simp) (by simp[hp])
theorem Yx(t:B)(h:PK K ob p en S (λ_=>.BT []) (Yo t ts)):AX P 70 [.ptr p [],.d (.AU t)] ob K:=by
 refine AY hPp AQ Zta Zp4 A4.nil λ_ b=>?_;simp[Znt,hp];refine UI hPp hS hp _ _ ?_;refine PK.bind h (λts' e h=>?_) (λa ts' c h=>?_)
 ·simp;exact Xc hp b h (by simp) (by simp[hp])
 ·simp[BH.enc];exact Xc hp b h (by simp) (by simp[hp])
theorem Zq(k:Int)(t:B)(h:PK K ob p en S (λb=>.d (.bool b)) (Yt k t ts)):AX P 71 [.ptr p [],.d (.int .i64 k),.d (.AU t)] ob K:=by
 refine AY hPp AQ Ztb Zp5 A4.nil λ_ c=>?_;simp[Znu,hp];refine L0 hPp hS hp _ _ ?_;simp[hp];refine⟨λa=>?_,λa=>?_⟩
 ·simp[Yt,a]at h;exact Xc hp c h (by simp) (by simp[hp])
 ·cases ts with
  |nil=>simp[Xz]at a
  |cons x ts=>
   simp[Yt,a]at h;simp[hp,hS];exact Xc hp c h (by simp) (by simp[hp])
theorem NO(a b:Nat)(h:PK K ob p en S (λ_=>.BT []) (Uk a b ts)):AX P 67 [.ptr p [],.d (.int .i64 a),.d (.int .i64 b)] ob K:=by
 refine AY hPp AQ Zs7 Zp1 A4.nil λ_ c=>?_;simp[Znq,hp];refine⟨λe=>?_,λe=>?_⟩
 ·simp[Uk,show a=b by omega]at h;refine Ug hPp hS hp _ ?_;simp;exact Xc hp c h (by simp) (by simp[hp])
 ·simp[Uk,show a≠b by omega]at h;exact Xc hp c h (by simp) (by simp[Yd hp])
end
attribute [local simp] Ca B7
attribute [local simp ↓] ql qn qo qi qh qj qk qm wg zy we wh wc zt zu zr zx zw qq qp qy qz zn zb qx qr zo qw qv qt zd zi zf zj zl zm wo wj wq wp qb qa qd qc qe qg qf zq zp
structure Ep(P:BA):Prop where
 AV:Bx P 0 (.agg [.int .i64 2,.int .i64 1000])
 AN:Bx P 1 (.agg [.int .i64 1,.int .i64 255])
 As:Bx P 2 (.agg [.int .i64 0,.int .i64 32])
 AP:Bx P 3 (.agg [.int .i64 0,.int .i64 9])
 A6:Bx P 4 (.agg [.int .i64 0,.int .i64 1048576])
section
variable {P:BA} (hPp:P.p=prog)
include hPp
theorem oL(b a n:Int){c:AF}{K:V->Prop}(h:K (.d (.bool (decide (b<=n)&&decide (n<=a))))):AW P 165 [.d (.agg [.int .i64 b,.int .i64 a]),.d (.int .i64 n)] c K:=by
 refine AJ hPp AQ (ds:=[.agg [.int .i64 b,.int .i64 a],.int .i64 n]) Zc8 Y9e A4.nil ?_;simp[Y5x];simpa using h
variable {ob:AF} {p:Nat} {ts:List BH} {en:Int} {S:V} (hS:CA [S]=none) (hp:AB ob p=some (pb ts en S)) {K:BN->AF->Prop}
include hS hp
theorem Z6(e c:Int)(h:PK K ob p en S (λn=>.d (.int .i64 n)) (Yi e c ts)):AX P 72 [.ptr p [],.d (.agg [.int .i64 e,.int .i64 c])] ob K:=by
 refine AY hPp AQ Ztc Zp6 A4.nil λ_ f=>?_;simp[Znv,hp,hS];refine L0 hPp hS (ts:=ts) (en:=en) (S:=S) (by simp[hp]) _ _ ?_;cases a:Xz 2 [] ts with
 |false=>
  simp[Yi,a]at h;simp[hp,hS];refine Ug hPp hS (ts:=ts) (en:=en) (S:=S) (by simp[hp]) _ ?_;simp[hp,hS];exact Xc hp f h (by simp) (by simp[hp])
 |true=>
  cases ts with
  |nil=>simp[Xz]at a
  |cons x ts=>
   simp[hp,hS,BH.enc];refine oL hPp _ _ _ ?_;by_cases g:e<=x.n/\x.n<=c
   ·simp[Yi,a,g]at h;simp[g,Yod,hp,hS];refine UI hPp hS (ts:=x::ts) (en:=en) (S:=S) (by simp[hp,BH.enc]) _ _ ?_;simp[LL,a,hp,hS,BH.enc];exact Xc hp f h (by simp) (by simp[hp])
   ·have b:(decide (e<=x.n)&&decide (x.n<=c))=false:=by simpa using g
    simp[Yi,a,Bool.and_assoc,b]at h;simp only[b];simp[hp,hS];refine Ug hPp hS (ts:=x::ts) (en:=en) (S:=S) (by simp[hp,BH.enc]) _ ?_;simp[hp,hS,BH.enc];exact Xc hp f h (by simp) (by simp[hp,BH.enc])
theorem nC(h:PK K ob p en S (λx=>.BT [.d (.AU x.1),.d (.AU x.2)]) (P0 ts)):AX P 169 [.ptr p []] ob K:=by
 refine AY hPp AQ Zdc Y9i A4.nil λ_ b=>?_;simp[Y51,hp,hS];refine Zt hPp hS (by simp[hp]) (PK.bind h (λts' e h=>?_) (λa ts' c h=>?_))
 ·simp;exact Xc hp b h (by simp) (by simp[hp])
 simp[hp,hS];refine Yx hPp hS (by simp[hp]) _ (PK.bind h (λts' e h=>?_) (λa ts' c h=>?_))
 ·simp;exact Xc hp b h (by simp) (by simp[hp])
 simp[hp,hS];refine Zt hPp hS (by simp[hp]) (PK.bind h (λts' e h=>?_) (λa ts' c h=>?_))
 ·simp;exact Xc hp b h (by simp) (by simp[hp])
 simp[hp,hS];exact Xc hp b h (by simp) (by simp[hp])
theorem Y4p(b:Ep P)(h:PK K ob p en S (λx=>.d x.enc) (NX ts)):AX P 85 [.ptr p []] ob K:=by
 refine AY hPp AQ Ztp Zqj A4.nil λ_ c=>?_;simp[Zn7,hp,hS,b.AV,b.AN,b.As,b.AP,b.A6];refine Zt hPp hS (by simp[hp]) (PK.bind h (λts' e h=>?_) (λa ts' f h=>?_))
 ·simp;exact Xc hp c h (by simp) (by simp[hp])
 simp[hp,hS,b.AV,b.AN,b.As,b.AP,b.A6];refine Yx hPp hS (by simp[hp]) _ (PK.bind h (λts' e h=>?_) (λa ts' f h=>?_))
 ·simp;exact Xc hp c h (by simp) (by simp[hp])
 simp[hp,hS,b.AV,b.AN,b.As,b.AP,b.A6];refine Zt hPp hS (by simp[hp]) (PK.bind h (λts' e h=>?_) (λa ts' f h=>?_))
 ·simp;exact Xc hp c h (by simp) (by simp[hp])
 simp[hp,hS,b.AV,b.AN,b.As,b.AP,b.A6];rw[UG,Yc]at h;refine Zq hPp hS (by simp[hp]) _ _ (PK.bind h (λts' e h=>?_) (λa ts' f h=>?_))
 ·simp;exact Xc hp c h (by simp) (by simp[hp])
 cases a
 ·skip
  simp only[BO,Bs,Bu,Yc,Y6]at h;simp[hp,hS,b.AV,b.AN,b.As,b.AP,b.A6];refine Zq hPp hS (by simp[hp]) _ _ (PK.bind h (λts' e h=>?_) (λa ts' f h=>?_))
  ·simp;exact Xc hp c h (by simp) (by simp[hp])
  cases a
  ·skip
   simp only[BO,Bs,Bu,Yc,Y6]at h;simp[hp,hS,b.AV,b.AN,b.As,b.AP,b.A6,gT];refine Yx hPp hS (by simp[hp]) _ (PK.bind h (λts' e h=>?_) (λa ts' f h=>?_))
   ·simp;exact Xc hp c h (by simp) (by simp[hp])
   simp[hp,hS,b.AV,b.AN,b.As,b.AP,b.A6];exact Xc hp c h (by simp) (by simp[hp])
  ·skip
   simp only[BO,Bs,Bu,Yc,Y6]at h;simp[hp,hS,b.AV,b.AN,b.As,b.AP,b.A6];refine Z6 hPp hS (by simp[hp]) _ _ (PK.bind h (λts' e h=>?_) (λa ts' f h=>?_))
   ·simp;exact Xc hp c h (by simp) (by simp[hp])
   simp[hp,hS,b.AV,b.AN,b.As,b.AP,b.A6,gT];have g:IntKind.i64.wrap (-a)=-a:=by have:=xX f;exact w_i _ (by omega)
   simp only[g];refine Yx hPp hS (by simp[hp]) _ (PK.bind h (λts' e h=>?_) (λa ts' f h=>?_))
   ·simp;exact Xc hp c h (by simp) (by simp[hp])
   simp[hp,hS,b.AV,b.AN,b.As,b.AP,b.A6];exact Xc hp c h (by simp) (by simp[hp])
 ·skip
  simp only[BO,Bs,Bu,Yc,Y6]at h;simp[hp,hS,b.AV,b.AN,b.As,b.AP,b.A6];refine Z6 hPp hS (by simp[hp]) _ _ (PK.bind h (λts' e h=>?_) (λa ts' f h=>?_))
  ·simp;exact Xc hp c h (by simp) (by simp[hp])
  simp[hp,hS,b.AV,b.AN,b.As,b.AP,b.A6,gT];refine Yx hPp hS (by simp[hp]) _ (PK.bind h (λts' e h=>?_) (λa ts' f h=>?_))
  ·simp;exact Xc hp c h (by simp) (by simp[hp])
  simp[hp,hS,b.AV,b.AN,b.As,b.AP,b.A6];exact Xc hp c h (by simp) (by simp[hp])
theorem Zfn(h:PK K ob p en S (λx=>.d x.enc) (Ni ts)):AX P 87 [.ptr p []] ob K:=by
 refine AY hPp AQ Ztr Zql A4.nil λ_ b=>?_;simp[Zn9,hp,hS];refine Ws hPp hS (by simp[hp]) _ (PK.bind h (λts' e h=>?_) (λa ts' c h=>?_))
 ·simp;exact Xc hp b h (by simp) (by simp[hp])
 simp[hp,hS];refine nC hPp hS (by simp[hp]) (PK.bind h (λts' e h=>?_) (λa ts' c h=>?_))
 ·simp;exact Xc hp b h (by simp) (by simp[hp])
 simp[hp,hS];refine Yx hPp hS (by simp[hp]) _ (PK.bind h (λts' e h=>?_) (λa ts' c h=>?_))
 ·simp;exact Xc hp b h (by simp) (by simp[hp])
 simp[hp,hS];exact Xc hp b h (by simp) (by simp[hp])
theorem Y4n(h:PK K ob p en S (λx=>.d x.enc) (Hv ts)):AX P 79 [.ptr p []] ob K:=by
 refine AY hPp AQ Ztj Zqd A4.nil λ_ b=>?_;simp[Zn1,hp,hS];refine Ws hPp hS (by simp[hp]) _ (PK.bind h (λts' e h=>?_) (λa ts' c h=>?_))
 ·simp;exact Xc hp b h (by simp) (by simp[hp])
 simp[hp,hS];refine Zt hPp hS (by simp[hp]) (PK.bind h (λts' e h=>?_) (λa ts' c h=>?_))
 ·simp;exact Xc hp b h (by simp) (by simp[hp])
 simp[hp,hS];refine Zt hPp hS (by simp[hp]) (PK.bind h (λts' e h=>?_) (λa ts' c h=>?_))
 ·simp;exact Xc hp b h (by simp) (by simp[hp])
 simp[hp,hS];refine Zq hPp hS (by simp[hp]) _ _ (PK.bind h (λts' e h=>?_) (λa ts' c h=>?_))
 ·simp;exact Xc hp b h (by simp) (by simp[hp])
 cases a
 ·skip
  simp only[BO,Bs,Bu,Yc,Y6]at h;simp[hp,hS,ti];refine Yx hPp hS (by simp[hp]) _ (PK.bind h (λts' e h=>?_) (λa ts' c h=>?_))
  ·simp;exact Xc hp b h (by simp) (by simp[hp])
  simp[hp,hS];exact Xc hp b h (by simp) (by simp[hp])
 ·skip
  simp only[BO,Bs,Bu,Yc,Y6]at h;simp[hp,hS];refine nC hPp hS (by simp[hp]) (PK.bind h (λts' e h=>?_) (λa ts' c h=>?_))
  ·simp;exact Xc hp b h (by simp) (by simp[hp])
  simp[hp,hS,ti];refine Yx hPp hS (by simp[hp]) _ (PK.bind h (λts' e h=>?_) (λa ts' c h=>?_))
  ·simp;exact Xc hp b h (by simp) (by simp[hp])
  simp[hp,hS];exact Xc hp b h (by simp) (by simp[hp])
end
end
end Go.Ab
