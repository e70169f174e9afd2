/- Calls that are computed once, and what the evaluator makes of them. Over the seat's program; no condition. -/
import Derived.Test.YtfedhegpmfkfoaaGreatDoorH9
set_option maxRecDepth 100000
set_option linter.unusedSimpArgs false
set_option linter.unusedVariables false
set_option linter.unusedSectionVars false
set_option linter.defProp false
namespace Go.Ab
open Go Go.Proofs
open Go.Proofs.Tryz (prog)
def KK(t:Cu):List UInt8:=if t.kind=2 then Lib.itoa t.n else t.Gd
def Vd:List Cu->List UInt8
|[]=>[]
|[t]=>KK t
|t::r=>KK t++32::Vd r
def Nz(l:List Cu):V:=if l.all EX then .BE [.d (.AM (Vd l)),.d (.int .i64 0)] else .BE [.d (.AM []),.d (.int .i64 90)]
def vp:∀(l:List Cu)(t:Cu),Vd (l++[t])=if l=[] then KK t else Vd l++32::KK t
|[],t=>rfl
|[a],t=>by simp[Vd]
|a::b::r,t=>by
 have h:=vp (b::r) t;simp only[List.cons_append,Vd]at h⊢;rw[h];simp
def Xi9(n:Nat):(Lib.decDigits n).length<=n+1/\Lib.decDigits n≠[]:=by
 refine⟨?_,by rw[Vr];simp⟩;induction n using Nat.strongRecOn with
 |ind n a=>
  rw[Vr];split
  ·simp
  ·have:=a (n / 10) (by omega);simp;omega
def vg:∀(k n:Nat),n<10 ^ (k+1)->(Lib.decDigits n).length<=k+1
|0,n,h=>by rw[Vr,BL (by omega)];simp
|k+1,n,h=>by
 rw[Vr];split
 ·simp
 ·have:=vg k (n / 10) (by rw[Nat.pow_succ]at h;omega);simp;omega
def R9{t:Cu}(h:EX t=true):KK t≠[]/\(KK t).length<=32:=by
 unfold EX at h;unfold KK;split at h
 next e=>rw[Af (by omega)];simp[Dq]at h;refine⟨λe=>?_,by omega⟩;simp[e]at h
 ·split at h
  next e=>rw[BL e];simp at h;obtain⟨N,a⟩:=Int.eq_ofNat_of_zero_le h.1.2;rw[a,Yco];exact⟨(Xi9 N).2,FA (vg 12 N (by omega)) (by decide)⟩
  ·rename_i e;rw[Af e];split at h
   ·simp at h;refine⟨λe=>?_,by omega⟩;simp[e]at h
   ·cases h
def dv:∀(l:List Cu),(∀t∈l,EX t=true)->(Vd l).length<=33*l.length
|[],_=>by simp[Vd]
|[t],h=>by have:=R9 (h t (by simp));simp[Vd];omega
|a::b::r,h=>by
 have e:=R9 (h a (by simp));have c:=dv (b::r) (λt d=>h t (by simp[d]));simp only[Vd,DV,List.length_cons]at c⊢;omega
def Ycp{l:List Cu}(h:∀t∈l,EX t=true)(c:l≠[]):Vd l≠[]:=by
 match l,c with
 |[t],_=>exact(R9 (h t (by simp))).1
 |a::b::r,_=>simp[Vd]
def xr{l:List Cu}{k:Nat}(a:k<l.length):l.take (k+1)=l.take k++[l[k]]:=(List.take_append_getElem a).symm
def GC(l:List Cu):Nat->AB
|0=>[(0,.box 311 (.d (.agg [.B1,.AT])))]
|k+1=>[(2,.A9 5 1 (A2 (Vd (l.take (k+1))))),(0,.box 311 (.agg [.ptr 0 [],.sl 2 (Vd (l.take (k+1))).length]))]
section
variable {P:Az} (hP:P.p=prog) (hG:NU P)
include hP hG
theorem Yse{a:D}{l:List Cu}(r:TD a l)(hl:l.length<=100000){ob:AB}{K:V->Prop}(h:K (Nz l)):AU P 99 [.d a] ob K:=by
 refine AJ hP AO (ds:=[a]) Zok Zkr BD.nil ?_;have G:∀x,x=Nz l->K x:=λb e=>e▸h;clear h;simp[Zhv,r.len,r.C2];refine Ae.go (ι:=Nat) (λk=>[(4,.ptr 0 []),(7,.d a),(8,.d (.int .i64 l.length)),(9,.d (.int .i64 k))]) (GC l) (λk=>k<=l.length/\∀t∈l.take k,EX t=true) (λk=>l.length-k) 0 ⟨by omega,by simp⟩ (by simp) rfl ?_;have F:IntKind.i64.wrap 1=1:=w_i _ (by omega);rintro k ⟨hk,s⟩ R H re Z _;by_cases f:k<l.length
 ·have hL:=dv _ s;have hT:(l.take k).length<=100000:=by simp;omega
  have W:k≠0->l.take k≠[]:=λh e=>by
   rcases List.take_eq_nil_iff.1 e with Q|Q
   ·exact h Q
   ·rw[Q]at f;simp at f
  have T:=w_s k (by omega);have o:EX l[k]=true->∀t∈l.take (k+1),EX t=true:=by
   intro c t p;rw[xr f]at p;rcases DF.1 p with p|p
   ·exact s t p
   ·rw[DW.1 p];exact c
  have X:EX l[k]=true->l[k].kind=2->0<=l[k].n/\l[k].n<=9223372036854775807/\Lib.itoa l[k].n=KK l[k]:=by
   intro c e;unfold EX at c;rw[Af (by omega),BL e]at c;simp at c;exact⟨c.1.2,by omega,by rw[KK,BL e]⟩
  have Y:l[k].kind≠2->l[k].Gd=KK l[k]:=λe=>by rw[KK,Af e]
  have m:=vp (l.take k) l[k];rw[<-xr f]at m;have q:EX l[k]=false->V.BE [.d (.AM []),.d (.int .i64 90)]=Nz l:=by
   intro c;rw[Nz,Af];rw[DQ];intro hA;have:=hA l[k] (CS f);rw[c]at this;cases this
  cases k with
  |zero=>
   rw[BL (by simp)]at m;have i:=r.Fl (k:=.i64) f;simp only[Int.natCast_zero]at i;simp[gJ,r.HM,GC,f,i,Cu.enc];refine Hx hP l[0] ?_;simp;refine⟨λc=>Z _ _ ?_,λc=>?_⟩
   ·simp;exact G _ (q c)
   ·have hw:=R9 c;simp[Xzw];refine⟨λe=>?_,λe=>?_⟩
    ·obtain⟨J,L,M⟩:=X c e;refine KN hP hG _ J L ?_;rw[M];refine NC hP (by simp) (by omega) ?_;simp[VN,T];rw[F];refine H [2] 1 _ _ ⟨by omega,o c⟩ (by omega) (by simp) ?_ (by simp[GC,AE,fresh]) (by simp[GC,AE,fresh]);simp only[JG]at m;simp[GC,AE,fresh,m]
    ·rw[Y e];refine NC hP (by simp) (by omega) ?_;simp[VN,T];rw[F];refine H [2] 1 _ _ ⟨by omega,o c⟩ (by omega) (by simp) ?_ (by simp[GC,AE,fresh]) (by simp[GC,AE,fresh]);simp only[JG]at m;simp[GC,AE,fresh,m]
  |succ k=>
   rw[Af (W (by omega))]at m;have i:=r.Fl (k:=.i64) f;have w:(k:Int)+1<l.length:=by omega
   have O:(0:Int)<(k:Int)+1:=by omega
   have u:(0:Int)<=(k:Int)+1:=by omega
   rw[show((k+1:Nat):Int)=(k:Int)+1 from rfl]at i;simp[gJ,r.HM,GC,f,w,O,u,i,Cu.enc];refine Hx hP l[k+1] ?_;simp;refine⟨λc=>Z _ _ ?_,λc=>?_⟩
   ·simp;exact G _ (q c)
   ·have hw:=R9 c;have j:=CE (Vd (l.take (k+1)));refine oc hP (x:=0) (y:=2) (l:=A2 (Vd (l.take (k+1)))) (by simp[j]) (by simp) (by omega) ?_;simp[Xzw];have N:A2 (Vd (l.take (k+1)))++[D.int .u8 32]=A2 (Vd (l.take (k+1))++[32]):=by rw[DG];rfl
    have g:=CE (Vd (l.take (k+1))++[32]);rw[DV]at g;rw[N,j];have v:IntKind.i64.wrap ((k:Int)+1+1)=(k:Int)+1+1:=T;refine⟨λe=>?_,λe=>?_⟩
    ·obtain⟨J,L,M⟩:=X c e;refine KN hP hG _ J L ?_;rw[M];refine TM hP (x:=0) (y:=2) (l:=A2 (Vd (l.take (k+1))++[32])) (by simp[g]) (by simp) (by simp[g];omega) ?_;simp[VN,v];refine H [] (k+2) _ _ ⟨by omega,o c⟩ (by omega) ?_ ?_ (by simp[GC,AE,fresh]) (by simp[GC,AE,fresh])
     ·simp;omega
     ·simp[GC,AE,fresh,m,DG,A2,j];omega
    ·rw[Y e];refine TM hP (x:=0) (y:=2) (l:=A2 (Vd (l.take (k+1))++[32])) (by simp[g]) (by simp) (by simp[g];omega) ?_;simp[VN,v];refine H [] (k+2) _ _ ⟨by omega,o c⟩ (by omega) ?_ ?_ (by simp[GC,AE,fresh]) (by simp[GC,AE,fresh])
     ·simp;omega
     ·simp[GC,AE,fresh,m,DG,A2,j];omega
 ·have U:k=l.length:=by omega
  subst U;simp at s;have p:Nz l=.BE [.d (.AM (Vd l)),.d (.int .i64 0)]:=by rw[Nz,BL (DQ.2 s)]
  have hL:=dv _ s;simp[gJ];refine re _ _ _ ?_;simp;cases z:l.length with
  |zero=>
   have:l=[]:=Nd.1 z;subst this;refine TJ hP (by simp[GC]) ?_;simp;exact G _ p.symm
  |succ n=>
   refine oZ hP (x:=0) (y:=2) (t:=Vd l) (by simp[GC,<-z]) (by simp[GC,<-z]) (Ycp s (λe=>by rw[e]at z;cases z)) (by omega) ?_;simp;exact G _ p.symm
end
def S.NQ:S->List (Nat×List Nat×S×S)
|.seq a b=>a.NQ++b.NQ
|.cond _ a b=>a.NQ++b.NQ
|.block _ a=>a.NQ
|.loop _ a=>a.NQ
|.E4 c d _ x y _=>[(c,d,x,y)]
|_=>[]
def NY{P:Az}:∀s:S,(∀t∈s.NQ,V7 P t.1 t.2.1 t.2.2.1 t.2.2.2)->s.loops P
|.seq a b,h=>⟨NY a λt c=>h t (List.mem_append_left _ c),NY b λt c=>h t (List.mem_append_right _ c)⟩
|.cond _ a b,h=>⟨NY a λt c=>h t (List.mem_append_left _ c),NY b λt c=>h t (List.mem_append_right _ c)⟩
|.block _ a,h=>NY a h
|.loop _ a,h=>NY a h
|.E4 d e _ x y _,h=>h (d,e,x,y) (DW.2 rfl)
|.rg _ _ _ _,_|.E3 _ _ _ _,_|.skip,_|.exit _,_|.ret,_=>trivial
def xP{p:Nat->FI->Bool}:∀{F:FT}{f:Nat}{x:FI},F.all (λe=>p e.1 e.2)=true->Vo F f=some x->p f x=true
|[],_,_,_,h=>by cases h
|(j,y)::r,f,x,a,h=>by
 simp only[List.all_cons,As]at a;simp only[Vo,Cl]at h;split at h
 next e=>cases h;have:=CN e;subst this;exact a.1
 ·exact xP a.2 h
def jB:D->Option Cu
|.agg [.int .i64 k,.AM t,.int .i64 n,.int .i64 a]=>some ⟨k,t,n,a⟩
|_=>none
def XV:List D->Option (List Cu)
|[]=>some []
|x::r=>match jB x,XV r with
 |some t,some l=>some (t::l)
 |_,_=>none
def Yjn{x:D}{t:Cu}(h:jB x=some t):x=t.enc:=by
 unfold jB at h;split at h
 ·cases h;rfl
 ·cases h
def zM:∀{a:List D}{l:List Cu},XV a=some l->a=l.map Cu.enc
|[],l,h=>by cases h;rfl
|x::r,l,h=>by
 unfold XV at h;split at h
 next t d b c=>cases h;rw[Yjn b,zM c];rfl
 ·cases h
def Yz2:D->Option V
|.AF 4 a=>match XV a with
 |some l=>if l.length<=100000 then some (Nz l) else none
 |none=>none
|_=>none
def nw(s:List UInt8):V:=if s.length > 65536 then .BE [.d .AT,.d (.int .i64 0),.d (.int .i64 2)] else oS (OB s.length s 0)
def Ycx(s:List UInt8):nw s=S4 s:=by
 have e:=gh s.length s 0 (BV _);unfold nw S4;rw[e]
def pw(f:Nat)(a:List V):Option V:=match a with
|[.d (.AM s)]=>bif Nat.beq f 72 then some (nw s) else none
|[.d x]=>bif Nat.beq f 99 then Yz2 x else none
|_=>none
def ZC(g:Nat):Option D:=
 bif Nat.beq g 0 then some (.agg [.int .i64 2,.int .i64 1000]) else
 bif Nat.beq g 1 then some (.agg [.int .i64 1,.int .i64 255]) else
 bif Nat.beq g 2 then some (.agg [.int .i64 0,.int .i64 32]) else
 bif Nat.beq g 3 then some (.agg [.int .i64 0,.int .i64 9]) else
 bif Nat.beq g 4 then some (.agg [.int .i64 0,.int .i64 1048576]) else none
def px(f:Nat)(b:List V)(a:AB):Option (V×AB):=match b with
|[.d x]=>WE f x a WG
|_=>none
def D7(k:Nat):Option (List Nat×S×S):=
 bif Nat.beq k 119 then some ([7],Cb,Cc) else none
def xz:C1:=⟨λ_ _ _=>none,λf a _=>pw f a,λ_=>false,ZC,λ_ _ _=>none,D7,px⟩
structure JB(P:Az):Prop where
 Fk:Bj P 0 (.agg [.int .i64 2,.int .i64 1000])
 Er:Bj P 1 (.agg [.int .i64 1,.int .i64 255])
 Ka:Bj P 2 (.agg [.int .i64 0,.int .i64 32])
 Fv:Bj P 3 (.agg [.int .i64 0,.int .i64 9])
 oX:Bj P 4 (.agg [.int .i64 0,.int .i64 1048576])
abbrev GI(P:Az):Prop:=V7 P 119 [7] Cb Cc
section
variable {P:Az} (hP:P.p=prog) (hI:JB P) (hG:NU P) (hL:GI P)
include hP hI hL
theorem Y0b(g:Nat)(x:D)(h:ZC g=some x):Bj P g x:=by
 simp only[ZC,Cl]at h;split at h
 next e=>cases h;rw[CN e];exact hI.Fk
 split at h
 next e=>cases h;rw[CN e];exact hI.Er
 split at h
 next e=>cases h;rw[CN e];exact hI.Ka
 split at h
 next e=>cases h;rw[CN e];exact hI.Fv
 split at h
 next e=>cases h;rw[CN e];exact hI.oX
 ·cases h
theorem z6(a:Nat)(b:List Nat)(x y:S)(h:D7 a=some (b,x,y)):V7 P a b x y/\x.DC=true/\y.DC=true:=by
 simp only[D7,Cl]at h;split at h
 next e=>cases h;rw[CN e];exact⟨hL,by kernel_rfl,by kernel_rfl⟩
 ·cases h
theorem Xwh:FT.KY P Qg:=by
 intro f x h;have a:=xP (p:=λf x=>Nat.beq f 119||x.nr) (F:=Qg) (by kernel_rfl) h;simp only[MW]at a;rcases a with e|e
 ·rw[CN e]at h;have c:Vo Qg 119=some (.pr PW [.t 4] 2):=by kernel_rfl
  rw[c]at h;cases h;refine NY PW λt b=>?_;have d:PW.NQ=[(119,[7],Cb,Cc)]:=by kernel_rfl
  rw[d]at b;rw[DW.1 b];exact hL
 ·exact x.Ft e
include hG
theorem Zbf:xz.ok P:=by
 refine⟨λ_ _ _ _ _ h=>(by cases h),λf g d v h=>?_,λf h=>(by cases h),Y0b hP hI hL,λ_ _ _ _ _ h=>(by cases h),λf g d v b h=>?_⟩
 ·simp only[xz]at h;unfold pw at h;split at h
  ·rename_i s;rw[Cl]at h;split at h
   next e=>cases h;rw[CN e,Ycx];exact Y18 hP s rfl
   ·cases h
  ·rename_i x _;rw[Cl]at h;split at h
   ·rename_i e;rw[CN e];unfold Yz2 at h;split at h
    ·rename_i i;split at h
     ·rename_i l c;split at h
      next a=>cases h;rw[zM c];exact Yse hP hG (l:=l) (.inl rfl) a rfl
      ·cases h
     ·cases h
    ·cases h
   ·cases h
  ·cases h
 ·simp only[xz]at h;unfold px at h;split at h
  ·exact wR hP WG X03 h
  ·cases h
end
structure CR where
 f:Nat
 xs:List D
 v:V
def XJ(f:Nat)(a:List D):List CR->Option V
|[]=>none
|e::r=>bif Nat.beq f e.f&&D.B8 a e.xs then some e.v else XJ f a r
def Ph(f:Nat)(l:List CR):Option (List D)->Option V
|some a=>XJ f a l
|none=>none
def QD(l:List CR)(f:Nat)(a:List V):Option V:=match Ph f l (Bt a) with
|some v=>some v
|none=>pw f a
def CQ(l:List CR):C1:=⟨λ_ _ _=>none,λf a _=>QD l f a,λ_=>false,ZC,λ_ _ _=>none,D7,px⟩
section
variable {P:Az} (hP:P.p=prog) (hI:JB P) (hG:NU P) (hL:GI P)
include hP hI hG hL
theorem Yp9:(CQ []).ok P:=by
 have h:=Zbf hP hI hG hL;refine⟨h.call,λf c d v a=>?_,h.ca,h.gl,h.yd,h.xc⟩;refine h.pc f c d v ?_;simp only[CQ,QD]at a;cases b:Bt c with
 |none=>rw[b]at a;exact a
 |some e=>rw[b]at a;exact a
theorem Xx{l:List CR}{e:CR}(h:(CQ l).ok P)(o:∀g,(DN 3000 Qg (CQ l) 40).pc e.f (e.xs.map .d) g=some e.v):(CQ (e::l)).ok P:=by
 have n:=SB (P:=P) (L:=3000) (F:=Qg) (by rw[hP];exact AO) (by rw[hP];exact tp) (Xwh hP hI hL) h (z6 hP hI hL) 40;refine⟨h.call,λf j g v b=>?_,h.ca,h.gl,h.yd,h.xc⟩;have i:(QD l f j=some v)->AU P f j g λp=>p=v:=λb=>h.pc f j g v b;simp only[CQ]at b;unfold QD at b;split at b
 ·rename_i u a;cases b;cases c:Bt j with
  |none=>rw[c]at a;cases a
  |some m=>
   rw[c]at a;simp only[Ph,XJ,Cl]at a;split at a
   next k=>cases a;simp only[As]at k;rw[V.Bi c,CN k.1,D.By _ _ k.2];exact n.pc _ _ g _ (o g)
   ·refine i ?_;unfold QD;rw[c];simp only[Ph,a]
 ·rename_i a;refine i ?_;unfold QD;cases c:Bt j with
  |none=>simp only[Ph];exact b
  |some m=>
   rw[c]at a;simp only[Ph,XJ,Cl]at a;split at a
   ·cases a
   ·simp only[Ph,a];exact b
end
end Go.Ab
