/- Joined texts, part 7 of 13. The same statements with their regions folded into expressions, printed by the fold itself; that they are that is checked by the kernel. No condition. -/
import Derived.Test.YtghnkpkellnmdaaGreatDoorI4
import Derived.Test.YtghnkpkellnmdaaGreatDoorI5
import Derived.Test.YtghnkpkellnmdaaGreatDoorI6
import Derived.Test.YtghnkpkellnmdaaGreatDoorProg
import Derived.KernelRfl
set_option maxRecDepth 100000
set_option linter.unusedSimpArgs false
set_option linter.unusedVariables false
set_option linter.unusedSectionVars false
set_option linter.defProp false
namespace Go.Ab
open Go Go.Proofs
open Go.Proofs.Tryz (prog)
variable {P:BA}(hP:P.p=prog)
def QM(n:Nat)(b:List RV)(K:BN->AF->Prop):Zi
|.panic _,_,_=>False
|e,c,a=>JF n b K e c a
section
variable {n k:Nat} {sl:Xe} {ob:AF} {v:V}
@[simp]def callNR_r(b:List RV)(a:BN->AF->Prop):QM n b a .ret sl ob=Qe sl ob b λc=>Yk n (a (.ret (Qt c))) c ob:=by simp only[QM,JF]
@[simp]def callNR_p(b:List RV)(a:BN->AF->Prop):QM n b a (.panic v) sl ob=False:=by simp only[QM]
end
section
def Xn5{P:BA}(Q:P.p.follows .mixedOrders=true){f:Nat}{s:S}{rs:List RV}{q:List V}{G:AF}{K:BN->AF->Prop}(J:K8 P.p f q.length s rs=true)
 (h:Dj P s (QM (AA G) rs K) (EK 0 q) G):AX P f q G K:=by
 unfold K8 at J;split at J
 ·rename_i fn hf;split at J
  ·rename_i O hb;simp only[BB,DK]at J;obtain⟨⟨hn,y⟩,h2⟩:=J;refine⟨λw u j hO hg Y=>callsIn_wide.1 (callsIn_of_wp_marks (n:=0) hf hb trivial ?_)⟩;let c:Dz:=⟨w,FD u,fn.ntmps,[],P.g,u.m,[],true⟩
   have ag:j.length=q.length:=by simpa using Zm Y
   have m:DM c u.xo u (EK 0 q) G {tmps:=j.toArray++Array.replicate (fn.ntmps-j.toArray.size) undef,defers:=[] } w:=by
    refine⟨⟨Bg _,λ_ _ _=>rfl,λb h=>.inr h,rfl,rfl,rfl,λid o h=>⟨o,h,.refl o⟩,(λp hp=>by cases hp),Bg _⟩,hO,?_,?_,FA.nil,rfl,hg⟩
    ·refine P4 Y 0 _ (λi hi=>?_);simp[M5,hi]
    ·simp[c];omega
   refine wpIn_mono (Yz (rd:=none) Q rfl O s _ _ _ u _ w y (.inr ⟨rfl,rfl⟩) h m) ?_;rintro e a' L ⟨ae,af,k,d,N,he,a⟩;have ad:∀F id o,u.m id=some o->AD (AA G) F id=false:=λF id o h0=>by
    obtain⟨x,hx⟩:=hO.EY id o h0;have ac:¬AA G<=id:=λab=>by rw[X9 _ _ ab]at hx;cases hx
    simp[AD,ac]
   have z:Qe af k rs (λq=>Yk (AA G) (K (.ret (Qt q))) q k)->LeavesInM Fence.wide 0 P.p fn a'.tmps (λe L=>∃X k d,K X k/\Vz L d e X/\OM L d k/\Tr w u L d) a'.defers .returning L:=by
    intro N;obtain⟨ms,q1,_,q3,q4⟩:=a.df;have q1:a'.defers=ms.map Hi:=by rw[q1];simp[c]
    rw[q1];refine Jw ms L q3 (λr Y=>(q4 r Y).2.1) (λZ sm hs=>?_);have aa:∀b o,d.gl b=some o->Z.heap[b]? = L.heap[b]?:=λb o hb=>hs b (λQ=>by
     have H:=(hO.EF b o (by rw[hg,<-show d.gl=P.g from a.gl];exact hb)).1;have:=(q4 b Q).1;have:=Xl H;show False;simp only[c]at *;omega)
    have W:=OM.same sm a.om aa;have tr:∀{l:A9},Tr Z d Z l->∀F,Tr w u Z (l.CY (AD (AA G) F)):=λ{l} t F=>by
     refine⟨by rw[sm.size];exact a.A1.size,λb y h2=>(hs b (λQ=>by have:=(q4 b Q).1;simp only[c]at this;omega)).trans (a.A1.keep b h2 y),λb y=>?_,?_,?_,λid o y=>?_,sm.tape.trans a.A1.tape,sm.os.trans a.A1.os,sm.Ck.trans a.A1.Ck,by rw[sm.drawn];exact a.A1.drawn⟩
     ·rcases t.DF b (W2 y) with H|H
      ·exact(a.A1.DF b H).symm
      ·exact .inr (IQ (by rw[sm.size];exact a.A1.size) H)
     ·show l.xo=u.xo;rw[t.xo,a.xo]
     ·show l.gl=u.gl;rw[t.gl,a.gl,hg]
     ·obtain⟨o1,H,h4⟩:=a.A1.same id o y;obtain⟨o2,h5,h6⟩:=t.same id o1 H;exact⟨o2,by simp only[A9.CY,ad F id o y];exact h5,h4.trans h6⟩
    obtain⟨q,us,hk,T,U⟩:=Ub (P:=P.p) (fn:=fn) (SM.same sm a.sm) W h2 N;obtain⟨F,k1,k2,k3⟩:=hk;exact⟨I5 us,U,.ret (Qt q),_,_,k3,J2 (de k1 T),W.CY k2,tr (Tr.refl _ _) F⟩
   cases ae with
   |normal=>
    cases e<;>simp only[Dx]at he;exact z N
   |ret=>
    cases e<;>simp only[Dx]at he;exact z N
   |exit n=>cases N
   |panic v=>cases N
  ·simp at J
 ·simp at J
end
section
variable {P:BA} {T:DD} {sl slk:Xe} {ob:AF} {KO PO:V->AF->Prop} {KV:V->Prop}
@[simp]def iwp_rng(x:A):I.wp P sl ob KO PO (.Km x)=MS ob KO (x.ev sl) (AB ob (RT (x.ev sl))):=by simp only[I.wp]
@[simp]def iwp_nxt(x:A):I.wp P sl ob KO PO (.Lk x)=No ob KO (x.ev sl):=by simp only[I.wp]
@[simp]def iwp_ety(x:A):I.wp P sl ob KO PO (.Kb x)=Nd ob (λv=>KO v ob) (x.ev sl):=by simp only[I.wp]
@[simp]def iwp_lenM(x:A):I.wp P sl ob KO PO (.FG x)=LD ob (λv=>KO v ob) (x.ev sl):=by simp only[I.wp]
@[simp]def iwp_xcall(f:Nat)(l:List A):I.wp P sl ob KO PO (.CQ f l)=Cm P f (l.map (A.ev sl)) ob KO:=by simp only[I.wp]
@[simp]def mpId_mp(id:Nat):RT (.mp id)=id:=rfl
@[simp]def rngK_mp(id:Nat)(a:List (D×V)):MS ob KO (.mp id) (some (.map a))=KO (.hd false (AA ob)) ((AA ob,.it (some id) a.length [])::ob):=by simp only[MS]
@[simp]def nxtK_hd(id:Nat):No ob KO (.hd false id)=MH ob id KO (AB ob id):=by simp only[No]
@[simp]def nxtKo_n(id n:Nat)(l:List Nat):MH ob id KO (some (.it none n l))=KO (.BT [.d (.bool false)]) ob:=by simp only[MH]
@[simp]def nxtKo_s(id j n:Nat)(l:List Nat):MH ob id KO (some (.it (some j) n l))=Pz ob id j n l KO (AB ob j):=by simp only[MH]
@[simp]def nxtKm_m(id j n:Nat)(seen:List Nat)(a:List (D×V)):Pz ob id j n seen KO (some (.map a))=(a.length=n/\((List.range n).all (λi=>seen.contains i)=true->KO (.BT [.d (.bool false)]) ob)/\
 ∀i,i<n->seen.contains i=false->KO (.BT [.d (.bool true),.d (a.getD i default).1,(a.getD i default).2]) (AG ob id (.it (some j) n (seen++[i])))):=by simp only[Pz]
@[simp]def entK_hd(id:Nat):Nd ob KV (.hd false id)=Pu ob KV (AB ob id):=by simp only[Nd]
@[simp]def entKo_s(j n:Nat)(l:List Nat):Pu ob KV (some (.it (some j) n l))=(l≠[]/\Pt (l.getLastD 0) n KV (AB ob j)):=by simp only[Pu]
@[simp]def entKm_m(i n:Nat)(a:List (D×V)):Pt i n KV (some (.map a))=(i<n/\a.length=n/\KV (.BT [.d (a.getD i default).1,(a.getD i default).2])):=by simp only[Pt]
@[simp]def lenMK_mp(id:Nat):LD ob KV (.mp id)=Px KV (AB ob id):=by simp only[LD]
@[simp]def lenMo_m(a:List (D×V)):Px KV (some (.map a))=KV (.d (.int .i64 a.length)):=by simp only[Px]
@[simp]def callvK_hd(a:List V)(id:Nat):V2 P a ob KO PO (.hd true id)=(S7 (AB ob id)/\Cz P id a ob (Fs KO PO)):=by simp only[V2]
@[simp]def isLp_s(a:Nat)(b:Gu):S7 (some (.lp a b sl))=True:=by simp only[S7]
@[simp]def cwp2_rgf(b:Nat)(c:List Nat)(g:A)(x y:S)(a:List Nat)(Q:Zi):Zb P T (.IJ b c g x y a) Q sl ob=(OJ P b c x y/\Mr P b (Xy sl a) ob Q (g.ev sl)):=by simp only[Zb]
@[simp]def rgK_fn(a f:Nat)(c b:List V)(Q:Zi):Mr P a slk ob Q (.fn f c b)=(Xd P.p f=true/\AX P f (c++[.hd true (AA ob)]++b) ((AA ob,.lp a .ready slk)::ob) (Ll Q slk (AA ob))):=by simp only[Mr]
@[simp]def rgQ_r(v:V)(id:Nat)(Q:Zi):Ll Q slk id (.ret v) ob=Rj Q slk id ob (AB ob id):=by simp only[Ll]
@[simp]def rgE_n(a id:Nat)(Q:Zi):Rj Q slk id ob (some (.lp a .ready sl))=Q .normal slk (AG ob id .An):=by simp only[Rj]
variable {K:BN->AF->Prop}
@[simp]def rdE_s(id n a:Nat)(c b:Gu)(K:AF->Prop):N2 id n c ob K (some (.lp a b slk))=Yk n K [] (AG ob id (.lp a c slk)):=by simp only[N2]
@[simp]def rdQ_n(id n:Nat):Ts id n K .normal sl ob=N2 id n .ready ob (K (.ret (.d (.bool true)))) (AB ob id):=by simp only[Ts]
@[simp]def bindS_nil(a:List V):JE sl [] a=sl:=by simp only[JE]
@[simp]def bindS_cons(p:Nat)(a:List Nat)(v:V)(b:List V):JE sl (p::a) (v::b)=JE ((p,v)::sl) a b:=by simp only[JE]
end
def S8(P:BA)(T:DD)(y:S2)(id n:Nat)(K:BN->AF->Prop)(d:Xe)(c:AF):Option Ob->Prop
|some (.lp b .ready a)=>Zb P T y (Ts id n K) d (AG c id (.lp b .busy a))
|_=>False
def XD(P:BA)(T:DD)(y:S2)(id n:Nat)(K:BN->AF->Prop):Zi
|.normal,b,a=>S8 P T y id n K b a (AB a id)
|_,_,_=>False
section
variable {P:BA} {T:DD} {sl slk:Xe} {ob:AF} {K:BN->AF->Prop}
@[simp]def rdA2_n(y:S2)(id n:Nat):XD P T y id n K .normal sl ob=S8 P T y id n K sl ob (AB ob id):=by simp only[XD]
@[simp]def rdB2_s(y:S2)(id n a:Nat):S8 P T y id n K sl ob (some (.lp a .ready slk))=Zb P T y (Ts id n K) sl (AG ob id (.lp a .busy slk)):=by simp only[S8]
end
def Cz.AZ{P:BA}{p:Program}(q:P.p=p)(t:p.follows .mixedOrders=true){T:DD}(i:A4 P T){id b:Nat}{f l d:List Nat}{x y:S}{j k:S2}{slk:Xe}{c:AF}{g:List V}{K:BN->AF->Prop}(m:OJ P b f x y)
 (u:x.AZ l=some j) (w:y.AZ d=some k) (r:AB c id=some (.lp b .ready slk)) (a:g.length=f.length) (h:Zb P T j (XD P T k id (AA c) K) (JE slk f g) c):Cz P id g c K:=by
 subst q;refine Cz.of t m r a (S.BK i x u (λe s o h=>?_) h);cases e with
 |normal=>
  simp only[XD]at h;simp only[rV];generalize AB o id=z at h⊢;unfold S8 at h;unfold rW;split at h
  ·exact S.BK i y w (λ_ _ _ h=>h) h
  ·cases h
 |exit n=>cases h
 |ret=>cases h
 |panic v=>cases h
def IP{P:BA}{f E z n:Nat}{ds X:List D}{g:AF}{K:V->AF->Prop}(h:AX P f (ds.map .d) [] λo b=>o=.ret (.sl 0 n)/\b=[(0,.Ay E z (X.map .d))])(hK:K (.sl (AA g) n) ((AA g,.Ay E z (X.map .d))::g)):Cm P f (ds.map .d) g K:=by
 refine⟨λw G F J hg hr=>?_⟩;let s:A9:=⟨λ_=>none,CH G,G.gl⟩
 have v:∀b,¬FD s b:=λb ⟨_,_,h,_⟩=>by cases h
 have W:CH s=CH G:=by
  funext b;exact propext ⟨λh=>h.elim (λh=>(v b h).elim) id,λh=>.inr h⟩
 have ab:∀b,CH G b->b<w.heap.size:=λb h=>h.elim (λ⟨_,_,a,c⟩=>Qa J a c) (J.E9 b);have Z:OM w s []:=⟨λj x y=>(by simp[AB]at y),λj o hj=>(by cases hj),λi j o p b hi=>(by cases hi),ab,λb o k=>⟨(J.EF b o k).1,by rw[W];exact(J.EF b o k).2⟩,λb k=>absurd k (v b),trivial⟩
 have ac:V.A8 w s (ds.map .d) F:=by
  rw[QY]at hr⊢;rw[W];exact hr
 refine(h.run w s F Z hg ac).mono λe L ⟨af,ae,q,⟨e1,e2⟩,T,O,t⟩=>?_;subst e1;subst e2;have m1:∀j p,q.m j=some p->j=0:=λj p hj=>by
  obtain⟨x,y⟩:=O.EY j p hj;simp only[AB]at y;split at y
  next e=>exact e.symm
  ·cases y
 have BW:=O.BW 0 (.Ay E z (X.map .d)) (by simp[AB]);obtain⟨o,Q⟩:∃o,q.m 0=some o:=by
  rcases BW with⟨a,_⟩|⟨b,N,H,sp,a,_⟩<;>exact⟨_,a⟩
 have k:∀b,o.blk? = some b->w.heap.size<=b:=λb k=>(t.DF b ⟨0,o,Q,k⟩).elim (λh=>(v b h).elim) id;have y:B5 w L:=⟨t.size,λb k=>t.keep b (v b) k,t.tape,t.os,t.Ck,t.drawn⟩
 have hf:AB g (AA g)=none:=X0 g;have ad:CH q=CH (G.Be (AA g) o):=by
  funext b;refine propext ⟨λh=>?_,λh=>?_⟩
  ·rcases h with⟨j,p,a,c⟩|a
   ·have e:=m1 j p a;subst e;rw[Q]at a;cases a;exact .inl ⟨AA g,o,Yu,c⟩
   ·rw[t.xo]at a;rcases a with⟨j,p,a,c⟩|a
    ·have:j≠AA g:=λe=>by subst e;rw[J.free hf]at a;cases a
     exact .inl ⟨j,p,by simp[A9.Be,this,a],c⟩
    ·exact .inr a
  ·rcases h with⟨j,p,a,c⟩|a
   ·simp only[A9.Be]at a;split at a
    ·cases a;exact .inl ⟨0,o,Q,c⟩
    ·exact .inr (t.xo▸.inl ⟨j,p,a,c⟩)
   ·exact .inr (t.xo▸.inr a)
 have aa:∀(l:List D)(H:List Value),Bz L q (l.map .d) H->Bz L (G.Be (AA g) o) (l.map .d) H:=λl=>by
  induction l with
  |nil=>intro H h;simpa only[Ht,Bz]using h
  |cons x r ih=>
   intro H h;simp only[Cw,Bz]at h⊢;obtain⟨c1,c2,e,a,c⟩:=h;refine⟨c1,c2,e,?_,ih _ c⟩;simp only[V.Al]at a⊢;rw[<-ad];exact a
 have U:Je L (G.Be (AA g) o) (AA g) (.Ay E z (X.map .d)):=by
  simp only[Je]at BW⊢;rw[Q]at BW;rw[Yu];rcases BW with a|⟨b,N,H,sp,a,c,Y,h4⟩
  ·exact .inl a
  ·exact .inr ⟨b,N,H,sp,a,c,aa _ _ Y,h4⟩
 cases e with
 |returned u=>
  refine⟨.sl (AA g) n,_,G.Be (AA g) o,u,hK,rfl,?_,J.Be y hf k U,Uo L y (J.free hf) k,y⟩;have a:(V.sl 0 n).Ax L q u:=T;rw[Y3]at a⊢;obtain⟨o',c,Y⟩:=a;rw[Q]at c;cases c;exact⟨o,Yu,Y⟩
 |_=>exact(T:False).elim
def Xn4{P:BA}{p:Program}(k:P.p=p)(o:p.follows .mixedOrders=true){f:Nat}{s:S}{d:List RV}{b:List V}{a:AF}{K:BN->AF->Prop}{g:List Nat}{e:S2}{T:DD}(m:K8 p f b.length s d=true)(n:s.AZ g=some e)(l:A4 P T)
 (h:(∀c,BY (AD (AA a) c) b=false)->(∀c,AI (AD (AA a) c) a=true)->Zb P T e (QM (AA a) d K) (EK 0 b) a):AX P f b a K:=
 AX.D8 λi j=>by subst k;exact Xn5 o m (S.BK l s n (λ_ _ _ h=>h) (h i j))
def Rde{P:BA}{f:Nat}{q:List V}{p:AF}{K:BN->AF->Prop}(h:AX P f q p λo b=>K o b\/(o=.ret (.d .Ad)/\∃E z,K (.ret (.sl (AA b) 0)) ((AA b,.Ay E z [])::b))):AX P f q p K:=
 ⟨λw G j v s x=>(h.run w G j v s x).mono λe i ⟨o,b,a,k,g,m,t⟩=>by
  rcases k with k|⟨rfl,E,z,k⟩
  ·exact⟨o,b,a,k,g,m,t⟩
  ·have n:AB b (AA b)=none:=X0 b
   have l:∀b,RO.CG.blk? = some b->i.heap.size<=b:=λb r=>by simp[RO.blk?]at r
   have F:=Uo i (B5.refl i) (o:=.CG) (m.free n) l;have y:OM i (a.Be (AA b) .CG) ((AA b,.Ay E z [])::b):=m.Be (B5.refl i) n l (.inl ⟨Yu,rfl⟩);refine⟨_,_,_,k,?_,y,t.trans F⟩;cases e with
   |returned u=>
    have c:(V.d .Ad).Ax i a u:=g;show(V.sl (AA b) 0).Ax i (a.Be (AA b) .CG) u;rw[Ii]at c;rcases c with⟨c,_⟩|⟨_,c⟩
    ·cases c
    ·simp only[D.Ax,HN,Gg]at c
     exact Y3.2 ⟨.CG,Yu,rfl,c⟩
   |_=>exact(g:False).elim⟩
def V3(E z B:Nat):S:=.seq (.rg [] [.op (some 2) (.c (.mv .Ad))] [0] [])
 (.seq (.seq (.rg [] [.op (some 3) (.c (.mv (.t 0))),
  .op (some 4) (.Ip true false (.t 3))] [0,4] [])
 (.cond (.t 4) (.seq (.rg [] [.op (some 2) (.c (.mv .Ad))] [2] [])
 (.ret)) (.skip)))
 (.seq (.rg [] [.op (some 5) (.IC E z [] []),
  .op (some 6) (.c (.mv (.t 0))),
  .op (some 7) (.HE E z B (.t 5) (.t 6)),
  .op (some 2) (.c (.mv (.t 7)))] [2] [])
 (.ret)))
def Yi6(E z B:Nat):S2:=.seq (.rg [] [(0,(.a (.t 0)))] [])
 (.seq (.seq (.rg [.lt 3 [] (.a (.t 0)),.op (some 4) (.Ip true false (.t 3))] [(0,(.a (.t 0))),(4,(.a (.t 4)))] [])
 (.cond (.t 4) (.seq (.rg [] [(2,(.a .Ad))] [])
 (.ret)) (.skip)))
 (.seq (.rg [.op (some 5) (.IC E z [] []),.lt 6 [] (.a (.t 0)),.op (some 7) (.HE E z B (.t 5) (.t 6))] [(2,(.a (.t 7)))] [])
 (.ret)))
def X1k(E z B:Nat):(V3 E z B).AZ []=some (Yi6 E z B):=by rfl
def Wt{P:BA}{p:Program}(i:P.p=p)(m:p.follows .mixedOrders=true){f E z B:Nat}(j:Xp p f 1 (V3 E z B) [.t 2]=true){c:List D}(n:∀x∈c,x.sz=z)(g:(2*c.length+192)*B<=281474976710656){b:AF}{K:BN->AF->Prop}(h:K (.ret (.sl (AA b) c.length)) ((AA b,.Ay E z (c.map .d))::b)):AX P f [.d (.AH z c)] b K:=by
 refine Rde ?_;refine Xt i m j (X1k E z B) A4.nil λ_ a=>?_;simp[Yi6,I.wp,IX,Y5,KD,Pe];constructor
 ·refine⟨g,[AA b],by simp[AD],?_,?_⟩
  ·have k:∀(p:Nat->Bool)(l:List D),BY p (l.map .d)=false:=λp l=>by induction l<;>simp_all[BY,V.BQ]
   simp[AD,k];exact a _
  ·simpa[AD]using h
 ·intro e
  exact⟨[],by simp,by simpa using a [],.inr ⟨E,z,by simpa[e]using h⟩⟩
def Zom:Xp prog 30 1 (V3 9 1 16) [.t 2]=true:=by kernel_rfl
def Zon:Xp prog 31 1 (V3 94 5 56) [.t 2]=true:=by kernel_rfl
def Zoo:Xp prog 32 1 (V3 72 6 96) [.t 2]=true:=by kernel_rfl
def Zop:Xp prog 33 1 (V3 77 5 96) [.t 2]=true:=by kernel_rfl
def Zoq:Xp prog 34 1 (V3 80 5 72) [.t 2]=true:=by kernel_rfl
def Zor:Xp prog 35 1 (V3 83 3 48) [.t 2]=true:=by kernel_rfl
def Zos:Xp prog 106 1 (V3 158 11 120) [.t 2]=true:=by kernel_rfl
def Zot:Xp prog 107 1 (V3 162 4 72) [.t 2]=true:=by kernel_rfl
def Zou:Xp prog 108 1 (V3 168 8 96) [.t 2]=true:=by kernel_rfl
def Zov:Xp prog 110 1 (V3 173 11 120) [.t 2]=true:=by kernel_rfl
def Y7a:Xp prog 111 1 (V3 177 7 80) [.t 2]=true:=by kernel_rfl
def Y7b:Xp prog 112 1 (V3 181 5 56) [.t 2]=true:=by kernel_rfl
def Y7c:Xp prog 113 1 (V3 146 4 48) [.t 2]=true:=by kernel_rfl
structure RC(y:Ai)(ob:AF):Prop where
 o4:AB ob 4=some (Tt y.AE.length)
 o5:AB ob 5=some (Qd y.Aa)
 o6:AB ob 6=some (Qd (y.Am.map A0.name))
 o7:AB ob 7=some (Qd (y.AE.map AO.name))
 Ri:y.AE.length≠0->AB ob 12=some (.Ay 102 1 (H3 y.AE.length))
 om:∀i,i<y.AE.length->AB ob (Uh i)=some (Qd (EO y.AE i))
def Rdf{y:Ai}{c b a:Ob}:RC y (Zy y y.AE.length c b a):=⟨nj,Ywv,Yww,Ywx,ZM,λ_ h=>uG h⟩
def RC.of{y:Ai}{c b:AF}(h:RC y c)(a:∀j o,AB c j=some o->(∀E z g,o=.Ay E z g->E=102)->AB b j=some o):RC y b:=
 ⟨a _ _ h.o4 (λ_ _ _ e=>by cases e),a _ _ h.o5 (λ_ _ _ e=>by cases e),a _ _ h.o6 (λ_ _ _ e=>by cases e),a _ _ h.o7 (λ_ _ _ e=>by cases e),λf=>a _ _ (h.Ri f) (λ_ _ _ e=>by cases e;rfl),λi d=>a _ _ (h.om i d) (λ_ _ _ e=>by cases e)⟩
def RC.cons{y:Ai}{a:AF}(h:RC y a)(o:Ob):RC y ((AA a,o)::a):=h.of λj x b _=>by
 have:AA a≠j:=λe=>by rw[<-e,X0]at b;cases b
 simp[AB,this,b]
def RC.set{y:Ai}{a:AF}(h:RC y a){id E z:Nat}{g vs':List V}(c:AB a id=some (.Ay E z g))(d:E≠102):RC y (AG a id (.Ay E z vs')):=h.of λj x b f=>by
 have:j≠id:=λe=>by rw[e,c]at b;exact d (f _ _ _ (GI b).symm)
 rw[Xb a id j ⟨_,c⟩,Aq this,b]
def Pk(K:BN->AF->Prop)(b:AF):Prop:=∀a,AB a 1=AB b 1->AB a 2=AB b 2->K (.panic (.d Zw)) a
def Yb{p:Nat->Bool}{v:V}(a:V.BQ p v=false):∀{b:List V}(i:Nat),BY p b=false->BY p (b.set i v)=false
|[],_,_=>rfl
|x::r,0,h=>by simp only[BY,FU]at h;simp[BY,a,h.2]
|x::r,i+1,h=>by simp only[BY,FU]at h;simp[BY,h.1,Yb a i h.2]
def Ua(n s:Nat)(h:s<(H3 n).length):(H3 n)[s]=.mp (Uh s):=by simp[H3]
def N4(r:Ch):V:=.d r.enc
def lC(a:List AO)(m:Ch):Ox a m=(Cr (a.map AO.name) m.name).bind λs=>(Cr (EO a s) m.path).map λ(f:Nat)=>{m with Ag:=s,field:=f}:=by
 unfold Ox;congr 1;funext s;have:Yr a (s:Int)=EO a s:=by
  unfold Yr EO;simp only[Int.toNat_natCast];cases a[s]?<;>rfl
 rw[this]
include hP
theorem X29{a:List D}(c:∀x∈a,x.sz=4)(e:a.length<=1000000){b:AF}{K:V->AF->Prop}(h:K (.sl (AA b) a.length) ((AA b,.Ay 146 4 (a.map .d))::b)):Cm P 113 [.d (.AH 4 a)] b K:=
 IP (ds:=[.AH 4 a]) (Wt hP AQ Y7c c (by omega) ⟨rfl,rfl⟩) h
theorem X01{y:Ai}{id m i:Nat}{N:List V}{p:Ae}(hm:p.CN.length<=1000000){a:AF}(hc:RC y a)(H:AB a id=some (.Ay 83 3 N))(hl:N.length=m)(hv:N[i]? = some (.d p.enc))(Z:∀p,BY p N=false)(ak:id≠1/\id≠2){K:BN->AF->Prop}
 (h1:∀q,W5 y.AE p=some q->K (.ret (.BT [])) (AG a id (.Ay 83 3 (N.set i (.d q.enc))))) (h0:W5 y.AE p=none->Pk K a):
 AX P 40 [.ptr 4 [],.ep id m 3 i 0 []] a K:=by
 refine AX.Gq ?_;refine Xt hP AQ Zsn Zpi A4.nil λ_ X=>?_;obtain⟨Q,L⟩:=Ek.1 hv;have pe:p.enc=.agg [.AU p.name,.AH 4 (p.CN.map Ch.enc),iD p.C3]:=rfl;rw[pe]at L;have v:i<m:=by omega
 simp[Zm9,H,hl,Q,v,L];refine X29 hP (by intro x hx;obtain⟨r,_,rfl⟩:=DY.1 hx;rfl) (by simpa using hm) ?_;have ai:=Xi H;have w:AA a≠id:=by omega
 simp[H,w,hl,Q,v,L,Dn,CA,Z7];refine⟨⟨_,_,_,⟨rfl,rfl,rfl⟩,by simp⟩,?_⟩;obtain⟨vs',b⟩:∃vs',vs'=N.set i (V.agg [.d (.AU p.name),.sl (AA a) p.CN.length,.d (iD p.C3)]):=⟨_,rfl⟩
 rw[<-b];have aj:vs'.length=m:=by rw[b];simpa using hl
 have ab:∀h:i<vs'.length,vs'[i]=V.agg [.d (.AU p.name),.sl (AA a) p.CN.length,.d (iD p.C3)]:=λh=>by simp[b]
 have ae:=hc.set (vs':=vs') H (by decide);have fs:AA (AG a id (.Ay 83 3 vs'))=AA a:=by simp
 have l4:=Xi hc.o4;have nm:∀{n:Nat}{kp:List Nat}{us:List V},AA a<=n->AD n kp (AA a)=false->(∀p,BY p us=false)->AI (AD n kp) ((AA a,.Ay 146 4 us)::AG a id (.Ay 83 3 vs'))=true:=λT hk hu=>by
  simp only[AI,hu,Bool.not_false,EN];refine Xx ?_ (BV X T);rw[b];exact Yb (by simp[V.BQ,BY,hk]) i (Z _)
 refine Au.go (ι:=List Ch) (λd=>[(0,.ptr 4 []),(1,.ep id m 3 i 0 []),(18,.d (.int .i64 p.CN.length)),(19,.d (.int .i64 d.length))])
  (λd=>(AA a,.Ay 146 4 ((d++p.CN.drop d.length).map N4))::AG a id (.Ay 83 3 vs')) (λd=>d.length<=p.CN.length/\D6 p.CN (Ox y.AE)=Db (λ_=>Ox y.AE) d (p.CN.drop d.length)) (λd=>p.CN.length-d.length) [] ⟨by simp,rfl⟩ (by simp) (by simp;exact λ_ _=>rfl) ?_
 rintro d ⟨hd,G⟩ R rn re rr rp;have wl:((d++p.CN.drop d.length).map N4).length=p.CN.length:=by simp;omega
 by_cases c:d.length<p.CN.length
 ·have wr:IntKind.i64.wrap ((d.length:Int)+1)=(d.length:Int)+1:=w_i _ (by omega);have O:=K4 N4 c;have ws:=Kz N4 c;rw[D5 c,Z4]at G;generalize hu:p.CN[d.length]=u at G O;have ue:N4 u=.d (.agg [.AU u.name,.AU u.path,iD u.Ag,iD u.field]):=rfl;simp only[ue]at O;generalize aa:(d++p.CN.drop d.length).map N4=us at wl O ws;have z:∀us,RC y ((AA a,.Ay 146 4 us)::AG a id (.Ay 83 3 vs')):=λus=>by
   have:=ae.cons (.Ay 146 4 us)
   rwa [fs]at this
  have c4:=λus=>(z us).o4;have pn:Ox y.AE u=none->∀j,(∀p,BY p j=false)->R (.panic (.d Zw)) [] ((AA a,.Ay 146 4 j)::AG a id (.Ay 83 3 vs')):=λe j ag=>by
   refine rp _ _ _ ?_;rw[e,Option.bind_none]at G;have af:=h0 (by rw[W5,G];rfl);simp;have ha:∀x,x=1\/x=2->AB ((AA a,Ob.Ay 146 4 j)::AG a id (.Ay 83 3 vs')) x=AB a x:=λx hx=>by
    have e1:AA a≠x:=by omega
    rw[AB,Aq e1,Xb a id x ⟨_,H⟩,Aq (by omega)]
   have F:Xk (AD (AA a) [AA a]) ((AA a,Ob.Ay 146 4 j)::AG a id (.Ay 83 3 vs'))=(AA a,Ob.Ay 146 4 j)::AG a id (.Ay 83 3 vs'):=by simp[AD]
   have W:=nm (n:=AA a) (kp:=[AA a]) (us:=j) (Bg _) (by simp[AD]) ag;refine⟨[AA a],by simp,by rw[F];exact W,_,Wk.refl _,[AA a],by simp[BN.BQ],by rw[F,F];exact W,?_⟩;rw[F,F];exact af _ (ha 1 (.inl rfl)) (ha 2 (.inr rfl))
  simp[tT,c,c4,w,H,aj,ab,v,wl,O,ai];refine Zj hP (z _).o7 (λs hs=>?_) (λT=>pn (by rw[lC,T];rfl) _ (by subst aa;exact λp=>X8 _ _));have Y:s<y.AE.length:=by simpa using QV hs
  have U:y.AE.length≠0:=by omega
  have ad:=λus=>(z us).Ri U;have w1:=ws {u with Ag:=s};simp[c4,ad,U,Hf,wl,O,c,Vc,Ua,Y];refine Zj hP ((z _).om s Y) (λf hf=>?_) (λT=>pn (by rw[lC,hs,Option.bind_some,T];rfl) _ (λp=>?_))
  ·have w2:=ws {u with Ag:=s,field:=f};have hr:Ox y.AE u=some {u with Ag:=s,field:=f}:=by rw[lC,hs,Option.bind_some,hf];rfl
   rw[hr,Option.bind_some]at G;simp[wl,O,c];refine rn [] (d++[{u with Ag:=s,field:=f}]) _ _ ⟨by simp;omega,by rw[G,C7];rfl⟩ (by simp;omega) (by simp[wr]) ?_ ?_ ?_
   ·rw[<-w2];have:¬AA a+1<=AA a:=by omega
    simp[AD,this]
    all_goals rfl
   ·simp[AD];omega
   ·exact nm (by simp) (by simp[AD]) (λp=>X8 _ _)
  ·exact Yb rfl _ (by subst aa;exact X8 _ _)
 ·have J:d.length=p.CN.length:=by omega
  rw[J,List.drop_length,Db]at G;simp[tT,c];refine re _ _ _ ?_;simp;have e:List.drop d.length (p.CN.map N4)=[]:=HO (by simp[J]);rw[e,GJ];have hq:W5 y.AE p=some {p with CN:=d}:=by rw[W5,G];rfl
  obtain⟨t,l⟩:∃t,t=(AA a,Ob.Ay 146 4 (d.map N4))::AG a id (.Ay 83 3 vs'):=⟨_,rfl⟩
  have li:AB t id=some (.Ay 83 3 vs'):=by rw[l,AB,Aq w,Xb a id id ⟨_,H⟩,BS rfl]
  have lf:AB t (AA a)=some (.Ay 146 4 (d.map λr=>V.d r.enc)):=by rw[l,AB,BS rfl];rfl
  have g:DC 3 t (V.agg [.d (.AU p.name),.sl (AA a) p.CN.length,.d (iD p.C3)])=some (.agg [.AU p.name,.AH 4 (d.map Ch.enc),iD p.C3],AG t (AA a) .An):=by
   have hd:∀(x:D)(o:AF),DC 2 o (.d x)=some (x,o):=λx o=>rfl;show FX (E8 (DC 2) t _)=_;simp only[E8,hd,Ig (k:=0) Ch.enc lf (by decide) J.symm,Qg,FX]
  have sg:AG t (AA a) .An=(AA a,.An)::AG a id (.Ay 83 3 vs'):=by rw[l];simp[AG]
  have ah:AB (AG t (AA a) .An) id=some (.Ay 83 3 vs'):=by rw[sg,AB,Aq w,Xb a id id ⟨_,H⟩,BS rfl]
  have ac:=PV li (i:=i) (by rw[DN (by omega),ab]) g ah rfl;have Cq:AG (AG t (AA a) .An) id (.Ay 83 3 (vs'.set i (.d (.agg [.AU p.name,.AH 4 (d.map Ch.enc),iD p.C3]))))=(AA a,.An)::AG a id (.Ay 83 3 (N.set i (.d ({p with CN:=d}:Ae).enc))):=by
   rw[sg];have:¬AA a=id:=w;simp[AG,this,Yh,b,List.set_set];rfl
  rw[Cq]at ac;rw[<-l];have F:Xk (AD (AA a) [AA a]) t=t:=by rw[l];simp[AD]
  refine⟨[AA a],by simp,by rw[F,l];exact nm (Bg _) (by simp[AD]) (λp=>X8 _ _),_,by rw[F];exact ac,[],by simp[BN.BQ],?_,?_⟩
  ·simp[AD,Xk];exact Xx (Yb rfl _ (Z _)) (X _)
  ·simp[AD,Xk];exact h1 _ hq
omit hP
def Hc(f:Aj):V:=.d f.enc
def JM(d:A2):D:=.agg [Xg d.names,.AU d.name,if d.Aw=[] then .Ad else X4 d.Aw,iD d.B8]
def Y7i(d:A2):D.le (JM d) d.enc:=by
 have e:d.enc=.agg [Xg d.names,.AU d.name,X4 d.Aw,iD d.B8]:=rfl;rw[e,JM];refine D.le.agg (Bk.cons (D.le.refl _) (Bk.cons (D.le.refl _) (Bk.cons ?_ (Bk.cons (D.le.refl _) Bk.nil))));split
 next h=>rw[h];exact D.le.nil 1
 ·exact D.le.refl _
def Hb(d:A2):V:=.d (JM d)
def Nu(d:A2):V:=.d d.enc
def KL(s:AO):D:=.agg [.AU s.name,.AU s.Eg,iD s.CF,iD s.BU,.AH 11 (s.AL.map Aj.enc),.AH 4 (s.Ac.map JM)]
def Zfg(s:AO):D.le (KL s) s.enc:=by
 have e:s.enc=.agg [.AU s.name,.AU s.Eg,iD s.CF,iD s.BU,.AH 11 (s.AL.map Aj.enc),.AH 4 (s.Ac.map A2.enc)]:=rfl;rw[e,KL];exact D.le.agg (Bk.cons (D.le.refl _) (Bk.cons (D.le.refl _) (Bk.cons (D.le.refl _) (Bk.cons (D.le.refl _) (Bk.cons (D.le.refl _) (Bk.cons (D.le.AH (Bk.map λx _=>Y7i x)) Bk.nil))))))
def uO{a:Type}(f g:a->V){d l:List a}(b:d.length<=l.length):(d.map f++(l.drop d.length).map g).length=l.length:=by simp;omega
def uN{a:Type}(f g:a->V){d l:List a}(b:d.length<l.length)(h:d.length<(d.map f++(l.drop d.length).map g).length):(d.map f++(l.drop d.length).map g)[d.length]=g l[d.length]:=by
 rw[List.getElem_append_right (by simp)];simp
def uP{b:Type}(f g:b->V){d l:List b}(a:d.length<l.length)(z:b):(d.map f++(l.drop d.length).map g).set d.length (f z)=(d++[z]).map f++(l.drop (d++[z]).length).map g:=by
 rw[List.set_append_right _ _ (by simp),D5 a,List.length_map,Nat.sub_self,Cw,List.set_cons_zero];simp
include hP
theorem Xqy{a:List D}(c:∀x∈a,x.sz=11)(e:a.length<=1000000){b:AF}{K:V->AF->Prop}(h:K (.sl (AA b) a.length) ((AA b,.Ay 158 11 (a.map .d))::b)):Cm P 106 [.d (.AH 11 a)] b K:=
 IP (ds:=[.AH 11 a]) (Wt hP AQ Zos c (by omega) ⟨rfl,rfl⟩) h
theorem X28{a:List D}(c:∀x∈a,x.sz=4)(e:a.length<=1000000){b:AF}{K:V->AF->Prop}(h:K (.sl (AA b) a.length) ((AA b,.Ay 162 4 (a.map .d))::b)):Cm P 107 [.d (.AH 4 a)] b K:=
 IP (ds:=[.AH 4 a]) (Wt hP AQ Zot c (by omega) ⟨rfl,rfl⟩) h
theorem X5c{y:Ai}{id m i N:Nat}{vs:List V}{s:AO}(bl:s.AL.length<=1000000)(bk:s.Ac.length<=1000000)(bn:∀d∈s.Ac,d.names.length<=1000000000000){f:AF}(hc:RC y f)(hi:AB f id=some (.Ay 72 6 vs))(hl:vs.length=m)(hv:vs[i]? = some (.d s.enc))(a5:∀p,BY p vs=false)(b1:id≠1/\id≠2)
 (L:AB f N=some (Qd (s.AL.map Aj.name))) {K:BN->AF->Prop}
 (h1:∀q,Uc y.Aa (y.Am.map A0.name) s=some q->K (.ret (.BT [])) (AG f id (.Ay 72 6 (vs.set i (.d (KL q)))))) (h0:Uc y.Aa (y.Am.map A0.name) s=none->Pk K f):
 AX P 37 [.ptr 4 [],.ep id m 6 i 0 [],.mp N] f K:=by
 refine AX.Gq ?_;refine Xt hP AQ Zsk Zpf A4.nil λ_ ag=>?_;obtain⟨a3,aq⟩:=Ek.1 hv;have pe:s.enc=.agg [.AU s.name,.AU s.Eg,iD s.CF,iD s.BU,.AH 11 (s.AL.map Aj.enc),.AH 4 (s.Ac.map A2.enc)]:=rfl;rw[pe]at aq;have O:i<m:=by omega
 have l4:=Xi hc.o4;have bt:=Xi hi;have ab:AA f≠id:=by omega
 have c4:=hc.o4;simp[Zm6,c4,hi,hl,a3,O,aq];refine Zj hP hc.o5 (λn hn=>?_) (λhn=>?_)
 ·simp[c4,hi,hl,a3,O,aq];refine Xqy hP (by intro x H;obtain⟨r,_,rfl⟩:=DY.1 H;rfl) (by simpa using bl) ?_;simp[hi,ab,hl,a3,O,aq,Dn,CA,Z7];refine⟨⟨_,_,_,⟨rfl,rfl,rfl⟩,by simp⟩,?_⟩;have sR:Uc y.Aa (y.Am.map A0.name) s=(D6 s.AL (Q5 (y.Am.map A0.name))).bind λfs=>(D6 s.Ac (KF (s.AL.map Aj.name))).map λds=>{s with CF:=(n:Int),AL:=fs,Ac:=ds}:=by rw[Uc,hn,Option.bind_some]
  obtain⟨vs',X⟩:∃vs',vs'=vs.set i (V.agg [.d (.AU s.name),.d (.AU s.Eg),.d (.int .i64 n),.d (iD s.BU),.sl (AA f) s.AL.length,.d (.AH 4 (s.Ac.map A2.enc))]):=⟨_,rfl⟩
  rw[<-X];have av:vs'.length=m:=by rw[X];simpa using hl
  have a8:∀h:i<vs'.length,vs'[i]=V.agg [.d (.AU s.name),.d (.AU s.Eg),.d (.int .i64 n),.d (iD s.BU),.sl (AA f) s.AL.length,.d (.AH 4 (s.Ac.map A2.enc))]:=λh=>by simp[X]
  have bj:=hc.set (vs':=vs') hi (by decide);have fs:AA (AG f id (.Ay 72 6 vs'))=AA f:=by simp
  have nm:∀{n:Nat}{kp:List Nat}{T:List V},AA f<=n->AD n kp (AA f)=false->(∀p,BY p T=false)->AI (AD n kp) ((AA f,.Ay 158 11 T)::AG f id (.Ay 72 6 vs'))=true:=λhn hk hu=>by
   simp only[AI,hu,Bool.not_false,EN];refine Xx ?_ (BV ag hn);rw[X];exact Yb (by simp[V.BQ,BY,hk]) i (a5 _)
  have aw:∀{T:List V}{x:Nat},x=1\/x=2->AB ((AA f,Ob.Ay 158 11 T)::AG f id (.Ay 72 6 vs')) x=AB f x:=λ{T x} H=>by
   have e1:AA f≠x:=by omega
   rw[AB,Aq e1,Xb f id x ⟨_,hi⟩,Aq (by omega)]
  have b4:∀{T:List V},AB ((AA f,Ob.Ay 158 11 T)::AG f id (.Ay 72 6 vs')) N=some (Qd (s.AL.map Aj.name)):=λ{T}=>by
   have e1:AA f≠N:=by have:=Xi L;omega
   have e2:N≠id:=λe=>by rw[e,hi]at L;simp[Qd]at L
   rw[AB,Aq e1,Xb f id N ⟨_,hi⟩,Aq e2,L]
  refine Au.go (ι:=List Aj) (λd=>[(0,.ptr 4 []),(1,.ep id m 6 i 0 []),(2,.mp N),(36,.d (.int .i64 s.AL.length)),(37,.d (.int .i64 d.length))])
   (λd=>(AA f,.Ay 158 11 ((d++s.AL.drop d.length).map Hc))::AG f id (.Ay 72 6 vs')) (λd=>d.length<=s.AL.length/\D6 s.AL (Q5 (y.Am.map A0.name))=Db (λ_=>Q5 (y.Am.map A0.name)) d (s.AL.drop d.length)) (λd=>s.AL.length-d.length) [] ⟨by simp,rfl⟩ (by simp) (by simp;exact λ_ _=>rfl) ?_
  rintro d ⟨hd,hg⟩ R rn re rr rp;have wl:((d++s.AL.drop d.length).map Hc).length=s.AL.length:=by simp;omega
  by_cases ae:d.length<s.AL.length
  ·have wr:IntKind.i64.wrap ((d.length:Int)+1)=(d.length:Int)+1:=w_i _ (by omega);have wk:=K4 Hc ae;have ws:=Kz Hc ae;rw[D5 ae,Z4]at hg;generalize hu:s.AL[d.length]=u at hg wk;have ue:Hc u=.d (.agg [.AU u.name,.agg [iD u.type.kind,iD u.type.lo,iD u.type.hi,.AU u.type.CB,iD u.type.unit,Xg u.type.names],.agg [iD u.w0,iD u.w1,iD u.w2,iD u.w3]]):=rfl;simp only[ue]at wk;generalize b3:(d++s.AL.drop d.length).map Hc=T at wl wk ws;have bb:∀T,RC y ((AA f,.Ay 158 11 T)::AG f id (.Ay 72 6 vs')):=λT=>by
    have:=bj.cons (.Ay 158 11 T)
    rwa [fs]at this
   have c4:=λT=>(bb T).o4;have w1:=ws {u with type:={u.type with unit:=-1} };have bh:T.set d.length (.d (.agg [.AU u.name,.agg [iD u.type.kind,iD u.type.lo,iD u.type.hi,.AU u.type.CB,iD (-1),.AH 1 (u.type.names.map .AU)],.agg [iD u.w0,iD u.w1,iD u.w2,iD u.w3]]))=((d++[{u with type:={u.type with unit:=-1} }])++s.AL.drop (d++[{u with type:={u.type with unit:=-1} }]).length).map Hc:=w1;have Cq:∀(z:Aj)(a7:List V)(a6:Xe),Q5 (y.Am.map A0.name) u=some z->a7=((d++[z])++s.AL.drop (d++[z]).length).map Hc->Xy a6 [0,1,2,36,37]=[(0,.ptr 4 []),(1,.ep id m 6 i 0 []),(2,.mp N),(36,.d (.int .i64 s.AL.length)),(37,.d (.int .i64 (d.length+1:Nat)))]->
    R .normal a6 ((AA f,.Ay 158 11 a7)::AG f id (.Ay 72 6 vs')):=λz a7 a6 hz ao hk=>by
    rw[hz,Option.bind_some]at hg;refine rn [] (d++[z]) _ _ ⟨by simp;omega,by rw[hg,C7];rfl⟩ (by simp;omega) (by simpa using hk) ?_ ?_ ?_
    ·rw[ao];have:¬AA f+1<=AA f:=by omega
     simp[AD,this]
    ·have:=Xi L;simp[AD];omega
    ·exact nm (by simp) (by simp[AD]) (λp=>X8 _ _)
   simp[tO,ae,c4,ab,hi,av,a8,O,wl,wk,bt,Xg];refine⟨λk1 k2=>?_,λk1=>?_⟩
   ·refine Zj hP (bb _).o6 (λx H=>?_) (λH=>?_)
    ·have hz:Q5 (y.Am.map A0.name) u=some {u with type:={u.type with unit:=x} }:=by
      rw[Q5,BS ⟨k1,k2⟩,H];rfl
     have w2:T.set d.length (.d (.agg [.AU u.name,.agg [iD u.type.kind,iD u.type.lo,iD u.type.hi,.AU u.type.CB,iD x,.AH 1 (u.type.names.map .AU)],.agg [iD u.w0,iD u.w1,iD u.w2,iD u.w3]]))=((d++[{u with type:={u.type with unit:=x} }])++s.AL.drop (d++[{u with type:={u.type with unit:=x} }]).length).map Hc:=ws {u with type:={u.type with unit:=x} };simp[wl,wk,ae,tP];exact Cq _ _ _ hz w2 (by simp[wr])
    ·refine rp _ _ _ ?_;have ah:=h0 (by rw[sR,hg,Q5,BS ⟨k1,k2⟩,H];rfl);simp;have e:∀T,Xk (AD (AA f) [AA f]) ((AA f,Ob.Ay 158 11 T)::AG f id (.Ay 72 6 vs'))=(AA f,Ob.Ay 158 11 T)::AG f id (.Ay 72 6 vs'):=λT=>by simp[AD]
     have ao:∀p,BY p (T.set d.length (.d (.agg [.AU u.name,.agg [iD u.type.kind,iD u.type.lo,iD u.type.hi,.AU u.type.CB,iD (-1),.AH 1 (u.type.names.map .AU)],.agg [iD u.w0,iD u.w1,iD u.w2,iD u.w3]])))=false:=λp=>by rw[bh];exact X8 _ _
     refine⟨[AA f],by simp,by rw[e];exact nm (Bg _) (by simp[AD]) ao,_,Wk.refl _,[AA f],by simp[BN.BQ],by rw[e,e];exact nm (Bg _) (by simp[AD]) ao,?_⟩;rw[e,e];exact ah _ (aw (.inl rfl)) (aw (.inr rfl))
   ·have hz:Q5 (y.Am.map A0.name) u=some {u with type:={u.type with unit:=-1} }:=by
     rw[Q5,Aq (λhh=>hh.2 (k1 hh.1))]
    simp[tP];exact Cq _ _ _ hz bh (by simp[wr])
  ·have az:d.length=s.AL.length:=by omega
   rw[az,List.drop_length,Db]at hg;simp[tO,ae];refine re _ _ _ ?_;have e:d.map Hc++(s.AL.map Hc).drop d.length=d.map Hc:=by rw[HO (by simp[az]),GJ]
   rw[e];rw[hg,Option.bind_some]at sR;have nF:AA f+1≠id:=by omega
   have fF:AA ((AA f,Ob.Ay 158 11 (d.map Hc))::AG f id (.Ay 72 6 vs'))=AA f+1:=by simp
   simp[hi,ab,av,a8,O];refine X28 hP (by intro x H;obtain⟨r,_,rfl⟩:=DY.1 H;rfl) (by simpa using bk) ?_;rw[fF];simp[hi,ab,nF,av,a8,O,Dn,CA,Z7];refine⟨⟨_,_,_,⟨rfl,rfl,rfl⟩,by simp⟩,?_⟩;obtain⟨vd,ai⟩:∃vd,vd=vs'.set i (V.agg [.d (.AU s.name),.d (.AU s.Eg),.d (.int .i64 n),.d (iD s.BU),.sl (AA f) s.AL.length,.sl (AA f+1) s.Ac.length]):=⟨_,rfl⟩
   rw[<-ai];have bz:vd.length=m:=by rw[ai];simpa using av
   have bg:∀h:i<vd.length,vd[i]=V.agg [.d (.AU s.name),.d (.AU s.Eg),.d (.int .i64 n),.d (iD s.BU),.sl (AA f) s.AL.length,.sl (AA f+1) s.Ac.length]:=λh=>by simp[ai]
   let G:List V->AF:=λl=>(AA f+1,.Ay 162 4 l)::(AA f,.Ay 158 11 (d.map Hc))::AG f id (.Ay 72 6 vd);have bG:∀l,AB (G l) (AA f+1)=some (.Ay 162 4 l):=λl=>by simp[G,AB]
   have bS:∀l ay,AG (G l) (AA f+1) (.Ay 162 4 ay)=G ay:=λl ay=>by simp[G,AG]
   have bI:∀l,AB (G l) id=some (.Ay 72 6 vd):=λl=>by simp[G,AB,ab,nF,Xb f id id ⟨_,hi⟩]
   have bM:∀l,AB (G l) N=some (Qd (s.AL.map Aj.name)):=λl=>by
    have e0:AA f+1≠N:=by have:=Xi L;omega
    have e1:AA f≠N:=by have:=Xi L;omega
    have e2:N≠id:=λe=>by rw[e,hi]at L;simp[Qd]at L
    show AB ((AA f+1,_)::(AA f,_)::AG f id _) N=_;rw[AB,Aq e0,AB,Aq e1,Xb f id N ⟨_,hi⟩,Aq e2,L]
   have bF:∀l,AA (G l)=AA f+2:=λl=>by
    have:¬AA f+1<=AA f:=by omega
    simp[G,this]
   have a9:∀{l:List V}{x:Nat},x=1\/x=2->AB (G l) x=AB f x:=λ{l x} H=>by
    have e0:AA f+1≠x:=by omega
    have e1:AA f≠x:=by omega
    show AB ((AA f+1,_)::(AA f,_)::AG f id _) x=_;rw[AB,Aq e0,AB,Aq e1,Xb f id x ⟨_,hi⟩,Aq (by omega)]
   have bN:∀{n:Nat}{kp:List Nat}{l:List V},AA f<=n->AD n kp (AA f)=false->AD n kp (AA f+1)=false->BY (AD n kp) l=false->AI (AD n kp) (G l)=true:=λ{n kp l} hn hk bm hu=>by
    simp only[G,AI,hu,Bool.not_false,EN];have:=X8 (p:=AD n kp) Aj.enc d;rw[show d.map Hc=d.map (λx=>V.d x.enc) from rfl,this];simp only[Bool.not_false,EN];refine Xx ?_ (BV ag hn);rw[ai,X,List.set_set];exact Yb (by simp[V.BQ,BY,hk,bm]) i (a5 _)
   show Au _ _ _ _ (G (s.Ac.map (V.d∘A2.enc)));refine r7 (ι:=List A2) (λe=>[(1,.ep id m 6 i 0 []),(2,.mp N),(87,.d (.int .i64 s.Ac.length)),(88,.d (.int .i64 e.length))])
    (λe=>G (e.map Hb++(s.Ac.drop e.length).map Nu)) (λe=>e.length<=s.Ac.length/\D6 s.Ac (KF (s.AL.map Aj.name))=Db (λ_=>KF (s.AL.map Aj.name)) e (s.Ac.drop e.length)) (λe=>s.Ac.length-e.length) [] ⟨by simp,rfl⟩ (by simp) (by simp;rfl) ?_
   rintro e ⟨he,aa⟩ R rn re rr rp;by_cases F:e.length<s.Ac.length
   ·have wr:IntKind.i64.wrap ((e.length:Int)+1)=(e.length:Int)+1:=w_i _ (by omega);have wl:=uO Hb Nu he;have wk:=uN Hb Nu F;have ws:=uP Hb Nu F;rw[D5 F,Z4]at aa;have bp:=bn _ (Ci F);generalize hu:s.Ac[e.length]=u at aa wk bp;have ue:Nu u=.d (.agg [Xg u.names,.AU u.name,X4 u.Aw,iD u.B8]):=rfl;simp only[ue]at wk;generalize bc:e.map Hb++(s.Ac.drop e.length).map Nu=l at wl wk ws;have nG:AA f+1≠id:=nF;simp[tN,F,bG,bS,bI,bz,bg,O,wl,wk,Xg,X4];have an:∀p,BY p l=false:=λp=>by
     subst bc;have a1:=X8 (p:=p) JM e;have a2:=X8 (p:=p) A2.enc (s.Ac.drop e.length);have ap:∀(a b:List V),BY p (a++b)=(BY p a||BY p b):=λa b=>by
      induction a with
      |nil=>simp[BY]
      |cons x r ih=>simp[BY,ih,Bool.or_assoc]
     rw[ap];simp only[FU];exact⟨a1,a2⟩
    let Y:List Nat->V:=λc=>if c=[] then .d (.agg [.AH 1 (u.names.map .AU),.AU u.name,.Ad,iD u.B8]) else .agg [.d (.AH 1 (u.names.map .AU)),.d (.AU u.name),.sl (AA f+2) c.length,.d (iD u.B8)];let J:List Nat->AF:=λc=>(if c=[] then[] else[(AA f+2,Ob.BG 3 1 (c.map λ(x:Nat)=>iD x))])++G (l.set e.length (Y c));have pn:KF (s.AL.map Aj.name) u=none->∀c,Zs 3 (Wh (Zb P [] (S2.rg [] [(1,.a (.t 1)),(2,.a (.t 2)),(87,.a (.t 87)),(88,.b (.CR .add (.t 0) (.t 1)) (.a (.t 88)) (.a (.int .i64 1)))] []) R) R) (.panic (.d Zw)) [] (J c):=λe0 c=>by
     have ah:=h0 (by rw[sR,aa,e0];rfl);simp;refine rp _ _ _ ?_;simp;have kq:∀j,AA f<=j->j<=AA f+2->AD (AA f) [AA f,AA f+1,AA f+2] j=false:=λj h1 h2=>by simp[AD];omega
     have dB:∀l,Xk (AD (AA f) [AA f,AA f+1,AA f+2]) (G l)=G l:=λl=>by
      simp[G,Xk,kq]
     have dk:Xk (AD (AA f) [AA f,AA f+1,AA f+2]) (J c)=J c:=by
      simp only[J];split
      ·simpa using dB _
      ·simp[Xk,kq,dB]
     have nk:AI (AD (AA f) [AA f,AA f+1,AA f+2]) (J c)=true:=by
      simp only[J];split
      next hh=>simp only[List.nil_append];exact bN (Bg _) (kq _ (by omega) (by omega)) (kq _ (by omega) (by omega)) (Yb (by simp[Y,hh,V.BQ]) _ (an _))
      next hh=>simp only[List.cons_append,List.nil_append,AI];exact bN (Bg _) (kq _ (by omega) (by omega)) (kq _ (by omega) (by omega)) (Yb (by simp[Y,hh,V.BQ,BY,kq]) _ (an _))
     have bd:∀x,x=1\/x=2->AB (J c) x=AB f x:=λx H=>by
      simp only[J];split
      ·simpa using a9 H
      ·have:AA f+2≠x:=by omega
       simp only[List.cons_append,List.nil_append,AB,Aq this];exact a9 H
     refine⟨[AA f,AA f+1,AA f+2],by simp,by rw[dk];exact nk,_,Wk.refl _,[AA f,AA f+1,AA f+2],by simp[BN.BQ],by rw[dk,dk];exact nk,?_⟩;rw[dk,dk];exact ah _ (bd 1 (.inl rfl)) (bd 2 (.inr rfl))
    refine Au.go (ι:=List Nat) (λc=>[(1,.ep id m 6 i 0 []),(2,.mp N),(9,.ep (AA f+1) s.Ac.length 4 e.length 0 []),(87,.d (.int .i64 s.Ac.length)),(88,.d (.int .i64 e.length)),(103,.d (.AH 1 (u.names.map .AU))),(104,.d (.int .i64 u.names.length)),(105,.d (.int .i64 c.length))])
     J (λc=>c.length<=u.names.length/\NI (s.AL.map Aj.name) [] u.names=NI (s.AL.map Aj.name) c (u.names.drop c.length)) (λc=>u.names.length-c.length) [] ⟨by simp,rfl⟩ (by simp) (by simp[J,Y]) ?_
    rintro c ⟨b2,Z⟩ R2 bv bu b5 bx;by_cases ad:c.length<u.names.length
    ·have bi:IntKind.i64.wrap ((c.length:Int)+1)=(c.length:Int)+1:=w_i _ (by omega);rw[D5 ad,NI]at Z;have b0:∀v,(l.set e.length v).set e.length=λw=>l.set e.length w:=λv=>by funext w;rw[List.set_set]
     have next:∀x,Cr (s.AL.map Aj.name) u.names[c.length]=some x->R2 .normal [(1,.ep id m 6 i 0 []),(2,.mp N),(9,.ep (AA f+1) s.Ac.length 4 e.length 0 []),(87,.d (.int .i64 s.Ac.length)),(88,.d (.int .i64 e.length)),(103,.d (.AH 1 (u.names.map .AU))),(104,.d (.int .i64 u.names.length)),(105,.d (.int .i64 (c.length+1:Nat)))] (J (c++[x])):=λx H=>by
      rw[H,Option.bind_some]at Z;have fO:AA f+2<=AA (J c):=by
       simp only[J];split
       ·simp[bF]
       ·simp[bF]
      have ne:c++[x]≠[]:=by simp
      have kq:AD (AA (J c)) [AA f+2] (AA f+2)=false:=by simp[AD]
      have aj:∀j,j<AA f+2->AD (AA (J c)) [AA f+2] j=false:=λj hj=>by simp[AD];omega
      refine bv [AA f+2] (c++[x]) _ _ ⟨by simp;omega,by rw[Z,C7];rfl⟩ (by simp;omega) (by simp) ?_ ?_ ?_
      ·have e1:J (c++[x])=(AA f+2,Ob.BG 3 1 ((c++[x]).map λ(x:Nat)=>iD x))::G (l.set e.length (Y (c++[x]))):=by simp[J]
       rw[e1,Xk,kq];simp only[BO,Bs];rw[Xh (by rw[bF];exact fO)]
      ·have:=Xi L;simp[aj id (by omega),aj N (by omega),aj (AA f+1) (by omega)]
      ·have e1:J (c++[x])=(AA f+2,Ob.BG 3 1 ((c++[x]).map λ(x:Nat)=>iD x))::G (l.set e.length (Y (c++[x]))):=by simp[J]
       rw[e1];simp only[AI];exact bN (by omega) (aj _ (by omega)) (aj _ (by omega)) (Yb (by simp[Y,V.BQ,BY,kq]) _ (an _))
     have ax:Cr (s.AL.map Aj.name) u.names[c.length]=none->R2 (.panic (.d Zw)) [] (J c):=λH=>by
      rw[H,Option.bind_none]at Z;refine bx _ _ _ ?_;have:=pn (by rw[KF,Z];rfl) c;simpa using this
     by_cases U:c=[]
     ·subst U;have a4:0<u.names.length:=ad;have w1:IntKind.i64.wrap 1=1:=w_i _ (by omega);have nx:=next
      simp[J,Y]at nx;have sp:=ax;simp[J,Y]at sp;simp[gS,a4,J,Y,bG,bS,bM,wl,F];refine⟨Zj hP (bM _) (λx H=>?_) (λH=>by simpa using sp H),Zj hP (bM _) (λx H=>?_) (λH=>by simpa using sp H)⟩
      ·simp[bF,bG,bS,wl,F,Dn,CA,Z7,AG,AB,w1];simpa using nx x H
      ·simp[bF,bG,bS,wl,F,Dn,CA,Z7,AG,AB,w1];simpa using nx x H
     ·have nx:=next
      simp[J,Y]at nx;have sp:=ax;simp[J,Y,U]at sp;have ba:(2*(c.length+1)+192)*8<=281474976710656:=by omega
      have al:∀l o,AB ((AA f+2,o)::G l) N=some (Qd (s.AL.map Aj.name)):=λl o=>by
       have:AA f+2≠N:=by have:=Xi L;omega
       rw[AB,Aq this,bM]
      simp[gS,ad,J,Y,U,bG,bS,bM,wl,F];refine⟨Zj hP (al _ _) (λx H=>?_) (λH=>by simpa using sp H),Zj hP (al _ _) (λx H=>?_) (λH=>by simpa using sp H)⟩
      ·simp[bF,bG,bS,wl,F,Dn,CA,Z7,AG,AB,bi,ba];simpa using nx x H
      ·simp[bF,bG,bS,wl,F,Dn,CA,Z7,AG,AB,bi,ba];simpa using nx x H
    ·have bo:c.length=u.names.length:=by omega
     rw[bo,List.drop_length,NI]at Z;simp[gS,ad];refine bu _ _ _ ?_;have bf:Cr (s.AL.map Aj.name) u.name=none->R (.panic (.d Zw)) [] (J c):=λH=>by
      have:=pn (by rw[KF,Z,Option.bind_some,H];rfl) c;simpa using this
     have hR:∀t,Cr (s.AL.map Aj.name) u.name=some t->KF (s.AL.map Aj.name) u=some {u with Aw:=c.map Int.ofNat,B8:=t}:=λt ht=>by
      rw[KF,Z,Option.bind_some,ht];rfl
     have Cq:∀t ak,Cr (s.AL.map Aj.name) u.name=some t->Wk ak ((AA f+2,.An)::G (l.set e.length (Hb {u with Aw:=c.map Int.ofNat,B8:=t})))\/ak=G (l.set e.length (Hb {u with Aw:=c.map Int.ofNat,B8:=t}))->R .normal [(1,.ep id m 6 i 0 []),(2,.mp N),(87,.d (.int .i64 s.Ac.length)),(88,.d (.int .i64 (e.length+1:Nat)))] ak:=λt ak ht hw=>by
      rw[hR t ht,Option.bind_some]at aa;have hz:=ws {u with Aw:=c.map Int.ofNat,B8:=t};rw[hz]at hw;have ac:∃au,Wk ak au/\Xk (AD (AA (G l)) []) au=G ((e++[{u with Aw:=c.map Int.ofNat,B8:=(t:Int) }]).map Hb++(s.Ac.drop (e++[{u with Aw:=c.map Int.ofNat,B8:=(t:Int) }]).length).map Nu):=by
       rcases hw with hw|rfl
       ·refine⟨_,hw,?_⟩;have kg:AD (AA (G l)) [] (AA f+2)=true:=by simp[AD,bF]
        rw[Xk,BS kg,Xh (by rw[bF,bF];omega)]
       ·exact⟨_,Wk.refl _,Xh (by rw[bF,bF];omega)⟩
      obtain⟨au,w1,w2⟩:=ac;refine rn [] (e++[{u with Aw:=c.map Int.ofNat,B8:=t}]) _ _ au w1 ⟨by simp;omega,by rw[aa,C7];rfl⟩ (by simp;omega) (by simp) ?_ ?_ ?_
      ·rw[bc];exact w2
      ·have:=Xi L;simp[bF,AD];omega
      ·refine bN (by rw[bF];omega) (by simp[AD,bF]) (by simp[AD,bF]) ?_;rw[<-hz];exact Yb rfl _ (an _)
     by_cases U:c=[]
     ·have sp:=bf;simp[J,Y,U]at sp;simp[J,Y,U,bG,bS,bM,wl,F];refine Zj hP (bM _) (λt ht=>?_) (λH=>by simpa using sp H);simp[bG,bS,wl,F,Dn,CA,Z7,wr];have:=Cq t _ ht (.inr rfl);simpa[U,Hb,JM,Xg,iD]using this
     ·have al:∀l o,AB ((AA f+2,o)::G l) N=some (Qd (s.AL.map Aj.name)):=λl o=>by
       have:AA f+2≠N:=by have:=Xi L;omega
       rw[AB,Aq this,bM]
      have sp:=bf;simp[J,Y,U]at sp;simp[J,Y,U,bG,bS,bM,wl,F,AB];refine Zj hP (al _ _) (λt ht=>?_) (λH=>by simpa using sp H);simp[bG,bS,wl,F,Dn,CA,Z7,wr,AB,AG];have f2:=Cq t ((AA f+2,Ob.BG 3 1 (c.map λ(x:Nat)=>iD x))::G (l.set e.length (.agg [.d (.AH 1 (u.names.map .AU)),.d (.AU u.name),.sl (AA f+2) c.length,.d (.int .i64 t)]))) ht (.inl ?_)
      ·simpa using f2
      ·obtain⟨Q,W⟩:∃Q,Q=(AA f+2,Ob.BG 3 1 (c.map λ(x:Nat)=>iD x))::G (l.set e.length (.agg [.d (.AH 1 (u.names.map .AU)),.d (.AU u.name),.sl (AA f+2) c.length,.d (.int .i64 t)])):=⟨_,rfl⟩
       have O9:¬AA f+2=AA f+1:=by omega
       have li:AB Q (AA f+1)=some (.Ay 162 4 (l.set e.length (.agg [.d (.AH 1 (u.names.map .AU)),.d (.AU u.name),.sl (AA f+2) c.length,.d (.int .i64 t)]))):=by rw[W,AB,Aq O9,bG]
       have lf:AB Q (AA f+2)=some (.BG 3 1 (c.map λ(x:Nat)=>iD x)):=by rw[W,AB,BS rfl]
       have g:DC 3 Q (.agg [.d (.AH 1 (u.names.map .AU)),.d (.AU u.name),.sl (AA f+2) c.length,.d (.int .i64 t)])=some (.agg [.AH 1 (u.names.map .AU),.AU u.name,.AH 1 (c.map λ(x:Nat)=>iD x),.int .i64 t],AG Q (AA f+2) .An):=by
        have hd:∀(x:D)(o:AF),DC 2 o (.d x)=some (x,o):=λx o=>rfl;show FX (E8 (DC 2) Q _)=_;simp only[E8,hd,Yje (k:=1) (n:=c.length) lf (by decide) (by simp),Qg,FX]
       have sg:AG Q (AA f+2) .An=(AA f+2,.An)::G (l.set e.length (.agg [.d (.AH 1 (u.names.map .AU)),.d (.AU u.name),.sl (AA f+2) c.length,.d (.int .i64 t)])):=by rw[W];simp[AG]
       have ac:=PV li (i:=e.length) (v:=.agg [.d (.AH 1 (u.names.map .AU)),.d (.AU u.name),.sl (AA f+2) c.length,.d (.int .i64 t)]) (by rw[List.getElem?_set_self (by omega)]) g (by rw[sg,AB,Aq O9,bG]) rfl;rw[<-W];have af:AG (AG Q (AA f+2) .An) (AA f+1) (.Ay 162 4 ((l.set e.length (.agg [.d (.AH 1 (u.names.map .AU)),.d (.AU u.name),.sl (AA f+2) c.length,.d (.int .i64 t)])).set e.length (.d (.agg [.AH 1 (u.names.map .AU),.AU u.name,.AH 1 (c.map λ(x:Nat)=>iD x),.int .i64 t]))))=(AA f+2,.An)::G (l.set e.length (Hb {u with Aw:=c.map Int.ofNat,B8:=t})):=by
        rw[sg,AG,Aq O9,bS,List.set_set];have:Hb {u with Aw:=c.map Int.ofNat,B8:=(t:Int) }=.d (.agg [.AH 1 (u.names.map .AU),.AU u.name,.AH 1 (c.map λ(x:Nat)=>iD x),.int .i64 t]):=by
         simp[Hb,JM,U,Xg,X4]
        rw[this]
       rw[af]at ac;exact ac
   ·have a0:e.length=s.Ac.length:=by omega
    rw[a0,List.drop_length,Db]at aa;simp[tN,F];refine re _ _ _ ?_;simp;have e0:(s.Ac.map Nu).drop e.length=[]:=HO (by simp[a0]);rw[e0,GJ];rw[aa]at sR;have hq:Uc y.Aa (y.Am.map A0.name) s=some {s with CF:=(n:Int),AL:=d,Ac:=e}:=by rw[sR];rfl
    have kq:∀j,AA f<=j->j<=AA f+1->AD (AA f) [AA f,AA f+1] j=false:=λj h1 h2=>by simp[AD];omega
    have dB:∀l,Xk (AD (AA f) [AA f,AA f+1]) (G l)=G l:=λl=>by simp[G,Xk,kq]
    have be:¬AA f+1=AA f:=by omega
    have lG:AB (G (e.map Hb)) (AA f+1)=some (.Ay 162 4 (e.map λx=>V.d (JM x))):=bG _;have lF:AB (G (e.map Hb)) (AA f)=some (.Ay 158 11 (d.map λx=>V.d x.enc)):=by
     show AB ((AA f+1,_)::(AA f,_)::AG f id _) (AA f)=_;rw[AB,Aq be,AB,BS rfl];rfl
    obtain⟨Q,W⟩:∃Q,Q=G (e.map Hb):=⟨_,rfl⟩
    rw[<-W]at lG lF⊢;have li:AB Q id=some (.Ay 72 6 vd):=by rw[W,bI]
    have g2:AB (AG Q (AA f) .An) (AA f+1)=some (.Ay 162 4 (e.map λx=>V.d (JM x))):=by
     rw[Xb Q (AA f) (AA f+1) ⟨_,lF⟩,Aq be,lG]
    have g:DC 3 Q (.agg [.d (.AU s.name),.d (.AU s.Eg),.d (.int .i64 n),.d (iD s.BU),.sl (AA f) s.AL.length,.sl (AA f+1) s.Ac.length])=some (.agg [.AU s.name,.AU s.Eg,.int .i64 n,iD s.BU,.AH 11 (d.map Aj.enc),.AH 4 (e.map JM)],AG (AG Q (AA f) .An) (AA f+1) .An):=by
     have hd:∀(x:D)(o:AF),DC 2 o (.d x)=some (x,o):=λx o=>rfl;show FX (E8 (DC 2) Q _)=_;simp only[E8,hd,Ig (k:=0) (n:=s.AL.length) Aj.enc lF (by decide) az.symm,Ig (k:=0) (n:=s.Ac.length) JM g2 (by decide) a0.symm,Qg,FX]
    have sg:AG (AG Q (AA f) .An) (AA f+1) .An=(AA f+1,.An)::(AA f,.An)::AG f id (.Ay 72 6 vd):=by
     rw[W];show AG (AG ((AA f+1,_)::(AA f,_)::AG f id _) _ _) _ _=_;simp[AG]
    have bq:AB (AG (AG Q (AA f) .An) (AA f+1) .An) id=some (.Ay 72 6 vd):=by
     rw[sg,AB,Aq nF,AB,Aq ab,Xb f id id ⟨_,hi⟩,BS rfl]
    have ac:=PV li (i:=i) (by rw[DN (by omega),bg]) g bq rfl;have af:AG (AG (AG Q (AA f) .An) (AA f+1) .An) id (.Ay 72 6 (vd.set i (.d (.agg [.AU s.name,.AU s.Eg,.int .i64 n,iD s.BU,.AH 11 (d.map Aj.enc),.AH 4 (e.map JM)]))))=(AA f+1,.An)::(AA f,.An)::AG f id (.Ay 72 6 (vs.set i (.d (KL {s with CF:=(n:Int),AL:=d,Ac:=e})))):=by
     rw[sg,AG,Aq nF,AG,Aq ab,Yh,ai,X,List.set_set,List.set_set];rfl
    rw[af]at ac;have dk:Xk (AD (AA f) [AA f,AA f+1]) Q=Q:=by rw[W];exact dB _
    refine⟨[AA f,AA f+1],by simp,by rw[dk,W];exact bN (Bg _) (kq _ (by omega) (by omega)) (kq _ (by omega) (by omega)) (X8 _ _),_,by rw[dk];exact ac,[],by simp[BN.BQ],?_,?_⟩
    ·simp[AD,Xk];exact Xx (Yb rfl _ (a5 _)) (ag _)
    ·simp[AD,Xk];exact h1 _ hq
 ·simp;have ah:=h0 (by rw[Uc,hn];rfl);have dk:Xk (AD (AA f) []) f=f:=by simp
  refine⟨[],by simp,by simpa using ag [],_,Wk.refl _,[],by simp[BN.BQ],by simpa using ag [],?_⟩;simpa using ah f rfl rfl
omit hP
structure TL(T:V)(lid:Nat)(tob:BE->Ob):Prop where
 nil:MF T
 fa:∀ob t k,AB ob lid=some (tob t)->k<5->Ie ob k k T
 nmV:∀ob t,AB ob lid=some (tob t)->Gp ob (Vt 0 0 T)=.d (.AU t.name)
 nmS:∀ob t,AB ob lid=some (tob t)->IG ob 1 false (Vt 0 0 T)
 paV:∀ob t,AB ob lid=some (tob t)->Gp ob (Vt 1 1 T)=.d (.AU t.path)
 paS:∀ob t,AB ob lid=some (tob t)->IG ob 1 false (Vt 1 1 T)
 vaV:∀ob t,AB ob lid=some (tob t)->Gp ob (Vt 2 2 T)=.d (iD t.var)
 vaS:∀ob t,AB ob lid=some (tob t)->IG ob 1 false (Vt 2 2 T)
 stv:∀ob t x (K:V->AF->Prop),AB ob lid=some (tob t)->K .undef (AG ob lid (tob {t with var:=x}))->Hk ob 1 (.d (.int .i64 x)) K (Vt 2 2 T)
 stf:∀ob t x (K:V->AF->Prop),AB ob lid=some (tob t)->K .undef (AG ob lid (tob {t with field:=x}))->Hk ob 1 (.d (.int .i64 x)) K (Vt 3 3 T)
def TN(a:List V)(k:Nat)(x:Av)(t:BE):Ob:=.Ay 168 8 (a.set k (.d ({x with CB:=t}:Av).enc))
def TE(b:List V)(k:Nat)(x:BP)(t:BE):Ob:=.Ay 173 11 (b.set k (.d ({x with a:=t}:BP).enc))
def TF(a:List V)(k:Nat)(x:BP)(t:BE):Ob:=.Ay 173 11 (a.set k (.d ({x with b:=t}:BP).enc))
def TG(a:List V)(k:Nat)(x:Bo)(t:BE):Ob:=.Ay 177 7 (a.set k (.d ({x with Cd:=t}:Bo).enc))
def Ytx{b:List V}{k n a:Nat}(x:Av)(d:k<b.length)(f:b.length=n):TL (.ep a n 8 k 3 [3]) a (TN b k x):=by
 subst f;refine⟨by simp,λe t k h _=>by simp,?_,?_,?_,?_,?_,?_,?_,?_⟩
 iterate 6 exact λe t h=>by simp[h,TN,Av.enc,BE.enc,d]
 iterate 2 exact λe t x K h c=>by simp[h,TN,Av.enc,BE.enc,d]at c⊢;simpa[Dn,CA,Z7]using c
def Y4f{b:List V}{k n a:Nat}(x:BP)(d:k<b.length)(f:b.length=n):TL (.ep a n 11 k 1 [1]) a (TE b k x):=by
 subst f;refine⟨by simp,λe t k h _=>by simp,?_,?_,?_,?_,?_,?_,?_,?_⟩
 iterate 6 exact λe t h=>by simp[h,TE,BP.enc,BE.enc,d]
 iterate 2 exact λe t x K h c=>by simp[h,TE,BP.enc,BE.enc,d]at c⊢;simpa[Dn,CA,Z7]using c
def Y4g{b:List V}{k n a:Nat}(x:BP)(d:k<b.length)(f:b.length=n):TL (.ep a n 11 k 6 [2]) a (TF b k x):=by
 subst f;refine⟨by simp,λe t k h _=>by simp,?_,?_,?_,?_,?_,?_,?_,?_⟩
 iterate 6 exact λe t h=>by simp[h,TF,BP.enc,BE.enc,d]
 iterate 2 exact λe t x K h c=>by simp[h,TF,BP.enc,BE.enc,d]at c⊢;simpa[Dn,CA,Z7]using c
def Y4h{b:List V}{k n a:Nat}(x:Bo)(d:k<b.length)(f:b.length=n):TL (.ep a n 7 k 2 [2]) a (TG b k x):=by
 subst f;refine⟨by simp,λe t k h _=>by simp,?_,?_,?_,?_,?_,?_,?_,?_⟩
 iterate 6 exact λe t h=>by simp[h,TG,Bo.enc,BE.enc,d]
 iterate 2 exact λe t x K h c=>by simp[h,TG,Bo.enc,BE.enc,d]at c⊢;simpa[Dn,CA,Z7]using c
include hP
theorem VK{y:Ai}{b:AF}{lid W vm rb ub m um ui G nf:Nat}{T:V}{tob:BE->Ob}(c:TL T lid tob){t:BE}(Y:AB b lid=some (tob t)){vs:List Av}(hs:∀x∈vs,∃s:Nat,x.Ag=s/\s<y.AE.length)
 (hc:RC y b) (ad:AB b W=some (.box 102 (.mp vm))) (ak:AB b vm=some (Qd (vs.map Av.name))) (af:AB b rb=some (.box 85 (.ptr 4 []))) (ah:AB b ub=some (.box 107 (.ep m um 5 ui 0 [])))
 {Z:List V} {w0 w1 w3 w4:V} (hu:AB b m=some (.Ay 77 5 Z)) (aj:Z.length=um) (ai:Z[ui]? = some (.agg [w0,w1,.sl G nf,w3,w4])) (ag:w0.shape=.AR/\w1.shape=.AR/\w3.shape=.AR/\w4.shape=.AR)
 (hF:∀a,∃X,AB (AG b lid (tob a)) G=some (.Ay 168 8 X)/\X.length=nf/\∀(v:Nat)(x:Av),vs[v]? = some x->X[v]? = some (.d x.enc))
 (k:lid≠W/\lid≠vm/\lid≠rb/\lid≠ub/\lid≠m) (o:∀a,RC y (AG b lid (tob a))) (H:∀p a,AI p b=true->AI p (AG b lid (tob a))=true) {K:BN->AF->Prop}
 (h1:∀a,HT y.AE vs t=some a->K (.ret (.BT [])) (AG b lid (tob a))) (h0:HT y.AE vs t=none->∀a,K (.panic (.d Zw)) (AG b lid (tob a))):
 AX P 109 [T,.ptr W [],.ptr rb [],.ptr ub []] b K:=by
 refine Xt hP AQ Zb1 Y8k A4.nil λ_ J=>?_;have g:∀{a:BE},AB (AG b lid (tob a)) lid=some (tob a):=λ{a}=>by rw[Xb b lid lid ⟨_,Y⟩,BS rfl]
 have ss:∀{a u:BE},AG (AG b lid (tob a)) lid (tob u)=AG b lid (tob u):=λ{a u}=>Yh b;have l:∀{j:Nat}{a:BE},lid≠j->AB (AG b lid (tob a)) j=AB b j:=λ{j a} h=>by rw[Xb b lid j ⟨_,Y⟩,Aq (λe=>h e.symm)]
 simp[Y5d,c.nil,c.fa b t 2 Y (by omega)];refine c.stv b t _ _ Y ?_;refine⟨c.fa _ _ 3 g (by omega),?_⟩;refine c.stf _ _ _ _ g ?_;rw[ss];have Q:∀a,HT y.AE vs t=some a->Yk (AA b) (K (.ret (.BT []))) [] (AG b lid (tob a)):=λa e=>⟨[],by simp,by simpa[AD]using H _ a (J []),by simpa[AD]using h1 a e⟩;have O:HT y.AE vs t=none->∀a,Yk (AA b) (K (.panic (.d Zw))) [.d Zw] (AG b lid (tob a)):=λe a=>⟨[],by simp,by simpa[AD]using H _ a (J []),by simpa[AD]using h0 e a⟩;have f0:∀a,Ie (AG b lid (tob a)) 0 0 T:=λa=>c.fa _ _ 0 g (by omega);have f1:∀a,Ie (AG b lid (tob a)) 1 1 T:=λa=>c.fa _ _ 1 g (by omega);have f2:∀a,Ie (AG b lid (tob a)) 2 2 T:=λa=>c.fa _ _ 2 g (by omega);have f3:∀a,Ie (AG b lid (tob a)) 3 3 T:=λa=>c.fa _ _ 3 g (by omega);have nV:∀a,Gp (AG b lid (tob a)) (Vt 0 0 T)=.d (.AU a.name):=λa=>c.nmV _ _ g;have nS:∀a,IG (AG b lid (tob a)) 1 false (Vt 0 0 T):=λa=>c.nmS _ _ g;have pV:∀a,Gp (AG b lid (tob a)) (Vt 1 1 T)=.d (.AU a.path):=λa=>c.paV _ _ g;have pS:∀a,IG (AG b lid (tob a)) 1 false (Vt 1 1 T):=λa=>c.paS _ _ g;have vV:∀a,Gp (AG b lid (tob a)) (Vt 2 2 T)=.d (iD a.var):=λa=>c.vaV _ _ g;have vS:∀a,IG (AG b lid (tob a)) 1 false (Vt 2 2 T):=λa=>c.vaS _ _ g;have al:∀a,AB (AG b lid (tob a)) W=some (.box 102 (.mp vm)):=λa=>by rw[l k.1,ad]
 have an:∀a,AB (AG b lid (tob a)) rb=some (.box 85 (.ptr 4 [])):=λa=>by rw[l k.2.2.1,af]
 have ao:∀a,AB (AG b lid (tob a)) ub=some (.box 107 (.ep m um 5 ui 0 [])):=λa=>by rw[l k.2.2.2.1,ah]
 have U:∀a,AB (AG b lid (tob a)) m=some (.Ay 77 5 Z):=λa=>by rw[l k.2.2.2.2,hu]
 by_cases z:t.name=[]
 ·simp[f0,nV,nS,z];have:=Q {t with var:=-1,field:=0} (by rw[HT,BS z]);simpa[z]using this
 ·have i:HT y.AE vs t=(Cr (vs.map Av.name) t.name).bind λ(v:Nat)=>(vs[v]?).bind λx=>(Cr (Yr y.AE x.Ag) t.path).map λ(f:Nat)=>{t with var:=v,field:=f}:=by rw[HT,Aq z]
  simp[f0,nV,nS,z,al];refine Zj hP (by rw[l k.2.1];exact ak) (λv hv=>?_) (λhx=>?_)
  ·simp[f2];refine c.stv _ _ _ _ g ?_;rw[ss];have r:v<vs.length:=by simpa using QV hv
   obtain⟨sx,N,L⟩:=hs _ (Ci r);obtain⟨X,g1,g2,g3⟩:=hF {t with var:=(v:Int),field:=0};have gv:=g3 v _ (DN r);obtain⟨gl,ge⟩:=Ek.1 gv;obtain⟨ul,ue⟩:=Ek.1 ai;have ap:ui<um:=by omega
   have ac:v<nf:=by omega
   have fe:∀x:Av,x.enc=.agg [.AU x.name,.AU x.kind,iD x.Ag,.agg [.AU x.CB.name,.AU x.CB.path,iD x.CB.var,iD x.CB.field,iD x.CB.n]]:=λ_=>rfl;rw[fe]at ge;rw[hv,Option.bind_some,DN r,Option.bind_some]at i;have ae:Yr y.AE vs[v].Ag=EO y.AE sx:=by
    rw[N];unfold Yr EO;simp only[Int.toNat_natCast];cases y.AE[sx]?<;>rfl
   rw[ae]at i;rw[N]at ge;have F:y.AE.length≠0:=by omega
   have c4:=(o {t with var:=(v:Int),field:=0}).o4;have w:=(o {t with var:=(v:Int),field:=0}).Ri F;have cm:=(o {t with var:=(v:Int),field:=0}).om sx L;generalize q:({t with var:=(v:Int),field:=0}:BE)=t2 at g1 c4 w cm;have ab:t2.var=v:=by rw[<-q]
   have aa:t2.path=t.path:=by rw[<-q]
   simp[f1,f2,f3,pV,pS,vV,vS,an,ao,U,c4,w,g1,g2,gl,ge,aj,ul,ue,ap,ac,ab,aa,Hf,F,L,Vc,Ua,ag];refine Zj hP cm (λf hf=>?_) (λhx=>?_)
   ·simp[f3];refine c.stf _ _ _ _ g ?_;rw[ss];refine Q _ ?_;rw[i,hf,<-q];rfl
   ·simp;exact O (by rw[i,hx];rfl) _
  ·simp;exact O (by rw[i,hx];rfl) _
omit hP
def zW(l a:List B):∀k,k<=l.length->Zu (l++a) k=Zu l k
|0,_=>rfl
|k+1,h=>by
 have c:=zW l a k (by omega);have b:k<l.length:=h;rw[Zu,Zu,c,Rx b,List.take_append_of_le_length (by omega)]
def X57{l:List B}{x:B}(h:x∉l):Zu (l++[x]) (l++[x]).length=Zu l l.length++[(.AU x,.d (.int .i64 l.length))]:=by
 rw[C7,List.length_singleton,Zu,Rw (Bg _),Nat.sub_self];simp only[List.getElem?_cons_zero,List.take_left'];rw[Aq h,zW _ _ _ (Bg _)]
def Fe(x:Av):V:=.d x.enc
def E6(x:BP):V:=.d x.enc
def Iu(x:Bo):V:=.d x.enc
def X5z:Xd prog 109=true:=by kernel_rfl
include hP
theorem Xxk{a:List D}(c:∀x∈a,x.sz=8)(e:a.length<=1000000){b:AF}{K:V->AF->Prop}(h:K (.sl (AA b) a.length) ((AA b,.Ay 168 8 (a.map .d))::b)):Cm P 108 [.d (.AH 8 a)] b K:=
 IP (ds:=[.AH 8 a]) (Wt hP AQ Zou c (by omega) ⟨rfl,rfl⟩) h
theorem Xxj{xs:List D}(b:∀x∈xs,x.sz=11)(c:xs.length<=1000000){a:AF}{K:V->AF->Prop}(h:K (.sl (AA a) xs.length) ((AA a,.Ay 173 11 (xs.map .d))::a)):Cm P 110 [.d (.AH 11 xs)] a K:=
 IP (ds:=[.AH 11 xs]) (Wt hP AQ Zov b (by omega) ⟨rfl,rfl⟩) h
theorem X3a{xs:List D}(b:∀x∈xs,x.sz=7)(c:xs.length<=1000000){a:AF}{K:V->AF->Prop}(h:K (.sl (AA a) xs.length) ((AA a,.Ay 177 7 (xs.map .d))::a)):Cm P 111 [.d (.AH 7 xs)] a K:=
 IP (ds:=[.AH 7 xs]) (Wt hP AQ Y7a b (by omega) ⟨rfl,rfl⟩) h
set_option maxHeartbeats 1000000 in
theorem Yor{y:Ai}{id m i:Nat}{Q:List V}{r:Ao}(cd:r.Ah.length<=1000000)(cn:r.Ap.length<=1000000)(cj:r.BJ.length<=1000000)(cg:(r.Ah.map Av.name).Nodup){X:AF}(hc:RC y X)(hi:AB X id=some (.Ay 77 5 Q))(hl:Q.length=m)(hv:Q[i]? = some (.d r.enc))(bx:∀p,BY p Q=false)(cs:id≠1/\id≠2){K:BN->AF->Prop}
 (h1:∀q,G2 y.AE r=some q->K (.ret (.BT [])) (AG X id (.Ay 77 5 (Q.set i (.d q.enc))))) (h0:G2 y.AE r=none->Pk K X):
 AX P 38 [.ptr 4 [],.ep id m 5 i 0 []] X K:=by
 refine AX.Gq ?_;refine Xt hP AQ Zsl Zpg A4.nil λ_ bh=>?_;obtain⟨N,a8⟩:=Ek.1 hv;have pe:r.enc=.agg [.AU r.head,iD r.Ag,.AH 8 (r.Ah.map Av.enc),.AH 11 (r.Ap.map BP.enc),.AH 7 (r.BJ.map Bo.enc)]:=rfl;rw[pe]at a8;have J:i<m:=by omega
 have l4:=Xi hc.o4;have l7:=Xi hc.o7;have a9:=Xi hi;obtain⟨f,hf⟩:∃f,f=AA X:=⟨_,rfl⟩
 have av:f≠id:=by omega
 have ac:f+1≠id:=by omega
 have c4:=hc.o4;have fo:AA X=f:=hf.symm;have ba:G2 y.AE r=none->∀(L:List Nat)(an:AF),Xk (AD f L) an=an->AI (AD f L) an=true->AB an 1=AB X 1->AB an 2=AB X 2->Yk f (λb=>∃b',Wk b b'/\∃x,BN.BQ (AD f x) (BN.panic (V.d Zw))=false/\AI (AD f x) (Xk (AD f x) b')=true/\K (BN.panic (V.d Zw)) (Xk (AD f x) b')) [V.d Zw] an:=λe L an q1 q2 q3 q4=>
  ⟨L,by simp,by rw[q1];exact q2,_,Wk.refl _,L,by simp[BN.BQ],by rw[q1,q1];exact q2,by rw[q1,q1];exact h0 e _ q3 q4⟩
 have cp:G2 y.AE r=none->Yk f (λb=>∃b',Wk b b'/\∃x,BN.BQ (AD f x) (BN.panic (V.d Zw))=false/\AI (AD f x) (Xk (AD f x) b')=true/\K (BN.panic (V.d Zw)) (Xk (AD f x) b')) [V.d Zw] ((f+1,.box 107 (.ep id m 5 i 0 []))::(f,.box 85 (.ptr 4 []))::X):=λe=>by
  refine ba e [f,f+1] _ ?_ ?_ ?_ ?_
  ·have:Xk (AD f [f,f+1]) X=X:=Xh (by omega);simp[Xk,AD,this]
  ·have q:=BV (l:=[f,f+1]) bh (n:=f) (by omega);have y1:AD f [f,f+1] id=false:=by simp[AD];omega
   have y2:AD f [f,f+1] 4=false:=by simp[AD];omega
   simp[AI,V.BQ,q,y1,y2]
  ·rw[AB,Aq (by omega),AB,Aq (by omega)]
  ·rw[AB,Aq (by omega),AB,Aq (by omega)]
 have be:∀n,n<=7->(f=n)=False:=λn hn=>eq_false (by omega);rw[fo];simp[Zm7,fo,c4,hi,hl,N,J,a8,be,av,ac];have o7:AB ((f+1,Ob.box 107 (V.ep id m 5 i 0 []))::(f,Ob.box 85 (V.ptr 4 []))::X) 7=some (Qd (y.AE.map AO.name)):=by
  rw[AB,Aq (by omega),AB,Aq (by omega),hc.o7]
 refine⟨Zj hP o7 (λn hn=>?a1) (λhn=>?b1),Zj hP o7 (λn hn=>?a2) (λhn=>?b2)⟩
 case b1|b2=>
  simp;exact cp (by rw[G2,hn];rfl)
 case a1|a2=>
  simp[fo,hi,hl,N,J,a8,be,av,ac,Dn,CA,Z7,AG];refine Xxk hP (by intro x hx;obtain⟨r,_,rfl⟩:=DY.1 hx;rfl) (by simpa using cd) ?_;have ad:f+2≠id:=by omega
  have b0:¬f+1<=f:=by omega
  have ap:f+3≠id:=by omega
  have aq:f+4≠id:=by omega
  have cc:f+1+3=f+4:=by omega
  simp[fo,hi,hl,N,J,a8,be,av,ac,ad,ap,aq,cc,b0,Dn,CA,Z7,AG,Yh];refine⟨⟨_,_,_,⟨rfl,rfl,rfl⟩,by simp⟩,?_⟩;have rR:G2 y.AE r=(Db (OU y.AE) [] r.Ah).bind λQ=>(D6 r.Ap (NT y.AE Q)).bind λws=>(D6 r.BJ (Nl y.AE n Q)).map λzs=>{r with Ag:=(n:Int),Ah:=Q,Ap:=ws,BJ:=zs}:=by rw[G2,hn,Option.bind_some]
  let R0:V->V->V:=λwv sv=>.agg [.d (.AU r.head),.d (.int .i64 n),.sl (f+2) r.Ah.length,wv,sv];let A:V->V->List V->List (D×V)->AF:=λwv sv fs ms=>(f+4,.box 102 (.mp (f+3)))::(f+3,.map ms)::(f+2,.Ay 168 8 fs)::(f+1,.box 107 (.ep id m 5 i 0 []))::(f,.box 85 (.ptr 4 []))::AG X id (.Ay 77 5 (Q.set i (R0 wv sv)));have aG:∀wv sv fs ms,AB (A wv sv fs ms) (f+2)=some (.Ay 168 8 fs):=λwv sv fs ms=>by simp[A,AB]
  have aS:∀wv sv fs ms bf,AG (A wv sv fs ms) (f+2) (.Ay 168 8 bf)=A wv sv bf ms:=λwv sv fs ms bf=>by simp[A,AG]
  have aM:∀wv sv fs ms,AB (A wv sv fs ms) (f+3)=some (.map ms):=λwv sv fs ms=>by simp[A,AB]
  have b8:∀wv sv fs ms bl,AG (A wv sv fs ms) (f+3) (.map bl)=A wv sv fs bl:=λwv sv fs ms bl=>by simp[A,AG]
  have aV:∀wv sv fs ms,AB (A wv sv fs ms) (f+4)=some (.box 102 (.mp (f+3))):=λwv sv fs ms=>by simp[A,AB]
  have aU:∀wv sv fs ms,AB (A wv sv fs ms) (f+1)=some (.box 107 (.ep id m 5 i 0 [])):=λwv sv fs ms=>by simp[A,AB]
  have aR:∀wv sv fs ms,AB (A wv sv fs ms) f=some (.box 85 (.ptr 4 [])):=λwv sv fs ms=>by simp[A,AB]
  have aO:∀wv sv fs ms j,j<f->j≠id->AB (A wv sv fs ms) j=AB X j:=λwv sv fs ms j hj ch=>by
   show AB ((f+4,_)::(f+3,_)::(f+2,_)::(f+1,_)::(f,_)::AG X id _) j=_;rw[AB,Aq (by omega),AB,Aq (by omega),AB,Aq (by omega),AB,Aq (by omega),AB,Aq (by omega),Xb X id j ⟨_,hi⟩,Aq ch]
  have aI:∀wv sv fs ms,AB (A wv sv fs ms) id=some (.Ay 77 5 (Q.set i (R0 wv sv))):=λwv sv fs ms=>by
   show AB ((f+4,_)::(f+3,_)::(f+2,_)::(f+1,_)::(f,_)::AG X id _) id=_;rw[AB,Aq aq,AB,Aq ap,AB,Aq ad,AB,Aq ac,AB,Aq av,Xb X id id ⟨_,hi⟩,BS rfl]
  have bp:∀wv sv fs ms bo bn,AG (A wv sv fs ms) id (.Ay 77 5 (Q.set i (.agg [.d (.AU r.head),.d (.int .i64 n),.sl (f+2) r.Ah.length,bo,bn])))=A bo bn fs ms:=λwv sv fs ms bo bn=>by
   show AG ((f+4,_)::(f+3,_)::(f+2,_)::(f+1,_)::(f,_)::AG X id _) id _=_;rw[AG,Aq aq,AG,Aq ap,AG,Aq ad,AG,Aq ac,AG,Aq av,Yh]
  have aC:∀wv sv fs ms,RC y (A wv sv fs ms):=λwv sv fs ms=>hc.of λj x hj hx=>by
   have h1:=Xi hj;rw[aO wv sv fs ms j (by omega) (λe=>by rw[e,hi]at hj;exact absurd (hx _ _ _ (GI hj).symm) (by decide)),hj]
  have aF:∀wv sv fs ms,AA (A wv sv fs ms)=f+5:=λwv sv fs ms=>by simp[A,fo,b0]
  have aN:∀{wv sv:V}{k:Nat}{L:List Nat}{fs:List V} {ms:List (D×V)},f<=k->(∀j,j<=f+4->AD k L j=false)->V.BQ (AD k L) wv=false->V.BQ (AD k L) sv=false->BY (AD k L) fs=false->Zd (AD k L) ms=false->AI (AD k L) (A wv sv fs ms)=true:=λ{wv sv k L fs ms} hk hy hw hs hu hm=>by
   simp only[A,AI,hu,hm,V.BQ,hy (f+3) (by omega),hy id (by omega),hy 4 (by omega),Bool.not_false,EN];refine Xx (Yb ?_ i (bx _)) (BV bh (by omega));simp[R0,V.BQ,BY,hy (f+2) (by omega),hw,hs]
  have aD:∀{wv sv:V}{k:Nat}{L:List Nat}{fs:List V} {ms:List (D×V)},f<=k->(∀j,j<=f+4->AD k L j=false)->Xk (AD k L) (A wv sv fs ms)=A wv sv fs ms:=λ{wv sv k L fs ms} hk hy=>by
   have:Xk (AD k L) (AG X id (.Ay 77 5 (Q.set i (R0 wv sv))))=AG X id (.Ay 77 5 (Q.set i (R0 wv sv))):=Xh (by simp;omega);simp only[A,Xk,hy (f+4) (by omega),hy (f+3) (by omega),hy (f+2) (by omega),hy (f+1) (by omega),hy f (by omega),BO,Bs,this]
  have k7:∀j,j<=f+6->AD f [f,f+1,f+2,f+3,f+4,f+5,f+6] j=false:=λj hj=>by simp[AD];omega
  have k5:∀j,j<=f+4->AD f [f,f+1,f+2,f+3,f+4,f+5,f+6] j=false:=λj hj=>k7 j (by omega);have pA:G2 y.AE r=none->∀wv sv fs ms,(∀p,V.BQ p wv=false)->(∀p,V.BQ p sv=false)->(∀p,BY p fs=false)->(∀p,Zd p ms=false)->Yk f (λb=>∃b',Wk b b'/\∃x,BN.BQ (AD f x) (BN.panic (V.d Zw))=false/\AI (AD f x) (Xk (AD f x) b')=true/\K (BN.panic (V.d Zw)) (Xk (AD f x) b')) [V.d Zw] (A wv sv fs ms):=λe wv sv fs ms g1 g2 g3 g4=>
   ba e [f,f+1,f+2,f+3,f+4,f+5,f+6] _ (aD (Bg _) k5) (aN (Bg _) k5 (g1 _) (g2 _) (g3 _) (g4 _)) (aO wv sv fs ms 1 (by omega) (by omega)) (aO wv sv fs ms 2 (by omega) (by omega))
  obtain⟨aj,a0⟩:∃x,x=V.d (.AH 11 (r.Ap.map BP.enc)):=⟨_,rfl⟩
  obtain⟨Z,az⟩:∃x,x=V.d (.AH 7 (r.BJ.map Bo.enc)):=⟨_,rfl⟩
  have b5:∀p,V.BQ p aj=false:=λp=>by rw[a0];rfl
  have bm:∀p,V.BQ p Z=false:=λp=>by rw[az];rfl
  have ai:aj.shape=.AR:=by rw[a0];rfl
  have ab:Z.shape=.AR:=by rw[az];rfl
  have ao:Xd P.p 109=true:=by rw[hP];exact X5z
  have Y:∀wv sv,(Q.set i (R0 wv sv)).length=m:=λwv sv=>by simpa using hl
  have a7:=λwv sv fs ms=>(aC wv sv fs ms).o7;have a4:=λwv sv fs ms=>(aC wv sv fs ms).o4;show Au _ _ _ _ (A (V.d (.AH 11 (r.Ap.map BP.enc))) (V.d (.AH 7 (r.BJ.map Bo.enc))) (r.Ah.map (V.d∘Av.enc)) []);rw[<-a0,<-az];refine Au.go (ι:=List Av) (λd=>[(2,.ptr f []),(3,.ptr (f+1) []),(4,.ptr (f+4) []),(5,.fn 109 [] [.ptr (f+4) [],.ptr f [],.ptr (f+1) []]),(36,.d (.int .i64 r.Ah.length)),(37,.d (.int .i64 d.length))])
   (λd=>A aj Z ((d++r.Ah.drop d.length).map Fe) (Zu (d.map Av.name) d.length)) (λd=>d.length<=r.Ah.length/\Db (OU y.AE) [] r.Ah=Db (OU y.AE) d (r.Ah.drop d.length)/\(∀x∈d,∃s:Nat,x.Ag=s/\s<y.AE.length)/\d.map Av.name=(r.Ah.take d.length).map Av.name) (λd=>r.Ah.length-d.length) [] ⟨by simp,rfl,by simp,by simp⟩ (by simp) (by simp[Zu];rfl) ?_
  rintro d ⟨hd,hg,ax,bt⟩ R rn re rr rp;have wl:((d++r.Ah.drop d.length).map Fe).length=r.Ah.length:=by simp;omega
  by_cases G:d.length<r.Ah.length
  ·have wr:IntKind.i64.wrap ((d.length:Int)+1)=(d.length:Int)+1:=w_i _ (by omega);have wk:=K4 Fe G;have ws:=Kz Fe G;rw[D5 G,Z4]at hg;have bi:r.Ah[d.length].name∉d.map Av.name:=by
    rw[bt];have h:=cg;rw[<-Lu d.length r.Ah,Ky,FC,D5 G]at h;exact λhm=>h.2.2 _ hm _ (DY.2 ⟨_,List.mem_cons_self,rfl⟩) rfl
   have bc:(r.Ah.take (d.length+1)).map Av.name=d.map Av.name++[r.Ah[d.length].name]:=by
    rw[D2 G,Ky,bt];rfl
   generalize hu:r.Ah[d.length]=u at hg wk bi bc;have ue:Fe u=.d (.agg [.AU u.name,.AU u.kind,iD u.Ag,.agg [.AU u.CB.name,.AU u.CB.path,iD u.CB.var,iD u.CB.field,iD u.CB.n]]):=rfl;simp only[ue]at wk;generalize au:(d++r.Ah.drop d.length).map Fe=c at wl wk ws;simp[tS,G,aU,aR,aI,aG,aS,aV,aM,a4,Y,N,J,R0,wl,wk,ai,ab];have H:∀p,BY p c=false:=λp=>by rw[<-au];exact X8 _ _
   have W:OU y.AE d u=(Cr (y.AE.map AO.name) u.kind).bind λ(n:Nat)=>(HT y.AE d u.CB).map λt=>{u with Ag:=n,CB:=t}:=rfl;have O:OU y.AE d u=none->∀w,(∀p,BY p w=false)->R (.panic (.d Zw)) [] (A aj Z w (Zu (d.map Av.name) d.length)):=λe w ag=>by
    refine rp _ _ _ ?_;simp;exact pA (by rw[rR,hg,e];rfl) _ _ _ _ b5 bm ag (λp=>Zh _ _ _)
   refine Zj hP (a7 aj Z c (Zu (d.map Av.name) d.length)) (λs hs=>?_) (λhx=>O (by rw[W,hx];rfl) _ H);have ck:s<y.AE.length:=by simpa using QV hs
   simp[aG,aS,wl,wk,G,ao];let x:Av:={u with Ag:=(s:Int) }
   have ae:d.length<c.length:=by omega
   have oe:∀F fs,AG (A aj Z fs (Zu (d.map Av.name) d.length)) (f+2) (TN c d.length x F)=A aj Z (c.set d.length (.d ({x with CB:=F}:Av).enc)) (Zu (d.map Av.name) d.length):=λF fs=>aS _ _ _ _ _;have ay:∀(v:Nat)(z:Av),d[v]? = some z->c[v]? = some (.d z.enc):=λv z hz=>by
    have hv:v<d.length:=(Ek.1 hz).1;rw[<-au,List.getElem?_map,Rx hv,hz];rfl
   refine VK hP (T:=.ep (f+2) r.Ah.length 8 d.length 3 [3]) (lid:=f+2) (tob:=TN c d.length x) (Ytx x ae wl) (t:=u.CB) (vs:=d) (by rw[aG];rfl) ax (aC _ _ _ _) (aV _ _ _ _) (by rw[aM,Qd,List.length_map]) (aR _ _ _ _) (aU _ _ _ _) (aI _ _ _ _) (Y _ _) (by rw[List.getElem?_set_self N]) ⟨rfl,rfl,ai,ab⟩
    (λF=>⟨_,by rw[oe,aG],by simpa using wl,λv z hz=>?_⟩) ⟨by omega,by omega,by omega,by omega,ad⟩ (λF=>by rw[oe];exact aC _ _ _ _) (λp F hp=>Xx (Yb rfl _ (H _)) hp) (λF ht=>?_) (λht F=>?_)
   ·have hv:v<d.length:=(Ek.1 hz).1;rw[List.getElem?_set_ne (by omega),ay v z hz]
   ·have xe:({x with CB:=F}:Av).enc=.agg [.AU u.name,.AU u.kind,iD s,.agg [.AU F.name,.AU F.path,iD F.var,iD F.field,iD F.n]]:=rfl;have hz:OU y.AE d u=some {x with CB:=F}:=by rw[W,hs,Option.bind_some,ht];rfl
    rw[hz,Option.bind_some]at hg;have ci:Y4 (.AU u.name) (Zu (d.map Av.name) d.length)=none:=by
     have:=Ji (d.map Av.name) u.name d.length (by simp);rw[M6 (by simp),P7.2 bi]at this;exact this
    rw[oe];simp[aG,aS,aV,aM,b8,wl,G,xe,Jj];rw[Ue _ _ _ ci];have e1:c.set d.length (V.d (.agg [.AU u.name,.AU u.kind,iD s,.agg [.AU F.name,.AU F.path,iD F.var,iD F.field,iD F.n]]))=((d++[{x with CB:=F}])++r.Ah.drop (d++[{x with CB:=F}]).length).map Fe:=ws {x with CB:=F};have e2:Zu (d.map Av.name) d.length++[(.AU u.name,V.d (.int .i64 d.length))]=Zu ((d++[{x with CB:=F}]).map Av.name) (d++[{x with CB:=F}]).length:=by
     have:=X57 bi;simpa using this.symm
    rw[e1,e2];have y5:∀j,j<=f+4->AD (f+5) [] j=false:=λj hj=>by simp[AD];omega
    refine rn [] (d++[{x with CB:=F}]) _ _ ⟨by simp;omega,by rw[hg,C7];rfl,?_,?_⟩ (by simp;omega) (by simp[wr]) ?_ ?_ ?_
    ·intro z hz;rcases DT.1 hz with hz|hz
     ·exact ax z hz
     ·rw[E3]at hz;exact⟨s,by rw[hz],ck⟩
    ·rw[Ky,C7,List.length_singleton,bc];rfl
    ·rw[aF];exact aD (by omega) y5
    ·rw[aF];simp[y5 f (by omega),y5 (f+1) (by omega),y5 (f+4) (by omega)]
    ·rw[aF];exact aN (by omega) y5 (b5 _) (bm _) (X8 _ _) (Zh _ _ _)
   ·rw[oe];exact O (by rw[W,hs,Option.bind_some,ht];rfl) _ (λp=>Yb rfl _ (H _))
  ·have a5:d.length=r.Ah.length:=by omega
   rw[a5,List.drop_length,Db]at hg;simp[tS,G];refine re _ _ _ ?_;have e:d.map Fe++(r.Ah.map Fe).drop d.length=d.map Fe:=by rw[HO (by simp[a5]),GJ]
   rw[e];rw[hg,Option.bind_some]at rR;simp[aU,aI,Y,N,J,R0,ai,ab];refine⟨by rw[a0],?_⟩;rw[show[aj]=[V.d (.AH 11 (r.Ap.map BP.enc))] by rw[a0]];refine Xxj hP (xs:=r.Ap.map BP.enc) (by intro x hx;obtain⟨r,_,rfl⟩:=DY.1 hx;rfl) (by simpa using cn) ?_;rw[aF];have aa:∀j,j<=f+4->¬f+5=j:=λj hj=>by omega
   have U:f+5≠id:=by omega
   let B2:List V->AF:=λc=>(f+5,.Ay 173 11 c)::A (.sl (f+5) r.Ap.length) Z (d.map Fe) (Zu (d.map Av.name) d.length);have bG:∀c,AB (B2 c) (f+5)=some (.Ay 173 11 c):=λc=>by simp[B2,AB]
   have bS:∀c w,AG (B2 c) (f+5) (.Ay 173 11 w)=B2 w:=λc w=>by simp[B2,AG]
   have bL:∀c j,¬f+5=j->AB (B2 c) j=AB (A (.sl (f+5) r.Ap.length) Z (d.map Fe) (Zu (d.map Av.name) d.length)) j:=λc j h=>by
    show AB ((f+5,_)::_) j=_;rw[AB,Aq h]
   have bF:∀c,AB (B2 c) (f+2)=some (.Ay 168 8 (d.map Fe)):=λc=>by rw[bL _ _ (aa _ (by omega)),aG]
   have bM:∀c,AB (B2 c) (f+3)=some (.map (Zu (d.map Av.name) d.length)):=λc=>by rw[bL _ _ (aa _ (by omega)),aM]
   have bV:∀c,AB (B2 c) (f+4)=some (.box 102 (.mp (f+3))):=λc=>by rw[bL _ _ (aa _ (by omega)),aV]
   have bU:∀c,AB (B2 c) (f+1)=some (.box 107 (.ep id m 5 i 0 [])):=λc=>by rw[bL _ _ (aa _ (by omega)),aU]
   have bR:∀c,AB (B2 c) f=some (.box 85 (.ptr 4 [])):=λc=>by rw[bL _ _ (aa _ (by omega)),aR]
   have bI:∀c,AB (B2 c) id=some (.Ay 77 5 (Q.set i (R0 (.sl (f+5) r.Ap.length) Z))):=λc=>by rw[bL _ _ U,aI]
   have bC:∀c,RC y (B2 c):=λc=>by
    have:=(aC (.sl (f+5) r.Ap.length) Z (d.map Fe) (Zu (d.map Av.name) d.length)).cons (.Ay 173 11 c)
    rwa [aF]at this
   have b4:=λc=>(bC c).o4;have a3:∀c,AA (B2 c)=f+6:=λc=>by
    show AA ((f+5,_)::A _ _ _ _)=_;have:¬f+5+1<=f+5:=by omega
    simp[aF]
   have bD:∀{k:Nat}{L:List Nat}{c:List V},f<=k->(∀j,j<=f+5->AD k L j=false)->Xk (AD k L) (B2 c)=B2 c:=λ{k L c} hk hy=>by
    show Xk _ ((f+5,_)::A _ _ _ _)=_;rw[Xk,hy _ (Bg _),aD hk (λj hj=>hy j (by omega))];rfl
   have bN:∀{k:Nat}{L:List Nat}{c:List V},f<=k->(∀j,j<=f+5->AD k L j=false)->BY (AD k L) c=false->AI (AD k L) (B2 c)=true:=λ{k L c} hk hy hu=>by
    show AI _ ((f+5,_)::A _ _ _ _)=_;have:=aN (wv:=.sl (f+5) r.Ap.length) (sv:=Z) (fs:=d.map Fe) (ms:=Zu (d.map Av.name) d.length) hk (λj hj=>hy j (by omega)) (by simp[V.BQ,hy (f+5) (Bg _)]) (bm _) (X8 _ _) (Zh _ _ _);simp only[AI,hu,this,Bool.not_false,EN]
   have k6:∀j,j<=f+5->AD f [f,f+1,f+2,f+3,f+4,f+5,f+6] j=false:=λj hj=>k7 j (by omega);have pB:G2 y.AE r=none->∀c,(∀p,BY p c=false)->Yk f (λb=>∃b',Wk b b'/\∃x,BN.BQ (AD f x) (BN.panic (V.d Zw))=false/\AI (AD f x) (Xk (AD f x) b')=true/\K (BN.panic (V.d Zw)) (Xk (AD f x) b')) [V.d Zw] (B2 c):=λe c g=>
    ba e [f,f+1,f+2,f+3,f+4,f+5,f+6] _ (bD (Bg _) k6) (bN (Bg _) k6 (g _)) (by rw[bL _ _ (by omega),aO _ _ _ _ 1 (by omega) (by omega)]) (by rw[bL _ _ (by omega),aO _ _ _ _ 2 (by omega) (by omega)])
   have ay:∀(v:Nat)(z:Av),d[v]? = some z->(d.map Fe)[v]? = some (.d z.enc):=λv z hz=>by rw[List.getElem?_map,hz];rfl
   have dl:(d.map Fe).length=r.Ah.length:=by simpa using a5
   simp[aU,aI,bp,Y,N,J,R0,ai,ab,aa,U,AB,Dn,CA,Z7,AG];refine⟨⟨_,_,_,⟨rfl,rfl,rfl⟩,by simp⟩,?_⟩;show Au _ _ _ _ (B2 (r.Ap.map (V.d∘BP.enc)));refine Au.go (ι:=List BP) (λe=>[(2,.ptr f []),(3,.ptr (f+1) []),(5,.fn 109 [] [.ptr (f+4) [],.ptr f [],.ptr (f+1) []]),(82,.d (.int .i64 r.Ap.length)),(83,.d (.int .i64 e.length))])
    (λe=>B2 ((e++r.Ap.drop e.length).map E6)) (λe=>e.length<=r.Ap.length/\D6 r.Ap (NT y.AE d)=Db (λ_=>NT y.AE d) e (r.Ap.drop e.length)) (λe=>r.Ap.length-e.length) [] ⟨by simp,rfl⟩ (by simp) (by simp;rfl) ?_
   rintro e ⟨he,ak⟩ R rn re rr rp;have wl:((e++r.Ap.drop e.length).map E6).length=r.Ap.length:=by simp;omega
   by_cases G:e.length<r.Ap.length
   ·have wr:IntKind.i64.wrap ((e.length:Int)+1)=(e.length:Int)+1:=w_i _ (by omega);have wk:=K4 E6 G;have ws:=Kz E6 G;rw[D5 G,Z4]at ak;generalize hu:r.Ap[e.length]=u at ak wk;generalize au:(e++r.Ap.drop e.length).map E6=c at wl wk ws;have ae:e.length<c.length:=by omega
    have ct:c[e.length]? = some (E6 u):=by rw[DN ae,wk]
    have b9:∀z:BP,(E6 z).shape.size=11:=λ_=>rfl;have cr:∀h:e.length<c.length,c[e.length].shape.size=11:=λh=>by rw[wk];rfl
    have cq:c.set e.length (E6 u)=c:=by rw[<-wk ae];exact List.set_getElem_self ae
    have H:∀p,BY p c=false:=λp=>by rw[<-au];exact X8 _ _
    have W:NT y.AE d u=(HT y.AE d u.a).bind λx=>(HT y.AE d u.b).map λz=>{u with a:=x,b:=z}:=rfl;have O:NT y.AE d u=none->∀w,(∀p,BY p w=false)->R (.panic (.d Zw)) [] (B2 w):=λe0 w ag=>by
     refine rp _ _ _ ?_;simp;exact pB (by rw[rR,ak,e0];rfl) _ ag
    have oa:∀F w,AG (B2 w) (f+5) (TE c e.length u F)=B2 (c.set e.length (E6 {u with a:=F})):=λF w=>bS _ _;have bb:∀t1 F w,AG (B2 w) (f+5) (TF c e.length {u with a:=t1} F)=B2 (c.set e.length (E6 {u with a:=t1,b:=F})):=λt1 F w=>bS _ _;simp[tR,G,bU,bR,bI,bG,bS,bV,bM,b4,Y,N,J,R0,wl,ai,ab,ao,cr];refine VK hP (T:=.ep (f+5) r.Ap.length 11 e.length 1 [1]) (lid:=f+5) (tob:=TE c e.length u) (Y4f u ae wl) (t:=u.a) (vs:=d) (by rw[bG];exact Cc (λz=>some (Ob.Ay _ _ z)) cq.symm) ax (bC _) (bV _) (by rw[bM,Qd,List.length_map]) (bR _) (bU _) (bI _) (Y _ _) (by rw[List.getElem?_set_self N]) ⟨rfl,rfl,rfl,ab⟩
     (λF=>⟨_,by rw[oa,bF],dl,ay⟩) ⟨by omega,by omega,by omega,by omega,U⟩ (λF=>by rw[oa];exact bC _) (λp F hp=>Xx (Yb rfl _ (H _)) hp) (λt1 a6=>?_) (λht F=>?_)
    ·rw[oa];have cu:(c.set e.length (E6 {u with a:=t1})).length=r.Ap.length:=by simpa using wl
     simp[bU,bR,bI,bG,bS,bV,bM,b4,Y,N,J,R0,wl,ai,ab,ao,b9,G];refine VK hP (T:=.ep (f+5) r.Ap.length 11 e.length 6 [2]) (lid:=f+5) (tob:=TF c e.length {u with a:=t1}) (Y4g {u with a:=t1} ae wl) (t:=u.b) (vs:=d) (by rw[bG];rfl) ax (bC _) (bV _) (by rw[bM,Qd,List.length_map]) (bR _) (bU _) (bI _) (Y _ _) (by rw[List.getElem?_set_self N]) ⟨rfl,rfl,rfl,ab⟩
      (λF=>⟨_,by rw[bb,bF],dl,ay⟩) ⟨by omega,by omega,by omega,by omega,U⟩ (λF=>by rw[bb];exact bC _) (λp F hp=>Xx (Yb rfl _ (H _)) hp) (λt2 cl=>?_) (λht F=>?_)
     ·rw[bb];have hz:NT y.AE d u=some {u with a:=t1,b:=t2}:=by rw[W,a6,Option.bind_some,cl];rfl
      rw[hz,Option.bind_some]at ak;have e1:c.set e.length (E6 {u with a:=t1,b:=t2})=((e++[{u with a:=t1,b:=t2}])++r.Ap.drop (e++[{u with a:=t1,b:=t2}]).length).map E6:=ws {u with a:=t1,b:=t2};have y6:∀j,j<=f+5->AD (f+6) [] j=false:=λj hj=>by simp[AD];omega
      simp;rw[e1];refine rn [] (e++[{u with a:=t1,b:=t2}]) _ _ ⟨by simp;omega,by rw[ak,C7];rfl⟩ (by simp;omega) (by simp[wr]) ?_ ?_ ?_
      ·rw[a3];exact bD (by omega) y6
      ·rw[a3];simp[y6 f (by omega),y6 (f+1) (by omega),y6 (f+4) (by omega)]
      ·rw[a3];exact bN (by omega) y6 (X8 _ _)
     ·rw[bb];exact O (by rw[W,a6,Option.bind_some,ht];rfl) _ (λp=>Yb rfl _ (H _))
    ·rw[oa];exact O (by rw[W,ht];rfl) _ (λp=>Yb rfl _ (H _))
   ·have bg:e.length=r.Ap.length:=by omega
    rw[bg,List.drop_length,Db]at ak;simp[tR,G];refine re _ _ _ ?_;have e0:e.map E6++(r.Ap.map E6).drop e.length=e.map E6:=by rw[HO (by simp[bg]),GJ]
    rw[e0];rw[show D6 r.Ap (NT y.AE d)=some e from ak,Option.bind_some]at rR;simp[bU,bI,Y,N,J,R0,ai,ab];refine⟨by rw[az],?_⟩;rw[show[Z]=[V.d (.AH 7 (r.BJ.map Bo.enc))] by rw[az]];refine X3a hP (xs:=r.BJ.map Bo.enc) (by intro x hx;obtain⟨r,_,rfl⟩:=DY.1 hx;rfl) (by simpa using cj) ?_;rw[a3];have el:e.map E6=e.map λx=>V.d x.enc:=rfl;have aw:∀j,j<=f+5->¬f+6=j:=λj hj=>by omega
    have ah:f+6≠id:=by omega
    let A3:AF:=A (.sl (f+5) r.Ap.length) (.sl (f+6) r.BJ.length) (d.map Fe) (Zu (d.map Av.name) d.length);let B3:List V->AF:=λc=>(f+6,.Ay 177 7 c)::(f+5,.Ay 173 11 (e.map E6))::A3;have ca:AG (B2 (e.map E6)) id (.Ay 77 5 (Q.set i (.agg [.d (.AU r.head),.d (.int .i64 n),.sl (f+2) r.Ah.length,.sl (f+5) r.Ap.length,.sl (f+6) r.BJ.length])))=(f+5,.Ay 173 11 (e.map E6))::A3:=by
     show AG ((f+5,_)::A _ _ _ _) id _=_;rw[AG,Aq U,bp]
    have cG:∀c,AB (B3 c) (f+6)=some (.Ay 177 7 c):=λc=>by simp[B3,AB]
    have cS:∀c w,AG (B3 c) (f+6) (.Ay 177 7 w)=B3 w:=λc w=>by simp[B3,AG]
    have cW:∀c,AB (B3 c) (f+5)=some (.Ay 173 11 (e.map E6)):=λc=>by simp[B3,AB]
    have cL:∀c j,¬f+5=j->¬f+6=j->AB (B3 c) j=AB A3 j:=λc j h h6=>by
     show AB ((f+6,_)::(f+5,_)::A3) j=_;rw[AB,Aq h6,AB,Aq h]
    have cF:∀c,AB (B3 c) (f+2)=some (.Ay 168 8 (d.map Fe)):=λc=>by rw[cL _ _ (aa _ (by omega)) (aw _ (by omega)),aG]
    have cM:∀c,AB (B3 c) (f+3)=some (.map (Zu (d.map Av.name) d.length)):=λc=>by rw[cL _ _ (aa _ (by omega)) (aw _ (by omega)),aM]
    have cV:∀c,AB (B3 c) (f+4)=some (.box 102 (.mp (f+3))):=λc=>by rw[cL _ _ (aa _ (by omega)) (aw _ (by omega)),aV]
    have cU:∀c,AB (B3 c) (f+1)=some (.box 107 (.ep id m 5 i 0 [])):=λc=>by rw[cL _ _ (aa _ (by omega)) (aw _ (by omega)),aU]
    have cR:∀c,AB (B3 c) f=some (.box 85 (.ptr 4 [])):=λc=>by rw[cL _ _ (aa _ (by omega)) (aw _ (by omega)),aR]
    have cI:∀c,AB (B3 c) id=some (.Ay 77 5 (Q.set i (R0 (.sl (f+5) r.Ap.length) (.sl (f+6) r.BJ.length)))):=λc=>by rw[cL _ _ U ah,aI]
    have cC:∀c,RC y (B3 c):=λc=>by
     have:=((aC (.sl (f+5) r.Ap.length) (.sl (f+6) r.BJ.length) (d.map Fe) (Zu (d.map Av.name) d.length)).cons (.Ay 173 11 (e.map E6))).cons (.Ay 177 7 c);have e6:AA ((f+5,Ob.Ay 173 11 (e.map E6))::A3)=f+6:=by
      have:¬f+5+1<=f+5:=by omega
      simp[A3,aF]
     rw[aF]at this;show RC y ((f+6,_)::(f+5,_)::A3);rw[e6]at this;exact this
    have c4:=λc=>(cC c).o4;have bv:n<y.AE.length:=by simpa using QV hn
    have bu:y.AE.length≠0:=by omega
    have cb:=λc=>(cC c).Ri bu;have cm:=λc=>(cC c).om n bv;have bd:∀c,AA (B3 c)=f+7:=λc=>by
     show AA ((f+6,_)::(f+5,_)::A3)=_;simp[A3,aF]
    have cD:∀{k:Nat}{L:List Nat}{c:List V},f<=k->(∀j,j<=f+6->AD k L j=false)->Xk (AD k L) (B3 c)=B3 c:=λ{k L c} hk hy=>by
     show Xk _ ((f+6,_)::(f+5,_)::A3)=_;rw[Xk,hy _ (Bg _),Xk,hy _ (by omega),aD hk (λj hj=>hy j (by omega))];rfl
    have cN:∀{k:Nat}{L:List Nat}{c:List V},f<=k->(∀j,j<=f+6->AD k L j=false)->BY (AD k L) c=false->AI (AD k L) (B3 c)=true:=λ{k L c} hk hy hu=>by
     show AI _ ((f+6,_)::(f+5,_)::A3)=_;have:=aN (wv:=.sl (f+5) r.Ap.length) (sv:=.sl (f+6) r.BJ.length) (fs:=d.map Fe) (ms:=Zu (d.map Av.name) d.length) hk (λj hj=>hy j (by omega)) (by simp[V.BQ,hy (f+5) (by omega)]) (by simp[V.BQ,hy (f+6) (by omega)]) (X8 _ _) (Zh _ _ _);have h2:BY (AD k L) (e.map E6)=false:=X8 _ _;simp only[AI,hu,h2,this,A3,Bool.not_false,EN]
    have pC:G2 y.AE r=none->∀c,(∀p,BY p c=false)->Yk f (λb=>∃b',Wk b b'/\∃x,BN.BQ (AD f x) (BN.panic (V.d Zw))=false/\AI (AD f x) (Xk (AD f x) b')=true/\K (BN.panic (V.d Zw)) (Xk (AD f x) b')) [V.d Zw] (B3 c):=λe c g=>
     ba e [f,f+1,f+2,f+3,f+4,f+5,f+6] _ (cD (Bg _) k7) (cN (Bg _) k7 (g _)) (by rw[cL _ _ (by omega) (by omega),aO _ _ _ _ 1 (by omega) (by omega)]) (by rw[cL _ _ (by omega) (by omega),aO _ _ _ _ 2 (by omega) (by omega)])
    have b7:AB A3 (f+1)=some (.box 107 (.ep id m 5 i 0 [])):=aU _ _ _ _;have b6:AB A3 id=some (.Ay 77 5 (Q.set i (R0 (.sl (f+5) r.Ap.length) (.sl (f+6) r.BJ.length)))):=aI _ _ _ _;simp[bU,bI,ca,b7,b6,Y,N,J,R0,ai,ab,aw,ah,aa,U,AB,Dn,CA,Z7,AG];refine⟨⟨_,_,_,⟨rfl,rfl,rfl⟩,by simp⟩,?_⟩;show Au _ _ _ _ (B3 (r.BJ.map (V.d∘Bo.enc)));refine Au.go (ι:=List Bo) (λq=>[(2,.ptr f []),(3,.ptr (f+1) []),(5,.fn 109 [] [.ptr (f+4) [],.ptr f [],.ptr (f+1) []]),(117,.d (.int .i64 r.BJ.length)),(118,.d (.int .i64 q.length))])
     (λq=>B3 ((q++r.BJ.drop q.length).map Iu)) (λq=>q.length<=r.BJ.length/\D6 r.BJ (Nl y.AE n d)=Db (λ_=>Nl y.AE n d) q (r.BJ.drop q.length)) (λq=>r.BJ.length-q.length) [] ⟨by simp,rfl⟩ (by simp) (by simp;rfl) ?_
    rintro q ⟨hq,al⟩ R rn re rr rp;have wl:((q++r.BJ.drop q.length).map Iu).length=r.BJ.length:=by simp;omega
    by_cases G:q.length<r.BJ.length
    ·have wr:IntKind.i64.wrap ((q.length:Int)+1)=(q.length:Int)+1:=w_i _ (by omega);have wk:=K4 Iu G;have ws:=Kz Iu G;rw[D5 G,Z4]at al;generalize hu:r.BJ[q.length]=u at al wk;have ue:Iu u=.d (.agg [.AU u.path,iD u.field,.agg [.AU u.Cd.name,.AU u.Cd.path,iD u.Cd.var,iD u.Cd.field,iD u.Cd.n]]):=rfl;simp only[ue]at wk;generalize au:(q++r.BJ.drop q.length).map Iu=c at wl wk ws;have ae:q.length<c.length:=by omega
     have H:∀p,BY p c=false:=λp=>by rw[<-au];exact X8 _ _
     have cf:Yr y.AE n=EO y.AE n:=by
      unfold Yr EO;simp only[Int.toNat_natCast];cases y.AE[n]?<;>rfl
     have W:Nl y.AE n d u=(Cr (EO y.AE n) u.path).bind λ(k:Nat)=>(HT y.AE d u.Cd).map λt=>{u with field:=k,Cd:=t}:=by rw[<-cf];rfl
     have O:Nl y.AE n d u=none->∀w,(∀p,BY p w=false)->R (.panic (.d Zw)) [] (B3 w):=λe0 w ag=>by
      refine rp _ _ _ ?_;simp;exact pC (by rw[rR,al,e0];rfl) _ ag
     simp[tQ,G,cU,cR,cI,cG,cS,cV,cM,c4,cb,Hf,bu,bv,Vc,Ua,Y,N,J,R0,wl,wk];refine⟨⟨Zj hP (cm c) (λk hk=>?c1) (λhx=>O (by rw[W,hx];rfl) _ H),Zj hP (cm c) (λk hk=>?c2) (λhx=>O (by rw[W,hx];rfl) _ H)⟩,Zj hP (cm c) (λk hk=>?c3) (λhx=>O (by rw[W,hx];rfl) _ H)⟩
     case c1|c2|c3=>
      simp[cU,cI,cG,cS,wl,wk,G,ao,Y,N,J,R0,Dn,CA,Z7];have oe:∀F w,AG (B3 w) (f+6) (TG c q.length {u with field:=(k:Int) } F)=B3 (c.set q.length (Iu {u with field:=(k:Int),Cd:=F})):=λF w=>cS _ _;refine VK hP (T:=.ep (f+6) r.BJ.length 7 q.length 2 [2]) (lid:=f+6) (tob:=TG c q.length {u with field:=(k:Int) }) (Y4h {u with field:=(k:Int) } ae wl) (t:=u.Cd) (vs:=d) (by rw[cG];rfl) ax (cC _) (cV _) (by rw[cM,Qd,List.length_map]) (cR _) (cU _) (cI _) (Y _ _) (by rw[List.getElem?_set_self N]) ⟨rfl,rfl,rfl,rfl⟩
       (λF=>⟨_,by rw[oe,cF],dl,ay⟩) ⟨by omega,by omega,by omega,by omega,ah⟩ (λF=>by rw[oe];exact cC _) (λp F hp=>Xx (Yb rfl _ (H _)) hp) (λt1 a6=>?_) (λht F=>?_)
      ·rw[oe];have hz:Nl y.AE n d u=some {u with field:=(k:Int),Cd:=t1}:=by rw[W,hk,Option.bind_some,a6];rfl
       rw[hz,Option.bind_some]at al;have e1:c.set q.length (Iu {u with field:=(k:Int),Cd:=t1})=((q++[{u with field:=(k:Int),Cd:=t1}])++r.BJ.drop (q++[{u with field:=(k:Int),Cd:=t1}]).length).map Iu:=ws {u with field:=(k:Int),Cd:=t1};have y7:∀j,j<=f+6->AD (f+7) [] j=false:=λj hj=>by simp[AD];omega
       simp;rw[e1];refine rn [] (q++[{u with field:=(k:Int),Cd:=t1}]) _ _ ⟨by simp;omega,by rw[al,C7];rfl⟩ (by simp;omega) (by simp[wr]) ?_ ?_ ?_
       ·rw[bd];exact cD (by omega) y7
       ·rw[bd];simp[y7 f (by omega),y7 (f+1) (by omega),y7 (f+4) (by omega)]
       ·rw[bd];exact cN (by omega) y7 (X8 _ _)
      ·rw[oe];exact O (by rw[W,hk,Option.bind_some,ht];rfl) _ (λp=>Yb rfl _ (H _))
    ·have bj:q.length=r.BJ.length:=by omega
     rw[bj,List.drop_length,Db]at al;simp[tQ,G];refine re _ _ _ ?_;simp;have e0:q.map Iu++(r.BJ.map Iu).drop q.length=q.map Iu:=by rw[HO (by simp[bj]),GJ]
     rw[e0];rw[show D6 r.BJ (Nl y.AE n d)=some q from al]at rR;have hq:G2 y.AE r=some {r with Ag:=(n:Int),Ah:=d,Ap:=e,BJ:=q}:=by rw[rR];rfl
     obtain⟨o1,af⟩:∃o1,o1=B3 (q.map Iu):=⟨_,rfl⟩
     have l1:AB o1 (f+2)=some (.Ay 168 8 (d.map λx=>V.d x.enc)):=by rw[af];exact cF _
     have l2:AB o1 (f+5)=some (.Ay 173 11 (e.map λx=>V.d x.enc)):=by rw[af];exact cW _
     have l3:AB o1 (f+6)=some (.Ay 177 7 (q.map λx=>V.d x.enc)):=by rw[af];exact cG _
     have li:AB o1 id=some (.Ay 77 5 (Q.set i (R0 (.sl (f+5) r.Ap.length) (.sl (f+6) r.BJ.length)))):=by rw[af,cI]
     have bk:AB (AG o1 (f+2) .An) (f+5)=some (.Ay 173 11 (e.map λx=>V.d x.enc)):=by
      rw[Xb o1 (f+2) (f+5) ⟨_,l1⟩,Aq (by omega),l2]
     have bz:AB (AG (AG o1 (f+2) .An) (f+5) .An) (f+6)=some (.Ay 177 7 (q.map λx=>V.d x.enc)):=by
      rw[Xb _ (f+5) (f+6) ⟨_,bk⟩,Aq (by omega),Xb o1 (f+2) (f+6) ⟨_,l1⟩,Aq (by omega),l3]
     have co:AB (AG (AG (AG o1 (f+2) .An) (f+5) .An) (f+6) .An) id=some (.Ay 77 5 (Q.set i (R0 (.sl (f+5) r.Ap.length) (.sl (f+6) r.BJ.length)))):=by
      rw[Xb _ (f+6) id ⟨_,bz⟩,Aq (λh=>ah h.symm),Xb _ (f+5) id ⟨_,bk⟩,Aq (λh=>U h.symm),Xb o1 (f+2) id ⟨_,l1⟩,Aq (λh=>ad h.symm),li]
     have g:DC 3 o1 (R0 (.sl (f+5) r.Ap.length) (.sl (f+6) r.BJ.length))=some (.agg [.AU r.head,.int .i64 n,.AH 8 (d.map Av.enc),.AH 11 (e.map BP.enc),.AH 7 (q.map Bo.enc)],AG (AG (AG o1 (f+2) .An) (f+5) .An) (f+6) .An):=by
      have hd:∀(x:D)(o:AF),DC 2 o (.d x)=some (x,o):=λx o=>rfl;show FX (E8 (DC 2) o1 _)=_;simp only[E8,hd,Ig (k:=0) (n:=r.Ah.length) Av.enc l1 (by decide) a5.symm,Ig (k:=0) (n:=r.Ap.length) BP.enc bk (by decide) bg.symm,Ig (k:=0) (n:=r.BJ.length) Bo.enc bz (by decide) bj.symm,Qg,FX]
     have b3:=PV li (i:=i) (by rw[List.getElem?_set_self N]) g co rfl;rw[<-af];have YI:¬f+2=f+5:=by omega
     have sg:AG (AG (AG o1 (f+2) .An) (f+5) .An) (f+6) .An=(f+6,.An)::(f+5,.An)::(f+4,.box 102 (.mp (f+3)))::(f+3,.map (Zu (d.map Av.name) d.length))::(f+2,.An)::(f+1,.box 107 (.ep id m 5 i 0 []))::(f,.box 85 (.ptr 4 []))::AG X id (.Ay 77 5 (Q.set i (R0 (.sl (f+5) r.Ap.length) (.sl (f+6) r.BJ.length)))):=by
      rw[af];show AG (AG (AG ((f+6,_)::(f+5,_)::(f+4,_)::(f+3,_)::(f+2,_)::(f+1,_)::(f,_)::AG X id _) _ _) _ _) _ _=_;simp[AG]
     have bq:AG (AG (AG (AG o1 (f+2) .An) (f+5) .An) (f+6) .An) id (.Ay 77 5 ((Q.set i (R0 (.sl (f+5) r.Ap.length) (.sl (f+6) r.BJ.length))).set i (.d (.agg [.AU r.head,.int .i64 n,.AH 8 (d.map Av.enc),.AH 11 (e.map BP.enc),.AH 7 (q.map Bo.enc)]))))=(f+6,.An)::(f+5,.An)::(f+4,.box 102 (.mp (f+3)))::(f+3,.map (Zu (d.map Av.name) d.length))::(f+2,.An)::(f+1,.box 107 (.ep id m 5 i 0 []))::(f,.box 85 (.ptr 4 []))::AG X id (.Ay 77 5 (Q.set i (.d ({r with Ag:=(n:Int),Ah:=d,Ap:=e,BJ:=q}:Ao).enc))):=by
      rw[sg,AG,Aq ah,AG,Aq U,AG,Aq aq,AG,Aq ap,AG,Aq ad,AG,Aq ac,AG,Aq av,Yh,List.set_set];rfl
     rw[bq]at b3;have dk:Xk (AD f [f,f+1,f+2,f+3,f+4,f+5,f+6]) o1=o1:=by rw[af];exact cD (Bg _) k7
     have d0:Xk (AD f []) ((f+6,.An)::(f+5,.An)::(f+4,.box 102 (.mp (f+3)))::(f+3,.map (Zu (d.map Av.name) d.length))::(f+2,.An)::(f+1,.box 107 (.ep id m 5 i 0 []))::(f,.box 85 (.ptr 4 []))::AG X id (.Ay 77 5 (Q.set i (.d ({r with Ag:=(n:Int),Ah:=d,Ap:=e,BJ:=q}:Ao).enc))))=AG X id (.Ay 77 5 (Q.set i (.d ({r with Ag:=(n:Int),Ah:=d,Ap:=e,BJ:=q}:Ao).enc))):=by
      have y0:∀j,f<=j->AD f [] j=true:=λj hj=>by simp[AD];omega
      simp only[Xk,y0 (f+6) (by omega),y0 (f+5) (by omega),y0 (f+4) (by omega),y0 (f+3) (by omega),y0 (f+2) (by omega),y0 (f+1) (by omega),y0 f (by omega),Bu];exact Xh (by simp;omega)
     refine⟨[f,f+1,f+2,f+3,f+4,f+5,f+6],by simp,by rw[dk,af];exact cN (Bg _) k7 (X8 _ _),_,by rw[dk];exact b3,[],by simp[BN.BQ],?_,?_⟩
     ·rw[d0];exact Xx (Yb rfl _ (bx _)) (by simpa[fo]using bh [])
     ·rw[d0];exact h1 _ hq
omit hP
def MD:List Edge->Nat
|[]=>0
|e::r=>cond (Region.binds .any e) (Nat.lor (MD r) (Nat.shiftLeft 1 e.on)) (MD r)
def Ss(a:Array Oper):List Nat:=a.toList.map λo=>MD o.after.toList
def Q8(m:Nat):List Nat->Nat->List Nat
|[],_=>[]
|d::r,i=>cond (Nat.beq (Nat.land (Nat.shiftRight m i) 1) 0&&Nat.beq (Nat.land d m) d) (i::Q8 m r (i+1)) (Q8 m r (i+1))
def NU(a:Array Oper)(b:Oper)(i:Nat):List Oper->Nat->Nat
|[],_=>0
|c::r,j=>cond (j==i||(c.after.any (λe=>Region.binds .any e&&e.on==i)||b.apart a c)) (NU a b i r (j+1)) (Nat.lor (NU a b i r (j+1)) (Nat.shiftLeft 1 j))
def Pq(a:Array Oper):List Oper->Nat->List Nat
|[],_=>[]
|o::r,i=>NU a o i a.toList 0::Pq a r (i+1)
def Sr(a:Array Oper):List Nat:=Pq a a.toList 0
def SE(a:List Nat)(m i:Nat):Bool:=match a[i]? with
|some c=>Nat.beq (Nat.land c m) c
|none=>false
def He{a:Type}(n:Nat)(k:Nat->a):a:=match n with
|0=>k 0
|m+1=>k (m+1)
def xl{a:Type}(n:Nat)(k:Nat->a):He n k=k n:=by cases n<;>rfl
mutual
def K3(P:Program)(N:Nat)(a:Array Oper)(d:Nat->Nat)(b c:List Nat):Nat->Nat->Ot->Bool
|0,m,.done=>(Q8 m b 0).isEmpty
|n+1,m,.BW i x r=>(Q8 m b 0).contains i&&(match a[i]? with|some o=>x.Ak P N a o|none=>false)&&x.kind==d i&&
 (match x.kind with
 |0=>SE c m i
 |5=>SE c m i
 |1=>SE c m i&&(List.range a.size).all (λj=>d j != 3||j==i||S5 a i j)
 |_=>(Q8 m b 0)==[i])&&
 He (Nat.lor m (Nat.shiftLeft 1 i)) (λm=>K3 P N a d b c n m r)
|n+1,m,.br l=>!(Q8 m b 0).isEmpty&&(Q8 m b 0).all (λj=>l.has j)&&WO P N a d b c n m l
|_,_,_=>false
def WO(P:Program)(N:Nat)(a:Array Oper)(b:Nat->Nat)(c d:List Nat):Nat->Nat->GD->Bool
|_,_,.nil=>true
|n,m,.cons i x r l=>(Q8 m c 0).contains i&&(match a[i]? with|some o=>x.Ak P N a o|none=>false)&&x.kind==b i&&He (Nat.lor m (Nat.shiftLeft 1 i)) (λm=>K3 P N a b c d n m r)&&WO P N a b c d n m l
end
structure HM(ops:Array Oper)(m:Nat)(listed:Array Bool):Prop where
 size:listed.size=ops.size
 Ra:∀j,listed.getD j false=m.testBit j
def sF(a m:Nat):Nat.beq (Nat.land a m) a=true↔∀k,a.testBit k=true->m.testBit k=true:=by
 rw[Nat.beq_eq];show a &&&m=a↔_;constructor
 ·intro h k b;have:=Cc (λx=>x.testBit k) h;simp only[Nat.testBit_and,b,EN]at this;exact this
 ·intro h;apply Nat.eq_of_testBit_eq;intro k;rw[Nat.testBit_and];cases b:a.testBit k with
  |false=>rfl
  |true=>rw[h k b];rfl
def Yo2(m i:Nat):Nat.beq (Nat.land (Nat.shiftRight m i) 1) 0=!m.testBit i:=by
 rw[Dv,Nat.beq_eq];show(m >>> i) &&&1=0↔_;rw[Nat.testBit,Nat.and_comm];simp
def gV(m i k:Nat):(Nat.lor m (Nat.shiftLeft 1 i)).testBit k=(m.testBit k||decide (k=i)):=by
 show(m |||1 <<< i).testBit k=_;rw[Nat.testBit_or,Nat.one_shiftLeft,Nat.testBit_two_pow];congr 1;exact decide_eq_decide.2 ⟨λh=>h.symm,λh=>h.symm⟩
def da:∀(l:List Edge)(k:Nat),(MD l).testBit k=true↔∃e∈l,Region.binds .any e=true/\e.on=k
|[],k=>by simp[MD]
|e::r,k=>by
 have d:=da r k;rw[MD];cases c:Region.binds .any e with
 |false=>simp[d,c]
 |true=>
  simp only[cond_true,gV,PZ,d,DK,EJ];constructor
  ·rintro (⟨x,b,a⟩|rfl)
   ·exact⟨x,.inr b,a⟩
   ·exact⟨e,.inl rfl,c,rfl⟩
  ·rintro⟨x,(rfl|b),a⟩
   ·exact .inr a.2.symm
   ·exact .inl ⟨x,b,a⟩
def vu(m:Nat)(p:Nat->Bool):∀(l:List Oper)(i:Nat),(∀k (b:k<l.length),p (i+k)=(!m.testBit (i+k)&&Nat.beq (Nat.land (MD l[k].after.toList) m) (MD l[k].after.toList)))->Q8 m (l.map λo=>MD o.after.toList) i=(List.range' i l.length).filter p
|[],i,_=>by simp[Q8]
|o::r,i,h=>by
 have a:=h 0 (by simp);have c:=vu m p r (i+1) λk b=>by
  have:=h (k+1) (by simpa using b);simpa[Ku,Nat.add_comm 1 k]using this
 simp only[Nat.add_zero,List.getElem_cons_zero]at a;rw[Cw,Q8,Yo2,<-a,List.length_cons,Rz,List.filter_cons,c];cases p i<;>rfl
def VG{b:Array Oper}{m:Nat}{a:Array Bool}(h:HM b m a):Q8 m (Ss b) 0=Region.ready .any b a:=by
 unfold Region.ready Ss;rw[List.range_eq_range',<-Array.length_toList];refine vu m _ _ _ λk f=>?_;have c:k<b.size:=by simpa using f
 have i:k<a.size:=by rw[h.size];exact c
 have j:a.getD k true=m.testBit k:=by
  rw[<-h.Ra k];simp[Array.getD,i]
 rw[Kx,j,R4 c];congr 1;simp only[Option.map_some,Option.getD_some];rw[Dv,sF,Array.getElem_toList];rw[<-Array.all_toList,Es];constructor
 ·intro g k f;obtain⟨e,l,d,rfl⟩:=(da _ _).1 f;have:=g e l;rw[d,h.Ra]at this;simpa using this
 ·intro g x n;cases d:Region.binds .any x with
  |false=>rfl
  |true=>
   rw[h.Ra,g x.on ((da _ _).2 ⟨x,n,d,rfl⟩)];rfl
def Ycc{b:Array Oper}{m i:Nat}{a:Array Bool}(h:HM b m a)(f:i<b.size):HM b (Nat.lor m (Nat.shiftLeft 1 i)) (a.setIfInBounds i true):=by
 refine⟨by simpa using h.size,λj=>?_⟩;rw[gV,<-h.Ra j];have c:i<a.size:=by rw[h.size];exact f
 by_cases e:j=i
 ·subst e;simp[Array.getD,c]
 ·have d:¬i=j:=λh=>e h.symm;simp only[Array.getD,Array.size_setIfInBounds,e,decide_false,Bool.or_false];split
  next g=>show(a.setIfInBounds i true)[j]'(by simpa using g)=a[j];rw[Array.getElem_setIfInBounds,Aq d]
  ·rfl
def Xz6{b:Array Oper}{a:Array Bool}{i:Nat}(h:i∈Region.ready .any b a):i<b.size:=by
 unfold Region.ready at h;simpa using(List.mem_filter.1 h).1
def dV(a:Array Oper)(c:Oper)(i k:Nat):∀(l:List Oper)(b:Nat),(NU a c i l b).testBit k=true↔∃t o,l[t]? = some o/\k=b+t/\(k==i||(o.after.any (λe=>Region.binds .any e&&e.on==i)||c.apart a o))=false
|[],b=>by simp[NU]
|d::r,b=>by
 have n:=dV a c i k r (b+1);have m:(∃t o,(d::r)[t]? = some o/\k=b+t/\(k==i||(o.after.any (λe=>Region.binds .any e&&e.on==i)||c.apart a o))=false)↔(k=b/\(b==i||(d.after.any (λe=>Region.binds .any e&&e.on==i)||c.apart a d))=false)\/(NU a c i r (b+1)).testBit k=true:=by
  rw[n];constructor
  ·rintro⟨t,o,f,j,g⟩;cases t with
   |zero=>
    simp only[List.getElem?_cons_zero,CJ]at f;subst f;exact .inl ⟨j,by rw[j]at g;exact g⟩
   |succ t=>exact .inr ⟨t,o,by simpa using f,by omega,g⟩
  ·rintro (⟨rfl,h⟩|⟨t,o,f,j,g⟩)
   ·exact⟨0,d,rfl,rfl,h⟩
   ·exact⟨t+1,o,by simpa using f,by omega,g⟩
 rw[m,NU];cases p:(b==i||(d.after.any (λe=>Region.binds .any e&&e.on==i)||c.apart a d)) with
 |true=>simp
 |false=>rw[cond_false,gV,PZ,DK,or_comm];simp
def xy(a:Array Oper):∀(l:List Oper)(b k:Nat),(Pq a l b)[k]? = (l[k]?).map λo=>NU a o (b+k) a.toList 0
|[],b,k=>by simp[Pq]
|o::r,b,k=>by
 cases k with
 |zero=>simp[Pq]
 |succ k=>
  have:=xy a r (b+1) k;simp only[Pq,List.getElem?_cons_succ,this];rw[show b+1+k=b+(k+1) by omega]
def Yqd{b:Array Oper}{m:Nat}{a:Array Bool}(h:HM b m a)(i:Nat):SE (Sr b) m i=Region.free .any b a i:=by
 unfold SE Region.free Sr;rw[xy,Array.getElem?_toList,Kx];cases x:b[i]? with
 |none=>rfl
 |some q=>
  simp only[Option.map_some];rw[Dv,sF,Es];constructor
  ·intro g j u;have c:j<b.size:=by simpa using u
   have n:j<a.size:=by rw[h.size];exact c
   have f:a.getD j true=m.testBit j:=by
    rw[<-h.Ra j];simp[Array.getD,n]
   rw[R4 c,f];cases r:(j==i||(b[j].after.any (λe=>Region.binds .any e&&e.on==i)||q.apart b b[j])) with
   |false=>
    rw[g j ((dV b q i j _ 0).2 ⟨j,b[j],by rw[Array.getElem?_toList,R4 c],by omega,r⟩)];simp
   |true=>
    revert r;cases (j==i)<;>cases m.testBit j<;>simp
  ·intro g k v;obtain⟨t,o,l,w,s⟩:=(dV b q i k _ 0).1 v;have e:t=k:=by omega
   subst e;rw[Array.getElem?_toList]at l;have d:t<b.size:=(Array.getElem?_eq_some_iff.1 l).1;have p:t<a.size:=by rw[h.size];exact d
   have f:a.getD t true=m.testBit t:=by
    rw[<-h.Ra t];simp[Array.getD,p]
   have:=g t (by simpa using d);rw[l,f]at this;revert s this;cases (t==i)<;>cases m.testBit t<;>simp
section
variable {P:Program} {N:Nat} {ops:Array Oper} {kd:Nat->Nat}
mutual
def dS:∀(t:Ot)(n m:Nat)(a:Array Bool),HM ops m a->K3 P N ops kd (Ss ops) (Sr ops) n m t=true->Vn P N ops kd n a t=true
|.done,n,m,a,b,h=>by
 cases n with
 |zero=>simp only[K3,Vn,VG b]at h⊢;exact h
 |succ n=>simp[K3]at h
|.BW i x r,n,m,a,b,h=>by
 cases n with
 |zero=>simp[K3]at h
 |succ n=>
  simp only[K3,Vn,VG b,Yqd b,xl,BB]at h⊢;exact⟨h.1,dS r n _ _ (Ycc b (Xz6 (List.contains_iff_mem.1 h.1.1.1.1))) h.2⟩
|.br l,n,m,a,b,h=>by
 cases n with
 |zero=>simp[K3]at h
 |succ n=>
  simp only[K3,Vn,VG b,BB]at h⊢;exact⟨h.1,xA l n _ _ b h.2⟩
def xA:∀(l:GD)(n m:Nat)(a:Array Bool),HM ops m a->WO P N ops kd (Ss ops) (Sr ops) n m l=true->OH P N ops kd n a l=true
|.nil,n,m,a,_,_=>by simp only[OH]
|.cons i x r l,n,m,a,b,h=>by
 simp only[WO,OH,VG b,xl,BB]at h⊢;exact⟨⟨h.1.1,dS r n _ _ (Ycc b (Xz6 (List.contains_iff_mem.1 h.1.1.1.1))) h.1.2⟩,xA l n _ _ b h.2⟩
end
end
def Yhy(a:Array Oper):HM a 0 (Array.replicate a.size false):=by
 refine⟨by simp,λj=>?_⟩;simp[Array.getD]
def Hr(P:Program)(N:Nat):Code->S->Bool
|.region _ e f,.Gc n t _ g=>WU e&&f&&decide (n<=e.size)&&Region.noSelect e&&SQ g e&&K3 P N e (ZX t.kinds) (Ss e) (Sr e) n 0 t
|.seq a b,.seq x y=>Hr P N a x&&Hr P N b y
|.cond c a b,.cond d x y=>A.Ak c d&&Hr P N a x&&Hr P N b y
|.block n a,.block m x=>n==m&&Hr P N a x
|.loop a,.loop _ x=>Hr P N a x
|c,s=>S.Ak P N c s
def Rdh{P:Program}{N:Nat}:∀(c:Code)(s:S),Hr P N c s=true->S.Ak P N c s=true:=λc s=>by
 induction s generalizing c with
 |Gc n t f g=>
  cases c<;>intro h<;>simp only[Hr,S.Ak,BB]at h⊢<;>try exact h
  exact⟨h.1,dS _ _ _ _ (Yhy _) h.2⟩
 |seq x y a b=>
  cases c<;>intro h<;>simp only[Hr,S.Ak,BB]at h⊢<;>try exact h
  exact⟨a _ h.1,b _ h.2⟩
 |cond d x y a b=>
  cases c<;>intro h<;>simp only[Hr,S.Ak,BB]at h⊢<;>try exact h
  exact⟨⟨h.1.1,a _ h.1.2⟩,b _ h.2⟩
 |block m x e=>
  cases c<;>intro h<;>simp only[Hr,S.Ak,BB]at h⊢<;>try exact h
  exact⟨h.1,e _ h.2⟩
 |loop f x e=>
  cases c<;>intro h<;>simp only[Hr,S.Ak]at h⊢<;>try exact h
  exact e _ h
 |_=>cases c<;>intro h<;>simpa only[Hr]using h
def Ywn(P:Program)(f n:Nat)(s:S)(c:List RV):Bool:=match P.funcs[f]? with
|some b=>match b.body with
 |some a=>decide (n<=b.ntmps)&&Hr P b.ntmps a s&&Jh P b.results.toList c&&s.Fh
 |none=>false
|none=>false
def Ywo{P:Program}{f n:Nat}{s:S}{d:List RV}(h:Ywn P f n s d=true):Xp P f n s d=true:=by
 unfold Ywn at h;unfold Xp K8;cases c:P.funcs[f]? with
 |none=>rw[c]at h;cases h
 |some e=>
  rw[c]at h;simp only at h⊢;cases b:e.body with
  |none=>rw[b]at h;cases h
  |some a=>
   rw[b]at h;simp only[BB]at h⊢;exact⟨⟨⟨h.1.1.1,Rdh _ _ h.1.1.2⟩,h.1.2⟩,h.2⟩
def Yku:Nat:=0x1000a845db02c07102b817357
def mT:Nat:=0x11074697d70a610912412a14d4288ddbb02c77294df8ddbaf2c7251654b9f2517717508ddbb02c77508145ed7504592c731f614814771bb08ff74b7717294df8ddbaf2c77508145ed7504592c731f614814771baf8ff731771251654b9f25104e1856548ff74b04eb9f8ff73104e25105e1843c5227a7300f06c08900b05a0a89f324f06b00606a009a3200206a0882857a5a6a0c101c05aa7a01b0010120c73c40110c10160b9a5b1c700e0c701313d0c101205500e0852b40097d90ddbca00d05a009085a3b0b50080530c108d18208508112d08a04da7600304b05a1fea220430260554692571560dfa9900604ca0211b0d18020af82046955002d48702b18b0bf08202c46915796800d02d07e
def mV:Nat:=0x1057a8409fa8408e029004be00d102662b4197880560240d10ec0220010387ce0210460200d101f81a01f4bc
def qE:Nat:=0x10571048e37d02768f094a2f12040196a27d001312b2f188c8f0ae1bd37d02768f0304bd32862767240538f0ae14412040196a27d001312b2f188cbd328627672405344100e04e48245100a05ea6901f0090a30433ba0880160c22b47c00100b981676701208b35101100500c05501240813d04209318e08d13d01e08100908b1872b904b0b905d0b4043180
def Zgt:S:=zS [(zS [(zS [(zS [] Yku)] mT)] mV)] qE
def Zsm:Xp prog 39 2 Zgt []=true:=Ywo (by kernel_rfl)
def Yjs:Nat:=0x1743302711ab90231da6028c5302711a9102506402800d94902718d00617c026089563092026b82302188b1002420601e6020d4772023bc30234760ff14f9210221330241c6
def Yqq:S:=zS [] Yjs
def Yjt:Nat:=0x17439d40ff05e0900410161da4c98c59d471101c88406402700d0a60b05b205401947b069092019b8227b37f51814f2f41014c9b7d016bc30160389d40ff05e1210410151330171c6
def Yqr:S:=zS [] Yjt
def Yju:Nat:=0x17436527110113b41dab528c565271100f15a06402600db300069a6a60567b82652263b1000a0b345e041718009bc30090386520ff14f0070b313300a1c6
def Yqs:S:=zS [] Yju
def Yjv:Nat:=0x174378c00405e0b104102d0710bf8c578c00405e0b704115611b00302500d29007b85905312e13804300006a1261340060340240ea98e01f0810850f008a0e900403513a03301e2a20040306e80790083d94933a600d81b78c8711110b40bf0d4a637ac0048409dab1002b0bf00d02e07e
def Yqt:S:=zS [] Yjv
def Zf6:Ej:=.pre (.rg [] [.op (some 1) (.box 30 (.t 0)),
 .op (some 2) (.alloc 30 (.agg [.Ad,.Ad,.Ad,.Ad,.Ad,.Ad])),
 .op (some 3) (.alloc 31 (.int .i64 0))] [1,2,3] [])
 (.pre (.rg [] [.op (some 11) (.c (.ld 6 true (.t 1))),
  .op (some 12) (.call 28 [(.t 11)]),
  .op (some 10) (.c (.mv (.t 12))),
  .op (some 13) (.c (.ext (.t 10) 0)),
  .op (some 14) (.c (.ext (.t 10) 1)),
  .op (some 4) (.c (.mv (.t 13))),
  .op (some 5) (.c (.mv (.t 14)))] [1,2,3,4,5] [])
 (.pre (.seq (.rg [] [.op (some 15) (.c (.mv (.t 5)))] [1,2,3,4,15] [])
 (.cond (.t 15) (.seq (.rg [] [.op (some 16) (.c (.ld 6 true (.t 2))),
  .op none (.st 6 (.t 2) (.t 16)),
  .op none (.st 1 (.t 3) (.int .i64 111))] [2,3] [])
 (.ret)) (.skip)))
 (.EX [.op (some 17) (.c (.ES 29 [] [(.t 2),(.t 3)]))] [1,2,3,4,17] 17
 (.seq (.rg [0,3,6,9,12,15,1,4,7,10,13,16,2,5,8,11,14,17,18,19] [.op (some 18) (.c (.Bf 0 0 (.t 1))),
  .op (some 21) (.c (.Bf 1 1 (.t 1))),
  .op (some 24) (.c (.Bf 2 2 (.t 1))),
  .op (some 27) (.c (.Bf 3 3 (.t 1))),
  .op (some 30) (.c (.Bf 4 4 (.t 1))),
  .op (some 33) (.c (.Bf 5 5 (.t 1))),
  .op (some 19) (.c (.ld 1 false (.t 18))),
  .op (some 22) (.c (.ld 1 false (.t 21))),
  .op (some 25) (.c (.ld 1 false (.t 24))),
  .op (some 28) (.c (.ld 1 false (.t 27))),
  .op (some 31) (.c (.ld 1 false (.t 30))),
  .op (some 34) (.c (.ld 1 false (.t 33))),
  .op (some 20) (.CQ 30 [(.t 19)]),
  .op (some 23) (.CQ 31 [(.t 22)]),
  .op (some 26) (.CQ 32 [(.t 25)]),
  .op (some 29) (.CQ 33 [(.t 28)]),
  .op (some 32) (.CQ 34 [(.t 31)]),
  .op (some 35) (.CQ 35 [(.t 34)]),
  .op (some 36) (.c (.Fa [.Ad,.Ad,.Ad,.Ad,.Ad,.Ad] [(0,(.t 20)),(1,(.t 23)),(2,(.t 26)),(3,(.t 29)),(4,(.t 32)),(5,(.t 35))])),
  .op none (.st 6 (.t 2) (.t 36))] [2,3,4] [2,3])
 (.seq (.rg [] [.op (some 37) (.c (.mv (.t 4))),
  .op (some 38) (.c (.Bf 1 1 (.t 2))),
  .op (some 39) (.c (.ld 1 false (.t 38))),
  .op (some 40) (.call 36 [(.t 37),(.t 39)])] [2,3,4] [2,3])
 (.seq (.seq (.rg [] [.op (some 41) (.c (.Bf 2 2 (.t 2))),
  .op (some 42) (.c (.ld 1 false (.t 41))),
  .op (some 43) (.c (.CK (.t 42))),
  .op (some 44) (.c (.mv (.int .i64 0)))] [2,3,4,43,44] [2,3])
 (.block 0 (.loop [2,3,4,43,44] Yqt)))
 (.seq (.seq (.rg [] [.op (some 61) (.c (.Bf 3 3 (.t 2))),
  .op (some 62) (.c (.ld 1 false (.t 61))),
  .op (some 63) (.c (.CK (.t 62))),
  .op (some 64) (.c (.mv (.int .i64 0)))] [2,3,4,63,64] [2,3])
 (.block 2 (.loop [2,3,4,63,64] Yqs)))
 (.seq (.seq (.rg [] [.op (some 74) (.c (.Bf 4 4 (.t 2))),
  .op (some 75) (.c (.ld 1 false (.t 74))),
  .op (some 76) (.c (.CK (.t 75))),
  .op (some 77) (.c (.mv (.int .i64 0)))] [2,3,4,76,77] [2,3])
 (.block 4 (.loop [2,3,4,76,77] Yqr)))
 (.seq (.seq (.rg [] [.op (some 87) (.c (.Bf 5 5 (.t 2))),
  .op (some 88) (.c (.ld 1 false (.t 87))),
  .op (some 89) (.c (.CK (.t 88))),
  .op (some 90) (.c (.mv (.int .i64 0)))] [2,3,4,89,90] [2,3])
 (.block 6 (.loop [2,3,4,89,90] Yqq)))
 (.seq (.rg [] [.op (some 100) (.Kh 6 true (.t 2)),
  .op none (.st 6 (.t 2) (.t 100)),
  .op none (.st 1 (.t 3) (.int .i64 0))] [2,3] [2,3])
 (.ret)))))))))))
def Zr1:Pm prog 10 1 Zf6 [.c 2 6 true,.c 3 1 false]=true:=by kernel_rfl
def Ykm:Nat:=0x10400242c6001056010072014b1601102826b
def Yji:List It:=[.op (some 2) (.c (.mv (.t 5)))]
def Yz7:List Nat:=[0,1,2]
def px:Nat:=0x10033da10400f01500254e4d400d33200e05945b21c92838c01415d0210ff6a70750ab00c02500a10100915d02103833522745e0600073dd21c1868151bf0e2
def Zgp:S:=zS [(zS [] Ykm)] px
def Zmj:Ps prog 29 2 5 Yji Zgp=true:=by kernel_rfl
def WS:S2:=zL [] [] Yku
def Yny:=(by cbv:WS=_)
def Se:S2:=zL [] [WS] mT
def Ynx:=(show Se=_ from (λa=>(by cbv:zL [] [a] mT=_)) WS)
def WT:S2:=zL [] [Se] mV
def Ynz:=(show WT=_ from (λa=>(by cbv:zL [] [a] mV=_)) Se)
def XB:S2:=zL [] [WT] qE
def Zm8:=(show XB=_ from (λa=>(by cbv:zL [] [a] qE=_)) WT)
def Zph:Zgt.AZ []=some XB:=by kernel_rfl
def uu:S2:=zL [] [] Yjs
def sw:=(by cbv:uu=_)
def uv:S2:=zL [] [] Yjt
def s7:=(by cbv:uv=_)
def uw:S2:=zL [] [] Yju
def s8:=(by cbv:uw=_)
def uY:S2:=zL [] [] Yjv
def s9:=(by cbv:uY=_)
def Zim:Ks:=.pre (.rg [.op (some 1) (.box 30 (.t 0)),.op (some 2) (.alloc 30 (.agg [.Ad,.Ad,.Ad,.Ad,.Ad,.Ad])),.op (some 3) (.alloc 31 (.int .i64 0))] [(1,(.a (.t 1))),(2,(.a (.t 2))),(3,(.a (.t 3)))] [])
 (.pre (.rg [.Ak [] (.u (.ld 6 true (.t 0)) (.a (.t 1))),.lt 11 [] (.u (.ld 6 true (.t 0)) (.a (.t 1))),.op (some 12) (.call 28 [(.t 11)])] [(1,(.a (.t 1))),(2,(.a (.t 2))),(3,(.a (.t 3))),(4,(.u (.ext (.t 0) 0) (.a (.t 12)))),(5,(.u (.ext (.t 0) 1) (.a (.t 12))))] [])
 (.pre (.seq (.rg [] [(1,(.a (.t 1))),(2,(.a (.t 2))),(3,(.a (.t 3))),(4,(.a (.t 4))),(15,(.a (.t 5)))] [])
 (.cond (.t 15) (.seq (.rg [.Ak [] (.u (.ld 6 true (.t 0)) (.a (.t 2))),.lt 16 [] (.u (.ld 6 true (.t 0)) (.a (.t 2))),.op none (.st 6 (.t 2) (.t 16)),.op none (.st 1 (.t 3) (.int .i64 111))] [(2,(.a (.t 2))),(3,(.a (.t 3)))] [])
 (.ret)) (.skip)))
 (.EX [.op (some 17) (.c (.ES 29 [] [(.t 2),(.t 3)]))] [(1,(.a (.t 1))),(2,(.a (.t 2))),(3,(.a (.t 3))),(4,(.a (.t 4))),(17,(.a (.t 17)))] 17
 (.seq (.rg [.Ak [] (.u (.ld 1 false (.t 0)) (.u (.Bf 5 5 (.t 0)) (.a (.t 1)))),.Ak [] (.u (.ld 1 false (.t 0)) (.u (.Bf 4 4 (.t 0)) (.a (.t 1)))),.Ak [] (.u (.ld 1 false (.t 0)) (.u (.Bf 3 3 (.t 0)) (.a (.t 1)))),.Ak [] (.u (.ld 1 false (.t 0)) (.u (.Bf 2 2 (.t 0)) (.a (.t 1)))),.Ak [] (.u (.ld 1 false (.t 0)) (.u (.Bf 1 1 (.t 0)) (.a (.t 1)))),.Ak [] (.u (.ld 1 false (.t 0)) (.u (.Bf 0 0 (.t 0)) (.a (.t 1)))),.lt 34 [] (.u (.ld 1 false (.t 0)) (.u (.Bf 5 5 (.t 0)) (.a (.t 1)))),.lt 31 [] (.u (.ld 1 false (.t 0)) (.u (.Bf 4 4 (.t 0)) (.a (.t 1)))),.lt 28 [] (.u (.ld 1 false (.t 0)) (.u (.Bf 3 3 (.t 0)) (.a (.t 1)))),.lt 25 [] (.u (.ld 1 false (.t 0)) (.u (.Bf 2 2 (.t 0)) (.a (.t 1)))),.lt 22 [] (.u (.ld 1 false (.t 0)) (.u (.Bf 1 1 (.t 0)) (.a (.t 1)))),.lt 19 [] (.u (.ld 1 false (.t 0)) (.u (.Bf 0 0 (.t 0)) (.a (.t 1)))),.op (some 20) (.CQ 30 [(.t 19)]),.op (some 23) (.CQ 31 [(.t 22)]),.op (some 26) (.CQ 32 [(.t 25)]),.op (some 29) (.CQ 33 [(.t 28)]),.op (some 32) (.CQ 34 [(.t 31)]),.op (some 35) (.CQ 35 [(.t 34)]),.op (some 36) (.c (.Fa [.Ad,.Ad,.Ad,.Ad,.Ad,.Ad] [(0,(.t 20)),(1,(.t 23)),(2,(.t 26)),(3,(.t 29)),(4,(.t 32)),(5,(.t 35))])),.op none (.st 6 (.t 2) (.t 36))] [(2,(.a (.t 2))),(3,(.a (.t 3))),(4,(.a (.t 4)))] [2,3])
 (.seq (.rg [.Ak [] (.u (.ld 1 false (.t 0)) (.u (.Bf 1 1 (.t 0)) (.a (.t 2)))),.lt 39 [] (.u (.ld 1 false (.t 0)) (.u (.Bf 1 1 (.t 0)) (.a (.t 2)))),.lt 37 [] (.a (.t 4)),.op (some 40) (.call 36 [(.t 37),(.t 39)])] [(2,(.a (.t 2))),(3,(.a (.t 3))),(4,(.a (.t 4)))] [2,3])
 (.seq (.seq (.rg [] [(2,(.a (.t 2))),(3,(.a (.t 3))),(4,(.a (.t 4))),(43,(.u (.CK (.t 0)) (.u (.ld 1 false (.t 0)) (.u (.Bf 2 2 (.t 0)) (.a (.t 2)))))),(44,(.a (.int .i64 0)))] [2,3])
 (.block 0 (.loop [2,3,4,43,44] uY)))
 (.seq (.seq (.rg [] [(2,(.a (.t 2))),(3,(.a (.t 3))),(4,(.a (.t 4))),(63,(.u (.CK (.t 0)) (.u (.ld 1 false (.t 0)) (.u (.Bf 3 3 (.t 0)) (.a (.t 2)))))),(64,(.a (.int .i64 0)))] [2,3])
 (.block 2 (.loop [2,3,4,63,64] uw)))
 (.seq (.seq (.rg [] [(2,(.a (.t 2))),(3,(.a (.t 3))),(4,(.a (.t 4))),(76,(.u (.CK (.t 0)) (.u (.ld 1 false (.t 0)) (.u (.Bf 4 4 (.t 0)) (.a (.t 2)))))),(77,(.a (.int .i64 0)))] [2,3])
 (.block 4 (.loop [2,3,4,76,77] uv)))
 (.seq (.seq (.rg [] [(2,(.a (.t 2))),(3,(.a (.t 3))),(4,(.a (.t 4))),(89,(.u (.CK (.t 0)) (.u (.ld 1 false (.t 0)) (.u (.Bf 5 5 (.t 0)) (.a (.t 2)))))),(90,(.a (.int .i64 0)))] [2,3])
 (.block 6 (.loop [2,3,4,89,90] uu)))
 (.seq (.rg [.op (some 100) (.Kh 6 true (.t 2)),.op none (.st 6 (.t 2) (.t 100)),.op none (.st 1 (.t 3) (.int .i64 0))] [(2,(.a (.t 2))),(3,(.a (.t 3)))] [2,3])
 (.ret)))))))))))
def Zow:Zf6.AZ []=some Zim:=by kernel_rfl
def jS:S2:=zL [] [] Ykm
def Ynv:=(by cbv:jS=_)
def ZR:List E0:=[]
def ZQ:List (Nat×E):=[(0,(.a (.t 0))),(1,(.a (.t 1))),(2,(.a (.t 5)))]
def Zik:HR [] Yz7 [] Yji [] [] []=some (ZR,ZQ):=by kernel_rfl
def Zi5:S2:=zL [] [jS] px
def Zfs:=(show Zi5=_ from (λa=>(by cbv:zL [] [a] px=_)) jS)
def Zih:Zgp.AZ []=some Zi5:=by kernel_rfl
def pN:S2:=match XB with
|.seq a _=>a
|s=>s
def pO:S2:=match Se with
|.seq _ (.seq _ (.seq (.block _ (.seq _ (.seq _ t))) _))=>t
|s=>s
def Y7f:XB=.seq pN WT:=rfl
def Yi8:Se=.seq (.rg [] [(0,(.a (.t 0))),(1,(.a (.t 1))),(42,(.a (.t 42))),(43,(.a (.t 43))),(44,(.b (.CR .lss (.t 0) (.t 1)) (.a (.t 43)) (.a (.t 42))))] [])
 (.seq (.cond (.t 44) (.skip) (.exit 0))
 (.seq (.block 1 (.seq (.rg [] [(0,(.a (.t 0))),(1,(.a (.t 1))),(4,(.a (.t 43))),(42,(.a (.t 42))),(43,(.a (.t 43)))] [])
 (.seq (.rg [] [(0,(.a (.t 0))),(1,(.a (.t 1))),(5,(.b (.Cs 5 (.t 0) (.t 1)) (.u (.ld 1 false (.t 0)) (.u (.Bf 4 4 (.t 0)) (.u (.DA (.t 0)) (.a (.t 1))))) (.a (.t 4)))),(42,(.a (.t 42))),(43,(.a (.t 43)))] [])
 pO))) WS)):=rfl
include hP
theorem Y65{y:Ai}{j:AF}{id m i:Nat}{k:List V}{c:Ar}{Q:Zi}(p:RC y j)(l:AB j id=some (.Ay 80 5 k))(q:k.length=m)(f:i<m)
 (g:∀h:i<k.length,k[i]=.d (.agg [.AU c.Aw,.AU c.B8,iD c.a,iD c.b,.AH 5 (c.At.map BI.enc)]))
 (w:∀a b,Cr (y.AE.map AO.name) c.Aw=some a->Cr (y.AE.map AO.name) c.B8=some b->Q .normal [(0,.ptr 4 []),(1,.ep id m 5 i 0 [])] (AG j id (.Ay 80 5 (k.set i (.d (.agg [.AU c.Aw,.AU c.B8,.int .i64 a,.int .i64 b,.AH 5 (c.At.map BI.enc)]))))))
 (t:Cr (y.AE.map AO.name) c.Aw=none\/Cr (y.AE.map AO.name) c.B8=none->Q (.panic (.d Zw)) [] j):
 Zb P [] pN Q [(0,.ptr 4 []),(1,.ep id m 5 i 0 [])] j:=by
 have e:i<k.length:=by omega
 have n:=p.o4;have r:∀o,AB (AG j id o) id=some o:=λo=>by rw[Xb j id id ⟨_,l⟩,BS rfl]
 simp[pN,Zm8,n,l,q,f,e,g]
 repeat' apply And.intro
 all_goals refine Zj hP p.o7 (λa u=>?_) (λs=>t (.inl s))
 all_goals simp[n,l,q,f,e,g]
 repeat' apply And.intro
 all_goals refine Zj hP p.o7 (λb v=>?_) (λs=>t (.inr s))
 all_goals simp[n,l,q,f,e,g,r,Yh]
 all_goals exact w a b u v
set_option maxHeartbeats 4000000 in
theorem Y66{y:Ai}{j:AF}{id c m i n k a b:Nat}{x w:List V}{f t:B}{u:BI}{A B:V}{Q:Zi}(G:RC y j)(K:AB j id=some (.Ay 80 5 x))(N:x.length=m)(r:i<m)
 (v:∀h:i<x.length,x[i]=.agg [.d (.AU f),.d (.AU t),.d (.int .i64 a),.d (.int .i64 b),.sl c n])
 (H:AB j c=some (.Ay 181 5 w)) (Y:w.length=n) (L:k<n) (X:∀h:k<w.length,w[k]=.d (.agg [.AU u.B8,.AU u.Aw,iD u.b,iD u.a,iD u.shift])) (z:a<y.AE.length) (F:b<y.AE.length)
 (hn:∀p q,Cr (EO y.AE a) u.Aw=some p->Cr (EO y.AE b) u.B8=some q->Q .normal [(0,.ptr 4 []),(1,.ep id m 5 i 0 []),(42,A),(43,B)] (AG j c (.Ay 181 5 (w.set k (.d (.agg [.AU u.B8,.AU u.Aw,.int .i64 q,.int .i64 p,iD u.shift]))))))
 (Z:Cr (EO y.AE a) u.Aw=none\/Cr (EO y.AE b) u.B8=none->Q (.panic (.d Zw)) [] j):
 Zb P [] pO Q [(0,.ptr 4 []),(1,.ep id m 5 i 0 []),(5,.ep c n 5 k 0 []),(42,A),(43,B)] j:=by
 have e:i<x.length:=by omega
 have s:k<w.length:=by omega
 have g:y.AE.length≠0:=by omega
 have J:=G.o4;have l:=G.Ri g;have ca:=G.om a z;have cb:=G.om b F;have U:∀o,AB (AG j c o) c=some o:=λo=>by rw[Xb j c c ⟨_,H⟩,BS rfl]
 simp (maxSteps:=10000000) [pO,Ynx,J,l,K,N,r,e,v,H,Y,L,s,X,Hf,g,z,F,Vc,Ua]
 repeat' apply And.intro
 all_goals refine Zj hP ca (λp O=>?_) (λW=>Z (.inl W))
 all_goals simp[J,l,K,N,r,e,v,H,Y,L,s,X,Hf,g,z,F,Vc,Ua]
 repeat' apply And.intro
 all_goals refine Zj hP cb (λq T=>?_) (λW=>Z (.inr W))
 all_goals simp[J,l,K,N,r,e,v,H,Y,L,s,X,Hf,g,z,F,Vc,Ua,U,Yh]
 all_goals exact hn p q O T
omit hP
def Ml(x:BI):V:=.d x.enc
include hP
theorem Xxl{a:List D}(c:∀x∈a,x.sz=5)(e:a.length<=1000000){b:AF}{K:V->AF->Prop}(h:K (.sl (AA b) a.length) ((AA b,.Ay 181 5 (a.map .d))::b)):Cm P 112 [.d (.AH 5 a)] b K:=
 IP (ds:=[.AH 5 a]) (Wt hP AQ Y7b c (by omega) ⟨rfl,rfl⟩) h
theorem X00{y:Ai}{id m i:Nat}{vs:List V}{c:Ar}(hm:c.At.length<=1000000){f:AF}(hc:RC y f)(hi:AB f id=some (.Ay 80 5 vs))(hl:vs.length=m)(hv:vs[i]? = some (.d c.enc))(ae:∀p,BY p vs=false)(ao:id≠1/\id≠2){K:BN->AF->Prop}
 (h1:∀q,Zo y.AE c=some q->K (.ret (.BT [])) (AG f id (.Ay 80 5 (vs.set i (.d q.enc))))) (h0:Zo y.AE c=none->Pk K f):
 AX P 39 [.ptr 4 [],.ep id m 5 i 0 []] f K:=by
 refine AX.Gq ?_;refine Xt hP AQ Zsm Zph A4.nil λ_ L=>?_;obtain⟨ap,ad⟩:=Ek.1 hv;have pe:c.enc=.agg [.AU c.Aw,.AU c.B8,iD c.a,iD c.b,.AH 5 (c.At.map BI.enc)]:=rfl;rw[pe]at ad;have l:i<m:=by omega
 have aq:=Xi hi;have l4:=Xi hc.o4;have O:AA f≠id:=by omega
 simp[Y7f];refine Y65 hP hc hi hl l (λ_=>ad) (λa b ha hb=>?_) (λv=>?_)
 ·have cR:Zo y.AE c=(D6 c.At (Oc y.AE a b)).map λms=>{c with a:=(a:Int),b:=(b:Int),At:=ms}:=by rw[Zo,ha,Option.bind_some,hb,Option.bind_some]
  obtain⟨v1,H⟩:∃v1,v1=vs.set i (V.d (.agg [.AU c.Aw,.AU c.B8,.int .i64 a,.int .i64 b,.AH 5 (c.At.map BI.enc)])):=⟨_,rfl⟩
  rw[<-H];have Z:v1.length=m:=by rw[H];simpa using hl
  have af:∀h:i<v1.length,v1[i]=V.d (.agg [.AU c.Aw,.AU c.B8,.int .i64 a,.int .i64 b,.AH 5 (c.At.map BI.enc)]):=λh=>by simp[H]
  have N:∀o,AB (AG f id o) id=some o:=λo=>by rw[Xb f id id ⟨_,hi⟩,BS rfl]
  simp[Ynz,N,Z,af,l];refine Xxl hP (by intro x v;obtain⟨r,_,rfl⟩:=DY.1 v;rfl) (by simpa using hm) ?_;simp[N,O,Z,af,l,Dn,CA,Z7,Yh];refine⟨⟨_,_,_,⟨rfl,rfl,rfl⟩,by simp⟩,?_⟩;obtain⟨vs',t⟩:∃vs',vs'=v1.set i (V.agg [.d (.AU c.Aw),.d (.AU c.B8),.d (.int .i64 a),.d (.int .i64 b),.sl (AA f) c.At.length]):=⟨_,rfl⟩
  rw[<-t];have ag:vs'.length=m:=by rw[t];simpa using Z
  have Y:∀h:i<vs'.length,vs'[i]=V.agg [.d (.AU c.Aw),.d (.AU c.B8),.d (.int .i64 a),.d (.int .i64 b),.sl (AA f) c.At.length]:=λh=>by simp[t]
  have ak:=hc.set (vs':=vs') hi (by decide);have fs:AA (AG f id (.Ay 80 5 vs'))=AA f:=by simp
  let j:List V->AF:=λus=>(AA f,.Ay 181 5 us)::AG f id (.Ay 80 5 vs');have bG:∀us,AB (j us) (AA f)=some (.Ay 181 5 us):=λus=>by simp[j,AB]
  have bS:∀us X,AG (j us) (AA f) (.Ay 181 5 X)=j X:=λus X=>by simp[j,AG]
  have bI:∀us,AB (j us) id=some (.Ay 80 5 vs'):=λus=>by
   show AB ((AA f,_)::AG f id _) id=_;rw[AB,Aq O,N]
  have bC:∀us,RC y (j us):=λus=>by
   have:=ak.cons (.Ay 181 5 us)
   rwa [fs]at this
  have bF:∀us,AA (j us)=AA f+1:=λus=>by
   have:¬AA f+1<=AA f:=by omega
   simp[j,this]
  have bN:∀{n:Nat}{kp:List Nat}{us:List V},AA f<=n->AD n kp (AA f)=false->(∀p,BY p us=false)->AI (AD n kp) (j us)=true:=λhn hk hu=>by
   simp only[j,AI,hu,Bool.not_false,EN];refine Xx ?_ (BV L hn);rw[t,H,List.set_set];exact Yb (by simp[V.BQ,BY,hk]) i (ae _)
  have bD:∀{n:Nat}{kp:List Nat}{us:List V},AA f<=n->AD n kp (AA f)=false->Xk (AD n kp) (j us)=j us:=λ{n kp us} hn hk=>by
   show Xk _ ((AA f,_)::AG f id _)=_;rw[Xk,hk,Xh (by simp;omega)];rfl
  have aa:∀us x,x=1\/x=2->AB (j us) x=AB f x:=λus x v=>by
   have e1:AA f≠x:=by omega
   show AB ((AA f,_)::AG f id _) x=_;rw[AB,Aq e1,Xb f id x ⟨_,hi⟩,Aq (by omega)]
  have ai:a<y.AE.length:=by simpa using QV ha
  have aj:b<y.AE.length:=by simpa using QV hb
  show Au _ _ _ _ (j (c.At.map (V.d∘BI.enc)));refine Au.go (ι:=List BI) (λd=>[(0,.ptr 4 []),(1,.ep id m 5 i 0 []),(42,.d (.int .i64 c.At.length)),(43,.d (.int .i64 d.length))])
   (λd=>j ((d++c.At.drop d.length).map Ml)) (λd=>d.length<=c.At.length/\D6 c.At (Oc y.AE a b)=Db (λ_=>Oc y.AE a b) d (c.At.drop d.length)) (λd=>c.At.length-d.length) [] ⟨by simp,rfl⟩ (by simp) (by simp;rfl) ?_
  rintro d ⟨hd,T⟩ R rn re rr rp;have wl:((d++c.At.drop d.length).map Ml).length=c.At.length:=by simp;omega
  by_cases w:d.length<c.At.length
  ·have wr:IntKind.i64.wrap ((d.length:Int)+1)=(d.length:Int)+1:=w_i _ (by omega);have wk:=K4 Ml w;have ws:=Kz Ml w;rw[D5 w,Z4]at T;generalize hu:c.At[d.length]=u at T wk;have ue:Ml u=.d (.agg [.AU u.B8,.AU u.Aw,iD u.b,iD u.a,iD u.shift]):=rfl;rw[ue]at wk;generalize al:(d++c.At.drop d.length).map Ml=us at wl wk ws;have ac:∀p,BY p us=false:=λp=>by rw[<-al];exact X8 _ _
   have ab:∀s:Nat,Yr y.AE s=EO y.AE s:=λs=>by
    unfold Yr EO;simp only[Int.toNat_natCast];cases y.AE[s]?<;>rfl
   have U:Oc y.AE a b u=(Cr (EO y.AE a) u.Aw).bind λ(x:Nat)=>(Cr (EO y.AE b) u.B8).map λ(z:Nat)=>{u with a:=x,b:=z}:=by rw[<-ab,<-ab];rfl
   simp[Yi8,w,bI,bG,ag,Y,l,wl,wk];refine Y66 hP (bC _) (bI _) ag l Y (bG _) wl w (λ_=>wk _) ai aj (λp q hp hq=>?_) (λv=>?_)
   ·have hz:Oc y.AE a b u=some {u with a:=(p:Int),b:=(q:Int) }:=by rw[U,hp,Option.bind_some,hq];rfl
    rw[hz,Option.bind_some]at T;have e1:us.set d.length (.d (.agg [.AU u.B8,.AU u.Aw,.int .i64 q,.int .i64 p,iD u.shift]))=((d++[{u with a:=(p:Int),b:=(q:Int) }])++c.At.drop (d++[{u with a:=(p:Int),b:=(q:Int) }]).length).map Ml:=ws {u with a:=(p:Int),b:=(q:Int) };rw[bS];simp[Yny];rw[e1];refine rn [] (d++[{u with a:=(p:Int),b:=(q:Int) }]) _ _ ⟨by simp;omega,by rw[T,C7];rfl⟩ (by simp;omega) (by simp[wr]) ?_ ?_ ?_
    ·rw[bF];exact bD (n:=AA f+1) (kp:=[]) (by omega) (by simp[AD])
    ·rw[bF];simp[AD];omega
    ·rw[bF];exact bN (n:=AA f+1) (kp:=[]) (by omega) (by simp[AD]) (λp=>X8 _ _)
   ·simp;refine rp _ _ _ ?_;have hz:Oc y.AE a b u=none:=by
     rcases v with v|v
     ·rw[U,v];rfl
     ·rw[U,v];cases Cr (EO y.AE a) u.Aw<;>rfl
    have W:=h0 (by rw[cR,T,hz];rfl);simp;have k0:AD (AA f) [AA f] (AA f)=false:=by simp[AD]
    have J:=bD (us:=us) (Bg _) k0;have nk:=bN (us:=us) (Bg _) k0 ac;refine⟨[AA f],by simp,by rw[J];exact nk,_,Wk.refl _,[AA f],by simp[BN.BQ],by rw[J,J];exact nk,?_⟩;rw[J,J];exact W _ (aa us 1 (.inl rfl)) (aa us 2 (.inr rfl))
  ·have Q:d.length=c.At.length:=by omega
   rw[Q,List.drop_length,Db]at T;simp[Yi8,w];refine re _ _ _ ?_;simp;have e:List.drop d.length (c.At.map Ml)=[]:=HO (by simp[Q]);rw[e,GJ];have hq:Zo y.AE c=some {c with a:=(a:Int),b:=(b:Int),At:=d}:=by rw[cR,T];rfl
   obtain⟨G,F⟩:∃G,G=j (d.map Ml):=⟨_,rfl⟩
   have li:AB G id=some (.Ay 80 5 vs'):=by rw[F,bI]
   have lf:AB G (AA f)=some (.Ay 181 5 (d.map λr=>V.d r.enc)):=by rw[F,bG];rfl
   have g:DC 3 G (V.agg [.d (.AU c.Aw),.d (.AU c.B8),.d (.int .i64 a),.d (.int .i64 b),.sl (AA f) c.At.length])=some (.agg [.AU c.Aw,.AU c.B8,.int .i64 a,.int .i64 b,.AH 5 (d.map BI.enc)],AG G (AA f) .An):=by
    have hd:∀(x:D)(o:AF),DC 2 o (.d x)=some (x,o):=λx o=>rfl;show FX (E8 (DC 2) G _)=_;simp only[E8,hd,Ig (k:=0) BI.enc lf (by decide) Q.symm,Qg,FX]
   have sg:AG G (AA f) .An=(AA f,.An)::AG f id (.Ay 80 5 vs'):=by rw[F];simp[j,AG]
   have an:AB (AG G (AA f) .An) id=some (.Ay 80 5 vs'):=by rw[sg,AB,Aq O,N]
   have ah:=PV li (i:=i) (by rw[DN (by omega),Y]) g an rfl;have Cq:AG (AG G (AA f) .An) id (.Ay 80 5 (vs'.set i (.d (.agg [.AU c.Aw,.AU c.B8,.int .i64 a,.int .i64 b,.AH 5 (d.map BI.enc)]))))=(AA f,.An)::AG f id (.Ay 80 5 (vs.set i (.d ({c with a:=(a:Int),b:=(b:Int),At:=d}:Ar).enc))):=by
    rw[sg,AG,Aq O,Yh,t,H,List.set_set,List.set_set];rfl
   rw[Cq]at ah;rw[<-F];have k0:AD (AA f) [AA f] (AA f)=false:=by simp[AD]
   have J:Xk (AD (AA f) [AA f]) G=G:=by rw[F];exact bD (Bg _) k0
   refine⟨[AA f],by simp,by rw[J,F];exact bN (Bg _) k0 (λp=>X8 _ _),_,by rw[J];exact ah,[],by simp[BN.BQ],?_,?_⟩
   ·simp[AD,Xk];exact Xx (Yb rfl _ (ae _)) (L _)
   ·simp[AD,Xk];exact h1 _ hq
 ·simp;have hn:Zo y.AE c=none:=by
   rcases v with v|v
   ·rw[Zo,v];rfl
   ·rw[Zo,v];cases Cr (y.AE.map AO.name) c.Aw<;>rfl
  have W:=h0 hn;have J:Xk (AD (AA f) []) f=f:=by simp
  refine⟨[],by simp,by simpa using L [],_,Wk.refl _,[],by simp[BN.BQ],by simpa using L [],?_⟩;simpa using W f rfl rfl
omit hP
abbrev MO:D:=.agg [.Ad,.Ad,.Ad,.Ad,.Ad,.Ad]
include hP
theorem Y7k{c:AF}{a b:Nat}{K:AF->Prop}(h:K c):B4 P 29 [.ptr a [],.ptr b []] c none K:=by
 refine B4.D8 λ_ d=>?_;refine Vy hP AQ Zmj Zik Zih A4.nil ?_;simp[ZR,ZQ,Zfs];refine⟨[],by simp,?_,?_⟩
 ·simp[d]
 ·simpa using h
theorem Y7j{a:AF}{x:V}{m:Int}(b:AB a 1=some (.box 30 x))(i:x.shape=MO.shape)(c:AB a 2=some (.box 31 (.d (.int .i64 m)))){K:AF->Prop}(h:K (AG (AG a 1 (.box 30 (.d MO))) 2 (.box 31 (.d (.int .i64 110))))):
 B4 P 29 [.ptr 1 [],.ptr 2 []] a (some (.d Zw)) K:=by
 refine B4.D8 λ_ f=>?_;refine Vy hP AQ Zmj Zik Zih A4.nil ?_;have j:AA a≠1:=by have:=Xi b;omega
 have k:AA a≠2:=by have:=Xi c;omega
 simp[ZR,ZQ,Zfs,Ynv,b,c,i,j,k];have g:AI (AD (AA a) []) (AG (AG a 1 (.box 30 (.d MO))) 2 (.box 31 (.d (.int .i64 110))))=true:=Af _ _ _ _ _ (Af _ _ _ _ _ (f []) rfl) rfl;have l:AD (AA a) [] (AA a)=true:=by simp[AD]
 have e:Xk (AD (AA a) []) ((AA a,Ob.box 89 (.d (.agg [])))::AG (AG a 1 (.box 30 (.d MO))) 2 (.box 31 (.d (.int .i64 110))))=AG (AG a 1 (.box 30 (.d MO))) 2 (.box 31 (.d (.int .i64 110))):=by
  rw[Xk,BS l,Xh (by simp)]
 exact⟨[],by simp,by rw[e];exact g,by rw[e];exact h⟩
omit hP
structure Ai.DO(y:Ai):Prop where
 Aa:y.Aa.length<=1000000
 Am:y.Am.length<=1000000
 AE:y.AE.length<=1000000
 AT:y.AT.length<=1000000
 AM:y.AM.length<=1000000
 AK:y.AK.length<=1000000
 AL:∀x∈y.AE,x.AL.length<=1000000
 Ac:∀x∈y.AE,x.Ac.length<=1000000
 names:∀x∈y.AE,∀d∈x.Ac,d.names.length<=1000000000000
 Ah:∀x∈y.AT,x.Ah.length<=1000000
 Ap:∀x∈y.AT,x.Ap.length<=1000000
 BJ:∀x∈y.AT,x.BJ.length<=1000000
 At:∀x∈y.AM,x.At.length<=1000000
 CN:∀x∈y.AK,x.CN.length<=1000000
def G3(x:AO):V:=.d (KL x)
def Ms(x:AO):V:=.d x.enc
def Gd(x:Ao):V:=.d x.enc
def GX(x:Ar):V:=.d x.enc
def Gb(x:Ae):V:=.d x.enc
def Yv:Ai:=⟨[],[],[],[],[],[]⟩
def sQ:D.le MO Yv.enc:=by
 show D.le _ (.agg [Xg [],.AH 5 [],.AH 6 [],.AH 5 [],.AH 5 [],.AH 3 []]);exact D.le.agg (Bk.cons (D.le.nil 1) (Bk.cons (D.le.nil 5) (Bk.cons (D.le.nil 6) (Bk.cons (D.le.nil 5) (Bk.cons (D.le.nil 5) (Bk.cons (D.le.nil 3) Bk.nil))))))
def Vp(y:Ai):Ai×Int:=if QQ y then (Yv,111) else match Us y with
|some z=>(z,0)
|none=>(Yv,110)
def Sk{b:Type}{f:List b->b->Option b}:∀{l a r:List b},Db f a l=some r->r.length=a.length+l.length
|[],a,r,h=>by cases h;simp
|x::l,a,r,h=>by
 simp only[Db]at h;obtain⟨z,_,c⟩:=KA.1 h;have:=Sk c;simp at this⊢;omega
include hP
theorem Yv6:Xd P.p 29=true:=by rw[hP];kernel_rfl
theorem X3b{xs:List D}(b:∀x∈xs,x.sz=1)(c:xs.length<=1000000){a:AF}{K:V->AF->Prop}(h:K (.sl (AA a) xs.length) ((AA a,.Ay 9 1 (xs.map .d))::a)):Cm P 30 [.d (.AH 1 xs)] a K:=
 IP (ds:=[.AH 1 xs]) (Wt hP AQ Zom b (by omega) ⟨rfl,rfl⟩) h
theorem Xxn{xs:List D}(b:∀x∈xs,x.sz=5)(c:xs.length<=1000000){a:AF}{K:V->AF->Prop}(h:K (.sl (AA a) xs.length) ((AA a,.Ay 94 5 (xs.map .d))::a)):Cm P 31 [.d (.AH 5 xs)] a K:=
 IP (ds:=[.AH 5 xs]) (Wt hP AQ Zon b (by omega) ⟨rfl,rfl⟩) h
theorem Xns{xs:List D}(b:∀x∈xs,x.sz=6)(c:xs.length<=1000000){a:AF}{K:V->AF->Prop}(h:K (.sl (AA a) xs.length) ((AA a,.Ay 72 6 (xs.map .d))::a)):Cm P 32 [.d (.AH 6 xs)] a K:=
 IP (ds:=[.AH 6 xs]) (Wt hP AQ Zoo b (by omega) ⟨rfl,rfl⟩) h
theorem Xxm{xs:List D}(b:∀x∈xs,x.sz=5)(c:xs.length<=1000000){a:AF}{K:V->AF->Prop}(h:K (.sl (AA a) xs.length) ((AA a,.Ay 77 5 (xs.map .d))::a)):Cm P 33 [.d (.AH 5 xs)] a K:=
 IP (ds:=[.AH 5 xs]) (Wt hP AQ Zop b (by omega) ⟨rfl,rfl⟩) h
theorem Xip{xs:List D}(b:∀x∈xs,x.sz=5)(c:xs.length<=1000000){a:AF}{K:V->AF->Prop}(h:K (.sl (AA a) xs.length) ((AA a,.Ay 80 5 (xs.map .d))::a)):Cm P 34 [.d (.AH 5 xs)] a K:=
 IP (ds:=[.AH 5 xs]) (Wt hP AQ Zoq b (by omega) ⟨rfl,rfl⟩) h
theorem Xiq{xs:List D}(b:∀x∈xs,x.sz=3)(c:xs.length<=1000000){a:AF}{K:V->AF->Prop}(h:K (.sl (AA a) xs.length) ((AA a,.Ay 83 3 (xs.map .d))::a)):Cm P 35 [.d (.AH 3 xs)] a K:=
 IP (ds:=[.AH 3 xs]) (Wt hP AQ Zor b (by omega) ⟨rfl,rfl⟩) h
theorem dR{y:Ai}(hy:y.BF)(Y:y.DO){be:AF}{K:V->Prop}(h:∀d,D.le d (Vp y).1.enc->K (.BT [.d d,.d (.int .i64 (Vp y).2)])):AW P 10 [.d y.enc] be K:=by
 refine Vj hP AQ (ds:=[y.enc]) Zr1 Zow A4.nil ?_;have d0:=Yv6 hP;have yk:(V.d y.enc).Bc=some [.d (Xg y.Aa),.d (.AH 5 (y.Am.map A0.enc)),.d (.AH 6 (y.AE.map AO.enc)),.d (.AH 5 (y.AT.map Ao.enc)),.d (.AH 5 (y.AM.map Ar.enc)),.d (.AH 3 (y.AK.map Ae.enc))]:=rfl;have ys:y.enc.shape.size=6:=by rw[Cb];rfl
 have yz:y.enc.sz=6:=rfl;simp[Zim,ys,yz];refine⟨rfl,Yfc hP hy Y.AE ?_⟩;obtain⟨k,hk⟩:∃k,k=y.AE.length:=⟨_,rfl⟩
 have b1:∀L J H,AB (Zy y k L J H) 1=some J:=λ_ _ _=>by unfold Zy Vd FF;split<;>simp[AB]
 have b2:∀L J H,AB (Zy y k L J H) 2=some L:=λ_ _ _=>by unfold Zy Vd FF;split<;>simp[AB]
 have b0:∀L J H,AB (Zy y k L J H) 0=some H:=λ_ _ _=>by unfold Zy Vd FF;split<;>simp[AB]
 have t1:∀L J H x,AG (Zy y k L J H) 1 x=Zy y k L x H:=λ_ _ _ _=>by unfold Zy Vd FF;split<;>simp[AG]
 have t2:∀L J H x,AG (Zy y k L J H) 2 x=Zy y k x J H:=λ_ _ _ _=>by unfold Zy Vd FF;split<;>simp[AG]
 rw[<-hk];by_cases aa:QQ y=true
 ·have hq:Vp y=(Yv,111):=by rw[Vp,BS aa]
  rw[hq]at h;simp[aa,b1,b2,t1,t2];exact h _ sQ
 ·simp only[Bool.not_eq_true]at aa;have bc:Us y=none->Vp y=(Yv,110):=λe=>by rw[Vp,aa,e];rfl
  have bd:∀z,Us y=some z->Vp y=(z,0):=λz e=>by rw[Vp,aa,e];rfl
  obtain⟨F,hF⟩:∃F,F=if k=0 then 9 else 11+2*k:=⟨_,rfl⟩
  have bb:∀r∈y.AT,(r.Ah.map Av.name).Nodup:=λr hr=>by
   simp only[QQ,Bool.not_eq_false',BB,Es,DK]at aa;exact aa.2 r hr
  have gf:∀L J H,AA (Zy y k L J H)=F:=λL J H=>by rw[hF];exact US
  have F9:9<=F:=by rw[hF];split<;>omega
  have fn:∀n,n<=8->(F=n)=False:=λn hn=>eq_false (by omega);have ad:∀n,n<=8->(F+1=n)=False:=λn hn=>eq_false (by omega);have ae:∀n,n<=8->(F+2=n)=False:=λn hn=>eq_false (by omega);have af:∀n,n<=8->(F+3=n)=False:=λn hn=>eq_false (by omega);have ag:∀n,n<=8->(F+4=n)=False:=λn hn=>eq_false (by omega);have ah:∀n,n<=8->(F+5=n)=False:=λn hn=>eq_false (by omega);simp[aa,d0,b0,b1,b2,t1,t2,yk];refine⟨rfl,X3b hP (xs:=y.Aa.map .AU) (by intro x hx;obtain⟨r,_,rfl⟩:=DY.1 hx;rfl) (by simpa using Y.Aa) ?_⟩;rw[gf];refine Xxn hP (xs:=y.Am.map A0.enc) (by intro x hx;obtain⟨r,_,rfl⟩:=DY.1 hx;rfl) (by simpa using Y.Am) ?_;have f1:∀o L J H,AA ((F,o)::Zy y k L J H)=F+1:=λo L J H=>by simp[gf]
  rw[f1];refine Xns hP (xs:=y.AE.map AO.enc) (by intro x hx;obtain⟨r,_,rfl⟩:=DY.1 hx;rfl) (by simpa using Y.AE) ?_;have f2:∀a o L J H,AA ((F+1,a)::(F,o)::Zy y k L J H)=F+2:=λa o L J H=>by simp[f1]
  rw[f2];refine Xxm hP (xs:=y.AT.map Ao.enc) (by intro x hx;obtain⟨r,_,rfl⟩:=DY.1 hx;rfl) (by simpa using Y.AT) ?_;have f3:∀b a o L J H,AA ((F+2,b)::(F+1,a)::(F,o)::Zy y k L J H)=F+3:=λb a o L J H=>by simp[f2]
  rw[f3];refine Xip hP (xs:=y.AM.map Ar.enc) (by intro x hx;obtain⟨r,_,rfl⟩:=DY.1 hx;rfl) (by simpa using Y.AM) ?_;have f4:∀c b a o L J H,AA ((F+3,c)::(F+2,b)::(F+1,a)::(F,o)::Zy y k L J H)=F+4:=λc b a o L J H=>by simp[f3]
  rw[f4];refine Xiq hP (xs:=y.AK.map Ae.enc) (by intro x hx;obtain⟨r,_,rfl⟩:=DY.1 hx;rfl) (by simpa using Y.AK) ?_;have f5:∀d c b a o L J H,AA ((F+4,d)::(F+3,c)::(F+2,b)::(F+1,a)::(F,o)::Zy y k L J H)=F+5:=λd c b a o L J H=>by simp[f4]
  have f6:∀e d c b a o L J H,AA ((F+5,e)::(F+4,d)::(F+3,c)::(F+2,b)::(F+1,a)::(F,o)::Zy y k L J H)=F+6:=λe d c b a o L J H=>by simp[f5]
  rw[f5];let X:V:=.agg [.sl F y.Aa.length,.sl (F+1) y.Am.length,.sl (F+2) y.AE.length,.sl (F+3) y.AT.length,.sl (F+4) y.AM.length,.sl (F+5) y.AK.length];let B:List V->List V->List V->List V->List V->AF:=λw m s t v=>(F+5,.Ay 83 3 v)::(F+4,.Ay 80 5 t)::(F+3,.Ay 77 5 s)::(F+2,.Ay 72 6 m)::(F+1,.Ay 94 5 w)::(F,.Ay 9 1 (y.Aa.map λx=>V.d (.AU x)))::Zy y k (.box 31 (.d (.int .i64 0))) (.box 30 X) (.box 30 (.d y.enc));simp[fn,ad,ae,af,ag,ah,b0,b1,b2,t1,t2,Dn,CA,Z7,AB,AG];have cU:∀w m s t v,AB (B w m s t v) (F+1)=some (.Ay 94 5 w):=λ_ _ _ _ _=>by simp[B,AB]
  have cS:∀w m s t v,AB (B w m s t v) (F+2)=some (.Ay 72 6 m):=λ_ _ _ _ _=>by simp[B,AB]
  have cR:∀w m s t v,AB (B w m s t v) (F+3)=some (.Ay 77 5 s):=λ_ _ _ _ _=>by simp[B,AB]
  have cC:∀w m s t v,AB (B w m s t v) (F+4)=some (.Ay 80 5 t):=λ_ _ _ _ _=>by simp[B,AB]
  have cP:∀w m s t v,AB (B w m s t v) (F+5)=some (.Ay 83 3 v):=λ_ _ _ _ _=>by simp[B,AB]
  have cI:∀w m s t v,AB (B w m s t v) F=some (.Ay 9 1 (y.Aa.map λx=>V.d (.AU x))):=λ_ _ _ _ _=>by simp[B,AB]
  have c1:∀w m s t v,AB (B w m s t v) 1=some (.box 30 X):=λ_ _ _ _ _=>by simp[B,AB,fn,ad,ae,af,ag,ah,b1]
  have c2:∀w m s t v,AB (B w m s t v) 2=some (.box 31 (.d (.int .i64 0))):=λ_ _ _ _ _=>by simp[B,AB,fn,ad,ae,af,ag,ah,b2]
  have sU:∀w m s t v x,AG (B w m s t v) (F+1) (.Ay 94 5 x)=B x m s t v:=λ_ _ _ _ _ _=>by simp[B,AG]
  have sS:∀w m s t v x,AG (B w m s t v) (F+2) (.Ay 72 6 x)=B w x s t v:=λ_ _ _ _ _ _=>by simp[B,AG]
  have sR:∀w m s t v x,AG (B w m s t v) (F+3) (.Ay 77 5 x)=B w m x t v:=λ_ _ _ _ _ _=>by simp[B,AG]
  have sC:∀w m s t v x,AG (B w m s t v) (F+4) (.Ay 80 5 x)=B w m s x v:=λ_ _ _ _ _ _=>by simp[B,AG]
  have sP:∀w m s t v x,AG (B w m s t v) (F+5) (.Ay 83 3 x)=B w m s t x:=λ_ _ _ _ _ _=>by simp[B,AG]
  have T:∀w m s t v,RC y (B w m s t v):=λw m s t v=>by
   have h0:RC y (Zy y k (.box 31 (.d (.int .i64 0))) (.box 30 X) (.box 30 (.d y.enc))):=by rw[hk];exact Rdf
   have h1:=h0.cons (.Ay 9 1 (y.Aa.map λx=>V.d (.AU x)));rw[gf]at h1;have h2:=h1.cons (.Ay 94 5 w);rw[f1]at h2;have h3:=h2.cons (.Ay 72 6 m);rw[f2]at h3;have h4:=h3.cons (.Ay 77 5 s);rw[f3]at h4;have h5:=h4.cons (.Ay 80 5 t);rw[f4]at h5;have h6:=h5.cons (.Ay 83 3 v);rw[f5]at h6;exact h6
  have Q:∀w m s t v,AA (B w m s t v)=F+6:=λ_ _ _ _ _=>f6 _ _ _ _ _ _ _ _ _;have hD:∀w m s t v,Xk (AD (F+6) []) (B w m s t v)=B w m s t v:=λw m s t v=>Xh (by rw[Q];exact Bg _);have hN:∀w m s t v,(∀p,BY p w=false)->(∀p,BY p m=false)->(∀p,BY p s=false)->(∀p,BY p t=false)->(∀p,BY p v=false)->AI (AD (F+6) []) (B w m s t v)=true:=λw m s t v m1 m2 m3 m4 m5=>by
   have yF:∀j,j<F+6->AD (F+6) [] j=false:=λj hj=>by simp[AD];omega
   have mi:BY (AD (F+6) []) (y.Aa.map λx=>V.d (.AU x))=false:=X8 (λx=>D.AU x) _;have N:AI (AD (F+6) []) (Zy y k (.box 31 (.d (.int .i64 0))) (.box 30 X) (.box 30 (.d y.enc)))=true:=by
    refine Jq ?_ (yF _ (by omega)) (yF _ (by omega)) (yF _ (by omega)) (λba=>yF _ (by rw[hF,Aq ba];omega)) (λi hi=>yF _ (by rw[hF,Aq (by omega)];unfold Uh;split<;>omega));simp[AI,X,V.BQ,BY,yF F (by omega),yF (F+1) (by omega),yF (F+2) (by omega),yF (F+3) (by omega),yF (F+4) (by omega),yF (F+5) (by omega)]
   simp only[B,AI,m1,m2,m3,m4,m5,mi,N,Bool.not_false,EN]
  have ac:Us y=none->∀W,AB W 1=some (.box 30 X)->AB W 2=some (.box 31 (.d (.int .i64 0)))->L9 P 29 [.ptr 1 [],.ptr 2 []] [RV.c 2 6 true,RV.c 3 1 false] K (.panic (.d Zw)) [(2,.ptr 1 []),(3,.ptr 2 [])] W:=λe W h1 h2=>by
   rw[bc e]at h;simp;refine Y7j hP h1 rfl h2 ?_;have z1:AB (AG (AG W 1 (.box 30 (.d MO))) 2 (.box 31 (.d (.int .i64 110)))) 1=some (.box 30 (.d MO)):=by simp[h1,h2]
   have z2:AB (AG (AG W 1 (.box 30 (.d MO))) 2 (.box 31 (.d (.int .i64 110)))) 2=some (.box 31 (.d (.int .i64 110))):=by simp[h1,h2]
   simp[z1,z2];exact h _ sQ
  have me:∀{α:Type}(f:α->D)(l:List α),∀p,BY p (l.map λx=>V.d (f x))=false:=λf l p=>X8 f l;have bl:y.AE.length=k:=hk.symm;show AX _ _ _ (B (y.Am.map Eo) (y.AE.map (V.d∘AO.enc)) (y.AT.map (V.d∘Ao.enc)) (y.AM.map (V.d∘Ar.enc)) (y.AK.map (V.d∘Ae.enc))) _;refine Yos hP (n:=k) (names:=y.Am.map A0.name) Y.Am (by rw[hk];exact(T _ _ _ _ _).o4) (T _ _ _ _ _).o6 (cU _ _ _ _ _) (λw a2=>?_) (λe ws=>?_)
  ·rw[sU];have rR:Us y=(D6 y.AE (Uc y.Aa (y.Am.map A0.name))).bind λm=>(D6 y.AT (G2 y.AE)).bind λs=>(D6 y.AM (Zo y.AE)).bind λt=>(D6 y.AK (W5 y.AE)).map λv=>{y with Am:=w,AE:=m,AT:=s,AM:=t,AK:=v}:=by rw[Us,a2,Option.bind_some]
   simp[c1,c2,cS,X];refine⟨⟨_,_,_,⟨rfl,rfl,rfl⟩,by simp⟩,?_⟩;show Au _ _ _ _ (B (w.map Eo) (y.AE.map Ms) (y.AT.map Gd) (y.AM.map GX) (y.AK.map Gb));have mU:∀p,BY p (w.map Eo)=false:=me A0.enc _;have mR:∀(l:List Ao) p,BY p (l.map Gd)=false:=λl=>me Ao.enc l;have mC:∀(l:List Ar) p,BY p (l.map GX)=false:=λl=>me Ar.enc l;have mP:∀(l:List Ae) p,BY p (l.map Gb)=false:=λl=>me Ae.enc l;have ap:∀p (a b:List V),BY p (a++b)=(BY p a||BY p b):=λp a b=>by
    induction a with
    |nil=>simp[BY]
    |cons x r ih=>simp[BY,ih,Bool.or_assoc]
   have mS:∀(a b:List AO) p,BY p (a.map G3++b.map Ms)=false:=λa b p=>by
    rw[ap,FU];exact⟨me KL a p,me AO.enc b p⟩
   refine Au.go (ι:=List AO) (λd=>[(2,.ptr 1 []),(3,.ptr 2 []),(4,.ptr 4 []),(43,.d (.int .i64 y.AE.length)),(44,.d (.int .i64 d.length))])
    (λd=>B (w.map Eo) (d.map G3++(y.AE.drop d.length).map Ms) (y.AT.map Gd) (y.AM.map GX) (y.AK.map Gb)) (λd=>d.length<=y.AE.length/\D6 y.AE (Uc y.Aa (y.Am.map A0.name))=Db (λ_=>Uc y.Aa (y.Am.map A0.name)) d (y.AE.drop d.length)) (λd=>y.AE.length-d.length) [] ⟨by simp,rfl⟩ (by simp) (by simp) ?_
   rintro m ⟨hd,N⟩ R rn re rr rp;have ai:=Y.AE;by_cases G:m.length<y.AE.length
   ·have wr:IntKind.i64.wrap ((m.length:Int)+1)=(m.length:Int)+1:=w_i _ (by omega);have wl:=uO G3 Ms hd;have wk:=uN G3 Ms G;have ws:=uP G3 Ms G;rw[D5 G,Z4]at N;have hm:=Ci G;have au:EO y.AE m.length=y.AE[m.length].AL.map Aj.name:=by simp[EO,G]
    generalize hu:y.AE[m.length]=u at N wk hm au;have U:=mS m (y.AE.drop m.length);generalize al:m.map G3++(y.AE.drop m.length).map Ms=gs at wl wk ws U;have av:y.AE.length≠0:=by omega
    have c4:=λw m s t v=>(T w m s t v).o4;have a7:=λw m s t v=>(T w m s t v).Ri av;simp[s9,G,c1,cS,c4,a7,X,wl,Hf,av,Vc,Ua,wk];refine⟨rfl,X5c hP (Y.AL _ hm) (Y.Ac _ hm) (Y.names _ hm) (T _ _ _ _ _) (cS _ _ _ _ _) wl (by rw[DN (by omega),wk];rfl) U ⟨by omega,by omega⟩ (by rw[<-au];exact(T _ _ _ _ _).om _ G) (λq hq=>?_) (λe W e1 e2=>?_)⟩
    ·rw[sS];rw[hq,Option.bind_some]at N;have e1:gs.set m.length (.d (KL q))=(m++[q]).map G3++(y.AE.drop (m++[q]).length).map Ms:=ws q;rw[e1];refine rn [] (m++[q]) _ _ ⟨by simp;omega,by rw[N,C7];rfl⟩ (by simp;omega) (by simp[wr]) ?_ ?_ ?_
     ·rw[Q];exact hD _ _ _ _ _
     ·rw[Q];simp[AD]
     ·rw[Q];exact hN _ _ _ _ _ mU (mS _ _) (mR _) (mC _) (mP _)
    ·refine rp _ _ _ ?_;exact ac (by rw[rR,N,e];rfl) _ (by rw[e1,c1]) (by rw[e2,c2])
   ·have O:m.length=y.AE.length:=by omega
    rw[O,List.drop_length,Db]at N;simp[s9,G];refine re _ _ _ ?_;have e0:(y.AE.map Ms).drop m.length=[]:=HO (by simp[O]);rw[e0,GJ];rw[N,Option.bind_some]at rR;have an:∀p,BY p (m.map G3)=false:=me KL _;have bh:(m.map G3).length=y.AE.length:=by simpa using O
    simp[c1,c2,cR,X];refine⟨⟨_,_,_,⟨rfl,rfl,rfl⟩,by simp⟩,?_⟩;show Au _ _ _ _ (B (w.map Eo) (m.map G3) (y.AT.map Gd) (y.AM.map GX) (y.AK.map Gb));refine Au.go (λd=>[(2,.ptr 1 []),(3,.ptr 2 []),(4,.ptr 4 []),(63,.d (.int .i64 y.AT.length)),(64,.d (.int .i64 d.length))])
     (λd=>B (w.map Eo) (m.map G3) ((d++y.AT.drop d.length).map Gd) (y.AM.map GX) (y.AK.map Gb)) (λd=>d.length<=y.AT.length/\D6 y.AT (G2 y.AE)=Db (λ_=>G2 y.AE) d (y.AT.drop d.length)) (λd=>y.AT.length-d.length) [] ⟨by simp,rfl⟩ (by simp) (by simp) ?_
    rintro s ⟨hd,N⟩ R rn re rr rp;have wl:((s++y.AT.drop s.length).map Gd).length=y.AT.length:=by simp;omega
    have ai:=Y.AT;by_cases G:s.length<y.AT.length
    ·have wr:IntKind.i64.wrap ((s.length:Int)+1)=(s.length:Int)+1:=w_i _ (by omega);have wk:=K4 Gd G;have ws:=Kz Gd G;rw[D5 G,Z4]at N;have hm:=Ci G;generalize hu:y.AT[s.length]=u at N wk hm;have U:∀p,BY p ((s++y.AT.drop s.length).map Gd)=false:=mR _;generalize al:(s++y.AT.drop s.length).map Gd=gs at wl wk ws U;have c4:=λw m s t v=>(T w m s t v).o4;simp[s8,G,c1,cR,c4,X,wl,wk];refine⟨rfl,Yor hP (Y.Ah _ hm) (Y.Ap _ hm) (Y.BJ _ hm) (bb _ hm) (T _ _ _ _ _) (cR _ _ _ _ _) wl (by rw[DN (by omega),wk];rfl) U ⟨by omega,by omega⟩ (λq hq=>?_) (λe W e1 e2=>?_)⟩
     ·rw[sR];rw[hq,Option.bind_some]at N;have e1:gs.set s.length (.d q.enc)=((s++[q])++y.AT.drop (s++[q]).length).map Gd:=ws q;rw[e1];refine rn [] (s++[q]) _ _ ⟨by simp;omega,by rw[N,C7];rfl⟩ (by simp;omega) (by simp[wr]) ?_ ?_ ?_
      ·rw[Q];exact hD _ _ _ _ _
      ·rw[Q];simp[AD]
      ·rw[Q];exact hN _ _ _ _ _ mU an (mR _) (mC _) (mP _)
     ·refine rp _ _ _ ?_;exact ac (by rw[rR,N,e];rfl) _ (by rw[e1,c1]) (by rw[e2,c2])
    ·have O:s.length=y.AT.length:=by omega
     rw[O,List.drop_length,Db]at N;simp[s8,G];refine re _ _ _ ?_;have e0:(y.AT.map Gd).drop s.length=[]:=HO (by simp[O]);rw[e0,GJ];rw[N,Option.bind_some]at rR;have a4:(s.map Gd).length=y.AT.length:=by simpa using O
     simp[c1,c2,cC,X];refine⟨⟨_,_,_,⟨rfl,rfl,rfl⟩,by simp⟩,?_⟩;show Au _ _ _ _ (B (w.map Eo) (m.map G3) (s.map Gd) (y.AM.map GX) (y.AK.map Gb));refine Au.go (λd=>[(2,.ptr 1 []),(3,.ptr 2 []),(4,.ptr 4 []),(76,.d (.int .i64 y.AM.length)),(77,.d (.int .i64 d.length))])
      (λd=>B (w.map Eo) (m.map G3) (s.map Gd) ((d++y.AM.drop d.length).map GX) (y.AK.map Gb)) (λd=>d.length<=y.AM.length/\D6 y.AM (Zo y.AE)=Db (λ_=>Zo y.AE) d (y.AM.drop d.length)) (λd=>y.AM.length-d.length) [] ⟨by simp,rfl⟩ (by simp) (by simp) ?_
     rintro t ⟨hd,N⟩ R rn re rr rp;have wl:((t++y.AM.drop t.length).map GX).length=y.AM.length:=by simp;omega
     have ai:=Y.AM;by_cases G:t.length<y.AM.length
     ·have wr:IntKind.i64.wrap ((t.length:Int)+1)=(t.length:Int)+1:=w_i _ (by omega);have wk:=K4 GX G;have ws:=Kz GX G;rw[D5 G,Z4]at N;have hm:=Ci G;generalize hu:y.AM[t.length]=u at N wk hm;have U:∀p,BY p ((t++y.AM.drop t.length).map GX)=false:=mC _;generalize al:(t++y.AM.drop t.length).map GX=gs at wl wk ws U;have c4:=λw m s t v=>(T w m s t v).o4;simp[s7,G,c1,cC,c4,X,wl,wk];refine⟨rfl,X00 hP (Y.At _ hm) (T _ _ _ _ _) (cC _ _ _ _ _) wl (by rw[DN (by omega),wk];rfl) U ⟨by omega,by omega⟩ (λq hq=>?_) (λe W e1 e2=>?_)⟩
      ·rw[sC];rw[hq,Option.bind_some]at N;have e1:gs.set t.length (.d q.enc)=((t++[q])++y.AM.drop (t++[q]).length).map GX:=ws q;rw[e1];refine rn [] (t++[q]) _ _ ⟨by simp;omega,by rw[N,C7];rfl⟩ (by simp;omega) (by simp[wr]) ?_ ?_ ?_
       ·rw[Q];exact hD _ _ _ _ _
       ·rw[Q];simp[AD]
       ·rw[Q];exact hN _ _ _ _ _ mU an (mR _) (mC _) (mP _)
      ·refine rp _ _ _ ?_;exact ac (by rw[rR,N,e];rfl) _ (by rw[e1,c1]) (by rw[e2,c2])
     ·have O:t.length=y.AM.length:=by omega
      rw[O,List.drop_length,Db]at N;simp[s7,G];refine re _ _ _ ?_;have e0:(y.AM.map GX).drop t.length=[]:=HO (by simp[O]);rw[e0,GJ];rw[N,Option.bind_some]at rR;have aq:(t.map GX).length=y.AM.length:=by simpa using O
      simp[c1,c2,cP,X];refine⟨⟨_,_,_,⟨rfl,rfl,rfl⟩,by simp⟩,?_⟩;show Au _ _ _ _ (B (w.map Eo) (m.map G3) (s.map Gd) (t.map GX) (y.AK.map Gb));refine Au.go (λd=>[(2,.ptr 1 []),(3,.ptr 2 []),(4,.ptr 4 []),(89,.d (.int .i64 y.AK.length)),(90,.d (.int .i64 d.length))])
       (λd=>B (w.map Eo) (m.map G3) (s.map Gd) (t.map GX) ((d++y.AK.drop d.length).map Gb)) (λd=>d.length<=y.AK.length/\D6 y.AK (W5 y.AE)=Db (λ_=>W5 y.AE) d (y.AK.drop d.length)) (λd=>y.AK.length-d.length) [] ⟨by simp,rfl⟩ (by simp) (by simp) ?_
      rintro v ⟨hd,N⟩ R rn re rr rp;have wl:((v++y.AK.drop v.length).map Gb).length=y.AK.length:=by simp;omega
      have ai:=Y.AK;by_cases G:v.length<y.AK.length
      ·have wr:IntKind.i64.wrap ((v.length:Int)+1)=(v.length:Int)+1:=w_i _ (by omega);have wk:=K4 Gb G;have ws:=Kz Gb G;rw[D5 G,Z4]at N;have hm:=Ci G;generalize hu:y.AK[v.length]=u at N wk hm;have U:∀p,BY p ((v++y.AK.drop v.length).map Gb)=false:=mP _;generalize al:(v++y.AK.drop v.length).map Gb=gs at wl wk ws U;have c4:=λw m s t v=>(T w m s t v).o4;simp[sw,G,c1,cP,c4,X,wl,wk];refine⟨rfl,X01 hP (Y.CN _ hm) (T _ _ _ _ _) (cP _ _ _ _ _) wl (by rw[DN (by omega),wk];rfl) U ⟨by omega,by omega⟩ (λq hq=>?_) (λe W e1 e2=>?_)⟩
       ·rw[sP];rw[hq,Option.bind_some]at N;have e1:gs.set v.length (.d q.enc)=((v++[q])++y.AK.drop (v++[q]).length).map Gb:=ws q;rw[e1];refine rn [] (v++[q]) _ _ ⟨by simp;omega,by rw[N,C7];rfl⟩ (by simp;omega) (by simp[wr]) ?_ ?_ ?_
        ·rw[Q];exact hD _ _ _ _ _
        ·rw[Q];simp[AD]
        ·rw[Q];exact hN _ _ _ _ _ mU an (mR _) (mC _) (mP _)
       ·refine rp _ _ _ ?_;exact ac (by rw[rR,N,e];rfl) _ (by rw[e1,c1]) (by rw[e2,c2])
      ·have O:v.length=y.AK.length:=by omega
       rw[O,List.drop_length,Db]at N;simp[sw,G];refine re _ _ _ ?_;have e0:(y.AK.map Gb).drop v.length=[]:=HO (by simp[O]);rw[e0,GJ];rw[N,Option.map_some]at rR;have a3:(v.map Gb).length=y.AK.length:=by simpa using O
       simp[c1,c2,X];have hz:=h;rw[bd _ rR]at hz;have a6:w.length=y.Am.length:=by
        have:=Sk a2;simpa using this
       have bi:m.length=y.AE.length:=by simpa using bh
       have bg:s.length=y.AT.length:=by simpa using a4
       have a8:t.length=y.AM.length:=by simpa using aq
       have bf:v.length=y.AK.length:=by simpa using a3
       obtain⟨H,Z⟩:∃H,H=B (w.map Eo) (m.map G3) (s.map Gd) (t.map GX) (v.map Gb):=⟨_,rfl⟩
       rw[<-Z];have l0:AB H F=some (.Ay 9 1 (y.Aa.map λx=>V.d (.AU x))):=by rw[Z,cI]
       have l1:AB H (F+1)=some (.Ay 94 5 (w.map λx=>V.d x.enc)):=by rw[Z,cU];rfl
       have l2:AB H (F+2)=some (.Ay 72 6 (m.map λx=>V.d (KL x))):=by rw[Z,cS];rfl
       have l3:AB H (F+3)=some (.Ay 77 5 (s.map λx=>V.d x.enc)):=by rw[Z,cR];rfl
       have l4:AB H (F+4)=some (.Ay 80 5 (t.map λx=>V.d x.enc)):=by rw[Z,cC];rfl
       have l5:AB H (F+5)=some (.Ay 83 3 (v.map λx=>V.d x.enc)):=by rw[Z,cP];rfl
       have w1:AB H 1=some (.box 30 X):=by rw[Z,c1]
       have w2:AB H 2=some (.box 31 (.d (.int .i64 0))):=by rw[Z,c2]
       obtain⟨J,aw⟩:∃J,J=AG H F .An:=⟨_,rfl⟩
       have s1:∀j,j≠F->AB J j=AB H j:=λj hj=>by rw[aw,Xb H F j ⟨_,l0⟩,Aq hj]
       obtain⟨L,ax⟩:∃L,L=AG J (F+1) .An:=⟨_,rfl⟩
       have m1:AB J (F+1)=_:=(s1 _ (by omega)).trans l1;have s2:∀j,j≠F->j≠F+1->AB L j=AB H j:=λj h0 h1=>by rw[ax,Xb J (F+1) j ⟨_,m1⟩,Aq h1,s1 j h0]
       obtain⟨o3,ay⟩:∃o3,o3=AG L (F+2) .An:=⟨_,rfl⟩
       have m2:AB L (F+2)=_:=(s2 _ (by omega) (by omega)).trans l2;have s3:∀j,j≠F->j≠F+1->j≠F+2->AB o3 j=AB H j:=λj h0 h1 h2=>by rw[ay,Xb L (F+2) j ⟨_,m2⟩,Aq h2,s2 j h0 h1]
       obtain⟨o4,az⟩:∃o4,o4=AG o3 (F+3) .An:=⟨_,rfl⟩
       have m3:AB o3 (F+3)=_:=(s3 _ (by omega) (by omega) (by omega)).trans l3;have s4:∀j,j≠F->j≠F+1->j≠F+2->j≠F+3->AB o4 j=AB H j:=λj h0 h1 h2 h3=>by rw[az,Xb o3 (F+3) j ⟨_,m3⟩,Aq h3,s3 j h0 h1 h2]
       obtain⟨o5,a0⟩:∃o5,o5=AG o4 (F+4) .An:=⟨_,rfl⟩
       have m4:AB o4 (F+4)=_:=(s4 _ (by omega) (by omega) (by omega) (by omega)).trans l4;have s5:∀j,j≠F->j≠F+1->j≠F+2->j≠F+3->j≠F+4->AB o5 j=AB H j:=λj h0 h1 h2 h3 h4=>by rw[a0,Xb o4 (F+4) j ⟨_,m4⟩,Aq h4,s4 j h0 h1 h2 h3]
       obtain⟨o6,a1⟩:∃o6,o6=AG o5 (F+5) .An:=⟨_,rfl⟩
       have m5:AB o5 (F+5)=_:=(s5 _ (by omega) (by omega) (by omega) (by omega) (by omega)).trans l5;have s6:∀j,j<F->AB o6 j=AB H j:=λj hj=>by rw[a1,Xb o5 (F+5) j ⟨_,m5⟩,Aq (by omega),s5 j (by omega) (by omega) (by omega) (by omega) (by omega)]
       obtain⟨dd,ab⟩:∃dd,dd=D.agg [.AH 1 (y.Aa.map D.AU),.AH 5 (w.map A0.enc),.AH 6 (m.map KL),.AH 5 (s.map Ao.enc),.AH 5 (t.map Ar.enc),.AH 3 (v.map Ae.enc)]:=⟨_,rfl⟩
       have g:DC 40000 H X=some (dd,o6):=by
        show FX (E8 (DC 39999) H _)=_;simp only[E8,Ig (k:=39997) (n:=y.Aa.length) D.AU l0 (by decide) rfl,<-aw,Ig (k:=39997) (n:=y.Am.length) A0.enc m1 (by decide) a6.symm,<-ax,Ig (k:=39997) (n:=y.AE.length) KL m2 (by decide) bi.symm,<-ay,Ig (k:=39997) (n:=y.AT.length) Ao.enc m3 (by decide) bg.symm,<-az,Ig (k:=39997) (n:=y.AM.length) Ar.enc m4 (by decide) a8.symm,<-a0,Ig (k:=39997) (n:=y.AK.length) Ae.enc m5 (by decide) bf.symm,<-a1,Qg,FX,ab]
       have a9:DL H 1 []=some X:=by simp[DL,w1]
       have ao:AB o6 1=some (.box 30 X):=by rw[s6 1 (by omega),w1]
       have bj:AB o6 2=some (.box 31 (.d (.int .i64 0))):=by rw[s6 2 (by omega),w2]
       have sh:dd.shape=X.shape:=by rw[ab];rfl
       simp only[I.wp];show Om 6 true H _ (.ptr 1 []);simp only[Om,a9,SJ,g,SI,ao,XU];refine⟨rfl,rfl,sh,.d dd,by simp,?_⟩;obtain⟨o7,aj⟩:∃o7,o7=AG o6 1 (.box 30 (.d dd)):=⟨_,rfl⟩
       rw[<-aj];have x1:AB o7 1=some (.box 30 (.d dd)):=by rw[aj,Xb o6 1 1 ⟨_,ao⟩,BS rfl]
       have x2:AB o7 2=some (.box 31 (.d (.int .i64 0))):=by rw[aj,Xb o6 1 2 ⟨_,ao⟩,Aq (by omega),bj]
       have a5:dd.shape=.node [.AR,.AR,.AR,.AR,.AR,.AR]:=by rw[ab];rfl
       have bk:(V.d dd).isAgg=true:=by rw[ab];rfl
       simp[x1,x2,a5];obtain⟨o8,ak⟩:∃o8,o8=AG (AG o7 1 (.box 30 (.d dd))) 2 (.box 31 (.d (.int .i64 0))):=⟨_,rfl⟩
       have y1:AB o8 1=some (.box 30 (.d dd)):=by rw[ak];simp[x1,x2]
       have y2:AB o8 2=some (.box 31 (.d (.int .i64 0))):=by rw[ak];simp[x1,x2]
       rw[<-ak];refine Y7k hP ?_;simp[y1,y2,a5];refine⟨by rw[ab],hz _ ?_⟩;rw[ab];show D.le _ (.agg [Xg y.Aa,.AH 5 (w.map A0.enc),.AH 6 (m.map AO.enc),.AH 5 (s.map Ao.enc),.AH 5 (t.map Ar.enc),.AH 3 (v.map Ae.enc)]);exact D.le.agg (Bk.cons (D.le.refl _) (Bk.cons (D.le.refl _) (Bk.cons (D.le.AH (Bk.map λx _=>Zfg x)) (Bk.cons (D.le.refl _) (Bk.cons (D.le.refl _) (Bk.cons (D.le.refl _) Bk.nil))))))
  ·rw[sU];exact ac (by rw[Us,e];rfl) _ (c1 _ _ _ _ _) (c2 _ _ _ _ _)
omit hP
def DE.CD:DE->BE
|.Fj n=>⟨[],[],-1,0,n⟩
|.path a b=>⟨a,b,0,0,0⟩
def Dp.CD(f:Dp):Av:=⟨f.name,f.kind,0,match f.CB with|none=>⟨[],[],0,0,0⟩|some x=>⟨x.1,x.2,0,0,0⟩⟩
def DV.CD(a:DV):BP:=⟨a.op,a.a.CD,a.b.CD⟩
def DX.CD(s:DX):Bo:=⟨s.path,0,s.Cd.CD⟩
def EB.CD(m:EB):BI:=⟨m.B8,m.Aw,0,0,m.shift⟩
def HL.CD(r:HL):Ch:=⟨r.name,r.path,0,0⟩
def C1.CD:C1->A5
|.Fj c b a=>⟨1,c,b,a.getD [],0,[]⟩
|.Mh=>⟨2,0,1023,[],0,[]⟩
|.Dc=>⟨3,0,4095,[],0,[]⟩
|.Eh l=>⟨4,0,l.length-1,[],0,l⟩
def Field.CD(f:Field):Aj:=⟨f.name,f.type.CD,f.AP.getD 0 0,f.AP.getD 1 0,f.AP.getD 2 0,f.AP.getD 3 0⟩
def CE.CD(d:CE):A2:=⟨d.names,d.name,[],0⟩
def C2.CD(u:C2):A0:=match u.CB with
|none=>⟨u.name,[],0,0,0⟩
|some x=>⟨u.name,x.2,x.1,0,0⟩
def Bt.CD(s:Bt):AO:=⟨s.name,s.Eg,0,s.BU,s.AL.map Field.CD,s.Ac.map CE.CD⟩
def DH.CD(r:DH):Ao:=⟨r.head,0,r.Ah.map Dp.CD,r.Ap.map DV.CD,r.BJ.map DX.CD⟩
def B0.CD(c:B0):Ar:=⟨c.Aw,c.B8,0,0,c.At.map EB.CD⟩
def B1.CD(p:B1):Ae:=⟨p.name,p.CN.map HL.CD,p.C3⟩
def Bl.CD(s:Bl):Ai:=⟨s.Aa,s.Am.map C2.CD,s.AE.map Bt.CD,s.AT.map DH.CD,s.AM.map B0.CD,s.AK.map B1.CD⟩
def DE.D7(t:DE):t.enc=t.CD.enc:=by cases t<;>rfl
def Dp.D7(f:Dp):f.enc=f.CD.enc:=by
 obtain⟨a,b,c⟩:=f;cases c<;>rfl
def DV.D7(a:DV):a.enc=a.CD.enc:=by simp[DV.enc,DV.CD,BP.enc,DE.D7]
def DX.D7(s:DX):s.enc=s.CD.enc:=by simp[DX.enc,DX.CD,Bo.enc,DE.D7]
def C2.D7(u:C2):u.enc=u.CD.enc:=by
 obtain⟨a,b⟩:=u;cases b<;>rfl
def Q7{a b:Type}{f:a->D}{g:b->D}{r:a->b}{z:Nat}{l:List a}(h:∀x∈l,D.le (f x) (g (r x))):D.le (.AH z (l.map f)) (.AH z ((l.map r).map g)):=by
 rw[List.map_map];exact D.le.AH (Bk.map h)
def XV{x y:D}(h:x=y):D.le x y:=h▸D.le.refl x
def C1.Cj(t:C1):D.le t.enc t.CD.enc:=by
 have a:∀{a b c d e:D},D.le (.agg [a,b,c,d,e,.Ad]) (.agg [a,b,c,d,e,.AH 1 []]):=λ{a b c d e}=>
  .agg (.cons (.refl _) (.cons (.refl _) (.cons (.refl _) (.cons (.refl _) (.cons (.refl _) (.cons (.nil 1) .nil))))))
 cases t with
 |Eh l=>exact .refl _
 |_=>exact a
def Field.Cj(f:Field)(h:f.wf):D.le f.enc f.CD.enc:=by
 obtain⟨n,t,w⟩:=f
 match w,h.pQ with
 |[a,b,c,d],_=>exact .agg (.cons (.refl _) (.cons t.Cj (.cons (.refl _) .nil)))
def CE.Cj(d:CE):D.le d.enc d.CD.enc:=.agg (.cons (.refl _) (.cons (.refl _) (.cons (.nil 1) (.cons (.refl _) .nil))))
def Bt.Cj(s:Bt)(h:s.wf):D.le s.enc s.CD.enc:=
 .agg (.cons (.refl _) (.cons (.refl _) (.cons (.refl _) (.cons (.refl _) (.cons (Q7 λx a=>x.Cj (h.AL x a)) (.cons (Q7 λx _=>x.Cj) .nil))))))
def DH.Cj(r:DH):D.le r.enc r.CD.enc:=
 .agg (.cons (.refl _) (.cons (.refl _) (.cons (Q7 λx _=>XV x.D7) (.cons (Q7 λx _=>XV x.D7) (.cons (Q7 λx _=>XV x.D7) .nil)))))
def B0.Cj(c:B0):D.le c.enc c.CD.enc:=
 .agg (.cons (.refl _) (.cons (.refl _) (.cons (.refl _) (.cons (.refl _) (.cons (Q7 λ_ _=>.refl _) .nil)))))
def B1.Cj(p:B1):D.le p.enc p.CD.enc:=.agg (.cons (.refl _) (.cons (Q7 λ_ _=>.refl _) (.cons (.refl _) .nil)))
def Bl.Cj(s:Bl)(h:s.wf):D.le s.enc s.CD.enc:=
 .agg (.cons (.refl _) (.cons (Q7 λx _=>XV x.D7) (.cons (Q7 λx a=>x.Cj (h.AE x a)) (.cons (Q7 λx _=>x.Cj) (.cons (Q7 λx _=>x.Cj) (.cons (Q7 λx _=>x.Cj) .nil))))))
def Rdi{t:C1}(h:t.wf):t.CD.names.length<=16:=by
 cases t with
 |Eh l=>exact h.2.1
 |_=>exact E2 _
def HS{a b:Type}{r:a->b}{l:List a}{p:b->Prop}(h:∀x∈l,p (r x)):∀y∈l.map r,p y:=λy d=>by
 obtain⟨x,c,rfl⟩:=DY.1 d;exact h x c
def Bl.Mu{s:Bl}(h:s.wf):s.CD.BF where
 Aa:=by have:=h.DO.Aa;simp[Bl.CD];omega
 Am:=by have:=h.DO.Am;simp[Bl.CD];omega
 AE:=by have:=h.DO.AE;simp[Bl.CD];omega
 AT:=by have:=h.DO.AT;simp[Bl.CD];omega
 AM:=by have:=h.DO.AM;simp[Bl.CD];omega
 AK:=by have:=h.DO.AK;simp[Bl.CD];omega
 Ag:=HS λx hx=>⟨by have:=(h.AE x hx).DO;simp[Bt.CD];omega,by have:=(h.AE x hx).Ki;simp[Bt.CD];omega,
  HS λf hf=>by have:=Rdi ((h.AE x hx).AL f hf).type;simp only[Field.CD];omega,
  HS λd hd=>⟨by have:=((h.AE x hx).Ac d hd).names.2.1;simp only[CE.CD];omega,by simp[CE.CD]⟩⟩
 Hj:=HS λx hx=>⟨by have:=(h.AT x hx).DO;simp[DH.CD];omega,by have:=(h.AT x hx).Ki;simp[DH.CD];omega,by have:=(h.AT x hx).Ny;simp[DH.CD];omega⟩
 At:=HS λx hx=>by have:=(h.AM x hx).DO;simp[B0.CD];omega
 CN:=HS λx hx=>by have:=(h.AK x hx).DO;simp[B1.CD];omega
def Bl.Ti{s:Bl}(h:s.wf):s.CD.DO where
 Aa:=by have:=h.DO.Aa;simp[Bl.CD];omega
 Am:=by have:=h.DO.Am;simp[Bl.CD];omega
 AE:=by have:=h.DO.AE;simp[Bl.CD];omega
 AT:=by have:=h.DO.AT;simp[Bl.CD];omega
 AM:=by have:=h.DO.AM;simp[Bl.CD];omega
 AK:=by have:=h.DO.AK;simp[Bl.CD];omega
 AL:=HS λx hx=>by have:=(h.AE x hx).DO;simp[Bt.CD];omega
 Ac:=HS λx hx=>by have:=(h.AE x hx).Ki;simp[Bt.CD];omega
 names:=HS λx hx=>HS λd hd=>by have:=((h.AE x hx).Ac d hd).names.2.1;simp only[CE.CD];omega
 Ah:=HS λx hx=>by have:=(h.AT x hx).DO;simp[DH.CD];omega
 Ap:=HS λx hx=>by have:=(h.AT x hx).Ki;simp[DH.CD];omega
 BJ:=HS λx hx=>by have:=(h.AT x hx).Ny;simp[DH.CD];omega
 At:=HS λx hx=>by have:=(h.AM x hx).DO;simp[B0.CD];omega
 CN:=HS λx hx=>by have:=(h.AK x hx).DO;simp[B1.CD];omega
def uH{c:Type}{f:List c->c->Option c}:∀{l a r:List c},Db f a l=some r->∀z∈r,z∈a\/∃q,∃x∈l,f q x=some z
|[],a,r,h,z,d=>by cases h;exact .inl d
|x::l,a,r,h,z,d=>by
 rw[Db,KA]at h;obtain⟨w,e,h⟩:=h;rcases uH h z d with b|⟨q,u,i,g⟩
 ·rcases DT.1 b with b|b
  ·exact .inl b
  ·rw[E3]at b;subst b;exact .inr ⟨a,x,by simp,e⟩
 ·exact .inr ⟨q,u,by simp[i],g⟩
def W3{a:Type}{f:a->Option a}{l r:List a}(h:D6 l f=some r):r.length=l.length/\∀z∈r,∃x∈l,f x=some z:=by
 refine⟨by simpa using Sk h,λz d=>?_⟩;rcases uH h z d with b|⟨_,x,c,e⟩
 ·cases b
 ·exact⟨x,c,e⟩
def xU{b:List B}:∀{l:List B}{a r:List Nat},NI b a l=some r->r.length=a.length+l.length
|[],a,r,h=>by cases h;simp
|x::l,a,r,h=>by
 rw[NI,KA]at h;obtain⟨n,_,h⟩:=h;have:=xU h;simp at this⊢;omega
def Xo2{a:List B}{f g:Aj}(h:Q5 a f=some g):g.type.names=f.type.names:=by
 unfold Q5 at h;split at h
 ·obtain⟨_,_,rfl⟩:=HP.1 h;rfl
 ·cases h;rfl
def Yf6{a:List B}{d e:A2}(h:KF a d=some e):e.names=d.names/\e.Aw.length=d.names.length:=by
 unfold KF at h;simp only[KA,HP]at h;obtain⟨l,b,n,_,rfl⟩:=h;have:=xU b;exact⟨rfl,by simpa using this⟩
def Ye:Yv.BF/\Yv.DO:=⟨⟨by simp[Yv],by simp[Yv],by simp[Yv],by simp[Yv],by simp[Yv],by simp[Yv],by simp[Yv],by simp[Yv],by simp[Yv],by simp[Yv]⟩,⟨by simp[Yv],by simp[Yv],by simp[Yv],by simp[Yv],by simp[Yv],by simp[Yv],by simp[Yv],by simp[Yv],by simp[Yv],by simp[Yv],by simp[Yv],by simp[Yv],by simp[Yv],by simp[Yv]⟩⟩
def dD{y:Ai}(m:y.BF)(k:y.DO):(Vp y).1.BF/\(Vp y).1.DO/\(Vp y).1.AE.length<=y.AE.length:=by
 unfold Vp;split
 ·exact⟨Ye.1,Ye.2,by simp[Yv]⟩
 ·split
  ·rename_i z u;unfold Us at u;simp only[KA,HP]at u;obtain⟨us,U,ss,W,rs,X,Q,Y,ps,Z,rfl⟩:=u;have K:us.length=y.Am.length:=by simpa using Sk U
   obtain⟨H,m2⟩:=W3 W;obtain⟨L,m3⟩:=W3 X;obtain⟨N,m4⟩:=W3 Y;obtain⟨O,m5⟩:=W3 Z;have w:∀x∈ss,∃s∈y.AE,x.AL.length=s.AL.length/\x.Ac.length=s.Ac.length/\(∀f∈x.AL,∃g∈s.AL,f.type.names=g.type.names)/\∀d∈x.Ac,∃e∈s.Ac,d.names=e.names/\d.Aw.length=e.names.length:=λx j=>by
    obtain⟨s,c,e⟩:=m2 x j;unfold Uc at e;simp only[KA,HP]at e;obtain⟨i,_,fs,G,ds,t,rfl⟩:=e;obtain⟨lf,mf⟩:=W3 G;obtain⟨ld,md⟩:=W3 t;exact⟨s,c,lf,ld,λf h=>by obtain⟨g,n,e⟩:=mf f h;exact⟨g,n,Xo2 e⟩,λd h=>by obtain⟨g,n,e⟩:=md d h;exact⟨g,n,Yf6 e⟩⟩
   have v:∀x∈rs,∃s∈y.AT,x.Ah.length=s.Ah.length/\x.Ap.length=s.Ap.length/\x.BJ.length=s.BJ.length:=λx j=>by
    obtain⟨s,c,e⟩:=m3 x j;unfold G2 at e;simp only[KA,HP]at e;obtain⟨i,_,vs,hv,ws,k,zs,u,rfl⟩:=e;exact⟨s,c,by simpa using Sk hv,(W3 k).1,(W3 u).1⟩
   have J:∀x∈Q,∃s∈y.AM,x.At.length=s.At.length:=λx j=>by
    obtain⟨s,c,e⟩:=m4 x j;unfold Zo at e;simp only[KA,HP]at e;obtain⟨a,_,b,_,ms,hm,rfl⟩:=e;exact⟨s,c,(W3 hm).1⟩
   have P:∀x∈ps,∃s∈y.AK,x.CN.length=s.CN.length:=λx j=>by
    obtain⟨s,c,e⟩:=m5 x j;unfold W5 at e;simp only[HP]at e;obtain⟨l,hl,rfl⟩:=e;exact⟨s,c,(W3 hl).1⟩
   refine⟨⟨m.Aa,by rw[K];exact m.Am,by rw[H];exact m.AE,by rw[L];exact m.AT,by rw[N];exact m.AM,by rw[O];exact m.AK,λx j=>?_,λx j=>?_,λx j=>?_,λx j=>?_⟩,
    ⟨k.Aa,by rw[K];exact k.Am,by rw[H];exact k.AE,by rw[L];exact k.AT,by rw[N];exact k.AM,by rw[O];exact k.AK,λx j=>?_,λx j=>?_,λx j d t=>?_,λx j=>?_,λx j=>?_,λx j=>?_,λx j=>?_,λx j=>?_⟩,by simp only[H];omega⟩
   ·obtain⟨s,c,o,p,r,F⟩:=w x j;have q:=m.Ag s c;refine⟨by rw[o];exact q.AL,by rw[p];exact q.Ac,λf G=>?_,λd t=>?_⟩
    ·obtain⟨g,n,e⟩:=r f G;rw[e];exact q.names g n
    ·obtain⟨g,n,e,T⟩:=F d t;have:=(q.Mi g n).names;exact⟨by rw[e];exact this,by rw[T];exact this⟩
   ·obtain⟨s,c,o,p,r⟩:=v x j;have q:=m.Hj s c;exact⟨by rw[o];exact q.Ah,by rw[p];exact q.Ap,by rw[r];exact q.BJ⟩
   ·obtain⟨s,c,e⟩:=J x j;rw[e];exact m.At s c
   ·obtain⟨s,c,e⟩:=P x j;rw[e];exact m.CN s c
   ·obtain⟨s,c,o,_⟩:=w x j;rw[o];exact k.AL s c
   ·obtain⟨s,c,_,p,_⟩:=w x j;rw[p];exact k.Ac s c
   ·obtain⟨s,c,_,_,_,F⟩:=w x j;obtain⟨g,n,e,_⟩:=F d t;rw[e];exact k.names s c g n
   ·obtain⟨s,c,o,_⟩:=v x j;rw[o];exact k.Ah s c
   ·obtain⟨s,c,_,p,_⟩:=v x j;rw[p];exact k.Ap s c
   ·obtain⟨s,c,_,_,r⟩:=v x j;rw[r];exact k.BJ s c
   ·obtain⟨s,c,e⟩:=J x j;rw[e];exact k.At s c
   ·obtain⟨s,c,e⟩:=P x j;rw[e];exact k.CN s c
  ·exact⟨Ye.1,Ye.2,by simp[Yv]⟩
def Qm{p:UInt8->Bool}:∀{r:List UInt8}{x:UInt8},x∈r.takeWhile p->p x=true
|[],x,h=>by simp at h
|c::r,x,h=>by
 simp only[Pd]at h;split at h
 ·rcases EJ.1 h with rfl|h
  ·assumption
  ·exact Qm h
 ·cases h
def Ybu{s:List UInt8}:CU s=true↔∃c r,s=c::r/\Ql c=true/\(∀x∈r,W1 x=true)/\r.length+1<=32:=by
 cases s with
 |nil=>simp[CU]
 |cons c r=>
  have e:Ql c=true->W1 c=true:=by
   intro h;simp only[Ql,W1,NY]at h⊢;simp[h]
  simp only[CU,List.length_cons,List.getD_cons_zero,BB,DK,List.all_cons,Es,HN,Ql]at *;constructor
  ·rintro⟨⟨⟨_,b⟩,a⟩,g,d⟩;exact⟨c,r,⟨rfl,rfl⟩,a,d,b⟩
  ·rintro⟨f,i,⟨rfl,rfl⟩,a,d,b⟩;exact⟨⟨⟨by omega,b⟩,a⟩,e a,d⟩
def dW{c:UInt8}(h:Yq c=true):48<=c.toNat/\c.toNat<=57:=by
 simp only[Yq,NB,DK]at h;omega
def uM{c:UInt8}{m:Nat}(h:Yq c=true)(a:m % 10=c.toNat-48):RH m=c:=by
 have:=dW h;apply UInt8.toNat_inj.1;rw[Yf7];omega
def yG:∀(t:List UInt8)(m:Nat)(n:Int),(∀c∈t,Yq c=true)->0<m->m<=1099511627776->H6 m t=some n->∃N:Nat,n=N/\N<=1099511627776/\Lib.decDigits N=Lib.decDigits m++t
|[],m,n,_,_,d,h=>by
 simp only[H6,CJ]at h;exact⟨m,h.symm,d,by simp⟩
|c::r,m,n,a,j,d,h=>by
 have k:=dW (a c (by simp));rw[H6]at h;split at h
 ·cases h
 ·rename_i b;have e:(10*(m:Int)+((c.toNat:Int)-48))=((10*m+(c.toNat-48):Nat):Int):=by omega
  rw[e]at h b;obtain⟨N,g,i,n3⟩:=yG r (10*m+(c.toNat-48)) n (λx f=>a x (by simp[f])) (by omega) (by omega) h;refine⟨N,g,i,?_⟩;rw[n3,Zk (10*m+(c.toNat-48)),Aq (by omega),uM (a c (by simp)) (by omega)];have:(10*m+(c.toNat-48)) / 10=m:=by omega
  rw[this];simp
def Ybw{c:UInt8}{r:List UInt8}{n:Int}(f:Yq c=true)(i:∀x∈r,Yq x=true)(h:KJ (c::r)=some n):0<=n/\n<=1099511627776/\Lib.itoa n=c::r:=by
 have l:=dW f;unfold KJ at h;split at h
 ·cases h
 ·rename_i j a;split at h
  ·rename_i g;simp only[CJ]at h;subst h;rw[H6]at a;split at a
   ·cases a
   ·have e:(10*(0:Int)+((c.toNat:Int)-48))=((c.toNat-48:Nat):Int):=by omega
    rw[e]at a;by_cases d:c.toNat=48
    ·have b:c=48:=UInt8.toNat_inj.1 d;subst b;simp at g;subst g;simp[H6]at a;subst a;refine⟨by simp,by simp,?_⟩;have:=eT 0;rw[Zk]at this;exact this
    ·obtain⟨N,k,m,n3⟩:=yG r (c.toNat-48) j i (by omega) (by omega) a;subst k;refine⟨by omega,by omega,?_⟩;rw[eT,n3,Zk (c.toNat-48),BS (by omega),uM f (by omega)];simp
  ·cases h
def Ydg{c:UInt8}{r t:List UInt8}{k m:Int}{n:Nat}(h:FO c r=.Kq k t m n)(i:Int):Bh ⟨k,t,m,i⟩=true/\G7 ⟨k,t,m,i⟩=(c::r).take (n+1):=by
 unfold FO at h;split at h
 ·cases h
 ·split at h
  ·cases h
  ·split at h
   ·rename_i a;split at h
    ·rename_i j;cases h;refine⟨?_,?_⟩
     ·have g:CU (c::r.takeWhile W1)=true:=Ybu.2 ⟨c,_,rfl,a,λx b=>Qm b,j⟩;simp[Bh,g]
     ·simp[G7];exact Z2 W1 r
    ·cases h
   ·split at h
    ·rename_i a;split at h
     next o l=>cases h;obtain⟨d,e,f⟩:=Ybw a (λx b=>Qm b) l;refine⟨by simp[Bh,d,e],?_⟩;simp[G7,f];exact Z2 Yq r
     ·cases h
    ·split at h
     next a=>cases h;exact⟨by simp[Bh,a],by simp[G7]⟩
     ·cases h
def Xlc(t:BH)(l:List BH):(Zv (t::l)).length<=(G7 t).length+1+(Zv l).length:=by
 cases l with
 |nil=>simp[Zv]
 |cons u l=>simp only[Zv,C7,List.length_cons];omega
def xO:∀s d,∀l,EM s d=.ok l->(∀t∈l,Bh t=true)/\(Zv l).length<=2*s.length:=by
 apply Yq7
 ·intro d l h;rw[X7r]at h;cases h;simp[Zv]
 ·intro c r n d h p j l f;rw[X7s h]at f;obtain⟨a,b⟩:=j l f;refine⟨a,?_⟩;simp at b⊢;omega
 ·intro c r k t m n d h p j l f;rw[Yhd h]at f;cases g:EM (r.drop n) (d+n+1) with
  |Bi e=>rw[g]at f;cases f
  |ok o=>
   rw[g]at f;simp only[RE,Ls.ok.injEq]at f;subst f;obtain⟨a,b⟩:=j o g;obtain⟨q,v⟩:=Ydg h d;refine⟨λu i=>?_,?_⟩
   ·rcases EJ.1 i with rfl|i
    ·exact q
    ·exact a u i
   ·have:=Xlc ⟨k,t,m,d⟩ o;rw[v]at this;simp at this b⊢;omega
 ·intro c r d h l f;rw[Yhb h]at f;cases f
deriving instance DecidableEq for BE,Av,BP,Bo,Ao,BI,Ar,Ch,Ae,A0,A5,Aj,A2,AO,Ai
def uU:KT:=.st [.AU,.AU,.int .i64,.int .i64,.int .i64]
def uS:KT:=.st [.AU,.AU,.int .i64,.st [.AU,.AU,.int .i64,.int .i64,.int .i64]]
def uQ:KT:=.st [.int .i64,.st [.AU,.AU,.int .i64,.int .i64,.int .i64],.st [.AU,.AU,.int .i64,.int .i64,.int .i64]]
def Yjb:KT:=.st [.AU,.int .i64,.st [.AU,.AU,.int .i64,.int .i64,.int .i64]]
def uT:KT:=.st [.AU,.AU,.int .i64,.int .i64,.int .i64]
def Yja:KT:=.st [.AU,.AU,.int .i64,.int .i64]
mutual
def Wj:∀x:D,Cy x x=true
|.int k a=>by simp[Cy]
|.bool a=>by simp[Cy]
|.AU a=>by simp[Cy]
|.Ad=>rfl
|.AH z a=>by simp[Cy,Jn a]
|.agg a=>by simp[Cy,Jn a]
|.B6=>rfl
|.CL=>rfl
|.Br=>rfl
|.CV=>rfl
|.Bv a=>by simp[Cy,Wj a]
|.iface t a=>by simp[Cy,Wj a]
|.fn f a b=>by simp[Cy,Jn a,Jn b]
def Jn:∀l:List D,E1 l l=true
|[]=>rfl
|x::r=>by simp[E1,Wj x,Jn r]
end
def QF{a:Type}[DecidableEq a]{f:a->D}(b:∀x y,f x=f y->x=y)(x y:a):Cy (f x) (f y)=decide (x=y):=by
 by_cases e:x=y
 ·subst e;simp[Wj]
 ·rw[Lw e];cases h:Cy (f x) (f y) with
  |false=>rfl
  |true=>exact absurd (b _ _ (T3 _ _ h)) e
def WQ:∀x y:BE,x.enc=y.enc->x=y:=λx y h=>by
 cases x;cases y;simp[BE.enc]at h;simp[h]
def Yqo:∀x y:A0,x.enc=y.enc->x=y:=λx y h=>by
 cases x;cases y;simp[A0.enc]at h;simp[h]
def Yqm:∀x y:Av,x.enc=y.enc->x=y:=λx y h=>by
 cases x;cases y;simp[Av.enc]at h;simp[h,WQ _ _ h.2.2.2]
def Yql:∀x y:BP,x.enc=y.enc->x=y:=λx y h=>by
 cases x;cases y;simp[BP.enc]at h;simp[h,WQ _ _ h.2.1,WQ _ _ h.2.2]
def Yw5:∀x y:Bo,x.enc=y.enc->x=y:=λx y h=>by
 cases x;cases y;simp[Bo.enc]at h;simp[h,WQ _ _ h.2.2]
def Yqn:∀x y:BI,x.enc=y.enc->x=y:=λx y h=>by
 cases x;cases y;simp[BI.enc]at h;simp[h]
def Yw4:∀x y:Ch,x.enc=y.enc->x=y:=λx y h=>by
 cases x;cases y;simp[Ch.enc]at h;simp[h]
def Yp9:∀x y:A0,Cy x.enc y.enc=decide (x=y):=QF Yqo
def Yp7:∀x y:Av,Cy x.enc y.enc=decide (x=y):=QF Yqm
def Yp6:∀x y:BP,Cy x.enc y.enc=decide (x=y):=QF Yql
def Ywl:∀x y:Bo,Cy x.enc y.enc=decide (x=y):=QF Yw5
def Yp8:∀x y:BI,Cy x.enc y.enc=decide (x=y):=QF Yqn
def Ywk:∀x y:Ch,Cy x.enc y.enc=decide (x=y):=QF Yw4
def n41:Nat:=0x14460031407bc3700ad5d500190f083a8b0380dd1d93836960046ee0bbac81d408400405800970000a1e05e300811c0635ac0d802e24f00708600802505f01e08800a49774116760f
def Zgv:S:=zS [] n41
def Zso:Xp prog 41 1 Zgv [.t 2]=true:=by kernel_rfl
def Ykw:Nat:=0x10001f301200ab00013a850110030ecbab14617305800f85b0107e01460b1b6024f1420d300e21d06f7fb779121a1e69d00b1d9150a9c8fb746004008803
def qG:Nat:=0x1a2a1f309f1f3a3d3057f600753560f
def Zgx:S:=zS [(zS [] Ykw)] qG
def Zsq:Xp prog 43 1 Zgx [.t 2]=true:=by kernel_rfl
def n65:Nat:=0x1bfb02b28350700302a32cc2502928369700302832c7bb02728350100302632c68230f02528320700302432c66c4dc00211d00e4a500d65daf64e6b6f01e0e0a7e
def Zhh:S:=zS [] n65
def Zs5:Xp prog 65 2 Zhh [.t 4]=true:=by kernel_rfl
def Y3i:Nat:=0x14c10d20160434360433e223e4e10014e5
def n66:Nat:=0x1478
def Zhi:S:=zS [(zS [] Y3i)] n66
def Zs6:Xp prog 66 2 Zhi [.t 4]=true:=by kernel_rfl
def u4:Nat:=0x10008a5bff8a506517489d3377fe05110d4451c30480abad05d2337b861c370c00e10146e90870c762
def oR:Nat:=0x11470180b42080bb04901504d01638a0578a509f8a567204d00a1a207719e
def Yxn:S:=zS [(zS [] u4)] oR
def Y3z:Xp prog 126 3 Yxn [.t 6]=true:=by kernel_rfl
def Yr3:Nat:=0x16bb2c96b005a43605a3e24034e10054e5
def Zq9:Nat:=0x1478
def Yx2:S:=zS [(zS [] Yr3)] Zq9
def Zcy:Xp prog 155 2 Yx2 [.t 4]=true:=by kernel_rfl
def Yr4:Nat:=0x1a6724d19b06c76f009bb77821d92080a100764d35c00689aa1ea1f1d935d0a1662
def Zra:Nat:=0x16a4
def Yx3:S:=zS [(zS [] Yr4)] Zra
def Zcz:Xp prog 156 3 Yx3 [.t 6]=true:=by kernel_rfl
def Zla:Nat:=0x1bfb02746a507003026562c2502546a697003024562c15b6faea1b91d2
def Yx4:S:=zS [] Zla
def Zc0:Xp prog 157 2 Yx4 [.t 4]=true:=by kernel_rfl
def Yr5:Nat:=0x1b6311262a76f292b447821122080059851a809600807038f015a1f11235d5b2662
def Zrb:Nat:=0x16a4
def Yx5:S:=zS [(zS [] Yr5)] Zrb
def Zc1:Xp prog 158 3 Yx5 [.t 6]=true:=by kernel_rfl
def Zlb:Nat:=0x1b3e73702309e02a3f87bb5010020293f87580020283f88e90220421b71ae0380e027b1d2
def Yx6:S:=zS [] Zlb
def Zc2:Xp prog 159 2 Yx6 [.t 4]=true:=by kernel_rfl
def Yr6:Nat:=0x1b6311262a76f292b6d7821122080059851a80960080704b9018a1f11235d5b2662
def Zrc:Nat:=0x16a4
def Yx7:S:=zS [(zS [] Yr6)] Zrc
def Zc3:Xp prog 160 3 Yx7 [.t 6]=true:=by kernel_rfl
def Zlc:Nat:=0x1b3e73702309e02b3f8c150223afb0b3a41d2
def Yx8:S:=zS [] Zlc
def Zc4:Xp prog 161 2 Yx8 [.t 4]=true:=by kernel_rfl
def Yr7:Nat:=0x1a671fb0613cb76f00971b5bb3422dc0612080039851fc89a5bb27a23e061011159006662
def Zrd:Nat:=0x16a4
def Yx9:S:=zS [(zS [] Yr7)] Zrd
def Zc5:Xp prog 162 3 Yx9 [.t 6]=true:=by kernel_rfl
def Zld:Nat:=0x1b570165cb00202c3f84c42fc06117839baff5fe05d00a34a0bd34d26d0bd39f7510143afacd14a1d2
def Yya:S:=zS [] Zld
def Zc6:Xp prog 163 2 Yya [.t 4]=true:=by kernel_rfl
def Yso:Nat:=0x1b633b209300b76f1de01434c7823b220800b75d35c00b89a34c27a0143b235d799662
def Zrr:Nat:=0x16a4
def Yza:S:=zS [(zS [] Yso)] Zrr
def Zec:Xp prog 220 3 Yza [.t 6]=true:=by kernel_rfl
def Zly:Nat:=0x13c604122dc260b30060ba064022142053265b2e05f0e80026a8b2e1730e800205b2900876f915600812d0f00b63bf13805d3bf00614b3bf14805d3bf00514b3bf1260871340bf0088520b63b111b05d3b10061443b10fa05d3b10051443b102b08702a9540290270b639e02805d39e00613639e02605d39e00513639e02408702345e9b20b63cf02105d3cf0811783cf01f05d3cf0881783cf01d08701c7e65000b622101a05d22100647a22101805d22100547a6920874fa3b566d06806923300117727604d21f09a4f40481772b404d21f1554f4048b3a0bb00d21300b726ab7037a0c05e0ca43b5cd0533fba0864188a7340ca64173404d88ab494cc43b5cd0533fba0864188a1d50104cc641b4908888a7340ca64173404db494cc6411d50100887343b74ea01f08a74500901f0b90610a302004804819b0202530531cd1ef0e01ef1d2
def Yzb:S:=zS [] Zly
def Zed:Xp prog 221 2 Yzb [.t 4]=true:=by kernel_rfl
def Ysp:Nat:=0x1a671fb04d0932056683320144253422dc04d20800475d35c00489a42527a23e04d35d305662
def Zrs:Nat:=0x16a4
def Yzc:S:=zS [(zS [] Ysp)] Zrs
def Zee:Xp prog 222 3 Yzc [.t 6]=true:=by kernel_rfl
def Zlz:Nat:=0x107301e22d01d4068eb2270380dd76eaf64e601b3af2360e02361d2
def Yzd:S:=zS [] Zlz
def Zef:Xp prog 223 2 Yzd [.t 4]=true:=by kernel_rfl
def Ysq:Nat:=0x16bb7b30926b019b43619b9f90084e10084e5
def Zrt:Nat:=0x1478
def Yze:S:=zS [(zS [] Ysq)] Zrt
def Zeg:Xp prog 224 2 Yze [.t 4]=true:=by kernel_rfl
def Ysr:Nat:=0x16bb3f03f00446b01bb4361bb9f900b4e100b4e5
def Zru:Nat:=0x1478
def Yzf:S:=zS [(zS [] Ysr)] Zru
def Zeh:Xp prog 225 2 Yzf [.t 4]=true:=by kernel_rfl
def Yss:Nat:=0x16bb7b305023301625b43625b9f919d44f19d04049b
def Zrv:Nat:=0x1478
def Yzg:S:=zS [(zS [] Yss)] Zrv
def Zei:Xp prog 226 2 Yzg [.t 4]=true:=by kernel_rfl
def Yst:Nat:=0x16bb2c96b005a43605a3e24034e10054e5
def Zrw:Nat:=0x1478
def Yzh:S:=zS [(zS [] Yst)] Zrw
def Zej:Xp prog 227 2 Yzh [.t 4]=true:=by kernel_rfl
def Ysu:Nat:=0x14c11410926b024f43624f3e23cc4e10044e5
def Zrx:Nat:=0x1478
def Yzi:S:=zS [(zS [] Ysu)] Zrx
def Zek:Xp prog 228 2 Yzi [.t 4]=true:=by kernel_rfl
def Zja:S2:=zL [] [] n41
def Zna:=(by cbv:Zja=_)
def Zpj:Zgv.AZ []=some Zja:=by kernel_rfl
def je:S2:=zL [] [] Ykw
def tU:=(by cbv:je=_)
def Zjc:S2:=zL [] [je] qG
def Znc:=(show Zjc=_ from (λa=>(by cbv:zL [] [a] qG=_)) je)
def Zpl:Zgx.AZ []=some Zjc:=by kernel_rfl
def Zjw:S2:=zL [] [] n65
def Znp:=(by cbv:Zjw=_)
def Zp0:Zhh.AZ []=some Zjw:=by kernel_rfl
def ec:S2:=zL [] [] u4
def VC:=(by cbv:ec=_)
def Y04:S2:=zL [] [ec] oR
def Yu3:=(show Y04=_ from (λa=>(by cbv:zL [] [a] oR=_)) ec)
def Y0i:Yxn.AZ []=some Y04:=by kernel_rfl
def Y1k:S2:=zL [] [] Zla
def R8:=(by cbv:Y1k=_)
def Y89:Yx4.AZ []=some Y1k:=by kernel_rfl
def Y1l:S2:=zL [] [] Zlb
def nL:=(by cbv:Y1l=_)
def Y9a:Yx6.AZ []=some Y1l:=by kernel_rfl
def Y1m:S2:=zL [] [] Zlc
def R9:=(by cbv:Y1m=_)
def Y9b:Yx8.AZ []=some Y1m:=by kernel_rfl
def Y1n:S2:=zL [] [] Zld
def nM:=(by cbv:Y1n=_)
def Y9c:Yya.AZ []=some Y1n:=by kernel_rfl
def Y2m:S2:=zL [] [] Zly
def KH:=(by cbv:Y2m=_)
def Y99:Yzb.AZ []=some Y2m:=by kernel_rfl
def Y2n:S2:=zL [] [] Zlz
def Y6j:=(by cbv:Y2n=_)
def Zaa:Yzd.AZ []=some Y2n:=by kernel_rfl
end Go.Ab
