/- Joined texts, part 7 of 13. Contracts: types.all of Purpose. Condition: the program is the seat's. -/
import Derived.Test.YtghnkpkellnmdaaGreatDoorT4
import Derived.Test.YtghnkpkellnmdaaGreatDoorT5
import Derived.Test.YtghnkpkellnmdaaGreatDoorT6
import Derived.Test.YtghnkpkellnmdaaGreatDoorProg
import Derived.KernelRfl
set_option maxRecDepth 100000
set_option linter.unusedSimpArgs false
set_option linter.unusedVariables false
set_option linter.unusedSectionVars false
set_option linter.defProp false
namespace Go.Ab
open Go Go.Proofs
open Go.Proofs.Tryz (prog)
variable {P:BE}(hP:P.p=prog)
def H0(f:Ak):V:=.d f.enc
def LH(d:Av):D:=.agg [Xg d.names,.AV d.name,if d.Aq=[] then .Ah else X4 d.Aq,iD d.B1]
def Zd4(d:Av):D.le (LH d) d.enc:=by
 have e:d.enc=.agg [Xg d.names,.AV d.name,X4 d.Aq,iD d.B1]:=rfl;refine D.le.agg (B8.cons (D.le.refl _) (B8.cons (D.le.refl _) (B8.cons ?_ (B8.cons (D.le.refl _) B8.nil))));split
 next h=>rw[h];exact D.le.nil 1
 ·exact D.le.refl _
def Hz(d:Av):V:=.d (LH d)
def Oj(d:Av):V:=.d d.enc
def L2(s:AM):D:=.agg [.AV s.name,.AV s.Dy,iD s.CN,iD s.BL,.AH 11 (s.AL.map Ak.enc),.AH 4 (s.AU.map LH)]
def Zm8(s:AM):D.le (L2 s) s.enc:=by
 have e:s.enc=.agg [.AV s.name,.AV s.Dy,iD s.CN,iD s.BL,.AH 11 (s.AL.map Ak.enc),.AH 4 (s.AU.map Av.enc)]:=rfl;exact D.le.agg (B8.cons (D.le.refl _) (B8.cons (D.le.refl _) (B8.cons (D.le.refl _) (B8.cons (D.le.refl _) (B8.cons (D.le.refl _) (B8.cons (D.le.AH (B8.map λx _=>Zd4 x)) B8.nil))))))
def Yau{a:Type}(f g:a->V){d l:List a}(b:d.length<=l.length):(d.map f++(l.drop d.length).map g).length=l.length:=by simp;omega
def Yat{a:Type}(f g:a->V){d l:List a}(b:d.length<l.length)(h:d.length<(d.map f++(l.drop d.length).map g).length):(d.map f++(l.drop d.length).map g)[d.length]=g l[d.length]:=by
 simp
def Yav{b:Type}(f g:b->V){d l:List b}(a:d.length<l.length)(z:b):(d.map f++(l.drop d.length).map g).set d.length (f z)=(d++[z]).map f++(l.drop (d++[z]).length).map g:=by
 rw[List.set_append_right _ _ (by simp),EV a,Kk,Nat.sub_self,Dj,List.set_cons_zero];simp
include hP
theorem Xtq{a:List D}(c:∀x∈a,x.sz=11)(e:a.length<=1000000){b:AE}{K:V->AE->Prop}(h:K (.sl (AA b) a.length) ((AA b,.A0 158 11 (a.map .d))::b)):C1 P 106 [.d (.AH 11 a)] b K:=
 Ik (ds:=[.AH 11 a]) (W3 hP AT Zw2 c (by omega) ⟨rfl,rfl⟩) h
theorem X65{a:List D}(c:∀x∈a,x.sz=4)(e:a.length<=1000000){b:AE}{K:V->AE->Prop}(h:K (.sl (AA b) a.length) ((AA b,.A0 162 4 (a.map .d))::b)):C1 P 107 [.d (.AH 4 a)] b K:=
 Ik (ds:=[.AH 4 a]) (W3 hP AT Zw3 c (by omega) ⟨rfl,rfl⟩) h
theorem X9i{y:Al}{id m i Q:Nat}{vs:List V}{s:AM}(bk:s.AL.length<=1000000)(bj:s.AU.length<=1000000)(bn:∀d∈s.AU,d.names.length<=1000000000000){f:AE}(hc:RC y f)(hi:AD f id=some (.A0 72 6 vs))(hl:vs.length=m)(hv:vs[i]? = some (.d s.enc))(bb:∀p,Bu p vs=false)(b1:id≠1/\id≠2)
 (W:AD f Q=some (Jm (s.AL.map Ak.name))) {K:BQ->AE->Prop}
 (h1:∀q,Va y.AR (y.Ac.map Ax.name) s=some q->K (.ret (.BU [])) (AG f id (.A0 72 6 (vs.set i (.d (L2 q)))))) (h0:Va y.AR (y.Ac.map Ax.name) s=none->Pk K f):
 Aa P 37 [.ptr 4 [],.ep id m 6 i 0 [],.mp Q] f K:=by
 refine Aa.G9 ?_;refine Xv hP AT Z0y.1 Z0y.2 A6.nil λ_ al=>?_;obtain⟨b2,a0⟩:=HF.1 hv;have pe:s.enc=.agg [.AV s.name,.AV s.Dy,iD s.CN,iD s.BL,.AH 11 (s.AL.map Ak.enc),.AH 4 (s.AU.map Av.enc)]:=rfl;rw[pe]at a0;have L:i<m:=by omega
 have l4:=Xk hc.o4;have bt:=Xk hi;have aq:AA f≠id:=by omega
 have c4:=hc.o4;simp[Zvf,c4,hi,hl,L,a0];refine Zt hP hc.o5 (λn hn=>?_) (λhn=>?_)
 ·simp[hi,hl,L,a0];refine Xtq hP (by intro x H;obtain⟨r,_,rfl⟩:=E2.1 H;rfl) (by simpa using bk) ?_;simp[hi,hl,L];refine⟨⟨_,_,_,⟨rfl,rfl,rfl⟩,by simp⟩,?_⟩;have sR:Va y.AR (y.Ac.map Ax.name) s=(EL s.AL (Qw (y.Ac.map Ax.name))).bind λfs=>(EL s.AU (JW (s.AL.map Ak.name))).map λds=>{s with CN:=(n:Int),AL:=fs,AU:=ds}:=by rw[Va,hn,Dk]
  obtain⟨vs',ad⟩:∃vs',vs'=vs.set i (V.agg [.d (.AV s.name),.d (.AV s.Dy),.d (.int .i64 n),.d (iD s.BL),.sl (AA f) s.AL.length,.d (.AH 4 (s.AU.map Av.enc))]):=⟨_,rfl⟩
  rw[<-ad];have a6:vs'.length=m:=by simp_all
  have a5:∀h:i<vs'.length,vs'[i]=V.agg [.d (.AV s.name),.d (.AV s.Dy),.d (.int .i64 n),.d (iD s.BL),.sl (AA f) s.AL.length,.d (.AH 4 (s.AU.map Av.enc))]:=λh=>by simp[ad]
  have bi:=hc.set (vs':=vs') hi (by decide);have fs:AA (AG f id (.A0 72 6 vs'))=AA f:=by simp
  have nm:∀{n:Nat}{kp:List Nat}{O:List V},AA f<=n->AF n kp (AA f)=false->(∀p,Bu p O=false)->AN (AF n kp) ((AA f,.A0 158 11 O)::AG f id (.A0 72 6 vs'))=true:=λhn hk hu=>by
   simp_all[AN,Kj,Fc,Xz,BV,Yb,V.Bg,Bu]
  have av:∀{O:List V}{x:Nat},x=1\/x=2->AD ((AA f,Ob.A0 158 11 O)::AG f id (.A0 72 6 vs')) x=AD f x:=λ{O x} H=>by
   have e1:AA f≠x:=by omega
   simp_all[AD,A5,Xe]<;>omega
  have b5:∀{O:List V},AD ((AA f,Ob.A0 158 11 O)::AG f id (.A0 72 6 vs')) Q=some (Jm (s.AL.map Ak.name)):=λ{O}=>by
   have e1:AA f≠Q:=by have:=Xk W;omega
   have e2:Q≠id:=λe=>by simp_all[Jm]
   simp_all[AD,A5,Xe]
  refine Aw.go (ι:=List Ak) (λd=>[(0,.ptr 4 []),(1,.ep id m 6 i 0 []),(2,.mp Q),(36,.d (.int .i64 s.AL.length)),(37,.d (.int .i64 d.length))])
   (λd=>(AA f,.A0 158 11 ((d++s.AL.drop d.length).map H0))::AG f id (.A0 72 6 vs')) (λd=>d.length<=s.AL.length/\EL s.AL (Qw (y.Ac.map Ax.name))=Dn (λ_=>Qw (y.Ac.map Ax.name)) d (s.AL.drop d.length)) (λd=>s.AL.length-d.length) [] ⟨by simp,rfl⟩ (by simp) (by simp;exact λ_ _=>rfl) ?_
  rintro d ⟨hd,hg⟩ R rn re rr rp;have Z:((d++s.AL.drop d.length).map H0).length=s.AL.length:=by simp;omega
  by_cases ae:d.length<s.AL.length
  ·have wr:IntKind.i64.wrap ((d.length:Int)+1)=(d.length:Int)+1:=w_i _ (by omega);have wk:=Lh H0 ae;have ws:=Li H0 ae;rw[EV ae,Wb]at hg;generalize hu:s.AL[d.length]=u at hg wk;have ue:H0 u=.d (.agg [.AV u.name,.agg [iD u.type.kind,iD u.type.lo,iD u.type.hi,.AV u.type.Bo,iD u.type.unit,Xg u.type.names],.agg [iD u.w0,iD u.w1,iD u.w2,iD u.w3]]):=rfl;simp only[ue]at wk;generalize b4:(d++s.AL.drop d.length).map H0=O at Z wk ws;have a9:∀O,RC y ((AA f,.A0 158 11 O)::AG f id (.A0 72 6 vs')):=λO=>by
    have:=bi.cons (.A0 158 11 O)
    rwa [fs]at this
   have c4:=λO=>(a9 O).o4;have w1:=ws {u with type:={u.type with unit:=-1} };have bg:O.set d.length (.d (.agg [.AV u.name,.agg [iD u.type.kind,iD u.type.lo,iD u.type.hi,.AV u.type.Bo,iD (-1),.AH 1 (u.type.names.map .AV)],.agg [iD u.w0,iD u.w1,iD u.w2,iD u.w3]]))=((d++[{u with type:={u.type with unit:=-1} }])++s.AL.drop (d++[{u with type:={u.type with unit:=-1} }]).length).map H0:=w1;have CG:∀(z:Ak)(a4:List V)(a3:Xf),Qw (y.Ac.map Ax.name) u=some z->a4=((d++[z])++s.AL.drop (d++[z]).length).map H0->X0 a3 [0,1,2,36,37]=[(0,.ptr 4 []),(1,.ep id m 6 i 0 []),(2,.mp Q),(36,.d (.int .i64 s.AL.length)),(37,.d (.int .i64 (d.length+1:Nat)))]->
    R .normal a3 ((AA f,.A0 158 11 a4)::AG f id (.A0 72 6 vs')):=λz a4 a3 hz an hk=>by
    rw[hz,Dk]at hg;refine rn [] (d++[z]) _ _ ⟨by simp;omega,by grind⟩ (by simp;omega) (by simpa using hk) ?_ ?_ ?_
    ·rw[an];simp
    ·have:=Xk W;simp[AF];omega
    ·exact nm (by simp) (by simp ) (λp=>X7 _ _)
   simp[yu,ae,c4,aq,hi,a6,a5,L,Z,wk,bt,Xg];refine⟨λk1 k2=>?_,λk1=>?_⟩
   ·refine Zt hP (a9 _).o6 (λx H=>?_) (λH=>?_)
    ·have hz:Qw (y.Ac.map Ax.name) u=some {u with type:={u.type with unit:=x} }:=by
      rw[Qw,Bv ⟨k1,k2⟩,H];rfl
     have w2:O.set d.length (.d (.agg [.AV u.name,.agg [iD u.type.kind,iD u.type.lo,iD u.type.hi,.AV u.type.Bo,iD x,.AH 1 (u.type.names.map .AV)],.agg [iD u.w0,iD u.w1,iD u.w2,iD u.w3]]))=((d++[{u with type:={u.type with unit:=x} }])++s.AL.drop (d++[{u with type:={u.type with unit:=x} }]).length).map H0:=ws {u with type:={u.type with unit:=x} };simp[Z,ae,yv];exact CG _ _ _ hz w2 (by simp[wr])
    ·refine rp _ _ _ ?_;have ag:=h0 (by rw[sR,hg,Qw,Bv ⟨k1,k2⟩,H];rfl);have e:∀O,Xo (AF (AA f) [AA f]) ((AA f,Ob.A0 158 11 O)::AG f id (.A0 72 6 vs'))=(AA f,Ob.A0 158 11 O)::AG f id (.A0 72 6 vs'):=λO=>by simp[AF]
     have an:∀p,Bu p (O.set d.length (.d (.agg [.AV u.name,.agg [iD u.type.kind,iD u.type.lo,iD u.type.hi,.AV u.type.Bo,iD (-1),.AH 1 (u.type.names.map .AV)],.agg [iD u.w0,iD u.w1,iD u.w2,iD u.w3]])))=false:=λp=>by rw[bg];exact X7 _ _
     refine⟨[AA f],by simp,by rw[e];exact nm (B9 _) (by simp[AF]) an,_,Wk.refl _,[AA f],by simp[BQ.Bg],by rw[e,e];exact nm (B9 _) (by simp[AF]) an,?_⟩;rw[e,e];exact ag _ (av (.inl rfl)) (av (.inr rfl))
   ·have hz:Qw (y.Ac.map Ax.name) u=some {u with type:={u.type with unit:=-1} }:=by
     rw[Qw,A5 (λhh=>hh.2 (k1 hh.1))]
    simp[yv];exact CG _ _ _ hz bg (by simp[wr])
  ·have ba:d.length=s.AL.length:=by omega
   rw[ba,GN,Dn]at hg;simp[yu,ae];refine re _ _ _ ?_;have e:d.map H0++(s.AL.map H0).drop d.length=d.map H0:=by grind[List.drop_of_length_le]
   rw[e];rw[hg,Dk]at sR;have nF:AA f+1≠id:=by omega
   have fF:AA ((AA f,Ob.A0 158 11 (d.map H0))::AG f id (.A0 72 6 vs'))=AA f+1:=by simp
   simp[hi,a6,a5,L];refine X65 hP (by intro x H;obtain⟨r,_,rfl⟩:=E2.1 H;rfl) (by simpa using bj) ?_;rw[fF];simp[hi,a6,a5,L];refine⟨⟨_,_,_,⟨rfl,rfl,rfl⟩,by simp⟩,?_⟩;obtain⟨vd,ao⟩:∃vd,vd=vs'.set i (V.agg [.d (.AV s.name),.d (.AV s.Dy),.d (.int .i64 n),.d (iD s.BL),.sl (AA f) s.AL.length,.sl (AA f+1) s.AU.length]):=⟨_,rfl⟩
   rw[<-ao];have bz:vd.length=m:=by grind
   have bf:∀h:i<vd.length,vd[i]=V.agg [.d (.AV s.name),.d (.AV s.Dy),.d (.int .i64 n),.d (iD s.BL),.sl (AA f) s.AL.length,.sl (AA f+1) s.AU.length]:=λh=>by simp[ao]
   let G:List V->AE:=λl=>(AA f+1,.A0 162 4 l)::(AA f,.A0 158 11 (d.map H0))::AG f id (.A0 72 6 vd);have bG:∀l,AD (G l) (AA f+1)=some (.A0 162 4 l):=λl=>by simp[G]
   have bS:∀l ax,AG (G l) (AA f+1) (.A0 162 4 ax)=G ax:=λl ax=>by simp[G]
   have bI:∀l,AD (G l) id=some (.A0 72 6 vd):=λl=>by simp[G,aq,nF,Xe f id id ⟨_,hi⟩]
   have bM:∀l,AD (G l) Q=some (Jm (s.AL.map Ak.name)):=λl=>by
    have e0:AA f+1≠Q:=by have:=Xk W;omega
    have e1:AA f≠Q:=by have:=Xk W;omega
    have e2:Q≠id:=λe=>by simp_all[Jm]
    rw[AD,A5 e0,AD,A5 e1,Xe f id Q ⟨_,hi⟩,A5 e2,W]
   have bF:∀l,AA (G l)=AA f+2:=λl=>by
    simp[G]
   have a7:∀{l:List V}{x:Nat},x=1\/x=2->AD (G l) x=AD f x:=λ{l x} H=>by
    have e0:AA f+1≠x:=by omega
    have e1:AA f≠x:=by omega
    rw[AD,A5 e0,AD,A5 e1,Xe f id x ⟨_,hi⟩,A5 (by omega)]
   have bN:∀{n:Nat}{kp:List Nat}{l:List V},AA f<=n->AF n kp (AA f)=false->AF n kp (AA f+1)=false->Bu (AF n kp) l=false->AN (AF n kp) (G l)=true:=λ{n kp l} hn hk bm hu=>by
    simp only[G,AN,hu,Kj,Fc];have:=X7 (p:=AF n kp) Ak.enc d;rw[show d.map H0=d.map (λx=>V.d x.enc) from rfl,this];refine Xz ?_ (BV al hn);rw[ao,ad,Mj];exact Yb (by simp[hk,bm]) i (bb _)
   show Aw _ _ _ _ (G (s.AU.map (V.d∘Av.enc)));refine vJ (ι:=List Av) (λe=>[(1,.ep id m 6 i 0 []),(2,.mp Q),(87,.d (.int .i64 s.AU.length)),(88,.d (.int .i64 e.length))])
    (λe=>G (e.map Hz++(s.AU.drop e.length).map Oj)) (λe=>e.length<=s.AU.length/\EL s.AU (JW (s.AL.map Ak.name))=Dn (λ_=>JW (s.AL.map Ak.name)) e (s.AU.drop e.length)) (λe=>s.AU.length-e.length) [] ⟨by simp,rfl⟩ (by simp) (by rfl) ?_
   rintro e ⟨he,aa⟩ R rn re rr rp;by_cases F:e.length<s.AU.length
   ·have wr:IntKind.i64.wrap ((e.length:Int)+1)=(e.length:Int)+1:=w_i _ (by omega);have Z:=Yau Hz Oj he;have wk:=Yat Hz Oj F;have ws:=Yav Hz Oj F;rw[EV F,Wb]at aa;have bp:=bn _ (DS F);generalize hu:s.AU[e.length]=u at aa wk bp;have ue:Oj u=.d (.agg [Xg u.names,.AV u.name,X4 u.Aq,iD u.B1]):=rfl;simp only[ue]at wk;generalize bl:e.map Hz++(s.AU.drop e.length).map Oj=l at Z wk ws;have nG:AA f+1≠id:=nF;simp[yt,F,bG,bS,bI,bz,bf,L,Z,wk,Xg];have ak:∀p,Bu p l=false:=λp=>by
     subst bl;have a1:=X7 (p:=p) LH e;have a2:=X7 (p:=p) Av.enc (s.AU.drop e.length);have ap:∀(a b:List V),Bu p (a++b)=(Bu p a||Bu p b):=λa b=>by
      induction a with
      |nil=>simp 
      |cons x r ih=>simp[ih,Bool.or_assoc]
     rw[ap];simp only[HG];exact⟨a1,a2⟩
    let X:List Nat->V:=λc=>if c=[] then .d (.agg [.AH 1 (u.names.map .AV),.AV u.name,.Ah,iD u.B1]) else .agg [.d (.AH 1 (u.names.map .AV)),.d (.AV u.name),.sl (AA f+2) c.length,.d (iD u.B1)];let J:List Nat->AE:=λc=>(if c=[] then[] else[(AA f+2,Ob.BO 3 1 (c.map λ(x:Nat)=>iD x))])++G (l.set e.length (X c));have pn:JW (s.AL.map Ak.name) u=none->∀c,Zu 3 (V2 (Zh P [] (S2.rg [] [(1,.a (.t 1)),(2,.a (.t 2)),(87,.a (.t 87)),(88,.b (.Bl .add (.t 0) (.t 1)) (.a (.t 88)) (.a (.int .i64 1)))] []) R) R) (.panic (.d Z4)) [] (J c):=λe0 c=>by
     have ag:=h0 (by rw[sR,aa,e0];rfl);simp;refine rp _ _ _ ?_;simp;have kq:∀j,AA f<=j->j<=AA f+2->AF (AA f) [AA f,AA f+1,AA f+2] j=false:=λj h1 h2=>by simp[AF];omega
     have dB:∀l,Xo (AF (AA f) [AA f,AA f+1,AA f+2]) (G l)=G l:=λl=>by
      simp[G,kq]
     have dk:Xo (AF (AA f) [AA f,AA f+1,AA f+2]) (J c)=J c:=by
      simp only[J];split
      ·simpa using dB _
      ·simp[kq,dB]
     have nk:AN (AF (AA f) [AA f,AA f+1,AA f+2]) (J c)=true:=by
      simp only[J];split
      next hh=>exact bN (B9 _) (kq _ (by omega) (by omega)) (kq _ (by omega) (by omega)) (Yb (by simp[X,hh]) _ (ak _))
      next hh=>exact bN (B9 _) (kq _ (by omega) (by omega)) (kq _ (by omega) (by omega)) (Yb (by simp[X,hh,kq]) _ (ak _))
     have bc:∀x,x=1\/x=2->AD (J c) x=AD f x:=λx H=>by
      simp only[J];split
      ·simpa using a7 H
      ·have:AA f+2≠x:=by omega
       simp only[F1,Gx,AD,A5 this];exact a7 H
     refine⟨[AA f,AA f+1,AA f+2],by simp,by rw[dk];exact nk,_,Wk.refl _,[AA f,AA f+1,AA f+2],by simp[BQ.Bg],by rw[dk,dk];exact nk,?_⟩;rw[dk,dk];exact ag _ (bc 1 (.inl rfl)) (bc 2 (.inr rfl))
    refine Aw.go (ι:=List Nat) (λc=>[(1,.ep id m 6 i 0 []),(2,.mp Q),(9,.ep (AA f+1) s.AU.length 4 e.length 0 []),(87,.d (.int .i64 s.AU.length)),(88,.d (.int .i64 e.length)),(103,.d (.AH 1 (u.names.map .AV))),(104,.d (.int .i64 u.names.length)),(105,.d (.int .i64 c.length))])
     J (λc=>c.length<=u.names.length/\Nz (s.AL.map Ak.name) [] u.names=Nz (s.AL.map Ak.name) c (u.names.drop c.length)) (λc=>u.names.length-c.length) [] ⟨by simp,rfl⟩ (by simp) (by simp[J,X]) ?_
    rintro c ⟨b3,Y⟩ R2 bv bu b6 bx;by_cases ac:c.length<u.names.length
    ·have bh:IntKind.i64.wrap ((c.length:Int)+1)=(c.length:Int)+1:=w_i _ (by omega);rw[EV ac,Nz]at Y;have b0:∀v,(l.set e.length v).set e.length=λw=>l.set e.length w:=λv=>by funext w;rw[Mj]
     have next:∀x,DA (s.AL.map Ak.name) u.names[c.length]=some x->R2 .normal [(1,.ep id m 6 i 0 []),(2,.mp Q),(9,.ep (AA f+1) s.AU.length 4 e.length 0 []),(87,.d (.int .i64 s.AU.length)),(88,.d (.int .i64 e.length)),(103,.d (.AH 1 (u.names.map .AV))),(104,.d (.int .i64 u.names.length)),(105,.d (.int .i64 (c.length+1:Nat)))] (J (c++[x])):=λx H=>by
      rw[H,Dk]at Y;have fO:AA f+2<=AA (J c):=by
       simp only[J];split
       ·simp[bF]
       ·simp[bF]
      have kq:AF (AA (J c)) [AA f+2] (AA f+2)=false:=by simp[AF]
      have ah:∀j,j<AA f+2->AF (AA (J c)) [AA f+2] j=false:=λj hj=>by simp[AF];omega
      refine bv [AA f+2] (c++[x]) _ _ ⟨by simp;omega,by rw[Y,Dd];rfl⟩ (by simp;omega) (by simp) ?_ ?_ ?_
      ·have e1:J (c++[x])=(AA f+2,Ob.BO 3 1 ((c++[x]).map λ(x:Nat)=>iD x))::G (l.set e.length (X (c++[x]))):=by simp[J]
       rw[e1,Xo,kq];simp;rw[Xl (by rw[bF];exact fO)]
      ·have:=Xk W;simp[ah id (by omega),ah Q (by omega),ah (AA f+1) (by omega)]
      ·have e1:J (c++[x])=(AA f+2,Ob.BO 3 1 ((c++[x]).map λ(x:Nat)=>iD x))::G (l.set e.length (X (c++[x]))):=by simp[J]
       rw[e1];exact bN (by omega) (ah _ (by omega)) (ah _ (by omega)) (Yb (by simp[X,kq]) _ (ak _))
     have aw:DA (s.AL.map Ak.name) u.names[c.length]=none->R2 (.panic (.d Z4)) [] (J c):=λH=>by
      rw[H,Option.bind_none]at Y;refine bx _ _ _ ?_;have:=pn (by rw[JW,Y];rfl) c;simpa using this
     by_cases T:c=[]
     ·subst T;have az:0<u.names.length:=ac;have w1:IntKind.i64.wrap 1=1:=w_i _ (by omega);have nx:=next
      simp[J,X]at nx;have sp:=aw;simp[J,X]at sp;simp[jJ,az,J,X,bG,bS,bM,Z,F];refine⟨Zt hP (bM _) (λx H=>?_) (λH=>by simpa using sp H),Zt hP (bM _) (λx H=>?_) (λH=>by simpa using sp H)⟩
      ·simp[bF,bG,bS,Z,F,w1];simpa using nx x H
      ·simp[bF,bG,bS,Z,F,w1];simpa using nx x H
     ·have nx:=next
      simp[J,X]at nx;have sp:=aw;simp[J,X,T]at sp;have a8:(2*(c.length+1)+192)*8<=281474976710656:=by omega
      have aj:∀l o,AD ((AA f+2,o)::G l) Q=some (Jm (s.AL.map Ak.name)):=λl o=>by
       have:AA f+2≠Q:=by have:=Xk W;omega
       rw[AD,A5 this,bM]
      simp[jJ,ac,J,X,T,bG,bS,bM,Z,F];refine⟨Zt hP (aj _ _) (λx H=>?_) (λH=>by simpa using sp H),Zt hP (aj _ _) (λx H=>?_) (λH=>by simpa using sp H)⟩
      ·simp[bG,bS,Z,F,bh,a8];simpa using nx x H
      ·simp[bG,bS,Z,F,bh,a8];simpa using nx x H
    ·have bo:c.length=u.names.length:=by omega
     rw[bo,GN,Nz]at Y;simp[jJ,ac];refine bu _ _ _ ?_;have be:DA (s.AL.map Ak.name) u.name=none->R (.panic (.d Z4)) [] (J c):=λH=>by
      have:=pn (by rw[JW,Y,Dk,H];rfl) c;simpa using this
     have hR:∀t,DA (s.AL.map Ak.name) u.name=some t->JW (s.AL.map Ak.name) u=some {u with Aq:=c.map Int.ofNat,B1:=t}:=λt ht=>by
      rw[JW,Y,Dk,ht];rfl
     have CG:∀t ai,DA (s.AL.map Ak.name) u.name=some t->Wk ai ((AA f+2,.Ar)::G (l.set e.length (Hz {u with Aq:=c.map Int.ofNat,B1:=t})))\/ai=G (l.set e.length (Hz {u with Aq:=c.map Int.ofNat,B1:=t}))->R .normal [(1,.ep id m 6 i 0 []),(2,.mp Q),(87,.d (.int .i64 s.AU.length)),(88,.d (.int .i64 (e.length+1:Nat)))] ai:=λt ai ht hw=>by
      rw[hR t ht,Dk]at aa;have hz:=ws {u with Aq:=c.map Int.ofNat,B1:=t};rw[hz]at hw;have ab:∃au,Wk ai au/\Xo (AF (AA (G l)) []) au=G ((e++[{u with Aq:=c.map Int.ofNat,B1:=(t:Int) }]).map Hz++(s.AU.drop (e++[{u with Aq:=c.map Int.ofNat,B1:=(t:Int) }]).length).map Oj):=by
       rcases hw with hw|rfl
       ·refine⟨_,hw,?_⟩;have kg:AF (AA (G l)) [] (AA f+2)=true:=by simp[bF]
        rw[Xo,Bv kg,Xl (by rw[bF,bF];omega)]
       ·exact⟨_,Wk.refl _,Xl (by rw[bF,bF];omega)⟩
      obtain⟨au,w1,w2⟩:=ab;refine rn [] (e++[{u with Aq:=c.map Int.ofNat,B1:=t}]) _ _ au w1 ⟨by simp;omega,by rw[aa,Dd];rfl⟩ (by simp;omega) (by simp) ?_ ?_ ?_
      ·exact w2
      ·have:=Xk W;simp[bF,AF];omega
      ·refine bN (by rw[bF];omega) (by simp[bF]) (by simp[bF]) ?_;rw[<-hz];exact Yb rfl _ (ak _)
     by_cases T:c=[]
     ·have sp:=be;simp[J,X,T]at sp;simp[J,X,T,bG,Z,F];refine Zt hP (bM _) (λt ht=>?_) (λH=>by simpa using sp H);simp[bG,bS,Z,F,wr];have:=CG t _ ht (.inr rfl);simpa[T,Hz,LH,Xg]using this
     ·have aj:∀l o,AD ((AA f+2,o)::G l) Q=some (Jm (s.AL.map Ak.name)):=λl o=>by
       have:AA f+2≠Q:=by have:=Xk W;omega
       rw[AD,A5 this,bM]
      have sp:=be;simp[J,X,T]at sp;simp[J,X,T,bG,Z,F];refine Zt hP (aj _ _) (λt ht=>?_) (λH=>by simpa using sp H);simp[bG,bS,Z,F,wr];have f2:=CG t ((AA f+2,Ob.BO 3 1 (c.map λ(x:Nat)=>iD x))::G (l.set e.length (.agg [.d (.AH 1 (u.names.map .AV)),.d (.AV u.name),.sl (AA f+2) c.length,.d (.int .i64 t)]))) ht (.inl ?_)
      ·simpa using f2
      ·obtain⟨N,U⟩:∃N,N=(AA f+2,Ob.BO 3 1 (c.map λ(x:Nat)=>iD x))::G (l.set e.length (.agg [.d (.AH 1 (u.names.map .AV)),.d (.AV u.name),.sl (AA f+2) c.length,.d (.int .i64 t)])):=⟨_,rfl⟩
       have P9:¬AA f+2=AA f+1:=by omega
       have li:AD N (AA f+1)=some (.A0 162 4 (l.set e.length (.agg [.d (.AH 1 (u.names.map .AV)),.d (.AV u.name),.sl (AA f+2) c.length,.d (.int .i64 t)]))):=by rw[U,AD,A5 P9,bG]
       have lf:AD N (AA f+2)=some (.BO 3 1 (c.map λ(x:Nat)=>iD x)):=by rw[U,AD,Bv rfl]
       have g:Dc 3 N (.agg [.d (.AH 1 (u.names.map .AV)),.d (.AV u.name),.sl (AA f+2) c.length,.d (.int .i64 t)])=some (.agg [.AH 1 (u.names.map .AV),.AV u.name,.AH 1 (c.map λ(x:Nat)=>iD x),.int .i64 t],AG N (AA f+2) .Ar):=by
        have hd:∀(x:D)(o:AE),Dc 2 o (.d x)=some (x,o):=λx o=>rfl;show Fm (FX (Dc 2) N _)=_;simp only[FX,hd,Yoc (k:=1) (n:=c.length) lf (by decide) (by simp),Jb,Fm]
       have sg:AG N (AA f+2) .Ar=(AA f+2,.Ar)::G (l.set e.length (.agg [.d (.AH 1 (u.names.map .AV)),.d (.AV u.name),.sl (AA f+2) c.length,.d (.int .i64 t)])):=by rw[U];simp 
       have ab:=QR li (i:=e.length) (v:=.agg [.d (.AH 1 (u.names.map .AV)),.d (.AV u.name),.sl (AA f+2) c.length,.d (.int .i64 t)]) (by rw[List.getElem?_set_self (by omega)]) g (by rw[sg,AD,A5 P9,bG]) rfl;rw[<-U];have af:AG (AG N (AA f+2) .Ar) (AA f+1) (.A0 162 4 ((l.set e.length (.agg [.d (.AH 1 (u.names.map .AV)),.d (.AV u.name),.sl (AA f+2) c.length,.d (.int .i64 t)])).set e.length (.d (.agg [.AH 1 (u.names.map .AV),.AV u.name,.AH 1 (c.map λ(x:Nat)=>iD x),.int .i64 t]))))=(AA f+2,.Ar)::G (l.set e.length (Hz {u with Aq:=c.map Int.ofNat,B1:=t})):=by
        rw[sg,AG,A5 P9,bS,Mj];have:Hz {u with Aq:=c.map Int.ofNat,B1:=(t:Int) }=.d (.agg [.AH 1 (u.names.map .AV),.AV u.name,.AH 1 (c.map λ(x:Nat)=>iD x),.int .i64 t]):=by
         simp[Hz,LH,T,Xg,X4]
        rw[this]
       rw[af]at ab;exact ab
   ·have ay:e.length=s.AU.length:=by omega
    rw[ay,GN,Dn]at aa;simp[yt,F];refine re _ _ _ ?_;simp;have e0:(s.AU.map Oj).drop e.length=[]:=Im (by simp[ay]);rw[e0,HH];rw[aa]at sR;have hq:Va y.AR (y.Ac.map Ax.name) s=some {s with CN:=(n:Int),AL:=d,AU:=e}:=by rw[sR];rfl
    have kq:∀j,AA f<=j->j<=AA f+1->AF (AA f) [AA f,AA f+1] j=false:=λj h1 h2=>by simp[AF];omega
    have dB:∀l,Xo (AF (AA f) [AA f,AA f+1]) (G l)=G l:=λl=>by simp[G,kq]
    have bd:¬AA f+1=AA f:=by omega
    have lG:AD (G (e.map Hz)) (AA f+1)=some (.A0 162 4 (e.map λx=>V.d (LH x))):=bG _;have lF:AD (G (e.map Hz)) (AA f)=some (.A0 158 11 (d.map λx=>V.d x.enc)):=by
     rw[AD,A5 bd,AD,Bv rfl];rfl
    obtain⟨N,U⟩:∃N,N=G (e.map Hz):=⟨_,rfl⟩
    rw[<-U]at lG lF⊢;have li:AD N id=some (.A0 72 6 vd):=by rw[U,bI]
    have g2:AD (AG N (AA f) .Ar) (AA f+1)=some (.A0 162 4 (e.map λx=>V.d (LH x))):=by
     rw[Xe N (AA f) (AA f+1) ⟨_,lF⟩,A5 bd,lG]
    have g:Dc 3 N (.agg [.d (.AV s.name),.d (.AV s.Dy),.d (.int .i64 n),.d (iD s.BL),.sl (AA f) s.AL.length,.sl (AA f+1) s.AU.length])=some (.agg [.AV s.name,.AV s.Dy,.int .i64 n,iD s.BL,.AH 11 (d.map Ak.enc),.AH 4 (e.map LH)],AG (AG N (AA f) .Ar) (AA f+1) .Ar):=by
     have hd:∀(x:D)(o:AE),Dc 2 o (.d x)=some (x,o):=λx o=>rfl;show Fm (FX (Dc 2) N _)=_;simp only[FX,hd,I2 (k:=0) (n:=s.AL.length) Ak.enc lF (by decide) ba.symm,I2 (k:=0) (n:=s.AU.length) LH g2 (by decide) ay.symm,Jb,Fm]
    have sg:AG (AG N (AA f) .Ar) (AA f+1) .Ar=(AA f+1,.Ar)::(AA f,.Ar)::AG f id (.A0 72 6 vd):=by
     rw[U];show AG (AG ((AA f+1,_)::(AA f,_)::AG f id _) _ _) _ _=_;simp 
    have bq:AD (AG (AG N (AA f) .Ar) (AA f+1) .Ar) id=some (.A0 72 6 vd):=by
     rw[sg,AD,A5 nF,AD,A5 aq,Xe f id id ⟨_,hi⟩,Bv rfl]
    have ab:=QR li (i:=i) (by rw[EW (by omega),bf]) g bq rfl;have af:AG (AG (AG N (AA f) .Ar) (AA f+1) .Ar) id (.A0 72 6 (vd.set i (.d (.agg [.AV s.name,.AV s.Dy,.int .i64 n,iD s.BL,.AH 11 (d.map Ak.enc),.AH 4 (e.map LH)]))))=(AA f+1,.Ar)::(AA f,.Ar)::AG f id (.A0 72 6 (vs.set i (.d (L2 {s with CN:=(n:Int),AL:=d,AU:=e})))):=by
     rw[sg,AG,A5 nF,AG,A5 aq,Za,ao,ad,Mj,Mj];rfl
    rw[af]at ab;have dk:Xo (AF (AA f) [AA f,AA f+1]) N=N:=by rw[U];exact dB _
    refine⟨[AA f,AA f+1],by simp,by rw[dk,U];exact bN (B9 _) (kq _ (by omega) (by omega)) (kq _ (by omega) (by omega)) (X7 _ _),_,by rw[dk];exact ab,[],by simp[BQ.Bg],?_,?_⟩
    ·simp ;exact Xz (Yb rfl _ (bb _)) (al _)
    ·simp ;exact h1 _ hq
 ·have ag:=h0 (by rw[Va,hn];rfl);refine⟨[],by simp,by simpa using al [],_,Wk.refl _,[],by simp[BQ.Bg],by simpa using al [],?_⟩;simpa using ag f rfl rfl
omit hP
structure TL(T:V)(lid:Nat)(tob:A4->Ob):Prop where
 nil:NB T
 fa:∀ob t k,AD ob lid=some (tob t)->k<5->I7 ob k k T
 nmV:∀ob t,AD ob lid=some (tob t)->G8 ob (Us 0 0 T)=.d (.AV t.name)
 nmS:∀ob t,AD ob lid=some (tob t)->IX ob 1 false (Us 0 0 T)
 paV:∀ob t,AD ob lid=some (tob t)->G8 ob (Us 1 1 T)=.d (.AV t.path)
 paS:∀ob t,AD ob lid=some (tob t)->IX ob 1 false (Us 1 1 T)
 vaV:∀ob t,AD ob lid=some (tob t)->G8 ob (Us 2 2 T)=.d (iD t.var)
 vaS:∀ob t,AD ob lid=some (tob t)->IX ob 1 false (Us 2 2 T)
 stv:∀ob t x (K:V->AE->Prop),AD ob lid=some (tob t)->K .undef (AG ob lid (tob {t with var:=x}))->H5 ob 1 (.d (.int .i64 x)) K (Us 2 2 T)
 stf:∀ob t x (K:V->AE->Prop),AD ob lid=some (tob t)->K .undef (AG ob lid (tob {t with field:=x}))->H5 ob 1 (.d (.int .i64 x)) K (Us 3 3 T)
def bH(a:List V)(k:Nat)(x:At)(t:A4):Ob:=.A0 168 8 (a.set k (.d ({x with Bo:=t}:At).enc))
def cB(b:List V)(k:Nat)(x:BH)(t:A4):Ob:=.A0 173 11 (b.set k (.d ({x with a:=t}:BH).enc))
def cE(a:List V)(k:Nat)(x:BH)(t:A4):Ob:=.A0 173 11 (a.set k (.d ({x with b:=t}:BH).enc))
def cH(a:List V)(k:Nat)(x:Bj)(t:A4):Ob:=.A0 177 7 (a.set k (.d ({x with BZ:=t}:Bj).enc))
def Yzf{b:List V}{k n a:Nat}(x:At)(d:k<b.length)(c:b.length=n):TL (.ep a n 8 k 3 [3]) a (bH b k x):=by
 subst c;refine⟨by simp,λe t k h _=>by simp,?_,?_,?_,?_,?_,?_,?_,?_⟩<;>simp_all[bH,At.enc,A4.enc,GV,Cb,HM]
def Zax{b:List V}{k n a:Nat}(x:BH)(d:k<b.length)(c:b.length=n):TL (.ep a n 11 k 1 [1]) a (cB b k x):=by
 subst c;refine⟨by simp,λe t k h _=>by simp,?_,?_,?_,?_,?_,?_,?_,?_⟩<;>simp_all[cB,BH.enc,A4.enc,GV,Cb,HM]
def Zay{b:List V}{k n a:Nat}(x:BH)(d:k<b.length)(c:b.length=n):TL (.ep a n 11 k 6 [2]) a (cE b k x):=by
 subst c;refine⟨by simp,λe t k h _=>by simp,?_,?_,?_,?_,?_,?_,?_,?_⟩<;>simp_all[cE,BH.enc,A4.enc,GV,Cb,HM]
def Zaz{b:List V}{k n a:Nat}(x:Bj)(d:k<b.length)(c:b.length=n):TL (.ep a n 7 k 2 [2]) a (cH b k x):=by
 subst c;refine⟨by simp,λe t k h _=>by simp,?_,?_,?_,?_,?_,?_,?_,?_⟩<;>simp_all[cH,Bj.enc,A4.enc,GV,Cb,HM]
include hP
theorem YM{y:Al}{b:AE}{lid L X rb Q i W U G nf:Nat}{T:V}{tob:A4->Ob}(c:TL T lid tob){t:A4}(hl:AD b lid=some (tob t)){vs:List At}(hs:∀x∈vs,∃s:Nat,x.Am=s/\s<y.AB.length)
 (hc:RC y b) (ab:AD b L=some (.box 102 (.mp X))) (ah:AD b X=some (Jm (vs.map At.name))) (ad:AD b rb=some (.box 85 (.ptr 4 []))) (au:AD b Q=some (.box 107 (.ep i W 5 U 0 [])))
 {O:List V} {w0 w1 w3 w4:V} (hu:AD b i=some (.A0 77 5 O)) (ag:O.length=W) (af:O[U]? = some (.agg [w0,w1,.sl G nf,w3,w4])) (ae:w0.shape=.leaf/\w1.shape=.leaf/\w3.shape=.leaf/\w4.shape=.leaf)
 (hF:∀a,∃N,AD (AG b lid (tob a)) G=some (.A0 168 8 N)/\N.length=nf/\∀(v:Nat)(x:At),vs[v]? = some x->N[v]? = some (.d x.enc))
 (m:lid≠L/\lid≠X/\lid≠rb/\lid≠Q/\lid≠i) (l:∀a,RC y (AG b lid (tob a))) (ap:∀p a,AN p b=true->AN p (AG b lid (tob a))=true) {K:BQ->AE->Prop}
 (h1:∀a,Gz y.AB vs t=some a->K (.ret (.BU [])) (AG b lid (tob a))) (h0:Gz y.AB vs t=none->∀a,K (.panic (.d Z4)) (AG b lid (tob a))):
 Aa P 109 [T,.ptr L [],.ptr rb [],.ptr Q []] b K:=by
 refine Xv hP AT Zje.1 Zje.2 A6.nil λ_ aq=>?_;have g:∀{a:A4},AD (AG b lid (tob a)) lid=some (tob a):=λ{a}=>by simp_all
 have ss:∀{a u:A4},AG (AG b lid (tob a)) lid (tob u)=AG b lid (tob u):=λ{a u}=>Za b;have r:∀{j:Nat}{a:A4},lid≠j->AD (AG b lid (tob a)) j=AD b j:=λ{j a} h=>by simp_all
 simp[Zby,c.nil,c.fa b t 2 hl (by omega)];refine c.stv b t _ _ hl ?_;refine⟨c.fa _ _ 3 g (by omega),?_⟩;refine c.stf _ _ _ _ g ?_;rw[ss];have aj:∀a,Gz y.AB vs t=some a->Yh (AA b) (K (.ret (.BU []))) [] (AG b lid (tob a)):=λa e=>⟨[],by simp,by simp_all,by simp_all⟩;have ai:Gz y.AB vs t=none->∀a,Yh (AA b) (K (.panic (.d Z4))) [.d Z4] (AG b lid (tob a)):=λe a=>⟨[],by simp,by simp_all,by simp_all⟩;have f0:∀a,I7 (AG b lid (tob a)) 0 0 T:=λa=>c.fa _ _ 0 g (by omega);have f1:∀a,I7 (AG b lid (tob a)) 1 1 T:=λa=>c.fa _ _ 1 g (by omega);have f2:∀a,I7 (AG b lid (tob a)) 2 2 T:=λa=>c.fa _ _ 2 g (by omega);have f3:∀a,I7 (AG b lid (tob a)) 3 3 T:=λa=>c.fa _ _ 3 g (by omega);have nV:∀a,G8 (AG b lid (tob a)) (Us 0 0 T)=.d (.AV a.name):=λa=>c.nmV _ _ g;have nS:∀a,IX (AG b lid (tob a)) 1 false (Us 0 0 T):=λa=>c.nmS _ _ g;have pV:∀a,G8 (AG b lid (tob a)) (Us 1 1 T)=.d (.AV a.path):=λa=>c.paV _ _ g;have pS:∀a,IX (AG b lid (tob a)) 1 false (Us 1 1 T):=λa=>c.paS _ _ g;have vV:∀a,G8 (AG b lid (tob a)) (Us 2 2 T)=.d (iD a.var):=λa=>c.vaV _ _ g;have vS:∀a,IX (AG b lid (tob a)) 1 false (Us 2 2 T):=λa=>c.vaS _ _ g;have ak:∀a,AD (AG b lid (tob a)) L=some (.box 102 (.mp X)):=λa=>by rw[r m.1,ab]
 have al:∀a,AD (AG b lid (tob a)) rb=some (.box 85 (.ptr 4 [])):=λa=>by rw[r m.2.2.1,ad]
 have an:∀a,AD (AG b lid (tob a)) Q=some (.box 107 (.ep i W 5 U 0 [])):=λa=>by simp_all
 have J:∀a,AD (AG b lid (tob a)) i=some (.A0 77 5 O):=λa=>by simp_all
 by_cases hn:t.name=[]
 ·simp[f0,nV,nS,hn];simp_all[Gz,Bv]
 ·have k:Gz y.AB vs t=(DA (vs.map At.name) t.name).bind λ(v:Nat)=>(vs[v]?).bind λx=>(DA (Y2 y.AB x.Am) t.path).map λ(f:Nat)=>{t with var:=v,field:=f}:=by rw[Gz,A5 hn]
  simp[f0,nV,nS,hn,ak];refine Zt hP (by rw[r m.2.1];exact ah) (λv hv=>?_) (λhx=>?_)
  ·simp[f2];refine c.stv _ _ _ _ g ?_;rw[ss];have q:v<vs.length:=by simpa using SC hv
   obtain⟨sx,H,F⟩:=hs _ (DS q);obtain⟨N,g1,g2,g3⟩:=hF {t with var:=(v:Int),field:=0};have gv:=g3 v _ (EW q);obtain⟨gl,ge⟩:=HF.1 gv;obtain⟨ul,ue⟩:=HF.1 af;have ao:U<W:=by omega
   have aa:v<nf:=by omega
   have fe:∀x:At,x.enc=.agg [.AV x.name,.AV x.kind,iD x.Am,.agg [.AV x.Bo.name,.AV x.Bo.path,iD x.Bo.var,iD x.Bo.field,iD x.Bo.n]]:=λ_=>rfl;rw[fe]at ge;rw[hv,Dk,EW q,Dk]at k;have ac:Y2 y.AB vs[v].Am=Es y.AB sx:=by
    rw[H];unfold Y2 Es;simp;cases y.AB[sx]?<;>rfl
   rw[ac]at k;rw[H]at ge;have z:y.AB.length≠0:=by omega
   have c4:=(l {t with var:=(v:Int),field:=0}).o4;have w:=(l {t with var:=(v:Int),field:=0}).Sl z;have cm:=(l {t with var:=(v:Int),field:=0}).om sx F;generalize o:({t with var:=(v:Int),field:=0}:A4)=t2 at g1 c4 w cm;have Z:t2.var=v:=by rw[<-o]
   have Y:t2.path=t.path:=by rw[<-o]
   simp[f1,f2,f3,pV,pS,vV,vS,al,an,J,c4,w,g1,g2,gl,ge,ag,ul,ue,ao,aa,Z,Y,IW,z,F,Vm,U0,ae];refine Zt hP cm (λf hf=>?_) (λhx=>?_)
   ·simp[f3];refine c.stf _ _ _ _ g ?_;rw[ss];refine aj _ ?_;rw[k,hf,<-o];rfl
   ·exact ai (by rw[k,hx];rfl) _
  ·simp_all
omit hP
def xG(l a:List B):∀k,k<=l.length->Z6 (l++a) k=Z6 l k
|0,_=>rfl
|k+1,h=>by
 have b:=xG l a k (by omega);grind[Z6,List.getElem?_append_left]
def Yad{l:List B}{x:B}(h:x∉l):Z6 (l++[x]) (l++[x]).length=Z6 l l.length++[(.AV x,.d (.int .i64 l.length))]:=by
 rw[Dd,Ml,Z6,List.getElem?_append_right (B9 _),Nat.sub_self];simp_all[List.getElem?_cons_zero,List.take_left',A5,xG,B9]
def Fu(x:At):V:=.d x.enc
def FR(x:BH):V:=.d x.enc
def JM(x:Bj):V:=.d x.enc
theorem X96:Xd prog 109=true:=by kernel_rfl
include hP
theorem X01{a:List D}(c:∀x∈a,x.sz=8)(e:a.length<=1000000){b:AE}{K:V->AE->Prop}(h:K (.sl (AA b) a.length) ((AA b,.A0 168 8 (a.map .d))::b)):C1 P 108 [.d (.AH 8 a)] b K:=
 Ik (ds:=[.AH 8 a]) (W3 hP AT Zw4 c (by omega) ⟨rfl,rfl⟩) h
theorem X00{xs:List D}(b:∀x∈xs,x.sz=11)(c:xs.length<=1000000){a:AE}{K:V->AE->Prop}(h:K (.sl (AA a) xs.length) ((AA a,.A0 173 11 (xs.map .d))::a)):C1 P 110 [.d (.AH 11 xs)] a K:=
 Ik (ds:=[.AH 11 xs]) (W3 hP AT Zw5 b (by omega) ⟨rfl,rfl⟩) h
theorem X67{xs:List D}(b:∀x∈xs,x.sz=7)(c:xs.length<=1000000){a:AE}{K:V->AE->Prop}(h:K (.sl (AA a) xs.length) ((AA a,.A0 177 7 (xs.map .d))::a)):C1 P 111 [.d (.AH 7 xs)] a K:=
 Ik (ds:=[.AH 7 xs]) (W3 hP AT Zdv b (by omega) ⟨rfl,rfl⟩) h
set_option maxHeartbeats 1000000 in
theorem Yt0{y:Al}{id m i:Nat}{O:List V}{r:Ap}(cd:r.Ad.length<=1000000)(cl:r.AY.length<=1000000)(cj:r.BC.length<=1000000)(cg:(r.Ad.map At.name).Nodup){ob:AE}(hc:RC y ob)(hi:AD ob id=some (.A0 77 5 O))(hl:O.length=m)(hv:O[i]? = some (.d r.enc))(bx:∀p,Bu p O=false)(cq:id≠1/\id≠2){K:BQ->AE->Prop}
 (h1:∀q,GZ y.AB r=some q->K (.ret (.BU [])) (AG ob id (.A0 77 5 (O.set i (.d q.enc))))) (h0:GZ y.AB r=none->Pk K ob):
 Aa P 38 [.ptr 4 [],.ep id m 5 i 0 []] ob K:=by
 refine Aa.G9 ?_;refine Xv hP AT Z0z.1 Z0z.2 A6.nil λ_ bv=>?_;obtain⟨L,a6⟩:=HF.1 hv;have pe:r.enc=.agg [.AV r.head,iD r.Am,.AH 8 (r.Ad.map At.enc),.AH 11 (r.AY.map BH.enc),.AH 7 (r.BC.map Bj.enc)]:=rfl;rw[pe]at a6;have H:i<m:=by omega
 have l4:=Xk hc.o4;have l7:=Xk hc.o7;have a8:=Xk hi;obtain⟨f,hf⟩:∃f,f=AA ob:=⟨_,rfl⟩
 have av:f≠id:=by omega
 have ab:f+1≠id:=by omega
 have c4:=hc.o4;have fo:AA ob=f:=hf.symm;have a9:GZ y.AB r=none->∀(J:List Nat)(an:AE),Xo (AF f J) an=an->AN (AF f J) an=true->AD an 1=AD ob 1->AD an 2=AD ob 2->Yh f (λb=>∃b',Wk b b'/\∃x,BQ.Bg (AF f x) (BQ.panic (V.d Z4))=false/\AN (AF f x) (Xo (AF f x) b')=true/\K (BQ.panic (V.d Z4)) (Xo (AF f x) b')) [V.d Z4] an:=λe J an q1 q2 q3 q4=>
  ⟨J,by simp,by rw[q1];exact q2,_,Wk.refl _,J,by simp[BQ.Bg],by rw[q1,q1];exact q2,by rw[q1,q1];exact h0 e _ q3 q4⟩
 have cs:GZ y.AB r=none->Yh f (λb=>∃b',Wk b b'/\∃x,BQ.Bg (AF f x) (BQ.panic (V.d Z4))=false/\AN (AF f x) (Xo (AF f x) b')=true/\K (BQ.panic (V.d Z4)) (Xo (AF f x) b')) [V.d Z4] ((f+1,.box 107 (.ep id m 5 i 0 []))::(f,.box 85 (.ptr 4 []))::ob):=λe=>by
  refine a9 e [f,f+1] _ ?_ ?_ ?_ ?_
  ·grind[Xo,AF,Xl]
  ·grind[BV,AF,AN,V.Bg]
  ·rw[AD,A5 (by omega),AD,A5 (by omega)]
  ·rw[AD,A5 (by omega),AD,A5 (by omega)]
 have bd:∀n,n<=7->(f=n)=False:=λn hn=>eq_false (by omega);rw[fo];simp[Zvg,fo,c4,hi,hl,L,H,a6,bd,av,ab];have o7:AD ((f+1,Ob.box 107 (V.ep id m 5 i 0 []))::(f,Ob.box 85 (V.ptr 4 []))::ob) 7=some (Jm (y.AB.map AM.name)):=by
  rw[AD,A5 (by omega),AD,A5 (by omega),hc.o7]
 refine⟨Zt hP o7 (λn hn=>?a1) (λhn=>?b1),Zt hP o7 (λn hn=>?a2) (λhn=>?b2)⟩
 case b1|b2=>
  simp;grind[GZ]
 case a1|a2=>
  simp[fo,hi,hl,L,H,a6,bd,av,ab,GV,Cb,HM,AG];refine X01 hP (by intro x hx;obtain⟨r,_,rfl⟩:=E2.1 hx;rfl) (by simpa using cd) ?_;have ac:f+2≠id:=by omega
  have b0:¬f+1<=f:=by omega
  have ap:f+3≠id:=by omega
  have aq:f+4≠id:=by omega
  have cc:f+1+3=f+4:=by omega
  simp[fo,hi,hl,L,H,a6,bd,av,ab,ac,ap,aq,cc,b0,GV,Cb,HM,AG,Za];refine⟨⟨_,_,_,⟨rfl,rfl,rfl⟩,by simp⟩,?_⟩;have rR:GZ y.AB r=(Dn (OJ y.AB) [] r.Ad).bind λO=>(EL r.AY (My y.AB O)).bind λws=>(EL r.BC (NN y.AB n O)).map λzs=>{r with Am:=(n:Int),Ad:=O,AY:=ws,BC:=zs}:=by rw[GZ,hn,Dk]
  let R0:V->V->V:=λwv sv=>.agg [.d (.AV r.head),.d (.int .i64 n),.sl (f+2) r.Ad.length,wv,sv];let A:V->V->List V->List (D×V)->AE:=λwv sv fs ms=>(f+4,.box 102 (.mp (f+3)))::(f+3,.map ms)::(f+2,.A0 168 8 fs)::(f+1,.box 107 (.ep id m 5 i 0 []))::(f,.box 85 (.ptr 4 []))::AG ob id (.A0 77 5 (O.set i (R0 wv sv)));have aG:∀wv sv fs ms,AD (A wv sv fs ms) (f+2)=some (.A0 168 8 fs):=λwv sv fs ms=>by simp[A,AD]
  have aS:∀wv sv fs ms be,AG (A wv sv fs ms) (f+2) (.A0 168 8 be)=A wv sv be ms:=λwv sv fs ms be=>by simp[A,AG]
  have aM:∀wv sv fs ms,AD (A wv sv fs ms) (f+3)=some (.map ms):=λwv sv fs ms=>by simp[A,AD]
  have b8:∀wv sv fs ms bk,AG (A wv sv fs ms) (f+3) (.map bk)=A wv sv fs bk:=λwv sv fs ms bk=>by simp[A,AG]
  have aV:∀wv sv fs ms,AD (A wv sv fs ms) (f+4)=some (.box 102 (.mp (f+3))):=λwv sv fs ms=>by simp[A,AD]
  have aU:∀wv sv fs ms,AD (A wv sv fs ms) (f+1)=some (.box 107 (.ep id m 5 i 0 [])):=λwv sv fs ms=>by simp[A,AD]
  have aR:∀wv sv fs ms,AD (A wv sv fs ms) f=some (.box 85 (.ptr 4 [])):=λwv sv fs ms=>by simp[A,AD]
  have aO:∀wv sv fs ms j,j<f->j≠id->AD (A wv sv fs ms) j=AD ob j:=λwv sv fs ms j hj ch=>by
   show AD ((f+4,_)::(f+3,_)::(f+2,_)::(f+1,_)::(f,_)::AG ob id _) j=_;rw[AD,A5 (by omega),AD,A5 (by omega),AD,A5 (by omega),AD,A5 (by omega),AD,A5 (by omega),Xe ob id j ⟨_,hi⟩,A5 ch]
  have aI:∀wv sv fs ms,AD (A wv sv fs ms) id=some (.A0 77 5 (O.set i (R0 wv sv))):=λwv sv fs ms=>by
   show AD ((f+4,_)::(f+3,_)::(f+2,_)::(f+1,_)::(f,_)::AG ob id _) id=_;rw[AD,A5 aq,AD,A5 ap,AD,A5 ac,AD,A5 ab,AD,A5 av,Xe ob id id ⟨_,hi⟩,Bv rfl]
  have bo:∀wv sv fs ms bn bm,AG (A wv sv fs ms) id (.A0 77 5 (O.set i (.agg [.d (.AV r.head),.d (.int .i64 n),.sl (f+2) r.Ad.length,bn,bm])))=A bn bm fs ms:=λwv sv fs ms bn bm=>by
   show AG ((f+4,_)::(f+3,_)::(f+2,_)::(f+1,_)::(f,_)::AG ob id _) id _=_;rw[AG,A5 aq,AG,A5 ap,AG,A5 ac,AG,A5 ab,AG,A5 av,Za]
  have aC:∀wv sv fs ms,RC y (A wv sv fs ms):=λwv sv fs ms=>hc.of λj x hj hx=>by
   grind[Xk,Option.some.inj]
  have aF:∀wv sv fs ms,AA (A wv sv fs ms)=f+5:=λwv sv fs ms=>by simp[A,fo,b0]
  have aN:∀{wv sv:V}{k:Nat}{J:List Nat}{fs:List V} {ms:List (D×V)},f<=k->(∀j,j<=f+4->AF k J j=false)->V.Bg (AF k J) wv=false->V.Bg (AF k J) sv=false->Bu (AF k J) fs=false->Zp (AF k J) ms=false->AN (AF k J) (A wv sv fs ms)=true:=λ{wv sv k J fs ms} hk hy hw hs hu hm=>by
   simp only[A,AN,hu,hm,V.Bg,hy (f+3) (by omega),hy id (by omega),hy 4 (by omega),Kj,Fc];refine Xz (Yb ?_ i (bx _)) (BV bv (by omega));grind[V.Bg,Bu]
  have aD:∀{wv sv:V}{k:Nat}{J:List Nat}{fs:List V} {ms:List (D×V)},f<=k->(∀j,j<=f+4->AF k J j=false)->Xo (AF k J) (A wv sv fs ms)=A wv sv fs ms:=λ{wv sv k J fs ms} hk hy=>by
   have:Xo (AF k J) (AG ob id (.A0 77 5 (O.set i (R0 wv sv))))=AG ob id (.A0 77 5 (O.set i (R0 wv sv))):=Xl (by simp;omega);simp only[A,Xo,hy (f+4) (by omega),hy (f+3) (by omega),hy (f+2) (by omega),hy (f+1) (by omega),hy f (by omega),BY,CR,this]
  have k7:∀j,j<=f+6->AF f [f,f+1,f+2,f+3,f+4,f+5,f+6] j=false:=λj hj=>by simp[AF];omega
  have k5:∀j,j<=f+4->AF f [f,f+1,f+2,f+3,f+4,f+5,f+6] j=false:=λj hj=>k7 j (by omega);have pA:GZ y.AB r=none->∀wv sv fs ms,(∀p,V.Bg p wv=false)->(∀p,V.Bg p sv=false)->(∀p,Bu p fs=false)->(∀p,Zp p ms=false)->Yh f (λb=>∃b',Wk b b'/\∃x,BQ.Bg (AF f x) (BQ.panic (V.d Z4))=false/\AN (AF f x) (Xo (AF f x) b')=true/\K (BQ.panic (V.d Z4)) (Xo (AF f x) b')) [V.d Z4] (A wv sv fs ms):=λe wv sv fs ms g1 g2 g3 g4=>
   a9 e [f,f+1,f+2,f+3,f+4,f+5,f+6] _ (aD (B9 _) k5) (aN (B9 _) k5 (g1 _) (g2 _) (g3 _) (g4 _)) (aO wv sv fs ms 1 (by omega) (by omega)) (aO wv sv fs ms 2 (by omega) (by omega))
  obtain⟨aj,az⟩:∃x,x=V.d (.AH 11 (r.AY.map BH.enc)):=⟨_,rfl⟩
  obtain⟨X,ay⟩:∃x,x=V.d (.AH 7 (r.BC.map Bj.enc)):=⟨_,rfl⟩
  have b5:∀p,V.Bg p aj=false:=λp=>by rw[az];rfl
  have bl:∀p,V.Bg p X=false:=λp=>by rw[ay];rfl
  have ai:aj.shape=.leaf:=by rw[az];rfl
  have aa:X.shape=.leaf:=by rw[ay];rfl
  have ao:Xd P.p 109=true:=by grind[X96]
  have W:∀wv sv,(O.set i (R0 wv sv)).length=m:=λwv sv=>by simpa using hl
  have a7:=λwv sv fs ms=>(aC wv sv fs ms).o7;have a4:=λwv sv fs ms=>(aC wv sv fs ms).o4;show Aw _ _ _ _ (A (V.d (.AH 11 (r.AY.map BH.enc))) (V.d (.AH 7 (r.BC.map Bj.enc))) (r.Ad.map (V.d∘At.enc)) []);rw[<-az,<-ay];refine Aw.go (ι:=List At) (λd=>[(2,.ptr f []),(3,.ptr (f+1) []),(4,.ptr (f+4) []),(5,.fn 109 [] [.ptr (f+4) [],.ptr f [],.ptr (f+1) []]),(36,.d (.int .i64 r.Ad.length)),(37,.d (.int .i64 d.length))])
   (λd=>A aj X ((d++r.Ad.drop d.length).map Fu) (Z6 (d.map At.name) d.length)) (λd=>d.length<=r.Ad.length/\Dn (OJ y.AB) [] r.Ad=Dn (OJ y.AB) d (r.Ad.drop d.length)/\(∀x∈d,∃s:Nat,x.Am=s/\s<y.AB.length)/\d.map At.name=(r.Ad.take d.length).map At.name) (λd=>r.Ad.length-d.length) [] ⟨by simp,rfl,by simp,by simp⟩ (by simp) (by simp[Z6];rfl) ?_
  rintro d ⟨hd,hg,ax,bq⟩ R rn re rr rp;have wl:((d++r.Ad.drop d.length).map Fu).length=r.Ad.length:=by simp;omega
  by_cases F:d.length<r.Ad.length
  ·have wr:IntKind.i64.wrap ((d.length:Int)+1)=(d.length:Int)+1:=w_i _ (by omega);have wk:=Lh Fu F;have ws:=Li Fu F;rw[EV F,Wb]at hg;have bh:r.Ad[d.length].name∉d.map At.name:=by
    rw[bq];have h:=cg;rw[<-QW d.length r.Ad,Mh,Io,EV F]at h;grind
   have bb:(r.Ad.take (d.length+1)).map At.name=d.map At.name++[r.Ad[d.length].name]:=by
    rw[F0 F,Mh,bq];rfl
   generalize hu:r.Ad[d.length]=u at hg wk bh bb;have ue:Fu u=.d (.agg [.AV u.name,.AV u.kind,iD u.Am,.agg [.AV u.Bo.name,.AV u.Bo.path,iD u.Bo.var,iD u.Bo.field,iD u.Bo.n]]):=rfl;simp only[ue]at wk;generalize au:(d++r.Ad.drop d.length).map Fu=c at wl wk ws;simp[yy,F,aU,aR,aI,aG,aS,aV,aM,a4,W,L,H,R0,wl,wk,ai,aa];have G:∀p,Bu p c=false:=λp=>by rw[<-au];exact X7 _ _
   have U:OJ y.AB d u=(DA (y.AB.map AM.name) u.kind).bind λ(n:Nat)=>(Gz y.AB d u.Bo).map λt=>{u with Am:=n,Bo:=t}:=rfl;have N:OJ y.AB d u=none->∀l,(∀p,Bu p l=false)->R (.panic (.d Z4)) [] (A aj X l (Z6 (d.map At.name) d.length)):=λe l ae=>by
    refine rp _ _ _ ?_;simp;exact pA (by rw[rR,hg,e];rfl) _ _ _ _ b5 bl ae (λp=>Z0 _ _ _)
   refine Zt hP (a7 aj X c (Z6 (d.map At.name) d.length)) (λs hs=>?_) (λhx=>N (by rw[U,hx];rfl) _ G);have cr:s<y.AB.length:=by simpa using SC hs
   simp[aG,aS,wl,wk,F,ao];let x:At:={u with Am:=(s:Int) }
   have af:d.length<c.length:=by omega
   have oe:∀w fs,AG (A aj X fs (Z6 (d.map At.name) d.length)) (f+2) (bH c d.length x w)=A aj X (c.set d.length (.d ({x with Bo:=w}:At).enc)) (Z6 (d.map At.name) d.length):=λw fs=>aS _ _ _ _ _;have a3:∀(v:Nat)(z:At),d[v]? = some z->c[v]? = some (.d z.enc):=λv z hz=>by
    have hv:v<d.length:=(HF.1 hz).1;rw[<-au,List.getElem?_map,WU hv,hz];rfl
   refine YM hP (T:=.ep (f+2) r.Ad.length 8 d.length 3 [3]) (lid:=f+2) (tob:=bH c d.length x) (Yzf x af wl) (t:=u.Bo) (vs:=d) (by rw[aG];rfl) ax (aC _ _ _ _) (aV _ _ _ _) (by rw[aM,Jm,Kk]) (aR _ _ _ _) (aU _ _ _ _) (aI _ _ _ _) (W _ _) (by rw[List.getElem?_set_self L]) ⟨rfl,rfl,ai,aa⟩
    (λw=>⟨_,by rw[oe,aG],by simpa using wl,λv z hz=>?_⟩) ⟨by omega,by omega,by omega,by omega,ac⟩ (λw=>by rw[oe];exact aC _ _ _ _) (λp w hp=>Xz (Yb rfl _ (G _)) hp) (λw ht=>?_) (λht w=>?_)
   ·have hv:v<d.length:=(HF.1 hz).1;grind[List.getElem?_set_ne]
   ·have xe:({x with Bo:=w}:At).enc=.agg [.AV u.name,.AV u.kind,iD s,.agg [.AV w.name,.AV w.path,iD w.var,iD w.field,iD w.n]]:=rfl;have hz:OJ y.AB d u=some {x with Bo:=w}:=by rw[U,hs,Dk,ht];rfl
    rw[hz,Dk]at hg;have ci:Zo (.AV u.name) (Z6 (d.map At.name) d.length)=none:=by
     have:=TH (d.map At.name) u.name d.length (by simp);rw[QZ (by simp),Rn.2 bh]at this;exact this
    rw[oe];simp[aG,aS,aV,aM,b8,wl,F,xe,TI];rw[U4 _ _ _ ci];have e1:c.set d.length (V.d (.agg [.AV u.name,.AV u.kind,iD s,.agg [.AV w.name,.AV w.path,iD w.var,iD w.field,iD w.n]]))=((d++[{x with Bo:=w}])++r.Ad.drop (d++[{x with Bo:=w}]).length).map Fu:=ws {x with Bo:=w};have e2:Z6 (d.map At.name) d.length++[(.AV u.name,V.d (.int .i64 d.length))]=Z6 ((d++[{x with Bo:=w}]).map At.name) (d++[{x with Bo:=w}]).length:=by
     have:=Yad bh;simpa using this.symm
    rw[e1,e2];have y5:∀j,j<=f+4->AF (f+5) [] j=false:=λj hj=>by simp[AF];omega
    refine rn [] (d++[{x with Bo:=w}]) _ _ ⟨by simp;omega,by rw[hg,Dd];rfl,?_,?_⟩ (by simp;omega) (by simp[wr]) ?_ ?_ ?_
    ·intro z hz;rcases FM.1 hz with hz|hz
     ·exact ax z hz
     grind[List.mem_singleton]
    ·rw[Mh,Dd,Ml,bb];rfl
    ·rw[aF];exact aD (by omega) y5
    ·rw[aF];simp
    ·rw[aF];exact aN (by omega) y5 (b5 _) (bl _) (X7 _ _) (Z0 _ _ _)
   ·rw[oe];exact N (by rw[U,hs,Dk,ht];rfl) _ (λp=>Yb rfl _ (G _))
  ·have bf:d.length=r.Ad.length:=by omega
   rw[bf,GN,Dn]at hg;simp[yy,F];refine re _ _ _ ?_;have e:d.map Fu++(r.Ad.map Fu).drop d.length=d.map Fu:=by grind[List.drop_of_length_le]
   rw[e];rw[hg,Dk]at rR;simp[aU,aI,W,L,H,R0,ai,aa];refine⟨by rw[az],?_⟩;rw[show[aj]=[V.d (.AH 11 (r.AY.map BH.enc))] by rw[az]];refine X00 hP (xs:=r.AY.map BH.enc) (by intro x hx;obtain⟨r,_,rfl⟩:=E2.1 hx;rfl) (by simpa using cl) ?_;rw[aF];have ag:∀j,j<=f+4->¬f+5=j:=λj hj=>by omega
   have Q:f+5≠id:=by omega
   let Y:List V->AE:=λc=>(f+5,.A0 173 11 c)::A (.sl (f+5) r.AY.length) X (d.map Fu) (Z6 (d.map At.name) d.length);have bG:∀c,AD (Y c) (f+5)=some (.A0 173 11 c):=λc=>by simp[Y,AD]
   have bS:∀c l,AG (Y c) (f+5) (.A0 173 11 l)=Y l:=λc l=>by simp[Y,AG]
   have bL:∀c j,¬f+5=j->AD (Y c) j=AD (A (.sl (f+5) r.AY.length) X (d.map Fu) (Z6 (d.map At.name) d.length)) j:=λc j h=>by
    show AD ((f+5,_)::_) j=_;rw[AD,A5 h]
   have bF:∀c,AD (Y c) (f+2)=some (.A0 168 8 (d.map Fu)):=λc=>by grind
   have bM:∀c,AD (Y c) (f+3)=some (.map (Z6 (d.map At.name) d.length)):=λc=>by grind
   have bV:∀c,AD (Y c) (f+4)=some (.box 102 (.mp (f+3))):=λc=>by grind
   have bU:∀c,AD (Y c) (f+1)=some (.box 107 (.ep id m 5 i 0 [])):=λc=>by grind
   have bR:∀c,AD (Y c) f=some (.box 85 (.ptr 4 [])):=λc=>by rw[bL _ _ (ag _ (by omega)),aR]
   have bI:∀c,AD (Y c) id=some (.A0 77 5 (O.set i (R0 (.sl (f+5) r.AY.length) X))):=λc=>by rw[bL _ _ Q,aI]
   have bC:∀c,RC y (Y c):=λc=>by
    have:=(aC (.sl (f+5) r.AY.length) X (d.map Fu) (Z6 (d.map At.name) d.length)).cons (.A0 173 11 c)
    rwa [aF]at this
   have b4:=λc=>(bC c).o4;have a0:∀c,AA (Y c)=f+6:=λc=>by
    show AA ((f+5,_)::A _ _ _ _)=_;have:¬f+5+1<=f+5:=by omega
    simp[aF]
   have bD:∀{k:Nat}{J:List Nat}{c:List V},f<=k->(∀j,j<=f+5->AF k J j=false)->Xo (AF k J) (Y c)=Y c:=λ{k J c} hk hy=>by
    show Xo _ ((f+5,_)::A _ _ _ _)=_;rw[Xo,hy _ (B9 _),aD hk (λj hj=>hy j (by omega))];rfl
   have bN:∀{k:Nat}{J:List Nat}{c:List V},f<=k->(∀j,j<=f+5->AF k J j=false)->Bu (AF k J) c=false->AN (AF k J) (Y c)=true:=λ{k J c} hk hy hu=>by
    show AN _ ((f+5,_)::A _ _ _ _)=_;have:=aN (wv:=.sl (f+5) r.AY.length) (sv:=X) (fs:=d.map Fu) (ms:=Z6 (d.map At.name) d.length) hk (λj hj=>hy j (by omega)) (by simp[V.Bg,hy (f+5) (B9 _)]) (bl _) (X7 _ _) (Z0 _ _ _);simp only[AN,hu,this,Kj,Fc]
   have k6:∀j,j<=f+5->AF f [f,f+1,f+2,f+3,f+4,f+5,f+6] j=false:=λj hj=>k7 j (by omega);have pB:GZ y.AB r=none->∀c,(∀p,Bu p c=false)->Yh f (λb=>∃b',Wk b b'/\∃x,BQ.Bg (AF f x) (BQ.panic (V.d Z4))=false/\AN (AF f x) (Xo (AF f x) b')=true/\K (BQ.panic (V.d Z4)) (Xo (AF f x) b')) [V.d Z4] (Y c):=λe c g=>
    a9 e [f,f+1,f+2,f+3,f+4,f+5,f+6] _ (bD (B9 _) k6) (bN (B9 _) k6 (g _)) (by rw[bL _ _ (by omega),aO _ _ _ _ 1 (by omega) (by omega)]) (by rw[bL _ _ (by omega),aO _ _ _ _ 2 (by omega) (by omega)])
   have a3:∀(v:Nat)(z:At),d[v]? = some z->(d.map Fu)[v]? = some (.d z.enc):=λv z hz=>by rw[List.getElem?_map,hz];rfl
   have dl:(d.map Fu).length=r.Ad.length:=by simpa using bf
   simp[aU,aI,bo,W,L,H,R0,ai,aa,ag,Q,AD,GV,Cb,HM,AG];refine⟨⟨_,_,_,⟨rfl,rfl,rfl⟩,by simp⟩,?_⟩;show Aw _ _ _ _ (Y (r.AY.map (V.d∘BH.enc)));refine Aw.go (ι:=List BH) (λe=>[(2,.ptr f []),(3,.ptr (f+1) []),(5,.fn 109 [] [.ptr (f+4) [],.ptr f [],.ptr (f+1) []]),(82,.d (.int .i64 r.AY.length)),(83,.d (.int .i64 e.length))])
    (λe=>Y ((e++r.AY.drop e.length).map FR)) (λe=>e.length<=r.AY.length/\EL r.AY (My y.AB d)=Dn (λ_=>My y.AB d) e (r.AY.drop e.length)) (λe=>r.AY.length-e.length) [] ⟨by simp,rfl⟩ (by simp) (by simp;rfl) ?_
   rintro e ⟨he,ak⟩ R rn re rr rp;have wl:((e++r.AY.drop e.length).map FR).length=r.AY.length:=by simp;omega
   by_cases F:e.length<r.AY.length
   ·have wr:IntKind.i64.wrap ((e.length:Int)+1)=(e.length:Int)+1:=w_i _ (by omega);have wk:=Lh FR F;have ws:=Li FR F;rw[EV F,Wb]at ak;generalize hu:r.AY[e.length]=u at ak wk;generalize au:(e++r.AY.drop e.length).map FR=c at wl wk ws;have af:e.length<c.length:=by omega
    have ct:c[e.length]? = some (FR u):=by rw[EW af,wk]
    have b9:∀z:BH,(FR z).shape.size=11:=λ_=>rfl;have cp:∀h:e.length<c.length,c[e.length].shape.size=11:=λh=>by rw[wk];rfl
    have co:c.set e.length (FR u)=c:=by rw[<-wk af];simp
    have G:∀p,Bu p c=false:=λp=>by rw[<-au];exact X7 _ _
    have U:My y.AB d u=(Gz y.AB d u.a).bind λx=>(Gz y.AB d u.b).map λz=>{u with a:=x,b:=z}:=rfl;have N:My y.AB d u=none->∀l,(∀p,Bu p l=false)->R (.panic (.d Z4)) [] (Y l):=λe0 l ae=>by
     refine rp _ _ _ ?_;simp;exact pB (by rw[rR,ak,e0];rfl) _ ae
    have oa:∀w l,AG (Y l) (f+5) (cB c e.length u w)=Y (c.set e.length (FR {u with a:=w})):=λw l=>bS _ _;have ba:∀t1 w l,AG (Y l) (f+5) (cE c e.length {u with a:=t1} w)=Y (c.set e.length (FR {u with a:=t1,b:=w})):=λt1 w l=>bS _ _;simp[yx,F,bU,bR,bI,bG,bS,bV,bM,b4,W,L,H,R0,wl,ai,aa,ao,cp];refine YM hP (T:=.ep (f+5) r.AY.length 11 e.length 1 [1]) (lid:=f+5) (tob:=cB c e.length u) (Zax u af wl) (t:=u.a) (vs:=d) (by rw[bG];exact DH (λz=>some (Ob.A0 _ _ z)) co.symm) ax (bC _) (bV _) (by rw[bM,Jm,Kk]) (bR _) (bU _) (bI _) (W _ _) (by rw[List.getElem?_set_self L]) ⟨rfl,rfl,rfl,aa⟩
     (λw=>⟨_,by rw[oa,bF],dl,a3⟩) ⟨by omega,by omega,by omega,by omega,Q⟩ (λw=>by rw[oa];exact bC _) (λp w hp=>Xz (Yb rfl _ (G _)) hp) (λt1 a5=>?_) (λht w=>?_)
    ·rw[oa];have cu:(c.set e.length (FR {u with a:=t1})).length=r.AY.length:=by simpa using wl
     simp[bU,bR,bI,bG,bS,bV,bM,b4,W,L,H,R0,wl,ai,aa,ao,b9,F];refine YM hP (T:=.ep (f+5) r.AY.length 11 e.length 6 [2]) (lid:=f+5) (tob:=cE c e.length {u with a:=t1}) (Zay {u with a:=t1} af wl) (t:=u.b) (vs:=d) (by rw[bG];rfl) ax (bC _) (bV _) (by rw[bM,Jm,Kk]) (bR _) (bU _) (bI _) (W _ _) (by rw[List.getElem?_set_self L]) ⟨rfl,rfl,rfl,aa⟩
      (λw=>⟨_,by rw[ba,bF],dl,a3⟩) ⟨by omega,by omega,by omega,by omega,Q⟩ (λw=>by rw[ba];exact bC _) (λp w hp=>Xz (Yb rfl _ (G _)) hp) (λt2 ck=>?_) (λht w=>?_)
     ·rw[ba];have hz:My y.AB d u=some {u with a:=t1,b:=t2}:=by rw[U,a5,Dk,ck];rfl
      rw[hz,Dk]at ak;have e1:c.set e.length (FR {u with a:=t1,b:=t2})=((e++[{u with a:=t1,b:=t2}])++r.AY.drop (e++[{u with a:=t1,b:=t2}]).length).map FR:=ws {u with a:=t1,b:=t2};have y6:∀j,j<=f+5->AF (f+6) [] j=false:=λj hj=>by simp[AF];omega
      simp;rw[e1];refine rn [] (e++[{u with a:=t1,b:=t2}]) _ _ ⟨by simp;omega,by rw[ak,Dd];rfl⟩ (by simp;omega) (by simp[wr]) ?_ ?_ ?_
      ·rw[a0];exact bD (by omega) y6
      ·rw[a0];simp
      ·rw[a0];exact bN (by omega) y6 (X7 _ _)
     ·rw[ba];exact N (by rw[U,a5,Dk,ht];rfl) _ (λp=>Yb rfl _ (G _))
    ·rw[oa];exact N (by rw[U,ht];rfl) _ (λp=>Yb rfl _ (G _))
   ·have bg:e.length=r.AY.length:=by omega
    rw[bg,GN,Dn]at ak;simp[yx,F];refine re _ _ _ ?_;have e0:e.map FR++(r.AY.map FR).drop e.length=e.map FR:=by rw[Im (by simp[bg]),HH]
    rw[e0];rw[show EL r.AY (My y.AB d)=some e from ak,Dk]at rR;simp[bU,bI,W,L,H,R0,ai,aa];refine⟨by rw[ay],?_⟩;rw[show[X]=[V.d (.AH 7 (r.BC.map Bj.enc))] by rw[ay]];refine X67 hP (xs:=r.BC.map Bj.enc) (by intro x hx;obtain⟨r,_,rfl⟩:=E2.1 hx;rfl) (by simpa using cj) ?_;rw[a0];have el:e.map FR=e.map λx=>V.d x.enc:=rfl;have aw:∀j,j<=f+5->¬f+6=j:=λj hj=>by omega
    have ah:f+6≠id:=by omega
    let A3:AE:=A (.sl (f+5) r.AY.length) (.sl (f+6) r.BC.length) (d.map Fu) (Z6 (d.map At.name) d.length);let Z:List V->AE:=λc=>(f+6,.A0 177 7 c)::(f+5,.A0 173 11 (e.map FR))::A3;have ca:AG (Y (e.map FR)) id (.A0 77 5 (O.set i (.agg [.d (.AV r.head),.d (.int .i64 n),.sl (f+2) r.Ad.length,.sl (f+5) r.AY.length,.sl (f+6) r.BC.length])))=(f+5,.A0 173 11 (e.map FR))::A3:=by
     show AG ((f+5,_)::A _ _ _ _) id _=_;rw[AG,A5 Q,bo]
    have cG:∀c,AD (Z c) (f+6)=some (.A0 177 7 c):=λc=>by simp[Z,AD]
    have cS:∀c l,AG (Z c) (f+6) (.A0 177 7 l)=Z l:=λc l=>by simp[Z,AG]
    have cW:∀c,AD (Z c) (f+5)=some (.A0 173 11 (e.map FR)):=λc=>by simp[Z,AD]
    have cL:∀c j,¬f+5=j->¬f+6=j->AD (Z c) j=AD A3 j:=λc j h h6=>by
     show AD ((f+6,_)::(f+5,_)::A3) j=_;rw[AD,A5 h6,AD,A5 h]
    have cF:∀c,AD (Z c) (f+2)=some (.A0 168 8 (d.map Fu)):=λc=>by rw[cL _ _ (ag _ (by omega)) (aw _ (by omega)),aG]
    have cM:∀c,AD (Z c) (f+3)=some (.map (Z6 (d.map At.name) d.length)):=λc=>by rw[cL _ _ (ag _ (by omega)) (aw _ (by omega)),aM]
    have cV:∀c,AD (Z c) (f+4)=some (.box 102 (.mp (f+3))):=λc=>by rw[cL _ _ (ag _ (by omega)) (aw _ (by omega)),aV]
    have cU:∀c,AD (Z c) (f+1)=some (.box 107 (.ep id m 5 i 0 [])):=λc=>by rw[cL _ _ (ag _ (by omega)) (aw _ (by omega)),aU]
    have cR:∀c,AD (Z c) f=some (.box 85 (.ptr 4 [])):=λc=>by rw[cL _ _ (ag _ (by omega)) (aw _ (by omega)),aR]
    have cI:∀c,AD (Z c) id=some (.A0 77 5 (O.set i (R0 (.sl (f+5) r.AY.length) (.sl (f+6) r.BC.length)))):=λc=>by rw[cL _ _ Q ah,aI]
    have cC:∀c,RC y (Z c):=λc=>by
     have:=((aC (.sl (f+5) r.AY.length) (.sl (f+6) r.BC.length) (d.map Fu) (Z6 (d.map At.name) d.length)).cons (.A0 173 11 (e.map FR))).cons (.A0 177 7 c);have e6:AA ((f+5,Ob.A0 173 11 (e.map FR))::A3)=f+6:=by
      have:¬f+5+1<=f+5:=by omega
      simp[A3,aF]
     rw[aF]at this;show RC y ((f+6,_)::(f+5,_)::A3);rw[e6]at this;exact this
    have c4:=λc=>(cC c).o4;have bu:n<y.AB.length:=by simpa using SC hn
    have bt:y.AB.length≠0:=by omega
    have cb:=λc=>(cC c).Sl bt;have cm:=λc=>(cC c).om n bu;have bc:∀c,AA (Z c)=f+7:=λc=>by
     show AA ((f+6,_)::(f+5,_)::A3)=_;simp[A3,aF]
    have cD:∀{k:Nat}{J:List Nat}{c:List V},f<=k->(∀j,j<=f+6->AF k J j=false)->Xo (AF k J) (Z c)=Z c:=λ{k J c} hk hy=>by
     show Xo _ ((f+6,_)::(f+5,_)::A3)=_;rw[Xo,hy _ (B9 _),Xo,hy _ (by omega),aD hk (λj hj=>hy j (by omega))];rfl
    have cN:∀{k:Nat}{J:List Nat}{c:List V},f<=k->(∀j,j<=f+6->AF k J j=false)->Bu (AF k J) c=false->AN (AF k J) (Z c)=true:=λ{k J c} hk hy hu=>by
     show AN _ ((f+6,_)::(f+5,_)::A3)=_;have:=aN (wv:=.sl (f+5) r.AY.length) (sv:=.sl (f+6) r.BC.length) (fs:=d.map Fu) (ms:=Z6 (d.map At.name) d.length) hk (λj hj=>hy j (by omega)) (by simp[V.Bg,hy (f+5) (by omega)]) (by simp[V.Bg,hy (f+6) (by omega)]) (X7 _ _) (Z0 _ _ _);have h2:Bu (AF k J) (e.map FR)=false:=X7 _ _;simp only[AN,hu,h2,this,A3,Kj,Fc]
    have pC:GZ y.AB r=none->∀c,(∀p,Bu p c=false)->Yh f (λb=>∃b',Wk b b'/\∃x,BQ.Bg (AF f x) (BQ.panic (V.d Z4))=false/\AN (AF f x) (Xo (AF f x) b')=true/\K (BQ.panic (V.d Z4)) (Xo (AF f x) b')) [V.d Z4] (Z c):=λe c g=>
     a9 e [f,f+1,f+2,f+3,f+4,f+5,f+6] _ (cD (B9 _) k7) (cN (B9 _) k7 (g _)) (by rw[cL _ _ (by omega) (by omega),aO _ _ _ _ 1 (by omega) (by omega)]) (by rw[cL _ _ (by omega) (by omega),aO _ _ _ _ 2 (by omega) (by omega)])
    have b7:AD A3 (f+1)=some (.box 107 (.ep id m 5 i 0 [])):=aU _ _ _ _;have b6:AD A3 id=some (.A0 77 5 (O.set i (R0 (.sl (f+5) r.AY.length) (.sl (f+6) r.BC.length)))):=aI _ _ _ _;simp[bU,bI,ca,b7,b6,W,L,H,R0,ai,aa,aw,ah,ag,Q,AD,GV,Cb,HM,AG];refine⟨⟨_,_,_,⟨rfl,rfl,rfl⟩,by simp⟩,?_⟩;show Aw _ _ _ _ (Z (r.BC.map (V.d∘Bj.enc)));refine Aw.go (ι:=List Bj) (λq=>[(2,.ptr f []),(3,.ptr (f+1) []),(5,.fn 109 [] [.ptr (f+4) [],.ptr f [],.ptr (f+1) []]),(117,.d (.int .i64 r.BC.length)),(118,.d (.int .i64 q.length))])
     (λq=>Z ((q++r.BC.drop q.length).map JM)) (λq=>q.length<=r.BC.length/\EL r.BC (NN y.AB n d)=Dn (λ_=>NN y.AB n d) q (r.BC.drop q.length)) (λq=>r.BC.length-q.length) [] ⟨by simp,rfl⟩ (by simp) (by simp;rfl) ?_
    rintro q ⟨hq,al⟩ R rn re rr rp;have wl:((q++r.BC.drop q.length).map JM).length=r.BC.length:=by simp;omega
    by_cases F:q.length<r.BC.length
    ·have wr:IntKind.i64.wrap ((q.length:Int)+1)=(q.length:Int)+1:=w_i _ (by omega);have wk:=Lh JM F;have ws:=Li JM F;rw[EV F,Wb]at al;generalize hu:r.BC[q.length]=u at al wk;have ue:JM u=.d (.agg [.AV u.path,iD u.field,.agg [.AV u.BZ.name,.AV u.BZ.path,iD u.BZ.var,iD u.BZ.field,iD u.BZ.n]]):=rfl;simp only[ue]at wk;generalize au:(q++r.BC.drop q.length).map JM=c at wl wk ws;have af:q.length<c.length:=by omega
     have G:∀p,Bu p c=false:=λp=>by rw[<-au];exact X7 _ _
     have cf:Y2 y.AB n=Es y.AB n:=by
      unfold Y2 Es;simp;cases y.AB[n]?<;>rfl
     have U:NN y.AB n d u=(DA (Es y.AB n) u.path).bind λ(k:Nat)=>(Gz y.AB d u.BZ).map λt=>{u with field:=k,BZ:=t}:=by rw[<-cf];rfl
     have N:NN y.AB n d u=none->∀l,(∀p,Bu p l=false)->R (.panic (.d Z4)) [] (Z l):=λe0 l ae=>by
      refine rp _ _ _ ?_;simp;exact pC (by rw[rR,al,e0];rfl) _ ae
     simp[yw,F,cU,cR,cI,cG,cS,cV,cM,c4,cb,IW,bt,bu,Vm,U0,W,L,H,R0,wl,wk];refine⟨⟨Zt hP (cm c) (λk hk=>?c1) (λhx=>N (by rw[U,hx];rfl) _ G),Zt hP (cm c) (λk hk=>?c2) (λhx=>N (by rw[U,hx];rfl) _ G)⟩,Zt hP (cm c) (λk hk=>?c3) (λhx=>N (by rw[U,hx];rfl) _ G)⟩
     case c1|c2|c3=>
      simp[cU,cI,cG,cS,wl,wk,F,ao,W,L,H,R0,GV,Cb,HM];have oe:∀w l,AG (Z l) (f+6) (cH c q.length {u with field:=(k:Int) } w)=Z (c.set q.length (JM {u with field:=(k:Int),BZ:=w})):=λw l=>cS _ _;refine YM hP (T:=.ep (f+6) r.BC.length 7 q.length 2 [2]) (lid:=f+6) (tob:=cH c q.length {u with field:=(k:Int) }) (Zaz {u with field:=(k:Int) } af wl) (t:=u.BZ) (vs:=d) (by rw[cG];rfl) ax (cC _) (cV _) (by rw[cM,Jm,Kk]) (cR _) (cU _) (cI _) (W _ _) (by rw[List.getElem?_set_self L]) ⟨rfl,rfl,rfl,rfl⟩
       (λw=>⟨_,by rw[oe,cF],dl,a3⟩) ⟨by omega,by omega,by omega,by omega,ah⟩ (λw=>by rw[oe];exact cC _) (λp w hp=>Xz (Yb rfl _ (G _)) hp) (λt1 a5=>?_) (λht w=>?_)
      ·rw[oe];have hz:NN y.AB n d u=some {u with field:=(k:Int),BZ:=t1}:=by rw[U,hk,Dk,a5];rfl
       rw[hz,Dk]at al;have e1:c.set q.length (JM {u with field:=(k:Int),BZ:=t1})=((q++[{u with field:=(k:Int),BZ:=t1}])++r.BC.drop (q++[{u with field:=(k:Int),BZ:=t1}]).length).map JM:=ws {u with field:=(k:Int),BZ:=t1};have y7:∀j,j<=f+6->AF (f+7) [] j=false:=λj hj=>by simp[AF];omega
       simp;rw[e1];refine rn [] (q++[{u with field:=(k:Int),BZ:=t1}]) _ _ ⟨by simp;omega,by rw[al,Dd];rfl⟩ (by simp;omega) (by simp[wr]) ?_ ?_ ?_
       ·rw[bc];exact cD (by omega) y7
       ·rw[bc];simp
       ·rw[bc];exact cN (by omega) y7 (X7 _ _)
      ·rw[oe];exact N (by rw[U,hk,Dk,ht];rfl) _ (λp=>Yb rfl _ (G _))
    ·have bi:q.length=r.BC.length:=by omega
     rw[bi,GN,Dn]at al;simp[yw,F];refine re _ _ _ ?_;simp;have e0:q.map JM++(r.BC.map JM).drop q.length=q.map JM:=by rw[Im (by simp[bi]),HH]
     rw[e0];rw[show EL r.BC (NN y.AB n d)=some q from al]at rR;have hq:GZ y.AB r=some {r with Am:=(n:Int),Ad:=d,AY:=e,BC:=q}:=by rw[rR];rfl
     obtain⟨o1,ad⟩:∃o1,o1=Z (q.map JM):=⟨_,rfl⟩
     have l1:AD o1 (f+2)=some (.A0 168 8 (d.map λx=>V.d x.enc)):=by rw[ad];exact cF _
     have l2:AD o1 (f+5)=some (.A0 173 11 (e.map λx=>V.d x.enc)):=by rw[ad];exact cW _
     have l3:AD o1 (f+6)=some (.A0 177 7 (q.map λx=>V.d x.enc)):=by rw[ad];exact cG _
     have li:AD o1 id=some (.A0 77 5 (O.set i (R0 (.sl (f+5) r.AY.length) (.sl (f+6) r.BC.length)))):=by rw[ad,cI]
     have bj:AD (AG o1 (f+2) .Ar) (f+5)=some (.A0 173 11 (e.map λx=>V.d x.enc)):=by
      rw[Xe o1 (f+2) (f+5) ⟨_,l1⟩,A5 (by omega),l2]
     have bz:AD (AG (AG o1 (f+2) .Ar) (f+5) .Ar) (f+6)=some (.A0 177 7 (q.map λx=>V.d x.enc)):=by
      rw[Xe _ (f+5) (f+6) ⟨_,bj⟩,A5 (by omega),Xe o1 (f+2) (f+6) ⟨_,l1⟩,A5 (by omega),l3]
     have cn:AD (AG (AG (AG o1 (f+2) .Ar) (f+5) .Ar) (f+6) .Ar) id=some (.A0 77 5 (O.set i (R0 (.sl (f+5) r.AY.length) (.sl (f+6) r.BC.length)))):=by
      rw[Xe _ (f+6) id ⟨_,bz⟩,A5 (λh=>ah h.symm),Xe _ (f+5) id ⟨_,bj⟩,A5 (λh=>Q h.symm),Xe o1 (f+2) id ⟨_,l1⟩,A5 (λh=>ac h.symm),li]
     have g:Dc 3 o1 (R0 (.sl (f+5) r.AY.length) (.sl (f+6) r.BC.length))=some (.agg [.AV r.head,.int .i64 n,.AH 8 (d.map At.enc),.AH 11 (e.map BH.enc),.AH 7 (q.map Bj.enc)],AG (AG (AG o1 (f+2) .Ar) (f+5) .Ar) (f+6) .Ar):=by
      have hd:∀(x:D)(o:AE),Dc 2 o (.d x)=some (x,o):=λx o=>rfl;show Fm (FX (Dc 2) o1 _)=_;simp only[FX,hd,I2 (k:=0) (n:=r.Ad.length) At.enc l1 (by decide) bf.symm,I2 (k:=0) (n:=r.AY.length) BH.enc bj (by decide) bg.symm,I2 (k:=0) (n:=r.BC.length) Bj.enc bz (by decide) bi.symm,Jb,Fm]
     have b3:=QR li (i:=i) (by rw[List.getElem?_set_self L]) g cn rfl;rw[<-ad];have dA:¬f+2=f+5:=by omega
     have sg:AG (AG (AG o1 (f+2) .Ar) (f+5) .Ar) (f+6) .Ar=(f+6,.Ar)::(f+5,.Ar)::(f+4,.box 102 (.mp (f+3)))::(f+3,.map (Z6 (d.map At.name) d.length))::(f+2,.Ar)::(f+1,.box 107 (.ep id m 5 i 0 []))::(f,.box 85 (.ptr 4 []))::AG ob id (.A0 77 5 (O.set i (R0 (.sl (f+5) r.AY.length) (.sl (f+6) r.BC.length)))):=by
      rw[ad];show AG (AG (AG ((f+6,_)::(f+5,_)::(f+4,_)::(f+3,_)::(f+2,_)::(f+1,_)::(f,_)::AG ob id _) _ _) _ _) _ _=_;simp[AG]
     have bp:AG (AG (AG (AG o1 (f+2) .Ar) (f+5) .Ar) (f+6) .Ar) id (.A0 77 5 ((O.set i (R0 (.sl (f+5) r.AY.length) (.sl (f+6) r.BC.length))).set i (.d (.agg [.AV r.head,.int .i64 n,.AH 8 (d.map At.enc),.AH 11 (e.map BH.enc),.AH 7 (q.map Bj.enc)]))))=(f+6,.Ar)::(f+5,.Ar)::(f+4,.box 102 (.mp (f+3)))::(f+3,.map (Z6 (d.map At.name) d.length))::(f+2,.Ar)::(f+1,.box 107 (.ep id m 5 i 0 []))::(f,.box 85 (.ptr 4 []))::AG ob id (.A0 77 5 (O.set i (.d ({r with Am:=(n:Int),Ad:=d,AY:=e,BC:=q}:Ap).enc))):=by
      rw[sg,AG,A5 ah,AG,A5 Q,AG,A5 aq,AG,A5 ap,AG,A5 ac,AG,A5 ab,AG,A5 av,Za,Mj];rfl
     rw[bp]at b3;have dk:Xo (AF f [f,f+1,f+2,f+3,f+4,f+5,f+6]) o1=o1:=by rw[ad];exact cD (B9 _) k7
     have d0:Xo (AF f []) ((f+6,.Ar)::(f+5,.Ar)::(f+4,.box 102 (.mp (f+3)))::(f+3,.map (Z6 (d.map At.name) d.length))::(f+2,.Ar)::(f+1,.box 107 (.ep id m 5 i 0 []))::(f,.box 85 (.ptr 4 []))::AG ob id (.A0 77 5 (O.set i (.d ({r with Am:=(n:Int),Ad:=d,AY:=e,BC:=q}:Ap).enc))))=AG ob id (.A0 77 5 (O.set i (.d ({r with Am:=(n:Int),Ad:=d,AY:=e,BC:=q}:Ap).enc))):=by
      have y0:∀j,f<=j->AF f [] j=true:=λj hj=>by simp[AF];omega
      simp;exact Xl (by simp;omega)
     refine⟨[f,f+1,f+2,f+3,f+4,f+5,f+6],by simp,by rw[dk,ad];exact cN (B9 _) k7 (X7 _ _),_,by rw[dk];exact b3,[],by simp[BQ.Bg],?_,?_⟩
     ·rw[d0];exact Xz (Yb rfl _ (bx _)) (by simpa[fo]using bv [])
     ·rw[d0];exact h1 _ hq
omit hP
def M9:List Edge->Nat
|[]=>0
|e::r=>cond (Region.binds .any e) (Nat.lor (M9 r) (Nat.shiftLeft 1 e.on)) (M9 r)
def Tw(a:Array Oper):List Nat:=a.toList.map λo=>M9 o.after.toList
def J6(m:Nat):List Nat->Nat->List Nat
|[],_=>[]
|d::r,i=>cond (Nat.beq (Nat.land (Nat.shiftRight m i) 1) 0&&Nat.beq (Nat.land d m) d) (i::J6 m r (i+1)) (J6 m r (i+1))
def OA(a:Array Oper)(b:Oper)(i:Nat):List Oper->Nat->Nat
|[],_=>0
|c::r,j=>cond (j==i||(c.after.any (λe=>Region.binds .any e&&e.on==i)||b.apart a c)) (OA a b i r (j+1)) (Nat.lor (OA a b i r (j+1)) (Nat.shiftLeft 1 j))
def RY(a:Array Oper):List Oper->Nat->List Nat
|[],_=>[]
|o::r,i=>OA a o i a.toList 0::RY a r (i+1)
def Tq(a:Array Oper):List Nat:=RY a a.toList 0
def UL(a:List Nat)(m i:Nat):Bool:=match a[i]? with
|some c=>Nat.beq (Nat.land c m) c
|none=>false
def H2{a:Type}(n:Nat)(k:Nat->a):a:=match n with
|0=>k 0
|m+1=>k (m+1)
def Xrq{a:Type}(n:Nat)(k:Nat->a):H2 n k=k n:=by cases n<;>rfl
mutual
def Mo(P:Program)(N:Nat)(a:Array Oper)(d:Nat->Nat)(b c:List Nat):Nat->Nat->Ot->Bool
|0,m,.done=>(J6 m b 0).isEmpty
|n+1,m,.Ba i x r=>(J6 m b 0).contains i&&(match a[i]? with|some o=>x.An P N a o|none=>false)&&x.kind==d i&&
 (match x.kind with
 |0=>UL c m i
 |5=>UL c m i
 |1=>UL c m i&&(List.range a.size).all (λj=>d j != 3||j==i||T3 a i j)
 |_=>(J6 m b 0)==[i])&&
 H2 (Nat.lor m (Nat.shiftLeft 1 i)) (λm=>Mo P N a d b c n m r)
|n+1,m,.br l=>!(J6 m b 0).isEmpty&&(J6 m b 0).all (λj=>l.has j)&&ZT P N a d b c n m l
|_,_,_=>false
def ZT(P:Program)(N:Nat)(a:Array Oper)(b:Nat->Nat)(c d:List Nat):Nat->Nat->Gv->Bool
|_,_,.nil=>true
|n,m,.cons i x r l=>(J6 m c 0).contains i&&(match a[i]? with|some o=>x.An P N a o|none=>false)&&x.kind==b i&&H2 (Nat.lor m (Nat.shiftLeft 1 i)) (λm=>Mo P N a b c d n m r)&&ZT P N a b c d n m l
end
structure Hf(ops:Array Oper)(m:Nat)(listed:Array Bool):Prop where
 size:listed.size=ops.size
 Sc:∀j,listed.getD j false=m.testBit j
def xR(a m:Nat):Nat.beq (Nat.land a m) a=true↔∀k,a.testBit k=true->m.testBit k=true:=by
 rw[Nat.beq_eq];show a &&&m=a↔_;constructor
 ·grind
 ·intro h;apply Nat.eq_of_testBit_eq;simp_all
theorem Yub(m i:Nat):Nat.beq (Nat.land (Nat.shiftRight m i) 1) 0=!m.testBit i:=by
 rw[E3,Nat.beq_eq];rw[Nat.testBit,Nat.and_comm];simp
theorem jR(m i k:Nat):(Nat.lor m (Nat.shiftLeft 1 i)).testBit k=(m.testBit k||decide (k=i)):=by
 show(m |||1 <<< i).testBit k=_;grind[Nat.one_shiftLeft]
def fY:∀(l:List Edge)(k:Nat),(M9 l).testBit k=true↔∃e∈l,Region.binds .any e=true/\e.on=k
|[],k=>by simp[M9]
|e::r,k=>by
 have a:=fY r k;grind[M9,Region.binds,jR]
def Xdz(m:Nat)(p:Nat->Bool):∀(l:List Oper)(i:Nat),(∀k (a:k<l.length),p (i+k)=(!m.testBit (i+k)&&Nat.beq (Nat.land (M9 l[k].after.toList) m) (M9 l[k].after.toList)))->J6 m (l.map λo=>M9 o.after.toList) i=(List.range' i l.length).filter p
|[],i,_=>by simp[J6]
|o::r,i,h=>by
 have b:=h 0 (by simp);have c:=Xdz m p r (i+1) λk a=>by
  have:=h (k+1) (by simpa using a);grind
 simp only[Nat.add_zero,List.getElem_cons_zero]at b;grind[J6,Yub,List.length_cons,List.range'_succ]
theorem ZI{b:Array Oper}{m:Nat}{a:Array Bool}(h:Hf b m a):J6 m (Tw b) 0=Region.ready .any b a:=by
 unfold Region.ready Tw;rw[List.range_eq_range',<-Array.length_toList];refine Xdz m _ _ _ λk f=>?_;have c:k<b.size:=by simpa using f
 have i:k<a.size:=by rw[h.size];exact c
 have j:a.getD k true=m.testBit k:=by
  rw[<-h.Sc k];simp[i]
 rw[RA,j,Array.getElem?_eq_getElem c];congr 1;simp only[Mm,Option.getD_some];rw[E3,xR,Array.getElem_toList];rw[<-Array.all_toList,Fl];constructor
 ·intro g k f;obtain⟨e,l,d,rfl⟩:=(fY _ _).1 f;have:=g e l;rw[d,h.Sc]at this;simpa using this
 ·intro g x n;cases d:Region.binds .any x with
  |false=>rfl
  |true=>
   rw[h.Sc,g x.on ((fY _ _).2 ⟨x,n,d,rfl⟩)];rfl
def Ygp{b:Array Oper}{m i:Nat}{a:Array Bool}(h:Hf b m a)(c:i<b.size):Hf b (Nat.lor m (Nat.shiftLeft 1 i)) (a.setIfInBounds i true):=by
 refine⟨by simpa using h.size,λj=>?_⟩;rw[jR,<-h.Sc j];have d:i<a.size:=by rw[h.size];exact c
 by_cases e:j=i
 ·simp_all
 ·have f:¬i=j:=λh=>e h.symm;simp_all
def xy{b:Array Oper}{a:Array Bool}{i:Nat}(h:i∈Region.ready .any b a):i<b.size:=by
 simp_all[Region.ready]
theorem fM(a:Array Oper)(c:Oper)(i k:Nat):∀(l:List Oper)(b:Nat),(OA a c i l b).testBit k=true↔∃t o,l[t]? = some o/\k=b+t/\(k==i||(o.after.any (λe=>Region.binds .any e&&e.on==i)||c.apart a o))=false
|[],b=>by simp[OA]
|d::r,b=>by
 have n:=fM a c i k r (b+1);have m:(∃t o,(d::r)[t]? = some o/\k=b+t/\(k==i||(o.after.any (λe=>Region.binds .any e&&e.on==i)||c.apart a o))=false)↔(k=b/\(b==i||(d.after.any (λe=>Region.binds .any e&&e.on==i)||c.apart a d))=false)\/(OA a c i r (b+1)).testBit k=true:=by
  rw[n];constructor
  ·rintro⟨t,o,f,j,g⟩;cases t<;>grind
  ·rintro (⟨rfl,h⟩|⟨t,o,f,j,g⟩)
   ·grind
   ·exact⟨t+1,o,by simpa using f,by omega,g⟩
 rw[m,OA];cases p:(b==i||(d.after.any (λe=>Region.binds .any e&&e.on==i)||c.apart a d)) with
 |true=>simp
 |false=>rw[cond_false,jR,Bool.or_eq_true,D2,or_comm];simp
def Xq6(a:Array Oper):∀(l:List Oper)(b k:Nat),(RY a l b)[k]? = (l[k]?).map λo=>OA a o (b+k) a.toList 0
|[],b,k=>by simp[RY]
|o::r,b,k=>by
 cases k with
 |zero=>simp[RY]
 |succ k=>
  have:=Xq6 a r (b+1) k;grind[RY]
def Yvq{b:Array Oper}{m:Nat}{a:Array Bool}(h:Hf b m a)(i:Nat):UL (Tq b) m i=Region.free .any b a i:=by
 unfold UL Region.free Tq;rw[Xq6,Array.getElem?_toList,RA];cases w:b[i]? with
 |none=>rfl
 |some s=>
  simp only[Mm];rw[E3,xR,Fl];constructor
  ·intro g j q;have d:j<b.size:=by simpa using q
   have c:j<a.size:=by rw[h.size];exact d
   have p:a.getD j true=m.testBit j:=by
    rw[<-h.Sc j];simp[c]
   grind[Region.binds,fM]
  ·intro g k r;obtain⟨t,o,n,u,v⟩:=(fM b s i k _ 0).1 r;have e:t=k:=by omega
   rw[Array.getElem?_toList]at n;have l:t<b.size:=(Array.getElem?_eq_some_iff.1 n).1;have f:t<a.size:=by rw[h.size];exact l
   have p:a.getD t true=m.testBit t:=by
    rw[<-h.Sc t];simp[f]
   grind
section
variable {P:Program} {N:Nat} {ops:Array Oper} {kd:Nat->Nat}
mutual
theorem fK:∀(t:Ot)(n m:Nat)(a:Array Bool),Hf ops m a->Mo P N ops kd (Tw ops) (Tq ops) n m t=true->V6 P N ops kd n a t=true
|.done,n,m,a,b,h=>by
 grind[Mo,V6,ZI]
|.Ba i x r,n,m,a,b,h=>by
 cases n with
 |zero=>simp[Mo]at h
 |succ n=>
  simp only[Mo,V6,ZI b,Yvq b,Xrq,BX]at h⊢;exact⟨h.1,fK r n _ _ (Ygp b (xy (List.contains_iff_mem.1 h.1.1.1.1))) h.2⟩
|.br l,n,m,a,b,h=>by
 cases n with
 |zero=>simp[Mo]at h
 |succ n=>
  simp only[Mo,V6,ZI b,BX]at h⊢;exact⟨h.1,Xk3 l n _ _ b h.2⟩
theorem Xk3:∀(l:Gv)(n m:Nat)(a:Array Bool),Hf ops m a->ZT P N ops kd (Tw ops) (Tq ops) n m l=true->PC P N ops kd n a l=true
|.nil,n,m,a,_,_=>by simp only[PC]
|.cons i x r l,n,m,a,b,h=>by
 simp only[ZT,PC,ZI b,Xrq,BX]at h⊢;exact⟨⟨h.1.1,fK r n _ _ (Ygp b (xy (List.contains_iff_mem.1 h.1.1.1.1))) h.1.2⟩,Xk3 l n _ _ b h.2⟩
end
end
theorem Ymu(a:Array Oper):Hf a 0 (Array.replicate a.size false):=by
 refine⟨by simp,λj=>?_⟩;simp[Array.getD]
def ID(P:Program)(N:Nat):Code->S->Bool
|.region _ e f,.Gs n t _ g=>aB e&&f&&decide (n<=e.size)&&Region.noSelect e&&TR g e&&Mo P N e (nt t.kinds) (Tw e) (Tq e) n 0 t
|.seq a b,.seq x y=>ID P N a x&&ID P N b y
|.cond c a b,.cond d x y=>A.An c d&&ID P N a x&&ID P N b y
|.block n a,.block m x=>n==m&&ID P N a x
|.loop a,.loop _ x=>ID P N a x
|c,s=>S.An P N c s
theorem Rdh{P:Program}{N:Nat}:∀(c:Code)(s:S),ID P N c s=true->S.An P N c s=true:=λc s=>by
 induction s generalizing c with
 |Gs n t f g=>
  cases c<;>intro h<;>simp only[ID,S.An,BX]at h⊢<;>try exact h
  grind[fK,Ymu]
 |seq x y a b=>
  cases c<;>intro h<;>simp only[ID,S.An,BX]at h⊢<;>try exact h
  simp_all
 |cond d x y a b=>
  cases c<;>intro h<;>simp only[ID,S.An,BX]at h⊢<;>try exact h
  simp_all
 |block m x e=>
  cases c<;>intro h<;>simp only[ID,S.An,BX]at h⊢<;>try exact h
  simp_all
 |loop f x e=>
  cases c<;>intro h<;>simp only[ID,S.An]at h⊢<;>try exact h
  exact e _ h
 |_=>simp_all[ID]
def Y19(P:Program)(f n:Nat)(s:S)(c:List RV):Bool:=match P.funcs[f]? with
|some b=>match b.body with
 |some a=>decide (n<=b.ntmps)&&ID P b.ntmps a s&&Kr P b.results.toList c&&s.Fw
 |none=>false
|none=>false
def Y2a{P:Program}{f n:Nat}{s:S}{a:List RV}(h:Y19 P f n s a=true):Xp P f n s a=true:=by
 grind[Y19,Xp,Lr,Rdh]
def Ypx:Nat:=0x1000b1264102c07302b3ef2c0
def pZ:Nat:=0x10de49489e0af124133154448929bf02f675450c929c0e2f6263670bef263793778929bf02f677882a6247784a42f634364782a793bf094b78679375450c929c0e2f677882a6247784a42f634364782a793c0e94b768793263670bef26304e19167094b78604ebef94b76804e2630611846a51d8af800f07109100b0600be1402f000406d00606c00919d06d00206c08a3297e4a5d0ba01c060a9b01b0010120dd2640110ba01605401207e1ca00e0dd0131550ba01219dab724f39b0991360080ba00d0608661310030bd0080650ba3ce00307e09c13208d04dab600304b0601fe03501e04302619d4942581520e1adb00604ca6512c0d08650a68844946f502d49202b1880c208302c4941789cf00d02d082
def pc:Nat:=0x1055b120a5b12093029004c2b0d002608a2231127c50560240d035102200103880a0210460200d001f85301f4e3
def uH:Nat:=0x105511292d7ec3f994191432f1ea0196ba7ec01312132fa9194187dc237ec3f99412f0c232bb3f974a06594187d4a01ea0196ba7ec01312132fa91c232bb3f974a0654a000e04e4ac47900a061b1901f0090b50433a808a01609924f79f01005482c48701208c0c801100513121837d1550420b91773ce00d01e09c00908c04d19300304b0540590b0043182
def Zon:S:=zS [(zS [(zS [(zS [] Ypx)] pZ)] pc)] uH
def Z00:Xp prog 39 2 Zon []=true:=Y2a (by kernel_rfl)
def Yov:Nat:=0x12ba32174bb1b0231e857791f32174ba8502506702800d78002719e00617c026091555087026bcf3211a0b5402429201e5770e27ac023b8c02347c0f71628e90220eb0241fb
def Yv3:S:=zS [] Yov
def Yow:Nat:=0x12ba9eb0f70610944eb1e855091f9eb74b01c6ed06702700d0af0b64aa0660194a8069087019bcf295391008b54a3e0f1550bbc016b8c0160389eb0f706113c0410150eb0171fb
def Yv4:S:=zS [] Yow
def Yox:Nat:=0x12ba87074b0114c91e8be091f87074b00f1b506702600dc4e006aa34a8abb00cbcf8706c6b5400a0a8527041753009b8c0090388700f71620070a80eb00a1fb
def Yv5:S:=zS [] Yox
def Yoy:Nat:=0x12ba02c6c30610b304102d0730c291f02c6c30610bf04115212c0030250c82df04113206512f13704300006c1221340060340240e898501f09c07e0f308d0ef004035139a132db00403001e8630083a00090ad6a100d1f402c02b0bb1621160b00c20e29926d63a02ba1076c316202b0c200d02e082
def Yv6:S:=zS [] Yoy
def Zn0:E5:=.pre (.rg [] [.op (some 1) (.box 30 (.t 0)),
 .op (some 2) (.alloc 30 (.agg [.Ah,.Ah,.Ah,.Ah,.Ah,.Ah])),
 .op (some 3) (.alloc 31 (.int .i64 0))] [1,2,3] [])
 (.pre (.rg [] [.op (some 11) (.c (.ld 6 true (.t 1))),
  .op (some 12) (.call 28 [(.t 11)]),
  .op (some 10) (.c (.mv (.t 12))),
  .op (some 13) (.c (.ext (.t 10) 0)),
  .op (some 14) (.c (.ext (.t 10) 1)),
  .op (some 4) (.c (.mv (.t 13))),
  .op (some 5) (.c (.mv (.t 14)))] [1,2,3,4,5] [])
 (.pre (.seq (.rg [] [.op (some 15) (.c (.mv (.t 5)))] [1,2,3,4,15] [])
 (.cond (.t 15) (.seq (.rg [] [.op (some 16) (.c (.ld 6 true (.t 2))),
  .op none (.st 6 (.t 2) (.t 16)),
  .op none (.st 1 (.t 3) (.int .i64 111))] [2,3] [])
 (.ret)) (.skip)))
 (.Eu [.op (some 17) (.c (.El 29 [] [(.t 2),(.t 3)]))] [1,2,3,4,17] 17
 (.seq (.rg [0,3,6,9,12,15,1,4,7,10,13,16,2,5,8,11,14,17,18,19] [.op (some 18) (.c (.Bs 0 0 (.t 1))),
  .op (some 21) (.c (.Bs 1 1 (.t 1))),
  .op (some 24) (.c (.Bs 2 2 (.t 1))),
  .op (some 27) (.c (.Bs 3 3 (.t 1))),
  .op (some 30) (.c (.Bs 4 4 (.t 1))),
  .op (some 33) (.c (.Bs 5 5 (.t 1))),
  .op (some 19) (.c (.ld 1 false (.t 18))),
  .op (some 22) (.c (.ld 1 false (.t 21))),
  .op (some 25) (.c (.ld 1 false (.t 24))),
  .op (some 28) (.c (.ld 1 false (.t 27))),
  .op (some 31) (.c (.ld 1 false (.t 30))),
  .op (some 34) (.c (.ld 1 false (.t 33))),
  .op (some 20) (.Ca 30 [(.t 19)]),
  .op (some 23) (.Ca 31 [(.t 22)]),
  .op (some 26) (.Ca 32 [(.t 25)]),
  .op (some 29) (.Ca 33 [(.t 28)]),
  .op (some 32) (.Ca 34 [(.t 31)]),
  .op (some 35) (.Ca 35 [(.t 34)]),
  .op (some 36) (.c (.Fs [.Ah,.Ah,.Ah,.Ah,.Ah,.Ah] [(0,(.t 20)),(1,(.t 23)),(2,(.t 26)),(3,(.t 29)),(4,(.t 32)),(5,(.t 35))])),
  .op none (.st 6 (.t 2) (.t 36))] [2,3,4] [2,3])
 (.seq (.rg [] [.op (some 37) (.c (.mv (.t 4))),
  .op (some 38) (.c (.Bs 1 1 (.t 2))),
  .op (some 39) (.c (.ld 1 false (.t 38))),
  .op (some 40) (.call 36 [(.t 37),(.t 39)])] [2,3,4] [2,3])
 (.seq (.seq (.rg [] [.op (some 41) (.c (.Bs 2 2 (.t 2))),
  .op (some 42) (.c (.ld 1 false (.t 41))),
  .op (some 43) (.c (.CU (.t 42))),
  .op (some 44) (.c (.mv (.int .i64 0)))] [2,3,4,43,44] [2,3])
 (.block 0 (.loop [2,3,4,43,44] Yv6)))
 (.seq (.seq (.rg [] [.op (some 61) (.c (.Bs 3 3 (.t 2))),
  .op (some 62) (.c (.ld 1 false (.t 61))),
  .op (some 63) (.c (.CU (.t 62))),
  .op (some 64) (.c (.mv (.int .i64 0)))] [2,3,4,63,64] [2,3])
 (.block 2 (.loop [2,3,4,63,64] Yv5)))
 (.seq (.seq (.rg [] [.op (some 74) (.c (.Bs 4 4 (.t 2))),
  .op (some 75) (.c (.ld 1 false (.t 74))),
  .op (some 76) (.c (.CU (.t 75))),
  .op (some 77) (.c (.mv (.int .i64 0)))] [2,3,4,76,77] [2,3])
 (.block 4 (.loop [2,3,4,76,77] Yv4)))
 (.seq (.seq (.rg [] [.op (some 87) (.c (.Bs 5 5 (.t 2))),
  .op (some 88) (.c (.ld 1 false (.t 87))),
  .op (some 89) (.c (.CU (.t 88))),
  .op (some 90) (.c (.mv (.int .i64 0)))] [2,3,4,89,90] [2,3])
 (.block 6 (.loop [2,3,4,89,90] Yv3)))
 (.seq (.rg [] [.op (some 100) (.LP 6 true (.t 2)),
  .op none (.st 6 (.t 2) (.t 100)),
  .op none (.st 1 (.t 3) (.int .i64 0))] [2,3] [2,3])
 (.ret)))))))))))
def Z0f:Rc prog 10 1 Zn0 [.c 2 6 true,.c 3 1 false]=true:=by kernel_rfl
def Ypp:Nat:=0x10400242f5305010058014044b72011028262
def Yog:List It:=[.op (some 2) (.c (.mv (.t 5)))]
def Y55:List Nat:=[0,1,2]
def uD:Nat:=0x1b9f11200f0150026f44fd00d00900400e0d9b8200c26c06e01437b0210f76c114d08800c02500a0f100937b0210383781d852705e0073ff23b1b682b1e50d9
def Zoj:S:=zS [(zS [] Ypp)] uD
def Zup:RZ prog 29 2 5 Yog Zoj=true:=by kernel_rfl
def ZW:S2:=zL [] [] Ypx
def Ys5:=(by cbv:ZW=_)
def Th:S2:=zL [] [ZW] pZ
def Ys4:=(show Th=_ from (λa=>(by cbv:zL [] [a] pZ=_)) ZW)
def ZX:S2:=zL [] [Th] pc
def Ys6:=(show ZX=_ from (λa=>(by cbv:zL [] [a] pc=_)) Th)
def bZ:S2:=zL [] [ZX] uH
def Zvh:=(show bZ=_ from (λa=>(by cbv:zL [] [a] uH=_)) ZX)
def Zxs:Zon.Af []=some bZ:=by kernel_rfl
def Yb8:S2:=zL [] [] Yov
def yS:=(by cbv:Yb8=_)
def Yb9:S2:=zL [] [] Yow
def yT:=(by cbv:Yb9=_)
def Yca:S2:=zL [] [] Yox
def yU:=(by cbv:Yca=_)
def Ycb:S2:=zL [] [] Yoy
def yV:=(by cbv:Ycb=_)
def Zqh:Lb:=.pre (.rg [.op (some 1) (.box 30 (.t 0)),.op (some 2) (.alloc 30 (.agg [.Ah,.Ah,.Ah,.Ah,.Ah,.Ah])),.op (some 3) (.alloc 31 (.int .i64 0))] [(1,(.a (.t 1))),(2,(.a (.t 2))),(3,(.a (.t 3)))] [])
 (.pre (.rg [.An [] (.u (.ld 6 true (.t 0)) (.a (.t 1))),.lt 11 [] (.u (.ld 6 true (.t 0)) (.a (.t 1))),.op (some 12) (.call 28 [(.t 11)])] [(1,(.a (.t 1))),(2,(.a (.t 2))),(3,(.a (.t 3))),(4,(.u (.ext (.t 0) 0) (.a (.t 12)))),(5,(.u (.ext (.t 0) 1) (.a (.t 12))))] [])
 (.pre (.seq (.rg [] [(1,(.a (.t 1))),(2,(.a (.t 2))),(3,(.a (.t 3))),(4,(.a (.t 4))),(15,(.a (.t 5)))] [])
 (.cond (.t 15) (.seq (.rg [.An [] (.u (.ld 6 true (.t 0)) (.a (.t 2))),.lt 16 [] (.u (.ld 6 true (.t 0)) (.a (.t 2))),.op none (.st 6 (.t 2) (.t 16)),.op none (.st 1 (.t 3) (.int .i64 111))] [(2,(.a (.t 2))),(3,(.a (.t 3)))] [])
 (.ret)) (.skip)))
 (.Eu [.op (some 17) (.c (.El 29 [] [(.t 2),(.t 3)]))] [(1,(.a (.t 1))),(2,(.a (.t 2))),(3,(.a (.t 3))),(4,(.a (.t 4))),(17,(.a (.t 17)))] 17
 (.seq (.rg [.An [] (.u (.ld 1 false (.t 0)) (.u (.Bs 5 5 (.t 0)) (.a (.t 1)))),.An [] (.u (.ld 1 false (.t 0)) (.u (.Bs 4 4 (.t 0)) (.a (.t 1)))),.An [] (.u (.ld 1 false (.t 0)) (.u (.Bs 3 3 (.t 0)) (.a (.t 1)))),.An [] (.u (.ld 1 false (.t 0)) (.u (.Bs 2 2 (.t 0)) (.a (.t 1)))),.An [] (.u (.ld 1 false (.t 0)) (.u (.Bs 1 1 (.t 0)) (.a (.t 1)))),.An [] (.u (.ld 1 false (.t 0)) (.u (.Bs 0 0 (.t 0)) (.a (.t 1)))),.lt 34 [] (.u (.ld 1 false (.t 0)) (.u (.Bs 5 5 (.t 0)) (.a (.t 1)))),.lt 31 [] (.u (.ld 1 false (.t 0)) (.u (.Bs 4 4 (.t 0)) (.a (.t 1)))),.lt 28 [] (.u (.ld 1 false (.t 0)) (.u (.Bs 3 3 (.t 0)) (.a (.t 1)))),.lt 25 [] (.u (.ld 1 false (.t 0)) (.u (.Bs 2 2 (.t 0)) (.a (.t 1)))),.lt 22 [] (.u (.ld 1 false (.t 0)) (.u (.Bs 1 1 (.t 0)) (.a (.t 1)))),.lt 19 [] (.u (.ld 1 false (.t 0)) (.u (.Bs 0 0 (.t 0)) (.a (.t 1)))),.op (some 20) (.Ca 30 [(.t 19)]),.op (some 23) (.Ca 31 [(.t 22)]),.op (some 26) (.Ca 32 [(.t 25)]),.op (some 29) (.Ca 33 [(.t 28)]),.op (some 32) (.Ca 34 [(.t 31)]),.op (some 35) (.Ca 35 [(.t 34)]),.op (some 36) (.c (.Fs [.Ah,.Ah,.Ah,.Ah,.Ah,.Ah] [(0,(.t 20)),(1,(.t 23)),(2,(.t 26)),(3,(.t 29)),(4,(.t 32)),(5,(.t 35))])),.op none (.st 6 (.t 2) (.t 36))] [(2,(.a (.t 2))),(3,(.a (.t 3))),(4,(.a (.t 4)))] [2,3])
 (.seq (.rg [.An [] (.u (.ld 1 false (.t 0)) (.u (.Bs 1 1 (.t 0)) (.a (.t 2)))),.lt 39 [] (.u (.ld 1 false (.t 0)) (.u (.Bs 1 1 (.t 0)) (.a (.t 2)))),.lt 37 [] (.a (.t 4)),.op (some 40) (.call 36 [(.t 37),(.t 39)])] [(2,(.a (.t 2))),(3,(.a (.t 3))),(4,(.a (.t 4)))] [2,3])
 (.seq (.seq (.rg [] [(2,(.a (.t 2))),(3,(.a (.t 3))),(4,(.a (.t 4))),(43,(.u (.CU (.t 0)) (.u (.ld 1 false (.t 0)) (.u (.Bs 2 2 (.t 0)) (.a (.t 2)))))),(44,(.a (.int .i64 0)))] [2,3])
 (.block 0 (.loop [2,3,4,43,44] Ycb)))
 (.seq (.seq (.rg [] [(2,(.a (.t 2))),(3,(.a (.t 3))),(4,(.a (.t 4))),(63,(.u (.CU (.t 0)) (.u (.ld 1 false (.t 0)) (.u (.Bs 3 3 (.t 0)) (.a (.t 2)))))),(64,(.a (.int .i64 0)))] [2,3])
 (.block 2 (.loop [2,3,4,63,64] Yca)))
 (.seq (.seq (.rg [] [(2,(.a (.t 2))),(3,(.a (.t 3))),(4,(.a (.t 4))),(76,(.u (.CU (.t 0)) (.u (.ld 1 false (.t 0)) (.u (.Bs 4 4 (.t 0)) (.a (.t 2)))))),(77,(.a (.int .i64 0)))] [2,3])
 (.block 4 (.loop [2,3,4,76,77] Yb9)))
 (.seq (.seq (.rg [] [(2,(.a (.t 2))),(3,(.a (.t 3))),(4,(.a (.t 4))),(89,(.u (.CU (.t 0)) (.u (.ld 1 false (.t 0)) (.u (.Bs 5 5 (.t 0)) (.a (.t 2)))))),(90,(.a (.int .i64 0)))] [2,3])
 (.block 6 (.loop [2,3,4,89,90] Yb8)))
 (.seq (.rg [.op (some 100) (.LP 6 true (.t 2)),.op none (.st 6 (.t 2) (.t 100)),.op none (.st 1 (.t 3) (.int .i64 0))] [(2,(.a (.t 2))),(3,(.a (.t 3)))] [2,3])
 (.ret)))))))))))
def Zw7:Zn0.Af []=some Zqh:=by kernel_rfl
def ky:S2:=zL [] [] Ypp
def Ys2:=(by cbv:ky=_)
def oB:List FJ:=[]
def oA:List (Nat×E):=[(0,(.a (.t 0))),(1,(.a (.t 1))),(2,(.a (.t 5)))]
def Zqf:Hm [] Y55 [] Yog [] [] []=some (oB,oA):=by kernel_rfl
def Zq0:S2:=zL [] [ky] uD
def Znm:=(show Zq0=_ from (λa=>(by cbv:zL [] [a] uD=_)) ky)
def Zqc:Zoj.Af []=some Zq0:=by kernel_rfl
def tT:S2:=match bZ with
|.seq a _=>a
|s=>s
def tU:S2:=match Th with
|.seq _ (.seq _ (.seq (.block _ (.seq _ (.seq _ t))) _))=>t
|s=>s
def Zd1:bZ=.seq tT ZX:=rfl
def Yn4:Th=.seq (.rg [] [(0,(.a (.t 0))),(1,(.a (.t 1))),(42,(.a (.t 42))),(43,(.a (.t 43))),(44,(.b (.Bl .lss (.t 0) (.t 1)) (.a (.t 43)) (.a (.t 42))))] [])
 (.seq (.cond (.t 44) (.skip) (.exit 0))
 (.seq (.block 1 (.seq (.rg [] [(0,(.a (.t 0))),(1,(.a (.t 1))),(4,(.a (.t 43))),(42,(.a (.t 42))),(43,(.a (.t 43)))] [])
 (.seq (.rg [] [(0,(.a (.t 0))),(1,(.a (.t 1))),(5,(.b (.C8 5 (.t 0) (.t 1)) (.u (.ld 1 false (.t 0)) (.u (.Bs 4 4 (.t 0)) (.u (.DT (.t 0)) (.a (.t 1))))) (.a (.t 4)))),(42,(.a (.t 42))),(43,(.a (.t 43)))] [])
 tU))) ZW)):=rfl
include hP
theorem Zdq{y:Al}{j:AE}{id m i:Nat}{k:List V}{c:Ai}{Q:Z5}(p:RC y j)(l:AD j id=some (.A0 80 5 k))(q:k.length=m)(f:i<m)
 (g:∀h:i<k.length,k[i]=.d (.agg [.AV c.Aq,.AV c.B1,iD c.a,iD c.b,.AH 5 (c.Ag.map BD.enc)]))
 (w:∀a b,DA (y.AB.map AM.name) c.Aq=some a->DA (y.AB.map AM.name) c.B1=some b->Q .normal [(0,.ptr 4 []),(1,.ep id m 5 i 0 [])] (AG j id (.A0 80 5 (k.set i (.d (.agg [.AV c.Aq,.AV c.B1,.int .i64 a,.int .i64 b,.AH 5 (c.Ag.map BD.enc)]))))))
 (t:DA (y.AB.map AM.name) c.Aq=none\/DA (y.AB.map AM.name) c.B1=none->Q (.panic (.d Z4)) [] j):
 Zh P [] tT Q [(0,.ptr 4 []),(1,.ep id m 5 i 0 [])] j:=by
 have e:i<k.length:=by omega
 have n:=p.o4;have r:∀o,AD (AG j id o) id=some o:=λo=>by rw[Xe j id id ⟨_,l⟩,Bv rfl]
 simp[tT,Zvh,n,l,q,f,e,g]
 repeat' apply And.intro
 all_goals refine Zt hP p.o7 (λa u=>?_) (λs=>t (.inl s))
 all_goals simp[n,l,q,f,e,g]
 repeat' apply And.intro
 all_goals refine Zt hP p.o7 (λb v=>?_) (λs=>t (.inr s))
 all_goals simp[n,l,q,f,e,g,r,Za]
 all_goals exact w a b u v
set_option maxHeartbeats 4000000 in
theorem Zdr{y:Al}{j:AE}{id c m i n k a b:Nat}{x w:List V}{f t:B}{u:BD}{A B:V}{Q:Z5}(G:RC y j)(K:AD j id=some (.A0 80 5 x))(N:x.length=m)(r:i<m)
 (v:∀h:i<x.length,x[i]=.agg [.d (.AV f),.d (.AV t),.d (.int .i64 a),.d (.int .i64 b),.sl c n])
 (H:AD j c=some (.A0 181 5 w)) (Y:w.length=n) (L:k<n) (X:∀h:k<w.length,w[k]=.d (.agg [.AV u.B1,.AV u.Aq,iD u.b,iD u.a,iD u.shift])) (z:a<y.AB.length) (F:b<y.AB.length)
 (hn:∀p q,DA (Es y.AB a) u.Aq=some p->DA (Es y.AB b) u.B1=some q->Q .normal [(0,.ptr 4 []),(1,.ep id m 5 i 0 []),(42,A),(43,B)] (AG j c (.A0 181 5 (w.set k (.d (.agg [.AV u.B1,.AV u.Aq,.int .i64 q,.int .i64 p,iD u.shift]))))))
 (Z:DA (Es y.AB a) u.Aq=none\/DA (Es y.AB b) u.B1=none->Q (.panic (.d Z4)) [] j):
 Zh P [] tU Q [(0,.ptr 4 []),(1,.ep id m 5 i 0 []),(5,.ep c n 5 k 0 []),(42,A),(43,B)] j:=by
 have e:i<x.length:=by omega
 have s:k<w.length:=by omega
 have g:y.AB.length≠0:=by omega
 have J:=G.o4;have l:=G.Sl g;have ca:=G.om a z;have cb:=G.om b F;have U:∀o,AD (AG j c o) c=some o:=λo=>by rw[Xe j c c ⟨_,H⟩,Bv rfl]
 simp (maxSteps:=10000000) [tU,Ys4,J,l,K,N,r,e,v,H,Y,L,s,X,IW,g,z,F,Vm,U0]
 repeat' apply And.intro
 all_goals refine Zt hP ca (λp O=>?_) (λW=>Z (.inl W))
 all_goals simp[J,l,K,N,r,e,v,H,Y,L,s,X,IW,g,z,F,Vm,U0]
 repeat' apply And.intro
 all_goals refine Zt hP cb (λq T=>?_) (λW=>Z (.inr W))
 all_goals simp[J,l,K,N,r,e,v,H,Y,L,s,X,IW,g,z,F,Vm,U0,U,Za]
 all_goals exact hn p q O T
omit hP
def Nb(x:BD):V:=.d x.enc
include hP
theorem X02{a:List D}(c:∀x∈a,x.sz=5)(e:a.length<=1000000){b:AE}{K:V->AE->Prop}(h:K (.sl (AA b) a.length) ((AA b,.A0 181 5 (a.map .d))::b)):C1 P 112 [.d (.AH 5 a)] b K:=
 Ik (ds:=[.AH 5 a]) (W3 hP AT Zdw c (by omega) ⟨rfl,rfl⟩) h
theorem X4n{y:Al}{id m i:Nat}{W:List V}{c:Ai}(hm:c.Ag.length<=1000000){f:AE}(hc:RC y f)(hi:AD f id=some (.A0 80 5 W))(hl:W.length=m)(hv:W[i]? = some (.d c.enc))(an:∀p,Bu p W=false)(aq:id≠1/\id≠2){K:BQ->AE->Prop}
 (h1:∀q,Zg y.AB c=some q->K (.ret (.BU [])) (AG f id (.A0 80 5 (W.set i (.d q.enc))))) (h0:Zg y.AB c=none->Pk K f):
 Aa P 39 [.ptr 4 [],.ep id m 5 i 0 []] f K:=by
 refine Aa.G9 ?_;refine Xv hP AT Z00 Zxs A6.nil λ_ O=>?_;obtain⟨au,ab⟩:=HF.1 hv;have pe:c.enc=.agg [.AV c.Aq,.AV c.B1,iD c.a,iD c.b,.AH 5 (c.Ag.map BD.enc)]:=rfl;rw[pe]at ab;have j:i<m:=by omega
 have av:=Xk hi;have l4:=Xk hc.o4;have ad:AA f≠id:=by omega
 simp[Zd1];refine Zdq hP hc hi hl j (λ_=>ab) (λa b ha hb=>?_) (λt=>?_)
 ·have cR:Zg y.AB c=(EL c.Ag (OL y.AB a b)).map λms=>{c with a:=(a:Int),b:=(b:Int),Ag:=ms}:=by simp_all[Zg,Dk]
  obtain⟨X,T⟩:∃X,X=W.set i (V.d (.agg [.AV c.Aq,.AV c.B1,.int .i64 a,.int .i64 b,.AH 5 (c.Ag.map BD.enc)])):=⟨_,rfl⟩
  rw[<-T];have ah:X.length=m:=by simp_all
  have af:∀h:i<X.length,X[i]=V.d (.agg [.AV c.Aq,.AV c.B1,.int .i64 a,.int .i64 b,.AH 5 (c.Ag.map BD.enc)]):=λh=>by simp[T]
  have ac:∀o,AD (AG f id o) id=some o:=λo=>by simp_all
  simp[Ys6,ac,ah,af,j];refine X02 hP (by intro x t;obtain⟨r,_,rfl⟩:=E2.1 t;rfl) (by simpa using hm) ?_;simp[ac,ad,ah,af,j];refine⟨⟨_,_,_,⟨rfl,rfl,rfl⟩,by simp⟩,?_⟩;obtain⟨vs',G⟩:∃vs',vs'=X.set i (V.agg [.d (.AV c.Aq),.d (.AV c.B1),.d (.int .i64 a),.d (.int .i64 b),.sl (AA f) c.Ag.length]):=⟨_,rfl⟩
  rw[<-G];have ag:vs'.length=m:=by simp_all
  have ae:∀h:i<vs'.length,vs'[i]=V.agg [.d (.AV c.Aq),.d (.AV c.B1),.d (.int .i64 a),.d (.int .i64 b),.sl (AA f) c.Ag.length]:=λh=>by simp[G]
  have al:=hc.set (vs':=vs') hi (by decide);have fs:AA (AG f id (.A0 80 5 vs'))=AA f:=by simp
  let l:List V->AE:=λus=>(AA f,.A0 181 5 us)::AG f id (.A0 80 5 vs');have bG:∀us,AD (l us) (AA f)=some (.A0 181 5 us):=λus=>by simp[l]
  have bS:∀us U,AG (l us) (AA f) (.A0 181 5 U)=l U:=λus U=>by simp[l]
  have bI:∀us,AD (l us) id=some (.A0 80 5 vs'):=λus=>by
   show AD ((AA f,_)::AG f id _) id=_;simp_all
  have bC:∀us,RC y (l us):=λus=>by
   have:=al.cons (.A0 181 5 us)
   rwa [fs]at this
  have bF:∀us,AA (l us)=AA f+1:=λus=>by
   grind[AA]
  have bN:∀{n:Nat}{kp:List Nat}{us:List V},AA f<=n->AF n kp (AA f)=false->(∀p,Bu p us=false)->AN (AF n kp) (l us)=true:=λhn hk hu=>by
   simp only[l,AN,hu,Kj,Fc];simp_all[Xz,BV,Mj,Yb,V.Bg,Bu]
  have bD:∀{n:Nat}{kp:List Nat}{us:List V},AA f<=n->AF n kp (AA f)=false->Xo (AF n kp) (l us)=l us:=λ{n kp us} hn hk=>by
   grind[Xo,AA,AG,Xl]
  have Y:∀us x,x=1\/x=2->AD (l us) x=AD f x:=λus x t=>by
   have e1:AA f≠x:=by omega
   show AD ((AA f,_)::AG f id _) x=_;simp_all[AD,A5,Xe]<;>omega
  have aj:a<y.AB.length:=by simpa using SC ha
  have ak:b<y.AB.length:=by simpa using SC hb
  show Aw _ _ _ _ (l (c.Ag.map (V.d∘BD.enc)));refine Aw.go (ι:=List BD) (λd=>[(0,.ptr 4 []),(1,.ep id m 5 i 0 []),(42,.d (.int .i64 c.Ag.length)),(43,.d (.int .i64 d.length))])
   (λd=>l ((d++c.Ag.drop d.length).map Nb)) (λd=>d.length<=c.Ag.length/\EL c.Ag (OL y.AB a b)=Dn (λ_=>OL y.AB a b) d (c.Ag.drop d.length)) (λd=>c.Ag.length-d.length) [] ⟨by simp,rfl⟩ (by simp) (by rfl) ?_
  rintro d ⟨hd,L⟩ R rn re rr rp;have wl:((d++c.Ag.drop d.length).map Nb).length=c.Ag.length:=by simp;omega
  by_cases v:d.length<c.Ag.length
  ·have wr:IntKind.i64.wrap ((d.length:Int)+1)=(d.length:Int)+1:=w_i _ (by omega);have wk:=Lh Nb v;have ws:=Li Nb v;rw[EV v,Wb]at L;generalize hu:c.Ag[d.length]=u at L wk;have ue:Nb u=.d (.agg [.AV u.B1,.AV u.Aq,iD u.b,iD u.a,iD u.shift]):=rfl;rw[ue]at wk;generalize ao:(d++c.Ag.drop d.length).map Nb=us at wl wk ws;have aa:∀p,Bu p us=false:=λp=>by rw[<-ao];exact X7 _ _
   have Z:∀s:Nat,Y2 y.AB s=Es y.AB s:=λs=>by
    unfold Y2 Es;grind
   have N:OL y.AB a b u=(DA (Es y.AB a) u.Aq).bind λ(x:Nat)=>(DA (Es y.AB b) u.B1).map λ(z:Nat)=>{u with a:=x,b:=z}:=by rw[<-Z,<-Z];rfl
   simp[Yn4,v,bI,bG,ag,ae,j,wl,wk];refine Zdr hP (bC _) (bI _) ag j ae (bG _) wl v (λ_=>wk _) aj ak (λp q hp hq=>?_) (λt=>?_)
   ·have hz:OL y.AB a b u=some {u with a:=(p:Int),b:=(q:Int) }:=by rw[N,hp,Dk,hq];rfl
    rw[hz,Dk]at L;have e1:us.set d.length (.d (.agg [.AV u.B1,.AV u.Aq,.int .i64 q,.int .i64 p,iD u.shift]))=((d++[{u with a:=(p:Int),b:=(q:Int) }])++c.Ag.drop (d++[{u with a:=(p:Int),b:=(q:Int) }]).length).map Nb:=ws {u with a:=(p:Int),b:=(q:Int) };rw[bS];simp[Ys5];rw[e1];refine rn [] (d++[{u with a:=(p:Int),b:=(q:Int) }]) _ _ ⟨by simp;omega,by rw[L,Dd];rfl⟩ (by simp;omega) (by simp[wr]) ?_ ?_ ?_
    ·rw[bF];exact bD (n:=AA f+1) (kp:=[]) (by omega) (by simp )
    ·rw[bF];simp[AF];omega
    ·rw[bF];exact bN (n:=AA f+1) (kp:=[]) (by omega) (by simp ) (λp=>X7 _ _)
   ·refine rp _ _ _ ?_;have hz:OL y.AB a b u=none:=by
     rcases t with t|t
     ·rw[N,t];rfl
     ·rw[N,t];cases DA (Es y.AB a) u.Aq<;>rfl
    have Q:=h0 (by rw[cR,L,hz];rfl);have k0:AF (AA f) [AA f] (AA f)=false:=by simp[AF]
    have H:=bD (us:=us) (B9 _) k0;have nk:=bN (us:=us) (B9 _) k0 aa;refine⟨[AA f],by simp,by rw[H];exact nk,_,Wk.refl _,[AA f],by simp[BQ.Bg],by rw[H,H];exact nk,?_⟩;rw[H,H];exact Q _ (Y us 1 (.inl rfl)) (Y us 2 (.inr rfl))
  ·have J:d.length=c.Ag.length:=by omega
   rw[J,GN,Dn]at L;simp[Yn4,v];refine re _ _ _ ?_;simp;have e:List.drop d.length (c.Ag.map Nb)=[]:=Im (by simp[J]);rw[e,HH];have hq:Zg y.AB c=some {c with a:=(a:Int),b:=(b:Int),Ag:=d}:=by rw[cR,L];rfl
   obtain⟨w,F⟩:∃w,w=l (d.map Nb):=⟨_,rfl⟩
   have li:AD w id=some (.A0 80 5 vs'):=by rw[F,bI]
   have lf:AD w (AA f)=some (.A0 181 5 (d.map λr=>V.d r.enc)):=by rw[F,bG];rfl
   have g:Dc 3 w (V.agg [.d (.AV c.Aq),.d (.AV c.B1),.d (.int .i64 a),.d (.int .i64 b),.sl (AA f) c.Ag.length])=some (.agg [.AV c.Aq,.AV c.B1,.int .i64 a,.int .i64 b,.AH 5 (d.map BD.enc)],AG w (AA f) .Ar):=by
    have hd:∀(x:D)(o:AE),Dc 2 o (.d x)=some (x,o):=λx o=>rfl;show Fm (FX (Dc 2) w _)=_;simp only[FX,hd,I2 (k:=0) BD.enc lf (by decide) J.symm,Jb,Fm]
   have sg:AG w (AA f) .Ar=(AA f,.Ar)::AG f id (.A0 80 5 vs'):=by grind[AG]
   have ap:AD (AG w (AA f) .Ar) id=some (.A0 80 5 vs'):=by simp_all
   have ai:=QR li (i:=i) (by simp_all) g ap rfl;have CG:AG (AG w (AA f) .Ar) id (.A0 80 5 (vs'.set i (.d (.agg [.AV c.Aq,.AV c.B1,.int .i64 a,.int .i64 b,.AH 5 (d.map BD.enc)]))))=(AA f,.Ar)::AG f id (.A0 80 5 (W.set i (.d ({c with a:=(a:Int),b:=(b:Int),Ag:=d}:Ai).enc))):=by
    rw[sg,AG,A5 ad,Za,G,T,Mj,Mj];rfl
   rw[CG]at ai;rw[<-F];have k0:AF (AA f) [AA f] (AA f)=false:=by simp[AF]
   have H:Xo (AF (AA f) [AA f]) w=w:=by rw[F];exact bD (B9 _) k0
   refine⟨[AA f],by simp,by rw[H,F];exact bN (B9 _) k0 (λp=>X7 _ _),_,by rw[H];exact ai,[],by simp[BQ.Bg],?_,?_⟩
   ·simp ;exact Xz (Yb rfl _ (an _)) (O _)
   ·simp ;exact h1 _ hq
 ·have hn:Zg y.AB c=none:=by
   rcases t with t|t
   ·rw[Zg,t];rfl
   ·rw[Zg,t];simp
  have Q:=h0 hn;refine⟨[],by simp,by simpa using O [],_,Wk.refl _,[],by simp[BQ.Bg],by simpa using O [],?_⟩;simpa using Q f rfl rfl
omit hP
abbrev M8:D:=.agg [.Ah,.Ah,.Ah,.Ah,.Ah,.Ah]
include hP
theorem Zd6{c:AE}{a b:Nat}{K:AE->Prop}(h:K c):CL P 29 [.ptr a [],.ptr b []] c none K:=by
 refine CL.ER λ_ d=>?_;refine Uk hP AT Zup Zqf Zqc A6.nil ?_;simp[oB,oA,Znm];refine⟨[],by simp,?_,?_⟩
 ·simp[d]
 ·simpa using h
theorem Zd5{a:AE}{x:V}{m:Int}(b:AD a 1=some (.box 30 x))(i:x.shape=M8.shape)(c:AD a 2=some (.box 31 (.d (.int .i64 m)))){K:AE->Prop}(h:K (AG (AG a 1 (.box 30 (.d M8))) 2 (.box 31 (.d (.int .i64 110))))):
 CL P 29 [.ptr 1 [],.ptr 2 []] a (some (.d Z4)) K:=by
 refine CL.ER λ_ f=>?_;refine Uk hP AT Zup Zqf Zqc A6.nil ?_;have j:AA a≠1:=by have:=Xk b;omega
 have k:AA a≠2:=by have:=Xk c;omega
 simp[oB,oA,Znm,Ys2,b,c,i,j,k];have g:AN (AF (AA a) []) (AG (AG a 1 (.box 30 (.d M8))) 2 (.box 31 (.d (.int .i64 110))))=true:=Ao _ _ _ _ _ (Ao _ _ _ _ _ (f []) rfl) rfl;have l:AF (AA a) [] (AA a)=true:=by simp[AF]
 have e:Xo (AF (AA a) []) ((AA a,Ob.box 89 (.d (.agg [])))::AG (AG a 1 (.box 30 (.d M8))) 2 (.box 31 (.d (.int .i64 110))))=AG (AG a 1 (.box 30 (.d M8))) 2 (.box 31 (.d (.int .i64 110))):=by
  rw[Xo,Bv l,Xl (by simp)]
 exact⟨[],by simp,by rw[e];exact g,by rw[e];exact h⟩
omit hP
structure Al.CB(y:Al):Prop where
 AR:y.AR.length<=1000000
 Ac:y.Ac.length<=1000000
 AB:y.AB.length<=1000000
 AP:y.AP.length<=1000000
 AJ:y.AJ.length<=1000000
 AI:y.AI.length<=1000000
 AL:∀x∈y.AB,x.AL.length<=1000000
 AU:∀x∈y.AB,x.AU.length<=1000000
 names:∀x∈y.AB,∀d∈x.AU,d.names.length<=1000000000000
 Ad:∀x∈y.AP,x.Ad.length<=1000000
 AY:∀x∈y.AP,x.AY.length<=1000000
 BC:∀x∈y.AP,x.BC.length<=1000000
 Ag:∀x∈y.AJ,x.Ag.length<=1000000
 CC:∀x∈y.AI,x.CC.length<=1000000
def HJ(x:AM):V:=.d (L2 x)
def Ni(x:AM):V:=.d x.enc
def Gt(x:Ap):V:=.d x.enc
def Gm(x:Ai):V:=.d x.enc
def Gq(x:AZ):V:=.d x.enc
def Yy:Al:=⟨[],[],[],[],[],[]⟩
def yH:D.le M8 Yy.enc:=by
 exact D.le.agg (B8.cons (D.le.nil 1) (B8.cons (D.le.nil 5) (B8.cons (D.le.nil 6) (B8.cons (D.le.nil 5) (B8.cons (D.le.nil 5) (B8.cons (D.le.nil 3) B8.nil))))))
def Wp(y:Al):Al×Int:=if R5 y then (Yy,111) else match Ug y with
|some z=>(z,0)
|none=>(Yy,110)
def Tj{b:Type}{f:List b->b->Option b}:∀{l a r:List b},Dn f a l=some r->r.length=a.length+l.length
|[],a,r,h=>by cases h;simp
|x::l,a,r,h=>by
 obtain⟨z,_,c⟩:=IF.1 h;have:=Tj c;grind
include hP
theorem Y1s:Xd P.p 29=true:=by rw[hP];kernel_rfl
theorem X68{xs:List D}(b:∀x∈xs,x.sz=1)(c:xs.length<=1000000){a:AE}{K:V->AE->Prop}(h:K (.sl (AA a) xs.length) ((AA a,.A0 9 1 (xs.map .d))::a)):C1 P 30 [.d (.AH 1 xs)] a K:=
 Ik (ds:=[.AH 1 xs]) (W3 hP AT Zww b (by omega) ⟨rfl,rfl⟩) h
theorem X04{xs:List D}(b:∀x∈xs,x.sz=5)(c:xs.length<=1000000){a:AE}{K:V->AE->Prop}(h:K (.sl (AA a) xs.length) ((AA a,.A0 94 5 (xs.map .d))::a)):C1 P 31 [.d (.AH 5 xs)] a K:=
 Ik (ds:=[.AH 5 xs]) (W3 hP AT Zwx b (by omega) ⟨rfl,rfl⟩) h
theorem Xp6{xs:List D}(b:∀x∈xs,x.sz=6)(c:xs.length<=1000000){a:AE}{K:V->AE->Prop}(h:K (.sl (AA a) xs.length) ((AA a,.A0 72 6 (xs.map .d))::a)):C1 P 32 [.d (.AH 6 xs)] a K:=
 Ik (ds:=[.AH 6 xs]) (W3 hP AT Zwy b (by omega) ⟨rfl,rfl⟩) h
theorem X03{xs:List D}(b:∀x∈xs,x.sz=5)(c:xs.length<=1000000){a:AE}{K:V->AE->Prop}(h:K (.sl (AA a) xs.length) ((AA a,.A0 77 5 (xs.map .d))::a)):C1 P 33 [.d (.AH 5 xs)] a K:=
 Ik (ds:=[.AH 5 xs]) (W3 hP AT Zwz b (by omega) ⟨rfl,rfl⟩) h
theorem Xky{xs:List D}(b:∀x∈xs,x.sz=5)(c:xs.length<=1000000){a:AE}{K:V->AE->Prop}(h:K (.sl (AA a) xs.length) ((AA a,.A0 80 5 (xs.map .d))::a)):C1 P 34 [.d (.AH 5 xs)] a K:=
 Ik (ds:=[.AH 5 xs]) (W3 hP AT Zw0 b (by omega) ⟨rfl,rfl⟩) h
theorem Xkz{xs:List D}(b:∀x∈xs,x.sz=3)(c:xs.length<=1000000){a:AE}{K:V->AE->Prop}(h:K (.sl (AA a) xs.length) ((AA a,.A0 83 3 (xs.map .d))::a)):C1 P 35 [.d (.AH 3 xs)] a K:=
 Ik (ds:=[.AH 3 xs]) (W3 hP AT Zw1 b (by omega) ⟨rfl,rfl⟩) h
theorem Xqu{y:Al}(hy:y.BJ)(U:y.CB){bd:AE}{K:V->Prop}(h:∀d,D.le d (Wp y).1.enc->K (.BU [.d d,.d (.int .i64 (Wp y).2)])):AW P 10 [.d y.enc] bd K:=by
 refine Vy hP AT (ds:=[y.enc]) Z0f Zw7 A6.nil ?_;have d0:=Y1s hP;have yk:(V.d y.enc).Bk=some [.d (Xg y.AR),.d (.AH 5 (y.Ac.map Ax.enc)),.d (.AH 6 (y.AB.map AM.enc)),.d (.AH 5 (y.AP.map Ap.enc)),.d (.AH 5 (y.AJ.map Ai.enc)),.d (.AH 3 (y.AI.map AZ.enc))]:=rfl;have ys:y.enc.shape.size=6:=by rfl
 have yz:y.enc.sz=6:=rfl;simp[Zqh,ys,yz];refine⟨rfl,Yjy hP hy U.AB ?_⟩;obtain⟨k,hk⟩:∃k,k=y.AB.length:=⟨_,rfl⟩
 have b1:∀J H G,AD (Z7 y k J H G) 1=some H:=λ_ _ _=>by unfold Z7 Vs Fp;split<;>simp[AD]
 have b2:∀J H G,AD (Z7 y k J H G) 2=some J:=λ_ _ _=>by unfold Z7 Vs Fp;split<;>simp[AD]
 have b0:∀J H G,AD (Z7 y k J H G) 0=some G:=λ_ _ _=>by unfold Z7 Vs Fp;split<;>simp[AD]
 have t1:∀J H G x,AG (Z7 y k J H G) 1 x=Z7 y k J x G:=λ_ _ _ _=>by unfold Z7 Vs Fp;split<;>simp[AG]
 have t2:∀J H G x,AG (Z7 y k J H G) 2 x=Z7 y k x H G:=λ_ _ _ _=>by unfold Z7 Vs Fp;split<;>simp[AG]
 rw[<-hk];by_cases aa:R5 y=true
 ·have hq:Wp y=(Yy,111):=by rw[Wp,Bv aa]
  rw[hq]at h;simp[aa,b1,b2];exact h _ yH
 ·simp only[Bool.not_eq_true]at aa;have bb:Ug y=none->Wp y=(Yy,110):=λe=>by rw[Wp,aa,e];rfl
  have bc:∀z,Ug y=some z->Wp y=(z,0):=λz e=>by rw[Wp,aa,e];rfl
  obtain⟨F,hF⟩:∃F,F=if k=0 then 9 else 11+2*k:=⟨_,rfl⟩
  have ba:∀r∈y.AP,(r.Ad.map At.name).Nodup:=λr hr=>by
   simp_all[R5,Bool.not_eq_false',BX,Fl,D2]
  have gf:∀J H G,AA (Z7 y k J H G)=F:=λJ H G=>by grind[XU]
  have F9:9<=F:=by grind
  have fn:∀n,n<=8->(F=n)=False:=λn hn=>eq_false (by omega);have a3:∀n,n<=8->(F+1=n)=False:=λn hn=>eq_false (by omega);have a4:∀n,n<=8->(F+2=n)=False:=λn hn=>eq_false (by omega);have a5:∀n,n<=8->(F+3=n)=False:=λn hn=>eq_false (by omega);have a6:∀n,n<=8->(F+4=n)=False:=λn hn=>eq_false (by omega);have a7:∀n,n<=8->(F+5=n)=False:=λn hn=>eq_false (by omega);simp[aa,d0,b0,yk];refine⟨rfl,X68 hP (xs:=y.AR.map .AV) (by simp) (by simpa using U.AR) ?_⟩;rw[gf];refine X04 hP (xs:=y.Ac.map Ax.enc) (by intro x hx;obtain⟨r,_,rfl⟩:=E2.1 hx;rfl) (by simpa using U.Ac) ?_;have f1:∀o J H G,AA ((F,o)::Z7 y k J H G)=F+1:=λo J H G=>by simp[gf]
  rw[f1];refine Xp6 hP (xs:=y.AB.map AM.enc) (by intro x hx;obtain⟨r,_,rfl⟩:=E2.1 hx;rfl) (by simpa using U.AB) ?_;have f2:∀a o J H G,AA ((F+1,a)::(F,o)::Z7 y k J H G)=F+2:=λa o J H G=>by simp[f1]
  rw[f2];refine X03 hP (xs:=y.AP.map Ap.enc) (by intro x hx;obtain⟨r,_,rfl⟩:=E2.1 hx;rfl) (by simpa using U.AP) ?_;have f3:∀b a o J H G,AA ((F+2,b)::(F+1,a)::(F,o)::Z7 y k J H G)=F+3:=λb a o J H G=>by simp[f2]
  rw[f3];refine Xky hP (xs:=y.AJ.map Ai.enc) (by intro x hx;obtain⟨r,_,rfl⟩:=E2.1 hx;rfl) (by simpa using U.AJ) ?_;have f4:∀c b a o J H G,AA ((F+3,c)::(F+2,b)::(F+1,a)::(F,o)::Z7 y k J H G)=F+4:=λc b a o J H G=>by simp[f3]
  rw[f4];refine Xkz hP (xs:=y.AI.map AZ.enc) (by intro x hx;obtain⟨r,_,rfl⟩:=E2.1 hx;rfl) (by simpa using U.AI) ?_;have f5:∀d c b a o J H G,AA ((F+4,d)::(F+3,c)::(F+2,b)::(F+1,a)::(F,o)::Z7 y k J H G)=F+5:=λd c b a o J H G=>by simp[f4]
  have f6:∀e d c b a o J H G,AA ((F+5,e)::(F+4,d)::(F+3,c)::(F+2,b)::(F+1,a)::(F,o)::Z7 y k J H G)=F+6:=λe d c b a o J H G=>by simp[f5]
  rw[f5];let W:V:=.agg [.sl F y.AR.length,.sl (F+1) y.Ac.length,.sl (F+2) y.AB.length,.sl (F+3) y.AP.length,.sl (F+4) y.AJ.length,.sl (F+5) y.AI.length];let B:List V->List V->List V->List V->List V->AE:=λv m s t u=>(F+5,.A0 83 3 u)::(F+4,.A0 80 5 t)::(F+3,.A0 77 5 s)::(F+2,.A0 72 6 m)::(F+1,.A0 94 5 v)::(F,.A0 9 1 (y.AR.map λx=>V.d (.AV x)))::Z7 y k (.box 31 (.d (.int .i64 0))) (.box 30 W) (.box 30 (.d y.enc));simp[fn,a3,a4,a5,a6,a7,b0,b1,b2,t1,t2,GV,Cb,HM,AD,AG];have cU:∀v m s t u,AD (B v m s t u) (F+1)=some (.A0 94 5 v):=λ_ _ _ _ _=>by simp[B]
  have cS:∀v m s t u,AD (B v m s t u) (F+2)=some (.A0 72 6 m):=λ_ _ _ _ _=>by simp[B]
  have cR:∀v m s t u,AD (B v m s t u) (F+3)=some (.A0 77 5 s):=λ_ _ _ _ _=>by simp[B]
  have cC:∀v m s t u,AD (B v m s t u) (F+4)=some (.A0 80 5 t):=λ_ _ _ _ _=>by simp[B]
  have cP:∀v m s t u,AD (B v m s t u) (F+5)=some (.A0 83 3 u):=λ_ _ _ _ _=>by simp[B]
  have cI:∀v m s t u,AD (B v m s t u) F=some (.A0 9 1 (y.AR.map λx=>V.d (.AV x))):=λ_ _ _ _ _=>by simp[B]
  have c1:∀v m s t u,AD (B v m s t u) 1=some (.box 30 W):=λ_ _ _ _ _=>by grind[AD]
  have c2:∀v m s t u,AD (B v m s t u) 2=some (.box 31 (.d (.int .i64 0))):=λ_ _ _ _ _=>by simp[B,fn,b2]
  have sU:∀v m s t u x,AG (B v m s t u) (F+1) (.A0 94 5 x)=B x m s t u:=λ_ _ _ _ _ _=>by simp[B]
  have sS:∀v m s t u x,AG (B v m s t u) (F+2) (.A0 72 6 x)=B v x s t u:=λ_ _ _ _ _ _=>by simp[B]
  have sR:∀v m s t u x,AG (B v m s t u) (F+3) (.A0 77 5 x)=B v m x t u:=λ_ _ _ _ _ _=>by simp[B]
  have sC:∀v m s t u x,AG (B v m s t u) (F+4) (.A0 80 5 x)=B v m s x u:=λ_ _ _ _ _ _=>by simp[B]
  have sP:∀v m s t u x,AG (B v m s t u) (F+5) (.A0 83 3 x)=B v m s t x:=λ_ _ _ _ _ _=>by simp[B]
  have X:∀v m s t u,RC y (B v m s t u):=λv m s t u=>by
   have h0:RC y (Z7 y k (.box 31 (.d (.int .i64 0))) (.box 30 W) (.box 30 (.d y.enc))):=by rw[hk];exact Rdf
   have h1:=h0.cons (.A0 9 1 (y.AR.map λx=>V.d (.AV x)));rw[gf]at h1;have h2:=h1.cons (.A0 94 5 v);rw[f1]at h2;have h3:=h2.cons (.A0 72 6 m);rw[f2]at h3;have h4:=h3.cons (.A0 77 5 s);rw[f3]at h4;have h5:=h4.cons (.A0 80 5 t);rw[f4]at h5;have h6:=h5.cons (.A0 83 3 u);grind
  have O:∀v m s t u,AA (B v m s t u)=F+6:=λ_ _ _ _ _=>f6 _ _ _ _ _ _ _ _ _;have hD:∀v m s t u,Xo (AF (F+6) []) (B v m s t u)=B v m s t u:=λv m s t u=>Xl (by grind);have hN:∀v m s t u,(∀p,Bu p v=false)->(∀p,Bu p m=false)->(∀p,Bu p s=false)->(∀p,Bu p t=false)->(∀p,Bu p u=false)->AN (AF (F+6) []) (B v m s t u)=true:=λv m s t u m1 m2 m3 m4 m5=>by
   have yF:∀j,j<F+6->AF (F+6) [] j=false:=λj hj=>by simp[AF];omega
   have mi:Bu (AF (F+6) []) (y.AR.map λx=>V.d (.AV x))=false:=X7 (λx=>D.AV x) _;have N:AN (AF (F+6) []) (Z7 y k (.box 31 (.d (.int .i64 0))) (.box 30 W) (.box 30 (.d y.enc)))=true:=by
    refine TM ?_ (yF _ (by omega)) (yF _ (by omega)) (yF _ (by omega)) (λbj=>yF _ (by omega)) (λi hi=>yF _ (by rw[hF,A5 (by omega)];grind[Qr]));simp[W]
   simp only[B,AN,m1,m2,m3,m4,m5,mi,N,Kj,Fc]
  have ab:Ug y=none->∀T,AD T 1=some (.box 30 W)->AD T 2=some (.box 31 (.d (.int .i64 0)))->Mz P 29 [.ptr 1 [],.ptr 2 []] [RV.c 2 6 true,RV.c 3 1 false] K (.panic (.d Z4)) [(2,.ptr 1 []),(3,.ptr 2 [])] T:=λe T h1 h2=>by
   rw[bb e]at h;simp;refine Zd5 hP h1 rfl h2 ?_;have z1:AD (AG (AG T 1 (.box 30 (.d M8))) 2 (.box 31 (.d (.int .i64 110)))) 1=some (.box 30 (.d M8)):=by simp[h1]
   have z2:AD (AG (AG T 1 (.box 30 (.d M8))) 2 (.box 31 (.d (.int .i64 110)))) 2=some (.box 31 (.d (.int .i64 110))):=by simp[h2]
   simp[z1,z2];exact h _ yH
  have me:∀{α:Type}(f:α->D)(l:List α),∀p,Bu p (l.map λx=>V.d (f x))=false:=λf l p=>X7 f l;have bk:y.AB.length=k:=hk.symm;show Aa _ _ _ (B (y.Ac.map FD) (y.AB.map (V.d∘AM.enc)) (y.AP.map (V.d∘Ap.enc)) (y.AJ.map (V.d∘Ai.enc)) (y.AI.map (V.d∘AZ.enc))) _;refine Yt1 hP (n:=k) (names:=y.Ac.map Ax.name) U.Ac (by rw[hk];exact(X _ _ _ _ _).o4) (X _ _ _ _ _).o6 (cU _ _ _ _ _) (λv aw=>?_) (λe ws=>?_)
  ·rw[sU];have rR:Ug y=(EL y.AB (Va y.AR (y.Ac.map Ax.name))).bind λm=>(EL y.AP (GZ y.AB)).bind λs=>(EL y.AJ (Zg y.AB)).bind λt=>(EL y.AI (Wc y.AB)).map λu=>{y with Ac:=v,AB:=m,AP:=s,AJ:=t,AI:=u}:=by rw[Ug,aw,Dk]
   simp[c1,cS,W];refine⟨⟨_,_,_,⟨rfl,rfl,rfl⟩,by simp⟩,?_⟩;show Aw _ _ _ _ (B (v.map FD) (y.AB.map Ni) (y.AP.map Gt) (y.AJ.map Gm) (y.AI.map Gq));have mU:∀p,Bu p (v.map FD)=false:=me Ax.enc _;have mR:∀(l:List Ap) p,Bu p (l.map Gt)=false:=λl=>me Ap.enc l;have mC:∀(l:List Ai) p,Bu p (l.map Gm)=false:=λl=>me Ai.enc l;have mP:∀(l:List AZ) p,Bu p (l.map Gq)=false:=λl=>me AZ.enc l;have ap:∀p (a b:List V),Bu p (a++b)=(Bu p a||Bu p b):=λp a b=>by
    induction a with
    |nil=>simp 
    |cons x r ih=>simp[ih,Bool.or_assoc]
   have mS:∀(a b:List AM) p,Bu p (a.map HJ++b.map Ni)=false:=λa b p=>by
    rw[ap,HG];exact⟨me L2 a p,me AM.enc b p⟩
   refine Aw.go (ι:=List AM) (λd=>[(2,.ptr 1 []),(3,.ptr 2 []),(4,.ptr 4 []),(43,.d (.int .i64 y.AB.length)),(44,.d (.int .i64 d.length))])
    (λd=>B (v.map FD) (d.map HJ++(y.AB.drop d.length).map Ni) (y.AP.map Gt) (y.AJ.map Gm) (y.AI.map Gq)) (λd=>d.length<=y.AB.length/\EL y.AB (Va y.AR (y.Ac.map Ax.name))=Dn (λ_=>Va y.AR (y.Ac.map Ax.name)) d (y.AB.drop d.length)) (λd=>y.AB.length-d.length) [] ⟨by simp,rfl⟩ (by simp) (by simp) ?_
   rintro m ⟨hd,N⟩ R rn re rr rp;have ad:=U.AB;by_cases w:m.length<y.AB.length
   ·have wr:IntKind.i64.wrap ((m.length:Int)+1)=(m.length:Int)+1:=w_i _ (by omega);have wl:=Yau HJ Ni hd;have wk:=Yat HJ Ni w;have ws:=Yav HJ Ni w;rw[EV w,Wb]at N;have hm:=DS w;have a9:Es y.AB m.length=y.AB[m.length].AL.map Ak.name:=by simp[Es,w]
    have Q:=mS m (y.AB.drop m.length);generalize ag:m.map HJ++(y.AB.drop m.length).map Ni=gs at wl wk ws Q;have ak:y.AB.length≠0:=by omega
    have c4:=λv m s t u=>(X v m s t u).o4;have a1:=λv m s t u=>(X v m s t u).Sl ak;simp[yV,w,c1,cS,c4,a1,W,wl,IW,ak,Vm,U0,wk];refine⟨rfl,X9i hP (U.AL _ hm) (U.AU _ hm) (U.names _ hm) (X _ _ _ _ _) (cS _ _ _ _ _) wl (by rw[EW (by omega),wk];rfl) Q ⟨by omega,by omega⟩ (by rw[<-a9];exact(X _ _ _ _ _).om _ w) (λq hq=>?_) (λe T Z e2=>?_)⟩
    ·rw[sS];rw[hq,Dk]at N;have Z:gs.set m.length (.d (L2 q))=(m++[q]).map HJ++(y.AB.drop (m++[q]).length).map Ni:=ws q;rw[Z];refine rn [] (m++[q]) _ _ ⟨by simp;omega,by rw[N,Dd];rfl⟩ (by simp;omega) (by simp[wr]) ?_ ?_ ?_
     ·rw[O];exact hD _ _ _ _ _
     ·rw[O];simp 
     ·rw[O];exact hN _ _ _ _ _ mU (mS _ _) (mR _) (mC _) (mP _)
    ·refine rp _ _ _ ?_;exact ab (by rw[rR,N,e];rfl) _ (by rw[Z,c1]) (by rw[e2,c2])
   ·have L:m.length=y.AB.length:=by omega
    rw[L,GN,Dn]at N;simp[yV,w];refine re _ _ _ ?_;have e0:(y.AB.map Ni).drop m.length=[]:=Im (by simp[L]);rw[e0,HH];rw[N,Dk]at rR;have ah:∀p,Bu p (m.map HJ)=false:=me L2 _;have bg:(m.map HJ).length=y.AB.length:=by simpa using L
    simp[c1,cR,W];refine⟨⟨_,_,_,⟨rfl,rfl,rfl⟩,by simp⟩,?_⟩;show Aw _ _ _ _ (B (v.map FD) (m.map HJ) (y.AP.map Gt) (y.AJ.map Gm) (y.AI.map Gq));refine Aw.go (λd=>[(2,.ptr 1 []),(3,.ptr 2 []),(4,.ptr 4 []),(63,.d (.int .i64 y.AP.length)),(64,.d (.int .i64 d.length))])
     (λd=>B (v.map FD) (m.map HJ) ((d++y.AP.drop d.length).map Gt) (y.AJ.map Gm) (y.AI.map Gq)) (λd=>d.length<=y.AP.length/\EL y.AP (GZ y.AB)=Dn (λ_=>GZ y.AB) d (y.AP.drop d.length)) (λd=>y.AP.length-d.length) [] ⟨by simp,rfl⟩ (by simp) (by simp) ?_
    rintro s ⟨hd,N⟩ R rn re rr rp;have wl:((s++y.AP.drop s.length).map Gt).length=y.AP.length:=by simp;omega
    have ad:=U.AP;by_cases w:s.length<y.AP.length
    ·have wr:IntKind.i64.wrap ((s.length:Int)+1)=(s.length:Int)+1:=w_i _ (by omega);have wk:=Lh Gt w;have ws:=Li Gt w;rw[EV w,Wb]at N;have hm:=DS w;have Q:∀p,Bu p ((s++y.AP.drop s.length).map Gt)=false:=mR _;generalize ag:(s++y.AP.drop s.length).map Gt=gs at wl wk ws Q;simp[yU,w,c1,cR,W,wl,wk];refine⟨rfl,Yt0 hP (U.Ad _ hm) (U.AY _ hm) (U.BC _ hm) (ba _ hm) (X _ _ _ _ _) (cR _ _ _ _ _) wl (by rw[EW (by omega),wk];rfl) Q ⟨by omega,by omega⟩ (λq hq=>?_) (λe T Z e2=>?_)⟩
     ·rw[sR];rw[hq,Dk]at N;have Z:gs.set s.length (.d q.enc)=((s++[q])++y.AP.drop (s++[q]).length).map Gt:=ws q;rw[Z];refine rn [] (s++[q]) _ _ ⟨by simp;omega,by rw[N,Dd];rfl⟩ (by simp;omega) (by simp[wr]) ?_ ?_ ?_
      ·rw[O];exact hD _ _ _ _ _
      ·rw[O];simp 
      ·rw[O];exact hN _ _ _ _ _ mU ah (mR _) (mC _) (mP _)
     ·refine rp _ _ _ ?_;exact ab (by rw[rR,N,e];rfl) _ (by rw[Z,c1]) (by rw[e2,c2])
    ·have L:s.length=y.AP.length:=by omega
     rw[L,GN,Dn]at N;simp[yU,w];refine re _ _ _ ?_;have e0:(y.AP.map Gt).drop s.length=[]:=Im (by simp[L]);rw[e0,HH];rw[N,Dk]at rR;have ay:(s.map Gt).length=y.AP.length:=by simpa using L
     simp[c1,cC,W];refine⟨⟨_,_,_,⟨rfl,rfl,rfl⟩,by simp⟩,?_⟩;show Aw _ _ _ _ (B (v.map FD) (m.map HJ) (s.map Gt) (y.AJ.map Gm) (y.AI.map Gq));refine Aw.go (λd=>[(2,.ptr 1 []),(3,.ptr 2 []),(4,.ptr 4 []),(76,.d (.int .i64 y.AJ.length)),(77,.d (.int .i64 d.length))])
      (λd=>B (v.map FD) (m.map HJ) (s.map Gt) ((d++y.AJ.drop d.length).map Gm) (y.AI.map Gq)) (λd=>d.length<=y.AJ.length/\EL y.AJ (Zg y.AB)=Dn (λ_=>Zg y.AB) d (y.AJ.drop d.length)) (λd=>y.AJ.length-d.length) [] ⟨by simp,rfl⟩ (by simp) (by simp) ?_
     rintro t ⟨hd,N⟩ R rn re rr rp;have wl:((t++y.AJ.drop t.length).map Gm).length=y.AJ.length:=by simp;omega
     have ad:=U.AJ;by_cases w:t.length<y.AJ.length
     ·have wr:IntKind.i64.wrap ((t.length:Int)+1)=(t.length:Int)+1:=w_i _ (by omega);have wk:=Lh Gm w;have ws:=Li Gm w;rw[EV w,Wb]at N;have hm:=DS w;have Q:∀p,Bu p ((t++y.AJ.drop t.length).map Gm)=false:=mC _;generalize ag:(t++y.AJ.drop t.length).map Gm=gs at wl wk ws Q;simp[yT,w,c1,cC,W,wl,wk];refine⟨rfl,X4n hP (U.Ag _ hm) (X _ _ _ _ _) (cC _ _ _ _ _) wl (by rw[EW (by omega),wk];rfl) Q ⟨by omega,by omega⟩ (λq hq=>?_) (λe T Z e2=>?_)⟩
      ·rw[sC];rw[hq,Dk]at N;have Z:gs.set t.length (.d q.enc)=((t++[q])++y.AJ.drop (t++[q]).length).map Gm:=ws q;rw[Z];refine rn [] (t++[q]) _ _ ⟨by simp;omega,by rw[N,Dd];rfl⟩ (by simp;omega) (by simp[wr]) ?_ ?_ ?_
       ·rw[O];exact hD _ _ _ _ _
       ·rw[O];simp 
       ·rw[O];exact hN _ _ _ _ _ mU ah (mR _) (mC _) (mP _)
      ·refine rp _ _ _ ?_;exact ab (by rw[rR,N,e];rfl) _ (by rw[Z,c1]) (by rw[e2,c2])
     ·have L:t.length=y.AJ.length:=by omega
      rw[L,GN,Dn]at N;simp[yT,w];refine re _ _ _ ?_;have e0:(y.AJ.map Gm).drop t.length=[]:=Im (by simp[L]);rw[e0,HH];rw[N,Dk]at rR;have aj:(t.map Gm).length=y.AJ.length:=by simpa using L
      simp[c1,cP,W];refine⟨⟨_,_,_,⟨rfl,rfl,rfl⟩,by simp⟩,?_⟩;show Aw _ _ _ _ (B (v.map FD) (m.map HJ) (s.map Gt) (t.map Gm) (y.AI.map Gq));refine Aw.go (λd=>[(2,.ptr 1 []),(3,.ptr 2 []),(4,.ptr 4 []),(89,.d (.int .i64 y.AI.length)),(90,.d (.int .i64 d.length))])
       (λd=>B (v.map FD) (m.map HJ) (s.map Gt) (t.map Gm) ((d++y.AI.drop d.length).map Gq)) (λd=>d.length<=y.AI.length/\EL y.AI (Wc y.AB)=Dn (λ_=>Wc y.AB) d (y.AI.drop d.length)) (λd=>y.AI.length-d.length) [] ⟨by simp,rfl⟩ (by simp) (by simp) ?_
      rintro u ⟨hd,N⟩ R rn re rr rp;have wl:((u++y.AI.drop u.length).map Gq).length=y.AI.length:=by simp;omega
      have ad:=U.AI;by_cases w:u.length<y.AI.length
      ·have wr:IntKind.i64.wrap ((u.length:Int)+1)=(u.length:Int)+1:=w_i _ (by omega);have wk:=Lh Gq w;have ws:=Li Gq w;rw[EV w,Wb]at N;have hm:=DS w;have Q:∀p,Bu p ((u++y.AI.drop u.length).map Gq)=false:=mP _;generalize ag:(u++y.AI.drop u.length).map Gq=gs at wl wk ws Q;simp[yS,w,c1,cP,W,wl,wk];refine⟨rfl,X4o hP (U.CC _ hm) (X _ _ _ _ _) (cP _ _ _ _ _) wl (by rw[EW (by omega),wk];rfl) Q ⟨by omega,by omega⟩ (λq hq=>?_) (λe T Z e2=>?_)⟩
       ·rw[sP];rw[hq,Dk]at N;have Z:gs.set u.length (.d q.enc)=((u++[q])++y.AI.drop (u++[q]).length).map Gq:=ws q;rw[Z];refine rn [] (u++[q]) _ _ ⟨by simp;omega,by rw[N,Dd];rfl⟩ (by simp;omega) (by simp[wr]) ?_ ?_ ?_
        ·rw[O];exact hD _ _ _ _ _
        ·rw[O];simp 
        ·rw[O];exact hN _ _ _ _ _ mU ah (mR _) (mC _) (mP _)
       ·refine rp _ _ _ ?_;exact ab (by rw[rR,N,e];rfl) _ (by rw[Z,c1]) (by rw[e2,c2])
      ·have L:u.length=y.AI.length:=by omega
       rw[L,GN,Dn]at N;simp[yS,w];refine re _ _ _ ?_;have e0:(y.AI.map Gq).drop u.length=[]:=Im (by simp[L]);rw[e0,HH];rw[N,Mm]at rR;have ax:(u.map Gq).length=y.AI.length:=by simpa using L
       simp ;have hz:=h;rw[bc _ rR]at hz;have a0:v.length=y.Ac.length:=by
        have:=Tj aw;simpa using this
       have bh:m.length=y.AB.length:=by simpa using bg
       have bf:s.length=y.AP.length:=by simpa using ay
       have a2:t.length=y.AJ.length:=by simpa using aj
       have be:u.length=y.AI.length:=by simpa using ax
       obtain⟨G,Y⟩:∃G,G=B (v.map FD) (m.map HJ) (s.map Gt) (t.map Gm) (u.map Gq):=⟨_,rfl⟩
       rw[<-Y];have l0:AD G F=some (.A0 9 1 (y.AR.map λx=>V.d (.AV x))):=by rw[Y,cI]
       have l1:AD G (F+1)=some (.A0 94 5 (v.map λx=>V.d x.enc)):=by rw[Y,cU];rfl
       have l2:AD G (F+2)=some (.A0 72 6 (m.map λx=>V.d (L2 x))):=by rw[Y,cS];rfl
       have l3:AD G (F+3)=some (.A0 77 5 (s.map λx=>V.d x.enc)):=by rw[Y,cR];rfl
       have l4:AD G (F+4)=some (.A0 80 5 (t.map λx=>V.d x.enc)):=by rw[Y,cC];rfl
       have l5:AD G (F+5)=some (.A0 83 3 (u.map λx=>V.d x.enc)):=by rw[Y,cP];rfl
       have w1:AD G 1=some (.box 30 W):=by rw[Y,c1]
       have w2:AD G 2=some (.box 31 (.d (.int .i64 0))):=by rw[Y,c2]
       obtain⟨H,al⟩:∃H,H=AG G F .Ar:=⟨_,rfl⟩
       have s1:∀j,j≠F->AD H j=AD G j:=λj hj=>by rw[al,Xe G F j ⟨_,l0⟩,A5 hj]
       obtain⟨J,an⟩:∃J,J=AG H (F+1) .Ar:=⟨_,rfl⟩
       have m1:AD H (F+1)=_:=(s1 _ (by omega)).trans l1;have s2:∀j,j≠F->j≠F+1->AD J j=AD G j:=λj h0 h1=>by rw[an,Xe H (F+1) j ⟨_,m1⟩,A5 h1,s1 j h0]
       obtain⟨o3,ao⟩:∃o3,o3=AG J (F+2) .Ar:=⟨_,rfl⟩
       have m2:AD J (F+2)=_:=(s2 _ (by omega) (by omega)).trans l2;have s3:∀j,j≠F->j≠F+1->j≠F+2->AD o3 j=AD G j:=λj h0 h1 h2=>by rw[ao,Xe J (F+2) j ⟨_,m2⟩,A5 h2,s2 j h0 h1]
       obtain⟨o4,aq⟩:∃o4,o4=AG o3 (F+3) .Ar:=⟨_,rfl⟩
       have m3:AD o3 (F+3)=_:=(s3 _ (by omega) (by omega) (by omega)).trans l3;have s4:∀j,j≠F->j≠F+1->j≠F+2->j≠F+3->AD o4 j=AD G j:=λj h0 h1 h2 h3=>by rw[aq,Xe o3 (F+3) j ⟨_,m3⟩,A5 h3,s3 j h0 h1 h2]
       obtain⟨o5,au⟩:∃o5,o5=AG o4 (F+4) .Ar:=⟨_,rfl⟩
       have m4:AD o4 (F+4)=_:=(s4 _ (by omega) (by omega) (by omega) (by omega)).trans l4;have s5:∀j,j≠F->j≠F+1->j≠F+2->j≠F+3->j≠F+4->AD o5 j=AD G j:=λj h0 h1 h2 h3 h4=>by rw[au,Xe o4 (F+4) j ⟨_,m4⟩,A5 h4,s4 j h0 h1 h2 h3]
       obtain⟨o6,av⟩:∃o6,o6=AG o5 (F+5) .Ar:=⟨_,rfl⟩
       have m5:AD o5 (F+5)=_:=(s5 _ (by omega) (by omega) (by omega) (by omega) (by omega)).trans l5;have s6:∀j,j<F->AD o6 j=AD G j:=λj hj=>by rw[av,Xe o5 (F+5) j ⟨_,m5⟩,A5 (by omega),s5 j (by omega) (by omega) (by omega) (by omega) (by omega)]
       obtain⟨dd,ac⟩:∃dd,dd=D.agg [.AH 1 (y.AR.map D.AV),.AH 5 (v.map Ax.enc),.AH 6 (m.map L2),.AH 5 (s.map Ap.enc),.AH 5 (t.map Ai.enc),.AH 3 (u.map AZ.enc)]:=⟨_,rfl⟩
       have g:Dc 40000 G W=some (dd,o6):=by
        show Fm (FX (Dc 39999) G _)=_;simp only[FX,I2 (k:=39997) (n:=y.AR.length) D.AV l0 (by decide) rfl,<-al,I2 (k:=39997) (n:=y.Ac.length) Ax.enc m1 (by decide) a0.symm,<-an,I2 (k:=39997) (n:=y.AB.length) L2 m2 (by decide) bh.symm,<-ao,I2 (k:=39997) (n:=y.AP.length) Ap.enc m3 (by decide) bf.symm,<-aq,I2 (k:=39997) (n:=y.AJ.length) Ai.enc m4 (by decide) a2.symm,<-au,I2 (k:=39997) (n:=y.AI.length) AZ.enc m5 (by decide) be.symm,<-av,Jb,Fm,ac]
       have a8:Dm G 1 []=some W:=by simp[w1]
       have ai:AD o6 1=some (.box 30 W):=by rw[s6 1 (by omega),w1]
       have bi:AD o6 2=some (.box 31 (.d (.int .i64 0))):=by rw[s6 2 (by omega),w2]
       have sh:dd.shape=W.shape:=by rw[ac];rfl
       simp only[I.wp];show Ps 6 true G _ (.ptr 1 []);simp only[Ps,a8,UQ,g,UP,ai,aZ];refine⟨rfl,rfl,sh,.d dd,by simp,?_⟩;obtain⟨o7,ae⟩:∃o7,o7=AG o6 1 (.box 30 (.d dd)):=⟨_,rfl⟩
       rw[<-ae];have x1:AD o7 1=some (.box 30 (.d dd)):=by rw[ae,Xe o6 1 1 ⟨_,ai⟩,Bv rfl]
       have x2:AD o7 2=some (.box 31 (.d (.int .i64 0))):=by rw[ae,Xe o6 1 2 ⟨_,ai⟩,A5 (by omega),bi]
       have az:dd.shape=.node [.leaf,.leaf,.leaf,.leaf,.leaf,.leaf]:=by rw[ac];rfl
       simp[x1,x2,az];obtain⟨o8,af⟩:∃o8,o8=AG (AG o7 1 (.box 30 (.d dd))) 2 (.box 31 (.d (.int .i64 0))):=⟨_,rfl⟩
       have y1:AD o8 1=some (.box 30 (.d dd)):=by rw[af];simp[x1]
       have y2:AD o8 2=some (.box 31 (.d (.int .i64 0))):=by rw[af];simp[x2]
       rw[<-af];refine Zd6 hP ?_;simp[y1,y2,az];refine⟨by rw[ac],hz _ ?_⟩;rw[ac];exact D.le.agg (B8.cons (D.le.refl _) (B8.cons (D.le.refl _) (B8.cons (D.le.AH (B8.map λx _=>Zm8 x)) (B8.cons (D.le.refl _) (B8.cons (D.le.refl _) (B8.cons (D.le.refl _) B8.nil))))))
  ·rw[sU];exact ab (by rw[Ug,e];rfl) _ (c1 _ _ _ _ _) (c2 _ _ _ _ _)
omit hP
def Cr.A7:Cr->A4
|.num n=>⟨[],[],-1,0,n⟩
|.path a b=>⟨a,b,0,0,0⟩
def DC.A7(f:DC):At:=⟨f.name,f.kind,0,match f.Bo with|none=>⟨[],[],0,0,0⟩|some x=>⟨x.1,x.2,0,0,0⟩⟩
def DJ.A7(a:DJ):BH:=⟨a.op,a.a.A7,a.b.A7⟩
def DK.A7(s:DK):Bj:=⟨s.path,0,s.BZ.A7⟩
def DE.A7(m:DE):BD:=⟨m.B1,m.Aq,0,0,m.shift⟩
def Fz.A7(r:Fz):CA:=⟨r.name,r.path,0,0⟩
def B6.A7:B6->Az
|.num c b a=>⟨1,c,b,a.getD [],0,[]⟩
|.Hy=>⟨2,0,1023,[],0,[]⟩
|.Cz=>⟨3,0,4095,[],0,[]⟩
|.Dq l=>⟨4,0,l.length-1,[],0,l⟩
def Field.A7(f:Field):Ak:=⟨f.name,f.type.A7,f.AQ.getD 0 0,f.AQ.getD 1 0,f.AQ.getD 2 0,f.AQ.getD 3 0⟩
def Bx.A7(d:Bx):Av:=⟨d.names,d.name,[],0⟩
def CK.A7(u:CK):Ax:=match u.Bo with
|none=>⟨u.name,[],0,0,0⟩
|some x=>⟨u.name,x.2,x.1,0,0⟩
def Be.A7(s:Be):AM:=⟨s.name,s.Dy,0,s.BL,s.AL.map Field.A7,s.AU.map Bx.A7⟩
def Cv.A7(r:Cv):Ap:=⟨r.head,0,r.Ad.map DC.A7,r.AY.map DJ.A7,r.BC.map DK.A7⟩
def Bh.A7(c:Bh):Ai:=⟨c.Aq,c.B1,0,0,c.Ag.map DE.A7⟩
def Bi.A7(p:Bi):AZ:=⟨p.name,p.CC.map Fz.A7,p.most⟩
def Bm.A7(s:Bm):Al:=⟨s.AR,s.Ac.map CK.A7,s.AB.map Be.A7,s.AP.map Cv.A7,s.AJ.map Bh.A7,s.AI.map Bi.A7⟩
def Cr.EP(t:Cr):t.enc=t.A7.enc:=by cases t<;>rfl
def DC.EP(f:DC):f.enc=f.A7.enc:=by
 obtain⟨a,b,c⟩:=f;cases c<;>rfl
def DJ.EP(a:DJ):a.enc=a.A7.enc:=by simp[DJ.enc,DJ.A7,BH.enc,Cr.EP]
def DK.EP(s:DK):s.enc=s.A7.enc:=by simp[DK.enc,DK.A7,Bj.enc,Cr.EP]
def CK.EP(u:CK):u.enc=u.A7.enc:=by
 obtain⟨a,b⟩:=u;cases b<;>rfl
def J4{a b:Type}{f:a->D}{g:b->D}{r:a->b}{z:Nat}{l:List a}(h:∀x∈l,D.le (f x) (g (r x))):D.le (.AH z (l.map f)) (.AH z ((l.map r).map g)):=by
 grind[List.map_map,D.le.AH,B8.map]
def bA{x y:D}(h:x=y):D.le x y:=h▸D.le.refl x
def B6.Cx(t:B6):D.le t.enc t.A7.enc:=by
 have a:∀{a b c d e:D},D.le (.agg [a,b,c,d,e,.Ah]) (.agg [a,b,c,d,e,.AH 1 []]):=λ{a b c d e}=>
  .agg (.cons (.refl _) (.cons (.refl _) (.cons (.refl _) (.cons (.refl _) (.cons (.refl _) (.cons (.nil 1) .nil))))))
 cases t with
 |Dq l=>exact .refl _
 |_=>exact a
def Field.Cx(f:Field)(h:f.wf):D.le f.enc f.A7.enc:=by
 obtain⟨n,t,w⟩:=f
 match w,h.JE with
 |[a,b,c,d],_=>exact .agg (.cons (.refl _) (.cons t.Cx (.cons (.refl _) .nil)))
def Bx.Cx(d:Bx):D.le d.enc d.A7.enc:=.agg (.cons (.refl _) (.cons (.refl _) (.cons (.nil 1) (.cons (.refl _) .nil))))
def Be.Cx(s:Be)(h:s.wf):D.le s.enc s.A7.enc:=
 .agg (.cons (.refl _) (.cons (.refl _) (.cons (.refl _) (.cons (.refl _) (.cons (J4 λx a=>x.Cx (h.AL x a)) (.cons (J4 λx _=>x.Cx) .nil))))))
def Cv.Cx(r:Cv):D.le r.enc r.A7.enc:=
 .agg (.cons (.refl _) (.cons (.refl _) (.cons (J4 λx _=>bA x.EP) (.cons (J4 λx _=>bA x.EP) (.cons (J4 λx _=>bA x.EP) .nil)))))
def Bh.Cx(c:Bh):D.le c.enc c.A7.enc:=
 .agg (.cons (.refl _) (.cons (.refl _) (.cons (.refl _) (.cons (.refl _) (.cons (J4 λ_ _=>.refl _) .nil)))))
def Bi.Cx(p:Bi):D.le p.enc p.A7.enc:=.agg (.cons (.refl _) (.cons (J4 λ_ _=>.refl _) (.cons (.refl _) .nil)))
def Bm.Cx(s:Bm)(h:s.wf):D.le s.enc s.A7.enc:=
 .agg (.cons (.refl _) (.cons (J4 λx _=>bA x.EP) (.cons (J4 λx a=>x.Cx (h.AB x a)) (.cons (J4 λx _=>x.Cx) (.cons (J4 λx _=>x.Cx) (.cons (J4 λx _=>x.Cx) .nil))))))
def Rdi{t:B6}(h:t.wf):t.A7.names.length<=16:=by
 cases t with
 |Dq l=>exact h.2.1
 |_=>exact FL _
def Ho{a b:Type}{r:a->b}{l:List a}{p:b->Prop}(h:∀x∈l,p (r x)):∀y∈l.map r,p y:=λy c=>by
 grind
def Bm.Nj{s:Bm}(h:s.wf):s.A7.BJ where
 AR:=by have:=h.CB.AR;simp[Bm.A7];omega
 Ac:=by have:=h.CB.Ac;simp[Bm.A7];omega
 AB:=by have:=h.CB.AB;simp[Bm.A7];omega
 AP:=by have:=h.CB.AP;simp[Bm.A7];omega
 AJ:=by have:=h.CB.AJ;simp[Bm.A7];omega
 AI:=by have:=h.CB.AI;simp[Bm.A7];omega
 Am:=Ho λx hx=>⟨by have:=(h.AB x hx).CB;simp[Be.A7];omega,by have:=(h.AB x hx).LQ;simp[Be.A7];omega,
  Ho λf hf=>by have:=Rdi ((h.AB x hx).AL f hf).type;grind[Field.A7],
  Ho λd hd=>⟨by have:=((h.AB x hx).AU d hd).names.2.1;grind[Bx.A7],by simp[Bx.A7]⟩⟩
 FH:=Ho λx hx=>⟨by have:=(h.AP x hx).CB;simp[Cv.A7];omega,by have:=(h.AP x hx).LQ;simp[Cv.A7];omega,by have:=(h.AP x hx).Om;simp[Cv.A7];omega⟩
 Ag:=Ho λx hx=>by have:=(h.AJ x hx).CB;simp[Bh.A7];omega
 CC:=Ho λx hx=>by have:=(h.AI x hx).CB;simp[Bi.A7];omega
def Bm.VN{s:Bm}(h:s.wf):s.A7.CB where
 AR:=by have:=h.CB.AR;simp[Bm.A7];omega
 Ac:=by have:=h.CB.Ac;simp[Bm.A7];omega
 AB:=by have:=h.CB.AB;simp[Bm.A7];omega
 AP:=by have:=h.CB.AP;simp[Bm.A7];omega
 AJ:=by have:=h.CB.AJ;simp[Bm.A7];omega
 AI:=by have:=h.CB.AI;simp[Bm.A7];omega
 AL:=Ho λx hx=>by have:=(h.AB x hx).CB;simp[Be.A7];omega
 AU:=Ho λx hx=>by have:=(h.AB x hx).LQ;simp[Be.A7];omega
 names:=Ho λx hx=>Ho λd hd=>by have:=((h.AB x hx).AU d hd).names.2.1;grind[Bx.A7]
 Ad:=Ho λx hx=>by have:=(h.AP x hx).CB;simp[Cv.A7];omega
 AY:=Ho λx hx=>by have:=(h.AP x hx).LQ;simp[Cv.A7];omega
 BC:=Ho λx hx=>by have:=(h.AP x hx).Om;simp[Cv.A7];omega
 Ag:=Ho λx hx=>by have:=(h.AJ x hx).CB;simp[Bh.A7];omega
 CC:=Ho λx hx=>by have:=(h.AI x hx).CB;simp[Bi.A7];omega
def Ybd{b:Type}{f:List b->b->Option b}:∀{l a r:List b},Dn f a l=some r->∀z∈r,z∈a\/∃q,∃x∈l,f q x=some z
|[],a,r,h,z,c=>by cases h;exact .inl c
|x::l,a,r,h,z,c=>by
 rw[Dn,IF]at h;obtain⟨w,e,h⟩:=h;rcases Ybd h z c with g|⟨q,u,i,d⟩<;>grind
theorem Ue{a:Type}{f:a->Option a}{l r:List a}(h:EL l f=some r):r.length=l.length/\∀z∈r,∃x∈l,f x=some z:=by
 refine⟨by simpa using Tj h,λz b=>?_⟩;rcases Ybd h z b with c|⟨_,x,d,e⟩<;>grind
def Xlq{b:List B}:∀{l:List B}{a r:List Nat},Nz b a l=some r->r.length=a.length+l.length
|[],a,r,h=>by cases h;simp
|x::l,a,r,h=>by
 rw[Nz,IF]at h;obtain⟨n,_,h⟩:=h;have:=Xlq h;grind
theorem Xrm{a:List B}{f g:Ak}(h:Qw a f=some g):g.type.names=f.type.names:=by
 grind[Qw,Option.map_eq_some_iff]
theorem Ykx{a:List B}{d e:Av}(h:JW a d=some e):e.names=d.names/\e.Aq.length=d.names.length:=by
 unfold JW at h;simp only[IF,Hg]at h;obtain⟨l,b,n,_,rfl⟩:=h;have:=Xlq b;simp_all
theorem Yv:Yy.BJ/\Yy.CB:=⟨⟨by simp[Yy],by simp[Yy],by simp[Yy],by simp[Yy],by simp[Yy],by simp[Yy],by simp[Yy],by simp[Yy],by simp[Yy],by simp[Yy]⟩,⟨by simp[Yy],by simp[Yy],by simp[Yy],by simp[Yy],by simp[Yy],by simp[Yy],by simp[Yy],by simp[Yy],by simp[Yy],by simp[Yy],by simp[Yy],by simp[Yy],by simp[Yy],by simp[Yy]⟩⟩
theorem XL{y:Al}(h:y.BJ)(c:y.CB):(Wp y).1.BJ/\(Wp y).1.CB/\(Wp y).1.AB.length<=y.AB.length:=by
 unfold Wp;split
 ·grind[Yv,Yy]
 ·split
  ·rename_i z n;unfold Ug at n;simp only[IF,Hg]at n;obtain⟨us,N,ss,O,Z,P,K,Q,Y,T,rfl⟩:=n;have w:us.length=y.Ac.length:=by simpa using Tj N
   obtain⟨u,m2⟩:=Ue O;obtain⟨F,X⟩:=Ue P;obtain⟨G,m4⟩:=Ue Q;obtain⟨H,m5⟩:=Ue T;have p:∀x∈ss,∃s∈y.AB,x.AL.length=s.AL.length/\x.AU.length=s.AU.length/\(∀f∈x.AL,∃g∈s.AL,f.type.names=g.type.names)/\∀d∈x.AU,∃e∈s.AU,d.names=e.names/\d.Aq.length=e.names.length:=λx a=>by
    grind[Va,Option.bind_eq_some_iff,Option.map_eq_some_iff,Ue,Xrm,Ykx]
   have o:∀x∈Z,∃s∈y.AP,x.Ad.length=s.Ad.length/\x.AY.length=s.AY.length/\x.BC.length=s.BC.length:=λx a=>by
    obtain⟨s,b,e⟩:=X x a;unfold GZ at e;simp only[IF,Hg]at e;obtain⟨i,_,vs,W,ws,c,zs,n,rfl⟩:=e;exact⟨s,b,by simpa using Tj W,(Ue c).1,(Ue n).1⟩
   have v:∀x∈K,∃s∈y.AJ,x.Ag.length=s.Ag.length:=λx a=>by
    grind[Zg,Option.bind_eq_some_iff,Option.map_eq_some_iff,Ue]
   have J:∀x∈Y,∃s∈y.AI,x.CC.length=s.CC.length:=λx a=>by
    grind[Wc,Option.map_eq_some_iff,Ue]
   refine⟨⟨h.AR,by rw[w];exact h.Ac,by rw[u];exact h.AB,by rw[F];exact h.AP,by rw[G];exact h.AJ,by rw[H];exact h.AI,λx a=>?_,λx a=>?_,λx a=>?_,λx a=>?_⟩,
    ⟨c.AR,by rw[w];exact c.Ac,by rw[u];exact c.AB,by rw[F];exact c.AP,by rw[G];exact c.AJ,by rw[H];exact c.AI,λx a=>?_,λx a=>?_,λx a d t=>?_,λx a=>?_,λx a=>?_,λx a=>?_,λx a=>?_,λx a=>?_⟩,by simp only[u];omega⟩
   ·obtain⟨s,b,j,k,l,r⟩:=p x a;have q:=h.Am s b;refine⟨by rw[j];exact q.AL,by rw[k];exact q.AU,λf U=>?_,λd t=>?_⟩
    ·obtain⟨g,m,e⟩:=l f U;rw[e];exact q.names g m
    ·obtain⟨g,m,e,L⟩:=r d t;have:=(q.LG g m).names;exact⟨by rw[e];exact this,by rw[L];exact this⟩
   ·obtain⟨s,b,j,k,l⟩:=o x a;have q:=h.FH s b;exact⟨by rw[j];exact q.Ad,by rw[k];exact q.AY,by rw[l];exact q.BC⟩
   ·obtain⟨s,b,e⟩:=v x a;rw[e];exact h.Ag s b
   ·obtain⟨s,b,e⟩:=J x a;rw[e];exact h.CC s b
   ·obtain⟨s,b,j,_⟩:=p x a;rw[j];exact c.AL s b
   ·obtain⟨s,b,_,k,_⟩:=p x a;rw[k];exact c.AU s b
   ·obtain⟨s,b,_,_,_,r⟩:=p x a;obtain⟨g,m,e,_⟩:=r d t;rw[e];exact c.names s b g m
   ·obtain⟨s,b,j,_⟩:=o x a;rw[j];exact c.Ad s b
   ·obtain⟨s,b,_,k,_⟩:=o x a;rw[k];exact c.AY s b
   ·obtain⟨s,b,_,_,l⟩:=o x a;rw[l];exact c.BC s b
   ·obtain⟨s,b,e⟩:=v x a;rw[e];exact c.Ag s b
   ·obtain⟨s,b,e⟩:=J x a;rw[e];exact c.CC s b
  grind[Yv,Yy]
def Jv{p:UInt8->Bool}:∀{r:List UInt8},(∀x∈r,p x=true)->r.takeWhile p=r
|[],_=>rfl
|c::r,h=>by
 rw[Mk,Bv (h c (by simp)),Jv (λx a=>h x (by simp[a]))]
def Yna{c:UInt8}{r:List UInt8}(a:Wh c=true)(g:∀x∈r,Wy x=true)(f:r.length+1<=32):ET c r=.JN 1 (c::r) 0 r.length:=by
 have b:r.takeWhile Wy=r:=by
  exact Jv g
 have d:Kq c=false:=by
  simp only[Wh,Kq,W7,R4,D2,S0]at a⊢;omega
 have e:¬(c=47/\r.head? = some 47):=by
  rintro⟨rfl,_⟩;revert a;decide
 unfold ET;rw[d,A5 (by simp),A5 e,Bv a,b,Bv f]
theorem Jn{p:UInt8->Bool}:∀{r:List UInt8}{x:UInt8},x∈r.takeWhile p->p x=true
|[],x,h=>by simp at h
|c::r,x,h=>by
 simp only[Mk]at h;split at h
 ·rcases Fb.1 h with rfl|h
  ·assumption
  ·exact Jn h
 ·cases h
theorem Xsk{s:List UInt8}:A9 s=true↔∃c r,s=c::r/\Wh c=true/\(∀x∈r,Wy x=true)/\r.length+1<=32:=by
 cases s with
 |nil=>simp[A9]
 |cons c r=>
  have e:Wh c=true->Wy c=true:=by
   intro h;simp only[Wh,Wy,OO]at h⊢;simp[h]
  simp only[A9,Ip,List.getD_cons_zero,BX,D2,Mn,Fl,Mg,Wh]at *;constructor
  ·rintro⟨⟨⟨_,b⟩,a⟩,g,d⟩;exact⟨c,r,⟨rfl,rfl⟩,a,d,b⟩
  ·rintro⟨f,i,⟨rfl,rfl⟩,a,d,b⟩;exact⟨⟨⟨by omega,b⟩,a⟩,e a,d⟩
theorem XN{c:UInt8}(h:Yj c=true):48<=c.toNat/\c.toNat<=57:=by
 simp_all[Yj,Lg,D2]<;>omega
def Yal{c:UInt8}{m:Nat}(h:Yj c=true)(a:m % 10=c.toNat-48):SZ m=c:=by
 grind[XN,UInt8.toNat_inj,YE]
def Xsq:∀(t:List UInt8)(m:Nat)(n:Int),(∀c∈t,Yj c=true)->0<m->m<=1099511627776->Q2 m t=some n->∃N:Nat,n=N/\N<=1099511627776/\Lib.decDigits N=Lib.decDigits m++t
|[],m,n,_,_,d,h=>by
 grind[Q2,Option.some.injEq]
|c::r,m,n,a,k,d,h=>by
 have l:=XN (a c (by simp));rw[Q2]at h;split at h
 ·cases h
 ·rename_i b;have e:(10*(m:Int)+((c.toNat:Int)-48))=((10*m+(c.toNat-48):Nat):Int):=by omega
  rw[e]at h b;obtain⟨N,g,i,j⟩:=Xsq r (10*m+(c.toNat-48)) n (λx f=>a x (by simp[f])) (by omega) (by omega) h;refine⟨N,g,i,?_⟩;rw[j,Yt (10*m+(c.toNat-48)),A5 (by omega),Yal (a c (by simp)) (by omega)];grind
theorem Yf6{c:UInt8}{r:List UInt8}{n:Int}(f:Yj c=true)(i:∀x∈r,Yj x=true)(h:I8 (c::r)=some n):0<=n/\n<=1099511627776/\Lib.itoa n=c::r:=by
 have m:=XN f;unfold I8 at h;split at h
 ·cases h
 ·rename_i j a;split at h
  ·rename_i g;simp at h;subst h;rw[Q2]at a;split at a
   ·cases a
   ·have e:(10*(0:Int)+((c.toNat:Int)-48))=((c.toNat-48:Nat):Int):=by omega
    rw[e]at a;by_cases d:c.toNat=48
    ·have b:c=48:=UInt8.toNat_inj.1 d;subst b;simp at g;subst g;simp[Q2]at a;subst a;refine⟨by simp,by simp,?_⟩;have:=YT 0;rw[Yt]at this;exact this
    ·obtain⟨N,k,o,l⟩:=Xsq r (c.toNat-48) j i (by omega) (by omega) a;subst k;refine⟨by omega,by omega,?_⟩;rw[YT,l,Yt (c.toNat-48),Bv (by omega),Yal f (by omega)];simp
  ·cases h
def Xf4:∀(s t:List UInt8)(m:Int),Q2 m (s++t)=(Q2 m s).bind λk=>Q2 k t
|[],t,m=>rfl
|c::r,t,m=>by
 simp only[F1,Q2];split
 ·rfl
 ·exact Xf4 r t _
def Yf4:∀N:Nat,N<=1099511627776->Q2 0 (Lib.decDigits N)=some (N:Int):=by
 intro N;induction N using Nat.strongRecOn with
 |ind N b=>
  intro h;have c:=YE N;rw[Yt,Xf4];by_cases a:N<10
  ·simp_all[Bv,Q2,Dk,A5]<;>omega
  ·rw[A5 a,b (N / 10) (by omega) (by omega)];simp_all[Q2,Dk,A5]<;>omega
def Yaj:∀N:Nat,∀c∈Lib.decDigits N,Yj c=true:=by
 intro N;induction N using Nat.strongRecOn with
 |ind N b=>
  intro c a;rw[Yt]at a;rcases FM.1 a with a|a
  ·grind
  simp_all[O6,YE,Yj,Lg,D2]<;>omega
theorem Ykw:∀N:Nat,0<N->(Lib.decDigits N).headD 0≠48:=by
 intro N;induction N using Nat.strongRecOn with
 |ind N a=>
  intro h;rw[Yt];split
  ·simp;intro e;have:=YE N;simp_all<;>omega
  grind[Jd,Lib.decDigits]
def Yf5(N:Nat)(h:N<=1099511627776):I8 (Lib.decDigits N)=some (N:Int):=by
 unfold I8;rw[Yf4 N h];simp only;rw[Bv];grind[Yt,Ykw]
def Ym4{c:UInt8}(h:Ep c=true):Kq c=false/\Wh c=false/\Yj c=false:=by
 simp only[Ep,Ic,Di,List.any_cons,List.any_nil,Bool.or_false,Bool.or_eq_true,D2]at h;simp_all[Kq,R4,Wh,W7,Yj,Lg,S0,UInt8.toNat_ofNat']<;>omega
def xY{t:Ay}(h:Bc t=true):∃c r,Q5 t=c::r/\ET c r=.JN t.kind t.text t.n r.length/\¬sH c r:=by
 obtain⟨k,s,n,i⟩:=t;unfold Bc at h;simp only at h;split at h
 next b=>subst b;simp at h;obtain⟨e,rfl⟩:=h;obtain⟨c,r,rfl,a,f,m⟩:=Xsk.1 e;refine⟨c,r,by simp[Q5],Yna a f m,?_⟩;rintro⟨rfl,_⟩;revert a;decide
 ·split at h
  ·rename_i b;subst b;simp at h;obtain⟨⟨rfl,l⟩,e⟩:=h;obtain⟨N,rfl⟩:=RF l;have o:=Yf5 N (by omega);have g:=Yaj N;simp only[Q5,CP,YT];cases p:Lib.decDigits N with
   |nil=>simp_all[Jd]
   |cons c r=>
    rw[p]at o g;have j:=g c (by simp);have q:=XN j;have d:¬sH c r:=by rintro⟨rfl,_⟩;revert j;decide
    refine⟨c,r,rfl,?_,d⟩;have a:Kq c=false:=by grind[Kq,R4,decide_eq_false_iff_not]
    have f:Wh c=false:=by grind[Wh,W7,decide_eq_false_iff_not]
    have u:¬(c=47/\r.head? = some 47):=d;simp_all[Yj,Jv,ET,A5,Bv]
  ·split at h
   ·rename_i b;subst b;simp at h;obtain⟨⟨e,a⟩,rfl⟩:=h
    match s,e with
    |[c],_=>
     simp at a;obtain⟨v,w,x⟩:=Ym4 a;refine⟨c,[],by simp[Q5],?_,by rintro⟨_,h⟩;simp at h⟩;simp_all[ET]
   ·cases h
def eL:∀(l:List Ay)(a:Nat),(∀t∈l,Bc t=true)->∃m,Jl (Zb l) a=.ok m/\L1 l m=true
|[],a,_=>⟨[],by simp[Zb,fG],rfl⟩
|[t],a,h=>by
 obtain⟨c,r,b,d,_⟩:=xY (h t (by simp));refine⟨[⟨t.kind,t.text,t.n,a⟩],?_,by simp[L1,bB]⟩;simp only[Zb];rw[b,gg d];simp[fG,OV]
|t::u::l,a,h=>by
 obtain⟨c,r,b,d,e⟩:=xY (h t (by simp));obtain⟨m,j,k⟩:=eL (u::l) (a+r.length+1+1) (λx i=>h x (by simp[i]));refine⟨⟨t.kind,t.text,t.n,a⟩::m,?_,?_⟩
 ·have g:ET 32 (Zb (u::l))=.skip 0:=by simp[ET,Kq,R4]
  have f:Zb (t::u::l)=Q5 t++32::Zb (u::l):=rfl;rw[f,b,F1,gg ((Zat (.inr e)).trans d)];simp;rw[Xr8 g];simp;rw[j];rfl
 simp_all[L1,bB]
def Yhu{c:UInt8}{r t:List UInt8}{k m:Int}{n:Nat}(h:ET c r=.JN k t m n)(i:Int):Bc ⟨k,t,m,i⟩=true/\Q5 ⟨k,t,m,i⟩=(c::r).take (n+1):=by
 unfold ET at h;split at h
 ·cases h
 ·split at h
  ·cases h
  ·split at h
   ·grind[A9,Wy,Xsk,Jn,Bc,Q5,Z9]
   grind[Yf6,Jn,Bc,Q5,Z9,Yj]
theorem Xne(t:Ay)(l:List Ay):(Zb (t::l)).length<=(Q5 t).length+1+(Zb l).length:=by
 cases l<;>grind[Zb,List.length_append,List.length_cons]
def Q0:∀s d,∀l,Jl s d=.ok l->(∀t∈l,Bc t=true)/\(Zb l).length<=2*s.length:=by
 apply Ywn
 ·simp[fG,Zb]
 ·grind[Xr8]
 ·intro c r k t m n d h o i l f;rw[gg h]at f;cases g:Jl (r.drop n) (d+n+1) with
  |B0 e=>rw[g]at f;cases f
  |ok j=>
   rw[g]at f;simp only[OV,Lc.ok.injEq]at f;subst f;obtain⟨a,b⟩:=i j g;obtain⟨p,q⟩:=Yhu h d;grind[Xne]
 simp_all[Yl1]
deriving instance DecidableEq for A4,At,BH,Bj,Ap,BD,Ai,CA,AZ,Ax,Az,Ak,Av,AM,Al
def Yaz:KT:=.st [.AV,.AV,.int .i64,.int .i64,.int .i64]
def Yax:KT:=.st [.AV,.AV,.int .i64,.st [.AV,.AV,.int .i64,.int .i64,.int .i64]]
def Yaw:KT:=.st [.int .i64,.st [.AV,.AV,.int .i64,.int .i64,.int .i64],.st [.AV,.AV,.int .i64,.int .i64,.int .i64]]
def Yn9:KT:=.st [.AV,.int .i64,.st [.AV,.AV,.int .i64,.int .i64,.int .i64]]
def Yay:KT:=.st [.AV,.AV,.int .i64,.int .i64,.int .i64]
def Yn8:KT:=.st [.AV,.AV,.int .i64,.int .i64]
mutual
def YH:∀x:D,DN x x=true
|.int k a=>by simp[DN]
|.bool a=>by simp[DN]
|.AV a=>by simp[DN]
|.Ah=>rfl
|.AH z a=>by simp[DN,TK a]
|.agg a=>by simp[DN,TK a]
|.CO=>rfl
|.CV=>rfl
|.B3=>rfl
|.Cj=>rfl
|.CD a=>by simp[DN,YH a]
|.iface t a=>by simp[DN,YH a]
|.fn f a b=>by simp[DN,TK a,TK b]
def TK:∀l:List D,FK l l=true
|[]=>rfl
|x::r=>by simp[FK,YH x,TK r]
end
def Rv{a:Type}[DecidableEq a]{f:a->D}(b:∀x y,f x=f y->x=y)(x y:a):DN (f x) (f y)=decide (x=y):=by
 by_cases e:x=y
 ·subst e;simp[YH]
 ·rw[S4 e];cases h:DN (f x) (f y) with
  |false=>rfl
  |true=>exact absurd (b _ _ (WI _ _ h)) e
def ZU:∀x y:A4,x.enc=y.enc->x=y:=λx y h=>by
 cases x;cases y;simp[A4.enc]at h;simp[h]
def Yv1:∀x y:Ax,x.enc=y.enc->x=y:=λx y h=>by
 cases x;cases y;simp[Ax.enc]at h;simp[h]
def Yvz:∀x y:At,x.enc=y.enc->x=y:=λx y h=>by
 cases x;cases y;simp[At.enc]at h;simp[h,ZU _ _ h.2.2.2]
def Yvy:∀x y:BH,x.enc=y.enc->x=y:=λx y h=>by
 cases x;cases y;simp[BH.enc]at h;simp[h,ZU _ _ h.2.1,ZU _ _ h.2.2]
def Y2s:∀x y:Bj,x.enc=y.enc->x=y:=λx y h=>by
 cases x;cases y;simp[Bj.enc]at h;simp[h,ZU _ _ h.2.2]
def Yv0:∀x y:BD,x.enc=y.enc->x=y:=λx y h=>by
 cases x;cases y;simp[BD.enc]at h;simp[h]
def Y2r:∀x y:CA,x.enc=y.enc->x=y:=λx y h=>by
 cases x;cases y;simp[CA.enc]at h;simp[h]
def Yvm:∀x y:Ax,DN x.enc y.enc=decide (x=y):=Rv Yv1
def Yvk:∀x y:At,DN x.enc y.enc=decide (x=y):=Rv Yvz
def Yvj:∀x y:BH,DN x.enc y.enc=decide (x=y):=Rv Yvy
def Y16:∀x y:Bj,DN x.enc y.enc=decide (x=y):=Rv Y2s
def Yvl:∀x y:BD,DN x.enc y.enc=decide (x=y):=Rv Yv0
def Y15:∀x y:CA,DN x.enc y.enc=decide (x=y):=Rv Y2r
def n41:Nat:=0x147f6db7d33b00b26050014ab084a793de05409c05c84b01f91217511db111f88470570097aa00a1de044a990c10647471486c14c805f00802506201e08a00a00e05409701f158637
def Zop:S:=zS [] n41
def Ypz:Nat:=0x1000210012ab217c013ac40110c1005be922b13d057a090d801086d22b0b300e0e10c80040bc0da6d230957000c00413caa571000b2091b3ae28ec00a22b1ba94c
def uJ:Nat:=0x1a6a2100a52109b82cf817007319637
def Zor:S:=zS [(zS [] Ypz)] uJ
def n65:Nat:=0x1c5f02b27f5400032200c8c7c02927f6b60030283bb7ae02727f5610031f00c86a026602527f1c20030243bb68250a0020230bc58868688d50dbd501e0e6ade
def Zpc:S:=zS [] n65
def Y9v:Nat:=0x14c216b01604349d04342a21c50e00151d
def n66:Nat:=0x14c4
def Zpd:S:=zS [(zS [] Y9v)] n66
def Z1l:Xp prog 66 2 Zpd [.t 4]=true:=by kernel_rfl
def Yda:Nat:=0x10008fdc548fd06a15c8e631684405151f63e172048088ae8609316bd417272d00e0f141296572d796
def sV:Nat:=0x15780180b021911d04901504d01632b0558fd0a58fd57c04d00a0ca196
def Y3a:S:=zS [(zS [] Yda)] sV
def Yxi:Nat:=0x16da2de7e106049d06042a42450e00551d
def Zzl:Nat:=0x14c4
def Y3t:S:=zS [(zS [] Yxi)] Zzl
def Zke:Xp prog 155 2 Y3t [.t 4]=true:=by kernel_rfl
def Yxj:Nat:=0x190f2991b407192c009bfc82920921909700767f01533f8f7aa5a3720935b097694
def Zzm:Nat:=0x16bd
def Y3u:S:=zS [(zS [] Yxj)] Zzm
def Zkf:Xp prog 156 3 Y3u [.t 6]=true:=by kernel_rfl
def Zs9:Nat:=0x1c5f0273ab540003026307c7c0253ab6b6003024307c6ebd5b2a1e3203
def Y3v:S:=zS [] Zs9
def Yxk:Nat:=0x169a37cac806092c2f1b8a8291152190059ec19308e0080723b9015a3711535b4aa694
def Zzn:Nat:=0x16bd
def Y3w:S:=zS [(zS [] Yxk)] Zzn
def Zkh:Xp prog 158 3 Y3w [.t 6]=true:=by kernel_rfl
def Zta:Nat:=0x1b8076902309e02a3367ae56100202933677d00202833693e0220421c71b90380e6295203
def Y3x:S:=zS [] Zta
def Yxl:Nat:=0x169a37cac806092c2f1b9e8291152190059ec19308e0080724e0018a3711535b4aa694
def Zzo:Nat:=0x16bd
def Y3y:S:=zS [(zS [] Yxl)] Zzo
def Zkj:Xp prog 160 3 Y3y [.t 6]=true:=by kernel_rfl
def Ztb:Nat:=0x1b8076902309e02b336c6e0224e6b4b306203
def Y3z:S:=zS [] Ztb
def Yxm:Nat:=0x1b6205c0b955366f009be634742005c2190039ec1e48f75d722f21c05c0111cb006694
def Zzp:Nat:=0x16bd
def Y30:S:=zS [(zS [] Yxm)] Zzp
def Zkl:Xp prog 162 3 Y30 [.t 6]=true:=by kernel_rfl
def Ztc:Nat:=0x1b940165e300202c33651b09014543d3cd5ba3a236d3bd2b93757790144e6b13144203
def Y31:S:=zS [] Ztc
def Yx9:Nat:=0x1b623500b900b92c1940143718293c421900b78c40000b8f737122f0143c435b7a0694
def Zz5:Nat:=0x16bd
def Y48:S:=zS [(zS [] Yx9)] Zz5
def Zl1:Xp prog 220 3 Y48 [.t 6]=true:=by kernel_rfl
def Zt4:Nat:=0x13a1041231c2f0a80060c70670220bc0659ddbf80620e971b003bf813d0e900239f39342f1520081320f30a73f11370593f10061203f113f0593f10051203f11220811340c20088b00a73db12c0593db0061533db1070593db0051533db02b08102a63f0290270a73c00280593c00061033c00260593c00051033c00240810235279ca0a73ee0210593ee0061453ee01f0593ee005145a5f08101c72f5390a723901a0592393cb0012390180592390d30016b10810153c63a514105f0042400011493f955201009052b04814924f55201010252b048b7611d00d1f700b600987037a4b0050610c9467502553443a486728e47670c967276704d8e4b9b515467502553443a486728e41f9010515672b9b08a8e47670c967276704db9b5156721f901008a7673e350208d52380b7b205400a0200480481b40202500651f21f00e61f0203
def Y49:S:=zS [] Zt4
def Yya:Nat:=0x1b6204d0b926566f00977134742004d21900478c4000048f746422f21c04d35b2cf694
def Zz6:Nat:=0x16bd
def Y5a:S:=zS [(zS [] Yya)] Zz6
def Zl3:Xp prog 222 3 Y5a [.t 6]=true:=by kernel_rfl
def Zt5:Nat:=0x107701e23101d44d9401d803813678d88d50d01b4e62200e6220203
def Y5b:S:=zS [] Zt5
def Yyb:Nat:=0x16da7cd0877e11b449d1b4a5c00850e00851d
def Zz7:Nat:=0x14c4
def Y5c:S:=zS [(zS [] Yyb)] Zz7
def Zl5:Xp prog 224 2 Y5c [.t 4]=true:=by kernel_rfl
def Yyc:Nat:=0x16da4134130447e11d349d1d3a5c00b50e00b51d
def Zz8:Nat:=0x14c4
def Y5d:S:=zS [(zS [] Yyc)] Zz8
def Zl6:Xp prog 225 2 Y5d [.t 4]=true:=by kernel_rfl
def Yyd:Nat:=0x16da7cd05024001616c49d16ca5c0ad4550ad0404c3
def Zz9:Nat:=0x14c4
def Y5e:S:=zS [(zS [] Yyd)] Zz9
def Zl7:Xp prog 226 2 Y5e [.t 4]=true:=by kernel_rfl
def Yye:Nat:=0x16da2de7e106049d06042a42450e00551d
def Z0a:Nat:=0x14c4
def Y5f:S:=zS [(zS [] Yye)] Z0a
def Zl8:Xp prog 227 2 Y5f [.t 4]=true:=by kernel_rfl
def Yyf:Nat:=0x14c2147bb5a2a49d82042a3fc50e00451d
def Z0b:Nat:=0x14c4
def Y5g:S:=zS [(zS [] Yyf)] Z0b
def Zl9:Xp prog 228 2 Y5g [.t 4]=true:=by kernel_rfl
def Zq5:S2:=zL [] [] n41
def Zvj:=(by cbv:Zq5=_)
def Z02:w_P prog 41 1 Zop [.t 2] [] Zq5:=w_p (by kernel_rfl)
def lP:S2:=zL [] [] Ypz
def y8:=(by cbv:lP=_)
def Zq7:S2:=zL [] [lP] uJ
def Zvl:=(show Zq7=_ from (λa=>(by cbv:zL [] [a] uJ=_)) lP)
def Z04:w_P prog 43 1 Zor [.t 2] [] Zq7:=w_p (by kernel_rfl)
def Zrs:S2:=zL [] [] n65
def Zvz:=(by cbv:Zrs=_)
def Z1k:w_P prog 65 2 Zpc [.t 4] [] Zrs:=w_p (by kernel_rfl)
def gr:S2:=zL [] [] Yda
def YJ:=(by cbv:gr=_)
def Y64:S2:=zL [] [gr] sV
def Y0o:=(show Y64=_ from (λa=>(by cbv:zL [] [a] sV=_)) gr)
def Y99:w_P prog 126 3 Y3a [.t 6] [] Y64:=w_p (by kernel_rfl)
def Y7o:S2:=zL [] [] Zs9
def S9:=(by cbv:Y7o=_)
def Zkg:w_P prog 157 2 Y3v [.t 4] [] Y7o:=w_p (by kernel_rfl)
def Y7p:S2:=zL [] [] Zta
def rE:=(by cbv:Y7p=_)
def Zki:w_P prog 159 2 Y3x [.t 4] [] Y7p:=w_p (by kernel_rfl)
def Y7q:S2:=zL [] [] Ztb
def TA:=(by cbv:Y7q=_)
def Zkk:w_P prog 161 2 Y3z [.t 4] [] Y7q:=w_p (by kernel_rfl)
def Y7r:S2:=zL [] [] Ztc
def rF:=(by cbv:Y7r=_)
def Zkm:w_P prog 163 2 Y31 [.t 4] [] Y7r:=w_p (by kernel_rfl)
def Y8x:S2:=zL [] [] Zt4
def Kx:=(by cbv:Y8x=_)
def Zl2:w_P prog 221 2 Y49 [.t 4] [] Y8x:=w_p (by kernel_rfl)
def Y8y:S2:=zL [] [] Zt5
def Zc5:=(by cbv:Y8y=_)
def Zl4:w_P prog 223 2 Y5b [.t 4] [] Y8y:=w_p (by kernel_rfl)
def cw(e:E):S2:=.seq (.rg [] [(0,(.a (.t 0))),(1,(.a (.t 1))),(12,(.a (.t 12))),(13,(.a (.t 13))),(14,(.b (.Bl .lss (.t 0) (.t 1)) (.a (.t 13)) (.a (.t 12))))] [])
 (.seq (.cond (.t 14) (.skip) (.exit 0))
 (.seq (.block 1 (.seq (.rg [] [(0,(.a (.t 0))),(1,(.a (.t 1))),(5,(.a (.t 13))),(12,(.a (.t 12))),(13,(.a (.t 13)))] [])
 (.seq (.rg [] [(0,(.a (.t 0))),(1,(.a (.t 1))),(12,(.a (.t 12))),(13,(.a (.t 13))),(24,e)] [])
 (.cond (.t 24) (.seq (.rg [] [(4,(.a (.bool false)))] []) (.ret)) (.skip)))))
 (.rg [] [(0,(.a (.t 0))),(1,(.a (.t 1))),(12,(.a (.t 12))),(13,(.b (.Bl .add (.t 0) (.t 1)) (.a (.t 13)) (.a (.int .i64 1))))] [])))
def LI(e:E):S2:=.seq (.rg [] [(0,(.a (.t 0))),(1,(.a (.t 1)))] [])
 (.seq (.seq (.rg [] [(0,(.a (.t 0))),(1,(.a (.t 1))),(10,(.b (.Bl .neq (.t 0) (.t 1)) (.u (.CU (.t 0)) (.a (.t 0))) (.u (.CU (.t 0)) (.a (.t 1)))))] [])
 (.cond (.t 10) (.seq (.rg [] [(4,(.a (.bool false)))] []) (.ret)) (.skip)))
 (.seq (.seq (.rg [] [(0,(.a (.t 0))),(1,(.a (.t 1))),(12,(.u (.CU (.t 0)) (.a (.t 0)))),(13,(.a (.int .i64 0)))] [])
 (.block 0 (.loop [0,1,12,13] (cw e))))
 (.seq (.rg [] [(4,(.a (.bool true)))] []) (.ret))))
def HZ(c:C)(d:Nat)(g:Bool):E:=.b c (.u (.ld d g (.t 0)) (.b (.C8 d (.t 0) (.t 1)) (.a (.t 0)) (.a (.t 5)))) (.u (.ld d g (.t 0)) (.b (.C8 d (.t 0) (.t 1)) (.a (.t 1)) (.a (.t 5))))
def N4{P:BE}{l:Type}[DecidableEq l]{f:l->D}{g:Nat}{e:E}{K:V->Prop}{a b:List l}
 (p:∀k (h:k<a.length) (x:k<b.length) (n:V),(E.val [] [(0,.d (.AH g (a.map f))),(1,.d (.AH g (b.map f))),(5,.d (.int .i64 k)),(12,n),(13,.d (.int .i64 k))] [] e=.d (.bool (decide (a[k]≠b[k]))))/\E.ok [] [(0,.d (.AH g (a.map f))),(1,.d (.AH g (b.map f))),(5,.d (.int .i64 k)),(12,n),(13,.d (.int .i64 k))] [] e)
 (y:b.length<=9223372036854775807) (h:K (.d (.bool (decide (a=b))))):Zh P [] (LI e) (Hp [.t 4] K) (Eh 0 [.d (.AH g (a.map f)),.d (.AH g (b.map f))]) []:=by
 by_cases o:a.length=b.length
 ·simp[LI,o]
  refine Aw.go (ι:=Nat) (λk=>[(0,.d (.AH g (a.map f))),(1,.d (.AH g (b.map f))),(12,.d (.int .i64 b.length)),(13,.d (.int .i64 k))]) (λ_=>[]) (λk=>k<=b.length/\a.take k=b.take k) (λk=>b.length-k) 0 ⟨FL _,by simp⟩ (by simp) (by simp) ?_;rintro k ⟨z,q⟩ R u s v F;by_cases i:k<b.length
  ·have j:k<a.length:=by omega
   have w:=w_s k (by omega);have m:=p k j i (.d (.int .i64 b.length));by_cases c:a[k]=b[k]
   ·simp[cw,i,m,c]
    refine u [] (k+1) _ _ ⟨by omega,?_⟩ (by omega) (by simp[w]) (by simp ) (by simp ) (by simp );grind[List.take_succ_eq_append_getElem]
   ·simp[cw,i,m,c]
    refine v _ _ ?_;have ne:a≠b:=λh=>by subst h;exact c rfl
    simp_all
  ·have:k=b.length:=by omega
   subst this;simp[cw];refine s _ _ _ ?_;simp;grind
 ·have r:¬(a.length:Int)=b.length:=by omega
  have e:a≠b:=λe=>o (by rw[e]);simp_all[S4,LI]
def Yws:Y3t.Af []=some (LI (HZ (.Fh Yaz false (.t 0) (.t 1)) 5 true)):=by kernel_rfl
def Ywq:Y5c.Af []=some (LI (HZ (.Fh Yax false (.t 0) (.t 1)) 8 true)):=by kernel_rfl
def Ywp:Y5d.Af []=some (LI (HZ (.Fh Yaw false (.t 0) (.t 1)) 11 true)):=by kernel_rfl
def Y6n:Y5e.Af []=some (LI (HZ (.Fh Yn9 false (.t 0) (.t 1)) 7 true)):=by kernel_rfl
def Ywr:Y5f.Af []=some (LI (HZ (.Fh Yay false (.t 0) (.t 1)) 5 true)):=by kernel_rfl
def Y6m:Y5g.Af []=some (LI (HZ (.Fh Yn8 false (.t 0) (.t 1)) 4 true)):=by kernel_rfl
def Y6o:Zpd.Af []=some (LI (HZ (.Bl .neq (.t 0) (.t 1)) 1 false)):=by kernel_rfl
def Y6p:rW.Af []=some (LI (HZ (.Bl .neq (.t 0) (.t 1)) 1 false)):=by kernel_rfl
include hP
theorem Yke{a b:List Ax}(g:b.length<=9223372036854775807){i:AE}{K:V->Prop}(h:K (.d (.bool (decide (a=b))))):AW P 155 [.d (.AH 5 (a.map Ax.enc)),.d (.AH 5 (b.map Ax.enc))] i K:=by
 refine AK hP AT (ds:=[.AH 5 (a.map Ax.enc),.AH 5 (b.map Ax.enc)]) Zke Yws A6.nil (N4 (λk e f n=>?_) g h);have j:∀x:Ax,x.enc.sz=5:=λ_=>rfl;have c:∀x:Ax,KT.CI Yaz x.enc=true:=λ_=>rfl;simp[HZ,e,f,j,c,Yvm];exact⟨rfl,rfl⟩
theorem Ykc{a b:List At}(g:b.length<=9223372036854775807){i:AE}{K:V->Prop}(h:K (.d (.bool (decide (a=b))))):AW P 224 [.d (.AH 8 (a.map At.enc)),.d (.AH 8 (b.map At.enc))] i K:=by
 refine AK hP AT (ds:=[.AH 8 (a.map At.enc),.AH 8 (b.map At.enc)]) Zl5 Ywq A6.nil (N4 (λk e f n=>?_) g h);have j:∀x:At,x.enc.sz=8:=λ_=>rfl;have c:∀x:At,KT.CI Yax x.enc=true:=λ_=>rfl;simp[HZ,e,f,j,c,Yvk];exact⟨rfl,rfl⟩
theorem Ykb{a b:List BH}(g:b.length<=9223372036854775807){i:AE}{K:V->Prop}(h:K (.d (.bool (decide (a=b))))):AW P 225 [.d (.AH 11 (a.map BH.enc)),.d (.AH 11 (b.map BH.enc))] i K:=by
 refine AK hP AT (ds:=[.AH 11 (a.map BH.enc),.AH 11 (b.map BH.enc)]) Zl6 Ywp A6.nil (N4 (λk e f n=>?_) g h);have j:∀x:BH,x.enc.sz=11:=λ_=>rfl;have c:∀x:BH,KT.CI Yaw x.enc=true:=λ_=>rfl;simp[HZ,e,f,j,c,Yvj];exact⟨rfl,rfl⟩
theorem Yuj{a b:List Bj}(g:b.length<=9223372036854775807){i:AE}{K:V->Prop}(h:K (.d (.bool (decide (a=b))))):AW P 226 [.d (.AH 7 (a.map Bj.enc)),.d (.AH 7 (b.map Bj.enc))] i K:=by
 refine AK hP AT (ds:=[.AH 7 (a.map Bj.enc),.AH 7 (b.map Bj.enc)]) Zl7 Y6n A6.nil (N4 (λk e f n=>?_) g h);have j:∀x:Bj,x.enc.sz=7:=λ_=>rfl;have c:∀x:Bj,KT.CI Yn9 x.enc=true:=λ_=>rfl;simp[HZ,e,f,j,c,Y16];exact⟨rfl,rfl⟩
theorem Ykd{a b:List BD}(g:b.length<=9223372036854775807){i:AE}{K:V->Prop}(h:K (.d (.bool (decide (a=b))))):AW P 227 [.d (.AH 5 (a.map BD.enc)),.d (.AH 5 (b.map BD.enc))] i K:=by
 refine AK hP AT (ds:=[.AH 5 (a.map BD.enc),.AH 5 (b.map BD.enc)]) Zl8 Ywr A6.nil (N4 (λk e f n=>?_) g h);have j:∀x:BD,x.enc.sz=5:=λ_=>rfl;have c:∀x:BD,KT.CI Yay x.enc=true:=λ_=>rfl;simp[HZ,e,f,j,c,Yvl];exact⟨rfl,rfl⟩
theorem Yui{a b:List CA}(g:b.length<=9223372036854775807){i:AE}{K:V->Prop}(h:K (.d (.bool (decide (a=b))))):AW P 228 [.d (.AH 4 (a.map CA.enc)),.d (.AH 4 (b.map CA.enc))] i K:=by
 refine AK hP AT (ds:=[.AH 4 (a.map CA.enc),.AH 4 (b.map CA.enc)]) Zl9 Y6m A6.nil (N4 (λk e f n=>?_) g h);have j:∀x:CA,x.enc.sz=4:=λ_=>rfl;have c:∀x:CA,KT.CI Yn8 x.enc=true:=λ_=>rfl;simp[HZ,e,f,j,c,Y15];exact⟨rfl,rfl⟩
theorem zX{a b:List Int}(f:b.length<=9223372036854775807){g:AE}{K:V->Prop}(h:K (.d (.bool (decide (a=b))))):AW P 66 [.d (X4 a),.d (X4 b)] g K:=by
 refine AK hP AT (ds:=[X4 a,X4 b]) Z1l Y6o A6.nil (N4 (λk c e n=>?_) f h);simp[HZ,c,e];rw[E3];simp
theorem dq{a b:List B}(f:b.length<=9223372036854775807){g:AE}{K:V->Prop}(h:K (.d (.bool (decide (a=b))))):AW P 154 [.d (Xg a),.d (Xg b)] g K:=by
 refine AK hP AT (ds:=[Xg a,Xg b]) Zaa Y6p A6.nil (N4 (λk c e n=>?_) f h);simp[HZ,c,e];rw[E3];simp
theorem X43{x y:Ap}(e:y.BJ){m:AE}{K:V->Prop}(h:K (.d (.bool (decide (x=y))))):AW P 159 [.d x.enc,.d y.enc] m K:=by
 refine AK hP AT (ds:=[x.enc,y.enc]) Zki.1 Zki.2 A6.nil ?_;have f:∀x:Ap,(V.d x.enc).Bk=some [.d (.AV x.head),.d (iD x.Am),.d (.AH 8 (x.Ad.map At.enc)),.d (.AH 11 (x.AY.map BH.enc)),.d (.AH 7 (x.BC.map Bj.enc))]:=λ_=>rfl;have g:∀x:Ap,x.enc.sz=5:=λ_=>rfl;have i:∀x:Ap,x.enc.shape.size=5:=λx=>by rfl
 have l:decide (x=y)=(decide (x.head=y.head)&&(decide (x.Am=y.Am)&&(decide (x.Ad=y.Ad)&&(decide (x.AY=y.AY)&&decide (x.BC=y.BC))))):=by
  cases x;cases y;simp
 rw[l]at h;by_cases a:x.head=y.head
 ·by_cases b:x.Am=y.Am
  ·simp[rE,f,g,i,a,b]at h⊢;refine Ykc hP e.Ad ?_;by_cases j:x.Ad=y.Ad
   ·simp[j]at h⊢;refine Ykb hP e.AY ?_;by_cases k:x.AY=y.AY
    ·simp[k]at h⊢;refine Yuj hP e.BC ?_;simp_all
    ·simpa[k]using h
   ·simpa[j]using h
  ·have c:(x.Am==y.Am)=false:=by simpa using b
   simp[rE,f,g,i,a,b,c]at h⊢;exact h
 ·simpa[rE,f,g,i,a]using h
theorem Xmr{x y:Ai}(m:y.Ag.length<=9223372036854775807){l:AE}{K:V->Prop}(h:K (.d (.bool (decide (x=y))))):AW P 161 [.d x.enc,.d y.enc] l K:=by
 refine AK hP AT (ds:=[x.enc,y.enc]) Zkk.1 Zkk.2 A6.nil ?_;have c:∀x:Ai,(V.d x.enc).Bk=some [.d (.AV x.Aq),.d (.AV x.B1),.d (iD x.a),.d (iD x.b),.d (.AH 5 (x.Ag.map BD.enc))]:=λ_=>rfl;have n:∀x:Ai,x.enc.sz=5:=λ_=>rfl;have o:∀x:Ai,x.enc.shape.size=5:=λx=>by rfl
 have k:decide (x=y)=(decide (x.Aq=y.Aq)&&(decide (x.B1=y.B1)&&(decide (x.a=y.a)&&(decide (x.b=y.b)&&decide (x.Ag=y.Ag))))):=by
  rw[E3];cases x;cases y<;>simp_all
 rw[k]at h;by_cases g:x.Aq=y.Aq
 ·by_cases i:x.B1=y.B1
  ·by_cases j:x.a=y.a
   ·by_cases e:x.b=y.b
    ·simp[TA,c,g,i,j,e]at h⊢;simp_all[Ykd]
    ·have f:(x.b==y.b)=false:=by simpa using e
     simpa[TA,c,e,f]using h
   ·simpa[TA,c,j]using h
  ·simpa[TA,c,i]using h
 ·simpa[TA,c,g]using h
theorem Xms{x y:AZ}(i:y.CC.length<=9223372036854775807){g:AE}{K:V->Prop}(h:K (.d (.bool (decide (x=y))))):AW P 163 [.d x.enc,.d y.enc] g K:=by
 refine AK hP AT (ds:=[x.enc,y.enc]) Zkm.1 Zkm.2 A6.nil ?_;have c:∀x:AZ,(V.d x.enc).Bk=some [.d (.AV x.name),.d (.AH 4 (x.CC.map CA.enc)),.d (iD x.most)]:=λ_=>rfl;have j:∀x:AZ,x.enc.sz=3:=λ_=>rfl;have k:∀x:AZ,x.enc.shape.size=3:=λx=>by rfl
 have f:decide (x=y)=(decide (x.name=y.name)&&(decide (x.most=y.most)&&decide (x.CC=y.CC))):=by
  rw[E3];cases x;cases y<;>grind
 rw[f]at h;by_cases e:x.name=y.name
 ·by_cases a:x.most=y.most
  ·simp[rF,c,e,a]at h⊢;simp_all[Yui]
  ·have b:(x.most==y.most)=false:=by simpa using a
   simpa[rF,c,a,b]using h
 ·simpa[rF,c,e]using h
theorem Xq0{x y:Av}(g:y.BJ){k:AE}{K:V->Prop}(h:K (.d (.bool (decide (x=y))))):AW P 223 [.d x.enc,.d y.enc] k K:=by
 refine AK hP AT (ds:=[x.enc,y.enc]) Zl4.1 Zl4.2 A6.nil ?_;have j:∀x:Av,(V.d x.enc).Bk=some [.d (Xg x.names),.d (.AV x.name),.d (X4 x.Aq),.d (iD x.B1)]:=λ_=>rfl;have l:∀x:Av,x.enc.sz=4:=λ_=>rfl;have m:∀x:Av,x.enc.shape.size=4:=λx=>by rfl
 have i:decide (x=y)=(decide (x.names=y.names)&&(decide (x.name=y.name)&&(decide (x.Aq=y.Aq)&&decide (x.B1=y.B1)))):=by
  rw[E3];cases x;cases y<;>simp_all
 rw[i]at h;simp[Zc5,j,Xg,X4]at h⊢;refine dq hP (a:=x.names) (b:=y.names) g.names ?_;by_cases f:x.names=y.names
 ·by_cases c:x.name=y.name
  ·simp[f,c]at h⊢;refine zX hP (a:=x.Aq) (b:=y.Aq) g.Aq ?_;simp_all<;>omega
  ·have e:(x.name==y.name)=false:=by simpa using c
   simpa[c,e]using h
 ·simpa[f]using h
omit hP
def sF(t c:Nat)(z:D):S2:=.seq (.rg [] [(1,(.a (.t 1))),(2,(.a (.t 2))),(15,(.a (.t 15))),(16,(.a (.t 16))),(17,(.a (.t 17))),(18,(.b (.Bl .lss (.t 0) (.t 1)) (.a (.t 17)) (.a (.t 16))))] [])
 (.seq (.cond (.t 18) (.skip) (.exit 0))
 (.seq (.block 1 (.seq (.rg [.An [] (.u (.ld c true (.t 0)) (.b (.C8 c (.t 0) (.t 1)) (.a (.t 15)) (.a (.t 17)))),.lt 21 [] (.u (.ld c true (.t 0)) (.b (.C8 c (.t 0) (.t 1)) (.a (.t 15)) (.a (.t 17)))),.op (some 8) (.alloc t z),.op none (.st c (.t 8) (.t 21))] [(1,(.a (.t 1))),(2,(.a (.t 2))),(7,(.a (.t 17))),(8,(.a (.t 8))),(15,(.a (.t 15))),(16,(.a (.t 16))),(17,(.a (.t 17)))] [])
 (.seq (.rg [.An [] (.u (.ld c true (.t 0)) (.b (.C8 c (.t 0) (.t 1)) (.a (.t 1)) (.a (.t 7)))),.lt 25 [] (.u (.ld c true (.t 0)) (.b (.C8 c (.t 0) (.t 1)) (.a (.t 1)) (.a (.t 7)))),.op (some 9) (.alloc t z),.op none (.st c (.t 9) (.t 25))] [(1,(.a (.t 1))),(2,(.a (.t 2))),(8,(.a (.t 8))),(9,(.a (.t 9))),(15,(.a (.t 15))),(16,(.a (.t 16))),(17,(.a (.t 17)))] [])
 (.seq (.rg [.An [] (.u (.ld c true (.t 0)) (.a (.t 9))),.An [] (.u (.ld c true (.t 0)) (.a (.t 8))),.lt 28 [] (.u (.ld c true (.t 0)) (.a (.t 9))),.lt 27 [] (.u (.ld c true (.t 0)) (.a (.t 8))),.lt 26 [] (.a (.t 2)),.op (some 29) (.C6 (.t 26) [(.t 27),(.t 28)])] [(1,(.a (.t 1))),(2,(.a (.t 2))),(15,(.a (.t 15))),(16,(.a (.t 16))),(17,(.a (.t 17))),(30,(.u (.not (.t 0)) (.a (.t 29))))] [])
 (.cond (.t 30) (.seq (.rg [] [(6,(.a (.bool false)))] []) (.ret)) (.skip))))))
 (.rg [] [(1,(.a (.t 1))),(2,(.a (.t 2))),(15,(.a (.t 15))),(16,(.a (.t 16))),(17,(.b (.Bl .add (.t 0) (.t 1)) (.a (.t 17)) (.a (.int .i64 1))))] [])))
def NL(t c:Nat)(z:D):S2:=.seq (.rg [] [(0,(.a (.t 0))),(1,(.a (.t 1))),(2,(.a (.t 2)))] [])
 (.seq (.seq (.rg [] [(0,(.a (.t 0))),(1,(.a (.t 1))),(2,(.a (.t 2))),(14,(.b (.Bl .neq (.t 0) (.t 1)) (.u (.CU (.t 0)) (.a (.t 0))) (.u (.CU (.t 0)) (.a (.t 1)))))] [])
 (.cond (.t 14) (.seq (.rg [] [(6,(.a (.bool false)))] []) (.ret)) (.skip)))
 (.seq (.seq (.rg [] [(1,(.a (.t 1))),(2,(.a (.t 2))),(15,(.a (.t 0))),(16,(.u (.CU (.t 0)) (.a (.t 0)))),(17,(.a (.int .i64 0)))] [])
 (.block 0 (.loop [1,2,15,16,17] (sF t c z))))
 (.seq (.rg [] [(6,(.a (.bool true)))] []) (.ret))))
def Rw{P:BE}{o:Type}[DecidableEq o]{f:o->D}{t i g:Nat}{z:D}{K:V->Prop}{a b:List o}(U:z.sz=i)
 (n:∀x,(f x).sz=i/\(f x).shape=z.shape/\(V.d (f x)).isAgg=true) (u:Xd P.p g=true)
 (r:∀k (h:k<a.length) (O:k<b.length) (w:AE) (K:V->Prop),K (.d (.bool (decide (a[k]=b[k]))))->AW P g [.d (f a[k]),.d (f b[k])] w K)
 (Q:b.length<=9223372036854775807) (h:K (.d (.bool (decide (a=b))))):Zh P [] (NL t i z) (Hp [.t 6] K) (Eh 0 [.d (.AH i (a.map f)),.d (.AH i (b.map f)),.d (.fn g [] [])]) []:=by
 have N:∀x,(f x).sz=i:=λx=>(n x).1;have J:∀x,(f x).shape=z.shape:=λx=>(n x).2.1;have m:∀x,(V.d (f x)).isAgg=true:=λx=>(n x).2.2;have L:z.shape.size=i:=by grind[D4]
 by_cases q:a.length=b.length
 ·simp[NL,q]
  refine Aw.go (ι:=Nat) (λk=>[(1,.d (.AH i (b.map f))),(2,.d (.fn g [] [])),(15,.d (.AH i (a.map f))),(16,.d (.int .i64 b.length)),(17,.d (.int .i64 k))]) (λ_=>[]) (λk=>k<=b.length/\a.take k=b.take k) (λk=>b.length-k) 0 ⟨FL _,by simp⟩ (by simp) (by simp) ?_;rintro k ⟨T,s⟩ R F y G W;by_cases l:k<b.length
  ·have j:k<a.length:=by omega
   have H:=w_s k (by omega);simp[sF,l,j,N,J,L,u];refine⟨m _,m _,m _,m _,m _,(r k j l _ _ ?_).Cc⟩;by_cases c:a[k]=b[k]
   ·simp[c]
    refine F [] (k+1) _ _ ⟨by omega,?_⟩ (by omega) (by simp[H]) (by simp[AF]) (by simp ) (by simp );grind[List.take_succ_eq_append_getElem]
   ·simp[c]
    refine G _ _ ?_;have ne:a≠b:=λh=>by subst h;exact c rfl
    simp_all
  ·have:k=b.length:=by omega
   subst this;simp[sF];refine y _ _ _ ?_;simp;grind
 ·have v:¬(a.length:Int)=b.length:=by omega
  have e:a≠b:=λe=>q (by rw[e]);simp_all[S4,NL]
def Ykt:Xd prog 159=true:=by kernel_rfl
def Yl8:Y3w.Af []=some (NL 77 5 (.agg [.AV [],.int .i64 0,.Ah,.Ah,.Ah])):=by kernel_rfl
def X9u{P:BE}(c:P.p=prog){a b:List Ap}(g:b.length<=9223372036854775807)(i:∀x∈b,x.BJ){e:AE}{K:V->Prop}(h:K (.d (.bool (decide (a=b))))):AW P 158 [.d (.AH 5 (a.map Ap.enc)),.d (.AH 5 (b.map Ap.enc)),.d (.fn 159 [] [])] e K:=
 AK c AT (ds:=[.AH 5 (a.map Ap.enc),.AH 5 (b.map Ap.enc),.fn 159 [] []]) Zkh Yl8 A6.nil (Rw rfl (λ_=>⟨rfl,rfl,rfl⟩) (by rw[c];exact Ykt) (λk j f e K=>X43 c (i _ (DS f))) g h)
def Xuv:Xd prog 161=true:=by kernel_rfl
def Xvl:Y3y.Af []=some (NL 80 5 (.agg [.AV [],.AV [],.int .i64 0,.int .i64 0,.Ah])):=by kernel_rfl
def Xqy{P:BE}(c:P.p=prog){a b:List Ai}(g:b.length<=9223372036854775807)(i:∀x∈b,x.Ag.length<=9223372036854775807){e:AE}{K:V->Prop}(h:K (.d (.bool (decide (a=b))))):AW P 160 [.d (.AH 5 (a.map Ai.enc)),.d (.AH 5 (b.map Ai.enc)),.d (.fn 161 [] [])] e K:=
 AK c AT (ds:=[.AH 5 (a.map Ai.enc),.AH 5 (b.map Ai.enc),.fn 161 [] []]) Zkj Xvl A6.nil (Rw rfl (λ_=>⟨rfl,rfl,rfl⟩) (by rw[c];exact Xuv) (λk j f e K=>Xmr c (i _ (DS f))) g h)
def Xuw:Xd prog 163=true:=by kernel_rfl
def Xvm:Y30.Af []=some (NL 83 3 (.agg [.AV [],.Ah,.int .i64 0])):=by kernel_rfl
def Xqz{P:BE}(c:P.p=prog){a b:List AZ}(g:b.length<=9223372036854775807)(i:∀x∈b,x.CC.length<=9223372036854775807){e:AE}{K:V->Prop}(h:K (.d (.bool (decide (a=b))))):AW P 162 [.d (.AH 3 (a.map AZ.enc)),.d (.AH 3 (b.map AZ.enc)),.d (.fn 163 [] [])] e K:=
 AK c AT (ds:=[.AH 3 (a.map AZ.enc),.AH 3 (b.map AZ.enc),.fn 163 [] []]) Zkl Xvm A6.nil (Rw rfl (λ_=>⟨rfl,rfl,rfl⟩) (by rw[c];exact Xuw) (λk j f e K=>Xms c (i _ (DS f))) g h)
def X46:Xd prog 223=true:=by kernel_rfl
def X55:Y5a.Af []=some (NL 162 4 (.agg [.Ah,.AV [],.Ah,.int .i64 0])):=by kernel_rfl
def Xun{P:BE}(c:P.p=prog){a b:List Av}(g:b.length<=9223372036854775807)(i:∀x∈b,x.BJ){e:AE}{K:V->Prop}(h:K (.d (.bool (decide (a=b))))):AW P 222 [.d (.AH 4 (a.map Av.enc)),.d (.AH 4 (b.map Av.enc)),.d (.fn 223 [] [])] e K:=
 AK c AT (ds:=[.AH 4 (a.map Av.enc),.AH 4 (b.map Av.enc),.fn 223 [] []]) Zl3 X55 A6.nil (Rw rfl (λ_=>⟨rfl,rfl,rfl⟩) (by rw[c];exact X46) (λk j f e K=>Xq0 c (i _ (DS f))) g h)
include hP
set_option maxHeartbeats 2000000 in
theorem Xur{x y:Ak}(F:y.type.names.length<=9223372036854775807){G:AE}{K:V->Prop}(h:K (.d (.bool (decide (x=y))))):AW P 221 [.d x.enc,.d y.enc] G K:=by
 refine AK hP AT (ds:=[x.enc,y.enc]) Zl2.1 Zl2.2 A6.nil ?_;have e:∀x:Ak,(V.d x.enc).Bk=some [.d (.AV x.name),.d x.type.enc,.d (.agg [iD x.w0,iD x.w1,iD x.w2,iD x.w3])]:=λ_=>rfl;have f:∀x:Ak,x.enc.sz=11:=λ_=>rfl;have g:∀x:Ak,x.enc.shape.size=11:=λx=>by rw[D4];rfl
 have i:∀x:Az,(V.d x.enc).Bk=some [.d (iD x.kind),.d (iD x.lo),.d (iD x.hi),.d (.AV x.Bo),.d (iD x.unit),.d (.AH 1 (x.names.map .AV))]:=λ_=>rfl;have j:∀x:Az,x.enc.sz=6:=λ_=>rfl;have k:∀x:Az,x.enc.shape.size=6:=λx=>by rw[D4];rfl
 have l:∀x:Az,x.enc.shape=.node [.leaf,.leaf,.leaf,.leaf,.leaf,.leaf]:=λ_=>rfl;have m:∀x:Ak,KT.CI (.ar 4 (.int .i64)) (.agg [iD x.w0,iD x.w1,iD x.w2,iD x.w3])=true:=λ_=>rfl;have z:decide (x=y)=(decide (x.name=y.name)&&(decide (x.w0=y.w0)&&(decide (x.w1=y.w1)&&(decide (x.w2=y.w2)&&(decide (x.w3=y.w3)&&(decide (x.type.kind=y.type.kind)&&(decide (x.type.lo=y.type.lo)&&(decide (x.type.hi=y.type.hi)&&(decide (x.type.Bo=y.type.Bo)&&(decide (x.type.unit=y.type.unit)&&decide (x.type.names=y.type.names))))))))))):=by
  rw[E3];obtain⟨a,⟨J,L,N,O,Q,T⟩,U,W,X,Y⟩:=x;obtain⟨H,⟨Z,d2,d3,d4,d5,d6⟩,g0,g1,g2,g3⟩:=y;simp;intro _;constructor<;>intro h<;>simp[h]
 rw[z]at h;by_cases c:x.name=y.name
 ·by_cases n:x.w0=y.w0
  ·by_cases o:x.w1=y.w1
   ·by_cases p:x.w2=y.w2
    ·by_cases q:x.w3=y.w3
     ·by_cases r:x.type.kind=y.type.kind
      ·by_cases s:x.type.lo=y.type.lo
       ·by_cases t:x.type.hi=y.type.hi
        ·by_cases u:x.type.Bo=y.type.Bo
         ·by_cases v:x.type.unit=y.type.unit
          ·simp[Kx,e,f,g,i,j,k,l,m,c,n,o,p,q,r,s,t,u,v]at h⊢
           repeat' apply And.intro
           all_goals first|rfl|(refine dq hP (a:=x.type.names) (b:=y.type.names) F ?_;simpa using h)
          ·have w:(x.type.unit==y.type.unit)=false:=by simpa using v
           simp[Kx,e,f,g,i,j,k,l,m,c,n,o,p,q,r,s,t,u,v,w]at h⊢;exact⟨rfl,rfl,h⟩
         ·simp[Kx,e,f,g,i,j,k,l,m,c,n,o,p,q,r,s,t,u]at h⊢;exact⟨rfl,rfl,h⟩
        ·simp[Kx,e,f,g,i,j,k,l,m,c,n,o,p,q,r,s,t]at h⊢;exact⟨rfl,rfl,h⟩
       ·simp[Kx,e,f,g,i,j,k,l,m,c,n,o,p,q,r,s]at h⊢;exact⟨rfl,rfl,h⟩
      ·simp[Kx,e,f,g,i,j,k,l,m,c,n,o,p,q,r]at h⊢;exact⟨rfl,rfl,h⟩
     ·simp[Kx,e,f,g,i,j,k,l,m,c,n,o,p,q]at h⊢;exact⟨rfl,rfl,h⟩
    ·simp[Kx,e,f,g,i,j,k,l,m,c,n,o,p]at h⊢;exact⟨rfl,rfl,h⟩
   ·simp[Kx,e,f,g,i,j,k,l,m,c,n,o]at h⊢;exact⟨rfl,rfl,h⟩
  ·simp[Kx,e,f,g,i,j,k,l,m,c,n]at h⊢;exact⟨rfl,rfl,h⟩
 ·simp[Kx,e,f,g,i,j,k,l,m,c]at h⊢;exact⟨rfl,rfl,h⟩
omit hP
def Aa.Si{P:BE}{f g:Nat}{a b:V}{m:AE}{K:BQ->AE->Prop}(h:Aa P f [a,b,.d (.fn g [] [])] m K):Aa P f [a,b,.fn g [] []] m K:=⟨λw z i t s l=>h.run w z i t s (by
 simp only[V.BT]at l⊢;obtain⟨u,y,e,p,v,j,n,q,x,k,o,c,r⟩:=l;refine⟨u,y,e,p,v,j,n,q,x,k,o,?_,r⟩;rcases c with c|c|⟨_,c⟩
 ·cases c
 ·exact absurd c.1 (by simp[V.isAgg])
 ·exact .inr (.inr ⟨rfl,by simpa[V.Au,D.A1,V.BT,GL]using c⟩))⟩
def X99:Xd prog 221=true:=by kernel_rfl
def Yb7:Y48.Af []=some (NL 158 11 (.agg [.AV [],.agg [.int .i64 0,.int .i64 0,.int .i64 0,.AV [],.int .i64 0,.Ah],.agg [.int .i64 0,.int .i64 0,.int .i64 0,.int .i64 0]])):=by kernel_rfl
def X41{P:BE}(c:P.p=prog){a b:List Ak}(g:b.length<=9223372036854775807)(i:∀x∈b,x.type.names.length<=9223372036854775807){e:AE}{K:V->Prop}(h:K (.d (.bool (decide (a=b))))):AW P 220 [.d (.AH 11 (a.map Ak.enc)),.d (.AH 11 (b.map Ak.enc)),.d (.fn 221 [] [])] e K:=
 AK c AT (ds:=[.AH 11 (a.map Ak.enc),.AH 11 (b.map Ak.enc),.fn 221 [] []]) Zl1 Yb7 A6.nil (Rw rfl (λ_=>⟨rfl,rfl,rfl⟩) (by rw[c];exact X99) (λk j f e K=>Xur c (i _ (DS f))) g h)
include hP
theorem Xq1{x y:AM}(g:y.BJ){o:AE}{K:V->Prop}(h:K (.d (.bool (decide (x=y))))):AW P 157 [.d x.enc,.d y.enc] o K:=by
 refine AK hP AT (ds:=[x.enc,y.enc]) Zkg.1 Zkg.2 A6.nil ?_;have a:∀x:AM,(V.d x.enc).Bk=some [.d (.AV x.name),.d (.AV x.Dy),.d (iD x.CN),.d (iD x.BL),.d (.AH 11 (x.AL.map Ak.enc)),.d (.AH 4 (x.AU.map Av.enc))]:=λ_=>rfl;have c:∀x:AM,x.enc.sz=6:=λ_=>rfl;have e:∀x:AM,x.enc.shape.size=6:=λx=>by rw[D4];rfl
 have n:decide (x=y)=(decide (x.name=y.name)&&(decide (x.Dy=y.Dy)&&(decide (x.CN=y.CN)&&(decide (x.BL=y.BL)&&(decide (x.AL=y.AL)&&decide (x.AU=y.AU)))))):=by
  rw[E3];cases x;cases y;simp
 rw[n]at h;by_cases b:x.name=y.name
 ·by_cases f:x.Dy=y.Dy
  ·by_cases i:x.CN=y.CN
   ·by_cases j:x.BL=y.BL
    ·simp[S9,a,c,e,b,f,i,j]at h⊢;refine Aa.Si (X41 hP g.AL g.names ?_).Cc;by_cases l:x.AL=y.AL
     ·simp[l,a]at h⊢;refine Aa.Si (Xun hP g.AU g.LG ?_).Cc;by_cases m:x.AU=y.AU
      ·simpa[m,a]using h
      ·simpa[m,a]using h
     ·simpa[l,a]using h
    ·have k:(x.BL==y.BL)=false:=by simpa using j
     simpa[S9,a,c,e,b,f,i,j,k]using h
   ·simpa[S9,a,c,e,b,f,i]using h
  ·simpa[S9,a,c,e,b,f]using h
 ·simpa[S9,a,c,e,b]using h
omit hP
def X47:Xd prog 157=true:=by kernel_rfl
def X56:Y3u.Af []=some (NL 72 6 (.agg [.AV [],.AV [],.int .i64 0,.int .i64 0,.Ah,.Ah])):=by kernel_rfl
def Xuo{P:BE}(c:P.p=prog){a b:List AM}(g:b.length<=9223372036854775807)(i:∀x∈b,x.BJ){e:AE}{K:V->Prop}(h:K (.d (.bool (decide (a=b))))):AW P 156 [.d (.AH 6 (a.map AM.enc)),.d (.AH 6 (b.map AM.enc)),.d (.fn 157 [] [])] e K:=
 AK c AT (ds:=[.AH 6 (a.map AM.enc),.AH 6 (b.map AM.enc),.fn 157 [] []]) Zkf X56 A6.nil (Rw rfl (λ_=>⟨rfl,rfl,rfl⟩) (by rw[c];exact X47) (λk j f e K=>Xq1 c (i _ (DS f))) g h)
include hP
theorem Yn0{x y:Al}(e:y.BJ){p:AE}{K:V->Prop}(h:K (.d (.bool (decide (x=y))))):AW P 65 [.d x.enc,.d y.enc] p K:=by
 refine AK hP AT (ds:=[x.enc,y.enc]) Z1k.1 Z1k.2 A6.nil ?_;have c:∀x:Al,(V.d x.enc).Bk=some [.d (.AH 1 (x.AR.map .AV)),.d (.AH 5 (x.Ac.map Ax.enc)),.d (.AH 6 (x.AB.map AM.enc)),.d (.AH 5 (x.AP.map Ap.enc)),.d (.AH 5 (x.AJ.map Ai.enc)),.d (.AH 3 (x.AI.map AZ.enc))]:=λ_=>rfl;have n:∀x:Al,x.enc.sz=6:=λ_=>rfl;have o:∀x:Al,x.enc.shape.size=6:=λx=>by rw[D4];rfl
 have m:decide (x=y)=(decide (x.AR=y.AR)&&(decide (x.Ac=y.Ac)&&(decide (x.AB=y.AB)&&(decide (x.AP=y.AP)&&(decide (x.AJ=y.AJ)&&decide (x.AI=y.AI)))))):=by
  rw[E3];cases x;cases y;simp
 rw[m]at h;simp[Zvz,c,n,o]at h⊢;refine dq hP (a:=x.AR) (b:=y.AR) e.AR ?_;by_cases f:x.AR=y.AR
 ·simp[f,c]at h⊢;refine Yke hP e.Ac ?_;by_cases g:x.Ac=y.Ac
  ·simp[g,c]at h⊢;refine Aa.Si (Xuo hP e.AB e.Am ?_).Cc;by_cases i:x.AB=y.AB
   ·simp[i,c]at h⊢;refine Aa.Si (X9u hP e.AP e.FH ?_).Cc;by_cases j:x.AP=y.AP
    ·simp[j,c]at h⊢;refine Aa.Si (Xqy hP e.AJ e.Ag ?_).Cc;by_cases k:x.AJ=y.AJ
     ·simp[k,c]at h⊢;refine Aa.Si (Xqz hP e.AI e.CC ?_).Cc;by_cases l:x.AI=y.AI
      ·simpa[l,c]using h
      ·simpa[l,c]using h
     ·simpa[k,c]using h
    ·simpa[j,c]using h
   ·simpa[i,c]using h
  ·simpa[g,c]using h
 ·simpa[f,c]using h
omit hP
def Zd8:GI prog 72 227 6 183 237 182 119:=⟨⟨_,Zk5,by kernel_rfl⟩,⟨_,Zmh,by kernel_rfl⟩,⟨_,Zk4,by kernel_rfl⟩,⟨_,Zjk,by kernel_rfl⟩,by kernel_rfl⟩
def Xut:Xd prog 120=true:=by kernel_rfl
def Y04{P:BE}(a:P.p=prog){y:Al}{l:List AM}(e:l.length<=9223372036854775807)(f:∀x∈l,x.BJ){c b:Ob}{K:BQ->AE->Prop}(h:K (.ret (.d (.bool (l.all (Yz y))))) [(1,c),(0,b)]):Aa P 119 [.d (.AH 6 (l.map AM.enc)),.d (.fn 120 [.agg [y.enc]] [])] [(1,c),(0,b)] K:=
 dt a AT Zd8 e (by rw[a];exact Xut) (λ_=>⟨rfl,rfl⟩) (λx g i K h=>X44 a (f x g) h) h
def Zd9:GI prog 83 230 3 187 232 173 122:=⟨⟨_,Zk9,by kernel_rfl⟩,⟨_,Zad,by kernel_rfl⟩,⟨_,Zab,by kernel_rfl⟩,⟨_,Zjn,by kernel_rfl⟩,by kernel_rfl⟩
def Xq2:Xd prog 123=true:=by kernel_rfl
def Y05{P:BE}(a:P.p=prog){y:Al}{l:List AZ}(e:l.length<=9223372036854775807)(f:∀x∈l,x.CC.length<=9223372036854775807){c b:Ob}{K:BQ->AE->Prop}(h:K (.ret (.d (.bool (l.all (Qg y))))) [(1,c),(0,b)]):Aa P 122 [.d (.AH 3 (l.map AZ.enc)),.d (.fn 123 [.agg [y.enc]] [])] [(1,c),(0,b)] K:=
 dt a AT Zd9 e (by rw[a];exact Xq2) (λ_=>⟨rfl,rfl⟩) (λx g i K h=>Xuq a (f x g) h) h
end Go.Ab
