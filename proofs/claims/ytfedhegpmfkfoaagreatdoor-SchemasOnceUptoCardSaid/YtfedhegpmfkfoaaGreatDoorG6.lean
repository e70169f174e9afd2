/- Joined texts, part 6 of 19. Contracts: types.all of Schema. Condition: the program is the seat's. -/
import Derived.Test.YtfedhegpmfkfoaaGreatDoorG4
import Derived.Test.YtfedhegpmfkfoaaGreatDoorG5
import Derived.Test.YtfedhegpmfkfoaaGreatDoorProg
import Derived.KernelRfl
set_option maxRecDepth 100000
set_option linter.unusedSimpArgs false
set_option linter.unusedVariables false
set_option linter.unusedSectionVars false
set_option linter.defProp false
namespace Go.Ab
open Go Go.Proofs
def HH (f:Ad):V:=.d f.enc
def I2 (d:Ax):D:=.agg [Xg d.names,.AM d.name,if d.Aw=[] then .AT else X9 d.Aw,iD d.CA]
theorem Y2f (d:Ax):D.le (I2 d) d.enc:=by
 have e:d.enc=.agg [Xg d.names,.AM d.name,X9 d.Aw,iD d.CA]:=rfl;rw[e,I2];refine D.le.agg (Bq.cons (D.le.refl _) (Bq.cons (D.le.refl _) (Bq.cons ?_ (Bq.cons (D.le.refl _) Bq.nil))));split
 ·rename_i h;rw[h];exact D.le.nil 1
 ·exact D.le.refl _
def HG (d:Ax):V:=.d (I2 d)
def ND (d:Ax):V:=.d d.enc
def Kd (s:AI):D:=.agg [.AM s.name,.AM s.FJ,iD s.Bz,iD s.BT,.AF 11 (s.AL.map Ad.enc),.AF 4 (s.Aj.map I2)]
theorem Zba (s:AI):D.le (Kd s) s.enc:=by
 have e:s.enc=.agg [.AM s.name,.AM s.FJ,iD s.Bz,iD s.BT,.AF 11 (s.AL.map Ad.enc),.AF 4 (s.Aj.map Ax.enc)]:=rfl;rw[e,Kd];exact D.le.agg (Bq.cons (D.le.refl _) (Bq.cons (D.le.refl _) (Bq.cons (D.le.refl _) (Bq.cons (D.le.refl _) (Bq.cons (D.le.refl _) (Bq.cons (D.le.AF (Bq.map λx _=>Y2f x)) Bq.nil))))))
theorem rJ {a:Type}(f g:a->V){d l:List a}(b:d.length<=l.length):(d.map f++(l.drop d.length).map g).length=l.length:=by simp;omega
theorem rH {a:Type}(f g:a->V){d l:List a}(b:d.length<l.length)(h:d.length<(d.map f++(l.drop d.length).map g).length):(d.map f++(l.drop d.length).map g)[d.length]=g l[d.length]:=by
 rw[List.getElem_append_right (by simp)];simp
theorem rM {b:Type}(f g:b->V){d l:List b}(a:d.length<l.length)(z:b):(d.map f++(l.drop d.length).map g).set d.length (f z)=(d++[z]).map f++(l.drop (d++[z]).length).map g:=by
 rw[List.set_append_right _ _ (by simp),Db a,List.length_map,Nat.sub_self,Cg,List.set_cons_zero];simp
section
variable {P:Az} (hP:P.p=Tryz.prog)
include hP
theorem Xo3 {a:List D}(c:∀x∈a,x.sz=11)(e:a.length<=1000000){b:AB}{K:V->AB->Prop}(h:K (.sl (fresh b) a.length) ((fresh b,.Ao 136 11 (a.map .d))::b)):CD P 177 [.d (.AF 11 a)] b K:=
 G9 (ds:=[.AF 11 a]) (Zs hP AO Zb2 c (by omega) ⟨rfl,rfl⟩) h
theorem Xym {a:List D}(c:∀x∈a,x.sz=4)(e:a.length<=1000000){b:AB}{K:V->AB->Prop}(h:K (.sl (fresh b) a.length) ((fresh b,.Ao 98 4 (a.map .d))::b)):CD P 178 [.d (.AF 4 a)] b K:=
 G9 (ds:=[.AF 4 a]) (Zs hP AO Zb3 c (by omega) ⟨rfl,rfl⟩) h
theorem Xz4 {y:Ah}{id m i M:Nat}{vs:List V}{s:AI}(bl:s.AL.length<=1000000)(bk:s.Aj.length<=1000000)(bn:∀d∈s.Aj,d.names.length<=1000000000000){f:AB}(hc:RC y f)(hi:AA f id=some (.Ao 54 6 vs))(hl:vs.length=m)(hv:vs[i]? = some (.d s.enc))(a5:∀p,BO p vs=false)(b1:id≠1/\id≠2)
 (L:AA f M=some (Um (s.AL.map Ad.name))) {K:A7->AB->Prop}
 (h1:∀q,V4 y.Al (y.Au.map At.name) s=some q->K (.ret (.BE [])) (AG f id (.Ao 54 6 (vs.set i (.d (Kd q)))))) (h0:V4 y.Al (y.Au.map At.name) s=none->Pk K f):
 AV P 90 [.ptr 4 [],.ep id m 6 i 0 [],.mp M] f K:=by
 refine AV.Gb ?_;refine Xk hP AO Zoh Zkn BD.nil λ_ ag=>?_;obtain⟨a3,aq⟩:=EK.1 hv;have pe:s.enc=.agg [.AM s.name,.AM s.FJ,iD s.Bz,iD s.BT,.AF 11 (s.AL.map Ad.enc),.AF 4 (s.Aj.map Ax.enc)]:=rfl;rw[pe]at aq;have N:i<m:=by omega
 have l4:=Xf hc.o4;have bt:=Xf hi;have ab:fresh f≠id:=by omega
 have c4:=hc.o4;simp[Zhr,c4,hi,hl,a3,N,aq];refine Yy hP hc.o5 (λn hn=>?_) (λhn=>?_)
 ·simp[c4,hi,hl,a3,N,aq];refine Xo3 hP (by intro x H;obtain⟨r,_,rfl⟩:=C9.1 H;rfl) (by simpa using bl) ?_;simp[hi,ab,hl,a3,N,aq,DZ,Bt,Zf];refine⟨⟨_,_,_,⟨rfl,rfl,rfl⟩,by simp⟩,?_⟩;have sR:V4 y.Al (y.Au.map At.name) s=(Ju s.AL (Js (y.Au.map At.name))).bind λfs=>(Ju s.Aj (Lr (s.AL.map Ad.name))).map λds=>{s with Bz:=(n:Int),AL:=fs,Aj:=ds}:=by rw[V4,hn,Option.bind_some]
  obtain⟨vs',W⟩:∃vs',vs'=vs.set i (V.agg [.d (.AM s.name),.d (.AM s.FJ),.d (.int .i64 n),.d (iD s.BT),.sl (fresh f) s.AL.length,.d (.AF 4 (s.Aj.map Ax.enc))]):=⟨_,rfl⟩
  rw[<-W];have av:vs'.length=m:=by rw[W];simpa using hl
  have a8:∀h:i<vs'.length,vs'[i]=V.agg [.d (.AM s.name),.d (.AM s.FJ),.d (.int .i64 n),.d (iD s.BT),.sl (fresh f) s.AL.length,.d (.AF 4 (s.Aj.map Ax.enc))]:=λh=>by simp[W]
  have bj:=hc.set (vs':=vs') hi (by decide);have fs:fresh (AG f id (.Ao 54 6 vs'))=fresh f:=by simp
  have nm:∀{n:Nat}{kp:List Nat}{Q:List V},fresh f<=n->AE n kp (fresh f)=false->(∀p,BO p Q=false)->AH (AE n kp) ((fresh f,.Ao 136 11 Q)::AG f id (.Ao 54 6 vs'))=true:=λhn hk hu=>by
   simp only[AH,hu,Bool.not_false,EA];refine Xn ?_ (X8 ag hn);rw[W];exact Xy (by simp[V.BJ,BO,hk]) i (a5 _)
  have aw:∀{Q:List V}{x:Nat},x=1\/x=2->AA ((fresh f,Ob.Ao 136 11 Q)::AG f id (.Ao 54 6 vs')) x=AA f x:=λ{Q x} H=>by
   have e1:fresh f≠x:=by omega
   rw[AA,Af e1,Xc f id x ⟨_,hi⟩,Af (by omega)]
  have b4:∀{Q:List V},AA ((fresh f,Ob.Ao 136 11 Q)::AG f id (.Ao 54 6 vs')) M=some (Um (s.AL.map Ad.name)):=λ{Q}=>by
   have e1:fresh f≠M:=by have:=Xf L;omega
   have e2:M≠id:=λe=>by rw[e,hi]at L;simp[Um]at L
   rw[AA,Af e1,Xc f id M ⟨_,hi⟩,Af e2,L]
  refine Ae.go (ι:=List Ad) (λd=>[(0,.ptr 4 []),(1,.ep id m 6 i 0 []),(2,.mp M),(36,.d (.int .i64 s.AL.length)),(37,.d (.int .i64 d.length))])
   (λd=>(fresh f,.Ao 136 11 ((d++s.AL.drop d.length).map HH))::AG f id (.Ao 54 6 vs')) (λd=>d.length<=s.AL.length/\Ju s.AL (Js (y.Au.map At.name))=DB (λ_=>Js (y.Au.map At.name)) d (s.AL.drop d.length)) (λd=>s.AL.length-d.length) [] ⟨by simp,rfl⟩ (by simp) (by simp;exact λ_ _=>rfl) ?_
  rintro d ⟨hd,hg⟩ R rn re rr rp;have wl:((d++s.AL.drop d.length).map HH).length=s.AL.length:=by simp;omega
  by_cases ae:d.length<s.AL.length
  ·have wr:IntKind.i64.wrap ((d.length:Int)+1)=(d.length:Int)+1:=IntWalk.i64_in _ (by omega);have wk:=Jp HH ae;have ws:=Jq HH ae;rw[Db ae,Zd]at hg;generalize hu:s.AL[d.length]=u at hg wk;have ue:HH u=.d (.agg [.AM u.name,.agg [iD u.type.kind,iD u.type.lo,iD u.type.hi,.AM u.type.CF,iD u.type.unit,Xg u.type.names],.agg [iD u.w0,iD u.w1,iD u.w2,iD u.w3]]):=rfl;simp only[ue]at wk;generalize b3:(d++s.AL.drop d.length).map HH=Q at wl wk ws;have bb:∀Q,RC y ((fresh f,.Ao 136 11 Q)::AG f id (.Ao 54 6 vs')):=λQ=>by
    have:=bj.cons (.Ao 136 11 Q)
    rwa [fs]at this
   have c4:=λQ=>(bb Q).o4;have w1:=ws {u with type:={u.type with unit:=-1} };have bh:Q.set d.length (.d (.agg [.AM u.name,.agg [iD u.type.kind,iD u.type.lo,iD u.type.hi,.AM u.type.CF,iD (-1),.AF 1 (u.type.names.map .AM)],.agg [iD u.w0,iD u.w1,iD u.w2,iD u.w3]]))=((d++[{u with type:={u.type with unit:=-1} }])++s.AL.drop (d++[{u with type:={u.type with unit:=-1} }]).length).map HH:=w1;have Cm:∀(z:Ad)(a7:List V)(a6:Xb),Js (y.Au.map At.name) u=some z->a7=((d++[z])++s.AL.drop (d++[z]).length).map HH->Xj a6 [0,1,2,36,37]=[(0,.ptr 4 []),(1,.ep id m 6 i 0 []),(2,.mp M),(36,.d (.int .i64 s.AL.length)),(37,.d (.int .i64 (d.length+1:Nat)))]->
    R .normal a6 ((fresh f,.Ao 136 11 a7)::AG f id (.Ao 54 6 vs')):=λz a7 a6 hz ao hk=>by
    rw[hz,Option.bind_some]at hg;refine rn [] (d++[z]) _ _ ⟨by simp;omega,by rw[hg,DV];rfl⟩ (by simp;omega) (by simpa using hk) ?_ ?_ ?_
    ·rw[ao];have:¬fresh f+1<=fresh f:=by omega
     simp[AE,this]
    ·have:=Xf L;simp[AE];omega
    ·exact nm (by simp) (by simp[AE]) (λp=>Xw _ _)
   simp[Xzq,ae,c4,ab,hi,av,a8,N,wl,wk,bt,Xg];refine⟨λk1 k2=>?_,λk1=>?_⟩
   ·refine Yy hP (bb _).o6 (λx H=>?_) (λH=>?_)
    ·have hz:Js (y.Au.map At.name) u=some {u with type:={u.type with unit:=x} }:=by
      rw[Js,BL ⟨k1,k2⟩,H];rfl
     have w2:Q.set d.length (.d (.agg [.AM u.name,.agg [iD u.type.kind,iD u.type.lo,iD u.type.hi,.AM u.type.CF,iD x,.AF 1 (u.type.names.map .AM)],.agg [iD u.w0,iD u.w1,iD u.w2,iD u.w3]]))=((d++[{u with type:={u.type with unit:=x} }])++s.AL.drop (d++[{u with type:={u.type with unit:=x} }]).length).map HH:=ws {u with type:={u.type with unit:=x} };simp[wl,wk,ae,Xzr];exact Cm _ _ _ hz w2 (by simp[wr])
    ·refine rp _ _ _ ?_;have ah:=h0 (by rw[sR,hg,Js,BL ⟨k1,k2⟩,H];rfl);simp;have e:∀Q,Xh (AE (fresh f) [fresh f]) ((fresh f,Ob.Ao 136 11 Q)::AG f id (.Ao 54 6 vs'))=(fresh f,Ob.Ao 136 11 Q)::AG f id (.Ao 54 6 vs'):=λQ=>by simp[AE]
     have ao:∀p,BO p (Q.set d.length (.d (.agg [.AM u.name,.agg [iD u.type.kind,iD u.type.lo,iD u.type.hi,.AM u.type.CF,iD (-1),.AF 1 (u.type.names.map .AM)],.agg [iD u.w0,iD u.w1,iD u.w2,iD u.w3]])))=false:=λp=>by rw[bh];exact Xw _ _
     refine⟨[fresh f],by simp,by rw[e];exact nm (BV _) (by simp[AE]) ao,_,Wk.refl _,[fresh f],by simp[A7.BJ],by rw[e,e];exact nm (BV _) (by simp[AE]) ao,?_⟩;rw[e,e];exact ah _ (aw (.inl rfl)) (aw (.inr rfl))
   ·have hz:Js (y.Au.map At.name) u=some {u with type:={u.type with unit:=-1} }:=by
     rw[Js,Af (λhh=>hh.2 (k1 hh.1))]
    simp[Xzr];exact Cm _ _ _ hz bh (by simp[wr])
  ·have az:d.length=s.AL.length:=by omega
   rw[az,List.drop_length,DB]at hg;simp[Xzq,ae];refine re _ _ _ ?_;have e:d.map HH++(s.AL.map HH).drop d.length=d.map HH:=by rw[Gj (by simp[az]),GL]
   rw[e];rw[hg,Option.bind_some]at sR;have nF:fresh f+1≠id:=by omega
   have fF:fresh ((fresh f,Ob.Ao 136 11 (d.map HH))::AG f id (.Ao 54 6 vs'))=fresh f+1:=by simp
   simp[hi,ab,av,a8,N];refine Xym hP (by intro x H;obtain⟨r,_,rfl⟩:=C9.1 H;rfl) (by simpa using bk) ?_;rw[fF];simp[hi,ab,nF,av,a8,N,DZ,Bt,Zf];refine⟨⟨_,_,_,⟨rfl,rfl,rfl⟩,by simp⟩,?_⟩;obtain⟨vd,ai⟩:∃vd,vd=vs'.set i (V.agg [.d (.AM s.name),.d (.AM s.FJ),.d (.int .i64 n),.d (iD s.BT),.sl (fresh f) s.AL.length,.sl (fresh f+1) s.Aj.length]):=⟨_,rfl⟩
   rw[<-ai];have bz:vd.length=m:=by rw[ai];simpa using av
   have bg:∀h:i<vd.length,vd[i]=V.agg [.d (.AM s.name),.d (.AM s.FJ),.d (.int .i64 n),.d (iD s.BT),.sl (fresh f) s.AL.length,.sl (fresh f+1) s.Aj.length]:=λh=>by simp[ai]
   let G:List V->AB:=λl=>(fresh f+1,.Ao 98 4 l)::(fresh f,.Ao 136 11 (d.map HH))::AG f id (.Ao 54 6 vd);have bG:∀l,AA (G l) (fresh f+1)=some (.Ao 98 4 l):=λl=>by simp[G,AA]
   have bS:∀l ay,AG (G l) (fresh f+1) (.Ao 98 4 ay)=G ay:=λl ay=>by simp[G,AG]
   have bI:∀l,AA (G l) id=some (.Ao 54 6 vd):=λl=>by simp[G,AA,ab,nF,Xc f id id ⟨_,hi⟩]
   have bM:∀l,AA (G l) M=some (Um (s.AL.map Ad.name)):=λl=>by
    have e0:fresh f+1≠M:=by have:=Xf L;omega
    have e1:fresh f≠M:=by have:=Xf L;omega
    have e2:M≠id:=λe=>by rw[e,hi]at L;simp[Um]at L
    show AA ((fresh f+1,_)::(fresh f,_)::AG f id _) M=_;rw[AA,Af e0,AA,Af e1,Xc f id M ⟨_,hi⟩,Af e2,L]
   have Z:∀l,fresh (G l)=fresh f+2:=λl=>by
    have:¬fresh f+1<=fresh f:=by omega
    simp[G,this]
   have a9:∀{l:List V}{x:Nat},x=1\/x=2->AA (G l) x=AA f x:=λ{l x} H=>by
    have e0:fresh f+1≠x:=by omega
    have e1:fresh f≠x:=by omega
    show AA ((fresh f+1,_)::(fresh f,_)::AG f id _) x=_;rw[AA,Af e0,AA,Af e1,Xc f id x ⟨_,hi⟩,Af (by omega)]
   have bN:∀{n:Nat}{kp:List Nat}{l:List V},fresh f<=n->AE n kp (fresh f)=false->AE n kp (fresh f+1)=false->BO (AE n kp) l=false->AH (AE n kp) (G l)=true:=λ{n kp l} hn hk bm hu=>by
    simp only[G,AH,hu,Bool.not_false,EA];have:=Xw (p:=AE n kp) Ad.enc d;rw[show d.map HH=d.map (λx=>V.d x.enc) from rfl,this];simp only[Bool.not_false,EA];refine Xn ?_ (X8 ag hn);rw[ai,W,List.set_set];exact Xy (by simp[V.BJ,BO,hk,bm]) i (a5 _)
   show Ae _ _ _ _ (G (s.Aj.map (V.d∘Ax.enc)));refine qO (ι:=List Ax) (λe=>[(1,.ep id m 6 i 0 []),(2,.mp M),(87,.d (.int .i64 s.Aj.length)),(88,.d (.int .i64 e.length))])
    (λe=>G (e.map HG++(s.Aj.drop e.length).map ND)) (λe=>e.length<=s.Aj.length/\Ju s.Aj (Lr (s.AL.map Ad.name))=DB (λ_=>Lr (s.AL.map Ad.name)) e (s.Aj.drop e.length)) (λe=>s.Aj.length-e.length) [] ⟨by simp,rfl⟩ (by simp) (by simp;rfl) ?_
   rintro e ⟨he,aa⟩ R rn re rr rp;by_cases F:e.length<s.Aj.length
   ·have wr:IntKind.i64.wrap ((e.length:Int)+1)=(e.length:Int)+1:=IntWalk.i64_in _ (by omega);have wl:=rJ HG ND he;have wk:=rH HG ND F;have ws:=rM HG ND F;rw[Db F,Zd]at aa;have bp:=bn _ (CS F);generalize hu:s.Aj[e.length]=u at aa wk bp;have ue:ND u=.d (.agg [Xg u.names,.AM u.name,X9 u.Aw,iD u.CA]):=rfl;simp only[ue]at wk;generalize bc:e.map HG++(s.Aj.drop e.length).map ND=l at wl wk ws;have nG:fresh f+1≠id:=nF;simp[Xzp,F,bG,bS,bI,bz,bg,N,wl,wk,Xg,X9];have an:∀p,BO p l=false:=λp=>by
     subst bc;have a1:=Xw (p:=p) I2 e;have a2:=Xw (p:=p) Ax.enc (s.Aj.drop e.length);have ap:∀(a b:List V),BO p (a++b)=(BO p a||BO p b):=λa b=>by
      induction a with
      |nil=>simp[BO]
      |cons x r ih=>simp[BO,ih,Bool.or_assoc]
     rw[ap];simp only[FC];exact⟨a1,a2⟩
    let X:List Nat->V:=λc=>if c=[] then .d (.agg [.AF 1 (u.names.map .AM),.AM u.name,.AT,iD u.CA]) else .agg [.d (.AF 1 (u.names.map .AM)),.d (.AM u.name),.sl (fresh f+2) c.length,.d (iD u.CA)];let J:List Nat->AB:=λc=>(if c=[] then[] else[(fresh f+2,Ob.A9 3 1 (c.map λ(x:Nat)=>iD x))])++G (l.set e.length (X c));have pn:Lr (s.AL.map Ad.name) u=none->∀c,Yw 3 (Wt (Ys P [] (S2.rg [] [(1,.a (.t 1)),(2,.a (.t 2)),(87,.a (.t 87)),(88,.b (.Bc .add (.t 0) (.t 1)) (.a (.t 88)) (.a (.int .i64 1)))] []) R) R) (.panic (.d Y5)) [] (J c):=λe0 c=>by
     have ah:=h0 (by rw[sR,aa,e0];rfl);simp;refine rp _ _ _ ?_;simp;have kq:∀j,fresh f<=j->j<=fresh f+2->AE (fresh f) [fresh f,fresh f+1,fresh f+2] j=false:=λj h1 h2=>by simp[AE];omega
     have dB:∀l,Xh (AE (fresh f) [fresh f,fresh f+1,fresh f+2]) (G l)=G l:=λl=>by
      simp[G,Xh,kq]
     have dk:Xh (AE (fresh f) [fresh f,fresh f+1,fresh f+2]) (J c)=J c:=by
      simp only[J];split
      ·simpa using dB _
      ·simp[Xh,kq,dB]
     have nk:AH (AE (fresh f) [fresh f,fresh f+1,fresh f+2]) (J c)=true:=by
      simp only[J];split
      ·rename_i hh;simp only[List.nil_append];exact bN (BV _) (kq _ (by omega) (by omega)) (kq _ (by omega) (by omega)) (Xy (by simp[X,hh,V.BJ]) _ (an _))
      ·rename_i hh;simp only[List.cons_append,List.nil_append,AH];exact bN (BV _) (kq _ (by omega) (by omega)) (kq _ (by omega) (by omega)) (Xy (by simp[X,hh,V.BJ,BO,kq]) _ (an _))
     have bd:∀x,x=1\/x=2->AA (J c) x=AA f x:=λx H=>by
      simp only[J];split
      ·simpa using a9 H
      ·have:fresh f+2≠x:=by omega
       simp only[List.cons_append,List.nil_append,AA,Af this];exact a9 H
     refine⟨[fresh f,fresh f+1,fresh f+2],by simp,by rw[dk];exact nk,_,Wk.refl _,[fresh f,fresh f+1,fresh f+2],by simp[A7.BJ],by rw[dk,dk];exact nk,?_⟩;rw[dk,dk];exact ah _ (bd 1 (.inl rfl)) (bd 2 (.inr rfl))
    refine Ae.go (ι:=List Nat) (λc=>[(1,.ep id m 6 i 0 []),(2,.mp M),(9,.ep (fresh f+1) s.Aj.length 4 e.length 0 []),(87,.d (.int .i64 s.Aj.length)),(88,.d (.int .i64 e.length)),(103,.d (.AF 1 (u.names.map .AM))),(104,.d (.int .i64 u.names.length)),(105,.d (.int .i64 c.length))])
     J (λc=>c.length<=u.names.length/\O8 (s.AL.map Ad.name) [] u.names=O8 (s.AL.map Ad.name) c (u.names.drop c.length)) (λc=>u.names.length-c.length) [] ⟨by simp,rfl⟩ (by simp) (by simp[J,X]) ?_
    rintro c ⟨b2,Y⟩ R2 bv bu b5 bx;by_cases ad:c.length<u.names.length
    ·have bi:IntKind.i64.wrap ((c.length:Int)+1)=(c.length:Int)+1:=IntWalk.i64_in _ (by omega);rw[Db ad,O8]at Y;have b0:∀v,(l.set e.length v).set e.length=λw=>l.set e.length w:=λv=>by funext w;rw[List.set_set]
     have next:∀x,CU (s.AL.map Ad.name) u.names[c.length]=some x->R2 .normal [(1,.ep id m 6 i 0 []),(2,.mp M),(9,.ep (fresh f+1) s.Aj.length 4 e.length 0 []),(87,.d (.int .i64 s.Aj.length)),(88,.d (.int .i64 e.length)),(103,.d (.AF 1 (u.names.map .AM))),(104,.d (.int .i64 u.names.length)),(105,.d (.int .i64 (c.length+1:Nat)))] (J (c++[x])):=λx H=>by
      rw[H,Option.bind_some]at Y;have fO:fresh f+2<=fresh (J c):=by
       simp only[J];split
       ·simp[Z]
       ·simp[Z]
      have ne:c++[x]≠[]:=by simp
      have kq:AE (fresh (J c)) [fresh f+2] (fresh f+2)=false:=by simp[AE]
      have aj:∀j,j<fresh f+2->AE (fresh (J c)) [fresh f+2] j=false:=λj hj=>by simp[AE];omega
      refine bv [fresh f+2] (c++[x]) _ _ ⟨by simp;omega,by rw[Y,DV];rfl⟩ (by simp;omega) (by simp) ?_ ?_ ?_
      ·have e1:J (c++[x])=(fresh f+2,Ob.A9 3 1 ((c++[x]).map λ(x:Nat)=>iD x))::G (l.set e.length (X (c++[x]))):=by simp[J]
       rw[e1,Xh,kq];simp only[BF,Ci];rw[Xe (by rw[Z];exact fO)]
      ·have:=Xf L;simp[aj id (by omega),aj M (by omega),aj (fresh f+1) (by omega)]
      ·have e1:J (c++[x])=(fresh f+2,Ob.A9 3 1 ((c++[x]).map λ(x:Nat)=>iD x))::G (l.set e.length (X (c++[x]))):=by simp[J]
       rw[e1];simp only[AH];exact bN (by omega) (aj _ (by omega)) (aj _ (by omega)) (Xy (by simp[X,V.BJ,BO,kq]) _ (an _))
     have ax:CU (s.AL.map Ad.name) u.names[c.length]=none->R2 (.panic (.d Y5)) [] (J c):=λH=>by
      rw[H,Option.bind_none]at Y;refine bx _ _ _ ?_;have:=pn (by rw[Lr,Y];rfl) c;simpa using this
     by_cases T:c=[]
     ·subst T;have a4:0<u.names.length:=ad;have w1:IntKind.i64.wrap 1=1:=IntWalk.i64_in _ (by omega);have nx:=next
      simp[J,X]at nx;have sp:=ax;simp[J,X]at sp;simp[gI,a4,J,X,bG,bS,bM,wl,F];refine⟨Yy hP (bM _) (λx H=>?_) (λH=>by simpa using sp H),Yy hP (bM _) (λx H=>?_) (λH=>by simpa using sp H)⟩
      ·simp[Z,bG,bS,wl,F,DZ,Bt,Zf,AG,AA,w1];simpa using nx x H
      ·simp[Z,bG,bS,wl,F,DZ,Bt,Zf,AG,AA,w1];simpa using nx x H
     ·have nx:=next
      simp[J,X]at nx;have sp:=ax;simp[J,X,T]at sp;have ba:(2*(c.length+1)+192)*8<=281474976710656:=by omega
      have al:∀l o,AA ((fresh f+2,o)::G l) M=some (Um (s.AL.map Ad.name)):=λl o=>by
       have:fresh f+2≠M:=by have:=Xf L;omega
       rw[AA,Af this,bM]
      simp[gI,ad,J,X,T,bG,bS,bM,wl,F];refine⟨Yy hP (al _ _) (λx H=>?_) (λH=>by simpa using sp H),Yy hP (al _ _) (λx H=>?_) (λH=>by simpa using sp H)⟩
      ·simp[Z,bG,bS,wl,F,DZ,Bt,Zf,AG,AA,bi,ba];simpa using nx x H
      ·simp[Z,bG,bS,wl,F,DZ,Bt,Zf,AG,AA,bi,ba];simpa using nx x H
    ·have bo:c.length=u.names.length:=by omega
     rw[bo,List.drop_length,O8]at Y;simp[gI,ad];refine bu _ _ _ ?_;have bf:CU (s.AL.map Ad.name) u.name=none->R (.panic (.d Y5)) [] (J c):=λH=>by
      have:=pn (by rw[Lr,Y,Option.bind_some,H];rfl) c;simpa using this
     have hR:∀t,CU (s.AL.map Ad.name) u.name=some t->Lr (s.AL.map Ad.name) u=some {u with Aw:=c.map Int.ofNat,CA:=t}:=λt ht=>by
      rw[Lr,Y,Option.bind_some,ht];rfl
     have Cm:∀t ak,CU (s.AL.map Ad.name) u.name=some t->Wk ak ((fresh f+2,.AY)::G (l.set e.length (HG {u with Aw:=c.map Int.ofNat,CA:=t})))\/ak=G (l.set e.length (HG {u with Aw:=c.map Int.ofNat,CA:=t}))->R .normal [(1,.ep id m 6 i 0 []),(2,.mp M),(87,.d (.int .i64 s.Aj.length)),(88,.d (.int .i64 (e.length+1:Nat)))] ak:=λt ak ht hw=>by
      rw[hR t ht,Option.bind_some]at aa;have hz:=ws {u with Aw:=c.map Int.ofNat,CA:=t};rw[hz]at hw;have ac:∃au,Wk ak au/\Xh (AE (fresh (G l)) []) au=G ((e++[{u with Aw:=c.map Int.ofNat,CA:=(t:Int) }]).map HG++(s.Aj.drop (e++[{u with Aw:=c.map Int.ofNat,CA:=(t:Int) }]).length).map ND):=by
       rcases hw with hw|rfl
       ·refine⟨_,hw,?_⟩;have kg:AE (fresh (G l)) [] (fresh f+2)=true:=by simp[AE,Z]
        rw[Xh,BL kg,Xe (by rw[Z,Z];omega)]
       ·exact⟨_,Wk.refl _,Xe (by rw[Z,Z];omega)⟩
      obtain⟨au,w1,w2⟩:=ac;refine rn [] (e++[{u with Aw:=c.map Int.ofNat,CA:=t}]) _ _ au w1 ⟨by simp;omega,by rw[aa,DV];rfl⟩ (by simp;omega) (by simp) ?_ ?_ ?_
      ·rw[bc];exact w2
      ·have:=Xf L;simp[Z,AE];omega
      ·refine bN (by rw[Z];omega) (by simp[AE,Z]) (by simp[AE,Z]) ?_;rw[<-hz];exact Xy rfl _ (an _)
     by_cases T:c=[]
     ·have sp:=bf;simp[J,X,T]at sp;simp[J,X,T,bG,bS,bM,wl,F];refine Yy hP (bM _) (λt ht=>?_) (λH=>by simpa using sp H);simp[bG,bS,wl,F,DZ,Bt,Zf,wr];have:=Cm t _ ht (.inr rfl);simpa[T,HG,I2,Xg,iD]using this
     ·have al:∀l o,AA ((fresh f+2,o)::G l) M=some (Um (s.AL.map Ad.name)):=λl o=>by
       have:fresh f+2≠M:=by have:=Xf L;omega
       rw[AA,Af this,bM]
      have sp:=bf;simp[J,X,T]at sp;simp[J,X,T,bG,bS,bM,wl,F,AA];refine Yy hP (al _ _) (λt ht=>?_) (λH=>by simpa using sp H);simp[bG,bS,wl,F,DZ,Bt,Zf,wr,AA,AG];have f2:=Cm t ((fresh f+2,Ob.A9 3 1 (c.map λ(x:Nat)=>iD x))::G (l.set e.length (.agg [.d (.AF 1 (u.names.map .AM)),.d (.AM u.name),.sl (fresh f+2) c.length,.d (.int .i64 t)]))) ht (.inl ?_)
      ·simpa using f2
      ·obtain⟨O,U⟩:∃O,O=(fresh f+2,Ob.A9 3 1 (c.map λ(x:Nat)=>iD x))::G (l.set e.length (.agg [.d (.AF 1 (u.names.map .AM)),.d (.AM u.name),.sl (fresh f+2) c.length,.d (.int .i64 t)])):=⟨_,rfl⟩
       have QA:¬fresh f+2=fresh f+1:=by omega
       have li:AA O (fresh f+1)=some (.Ao 98 4 (l.set e.length (.agg [.d (.AF 1 (u.names.map .AM)),.d (.AM u.name),.sl (fresh f+2) c.length,.d (.int .i64 t)]))):=by rw[U,AA,Af QA,bG]
       have lf:AA O (fresh f+2)=some (.A9 3 1 (c.map λ(x:Nat)=>iD x)):=by rw[U,AA,BL rfl]
       have g:Ct 3 O (.agg [.d (.AF 1 (u.names.map .AM)),.d (.AM u.name),.sl (fresh f+2) c.length,.d (.int .i64 t)])=some (.agg [.AF 1 (u.names.map .AM),.AM u.name,.AF 1 (c.map λ(x:Nat)=>iD x),.int .i64 t],AG O (fresh f+2) .AY):=by
        have hd:∀(x:D)(o:AB),Ct 2 o (.d x)=some (x,o):=λx o=>rfl;show FF (Ej (Ct 2) O _)=_;simp only[Ej,hd,Yew (k:=1) (n:=c.length) lf (by decide) (by simp),Uq,FF]
       have sg:AG O (fresh f+2) .AY=(fresh f+2,.AY)::G (l.set e.length (.agg [.d (.AF 1 (u.names.map .AM)),.d (.AM u.name),.sl (fresh f+2) c.length,.d (.int .i64 t)])):=by rw[U];simp[AG]
       have ac:=Ox li (i:=e.length) (v:=.agg [.d (.AF 1 (u.names.map .AM)),.d (.AM u.name),.sl (fresh f+2) c.length,.d (.int .i64 t)]) (by rw[List.getElem?_set_self (by omega)]) g (by rw[sg,AA,Af QA,bG]) rfl;rw[<-U];have af:AG (AG O (fresh f+2) .AY) (fresh f+1) (.Ao 98 4 ((l.set e.length (.agg [.d (.AF 1 (u.names.map .AM)),.d (.AM u.name),.sl (fresh f+2) c.length,.d (.int .i64 t)])).set e.length (.d (.agg [.AF 1 (u.names.map .AM),.AM u.name,.AF 1 (c.map λ(x:Nat)=>iD x),.int .i64 t]))))=(fresh f+2,.AY)::G (l.set e.length (HG {u with Aw:=c.map Int.ofNat,CA:=t})):=by
        rw[sg,AG,Af QA,bS,List.set_set];have:HG {u with Aw:=c.map Int.ofNat,CA:=(t:Int) }=.d (.agg [.AF 1 (u.names.map .AM),.AM u.name,.AF 1 (c.map λ(x:Nat)=>iD x),.int .i64 t]):=by
         simp[HG,I2,T,Xg,X9]
        rw[this]
       rw[af]at ac;exact ac
   ·have a0:e.length=s.Aj.length:=by omega
    rw[a0,List.drop_length,DB]at aa;simp[Xzp,F];refine re _ _ _ ?_;simp;have e0:(s.Aj.map ND).drop e.length=[]:=Gj (by simp[a0]);rw[e0,GL];rw[aa]at sR;have hq:V4 y.Al (y.Au.map At.name) s=some {s with Bz:=(n:Int),AL:=d,Aj:=e}:=by rw[sR];rfl
    have kq:∀j,fresh f<=j->j<=fresh f+1->AE (fresh f) [fresh f,fresh f+1] j=false:=λj h1 h2=>by simp[AE];omega
    have dB:∀l,Xh (AE (fresh f) [fresh f,fresh f+1]) (G l)=G l:=λl=>by simp[G,Xh,kq]
    have be:¬fresh f+1=fresh f:=by omega
    have lG:AA (G (e.map HG)) (fresh f+1)=some (.Ao 98 4 (e.map λx=>V.d (I2 x))):=bG _;have lF:AA (G (e.map HG)) (fresh f)=some (.Ao 136 11 (d.map λx=>V.d x.enc)):=by
     show AA ((fresh f+1,_)::(fresh f,_)::AG f id _) (fresh f)=_;rw[AA,Af be,AA,BL rfl];rfl
    obtain⟨O,U⟩:∃O,O=G (e.map HG):=⟨_,rfl⟩
    rw[<-U]at lG lF⊢;have li:AA O id=some (.Ao 54 6 vd):=by rw[U,bI]
    have g2:AA (AG O (fresh f) .AY) (fresh f+1)=some (.Ao 98 4 (e.map λx=>V.d (I2 x))):=by
     rw[Xc O (fresh f) (fresh f+1) ⟨_,lF⟩,Af be,lG]
    have g:Ct 3 O (.agg [.d (.AM s.name),.d (.AM s.FJ),.d (.int .i64 n),.d (iD s.BT),.sl (fresh f) s.AL.length,.sl (fresh f+1) s.Aj.length])=some (.agg [.AM s.name,.AM s.FJ,.int .i64 n,iD s.BT,.AF 11 (d.map Ad.enc),.AF 4 (e.map I2)],AG (AG O (fresh f) .AY) (fresh f+1) .AY):=by
     have hd:∀(x:D)(o:AB),Ct 2 o (.d x)=some (x,o):=λx o=>rfl;show FF (Ej (Ct 2) O _)=_;simp only[Ej,hd,ID (k:=0) (n:=s.AL.length) Ad.enc lF (by decide) az.symm,ID (k:=0) (n:=s.Aj.length) I2 g2 (by decide) a0.symm,Uq,FF]
    have sg:AG (AG O (fresh f) .AY) (fresh f+1) .AY=(fresh f+1,.AY)::(fresh f,.AY)::AG f id (.Ao 54 6 vd):=by
     rw[U];show AG (AG ((fresh f+1,_)::(fresh f,_)::AG f id _) _ _) _ _=_;simp[AG]
    have bq:AA (AG (AG O (fresh f) .AY) (fresh f+1) .AY) id=some (.Ao 54 6 vd):=by
     rw[sg,AA,Af nF,AA,Af ab,Xc f id id ⟨_,hi⟩,BL rfl]
    have ac:=Ox li (i:=i) (by rw[Cn (by omega),bg]) g bq rfl;have af:AG (AG (AG O (fresh f) .AY) (fresh f+1) .AY) id (.Ao 54 6 (vd.set i (.d (.agg [.AM s.name,.AM s.FJ,.int .i64 n,iD s.BT,.AF 11 (d.map Ad.enc),.AF 4 (e.map I2)]))))=(fresh f+1,.AY)::(fresh f,.AY)::AG f id (.Ao 54 6 (vs.set i (.d (Kd {s with Bz:=(n:Int),AL:=d,Aj:=e})))):=by
     rw[sg,AG,Af nF,AG,Af ab,X4,ai,W,List.set_set,List.set_set];rfl
    rw[af]at ac;have dk:Xh (AE (fresh f) [fresh f,fresh f+1]) O=O:=by rw[U];exact dB _
    refine⟨[fresh f,fresh f+1],by simp,by rw[dk,U];exact bN (BV _) (kq _ (by omega) (by omega)) (kq _ (by omega) (by omega)) (Xw _ _),_,by rw[dk];exact ac,[],by simp[A7.BJ],?_,?_⟩
    ·simp[AE,Xh];exact Xn (Xy rfl _ (a5 _)) (ag _)
    ·simp[AE,Xh];exact h1 _ hq
 ·simp;have ah:=h0 (by rw[V4,hn];rfl);have dk:Xh (AE (fresh f) []) f=f:=by simp
  refine⟨[],by simp,by simpa using ag [],_,Wk.refl _,[],by simp[A7.BJ],by simpa using ag [],?_⟩;simpa using ah f rfl rfl
end
structure TL (T:V)(lid:Nat)(tob:BG->Ob):Prop where
 nil:Lh T
 fa:∀ob t k,AA ob lid=some (tob t)->k<5->IB ob k k T
 nmV:∀ob t,AA ob lid=some (tob t)->Ga ob (W3 0 0 T)=.d (.AM t.name)
 nmS:∀ob t,AA ob lid=some (tob t)->H2 ob 1 false (W3 0 0 T)
 paV:∀ob t,AA ob lid=some (tob t)->Ga ob (W3 1 1 T)=.d (.AM t.path)
 paS:∀ob t,AA ob lid=some (tob t)->H2 ob 1 false (W3 1 1 T)
 vaV:∀ob t,AA ob lid=some (tob t)->Ga ob (W3 2 2 T)=.d (iD t.var)
 vaS:∀ob t,AA ob lid=some (tob t)->H2 ob 1 false (W3 2 2 T)
 stv:∀ob t x (K:V->AB->Prop),AA ob lid=some (tob t)->K .undef (AG ob lid (tob {t with var:=x}))->GH ob 1 (.d (.int .i64 x)) K (W3 2 2 T)
 stf:∀ob t x (K:V->AB->Prop),AA ob lid=some (tob t)->K .undef (AG ob lid (tob {t with field:=x}))->GH ob 1 (.d (.int .i64 x)) K (W3 3 3 T)
def Rh (a:List V)(k:Nat)(x:Am)(t:BG):Ob:=.Ao 50 8 (a.set k (.d ({x with CF:=t}:Am).enc))
def TA (b:List V)(k:Nat)(x:BB)(t:BG):Ob:=.Ao 124 11 (b.set k (.d ({x with a:=t}:BB).enc))
def S6 (a:List V)(k:Nat)(x:BB)(t:BG):Ob:=.Ao 124 11 (a.set k (.d ({x with b:=t}:BB).enc))
def S7 (a:List V)(k:Nat)(x:Ba)(t:BG):Ob:=.Ao 127 7 (a.set k (.d ({x with Ce:=t}:Ba).enc))
theorem Yp2 {b:List V}{k n a:Nat}(x:Am)(d:k<b.length)(f:b.length=n):TL (.ep a n 8 k 3 [3]) a (Rh b k x):=by
 subst f;refine⟨by simp,λe t k h _=>by simp,?_,?_,?_,?_,?_,?_,?_,?_⟩
 iterate 6 exact λe t h=>by simp[h,Rh,Am.enc,BG.enc,d]
 iterate 2 exact λe t x K h c=>by simp[h,Rh,Am.enc,BG.enc,d]at c⊢;simpa[DZ,Bt,Zf]using c
theorem Yz3 {b:List V}{k n a:Nat}(x:BB)(d:k<b.length)(f:b.length=n):TL (.ep a n 11 k 1 [1]) a (TA b k x):=by
 subst f;refine⟨by simp,λe t k h _=>by simp,?_,?_,?_,?_,?_,?_,?_,?_⟩
 iterate 6 exact λe t h=>by simp[h,TA,BB.enc,BG.enc,d]
 iterate 2 exact λe t x K h c=>by simp[h,TA,BB.enc,BG.enc,d]at c⊢;simpa[DZ,Bt,Zf]using c
theorem Yz4 {b:List V}{k n a:Nat}(x:BB)(d:k<b.length)(f:b.length=n):TL (.ep a n 11 k 6 [2]) a (S6 b k x):=by
 subst f;refine⟨by simp,λe t k h _=>by simp,?_,?_,?_,?_,?_,?_,?_,?_⟩
 iterate 6 exact λe t h=>by simp[h,S6,BB.enc,BG.enc,d]
 iterate 2 exact λe t x K h c=>by simp[h,S6,BB.enc,BG.enc,d]at c⊢;simpa[DZ,Bt,Zf]using c
theorem Yz5 {b:List V}{k n a:Nat}(x:Ba)(d:k<b.length)(f:b.length=n):TL (.ep a n 7 k 2 [2]) a (S7 b k x):=by
 subst f;refine⟨by simp,λe t k h _=>by simp,?_,?_,?_,?_,?_,?_,?_,?_⟩
 iterate 6 exact λe t h=>by simp[h,S7,Ba.enc,BG.enc,d]
 iterate 2 exact λe t x K h c=>by simp[h,S7,Ba.enc,BG.enc,d]at c⊢;simpa[DZ,Bt,Zf]using c
section
variable {P:Az} (hP:P.p=Tryz.prog)
include hP
theorem UP {y:Ah}{b:AB}{lid R vm rb Y m um Z G nf:Nat}{T:V}{tob:BG->Ob}(c:TL T lid tob){t:BG}(W:AA b lid=some (tob t)){vs:List Am}(hs:∀x∈vs,∃s:Nat,x.AP=s/\s<y.AD.length)
 (hc:RC y b) (ad:AA b R=some (.box 174 (.mp vm))) (ak:AA b vm=some (Um (vs.map Am.name))) (af:AA b rb=some (.box 159 (.ptr 4 []))) (ah:AA b Y=some (.box 179 (.ep m um 5 Z 0 [])))
 {X:List V} {w0 w1 w3 w4:V} (hu:AA b m=some (.Ao 45 5 X)) (aj:X.length=um) (ai:X[Z]? = some (.agg [w0,w1,.sl G nf,w3,w4])) (ag:w0.shape=.AX/\w1.shape=.AX/\w3.shape=.AX/\w4.shape=.AX)
 (hF:∀a,∃U,AA (AG b lid (tob a)) G=some (.Ao 50 8 U)/\U.length=nf/\∀(v:Nat)(x:Am),vs[v]? = some x->U[v]? = some (.d x.enc))
 (k:lid≠R/\lid≠vm/\lid≠rb/\lid≠Y/\lid≠m) (o:∀a,RC y (AG b lid (tob a))) (H:∀p a,AH p b=true->AH p (AG b lid (tob a))=true) {K:A7->AB->Prop}
 (h1:∀a,J9 y.AD vs t=some a->K (.ret (.BE [])) (AG b lid (tob a))) (h0:J9 y.AD vs t=none->∀a,K (.panic (.d Y5)) (AG b lid (tob a))):
 AV P 180 [T,.ptr R [],.ptr rb [],.ptr Y []] b K:=by
 refine Xk hP AO Zaa Y7c BD.nil λ_ J=>?_;have g:∀{a:BG},AA (AG b lid (tob a)) lid=some (tob a):=λ{a}=>by rw[Xc b lid lid ⟨_,W⟩,BL rfl]
 have ss:∀{a u:BG},AG (AG b lid (tob a)) lid (tob u)=AG b lid (tob u):=λ{a u}=>X4 b;have l:∀{j:Nat}{a:BG},lid≠j->AA (AG b lid (tob a)) j=AA b j:=λ{j a} h=>by rw[Xc b lid j ⟨_,W⟩,Af (λe=>h e.symm)]
 simp[Y1g,c.nil,c.fa b t 2 W (by omega)];refine c.stv b t _ _ W ?_;refine⟨c.fa _ _ 3 g (by omega),?_⟩;refine c.stf _ _ _ _ g ?_;rw[ss];have O:∀a,J9 y.AD vs t=some a->X0 (fresh b) (K (.ret (.BE []))) [] (AG b lid (tob a)):=λa e=>⟨[],by simp,by simpa[AE]using H _ a (J []),by simpa[AE]using h1 a e⟩;have N:J9 y.AD vs t=none->∀a,X0 (fresh b) (K (.panic (.d Y5))) [.d Y5] (AG b lid (tob a)):=λe a=>⟨[],by simp,by simpa[AE]using H _ a (J []),by simpa[AE]using h0 e a⟩;have f0:∀a,IB (AG b lid (tob a)) 0 0 T:=λa=>c.fa _ _ 0 g (by omega);have f1:∀a,IB (AG b lid (tob a)) 1 1 T:=λa=>c.fa _ _ 1 g (by omega);have f2:∀a,IB (AG b lid (tob a)) 2 2 T:=λa=>c.fa _ _ 2 g (by omega);have f3:∀a,IB (AG b lid (tob a)) 3 3 T:=λa=>c.fa _ _ 3 g (by omega);have nV:∀a,Ga (AG b lid (tob a)) (W3 0 0 T)=.d (.AM a.name):=λa=>c.nmV _ _ g;have nS:∀a,H2 (AG b lid (tob a)) 1 false (W3 0 0 T):=λa=>c.nmS _ _ g;have pV:∀a,Ga (AG b lid (tob a)) (W3 1 1 T)=.d (.AM a.path):=λa=>c.paV _ _ g;have pS:∀a,H2 (AG b lid (tob a)) 1 false (W3 1 1 T):=λa=>c.paS _ _ g;have vV:∀a,Ga (AG b lid (tob a)) (W3 2 2 T)=.d (iD a.var):=λa=>c.vaV _ _ g;have vS:∀a,H2 (AG b lid (tob a)) 1 false (W3 2 2 T):=λa=>c.vaS _ _ g;have al:∀a,AA (AG b lid (tob a)) R=some (.box 174 (.mp vm)):=λa=>by rw[l k.1,ad]
 have an:∀a,AA (AG b lid (tob a)) rb=some (.box 159 (.ptr 4 [])):=λa=>by rw[l k.2.2.1,af]
 have ao:∀a,AA (AG b lid (tob a)) Y=some (.box 179 (.ep m um 5 Z 0 [])):=λa=>by rw[l k.2.2.2.1,ah]
 have Q:∀a,AA (AG b lid (tob a)) m=some (.Ao 45 5 X):=λa=>by rw[l k.2.2.2.2,hu]
 by_cases z:t.name=[]
 ·simp[f0,nV,nS,z];have:=O {t with var:=-1,field:=0} (by rw[J9,BL z]);simpa[z]using this
 ·have i:J9 y.AD vs t=(CU (vs.map Am.name) t.name).bind λ(v:Nat)=>(vs[v]?).bind λx=>(CU (Ya y.AD x.AP) t.path).map λ(f:Nat)=>{t with var:=v,field:=f}:=by rw[J9,Af z]
  simp[f0,nV,nS,z,al];refine Yy hP (by rw[l k.2.1];exact ak) (λv hv=>?_) (λhx=>?_)
  ·simp[f2];refine c.stv _ _ _ _ g ?_;rw[ss];have r:v<vs.length:=by simpa using Nk hv
   obtain⟨sx,M,L⟩:=hs _ (CS r);obtain⟨U,g1,g2,g3⟩:=hF {t with var:=(v:Int),field:=0};have gv:=g3 v _ (Cn r);obtain⟨gl,ge⟩:=EK.1 gv;obtain⟨ul,ue⟩:=EK.1 ai;have ap:Z<um:=by omega
   have ac:v<nf:=by omega
   have fe:∀x:Am,x.enc=.agg [.AM x.name,.AM x.kind,iD x.AP,.agg [.AM x.CF.name,.AM x.CF.path,iD x.CF.var,iD x.CF.field,iD x.CF.n]]:=λ_=>rfl;rw[fe]at ge;rw[hv,Option.bind_some,Cn r,Option.bind_some]at i;have ae:Ya y.AD vs[v].AP=D0 y.AD sx:=by
    rw[M];unfold Ya D0;simp only[Int.toNat_natCast];cases y.AD[sx]?<;>rfl
   rw[ae]at i;rw[M]at ge;have F:y.AD.length≠0:=by omega
   have c4:=(o {t with var:=(v:Int),field:=0}).o4;have w:=(o {t with var:=(v:Int),field:=0}).QC F;have cm:=(o {t with var:=(v:Int),field:=0}).om sx L;generalize q:({t with var:=(v:Int),field:=0}:BG)=t2 at g1 c4 w cm;have ab:t2.var=v:=by rw[<-q]
   have aa:t2.path=t.path:=by rw[<-q]
   simp[f1,f2,f3,pV,pS,vV,vS,an,ao,Q,c4,w,g1,g2,gl,ge,aj,ul,ue,ap,ac,ab,aa,HJ,F,L,Wm,Vg,ag];refine Yy hP cm (λf hf=>?_) (λhx=>?_)
   ·simp[f3];refine c.stf _ _ _ _ g ?_;rw[ss];refine O _ ?_;rw[i,hf,<-q];rfl
   ·simp;exact N (by rw[i,hx];rfl) _
  ·simp;exact N (by rw[i,hx];rfl) _
end
theorem zK (l a:List B):∀k,k<=l.length->Y3 (l++a) k=Y3 l k
|0,_=>rfl
|k+1,h=>by
 have c:=zK l a k (by omega);have b:k<l.length:=h;rw[Y3,Y3,c,O1 b,List.take_append_of_le_length (by omega)]
theorem X06 {l:List B}{x:B}(h:x∉l):Y3 (l++[x]) (l++[x]).length=Y3 l l.length++[(.AM x,.d (.int .i64 l.length))]:=by
 rw[DV,List.length_singleton,Y3,QS (BV _),Nat.sub_self];simp only[List.getElem?_cons_zero,List.take_left'];rw[Af h,zK _ _ _ (BV _)]
def FL (x:Am):V:=.d x.enc
def Ei (x:BB):V:=.d x.enc
def Ig (x:Ba):V:=.d x.enc
theorem X0r:Xd Tryz.prog 180=true:=by kernel_rfl
section
variable {P:Az} (hP:P.p=Tryz.prog)
include hP
theorem Xso {a:List D}(c:∀x∈a,x.sz=8)(e:a.length<=1000000){b:AB}{K:V->AB->Prop}(h:K (.sl (fresh b) a.length) ((fresh b,.Ao 50 8 (a.map .d))::b)):CD P 179 [.d (.AF 8 a)] b K:=
 G9 (ds:=[.AF 8 a]) (Zs hP AO Zb4 c (by omega) ⟨rfl,rfl⟩) h
theorem Xsn {xs:List D}(b:∀x∈xs,x.sz=11)(c:xs.length<=1000000){a:AB}{K:V->AB->Prop}(h:K (.sl (fresh a) xs.length) ((fresh a,.Ao 124 11 (xs.map .d))::a)):CD P 181 [.d (.AF 11 xs)] a K:=
 G9 (ds:=[.AF 11 xs]) (Zs hP AO Zb5 b (by omega) ⟨rfl,rfl⟩) h
theorem Xyo {xs:List D}(b:∀x∈xs,x.sz=7)(c:xs.length<=1000000){a:AB}{K:V->AB->Prop}(h:K (.sl (fresh a) xs.length) ((fresh a,.Ao 127 7 (xs.map .d))::a)):CD P 182 [.d (.AF 7 xs)] a K:=
 G9 (ds:=[.AF 7 xs]) (Zs hP AO Ysr b (by omega) ⟨rfl,rfl⟩) h
set_option maxHeartbeats 1000000 in
theorem Yhy {y:Ah}{id m i:Nat}{O:List V}{r:Ai}(cd:r.AW.length<=1000000)(cn:r.Ak.length<=1000000)(cj:r.BK.length<=1000000)(cg:(r.AW.map Am.name).Nodup){W:AB}(hc:RC y W)(hi:AA W id=some (.Ao 45 5 O))(hl:O.length=m)(hv:O[i]? = some (.d r.enc))(bx:∀p,BO p O=false)(cs:id≠1/\id≠2){K:A7->AB->Prop}
 (h1:∀q,Ji y.AD r=some q->K (.ret (.BE [])) (AG W id (.Ao 45 5 (O.set i (.d q.enc))))) (h0:Ji y.AD r=none->Pk K W):
 AV P 91 [.ptr 4 [],.ep id m 5 i 0 []] W K:=by
 refine AV.Gb ?_;refine Xk hP AO Zoi Zko BD.nil λ_ bh=>?_;obtain⟨M,a8⟩:=EK.1 hv;have pe:r.enc=.agg [.AM r.head,iD r.AP,.AF 8 (r.AW.map Am.enc),.AF 11 (r.Ak.map BB.enc),.AF 7 (r.BK.map Ba.enc)]:=rfl;rw[pe]at a8;have J:i<m:=by omega
 have l4:=Xf hc.o4;have l7:=Xf hc.o7;have a9:=Xf hi;obtain⟨f,hf⟩:∃f,f=fresh W:=⟨_,rfl⟩
 have av:f≠id:=by omega
 have ac:f+1≠id:=by omega
 have c4:=hc.o4;have fo:fresh W=f:=hf.symm;have ba:Ji y.AD r=none->∀(L:List Nat)(an:AB),Xh (AE f L) an=an->AH (AE f L) an=true->AA an 1=AA W 1->AA an 2=AA W 2->X0 f (λb=>∃b',Wk b b'/\∃x,A7.BJ (AE f x) (A7.panic (V.d Y5))=false/\AH (AE f x) (Xh (AE f x) b')=true/\K (A7.panic (V.d Y5)) (Xh (AE f x) b')) [V.d Y5] an:=λe L an q1 q2 q3 q4=>
  ⟨L,by simp,by rw[q1];exact q2,_,Wk.refl _,L,by simp[A7.BJ],by rw[q1,q1];exact q2,by rw[q1,q1];exact h0 e _ q3 q4⟩
 have cp:Ji y.AD r=none->X0 f (λb=>∃b',Wk b b'/\∃x,A7.BJ (AE f x) (A7.panic (V.d Y5))=false/\AH (AE f x) (Xh (AE f x) b')=true/\K (A7.panic (V.d Y5)) (Xh (AE f x) b')) [V.d Y5] ((f+1,.box 179 (.ep id m 5 i 0 []))::(f,.box 159 (.ptr 4 []))::W):=λe=>by
  refine ba e [f,f+1] _ ?_ ?_ ?_ ?_
  ·have:Xh (AE f [f,f+1]) W=W:=Xe (by omega);simp[Xh,AE,this]
  ·have q:=X8 (l:=[f,f+1]) bh (n:=f) (by omega);have y1:AE f [f,f+1] id=false:=by simp[AE];omega
   have y2:AE f [f,f+1] 4=false:=by simp[AE];omega
   simp[AH,V.BJ,q,y1,y2]
  ·rw[AA,Af (by omega),AA,Af (by omega)]
  ·rw[AA,Af (by omega),AA,Af (by omega)]
 have be:∀n,n<=7->(f=n)=False:=λn hn=>eq_false (by omega);rw[fo];simp[Zhs,fo,c4,hi,hl,M,J,a8,be,av,ac];have o7:AA ((f+1,Ob.box 179 (V.ep id m 5 i 0 []))::(f,Ob.box 159 (V.ptr 4 []))::W) 7=some (Um (y.AD.map AI.name)):=by
  rw[AA,Af (by omega),AA,Af (by omega),hc.o7]
 refine⟨Yy hP o7 (λn hn=>?a1) (λhn=>?b1),Yy hP o7 (λn hn=>?a2) (λhn=>?b2)⟩
 case b1|b2=>
  simp;exact cp (by rw[Ji,hn];rfl)
 case a1|a2=>
  simp[fo,hi,hl,M,J,a8,be,av,ac,DZ,Bt,Zf,AG];refine Xso hP (by intro x hx;obtain⟨r,_,rfl⟩:=C9.1 hx;rfl) (by simpa using cd) ?_;have ad:f+2≠id:=by omega
  have b0:¬f+1<=f:=by omega
  have ap:f+3≠id:=by omega
  have aq:f+4≠id:=by omega
  have cc:f+1+3=f+4:=by omega
  simp[fo,hi,hl,M,J,a8,be,av,ac,ad,ap,aq,cc,b0,DZ,Bt,Zf,AG,X4];refine⟨⟨_,_,_,⟨rfl,rfl,rfl⟩,by simp⟩,?_⟩;have rR:Ji y.AD r=(DB (Mj y.AD) [] r.AW).bind λO=>(Ju r.Ak (Mh y.AD O)).bind λws=>(Ju r.BK (M3 y.AD n O)).map λzs=>{r with AP:=(n:Int),AW:=O,Ak:=ws,BK:=zs}:=by rw[Ji,hn,Option.bind_some]
  let R0:V->V->V:=λwv sv=>.agg [.d (.AM r.head),.d (.int .i64 n),.sl (f+2) r.AW.length,wv,sv];let A:V->V->List V->List (D×V)->AB:=λwv sv fs ms=>(f+4,.box 174 (.mp (f+3)))::(f+3,.map ms)::(f+2,.Ao 50 8 fs)::(f+1,.box 179 (.ep id m 5 i 0 []))::(f,.box 159 (.ptr 4 []))::AG W id (.Ao 45 5 (O.set i (R0 wv sv)));have aG:∀wv sv fs ms,AA (A wv sv fs ms) (f+2)=some (.Ao 50 8 fs):=λwv sv fs ms=>by simp[A,AA]
  have aS:∀wv sv fs ms bf,AG (A wv sv fs ms) (f+2) (.Ao 50 8 bf)=A wv sv bf ms:=λwv sv fs ms bf=>by simp[A,AG]
  have aM:∀wv sv fs ms,AA (A wv sv fs ms) (f+3)=some (.map ms):=λwv sv fs ms=>by simp[A,AA]
  have b8:∀wv sv fs ms bl,AG (A wv sv fs ms) (f+3) (.map bl)=A wv sv fs bl:=λwv sv fs ms bl=>by simp[A,AG]
  have aV:∀wv sv fs ms,AA (A wv sv fs ms) (f+4)=some (.box 174 (.mp (f+3))):=λwv sv fs ms=>by simp[A,AA]
  have aU:∀wv sv fs ms,AA (A wv sv fs ms) (f+1)=some (.box 179 (.ep id m 5 i 0 [])):=λwv sv fs ms=>by simp[A,AA]
  have aR:∀wv sv fs ms,AA (A wv sv fs ms) f=some (.box 159 (.ptr 4 [])):=λwv sv fs ms=>by simp[A,AA]
  have aO:∀wv sv fs ms j,j<f->j≠id->AA (A wv sv fs ms) j=AA W j:=λwv sv fs ms j hj ch=>by
   show AA ((f+4,_)::(f+3,_)::(f+2,_)::(f+1,_)::(f,_)::AG W id _) j=_;rw[AA,Af (by omega),AA,Af (by omega),AA,Af (by omega),AA,Af (by omega),AA,Af (by omega),Xc W id j ⟨_,hi⟩,Af ch]
  have aI:∀wv sv fs ms,AA (A wv sv fs ms) id=some (.Ao 45 5 (O.set i (R0 wv sv))):=λwv sv fs ms=>by
   show AA ((f+4,_)::(f+3,_)::(f+2,_)::(f+1,_)::(f,_)::AG W id _) id=_;rw[AA,Af aq,AA,Af ap,AA,Af ad,AA,Af ac,AA,Af av,Xc W id id ⟨_,hi⟩,BL rfl]
  have bp:∀wv sv fs ms bo bn,AG (A wv sv fs ms) id (.Ao 45 5 (O.set i (.agg [.d (.AM r.head),.d (.int .i64 n),.sl (f+2) r.AW.length,bo,bn])))=A bo bn fs ms:=λwv sv fs ms bo bn=>by
   show AG ((f+4,_)::(f+3,_)::(f+2,_)::(f+1,_)::(f,_)::AG W id _) id _=_;rw[AG,Af aq,AG,Af ap,AG,Af ad,AG,Af ac,AG,Af av,X4]
  have aC:∀wv sv fs ms,RC y (A wv sv fs ms):=λwv sv fs ms=>hc.of λj x hj hx=>by
   have h1:=Xf hj;rw[aO wv sv fs ms j (by omega) (λe=>by rw[e,hi]at hj;exact absurd (hx _ _ _ (FQ hj).symm) (by decide)),hj]
  have aF:∀wv sv fs ms,fresh (A wv sv fs ms)=f+5:=λwv sv fs ms=>by simp[A,fo,b0]
  have aN:∀{wv sv:V}{k:Nat}{L:List Nat}{fs:List V} {ms:List (D×V)},f<=k->(∀j,j<=f+4->AE k L j=false)->V.BJ (AE k L) wv=false->V.BJ (AE k L) sv=false->BO (AE k L) fs=false->Ym (AE k L) ms=false->AH (AE k L) (A wv sv fs ms)=true:=λ{wv sv k L fs ms} hk hy hw hs hu hm=>by
   simp only[A,AH,hu,hm,V.BJ,hy (f+3) (by omega),hy id (by omega),hy 4 (by omega),Bool.not_false,EA];refine Xn (Xy ?_ i (bx _)) (X8 bh (by omega));simp[R0,V.BJ,BO,hy (f+2) (by omega),hw,hs]
  have aD:∀{wv sv:V}{k:Nat}{L:List Nat}{fs:List V} {ms:List (D×V)},f<=k->(∀j,j<=f+4->AE k L j=false)->Xh (AE k L) (A wv sv fs ms)=A wv sv fs ms:=λ{wv sv k L fs ms} hk hy=>by
   have:Xh (AE k L) (AG W id (.Ao 45 5 (O.set i (R0 wv sv))))=AG W id (.Ao 45 5 (O.set i (R0 wv sv))):=Xe (by simp;omega);simp only[A,Xh,hy (f+4) (by omega),hy (f+3) (by omega),hy (f+2) (by omega),hy (f+1) (by omega),hy f (by omega),BF,Ci,this]
  have k7:∀j,j<=f+6->AE f [f,f+1,f+2,f+3,f+4,f+5,f+6] j=false:=λj hj=>by simp[AE];omega
  have k5:∀j,j<=f+4->AE f [f,f+1,f+2,f+3,f+4,f+5,f+6] j=false:=λj hj=>k7 j (by omega);have pA:Ji y.AD r=none->∀wv sv fs ms,(∀p,V.BJ p wv=false)->(∀p,V.BJ p sv=false)->(∀p,BO p fs=false)->(∀p,Ym p ms=false)->X0 f (λb=>∃b',Wk b b'/\∃x,A7.BJ (AE f x) (A7.panic (V.d Y5))=false/\AH (AE f x) (Xh (AE f x) b')=true/\K (A7.panic (V.d Y5)) (Xh (AE f x) b')) [V.d Y5] (A wv sv fs ms):=λe wv sv fs ms g1 g2 g3 g4=>
   ba e [f,f+1,f+2,f+3,f+4,f+5,f+6] _ (aD (BV _) k5) (aN (BV _) k5 (g1 _) (g2 _) (g3 _) (g4 _)) (aO wv sv fs ms 1 (by omega) (by omega)) (aO wv sv fs ms 2 (by omega) (by omega))
  obtain⟨aj,a0⟩:∃x,x=V.d (.AF 11 (r.Ak.map BB.enc)):=⟨_,rfl⟩
  obtain⟨Y,az⟩:∃x,x=V.d (.AF 7 (r.BK.map Ba.enc)):=⟨_,rfl⟩
  have b5:∀p,V.BJ p aj=false:=λp=>by rw[a0];rfl
  have bm:∀p,V.BJ p Y=false:=λp=>by rw[az];rfl
  have ai:aj.shape=.AX:=by rw[a0];rfl
  have ab:Y.shape=.AX:=by rw[az];rfl
  have ao:Xd P.p 180=true:=by rw[hP];exact X0r
  have X:∀wv sv,(O.set i (R0 wv sv)).length=m:=λwv sv=>by simpa using hl
  have a7:=λwv sv fs ms=>(aC wv sv fs ms).o7;have a4:=λwv sv fs ms=>(aC wv sv fs ms).o4;show Ae _ _ _ _ (A (V.d (.AF 11 (r.Ak.map BB.enc))) (V.d (.AF 7 (r.BK.map Ba.enc))) (r.AW.map (V.d∘Am.enc)) []);rw[<-a0,<-az];refine Ae.go (ι:=List Am) (λd=>[(2,.ptr f []),(3,.ptr (f+1) []),(4,.ptr (f+4) []),(5,.fn 180 [] [.ptr (f+4) [],.ptr f [],.ptr (f+1) []]),(36,.d (.int .i64 r.AW.length)),(37,.d (.int .i64 d.length))])
   (λd=>A aj Y ((d++r.AW.drop d.length).map FL) (Y3 (d.map Am.name) d.length)) (λd=>d.length<=r.AW.length/\DB (Mj y.AD) [] r.AW=DB (Mj y.AD) d (r.AW.drop d.length)/\(∀x∈d,∃s:Nat,x.AP=s/\s<y.AD.length)/\d.map Am.name=(r.AW.take d.length).map Am.name) (λd=>r.AW.length-d.length) [] ⟨by simp,rfl,by simp,by simp⟩ (by simp) (by simp[Y3];rfl) ?_
  rintro d ⟨hd,hg,ax,bt⟩ R rn re rr rp;have wl:((d++r.AW.drop d.length).map FL).length=r.AW.length:=by simp;omega
  by_cases G:d.length<r.AW.length
  ·have wr:IntKind.i64.wrap ((d.length:Int)+1)=(d.length:Int)+1:=IntWalk.i64_in _ (by omega);have wk:=Jp FL G;have ws:=Jq FL G;rw[Db G,Zd]at hg;have bi:r.AW[d.length].name∉d.map Am.name:=by
    rw[bt];have h:=cg;rw[<-Kh d.length r.AW,Ij,Em,Db G]at h;exact λhm=>h.2.2 _ hm _ (C9.2 ⟨_,List.mem_cons_self,rfl⟩) rfl
   have bc:(r.AW.take (d.length+1)).map Am.name=d.map Am.name++[r.AW[d.length].name]:=by
    rw[Ca G,Ij,bt];rfl
   generalize hu:r.AW[d.length]=u at hg wk bi bc;have ue:FL u=.d (.agg [.AM u.name,.AM u.kind,iD u.AP,.agg [.AM u.CF.name,.AM u.CF.path,iD u.CF.var,iD u.CF.field,iD u.CF.n]]):=rfl;simp only[ue]at wk;generalize au:(d++r.AW.drop d.length).map FL=c at wl wk ws;simp[Xzu,G,aU,aR,aI,aG,aS,aV,aM,a4,X,M,J,R0,wl,wk,ai,ab];have H:∀p,BO p c=false:=λp=>by rw[<-au];exact Xw _ _
   have U:Mj y.AD d u=(CU (y.AD.map AI.name) u.kind).bind λ(n:Nat)=>(J9 y.AD d u.CF).map λt=>{u with AP:=n,CF:=t}:=rfl;have N:Mj y.AD d u=none->∀w,(∀p,BO p w=false)->R (.panic (.d Y5)) [] (A aj Y w (Y3 (d.map Am.name) d.length)):=λe w ag=>by
    refine rp _ _ _ ?_;simp;exact pA (by rw[rR,hg,e];rfl) _ _ _ _ b5 bm ag (λp=>Yx _ _ _)
   refine Yy hP (a7 aj Y c (Y3 (d.map Am.name) d.length)) (λs hs=>?_) (λhx=>N (by rw[U,hx];rfl) _ H);have ck:s<y.AD.length:=by simpa using Nk hs
   simp[aG,aS,wl,wk,G,ao];let x:Am:={u with AP:=(s:Int) }
   have ae:d.length<c.length:=by omega
   have oe:∀F fs,AG (A aj Y fs (Y3 (d.map Am.name) d.length)) (f+2) (Rh c d.length x F)=A aj Y (c.set d.length (.d ({x with CF:=F}:Am).enc)) (Y3 (d.map Am.name) d.length):=λF fs=>aS _ _ _ _ _;have ay:∀(v:Nat)(z:Am),d[v]? = some z->c[v]? = some (.d z.enc):=λv z hz=>by
    have hv:v<d.length:=(EK.1 hz).1;rw[<-au,List.getElem?_map,O1 hv,hz];rfl
   refine UP hP (T:=.ep (f+2) r.AW.length 8 d.length 3 [3]) (lid:=f+2) (tob:=Rh c d.length x) (Yp2 x ae wl) (t:=u.CF) (vs:=d) (by rw[aG];rfl) ax (aC _ _ _ _) (aV _ _ _ _) (by rw[aM,Um,List.length_map]) (aR _ _ _ _) (aU _ _ _ _) (aI _ _ _ _) (X _ _) (by rw[List.getElem?_set_self M]) ⟨rfl,rfl,ai,ab⟩
    (λF=>⟨_,by rw[oe,aG],by simpa using wl,λv z hz=>?_⟩) ⟨by omega,by omega,by omega,by omega,ad⟩ (λF=>by rw[oe];exact aC _ _ _ _) (λp F hp=>Xn (Xy rfl _ (H _)) hp) (λF ht=>?_) (λht F=>?_)
   ·have hv:v<d.length:=(EK.1 hz).1;rw[List.getElem?_set_ne (by omega),ay v z hz]
   ·have xe:({x with CF:=F}:Am).enc=.agg [.AM u.name,.AM u.kind,iD s,.agg [.AM F.name,.AM F.path,iD F.var,iD F.field,iD F.n]]:=rfl;have hz:Mj y.AD d u=some {x with CF:=F}:=by rw[U,hs,Option.bind_some,ht];rfl
    rw[hz,Option.bind_some]at hg;have ci:Yh (.AM u.name) (Y3 (d.map Am.name) d.length)=none:=by
     have:=Ql (d.map Am.name) u.name d.length (by simp);rw[JI (by simp),Jb.2 bi]at this;exact this
    rw[oe];simp[aG,aS,aV,aM,b8,wl,G,xe,Qm];rw[Wo _ _ _ ci];have e1:c.set d.length (V.d (.agg [.AM u.name,.AM u.kind,iD s,.agg [.AM F.name,.AM F.path,iD F.var,iD F.field,iD F.n]]))=((d++[{x with CF:=F}])++r.AW.drop (d++[{x with CF:=F}]).length).map FL:=ws {x with CF:=F};have e2:Y3 (d.map Am.name) d.length++[(.AM u.name,V.d (.int .i64 d.length))]=Y3 ((d++[{x with CF:=F}]).map Am.name) (d++[{x with CF:=F}]).length:=by
     have:=X06 bi;simpa using this.symm
    rw[e1,e2];have y5:∀j,j<=f+4->AE (f+5) [] j=false:=λj hj=>by simp[AE];omega
    refine rn [] (d++[{x with CF:=F}]) _ _ ⟨by simp;omega,by rw[hg,DV];rfl,?_,?_⟩ (by simp;omega) (by simp[wr]) ?_ ?_ ?_
    ·intro z hz;rcases DF.1 hz with hz|hz
     ·exact ax z hz
     ·rw[DW]at hz;exact⟨s,by rw[hz],ck⟩
    ·rw[Ij,DV,List.length_singleton,bc];rfl
    ·rw[aF];exact aD (by omega) y5
    ·rw[aF];simp[y5 f (by omega),y5 (f+1) (by omega),y5 (f+4) (by omega)]
    ·rw[aF];exact aN (by omega) y5 (b5 _) (bm _) (Xw _ _) (Yx _ _ _)
   ·rw[oe];exact N (by rw[U,hs,Option.bind_some,ht];rfl) _ (λp=>Xy rfl _ (H _))
  ·have a5:d.length=r.AW.length:=by omega
   rw[a5,List.drop_length,DB]at hg;simp[Xzu,G];refine re _ _ _ ?_;have e:d.map FL++(r.AW.map FL).drop d.length=d.map FL:=by rw[Gj (by simp[a5]),GL]
   rw[e];rw[hg,Option.bind_some]at rR;simp[aU,aI,X,M,J,R0,ai,ab];refine⟨by rw[a0],?_⟩;rw[show[aj]=[V.d (.AF 11 (r.Ak.map BB.enc))] by rw[a0]];refine Xsn hP (xs:=r.Ak.map BB.enc) (by intro x hx;obtain⟨r,_,rfl⟩:=C9.1 hx;rfl) (by simpa using cn) ?_;rw[aF];have aa:∀j,j<=f+4->¬f+5=j:=λj hj=>by omega
   have Q:f+5≠id:=by omega
   let Z:List V->AB:=λc=>(f+5,.Ao 124 11 c)::A (.sl (f+5) r.Ak.length) Y (d.map FL) (Y3 (d.map Am.name) d.length);have bG:∀c,AA (Z c) (f+5)=some (.Ao 124 11 c):=λc=>by simp[Z,AA]
   have bS:∀c w,AG (Z c) (f+5) (.Ao 124 11 w)=Z w:=λc w=>by simp[Z,AG]
   have bL:∀c j,¬f+5=j->AA (Z c) j=AA (A (.sl (f+5) r.Ak.length) Y (d.map FL) (Y3 (d.map Am.name) d.length)) j:=λc j h=>by
    show AA ((f+5,_)::_) j=_;rw[AA,Af h]
   have bF:∀c,AA (Z c) (f+2)=some (.Ao 50 8 (d.map FL)):=λc=>by rw[bL _ _ (aa _ (by omega)),aG]
   have bM:∀c,AA (Z c) (f+3)=some (.map (Y3 (d.map Am.name) d.length)):=λc=>by rw[bL _ _ (aa _ (by omega)),aM]
   have bV:∀c,AA (Z c) (f+4)=some (.box 174 (.mp (f+3))):=λc=>by rw[bL _ _ (aa _ (by omega)),aV]
   have bU:∀c,AA (Z c) (f+1)=some (.box 179 (.ep id m 5 i 0 [])):=λc=>by rw[bL _ _ (aa _ (by omega)),aU]
   have bR:∀c,AA (Z c) f=some (.box 159 (.ptr 4 [])):=λc=>by rw[bL _ _ (aa _ (by omega)),aR]
   have bI:∀c,AA (Z c) id=some (.Ao 45 5 (O.set i (R0 (.sl (f+5) r.Ak.length) Y))):=λc=>by rw[bL _ _ Q,aI]
   have bC:∀c,RC y (Z c):=λc=>by
    have:=(aC (.sl (f+5) r.Ak.length) Y (d.map FL) (Y3 (d.map Am.name) d.length)).cons (.Ao 124 11 c)
    rwa [aF]at this
   have b4:=λc=>(bC c).o4;have a3:∀c,fresh (Z c)=f+6:=λc=>by
    show fresh ((f+5,_)::A _ _ _ _)=_;have:¬f+5+1<=f+5:=by omega
    simp[aF]
   have bD:∀{k:Nat}{L:List Nat}{c:List V},f<=k->(∀j,j<=f+5->AE k L j=false)->Xh (AE k L) (Z c)=Z c:=λ{k L c} hk hy=>by
    show Xh _ ((f+5,_)::A _ _ _ _)=_;rw[Xh,hy _ (BV _),aD hk (λj hj=>hy j (by omega))];rfl
   have bN:∀{k:Nat}{L:List Nat}{c:List V},f<=k->(∀j,j<=f+5->AE k L j=false)->BO (AE k L) c=false->AH (AE k L) (Z c)=true:=λ{k L c} hk hy hu=>by
    show AH _ ((f+5,_)::A _ _ _ _)=_;have:=aN (wv:=.sl (f+5) r.Ak.length) (sv:=Y) (fs:=d.map FL) (ms:=Y3 (d.map Am.name) d.length) hk (λj hj=>hy j (by omega)) (by simp[V.BJ,hy (f+5) (BV _)]) (bm _) (Xw _ _) (Yx _ _ _);simp only[AH,hu,this,Bool.not_false,EA]
   have k6:∀j,j<=f+5->AE f [f,f+1,f+2,f+3,f+4,f+5,f+6] j=false:=λj hj=>k7 j (by omega);have pB:Ji y.AD r=none->∀c,(∀p,BO p c=false)->X0 f (λb=>∃b',Wk b b'/\∃x,A7.BJ (AE f x) (A7.panic (V.d Y5))=false/\AH (AE f x) (Xh (AE f x) b')=true/\K (A7.panic (V.d Y5)) (Xh (AE f x) b')) [V.d Y5] (Z c):=λe c g=>
    ba e [f,f+1,f+2,f+3,f+4,f+5,f+6] _ (bD (BV _) k6) (bN (BV _) k6 (g _)) (by rw[bL _ _ (by omega),aO _ _ _ _ 1 (by omega) (by omega)]) (by rw[bL _ _ (by omega),aO _ _ _ _ 2 (by omega) (by omega)])
   have ay:∀(v:Nat)(z:Am),d[v]? = some z->(d.map FL)[v]? = some (.d z.enc):=λv z hz=>by rw[List.getElem?_map,hz];rfl
   have dl:(d.map FL).length=r.AW.length:=by simpa using a5
   simp[aU,aI,bp,X,M,J,R0,ai,ab,aa,Q,AA,DZ,Bt,Zf,AG];refine⟨⟨_,_,_,⟨rfl,rfl,rfl⟩,by simp⟩,?_⟩;show Ae _ _ _ _ (Z (r.Ak.map (V.d∘BB.enc)));refine Ae.go (ι:=List BB) (λe=>[(2,.ptr f []),(3,.ptr (f+1) []),(5,.fn 180 [] [.ptr (f+4) [],.ptr f [],.ptr (f+1) []]),(82,.d (.int .i64 r.Ak.length)),(83,.d (.int .i64 e.length))])
    (λe=>Z ((e++r.Ak.drop e.length).map Ei)) (λe=>e.length<=r.Ak.length/\Ju r.Ak (Mh y.AD d)=DB (λ_=>Mh y.AD d) e (r.Ak.drop e.length)) (λe=>r.Ak.length-e.length) [] ⟨by simp,rfl⟩ (by simp) (by simp;rfl) ?_
   rintro e ⟨he,ak⟩ R rn re rr rp;have wl:((e++r.Ak.drop e.length).map Ei).length=r.Ak.length:=by simp;omega
   by_cases G:e.length<r.Ak.length
   ·have wr:IntKind.i64.wrap ((e.length:Int)+1)=(e.length:Int)+1:=IntWalk.i64_in _ (by omega);have wk:=Jp Ei G;have ws:=Jq Ei G;rw[Db G,Zd]at ak;generalize hu:r.Ak[e.length]=u at ak wk;generalize au:(e++r.Ak.drop e.length).map Ei=c at wl wk ws;have ae:e.length<c.length:=by omega
    have ct:c[e.length]? = some (Ei u):=by rw[Cn ae,wk]
    have b9:∀z:BB,(Ei z).shape.size=11:=λ_=>rfl;have cr:∀h:e.length<c.length,c[e.length].shape.size=11:=λh=>by rw[wk];rfl
    have cq:c.set e.length (Ei u)=c:=by rw[<-wk ae];exact List.set_getElem_self ae
    have H:∀p,BO p c=false:=λp=>by rw[<-au];exact Xw _ _
    have U:Mh y.AD d u=(J9 y.AD d u.a).bind λx=>(J9 y.AD d u.b).map λz=>{u with a:=x,b:=z}:=rfl;have N:Mh y.AD d u=none->∀w,(∀p,BO p w=false)->R (.panic (.d Y5)) [] (Z w):=λe0 w ag=>by
     refine rp _ _ _ ?_;simp;exact pB (by rw[rR,ak,e0];rfl) _ ag
    have oa:∀F w,AG (Z w) (f+5) (TA c e.length u F)=Z (c.set e.length (Ei {u with a:=F})):=λF w=>bS _ _;have bb:∀t1 F w,AG (Z w) (f+5) (S6 c e.length {u with a:=t1} F)=Z (c.set e.length (Ei {u with a:=t1,b:=F})):=λt1 F w=>bS _ _;simp[Xzt,G,bU,bR,bI,bG,bS,bV,bM,b4,X,M,J,R0,wl,ai,ab,ao,cr];refine UP hP (T:=.ep (f+5) r.Ak.length 11 e.length 1 [1]) (lid:=f+5) (tob:=TA c e.length u) (Yz3 u ae wl) (t:=u.a) (vs:=d) (by rw[bG];exact CK (λz=>some (Ob.Ao _ _ z)) cq.symm) ax (bC _) (bV _) (by rw[bM,Um,List.length_map]) (bR _) (bU _) (bI _) (X _ _) (by rw[List.getElem?_set_self M]) ⟨rfl,rfl,rfl,ab⟩
     (λF=>⟨_,by rw[oa,bF],dl,ay⟩) ⟨by omega,by omega,by omega,by omega,Q⟩ (λF=>by rw[oa];exact bC _) (λp F hp=>Xn (Xy rfl _ (H _)) hp) (λt1 a6=>?_) (λht F=>?_)
    ·rw[oa];have cu:(c.set e.length (Ei {u with a:=t1})).length=r.Ak.length:=by simpa using wl
     simp[bU,bR,bI,bG,bS,bV,bM,b4,X,M,J,R0,wl,ai,ab,ao,b9,G];refine UP hP (T:=.ep (f+5) r.Ak.length 11 e.length 6 [2]) (lid:=f+5) (tob:=S6 c e.length {u with a:=t1}) (Yz4 {u with a:=t1} ae wl) (t:=u.b) (vs:=d) (by rw[bG];rfl) ax (bC _) (bV _) (by rw[bM,Um,List.length_map]) (bR _) (bU _) (bI _) (X _ _) (by rw[List.getElem?_set_self M]) ⟨rfl,rfl,rfl,ab⟩
      (λF=>⟨_,by rw[bb,bF],dl,ay⟩) ⟨by omega,by omega,by omega,by omega,Q⟩ (λF=>by rw[bb];exact bC _) (λp F hp=>Xn (Xy rfl _ (H _)) hp) (λt2 cl=>?_) (λht F=>?_)
     ·rw[bb];have hz:Mh y.AD d u=some {u with a:=t1,b:=t2}:=by rw[U,a6,Option.bind_some,cl];rfl
      rw[hz,Option.bind_some]at ak;have e1:c.set e.length (Ei {u with a:=t1,b:=t2})=((e++[{u with a:=t1,b:=t2}])++r.Ak.drop (e++[{u with a:=t1,b:=t2}]).length).map Ei:=ws {u with a:=t1,b:=t2};have y6:∀j,j<=f+5->AE (f+6) [] j=false:=λj hj=>by simp[AE];omega
      simp;rw[e1];refine rn [] (e++[{u with a:=t1,b:=t2}]) _ _ ⟨by simp;omega,by rw[ak,DV];rfl⟩ (by simp;omega) (by simp[wr]) ?_ ?_ ?_
      ·rw[a3];exact bD (by omega) y6
      ·rw[a3];simp[y6 f (by omega),y6 (f+1) (by omega),y6 (f+4) (by omega)]
      ·rw[a3];exact bN (by omega) y6 (Xw _ _)
     ·rw[bb];exact N (by rw[U,a6,Option.bind_some,ht];rfl) _ (λp=>Xy rfl _ (H _))
    ·rw[oa];exact N (by rw[U,ht];rfl) _ (λp=>Xy rfl _ (H _))
   ·have bg:e.length=r.Ak.length:=by omega
    rw[bg,List.drop_length,DB]at ak;simp[Xzt,G];refine re _ _ _ ?_;have e0:e.map Ei++(r.Ak.map Ei).drop e.length=e.map Ei:=by rw[Gj (by simp[bg]),GL]
    rw[e0];rw[show Ju r.Ak (Mh y.AD d)=some e from ak,Option.bind_some]at rR;simp[bU,bI,X,M,J,R0,ai,ab];refine⟨by rw[az],?_⟩;rw[show[Y]=[V.d (.AF 7 (r.BK.map Ba.enc))] by rw[az]];refine Xyo hP (xs:=r.BK.map Ba.enc) (by intro x hx;obtain⟨r,_,rfl⟩:=C9.1 hx;rfl) (by simpa using cj) ?_;rw[a3];have el:e.map Ei=e.map λx=>V.d x.enc:=rfl;have aw:∀j,j<=f+5->¬f+6=j:=λj hj=>by omega
    have ah:f+6≠id:=by omega
    let A3:AB:=A (.sl (f+5) r.Ak.length) (.sl (f+6) r.BK.length) (d.map FL) (Y3 (d.map Am.name) d.length);let B3:List V->AB:=λc=>(f+6,.Ao 127 7 c)::(f+5,.Ao 124 11 (e.map Ei))::A3;have ca:AG (Z (e.map Ei)) id (.Ao 45 5 (O.set i (.agg [.d (.AM r.head),.d (.int .i64 n),.sl (f+2) r.AW.length,.sl (f+5) r.Ak.length,.sl (f+6) r.BK.length])))=(f+5,.Ao 124 11 (e.map Ei))::A3:=by
     show AG ((f+5,_)::A _ _ _ _) id _=_;rw[AG,Af Q,bp]
    have cG:∀c,AA (B3 c) (f+6)=some (.Ao 127 7 c):=λc=>by simp[B3,AA]
    have cS:∀c w,AG (B3 c) (f+6) (.Ao 127 7 w)=B3 w:=λc w=>by simp[B3,AG]
    have cW:∀c,AA (B3 c) (f+5)=some (.Ao 124 11 (e.map Ei)):=λc=>by simp[B3,AA]
    have cL:∀c j,¬f+5=j->¬f+6=j->AA (B3 c) j=AA A3 j:=λc j h h6=>by
     show AA ((f+6,_)::(f+5,_)::A3) j=_;rw[AA,Af h6,AA,Af h]
    have cF:∀c,AA (B3 c) (f+2)=some (.Ao 50 8 (d.map FL)):=λc=>by rw[cL _ _ (aa _ (by omega)) (aw _ (by omega)),aG]
    have cM:∀c,AA (B3 c) (f+3)=some (.map (Y3 (d.map Am.name) d.length)):=λc=>by rw[cL _ _ (aa _ (by omega)) (aw _ (by omega)),aM]
    have cV:∀c,AA (B3 c) (f+4)=some (.box 174 (.mp (f+3))):=λc=>by rw[cL _ _ (aa _ (by omega)) (aw _ (by omega)),aV]
    have cU:∀c,AA (B3 c) (f+1)=some (.box 179 (.ep id m 5 i 0 [])):=λc=>by rw[cL _ _ (aa _ (by omega)) (aw _ (by omega)),aU]
    have cR:∀c,AA (B3 c) f=some (.box 159 (.ptr 4 [])):=λc=>by rw[cL _ _ (aa _ (by omega)) (aw _ (by omega)),aR]
    have cI:∀c,AA (B3 c) id=some (.Ao 45 5 (O.set i (R0 (.sl (f+5) r.Ak.length) (.sl (f+6) r.BK.length)))):=λc=>by rw[cL _ _ Q ah,aI]
    have cC:∀c,RC y (B3 c):=λc=>by
     have:=((aC (.sl (f+5) r.Ak.length) (.sl (f+6) r.BK.length) (d.map FL) (Y3 (d.map Am.name) d.length)).cons (.Ao 124 11 (e.map Ei))).cons (.Ao 127 7 c);have e6:fresh ((f+5,Ob.Ao 124 11 (e.map Ei))::A3)=f+6:=by
      have:¬f+5+1<=f+5:=by omega
      simp[A3,aF]
     rw[aF]at this;show RC y ((f+6,_)::(f+5,_)::A3);rw[e6]at this;exact this
    have c4:=λc=>(cC c).o4;have bv:n<y.AD.length:=by simpa using Nk hn
    have bu:y.AD.length≠0:=by omega
    have cb:=λc=>(cC c).QC bu;have cm:=λc=>(cC c).om n bv;have bd:∀c,fresh (B3 c)=f+7:=λc=>by
     show fresh ((f+6,_)::(f+5,_)::A3)=_;simp[A3,aF]
    have cD:∀{k:Nat}{L:List Nat}{c:List V},f<=k->(∀j,j<=f+6->AE k L j=false)->Xh (AE k L) (B3 c)=B3 c:=λ{k L c} hk hy=>by
     show Xh _ ((f+6,_)::(f+5,_)::A3)=_;rw[Xh,hy _ (BV _),Xh,hy _ (by omega),aD hk (λj hj=>hy j (by omega))];rfl
    have cN:∀{k:Nat}{L:List Nat}{c:List V},f<=k->(∀j,j<=f+6->AE k L j=false)->BO (AE k L) c=false->AH (AE k L) (B3 c)=true:=λ{k L c} hk hy hu=>by
     show AH _ ((f+6,_)::(f+5,_)::A3)=_;have:=aN (wv:=.sl (f+5) r.Ak.length) (sv:=.sl (f+6) r.BK.length) (fs:=d.map FL) (ms:=Y3 (d.map Am.name) d.length) hk (λj hj=>hy j (by omega)) (by simp[V.BJ,hy (f+5) (by omega)]) (by simp[V.BJ,hy (f+6) (by omega)]) (Xw _ _) (Yx _ _ _);have h2:BO (AE k L) (e.map Ei)=false:=Xw _ _;simp only[AH,hu,h2,this,A3,Bool.not_false,EA]
    have pC:Ji y.AD r=none->∀c,(∀p,BO p c=false)->X0 f (λb=>∃b',Wk b b'/\∃x,A7.BJ (AE f x) (A7.panic (V.d Y5))=false/\AH (AE f x) (Xh (AE f x) b')=true/\K (A7.panic (V.d Y5)) (Xh (AE f x) b')) [V.d Y5] (B3 c):=λe c g=>
     ba e [f,f+1,f+2,f+3,f+4,f+5,f+6] _ (cD (BV _) k7) (cN (BV _) k7 (g _)) (by rw[cL _ _ (by omega) (by omega),aO _ _ _ _ 1 (by omega) (by omega)]) (by rw[cL _ _ (by omega) (by omega),aO _ _ _ _ 2 (by omega) (by omega)])
    have b7:AA A3 (f+1)=some (.box 179 (.ep id m 5 i 0 [])):=aU _ _ _ _;have b6:AA A3 id=some (.Ao 45 5 (O.set i (R0 (.sl (f+5) r.Ak.length) (.sl (f+6) r.BK.length)))):=aI _ _ _ _;simp[bU,bI,ca,b7,b6,X,M,J,R0,ai,ab,aw,ah,aa,Q,AA,DZ,Bt,Zf,AG];refine⟨⟨_,_,_,⟨rfl,rfl,rfl⟩,by simp⟩,?_⟩;show Ae _ _ _ _ (B3 (r.BK.map (V.d∘Ba.enc)));refine Ae.go (ι:=List Ba) (λq=>[(2,.ptr f []),(3,.ptr (f+1) []),(5,.fn 180 [] [.ptr (f+4) [],.ptr f [],.ptr (f+1) []]),(117,.d (.int .i64 r.BK.length)),(118,.d (.int .i64 q.length))])
     (λq=>B3 ((q++r.BK.drop q.length).map Ig)) (λq=>q.length<=r.BK.length/\Ju r.BK (M3 y.AD n d)=DB (λ_=>M3 y.AD n d) q (r.BK.drop q.length)) (λq=>r.BK.length-q.length) [] ⟨by simp,rfl⟩ (by simp) (by simp;rfl) ?_
    rintro q ⟨hq,al⟩ R rn re rr rp;have wl:((q++r.BK.drop q.length).map Ig).length=r.BK.length:=by simp;omega
    by_cases G:q.length<r.BK.length
    ·have wr:IntKind.i64.wrap ((q.length:Int)+1)=(q.length:Int)+1:=IntWalk.i64_in _ (by omega);have wk:=Jp Ig G;have ws:=Jq Ig G;rw[Db G,Zd]at al;generalize hu:r.BK[q.length]=u at al wk;have ue:Ig u=.d (.agg [.AM u.path,iD u.field,.agg [.AM u.Ce.name,.AM u.Ce.path,iD u.Ce.var,iD u.Ce.field,iD u.Ce.n]]):=rfl;simp only[ue]at wk;generalize au:(q++r.BK.drop q.length).map Ig=c at wl wk ws;have ae:q.length<c.length:=by omega
     have H:∀p,BO p c=false:=λp=>by rw[<-au];exact Xw _ _
     have cf:Ya y.AD n=D0 y.AD n:=by
      unfold Ya D0;simp only[Int.toNat_natCast];cases y.AD[n]?<;>rfl
     have U:M3 y.AD n d u=(CU (D0 y.AD n) u.path).bind λ(k:Nat)=>(J9 y.AD d u.Ce).map λt=>{u with field:=k,Ce:=t}:=by rw[<-cf];rfl
     have N:M3 y.AD n d u=none->∀w,(∀p,BO p w=false)->R (.panic (.d Y5)) [] (B3 w):=λe0 w ag=>by
      refine rp _ _ _ ?_;simp;exact pC (by rw[rR,al,e0];rfl) _ ag
     simp[Xzs,G,cU,cR,cI,cG,cS,cV,cM,c4,cb,HJ,bu,bv,Wm,Vg,X,M,J,R0,wl,wk];refine⟨⟨Yy hP (cm c) (λk hk=>?c1) (λhx=>N (by rw[U,hx];rfl) _ H),Yy hP (cm c) (λk hk=>?c2) (λhx=>N (by rw[U,hx];rfl) _ H)⟩,Yy hP (cm c) (λk hk=>?c3) (λhx=>N (by rw[U,hx];rfl) _ H)⟩
     case c1|c2|c3=>
      simp[cU,cI,cG,cS,wl,wk,G,ao,X,M,J,R0,DZ,Bt,Zf];have oe:∀F w,AG (B3 w) (f+6) (S7 c q.length {u with field:=(k:Int) } F)=B3 (c.set q.length (Ig {u with field:=(k:Int),Ce:=F})):=λF w=>cS _ _;refine UP hP (T:=.ep (f+6) r.BK.length 7 q.length 2 [2]) (lid:=f+6) (tob:=S7 c q.length {u with field:=(k:Int) }) (Yz5 {u with field:=(k:Int) } ae wl) (t:=u.Ce) (vs:=d) (by rw[cG];rfl) ax (cC _) (cV _) (by rw[cM,Um,List.length_map]) (cR _) (cU _) (cI _) (X _ _) (by rw[List.getElem?_set_self M]) ⟨rfl,rfl,rfl,rfl⟩
       (λF=>⟨_,by rw[oe,cF],dl,ay⟩) ⟨by omega,by omega,by omega,by omega,ah⟩ (λF=>by rw[oe];exact cC _) (λp F hp=>Xn (Xy rfl _ (H _)) hp) (λt1 a6=>?_) (λht F=>?_)
      ·rw[oe];have hz:M3 y.AD n d u=some {u with field:=(k:Int),Ce:=t1}:=by rw[U,hk,Option.bind_some,a6];rfl
       rw[hz,Option.bind_some]at al;have e1:c.set q.length (Ig {u with field:=(k:Int),Ce:=t1})=((q++[{u with field:=(k:Int),Ce:=t1}])++r.BK.drop (q++[{u with field:=(k:Int),Ce:=t1}]).length).map Ig:=ws {u with field:=(k:Int),Ce:=t1};have y7:∀j,j<=f+6->AE (f+7) [] j=false:=λj hj=>by simp[AE];omega
       simp;rw[e1];refine rn [] (q++[{u with field:=(k:Int),Ce:=t1}]) _ _ ⟨by simp;omega,by rw[al,DV];rfl⟩ (by simp;omega) (by simp[wr]) ?_ ?_ ?_
       ·rw[bd];exact cD (by omega) y7
       ·rw[bd];simp[y7 f (by omega),y7 (f+1) (by omega),y7 (f+4) (by omega)]
       ·rw[bd];exact cN (by omega) y7 (Xw _ _)
      ·rw[oe];exact N (by rw[U,hk,Option.bind_some,ht];rfl) _ (λp=>Xy rfl _ (H _))
    ·have bj:q.length=r.BK.length:=by omega
     rw[bj,List.drop_length,DB]at al;simp[Xzs,G];refine re _ _ _ ?_;simp;have e0:q.map Ig++(r.BK.map Ig).drop q.length=q.map Ig:=by rw[Gj (by simp[bj]),GL]
     rw[e0];rw[show Ju r.BK (M3 y.AD n d)=some q from al]at rR;have hq:Ji y.AD r=some {r with AP:=(n:Int),AW:=d,Ak:=e,BK:=q}:=by rw[rR];rfl
     obtain⟨o1,af⟩:∃o1,o1=B3 (q.map Ig):=⟨_,rfl⟩
     have l1:AA o1 (f+2)=some (.Ao 50 8 (d.map λx=>V.d x.enc)):=by rw[af];exact cF _
     have l2:AA o1 (f+5)=some (.Ao 124 11 (e.map λx=>V.d x.enc)):=by rw[af];exact cW _
     have l3:AA o1 (f+6)=some (.Ao 127 7 (q.map λx=>V.d x.enc)):=by rw[af];exact cG _
     have li:AA o1 id=some (.Ao 45 5 (O.set i (R0 (.sl (f+5) r.Ak.length) (.sl (f+6) r.BK.length)))):=by rw[af,cI]
     have bk:AA (AG o1 (f+2) .AY) (f+5)=some (.Ao 124 11 (e.map λx=>V.d x.enc)):=by
      rw[Xc o1 (f+2) (f+5) ⟨_,l1⟩,Af (by omega),l2]
     have bz:AA (AG (AG o1 (f+2) .AY) (f+5) .AY) (f+6)=some (.Ao 127 7 (q.map λx=>V.d x.enc)):=by
      rw[Xc _ (f+5) (f+6) ⟨_,bk⟩,Af (by omega),Xc o1 (f+2) (f+6) ⟨_,l1⟩,Af (by omega),l3]
     have co:AA (AG (AG (AG o1 (f+2) .AY) (f+5) .AY) (f+6) .AY) id=some (.Ao 45 5 (O.set i (R0 (.sl (f+5) r.Ak.length) (.sl (f+6) r.BK.length)))):=by
      rw[Xc _ (f+6) id ⟨_,bz⟩,Af (λh=>ah h.symm),Xc _ (f+5) id ⟨_,bk⟩,Af (λh=>Q h.symm),Xc o1 (f+2) id ⟨_,l1⟩,Af (λh=>ad h.symm),li]
     have g:Ct 3 o1 (R0 (.sl (f+5) r.Ak.length) (.sl (f+6) r.BK.length))=some (.agg [.AM r.head,.int .i64 n,.AF 8 (d.map Am.enc),.AF 11 (e.map BB.enc),.AF 7 (q.map Ba.enc)],AG (AG (AG o1 (f+2) .AY) (f+5) .AY) (f+6) .AY):=by
      have hd:∀(x:D)(o:AB),Ct 2 o (.d x)=some (x,o):=λx o=>rfl;show FF (Ej (Ct 2) o1 _)=_;simp only[Ej,hd,ID (k:=0) (n:=r.AW.length) Am.enc l1 (by decide) a5.symm,ID (k:=0) (n:=r.Ak.length) BB.enc bk (by decide) bg.symm,ID (k:=0) (n:=r.BK.length) Ba.enc bz (by decide) bj.symm,Uq,FF]
     have b3:=Ox li (i:=i) (by rw[List.getElem?_set_self M]) g co rfl;rw[<-af];have pI:¬f+2=f+5:=by omega
     have sg:AG (AG (AG o1 (f+2) .AY) (f+5) .AY) (f+6) .AY=(f+6,.AY)::(f+5,.AY)::(f+4,.box 174 (.mp (f+3)))::(f+3,.map (Y3 (d.map Am.name) d.length))::(f+2,.AY)::(f+1,.box 179 (.ep id m 5 i 0 []))::(f,.box 159 (.ptr 4 []))::AG W id (.Ao 45 5 (O.set i (R0 (.sl (f+5) r.Ak.length) (.sl (f+6) r.BK.length)))):=by
      rw[af];show AG (AG (AG ((f+6,_)::(f+5,_)::(f+4,_)::(f+3,_)::(f+2,_)::(f+1,_)::(f,_)::AG W id _) _ _) _ _) _ _=_;simp[AG]
     have bq:AG (AG (AG (AG o1 (f+2) .AY) (f+5) .AY) (f+6) .AY) id (.Ao 45 5 ((O.set i (R0 (.sl (f+5) r.Ak.length) (.sl (f+6) r.BK.length))).set i (.d (.agg [.AM r.head,.int .i64 n,.AF 8 (d.map Am.enc),.AF 11 (e.map BB.enc),.AF 7 (q.map Ba.enc)]))))=(f+6,.AY)::(f+5,.AY)::(f+4,.box 174 (.mp (f+3)))::(f+3,.map (Y3 (d.map Am.name) d.length))::(f+2,.AY)::(f+1,.box 179 (.ep id m 5 i 0 []))::(f,.box 159 (.ptr 4 []))::AG W id (.Ao 45 5 (O.set i (.d ({r with AP:=(n:Int),AW:=d,Ak:=e,BK:=q}:Ai).enc))):=by
      rw[sg,AG,Af ah,AG,Af Q,AG,Af aq,AG,Af ap,AG,Af ad,AG,Af ac,AG,Af av,X4,List.set_set];rfl
     rw[bq]at b3;have dk:Xh (AE f [f,f+1,f+2,f+3,f+4,f+5,f+6]) o1=o1:=by rw[af];exact cD (BV _) k7
     have d0:Xh (AE f []) ((f+6,.AY)::(f+5,.AY)::(f+4,.box 174 (.mp (f+3)))::(f+3,.map (Y3 (d.map Am.name) d.length))::(f+2,.AY)::(f+1,.box 179 (.ep id m 5 i 0 []))::(f,.box 159 (.ptr 4 []))::AG W id (.Ao 45 5 (O.set i (.d ({r with AP:=(n:Int),AW:=d,Ak:=e,BK:=q}:Ai).enc))))=AG W id (.Ao 45 5 (O.set i (.d ({r with AP:=(n:Int),AW:=d,Ak:=e,BK:=q}:Ai).enc))):=by
      have y0:∀j,f<=j->AE f [] j=true:=λj hj=>by simp[AE];omega
      simp only[Xh,y0 (f+6) (by omega),y0 (f+5) (by omega),y0 (f+4) (by omega),y0 (f+3) (by omega),y0 (f+2) (by omega),y0 (f+1) (by omega),y0 f (by omega),Cz];exact Xe (by simp;omega)
     refine⟨[f,f+1,f+2,f+3,f+4,f+5,f+6],by simp,by rw[dk,af];exact cN (BV _) k7 (Xw _ _),_,by rw[dk];exact b3,[],by simp[A7.BJ],?_,?_⟩
     ·rw[d0];exact Xn (Xy rfl _ (bx _)) (by simpa[fo]using bh [])
     ·rw[d0];exact h1 _ hq
end
def Lg:List Edge->Nat
|[]=>0
|e::r=>cond (Region.binds .any e) (Nat.lor (Lg r) (Nat.shiftLeft 1 e.on)) (Lg r)
def SD (a:Array Oper):List Nat:=a.toList.map λo=>Lg o.after.toList
def U9 (m:Nat):List Nat->Nat->List Nat
|[],_=>[]
|d::r,i=>cond (Nat.beq (Nat.land (Nat.shiftRight m i) 1) 0&&Nat.beq (Nat.land d m) d) (i::U9 m r (i+1)) (U9 m r (i+1))
def Mk (a:Array Oper)(b:Oper)(i:Nat):List Oper->Nat->Nat
|[],_=>0
|c::r,j=>cond (j==i||(c.after.any (λe=>Region.binds .any e&&e.on==i)||b.apart a c)) (Mk a b i r (j+1)) (Nat.lor (Mk a b i r (j+1)) (Nat.shiftLeft 1 j))
def PR (a:Array Oper):List Oper->Nat->List Nat
|[],_=>[]
|o::r,i=>Mk a o i a.toList 0::PR a r (i+1)
def SC (a:Array Oper):List Nat:=PR a a.toList 0
def Ra (a:List Nat)(m i:Nat):Bool:=match a[i]? with
|some c=>Nat.beq (Nat.land c m) c
|none=>false
def HI {a:Type}(n:Nat)(k:Nat->a):a:=match n with
|0=>k 0
|m+1=>k (m+1)
theorem wL {a:Type}(n:Nat)(k:Nat->a):HI n k=k n:=by cases n<;>rfl
mutual
def Jo (P:Program)(N:Nat)(a:Array Oper)(d:Nat->Nat)(b c:List Nat):Nat->Nat->Ot->Bool
|0,m,.done=>(U9 m b 0).isEmpty
|n+1,m,.BU i x r=>(U9 m b 0).contains i&&(match a[i]? with|some o=>x.Aa P N a o|none=>false)&&x.kind==d i&&
 (match x.kind with
 |0=>Ra c m i
 |5=>Ra c m i
 |1=>Ra c m i&&(List.range a.size).all (λj=>d j != 3||j==i||SS a i j)
 |_=>(U9 m b 0)==[i])&&
 HI (Nat.lor m (Nat.shiftLeft 1 i)) (λm=>Jo P N a d b c n m r)
|n+1,m,.br l=>!(U9 m b 0).isEmpty&&(U9 m b 0).all (λj=>l.has j)&&VI P N a d b c n m l
|_,_,_=>false
def VI (P:Program)(N:Nat)(a:Array Oper)(b:Nat->Nat)(c d:List Nat):Nat->Nat->Ev->Bool
|_,_,.nil=>true
|n,m,.cons i x r l=>(U9 m c 0).contains i&&(match a[i]? with|some o=>x.Aa P N a o|none=>false)&&x.kind==b i&&HI (Nat.lor m (Nat.shiftLeft 1 i)) (λm=>Jo P N a b c d n m r)&&VI P N a b c d n m l
end
structure HA (ops:Array Oper)(m:Nat)(listed:Array Bool):Prop where
 size:listed.size=ops.size
 P0:∀j,listed.getD j false=m.testBit j
theorem Xwf (a m:Nat):Nat.beq (Nat.land a m) a=true↔∀k,a.testBit k=true->m.testBit k=true:=by
 rw[Nat.beq_eq];show a &&&m=a↔_;constructor
 ·intro h k b;have:=CK (λx=>x.testBit k) h;simp only[Nat.testBit_and,b,EA]at this;exact this
 ·intro h;apply Nat.eq_of_testBit_eq;intro k;rw[Nat.testBit_and];cases b:a.testBit k with
  |false=>rfl
  |true=>rw[h k b];rfl
theorem Yib (m i:Nat):Nat.beq (Nat.land (Nat.shiftRight m i) 1) 0=!m.testBit i:=by
 rw[Dl,Nat.beq_eq];show(m >>> i) &&&1=0↔_;rw[Nat.testBit,Nat.and_comm];simp
theorem gL (m i k:Nat):(Nat.lor m (Nat.shiftLeft 1 i)).testBit k=(m.testBit k||decide (k=i)):=by
 show(m |||1 <<< i).testBit k=_;rw[Nat.testBit_or,Nat.one_shiftLeft,Nat.testBit_two_pow];congr 1;exact decide_eq_decide.2 ⟨λh=>h.symm,λh=>h.symm⟩
theorem dx:∀(l:List Edge)(k:Nat),(Lg l).testBit k=true↔∃e∈l,Region.binds .any e=true/\e.on=k
|[],k=>by simp[Lg]
|e::r,k=>by
 have d:=dx r k;rw[Lg];cases c:Region.binds .any e with
 |false=>simp[d,c]
 |true=>
  simp only[cond_true,gL,MW,d,Bs,DA];constructor
  ·rintro (⟨x,b,a⟩|rfl)
   ·exact⟨x,.inr b,a⟩
   ·exact⟨e,.inl rfl,c,rfl⟩
  ·rintro⟨x,(rfl|b),a⟩
   ·exact .inr a.2.symm
   ·exact .inl ⟨x,b,a⟩
theorem uU (m:Nat)(p:Nat->Bool):∀(l:List Oper)(i:Nat),(∀k (b:k<l.length),p (i+k)=(!m.testBit (i+k)&&Nat.beq (Nat.land (Lg l[k].after.toList) m) (Lg l[k].after.toList)))->U9 m (l.map λo=>Lg o.after.toList) i=(List.range' i l.length).filter p
|[],i,_=>by simp[U9]
|o::r,i,h=>by
 have a:=h 0 (by simp);have c:=uU m p r (i+1) λk b=>by
  have:=h (k+1) (by simpa using b);simpa[Kg,Nat.add_comm 1 k]using this
 simp only[Nat.add_zero,List.getElem_cons_zero]at a;rw[Cg,U9,Yib,<-a,List.length_cons,QU,List.filter_cons,c];cases p i<;>rfl
theorem VD {b:Array Oper}{m:Nat}{a:Array Bool}(h:HA b m a):U9 m (SD b) 0=Region.ready .any b a:=by
 unfold Region.ready SD;rw[List.range_eq_range',<-Array.length_toList];refine uU m _ _ _ λk f=>?_;have c:k<b.size:=by simpa using f
 have i:k<a.size:=by rw[h.size];exact c
 have j:a.getD k true=m.testBit k:=by
  rw[<-h.P0 k];simp[Array.getD,i]
 rw[JG,j,QX c];congr 1;simp only[Option.map_some,Option.getD_some];rw[Dl,Xwf,Array.getElem_toList];rw[<-Array.all_toList,DQ];constructor
 ·intro g k f;obtain⟨e,l,d,rfl⟩:=(dx _ _).1 f;have:=g e l;rw[d,h.P0]at this;simpa using this
 ·intro g x n;cases d:Region.binds .any x with
  |false=>rfl
  |true=>
   rw[h.P0,g x.on ((dx _ _).2 ⟨x,n,d,rfl⟩)];rfl
theorem tf {b:Array Oper}{m i:Nat}{a:Array Bool}(h:HA b m a)(f:i<b.size):HA b (Nat.lor m (Nat.shiftLeft 1 i)) (a.setIfInBounds i true):=by
 refine⟨by simpa using h.size,λj=>?_⟩;rw[gL,<-h.P0 j];have c:i<a.size:=by rw[h.size];exact f
 by_cases e:j=i
 ·subst e;simp[Array.getD,c]
 ·have d:¬i=j:=λh=>e h.symm;simp only[Array.getD,Array.size_setIfInBounds,e,decide_false,Bool.or_false];split
  ·rename_i g;show(a.setIfInBounds i true)[j]'(by simpa using g)=a[j];rw[Array.getElem_setIfInBounds,Af d]
  ·rfl
theorem zR {b:Array Oper}{a:Array Bool}{i:Nat}(h:i∈Region.ready .any b a):i<b.size:=by
 unfold Region.ready at h;simpa using(List.mem_filter.1 h).1
theorem dh (a:Array Oper)(c:Oper)(i k:Nat):∀(l:List Oper)(b:Nat),(Mk a c i l b).testBit k=true↔∃t o,l[t]? = some o/\k=b+t/\(k==i||(o.after.any (λe=>Region.binds .any e&&e.on==i)||c.apart a o))=false
|[],b=>by simp[Mk]
|d::r,b=>by
 have n:=dh a c i k r (b+1);have m:(∃t o,(d::r)[t]? = some o/\k=b+t/\(k==i||(o.after.any (λe=>Region.binds .any e&&e.on==i)||c.apart a o))=false)↔(k=b/\(b==i||(d.after.any (λe=>Region.binds .any e&&e.on==i)||c.apart a d))=false)\/(Mk a c i r (b+1)).testBit k=true:=by
  rw[n];constructor
  ·rintro⟨t,o,f,j,g⟩;cases t with
   |zero=>
    simp only[List.getElem?_cons_zero,Bu]at f;subst f;exact .inl ⟨j,by rw[j]at g;exact g⟩
   |succ t=>exact .inr ⟨t,o,by simpa using f,by omega,g⟩
  ·rintro (⟨rfl,h⟩|⟨t,o,f,j,g⟩)
   ·exact⟨0,d,rfl,rfl,h⟩
   ·exact⟨t+1,o,by simpa using f,by omega,g⟩
 rw[m,Mk];cases p:(b==i||(d.after.any (λe=>Region.binds .any e&&e.on==i)||c.apart a d)) with
 |true=>simp
 |false=>rw[cond_false,gL,MW,Bs,or_comm];simp
theorem wS (a:Array Oper):∀(l:List Oper)(b k:Nat),(PR a l b)[k]? = (l[k]?).map λo=>Mk a o (b+k) a.toList 0
|[],b,k=>by simp[PR]
|o::r,b,k=>by
 cases k with
 |zero=>simp[PR]
 |succ k=>
  have:=wS a r (b+1) k;simp only[PR,List.getElem?_cons_succ,this];rw[show b+1+k=b+(k+1) by omega]
theorem Ykd {b:Array Oper}{m:Nat}{a:Array Bool}(h:HA b m a)(i:Nat):Ra (SC b) m i=Region.free .any b a i:=by
 unfold Ra Region.free SC;rw[wS,Array.getElem?_toList,JG];cases x:b[i]? with
 |none=>rfl
 |some q=>
  simp only[Option.map_some];rw[Dl,Xwf,DQ];constructor
  ·intro g j u;have c:j<b.size:=by simpa using u
   have n:j<a.size:=by rw[h.size];exact c
   have f:a.getD j true=m.testBit j:=by
    rw[<-h.P0 j];simp[Array.getD,n]
   rw[QX c,f];cases r:(j==i||(b[j].after.any (λe=>Region.binds .any e&&e.on==i)||q.apart b b[j])) with
   |false=>
    rw[g j ((dh b q i j _ 0).2 ⟨j,b[j],by rw[Array.getElem?_toList,QX c],by omega,r⟩)];simp
   |true=>
    revert r;cases (j==i)<;>cases m.testBit j<;>simp
  ·intro g k v;obtain⟨t,o,l,w,s⟩:=(dh b q i k _ 0).1 v;have e:t=k:=by omega
   subst e;rw[Array.getElem?_toList]at l;have d:t<b.size:=(Array.getElem?_eq_some_iff.1 l).1;have p:t<a.size:=by rw[h.size];exact d
   have f:a.getD t true=m.testBit t:=by
    rw[<-h.P0 t];simp[Array.getD,p]
   have:=g t (by simpa using d);rw[l,f]at this;revert s this;cases (t==i)<;>cases m.testBit t<;>simp
section
variable {P:Program} {N:Nat} {ops:Array Oper} {kd:Nat->Nat}
mutual
theorem dn:∀(t:Ot)(n m:Nat)(a:Array Bool),HA ops m a->Jo P N ops kd (SD ops) (SC ops) n m t=true->Wx P N ops kd n a t=true
|.done,n,m,a,b,h=>by
 cases n with
 |zero=>simp only[Jo,Wx,VD b]at h⊢;exact h
 |succ n=>simp[Jo]at h
|.BU i x r,n,m,a,b,h=>by
 cases n with
 |zero=>simp[Jo]at h
 |succ n=>
  simp only[Jo,Wx,VD b,Ykd b,wL,As]at h⊢;exact⟨h.1,dn r n _ _ (tf b (zR (List.contains_iff_mem.1 h.1.1.1.1))) h.2⟩
|.br l,n,m,a,b,h=>by
 cases n with
 |zero=>simp[Jo]at h
 |succ n=>
  simp only[Jo,Wx,VD b,As]at h⊢;exact⟨h.1,vW l n _ _ b h.2⟩
theorem vW:∀(l:Ev)(n m:Nat)(a:Array Bool),HA ops m a->VI P N ops kd (SD ops) (SC ops) n m l=true->Jx P N ops kd n a l=true
|.nil,n,m,a,_,_=>by simp only[Jx]
|.cons i x r l,n,m,a,b,h=>by
 simp only[VI,Jx,VD b,wL,As]at h⊢;exact⟨⟨h.1.1,dn r n _ _ (tf b (zR (List.contains_iff_mem.1 h.1.1.1.1))) h.1.2⟩,vW l n _ _ b h.2⟩
end
end
theorem Ydi (a:Array Oper):HA a 0 (Array.replicate a.size false):=by
 refine⟨by simp,λj=>?_⟩;simp[Array.getD]
def HW (P:Program)(N:Nat):Code->S->Bool
|.region _ e f,.E3 n t _ g=>VT e&&f&&decide (n<=e.size)&&Region.noSelect e&&Rl g e&&Jo P N e (aZ t.kinds) (SD e) (SC e) n 0 t
|.seq a b,.seq x y=>HW P N a x&&HW P N b y
|.cond c a b,.cond d x y=>A.Aa c d&&HW P N a x&&HW P N b y
|.block n a,.block m x=>n==m&&HW P N a x
|.loop a,.loop _ x=>HW P N a x
|c,s=>S.Aa P N c s
theorem Rc7 {P:Program}{N:Nat}:∀(c:Code)(s:S),HW P N c s=true->S.Aa P N c s=true:=λc s=>by
 induction s generalizing c with
 |E3 n t f g=>
  cases c<;>intro h<;>simp only[HW,S.Aa,As]at h⊢<;>try exact h
  exact⟨h.1,dn _ _ _ _ (Ydi _) h.2⟩
 |seq x y a b=>
  cases c<;>intro h<;>simp only[HW,S.Aa,As]at h⊢<;>try exact h
  exact⟨a _ h.1,b _ h.2⟩
 |cond d x y a b=>
  cases c<;>intro h<;>simp only[HW,S.Aa,As]at h⊢<;>try exact h
  exact⟨⟨h.1.1,a _ h.1.2⟩,b _ h.2⟩
 |block m x e=>
  cases c<;>intro h<;>simp only[HW,S.Aa,As]at h⊢<;>try exact h
  exact⟨h.1,e _ h.2⟩
 |loop f x e=>
  cases c<;>intro h<;>simp only[HW,S.Aa]at h⊢<;>try exact h
  exact e _ h
 |_=>cases c<;>intro h<;>simpa only[HW]using h
def Ytl (P:Program)(f n:Nat)(s:S)(c:List RV):Bool:=match P.funcs[f]? with
|some b=>match b.body with
 |some a=>decide (n<=b.ntmps)&&HW P b.ntmps a s&&Qk P b.results.toList c&&s.DC
 |none=>false
|none=>false
theorem Ytm {P:Program}{f n:Nat}{s:S}{d:List RV}(h:Ytl P f n s d=true):Xr P f n s d=true:=by
 unfold Ytl at h;unfold Xr Hh;cases c:P.funcs[f]? with
 |none=>rw[c]at h;cases h
 |some e=>
  rw[c]at h;simp only at h⊢;cases b:e.body with
  |none=>rw[b]at h;cases h
  |some a=>
   rw[b]at h;simp only[As]at h⊢;exact⟨⟨⟨h.1.1.1,Rc7 _ _ h.1.1.2⟩,h.1.2⟩,h.2⟩
def Ygf:Nat:=0x1000b4386502c07202b22b3e9
def dF:Nat:=0x126a4b4bd90ab01f12412b14f4968e692669f4117815278e691d68541125469fc2b2547b57a58e692669f96690c3079664a541163e4a590c7b501419c34469f9829267b57815278e691d68596690c3079664a541163e4a590c7b501419c34268598291d7b525469fc2b25404e18569f98292604ec2b98291d04e25406217f3de214acb00f0e27ea06008839927800406e00606a1ca89300206a0750185607e30170b501c06001807698b0120cc2560110b501607b01207620400e0cc21300d0b53f94020761d7009a9b0c20080b500d060bc70fa0030be0080526d407b00307605c12f08b04d03608200304a06033303501e0430260010004b426e1550d7b37604ac01210c80f307502f89b4b404d04702d4cd02b18b0c908102c4b415aa4eabc080
def dG:Nat:=0x105fb430aeb43097029004c790c80260751f91110230250560240c83bf99c03f85f0210460200c801f7ff01f62d
def pf:Nat:=0x105f11197521395f8db31d00e97501312831d99895f88b77697521395f2787766ee2de21377605295f88b48800e97501312831d9987766ee2de21377605248800e04e4262de00a062ab79ed130c010750160c61d701536f07b35a30a01209112c0110050fa20b01e19172808d174c8e00d01e05c00909104d16600304a07b0590b304301a052
def jj:S:=zS [(zS [(zS [(zS [] Ygf)] dF)] dG)] pf
theorem Zf5:Xr Tryz.prog 92 2 jj []=true:=Ytm (by kernel_rfl)
def Yfp:Nat:=0x176b2fe77a02b041023181022c1c2fe77a02904102506702509da950271c7006255026b15005099026c0b2fe26d8ff024ab96020dd84d023c460234860d91567270220ed0241b0
def Ymy:S:=zS [] Yfp
def Yfq:Nat:=0x176ba8f0d906208f0d6181015c1ca8f77a01c40506702409d0ab01a0b58fc0194a606b099019c0b21137b0088ff01704110c015041bdd016c46016038a8f0d90621326c10ed0171b0
def Ymz:S:=zS [] Yfq
def Yfr:Nat:=0x176b87f77a01119f181008c1c87f77a00f18306702309dc95006a18b1a5b3c0b87f7e88ff00a0ba510041780009c4600903887f0d91560070ba0ed175080
def Ym0:S:=zS [] Yfr
def Yfs:Nat:=0x176b81d0040620c004102d0720c96f24d781d0040620b904115512100302258a2c904112f05211c12d04300006a12a1360060340240e59e301f05c0760fb08b0f60040351c803301e2eb00403073a07d00839813d0630581b686881d8de0f30b30c90ddad76e7004805a948ff02b0c98d2080
def Ym1:S:=zS [] Yfs
def jm:DK:=.pre (.rg [] [.op (some 1) (.box 29 (.t 0)),
 .op (some 2) (.alloc 29 (.agg [.AT,.AT,.AT,.AT,.AT,.AT])),
 .op (some 3) (.alloc 35 (.int .i64 0))] [1,2,3] [])
 (.pre (.rg [] [.op (some 11) (.c (.ld 6 true (.t 1))),
  .op (some 12) (.call 81 [(.t 11)]),
  .op (some 10) (.c (.mv (.t 12))),
  .op (some 13) (.c (.ext (.t 10) 0)),
  .op (some 14) (.c (.ext (.t 10) 1)),
  .op (some 4) (.c (.mv (.t 13))),
  .op (some 5) (.c (.mv (.t 14)))] [1,2,3,4,5] [])
 (.pre (.seq (.rg [] [.op (some 15) (.c (.mv (.t 5)))] [1,2,3,4,15] [])
 (.cond (.t 15) (.seq (.rg [] [.op (some 16) (.c (.ld 6 true (.t 2))),
  .op none (.st 6 (.t 2) (.t 16)),
  .op none (.st 1 (.t 3) (.int .i64 111))] [2,3] [])
 (.ret)) (.skip)))
 (.Dm [.op (some 17) (.c (.D5 82 [] [(.t 2),(.t 3)]))] [1,2,3,4,17] 17
 (.seq (.rg [0,3,6,9,12,15,1,4,7,10,13,16,2,5,8,11,14,17,18,19] [.op (some 18) (.c (.BW 0 0 (.t 1))),
  .op (some 21) (.c (.BW 1 1 (.t 1))),
  .op (some 24) (.c (.BW 2 2 (.t 1))),
  .op (some 27) (.c (.BW 3 3 (.t 1))),
  .op (some 30) (.c (.BW 4 4 (.t 1))),
  .op (some 33) (.c (.BW 5 5 (.t 1))),
  .op (some 19) (.c (.ld 1 false (.t 18))),
  .op (some 22) (.c (.ld 1 false (.t 21))),
  .op (some 25) (.c (.ld 1 false (.t 24))),
  .op (some 28) (.c (.ld 1 false (.t 27))),
  .op (some 31) (.c (.ld 1 false (.t 30))),
  .op (some 34) (.c (.ld 1 false (.t 33))),
  .op (some 20) (.Bx 83 [(.t 19)]),
  .op (some 23) (.Bx 84 [(.t 22)]),
  .op (some 26) (.Bx 85 [(.t 25)]),
  .op (some 29) (.Bx 86 [(.t 28)]),
  .op (some 32) (.Bx 87 [(.t 31)]),
  .op (some 35) (.Bx 88 [(.t 34)]),
  .op (some 36) (.c (.E0 [.AT,.AT,.AT,.AT,.AT,.AT] [(0,(.t 20)),(1,(.t 23)),(2,(.t 26)),(3,(.t 29)),(4,(.t 32)),(5,(.t 35))])),
  .op none (.st 6 (.t 2) (.t 36))] [2,3,4] [2,3])
 (.seq (.rg [] [.op (some 37) (.c (.mv (.t 4))),
  .op (some 38) (.c (.BW 1 1 (.t 2))),
  .op (some 39) (.c (.ld 1 false (.t 38))),
  .op (some 40) (.call 89 [(.t 37),(.t 39)])] [2,3,4] [2,3])
 (.seq (.seq (.rg [] [.op (some 41) (.c (.BW 2 2 (.t 2))),
  .op (some 42) (.c (.ld 1 false (.t 41))),
  .op (some 43) (.c (.CV (.t 42))),
  .op (some 44) (.c (.mv (.int .i64 0)))] [2,3,4,43,44] [2,3])
 (.block 0 (.loop [2,3,4,43,44] Ym1)))
 (.seq (.seq (.rg [] [.op (some 61) (.c (.BW 3 3 (.t 2))),
  .op (some 62) (.c (.ld 1 false (.t 61))),
  .op (some 63) (.c (.CV (.t 62))),
  .op (some 64) (.c (.mv (.int .i64 0)))] [2,3,4,63,64] [2,3])
 (.block 2 (.loop [2,3,4,63,64] Ym0)))
 (.seq (.seq (.rg [] [.op (some 74) (.c (.BW 4 4 (.t 2))),
  .op (some 75) (.c (.ld 1 false (.t 74))),
  .op (some 76) (.c (.CV (.t 75))),
  .op (some 77) (.c (.mv (.int .i64 0)))] [2,3,4,76,77] [2,3])
 (.block 4 (.loop [2,3,4,76,77] Ymz)))
 (.seq (.seq (.rg [] [.op (some 87) (.c (.BW 5 5 (.t 2))),
  .op (some 88) (.c (.ld 1 false (.t 87))),
  .op (some 89) (.c (.CV (.t 88))),
  .op (some 90) (.c (.mv (.int .i64 0)))] [2,3,4,89,90] [2,3])
 (.block 6 (.loop [2,3,4,89,90] Ymy)))
 (.seq (.rg [] [.op (some 100) (.Ia 6 true (.t 2)),
  .op none (.st 6 (.t 2) (.t 100)),
  .op none (.st 1 (.t 3) (.int .i64 0))] [2,3] [2,3])
 (.ret)))))))))))
theorem Znp:PU Tryz.prog 41 1 jm [.c 2 6 true,.c 3 1 false]=true:=by kernel_rfl
def Yf7:Nat:=0x10400242d7001056010538b93006168028270
def aX:List It:=[.op (some 2) (.c (.mv (.t 5)))]
def Yey:List Nat:=[0,1,2]
def pZ:Nat:=0x1bd611100f01500286450d00d42300e144bd000c1a50700142be02b03992507e0b400c02500a10c0092be02b31b01c21451005a00704ccbe1906ff228144
def jf:S:=zS [(zS [] Yf7)] pZ
theorem Zf4:PS Tryz.prog 82 2 5 aX jf=true:=by kernel_rfl
def VZ:S2:=zL [] [] Ygf
def Yhs:=(by cbv:VZ=_)
def O6:S2:=zL [] [VZ] dF
def Zol:=(show O6=_ from (λ(a:S2)=>(by cbv:zL [] [a] dF=_)) VZ)
def V0:S2:=zL [] [O6] dG
def Yht:=(show V0=_ from (λ(a:S2)=>(by cbv:zL [] [a] dG=_)) O6)
def XM:S2:=zL [] [V0] pf
def Zht:=(show XM=_ from (λ(a:S2)=>(by cbv:zL [] [a] pf=_)) V0)
theorem Zkp:jj.AZ []=some XM:=by kernel_rfl
def sM:S2:=zL [] [] Yfp
def Xzb:=(by cbv:sM=_)
def sN:S2:=zL [] [] Yfq
def Xzc:=(by cbv:sN=_)
def sO:S2:=zL [] [] Yfr
def Xzd:=(by cbv:sO=_)
def sQ:S2:=zL [] [] Yfs
def Xze:=(by cbv:sQ=_)
def Zds:LB:=.pre (.rg [.op (some 1) (.box 29 (.t 0)),.op (some 2) (.alloc 29 (.agg [.AT,.AT,.AT,.AT,.AT,.AT])),.op (some 3) (.alloc 35 (.int .i64 0))] [(1,(.a (.t 1))),(2,(.a (.t 2))),(3,(.a (.t 3)))] [])
 (.pre (.rg [.Aa [] (.u (.ld 6 true (.t 0)) (.a (.t 1))),.lt 11 [] (.u (.ld 6 true (.t 0)) (.a (.t 1))),.op (some 12) (.call 81 [(.t 11)])] [(1,(.a (.t 1))),(2,(.a (.t 2))),(3,(.a (.t 3))),(4,(.u (.ext (.t 0) 0) (.a (.t 12)))),(5,(.u (.ext (.t 0) 1) (.a (.t 12))))] [])
 (.pre (.seq (.rg [] [(1,(.a (.t 1))),(2,(.a (.t 2))),(3,(.a (.t 3))),(4,(.a (.t 4))),(15,(.a (.t 5)))] [])
 (.cond (.t 15) (.seq (.rg [.Aa [] (.u (.ld 6 true (.t 0)) (.a (.t 2))),.lt 16 [] (.u (.ld 6 true (.t 0)) (.a (.t 2))),.op none (.st 6 (.t 2) (.t 16)),.op none (.st 1 (.t 3) (.int .i64 111))] [(2,(.a (.t 2))),(3,(.a (.t 3)))] [])
 (.ret)) (.skip)))
 (.Dm [.op (some 17) (.c (.D5 82 [] [(.t 2),(.t 3)]))] [(1,(.a (.t 1))),(2,(.a (.t 2))),(3,(.a (.t 3))),(4,(.a (.t 4))),(17,(.a (.t 17)))] 17
 (.seq (.rg [.Aa [] (.u (.ld 1 false (.t 0)) (.u (.BW 5 5 (.t 0)) (.a (.t 1)))),.Aa [] (.u (.ld 1 false (.t 0)) (.u (.BW 4 4 (.t 0)) (.a (.t 1)))),.Aa [] (.u (.ld 1 false (.t 0)) (.u (.BW 3 3 (.t 0)) (.a (.t 1)))),.Aa [] (.u (.ld 1 false (.t 0)) (.u (.BW 2 2 (.t 0)) (.a (.t 1)))),.Aa [] (.u (.ld 1 false (.t 0)) (.u (.BW 1 1 (.t 0)) (.a (.t 1)))),.Aa [] (.u (.ld 1 false (.t 0)) (.u (.BW 0 0 (.t 0)) (.a (.t 1)))),.lt 34 [] (.u (.ld 1 false (.t 0)) (.u (.BW 5 5 (.t 0)) (.a (.t 1)))),.lt 31 [] (.u (.ld 1 false (.t 0)) (.u (.BW 4 4 (.t 0)) (.a (.t 1)))),.lt 28 [] (.u (.ld 1 false (.t 0)) (.u (.BW 3 3 (.t 0)) (.a (.t 1)))),.lt 25 [] (.u (.ld 1 false (.t 0)) (.u (.BW 2 2 (.t 0)) (.a (.t 1)))),.lt 22 [] (.u (.ld 1 false (.t 0)) (.u (.BW 1 1 (.t 0)) (.a (.t 1)))),.lt 19 [] (.u (.ld 1 false (.t 0)) (.u (.BW 0 0 (.t 0)) (.a (.t 1)))),.op (some 20) (.Bx 83 [(.t 19)]),.op (some 23) (.Bx 84 [(.t 22)]),.op (some 26) (.Bx 85 [(.t 25)]),.op (some 29) (.Bx 86 [(.t 28)]),.op (some 32) (.Bx 87 [(.t 31)]),.op (some 35) (.Bx 88 [(.t 34)]),.op (some 36) (.c (.E0 [.AT,.AT,.AT,.AT,.AT,.AT] [(0,(.t 20)),(1,(.t 23)),(2,(.t 26)),(3,(.t 29)),(4,(.t 32)),(5,(.t 35))])),.op none (.st 6 (.t 2) (.t 36))] [(2,(.a (.t 2))),(3,(.a (.t 3))),(4,(.a (.t 4)))] [2,3])
 (.seq (.rg [.Aa [] (.u (.ld 1 false (.t 0)) (.u (.BW 1 1 (.t 0)) (.a (.t 2)))),.lt 39 [] (.u (.ld 1 false (.t 0)) (.u (.BW 1 1 (.t 0)) (.a (.t 2)))),.lt 37 [] (.a (.t 4)),.op (some 40) (.call 89 [(.t 37),(.t 39)])] [(2,(.a (.t 2))),(3,(.a (.t 3))),(4,(.a (.t 4)))] [2,3])
 (.seq (.seq (.rg [] [(2,(.a (.t 2))),(3,(.a (.t 3))),(4,(.a (.t 4))),(43,(.u (.CV (.t 0)) (.u (.ld 1 false (.t 0)) (.u (.BW 2 2 (.t 0)) (.a (.t 2)))))),(44,(.a (.int .i64 0)))] [2,3])
 (.block 0 (.loop [2,3,4,43,44] sQ)))
 (.seq (.seq (.rg [] [(2,(.a (.t 2))),(3,(.a (.t 3))),(4,(.a (.t 4))),(63,(.u (.CV (.t 0)) (.u (.ld 1 false (.t 0)) (.u (.BW 3 3 (.t 0)) (.a (.t 2)))))),(64,(.a (.int .i64 0)))] [2,3])
 (.block 2 (.loop [2,3,4,63,64] sO)))
 (.seq (.seq (.rg [] [(2,(.a (.t 2))),(3,(.a (.t 3))),(4,(.a (.t 4))),(76,(.u (.CV (.t 0)) (.u (.ld 1 false (.t 0)) (.u (.BW 4 4 (.t 0)) (.a (.t 2)))))),(77,(.a (.int .i64 0)))] [2,3])
 (.block 4 (.loop [2,3,4,76,77] sN)))
 (.seq (.seq (.rg [] [(2,(.a (.t 2))),(3,(.a (.t 3))),(4,(.a (.t 4))),(89,(.u (.CV (.t 0)) (.u (.ld 1 false (.t 0)) (.u (.BW 5 5 (.t 0)) (.a (.t 2)))))),(90,(.a (.int .i64 0)))] [2,3])
 (.block 6 (.loop [2,3,4,89,90] sM)))
 (.seq (.rg [.op (some 100) (.Ia 6 true (.t 2)),.op none (.st 6 (.t 2) (.t 100)),.op none (.st 1 (.t 3) (.int .i64 0))] [(2,(.a (.t 2))),(3,(.a (.t 3)))] [2,3])
 (.ret)))))))))))
theorem Zjv:jm.AZ []=some Zds:=by kernel_rfl
def iP:S2:=zL [] [] Yf7
def Yhq:=(by cbv:iP=_)
def cQ:List Ek:=[]
def cO:List (Nat×E):=[(0,(.a (.t 0))),(1,(.a (.t 1))),(2,(.a (.t 5)))]
theorem Zc7:Hl [] Yey [] aX [] [] []=some (cQ,cO):=by kernel_rfl
def Zem:S2:=zL [] [iP] pZ
def Zbm:=(show Zem=_ from (λ(a:S2)=>(by cbv:zL [] [a] pZ=_)) iP)
theorem Zc5:jf.AZ []=some Zem:=by kernel_rfl
def og:S2:=match XM with
|.seq a _=>a
|s=>s
def oh:S2:=match O6 with
|.seq _ (.seq _ (.seq (.block _ (.seq _ (.seq _ t))) _))=>t
|s=>s
theorem Y2b:XM=.seq og V0:=rfl
theorem Yen:O6=.seq (.rg [] [(0,(.a (.t 0))),(1,(.a (.t 1))),(42,(.a (.t 42))),(43,(.a (.t 43))),(44,(.b (.Bc .lss (.t 0) (.t 1)) (.a (.t 43)) (.a (.t 42))))] [])
 (.seq (.cond (.t 44) (.skip) (.exit 0))
 (.seq (.block 1 (.seq (.rg [] [(0,(.a (.t 0))),(1,(.a (.t 1))),(4,(.a (.t 43))),(42,(.a (.t 42))),(43,(.a (.t 43)))] [])
 (.seq (.rg [] [(0,(.a (.t 0))),(1,(.a (.t 1))),(5,(.b (.DI 5 (.t 0) (.t 1)) (.u (.ld 1 false (.t 0)) (.u (.BW 4 4 (.t 0)) (.u (.Cw (.t 0)) (.a (.t 1))))) (.a (.t 4)))),(42,(.a (.t 42))),(43,(.a (.t 43)))] [])
 oh))) VZ)):=rfl
section
variable {P:Az} (hP:P.p=Tryz.prog)
include hP
theorem Y14 {y:Ah}{j:AB}{id m i:Nat}{k:List V}{c:Ag}{Q:Yt}(p:RC y j)(l:AA j id=some (.Ao 66 5 k))(q:k.length=m)(f:i<m)
 (g:∀h:i<k.length,k[i]=.d (.agg [.AM c.Aw,.AM c.CA,iD c.a,iD c.b,.AF 5 (c.Ap.map A8.enc)]))
 (w:∀a b,CU (y.AD.map AI.name) c.Aw=some a->CU (y.AD.map AI.name) c.CA=some b->Q .normal [(0,.ptr 4 []),(1,.ep id m 5 i 0 [])] (AG j id (.Ao 66 5 (k.set i (.d (.agg [.AM c.Aw,.AM c.CA,.int .i64 a,.int .i64 b,.AF 5 (c.Ap.map A8.enc)]))))))
 (t:CU (y.AD.map AI.name) c.Aw=none\/CU (y.AD.map AI.name) c.CA=none->Q (.panic (.d Y5)) [] j):
 Ys P [] og Q [(0,.ptr 4 []),(1,.ep id m 5 i 0 [])] j:=by
 have e:i<k.length:=by omega
 have n:=p.o4;have r:∀o,AA (AG j id o) id=some o:=λo=>by rw[Xc j id id ⟨_,l⟩,BL rfl]
 simp[og,Zht,n,l,q,f,e,g]
 repeat' apply And.intro
 all_goals refine Yy hP p.o7 (λa u=>?_) (λs=>t (.inl s))
 all_goals simp[n,l,q,f,e,g]
 repeat' apply And.intro
 all_goals refine Yy hP p.o7 (λb v=>?_) (λs=>t (.inr s))
 all_goals simp[n,l,q,f,e,g,r,X4]
 all_goals exact w a b u v
set_option maxHeartbeats 4000000 in
theorem Y15 {y:Ah}{j:AB}{id c m i n k a b:Nat}{x w:List V}{f t:B}{u:A8}{A B:V}{Q:Yt}(G:RC y j)(K:AA j id=some (.Ao 66 5 x))(M:x.length=m)(r:i<m)
 (v:∀h:i<x.length,x[i]=.agg [.d (.AM f),.d (.AM t),.d (.int .i64 a),.d (.int .i64 b),.sl c n])
 (H:AA j c=some (.Ao 208 5 w)) (W:w.length=n) (L:k<n) (U:∀h:k<w.length,w[k]=.d (.agg [.AM u.CA,.AM u.Aw,iD u.b,iD u.a,iD u.shift])) (z:a<y.AD.length) (F:b<y.AD.length)
 (hn:∀p q,CU (D0 y.AD a) u.Aw=some p->CU (D0 y.AD b) u.CA=some q->Q .normal [(0,.ptr 4 []),(1,.ep id m 5 i 0 []),(42,A),(43,B)] (AG j c (.Ao 208 5 (w.set k (.d (.agg [.AM u.CA,.AM u.Aw,.int .i64 q,.int .i64 p,iD u.shift]))))))
 (X:CU (D0 y.AD a) u.Aw=none\/CU (D0 y.AD b) u.CA=none->Q (.panic (.d Y5)) [] j):
 Ys P [] oh Q [(0,.ptr 4 []),(1,.ep id m 5 i 0 []),(5,.ep c n 5 k 0 []),(42,A),(43,B)] j:=by
 have e:i<x.length:=by omega
 have s:k<w.length:=by omega
 have g:y.AD.length≠0:=by omega
 have J:=G.o4;have l:=G.QC g;have Y:=G.om a z;have Z:=G.om b F;have R:∀o,AA (AG j c o) c=some o:=λo=>by rw[Xc j c c ⟨_,H⟩,BL rfl]
 simp (maxSteps:=10000000) [oh,Zol,J,l,K,M,r,e,v,H,W,L,s,U,HJ,g,z,F,Wm,Vg]
 repeat' apply And.intro
 all_goals refine Yy hP Y (λp N=>?_) (λT=>X (.inl T))
 all_goals simp[J,l,K,M,r,e,v,H,W,L,s,U,HJ,g,z,F,Wm,Vg]
 repeat' apply And.intro
 all_goals refine Yy hP Z (λq O=>?_) (λT=>X (.inr T))
 all_goals simp[J,l,K,M,r,e,v,H,W,L,s,U,HJ,g,z,F,Wm,Vg,R,X4]
 all_goals exact hn p q N O
end
def MA (x:A8):V:=.d x.enc
section
variable {P:Az} (hP:P.p=Tryz.prog)
include hP
theorem Xsp {a:List D}(c:∀x∈a,x.sz=5)(e:a.length<=1000000){b:AB}{K:V->AB->Prop}(h:K (.sl (fresh b) a.length) ((fresh b,.Ao 208 5 (a.map .d))::b)):CD P 183 [.d (.AF 5 a)] b K:=
 G9 (ds:=[.AF 5 a]) (Zs hP AO Yss c (by omega) ⟨rfl,rfl⟩) h
theorem Xwv {y:Ah}{id m i:Nat}{Z:List V}{c:Ag}(hm:c.Ap.length<=1000000){f:AB}(hc:RC y f)(hi:AA f id=some (.Ao 66 5 Z))(hl:Z.length=m)(hv:Z[i]? = some (.d c.enc))(ae:∀p,BO p Z=false)(ao:id≠1/\id≠2){K:A7->AB->Prop}
 (h1:∀q,Zc y.AD c=some q->K (.ret (.BE [])) (AG f id (.Ao 66 5 (Z.set i (.d q.enc))))) (h0:Zc y.AD c=none->Pk K f):
 AV P 92 [.ptr 4 [],.ep id m 5 i 0 []] f K:=by
 refine AV.Gb ?_;refine Xk hP AO Zf5 Zkp BD.nil λ_ L=>?_;obtain⟨ap,ad⟩:=EK.1 hv;have pe:c.enc=.agg [.AM c.Aw,.AM c.CA,iD c.a,iD c.b,.AF 5 (c.Ap.map A8.enc)]:=rfl;rw[pe]at ad;have l:i<m:=by omega
 have aq:=Xf hi;have l4:=Xf hc.o4;have N:fresh f≠id:=by omega
 simp[Y2b];refine Y14 hP hc hi hl l (λ_=>ad) (λa b ha hb=>?_) (λv=>?_)
 ·have cR:Zc y.AD c=(Ju c.Ap (Nw y.AD a b)).map λms=>{c with a:=(a:Int),b:=(b:Int),Ap:=ms}:=by rw[Zc,ha,Option.bind_some,hb,Option.bind_some]
  obtain⟨v1,H⟩:∃v1,v1=Z.set i (V.d (.agg [.AM c.Aw,.AM c.CA,.int .i64 a,.int .i64 b,.AF 5 (c.Ap.map A8.enc)])):=⟨_,rfl⟩
  rw[<-H];have Y:v1.length=m:=by rw[H];simpa using hl
  have af:∀h:i<v1.length,v1[i]=V.d (.agg [.AM c.Aw,.AM c.CA,.int .i64 a,.int .i64 b,.AF 5 (c.Ap.map A8.enc)]):=λh=>by simp[H]
  have M:∀o,AA (AG f id o) id=some o:=λo=>by rw[Xc f id id ⟨_,hi⟩,BL rfl]
  simp[Yht,M,Y,af,l];refine Xsp hP (by intro x v;obtain⟨r,_,rfl⟩:=C9.1 v;rfl) (by simpa using hm) ?_;simp[M,N,Y,af,l,DZ,Bt,Zf,X4];refine⟨⟨_,_,_,⟨rfl,rfl,rfl⟩,by simp⟩,?_⟩;obtain⟨vs',t⟩:∃vs',vs'=v1.set i (V.agg [.d (.AM c.Aw),.d (.AM c.CA),.d (.int .i64 a),.d (.int .i64 b),.sl (fresh f) c.Ap.length]):=⟨_,rfl⟩
  rw[<-t];have ag:vs'.length=m:=by rw[t];simpa using Y
  have X:∀h:i<vs'.length,vs'[i]=V.agg [.d (.AM c.Aw),.d (.AM c.CA),.d (.int .i64 a),.d (.int .i64 b),.sl (fresh f) c.Ap.length]:=λh=>by simp[t]
  have ak:=hc.set (vs':=vs') hi (by decide);have fs:fresh (AG f id (.Ao 66 5 vs'))=fresh f:=by simp
  let j:List V->AB:=λus=>(fresh f,.Ao 208 5 us)::AG f id (.Ao 66 5 vs');have bG:∀us,AA (j us) (fresh f)=some (.Ao 208 5 us):=λus=>by simp[j,AA]
  have bS:∀us W,AG (j us) (fresh f) (.Ao 208 5 W)=j W:=λus W=>by simp[j,AG]
  have bI:∀us,AA (j us) id=some (.Ao 66 5 vs'):=λus=>by
   show AA ((fresh f,_)::AG f id _) id=_;rw[AA,Af N,M]
  have bC:∀us,RC y (j us):=λus=>by
   have:=ak.cons (.Ao 208 5 us)
   rwa [fs]at this
  have bF:∀us,fresh (j us)=fresh f+1:=λus=>by
   have:¬fresh f+1<=fresh f:=by omega
   simp[j,this]
  have bN:∀{n:Nat}{kp:List Nat}{us:List V},fresh f<=n->AE n kp (fresh f)=false->(∀p,BO p us=false)->AH (AE n kp) (j us)=true:=λhn hk hu=>by
   simp only[j,AH,hu,Bool.not_false,EA];refine Xn ?_ (X8 L hn);rw[t,H,List.set_set];exact Xy (by simp[V.BJ,BO,hk]) i (ae _)
  have bD:∀{n:Nat}{kp:List Nat}{us:List V},fresh f<=n->AE n kp (fresh f)=false->Xh (AE n kp) (j us)=j us:=λ{n kp us} hn hk=>by
   show Xh _ ((fresh f,_)::AG f id _)=_;rw[Xh,hk,Xe (by simp;omega)];rfl
  have aa:∀us x,x=1\/x=2->AA (j us) x=AA f x:=λus x v=>by
   have e1:fresh f≠x:=by omega
   show AA ((fresh f,_)::AG f id _) x=_;rw[AA,Af e1,Xc f id x ⟨_,hi⟩,Af (by omega)]
  have ai:a<y.AD.length:=by simpa using Nk ha
  have aj:b<y.AD.length:=by simpa using Nk hb
  show Ae _ _ _ _ (j (c.Ap.map (V.d∘A8.enc)));refine Ae.go (ι:=List A8) (λd=>[(0,.ptr 4 []),(1,.ep id m 5 i 0 []),(42,.d (.int .i64 c.Ap.length)),(43,.d (.int .i64 d.length))])
   (λd=>j ((d++c.Ap.drop d.length).map MA)) (λd=>d.length<=c.Ap.length/\Ju c.Ap (Nw y.AD a b)=DB (λ_=>Nw y.AD a b) d (c.Ap.drop d.length)) (λd=>c.Ap.length-d.length) [] ⟨by simp,rfl⟩ (by simp) (by simp;rfl) ?_
  rintro d ⟨hd,Q⟩ R rn re rr rp;have wl:((d++c.Ap.drop d.length).map MA).length=c.Ap.length:=by simp;omega
  by_cases w:d.length<c.Ap.length
  ·have wr:IntKind.i64.wrap ((d.length:Int)+1)=(d.length:Int)+1:=IntWalk.i64_in _ (by omega);have wk:=Jp MA w;have ws:=Jq MA w;rw[Db w,Zd]at Q;generalize hu:c.Ap[d.length]=u at Q wk;have ue:MA u=.d (.agg [.AM u.CA,.AM u.Aw,iD u.b,iD u.a,iD u.shift]):=rfl;rw[ue]at wk;generalize al:(d++c.Ap.drop d.length).map MA=us at wl wk ws;have ac:∀p,BO p us=false:=λp=>by rw[<-al];exact Xw _ _
   have ab:∀s:Nat,Ya y.AD s=D0 y.AD s:=λs=>by
    unfold Ya D0;simp only[Int.toNat_natCast];cases y.AD[s]?<;>rfl
   have T:Nw y.AD a b u=(CU (D0 y.AD a) u.Aw).bind λ(x:Nat)=>(CU (D0 y.AD b) u.CA).map λ(z:Nat)=>{u with a:=x,b:=z}:=by rw[<-ab,<-ab];rfl
   simp[Yen,w,bI,bG,ag,X,l,wl,wk];refine Y15 hP (bC _) (bI _) ag l X (bG _) wl w (λ_=>wk _) ai aj (λp q hp hq=>?_) (λv=>?_)
   ·have hz:Nw y.AD a b u=some {u with a:=(p:Int),b:=(q:Int) }:=by rw[T,hp,Option.bind_some,hq];rfl
    rw[hz,Option.bind_some]at Q;have e1:us.set d.length (.d (.agg [.AM u.CA,.AM u.Aw,.int .i64 q,.int .i64 p,iD u.shift]))=((d++[{u with a:=(p:Int),b:=(q:Int) }])++c.Ap.drop (d++[{u with a:=(p:Int),b:=(q:Int) }]).length).map MA:=ws {u with a:=(p:Int),b:=(q:Int) };rw[bS];simp[Yhs];rw[e1];refine rn [] (d++[{u with a:=(p:Int),b:=(q:Int) }]) _ _ ⟨by simp;omega,by rw[Q,DV];rfl⟩ (by simp;omega) (by simp[wr]) ?_ ?_ ?_
    ·rw[bF];exact bD (n:=fresh f+1) (kp:=[]) (by omega) (by simp[AE])
    ·rw[bF];simp[AE];omega
    ·rw[bF];exact bN (n:=fresh f+1) (kp:=[]) (by omega) (by simp[AE]) (λp=>Xw _ _)
   ·simp;refine rp _ _ _ ?_;have hz:Nw y.AD a b u=none:=by
     rcases v with v|v
     ·rw[T,v];rfl
     ·rw[T,v];cases CU (D0 y.AD a) u.Aw<;>rfl
    have U:=h0 (by rw[cR,Q,hz];rfl);simp;have k0:AE (fresh f) [fresh f] (fresh f)=false:=by simp[AE]
    have J:=bD (us:=us) (BV _) k0;have nk:=bN (us:=us) (BV _) k0 ac;refine⟨[fresh f],by simp,by rw[J];exact nk,_,Wk.refl _,[fresh f],by simp[A7.BJ],by rw[J,J];exact nk,?_⟩;rw[J,J];exact U _ (aa us 1 (.inl rfl)) (aa us 2 (.inr rfl))
  ·have O:d.length=c.Ap.length:=by omega
   rw[O,List.drop_length,DB]at Q;simp[Yen,w];refine re _ _ _ ?_;simp;have e:List.drop d.length (c.Ap.map MA)=[]:=Gj (by simp[O]);rw[e,GL];have hq:Zc y.AD c=some {c with a:=(a:Int),b:=(b:Int),Ap:=d}:=by rw[cR,Q];rfl
   obtain⟨G,F⟩:∃G,G=j (d.map MA):=⟨_,rfl⟩
   have li:AA G id=some (.Ao 66 5 vs'):=by rw[F,bI]
   have lf:AA G (fresh f)=some (.Ao 208 5 (d.map λr=>V.d r.enc)):=by rw[F,bG];rfl
   have g:Ct 3 G (V.agg [.d (.AM c.Aw),.d (.AM c.CA),.d (.int .i64 a),.d (.int .i64 b),.sl (fresh f) c.Ap.length])=some (.agg [.AM c.Aw,.AM c.CA,.int .i64 a,.int .i64 b,.AF 5 (d.map A8.enc)],AG G (fresh f) .AY):=by
    have hd:∀(x:D)(o:AB),Ct 2 o (.d x)=some (x,o):=λx o=>rfl;show FF (Ej (Ct 2) G _)=_;simp only[Ej,hd,ID (k:=0) A8.enc lf (by decide) O.symm,Uq,FF]
   have sg:AG G (fresh f) .AY=(fresh f,.AY)::AG f id (.Ao 66 5 vs'):=by rw[F];simp[j,AG]
   have an:AA (AG G (fresh f) .AY) id=some (.Ao 66 5 vs'):=by rw[sg,AA,Af N,M]
   have ah:=Ox li (i:=i) (by rw[Cn (by omega),X]) g an rfl;have Cm:AG (AG G (fresh f) .AY) id (.Ao 66 5 (vs'.set i (.d (.agg [.AM c.Aw,.AM c.CA,.int .i64 a,.int .i64 b,.AF 5 (d.map A8.enc)]))))=(fresh f,.AY)::AG f id (.Ao 66 5 (Z.set i (.d ({c with a:=(a:Int),b:=(b:Int),Ap:=d}:Ag).enc))):=by
    rw[sg,AG,Af N,X4,t,H,List.set_set,List.set_set];rfl
   rw[Cm]at ah;rw[<-F];have k0:AE (fresh f) [fresh f] (fresh f)=false:=by simp[AE]
   have J:Xh (AE (fresh f) [fresh f]) G=G:=by rw[F];exact bD (BV _) k0
   refine⟨[fresh f],by simp,by rw[J,F];exact bN (BV _) k0 (λp=>Xw _ _),_,by rw[J];exact ah,[],by simp[A7.BJ],?_,?_⟩
   ·simp[AE,Xh];exact Xn (Xy rfl _ (ae _)) (L _)
   ·simp[AE,Xh];exact h1 _ hq
 ·simp;have hn:Zc y.AD c=none:=by
   rcases v with v|v
   ·rw[Zc,v];rfl
   ·rw[Zc,v];cases CU (y.AD.map AI.name) c.Aw<;>rfl
  have U:=h0 hn;have J:Xh (AE (fresh f) []) f=f:=by simp
  refine⟨[],by simp,by simpa using L [],_,Wk.refl _,[],by simp[A7.BJ],by simpa using L [],?_⟩;simpa using U f rfl rfl
end
abbrev Lq:D:=.agg [.AT,.AT,.AT,.AT,.AT,.AT]
section
variable {P:Az} (hP:P.p=Tryz.prog)
include hP
theorem Y2h {c:AB}{a b:Nat}{K:AB->Prop}(h:K c):B6 P 82 [.ptr a [],.ptr b []] c none K:=by
 refine B6.EM λ_ d=>?_;refine Q5 hP AO Zf4 Zc7 Zc5 BD.nil ?_;simp[cQ,cO,Zbm];refine⟨[],by simp,?_,?_⟩
 ·simp[d]
 ·simpa using h
theorem Y2g {a:AB}{x:V}{m:Int}(b:AA a 1=some (.box 29 x))(i:x.shape=Lq.shape)(c:AA a 2=some (.box 35 (.d (.int .i64 m)))){K:AB->Prop}(h:K (AG (AG a 1 (.box 29 (.d Lq))) 2 (.box 35 (.d (.int .i64 110))))):
 B6 P 82 [.ptr 1 [],.ptr 2 []] a (some (.d Y5)) K:=by
 refine B6.EM λ_ f=>?_;refine Q5 hP AO Zf4 Zc7 Zc5 BD.nil ?_;have j:fresh a≠1:=by have:=Xf b;omega
 have k:fresh a≠2:=by have:=Xf c;omega
 simp[cQ,cO,Zbm,Yhq,b,c,i,j,k];have g:AH (AE (fresh a) []) (AG (AG a 1 (.box 29 (.d Lq))) 2 (.box 35 (.d (.int .i64 110))))=true:=Ar _ _ _ _ _ (Ar _ _ _ _ _ (f []) rfl) rfl;have l:AE (fresh a) [] (fresh a)=true:=by simp[AE]
 have e:Xh (AE (fresh a) []) ((fresh a,Ob.box 163 (.d (.agg [])))::AG (AG a 1 (.box 29 (.d Lq))) 2 (.box 35 (.d (.int .i64 110))))=AG (AG a 1 (.box 29 (.d Lq))) 2 (.box 35 (.d (.int .i64 110))):=by
  rw[Xh,BL l,Xe (by simp)]
 exact⟨[],by simp,by rw[e];exact g,by rw[e];exact h⟩
end
structure Ah.P6 (y:Ah):Prop where
 Al:y.Al.length<=1000000
 Au:y.Au.length<=1000000
 AD:y.AD.length<=1000000
 AK:y.AK.length<=1000000
 AQ:y.AQ.length<=1000000
 AN:y.AN.length<=1000000
 AL:∀x∈y.AD,x.AL.length<=1000000
 Aj:∀x∈y.AD,x.Aj.length<=1000000
 names:∀x∈y.AD,∀d∈x.Aj,d.names.length<=1000000000000
 AW:∀x∈y.AK,x.AW.length<=1000000
 Ak:∀x∈y.AK,x.Ak.length<=1000000
 BK:∀x∈y.AK,x.BK.length<=1000000
 Ap:∀x∈y.AQ,x.Ap.length<=1000000
 CW:∀x∈y.AN,x.CW.length<=1000000
def G2 (x:AI):V:=.d (Kd x)
def MJ (x:AI):V:=.d x.enc
def GG (x:Ai):V:=.d x.enc
def F8 (x:Ag):V:=.d x.enc
def GF (x:AR):V:=.d x.enc
def Rg:Ah:=⟨[],[],[],[],[],[]⟩
theorem Xwq:D.le Lq Rg.enc:=by
 show D.le _ (.agg [Xg [],.AF 5 [],.AF 6 [],.AF 5 [],.AF 5 [],.AF 3 []]);exact D.le.agg (Bq.cons (D.le.nil 1) (Bq.cons (D.le.nil 5) (Bq.cons (D.le.nil 6) (Bq.cons (D.le.nil 5) (Bq.cons (D.le.nil 5) (Bq.cons (D.le.nil 3) Bq.nil))))))
def Hv (y:Ah):Ah×Int:=if PI y then (Rg,111) else match W7 y with
|some z=>(z,0)
|none=>(Rg,110)
theorem rq {b:Type}{f:List b->b->Option b}:∀{l a r:List b},DB f a l=some r->r.length=a.length+l.length
|[],a,r,h=>by cases h;simp
|x::l,a,r,h=>by
 simp only[DB]at h;obtain⟨z,_,c⟩:=H7.1 h;have:=rq c;simp at this⊢;omega
section
variable {P:Az} (hP:P.p=Tryz.prog)
include hP
theorem Ysq:Xd P.p 82=true:=by rw[hP];kernel_rfl
theorem Xyp {xs:List D}(b:∀x∈xs,x.sz=1)(c:xs.length<=1000000){a:AB}{K:V->AB->Prop}(h:K (.sl (fresh a) xs.length) ((fresh a,.Ao 9 1 (xs.map .d))::a)):CD P 83 [.d (.AF 1 xs)] a K:=
 G9 (ds:=[.AF 1 xs]) (Zs hP AO Zbw b (by omega) ⟨rfl,rfl⟩) h
theorem Xsr {xs:List D}(b:∀x∈xs,x.sz=5)(c:xs.length<=1000000){a:AB}{K:V->AB->Prop}(h:K (.sl (fresh a) xs.length) ((fresh a,.Ao 88 5 (xs.map .d))::a)):CD P 84 [.d (.AF 5 xs)] a K:=
 G9 (ds:=[.AF 5 xs]) (Zs hP AO Zbx b (by omega) ⟨rfl,rfl⟩) h
theorem Xlp {xs:List D}(b:∀x∈xs,x.sz=6)(c:xs.length<=1000000){a:AB}{K:V->AB->Prop}(h:K (.sl (fresh a) xs.length) ((fresh a,.Ao 54 6 (xs.map .d))::a)):CD P 85 [.d (.AF 6 xs)] a K:=
 G9 (ds:=[.AF 6 xs]) (Zs hP AO Zby b (by omega) ⟨rfl,rfl⟩) h
theorem Xsq {xs:List D}(b:∀x∈xs,x.sz=5)(c:xs.length<=1000000){a:AB}{K:V->AB->Prop}(h:K (.sl (fresh a) xs.length) ((fresh a,.Ao 45 5 (xs.map .d))::a)):CD P 86 [.d (.AF 5 xs)] a K:=
 G9 (ds:=[.AF 5 xs]) (Zs hP AO Zbz b (by omega) ⟨rfl,rfl⟩) h
theorem Xg5 {xs:List D}(b:∀x∈xs,x.sz=5)(c:xs.length<=1000000){a:AB}{K:V->AB->Prop}(h:K (.sl (fresh a) xs.length) ((fresh a,.Ao 66 5 (xs.map .d))::a)):CD P 87 [.d (.AF 5 xs)] a K:=
 G9 (ds:=[.AF 5 xs]) (Zs hP AO Zb0 b (by omega) ⟨rfl,rfl⟩) h
theorem Xg6 {xs:List D}(b:∀x∈xs,x.sz=3)(c:xs.length<=1000000){a:AB}{K:V->AB->Prop}(h:K (.sl (fresh a) xs.length) ((fresh a,.Ao 77 3 (xs.map .d))::a)):CD P 88 [.d (.AF 3 xs)] a K:=
 G9 (ds:=[.AF 3 xs]) (Zs hP AO Zb1 b (by omega) ⟨rfl,rfl⟩) h
theorem X0g {y:Ah}(hy:y.BC)(X:y.P6){be:AB}{K:V->Prop}(h:∀d,D.le d (Hv y).1.enc->K (.BE [.d d,.d (.int .i64 (Hv y).2)])):AU P 41 [.d y.enc] be K:=by
 refine U8 hP AO (ds:=[y.enc]) Znp Zjv BD.nil ?_;have d0:=Ysq hP;have yk:(V.d y.enc).BM=some [.d (Xg y.Al),.d (.AF 5 (y.Au.map At.enc)),.d (.AF 6 (y.AD.map AI.enc)),.d (.AF 5 (y.AK.map Ai.enc)),.d (.AF 5 (y.AQ.map Ag.enc)),.d (.AF 3 (y.AN.map AR.enc))]:=rfl;have ys:y.enc.shape.size=6:=by rw[CC];rfl
 have yz:y.enc.sz=6:=rfl;simp[Zds,ys,yz];refine⟨rfl,X9l hP hy X.AD ?_⟩;obtain⟨k,hk⟩:∃k,k=y.AD.length:=⟨_,rfl⟩
 have b1:∀L J H,AA (Y8 y k L J H) 1=some J:=λ_ _ _=>by unfold Y8 Wp Ep;split<;>simp[AA]
 have b2:∀L J H,AA (Y8 y k L J H) 2=some L:=λ_ _ _=>by unfold Y8 Wp Ep;split<;>simp[AA]
 have b0:∀L J H,AA (Y8 y k L J H) 0=some H:=λ_ _ _=>by unfold Y8 Wp Ep;split<;>simp[AA]
 have t1:∀L J H x,AG (Y8 y k L J H) 1 x=Y8 y k L x H:=λ_ _ _ _=>by unfold Y8 Wp Ep;split<;>simp[AG]
 have t2:∀L J H x,AG (Y8 y k L J H) 2 x=Y8 y k x J H:=λ_ _ _ _=>by unfold Y8 Wp Ep;split<;>simp[AG]
 rw[<-hk];by_cases aa:PI y=true
 ·have hq:Hv y=(Rg,111):=by rw[Hv,BL aa]
  rw[hq]at h;simp[aa,b1,b2,t1,t2];exact h _ Xwq
 ·simp only[Bool.not_eq_true]at aa;have bc:W7 y=none->Hv y=(Rg,110):=λe=>by rw[Hv,aa,e];rfl
  have bd:∀z,W7 y=some z->Hv y=(z,0):=λz e=>by rw[Hv,aa,e];rfl
  obtain⟨F,hF⟩:∃F,F=if k=0 then 9 else 11+2*k:=⟨_,rfl⟩
  have bb:∀r∈y.AK,(r.AW.map Am.name).Nodup:=λr hr=>by
   simp only[PI,Bool.not_eq_false',As,DQ,Bs]at aa;exact aa.2 r hr
  have gf:∀L J H,fresh (Y8 y k L J H)=F:=λL J H=>by rw[hF];exact T3
  have F9:9<=F:=by rw[hF];split<;>omega
  have fn:∀n,n<=8->(F=n)=False:=λn hn=>eq_false (by omega);have ad:∀n,n<=8->(F+1=n)=False:=λn hn=>eq_false (by omega);have ae:∀n,n<=8->(F+2=n)=False:=λn hn=>eq_false (by omega);have af:∀n,n<=8->(F+3=n)=False:=λn hn=>eq_false (by omega);have ag:∀n,n<=8->(F+4=n)=False:=λn hn=>eq_false (by omega);have ah:∀n,n<=8->(F+5=n)=False:=λn hn=>eq_false (by omega);simp[aa,d0,b0,b1,b2,t1,t2,yk];refine⟨rfl,Xyp hP (xs:=y.Al.map .AM) (by intro x hx;obtain⟨r,_,rfl⟩:=C9.1 hx;rfl) (by simpa using X.Al) ?_⟩;rw[gf];refine Xsr hP (xs:=y.Au.map At.enc) (by intro x hx;obtain⟨r,_,rfl⟩:=C9.1 hx;rfl) (by simpa using X.Au) ?_;have f1:∀o L J H,fresh ((F,o)::Y8 y k L J H)=F+1:=λo L J H=>by simp[gf]
  rw[f1];refine Xlp hP (xs:=y.AD.map AI.enc) (by intro x hx;obtain⟨r,_,rfl⟩:=C9.1 hx;rfl) (by simpa using X.AD) ?_;have f2:∀a o L J H,fresh ((F+1,a)::(F,o)::Y8 y k L J H)=F+2:=λa o L J H=>by simp[f1]
  rw[f2];refine Xsq hP (xs:=y.AK.map Ai.enc) (by intro x hx;obtain⟨r,_,rfl⟩:=C9.1 hx;rfl) (by simpa using X.AK) ?_;have f3:∀b a o L J H,fresh ((F+2,b)::(F+1,a)::(F,o)::Y8 y k L J H)=F+3:=λb a o L J H=>by simp[f2]
  rw[f3];refine Xg5 hP (xs:=y.AQ.map Ag.enc) (by intro x hx;obtain⟨r,_,rfl⟩:=C9.1 hx;rfl) (by simpa using X.AQ) ?_;have f4:∀c b a o L J H,fresh ((F+3,c)::(F+2,b)::(F+1,a)::(F,o)::Y8 y k L J H)=F+4:=λc b a o L J H=>by simp[f3]
  rw[f4];refine Xg6 hP (xs:=y.AN.map AR.enc) (by intro x hx;obtain⟨r,_,rfl⟩:=C9.1 hx;rfl) (by simpa using X.AN) ?_;have f5:∀d c b a o L J H,fresh ((F+4,d)::(F+3,c)::(F+2,b)::(F+1,a)::(F,o)::Y8 y k L J H)=F+5:=λd c b a o L J H=>by simp[f4]
  have f6:∀e d c b a o L J H,fresh ((F+5,e)::(F+4,d)::(F+3,c)::(F+2,b)::(F+1,a)::(F,o)::Y8 y k L J H)=F+6:=λe d c b a o L J H=>by simp[f5]
  rw[f5];let W:V:=.agg [.sl F y.Al.length,.sl (F+1) y.Au.length,.sl (F+2) y.AD.length,.sl (F+3) y.AK.length,.sl (F+4) y.AQ.length,.sl (F+5) y.AN.length];let B:List V->List V->List V->List V->List V->AB:=λw m s t v=>(F+5,.Ao 77 3 v)::(F+4,.Ao 66 5 t)::(F+3,.Ao 45 5 s)::(F+2,.Ao 54 6 m)::(F+1,.Ao 88 5 w)::(F,.Ao 9 1 (y.Al.map λx=>V.d (.AM x)))::Y8 y k (.box 35 (.d (.int .i64 0))) (.box 29 W) (.box 29 (.d y.enc));simp[fn,ad,ae,af,ag,ah,b0,b1,b2,t1,t2,DZ,Bt,Zf,AA,AG];have cU:∀w m s t v,AA (B w m s t v) (F+1)=some (.Ao 88 5 w):=λ_ _ _ _ _=>by simp[B,AA]
  have cS:∀w m s t v,AA (B w m s t v) (F+2)=some (.Ao 54 6 m):=λ_ _ _ _ _=>by simp[B,AA]
  have cR:∀w m s t v,AA (B w m s t v) (F+3)=some (.Ao 45 5 s):=λ_ _ _ _ _=>by simp[B,AA]
  have cC:∀w m s t v,AA (B w m s t v) (F+4)=some (.Ao 66 5 t):=λ_ _ _ _ _=>by simp[B,AA]
  have cP:∀w m s t v,AA (B w m s t v) (F+5)=some (.Ao 77 3 v):=λ_ _ _ _ _=>by simp[B,AA]
  have cI:∀w m s t v,AA (B w m s t v) F=some (.Ao 9 1 (y.Al.map λx=>V.d (.AM x))):=λ_ _ _ _ _=>by simp[B,AA]
  have c1:∀w m s t v,AA (B w m s t v) 1=some (.box 29 W):=λ_ _ _ _ _=>by simp[B,AA,fn,ad,ae,af,ag,ah,b1]
  have c2:∀w m s t v,AA (B w m s t v) 2=some (.box 35 (.d (.int .i64 0))):=λ_ _ _ _ _=>by simp[B,AA,fn,ad,ae,af,ag,ah,b2]
  have sU:∀w m s t v x,AG (B w m s t v) (F+1) (.Ao 88 5 x)=B x m s t v:=λ_ _ _ _ _ _=>by simp[B,AG]
  have sS:∀w m s t v x,AG (B w m s t v) (F+2) (.Ao 54 6 x)=B w x s t v:=λ_ _ _ _ _ _=>by simp[B,AG]
  have sR:∀w m s t v x,AG (B w m s t v) (F+3) (.Ao 45 5 x)=B w m x t v:=λ_ _ _ _ _ _=>by simp[B,AG]
  have sC:∀w m s t v x,AG (B w m s t v) (F+4) (.Ao 66 5 x)=B w m s x v:=λ_ _ _ _ _ _=>by simp[B,AG]
  have sP:∀w m s t v x,AG (B w m s t v) (F+5) (.Ao 77 3 x)=B w m s t x:=λ_ _ _ _ _ _=>by simp[B,AG]
  have Q:∀w m s t v,RC y (B w m s t v):=λw m s t v=>by
   have h0:RC y (Y8 y k (.box 35 (.d (.int .i64 0))) (.box 29 W) (.box 29 (.d y.enc))):=by rw[hk];exact Rc5
   have h1:=h0.cons (.Ao 9 1 (y.Al.map λx=>V.d (.AM x)));rw[gf]at h1;have h2:=h1.cons (.Ao 88 5 w);rw[f1]at h2;have h3:=h2.cons (.Ao 54 6 m);rw[f2]at h3;have h4:=h3.cons (.Ao 45 5 s);rw[f3]at h4;have h5:=h4.cons (.Ao 66 5 t);rw[f4]at h5;have h6:=h5.cons (.Ao 77 3 v);rw[f5]at h6;exact h6
  have O:∀w m s t v,fresh (B w m s t v)=F+6:=λ_ _ _ _ _=>f6 _ _ _ _ _ _ _ _ _;have hD:∀w m s t v,Xh (AE (F+6) []) (B w m s t v)=B w m s t v:=λw m s t v=>Xe (by rw[O];exact BV _);have hN:∀w m s t v,(∀p,BO p w=false)->(∀p,BO p m=false)->(∀p,BO p s=false)->(∀p,BO p t=false)->(∀p,BO p v=false)->AH (AE (F+6) []) (B w m s t v)=true:=λw m s t v m1 m2 m3 m4 m5=>by
   have yF:∀j,j<F+6->AE (F+6) [] j=false:=λj hj=>by simp[AE];omega
   have mi:BO (AE (F+6) []) (y.Al.map λx=>V.d (.AM x))=false:=Xw (λx=>D.AM x) _;have M:AH (AE (F+6) []) (Y8 y k (.box 35 (.d (.int .i64 0))) (.box 29 W) (.box 29 (.d y.enc)))=true:=by
    refine Qt ?_ (yF _ (by omega)) (yF _ (by omega)) (yF _ (by omega)) (λba=>yF _ (by rw[hF,Af ba];omega)) (λi hi=>yF _ (by rw[hF,Af (by omega)];unfold Vj;split<;>omega));simp[AH,W,V.BJ,BO,yF F (by omega),yF (F+1) (by omega),yF (F+2) (by omega),yF (F+3) (by omega),yF (F+4) (by omega),yF (F+5) (by omega)]
   simp only[B,AH,m1,m2,m3,m4,m5,mi,M,Bool.not_false,EA]
  have ac:W7 y=none->∀U,AA U 1=some (.box 29 W)->AA U 2=some (.box 35 (.d (.int .i64 0)))->K2 P 82 [.ptr 1 [],.ptr 2 []] [RV.c 2 6 true,RV.c 3 1 false] K (.panic (.d Y5)) [(2,.ptr 1 []),(3,.ptr 2 [])] U:=λe U h1 h2=>by
   rw[bc e]at h;simp;refine Y2g hP h1 rfl h2 ?_;have z1:AA (AG (AG U 1 (.box 29 (.d Lq))) 2 (.box 35 (.d (.int .i64 110)))) 1=some (.box 29 (.d Lq)):=by simp[h1,h2]
   have z2:AA (AG (AG U 1 (.box 29 (.d Lq))) 2 (.box 35 (.d (.int .i64 110)))) 2=some (.box 35 (.d (.int .i64 110))):=by simp[h1,h2]
   simp[z1,z2];exact h _ Xwq
  have me:∀{α:Type}(f:α->D)(l:List α),∀p,BO p (l.map λx=>V.d (f x))=false:=λf l p=>Xw f l;have bl:y.AD.length=k:=hk.symm;show AV _ _ _ (B (y.Au.map EN) (y.AD.map (V.d∘AI.enc)) (y.AK.map (V.d∘Ai.enc)) (y.AQ.map (V.d∘Ag.enc)) (y.AN.map (V.d∘AR.enc))) _;refine Yhz hP (n:=k) (names:=y.Au.map At.name) X.Au (by rw[hk];exact(Q _ _ _ _ _).o4) (Q _ _ _ _ _).o6 (cU _ _ _ _ _) (λw a2=>?_) (λe ws=>?_)
  ·rw[sU];have rR:W7 y=(Ju y.AD (V4 y.Al (y.Au.map At.name))).bind λm=>(Ju y.AK (Ji y.AD)).bind λs=>(Ju y.AQ (Zc y.AD)).bind λt=>(Ju y.AN (W5 y.AD)).map λv=>{y with Au:=w,AD:=m,AK:=s,AQ:=t,AN:=v}:=by rw[W7,a2,Option.bind_some]
   simp[c1,c2,cS,W];refine⟨⟨_,_,_,⟨rfl,rfl,rfl⟩,by simp⟩,?_⟩;show Ae _ _ _ _ (B (w.map EN) (y.AD.map MJ) (y.AK.map GG) (y.AQ.map F8) (y.AN.map GF));have mU:∀p,BO p (w.map EN)=false:=me At.enc _;have mR:∀(l:List Ai) p,BO p (l.map GG)=false:=λl=>me Ai.enc l;have mC:∀(l:List Ag) p,BO p (l.map F8)=false:=λl=>me Ag.enc l;have mP:∀(l:List AR) p,BO p (l.map GF)=false:=λl=>me AR.enc l;have ap:∀p (a b:List V),BO p (a++b)=(BO p a||BO p b):=λp a b=>by
    induction a with
    |nil=>simp[BO]
    |cons x r ih=>simp[BO,ih,Bool.or_assoc]
   have mS:∀(a b:List AI) p,BO p (a.map G2++b.map MJ)=false:=λa b p=>by
    rw[ap,FC];exact⟨me Kd a p,me AI.enc b p⟩
   refine Ae.go (ι:=List AI) (λd=>[(2,.ptr 1 []),(3,.ptr 2 []),(4,.ptr 4 []),(43,.d (.int .i64 y.AD.length)),(44,.d (.int .i64 d.length))])
    (λd=>B (w.map EN) (d.map G2++(y.AD.drop d.length).map MJ) (y.AK.map GG) (y.AQ.map F8) (y.AN.map GF)) (λd=>d.length<=y.AD.length/\Ju y.AD (V4 y.Al (y.Au.map At.name))=DB (λ_=>V4 y.Al (y.Au.map At.name)) d (y.AD.drop d.length)) (λd=>y.AD.length-d.length) [] ⟨by simp,rfl⟩ (by simp) (by simp) ?_
   rintro m ⟨hd,M⟩ R rn re rr rp;have ai:=X.AD;by_cases G:m.length<y.AD.length
   ·have wr:IntKind.i64.wrap ((m.length:Int)+1)=(m.length:Int)+1:=IntWalk.i64_in _ (by omega);have wl:=rJ G2 MJ hd;have Z:=rH G2 MJ G;have ws:=rM G2 MJ G;rw[Db G,Zd]at M;have hm:=CS G;have au:D0 y.AD m.length=y.AD[m.length].AL.map Ad.name:=by simp[D0,G]
    generalize hu:y.AD[m.length]=u at M Z hm au;have T:=mS m (y.AD.drop m.length);generalize al:m.map G2++(y.AD.drop m.length).map MJ=gs at wl Z ws T;have av:y.AD.length≠0:=by omega
    have c4:=λw m s t v=>(Q w m s t v).o4;have a7:=λw m s t v=>(Q w m s t v).QC av;simp[Xze,G,c1,cS,c4,a7,W,wl,HJ,av,Wm,Vg,Z];refine⟨rfl,Xz4 hP (X.AL _ hm) (X.Aj _ hm) (X.names _ hm) (Q _ _ _ _ _) (cS _ _ _ _ _) wl (by rw[Cn (by omega),Z];rfl) T ⟨by omega,by omega⟩ (by rw[<-au];exact(Q _ _ _ _ _).om _ G) (λq hq=>?_) (λe U e1 e2=>?_)⟩
    ·rw[sS];rw[hq,Option.bind_some]at M;have e1:gs.set m.length (.d (Kd q))=(m++[q]).map G2++(y.AD.drop (m++[q]).length).map MJ:=ws q;rw[e1];refine rn [] (m++[q]) _ _ ⟨by simp;omega,by rw[M,DV];rfl⟩ (by simp;omega) (by simp[wr]) ?_ ?_ ?_
     ·rw[O];exact hD _ _ _ _ _
     ·rw[O];simp[AE]
     ·rw[O];exact hN _ _ _ _ _ mU (mS _ _) (mR _) (mC _) (mP _)
    ·refine rp _ _ _ ?_;exact ac (by rw[rR,M,e];rfl) _ (by rw[e1,c1]) (by rw[e2,c2])
   ·have N:m.length=y.AD.length:=by omega
    rw[N,List.drop_length,DB]at M;simp[Xze,G];refine re _ _ _ ?_;have e0:(y.AD.map MJ).drop m.length=[]:=Gj (by simp[N]);rw[e0,GL];rw[M,Option.bind_some]at rR;have an:∀p,BO p (m.map G2)=false:=me Kd _;have bh:(m.map G2).length=y.AD.length:=by simpa using N
    simp[c1,c2,cR,W];refine⟨⟨_,_,_,⟨rfl,rfl,rfl⟩,by simp⟩,?_⟩;show Ae _ _ _ _ (B (w.map EN) (m.map G2) (y.AK.map GG) (y.AQ.map F8) (y.AN.map GF));refine Ae.go (λd=>[(2,.ptr 1 []),(3,.ptr 2 []),(4,.ptr 4 []),(63,.d (.int .i64 y.AK.length)),(64,.d (.int .i64 d.length))])
     (λd=>B (w.map EN) (m.map G2) ((d++y.AK.drop d.length).map GG) (y.AQ.map F8) (y.AN.map GF)) (λd=>d.length<=y.AK.length/\Ju y.AK (Ji y.AD)=DB (λ_=>Ji y.AD) d (y.AK.drop d.length)) (λd=>y.AK.length-d.length) [] ⟨by simp,rfl⟩ (by simp) (by simp) ?_
    rintro s ⟨hd,M⟩ R rn re rr rp;have wl:((s++y.AK.drop s.length).map GG).length=y.AK.length:=by simp;omega
    have ai:=X.AK;by_cases G:s.length<y.AK.length
    ·have wr:IntKind.i64.wrap ((s.length:Int)+1)=(s.length:Int)+1:=IntWalk.i64_in _ (by omega);have Z:=Jp GG G;have ws:=Jq GG G;rw[Db G,Zd]at M;have hm:=CS G;generalize hu:y.AK[s.length]=u at M Z hm;have T:∀p,BO p ((s++y.AK.drop s.length).map GG)=false:=mR _;generalize al:(s++y.AK.drop s.length).map GG=gs at wl Z ws T;have c4:=λw m s t v=>(Q w m s t v).o4;simp[Xzd,G,c1,cR,c4,W,wl,Z];refine⟨rfl,Yhy hP (X.AW _ hm) (X.Ak _ hm) (X.BK _ hm) (bb _ hm) (Q _ _ _ _ _) (cR _ _ _ _ _) wl (by rw[Cn (by omega),Z];rfl) T ⟨by omega,by omega⟩ (λq hq=>?_) (λe U e1 e2=>?_)⟩
     ·rw[sR];rw[hq,Option.bind_some]at M;have e1:gs.set s.length (.d q.enc)=((s++[q])++y.AK.drop (s++[q]).length).map GG:=ws q;rw[e1];refine rn [] (s++[q]) _ _ ⟨by simp;omega,by rw[M,DV];rfl⟩ (by simp;omega) (by simp[wr]) ?_ ?_ ?_
      ·rw[O];exact hD _ _ _ _ _
      ·rw[O];simp[AE]
      ·rw[O];exact hN _ _ _ _ _ mU an (mR _) (mC _) (mP _)
     ·refine rp _ _ _ ?_;exact ac (by rw[rR,M,e];rfl) _ (by rw[e1,c1]) (by rw[e2,c2])
    ·have N:s.length=y.AK.length:=by omega
     rw[N,List.drop_length,DB]at M;simp[Xzd,G];refine re _ _ _ ?_;have e0:(y.AK.map GG).drop s.length=[]:=Gj (by simp[N]);rw[e0,GL];rw[M,Option.bind_some]at rR;have a4:(s.map GG).length=y.AK.length:=by simpa using N
     simp[c1,c2,cC,W];refine⟨⟨_,_,_,⟨rfl,rfl,rfl⟩,by simp⟩,?_⟩;show Ae _ _ _ _ (B (w.map EN) (m.map G2) (s.map GG) (y.AQ.map F8) (y.AN.map GF));refine Ae.go (λd=>[(2,.ptr 1 []),(3,.ptr 2 []),(4,.ptr 4 []),(76,.d (.int .i64 y.AQ.length)),(77,.d (.int .i64 d.length))])
      (λd=>B (w.map EN) (m.map G2) (s.map GG) ((d++y.AQ.drop d.length).map F8) (y.AN.map GF)) (λd=>d.length<=y.AQ.length/\Ju y.AQ (Zc y.AD)=DB (λ_=>Zc y.AD) d (y.AQ.drop d.length)) (λd=>y.AQ.length-d.length) [] ⟨by simp,rfl⟩ (by simp) (by simp) ?_
     rintro t ⟨hd,M⟩ R rn re rr rp;have wl:((t++y.AQ.drop t.length).map F8).length=y.AQ.length:=by simp;omega
     have ai:=X.AQ;by_cases G:t.length<y.AQ.length
     ·have wr:IntKind.i64.wrap ((t.length:Int)+1)=(t.length:Int)+1:=IntWalk.i64_in _ (by omega);have Z:=Jp F8 G;have ws:=Jq F8 G;rw[Db G,Zd]at M;have hm:=CS G;generalize hu:y.AQ[t.length]=u at M Z hm;have T:∀p,BO p ((t++y.AQ.drop t.length).map F8)=false:=mC _;generalize al:(t++y.AQ.drop t.length).map F8=gs at wl Z ws T;have c4:=λw m s t v=>(Q w m s t v).o4;simp[Xzc,G,c1,cC,c4,W,wl,Z];refine⟨rfl,Xwv hP (X.Ap _ hm) (Q _ _ _ _ _) (cC _ _ _ _ _) wl (by rw[Cn (by omega),Z];rfl) T ⟨by omega,by omega⟩ (λq hq=>?_) (λe U e1 e2=>?_)⟩
      ·rw[sC];rw[hq,Option.bind_some]at M;have e1:gs.set t.length (.d q.enc)=((t++[q])++y.AQ.drop (t++[q]).length).map F8:=ws q;rw[e1];refine rn [] (t++[q]) _ _ ⟨by simp;omega,by rw[M,DV];rfl⟩ (by simp;omega) (by simp[wr]) ?_ ?_ ?_
       ·rw[O];exact hD _ _ _ _ _
       ·rw[O];simp[AE]
       ·rw[O];exact hN _ _ _ _ _ mU an (mR _) (mC _) (mP _)
      ·refine rp _ _ _ ?_;exact ac (by rw[rR,M,e];rfl) _ (by rw[e1,c1]) (by rw[e2,c2])
     ·have N:t.length=y.AQ.length:=by omega
      rw[N,List.drop_length,DB]at M;simp[Xzc,G];refine re _ _ _ ?_;have e0:(y.AQ.map F8).drop t.length=[]:=Gj (by simp[N]);rw[e0,GL];rw[M,Option.bind_some]at rR;have aq:(t.map F8).length=y.AQ.length:=by simpa using N
      simp[c1,c2,cP,W];refine⟨⟨_,_,_,⟨rfl,rfl,rfl⟩,by simp⟩,?_⟩;show Ae _ _ _ _ (B (w.map EN) (m.map G2) (s.map GG) (t.map F8) (y.AN.map GF));refine Ae.go (λd=>[(2,.ptr 1 []),(3,.ptr 2 []),(4,.ptr 4 []),(89,.d (.int .i64 y.AN.length)),(90,.d (.int .i64 d.length))])
       (λd=>B (w.map EN) (m.map G2) (s.map GG) (t.map F8) ((d++y.AN.drop d.length).map GF)) (λd=>d.length<=y.AN.length/\Ju y.AN (W5 y.AD)=DB (λ_=>W5 y.AD) d (y.AN.drop d.length)) (λd=>y.AN.length-d.length) [] ⟨by simp,rfl⟩ (by simp) (by simp) ?_
      rintro v ⟨hd,M⟩ R rn re rr rp;have wl:((v++y.AN.drop v.length).map GF).length=y.AN.length:=by simp;omega
      have ai:=X.AN;by_cases G:v.length<y.AN.length
      ·have wr:IntKind.i64.wrap ((v.length:Int)+1)=(v.length:Int)+1:=IntWalk.i64_in _ (by omega);have Z:=Jp GF G;have ws:=Jq GF G;rw[Db G,Zd]at M;have hm:=CS G;generalize hu:y.AN[v.length]=u at M Z hm;have T:∀p,BO p ((v++y.AN.drop v.length).map GF)=false:=mP _;generalize al:(v++y.AN.drop v.length).map GF=gs at wl Z ws T;have c4:=λw m s t v=>(Q w m s t v).o4;simp[Xzb,G,c1,cP,c4,W,wl,Z];refine⟨rfl,Xww hP (X.CW _ hm) (Q _ _ _ _ _) (cP _ _ _ _ _) wl (by rw[Cn (by omega),Z];rfl) T ⟨by omega,by omega⟩ (λq hq=>?_) (λe U e1 e2=>?_)⟩
       ·rw[sP];rw[hq,Option.bind_some]at M;have e1:gs.set v.length (.d q.enc)=((v++[q])++y.AN.drop (v++[q]).length).map GF:=ws q;rw[e1];refine rn [] (v++[q]) _ _ ⟨by simp;omega,by rw[M,DV];rfl⟩ (by simp;omega) (by simp[wr]) ?_ ?_ ?_
        ·rw[O];exact hD _ _ _ _ _
        ·rw[O];simp[AE]
        ·rw[O];exact hN _ _ _ _ _ mU an (mR _) (mC _) (mP _)
       ·refine rp _ _ _ ?_;exact ac (by rw[rR,M,e];rfl) _ (by rw[e1,c1]) (by rw[e2,c2])
      ·have N:v.length=y.AN.length:=by omega
       rw[N,List.drop_length,DB]at M;simp[Xzb,G];refine re _ _ _ ?_;have e0:(y.AN.map GF).drop v.length=[]:=Gj (by simp[N]);rw[e0,GL];rw[M,Option.map_some]at rR;have a3:(v.map GF).length=y.AN.length:=by simpa using N
       simp[c1,c2,W];have hz:=h;rw[bd _ rR]at hz;have a6:w.length=y.Au.length:=by
        have:=rq a2;simpa using this
       have bi:m.length=y.AD.length:=by simpa using bh
       have bg:s.length=y.AK.length:=by simpa using a4
       have a8:t.length=y.AQ.length:=by simpa using aq
       have bf:v.length=y.AN.length:=by simpa using a3
       obtain⟨H,Y⟩:∃H,H=B (w.map EN) (m.map G2) (s.map GG) (t.map F8) (v.map GF):=⟨_,rfl⟩
       rw[<-Y];have l0:AA H F=some (.Ao 9 1 (y.Al.map λx=>V.d (.AM x))):=by rw[Y,cI]
       have l1:AA H (F+1)=some (.Ao 88 5 (w.map λx=>V.d x.enc)):=by rw[Y,cU];rfl
       have l2:AA H (F+2)=some (.Ao 54 6 (m.map λx=>V.d (Kd x))):=by rw[Y,cS];rfl
       have l3:AA H (F+3)=some (.Ao 45 5 (s.map λx=>V.d x.enc)):=by rw[Y,cR];rfl
       have l4:AA H (F+4)=some (.Ao 66 5 (t.map λx=>V.d x.enc)):=by rw[Y,cC];rfl
       have l5:AA H (F+5)=some (.Ao 77 3 (v.map λx=>V.d x.enc)):=by rw[Y,cP];rfl
       have w1:AA H 1=some (.box 29 W):=by rw[Y,c1]
       have w2:AA H 2=some (.box 35 (.d (.int .i64 0))):=by rw[Y,c2]
       obtain⟨J,aw⟩:∃J,J=AG H F .AY:=⟨_,rfl⟩
       have s1:∀j,j≠F->AA J j=AA H j:=λj hj=>by rw[aw,Xc H F j ⟨_,l0⟩,Af hj]
       obtain⟨L,ax⟩:∃L,L=AG J (F+1) .AY:=⟨_,rfl⟩
       have m1:AA J (F+1)=_:=(s1 _ (by omega)).trans l1;have s2:∀j,j≠F->j≠F+1->AA L j=AA H j:=λj h0 h1=>by rw[ax,Xc J (F+1) j ⟨_,m1⟩,Af h1,s1 j h0]
       obtain⟨o3,ay⟩:∃o3,o3=AG L (F+2) .AY:=⟨_,rfl⟩
       have m2:AA L (F+2)=_:=(s2 _ (by omega) (by omega)).trans l2;have s3:∀j,j≠F->j≠F+1->j≠F+2->AA o3 j=AA H j:=λj h0 h1 h2=>by rw[ay,Xc L (F+2) j ⟨_,m2⟩,Af h2,s2 j h0 h1]
       obtain⟨o4,az⟩:∃o4,o4=AG o3 (F+3) .AY:=⟨_,rfl⟩
       have m3:AA o3 (F+3)=_:=(s3 _ (by omega) (by omega) (by omega)).trans l3;have s4:∀j,j≠F->j≠F+1->j≠F+2->j≠F+3->AA o4 j=AA H j:=λj h0 h1 h2 h3=>by rw[az,Xc o3 (F+3) j ⟨_,m3⟩,Af h3,s3 j h0 h1 h2]
       obtain⟨o5,a0⟩:∃o5,o5=AG o4 (F+4) .AY:=⟨_,rfl⟩
       have m4:AA o4 (F+4)=_:=(s4 _ (by omega) (by omega) (by omega) (by omega)).trans l4;have s5:∀j,j≠F->j≠F+1->j≠F+2->j≠F+3->j≠F+4->AA o5 j=AA H j:=λj h0 h1 h2 h3 h4=>by rw[a0,Xc o4 (F+4) j ⟨_,m4⟩,Af h4,s4 j h0 h1 h2 h3]
       obtain⟨o6,a1⟩:∃o6,o6=AG o5 (F+5) .AY:=⟨_,rfl⟩
       have m5:AA o5 (F+5)=_:=(s5 _ (by omega) (by omega) (by omega) (by omega) (by omega)).trans l5;have s6:∀j,j<F->AA o6 j=AA H j:=λj hj=>by rw[a1,Xc o5 (F+5) j ⟨_,m5⟩,Af (by omega),s5 j (by omega) (by omega) (by omega) (by omega) (by omega)]
       obtain⟨dd,ab⟩:∃dd,dd=D.agg [.AF 1 (y.Al.map D.AM),.AF 5 (w.map At.enc),.AF 6 (m.map Kd),.AF 5 (s.map Ai.enc),.AF 5 (t.map Ag.enc),.AF 3 (v.map AR.enc)]:=⟨_,rfl⟩
       have g:Ct 40000 H W=some (dd,o6):=by
        show FF (Ej (Ct 39999) H _)=_;simp only[Ej,ID (k:=39997) (n:=y.Al.length) D.AM l0 (by decide) rfl,<-aw,ID (k:=39997) (n:=y.Au.length) At.enc m1 (by decide) a6.symm,<-ax,ID (k:=39997) (n:=y.AD.length) Kd m2 (by decide) bi.symm,<-ay,ID (k:=39997) (n:=y.AK.length) Ai.enc m3 (by decide) bg.symm,<-az,ID (k:=39997) (n:=y.AQ.length) Ag.enc m4 (by decide) a8.symm,<-a0,ID (k:=39997) (n:=y.AN.length) AR.enc m5 (by decide) bf.symm,<-a1,Uq,FF,ab]
       have a9:Cj H 1 []=some W:=by simp[Cj,w1]
       have ao:AA o6 1=some (.box 29 W):=by rw[s6 1 (by omega),w1]
       have bj:AA o6 2=some (.box 35 (.d (.int .i64 0))):=by rw[s6 2 (by omega),w2]
       have sh:dd.shape=W.shape:=by rw[ab];rfl
       simp only[I.wp];show Mr 6 true H _ (.ptr 1 []);simp only[Mr,a9,PY,g,PX,ao,Re];refine⟨rfl,rfl,sh,.d dd,by simp,?_⟩;obtain⟨o7,aj⟩:∃o7,o7=AG o6 1 (.box 29 (.d dd)):=⟨_,rfl⟩
       rw[<-aj];have x1:AA o7 1=some (.box 29 (.d dd)):=by rw[aj,Xc o6 1 1 ⟨_,ao⟩,BL rfl]
       have x2:AA o7 2=some (.box 35 (.d (.int .i64 0))):=by rw[aj,Xc o6 1 2 ⟨_,ao⟩,Af (by omega),bj]
       have a5:dd.shape=.node [.AX,.AX,.AX,.AX,.AX,.AX]:=by rw[ab];rfl
       have bk:(V.d dd).isAgg=true:=by rw[ab];rfl
       simp[x1,x2,a5];obtain⟨o8,ak⟩:∃o8,o8=AG (AG o7 1 (.box 29 (.d dd))) 2 (.box 35 (.d (.int .i64 0))):=⟨_,rfl⟩
       have y1:AA o8 1=some (.box 29 (.d dd)):=by rw[ak];simp[x1,x2]
       have y2:AA o8 2=some (.box 35 (.d (.int .i64 0))):=by rw[ak];simp[x1,x2]
       rw[<-ak];refine Y2h hP ?_;simp[y1,y2,a5];refine⟨by rw[ab],hz _ ?_⟩;rw[ab];show D.le _ (.agg [Xg y.Al,.AF 5 (w.map At.enc),.AF 6 (m.map AI.enc),.AF 5 (s.map Ai.enc),.AF 5 (t.map Ag.enc),.AF 3 (v.map AR.enc)]);exact D.le.agg (Bq.cons (D.le.refl _) (Bq.cons (D.le.refl _) (Bq.cons (D.le.AF (Bq.map λx _=>Zba x)) (Bq.cons (D.le.refl _) (Bq.cons (D.le.refl _) (Bq.cons (D.le.refl _) Bq.nil))))))
  ·rw[sU];exact ac (by rw[W7,e];rfl) _ (c1 _ _ _ _ _) (c2 _ _ _ _ _)
end
deriving instance DecidableEq for BG,Am,BB,Ba,Ai,A8,Ag,CM,AR,At,A4,Ad,Ax,AI,Ah
def rf:KT:=.st [.AM,.AM,.int .i64,.int .i64,.int .i64]
def rX:KT:=.st [.AM,.AM,.int .i64,.st [.AM,.AM,.int .i64,.int .i64,.int .i64]]
def rW:KT:=.st [.int .i64,.st [.AM,.AM,.int .i64,.int .i64,.int .i64],.st [.AM,.AM,.int .i64,.int .i64,.int .i64]]
def Yeq:KT:=.st [.AM,.int .i64,.st [.AM,.AM,.int .i64,.int .i64,.int .i64]]
def ra:KT:=.st [.AM,.AM,.int .i64,.int .i64,.int .i64]
def Yep:KT:=.st [.AM,.AM,.int .i64,.int .i64]
mutual
theorem UB:∀x:D,D.Bg x x=true
|.int k a=>by simp[D.Bg]
|.bool a=>by simp[D.Bg]
|.AM a=>by simp[D.Bg]
|.AT=>rfl
|.AF z a=>by simp[D.Bg,Qq a]
|.agg a=>by simp[D.Bg,Qq a]
|.Bo=>rfl
|.B1=>rfl
|.Bl=>rfl
|.B0=>rfl
|.Bd a=>by simp[D.Bg,UB a]
|.iface t a=>by simp[D.Bg,UB a]
|.fn f a b=>by simp[D.Bg,Qq a,Qq b]
theorem Qq:∀l:List D,D.B8 l l=true
|[]=>rfl
|x::r=>by simp[D.B8,UB x,Qq r]
end
theorem O3 {a:Type}[DecidableEq a]{f:a->D}(b:∀x y,f x=f y->x=y)(x y:a):D.Bg (f x) (f y)=decide (x=y):=by
 by_cases e:x=y
 ·subst e;simp[UB]
 ·rw[DX e];cases h:D.Bg (f x) (f y) with
  |false=>rfl
  |true=>exact absurd (b _ _ (D.Bf _ _ h)) e
theorem VR:∀x y:BG,x.enc=y.enc->x=y:=λx y h=>by
 cases x;cases y;simp[BG.enc]at h;simp[h]
theorem Ykp:∀x y:At,x.enc=y.enc->x=y:=λx y h=>by
 cases x;cases y;simp[At.enc]at h;simp[h]
theorem Ykn:∀x y:Am,x.enc=y.enc->x=y:=λx y h=>by
 cases x;cases y;simp[Am.enc]at h;simp[h,VR _ _ h.2.2.2]
theorem Ykm:∀x y:BB,x.enc=y.enc->x=y:=λx y h=>by
 cases x;cases y;simp[BB.enc]at h;simp[h,VR _ _ h.2.1,VR _ _ h.2.2]
theorem Yt5:∀x y:Ba,x.enc=y.enc->x=y:=λx y h=>by
 cases x;cases y;simp[Ba.enc]at h;simp[h,VR _ _ h.2.2]
theorem Yko:∀x y:A8,x.enc=y.enc->x=y:=λx y h=>by
 cases x;cases y;simp[A8.enc]at h;simp[h]
theorem Yt4:∀x y:CM,x.enc=y.enc->x=y:=λx y h=>by
 cases x;cases y;simp[CM.enc]at h;simp[h]
theorem Yj7:∀x y:At,D.Bg x.enc y.enc=decide (x=y):=O3 Ykp
theorem Yj5:∀x y:Am,D.Bg x.enc y.enc=decide (x=y):=O3 Ykn
theorem Yj4:∀x y:BB,D.Bg x.enc y.enc=decide (x=y):=O3 Ykm
theorem Yth:∀x y:Ba,D.Bg x.enc y.enc=decide (x=y):=O3 Yt5
theorem Yj6:∀x y:A8,D.Bg x.enc y.enc=decide (x=y):=O3 Yko
theorem Ytg:∀x y:CM,D.Bg x.enc y.enc=decide (x=y):=O3 Yt4
def QA:Nat:=0x148c0034536f14540926310016ba0843932e005c058b510045840e105d0dd20983005700977100a05dbce0080c705e8ec01d9254e906100802506301e0750292e009a923648
def jK:S:=zS [] QA
theorem Zm7:Xr Tryz.prog 21 1 jK [.t 2]=true:=by kernel_rfl
def Yfd:Nat:=0x108962a012b12255013aaa0110c7005c271b30e905700f0cd36f14408943900e0d712c00a00e2efa9307a89200c004647b0719105c13db1c8b6949004c51
def pG:Nat:=0x1ac824207108962aafe36e70c72218f648
def jL:S:=zS [(zS [] Yfd)] pG
theorem Zm8:Xr Tryz.prog 22 1 jL [.t 2]=true:=by kernel_rfl
def n45:Nat:=0x1c9903b31f55300303a58acbc03931f6e433c58a7e148957200303658a6c62bf03531f1f500303458a6995210021d10c26b1b9752bc1801db96
def jn:S:=zS [] n45
theorem Znr:Xr Tryz.prog 45 2 jn [.t 4]=true:=by kernel_rfl
def Yft:Nat:=0x14c20cd0160434bf0434701ea52400152e
def pO:Nat:=0x14a3
def jo:S:=zS [(zS [] Yft)] pO
theorem Zns:Xr Tryz.prog 46 2 jo [.t 4]=true:=by kernel_rfl
def Yfu:Nat:=0x1000847538c9b53005cb8f78539c0130960500e47a81df0480b45480a261c39cc301df04813100e10c4b99888471317be
def pP:Nat:=0x109b0180b321b0e104901504d35a0d205f8470680ae84771008904d00a22018c
def jr:S:=zS [(zS [] Yfu)] pP
theorem Zf1:Xr Tryz.prog 48 3 jr [.t 6]=true:=by kernel_rfl
def sI:Nat:=0x16ec2f56e00604bf0604703fc52400552e
def kG:Nat:=0x14a3
def mB:S:=zS [(zS [] sI)] kG
theorem Y86:Xr Tryz.prog 107 2 mB [.t 4]=true:=by kernel_rfl
def sJ:Nat:=0x18ed05c08d3f56ad00964792705c21b09a0076970153539083a68f005c35609a6a5
def kJ:Nat:=0x16cf
def mD:S:=zS [(zS [] sJ)] kJ
theorem Y87:Xr Tryz.prog 108 3 mD [.t 6]=true:=by kernel_rfl
def Zev:Nat:=0x1c9901a1f75530030192fdcbc0181f76e40030172fdcaac1803613b0361a0
def mE:S:=zS [] Zev
theorem Y88:Xr Tryz.prog 109 2 mE [.t 4]=true:=by kernel_rfl
def sK:Nat:=0x16cd33bad806095c30c5233a50180f121b005a1f16608e0080964301aa0140f135680c6a5
def kK:Nat:=0x16cf
def mF:S:=zS [(zS [] sK)] kK
theorem Y89:Xr Tryz.prog 110 3 mF [.t 6]=true:=by kernel_rfl
def Zew:Nat:=0x1bc078c0230a801d2217e157200201c2217ad1b2221967bf702d13b02d1a0
def mG:S:=zS [] Zew
theorem Y9a:Xr Tryz.prog 111 2 mG [.t 4]=true:=by kernel_rfl
def sL:Nat:=0x16cd33bad806095c30c9633a50180f121b005a1f16608e0080967611aa0140f135680c6a5
def kL:Nat:=0x16cf
def mH:S:=zS [(zS [] sL)] kL
theorem Y9b:Xr Tryz.prog 112 3 mH [.t 6]=true:=by kernel_rfl
def Zex:Nat:=0x1bc078c0230a801e221caabf717501105f5fb
def mI:S:=zS [] Zex
theorem Y9c:Xr Tryz.prog 113 2 mI [.t 4]=true:=by kernel_rfl
def s7:Nat:=0x18ed0582ac95c00985c61d92705821b003a1f20690861d8f00580111eb0066a5
def kM:Nat:=0x16cf
def mJ:S:=zS [(zS [] s7)] kM
theorem Y9d:Xr Tryz.prog 114 3 mJ [.t 6]=true:=by kernel_rfl
def Zey:Nat:=0x1c8061600201f22153b0ca46343a3bb5cac2e36a3d52893167a601416cc7613b2111a0
def lS:S:=zS [] Zey
theorem Y9e:Xr Tryz.prog 115 2 lS [.t 4]=true:=by kernel_rfl
def sW:Nat:=0x18ed19108d00b95c21a01438892719121b00b7af3fe00b9083888f019135600b0066a5
def kZ:Nat:=0x16cf
def mQ:S:=zS [(zS [] sW)] kZ
theorem Zae:Xr Tryz.prog 207 3 mQ [.t 6]=true:=by kernel_rfl
def Zfi:Nat:=0x13c30412419bf0ba0060c50670321a30522aeae705b06314d0029c5ae72ae4d300244738145115500812f0fb0b239612d05939600611b39614805939600511b39612a0851360c90088c30b237112105937100614537111205937100514537102b08502aa140290270b234d02805934d00610734d02605934d00510734d024085023510a260b23e00210593e005c1ba3e001f0593e00751baa2308501c9a254b0b222c01a05922c33e00122c01805922c0d20016c20850154ea42818606100425800113e213a3701009f9e804813e1d7a3713e228002048bbf0e100d1f300b77d8ab037a850620cf482620052440a826888297980cf68879804d829c024dd482620052440a826888291e80104dd688c020758297980cf68879804dc024dd6881e80100757983eb53701f08b0935b101f07b058abb0480482af0202720520441fa1ec13b1ec1a0
def mT:S:=zS [] Zfi
theorem Zaf:Xr Tryz.prog 208 2 mT [.t 4]=true:=by kernel_rfl
def sX:Nat:=0x18ed04d08d19e6ad0097a292704d21b0047af3fe0049085098f004d35636e6a5
def kc:Nat:=0x16cf
def mV:S:=zS [(zS [] sX)] kc
theorem Zag:Xr Tryz.prog 209 3 mV [.t 6]=true:=by kernel_rfl
def Zfj:Nat:=0x107801e24101d42596900202e0c27bbb9752b01b3bc23113b2311a0
def mW:S:=zS [] Zfj
theorem Zah:Xr Tryz.prog 210 2 mW [.t 4]=true:=by kernel_rfl
def sY:Nat:=0x16ec8b00996e02af4bf2afab800852400852e
def ke:Nat:=0x14a3
def mX:S:=zS [(zS [] sY)] ke
theorem Zai:Xr Tryz.prog 211 2 mX [.t 4]=true:=by kernel_rfl
def sZ:Nat:=0x16ec4134130446e0adb4bfadbab800b52400b52e
def kh:Nat:=0x14a3
def nN:S:=zS [(zS [] sZ)] kh
theorem Zaj:Xr Tryz.prog 212 2 nN [.t 4]=true:=by kernel_rfl
def sc:Nat:=0x16ec8b00542580161674bf167ab818a43718a0404e6
def kj:Nat:=0x14a3
def nO:S:=zS [(zS [] sc)] kj
theorem Zak:Xr Tryz.prog 213 2 nO [.t 4]=true:=by kernel_rfl
def sq:Nat:=0x16ec2f56e00604bf0604703fc52400552e
def km:Nat:=0x14a3
def nP:S:=zS [(zS [] sq)] km
theorem Zal:Xr Tryz.prog 214 2 nP [.t 4]=true:=by kernel_rfl
def sr:Nat:=0x14c22870996e03be4bf3be4707c952400452e
def kn:Nat:=0x14a3
def nQ:S:=zS [(zS [] sr)] kn
theorem Zam:Xr Tryz.prog 215 2 nQ [.t 4]=true:=by kernel_rfl
def Zda:S2:=zL [] [] QA
def Zgs:=(by cbv:Zda=_)
theorem Zjd:jK.AZ []=some Zda:=by kernel_rfl
def gp:S2:=zL [] [] Yfd
def Xy1:=(by cbv:gp=_)
def Zdb:S2:=zL [] [gp] pG
def Zgt:=(show Zdb=_ from (λ(a:S2)=>(by cbv:zL [] [a] pG=_)) gp)
theorem Zje:jL.AZ []=some Zdb:=by kernel_rfl
def Zdu:S2:=zL [] [] n45
def Zg8:=(by cbv:Zdu=_)
theorem Zjx:jn.AZ []=some Zdu:=by kernel_rfl
def gS:S2:=zL [] [] Yft
def Xzf:=(by cbv:gS=_)
def Zdv:S2:=zL [] [gS] pO
def Zbh:=(show Zdv=_ from (λ(a:S2)=>(by cbv:zL [] [a] pO=_)) gS)
theorem Zjy:jo.AZ []=some Zdv:=by kernel_rfl
def gT:S2:=zL [] [] Yfu
def VK:=(by cbv:gT=_)
def Zdx:S2:=zL [] [gT] pP
def Zbi:=(show Zdx=_ from (λ(a:S2)=>(by cbv:zL [] [a] pP=_)) gT)
theorem Zc2:jr.AZ []=some Zdx:=by kernel_rfl
def ew:S2:=zL [] [] sI
def yH:=(by cbv:ew=_)
def Yu5:S2:=zL [] [ew] kG
def Yqs:=(show Yu5=_ from (λ(a:S2)=>(by cbv:zL [] [a] kG=_)) ew)
theorem Y6d:mB.AZ []=some Yu5:=by kernel_rfl
def ey:S2:=zL [] [] sJ
def yJ:=(by cbv:ey=_)
def Yu6:S2:=zL [] [ey] kJ
def Yqt:=(show Yu6=_ from (λ(a:S2)=>(by cbv:zL [] [a] kJ=_)) ey)
theorem Y6e:mD.AZ []=some Yu6:=by kernel_rfl
def Yu7:S2:=zL [] [] Zev
def SW:=(by cbv:Yu7=_)
theorem Y6f:mE.AZ []=some Yu7:=by kernel_rfl
def e9:S2:=zL [] [] sK
def yK:=(by cbv:e9=_)
def Yu8:S2:=zL [] [e9] kK
def Yqu:=(show Yu8=_ from (λ(a:S2)=>(by cbv:zL [] [a] kK=_)) e9)
theorem Y6g:mF.AZ []=some Yu8:=by kernel_rfl
def Yu9:S2:=zL [] [] Zew
def kx:=(by cbv:Yu9=_)
theorem Y6h:mG.AZ []=some Yu9:=by kernel_rfl
def fC:S2:=zL [] [] sL
def yL:=(by cbv:fC=_)
def Yva:S2:=zL [] [fC] kL
def Yqv:=(show Yva=_ from (λ(a:S2)=>(by cbv:zL [] [a] kL=_)) fC)
theorem Y6i:mH.AZ []=some Yva:=by kernel_rfl
def Yvb:S2:=zL [] [] Zex
def SU:=(by cbv:Yvb=_)
theorem Y6j:mI.AZ []=some Yvb:=by kernel_rfl
def fD:S2:=zL [] [] s7
def yM:=(by cbv:fD=_)
def Yvc:S2:=zL [] [fD] kM
def Yqw:=(show Yvc=_ from (λ(a:S2)=>(by cbv:zL [] [a] kM=_)) fD)
theorem Y6k:mJ.AZ []=some Yvc:=by kernel_rfl
def Yvd:S2:=zL [] [] Zey
def ky:=(by cbv:Yvd=_)
theorem Y6l:lS.AZ []=some Yvd:=by kernel_rfl
def fT:S2:=zL [] [] sW
def ym:=(by cbv:fT=_)
def Ywf:S2:=zL [] [fT] kZ
def Yqz:=(show Ywf=_ from (λ(a:S2)=>(by cbv:zL [] [a] kZ=_)) fT)
theorem Y7g:mQ.AZ []=some Ywf:=by kernel_rfl
def Ywg:S2:=zL [] [] Zfi
def KD:=(by cbv:Ywg=_)
theorem Y7h:mT.AZ []=some Ywg:=by kernel_rfl
def fU:S2:=zL [] [] sX
def yn:=(by cbv:fU=_)
def Ywh:S2:=zL [] [fU] kc
def Yq0:=(show Ywh=_ from (λ(a:S2)=>(by cbv:zL [] [a] kc=_)) fU)
theorem Y7i:mV.AZ []=some Ywh:=by kernel_rfl
def Ywi:S2:=zL [] [] Zfj
def Y1i:=(by cbv:Ywi=_)
theorem Y7j:mW.AZ []=some Ywi:=by kernel_rfl
def fV:S2:=zL [] [] sY
def yo:=(by cbv:fV=_)
def Ywj:S2:=zL [] [fV] ke
def Yq1:=(show Ywj=_ from (λ(a:S2)=>(by cbv:zL [] [a] ke=_)) fV)
theorem Y7k:mX.AZ []=some Ywj:=by kernel_rfl
def fW:S2:=zL [] [] sZ
def yp:=(by cbv:fW=_)
def Ywk:S2:=zL [] [fW] kh
def Yq2:=(show Ywk=_ from (λ(a:S2)=>(by cbv:zL [] [a] kh=_)) fW)
theorem Y7l:nN.AZ []=some Ywk:=by kernel_rfl
def fX:S2:=zL [] [] sc
def yq:=(by cbv:fX=_)
def Ywl:S2:=zL [] [fX] kj
def Yq3:=(show Ywl=_ from (λ(a:S2)=>(by cbv:zL [] [a] kj=_)) fX)
theorem Y7m:nO.AZ []=some Ywl:=by kernel_rfl
def fY:S2:=zL [] [] sq
def yr:=(by cbv:fY=_)
def Ywm:S2:=zL [] [fY] km
def Yq4:=(show Ywm=_ from (λ(a:S2)=>(by cbv:zL [] [a] km=_)) fY)
theorem Y7n:nP.AZ []=some Ywm:=by kernel_rfl
def fZ:S2:=zL [] [] sr
def yt:=(by cbv:fZ=_)
def Ywn:S2:=zL [] [fZ] kn
def Yq5:=(show Ywn=_ from (λ(a:S2)=>(by cbv:zL [] [a] kn=_)) fZ)
theorem Y7o:nQ.AZ []=some Ywn:=by kernel_rfl
section
variable {P:Az} (hP:P.p=Tryz.prog)
include hP
theorem X90 {a b:List At}(v:b.length<=9223372036854775807){m:AB}{K:V->Prop}(h:K (.d (.bool (decide (a=b))))):AU P 107 [.d (.AF 5 (a.map At.enc)),.d (.AF 5 (b.map At.enc))] m K:=by
 have r:∀{k n:Nat},k<n->n<=9223372036854775807->IntKind.i64.wrap ((k:Int)+1)=(k:Int)+1:=λt u=>IntWalk.i64_in _ (by omega);have s:∀x:At,x.enc.sz=5:=λ_=>rfl;have l:∀x:At,KT.Bk rf x.enc=true:=λ_=>rfl;unfold rf at l;refine AJ hP AO (ds:=[.AF 5 (a.map At.enc),.AF 5 (b.map At.enc)]) Y86 Y6d BD.nil ?_;by_cases g:a.length=b.length
 ·simp[Yqs,g];refine Ae.go (ι:=Nat) (λk=>[(0,.d (.AF 5 (a.map At.enc))),(1,.d (.AF 5 (b.map At.enc))),(12,.d (.int .i64 b.length)),(13,.d (.int .i64 k))]) (λ_=>[]) (λk=>k<=b.length/\a.take k=b.take k) (λk=>b.length-k) 0 ⟨DM _,by simp⟩ (by simp) (by simp) ?_;rintro k ⟨w,i⟩ R p o q y;by_cases f:k<b.length
  ·have c:k<a.length:=by omega
   simp[yH,f,c,s,l,Yj7];refine⟨⟨rfl,rfl⟩,λe=>q _ _ ?_,λe=>p [] (k+1) _ _ ⟨by omega,?_⟩ (by omega) (by simp[r f (by omega)]) (by simp[AE]) (by simp[AE]) (by simp[AE])⟩
   ·simp;have ne:a≠b:=λh=>by subst h;exact e rfl
    rw[DX ne]at h;exact h
   ·rw[Ca c,Ca f,i,e]
  ·have:k=b.length:=by omega
   subst this;simp[yH];refine o _ _ _ ?_;simp;have e:a=b:=by rw[<-g,C0,g,C0]at i;exact i
   rw[En e]at h;exact h
 ·have j:¬(a.length:Int)=b.length:=by omega
  have e:a≠b:=λe=>g (by rw[e]);rw[DX e]at h;simp[Yqs,g];exact⟨λ_=>h,λh=>(j h).elim⟩
theorem X9y {a b:List Am}(v:b.length<=9223372036854775807){m:AB}{K:V->Prop}(h:K (.d (.bool (decide (a=b))))):AU P 211 [.d (.AF 8 (a.map Am.enc)),.d (.AF 8 (b.map Am.enc))] m K:=by
 have r:∀{k n:Nat},k<n->n<=9223372036854775807->IntKind.i64.wrap ((k:Int)+1)=(k:Int)+1:=λt u=>IntWalk.i64_in _ (by omega);have s:∀x:Am,x.enc.sz=8:=λ_=>rfl;have l:∀x:Am,KT.Bk rX x.enc=true:=λ_=>rfl;unfold rX at l;refine AJ hP AO (ds:=[.AF 8 (a.map Am.enc),.AF 8 (b.map Am.enc)]) Zai Y7k BD.nil ?_;by_cases g:a.length=b.length
 ·simp[Yq1,g];refine Ae.go (ι:=Nat) (λk=>[(0,.d (.AF 8 (a.map Am.enc))),(1,.d (.AF 8 (b.map Am.enc))),(12,.d (.int .i64 b.length)),(13,.d (.int .i64 k))]) (λ_=>[]) (λk=>k<=b.length/\a.take k=b.take k) (λk=>b.length-k) 0 ⟨DM _,by simp⟩ (by simp) (by simp) ?_;rintro k ⟨w,i⟩ R p o q y;by_cases f:k<b.length
  ·have c:k<a.length:=by omega
   simp[yo,f,c,s,l,Yj5];refine⟨⟨rfl,rfl⟩,λe=>q _ _ ?_,λe=>p [] (k+1) _ _ ⟨by omega,?_⟩ (by omega) (by simp[r f (by omega)]) (by simp[AE]) (by simp[AE]) (by simp[AE])⟩
   ·simp;have ne:a≠b:=λh=>by subst h;exact e rfl
    rw[DX ne]at h;exact h
   ·rw[Ca c,Ca f,i,e]
  ·have:k=b.length:=by omega
   subst this;simp[yo];refine o _ _ _ ?_;simp;have e:a=b:=by rw[<-g,C0,g,C0]at i;exact i
   rw[En e]at h;exact h
 ·have j:¬(a.length:Int)=b.length:=by omega
  have e:a≠b:=λe=>g (by rw[e]);rw[DX e]at h;simp[Yq1,g];exact⟨λ_=>h,λh=>(j h).elim⟩
theorem X9x {a b:List BB}(v:b.length<=9223372036854775807){m:AB}{K:V->Prop}(h:K (.d (.bool (decide (a=b))))):AU P 212 [.d (.AF 11 (a.map BB.enc)),.d (.AF 11 (b.map BB.enc))] m K:=by
 have r:∀{k n:Nat},k<n->n<=9223372036854775807->IntKind.i64.wrap ((k:Int)+1)=(k:Int)+1:=λt u=>IntWalk.i64_in _ (by omega);have s:∀x:BB,x.enc.sz=11:=λ_=>rfl;have l:∀x:BB,KT.Bk rW x.enc=true:=λ_=>rfl;unfold rW at l;refine AJ hP AO (ds:=[.AF 11 (a.map BB.enc),.AF 11 (b.map BB.enc)]) Zaj Y7l BD.nil ?_;by_cases g:a.length=b.length
 ·simp[Yq2,g];refine Ae.go (ι:=Nat) (λk=>[(0,.d (.AF 11 (a.map BB.enc))),(1,.d (.AF 11 (b.map BB.enc))),(12,.d (.int .i64 b.length)),(13,.d (.int .i64 k))]) (λ_=>[]) (λk=>k<=b.length/\a.take k=b.take k) (λk=>b.length-k) 0 ⟨DM _,by simp⟩ (by simp) (by simp) ?_;rintro k ⟨w,i⟩ R p o q y;by_cases f:k<b.length
  ·have c:k<a.length:=by omega
   simp[yp,f,c,s,l,Yj4];refine⟨⟨rfl,rfl⟩,λe=>q _ _ ?_,λe=>p [] (k+1) _ _ ⟨by omega,?_⟩ (by omega) (by simp[r f (by omega)]) (by simp[AE]) (by simp[AE]) (by simp[AE])⟩
   ·simp;have ne:a≠b:=λh=>by subst h;exact e rfl
    rw[DX ne]at h;exact h
   ·rw[Ca c,Ca f,i,e]
  ·have:k=b.length:=by omega
   subst this;simp[yp];refine o _ _ _ ?_;simp;have e:a=b:=by rw[<-g,C0,g,C0]at i;exact i
   rw[En e]at h;exact h
 ·have j:¬(a.length:Int)=b.length:=by omega
  have e:a≠b:=λe=>g (by rw[e]);rw[DX e]at h;simp[Yq2,g];exact⟨λ_=>h,λh=>(j h).elim⟩
theorem Yin {a b:List Ba}(v:b.length<=9223372036854775807){m:AB}{K:V->Prop}(h:K (.d (.bool (decide (a=b))))):AU P 213 [.d (.AF 7 (a.map Ba.enc)),.d (.AF 7 (b.map Ba.enc))] m K:=by
 have r:∀{k n:Nat},k<n->n<=9223372036854775807->IntKind.i64.wrap ((k:Int)+1)=(k:Int)+1:=λt u=>IntWalk.i64_in _ (by omega);have s:∀x:Ba,x.enc.sz=7:=λ_=>rfl;have l:∀x:Ba,KT.Bk Yeq x.enc=true:=λ_=>rfl;unfold Yeq at l;refine AJ hP AO (ds:=[.AF 7 (a.map Ba.enc),.AF 7 (b.map Ba.enc)]) Zak Y7m BD.nil ?_;by_cases g:a.length=b.length
 ·simp[Yq3,g];refine Ae.go (ι:=Nat) (λk=>[(0,.d (.AF 7 (a.map Ba.enc))),(1,.d (.AF 7 (b.map Ba.enc))),(12,.d (.int .i64 b.length)),(13,.d (.int .i64 k))]) (λ_=>[]) (λk=>k<=b.length/\a.take k=b.take k) (λk=>b.length-k) 0 ⟨DM _,by simp⟩ (by simp) (by simp) ?_;rintro k ⟨w,i⟩ R p o q y;by_cases f:k<b.length
  ·have c:k<a.length:=by omega
   simp[yq,f,c,s,l,Yth];refine⟨⟨rfl,rfl⟩,λe=>q _ _ ?_,λe=>p [] (k+1) _ _ ⟨by omega,?_⟩ (by omega) (by simp[r f (by omega)]) (by simp[AE]) (by simp[AE]) (by simp[AE])⟩
   ·simp;have ne:a≠b:=λh=>by subst h;exact e rfl
    rw[DX ne]at h;exact h
   ·rw[Ca c,Ca f,i,e]
  ·have:k=b.length:=by omega
   subst this;simp[yq];refine o _ _ _ ?_;simp;have e:a=b:=by rw[<-g,C0,g,C0]at i;exact i
   rw[En e]at h;exact h
 ·have j:¬(a.length:Int)=b.length:=by omega
  have e:a≠b:=λe=>g (by rw[e]);rw[DX e]at h;simp[Yq3,g];exact⟨λ_=>h,λh=>(j h).elim⟩
theorem X9z {a b:List A8}(v:b.length<=9223372036854775807){m:AB}{K:V->Prop}(h:K (.d (.bool (decide (a=b))))):AU P 214 [.d (.AF 5 (a.map A8.enc)),.d (.AF 5 (b.map A8.enc))] m K:=by
 have r:∀{k n:Nat},k<n->n<=9223372036854775807->IntKind.i64.wrap ((k:Int)+1)=(k:Int)+1:=λt u=>IntWalk.i64_in _ (by omega);have s:∀x:A8,x.enc.sz=5:=λ_=>rfl;have l:∀x:A8,KT.Bk ra x.enc=true:=λ_=>rfl;unfold ra at l;refine AJ hP AO (ds:=[.AF 5 (a.map A8.enc),.AF 5 (b.map A8.enc)]) Zal Y7n BD.nil ?_;by_cases g:a.length=b.length
 ·simp[Yq4,g];refine Ae.go (ι:=Nat) (λk=>[(0,.d (.AF 5 (a.map A8.enc))),(1,.d (.AF 5 (b.map A8.enc))),(12,.d (.int .i64 b.length)),(13,.d (.int .i64 k))]) (λ_=>[]) (λk=>k<=b.length/\a.take k=b.take k) (λk=>b.length-k) 0 ⟨DM _,by simp⟩ (by simp) (by simp) ?_;rintro k ⟨w,i⟩ R p o q y;by_cases f:k<b.length
  ·have c:k<a.length:=by omega
   simp[yr,f,c,s,l,Yj6];refine⟨⟨rfl,rfl⟩,λe=>q _ _ ?_,λe=>p [] (k+1) _ _ ⟨by omega,?_⟩ (by omega) (by simp[r f (by omega)]) (by simp[AE]) (by simp[AE]) (by simp[AE])⟩
   ·simp;have ne:a≠b:=λh=>by subst h;exact e rfl
    rw[DX ne]at h;exact h
   ·rw[Ca c,Ca f,i,e]
  ·have:k=b.length:=by omega
   subst this;simp[yr];refine o _ _ _ ?_;simp;have e:a=b:=by rw[<-g,C0,g,C0]at i;exact i
   rw[En e]at h;exact h
 ·have j:¬(a.length:Int)=b.length:=by omega
  have e:a≠b:=λe=>g (by rw[e]);rw[DX e]at h;simp[Yq4,g];exact⟨λ_=>h,λh=>(j h).elim⟩
theorem Yim {a b:List CM}(v:b.length<=9223372036854775807){m:AB}{K:V->Prop}(h:K (.d (.bool (decide (a=b))))):AU P 215 [.d (.AF 4 (a.map CM.enc)),.d (.AF 4 (b.map CM.enc))] m K:=by
 have r:∀{k n:Nat},k<n->n<=9223372036854775807->IntKind.i64.wrap ((k:Int)+1)=(k:Int)+1:=λt u=>IntWalk.i64_in _ (by omega);have s:∀x:CM,x.enc.sz=4:=λ_=>rfl;have l:∀x:CM,KT.Bk Yep x.enc=true:=λ_=>rfl;unfold Yep at l;refine AJ hP AO (ds:=[.AF 4 (a.map CM.enc),.AF 4 (b.map CM.enc)]) Zam Y7o BD.nil ?_;by_cases g:a.length=b.length
 ·simp[Yq5,g];refine Ae.go (ι:=Nat) (λk=>[(0,.d (.AF 4 (a.map CM.enc))),(1,.d (.AF 4 (b.map CM.enc))),(12,.d (.int .i64 b.length)),(13,.d (.int .i64 k))]) (λ_=>[]) (λk=>k<=b.length/\a.take k=b.take k) (λk=>b.length-k) 0 ⟨DM _,by simp⟩ (by simp) (by simp) ?_;rintro k ⟨w,i⟩ R p o q y;by_cases f:k<b.length
  ·have c:k<a.length:=by omega
   simp[yt,f,c,s,l,Ytg];refine⟨⟨rfl,rfl⟩,λe=>q _ _ ?_,λe=>p [] (k+1) _ _ ⟨by omega,?_⟩ (by omega) (by simp[r f (by omega)]) (by simp[AE]) (by simp[AE]) (by simp[AE])⟩
   ·simp;have ne:a≠b:=λh=>by subst h;exact e rfl
    rw[DX ne]at h;exact h
   ·rw[Ca c,Ca f,i,e]
  ·have:k=b.length:=by omega
   subst this;simp[yt];refine o _ _ _ ?_;simp;have e:a=b:=by rw[<-g,C0,g,C0]at i;exact i
   rw[En e]at h;exact h
 ·have j:¬(a.length:Int)=b.length:=by omega
  have e:a≠b:=λe=>g (by rw[e]);rw[DX e]at h;simp[Yq5,g];exact⟨λ_=>h,λh=>(j h).elim⟩
theorem Yil {a b:List Int}(t:b.length<=9223372036854775807){l:AB}{K:V->Prop}(h:K (.d (.bool (decide (a=b))))):AU P 46 [.d (X9 a),.d (X9 b)] l K:=by
 have q:∀{k n:Nat},k<n->n<=9223372036854775807->IntKind.i64.wrap ((k:Int)+1)=(k:Int)+1:=λr s=>IntWalk.i64_in _ (by omega);refine AJ hP AO (ds:=[X9 a,X9 b]) Zns Zjy BD.nil ?_;by_cases g:a.length=b.length
 ·simp[Zbh,X9,g];refine Ae.go (ι:=Nat) (λk=>[(0,.d (.AF 1 (a.map λx=>.int .i64 x))),(1,.d (.AF 1 (b.map λx=>.int .i64 x))),(12,.d (.int .i64 b.length)),(13,.d (.int .i64 k))]) (λ_=>[]) (λk=>k<=b.length/\a.take k=b.take k) (λk=>b.length-k) 0 ⟨DM _,by simp⟩ (by simp) (by simp) ?_;rintro k ⟨u,i⟩ R o m p v;by_cases f:k<b.length
  ·have c:k<a.length:=by omega
   simp[Xzf,f,c];refine⟨λe=>p _ _ ?_,λe=>o [] (k+1) _ _ ⟨by omega,?_⟩ (by omega) (by simp[q f (by omega)]) (by simp[AE]) (by simp[AE]) (by simp[AE])⟩
   ·simp;have ne:a≠b:=λh=>by subst h;exact e rfl
    rw[DX ne]at h;exact h
   ·rw[Ca c,Ca f,i,e]
  ·have:k=b.length:=by omega
   subst this;simp[Xzf];refine m _ _ _ ?_;simp;have e:a=b:=by rw[<-g,C0,g,C0]at i;exact i
   rw[En e]at h;exact h
 ·have j:¬(a.length:Int)=b.length:=by omega
  have e:a≠b:=λe=>g (by rw[e]);rw[DX e]at h;simp[Zbh,X9,g];exact⟨λ_=>h,λh=>(j h).elim⟩
theorem ZX {a b:List B}(t:b.length<=9223372036854775807){l:AB}{K:V->Prop}(h:K (.d (.bool (decide (a=b))))):AU P 106 [.d (Xg a),.d (Xg b)] l K:=by
 have q:∀{k n:Nat},k<n->n<=9223372036854775807->IntKind.i64.wrap ((k:Int)+1)=(k:Int)+1:=λr s=>IntWalk.i64_in _ (by omega);refine AJ hP AO (ds:=[Xg a,Xg b]) Yy2 Yuv BD.nil ?_;by_cases g:a.length=b.length
 ·simp[Tw,Xg,g];refine Ae.go (ι:=Nat) (λk=>[(0,.d (.AF 1 (a.map D.AM))),(1,.d (.AF 1 (b.map D.AM))),(12,.d (.int .i64 b.length)),(13,.d (.int .i64 k))]) (λ_=>[]) (λk=>k<=b.length/\a.take k=b.take k) (λk=>b.length-k) 0 ⟨DM _,by simp⟩ (by simp) (by simp) ?_;rintro k ⟨u,i⟩ R o m p v;by_cases f:k<b.length
  ·have c:k<a.length:=by omega
   simp[UK,f,c];refine⟨λe=>p _ _ ?_,λe=>o [] (k+1) _ _ ⟨by omega,?_⟩ (by omega) (by simp[q f (by omega)]) (by simp[AE]) (by simp[AE]) (by simp[AE])⟩
   ·simp;have ne:a≠b:=λh=>by subst h;exact e rfl
    rw[DX ne]at h;exact h
   ·rw[Ca c,Ca f,i,e]
  ·have:k=b.length:=by omega
   subst this;simp[UK];refine m _ _ _ ?_;simp;have e:a=b:=by rw[<-g,C0,g,C0]at i;exact i
   rw[En e]at h;exact h
 ·have j:¬(a.length:Int)=b.length:=by omega
  have e:a≠b:=λe=>g (by rw[e]);rw[DX e]at h;simp[Tw,Xg,g];exact⟨λ_=>h,λh=>(j h).elim⟩
end
section
variable {P:Az} (hP:P.p=Tryz.prog)
include hP
theorem Xw4 {x y:Ai}(e:y.BC){n:AB}{K:V->Prop}(h:K (.d (.bool (decide (x=y))))):AU P 111 [.d x.enc,.d y.enc] n K:=by
 refine AJ hP AO (ds:=[x.enc,y.enc]) Y9a Y6h BD.nil ?_;have f:∀x:Ai,(V.d x.enc).BM=some [.d (.AM x.head),.d (iD x.AP),.d (.AF 8 (x.AW.map Am.enc)),.d (.AF 11 (x.Ak.map BB.enc)),.d (.AF 7 (x.BK.map Ba.enc))]:=λ_=>rfl;have g:∀x:Ai,x.enc.sz=5:=λ_=>rfl;have i:∀x:Ai,x.enc.shape.size=5:=λx=>by rw[CC];rfl
 have m:decide (x=y)=(decide (x.head=y.head)&&(decide (x.AP=y.AP)&&(decide (x.AW=y.AW)&&(decide (x.Ak=y.Ak)&&decide (x.BK=y.BK))))):=by
  rw[Dl];cases x;cases y;simp
 rw[m]at h;by_cases a:x.head=y.head
 ·by_cases b:x.AP=y.AP
  ·simp[kx,f,g,i,a,b]at h⊢;refine X9y hP e.AW ?_;by_cases j:x.AW=y.AW
   ·simp[j]at h⊢;refine X9x hP e.Ak ?_;by_cases k:x.Ak=y.Ak
    ·simp[k]at h⊢;refine Yin hP e.BK ?_;by_cases l:x.BK=y.BK
     ·simpa[l]using h
     ·simpa[l]using h
    ·simpa[k]using h
   ·simpa[j]using h
  ·have c:(x.AP==y.AP)=false:=by simpa using b
   simp[kx,f,g,i,a,b,c]at h⊢;exact h
 ·simpa[kx,f,g,i,a]using h
theorem Xi4 {x y:Ag}(p:y.Ap.length<=9223372036854775807){q:AB}{K:V->Prop}(h:K (.d (.bool (decide (x=y))))):AU P 113 [.d x.enc,.d y.enc] q K:=by
 refine AJ hP AO (ds:=[x.enc,y.enc]) Y9c Y6j BD.nil ?_;have e:∀x:Ag,(V.d x.enc).BM=some [.d (.AM x.Aw),.d (.AM x.CA),.d (iD x.a),.d (iD x.b),.d (.AF 5 (x.Ap.map A8.enc))]:=λ_=>rfl;have f:∀x:Ag,x.enc.sz=5:=λ_=>rfl;have g:∀x:Ag,x.enc.shape.size=5:=λx=>by rw[CC];rfl
 have o:decide (x=y)=(decide (x.Aw=y.Aw)&&(decide (x.CA=y.CA)&&(decide (x.a=y.a)&&(decide (x.b=y.b)&&decide (x.Ap=y.Ap))))):=by
  rw[Dl];cases x;cases y;simp[and_comm,and_left_comm]
 rw[o]at h;by_cases c:x.Aw=y.Aw
 ·by_cases i:x.CA=y.CA
  ·by_cases j:x.a=y.a
   ·by_cases l:x.b=y.b
    ·simp[SU,e,f,g,c,i,j,l]at h⊢;refine X9z hP p ?_;by_cases n:x.Ap=y.Ap
     ·simpa[n]using h
     ·simpa[n]using h
    ·have m:(x.b==y.b)=false:=by simpa using l
     simpa[SU,e,f,g,c,i,j,l,m]using h
   ·have k:(x.a==y.a)=false:=by simpa using j
    simpa[SU,e,f,g,c,i,j,k]using h
  ·simpa[SU,e,f,g,c,i]using h
 ·simpa[SU,e,f,g,c]using h
theorem Xi5 {x y:AR}(k:y.CW.length<=9223372036854775807){l:AB}{K:V->Prop}(h:K (.d (.bool (decide (x=y))))):AU P 115 [.d x.enc,.d y.enc] l K:=by
 refine AJ hP AO (ds:=[x.enc,y.enc]) Y9e Y6l BD.nil ?_;have e:∀x:AR,(V.d x.enc).BM=some [.d (.AM x.name),.d (.AF 4 (x.CW.map CM.enc)),.d (iD x.DJ)]:=λ_=>rfl;have f:∀x:AR,x.enc.sz=3:=λ_=>rfl;have g:∀x:AR,x.enc.shape.size=3:=λx=>by rw[CC];rfl
 have j:decide (x=y)=(decide (x.name=y.name)&&(decide (x.DJ=y.DJ)&&decide (x.CW=y.CW))):=by
  rw[Dl];cases x;cases y;simp[and_comm,and_left_comm]
 rw[j]at h;by_cases a:x.name=y.name
 ·by_cases b:x.DJ=y.DJ
  ·simp[ky,e,f,g,a,b]at h⊢;refine Yim hP k ?_;by_cases i:x.CW=y.CW
   ·simpa[i]using h
   ·simpa[i]using h
  ·have c:(x.DJ==y.DJ)=false:=by simpa using b
   simpa[ky,e,f,g,a,b,c]using h
 ·simpa[ky,e,f,g,a]using h
theorem Xmf {x y:Ax}(k:y.BC){p:AB}{K:V->Prop}(h:K (.d (.bool (decide (x=y))))):AU P 210 [.d x.enc,.d y.enc] p K:=by
 refine AJ hP AO (ds:=[x.enc,y.enc]) Zah Y7j BD.nil ?_;have m:∀x:Ax,(V.d x.enc).BM=some [.d (Xg x.names),.d (.AM x.name),.d (X9 x.Aw),.d (iD x.CA)]:=λ_=>rfl;have n:∀x:Ax,x.enc.sz=4:=λ_=>rfl;have o:∀x:Ax,x.enc.shape.size=4:=λx=>by rw[CC];rfl
 have l:decide (x=y)=(decide (x.names=y.names)&&(decide (x.name=y.name)&&(decide (x.Aw=y.Aw)&&decide (x.CA=y.CA)))):=by
  rw[Dl];cases x;cases y;simp[and_comm,and_left_comm]
 rw[l]at h;simp[Y1i,m,n,o,Xg,X9]at h⊢;refine ZX hP (a:=x.names) (b:=y.names) k.names ?_;by_cases c:x.names=y.names
 ·by_cases e:x.name=y.name
  ·simp[c,e]at h⊢;refine Yil hP (a:=x.Aw) (b:=y.Aw) k.Aw ?_;by_cases g:x.Aw=y.Aw
   ·by_cases i:x.CA=y.CA
    ·simpa[g,i]using h
    ·have j:(x.CA==y.CA)=false:=by simpa using i
     simpa[g,i,j]using h
   ·simpa[g]using h
  ·have f:(x.name==y.name)=false:=by simpa using e
   simpa[c,e,f]using h
 ·simpa[c]using h
end
theorem Yac:Xd Tryz.prog 111=true:=by kernel_rfl
theorem X0h {P:Az}(i:P.p=Tryz.prog){a b:List Ai}(G:b.length<=9223372036854775807)(o:∀x∈b,x.BC){q:AB}{K:V->Prop}(h:K (.d (.bool (decide (a=b))))):AU P 110 [.d (.AF 5 (a.map Ai.enc)),.d (.AF 5 (b.map Ai.enc)),.d (.fn 111 [] [])] q K:=by
 have u:∀{k n:Nat},k<n->n<=9223372036854775807->IntKind.i64.wrap ((k:Int)+1)=(k:Int)+1:=λz F=>IntWalk.i64_in _ (by omega);have y:∀x:Ai,x.enc.sz=5:=λ_=>rfl;have w:∀x:Ai,x.enc.shape.size=5:=λx=>by rw[CC];rfl
 have v:∀x:Ai,x.enc.shape=(.agg [.AM [],iD 0,.AT,.AT,.AT]:D).shape:=λ_=>rfl;have j:Xd P.p 111=true:=by rw[i];exact Yac
 refine AJ i AO (ds:=[.AF 5 (a.map Ai.enc),.AF 5 (b.map Ai.enc),.fn 111 [] []]) Y89 Y6g BD.nil ?_;by_cases g:a.length=b.length
 ·simp[Yqu,g];refine Ae.go (ι:=Nat) (λk=>[(1,.d (.AF 5 (b.map Ai.enc))),(2,.d (.fn 111 [] [])),(15,.d (.AF 5 (a.map Ai.enc))),(16,.d (.int .i64 b.length)),(17,.d (.int .i64 k))]) (λ_=>[]) (λk=>k<=b.length/\a.take k=b.take k) (λk=>b.length-k) 0 ⟨DM _,by simp⟩ (by simp) (by simp) ?_;rintro k ⟨H,l⟩ R s r t J;by_cases c:k<b.length
  ·have f:k<a.length:=by omega
   simp[yK,c,f,y,w,v,j];refine⟨rfl,rfl,rfl,rfl,rfl,?_⟩;refine(Xw4 i (o _ (CS c)) ?_).Bm;simp;refine⟨λe=>t _ _ ?_,λe=>s [] (k+1) _ _ ⟨by omega,?_⟩ (by omega) (by simp[u c (by omega)]) (by simp[AE]) (by simp[AE]) (by simp[AE])⟩
   ·simp;have ne:a≠b:=λh=>by subst h;exact e rfl
    rw[DX ne]at h;exact h
   ·rw[Ca f,Ca c,l,e]
  ·have:k=b.length:=by omega
   subst this;simp[yK];refine r _ _ _ ?_;simp;have e:a=b:=by rw[<-g,C0,g,C0]at l;exact l
   rw[En e]at h;exact h
 ·have m:¬(a.length:Int)=b.length:=by omega
  have e:a≠b:=λe=>g (by rw[e]);rw[DX e]at h;simp[Yqu,g];exact⟨λ_=>h,λh=>(m h).elim⟩
theorem Xpx:Xd Tryz.prog 113=true:=by kernel_rfl
theorem Xmd {P:Az}(i:P.p=Tryz.prog){a b:List Ag}(G:b.length<=9223372036854775807)(o:∀x∈b,x.Ap.length<=9223372036854775807){q:AB}{K:V->Prop}(h:K (.d (.bool (decide (a=b))))):AU P 112 [.d (.AF 5 (a.map Ag.enc)),.d (.AF 5 (b.map Ag.enc)),.d (.fn 113 [] [])] q K:=by
 have u:∀{k n:Nat},k<n->n<=9223372036854775807->IntKind.i64.wrap ((k:Int)+1)=(k:Int)+1:=λz F=>IntWalk.i64_in _ (by omega);have y:∀x:Ag,x.enc.sz=5:=λ_=>rfl;have w:∀x:Ag,x.enc.shape.size=5:=λx=>by rw[CC];rfl
 have v:∀x:Ag,x.enc.shape=(.agg [.AM [],.AM [],iD 0,iD 0,.AT]:D).shape:=λ_=>rfl;have j:Xd P.p 113=true:=by rw[i];exact Xpx
 refine AJ i AO (ds:=[.AF 5 (a.map Ag.enc),.AF 5 (b.map Ag.enc),.fn 113 [] []]) Y9b Y6i BD.nil ?_;by_cases g:a.length=b.length
 ·simp[Yqv,g];refine Ae.go (ι:=Nat) (λk=>[(1,.d (.AF 5 (b.map Ag.enc))),(2,.d (.fn 113 [] [])),(15,.d (.AF 5 (a.map Ag.enc))),(16,.d (.int .i64 b.length)),(17,.d (.int .i64 k))]) (λ_=>[]) (λk=>k<=b.length/\a.take k=b.take k) (λk=>b.length-k) 0 ⟨DM _,by simp⟩ (by simp) (by simp) ?_;rintro k ⟨H,l⟩ R s r t J;by_cases c:k<b.length
  ·have f:k<a.length:=by omega
   simp[yL,c,f,y,w,v,j];refine⟨rfl,rfl,rfl,rfl,rfl,?_⟩;refine(Xi4 i (o _ (CS c)) ?_).Bm;simp;refine⟨λe=>t _ _ ?_,λe=>s [] (k+1) _ _ ⟨by omega,?_⟩ (by omega) (by simp[u c (by omega)]) (by simp[AE]) (by simp[AE]) (by simp[AE])⟩
   ·simp;have ne:a≠b:=λh=>by subst h;exact e rfl
    rw[DX ne]at h;exact h
   ·rw[Ca f,Ca c,l,e]
  ·have:k=b.length:=by omega
   subst this;simp[yL];refine r _ _ _ ?_;simp;have e:a=b:=by rw[<-g,C0,g,C0]at l;exact l
   rw[En e]at h;exact h
 ·have m:¬(a.length:Int)=b.length:=by omega
  have e:a≠b:=λe=>g (by rw[e]);rw[DX e]at h;simp[Yqv,g];exact⟨λ_=>h,λh=>(m h).elim⟩
theorem Xpy:Xd Tryz.prog 115=true:=by kernel_rfl
theorem Xme {P:Az}(i:P.p=Tryz.prog){a b:List AR}(G:b.length<=9223372036854775807)(o:∀x∈b,x.CW.length<=9223372036854775807){q:AB}{K:V->Prop}(h:K (.d (.bool (decide (a=b))))):AU P 114 [.d (.AF 3 (a.map AR.enc)),.d (.AF 3 (b.map AR.enc)),.d (.fn 115 [] [])] q K:=by
 have u:∀{k n:Nat},k<n->n<=9223372036854775807->IntKind.i64.wrap ((k:Int)+1)=(k:Int)+1:=λz F=>IntWalk.i64_in _ (by omega);have y:∀x:AR,x.enc.sz=3:=λ_=>rfl;have w:∀x:AR,x.enc.shape.size=3:=λx=>by rw[CC];rfl
 have v:∀x:AR,x.enc.shape=(.agg [.AM [],.AT,iD 0]:D).shape:=λ_=>rfl;have j:Xd P.p 115=true:=by rw[i];exact Xpy
 refine AJ i AO (ds:=[.AF 3 (a.map AR.enc),.AF 3 (b.map AR.enc),.fn 115 [] []]) Y9d Y6k BD.nil ?_;by_cases g:a.length=b.length
 ·simp[Yqw,g];refine Ae.go (ι:=Nat) (λk=>[(1,.d (.AF 3 (b.map AR.enc))),(2,.d (.fn 115 [] [])),(15,.d (.AF 3 (a.map AR.enc))),(16,.d (.int .i64 b.length)),(17,.d (.int .i64 k))]) (λ_=>[]) (λk=>k<=b.length/\a.take k=b.take k) (λk=>b.length-k) 0 ⟨DM _,by simp⟩ (by simp) (by simp) ?_;rintro k ⟨H,l⟩ R s r t J;by_cases c:k<b.length
  ·have f:k<a.length:=by omega
   simp[yM,c,f,y,w,v,j];refine⟨rfl,rfl,rfl,rfl,rfl,?_⟩;refine(Xi5 i (o _ (CS c)) ?_).Bm;simp;refine⟨λe=>t _ _ ?_,λe=>s [] (k+1) _ _ ⟨by omega,?_⟩ (by omega) (by simp[u c (by omega)]) (by simp[AE]) (by simp[AE]) (by simp[AE])⟩
   ·simp;have ne:a≠b:=λh=>by subst h;exact e rfl
    rw[DX ne]at h;exact h
   ·rw[Ca f,Ca c,l,e]
  ·have:k=b.length:=by omega
   subst this;simp[yM];refine r _ _ _ ?_;simp;have e:a=b:=by rw[<-g,C0,g,C0]at l;exact l
   rw[En e]at h;exact h
 ·have m:¬(a.length:Int)=b.length:=by omega
  have e:a≠b:=λe=>g (by rw[e]);rw[DX e]at h;simp[Yqw,g];exact⟨λ_=>h,λh=>(m h).elim⟩
theorem Xw7:Xd Tryz.prog 210=true:=by kernel_rfl
theorem Xpq {P:Az}(i:P.p=Tryz.prog){a b:List Ax}(G:b.length<=9223372036854775807)(o:∀x∈b,x.BC){q:AB}{K:V->Prop}(h:K (.d (.bool (decide (a=b))))):AU P 209 [.d (.AF 4 (a.map Ax.enc)),.d (.AF 4 (b.map Ax.enc)),.d (.fn 210 [] [])] q K:=by
 have u:∀{k n:Nat},k<n->n<=9223372036854775807->IntKind.i64.wrap ((k:Int)+1)=(k:Int)+1:=λz F=>IntWalk.i64_in _ (by omega);have y:∀x:Ax,x.enc.sz=4:=λ_=>rfl;have w:∀x:Ax,x.enc.shape.size=4:=λx=>by rw[CC];rfl
 have v:∀x:Ax,x.enc.shape=(.agg [.AT,.AM [],.AT,iD 0]:D).shape:=λ_=>rfl;have j:Xd P.p 210=true:=by rw[i];exact Xw7
 refine AJ i AO (ds:=[.AF 4 (a.map Ax.enc),.AF 4 (b.map Ax.enc),.fn 210 [] []]) Zag Y7i BD.nil ?_;by_cases g:a.length=b.length
 ·simp[Yq0,g];refine Ae.go (ι:=Nat) (λk=>[(1,.d (.AF 4 (b.map Ax.enc))),(2,.d (.fn 210 [] [])),(15,.d (.AF 4 (a.map Ax.enc))),(16,.d (.int .i64 b.length)),(17,.d (.int .i64 k))]) (λ_=>[]) (λk=>k<=b.length/\a.take k=b.take k) (λk=>b.length-k) 0 ⟨DM _,by simp⟩ (by simp) (by simp) ?_;rintro k ⟨H,l⟩ R s r t J;by_cases c:k<b.length
  ·have f:k<a.length:=by omega
   simp[yn,c,f,y,w,v,j];refine⟨rfl,rfl,rfl,rfl,rfl,?_⟩;refine(Xmf i (o _ (CS c)) ?_).Bm;simp;refine⟨λe=>t _ _ ?_,λe=>s [] (k+1) _ _ ⟨by omega,?_⟩ (by omega) (by simp[u c (by omega)]) (by simp[AE]) (by simp[AE]) (by simp[AE])⟩
   ·simp;have ne:a≠b:=λh=>by subst h;exact e rfl
    rw[DX ne]at h;exact h
   ·rw[Ca f,Ca c,l,e]
  ·have:k=b.length:=by omega
   subst this;simp[yn];refine r _ _ _ ?_;simp;have e:a=b:=by rw[<-g,C0,g,C0]at l;exact l
   rw[En e]at h;exact h
 ·have m:¬(a.length:Int)=b.length:=by omega
  have e:a≠b:=λe=>g (by rw[e]);rw[DX e]at h;simp[Yq0,g];exact⟨λ_=>h,λh=>(m h).elim⟩
section
variable {P:Az} (hP:P.p=Tryz.prog)
include hP
set_option maxHeartbeats 2000000 in
theorem Xpt {x y:Ad}(F:y.type.names.length<=9223372036854775807){G:AB}{K:V->Prop}(h:K (.d (.bool (decide (x=y))))):AU P 208 [.d x.enc,.d y.enc] G K:=by
 refine AJ hP AO (ds:=[x.enc,y.enc]) Zaf Y7h BD.nil ?_;have e:∀x:Ad,(V.d x.enc).BM=some [.d (.AM x.name),.d x.type.enc,.d (.agg [iD x.w0,iD x.w1,iD x.w2,iD x.w3])]:=λ_=>rfl;have f:∀x:Ad,x.enc.sz=11:=λ_=>rfl;have g:∀x:Ad,x.enc.shape.size=11:=λx=>by rw[CC];rfl
 have i:∀x:A4,(V.d x.enc).BM=some [.d (iD x.kind),.d (iD x.lo),.d (iD x.hi),.d (.AM x.CF),.d (iD x.unit),.d (.AF 1 (x.names.map .AM))]:=λ_=>rfl;have j:∀x:A4,x.enc.sz=6:=λ_=>rfl;have k:∀x:A4,x.enc.shape.size=6:=λx=>by rw[CC];rfl
 have l:∀x:A4,x.enc.shape=.node [.AX,.AX,.AX,.AX,.AX,.AX]:=λ_=>rfl;have m:∀x:Ad,KT.Bk (.ar 4 (.int .i64)) (.agg [iD x.w0,iD x.w1,iD x.w2,iD x.w3])=true:=λ_=>rfl;have z:decide (x=y)=(decide (x.name=y.name)&&(decide (x.w0=y.w0)&&(decide (x.w1=y.w1)&&(decide (x.w2=y.w2)&&(decide (x.w3=y.w3)&&(decide (x.type.kind=y.type.kind)&&(decide (x.type.lo=y.type.lo)&&(decide (x.type.hi=y.type.hi)&&(decide (x.type.CF=y.type.CF)&&(decide (x.type.unit=y.type.unit)&&decide (x.type.names=y.type.names))))))))))):=by
  rw[Dl];obtain⟨a,⟨J,L,M,N,O,Q⟩,R,T,U,W⟩:=x;obtain⟨H,⟨X,Y,Z,d4,d5,d6⟩,g0,g1,g2,g3⟩:=y;simp;intro _;constructor<;>intro h<;>simp[h]
 rw[z]at h;by_cases c:x.name=y.name
 ·by_cases n:x.w0=y.w0
  ·by_cases o:x.w1=y.w1
   ·by_cases p:x.w2=y.w2
    ·by_cases q:x.w3=y.w3
     ·by_cases r:x.type.kind=y.type.kind
      ·by_cases s:x.type.lo=y.type.lo
       ·by_cases t:x.type.hi=y.type.hi
        ·by_cases u:x.type.CF=y.type.CF
         ·by_cases v:x.type.unit=y.type.unit
          ·simp[KD,e,f,g,i,j,k,l,m,c,n,o,p,q,r,s,t,u,v]at h⊢
           repeat' apply And.intro
           all_goals first|rfl|(refine ZX hP (a:=x.type.names) (b:=y.type.names) F ?_;simpa using h)
          ·have w:(x.type.unit==y.type.unit)=false:=by simpa using v
           simp[KD,e,f,g,i,j,k,l,m,c,n,o,p,q,r,s,t,u,v,w]at h⊢;exact⟨rfl,rfl,h⟩
         ·simp[KD,e,f,g,i,j,k,l,m,c,n,o,p,q,r,s,t,u]at h⊢;exact⟨rfl,rfl,h⟩
        ·simp[KD,e,f,g,i,j,k,l,m,c,n,o,p,q,r,s,t]at h⊢;exact⟨rfl,rfl,h⟩
       ·simp[KD,e,f,g,i,j,k,l,m,c,n,o,p,q,r,s]at h⊢;exact⟨rfl,rfl,h⟩
      ·simp[KD,e,f,g,i,j,k,l,m,c,n,o,p,q,r]at h⊢;exact⟨rfl,rfl,h⟩
     ·simp[KD,e,f,g,i,j,k,l,m,c,n,o,p,q]at h⊢;exact⟨rfl,rfl,h⟩
    ·simp[KD,e,f,g,i,j,k,l,m,c,n,o,p]at h⊢;exact⟨rfl,rfl,h⟩
   ·simp[KD,e,f,g,i,j,k,l,m,c,n,o]at h⊢;exact⟨rfl,rfl,h⟩
  ·simp[KD,e,f,g,i,j,k,l,m,c,n]at h⊢;exact⟨rfl,rfl,h⟩
 ·simp[KD,e,f,g,i,j,k,l,m,c]at h⊢;exact⟨rfl,rfl,h⟩
end
theorem AV.P7 {P:Az}{f g:Nat}{a b:V}{m:AB}{K:A7->AB->Prop}(h:AV P f [a,b,.d (.fn g [] [])] m K):AV P f [a,b,.fn g [] []] m K:=⟨λw z i t s l=>h.run w z i t s (by
 simp only[V.A1]at l⊢;obtain⟨u,y,e,p,v,j,n,q,x,k,o,c,r⟩:=l;refine⟨u,y,e,p,v,j,n,q,x,k,o,?_,r⟩;rcases c with c|c|⟨_,c⟩
 ·cases c
 ·exact absurd c.1 (by simp[V.isAgg])
 ·exact .inr (.inr ⟨rfl,by simpa[V.Ac,D.An,V.A1,E6]using c⟩))⟩
theorem X0y:Xd Tryz.prog 208=true:=by kernel_rfl
theorem Xw2 {P:Az}(i:P.p=Tryz.prog){a b:List Ad}(G:b.length<=9223372036854775807)(o:∀x∈b,x.type.names.length<=9223372036854775807){q:AB}{K:V->Prop}(h:K (.d (.bool (decide (a=b))))):AU P 207 [.d (.AF 11 (a.map Ad.enc)),.d (.AF 11 (b.map Ad.enc)),.d (.fn 208 [] [])] q K:=by
 have u:∀{k n:Nat},k<n->n<=9223372036854775807->IntKind.i64.wrap ((k:Int)+1)=(k:Int)+1:=λz F=>IntWalk.i64_in _ (by omega);have y:∀x:Ad,x.enc.sz=11:=λ_=>rfl;have w:∀x:Ad,x.enc.shape.size=11:=λx=>by rw[CC];rfl
 have v:∀x:Ad,x.enc.shape=(.agg [.AM [],.agg [iD 0,iD 0,iD 0,.AM [],iD 0,.AT],.agg [iD 0,iD 0,iD 0,iD 0]]:D).shape:=λ_=>rfl;have j:Xd P.p 208=true:=by rw[i];exact X0y
 refine AJ i AO (ds:=[.AF 11 (a.map Ad.enc),.AF 11 (b.map Ad.enc),.fn 208 [] []]) Zae Y7g BD.nil ?_;by_cases g:a.length=b.length
 ·simp[Yqz,g];refine Ae.go (ι:=Nat) (λk=>[(1,.d (.AF 11 (b.map Ad.enc))),(2,.d (.fn 208 [] [])),(15,.d (.AF 11 (a.map Ad.enc))),(16,.d (.int .i64 b.length)),(17,.d (.int .i64 k))]) (λ_=>[]) (λk=>k<=b.length/\a.take k=b.take k) (λk=>b.length-k) 0 ⟨DM _,by simp⟩ (by simp) (by simp) ?_;rintro k ⟨H,l⟩ R s r t J;by_cases c:k<b.length
  ·have f:k<a.length:=by omega
   simp[ym,c,f,y,w,v,j];refine⟨rfl,rfl,rfl,rfl,rfl,?_⟩;refine(Xpt i (o _ (CS c)) ?_).Bm;simp;refine⟨λe=>t _ _ ?_,λe=>s [] (k+1) _ _ ⟨by omega,?_⟩ (by omega) (by simp[u c (by omega)]) (by simp[AE]) (by simp[AE]) (by simp[AE])⟩
   ·simp;have ne:a≠b:=λh=>by subst h;exact e rfl
    rw[DX ne]at h;exact h
   ·rw[Ca f,Ca c,l,e]
  ·have:k=b.length:=by omega
   subst this;simp[ym];refine r _ _ _ ?_;simp;have e:a=b:=by rw[<-g,C0,g,C0]at l;exact l
   rw[En e]at h;exact h
 ·have m:¬(a.length:Int)=b.length:=by omega
  have e:a≠b:=λe=>g (by rw[e]);rw[DX e]at h;simp[Yqz,g];exact⟨λ_=>h,λh=>(m h).elim⟩
section
variable {P:Az} (hP:P.p=Tryz.prog)
include hP
theorem Xmg {x y:AI}(g:y.BC){o:AB}{K:V->Prop}(h:K (.d (.bool (decide (x=y))))):AU P 109 [.d x.enc,.d y.enc] o K:=by
 refine AJ hP AO (ds:=[x.enc,y.enc]) Y88 Y6f BD.nil ?_;have a:∀x:AI,(V.d x.enc).BM=some [.d (.AM x.name),.d (.AM x.FJ),.d (iD x.Bz),.d (iD x.BT),.d (.AF 11 (x.AL.map Ad.enc)),.d (.AF 4 (x.Aj.map Ax.enc))]:=λ_=>rfl;have c:∀x:AI,x.enc.sz=6:=λ_=>rfl;have e:∀x:AI,x.enc.shape.size=6:=λx=>by rw[CC];rfl
 have n:decide (x=y)=(decide (x.name=y.name)&&(decide (x.FJ=y.FJ)&&(decide (x.Bz=y.Bz)&&(decide (x.BT=y.BT)&&(decide (x.AL=y.AL)&&decide (x.Aj=y.Aj)))))):=by
  rw[Dl];cases x;cases y;simp
 rw[n]at h;by_cases b:x.name=y.name
 ·by_cases f:x.FJ=y.FJ
  ·by_cases i:x.Bz=y.Bz
   ·by_cases j:x.BT=y.BT
    ·simp[SW,a,c,e,b,f,i,j]at h⊢;refine AV.P7 (Xw2 hP g.AL g.names ?_).Bm;by_cases l:x.AL=y.AL
     ·simp[l,a]at h⊢;refine AV.P7 (Xpq hP g.Aj g.L6 ?_).Bm;by_cases m:x.Aj=y.Aj
      ·simpa[m,a]using h
      ·simpa[m,a]using h
     ·simpa[l,a]using h
    ·have k:(x.BT==y.BT)=false:=by simpa using j
     simpa[SW,a,c,e,b,f,i,j,k]using h
   ·simpa[SW,a,c,e,b,f,i]using h
  ·simpa[SW,a,c,e,b,f]using h
 ·simpa[SW,a,c,e,b]using h
end
theorem Xw8:Xd Tryz.prog 109=true:=by kernel_rfl
theorem Xpr {P:Az}(i:P.p=Tryz.prog){a b:List AI}(G:b.length<=9223372036854775807)(o:∀x∈b,x.BC){q:AB}{K:V->Prop}(h:K (.d (.bool (decide (a=b))))):AU P 108 [.d (.AF 6 (a.map AI.enc)),.d (.AF 6 (b.map AI.enc)),.d (.fn 109 [] [])] q K:=by
 have u:∀{k n:Nat},k<n->n<=9223372036854775807->IntKind.i64.wrap ((k:Int)+1)=(k:Int)+1:=λz F=>IntWalk.i64_in _ (by omega);have y:∀x:AI,x.enc.sz=6:=λ_=>rfl;have w:∀x:AI,x.enc.shape.size=6:=λx=>by rw[CC];rfl
 have v:∀x:AI,x.enc.shape=(.agg [.AM [],.AM [],iD 0,iD 0,.AT,.AT]:D).shape:=λ_=>rfl;have j:Xd P.p 109=true:=by rw[i];exact Xw8
 refine AJ i AO (ds:=[.AF 6 (a.map AI.enc),.AF 6 (b.map AI.enc),.fn 109 [] []]) Y87 Y6e BD.nil ?_;by_cases g:a.length=b.length
 ·simp[Yqt,g];refine Ae.go (ι:=Nat) (λk=>[(1,.d (.AF 6 (b.map AI.enc))),(2,.d (.fn 109 [] [])),(15,.d (.AF 6 (a.map AI.enc))),(16,.d (.int .i64 b.length)),(17,.d (.int .i64 k))]) (λ_=>[]) (λk=>k<=b.length/\a.take k=b.take k) (λk=>b.length-k) 0 ⟨DM _,by simp⟩ (by simp) (by simp) ?_;rintro k ⟨H,l⟩ R s r t J;by_cases c:k<b.length
  ·have f:k<a.length:=by omega
   simp[yJ,c,f,y,w,v,j];refine⟨rfl,rfl,rfl,rfl,rfl,?_⟩;refine(Xmg i (o _ (CS c)) ?_).Bm;simp;refine⟨λe=>t _ _ ?_,λe=>s [] (k+1) _ _ ⟨by omega,?_⟩ (by omega) (by simp[u c (by omega)]) (by simp[AE]) (by simp[AE]) (by simp[AE])⟩
   ·simp;have ne:a≠b:=λh=>by subst h;exact e rfl
    rw[DX ne]at h;exact h
   ·rw[Ca f,Ca c,l,e]
  ·have:k=b.length:=by omega
   subst this;simp[yJ];refine r _ _ _ ?_;simp;have e:a=b:=by rw[<-g,C0,g,C0]at l;exact l
   rw[En e]at h;exact h
 ·have m:¬(a.length:Int)=b.length:=by omega
  have e:a≠b:=λe=>g (by rw[e]);rw[DX e]at h;simp[Yqt,g];exact⟨λ_=>h,λh=>(m h).elim⟩
section
variable {P:Az} (hP:P.p=Tryz.prog)
include hP
theorem Ysk {x y:Ah}(e:y.BC){p:AB}{K:V->Prop}(h:K (.d (.bool (decide (x=y))))):AU P 45 [.d x.enc,.d y.enc] p K:=by
 refine AJ hP AO (ds:=[x.enc,y.enc]) Znr Zjx BD.nil ?_;have c:∀x:Ah,(V.d x.enc).BM=some [.d (.AF 1 (x.Al.map .AM)),.d (.AF 5 (x.Au.map At.enc)),.d (.AF 6 (x.AD.map AI.enc)),.d (.AF 5 (x.AK.map Ai.enc)),.d (.AF 5 (x.AQ.map Ag.enc)),.d (.AF 3 (x.AN.map AR.enc))]:=λ_=>rfl;have n:∀x:Ah,x.enc.sz=6:=λ_=>rfl;have o:∀x:Ah,x.enc.shape.size=6:=λx=>by rw[CC];rfl
 have m:decide (x=y)=(decide (x.Al=y.Al)&&(decide (x.Au=y.Au)&&(decide (x.AD=y.AD)&&(decide (x.AK=y.AK)&&(decide (x.AQ=y.AQ)&&decide (x.AN=y.AN)))))):=by
  rw[Dl];cases x;cases y;simp
 rw[m]at h;simp[Zg8,c,n,o]at h⊢;refine ZX hP (a:=x.Al) (b:=y.Al) e.Al ?_;by_cases f:x.Al=y.Al
 ·simp[f,c]at h⊢;refine X90 hP e.Au ?_;by_cases g:x.Au=y.Au
  ·simp[g,c]at h⊢;refine AV.P7 (Xpr hP e.AD e.AP ?_).Bm;by_cases i:x.AD=y.AD
   ·simp[i,c]at h⊢;refine AV.P7 (X0h hP e.AK e.FN ?_).Bm;by_cases j:x.AK=y.AK
    ·simp[j,c]at h⊢;refine AV.P7 (Xmd hP e.AQ e.Ap ?_).Bm;by_cases k:x.AQ=y.AQ
     ·simp[k,c]at h⊢;refine AV.P7 (Xme hP e.AN e.CW ?_).Bm;by_cases l:x.AN=y.AN
      ·simpa[l,c]using h
      ·simpa[l,c]using h
     ·simpa[k,c]using h
    ·simpa[j,c]using h
   ·simpa[i,c]using h
  ·simpa[g,c]using h
 ·simpa[f,c]using h
end
section
variable {P:Az} (hP:P.p=Tryz.prog)
include hP
theorem Xpu:Xd P.p 32=true:=by rw[hP];kernel_rfl
theorem Yi3:Xd P.p 63=true:=by rw[hP];kernel_rfl
abbrev MB (c:D)(o1 o0:Ob):AB:=[(2,.box 91 (.d (.fn 32 [c] []))),(1,o1),(0,o0)]
theorem Yr3 {y:Ah}{x:AI}(f:x.BC){c b:Ob}{K:A7->AB->Prop}(h:K (.ret (.d (.bool (!X2 y x)))) (MB (.agg [y.enc]) c b)):AV P 63 [.d x.enc,.ptr 2 []] (MB (.agg [y.enc]) c b) K:=by
 refine Aq hP AO Zn7 Zkd BD.nil λ_ e=>?_;simp[Zhj,Xpu hP];have a:=e [];simp[fresh]at a;refine⟨⟨by rw[CC];rfl,rfl⟩,AU.Bm (Xw5 hP f ?_)⟩;simp;refine⟨[],by simp,?_,?_⟩
 ·simp[AE];simpa[AE]using a
 ·simpa[AE]using h
theorem Yrx {y:Ah}{l:List AI}(p:l.length<=9223372036854775807)(r:∀x∈l,x.BC){g f:Ob}{K:A7->AB->Prop}(h:K (.ret (.d (.int .i64 (Q8 (λx=>!X2 y x) l 0)))) (MB (.agg [y.enc]) g f)):AV P 68 [.d (.AF 6 (l.map AI.enc)),.fn 63 [] [.ptr 2 []]] (MB (.agg [y.enc]) g f) K:=by
 have w:∀{k n:Nat},k<n->n<=9223372036854775807->IntKind.i64.wrap ((k:Int)+1)=(k:Int)+1:=λj m=>IntWalk.i64_in _ (by omega);refine Aq hP AO Zf3 Zc4 BD.nil λ_ q=>?_;have b:=q [];simp[fresh]at b;have o:∀{v:V},BO (AE 3 []) [v]=false->K (.ret v) (MB (.agg [y.enc]) g f)->X0 3 (K (.ret v)) [v] (MB (.agg [y.enc]) g f):=λj m=>⟨[],j,by simpa[AE]using b,by simpa[AE]using m⟩;simp[Zbl];refine Ae.go (ι:=Nat) (λk=>[(0,.d (.AF 6 (l.map AI.enc))),(1,.fn 63 [] [.ptr 2 []]),(7,.d (.int .i64 l.length)),(8,.d (.int .i64 k))]) (λ_=>MB (.agg [y.enc]) g f) (λk=>k<=l.length/\Q8 (λx=>!X2 y x) l 0=Q8 (λx=>!X2 y x) (l.drop k) k) (λk=>l.length-k) 0 ⟨DM _,rfl⟩ (by simp) (by simp) ?_;rintro k ⟨z,c⟩ R t s u F;by_cases a:k<l.length
 ·rw[Db a]at c;simp[VL,a,Yi3 hP];refine⟨⟨rfl,rfl⟩,Yr3 hP (r _ (CS a)) ?_⟩;cases e:X2 y l[k]with
  |false=>
   simp[VM];refine u _ _ ?_;simp;have i:=h;rw[c,Q8,BL (by simp[e])]at i;exact o (by simp) i
  |true=>
   rw[Q8,Af (by simp[e])]at c;simp[VM,Xzm];refine t [] (k+1) _ _ ⟨by omega,c⟩ (by omega) (by simp[w a p]) (by simp[AE]) (by simp[AE]) (by simpa[AE]using b)
 ·have:k=l.length:=by omega
  subst this;simp[VL];refine s _ _ _ ?_;simp;rw[c,List.drop_length,Q8]at h;exact o (by simp) h
theorem Yrs {y:Ah}{l:List AI}(e:l.length<=9223372036854775807)(g:∀x∈l,x.BC){c b:Ob}{K:A7->AB->Prop}(h:K (.ret (.d (.bool (l.any λx=>!X2 y x)))) (MB (.agg [y.enc]) c b)):AV P 62 [.d (.AF 6 (l.map AI.enc)),.fn 63 [] [.ptr 2 []]] (MB (.agg [y.enc]) c b) K:=by
 refine Aq hP AO Zn6 Zkc BD.nil λ_ f=>?_;have a:=f [];simp[fresh]at a;simp[Zhi];refine Yrx hP e g ?_;simp;rw[Q9];exact⟨[],by simp,by simpa[AE]using a,by simpa[AE]using h⟩
theorem Yrm {y:Ah}{l:List AI}(f:l.length<=9223372036854775807)(i:∀x∈l,x.BC){c b:Ob}{K:A7->AB->Prop}(h:K (.ret (.d (.bool (l.all (X2 y))))) [(1,c),(0,b)]):AV P 31 [.d (.AF 6 (l.map AI.enc)),.d (.fn 32 [.agg [y.enc]] [])] [(1,c),(0,b)] K:=by
 refine Aq hP AO Znh Zjn BD.nil λ_ g=>?_;have a:=g [];simp[fresh]at a;simp[Zg1];refine Yrs hP f i ?_;have e:(!(l.any λx=>!X2 y x))=l.all (X2 y):=by simp[List.all_eq_not_any_not]
 simp;refine⟨[],by simp,by simpa[AE]using a,?_⟩;simpa[AE,e]using h
end
end Go.Ab
