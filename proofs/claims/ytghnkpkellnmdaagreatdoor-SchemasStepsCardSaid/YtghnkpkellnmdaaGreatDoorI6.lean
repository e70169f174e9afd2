/- Joined texts, part 6 of 13. A round of a range Xfy a function, by its body. Over any program; no condition. -/
import Derived.Test.YtghnkpkellnmdaaGreatDoorI3
import Derived.Test.YtghnkpkellnmdaaGreatDoorI4
import Derived.Test.YtghnkpkellnmdaaGreatDoorI5
import Derived.Test.YtghnkpkellnmdaaGreatDoorProg
import Derived.KernelRfl
import Derived.Shelf.Strings.Builder1
import Derived.Shelf.Strconv.Itoa0
import Derived.Shelf.Strconv.Itoa1
import Derived.Shelf.LaysM
import Derived.Shelf.Strconv.Itoa2
import Derived.Shelf.Strconv.Itoa3
import Derived.Shelf.Strings.Search1
import Derived.Shelf.Strings.Search2
import Derived.Shelf.Strings.Search3
import Derived.Shelf.Strings.Shaped
set_option maxRecDepth 100000
set_option linter.unusedSimpArgs false
set_option linter.unusedVariables false
set_option linter.unusedSectionVars false
set_option linter.defProp false
namespace Go.Ab
open Go Go.Proofs
open Go.Proofs.Tryz (prog)
variable {P:BA}(hP:P.p=prog)
section
attribute [local simp] Ca B7
attribute [local simp ↓] ql qn qo qi qh qj qk qm wg zy we wh wc zt zu zr zx zw qq qp qy qz zn zb qx qr zo qw qv qt zd zi zf zj zl zm wo wj wq wp qb qa qd qc qe qg qf zq zp
section
variable {P:BA} (hPp:P.p=prog) {ob:AF} {p:Nat} {ts:List BH} {en:Int} {S:V} (hS:CA [S]=none) (hp:AB ob p=some (pb ts en S)) {K:BN->AF->Prop}
include hPp hS hp
theorem QS(b:Ep P)(h:PK K ob p en S (λx=>.d x.enc) (MK ts)):AX P 170 [.ptr p []] ob K:=by
 refine AY hPp AQ Zdd Y9j A4.nil λ_ c=>?_;simp[Y52,hp,hS,b.AV,b.AN,b.As,b.AP,b.A6];refine L0 hPp hS (ts:=ts) (en:=en) (S:=S) (by simp[hp]) _ _ ?_;cases f:Xz 2 [] ts with
 |false=>
  simp only[MK,f,BO,Bs]at h;simp[hp,hS,b.A6];refine nC hPp hS (by simp[hp]) (PK.bind h (λts' e h=>?_) (λa ts' g h=>?_))
  ·simp;exact Xc hp c h (by simp) (by simp[hp])
  simp[hp,hS,b.AV,b.AN,b.As,b.AP,b.A6];exact Xc hp c h (by simp) (by simp[hp])
 |true=>
  simp only[MK,f,Bu]at h;simp[hp,hS,b.A6];refine Z6 hPp hS (by simp[hp]) _ _ (PK.bind h (λts' e h=>?_) (λa ts' g h=>?_))
  ·simp;exact Xc hp c h (by simp) (by simp[hp])
  simp[hp,hS,b.AV,b.AN,b.As,b.AP,b.A6];exact Xc hp c h (by simp) (by simp[hp])
theorem Yui(b:Ep P)(h:PK K ob p en S (λx=>.d x.enc) (NM ts)):AX P 81 [.ptr p []] ob K:=by
 refine AY hPp AQ Ztl Zqf A4.nil λ_ c=>?_;simp[Zn3,hp,hS,b.AV,b.AN,b.As,b.AP,b.A6];refine Ws hPp hS (by simp[hp]) _ (PK.bind h (λts' e h=>?_) (λa ts' f h=>?_))
 ·simp;exact Xc hp c h (by simp) (by simp[hp])
 simp[hp,hS,b.AV,b.AN,b.As,b.AP,b.A6];refine QS hPp hS (by simp[hp]) b (PK.bind h (λts' e h=>?_) (λa ts' f h=>?_))
 ·simp;exact Xc hp c h (by simp) (by simp[hp])
 simp[hp,hS,b.AV,b.AN,b.As,b.AP,b.A6];rw[YK,Yc]at h;refine Zq hPp hS (by simp[hp]) _ _ (PK.bind h (λts' e h=>?_) (λa ts' f h=>?_))
 ·simp;exact Xc hp c h (by simp) (by simp[hp])
 cases a
 ·skip
  simp only[BO,Bs,Bu,Yc,Y6]at h;simp[hp,hS,b.AV,b.AN,b.As,b.AP,b.A6];refine Zq hPp hS (by simp[hp]) _ _ (PK.bind h (λts' e h=>?_) (λa ts' f h=>?_))
  ·simp;exact Xc hp c h (by simp) (by simp[hp])
  cases a
  ·skip
   simp only[BO,Bs,Bu,Yc,Y6]at h;simp[hp,hS,b.AV,b.AN,b.As,b.AP,b.A6];refine Yx hPp hS (by simp[hp]) _ (PK.bind h (λts' e h=>?_) (λa ts' f h=>?_))
   ·simp;exact Xc hp c h (by simp) (by simp[hp])
   simp[hp,hS,b.AV,b.AN,b.As,b.AP,b.A6];refine Yx hPp hS (by simp[hp]) _ (PK.bind h (λts' e h=>?_) (λa ts' f h=>?_))
   ·simp;exact Xc hp c h (by simp) (by simp[hp])
   simp[hp,hS,b.AV,b.AN,b.As,b.AP,b.A6,WM];refine QS hPp hS (by simp[hp]) b (PK.bind h (λts' e h=>?_) (λa ts' f h=>?_))
   ·simp;exact Xc hp c h (by simp) (by simp[hp])
   simp[hp,hS,b.AV,b.AN,b.As,b.AP,b.A6];refine Yx hPp hS (by simp[hp]) _ (PK.bind h (λts' e h=>?_) (λa ts' f h=>?_))
   ·simp;exact Xc hp c h (by simp) (by simp[hp])
   simp[hp,hS,b.AV,b.AN,b.As,b.AP,b.A6];exact Xc hp c h (by simp) (by simp[hp])
  ·skip
   simp only[BO,Bs,Bu,Yc,Y6]at h;simp[hp,hS,b.AV,b.AN,b.As,b.AP,b.A6];refine Zq hPp hS (by simp[hp]) _ _ (PK.bind h (λts' e h=>?_) (λa ts' f h=>?_))
   ·simp;exact Xc hp c h (by simp) (by simp[hp])
   cases a
   ·skip
    simp only[BO,Bs,Bu,Yc,Y6]at h;simp[hp,hS,b.AV,b.AN,b.As,b.AP,b.A6,WM];refine QS hPp hS (by simp[hp]) b (PK.bind h (λts' e h=>?_) (λa ts' f h=>?_))
    ·simp;exact Xc hp c h (by simp) (by simp[hp])
    simp[hp,hS,b.AV,b.AN,b.As,b.AP,b.A6];refine Yx hPp hS (by simp[hp]) _ (PK.bind h (λts' e h=>?_) (λa ts' f h=>?_))
    ·simp;exact Xc hp c h (by simp) (by simp[hp])
    simp[hp,hS,b.AV,b.AN,b.As,b.AP,b.A6];exact Xc hp c h (by simp) (by simp[hp])
   ·skip
    simp only[BO,Bs,Bu,Yc,Y6]at h;simp[hp,hS,b.AV,b.AN,b.As,b.AP,b.A6,WM];refine QS hPp hS (by simp[hp]) b (PK.bind h (λts' e h=>?_) (λa ts' f h=>?_))
    ·simp;exact Xc hp c h (by simp) (by simp[hp])
    simp[hp,hS,b.AV,b.AN,b.As,b.AP,b.A6];refine Yx hPp hS (by simp[hp]) _ (PK.bind h (λts' e h=>?_) (λa ts' f h=>?_))
    ·simp;exact Xc hp c h (by simp) (by simp[hp])
    simp[hp,hS,b.AV,b.AN,b.As,b.AP,b.A6];exact Xc hp c h (by simp) (by simp[hp])
 ·skip
  simp only[BO,Bs,Bu,Yc,Y6]at h;simp[hp,hS,b.AV,b.AN,b.As,b.AP,b.A6,WM];refine QS hPp hS (by simp[hp]) b (PK.bind h (λts' e h=>?_) (λa ts' f h=>?_))
  ·simp;exact Xc hp c h (by simp) (by simp[hp])
  simp[hp,hS,b.AV,b.AN,b.As,b.AP,b.A6];refine Yx hPp hS (by simp[hp]) _ (PK.bind h (λts' e h=>?_) (λa ts' f h=>?_))
  ·simp;exact Xc hp c h (by simp) (by simp[hp])
  simp[hp,hS,b.AV,b.AN,b.As,b.AP,b.A6];exact Xc hp c h (by simp) (by simp[hp])
theorem Zfo(b:Ep P)(h:PK K ob p en S (λx=>.d x.enc) (Nk ts)):AX P 83 [.ptr p []] ob K:=by
 refine AY hPp AQ Ztn Zqh A4.nil λ_ c=>?_;simp[Zn5,hp,hS,b.AV,b.AN,b.As,b.AP,b.A6];refine Ws hPp hS (by simp[hp]) _ (PK.bind h (λts' e h=>?_) (λa ts' f h=>?_))
 ·simp;exact Xc hp c h (by simp) (by simp[hp])
 simp[hp,hS,b.AV,b.AN,b.As,b.AP,b.A6];refine Zt hPp hS (by simp[hp]) (PK.bind h (λts' e h=>?_) (λa ts' f h=>?_))
 ·simp;exact Xc hp c h (by simp) (by simp[hp])
 simp[hp,hS,b.AV,b.AN,b.As,b.AP,b.A6];refine Yx hPp hS (by simp[hp]) _ (PK.bind h (λts' e h=>?_) (λa ts' f h=>?_))
 ·simp;exact Xc hp c h (by simp) (by simp[hp])
 simp[hp,hS,b.AV,b.AN,b.As,b.AP,b.A6];refine QS hPp hS (by simp[hp]) b (PK.bind h (λts' e h=>?_) (λa ts' f h=>?_))
 ·simp;exact Xc hp c h (by simp) (by simp[hp])
 simp[hp,hS,b.AV,b.AN,b.As,b.AP,b.A6];refine Yx hPp hS (by simp[hp]) _ (PK.bind h (λts' e h=>?_) (λa ts' f h=>?_))
 ·simp;exact Xc hp c h (by simp) (by simp[hp])
 simp[hp,hS,b.AV,b.AN,b.As,b.AP,b.A6];exact Xc hp c h (by simp) (by simp[hp])
theorem yu(g:Ep P)(h:PK K ob p en S (λl=>.d (.agg (l.map iD))) (Qw ts)):AX P 73 [.ptr p []] ob K:=by
 refine AY hPp AQ Ztd Zp7 A4.nil λ_ b=>?_;simp[Znw,hp,hS];refine Au.go (ι:=List Int×List BH) (λj=>[(0,.ptr p []),(2,.ptr (AA ob) []),(4,.d (.int .i64 j.1.length))])
  (λj=>(AA ob,.box 156 (.d (.agg (j.1.map iD++List.replicate (4-j.1.length) (iD 0)))))::AG ob p (pb j.2 en S))
  (λj=>j.1.length<=4/\PK K ob p en S (λl=>.d (.agg (l.map iD))) ((GN (4-j.1.length) >>= λl=>pure (j.1++l)) j.2)) (λj=>4-j.1.length) ([],ts) ⟨by simp,?_⟩ (by simp) (by simp[Yd hp]) ?_
 ·simp only[Qw]at h;simp only[List.length_nil,Nat.sub_zero,List.nil_append];rw[Xo];cases t:GN 4 ts with
  |ok a ts'=>rw[t]at h;exact h
  |Bi ts' e=>rw[t]at h;exact h
 rintro⟨l,v⟩ ⟨r,h⟩ R i u x k;have m:IntKind.i64.wrap 1=1:=by decide
 have n:IntKind.i64.wrap 2=2:=by decide
 have o:IntKind.i64.wrap 3=3:=by decide
 have w4:IntKind.i64.wrap 4=4:=by decide
 match l,r with
 |[],_=>
  simp[Sd,hp,hS,g.AP];simp[GN,Yc,Y6]at h;refine Z6 hPp hS (by simp[hp]) _ _ (PK.bind h (λts' e h=>?_) (λa ts' q h=>?_))
  ·simp;refine k _ _ _ ?_;simp;exact Xc hp b h (by simp) (by simp[hp])
  simp[hp,hS,m,n,o,w4];refine i [] ([a],ts') _ _ ⟨by simp,by simpa[GN,Yc,Y6]using h⟩ (by simp) (by simp) (by simp[hp]) (by simp[hp]) ?_;simp;refine Af _ _ _ _ _ (Xm _ b) ?_;have:=xQ (Xm 1 (l:=[]) b) hp;simpa[pv]using this
 |[c],_=>
  simp[Sd,hp,hS,g.AP];simp[GN,Yc,Y6]at h;refine Z6 hPp hS (by simp[hp]) _ _ (PK.bind h (λts' e h=>?_) (λa ts' q h=>?_))
  ·simp;refine k _ _ _ ?_;simp;exact Xc hp b h (by simp) (by simp[hp])
  simp[hp,hS,m,n,o,w4];refine i [] ([c,a],ts') _ _ ⟨by simp,by simpa[GN,Yc,Y6]using h⟩ (by simp) (by simp) (by simp[hp]) (by simp[hp]) ?_;simp;refine Af _ _ _ _ _ (Xm _ b) ?_;have:=xQ (Xm 1 (l:=[]) b) hp;simpa[pv]using this
 |[c,f],_=>
  simp[Sd,hp,hS,g.AP];simp[GN,Yc,Y6]at h;refine Z6 hPp hS (by simp[hp]) _ _ (PK.bind h (λts' e h=>?_) (λa ts' q h=>?_))
  ·simp;refine k _ _ _ ?_;simp;exact Xc hp b h (by simp) (by simp[hp])
  simp[hp,hS,m,n,o,w4];refine i [] ([c,f,a],ts') _ _ ⟨by simp,by simpa[GN,Yc,Y6]using h⟩ (by simp) (by simp) (by simp[hp]) (by simp[hp]) ?_;simp;refine Af _ _ _ _ _ (Xm _ b) ?_;have:=xQ (Xm 1 (l:=[]) b) hp;simpa[pv]using this
 |[c,f,s],_=>
  simp[Sd,hp,hS,g.AP];simp[GN,Yc,Y6]at h;refine Z6 hPp hS (by simp[hp]) _ _ (PK.bind h (λts' e h=>?_) (λa ts' q h=>?_))
  ·simp;refine k _ _ _ ?_;simp;exact Xc hp b h (by simp) (by simp[hp])
  simp[hp,hS,m,n,o,w4];refine i [] ([c,f,s,a],ts') _ _ ⟨by simp,by simpa[GN,Yc,Y6]using h⟩ (by simp) (by simp) (by simp[hp]) (by simp[hp]) ?_;simp;refine Af _ _ _ _ _ (Xm _ b) ?_;have:=xQ (Xm 1 (l:=[]) b) hp;simpa[pv]using this
 |[c,f,s,w],_=>
  simp[Sd,hp,hS];simp[GN,Yc,Y6]at h;refine u _ _ _ ?_;simp[hp,hS];exact Xc hp b h (by simp) (by simp[hp])
 |_::_::_::_::_::_,r=>simp at r
end
attribute [local simp] Ca B7
attribute [local simp ↓] ql qn qo qi qh qj qk qm wg zy we wh wc zt zu zr zx zw qq qp qy qz zn zb qx qr zo qw qv qt zd zi zf zj zl zm wo wj wq wp qb qa qd qc qe qg qf zq zp
section
variable {P:BA} (hPp:P.p=prog) {ob:AF} {p:Nat} {ts:List BH} {en:Int} {S:V} (hS:CA [S]=none) (hp:AB ob p=some (pb ts en S)) {K:BN->AF->Prop}
include hPp hS hp
omit hS in
theorem Sb(t:B)(x:Nat)(b:AA ob=x)(h:K (.ret (.fn 168 [] [.ptr x [],.ptr (x+1) []])) ((x+1,.box 9 (.d (.AU t)))::(x,.box 62 (.ptr p []))::ob)):AX P 78 [.ptr p [],.d (.AU t)] ob K:=by
 subst b;refine AY hPp AQ Zti Zqc A4.nil λ_ a=>?_;simp[Zn0,hp];refine⟨[AA ob,AA ob+1],by simp[AD],?_,?_⟩
 ·have:=Xi hp;simp[AD,hp,a,this]
 ·simpa[AD,hp]using h
theorem J8{t:B}{a b:Nat}(c:AB ob a=some (.box 62 (.ptr p [])))(e:AB ob b=some (.box 9 (.d (.AU t))))(h:K (.ret (.d (.bool (Xz 1 t ts)))) (AG ob p (pb ts en S))):AX P 168 [.ptr a [],.ptr b []] ob K:=by
 refine AY hPp AQ Zdb Y9h A4.nil λ_ f=>?_;simp[Y50,hp,c,e];refine L0 hPp hS hp _ _ ?_;simp[hp];exact Xc hp f h (by simp) (by simp[hp])
theorem Yud{Q:Type}{enc:Q->D}(N:∀a,(enc a).shape=.node [.AR,.AR,.AR,.node [.AR,.AR,.AR,.AR,.AR]])(c:List BH->Bool)(f:M Q)(b:Nat)(G:b<=1000)(w z:Nat)(k i s r:List V)(F:Xd P.p w=true)(L:Xd P.p z=true)
 (x:Nat) (hx:AA ob=x) (Z:∀(ts:List BH)(o:Ob)(K:BN->AF->Prop),K (.ret (.d (.bool (c ts)))) ((x,o)::AG ob p (pb ts en S))->AX P w (k++i) ((x,o)::AG ob p (pb ts en S)) K)
 (y:∀(ts:List BH)(o:Ob)(K:BN->AF->Prop),PK K ((x,o)::AG ob p (pb ts en S)) p en S (λa=>.d (enc a)) (f ts)->AX P z (s++r) ((x,o)::AG ob p (pb ts en S)) K)
 (h:PK K ob p en S (λl=>.d (.AH 8 (l.map enc))) (X7 c f b ts)):AX P 77 [.ptr p [],.d (.int .i64 b),.fn w k i,.fn z s r] ob K:=by
 subst hx;refine AY hPp AQ Zth Zqb A4.nil λhv u=>?_;have v:=Ix (p:=AD (AA ob+1) []) (q:=AD (AA ob) []) (λj e=>by simp[AD]at e⊢;omega) _ (hv []);simp at v;simp[Znz,hp,hS];refine Au.go (ι:=List Q×List BH) (λj=>[(0,.ptr p []),(1,.d (.int .i64 b)),(2,.fn w k i),(3,.fn z s r),(8,.sl (AA ob) j.1.length)])
  (λj=>(AA ob,.BG 168 8 (j.1.map enc))::AG ob p (pb j.2 en S))
  (λj=>j.1.length<=b/\PK K ob p en S (λl=>.d (.AH 8 (l.map enc))) ((X7 c f (b-j.1.length) >>= λl=>pure (j.1++l)) j.2)) (λj=>b-j.1.length) ([],ts) ⟨by simp,?_⟩ (by simp) (by simp[Yd hp]) ?_
 ·simp only[List.length_nil,Nat.sub_zero,List.nil_append];rw[Xo];cases y:X7 c f b ts with
  |ok a ts'=>rw[y]at h;exact h
  |Bi ts' e=>rw[y]at h;exact h
 rintro⟨l,g⟩ ⟨hl,h⟩ R W re rr X;dsimp only at hl h W;simp[Yoe,hp,hS,F];refine Z _ _ _ ?_;cases m:c g with
 |false=>
  simp[hp,hS];refine re _ _ _ ?_;have Y:PK K ob p en S (λl=>.d (.AH 8 (l.map enc))) (.ok l g):=by
   rw[Xo]at h;cases H:b-l.length<;>simpa[H,X7,m]using h
  simp[hp,hS];exact Xc hp u Y (by simp) (by simp[hp])
 |true=>
  by_cases U:l.length=b
  ·simp[U,X7,m,Xo]at h;simp[hp,hS,U];refine Ug hPp hS (ts:=g) (en:=en) (S:=S) (by simp[hp]) _ ?_;simp[hp];refine X _ _ _ ?_;simp;exact Xc hp u h (by simp) (by simp[hp])
  ·have J:¬((l.length:Int)=b):=by omega
   obtain⟨n,H⟩:∃n,b-l.length=n+1:=⟨b-l.length-1,by omega⟩
   simp only[H]at h;simp only[Xo,X7,m,Bu]at h;simp[hp,hS,J,L,Yof];refine y _ _ _ ?_;cases T:f g with
   |Bi ts' e=>
    simp only[T]at h;simp;refine X _ _ _ ?_;simp;exact Xc hp u h (by simp) (by simp[hp])
   |ok a ts'=>
    simp only[T]at h;simp[hp,hS,N];refine⟨by omega,?_⟩;refine W [] (l++[a],ts') _ _ ⟨by simp;omega,?_⟩ (by simp;omega) (by simp) (by simp[hp]) (by simp[hp,v]) ?_
    ·simp only[C7,List.length_singleton,show b-(l.length+1)=n by omega];rw[Xo];cases t:X7 c f n ts' with
     |Bi O e=>simp only[t]at h;exact h
     |ok l2 O=>simp only[t]at h;simpa using h
    ·simp;refine Af _ _ _ _ _ (Xm _ u) ?_;have:=xQ (Xm 1 (l:=[]) u) hp;simpa[pv]using this
theorem Yuc{Q:Type}{enc:Q->D}(N:∀a,(enc a).shape=.node [.AR,.node [.AR,.AR,.AR,.AR,.AR],.node [.AR,.AR,.AR,.AR,.AR]])(c:List BH->Bool)(f:M Q)(b:Nat)(G:b<=1000)(w z:Nat)(k i s r:List V)(F:Xd P.p w=true)(L:Xd P.p z=true)
 (x:Nat) (hx:AA ob=x) (Z:∀(ts:List BH)(o:Ob)(K:BN->AF->Prop),K (.ret (.d (.bool (c ts)))) ((x,o)::AG ob p (pb ts en S))->AX P w (k++i) ((x,o)::AG ob p (pb ts en S)) K)
 (y:∀(ts:List BH)(o:Ob)(K:BN->AF->Prop),PK K ((x,o)::AG ob p (pb ts en S)) p en S (λa=>.d (enc a)) (f ts)->AX P z (s++r) ((x,o)::AG ob p (pb ts en S)) K)
 (h:PK K ob p en S (λl=>.d (.AH 11 (l.map enc))) (X7 c f b ts)):AX P 80 [.ptr p [],.d (.int .i64 b),.fn w k i,.fn z s r] ob K:=by
 subst hx;refine AY hPp AQ Ztk Zqe A4.nil λhv u=>?_;have v:=Ix (p:=AD (AA ob+1) []) (q:=AD (AA ob) []) (λj e=>by simp[AD]at e⊢;omega) _ (hv []);simp at v;simp[Zn2,hp,hS];refine Au.go (ι:=List Q×List BH) (λj=>[(0,.ptr p []),(1,.d (.int .i64 b)),(2,.fn w k i),(3,.fn z s r),(8,.sl (AA ob) j.1.length)])
  (λj=>(AA ob,.BG 173 11 (j.1.map enc))::AG ob p (pb j.2 en S))
  (λj=>j.1.length<=b/\PK K ob p en S (λl=>.d (.AH 11 (l.map enc))) ((X7 c f (b-j.1.length) >>= λl=>pure (j.1++l)) j.2)) (λj=>b-j.1.length) ([],ts) ⟨by simp,?_⟩ (by simp) (by simp[Yd hp]) ?_
 ·simp only[List.length_nil,Nat.sub_zero,List.nil_append];rw[Xo];cases y:X7 c f b ts with
  |ok a ts'=>rw[y]at h;exact h
  |Bi ts' e=>rw[y]at h;exact h
 rintro⟨l,g⟩ ⟨hl,h⟩ R W re rr X;dsimp only at hl h W;simp[Yog,hp,hS,F];refine Z _ _ _ ?_;cases m:c g with
 |false=>
  simp[hp,hS];refine re _ _ _ ?_;have Y:PK K ob p en S (λl=>.d (.AH 11 (l.map enc))) (.ok l g):=by
   rw[Xo]at h;cases H:b-l.length<;>simpa[H,X7,m]using h
  simp[hp,hS];exact Xc hp u Y (by simp) (by simp[hp])
 |true=>
  by_cases U:l.length=b
  ·simp[U,X7,m,Xo]at h;simp[hp,hS,U];refine Ug hPp hS (ts:=g) (en:=en) (S:=S) (by simp[hp]) _ ?_;simp[hp];refine X _ _ _ ?_;simp;exact Xc hp u h (by simp) (by simp[hp])
  ·have J:¬((l.length:Int)=b):=by omega
   obtain⟨n,H⟩:∃n,b-l.length=n+1:=⟨b-l.length-1,by omega⟩
   simp only[H]at h;simp only[Xo,X7,m,Bu]at h;simp[hp,hS,J,L,Yoh];refine y _ _ _ ?_;cases T:f g with
   |Bi ts' e=>
    simp only[T]at h;simp;refine X _ _ _ ?_;simp;exact Xc hp u h (by simp) (by simp[hp])
   |ok a ts'=>
    simp only[T]at h;simp[hp,hS,N];refine⟨by omega,?_⟩;refine W [] (l++[a],ts') _ _ ⟨by simp;omega,?_⟩ (by simp;omega) (by simp) (by simp[hp]) (by simp[hp,v]) ?_
    ·simp only[C7,List.length_singleton,show b-(l.length+1)=n by omega];rw[Xo];cases t:X7 c f n ts' with
     |Bi O e=>simp only[t]at h;exact h
     |ok l2 O=>simp only[t]at h;simpa using h
    ·simp;refine Af _ _ _ _ _ (Xm _ u) ?_;have:=xQ (Xm 1 (l:=[]) u) hp;simpa[pv]using this
theorem Yuh{Q:Type}{enc:Q->D}(N:∀a,(enc a).shape=.node [.AR,.AR,.node [.AR,.AR,.AR,.AR,.AR]])(c:List BH->Bool)(f:M Q)(b:Nat)(G:b<=1000)(w z:Nat)(k i s r:List V)(F:Xd P.p w=true)(L:Xd P.p z=true)
 (x:Nat) (hx:AA ob=x) (Z:∀(ts:List BH)(o:Ob)(K:BN->AF->Prop),K (.ret (.d (.bool (c ts)))) ((x,o)::AG ob p (pb ts en S))->AX P w (k++i) ((x,o)::AG ob p (pb ts en S)) K)
 (y:∀(ts:List BH)(o:Ob)(K:BN->AF->Prop),PK K ((x,o)::AG ob p (pb ts en S)) p en S (λa=>.d (enc a)) (f ts)->AX P z (s++r) ((x,o)::AG ob p (pb ts en S)) K)
 (h:PK K ob p en S (λl=>.d (.AH 7 (l.map enc))) (X7 c f b ts)):AX P 82 [.ptr p [],.d (.int .i64 b),.fn w k i,.fn z s r] ob K:=by
 subst hx;refine AY hPp AQ Ztm Zqg A4.nil λhv u=>?_;have v:=Ix (p:=AD (AA ob+1) []) (q:=AD (AA ob) []) (λj e=>by simp[AD]at e⊢;omega) _ (hv []);simp at v;simp[Zn4,hp,hS];refine Au.go (ι:=List Q×List BH) (λj=>[(0,.ptr p []),(1,.d (.int .i64 b)),(2,.fn w k i),(3,.fn z s r),(8,.sl (AA ob) j.1.length)])
  (λj=>(AA ob,.BG 177 7 (j.1.map enc))::AG ob p (pb j.2 en S))
  (λj=>j.1.length<=b/\PK K ob p en S (λl=>.d (.AH 7 (l.map enc))) ((X7 c f (b-j.1.length) >>= λl=>pure (j.1++l)) j.2)) (λj=>b-j.1.length) ([],ts) ⟨by simp,?_⟩ (by simp) (by simp[Yd hp]) ?_
 ·simp only[List.length_nil,Nat.sub_zero,List.nil_append];rw[Xo];cases y:X7 c f b ts with
  |ok a ts'=>rw[y]at h;exact h
  |Bi ts' e=>rw[y]at h;exact h
 rintro⟨l,g⟩ ⟨hl,h⟩ R W re rr X;dsimp only at hl h W;simp[Yoi,hp,hS,F];refine Z _ _ _ ?_;cases m:c g with
 |false=>
  simp[hp,hS];refine re _ _ _ ?_;have Y:PK K ob p en S (λl=>.d (.AH 7 (l.map enc))) (.ok l g):=by
   rw[Xo]at h;cases H:b-l.length<;>simpa[H,X7,m]using h
  simp[hp,hS];exact Xc hp u Y (by simp) (by simp[hp])
 |true=>
  by_cases U:l.length=b
  ·simp[U,X7,m,Xo]at h;simp[hp,hS,U];refine Ug hPp hS (ts:=g) (en:=en) (S:=S) (by simp[hp]) _ ?_;simp[hp];refine X _ _ _ ?_;simp;exact Xc hp u h (by simp) (by simp[hp])
  ·have J:¬((l.length:Int)=b):=by omega
   obtain⟨n,H⟩:∃n,b-l.length=n+1:=⟨b-l.length-1,by omega⟩
   simp only[H]at h;simp only[Xo,X7,m,Bu]at h;simp[hp,hS,J,L,Yoj];refine y _ _ _ ?_;cases T:f g with
   |Bi ts' e=>
    simp only[T]at h;simp;refine X _ _ _ ?_;simp;exact Xc hp u h (by simp) (by simp[hp])
   |ok a ts'=>
    simp only[T]at h;simp[hp,hS,N];refine⟨by omega,?_⟩;refine W [] (l++[a],ts') _ _ ⟨by simp;omega,?_⟩ (by simp;omega) (by simp) (by simp[hp]) (by simp[hp,v]) ?_
    ·simp only[C7,List.length_singleton,show b-(l.length+1)=n by omega];rw[Xo];cases t:X7 c f n ts' with
     |Bi O e=>simp only[t]at h;exact h
     |ok l2 O=>simp only[t]at h;simpa using h
    ·simp;refine Af _ _ _ _ _ (Xm _ u) ?_;have:=xQ (Xm 1 (l:=[]) u) hp;simpa[pv]using this
theorem Yue{Q:Type}{enc:Q->D}(N:∀a,(enc a).shape=.node [.AR,.AR,.AR,.AR,.AR])(c:List BH->Bool)(f:M Q)(b:Nat)(G:b<=1000)(w z:Nat)(k i s r:List V)(F:Xd P.p w=true)(L:Xd P.p z=true)
 (x:Nat) (hx:AA ob=x) (Z:∀(ts:List BH)(o:Ob)(K:BN->AF->Prop),K (.ret (.d (.bool (c ts)))) ((x,o)::AG ob p (pb ts en S))->AX P w (k++i) ((x,o)::AG ob p (pb ts en S)) K)
 (y:∀(ts:List BH)(o:Ob)(K:BN->AF->Prop),PK K ((x,o)::AG ob p (pb ts en S)) p en S (λa=>.d (enc a)) (f ts)->AX P z (s++r) ((x,o)::AG ob p (pb ts en S)) K)
 (h:PK K ob p en S (λl=>.d (.AH 5 (l.map enc))) (X7 c f b ts)):AX P 84 [.ptr p [],.d (.int .i64 b),.fn w k i,.fn z s r] ob K:=by
 subst hx;refine AY hPp AQ Zto Zqi A4.nil λhv u=>?_;have v:=Ix (p:=AD (AA ob+1) []) (q:=AD (AA ob) []) (λj e=>by simp[AD]at e⊢;omega) _ (hv []);simp at v;simp[Zn6,hp,hS];refine Au.go (ι:=List Q×List BH) (λj=>[(0,.ptr p []),(1,.d (.int .i64 b)),(2,.fn w k i),(3,.fn z s r),(8,.sl (AA ob) j.1.length)])
  (λj=>(AA ob,.BG 181 5 (j.1.map enc))::AG ob p (pb j.2 en S))
  (λj=>j.1.length<=b/\PK K ob p en S (λl=>.d (.AH 5 (l.map enc))) ((X7 c f (b-j.1.length) >>= λl=>pure (j.1++l)) j.2)) (λj=>b-j.1.length) ([],ts) ⟨by simp,?_⟩ (by simp) (by simp[Yd hp]) ?_
 ·simp only[List.length_nil,Nat.sub_zero,List.nil_append];rw[Xo];cases y:X7 c f b ts with
  |ok a ts'=>rw[y]at h;exact h
  |Bi ts' e=>rw[y]at h;exact h
 rintro⟨l,g⟩ ⟨hl,h⟩ R W re rr X;dsimp only at hl h W;simp[Yok,hp,hS,F];refine Z _ _ _ ?_;cases m:c g with
 |false=>
  simp[hp,hS];refine re _ _ _ ?_;have Y:PK K ob p en S (λl=>.d (.AH 5 (l.map enc))) (.ok l g):=by
   rw[Xo]at h;cases H:b-l.length<;>simpa[H,X7,m]using h
  simp[hp,hS];exact Xc hp u Y (by simp) (by simp[hp])
 |true=>
  by_cases U:l.length=b
  ·simp[U,X7,m,Xo]at h;simp[hp,hS,U];refine Ug hPp hS (ts:=g) (en:=en) (S:=S) (by simp[hp]) _ ?_;simp[hp];refine X _ _ _ ?_;simp;exact Xc hp u h (by simp) (by simp[hp])
  ·have J:¬((l.length:Int)=b):=by omega
   obtain⟨n,H⟩:∃n,b-l.length=n+1:=⟨b-l.length-1,by omega⟩
   simp only[H]at h;simp only[Xo,X7,m,Bu]at h;simp[hp,hS,J,L,Yol];refine y _ _ _ ?_;cases T:f g with
   |Bi ts' e=>
    simp only[T]at h;simp;refine X _ _ _ ?_;simp;exact Xc hp u h (by simp) (by simp[hp])
   |ok a ts'=>
    simp only[T]at h;simp[hp,hS,N];refine⟨by omega,?_⟩;refine W [] (l++[a],ts') _ _ ⟨by simp;omega,?_⟩ (by simp;omega) (by simp) (by simp[hp]) (by simp[hp,v]) ?_
    ·simp only[C7,List.length_singleton,show b-(l.length+1)=n by omega];rw[Xo];cases t:X7 c f n ts' with
     |Bi O e=>simp only[t]at h;exact h
     |ok l2 O=>simp only[t]at h;simpa using h
    ·simp;refine Af _ _ _ _ _ (Xm _ u) ?_;have:=xQ (Xm 1 (l:=[]) u) hp;simpa[pv]using this
theorem Yug{Q:Type}{enc:Q->D}(N:∀a,(enc a).shape=.node [.AR,.AR,.AR,.AR])(c:List BH->Bool)(f:M Q)(b:Nat)(G:b<=1000)(w z:Nat)(k i s r:List V)(F:Xd P.p w=true)(L:Xd P.p z=true)
 (x:Nat) (hx:AA ob=x) (Z:∀(ts:List BH)(o:Ob)(K:BN->AF->Prop),K (.ret (.d (.bool (c ts)))) ((x,o)::AG ob p (pb ts en S))->AX P w (k++i) ((x,o)::AG ob p (pb ts en S)) K)
 (y:∀(ts:List BH)(o:Ob)(K:BN->AF->Prop),PK K ((x,o)::AG ob p (pb ts en S)) p en S (λa=>.d (enc a)) (f ts)->AX P z (s++r) ((x,o)::AG ob p (pb ts en S)) K)
 (h:PK K ob p en S (λl=>.d (.AH 4 (l.map enc))) (X7 c f b ts)):AX P 86 [.ptr p [],.d (.int .i64 b),.fn w k i,.fn z s r] ob K:=by
 subst hx;refine AY hPp AQ Ztq Zqk A4.nil λhv u=>?_;have v:=Ix (p:=AD (AA ob+1) []) (q:=AD (AA ob) []) (λj e=>by simp[AD]at e⊢;omega) _ (hv []);simp at v;simp[Zn8,hp,hS];refine Au.go (ι:=List Q×List BH) (λj=>[(0,.ptr p []),(1,.d (.int .i64 b)),(2,.fn w k i),(3,.fn z s r),(8,.sl (AA ob) j.1.length)])
  (λj=>(AA ob,.BG 146 4 (j.1.map enc))::AG ob p (pb j.2 en S))
  (λj=>j.1.length<=b/\PK K ob p en S (λl=>.d (.AH 4 (l.map enc))) ((X7 c f (b-j.1.length) >>= λl=>pure (j.1++l)) j.2)) (λj=>b-j.1.length) ([],ts) ⟨by simp,?_⟩ (by simp) (by simp[Yd hp]) ?_
 ·simp only[List.length_nil,Nat.sub_zero,List.nil_append];rw[Xo];cases y:X7 c f b ts with
  |ok a ts'=>rw[y]at h;exact h
  |Bi ts' e=>rw[y]at h;exact h
 rintro⟨l,g⟩ ⟨hl,h⟩ R W re rr X;dsimp only at hl h W;simp[Yom,hp,hS,F];refine Z _ _ _ ?_;cases m:c g with
 |false=>
  simp[hp,hS];refine re _ _ _ ?_;have Y:PK K ob p en S (λl=>.d (.AH 4 (l.map enc))) (.ok l g):=by
   rw[Xo]at h;cases H:b-l.length<;>simpa[H,X7,m]using h
  simp[hp,hS];exact Xc hp u Y (by simp) (by simp[hp])
 |true=>
  by_cases U:l.length=b
  ·simp[U,X7,m,Xo]at h;simp[hp,hS,U];refine Ug hPp hS (ts:=g) (en:=en) (S:=S) (by simp[hp]) _ ?_;simp[hp];refine X _ _ _ ?_;simp;exact Xc hp u h (by simp) (by simp[hp])
  ·have J:¬((l.length:Int)=b):=by omega
   obtain⟨n,H⟩:∃n,b-l.length=n+1:=⟨b-l.length-1,by omega⟩
   simp only[H]at h;simp only[Xo,X7,m,Bu]at h;simp[hp,hS,J,L,Yon];refine y _ _ _ ?_;cases T:f g with
   |Bi ts' e=>
    simp only[T]at h;simp;refine X _ _ _ ?_;simp;exact Xc hp u h (by simp) (by simp[hp])
   |ok a ts'=>
    simp only[T]at h;simp[hp,hS,N];refine⟨by omega,?_⟩;refine W [] (l++[a],ts') _ _ ⟨by simp;omega,?_⟩ (by simp;omega) (by simp) (by simp[hp]) (by simp[hp,v]) ?_
    ·simp only[C7,List.length_singleton,show b-(l.length+1)=n by omega];rw[Xo];cases t:X7 c f n ts' with
     |Bi O e=>simp only[t]at h;exact h
     |ok l2 O=>simp only[t]at h;simpa using h
    ·simp;refine Af _ _ _ _ _ (Xm _ u) ?_;have:=xQ (Xm 1 (l:=[]) u) hp;simpa[pv]using this
theorem Yuf{Q:Type}{enc:Q->D}(N:∀a,(enc a).shape=.AR)(c:List BH->Bool)(f:M Q)(b:Nat)(G:b<=1000)(w z:Nat)(k i s r:List V)(F:Xd P.p w=true)(L:Xd P.p z=true)
 (x:Nat) (hx:AA ob=x) (Z:∀(ts:List BH)(o:Ob)(K:BN->AF->Prop),K (.ret (.d (.bool (c ts)))) ((x,o)::AG ob p (pb ts en S))->AX P w (k++i) ((x,o)::AG ob p (pb ts en S)) K)
 (y:∀(ts:List BH)(o:Ob)(K:BN->AF->Prop),PK K ((x,o)::AG ob p (pb ts en S)) p en S (λa=>.d (enc a)) (f ts)->AX P z (s++r) ((x,o)::AG ob p (pb ts en S)) K)
 (h:PK K ob p en S (λl=>.d (.AH 1 (l.map enc))) (X7 c f b ts)):AX P 230 [.ptr p [],.d (.int .i64 b),.fn w k i,.fn z s r] ob K:=by
 subst hx;refine AY hPp AQ Zem Zac A4.nil λhv u=>?_;have v:=Ix (p:=AD (AA ob+1) []) (q:=AD (AA ob) []) (λj e=>by simp[AD]at e⊢;omega) _ (hv []);simp at v;simp[Y6l,hp,hS];refine Au.go (ι:=List Q×List BH) (λj=>[(0,.ptr p []),(1,.d (.int .i64 b)),(2,.fn w k i),(3,.fn z s r),(8,.sl (AA ob) j.1.length)])
  (λj=>(AA ob,.BG 9 1 (j.1.map enc))::AG ob p (pb j.2 en S))
  (λj=>j.1.length<=b/\PK K ob p en S (λl=>.d (.AH 1 (l.map enc))) ((X7 c f (b-j.1.length) >>= λl=>pure (j.1++l)) j.2)) (λj=>b-j.1.length) ([],ts) ⟨by simp,?_⟩ (by simp) (by simp[Yd hp]) ?_
 ·simp only[List.length_nil,Nat.sub_zero,List.nil_append];rw[Xo];cases y:X7 c f b ts with
  |ok a ts'=>rw[y]at h;exact h
  |Bi ts' e=>rw[y]at h;exact h
 rintro⟨l,g⟩ ⟨hl,h⟩ R W re rr X;dsimp only at hl h W;simp[Ye4,hp,hS,F];refine Z _ _ _ ?_;cases m:c g with
 |false=>
  simp[hp,hS];refine re _ _ _ ?_;have Y:PK K ob p en S (λl=>.d (.AH 1 (l.map enc))) (.ok l g):=by
   rw[Xo]at h;cases H:b-l.length<;>simpa[H,X7,m]using h
  simp[hp,hS];exact Xc hp u Y (by simp) (by simp[hp])
 |true=>
  by_cases U:l.length=b
  ·simp[U,X7,m,Xo]at h;simp[hp,hS,U];refine Ug hPp hS (ts:=g) (en:=en) (S:=S) (by simp[hp]) _ ?_;simp[hp];refine X _ _ _ ?_;simp;exact Xc hp u h (by simp) (by simp[hp])
  ·have J:¬((l.length:Int)=b):=by omega
   obtain⟨n,H⟩:∃n,b-l.length=n+1:=⟨b-l.length-1,by omega⟩
   simp only[H]at h;simp only[Xo,X7,m,Bu]at h;simp[hp,hS,J,L,Ye5];refine y _ _ _ ?_;cases T:f g with
   |Bi ts' e=>
    simp only[T]at h;simp;refine X _ _ _ ?_;simp;exact Xc hp u h (by simp) (by simp[hp])
   |ok a ts'=>
    simp only[T]at h;simp[hp,hS,N];refine⟨by omega,?_⟩;refine W [] (l++[a],ts') _ _ ⟨by simp;omega,?_⟩ (by simp;omega) (by simp) (by simp[hp]) (by simp[hp,v]) ?_
    ·simp only[C7,List.length_singleton,show b-(l.length+1)=n by omega];rw[Xo];cases t:X7 c f n ts' with
     |Bi O e=>simp only[t]at h;exact h
     |ok l2 O=>simp only[t]at h;simpa using h
    ·simp;refine Af _ _ _ _ _ (Xm _ u) ?_;have:=xQ (Xm 1 (l:=[]) u) hp;simpa[pv]using this
end
attribute [local simp] Ca B7
attribute [local simp ↓] ql qn qo qi qh qj qk qm wg zy we wh wc zt zu zr zx zw qq qp qy qz zn zb qx qr zo qw qv qt zd zi zf zj zl zm wo wj wq wp qb qa qd qc qe qg qf zq zp
section
variable {P:BA} (hPp:P.p=prog) {ob:AF} {p:Nat} {ts:List BH} {en:Int} {S:V} (hS:CA [S]=none) (hp:AB ob p=some (pb ts en S)) {K:BN->AF->Prop}
include hPp
theorem Q2:Xd P.p 229=true/\Xd P.p 231=true/\Xd P.p 168=true/\Xd P.p 79=true/\Xd P.p 81=true/\Xd P.p 83=true/\Xd P.p 85=true/\Xd P.p 87=true:=by
 rw[hPp];exact⟨by kernel_rfl,by kernel_rfl,by kernel_rfl,by kernel_rfl,by kernel_rfl,by kernel_rfl,by kernel_rfl,by kernel_rfl⟩
include hS hp
theorem Ydz{a:Nat}(b:AB ob a=some (.box 62 (.ptr p [])))(h:K (.ret (.d (.bool (Xz 3 [44] ts)))) (AG ob p (pb ts en S))):AX P 229 [.ptr a []] ob K:=by
 refine AY hPp AQ Zel Zab A4.nil λ_ c=>?_;simp[Y6k,hp,b];refine L0 hPp hS hp _ _ ?_;simp[hp];exact Xc hp c h (by simp) (by simp[hp])
theorem Yd0{c:Nat}(b:AB ob c=some (.box 62 (.ptr p [])))(h:PK K ob p en S (λa=>.d (.AU a)) ((do Yo [44];Yy:M B) ts)):AX P 231 [.ptr c []] ob K:=by
 have f:(c==p)=false:=by rw[Gz];intro e;subst e;rw[b]at hp;cases hp
 have i:(p==c)=false:=by rw[Gz];intro e;subst e;rw[b]at hp;cases hp
 refine AY hPp AQ Zen Zad A4.nil λ_ g=>?_;simp[Y6m,hp,b];refine Yx hPp hS hp _ (PK.bind h (λts' e h=>?_) (λa ts' j h=>?_))
 ·simp;exact Xc hp g h (by simp) (by simp[hp])
 simp[hp,b,f,i];refine Zt hPp hS (by simp[hp]) (PK.tail h (λts' e h=>?_) (λa ts' j h=>?_))
 ·simp;exact Xc hp g h (by simp) (by simp[hp])
 simp[hp,b];exact Xc hp g h (by simp) (by simp[hp])
theorem sO(b:Nat)(j:1<=b)(f:b<=1000)(h:PK K ob p en S (λl=>.d (Xg l)) (OI b ts)):AX P 167 [.ptr p [],.d (.int .i64 b)] ob K:=by
 refine AY hPp AQ Zda Y9g A4.nil λ_ c=>?_;simp[Y5z,hp,hS];refine Zt hPp hS (by simp[hp]) (PK.bind h (λts' e h=>?_) (λa ts' g h=>?_))
 ·simp;exact Xc hp c h (by simp) (by simp[hp])
 simp[hp,hS];have i:IntKind.i64.wrap ((b:Int)-1)=((b-1:Nat):Int):=by rw[w_i _ (by omega)];omega
 rw[i];refine Yuf hPp hS (by simp[hp]) (enc:=D.AU) (λ_=>rfl) (Xz 3 [44]) (do Yo [44];Yy) (b-1) (by omega) _ _ [] _ [] _ (Q2 hPp).1 (Q2 hPp).2.1 _ rfl (λts o K h=>?_) (λts o K h=>?_) (PK.bind h (λts' e h=>?_) (λl ts' g h=>?_))
 ·exact Ydz hPp hS (p:=p) (ts:=ts) (en:=en) (by simp[hp]) (by simp[hp]) (by simpa[hp]using h)
 ·exact Yd0 hPp hS (p:=p) (ts:=ts) (en:=en) (by simp[hp]) (by simp[hp]) (by simpa[hp]using h)
 ·simp[hp];exact Xc hp c h (by simp) (by simp[hp])
 have k:=dL g;simp[hp,show 1+l.length=l.length+1 by omega];refine⟨by omega,?_⟩;exact Xc hp c h (by simp) (by simp[hp])
theorem Y4o(b:Ep P)(h:PK K ob p en S (λx=>.d x.enc) (XT ts)):AX P 166 [.ptr p []] ob K:=by
 refine AY hPp AQ Zc9 Y9f A4.nil λ_ c=>?_;simp[Y5y,hp,hS,b.AV,b.AN,b.As,b.AP,b.A6];refine Zq hPp hS (by simp[hp]) _ _ (PK.bind h (λts' e h=>?_) (λa ts' f h=>?_))
 ·simp;exact Xc hp c h (by simp) (by simp[hp])
 cases a
 ·skip
  simp only[BO,Bs,Bu,Yc,Y6]at h;simp[hp,hS,b.AV,b.AN,b.As,b.AP,b.A6];refine Zq hPp hS (by simp[hp]) _ _ (PK.bind h (λts' e h=>?_) (λa ts' f h=>?_))
  ·simp;exact Xc hp c h (by simp) (by simp[hp])
  cases a
  ·skip
   simp only[BO,Bs,Bu,Yc,Y6]at h;simp[hp,hS,b.AV,b.AN,b.As,b.AP,b.A6];refine Zq hPp hS (by simp[hp]) _ _ (PK.bind h (λts' e h=>?_) (λa ts' f h=>?_))
   ·simp;exact Xc hp c h (by simp) (by simp[hp])
   cases a
   ·skip
    simp only[BO,Bs,Bu,Yc,Y6]at h;simp[hp,hS,b.AV,b.AN,b.As,b.AP,b.A6];refine Zq hPp hS (by simp[hp]) _ _ (PK.bind h (λts' e h=>?_) (λa ts' f h=>?_))
    ·simp;exact Xc hp c h (by simp) (by simp[hp])
    cases a
    ·skip
     simp only[BO,Bs,Bu,Yc,Y6]at h;simp[hp,hS,b.AV,b.AN,b.As,b.AP,b.A6];refine Ug hPp hS (ts:=ts') (en:=en) (S:=S) (by simp[hp]) _ ?_;simp[hp];exact Xc hp c h (by simp) (by simp[hp])
    ·skip
     simp only[BO,Bs,Bu,Yc,Y6]at h;simp[hp,hS,b.AV,b.AN,b.As,b.AP,b.A6];refine sO hPp hS (by simp[hp]) 16 (by decide) (by decide) (PK.bind h (λts' e h=>?_) (λl ts' f h=>?_))
     ·simp;exact Xc hp c h (by simp) (by simp[hp])
     have i:=Xsi f;have g:IntKind.i64.wrap ((l.length:Int)-1)=(l.length:Int)-1:=w_i _ (by omega);simp[hp,hS,Xg,g,SO];exact Xc hp c h (by simp) (by simp[hp])
   ·skip
    simp only[BO,Bs,Bu,Yc,Y6]at h;simp[hp,hS,b.AV,b.AN,b.As,b.AP,b.A6,SO];exact Xc hp c h (by simp) (by simp[hp])
  ·skip
   simp only[BO,Bs,Bu,Yc,Y6]at h;simp[hp,hS,b.AV,b.AN,b.As,b.AP,b.A6,SO];exact Xc hp c h (by simp) (by simp[hp])
 ·skip
  simp only[BO,Bs,Bu,Yc,Y6]at h;simp[hp,hS,b.AV,b.AN,b.As,b.AP,b.A6];refine Z6 hPp hS (by simp[hp]) _ _ (PK.bind h (λts' e h=>?_) (λa ts' f h=>?_))
  ·simp;exact Xc hp c h (by simp) (by simp[hp])
  simp[hp,hS,b.AV,b.AN,b.As,b.AP,b.A6];refine Ws hPp hS (by simp[hp]) _ (PK.bind h (λts' e h=>?_) (λa ts' f h=>?_))
  ·simp;exact Xc hp c h (by simp) (by simp[hp])
  simp[hp,hS,b.AV,b.AN,b.As,b.AP,b.A6];refine Z6 hPp hS (by simp[hp]) _ _ (PK.bind h (λts' e h=>?_) (λa ts' f h=>?_))
  ·simp;exact Xc hp c h (by simp) (by simp[hp])
  simp[hp,hS,b.AV,b.AN,b.As,b.AP,b.A6];refine Zq hPp hS (by simp[hp]) _ _ (PK.bind h (λts' e h=>?_) (λa ts' f h=>?_))
  ·simp;exact Xc hp c h (by simp) (by simp[hp])
  cases a
  ·skip
   simp only[BO,Bs,Bu,Yc,Y6]at h;simp[hp,hS,b.AV,b.AN,b.As,b.AP,b.A6,SO];exact Xc hp c h (by simp) (by simp[hp])
  ·skip
   simp only[BO,Bs,Bu,Yc,Y6]at h;simp[hp,hS,b.AV,b.AN,b.As,b.AP,b.A6];refine Zt hPp hS (by simp[hp]) (PK.bind h (λts' e h=>?_) (λa ts' f h=>?_))
   ·simp;exact Xc hp c h (by simp) (by simp[hp])
   simp[hp,hS,b.AV,b.AN,b.As,b.AP,b.A6,SO];exact Xc hp c h (by simp) (by simp[hp])
theorem Yua(b:Ep P)(h:PK K ob p en S (λx=>.d x.enc) (NF ts)):AX P 75 [.ptr p []] ob K:=by
 refine AY hPp AQ Ztf Zp9 A4.nil λ_ c=>?_;simp[Znx,hp,hS,b.AV,b.AN,b.As,b.AP,b.A6];refine Ws hPp hS (by simp[hp]) _ (PK.bind h (λts' e h=>?_) (λa ts' f h=>?_))
 ·simp;exact Xc hp c h (by simp) (by simp[hp])
 simp[hp,hS,b.AV,b.AN,b.As,b.AP,b.A6];refine Zt hPp hS (by simp[hp]) (PK.bind h (λts' e h=>?_) (λa ts' f h=>?_))
 ·simp;exact Xc hp c h (by simp) (by simp[hp])
 simp[hp,hS,b.AV,b.AN,b.As,b.AP,b.A6];refine Yx hPp hS (by simp[hp]) _ (PK.bind h (λts' e h=>?_) (λa ts' f h=>?_))
 ·simp;exact Xc hp c h (by simp) (by simp[hp])
 simp[hp,hS,b.AV,b.AN,b.As,b.AP,b.A6];refine Y4o hPp hS (by simp[hp]) b (PK.bind h (λts' e h=>?_) (λa ts' f h=>?_))
 ·simp;exact Xc hp c h (by simp) (by simp[hp])
 simp[hp,hS,b.AV,b.AN,b.As,b.AP,b.A6];refine yu hPp hS (by simp[hp]) b (PK.bind h (λts' e h=>?_) (λl ts' f h=>?_))
 ·simp;exact Xc hp c h (by simp) (by simp[hp])
 obtain⟨g,i,j,k,rfl⟩:=J7 f;simp[hp,hS];refine Yx hPp hS (by simp[hp]) _ (PK.bind h (λts' e h=>?_) (λa ts' f h=>?_))
 ·simp;exact Xc hp c h (by simp) (by simp[hp])
 simp[hp,hS,b.AV,b.AN,b.As,b.AP,b.A6];exact Xc hp c h (by simp) (by simp[hp])
theorem Yil(h:PK K ob p en S (λx=>.d x.enc) (Si ts)):AX P 76 [.ptr p []] ob K:=by
 refine AY hPp AQ Ztg Zqa A4.nil λ_ b=>?_;simp[Zny,hp,hS];refine Ws hPp hS (by simp[hp]) _ (PK.bind h (λts' e h=>?_) (λa ts' c h=>?_))
 ·simp;exact Xc hp b h (by simp) (by simp[hp])
 simp[hp,hS];refine sO hPp hS (by simp[hp]) 11 (by decide) (by decide) (PK.bind h (λts' e h=>?_) (λl ts' c h=>?_))
 ·simp;exact Xc hp b h (by simp) (by simp[hp])
 simp[hp,hS,Xg];refine Ws hPp hS (by simp[hp]) _ (PK.bind h (λts' e h=>?_) (λa ts' c h=>?_))
 ·simp;exact Xc hp b h (by simp) (by simp[hp])
 simp[hp,hS];refine Zt hPp hS (by simp[hp]) (PK.bind h (λts' e h=>?_) (λa ts' c h=>?_))
 ·simp;exact Xc hp b h (by simp) (by simp[hp])
 simp[hp,hS];refine Yx hPp hS (by simp[hp]) _ (PK.bind h (λts' e h=>?_) (λa ts' c h=>?_))
 ·simp;exact Xc hp b h (by simp) (by simp[hp])
 simp[hp,hS];exact Xc hp b h (by simp) (by simp[hp])
end
attribute [local simp] Ca B7
attribute [local simp ↓] ql qn qo qi qh qj qk qm wg zy we wh wc zt zu zr zx zw qq qp qy qz zn zb qx qr zo qw qv qt zd zi zf zj zl zm wo wj wq wp qb qa qd qc qe qg qf zq zp
section
variable {P:BA} (hPp:P.p=prog) (hI:Ep P) {ts:List BH} {en:Int} {s:Bl} (hs:Iw s) {K:BN->AF->Prop}
include hPp hI hs
theorem Yim(h:PS K en (QI s ts)):AX P 20 [.ptr 4 []] (GC en ts s) K:=by
 refine AY hPp AQ Zsa Zo5 A4.nil λ_ c=>?_;simp[Zmx,hI.AV,hI.AN,hI.As,hI.AP,hI.A6];refine NO hPp (S:=nA s) (by simp) (by simp) _ 8 (PS.bind h (λts' e h=>?_) (λa ts' b h=>?_))
 ·simp;exact Xr (h s) (by simp) (by simp[AD])
 simp[hI.AV,hI.AN,hI.As,hI.AP,hI.A6];refine Ws hPp (S:=nA s) (by simp) (by simp) _ (PS.bind h (λts' e h=>?_) (λa ts' b h=>?_))
 ·simp;exact Xr (h s) (by simp) (by simp[AD])
 simp[hI.AV,hI.AN,hI.As,hI.AP,hI.A6];refine⟨?_,?_⟩
 ·skip
  refine Zt hPp (S:=nA s) (by simp) (by simp) (PS.bind h (λts' e h=>?_) (λa ts' b h=>?_))
  ·simp;exact Xr (h s) (by simp) (by simp[AD])
  simp[hI.AV,hI.AN,hI.As,hI.AP,hI.A6];refine⟨by have:=hs.Aa;omega,?_⟩;refine Yx hPp (S:=nA {s with Aa:=s.Aa++[a] }) (by simp) (by simp) _ (PS.bind h (λts' e h=>?_) (λa ts' b h=>?_))
  ·simp;exact Xr (h {s with Aa:=s.Aa++[a] }) (by simp) (by simp[AD])
  simp[hI.AV,hI.AN,hI.As,hI.AP,hI.A6];exact Xr h (by simp) (by simp)
 ·skip
  refine Zt hPp (S:=nA s) (by simp) (by simp) (PS.bind h (λts' e h=>?_) (λa ts' b h=>?_))
  ·simp;exact Xr (h s) (by simp) (by simp[AD])
  simp[hI.AV,hI.AN,hI.As,hI.AP,hI.A6];refine⟨by have:=hs.Aa;omega,?_⟩;refine Yx hPp (S:=nA {s with Aa:=s.Aa++[a] }) (by simp) (by simp) _ (PS.bind h (λts' e h=>?_) (λa ts' b h=>?_))
  ·simp;exact Xr (h {s with Aa:=s.Aa++[a] }) (by simp) (by simp[AD])
  simp[hI.AV,hI.AN,hI.As,hI.AP,hI.A6];exact Xr h (by simp) (by simp)
end
attribute [local simp] Ca B7
attribute [local simp ↓] ql qn qo qi qh qj qk qm wg zy we wh wc zt zu zr zx zw qq qp qy qz zn zb qx qr zo qw qv qt zd zi zf zj zl zm wo wj wq wp qb qa qd qc qe qg qf zq zp
section
variable {P:BA} (hPp:P.p=prog) (hI:Ep P) {ts:List BH} {en:Int} {s:Bl} (hs:Iw s) {K:BN->AF->Prop}
include hPp hI hs
theorem Y4s(h:PS K en (Pw s ts)):AX P 21 [.ptr 4 []] (GC en ts s) K:=by
 refine AY hPp AQ Zsb Zo6 A4.nil λ_ c=>?_;simp[Zmy,hI.AV,hI.AN,hI.As,hI.AP,hI.A6];refine NO hPp (S:=nA s) (by simp) (by simp) _ 16 (PS.bind h (λts' e h=>?_) (λa ts' b h=>?_))
 ·simp;exact Xr (h s) (by simp) (by simp[AD])
 simp[hI.AV,hI.AN,hI.As,hI.AP,hI.A6];refine Ws hPp (S:=nA s) (by simp) (by simp) _ (PS.bind h (λts' e h=>?_) (λa ts' b h=>?_))
 ·simp;exact Xr (h s) (by simp) (by simp[AD])
 simp[hI.AV,hI.AN,hI.As,hI.AP,hI.A6];refine Zt hPp (S:=nA s) (by simp) (by simp) (PS.bind h (λts' e h=>?_) (λa ts' b h=>?_))
 ·simp;exact Xr (h s) (by simp) (by simp[AD])
 simp[hI.AV,hI.AN,hI.As,hI.AP,hI.A6];refine Zq hPp (S:=nA s) (by simp) (by simp) _ _ (PS.bind h (λts' e h=>?_) (λa ts' b h=>?_))
 ·simp;exact Xr (h s) (by simp) (by simp[AD])
 cases a
 ·skip
  simp only[BO,Bs,Bu,Yc,Y6]at h;simp[hI.AV,hI.AN,hI.As,hI.AP,hI.A6,sW];refine Yx hPp (S:=nA s) (by simp) (by simp) _ (PS.bind h (λts' e h=>?_) (λa ts' b h=>?_))
  ·simp;exact Xr (h s) (by simp) (by simp[AD])
  simp[hI.AV,hI.AN,hI.As,hI.AP,hI.A6];refine⟨by have:=hs.Am;omega,?_⟩;exact Xr h (by simp) (by simp[AD,C2.enc])
 ·skip
  simp only[BO,Bs,Bu,Yc,Y6]at h;simp[hI.AV,hI.AN,hI.As,hI.AP,hI.A6];refine Z6 hPp (S:=nA s) (by simp) (by simp) _ _ (PS.bind h (λts' e h=>?_) (λa ts' b h=>?_))
  ·simp;exact Xr (h s) (by simp) (by simp[AD])
  simp[hI.AV,hI.AN,hI.As,hI.AP,hI.A6];refine Zt hPp (S:=nA s) (by simp) (by simp) (PS.bind h (λts' e h=>?_) (λa ts' b h=>?_))
  ·simp;exact Xr (h s) (by simp) (by simp[AD])
  simp[hI.AV,hI.AN,hI.As,hI.AP,hI.A6,sW];refine Yx hPp (S:=nA s) (by simp) (by simp) _ (PS.bind h (λts' e h=>?_) (λa ts' b h=>?_))
  ·simp;exact Xr (h s) (by simp) (by simp[AD])
  simp[hI.AV,hI.AN,hI.As,hI.AP,hI.A6];refine⟨by have:=hs.Am;omega,?_⟩;exact Xr h (by simp) (by simp[AD,C2.enc])
end
end
def Y3j:Nat:=0x13550070c505e0b70a800122809990b1fd040
def oF:Nat:=0x105714e0a50758713be12d3a900754e138a860360750c56880f0065a1813b1480dc24e15607b24e12606f24e05813400418624ea7524e11b06f24e80200024e323aa800002b00100e56502c3a806035507587102a1010290220ab045234be00c20580263050250460240429778d80570427bc063021a8602100787105802015901f0cf04601d04253d00701da2e
def Yz9:S:=zS [(zS [] Y3j)] oF
def ir6:Ej:=.pre (.rg [] [.op (some 2) (.alloc 30 (.agg [.Ad,.Ad,.Ad,.Ad,.Ad,.Ad])),
 .op (some 3) (.alloc 3 (.int .i64 0)),
 .op (some 4) (.alloc 31 (.int .i64 0))] [0,2,3,4] [])
 (.pre (.rg [] [.op (some 10) (.c (.mv (.t 0))),
  .op (some 11) (.Bn 12 [(.t 10)]),
  .op (some 9) (.c (.mv (.t 11))),
  .op (some 12) (.c (.ext (.t 9) 0)),
  .op (some 13) (.c (.ext (.t 9) 1)),
  .op (some 14) (.c (.ext (.t 9) 2)),
  .op (some 5) (.c (.mv (.t 12))),
  .op none (.st 1 (.t 3) (.t 13)),
  .op none (.st 1 (.t 4) (.t 14))] [0,2,3,4,5] [])
 (.pre (.seq (.rg [] [.op (some 15) (.c (.ld 1 false (.t 4))),
  .op (some 16) (.c (.CR .neq (.t 15) (.int .i64 0)))] [0,2,3,4,5,16] [])
 (.cond (.t 16) (.seq (.Gc 6 (.BW 0 (.op (some 17) (.c (.ld 6 true (.t 2))))
  (.br (.cons 1 (.op (some 18) (.c (.ld 1 false (.t 3)))) (.br (.cons 2 (.op (some 19) (.c (.ld 1 false (.t 4)))) (.BW 3 (.op none (.st 6 (.t 2) (.t 17)))
  (.BW 4 (.op none (.st 1 (.t 3) (.t 18)))
  (.BW 5 (.op none (.st 1 (.t 4) (.t 19)))
  (.done))))
  (.cons 3 (.op none (.st 6 (.t 2) (.t 17))) (.br (.cons 2 (.op (some 19) (.c (.ld 1 false (.t 4)))) (.BW 4 (.op none (.st 1 (.t 3) (.t 18)))
  (.BW 5 (.op none (.st 1 (.t 4) (.t 19)))
  (.done)))
  (.cons 4 (.op none (.st 1 (.t 3) (.t 18))) (.br (.cons 2 (.op (some 19) (.c (.ld 1 false (.t 4)))) (.BW 5 (.op none (.st 1 (.t 4) (.t 19)))
  (.done))
  (.nil)))
  (.nil))))
  (.nil))))
  (.cons 2 (.op (some 19) (.c (.ld 1 false (.t 4)))) (.br (.cons 1 (.op (some 18) (.c (.ld 1 false (.t 3)))) (.BW 3 (.op none (.st 6 (.t 2) (.t 17)))
  (.BW 4 (.op none (.st 1 (.t 3) (.t 18)))
  (.BW 5 (.op none (.st 1 (.t 4) (.t 19)))
  (.done))))
  (.cons 3 (.op none (.st 6 (.t 2) (.t 17))) (.br (.cons 1 (.op (some 18) (.c (.ld 1 false (.t 3)))) (.BW 4 (.op none (.st 1 (.t 3) (.t 18)))
  (.BW 5 (.op none (.st 1 (.t 4) (.t 19)))
  (.done)))
  (.nil)))
  (.nil))))
  (.cons 3 (.op none (.st 6 (.t 2) (.t 17))) (.br (.cons 1 (.op (some 18) (.c (.ld 1 false (.t 3)))) (.br (.cons 2 (.op (some 19) (.c (.ld 1 false (.t 4)))) (.BW 4 (.op none (.st 1 (.t 3) (.t 18)))
  (.BW 5 (.op none (.st 1 (.t 4) (.t 19)))
  (.done)))
  (.cons 4 (.op none (.st 1 (.t 3) (.t 18))) (.br (.cons 2 (.op (some 19) (.c (.ld 1 false (.t 4)))) (.BW 5 (.op none (.st 1 (.t 4) (.t 19)))
  (.done))
  (.nil)))
  (.nil))))
  (.cons 2 (.op (some 19) (.c (.ld 1 false (.t 4)))) (.br (.cons 1 (.op (some 18) (.c (.ld 1 false (.t 3)))) (.BW 4 (.op none (.st 1 (.t 3) (.t 18)))
  (.BW 5 (.op none (.st 1 (.t 4) (.t 19)))
  (.done)))
  (.nil)))
  (.nil))))
  (.nil)))))) [2,3,4] [])
 (.ret)) (.skip)))
 (.EX [.op (some 20) (.c (.ES 19 [] [(.t 2),(.t 3),(.t 4)]))] [0,2,3,4,5,20] 20
 (.seq (.rg [] [.op (some 21) (.II none),
  .op none (.C4 (.AU []) (.t 21) (.AU [105,115,115,117,101,114]) (.fn 20)),
  .op none (.C4 (.AU []) (.t 21) (.AU [117,110,105,116]) (.fn 21)),
  .op none (.C4 (.AU []) (.t 21) (.AU [115,99,104,101,109,97]) (.fn 22)),
  .op none (.C4 (.AU []) (.t 21) (.AU [100,101,114,105,118,101]) (.fn 23)),
  .op none (.C4 (.AU []) (.t 21) (.AU [99,111,110,118,101,114,116]) (.fn 24)),
  .op none (.C4 (.AU []) (.t 21) (.AU [112,117,114,112,111,115,101]) (.fn 25)),
  .op (some 22) (.c (.mv (.t 21))),
  .op (some 6) (.c (.mv (.t 22)))] [0,2,3,4,5,6] [2,3,4])
 (.seq (.rg [] [.op (some 23) (.c (.mv (.t 5))),
  .op (some 24) (.c (.mv (.t 0))),
  .op (some 25) (.c (.DI (.t 24))),
  .op (some 26) (.c (.Fa [.Ad,.int .i64 0,.agg [.Ad,.Ad,.Ad,.Ad,.Ad,.Ad]] [(0,(.t 23)),(1,(.t 25))])),
  .op (some 27) (.box 65 (.t 26)),
  .op (some 7) (.JR (.t 27) (.t 27) [(9,1,[2,0]),(94,5,[2,1]),(72,6,[2,2]),(77,5,[2,3]),(80,5,[2,4]),(83,3,[2,5])])] [2,3,4,6,7] [2,3,4])
 (.seq (.block 0 (.loop [2,3,4,6,7] Yz9))
 (.seq (.rg [] [.op (some 60) (.c (.mv (.t 7))),
  .op (some 61) (.c (.DA (.t 60))),
  .op (some 62) (.c (.Bf 2 2 (.t 61))),
  .op (some 63) (.JO 6 true (.t 62)),
  .op none (.st 6 (.t 2) (.t 63)),
  .op none (.st 1 (.t 3) (.int .i64 0)),
  .op none (.st 1 (.t 4) (.int .i64 0))] [2,3,4] [2,3,4])
 (.ret))))))))
def ok6:Pm prog 6 1 ir6 [.c 2 6 true,.c 3 1 false,.c 4 1 false]=true:=by kernel_rfl
def Y3d:Nat:=0x10450dbc223d302d0888ac6bd06b89c012004045c22951a3289c00203803004d6330f104e12d12b05c003045c22951a3289c01204d12d12b0380010ac0616330f104e040085777069036020b53
def Yj8:Nat:=0x10db243c1b23625502d08800ca310c2b5e2be386c1b9a9088b5e09b3ec0304f7a3144c00e07a05c068011c1b9a9088b5e2be93107a0380100ac06100ca3105304900f08504856300d0c9b53
def bO:Nat:=0x10db3be02bb1f02c01e12f00a0db26e00a0d618d4310090ba008089a030087e39760ba
def bP:Nat:=0x10a3086038103ae6085004aa386e00518d6ff0721fd04216b6da1560ea003431126004a4ab1e03138a0fa004
def Yj9:Nat:=0x100006302a004
def bQ:Nat:=0x110702d10311b02e0d8bc07231110030120be02f1a200505a
def bK:Nat:=0x11a402a1030293e50af19102857e0291a2
def ll:Nat:=0x11280a6c2801025e02d09301706b01949f053b4e9ac0990a6c281b900f093b4e27814a03008d01706b01949f92d00e01aa000060f3c281b900f093b4e9ac08d7c100e01d08101708900504e0160b504d0150b5ae20c10480eb0558699f505566e045066002
def lr:Nat:=0x18c80261a905c0887e29a994e0ee7a886ba4989c1ef01395602401f07d
def lz:Nat:=0x1057ad50210220041a6c180d70110be0211b1ad521d7334c601e06c18e87c04524b0030570438cc00219137c10507200001f02807d
def km:Nat:=0x116b3bd87c01c39101d0e2
def kn:Nat:=0x116b01a3f200208a69338b00703e03c00337c22c1782953b938a
def ko:Nat:=0x116b4576f60163910170e2
def kr:Nat:=0x116b01401534b0137030141b1
def kt:Nat:=0x116b01904e02f01139184b
def kv:Nat:=0x116b010002bb756ba6d2d3a080dd00d0be00f38a
def kx:Nat:=0x17b10b900d3c901328e00c39100d0e2
def pj:Nat:=0x1b3800a1be4318b7c2da7d005200090167
def Zgi:S:=zS [(zS [(zS [(zS [(zS [(zS [(zS [(zS [(zS [(zS [(zS [(zS [(zS [] Yj9),(zS [(zS [(zS [] Y3d),(zS [(zS [] Yj8)] bO)] bP)] bQ)] bK)] ll)] lr)] lz)] km)] kn)] ko)] kr)] kt)] kv)] kx)] pj
def Zsc:Xp prog 22 1 Zgi []=true:=by kernel_rfl
def Yka:Nat:=0x1040138be30c712d08b8020f015602812727b00fae000338fb9012604613408a0ea08ba5512802f01eb34
def l6:Nat:=0x1b930bf2fb02d0e2
def l8:Nat:=0x116b96886b02902786602500401a0be02800114a1c1040ad40267600263bc
def l9:Nat:=0x116b02302449d08a9b226e0d80180be02100101971215db6791c76001f3bc
def mA:Nat:=0x116b01c3282a250019192c0150be3ca01771204084502f0187600183bc
def Ykb:Nat:=0x10030db3be015b1f0160590403cc
def mB:Nat:=0x11a401410351b8457235170120be0131a2
def mD:Nat:=0x18c80102fbace
def mE:Nat:=0x177f078b448bf00332bab5b6a
def mF:Nat:=0x17b105a0164de28ebfe
def po:Nat:=0x1b388f53dc050078900
def Zgj:S:=zS [(zS [(zS [(zS [(zS [(zS [] Ykb),(zS [(zS [(zS [(zS [(zS [] Yka)] l6)] l8)] l9)] mA)] mB)] mD)] mE)] mF)] po
def Zsd:Xp prog 23 1 Zgj []=true:=by kernel_rfl
def Ykc:Nat:=0x104002802b05602a0d102908b47e9400101273a400f0260430034b9b9093f0d102208b02120091bb34
def mG:Nat:=0x1b9305900e0be01f0e2
def mH:Nat:=0x116b01c3280020d150086692c01c0be3ca01d71212802f0187600183bc
def mI:Nat:=0x18c80152fb0160e2
def mJ:Nat:=0x116b98434b0127030131b1
def mK:Nat:=0x177f33c02f010391ace
def mL:Nat:=0x177f078b6d8bf00320fab5b6a
def mM:Nat:=0x17b19341db00e1596f6bfe
def pq:Nat:=0x1b388f53dc868900
def Zgk:S:=zS [(zS [(zS [(zS [(zS [(zS [(zS [(zS [(zS [] Ykc)] mG)] mH)] mI)] mJ)] mK)] mL)] mM)] pq
def Zse:Xp prog 24 1 Zgk []=true:=by kernel_rfl
def Ykd:Nat:=0x104002b11105602d07c0b70bf08b97750794f14a00f0290434b81e40120480619920268fd02508b02420002401eb34
def lR:Nat:=0x1b9309e00e0be0220e2
def lS:Nat:=0x116b34701f2fb0200e2
def lT:Nat:=0x116b9fb89e32038b42c00330344c29500001c38a
def lU:Nat:=0x116b0961001b201939101a0e2
def lW:Nat:=0x116ba2034b78142c04a0120cf0be1c701f712040ae702f0137600133bc
def lX:Nat:=0x18c80102fbace
def lY:Nat:=0x177f30d0145bb8bf14100305700db6a
def lZ:Nat:=0x17b105a01368c0124fa6f6bfe
def YI:Nat:=0x184e26e8f504605fa74900
def Zgl:S:=zS [(zS [(zS [(zS [(zS [(zS [(zS [(zS [(zS [(zS [] Ykd)] lR)] lS)] lT)] lU)] lW)] lX)] lY)] lZ)] YI
def Zsf:Xp prog 25 1 Zgl []=true:=by kernel_rfl
def aZ:S2:=zL [12] [] Y3j
def Yvh:=(by cbv:aZ=_)
def Yjp:S2:=zL [12] [aZ] oF
def Yiw:=(show Yjp=_ from (λa=>(by cbv:zL [12] [a] oF=_)) aZ)
def YH:Ks:=.pre (.rg [.op (some 2) (.alloc 30 (.agg [.Ad,.Ad,.Ad,.Ad,.Ad,.Ad])),.op (some 3) (.alloc 3 (.int .i64 0)),.op (some 4) (.alloc 31 (.int .i64 0))] [(0,(.a (.t 0))),(2,(.a (.t 2))),(3,(.a (.t 3))),(4,(.a (.t 4)))] [])
 (.pre (.rg [.Ak [] (.u (.ext (.t 0) 0) (.call 12 (.cons (.a (.t 0)) .nil))),.Ak [] (.u (.ext (.t 0) 2) (.call 12 (.cons (.a (.t 0)) .nil))),.Ak [] (.u (.ext (.t 0) 1) (.call 12 (.cons (.a (.t 0)) .nil))),.lt 13 [] (.u (.ext (.t 0) 1) (.call 12 (.cons (.a (.t 0)) .nil))),.op none (.st 1 (.t 3) (.t 13)),.lt 14 [] (.u (.ext (.t 0) 2) (.call 12 (.cons (.a (.t 0)) .nil))),.op none (.st 1 (.t 4) (.t 14))] [(0,(.a (.t 0))),(2,(.a (.t 2))),(3,(.a (.t 3))),(4,(.a (.t 4))),(5,(.u (.ext (.t 0) 0) (.call 12 (.cons (.a (.t 0)) .nil))))] [])
 (.pre (.seq (.rg [] [(0,(.a (.t 0))),(2,(.a (.t 2))),(3,(.a (.t 3))),(4,(.a (.t 4))),(5,(.a (.t 5))),(16,(.b (.CR .neq (.t 0) (.t 1)) (.u (.ld 1 false (.t 0)) (.a (.t 4))) (.a (.int .i64 0))))] [])
 (.cond (.t 16) (.seq (.Gc (.BW 0 (.op (some 17) (.c (.ld 6 true (.t 2))))
  (.br (.cons 1 (.op (some 18) (.c (.ld 1 false (.t 3)))) (.br (.cons 2 (.op (some 19) (.c (.ld 1 false (.t 4)))) (.BW 3 (.op none (.st 6 (.t 2) (.t 17)))
  (.BW 4 (.op none (.st 1 (.t 3) (.t 18)))
  (.BW 5 (.op none (.st 1 (.t 4) (.t 19)))
  (.done))))
  (.cons 3 (.op none (.st 6 (.t 2) (.t 17))) (.br (.cons 2 (.op (some 19) (.c (.ld 1 false (.t 4)))) (.BW 4 (.op none (.st 1 (.t 3) (.t 18)))
  (.BW 5 (.op none (.st 1 (.t 4) (.t 19)))
  (.done)))
  (.cons 4 (.op none (.st 1 (.t 3) (.t 18))) (.br (.cons 2 (.op (some 19) (.c (.ld 1 false (.t 4)))) (.BW 5 (.op none (.st 1 (.t 4) (.t 19)))
  (.done))
  (.nil)))
  (.nil))))
  (.nil))))
  (.cons 2 (.op (some 19) (.c (.ld 1 false (.t 4)))) (.br (.cons 1 (.op (some 18) (.c (.ld 1 false (.t 3)))) (.BW 3 (.op none (.st 6 (.t 2) (.t 17)))
  (.BW 4 (.op none (.st 1 (.t 3) (.t 18)))
  (.BW 5 (.op none (.st 1 (.t 4) (.t 19)))
  (.done))))
  (.cons 3 (.op none (.st 6 (.t 2) (.t 17))) (.br (.cons 1 (.op (some 18) (.c (.ld 1 false (.t 3)))) (.BW 4 (.op none (.st 1 (.t 3) (.t 18)))
  (.BW 5 (.op none (.st 1 (.t 4) (.t 19)))
  (.done)))
  (.nil)))
  (.nil))))
  (.cons 3 (.op none (.st 6 (.t 2) (.t 17))) (.br (.cons 1 (.op (some 18) (.c (.ld 1 false (.t 3)))) (.br (.cons 2 (.op (some 19) (.c (.ld 1 false (.t 4)))) (.BW 4 (.op none (.st 1 (.t 3) (.t 18)))
  (.BW 5 (.op none (.st 1 (.t 4) (.t 19)))
  (.done)))
  (.cons 4 (.op none (.st 1 (.t 3) (.t 18))) (.br (.cons 2 (.op (some 19) (.c (.ld 1 false (.t 4)))) (.BW 5 (.op none (.st 1 (.t 4) (.t 19)))
  (.done))
  (.nil)))
  (.nil))))
  (.cons 2 (.op (some 19) (.c (.ld 1 false (.t 4)))) (.br (.cons 1 (.op (some 18) (.c (.ld 1 false (.t 3)))) (.BW 4 (.op none (.st 1 (.t 3) (.t 18)))
  (.BW 5 (.op none (.st 1 (.t 4) (.t 19)))
  (.done)))
  (.nil)))
  (.nil))))
  (.nil)))))) [2,3,4] [])
 (.ret)) (.skip)))
 (.EX [.op (some 20) (.c (.ES 19 [] [(.t 2),(.t 3),(.t 4)]))] [(0,(.a (.t 0))),(2,(.a (.t 2))),(3,(.a (.t 3))),(4,(.a (.t 4))),(5,(.a (.t 5))),(20,(.a (.t 20)))] 20
 (.seq (.rg [.op (some 21) (.II none),.op none (.C4 (.AU []) (.t 21) (.AU [105,115,115,117,101,114]) (.fn 20)),.op none (.C4 (.AU []) (.t 21) (.AU [117,110,105,116]) (.fn 21)),.op none (.C4 (.AU []) (.t 21) (.AU [115,99,104,101,109,97]) (.fn 22)),.op none (.C4 (.AU []) (.t 21) (.AU [100,101,114,105,118,101]) (.fn 23)),.op none (.C4 (.AU []) (.t 21) (.AU [99,111,110,118,101,114,116]) (.fn 24)),.op none (.C4 (.AU []) (.t 21) (.AU [112,117,114,112,111,115,101]) (.fn 25))] [(0,(.a (.t 0))),(2,(.a (.t 2))),(3,(.a (.t 3))),(4,(.a (.t 4))),(5,(.a (.t 5))),(6,(.a (.t 21)))] [2,3,4])
 (.seq (.rg [.Ak [] (.u (.DI (.t 0)) (.a (.t 0))),.lt 25 [] (.u (.DI (.t 0)) (.a (.t 0))),.lt 23 [] (.a (.t 5)),.op (some 26) (.c (.Fa [.Ad,(.int .i64 0),(.agg [.Ad,.Ad,.Ad,.Ad,.Ad,.Ad])] [(0,(.t 23)),(1,(.t 25))])),.op (some 27) (.box 65 (.t 26)),.op (some 7) (.JR (.t 27) (.t 27) [(9,1,[2,0]),(94,5,[2,1]),(72,6,[2,2]),(77,5,[2,3]),(80,5,[2,4]),(83,3,[2,5])])] [(2,(.a (.t 2))),(3,(.a (.t 3))),(4,(.a (.t 4))),(6,(.a (.t 6))),(7,(.a (.t 7)))] [2,3,4])
 (.seq (.block 0 (.loop [2,3,4,6,7] Yjp))
 (.seq (.rg [.Ak [] (.u (.Bf 2 2 (.t 0)) (.u (.DA (.t 0)) (.a (.t 7)))),.lt 62 [] (.u (.Bf 2 2 (.t 0)) (.u (.DA (.t 0)) (.a (.t 7)))),.op (some 63) (.JO 6 true (.t 62)),.op none (.st 6 (.t 2) (.t 63)),.op none (.st 1 (.t 3) (.int .i64 0)),.op none (.st 1 (.t 4) (.int .i64 0))] [(2,(.a (.t 2))),(3,(.a (.t 3))),(4,(.a (.t 4)))] [2,3,4])
 (.ret))))))))
def lf6:ir6.AZ [12]=some YH:=by kernel_rfl
def gp:S2:=.Gc (.BW 0 (.op (some 53) (.c (.Bf 4 4 (.t 2))))
 (.BW 2 (.op (some 55) (.c (.mv (.t 0))))
 (.br (.cons 1 (.op (some 54) (.c (.ld 1 false (.t 53)))) (.BW 3 (.op (some 56) (.call 75 [(.t 55)]))
 (.BW 4 (.op (some 57) (.GW 11 [.agg [.AU [],.agg [.int .i64 0,.int .i64 0,.int .i64 0,.AU [],.int .i64 0,.Ad],.agg (List.replicate 4 (.int .i64 0))]] [(0,(.t 56))]))
 (.BW 5 (.op (some 58) (.Im 158 11 120 (.t 54) (.t 57)))
 (.BW 6 (.op (some 59) (.c (.Bf 4 4 (.t 2))))
 (.BW 7 (.op none (.st 1 (.t 59) (.t 58)))
 (.done))))))
 (.cons 3 (.op (some 56) (.call 75 [(.t 55)])) (.br (.cons 1 (.op (some 54) (.c (.ld 1 false (.t 53)))) (.BW 4 (.op (some 57) (.GW 11 [.agg [.AU [],.agg [.int .i64 0,.int .i64 0,.int .i64 0,.AU [],.int .i64 0,.Ad],.agg (List.replicate 4 (.int .i64 0))]] [(0,(.t 56))]))
 (.BW 5 (.op (some 58) (.Im 158 11 120 (.t 54) (.t 57)))
 (.BW 6 (.op (some 59) (.c (.Bf 4 4 (.t 2))))
 (.BW 7 (.op none (.st 1 (.t 59) (.t 58)))
 (.done)))))
 (.cons 4 (.op (some 57) (.GW 11 [.agg [.AU [],.agg [.int .i64 0,.int .i64 0,.int .i64 0,.AU [],.int .i64 0,.Ad],.agg (List.replicate 4 (.int .i64 0))]] [(0,(.t 56))])) (.br (.cons 1 (.op (some 54) (.c (.ld 1 false (.t 53)))) (.BW 5 (.op (some 58) (.Im 158 11 120 (.t 54) (.t 57)))
 (.BW 6 (.op (some 59) (.c (.Bf 4 4 (.t 2))))
 (.BW 7 (.op none (.st 1 (.t 59) (.t 58)))
 (.done))))
 (.nil)))
 (.nil))))
 (.nil)))))) [0,2] []
def gq:S2:=zL [] [] Yj8
def Ymy:=(by cbv:gq=_)
def gr:S2:=zL [] [gq] bO
def sX:=(show gr=_ from (λa=>(by cbv:zL [] [a] bO=_)) gq)
def gu:S2:=zL [] [gp,gr] bP
def sY:=(show gu=_ from (λ(a b:S2)=>(by cbv:zL [] [a,b] bP=_)) gp gr)
def gw:S2:=zL [] [] Yj9
def sZ:=(by cbv:gw=_)
def iU:S2:=zL [] [gu] bQ
def Ymz:=(show iU=_ from (λa=>(by cbv:zL [] [a] bQ=_)) gu)
def gn:S2:=zL [] [gw,iU] bK
def Ymx:=(show gn=_ from (λ(a b:S2)=>(by cbv:zL [] [a,b] bK=_)) gw iU)
def iV:S2:=zL [] [gn] ll
def Ym0:=(show iV=_ from (λa=>(by cbv:zL [] [a] ll=_)) gn)
def iW:S2:=zL [] [iV] lr
def Ym1:=(show iW=_ from (λa=>(by cbv:zL [] [a] lr=_)) iV)
def iX:S2:=zL [] [iW] lz
def Ym2:=(show iX=_ from (λa=>(by cbv:zL [] [a] lz=_)) iW)
def fV:S2:=zL [] [iX] km
def Yex:=(show fV=_ from (λa=>(by cbv:zL [] [a] km=_)) iX)
def fW:S2:=zL [] [fV] kn
def Yey:=(show fW=_ from (λa=>(by cbv:zL [] [a] kn=_)) fV)
def fX:S2:=zL [] [fW] ko
def Yez:=(show fX=_ from (λa=>(by cbv:zL [] [a] ko=_)) fW)
def fY:S2:=zL [] [fX] kr
def Ye0:=(show fY=_ from (λa=>(by cbv:zL [] [a] kr=_)) fX)
def fZ:S2:=zL [] [fY] kt
def Ye1:=(show fZ=_ from (λa=>(by cbv:zL [] [a] kt=_)) fY)
def fc:S2:=zL [] [fZ] kv
def Ye2:=(show fc=_ from (λa=>(by cbv:zL [] [a] kv=_)) fZ)
def ff:S2:=zL [] [fc] kx
def Ye3:=(show ff=_ from (λa=>(by cbv:zL [] [a] kx=_)) fc)
def Ziy:S2:=zL [] [ff] pj
def Zmz:=(show Ziy=_ from (λa=>(by cbv:zL [] [a] pj=_)) ff)
def Zo7:Zgi.AZ []=some Ziy:=by kernel_rfl
def iY:S2:=zL [] [] Yka
def Ym4:=(by cbv:iY=_)
def iZ:S2:=zL [] [iY] l6
def Ym5:=(show iZ=_ from (λa=>(by cbv:zL [] [a] l6=_)) iY)
def ia:S2:=zL [] [iZ] l8
def Ym6:=(show ia=_ from (λa=>(by cbv:zL [] [a] l8=_)) iZ)
def ib:S2:=zL [] [ia] l9
def Ym7:=(show ib=_ from (λa=>(by cbv:zL [] [a] l9=_)) ia)
def ic:S2:=zL [] [ib] mA
def Ym8:=(show ic=_ from (λa=>(by cbv:zL [] [a] mA=_)) ib)
def ie:S2:=zL [] [] Ykb
def sc:=(by cbv:ie=_)
def ig:S2:=zL [] [ie,ic] mB
def Ym9:=(show ig=_ from (λ(a b:S2)=>(by cbv:zL [] [a,b] mB=_)) ie ic)
def ij:S2:=zL [] [ig] mD
def Yna:=(show ij=_ from (λa=>(by cbv:zL [] [a] mD=_)) ig)
def ik:S2:=zL [] [ij] mE
def Ynb:=(show ik=_ from (λa=>(by cbv:zL [] [a] mE=_)) ij)
def il:S2:=zL [] [ik] mF
def Ync:=(show il=_ from (λa=>(by cbv:zL [] [a] mF=_)) ik)
def Ziz:S2:=zL [] [il] po
def Zm0:=(show Ziz=_ from (λa=>(by cbv:zL [] [a] po=_)) il)
def Zo8:Zgj.AZ []=some Ziz:=by kernel_rfl
def im:S2:=zL [] [] Ykc
def Ynd:=(by cbv:im=_)
def iq:S2:=zL [] [im] mG
def Yne:=(show iq=_ from (λa=>(by cbv:zL [] [a] mG=_)) im)
def iu:S2:=zL [] [iq] mH
def Ynf:=(show iu=_ from (λa=>(by cbv:zL [] [a] mH=_)) iq)
def iw:S2:=zL [] [iu] mI
def Yng:=(show iw=_ from (λa=>(by cbv:zL [] [a] mI=_)) iu)
def ix:S2:=zL [] [iw] mJ
def Ynh:=(show ix=_ from (λa=>(by cbv:zL [] [a] mJ=_)) iw)
def iy:S2:=zL [] [ix] mK
def Yni:=(show iy=_ from (λa=>(by cbv:zL [] [a] mK=_)) ix)
def iz:S2:=zL [] [iy] mL
def Ynj:=(show iz=_ from (λa=>(by cbv:zL [] [a] mL=_)) iy)
def jA:S2:=zL [] [iz] mM
def Ynk:=(show jA=_ from (λa=>(by cbv:zL [] [a] mM=_)) iz)
def Zi0:S2:=zL [] [jA] pq
def Zm1:=(show Zi0=_ from (λa=>(by cbv:zL [] [a] pq=_)) jA)
def Zo9:Zgk.AZ []=some Zi0:=by kernel_rfl
def jB:S2:=zL [] [] Ykd
def Ynl:=(by cbv:jB=_)
def jC:S2:=zL [] [jB] lR
def Ynm:=(show jC=_ from (λa=>(by cbv:zL [] [a] lR=_)) jB)
def jD:S2:=zL [] [jC] lS
def Ynn:=(show jD=_ from (λa=>(by cbv:zL [] [a] lS=_)) jC)
def jE:S2:=zL [] [jD] lT
def Yno:=(show jE=_ from (λa=>(by cbv:zL [] [a] lT=_)) jD)
def iK:S2:=zL [] [jE] lU
def Ynp:=(show iK=_ from (λa=>(by cbv:zL [] [a] lU=_)) jE)
def iL:S2:=zL [] [iK] lW
def Ynq:=(show iL=_ from (λa=>(by cbv:zL [] [a] lW=_)) iK)
def iM:S2:=zL [] [iL] lX
def Ynr:=(show iM=_ from (λa=>(by cbv:zL [] [a] lX=_)) iL)
def iN:S2:=zL [] [iM] lY
def Yns:=(show iN=_ from (λa=>(by cbv:zL [] [a] lY=_)) iM)
def iO:S2:=zL [] [iN] lZ
def Ynt:=(show iO=_ from (λa=>(by cbv:zL [] [a] lZ=_)) iN)
def Zi1:S2:=zL [] [iO] YI
def Zm2:=(show Zi1=_ from (λa=>(by cbv:zL [] [a] YI=_)) iO)
def Zpa:Zgl.AZ []=some Zi1:=by kernel_rfl
section
attribute [local simp] Ca B7
attribute [local simp ↓] ql qn qo qi qh qj qk qm wg zy we wh wc zt zu zr zx zw qq qp qy qz zn zb qx qr zo qw qv qt zd zi zf zj zl zm wo wj wq wp qb qa qd qc qe qg qf zq zp
section
variable {P:BA} (hPp:P.p=prog) (hI:Ep P) {ts:List BH} {en:Int} {s:Bl} (hs:Iw s) {K:BN->AF->Prop}
include hPp hI hs
theorem Ydy(h:PS K en (P5 s ts)):AX P 24 [.ptr 4 []] (GC en ts s) K:=by
 refine AY hPp AQ Zse Zo9 A4.nil λ_ c=>?_;simp[Zm1,hI.AV,hI.AN,hI.As,hI.AP,hI.A6];refine NO hPp (S:=nA s) (by simp) (by simp) _ 16 (PS.bind h (λts' e h=>?_) (λa ts' b h=>?_))
 ·simp;exact Xr (h s) (by simp) (by simp[AD])
 simp[hI.AV,hI.AN,hI.As,hI.AP,hI.A6,Ynk];refine Ws hPp (S:=nA s) (by simp) (by simp) _ (PS.bind h (λts' e h=>?_) (λa ts' b h=>?_))
 ·simp;exact Xr (h s) (by simp) (by simp[AD])
 simp[hI.AV,hI.AN,hI.As,hI.AP,hI.A6,Ynj];refine Zt hPp (S:=nA s) (by simp) (by simp) (PS.bind h (λts' e h=>?_) (λa ts' b h=>?_))
 ·simp;exact Xr (h s) (by simp) (by simp[AD])
 simp[hI.AV,hI.AN,hI.As,hI.AP,hI.A6,Yni];refine Ws hPp (S:=nA s) (by simp) (by simp) _ (PS.bind h (λts' e h=>?_) (λa ts' b h=>?_))
 ·simp;exact Xr (h s) (by simp) (by simp[AD])
 simp[hI.AV,hI.AN,hI.As,hI.AP,hI.A6,Ynh];refine Zt hPp (S:=nA s) (by simp) (by simp) (PS.bind h (λts' e h=>?_) (λa ts' b h=>?_))
 ·simp;exact Xr (h s) (by simp) (by simp[AD])
 simp[hI.AV,hI.AN,hI.As,hI.AP,hI.A6,Yng];refine Yx hPp (S:=nA s) (by simp) (by simp) _ (PS.bind h (λts' e h=>?_) (λa ts' b h=>?_))
 ·simp;exact Xr (h s) (by simp) (by simp[AD])
 simp[hI.AV,hI.AN,hI.As,hI.AP,hI.A6,Ynf];refine Sb hPp (ts:=ts') (en:=en) (S:=nA s) (by simp) _ 12 (by simp) ?_;simp;refine Yue hPp (S:=nA s) (by simp) (by simp) (enc:=EB.enc) (by simp) (Xz 1 []) NX 11 (by decide) _ _ [] _ [.ptr 4 []] [] (Q2 hPp).2.2.1 (Q2 hPp).2.2.2.2.2.2.1 14 (by simp) (λts o K h=>?_) (λts o K h=>?_) (PS.bind h (λts' e h=>?_) (λa ts' b h=>?_))
 ·exact J8 hPp (S:=nA s) (p:=4) (ts:=ts) (en:=en) (t:=[]) (by simp) (by simp) (by simp) (by simp) (by simpa using h)
 ·exact Y4p hPp (S:=nA s) (by simp) (p:=4) (ts:=ts) (en:=en) (by simp) hI h
 ·simp;exact Xr (h s) (by simp) (by simp[AD])
 simp[hI.AV,hI.AN,hI.As,hI.AP,hI.A6,Yne];refine Yx hPp (S:=nA s) (by simp) (by simp) _ (PS.bind h (λts' e h=>?_) (λa ts' b h=>?_))
 ·simp;exact Xr (h s) (by simp) (by simp[AD])
 simp[hI.AV,hI.AN,hI.As,hI.AP,hI.A6,Ynd];refine⟨by have:=hs.AM;omega,?_⟩;exact Xr (s:={s with AM:=s.AM++[⟨_,_,_⟩] }) h (by simp) (by simp[AD];rfl)
end
attribute [local simp] Ca B7
attribute [local simp ↓] ql qn qo qi qh qj qk qm wg zy we wh wc zt zu zr zx zw qq qp qy qz zn zb qx qr zo qw qv qt zd zi zf zj zl zm wo wj wq wp qb qa qd qc qe qg qf zq zp
section
variable {P:BA} (hPp:P.p=prog) (hI:Ep P) {ts:List BH} {en:Int} {s:Bl} (hs:Iw s) {K:BN->AF->Prop}
include hPp hI hs
theorem Yd2(h:PS K en (P9 s ts)):AX P 25 [.ptr 4 []] (GC en ts s) K:=by
 refine AY hPp AQ Zsf Zpa A4.nil λ_ c=>?_;simp[Zm2,hI.AV,hI.AN,hI.As,hI.AP,hI.A6];refine NO hPp (S:=nA s) (by simp) (by simp) _ 8 (PS.bind h (λts' e h=>?_) (λa ts' b h=>?_))
 ·simp;exact Xr (h s) (by simp) (by simp[AD])
 simp[hI.AV,hI.AN,hI.As,hI.AP,hI.A6,Ynt];refine Ws hPp (S:=nA s) (by simp) (by simp) _ (PS.bind h (λts' e h=>?_) (λa ts' b h=>?_))
 ·simp;exact Xr (h s) (by simp) (by simp[AD])
 simp[hI.AV,hI.AN,hI.As,hI.AP,hI.A6,Yns];refine Zt hPp (S:=nA s) (by simp) (by simp) (PS.bind h (λts' e h=>?_) (λa ts' b h=>?_))
 ·simp;exact Xr (h s) (by simp) (by simp[AD])
 simp[hI.AV,hI.AN,hI.As,hI.AP,hI.A6,Ynr];refine Yx hPp (S:=nA s) (by simp) (by simp) _ (PS.bind h (λts' e h=>?_) (λa ts' b h=>?_))
 ·simp;exact Xr (h s) (by simp) (by simp[AD])
 simp[hI.AV,hI.AN,hI.As,hI.AP,hI.A6,Ynq];refine Sb hPp (ts:=ts') (en:=en) (S:=nA s) (by simp) _ 12 (by simp) ?_;simp;refine Yug hPp (S:=nA s) (by simp) (by simp) (enc:=HL.enc) (by simp) (Xz 1 [109,97,121]) Ni 32 (by decide) _ _ [] _ [.ptr 4 []] [] (Q2 hPp).2.2.1 (Q2 hPp).2.2.2.2.2.2.2 14 (by simp) (λts o K h=>?_) (λts o K h=>?_) (PS.bind h (λts' e h=>?_) (λa ts' b h=>?_))
 ·exact J8 hPp (S:=nA s) (p:=4) (ts:=ts) (en:=en) (t:=[109,97,121]) (by simp) (by simp) (by simp) (by simp) (by simpa using h)
 ·exact Zfn hPp (S:=nA s) (by simp) (p:=4) (ts:=ts) (en:=en) (by simp) h
 ·simp;exact Xr (h s) (by simp) (by simp[AD])
 simp[hI.AV,hI.AN,hI.As,hI.AP,hI.A6,Ynp];refine Ws hPp (S:=nA s) (by simp) (by simp) _ (PS.bind h (λts' e h=>?_) (λa ts' b h=>?_))
 ·simp;exact Xr (h s) (by simp) (by simp[AD])
 simp[hI.AV,hI.AN,hI.As,hI.AP,hI.A6,Yno];refine Z6 hPp (S:=nA s) (by simp) (by simp) _ _ (PS.bind h (λts' e h=>?_) (λa ts' b h=>?_))
 ·simp;exact Xr (h s) (by simp) (by simp[AD])
 simp[hI.AV,hI.AN,hI.As,hI.AP,hI.A6,Ynn];refine Yx hPp (S:=nA s) (by simp) (by simp) _ (PS.bind h (λts' e h=>?_) (λa ts' b h=>?_))
 ·simp;exact Xr (h s) (by simp) (by simp[AD])
 simp[hI.AV,hI.AN,hI.As,hI.AP,hI.A6,Ynm];refine Yx hPp (S:=nA s) (by simp) (by simp) _ (PS.bind h (λts' e h=>?_) (λa ts' b h=>?_))
 ·simp;exact Xr (h s) (by simp) (by simp[AD])
 simp[hI.AV,hI.AN,hI.As,hI.AP,hI.A6,Ynl];refine⟨by have:=hs.AK;omega,?_⟩;exact Xr (s:={s with AK:=s.AK++[⟨_,_,_⟩] }) h (by simp) (by simp[AD];rfl)
end
attribute [local simp] Ca B7
attribute [local simp ↓] ql qn qo qi qh qj qk qm wg zy we wh wc zt zu zr zx zw qq qp qy qz zn zb qx qr zo qw qv qt zd zi zf zj zl zm wo wj wq wp qb qa qd qc qe qg qf zq zp
section
variable {P:BA} (hPp:P.p=prog) (hI:Ep P) {ts:List BH} {en:Int} {s:Bl} (hs:Iw s) {K:BN->AF->Prop}
include hPp hI hs
theorem Y4r(h:PS K en (P1 s ts)):AX P 23 [.ptr 4 []] (GC en ts s) K:=by
 refine AY hPp AQ Zsd Zo8 A4.nil λ_ d=>?_;simp[Zm0,hI.AV,hI.AN,hI.As,hI.AP,hI.A6];refine NO hPp (S:=nA s) (by simp) (by simp) _ 16 (PS.bind h (λts' e h=>?_) (λa ts' b h=>?_))
 ·simp;exact Xr (h s) (by simp) (by simp[AD])
 simp[hI.AV,hI.AN,hI.As,hI.AP,hI.A6,Ync];refine Ws hPp (S:=nA s) (by simp) (by simp) _ (PS.bind h (λts' e h=>?_) (λa ts' b h=>?_))
 ·simp;exact Xr (h s) (by simp) (by simp[AD])
 simp[hI.AV,hI.AN,hI.As,hI.AP,hI.A6,Ynb];refine Zt hPp (S:=nA s) (by simp) (by simp) (PS.bind h (λts' e h=>?_) (λa ts' b h=>?_))
 ·simp;exact Xr (h s) (by simp) (by simp[AD])
 simp[hI.AV,hI.AN,hI.As,hI.AP,hI.A6,Yna];refine Yx hPp (S:=nA s) (by simp) (by simp) _ (PS.bind h (λts' e h=>?_) (λa ts' b h=>?_))
 ·simp;exact Xr (h s) (by simp) (by simp[AD])
 simp[hI.AV,hI.AN,hI.As,hI.AP,hI.A6,Ym9];refine L0 hPp (S:=nA s) (ts:=ts') (en:=en) (by simp) (by simp) _ _ ?_;cases c:Xz 1 [102,114,111,109] ts' with
 |false=>
  simp only[Ev,c,BO,Bs]at h;simp[sc];refine Ug hPp (S:=nA s) (ts:=ts') (en:=en) (by simp) (by simp) _ ?_;simp;exact Xr (h s) (by simp) (by simp[AD])
 |true=>
  simp only[Ev,c,Bu]at h;simp[sc,Ym8];refine Sb hPp (ts:=ts') (en:=en) (S:=nA s) (by simp) _ 12 (by simp) ?_;simp;refine Yud hPp (S:=nA s) (by simp) (by simp) (enc:=Dp.enc) (by simp) (Xz 1 [102,114,111,109]) Hv 3 (by decide) _ _ [] _ [.ptr 4 []] [] (Q2 hPp).2.2.1 (Q2 hPp).2.2.2.1 14 (by simp) (λts o K h=>?_) (λts o K h=>?_) (PS.bind h (λts' e h=>?_) (λa ts' b h=>?_))
  ·exact J8 hPp (S:=nA s) (p:=4) (ts:=ts) (en:=en) (t:=[102,114,111,109]) (by simp) (by simp) (by simp) (by simp) (by simpa using h)
  ·exact Y4n hPp (S:=nA s) (by simp) (p:=4) (ts:=ts) (en:=en) (by simp) h
  ·simp;exact Xr (h s) (by simp) (by simp[AD])
  simp[hI.AV,hI.AN,hI.As,hI.AP,hI.A6,Ym7];refine Sb hPp (ts:=ts') (en:=en) (S:=nA s) (by simp) _ 14 (by simp) ?_;simp;refine Yuc hPp (S:=nA s) (by simp) (by simp) (enc:=DV.enc) (by simp) (Xz 1 [119,104,101,114,101]) NM 8 (by decide) _ _ [] _ [.ptr 4 []] [] (Q2 hPp).2.2.1 (Q2 hPp).2.2.2.2.1 16 (by simp) (λts o K h=>?_) (λts o K h=>?_) (PS.bind h (λts' e h=>?_) (λa ts' b h=>?_))
  ·exact J8 hPp (S:=nA s) (p:=4) (ts:=ts) (en:=en) (t:=[119,104,101,114,101]) (by simp) (by simp) (by simp) (by simp) (by simpa using h)
  ·exact Yui hPp (S:=nA s) (by simp) (p:=4) (ts:=ts) (en:=en) (by simp) hI h
  ·simp;exact Xr (h s) (by simp) (by simp[AD])
  simp[hI.AV,hI.AN,hI.As,hI.AP,hI.A6,Ym6];refine Sb hPp (ts:=ts') (en:=en) (S:=nA s) (by simp) _ 16 (by simp) ?_;simp;refine Yuh hPp (S:=nA s) (by simp) (by simp) (enc:=DX.enc) (by simp) (Xz 1 [115,101,116]) Nk 11 (by decide) _ _ [] _ [.ptr 4 []] [] (Q2 hPp).2.2.1 (Q2 hPp).2.2.2.2.2.1 18 (by simp) (λts o K h=>?_) (λts o K h=>?_) (PS.bind h (λts' e h=>?_) (λa ts' b h=>?_))
  ·exact J8 hPp (S:=nA s) (p:=4) (ts:=ts) (en:=en) (t:=[115,101,116]) (by simp) (by simp) (by simp) (by simp) (by simpa using h)
  ·exact Zfo hPp (S:=nA s) (by simp) (p:=4) (ts:=ts) (en:=en) (by simp) hI h
  ·simp;exact Xr (h s) (by simp) (by simp[AD])
  simp[hI.AV,hI.AN,hI.As,hI.AP,hI.A6,Ym5];refine Yx hPp (S:=nA s) (by simp) (by simp) _ (PS.bind h (λts' e h=>?_) (λa ts' b h=>?_))
  ·simp;exact Xr (h s) (by simp) (by simp[AD])
  simp[hI.AV,hI.AN,hI.As,hI.AP,hI.A6,Ym4];refine⟨by have:=hs.AT;omega,?_⟩;exact Xr (s:={s with AT:=s.AT++[⟨_,_,_,_⟩] }) h (by simp) (by simp[AD];rfl)
end
attribute [local simp] Ca B7
attribute [local simp ↓] ql qn qo qi qh qj qk qm wg zy we wh wc zt zu zr zx zw qq qp qy qz zn zb qx qr zo qw qv qt zd zi zf zj zl zm wo wj wq wp qb qa qd qc qe qg qf zq zp
def Yw3{e f:Type}{c:List BH->Bool}{a b:M e}{g:e->M f}{d:List BH}(h:c d=true):(Ev c a b >>= g) d=(a >>= g) d:=by simp only[Xo,Ev,h,Bu]
def Yw2{e f:Type}{c:List BH->Bool}{a b:M e}{g:e->M f}{d:List BH}(h:c d=false):(Ev c a b >>= g) d=(b >>= g) d:=by simp only[Xo,Ev,h,Bs,BO]
def QD{g i:Type}{m:M g}{f:g->M i}{d ts':List BH}{b:i}(h:(m >>= f) d=.ok b ts'):∃a c,m d=.ok a c/\f a c=.ok b ts':=by
 rw[Xo]at h;cases e:m d with
 |ok a c=>rw[e]at h;exact⟨a,c,rfl,h⟩
 |Bi a b=>rw[e]at h;cases h
def X1z{f:Field}{g ts':List BH}(h:NF g=.ok f ts'):∃a b c d,f.AP=[a,b,c,d]:=by
 simp only[NF]at h;obtain⟨_,_,_,h⟩:=QD h;obtain⟨_,_,_,h⟩:=QD h;obtain⟨_,_,_,h⟩:=QD h;obtain⟨_,_,_,h⟩:=QD h;obtain⟨w,_,e,h⟩:=QD h;obtain⟨_,_,_,h⟩:=QD h;cases h;exact J7 e
def Xr3{f:Field}{g ts':List BH}(h:NF g=.ok f ts'):f.enc.shape=.node [.AR,.node [.AR,.AR,.AR,.AR,.AR,.AR],.node [.AR,.AR,.AR,.AR]]:=by
 obtain⟨a,b,c,d,e⟩:=X1z h;simp[Field.enc,e,D.shape]
def Xou(d:CE):d.enc.shape=.node [.AR,.AR,.AR,.AR]:=by simp[CE.enc,Xg,D.shape]
section
variable {P:BA} (hPp:P.p=prog) (hI:Ep P) {ts:List BH} {en:Int} {s:Bl} (hs:Iw s) {K:BN->AF->Prop}
include hPp hI hs
theorem Yin(h:PS K en (QJ s ts)):AX P 22 [.ptr 4 []] (GC en ts s) K:=by
 refine AY hPp AQ Zsc Zo7 A4.nil λ_ H=>?_;simp[Zmz,hI.AV,hI.AN,hI.As,hI.AP,hI.A6];refine NO hPp (S:=nA s) (by simp) (by simp) _ 16 (PS.bind h (λts' e h=>?_) (λa ts' b h=>?_))
 ·simp;exact Xr (h s) (by simp) (by simp[AD])
 simp[hI.AV,hI.AN,hI.As,hI.AP,hI.A6,Ye3];refine Ws hPp (S:=nA s) (by simp) (by simp) _ (PS.bind h (λts' e h=>?_) (λa ts' b h=>?_))
 ·simp;exact Xr (h s) (by simp) (by simp[AD])
 simp[hI.AV,hI.AN,hI.As,hI.AP,hI.A6,Ye2];refine Zt hPp (S:=nA s) (by simp) (by simp) (PS.bind h (λts' e h=>?_) (λa ts' b h=>?_))
 ·simp;exact Xr (h s) (by simp) (by simp[AD])
 simp[hI.AV,hI.AN,hI.As,hI.AP,hI.A6,Ye1];refine Ws hPp (S:=nA s) (by simp) (by simp) _ (PS.bind h (λts' e h=>?_) (λa ts' b h=>?_))
 ·simp;exact Xr (h s) (by simp) (by simp[AD])
 simp[hI.AV,hI.AN,hI.As,hI.AP,hI.A6,Ye0];refine Zt hPp (S:=nA s) (by simp) (by simp) (PS.bind h (λts' e h=>?_) (λa ts' b h=>?_))
 ·simp;exact Xr (h s) (by simp) (by simp[AD])
 simp[hI.AV,hI.AN,hI.As,hI.AP,hI.A6,Yez];refine Ws hPp (S:=nA s) (by simp) (by simp) _ (PS.bind h (λts' e h=>?_) (λa ts' b h=>?_))
 ·simp;exact Xr (h s) (by simp) (by simp[AD])
 simp[hI.AV,hI.AN,hI.As,hI.AP,hI.A6,Yey];refine Z6 hPp (S:=nA s) (by simp) (by simp) _ _ (PS.bind h (λts' e h=>?_) (λa ts' b h=>?_))
 ·simp;exact Xr (h s) (by simp) (by simp[AD])
 simp[hI.AV,hI.AN,hI.As,hI.AP,hI.A6,Yex];refine Ws hPp (S:=nA s) (by simp) (by simp) _ (PS.bind h (λts' e h=>?_) (λa ts' b h=>?_))
 ·simp;exact Xr (h s) (by simp) (by simp[AD])
 simp[hI.AV,hI.AN,hI.As,hI.AP,hI.A6,Ym2];refine yu hPp (S:=nA s) (by simp) (by simp) hI (PS.bind h (λts' e h=>?_) (λa ts' b h=>?_))
 ·simp;exact Xr (h s) (by simp) (by simp[AD])
 obtain⟨z,F,G,w4,rfl⟩:=J7 b;simp[Ym1];refine Yx hPp (S:=nA s) (by simp) (by simp) _ (PS.bind h (λts' e h=>?_) (λa ts' b h=>?_))
 ·simp;exact Xr (h s) (by simp) (by simp[AD])
 simp[hI.AV,hI.AN,hI.As,hI.AP,hI.A6,Ym0];have Cq:∀(ts':List BH)(e:Int),(∀s,K (.panic (.d (G0 en ts' e))) (GC en ts' s))->∀(o p q r:Ob),Yk 11 (K (.panic (.d (G0 en ts' e)))) [.d (G0 en ts' e)] ((14,o)::(13,p)::(12,q)::(11,r)::GC en ts' s):=λts' e h o p q r=>Xr (h s) (by simp) (by simp[AD]);refine Au.go (ι:=Bt×List BH) (λ_=>[(0,.ptr 4 []),(2,.ptr 11 [])])
  (λj=>(14,.BG 162 4 (j.1.Ac.map CE.enc))::(13,.BG 158 11 (j.1.AL.map Field.enc))::(12,.box 158 (.d (Field.enc ⟨[115,101,108,102],.Dc,[z,F,G,w4]⟩)))::(11,.box 72 (.agg [.d (.AU j.1.name),.d (.AU j.1.Eg),.d (iD 0),.d (iD j.1.BU),.sl 13 j.1.AL.length,.sl 14 j.1.Ac.length]))::GC en j.2 s)
  (λj=>1<=j.1.AL.length/\j.1.AL.length<=12/\j.1.Ac.length<=8/\PS K en ((L8 (22-(j.1.AL.length+j.1.Ac.length)) j.1 >>= λx=>pure {s with AE:=s.AE++[x] }) j.2)) (λj=>20-(j.1.AL.length+j.1.Ac.length)) (⟨_,_,_,[⟨_,_,_⟩],[]⟩,_) ⟨by simp,by simp,by simp,h⟩ (by simp) (by simp[Field.enc,C1.enc]) ?_
 clear h;rintro⟨x,y⟩ ⟨c,u,t,h⟩ R m w J g;dsimp only at c u t h m;obtain⟨n,v⟩:∃n,22-(x.AL.length+x.Ac.length)=n+1:=⟨21-(x.AL.length+x.Ac.length),by omega⟩
 rw[v,L8,Yc]at h;simp[Ymx];refine Zq hPp (S:=nA s) (by simp) (by simp) _ _ (PS.bind h (λts' e h=>?_) (λa ts' b h=>?_))
 ·simp;refine g _ _ _ ?_;simp;exact Cq _ _ h _ _ _ _
 cases a with
 |true=>
  simp only[Bu,Y6]at h;simp[sZ];refine w _ _ _ ?_;simp;exact⟨by have:=hs.AE;omega,Xr (s:={s with AE:=s.AE++[x] }) h (by simp) (by simp[AD];rfl)⟩
 |false=>
  simp only[BO,Bs]at h;simp[sZ,Ymz];refine L0 hPp (S:=nA s) (ts:=ts') (en:=en) (by simp) (by simp) _ _ ?_;cases i:Xz 1 [102,105,101,108,100] ts' with
  |true=>
   rw[Yw3 i,Yc]at h;simp[sY];refine NO hPp (S:=nA s) (by simp) (by simp) _ 12 (PS.bind h (λts' e h=>?_) (λa ts' b h=>?_))
   ·simp;refine g _ _ _ ?_;simp;exact Cq _ _ h _ _ _ _
   have l:x.AL.length<12:=by
    simp only[Uk]at b;split at b
    ·cases b
    ·omega
   rw[Yc]at h;simp[gp];refine⟨?_,?_⟩
   all_goals
    refine Yua hPp (S:=nA s) (by simp) (by simp) hI (PS.bind h (λts' e h=>?_) (λa ts' b h=>?_))
    ·simp;refine g _ _ _ ?_;simp;exact Cq _ _ h _ _ _ _
    have f:=Xr3 b;simp[f];refine⟨by omega,?_⟩;refine m [] ({x with AL:=x.AL++[a] },ts') _ _ ⟨by first|exact c|simp,by simp;omega,by simp;omega,?_⟩ (by simp;omega) (by simp) (by simp[AD]) (by simp[AD]) (by simp[AD,Zd]);simp only[C7,List.length_singleton];rw[show 22-(x.AL.length+1+x.Ac.length)=n by omega];exact h
  |false=>
   rw[Yw2 i]at h;simp[sY];refine L0 hPp (S:=nA s) (ts:=ts') (en:=en) (by simp) (by simp) _ _ ?_;cases k:Xz 1 [100,101,112,101,110,100] ts' with
   |false=>
    rw[Yw2 k]at h;simp[sX];refine Ug hPp (S:=nA s) (ts:=ts') (en:=en) (by simp) (by simp) _ ?_;simp;refine g _ _ _ ?_;simp;exact Cq _ _ h _ _ _ _
   |true=>
    rw[Yw3 k,Yc]at h;simp[sX];refine NO hPp (S:=nA s) (by simp) (by simp) _ 8 (PS.bind h (λts' e h=>?_) (λa ts' b h=>?_))
    ·simp;refine g _ _ _ ?_;simp;exact Cq _ _ h _ _ _ _
    have l:x.Ac.length<8:=by
     simp only[Uk]at b;split at b
     ·cases b
     ·omega
    rw[Yc]at h;simp[Ymy];refine⟨?_,?_⟩
    all_goals
     refine Yil hPp (S:=nA s) (by simp) (by simp) (PS.bind h (λts' e h=>?_) (λa ts' b h=>?_))
     ·simp;refine g _ _ _ ?_;simp;exact Cq _ _ h _ _ _ _
     have f:=Xou a;simp[f];refine⟨by omega,?_⟩;refine m [] ({x with Ac:=x.Ac++[a] },ts') _ _ ⟨by first|exact c|simp,by simp;omega,by simp;omega,?_⟩ (by simp;omega) (by simp) (by simp[AD]) (by simp[AD]) (by simp[AD,Zd]);simp only[C7,List.length_singleton];rw[show 22-(x.AL.length+(x.Ac.length+1))=n by omega];exact h
end
end
def R.Mq{a:Type}:R a->List BH
|.ok _ r=>r
|.Bi r _=>r
def R.Lo{a:Type}:R a->Prop
|.ok _ r=>r=[]
|.Bi r _=>r=[]
def R.map{b:Type}(g:BH->BH):R b->R b
|.ok a r=>.ok a (r.map g)
|.Bi r e=>.Bi (r.map g) e
def Uu{f:Type}(m:M f)(d b:List BH):Prop:=match m (d++b) with
|.ok a r=>(∃c,r=c++b/\m d=.ok a c)\/(r.length<b.length/\(m d).Lo)
|.Bi r e=>(∃c,c≠[]/\r=c++b/\m d=.Bi c e)\/(r.length<=b.length/\(m d).Lo)
def Mv(g:BH->BH):Prop:=∀t,(g t).kind=t.kind/\(g t).DJ=t.DJ/\(g t).n=t.n
structure BZ{α:Type}(m:M α):Prop where
 Mt:∀ts,(m ts).Mq <:+ ts
 Rh:∀pre post,Uu m pre post
 mv:∀g,Mv g->∀ts,m (ts.map g)=(m ts).map g
def U4{c:Type}(m:M c):Prop:=∀b a r,m b=.ok a r->r.length<b.length
section
variable {α β:Type}
def BZ.ok{m:M α}(h:BZ m){b r:List BH}{a:α}(e:m b=.ok a r):r <:+ b:=by have:=h.Mt b;rw[e]at this;exact this
def BZ.er{m:M α}(h:BZ m){a r:List BH}{b:Int}(e:m a=.Bi r b):r <:+ a:=by have:=h.Mt a;rw[e]at this;exact this
def BZ.E7{m:M α}(h:BZ m):(m []).Lo:=by
 have:=h.Mt [];cases e:m []with
 |ok a r=>rw[e]at this;exact List.suffix_nil.1 this
 |Bi r x=>rw[e]at this;exact List.suffix_nil.1 this
def BZ.pure(a:α):BZ (pure a:M α):=⟨λd=>List.suffix_rfl,λb c=>.inl ⟨b,rfl,rfl⟩,λ_ _ _=>rfl⟩
def BZ.fail(e:Int):BZ (fail e:M α):=by
 refine⟨λc=>List.suffix_rfl,λa b=>?_,λ_ _ _=>rfl⟩;simp only[Uu,fail];cases a with
 |nil=>exact .inr ⟨by simp,rfl⟩
 |cons x p=>exact .inl ⟨x::p,by simp,rfl,rfl⟩
def BZ.bind{m:M α}{f:α->M β}(q:BZ m)(k:∀a,BZ (f a)):BZ (m >>= f):=by
 refine⟨λo=>?_,λi h=>?_,λg w o=>?_⟩
 ·rw[Xo];have c:=q.Mt o;cases e:m o with
  |ok a r=>rw[e]at c;exact((k a).Mt r).trans c
  |Bi r x=>rw[e]at c;exact c
 ·have c:=q.Rh i h;unfold Uu at c⊢;rw[Xo];cases e:m (i++h) with
  |ok a r=>
   rw[e]at c;simp only at c⊢;rcases c with⟨l,rfl,j⟩|⟨j,d⟩
   ·have u:=(k a).Rh l h;unfold Uu at u;rw[Xo,j];exact u
   ·have v:((m >>= f) i).Lo:=by
     rw[Xo];cases n:m i with
     |ok p s=>
      rw[n]at d;simp only[R.Lo]at d;subst d;exact(k p).E7
     |Bi s x=>rw[n]at d;exact d
    cases t:f a r with
    |ok b z=>exact .inr ⟨Nat.lt_of_le_of_lt ((k a).ok t).length_le j,v⟩
    |Bi z x=>exact .inr ⟨Nat.le_of_lt (Nat.lt_of_le_of_lt ((k a).er t).length_le j),v⟩
  |Bi r x=>
   rw[e]at c;simp only at c⊢;rcases c with⟨l,y,rfl,j⟩|⟨j,d⟩
   ·exact .inl ⟨l,y,rfl,by rw[Xo,j]⟩
   ·refine .inr ⟨j,?_⟩;rw[Xo];cases n:m i with
    |ok p s=>
     rw[n]at d;simp only[R.Lo]at d;subst d;exact(k p).E7
    |Bi s x=>rw[n]at d;exact d
 ·rw[Xo,Xo,q.mv g w o];cases m o with
  |ok a r=>exact(k a).mv g w r
  |Bi r x=>rfl
def BZ.ite{c:Prop}[Decidable c]{a b:M α}(d:BZ a)(e:BZ b):BZ (if c then a else b):=by split<;>assumption
def WG{g:BH->BH}(b:Mv g)(k:Int)(t:B)(a:List BH):Xz k t (a.map g)=Xz k t a:=by
 cases a with
 |nil=>rfl
 |cons x r=>simp only[Cw,Xz,(b x).1,(b x).2.1]
def U4.bind{m:M α}{f:α->M β}(d:U4 m)(c:∀a,BZ (f a)):U4 (m >>= f):=λi b r h=>by
 rw[Xo]at h;cases e:m i with
 |ok a g=>rw[e]at h;exact Nat.lt_of_le_of_lt ((c a).ok h).length_le (d _ _ _ e)
 |Bi g x=>rw[e]at h;cases h
def JW{m:M α}{f:α->M β}(d:BZ m)(c:∀a,U4 (f a)):U4 (m >>= f):=λi b r h=>by
 rw[Xo]at h;cases e:m i with
 |ok a g=>rw[e]at h;exact OD (c a _ _ _ h) (d.ok e).length_le
 |Bi g x=>rw[e]at h;cases h
def T7{k:Int}{t:B}{a b:M α}(i:BZ a)(q:U4 a)(f:BZ b):BZ (λe=>if Xz k t e then a e else b e):=by
 refine⟨λe=>?_,λm c=>?_,λg l e=>?_⟩
 ·split
  ·exact i.Mt e
  ·exact f.Mt e
 ·cases m with
  |nil=>
   have h:=f.Rh [] c;have j:Xz k t []=false:=rfl;simp only[Uu,List.nil_append,j,BO,Bs]at h⊢;split
   ·rename_i x y z d;split at d
    ·exact .inr ⟨q _ _ _ d,f.E7⟩
    ·rw[d]at h;exact h
   ·rename_i x y z d;split at d
    ·exact .inr ⟨(i.er d).length_le,f.E7⟩
    ·rw[d]at h;exact h
  |cons x p=>
   have j:Xz k t (x::p++c)=Xz k t (x::p):=rfl;have n:=i.Rh (x::p) c;have o:=f.Rh (x::p) c;cases d:Xz k t (x::p) with
   |true=>simp only[Uu,j,d,Bu]at n⊢;exact n
   |false=>simp only[Uu,j,d,BO,Bs]at o⊢;exact o
 ·simp only[WG l];split
  ·exact i.mv g l e
  ·exact f.mv g l e
def U7{k:Int}{t:B}{f:BH->α}(n:∀g,Mv g->∀x,f (g x)=f x):BZ (λb=>if Xz k t b then .ok (f (b.headD default)) b.tail else .Bi b 100:M α)/\U4 (λb=>if Xz k t b then .ok (f (b.headD default)) b.tail else .Bi b 100:M α):=by
 have m:U4 (λb=>if Xz k t b then .ok (f (b.headD default)) b.tail else .Bi b 100:M α):=λb a r h=>by
  cases b with
  |nil=>simp[Xz]at h
  |cons x p=>
   simp only at h;split at h
   ·cases h;simp
   ·cases h
 refine⟨⟨λb=>?_,λi c=>?_,λg j b=>?_⟩,m⟩
 ·split
  ·exact List.tail_suffix _
  ·exact List.suffix_rfl
 ·cases i with
  |nil=>
   cases d:Xz k t c with
   |true=>
    have:c≠[]:=by intro e;subst e;simp[Xz]at d
    simp only[Uu,List.nil_append,d,Bu];exact .inr ⟨by have:=List.length_pos_iff.2 this;simp;omega,by simp[Xz,R.Lo]⟩
   |false=>
    simp only[Uu,List.nil_append,d,BO,Bs];exact .inr ⟨Bg _,by simp[Xz,R.Lo]⟩
  |cons x p=>
   have l:Xz k t (x::p++c)=Xz k t (x::p):=rfl;cases d:Xz k t (x::p) with
   |true=>
    simp only[Uu,l,d,Bu];exact .inl ⟨p,by simp,by simp⟩
   |false=>
    simp only[Uu,l,d,BO,Bs];exact .inl ⟨x::p,by simp,by simp,rfl⟩
 ·simp only[WG j];cases b with
  |nil=>simp[Xz,R.map]
  |cons x p=>
   cases d:Xz k t (x::p) with
   |true=>simp[R.map,n g j]
   |false=>simp[R.map]
end
def kN:Yy=λa=>if Xz 1 [] a then .ok (a.headD default).DJ a.tail else .Bi a 100:=by
 funext a;simp only[Yy,Xo,LL];cases Xz 1 [] a<;>rfl
def Ydw(t:B):Y7 t=λa=>if Xz 1 t a then .ok () a.tail else .Bi a 100:=by
 funext a;simp only[Y7,Xo,LL];cases Xz 1 t a<;>rfl
def Yct(t:B):Yo t=λa=>if Xz 3 t a then .ok () a.tail else .Bi a 100:=by
 funext a;simp only[Yo,Xo,LL];cases Xz 3 t a<;>rfl
def Xj:BZ Yy:=by rw[kN];exact(U7 (f:=λx=>x.DJ) λg a x=>(a x).2.1).1
def X6m:U4 Yy:=by rw[kN];exact(U7 (f:=λx=>x.DJ) λg a x=>(a x).2.1).2
def Xq(t:B):BZ (Y7 t):=by rw[Ydw];exact(U7 (f:=λ_=>()) λg a x=>rfl).1
def Zc(t:B):U4 (Y7 t):=by rw[Ydw];exact(U7 (f:=λ_=>()) λg a x=>rfl).2
def Xf(t:B):BZ (Yo t):=by rw[Yct];exact(U7 (f:=λ_=>()) λg a x=>rfl).1
def UY(t:B):U4 (Yo t):=by rw[Yct];exact(U7 (f:=λ_=>()) λg a x=>rfl).2
def Xu(k:Int)(t:B):BZ (Yt k t):=by
 refine⟨λf=>?_,λc a=>?_,λg h f=>?_⟩
 ·simp only[Yt];split
  ·exact List.tail_suffix _
  ·exact List.suffix_rfl
 ·cases c with
  |nil=>
   cases b:Xz k t a with
   |true=>
    have:a≠[]:=by intro e;subst e;simp[Xz]at b
    simp only[Uu,Yt,List.nil_append,b,Bu];exact .inr ⟨by have:=List.length_pos_iff.2 this;simp;omega,by simp[Xz,R.Lo]⟩
   |false=>
    simp only[Uu,Yt,List.nil_append,b,BO,Bs];exact .inl ⟨[],rfl,by simp[Xz]⟩
  |cons x p=>
   have d:Xz k t (x::p++a)=Xz k t (x::p):=rfl;cases b:Xz k t (x::p) with
   |true=>
    simp only[Uu,Yt,d,b,Bu];exact .inl ⟨p,by simp,by simp⟩
   |false=>
    simp only[Uu,Yt,d,b,BO,Bs];exact .inl ⟨x::p,by simp,rfl⟩
 ·simp only[Yt,WG h];cases f with
  |nil=>simp[Xz,R.map]
  |cons x p=>
   cases b:Xz k t (x::p) with
   |true=>simp[R.map]
   |false=>simp[R.map]
def UP(b a:Int):Yi b a []=.Bi [] 100:=by simp[Yi,Xz]
def Qo(b a:Int)(x:BH)(p:List BH):Yi b a (x::p)=if Xz 2 [] [x]&&decide (b<=x.n)&&decide (x.n<=a) then .ok x.n p else .Bi (x::p) 100:=by
 simp only[Yi,List.headD_cons,List.tail_cons];rfl
def Ya(i f:Int):BZ (Yi i f):=by
 refine⟨λe=>?_,λc a=>?_,λg d e=>?_⟩
 ·simp only[Yi];split
  ·exact List.tail_suffix _
  ·exact List.suffix_rfl
 ·cases c with
  |nil=>
   cases a with
   |nil=>simp only[Uu,GJ,UP];exact .inr ⟨Bg _,rfl⟩
   |cons y q=>
    simp only[Uu,List.nil_append,UP,Qo];split
    ·rename_i h;split at h
     ·cases h;exact .inr ⟨by simp,rfl⟩
     ·cases h
    ·rename_i h;split at h
     ·cases h
     ·cases h;exact .inr ⟨Bg _,rfl⟩
  |cons x p=>
   simp only[Uu,List.cons_append,Qo];split
   ·rename_i h;split at h
    next b=>cases h;exact .inl ⟨p,rfl,by rw[BS b]⟩
    ·cases h
   ·rename_i h;split at h
    ·cases h
    next b=>cases h;exact .inl ⟨x::p,by simp,rfl,by rw[Aq b]⟩
 ·cases e with
  |nil=>simp[UP,R.map]
  |cons x p=>
   have:=WG d 2 [] [x];simp only[Cw,Ht]at this;simp only[Cw,Qo,this,(d x).2.2];split<;>simp[R.map]
def Xr0(c b:Int):U4 (Yi c b):=λd a r h=>by
 cases d with
 |nil=>rw[UP]at h;cases h
 |cons x p=>
  rw[Qo]at h;split at h
  ·cases h;simp
  ·cases h
def Yn(a b:Nat):BZ (Uk a b):=by
 by_cases h:a=b
 ·have:Uk a b=fail 2:=by funext c;simp[Uk,h,fail]
  rw[this];exact .fail 2
 ·have:Uk a b=pure ():=by funext c;simp[Uk,h]
  rw[this];exact .pure ()
def BZ.Ev{f:Type}{k:Int}{t:B}{a b:M f}(c:BZ a)(e:U4 a)(d:BZ b):BZ (Ev (Xz k t) a b):=T7 c e d
def Ym{e:Type}{k:Int}{t:B}{c:M e}(g:BZ c)(f:U4 c):∀n,BZ (X7 (Xz k t) c n)
|0=>by
 have:X7 (Xz k t) c 0=λd=>if Xz k t d then .Bi d 2 else .ok [] d:=rfl;rw[this];have:=T7 (k:=k) (t:=t) (a:=(fail 2:M (List e))) (b:=pure []) (.fail 2) (λ_ _ _ h=>by cases h) (.pure []);exact this
|n+1=>by
 have:X7 (Xz k t) c (n+1)=λd=>if Xz k t d then (c >>= λa=>X7 (Xz k t) c n >>= λl=>pure (a::l):M (List e)) d else (pure []:M (List e)) d:=rfl;rw[this];exact T7 (g.bind λa=>(Ym g f n).bind λl=>.pure _) (f.bind λa=>(Ym g f n).bind λl=>.pure _) (.pure _)
def Vb:BZ P0:=Xj.bind λ_=>(Xf _).bind λ_=>Xj.bind λ_=>.pure _
def Wm:BZ MK:=T7 ((Ya _ _).bind λ_=>.pure _) ((Xr0 _ _).bind λ_=>.pure _) (Vb.bind λ_=>.pure _)
def Js:BZ Hv:=(Xq _).bind λ_=>Xj.bind λ_=>Xj.bind λ_=>(Xu _ _).bind λ_=>.ite (Vb.bind λ_=>(Xf _).bind λ_=>.pure _) ((Xf _).bind λ_=>.pure _)
def Jm:U4 Hv:=(Zc _).bind λ_=>Xj.bind λ_=>Xj.bind λ_=>(Xu _ _).bind λ_=>.ite (Vb.bind λ_=>(Xf _).bind λ_=>.pure _) ((Xf _).bind λ_=>.pure _)
def gP:BZ YK:=(Xu _ _).bind λ_=>.ite (.pure _) ((Xu _ _).bind λ_=>.ite ((Xu _ _).bind λ_=>.pure _) ((Xf _).bind λ_=>(Xf _).bind λ_=>.pure _))
def UO:BZ NM:=(Xq _).bind λ_=>Wm.bind λ_=>gP.bind λ_=>Wm.bind λ_=>(Xf _).bind λ_=>.pure _
def UN:U4 NM:=(Zc _).bind λ_=>Wm.bind λ_=>gP.bind λ_=>Wm.bind λ_=>(Xf _).bind λ_=>.pure _
def VR:BZ Nk:=(Xq _).bind λ_=>Xj.bind λ_=>(Xf _).bind λ_=>Wm.bind λ_=>(Xf _).bind λ_=>.pure _
def VO:U4 Nk:=(Zc _).bind λ_=>Xj.bind λ_=>(Xf _).bind λ_=>Wm.bind λ_=>(Xf _).bind λ_=>.pure _
def cw:BZ UG:=(Xu _ _).bind λ_=>.ite (Ya _ _) ((Xu _ _).bind λ_=>.ite ((Ya _ _).bind λ_=>.pure _) (.pure _))
def dZ:BZ NX:=Xj.bind λ_=>(Xf _).bind λ_=>Xj.bind λ_=>cw.bind λ_=>(Xf _).bind λ_=>.pure _
def dX:U4 NX:=X6m.bind λ_=>(Xf _).bind λ_=>Xj.bind λ_=>cw.bind λ_=>(Xf _).bind λ_=>.pure _
def dr:BZ Ni:=(Xq _).bind λ_=>Vb.bind λ_=>(Xf _).bind λ_=>.pure _
def dm:U4 Ni:=(Zc _).bind λ_=>Vb.bind λ_=>(Xf _).bind λ_=>.pure _
def Qj:∀n,BZ (GN n)
|0=>.pure _
|n+1=>(Ya _ _).bind λ_=>(Qj n).bind λ_=>.pure _
def V6(n:Nat):BZ (OI n):=Xj.bind λ_=>(Ym ((Xf _).bind λ_=>Xj) ((UY _).bind λ_=>Xj) _).bind λ_=>.pure _
def dY:BZ XT:=(Xu _ _).bind λ_=>.ite ((Ya _ _).bind λ_=>(Xq _).bind λ_=>(Ya _ _).bind λ_=>(Xu _ _).bind λ_=>.ite (Xj.bind λ_=>.pure _) (.pure _)) ((Xu _ _).bind λ_=>.ite (.pure _) ((Xu _ _).bind λ_=>.ite (.pure _) ((Xu _ _).bind λ_=>.ite ((V6 _).bind λ_=>.pure _) (.fail _))))
def xJ:BZ NF:=(Xq _).bind λ_=>Xj.bind λ_=>(Xf _).bind λ_=>dY.bind λ_=>(Qj 4).bind λ_=>(Xf _).bind λ_=>.pure _
def X1u:U4 NF:=(Zc _).bind λ_=>Xj.bind λ_=>(Xf _).bind λ_=>dY.bind λ_=>(Qj 4).bind λ_=>(Xf _).bind λ_=>.pure _
def wQ:BZ Si:=(Xq _).bind λ_=>(V6 _).bind λ_=>(Xq _).bind λ_=>Xj.bind λ_=>(Xf _).bind λ_=>.pure _
def Xrz:U4 Si:=(Zc _).bind λ_=>(V6 _).bind λ_=>(Xq _).bind λ_=>Xj.bind λ_=>(Xf _).bind λ_=>.pure _
def Jr:∀n s,BZ (L8 n s)
|0,_=>.fail _
|n+1,s=>(Xu _ _).bind λ_=>.ite (.pure _) (BZ.Ev ((Yn _ _).bind λ_=>xJ.bind λ_=>Jr n _) (JW (Yn _ _) λ_=>X1u.bind λ_=>Jr n _)
 (BZ.Ev ((Yn _ _).bind λ_=>wQ.bind λ_=>Jr n _) (JW (Yn _ _) λ_=>Xrz.bind λ_=>Jr n _) (.fail _)))
def X65(s:Bl):BZ (QI s)/\U4 (QI s):=⟨(Yn _ _).bind λ_=>(Xq _).bind λ_=>Xj.bind λ_=>(Xf _).bind λ_=>.pure _,JW (Yn _ _) λ_=>(Zc _).bind λ_=>Xj.bind λ_=>(Xf _).bind λ_=>.pure _⟩
def xL(s:Bl):∀_:Unit,BZ (do let a <-Yy;let b <-Yt 3 [61];if b then do {let n <-Yi 2 1000;let o <-Yy;Yo [59];pure {s with Am:=s.Am++[⟨a,some (n,o)⟩] } } else do {Yo [59];pure {s with Am:=s.Am++[⟨a,none⟩] } }:M Bl):=λ_=>Xj.bind λ_=>(Xu _ _).bind λ_=>.ite ((Ya _ _).bind λ_=>Xj.bind λ_=>(Xf _).bind λ_=>.pure _) ((Xf _).bind λ_=>.pure _)
def Yqj(s:Bl):BZ (Pw s)/\U4 (Pw s):=⟨(Yn _ _).bind λ_=>(Xq _).bind (xL s),JW (Yn _ _) λ_=>(Zc _).bind (xL s)⟩
def v7(s:Bl):∀_:Unit,BZ (do let a <-Yy;Y7 [98,121];let b <-Yy;Y7 [118,101,114,115,105,111,110];let v <-Yi 1 255;Y7 [115,101,108,102];let w <-Qw;Yo [123];let x <-L8 21 ⟨a,b,v,[⟨[115,101,108,102],.Dc,w⟩],[]⟩;pure {s with AE:=s.AE++[x] }:M Bl):=λ_=>Xj.bind λ_=>(Xq _).bind λ_=>Xj.bind λ_=>(Xq _).bind λ_=>(Ya _ _).bind λ_=>(Xq _).bind λ_=>(Qj 4).bind λ_=>(Xf _).bind λ_=>(Jr _ _).bind λ_=>.pure _
def X66(s:Bl):BZ (QJ s)/\U4 (QJ s):=⟨(Yn _ _).bind λ_=>(Xq _).bind (v7 s),JW (Yn _ _) λ_=>(Zc _).bind (v7 s)⟩
def xK(s:Bl):∀_:Unit,BZ (do let a <-Yy;Yo [123];Ev (Xz 1 [102,114,111,109]) (do {let f <-X7 (Xz 1 [102,114,111,109]) Hv 3;let w <-X7 (Xz 1 [119,104,101,114,101]) NM 8;let t <-X7 (Xz 1 [115,101,116]) Nk 11;Yo [125];pure {s with AT:=s.AT++[⟨a,f,w,t⟩] } }) (fail 100):M Bl):=λ_=>Xj.bind λ_=>(Xf _).bind λ_=>by
 refine BZ.Ev ?_ ?_ (.fail _)
 ·exact(Ym Js Jm _).bind λ_=>(Ym UO UN _).bind λ_=>(Ym VR VO _).bind λ_=>(Xf _).bind λ_=>.pure _
 ·exact JW (Ym Js Jm _) λ_=>JW (Ym UO UN _) λ_=>JW (Ym VR VO _) λ_=>(UY _).bind λ_=>.pure _
def Yqi(s:Bl):BZ (P1 s)/\U4 (P1 s):=⟨(Yn _ _).bind λ_=>(Xq _).bind (xK s),JW (Yn _ _) λ_=>(Zc _).bind (xK s)⟩
def vp(s:Bl):∀_:Unit,BZ (do let a <-Yy;Y7 [116,111];let b <-Yy;Yo [123];let l <-X7 (Xz 1 []) NX 11;Yo [125];pure {s with AM:=s.AM++[⟨a,b,l⟩] }:M Bl):=λ_=>Xj.bind λ_=>(Xq _).bind λ_=>Xj.bind λ_=>(Xf _).bind λ_=>(Ym dZ dX _).bind λ_=>(Xf _).bind λ_=>.pure _
def X15(s:Bl):BZ (P5 s)/\U4 (P5 s):=⟨(Yn _ _).bind λ_=>(Xq _).bind (vp s),JW (Yn _ _) λ_=>(Zc _).bind (vp s)⟩
def vq(s:Bl):∀_:Unit,BZ (do let a <-Yy;Yo [123];let l <-X7 (Xz 1 [109,97,121]) Ni 32;Y7 [109,111,115,116];let n <-Yi 0 32;Yo [59];Yo [125];pure {s with AK:=s.AK++[⟨a,l,n⟩] }:M Bl):=λ_=>Xj.bind λ_=>(Xf _).bind λ_=>(Ym dr dm _).bind λ_=>(Xq _).bind λ_=>(Ya _ _).bind λ_=>(Xf _).bind λ_=>(Xf _).bind λ_=>.pure _
def X16(s:Bl):BZ (P9 s)/\U4 (P9 s):=⟨(Yn _ _).bind λ_=>(Xq _).bind (vq s),JW (Yn _ _) λ_=>(Zc _).bind (vq s)⟩
def IY(t:B)(s:Bl):M Bl:=
 if t=[105,115,115,117,101,114] then QI s
 else if t=[117,110,105,116] then Pw s
 else if t=[115,99,104,101,109,97] then QJ s
 else if t=[100,101,114,105,118,101] then P1 s
 else if t=[99,111,110,118,101,114,116] then P5 s
 else if t=[112,117,114,112,111,115,101] then P9 s
 else fail 100
def QH(t:B)(s:Bl):BZ (IY t s)/\U4 (IY t s):=by
 unfold IY;split
 ·exact X65 s
 split
 ·exact Yqj s
 split
 ·exact X66 s
 split
 ·exact Yqi s
 split
 ·exact X15 s
 split
 ·exact X16 s
 ·exact⟨.fail _,λ_ _ _ h=>by cases h⟩
def GS(s:Bl):M Bl:=λa=>match a with
|[]=>.Bi [] 100
|x::r=>if x.kind=1 then IY x.DJ s (x::r) else .Bi (x::r) 100
def zZ(s:Bl):U4 (GS s):=λb a r h=>by
 cases b with
 |nil=>cases h
 |cons x p=>
  simp only[GS]at h;split at h
  ·exact(QH _ _).2 _ _ _ h
  ·cases h
def Yg0(s:Bl):BZ (GS s):=by
 refine⟨λf=>?_,λd b=>?_,λg c f=>?_⟩
 ·cases f with
  |nil=>exact List.suffix_rfl
  |cons x p=>
   simp only[GS];split
   ·exact(QH _ _).1.Mt _
   ·exact List.suffix_rfl
 ·cases d with
  |nil=>
   have i:(GS s b).Mq <:+ b:=by
    cases b with
    |nil=>exact List.suffix_rfl
    |cons x p=>
     simp only[GS];split
     ·exact(QH _ _).1.Mt _
     ·exact List.suffix_rfl
   simp only[Uu,List.nil_append];cases e:GS s b with
   |ok a r=>exact .inr ⟨zZ s _ _ _ e,rfl⟩
   |Bi r x=>rw[e]at i;exact .inr ⟨i.length_le,rfl⟩
  |cons x p=>
   by_cases h:x.kind=1
   ·have:=(QH x.DJ s).1.Rh (x::p) b;simpa only[Uu,GS,List.cons_append,h,Bu]using this
   ·simp only[Uu,GS,List.cons_append,h,Bs];exact .inl ⟨x::p,by simp,rfl,rfl⟩
 ·cases f with
  |nil=>rfl
  |cons x p=>
   simp only[GS,Cw,(c x).1,(c x).2.1];split
   ·have:=(QH x.DJ s).1.mv g c (x::p);simpa using this
   ·rfl
def Jz:Nat->Bl->M Bl
|0,s=>λa=>match a with
 |[]=>.ok s []
 |x::r=>.Bi (x::r) 0
|n+1,s=>λa=>match a with
 |[]=>.ok s []
 |x::r=>(GS s >>= Jz n) (x::r)
def xY(n:Nat)(s:Bl):Jz n s []=.ok s []:=by cases n<;>rfl
def Qp(n:Nat)(s:Bl)(x:BH)(r:List BH):Jz (n+1) s (x::r)=(GS s >>= Jz n) (x::r):=rfl
def Xw4:∀(n:Nat)(s:Bl)(c:List BH),c.length<=n->Jz n s c=Jz c.length s c:=by
 have g:∀(n:Nat)(s:Bl)(c:List BH),c.length<=n->Jz n s c=Jz (n+1) s c:=by
  intro n;induction n with
  |zero=>intro s c h;cases c with
   |nil=>rfl
   |cons x r=>simp at h
  |succ n f=>
   intro s c h;cases c with
   |nil=>rfl
   |cons x r=>
    rw[Qp,Qp,Xo,Xo];cases e:GS s (x::r) with
    |Bi a b=>rfl
    |ok a i=>
     have:=zZ s _ _ _ e;simp only[List.length_cons]at this h;exact f a i (by omega)
 intro n s c h;obtain⟨d,rfl⟩:=Nat.exists_eq_add_of_le h;clear h;induction d with
 |zero=>rfl
 |succ d f=>rw[<-f];exact(g (c.length+d) s c (by omega)).symm
abbrev XF:Bl:=⟨[],[],[],[],[],[]⟩
def QW(a:List BH):R Bl:=Jz a.length XF a
section
variable {α β:Type}
def Zqx{c:Prop}[Decidable c](a b:M α)(f:α->M β):((if c then a else b) >>= f)=if c then a >>= f else b >>= f:=by split<;>rfl
def Zqw{c:List BH->Bool}(a b:M α)(f:α->M β):((Ev c a b) >>= f)=Ev c (a >>= f) (b >>= f):=by
 funext d;simp only[Xo,Ev];cases c d<;>rfl
def Zaz(e:Int)(f:α->M β):((fail e:M α) >>= f)=fail e:=rfl
def IA(n m:Nat)(b:M α)(g:α->Bl):M Bl:=Uk n m >>= λ_=>b >>= λa=>pure (g a)
def Vi{n m:Nat}{c:M α}{g:α->Bl}{e r:List BH}{s:Bl}(h:IA n m c g e=.ok s r):n≠m/\∃a,c e=.ok a r/\s=g a:=by
 simp only[IA,Xo,Uk]at h;by_cases d:n=m
 ·simp[d]at h
 ·simp only[d,Bs]at h;cases f:c e with
  |ok a i=>simp only[f,Yto,R.ok.injEq]at h;exact⟨d,a,by rw[h.2],h.1.symm⟩
  |Bi a b=>simp[f]at h
end
def gx:M B:=do
 Y7 [105,115,115,117,101,114]
 let a <-Yy
 Yo [59]
 pure a
def yR(s:Bl):QI s=IA s.Aa.length 8 gx λa=>{s with Aa:=s.Aa++[a] }:=by
 simp only[QI,IA,gx,Yc,Y6]
def n0:M C2:=do
 Y7 [117,110,105,116]
 let a <-Yy;let b <-Yt 3 [61]
 if b then do
  let n <-Yi 2 1000;let o <-Yy
  Yo [59]
  pure ⟨a,some (n,o)⟩
 else do
  Yo [59]
  pure ⟨a,none⟩
def Ydj(s:Bl):Pw s=IA s.Am.length 16 n0 λa=>{s with Am:=s.Am++[a] }:=by
 simp only[Pw,IA,n0,Yc,Y6,Zqx]
def lH:M Bt:=do
 Y7 [115,99,104,101,109,97]
 let a <-Yy
 Y7 [98,121]
 let b <-Yy
 Y7 [118,101,114,115,105,111,110]
 let v <-Yi 1 255
 Y7 [115,101,108,102]
 let w <-Qw
 Yo [123]
 L8 21 ⟨a,b,v,[⟨[115,101,108,102],.Dc,w⟩],[]⟩
def yj(s:Bl):QJ s=IA s.AE.length 16 lH λa=>{s with AE:=s.AE++[a] }:=by
 simp only[QJ,IA,lH,Yc,Y6]
def oK:M DH:=do
 Y7 [100,101,114,105,118,101]
 let a <-Yy
 Yo [123]
 Ev (Xz 1 [102,114,111,109]) (do
  let f <-X7 (Xz 1 [102,114,111,109]) Hv 3;let w <-X7 (Xz 1 [119,104,101,114,101]) NM 8;let t <-X7 (Xz 1 [115,101,116]) Nk 11
  Yo [125]
  pure ⟨a,f,w,t⟩) (fail 100)
def Ycj(s:Bl):P1 s=IA s.AT.length 16 oK λa=>{s with AT:=s.AT++[a] }:=by
 simp only[P1,IA,oK,Yc,Y6,Zqw,Zaz]
def eG:M B0:=do
 Y7 [99,111,110,118,101,114,116]
 let a <-Yy
 Y7 [116,111]
 let b <-Yy
 Yo [123]
 let l <-X7 (Xz 1 []) NX 11
 Yo [125]
 pure ⟨a,b,l⟩
def xC(s:Bl):P5 s=IA s.AM.length 16 eG λa=>{s with AM:=s.AM++[a] }:=by
 simp only[P5,IA,eG,Yc,Y6]
def gG:M B1:=do
 Y7 [112,117,114,112,111,115,101]
 let a <-Yy
 Yo [123]
 let l <-X7 (Xz 1 [109,97,121]) Ni 32
 Y7 [109,111,115,116]
 let n <-Yi 0 32
 Yo [59]
 Yo [125]
 pure ⟨a,l,n⟩
def xc(s:Bl):P9 s=IA s.AK.length 8 gG λa=>{s with AK:=s.AK++[a] }:=by
 simp only[P9,IA,gG,Yc,Y6]
def X1o{t:B}{s d:Bl}{e r:List BH}(h:IY t s e=.ok d r):
 (s.Aa.length≠8/\∃a,d={s with Aa:=s.Aa++[a] })\/(s.Am.length≠16/\∃a,d={s with Am:=s.Am++[a] })\/(s.AE.length≠16/\∃a,d={s with AE:=s.AE++[a] })\/
 (s.AT.length≠16/\∃a,d={s with AT:=s.AT++[a] })\/(s.AM.length≠16/\∃a,d={s with AM:=s.AM++[a] })\/(s.AK.length≠8/\∃a,d={s with AK:=s.AK++[a] }):=by
 unfold IY at h;split at h
 ·rw[yR]at h;obtain⟨b,a,_,c⟩:=Vi h;exact .inl ⟨b,a,c⟩
 split at h
 ·rw[Ydj]at h;obtain⟨b,a,_,c⟩:=Vi h;exact .inr (.inl ⟨b,a,c⟩)
 split at h
 ·rw[yj]at h;obtain⟨b,a,_,c⟩:=Vi h;exact .inr (.inr (.inl ⟨b,a,c⟩))
 split at h
 ·rw[Ycj]at h;obtain⟨b,a,_,c⟩:=Vi h;exact .inr (.inr (.inr (.inl ⟨b,a,c⟩)))
 split at h
 ·rw[xC]at h;obtain⟨b,a,_,c⟩:=Vi h;exact .inr (.inr (.inr (.inr (.inl ⟨b,a,c⟩))))
 split at h
 ·rw[xc]at h;obtain⟨b,a,_,c⟩:=Vi h;exact .inr (.inr (.inr (.inr (.inr ⟨b,a,c⟩))))
 ·cases h
def zX{t:B}{s c:Bl}{e r:List BH}(d:Iw s)(h:IY t s e=.ok c r):Iw c:=by
 obtain⟨f,g,i,j,k,l⟩:=d;rcases X1o h with⟨b,a,rfl⟩|⟨b,a,rfl⟩|⟨b,a,rfl⟩|⟨b,a,rfl⟩|⟨b,a,rfl⟩|⟨b,a,rfl⟩<;>refine⟨?_,?_,?_,?_,?_,?_⟩<;>simp<;>omega
def Zf1:Iw XF:=⟨by simp,by simp,by simp,by simp,by simp,by simp⟩
def Nc{i n:Nat}(h:i<n)(a:n<=1000000):IntKind.i64.wrap ((i:Int)+1)=(i:Int)+1:=w_i _ (by omega)
def F5(f:Nat->Int):List D:=(List.range 256).map λi=>.int .i64 (f i)
def Dw(f:Nat->Int):D:=.agg (F5 f)
def PG(f:Nat->Int)(n:Nat)(v:Int)(i:Nat):Int:=if i=n then v else f i
def Wg{f g:Nat->Int}(h:∀i,i<256->f i=g i):Dw f=Dw g:=by
 unfold Dw F5;congr 1;exact List.map_congr_left λi a=>by rw[h i (OF.mp a)]
@[simp]def tbl_kids(f:Nat->Int):V.Bc (.d (Dw f))=some ((F5 f).map .d):=by simp only[Dw,V.Bc]
@[simp]def tbl_getE(f:Nat->Int){n:Nat}(h:n<(F5 f).length):(F5 f)[n]=.int .i64 (f n):=by simp[F5]
@[simp]def wW(f:Nat->Int):(F5 f).length=256:=by simp[F5]
@[simp]def allD_set(l:List D)(n:Nat)(x:D):CA ((l.map V.d).set n (.d x))=some (l.set n x):=by rw[<-GG,CI]
@[simp]def tblL_set(f:Nat->Int)(n:Nat)(v:Int):(F5 f).set n (.int .i64 v)=F5 (PG f n v):=by
 unfold F5;apply Rv;intro i;by_cases b:n=i
 ·subst b;by_cases a:n<256
  ·simp[Kw,a,PG]
  ·simp[Kw,a]
 ·by_cases a:i<256
  ·simp[Kw,b,a,PG,Ne.symm b]
  ·simp[Kw,b,a]
@[simp]def Yoy(f:Nat->Int):D.agg (F5 f)=Dw f:=rfl
def Ytw{l:List D}{n:Nat}(h:∀x∈l,x.sz=n):C8 l=l.length*n:=Er l h
def gL(f:Nat->Int):∀x∈F5 f,x.sz=1:=by
 intro x a;simp only[F5,DY]at a;obtain⟨i,_,rfl⟩:=a;rfl
@[simp]def Y4e(f:Nat->Int):(Dw f).sz=256:=by simp only[Dw,D.sz,Ytw (gL f),wW]
@[simp]def tbl_size'(f:Nat->Int):(Dw f).shape.size=256:=by rw[Cb,Y4e]
@[simp]def tbl_agg(f:Nat->Int):V.isAgg (.d (Dw f))=true:=rfl
@[simp]def tbl_dagg(f:Nat->Int):(Dw f).isAgg=true:=rfl
@[simp]def tbl_ok(f:Nat->Int):(∀a,a∈F5 f->a.shape.size=1)=True:=
 eq_true λx b=>by rw[Cb];exact gL f x b
def Yhj(n:Nat)(x:D):List.replicate n x=(List.range n).map λ_=>x:=by
 rw[List.map_const',List.length_range]
def cT:∀s:List UInt8,BD s=s.map λb=>.int .u8 b.toNat
|[]=>rfl
|b::r=>by simp[BD,cT r]
def yf:List.replicate 256 (D.int .i64 0)=F5 λ_=>0:=Yhj 256 _
def Rb(k i:Nat):Int:=if 65<=i/\i<65+k\/97<=i/\i<97+k then 2 else 0
def Rc(k i:Nat):Int:=if 48<=i/\i<48+k then 3 else Rb 26 i
def Lm:List UInt8:=[32,9,10,13]
def Rd(k i:Nat):Int:=if i∈(Lm.take k).map UInt8.toNat then 1 else Rc 10 i
def Tg(k i:Nat):Int:=if i∈(Dh.take k).map UInt8.toNat then 4 else Rd 4 i
def GR:Nat->Int:=Tg 15
def Xzt{l:List UInt8}{k i:Nat}(h:k<l.length):(i∈(l.take (k+1)).map UInt8.toNat)↔(i=(l[k]?.getD 0).toNat\/i∈(l.take k).map UInt8.toNat):=by
 rw[List.take_add_one,Ky,DT,DN h];simp only[Option.toList_some,Cw,Ht,E3,Option.getD_some];exact Or.comm
def Zfz:D:=Dw GR
include hP
theorem X1b{r:AF}{K:V->Prop}(h:K (.d Zfz)):AW P 48 [] r K:=by
 refine AJ hP AQ (ds:=[]) Zsu Zpp A4.nil ?_;simp only[Zjh,yf];rw[show D.agg (F5 λ_=>0)=Dw λ_=>0 from rfl,show Dw (λ_=>0)=Dw (Rb 0) from Wg λi _=>by simp[Rb]];simp;refine Au.go (ι:=Nat) (λk=>[(0,.ptr 0 []),(7,.d (.int .i64 k))]) (λk=>[(0,.box 119 (.d (Dw (Rb k))))]) (λk=>k<=26) (λk=>26-k) 0 (by omega) (by simp) (by simp) ?_;intro k p R j g _ _;by_cases a:k<26
 ·have q:IntKind.i64.wrap (65+(k:Int))=65+(k:Int):=w_i _ (by omega);have s:IntKind.i64.wrap (97+(k:Int))=97+(k:Int):=w_i _ (by omega);have m:=Nc a (by omega);simp[tZ,q,s,m,show(k:Int)<26 by omega,show ¬(26:Int)<=k by omega,show(0:Int)<=65+k by omega,show(0:Int)<=97+k by omega,show 65+(k:Int)<256 by omega,show 97+(k:Int)<256 by omega,show(65+(k:Int)).toNat=65+k by omega,show(97+(k:Int)).toNat=97+k by omega,show 65+k<256 by omega,show 97+k<256 by omega];refine j [] (k+1) _ _ ?_ ?_ ?_ ?_ ?_ ?_
  ·omega
  ·omega
  ·simp
  ·simp;refine Wg λi _=>?_;simp only[PG,Rb]
   repeat (first|split|omega)
   all_goals omega
  ·simp
  ·simp
 ·have b:k=26:=by omega
  subst b;simp[tZ];refine g _ _ _ ?_;simp;clear j g;rw[show Dw (Rb 26)=Dw (Rc 0) from Wg λi _=>by simp[Rc];omega];refine Au.go (ι:=Nat) (λk=>[(0,.ptr 0 []),(17,.d (.int .i64 k))]) (λk=>[(0,.box 119 (.d (Dw (Rc k))))]) (λk=>k<=10) (λk=>10-k) 0 (by omega) (by simp) (by simp) ?_;intro k p R j g _ _;by_cases a:k<10
  ·have q:IntKind.i64.wrap (48+(k:Int))=48+(k:Int):=w_i _ (by omega);have m:=Nc a (by omega);simp[tY,q,m,show(k:Int)<10 by omega,show ¬(10:Int)<=k by omega,show(0:Int)<=48+k by omega,show 48+(k:Int)<256 by omega,show(48+(k:Int)).toNat=48+k by omega,show 48+k<256 by omega];refine j [] (k+1) _ _ ?_ ?_ ?_ ?_ ?_ ?_
   ·omega
   ·omega
   ·simp
   ·simp;refine Wg λi _=>?_;simp only[PG,Rc]
    repeat (first|split|omega)
    all_goals omega
   ·simp
   ·simp
  ·have b:k=10:=by omega
   subst b;simp[tY];refine g _ _ _ ?_;simp;clear j g;rw[show Dw (Rc 10)=Dw (Rd 0) from Wg λi _=>by simp[Rd]];show Au _ _ _ [_,(25,V.d (D.AH 1 (BD Lm))),_,_] _;refine Au.go (ι:=Nat) (λk=>[(0,.ptr 0 []),(25,.d (.AH 1 (BD Lm))),(26,.d (.int .i64 4)),(27,.d (.int .i64 k))]) (λk=>[(1,.An),(0,.box 119 (.d (Dw (Rd k))))]) (λk=>k<=4) (λk=>4-k) 0 (by omega) (by simp[Xy]) (by simp) ?_;intro k p R j g _ _;by_cases a:k<4
   ·have m:=Nc a (by omega);have n:(BD Lm)[k]?.getD default=.int .u8 (Lm[k]?.getD 0).toNat:=by
     rw[cT];simp[show k<Lm.length from a]
    have f:(BD Lm).length=4:=rfl;have o:=(Lm[k]?.getD 0).toNat_lt;generalize l:Lm[k]?.getD 0=c at *;simp[tX,m,n,f,show(k:Int)<4 by omega,show ¬(4:Int)<=k by omega,o,show((c.toNat:Int)<256) by omega];refine j [] (k+1) _ _ ?_ ?_ ?_ ?_ ?_ ?_
    ·omega
    ·omega
    ·simp
    ·simp;refine Wg λi _=>?_;simp only[PG,Rd,Xzt (show k<Lm.length from a),l];split
     next e=>simp[e]
     next e=>simp[e]
    ·simp
    ·simp
   ·have b:k=4:=by omega
    subst b;simp[tX];refine g _ _ _ ?_;simp;clear j g;rw[show Dw (Rd 4)=Dw (Tg 0) from Wg λi _=>by simp[Tg]];show Au _ _ _ [_,(35,V.d (D.AH 1 (BD Dh))),_,_] _;refine Au.go (ι:=Nat) (λk=>[(0,.ptr 0 []),(35,.d (.AH 1 (BD Dh))),(36,.d (.int .i64 15)),(37,.d (.int .i64 k))]) (λk=>[(2,.An),(1,.An),(0,.box 119 (.d (Dw (Tg k))))]) (λk=>k<=15) (λk=>15-k) 0 (by omega) (by simp[Xy]) (by simp) ?_;intro k p R j g _ _;by_cases a:k<15
    ·have m:=Nc a (by omega);have n:(BD Dh)[k]?.getD default=.int .u8 (Dh[k]?.getD 0).toNat:=by
      rw[cT];simp[show k<Dh.length from a]
     have f:(BD Dh).length=15:=rfl;have o:=(Dh[k]?.getD 0).toNat_lt;generalize l:Dh[k]?.getD 0=c at *;simp[tW,m,n,f,show(k:Int)<15 by omega,show ¬(15:Int)<=k by omega,o,show((c.toNat:Int)<256) by omega];refine j [] (k+1) _ _ ?_ ?_ ?_ ?_ ?_ ?_
     ·omega
     ·omega
     ·simp
     ·simp;refine Wg λi _=>?_;simp only[PG,Tg,Xzt (show k<Dh.length from a),l];split
      next e=>simp[e]
      next e=>simp[e]
     ·simp
     ·simp
    ·have b:k=15:=by omega
     subst b;simp[tW];refine g _ _ _ ?_;simp;refine⟨rfl,?_⟩;exact h
omit hP
@[simp]def idxPV_tbl(f:Nat->Int)(a:IntKind)(i:Int):L7 (.d (.Bv (Dw f))) (.d (.int a i))=.d (.Bv ((F5 f).getD i.toNat default)):=by simp only[Dw,L7]
@[simp]def idxPS_tbl(c:AF)(f:Nat->Int)(b:IntKind)(i:Int):OZ c 256 1 (.d (.Bv (Dw f))) (.d (.int b i))=(0<=i/\i<256):=by
 simp only[Dw,Yqk,wW];simp;intro _ _ x a;exact gL f x a
def xB:∀n,n<256->(GR n=2↔U0 n=true):=by decide +kernel
def dT:∀n,n<256->(GR n=3↔NB n=true):=by decide +kernel
def X56:∀n,n<256->(GR n=1↔Ymb n=true):=by decide +kernel
def Yf4:∀n,n<256->(GR n=4↔Ko n=true):=by decide +kernel
def X55:∀n,n<256->0<=GR n/\GR n<=4:=by decide +kernel
abbrev Ir(s:List UInt8)(i:Int)(l:List D):D:=.agg [.AU s,.int .i64 i,Dw GR,.AH 4 l]
abbrev Kn(s:List UInt8)(i:Int)(y n:Nat):V:=.agg [.d (.AU s),.d (.int .i64 i),.d (Dw GR),.sl y n]
include hP
theorem Ypf(c:UInt8)(s:List UInt8)(i:Int)(l:List D){f:AF}{K:V->Prop}(h:K (.d (.bool (W1 c)))):AW P 132 [.d (.int .u8 c.toNat),.d (.Bv (.Bv (Ir s i l)))] f K:=by
 refine AJ hP AQ (ds:=[.int .u8 c.toNat,.Bv (.Bv (Ir s i l))]) Zcj Y8z A4.nil ?_;have a:=c.toNat_lt;simp[Y5o,a,show(c.toNat:Int)<256 by omega];refine(Cc K ?_).mp h;congr 2;rw[Dv];have b:=xB c.toNat a;have e:=dT c.toNat a;simp[W1,NY,b,e]
theorem X5s(c:UInt8)(s:List UInt8)(i:Int)(l:List D){e:AF}{K:V->Prop}(h:K (.d (.bool (Yq c)))):AW P 134 [.d (.int .u8 c.toNat),.d (.Bv (.Bv (Ir s i l)))] e K:=by
 refine AJ hP AQ (ds:=[.int .u8 c.toNat,.Bv (.Bv (Ir s i l))]) Zcl Y81 A4.nil ?_;have a:=c.toNat_lt;simp[Y5q,a,show(c.toNat:Int)<256 by omega];refine(Cc K ?_).mp h;congr 2;rw[Dv];have b:=dT c.toNat a;simp[Yq,b]
theorem Ypk(c:UInt8){e:AF}{K:V->Prop}(h:K (.d (.bool (G1 c)))):AW P 136 [.d (.int .u8 c.toNat)] e K:=by
 refine AJ hP AQ (ds:=[.int .u8 c.toNat]) Zcn Y83 A4.nil ?_;simp[Y5s];refine(Cc K ?_).mp h;congr 2;rw[Dv];simp[G1];constructor
 ·intro a b;exact a (by rw[<-UInt8.ofNat_toNat (x:=c),show c.toNat=10 by omega];rfl)
 ·intro a b;subst b;exact a rfl
theorem Yfr(s t:List UInt8){c:AF}{K:V->Prop}(h:K (.d (.bool (t.isPrefixOf s)))):AW P 135 [.d (.AU s),.d (.AU t)] c K:=by
 have b:∀{K:V->Prop},K (.d (.bool (t.isPrefixOf s)))->AW P 198 [.d (.AU s),.d (.AU t)] [] K:=λ{K} h=>by
  refine AJ hP AQ (ds:=[.AU s,.AU t]) Zd2 Y94 A4.nil ?_;simp[Y6g];refine(Cc K ?_).mp h;congr 2;rw[Dv];simp only[List.isPrefixOf_iff_prefix,List.prefix_iff_eq_take];by_cases a:t.length<=s.length
  ·simp[a];exact eq_comm
  ·simp[a];intro e;have:=Cc List.length e;simp at this;omega
 refine AJ hP AQ (ds:=[.AU s,.AU t]) Zcm Y82 A4.nil ?_;simp[Y5r];exact b (by simpa using h)
theorem nY(s:List UInt8)(i:Nat)(F:i<=s.length)(v:s.length<=1000000)(l:List D)(f:Nat)(e b:List D)(p:UInt8->Bool)(t:Xd P.p f=true)
 (u:∀(c:UInt8)(K:V->Prop),K (.d (.bool (p c)))->AW P f (e.map .d++.d (.int .u8 c.toNat)::b.map .d) [] K)
 {w:AF} {K:V->Prop} (h:K (.d (.AU ((s.drop i).takeWhile p)))):AW P 131 [.d (.Bv (Ir s i l)),.d (.fn f e b)] w K:=by
 refine AJ hP AQ (ds:=[.Bv (Ir s i l),.fn f e b]) Zci Y8y A4.nil ?_;simp[Y5n];refine Au.go (ι:=Nat) (λj=>[(0,.d (.Bv (Ir s i l))),(1,.d (.fn f e b)),(5,.d (.int .i64 j))]) (λ_=>[]) (λj=>i<=j/\j<=s.length/\j+tw p s j=i+tw p s i) (λj=>s.length-j) i ⟨by omega,by omega,rfl⟩ rfl rfl ?_;rintro j ⟨m,n,g⟩ R z y _ _;have q:tw p s j=0->∀x,R (Hn.exit 0) [(0,.d (.Bv (Ir s i l))),(1,.d (.fn f e b)),(5,.d (.int .i64 j)),(26,x)] []:=λr x=>by
  refine y _ _ _ ?_;simp[m,n];refine(Cc K ?_).mp h;congr 2;rw[Ry,Z2];congr 1;simp only[tw]at g r⊢;omega
 simp[Yeo];by_cases a:j<s.length
 ·have o:=Nc a v;simp[a,o,t];refine⟨AW.CS (u s[j] _ ?_),λh=>absurd h (by omega)⟩;by_cases k:p s[j]=true
  ·simp[k];refine z [] (j+1) _ _ ⟨?_,?_,?_⟩ ?_ ?_ ?_ ?_ ?_
   ·omega
   ·omega
   ·rw[<-g,nD a (by simpa[a]using k)];omega
   ·omega
   ·simp
   ·simp
   ·simp
   ·simp
  ·simp[k];exact q (Zfj a (by simpa[a]using k)) _
 ·simp[a];exact λ_=>q (Zfi (by omega)) _
theorem nW(s:List UInt8)(i n:Nat)(k m l:Int)(t:List UInt8)(b:List D)(r:i+n<=1000000)(p:b.length<=1000000){c:AF}{x y:Nat}(f:AB c x=some (.box 122 (Kn s i y b.length)))(a:AB c y=some (.BG 67 4 b))
 {K:BN->AF->Prop} (h:K (.ret (.BT [])) (AG (AG c y (.BG 67 4 (b++[.agg [.int .i64 k,.AU t,.int .i64 m,.int .i64 i]]))) x (.box 122 (Kn s ((i+n:Nat):Int) y (b.length+1))))):
 AX P 133 [.ptr x [],.d (.agg [.int .i64 k,.AU t,.int .i64 m,.int .i64 l]),.d (.int .i64 n)] c K:=by
 have g:(y==x)=false:=by rw[Gz];intro e;subst e;rw[f]at a;cases a
 have j:(x==y)=false:=by rw[Gz];intro e;subst e;rw[f]at a;cases a
 refine AY hP AQ Zck Y80 A4.nil ?_;intro _ o;have q:IntKind.i64.wrap ((i:Int)+n)=(i:Int)+n:=w_i _ (by omega);simp[Y5p,f,a,g,j,q];refine⟨by omega,?_⟩;refine⟨[],by simp,?_,?_⟩
 ·simp;exact Af _ _ _ _ _ (BL _ _ _ _ _ _ (o _)) (by simp[a])
 ·simpa using h
abbrev L5(ob:AF)(x y:Nat)(s:List UInt8)(ts:List D)(k:Int)(t:List UInt8)(m:Int)(i n:Nat):AF:=
 AG (AG ob y (.BG 67 4 (ts++[.agg [.int .i64 k,.AU t,.int .i64 m,.int .i64 i]]))) x (.box 122 (Kn s ((i+n:Nat):Int) y (ts.length+1)))
theorem eF:Xd P.p 132=true/\Xd P.p 134=true/\Xd P.p 136=true:=by
 rw[hP];exact⟨by kernel_rfl,by kernel_rfl,by kernel_rfl⟩
section
variable (s:List UInt8) (i:Nat) (ts:List D) (hs:s.length<=65536) (hi:i<s.length) (hts:ts.length<=1000000) {ob:AF} {x y:Nat} (hx:AB ob x=some (.box 122 (Kn s i y ts.length))) (hy:AB ob y=some (.BG 67 4 ts)) {K:BN->AF->Prop}
include hs hi hts hx hy
omit hs hi hts hy in
theorem Ypg(h:K (.panic (.d (.iface 116 (.int .i64 i)))) ob):AX P 49 [.ptr x []] ob K:=by
 refine AY hP AQ Zsv Zpq A4.nil ?_;intro _ a;simp[Zng,hx];refine⟨[],by simp,?_,?_⟩
 ·simp[a]
 ·simpa using h
omit hts in
theorem Ypm(h:K (.ret (.BT [])) (AG ob x (.box 122 (Kn s ((i+1:Nat):Int) y ts.length)))):AX P 50 [.ptr x []] ob K:=by
 refine AY hP AQ Zsw Zpr A4.nil ?_;intro _ a;have b:=Nc hi (by omega);simp[Znh,hx,b];refine⟨[],by simp,?_,?_⟩
 ·simp;exact Af _ _ _ _ _ (a _) (by simp[hy])
 ·simpa using h
theorem Yv0(e:32<tw W1 s i->K (.panic (.d (.iface 116 (.int .i64 i)))) ob)(f:tw W1 s i<=32->K (.ret (.BT [])) (L5 ob x y s ts 1 ((s.drop i).takeWhile W1) 0 i (tw W1 s i))):AX P 51 [.ptr x []] ob K:=by
 refine AY hP AQ Zsx Zps A4.nil ?_;intro _ b;have j:=Pv W1 s i (by omega);simp[Zni,hx];refine PX (n:=5) (ds:=[.Bv (Ir s i ts),.fn 132 [] [.Bv (.Bv (Ir s i ts))]]) (by simp[hx,hy]) ?_;refine nY hP s i (by omega) (by omega) ts _ [] _ W1 (eF hP).1 (λc K h=>by simpa using Ypf hP c s i ts h) ?_;simp;have a:((s.drop i).takeWhile W1).length=tw W1 s i:=rfl;simp[a,hx];refine⟨λg=>?_,λg=>?_⟩
 ·refine⟨[],by simp,?_,?_⟩
  ·simp[b]
  ·simpa using e (by omega)
 ·simp[Yn1,a,hx];refine nW hP (y:=y) s i _ 1 0 0 _ ts (by omega) hts (by simp[hx]) (by simp[hy]) ?_;simp[hx,hy];refine⟨[],by simp,?_,?_⟩
  ·simp;exact Af _ _ _ _ _ (BL _ _ _ _ _ _ (b _)) (by simp[hy])
  ·simpa[L5]using f (by omega)
theorem X5t(Y:Yq (s[i]?.getD 0)=true)(U:KJ ((s.drop i).takeWhile Yq)=none->K (.panic (.d (.iface 116 (.int .i64 i)))) ob)
 (v:∀m,KJ ((s.drop i).takeWhile Yq)=some m->K (.ret (.BT [])) (L5 ob x y s ts 2 [] m i (tw Yq s i))):AX P 52 [.ptr x []] ob K:=by
 refine AY hP AQ Zsy Zpt A4.nil ?_;intro _ J;have Z:=Pv Yq s i (by omega);simp[Znj,hx];refine PX (n:=5) (ds:=[.Bv (Ir s i ts),.fn 134 [] [.Bv (.Bv (Ir s i ts))]]) (by simp[hx,hy]) ?_;refine nY hP s i (by omega) (by omega) ts _ [] _ Yq (eF hP).2.1 (λc K h=>by simpa using X5s hP c s i ts h) ?_;have Q:((s.drop i).takeWhile Yq).length=tw Yq s i:=rfl;have j:∀k,k<tw Yq s i->NB (((s.drop i).takeWhile Yq)[k]?.getD 0).toNat=true:=λk r=>by
  have:((s.drop i).takeWhile Yq)[k]∈(s.drop i).takeWhile Yq:=Ci r;rw[DN r];exact Yjr this
 have l:0<tw Yq s i:=by have:=nD hi Y;omega
 generalize ht:(s.drop i).takeWhile Yq=t at *;rw[<-Q]at j l;simp;refine Au.go (ι:=Nat×Int) (λk=>[(1,.ptr (AA ob) []),(2,.d (.AU t)),(3,.d (.int .i64 k.2)),(9,.d (.int .i64 t.length)),(10,.d (.int .i64 k.1))]) (λ_=>(AA ob,.box 118 (.ptr x []))::ob)
  (λk=>k.1<=t.length/\0<=k.2/\k.2<=1099511627776/\H6 0 t=H6 k.2 (t.drop k.1)/\(2<=k.1->t.headD 0≠48)) (λk=>t.length-k.1) (0,0) ⟨by simp,by simp,by simp,by simp,by simp⟩ rfl rfl ?_
 rintro⟨k,n⟩ ⟨r,k1,k2,b,T⟩ R rn re _ rp;simp only at r k1 k2 b T;simp[Yn2];by_cases a:k<t.length
 ·have W:=j k a;rw[X2h a]at b;generalize F:t[k]?.getD 0=c at *;have g:t[k]=c:=by rw[<-F];simp[a]
  simp[NB]at W;have X:=c.toNat_lt;have hw:IntKind.i64.wrap (IntKind.i64.wrap (10*n)+IntKind.i64.wrap (IntKind.u8.wrap (c.toNat-48)))=10*n+(c.toNat-48):=by
   rw[IntWalk.u8_in _ (by omega),w_i (10*n) (by omega),w_i (_-48) (by omega),w_i _ (by omega)]
  have p:=Nc a (by omega);have o:KJ t=none->R (Hn.panic (V.d (D.iface 116 (D.int IntKind.i64 i)))) [] ((AA ob,.box 118 (.ptr x []))::ob):=λL=>by
   refine rp _ _ _ ?_;simp;refine⟨[],by simp,?_,?_⟩
   ·simp[J]
   ·simpa using U L
  have O:(t[0]?.getD 0)=t.headD 0:=by cases t<;>rfl
  have f:0<k->t[0]?.getD 0=48->KJ t=none:=λk0 e=>by
   rw[O]at e;unfold KJ;cases H6 0 t with
   |none=>rfl
   |some m=>simp only;rw[Aq];simp only[not_or,Classical.not_not];exact⟨by omega,e⟩
  simp[a,g,hw,p,hx];refine⟨⟨λ_ _=>l,λe=>o ?_,λu N=>?_⟩,λe=>absurd e (by omega)⟩
  ·rcases e with e|⟨u,N⟩
   ·rw[BS e]at b;simp[KJ,b]
   ·refine f u ?_;have q:(t[0]?.getD 0).toNat=48:=by omega
    generalize t[0]?.getD 0=z at q;rw[<-UInt8.ofNat_toNat (x:=z),q];rfl
  ·rw[Aq (by omega)]at b;simp[Yn3,p];refine rn [] (k+1,10*n+(c.toNat-48)) _ _ ⟨?_,?_,?_,?_,?_⟩ ?_ ?_ ?_ ?_ ?_
   ·simp only;omega
   ·simp only;omega
   ·exact u
   ·exact b
   ·intro w q;have H:0<k:=by simp only at w;omega
    refine N H ?_;rw[O,q];rfl
   ·simp only;omega
   ·simp
   ·simp
   ·simp[AD]
   ·simp[Xm _ J,hx]
 ·have G:k=t.length:=by omega
  subst G;simp;refine re _ _ _ ?_;simp[hx];refine nW hP (y:=y) s i _ 2 n 0 _ ts (by omega) hts (by simp[hx]) (by simp[hy]) ?_;simp[hx,hy];refine⟨[],by simp,?_,?_⟩
  ·simp;exact Af _ _ _ _ _ (BL _ _ _ _ _ _ (J _)) (by simp[hy])
  ·have hn:KJ t=some n:=by
    simp[H6]at b;simp only[KJ,b];rw[BS];by_cases v:2<=t.length
    ·exact .inr (T v)
    ·exact .inl (by omega)
   simpa[L5,Q]using v n hn
theorem Ypl(t:FI (s[i]?.getD 0)=true)(m:s[i]?.getD 0=47/\(s.drop (i+1)).head? = some 47->K (.ret (.BT [])) (AG ob x (.box 122 (Kn s ((i+tw G1 s i:Nat):Int) y ts.length))))
 (o:¬(s[i]?.getD 0=47/\(s.drop (i+1)).head? = some 47)->K (.ret (.BT [])) (L5 ob x y s ts 3 [s[i]?.getD 0] 0 i 1)):AX P 53 [.ptr x []] ob K:=by
 refine AY hP AQ Zsz Zpu A4.nil ?_;intro _ j;have k:=Nc hi (by omega);have q:=Pv G1 s i (by omega);simp[Znk,hx,k,show i<=s.length by omega];refine AW.data (ds:=[.AU (s.drop i),.AU [47,47]]) rfl (Yfr hP _ _ ?_);have b:([47,47]:List UInt8).isPrefixOf (s.drop i)=decide (s[i]?.getD 0=47/\(s.drop (i+1)).head? = some 47):=by
  rw[Jk hi];cases u:s.drop (i+1) with
  |nil=>simp[List.isPrefixOf]
  |cons a r=>
   rw[Dv];simp only[List.isPrefixOf,BB,C9,Bool.and_true,DK,List.head?_cons,CJ];exact⟨λh=>⟨h.1.symm,h.2.symm⟩,λh=>⟨h.1.symm,h.2.symm⟩⟩
 rw[b];simp[hx,k];refine⟨λd l=>?_,λe=>⟨by omega,?_⟩⟩
 ·refine PX (n:=5) (ds:=[.Bv (Ir s i ts),.fn 136 [] []]) (by simp[hx,hy]) ?_;refine nY hP s i (by omega) (by omega) ts _ [] [] G1 (eF hP).2.2 (λc K h=>by simpa using Ypk hP c h) ?_;have p:((s.drop i).takeWhile G1).length=tw G1 s i:=rfl;have g:IntKind.i64.wrap ((i:Int)+tw G1 s i)=(i:Int)+tw G1 s i:=w_i _ (by omega);simp[p,g];refine⟨[],by simp,?_,?_⟩
  ·simp;exact Af _ _ _ _ _ (j _) (by simp[hy])
  ·have:=m ⟨d,by rw[yQ];exact l⟩;simpa using this
 ·have f:(s.take (i+1)).drop i=[s[i]?.getD 0]:=by
   rw[Ry,Nat.add_sub_cancel_left,Jk hi];rfl
  rw[f];refine nW hP (y:=y) s i 1 3 0 0 _ ts (by omega) hts hx hy ?_;simp;refine⟨[],by simp,?_,?_⟩
  ·simp;exact Af _ _ _ _ _ (BL _ _ _ _ _ _ (j _)) (by simp[hy])
  ·have:=o (λd=>e d.1 (by rw[<-yQ];exact d.2));simpa[L5]using this
end
omit hP
section
variable {P:BA} (hPp:P.p=prog)
include hPp
theorem Yv2{d:AF}{a b c:Nat}{K:AF->Prop}(h:K d):B4 P 47 [.ptr a [],.ptr b [],.ptr c []] d none K:=by
 refine B4.D8 λ_ e=>?_;refine Vy hPp AQ Zmk Zil Zii A4.nil ?_;simp[aL,aK,Zft];refine⟨[],by simp,?_,?_⟩
 ·simp[e]
 ·simpa using h
theorem Yv3{e:AF}{a b c:Nat}{i:Int}{K:AF->Prop}{va vb vc:V}{Ea Eb Ec:Nat}(k:AB e a=some (.box Ea va))(l:AB e b=some (.box Eb vb))(m:AB e c=some (.box Ec vc))(o:va.shape=.AR)(p:vb.shape=.AR)(q:vc.shape=.AR)
 (f:(a==b)=false) (g:(a==c)=false) (j:(b==c)=false) (h:K (AG (AG (AG e a (.box Ea (.d .Ad))) b (.box Eb (.d (.int .i64 i)))) c (.box Ec (.d (.int .i64 90))))):B4 P 47 [.ptr a [],.ptr b [],.ptr c []] e (some (.d (.iface 116 (.int .i64 i)))) K:=by
 refine B4.D8 λ_ n=>?_;refine Vy hPp AQ Zmk Zil Zii A4.nil ?_;simp[aL,aK,Zft,Yn0,k,l,m,f,g,j,o,p,q];refine⟨[],by simp,?_,?_⟩
 ·rw[Xh (by simp)];exact Af _ _ _ _ _ (Af _ _ _ _ _ (Af _ _ _ _ _ (n _) (by simp)) (by simp)) (by simp)
 ·rw[Xh (by simp)];exact h
theorem Yf1:Xd P.p 47=true/\Xd P.p 49=true/\Xd P.p 50=true/\Xd P.p 51=true/\Xd P.p 52=true/\Xd P.p 53=true:=by
 rw[hPp];exact⟨by kernel_rfl,by kernel_rfl,by kernel_rfl,by kernel_rfl,by kernel_rfl,by kernel_rfl⟩
omit hPp in
theorem Ydd(f g:Nat->Int):(Dw f).shape=(Dw g).shape:=by
 simp only[Dw,F5,D.shape,D.Bj,List.map_map,Function.comp_def]
theorem Y69(s:List UInt8){ob:AF}{K:V->Prop}(h:K (Nh s)):AW P 12 [.d (.AU s)] ob K:=by
 refine Vj hPp AQ (ds:=[.AU s]) Zr3 Zoy A4.nil ?_;obtain⟨d0,d1,d2,d3,d4,d5⟩:=Yf1 hPp;simp only[Zio,yf,Yoy];simp[d0];refine⟨λhl=>?_,λhl=>?_⟩
 ·simpa[Nh,show 65536<s.length by omega]using h
 ·have W:¬65536<s.length:=by omega
  simp only[Nh,gt_iff_lt,W,Bs]at h;refine X1b hPp ?_;simp[Zfz];refine⟨Ydd _ _,?_⟩;refine Au.go (ι:=Nat×List BH) (λ_=>[(0,.d (.AU s)),(2,.ptr 0 []),(3,.ptr 1 []),(4,.ptr 2 []),(5,.ptr 3 []),(6,.ptr 5 [])])
   (λk=>[(5,.box 123 (.agg [.fn 49 [.ptr 3 []] [],.fn 50 [.ptr 3 []] [],.fn 51 [.ptr 3 []] [],.fn 52 [.ptr 3 []] [],.fn 53 [.ptr 3 []] []])),
    (4,.BG 67 4 (k.2.map BH.enc)),(3,.box 122 (Kn s k.1 4 k.2.length)),(2,.box 31 (.d (.int .i64 0))),(1,.box 3 (.d (.int .i64 0))),(0,.box 46 (.d .Ad))])
   (λk=>k.1<=s.length/\k.2.length<=k.1/\EM s 0=LN k.2 (EM (s.drop k.1) k.1)) (λk=>s.length-k.1) (0,[]) ⟨by simp,by simp,by simp[Yfh]⟩ rfl (by simp) ?_
  rintro⟨i,a⟩ ⟨hi,ho,b⟩ R rn re _ rp;simp only at hi ho b;have O:∀j l J,j<=s.length->l.length<=j->EM s 0=LN l (EM (s.drop j) j)->i<j->J=[(5,.box 123 (.agg [.fn 49 [.ptr 3 []] [],.fn 50 [.ptr 3 []] [],.fn 51 [.ptr 3 []] [],.fn 52 [.ptr 3 []] [],.fn 53 [.ptr 3 []] []])),
   (4,.BG 67 4 (l.map BH.enc)),(3,.box 122 (Kn s j 4 l.length)),(2,.box 31 (.d (.int .i64 0))),(1,.box 3 (.d (.int .i64 0))),(0,.box 46 (.d .Ad))]->R .normal [(0,.d (.AU s)),(2,.ptr 0 []),(3,.ptr 1 []),(4,.ptr 2 []),(5,.ptr 3 []),(6,.ptr 5 [])] J:=λj l J h1 h2 h3 h4 T=>
   rn [] (j,l) _ _ ⟨h1,h2,h3⟩ (by simp only;omega) rfl (by rw[T];simp[AD]) (by simp[AD]) (by simp[AD])
  clear rn;by_cases f:i<s.length
  ·rw[Yq6 f]at b;generalize x:s[i]?.getD 0=c at *;have r:s[i]=c:=by rw[<-x];simp[f]
   have g:=c.toNat_lt;have u:(a.map BH.enc).length<=1000000:=by simp;omega
   have L:EM s 0=.Bi i->R (.panic (.d (.iface 116 (.int .i64 i)))) [(2,.ptr 0 []),(3,.ptr 1 []),(4,.ptr 2 [])] [(5,.box 123 (.agg [.fn 49 [.ptr 3 []] [],.fn 50 [.ptr 3 []] [],.fn 51 [.ptr 3 []] [],.fn 52 [.ptr 3 []] [],.fn 53 [.ptr 3 []] []])),
    (4,.BG 67 4 (a.map BH.enc)),(3,.box 122 (Kn s i 4 a.length)),(2,.box 31 (.d (.int .i64 0))),(1,.box 3 (.d (.int .i64 0))),(0,.box 46 (.d .Ad))]:=λhr=>by
    refine rp _ _ _ ?_;simp;refine Yv3 hPp (Ea:=46) (Eb:=3) (Ec:=31) (va:=.d .Ad) (vb:=.d (.int .i64 0)) (vc:=.d (.int .i64 0)) (by simp) (by simp) (by simp) (by simp) (by simp) (by simp) rfl rfl rfl ?_;simp;rw[hr]at h;exact h
   have hx:∀(o5:Ob),AB [(5,o5),(4,Ob.BG 67 4 (a.map BH.enc)),(3,Ob.box 122 (Kn s i 4 (a.map BH.enc).length)),(2,.box 31 (.d (.int .i64 0))),(1,.box 3 (.d (.int .i64 0))),(0,.box 46 (.d .Ad))] 3=some (.box 122 (Kn s i 4 (a.map BH.enc).length)):=λ_=>by simp
   have ab:=X55 c.toNat g;have aa:∀m:Nat,GR c.toNat=m->(GR c.toNat).toNat=m:=λm e=>by omega
   have Y:=X56 c.toNat g;have Z:=xB c.toNat g;have g3:=dT c.toNat g;have g4:=Yf4 c.toNat g;have F:GR c.toNat≠4->¬(c=47/\(s.drop (i+1)).head? = some 47):=λX h=>by
    obtain⟨rfl,_⟩:=h;exact X (by decide +kernel)
   have w:∀m:Int,GR c.toNat=m->(UH c=decide (m=1))/\(Ql c=decide (m=2))/\(Yq c=decide (m=3))/\(FI c=decide (m=4)):=λm e=>by
    rw[e]at Y Z g3 g4;refine⟨?_,?_,?_,?_⟩<;>rw[Dv,DK]
    ·exact Y.symm
    ·exact Z.symm
    ·exact g3.symm
    ·exact g4.symm
   have v:∀p:UInt8->Bool,p c=true->tw p s i=((s.drop (i+1)).takeWhile p).length+1/\(s.drop i).takeWhile p=c::(s.drop (i+1)).takeWhile p:=λp z=>by
    refine⟨(Ytz p f (by rw[x];exact z)).2,?_⟩;rw[Jk f,x,Pd,BS z]
   rcases (by omega:GR c.toNat=0\/GR c.toNat=1\/GR c.toNat=2\/GR c.toNat=3\/GR c.toNat=4) with e|e|e|e|e
   ·obtain⟨n,q,G,H⟩:=w 0 e;simp only[FO,n,q,G,H,F (by rw[e];decide),Bs,LN]at b;simp[QB,f,r,g,show(c.toNat:Int)<256 by omega,e,d1];refine Ypg hPp s i (a.map BH.enc) (y:=4) (by simp) ?_;simp;exact L (by simpa using b)
   ·obtain⟨n,q,G,H⟩:=w 1 e;simp[FO,n]at b;simp[QB,f,r,g,show(c.toNat:Int)<256 by omega,e,d2];refine Ypm hPp s i (a.map BH.enc) (by omega) f (y:=4) (by simp) (by simp) ?_;simp;refine O (i+1) a _ (by omega) (by omega) b (by omega) (by simp)
   ·obtain⟨n,q,G,H⟩:=w 2 e;have z:W1 c=true:=by
     have:U0 c.toNat=true:=by simpa[Ql]using q
     simp[W1,NY,this]
    obtain⟨t1,Q⟩:=v W1 z;have N:=Pv W1 s i (by omega);have n:UH c=false:=by simpa using n
    have q:Ql c=true:=by simpa using q
    simp only[FO,n,q,F (by rw[e];decide),BO,Bs,Bu]at b;simp[QB,f,r,g,show(c.toNat:Int)<256 by omega,e,d3];refine Yv0 hPp s i (a.map BH.enc) (by omega) f u (y:=4) (by simp) (by simp) (λo=>?_) (λo=>?_)
    ·simp;rw[Aq (by omega)]at b;exact L (by simpa[LN]using b)
    ·simp[L5];rw[BS (by omega)]at b;simp only[eC]at b;have t:i+((s.drop (i+1)).takeWhile W1).length+1=i+tw W1 s i:=by omega
     rw[t]at b;refine O (i+tw W1 s i) (a++[⟨1,c::(s.drop (i+1)).takeWhile W1,0,i⟩]) _ (by omega) (by simp;omega) b (by omega) ?_;simp[BH.enc,Q]
   ·obtain⟨n,q,G,H⟩:=w 3 e;have z:Yq c=true:=by simpa using G
    obtain⟨t1,Q⟩:=v Yq z;have N:=Pv Yq s i (by omega);have n:UH c=false:=by simpa using n
    have q:Ql c=false:=by simpa using q
    simp only[FO,n,q,z,F (by rw[e];decide),BO,Bs,Bu]at b;simp[QB,f,r,g,show(c.toNat:Int)<256 by omega,e,d4];refine X5t hPp s i (a.map BH.enc) (by omega) f u (y:=4) (by simp) (by simp) (by rw[x];exact z) (λo=>?_) (λm o=>?_)
    ·simp;rw[Q]at o;rw[o]at b;exact L (by simpa[LN]using b)
    ·simp[L5];rw[Q]at o;rw[o]at b;simp only[eC]at b;have t:i+((s.drop (i+1)).takeWhile Yq).length+1=i+tw Yq s i:=by omega
     rw[t]at b;refine O (i+tw Yq s i) (a++[⟨2,[],m,i⟩]) _ (by omega) (by simp;omega) b (by omega) ?_;simp[BH.enc]
   ·obtain⟨n,q,G,H⟩:=w 4 e;simp[QB,f,r,g,show(c.toNat:Int)<256 by omega,e,d5];refine Ypl hPp s i (a.map BH.enc) (by omega) f u (y:=4) (by simp) (by simp) (by rw[x];simpa using H) (λo=>?_) (λo=>?_)
    ·rw[x]at o;obtain⟨rfl,T⟩:=o;obtain⟨t1,Q⟩:=v G1 rfl;have N:=Pv G1 s i (by omega);simp only[FO,n,T,and_self,Bu,DK,show ¬((4:Int)=1) by decide,Bs]at b;simp;have t:i+((s.drop (i+1)).takeWhile G1).length+1=i+tw G1 s i:=by omega
     rw[t]at b;refine O (i+tw G1 s i) a _ (by omega) (by omega) b (by omega) ?_;simp
    ·rw[x]at o;simp only[FO,n,q,G,H,o,Bs,DK,show ¬((4:Int)=1) by decide,show ¬((4:Int)=2) by decide,show ¬((4:Int)=3) by decide,Bu,eC]at b;simp[L5];refine O (i+1) (a++[⟨3,[c],0,i⟩]) _ (by omega) (by simp;omega) b (by omega) ?_;simp[BH.enc,x]
  ·have U:i=s.length:=by omega
   subst U;simp[QB];refine re _ _ _ ?_;simp;refine Yv2 hPp ?_;simp;rw[Yhc (Bg _)]at b;rw[b]at h;simpa[LN,XE,B9]using h
end
def Bl.enc(s:Bl):D:=.agg [.AH 1 (s.Aa.map D.AU),.AH 5 (s.Am.map C2.enc),.AH 6 (s.AE.map Bt.enc),.AH 5 (s.AT.map DH.enc),.AH 5 (s.AM.map B0.enc),.AH 3 (s.AK.map B1.enc)]
def Y36(b:Int):R Bl->V
|.ok s _=>.BT [.d s.enc,.d (.int .i64 0),.d (.int .i64 0)]
|.Bi a e=>.BT [.d P3,.d (.int .i64 (Ta b a)),.d (.int .i64 (SF a e))]
def Su(s:B):V:=if s.length > 65536 then .BT [.d P3,.d (.int .i64 0),.d (.int .i64 2)] else match EM s 0 with
|.Bi e=>.BT [.d P3,.d (.int .i64 e),.d (.int .i64 90)]
|.ok l=>Y36 s.length (QW l)
section
attribute [local simp] Ca B7
section
variable {P:BA} (hPp:P.p=prog) (hI:Ep P)
include hPp
theorem Ywb{d:AF}{a b c:Nat}{K:AF->Prop}(h:K d):B4 P 19 [.ptr a [],.ptr b [],.ptr c []] d none K:=by
 refine B4.D8 λ_ e=>?_;refine Vy hPp AQ Zmi Zij Zig A4.nil ?_;simp[ZP,ZO,Zfq];refine⟨[],by simp,?_,?_⟩
 ·simp[e]
 ·simpa using h
theorem Ywc{a:Int}{b:List BH}{s:Bl}{i e:Int}{K:AF->Prop}(h:K (AG (AG (AG (GC a b s) 0 (.box 30 (.d P3))) 1 (.box 3 (.d (.int .i64 i)))) 2 (.box 31 (.d (.int .i64 e))))):B4 P 19 [.ptr 0 [],.ptr 1 [],.ptr 2 []] (GC a b s) (some (.d (.iface 59 (.agg [.int .i64 i,.int .i64 e])))) K:=by
 refine B4.D8 λ_ c=>?_;refine Vy hPp AQ Zmi Zij Zig A4.nil ?_;simp[ZP,ZO,Zfq,Ymw];refine⟨[],by simp,?_,?_⟩
 ·simp[AD,Zd]
 ·simpa[AD]using h
theorem Yi5:Xd P.p 19=true/\Xd P.p 20=true/\Xd P.p 21=true/\Xd P.p 22=true/\Xd P.p 23=true/\Xd P.p 24=true/\Xd P.p 25=true:=by
 rw[hPp];exact⟨by kernel_rfl,by kernel_rfl,by kernel_rfl,by kernel_rfl,by kernel_rfl,by kernel_rfl,by kernel_rfl⟩
def nh:Ab.Fn:=⟨λa=>match a with|[.d (.AU _)]=>True|_=>False,λa=>match a with|[.d (.AU s)]=>Nh s|_=>.any⟩
omit hPp in
@[simp]theorem fnLex_val(s:B):nh.val [.d (.AU s)]=Nh s:=rfl
omit hPp in
@[simp]theorem fnLex_pre(s:B):nh.pre [.d (.AU s)]=True:=rfl
theorem Zfh:Lp P 12 nh:=λb h c K a=>by
 match b,h with
 |[.d (.AU s)],_=>exact Y69 hPp s a
include hI
theorem Ywd(t:B){x:Bl}(c:Iw x)(i:Int)(k:List BH):((if t=[105,115,115,117,101,114] then some (V.fn 20 [] []) else if t=[117,110,105,116] then some (V.fn 21 [] []) else if t=[115,99,104,101,109,97] then some (V.fn 22 [] []) else if t=[100,101,114,105,118,101] then some (V.fn 23 [] []) else if t=[99,111,110,118,101,114,116] then some (V.fn 24 [] []) else if t=[112,117,114,112,111,115,101] then some (V.fn 25 [] []) else none)=none/\IY t x=fail 100)\/∃f,(if t=[105,115,115,117,101,114] then some (V.fn 20 [] []) else if t=[117,110,105,116] then some (V.fn 21 [] []) else if t=[115,99,104,101,109,97] then some (V.fn 22 [] []) else if t=[100,101,114,105,118,101] then some (V.fn 23 [] []) else if t=[99,111,110,118,101,114,116] then some (V.fn 24 [] []) else if t=[112,117,114,112,111,115,101] then some (V.fn 25 [] []) else none)=some (V.fn f [] [])/\Xd P.p f=true/\∀K,PS K i (IY t x k)->AX P f [.ptr 4 []] (GC i k x) K:=by
 obtain⟨s,l,m,n,o,q,r⟩:=Yi5 hPp;unfold IY;by_cases a:t=[105,115,115,117,101,114]
 ·simp only[a,Bu,Bs];refine .inr ⟨_,rfl,l,λK h=>?_⟩;exact Yim hPp hI c h
 by_cases b:t=[117,110,105,116]
 ·simp only[a,b,Bu,Bs];refine .inr ⟨_,rfl,m,λK h=>?_⟩;exact Y4s hPp hI c h
 by_cases d:t=[115,99,104,101,109,97]
 ·simp only[a,b,d,Bu,Bs];refine .inr ⟨_,rfl,n,λK h=>?_⟩;exact Yin hPp hI c h
 by_cases e:t=[100,101,114,105,118,101]
 ·simp only[a,b,d,e,Bu,Bs];refine .inr ⟨_,rfl,o,λK h=>?_⟩;exact Y4r hPp hI c h
 by_cases g:t=[99,111,110,118,101,114,116]
 ·simp only[a,b,d,e,g,Bu,Bs];refine .inr ⟨_,rfl,q,λK h=>?_⟩;exact Ydy hPp hI c h
 by_cases j:t=[112,117,114,112,111,115,101]
 ·simp only[a,b,d,e,g,j,Bu,Bs];refine .inr ⟨_,rfl,r,λK h=>?_⟩;exact Yd2 hPp hI c h
 ·simp only[a,b,d,e,g,j,Bs];exact .inl ⟨trivial,trivial⟩
theorem Yo5(s:B){y:AF}{K:V->Prop}(h:K (Su s)):AW P 6 [.d (.AU s)] y K:=by
 refine Vj hPp AQ (ds:=[.AU s]) ok6 lf6 (A4.cons (Zfh hPp) A4.nil) ?_;obtain⟨n,G,H,J,L,N,O⟩:=Yi5 hPp;by_cases b:65536<s.length
 ·simp only[Su,gt_iff_lt,b,Bu]at h;simp[YH,n,Nh,b];exact h
 ·simp only[Su,gt_iff_lt,b,Bs]at h;cases i:EM s 0 with
  |Bi e=>
   simp only[i]at h;simp[YH,n,Nh,b,i,XE];exact h
  |ok l=>
   simp only[i]at h;simp[YH,n,Nh,b,i,XE,B9];refine Au.go (ι:=Bl×List BH) (λ_=>[(2,.ptr 0 []),(3,.ptr 1 []),(4,.ptr 2 []),(6,.mp 3),(7,.ptr 4 [])])
    (λj=>GC s.length j.2 j.1) (λj=>Iw j.1/\Jz j.2.length j.1 j.2=QW l) (λj=>j.2.length) (XF,l) ⟨Zf1,rfl⟩ (by simp) (by simp) ?_
   rintro⟨x,q⟩ ⟨o,a⟩ R u z T F;dsimp only at o a u;cases q with
   |nil=>
    rw[xY]at a;rw[<-a]at h;simp[Yiw];refine z _ _ _ ?_;simp;refine Ywb hPp ?_;simp;exact h
   |cons t r=>
    have c:∀(ts':List BH)(e:Int)(p:Bl),QW l=.Bi ts' e->R (.panic (.d (G0 s.length ts' e))) [(2,.ptr 0 []),(3,.ptr 1 []),(4,.ptr 2 [])] (GC s.length ts' p):=λts' e p i=>by
     refine F _ _ _ ?_;simp;refine Ywc hPp ?_;simp;rw[i]at h;exact h
    rw[List.length_cons,Qp,Xo]at a;simp[Yiw,BH.enc];have g:=Ywd hPp hI t.DJ o s.length (t::r);generalize (if t.DJ=[105,115,115,117,101,114] then _ else _:Option V)=Q at g⊢;rcases g with⟨rfl,g⟩|⟨f,rfl,w,g⟩
    ·simp;refine Ug hPp (S:=nA x) (ts:=t::r) (en:=s.length) (by simp) (by simp) _ ?_;simp;refine c _ _ _ ?_;rw[<-a];simp only[GS,g,fail,ite_self]
    ·by_cases k:t.kind=1
     ·simp[k,Yvh,w];refine g _ ?_;simp only[GS,k,Bu]at a;cases m:IY t.DJ x (t::r) with
      |Bi ts' e=>
       simp only[m]at a;intro p;exact c _ _ _ a.symm
      |ok v ts'=>
       simp only[m]at a;have b:=(QH _ _).2 _ _ _ m;refine u [] (v,ts') _ _ ⟨zX o m,?_⟩ b (by simp) (by simp[AD]) (by simp[AD]) (by simp[AD,Zd]);simp only[List.length_cons]at b;rw[<-Xw4 r.length v ts' (by omega)];exact a
     ·simp[k];refine Ug hPp (S:=nA x) (ts:=t::r) (en:=s.length) (by simp) (by simp) _ ?_;simp;refine c _ _ _ ?_;rw[<-a];simp only[GS,k,Bs]
end
end
open Go.RowKit in
set_option maxHeartbeats 1000000 in
def Me(b:Nat)(w:World)(f:w.cell? ⟨b,0,none⟩=some (.pointer (some ⟨b,0,none⟩))):
 Calls prog 139 #[.pointer (some ⟨b,0,none⟩)] w λe d=>e=.returned (.tuple #[])/\d=w:=by
 have a:(prog.info? 127).map (·.size)=some 2:=by kernel_rfl
 obtain⟨j,c,_⟩:=HP.1 a
 go_enter Tryz.func139,Tryz.ntmps139
 go_wp2
 rw[Lib.run_neq_ptr_same w _ Tryz.underlying124 c]
 go_wp2
 go_end0
 exact⟨rfl,rfl⟩
open Go.RowKit in
set_option maxHeartbeats 1000000 in
def KY(b:Nat)(w:World)(k:w.cell? ⟨b,0,none⟩=some (.pointer none))(a:w.shape? b=some (127,2))(h:w.frozen? ⟨b,0,none⟩=false):
 Calls prog 139 #[.pointer (some ⟨b,0,none⟩)] w λe i=>e=.returned (.tuple #[])/\i=w.setCell ⟨b,0,none⟩ (.pointer (some ⟨b,0,none⟩)):=by
 have f:(prog.info? 127).map (·.size)=some 2:=by kernel_rfl
 have g:liesAt prog prog.depth 127 (2 / prog.cellsOf 127) 0 127 1=true:=by kernel_rfl
 obtain⟨j,d,c⟩:=HP.1 f
 go_enter Tryz.func139,Tryz.ntmps139
 go_wp2
 rw[Lib.run_to_unsafe w ⟨b,0,none⟩ Tryz.underlying124 Tryz.underlying295 d (by rw[c];decide) a (Nat.zero_lt_succ 1)];simp only[Result.andThen];rw[Oper.upon_value]
 go_wp2
 rw[run_callFunc_extern Tryz.func200 (by kernel_rfl) (by kernel_rfl) (by kernel_rfl) (e:=Extern.AbiNoEscape.same) (by kernel_rfl)];rw[Lib.run_noEscape];simp only[Result.andThen];rw[Oper.upon_value]
 go_wp2
 rw[Lib.run_from_unsafe w ⟨b,0,none⟩ Tryz.underlying295 Tryz.underlying124 d a g];simp only[Result.andThen];rw[Oper.upon_value]
 go_wp2
 go_end0
 exact⟨rfl,rfl⟩
def CT:∀t:List UInt8,(BD t).length=t.length
|[]=>rfl
|_::r=>by simp[BD,CT r]
def DZ:∀s t:List UInt8,BD (s++t)=BD s++BD t
|[],_=>rfl
|_::r,t=>by simp[BD,DZ r t]
def Ex{b:AF}(a:Nat->Bool)(k:Nat)(h:AI a b=true):AI a (AG b k .An)=true:=by
 induction b with
 |nil=>rfl
 |cons e r c=>
  obtain⟨j,o⟩:=e;simp only[AG];split
  ·cases o<;>simp_all[AI]
  ·cases o<;>simp_all[AI]
include hP
theorem Td{n:AF}{x:Nat}(m:AB n x=some (.box 127 (.d (.agg [.CL,.Ad])))){K:BN->AF->Prop}(h:K (.ret (.BT [])) (AG n x (.box 127 (.agg [.ptr x [],.d .Ad])))):AX P 139 [.ptr x []] n K:=by
 refine⟨λw o p j O s=>?_⟩;obtain⟨b,N,g,a,r⟩:=j.BW x _ m;simp only[V.Al,D.Ax,Bq]at r;obtain⟨G,H,rfl,rfl,J,L,rfl,rfl,rfl⟩:=r;simp only[V.A8,↓reduceCtorEq,false_or]at s;obtain⟨u,T,rfl,t,rfl⟩:=s;have l:(V.ptr x []).Ax w o u:=t.elim (λh=>.inr (.inl h)) (λh=>.inr (.inr h));obtain⟨F,Q,f,q⟩:=Bp j m l;rw[g]at f;simp only[CJ,RO.box.injEq]at f;obtain⟨rfl,rfl⟩:=f;have c:Sh.off (V.d (.agg [.CL,.Ad])).shape []=0:=rfl;rw[c]at q;subst q;rw[hP];have k:(V.agg [.ptr x [],.d .Ad]).Al w o [.pointer (some ⟨b,0,none⟩),.slice none 0 0]:=by
  simp only[V.Al,Bz,D.Ax];exact⟨[_],[_],rfl,.inl ⟨b,_,g,rfl⟩,[_],[],rfl,rfl,rfl⟩
 obtain⟨z,y⟩:=Dy (t':=.agg [.ptr x [],.d .Ad]) j m g a rfl k;refine(KY b w (by simp[World.cell?,a]) (by simp[World.shape?,a]) (by simp[World.frozen?,a])).mono ?_;rintro e U ⟨rfl,rfl⟩;have v:w.setCell ⟨b,0,none⟩ (.pointer (some ⟨b,0,none⟩))=w.setRow b [.pointer (some ⟨b,0,none⟩),.slice none 0 0].toArray:=by
  simp only[World.setCell,World.setRow];congr 1;apply Array.ext_getElem?;intro i;simp only[OE];split
  next e=>subst e;rw[a];simp
  ·rfl
 rw[v];exact⟨_,_,o,h,CP.2 ⟨[],rfl,rfl⟩,y,z⟩
theorem Ns{k:AF}{x:Nat}{v:V}(p:AB k x=some (.box 127 (.agg [.ptr x [],v]))){K:BN->AF->Prop}(h:K (.ret (.BT [])) k):AX P 139 [.ptr x []] k K:=by
 refine⟨λw q l i G o=>?_⟩;obtain⟨b,F,g,n,d⟩:=i.BW x _ p;simp only[V.Al,Bz]at d;obtain⟨y,z,rfl,d,_⟩:=d;rcases d with⟨r,t,c,rfl⟩|⟨c,_⟩
 ·rw[g]at c;simp only[CJ,RO.box.injEq]at c;obtain⟨rfl,rfl⟩:=c;simp only[V.A8,↓reduceCtorEq,false_or]at o;obtain⟨u,H,rfl,s,rfl⟩:=o;have j:(V.ptr x []).Ax w q u:=s.elim (λh=>.inr (.inl h)) (λh=>.inr (.inr h));obtain⟨r,t,f,m⟩:=Bp i p j;rw[g]at f;simp only[CJ,RO.box.injEq]at f;obtain⟨rfl,rfl⟩:=f;have a:Sh.off (V.agg [.ptr x [],v]).shape []=0:=rfl;rw[a]at m;subst m;rw[hP];refine(Me b w (by rw[a]at n;simp[World.cell?,n])).mono ?_;rintro e J ⟨rfl,rfl⟩;exact⟨_,_,q,h,CP.2 ⟨[],rfl,rfl⟩,i,.refl _ _⟩
 ·rw[g]at c;cases c
theorem pL{f:AF}{x y:Nat}{c:Int}{l:List D}(a:AB f x=some (.box 127 (.agg [.ptr x [],.sl y l.length])))(b:AB f y=some (.BG 5 1 l))(k:l.length<=100000000){K:BN->AF->Prop}(h:K (.ret (.d .B6)) (AG (AG f y (.BG 5 1 (l++[.int .u8 c]))) x (.box 127 (.agg [.ptr x [],.sl y (l.length+1)])))):AX P 55 [.ptr x [],.d (.int .u8 c)] f K:=by
 have g:(y==x)=false:=by rw[Gz];intro e;subst e;rw[a]at b;cases b
 have i:(x==y)=false:=by rw[Gz];intro e;subst e;rw[a]at b;cases b
 refine AY hP AQ rQ pY A4.nil ?_;intro _ j;simp[YQ,a];refine Ns hP a ?_;simp[a,b,g,i];refine⟨by omega,[],by simp,?_,?_⟩
 ·simp;exact Af _ _ _ _ _ (BL _ _ _ _ _ _ (j _)) (by simp[a,b])
 ·simpa using h
theorem Te{c:AF}{x y:Nat}{t:List UInt8}{l:List D}(a:AB c x=some (.box 127 (.agg [.ptr x [],.sl y l.length])))(b:AB c y=some (.BG 5 1 l))(j:l.length+t.length<=100000000){K:BN->AF->Prop}(h:K (.ret (.BT [.d (.int .i64 t.length),.d .B6])) (AG (AG c y (.BG 5 1 (l++BD t))) x (.box 127 (.agg [.ptr x [],.sl y (l.length+t.length)])))):AX P 56 [.ptr x [],.d (.AU t)] c K:=by
 have f:(y==x)=false:=by rw[Gz];intro e;subst e;rw[a]at b;cases b
 have g:(x==y)=false:=by rw[Gz];intro e;subst e;rw[a]at b;cases b
 refine AY hP AQ To Tl A4.nil ?_;intro _ i;simp[Rl,a];refine Ns hP a ?_;simp[a,b,f,g,CT];refine⟨by omega,[],by simp,?_,?_⟩
 ·simp;exact Af _ _ _ _ _ (BL _ _ _ _ _ _ (i _)) (by simp[a,b])
 ·simpa using h
theorem Nt{a:AF}{x:Nat}{t:List UInt8}(b:AB a x=some (.box 127 (.d (.agg [.CL,.Ad]))))(f:t.length<=100000000){K:BN->AF->Prop}(h:K (.ret (.BT [.d (.int .i64 t.length),.d .B6])) ((AA a,.BG 5 1 (BD t))::(AG a x (.box 127 (.agg [.ptr x [],.sl (AA a) t.length]))))):AX P 56 [.ptr x [],.d (.AU t)] a K:=by
 refine AY hP AQ To Tl A4.nil ?_;intro _ e;simp[Rl,b];refine Td hP b ?_;simp[b,CT];have c:AD (AA a) [AA a] (AA a)=false:=by simp[AD]
 refine⟨by omega,[AA a],by simp,?_,?_⟩
 ·simp[c];exact Af _ _ _ _ _ (e _) (by simp[b,c])
 ·simpa[c]using h
theorem Tc{a:AF}{x:Nat}(c:AB a x=some (.box 127 (.d (.agg [.CL,.Ad])))){K:BN->AF->Prop}(h:K (.ret (.d (.AU []))) a):AX P 58 [.ptr x []] a K:=by
 refine AY hP AQ Tp Tm A4.nil ?_;intro _ b;simp[Rm,c];refine⟨[],by simp,?_,?_⟩
 ·simp[b]
 ·simpa using h
theorem pK{b:AF}{x y:Nat}{t:List UInt8}(l:AB b x=some (.box 127 (.agg [.ptr x [],.sl y t.length])))(m:AB b y=some (.BG 5 1 (BD t)))(j:t≠[])(n:t.length<=100000000){K:BN->AF->Prop}(h:K (.ret (.d (.AU t))) (AG b y .An)):AX P 58 [.ptr x []] b K:=by
 refine AY hP AQ Tp Tm A4.nil ?_;intro _ k;have g:BD t≠[]:=by cases t with
 |nil=>exact(j rfl).elim
 |cons c r=>simp[BD]
 simp[Rm,l,m,CT,g];have f:∃E z a,(5=E/\1=z/\BD t=a)/\t.length=a.length:=⟨_,_,_,⟨rfl,rfl,rfl⟩,(CT t).symm⟩
 have e:∃E i a,(5=E/\1=i/\BD t=a)/\¬i=0/\t.length=a.length/\¬a=[]:=⟨_,_,_,⟨rfl,rfl,rfl⟩,by decide,(CT t).symm,g⟩
 first|refine⟨f,e,f,e,by omega,t,rfl,[],by simp,?_,?_⟩|refine⟨e,by omega,t,rfl,[],by simp,?_,?_⟩
 ·simp;exact Ex _ _ (k _)
 ·simpa using h
omit hP
end Go.Ab
namespace Go.Proofs
open Go.Shelf
open Go.Proofs.Tryz (prog)
def Rc9:Go.Shelf.Ren:=⟨λ| 171=>57|243=>140|246=>201|283=>245|284=>246|285=>247|286=>248|129=>262|317=>261|318=>263|319=>264|320=>265|337=>268|338=>269|n=>n,λ| 3=>3|9=>9|2=>2|4=>4|171=>347|0=>0|53=>348|37=>125|5=>5|173=>351|212=>363|51=>313|20=>20|213=>364|46=>338|232=>52|233=>354|n=>n,λ| 17=>7|18=>8|19=>9|n=>n⟩
def Rda:Go.Proofs.LaysM.n171 prog Rc9:={
 mixed:=by kernel_rfl
 f129:=Tryz.func262.trans (Cc some (by kernel_rfl))
 f171:=Tryz.func57.trans (Cc some (by kernel_rfl))
 f243:=Tryz.func140.trans (Cc some (by kernel_rfl))
 f246:=Tryz.func201.trans (Cc some (by kernel_rfl))
 f283:=Tryz.func245.trans (Cc some (by kernel_rfl))
 f284:=Tryz.func246.trans (Cc some (by kernel_rfl))
 f285:=Tryz.func247.trans (Cc some (by kernel_rfl))
 f286:=Tryz.func248.trans (Cc some (by kernel_rfl))
 f317:=Tryz.func261.trans (Cc some (by kernel_rfl))
 f318:=Tryz.func263.trans (Cc some (by kernel_rfl))
 f319:=Tryz.func264.trans (Cc some (by kernel_rfl))
 f320:=Tryz.func265.trans (Cc some (by kernel_rfl))
 f337:=Tryz.func268.trans (Cc some (by kernel_rfl))
 f338:=Tryz.func269.trans (Cc some (by kernel_rfl))
 t0:=Tryz.underlying0
 a0:=Tryz.isAgg0
 z0:=Tryz.sizeOf0
 v0:=Tryz.zeroValue0
 t2:=Tryz.underlying2
 a2:=Tryz.isAgg2
 z2:=Tryz.sizeOf2
 v2:=Tryz.zeroValue2
 t3:=Tryz.underlying3
 a3:=Tryz.isAgg3
 z3:=Tryz.sizeOf3
 v3:=Tryz.zeroValue3
 t4:=Tryz.underlying4
 a4:=Tryz.isAgg4
 z4:=Tryz.sizeOf4
 v4:=Tryz.zeroValue4
 t5:=Tryz.underlying5
 a5:=Tryz.isAgg5
 z5:=Tryz.sizeOf5
 v5:=Tryz.zeroValue5
 t9:=Tryz.underlying9
 a9:=Tryz.isAgg9
 z9:=Tryz.sizeOf9
 v9:=Tryz.zeroValue9
 t20:=Tryz.underlying20
 a20:=Tryz.isAgg20
 z20:=Tryz.sizeOf20
 v20:=Tryz.zeroValue20
 t37:=Tryz.underlying125
 a37:=Tryz.isAgg125
 z37:=Tryz.sizeOf125
 v37:=Tryz.zeroValue125
 t46:=Tryz.underlying338
 a46:=Tryz.isAgg338
 z46:=Tryz.sizeOf338
 v46:=Tryz.zeroValue338
 t51:=Tryz.underlying313
 a51:=Tryz.isAgg313
 z51:=Tryz.sizeOf313
 v51:=Tryz.zeroValue313
 t53:=Tryz.underlying348
 a53:=Tryz.isAgg348
 z53:=Tryz.sizeOf348
 v53:=Tryz.zeroValue348
 t171:=Tryz.underlying347
 a171:=Tryz.isAgg347
 z171:=Tryz.sizeOf347
 v171:=Tryz.zeroValue347
 t173:=Tryz.underlying351
 a173:=Tryz.isAgg351
 z173:=Tryz.sizeOf351
 v173:=Tryz.zeroValue351
 t212:=Tryz.underlying363
 a212:=Tryz.isAgg363
 z212:=Tryz.sizeOf363
 v212:=Tryz.zeroValue363
 t213:=Tryz.underlying364
 a213:=Tryz.isAgg364
 z213:=Tryz.sizeOf364
 t232:=Tryz.underlying52
 a232:=Tryz.isAgg52
 z232:=Tryz.sizeOf52
 v232:=Tryz.zeroValue52
 t233:=Tryz.underlying354
 a233:=Tryz.isAgg354
 z233:=Tryz.sizeOf354
 v233:=Tryz.zeroValue354
 g17:=by kernel_rfl
 g18:=by kernel_rfl
 g19:=by kernel_rfl
 i0:=by kernel_rfl
 i2:=by kernel_rfl
 i3:=by kernel_rfl
 i4:=by kernel_rfl
 i5:=by kernel_rfl
 i9:=by kernel_rfl
 i20:=by kernel_rfl
 i37:=by kernel_rfl
 i46:=by kernel_rfl
 i51:=by kernel_rfl
 i53:=by kernel_rfl
 i171:=by kernel_rfl
 i173:=by kernel_rfl
 i212:=by kernel_rfl
 i232:=by kernel_rfl
 i233:=by kernel_rfl
 m17:=by kernel_rfl
 m18:=by kernel_rfl
 m19:=by kernel_rfl}
open Go.RowKit Go.Sort Go.Lib in
def Tryz.strconv_Itoa(n:Int)(b:-9223372036854775808<=n)(c:n<=9223372036854775807)(w:World)(a:Lib.TabIs prog w "internal/strconv.uint64pow10" .u64 Lib.pow10Tab):
 Calls prog 57 #[.int .i64 n] w λe f=>e=.returned (.string ⟨(Lib.itoa n).toArray⟩)/\∃k d,f=grow (w.drewN k) d:=Any.strconv_Itoa Rda n b c w a
def Rdb:Go.Shelf.Ren:=⟨λ| 144=>138|143=>199|219=>244|217=>257|225=>258|224=>259|267=>260|266=>266|314=>267|n=>n,λ| 9=>9|4=>4|3=>3|5=>5|46=>338|146=>367|51=>313|n=>n,λ| 1=>6|n=>n⟩
def Rdc:Go.Proofs.Lays.n144 prog Rdb:={
 mixed:=by kernel_rfl
 f143:=Tryz.func199.trans (Cc some (by kernel_rfl))
 f144:=Tryz.func138.trans (Cc some (by kernel_rfl))
 f217:=Tryz.func257.trans (Cc some (by kernel_rfl))
 f219:=Tryz.func244.trans (Cc some (by kernel_rfl))
 f224:=Tryz.func259.trans (Cc some (by kernel_rfl))
 f225:=Tryz.func258.trans (Cc some (by kernel_rfl))
 f266:=Tryz.func266.trans (Cc some (by kernel_rfl))
 f267:=Tryz.func260.trans (Cc some (by kernel_rfl))
 f314:=Tryz.func267.trans (Cc some (by kernel_rfl))
 t3:=Tryz.underlying3
 a3:=Tryz.isAgg3
 z3:=Tryz.sizeOf3
 v3:=Tryz.zeroValue3
 t4:=Tryz.underlying4
 a4:=Tryz.isAgg4
 z4:=Tryz.sizeOf4
 v4:=Tryz.zeroValue4
 t5:=Tryz.underlying5
 a5:=Tryz.isAgg5
 z5:=Tryz.sizeOf5
 v5:=Tryz.zeroValue5
 t9:=Tryz.underlying9
 a9:=Tryz.isAgg9
 z9:=Tryz.sizeOf9
 v9:=Tryz.zeroValue9
 t46:=Tryz.underlying338
 a46:=Tryz.isAgg338
 z46:=Tryz.sizeOf338
 v46:=Tryz.zeroValue338
 t51:=Tryz.underlying313
 a51:=Tryz.isAgg313
 z51:=Tryz.sizeOf313
 v51:=Tryz.zeroValue313
 t146:=Tryz.underlying367
 a146:=Tryz.isAgg367
 z146:=Tryz.sizeOf367
 v146:=Tryz.zeroValue367
 g1:=by kernel_rfl}
open Go.RowKit Go.Lib in
def Tryz.strings_Contains_one(s:ByteArray)(c:UInt8)(w:World):
 Calls prog 138 #[.string s,.string ⟨#[c]⟩] w λe a=>e=.returned (.bool (decide (0<=Lib.indexByte s.data.toList c)))/\a=w:=Any.strings_Contains_one Rdc s c w
end Go.Proofs
namespace Go.Ab
open Go Go.Proofs
open Go.Proofs.Tryz (prog)
variable {P:BA}(hP:P.p=prog)
def Io(s:List UInt8)(c:UInt8):Bool:=s.any λb=>b==c
def Rg:Ab.Fn:=⟨λa=>match a with|[.d (.AU _),.d (.AU t)]=>t.length=1|_=>False,λa=>match a with|[.d (.AU s),.d (.AU t)]=>.d (.bool (Io s (t.headD 0)))|_=>.any⟩
@[simp]def fnC_pre(s t:List UInt8):Rg.pre [.d (.AU s),.d (.AU t)]=(t.length=1):=by simp only[Rg]
@[simp]def fnC_val(s t:List UInt8):Rg.val [.d (.AU s),.d (.AU t)]=.d (.bool (Io s (t.headD 0))):=by simp only[Rg]
def Bh(t:BH):Bool:=
 if t.kind=1 then CU t.DJ&&decide (t.n=0)
 else if t.kind=2 then decide (t.DJ=[])&&decide (0<=t.n)&&decide (t.n<=1099511627776)
 else if t.kind=3 then decide (t.DJ.length=1)&&FI (t.DJ.headD 0)&&decide (t.n=0)
 else false
def PL(P:BA):Prop:=∃T f,P.g 7=some (.cells (Lib.pow10Tab.map λz=>Value.int .u64 z).toArray T f)
def Kc(w:World)(k:Nat)(c:Array Obj):B5 w (Go.Sort.grow (w.drewN k) c):=by
 refine⟨by simp[Go.Sort.grow],λb a=>?_,rfl,rfl,rfl,Nat.le_add_right _ _⟩;simp[Go.Sort.grow,M5,a]
def Il(s:List UInt8)(c:UInt8):decide (0<=Lib.indexByte s c)=Io s c:=by
 unfold Io;induction s with
 |nil=>rfl
 |cons b r e=>
  have f:=Lib.indexByte_ge r c;simp only[Lib.indexByte,List.any_cons,<-e];by_cases h:b==c
  ·simp[h]
  ·simp only[h];by_cases a:Lib.indexByte r c=-1
   ·simp[a]
   ·have d:(Lib.indexByte r c==-1)=false:=by simp[a]
    simp only[d,Bool.false_or];have:0<=Lib.indexByte r c:=by omega
    simp[this];omega
def Hg(c:UInt8):Io [123,125,40,41,59,44,61,35,47,60,33,45,46,58,43] c=FI c:=by
 unfold Io FI Ko Dh;congr 1;funext b;rw[Dv];simp only[C9,DK,Int.natCast_inj];constructor
 ·intro h;rw[h]
 ·intro h;exact UInt8.toNat_inj.1 h
def pW(s:List UInt8):decide ((s.length:Int)=1)=decide (s.length=1):=by
 rw[Dv];simp only[DK];omega
def Tj(s:List UInt8):s[0]? = s.head?:=by cases s<;>rfl
include hP
theorem Ha:Lp P 138 Rg:=by
 intro p a m K b;simp only[Rg]at a b;split at a
 ·rename_i s t;simp only at b
  match t,a with
  |[c],_=>
   refine⟨λw q f l k g=>?_⟩;simp only[V.A8,↓reduceCtorEq,false_or,V.isAgg,BO,false_and,V.Al,D.Ax,true_and,HN,Gg]at g;obtain⟨u,o,rfl,h,n,i,rfl,d,rfl⟩:=g;subst h;subst d;rw[hP];refine(Tryz.strings_Contains_one ⟨s.toArray⟩ c w).mono ?_;rintro e j ⟨rfl,rfl⟩;refine⟨_,_,b,rfl,?_,B5.refl j⟩;rw[BR,Il];rfl
 ·cases a
theorem KX(b:PL P)(n:Int)(s:0<=n)(i:n<=9223372036854775807){q:AF}{K:V->Prop}(h:K (.d (.AU (Lib.itoa n)))):AW P 57 [.d (.int .i64 n)] q K:=by
 refine⟨λw x c o l g=>?_⟩;simp only[V.A8,↓reduceCtorEq,false_or,V.isAgg,BO,false_and,V.Al,D.Ax,true_and,HN,Gg]at g;obtain⟨u,t,rfl,p,rfl⟩:=g;subst p;rw[hP];obtain⟨T,f,b⟩:=b;have j:=(o.EF 7 _ (by rw[l,b])).1
 have a:Lib.TabIs prog w "internal/strconv.uint64pow10" .u64 Lib.pow10Tab:=by
  have m:prog.globalNamed "internal/strconv.uint64pow10" = some 7:=by kernel_rfl
  simp only[Lib.TabIs,World.var?,m,Option.bind_some,j]
 refine(Tryz.strconv_Itoa n (by omega) i w a).mono ?_;rintro e v ⟨rfl,k,r,rfl⟩;exact⟨_,_,h,rfl,CO.2 rfl,Kc w k r⟩
theorem ID(t:BH){j:AF}{K:V->Prop}(h:K (.d (.bool (Bh t)))):AW P 54 [.d t.enc] j K:=by
 refine AJ hP AQ (ds:=[t.enc]) rM pX (A4.cons (Dq hP) (A4.cons (Ha hP) A4.nil)) ?_;have a:∀x,x=Bh t->K (.d (.bool x)):=λb e=>e▸h;clear h;obtain⟨k,s,n,i⟩:=t;simp[YP,BH.enc,Hg];refine⟨λc=>a _ ?_,λc=>⟨λf=>a _ ?_,λf=>⟨λg=>⟨λl=>by omega,a _ ?_⟩,λg=>a _ ?_⟩⟩⟩
 ·subst c;simp[Bh,Bool.beq_eq_decide_eq]
 ·subst f;simp[Bh]
 ·subst g;simp[Bh,Bool.beq_eq_decide_eq,pW,FI,Tj]
 ·simp[Bh,c,f,g]
omit hP
def RH(n:Nat):UInt8:=UInt8.ofNat (48+n % 10)
def Zk(n:Nat):Lib.decDigits n=(if n<10 then[] else Lib.decDigits (n / 10))++[RH n]:=by
 rw[Lib.decDigits];split
 next h=>simp[RH,Nat.mod_eq_of_lt h]
 ·simp[RH]
def Yf7(n:Nat):(RH n).toNat=48+n % 10:=by
 have:n % 10<10:=Nat.mod_lt _ (by decide);simp[RH,UInt8.toNat_ofNat'];omega
def eT(n:Nat):Lib.itoa n=Lib.decDigits n:=by
 unfold Lib.itoa;rw[Aq (by omega)];rfl
def G7(t:BH):List UInt8:=if t.kind=2 then Lib.itoa t.n else t.DJ
def Zv:List BH->List UInt8
|[]=>[]
|[t]=>G7 t
|t::r=>G7 t++32::Zv r
def Of(l:List BH):V:=if l.all Bh then .BT [.d (.AU (Zv l)),.d (.int .i64 0)] else .BT [.d (.AU []),.d (.int .i64 90)]
def xM:∀(l:List BH)(t:BH),Zv (l++[t])=if l=[] then G7 t else Zv l++32::G7 t
|[],t=>rfl
|[a],t=>by simp[Zv]
|a::b::r,t=>by
 have h:=xM (b::r) t;simp only[List.cons_append,Zv]at h⊢;rw[h];simp
def Xkw(n:Nat):(Lib.decDigits n).length<=n+1/\Lib.decDigits n≠[]:=by
 refine⟨?_,by rw[Zk];simp⟩;induction n using Nat.strongRecOn with
 |ind n a=>
  rw[Zk];split
  ·simp
  ·have:=a (n / 10) (by omega);simp;omega
def wY:∀(k n:Nat),n<10 ^ (k+1)->(Lib.decDigits n).length<=k+1
|0,n,h=>by rw[Zk,BS (by omega)];simp
|k+1,n,h=>by
 rw[Zk];split
 ·simp
 ·have:=wY k (n / 10) (by rw[Nat.pow_succ]at h;omega);simp;omega
def Sp{t:BH}(h:Bh t=true):G7 t≠[]/\(G7 t).length<=32:=by
 unfold Bh at h;unfold G7;split at h
 next e=>rw[Aq (by omega)];simp[CU]at h;refine⟨λe=>?_,by omega⟩;simp[e]at h
 ·split at h
  next e=>rw[BS e];simp at h;obtain⟨N,a⟩:=Int.eq_ofNat_of_zero_le h.1.2;rw[a,eT];exact⟨(Xkw N).2,IQ (wY 12 N (by omega)) (by decide)⟩
  ·rename_i e;rw[Aq e];split at h
   ·simp at h;refine⟨λe=>?_,by omega⟩;simp[e]at h
   ·cases h
def dJ:∀(l:List BH),(∀t∈l,Bh t=true)->(Zv l).length<=33*l.length
|[],_=>by simp[Zv]
|[t],h=>by have:=Sp (h t (by simp));simp[Zv];omega
|a::b::r,h=>by
 have e:=Sp (h a (by simp));have c:=dJ (b::r) (λt d=>h t (by simp[d]));simp only[Zv,C7,List.length_cons]at c⊢;omega
def Yg2{l:List BH}(h:∀t∈l,Bh t=true)(c:l≠[]):Zv l≠[]:=by
 match l,c with
 |[t],_=>exact(Sp (h t (by simp))).1
 |a::b::r,_=>simp[Zv]
def yo{l:List BH}{k:Nat}(a:k<l.length):l.take (k+1)=l.take k++[l[k]]:=(List.take_append_getElem a).symm
def di(p:UInt8->Bool)(r:List UInt8):(r.takeWhile p).length<=r.length:=(List.takeWhile_prefix p).length_le
def Yib{c:UInt8}{r:List UInt8}{n:Nat}(h:FO c r=.skip n):n<=r.length:=by
 unfold FO at h;have:=di G1 r
 (repeat' split at h)<;>(first|(cases h;omega)|cases h)
def Ytv{c:UInt8}{r:List UInt8}{k m:Int}{t:List UInt8}{n:Nat}(h:FO c r=.Kq k t m n):n<=r.length:=by
 unfold FO at h;have a:=di W1 r;have b:=di Yq r
 (repeat' split at h)<;>(first|(cases h;omega)|cases h)
def X7s{c:UInt8}{r:List UInt8}{n a:Nat}(h:FO c r=.skip n):EM (c::r) a=EM (r.drop n) (a+n+1):=by
 rw[EM,h]
def Yhd{c:UInt8}{r:List UInt8}{k m:Int}{t:List UInt8}{n a:Nat}(h:FO c r=.Kq k t m n):EM (c::r) a=RE ⟨k,t,m,a⟩ (EM (r.drop n) (a+n+1)):=by
 rw[EM,h]
def Yhb{c:UInt8}{r:List UInt8}{a:Nat}(h:FO c r=.Bi):EM (c::r) a=.Bi a:=by
 rw[EM,h]
def X7r(a:Nat):EM [] a=.ok []:=by rw[EM]
def Yq7{M:List UInt8->Nat->Prop}(e:∀a,M [] a)
 (i:∀c r n a,FO c r=.skip n->n<=r.length->M (r.drop n) (a+n+1)->M (c::r) a)
 (j:∀c r k t m n a,FO c r=.Kq k t m n->n<=r.length->M (r.drop n) (a+n+1)->M (c::r) a)
 (l:∀c r a,FO c r=.Bi->M (c::r) a):∀s a,M s a:=by
 have d:∀N s a,s.length<=N->M s a:=by
  intro N;induction N with
  |zero=>
   intro s a h;have:s=[]:=Pb.1 (by omega);subst this;exact e a
  |succ N g=>
   intro s a h;cases s with
   |nil=>exact e a
   |cons c r=>
    simp at h;have f:∀n,(r.drop n).length<=N:=λn=>by simp;omega
    cases b:FO c r with
    |skip n=>exact i c r n a b (Yib b) (g _ _ (f n))
    |Kq k t m n=>exact j c r k t m n a b (Ytv b) (g _ _ (f n))
    |Bi=>exact l c r a b
 exact λs a=>d _ s a (Bg _)
def nm(b:B):Prop:=CU b=true
def Jy(b a n:Int):Prop:=b<=n/\n<=a
instance (lo hi n:Int):Decidable (Jy lo hi n):=by unfold Jy;exact inferInstance
def DE.wf:DE->Prop
|.Fj n=>Jy 0 1048576 n
|.path a b=>nm a/\nm b
def oH{a:Type}(p:a->Prop):Option a->Prop
|none=>True
|some x=>p x
structure Dp.wf(f:Dp):Prop where
 name:nm f.name
 kind:nm f.kind
 CB:oH (λx=>nm x.1/\nm x.2) f.CB
structure DV.wf(f:DV):Prop where
 op:Jy 1 4 f.op
 a:f.a.wf
 b:f.b.wf
structure DX.wf(f:DX):Prop where
 path:nm f.path
 Cd:f.Cd.wf
structure EB.wf(f:EB):Prop where
 B8:nm f.B8
 Aw:nm f.Aw
 shift:Jy (-1048576) 1048576 f.shift
structure HL.wf(f:HL):Prop where
 name:nm f.name
 path:nm f.path
def kO(a:Nat)(l:List B):Prop:=l≠[]/\l.length<=a/\∀x∈l,nm x
def C1.wf:C1->Prop
|.Fj c b a=>Jy 0 1048576 c/\Jy 0 1048576 b/\oH nm a
|.Mh=>True
|.Dc=>True
|.Eh l=>kO 16 l
structure Field.wf(f:Field):Prop where
 name:nm f.name
 type:f.type.wf
 pQ:f.AP.length=4
 AP:∀x∈f.AP,Jy 0 9 x
structure CE.wf(f:CE):Prop where
 names:kO 11 f.names
 name:nm f.name
structure C2.wf(f:C2):Prop where
 name:nm f.name
 CB:oH (λx=>Jy 2 1000 x.1/\nm x.2) f.CB
structure Bt.wf(f:Bt):Prop where
 name:nm f.name
 Eg:nm f.Eg
 BU:Jy 1 255 f.BU
 PC:∃w r,f.AL=⟨[115,101,108,102],.Dc,w⟩::r
 DO:f.AL.length<=12
 AL:∀x∈f.AL,x.wf
 Ki:f.Ac.length<=8
 Ac:∀x∈f.Ac,x.wf
structure DH.wf(f:DH):Prop where
 head:nm f.head
 some_:f.Ah≠[]
 DO:f.Ah.length<=3
 Ah:∀x∈f.Ah,x.wf
 Ki:f.Ap.length<=8
 Ap:∀x∈f.Ap,x.wf
 Ny:f.BJ.length<=11
 BJ:∀x∈f.BJ,x.wf
structure B0.wf(f:B0):Prop where
 Aw:nm f.Aw
 B8:nm f.B8
 DO:f.At.length<=11
 At:∀x∈f.At,x.wf
structure B1.wf(f:B1):Prop where
 name:nm f.name
 DO:f.CN.length<=32
 CN:∀x∈f.CN,x.wf
 C3:Jy 0 32 f.C3
structure Bl.wf(s:Bl):Prop where
 DO:Iw s
 Aa:∀x∈s.Aa,nm x
 Am:∀x∈s.Am,x.wf
 AE:∀x∈s.AE,x.wf
 AT:∀x∈s.AT,x.wf
 AM:∀x∈s.AM,x.wf
 AK:∀x∈s.AK,x.wf
def Xv{c:Type}(m:M c)(p:c->Prop):Prop:=∀b a r,(∀t∈b,Bh t=true)->m b=.ok a r->p a
section
variable {α β:Type} {p:α->Prop} {q:β->Prop}
def Xv.pure{a:α}(h:p a):Xv (pure a:M α) p:=λ_ _ _ _ e=>by cases e;exact h
def Xv.fail(e:Int):Xv (fail e:M α) p:=λ_ _ _ _ e=>by cases e
def Xv.bind{m:M α}{f:α->M β}(g:BZ m)(i:Xv m p)(d:∀a,p a->Xv (f a) q):Xv (m >>= f) q:=λk b r c h=>by
 rw[Xo]at h;cases e:m k with
 |Bi a b=>rw[e]at h;cases h
 |ok a l=>
  rw[e]at h;exact d a (i _ _ _ c e) _ _ _ (λt j=>c t ((g.ok e).mem j)) h
def Xv.ite{c:Prop}[Decidable c]{a b:M α}(d:Xv a p)(e:Xv b p):Xv (if c then a else b) p:=by split<;>assumption
def Xv.Ev{c:List BH->Bool}{a b:M α}(e:Xv a p)(f:Xv b p):Xv (Ev c a b) p:=λg x r d h=>by
 simp only[Go.Ab.Ev]at h;split at h
 ·exact e _ _ _ d h
 ·exact f _ _ _ d h
def Xv.any{m:M α}:Xv m λ_=>True:=λ_ _ _ _ _=>trivial
end
def Z3:Xv Yy nm:=λd a r c h=>by
 rw[kN]at h;cases d with
 |nil=>simp[Xz]at h
 |cons x p=>
  simp only at h;split at h
  next b=>cases h;have:=c x (by simp);simp[Xz]at b;simp[Bh,b]at this;exact this.1
  ·cases h
def Vx(c b:Int):Xv (Yi c b) (Jy c b):=λd a r _ h=>xX h
def Ymg(n m:Nat):Xv (Uk n m) λ_=>n≠m:=λb a r _ h=>by
 simp only[Uk]at h;split at h
 ·cases h
 ·assumption
def NL{d:Type}{p:d->Prop}{k:Int}{t:B}{b:M d}(g:BZ b)(e:U4 b)(h:Xv b p):∀n,Xv (X7 (Xz k t) b n) λl=>l.length<=n/\∀x∈l,p x
|0=>λj a r i c=>by
 simp only[X7]at c;split at c
 ·cases c
 ·cases c;simp
|n+1=>λj a r i c=>by
 simp only[X7]at c;split at c
 ·exact(h.bind g λa m=>(NL g e h n).bind (Ym g e n) λl f=>Xv.pure (p:=λl:List d=>l.length<=n+1/\∀x∈l,p x) (a:=a::l) ⟨by simp;exact f.1,by simp;exact⟨m,f.2⟩⟩) j a r i c
 ·cases c;simp
def nI:Xv P0 λx=>nm x.1/\nm x.2:=Z3.bind Xj λ_ a=>Xv.any.bind (Xf _) λ_ _=>Z3.bind Xj λ_ b=>.pure ⟨a,b⟩
def nJ:Xv MK DE.wf:=λc a r b h=>by
 simp only[MK]at h;split at h
 ·exact((Vx 0 1048576).bind (Ya _ _) λn d=>Xv.pure (p:=DE.wf) (a:=.Fj n) d) c a r b h
 ·exact(nI.bind Vb λx e=>Xv.pure (p:=DE.wf) (a:=.path x.1 x.2) e) c a r b h
def Ymf:Xv Hv Dp.wf:=Xv.any.bind (Xq _) λ_ _=>Z3.bind Xj λ_ a=>Z3.bind Xj λ_ b=>Xv.any.bind (Xu _ _) λ_ _=>.ite (nI.bind Vb λ_ c=>Xv.any.bind (Xf _) λ_ _=>.pure ⟨a,b,c⟩) (Xv.any.bind (Xf _) λ_ _=>.pure ⟨a,b,trivial⟩)
def Zt5:Xv YK (Jy 1 4):=Xv.any.bind (Xu _ _) λ_ _=>.ite (.pure (by decide)) (Xv.any.bind (Xu _ _) λ_ _=>.ite (Xv.any.bind (Xu _ _) λ_ _=>.pure (by split<;>decide)) (Xv.any.bind (Xf _) λ_ _=>Xv.any.bind (Xf _) λ_ _=>.pure (by decide)))
def Yt9:Xv NM DV.wf:=Xv.any.bind (Xq _) λ_ _=>nJ.bind Wm λ_ a=>Zt5.bind gP λ_ b=>nJ.bind Wm λ_ c=>Xv.any.bind (Xf _) λ_ _=>.pure ⟨b,a,c⟩
def Zfl:Xv Nk DX.wf:=Xv.any.bind (Xq _) λ_ _=>Z3.bind Xj λ_ a=>Xv.any.bind (Xf _) λ_ _=>nJ.bind Wm λ_ b=>Xv.any.bind (Xf _) λ_ _=>.pure ⟨a,b⟩
def Yt7:Xv UG (Jy (-1048576) 1048576):=Xv.any.bind (Xu _ _) λ_ _=>.ite (λc a r b h=>by have:=Vx _ _ _ _ _ b h;unfold Jy at this⊢;omega)
 (Xv.any.bind (Xu _ _) λ_ _=>.ite ((Vx 0 1048576).bind (Ya _ _) λ_ h=>.pure (by unfold Jy at h⊢;omega)) (.pure (by decide)))
def Y4m:Xv NX EB.wf:=Z3.bind Xj λ_ a=>Xv.any.bind (Xf _) λ_ _=>Z3.bind Xj λ_ b=>Yt7.bind cw λ_ c=>Xv.any.bind (Xf _) λ_ _=>.pure ⟨a,b,c⟩
def Zfk:Xv Ni HL.wf:=Xv.any.bind (Xq _) λ_ _=>nI.bind Vb λ_ a=>Xv.any.bind (Xf _) λ_ _=>.pure ⟨a.1,a.2⟩
def oA:∀n,Xv (GN n) λl=>l.length=n/\∀x∈l,Jy 0 9 x
|0=>.pure (by simp)
|n+1=>(Vx 0 9).bind (Ya _ _) λa c=>(oA n).bind (Qj n) λl b=>.pure ⟨by simp[b.1],by simp;exact⟨c,b.2⟩⟩
def sL(n:Nat)(d:1<=n):Xv (OI n) (kO n):=Z3.bind Xj λa b=>(NL (p:=nm) ((Xf _).bind λ_=>Xj) ((UY _).bind λ_=>Xj) (Xv.any.bind (Xf _) λ_ _=>Z3) (n-1)).bind (Ym ((Xf _).bind λ_=>Xj) ((UY _).bind λ_=>Xj) _) λl c=>.pure ⟨by simp,by simp;omega,by simp;exact⟨b,c.2⟩⟩
def Y4l:Xv XT C1.wf:=Xv.any.bind (Xu _ _) λ_ _=>.ite
 ((Vx 0 1048576).bind (Ya _ _) λ_ a=>Xv.any.bind (Xq _) λ_ _=>(Vx 0 1048576).bind (Ya _ _) λ_ b=>Xv.any.bind (Xu _ _) λ_ _=>.ite (Z3.bind Xj λ_ c=>.pure ⟨a,b,c⟩) (.pure ⟨a,b,trivial⟩))
 (Xv.any.bind (Xu _ _) λ_ _=>.ite (.pure trivial) (Xv.any.bind (Xu _ _) λ_ _=>.ite (.pure trivial) (Xv.any.bind (Xu _ _) λ_ _=>.ite ((sL 16 (by decide)).bind (V6 _) λ_ h=>.pure h) (.fail _))))
def Yt4:Xv NF Field.wf:=Xv.any.bind (Xq _) λ_ _=>Z3.bind Xj λ_ b=>Xv.any.bind (Xf _) λ_ _=>Y4l.bind dY λ_ c=>(oA 4).bind (Qj 4) λ_ a=>Xv.any.bind (Xf _) λ_ _=>.pure ⟨b,c,a.1,a.2⟩
def Yih:Xv Si CE.wf:=Xv.any.bind (Xq _) λ_ _=>(sL 11 (by decide)).bind (V6 _) λ_ a=>Xv.any.bind (Xq _) λ_ _=>Z3.bind Xj λ_ b=>Xv.any.bind (Xf _) λ_ _=>.pure ⟨a,b⟩
def nH:∀n s,s.wf->Xv (L8 n s) Bt.wf
|0,_,_=>.fail _
|n+1,s,j=>Xv.any.bind (Xu _ _) λ_ _=>.ite (.pure j) (.Ev
 ((Ymg _ _).bind (Yn _ _) λ_ m=>Yt4.bind xJ λf i=>nH n _ (by
  obtain⟨b,c,d,⟨w,r,e⟩,k,g,l,h⟩:=j;refine⟨b,c,d,⟨w,r++[f],by simp[e]⟩,by simp;omega,?_,l,h⟩;intro x a;rcases DT.1 a with a|a
  ·exact g x a
  ·rw[E3.1 a];exact i))
 (.Ev ((Ymg _ _).bind (Yn _ _) λ_ m=>Yih.bind wQ λf i=>nH n _ (by
  obtain⟨b,c,d,e,k,g,l,h⟩:=j;refine⟨b,c,d,e,k,g,by simp;omega,?_⟩;intro x a;rcases DT.1 a with a|a
  ·exact h x a
  ·rw[E3.1 a];exact i)) (.fail _)))
def Ytg:nm [115,101,108,102]:=by unfold nm;decide
def Ydp:Xv gx nm:=Xv.any.bind (Xq _) λ_ _=>Z3.bind Xj λ_ h=>Xv.any.bind (Xf _) λ_ _=>.pure h
def Yt8:Xv n0 C2.wf:=Xv.any.bind (Xq _) λ_ _=>Z3.bind Xj λ_ a=>Xv.any.bind (Xu _ _) λ_ _=>.ite ((Vx 2 1000).bind (Ya _ _) λ_ b=>Z3.bind Xj λ_ c=>Xv.any.bind (Xf _) λ_ _=>.pure ⟨a,b,c⟩) (Xv.any.bind (Xf _) λ_ _=>.pure ⟨a,trivial⟩)
def Yds:Xv lH Bt.wf:=Xv.any.bind (Xq _) λ_ _=>Z3.bind Xj λ_ b=>Xv.any.bind (Xq _) λ_ _=>Z3.bind Xj λ_ c=>Xv.any.bind (Xq _) λ_ _=>(Vx 1 255).bind (Ya _ _) λ_ d=>Xv.any.bind (Xq _) λ_ _=>(oA 4).bind (Qj 4) λw a=>Xv.any.bind (Xf _) λ_ _=>
 nH _ _ ⟨b,c,d,⟨w,[],rfl⟩,by simp,by
  intro x e;rw[E3.1 e];exact⟨Ytg,trivial,a.1,a.2⟩,by simp,by simp⟩
def Yt6:Xv oK DH.wf:=Xv.any.bind (Xq _) λ_ _=>Z3.bind Xj λ_ n=>Xv.any.bind (Xf _) λ_ _=>λg a r j h=>by
 simp only[Ev]at h;split at h
 ·rename_i o;have q:∀l r,X7 (Xz 1 [102,114,111,109]) Hv 3 g=.ok l r->l≠[]:=by
   intro l r c e;subst e;simp only[X7,o,Bu]at c;rw[Xo]at c;cases d:Hv g with
   |Bi a b=>rw[d]at c;cases c
   |ok f k=>
    rw[d]at c;simp only[Xo]at c;split at c
    ·cases c
    ·cases c
  have s:Xv (λt=>if t=g then X7 (Xz 1 [102,114,111,109]) Hv 3 g else X7 (Xz 1 [102,114,111,109]) Hv 3 t) λl=>l.length<=3/\∀x∈l,x.wf:=λt l r j c=>by
   have:X7 (Xz 1 [102,114,111,109]) Hv 3 t=.ok l r:=by
    simp only at c;split at c
    next e=>rw[e];exact c
    ·exact c
   exact NL Js Jm Ymf 3 t l r j this
  rw[Xo]at h;cases d:X7 (Xz 1 [102,114,111,109]) Hv 3 g with
  |Bi a b=>rw[d]at h;cases h
  |ok l k=>
   rw[d]at h;have c:=NL Js Jm Ymf 3 g l k j d;exact((NL UO UN Yt9 8).bind (Ym UO UN 8) λw m=>(NL VR VO Zfl 11).bind (Ym VR VO 11) λt i=>Xv.any.bind (Xf _) λ_ _=>Xv.pure (p:=DH.wf) ⟨n,q l k d,c.1,c.2,m.1,m.2,i.1,i.2⟩) k a r (λt i=>j t (((Ym Js Jm 3).ok d).mem i)) h
 ·cases h
def X25:Xv eG B0.wf:=Xv.any.bind (Xq _) λ_ _=>Z3.bind Xj λ_ b=>Xv.any.bind (Xq _) λ_ _=>Z3.bind Xj λ_ c=>Xv.any.bind (Xf _) λ_ _=>(NL dZ dX Y4m 11).bind (Ym dZ dX 11) λ_ a=>Xv.any.bind (Xf _) λ_ _=>.pure ⟨b,c,a.1,a.2⟩
def X26:Xv gG B1.wf:=Xv.any.bind (Xq _) λ_ _=>Z3.bind Xj λ_ b=>Xv.any.bind (Xf _) λ_ _=>(NL dr dm Zfk 32).bind (Ym dr dm 32) λ_ a=>Xv.any.bind (Xq _) λ_ _=>(Vx 0 32).bind (Ya _ _) λ_ c=>Xv.any.bind (Xf _) λ_ _=>Xv.any.bind (Xf _) λ_ _=>.pure ⟨b,a.1,a.2,c⟩
def RF{c:Type}{p:c->Prop}{l:List c}{a:c}(h:∀x∈l,p x)(d:p a):∀x∈l++[a],p x:=λx b=>by
 rcases DT.1 b with b|b
 ·exact h x b
 ·rw[E3.1 b];exact d
def Y4k{t:B}{s:Bl}(b:s.wf):Xv (IY t s) Bl.wf:=λg f r e h=>by
 have c:=zX b.DO h;unfold IY at h;split at h
 ·rw[yR]at h;obtain⟨_,a,d,rfl⟩:=Vi h;exact⟨c,RF b.Aa (Ydp _ _ _ e d),b.Am,b.AE,b.AT,b.AM,b.AK⟩
 split at h
 ·rw[Ydj]at h;obtain⟨_,a,d,rfl⟩:=Vi h;exact⟨c,b.Aa,RF b.Am (Yt8 _ _ _ e d),b.AE,b.AT,b.AM,b.AK⟩
 split at h
 ·rw[yj]at h;obtain⟨_,a,d,rfl⟩:=Vi h;exact⟨c,b.Aa,b.Am,RF b.AE (Yds _ _ _ e d),b.AT,b.AM,b.AK⟩
 split at h
 ·rw[Ycj]at h;obtain⟨_,a,d,rfl⟩:=Vi h;exact⟨c,b.Aa,b.Am,b.AE,RF b.AT (Yt6 _ _ _ e d),b.AM,b.AK⟩
 split at h
 ·rw[xC]at h;obtain⟨_,a,d,rfl⟩:=Vi h;exact⟨c,b.Aa,b.Am,b.AE,b.AT,RF b.AM (X25 _ _ _ e d),b.AK⟩
 split at h
 ·rw[xc]at h;obtain⟨_,a,d,rfl⟩:=Vi h;exact⟨c,b.Aa,b.Am,b.AE,b.AT,b.AM,RF b.AK (X26 _ _ _ e d)⟩
 ·cases h
def Ydq:∀n s,s.wf->Xv (Jz n s) Bl.wf
|n,s,f=>λk x r c h=>by
 match n,k,h,c with
 |n,[],h,_=>rw[xY]at h;cases h;exact f
 |0,t::p,h,_=>cases h
 |n+1,t::p,h,c=>
  rw[Qp,Xo]at h;cases e:GS s (t::p) with
  |Bi a b=>rw[e]at h;cases h
  |ok j g=>
   rw[e]at h;have d:∀t∈g,Bh t=true:=λu i=>c u (((Yg0 s).ok e).mem i);simp only[GS]at e;split at e
   ·exact Ydq n j (Y4k f _ _ _ c e) g x r d h
   ·cases e
def wf0:XF.wf:=⟨Zf1,by simp,by simp,by simp,by simp,by simp,by simp⟩
def Xz3{l r:List BH}{x:Bl}(a:∀t∈l,Bh t=true)(h:QW l=.ok x r):x.wf:=Ydq _ _ wf0 _ _ _ a h
def JE:Xe->List Nat->List V->Xe
|sl,p::a,v::b=>JE ((p,v)::sl) a b
|sl,_,_=>sl
def N2(id n:Nat)(d:Gu)(c:AF)(K:AF->Prop):Option Ob->Prop
|some (.lp b _ a)=>Yk n K [] (AG c id (.lp b d a))
|_=>False
def Ts(id n:Nat)(K:BN->AF->Prop):Zi
|.normal,_,a=>N2 id n .ready a (K (.ret (.d (.bool true)))) (AB a id)
|.ret,_,a=>N2 id n .ret a (K (.ret (.d (.bool false)))) (AB a id)
|.exit m,_,a=>N2 id n (.exit m) a (K (.ret (.d (.bool false)))) (AB a id)
|.panic _,_,_=>False
def rW(P:BA)(y:S)(id n:Nat)(K:BN->AF->Prop)(d:Xe)(c:AF):Option Ob->Prop
|some (.lp b .ready a)=>Dj P y (Ts id n K) d (AG c id (.lp b .busy a))
|_=>False
def rV(P:BA)(y:S)(id n:Nat)(K:BN->AF->Prop):Zi
|.normal,b,a=>rW P y id n K b a (AB a id)
|_,_,_=>False
section
variable {w:World} {ρ:A9}
def X7v{sl:Xe}{t:Array Value}(h:∀p∈sl,p.2.Ax w ρ (t.getD p.1 undef))(k:Nat):(A7 sl k).Ax w ρ (t.getD k undef):=by
 rcases Yhh (sl:=sl) (k:=k) with e|e
 ·rw[e];exact J0
 ·exact h _ e
def xr:∀(a:List Nat)(b:List V)(g:List Value)(f:Xe)(t:Array Value),V.A8 w ρ b g->b.length=a.length->(∀p∈a,p<t.size)->(∀k,(A7 f k).Ax w ρ (t.getD k undef))->
 ∀k,(A7 (JE f a b) k).Ax w ρ (((a.zip g).foldl (λ(t:Array Value) (x:Nat×Value)=>t.setIfInBounds x.1 x.2) t).getD k undef)
|[],b,g,f,t,c,d,_,h,k=>by
 cases b with
 |nil=>simp only[V.A8]at c;subst c;exact h k
 |cons v r=>simp at d
|p::a,[],g,f,t,c,d,_,h,k=>by simp at d
|p::a,v::b,g,f,t,c,d,n,h,k=>by
 simp only[V.A8]at c;obtain⟨u,m,rfl,o,s⟩:=c;simp only[JE,List.zip_cons_cons,List.foldl_cons];refine xr a b m _ _ s (by simpa using d) (λq y=>by simpa using n q (by simp[y])) (λj=>?_) k;have l:=n p (by simp);simp only[A7];split
 next e=>subst e;have i:v.Ax w ρ u:=o;simpa[l]using i
 next e=>have:=h j;simpa[UE,e]using this
def xj:∀(l:List (Nat×Value)) (t:Array Value),(l.foldl (λ(t:Array Value) (x:Nat×Value)=>t.setIfInBounds x.1 x.2) t).size=t.size
|[],_=>rfl
|x::r,t=>by simp only[List.foldl_cons];rw[xj r];simp
end
def Cz.of{P:BA}(hm:P.p.follows .mixedOrders=true){id an:Nat}{ps:List Nat}{x y:S}{Y:Xe}{ob:AF}{vs:List V}{K:BN->AF->Prop}(hL:OJ P an ps x y)(hl:AB ob id=some (.lp an .ready Y))(ab:vs.length=ps.length)
 (h:Dj P x (rV P y id (AA ob) K) (JE Y ps vs) ob):Cz P id vs ob K:=by
 refine⟨λw J G b hO hg hr hb=>?_⟩;obtain⟨b',fn,tm,dd,qs,ca,cb,g1,g2,g3,g4⟩:=hO.BW _ _ hl;rw[hb]at g1;cases g1;rw[hg]at g3;have hc:=(hL qs tm.size ca cb).1 g3;simp only[BB,C9,Es,DK]at hc;obtain⟨⟨⟨⟨⟨ah,az⟩,ap⟩,aq⟩,ax⟩,ay⟩:=hc;have ao:G.length=ps.length:=by rw[<-ab];exact Zm hr
 let N:Array Value:=(qs.zip G.toArray).foldl (λtmps (x:Nat×Value)=>tmps.setIfInBounds x.1 x.2) tm;have aj:N=(ps.zip G).foldl (λ(t:Array Value) (x:Nat×Value)=>t.setIfInBounds x.1 x.2) tm:=by
  simp only[N,<-Array.foldl_toList,Array.toList_zip,ah,List.toList_toArray]
 have ad:(Instr.getLoop b).run P.p w=.ok {state:=.ready,pending:=none,fn:=fn,tmps:=tm,params:=qs,assign:=ca,body:=cb,defers:=dd} w:=by
  simp[Instr.getLoop,getObj,Sem.run,g2,Gu.st,Gu.Dl]
 refine⟨fn,N,ca,cb,?_,?_⟩
 ·have a0:G.toArray.size=qs.size:=by
   have:=Cc List.length ah;simp at this;simp[ao,this]
  simp only[Instr.yield,Sem.run_bind,ad,Result.andThen_ok];rw[Aq (by simp[a0])];simp only[Sem.run_pure];rfl
 ·refine roundIn_of_wpIn (F:=Fence.wide) trivial ?_;let c:Dz:=⟨w,FD J,tm.size,[],P.g,J.m,[(.hd true id,.func (.yield b) #[] #[])],false⟩
  have m:DM c J.xo J (JE Y ps vs) ob {tmps:=N,defers:=[] } w:=by
   refine⟨⟨Bg _,λ_ _ _=>rfl,λb h=>.inr h,rfl,rfl,rfl,λid o h=>⟨o,h,.refl o⟩,λp hp=>?_,Bg _⟩,hO,λk=>?_,?_,FA.nil,rfl,hg⟩
   ·simp only[c,E3]at hp;subst hp;exact L4.2 (.inl ⟨b,hb,rfl⟩)
   ·show(A7 (JE Y ps vs) k).Ax w J (N.getD k undef);rw[aj];exact xr ps vs G Y tm hr ab az (X7v g4) k
   ·show N.size=tm.size;rw[aj,xj]
  have a2:∀kp i o,J.m i=some o->AD (AA ob) kp i=false:=λkp i o h0=>by
   obtain⟨x,W⟩:=hO.EY i o h0;have aw:¬AA ob<=i:=λav=>by rw[X9 _ _ av]at W;cases W
   simp[AD,aw]
  -- the loop's s,wherever the round stands
  have s:∀{q:World}{a:A9}{z:Xe}{f:AF}{a':Act}{tg:Nat}{st st':Gu}{sk:Xe},DM c J.xo a z f a' q->AB f id=some (.lp tg st sk)->
   ∃r:Loop,(Instr.getLoop b).run P.p q=.ok r q/\r.state=st.st/\(setObj b (.loop {r with state:=st'.st,pending:=st'.Dl})).run P.p q=.ok () (EV q b (.loop {r with state:=st'.st,pending:=st'.Dl}))/\r.pending=st.Dl/\
    DM c J.xo a z (AG f id (.lp tg st' sk)) a' (EV q b (.loop {r with state:=st'.st,pending:=st'.Dl})):=by
   intro q a z f a' tg st st' sk l aa;obtain⟨b2,U,Z,T,X,O,Q,k1,k2,k3,k4⟩:=l.om.BW _ _ aa;have W:=l.A1.ext (.hd true id,.func (.yield b) #[] #[]) (by simp[c]);rw[L4]at W;rcases W with⟨b3,W,e⟩|⟨W,_⟩
   ·rw[k1]at W;cases W;simp only[Ke,Value.func.injEq,Go.Fn.yield.injEq,Gg]at e;subst e;refine⟨{state:=st.st,pending:=st.Dl,fn:=U,tmps:=Z,params:=X,assign:=O,body:=Q,defers:=T},by simp[Instr.getLoop,getObj,Sem.run,k2],rfl,UR q k2 rfl,rfl,?_⟩;have af:Je (EV q b (.loop {state:=st'.st,pending:=st'.Dl,fn:=U,tmps:=Z,params:=X,assign:=O,body:=Q,defers:=T})) a id (.lp tg st' sk):=by
     refine⟨b,U,Z,T,X,O,Q,k1,VA q _ (Xl k2),k3,λp hp=>?_⟩;have t1:Tr q a (EV q b (.loop {state:=st'.st,pending:=st'.Dl,fn:=U,tmps:=Z,params:=X,assign:=O,body:=Q,defers:=T})) a:=by
      refine⟨by rw[Ud];exact Bg _,λj hj _=>Wf q _ (λe=>hj ?_),λ_ h=>.inl h,rfl,rfl,λ_ o h=>⟨o,h,.refl o⟩,rfl,rfl,rfl,Bg _⟩;subst e;exact⟨id,_,k1,rfl⟩
     exact Gw t1 (k4 p hp)
    obtain⟨t1,o1⟩:=sN (o:=.loop {state:=st'.st,pending:=st'.Dl,fn:=U,tmps:=Z,params:=X,assign:=O,body:=Q,defers:=T}) l.om aa k1 (Xl k2) (x:=.lp tg st' sk) af;exact⟨l.A1.tr t1,o1,l.sm.tr t1,l.size,l.df.tr t1,t1.xo.trans l.xo,t1.gl.trans l.gl⟩
   ·rw[k1]at W;cases W
  have tr:∀{q:World}{a:A9}{z:Xe}{f:AF}{a':Act},DM c J.xo a z f a' q->∀kp,Tr w J q (a.CY (AD (AA ob) kp)):=λ{q a z f a'} l kp=>by
   refine⟨l.A1.size,λb h1 h2=>l.A1.keep b h2 h1,λb h1=>(l.A1.DF b (W2 h1)).symm,?_,?_,λid o h1=>?_,l.A1.tape,l.A1.os,l.A1.Ck,l.A1.drawn⟩
   ·show a.xo=J.xo;rw[l.xo]
   ·show a.gl=J.gl;rw[l.gl,hg]
   ·obtain⟨o',h3,h4⟩:=l.A1.same id o h1;exact⟨o',by simp only[A9.CY,a2 kp id o h1];exact h3,h4⟩
  have Cq:∀{q:World}{a:A9}{z:Xe}{f:AF}{a':Act}{st:Gu}{H:Option Code}{v:Bool},DM c J.xo a z f a' q->st.st=(if H.isNone then .ready else .done)->st.Dl=H->H.isNone=v->N2 id (AA ob) st f (K (.ret (.d (.bool v)))) (AB f id)->
   ∃u w4,(Instr.endRound b H).run P.p q=.ok u w4/\∃al ak ac,K al ak/\Vz w4 ac (.returned u) al/\OM w4 ac ak/\Tr w J w4 ac:=by
   intro q a z f a' st H v l ai ag hv hk;unfold N2 at hk;split at hk
   next tg ba sk aa=>obtain⟨r,q1,_,q3,_,m2⟩:=s (st':=st) l aa;obtain⟨kp,_,k2,k3⟩:=hk;refine⟨.bool v,_,?_,_,_,_,k3,BR.2 rfl,m2.om.CY k2,tr m2 kp⟩;rw[ai,ag]at q3;simp only[Instr.endRound,Sem.run_bind,q1,Result.andThen_ok,q3,Sem.run_pure];rw[ai,ag,hv]
   ·cases hk
  refine wpIn_mono (Yz (rd:=some b) hm (c:=c) rfl ca x _ _ _ J _ w ap (.inl ax) h m) ?_;rintro e a1 w1 ⟨ae,a8,a6,a5,L,he,m1⟩;cases ae with
  |exit n=>cases L
  |ret=>cases L
  |panic v=>cases L
  |normal=>
   cases e<;>simp only[Dx]at he;simp only[rV]at L;unfold rW at L;split at L
   ·rename_i tg sk au;obtain⟨r,q1,q2,q3,q4,m2⟩:=s (st':=.busy) m1 au;refine⟨_,?_,wpIn_mono (Yz (rd:=some b) hm (c:=c) rfl cb y _ _ _ a5 a1 _ aq (.inl ay) L m2) ?_⟩
    ·simp only[Instr.beginRound,Sem.run_bind,q1,Result.andThen_ok];have a4:(setObj b (.loop {r with state:=.busy})).run P.p w1=.ok () (EV w1 b (.loop {r with state:=.busy,pending:=none})):=by
      have:(Loop.mk .busy r.pending r.fn r.tmps r.params r.assign r.body r.defers)=Loop.mk .busy none r.fn r.tmps r.params r.assign r.body r.defers:=by rw[q4];rfl
      show(setObj b (.loop (Loop.mk .busy r.pending r.fn r.tmps r.params r.assign r.body r.defers))).run P.p w1=_;rw[this];exact q3
     rw[a4,q2];simp[Gu.st];rfl
    ·rintro e a3 w3 ⟨ae,a9,a7,bb,L,he,m3⟩;cases ae with
     |normal=>cases e<;>simp only[Dx]at he;exact Cq (st:=.ready) m3 rfl rfl rfl L
     |ret=>cases e<;>simp only[Dx]at he;exact Cq (st:=.ret) m3 rfl rfl rfl L
     |exit n=>cases e<;>simp only[Dx]at he;subst he;exact Cq (st:=.exit _) m3 rfl rfl rfl L
     |panic v=>cases L
   ·cases L
end Go.Ab
