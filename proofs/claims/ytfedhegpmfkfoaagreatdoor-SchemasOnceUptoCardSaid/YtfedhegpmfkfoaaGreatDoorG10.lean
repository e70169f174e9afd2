/- Joined texts, part 10 of 19. Calls that are computed once, and what the evaluator makes of them. Over the seat's program; no condition. -/
import Derived.Test.YtfedhegpmfkfoaaGreatDoorG5
import Derived.Test.YtfedhegpmfkfoaaGreatDoorG9
import Derived.Shelf.Strings.Builder1
import Derived.Shelf.Strconv.Itoa0
import Derived.Shelf.Strconv.Itoa1
import Derived.Shelf.LaysM
import Derived.Shelf.Strconv.Itoa2
import Derived.Shelf.Strconv.Itoa3
import Derived.Shelf.Strings.Search1
import Derived.Shelf.Strings.Search2
import Derived.Shelf.Strings.Search3
import Derived.Shelf.Strings.Shaped
import Derived.Test.YtfedhegpmfkfoaaGreatDoorProg
import Derived.KernelRfl
set_option maxRecDepth 100000
set_option linter.unusedSimpArgs false
set_option linter.unusedVariables false
set_option linter.unusedSectionVars false
set_option linter.defProp false
namespace Go.Ab
open Go Go.Proofs
section
variable {P:Az} (hP:P.p=Tryz.prog)
include hP
theorem Ysi {d:AB}{a b c:Nat}{K:AB->Prop}(h:K d):B6 P 137 [.ptr a [],.ptr b [],.ptr c []] d none K:=by
 refine B6.EM λ_ e=>?_;refine Q5 hP AO Yy5 Yu2 Yuy BD.nil ?_;simp[gn,gk,Yqy];refine⟨[],by simp,?_,?_⟩
 ·simp[e]
 ·simpa using h
theorem Ysj {e:AB}{a b c:Nat}{i:Int}{K:AB->Prop}{va vb vc:V}{Ea Eb Ec:Nat}(k:AA e a=some (.box Ea va))(l:AA e b=some (.box Eb vb))(m:AA e c=some (.box Ec vc))(o:va.shape=.AX)(p:vb.shape=.AX)(q:vc.shape=.AX)
 (f:(a==b)=false) (g:(a==c)=false) (j:(b==c)=false) (h:K (AG (AG (AG e a (.box Ea (.d .AT))) b (.box Eb (.d (.int .i64 i)))) c (.box Ec (.d (.int .i64 90))))):B6 P 137 [.ptr a [],.ptr b [],.ptr c []] e (some (.d (.iface 242 (.int .i64 i)))) K:=by
 refine B6.EM λ_ n=>?_;refine Q5 hP AO Yy5 Yu2 Yuy BD.nil ?_;simp[gn,gk,Yqy,X88,k,l,m,f,g,j,o,p,q];refine⟨[],by simp,?_,?_⟩
 ·rw[Xe (by simp)];exact Ar _ _ _ _ _ (Ar _ _ _ _ _ (Ar _ _ _ _ _ (n _) (by simp)) (by simp)) (by simp)
 ·rw[Xe (by simp)];exact h
theorem Yab:Xd P.p 137=true/\Xd P.p 139=true/\Xd P.p 140=true/\Xd P.p 141=true/\Xd P.p 142=true/\Xd P.p 143=true:=by
 rw[hP];exact⟨by kernel_rfl,by kernel_rfl,by kernel_rfl,by kernel_rfl,by kernel_rfl,by kernel_rfl⟩
omit hP in
theorem X8j (f g:Nat->Int):(Jg f).shape=(Jg g).shape:=by
 simp only[Jg,Fj,D.shape,D.BZ,List.map_map,Function.comp_def]
theorem Y18 (s:List UInt8){ob:AB}{K:V->Prop}(h:K (S4 s)):AU P 72 [.d (.AM s)] ob K:=by
 refine U8 hP AO (ds:=[.AM s]) Zoe Zkk BD.nil ?_;obtain⟨d0,d1,d2,d3,d4,d5⟩:=Yab hP;simp only[Zek,xW,Yh4];simp[d0];refine⟨λhl=>?_,λhl=>?_⟩
 ·simpa[S4,show 65536<s.length by omega]using h
 ·have U:¬65536<s.length:=by omega
  simp only[S4,gt_iff_lt,U,Ci]at h;refine Xw1 hP ?_;simp[Zbv];refine⟨X8j _ _,?_⟩;refine Ae.go (ι:=Nat×List Cu) (λ_=>[(0,.d (.AM s)),(2,.ptr 0 []),(3,.ptr 1 []),(4,.ptr 2 []),(5,.ptr 3 []),(6,.ptr 5 [])])
   (λk=>[(5,.box 249 (.agg [.fn 139 [.ptr 3 []] [],.fn 140 [.ptr 3 []] [],.fn 141 [.ptr 3 []] [],.fn 142 [.ptr 3 []] [],.fn 143 [.ptr 3 []] []])),
    (4,.A9 157 4 (k.2.map Cu.enc)),(3,.box 248 (KF s k.1 4 k.2.length)),(2,.box 35 (.d (.int .i64 0))),(1,.box 3 (.d (.int .i64 0))),(0,.box 145 (.d .AT))])
   (λk=>k.1<=s.length/\k.2.length<=k.1/\F5 s 0=Kt k.2 (F5 (s.drop k.1) k.1)) (λk=>s.length-k.1) (0,[]) ⟨by simp,by simp,by simp[X9q]⟩ rfl (by simp) ?_
  rintro⟨i,a⟩ ⟨hi,ho,b⟩ R rn re _ rp;simp only at hi ho b;have N:∀j l J,j<=s.length->l.length<=j->F5 s 0=Kt l (F5 (s.drop j) j)->i<j->J=[(5,.box 249 (.agg [.fn 139 [.ptr 3 []] [],.fn 140 [.ptr 3 []] [],.fn 141 [.ptr 3 []] [],.fn 142 [.ptr 3 []] [],.fn 143 [.ptr 3 []] []])),
   (4,.A9 157 4 (l.map Cu.enc)),(3,.box 248 (KF s j 4 l.length)),(2,.box 35 (.d (.int .i64 0))),(1,.box 3 (.d (.int .i64 0))),(0,.box 145 (.d .AT))]->R .normal [(0,.d (.AM s)),(2,.ptr 0 []),(3,.ptr 1 []),(4,.ptr 2 []),(5,.ptr 3 []),(6,.ptr 5 [])] J:=λj l J h1 h2 h3 h4 Q=>
   rn [] (j,l) _ _ ⟨h1,h2,h3⟩ (by simp only;omega) rfl (by rw[Q];simp[AE]) (by simp[AE]) (by simp[AE])
  clear rn;by_cases f:i<s.length
  ·rw[Yna f]at b;generalize x:s[i]?.getD 0=c at *;have r:s[i]=c:=by rw[<-x];simp[f]
   have g:=c.toNat_lt;have u:(a.map Cu.enc).length<=1000000:=by simp;omega
   have L:F5 s 0=.GW i->R (.panic (.d (.iface 242 (.int .i64 i)))) [(2,.ptr 0 []),(3,.ptr 1 []),(4,.ptr 2 [])] [(5,.box 249 (.agg [.fn 139 [.ptr 3 []] [],.fn 140 [.ptr 3 []] [],.fn 141 [.ptr 3 []] [],.fn 142 [.ptr 3 []] [],.fn 143 [.ptr 3 []] []])),
    (4,.A9 157 4 (a.map Cu.enc)),(3,.box 248 (KF s i 4 a.length)),(2,.box 35 (.d (.int .i64 0))),(1,.box 3 (.d (.int .i64 0))),(0,.box 145 (.d .AT))]:=λhr=>by
    refine rp _ _ _ ?_;simp;refine Ysj hP (Ea:=145) (Eb:=3) (Ec:=35) (va:=.d .AT) (vb:=.d (.int .i64 0)) (vc:=.d (.int .i64 0)) (by simp) (by simp) (by simp) (by simp) (by simp) (by simp) rfl rfl rfl ?_;simp;rw[hr]at h;exact h
   have hx:∀(o5:Ob),AA [(5,o5),(4,Ob.A9 157 4 (a.map Cu.enc)),(3,Ob.box 248 (KF s i 4 (a.map Cu.enc).length)),(2,.box 35 (.d (.int .i64 0))),(1,.box 3 (.d (.int .i64 0))),(0,.box 145 (.d .AT))] 3=some (.box 248 (KF s i 4 (a.map Cu.enc).length)):=λ_=>by simp
   have ab:=X04 c.toNat g;have aa:∀m:Nat,F1 c.toNat=m->(F1 c.toNat).toNat=m:=λm e=>by omega
   have X:=X05 c.toNat g;have Y:=vY c.toNat g;have Z:=dp c.toNat g;have g4:=Yaf c.toNat g;have F:F1 c.toNat≠4->¬(c=47/\(s.drop (i+1)).head? = some 47):=λW h=>by
    obtain⟨rfl,_⟩:=h;exact W (by decide +kernel)
   have w:∀m:Int,F1 c.toNat=m->(WZ c=decide (m=1))/\(R7 c=decide (m=2))/\(Yo c=decide (m=3))/\(Et c=decide (m=4)):=λm e=>by
    rw[e]at X Y Z g4;refine⟨?_,?_,?_,?_⟩<;>rw[Dl,Bs]
    ·exact X.symm
    ·exact Y.symm
    ·exact Z.symm
    ·exact g4.symm
   have v:∀p:UInt8->Bool,p c=true->tw p s i=((s.drop (i+1)).takeWhile p).length+1/\(s.drop i).takeWhile p=c::(s.drop (i+1)).takeWhile p:=λp z=>by
    refine⟨(Yp4 p f (by rw[x];exact z)).2,?_⟩;rw[Qo f,x,QZ,BL z]
   rcases (by omega:F1 c.toNat=0\/F1 c.toNat=1\/F1 c.toNat=2\/F1 c.toNat=3\/F1 c.toNat=4) with e|e|e|e|e
   ·obtain⟨n,q,G,H⟩:=w 0 e;simp only[LA,n,q,G,H,F (by rw[e];decide),Ci,Kt]at b;simp[O5,f,r,g,show(c.toNat:Int)<256 by omega,e,d1];refine Yit hP s i (a.map Cu.enc) (y:=4) (by simp) ?_;simp;exact L (by simpa using b)
   ·obtain⟨n,q,G,H⟩:=w 1 e;simp[LA,n]at b;simp[O5,f,r,g,show(c.toNat:Int)<256 by omega,e,d2];refine Yiz hP s i (a.map Cu.enc) (by omega) f (y:=4) (by simp) (by simp) ?_;simp;refine N (i+1) a _ (by omega) (by omega) b (by omega) (by simp)
   ·obtain⟨n,q,G,H⟩:=w 2 e;have z:V3 c=true:=by
     have:V1 c.toNat=true:=by simpa[R7]using q
     simp[V3,Nx,this]
    obtain⟨t1,O⟩:=v V3 z;have M:=Pc V3 s i (by omega);have n:WZ c=false:=by simpa using n
    have q:R7 c=true:=by simpa using q
    simp only[LA,n,q,F (by rw[e];decide),BF,Ci,Cz]at b;simp[O5,f,r,g,show(c.toNat:Int)<256 by omega,e,d3];refine Ysh hP s i (a.map Cu.enc) (by omega) f u (y:=4) (by simp) (by simp) (λo=>?_) (λo=>?_)
    ·simp;rw[Af (by omega)]at b;exact L (by simpa[Kt]using b)
    ·simp[LV];rw[BL (by omega)]at b;simp only[eK]at b;have t:i+((s.drop (i+1)).takeWhile V3).length+1=i+tw V3 s i:=by omega
     rw[t]at b;refine N (i+tw V3 s i) (a++[⟨1,c::(s.drop (i+1)).takeWhile V3,0,i⟩]) _ (by omega) (by simp;omega) b (by omega) ?_;simp[Cu.enc,O]
   ·obtain⟨n,q,G,H⟩:=w 3 e;have z:Yo c=true:=by simpa using G
    obtain⟨t1,O⟩:=v Yo z;have M:=Pc Yo s i (by omega);have n:WZ c=false:=by simpa using n
    have q:R7 c=false:=by simpa using q
    simp only[LA,n,q,z,F (by rw[e];decide),BF,Ci,Cz]at b;simp[O5,f,r,g,show(c.toNat:Int)<256 by omega,e,d4];refine X0m hP s i (a.map Cu.enc) (by omega) f u (y:=4) (by simp) (by simp) (by rw[x];exact z) (λo=>?_) (λm o=>?_)
    ·simp;rw[O]at o;rw[o]at b;exact L (by simpa[Kt]using b)
    ·simp[LV];rw[O]at o;rw[o]at b;simp only[eK]at b;have t:i+((s.drop (i+1)).takeWhile Yo).length+1=i+tw Yo s i:=by omega
     rw[t]at b;refine N (i+tw Yo s i) (a++[⟨2,[],m,i⟩]) _ (by omega) (by simp;omega) b (by omega) ?_;simp[Cu.enc]
   ·obtain⟨n,q,G,H⟩:=w 4 e;simp[O5,f,r,g,show(c.toNat:Int)<256 by omega,e,d5];refine Yiy hP s i (a.map Cu.enc) (by omega) f u (y:=4) (by simp) (by simp) (by rw[x];simpa using H) (λo=>?_) (λo=>?_)
    ·rw[x]at o;obtain⟨rfl,Q⟩:=o;obtain⟨t1,O⟩:=v J2 rfl;have M:=Pc J2 s i (by omega);simp only[LA,n,Q,and_self,Cz,Bs,show ¬((4:Int)=1) by decide,Ci]at b;simp;have t:i+((s.drop (i+1)).takeWhile J2).length+1=i+tw J2 s i:=by omega
     rw[t]at b;refine N (i+tw J2 s i) a _ (by omega) (by omega) b (by omega) ?_;simp
    ·rw[x]at o;simp only[LA,n,q,G,H,o,Ci,Bs,show ¬((4:Int)=1) by decide,show ¬((4:Int)=2) by decide,show ¬((4:Int)=3) by decide,Cz,eK]at b;simp[LV];refine N (i+1) (a++[⟨3,[c],0,i⟩]) _ (by omega) (by simp;omega) b (by omega) ?_;simp[Cu.enc,x]
  ·have T:i=s.length:=by omega
   subst T;simp[O5];refine re _ _ _ ?_;simp;refine Ysi hP ?_;simp;rw[Ycw (BV _)]at b;rw[b]at h;simpa[Kt,oS,OH]using h
end
open Go.RowKit in
set_option maxHeartbeats 1000000 in
theorem L4 (b:Nat)(w:World)(f:w.cell? ⟨b,0,none⟩=some (.pointer (some ⟨b,0,none⟩))):
 Calls Tryz.prog 259 #[.pointer (some ⟨b,0,none⟩)] w λe d=>e=.returned (.tuple #[])/\d=w:=by
 have a:(Tryz.prog.info? 311).map (·.size)=some 2:=by kernel_rfl
 obtain⟨j,c,_⟩:=D9.1 a
 go_enter Tryz.func259,Tryz.ntmps259
 go_wp2
 rw[Lib.run_neq_ptr_same w _ Tryz.underlying309 c]
 go_wp2
 go_end0
 exact⟨rfl,rfl⟩
open Go.RowKit in
set_option maxHeartbeats 1000000 in
theorem KP (b:Nat)(w:World)(k:w.cell? ⟨b,0,none⟩=some (.pointer none))(a:w.shape? b=some (311,2))(h:w.frozen? ⟨b,0,none⟩=false):
 Calls Tryz.prog 259 #[.pointer (some ⟨b,0,none⟩)] w λe i=>e=.returned (.tuple #[])/\i=w.setCell ⟨b,0,none⟩ (.pointer (some ⟨b,0,none⟩)):=by
 have f:(Tryz.prog.info? 311).map (·.size)=some 2:=by kernel_rfl
 have g:liesAt Tryz.prog Tryz.prog.depth 311 (2 / Tryz.prog.cellsOf 311) 0 311 1=true:=by kernel_rfl
 obtain⟨j,d,c⟩:=D9.1 f
 go_enter Tryz.func259,Tryz.ntmps259
 go_wp2
 rw[Lib.run_to_unsafe w ⟨b,0,none⟩ Tryz.underlying309 Tryz.underlying387 d (by rw[c];decide) a (Nat.zero_lt_succ 1)];simp only[Result.andThen];rw[Oper.upon_value]
 go_wp2
 rw[run_callFunc_extern Tryz.func279 (by kernel_rfl) (by kernel_rfl) (by kernel_rfl) (e:=Extern.AbiNoEscape.same) (by kernel_rfl)];rw[Lib.run_noEscape];simp only[Result.andThen];rw[Oper.upon_value]
 go_wp2
 rw[Lib.run_from_unsafe w ⟨b,0,none⟩ Tryz.underlying387 Tryz.underlying309 d a g];simp only[Result.andThen];rw[Oper.upon_value]
 go_wp2
 go_end0
 exact⟨rfl,rfl⟩
theorem CE:∀t:List UInt8,(A2 t).length=t.length
|[]=>rfl
|_::r=>by simp[A2,CE r]
theorem DG:∀s t:List UInt8,A2 (s++t)=A2 s++A2 t
|[],_=>rfl
|_::r,t=>by simp[A2,DG r t]
theorem EU {b:AB}(a:Nat->Bool)(k:Nat)(h:AH a b=true):AH a (AG b k .AY)=true:=by
 induction b with
 |nil=>rfl
 |cons e r c=>
  obtain⟨j,o⟩:=e;simp only[AG];split
  ·cases o<;>simp_all[AH]
  ·cases o<;>simp_all[AH]
section
variable {P:Az} (hP:P.p=Tryz.prog)
include hP
theorem TK {n:AB}{x:Nat}(m:AA n x=some (.box 311 (.d (.agg [.B1,.AT])))){K:A7->AB->Prop}(h:K (.ret (.BE [])) (AG n x (.box 311 (.agg [.ptr x [],.d .AT])))):AV P 259 [.ptr x []] n K:=by
 refine⟨λw o p j N s=>?_⟩;obtain⟨b,M,g,a,r⟩:=j.BU x _ m;simp only[V.Ac,D.An,Bb]at r;obtain⟨G,H,rfl,rfl,J,L,rfl,rfl,rfl⟩:=r;simp only[V.A1,↓reduceCtorEq,false_or]at s;obtain⟨u,Q,rfl,t,rfl⟩:=s;have l:(V.ptr x []).An w o u:=t.elim (λh=>.inr (.inl h)) (λh=>.inr (.inr h));obtain⟨F,O,f,q⟩:=Bh j m l;rw[g]at f;simp only[Bu,RO.box.injEq]at f;obtain⟨rfl,rfl⟩:=f;have c:Sh.off (V.d (.agg [.B1,.AT])).shape []=0:=rfl;rw[c]at q;subst q;rw[hP];have k:(V.agg [.ptr x [],.d .AT]).Ac w o [.pointer (some ⟨b,0,none⟩),.slice none 0 0]:=by
  simp only[V.Ac,Br,D.An];exact⟨[_],[_],rfl,.inl ⟨b,_,g,rfl⟩,[_],[],rfl,rfl,rfl⟩
 obtain⟨z,y⟩:=Dj (t':=.agg [.ptr x [],.d .AT]) j m g a rfl k;refine(KP b w (by simp[World.cell?,a]) (by simp[World.shape?,a]) (by simp[World.frozen?,a])).mono ?_;rintro e R ⟨rfl,rfl⟩;have v:w.setCell ⟨b,0,none⟩ (.pointer (some ⟨b,0,none⟩))=w.setRow b [.pointer (some ⟨b,0,none⟩),.slice none 0 0].toArray:=by
  simp only[World.setCell,World.setRow];congr 1;apply Array.ext_getElem?;intro i;simp only[Nb];split
  ·rename_i e;subst e;rw[a];simp
  ·rfl
 rw[v];exact⟨_,_,o,h,CJ.2 ⟨[],rfl,rfl⟩,y,z⟩
theorem NB {k:AB}{x:Nat}{v:V}(p:AA k x=some (.box 311 (.agg [.ptr x [],v]))){K:A7->AB->Prop}(h:K (.ret (.BE [])) k):AV P 259 [.ptr x []] k K:=by
 refine⟨λw q l i G o=>?_⟩;obtain⟨b,F,g,n,d⟩:=i.BU x _ p;simp only[V.Ac,Br]at d;obtain⟨y,z,rfl,d,_⟩:=d;rcases d with⟨r,t,c,rfl⟩|⟨c,_⟩
 ·rw[g]at c;simp only[Bu,RO.box.injEq]at c;obtain⟨rfl,rfl⟩:=c;simp only[V.A1,↓reduceCtorEq,false_or]at o;obtain⟨u,H,rfl,s,rfl⟩:=o;have j:(V.ptr x []).An w q u:=s.elim (λh=>.inr (.inl h)) (λh=>.inr (.inr h));obtain⟨r,t,f,m⟩:=Bh i p j;rw[g]at f;simp only[Bu,RO.box.injEq]at f;obtain⟨rfl,rfl⟩:=f;have a:Sh.off (V.agg [.ptr x [],v]).shape []=0:=rfl;rw[a]at m;subst m;rw[hP];refine(L4 b w (by rw[a]at n;simp[World.cell?,n])).mono ?_;rintro e J ⟨rfl,rfl⟩;exact⟨_,_,q,h,CJ.2 ⟨[],rfl,rfl⟩,i,.refl _ _⟩
 ·rw[g]at c;cases c
theorem oc {f:AB}{x y:Nat}{c:Int}{l:List D}(a:AA f x=some (.box 311 (.agg [.ptr x [],.sl y l.length])))(b:AA f y=some (.A9 5 1 l))(k:l.length<=100000000){K:A7->AB->Prop}(h:K (.ret (.d .Bo)) (AG (AG f y (.A9 5 1 (l++[.int .u8 c]))) x (.box 311 (.agg [.ptr x [],.sl y (l.length+1)])))):AV P 199 [.ptr x [],.d (.int .u8 c)] f K:=by
 have g:(y==x)=false:=by rw[HZ];intro e;subst e;rw[a]at b;cases b
 have i:(x==y)=false:=by rw[HZ];intro e;subst e;rw[a]at b;cases b
 refine Aq hP AO TW TU BD.nil ?_;intro _ j;simp[QH,a];refine NB hP a ?_;simp[a,b,g,i];refine⟨by omega,[],by simp,?_,?_⟩
 ·simp;exact Ar _ _ _ _ _ (BH _ _ _ _ _ _ (j _)) (by simp[a,b])
 ·simpa using h
theorem TM {c:AB}{x y:Nat}{t:List UInt8}{l:List D}(a:AA c x=some (.box 311 (.agg [.ptr x [],.sl y l.length])))(b:AA c y=some (.A9 5 1 l))(j:l.length+t.length<=100000000){K:A7->AB->Prop}(h:K (.ret (.BE [.d (.int .i64 t.length),.d .Bo])) (AG (AG c y (.A9 5 1 (l++A2 t))) x (.box 311 (.agg [.ptr x [],.sl y (l.length+t.length)])))):AV P 200 [.ptr x [],.d (.AM t)] c K:=by
 have f:(y==x)=false:=by rw[HZ];intro e;subst e;rw[a]at b;cases b
 have g:(x==y)=false:=by rw[HZ];intro e;subst e;rw[a]at b;cases b
 refine Aq hP AO NM NJ BD.nil ?_;intro _ i;simp[MK,a];refine NB hP a ?_;simp[a,b,f,g,CE];refine⟨by omega,[],by simp,?_,?_⟩
 ·simp;exact Ar _ _ _ _ _ (BH _ _ _ _ _ _ (i _)) (by simp[a,b])
 ·simpa using h
theorem NC {a:AB}{x:Nat}{t:List UInt8}(b:AA a x=some (.box 311 (.d (.agg [.B1,.AT]))))(f:t.length<=100000000){K:A7->AB->Prop}(h:K (.ret (.BE [.d (.int .i64 t.length),.d .Bo])) ((fresh a,.A9 5 1 (A2 t))::(AG a x (.box 311 (.agg [.ptr x [],.sl (fresh a) t.length]))))):AV P 200 [.ptr x [],.d (.AM t)] a K:=by
 refine Aq hP AO NM NJ BD.nil ?_;intro _ e;simp[MK,b];refine TK hP b ?_;simp[b,CE];have c:AE (fresh a) [fresh a] (fresh a)=false:=by simp[AE]
 refine⟨by omega,[fresh a],by simp,?_,?_⟩
 ·simp[c];exact Ar _ _ _ _ _ (e _) (by simp[b,c])
 ·simpa[c]using h
theorem TJ {a:AB}{x:Nat}(c:AA a x=some (.box 311 (.d (.agg [.B1,.AT])))){K:A7->AB->Prop}(h:K (.ret (.d (.AM []))) a):AV P 202 [.ptr x []] a K:=by
 refine Aq hP AO NN NK BD.nil ?_;intro _ b;simp[ML,c];refine⟨[],by simp,?_,?_⟩
 ·simp[b]
 ·simpa using h
theorem oZ {b:AB}{x y:Nat}{t:List UInt8}(l:AA b x=some (.box 311 (.agg [.ptr x [],.sl y t.length])))(m:AA b y=some (.A9 5 1 (A2 t)))(j:t≠[])(n:t.length<=100000000){K:A7->AB->Prop}(h:K (.ret (.d (.AM t))) (AG b y .AY)):AV P 202 [.ptr x []] b K:=by
 refine Aq hP AO NN NK BD.nil ?_;intro _ k;have g:A2 t≠[]:=by cases t with
 |nil=>exact(j rfl).elim
 |cons c r=>simp[A2]
 simp[ML,l,m,CE,g];have f:∃E z a,(5=E/\1=z/\A2 t=a)/\t.length=a.length:=⟨_,_,_,⟨rfl,rfl,rfl⟩,(CE t).symm⟩
 have e:∃E i a,(5=E/\1=i/\A2 t=a)/\¬i=0/\t.length=a.length/\¬a=[]:=⟨_,_,_,⟨rfl,rfl,rfl⟩,by decide,(CE t).symm,g⟩
 first|refine⟨f,e,f,e,by omega,t,rfl,[],by simp,?_,?_⟩|refine⟨e,by omega,t,rfl,[],by simp,?_,?_⟩
 ·simp;exact EU _ _ (k _)
 ·simpa using h
end
end Go.Ab
namespace Go.Proofs
open Go.Shelf
def Rdq:Go.Shelf.Ren:=⟨λ| 171=>201|243=>260|246=>280|283=>287|284=>288|285=>289|286=>290|129=>271|317=>296|318=>297|319=>298|320=>299|337=>302|338=>303|n=>n,λ| 3=>3|9=>9|2=>2|4=>4|171=>396|0=>0|53=>369|37=>108|5=>5|173=>398|212=>406|51=>320|20=>20|213=>407|46=>141|232=>70|233=>368|n=>n,λ| 17=>7|18=>8|19=>9|n=>n⟩
theorem Rdr:Go.Proofs.LaysM.n171 Tryz.prog Rdq:={
 mixed:=by kernel_rfl
 f129:=Tryz.func271.trans (CK some (by kernel_rfl))
 f171:=Tryz.func201.trans (CK some (by kernel_rfl))
 f243:=Tryz.func260.trans (CK some (by kernel_rfl))
 f246:=Tryz.func280.trans (CK some (by kernel_rfl))
 f283:=Tryz.func287.trans (CK some (by kernel_rfl))
 f284:=Tryz.func288.trans (CK some (by kernel_rfl))
 f285:=Tryz.func289.trans (CK some (by kernel_rfl))
 f286:=Tryz.func290.trans (CK some (by kernel_rfl))
 f317:=Tryz.func296.trans (CK some (by kernel_rfl))
 f318:=Tryz.func297.trans (CK some (by kernel_rfl))
 f319:=Tryz.func298.trans (CK some (by kernel_rfl))
 f320:=Tryz.func299.trans (CK some (by kernel_rfl))
 f337:=Tryz.func302.trans (CK some (by kernel_rfl))
 f338:=Tryz.func303.trans (CK some (by kernel_rfl))
 t0:=Tryz.underlying0
 a0:=Tryz.isAgg0
 z0:=Tryz.sizeOf0
 v0:=Tryz.zeroValue0
 t2:=Tryz.underlying2
 a2:=Tryz.isAgg2
 z2:=Tryz.sizeOf2
 v2:=Tryz.zeroValue2
 t3:=Tryz.underlying3
 a3:=Tryz.isAgg3
 z3:=Tryz.sizeOf3
 v3:=Tryz.zeroValue3
 t4:=Tryz.underlying4
 a4:=Tryz.isAgg4
 z4:=Tryz.sizeOf4
 v4:=Tryz.zeroValue4
 t5:=Tryz.underlying5
 a5:=Tryz.isAgg5
 z5:=Tryz.sizeOf5
 v5:=Tryz.zeroValue5
 t9:=Tryz.underlying9
 a9:=Tryz.isAgg9
 z9:=Tryz.sizeOf9
 v9:=Tryz.zeroValue9
 t20:=Tryz.underlying20
 a20:=Tryz.isAgg20
 z20:=Tryz.sizeOf20
 v20:=Tryz.zeroValue20
 t37:=Tryz.underlying108
 a37:=Tryz.isAgg108
 z37:=Tryz.sizeOf108
 v37:=Tryz.zeroValue108
 t46:=Tryz.underlying141
 a46:=Tryz.isAgg141
 z46:=Tryz.sizeOf141
 v46:=Tryz.zeroValue141
 t51:=Tryz.underlying320
 a51:=Tryz.isAgg320
 z51:=Tryz.sizeOf320
 v51:=Tryz.zeroValue320
 t53:=Tryz.underlying369
 a53:=Tryz.isAgg369
 z53:=Tryz.sizeOf369
 v53:=Tryz.zeroValue369
 t171:=Tryz.underlying396
 a171:=Tryz.isAgg396
 z171:=Tryz.sizeOf396
 v171:=Tryz.zeroValue396
 t173:=Tryz.underlying398
 a173:=Tryz.isAgg398
 z173:=Tryz.sizeOf398
 v173:=Tryz.zeroValue398
 t212:=Tryz.underlying406
 a212:=Tryz.isAgg406
 z212:=Tryz.sizeOf406
 v212:=Tryz.zeroValue406
 t213:=Tryz.underlying407
 a213:=Tryz.isAgg407
 z213:=Tryz.sizeOf407
 t232:=Tryz.underlying70
 a232:=Tryz.isAgg70
 z232:=Tryz.sizeOf70
 v232:=Tryz.zeroValue70
 t233:=Tryz.underlying368
 a233:=Tryz.isAgg368
 z233:=Tryz.sizeOf368
 v233:=Tryz.zeroValue368
 g17:=by kernel_rfl
 g18:=by kernel_rfl
 g19:=by kernel_rfl
 i0:=by kernel_rfl
 i2:=by kernel_rfl
 i3:=by kernel_rfl
 i4:=by kernel_rfl
 i5:=by kernel_rfl
 i9:=by kernel_rfl
 i20:=by kernel_rfl
 i37:=by kernel_rfl
 i46:=by kernel_rfl
 i51:=by kernel_rfl
 i53:=by kernel_rfl
 i171:=by kernel_rfl
 i173:=by kernel_rfl
 i212:=by kernel_rfl
 i232:=by kernel_rfl
 i233:=by kernel_rfl
 m17:=by kernel_rfl
 m18:=by kernel_rfl
 m19:=by kernel_rfl}
open Go.RowKit Go.Sort Go.Lib in
theorem Tryz.strconv_Itoa (n:Int)(b:-9223372036854775808<=n)(c:n<=9223372036854775807)(w:World)(a:Lib.TabIs Tryz.prog w "internal/strconv.uint64pow10" .u64 Lib.pow10Tab):
 Calls Tryz.prog 201 #[.int .i64 n] w λe f=>e=.returned (.string ⟨(Lib.itoa n).toArray⟩)/\∃k d,f=grow (w.drewN k) d:=Any.strconv_Itoa Rdr n b c w a
def Rds:Go.Shelf.Ren:=⟨λ| 144=>258|143=>278|219=>286|217=>292|225=>293|224=>294|267=>295|266=>300|314=>301|n=>n,λ| 9=>9|4=>4|3=>3|5=>5|46=>141|146=>408|51=>320|n=>n,λ| 1=>6|n=>n⟩
theorem Rdt:Go.Proofs.Lays.n144 Tryz.prog Rds:={
 mixed:=by kernel_rfl
 f143:=Tryz.func278.trans (CK some (by kernel_rfl))
 f144:=Tryz.func258.trans (CK some (by kernel_rfl))
 f217:=Tryz.func292.trans (CK some (by kernel_rfl))
 f219:=Tryz.func286.trans (CK some (by kernel_rfl))
 f224:=Tryz.func294.trans (CK some (by kernel_rfl))
 f225:=Tryz.func293.trans (CK some (by kernel_rfl))
 f266:=Tryz.func300.trans (CK some (by kernel_rfl))
 f267:=Tryz.func295.trans (CK some (by kernel_rfl))
 f314:=Tryz.func301.trans (CK some (by kernel_rfl))
 t3:=Tryz.underlying3
 a3:=Tryz.isAgg3
 z3:=Tryz.sizeOf3
 v3:=Tryz.zeroValue3
 t4:=Tryz.underlying4
 a4:=Tryz.isAgg4
 z4:=Tryz.sizeOf4
 v4:=Tryz.zeroValue4
 t5:=Tryz.underlying5
 a5:=Tryz.isAgg5
 z5:=Tryz.sizeOf5
 v5:=Tryz.zeroValue5
 t9:=Tryz.underlying9
 a9:=Tryz.isAgg9
 z9:=Tryz.sizeOf9
 v9:=Tryz.zeroValue9
 t46:=Tryz.underlying141
 a46:=Tryz.isAgg141
 z46:=Tryz.sizeOf141
 v46:=Tryz.zeroValue141
 t51:=Tryz.underlying320
 a51:=Tryz.isAgg320
 z51:=Tryz.sizeOf320
 v51:=Tryz.zeroValue320
 t146:=Tryz.underlying408
 a146:=Tryz.isAgg408
 z146:=Tryz.sizeOf408
 v146:=Tryz.zeroValue408
 g1:=by kernel_rfl}
open Go.RowKit Go.Lib in
theorem Tryz.strings_Contains_one (s:ByteArray)(c:UInt8)(w:World):
 Calls Tryz.prog 258 #[.string s,.string ⟨#[c]⟩] w λe a=>e=.returned (.bool (decide (0<=Lib.indexByte s.data.toList c)))/\a=w:=Any.strings_Contains_one Rdt s c w
end Go.Proofs
namespace Go.Ab
open Go Go.Proofs
def IY (s:List UInt8)(c:UInt8):Bool:=s.any λb=>b==c
def P8:Ab.Fn:=⟨λa=>match a with|[.d (.AM _),.d (.AM t)]=>t.length=1|_=>False,λa=>match a with|[.d (.AM s),.d (.AM t)]=>.d (.bool (IY s (t.headD 0)))|_=>.any⟩
@[simp] theorem fnC_pre (s t:List UInt8):P8.pre [.d (.AM s),.d (.AM t)]=(t.length=1):=by simp only[P8]
@[simp] theorem fnC_val (s t:List UInt8):P8.val [.d (.AM s),.d (.AM t)]=.d (.bool (IY s (t.headD 0))):=by simp only[P8]
def CH (t:Cu):Bool:=
 if t.kind=1 then Dq t.Gd&&decide (t.n=0)
 else if t.kind=2 then decide (t.Gd=[])&&decide (0<=t.n)&&decide (t.n<=1099511627776)
 else if t.kind=3 then decide (t.Gd.length=1)&&Et (t.Gd.headD 0)&&decide (t.n=0)
 else false
def NU (P:Az):Prop:=∃T f,P.g 7=some (.cells (Lib.pow10Tab.map λz=>Value.int .u64 z).toArray T f)
theorem KQ (w:World)(k:Nat)(c:Array Obj):Bv w (Go.Sort.grow (w.drewN k) c):=by
 refine⟨by simp[Go.Sort.grow],λb a=>?_,rfl,rfl,rfl,Nat.le_add_right _ _⟩;simp[Go.Sort.grow,LI,a]
theorem IU (s:List UInt8)(c:UInt8):decide (0<=Lib.indexByte s c)=IY s c:=by
 unfold IY;induction s with
 |nil=>rfl
 |cons b r e=>
  have f:=Lib.indexByte_ge r c;simp only[Lib.indexByte,List.any_cons,<-e];by_cases h:b==c
  ·simp[h]
  ·simp only[h];by_cases a:Lib.indexByte r c=-1
   ·simp[a]
   ·have d:(Lib.indexByte r c==-1)=false:=by simp[a]
    simp only[d,Bool.false_or];have:0<=Lib.indexByte r c:=by omega
    simp[this];omega
theorem HL (c:UInt8):IY [123,125,40,41,59,44,61,35,47,60,33,45,46,58,43] c=Et c:=by
 unfold IY Et Ke DO;congr 1;funext b;rw[Dl];simp only[CT,Bs,Int.natCast_inj];constructor
 ·intro h;rw[h]
 ·intro h;exact UInt8.toNat_inj.1 h
theorem pE (s:List UInt8):decide ((s.length:Int)=1)=decide (s.length=1):=by
 rw[Dl];simp only[Bs];omega
theorem TR (s:List UInt8):s[0]? = s.head?:=by cases s<;>rfl
section
variable {P:Az} (hP:P.p=Tryz.prog)
include hP
theorem HF:Te P 258 P8:=by
 intro p a m K b;simp only[P8]at a b;split at a
 ·rename_i s t;simp only at b
  match t,a with
  |[c],_=>
   refine⟨λw q f l k g=>?_⟩;simp only[V.A1,↓reduceCtorEq,false_or,V.isAgg,BF,false_and,V.Ac,D.An,true_and,HY,GK]at g;obtain⟨u,o,rfl,h,n,i,rfl,d,rfl⟩:=g;subst h;subst d;rw[hP];refine(Tryz.strings_Contains_one ⟨s.toArray⟩ c w).mono ?_;rintro e j ⟨rfl,rfl⟩;refine⟨_,_,b,rfl,?_,Bv.refl j⟩;rw[BI,IU];rfl
 ·cases a
theorem KN (b:NU P)(n:Int)(s:0<=n)(i:n<=9223372036854775807){q:AB}{K:V->Prop}(h:K (.d (.AM (Lib.itoa n)))):AU P 201 [.d (.int .i64 n)] q K:=by
 refine⟨λw x c o l g=>?_⟩;simp only[V.A1,↓reduceCtorEq,false_or,V.isAgg,BF,false_and,V.Ac,D.An,true_and,HY,GK]at g;obtain⟨u,t,rfl,p,rfl⟩:=g;subst p;rw[hP];obtain⟨T,f,b⟩:=b;have j:=(o.Dn 7 _ (by rw[l,b])).1
 have a:Lib.TabIs Tryz.prog w "internal/strconv.uint64pow10" .u64 Lib.pow10Tab:=by
  have m:Tryz.prog.globalNamed "internal/strconv.uint64pow10" = some 7:=by kernel_rfl
  simp only[Lib.TabIs,World.var?,m,Option.bind_some,j]
 refine(Tryz.strconv_Itoa n (by omega) i w a).mono ?_;rintro e v ⟨rfl,k,r,rfl⟩;exact⟨_,_,h,rfl,B7.2 rfl,KQ w k r⟩
theorem Hx (t:Cu){j:AB}{K:V->Prop}(h:K (.d (.bool (CH t)))):AU P 198 [.d t.enc] j K:=by
 refine AJ hP AO (ds:=[t.enc]) TV TT (BD.cons (OQ hP) (BD.cons (HF hP) BD.nil)) ?_;have a:∀x,x=CH t->K (.d (.bool x)):=λb e=>e▸h;clear h;obtain⟨k,s,n,i⟩:=t;simp[QG,Cu.enc,HL];refine⟨λc=>a _ ?_,λc=>⟨λf=>a _ ?_,λf=>⟨λg=>⟨λl=>by omega,a _ ?_⟩,λg=>a _ ?_⟩⟩⟩
 ·subst c;simp[CH,Bool.beq_eq_decide_eq]
 ·subst f;simp[CH]
 ·subst g;simp[CH,Bool.beq_eq_decide_eq,pE,Et,TR]
 ·simp[CH,c,f,g]
end
def jD (n:Nat):UInt8:=UInt8.ofNat (48+n % 10)
theorem Vr (n:Nat):Lib.decDigits n=(if n<10 then[] else Lib.decDigits (n / 10))++[jD n]:=by
 rw[Lib.decDigits];split
 ·rename_i h;simp[jD,Nat.mod_eq_of_lt h]
 ·simp[jD]
theorem Yco (n:Nat):Lib.itoa n=Lib.decDigits n:=by
 unfold Lib.itoa;rw[Af (by omega)];rfl
def KK (t:Cu):List UInt8:=if t.kind=2 then Lib.itoa t.n else t.Gd
def Vd:List Cu->List UInt8
|[]=>[]
|[t]=>KK t
|t::r=>KK t++32::Vd r
def Nz (l:List Cu):V:=if l.all CH then .BE [.d (.AM (Vd l)),.d (.int .i64 0)] else .BE [.d (.AM []),.d (.int .i64 90)]
theorem vp:∀(l:List Cu)(t:Cu),Vd (l++[t])=if l=[] then KK t else Vd l++32::KK t
|[],t=>rfl
|[a],t=>by simp[Vd]
|a::b::r,t=>by
 have h:=vp (b::r) t;simp only[List.cons_append,Vd]at h⊢;rw[h];simp
theorem Xi9 (n:Nat):(Lib.decDigits n).length<=n+1/\Lib.decDigits n≠[]:=by
 refine⟨?_,by rw[Vr];simp⟩;induction n using Nat.strongRecOn with
 |ind n a=>
  rw[Vr];split
  ·simp
  ·have:=a (n / 10) (by omega);simp;omega
theorem vg:∀(k n:Nat),n<10 ^ (k+1)->(Lib.decDigits n).length<=k+1
|0,n,h=>by rw[Vr,BL (by omega)];simp
|k+1,n,h=>by
 rw[Vr];split
 ·simp
 ·have:=vg k (n / 10) (by rw[Nat.pow_succ]at h;omega);simp;omega
theorem R9 {t:Cu}(h:CH t=true):KK t≠[]/\(KK t).length<=32:=by
 unfold CH at h;unfold KK;split at h
 ·rename_i e;rw[Af (by omega)];simp[Dq]at h;refine⟨λe=>?_,by omega⟩;simp[e]at h
 ·split at h
  ·rename_i e;rw[BL e];simp at h;obtain⟨N,a⟩:=Int.eq_ofNat_of_zero_le h.1.2;rw[a,Yco];exact⟨(Xi9 N).2,FA (vg 12 N (by omega)) (by decide)⟩
  ·rename_i e;rw[Af e];split at h
   ·simp at h;refine⟨λe=>?_,by omega⟩;simp[e]at h
   ·cases h
theorem dv:∀(l:List Cu),(∀t∈l,CH t=true)->(Vd l).length<=33*l.length
|[],_=>by simp[Vd]
|[t],h=>by have:=R9 (h t (by simp));simp[Vd];omega
|a::b::r,h=>by
 have e:=R9 (h a (by simp));have c:=dv (b::r) (λt d=>h t (by simp[d]));simp only[Vd,DV,List.length_cons]at c⊢;omega
theorem Ycp {l:List Cu}(h:∀t∈l,CH t=true)(c:l≠[]):Vd l≠[]:=by
 match l,c with
 |[t],_=>exact(R9 (h t (by simp))).1
 |a::b::r,_=>simp[Vd]
theorem xr {l:List Cu}{k:Nat}(a:k<l.length):l.take (k+1)=l.take k++[l[k]]:=(List.take_append_getElem a).symm
def GC (l:List Cu):Nat->AB
|0=>[(0,.box 311 (.d (.agg [.B1,.AT])))]
|k+1=>[(2,.A9 5 1 (A2 (Vd (l.take (k+1))))),(0,.box 311 (.agg [.ptr 0 [],.sl 2 (Vd (l.take (k+1))).length]))]
section
variable {P:Az} (hP:P.p=Tryz.prog) (hG:NU P)
include hP hG
theorem Yse {a:D}{l:List Cu}(r:TD a l)(hl:l.length<=100000){ob:AB}{K:V->Prop}(h:K (Nz l)):AU P 99 [.d a] ob K:=by
 refine AJ hP AO (ds:=[a]) Zok Zkr BD.nil ?_;have G:∀x,x=Nz l->K x:=λb e=>e▸h;clear h;simp[Zhv,r.len,r.C2];refine Ae.go (ι:=Nat) (λk=>[(4,.ptr 0 []),(7,.d a),(8,.d (.int .i64 l.length)),(9,.d (.int .i64 k))]) (GC l) (λk=>k<=l.length/\∀t∈l.take k,CH t=true) (λk=>l.length-k) 0 ⟨by omega,by simp⟩ (by simp) rfl ?_;have F:IntKind.i64.wrap 1=1:=IntWalk.i64_in _ (by omega);rintro k ⟨hk,s⟩ R H re Z _;by_cases f:k<l.length
 ·have hL:=dv _ s;have hT:(l.take k).length<=100000:=by simp;omega
  have W:k≠0->l.take k≠[]:=λh e=>by
   rcases List.take_eq_nil_iff.1 e with Q|Q
   ·exact h Q
   ·rw[Q]at f;simp at f
  have T:IntKind.i64.wrap ((k:Int)+1)=(k:Int)+1:=IntWalk.i64_in _ (by omega);have o:CH l[k]=true->∀t∈l.take (k+1),CH t=true:=by
   intro c t p;rw[xr f]at p;rcases DF.1 p with p|p
   ·exact s t p
   ·rw[DW.1 p];exact c
  have X:CH l[k]=true->l[k].kind=2->0<=l[k].n/\l[k].n<=9223372036854775807/\Lib.itoa l[k].n=KK l[k]:=by
   intro c e;unfold CH at c;rw[Af (by omega),BL e]at c;simp at c;exact⟨c.1.2,by omega,by rw[KK,BL e]⟩
  have Y:l[k].kind≠2->l[k].Gd=KK l[k]:=λe=>by rw[KK,Af e]
  have m:=vp (l.take k) l[k];rw[<-xr f]at m;have q:CH l[k]=false->V.BE [.d (.AM []),.d (.int .i64 90)]=Nz l:=by
   intro c;rw[Nz,Af];rw[DQ];intro hA;have:=hA l[k] (CS f);rw[c]at this;cases this
  cases k with
  |zero=>
   rw[BL (by simp)]at m;have i:=r.Fl (k:=.i64) f;simp only[Int.natCast_zero]at i;simp[gJ,r.HM,GC,f,i,Cu.enc];refine Hx hP l[0] ?_;simp;refine⟨λc=>Z _ _ ?_,λc=>?_⟩
   ·simp;exact G _ (q c)
   ·have hw:=R9 c;simp[Xzw];refine⟨λe=>?_,λe=>?_⟩
    ·obtain⟨J,L,M⟩:=X c e;refine KN hP hG _ J L ?_;rw[M];refine NC hP (by simp) (by omega) ?_;simp[VN,T];rw[F];refine H [2] 1 _ _ ⟨by omega,o c⟩ (by omega) (by simp) ?_ (by simp[GC,AE,fresh]) (by simp[GC,AE,fresh]);simp only[JG]at m;simp[GC,AE,fresh,m]
    ·rw[Y e];refine NC hP (by simp) (by omega) ?_;simp[VN,T];rw[F];refine H [2] 1 _ _ ⟨by omega,o c⟩ (by omega) (by simp) ?_ (by simp[GC,AE,fresh]) (by simp[GC,AE,fresh]);simp only[JG]at m;simp[GC,AE,fresh,m]
  |succ k=>
   rw[Af (W (by omega))]at m;have i:=r.Fl (k:=.i64) f;have w:(k:Int)+1<l.length:=by omega
   have O:(0:Int)<(k:Int)+1:=by omega
   have u:(0:Int)<=(k:Int)+1:=by omega
   rw[show((k+1:Nat):Int)=(k:Int)+1 from rfl]at i;simp[gJ,r.HM,GC,f,w,O,u,i,Cu.enc];refine Hx hP l[k+1] ?_;simp;refine⟨λc=>Z _ _ ?_,λc=>?_⟩
   ·simp;exact G _ (q c)
   ·have hw:=R9 c;have j:=CE (Vd (l.take (k+1)));refine oc hP (x:=0) (y:=2) (l:=A2 (Vd (l.take (k+1)))) (by simp[j]) (by simp) (by omega) ?_;simp[Xzw];have N:A2 (Vd (l.take (k+1)))++[D.int .u8 32]=A2 (Vd (l.take (k+1))++[32]):=by rw[DG];rfl
    have g:=CE (Vd (l.take (k+1))++[32]);rw[DV]at g;rw[N,j];have v:IntKind.i64.wrap ((k:Int)+1+1)=(k:Int)+1+1:=T;refine⟨λe=>?_,λe=>?_⟩
    ·obtain⟨J,L,M⟩:=X c e;refine KN hP hG _ J L ?_;rw[M];refine TM hP (x:=0) (y:=2) (l:=A2 (Vd (l.take (k+1))++[32])) (by simp[g]) (by simp) (by simp[g];omega) ?_;simp[VN,v];refine H [] (k+2) _ _ ⟨by omega,o c⟩ (by omega) ?_ ?_ (by simp[GC,AE,fresh]) (by simp[GC,AE,fresh])
     ·simp;omega
     ·simp[GC,AE,fresh,m,DG,A2,j];omega
    ·rw[Y e];refine TM hP (x:=0) (y:=2) (l:=A2 (Vd (l.take (k+1))++[32])) (by simp[g]) (by simp) (by simp[g];omega) ?_;simp[VN,v];refine H [] (k+2) _ _ ⟨by omega,o c⟩ (by omega) ?_ ?_ (by simp[GC,AE,fresh]) (by simp[GC,AE,fresh])
     ·simp;omega
     ·simp[GC,AE,fresh,m,DG,A2,j];omega
 ·have U:k=l.length:=by omega
  subst U;simp at s;have p:Nz l=.BE [.d (.AM (Vd l)),.d (.int .i64 0)]:=by rw[Nz,BL (DQ.2 s)]
  have hL:=dv _ s;simp[gJ];refine re _ _ _ ?_;simp;cases z:l.length with
  |zero=>
   have:l=[]:=Nd.1 z;subst this;refine TJ hP (by simp[GC]) ?_;simp;exact G _ p.symm
  |succ n=>
   refine oZ hP (x:=0) (y:=2) (t:=Vd l) (by simp[GC,<-z]) (by simp[GC,<-z]) (Ycp s (λe=>by rw[e]at z;cases z)) (by omega) ?_;simp;exact G _ p.symm
end
def S.NQ:S->List (Nat×List Nat×S×S)
|.seq a b=>a.NQ++b.NQ
|.cond _ a b=>a.NQ++b.NQ
|.block _ a=>a.NQ
|.loop _ a=>a.NQ
|.E4 c d _ x y _=>[(c,d,x,y)]
|_=>[]
theorem NY {P:Az}:∀s:S,(∀t∈s.NQ,V7 P t.1 t.2.1 t.2.2.1 t.2.2.2)->s.loops P
|.seq a b,h=>⟨NY a λt c=>h t (List.mem_append_left _ c),NY b λt c=>h t (List.mem_append_right _ c)⟩
|.cond _ a b,h=>⟨NY a λt c=>h t (List.mem_append_left _ c),NY b λt c=>h t (List.mem_append_right _ c)⟩
|.block _ a,h=>NY a h
|.loop _ a,h=>NY a h
|.E4 d e _ x y _,h=>h (d,e,x,y) (DW.2 rfl)
|.rg _ _ _ _,_|.E3 _ _ _ _,_|.skip,_|.exit _,_|.ret,_=>trivial
theorem xP {p:Nat->FI->Bool}:∀{F:FT}{f:Nat}{x:FI},F.all (λe=>p e.1 e.2)=true->Vo F f=some x->p f x=true
|[],_,_,_,h=>by cases h
|(j,y)::r,f,x,a,h=>by
 simp only[List.all_cons,As]at a;simp only[Vo,Cl]at h;split at h
 ·rename_i e;cases h;have:=CN e;subst this;exact a.1
 ·exact xP a.2 h
def jB:D->Option Cu
|.agg [.int .i64 k,.AM t,.int .i64 n,.int .i64 a]=>some ⟨k,t,n,a⟩
|_=>none
def XV:List D->Option (List Cu)
|[]=>some []
|x::r=>match jB x,XV r with
 |some t,some l=>some (t::l)
 |_,_=>none
theorem Yjn {x:D}{t:Cu}(h:jB x=some t):x=t.enc:=by
 unfold jB at h;split at h
 ·cases h;rfl
 ·cases h
theorem zM:∀{a:List D}{l:List Cu},XV a=some l->a=l.map Cu.enc
|[],l,h=>by cases h;rfl
|x::r,l,h=>by
 unfold XV at h;split at h
 ·rename_i t d b c;cases h;rw[Yjn b,zM c];rfl
 ·cases h
def Yz2:D->Option V
|.AF 4 a=>match XV a with
 |some l=>if l.length<=100000 then some (Nz l) else none
 |none=>none
|_=>none
def nw (s:List UInt8):V:=if s.length > 65536 then .BE [.d .AT,.d (.int .i64 0),.d (.int .i64 2)] else oS (OB s.length s 0)
theorem Ycx (s:List UInt8):nw s=S4 s:=by
 have e:=gh s.length s 0 (BV _);unfold nw S4;rw[e]
def pw (f:Nat)(a:List V):Option V:=match a with
|[.d (.AM s)]=>bif Nat.beq f 72 then some (nw s) else none
|[.d x]=>bif Nat.beq f 99 then Yz2 x else none
|_=>none
def ZC (g:Nat):Option D:=
 bif Nat.beq g 0 then some (.agg [.int .i64 2,.int .i64 1000]) else
 bif Nat.beq g 1 then some (.agg [.int .i64 1,.int .i64 255]) else
 bif Nat.beq g 2 then some (.agg [.int .i64 0,.int .i64 32]) else
 bif Nat.beq g 3 then some (.agg [.int .i64 0,.int .i64 9]) else
 bif Nat.beq g 4 then some (.agg [.int .i64 0,.int .i64 1048576]) else none
def px (f:Nat)(b:List V)(a:AB):Option (V×AB):=match b with
|[.d x]=>WE f x a WG
|_=>none
def D7 (k:Nat):Option (List Nat×S×S):=
 bif Nat.beq k 119 then some ([7],Cb,Cc) else none
def xz:C1:=⟨λ_ _ _=>none,λf a _=>pw f a,λ_=>false,ZC,λ_ _ _=>none,D7,px⟩
structure JB (P:Az):Prop where
 Fk:Bj P 0 (.agg [.int .i64 2,.int .i64 1000])
 Er:Bj P 1 (.agg [.int .i64 1,.int .i64 255])
 Ka:Bj P 2 (.agg [.int .i64 0,.int .i64 32])
 Fv:Bj P 3 (.agg [.int .i64 0,.int .i64 9])
 oX:Bj P 4 (.agg [.int .i64 0,.int .i64 1048576])
abbrev GI (P:Az):Prop:=V7 P 119 [7] Cb Cc
section
variable {P:Az} (hP:P.p=Tryz.prog) (hI:JB P) (hG:NU P) (hL:GI P)
include hP hI hL
theorem Y0b (g:Nat)(x:D)(h:ZC g=some x):Bj P g x:=by
 simp only[ZC,Cl]at h;split at h
 ·rename_i e;cases h;rw[CN e];exact hI.Fk
 split at h
 ·rename_i e;cases h;rw[CN e];exact hI.Er
 split at h
 ·rename_i e;cases h;rw[CN e];exact hI.Ka
 split at h
 ·rename_i e;cases h;rw[CN e];exact hI.Fv
 split at h
 ·rename_i e;cases h;rw[CN e];exact hI.oX
 ·cases h
theorem z6 (a:Nat)(b:List Nat)(x y:S)(h:D7 a=some (b,x,y)):V7 P a b x y/\x.DC=true/\y.DC=true:=by
 simp only[D7,Cl]at h;split at h
 ·rename_i e;cases h;rw[CN e];exact⟨hL,by kernel_rfl,by kernel_rfl⟩
 ·cases h
theorem Xwh:FT.KY P Qg:=by
 intro f x h;have a:=xP (p:=λf x=>Nat.beq f 119||x.nr) (F:=Qg) (by kernel_rfl) h;simp only[MW]at a;rcases a with e|e
 ·rw[CN e]at h;have c:Vo Qg 119=some (.pr PW [.t 4] 2):=by kernel_rfl
  rw[c]at h;cases h;refine NY PW λt b=>?_;have d:PW.NQ=[(119,[7],Cb,Cc)]:=by kernel_rfl
  rw[d]at b;rw[DW.1 b];exact hL
 ·exact x.Ft e
include hG
theorem Zbf:xz.ok P:=by
 refine⟨λ_ _ _ _ _ h=>(by cases h),λf g d v h=>?_,λf h=>(by cases h),Y0b hP hI hL,λ_ _ _ _ _ h=>(by cases h),λf g d v b h=>?_⟩
 ·simp only[xz]at h;unfold pw at h;split at h
  ·rename_i s;rw[Cl]at h;split at h
   ·rename_i e;cases h;rw[CN e,Ycx];exact Y18 hP s rfl
   ·cases h
  ·rename_i x _;rw[Cl]at h;split at h
   ·rename_i e;rw[CN e];unfold Yz2 at h;split at h
    ·rename_i i;split at h
     ·rename_i l c;split at h
      ·rename_i a;cases h;rw[zM c];exact Yse hP hG (l:=l) (.inl rfl) a rfl
      ·cases h
     ·cases h
    ·cases h
   ·cases h
  ·cases h
 ·simp only[xz]at h;unfold px at h;split at h
  ·exact wR hP WG X03 h
  ·cases h
end
structure CR where
 f:Nat
 xs:List D
 v:V
def XJ (f:Nat)(a:List D):List CR->Option V
|[]=>none
|e::r=>bif Nat.beq f e.f&&D.B8 a e.xs then some e.v else XJ f a r
def Ph (f:Nat)(l:List CR):Option (List D)->Option V
|some a=>XJ f a l
|none=>none
def QD (l:List CR)(f:Nat)(a:List V):Option V:=match Ph f l (Bt a) with
|some v=>some v
|none=>pw f a
def CQ (l:List CR):C1:=⟨λ_ _ _=>none,λf a _=>QD l f a,λ_=>false,ZC,λ_ _ _=>none,D7,px⟩
section
variable {P:Az} (hP:P.p=Tryz.prog) (hI:JB P) (hG:NU P) (hL:GI P)
include hP hI hG hL
theorem Yp9:(CQ []).ok P:=by
 have h:=Zbf hP hI hG hL;refine⟨h.call,λf c d v a=>?_,h.ca,h.gl,h.yd,h.xc⟩;refine h.pc f c d v ?_;simp only[CQ,QD]at a;cases b:Bt c with
 |none=>rw[b]at a;exact a
 |some e=>rw[b]at a;exact a
theorem Xx {l:List CR}{e:CR}(h:(CQ l).ok P)(o:∀g,(DN 3000 Qg (CQ l) 40).pc e.f (e.xs.map .d) g=some e.v):(CQ (e::l)).ok P:=by
 have n:=SB (P:=P) (L:=3000) (F:=Qg) (by rw[hP];exact AO) (by rw[hP];exact tp) (Xwh hP hI hL) h (z6 hP hI hL) 40;refine⟨h.call,λf j g v b=>?_,h.ca,h.gl,h.yd,h.xc⟩;have i:(QD l f j=some v)->AU P f j g λp=>p=v:=λb=>h.pc f j g v b;simp only[CQ]at b;unfold QD at b;split at b
 ·rename_i u a;cases b;cases c:Bt j with
  |none=>rw[c]at a;cases a
  |some m=>
   rw[c]at a;simp only[Ph,XJ,Cl]at a;split at a
   ·rename_i k;cases a;simp only[As]at k;rw[V.Bi c,CN k.1,D.By _ _ k.2];exact n.pc _ _ g _ (o g)
   ·refine i ?_;unfold QD;rw[c];simp only[Ph,a]
 ·rename_i a;refine i ?_;unfold QD;cases c:Bt j with
  |none=>simp only[Ph];exact b
  |some m=>
   rw[c]at a;simp only[Ph,XJ,Cl]at a;split at a
   ·cases a
   ·simp only[Ph,a];exact b
end
end Go.Ab
