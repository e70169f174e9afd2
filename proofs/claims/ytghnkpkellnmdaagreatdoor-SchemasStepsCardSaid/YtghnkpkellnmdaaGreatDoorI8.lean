/- Joined texts, part 8 of 13. Contracts: the heap of rules.addable. Condition: the program is the seat's. -/
import Derived.Test.YtghnkpkellnmdaaGreatDoorI4
import Derived.Test.YtghnkpkellnmdaaGreatDoorI5
import Derived.Test.YtghnkpkellnmdaaGreatDoorI7
import Derived.Test.YtghnkpkellnmdaaGreatDoorProg
import Derived.KernelRfl
set_option maxRecDepth 100000
set_option linter.unusedSimpArgs false
set_option linter.unusedVariables false
set_option linter.unusedSectionVars false
set_option linter.defProp false
namespace Go.Ab
open Go Go.Proofs
open Go.Proofs.Tryz (prog)
variable {P:BA}(hP:P.p=prog)
def YE(e:E):S2:=.seq (.rg [] [(0,(.a (.t 0))),(1,(.a (.t 1))),(12,(.a (.t 12))),(13,(.a (.t 13))),(14,(.b (.CR .lss (.t 0) (.t 1)) (.a (.t 13)) (.a (.t 12))))] [])
 (.seq (.cond (.t 14) (.skip) (.exit 0))
 (.seq (.block 1 (.seq (.rg [] [(0,(.a (.t 0))),(1,(.a (.t 1))),(5,(.a (.t 13))),(12,(.a (.t 12))),(13,(.a (.t 13)))] [])
 (.seq (.rg [] [(0,(.a (.t 0))),(1,(.a (.t 1))),(12,(.a (.t 12))),(13,(.a (.t 13))),(24,e)] [])
 (.cond (.t 24) (.seq (.rg [] [(4,(.a (.bool false)))] []) (.ret)) (.skip)))))
 (.rg [] [(0,(.a (.t 0))),(1,(.a (.t 1))),(12,(.a (.t 12))),(13,(.b (.CR .add (.t 0) (.t 1)) (.a (.t 13)) (.a (.int .i64 1))))] [])))
def Ka(e:E):S2:=.seq (.rg [] [(0,(.a (.t 0))),(1,(.a (.t 1)))] [])
 (.seq (.seq (.rg [] [(0,(.a (.t 0))),(1,(.a (.t 1))),(10,(.b (.CR .neq (.t 0) (.t 1)) (.u (.CK (.t 0)) (.a (.t 0))) (.u (.CK (.t 0)) (.a (.t 1)))))] [])
 (.cond (.t 10) (.seq (.rg [] [(4,(.a (.bool false)))] []) (.ret)) (.skip)))
 (.seq (.seq (.rg [] [(0,(.a (.t 0))),(1,(.a (.t 1))),(12,(.u (.CK (.t 0)) (.a (.t 0)))),(13,(.a (.int .i64 0)))] [])
 (.block 0 (.loop [0,1,12,13] (YE e))))
 (.seq (.rg [] [(4,(.a (.bool true)))] []) (.ret))))
def HG(c:C)(d:Nat)(g:Bool):E:=.b c (.u (.ld d g (.t 0)) (.b (.Cs d (.t 0) (.t 1)) (.a (.t 0)) (.a (.t 5)))) (.u (.ld d g (.t 0)) (.b (.Cs d (.t 0) (.t 1)) (.a (.t 1)) (.a (.t 5))))
def NC{P:BA}{p:Type}[DecidableEq p]{f:p->D}{j:Nat}{e:E}{K:V->Prop}{a b:List p}
 (r:∀k (h:k<a.length) (x:k<b.length) (n:V),(E.val [] [(0,.d (.AH j (a.map f))),(1,.d (.AH j (b.map f))),(5,.d (.int .i64 k)),(12,n),(13,.d (.int .i64 k))] [] e=.d (.bool (decide (a[k]≠b[k]))))/\E.ok [] [(0,.d (.AH j (a.map f))),(1,.d (.AH j (b.map f))),(5,.d (.int .i64 k)),(12,n),(13,.d (.int .i64 k))] [] e)
 (y:b.length<=9223372036854775807) (h:K (.d (.bool (decide (a=b))))):Zb P [] (Ka e) (Ih [.t 4] K) (EK 0 [.d (.AH j (a.map f)),.d (.AH j (b.map f))]) []:=by
 by_cases m:a.length=b.length
 ·simp[Ka,m]
  refine Au.go (ι:=Nat) (λk=>[(0,.d (.AH j (a.map f))),(1,.d (.AH j (b.map f))),(12,.d (.int .i64 b.length)),(13,.d (.int .i64 k))]) (λ_=>[]) (λk=>k<=b.length/\a.take k=b.take k) (λk=>b.length-k) 0 ⟨E2 _,by simp⟩ (by simp) (by simp) ?_;rintro k ⟨z,l⟩ R u s v F;by_cases g:k<b.length
  ·have i:k<a.length:=by omega
   have w:=w_s k (by omega);have q:=r k i g (.d (.int .i64 b.length));by_cases c:a[k]=b[k]
   ·simp[YE,g,q,c]
    refine u [] (k+1) _ _ ⟨by omega,?_⟩ (by omega) (by simp[w]) (by simp[AD]) (by simp[AD]) (by simp[AD]);rw[D2 i,D2 g,l,c]
   ·simp[YE,g,q,c]
    refine v _ _ ?_;simp;have ne:a≠b:=λh=>by subst h;exact c rfl
    rw[Lw ne]at h;exact h
  ·have:k=b.length:=by omega
   subst this;simp[YE];refine s _ _ _ ?_;simp;have e:a=b:=by rw[<-m,FV,m,FV]at l;exact l
   rw[JZ e]at h;exact h
 ·have o:¬(a.length:Int)=b.length:=by omega
  have e:a≠b:=λe=>m (by rw[e]);rw[Lw e]at h;simp[Ka,m];exact⟨λ_=>h,λh=>(o h).elim⟩
def Yrd:Yx2.AZ []=some (Ka (HG (.Fc uU false (.t 0) (.t 1)) 5 true)):=by kernel_rfl
def Yrb:Yze.AZ []=some (Ka (HG (.Fc uS false (.t 0) (.t 1)) 8 true)):=by kernel_rfl
def Yra:Yzf.AZ []=some (Ka (HG (.Fc uQ false (.t 0) (.t 1)) 11 true)):=by kernel_rfl
def Y0m:Yzg.AZ []=some (Ka (HG (.Fc Yjb false (.t 0) (.t 1)) 7 true)):=by kernel_rfl
def Yrc:Yzh.AZ []=some (Ka (HG (.Fc uT false (.t 0) (.t 1)) 5 true)):=by kernel_rfl
def Y0l:Yzi.AZ []=some (Ka (HG (.Fc Yja false (.t 0) (.t 1)) 4 true)):=by kernel_rfl
def Y0n:Zhi.AZ []=some (Ka (HG (.CR .neq (.t 0) (.t 1)) 1 false)):=by kernel_rfl
def Y0o:nn.AZ []=some (Ka (HG (.CR .neq (.t 0) (.t 1)) 1 false)):=by kernel_rfl
include hP
theorem Yfq{a b:List A0}(g:b.length<=9223372036854775807){i:AF}{K:V->Prop}(h:K (.d (.bool (decide (a=b))))):AW P 155 [.d (.AH 5 (a.map A0.enc)),.d (.AH 5 (b.map A0.enc))] i K:=by
 refine AJ hP AQ (ds:=[.AH 5 (a.map A0.enc),.AH 5 (b.map A0.enc)]) Zcy Yrd A4.nil (NC (λk e f n=>?_) g h);have j:∀x:A0,x.enc.sz=5:=λ_=>rfl;have c:∀x:A0,KT.Bm uU x.enc=true:=λ_=>rfl;simp[HG,e,f,j,c,Yp9];exact⟨rfl,rfl⟩
theorem Yfo{a b:List Av}(g:b.length<=9223372036854775807){i:AF}{K:V->Prop}(h:K (.d (.bool (decide (a=b))))):AW P 224 [.d (.AH 8 (a.map Av.enc)),.d (.AH 8 (b.map Av.enc))] i K:=by
 refine AJ hP AQ (ds:=[.AH 8 (a.map Av.enc),.AH 8 (b.map Av.enc)]) Zeg Yrb A4.nil (NC (λk e f n=>?_) g h);have j:∀x:Av,x.enc.sz=8:=λ_=>rfl;have c:∀x:Av,KT.Bm uS x.enc=true:=λ_=>rfl;simp[HG,e,f,j,c,Yp7];exact⟨rfl,rfl⟩
theorem Yfn{a b:List BP}(g:b.length<=9223372036854775807){i:AF}{K:V->Prop}(h:K (.d (.bool (decide (a=b))))):AW P 225 [.d (.AH 11 (a.map BP.enc)),.d (.AH 11 (b.map BP.enc))] i K:=by
 refine AJ hP AQ (ds:=[.AH 11 (a.map BP.enc),.AH 11 (b.map BP.enc)]) Zeh Yra A4.nil (NC (λk e f n=>?_) g h);have j:∀x:BP,x.enc.sz=11:=λ_=>rfl;have c:∀x:BP,KT.Bm uQ x.enc=true:=λ_=>rfl;simp[HG,e,f,j,c,Yp6];exact⟨rfl,rfl⟩
theorem Ypa{a b:List Bo}(g:b.length<=9223372036854775807){i:AF}{K:V->Prop}(h:K (.d (.bool (decide (a=b))))):AW P 226 [.d (.AH 7 (a.map Bo.enc)),.d (.AH 7 (b.map Bo.enc))] i K:=by
 refine AJ hP AQ (ds:=[.AH 7 (a.map Bo.enc),.AH 7 (b.map Bo.enc)]) Zei Y0m A4.nil (NC (λk e f n=>?_) g h);have j:∀x:Bo,x.enc.sz=7:=λ_=>rfl;have c:∀x:Bo,KT.Bm Yjb x.enc=true:=λ_=>rfl;simp[HG,e,f,j,c,Ywl];exact⟨rfl,rfl⟩
theorem Yfp{a b:List BI}(g:b.length<=9223372036854775807){i:AF}{K:V->Prop}(h:K (.d (.bool (decide (a=b))))):AW P 227 [.d (.AH 5 (a.map BI.enc)),.d (.AH 5 (b.map BI.enc))] i K:=by
 refine AJ hP AQ (ds:=[.AH 5 (a.map BI.enc),.AH 5 (b.map BI.enc)]) Zej Yrc A4.nil (NC (λk e f n=>?_) g h);have j:∀x:BI,x.enc.sz=5:=λ_=>rfl;have c:∀x:BI,KT.Bm uT x.enc=true:=λ_=>rfl;simp[HG,e,f,j,c,Yp8];exact⟨rfl,rfl⟩
theorem Yo9{a b:List Ch}(g:b.length<=9223372036854775807){i:AF}{K:V->Prop}(h:K (.d (.bool (decide (a=b))))):AW P 228 [.d (.AH 4 (a.map Ch.enc)),.d (.AH 4 (b.map Ch.enc))] i K:=by
 refine AJ hP AQ (ds:=[.AH 4 (a.map Ch.enc),.AH 4 (b.map Ch.enc)]) Zek Y0l A4.nil (NC (λk e f n=>?_) g h);have j:∀x:Ch,x.enc.sz=4:=λ_=>rfl;have c:∀x:Ch,KT.Bm Yja x.enc=true:=λ_=>rfl;simp[HG,e,f,j,c,Ywk];exact⟨rfl,rfl⟩
theorem uC{a b:List Int}(f:b.length<=9223372036854775807){g:AF}{K:V->Prop}(h:K (.d (.bool (decide (a=b))))):AW P 66 [.d (X4 a),.d (X4 b)] g K:=by
 refine AJ hP AQ (ds:=[X4 a,X4 b]) Zs6 Y0n A4.nil (NC (λk c e n=>?_) f h);simp[HG,c,e];rw[Dv];simp
theorem ZL{a b:List B}(f:b.length<=9223372036854775807){g:AF}{K:V->Prop}(h:K (.d (.bool (decide (a=b))))):AW P 154 [.d (Xg a),.d (Xg b)] g K:=by
 refine AJ hP AQ (ds:=[Xg a,Xg b]) Y30 Y0o A4.nil (NC (λk c e n=>?_) f h);simp[HG,c,e];rw[Dv];simp
theorem X1e{x y:Ao}(e:y.BF){n:AF}{K:V->Prop}(h:K (.d (.bool (decide (x=y))))):AW P 159 [.d x.enc,.d y.enc] n K:=by
 refine AJ hP AQ (ds:=[x.enc,y.enc]) Zc2 Y9a A4.nil ?_;have f:∀x:Ao,(V.d x.enc).Bc=some [.d (.AU x.head),.d (iD x.Ag),.d (.AH 8 (x.Ah.map Av.enc)),.d (.AH 11 (x.Ap.map BP.enc)),.d (.AH 7 (x.BJ.map Bo.enc))]:=λ_=>rfl;have g:∀x:Ao,x.enc.sz=5:=λ_=>rfl;have i:∀x:Ao,x.enc.shape.size=5:=λx=>by rw[Cb];rfl
 have m:decide (x=y)=(decide (x.head=y.head)&&(decide (x.Ag=y.Ag)&&(decide (x.Ah=y.Ah)&&(decide (x.Ap=y.Ap)&&decide (x.BJ=y.BJ))))):=by
  rw[Dv];cases x;cases y;simp
 rw[m]at h;by_cases a:x.head=y.head
 ·by_cases b:x.Ag=y.Ag
  ·simp[nL,f,g,i,a,b]at h⊢;refine Yfo hP e.Ah ?_;by_cases j:x.Ah=y.Ah
   ·simp[j]at h⊢;refine Yfn hP e.Ap ?_;by_cases k:x.Ap=y.Ap
    ·simp[k]at h⊢;refine Ypa hP e.BJ ?_;by_cases l:x.BJ=y.BJ
     ·simpa[l]using h
     ·simpa[l]using h
    ·simpa[k]using h
   ·simpa[j]using h
  ·have c:(x.Ag==y.Ag)=false:=by simpa using b
   simp[nL,f,g,i,a,b,c]at h⊢;exact h
 ·simpa[nL,f,g,i,a]using h
theorem Xkr{x y:Ar}(p:y.At.length<=9223372036854775807){q:AF}{K:V->Prop}(h:K (.d (.bool (decide (x=y))))):AW P 161 [.d x.enc,.d y.enc] q K:=by
 refine AJ hP AQ (ds:=[x.enc,y.enc]) Zc4 Y9b A4.nil ?_;have e:∀x:Ar,(V.d x.enc).Bc=some [.d (.AU x.Aw),.d (.AU x.B8),.d (iD x.a),.d (iD x.b),.d (.AH 5 (x.At.map BI.enc))]:=λ_=>rfl;have f:∀x:Ar,x.enc.sz=5:=λ_=>rfl;have g:∀x:Ar,x.enc.shape.size=5:=λx=>by rw[Cb];rfl
 have o:decide (x=y)=(decide (x.Aw=y.Aw)&&(decide (x.B8=y.B8)&&(decide (x.a=y.a)&&(decide (x.b=y.b)&&decide (x.At=y.At))))):=by
  rw[Dv];cases x;cases y;simp[and_comm,and_left_comm]
 rw[o]at h;by_cases c:x.Aw=y.Aw
 ·by_cases i:x.B8=y.B8
  ·by_cases j:x.a=y.a
   ·by_cases l:x.b=y.b
    ·simp[R9,e,f,g,c,i,j,l]at h⊢;refine Yfp hP p ?_;by_cases n:x.At=y.At
     ·simpa[n]using h
     ·simpa[n]using h
    ·have m:(x.b==y.b)=false:=by simpa using l
     simpa[R9,e,f,g,c,i,j,l,m]using h
   ·have k:(x.a==y.a)=false:=by simpa using j
    simpa[R9,e,f,g,c,i,j,k]using h
  ·simpa[R9,e,f,g,c,i]using h
 ·simpa[R9,e,f,g,c]using h
theorem Xks{x y:Ae}(k:y.CN.length<=9223372036854775807){l:AF}{K:V->Prop}(h:K (.d (.bool (decide (x=y))))):AW P 163 [.d x.enc,.d y.enc] l K:=by
 refine AJ hP AQ (ds:=[x.enc,y.enc]) Zc6 Y9c A4.nil ?_;have e:∀x:Ae,(V.d x.enc).Bc=some [.d (.AU x.name),.d (.AH 4 (x.CN.map Ch.enc)),.d (iD x.C3)]:=λ_=>rfl;have f:∀x:Ae,x.enc.sz=3:=λ_=>rfl;have g:∀x:Ae,x.enc.shape.size=3:=λx=>by rw[Cb];rfl
 have j:decide (x=y)=(decide (x.name=y.name)&&(decide (x.C3=y.C3)&&decide (x.CN=y.CN))):=by
  rw[Dv];cases x;cases y;simp[and_comm,and_left_comm]
 rw[j]at h;by_cases a:x.name=y.name
 ·by_cases b:x.C3=y.C3
  ·simp[nM,e,f,g,a,b]at h⊢;refine Yo9 hP k ?_;by_cases i:x.CN=y.CN
   ·simpa[i]using h
   ·simpa[i]using h
  ·have c:(x.C3==y.C3)=false:=by simpa using b
   simpa[nM,e,f,g,a,b,c]using h
 ·simpa[nM,e,f,g,a]using h
theorem Xol{x y:A2}(k:y.BF){p:AF}{K:V->Prop}(h:K (.d (.bool (decide (x=y))))):AW P 223 [.d x.enc,.d y.enc] p K:=by
 refine AJ hP AQ (ds:=[x.enc,y.enc]) Zef Zaa A4.nil ?_;have m:∀x:A2,(V.d x.enc).Bc=some [.d (Xg x.names),.d (.AU x.name),.d (X4 x.Aw),.d (iD x.B8)]:=λ_=>rfl;have n:∀x:A2,x.enc.sz=4:=λ_=>rfl;have o:∀x:A2,x.enc.shape.size=4:=λx=>by rw[Cb];rfl
 have l:decide (x=y)=(decide (x.names=y.names)&&(decide (x.name=y.name)&&(decide (x.Aw=y.Aw)&&decide (x.B8=y.B8)))):=by
  rw[Dv];cases x;cases y;simp[and_comm,and_left_comm]
 rw[l]at h;simp[Y6j,m,n,o,Xg,X4]at h⊢;refine ZL hP (a:=x.names) (b:=y.names) k.names ?_;by_cases c:x.names=y.names
 ·by_cases e:x.name=y.name
  ·simp[c,e]at h⊢;refine uC hP (a:=x.Aw) (b:=y.Aw) k.Aw ?_;by_cases g:x.Aw=y.Aw
   ·by_cases i:x.B8=y.B8
    ·simpa[g,i]using h
    ·have j:(x.B8==y.B8)=false:=by simpa using i
     simpa[g,i,j]using h
   ·simpa[g]using h
  ·have f:(x.name==y.name)=false:=by simpa using e
   simpa[c,e,f]using h
 ·simpa[c]using h
omit hP
def lL(t c:Nat)(z:D):S2:=.seq (.rg [] [(1,(.a (.t 1))),(2,(.a (.t 2))),(15,(.a (.t 15))),(16,(.a (.t 16))),(17,(.a (.t 17))),(18,(.b (.CR .lss (.t 0) (.t 1)) (.a (.t 17)) (.a (.t 16))))] [])
 (.seq (.cond (.t 18) (.skip) (.exit 0))
 (.seq (.block 1 (.seq (.rg [.Ak [] (.u (.ld c true (.t 0)) (.b (.Cs c (.t 0) (.t 1)) (.a (.t 15)) (.a (.t 17)))),.lt 21 [] (.u (.ld c true (.t 0)) (.b (.Cs c (.t 0) (.t 1)) (.a (.t 15)) (.a (.t 17)))),.op (some 8) (.alloc t z),.op none (.st c (.t 8) (.t 21))] [(1,(.a (.t 1))),(2,(.a (.t 2))),(7,(.a (.t 17))),(8,(.a (.t 8))),(15,(.a (.t 15))),(16,(.a (.t 16))),(17,(.a (.t 17)))] [])
 (.seq (.rg [.Ak [] (.u (.ld c true (.t 0)) (.b (.Cs c (.t 0) (.t 1)) (.a (.t 1)) (.a (.t 7)))),.lt 25 [] (.u (.ld c true (.t 0)) (.b (.Cs c (.t 0) (.t 1)) (.a (.t 1)) (.a (.t 7)))),.op (some 9) (.alloc t z),.op none (.st c (.t 9) (.t 25))] [(1,(.a (.t 1))),(2,(.a (.t 2))),(8,(.a (.t 8))),(9,(.a (.t 9))),(15,(.a (.t 15))),(16,(.a (.t 16))),(17,(.a (.t 17)))] [])
 (.seq (.rg [.Ak [] (.u (.ld c true (.t 0)) (.a (.t 9))),.Ak [] (.u (.ld c true (.t 0)) (.a (.t 8))),.lt 28 [] (.u (.ld c true (.t 0)) (.a (.t 9))),.lt 27 [] (.u (.ld c true (.t 0)) (.a (.t 8))),.lt 26 [] (.a (.t 2)),.op (some 29) (.Cp (.t 26) [(.t 27),(.t 28)])] [(1,(.a (.t 1))),(2,(.a (.t 2))),(15,(.a (.t 15))),(16,(.a (.t 16))),(17,(.a (.t 17))),(30,(.u (.not (.t 0)) (.a (.t 29))))] [])
 (.cond (.t 30) (.seq (.rg [] [(6,(.a (.bool false)))] []) (.ret)) (.skip))))))
 (.rg [] [(1,(.a (.t 1))),(2,(.a (.t 2))),(15,(.a (.t 15))),(16,(.a (.t 16))),(17,(.b (.CR .add (.t 0) (.t 1)) (.a (.t 17)) (.a (.int .i64 1))))] [])))
def MR(t c:Nat)(z:D):S2:=.seq (.rg [] [(0,(.a (.t 0))),(1,(.a (.t 1))),(2,(.a (.t 2)))] [])
 (.seq (.seq (.rg [] [(0,(.a (.t 0))),(1,(.a (.t 1))),(2,(.a (.t 2))),(14,(.b (.CR .neq (.t 0) (.t 1)) (.u (.CK (.t 0)) (.a (.t 0))) (.u (.CK (.t 0)) (.a (.t 1)))))] [])
 (.cond (.t 14) (.seq (.rg [] [(6,(.a (.bool false)))] []) (.ret)) (.skip)))
 (.seq (.seq (.rg [] [(1,(.a (.t 1))),(2,(.a (.t 2))),(15,(.a (.t 0))),(16,(.u (.CK (.t 0)) (.a (.t 0)))),(17,(.a (.int .i64 0)))] [])
 (.block 0 (.loop [1,2,15,16,17] (lL t c z))))
 (.seq (.rg [] [(6,(.a (.bool true)))] []) (.ret))))
def QG{P:BA}{s:Type}[DecidableEq s]{f:s->D}{t j g:Nat}{z:D}{K:V->Prop}{a b:List s}(w:z.sz=j)
 (r:∀x,(f x).sz=j/\(f x).shape=z.shape/\(V.d (f x)).isAgg=true) (v:Xd P.p g=true)
 (u:∀k (h:k<a.length) (Q:k<b.length) (y:AF) (K:V->Prop),K (.d (.bool (decide (a[k]=b[k]))))->AW P g [.d (f a[k]),.d (f b[k])] y K)
 (T:b.length<=9223372036854775807) (h:K (.d (.bool (decide (a=b))))):Zb P [] (MR t j z) (Ih [.t 6] K) (EK 0 [.d (.AH j (a.map f)),.d (.AH j (b.map f)),.d (.fn g [] [])]) []:=by
 have O:∀x,(f x).sz=j:=λx=>(r x).1;have L:∀x,(f x).shape=z.shape:=λx=>(r x).2.1;have o:∀x,(V.d (f x)).isAgg=true:=λx=>(r x).2.2;have N:z.shape.size=j:=by rw[Cb];exact w
 by_cases n:a.length=b.length
 ·simp[MR,n]
  refine Au.go (ι:=Nat) (λk=>[(1,.d (.AH j (b.map f))),(2,.d (.fn g [] [])),(15,.d (.AH j (a.map f))),(16,.d (.int .i64 b.length)),(17,.d (.int .i64 k))]) (λ_=>[]) (λk=>k<=b.length/\a.take k=b.take k) (λk=>b.length-k) 0 ⟨E2 _,by simp⟩ (by simp) (by simp) ?_;rintro k ⟨U,l⟩ R G F H W;by_cases m:k<b.length
  ·have i:k<a.length:=by omega
   have J:=w_s k (by omega);simp[lL,m,i,O,L,N,v];refine⟨o _,o _,o _,o _,o _,(u k i m _ _ ?_).CS⟩;by_cases c:a[k]=b[k]
   ·simp[c]
    refine G [] (k+1) _ _ ⟨by omega,?_⟩ (by omega) (by simp[J]) (by simp[AD]) (by simp[AD]) (by simp[AD]);rw[D2 i,D2 m,l,c]
   ·simp[c]
    refine H _ _ ?_;simp;have ne:a≠b:=λh=>by subst h;exact c rfl
    rw[Lw ne]at h;exact h
  ·have:k=b.length:=by omega
   subst this;simp[lL];refine F _ _ _ ?_;simp;have e:a=b:=by rw[<-n,FV,n,FV]at l;exact l
   rw[JZ e]at h;exact h
 ·have q:¬(a.length:Int)=b.length:=by omega
  have e:a≠b:=λe=>n (by rw[e]);rw[Lw e]at h;simp[MR,n];exact⟨λ_=>h,λh=>(q h).elim⟩
def Yf2:Xd prog 159=true:=by kernel_rfl
def Yhi:Yx5.AZ []=some (MR 77 5 (.agg [.AU [],.int .i64 0,.Ad,.Ad,.Ad])):=by kernel_rfl
def X5o{P:BA}(c:P.p=prog){a b:List Ao}(g:b.length<=9223372036854775807)(i:∀x∈b,x.BF){e:AF}{K:V->Prop}(h:K (.d (.bool (decide (a=b))))):AW P 158 [.d (.AH 5 (a.map Ao.enc)),.d (.AH 5 (b.map Ao.enc)),.d (.fn 159 [] [])] e K:=
 AJ c AQ (ds:=[.AH 5 (a.map Ao.enc),.AH 5 (b.map Ao.enc),.fn 159 [] []]) Zc1 Yhi A4.nil (QG rfl (λ_=>⟨rfl,rfl,rfl⟩) (by rw[c];exact Yf2) (λk j f e K=>X1e c (i _ (Ci f))) g h)
def Xrv:Xd prog 161=true:=by kernel_rfl
def Xsl:Yx7.AZ []=some (MR 80 5 (.agg [.AU [],.AU [],.int .i64 0,.int .i64 0,.Ad])):=by kernel_rfl
def Xoj{P:BA}(c:P.p=prog){a b:List Ar}(g:b.length<=9223372036854775807)(i:∀x∈b,x.At.length<=9223372036854775807){e:AF}{K:V->Prop}(h:K (.d (.bool (decide (a=b))))):AW P 160 [.d (.AH 5 (a.map Ar.enc)),.d (.AH 5 (b.map Ar.enc)),.d (.fn 161 [] [])] e K:=
 AJ c AQ (ds:=[.AH 5 (a.map Ar.enc),.AH 5 (b.map Ar.enc),.fn 161 [] []]) Zc3 Xsl A4.nil (QG rfl (λ_=>⟨rfl,rfl,rfl⟩) (by rw[c];exact Xrv) (λk j f e K=>Xkr c (i _ (Ci f))) g h)
def Xrw:Xd prog 163=true:=by kernel_rfl
def Xsm:Yx9.AZ []=some (MR 83 3 (.agg [.AU [],.Ad,.int .i64 0])):=by kernel_rfl
def Xok{P:BA}(c:P.p=prog){a b:List Ae}(g:b.length<=9223372036854775807)(i:∀x∈b,x.CN.length<=9223372036854775807){e:AF}{K:V->Prop}(h:K (.d (.bool (decide (a=b))))):AW P 162 [.d (.AH 3 (a.map Ae.enc)),.d (.AH 3 (b.map Ae.enc)),.d (.fn 163 [] [])] e K:=
 AJ c AQ (ds:=[.AH 3 (a.map Ae.enc),.AH 3 (b.map Ae.enc),.fn 163 [] []]) Zc5 Xsm A4.nil (QG rfl (λ_=>⟨rfl,rfl,rfl⟩) (by rw[c];exact Xrw) (λk j f e K=>Xks c (i _ (Ci f))) g h)
def X1h:Xd prog 223=true:=by kernel_rfl
def X2e:Yzc.AZ []=some (MR 162 4 (.agg [.Ad,.AU [],.Ad,.int .i64 0])):=by kernel_rfl
def Xrm{P:BA}(c:P.p=prog){a b:List A2}(g:b.length<=9223372036854775807)(i:∀x∈b,x.BF){e:AF}{K:V->Prop}(h:K (.d (.bool (decide (a=b))))):AW P 222 [.d (.AH 4 (a.map A2.enc)),.d (.AH 4 (b.map A2.enc)),.d (.fn 223 [] [])] e K:=
 AJ c AQ (ds:=[.AH 4 (a.map A2.enc),.AH 4 (b.map A2.enc),.fn 223 [] []]) Zee X2e A4.nil (QG rfl (λ_=>⟨rfl,rfl,rfl⟩) (by rw[c];exact X1h) (λk j f e K=>Xol c (i _ (Ci f))) g h)
include hP
set_option maxHeartbeats 2000000 in
theorem Xrr{x y:Aj}(F:y.type.names.length<=9223372036854775807){G:AF}{K:V->Prop}(h:K (.d (.bool (decide (x=y))))):AW P 221 [.d x.enc,.d y.enc] G K:=by
 refine AJ hP AQ (ds:=[x.enc,y.enc]) Zed Y99 A4.nil ?_;have e:∀x:Aj,(V.d x.enc).Bc=some [.d (.AU x.name),.d x.type.enc,.d (.agg [iD x.w0,iD x.w1,iD x.w2,iD x.w3])]:=λ_=>rfl;have f:∀x:Aj,x.enc.sz=11:=λ_=>rfl;have g:∀x:Aj,x.enc.shape.size=11:=λx=>by rw[Cb];rfl
 have i:∀x:A5,(V.d x.enc).Bc=some [.d (iD x.kind),.d (iD x.lo),.d (iD x.hi),.d (.AU x.CB),.d (iD x.unit),.d (.AH 1 (x.names.map .AU))]:=λ_=>rfl;have j:∀x:A5,x.enc.sz=6:=λ_=>rfl;have k:∀x:A5,x.enc.shape.size=6:=λx=>by rw[Cb];rfl
 have l:∀x:A5,x.enc.shape=.node [.AR,.AR,.AR,.AR,.AR,.AR]:=λ_=>rfl;have m:∀x:Aj,KT.Bm (.ar 4 (.int .i64)) (.agg [iD x.w0,iD x.w1,iD x.w2,iD x.w3])=true:=λ_=>rfl;have z:decide (x=y)=(decide (x.name=y.name)&&(decide (x.w0=y.w0)&&(decide (x.w1=y.w1)&&(decide (x.w2=y.w2)&&(decide (x.w3=y.w3)&&(decide (x.type.kind=y.type.kind)&&(decide (x.type.lo=y.type.lo)&&(decide (x.type.hi=y.type.hi)&&(decide (x.type.CB=y.type.CB)&&(decide (x.type.unit=y.type.unit)&&decide (x.type.names=y.type.names))))))))))):=by
  rw[Dv];obtain⟨a,⟨J,L,N,O,Q,T⟩,U,W,X,Y⟩:=x;obtain⟨H,⟨Z,d2,d3,d4,d5,d6⟩,g0,g1,g2,g3⟩:=y;simp;intro _;constructor<;>intro h<;>simp[h]
 rw[z]at h;by_cases c:x.name=y.name
 ·by_cases n:x.w0=y.w0
  ·by_cases o:x.w1=y.w1
   ·by_cases p:x.w2=y.w2
    ·by_cases q:x.w3=y.w3
     ·by_cases r:x.type.kind=y.type.kind
      ·by_cases s:x.type.lo=y.type.lo
       ·by_cases t:x.type.hi=y.type.hi
        ·by_cases u:x.type.CB=y.type.CB
         ·by_cases v:x.type.unit=y.type.unit
          ·simp[KH,e,f,g,i,j,k,l,m,c,n,o,p,q,r,s,t,u,v]at h⊢
           repeat' apply And.intro
           all_goals first|rfl|(refine ZL hP (a:=x.type.names) (b:=y.type.names) F ?_;simpa using h)
          ·have w:(x.type.unit==y.type.unit)=false:=by simpa using v
           simp[KH,e,f,g,i,j,k,l,m,c,n,o,p,q,r,s,t,u,v,w]at h⊢;exact⟨rfl,rfl,h⟩
         ·simp[KH,e,f,g,i,j,k,l,m,c,n,o,p,q,r,s,t,u]at h⊢;exact⟨rfl,rfl,h⟩
        ·simp[KH,e,f,g,i,j,k,l,m,c,n,o,p,q,r,s,t]at h⊢;exact⟨rfl,rfl,h⟩
       ·simp[KH,e,f,g,i,j,k,l,m,c,n,o,p,q,r,s]at h⊢;exact⟨rfl,rfl,h⟩
      ·simp[KH,e,f,g,i,j,k,l,m,c,n,o,p,q,r]at h⊢;exact⟨rfl,rfl,h⟩
     ·simp[KH,e,f,g,i,j,k,l,m,c,n,o,p,q]at h⊢;exact⟨rfl,rfl,h⟩
    ·simp[KH,e,f,g,i,j,k,l,m,c,n,o,p]at h⊢;exact⟨rfl,rfl,h⟩
   ·simp[KH,e,f,g,i,j,k,l,m,c,n,o]at h⊢;exact⟨rfl,rfl,h⟩
  ·simp[KH,e,f,g,i,j,k,l,m,c,n]at h⊢;exact⟨rfl,rfl,h⟩
 ·simp[KH,e,f,g,i,j,k,l,m,c]at h⊢;exact⟨rfl,rfl,h⟩
omit hP
def AX.Rf{P:BA}{f g:Nat}{a b:V}{m:AF}{K:BN->AF->Prop}(h:AX P f [a,b,.d (.fn g [] [])] m K):AX P f [a,b,.fn g [] []] m K:=⟨λw z i t s l=>h.run w z i t s (by
 simp only[V.A8]at l⊢;obtain⟨u,y,e,p,v,j,n,q,x,k,o,c,r⟩:=l;refine⟨u,y,e,p,v,j,n,q,x,k,o,?_,r⟩;rcases c with c|c|⟨_,c⟩
 ·cases c
 ·exact absurd c.1 (by simp[V.isAgg])
 ·exact .inr (.inr ⟨rfl,by simpa[V.Al,D.Ax,V.A8,FR]using c⟩))⟩
def X52:Xd prog 221=true:=by kernel_rfl
def X7w:Yza.AZ []=some (MR 158 11 (.agg [.AU [],.agg [.int .i64 0,.int .i64 0,.int .i64 0,.AU [],.int .i64 0,.Ad],.agg [.int .i64 0,.int .i64 0,.int .i64 0,.int .i64 0]])):=by kernel_rfl
def X1c{P:BA}(c:P.p=prog){a b:List Aj}(g:b.length<=9223372036854775807)(i:∀x∈b,x.type.names.length<=9223372036854775807){e:AF}{K:V->Prop}(h:K (.d (.bool (decide (a=b))))):AW P 220 [.d (.AH 11 (a.map Aj.enc)),.d (.AH 11 (b.map Aj.enc)),.d (.fn 221 [] [])] e K:=
 AJ c AQ (ds:=[.AH 11 (a.map Aj.enc),.AH 11 (b.map Aj.enc),.fn 221 [] []]) Zec X7w A4.nil (QG rfl (λ_=>⟨rfl,rfl,rfl⟩) (by rw[c];exact X52) (λk j f e K=>Xrr c (i _ (Ci f))) g h)
include hP
theorem Xom{x y:AO}(g:y.BF){o:AF}{K:V->Prop}(h:K (.d (.bool (decide (x=y))))):AW P 157 [.d x.enc,.d y.enc] o K:=by
 refine AJ hP AQ (ds:=[x.enc,y.enc]) Zc0 Y89 A4.nil ?_;have a:∀x:AO,(V.d x.enc).Bc=some [.d (.AU x.name),.d (.AU x.Eg),.d (iD x.CF),.d (iD x.BU),.d (.AH 11 (x.AL.map Aj.enc)),.d (.AH 4 (x.Ac.map A2.enc))]:=λ_=>rfl;have c:∀x:AO,x.enc.sz=6:=λ_=>rfl;have e:∀x:AO,x.enc.shape.size=6:=λx=>by rw[Cb];rfl
 have n:decide (x=y)=(decide (x.name=y.name)&&(decide (x.Eg=y.Eg)&&(decide (x.CF=y.CF)&&(decide (x.BU=y.BU)&&(decide (x.AL=y.AL)&&decide (x.Ac=y.Ac)))))):=by
  rw[Dv];cases x;cases y;simp
 rw[n]at h;by_cases b:x.name=y.name
 ·by_cases f:x.Eg=y.Eg
  ·by_cases i:x.CF=y.CF
   ·by_cases j:x.BU=y.BU
    ·simp[R8,a,c,e,b,f,i,j]at h⊢;refine AX.Rf (X1c hP g.AL g.names ?_).CS;by_cases l:x.AL=y.AL
     ·simp[l,a]at h⊢;refine AX.Rf (Xrm hP g.Ac g.Mi ?_).CS;by_cases m:x.Ac=y.Ac
      ·simpa[m,a]using h
      ·simpa[m,a]using h
     ·simpa[l,a]using h
    ·have k:(x.BU==y.BU)=false:=by simpa using j
     simpa[R8,a,c,e,b,f,i,j,k]using h
   ·simpa[R8,a,c,e,b,f,i]using h
  ·simpa[R8,a,c,e,b,f]using h
 ·simpa[R8,a,c,e,b]using h
omit hP
def X1i:Xd prog 157=true:=by kernel_rfl
def X2f:Yx3.AZ []=some (MR 72 6 (.agg [.AU [],.AU [],.int .i64 0,.int .i64 0,.Ad,.Ad])):=by kernel_rfl
def Xrn{P:BA}(c:P.p=prog){a b:List AO}(g:b.length<=9223372036854775807)(i:∀x∈b,x.BF){e:AF}{K:V->Prop}(h:K (.d (.bool (decide (a=b))))):AW P 156 [.d (.AH 6 (a.map AO.enc)),.d (.AH 6 (b.map AO.enc)),.d (.fn 157 [] [])] e K:=
 AJ c AQ (ds:=[.AH 6 (a.map AO.enc),.AH 6 (b.map AO.enc),.fn 157 [] []]) Zcz X2f A4.nil (QG rfl (λ_=>⟨rfl,rfl,rfl⟩) (by rw[c];exact X1i) (λk j f e K=>Xom c (i _ (Ci f))) g h)
include hP
theorem Yi4{x y:Ai}(e:y.BF){p:AF}{K:V->Prop}(h:K (.d (.bool (decide (x=y))))):AW P 65 [.d x.enc,.d y.enc] p K:=by
 refine AJ hP AQ (ds:=[x.enc,y.enc]) Zs5 Zp0 A4.nil ?_;have c:∀x:Ai,(V.d x.enc).Bc=some [.d (.AH 1 (x.Aa.map .AU)),.d (.AH 5 (x.Am.map A0.enc)),.d (.AH 6 (x.AE.map AO.enc)),.d (.AH 5 (x.AT.map Ao.enc)),.d (.AH 5 (x.AM.map Ar.enc)),.d (.AH 3 (x.AK.map Ae.enc))]:=λ_=>rfl;have n:∀x:Ai,x.enc.sz=6:=λ_=>rfl;have o:∀x:Ai,x.enc.shape.size=6:=λx=>by rw[Cb];rfl
 have m:decide (x=y)=(decide (x.Aa=y.Aa)&&(decide (x.Am=y.Am)&&(decide (x.AE=y.AE)&&(decide (x.AT=y.AT)&&(decide (x.AM=y.AM)&&decide (x.AK=y.AK)))))):=by
  rw[Dv];cases x;cases y;simp
 rw[m]at h;simp[Znp,c,n,o]at h⊢;refine ZL hP (a:=x.Aa) (b:=y.Aa) e.Aa ?_;by_cases f:x.Aa=y.Aa
 ·simp[f,c]at h⊢;refine Yfq hP e.Am ?_;by_cases g:x.Am=y.Am
  ·simp[g,c]at h⊢;refine AX.Rf (Xrn hP e.AE e.Ag ?_).CS;by_cases i:x.AE=y.AE
   ·simp[i,c]at h⊢;refine AX.Rf (X5o hP e.AT e.Hj ?_).CS;by_cases j:x.AT=y.AT
    ·simp[j,c]at h⊢;refine AX.Rf (Xoj hP e.AM e.At ?_).CS;by_cases k:x.AM=y.AM
     ·simp[k,c]at h⊢;refine AX.Rf (Xok hP e.AK e.CN ?_).CS;by_cases l:x.AK=y.AK
      ·simpa[l,c]using h
      ·simpa[l,c]using h
     ·simpa[k,c]using h
    ·simpa[j,c]using h
   ·simpa[i,c]using h
  ·simpa[g,c]using h
 ·simpa[f,c]using h
omit hP
def Y7m:Fz prog 72 227 6 183 237 182 119:=⟨⟨_,Zdp,by kernel_rfl⟩,⟨_,Zes,by kernel_rfl⟩,⟨_,Zdo,by kernel_rfl⟩,⟨_,Zb7,by kernel_rfl⟩,by kernel_rfl⟩
def Xrt:Xd prog 120=true:=by kernel_rfl
def Yvj{P:BA}(a:P.p=prog){y:Ai}{l:List AO}(e:l.length<=9223372036854775807)(f:∀x∈l,x.BF){c b:Ob}{K:BN->AF->Prop}(h:K (.ret (.d (.bool (l.all (Yw y))))) [(1,c),(0,b)]):AX P 119 [.d (.AH 6 (l.map AO.enc)),.d (.fn 120 [.agg [y.enc]] [])] [(1,c),(0,b)] K:=
 ZE a AQ Y7m e (by rw[a];exact Xrt) (λ_=>⟨rfl,rfl⟩) (λx g i K h=>X1f a (f x g) h) h
def Y7n:Fz prog 83 230 3 187 232 173 122:=⟨⟨_,Zdt,by kernel_rfl⟩,⟨_,Y33,by kernel_rfl⟩,⟨_,Y31,by kernel_rfl⟩,⟨_,Zca,by kernel_rfl⟩,by kernel_rfl⟩
def Xon:Xd prog 123=true:=by kernel_rfl
def Yvk{P:BA}(a:P.p=prog){y:Ai}{l:List Ae}(e:l.length<=9223372036854775807)(f:∀x∈l,x.CN.length<=9223372036854775807){c b:Ob}{K:BN->AF->Prop}(h:K (.ret (.d (.bool (l.all (Ur y))))) [(1,c),(0,b)]):AX P 122 [.d (.AH 3 (l.map Ae.enc)),.d (.fn 123 [.agg [y.enc]] [])] [(1,c),(0,b)] K:=
 ZE a AQ Y7n e (by rw[a];exact Xon) (λ_=>⟨rfl,rfl⟩) (λx g i K h=>Xro a (f x g) h) h
def IB(a:Int)(x:A5):Bool:=!(decide (a=2)||decide (a=3))||decide (x.kind=1)||decide (x.kind=2)
def JS(y:Ai)(r:Ao)(t:BE):Bool:=(G6 y r r.Ah.length t).isSome||Ow t
def FY(y:Ai)(r:Ao)(l:List BE):List A5:=l.filterMap (G6 y r r.Ah.length)
def Q1(y:Ai)(r:Ao)(a:BP):Bool:=
 decide (1<=a.op)&&decide (a.op<=4)&&JS y r a.a&&JS y r a.b&&
 (match FY y r [a.a,a.b]with|[]=>false |[x,z]=>SC y x z|_=>true)&&(FY y r [a.a,a.b]).all (IB a.op)
def Ydf{y:Ai}{r:Ao}{n:Int}{t:BE}{x:A5}(h:G6 y r n t=some x):∃s∈y.AE,∃f∈s.AL,f.type=x:=by
 unfold G6 at h;split at h
 ·cases h
 ·simp only[KA,HP]at h;obtain⟨f,_,g,a,rfl⟩:=h;unfold U6 at a;split at a
  ·cases a
  ·simp only[KA]at a;obtain⟨s,c,b⟩:=a;exact⟨s,List.mem_of_getElem? c,g,List.mem_of_getElem? b,rfl⟩
def wG{y:Ai}(d:y.AE.all (Yw y)=true){s:AO}(h:s∈y.AE){f:Aj}(c:f∈s.AL):JB y.Am.length f.type=true:=by
 have a:=Es.1 d s h;unfold Yw at a;simp only[BB]at a;have b:=Es.1 a.2 f c;unfold Q4 at b;simp only[BB]at b;exact b.1.1.1.1
def sI{y:Ai}{r:Ao}{l:List BE}{x:A5}(h:x∈FY y r l):∃s∈y.AE,∃f∈s.AL,f.type=x:=by
 unfold FY at h;rw[List.mem_filterMap]at h;obtain⟨t,_,h⟩:=h;exact Ydf h
include hP
theorem Yfl{y:Ai}(hy:y.BF)(hs:y.AE.all (Yw y)=true){r:Ao}(hr:r.Ah.length<=9223372036854775807){a:BP}{ob:AF}{K:V->Prop}(h:K (.d (.bool (Q1 y r a)))):AW P 176 [.d (DU y r),.d a.enc] ob K:=by
 refine AJ hP AQ (ds:=[DU y r,a.enc]) Zdi Y9p A4.nil ?_;have o:y.enc.sz=6:=rfl;have Z:y.enc.shape.size=6:=by rw[Cb];rfl
 have f:Q1 y r a=false->K (.d (.bool false)):=λe=>by rw[e]at h;exact h
 have Y:∀t:BE,t.enc=.agg [.AU t.name,.AU t.path,iD t.var,iD t.field,iD t.n]:=λ_=>rfl;have ae:a.enc=.agg [iD a.op,a.a.enc,a.b.enc]:=rfl;by_cases a1:a.op<1
 ·simp[nO,DU,Ao.enc,ae,Y,o,Z,a1];exact f (by simp[Q1];omega)
 by_cases a2:4<a.op
 ·simp[nO,DU,Ao.enc,ae,Y,o,Z,a1,a2];exact f (by simp[Q1];omega)
 simp[nO,DU,Ao.enc,ae,Y,o,Z,a1,a2];let c:=[a.a,a.b]
 let O:Nat->AF:=λk=>[(2,.BG 155 6 ((FY y r (c.take k)).map A5.enc)),(1,.box 173 (.d (.agg [iD a.op,.agg [.AU a.a.name,.AU a.a.path,iD a.a.var,iD a.a.field,iD a.a.n],.agg [.AU a.b.name,.AU a.b.path,iD a.b.var,iD a.b.field,iD a.b.n]]))),(0,.box 222 (.d (.agg [.agg [y.enc],.agg [.AU r.head,iD r.Ag,.AH 8 (r.Ah.map Av.enc),.AH 11 (r.Ap.map BP.enc),.AH 7 (r.BJ.map Bo.enc)]])))];refine EC 2 (λk=>[(2,.ptr 0 []),(3,.ptr 1 []),(5,.sl 2 (FY y r (c.take k)).length),(25,.d (.AH 5 (c.map BE.enc))),(26,.d (.int .i64 2)),(27,.d (.int .i64 k))]) O
  (λk=>(c.take k).all (JS y r)=true) (by simp) ?_ ?_ ?_ ?_
 ·simp[FY,c,Y]
 ·simp[O,FY]
 ·intro k hk hI R G s m X;have u:=w_s k (by omega);have w:k<c.length:=hk;have ac:(k:Int)<2:=by omega
  have F:=W7 (p:=JS y r) w;rw[hI,EN]at F;have tk:=Y c[k];have W:FY y r (c.take (k+1))=FY y r (c.take k)++(G6 y r r.Ah.length c[k]).toList:=by
   unfold FY;rw[D2 w,List.filterMap_append];cases e:G6 y r r.Ah.length c[k]<;>simp[e]
  have aa:JS y r c[k]=false->K (.d (.bool false)):=by
   intro e;refine f ?_;have:JS y r a.a=false\/JS y r a.b=false:=by
    rcases (by omega:k=0\/k=1) with rfl|rfl
    ·exact .inl e
    ·exact .inr e
   rcases this with e|e<;>simp[Q1,e]
  simp[yx,w,hk,O,o,Z,tk,ac];refine cX (y:=y) (r:=r) hP (n:=r.Ah.length) (by omega) (t:=c[k]) (λe=>?_) (λx e hx=>?_)
  ·simp[ML];refine uD hP (t:=c[k]) ?_;cases hn:Ow c[k]with
   |false=>
    simp;refine m _ _ ?_;simp;exact aa (by simp[JS,e,hn])
   |true=>
    simp[yy];have i:FY y r (c.take (k+1))=FY y r (c.take k):=by rw[W,e];simp
    refine G [] _ _ (by rw[F];simp[JS,hn]) (by simp[u,i]) (by simp[AD,O,i]) (by simp[AD,O,AA]) (by simp[AD,O,AA])
  ·have af:x.enc.shape=.node [.AR,.AR,.AR,.AR,.AR,.AR]:=rfl;have ag:(match V.d x.enc with|V.d (D.agg xs)=>true|V.agg xs=>true|x=>false)=true:=rfl;have i:FY y r (c.take (k+1))=FY y r (c.take k)++[x]:=by rw[W,e];simp
   simp[af,yy];have q:(FY y r (c.take k)).length<=2:=by
    have g:=List.length_filterMap_le (G6 y r r.Ah.length) (c.take k);have J:(c.take k).length<=2:=by simp[c];omega
    unfold FY;omega
   refine⟨ag,by omega,G [] _ _ (by rw[F];simp[JS,e]) (by simp[u,i]) (by simp[AD,O,i]) (by simp[AD,O,AA]) (by simp[AD,O,AA])⟩
 ·intro hI R s m X;have t2:c.take 2=c:=rfl;rw[t2]at hI;have hA:Q1 y r a=((match FY y r c with|[]=>false |[x,z]=>SC y x z|_=>true)&&(FY y r c).all (IB a.op)):=by
   have c1:1<=a.op:=by omega
   have c2:a.op<=4:=by omega
   have c3:JS y r a.a=true/\JS y r a.b=true:=by simpa[c]using hI
   simp[Q1,c1,c2,c3,c]
  rw[hA]at h f;have q:(FY y r c).length<=2:=List.length_filterMap_le (G6 y r r.Ah.length) c;simp[yx,O,t2];refine s _ _ _ ?_
  match N:FY y r c,q with
  |[],_=>
   simp
   first|exact⟨⟨_,_,_,⟨rfl,rfl,rfl⟩,rfl⟩,f (by simp[N])⟩|exact f (by simp[N])
  |[x],_=>
   simp
   try refine⟨⟨_,_,_,⟨rfl,rfl,rfl⟩,rfl⟩,?_⟩
   rw[N]at h f;simp only[EN]at h f;have H:x.enc=.agg [iD x.kind,iD x.lo,iD x.hi,.AU x.CB,iD x.unit,Xg x.names]:=rfl;refine EC 1 (λj=>[(3,.ptr 1 []),(74,.sl 2 1),(75,.d (.int .i64 1)),(76,.d (.int .i64 j))]) (λ_=>[(2,.BG 155 6 [x.enc]),(1,.box 173 (.d (.agg [iD a.op,.agg [.AU a.a.name,.AU a.a.path,iD a.a.var,iD a.a.field,iD a.a.n],.agg [.AU a.b.name,.AU a.b.path,iD a.b.var,iD a.b.field,iD a.b.n]]))),(0,.box 222 (.d (.agg [.agg [y.enc],.agg [.AU r.head,iD r.Ag,.AH 8 (r.Ah.map Av.enc),.AH 11 (r.Ap.map BP.enc),.AH 7 (r.BJ.map Bo.enc)]])))])
    (λj=>j=0\/IB a.op x=true) (by simp) (by simp) (by simp) ?_ ?_
   ·intro j hj _ R G s m X;obtain rfl:j=0:=by omega
    have u:IntKind.i64.wrap 1=1:=w_i _ (by omega);simp[SP,H,Xg];refine⟨λg J Q=>?_,λg=>?_⟩
    ·refine m _ _ ?_;simp;exact f (by rcases g with g|g<;>simp[IB,g,J,Q])
    ·refine G [] _ _ (.inr (by simp[IB];grind)) (by simp[u]) (by simp[AD,H,Xg]) (by simp[AD]) (by simp[AD])
   ·intro L R s m X;have ho:IB a.op x=true:=L.resolve_left (by omega);simp[SP];refine s _ _ _ ?_;simp[ho]at h⊢;exact h
  |[x,z],_=>
   have hx:=sI (y:=y) (r:=r) (l:=c) (x:=x) (by rw[N];simp);have hz:=sI (y:=y) (r:=r) (l:=c) (x:=z) (by rw[N];simp);obtain⟨sx,U,fx,T,ex⟩:=hx;obtain⟨sz,ad,fz,ab,ez⟩:=hz;have tx:=wG hs U T;have tz:=wG hs ad ab;have nx:=(hy.Ag sx U).names fx T;rw[ex]at tx nx;rw[ez]at tz;have zz:∀x:A5,x.enc.shape.size=6:=λx=>by rw[Cb];rfl
   have zg:∀x:A5,x.enc.isAgg=true:=λ_=>rfl;rw[N]at h f;simp[zz,Z];have v:∃E ah xs,(155=E/\6=ah/\[x.enc,z.enc]=xs)/\2=xs.length:=⟨_,_,_,⟨rfl,rfl,rfl⟩,rfl⟩
   repeat' first|with_reducible apply And.intro|exact rfl|exact v
   refine Xoh hP x z nx tx tz ?_;have H:∀x:A5,x.enc=.agg [iD x.kind,iD x.lo,iD x.hi,.AU x.CB,iD x.unit,Xg x.names]:=λ_=>rfl;cases hc:SC y x z with
   |false=>
    simp
    first|exact⟨v,f (by simp[hc])⟩|exact f (by simp[hc])
   |true=>
    simp
    try refine⟨v,?_⟩
    simp only[hc,EN]at h f;refine EC 2 (λj=>[(3,.ptr 1 []),(74,.sl 2 2),(75,.d (.int .i64 2)),(76,.d (.int .i64 j))]) (λ_=>[(2,.BG 155 6 [x.enc,z.enc]),(1,.box 173 (.d (.agg [iD a.op,.agg [.AU a.a.name,.AU a.a.path,iD a.a.var,iD a.a.field,iD a.a.n],.agg [.AU a.b.name,.AU a.b.path,iD a.b.var,iD a.b.field,iD a.b.n]]))),(0,.box 222 (.d (.agg [.agg [y.enc],.agg [.AU r.head,iD r.Ag,.AH 8 (r.Ah.map Av.enc),.AH 11 (r.Ap.map BP.enc),.AH 7 (r.BJ.map Bo.enc)]])))])
     (λj=>(j=0\/IB a.op x=true)/\(j<=1\/IB a.op z=true)) (by simp) (by simp) (by simp) ?_ ?_
    ·intro j hj L R G s m X;rcases (by omega:j=0\/j=1) with rfl|rfl
     ·have u:IntKind.i64.wrap 1=1:=w_i _ (by omega);simp[SP,H,Xg];refine⟨λg J Q=>?_,λg=>?_⟩
      ·refine m _ _ ?_;simp;exact f (by rcases g with g|g<;>simp[IB,g,J,Q])
      ·refine G [] _ _ ⟨.inr (by simp[IB];grind),.inl (by omega)⟩ (by simp[u]) (by simp[AD,H,Xg]) (by simp[AD]) (by simp[AD])
     ·have u:IntKind.i64.wrap 2=2:=w_i _ (by omega);simp[SP,H,Xg];refine⟨λg J Q=>?_,λg=>?_⟩
      ·refine m _ _ ?_;simp;exact f (by rcases g with g|g<;>simp[IB,g,J,Q])
      ·refine G [] _ _ ⟨.inr (L.1.resolve_left (by omega)),.inr (by simp[IB];grind)⟩ (by simp[u]) (by simp[AD,H,Xg]) (by simp[AD]) (by simp[AD])
    ·intro L R s m X;have o1:IB a.op x=true:=L.1.resolve_left (by omega);have o2:IB a.op z=true:=L.2.resolve_left (by omega);simp[SP];refine s _ _ _ ?_;simp[o1,o2]at h⊢;exact h
omit hP
def LH(y:Ai)(r:Ao)(s:Bo):Bool:=match U6 y r.Ag s.field with
|none=>false
|some f=>decide (s.field≠0)&&K2 y r f.type s.Cd
def SG(y:Ai)(s:Int):Option Int:=if s<0 then none else (y.AE[s.toNat]?).map λc=>(c.AL.length:Int)-1
def Ul(y:Ai)(r:Ao):Bool:=
 NG y r&&decide (r.Ap.length<=8)&&r.Ap.all (Q1 y r)&&decide (SG y r.Ag=some r.BJ.length)&&r.BJ.all (LH y r)&&decide (r.BJ.map Bo.field).Nodup
include hP
theorem Yfu{y:Ai}(hy:y.BF)(hs:y.AE.all (Yw y)=true){r:Ao}(hr:r.BF){ob:AF}{K:V->Prop}(h:K (.d (.bool (Ul y r)))):AW P 116 [.d (DU y r)] ob K:=by
 refine AJ hP AQ (ds:=[DU y r]) Zb4 Y8n A4.nil ?_;have v:y.enc.sz=6:=rfl;have yz:y.enc.shape.size=6:=by rw[Cb];rfl
 have g:Ul y r=false->K (.d (.bool false)):=λe=>by rw[e]at h;exact h
 have te:∀t:BE,t.enc=.agg [.AU t.name,.AU t.path,iD t.var,iD t.field,iD t.n]:=λ_=>rfl;have ae:∀a:BP,a.enc=.agg [iD a.op,a.a.enc,a.b.enc]:=λ_=>rfl;have H:(DU y r).shape.size=11:=by rw[Cb];rfl
 simp[Y5g,H];refine⟨rfl,X5p hP ?_⟩;cases hf:NG y r with
 |false=>
  simp;exact g (by simp[Ul,hf])
 |true=>
  by_cases a1:(8:Int)<r.Ap.length
  ·simp[DU,Ao.enc,a1,v,yz];exact g (by simp[Ul,show ¬r.Ap.length<=8 by omega])
  simp[DU,Ao.enc,a1,v,yz];have Z:r.Ap.length<=8:=by omega
  refine EC r.Ap.length (λk=>[(1,.ptr 0 []),(23,.d (.AH 11 (r.Ap.map BP.enc))),(24,.d (.int .i64 r.Ap.length)),(25,.d (.int .i64 k))])
   (λ_=>[(0,.box 222 (.d (DU y r)))]) (λk=>(r.Ap.take k).all (Q1 y r)=true) (by simp) (by simp) (by simp[DU,Ao.enc]) ?_ ?_
  ·intro k q N R rn J u rp;have wr:=w_s k (by omega);have l:=W7 (p:=Q1 y r) q;rw[N,EN]at l;have ak:=ae r.Ap[k];simp[zG,q,H];have w:∀a:BP,a.enc.shape.size=11:=λa=>by rw[Cb];rfl
   refine⟨⟨rfl,rfl⟩,rfl,⟨w _,rfl⟩,rfl,⟨w _,rfl⟩,rfl,Yfl hP hy hs hr.Ah ?_⟩;cases ha:Q1 y r r.Ap[k]with
   |false=>
    simp;refine u _ _ ?_;simp;refine g ?_;have:r.Ap.all (Q1 y r)=false:=List.all_eq_false.2 ⟨_,Ci q,by simp[ha]⟩;simp[Ul,this]
   |true=>
    simp;refine rn [] _ _ (by rw[l,ha]) (by simp[wr]) (by simp[AD,DU,Ao.enc]) (by simp[AD]) (by simp[AD])
  ·intro N R J u rp;rw[FV]at N;simp[zG];refine J _ _ _ ?_;have se:∀c:AO,c.enc=.agg [.AU c.name,.AU c.Eg,iD c.CF,iD c.BU,.AH 11 (c.AL.map Aj.enc),.AH 4 (c.Ac.map A2.enc)]:=λ_=>rfl;have yI:y.enc=.agg [Xg y.Aa,.AH 5 (y.Am.map A0.enc),.AH 6 (y.AE.map AO.enc),.AH 5 (y.AT.map Ao.enc),.AH 5 (y.AM.map Ar.enc),.AH 3 (y.AK.map Ae.enc)]:=rfl;by_cases L:r.Ag<0
   ·simp[DU,Ao.enc,yI,Xg,L];exact g (by simp[Ul,SG,L])
   by_cases b2:(y.AE.length:Int)<=r.Ag
   ·simp[DU,Ao.enc,yI,Xg,L,b2];exact g (by simp[Ul,SG,L,show y.AE[r.Ag.toNat]? = none from Pa (by omega)])
   obtain⟨i,m⟩:∃i:Nat,r.Ag=i:=⟨r.Ag.toNat,by omega⟩
   have Q:i<y.AE.length:=by omega
   have sk:=se y.AE[i];have b3:¬(i:Int)<0:=by omega
   have b4:¬(y.AE.length:Int)<=i:=by omega
   have X:SG y r.Ag=some ((y.AE[i].AL.length:Int)-1):=by simp[SG,m,b3,DN Q]
   simp[DU,Ao.enc,yI,Xg,m,Q,sk,b3,b4];have ac:y.AE[i].AL.length<=12:=by
    have W:=Es.1 hs _ (Ci Q);unfold Yw at W;simp only[BB,DK]at W;exact W.1.1.2
   have wf:IntKind.i64.wrap ((y.AE[i].AL.length:Int)-1)=(y.AE[i].AL.length:Int)-1:=w_i _ (by omega);rw[wf];refine⟨λhn=>g (by simp[Ul,X];omega),λhn=>?_⟩;have hB:Ul y r=(r.BJ.all (LH y r)&&decide (r.BJ.map Bo.field).Nodup):=by
    rw[<-hn]at X;simp[Ul,hf,Z,N,X]
   rw[hB]at h g;have aa:D.agg [.agg [.agg [.AH 1 (y.Aa.map .AU),.AH 5 (y.Am.map A0.enc),.AH 6 (y.AE.map AO.enc),.AH 5 (y.AT.map Ao.enc),.AH 5 (y.AM.map Ar.enc),.AH 3 (y.AK.map Ae.enc)]],.agg [.AU r.head,iD i,.AH 8 (r.Ah.map Av.enc),.AH 11 (r.Ap.map BP.enc),.AH 7 (r.BJ.map Bo.enc)]]=DU y r:=by rw[<-m];rfl
   rw[aa];have ze:∀z:Bo,z.enc=.agg [.AU z.path,iD z.field,.agg [.AU z.Cd.name,.AU z.Cd.path,iD z.Cd.var,iD z.Cd.field,iD z.Cd.n]]:=λ_=>rfl;have af:r.BJ.length<=11:=by omega
   refine EC r.BJ.length (λk=>[(1,.ptr 0 []),(5,.d (iD i)),(6,.sl 1 k),(67,.d (.AH 7 (r.BJ.map Bo.enc))),(68,.d (.int .i64 r.BJ.length)),(69,.d (.int .i64 k))])
    (λk=>[(1,.BG 3 1 ((r.BJ.take k).map λs=>iD s.field)),(0,.box 222 (.d (DU y r)))]) (λk=>(r.BJ.take k).all (LH y r)=true) (by simp) (by simp) (by simp) ?_ ?_
   ·intro k q O R rn J u rp;have wr:=w_s k (by omega);have l:=W7 (p:=LH y r) q;rw[O,EN]at l;have zk:=ze r.BJ[k];have o:LH y r r.BJ[k]=false->K (.d (.bool false)):=λe=>g (by
     have:r.BJ.all (LH y r)=false:=List.all_eq_false.2 ⟨_,Ci q,by simp[e]⟩;simp[this])
    simp[zF,q,zk,DU,Ao.enc,v,yz];generalize hz:r.BJ[k]=z at l o;refine VN hP (λY=>?_) (λG ad j hj es ef=>?_)
    ·have U:=Qi (y:=y) (s:=i) (f:=z.field) Y;simp[ML];refine u _ _ ?_;simp;exact o (by simp[LH,m,U])
    ·obtain rfl:G=i:=by omega
     have U:=UZ Q hj;have xs:∀x:A5,x.enc.shape.size=6:=λx=>by rw[Cb];rfl
     have xh:∀x:A5,x.enc.shape=.node [.AR,.AR,.AR,.AR,.AR,.AR]:=λ_=>rfl;have xm:(match V.d y.AE[G].AL[j].type.enc with|V.d (D.agg xs)=>true|V.agg xs=>true|x=>false)=true:=rfl;by_cases T:z.field=0
     ·simp[xh,T];refine u _ _ ?_;simp;exact o (by unfold LH;split<;>simp[T])
     ·have ab:(z.field==0)=false:=by simpa using T
      have kl:min k r.BJ.length=k:=by omega
      simp[xh,ab,kl];refine⟨rfl,?_⟩;refine Ypj hP hr.Ah hy (r:=r) (x:=y.AE[G].AL[j].type) (t:=z.Cd) ?_;have eB:LH y r z=K2 y r y.AE[G].AL[j].type z.Cd:=by
       have:j≠0:=λh=>T (by omega);simp[LH,m,ef,U,this]
      cases F:K2 y r y.AE[G].AL[j].type z.Cd with
      |false=>
       simp;refine u _ _ ?_;simp;exact o (by rw[eB,F])
      |true=>
       simp;refine⟨by omega,rn [] _ _ (by rw[l,eB,F]) (by simp[wr]) ?_ (by simp[AD]) (by simp[AD])⟩;rw[D2 q,hz];simp[AD,DU,Ao.enc]
   ·intro O R J u rp;rw[FV]at O;simp[zF];refine J _ _ _ ?_;simp;refine PX (n:=5) (ds:=[X4 (r.BJ.map Bo.field)]) (by simp[X4]) (Yo8 hP (by simp;omega) ?_);simp[O]at h⊢;exact h
theorem Yv4:Xd P.p 115=true:=by rw[hP];kernel_rfl
theorem Ypq:Xd P.p 186=true:=by rw[hP];kernel_rfl
abbrev YD(y:Ai):Ob:=.box 220 (.d (.agg [y.enc]))
abbrev Mn(y:Ai)(o0:Ob):AF:=[(2,.box 223 (.fn 115 [] [.ptr 1 []])),(1,YD y),(0,o0)]
theorem Y64{y:Ai}(k:y.BF)(j:y.AE.all (Yw y)=true){r:Ao}(i:r.BF){b:AF}(f:AB b 1=some (YD y)){K:BN->AF->Prop}(h:K (.ret (.d (.bool (Ul y r)))) b):AX P 115 [.d r.enc,.ptr 1 []] b K:=by
 refine AY hP AQ Zb3 Y8m A4.nil λ_ g=>?_;have c:r.enc.shape.size=5:=by rw[Cb];rfl
 have e:y.enc.shape.size=6:=by rw[Cb];rfl
 have a:=g [];simp[Y5f,f];refine⟨⟨c,rfl⟩,e,⟨c,rfl⟩,e,rfl,rfl,Yfu hP k j i ?_⟩;simp;refine⟨[],by simp,?_,?_⟩
 ·simpa[AD]using a
 ·simpa[AD]using h
theorem Yvt{y:Ai}(g:y.BF)(a:y.AE.all (Yw y)=true){x:Ao}(f:x.BF){c:Ob}{K:BN->AF->Prop}(h:K (.ret (.d (.bool (!Ul y x)))) (Mn y c)):AX P 186 [.d x.enc,.ptr 2 []] (Mn y c) K:=by
 refine AY hP AQ Zds Y9v A4.nil λ_ e=>?_;simp[Y6a,Yv4 hP];have b:=e [];simp[AA]at b;refine⟨⟨by rw[Cb];rfl,rfl⟩,Y64 hP g a f (by simp) ?_⟩;simp;refine⟨[],by simp,?_,?_⟩
 ·simp[AD];simpa[AD]using b
 ·simpa[AD]using h
theorem Yvs{y:Ai}(s:y.BF)(g:y.AE.all (Yw y)=true){l:List Ao}(p:l.length<=9223372036854775807)(r:∀x∈l,x.BF){f:Ob}{K:BN->AF->Prop}(h:K (.ret (.d (.int .i64 (FK (λx=>!Ul y x) l 0)))) (Mn y f)):AX P 239 [.d (.AH 5 (l.map Ao.enc)),.fn 186 [] [.ptr 2 []]] (Mn y f) K:=by
 have z:=@w_t;refine AY hP AQ Zeu Zaj A4.nil λ_ q=>?_;have b:=q [];simp[AA]at b;have o:∀{v:V},BY (AD 3 []) [v]=false->K (.ret v) (Mn y f)->Yk 3 (K (.ret v)) [v] (Mn y f):=λj m=>⟨[],j,by simpa[AD]using b,by simpa[AD]using m⟩;simp[Y6q];refine Au.go (ι:=Nat) (λk=>[(0,.d (.AH 5 (l.map Ao.enc))),(1,.fn 186 [] [.ptr 2 []]),(7,.d (.int .i64 l.length)),(8,.d (.int .i64 k))]) (λ_=>Mn y f) (λk=>k<=l.length/\FK (λx=>!Ul y x) l 0=FK (λx=>!Ul y x) (l.drop k) k) (λk=>l.length-k) 0 ⟨E2 _,rfl⟩ (by simp) (by simp) ?_;rintro k ⟨F,c⟩ R u t w G;by_cases a:k<l.length
 ·rw[D5 a]at c;simp[Xym,a,Ypq hP];refine⟨⟨rfl,rfl⟩,Yvt hP s g (r _ (Ci a)) ?_⟩;cases e:Ul y l[k]with
  |false=>
   simp;refine w _ _ ?_;simp;have i:=h;rw[c,FK,BS (by simp[e])]at i;exact o (by simp) i
  |true=>
   rw[FK,Aq (by simp[e])]at c;simp;refine u [] (k+1) _ _ ⟨by omega,c⟩ (by omega) (by simp[z a p]) (by simp[AD]) (by simp[AD]) (by simpa[AD]using b)
 ·have:k=l.length:=by omega
  subst this;simp[Xym];refine t _ _ _ ?_;simp;rw[c,List.drop_length,FK]at h;exact o (by simp) h
theorem Yvq{y:Ai}(i:y.BF)(b:y.AE.all (Yw y)=true){l:List Ao}(e:l.length<=9223372036854775807)(g:∀x∈l,x.BF){c:Ob}{K:BN->AF->Prop}(h:K (.ret (.d (.bool (l.any λx=>!Ul y x)))) (Mn y c)):AX P 185 [.d (.AH 5 (l.map Ao.enc)),.fn 186 [] [.ptr 2 []]] (Mn y c) K:=by
 refine AY hP AQ Zdr Y9u A4.nil λ_ f=>?_;have a:=f [];simp[AA]at a;simp[Y59];refine Yvs hP i b e g ?_;simp;rw[VV];exact⟨[],by simp,by simpa[AD]using a,by simpa[AD]using h⟩
theorem Yvl{y:Ai}(j:y.BF)(b:y.AE.all (Yw y)=true){l:List Ao}(f:l.length<=9223372036854775807)(i:∀x∈l,x.BF){c:Ob}{K:BN->AF->Prop}(h:K (.ret (.d (.bool (l.all (Ul y))))) [(1,YD y),(0,c)]):AX P 121 [.d (.AH 5 (l.map Ao.enc)),.fn 115 [] [.ptr 1 []]] [(1,YD y),(0,c)] K:=by
 refine AY hP AQ Zb9 Y8q A4.nil λ_ g=>?_;have a:=g [];simp[AA]at a;simp[Y5h];refine Yvq hP j b f i ?_;have e:(!(l.any λx=>!Ul y x))=l.all (Ul y):=by simp[List.all_eq_not_any_not]
 simp;refine⟨[],by simp,by simpa[AD]using a,?_⟩;simpa[AD,e]using h
omit hP
def Q3(p:Ae):Bool:=decide (p.CN.length<=64)
def On(y:Ai):Bool:=
 decide (y.Aa.length<=8)&&decide (y.Am.length<=64)&&decide (y.AE.length<=16)&&decide (y.AT.length<=16)&&decide (y.AM.length<=16)&&decide (y.AK.length<=8)&&y.AK.all Q3
def QR(y:Ai):Bool:=y.Am.all (TP y)&&y.AE.all (Yw y)&&y.AT.all (Ul y)&&y.AK.all (Ur y)
def J6(y:Ai):Int:=if On y then (if QR y then 0 else 120) else 2
include hP
theorem Ypr:Xd P.p 174=true:=by rw[hP];kernel_rfl
theorem Yvz{p:Ae}{c:AF}{K:V->Prop}(h:K (.d (.bool (!Q3 p)))):AW P 174 [.d p.enc] c K:=by
 refine AJ hP AQ (ds:=[p.enc]) Zdg Y9n A4.nil ?_;have a:∀b,b=!Q3 p->K (.d (.bool b)):=λb e=>e▸h;simp[Y56,Ae.enc];apply a;rw[Dv];simp[Q3];omega
theorem Yvr{l:List Ae}(o:l.length<=9223372036854775807){f:Ob}{K:BN->AF->Prop}(h:K (.ret (.d (.int .i64 (FK (λx=>!Q3 x) l 0)))) ([(0,f)])):AX P 232 [.d (.AH 3 (l.map Ae.enc)),.fn 174 [] []] ([(0,f)]) K:=by
 have t:=@w_t;refine AY hP AQ Y33 Zae A4.nil λ_ p=>?_;have b:=p [];simp[AA]at b;have m:∀{v:V},BY (AD 1 []) [v]=false->K (.ret v) ([(0,f)])->Yk 1 (K (.ret v)) [v] ([(0,f)]):=λi j=>⟨[],i,by simpa[AD]using b,by simpa[AD]using j⟩;simp[Y6n];refine Au.go (ι:=Nat) (λk=>[(0,.d (.AH 3 (l.map Ae.enc))),(1,.fn 174 [] []),(7,.d (.int .i64 l.length)),(8,.d (.int .i64 k))]) (λ_=>[(0,f)]) (λk=>k<=l.length/\FK (λx=>!Q3 x) l 0=FK (λx=>!Q3 x) (l.drop k) k) (λk=>l.length-k) 0 ⟨E2 _,rfl⟩ (by simp) (by simp) ?_;rintro k ⟨u,c⟩ R r q s w;by_cases a:k<l.length
 ·rw[D5 a]at c;simp[Xyk,a,Ypr hP];refine⟨⟨rfl,rfl⟩,AW.CS (Yvz hP ?_)⟩;cases e:Q3 l[k]with
  |false=>
   simp[Xyl];refine s _ _ ?_;simp;have g:=h;rw[c,FK,BS (by simp[e])]at g;exact m (by simp) g
  |true=>
   rw[FK,Aq (by simp[e])]at c;simp[Xyl,Ye6];refine r [] (k+1) _ _ ⟨by omega,c⟩ (by omega) (by simp[t a o]) (by simp[AD]) (by simp[AD]) (by simpa[AD]using b)
 ·have:k=l.length:=by omega
  subst this;simp[Xyk];refine q _ _ _ ?_;simp;rw[c,List.drop_length,FK]at h;exact m (by simp) h
theorem Yvp{l:List Ae}(c:l.length<=9223372036854775807){b:Ob}{K:BN->AF->Prop}(h:K (.ret (.d (.bool (l.any λx=>!Q3 x)))) ([(0,b)])):AX P 173 [.d (.AH 3 (l.map Ae.enc)),.fn 174 [] []] ([(0,b)]) K:=by
 refine AY hP AQ Y31 Y9m A4.nil λ_ e=>?_;have a:=e [];simp[AA]at a;simp[Y55];refine Yvr hP c ?_;simp;rw[VV];exact⟨[],by simp,by simpa[AD]using a,by simpa[AD]using h⟩
theorem X5r{y:Ai}(s:y.BF){k:AF}{K:V->Prop}(h:K (.d (.bool (On y)))):AW P 114 [.d (.agg [y.enc])] k K:=by
 refine AJ hP AQ (ds:=[.agg [y.enc]]) Zb2 Y8l A4.nil ?_;simp[Y5e,Ai.enc,Xg];refine⟨λr=>?_,λl m n o p q=>?_⟩
 ·have e:On y=false:=by
   rw[OG];simp only[On,ne_eq,BB,DK];omega
  rw[e]at h;exact h
 ·refine Yvp hP (by omega) ?_;simp;have e:On y=y.AK.all Q3:=by
   have a:y.Aa.length<=8:=by omega
   have b:y.Am.length<=64:=by omega
   have c:y.AE.length<=16:=by omega
   have f:y.AT.length<=16:=by omega
   have g:y.AM.length<=16:=by omega
   have i:y.AK.length<=8:=by omega
   simp[On,a,b,c,f,g,i]
  have j:(!(y.AK.any λx=>!Q3 x))=y.AK.all Q3:=by simp[List.all_eq_not_any_not]
  rw[e,<-j]at h;exact h
theorem zU{y:Ai}(a:y.BF){o:AF}{K:V->Prop}(h:K (.d (iD (J6 y)))):AW P 42 [.d y.enc] o K:=by
 refine AJ hP AQ (ds:=[y.enc]) Zsp Zpk A4.nil ?_;have i:y.enc.shape.size=6:=by rw[Cb];rfl
 have m:y.enc.sz=6:=rfl;have j:(V.d y.enc).Bc=some [.d (Xg y.Aa),.d (.AH 5 (y.Am.map A0.enc)),.d (.AH 6 (y.AE.map AO.enc)),.d (.AH 5 (y.AT.map Ao.enc)),.d (.AH 5 (y.AM.map Ar.enc)),.d (.AH 3 (y.AK.map Ae.enc))]:=rfl;have p:∀l,Go.Ab.V.isAgg (.d y.enc)=l->l=true:=λl e=>e▸rfl;simp[Znb,i,m];refine⟨rfl,rfl,X5r hP a ?_⟩;cases b:On y with
 |false=>
  simp;simpa[J6,b]using h
 |true=>
  simp[j,i]
  try refine⟨rfl,?_⟩
  refine Yvm hP (y:=y) a.Am ?_;cases f:y.Am.all (TP y) with
  |false=>
   simp;simpa[J6,b,QR,f]using h
  |true=>
   simp[j,i]
   try refine⟨rfl,?_⟩
   refine Yvj hP (y:=y) a.AE (λx g=>a.Ag x g) ?_;cases c:y.AE.all (Yw y) with
   |false=>
    simp;simpa[J6,b,QR,f,c]using h
   |true=>
    simp[j,i]
    try refine⟨rfl,?_⟩
    refine Yvl hP (y:=y) a c a.AT (λx g=>a.Hj x g) ?_;cases k:y.AT.all (Ul y) with
    |false=>
     simp;simpa[J6,b,QR,f,c,k]using h
    |true=>
     simp[j,i]
     try refine⟨rfl,?_⟩
     refine Yvk hP (y:=y) a.AK (λx g=>a.CN x g) ?_;cases n:y.AK.all (Ur y) with
     |false=>
      simp;simpa[J6,b,QR,f,c,k,n]using h
     |true=>
      simp;simpa[J6,b,QR,f,c,k,n]using h
omit hP
def lI{n:Nat}(h:n<2 ^ 64):IntKind.u64.wrap (n:Int)=n:=IntWalk.u64_in _ (by omega)
def nU(b:BitVec 64):BitVec.ofInt IntKind.u64.bits (b.toNat:Int)=b:=by
 show BitVec.ofInt 64 _=_;rw[BitVec.ofInt_natCast,BitVec.ofNat_toNat,BitVec.setWidth_eq]
def Yw0(b:BitVec 64)(f:Nat)(e:f<64):(Zf .and .u64 ((b.toNat:Int).fdiv (2 ^ min f IntKind.u64.bits)) 1==1)=b.getLsbD f:=by
 have a:min f IntKind.u64.bits=f:=by simp[IntKind.bits];omega
 have c:((b.toNat:Int).fdiv (2 ^ f))=((b >>> f).toNat:Int):=by
  rw[BitVec.toNat_ushiftRight,Nat.shiftRight_eq_div_pow,Int.fdiv_eq_ediv_of_nonneg _ (by exact Int.pow_nonneg (by omega))];simp
 rw[a,c];unfold Zf;simp only;have d:BitVec.ofInt IntKind.u64.bits 1=1#64:=rfl;rw[nU,d,lI (by exact BitVec.isLt _)];show((((b >>> f) &&&1#64:BitVec 64).toNat:Int)==(1:Int))=_;rw[BitVec.toNat_and];show(((b >>> f).toNat &&&1:Nat)==(1:Int))=_;rw[Nat.and_one_is_mod];have:b.getLsbD f=decide ((b >>> f).toNat % 2=1):=by
  rw[BitVec.getLsbD,BitVec.toNat_ushiftRight,Nat.testBit,Nat.one_and_eq_mod_two];rcases Nat.mod_two_eq_zero_or_one (b.toNat >>> f) with h|h<;>simp[h]
 rw[this,Dv,C9,decide_eq_true_iff];omega
def By(b:BitVec 64)(f:Nat)(d:f<64):Zf .or .u64 (b.toNat:Int) (IntKind.u64.wrap (1*2 ^ min f IntKind.u64.bits))=((b |||BitVec.twoPow 64 f).toNat:Int):=by
 have a:min f IntKind.u64.bits=f:=by simp[IntKind.bits];omega
 have c:((1:Int)*2 ^ f)=((BitVec.twoPow 64 f).toNat:Int):=by
  rw[BitVec.toNat_twoPow,Nat.mod_eq_of_lt (Nat.pow_lt_pow_right (by omega) d)];simp
 rw[a,c,lI (by exact BitVec.isLt _)];unfold Zf;simp only;rw[nU,nU,lI (by exact BitVec.isLt _)];rfl
def IT(l:List Int):BitVec 64:=l.foldl (λb f=>b |||BitVec.twoPow 64 f.toNat) 0#64
def xu(l:List Int)(f:Int):IT (l++[f])=IT l |||BitVec.twoPow 64 f.toNat:=by simp[IT]
def VL(f:Nat)(c:f<64):∀(n:Nat)(l:List Int),l.length=n->(∀g∈l,0<=g)->(IT l).getLsbD f=decide ((f:Int)∈l)
|0,l,a,_=>by
 obtain rfl:=UD a;simp[IT]
|n+1,l,a,b=>by
 obtain⟨r,g,rfl⟩:∃r g,l=r++[g]:=⟨l.dropLast,l.getLast (by intro e;simp[e]at a),(List.dropLast_concat_getLast _).symm⟩
 have i:=VL f c n r (by simpa using a) (λx d=>b x (by simp[d]));have j:=b g (by simp);rw[xu,BitVec.getLsbD_or,i,BitVec.getLsbD_twoPow];rw[Dv];simp[c];constructor
 ·rintro (h|h)
  ·exact .inl h
  ·exact .inr (by omega)
 ·rintro (h|h)
  ·exact .inl h
  ·exact .inr (by omega)
def Yo3{l:List Int}(h:∀g∈l,0<=g/\g<64):((IT l).toNat:Int)≠0↔l≠[]:=by
 constructor
 ·rintro a rfl;exact a rfl
 ·intro a c;obtain⟨g,b⟩:=List.exists_mem_of_ne_nil l a;have f:=h g b;have e:=VL g.toNat (by omega) _ l rfl (λx d=>(h x d).1);rw[show((g.toNat:Nat):Int)=g from by omega,JZ b]at e;have:IT l=0#64:=BitVec.eq_of_toNat_eq (by simpa using c);rw[this]at e;simp at e
def KE(n:Int)(d:A2):Bool:=
 d.Aw.all (λf=>decide (0<=f)&&decide (f<n))&&decide d.Aw.Nodup&&decide (d.Aw≠[])&&decide (0<=d.B8)&&decide (d.B8<n)&&!d.Aw.contains d.B8
def K7(s:AO):Bool:=decide (1<=s.AL.length)&&decide (s.AL.length<=12)&&decide (s.Ac.length<=12)&&s.Ac.all (KE s.AL.length)
include hP
theorem Yi3{b:BitVec 64}{f:Nat}(a:f<64){c:AF}{K:V->Prop}(h:K (.d (.bool (b.getLsbD f)))):AW P 240 [.d (.int .u64 b.toNat),.d (.int .i64 f)] c K:=by
 refine AJ hP AQ (ds:=[.int .u64 b.toNat,.int .i64 f]) Zev Zak A4.nil ?_;simp[Y6r];rw[Yw0 b f a];exact h
theorem Yo7{n:Nat}(F:n<=12){d:A2}(hd:d.BF){ob:AF}{K:V->Prop}(h:K (.d (.bool (KE n d)))):AW P 188 [.d d.enc,.d (.int .i64 n)] ob K:=by
 refine AJ hP AQ (ds:=[d.enc,.int .i64 n]) Zdu Y9w A4.nil ?_;have c:KE n d=false->K (.d (.bool false)):=λe=>by rw[e]at h;exact h
 simp[Y6b,A2.enc,X4,Xg];refine EC d.Aw.length (λk=>[(1,.d (.int .i64 n)),(2,.ptr 0 []),(5,.d (.int .u64 (IT (d.Aw.take k)).toNat)),(9,.d (.AH 1 (d.Aw.map iD))),(10,.d (.int .i64 d.Aw.length)),(11,.d (.int .i64 k))])
  (λ_=>[(0,.box 162 (.d d.enc))]) (λk=>(∀g∈d.Aw.take k,0<=g/\g<n)/\(d.Aw.take k).Nodup) (by simp) (by simp[IT]) (by simp[A2.enc,X4,Xg]) ?_ ?_
 ·intro k t i R rn U y rp;have wr:IntKind.i64.wrap ((k:Int)+1)=(k:Int)+1:=w_i _ (by have:=hd.Aw;omega);have u:d.Aw.take (k+1)=d.Aw.take k++[d.Aw[k]]:=D2 t;have s:(¬(0<=d.Aw[k]/\d.Aw[k]<n)\/d.Aw[k]∈d.Aw.take k)->KE n d=false:=by
   intro m;rw[OG];intro H;simp only[KE,BB,Es,DK]at H;rcases m with m|m
   ·exact m (H.1.1.1.1.1 _ (Ci t))
   ·have F:=H.1.1.1.1.2;rw[<-Lu (k+1) d.Aw,FC,u,FC]at F;exact F.1.2.2 _ m _ (by simp) rfl
  generalize o:d.Aw[k]=g at u s;by_cases L:g<0
  ·simp[VD,t,o,L];refine y _ _ ?_;simp;exact c (s (.inl (by omega)))
  by_cases N:(n:Int)<=g
  ·simp[VD,t,o,L,N];refine y _ _ ?_;simp;exact c (s (.inl (by omega)))
  obtain⟨f,rfl⟩:∃f:Nat,g=f:=⟨g.toNat,by omega⟩
  have W:¬(f:Int)<0:=by omega
  simp[VD,t,o,N,W];refine Yi3 hP (by omega) ?_;have m:=VL f (by omega) _ _ rfl (λx p=>(i.1 x p).1);rw[m];by_cases w:(f:Int)∈d.Aw.take k
  ·simp[w];refine y _ _ ?_;simp;exact c (s (.inr w))
  ·have J:=By (IT (d.Aw.take k)) f (by omega);rw[Int.one_mul]at J;simp[w,J];refine rn [] _ _ ⟨?_,?_⟩ ?_ (by simp[AD]) (by simp[AD]) (by simp[AD])
   ·rw[u];intro x p;rw[DT,E3]at p;rcases p with p|rfl
    ·exact i.1 x p
    ·omega
   ·rw[u,FC];refine⟨i.2,by simp,λa ha b s=>?_⟩;simp only[E3]at s;subst s;exact λe=>w (e▸ha)
   ·rw[u,xu];simp[wr]
 ·intro i R U y rp;rw[FV]at i;simp[VD,A2.enc,X4,Xg];refine U _ _ _ ?_;have G:=Yo3 (l:=d.Aw) (λg o=>⟨(i.1 g o).1,by have:=(i.1 g o).2;omega⟩);have hB:KE n d=(decide (d.Aw≠[])&&decide (0<=d.B8)&&decide (d.B8<n)&&!d.Aw.contains d.B8):=by
   have Z:d.Aw.all (λf=>decide (0<=f)&&decide (f<n))=true:=by
    rw[Es];intro g o;have:=i.1 g o;simp[this]
   unfold KE;rw[Z,JZ i.2,EN,EN]
  rw[hB]at h c;by_cases v:d.Aw=[]
  ·have z:(IT d.Aw).toNat=0:=by rw[v];rfl
   simp[z];exact c (by simp[v])
  have z:¬((IT d.Aw).toNat:Int)=0:=G.2 v;have q:¬(IT d.Aw).toNat=0:=λe=>z (by omega);by_cases X:d.B8<0
  ·have j:¬0<=d.B8:=by omega
   simp[q,X,j];exact c (by simp[j])
  have j:0<=d.B8:=by omega
  by_cases g3:(n:Int)<=d.B8
  ·have r:¬d.B8<n:=by omega
   simp[q,j,r];exact c (by simp[r])
  have r:d.B8<n:=by omega
  obtain⟨f,T⟩:∃f:Nat,d.B8=f:=⟨d.B8.toNat,by omega⟩
  have O:(f:Int)<n:=by omega
  have Q:0<=(f:Int):=by omega
  simp[q,T,O,Q];refine Yi3 hP (by omega) ?_;have m:=VL f (by omega) _ _ rfl (λx p=>(i.1 x p).1);rw[m];have Y:∀b,b=(decide (d.Aw≠[])&&decide (0<=d.B8)&&decide (d.B8<n)&&!d.Aw.contains d.B8)->K (.d (.bool b)):=λb e=>e▸h;simp;apply Y;simp[v,T,O,Q]
theorem Yfm{x:AO}(w:x.BF){y:AF}{K:V->Prop}(h:K (.d (iD (if K7 x then 0 else 130)))):AW P 124 [.d x.enc] y K:=by
 refine AJ hP AQ (ds:=[x.enc]) Zcc Y8s A4.nil ?_;have a:K7 x=false->K (.d (.int .i64 130)):=λe=>by rw[e]at h;exact h
 by_cases c:(x.AL.length:Int)<1
 ·simp[XP,AO.enc,c];exact a (by rw[OG];simp only[K7,ne_eq,BB,DK];omega)
 by_cases i:(12:Int)<x.AL.length
 ·simp[XP,AO.enc,c,i];exact a (by rw[OG];simp only[K7,ne_eq,BB,DK];omega)
 by_cases l:(12:Int)<x.Ac.length
 ·simp[XP,AO.enc,c,i,l];exact a (by rw[OG];simp only[K7,ne_eq,BB,DK];omega)
 have v:K7 x=x.Ac.all (KE x.AL.length):=by
  have q:1<=x.AL.length:=by omega
  have r:x.AL.length<=12:=by omega
  have s:x.Ac.length<=12:=by omega
  simp[K7,q,r,s]
 rw[v]at h a;simp[XP,AO.enc,c,i,l];refine EC x.Ac.length (λk=>[(1,.ptr 0 []),(22,.d (.AH 4 (x.Ac.map A2.enc))),(23,.d (.int .i64 x.Ac.length)),(24,.d (.int .i64 k))])
  (λ_=>[(0,.box 72 (.d x.enc))]) (λk=>(x.Ac.take k).all (KE x.AL.length)=true) (by simp) (by simp) (by simp[AO.enc]) ?_ ?_
 ·intro k g f R z n o F;have G:=w_s k (by omega);have b:=W7 (p:=KE x.AL.length) g;rw[f,EN]at b;have j:∀d:A2,d.enc.shape.size=4:=λd=>by rw[Cb];rfl
  have u:∀d:A2,d.enc.sz=4:=λd=>rfl;have t:∀d:A2,d.enc.shape=.node [.AR,.AR,.AR,.AR]:=λ_=>rfl;simp[zK,g,u,j,t,AO.enc];refine⟨rfl,Yo7 hP (by omega) (w.Mi _ (Ci g)) ?_⟩;cases m:KE x.AL.length x.Ac[k]with
  |false=>
   simp;refine o _ _ ?_;simp;exact a (List.all_eq_false.2 ⟨_,Ci g,by simp[m]⟩)
  |true=>
   simp;refine z [] _ _ (by rw[b,m]) (by simp[G]) (by simp[AD,AO.enc]) (by simp[AD]) (by simp[AD])
 ·intro f R n o F;rw[FV]at f;simp[zK];refine n _ _ _ ?_;simp;rw[f]at h;exact h
omit hP
mutual
def Qk:∀{x y:D},D.le x y->x.shape=y.shape
|.Ad,y,h=>by
 simp only[D.le]at h;rcases h with rfl|⟨_,rfl⟩<;>rfl
|.agg b,y,h=>by
 simp only[D.le]at h;obtain⟨c,rfl,h⟩:=h;simp only[D.shape,yU h]
|.AH a b,y,h=>by
 simp only[D.le]at h;obtain⟨c,rfl,h⟩:=h;rfl
|.int ..,y,h|.bool ..,y,h|.AU ..,y,h|.B6,y,h|.CL,y,h|.Br,y,h|.CV,y,h|.Bv ..,y,h|.iface ..,y,h|.fn ..,y,h=>by
 simp only[D.le]at h;subst h;rfl
def yU:∀{b a:List D},Bk b a->D.BM b=D.BM a
|[],a,h=>by simp only[Bk]at h;subst h;rfl
|x::r,a,h=>by
 simp only[Bk]at h;obtain⟨y,s,rfl,c,d⟩:=h;simp only[D.BM,Qk c,yU d]
end
def QE(y:Ai):Int:=if y.AE.all K7 then 0 else 130
def WW(y:Ai):Int:=if (Vp y).2=0 then (if (Vp y).1=y then 0 else 160) else (Vp y).2
include hP
theorem Xoi{y:Ai}(c:y.BF){i:AF}{K:V->Prop}(h:K (.d (iD (QE y)))):AW P 43 [.d y.enc] i K:=by
 refine AJ hP AQ (ds:=[y.enc]) Zsq Zpl A4.nil ?_;have g:∀x:Ai,(V.d x.enc).Bc=some [.d (.AH 1 (x.Aa.map .AU)),.d (.AH 5 (x.Am.map A0.enc)),.d (.AH 6 (x.AE.map AO.enc)),.d (.AH 5 (x.AT.map Ao.enc)),.d (.AH 5 (x.AM.map Ar.enc)),.d (.AH 3 (x.AK.map Ae.enc))]:=λ_=>rfl;have q:∀x:AO,x.enc.sz=6:=λ_=>rfl;have p:∀x:AO,x.enc.shape.size=6:=λx=>by rw[Cb];rfl
 have o:∀x:AO,x.enc.shape=.node [.AR,.AR,.AR,.AR,.AR,.AR]:=λ_=>rfl;have s:=c.AE;simp[Znc,g];refine Au.go (ι:=Nat) (λk=>[(7,.d (.AH 6 (y.AE.map AO.enc))),(8,.d (.int .i64 y.AE.length)),(9,.d (.int .i64 k))]) (λ_=>[(0,.box 30 (.d y.enc))]) (λk=>k<=y.AE.length/\(y.AE.take k).all K7=true) (λk=>y.AE.length-k) 0 ⟨E2 _,by simp⟩ (by simp) (by simp) ?_;rintro k ⟨r,b⟩ R l j m t;by_cases a:k<y.AE.length
 ·have n:=w_s k (by omega);simp[tU,a,q,p,o];refine⟨rfl,Yfm hP (c.Ag _ (Ci a)) ?_⟩;by_cases e:K7 y.AE[k]=true
  ·simp[e];refine l [] (k+1) _ _ ⟨by omega,?_⟩ (by omega) (by simp[n]) (by simp[AD]) (by simp[AD]) (by simp[AD]);rw[D2 a,R5,b];simp[e]
  ·simp[e];refine m _ _ ?_;simp;have:QE y=130:=by
    rw[QE,Aq];intro f;exact e (Es.1 f _ (Ci a))
   rw[this]at h;exact h
 ·obtain rfl:k=y.AE.length:=by omega
  rw[FV]at b;have:QE y=0:=by rw[QE,BS b]
  rw[this]at h;simp[tU];refine j _ _ _ ?_;simpa using h
theorem X1d{y:Ai}(g:y.BF)(k:y.DO){l:AF}{K:V->Prop}(h:K (.d (iD (WW y)))):AW P 41 [.d y.enc] l K:=by
 refine AJ hP AQ (ds:=[y.enc]) Zso Zpj A4.nil ?_;have n:∀x:Ai,(V.d x.enc).Bc=some [.d (.AH 1 (x.Aa.map .AU)),.d (.AH 5 (x.Am.map A0.enc)),.d (.AH 6 (x.AE.map AO.enc)),.d (.AH 5 (x.AT.map Ao.enc)),.d (.AH 5 (x.AM.map Ar.enc)),.d (.AH 3 (x.AK.map Ae.enc))]:=λ_=>rfl;have j:y.enc.shape.size=6:=by rw[Cb];rfl
 have m:y.enc.sz=6:=rfl;simp[Zna,j,m];refine⟨rfl,dR hP g k λd f=>?_⟩;have b:d.shape=.node [.AR,.AR,.AR,.AR,.AR,.AR]:=Qk f;simp[b];have c:(match V.d d with
 |V.d (D.agg i)=>true
 |V.agg i=>true
 |x=>false)=true:=by
  cases d<;>simp[D.shape]at b⊢
 refine⟨λe=>?_,λe=>⟨rfl,c,rfl,c,AW.le (xs:=[d,y.enc]) (ys:=[(Vp y).1.enc,y.enc]) (Bk.cons f (Bk.cons (D.le.refl _) Bk.nil)) (Yi4 hP g ?_)⟩⟩
 ·rw[WW,Aq e]at h;exact h
 ·rw[WW,BS e]at h;by_cases a:(Vp y).1=y
  ·rw[BS a]at h;simpa[a]using h
  ·rw[Aq a]at h;simpa[a]using h
omit hP
def Jd(l:List Int):List (D×V):=l.map λx=>(.int .i64 x,V.d (.bool true))
def SX(x:Int):∀l:List Int,Y4 (.int .i64 x) (Jd l)=if x∈l then some (V.d (.bool true)) else none
|[]=>rfl
|y::r=>by
 have a:=SX x r;unfold Jd at a⊢;simp only[Cw,Y4,a,EJ];by_cases e:x=y
 ·simp[e,DW]
 ·simp[e,DW]
def gJ(x:Int)(l:List Int):V8 (.int .i64 0) (.int .i64 x) (Jd l):=by
 refine⟨rfl,λe a=>?_⟩;obtain⟨y,_,rfl⟩:=DY.1 a;rfl
def So(p:Nat->Bool):∀l:List Int,Zd p (Jd l)=false
|[]=>rfl
|y::r=>by
 have a:=So p r;unfold Jd at a⊢;simp[Zd,a,V.BQ]
def U1{p:Nat->Bool}{id:Nat}{a:List (D×V)}(c:Zd p a=false):∀{e:AF},AI p e=true->AI p (AG e id (.map a))=true
|[],_=>rfl
|(j,o)::r,h=>by
 have b:AI p r=true:=by cases o<;>simp[AI]at h<;>first|exact h|exact h.2
 simp only[AG];split
 ·simp[AI,c,b]
 ·have d:=U1 (id:=id) c b;cases o<;>simp[AI]at h⊢<;>first|exact d|exact⟨h.1,d⟩
def NN(l:List Int)(n:Int):Bool:=decide l.Nodup&&decide ((l.length:Int)=n)
include hP
theorem Yot{l:List Int}{n:Int}{m:Nat}(L:l.length<=9223372036854775807){i:AF}(t:AB i m=some (.map [])){K:BN->AF->Prop}(h:∀j,K (.ret (.d (.bool (NN l n)))) (AG i m (.map j))):AX P 126 [.mp m,.d (X4 l),.d (.int .i64 n)] i K:=by
 refine Xt hP AQ Y3z Y0i A4.nil λ_ r=>?_;have N:=Xi t;simp[Yu3,X4];have g:∀j b,b=NN l n->(∀p,Zd p j=false)->Yk (AA i) (K (.ret (.d (.bool b)))) [] (AG i m (.map j)):=λj b s q=>by
  subst s;have v:Xk (AD (AA i) []) (AG i m (.map j))=AG i m (.map j):=Xh (by simp);exact⟨[],by simp,by rw[v];exact U1 (q _) (r []),by rw[v];exact h j⟩
 refine Au.go (ι:=Nat) (λk=>[(0,.mp m),(1,.d (X4 l)),(2,.d (.int .i64 n)),(9,.d (X4 l)),(10,.d (.int .i64 l.length)),(11,.d (.int .i64 k))]) (λk=>AG i m (.map (Jd (l.take k)))) (λk=>k<=l.length/\(l.take k).Nodup) (λk=>l.length-k) 0 ⟨E2 _,by simp⟩ (by simp[X4]) (by simp[Jd,Yd t]) ?_;rintro k ⟨J,q⟩ R F z G O;have x:∀o,AB (AG i m o) m=some o:=λo=>by rw[Xb i m m ⟨_,t⟩,BS rfl]
 by_cases f:k<l.length
 ·have H:=w_s k (by omega);by_cases c:l[k]∈l.take k
  ·simp[VC,f,X4,x,SX,gJ,c];refine G _ _ ?_;simp;refine g _ _ ?_ (So · _);have:¬l.Nodup:=λw=>by
    rw[<-Lu k l,D5 f]at w;exact(FC.1 w).2.2 _ c _ List.mem_cons_self rfl
   simp[NN,this]
  ·have u:EW (.int .i64 l[k]) (V.d (.bool true)) (Jd (l.take k))=Jd (l.take (k+1)):=by
    rw[Ue _ _ _ (by rw[SX,Aq c]),D2 f];rw[Jd,Jd,Ky];rfl
   simp[VC,f,X4,x,SX,gJ,c,u,Yh];refine F [] (k+1) _ _ ⟨by omega,?_⟩ (by omega) (by simp[H,X4]) ?_ ?_ ?_
   ·rw[D2 f,FC];exact⟨q,by simp,λa y b s=>by rw[E3]at s;subst s;exact λe=>c (e▸y)⟩
   ·exact Xh (by simp)
   ·simp[AD];omega
   ·exact U1 (So _ _) (by simpa using r [])
 ·obtain rfl:k=l.length:=by omega
  rw[FV]at q;simp[VC,X4];refine z _ _ _ ?_;simp[X4];refine g _ _ ?_ (So · _);simp[NN,q];rfl
omit hP
def Yjw:Nat:=0x1000b4a01600d07100c449239238ab00141bf67107708d07d75f80e7c17eb0d20070137e080e3b301125d01000100f13206c06c01022e2670063b300e0b426799fa7809400d0824c33b38d531000e07e
def pa:Nat:=0x19e70cf0231bf01402200102137c17b0491e53dc02230e23f9fd0cf01f1bf1a607708d07d36913700505801d6dd01e9bd13700401c0cf43e00905901708d017099017468693389b8301901f7fab4a09fb4a08e0cc21803b0807e227f00a25a0141a805a03969d02d03600402c03600302b03600202a03600102903697a24a24a09500b92b6de05804431a38201e6ea
def Zf7:S:=zS [(zS [] Yjw)] pa
def Zr2:Xp prog 11 1 Zf7 [.c 2 7 true,.t 3]=true:=by kernel_rfl
def n44:Nat:=0x1b5b0226ef36900101d74c01c17c11701b1437e45b111748e11701959eafd11718a1179af00083a2920154086ee778ac85944163b30580117000125ab2dd01011c1932ed05900b08d00b97d00f0250833a8b836961902e44f50700d48cd99d5da6ddaeb4730070cf8b1039497c3160f
def Zgy:S:=zS [] n44
def Zsr:Xp prog 44 1 Zgy [.t 2]=true:=by kernel_rfl
def n46:Nat:=0x15f819c02e0000160030590171b10035f80589c294f36c95e04e4fb0cb01352b0113d901237304793393237911000e0a311000505356a07d0035f800d9c203011c04c07d1fa0b100305800b0d25675ab2279f20b70140090c00476b935fc1601e71a32c06cb2a1673449c20302c201107d
def Zg0:S:=zS [] n46
def Zst:Xp prog 46 1 Zg0 [.t 2,.t 3,.t 4]=true:=by kernel_rfl
def Zk0:Nat:=0x1b5b0226ef6db4302920150596ee778ac89d30b70030580117000121e004793311c1932ed05900b08d00b97d00f0250833a8b836961902e44f50700d48cd99d5da6ddaeb4730070cf08102a497c3160f
def Yxm:S:=zS [] Zk0
def Zcd:Xp prog 125 1 Yxm [.t 2]=true:=by kernel_rfl
def u7:Nat:=0x1000a7f002041011071010044357
def u6:Nat:=0x10006210b709304102907102818cbad0656f913889d7b4c2d0f01568dc1480466fd1260466ca03358b0519fd4100cf1347ca0ef0c005708c9486210070b700a11b0091110bf1bf1660fa04600726d42b30e11f621007a1902b007008bac26a02a0010937890085cc0290822694d6a1902702800d02a07e
def kR:Nat:=0x1057bad3a7bad08e02658e1fe04e026573
def kQ:Nat:=0x187d246a7402469789d9af6fa6fd0200461b31b0a232460b70df0b902401d4a28dc6bc6fd01a0466ca01b45c0c49fd4100cf0197ca0ef0c005708c3592464040170097811bf16654f6fd77701530e11f246a7401317393721e02e0121120102ed1d30110826c707868c00d01207e
def oT:Nat:=0x19e70040700417ca04809206a7daa7f09fa7f08e00e0048fa08a0040606bf00c7ca2fa0450090c010701301d3320087f600945c6de6720c00476b938201e6ea
def Yxp:S:=zS [(zS [(zS [(zS [] u6)] kR),(zS [] u7)] kQ)] oT
def Zcf:Xp prog 128 1 Yxp [.c 2 2 true,.t 3]=true:=by kernel_rfl
def Zk1:Nat:=0x14e4030002008166aec0300ad
def Yxq:S:=zS [] Zk1
def Zcg:Xp prog 129 1 Yxq [.t 2]=true:=by kernel_rfl
def Zk2:Nat:=0x10a005001e00123287e0800460330406b9169
def Yxr:S:=zS [] Zk2
def Zch:Xp prog 130 1 Yxr [.t 2]=true:=by kernel_rfl
def Zlr:Nat:=0x107300c22d00b0070081e500d53e03d00905d00703d08025b52c00703d006175005217232b776b923a
def Yyx:S:=zS [] Zlr
def Zdx:Xp prog 191 2 Yyx [.t 4]=true:=by kernel_rfl
def vh:Nat:=0x104704ec2f4c8
def DR:S:=zS [] vh
def vi:Nat:=0x104000b0480141e55d40090434b700504595530e04005a
def DS:S:=zS [] vi
def Zrj:Nat:=0x107318e0590436960803d96ac05700671a03a7d50723d90610917e227f03009023523a
def Yyy:S:=zS [DR,DS] Zrj
def Zdy:K8 prog 192 2 Yyy [.t 4]=true:=by kernel_rfl
def vj:Nat:=0x100089f8861331da00c0ce021357
def kY:Nat:=0x11b589f0b404101c06400b16601d18d0790f328400b0aa040a0401a2142e0b7c00905840c0bb8277cb9f332406f5f1b7c3b504101507aaee13c13b0139ed012089aee9f30860110855965f1b7c00800f15a01e00e08900c20613cb5f00d1c22d42e02a500800b22813300e1c6
def kZ:Nat:=0x105789f00738e89f0070580570ba0090890080d613c00704407223f68710f0062632a505faa40043b40436a804105322804329a8ca8ca85600905408500811f0752a50065d90f025d0010ea0990ea03602514803101e1569ba33512613d16613428477a0324bc0030b7063bde0b10e305811100f7ac0b229cbdd94317302ba2e
def vk:Nat:=0x10008f702901507101400002a11e
def ka:Nat:=0x11b58f7940ab416602600300b18602428400b0aa04002304c023096a142320580220bb02104693e06c00632406f0960de3a60089fb05614306c01c0234a201a8dc18601905d0c200608601801e4ac0960de3a60080160b401418b01508232a738008984b0307e
def oo:Nat:=0x10a32a50042030578f709f8f795b56e013a721720610470110df01002a03b7f205501192b06f1be05525cac25f35620b90533ba0431a963a01d25cac29fe0b9add25c6e7add4f770d0531b33ba04500246e06800fac29fe0b975b01d25c6e7add4f79fe44c00dba706800f6e775b01da1c04300f21d05300c70d0531b33ba0450487c7020226053
def Yyz:S:=zS [(zS [(zS [] vk)] ka),(zS [(zS [(zS [] vj)] kY)] kZ)] oo
def Zdz:Xp prog 193 2 Yyz []=true:=by kernel_rfl
def vn:Nat:=0x12818323837b905614306c01e01c5d47f14b704c9e015100105f4ca0440184081280120790b153e0160df83b00701202201d9c50b79150824fb83206109901300701202101403b080
def kb:Nat:=0x1000bbf021761698a660128320610a107828183238301102001d3aa8dc11a59a00f47e06f0791be05a00d09000b18b00c0822f900305a762
def oq:Nat:=0x10a00220030700230e2057bbf09fbbf67256e00aa72473bf20632dc78890e56e0075730460300406b9169
def Yy0:S:=zS [(zS [(zS [] vn)] kb)] oq
def Zd0:Xp prog 194 1 Yy0 [.t 2]=true:=by kernel_rfl
def Zls:Nat:=0x19a44f403a16613b1fb068b7a0400b203a2840002f004015d22b11204c02a4500032f000115d36c
def Yy1:S:=zS [] Zls
def Y32:Xp prog 195 2 Yy1 []=true:=by kernel_rfl
def Zlt:Nat:=0x14e4004aec390
def Yy2:S:=zS [] Zlt
def oG:Xp prog 196 1 Yy2 [.t 2]=true:=by kernel_rfl
def Zlu:Nat:=0x198011c0001ac0294500042f0aec00b0584f503b16606850d0c02121bfc0826b00836c0c00c50710880685dc0400b203a2840002f00471b10eb0310ad
def Yy3:S:=zS [] Zlu
def Zd1:Xp prog 197 1 Yy3 [.t 2]=true:=by kernel_rfl
def Yap:Nat:=0x11040160020d8045128004045096568c087d7a56a17445345010a4417c1084f8254c0500010818a1084c810812836400009c0bb09b10100a11f04d0440070901f200608a04a0880610df07d05a
def o9:Nat:=0x1057001045066
def Yzu:S:=zS [(zS [] Yap)] o9
def Zex:Xp prog 242 2 Yzu []=true:=by kernel_rfl
def Yaq:Nat:=0x116521c0bf25d00904512800921c78b002028c0817c099a56a177a915033802600913e002023c0579b040024373
def k9:Nat:=0x11b515050f02200a1a054e96500a15070c06202056501f05901dc050cd03db7a3538883530400cd03d01b0001510cb24101a4bc05714670c01800b9600440080184ba14633801600a45e0d4a1795e0753380147c82129a706818133784a3aa21704900801025211f07550f00e59700d04400c1f230d00700d1b105a
def pD:Nat:=0x114711b0b41110fa1590552c449100721c47000721c1c501e0b20591ad19e
def Yzv:S:=zS [(zS [(zS [] Yaq)] k9)] pD
def Zey:Xp prog 243 3 Yzv [.t 6]=true:=by kernel_rfl
def Zmd:Nat:=0x114700f0b400e92300dba700904383d26706c1f100c01e07506c0559a4b8907719e
def Yz3:S:=zS [] Zmd
def Ze7:Xp prog 288 3 Yz3 [.t 6]=true:=by kernel_rfl
def Zme:Nat:=0x10a001f11c0700bb0a792901b32801c91200501a23e02601d13b0191820180048f30420150950165460420112002824838db00f0450c000f0cf00e04600d74513ba3b00b0048883ba00625301f19000877b38a0040aa6e81c306320c00000d0450eb0310ad
def Yz4:S:=zS [] Zme
def Ze8:Xp prog 289 1 Yz4 [.t 2]=true:=by kernel_rfl
def Zmf:Nat:=0x126b8c201404218e0120105d40110434b725c0463ed79822b7f08990043a100c05217204400a0ef090c162529ba33519b252042
def Yz5:S:=zS [] Zmf
def Y34:Xp prog 290 2 Yz5 []=true:=by kernel_rfl
def Zmg:Nat:=0x195a01305609c06c00d0120561ec06c84801fb056b30671d904000f01e07906c04906f0eb0400b47df80eb2f0de1ca382
def Yz6:S:=zS [] Zmg
def Ze9:Xp prog 292 3 Yz6 []=true:=by kernel_rfl
def hH:S2:=zL [] [] Yjw
def tA:=(by cbv:hH=_)
def Zin:S2:=zL [] [hH] pa
def Zmr:=(show Zin=_ from (λa=>(by cbv:zL [] [a] pa=_)) hH)
def Zox:Zf7.AZ []=some Zin:=by kernel_rfl
def Zjd:S2:=zL [] [] n44
def Znd:=(by cbv:Zjd=_)
def Zpm:Zgy.AZ []=some Zjd:=by kernel_rfl
def Zjf:S2:=zL [] [] n46
def Znf:=(by cbv:Zjf=_)
def Zpo:Zg0.AZ []=some Zjf:=by kernel_rfl
def Y03:S2:=zL [] [] Zk0
def Y5j:=(by cbv:Y03=_)
def Y8t:Yxm.AZ []=some Y03:=by kernel_rfl
def VW:S2:=zL [] [] u7
def Yem:=(by cbv:VW=_)
def ee:S2:=zL [] [] u6
def zM:=(by cbv:ee=_)
def VX:S2:=zL [] [ee] kR
def Yen:=(show VX=_ from (λa=>(by cbv:zL [] [a] kR=_)) ee)
def eh:S2:=zL [] [VX,VW] kQ
def zN:=(show eh=_ from (λ(a b:S2)=>(by cbv:zL [] [a,b] kQ=_)) VX VW)
def Y06:S2:=zL [] [eh] oT
def Y5k:=(show Y06=_ from (λa=>(by cbv:zL [] [a] oT=_)) eh)
def Y8v:Yxp.AZ []=some Y06:=by kernel_rfl
def Y07:S2:=zL [] [] Zk1
def Y5l:=(by cbv:Y07=_)
def Y8w:Yxq.AZ []=some Y07:=by kernel_rfl
def Y08:S2:=zL [] [] Zk2
def Y5m:=(by cbv:Y08=_)
def Y8x:Yxr.AZ []=some Y08:=by kernel_rfl
def Y2a:S2:=zL [] [] Zlr
def Y6c:=(by cbv:Y2a=_)
def Y9z:Yyx.AZ []=some Y2a:=by kernel_rfl
def Xzp:S2:=zL [] [] vh
def y9:=(by cbv:Xzp=_)
def Yhe:DR.AZ []=some Xzp:=by kernel_rfl
def Xzq:S2:=zL [] [] vi
def zB:=(by cbv:Xzq=_)
def Yhf:DS.AZ []=some Xzq:=by kernel_rfl
def Y2b:S2:=.seq (.rg [.op (some 2) (.box 35 (.t 0))] [(1,(.a (.t 1))),(2,(.a (.t 2))),(4,(.a .Ad))] [])
 (.seq (.seq (.rg [] [(2,(.a (.t 2))),(4,(.a (.t 4))),(6,(.a (.t 1)))] [])
 (.block 0 (.IJ 192 [7] (.t 6) DR DS [2,4])))
 (.seq (.rg [] [(4,(.u (.ld 1 false (.t 0)) (.a (.t 2))))] [])
 (.ret)))
def Y90:Yyy.AZ []=some Y2b:=by kernel_rfl
def fM:S2:=zL [] [] vj
def z6:=(by cbv:fM=_)
def VY:S2:=zL [] [fM] kY
def zC:=(show VY=_ from (λa=>(by cbv:zL [] [a] kY=_)) fM)
def VZ:S2:=zL [] [VY] kZ
def zD:=(show VZ=_ from (λa=>(by cbv:zL [] [a] kZ=_)) VY)
def fN:S2:=zL [] [] vk
def dw:=(by cbv:fN=_)
def V0:S2:=zL [] [fN] ka
def dv:=(show V0=_ from (λa=>(by cbv:zL [] [a] ka=_)) fN)
def Y2c:S2:=zL [] [V0,VZ] oo
def Y6d:=(show Y2c=_ from (λ(a b:S2)=>(by cbv:zL [] [a,b] oo=_)) V0 VZ)
def Y91:Yyz.AZ []=some Y2c:=by kernel_rfl
def WA:S2:=zL [] [] vn
def z7:=(by cbv:WA=_)
def fP:S2:=zL [] [WA] kb
def z8:=(show fP=_ from (λa=>(by cbv:zL [] [a] kb=_)) WA)
def Y2d:S2:=zL [] [fP] oq
def Y6e:=(show Y2d=_ from (λa=>(by cbv:zL [] [a] oq=_)) fP)
def Y92:Yy0.AZ []=some Y2d:=by kernel_rfl
def Y2e:S2:=zL [] [] Zls
def Yu6:=(by cbv:Y2e=_)
def Y0j:Yy1.AZ []=some Y2e:=by kernel_rfl
def Y2f:S2:=zL [] [] Zlt
def nR:=(by cbv:Y2f=_)
def nc:Yy2.AZ []=some Y2f:=by kernel_rfl
def Y2g:S2:=zL [] [] Zlu
def Y6f:=(by cbv:Y2g=_)
def Y93:Yy3.AZ []=some Y2g:=by kernel_rfl
def gB:S2:=zL [] [] Yap
def Xyn:=(by cbv:gB=_)
def Y2z:S2:=zL [] [gB] o9
def Y6t:=(show Y2z=_ from (λa=>(by cbv:zL [] [a] o9=_)) gB)
def Zam:Yzu.AZ []=some Y2z:=by kernel_rfl
def WE:S2:=zL [] [] Yaq
def Ye7:=(by cbv:WE=_)
def gC:S2:=zL [] [WE] k9
def dx:=(show gC=_ from (λa=>(by cbv:zL [] [a] k9=_)) WE)
def Y20:S2:=zL [] [gC] pD
def Y6u:=(show Y20=_ from (λa=>(by cbv:zL [] [a] pD=_)) gC)
def Zan:Yzv.AZ []=some Y20:=by kernel_rfl
def Y28:S2:=zL [] [] Zmd
def Y61:=(by cbv:Y28=_)
def Zav:Yz3.AZ []=some Y28:=by kernel_rfl
def Y29:S2:=zL [] [] Zme
def Y62:=(by cbv:Y29=_)
def Zaw:Yz4.AZ []=some Y29:=by kernel_rfl
def Y3a:S2:=zL [] [] Zmf
def Yu7:=(by cbv:Y3a=_)
def Y0k:Yz5.AZ []=some Y3a:=by kernel_rfl
def Y3b:S2:=zL [] [] Zmg
def Y63:=(by cbv:Y3b=_)
def Zax:Yz6.AZ []=some Y3b:=by kernel_rfl
def Lc:Option (List Int)->D
|some l=>X4 l
|none=>.Ad
def Yq5{d:D}{l:List Int}(h:D.le d (X4 l)):d=X4 l\/(d=.Ad/\l=[]):=by
 have e:∀(l:List Int)(b:List D),Bk b (l.map iD)->b=l.map iD:=λl=>by
  induction l with
  |nil=>intro b h;cases b with
   |nil=>rfl
   |cons x r=>simp[Bk]at h
  |cons a r i=>intro b h;cases b with
   |nil=>simp[Bk]at h
   |cons x s=>
    simp only[Cw,Bk]at h;obtain⟨y,t,e,f,c⟩:=h;cases e;rw[i _ c,Cw];congr 1;cases x<;>simp[D.le]at f<;>simp[f]
 cases d with
 |Ad=>simp[D.le,X4]at h;exact .inr ⟨rfl,h⟩
 |AH a b=>
  simp only[D.le,X4]at h;obtain⟨j,g,c⟩:=h;cases g;left;rw[e l b c];rfl
 |_=>simp[D.le,X4]at h
structure Ge(P:BA)(y:Ai)(e:Int)(o:Option (List Int)):Prop where
 call:∀(ob:AF)(K:V->Prop),(∀d,D.le d (Lc o)->K (.BT [.d d,.d (.bool o.isSome),.d (iD e)]))->AW P 46 [.d y.enc] ob K
 len:∀l,o=some l->l.length<=9223372036854775807
def J3(y:Ai)(e:Int)(o:Option (List Int)):Int:=if J6 y=0 then (if e=0 then (if o.isSome then 0 else 141) else e) else J6 y
def Ymi(y:Ai):Option (List Int)->Bool
|some l=>NN l y.AE.length
|none=>false
def P8(y:Ai)(e:Int)(o:Option (List Int)):Int:=if J3 y e o=0 then (if Ymi y o then 0 else 141) else J3 y e o
include hP
theorem Yft{y:Ai}(f:y.BF){e:Int}{o:Option (List Int)}(c:Ge P y e o){g:AF}{K:V->Prop}(h:K (.d (iD (J3 y e o)))):AW P 125 [.d y.enc] g K:=by
 refine AJ hP AQ (ds:=[y.enc]) Zcd Y8t A4.nil ?_;have i:y.enc.shape.size=6:=by rw[Cb];rfl
 have j:y.enc.sz=6:=rfl;simp[Y5j,i,j];refine⟨rfl,zU hP f ?_⟩;by_cases a:J6 y=0
 ·simp[a];refine⟨rfl,c.call _ _ λd k=>?_⟩;by_cases b:e=0
  ·cases o<;>simpa[b,J3,a]using h
  ·simpa[b,J3,a]using h
 ·simpa[a,J3]using h
theorem Yfe{n:Int}{m:Nat}{a:AF}(f:AB a m=some (.map [])){K:BN->AF->Prop}(h:∀g,K (.ret (.d (.bool (NN [] n)))) (AG a m (.map g))):AX P 126 [.mp m,.d .Ad,.d (.int .i64 n)] a K:=by
 refine Xt hP AQ Y3z Y0i A4.nil λ_ c=>?_;have l:=Xi f;simp[Yu3];refine Au.go (ι:=Nat) (λk=>[(0,.mp m),(1,.d .Ad),(2,.d (.int .i64 n)),(9,.d .Ad),(10,.d (.int .i64 0)),(11,.d (.int .i64 0))]) (λ_=>a) (λ_=>True) (λk=>0) 0 trivial (by simp) rfl ?_;rintro k _ R o j q p;simp[VC];refine j _ _ _ ?_;simp;have i:=Yd f;have b:=h [];rw[i]at b;refine⟨[],by simp,by simpa using c [],?_⟩;have e:NN [] n=((0:Int)==n):=by simp[NN];rfl
 rw[e]at b;simpa[AD]using b
theorem X5u{y:Ai}(p:y.BF){e:Int}{o:Option (List Int)}(c:Ge P y e o){r:AF}{K:V->Prop}(h:K (.d (iD (P8 y e o)))):AW P 44 [.d y.enc] r K:=by
 refine AJ hP AQ (ds:=[y.enc]) Zsr Zpm A4.nil ?_;have s:y.enc.shape.size=6:=by rw[Cb];rfl
 have t:y.enc.sz=6:=rfl;have q:∀x:Ai,(V.d x.enc).Bc=some [.d (.AH 1 (x.Aa.map .AU)),.d (.AH 5 (x.Am.map A0.enc)),.d (.AH 6 (x.AE.map AO.enc)),.d (.AH 5 (x.AT.map Ao.enc)),.d (.AH 5 (x.AM.map Ar.enc)),.d (.AH 3 (x.AK.map Ae.enc))]:=λ_=>rfl;simp[Znd,s,t];refine⟨rfl,Yft hP p c ?_⟩;by_cases a:J3 y e o=0
 ·have f:e=0:=by
   unfold J3 at a;split at a
   ·split at a
    ·assumption
    ·exact a
   ·contradiction
  have g:o.isSome=true:=by
   unfold J3 at a;split at a
   ·rename_i u;cases m:o.isSome with
    |true=>rfl
    |false=>simp[m,f]at a
   ·contradiction
  rw[P8,BS a]at h;simp[a];refine⟨rfl,c.call _ _ λd j=>?_⟩;cases o with
  |none=>cases g
  |some l=>
   simp[f,q,Ymi]at h⊢;have Cq:∀v b,v=V.d (.bool b)->K (.d (.int .i64 (if b=true then 0 else 141)))->TC v/\Hy (K (V.d (D.int IntKind.i64 141))) (K (V.d (D.int IntKind.i64 0))) (RU v):=λv b n k=>by
    subst n;cases b<;>simpa using k
   rcases Yq5 j with rfl|⟨rfl,rfl⟩
   ·refine Yot hP (c.len l rfl) (by simp[AB]) λi=>?_;exact Cq _ _ rfl h
   ·refine Yfe hP (by simp[AB]) λi=>?_;exact Cq _ _ rfl h
 ·simpa[a,P8]using h
omit hP
def OS(y:Ai)(s f v:Int):Bool:=match U6 y s f with
|none=>false
|some x=>JB y.Am.length x.type&&decide (x.type.lo<=v)&&decide (v<=x.type.hi)
def Qr(y:Ai)(s:Int):Nat->List Aj->Bool
|_,[]=>true
|k,f::r=>OS y s k f.type.lo&&Qr y s (k+1) r
def Vk(y:Ai)(s:Int):Bool:=decide (0<=s)&&(match y.AE[s.toNat]? with
|none=>false
|some c=>Qr y s 0 c.AL&&(match c.AL[0]? with|none=>false|some f=>decide (f.type.kind=3)))
def NR(a b:A5)(n:Int):Bool:=
 if a.kind≠b.kind then false
 else if a.kind=1\/a.kind=2 then decide (b.lo=IntKind.i64.wrap (a.lo+n))&&decide (b.hi=IntKind.i64.wrap (a.hi+n))&&decide (a.unit=b.unit)
 else decide (n=0)&&decide (a.lo=b.lo)&&decide (a.hi=b.hi)&&decide (a.names.length=b.names.length)
include hP
theorem Ypn{y:Ai}(u:y.BF){s f v:Int}{w:AF}{K:V->Prop}(h:K (.d (.bool (OS y s f v)))):AW P 241 [.d y.enc,.d (.int .i64 s),.d (.int .i64 f),.d (.int .i64 v)] w K:=by
 refine AJ hP AQ (ds:=[y.enc,.int .i64 s,.int .i64 f,.int .i64 v]) Zew Zal A4.nil ?_;have o:y.enc.shape.size=6:=by rw[Cb];rfl
 have F:∀x:A5,x.enc.shape.size=6:=λx=>by rw[Cb];rfl
 have z:∀x:A5,x.enc.shape=.node [.AR,.AR,.AR,.AR,.AR,.AR]:=λ_=>rfl;have n:∀x:A5,x.enc=.agg [iD x.kind,iD x.lo,iD x.hi,.AU x.CB,iD x.unit,Xg x.names]:=λ_=>rfl;simp[Y6s,o];refine⟨rfl,rfl,VN hP (λc=>?_) (λi g j k q p=>?_)⟩
 ·have a:=Qi (y:=y) (s:=s) (f:=f) c;simp[ML];simpa[OS,a]using h
 ·have a:=UZ g k;rw[<-q,<-p]at a;have t:OS y s f v=(JB y.Am.length y.AE[i].AL[j].type&&decide (y.AE[i].AL[j].type.lo<=v)&&decide (v<=y.AE[i].AL[j].type.hi)):=by simp[OS,a]
  rw[t]at h;have l:=(u.Ag _ (Ci g)).names _ (Ci k);generalize y.AE[i].AL[j].type=x at h l;simp[z,F,o];refine⟨rfl,zV hP (y:=y) x l ?_⟩;cases m:JB y.Am.length x with
  |false=>simpa[n,m]using h
  |true=>
   have r:∀b,b=(decide (x.lo<=v)&&decide (v<=x.hi))->K (.d (.bool b)):=λb e=>by rw[e];simpa[m]using h
   simp[n];apply r;rfl
theorem Yvy{a b:A5}{n:Int}{l:AF}{K:V->Prop}(h:K (.d (.bool (NR a b n)))):AW P 190 [.d a.enc,.d b.enc,.d (.int .i64 n)] l K:=by
 refine AJ hP AQ (ds:=[a.enc,b.enc,.int .i64 n]) Zdw Y9y A4.nil ?_;have i:∀c,c=NR a b n->K (.d (.bool c)):=λc e=>e▸h;clear h;by_cases g:a.kind=b.kind
 rotate_left
 ·simp[nQ,A5.enc,Xg,g];exact i _ (by simp[NR,g])
 by_cases f:b.kind=1\/b.kind=2
 ·rcases f with f|f
  all_goals
   simp[nQ,A5.enc,Xg,g,f];exact i _ (by rw[Dv];simp[NR,g,f])
 ·have j:¬b.kind=1:=λe=>f (.inl e);have k:¬b.kind=2:=λe=>f (.inr e);simp[nQ,A5.enc,Xg,g,j,k];exact i _ (by simp[NR,g,j,k];rw[Dv];simp;omega)
theorem zR{y:Ai}(u:y.BF){s:Int}{O:AF}{K:V->Prop}(h:K (.d (.bool (Vk y s)))):AW P 189 [.d y.enc,.d (.int .i64 s)] O K:=by
 refine AJ hP AQ (ds:=[y.enc,.int .i64 s]) Zdv Y9x A4.nil ?_;have g:Vk y s=false->K (.d (.bool false)):=λe=>by rw[e]at h;exact h
 have Y:y.enc.shape.size=6:=by rw[Cb];rfl
 have l:y.enc=.agg [Xg y.Aa,.AH 5 (y.Am.map A0.enc),.AH 6 (y.AE.map AO.enc),.AH 5 (y.AT.map Ao.enc),.AH 5 (y.AM.map Ar.enc),.AH 3 (y.AK.map Ae.enc)]:=rfl;have U:∀c:AO,c.enc=.agg [.AU c.name,.AU c.Eg,iD c.CF,iD c.BU,.AH 11 (c.AL.map Aj.enc),.AH 4 (c.Ac.map A2.enc)]:=λ_=>rfl;have p:∀f:Aj,f.enc=.agg [.AU f.name,.agg [iD f.type.kind,iD f.type.lo,iD f.type.hi,.AU f.type.CB,iD f.type.unit,Xg f.type.names],.agg [iD f.w0,iD f.w1,iD f.w2,iD f.w3]]:=λ_=>rfl;by_cases o:s<0
 ·simp[nP,l,Xg,o];exact g (by simp[Vk,show ¬0<=s by omega])
 by_cases x:(y.AE.length:Int)<=s
 ·simp[nP,l,Xg,o,x];have N:y.AE[s.toNat]? = none:=Pa (by omega);exact g (by unfold Vk;rw[N];simp)
 obtain⟨i,rfl⟩:∃i:Nat,s=i:=⟨s.toNat,by omega⟩
 have n:i<y.AE.length:=by omega
 have z:¬(i:Int)<0:=by omega
 have F:¬(y.AE.length:Int)<=i:=by omega
 have W:=U y.AE[i];have L:y.AE[i].AL.length<=9223372036854775807:=(u.Ag _ (Ci n)).AL;have J:Vk y i=(Qr y i 0 y.AE[i].AL&&(match y.AE[i].AL[0]? with|none=>false|some f=>decide (f.type.kind=3))):=by
  simp[Vk,DN n]
 rw[J]at h g;simp[nP,l,Xg,n,W,z,F];generalize y.AE[i].AL=a at h g L;refine EC a.length (λk=>[(1,.d (.int .i64 i)),(2,.ptr 0 []),(5,.d (.AH 11 (a.map Aj.enc))),(23,.d (.AH 11 (a.map Aj.enc))),(24,.d (.int .i64 a.length)),(25,.d (.int .i64 k))])
  (λ_=>[(0,.box 30 (.d y.enc))]) (λk=>Qr y i 0 a=Qr y i k (a.drop k)) (by simp) (by simp) (by simp[l,Xg]) ?_ ?_
 ·intro k q m R Q v w T;have X:=w_s k (by omega);have j:Qr y i 0 a=(OS y i k a[k].type.lo&&Qr y i (k+1) (a.drop (k+1))):=by rw[m,D5 q,Qr]
  have G:=p a[k];simp[y8,q,G,Xg,Y];refine⟨rfl,Ypn hP u ?_⟩;cases t:OS y i k a[k].type.lo with
  |false=>
   simp;refine w _ _ ?_;simp;exact g (by rw[j,t];rfl)
  |true=>
   simp;refine Q [] _ _ (by rw[j,t,EN]) (by simp[X]) (by simp[AD]) (by simp[AD]) (by simp[AD])
 ·intro m R v w T;simp[y8];refine v _ _ _ ?_;rw[m,List.drop_length,Qr,EN]at h
  match a,h with
  |[],h=>simpa using h
  |f::r,h=>
   simp[p f];have H:∀b,b=decide (f.type.kind=3)->K (.d (.bool b)):=λb e=>by rw[e];simpa using h
   apply H;rw[Dv];simp
omit hP
def Jx(n:Nat)(l:List Int):List D:=(List.range n).map λ(i:Nat)=>D.bool (decide ((i:Int)∈l))
def yX(n:Nat):Jx n []=List.replicate n (.bool false):=by
 apply List.ext_getElem<;>simp[Jx]
def X8x(n:Nat)(l:List Int):(Jx n l).length=n:=by simp[Jx]
def Yhk(n:Nat)(l:List Int)(i:Nat)(h:i<(Jx n l).length):(Jx n l)[i]=.bool (decide ((i:Int)∈l)):=by simp[Jx]
def yY(n:Nat)(l:List Int)(i:Nat)(h:i<n):(Jx n l).set i (.bool true)=Jx n (l++[(i:Int)]):=by
 apply List.ext_getElem
 ·simp[Jx]
 ·intro j a b;simp only[Jx,List.length_set,List.length_map,List.length_range]at a;rw[List.getElem_set];split
  next e=>subst e;simp[Jx]
  ·rename_i e;have:¬((j:Int)=i):=by omega
   simp[Jx,this]
def H4(c d:List Aj)(m:BI):Bool:=
 decide (1<=m.a)&&decide (m.a<c.length)&&decide (1<=m.b)&&decide (m.b<d.length)&&
 (match c[m.a.toNat]?,d[m.b.toNat]? with|some x,some z=>NR x.type z.type m.shift|_,_=>false)
def Va(y:Ai)(s:Int):List Aj:=match y.AE[s.toNat]? with|some c=>c.AL|none=>[]
def Hu(y:Ai)(c:Ar):Bool:=
 decide (c.a≠c.b)&&Vk y c.a&&Vk y c.b&&decide ((c.At.length:Int)=(Va y c.a).length-1)&&decide ((c.At.length:Int)=(Va y c.b).length-1)&&
 c.At.all (H4 (Va y c.a) (Va y c.b))&&decide (c.At.map BI.a).Nodup&&decide (c.At.map BI.b).Nodup
def xW{l:List Int}{k:Nat}(a:k<l.length)(h:l.Nodup):l[k]∉l.take k:=by
 intro b;rw[<-Lu (k+1) l,FC,D2 a,FC]at h;exact h.1.2.2 _ b _ (by simp) rfl
include hP
set_option maxHeartbeats 2000000 in
theorem Yfv{y:Ai}(hy:y.BF)(hf:∀s∈y.AE,s.AL.length<=1000000){c:Ar}(hc:c.At.length<=9223372036854775807){ob:AF}{K:V->Prop}(h:K (.d (.bool (Hu y c)))):AW P 127 [.d y.enc,.d c.enc] ob K:=by
 refine AJ hP AQ (ds:=[y.enc,c.enc]) Zce Y8u A4.nil ?_;have o:Hu y c=false->K (.d (.bool false)):=λe=>by rw[e]at h;exact h
 have yz:y.enc.shape.size=6:=by rw[Cb];rfl
 have yI:y.enc=.agg [Xg y.Aa,.AH 5 (y.Am.map A0.enc),.AH 6 (y.AE.map AO.enc),.AH 5 (y.AT.map Ao.enc),.AH 5 (y.AM.map Ar.enc),.AH 3 (y.AK.map Ae.enc)]:=rfl;have se:∀c:AO,c.enc=.agg [.AU c.name,.AU c.Eg,iD c.CF,iD c.BU,.AH 11 (c.AL.map Aj.enc),.AH 4 (c.Ac.map A2.enc)]:=λ_=>rfl;have fe:∀f:Aj,f.enc=.agg [.AU f.name,.agg [iD f.type.kind,iD f.type.lo,iD f.type.hi,.AU f.type.CB,iD f.type.unit,Xg f.type.names],.agg [iD f.w0,iD f.w1,iD f.w2,iD f.w3]]:=λ_=>rfl;by_cases b1:c.a=c.b
 ·simp[Yu4,Ar.enc,yz,b1];exact o (by simp[Hu,b1])
 have Z:(c.a==c.b)=false:=by simpa using b1
 simp[Yu4,Ar.enc,yz,Z];have yk:(V.d y.enc).Bc=some [.d (Xg y.Aa),.d (.AH 5 (y.Am.map A0.enc)),.d (.AH 6 (y.AE.map AO.enc)),.d (.AH 5 (y.AT.map Ao.enc)),.d (.AH 5 (y.AM.map Ar.enc)),.d (.AH 3 (y.AK.map Ae.enc))]:=rfl;refine⟨rfl,zR hP hy ?_⟩;cases X:Vk y c.a with
 |false=>
  simp;exact o (by simp[Hu,X])
 |true=>
  simp;refine⟨rfl,zR hP hy ?_⟩;cases pb:Vk y c.b with
  |false=>
   simp;exact o (by simp[Hu,pb])
  |true=>
   have hA:∃i:Nat,c.a=i/\∃L:i<y.AE.length,True:=by
    unfold Vk at X;simp only[BB,DK]at X;refine⟨c.a.toNat,by omega,?_⟩;have J:=X.2;split at J
    ·cases J
    next e=>exact⟨(Ek.1 e).1,trivial⟩
   have aa:∃i:Nat,c.b=i/\∃L:i<y.AE.length,True:=by
    unfold Vk at pb;simp only[BB,DK]at pb;refine⟨c.b.toNat,by omega,?_⟩;have J:=pb.2;split at J
    ·cases J
    next e=>exact⟨(Ek.1 e).1,trivial⟩
   obtain⟨i,ei,L,_⟩:=hA;obtain⟨j,ej,hj,_⟩:=aa;have si:=se y.AE[i];have sj:=se y.AE[j];have fA:Va y c.a=y.AE[i].AL:=by simp[Va,ei,DN L]
   have fB:Va y c.b=y.AE[j].AL:=by simp[Va,ej,DN hj]
   have hB:Hu y c=(decide ((c.At.length:Int)=y.AE[i].AL.length-1)&&decide ((c.At.length:Int)=y.AE[j].AL.length-1)&&
    c.At.all (H4 y.AE[i].AL y.AE[j].AL)&&decide (c.At.map BI.a).Nodup&&decide (c.At.map BI.b).Nodup):=by
    have:c.a≠c.b:=b1;simp[Hu,this,X,pb,fA,fB]
   rw[hB]at h o;have la:=hf _ (Ci L);have lb:=hf _ (Ci hj);have wa:IntKind.i64.wrap ((y.AE[i].AL.length:Int)-1)=(y.AE[i].AL.length:Int)-1:=w_i _ (by omega);have wb:IntKind.i64.wrap ((y.AE[j].AL.length:Int)-1)=(y.AE[j].AL.length:Int)-1:=w_i _ (by omega);simp[yk,ei,ej,L,hj,si,sj,wa,wb]
   try (refine⟨rfl,?_⟩)
   refine⟨λag=>o ?_,λna nb=>?_⟩
   ·rw[OG];intro ht;simp only[BB,DK]at ht;omega
   have ab:Hu y c=(c.At.all (H4 y.AE[i].AL y.AE[j].AL)&&decide (c.At.map BI.a).Nodup&&decide (c.At.map BI.b).Nodup):=by
    rw[hB,JZ na,JZ nb];simp
   rw[<-hB,ab]at h o;generalize ae:y.AE[i].AL=g at *;generalize af:y.AE[j].AL=l at *;have me:∀m:BI,m.enc=.agg [.AU m.B8,.AU m.Aw,iD m.b,iD m.a,iD m.shift]:=λ_=>rfl;refine⟨⟨by omega,by omega,EC c.At.length (λk=>[(5,.d (.AH 11 (g.map Aj.enc))),(6,.d (.AH 11 (l.map Aj.enc))),(7,.sl 2 g.length),(8,.sl 3 l.length),(67,.d (.AH 5 (c.At.map BI.enc))),(68,.d (.int .i64 c.At.length)),(69,.d (.int .i64 k))]) (λk=>[(3,.BG 4 1 (Jx l.length ((c.At.map BI.b).take k))),(2,.BG 4 1 (Jx g.length ((c.At.map BI.a).take k))),(1,.box 80 (.d (.agg [.AU c.Aw,.AU c.B8,iD i,iD j,.AH 5 (c.At.map BI.enc)]))),(0,.box 30 (.d y.enc))]) (λk=>(c.At.take k).all (H4 g l)=true/\((c.At.map BI.a).take k).Nodup/\((c.At.map BI.b).take k).Nodup) (by simp) (by simp) (by simp[yX]) ?a1 ?a2⟩,by omega,by omega,EC c.At.length (λk=>[(5,.d (.AH 11 (g.map Aj.enc))),(6,.d (.AH 11 (l.map Aj.enc))),(7,.sl 3 g.length),(8,.sl 2 l.length),(67,.d (.AH 5 (c.At.map BI.enc))),(68,.d (.int .i64 c.At.length)),(69,.d (.int .i64 k))]) (λk=>[(3,.BG 4 1 (Jx g.length ((c.At.map BI.a).take k))),(2,.BG 4 1 (Jx l.length ((c.At.map BI.b).take k))),(1,.box 80 (.d (.agg [.AU c.Aw,.AU c.B8,iD i,iD j,.AH 5 (c.At.map BI.enc)]))),(0,.box 30 (.d y.enc))]) (λk=>(c.At.take k).all (H4 g l)=true/\((c.At.map BI.a).take k).Nodup/\((c.At.map BI.b).take k).Nodup) (by simp) (by simp) (by simp[yX]) ?b1 ?b2⟩
   case a1|b1=>
    intro k t r R rn re F rp;have wr:=w_s k (by omega);have T:=W7 (p:=H4 g l) t;rw[r.1,EN]at T;have N:k<(c.At.map BI.a).length:=by simpa using t
    have O:k<(c.At.map BI.b).length:=by simpa using t
    have ta:=D2 N;have tb:=D2 O;have q:H4 g l c.At[k]=false->K (.d (.bool false)):=λe=>o (by
     have:c.At.all (H4 g l)=false:=List.all_eq_false.2 ⟨_,Ci t,by simp[e]⟩;rw[this];rfl)
    have u:c.At[k].a∈(c.At.map BI.a).take k->K (.d (.bool false)):=λe=>o (by
     have:¬(c.At.map BI.a).Nodup:=λhn=>xW N hn (by simpa using e);rw[Lw this];simp)
    have v:c.At[k].b∈(c.At.map BI.b).take k->K (.d (.bool false)):=λe=>o (by
     have:¬(c.At.map BI.b).Nodup:=λhn=>xW O hn (by simpa using e);rw[Lw this];simp)
    simp only[List.getElem_map]at ta tb;have W:=me c.At[k];generalize Q:c.At[k]=m at *;by_cases Y:m.a<1
    ·simp[J9,t,Q,W,Y];refine F _ _ ?_;simp;exact q (by simp[H4,show ¬1<=m.a by omega])
    by_cases d2:(g.length:Int)<=m.a
    ·simp[J9,t,Q,W,Y,d2];refine F _ _ ?_;simp;exact q (by simp[H4,show ¬m.a<g.length by omega])
    by_cases d3:m.b<1
    ·simp[J9,t,Q,W,Y,d2,d3];refine F _ _ ?_;simp;exact q (by simp[H4,show ¬1<=m.b by omega])
    by_cases d4:(l.length:Int)<=m.b
    ·simp[J9,t,Q,W,Y,d2,d3,d4];refine F _ _ ?_;simp;exact q (by simp[H4,show ¬m.b<l.length by omega])
    obtain⟨a,G⟩:∃a:Nat,m.a=a:=⟨m.a.toNat,by omega⟩
    obtain⟨b,H⟩:∃b:Nat,m.b=b:=⟨m.b.toNat,by omega⟩
    have ha:a<g.length:=by omega
    have hb:b<l.length:=by omega
    have sa:=yY g.length ((c.At.map BI.a).take k) a ha;have sb:=yY l.length ((c.At.map BI.b).take k) b hb;have xa:=fe g[a];have xb:=fe l[b];have e1:¬(a:Int)<1:=by omega
    have e2:¬(b:Int)<1:=by omega
    have e3:¬(g.length:Int)<=a:=by omega
    have e4:¬(l.length:Int)<=b:=by omega
    rw[G]at u;rw[H]at v;simp[J9,t,Q,W,G,H,e1,e2,e3,e4,ha,hb,Yhk,sa,sb,X8x,xa,xb,Xg];refine⟨λhh=>?_,λma mb=>?_⟩
    ·refine F _ _ ?_;simp;exact hh.elim u v
    ·refine Yvy hP (a:=g[a].type) (b:=l[b].type) (n:=m.shift) ?_;have eM:H4 g l m=NR g[a].type l[b].type m.shift:=by
      have u1:(1:Int)<=a:=by omega
      have u2:(1:Int)<=b:=by omega
      simp[H4,G,H,ha,hb,u1,u2]
     cases w:NR g[a].type l[b].type m.shift with
     |false=>
      simp;refine F _ _ ?_;simp;exact q (by rw[eM,w])
     |true=>
      simp;refine rn [] _ _ ⟨by rw[T,eM,w],?_,?_⟩ (by simp[wr]) ?_ (by simp[AD]) (by simp[AD])
      ·rw[ta,G,FC];refine⟨r.2.1,by simp,λx hx z U=>?_⟩;simp only[E3]at U;subst U;exact λe=>ma (e▸hx)
      ·rw[tb,H,FC];refine⟨r.2.2,by simp,λx hx z U=>?_⟩;simp only[E3]at U;subst U;exact λe=>mb (e▸hx)
      ·rw[ta,tb,G,H];simp[AD]
   case a2|b2=>
    intro r R re F rp;simp only[FV]at r;have ac:(c.At.map BI.a).take c.At.length=c.At.map BI.a:=M6 (by simp);have ad:(c.At.map BI.b).take c.At.length=c.At.map BI.b:=M6 (by simp);rw[ac,ad]at r;simp[J9];refine re _ _ _ ?_;simp;rw[r.1,JZ r.2.1,JZ r.2.2]at h;exact h
theorem Yfx{y:Ai}(g:y.BF)(o:∀s∈y.AE,s.AL.length<=1000000){q:AF}{K:V->Prop}(h:K (.d (iD (if y.AM.all (Hu y) then 0 else 150)))):AW P 45 [.d y.enc] q K:=by
 refine AJ hP AQ (ds:=[y.enc]) Zss Zpn A4.nil ?_;have z:y.enc=.agg [Xg y.Aa,.AH 5 (y.Am.map A0.enc),.AH 6 (y.AE.map AO.enc),.AH 5 (y.AT.map Ao.enc),.AH 5 (y.AM.map Ar.enc),.AH 3 (y.AK.map Ae.enc)]:=rfl;have w:y.enc.shape.size=6:=by rw[Cb];rfl
 have v:(V.d y.enc).Bc=some [.d (Xg y.Aa),.d (.AH 5 (y.Am.map A0.enc)),.d (.AH 6 (y.AE.map AO.enc)),.d (.AH 5 (y.AT.map Ao.enc)),.d (.AH 5 (y.AM.map Ar.enc)),.d (.AH 3 (y.AK.map Ae.enc))]:=rfl;have x:=g.AM;simp[Zne,v]
 try (refine⟨rfl,?_⟩)
 refine EC y.AM.length (λk=>[(1,.ptr 0 []),(6,.d (.AH 5 (y.AM.map Ar.enc))),(7,.d (.int .i64 y.AM.length)),(8,.d (.int .i64 k))])
  (λ_=>[(0,.box 30 (.d y.enc))]) (λk=>(y.AM.take k).all (Hu y)=true) (by simp) (by simp) (by simp) ?_ ?_
 ·intro k e b R r j l t;have u:=w_s k (by omega);have a:=W7 (p:=Hu y) e;rw[b,EN]at a;have n:∀c:Ar,c.enc.sz=5:=λc=>rfl;have f:∀c:Ar,c.enc.shape.size=5:=λc=>by rw[Cb];rfl
  have m:∀c:Ar,c.enc.shape=.node [.AR,.AR,.AR,.AR,.AR]:=λ_=>rfl;simp[tV,e,n,f,m,w];refine⟨rfl,rfl,rfl,rfl,Yfv hP g o (g.At _ (Ci e)) ?_⟩;cases i:Hu y y.AM[k]with
  |false=>
   simp;refine l _ _ ?_;simp;have:y.AM.all (Hu y)=false:=List.all_eq_false.2 ⟨_,Ci e,by simp[i]⟩;rw[this]at h;exact h
  |true=>
   simp;refine r [] _ _ (by rw[a,i]) (by simp[u]) (by simp[AD]) (by simp[AD]) (by simp[AD])
 ·intro b R j l t;rw[FV]at b;simp[tV];refine j _ _ _ ?_;simp;rw[b]at h;exact h
omit hP
abbrev Yp:D:=.agg [.agg [.Ad,.Ad,.Ad,.Ad,.Ad,.Ad],.Ad]
def Y7e(y:Ai):Int:=if y.AM.all (Hu y) then 0 else 150
def J5(y:Ai)(e:Int)(o:Option (List Int)):List Int:=[WW y,J6 y,QE y,P8 y e o,Y7e y]
def OP:List Int->Int
|[]=>0
|x::r=>if x=0 then OP r else x
def L1(y:Ai)(e:Int)(o:Option (List Int)):Int:=OP (J5 y e o)
def wO:∀(l:List Int)(k:Nat)(h:k<l.length),(∀x∈l.take k,x=0)->l[k]≠0->OP l=l[k]
|x::r,0,_,_,h=>by simp only[List.getElem_cons_zero]at h⊢;rw[OP,Aq h]
|x::r,k+1,b,a,h=>by
 have c:=a x (by simp);rw[OP,BS c];exact wO r k (by simpa using b) (λz d=>a z (by simp[d])) h
def wP:∀(l:List Int),(∀x∈l,x=0)->OP l=0
|[],_=>rfl
|x::r,h=>by rw[OP,BS (h x (by simp))];exact wP r (λz a=>h z (by simp[a]))
def TY:List Nat:=[41,42,43,44,45]
def X51:TY.all (Xd prog)=true:=by kernel_rfl
include hP
theorem gW{y:Ai}(n:y.BF)(U:y.DO){e:Int}{o:Option (List Int)}(O:Ge P y e o){g:AF}{K:V->Prop}(t:L1 y e o≠0->K (.BT [.d Yp,.d (iD (L1 y e o))]))(Z:L1 y e o=0->∀d,D.le d (Lc o)->K (.BT [.d (.agg [y.enc,d]),.d (iD 0)])):AW P 11 [.d y.enc] g K:=by
 refine AJ hP AQ (ds:=[y.enc]) Zr2 Zox A4.nil ?_;have H:y.enc.shape.size=6:=by rw[Cb];rfl
 have J:y.enc.sz=6:=rfl;have step:∀(k:Nat)(b:k<5)(g:AF)(K:V->Prop),K (.d (iD ((J5 y e o)[k]'b)))->AW P (TY[k]'b) [.d y.enc] g K:=λk b g K h=>by
  match k,b,h with
  |0,_,h=>exact X1d hP n U h
  |1,_,h=>exact zU hP n h
  |2,_,h=>exact Xoi hP n h
  |3,_,h=>exact X5u hP n O h
  |4,_,h=>exact Yfx hP n U.AL h
 have u:∀(k:Nat)(b:k<5),Xd P.p (TY[k]'b)=true:=λk b=>by
  rw[hP];exact Es.1 X51 _ (Ci b)
 simp[Zmr,H,J];have w1:IntKind.i64.wrap 1=1:=w_i _ (by omega);have w2:IntKind.i64.wrap 2=2:=w_i _ (by omega);have w3:IntKind.i64.wrap 3=3:=w_i _ (by omega);have w4:IntKind.i64.wrap 4=4:=w_i _ (by omega);have w5:IntKind.i64.wrap 5=5:=w_i _ (by omega);have l:(J5 y e o).length=5:=rfl;refine Au.go (ι:=Nat) (λk=>[(1,.ptr 0 []),(2,.ptr 1 []),(11,.d (.agg [.fn 41 [] [],.fn 42 [] [],.fn 43 [] [],.fn 44 [] [],.fn 45 [] []])),(12,.d (.int .i64 k))])
  (λ_=>[(2,.box 113 (.agg [.fn 41 [] [],.fn 42 [] [],.fn 43 [] [],.fn 44 [] [],.fn 45 [] []])),(1,.box 37 (.d Yp)),(0,.box 30 (.d y.enc))]) (λk=>k<=5/\∀x∈(J5 y e o).take k,x=0) (λk=>5-k) 0 ⟨E2 _,by simp⟩ (by simp) rfl ?_
 rintro k ⟨b,v⟩ R rn re rr rp;by_cases a:k<5
 ·have wr:=w_s k (by omega);have X:=step k a;have Q:=u k a;have W:∀z,z=(J5 y e o)[k]'a->z=0->∀x∈(J5 y e o).take (k+1),x=0:=λz c t x j=>by
   rw[D2 (by rw[l];exact a),DT,E3]at j;rcases j with j|j
   ·exact v x j
   ·exact(j.trans c.symm).trans t
  have L:∀z,z=(J5 y e o)[k]'a->z≠0->K (.BT [.d Yp,.d (.int .i64 z)]):=λz c m=>by
   have hf:=wO (J5 y e o) k a v (λh=>m (c.trans h));have:L1 y e o=z:=by rw[L1,hf,c]
   have:=t (by rw[this];exact m)
   rwa [show L1 y e o=z by assumption]at this
  have w:k=0\/k=1\/k=2\/k=3\/k=4:=by omega
  obtain⟨z,c⟩:∃z,z=(J5 y e o)[k]'a:=⟨_,rfl⟩
  have q:∀g K,K (.d (.int .i64 z))->AW P (TY[k]'a) [.d y.enc] g K:=λg K h=>X g K (by rw[<-c];exact h);have G:=W z c;have s:=L z c;clear X W L;rcases w with rfl|rfl|rfl|rfl|rfl
  all_goals
   simp[TY]at q Q;simp[tA,H,J,Q];refine⟨⟨rfl,rfl,rfl,rfl,rfl⟩,rfl,(q _ _ ?_).CS⟩;by_cases r:z=0
   ·simp[r,w1,w2,w3,w4,w5];exact rn [] _ _ _ ⟨by omega,G r⟩ (by omega) (by simp) (by simp[AD]) (by simp[AD]) (by simp[AD,AI,V.BQ,BY])
   ·simp[r];refine rr _ _ ?_;simpa using s r
 ·obtain rfl:k=5:=by omega
  have c:∀x∈J5 y e o,x=0:=v;have F:L1 y e o=0:=wP _ c;have i:P8 y e o=0:=c _ (by simp[J5]);have f:J3 y e o=0:=by
   unfold P8 at i;split at i
   ·assumption
   ·exact i
  have Y:e=0:=by
   unfold J3 at f;split at f
   ·split at f
    ·assumption
    ·exact f
   ·contradiction
  simp[tA];refine re _ _ _ ?_;simp[H,J];refine⟨rfl,O.call _ _ λd T=>?_⟩;have N:d.shape=.AR:=by
   have:=Qk T;cases o<;>exact this
  have yh:y.enc.shape=.node [.AR,.AR,.AR,.AR,.AR,.AR]:=rfl;have b:=Z F d T;simp[Y,N,yh,Dn,CA,Z7,D.shape,D.BM];exact⟨rfl,b⟩
omit hP
def Oi(l:List Int)(x:Int):List Int:=if x∈l then l else l++[x]
abbrev Gr:=List (Int×List Int)
def El(g:Gr)(h:Int):Option Nat:=g.findIdx? (λx=>decide (x.1=h))
def ER(c:Nat)(g:Gr):Nat->List (D×V)
|0=>[]
|k+1=>match g[k]? with
 |none=>ER c g k
 |some x=>ER c g k++[(.int .i64 x.1,.mp (c+2*k))]
def Dk(c:Nat)(g:Gr):Nat->AF
|0=>[]
|k+1=>match g[k]? with
 |none=>Dk c g k
 |some x=>(c+2*k,.map (Jd x.2))::Dk c g k
def Yts(l:List Int)(x:Int):EW (.int .i64 x) (V.d (.bool true)) (Jd l)=Jd (Oi l x):=by
 unfold Oi;by_cases h:x∈l
 ·rw[BS h];induction l with
  |nil=>cases h
  |cons y r a=>
   unfold Jd at a⊢;simp only[Cw,EW];by_cases e:x=y
   ·subst e;simp[DW]
   ·have b:x∈r:=by
     rcases EJ.1 h with h|h
     ·exact absurd h e
     ·exact h
    have c:DW (.int .i64 x) (.int .i64 y)=false:=by simp[DW,e]
    rw[c];simp[a b]
 ·rw[Aq h,Ue _ _ _ (by rw[SX,Aq h]),Jd,Jd,Ky];rfl
def QT(c:Nat)(g:Gr):∀(k j:Nat),j<c\/c+2*k<=j->AB (Dk c g k) j=none
|0,_,_=>rfl
|k+1,j,h=>by
 have a:=QT c g k j (by omega);rw[Dk];split
 ·exact a
 ·rw[AB,Aq (by omega),a]
def VT(c:Nat)(g:Gr):∀(k i:Nat)(h:i<g.length),i<k->AB (Dk c g k) (c+2*i)=some (.map (Jd g[i].2))
|0,_,_,h=>absurd h (by omega)
|k+1,i,a,h=>by
 rw[Dk];by_cases e:i=k
 ·subst e;rw[DN a];simp[AB]
 ·have b:=VT c g k i a (by omega);split
  ·exact b
  ·rw[AB,Aq (by omega),b]
def ug(c:Nat)(g:Gr)(v:List Int):∀(k i:Nat)(h:i<g.length),AG (Dk c g k) (c+2*i) (.map (Jd v))=Dk c (g.set i (g[i].1,v)) k
|0,_,_=>rfl
|k+1,i,a=>by
 have d:=ug c g v k i a;rw[Dk,Dk];by_cases e:i=k
 ·subst e;rw[DN a,List.getElem?_set_self a];simp only[AG,Bu];have f:∀(m:Nat),m<=i->Dk c (g.set i (g[i].1,v)) m=Dk c g m:=λm=>by
   induction m with
   |zero=>intro _;rfl
   |succ m b=>
    intro j;rw[Dk,Dk,List.getElem?_set_ne (by omega),b (by omega)]
  rw[f i (Bg _)]
 ·rw[List.getElem?_set_ne e];cases g[k]? with
  |none=>exact d
  |some x=>
   have:¬c+2*k=c+2*i:=by omega
   simp only[AG,Aq this,d]
def Xze(c:Nat)(g:Gr)(x:Int):∀k,k<=g.length->Y4 (.int .i64 x) (ER c g k)=(El (g.take k) x).map λi=>V.mp (c+2*i)
|0,_=>by simp[ER,Y4,El]
|k+1,d=>by
 have j:=Xze c g x k (by omega);have a:k<g.length:=d;rw[ER,DN a,D2 a];simp only;rw[cY,j];unfold El;rw[List.findIdx?_append];have f:(g.take k).length=k:=by simp;omega
 cases List.findIdx? (λy=>decide (y.1=x)) (g.take k) with
 |some i=>simp
 |none=>
  by_cases e:g[k].1=x
  ·simp[e,DW,f]
  ·have b:¬x=g[k].1:=λh=>e h.symm;simp[e,b,DW]
def VS(c:Nat)(g:Gr)(x:Int):∀k,V8 (.int .i64 0) (.int .i64 x) (ER c g k)
|0=>⟨rfl,λe a=>by cases a⟩
|k+1=>by
 have b:=VS c g x k;rw[ER];split
 ·exact b
 ·refine⟨b.1,λe a=>?_⟩;rw[DT]at a;rcases a with a|a
  ·exact b.2 e a
  ·simp only[E3]at a;subst a;rfl
def uJ(c:Nat)(g:Gr)(v:List Int)(i:Nat)(a:i<g.length):∀k,ER c (g.set i (g[i].1,v)) k=ER c g k
|0=>rfl
|k+1=>by
 have b:=uJ c g v i a k;rw[ER,ER,b];by_cases e:i=k
 ·subst e;rw[List.getElem?_set_self a,DN a]
 ·rw[List.getElem?_set_ne e]
def yN(c:Nat)(g:Gr):∀k,k<=g.length->AA (Dk c g k)=if k=0 then 0 else c+2*k-1
|0,_=>rfl
|k+1,b=>by
 have d:=yN c g k (by omega);have a:k<g.length:=b;rw[Dk,DN a];simp only[AA,d];split<;>simp<;>omega
def yO(p:Nat->Bool)(c:Nat)(g:Gr):∀k,AI p (Dk c g k)=true
|0=>rfl
|k+1=>by
 have a:=yO p c g k;rw[Dk];split
 ·exact a
 ·simp[AI,So,a]
include hP
theorem w6{n x:Int}{m:Nat}{a:AF}(f:m<AA a){K:BN->AF->Prop}(h:K (.ret (.d (.bool (decide (0<=x)&&decide (x<n))))) a):AX P 191 [.agg [.d (.int .i64 n),.mp m],.d (.int .i64 x)] a K:=by
 refine Xt hP AQ Zdx Y9z A4.nil λ_ b=>?_;simp[Y6c];have e:AD (AA a) [] (AA a)=true:=by simp[AD]
 have c:Xk (AD (AA a) []) ((AA a,Ob.box 238 (V.agg [V.d (D.int IntKind.i64 n),V.mp m]))::a)=a:=by
  rw[Xk,BS e,Xh (Bg _)]
 exact⟨[],by simp,by rw[c];exact b [],by rw[c];exact h⟩
omit hP
def Ij(l:List Int)(i j:Nat):List Int:=(l.set i (l.getD j 0)).set j (l.getD i 0)
def Ve{l:List Int}{i:Nat}(h:i<l.length):l.getD i 0=l[i]:=by simp[Gy,h]
def Wr(l:List Int)(i j:Nat):(Ij l i j).length=l.length:=by simp[Ij]
def dE{l:List Int}{i j:Nat}(a:i<l.length)(b:j<l.length):(Ij l i j).Perm l:=by
 unfold Ij;rw[Ve a,Ve b];exact List.set_set_perm a b
def Hl(l:List Int)(j:Nat):List Int:=
 if _h:j=0 then l else if l.getD j 0<l.getD ((j-1) / 2) 0 then Hl (Ij l ((j-1) / 2) j) ((j-1) / 2) else l
termination_by j
decreasing_by omega
def KG(l:List Int)(n i:Nat):Nat:=if 2*i+2<n/\l.getD (2*i+2) 0<l.getD (2*i+1) 0 then 2*i+2 else 2*i+1
def WR(l:List Int)(n i:Nat):i<KG l n i:=by unfold KG;split<;>omega
def gz{l:List Int}{n i:Nat}(h:2*i+1<n):KG l n i<n:=by unfold KG;split<;>omega
def Hz(l:List Int)(n i:Nat):List Int:=
 if _h:n<=2*i+1 then l else if l.getD (KG l n i) 0<l.getD i 0 then Hz (Ij l i (KG l n i)) n (KG l n i) else l
termination_by n-i
decreasing_by have:=WR l n i;have:=gz (l:=l) (n:=n) (i:=i) (by omega);omega
def Yt1(l:List Int)(j:Nat):(Hl l j).length=l.length:=by
 induction j using Nat.strongRecOn generalizing l with
 |ind j a=>
  rw[Hl];split
  ·rfl
  ·split
   ·rw[a _ (by omega),Wr]
   ·rfl
def Yif(l:List Int)(j:Nat)(a:j<l.length):(Hl l j).Perm l:=by
 induction j using Nat.strongRecOn generalizing l with
 |ind j b=>
  rw[Hl];split
  ·exact List.Perm.refl _
  ·split
   ·exact(b _ (by omega) _ (by rw[Wr];omega)).trans (dE (by omega) a)
   ·exact List.Perm.refl _
def X6l(l:List Int)(n:Nat):∀(k i:Nat),n-i<=k->(Hz l n i).length=l.length:=λk=>by
 induction k generalizing l with
 |zero=>intro i h;rw[Hz,dif_pos (by omega)]
 |succ k a=>
  intro i h;rw[Hz];split
  ·rfl
  ·split
   ·have:=WR l n i;rw[a _ _ (by omega),Wr]
   ·rfl
def X1s(l:List Int)(n:Nat)(a:n<=l.length):∀(k i:Nat),n-i<=k->(Hz l n i).Perm l:=λk=>by
 induction k generalizing l with
 |zero=>intro i h;rw[Hz,dif_pos (by omega)]
 |succ k b=>
  intro i h;rw[Hz];split
  ·exact List.Perm.refl _
  ·split
   ·have c:=WR l n i;have d:=gz (l:=l) (n:=n) (i:=i) (by omega);exact(b _ (by rw[Wr];exact a) _ (by omega)).trans (dE (by omega) (by omega))
   ·exact List.Perm.refl _
def H7(l:List Int)(x:Int):List Int:=Hl (l++[x]) l.length
def KP(l:List Int):List Int:=Hz (Ij l 0 (l.length-1)) (l.length-1) 0
def FL(l:List Int):Int:=(KP l).getD (l.length-1) 0
def Gj(l:List Int):List Int:=(KP l).take (l.length-1)
def Qb(l:List Int)(x:Int):(H7 l x).Perm (x::l):=(Yif _ _ (by simp)).trans (List.perm_append_singleton x l)
def dc(l:List Int)(x:Int):(H7 l x).length=l.length+1:=by rw[H7,Yt1];simp
def VF(l:List Int):(KP l).length=l.length:=by rw[KP,X6l _ _ _ _ (Bg _),Wr]
def Yhv(l:List Int):(Gj l).length=l.length-1:=by rw[Gj,Fm,VF];omega
def Yhw{l:List Int}(h:l≠[]):(FL l::Gj l).Perm l:=by
 have g:0<l.length:=List.length_pos_iff.2 h;have d:(KP l).Perm l:=(X1s _ _ (by rw[Wr];omega) _ _ (Bg _)).trans (dE (by omega) (by omega));have f:KP l=Gj l++[FL l]:=by
  have b:l.length-1<(KP l).length:=by rw[VF];omega
  have e:=D2 b;have c:(KP l).take (l.length-1+1)=KP l:=M6 (by rw[VF];omega);rw[c]at e;rw[Gj,FL,Ve b];exact e
 have a:(FL l::Gj l).Perm (Gj l++[FL l]):=(List.perm_append_singleton _ _).symm;rw[<-f]at a;exact a.trans d
section
variable (need:Int->List Int) (n:Nat)
def Di(k:Nat)(x:Int):List Int:=((List.range k).filter λ(h:Nat)=>decide (x∈need (h:Int))).map λ(h:Nat)=>(h:Int)
def PA:List Int:=(List.range n).map λ(x:Nat)=>((need (x:Int)).length:Int)
def qK(k:Nat):List Int:=(List.range k).foldl (λq (x:Nat)=>if (need (x:Int)).length=0 then H7 q (x:Int) else q) []
end
abbrev OB:=List Int×List Int×List Int
def JA(a:List Int×List Int)(u:Int):List Int×List Int:=(a.1.set u.toNat (a.1.getD u.toNat 0-1),if a.1.getD u.toNat 0-1=0 then H7 a.2 u else a.2)
def TM(b:Int->List Int)(a:OB):OB:=
 (((b (FL a.2.1)).foldl JA (a.1,Gj a.2.1)).1,((b (FL a.2.1)).foldl JA (a.1,Gj a.2.1)).2,a.2.2++[FL a.2.1])
def OQ(b:Int->List Int):Nat->OB->List Int
|0,a=>a.2.2
|k+1,a=>if a.2.1=[] then a.2.2 else OQ b k (TM b a)
def Le(a:Int->List Int)(n:Nat):OB:=(PA a n,qK a n,[])
def Ze(a:Int->List Int)(n:Nat):List Int:=OQ (Di a n) (n+1) (Le a n)
def LB(l a:List Int):Nat:=(l.filter λy=>decide (y∉a)).length
structure Gt(need:Int->List Int)(n:Nat)(Mq:List Int)(op q Ck:List Int):Prop where
 len:op.length=n
 nd:(Ck++q).Nodup
 rg:∀v∈Ck++q,0<=v/\v<n
 Th:∀v:Nat,v<n->op.getD v 0=LB (need v) Ck+(if (v:Int)∈Mq then 1 else 0)
 YO:∀v:Nat,v<n->(op.getD v 0=0↔(v:Int)∈Ck++q)
 PF:∀i (h:i<Ck.length),∀x∈need Ck[i],x∈Ck.take i
section
variable {need:Int->List Int} {n:Nat}
def nE{k:Nat}{x u:Int}:u∈Di need k x↔∃h:Nat,h<k/\x∈need h/\u=h:=by
 simp only[Di,DY,List.mem_filter,OF,DK];constructor
 ·rintro⟨h,⟨a,b⟩,rfl⟩;exact⟨h,a,b,rfl⟩
 ·rintro⟨h,a,b,rfl⟩;exact⟨h,⟨a,b⟩,rfl⟩
def sJ(k:Nat)(x:Int):(Di need k x).Nodup:=by
 unfold Di;rw[List.Nodup,List.pairwise_map];exact(List.Pairwise.filter _ List.nodup_range).imp λh e=>h (by omega)
def Yg9{l b:List Int}{x:Int}(g:l.Nodup)(i:x∉b):LB l b=LB l (b++[x])+(if x∈l then 1 else 0):=by
 induction l with
 |nil=>simp[LB]
 |cons y r a=>
  have f:=(List.nodup_cons.1 g)
  have a:=a f.2;unfold LB at a⊢;by_cases e:y=x
  ·subst e;rw[Aq f.1]at a;simp[i]at a⊢;exact a
  ·have c:¬x=y:=λh=>e h.symm;by_cases d:y∈b
   ·simp[d,c]at a⊢;exact a
   ·simp[d,e,c]at a⊢;omega
def Yde{c d q b:List Int}{u:Int}(k:0<=u)(z:u<n)(y:u∉c)(h:Gt need n (u::c) d q b):Gt need n c (JA (d,q) u).1 (JA (d,q) u).2 b:=by
 obtain⟨m,rfl⟩:=Int.eq_ofNat_of_zero_le k;have o:m<n:=by omega
 have t:=h.Th m o;simp only[EJ,true_or,Bu]at t;have p:(m:Int)∉b++q:=λf=>by
  have:=(h.YO m o).2 f;omega
 have l:∀v:Nat,v<n->(d.set m (d.getD m 0-1)).getD v 0=if v=m then d.getD m 0-1 else d.getD v 0:=λv a=>by
  have w:=h.len;by_cases e:v=m
  ·subst e;simp[Gy,w,a]
  ·have r:¬m=v:=λh=>e h.symm;simp[Gy,e,r]
 have j:((m:Int)).toNat=m:=rfl;simp only[JA,j];refine⟨by simpa using h.len,?_,?_,λv a=>?_,λv a=>?_,h.PF⟩
 ·split
  ·have x:=(Qb q m).append_left b;rw[x.nodup_iff];have s:(b++(m:Int)::q).Perm ((m:Int)::(b++q)):=List.perm_middle;rw[s.nodup_iff,List.nodup_cons];exact⟨p,h.nd⟩
  ·exact h.nd
 ·intro v a;split at a
  ·rw[DT,(Qb q m).mem_iff,EJ]at a;rcases a with a|rfl|a
   ·exact h.rg v (List.mem_append_left _ a)
   ·omega
   ·exact h.rg v (List.mem_append_right _ a)
  ·exact h.rg v a
 ·rw[l v a];by_cases e:v=m
  ·subst e;rw[BS rfl,Aq y];omega
  ·rw[Aq e];have:=h.Th v a;have i:¬(v:Int)=m:=by omega
   simpa[i]using this
 ·rw[l v a];by_cases e:v=m
  ·subst e;rw[BS rfl];by_cases g:d.getD v 0-1=0
   ·rw[BS g];simp only[g,true_iff];rw[DT,(Qb q v).mem_iff];simp
   ·rw[Aq g];exact⟨λf=>absurd f g,λf=>absurd f p⟩
  ·rw[Aq e,h.YO v a];have i:¬(v:Int)=m:=by omega
   split
   ·rw[DT,DT,(Qb q m).mem_iff,EJ];simp[i]
   ·exact Iff.rfl
def sH:∀{a d q b:List Int},(∀u∈a,0<=u/\u<n)->a.Nodup->Gt need n a d q b->Gt need n [] (a.foldl JA (d,q)).1 (a.foldl JA (d,q)).2 b
|[],_,_,_,_,_,h=>h
|u::r,d,q,b,e,g,h=>by
 have c:=List.nodup_cons.1 g;have f:=e u (by simp);rw[List.foldl_cons];exact sH (λv i=>e v (by simp[i])) c.2 (Yde f.1 f.2 c.1 h)
def Yl4(G:∀h:Int,(need h).Nodup){w q a:List Int}(J:q≠[])(h:Gt need n [] w q a):Gt need n (Di need n (FL q)) w (Gj q) (a++[FL q])/\0<=FL q/\FL q<n:=by
 have H:=Yhw J;have c:((a++[FL q])++Gj q).Perm (a++q):=by
  rw[JX];exact H.append_left a
 have u:FL q∈a++q:=c.mem_iff.1 (by simp);have r:FL q∉a:=λp=>by
  have:=c.nodup_iff.2 h.nd;rw[JX,FC]at this;exact this.2.2 _ p _ (by simp) rfl
 have t:=h.rg _ u;refine⟨⟨h.len,c.nodup_iff.2 h.nd,λv f=>h.rg v (c.mem_iff.1 f),λv f=>?_,λv f=>?_,λi F x b=>?_⟩,t⟩
 ·have l:=h.Th v f;have g:=Yg9 (G v) r;have o:(v:Int)∈Di need n (FL q)↔FL q∈need v:=by
   rw[nE];constructor
   ·rintro⟨k,d,z,K⟩;obtain rfl:v=k:=by omega
    exact z
   ·exact λd=>⟨v,f,d,rfl⟩
  simp only[List.not_mem_nil,Bs]at l;by_cases d:FL q∈need v
  ·rw[BS d]at g;rw[BS (o.2 d)];omega
  ·rw[Aq d]at g;rw[Aq (λp=>d (o.1 p))];omega
 ·rw[h.YO v f,c.mem_iff]
 ·by_cases e:i<a.length
  ·rw[List.getElem_append_left e]at b;rw[List.take_append_of_le_length (by omega)];exact h.PF i e x b
  ·have y:i=a.length:=by simp at F;omega
   subst y;rw[List.getElem_append_right (by omega)]at b;simp only[Nat.sub_self,List.getElem_cons_zero]at b;rw[List.take_left];obtain⟨m,s⟩:=Int.eq_ofNat_of_zero_le t.1;have j:m<n:=by omega
   have l:=h.Th m j;rw[(h.YO m j).2 (by rw[<-s];exact u)]at l;simp only[List.not_mem_nil,Bs]at l;have g:LB (need m) a=0:=by omega
   rw[LB,Pb,List.filter_eq_nil_iff]at g;rw[s]at b;have o:=g x b;simpa using o
def Ytf(b:∀h:Int,(need h).Nodup){a:OB}(c:a.2.1≠[])(h:Gt need n [] a.1 a.2.1 a.2.2):Gt need n [] (TM (Di need n) a).1 (TM (Di need n) a).2.1 (TM (Di need n) a).2.2:=by
 refine sH (λu d=>?_) (sJ _ _) (Yl4 b c h).1;obtain⟨k,e,_,rfl⟩:=nE.1 d;omega
def Gt.IK{b e q a:List Int}(h:Gt need n b e q a):(a++q).length<=n:=by
 have c:(a++q) ⊆ (List.range n).map λ(x:Nat)=>(x:Int):=λv d=>by
  have:=h.rg v d;rw[DY];exact⟨v.toNat,by rw[OF];omega,by omega⟩
 have:=List.Nodup.length_le_of_subset h.nd c;simpa using this
def Y37(k:Nat):(qK need k).Nodup/\∀v:Int,v∈qK need k↔∃x:Nat,x<k/\v=x/\(need x).length=0:=by
 induction k with
 |zero=>simp[qK]
 |succ k c=>
  have e:qK need (k+1)=if (need (k:Int)).length=0 then H7 (qK need k) (k:Int) else qK need k:=by
   simp[qK,List.range_succ]
  rw[e];by_cases h:(need (k:Int)).length=0
  ·rw[BS h];have f:=Qb (qK need k) k;refine⟨?_,λv=>?_⟩
   ·rw[f.nodup_iff,List.nodup_cons];refine⟨λg=>?_,c.1⟩;obtain⟨x,d,a,_⟩:=(c.2 _).1 g;omega
   ·rw[f.mem_iff,EJ,c.2];constructor
    ·rintro (rfl|⟨x,d,a,b⟩)
     ·exact⟨k,by omega,rfl,h⟩
     ·exact⟨x,by omega,a,b⟩
    ·rintro⟨x,d,a,b⟩;by_cases e:x=k
     ·subst e;exact .inl a
     ·exact .inr ⟨x,by omega,a,b⟩
  ·rw[Aq h];refine⟨c.1,λv=>?_⟩;rw[c.2];constructor
   ·rintro⟨x,d,a,b⟩;exact⟨x,by omega,a,b⟩
   ·rintro⟨x,d,a,b⟩;have:x≠k:=λe=>h (by rw[<-e];exact b);exact⟨x,by omega,a,b⟩
def Zf4:Gt need n [] (Le need n).1 (Le need n).2.1 (Le need n).2.2:=by
 have b:=Y37 (need:=need) n;have c:∀v:Nat,v<n->(PA need n).getD v 0=((need v).length:Int):=λv a=>by simp[PA,Gy,a]
 refine⟨by simp[Le,PA],by simpa[Le]using b.1,λv a=>?_,λv a=>?_,λv a=>?_,λi h=>?_⟩
 ·simp only[Le,List.nil_append]at a;obtain⟨x,d,rfl,_⟩:=(b.2 v).1 a;omega
 ·simp only[Le,List.not_mem_nil,Bs];have e:LB (need v) []=(need v).length:=by
   unfold LB;rw[List.filter_eq_self.2 (by simp)]
  rw[c v a,e];simp
 ·simp only[Le,List.nil_append];rw[c v a,b.2];constructor
  ·exact λh=>⟨v,a,rfl,by omega⟩
  ·rintro⟨x,d,f,g⟩;obtain rfl:v=x:=by omega
   omega
 ·simp[Le]at h
def yH(b:∀h:Int,(need h).Nodup):∀(k:Nat)(a:OB),Gt need n [] a.1 a.2.1 a.2.2->∃d q,Gt need n [] d q (OQ (Di need n) k a)
|0,a,h=>⟨_,_,h⟩
|k+1,a,h=>by
 rw[OQ];split
 ·exact⟨_,_,h⟩
 next c=>exact yH b k _ (Ytf b c h)
def Yb3(b:∀h:Int,(need h).Nodup):(Ze need n).Nodup/\(∀v∈Ze need n,0<=v/\v<n)/\(Ze need n).length<=n/\∀i (h:i<(Ze need n).length),∀x∈need (Ze need n)[i],x∈(Ze need n).take i:=by
 obtain⟨d,q,h⟩:=yH (n:=n) b (n+1) _ Zf4;have a:=h.IK;rw[C7]at a;refine⟨?_,λv c=>h.rg v (List.mem_append_left _ c),?_,h.PF⟩
 ·exact(FC.1 h.nd).1
 ·exact IQ (Nat.le_add_right _ _) a
end
section
variable {P:BA} {sl:Xe} {ob:AF} {KO Pn:V->AF->Prop} {x y:A} {K:V->Prop}
@[simp]def iwp_isn(e m:Bool):I.wp P sl ob KO Pn (.Ip e m x)=IX ob e (λv=>KO v ob) m (x.ev sl):=by simp only[I.wp]
@[simp]def isnK_mp(e:Bool)(id:Nat):IX ob e K true (.mp id)=RR e K (AB ob id):=by simp only[IX]
@[simp]def isnK_nm(e:Bool):IX ob e K true (.d .CV)=K (.d (.bool e)):=by simp only[IX]
@[simp]def isnM_s(e:Bool)(a:List (D×V)):RR e K (some (.map a))=K (.d (.bool !e)):=by simp only[RR]
end
def F4(g:Gr)(h:Int):Gr:=match El g h with
|none=>g++[(h,[])]
|some _=>g
def KC(g:Gr)(h x:Int):Gr:=match El g h with
|none=>g
|some i=>g.set i ((g.getD i (0,[])).1,Oi (g.getD i (0,[])).2 x)
def IV(n h:Int):Gr->List Av->Option Gr
|g,[]=>some g
|g,f::r=>if 0<=f.Ag/\f.Ag<n then IV n h (KC g h f.Ag) r else none
def KR(n:Int):Gr->List Ao->Option Gr
|g,[]=>some g
|g,r::s=>if 0<=r.Ag/\r.Ag<n then (match IV n r.Ag (F4 g r.Ag) r.Ah with
 |none=>none
 |some a=>KR n a s) else none
def MI(y:Ai):Option Gr:=KR y.AE.length [] y.AT
def V5{g:Gr}{h:Int}{i:Nat}(e:El g h=some i):∃(a:i<g.length),g[i].1=h:=by
 unfold El at e;rw[List.findIdx?_eq_some_iff_getElem]at e;obtain⟨a,b,_⟩:=e;exact⟨a,by simpa using b⟩
def Yfg(g:Gr)(h:Int):∃i,El (F4 g h) h=some i:=by
 unfold F4;cases e:El g h with
 |some i=>exact⟨i,e⟩
 |none=>
  refine⟨g.length,?_⟩;simp only;unfold El at e⊢;rw[List.findIdx?_append,e];simp
def Ygy{g:Gr}{h:Int}{i:Nat}(a:i<g.length)(v:List Int):El (g.set i (g[i].1,v)) h=El g h:=by
 unfold El;induction g generalizing i with
 |nil=>simp at a
 |cons x r b=>
  cases i with
  |zero=>simp[List.findIdx?_cons]
  |succ i=>
   have:=b (i:=i) (by simpa using a);simp only[List.set_cons_succ,List.getElem_cons_succ,List.findIdx?_cons];rw[this]
def tt{g:Gr}{h x:Int}{i:Nat}(e:El g h=some i)(a:i<g.length):KC g h x=g.set i (g[i].1,Oi g[i].2 x):=by
 unfold KC;rw[e];simp[Gy,a]
def Yff{g:Gr}{h x:Int}{i:Nat}(e:El g h=some i):El (KC g h x) h=some i:=by
 obtain⟨a,_⟩:=V5 e;rw[tt e a,Ygy a,e]
def eA(g:Gr)(h x:Int):(KC g h x).length=g.length:=by
 unfold KC;split<;>simp
def Ib(n:Int)(y:Ai)(g:Gr):AF:=[(3,.map (ER 5 g g.length)),(2,.box 238 (.agg [.d (iD n),.mp 3])),(1,.box 30 (.d y.enc)),(0,.box 30 (.d y.enc))]
def gA(n:Int)(y:Ai)(g:Gr):AF:=Dk 5 g g.length++Ib n y g
def Vh{j:Nat}:∀{a b:AF},AB a j=none->AB (a++b) j=AB b j
|[],_,_=>rfl
|(i,x)::r,b,h=>by
 rw[AB]at h;rw[List.cons_append,AB];split at h
 ·cases h
 next e=>rw[Aq e];exact Vh h
def V9{j:Nat}{o:Ob}:∀{a b:AF},AB a j=some o->AB (a++b) j=some o
|[],_,h=>by cases h
|(i,x)::r,b,h=>by
 rw[AB]at h;rw[List.cons_append,AB];split at h
 next e=>rw[BS e];exact h
 next e=>rw[Aq e];exact V9 h
def OR{j:Nat}{o:Ob}:∀{a b:AF},AB a j=none->AG (a++b) j o=a++AG b j o
|[],_,_=>rfl
|(i,x)::r,b,h=>by
 rw[AB]at h;rw[List.cons_append,AG];split at h
 ·cases h
 next e=>rw[Aq e,OR h,List.cons_append]
def S4{j:Nat}{o x:Ob}:∀{a b:AF},AB a j=some x->AG (a++b) j o=AG a j o++b
|[],_,h=>by cases h
|(i,x)::r,b,h=>by
 rw[AB]at h;rw[List.cons_append,AG,AG];split at h
 next e=>rw[BS e,BS e,List.cons_append]
 next e=>rw[Aq e,Aq e,S4 h,List.cons_append]
section
variable {n:Int} {y:Ai} {g:Gr}
def Ywt{j:Nat}(h:j<5):AB (gA n y g) j=AB (Ib n y g) j:=Vh (QT 5 g _ j (.inl h))
def Zf3:AB (gA n y g) 3=some (.map (ER 5 g g.length)):=by rw[Ywt (by omega)];simp[Ib]
def Zf2:AB (gA n y g) 2=some (.box 238 (.agg [.d (iD n),.mp 3])):=by rw[Ywt (by omega)];simp[Ib]
def Yws{i:Nat}(h:i<g.length):AB (gA n y g) (5+2*i)=some (.map (Jd g[i].2)):=V9 (VT 5 g _ i h h)
def dp:AA (gA n y g)=4+2*g.length:=by
 have c:∀(a b:AF),AA (a++b)=max (AA a) (AA b):=λa b=>by
  induction a with
  |nil=>simp[AA]
  |cons x r d=>
   obtain⟨i,o⟩:=x;rw[List.cons_append,Ys,Ys,d];split<;>split<;>omega
 rw[gA,c,yN 5 g _ (Bg _)];have:AA (Ib n y g)=4:=by simp[Ib]
 rw[this];split<;>omega
def dq{p:Nat->Bool}(f:p 3=false)(j:∀i,i<g.length->p (5+2*i)=false):AI p (gA n y g)=true:=by
 have d:∀(a b:AF),AI p (a++b)=(AI p a&&AI p b):=Wz p;have h:∀k,k<=g.length->Zd p (ER 5 g k)=false:=λk=>by
  induction k with
  |zero=>intro _;rfl
  |succ k l=>
   intro m;rw[ER,DN (by omega)];have e:∀(a b:List (D×V)),Zd p (a++b)=(Zd p a||Zd p b):=λa b=>by
    induction a with
    |nil=>simp[Zd]
    |cons x r c=>obtain⟨q,v⟩:=x;simp[Zd,c,Bool.or_assoc]
   simp only;rw[e,l (by omega)];simp[Zd,V.BQ,j k (by omega)]
 rw[gA,d,yO];simp[Ib,AI,h _ (Bg _),V.BQ,BY,f]
def WK(x:Int):Y4 (.int .i64 x) (ER 5 g g.length)=(El g x).map λi=>V.mp (5+2*i):=by
 have:=Xze 5 g x g.length (Bg _)
 rwa [FV]at this
def uI(c:Nat)(g l:Gr):∀k,k<=g.length->ER c (g++l) k=ER c g k
|0,_=>rfl
|k+1,h=>by
 rw[ER,ER,uI c g l k (by omega),Rx (by omega)]
def uf(c:Nat)(g l:Gr):∀k,k<=g.length->Dk c (g++l) k=Dk c g k
|0,_=>rfl
|k+1,h=>by
 rw[Dk,Dk,uf c g l k (by omega),Rx (by omega)]
def Ywu{h:Int}(e:El g h=none):AG (gA n y g) 3 (.map (EW (.int .i64 h) (V.mp (5+2*g.length)) (ER 5 g g.length)))=Dk 5 g g.length++Ib n y (F4 g h):=by
 have a:F4 g h=g++[(h,[])]:=by unfold F4;rw[e]
 have b:EW (.int .i64 h) (V.mp (5+2*g.length)) (ER 5 g g.length)=ER 5 (F4 g h) (F4 g h).length:=by
  rw[Ue _ _ _ (by rw[WK,e];rfl),a,C7,List.length_singleton,ER,uI 5 g _ _ (Bg _),Rw (Bg _)];simp
 rw[gA,OR (QT 5 g _ 3 (.inl (by omega))),b];rfl
def Yqf{h:Int}(e:El g h=none):(5+2*g.length,Ob.map [])::(Dk 5 g g.length++Ib n y (F4 g h))=gA n y (F4 g h):=by
 have a:F4 g h=g++[(h,[])]:=by unfold F4;rw[e]
 rw[gA];have:Dk 5 (F4 g h) (F4 g h).length=(5+2*g.length,Ob.map [])::Dk 5 g g.length:=by
  rw[a,C7,List.length_singleton,Dk,uf 5 g _ _ (Bg _),Rw (Bg _)];simp[Jd]
 rw[this,List.cons_append]
def Ywr{h x:Int}{i:Nat}(e:El g h=some i)(a:i<g.length):AG (gA n y g) (5+2*i) (.map (EW (.int .i64 x) (V.d (.bool true)) (Jd g[i].2)))=gA n y (KC g h x):=by
 rw[tt e a,Yts,gA,S4 (VT 5 g _ i a a),ug 5 g _ _ i a,gA,List.length_set];congr 1;unfold Ib;rw[List.length_set,uJ 5 g _ i a]
def wR{p:Nat->Bool}{c:Nat}:∀k,(∀i,i<k->p (c+2*i)=true)->Xk p (Dk c g k)=[]
|0,_=>rfl
|k+1,h=>by
 have a:=wR k (λi b=>h i (by omega));rw[Dk];split
 ·exact a
 ·rw[Xk,BS (h k (by omega)),a]
def cx{p:Nat->Bool}{c:Nat}:∀k,(∀i,i<k->p (c+2*i)=false)->Xk p (Dk c g k)=Dk c g k
|0,_=>rfl
|k+1,h=>by
 have a:=cx k (λi b=>h i (by omega));rw[Dk];split
 ·exact a
 ·rw[Xk,h k (by omega),a];simp
def gO(o:Ob):AG (gA n y g) 2 o=Dk 5 g g.length++[(3,.map (ER 5 g g.length)),(2,o),(1,.box 30 (.d y.enc)),(0,.box 30 (.d y.enc))]:=by
 rw[gA,OR (QT 5 g _ 2 (.inl (by omega)))];simp[Ib,AG]
def Jp(o:Ob):AB (AG (gA n y g) 2 o) 2=some o:=by
 rw[gO,Vh (QT 5 g _ 2 (.inl (by omega)))];simp[AB]
def Un(o:Ob):Xk (AD 1 []) (AG (gA n y g) 2 o)=[(0,.box 30 (.d y.enc))]:=by
 rw[gO,W9,wR _ (λi _=>by simp[AD];omega)];simp[Xk,AD]
def Yjc(o:Ob):Xk (AD 1 (3::(List.range g.length).map λi=>5+2*i)) (AG (gA n y g) 2 o)=Dk 5 g g.length++[(3,.map (ER 5 g g.length)),(0,.box 30 (.d y.enc))]:=by
 rw[gO,W9,cx]
 ·simp[Xk,AD];rw[BS (λx _=>by omega),BS (λx _=>by omega)]
 ·intro i a;simp[AD];exact λ_ _=>⟨i,a,rfl⟩
def Yqe{p:Nat->Bool}(h:∀i,i<g.length->p (5+2*i)=false)(a:∀j,j<4->p j=false):Xk p (gA n y g)=gA n y g:=by
 rw[gA,W9,cx _ h];simp[Ib,Xk,a]
end
include hP
theorem Yvv{y:Ai}(hy:y.BF)(hw:y.DO){K:BN->AF->Prop}(h0:MI y=none->K (.ret (.BT [.d (.agg [iD 0,.CV]),.d (iD 140)])) [(0,.box 30 (.d y.enc))])
 (h1:∀g,MI y=some g->K (.ret (.BT [.agg [.d (iD y.AE.length),.mp 3],.d (iD 0)])) (Dk 5 g g.length++[(3,.map (ER 5 g g.length)),(0,.box 30 (.d y.enc))])):
 AX P 128 [.d y.enc] [(0,.box 30 (.d y.enc))] K:=by
 refine Xt hP AQ Zcf Y8v A4.nil λ_ aj=>?_;have yk:(V.d y.enc).Bc=some [.d (Xg y.Aa),.d (.AH 5 (y.Am.map A0.enc)),.d (.AH 6 (y.AE.map AO.enc)),.d (.AH 5 (y.AT.map Ao.enc)),.d (.AH 5 (y.AM.map Ar.enc)),.d (.AH 3 (y.AK.map Ae.enc))]:=rfl;have gm:CA [V.mp 3]=none:=rfl;have gs:(V.agg [V.d (D.int IntKind.i64 (y.AE.length:Int)),V.mp 3]).shape=Sh.node [Sh.AR,Sh.AR]:=rfl;simp[Y5k,yk,gm,gs,Dn,Z7];refine Au.go (ι:=Nat×Gr) (λs=>[(2,.ptr 2 []),(14,.d (.AH 5 (y.AT.map Ao.enc))),(15,.d (.int .i64 y.AT.length)),(16,.d (.int .i64 s.1))]) (λs=>gA y.AE.length y s.2) (λs=>s.1<=y.AT.length/\KR y.AE.length s.2 (y.AT.drop s.1)=MI y) (λs=>y.AT.length-s.1) (0,[]) ⟨E2 _,rfl⟩ (by simp) ?_ ?_
 ·rfl
 rintro⟨k,g⟩ ⟨hk,N⟩ R rn re rr rp;simp only at hk N rn;obtain⟨f,hf⟩:∃f,f=4+2*g.length:=⟨_,rfl⟩
 have fg:AA (gA y.AE.length y g)=f:=by rw[dp,hf]
 have Y:=Zf2 (n:=y.AE.length) (y:=y) (g:=g);have l3:=Zf3 (n:=y.AE.length) (y:=y) (g:=g);have r:¬f=2:=by omega
 have Q:¬f=3:=by omega
 rw[fg]at rn;by_cases z:k<y.AT.length
 ·have wr:IntKind.i64.wrap ((k:Int)+1)=(k:Int)+1:=w_i _ (by have:=hw.AT;omega);rw[D5 z]at N;have fr:AA ((f,Ob.box 77 (V.d y.AT[k].enc))::gA y.AE.length y g)=f+1:=by rw[Ys,fg,BS (Bg _)]
  have rk:(V.d y.AT[k].enc).Bc=some [.d (.AU y.AT[k].head),.d (iD y.AT[k].Ag),.d (.AH 8 (y.AT[k].Ah.map Av.enc)),.d (.AH 11 (y.AT[k].Ap.map BP.enc)),.d (.AH 7 (y.AT[k].BJ.map Bo.enc))]:=rfl;have rs:y.AT[k].enc.shape=.node [.AR,.AR,.AR,.AR,.AR]:=rfl;have rz:y.AT[k].enc.sz=5:=rfl;simp[zN,z,fg,Y,l3,r,Q,rk,rs,rz,fr];obtain⟨o,c⟩:∃o,o=F4 g y.AT[k].Ag:=⟨_,rfl⟩
  have m:0<=y.AT[k].Ag/\y.AT[k].Ag<y.AE.length->∀t ex,Wk t ((f,Ob.box 77 (V.d y.AT[k].enc))::gA y.AE.length y o)->AB t f=some (Ob.box 77 (V.d y.AT[k].enc))->
   Zb P [] VX (Zs 1 (Wh (Zb P [] VW R) R)) ((2,V.ptr 2 [])::(5,V.ptr f [])::(14,V.d (D.AH 5 (List.map Ao.enc y.AT)))::(15,V.d (D.int IntKind.i64 y.AT.length))::(16,V.d (D.int IntKind.i64 k))::ex) t:=λa t ex ad aa=>by
   simp[Yen,aa,rk];refine Au.pre ad ?_;refine Au.go (ι:=Nat×Gr) (λs=>[(2,.ptr 2 []),(5,.ptr f []),(14,.d (.AH 5 (y.AT.map Ao.enc))),(15,.d (.int .i64 y.AT.length)),(16,.d (.int .i64 k)),(38,.d (.AH 8 (y.AT[k].Ah.map Av.enc))),(39,.d (.int .i64 y.AT[k].Ah.length)),(40,.d (.int .i64 s.1))]) (λs=>(f,Ob.box 77 (V.d y.AT[k].enc))::gA y.AE.length y s.2)
    (λs=>s.1<=y.AT[k].Ah.length/\IV y.AE.length y.AT[k].Ag s.2 (y.AT[k].Ah.drop s.1)=IV y.AE.length y.AT[k].Ag o y.AT[k].Ah/\s.2.length=o.length/\∃i,El s.2 y.AT[k].Ag=some i) (λs=>y.AT[k].Ah.length-s.1) (0,o) ⟨E2 _,rfl,rfl,by rw[c];exact Yfg _ _⟩ (by simp) rfl ?_
   rintro⟨j,b⟩ ⟨hj,e,W,i,l⟩ R2 L ae af ak;simp only at hj e W l L;have ah:o.length=g.length\/o.length=g.length+1:=by
    rw[c];unfold F4;split<;>simp
   obtain⟨F,hF⟩:∃F,F=AA ((f,Ob.box 77 (V.d y.AT[k].enc))::gA y.AE.length y b):=⟨_,rfl⟩
   have ai:f<F/\4+2*b.length<=F:=by
    rw[hF,Ys,dp];split<;>omega
   have J:=Zf2 (n:=y.AE.length) (y:=y) (g:=b);have Z:=Zf3 (n:=y.AE.length) (y:=y) (g:=b);have F2:¬F=2:=by omega
   have F3:¬F=3:=by omega
   have Ff:¬F=f:=by omega
   have U:=(V5 l).1;rw[<-hF]at L;by_cases u:j<y.AT[k].Ah.length
   ·rw[D5 u]at e;have ag:IntKind.i64.wrap ((j:Int)+1)=(j:Int)+1:=w_i _ (by have:=hw.Ah _ (Ci z);omega);have xk:(V.d y.AT[k].Ah[j].enc).Bc=some [.d (.AU y.AT[k].Ah[j].name),.d (.AU y.AT[k].Ah[j].kind),.d (iD y.AT[k].Ah[j].Ag),.d y.AT[k].Ah[j].CB.enc]:=rfl;have xs:y.AT[k].Ah[j].enc.shape=.node [.AR,.AR,.AR,.node [.AR,.AR,.AR,.AR,.AR]]:=rfl;have xz:y.AT[k].Ah[j].enc.sz=8:=rfl;simp[zM,u,<-hF,J,Z,F2,F3,Ff,r,Q,xk,xs,xz];refine⟨rfl,w6 hP (by rw[Ys,<-hF];split<;>omega) ?_⟩;by_cases H:0<=y.AT[k].Ah[j].Ag/\y.AT[k].Ah[j].Ag<y.AE.length
    ·have v:=WK (g:=b) y.AT[k].Ag;have kk:=VS 5 b y.AT[k].Ag b.length;have li:=Yws (n:=y.AE.length) (y:=y) U;have fi:¬f=5+2*i:=by omega
     have Fi:¬F=5+2*i:=by omega
     have ki:=gJ y.AT[k].Ah[j].Ag b[i].2;have ga:=Ywr (n:=y.AE.length) (y:=y) (x:=y.AT[k].Ah[j].Ag) l U;rw[l]at v;have he:IV y.AE.length y.AT[k].Ag b (y.AT[k].Ah[j]::y.AT[k].Ah.drop (j+1))=IV y.AE.length y.AT[k].Ag (KC b y.AT[k].Ag y.AT[k].Ah[j].Ag) (y.AT[k].Ah.drop (j+1)):=by rw[IV,BS H]
     rw[he]at e;simp[H,Ff,F2,F3,r,Q,J,Z,rk,xk,kk,v,GL,fi,Fi,li,ki,ga,ag];refine L [] (j+1,KC b y.AT[k].Ag y.AT[k].Ah[j].Ag) _ _ ⟨by simp only;omega,e,by rw[eA];exact W,i,Yff l⟩ (by simp only;omega) (by simp) ?_ (by simp[AD];omega) ?_
     ·simp only;rw[Xk,BS (by simp[AD]),Xh];rw[Ys,dp,eA];split<;>omega
     ·simp only;simp only[AI,V.BQ];simp only[Bool.not_false,EN];exact dq (by simp[AD];omega) (λq hq=>by rw[eA]at hq;simp[AD];omega)
    ·have hb:(decide (0<=y.AT[k].Ah[j].Ag)&&decide (y.AT[k].Ah[j].Ag<y.AE.length))=false:=by
      rw[ZC,M7,M7];omega
     rw[hb];simp[F2,r,J];refine af _ _ ?_;simp;refine rr _ _ ?_;have T:=Jp (n:=y.AE.length) (y:=y) (g:=b);simp[F2,r,T];refine⟨[],by simp,?_,?_⟩
     ·simp[Xk,AD,Un,show 1<=F by omega,show 1<=f by omega]
     ·have G:MI y=none:=by
       rw[<-N,KR,BS a,<-c,<-e,IV,Aq H]
      have w:=h0 G;simpa[Xk,AD,Un,show 1<=F by omega,show 1<=f by omega]using w
   ·obtain rfl:j=y.AT[k].Ah.length:=by omega
    simp[zM];refine ae _ _ _ ?_;simp[Yem,wr];have ab:IV y.AE.length y.AT[k].Ag o y.AT[k].Ah=some b:=by
     rw[<-e,List.drop_length,IV]
    have ac:KR y.AE.length b (y.AT.drop (k+1))=MI y:=by
     rw[<-N,KR,BS a,<-c,ab]
    have X:∀i,i<b.length->AD f [5+2*g.length] (5+2*i)=false:=λi hi=>by simp[AD];omega
    refine rn [5+2*g.length] (k+1,b) _ _ ⟨by simp only;omega,ac⟩ (by simp only;omega) (by simp) ?_ (by simp[AD];omega) ?_
    ·simp only;rw[Xk,BS (by simp[AD];omega)];exact Yqe X (λq hq=>by simp[AD];omega)
    ·exact dq (by simp[AD];omega) X
  refine⟨rfl,w6 hP (by rw[fr];omega) ?_⟩;by_cases a:0<=y.AT[k].Ag/\y.AT[k].Ag<y.AE.length
  ·have v:=WK (g:=g) y.AT[k].Ag;have kk:=VS 5 g y.AT[k].Ag g.length;cases O:El g y.AT[k].Ag with
   |some i=>
    have hi:=(V5 O).1;have li:=Yws (n:=y.AE.length) (y:=y) hi;have fi:¬f=5+2*i:=by omega
    rw[O]at v;simp[a,r,Q,Y,l3,rk,kk,v,GL,fi,li];have e1:o=g:=by rw[c];unfold F4;rw[O]
    exact m a _ [_] (by rw[e1];exact Wk.refl _) (by simp)
   |none=>
    rw[O]at v;simp[a,r,Q,Y,l3,rk,kk,v,GL,fr];have e5:f+1=5+2*g.length:=by omega
    have ga:=Ywu (n:=y.AE.length) (y:=y) O;have gb:=Yqf (n:=y.AE.length) (y:=y) O;rw[<-c]at ga gb;rw[e5];refine m a _ [] ?_ (by simp[AB];omega);have:(V.mp (5+2*g.length))=V.mp (5+2*g.length):=rfl;simp only[ga];rw[<-gb];exact YV (List.Perm.swap _ _ _)
  ·have hb:(decide (0<=y.AT[k].Ag)&&decide (y.AT[k].Ag<y.AE.length))=false:=by
    rw[ZC,M7,M7];omega
   rw[hb];simp[r,Y];refine rr _ _ ?_;have T:=Jp (n:=y.AE.length) (y:=y) (g:=g);simp[r,T];refine⟨[],by simp,?_,?_⟩
   ·simp[Xk,AD,Un,show 1<=f by omega]
   ·have G:MI y=none:=by
     rw[<-N,KR,Aq a]
    have w:=h0 G;simpa[Xk,AD,Un,show 1<=f by omega]using w
 ·obtain rfl:k=y.AT.length:=by omega
  simp[zN];refine re _ _ _ ?_;have T:=Jp (n:=y.AE.length) (y:=y) (g:=g);simp[Y,T];refine⟨3::(List.range g.length).map λi=>5+2*i,by simp[AD],?_,?_⟩
  ·rw[Yjc];have h:=dq (n:=y.AE.length) (y:=y) (g:=g) (p:=AD 1 (3::(List.range g.length).map λi=>5+2*i)) (by simp[AD]) (λi hi=>by simp[AD];exact λ_ _=>⟨i,hi,rfl⟩);rw[gA,Wz]at h;rw[Wz];simp only[BB]at h⊢;refine⟨h.1,?_⟩;have h2:=h.2;simp only[Ib,AI,BB]at h2⊢;exact⟨h2.1,h2.2.2.2⟩
  ·rw[Yjc];exact h1 g (by rw[<-N,List.drop_length,KR])
omit hP
def Qs{w:World}{i:A9}:∀(h:List D)(b:List Value),Bz w i (h.map .d) b↔Bq w (CH i) h b
|[],b=>by simp[Bz,Bq]
|x::r,b=>by
 simp only[Cw,Bz,Bq,V.Al];exact⟨λ⟨c,a,e,f,g⟩=>⟨c,a,e,f,(Qs r a).1 g⟩,λ⟨c,a,e,f,g⟩=>⟨c,a,e,f,(Qs r a).2 g⟩⟩
def Wk.E5{e:AF}{id E z:Nat}{xs:List D}(g:AB e id=some (.BG E z xs)):Wk e (AG e id (.Ay E z (xs.map .d))):=λw h f=>by
 refine⟨h,Tr.refl w h,f.swap g ?_⟩;rcases f.BW id _ g with⟨c,rfl⟩|⟨b,a,i,p,c,j,k,l,m⟩
 ·exact .inl ⟨c,rfl⟩
 ·refine .inr ⟨b,a,i,p,by simpa using c,j,(Qs _ _).2 k,λx n=>?_,m⟩;obtain⟨y,o,rfl⟩:=DY.1 n;have:=l y o;rw[<-this];exact Cb y
def Rdj{ob:AF}{id E z:Nat}{xs:List D}(g:AB ob id=some (.Ay E z (xs.map .d))):Wk ob (AG ob id (.BG E z xs)):=λw h f=>by
 refine⟨h,Tr.refl w h,f.swap g ?_⟩;rcases f.BW id _ g with⟨c,e⟩|⟨b,a,i,n,c,e,j,k,l⟩
 ·exact .inl ⟨c,by simpa using e⟩
 ·refine .inr ⟨b,a,i,n,by simpa using c,e,(Qs _ _).1 j,λx m=>?_,l⟩;have:=k _ (List.mem_map_of_mem m);rw[<-this];exact(Cb x).symm
@[simp]def rngK_nm{a:AF}{b:V->AF->Prop}(o:Option Ob):MS a b (.d .CV) o=b (.hd false (AA a)) ((AA a,.it none 0 [])::a):=by simp only[MS]
def X5(g:Gr)(h:Int):List Int:=match El g h with
|some i=>(g.getD i (0,[])).2
|none=>[]
structure GM(ob:AF)(m:Nat)(g:Gr)(mi:Nat->Nat):Prop where
 Tw:∃es,AB ob m=some (.map es)/\(∀h,V8 (.int .i64 0) (.int .i64 h) es)/\∀h,Y4 (.int .i64 h) es=(El g h).map λi=>V.mp (mi i)
 YG:∀i (hi:i<g.length),AB ob (mi i)=some (.map (Jd g[i].2))
def PJ(n:Nat)(g:Gr):Prop:=∀h:Int,(X5 g h).Nodup/\∀x∈X5 g h,0<=x/\x<n
def Yig(a:Int->List Int)(k:Nat)(x:Int):Di a (k+1) x=Di a k x++if x∈a k then[(k:Int)] else[]:=by
 unfold Di;rw[List.range_succ,List.filter_append,Ky];congr 1;by_cases h:x∈a k
 ·simp[h]
 ·simp[h]
def Ydl(a:Int->List Int)(k:Nat)(x:Int):(Di a k x).length<=k:=by
 unfold Di;rw[List.length_map];exact IQ (List.length_filter_le _ _) (by simp)
def PH(l:List Int):D:=if l=[] then .Ad else X4 l
structure UM(f n:Nat)(U:Nat->List Int)(vs:List V)(N:AF):Prop where
 len:vs.length=n
 nm:∀j o,AB N j=some o->f+2<=j
 el:∀x,x<n->(U x=[]/\vs[x]? = some (.d .Ad))\/(U x≠[]/\∃a,vs[x]? = some (.sl a (U x).length)/\AB N a=some (.BG 3 1 ((U x).map iD)))
 inj:∀x x' a m m':Nat,vs[x]? = some (.sl a m)->vs[x']? = some (.sl a m')->x=x'
 BQ:∀p:Nat->Bool,(∀j,j<f->p j=false)->AI p N=true
section
variable {f n:Nat} {U U':Nat->List Int} {vs:List V} {N:AF}
def UM.PD(h:UM f n U vs N){x a m:Nat}(e:vs[x]? = some (.sl a m)):x<n/\U x≠[]/\m=(U x).length/\AB N a=some (.BG 3 1 ((U x).map iD)):=by
 have c:x<n:=by rw[<-h.len];exact(Ek.1 e).1
 rcases h.el x c with⟨_,b⟩|⟨d,i,b,g⟩
 ·rw[e]at b;cases b
 ·rw[e]at b;cases b;exact⟨c,d,rfl,g⟩
def UM.new(h:UM f n U vs N){x a:Nat}{z:Int}(H:x<n)(L:U x=[])(O:f+2<=a)(t:AB N a=none)(F:∀y,U' y=if y=x then[z] else U y):UM f n U' (vs.set x (.sl a 1)) ((a,.BG 3 1 [iD z])::N):=by
 have d:x<vs.length:=by rw[h.len];exact H
 refine⟨by simpa using h.len,λj o s=>?_,λy J=>?_,λy u b m K k g=>?_,λp G=>?_⟩
 ·rw[AB]at s;split at s
  ·omega
  ·exact h.nm j o s
 ·rw[F];by_cases e:y=x
  ·subst e;right;rw[BS rfl];exact⟨by simp,a,by simp[d],by simp[AB]⟩
  ·have w:¬x=y:=λc=>e c.symm;rw[Aq e,List.getElem?_set_ne w];rcases h.el y J with⟨l,q⟩|⟨l,b,q,r⟩
   ·exact .inl ⟨l,q⟩
   ·refine .inr ⟨l,b,q,?_⟩;rw[AB,Aq (λc=>by subst c;rw[t]at r;cases r)];exact r
 ·by_cases v:y=x
  ·subst v;rw[List.getElem?_set_self d]at k;cases k;by_cases i:u=y
   ·exact i.symm
   ·rw[List.getElem?_set_ne (λc=>i c.symm)]at g;have:=(h.PD g).2.2.2;rw[t]at this;cases this
  ·rw[List.getElem?_set_ne (λc=>v c.symm)]at k;by_cases i:u=x
   ·subst i;rw[List.getElem?_set_self d]at g;cases g;have:=(h.PD k).2.2.2;rw[t]at this;cases this
   ·rw[List.getElem?_set_ne (λc=>i c.symm)]at g;exact h.inj y u b m K k g
 ·simp only[AI];exact h.BQ p G
def wE{p:Nat->Bool}{a E z:Nat}{l:List D}:∀{N:AF},AI p N=true->AI p (AG N a (.BG E z l))=true
|[],h=>h
|(j,o)::r,h=>by
 rw[AG];have b:AI p r=true:=by cases o<;>simp_all[AI]
 split
 ·simpa only[AI]using b
 ·have:=wE (a:=a) (E:=E) (z:=z) (l:=l) b;cases o<;>simp_all[AI]
def UM.old(h:UM f n U vs N){x a m:Nat}{z:Int}(e:vs[x]? = some (.sl a m))(H:∀y,U' y=if y=x then U x++[z] else U y):UM f n U' (vs.set x (.sl a (m+1))) (AG N a (.BG 3 1 ((U x).map iD++[iD z]))):=by
 obtain⟨L,P,J,w⟩:=h.PD e;have g:x<vs.length:=by rw[h.len];exact L
 have u:∀j,AB (AG N a (.BG 3 1 ((U x).map iD++[iD z]))) j=if j=a then some (.BG 3 1 ((U x).map iD++[iD z])) else AB N j:=λj=>Xb N a j ⟨_,w⟩;refine⟨by simpa using h.len,λj o t=>?_,λy O=>?_,λy F b k Q q i=>?_,λp K=>wE (h.BQ p K)⟩
 ·rw[u]at t;split at t
  next c=>subst c;exact h.nm _ _ w
  ·exact h.nm j o t
 ·rw[H];by_cases c:y=x
  ·subst c;right;rw[BS rfl];exact⟨by simp,a,by simp[g,J],by rw[u,BS rfl];simp⟩
  ·rw[Aq c,List.getElem?_set_ne (λd=>c d.symm)];rcases h.el y O with⟨s,r⟩|⟨s,b,r,G⟩
   ·exact .inl ⟨s,r⟩
   ·refine .inr ⟨s,b,r,?_⟩;rw[u,Aq (λd=>by subst d;exact c (h.inj _ _ _ _ _ r e))];exact G
 ·by_cases v:y=x
  ·subst v;rw[List.getElem?_set_self g]at q;cases q;by_cases l:F=y
   ·exact l.symm
   ·rw[List.getElem?_set_ne (λd=>l d.symm)]at i;exact h.inj _ _ _ _ _ e i
  ·rw[List.getElem?_set_ne (λd=>v d.symm)]at q;by_cases l:F=x
   ·subst l;rw[List.getElem?_set_self g]at i;cases i;exact h.inj _ _ _ _ _ q e
   ·rw[List.getElem?_set_ne (λd=>l d.symm)]at i;exact h.inj _ _ _ _ _ q i
def UM.congr(h:UM f n U vs N)(b:∀x,x<n->U' x=U x):UM f n U' vs N:=
 ⟨h.len,h.nm,λx a=>by rw[b x a];exact h.el x a,h.inj,h.BQ⟩
def UM.it(h:UM f n U vs N){t k:Nat}{o:Option Nat}{s:List Nat}(r:f+2<=t)(l:AB N t=none)(m:∀j,o=some j->j<f):UM f n U vs ((t,.it o k s)::N):=by
 refine⟨h.len,λj x d=>?_,λx q=>?_,h.inj,λp e=>?_⟩
 ·rw[AB]at d;split at d
  ·omega
  ·exact h.nm j x d
 ·rcases h.el x q with b|⟨b,a,g,c⟩
  ·exact .inl b
  ·refine .inr ⟨b,a,g,?_⟩;rw[AB,Aq (λi=>by subst i;rw[l]at c;cases c)];exact c
 ·simp only[AI,h.BQ p e,Bool.and_true,GK];cases o with
  |none=>rfl
  |some j=>exact e j (m j rfl)
def wU{p:Nat->Bool}{t k:Nat}{o:Option Nat}{s:List Nat}(a:∀j,o=some j->p j=false):∀{N:AF},AI p N=true->AI p (AG N t (.it o k s))=true
|[],h=>h
|(j,x)::r,h=>by
 rw[AG];have b:AI p r=true:=by cases x<;>simp_all[AI]
 split
 ·simp only[AI,b,Bool.and_true,GK];cases o with
  |none=>rfl
  |some j=>exact a j rfl
 ·have:=wU (t:=t) (k:=k) (s:=s) a b;cases x<;>simp_all[AI]
def UM.Tk(h:UM f n U vs N){t k k':Nat}{o:Option Nat}{b:Option Nat}{s s':List Nat}(l:AB N t=some (.it o k s))(v:∀j,b=some j->j<f):UM f n U vs (AG N t (.it b k' s')):=by
 have q:∀j,AB (AG N t (.it b k' s')) j=if j=t then some (.it b k' s') else AB N j:=λj=>Xb N t j ⟨_,l⟩;refine⟨h.len,λj x i=>?_,λx w=>?_,h.inj,λp m=>wU (λj e=>m j (v j e)) (h.BQ p m)⟩
 ·rw[q]at i;split at i
  next c=>subst c;exact h.nm _ _ l
  ·exact h.nm j x i
 ·rcases h.el x w with d|⟨d,a,r,g⟩
  ·exact .inl d
  ·refine .inr ⟨d,a,r,?_⟩;rw[q,Aq (λu=>by subst u;rw[l]at g;cases g)];exact g
def Rdk(f n:Nat):UM f n (λ_=>[]) ((List.replicate n D.Ad).map V.d) []:=by
 refine⟨by simp,λj o h=>(by cases h),λx b=>.inl ⟨rfl,by simp[b]⟩,λx g a m c h=>?_,λp _=>rfl⟩;rw[List.getElem?_map]at h;cases e:(List.replicate n D.Ad)[x]? with
 |none=>rw[e]at h;cases h
 |some d=>rw[e]at h;cases h
def dt{ob:AF}{j:Nat}(h:j∈Vu ob):∃o,AB ob j=some o:=by
 induction ob with
 |nil=>simp[Vu]at h
 |cons e r b=>
  obtain⟨i,x⟩:=e;rw[AB];split
  ·exact⟨_,rfl⟩
  ·rename_i a;simp only[Vu,Cw,EJ]at h;rcases h with h|h
   ·exact absurd h.symm a
   ·exact b h
def Wo{N:AF}{b:Nat}(h:∀j o,AB N j=some o->b<=j){j:Nat}(a:j<b):AB N j=none:=by
 cases e:AB N j with
 |none=>rfl
 |some o=>have:=h j o e;omega
def r9(h:UM f n U vs N)(r:AF):∀k,k<=n->∃y q,Wk (N++((f+1,Ob.Ay 35 1 vs)::r)) (y++((f+1,Ob.Ay 35 1 q)::r))/\q.length=n/\(∀j o,AB y j=some o->f+2<=j)/\(∀x,x<k->q[x]? = some (.d (PH (U x))))/\(∀x,k<=x->q[x]? = vs[x]?)/\∀x a m:Nat,k<=x->vs[x]? = some (.sl a m)->AB y a=AB N a
|0,_=>⟨N,vs,Wk.refl _,h.len,h.nm,λx l=>absurd l (by omega),λ_ _=>rfl,λ_ _ _ _ _=>rfl⟩
|k+1,hk=>by
 obtain⟨e,p,T,P,v,F,t,G⟩:=r9 h r k (by omega);have O:∀x,x<k+1->x≠k->x<k:=λx F t=>by omega
 rcases h.el k (by omega) with⟨Y,s⟩|⟨X,a,s,Z⟩
 ·refine⟨e,p,T,P,v,λx l=>?_,λx l=>t x (by omega),λx a m l=>G x a m (by omega)⟩;by_cases c:x=k
  ·subst c;rw[t x (Bg _),s,PH,BS Y]
  ·exact F x (O x l c)
 ·have w:AB e a=some (.BG 3 1 ((U k).map iD)):=by rw[G k a _ (Bg _) s,Z]
  have na:=v _ _ w;have W:AB e (f+1)=none:=Wo v (by omega);have L:AB (e++((f+1,Ob.Ay 35 1 p)::r)) (f+1)=some (.Ay 35 1 p):=by rw[Vh W];simp[AB]
  have g:=Yje (k:=0) (n:=(U k).length) (V9 (b:=(f+1,Ob.Ay 35 1 p)::r) w) (by decide) (by simp);have so:AG (e++((f+1,Ob.Ay 35 1 p)::r)) a .An=AG e a .An++((f+1,Ob.Ay 35 1 p)::r):=S4 w;rw[so]at g;have K:∀j,AB (AG e a .An) j=if j=a then some .An else AB e j:=λj=>Xb e a j ⟨_,w⟩;have u:AB (AG e a .An) (f+1)=none:=by rw[K,Aq (by omega)];exact W
  have z:=PV L (i:=k) (by rw[t k (Bg _)];exact s) g (by rw[Vh u];simp[AB]) rfl;rw[OR u]at z;have sx:AG ((f+1,Ob.Ay 35 1 p)::r) (f+1) (.Ay 35 1 (p.set k (.d (.AH 1 ((U k).map iD)))))=(f+1,.Ay 35 1 (p.set k (.d (.AH 1 ((U k).map iD)))))::r:=by simp[AG]
  rw[sx]at z;refine⟨_,_,T.trans z,by simpa using P,λj o J=>?_,λx l=>?_,λx l=>?_,λx b m l Q=>?_⟩
  ·rw[K]at J;split at J
   ·omega
   ·exact v j o J
  ·by_cases c:x=k
   ·subst c;rw[List.getElem?_set_self (by omega),PH,Aq X];rfl
   ·rw[List.getElem?_set_ne (λH=>c H.symm)];exact F x (O x l c)
  ·rw[List.getElem?_set_ne (by omega)];exact t x (by omega)
  ·rw[K,Aq (λH=>by subst H;have:=h.inj _ _ _ _ _ Q s;omega)];exact G x b m (by omega) Q
def Iv(n:Nat)(U:Nat->List Int):List D:=(List.range n).map λx=>PH (U x)
def UM.Cq(h:UM f n U vs N)(r:AF):∃k,Wk (N++((f+1,Ob.Ay 35 1 vs)::r)) (k++((f+1,Ob.BG 35 1 (Iv n U))::r))/\∀j o,AB k j=some o->f+2<=j:=by
 obtain⟨a,b,q,t,l,p,_,_⟩:=r9 h r n (Bg _);have e:b=(Iv n U).map .d:=by
  refine Rv λi=>?_;by_cases c:i<n
  ·rw[p i c];simp[Iv,c]
  ·rw[Pa (by omega),Pa (by simp[Iv];omega)]
 have m:AB a (f+1)=none:=Wo l (by omega);have g:=Rdj (ob:=a++((f+1,Ob.Ay 35 1 b)::r)) (id:=f+1) (E:=35) (z:=1) (xs:=Iv n U) (by rw[Vh m,e];simp[AB]);rw[OR m]at g;have s:AG ((f+1,Ob.Ay 35 1 b)::r) (f+1) (.BG 35 1 (Iv n U))=(f+1,.BG 35 1 (Iv n U))::r:=by simp[AG]
 rw[s]at g;exact⟨a,q.trans g,l⟩
end
def Xzu{p:Nat->Bool}:∀{vs:List V},(∀v∈vs,V.BQ p v=false)->BY p vs=false
|[],_=>by simp[BY]
|v::r,h=>by
 have a:=Xzu (vs:=r) λu b=>h u (Pc _ b);simp[BY,h v (by simp),a]
def UM.DB{f n t:Nat}{U:Nat->List Int}{e:List V}{N r:AF}{l:List Nat}(h:UM f n U e N)(s:f<=t)(k:∀j o,AB N j=some o->j∈l)(i:AI (AD t l) r=true):AI (AD t l) (N++((f+1,Ob.Ay 35 1 e)::r))=true:=by
 have m:BY (AD t l) e=false:=Xzu λv p=>by
  obtain⟨x,c⟩:=List.getElem?_of_mem p;have d:x<n:=by rw[<-h.len];exact(Ek.1 c).1
  rcases h.el x d with⟨_,b⟩|⟨_,a,b,g⟩
  ·rw[c]at b;cases b;simp[V.BQ]
  ·rw[c]at b;cases b;simp[V.BQ,AD,k a _ g]
 rw[Wz,h.BQ _ (λj q=>by simp[AD];omega)];simp[AI,m,i]
include hP
theorem gU{g:Gr}{n m:Nat}{mi:Nat->Nat}{G:AF}(hg:GM G m g mi)(hn:PJ n g)(bc:n<=1000000){K:BN->AF->Prop}(h:K (.ret (.sl (AA G+1) n)) ((AA G+1,.BG 35 1 (Iv n λx=>Di (X5 g) n x))::G)):
 AX P 194 [.agg [.d (.int .i64 n),.mp m]] G K:=by
 refine AX.Gq ?_;refine Xt hP AQ Zd0 Y92 A4.nil λ_ ad=>?_;obtain⟨es,lm,kk,fe⟩:=hg.Tw;obtain⟨f,hf⟩:∃f,f=AA G:=⟨_,rfl⟩
 rw[<-hf]at h ad⊢;have lt:∀j o,AB G j=some o->j<f:=λj o h=>by rw[hf];exact Xi h
 have bb:=lt _ _ lm;simp[Y6e,<-hf];refine⟨by omega,Au.pre (Wk.E5 (id:=f+1) (E:=35) (z:=1) (xs:=List.replicate n D.Ad) (by simp[AB])) ?_⟩;refine Au.go (ι:=Nat×List V×AF) (λs=>[(1,.ptr f []),(3,.sl (f+1) n),(10,.d (.int .i64 n)),(11,.d (.int .i64 s.1))]) (λs=>s.2.2++((f+1,Ob.Ay 35 1 s.2.1)::(f,Ob.box 238 (V.agg [V.d (D.int IntKind.i64 n),V.mp m]))::G)) (λs=>s.1<=n/\UM f n (λx=>Di (X5 g) s.1 x) s.2.1 s.2.2) (λs=>n-s.1) (0,(List.replicate n D.Ad).map V.d,[]) ⟨E2 _,(Rdk f n).congr (λx _=>rfl)⟩ (by simp) (by simp[AG]) ?_;rintro⟨k,u,N⟩ ⟨hk,hu⟩ R rn re rr rp;simp only at hk hu rn;by_cases a2:k<n
 ·have wr:=w_s k (by omega);obtain⟨r,hr⟩:∃r,r=(f,Ob.box 238 (V.agg [V.d (D.int IntKind.i64 n),V.mp m]))::G:=⟨_,rfl⟩
  rw[<-hr]at rn⊢;have lN:∀u N U,UM f n U u N->AB (N++((f+1,Ob.Ay 35 1 u)::r)) f=some (Ob.box 238 (V.agg [V.d (D.int IntKind.i64 n),V.mp m])):=λu N U h=>by rw[Vh (Wo h.nm (by omega)),hr];simp[AB]
  have lV:∀u N U,UM f n U u N->AB (N++((f+1,Ob.Ay 35 1 u)::r)) (f+1)=some (Ob.Ay 35 1 u):=λu N U h=>by rw[Vh (Wo h.nm (by omega))];simp[AB]
  have lO:∀u N U,UM f n U u N->∀j o,AB G j=some o->AB (N++((f+1,Ob.Ay 35 1 u)::r)) j=some o:=λu N U h j o w=>by
   have:=lt j o w;rw[Vh (Wo h.nm (by omega)),AB,Aq (by omega),hr,AB,Aq (by omega),w]
  have an:∀t l,f<=t->AI (AD t l) r=true:=λt l h1=>by
   rw[hr];have h2:AI (AD t l) G=true:=BV (by rw[<-hf];exact ad) (by rw[<-hf];exact h1);simp[AI,V.BQ,BY,h2,AD];omega
  obtain⟨t,ht⟩:∃t,t=AA (N++((f+1,Ob.Ay 35 1 u)::r)):=⟨_,rfl⟩
  have a0:f+2<=t:=by
   have:=Xi (lV u N _ hu);rw[ht];omega
  rw[<-ht]at rn;have l1:=lN u N _ hu;have l2:=lO u N _ hu m _ lm;have fk:=fe k;have aa:∀(o:Option Nat)(l:List Int),l=X5 g k->(o=none->l=[])->(∀j,o=some j->AB G j=some (.map (Jd l)))->Au [1,3,4,10,11,18] (Zb P [] WA)
   (Zs 2 (Zs 1 (Wh (Zb P [] (S2.rg [] [(1,E.a (A.t 1)),(3,E.a (A.t 3)),(10,E.a (A.t 10)),(11,E.b (C.CR BinOp.add (A.t 0) (A.t 1)) (E.a (A.t 11)) (E.a (A.int IntKind.i64 1)))] []) R) R)))
   [(1,V.ptr f []),(3,V.sl (f+1) n),(4,V.d (D.int IntKind.i64 k)),(10,V.d (D.int IntKind.i64 n)),(11,V.d (D.int IntKind.i64 k)),(18,V.hd false t)]
   ((t,Ob.it o l.length [])::(N++((f+1,Ob.Ay 35 1 u)::r))):=λo l hl ho ah=>by
   have au:∀j,o=some j->j<f:=λj e=>lt _ _ (ah j e);have az:AB N t=none:=by
    have h1:AB (N++((f+1,Ob.Ay 35 1 u)::r)) t=none:=by rw[ht];exact X0 _
    cases e:AB N t with
    |none=>rfl
    |some x=>rw[V9 e]at h1;cases h1
   have ag:=hn k;rw[<-hl]at ag;refine Au.go (ι:=List Nat×List V×AF) (λs=>[(1,.ptr f []),(3,.sl (f+1) n),(4,.d (.int .i64 k)),(10,.d (.int .i64 n)),(11,.d (.int .i64 k)),(18,.hd false t)]) (λs=>s.2.2++((f+1,Ob.Ay 35 1 s.2.1)::r))
    (λs=>s.1.Nodup/\(∀i∈s.1,i<l.length)/\AB s.2.2 t=some (.it o l.length s.1)/\UM f n (λx=>Di (X5 g) k x++if (x:Int)∈s.1.map (λi=>l.getD i 0) then[(k:Int)] else[]) s.2.1 s.2.2) (λs=>l.length-s.1.length) ([],u,(t,.it o l.length [])::N)
    ⟨List.nodup_nil,by simp,by simp[AB],(hu.it a0 az au).congr (λx _=>by simp)⟩ (by simp) rfl ?_
   rintro⟨q,p,L⟩ ⟨ai,X,hit,Q⟩ R2 aw a9 bh bg;simp only at ai X hit Q aw;have q1:=V9 (b:=(f+1,Ob.Ay 35 1 p)::r) hit
   -- the end of a round of heads
   have Cq:(∀i,i<l.length->i∈q)->R2 (.exit 2) [(1,V.ptr f []),(3,V.sl (f+1) n),(4,V.d (D.int IntKind.i64 k)),(10,V.d (D.int IntKind.i64 n)),(11,V.d (D.int IntKind.i64 k)),(18,V.hd false t),(20,V.d (D.bool false))] (L++((f+1,Ob.Ay 35 1 p)::r)):=λal=>by
    refine a9 _ _ _ ?_;simp[wr];refine rn (Vu (L++((f+1,Ob.Ay 35 1 p)::r))) (k+1,p,L) _ _ ⟨by simp only;omega,Q.congr λx Y=>?_⟩ (by simp only;omega) (by simp) (Y1 λj w=>w) (by simp[AD];omega) (Q.DB (by omega) (λj o w=>Z5 (V9 w)) (an t _ (by omega)));have e:(x:Int)∈q.map (λi=>l.getD i 0)↔(x:Int)∈X5 g k:=by
     rw[<-hl,DY];constructor
     ·rintro⟨i,F,he⟩;rw[<-he,Ve (X i F)];exact Ci _
     ·intro a8;obtain⟨i,F,he⟩:=List.mem_iff_getElem.1 a8;exact⟨i,al i F,by rw[Ve F,he]⟩
    simp only[Yig,e]
   cases o with
   |none=>
    simp[z7,q1];have l0:=ho rfl;subst l0;exact Cq (λi F=>absurd F (by simp))
   |some j=>
    have q2:=lO p L _ Q _ _ (ah j rfl);simp[z7,q1,q2];refine⟨by simp[Jd],Cq,λi F af=>?_⟩;rw[S4 hit];have av:∀c,AB (AG L t (Ob.it (some j) l.length (q++[i]))) c=if c=t then some (Ob.it (some j) l.length (q++[i])) else AB L c:=λc=>Xb L t c ⟨_,hit⟩;have v:=Q.Tk (k':=l.length) (s':=q++[i]) hit au;obtain⟨O,ay⟩:∃O,O=AG L t (Ob.it (some j) l.length (q++[i])):=⟨_,rfl⟩
    rw[<-ay]at av v⊢;have H:AB O t=some (Ob.it (some j) l.length (q++[i])):=by rw[av,BS rfl]
    have p1:=lV p O _ v;have p2:=lO p O _ v _ _ (ah j rfl);have be:=ag.2 l[i] (Ci F);obtain⟨x,Y⟩:∃x:Nat,l[i]=(x:Int):=⟨l[i].toNat,by omega⟩
    have Z:x<n:=by omega
    have eg:∀h:i<(Jd l).length,(Jd l)[i]=(.int .i64 (x:Int),V.d (.bool true)):=λh=>by simp[Jd,Y]
    have el:(Jd l).length=l.length:=by simp[Jd]
    have vl:=v.len;have J:((x:Int)∉q.map λi=>l.getD i 0):=λhm=>by
     obtain⟨i',aq,he⟩:=DY.1 hm;rw[Ve (X i' aq),<-Y]at he;have:i'=i:=(List.getElem_inj ag.1).1 he;subst this;exact af aq
    have bi:q.length<l.length:=by
     have a4:(i::q).Nodup:=List.nodup_cons.2 ⟨af,ai⟩;have a7:(i::q) ⊆ List.range l.length:=λa T=>by
      rcases EJ.1 T with rfl|T
      ·simpa using F
      ·simpa using X a T
     have:=List.Nodup.length_le_of_subset a4 a7;simp at this;omega
    have a6:(q++[i]).Nodup:=by
     rw[FC];exact⟨ai,by simp,λa T b hb=>by simp at hb;subst hb;exact λe=>af (e▸T)⟩
    have a5:∀a∈q++[i],a<l.length:=λa T=>by
     rcases DT.1 T with T|T
     ·exact X a T
     ·simp at T;subst T;exact F
    have hU:∀y:Nat,(Di (X5 g) k y++if (y:Int)∈(q++[i]).map (λi=>l.getD i 0) then[(k:Int)] else[])=if y=x then (Di (X5 g) k x++if (x:Int)∈q.map (λi=>l.getD i 0) then[(k:Int)] else[])++[(k:Int)] else Di (X5 g) k y++if (y:Int)∈q.map (λi=>l.getD i 0) then[(k:Int)] else[]:=λy=>by
     by_cases c:y=x
     ·subst c;rw[BS rfl,Aq J];have:(y:Int)∈(q++[i]).map (λi=>l.getD i 0):=by
       rw[Ky,DT];right;simp[Gy,F,Y]
      rw[BS this];simp
     ·rw[Aq c];have:((y:Int)∈(q++[i]).map (λi=>l.getD i 0))↔(y:Int)∈q.map (λi=>l.getD i 0):=by
       rw[Ky,DT];refine⟨λhh=>hh.resolve_right λhh=>?_,.inl⟩;simp[Gy,F,Y]at hh;exact c (by omega)
      simp only[this]
    have ul:(Di (X5 g) k x).length<=k:=Ydl _ _ _;have W:∀ab N3,UM f n (λy=>Di (X5 g) k y++if (y:Int)∈(q++[i]).map (λi=>l.getD i 0) then[(k:Int)] else[]) ab N3->AB N3 t=some (Ob.it (some j) l.length (q++[i]))->R2 .normal [(1,V.ptr f []),(3,V.sl (f+1) n),(4,V.d (D.int IntKind.i64 k)),(10,V.d (D.int IntKind.i64 n)),(11,V.d (D.int IntKind.i64 k)),(18,V.hd false t)] (N3++((f+1,Ob.Ay 35 1 ab)::r)):=λab N3 h3 a1=>by
     have ba:f+2<=AA (L++((f+1,Ob.Ay 35 1 p)::r)):=by
      have:=Xi (lV p L _ Q);omega
     have bd:t<AA (L++((f+1,Ob.Ay 35 1 p)::r)):=Xi q1;refine aw (Vu (N3++((f+1,Ob.Ay 35 1 ab)::r))) (q++[i],ab,N3) _ _ ⟨a6,a5,a1,h3⟩ (by simp;omega) (by simp) (Y1 λj w=>w) (by simp[AD];omega) (h3.DB (by omega) (λj o w=>Z5 (V9 w)) (an _ _ (by omega)))
    obtain⟨t2,ak⟩:∃t2,t2=AA (O++((f+1,Ob.Ay 35 1 p)::r)):=⟨_,rfl⟩
    have ap:f+2<=t2:=by
     have:=Xi p1;rw[ak];omega
    have bf:x<p.length:=by rw[vl];exact Z
    rcases v.el x Z with⟨e1,e2⟩|⟨e1,a,e2,e3⟩
    ·have ax:(Di (X5 g) k x++if (x:Int)∈q.map (λi=>l.getD i 0) then[(k:Int)] else[])=[]:=e1;have ac:∀h:x<p.length,p[x]=.d .Ad:=λh=>by rw[DN h]at e2;exact GI e2
     simp[p1,p2,eg,el,F,Z,vl,ac,F6,Gh,<-ak,show ¬t2=f+1 by omega];rw[OR (Wo v.nm (by omega))];have sx:AG ((f+1,Ob.Ay 35 1 p)::r) (f+1) (Ob.Ay 35 1 (p.set x (V.sl t2 1)))=(f+1,Ob.Ay 35 1 (p.set x (V.sl t2 1)))::r:=by simp[AG]
     rw[sx];have n2:AB O t2=none:=by
      have h1:AB (O++((f+1,Ob.Ay 35 1 p)::r)) t2=none:=by rw[ak];exact X0 _
      cases e:AB O t2 with
      |none=>rfl
      |some x=>rw[V9 e]at h1;cases h1
     exact W _ _ (v.new (z:=(k:Int)) Z e1 ap n2 (λy=>by rw[hU y,ax,List.nil_append])) (by rw[AB,Aq (λhh=>by subst hh;rw[H]at n2;cases n2)];exact H)
    ·have ac:∀h:x<p.length,p[x]=.sl a (Di (X5 g) k x++if (x:Int)∈q.map (λi=>l.getD i 0) then[(k:Int)] else[]).length:=λh=>by rw[DN h]at e2;exact GI e2
     rw[Aq J,GJ]at e3;simp only[Aq J,GJ]at ac;have e4:=V9 (b:=(f+1,Ob.Ay 35 1 p)::r) e3;have e5:=S4 (b:=(f+1,Ob.Ay 35 1 p)::r) (o:=.BG 3 1 ((Di (X5 g) k x).map iD++[iD k])) e3;have aj:∀c,AB (AG O a (.BG 3 1 ((Di (X5 g) k x).map iD++[iD k]))) c=if c=a then some (.BG 3 1 ((Di (X5 g) k x).map iD++[iD k])) else AB O c:=λc=>Xb O a c ⟨_,e3⟩;have na:=v.nm _ _ e3;have e6:AB (AG O a (.BG 3 1 ((Di (X5 g) k x).map iD++[iD k]))++((f+1,Ob.Ay 35 1 p)::r)) (f+1)=some (Ob.Ay 35 1 p):=by
      rw[Vh (by rw[aj,Aq (by omega)];exact Wo v.nm (by omega))];simp[AB]
     simp[p1,p2,eg,el,F,Z,vl,ac,F6,Gh,e4,e5,e6];refine⟨by omega,?_⟩;rw[OR (by rw[aj,Aq (by omega)];exact Wo v.nm (by omega))];have sx:AG ((f+1,Ob.Ay 35 1 p)::r) (f+1) (Ob.Ay 35 1 (p.set x (V.sl a ((Di (X5 g) k x).length+1))))=(f+1,Ob.Ay 35 1 (p.set x (V.sl a ((Di (X5 g) k x).length+1))))::r:=by simp[AG]
     rw[sx];have ae:=v.old (z:=(k:Int)) e2 hU;simp only[Aq J,GJ]at ae;exact W _ _ ae (by rw[aj,Aq (λhh=>by subst hh;rw[H]at e3;cases e3)];exact H)
  simp[z8,a2,l1,l2,kk,<-ht];cases Y:El g k with
  |none=>
   rw[Y]at fk;simp[fk,GL,<-ht];exact aa none [] (by simp[X5,Y]) (λ_=>rfl) (λj e=>by cases e)
  |some i=>
   rw[Y]at fk;have F:=(V5 Y).1;have li:=hg.YG i F;have l3:=lO u N _ hu _ _ li;simp[fk,GL,l3,<-ht];have e:(Jd g[i].2).length=g[i].2.length:=by simp[Jd]
   rw[e];exact aa (some (mi i)) g[i].2 (by simp[X5,Y,Gy,F]) (λe=>by cases e) (λj e=>by cases e;exact li)
 ·obtain rfl:k=n:=by omega
  simp[z8];refine re _ _ _ ?_;simp;obtain⟨L,hw,a3⟩:=hu.Cq ((f,Ob.box 238 (V.agg [V.d (D.int IntKind.i64 k),V.mp m]))::G);have hb:∀l,AI (AD f l) ((f,Ob.box 238 (V.agg [V.d (D.int IntKind.i64 k),V.mp m]))::G)=true:=λl=>by
   simp[AI,V.BQ,BY,ad l,AD];omega
  have hid:f+1∈Vu (N++((f+1,Ob.Ay 35 1 u)::(f,Ob.box 238 (V.agg [V.d (D.int IntKind.i64 k),V.mp m]))::G)):=Z5 (o:=Ob.Ay 35 1 u) (by rw[Vh (Wo hu.nm (by omega))];simp[AB]);have ao:Xk (AD f [f+1]) (L++((f+1,Ob.BG 35 1 (Iv k λx=>Di (X5 g) k x))::(f,Ob.box 238 (V.agg [V.d (D.int IntKind.i64 k),V.mp m]))::G))=(f+1,Ob.BG 35 1 (Iv k λx=>Di (X5 g) k x))::G:=by
   have h1:∀M:AF,(∀j∈Vu M,f+2<=j)->Xk (AD f [f+1]) M=[]:=λM=>by
    induction M with
    |nil=>intro _;rfl
    |cons e r ih=>
     intro h;obtain⟨i,o⟩:=e;have F:=h i (by simp[Vu]);rw[Xk,BS (by simp[AD];omega),ih λj w=>h j (by simp only[Vu,Cw]at w⊢;exact Pc _ w)]
   rw[W9,h1 _ (λj w=>by obtain⟨o,ho⟩:=dt w;exact a3 j o ho)];simp only[List.nil_append,Xk];rw[Aq (by simp[AD]),BS (by simp[AD]),Xh (by omega)]
  refine⟨Vu (N++((f+1,Ob.Ay 35 1 u)::(f,Ob.box 238 (V.agg [V.d (D.int IntKind.i64 k),V.mp m]))::G)),by simp[V.BQ,BY,AD];exact hid,?_,?_⟩
  ·rw[Y1 λj w=>w];exact hu.DB (Bg _) (λj o w=>Z5 (V9 w)) (hb _)
  ·rw[Y1 λj w=>w];refine⟨_,hw,[f+1],by simp[BN.BQ,V.BQ,AD],?_,?_⟩
   ·rw[ao];simp only[AI];exact ad _
   ·rw[ao];exact h
omit hP
section
variable {P:BA} {sl:Xe} {ob:AF} {KO Pn:V->AF->Prop} {x:A}
@[simp]def iwpT_inv(nm:String)(t f:Nat)(b:Option (Nat×Nat×Nat×Bool))(a:List A):I.wp P sl ob KO Pn (.Kf nm t f b x a)=Oo P t f b (a.map (A.ev sl)) ob KO Pn (x.ev sl):=by simp only[I.wp]
@[simp]def iwpT_trn(z:Nat)(h:A):I.wp P sl ob KO Pn (.Ln z x h)=O0 z ob KO (x.ev sl) (h.ev sl):=by simp only[I.wp]
@[simp]def invK_p(t f c id:Nat)(b:Option (Nat×Nat×Nat×Bool))(a:List V)(p:List Nat):Oo P t f b a ob KO Pn (.iface c (.ptr id p))=(c=t/\Xd P.p f=true/\NZ ob (λr=>AX P f (r::a) ob (Fs KO Pn)) (.ptr id p) b):=by simp only[Oo]
@[simp]def recvK_n(K:V->Prop)(v:V):NZ ob K v none=K v:=by simp only[NZ]
@[simp]def recvK_s(K:V->Prop)(v:V)(b c n:Nat)(a:Bool):NZ ob K v (some (b,c,n,a))=Ux ob b c (λu=>En ob n a K u) v:=by simp only[NZ]
end
abbrev qB(a n:Nat):Ob:=.box 290 (.agg [.sl a n])
abbrev qA(q:List Int):Ob:=.BG 3 1 (q.map iD)
def Ycr{a b:Nat}{x y z:Ob}(h:¬b=a):∀{ob:AF},AG (AG (AG ob a x) b y) a z=AG (AG ob a z) b y
|[]=>rfl
|(j,o)::r=>by
 have f:¬a=b:=λe=>h e.symm;have g:=Ycr (a:=a) (b:=b) (x:=x) (y:=y) (z:=z) h (ob:=r);have i:=Yh (x:=x) (y:=z) (id:=a) r;by_cases c:j=a
 ·subst c;simp[AG,f]
 ·by_cases d:j=b
  ·subst d;simp[AG,c,Yh]
  ·simp[AG,c,d,g]
def dA{p:Nat->Bool}{k:Nat}:∀{b:AF},AI p b=true->AI p (AG b k .An)=true
|[],h=>h
|(j,x)::r,h=>by
 rw[AG];have a:AI p r=true:=by cases x<;>simp_all[AI]
 split
 ·simpa only[AI]using a
 ·have:=dA (k:=k) a;cases x<;>simp_all[AI]
def uK:Xd prog 288=true:=by kernel_rfl
def gg:Xd prog 292=true:=by kernel_rfl
def ZN:Xd prog 196=true:=by kernel_rfl
def uL:Xd prog 290=true:=by kernel_rfl
def Yv9:Xd prog 289=true:=by kernel_rfl
include hP
theorem ZH{q:List Int}{a i j:Nat}{c:AF}(g:AB c a=some (.BG 3 1 (q.map iD)))(e:i<q.length)(f:j<q.length){K:BN->AF->Prop}(h:K (.ret (.d (.bool (decide (q.getD i 0<q.getD j 0))))) c):
 AX P 288 [.sl a q.length,.d (.int .i64 i),.d (.int .i64 j)] c K:=by
 refine Xt hP AQ Ze7 Zav A4.nil λ_ b=>?_;rw[Ve e,Ve f]at h;simp[Y61,g,e,f,F6,Gh];exact⟨[],by simp,by simpa using b [],by simpa[AD]using h⟩
theorem ZI{q:List Int}{a i j:Nat}{c:AF}(g:AB c a=some (.BG 3 1 (q.map iD)))(e:i<q.length)(f:j<q.length){K:BN->AF->Prop}(h:K (.ret (.BT [])) (AG c a (.BG 3 1 ((Ij q i j).map iD)))):
 AX P 292 [.sl a q.length,.d (.int .i64 i),.d (.int .i64 j)] c K:=by
 refine Xt hP AQ Ze9 Zax A4.nil λ_ b=>?_;simp only[Ij,Ve e,Ve f]at h;have k:∀h:j<((List.map (V.d∘iD) q).set i (V.d (iD q[j]))).length,(((List.map (V.d∘iD) q).set i (V.d (iD q[j])))[j]).shape=Sh.AR:=λh=>by
  rw[List.getElem_set];split
  ·rfl
  ·simp[D.shape]
 simp[Y63,g,e,f,F6,Gh,k];refine⟨[],by simp,?_,?_⟩
 ·rw[Xh (by simp)];apply BL;exact b []
 ·rw[Xh (by simp)];simpa[GG]using h
theorem ZK{q:List Int}{a:Nat}{c:AF}(e:AB c a=some (.BG 3 1 (q.map iD))){K:BN->AF->Prop}(h:K (.ret (.d (.int .i64 q.length))) c):AX P 196 [.sl a q.length] c K:=by
 refine Xt hP AQ oG nc A4.nil λ_ b=>?_;simp[nR,e];exact⟨[],by simp,by simpa using b [],by simpa[AD]using h⟩
theorem Zfw{q:List Int}{a b j:Nat}{f:AF}(n:AB f b=some (qB a q.length))(t:AB f a=some (qA q))(T:j<q.length)(X:q.length<=1000000){K:BN->AF->Prop}(h:K (.ret (.BT [])) (AG f a (qA (Hl q j)))):
 AX P 242 [.iface 287 (.ptr b []),.d (.int .i64 j)] f K:=by
 refine Xt hP AQ Zex Zam A4.nil λ_ k=>?_;have J:¬b=a:=λe=>by subst e;rw[t]at n;cases n
 have L:Xd P.p 288=true:=by rw[hP];exact uK
 have N:Xd P.p 292=true:=by rw[hP];exact gg
 have x:∀l:List Int,∀c,AB (AG f a (qA l)) c=if c=a then some (qA l) else AB f c:=λl c=>Xb f a c ⟨_,t⟩;have F:∀l:List Int,AB (AG f a (qA l)) a=some (qA l):=λl=>by rw[x,BS rfl]
 have G:∀l:List Int,AB (AG f a (qA l)) b=some (qB a q.length):=λl=>by rw[x,Aq J,n]
 simp[Y6t];refine Au.go (ι:=Nat×List Int) (λs=>[(0,.iface 287 (.ptr b [])),(1,.d (.int .i64 s.1))]) (λs=>AG f a (qA s.2)) (λs=>s.2.length=q.length/\s.1<q.length/\Hl s.2 s.1=Hl q j) (λs=>s.1) (j,q) ⟨rfl,T,rfl⟩ (by simp) (by rw[Yd t]) ?_;rintro⟨i,l⟩ ⟨r,Q,g⟩ R y U Z Y;simp only at r Q g y;have W:IntKind.i64.wrap ((i:Int)-1)=(i:Int)-1:=w_i _ (by omega);have Cq:∀H,Hl q j=l->R (.exit 0) H (AG f a (qA l)):=λH e=>by
  refine U _ _ _ ?_;simp;refine⟨[],by simp,?_,?_⟩
  ·rw[Xh (by simp)];apply BL;exact k []
  ·rw[Xh (by simp),<-e];exact h
 by_cases v:i=0
 ·subst v;have z:IntKind.i64.wrap ((IntKind.i64.wrap (-1)).tdiv 2)=0:=by decide
  simp[Xyn,z];exact Cq _ (by rw[<-g,Hl];simp)
 ·have w:IntKind.i64.wrap (((i:Int)-1).tdiv 2)=(((i-1) / 2:Nat):Int):=by
   have:((i:Int)-1).tdiv 2=(((i-1) / 2:Nat):Int):=by
    rw[Int.tdiv_eq_ediv_of_nonneg (by omega)];omega
   rw[this];exact w_i _ (by omega)
  rw[Hl,dif_neg v]at g;obtain⟨m,O⟩:∃m,m=(i-1) / 2:=⟨_,rfl⟩
  rw[<-O]at w g;have u:((m:Int)==i)=false:=by rw[Gz];omega
  simp[Xyn,W,w,u,L,N,G];rw[<-r];refine ZH hP (F l) (by omega) (by omega) ?_;by_cases o:l.getD i 0<l.getD m 0
  ·rw[BS o]at g;simp[o,G,-List.getD_eq_getElem?_getD];rw[<-r];refine ZI hP (F l) (by omega) (by omega) ?_;simp[Yh];refine y [] (m,Ij l m i) _ _ ⟨by simp only[Wr];exact r,by simp only;omega,g⟩ (by simp only;omega) (by simp) (Xh (by simp)) (by simp[AD];exact Xi n) ?_;apply BL;simpa using k []
  ·rw[Aq o]at g;simp[o,-List.getD_eq_getElem?_getD];exact Cq _ g.symm
theorem Yvo{q:List Int}{a b n:Nat}{f:AF}(u:AB f b=some (qB a q.length))(z:AB f a=some (qA q))(hn:n<=q.length)(hq:q.length<=1000000){K:BN->AF->Prop}(h:∀c,K (.ret (.d (.bool c))) (AG f a (qA (Hz q n 0)))):
 AX P 243 [.iface 287 (.ptr b []),.d (.int .i64 0),.d (.int .i64 n)] f K:=by
 refine Xt hP AQ Zey Zan A4.nil λ_ o=>?_;have U:¬b=a:=λe=>by subst e;rw[z]at u;cases u
 have x:Xd P.p 288=true:=by rw[hP];exact uK
 have W:Xd P.p 292=true:=by rw[hP];exact gg
 have O:∀l:List Int,∀c,AB (AG f a (qA l)) c=if c=a then some (qA l) else AB f c:=λl c=>Xb f a c ⟨_,z⟩;have G:∀l:List Int,AB (AG f a (qA l)) a=some (qA l):=λl=>by rw[O,BS rfl]
 have w:∀l:List Int,AB (AG f a (qA l)) b=some (qB a q.length):=λl=>by rw[O,Aq U,u]
 simp[Y6u];refine Au.go (ι:=Nat×List Int) (λs=>[(0,.iface 287 (.ptr b [])),(1,.d (.int .i64 0)),(2,.d (.int .i64 n)),(7,.d (.int .i64 s.1))]) (λs=>AG f a (qA s.2)) (λs=>s.2.length=q.length/\s.1<=q.length/\Hz s.2 n s.1=Hz q n 0) (λs=>n-s.1) (0,q) ⟨rfl,E2 _,rfl⟩ (by simp) (by rw[Yd z]) ?_;rintro⟨i,l⟩ ⟨m,X,j⟩ R Q re rr rp;simp only at m X j Q;have H:IntKind.i64.wrap (IntKind.i64.wrap (2*(i:Int))+1)=((2*i+1:Nat):Int):=by
  rw[w_i (2*(i:Int)) (by omega)];rw[w_i _ (by omega)];omega
 have T:IntKind.i64.wrap (((2*i+1:Nat):Int)+1)=((2*i+2:Nat):Int):=by
  rw[w_i _ (by omega)];omega
 have Cq:∀r,Hz q n 0=l->R (.exit 0) ((0,V.iface 287 (V.ptr b []))::(1,.d (.int .i64 0))::(2,.d (.int .i64 n))::(7,.d (.int .i64 i))::r) (AG f a (qA l)):=λr e=>by
  refine re _ _ _ ?_;simp;refine⟨[],by simp,?_,?_⟩
  ·rw[Xh (by simp)];apply BL;exact o []
  ·rw[Xh (by simp),<-e];exact h _
 by_cases L:n<=2*i+1
 ·have t:(n:Int)<=((2*i+1:Nat):Int):=by omega
  simp[dx,H,t,-Int.natCast_add,-Int.natCast_mul];exact Cq _ (by rw[<-j,Hz,dif_pos L])
 ·have t:¬(n:Int)<=((2*i+1:Nat):Int):=by omega
  have J:¬((2*i+1:Nat):Int)<0:=by omega
  rw[Hz,dif_neg L]at j
  -- what follows Cn the child is known
  have g:∀r c,c=KG l n i->Zb P [] WE R ((0,V.iface 287 (V.ptr b []))::(1,.d (.int .i64 0))::(2,.d (.int .i64 n))::(7,.d (.int .i64 i))::(9,.d (.int .i64 (c:Nat)))::r) (AG f a (qA l)):=λr c k=>by
   have Y:=WR l n i;have Z:=gz (l:=l) (n:=n) (i:=i) (by omega);rw[<-k]at Y Z j;simp[Ye7,x,W,w];rw[<-m];refine ZH hP (G l) (by omega) (by omega) ?_;by_cases v:l.getD c 0<l.getD i 0
   ·rw[BS v]at j;simp[v,w,-List.getD_eq_getElem?_getD];rw[<-m];refine ZI hP (G l) (by omega) (by omega) ?_;simp[Yh];refine Q [] (c,Ij l i c) _ _ ⟨by simp only[Wr];exact m,by simp only;omega,j⟩ (by simp only;omega) (by simp) (Xh (by simp)) (by simp[AD];exact Xi u) ?_;apply BL;simpa using o []
   ·rw[Aq v]at j;simp[v,-List.getD_eq_getElem?_getD];exact Cq _ j.symm
  by_cases N:2*i+2<n
  ·have y:((2*i+2:Nat):Int)<n:=by omega
   simp[dx,H,T,t,J,y,x,w,-Int.natCast_add,-Int.natCast_mul];rw[<-m];refine ZH hP (G l) (by omega) (by omega) ?_;by_cases k:l.getD (2*i+2) 0<l.getD (2*i+1) 0
   ·simp[k,-List.getD_eq_getElem?_getD,-Int.natCast_add,-Int.natCast_mul];exact g [] _ (by rw[KG,BS ⟨N,k⟩])
   ·simp[k,-List.getD_eq_getElem?_getD,-Int.natCast_add,-Int.natCast_mul];exact g _ _ (by rw[KG,Aq (λF=>k F.2)])
  ·have y:¬((2*i+2:Nat):Int)<n:=by omega
   simp[dx,H,T,t,J,y,x,w,-Int.natCast_add,-Int.natCast_mul];exact g _ _ (by rw[KG,Aq (λF=>N F.1)])
theorem Yfd{b:Nat}{x:Int}{a:AF}(e:AB a b=some (.box 290 (.d (.agg [.Ad])))){K:BN->AF->Prop}(h:K (.ret (.BT [])) ((AA a,qA [x])::AG a b (qB (AA a) 1))):
 AX P 290 [.ptr b [],.d (.iface 3 (.int .i64 x))] a K:=by
 refine Xt hP AQ Y34 Y0k A4.nil λ_ c=>?_;have g:=Xi e;simp[Yu7,e,show ¬AA a=b by omega];have f:Xk (AD (AA a) [AA a]) (AG a b (qB (AA a) 1))=AG a b (qB (AA a) 1):=Xh (by simp);refine⟨[AA a],by simp,?_,?_⟩
 ·rw[Xk,Aq (by simp[AD]),f];simp only[AI];apply Af
  ·exact c _
  ·simp[V.BQ,BY,AD]
 ·rw[Xk,Aq (by simp[AD]),f];exact h
theorem Yoq{a b:Nat}{q:List Int}{x:Int}{f:AF}(i:AB f b=some (qB a q.length))(g:AB f a=some (qA q))(p:q.length<=1000000){K:BN->AF->Prop}(h:K (.ret (.BT [])) (AG (AG f a (qA (q++[x]))) b (qB a (q.length+1)))):
 AX P 290 [.ptr b [],.d (.iface 3 (.int .i64 x))] f K:=by
 refine Xt hP AQ Y34 Y0k A4.nil λ_ j=>?_;have k:¬b=a:=λe=>by subst e;rw[g]at i;cases i
 have m:=Xi i;have n:∀o c,AB (AG f a o) c=if c=a then some o else AB f c:=λo c=>Xb f a c ⟨_,g⟩;simp[Yu7,i,g,n,k];have l:=Xi g;refine⟨by omega,[],by simp,?_,?_⟩
 ·rw[Xh (by simp)];apply Af
  ·apply BL;exact j _
  ·simp[V.BQ,BY,AD];omega
 ·rw[Xh (by simp)];simpa[qA,qB]using h
theorem Yvu{a b:Nat}{q:List Int}{f:AF}(g:AB f b=some (qB a q.length))(i:AB f a=some (qA q))(u:q.length<=1000000)(l:0<q.length){K:BN->AF->Prop}(h:K (.ret (.d (.iface 3 (.int .i64 (q.getD (q.length-1) 0))))) ((AA f,qA (q.take (q.length-1)))::AG (AG f a .An) b (qB (AA f) (q.length-1)))):
 AX P 289 [.ptr b []] f K:=by
 refine Xt hP AQ Ze8 Zaw A4.nil λ_ k=>?_;have n:¬b=a:=λe=>by subst e;rw[i]at g;cases g
 have r:=Xi g;have s:∀o c,AB (AG f a o) c=if c=a then some o else AB f c:=λo c=>Xb f a c ⟨_,i⟩;have p:q[q.length-1]? = some (q[q.length-1]'(by omega)):=DN _;have t:IntKind.i64.wrap ((q.length:Int)-1)=((q.length-1:Nat):Int):=by
  rw[w_i _ (by omega)];omega
 simp[Y62,g,i,s,n,t,O0,XH,F6,Gh,p,show q.length-1<q.length by omega];have j:q≠[]:=λe=>by rw[e]at l;simp at l
 have m:∀o,Xk (AD (AA f) [AA f]) (AG (AG f a .An) b o)=AG (AG f a .An) b o:=λo=>Xh (by simp);refine⟨j,[AA f],by simp,?_,?_⟩
 ·rw[Xk,Aq (by simp[AD]),m];simp only[AI];apply Af
  ·exact dA (k _)
  ·simp[V.BQ,BY,AD]
 ·rw[Xk,Aq (by simp[AD]),m];rw[Ve (by omega)]at h;simpa[qA,qB,Kv]using h
theorem KU{b:Nat}{x:Int}{a:AF}(c:AB a b=some (.box 290 (.d (.agg [.Ad])))){K:BN->AF->Prop}(h:K (.ret (.BT [])) ((AA a,qA (H7 [] x))::AG a b (qB (AA a) 1))):
 AX P 195 [.iface 287 (.ptr b []),.d (.iface 3 (.int .i64 x))] a K:=by
 refine Xt hP AQ Y32 Y0j A4.nil λ_ e=>?_;have m:Xd P.p 290=true:=by rw[hP];exact uL
 have n:Xd P.p 196=true:=by rw[hP];exact ZN
 have o:=Xi c;have i:AB ((AA a,qA [x])::AG a b (qB (AA a) 1)) b=some (qB (AA a) 1):=by
  rw[AB,Aq (by omega),Xb a b b ⟨_,c⟩,BS rfl]
 have k:AB ((AA a,qA [x])::AG a b (qB (AA a) 1)) (AA a)=some (qA [x]):=by simp[AB]
 have f:H7 [] x=[x]:=by rw[H7,Hl];simp
 rw[f]at h;simp[Yu6,m,n];refine Yfd hP c ?_;simp[i];refine ZK (q:=[x]) hP k ?_;have r:IntKind.i64.wrap 0=0:=by decide
 simp[r];refine Zfw (q:=[x]) (j:=0) hP i k (by simp) (by simp) ?_;have g:Hl [x] 0=[x]:=by rw[Hl];simp
 simp[g];have l:Xk (AD (AA a) [AA a]) (AG a b (qB (AA a) 1))=AG a b (qB (AA a) 1):=Xh (by simp);refine⟨[AA a],by simp,?_,?_⟩
 ·rw[Xk,Aq (by simp[AD]),l];simp only[AI];apply Af
  ·exact e _
  ·simp[V.BQ,BY,AD]
 ·rw[Xk,Aq (by simp[AD]),l];exact h
theorem Mb{a b:Nat}{q:List Int}{x:Int}{f:AF}(i:AB f b=some (qB a q.length))(m:AB f a=some (qA q))(J:q.length<1000000){K:BN->AF->Prop}(h:K (.ret (.BT [])) (AG (AG f a (qA (H7 q x))) b (qB a (q.length+1)))):
 AX P 195 [.iface 287 (.ptr b []),.d (.iface 3 (.int .i64 x))] f K:=by
 refine Xt hP AQ Y32 Y0j A4.nil λ_ t=>?_;have y:Xd P.p 290=true:=by rw[hP];exact uL
 have z:Xd P.p 196=true:=by rw[hP];exact ZN
 have n:¬b=a:=λe=>by subst e;rw[m]at i;cases i
 have w:¬a=b:=λe=>n e.symm;have G:=Xi i;have F:=Xi m;have v:∀o c,AB (AG f a o) c=if c=a then some o else AB f c:=λo c=>Xb f a c ⟨_,m⟩;have g:∀o u c,AB (AG (AG f a o) b u) c=if c=b then some u else if c=a then some o else AB f c:=λo u c=>by
  rw[Xb _ b c ⟨qB a q.length,by rw[v,Aq n,i]⟩,v]
 have r:AB (AG (AG f a (qA (q++[x]))) b (qB a (q.length+1))) b=some (qB a (q++[x]).length):=by rw[g,BS rfl];simp
 have l:AB (AG (AG f a (qA (q++[x]))) b (qB a (q.length+1))) a=some (qA (q++[x])):=by rw[g,Aq w,BS rfl]
 simp[Yu6,y,z];refine Yoq hP i m (by omega) ?_;have s:AB (AG (AG f a (qA (q++[x]))) b (qB a (q.length+1))) b=some (qB a (q.length+1)):=by rw[g,BS rfl]
 simp only[zq];simp[s];have k:q.length+1=(q++[x]).length:=by simp
 rw[k];rw[k]at r l;refine ZK hP l ?_;have H:IntKind.i64.wrap (q.length:Int)=q.length:=w_i _ (by omega);simp[H];rw[C7,List.length_singleton]at r l;refine Zfw (q:=q++[x]) (j:=q.length) hP (by rw[r];simp) l (by simp) (by simp;omega) ?_;rw[Ycr n];simp;refine⟨[],by simp,?_,?_⟩
 ·rw[Jl];apply Af
  ·apply BL;exact t _
  ·simp[V.BQ,BY,AD];omega
 ·rw[Jl];exact h
theorem O1{a b:Nat}{q:List Int}{f:AF}(g:AB f b=some (qB a q.length))(k:AB f a=some (qA q))(u:q.length<=1000000)(s:0<q.length){K:BN->AF->Prop}(h:K (.ret (.d (.iface 3 (.int .i64 (FL q))))) ((AA f,qA (Gj q))::AG (AG f a .An) b (qB (AA f) (q.length-1)))):
 AX P 197 [.iface 287 (.ptr b [])] f K:=by
 refine Xt hP AQ Zd1 Y93 A4.nil λ_ m=>?_;have z:Xd P.p 289=true:=by rw[hP];exact Yv9
 have F:Xd P.p 196=true:=by rw[hP];exact ZN
 have G:Xd P.p 292=true:=by rw[hP];exact gg
 have y:¬b=a:=λe=>by subst e;rw[k]at g;cases g
 have J:=Xi g;have H:=Xi k;have v:∀o c,AB (AG f a o) c=if c=a then some o else AB f c:=λo c=>Xb f a c ⟨_,k⟩;have x:∀o,AB (AG f a o) b=some (qB a q.length):=λo=>by rw[v,Aq y,g]
 have w:∀o,AB (AG f a o) a=some o:=λo=>by rw[v,BS rfl]
 have L:IntKind.i64.wrap ((q.length:Int)-1)=((q.length-1:Nat):Int):=by
  rw[w_i _ (by omega)];omega
 have r:(Ij q 0 (q.length-1)).length=q.length:=Wr _ _ _;have l:(KP q).length=q.length:=VF q;simp[Y6f,z,F,G,g];refine ZK hP k ?_;simp[L,g];refine ZI (i:=0) (j:=q.length-1) hP k s (by omega) ?_;simp;refine Yvo (q:=Ij q 0 (q.length-1)) (n:=q.length-1) hP (by rw[r];exact x _) (w _) (by rw[r];omega) (by rw[r];exact u) λc=>?_;rw[Yh];simp;refine Yvu (q:=KP q) hP (by rw[l];exact x _) (w _) (by rw[l];exact u) (by rw[l];exact s) ?_;rw[l,Yh,Wl];simp only[zq];simp;have t:∀o,Xk (AD (AA f) [AA f]) (AG (AG f a .An) b o)=AG (AG f a .An) b o:=λo=>Xh (by simp);refine⟨[AA f],by simp,?_,?_⟩
 ·rw[Xk,Aq (by simp[AD]),t];simp only[AI];apply Af
  ·exact dA (m _)
  ·simp[V.BQ,BY,AD]
 ·rw[Xk,Aq (by simp[AD]),t];simpa[FL,Gj]using h
omit hP
end Go.Ab
