/- Contract: names.numberRule. Condition: the program is the seat's. -/
import Derived.Test.YtfedhegpmfkfoaaGreatDoorH5
set_option maxRecDepth 100000
set_option linter.unusedSimpArgs false
set_option linter.unusedVariables false
set_option linter.unusedSectionVars false
set_option linter.defProp false
namespace Go.Ab
open Go Go.Proofs
open Go.Proofs.Tryz (prog)
variable {P:Az}(hP:P.p=prog)
def CU(l:List B)(n:B):Option Nat:=l.findIdx? (λx=>decide (x=n))
def Yc8(l:List B)(x n:B):CU (l++[x]) n=(CU l n).or (if x=n then some l.length else none):=by
 unfold CU;rw[List.findIdx?_append];congr 1;by_cases e:x=n<;>simp[e]
def Jb{l:List B}{n:B}:CU l n=none↔n∉l:=by
 unfold CU;rw[List.findIdx?_eq_none_iff];constructor
 ·intro h a;simpa using h n a
 ·intro h x b;simp;rintro rfl;exact h b
def Nk{l:List B}{n:B}{i:Nat}(h:CU l n=some i):i<l.length:=by
 unfold CU at h;rw[List.findIdx?_eq_some_iff_getElem]at h;exact h.1
def Y3(l:List B):Nat->List (D×V)
|0=>[]
|k+1=>match l[k]? with
 |none=>Y3 l k
 |some n=>if n∈l.take k then Y3 l k else Y3 l k++[(.AM n,.d (.int .i64 k))]
def Ub(k j:D)(v:V):∀l:List (D×V),Yh k (l++[(j,v)])=(Yh k l).or (if C8 k j then some v else none)
|[]=>by simp[Yh]
|(a,b)::r=>by
 have c:=Ub k j v r;simp only[List.cons_append,Yh,c];split<;>simp
def Wo(k:D)(v:V):∀l:List (D×V),Yh k l=none->EL k v l=l++[(k,v)]
|[],_=>by simp[EL]
|(a,b)::r,h=>by
 simp only[Yh]at h;split at h
 ·cases h
 next e=>simp only[EL,e,BF,Ci,List.cons_append,Wo k v r h]
def Ql(l:List B)(n:B):∀k,k<=l.length->Yh (.AM n) (Y3 l k)=(CU (l.take k) n).map λi=>V.d (.int .i64 i)
|0,_=>by simp[Y3,Yh,CU]
|k+1,g=>by
 have c:=Ql l n k (by omega);have a:k<l.length:=g;rw[Y3,Cn a,Ca a,Yc8];simp only;by_cases b:l[k]∈l.take k
 ·rw[BL b,c];by_cases e:l[k]=n
  ·have:CU (l.take k) n≠none:=λh=>Jb.1 h (e▸b);cases h:CU (l.take k) n with
   |none=>exact absurd h this
   |some i=>simp
  ·simp[e]
 ·rw[Af b,Ub,c];by_cases e:l[k]=n
  ·cases h:CU (l.take k) n with
   |none=>
    have j:(l.take k).length=k:=by simp;omega
    simp[e,C8,j]
   |some i=>simp
  ·have f:¬n=l[k]:=λh=>e h.symm;simp[e,f,C8]
def Qm(l:List B)(n:B):∀k,U7 (.AM []) (.AM n) (Y3 l k)
|0=>⟨rfl,λe a=>by cases a⟩
|k+1=>by
 have b:=Qm l n k;rw[Y3];split
 ·exact b
 ·split
  ·exact b
  ·refine⟨b.1,λe a=>?_⟩;rw[DF]at a;rcases a with a|a
   ·exact b.2 e a
   ·simp only[DW]at a;subst a;rfl
def vL(p:Nat->Bool)(k:D)(v:V):∀l:List (D×V),Ym p (l++[(k,v)])=(Ym p l||V.BJ p v)
|[]=>by simp[Ym]
|(a,b)::r=>by simp[Ym,vL p k v r,Bool.or_assoc]
def Yx(p:Nat->Bool)(l:List B):∀k,Ym p (Y3 l k)=false
|0=>rfl
|k+1=>by
 have a:=Yx p l k;rw[Y3];split
 ·exact a
 ·split
  ·exact a
  ·rw[vL,a];rfl
def DB{a:Type}(f:List a->a->Option a):List a->List a->Option (List a)
|pre,[]=>some pre
|pre,x::r=>(f pre x).bind λy=>DB f (pre++[y]) r
def Ju{a:Type}(l:List a)(f:a->Option a):Option (List a):=DB (λ_=>f) [] l
def Lo(a:List B)(b:List At)(u:At):Option At:=
 if u.CF=[] then some {u with base:=b.length,BP:=1}
 else (CU a u.CF).bind λ(n:Nat)=>(b[n]?).map λv=>{u with base:=v.base,BP:=if 2<=u.BQ/\u.BQ<=1000/\u.BQ*v.BP<=1099511627776 then u.BQ*v.BP else 0}
def Js(a:List B)(f:Ad):Option Ad:=
 if f.type.kind=1/\f.type.CF≠[] then (CU a f.type.CF).map λ(n:Nat)=>{f with type:={f.type with unit:=n} }
 else some {f with type:={f.type with unit:=-1} }
def O8(a:List B):List Nat->List B->Option (List Nat)
|pre,[]=>some pre
|pre,x::r=>(CU a x).bind λn=>O8 a (pre++[n]) r
def Lr(a:List B)(d:Ax):Option Ax:=
 (O8 a [] d.names).bind λl=>(CU a d.name).map λ(n:Nat)=>{d with Aw:=l.map Int.ofNat,CA:=n}
def V4(a b:List B)(s:AI):Option AI:=
 (CU a s.FJ).bind λ(i:Nat)=>(Ju s.AL (Js b)).bind λd=>(Ju s.Aj (Lr (s.AL.map Ad.name))).map λc=>{s with Bz:=i,AL:=d,Aj:=c}
def Ya(a:List AI)(s:Int):List B:=(match a[s.toNat]? with|some x=>x.AL|none=>[]).map Ad.name
def J9(b:List AI)(a:List Am)(t:BG):Option BG:=
 if t.name=[] then some {t with var:=-1,field:=0}
 else (CU (a.map Am.name) t.name).bind λ(v:Nat)=>(a[v]?).bind λx=>(CU (Ya b x.AP) t.path).map λ(f:Nat)=>{t with var:=v,field:=f}
def Mj(a:List AI)(b:List Am)(x:Am):Option Am:=
 (CU (a.map AI.name) x.kind).bind λ(n:Nat)=>(J9 a b x.CF).map λt=>{x with AP:=n,CF:=t}
def Mh(c:List AI)(d:List Am)(a:BB):Option BB:=
 (J9 c d a.a).bind λx=>(J9 c d a.b).map λy=>{a with a:=x,b:=y}
def M3(a:List AI)(s:Int)(b:List Am)(x:Ba):Option Ba:=
 (CU (Ya a s) x.path).bind λ(n:Nat)=>(J9 a b x.Ce).map λt=>{x with field:=n,Ce:=t}
def Ji(a:List AI)(r:Ai):Option Ai:=
 (CU (a.map AI.name) r.head).bind λ(n:Nat)=>(DB (Mj a) [] r.AW).bind λb=>(Ju r.Ak (Mh a b)).bind λc=>(Ju r.BK (M3 a n b)).map λd=>{r with AP:=n,AW:=b,Ak:=c,BK:=d}
def Nw(c:List AI)(a b:Int)(m:A8):Option A8:=
 (CU (Ya c a) m.Aw).bind λ(x:Nat)=>(CU (Ya c b) m.CA).map λ(y:Nat)=>{m with a:=x,b:=y}
def Zc(d:List AI)(c:Ag):Option Ag:=
 (CU (d.map AI.name) c.Aw).bind λ(a:Nat)=>(CU (d.map AI.name) c.CA).bind λ(b:Nat)=>(Ju c.Ap (Nw d a b)).map λe=>{c with a:=a,b:=b,Ap:=e}
def OL(a:List AI)(m:CM):Option CM:=
 (CU (a.map AI.name) m.name).bind λ(s:Nat)=>(CU (Ya a s) m.path).map λ(f:Nat)=>{m with AP:=s,field:=f}
def W5(a:List AI)(p:AR):Option AR:=
 (Ju p.CW (OL a)).map λl=>{p with CW:=l}
def W7(s:Ah):Option Ah:=
 (DB (Lo (s.Au.map At.name)) [] s.Au).bind λe=>
 (Ju s.AD (V4 s.Al (s.Au.map At.name))).bind λd=>
 (Ju s.AK (Ji s.AD)).bind λc=>
 (Ju s.AQ (Zc s.AD)).bind λa=>
 (Ju s.AN (W5 s.AD)).map λb=>{s with Au:=e,AD:=d,AK:=c,AQ:=a,AN:=b}
def PI(s:Ah):Bool:=
 !(decide s.Al.Nodup&&decide (s.Au.map At.name).Nodup&&decide (s.AD.map AI.name).Nodup&&decide (s.AN.map AR.name).Nodup&&s.AD.all (λx=>decide (x.AL.map Ad.name).Nodup)&&s.AK.all (λr=>decide (r.AW.map Am.name).Nodup))
def lP(E z:Nat)(c:D):S2:=.seq (.rg [] [(1,(.a (.t 1))),(4,(.a (.t 4))),(5,(.a (.t 5))),(13,(.a (.t 13))),(14,(.a (.t 14))),(15,(.a (.t 15))),(16,(.b (.Bc .lss (.t 0) (.t 1)) (.a (.t 15)) (.a (.t 14))))] [])
 (.seq (.cond (.t 16) (.skip) (.exit 0))
 (.seq (.block 1 (.seq (.rg [.Aa [] (.u (.ld z true (.t 0)) (.b (.DI z (.t 0) (.t 1)) (.a (.t 13)) (.a (.t 15)))),.lt 19 [] (.u (.ld z true (.t 0)) (.b (.DI z (.t 0) (.t 1)) (.a (.t 13)) (.a (.t 15)))),.op (some 7) (.alloc E c),.op none (.st z (.t 7) (.t 19))] [(1,(.a (.t 1))),(4,(.a (.t 4))),(5,(.a (.t 5))),(6,(.a (.t 15))),(7,(.a (.t 7))),(13,(.a (.t 13))),(14,(.a (.t 14))),(15,(.a (.t 15)))] [])
 (.seq (.seq (.rg [.Aa [] (.u (.ld z true (.t 0)) (.a (.t 7))),.lt 23 [] (.u (.ld z true (.t 0)) (.a (.t 7))),.lt 22 [] (.a (.t 1)),.op (some 24) (.Cq (.t 22) [(.t 23)]),.lt 21 [] (.a (.t 4)),.op (some 25) (.Ib (.AM []) (.int .i64 0) true (.t 21) (.t 24)),.Aa [] (.u (.ext (.t 0) 0) (.a (.t 25)))] [(1,(.a (.t 1))),(4,(.a (.t 4))),(5,(.a (.t 5))),(6,(.a (.t 6))),(7,(.a (.t 7))),(9,(.u (.ext (.t 0) 1) (.a (.t 25)))),(13,(.a (.t 13))),(14,(.a (.t 14))),(15,(.a (.t 15)))] [])
 (.seq (.rg [] [(1,(.a (.t 1))),(4,(.a (.t 4))),(5,(.a (.t 5))),(6,(.a (.t 6))),(7,(.a (.t 7))),(13,(.a (.t 13))),(14,(.a (.t 14))),(15,(.a (.t 15))),(28,(.a (.t 9)))] [])
 (.cond (.t 28) (.seq (.rg [] [(1,(.a (.t 1))),(4,(.a (.t 4))),(5,(.a (.bool true))),(13,(.a (.t 13))),(14,(.a (.t 14))),(15,(.a (.t 15)))] [])
 (.exit 1)) (.skip))))
 (.rg [.Aa [] (.u (.ld z true (.t 0)) (.a (.t 7))),.lt 31 [] (.u (.ld z true (.t 0)) (.a (.t 7))),.lt 30 [] (.a (.t 1)),.op (some 32) (.Cq (.t 30) [(.t 31)]),.lt 33 [] (.a (.t 6)),.lt 29 [] (.a (.t 4)),.op none (.C7 (.AM []) (.t 29) (.t 32) (.t 33))] [(1,(.a (.t 1))),(4,(.a (.t 4))),(5,(.a (.t 5))),(13,(.a (.t 13))),(14,(.a (.t 14))),(15,(.a (.t 15)))] []))))
 (.rg [] [(1,(.a (.t 1))),(4,(.a (.t 4))),(5,(.a (.t 5))),(13,(.a (.t 13))),(14,(.a (.t 14))),(15,(.b (.Bc .add (.t 0) (.t 1)) (.a (.t 15)) (.a (.int .i64 1))))] [])))
def N5(E z:Nat)(b:D):S2:=.seq (.rg [] [(0,(.a (.t 0))),(1,(.a (.t 1))),(5,(.a (.bool false)))] [])
 (.seq (.rg [.Aa [] (.u (.CV (.t 0)) (.a (.t 0))),.lt 11 [] (.u (.CV (.t 0)) (.a (.t 0))),.op (some 12) (.HP (some (.t 11)))] [(0,(.a (.t 0))),(1,(.a (.t 1))),(4,(.a (.t 12))),(5,(.a (.t 5)))] [])
 (.seq (.seq (.rg [] [(1,(.a (.t 1))),(4,(.a (.t 4))),(5,(.a (.t 5))),(13,(.a (.t 0))),(14,(.u (.CV (.t 0)) (.a (.t 0)))),(15,(.a (.int .i64 0)))] [])
 (.block 0 (.loop [1,4,5,13,14,15] (lP E z b))))
 (.seq (.rg [] [(4,(.a (.t 4))),(5,(.a (.t 5)))] [])
 (.ret))))
section
variable {P:Az} {p:Program} (hPp:P.p=p) (hm:p.follows .mixedOrders=true)
include hPp hm
theorem SX{f E z o:Nat}{y:D}{ir:S}(M:Xr p f 2 ir [.t 4,.t 5]=true)(L:ir.AZ []=some (N5 E z y))
 {w:Type} {l:List w} {c:w->D} {nm:w->B} (hl:l.length<=9223372036854775807) (J:Xd p o=true) (u:∀(x:w)(j:AB)(K:A7->AB->Prop),K (.ret (.d (.AM (nm x)))) j->AV P o [.d (c x)] j K)
 (O:∀x,(c x).sz=z) (H:∀x,V.isAgg (.d (c x))=true) (N:∀x,(c x).shape=y.shape)
 {j:AB} {K:A7->AB->Prop} (h:K (.ret (.BE [.mp (fresh j),.d (.bool (!decide (l.map nm).Nodup))])) ((fresh j,.map (Y3 (l.map nm) l.length))::j)):
 AV P f [.d (.AF z (l.map c)),.fn o [] []] j K:=by
 refine Xk hPp hm M L BD.nil λ_ n=>?_;have q:Xd P.p o=true:=by rw[hPp];exact J
 simp[N5];refine Ae.upto l.length (λk=>[(1,.fn o [] []),(4,.mp (fresh j)),(5,.d (.bool (!decide ((l.map nm).take k).Nodup))),(13,.d (.AF z (l.map c))),(14,.d (.int .i64 l.length)),(15,.d (.int .i64 k))])
  (λk=>(fresh j,.map (Y3 (l.map nm) k))::j) (λ_=>True) trivial (by simp) (by simp[Y3]) ?_ ?_
 ·intro k Z _ R rn re rr rp
  have wr:=w_s k (by omega);have hx:=O l[k];have hs:=N l[k];have Q:(c l[k]).shape.size=z:=by rw[CC];exact hx
  have G:=H l[k];have s:k<(l.map nm).length:=by simpa using Z
  have W:=Ql (l.map nm) (nm l[k]) k (by simp;omega);have X:=Qm (l.map nm) (nm l[k]) k;have T:y.shape.size=z:=by rw[<-hs];exact Q
  have ts:(l.map nm).take (k+1)=(l.map nm).take k++[nm l[k]]:=by rw[Ca s];simp
  have U:Y3 (l.map nm) (k+1)=if nm l[k]∈(l.map nm).take k then Y3 (l.map nm) k else Y3 (l.map nm) k++[(.AM (nm l[k]),.d (.int .i64 k))]:=by
   rw[Y3,Cn s];simp
  simp[lP,Z,hx,hs,Q,T,q];refine⟨G,u _ _ _ ?_⟩;simp[W,X];cases v:CU ((l.map nm).take k) (nm l[k]) with
  |some i=>
   have g:nm l[k]∈(l.map nm).take k:=by
    rcases Classical.em (nm l[k]∈(l.map nm).take k) with h|h
    ·exact h
    ·rw[Jb.2 h]at v;cases v
   have m:¬((l.map nm).take (k+1)).Nodup:=by
    rw[ts,Em];exact λr=>r.2.2 _ g _ (by simp) rfl
   simp;refine rn [] _ _ trivial (by simp[wr,m]) ?_ (by simp[AE]) ?_
   ·simp[U,g,AE]
   ·simp[AE,AH,Yx]
    exact X8 n (by omega)
  |none=>
   have g:=Jb.1 v;simp[Q,G];refine⟨G,u _ _ _ ?_⟩;have F:Yh (.AM (nm l[k])) (Y3 (l.map nm) k)=none:=by rw[W,v];rfl
   have m:decide ((l.map nm).take (k+1)).Nodup=decide ((l.map nm).take k).Nodup:=by
    rw[ts,decide_eq_decide,Em];constructor
    ·exact λr=>r.1
    ·refine λr=>⟨r,by simp,λa h1 b Y=>?_⟩
     simp only[DW]at Y;subst Y;exact λe=>g (e▸h1)
   simp[X,Wo _ _ _ F];refine rn [] _ _ trivial (by simp[wr,m]) ?_ (by simp[AE]) ?_
   ·simp[U,g,AE]
   ·simp[AE,AH,Yx]
    exact X8 n (by omega)
 ·intro _ R re rr rp
  simp[lP];refine re _ _ _ ?_;have ht:(l.map nm).take l.length=l.map nm:=JI (by simp);simp[ht];refine⟨[fresh j],by simp[AE],?_,?_⟩
  ·simp[AE,AH,Yx]
   exact X8 n (by omega)
  ·simpa[AE]using h
end
def Yjd:yp.AZ []=some (N5 88 5 (.agg [.AM [],.AM [],.int .i64 0,.int .i64 0,.int .i64 0])):=by kernel_rfl
def Yi2:Xd prog 168=true:=by kernel_rfl
def X0z:nB.AZ []=some (N5 54 6 (.agg [.AM [],.AM [],.int .i64 0,.int .i64 0,.AT,.AT])):=by kernel_rfl
def X0q:Xd prog 37=true:=by kernel_rfl
def Xw9:nC.AZ []=some (N5 77 3 (.agg [.AM [],.AT,.int .i64 0])):=by kernel_rfl
def Xw6:Xd prog 171=true:=by kernel_rfl
def Yae:nE.AZ []=some (N5 136 11 (.agg [.AM [],.agg [.int .i64 0,.int .i64 0,.int .i64 0,.AM [],.int .i64 0,.AT],.agg (List.replicate 4 (.int .i64 0))])):=by kernel_rfl
def X98:Xd prog 173=true:=by kernel_rfl
def Yjc:nI.AZ []=some (N5 50 8 (.agg [.AM [],.AM [],.int .i64 0,.agg [.AM [],.AM [],.int .i64 0,.int .i64 0,.int .i64 0]])):=by kernel_rfl
def Yi1:Xd prog 175=true:=by kernel_rfl
include hP
theorem Yjg{x:At}{a:AB}{K:A7->AB->Prop}(h:K (.ret (.d (.AM x.name))) a):AV P 168 [.d x.enc] a K:=by
 refine AU.Bm (AJ hP AO (ds:=[x.enc]) Y91 Y67 BD.nil ?_);simp[Y1b,At.enc];exact h
theorem Xz2{l:List At}(b:l.length<=9223372036854775807){a:AB}{K:A7->AB->Prop}(h:K (.ret (.BE [.mp (fresh a),.d (.bool (!decide (l.map At.name).Nodup))])) ((fresh a,.map (Y3 (l.map At.name) l.length))::a)):
 AV P 167 [.d (.AF 5 (l.map At.enc)),.fn 168 [] []] a K:=
 SX hP AO (nm:=At.name) Y90 Yjd b Yi2 (λx a K h=>Yjg hP h) (λ_=>rfl) (λ_=>rfl) (λ_=>rfl) h
theorem Xpl{l:List AI}(b:l.length<=9223372036854775807){a:AB}{K:A7->AB->Prop}(h:K (.ret (.BE [.mp (fresh a),.d (.bool (!decide (l.map AI.name).Nodup))])) ((fresh a,.map (Y3 (l.map AI.name) l.length))::a)):
 AV P 169 [.d (.AF 6 (l.map AI.enc)),.fn 37 [] []] a K:=
 SX hP AO (nm:=AI.name) Y92 X0z b X0q (λx a K h=>lE hP h) (λ_=>rfl) (λ_=>rfl) (λ_=>rfl) h
theorem Xlw{l:List AR}(b:l.length<=9223372036854775807){a:AB}{K:A7->AB->Prop}(h:K (.ret (.BE [.mp (fresh a),.d (.bool (!decide (l.map AR.name).Nodup))])) ((fresh a,.map (Y3 (l.map AR.name) l.length))::a)):
 AV P 170 [.d (.AF 3 (l.map AR.enc)),.fn 171 [] []] a K:=
 SX hP AO (nm:=AR.name) Y93 Xw9 b Xw6 (λx a K h=>Zhw hP h) (λ_=>rfl) (λ_=>rfl) (λ_=>rfl) h
theorem Xwu{l:List Ad}(b:l.length<=9223372036854775807){a:AB}{K:A7->AB->Prop}(h:K (.ret (.BE [.mp (fresh a),.d (.bool (!decide (l.map Ad.name).Nodup))])) ((fresh a,.map (Y3 (l.map Ad.name) l.length))::a)):
 AV P 172 [.d (.AF 11 (l.map Ad.enc)),.fn 173 [] []] a K:=
 SX hP AO (nm:=Ad.name) Y95 Yae b X98 (λx a K h=>Y17 hP h) (λ_=>rfl) (λ_=>rfl) (λ_=>rfl) h
theorem Yjf{x:Am}{a:AB}{K:A7->AB->Prop}(h:K (.ret (.d (.AM x.name))) a):AV P 175 [.d x.enc] a K:=by
 refine AU.Bm (AJ hP AO (ds:=[x.enc]) Y98 Y7a BD.nil ?_);simp[Y1e,Am.enc,BG.enc];exact h
theorem Xz1{l:List Am}(b:l.length<=9223372036854775807){a:AB}{K:A7->AB->Prop}(h:K (.ret (.BE [.mp (fresh a),.d (.bool (!decide (l.map Am.name).Nodup))])) ((fresh a,.map (Y3 (l.map Am.name) l.length))::a)):
 AV P 174 [.d (.AF 8 (l.map Am.enc)),.fn 175 [] []] a K:=
 SX hP AO (nm:=Am.name) Y97 Yjc b Yi1 (λx a K h=>Yjf hP h) (λ_=>rfl) (λ_=>rfl) (λ_=>rfl) h
omit hP
abbrev Y5:D:=.iface 163 (.agg [])
def Ysp:Xd prog 166=true:=by kernel_rfl
include hP
theorem Yem{x:B}{a:AB}{K:A7->AB->Prop}(h:K (.ret (.d (.AM x))) a):AV P 166 [.d (.AM x)] a K:=by
 refine AU.Bm (AJ hP AO (ds:=[.AM x]) Y9z Y66 BD.nil ?_);simp[Y1a];exact h
theorem X9j{l:List B}(M:l.length<=9223372036854775807){g:AB}{K:A7->AB->Prop}(h:K (.ret (.BE [.mp (fresh g),.d (.bool (!decide l.Nodup))])) ((fresh g,.map (Y3 l l.length))::g)):
 AV P 165 [.d (Xg l),.fn 166 [] []] g K:=by
 have f:Xd P.p 166=true:=by rw[hP];exact Ysp
 refine Xk hP AO Y9y Y65 BD.nil λ_ m=>?_;simp only[Xg];simp[Y09];refine Ae.upto l.length (λk=>[(1,.fn 166 [] []),(4,.mp (fresh g)),(5,.d (.bool (!decide (l.take k).Nodup))),(13,.d (.AF 1 (l.map .AM))),(14,.d (.int .i64 l.length)),(15,.d (.int .i64 k))])
  (λk=>(fresh g,.map (Y3 l k))::g) (λ_=>True) trivial (by simp) (by simp[Y3]) ?_ ?_
 ·intro k w _ R y x L J;have F:=w_s k (by omega);have o:=w;have t:=Ql l l[k] k (by omega);have u:=Qm l l[k] k;have z:l.take (k+1)=l.take k++[l[k]]:=by rw[Ca o]
  have s:Y3 l (k+1)=if l[k]∈l.take k then Y3 l k else Y3 l k++[(.AM l[k],.d (.int .i64 k))]:=by
   rw[Y3,Cn o]
  simp[yZ,w,f];refine Yem hP ?_;simp[t,u];cases q:CU (l.take k) (l[k]) with
  |some i=>
   have c:l[k]∈l.take k:=by
    rcases Classical.em (l[k]∈l.take k) with h|h
    ·exact h
    ·rw[Jb.2 h]at q;cases q
   have j:¬(l.take (k+1)).Nodup:=by
    rw[z,Em];exact λn=>n.2.2 _ c _ (by simp) rfl
   simp;refine y [] _ _ trivial (by simp[F,j]) ?_ (by simp[AE]) ?_
   ·simp[s,c,AE]
   ·simp[AE,AH,Yx];exact X8 m (by omega)
  |none=>
   have c:=Jb.1 q;simp[f];refine Yem hP ?_;have r:Yh (.AM l[k]) (Y3 l k)=none:=by rw[t,q];rfl
   have j:decide (l.take (k+1)).Nodup=decide (l.take k).Nodup:=by
    rw[z,decide_eq_decide,Em];constructor
    ·exact λn=>n.1
    ·refine λn=>⟨n,by simp,λa G b v=>?_⟩;simp only[DW]at v;subst v;exact λe=>c (e▸G)
   simp[u,Wo _ _ _ r];refine y [] _ _ trivial (by simp[F,j]) ?_ (by simp[AE]) ?_
   ·simp[s,c,AE]
   ·simp[AE,AH,Yx];exact X8 m (by omega)
 ·intro _ R x L J;simp[yZ];refine x _ _ _ ?_;have H:l.take l.length=l:=JI (by simp);simp[H];refine⟨[fresh g],by simp[AE],?_,?_⟩
  ·simp[AE,AH,Yx];exact X8 m (by omega)
  ·simpa[AE]using h
theorem Yy{m:Nat}{l:List B}{n:B}{b:AB}(j:AA b m=some (.map (Y3 l l.length))){K:A7->AB->Prop}(h:∀i,CU l n=some i->K (.ret (.d (.int .i64 i))) b)(g:CU l n=none->K (.panic (.d Y5)) b):
 AV P 176 [.mp m,.d (.AM n)] b K:=by
 refine Aq hP AO Y99 Y7b BD.nil λ_ k=>?_;have a:=k [];have c:=Ql l n l.length (BV _);have f:=Qm l n l.length;rw[C0]at c;simp[Y1f,j,c,f];cases e:CU l n with
 |none=>
  simp[Xte];exact⟨[],by simp,by simpa[AE]using a,by simpa[AE]using g e⟩
 |some i=>
  simp[Xte];exact⟨[],by simp,by simpa[AE]using a,by simpa[AE]using h i e⟩
omit hP
def Vj(k:Nat):Nat:=if k=0 then 10 else 12+2*k
def Hb(k:Nat):List V:=(List.range k).map λj=>.mp (Vj j)
def D0(a:List AI)(k:Nat):List B:=match a[k]? with
|some s=>s.AL.map Ad.name
|none=>[]
def Um(l:List B):Ob:=.map (Y3 l l.length)
def V5(a:List AI):Nat->AB
|0=>[]
|k+1=>(Vj k,Um (D0 a k))::V5 a k
def Ep(k:Nat):AB:=if k=0 then[] else[(12,.Ao 174 1 (Hb k))]
def HJ(k:Nat):V:=if k=0 then .d .AT else .sl 12 k
abbrev TZ(k:Nat):Ob:=.box 177 (.agg [.mp 5,.mp 6,.mp 7,HJ k])
def Wp(y:Ah)(k:Nat)(c b a:Ob):AB:=[(8,Um (y.AN.map AR.name)),(7,Um (y.AD.map AI.name)),(6,Um (y.Au.map At.name)),(5,Um y.Al),(4,TZ k),(3,.box 29 (.d y.enc)),(2,c),(1,b),(0,a)]
def Y8(y:Ah)(k:Nat)(c b a:Ob):AB:=Ep k++(Wp y k c b a++V5 y.AD k)
def Yng(k:Nat):10<=Vj k/\Vj k≠12/\Vj k≠11:=by unfold Vj;split<;>omega
def xq{a:List AI}{i:Nat}:∀k,i<k->AA (V5 a k) (Vj i)=some (Um (D0 a i))
|0,h=>absurd h (by omega)
|k+1,h=>by
 rw[V5,AA];by_cases e:i=k
 ·subst e;rw[BL rfl]
 ·rw[Af (by unfold Vj;split<;>split<;>omega)];exact xq k (by omega)
def vz{ss:List AI}:∀k,fresh (V5 ss k)=if k=0 then 0 else Vj (k-1)+1
|0=>rfl
|k+1=>by
 have c:=vz (ss:=ss) k;have a:fresh (V5 ss k)<=Vj k:=by
  rw[c];unfold Vj;split
  ·omega
  ·rename_i d;by_cases b:k-1=0
   ·rw[BL b];omega
   ·rw[Af b];omega
 rw[V5,fresh,BL a];simp
def vM(k:Nat):Hb (k+1)=Hb k++[.mp (Vj k)]:=by simp[Hb,List.range_succ]
def Wm(k:Nat):(Hb k).length=k:=by simp[Hb]
section
variable {y:Ah} {k:Nat} {o2 o1 o0:Ob}
def Wi(p:Nat->Bool):∀(a b:AB),Xh p (a++b)=Xh p a++Xh p b
|[],b=>rfl
|(j,o)::r,b=>by
 simp only[List.cons_append,Xh,Wi p r b];split<;>simp
def lz:AA (Y8 y k o2 o1 o0) 4=some (TZ k):=by
 unfold Y8 Wp Ep;split<;>simp[AA]
def aH(h:k≠0):AA (Y8 y k o2 o1 o0) 12=some (.Ao 174 1 (Hb k)):=by
 unfold Y8 Wp Ep;rw[Af h];simp[AA]
def T3:fresh (Y8 y k o2 o1 o0)=if k=0 then 9 else 11+2*k:=by
 have b:=vz (ss:=y.AD) k;unfold Y8 Wp Ep;by_cases h:k=0
 ·subst h;simp[V5]
 ·rw[Af h,Af h];rw[Af h]at b;by_cases c:k-1=0
  ·obtain rfl:k=1:=by omega
   simp[V5,Vj]
  ·have a:fresh (V5 y.AD k)=11+2*k:=by rw[b];unfold Vj;rw[Af c];omega
   have e:∀{j:Nat}{o:Ob}{r:AB},fresh r=11+2*k->j<13->fresh ((j,o)::r)=11+2*k:=λd f=>by
    rw[Yb,d,Af (by omega)]
   simp only[List.cons_append,List.nil_append]
   repeat' refine e ?_ (by omega)
   exact a
def Wa(p:Nat->Bool):∀(a b:AB),AH p (a++b)=(AH p a&&AH p b)
|[],b=>by simp[AH]
|(j,o)::r,b=>by
 have c:=Wa p r b;cases o<;>simp only[List.cons_append,AH,c,Bool.and_assoc]
def v7(p:Nat->Bool)(a:List AI):∀k,AH p (V5 a k)=true
|0=>rfl
|k+1=>by simp[V5,AH,Um,Yx,v7 p a k]
def Xn1{p:Nat->Bool}:∀{k:Nat},(∀i,i<k->p (Vj i)=false)->BO p (Hb k)=false
|0,_=>rfl
|k+1,h=>by
 have c:∀(a b:List V),BO p (a++b)=(BO p a||BO p b):=λa b=>by
  induction a with
  |nil=>simp[BO]
  |cons x r d=>simp[BO,d,Bool.or_assoc]
 rw[vM,c,Xn1 λi e=>h i (by omega)];simp[BO,V.BJ,h k (by omega)]
def Qt{p:Nat->Bool}(c:AH p [(2,o2),(1,o1),(0,o0)]=true)(d:p 5=false)(e:p 6=false)(f:p 7=false)(a:k≠0->p 12=false)(g:∀i,i<k->p (Vj i)=false):AH p (Y8 y k o2 o1 o0)=true:=by
 unfold Y8 Wp Ep;rw[Wa,Wa,v7];by_cases b:k=0
 ·simpa[b,AH,Um,Yx,V.BJ,BO,HJ,d,e,f]using c
 ·simpa[b,AH,Um,Yx,V.BJ,BO,HJ,d,e,f,a b,Xn1 g]using c
def Y2l:AA (Y8 y k o2 o1 o0) 3=some (.box 29 (.d y.enc)):=by
 unfold Y8 Wp Ep;split<;>simp[AA]
def Ykh(a:k≠0):AG (AG (Y8 y k o2 o1 o0) 12 (.Ao 174 1 (Hb k++[.mp (Vj k)]))) 4 (.box 177 (.agg [.mp 5,.mp 6,.mp 7,.sl 12 (k+1)]))=Ep (k+1)++(Wp y (k+1) o2 o1 o0++V5 y.AD k):=by
 unfold Y8 Wp Ep;simp[a,AG,vM,HJ]
def Ych{n:Nat}{l:List Nat}(p:13<=n)(d:k≠0)(e:∀i,i<k->n<=Vj i->Vj i∈l):Xh (AE n l) (Y8 y k o2 o1 o0)=Y8 y k o2 o1 o0:=by
 have j:∀m,(∀i,i<m->n<=Vj i->Vj i∈l)->Xh (AE n l) (V5 y.AD m)=V5 y.AD m:=λm=>by
  induction m with
  |zero=>intro _;rfl
  |succ m g=>
   intro h;have b:AE n l (Vj m)=false:=by
    simp only[AE,ZR,MV,Bool.not_eq_eq_eq_not,Bool.not_false,List.contains_eq_mem,Bs];rcases FP (Vj m) n with a|a
    ·exact .inl (by omega)
    ·exact .inr (h m (by omega) a)
   rw[V5,Xh,b,g λi o=>h i (by omega)];simp
 unfold Y8;rw[Wi,Wi,j k e];have c:Xh (AE n l) (Wp y k o2 o1 o0)=Wp y k o2 o1 o0:=Xe (by simp[Wp];omega);have f:Xh (AE n l) (Ep k)=Ep k:=Xe (by simp[Ep,d];omega);rw[c,f]
def Ytu:AA (Y8 y k o2 o1 o0) 5=some (Um y.Al):=by
 unfold Y8 Wp Ep;split<;>simp[AA]
def Ytv:AA (Y8 y k o2 o1 o0) 6=some (Um (y.Au.map At.name)):=by
 unfold Y8 Wp Ep;split<;>simp[AA]
def Ytw:AA (Y8 y k o2 o1 o0) 7=some (Um (y.AD.map AI.name)):=by
 unfold Y8 Wp Ep;split<;>simp[AA]
def rV{i:Nat}(a:i<k):AA (Y8 y k o2 o1 o0) (Vj i)=some (Um (D0 y.AD i)):=by
 have b:=Yng i;have e:∀(j:Nat)(o:Ob)(r:AB),j≠Vj i->AA ((j,o)::r) (Vj i)=AA r (Vj i):=λj o r h=>by simp[AA,h]
 unfold Y8 Wp Ep;rw[Af (by omega)];simp only[List.cons_append,List.nil_append]
 repeat rw[e _ _ _ (by omega)]
 exact xq k a
def X28(c:∀d,AH (AE 3 d) [(2,o2),(1,o1),(0,o0)]=true){n:Nat}{l:List Nat}(a:fresh (Y8 y k o2 o1 o0)<=n):AH (AE n l) (Y8 y k o2 o1 o0)=true:=by
 have b:=T3 (y:=y) (k:=k) (o2:=o2) (o1:=o1) (o0:=o0);have e:9<=n:=by
  rw[b]at a;split at a<;>omega
 refine Qt (X8 (ob:=[(2,o2),(1,o1),(0,o0)]) (by simpa using c) (by simp;omega)) (by simp[AE];omega) (by simp[AE];omega) (by simp[AE];omega) (λh=>?_) (λi f=>?_)
 ·rw[b,Af h]at a;simp[AE];omega
 ·rw[b,Af (by omega)]at a;have:Vj i<11+2*k:=by unfold Vj;split<;>omega
  simp[AE];omega
def W4(a:AB):List Nat:=a.map (·.1)
def Ze{a:AB}{j:Nat}{o:Ob}(h:AA a j=some o):j∈W4 a:=by
 induction a with
 |nil=>cases h
 |cons e r b=>
  obtain⟨i,x⟩:=e;simp only[AA]at h;split at h
  next e=>subst e;simp[W4]
  ·exact Kl _ (b h)
def Yg{n:Nat}{l:List Nat}:∀{a:AB},(∀j∈W4 a,j∈l)->Xh (AE n l) a=a
|[],_=>rfl
|(i,x)::r,h=>by
 have c:AE n l i=false:=by simp[AE,h i (by simp[W4])]
 rw[Xh,c,Yg λj b=>h j (by simp only[W4]at b⊢;exact Kl _ b)];simp
end
include hP
theorem X9l{y:Ah}(t:y.BC)(hn:y.AD.length<=1000000){o2 o1 o0:Ob}{K:A7->AB->Prop}(h:K (.ret (.BE [.ptr 4 [],.d (.bool (PI y))])) (Y8 y y.AD.length o2 o1 o0)):
 AV P 81 [.d y.enc] [(2,o2),(1,o1),(0,o0)] K:=by
 refine Xk hP AO Zof Zkl BD.nil λ_ q=>?_;have F:(V.d y.enc).BM=some [.d (Xg y.Al),.d (.AF 5 (y.Au.map At.enc)),.d (.AF 6 (y.AD.map AI.enc)),.d (.AF 5 (y.AK.map Ai.enc)),.d (.AF 5 (y.AQ.map Ag.enc)),.d (.AF 3 (y.AN.map AR.enc))]:=rfl;simp[Zhp,F];have X:(Xg y.Al).shape.size=1:=rfl;refine⟨⟨rfl,rfl⟩,X9j hP t.Al ?_⟩;simp[F,X,DZ,Bt,Zf];refine Xz2 hP t.Au ?_;simp[F,X,DZ,Bt,Zf];refine Xpl hP t.AD ?_;simp[F,X,DZ,Bt,Zf];refine Xlw hP t.AN ?_;simp[F,X,DZ,Bt,Zf];have aa:∀k,k<y.AD.length->(D0 y.AD k)=(y.AD.map λs=>s.AL.map Ad.name)[k]!:=λk g=>by simp[D0,g]
 let tw:=λk=>(!decide y.Al.Nodup||!decide (y.Au.map At.name).Nodup||!decide (y.AD.map AI.name).Nodup||!decide (y.AN.map AR.name).Nodup)||(y.AD.take k).any λx=>!decide (x.AL.map Ad.name).Nodup
 refine qO (ι:=Nat) (λk=>[(1,.ptr 3 []),(2,.ptr 4 []),(3,.d (.bool (tw k))),(61,.d (.AF 6 (y.AD.map AI.enc))),(62,.d (.int .i64 y.AD.length)),(63,.d (.int .i64 k))])
  (λk=>Y8 y k o2 o1 o0) (λk=>k<=y.AD.length) (λk=>y.AD.length-k) 0 (DM _) (by simp[tw]) (by simp[Y8,Wp,Ep,V5,HJ,Um]) ?_
 intro k g R W U rr rp;by_cases e:k<y.AD.length
 ·have wr:=w_s k (by omega);have hx:=t.AP _ (CS e);have xk:(V.d y.AD[k].enc).BM=some [.d (.AM y.AD[k].name),.d (.AM y.AD[k].FJ),.d (iD y.AD[k].Bz),.d (iD y.AD[k].BT),.d (.AF 11 (y.AD[k].AL.map Ad.enc)),.d (.AF 4 (y.AD[k].Aj.map Ax.enc))]:=rfl;have xz:∀x:AI,x.enc.sz=6:=λ_=>rfl;have xs:∀x:AI,x.enc.shape.size=6:=λx=>by rw[CC];rfl
  have xh:∀x:AI,x.enc.shape=.node [.AX,.AX,.AX,.AX,.AX,.AX]:=λ_=>rfl;have O:=lz (y:=y) (k:=k) (o2:=o2) (o1:=o1) (o0:=o0);have f:=T3 (y:=y) (k:=k) (o2:=o2) (o1:=o1) (o0:=o0);have fr:fresh ((fresh (Y8 y k o2 o1 o0),Ob.box 54 (.d y.AD[k].enc))::Y8 y k o2 o1 o0)=fresh (Y8 y k o2 o1 o0)+1:=by simp
  simp[Xzo,e,xz,xh,xs,xk];refine⟨rfl,Xwu hP hx.AL ?_⟩;have G:∀{b:Bool},tw (k+1)=(tw k||!decide (y.AD[k].AL.map Ad.name).Nodup):=by
   intro b;simp only[tw,Ca e,List.any_append];simp[Bool.or_assoc]
  by_cases c:k=0
  ·subst c;have w1:IntKind.i64.wrap 1=1:=w_i _ (by omega);simp[Y8,Wp,Ep,V5,HJ,I.wp,M5,Hp,Mf,Um];refine⟨_,_,⟨rfl,rfl⟩,rfl,rfl,?_⟩;simp[DZ,Bt,w1];have H:tw 1=(tw 0||!decide (y.AD[0].AL.map Ad.name).Nodup):=G (b:=true);have ea:∀v w m b,[(12,v),(11,w),(10,m),(9,b),(8,.map (Y3 (y.AN.map AR.name) y.AN.length)),(7,.map (Y3 (y.AD.map AI.name) y.AD.length)),(6,.map (Y3 (y.Au.map At.name) y.Au.length)),(5,.map (Y3 y.Al y.Al.length)),(4,.box 177 (V.agg [.mp 5,.mp 6,.mp 7,.sl 12 1])),(3,.box 29 (.d y.enc)),(2,o2),(1,o1),(0,o0)]
    = (12,v)::(11,w)::(10,m)::((9,b)::Wp y 1 o2 o1 o0):=λv w m b=>by simp[Wp,Um,HJ]
   have Y:Ob.map (Y3 (y.AD[0].AL.map Ad.name) y.AD[0].AL.length)=Um (D0 y.AD 0):=by simp[Um,D0,e]
   rw[ea,Y];refine W [10,12] 1 _ _ _ (ZJ (.cons _ (.cons _ (List.perm_append_singleton _ _).symm))) (by omega) (by omega) (by simp[H]) ?_ (by rw[f];simp[AE]) ?_
   ·rw[f];simp[Y8,Wp,Ep,V5,AE,Vj,Wi,Hb]
   ·rw[f];refine Qt ?_ (by simp[AE]) (by simp[AE]) (by simp[AE]) (λ_=>by simp[AE]) (λi Q=>?_)
    ·exact X8 (ob:=[(2,o2),(1,o1),(0,o0)]) q (by simp)
    ·obtain rfl:i=0:=by omega
     simp[AE,Vj]
  ·have M:=aH (y:=y) (o2:=o2) (o1:=o1) (o0:=o0) c;rw[Af c]at f;have L:∀n,n<=12->(fresh (Y8 y k o2 o1 o0)=n)=False:=λn hn=>by rw[f];exact eq_false (by omega)
   simp[O,M,HJ,c,I.wp,M5,Hp,Mf,L];refine⟨_,_,⟨rfl,rfl⟩,rfl,rfl,?_⟩;simp[O,M,L,DZ,Bt,Wm];refine⟨by omega,?_⟩;have Y:Ob.map (Y3 (y.AD[k].AL.map Ad.name) y.AD[k].AL.length)=Um (D0 y.AD k):=by simp[Um,D0,e]
   have ek:fresh (Y8 y k o2 o1 o0)+1=Vj k:=by rw[f];unfold Vj;rw[Af c];omega
   rw[Y,ek,Ykh c];have pm:∀(x z:Nat×Ob)(A B T:AB),(x::z::(A++(B++T))).Perm (z::(A++(B++x::T))):=λx z A B T=>by
    have:=(List.perm_middle (a:=x) (l₁:=z::(A++B)) (l₂:=T)).symm;simpa using this
   refine W [Vj k] (k+1) _ _ _ (ZJ (.cons _ (pm _ _ _ _ _))) (by omega) (by omega) (by simp[G (b:=true),wr]) ?_ (by rw[f];simp[AE];omega) ?_
   ·rw[f];have:=Ych (y:=y) (k:=k+1) (o2:=o2) (o1:=o1) (o0:=o0) (n:=11+2*k) (l:=[Vj k]) (by omega) (by omega) (λi Q h1=>by
     have:i=k:=by
      rcases FP i k with Z|Z
      ·exfalso;unfold Vj at h1;split at h1<;>omega
      ·omega
     simp[this])
    unfold Y8 at this;rw[V5]at this;have k1:AE (11+2*k) [Vj k] (Vj k+1)=true:=by simp[AE,Vj,c];omega
    have k2:AE (11+2*k) [Vj k] (11+2*k)=true:=by simp[AE,Vj,c]
    rw[Xh,BL k1,Xh,BL k2,this];unfold Y8;rw[V5]
   ·rw[f];refine Qt (X8 (ob:=[(2,o2),(1,o1),(0,o0)]) q (by simp;omega)) (by simp[AE];omega) (by simp[AE];omega) (by simp[AE];omega) (λ_=>by simp[AE];omega) (λi Q=>?_);rcases FP i k with Z|Z
    ·have:Vj i<11+2*k:=by unfold Vj;split<;>omega
     simp[AE];omega
    ·obtain rfl:i=k:=by omega
     simp[AE]
 ·obtain rfl:k=y.AD.length:=by omega
  simp[Xzo];refine U _ _ _ ?_;have g3:=Y2l (y:=y) (k:=y.AD.length) (o2:=o2) (o1:=o1) (o0:=o0);have O:=lz (y:=y) (k:=y.AD.length) (o2:=o2) (o1:=o1) (o0:=o0);have p:∀kp,AH (AE 3 kp) [(2,o2),(1,o1),(0,o0)]=true:=by simpa using q
  simp[g3,F];refine⟨rfl,?_⟩;let u:=λk=>tw y.AD.length||(y.AK.take k).any λr=>!decide (r.AW.map Am.name).Nodup
  have h9:9<=fresh (Y8 y y.AD.length o2 o1 o0):=by rw[T3];split<;>omega
  refine Ae.upto y.AK.length (λk=>[(2,.ptr 4 []),(3,.d (.bool (u k))),(89,.d (.AF 5 (y.AK.map Ai.enc))),(90,.d (.int .i64 y.AK.length)),(91,.d (.int .i64 k))])
   (λ_=>Y8 y y.AD.length o2 o1 o0) (λ_=>True) trivial (by simp[u]) rfl ?_ ?_
  ·intro k g _ R W U rr rp;have wr:IntKind.i64.wrap ((k:Int)+1)=(k:Int)+1:=w_i _ (by have:=t.AK;omega);have hx:=t.FN _ (CS g);have xk:(V.d y.AK[k].enc).BM=some [.d (.AM y.AK[k].head),.d (iD y.AK[k].AP),.d (.AF 8 (y.AK[k].AW.map Am.enc)),.d (.AF 11 (y.AK[k].Ak.map BB.enc)),.d (.AF 7 (y.AK[k].BK.map Ba.enc))]:=rfl;have xz:∀x:Ai,x.enc.sz=5:=λ_=>rfl;have xs:∀x:Ai,x.enc.shape.size=5:=λx=>by rw[CC];rfl
   have xh:∀x:Ai,x.enc.shape=.node [.AX,.AX,.AX,.AX,.AX]:=λ_=>rfl;have J:u (k+1)=(u k||!decide (y.AK[k].AW.map Am.name).Nodup):=by
    simp only[u,Ca g,List.any_append];simp[Bool.or_assoc]
   simp[Xzn,g,xz,xh,xs,xk];refine⟨rfl,Xz1 hP hx.AW ?_⟩;simp;refine W [] _ _ trivial (by simp[J,wr]) ?_ ?_ (X28 p (BV _))
   ·simp[AE]
   ·simp[AE];omega
  ·intro _ R U rr rp;simp[Xzn];refine U _ _ _ ?_;have ht:u y.AK.length=PI y:=by
    simp[u,tw,PI,List.all_eq_not_any_not]
   simp;rw[ht];refine⟨W4 (Y8 y y.AD.length o2 o1 o0),?_,?_,?_⟩
   ·have:=Ze O;simp[AE,this]
   ·rw[Yg λ_ h=>h];have N:∀{j:Nat}{o:Ob},AA (Y8 y y.AD.length o2 o1 o0) j=some o->AE 3 (W4 (Y8 y y.AD.length o2 o1 o0)) j=false:=λh=>by simp[AE,Ze h]
    exact Qt (p _) (N Ytu) (N Ytv) (N Ytw) (λg=>N (aH g)) (λi Q=>N (rV Q))
   ·rw[Yg λ_ h=>h];exact h
omit hP
def Yf8:Nat:=0x108779b0222a207417c02343a
def Yf9:Nat:=0x105c00979b77802108559d0d2a7808f04101906700301d06f01f24106f01a06a4370d20cb01a0b909d0439010170c80160b91ea0002480eb0041d707c0004020140f63dacd710a056bb1041d3e01268831c0111c506705131c01006f0125a331c00b06f00d5a331ca2813031cbf305a31cb0631c00100e07600131ca0010531c89805d31c49b31c0073d19b20a4b244780056880017391510010585c41050010587283800582db0584deae81072b312c0460f209310309f0193645ac0d392500c5742660f509e0063bc0591410750ff0d202a0050f8c1b08d0290050e10460ef08d0c602b00509d04304b04b5b481b
def dC:Nat:=0x14af09e0063bc02801502702b3225cb17e026048026cd710a14a2b304800602528a09e06104e10a0230a902205b038065b2d76f8d54530200d101f0e043e01c0d101bb4729a06305f32108779b0fd01a0750190d20152097b701708d46816004b0870428c909e0d450702f0120d661e0100d100f0e001048809e79e00e0d0b430dc04300d22b09e89400b08f00920592a3e108b04bd29
def n89:Nat:=0x1b4679b90779bacf4340b7
def jg:S:=zS [(zS [(zS [] Yf9),(zS [] Yf8)] dC)] n89
def Zog:Xr prog 89 2 jg []=true:=by kernel_rfl
def Yga:Nat:=0x100083b04508b04f0321ae44005f0397c483b04504cd8f29b03f03802d15f038b811a203c81104cd8f4b615f03c06f04404304303e03807b2d9b813aca7518a094d8f4b615f03c81108ba750aa0ce19908e038b813ac00bb3403b07605d0370c80510360b904577700903689111a0005724ad009ad10347a903308c44002f4330683140321c020a83bad18e80310e6033196
def dD:Nat:=0x10009ae7f90211ae0204659ae9b181f85504f05504d255007b0c32a00616d00504f0d10042550090f550f17700a5cb83b63d37283b63d09702f0c002e08c51f04202c73d0790ac47c1b412403002b08502a0c802973d96761147c1b41240282a201e42abf498b02508c02494c7c805d024ccf7ac0081247a00fe59d7ed0211c0cca1247780200e6022196
def Ygb:Nat:=0x10009ee0126d88af0003521f8
def dE:Nat:=0x11799eea280110854bd0d2bd200e2a218a00d06f00f06a00906f00b06a0c208d00baf600c8a18dccd2040094d6904b0f600503863c7fc056004b9004c7221c505137f0021510370a004117137f4de05d37f66937f12c2b50f20d613b04614104203208809484063c75905a04ac1b0d2ba70b022b63c3f00e119e0ef0d10c6a5c59888b0d202805d02901e3f714a0063f00270a9025205cc63f0d5c
def n90:Nat:=0x10e79ae4309ae09701e0c001d08c01c94c0cb3bc1652d504101a08501994c0130b901705703a74b01608c01594c01404191c0140766749ee0a89eed25a0e0d20203bc0ac04504401d01f07501e0d201800550e0395ba452a650d201991c0871650440150174500931b5afd32a397be90111d10d101105d55a5df2ee09b537d6905f
def jh:S:=zS [(zS [(zS [] Ygb)] dE),(zS [(zS [] Yga)] dD)] n90
def Zoh:Xr prog 90 3 jh []=true:=by kernel_rfl
def Ygc:Nat:=0x10009d3024a771ae03e4659d30222067b300c9200938f901f04f1af17c01e16d7d60d283f0e921f01c1770090bf45e1b467cd8b44801a5190181e616d05104d04f0d21b904f05d1e60437ec043002ccd32a017d8b44801a5190181e6c6548eccd38801903902b017d8b04f1af21eccd38801903902b0171e616daea04f0d21b904f05d1e60437ec81e01616d0163b504f04250604f0134480165190f901216d3407910d2185010255cd404626100e16d0bb00d38304f10611a00c16d0f77f9d1925517600304615f00816d08b6b208d89f25553b04300721305d00901517719026217704ea2704745e1b467cbea3b683dc8b03f1c003f03845e10c17366003e0e64bb081
def Ygd:Nat:=0x10009dc8e80bc0740cb14e9dc02e0570271c502d23f04d3fc02b19b98b02a08c0290ec02859921f0870bfcbd1ad17302505701e1c50248dc80b19b98b02108c0200ec01f59921f944439cbd1ad1735810fe0cb7ed01c1c00bc76c10c17338b0cb00d01d196
def Yge:Nat:=0x100097200d6d88af8ee6559720c21810414cf00ab5d6b100806a512076898042008af6c121af16007c26ad581ad0410541c50040ec0030b968d04b050d58008107d530c8b8912c0ff32a917c01093ba71ee03001f13b0d19080070342bb02f01e9ab0ca1a820e0f5d580080ef19e0c687a59888b0930280e904386055f14a1535f10270a9025205cc60b35f1d5c
def pd:Nat:=0x11fd9d33729d309703c0c003b08c6100d20395990463537c0b680380858180d20310b903505703e74b03408c3aa0d2032599250a7106acfe0003619dc4309dc0970190c09690170ec0165994f50ac4e50135360850140ec00e0b9012a9f74bb8c0100ec00f59925004300f06acfe0f500a9720a8972d25a0e0930200e9ce60060ac0b31a301f0d01a305c03c03901702003abc498d8d9a810360396439b906883e01b3a101c09301600544503b74b0190460180930170e925045101fcfe05f1670479dd00c075d1901502317600380204300274232a17c9dd00c075d1900517674238801402b15f00380281e61e08b01004208e00f00505a00304605d32604e00cb0e00b14d1ee3b708300d05416704503b0390fc027039247
def ji:S:=zS [(zS [] Yge),(zS [] Ygd),(zS [] Ygc)] pd
def Zoi:Xr prog 91 2 ji []=true:=by kernel_rfl
def Ygg:Nat:=0x100095000249307401314e950107d530ec02800512c0ff32a917c010c61060f804303101f02b04302d01f13b0d190800503401e0e109302d08864301e02a08d02916f09f1497999490044f862a00001304014928c02502707502609301c8cf02032aac3025453ce60220420210e002201e05b04d01d16f005787d690f514928c01b0d01323823430460170d101605d0178ba14904e44f08f0132050140800d37650137a7081
def ph:Nat:=0x10639500a8950097011bbb046bde00e3bc80d66407500c0d106117600003a02746a04660800791c0a91e9
def jk:S:=zS [(zS [] Ygg)] ph
def Zoj:Xr prog 93 2 jk []=true:=by kernel_rfl
def Zfd:Nat:=0x117e0f8c1b08d0190050e102a32a0ef043888029046366106ae50260930250212ef02404302681904601f09301e0e90468b501b08d01a0c104301b01f0c60d102b09fab802309302209fa6804013236401593c3740d30eb1500530de0167b7017093a3401501132a0143e40c58adb2c01209f428a8217256123526305f81207c04b33d00e0df326b9c00b16f13404427705900a85508d56104a0080759da00527d0d01b6
def nL:S:=zS [] Zfd
def Zaa:Xr prog 180 4 nL []=true:=by kernel_rfl
def iR:S2:=zL [] [] Yf8
def gH:=(by cbv:iR=_)
def iS:S2:=zL [] [] Yf9
def Yhr:=(by cbv:iS=_)
def iQ:S2:=zL [] [iS,iR] dC
def gG:=(show iQ=_ from (λ(a b:S2)=>(by cbv:zL [] [a,b] dC=_)) iS iR)
def Zen:S2:=zL [] [iQ] n89
def Zhq:=(show Zen=_ from (λa=>(by cbv:zL [] [a] n89=_)) iQ)
def Zkm:jg.AZ []=some Zen:=by kernel_rfl
def iT:S2:=zL [] [] Yga
def gI:=(by cbv:iT=_)
def iU:S2:=zL [] [iT] dD
def Xzp:=(show iU=_ from (λa=>(by cbv:zL [] [a] dD=_)) iT)
def iW:S2:=zL [] [] Ygb
def Xzr:=(by cbv:iW=_)
def iV:S2:=zL [] [iW] dE
def Xzq:=(show iV=_ from (λa=>(by cbv:zL [] [a] dE=_)) iW)
def Zeo:S2:=zL [] [iV,iU] n90
def Zhr:=(show Zeo=_ from (λ(a b:S2)=>(by cbv:zL [] [a,b] n90=_)) iV iU)
def Zkn:jh.AZ []=some Zeo:=by kernel_rfl
def iX:S2:=zL [] [] Ygc
def Xzs:=(by cbv:iX=_)
def iY:S2:=zL [] [] Ygd
def Xzt:=(by cbv:iY=_)
def iZ:S2:=zL [] [] Yge
def Xzu:=(by cbv:iZ=_)
def Zep:S2:=zL [] [iZ,iY,iX] pd
def Zhs:=(show Zep=_ from (λ(a b c:S2)=>(by cbv:zL [] [a,b,c] pd=_)) iZ iY iX)
def Zko:ji.AZ []=some Zep:=by kernel_rfl
def ia:S2:=zL [] [] Ygg
def Xzv:=(by cbv:ia=_)
def Zeq:S2:=zL [] [ia] ph
def Zhu:=(show Zeq=_ from (λa=>(by cbv:zL [] [a] ph=_)) ia)
def Zkq:jk.AZ []=some Zeq:=by kernel_rfl
def Yv7:S2:=zL [] [] Zfd
def Y1g:=(by cbv:Yv7=_)
def Y7c:nL.AZ []=some Yv7:=by kernel_rfl
def Wn:∀{a:AB}{k:Nat}{o:Ob},AA a k=some o->AG a k o=a
|(j,b)::r,k,o,h=>by
 simp only[AA]at h;simp only[AG];split
 next e=>simp[e]at h;subst h;rfl
 next e=>rw[Wn (by simpa[e]using h)]
def Xf{a:AB}{k:Nat}{o:Ob}(h:AA a k=some o):k<fresh a:=by
 rcases FP k (fresh a) with b|b
 ·exact b
 ·rw[Xu a k b]at h;cases h
@[simp]def ex3(a b n:Nat)(c:List D):(∃E z d,(a=E/\b=z/\c=d)/\n=d.length)=(n=c.length):=by
 rw[eq_iff_iff];exact⟨λ⟨_,_,_,⟨_,_,e⟩,f⟩=>e▸f,λh=>⟨_,_,_,⟨rfl,rfl,rfl⟩,h⟩⟩
@[simp]def add11(n:Nat):n+1+1=n+2:=rfl
@[simp]def add21(n:Nat):n+2+1=n+3:=rfl
@[simp]def add31(n:Nat):n+3+1=n+4:=rfl
@[simp]def add41(n:Nat):n+4+1=n+5:=rfl
@[simp]def add51(n:Nat):n+5+1=n+6:=rfl
@[simp]def add61(n:Nat):n+6+1=n+7:=rfl
@[simp]def add71(n:Nat):n+7+1=n+8:=rfl
@[simp]def add12(n:Nat):n+1+2=n+3:=rfl
@[simp]def add22(n:Nat):n+2+2=n+4:=rfl
@[simp]def strsD_shape(l:List B):(Xg l).shape=.AX:=by simp[Xg,D.shape]
@[simp]def strsD_agg(l:List B):(Xg l).isAgg=false:=rfl
@[simp]def intsD_shape(l:List Int):(X9 l).shape=.AX:=by simp[X9,D.shape]
@[simp]def Rc2(t:BG):t.enc.shape=.node [.AX,.AX,.AX,.AX,.AX]:=rfl
@[simp]def Rc3(t:BG):t.enc.isAgg=true:=rfl
def Zd{b:Type}(f:List b->b->Option b)(a:List b)(x:b)(r:List b):DB f a (x::r)=(f a x).bind λy=>DB f (a++[y]) r:=rfl
def Jp{a:Type}(f:a->V){d l:List a}(b:d.length<l.length)(h:d.length<((d++l.drop d.length).map f).length):((d++l.drop d.length).map f)[d.length]=f l[d.length]:=by
 rw[List.getElem_map,List.getElem_append_right (BV _)];simp
def Jq{b:Type}(f:b->V){d l:List b}(a:d.length<l.length)(z:b):((d++l.drop d.length).map f).set d.length (f z)=((d++[z])++l.drop (d++[z]).length).map f:=by
 rw[<-Fg,List.set_append_right _ _ (BV _),Db a,Nat.sub_self,List.set_cons_zero];simp
def EN(u:At):V:=.d u.enc
def Xn{p:Nat->Bool}{id E z:Nat}{e:List V}(b:BO p e=false):∀{d:AB},AH p d=true->AH p (AG d id (.Ao E z e))=true
|[],_=>rfl
|(j,o)::r,h=>by
 have a:AH p r=true:=by cases o<;>simp[AH]at h<;>first|exact h|exact h.2
 simp only[AG];split
 ·simp[AH,b,a]
 ·have c:=Xn (id:=id) (E:=E) (z:=z) b a;cases o<;>simp[AH]at h⊢<;>first|exact c|exact⟨h.1,c⟩
def Xw{a:Type}{p:Nat->Bool}(f:a->D)(l:List a):BO p (l.map λx=>V.d (f x))=false:=by
 induction l with
 |nil=>rfl
 |cons x r b=>simpa[BO,V.BJ]using b
include hP
theorem Yhz{n id:Nat}{names:List B}{l:List At}(hl:l.length<=1000000){b:AB}(W:AA b 4=some (TZ n))(h6:AA b 6=some (Um names))(j:AA b id=some (.Ao 88 5 (l.map EN))){K:A7->AB->Prop}
 (U:∀us,DB (Lo names) [] l=some us->K (.ret (.BE [])) (AG b id (.Ao 88 5 (us.map EN))))
 (h0:DB (Lo names) [] l=none->∀J:List At,K (.panic (.d Y5)) (AG b id (.Ao 88 5 (J.map EN)))):
 AV P 89 [.ptr 4 [],.sl id l.length] b K:=by
 refine Aq hP AO Zog Zkm BD.nil λ_ L=>?_;have p:=Xf W;have H:=Xf j;have n4:id≠4:=λe=>by rw[e,W]at j;simp at j
 have n6:id≠6:=λe=>by rw[e,h6]at j;simp[Um]at j
 simp[Zhq];refine⟨.inr ⟨_,_,_,j,by simp⟩,?_⟩;refine Ae.go (ι:=List At) (λd=>[(0,.ptr 4 []),(1,.sl id l.length),(8,.d (.int .i64 l.length)),(9,.d (.int .i64 d.length))])
  (λd=>AG b id (.Ao 88 5 ((d++l.drop d.length).map EN))) (λd=>d.length<=l.length/\DB (Lo names) [] l=DB (Lo names) d (l.drop d.length)/\∀u∈d,0<=u.BP/\u.BP<=1099511627776) (λd=>l.length-d.length) [] ⟨by simp,rfl,by simp⟩ (by simp) (by simp[Wn j]) ?_
 rintro d ⟨hd,h,r⟩ R rn re rr rp;have o4:∀o,AA (AG b id o) 4=some (TZ n):=λo=>by rw[Xc b id 4 ⟨_,j⟩,Af (by omega),W]
 have o6:∀o,AA (AG b id o) 6=some (Um names):=λo=>by rw[Xc b id 6 ⟨_,j⟩,Af (by omega),h6]
 have oi:∀o,AA (AG b id o) id=some o:=λo=>by rw[Xc b id id ⟨_,j⟩,BL rfl]
 have M:((d++l.drop d.length).map EN).length=l.length:=by simp;omega
 by_cases a:d.length<l.length
 ·have wr:IntKind.i64.wrap ((d.length:Int)+1)=(d.length:Int)+1:=w_i _ (by omega);have y:=Jp EN a;have J:=Jq EN a;rw[Db a,Zd]at h;generalize hu:l[d.length]=u at h y;have ue:EN u=.d (.agg [.AM u.name,.AM u.CF,iD u.BQ,iD u.base,iD u.BP]):=rfl;simp only[ue]at y;generalize s:(d++l.drop d.length).map EN=q at M y J;have ac:d.length<q.length:=by omega
  by_cases f:u.CF=[]
  ·have e2:(q.set d.length (.d (.agg [.AM u.name,.AM u.CF,iD u.BQ,iD d.length,iD 1])))=((d++[{u with base:=d.length,BP:=1}])++l.drop (d++[{u with base:=d.length,BP:=1}]).length).map EN:=J {u with base:=d.length,BP:=1};simp[gG,a,oi,y,M,f];simp[gH];have N:q.set d.length (.d (.agg [.AM u.name,.AM [],iD u.BQ,iD d.length,iD 1]))=((d++[{u with base:=d.length,BP:=1}])++l.drop (d++[{u with base:=d.length,BP:=1}]).length).map EN:=by rw[<-e2,f]
   have uR:Lo names d u=some {u with base:=d.length,BP:=1}:=by unfold Lo;rw[BL f]
   rw[uR]at h;refine rn [] (d++[{u with base:=d.length,BP:=1}]) _ _ ⟨by simp;omega,?_,?_⟩ (by simp;omega) (by simp[wr]) ?_ (by simp[AE,p,H]) ?_
   ·rw[h,Option.bind_some,DV];rfl
   ·intro x m;rw[DF,DW]at m;rcases m with m|rfl
    ·exact r x m
    ·simp
   ·rw[<-N];simp[AE,iD]
   ·exact Xn (Xw _ _) (X8 L (by simp))
  ·have un:Lo names d u=(CU names u.CF).bind λn=>(d[n]?).map λv=>{u with base:=v.base,BP:=if 2<=u.BQ/\u.BQ<=1000/\u.BQ*v.BP<=1099511627776 then u.BQ*v.BP else 0}:=by unfold Lo;rw[Af f]
   simp[gG,a,oi,o4,y,M,f];have pn:((CU names u.CF).bind λn=>(d[n]?).map λv=>{u with base:=v.base,BP:=if 2<=u.BQ/\u.BQ<=1000/\u.BQ*v.BP<=1099511627776 then u.BQ*v.BP else 0})=none->R (.panic (.d Y5)) [] (AG b id (.Ao 88 5 q)):=λe=>by
    refine rp _ _ _ ?_;simp;rw[un,e]at h;refine⟨[],by simp,?_,?_⟩
    ·simp[AE];rw[<-s];exact Xn (Xw _ _) (L _)
    ·simp[AE];rw[<-s];exact h0 h _
   refine Yy hP (o6 _) (λi G=>?_) (λhn=>?_)
   ·simp;refine⟨λc=>pn (by rw[G,Option.bind_some,O2 c];rfl),λc=>?_⟩;have w:q[i]'(by omega)=EN d[i]:=by
     subst s;rw[List.getElem_map,List.getElem_append_left c]
    have ve:EN d[i]=.d (.agg [.AM d[i].name,.AM d[i].CF,iD d[i].BQ,iD d[i].base,iD d[i].BP]):=rfl;rw[ve]at w;have g:=r d[i] (CS c);have ab:i<q.length:=by omega
    have Y:i<l.length:=by omega
    have Z:d.length≠i:=by omega
    generalize X:d[i]=v at w g ve;simp[Yhr,oi,y,M,w,a,Y,Z];have Cm:∀k:Int,0<=k->k<=1099511627776->(if 2<=u.BQ/\u.BQ<=1000/\u.BQ*d[i].BP<=1099511627776 then u.BQ*d[i].BP else 0)=k->∀t,Xj t [0,1,8,9]=[(0,.ptr 4 []),(1,.sl id l.length),(8,.d (.int .i64 l.length)),(9,.d (.int .i64 (d.length+1:Nat)))]->
     R .normal t (AG b id (.Ao 88 5 (q.set d.length (.d (.agg [.AM u.name,.AM u.CF,iD u.BQ,iD d[i].base,iD k]))))):=λk s1 s2 he t hk=>by
     have N:q.set d.length (.d (.agg [.AM u.name,.AM u.CF,iD u.BQ,iD d[i].base,iD k]))=((d++[{u with base:=d[i].base,BP:=k}])++l.drop (d++[{u with base:=d[i].base,BP:=k}]).length).map EN:=J {u with base:=d[i].base,BP:=k};rw[un,G,Option.bind_some,Cn c,Option.map_some,he]at h;refine rn [] (d++[{u with base:=d[i].base,BP:=k}]) _ _ ⟨by simp;omega,?_,?_⟩ (by simp;omega) (by simpa using hk) ?_ (by simp[AE,p,H]) ?_
     ·rw[h,Option.bind_some,DV];rfl
     ·intro x m;rw[DF,DW]at m;rcases m with m|rfl
      ·exact r x m
      ·exact⟨s1,s2⟩
     ·rw[<-N];simp[AE]
     ·exact Xn (Xw _ _) (X8 L (by simp))
    rw[X]at Cm;refine⟨λO f2 T=>?_,λO=>?_⟩
    ·have hb:0<=u.BQ*v.BP/\u.BQ*v.BP<=1099511627776000:=⟨Int.mul_nonneg (by omega) g.1,by
      have U:u.BQ*v.BP<=1000*v.BP:=Int.mul_le_mul_of_nonneg_right f2 g.1;omega⟩
     have wm:IntKind.i64.wrap (u.BQ*v.BP)=u.BQ*v.BP:=w_i _ (by omega);rw[wm]at T⊢;simp[gH];exact Cm _ hb.1 T (BL ⟨O,f2,T⟩) _ (by simp[wr])
    ·simp[gH];refine Cm 0 (by omega) (by omega) (Af λ⟨Q,z,aa⟩=>?_) _ (by simp[wr]);have hb:0<=u.BQ*v.BP/\u.BQ*v.BP<=1099511627776000:=⟨Int.mul_nonneg (by omega) g.1,by
      have U:u.BQ*v.BP<=1000*v.BP:=Int.mul_le_mul_of_nonneg_right z g.1;omega⟩
     have wm:IntKind.i64.wrap (u.BQ*v.BP)=u.BQ*v.BP:=w_i _ (by omega);have:=O Q z;rw[wm]at this;omega
   ·simp;exact pn (by rw[hn];rfl)
 ·have F:d.length=l.length:=by omega
  simp[gG,a];refine re _ _ _ ?_;simp;rw[F,List.drop_length,DB]at h;have e:List.drop l.length (List.map EN l)=[]:=Gj (by simp);rw[F,e,GL];refine⟨[],by simp,?_,?_⟩
  ·simp[AE];exact Xn (Xw _ _) (L _)
  ·simpa[AE]using U d h
omit hP
def fD(x y:Int):Int:=if x<y then -1 else if y<x then 1 else 0
def Jj(p:Int×Int):D:=.agg [.int .i64 p.1,.int .i64 p.2]
abbrev pA(l:List (Int×Int)):Ob:=.A9 237 2 (l.map Jj)
def VM(l:List (Int×Int))(i:Nat):List (Int×Int):=(ew (l.take i)).reverse++l.drop i
def Zqs(l:List (Int×Int)):(ew l).length=l.length:=by
 have:=(Zo4 l []).length_eq;rw[GL]at this;exact this
def Zs0(l:List (Int×Int)):VM l 1=l:=by
 cases l<;>simp[VM,ew,MC]
def Zsz{l:List (Int×Int)}{i:Nat}(h:l.length<=i):VM l i=VW l:=by
 rw[VM,JI h,Gj h,GL,VW]
def Ztd{l:List (Int×Int)}{i:Nat}(h:i<l.length):VM l i=(ew (l.take i)).reverse++l[i]::l.drop (i+1):=by
 rw[VM,Db h]
def Zry{l:List (Int×Int)}{i:Nat}(h:i<l.length):VM l (i+1)=(MC l[i] (ew (l.take i))).reverse++l.drop (i+1):=by
 have:ew (l.take (i+1))=MC l[i] (ew (l.take i)):=by
  rw[Ca h,ew,List.foldl_append];rfl
 rw[VM,this]
def Zus:Xd prog 135=true:=by kernel_rfl
include hP
theorem Zr6{x:Int}{a:AB}{K:V->Prop}(h:K (.d (.bool false))):AU P 228 [.d (.int .i64 x)] a K:=by
 refine AJ hP AO (ds:=[.int .i64 x]) Zwz Zwj BD.nil ?_;simp[Zvz];exact h
theorem Zr5{x y:Int}{c:AB}{K:V->Prop}(h:K (.d (.int .i64 (fD x y)))):AU P 136 [.d (.int .i64 x),.d (.int .i64 y)] c K:=by
 refine AJ hP AO (ds:=[.int .i64 x,.int .i64 y]) Zwu Zwe BD.nil ?_;simp[Zvu];refine Zr6 hP ?_;simp;refine Zr6 hP ?_;simp;unfold fD at h;refine⟨λa=>?_,λa=>⟨λb=>?_,λb=>?_⟩⟩
 ·rw[BL a]at h;exact h
 ·rw[Af (by omega),BL (by omega)]at h;exact h
 ·rw[Af (by omega),Af (by omega)]at h;exact h
theorem Zur{p q:Int×Int}{a:AB}{K:V->Prop}(h:K (.d (.int .i64 (fD p.1 q.1)))):AU P 135 [.d (Jj p),.d (Jj q)] a K:=by
 refine AJ hP AO (ds:=[Jj p,Jj q]) Zwt Zwd BD.nil ?_;simp[Zvt,Jj];refine Zr5 hP ?_;simp;exact h
theorem Ztw{n:Nat}(g:n<=12){f:AB}{K:V->Prop}(h:∀r:Int,K (.d (.int .i64 r))):AU P 271 [.d (.int .u64 n)] f K:=by
 refine AJ hP AO (ds:=[.int .u64 n]) Zw1 Zwl BD.nil ?_;have a:¬(4294967296:Int)<=n:=by omega
 have b:¬(65536:Int)<=n:=by omega
 have c:¬(256:Int)<=n:=by omega
 simp[Zv1,Zs8,Zs7,Zs6,a,b,c];have e:IntKind.u8.wrap (n:Int)=n:=IntWalk.u8_in _ (by omega);rw[e];exact⟨by omega,h _⟩
theorem Zv4{n:Nat}(a:n<=12){b:AB}{K:V->Prop}(h:∀r:Int,K (.d (.int .i64 r))):AU P 227 [.d (.int .u64 n)] b K:=by
 refine AJ hP AO (ds:=[.int .u64 n]) Zwy Zwi BD.nil ?_;simp[Zvy];refine Ztw hP a λr=>?_;simp;exact h r
theorem Zv2{b:List (Int×Int)}{a:Nat}{f:AB}(o:AA f a=some (pA b))(hx:b.length<=12){K:A7->AB->Prop}(h:K (.ret (.BE [])) (AG f a (pA (VW b)))):
 AV P 262 [.sl a b.length,.d (.int .i64 0),.d (.int .i64 b.length),.fn 135 [] []] f K:=by
 refine Xk hP AO Zw0 Zwk BD.nil λ_ k=>?_;have X:Xd P.p 135=true:=by rw[hP];exact Zus
 have N:∀l:List (Int×Int),AA (AG f a (pA l)) a=some (pA l):=λl=>by rw[Xc f a a ⟨_,o⟩,BL rfl]
 have z:IntKind.i64.wrap 1=1:=by decide
 simp[Zv0,z];refine Ae.go (ι:=Nat) (λi=>[(0,.sl a b.length),(1,.d (.int .i64 0)),(2,.d (.int .i64 b.length)),(3,.fn 135 [] []),(8,.d (.int .i64 i))]) (λi=>AG f a (pA (VM b i))) (λi=>1<=i/\(i<=b.length\/i=1)) (λi=>b.length-i) 1 ⟨BV _,.inr rfl⟩ (by simp) (by rw[Zs0,Wn o]) ?_;rintro i ⟨aa,hi⟩ R rn re rr rp;by_cases g:i<b.length
 ·have wr:=w_s i (by omega);simp[Zri,g];refine Ae.go (ι:=List (Int×Int)×List (Int×Int)) (λs=>[(0,.sl a b.length),(1,.d (.int .i64 0)),(2,.d (.int .i64 b.length)),(3,.fn 135 [] []),(8,.d (.int .i64 i)),(9,.d (.int .i64 s.1.length))]) (λs=>AG f a (pA (s.1.reverse++b[i]::s.2))) (λs=>s.1.length+s.2.length+1=b.length/\(MC b[i] s.1).reverse++s.2=VM b (i+1)) (λs=>s.1.length) (ew (b.take i),b.drop (i+1)) ⟨by simp[Zqs];omega,(Zry g).symm⟩ (by simp[Zqs];omega) (by rw[Ztd g]) ?_;rintro⟨r,t⟩ ⟨q,n⟩ W c x ac ab;simp only at q n c;have Cm:∀O m,b[i]::r=MC b[i] r->m=AG f a (pA (r.reverse++b[i]::t))->W (.exit 2) ((0,V.sl a b.length)::(1,.d (.int .i64 0))::(2,.d (.int .i64 b.length))::(3,.fn 135 [] [])::(8,.d (.int .i64 i))::O) m:=λO m e Z=>by
   refine x _ _ _ ?_;subst Z;have Y:r.reverse++b[i]::t=VM b (i+1):=by rw[<-n,<-e];simp
   rw[Y];simp;refine rn [] (i+1) _ _ ⟨by omega,.inl (by omega)⟩ (by omega) (by simp[wr]) (Xe (by simp)) (by simp[AE];exact Xf o) ?_;apply BH;simpa using k []
  match r,q,n,c,Cm with
  |[],q,n,c,Cm=>
   simp[Zrh,Zrj];exact Cm _ _ rfl rfl
  |y::r,q,n,c,Cm=>
   simp only[List.length_cons]at q;have hj:¬((r.length:Int)+1<=0):=by omega
   have Q:IntKind.i64.wrap (r.length:Int)=r.length:=w_i _ (by omega);have v:b.length=r.length+(t.length+2):=by omega
   have G:((List.map (V.d∘Jj) r).reverse++V.d (Jj y)::V.d (Jj b[i])::List.map (V.d∘Jj) t)[r.length]? = some (V.d (Jj y)):=by
    rw[QS (by simp)];simp
   have J:(r.length:Int)+1<b.length:=by omega
   have w:(r.length:Int)<b.length:=by omega
   have M:(0:Int)<=(r.length:Int)+1:=by omega
   have H:((List.map (V.d∘Jj) r).reverse++V.d (Jj y)::V.d (Jj b[i])::List.map (V.d∘Jj) t)[r.length+1]? = some (V.d (Jj b[i])):=by
    rw[QS (by simp)];simp
   have F:∀p:Int×Int,(Jj p).shape.size=2:=λ_=>rfl;have U:∀p:Int×Int,(Jj p).sz=2:=λ_=>rfl;have T:∀p:Int×Int,(Jj p).shape=.node [.AX,.AX]:=λ_=>rfl;simp[Zrh,Zrj,hj,Q,N,G,H,<-v,J,w,M,X,F];refine⟨rfl,rfl,rfl,rfl,(Zur hP ?_).Bm⟩;by_cases u:b[i].1<y.1
   ·have j:fD b[i].1 y.1=-1:=by rw[fD,BL u]
    simp[j];simp[Zs5,Q,N,G,H,<-v,J,w,M,F,U,T];refine⟨rfl,rfl,rfl,rfl,?_⟩;have la:∀L:List D,AA (AG f a (.A9 237 2 L)) a=some (.A9 237 2 L):=λL=>by rw[Xc f a a ⟨_,o⟩,BL rfl]
    have g2:((List.map (V.d∘Jj) r).reverse++V.d (Jj y)::V.d (Jj y)::List.map (V.d∘Jj) t)[r.length]? = some (V.d (Jj y)):=by
     rw[QS (by simp)];simp
    simp[la,g2,<-v,w,F,U,T,X4];refine c [] (r,y::t) _ _ ⟨by simp only[List.length_cons];omega,by rw[<-n,MC,BL u];simp⟩ (by simp) (by simp) (by rw[Xe (by simp)];simp[pA]) (by simp[AE];exact Xf o) ?_;apply BH;simpa using k []
   ·have j:¬fD b[i].1 y.1<0:=by
     rw[fD,Af u];split<;>omega
    simp[j];exact Cm _ _ (by rw[MC,Af u]) (by simp)
 ·have he:b.length<=i:=by omega
  simp[Zri,g];refine re _ _ _ ?_;simp;refine⟨[],by simp,?_,?_⟩
  ·rw[Xe (by simp)];apply BH;exact k []
  ·rw[Xe (by simp),Zsz he];exact h
theorem Zv3{b:List (Int×Int)}{a:Nat}{c:AB}(g:AA c a=some (pA b))(i:b.length<=12){r:Int}{K:A7->AB->Prop}(h:K (.ret (.BE [])) (AG c a (pA (VW b)))):
 AV P 226 [.sl a b.length,.d (.int .i64 0),.d (.int .i64 b.length),.d (.int .i64 r),.fn 135 [] []] c K:=by
 refine Xk hP AO Zwx Zwh BD.nil λ_ e=>?_;have k:IntKind.i64.wrap (b.length:Int)=b.length:=w_i _ (by omega);have f:(b.length:Int)<=12:=by omega
 simp[Zvx];refine Ae.go (ι:=Unit) (λ_=>[(0,.sl a b.length),(1,.d (.int .i64 0)),(2,.d (.int .i64 b.length)),(3,.d (.int .i64 r)),(4,.fn 135 [] []),(10,.d (.bool true)),(11,.d (.bool true))]) (λ_=>c) (λ_=>True) (λ_=>0) () trivial (by simp) rfl ?_;rintro - - R m l j n;simp[Zr0,k,f];refine Zv2 hP g i ?_;simp;refine j _ _ ?_;simp;refine⟨[],by simp,?_,?_⟩
 ·rw[Xe (by simp)];apply BH;exact e []
 ·rw[Xe (by simp)];exact h
theorem gP{b:List (Int×Int)}{a:Nat}{d:AB}(e:AA d a=some (pA b))(f:b.length<=12){K:A7->AB->Prop}(h:K (.ret (.BE [])) (AG d a (pA (VW b)))):
 AV P 134 [.sl a b.length,.fn 135 [] []] d K:=by
 refine Xk hP AO Zws Zwc BD.nil λ_ c=>?_;have g:IntKind.u64.wrap (b.length:Int)=b.length:=IntWalk.u64_in _ (by omega);simp[Zvs,g,e];refine Zv4 hP f λr=>?_;refine Zv3 hP e f ?_;refine⟨[],by simp,?_,?_⟩
 ·rw[Xe (by simp)];apply BH;exact c []
 ·rw[Xe (by simp)];exact h
omit hP
def fW(b:Bool)(c:Ag):D:=.agg [iD (ey b c),iD (bJ b c),.fn (if b then 224 else 225) [] []]
def fnB(b:Bool):Nat:=if b then 224 else 225
def Zt1:Xd prog 224=true:=by kernel_rfl
def Zt2:Xd prog 225=true:=by kernel_rfl
include hP
theorem Ztx(b:Bool){m:A8}{v:Int}{a:AB}{K:V->Prop}(h:K (.BE [.d (.int .i64 (T8 b m)),.d (.int .i64 (gN b m)),.d (.int .i64 (fT b m v))])):AU P (fnB b) [.d m.enc,.d (.int .i64 v)] a K:=by
 cases b with
 |true=>
  refine AJ hP AO (ds:=[m.enc,.int .i64 v]) Zwv Zwf BD.nil ?_;simp[Zvv,A8.enc];exact h
 |false=>
  refine AJ hP AO (ds:=[m.enc,.int .i64 v]) Zww Zwg BD.nil ?_;simp[Zvw,A8.enc];exact h
theorem Zrt{c:Ag}{b:Bool}{a:AB}{K:V->Prop}(h:K (.d (fW b c))):AU P 132 [.d c.enc,.d (.bool b)] a K:=by
 refine AJ hP AO (ds:=[c.enc,.bool b]) Zwq Zwa BD.nil ?_;cases b with
 |true=>
  simp[Zuj,Ag.enc];exact h
 |false=>
  simp[Zuj,Ag.enc];exact h
theorem Zta{y:Ah}(G:y.BC){s:Int}{x:EJ}(N:x.AL.length<=9223372036854775807){J:AB}{K:V->Prop}(h:K (.d (.bool (aP y s x)))):AU P 133 [.d y.enc,.d (.int .i64 s),.d x.enc] J K:=by
 refine AJ hP AO (ds:=[y.enc,.int .i64 s,x.enc]) Zwr Zwb BD.nil ?_;have a:aP y s x=false->K (.d (.bool false)):=λe=>by rw[e]at h;exact h
 have n:y.enc.shape.size=6:=by rw[CC];rfl
 have o:y.enc.sz=6:=rfl;have l:(V.d x.enc).BM=some [.d (iD x.AP),.d (.AF 1 (x.AL.map iD)),.d (.AF 1 (x.CH.map iD))]:=rfl;have m:x.enc.shape=.node [.AX,.AX,.AX]:=rfl;have xz:x.enc.sz=3:=rfl;by_cases i:x.AP=s
 rotate_left
 ·simp[Ztp,o,n,l,m,xz,i];exact a (by simp[aP,i])
 by_cases p:x.AL.length=x.CH.length
 rotate_left
 ·have q:¬(x.AL.length:Int)=x.CH.length:=by omega
  simp[Ztp,o,n,l,m,xz,i,q];exact a (by simp[aP,p])
 have F:aP y s x=bE y s (-1) (x.AL.zip x.CH):=by simp[aP,i,p]
 rw[F]at h a;simp[Ztp,o,n,l,m,xz,i,p];have w:(x.AL.zip x.CH).length=x.CH.length:=by rw[List.length_zip,p,Nat.min_self]
 refine Ae.go (ι:=Nat×Int) (λk=>[(1,.d (.int .i64 s)),(3,.ptr 0 []),(5,.ptr 1 []),(7,.d (.int .i64 k.2)),(24,.d (.AF 1 (x.AL.map iD))),(25,.d (.int .i64 x.CH.length)),(26,.d (.int .i64 k.1))]) (λ_=>[(1,.box 57 (.d x.enc)),(0,.box 29 (.d y.enc))]) (λk=>k.1<=x.CH.length/\bE y s (-1) (x.AL.zip x.CH)=bE y s k.2 ((x.AL.zip x.CH).drop k.1)) (λk=>x.CH.length-k.1) (0,-1) ⟨DM _,rfl⟩ (by simp) (by simp) ?_;rintro⟨k,b⟩ ⟨z,g⟩ R u L v O;simp only at z g u;by_cases f:k<x.CH.length
 ·have t:k<x.AL.length:=by omega
  have M:=w_s k (by omega);have H:(x.AL.zip x.CH).drop k=(x.AL[k],x.CH[k])::(x.AL.zip x.CH).drop (k+1):=by
   rw[Db (by rw[w];exact f),List.getElem_zip]
  rw[H,bE]at g;by_cases r:x.AL[k]<=b
  ·have c:¬b<x.AL[k]:=by omega
   simp[Zpu,f,t,o,n,l,m,xz,r];refine v _ _ ?_;simp;exact a (by rw[g];simp[c])
  ·have c:b<x.AL[k]:=by omega
   simp[Zpu,f,t,o,n,l,m,xz,r];refine⟨rfl,Yi0 hP G ?_⟩;cases j:Nn y s x.AL[k] x.CH[k]with
   |false=>
    simp;refine v _ _ ?_;simp;exact a (by rw[g];simp[j])
   |true=>
    simp;refine u [] (k+1,x.AL[k]) _ _ ⟨by simp only;omega,?_⟩ (by simp only;omega) (by simp[M]) (by simp[AE]) (by simp[AE]) (by simp[AE]);rw[g];simp[c,j]
 ·have:k=x.CH.length:=by omega
  subst this;simp[Zpu];refine L _ _ _ ?_;simp;rw[g,Gj (by rw[w];exact BV _)]at h;exact h
omit hP
def VL:D:=.agg [iD 0,.AT,.AT]
def rk{ms:List A8}{b:Bool}:∀{l:List (Int×Int)},(∀p∈l,∃q,MX ms b p=[q])->(G9 ms b l).length=l.length
|[],_=>rfl
|p::r,h=>by
 obtain⟨q,e⟩:=h p (by simp);have:=rk (ms:=ms) (b:=b) (l:=r) λp a=>h p (by simp[a]);rw[G9,List.flatMap_cons,e];simpa[G9]using this
def Zrx(a:List A8)(b:Bool)(l:List (Int×Int))(p:Int×Int):G9 a b (l++[p])=G9 a b l++MX a b p:=by simp[G9]
include hP
theorem Zr8{y:Ah}(hy:y.BC){c:Ag}(h2:Hw y c=true)(hm:c.Ap.length<=1000000){b:Bool}{x:EJ}(hx:x.AL.length<=8){ob:AB}{K:V->Prop}(h0:Rp y c b x=none->K (.BE [.d VL,.d (iD 150)]))(h1:∀z,Rp y c b x=some z->K (.BE [.d z.enc,.d (iD 0)])):
 AU P 71 [.d y.enc,.d c.enc,.d (.bool b),.d x.enc] ob K:=by
 refine AJ hP AO (ds:=[y.enc,c.enc,.bool b,x.enc]) Zyi Zx9 BD.nil ?_;have ys:y.enc.shape.size=6:=by rw[CC];rfl
 have yz:y.enc.sz=6:=rfl;have X:(V.d x.enc).BM=some [.d (iD x.AP),.d (.AF 1 (x.AL.map iD)),.d (.AF 1 (x.CH.map iD))]:=rfl;have Y:x.enc.shape=.node [.AX,.AX,.AX]:=rfl;have xz:x.enc.sz=3:=rfl;have J:(V.d c.enc).BM=some [.d (.AM c.Aw),.d (.AM c.CA),.d (iD c.a),.d (iD c.b),.d (.AF 5 (c.Ap.map A8.enc))]:=rfl;have L:c.enc.shape=.node [.AX,.AX,.AX,.AX,.AX]:=rfl;have M:c.enc.sz=5:=rfl;have dk:(V.d (fW b c)).BM=some [.d (iD (ey b c)),.d (iD (bJ b c)),.d (.fn (fnB b) [] [])]:=rfl;have dh:(fW b c).shape=.node [.AX,.AX,.AX]:=rfl;have dz:(fW b c).sz=3:=rfl;simp[Zx0,yz,ys,X,Y,xz,J,L,M];refine⟨rfl,Zrt hP ?_⟩;simp[yz,ys,X,Y,xz,J,L,M,dk,dh,dz];refine⟨rfl,rfl,rfl,rfl,Zta hP hy (by omega) ?_⟩;cases Q:aP y (ey b c) x with
 |false=>
  simp;exact h0 (by simp[Rp,Q])
 |true=>
  simp;obtain⟨⟨_,e2⟩,hk⟩:(x.AP=ey b c/\x.AL.length=x.CH.length)/\bE y (ey b c) (-1) (x.AL.zip x.CH)=true:=by
   unfold aP at Q;simpa only[As,Bs]using Q
  obtain⟨_,hp⟩:=gz.1 hk;have r:∀p∈x.AL.zip x.CH,∃q,MX c.Ap b p=[q]:=λp o=>by
   obtain⟨q,g⟩:=fY h2 b (hp p o).2;exact⟨q,g.step⟩
  have zl:(x.AL.zip x.CH).length=x.AL.length:=by rw[List.length_zip,<-e2,Nat.min_self]
  have ml:(G9 c.Ap b (x.AL.zip x.CH)).length<=8:=by rw[rk r,zl];exact hx
  have s:=h1 _ (by rw[Rp,BL Q]);have aa:Xd P.p (fnB b)=true:=by
   rw[hP];cases b
   ·exact Zt2
   ·exact Zt1
  obtain⟨Z,hZ⟩:∃Z,Z=x.AL.zip x.CH:=⟨_,rfl⟩
  rw[<-hZ]at s r zl ml;let O:List (Int×Int)->AB:=λl=>[(5,pA l),(4,.box 233 (.d (fW b c))),(3,.box 57 (.d VL)),(2,.box 57 (.d x.enc)),(1,.box 66 (.d c.enc)),(0,.box 29 (.d y.enc))];have f:∀p l,AH p (O l)=true:=λp l=>by simp[O,AH]
  refine Ae.upto x.AL.length (λk=>[(5,.ptr 1 []),(7,.ptr 2 []),(8,.ptr 3 []),(10,.ptr 4 []),(11,.sl 5 (G9 c.Ap b (Z.take k)).length),(33,.d (.AF 1 (x.AL.map iD))),(34,.d (.int .i64 x.AL.length)),(35,.d (.int .i64 k))]) (λk=>O (G9 c.Ap b (Z.take k))) (λ_=>True) trivial (by simp[G9]) (by simp[O,G9,VL]) ?_ ?_
  ·intro k n _ R T h v u;have U:=w_s k (by omega);have w:k<x.CH.length:=by omega
   have ab:Z.take (k+1)=Z.take k++[(x.AL[k],x.CH[k])]:=by
    rw[Ca (by rw[zl];exact n)];simp only[hZ,List.getElem_zip]
   have F:G9 c.Ap b (Z.take (k+1))=G9 c.Ap b (Z.take k)++MX c.Ap b (x.AL[k],x.CH[k]):=by rw[ab,Zrx]
   have lk:(G9 c.Ap b (Z.take k)).length=k:=by
    rw[rk λp o=>r p (Fe o),E9];omega
   by_cases N:x.AL[k]=0
   ·have sp:MX c.Ap b (x.AL[k],x.CH[k])=[(0,x.CH[k])]:=by rw[MX,BL N]
    rw[sp]at F;simp[Zqt,O,n,w,X,Y,xz,J,L,M,N];refine⟨by rw[lk];omega,?_⟩;refine T [] _ _ trivial (by simp[U,F]) (by simp[AE,F,O,Jj]) (by simp[AE,O]) (by simp[AE,f])
   ·have sp:MX c.Ap b (x.AL[k],x.CH[k])=(c.Ap.filter λm=>decide (T8 b m=x.AL[k])).map λm=>(gN b m,fT b m x.CH[k]):=by rw[MX,Af N]
    rw[sp]at F;simp[Zqt,O,n,w,X,Y,xz,J,L,M,N];let q:Nat->List (Int×Int):=λj=>G9 c.Ap b (Z.take k)++((c.Ap.take j).filter λm=>decide (T8 b m=x.AL[k])).map λm=>(gN b m,fT b m x.CH[k]);have ql:∀j,j<=c.Ap.length->(q j).length<=2000000:=λj hj=>by
     simp only[q,DV,List.length_map,lk];have:=List.length_filter_le (λm:A8=>decide (T8 b m=x.AL[k])) (c.Ap.take j);rw[E9]at this;omega
    refine Ae.upto c.Ap.length (λj=>[(5,.ptr 1 []),(7,.ptr 2 []),(8,.ptr 3 []),(10,.ptr 4 []),(11,.sl 5 (q j).length),(13,.d (iD x.AL[k])),(14,.d (iD x.CH[k])),(33,.d (.AF 1 (x.AL.map iD))),(34,.d (.int .i64 x.AL.length)),(35,.d (.int .i64 k)),(53,.d (.AF 5 (c.Ap.map A8.enc))),(54,.d (.int .i64 c.Ap.length)),(55,.d (.int .i64 j))]) (λj=>O (q j)) (λ_=>True) trivial (by simp[q]) (by simp[O,q]) ?_ ?_
    ·intro j hj _ R2 H G ad ac;have wj:=w_s j (by omega);have qj:=ql j (by omega);have mz:∀m:A8,m.enc.sz=5:=λ_=>rfl;have ms:∀m:A8,m.enc.shape=.node [.AX,.AX,.AX,.AX,.AX]:=λ_=>rfl;have t:q (j+1)=q j++if T8 b c.Ap[j]=x.AL[k] then[(gN b c.Ap[j],fT b c.Ap[j] x.CH[k])] else[]:=by
      simp only[q];rw[Ca hj,List.filter_append,Ij,<-Kk];congr 1;by_cases e:T8 b c.Ap[j]=x.AL[k]<;>simp[e]
     simp[Zr2,O,hj,mz,ms,dk,dh,dz,aa];refine⟨rfl,(Ztx hP b ?_).Bm⟩;simp[Ztt];by_cases e:T8 b c.Ap[j]=x.AL[k]
     ·rw[BL e]at t;simp[e];refine⟨by omega,?_⟩;simp[Zr3];refine H [] _ _ trivial (by simp[wj,t]) (by simp[AE,t,O,Jj]) (by simp[AE,O]) (by simp[AE,f])
     ·rw[Af e,GL]at t;simp[e,Zr3];refine H [] _ _ trivial (by simp[wj,t]) (by simp[AE,t,O]) (by simp[AE,O]) (by simp[AE,f])
    ·clear h v u;intro _ R2 G ad ac;simp[Zr2,O];refine G _ _ _ ?_;simp;have qa:q c.Ap.length=G9 c.Ap b (Z.take (k+1)):=by simp only[q,C0,F]
     rw[qa];refine T [] _ _ trivial (by simp[U]) (by simp[AE,O]) (by simp[AE,O]) (by simp[AE,f])
  ·intro _ R h v u;simp[Zqt,O];refine h _ _ _ ?_;simp;have eZ:Z.take x.AL.length=Z:=JI (by omega);rw[eZ];refine gP hP (by simp[AA]) (by omega) ?_;simp[Zts,AG,VL,dk,dh,dz];have sl:(VW (G9 c.Ap b Z)).length=(G9 c.Ap b Z).length:=(w7 _).length_eq;refine⟨sl.symm,?_⟩;obtain⟨S,hS⟩:∃S,S=VW (G9 c.Ap b Z):=⟨_,rfl⟩
   rw[<-hS]at s sl⊢;rw[<-sl]at ml⊢;let W:Nat->AB:=λi=>[(7,.A9 3 1 ((S.take i).map λp=>iD p.2)),(6,.A9 3 1 ((S.take i).map λp=>iD p.1)),(5,pA S),(4,.box 233 (.d (fW b c))),(3,.box 57 (.agg [.d (iD (bJ b c)),.sl 6 i,.sl 7 i])),(2,.box 57 (.d x.enc)),(1,.box 66 (.d c.enc)),(0,.box 29 (.d y.enc))];refine Ae.upto S.length (λi=>[(8,.ptr 3 []),(84,.sl 5 S.length),(85,.d (.int .i64 S.length)),(86,.d (.int .i64 i))]) W (λ_=>True) trivial (by simp) (by simp[W]) ?_ ?_
   ·clear h v u R;intro i hi _ R T h v u;have U:=w_s i (by omega);have zk:∀p:Int×Int,(V.d (Jj p)).BM=some [.d (iD p.1),.d (iD p.2)]:=λ_=>rfl;have zz:∀p:Int×Int,(Jj p).sz=2:=λ_=>rfl;have zh:∀p:Int×Int,(Jj p).shape=.node [.AX,.AX]:=λ_=>rfl;have tl:(S.take i).length=i:=by rw[E9];omega
    simp[Zr1,W,hi,zk,zz,zh];have mi:min i S.length=i:=by omega
    rw[mi];refine⟨rfl,rfl,by omega,rfl,by omega,?_⟩;have t1:(S.take (i+1)).map (λp=>iD p.1)=List.take i (List.map (λp=>iD p.1) S)++[iD S[i].1]:=by rw[Ca hi,Ij,Ki];rfl
    have t2:(S.take (i+1)).map (λp=>iD p.2)=List.take i (List.map (λp=>iD p.2) S)++[iD S[i].2]:=by rw[Ca hi,Ij,Ki];rfl
    refine T [] _ _ trivial (by simp[U]) (by simp only[W];rw[t1,t2];simp[AE]) (by simp[AE,W]) (by simp[W,AE,AH,V.BJ,BO])
   ·clear h v u R;intro _ R h v u;simp[Zr1,W];refine h _ _ _ ?_;simp;have e1:List.take S.length (List.map (λp:Int×Int=>iD p.1) S)=(S.map (·.1)).map iD:=by rw[JI (by simp),List.map_map];rfl
    have e2:List.take S.length (List.map (λp:Int×Int=>iD p.2) S)=(S.map (·.2)).map iD:=by rw[JI (by simp),List.map_map];rfl
    rw[e1,e2];exact s
omit hP
def H8:Xb->List Nat->List V->Xb
|sl,p::a,v::b=>H8 ((p,v)::sl) a b
|sl,_,_=>sl
def MH(id n:Nat)(d:EC)(c:AB)(K:AB->Prop):Option Ob->Prop
|some (.lp b _ a)=>X0 n K [] (AG c id (.lp b d a))
|_=>False
def TY(id n:Nat)(K:A7->AB->Prop):Yt
|.normal,_,a=>MH id n .ready a (K (.ret (.d (.bool true)))) (AA a id)
|.ret,_,a=>MH id n .ret a (K (.ret (.d (.bool false)))) (AA a id)
|.exit m,_,a=>MH id n (.exit m) a (K (.ret (.d (.bool false)))) (AA a id)
|.panic _,_,_=>False
def YZ(P:Az)(y:S)(id n:Nat)(K:A7->AB->Prop)(d:Xb)(c:AB):Option Ob->Prop
|some (.lp b .ready a)=>Co P y (TY id n K) d (AG c id (.lp b .busy a))
|_=>False
def YY(P:Az)(y:S)(id n:Nat)(K:A7->AB->Prop):Yt
|.normal,b,a=>YZ P y id n K b a (AA a id)
|_,_,_=>False
section
variable {w:World} {ρ:A0}
def X36{sl:Xb}{t:Array Value}(h:∀p∈sl,p.2.An w ρ (t.getD p.1 undef))(k:Nat):(Ay sl k).An w ρ (t.getD k undef):=by
 rcases Yc1 (sl:=sl) (k:=k) with e|e
 ·rw[e];exact Qy
 ·exact h _ e
def wC:∀(a:List Nat)(b:List V)(g:List Value)(f:Xb)(t:Array Value),V.A1 w ρ b g->b.length=a.length->(∀p∈a,p<t.size)->(∀k,(Ay f k).An w ρ (t.getD k undef))->
 ∀k,(Ay (H8 f a b) k).An w ρ (((a.zip g).foldl (λ(t:Array Value) (x:Nat×Value)=>t.setIfInBounds x.1 x.2) t).getD k undef)
|[],b,g,f,t,c,d,_,h,k=>by
 cases b with
 |nil=>simp only[V.A1]at c;subst c;exact h k
 |cons v r=>simp at d
|p::a,[],g,f,t,c,d,_,h,k=>by simp at d
|p::a,v::b,g,f,t,c,d,n,h,k=>by
 simp only[V.A1]at c;obtain⟨u,m,rfl,o,s⟩:=c;simp only[H8,List.zip_cons_cons,List.foldl_cons];refine wC a b m _ _ s (by simpa using d) (λq y=>by simpa using n q (by simp[y])) (λj=>?_) k;have l:=n p (by simp);simp only[Ay];split
 next e=>subst e;have i:v.An w ρ u:=o;simpa[l]using i
 next e=>have:=h j;simpa[Tu,e]using this
def wK:∀(l:List (Nat×Value)) (t:Array Value),(l.foldl (λ(t:Array Value) (x:Nat×Value)=>t.setIfInBounds x.1 x.2) t).size=t.size
|[],_=>rfl
|x::r,t=>by simp only[List.foldl_cons];rw[wK r];simp
end
def CL.of{P:Az}(hm:P.p.follows .mixedOrders=true){id al:Nat}{ps:List Nat}{x y:S}{W:Xb}{ob:AB}{vs:List V}{K:A7->AB->Prop}(hL:V7 P al ps x y)(hl:AA ob id=some (.lp al .ready W))(aa:vs.length=ps.length)
 (h:Co P x (YY P y id (fresh ob) K) (H8 W ps vs) ob):CL P id vs ob K:=by
 refine⟨λw J G b hO hg hr hb=>?_⟩;obtain⟨b',fn,tm,dd,qs,ca,cb,g1,g2,g3,g4⟩:=hO.BU _ _ hl;rw[hb]at g1;cases g1;rw[hg]at g3;have hc:=(hL qs tm.size ca cb).1 g3;simp only[As,CT,DQ,Bs]at hc;obtain⟨⟨⟨⟨⟨ag,ay⟩,ao⟩,ap⟩,aw⟩,ax⟩:=hc;have an:G.length=ps.length:=by rw[<-aa];exact Yr hr
 let M:Array Value:=(qs.zip G.toArray).foldl (λtmps (x:Nat×Value)=>tmps.setIfInBounds x.1 x.2) tm;have ai:M=(ps.zip G).foldl (λ(t:Array Value) (x:Nat×Value)=>t.setIfInBounds x.1 x.2) tm:=by
  simp only[M,<-Array.foldl_toList,Array.toList_zip,ag,List.toList_toArray]
 have ac:(Instr.getLoop b).run P.p w=.ok {state:=.ready,pending:=none,fn:=fn,tmps:=tm,params:=qs,assign:=ca,body:=cb,defers:=dd} w:=by
  simp[Instr.getLoop,getObj,Sem.run,g2,EC.st,EC.DS]
 refine⟨fn,M,ca,cb,?_,?_⟩
 ·have az:G.toArray.size=qs.size:=by
   have:=CK List.length ag;simp at this;simp[an,this]
  simp only[Instr.yield,Sem.run_bind,ac,Result.andThen_ok];rw[Af (by simp[az])];simp only[Sem.run_pure];rfl
 ·refine roundIn_of_wpIn (F:=Fence.wide) trivial ?_;let c:Di:=⟨w,Eg J,tm.size,[],P.g,J.m,[(.hd true id,.func (.yield b) #[] #[])],false⟩
  have m:C3 c J.xo J (H8 W ps vs) ob {tmps:=M,defers:=[] } w:=by
   refine⟨⟨BV _,λ_ _ _=>rfl,λb h=>.inr h,rfl,rfl,rfl,λid o h=>⟨o,h,.refl o⟩,λp hp=>?_,BV _⟩,hO,λk=>?_,?_,EZ.nil,rfl,hg⟩
   ·simp only[c,DW]at hp;subst hp;exact LR.2 (.inl ⟨b,hb,rfl⟩)
   ·show(Ay (H8 W ps vs) k).An w J (M.getD k undef);rw[ai];exact wC ps vs G W tm hr aa ay (X36 g4) k
   ·show M.size=tm.size;rw[ai,wK]
  have a0:∀kp i o,J.m i=some o->AE (fresh ob) kp i=false:=λkp i o h0=>by
   obtain⟨x,T⟩:=hO.D1 i o h0;have av:¬fresh ob<=i:=λau=>by rw[Xu _ _ au]at T;cases T
   simp[AE,av]
  -- the loop's s,wherever the round stands
  have s:∀{q:World}{a:A0}{z:Xb}{f:AB}{Y:Act}{tg:Nat}{st st':EC}{sk:Xb},C3 c J.xo a z f Y q->AA f id=some (.lp tg st sk)->
   ∃r:Loop,(Instr.getLoop b).run P.p q=.ok r q/\r.state=st.st/\(setObj b (.loop {r with state:=st'.st,pending:=st'.DS})).run P.p q=.ok () (EB q b (.loop {r with state:=st'.st,pending:=st'.DS}))/\r.pending=st.DS/\
    C3 c J.xo a z (AG f id (.lp tg st' sk)) Y (EB q b (.loop {r with state:=st'.st,pending:=st'.DS})):=by
   intro q a z f Y tg st st' sk l Z;obtain⟨b2,R,X,Q,U,N,O,k1,k2,k3,k4⟩:=l.om.BU _ _ Z;have T:=l.base.ext (.hd true id,.func (.yield b) #[] #[]) (by simp[c]);rw[LR]at T;rcases T with⟨b3,T,e⟩|⟨T,_⟩
   ·rw[k1]at T;cases T;simp only[KU,Value.func.injEq,Go.Fn.yield.injEq,GK]at e;subst e;refine⟨{state:=st.st,pending:=st.DS,fn:=R,tmps:=X,params:=U,assign:=N,body:=O,defers:=Q},by simp[Instr.getLoop,getObj,Sem.run,k2],rfl,Jf q k2 rfl,rfl,?_⟩;have ad:Qh (EB q b (.loop {state:=st'.st,pending:=st'.DS,fn:=R,tmps:=X,params:=U,assign:=N,body:=O,defers:=Q})) a id (.lp tg st' sk):=by
     refine⟨b,R,X,Q,U,N,O,k1,UA q _ (Xi k2),k3,λp hp=>?_⟩;have t1:Tr q a (EB q b (.loop {state:=st'.st,pending:=st'.DS,fn:=R,tmps:=X,params:=U,assign:=N,body:=O,defers:=Q})) a:=by
      refine⟨by rw[Vh];exact BV _,λj hj _=>Zp q _ (λe=>hj ?_),λ_ h=>.inl h,rfl,rfl,λ_ o h=>⟨o,h,.refl o⟩,rfl,rfl,rfl,BV _⟩;subst e;exact⟨id,_,k1,rfl⟩
     exact Gg t1 (k4 p hp)
    obtain⟨t1,o1⟩:=Xwp (o:=.loop {state:=st'.st,pending:=st'.DS,fn:=R,tmps:=X,params:=U,assign:=N,body:=O,defers:=Q}) l.om Z k1 (Xi k2) (x:=.lp tg st' sk) ad;exact⟨l.base.tr t1,o1,l.sm.tr t1,l.size,l.df.tr t1,t1.xo.trans l.xo,t1.gl.trans l.gl⟩
   ·rw[k1]at T;cases T
  have tr:∀{q:World}{a:A0}{z:Xb}{f:AB}{Y:Act},C3 c J.xo a z f Y q->∀kp,Tr w J q (a.CB (AE (fresh ob) kp)):=λ{q a z f Y} l kp=>by
   refine⟨l.base.size,λb h1 h2=>l.base.keep b h2 h1,λb h1=>(l.base.Cs b (Zv h1)).symm,?_,?_,λid o h1=>?_,l.base.tape,l.base.os,l.base.CO,l.base.drawn⟩
   ·show a.xo=J.xo;rw[l.xo]
   ·show a.gl=J.gl;rw[l.gl,hg]
   ·obtain⟨o',h3,h4⟩:=l.base.same id o h1;exact⟨o',by simp only[A0.CB,a0 kp id o h1];exact h3,h4⟩
  have Cm:∀{q:World}{a:A0}{z:Xb}{f:AB}{Y:Act}{st:EC}{H:Option Code}{v:Bool},C3 c J.xo a z f Y q->st.st=(if H.isNone then .ready else .done)->st.DS=H->H.isNone=v->MH id (fresh ob) st f (K (.ret (.d (.bool v)))) (AA f id)->
   ∃u w4,(Instr.endRound b H).run P.p q=.ok u w4/\∃ak aj ab,K ak aj/\Wv w4 ab (.returned u) ak/\OM w4 ab aj/\Tr w J w4 ab:=by
   intro q a z f Y st H v l ah af hv hk;unfold MH at hk;split at hk
   next tg a9 sk Z=>obtain⟨r,q1,_,q3,_,m2⟩:=s (st':=st) l Z;obtain⟨kp,_,k2,k3⟩:=hk;refine⟨.bool v,_,?_,_,_,_,k3,BI.2 rfl,m2.om.CB k2,tr m2 kp⟩;rw[ah,af]at q3;simp only[Instr.endRound,Sem.run_bind,q1,Result.andThen_ok,q3,Sem.run_pure];rw[ah,af,hv]
   ·cases hk
  refine wpIn_mono (Yc (rd:=some b) hm (c:=c) rfl ca x _ _ _ J _ w ao (.inl aw) h m) ?_;rintro e a1 w1 ⟨ae,a7,a5,a4,L,he,m1⟩;cases ae with
  |exit n=>cases L
  |ret=>cases L
  |panic v=>cases L
  |normal=>
   cases e<;>simp only[DY]at he;simp only[YY]at L;unfold YZ at L;split at L
   ·rename_i tg sk aq;obtain⟨r,q1,q2,q3,q4,m2⟩:=s (st':=.busy) m1 aq;refine⟨_,?_,wpIn_mono (Yc (rd:=some b) hm (c:=c) rfl cb y _ _ _ a4 a1 _ ap (.inl ax) L m2) ?_⟩
    ·simp only[Instr.beginRound,Sem.run_bind,q1,Result.andThen_ok];have a2:(setObj b (.loop {r with state:=.busy})).run P.p w1=.ok () (EB w1 b (.loop {r with state:=.busy,pending:=none})):=by
      have:(Loop.mk .busy r.pending r.fn r.tmps r.params r.assign r.body r.defers)=Loop.mk .busy none r.fn r.tmps r.params r.assign r.body r.defers:=by rw[q4];rfl
      show(setObj b (.loop (Loop.mk .busy r.pending r.fn r.tmps r.params r.assign r.body r.defers))).run P.p w1=_;rw[this];exact q3
     rw[a2,q2];simp[EC.st];rfl
    ·rintro e a3 w3 ⟨ae,a8,a6,ba,L,he,m3⟩;cases ae with
     |normal=>cases e<;>simp only[DY]at he;exact Cm (st:=.ready) m3 rfl rfl rfl L
     |ret=>cases e<;>simp only[DY]at he;exact Cm (st:=.ret) m3 rfl rfl rfl L
     |exit n=>cases e<;>simp only[DY]at he;subst he;exact Cm (st:=.exit _) m3 rfl rfl rfl L
     |panic v=>cases L
   ·cases L
def PA(n:Nat)(b:List RV)(K:A7->AB->Prop):Yt
|.panic _,_,_=>False
|e,c,a=>H9 n b K e c a
section
variable {n k:Nat} {sl:Xb} {ob:AB} {v:V}
@[simp]def callNR_r(b:List RV)(a:A7->AB->Prop):PA n b a .ret sl ob=Va sl ob b λc=>X0 n (a (.ret (W8 c))) c ob:=by simp only[PA,H9]
@[simp]def callNR_p(b:List RV)(a:A7->AB->Prop):PA n b a (.panic v) sl ob=False:=by simp only[PA]
end
section
def Xly{P:Az}(O:P.p.follows .mixedOrders=true){f:Nat}{s:S}{rs:List RV}{q:List V}{G:AB}{K:A7->AB->Prop}(J:Hh P.p f q.length s rs=true)
 (h:Co P s (PA (fresh G) rs K) (Uo 0 q) G):AV P f q G K:=by
 unfold Hh at J;split at J
 ·rename_i fn hf;split at J
  ·rename_i N hb;simp only[As,Bs]at J;obtain⟨⟨hn,y⟩,Z⟩:=J;refine⟨λw u j hO hg W=>callsIn_wide.1 (callsIn_of_wp_marks (n:=0) hf hb trivial ?_)⟩;let c:Di:=⟨w,Eg u,fn.ntmps,[],P.g,u.m,[],true⟩
   have ag:j.length=q.length:=by simpa using Yr W
   have m:C3 c u.xo u (Uo 0 q) G {tmps:=j.toArray++Array.replicate (fn.ntmps-j.toArray.size) undef,defers:=[] } w:=by
    refine⟨⟨BV _,λ_ _ _=>rfl,λb h=>.inr h,rfl,rfl,rfl,λid o h=>⟨o,h,.refl o⟩,(λp hp=>by cases hp),BV _⟩,hO,?_,?_,EZ.nil,rfl,hg⟩
    ·refine Up W 0 _ (λi hi=>?_);simp[LI,hi]
    ·simp[c];omega
   refine wpIn_mono (Yc (rd:=none) O rfl N s _ _ _ u _ w y (.inr ⟨rfl,rfl⟩) h m) ?_;rintro e Y L ⟨ae,af,k,d,M,he,a⟩;have ad:∀F id o,u.m id=some o->AE (fresh G) F id=false:=λF id o h0=>by
    obtain⟨x,hx⟩:=hO.D1 id o h0;have ac:¬fresh G<=id:=λab=>by rw[Xu _ _ ab]at hx;cases hx
    simp[AE,ac]
   have z:Va af k rs (λq=>X0 (fresh G) (K (.ret (W8 q))) q k)->LeavesInM Fence.wide 0 P.p fn Y.tmps (λe L=>∃U k d,K U k/\Wv L d e U/\OM L d k/\Tr w u L d) Y.defers .returning L:=by
    intro M;obtain⟨ms,q1,_,q3,q4⟩:=a.df;have q1:Y.defers=ms.map G0:=by rw[q1];simp[c]
    rw[q1];refine Vv ms L q3 (λr W=>(q4 r W).2.1) (λX sm hs=>?_);have aa:∀b o,d.gl b=some o->X.heap[b]? = L.heap[b]?:=λb o hb=>hs b (λO=>by
     have H:=(hO.Dn b o (by rw[hg,<-show d.gl=P.g from a.gl];exact hb)).1;have:=(q4 b O).1;have:=Xi H;show False;simp only[c]at *;omega)
    have T:=OM.same sm a.om aa;have tr:∀{l:A0},Tr X d X l->∀F,Tr w u X (l.CB (AE (fresh G) F)):=λ{l} t F=>by
     refine⟨by rw[sm.size];exact a.base.size,λb y Z=>(hs b (λO=>by have:=(q4 b O).1;simp only[c]at this;omega)).trans (a.base.keep b Z y),λb y=>?_,?_,?_,λid o y=>?_,sm.tape.trans a.base.tape,sm.os.trans a.base.os,sm.CO.trans a.base.CO,by rw[sm.drawn];exact a.base.drawn⟩
     ·rcases t.Cs b (Zv y) with H|H
      ·exact(a.base.Cs b H).symm
      ·exact .inr (FA (by rw[sm.size];exact a.base.size) H)
     ·show l.xo=u.xo;rw[t.xo,a.xo]
     ·show l.gl=u.gl;rw[t.gl,a.gl,hg]
     ·obtain⟨o1,H,h4⟩:=a.base.same id o y;obtain⟨o2,h5,h6⟩:=t.same id o1 H;exact⟨o2,by simp only[A0.CB,ad F id o y];exact h5,h4.trans h6⟩
    obtain⟨q,us,hk,Q,R⟩:=Wc (P:=P.p) (fn:=fn) (SM.same sm a.sm) T Z M;obtain⟨F,k1,k2,k3⟩:=hk;exact⟨IP us,R,.ret (W8 q),_,_,k3,Uh (T9 k1 Q),T.CB k2,tr (Tr.refl _ _) F⟩
   cases ae with
   |normal=>
    cases e<;>simp only[DY]at he;exact z M
   |ret=>
    cases e<;>simp only[DY]at he;exact z M
   |exit n=>cases M
   |panic v=>cases M
  ·simp at J
 ·simp at J
end
section
variable {P:Az} {T:Cy} {sl slk:Xb} {ob:AB} {KO PO:V->AB->Prop} {KV:V->Prop}
@[simp]def iwp_rng(x:A):I.wp P sl ob KO PO (.Ic x)=Lw ob KO (x.ev sl) (AA ob (My (x.ev sl))):=by simp only[I.wp]
@[simp]def iwp_nxt(x:A):I.wp P sl ob KO PO (.I6 x)=Lu ob KO (x.ev sl):=by simp only[I.wp]
@[simp]def iwp_ety(x:A):I.wp P sl ob KO PO (.IW x)=Ls ob (λv=>KO v ob) (x.ev sl):=by simp only[I.wp]
@[simp]def iwp_lenM(x:A):I.wp P sl ob KO PO (.EI x)=KG ob (λv=>KO v ob) (x.ev sl):=by simp only[I.wp]
@[simp]def iwp_xcall(f:Nat)(l:List A):I.wp P sl ob KO PO (.Bx f l)=CD P f (l.map (A.ev sl)) ob KO:=by simp only[I.wp]
@[simp]def mpId_mp(id:Nat):My (.mp id)=id:=rfl
@[simp]def rngK_mp(id:Nat)(a:List (D×V)):Lw ob KO (.mp id) (some (.map a))=KO (.hd false (fresh ob)) ((fresh ob,.it (some id) a.length [])::ob):=by simp only[Lw]
@[simp]def nxtK_hd(id:Nat):Lu ob KO (.hd false id)=K8 ob id KO (AA ob id):=by simp only[Lu]
@[simp]def nxtKo_n(id n:Nat)(l:List Nat):K8 ob id KO (some (.it none n l))=KO (.BE [.d (.bool false)]) ob:=by simp only[K8]
@[simp]def nxtKo_s(id j n:Nat)(l:List Nat):K8 ob id KO (some (.it (some j) n l))=PN ob id j n l KO (AA ob j):=by simp only[K8]
@[simp]def nxtKm_m(id j n:Nat)(seen:List Nat)(a:List (D×V)):PN ob id j n seen KO (some (.map a))=(a.length=n/\((List.range n).all (λi=>seen.contains i)=true->KO (.BE [.d (.bool false)]) ob)/\
 ∀i,i<n->seen.contains i=false->KO (.BE [.d (.bool true),.d (a.getD i default).1,(a.getD i default).2]) (AG ob id (.it (some j) n (seen++[i])))):=by simp only[PN]
@[simp]def entK_hd(id:Nat):Ls ob KV (.hd false id)=No ob KV (AA ob id):=by simp only[Ls]
@[simp]def entKo_s(j n:Nat)(l:List Nat):No ob KV (some (.it (some j) n l))=(l≠[]/\PT (l.getLastD 0) n KV (AA ob j)):=by simp only[No]
@[simp]def entKm_m(i n:Nat)(a:List (D×V)):PT i n KV (some (.map a))=(i<n/\a.length=n/\KV (.BE [.d (a.getD i default).1,(a.getD i default).2])):=by simp only[PT]
@[simp]def lenMK_mp(id:Nat):KG ob KV (.mp id)=PZ KV (AA ob id):=by simp only[KG]
@[simp]def lenMo_m(a:List (D×V)):PZ KV (some (.map a))=KV (.d (.int .i64 a.length)):=by simp only[PZ]
@[simp]def callvK_hd(a:List V)(id:Nat):V9 P a ob KO PO (.hd true id)=(S1 (AA ob id)/\CL P id a ob (Ef KO PO)):=by simp only[V9]
@[simp]def isLp_s(a:Nat)(b:EC):S1 (some (.lp a b sl))=True:=by simp only[S1]
@[simp]def cwp2_rgf(b:Nat)(c:List Nat)(g:A)(x y:S)(a:List Nat)(Q:Yt):Ys P T (.E4 b c g x y a) Q sl ob=(V7 P b c x y/\MI P b (Xj sl a) ob Q (g.ev sl)):=by simp only[Ys]
@[simp]def rgK_fn(a f:Nat)(c b:List V)(Q:Yt):MI P a slk ob Q (.fn f c b)=(Xd P.p f=true/\AV P f (c++[.hd true (fresh ob)]++b) ((fresh ob,.lp a .ready slk)::ob) (I8 Q slk (fresh ob))):=by simp only[MI]
@[simp]def rgQ_r(v:V)(id:Nat)(Q:Yt):I8 Q slk id (.ret v) ob=QE Q slk id ob (AA ob id):=by simp only[I8]
@[simp]def rgE_n(a id:Nat)(Q:Yt):QE Q slk id ob (some (.lp a .ready sl))=Q .normal slk (AG ob id .AY):=by simp only[QE]
variable {K:A7->AB->Prop}
@[simp]def rdE_s(id n a:Nat)(c b:EC)(K:AB->Prop):MH id n c ob K (some (.lp a b slk))=X0 n K [] (AG ob id (.lp a c slk)):=by simp only[MH]
@[simp]def rdQ_n(id n:Nat):TY id n K .normal sl ob=MH id n .ready ob (K (.ret (.d (.bool true)))) (AA ob id):=by simp only[TY]
@[simp]def bindS_nil(a:List V):H8 sl [] a=sl:=by simp only[H8]
@[simp]def bindS_cons(p:Nat)(a:List Nat)(v:V)(b:List V):H8 sl (p::a) (v::b)=H8 ((p,v)::sl) a b:=by simp only[H8]
end
def TE(P:Az)(T:Cy)(y:S2)(id n:Nat)(K:A7->AB->Prop)(d:Xb)(c:AB):Option Ob->Prop
|some (.lp b .ready a)=>Ys P T y (TY id n K) d (AG c id (.lp b .busy a))
|_=>False
def XP(P:Az)(T:Cy)(y:S2)(id n:Nat)(K:A7->AB->Prop):Yt
|.normal,b,a=>TE P T y id n K b a (AA a id)
|_,_,_=>False
section
variable {P:Az} {T:Cy} {sl slk:Xb} {ob:AB} {K:A7->AB->Prop}
@[simp]def rdA2_n(y:S2)(id n:Nat):XP P T y id n K .normal sl ob=TE P T y id n K sl ob (AA ob id):=by simp only[XP]
@[simp]def rdB2_s(y:S2)(id n a:Nat):TE P T y id n K sl ob (some (.lp a .ready slk))=Ys P T y (TY id n K) sl (AG ob id (.lp a .busy slk)):=by simp only[TE]
end
def CL.AZ{P:Az}{p:Program}(q:P.p=p)(t:p.follows .mixedOrders=true){T:Cy}(i:BD P T){id b:Nat}{f l d:List Nat}{x y:S}{j k:S2}{slk:Xb}{c:AB}{g:List V}{K:A7->AB->Prop}(m:V7 P b f x y)
 (u:x.AZ l=some j) (w:y.AZ d=some k) (r:AA c id=some (.lp b .ready slk)) (a:g.length=f.length) (h:Ys P T j (XP P T k id (fresh c) K) (H8 slk f g) c):CL P id g c K:=by
 subst q;refine CL.of t m r a (S.BA i x u (λe s o h=>?_) h);cases e with
 |normal=>
  simp only[XP]at h;simp only[YY];generalize AA o id=z at h⊢;unfold TE at h;unfold YZ;split at h
  ·exact S.BA i y w (λ_ _ _ h=>h) h
  ·cases h
 |exit n=>cases h
 |ret=>cases h
 |panic v=>cases h
def qN{P:Az}{f E z n:Nat}{ds xs:List D}{g:AB}{K:V->AB->Prop}(h:AV P f (ds.map .d) [] λo b=>o=.ret (.sl 0 n)/\b=[(0,.Ao E z (xs.map .d))])(hK:K (.sl (fresh g) n) ((fresh g,.Ao E z (xs.map .d))::g)):CD P f (ds.map .d) g K:=by
 refine⟨λw G F J hg hr=>?_⟩;let s:A0:=⟨λ_=>none,B2 G,G.gl⟩
 have v:∀b,¬Eg s b:=λb ⟨_,_,h,_⟩=>by cases h
 have T:B2 s=B2 G:=by
  funext b;exact propext ⟨λh=>h.elim (λh=>(v b h).elim) id,λh=>.inr h⟩
 have aa:∀b,B2 G b->b<w.heap.size:=λb h=>h.elim (λ⟨_,_,a,c⟩=>Uf J a c) (J.D7 b);have W:OM w s []:=⟨λj x y=>(by simp[AA]at y),λj o Z=>(by cases Z),λi j o p b hi=>(by cases hi),aa,λb o k=>⟨(J.Dn b o k).1,by rw[T];exact(J.Dn b o k).2⟩,λb k=>absurd k (v b),trivial⟩
 have ab:V.A1 w s (ds.map .d) F:=by
  rw[PF]at hr⊢;rw[T];exact hr
 refine(h.run w s F W hg ab).mono λe L ⟨ae,ad,q,⟨e1,e2⟩,Q,N,t⟩=>?_;subst e1;subst e2;have m1:∀j p,q.m j=some p->j=0:=λj p Z=>by
  obtain⟨x,y⟩:=N.D1 j p Z;simp only[AA]at y;split at y
  next e=>exact e.symm
  ·cases y
 have BU:=N.BU 0 (.Ao E z (xs.map .d)) (by simp[AA]);obtain⟨o,O⟩:∃o,q.m 0=some o:=by
  rcases BU with⟨a,_⟩|⟨b,M,H,sp,a,_⟩<;>exact⟨_,a⟩
 have k:∀b,o.blk? = some b->w.heap.size<=b:=λb k=>(t.Cs b ⟨0,o,O,k⟩).elim (λh=>(v b h).elim) id;have y:Bv w L:=⟨t.size,λb k=>t.keep b (v b) k,t.tape,t.os,t.CO,t.drawn⟩
 have Y:AA g (fresh g)=none:=Xo g;have ac:B2 q=B2 (G.BS (fresh g) o):=by
  funext b;refine propext ⟨λh=>?_,λh=>?_⟩
  ·rcases h with⟨j,p,a,c⟩|a
   ·have e:=m1 j p a;subst e;rw[O]at a;cases a;exact .inl ⟨fresh g,o,Yd,c⟩
   ·rw[t.xo]at a;rcases a with⟨j,p,a,c⟩|a
    ·have:j≠fresh g:=λe=>by subst e;rw[J.free Y]at a;cases a
     exact .inl ⟨j,p,by simp[A0.BS,this,a],c⟩
    ·exact .inr a
  ·rcases h with⟨j,p,a,c⟩|a
   ·simp only[A0.BS]at a;split at a
    ·cases a;exact .inl ⟨0,o,O,c⟩
    ·exact .inr (t.xo▸.inl ⟨j,p,a,c⟩)
   ·exact .inr (t.xo▸.inr a)
 have X:∀(l:List D)(H:List Value),Br L q (l.map .d) H->Br L (G.BS (fresh g) o) (l.map .d) H:=λl=>by
  induction l with
  |nil=>intro H h;simpa only[HB,Br]using h
  |cons x r ih=>
   intro H h;simp only[Cg,Br]at h⊢;obtain⟨c1,c2,e,a,c⟩:=h;refine⟨c1,c2,e,?_,ih _ c⟩;simp only[V.Ac]at a⊢;rw[<-ac];exact a
 have R:Qh L (G.BS (fresh g) o) (fresh g) (.Ao E z (xs.map .d)):=by
  simp only[Qh]at BU⊢;rw[O]at BU;rw[Yd];rcases BU with a|⟨b,M,H,sp,a,c,U,h4⟩
  ·exact .inl a
  ·exact .inr ⟨b,M,H,sp,a,c,X _ _ U,h4⟩
 cases e with
 |returned u=>
  refine⟨.sl (fresh g) n,_,G.BS (fresh g) o,u,hK,rfl,?_,J.BS y Y k R,Vt L y (J.free Y) k,y⟩;have a:(V.sl 0 n).An L q u:=Q;rw[Yj]at a⊢;obtain⟨o',c,U⟩:=a;rw[O]at c;cases c;exact⟨o,Yd,U⟩
 |_=>exact(Q:False).elim
def Xlx{P:Az}{p:Program}(k:P.p=p)(o:p.follows .mixedOrders=true){f:Nat}{s:S}{d:List RV}{b:List V}{a:AB}{K:A7->AB->Prop}{g:List Nat}{e:S2}{T:Cy}(m:Hh p f b.length s d=true)(n:s.AZ g=some e)(l:BD P T)
 (h:(∀c,BO (AE (fresh a) c) b=false)->(∀c,AH (AE (fresh a) c) a=true)->Ys P T e (PA (fresh a) d K) (Uo 0 b) a):AV P f b a K:=
 AV.EM λi j=>by subst k;exact Xly o m (S.BA l s n (λ_ _ _ h=>h) (h i j))
def Rc5{P:Az}{f:Nat}{q:List V}{p:AB}{K:A7->AB->Prop}(h:AV P f q p λo b=>K o b\/(o=.ret (.d .AT)/\∃E z,K (.ret (.sl (fresh b) 0)) ((fresh b,.Ao E z [])::b))):AV P f q p K:=
 ⟨λw G j v s x=>(h.run w G j v s x).mono λe i ⟨o,b,a,k,g,m,t⟩=>by
  rcases k with k|⟨rfl,E,z,k⟩
  ·exact⟨o,b,a,k,g,m,t⟩
  ·have n:AA b (fresh b)=none:=Xo b
   have l:∀b,RO.B4.blk? = some b->i.heap.size<=b:=λb r=>by simp[RO.blk?]at r
   have F:=Vt i (Bv.refl i) (o:=.B4) (m.free n) l;have y:OM i (a.BS (fresh b) .B4) ((fresh b,.Ao E z [])::b):=m.BS (Bv.refl i) n l (.inl ⟨Yd,rfl⟩);refine⟨_,_,_,k,?_,y,t.trans F⟩;cases e with
   |returned u=>
    have c:(V.d .AT).An i a u:=g;show(V.sl (fresh b) 0).An i (a.BS (fresh b) .B4) u;rw[IG]at c;rcases c with⟨c,_⟩|⟨_,c⟩
    ·cases c
    ·simp only[D.An,HY,GK]at c
     exact Yj.2 ⟨.B4,Yd,rfl,c⟩
   |_=>exact(g:False).elim⟩
def Zu(E z B:Nat):S:=.seq (.rg [] [.op (some 2) (.c (.mv .AT))] [0] [])
 (.seq (.seq (.rg [] [.op (some 3) (.c (.mv (.t 0))),
  .op (some 4) (.HO true false (.t 3))] [0,4] [])
 (.cond (.t 4) (.seq (.rg [] [.op (some 2) (.c (.mv .AT))] [2] [])
 (.ret)) (.skip)))
 (.seq (.rg [] [.op (some 5) (.Gx E z [] []),
  .op (some 6) (.c (.mv (.t 0))),
  .op (some 7) (.F7 E z B (.t 5) (.t 6)),
  .op (some 2) (.c (.mv (.t 7)))] [2] [])
 (.ret)))
def ZU(E z B:Nat):S2:=.seq (.rg [] [(0,(.a (.t 0)))] [])
 (.seq (.seq (.rg [.lt 3 [] (.a (.t 0)),.op (some 4) (.HO true false (.t 3))] [(0,(.a (.t 0))),(4,(.a (.t 4)))] [])
 (.cond (.t 4) (.seq (.rg [] [(2,(.a .AT))] [])
 (.ret)) (.skip)))
 (.seq (.rg [.op (some 5) (.Gx E z [] []),.lt 6 [] (.a (.t 0)),.op (some 7) (.F7 E z B (.t 5) (.t 6))] [(2,(.a (.t 7)))] [])
 (.ret)))
def vX(E z B:Nat):(Zu E z B).AZ []=some (ZU E z B):=by rfl
def Zs{P:Az}{p:Program}(i:P.p=p)(m:p.follows .mixedOrders=true){f E z B:Nat}(j:Xr p f 1 (Zu E z B) [.t 2]=true){c:List D}(n:∀x∈c,x.sz=z)(g:(2*c.length+192)*B<=281474976710656){b:AB}{K:A7->AB->Prop}(h:K (.ret (.sl (fresh b) c.length)) ((fresh b,.Ao E z (c.map .d))::b)):AV P f [.d (.AF z c)] b K:=by
 refine Rc5 ?_;refine Xk i m j (vX E z B) BD.nil λ_ a=>?_;simp[ZU,I.wp,Gt,M5,Hp,Mf];constructor
 ·refine⟨g,[fresh b],by simp[AE],?_,?_⟩
  ·have k:∀(p:Nat->Bool)(l:List D),BO p (l.map .d)=false:=λp l=>by induction l<;>simp_all[BO,V.BJ]
   simp[AE,k];exact a _
  ·simpa[AE]using h
 ·intro e
  exact⟨[],by simp,by simpa using a [],.inr ⟨E,z,by simpa[e]using h⟩⟩
def X9i{P:Az}{p:Program}(c:P.p=p)(g:p.follows .mixedOrders=true){f E z B:Nat}(e:Xr p f 1 (Zu E z B) [.t 2]=true){a:AB}{K:A7->AB->Prop}(h:K (.ret (.sl (fresh a) 0)) ((fresh a,.Ao E z [])::a)):AV P f [.d .AT] a K:=by
 refine Rc5 ?_;refine Xk c g e (vX E z B) BD.nil λ_ b=>?_;simp[ZU,I.wp,Gt];exact⟨[],by simp,by simpa using b [],.inr ⟨E,z,by simpa using h⟩⟩
def Zbw:Xr prog 83 1 (Zu 9 1 16) [.t 2]=true:=by kernel_rfl
def Zbx:Xr prog 84 1 (Zu 88 5 56) [.t 2]=true:=by kernel_rfl
def Zby:Xr prog 85 1 (Zu 54 6 96) [.t 2]=true:=by kernel_rfl
def Zbz:Xr prog 86 1 (Zu 45 5 96) [.t 2]=true:=by kernel_rfl
def Zb0:Xr prog 87 1 (Zu 66 5 72) [.t 2]=true:=by kernel_rfl
def Zb1:Xr prog 88 1 (Zu 77 3 48) [.t 2]=true:=by kernel_rfl
def Zb2:Xr prog 177 1 (Zu 136 11 120) [.t 2]=true:=by kernel_rfl
def Zb3:Xr prog 178 1 (Zu 98 4 72) [.t 2]=true:=by kernel_rfl
def Zb4:Xr prog 179 1 (Zu 50 8 96) [.t 2]=true:=by kernel_rfl
def Zb5:Xr prog 181 1 (Zu 124 11 120) [.t 2]=true:=by kernel_rfl
def Ysr:Xr prog 182 1 (Zu 127 7 80) [.t 2]=true:=by kernel_rfl
def Yss:Xr prog 183 1 (Zu 208 5 56) [.t 2]=true:=by kernel_rfl
def Yst:Xr prog 184 1 (Zu 139 4 48) [.t 2]=true:=by kernel_rfl
def WG:List (Nat×Nat×Nat×Nat):=[(83,9,1,16),(84,88,5,56),(85,54,6,96),(86,45,5,96),(87,66,5,72),(88,77,3,48),(177,136,11,120),(178,98,4,72),(179,50,8,96),(181,124,11,120),(182,127,7,80),(183,208,5,56),(184,139,4,48)]
def X03:∀e∈WG,Xr prog e.1 1 (Zu e.2.1 e.2.2.1 e.2.2.2) [.t 2]=true:=by
 simp only[WG,List.forall_mem_cons];exact⟨Zbw,Zbx,Zby,Zbz,Zb0,Zb1,Zb2,Zb3,Zb4,Zb5,Ysr,Yss,Yst,λ_ h=>by cases h⟩
def ZT(E z B:Nat)(a:AB):D->Option (V×AB)
|.AT=>some (.sl (fresh a) 0,(fresh a,.Ao E z [])::a)
|.AF c b=>bif Nat.beq c z&&b.all (λx=>Nat.beq x.sz z)&&decide ((2*b.length+192)*B<=281474976710656) then some (.sl (fresh a) b.length,(fresh a,.Ao E z (b.map .d))::a) else none
|_=>none
def WE(f:Nat)(x:D)(a:AB):List (Nat×Nat×Nat×Nat)->Option (V×AB)
|[]=>none
|(g,E,z,B)::r=>bif Nat.beq f g then ZT E z B a x else WE f x a r
def X01{P:Az}(a:P.p=prog){f E z B:Nat}(c:Xr prog f 1 (Zu E z B) [.t 2]=true){x:D}{g b:AB}{o:V}(h:ZT E z B g x=some (o,b)):CD P f [.d x] g λn i=>n=o/\i=b:=by
 unfold ZT at h;split at h
 ·cases h;exact qN (ds:=[.AT]) (xs:=[]) (X9i a AO c ⟨rfl,rfl⟩) ⟨rfl,rfl⟩
 ·rw[Cl]at h
  split at h
  ·rename_i e
   cases h;simp only[As,Bs,DQ]at e;obtain⟨⟨j,k⟩,l⟩:=e;rw[CN j];exact qN (ds:=[.AF _ _]) (Zs a AO c (λx m=>CN (k x m)) l ⟨rfl,rfl⟩) ⟨rfl,rfl⟩
  ·cases h
 ·cases h
def wR{P:Az}(a:P.p=prog){f:Nat}{x:D}{i b:AB}{o:V}:∀l:List (Nat×Nat×Nat×Nat),(∀e∈l,Xr prog e.1 1 (Zu e.2.1 e.2.2.1 e.2.2.2) [.t 2]=true)->WE f x i l=some (o,b)->CD P f [.d x] i λm j=>m=o/\j=b
|[],_,h=>by cases h
|(g,E,z,B)::r,c,h=>by
 simp only[WE,Cl]at h;split at h
 ·rename_i e
  rw[CN e];exact X01 a (c _ List.mem_cons_self) h
 ·exact wR a r (λe k=>c e (Kl _ k)) h
structure RC(y:Ah)(ob:AB):Prop where
 o4:AA ob 4=some (TZ y.AD.length)
 o5:AA ob 5=some (Um y.Al)
 o6:AA ob 6=some (Um (y.Au.map At.name))
 o7:AA ob 7=some (Um (y.AD.map AI.name))
 QC:y.AD.length≠0->AA ob 12=some (.Ao 174 1 (Hb y.AD.length))
 om:∀i,i<y.AD.length->AA ob (Vj i)=some (Um (D0 y.AD i))
def HW{y:Ah}{c b a:Ob}:RC y (Y8 y y.AD.length c b a):=⟨lz,Ytu,Ytv,Ytw,aH,λ_ h=>rV h⟩
def RC.of{y:Ah}{c b:AB}(h:RC y c)(a:∀j o,AA c j=some o->(∀E z g,o=.Ao E z g->E=174)->AA b j=some o):RC y b:=
 ⟨a _ _ h.o4 (λ_ _ _ e=>by cases e),a _ _ h.o5 (λ_ _ _ e=>by cases e),a _ _ h.o6 (λ_ _ _ e=>by cases e),a _ _ h.o7 (λ_ _ _ e=>by cases e),λf=>a _ _ (h.QC f) (λ_ _ _ e=>by cases e;rfl),λi d=>a _ _ (h.om i d) (λ_ _ _ e=>by cases e)⟩
def RC.cons{y:Ah}{a:AB}(h:RC y a)(o:Ob):RC y ((fresh a,o)::a):=h.of λj x b _=>by
 have:fresh a≠j:=λe=>by rw[<-e,Xo]at b;cases b
 simp[AA,this,b]
def RC.set{y:Ah}{a:AB}(h:RC y a){id E z:Nat}{g vs':List V}(c:AA a id=some (.Ao E z g))(d:E≠174):RC y (AG a id (.Ao E z vs')):=h.of λj x b f=>by
 have:j≠id:=λe=>by rw[e,c]at b;exact d (f _ _ _ (FQ b).symm)
 rw[Xc a id j ⟨_,c⟩,Af this,b]
def Pk(K:A7->AB->Prop)(b:AB):Prop:=∀a,AA a 1=AA b 1->AA a 2=AA b 2->K (.panic (.d Y5)) a
def Xy{p:Nat->Bool}{v:V}(a:V.BJ p v=false):∀{b:List V}(i:Nat),BO p b=false->BO p (b.set i v)=false
|[],_,_=>rfl
|x::r,0,h=>by simp only[BO,FC]at h;simp[BO,a,h.2]
|x::r,i+1,h=>by simp only[BO,FC]at h;simp[BO,h.1,Xy a i h.2]
def Vg(n s:Nat)(h:s<(Hb n).length):(Hb n)[s]=.mp (Vj s):=by simp[Hb]
def NP(r:CM):V:=.d r.enc
def il(a:List AI)(m:CM):OL a m=(CU (a.map AI.name) m.name).bind λs=>(CU (D0 a s) m.path).map λ(f:Nat)=>{m with AP:=s,field:=f}:=by
 unfold OL;congr 1;funext s;have:Ya a (s:Int)=D0 a s:=by
  unfold Ya D0;simp only[Int.toNat_natCast];cases a[s]?<;>rfl
 rw[this]
include hP
theorem Xyn{a:List D}(c:∀x∈a,x.sz=4)(e:a.length<=1000000){b:AB}{K:V->AB->Prop}(h:K (.sl (fresh b) a.length) ((fresh b,.Ao 139 4 (a.map .d))::b)):CD P 184 [.d (.AF 4 a)] b K:=
 qN (ds:=[.AF 4 a]) (Zs hP AO Yst c (by omega) ⟨rfl,rfl⟩) h
theorem Xww{y:Ah}{id m i:Nat}{M:List V}{p:AR}(hm:p.CW.length<=1000000){a:AB}(hc:RC y a)(H:AA a id=some (.Ao 77 3 M))(hl:M.length=m)(hv:M[i]? = some (.d p.enc))(Y:∀p,BO p M=false)(aj:id≠1/\id≠2){K:A7->AB->Prop}
 (h1:∀q,W5 y.AD p=some q->K (.ret (.BE [])) (AG a id (.Ao 77 3 (M.set i (.d q.enc))))) (h0:W5 y.AD p=none->Pk K a):
 AV P 93 [.ptr 4 [],.ep id m 3 i 0 []] a K:=by
 refine AV.Gb ?_;refine Xk hP AO Zoj Zkq BD.nil λ_ W=>?_;obtain⟨O,L⟩:=EK.1 hv;have pe:p.enc=.agg [.AM p.name,.AF 4 (p.CW.map CM.enc),iD p.DJ]:=rfl;rw[pe]at L;have v:i<m:=by omega
 simp[Zhu,H,hl,O,v,L];refine Xyn hP (by intro x hx;obtain⟨r,_,rfl⟩:=C9.1 hx;rfl) (by simpa using hm) ?_;have ah:=Xf H;have w:fresh a≠id:=by omega
 simp[H,w,hl,O,v,L,DZ,Bt,Zf];refine⟨⟨_,_,_,⟨rfl,rfl,rfl⟩,by simp⟩,?_⟩;obtain⟨vs',b⟩:∃vs',vs'=M.set i (V.agg [.d (.AM p.name),.sl (fresh a) p.CW.length,.d (iD p.DJ)]):=⟨_,rfl⟩
 rw[<-b];have ai:vs'.length=m:=by rw[b];simpa using hl
 have aa:∀h:i<vs'.length,vs'[i]=V.agg [.d (.AM p.name),.sl (fresh a) p.CW.length,.d (iD p.DJ)]:=λh=>by simp[b]
 have ad:=hc.set (vs':=vs') H (by decide);have fs:fresh (AG a id (.Ao 77 3 vs'))=fresh a:=by simp
 have l4:=Xf hc.o4;have nm:∀{n:Nat}{kp:List Nat}{us:List V},fresh a<=n->AE n kp (fresh a)=false->(∀p,BO p us=false)->AH (AE n kp) ((fresh a,.Ao 139 4 us)::AG a id (.Ao 77 3 vs'))=true:=λQ hk hu=>by
  simp only[AH,hu,Bool.not_false,EA];refine Xn ?_ (X8 W Q);rw[b];exact Xy (by simp[V.BJ,BO,hk]) i (Y _)
 refine Ae.go (ι:=List CM) (λd=>[(0,.ptr 4 []),(1,.ep id m 3 i 0 []),(18,.d (.int .i64 p.CW.length)),(19,.d (.int .i64 d.length))])
  (λd=>(fresh a,.Ao 139 4 ((d++p.CW.drop d.length).map NP))::AG a id (.Ao 77 3 vs')) (λd=>d.length<=p.CW.length/\Ju p.CW (OL y.AD)=DB (λ_=>OL y.AD) d (p.CW.drop d.length)) (λd=>p.CW.length-d.length) [] ⟨by simp,rfl⟩ (by simp) (by simp;exact λ_ _=>rfl) ?_
 rintro d ⟨hd,G⟩ R rn re rr rp;have wl:((d++p.CW.drop d.length).map NP).length=p.CW.length:=by simp;omega
 by_cases c:d.length<p.CW.length
 ·have wr:IntKind.i64.wrap ((d.length:Int)+1)=(d.length:Int)+1:=w_i _ (by omega);have N:=Jp NP c;have ws:=Jq NP c;rw[Db c,Zd]at G;generalize hu:p.CW[d.length]=u at G N;have ue:NP u=.d (.agg [.AM u.name,.AM u.path,iD u.AP,iD u.field]):=rfl;simp only[ue]at N;generalize Z:(d++p.CW.drop d.length).map NP=us at wl N ws;have z:∀us,RC y ((fresh a,.Ao 139 4 us)::AG a id (.Ao 77 3 vs')):=λus=>by
   have:=ad.cons (.Ao 139 4 us)
   rwa [fs]at this
  have c4:=λus=>(z us).o4;have pn:OL y.AD u=none->∀j,(∀p,BO p j=false)->R (.panic (.d Y5)) [] ((fresh a,.Ao 139 4 j)::AG a id (.Ao 77 3 vs')):=λe j af=>by
   refine rp _ _ _ ?_;rw[e,Option.bind_none]at G;have ae:=h0 (by rw[W5,G];rfl);simp;have ha:∀x,x=1\/x=2->AA ((fresh a,Ob.Ao 139 4 j)::AG a id (.Ao 77 3 vs')) x=AA a x:=λx hx=>by
    have e1:fresh a≠x:=by omega
    rw[AA,Af e1,Xc a id x ⟨_,H⟩,Af (by omega)]
   have F:Xh (AE (fresh a) [fresh a]) ((fresh a,Ob.Ao 139 4 j)::AG a id (.Ao 77 3 vs'))=(fresh a,Ob.Ao 139 4 j)::AG a id (.Ao 77 3 vs'):=by simp[AE]
   have U:=nm (n:=fresh a) (kp:=[fresh a]) (us:=j) (BV _) (by simp[AE]) af;refine⟨[fresh a],by simp,by rw[F];exact U,_,Wk.refl _,[fresh a],by simp[A7.BJ],by rw[F,F];exact U,?_⟩;rw[F,F];exact ae _ (ha 1 (.inl rfl)) (ha 2 (.inr rfl))
  simp[Xzv,c,c4,w,H,ai,aa,v,wl,N,ah];refine Yy hP (z _).o7 (λs hs=>?_) (λQ=>pn (by rw[il,Q];rfl) _ (by subst Z;exact λp=>Xw _ _));have X:s<y.AD.length:=by simpa using Nk hs
  have T:y.AD.length≠0:=by omega
  have ac:=λus=>(z us).QC T;have w1:=ws {u with AP:=s};simp[c4,ac,T,HJ,wl,N,c,Wm,Vg,X];refine Yy hP ((z _).om s X) (λf hf=>?_) (λQ=>pn (by rw[il,hs,Option.bind_some,Q];rfl) _ (λp=>?_))
  ·have w2:=ws {u with AP:=s,field:=f};have hr:OL y.AD u=some {u with AP:=s,field:=f}:=by rw[il,hs,Option.bind_some,hf];rfl
   rw[hr,Option.bind_some]at G;simp[wl,N,c];refine rn [] (d++[{u with AP:=s,field:=f}]) _ _ ⟨by simp;omega,by rw[G,DV];rfl⟩ (by simp;omega) (by simp[wr]) ?_ ?_ ?_
   ·rw[<-w2];have:¬fresh a+1<=fresh a:=by omega
    simp[AE,this]
    all_goals rfl
   ·simp[AE];omega
   ·exact nm (by simp) (by simp[AE]) (λp=>Xw _ _)
  ·exact Xy rfl _ (by subst Z;exact Xw _ _)
 ·have J:d.length=p.CW.length:=by omega
  rw[J,List.drop_length,DB]at G;simp[Xzv,c];refine re _ _ _ ?_;simp;have e:List.drop d.length (p.CW.map NP)=[]:=Gj (by simp[J]);rw[e,GL];have hq:W5 y.AD p=some {p with CW:=d}:=by rw[W5,G];rfl
  obtain⟨t,l⟩:∃t,t=(fresh a,Ob.Ao 139 4 (d.map NP))::AG a id (.Ao 77 3 vs'):=⟨_,rfl⟩
  have li:AA t id=some (.Ao 77 3 vs'):=by rw[l,AA,Af w,Xc a id id ⟨_,H⟩,BL rfl]
  have lf:AA t (fresh a)=some (.Ao 139 4 (d.map λr=>V.d r.enc)):=by rw[l,AA,BL rfl];rfl
  have g:Ct 3 t (V.agg [.d (.AM p.name),.sl (fresh a) p.CW.length,.d (iD p.DJ)])=some (.agg [.AM p.name,.AF 4 (d.map CM.enc),iD p.DJ],AG t (fresh a) .AY):=by
   have hd:∀(x:D)(o:AB),Ct 2 o (.d x)=some (x,o):=λx o=>rfl;show FF (Ej (Ct 2) t _)=_;simp only[Ej,hd,ID (k:=0) CM.enc lf (by decide) J.symm,Uq,FF]
  have sg:AG t (fresh a) .AY=(fresh a,.AY)::AG a id (.Ao 77 3 vs'):=by rw[l];simp[AG]
  have ag:AA (AG t (fresh a) .AY) id=some (.Ao 77 3 vs'):=by rw[sg,AA,Af w,Xc a id id ⟨_,H⟩,BL rfl]
  have ab:=Ox li (i:=i) (by rw[Cn (by omega),aa]) g ag rfl;have Cm:AG (AG t (fresh a) .AY) id (.Ao 77 3 (vs'.set i (.d (.agg [.AM p.name,.AF 4 (d.map CM.enc),iD p.DJ]))))=(fresh a,.AY)::AG a id (.Ao 77 3 (M.set i (.d ({p with CW:=d}:AR).enc))):=by
   rw[sg];have:¬fresh a=id:=w;simp[AG,this,X4,b,List.set_set];rfl
  rw[Cm]at ab;rw[<-l];have F:Xh (AE (fresh a) [fresh a]) t=t:=by rw[l];simp[AE]
  refine⟨[fresh a],by simp,by rw[F,l];exact nm (BV _) (by simp[AE]) (λp=>Xw _ _),_,by rw[F];exact ab,[],by simp[A7.BJ],?_,?_⟩
  ·simp[AE,Xh];exact Xn (Xy rfl _ (Y _)) (W _)
  ·simp[AE,Xh];exact h1 _ hq
omit hP
def HH(f:Ad):V:=.d f.enc
def I2(d:Ax):D:=.agg [Xg d.names,.AM d.name,if d.Aw=[] then .AT else X9 d.Aw,iD d.CA]
def Y2f(d:Ax):D.le (I2 d) d.enc:=by
 have e:d.enc=.agg [Xg d.names,.AM d.name,X9 d.Aw,iD d.CA]:=rfl;rw[e,I2];refine D.le.agg (Bq.cons (D.le.refl _) (Bq.cons (D.le.refl _) (Bq.cons ?_ (Bq.cons (D.le.refl _) Bq.nil))));split
 next h=>rw[h];exact D.le.nil 1
 ·exact D.le.refl _
def HG(d:Ax):V:=.d (I2 d)
def ND(d:Ax):V:=.d d.enc
def Kd(s:AI):D:=.agg [.AM s.name,.AM s.FJ,iD s.Bz,iD s.BT,.AF 11 (s.AL.map Ad.enc),.AF 4 (s.Aj.map I2)]
def Zba(s:AI):D.le (Kd s) s.enc:=by
 have e:s.enc=.agg [.AM s.name,.AM s.FJ,iD s.Bz,iD s.BT,.AF 11 (s.AL.map Ad.enc),.AF 4 (s.Aj.map Ax.enc)]:=rfl;rw[e,Kd];exact D.le.agg (Bq.cons (D.le.refl _) (Bq.cons (D.le.refl _) (Bq.cons (D.le.refl _) (Bq.cons (D.le.refl _) (Bq.cons (D.le.refl _) (Bq.cons (D.le.AF (Bq.map λx _=>Y2f x)) Bq.nil))))))
def rJ{a:Type}(f g:a->V){d l:List a}(b:d.length<=l.length):(d.map f++(l.drop d.length).map g).length=l.length:=by simp;omega
def rH{a:Type}(f g:a->V){d l:List a}(b:d.length<l.length)(h:d.length<(d.map f++(l.drop d.length).map g).length):(d.map f++(l.drop d.length).map g)[d.length]=g l[d.length]:=by
 rw[List.getElem_append_right (by simp)];simp
def rM{b:Type}(f g:b->V){d l:List b}(a:d.length<l.length)(z:b):(d.map f++(l.drop d.length).map g).set d.length (f z)=(d++[z]).map f++(l.drop (d++[z]).length).map g:=by
 rw[List.set_append_right _ _ (by simp),Db a,List.length_map,Nat.sub_self,Cg,List.set_cons_zero];simp
include hP
theorem Xo3{a:List D}(c:∀x∈a,x.sz=11)(e:a.length<=1000000){b:AB}{K:V->AB->Prop}(h:K (.sl (fresh b) a.length) ((fresh b,.Ao 136 11 (a.map .d))::b)):CD P 177 [.d (.AF 11 a)] b K:=
 qN (ds:=[.AF 11 a]) (Zs hP AO Zb2 c (by omega) ⟨rfl,rfl⟩) h
theorem Xym{a:List D}(c:∀x∈a,x.sz=4)(e:a.length<=1000000){b:AB}{K:V->AB->Prop}(h:K (.sl (fresh b) a.length) ((fresh b,.Ao 98 4 (a.map .d))::b)):CD P 178 [.d (.AF 4 a)] b K:=
 qN (ds:=[.AF 4 a]) (Zs hP AO Zb3 c (by omega) ⟨rfl,rfl⟩) h
theorem Xz4{y:Ah}{id m i M:Nat}{vs:List V}{s:AI}(bl:s.AL.length<=1000000)(bk:s.Aj.length<=1000000)(bn:∀d∈s.Aj,d.names.length<=1000000000000){f:AB}(hc:RC y f)(hi:AA f id=some (.Ao 54 6 vs))(hl:vs.length=m)(hv:vs[i]? = some (.d s.enc))(a5:∀p,BO p vs=false)(b1:id≠1/\id≠2)
 (L:AA f M=some (Um (s.AL.map Ad.name))) {K:A7->AB->Prop}
 (h1:∀q,V4 y.Al (y.Au.map At.name) s=some q->K (.ret (.BE [])) (AG f id (.Ao 54 6 (vs.set i (.d (Kd q)))))) (h0:V4 y.Al (y.Au.map At.name) s=none->Pk K f):
 AV P 90 [.ptr 4 [],.ep id m 6 i 0 [],.mp M] f K:=by
 refine AV.Gb ?_;refine Xk hP AO Zoh Zkn BD.nil λ_ ag=>?_;obtain⟨a3,aq⟩:=EK.1 hv;have pe:s.enc=.agg [.AM s.name,.AM s.FJ,iD s.Bz,iD s.BT,.AF 11 (s.AL.map Ad.enc),.AF 4 (s.Aj.map Ax.enc)]:=rfl;rw[pe]at aq;have N:i<m:=by omega
 have l4:=Xf hc.o4;have bt:=Xf hi;have ab:fresh f≠id:=by omega
 have c4:=hc.o4;simp[Zhr,c4,hi,hl,a3,N,aq];refine Yy hP hc.o5 (λn hn=>?_) (λhn=>?_)
 ·simp[c4,hi,hl,a3,N,aq];refine Xo3 hP (by intro x H;obtain⟨r,_,rfl⟩:=C9.1 H;rfl) (by simpa using bl) ?_;simp[hi,ab,hl,a3,N,aq,DZ,Bt,Zf];refine⟨⟨_,_,_,⟨rfl,rfl,rfl⟩,by simp⟩,?_⟩;have sR:V4 y.Al (y.Au.map At.name) s=(Ju s.AL (Js (y.Au.map At.name))).bind λfs=>(Ju s.Aj (Lr (s.AL.map Ad.name))).map λds=>{s with Bz:=(n:Int),AL:=fs,Aj:=ds}:=by rw[V4,hn,Option.bind_some]
  obtain⟨vs',W⟩:∃vs',vs'=vs.set i (V.agg [.d (.AM s.name),.d (.AM s.FJ),.d (.int .i64 n),.d (iD s.BT),.sl (fresh f) s.AL.length,.d (.AF 4 (s.Aj.map Ax.enc))]):=⟨_,rfl⟩
  rw[<-W];have av:vs'.length=m:=by rw[W];simpa using hl
  have a8:∀h:i<vs'.length,vs'[i]=V.agg [.d (.AM s.name),.d (.AM s.FJ),.d (.int .i64 n),.d (iD s.BT),.sl (fresh f) s.AL.length,.d (.AF 4 (s.Aj.map Ax.enc))]:=λh=>by simp[W]
  have bj:=hc.set (vs':=vs') hi (by decide);have fs:fresh (AG f id (.Ao 54 6 vs'))=fresh f:=by simp
  have nm:∀{n:Nat}{kp:List Nat}{Q:List V},fresh f<=n->AE n kp (fresh f)=false->(∀p,BO p Q=false)->AH (AE n kp) ((fresh f,.Ao 136 11 Q)::AG f id (.Ao 54 6 vs'))=true:=λhn hk hu=>by
   simp only[AH,hu,Bool.not_false,EA];refine Xn ?_ (X8 ag hn);rw[W];exact Xy (by simp[V.BJ,BO,hk]) i (a5 _)
  have aw:∀{Q:List V}{x:Nat},x=1\/x=2->AA ((fresh f,Ob.Ao 136 11 Q)::AG f id (.Ao 54 6 vs')) x=AA f x:=λ{Q x} H=>by
   have e1:fresh f≠x:=by omega
   rw[AA,Af e1,Xc f id x ⟨_,hi⟩,Af (by omega)]
  have b4:∀{Q:List V},AA ((fresh f,Ob.Ao 136 11 Q)::AG f id (.Ao 54 6 vs')) M=some (Um (s.AL.map Ad.name)):=λ{Q}=>by
   have e1:fresh f≠M:=by have:=Xf L;omega
   have e2:M≠id:=λe=>by rw[e,hi]at L;simp[Um]at L
   rw[AA,Af e1,Xc f id M ⟨_,hi⟩,Af e2,L]
  refine Ae.go (ι:=List Ad) (λd=>[(0,.ptr 4 []),(1,.ep id m 6 i 0 []),(2,.mp M),(36,.d (.int .i64 s.AL.length)),(37,.d (.int .i64 d.length))])
   (λd=>(fresh f,.Ao 136 11 ((d++s.AL.drop d.length).map HH))::AG f id (.Ao 54 6 vs')) (λd=>d.length<=s.AL.length/\Ju s.AL (Js (y.Au.map At.name))=DB (λ_=>Js (y.Au.map At.name)) d (s.AL.drop d.length)) (λd=>s.AL.length-d.length) [] ⟨by simp,rfl⟩ (by simp) (by simp;exact λ_ _=>rfl) ?_
  rintro d ⟨hd,hg⟩ R rn re rr rp;have wl:((d++s.AL.drop d.length).map HH).length=s.AL.length:=by simp;omega
  by_cases ae:d.length<s.AL.length
  ·have wr:IntKind.i64.wrap ((d.length:Int)+1)=(d.length:Int)+1:=w_i _ (by omega);have wk:=Jp HH ae;have ws:=Jq HH ae;rw[Db ae,Zd]at hg;generalize hu:s.AL[d.length]=u at hg wk;have ue:HH u=.d (.agg [.AM u.name,.agg [iD u.type.kind,iD u.type.lo,iD u.type.hi,.AM u.type.CF,iD u.type.unit,Xg u.type.names],.agg [iD u.w0,iD u.w1,iD u.w2,iD u.w3]]):=rfl;simp only[ue]at wk;generalize b3:(d++s.AL.drop d.length).map HH=Q at wl wk ws;have bb:∀Q,RC y ((fresh f,.Ao 136 11 Q)::AG f id (.Ao 54 6 vs')):=λQ=>by
    have:=bj.cons (.Ao 136 11 Q)
    rwa [fs]at this
   have c4:=λQ=>(bb Q).o4;have w1:=ws {u with type:={u.type with unit:=-1} };have bh:Q.set d.length (.d (.agg [.AM u.name,.agg [iD u.type.kind,iD u.type.lo,iD u.type.hi,.AM u.type.CF,iD (-1),.AF 1 (u.type.names.map .AM)],.agg [iD u.w0,iD u.w1,iD u.w2,iD u.w3]]))=((d++[{u with type:={u.type with unit:=-1} }])++s.AL.drop (d++[{u with type:={u.type with unit:=-1} }]).length).map HH:=w1;have Cm:∀(z:Ad)(a7:List V)(a6:Xb),Js (y.Au.map At.name) u=some z->a7=((d++[z])++s.AL.drop (d++[z]).length).map HH->Xj a6 [0,1,2,36,37]=[(0,.ptr 4 []),(1,.ep id m 6 i 0 []),(2,.mp M),(36,.d (.int .i64 s.AL.length)),(37,.d (.int .i64 (d.length+1:Nat)))]->
    R .normal a6 ((fresh f,.Ao 136 11 a7)::AG f id (.Ao 54 6 vs')):=λz a7 a6 hz ao hk=>by
    rw[hz,Option.bind_some]at hg;refine rn [] (d++[z]) _ _ ⟨by simp;omega,by rw[hg,DV];rfl⟩ (by simp;omega) (by simpa using hk) ?_ ?_ ?_
    ·rw[ao];have:¬fresh f+1<=fresh f:=by omega
     simp[AE,this]
    ·have:=Xf L;simp[AE];omega
    ·exact nm (by simp) (by simp[AE]) (λp=>Xw _ _)
   simp[Xzq,ae,c4,ab,hi,av,a8,N,wl,wk,bt,Xg];refine⟨λk1 k2=>?_,λk1=>?_⟩
   ·refine Yy hP (bb _).o6 (λx H=>?_) (λH=>?_)
    ·have hz:Js (y.Au.map At.name) u=some {u with type:={u.type with unit:=x} }:=by
      rw[Js,BL ⟨k1,k2⟩,H];rfl
     have w2:Q.set d.length (.d (.agg [.AM u.name,.agg [iD u.type.kind,iD u.type.lo,iD u.type.hi,.AM u.type.CF,iD x,.AF 1 (u.type.names.map .AM)],.agg [iD u.w0,iD u.w1,iD u.w2,iD u.w3]]))=((d++[{u with type:={u.type with unit:=x} }])++s.AL.drop (d++[{u with type:={u.type with unit:=x} }]).length).map HH:=ws {u with type:={u.type with unit:=x} };simp[wl,wk,ae,Xzr];exact Cm _ _ _ hz w2 (by simp[wr])
    ·refine rp _ _ _ ?_;have ah:=h0 (by rw[sR,hg,Js,BL ⟨k1,k2⟩,H];rfl);simp;have e:∀Q,Xh (AE (fresh f) [fresh f]) ((fresh f,Ob.Ao 136 11 Q)::AG f id (.Ao 54 6 vs'))=(fresh f,Ob.Ao 136 11 Q)::AG f id (.Ao 54 6 vs'):=λQ=>by simp[AE]
     have ao:∀p,BO p (Q.set d.length (.d (.agg [.AM u.name,.agg [iD u.type.kind,iD u.type.lo,iD u.type.hi,.AM u.type.CF,iD (-1),.AF 1 (u.type.names.map .AM)],.agg [iD u.w0,iD u.w1,iD u.w2,iD u.w3]])))=false:=λp=>by rw[bh];exact Xw _ _
     refine⟨[fresh f],by simp,by rw[e];exact nm (BV _) (by simp[AE]) ao,_,Wk.refl _,[fresh f],by simp[A7.BJ],by rw[e,e];exact nm (BV _) (by simp[AE]) ao,?_⟩;rw[e,e];exact ah _ (aw (.inl rfl)) (aw (.inr rfl))
   ·have hz:Js (y.Au.map At.name) u=some {u with type:={u.type with unit:=-1} }:=by
     rw[Js,Af (λhh=>hh.2 (k1 hh.1))]
    simp[Xzr];exact Cm _ _ _ hz bh (by simp[wr])
  ·have az:d.length=s.AL.length:=by omega
   rw[az,List.drop_length,DB]at hg;simp[Xzq,ae];refine re _ _ _ ?_;have e:d.map HH++(s.AL.map HH).drop d.length=d.map HH:=by rw[Gj (by simp[az]),GL]
   rw[e];rw[hg,Option.bind_some]at sR;have nF:fresh f+1≠id:=by omega
   have fF:fresh ((fresh f,Ob.Ao 136 11 (d.map HH))::AG f id (.Ao 54 6 vs'))=fresh f+1:=by simp
   simp[hi,ab,av,a8,N];refine Xym hP (by intro x H;obtain⟨r,_,rfl⟩:=C9.1 H;rfl) (by simpa using bk) ?_;rw[fF];simp[hi,ab,nF,av,a8,N,DZ,Bt,Zf];refine⟨⟨_,_,_,⟨rfl,rfl,rfl⟩,by simp⟩,?_⟩;obtain⟨vd,ai⟩:∃vd,vd=vs'.set i (V.agg [.d (.AM s.name),.d (.AM s.FJ),.d (.int .i64 n),.d (iD s.BT),.sl (fresh f) s.AL.length,.sl (fresh f+1) s.Aj.length]):=⟨_,rfl⟩
   rw[<-ai];have bz:vd.length=m:=by rw[ai];simpa using av
   have bg:∀h:i<vd.length,vd[i]=V.agg [.d (.AM s.name),.d (.AM s.FJ),.d (.int .i64 n),.d (iD s.BT),.sl (fresh f) s.AL.length,.sl (fresh f+1) s.Aj.length]:=λh=>by simp[ai]
   let G:List V->AB:=λl=>(fresh f+1,.Ao 98 4 l)::(fresh f,.Ao 136 11 (d.map HH))::AG f id (.Ao 54 6 vd);have bG:∀l,AA (G l) (fresh f+1)=some (.Ao 98 4 l):=λl=>by simp[G,AA]
   have bS:∀l ay,AG (G l) (fresh f+1) (.Ao 98 4 ay)=G ay:=λl ay=>by simp[G,AG]
   have bI:∀l,AA (G l) id=some (.Ao 54 6 vd):=λl=>by simp[G,AA,ab,nF,Xc f id id ⟨_,hi⟩]
   have bM:∀l,AA (G l) M=some (Um (s.AL.map Ad.name)):=λl=>by
    have e0:fresh f+1≠M:=by have:=Xf L;omega
    have e1:fresh f≠M:=by have:=Xf L;omega
    have e2:M≠id:=λe=>by rw[e,hi]at L;simp[Um]at L
    show AA ((fresh f+1,_)::(fresh f,_)::AG f id _) M=_;rw[AA,Af e0,AA,Af e1,Xc f id M ⟨_,hi⟩,Af e2,L]
   have Z:∀l,fresh (G l)=fresh f+2:=λl=>by
    have:¬fresh f+1<=fresh f:=by omega
    simp[G,this]
   have a9:∀{l:List V}{x:Nat},x=1\/x=2->AA (G l) x=AA f x:=λ{l x} H=>by
    have e0:fresh f+1≠x:=by omega
    have e1:fresh f≠x:=by omega
    show AA ((fresh f+1,_)::(fresh f,_)::AG f id _) x=_;rw[AA,Af e0,AA,Af e1,Xc f id x ⟨_,hi⟩,Af (by omega)]
   have bN:∀{n:Nat}{kp:List Nat}{l:List V},fresh f<=n->AE n kp (fresh f)=false->AE n kp (fresh f+1)=false->BO (AE n kp) l=false->AH (AE n kp) (G l)=true:=λ{n kp l} hn hk bm hu=>by
    simp only[G,AH,hu,Bool.not_false,EA];have:=Xw (p:=AE n kp) Ad.enc d;rw[show d.map HH=d.map (λx=>V.d x.enc) from rfl,this];simp only[Bool.not_false,EA];refine Xn ?_ (X8 ag hn);rw[ai,W,List.set_set];exact Xy (by simp[V.BJ,BO,hk,bm]) i (a5 _)
   show Ae _ _ _ _ (G (s.Aj.map (V.d∘Ax.enc)));refine qO (ι:=List Ax) (λe=>[(1,.ep id m 6 i 0 []),(2,.mp M),(87,.d (.int .i64 s.Aj.length)),(88,.d (.int .i64 e.length))])
    (λe=>G (e.map HG++(s.Aj.drop e.length).map ND)) (λe=>e.length<=s.Aj.length/\Ju s.Aj (Lr (s.AL.map Ad.name))=DB (λ_=>Lr (s.AL.map Ad.name)) e (s.Aj.drop e.length)) (λe=>s.Aj.length-e.length) [] ⟨by simp,rfl⟩ (by simp) (by simp;rfl) ?_
   rintro e ⟨he,aa⟩ R rn re rr rp;by_cases F:e.length<s.Aj.length
   ·have wr:IntKind.i64.wrap ((e.length:Int)+1)=(e.length:Int)+1:=w_i _ (by omega);have wl:=rJ HG ND he;have wk:=rH HG ND F;have ws:=rM HG ND F;rw[Db F,Zd]at aa;have bp:=bn _ (CS F);generalize hu:s.Aj[e.length]=u at aa wk bp;have ue:ND u=.d (.agg [Xg u.names,.AM u.name,X9 u.Aw,iD u.CA]):=rfl;simp only[ue]at wk;generalize bc:e.map HG++(s.Aj.drop e.length).map ND=l at wl wk ws;have nG:fresh f+1≠id:=nF;simp[Xzp,F,bG,bS,bI,bz,bg,N,wl,wk,Xg,X9];have an:∀p,BO p l=false:=λp=>by
     subst bc;have a1:=Xw (p:=p) I2 e;have a2:=Xw (p:=p) Ax.enc (s.Aj.drop e.length);have ap:∀(a b:List V),BO p (a++b)=(BO p a||BO p b):=λa b=>by
      induction a with
      |nil=>simp[BO]
      |cons x r ih=>simp[BO,ih,Bool.or_assoc]
     rw[ap];simp only[FC];exact⟨a1,a2⟩
    let X:List Nat->V:=λc=>if c=[] then .d (.agg [.AF 1 (u.names.map .AM),.AM u.name,.AT,iD u.CA]) else .agg [.d (.AF 1 (u.names.map .AM)),.d (.AM u.name),.sl (fresh f+2) c.length,.d (iD u.CA)];let J:List Nat->AB:=λc=>(if c=[] then[] else[(fresh f+2,Ob.A9 3 1 (c.map λ(x:Nat)=>iD x))])++G (l.set e.length (X c));have pn:Lr (s.AL.map Ad.name) u=none->∀c,Yw 3 (Wt (Ys P [] (S2.rg [] [(1,.a (.t 1)),(2,.a (.t 2)),(87,.a (.t 87)),(88,.b (.Bc .add (.t 0) (.t 1)) (.a (.t 88)) (.a (.int .i64 1)))] []) R) R) (.panic (.d Y5)) [] (J c):=λe0 c=>by
     have ah:=h0 (by rw[sR,aa,e0];rfl);simp;refine rp _ _ _ ?_;simp;have kq:∀j,fresh f<=j->j<=fresh f+2->AE (fresh f) [fresh f,fresh f+1,fresh f+2] j=false:=λj h1 h2=>by simp[AE];omega
     have dB:∀l,Xh (AE (fresh f) [fresh f,fresh f+1,fresh f+2]) (G l)=G l:=λl=>by
      simp[G,Xh,kq]
     have dk:Xh (AE (fresh f) [fresh f,fresh f+1,fresh f+2]) (J c)=J c:=by
      simp only[J];split
      ·simpa using dB _
      ·simp[Xh,kq,dB]
     have nk:AH (AE (fresh f) [fresh f,fresh f+1,fresh f+2]) (J c)=true:=by
      simp only[J];split
      next hh=>simp only[List.nil_append];exact bN (BV _) (kq _ (by omega) (by omega)) (kq _ (by omega) (by omega)) (Xy (by simp[X,hh,V.BJ]) _ (an _))
      next hh=>simp only[List.cons_append,List.nil_append,AH];exact bN (BV _) (kq _ (by omega) (by omega)) (kq _ (by omega) (by omega)) (Xy (by simp[X,hh,V.BJ,BO,kq]) _ (an _))
     have bd:∀x,x=1\/x=2->AA (J c) x=AA f x:=λx H=>by
      simp only[J];split
      ·simpa using a9 H
      ·have:fresh f+2≠x:=by omega
       simp only[List.cons_append,List.nil_append,AA,Af this];exact a9 H
     refine⟨[fresh f,fresh f+1,fresh f+2],by simp,by rw[dk];exact nk,_,Wk.refl _,[fresh f,fresh f+1,fresh f+2],by simp[A7.BJ],by rw[dk,dk];exact nk,?_⟩;rw[dk,dk];exact ah _ (bd 1 (.inl rfl)) (bd 2 (.inr rfl))
    refine Ae.go (ι:=List Nat) (λc=>[(1,.ep id m 6 i 0 []),(2,.mp M),(9,.ep (fresh f+1) s.Aj.length 4 e.length 0 []),(87,.d (.int .i64 s.Aj.length)),(88,.d (.int .i64 e.length)),(103,.d (.AF 1 (u.names.map .AM))),(104,.d (.int .i64 u.names.length)),(105,.d (.int .i64 c.length))])
     J (λc=>c.length<=u.names.length/\O8 (s.AL.map Ad.name) [] u.names=O8 (s.AL.map Ad.name) c (u.names.drop c.length)) (λc=>u.names.length-c.length) [] ⟨by simp,rfl⟩ (by simp) (by simp[J,X]) ?_
    rintro c ⟨b2,Y⟩ R2 bv bu b5 bx;by_cases ad:c.length<u.names.length
    ·have bi:IntKind.i64.wrap ((c.length:Int)+1)=(c.length:Int)+1:=w_i _ (by omega);rw[Db ad,O8]at Y;have b0:∀v,(l.set e.length v).set e.length=λw=>l.set e.length w:=λv=>by funext w;rw[List.set_set]
     have next:∀x,CU (s.AL.map Ad.name) u.names[c.length]=some x->R2 .normal [(1,.ep id m 6 i 0 []),(2,.mp M),(9,.ep (fresh f+1) s.Aj.length 4 e.length 0 []),(87,.d (.int .i64 s.Aj.length)),(88,.d (.int .i64 e.length)),(103,.d (.AF 1 (u.names.map .AM))),(104,.d (.int .i64 u.names.length)),(105,.d (.int .i64 (c.length+1:Nat)))] (J (c++[x])):=λx H=>by
      rw[H,Option.bind_some]at Y;have fO:fresh f+2<=fresh (J c):=by
       simp only[J];split
       ·simp[Z]
       ·simp[Z]
      have ne:c++[x]≠[]:=by simp
      have kq:AE (fresh (J c)) [fresh f+2] (fresh f+2)=false:=by simp[AE]
      have aj:∀j,j<fresh f+2->AE (fresh (J c)) [fresh f+2] j=false:=λj hj=>by simp[AE];omega
      refine bv [fresh f+2] (c++[x]) _ _ ⟨by simp;omega,by rw[Y,DV];rfl⟩ (by simp;omega) (by simp) ?_ ?_ ?_
      ·have e1:J (c++[x])=(fresh f+2,Ob.A9 3 1 ((c++[x]).map λ(x:Nat)=>iD x))::G (l.set e.length (X (c++[x]))):=by simp[J]
       rw[e1,Xh,kq];simp only[BF,Ci];rw[Xe (by rw[Z];exact fO)]
      ·have:=Xf L;simp[aj id (by omega),aj M (by omega),aj (fresh f+1) (by omega)]
      ·have e1:J (c++[x])=(fresh f+2,Ob.A9 3 1 ((c++[x]).map λ(x:Nat)=>iD x))::G (l.set e.length (X (c++[x]))):=by simp[J]
       rw[e1];simp only[AH];exact bN (by omega) (aj _ (by omega)) (aj _ (by omega)) (Xy (by simp[X,V.BJ,BO,kq]) _ (an _))
     have ax:CU (s.AL.map Ad.name) u.names[c.length]=none->R2 (.panic (.d Y5)) [] (J c):=λH=>by
      rw[H,Option.bind_none]at Y;refine bx _ _ _ ?_;have:=pn (by rw[Lr,Y];rfl) c;simpa using this
     by_cases T:c=[]
     ·subst T;have a4:0<u.names.length:=ad;have w1:IntKind.i64.wrap 1=1:=w_i _ (by omega);have nx:=next
      simp[J,X]at nx;have sp:=ax;simp[J,X]at sp;simp[gI,a4,J,X,bG,bS,bM,wl,F];refine⟨Yy hP (bM _) (λx H=>?_) (λH=>by simpa using sp H),Yy hP (bM _) (λx H=>?_) (λH=>by simpa using sp H)⟩
      ·simp[Z,bG,bS,wl,F,DZ,Bt,Zf,AG,AA,w1];simpa using nx x H
      ·simp[Z,bG,bS,wl,F,DZ,Bt,Zf,AG,AA,w1];simpa using nx x H
     ·have nx:=next
      simp[J,X]at nx;have sp:=ax;simp[J,X,T]at sp;have ba:(2*(c.length+1)+192)*8<=281474976710656:=by omega
      have al:∀l o,AA ((fresh f+2,o)::G l) M=some (Um (s.AL.map Ad.name)):=λl o=>by
       have:fresh f+2≠M:=by have:=Xf L;omega
       rw[AA,Af this,bM]
      simp[gI,ad,J,X,T,bG,bS,bM,wl,F];refine⟨Yy hP (al _ _) (λx H=>?_) (λH=>by simpa using sp H),Yy hP (al _ _) (λx H=>?_) (λH=>by simpa using sp H)⟩
      ·simp[Z,bG,bS,wl,F,DZ,Bt,Zf,AG,AA,bi,ba];simpa using nx x H
      ·simp[Z,bG,bS,wl,F,DZ,Bt,Zf,AG,AA,bi,ba];simpa using nx x H
    ·have bo:c.length=u.names.length:=by omega
     rw[bo,List.drop_length,O8]at Y;simp[gI,ad];refine bu _ _ _ ?_;have bf:CU (s.AL.map Ad.name) u.name=none->R (.panic (.d Y5)) [] (J c):=λH=>by
      have:=pn (by rw[Lr,Y,Option.bind_some,H];rfl) c;simpa using this
     have hR:∀t,CU (s.AL.map Ad.name) u.name=some t->Lr (s.AL.map Ad.name) u=some {u with Aw:=c.map Int.ofNat,CA:=t}:=λt ht=>by
      rw[Lr,Y,Option.bind_some,ht];rfl
     have Cm:∀t ak,CU (s.AL.map Ad.name) u.name=some t->Wk ak ((fresh f+2,.AY)::G (l.set e.length (HG {u with Aw:=c.map Int.ofNat,CA:=t})))\/ak=G (l.set e.length (HG {u with Aw:=c.map Int.ofNat,CA:=t}))->R .normal [(1,.ep id m 6 i 0 []),(2,.mp M),(87,.d (.int .i64 s.Aj.length)),(88,.d (.int .i64 (e.length+1:Nat)))] ak:=λt ak ht hw=>by
      rw[hR t ht,Option.bind_some]at aa;have hz:=ws {u with Aw:=c.map Int.ofNat,CA:=t};rw[hz]at hw;have ac:∃au,Wk ak au/\Xh (AE (fresh (G l)) []) au=G ((e++[{u with Aw:=c.map Int.ofNat,CA:=(t:Int) }]).map HG++(s.Aj.drop (e++[{u with Aw:=c.map Int.ofNat,CA:=(t:Int) }]).length).map ND):=by
       rcases hw with hw|rfl
       ·refine⟨_,hw,?_⟩;have kg:AE (fresh (G l)) [] (fresh f+2)=true:=by simp[AE,Z]
        rw[Xh,BL kg,Xe (by rw[Z,Z];omega)]
       ·exact⟨_,Wk.refl _,Xe (by rw[Z,Z];omega)⟩
      obtain⟨au,w1,w2⟩:=ac;refine rn [] (e++[{u with Aw:=c.map Int.ofNat,CA:=t}]) _ _ au w1 ⟨by simp;omega,by rw[aa,DV];rfl⟩ (by simp;omega) (by simp) ?_ ?_ ?_
      ·rw[bc];exact w2
      ·have:=Xf L;simp[Z,AE];omega
      ·refine bN (by rw[Z];omega) (by simp[AE,Z]) (by simp[AE,Z]) ?_;rw[<-hz];exact Xy rfl _ (an _)
     by_cases T:c=[]
     ·have sp:=bf;simp[J,X,T]at sp;simp[J,X,T,bG,bS,bM,wl,F];refine Yy hP (bM _) (λt ht=>?_) (λH=>by simpa using sp H);simp[bG,bS,wl,F,DZ,Bt,Zf,wr];have:=Cm t _ ht (.inr rfl);simpa[T,HG,I2,Xg,iD]using this
     ·have al:∀l o,AA ((fresh f+2,o)::G l) M=some (Um (s.AL.map Ad.name)):=λl o=>by
       have:fresh f+2≠M:=by have:=Xf L;omega
       rw[AA,Af this,bM]
      have sp:=bf;simp[J,X,T]at sp;simp[J,X,T,bG,bS,bM,wl,F,AA];refine Yy hP (al _ _) (λt ht=>?_) (λH=>by simpa using sp H);simp[bG,bS,wl,F,DZ,Bt,Zf,wr,AA,AG];have f2:=Cm t ((fresh f+2,Ob.A9 3 1 (c.map λ(x:Nat)=>iD x))::G (l.set e.length (.agg [.d (.AF 1 (u.names.map .AM)),.d (.AM u.name),.sl (fresh f+2) c.length,.d (.int .i64 t)]))) ht (.inl ?_)
      ·simpa using f2
      ·obtain⟨O,U⟩:∃O,O=(fresh f+2,Ob.A9 3 1 (c.map λ(x:Nat)=>iD x))::G (l.set e.length (.agg [.d (.AF 1 (u.names.map .AM)),.d (.AM u.name),.sl (fresh f+2) c.length,.d (.int .i64 t)])):=⟨_,rfl⟩
       have QA:¬fresh f+2=fresh f+1:=by omega
       have li:AA O (fresh f+1)=some (.Ao 98 4 (l.set e.length (.agg [.d (.AF 1 (u.names.map .AM)),.d (.AM u.name),.sl (fresh f+2) c.length,.d (.int .i64 t)]))):=by rw[U,AA,Af QA,bG]
       have lf:AA O (fresh f+2)=some (.A9 3 1 (c.map λ(x:Nat)=>iD x)):=by rw[U,AA,BL rfl]
       have g:Ct 3 O (.agg [.d (.AF 1 (u.names.map .AM)),.d (.AM u.name),.sl (fresh f+2) c.length,.d (.int .i64 t)])=some (.agg [.AF 1 (u.names.map .AM),.AM u.name,.AF 1 (c.map λ(x:Nat)=>iD x),.int .i64 t],AG O (fresh f+2) .AY):=by
        have hd:∀(x:D)(o:AB),Ct 2 o (.d x)=some (x,o):=λx o=>rfl;show FF (Ej (Ct 2) O _)=_;simp only[Ej,hd,Yew (k:=1) (n:=c.length) lf (by decide) (by simp),Uq,FF]
       have sg:AG O (fresh f+2) .AY=(fresh f+2,.AY)::G (l.set e.length (.agg [.d (.AF 1 (u.names.map .AM)),.d (.AM u.name),.sl (fresh f+2) c.length,.d (.int .i64 t)])):=by rw[U];simp[AG]
       have ac:=Ox li (i:=e.length) (v:=.agg [.d (.AF 1 (u.names.map .AM)),.d (.AM u.name),.sl (fresh f+2) c.length,.d (.int .i64 t)]) (by rw[List.getElem?_set_self (by omega)]) g (by rw[sg,AA,Af QA,bG]) rfl;rw[<-U];have af:AG (AG O (fresh f+2) .AY) (fresh f+1) (.Ao 98 4 ((l.set e.length (.agg [.d (.AF 1 (u.names.map .AM)),.d (.AM u.name),.sl (fresh f+2) c.length,.d (.int .i64 t)])).set e.length (.d (.agg [.AF 1 (u.names.map .AM),.AM u.name,.AF 1 (c.map λ(x:Nat)=>iD x),.int .i64 t]))))=(fresh f+2,.AY)::G (l.set e.length (HG {u with Aw:=c.map Int.ofNat,CA:=t})):=by
        rw[sg,AG,Af QA,bS,List.set_set];have:HG {u with Aw:=c.map Int.ofNat,CA:=(t:Int) }=.d (.agg [.AF 1 (u.names.map .AM),.AM u.name,.AF 1 (c.map λ(x:Nat)=>iD x),.int .i64 t]):=by
         simp[HG,I2,T,Xg,X9]
        rw[this]
       rw[af]at ac;exact ac
   ·have a0:e.length=s.Aj.length:=by omega
    rw[a0,List.drop_length,DB]at aa;simp[Xzp,F];refine re _ _ _ ?_;simp;have e0:(s.Aj.map ND).drop e.length=[]:=Gj (by simp[a0]);rw[e0,GL];rw[aa]at sR;have hq:V4 y.Al (y.Au.map At.name) s=some {s with Bz:=(n:Int),AL:=d,Aj:=e}:=by rw[sR];rfl
    have kq:∀j,fresh f<=j->j<=fresh f+1->AE (fresh f) [fresh f,fresh f+1] j=false:=λj h1 h2=>by simp[AE];omega
    have dB:∀l,Xh (AE (fresh f) [fresh f,fresh f+1]) (G l)=G l:=λl=>by simp[G,Xh,kq]
    have be:¬fresh f+1=fresh f:=by omega
    have lG:AA (G (e.map HG)) (fresh f+1)=some (.Ao 98 4 (e.map λx=>V.d (I2 x))):=bG _;have lF:AA (G (e.map HG)) (fresh f)=some (.Ao 136 11 (d.map λx=>V.d x.enc)):=by
     show AA ((fresh f+1,_)::(fresh f,_)::AG f id _) (fresh f)=_;rw[AA,Af be,AA,BL rfl];rfl
    obtain⟨O,U⟩:∃O,O=G (e.map HG):=⟨_,rfl⟩
    rw[<-U]at lG lF⊢;have li:AA O id=some (.Ao 54 6 vd):=by rw[U,bI]
    have g2:AA (AG O (fresh f) .AY) (fresh f+1)=some (.Ao 98 4 (e.map λx=>V.d (I2 x))):=by
     rw[Xc O (fresh f) (fresh f+1) ⟨_,lF⟩,Af be,lG]
    have g:Ct 3 O (.agg [.d (.AM s.name),.d (.AM s.FJ),.d (.int .i64 n),.d (iD s.BT),.sl (fresh f) s.AL.length,.sl (fresh f+1) s.Aj.length])=some (.agg [.AM s.name,.AM s.FJ,.int .i64 n,iD s.BT,.AF 11 (d.map Ad.enc),.AF 4 (e.map I2)],AG (AG O (fresh f) .AY) (fresh f+1) .AY):=by
     have hd:∀(x:D)(o:AB),Ct 2 o (.d x)=some (x,o):=λx o=>rfl;show FF (Ej (Ct 2) O _)=_;simp only[Ej,hd,ID (k:=0) (n:=s.AL.length) Ad.enc lF (by decide) az.symm,ID (k:=0) (n:=s.Aj.length) I2 g2 (by decide) a0.symm,Uq,FF]
    have sg:AG (AG O (fresh f) .AY) (fresh f+1) .AY=(fresh f+1,.AY)::(fresh f,.AY)::AG f id (.Ao 54 6 vd):=by
     rw[U];show AG (AG ((fresh f+1,_)::(fresh f,_)::AG f id _) _ _) _ _=_;simp[AG]
    have bq:AA (AG (AG O (fresh f) .AY) (fresh f+1) .AY) id=some (.Ao 54 6 vd):=by
     rw[sg,AA,Af nF,AA,Af ab,Xc f id id ⟨_,hi⟩,BL rfl]
    have ac:=Ox li (i:=i) (by rw[Cn (by omega),bg]) g bq rfl;have af:AG (AG (AG O (fresh f) .AY) (fresh f+1) .AY) id (.Ao 54 6 (vd.set i (.d (.agg [.AM s.name,.AM s.FJ,.int .i64 n,iD s.BT,.AF 11 (d.map Ad.enc),.AF 4 (e.map I2)]))))=(fresh f+1,.AY)::(fresh f,.AY)::AG f id (.Ao 54 6 (vs.set i (.d (Kd {s with Bz:=(n:Int),AL:=d,Aj:=e})))):=by
     rw[sg,AG,Af nF,AG,Af ab,X4,ai,W,List.set_set,List.set_set];rfl
    rw[af]at ac;have dk:Xh (AE (fresh f) [fresh f,fresh f+1]) O=O:=by rw[U];exact dB _
    refine⟨[fresh f,fresh f+1],by simp,by rw[dk,U];exact bN (BV _) (kq _ (by omega) (by omega)) (kq _ (by omega) (by omega)) (Xw _ _),_,by rw[dk];exact ac,[],by simp[A7.BJ],?_,?_⟩
    ·simp[AE,Xh];exact Xn (Xy rfl _ (a5 _)) (ag _)
    ·simp[AE,Xh];exact h1 _ hq
 ·simp;have ah:=h0 (by rw[V4,hn];rfl);have dk:Xh (AE (fresh f) []) f=f:=by simp
  refine⟨[],by simp,by simpa using ag [],_,Wk.refl _,[],by simp[A7.BJ],by simpa using ag [],?_⟩;simpa using ah f rfl rfl
omit hP
structure TL(T:V)(lid:Nat)(tob:BG->Ob):Prop where
 nil:Lh T
 fa:∀ob t k,AA ob lid=some (tob t)->k<5->IB ob k k T
 nmV:∀ob t,AA ob lid=some (tob t)->Ga ob (W3 0 0 T)=.d (.AM t.name)
 nmS:∀ob t,AA ob lid=some (tob t)->H2 ob 1 false (W3 0 0 T)
 paV:∀ob t,AA ob lid=some (tob t)->Ga ob (W3 1 1 T)=.d (.AM t.path)
 paS:∀ob t,AA ob lid=some (tob t)->H2 ob 1 false (W3 1 1 T)
 vaV:∀ob t,AA ob lid=some (tob t)->Ga ob (W3 2 2 T)=.d (iD t.var)
 vaS:∀ob t,AA ob lid=some (tob t)->H2 ob 1 false (W3 2 2 T)
 stv:∀ob t x (K:V->AB->Prop),AA ob lid=some (tob t)->K .undef (AG ob lid (tob {t with var:=x}))->GH ob 1 (.d (.int .i64 x)) K (W3 2 2 T)
 stf:∀ob t x (K:V->AB->Prop),AA ob lid=some (tob t)->K .undef (AG ob lid (tob {t with field:=x}))->GH ob 1 (.d (.int .i64 x)) K (W3 3 3 T)
def Rh(a:List V)(k:Nat)(x:Am)(t:BG):Ob:=.Ao 50 8 (a.set k (.d ({x with CF:=t}:Am).enc))
def TA(b:List V)(k:Nat)(x:BB)(t:BG):Ob:=.Ao 124 11 (b.set k (.d ({x with a:=t}:BB).enc))
def S6(a:List V)(k:Nat)(x:BB)(t:BG):Ob:=.Ao 124 11 (a.set k (.d ({x with b:=t}:BB).enc))
def S7(a:List V)(k:Nat)(x:Ba)(t:BG):Ob:=.Ao 127 7 (a.set k (.d ({x with Ce:=t}:Ba).enc))
def Yp2{b:List V}{k n a:Nat}(x:Am)(d:k<b.length)(f:b.length=n):TL (.ep a n 8 k 3 [3]) a (Rh b k x):=by
 subst f;refine⟨by simp,λe t k h _=>by simp,?_,?_,?_,?_,?_,?_,?_,?_⟩
 iterate 6 exact λe t h=>by simp[h,Rh,Am.enc,BG.enc,d]
 iterate 2 exact λe t x K h c=>by simp[h,Rh,Am.enc,BG.enc,d]at c⊢;simpa[DZ,Bt,Zf]using c
def Yz3{b:List V}{k n a:Nat}(x:BB)(d:k<b.length)(f:b.length=n):TL (.ep a n 11 k 1 [1]) a (TA b k x):=by
 subst f;refine⟨by simp,λe t k h _=>by simp,?_,?_,?_,?_,?_,?_,?_,?_⟩
 iterate 6 exact λe t h=>by simp[h,TA,BB.enc,BG.enc,d]
 iterate 2 exact λe t x K h c=>by simp[h,TA,BB.enc,BG.enc,d]at c⊢;simpa[DZ,Bt,Zf]using c
def Yz4{b:List V}{k n a:Nat}(x:BB)(d:k<b.length)(f:b.length=n):TL (.ep a n 11 k 6 [2]) a (S6 b k x):=by
 subst f;refine⟨by simp,λe t k h _=>by simp,?_,?_,?_,?_,?_,?_,?_,?_⟩
 iterate 6 exact λe t h=>by simp[h,S6,BB.enc,BG.enc,d]
 iterate 2 exact λe t x K h c=>by simp[h,S6,BB.enc,BG.enc,d]at c⊢;simpa[DZ,Bt,Zf]using c
def Yz5{b:List V}{k n a:Nat}(x:Ba)(d:k<b.length)(f:b.length=n):TL (.ep a n 7 k 2 [2]) a (S7 b k x):=by
 subst f;refine⟨by simp,λe t k h _=>by simp,?_,?_,?_,?_,?_,?_,?_,?_⟩
 iterate 6 exact λe t h=>by simp[h,S7,Ba.enc,BG.enc,d]
 iterate 2 exact λe t x K h c=>by simp[h,S7,Ba.enc,BG.enc,d]at c⊢;simpa[DZ,Bt,Zf]using c
include hP
theorem UP{y:Ah}{b:AB}{lid R vm rb Y m um Z G nf:Nat}{T:V}{tob:BG->Ob}(c:TL T lid tob){t:BG}(W:AA b lid=some (tob t)){vs:List Am}(hs:∀x∈vs,∃s:Nat,x.AP=s/\s<y.AD.length)
 (hc:RC y b) (ad:AA b R=some (.box 174 (.mp vm))) (ak:AA b vm=some (Um (vs.map Am.name))) (af:AA b rb=some (.box 159 (.ptr 4 []))) (ah:AA b Y=some (.box 179 (.ep m um 5 Z 0 [])))
 {X:List V} {w0 w1 w3 w4:V} (hu:AA b m=some (.Ao 45 5 X)) (aj:X.length=um) (ai:X[Z]? = some (.agg [w0,w1,.sl G nf,w3,w4])) (ag:w0.shape=.AX/\w1.shape=.AX/\w3.shape=.AX/\w4.shape=.AX)
 (hF:∀a,∃U,AA (AG b lid (tob a)) G=some (.Ao 50 8 U)/\U.length=nf/\∀(v:Nat)(x:Am),vs[v]? = some x->U[v]? = some (.d x.enc))
 (k:lid≠R/\lid≠vm/\lid≠rb/\lid≠Y/\lid≠m) (o:∀a,RC y (AG b lid (tob a))) (H:∀p a,AH p b=true->AH p (AG b lid (tob a))=true) {K:A7->AB->Prop}
 (h1:∀a,J9 y.AD vs t=some a->K (.ret (.BE [])) (AG b lid (tob a))) (h0:J9 y.AD vs t=none->∀a,K (.panic (.d Y5)) (AG b lid (tob a))):
 AV P 180 [T,.ptr R [],.ptr rb [],.ptr Y []] b K:=by
 refine Xk hP AO Zaa Y7c BD.nil λ_ J=>?_;have g:∀{a:BG},AA (AG b lid (tob a)) lid=some (tob a):=λ{a}=>by rw[Xc b lid lid ⟨_,W⟩,BL rfl]
 have ss:∀{a u:BG},AG (AG b lid (tob a)) lid (tob u)=AG b lid (tob u):=λ{a u}=>X4 b;have l:∀{j:Nat}{a:BG},lid≠j->AA (AG b lid (tob a)) j=AA b j:=λ{j a} h=>by rw[Xc b lid j ⟨_,W⟩,Af (λe=>h e.symm)]
 simp[Y1g,c.nil,c.fa b t 2 W (by omega)];refine c.stv b t _ _ W ?_;refine⟨c.fa _ _ 3 g (by omega),?_⟩;refine c.stf _ _ _ _ g ?_;rw[ss];have O:∀a,J9 y.AD vs t=some a->X0 (fresh b) (K (.ret (.BE []))) [] (AG b lid (tob a)):=λa e=>⟨[],by simp,by simpa[AE]using H _ a (J []),by simpa[AE]using h1 a e⟩;have N:J9 y.AD vs t=none->∀a,X0 (fresh b) (K (.panic (.d Y5))) [.d Y5] (AG b lid (tob a)):=λe a=>⟨[],by simp,by simpa[AE]using H _ a (J []),by simpa[AE]using h0 e a⟩;have f0:∀a,IB (AG b lid (tob a)) 0 0 T:=λa=>c.fa _ _ 0 g (by omega);have f1:∀a,IB (AG b lid (tob a)) 1 1 T:=λa=>c.fa _ _ 1 g (by omega);have f2:∀a,IB (AG b lid (tob a)) 2 2 T:=λa=>c.fa _ _ 2 g (by omega);have f3:∀a,IB (AG b lid (tob a)) 3 3 T:=λa=>c.fa _ _ 3 g (by omega);have nV:∀a,Ga (AG b lid (tob a)) (W3 0 0 T)=.d (.AM a.name):=λa=>c.nmV _ _ g;have nS:∀a,H2 (AG b lid (tob a)) 1 false (W3 0 0 T):=λa=>c.nmS _ _ g;have pV:∀a,Ga (AG b lid (tob a)) (W3 1 1 T)=.d (.AM a.path):=λa=>c.paV _ _ g;have pS:∀a,H2 (AG b lid (tob a)) 1 false (W3 1 1 T):=λa=>c.paS _ _ g;have vV:∀a,Ga (AG b lid (tob a)) (W3 2 2 T)=.d (iD a.var):=λa=>c.vaV _ _ g;have vS:∀a,H2 (AG b lid (tob a)) 1 false (W3 2 2 T):=λa=>c.vaS _ _ g;have al:∀a,AA (AG b lid (tob a)) R=some (.box 174 (.mp vm)):=λa=>by rw[l k.1,ad]
 have an:∀a,AA (AG b lid (tob a)) rb=some (.box 159 (.ptr 4 [])):=λa=>by rw[l k.2.2.1,af]
 have ao:∀a,AA (AG b lid (tob a)) Y=some (.box 179 (.ep m um 5 Z 0 [])):=λa=>by rw[l k.2.2.2.1,ah]
 have Q:∀a,AA (AG b lid (tob a)) m=some (.Ao 45 5 X):=λa=>by rw[l k.2.2.2.2,hu]
 by_cases z:t.name=[]
 ·simp[f0,nV,nS,z];have:=O {t with var:=-1,field:=0} (by rw[J9,BL z]);simpa[z]using this
 ·have i:J9 y.AD vs t=(CU (vs.map Am.name) t.name).bind λ(v:Nat)=>(vs[v]?).bind λx=>(CU (Ya y.AD x.AP) t.path).map λ(f:Nat)=>{t with var:=v,field:=f}:=by rw[J9,Af z]
  simp[f0,nV,nS,z,al];refine Yy hP (by rw[l k.2.1];exact ak) (λv hv=>?_) (λhx=>?_)
  ·simp[f2];refine c.stv _ _ _ _ g ?_;rw[ss];have r:v<vs.length:=by simpa using Nk hv
   obtain⟨sx,M,L⟩:=hs _ (CS r);obtain⟨U,g1,g2,g3⟩:=hF {t with var:=(v:Int),field:=0};have gv:=g3 v _ (Cn r);obtain⟨gl,ge⟩:=EK.1 gv;obtain⟨ul,ue⟩:=EK.1 ai;have ap:Z<um:=by omega
   have ac:v<nf:=by omega
   have fe:∀x:Am,x.enc=.agg [.AM x.name,.AM x.kind,iD x.AP,.agg [.AM x.CF.name,.AM x.CF.path,iD x.CF.var,iD x.CF.field,iD x.CF.n]]:=λ_=>rfl;rw[fe]at ge;rw[hv,Option.bind_some,Cn r,Option.bind_some]at i;have ae:Ya y.AD vs[v].AP=D0 y.AD sx:=by
    rw[M];unfold Ya D0;simp only[Int.toNat_natCast];cases y.AD[sx]?<;>rfl
   rw[ae]at i;rw[M]at ge;have F:y.AD.length≠0:=by omega
   have c4:=(o {t with var:=(v:Int),field:=0}).o4;have w:=(o {t with var:=(v:Int),field:=0}).QC F;have cm:=(o {t with var:=(v:Int),field:=0}).om sx L;generalize q:({t with var:=(v:Int),field:=0}:BG)=t2 at g1 c4 w cm;have ab:t2.var=v:=by rw[<-q]
   have aa:t2.path=t.path:=by rw[<-q]
   simp[f1,f2,f3,pV,pS,vV,vS,an,ao,Q,c4,w,g1,g2,gl,ge,aj,ul,ue,ap,ac,ab,aa,HJ,F,L,Wm,Vg,ag];refine Yy hP cm (λf hf=>?_) (λhx=>?_)
   ·simp[f3];refine c.stf _ _ _ _ g ?_;rw[ss];refine O _ ?_;rw[i,hf,<-q];rfl
   ·simp;exact N (by rw[i,hx];rfl) _
  ·simp;exact N (by rw[i,hx];rfl) _
omit hP
def zK(l a:List B):∀k,k<=l.length->Y3 (l++a) k=Y3 l k
|0,_=>rfl
|k+1,h=>by
 have c:=zK l a k (by omega);have b:k<l.length:=h;rw[Y3,Y3,c,O1 b,List.take_append_of_le_length (by omega)]
def X06{l:List B}{x:B}(h:x∉l):Y3 (l++[x]) (l++[x]).length=Y3 l l.length++[(.AM x,.d (.int .i64 l.length))]:=by
 rw[DV,List.length_singleton,Y3,QS (BV _),Nat.sub_self];simp only[List.getElem?_cons_zero,List.take_left'];rw[Af h,zK _ _ _ (BV _)]
def FL(x:Am):V:=.d x.enc
def Ei(x:BB):V:=.d x.enc
def Ig(x:Ba):V:=.d x.enc
def X0r:Xd prog 180=true:=by kernel_rfl
include hP
theorem Xso{a:List D}(c:∀x∈a,x.sz=8)(e:a.length<=1000000){b:AB}{K:V->AB->Prop}(h:K (.sl (fresh b) a.length) ((fresh b,.Ao 50 8 (a.map .d))::b)):CD P 179 [.d (.AF 8 a)] b K:=
 qN (ds:=[.AF 8 a]) (Zs hP AO Zb4 c (by omega) ⟨rfl,rfl⟩) h
theorem Xsn{xs:List D}(b:∀x∈xs,x.sz=11)(c:xs.length<=1000000){a:AB}{K:V->AB->Prop}(h:K (.sl (fresh a) xs.length) ((fresh a,.Ao 124 11 (xs.map .d))::a)):CD P 181 [.d (.AF 11 xs)] a K:=
 qN (ds:=[.AF 11 xs]) (Zs hP AO Zb5 b (by omega) ⟨rfl,rfl⟩) h
theorem Xyo{xs:List D}(b:∀x∈xs,x.sz=7)(c:xs.length<=1000000){a:AB}{K:V->AB->Prop}(h:K (.sl (fresh a) xs.length) ((fresh a,.Ao 127 7 (xs.map .d))::a)):CD P 182 [.d (.AF 7 xs)] a K:=
 qN (ds:=[.AF 7 xs]) (Zs hP AO Ysr b (by omega) ⟨rfl,rfl⟩) h
set_option maxHeartbeats 1000000 in
theorem Yhy{y:Ah}{id m i:Nat}{O:List V}{r:Ai}(cd:r.AW.length<=1000000)(cn:r.Ak.length<=1000000)(cj:r.BK.length<=1000000)(cg:(r.AW.map Am.name).Nodup){W:AB}(hc:RC y W)(hi:AA W id=some (.Ao 45 5 O))(hl:O.length=m)(hv:O[i]? = some (.d r.enc))(bx:∀p,BO p O=false)(cs:id≠1/\id≠2){K:A7->AB->Prop}
 (h1:∀q,Ji y.AD r=some q->K (.ret (.BE [])) (AG W id (.Ao 45 5 (O.set i (.d q.enc))))) (h0:Ji y.AD r=none->Pk K W):
 AV P 91 [.ptr 4 [],.ep id m 5 i 0 []] W K:=by
 refine AV.Gb ?_;refine Xk hP AO Zoi Zko BD.nil λ_ bh=>?_;obtain⟨M,a8⟩:=EK.1 hv;have pe:r.enc=.agg [.AM r.head,iD r.AP,.AF 8 (r.AW.map Am.enc),.AF 11 (r.Ak.map BB.enc),.AF 7 (r.BK.map Ba.enc)]:=rfl;rw[pe]at a8;have J:i<m:=by omega
 have l4:=Xf hc.o4;have l7:=Xf hc.o7;have a9:=Xf hi;obtain⟨f,hf⟩:∃f,f=fresh W:=⟨_,rfl⟩
 have av:f≠id:=by omega
 have ac:f+1≠id:=by omega
 have c4:=hc.o4;have fo:fresh W=f:=hf.symm;have ba:Ji y.AD r=none->∀(L:List Nat)(an:AB),Xh (AE f L) an=an->AH (AE f L) an=true->AA an 1=AA W 1->AA an 2=AA W 2->X0 f (λb=>∃b',Wk b b'/\∃x,A7.BJ (AE f x) (A7.panic (V.d Y5))=false/\AH (AE f x) (Xh (AE f x) b')=true/\K (A7.panic (V.d Y5)) (Xh (AE f x) b')) [V.d Y5] an:=λe L an q1 q2 q3 q4=>
  ⟨L,by simp,by rw[q1];exact q2,_,Wk.refl _,L,by simp[A7.BJ],by rw[q1,q1];exact q2,by rw[q1,q1];exact h0 e _ q3 q4⟩
 have cp:Ji y.AD r=none->X0 f (λb=>∃b',Wk b b'/\∃x,A7.BJ (AE f x) (A7.panic (V.d Y5))=false/\AH (AE f x) (Xh (AE f x) b')=true/\K (A7.panic (V.d Y5)) (Xh (AE f x) b')) [V.d Y5] ((f+1,.box 179 (.ep id m 5 i 0 []))::(f,.box 159 (.ptr 4 []))::W):=λe=>by
  refine ba e [f,f+1] _ ?_ ?_ ?_ ?_
  ·have:Xh (AE f [f,f+1]) W=W:=Xe (by omega);simp[Xh,AE,this]
  ·have q:=X8 (l:=[f,f+1]) bh (n:=f) (by omega);have y1:AE f [f,f+1] id=false:=by simp[AE];omega
   have y2:AE f [f,f+1] 4=false:=by simp[AE];omega
   simp[AH,V.BJ,q,y1,y2]
  ·rw[AA,Af (by omega),AA,Af (by omega)]
  ·rw[AA,Af (by omega),AA,Af (by omega)]
 have be:∀n,n<=7->(f=n)=False:=λn hn=>eq_false (by omega);rw[fo];simp[Zhs,fo,c4,hi,hl,M,J,a8,be,av,ac];have o7:AA ((f+1,Ob.box 179 (V.ep id m 5 i 0 []))::(f,Ob.box 159 (V.ptr 4 []))::W) 7=some (Um (y.AD.map AI.name)):=by
  rw[AA,Af (by omega),AA,Af (by omega),hc.o7]
 refine⟨Yy hP o7 (λn hn=>?a1) (λhn=>?b1),Yy hP o7 (λn hn=>?a2) (λhn=>?b2)⟩
 case b1|b2=>
  simp;exact cp (by rw[Ji,hn];rfl)
 case a1|a2=>
  simp[fo,hi,hl,M,J,a8,be,av,ac,DZ,Bt,Zf,AG];refine Xso hP (by intro x hx;obtain⟨r,_,rfl⟩:=C9.1 hx;rfl) (by simpa using cd) ?_;have ad:f+2≠id:=by omega
  have b0:¬f+1<=f:=by omega
  have ap:f+3≠id:=by omega
  have aq:f+4≠id:=by omega
  have cc:f+1+3=f+4:=by omega
  simp[fo,hi,hl,M,J,a8,be,av,ac,ad,ap,aq,cc,b0,DZ,Bt,Zf,AG,X4];refine⟨⟨_,_,_,⟨rfl,rfl,rfl⟩,by simp⟩,?_⟩;have rR:Ji y.AD r=(DB (Mj y.AD) [] r.AW).bind λO=>(Ju r.Ak (Mh y.AD O)).bind λws=>(Ju r.BK (M3 y.AD n O)).map λzs=>{r with AP:=(n:Int),AW:=O,Ak:=ws,BK:=zs}:=by rw[Ji,hn,Option.bind_some]
  let R0:V->V->V:=λwv sv=>.agg [.d (.AM r.head),.d (.int .i64 n),.sl (f+2) r.AW.length,wv,sv];let A:V->V->List V->List (D×V)->AB:=λwv sv fs ms=>(f+4,.box 174 (.mp (f+3)))::(f+3,.map ms)::(f+2,.Ao 50 8 fs)::(f+1,.box 179 (.ep id m 5 i 0 []))::(f,.box 159 (.ptr 4 []))::AG W id (.Ao 45 5 (O.set i (R0 wv sv)));have aG:∀wv sv fs ms,AA (A wv sv fs ms) (f+2)=some (.Ao 50 8 fs):=λwv sv fs ms=>by simp[A,AA]
  have aS:∀wv sv fs ms bf,AG (A wv sv fs ms) (f+2) (.Ao 50 8 bf)=A wv sv bf ms:=λwv sv fs ms bf=>by simp[A,AG]
  have aM:∀wv sv fs ms,AA (A wv sv fs ms) (f+3)=some (.map ms):=λwv sv fs ms=>by simp[A,AA]
  have b8:∀wv sv fs ms bl,AG (A wv sv fs ms) (f+3) (.map bl)=A wv sv fs bl:=λwv sv fs ms bl=>by simp[A,AG]
  have aV:∀wv sv fs ms,AA (A wv sv fs ms) (f+4)=some (.box 174 (.mp (f+3))):=λwv sv fs ms=>by simp[A,AA]
  have aU:∀wv sv fs ms,AA (A wv sv fs ms) (f+1)=some (.box 179 (.ep id m 5 i 0 [])):=λwv sv fs ms=>by simp[A,AA]
  have aR:∀wv sv fs ms,AA (A wv sv fs ms) f=some (.box 159 (.ptr 4 [])):=λwv sv fs ms=>by simp[A,AA]
  have aO:∀wv sv fs ms j,j<f->j≠id->AA (A wv sv fs ms) j=AA W j:=λwv sv fs ms j hj ch=>by
   show AA ((f+4,_)::(f+3,_)::(f+2,_)::(f+1,_)::(f,_)::AG W id _) j=_;rw[AA,Af (by omega),AA,Af (by omega),AA,Af (by omega),AA,Af (by omega),AA,Af (by omega),Xc W id j ⟨_,hi⟩,Af ch]
  have aI:∀wv sv fs ms,AA (A wv sv fs ms) id=some (.Ao 45 5 (O.set i (R0 wv sv))):=λwv sv fs ms=>by
   show AA ((f+4,_)::(f+3,_)::(f+2,_)::(f+1,_)::(f,_)::AG W id _) id=_;rw[AA,Af aq,AA,Af ap,AA,Af ad,AA,Af ac,AA,Af av,Xc W id id ⟨_,hi⟩,BL rfl]
  have bp:∀wv sv fs ms bo bn,AG (A wv sv fs ms) id (.Ao 45 5 (O.set i (.agg [.d (.AM r.head),.d (.int .i64 n),.sl (f+2) r.AW.length,bo,bn])))=A bo bn fs ms:=λwv sv fs ms bo bn=>by
   show AG ((f+4,_)::(f+3,_)::(f+2,_)::(f+1,_)::(f,_)::AG W id _) id _=_;rw[AG,Af aq,AG,Af ap,AG,Af ad,AG,Af ac,AG,Af av,X4]
  have aC:∀wv sv fs ms,RC y (A wv sv fs ms):=λwv sv fs ms=>hc.of λj x hj hx=>by
   have h1:=Xf hj;rw[aO wv sv fs ms j (by omega) (λe=>by rw[e,hi]at hj;exact absurd (hx _ _ _ (FQ hj).symm) (by decide)),hj]
  have aF:∀wv sv fs ms,fresh (A wv sv fs ms)=f+5:=λwv sv fs ms=>by simp[A,fo,b0]
  have aN:∀{wv sv:V}{k:Nat}{L:List Nat}{fs:List V} {ms:List (D×V)},f<=k->(∀j,j<=f+4->AE k L j=false)->V.BJ (AE k L) wv=false->V.BJ (AE k L) sv=false->BO (AE k L) fs=false->Ym (AE k L) ms=false->AH (AE k L) (A wv sv fs ms)=true:=λ{wv sv k L fs ms} hk hy hw hs hu hm=>by
   simp only[A,AH,hu,hm,V.BJ,hy (f+3) (by omega),hy id (by omega),hy 4 (by omega),Bool.not_false,EA];refine Xn (Xy ?_ i (bx _)) (X8 bh (by omega));simp[R0,V.BJ,BO,hy (f+2) (by omega),hw,hs]
  have aD:∀{wv sv:V}{k:Nat}{L:List Nat}{fs:List V} {ms:List (D×V)},f<=k->(∀j,j<=f+4->AE k L j=false)->Xh (AE k L) (A wv sv fs ms)=A wv sv fs ms:=λ{wv sv k L fs ms} hk hy=>by
   have:Xh (AE k L) (AG W id (.Ao 45 5 (O.set i (R0 wv sv))))=AG W id (.Ao 45 5 (O.set i (R0 wv sv))):=Xe (by simp;omega);simp only[A,Xh,hy (f+4) (by omega),hy (f+3) (by omega),hy (f+2) (by omega),hy (f+1) (by omega),hy f (by omega),BF,Ci,this]
  have k7:∀j,j<=f+6->AE f [f,f+1,f+2,f+3,f+4,f+5,f+6] j=false:=λj hj=>by simp[AE];omega
  have k5:∀j,j<=f+4->AE f [f,f+1,f+2,f+3,f+4,f+5,f+6] j=false:=λj hj=>k7 j (by omega);have pA:Ji y.AD r=none->∀wv sv fs ms,(∀p,V.BJ p wv=false)->(∀p,V.BJ p sv=false)->(∀p,BO p fs=false)->(∀p,Ym p ms=false)->X0 f (λb=>∃b',Wk b b'/\∃x,A7.BJ (AE f x) (A7.panic (V.d Y5))=false/\AH (AE f x) (Xh (AE f x) b')=true/\K (A7.panic (V.d Y5)) (Xh (AE f x) b')) [V.d Y5] (A wv sv fs ms):=λe wv sv fs ms g1 g2 g3 g4=>
   ba e [f,f+1,f+2,f+3,f+4,f+5,f+6] _ (aD (BV _) k5) (aN (BV _) k5 (g1 _) (g2 _) (g3 _) (g4 _)) (aO wv sv fs ms 1 (by omega) (by omega)) (aO wv sv fs ms 2 (by omega) (by omega))
  obtain⟨aj,a0⟩:∃x,x=V.d (.AF 11 (r.Ak.map BB.enc)):=⟨_,rfl⟩
  obtain⟨Y,az⟩:∃x,x=V.d (.AF 7 (r.BK.map Ba.enc)):=⟨_,rfl⟩
  have b5:∀p,V.BJ p aj=false:=λp=>by rw[a0];rfl
  have bm:∀p,V.BJ p Y=false:=λp=>by rw[az];rfl
  have ai:aj.shape=.AX:=by rw[a0];rfl
  have ab:Y.shape=.AX:=by rw[az];rfl
  have ao:Xd P.p 180=true:=by rw[hP];exact X0r
  have X:∀wv sv,(O.set i (R0 wv sv)).length=m:=λwv sv=>by simpa using hl
  have a7:=λwv sv fs ms=>(aC wv sv fs ms).o7;have a4:=λwv sv fs ms=>(aC wv sv fs ms).o4;show Ae _ _ _ _ (A (V.d (.AF 11 (r.Ak.map BB.enc))) (V.d (.AF 7 (r.BK.map Ba.enc))) (r.AW.map (V.d∘Am.enc)) []);rw[<-a0,<-az];refine Ae.go (ι:=List Am) (λd=>[(2,.ptr f []),(3,.ptr (f+1) []),(4,.ptr (f+4) []),(5,.fn 180 [] [.ptr (f+4) [],.ptr f [],.ptr (f+1) []]),(36,.d (.int .i64 r.AW.length)),(37,.d (.int .i64 d.length))])
   (λd=>A aj Y ((d++r.AW.drop d.length).map FL) (Y3 (d.map Am.name) d.length)) (λd=>d.length<=r.AW.length/\DB (Mj y.AD) [] r.AW=DB (Mj y.AD) d (r.AW.drop d.length)/\(∀x∈d,∃s:Nat,x.AP=s/\s<y.AD.length)/\d.map Am.name=(r.AW.take d.length).map Am.name) (λd=>r.AW.length-d.length) [] ⟨by simp,rfl,by simp,by simp⟩ (by simp) (by simp[Y3];rfl) ?_
  rintro d ⟨hd,hg,ax,bt⟩ R rn re rr rp;have wl:((d++r.AW.drop d.length).map FL).length=r.AW.length:=by simp;omega
  by_cases G:d.length<r.AW.length
  ·have wr:IntKind.i64.wrap ((d.length:Int)+1)=(d.length:Int)+1:=w_i _ (by omega);have wk:=Jp FL G;have ws:=Jq FL G;rw[Db G,Zd]at hg;have bi:r.AW[d.length].name∉d.map Am.name:=by
    rw[bt];have h:=cg;rw[<-Kh d.length r.AW,Ij,Em,Db G]at h;exact λhm=>h.2.2 _ hm _ (C9.2 ⟨_,List.mem_cons_self,rfl⟩) rfl
   have bc:(r.AW.take (d.length+1)).map Am.name=d.map Am.name++[r.AW[d.length].name]:=by
    rw[Ca G,Ij,bt];rfl
   generalize hu:r.AW[d.length]=u at hg wk bi bc;have ue:FL u=.d (.agg [.AM u.name,.AM u.kind,iD u.AP,.agg [.AM u.CF.name,.AM u.CF.path,iD u.CF.var,iD u.CF.field,iD u.CF.n]]):=rfl;simp only[ue]at wk;generalize au:(d++r.AW.drop d.length).map FL=c at wl wk ws;simp[Xzu,G,aU,aR,aI,aG,aS,aV,aM,a4,X,M,J,R0,wl,wk,ai,ab];have H:∀p,BO p c=false:=λp=>by rw[<-au];exact Xw _ _
   have U:Mj y.AD d u=(CU (y.AD.map AI.name) u.kind).bind λ(n:Nat)=>(J9 y.AD d u.CF).map λt=>{u with AP:=n,CF:=t}:=rfl;have N:Mj y.AD d u=none->∀w,(∀p,BO p w=false)->R (.panic (.d Y5)) [] (A aj Y w (Y3 (d.map Am.name) d.length)):=λe w ag=>by
    refine rp _ _ _ ?_;simp;exact pA (by rw[rR,hg,e];rfl) _ _ _ _ b5 bm ag (λp=>Yx _ _ _)
   refine Yy hP (a7 aj Y c (Y3 (d.map Am.name) d.length)) (λs hs=>?_) (λhx=>N (by rw[U,hx];rfl) _ H);have ck:s<y.AD.length:=by simpa using Nk hs
   simp[aG,aS,wl,wk,G,ao];let x:Am:={u with AP:=(s:Int) }
   have ae:d.length<c.length:=by omega
   have oe:∀F fs,AG (A aj Y fs (Y3 (d.map Am.name) d.length)) (f+2) (Rh c d.length x F)=A aj Y (c.set d.length (.d ({x with CF:=F}:Am).enc)) (Y3 (d.map Am.name) d.length):=λF fs=>aS _ _ _ _ _;have ay:∀(v:Nat)(z:Am),d[v]? = some z->c[v]? = some (.d z.enc):=λv z hz=>by
    have hv:v<d.length:=(EK.1 hz).1;rw[<-au,List.getElem?_map,O1 hv,hz];rfl
   refine UP hP (T:=.ep (f+2) r.AW.length 8 d.length 3 [3]) (lid:=f+2) (tob:=Rh c d.length x) (Yp2 x ae wl) (t:=u.CF) (vs:=d) (by rw[aG];rfl) ax (aC _ _ _ _) (aV _ _ _ _) (by rw[aM,Um,List.length_map]) (aR _ _ _ _) (aU _ _ _ _) (aI _ _ _ _) (X _ _) (by rw[List.getElem?_set_self M]) ⟨rfl,rfl,ai,ab⟩
    (λF=>⟨_,by rw[oe,aG],by simpa using wl,λv z hz=>?_⟩) ⟨by omega,by omega,by omega,by omega,ad⟩ (λF=>by rw[oe];exact aC _ _ _ _) (λp F hp=>Xn (Xy rfl _ (H _)) hp) (λF ht=>?_) (λht F=>?_)
   ·have hv:v<d.length:=(EK.1 hz).1;rw[List.getElem?_set_ne (by omega),ay v z hz]
   ·have xe:({x with CF:=F}:Am).enc=.agg [.AM u.name,.AM u.kind,iD s,.agg [.AM F.name,.AM F.path,iD F.var,iD F.field,iD F.n]]:=rfl;have hz:Mj y.AD d u=some {x with CF:=F}:=by rw[U,hs,Option.bind_some,ht];rfl
    rw[hz,Option.bind_some]at hg;have ci:Yh (.AM u.name) (Y3 (d.map Am.name) d.length)=none:=by
     have:=Ql (d.map Am.name) u.name d.length (by simp);rw[JI (by simp),Jb.2 bi]at this;exact this
    rw[oe];simp[aG,aS,aV,aM,b8,wl,G,xe,Qm];rw[Wo _ _ _ ci];have e1:c.set d.length (V.d (.agg [.AM u.name,.AM u.kind,iD s,.agg [.AM F.name,.AM F.path,iD F.var,iD F.field,iD F.n]]))=((d++[{x with CF:=F}])++r.AW.drop (d++[{x with CF:=F}]).length).map FL:=ws {x with CF:=F};have e2:Y3 (d.map Am.name) d.length++[(.AM u.name,V.d (.int .i64 d.length))]=Y3 ((d++[{x with CF:=F}]).map Am.name) (d++[{x with CF:=F}]).length:=by
     have:=X06 bi;simpa using this.symm
    rw[e1,e2];have y5:∀j,j<=f+4->AE (f+5) [] j=false:=λj hj=>by simp[AE];omega
    refine rn [] (d++[{x with CF:=F}]) _ _ ⟨by simp;omega,by rw[hg,DV];rfl,?_,?_⟩ (by simp;omega) (by simp[wr]) ?_ ?_ ?_
    ·intro z hz;rcases DF.1 hz with hz|hz
     ·exact ax z hz
     ·rw[DW]at hz;exact⟨s,by rw[hz],ck⟩
    ·rw[Ij,DV,List.length_singleton,bc];rfl
    ·rw[aF];exact aD (by omega) y5
    ·rw[aF];simp[y5 f (by omega),y5 (f+1) (by omega),y5 (f+4) (by omega)]
    ·rw[aF];exact aN (by omega) y5 (b5 _) (bm _) (Xw _ _) (Yx _ _ _)
   ·rw[oe];exact N (by rw[U,hs,Option.bind_some,ht];rfl) _ (λp=>Xy rfl _ (H _))
  ·have a5:d.length=r.AW.length:=by omega
   rw[a5,List.drop_length,DB]at hg;simp[Xzu,G];refine re _ _ _ ?_;have e:d.map FL++(r.AW.map FL).drop d.length=d.map FL:=by rw[Gj (by simp[a5]),GL]
   rw[e];rw[hg,Option.bind_some]at rR;simp[aU,aI,X,M,J,R0,ai,ab];refine⟨by rw[a0],?_⟩;rw[show[aj]=[V.d (.AF 11 (r.Ak.map BB.enc))] by rw[a0]];refine Xsn hP (xs:=r.Ak.map BB.enc) (by intro x hx;obtain⟨r,_,rfl⟩:=C9.1 hx;rfl) (by simpa using cn) ?_;rw[aF];have aa:∀j,j<=f+4->¬f+5=j:=λj hj=>by omega
   have Q:f+5≠id:=by omega
   let Z:List V->AB:=λc=>(f+5,.Ao 124 11 c)::A (.sl (f+5) r.Ak.length) Y (d.map FL) (Y3 (d.map Am.name) d.length);have bG:∀c,AA (Z c) (f+5)=some (.Ao 124 11 c):=λc=>by simp[Z,AA]
   have bS:∀c w,AG (Z c) (f+5) (.Ao 124 11 w)=Z w:=λc w=>by simp[Z,AG]
   have bL:∀c j,¬f+5=j->AA (Z c) j=AA (A (.sl (f+5) r.Ak.length) Y (d.map FL) (Y3 (d.map Am.name) d.length)) j:=λc j h=>by
    show AA ((f+5,_)::_) j=_;rw[AA,Af h]
   have bF:∀c,AA (Z c) (f+2)=some (.Ao 50 8 (d.map FL)):=λc=>by rw[bL _ _ (aa _ (by omega)),aG]
   have bM:∀c,AA (Z c) (f+3)=some (.map (Y3 (d.map Am.name) d.length)):=λc=>by rw[bL _ _ (aa _ (by omega)),aM]
   have bV:∀c,AA (Z c) (f+4)=some (.box 174 (.mp (f+3))):=λc=>by rw[bL _ _ (aa _ (by omega)),aV]
   have bU:∀c,AA (Z c) (f+1)=some (.box 179 (.ep id m 5 i 0 [])):=λc=>by rw[bL _ _ (aa _ (by omega)),aU]
   have bR:∀c,AA (Z c) f=some (.box 159 (.ptr 4 [])):=λc=>by rw[bL _ _ (aa _ (by omega)),aR]
   have bI:∀c,AA (Z c) id=some (.Ao 45 5 (O.set i (R0 (.sl (f+5) r.Ak.length) Y))):=λc=>by rw[bL _ _ Q,aI]
   have bC:∀c,RC y (Z c):=λc=>by
    have:=(aC (.sl (f+5) r.Ak.length) Y (d.map FL) (Y3 (d.map Am.name) d.length)).cons (.Ao 124 11 c)
    rwa [aF]at this
   have b4:=λc=>(bC c).o4;have a3:∀c,fresh (Z c)=f+6:=λc=>by
    show fresh ((f+5,_)::A _ _ _ _)=_;have:¬f+5+1<=f+5:=by omega
    simp[aF]
   have bD:∀{k:Nat}{L:List Nat}{c:List V},f<=k->(∀j,j<=f+5->AE k L j=false)->Xh (AE k L) (Z c)=Z c:=λ{k L c} hk hy=>by
    show Xh _ ((f+5,_)::A _ _ _ _)=_;rw[Xh,hy _ (BV _),aD hk (λj hj=>hy j (by omega))];rfl
   have bN:∀{k:Nat}{L:List Nat}{c:List V},f<=k->(∀j,j<=f+5->AE k L j=false)->BO (AE k L) c=false->AH (AE k L) (Z c)=true:=λ{k L c} hk hy hu=>by
    show AH _ ((f+5,_)::A _ _ _ _)=_;have:=aN (wv:=.sl (f+5) r.Ak.length) (sv:=Y) (fs:=d.map FL) (ms:=Y3 (d.map Am.name) d.length) hk (λj hj=>hy j (by omega)) (by simp[V.BJ,hy (f+5) (BV _)]) (bm _) (Xw _ _) (Yx _ _ _);simp only[AH,hu,this,Bool.not_false,EA]
   have k6:∀j,j<=f+5->AE f [f,f+1,f+2,f+3,f+4,f+5,f+6] j=false:=λj hj=>k7 j (by omega);have pB:Ji y.AD r=none->∀c,(∀p,BO p c=false)->X0 f (λb=>∃b',Wk b b'/\∃x,A7.BJ (AE f x) (A7.panic (V.d Y5))=false/\AH (AE f x) (Xh (AE f x) b')=true/\K (A7.panic (V.d Y5)) (Xh (AE f x) b')) [V.d Y5] (Z c):=λe c g=>
    ba e [f,f+1,f+2,f+3,f+4,f+5,f+6] _ (bD (BV _) k6) (bN (BV _) k6 (g _)) (by rw[bL _ _ (by omega),aO _ _ _ _ 1 (by omega) (by omega)]) (by rw[bL _ _ (by omega),aO _ _ _ _ 2 (by omega) (by omega)])
   have ay:∀(v:Nat)(z:Am),d[v]? = some z->(d.map FL)[v]? = some (.d z.enc):=λv z hz=>by rw[List.getElem?_map,hz];rfl
   have dl:(d.map FL).length=r.AW.length:=by simpa using a5
   simp[aU,aI,bp,X,M,J,R0,ai,ab,aa,Q,AA,DZ,Bt,Zf,AG];refine⟨⟨_,_,_,⟨rfl,rfl,rfl⟩,by simp⟩,?_⟩;show Ae _ _ _ _ (Z (r.Ak.map (V.d∘BB.enc)));refine Ae.go (ι:=List BB) (λe=>[(2,.ptr f []),(3,.ptr (f+1) []),(5,.fn 180 [] [.ptr (f+4) [],.ptr f [],.ptr (f+1) []]),(82,.d (.int .i64 r.Ak.length)),(83,.d (.int .i64 e.length))])
    (λe=>Z ((e++r.Ak.drop e.length).map Ei)) (λe=>e.length<=r.Ak.length/\Ju r.Ak (Mh y.AD d)=DB (λ_=>Mh y.AD d) e (r.Ak.drop e.length)) (λe=>r.Ak.length-e.length) [] ⟨by simp,rfl⟩ (by simp) (by simp;rfl) ?_
   rintro e ⟨he,ak⟩ R rn re rr rp;have wl:((e++r.Ak.drop e.length).map Ei).length=r.Ak.length:=by simp;omega
   by_cases G:e.length<r.Ak.length
   ·have wr:IntKind.i64.wrap ((e.length:Int)+1)=(e.length:Int)+1:=w_i _ (by omega);have wk:=Jp Ei G;have ws:=Jq Ei G;rw[Db G,Zd]at ak;generalize hu:r.Ak[e.length]=u at ak wk;generalize au:(e++r.Ak.drop e.length).map Ei=c at wl wk ws;have ae:e.length<c.length:=by omega
    have ct:c[e.length]? = some (Ei u):=by rw[Cn ae,wk]
    have b9:∀z:BB,(Ei z).shape.size=11:=λ_=>rfl;have cr:∀h:e.length<c.length,c[e.length].shape.size=11:=λh=>by rw[wk];rfl
    have cq:c.set e.length (Ei u)=c:=by rw[<-wk ae];exact List.set_getElem_self ae
    have H:∀p,BO p c=false:=λp=>by rw[<-au];exact Xw _ _
    have U:Mh y.AD d u=(J9 y.AD d u.a).bind λx=>(J9 y.AD d u.b).map λz=>{u with a:=x,b:=z}:=rfl;have N:Mh y.AD d u=none->∀w,(∀p,BO p w=false)->R (.panic (.d Y5)) [] (Z w):=λe0 w ag=>by
     refine rp _ _ _ ?_;simp;exact pB (by rw[rR,ak,e0];rfl) _ ag
    have oa:∀F w,AG (Z w) (f+5) (TA c e.length u F)=Z (c.set e.length (Ei {u with a:=F})):=λF w=>bS _ _;have bb:∀t1 F w,AG (Z w) (f+5) (S6 c e.length {u with a:=t1} F)=Z (c.set e.length (Ei {u with a:=t1,b:=F})):=λt1 F w=>bS _ _;simp[Xzt,G,bU,bR,bI,bG,bS,bV,bM,b4,X,M,J,R0,wl,ai,ab,ao,cr];refine UP hP (T:=.ep (f+5) r.Ak.length 11 e.length 1 [1]) (lid:=f+5) (tob:=TA c e.length u) (Yz3 u ae wl) (t:=u.a) (vs:=d) (by rw[bG];exact CK (λz=>some (Ob.Ao _ _ z)) cq.symm) ax (bC _) (bV _) (by rw[bM,Um,List.length_map]) (bR _) (bU _) (bI _) (X _ _) (by rw[List.getElem?_set_self M]) ⟨rfl,rfl,rfl,ab⟩
     (λF=>⟨_,by rw[oa,bF],dl,ay⟩) ⟨by omega,by omega,by omega,by omega,Q⟩ (λF=>by rw[oa];exact bC _) (λp F hp=>Xn (Xy rfl _ (H _)) hp) (λt1 a6=>?_) (λht F=>?_)
    ·rw[oa];have cu:(c.set e.length (Ei {u with a:=t1})).length=r.Ak.length:=by simpa using wl
     simp[bU,bR,bI,bG,bS,bV,bM,b4,X,M,J,R0,wl,ai,ab,ao,b9,G];refine UP hP (T:=.ep (f+5) r.Ak.length 11 e.length 6 [2]) (lid:=f+5) (tob:=S6 c e.length {u with a:=t1}) (Yz4 {u with a:=t1} ae wl) (t:=u.b) (vs:=d) (by rw[bG];rfl) ax (bC _) (bV _) (by rw[bM,Um,List.length_map]) (bR _) (bU _) (bI _) (X _ _) (by rw[List.getElem?_set_self M]) ⟨rfl,rfl,rfl,ab⟩
      (λF=>⟨_,by rw[bb,bF],dl,ay⟩) ⟨by omega,by omega,by omega,by omega,Q⟩ (λF=>by rw[bb];exact bC _) (λp F hp=>Xn (Xy rfl _ (H _)) hp) (λt2 cl=>?_) (λht F=>?_)
     ·rw[bb];have hz:Mh y.AD d u=some {u with a:=t1,b:=t2}:=by rw[U,a6,Option.bind_some,cl];rfl
      rw[hz,Option.bind_some]at ak;have e1:c.set e.length (Ei {u with a:=t1,b:=t2})=((e++[{u with a:=t1,b:=t2}])++r.Ak.drop (e++[{u with a:=t1,b:=t2}]).length).map Ei:=ws {u with a:=t1,b:=t2};have y6:∀j,j<=f+5->AE (f+6) [] j=false:=λj hj=>by simp[AE];omega
      simp;rw[e1];refine rn [] (e++[{u with a:=t1,b:=t2}]) _ _ ⟨by simp;omega,by rw[ak,DV];rfl⟩ (by simp;omega) (by simp[wr]) ?_ ?_ ?_
      ·rw[a3];exact bD (by omega) y6
      ·rw[a3];simp[y6 f (by omega),y6 (f+1) (by omega),y6 (f+4) (by omega)]
      ·rw[a3];exact bN (by omega) y6 (Xw _ _)
     ·rw[bb];exact N (by rw[U,a6,Option.bind_some,ht];rfl) _ (λp=>Xy rfl _ (H _))
    ·rw[oa];exact N (by rw[U,ht];rfl) _ (λp=>Xy rfl _ (H _))
   ·have bg:e.length=r.Ak.length:=by omega
    rw[bg,List.drop_length,DB]at ak;simp[Xzt,G];refine re _ _ _ ?_;have e0:e.map Ei++(r.Ak.map Ei).drop e.length=e.map Ei:=by rw[Gj (by simp[bg]),GL]
    rw[e0];rw[show Ju r.Ak (Mh y.AD d)=some e from ak,Option.bind_some]at rR;simp[bU,bI,X,M,J,R0,ai,ab];refine⟨by rw[az],?_⟩;rw[show[Y]=[V.d (.AF 7 (r.BK.map Ba.enc))] by rw[az]];refine Xyo hP (xs:=r.BK.map Ba.enc) (by intro x hx;obtain⟨r,_,rfl⟩:=C9.1 hx;rfl) (by simpa using cj) ?_;rw[a3];have el:e.map Ei=e.map λx=>V.d x.enc:=rfl;have aw:∀j,j<=f+5->¬f+6=j:=λj hj=>by omega
    have ah:f+6≠id:=by omega
    let A3:AB:=A (.sl (f+5) r.Ak.length) (.sl (f+6) r.BK.length) (d.map FL) (Y3 (d.map Am.name) d.length);let B3:List V->AB:=λc=>(f+6,.Ao 127 7 c)::(f+5,.Ao 124 11 (e.map Ei))::A3;have ca:AG (Z (e.map Ei)) id (.Ao 45 5 (O.set i (.agg [.d (.AM r.head),.d (.int .i64 n),.sl (f+2) r.AW.length,.sl (f+5) r.Ak.length,.sl (f+6) r.BK.length])))=(f+5,.Ao 124 11 (e.map Ei))::A3:=by
     show AG ((f+5,_)::A _ _ _ _) id _=_;rw[AG,Af Q,bp]
    have cG:∀c,AA (B3 c) (f+6)=some (.Ao 127 7 c):=λc=>by simp[B3,AA]
    have cS:∀c w,AG (B3 c) (f+6) (.Ao 127 7 w)=B3 w:=λc w=>by simp[B3,AG]
    have cW:∀c,AA (B3 c) (f+5)=some (.Ao 124 11 (e.map Ei)):=λc=>by simp[B3,AA]
    have cL:∀c j,¬f+5=j->¬f+6=j->AA (B3 c) j=AA A3 j:=λc j h h6=>by
     show AA ((f+6,_)::(f+5,_)::A3) j=_;rw[AA,Af h6,AA,Af h]
    have cF:∀c,AA (B3 c) (f+2)=some (.Ao 50 8 (d.map FL)):=λc=>by rw[cL _ _ (aa _ (by omega)) (aw _ (by omega)),aG]
    have cM:∀c,AA (B3 c) (f+3)=some (.map (Y3 (d.map Am.name) d.length)):=λc=>by rw[cL _ _ (aa _ (by omega)) (aw _ (by omega)),aM]
    have cV:∀c,AA (B3 c) (f+4)=some (.box 174 (.mp (f+3))):=λc=>by rw[cL _ _ (aa _ (by omega)) (aw _ (by omega)),aV]
    have cU:∀c,AA (B3 c) (f+1)=some (.box 179 (.ep id m 5 i 0 [])):=λc=>by rw[cL _ _ (aa _ (by omega)) (aw _ (by omega)),aU]
    have cR:∀c,AA (B3 c) f=some (.box 159 (.ptr 4 [])):=λc=>by rw[cL _ _ (aa _ (by omega)) (aw _ (by omega)),aR]
    have cI:∀c,AA (B3 c) id=some (.Ao 45 5 (O.set i (R0 (.sl (f+5) r.Ak.length) (.sl (f+6) r.BK.length)))):=λc=>by rw[cL _ _ Q ah,aI]
    have cC:∀c,RC y (B3 c):=λc=>by
     have:=((aC (.sl (f+5) r.Ak.length) (.sl (f+6) r.BK.length) (d.map FL) (Y3 (d.map Am.name) d.length)).cons (.Ao 124 11 (e.map Ei))).cons (.Ao 127 7 c);have e6:fresh ((f+5,Ob.Ao 124 11 (e.map Ei))::A3)=f+6:=by
      have:¬f+5+1<=f+5:=by omega
      simp[A3,aF]
     rw[aF]at this;show RC y ((f+6,_)::(f+5,_)::A3);rw[e6]at this;exact this
    have c4:=λc=>(cC c).o4;have bv:n<y.AD.length:=by simpa using Nk hn
    have bu:y.AD.length≠0:=by omega
    have cb:=λc=>(cC c).QC bu;have cm:=λc=>(cC c).om n bv;have bd:∀c,fresh (B3 c)=f+7:=λc=>by
     show fresh ((f+6,_)::(f+5,_)::A3)=_;simp[A3,aF]
    have cD:∀{k:Nat}{L:List Nat}{c:List V},f<=k->(∀j,j<=f+6->AE k L j=false)->Xh (AE k L) (B3 c)=B3 c:=λ{k L c} hk hy=>by
     show Xh _ ((f+6,_)::(f+5,_)::A3)=_;rw[Xh,hy _ (BV _),Xh,hy _ (by omega),aD hk (λj hj=>hy j (by omega))];rfl
    have cN:∀{k:Nat}{L:List Nat}{c:List V},f<=k->(∀j,j<=f+6->AE k L j=false)->BO (AE k L) c=false->AH (AE k L) (B3 c)=true:=λ{k L c} hk hy hu=>by
     show AH _ ((f+6,_)::(f+5,_)::A3)=_;have:=aN (wv:=.sl (f+5) r.Ak.length) (sv:=.sl (f+6) r.BK.length) (fs:=d.map FL) (ms:=Y3 (d.map Am.name) d.length) hk (λj hj=>hy j (by omega)) (by simp[V.BJ,hy (f+5) (by omega)]) (by simp[V.BJ,hy (f+6) (by omega)]) (Xw _ _) (Yx _ _ _);have h2:BO (AE k L) (e.map Ei)=false:=Xw _ _;simp only[AH,hu,h2,this,A3,Bool.not_false,EA]
    have pC:Ji y.AD r=none->∀c,(∀p,BO p c=false)->X0 f (λb=>∃b',Wk b b'/\∃x,A7.BJ (AE f x) (A7.panic (V.d Y5))=false/\AH (AE f x) (Xh (AE f x) b')=true/\K (A7.panic (V.d Y5)) (Xh (AE f x) b')) [V.d Y5] (B3 c):=λe c g=>
     ba e [f,f+1,f+2,f+3,f+4,f+5,f+6] _ (cD (BV _) k7) (cN (BV _) k7 (g _)) (by rw[cL _ _ (by omega) (by omega),aO _ _ _ _ 1 (by omega) (by omega)]) (by rw[cL _ _ (by omega) (by omega),aO _ _ _ _ 2 (by omega) (by omega)])
    have b7:AA A3 (f+1)=some (.box 179 (.ep id m 5 i 0 [])):=aU _ _ _ _;have b6:AA A3 id=some (.Ao 45 5 (O.set i (R0 (.sl (f+5) r.Ak.length) (.sl (f+6) r.BK.length)))):=aI _ _ _ _;simp[bU,bI,ca,b7,b6,X,M,J,R0,ai,ab,aw,ah,aa,Q,AA,DZ,Bt,Zf,AG];refine⟨⟨_,_,_,⟨rfl,rfl,rfl⟩,by simp⟩,?_⟩;show Ae _ _ _ _ (B3 (r.BK.map (V.d∘Ba.enc)));refine Ae.go (ι:=List Ba) (λq=>[(2,.ptr f []),(3,.ptr (f+1) []),(5,.fn 180 [] [.ptr (f+4) [],.ptr f [],.ptr (f+1) []]),(117,.d (.int .i64 r.BK.length)),(118,.d (.int .i64 q.length))])
     (λq=>B3 ((q++r.BK.drop q.length).map Ig)) (λq=>q.length<=r.BK.length/\Ju r.BK (M3 y.AD n d)=DB (λ_=>M3 y.AD n d) q (r.BK.drop q.length)) (λq=>r.BK.length-q.length) [] ⟨by simp,rfl⟩ (by simp) (by simp;rfl) ?_
    rintro q ⟨hq,al⟩ R rn re rr rp;have wl:((q++r.BK.drop q.length).map Ig).length=r.BK.length:=by simp;omega
    by_cases G:q.length<r.BK.length
    ·have wr:IntKind.i64.wrap ((q.length:Int)+1)=(q.length:Int)+1:=w_i _ (by omega);have wk:=Jp Ig G;have ws:=Jq Ig G;rw[Db G,Zd]at al;generalize hu:r.BK[q.length]=u at al wk;have ue:Ig u=.d (.agg [.AM u.path,iD u.field,.agg [.AM u.Ce.name,.AM u.Ce.path,iD u.Ce.var,iD u.Ce.field,iD u.Ce.n]]):=rfl;simp only[ue]at wk;generalize au:(q++r.BK.drop q.length).map Ig=c at wl wk ws;have ae:q.length<c.length:=by omega
     have H:∀p,BO p c=false:=λp=>by rw[<-au];exact Xw _ _
     have cf:Ya y.AD n=D0 y.AD n:=by
      unfold Ya D0;simp only[Int.toNat_natCast];cases y.AD[n]?<;>rfl
     have U:M3 y.AD n d u=(CU (D0 y.AD n) u.path).bind λ(k:Nat)=>(J9 y.AD d u.Ce).map λt=>{u with field:=k,Ce:=t}:=by rw[<-cf];rfl
     have N:M3 y.AD n d u=none->∀w,(∀p,BO p w=false)->R (.panic (.d Y5)) [] (B3 w):=λe0 w ag=>by
      refine rp _ _ _ ?_;simp;exact pC (by rw[rR,al,e0];rfl) _ ag
     simp[Xzs,G,cU,cR,cI,cG,cS,cV,cM,c4,cb,HJ,bu,bv,Wm,Vg,X,M,J,R0,wl,wk];refine⟨⟨Yy hP (cm c) (λk hk=>?c1) (λhx=>N (by rw[U,hx];rfl) _ H),Yy hP (cm c) (λk hk=>?c2) (λhx=>N (by rw[U,hx];rfl) _ H)⟩,Yy hP (cm c) (λk hk=>?c3) (λhx=>N (by rw[U,hx];rfl) _ H)⟩
     case c1|c2|c3=>
      simp[cU,cI,cG,cS,wl,wk,G,ao,X,M,J,R0,DZ,Bt,Zf];have oe:∀F w,AG (B3 w) (f+6) (S7 c q.length {u with field:=(k:Int) } F)=B3 (c.set q.length (Ig {u with field:=(k:Int),Ce:=F})):=λF w=>cS _ _;refine UP hP (T:=.ep (f+6) r.BK.length 7 q.length 2 [2]) (lid:=f+6) (tob:=S7 c q.length {u with field:=(k:Int) }) (Yz5 {u with field:=(k:Int) } ae wl) (t:=u.Ce) (vs:=d) (by rw[cG];rfl) ax (cC _) (cV _) (by rw[cM,Um,List.length_map]) (cR _) (cU _) (cI _) (X _ _) (by rw[List.getElem?_set_self M]) ⟨rfl,rfl,rfl,rfl⟩
       (λF=>⟨_,by rw[oe,cF],dl,ay⟩) ⟨by omega,by omega,by omega,by omega,ah⟩ (λF=>by rw[oe];exact cC _) (λp F hp=>Xn (Xy rfl _ (H _)) hp) (λt1 a6=>?_) (λht F=>?_)
      ·rw[oe];have hz:M3 y.AD n d u=some {u with field:=(k:Int),Ce:=t1}:=by rw[U,hk,Option.bind_some,a6];rfl
       rw[hz,Option.bind_some]at al;have e1:c.set q.length (Ig {u with field:=(k:Int),Ce:=t1})=((q++[{u with field:=(k:Int),Ce:=t1}])++r.BK.drop (q++[{u with field:=(k:Int),Ce:=t1}]).length).map Ig:=ws {u with field:=(k:Int),Ce:=t1};have y7:∀j,j<=f+6->AE (f+7) [] j=false:=λj hj=>by simp[AE];omega
       simp;rw[e1];refine rn [] (q++[{u with field:=(k:Int),Ce:=t1}]) _ _ ⟨by simp;omega,by rw[al,DV];rfl⟩ (by simp;omega) (by simp[wr]) ?_ ?_ ?_
       ·rw[bd];exact cD (by omega) y7
       ·rw[bd];simp[y7 f (by omega),y7 (f+1) (by omega),y7 (f+4) (by omega)]
       ·rw[bd];exact cN (by omega) y7 (Xw _ _)
      ·rw[oe];exact N (by rw[U,hk,Option.bind_some,ht];rfl) _ (λp=>Xy rfl _ (H _))
    ·have bj:q.length=r.BK.length:=by omega
     rw[bj,List.drop_length,DB]at al;simp[Xzs,G];refine re _ _ _ ?_;simp;have e0:q.map Ig++(r.BK.map Ig).drop q.length=q.map Ig:=by rw[Gj (by simp[bj]),GL]
     rw[e0];rw[show Ju r.BK (M3 y.AD n d)=some q from al]at rR;have hq:Ji y.AD r=some {r with AP:=(n:Int),AW:=d,Ak:=e,BK:=q}:=by rw[rR];rfl
     obtain⟨o1,af⟩:∃o1,o1=B3 (q.map Ig):=⟨_,rfl⟩
     have l1:AA o1 (f+2)=some (.Ao 50 8 (d.map λx=>V.d x.enc)):=by rw[af];exact cF _
     have l2:AA o1 (f+5)=some (.Ao 124 11 (e.map λx=>V.d x.enc)):=by rw[af];exact cW _
     have l3:AA o1 (f+6)=some (.Ao 127 7 (q.map λx=>V.d x.enc)):=by rw[af];exact cG _
     have li:AA o1 id=some (.Ao 45 5 (O.set i (R0 (.sl (f+5) r.Ak.length) (.sl (f+6) r.BK.length)))):=by rw[af,cI]
     have bk:AA (AG o1 (f+2) .AY) (f+5)=some (.Ao 124 11 (e.map λx=>V.d x.enc)):=by
      rw[Xc o1 (f+2) (f+5) ⟨_,l1⟩,Af (by omega),l2]
     have bz:AA (AG (AG o1 (f+2) .AY) (f+5) .AY) (f+6)=some (.Ao 127 7 (q.map λx=>V.d x.enc)):=by
      rw[Xc _ (f+5) (f+6) ⟨_,bk⟩,Af (by omega),Xc o1 (f+2) (f+6) ⟨_,l1⟩,Af (by omega),l3]
     have co:AA (AG (AG (AG o1 (f+2) .AY) (f+5) .AY) (f+6) .AY) id=some (.Ao 45 5 (O.set i (R0 (.sl (f+5) r.Ak.length) (.sl (f+6) r.BK.length)))):=by
      rw[Xc _ (f+6) id ⟨_,bz⟩,Af (λh=>ah h.symm),Xc _ (f+5) id ⟨_,bk⟩,Af (λh=>Q h.symm),Xc o1 (f+2) id ⟨_,l1⟩,Af (λh=>ad h.symm),li]
     have g:Ct 3 o1 (R0 (.sl (f+5) r.Ak.length) (.sl (f+6) r.BK.length))=some (.agg [.AM r.head,.int .i64 n,.AF 8 (d.map Am.enc),.AF 11 (e.map BB.enc),.AF 7 (q.map Ba.enc)],AG (AG (AG o1 (f+2) .AY) (f+5) .AY) (f+6) .AY):=by
      have hd:∀(x:D)(o:AB),Ct 2 o (.d x)=some (x,o):=λx o=>rfl;show FF (Ej (Ct 2) o1 _)=_;simp only[Ej,hd,ID (k:=0) (n:=r.AW.length) Am.enc l1 (by decide) a5.symm,ID (k:=0) (n:=r.Ak.length) BB.enc bk (by decide) bg.symm,ID (k:=0) (n:=r.BK.length) Ba.enc bz (by decide) bj.symm,Uq,FF]
     have b3:=Ox li (i:=i) (by rw[List.getElem?_set_self M]) g co rfl;rw[<-af];have pI:¬f+2=f+5:=by omega
     have sg:AG (AG (AG o1 (f+2) .AY) (f+5) .AY) (f+6) .AY=(f+6,.AY)::(f+5,.AY)::(f+4,.box 174 (.mp (f+3)))::(f+3,.map (Y3 (d.map Am.name) d.length))::(f+2,.AY)::(f+1,.box 179 (.ep id m 5 i 0 []))::(f,.box 159 (.ptr 4 []))::AG W id (.Ao 45 5 (O.set i (R0 (.sl (f+5) r.Ak.length) (.sl (f+6) r.BK.length)))):=by
      rw[af];show AG (AG (AG ((f+6,_)::(f+5,_)::(f+4,_)::(f+3,_)::(f+2,_)::(f+1,_)::(f,_)::AG W id _) _ _) _ _) _ _=_;simp[AG]
     have bq:AG (AG (AG (AG o1 (f+2) .AY) (f+5) .AY) (f+6) .AY) id (.Ao 45 5 ((O.set i (R0 (.sl (f+5) r.Ak.length) (.sl (f+6) r.BK.length))).set i (.d (.agg [.AM r.head,.int .i64 n,.AF 8 (d.map Am.enc),.AF 11 (e.map BB.enc),.AF 7 (q.map Ba.enc)]))))=(f+6,.AY)::(f+5,.AY)::(f+4,.box 174 (.mp (f+3)))::(f+3,.map (Y3 (d.map Am.name) d.length))::(f+2,.AY)::(f+1,.box 179 (.ep id m 5 i 0 []))::(f,.box 159 (.ptr 4 []))::AG W id (.Ao 45 5 (O.set i (.d ({r with AP:=(n:Int),AW:=d,Ak:=e,BK:=q}:Ai).enc))):=by
      rw[sg,AG,Af ah,AG,Af Q,AG,Af aq,AG,Af ap,AG,Af ad,AG,Af ac,AG,Af av,X4,List.set_set];rfl
     rw[bq]at b3;have dk:Xh (AE f [f,f+1,f+2,f+3,f+4,f+5,f+6]) o1=o1:=by rw[af];exact cD (BV _) k7
     have d0:Xh (AE f []) ((f+6,.AY)::(f+5,.AY)::(f+4,.box 174 (.mp (f+3)))::(f+3,.map (Y3 (d.map Am.name) d.length))::(f+2,.AY)::(f+1,.box 179 (.ep id m 5 i 0 []))::(f,.box 159 (.ptr 4 []))::AG W id (.Ao 45 5 (O.set i (.d ({r with AP:=(n:Int),AW:=d,Ak:=e,BK:=q}:Ai).enc))))=AG W id (.Ao 45 5 (O.set i (.d ({r with AP:=(n:Int),AW:=d,Ak:=e,BK:=q}:Ai).enc))):=by
      have y0:∀j,f<=j->AE f [] j=true:=λj hj=>by simp[AE];omega
      simp only[Xh,y0 (f+6) (by omega),y0 (f+5) (by omega),y0 (f+4) (by omega),y0 (f+3) (by omega),y0 (f+2) (by omega),y0 (f+1) (by omega),y0 f (by omega),Cz];exact Xe (by simp;omega)
     refine⟨[f,f+1,f+2,f+3,f+4,f+5,f+6],by simp,by rw[dk,af];exact cN (BV _) k7 (Xw _ _),_,by rw[dk];exact b3,[],by simp[A7.BJ],?_,?_⟩
     ·rw[d0];exact Xn (Xy rfl _ (bx _)) (by simpa[fo]using bh [])
     ·rw[d0];exact h1 _ hq
omit hP
end Go.Ab
