/- Texts of this claim joined by a program, part 9 of 20; the last is: Calls that are computed once, and what the evaluator makes of them. Over the seat's program; no condition. -/
import Derived.Test.YtolkimpelpnpbaaGreatDoorO4
import Derived.Test.YtolkimpelpnpbaaGreatDoorO5
import Derived.Test.YtolkimpelpnpbaaGreatDoorO8
import Derived.Test.YtolkimpelpnpbaaGreatDoorProg
import Derived.KernelRfl
set_option maxRecDepth 100000
set_option linter.unusedSimpArgs false
set_option linter.unusedVariables false
set_option linter.unusedSectionVars false
set_option linter.defProp false
namespace Go.Lx
open Go Go.Ab

def Xda (c:UInt8):Bool:=Vc c.toNat
def Ym (c:UInt8):Bool:=Xcu c.toNat
def Xq7 (c:UInt8):Bool:=X79 c.toNat
def Ve (c:UInt8):Bool:=Xn2 c.toNat
def Yfn (c:UInt8):Bool:=Yrg c.toNat
def Qy (c:UInt8):Bool:=c != 10

inductive St where
 | skip (n:Nat)
 | tok (k:Int) (t:List UInt8) (m:Int) (n:Nat)
 | err

def Xhp (t:List UInt8):Option Int:=match Xho 0 t with
 | none=>none
 | some n=>if t.length=1\/t.headD 0 ≠ 48 then some n else none

def stp (c:UInt8)(r:List UInt8):St:=
 if Xq7 c then .skip 0
 else if c=47/\r.head? = some 47 then .skip (r.takeWhile Qy).length
 else if Xda c then
  if (r.takeWhile Ve).length+1<=32 then .tok 1 (c::r.takeWhile Ve) 0 (r.takeWhile Ve).length else .err
 else if Ym c then
  match Xhp (c::r.takeWhile Ym) with
  | some n=>.tok 2 [] n (r.takeWhile Ym).length
  | none=>.err
 else if Yfn c then .tok 3 [c] 0 0 else .err

inductive Res where
 | ok (l:List Tok)
 | err (at_:Nat)

def U0 (t:Tok):Res->Res
 | .ok l=>.ok (t::l)
 | .err e=>.err e
def X0z (l:List Tok):Res->Res
 | .ok l'=>.ok (l++l')
 | .err e=>.err e

def Xid:List UInt8->Nat->Res
 | [],_=>.ok []
 | c::r,off=>match stp c r with
  | .skip n=>Xid (r.drop n) (off+n+1)
  | .tok k t m n=>U0 ⟨k,t,m,off⟩ (Xid (r.drop n) (off+n+1))
  | .err=>.err off
termination_by l=>l.length
decreasing_by all_goals (simp only[List.length_drop,List.length_cons]; omega)

def Y11:Res->V
 | .ok l=>.tup [.d (Yfs l),.d (.int .i64 0),.d (.int .i64 0)]
 | .err e=>.tup [.d .nils,.d (.int .i64 e),.d (.int .i64 90)]
def Ymv (s:List UInt8):V:=if s.length > 65536 then .tup [.d .nils,.d (.int .i64 0),.d (.int .i64 2)] else Y11 (Xid s 0)

theorem X1u (r:Res):X0z [] r=r:=by cases r<;>rfl
theorem Xfx (l:List Tok)(t:Tok)(r:Res):X0z l (U0 t r)=X0z (l++[t]) r:=by cases r<;>simp[X0z,U0]

def tw (p:UInt8->Bool)(s:List UInt8)(j:Nat):Nat:=((s.drop j).takeWhile p).length
theorem Y13 {p:UInt8->Bool}{s:List UInt8}{j:Nat}(h:s.length<=j):tw p s j=0:=by simp[tw,Ubl h]
theorem X0s {p:UInt8->Bool}{s:List UInt8}{j:Nat}(h:j<s.length)(hp:p (s[j]?.getD 0)=true):tw p s j=tw p s (j+1)+1:=by
 simp[h]at hp;unfold tw;rw[Uaf h,Ucz,Uby hp]; rfl
theorem Y14 {p:UInt8->Bool}{s:List UInt8}{j:Nat}(h:j<s.length)(hp:p (s[j]?.getD 0)=false):tw p s j=0:=by
 simp[h]at hp;unfold tw;rw[Uaf h,Ucz,hp]; rfl
theorem Xs5 (p:UInt8->Bool)(s:List UInt8)(j:Nat)(h:j<=s.length):j+tw p s j<=s.length:=by
 have:=(List.takeWhile_sublist p (l:=s.drop j)).length_le;simp[tw]at this⊢; omega
theorem Vg (p:UInt8->Bool):∀l:List UInt8,l.takeWhile p=l.take (l.takeWhile p).length
 | []=>rfl
 | c::r=>by
  simp only[Ucz];split
  ·simp; exact Vg p r
  ·rfl
theorem X63 {p:UInt8->Bool}{x:UInt8}:∀{l:List UInt8},x∈l.takeWhile p->p x=true
 | c::r,h=>by
  rw[Ucz]at h;split at h
  ·rename_i hc;rcases Uax.mp h with rfl | h
   ·exact hc
   ·exact X63 h
  ·cases h
theorem Ul {s:List UInt8}{i:Nat}(h:i<s.length):s.drop i=(s[i]?.getD 0)::s.drop (i+1):=by
 rw[Uaf h]; simp[h]
theorem Yfu (p:UInt8->Bool){s:List UInt8}{i:Nat}(h:i<s.length)(hp:p (s[i]?.getD 0)=true) :
  (s.take (i+tw p s i)).drop i=(s[i]?.getD 0)::(s.drop (i+1)).takeWhile p/\tw p s i=((s.drop (i+1)).takeWhile p).length+1:=by
 have h1:tw p s i=((s.drop (i+1)).takeWhile p).length+1:=X0s h hp;refine⟨?_,h1⟩;rw[Ubh,Nat.add_sub_cancel_left,h1,Ul h,List.take_succ_cons,<-Vg]

theorem X41 {s:List UInt8}{i off:Nat}(h:s.length<=i):Xid (s.drop i) off=.ok []:=by
 rw[Ubl h,Xid]
theorem Ycj {s:List UInt8}{i:Nat}(h:i<s.length):Xid (s.drop i) i=match stp (s[i]?.getD 0) (s.drop (i+1)) with
  | .skip n=>Xid (s.drop (i+n+1)) (i+n+1)
  | .tok k t m n=>U0 ⟨k,t,m,i⟩ (Xid (s.drop (i+n+1)) (i+n+1))
  | .err=>.err i:=by
 rw[Ul h,Xid];cases stp (s[i]?.getD 0) (s.drop (i+1)) with
 | err=>rfl
 | skip n=>simp only[List.drop_drop]; congr 2; omega
 | tok k t m n=>simp only[List.drop_drop]; congr 3; omega
theorem Xjr {s:List UInt8}{i:Nat}:(s.drop i).head? = s[i]?:=by simp[List.head?_drop]
end Go.Lx
namespace Go.Lx
open Go Go.Ab
def Yci:Nat->List UInt8->Nat->Res
 | 0,_,_=>.ok []
 | _,[],_=>.ok []
 | f+1,c::r,off=>match stp c r with
  | .skip n=>Yci f (r.drop n) (off+n+1)
  | .tok k t m n=>U0 ⟨k,t,m,off⟩ (Yci f (r.drop n) (off+n+1))
  | .err=>.err off
theorem Xmk:∀(f:Nat) (s:List UInt8) (off:Nat),s.length<=f->Yci f s off=Xid s off
 | 0,s,off,h=>by
  have:s=[]:=Ucs.1 (by omega);subst this; simp[Yci,Xid]
 | f+1,[],off,h=>by simp[Yci,Xid]
 | f+1,c::r,off,h=>by
  rw[Yci,Xid];have hl:∀n,(r.drop n).length<=f:=fun n=>by simp at h⊢; omega
  split
  ·rw[Xmk f _ _ (hl _)]; try simp_all
  ·rw[Xmk f _ _ (hl _)]; try simp_all
  ·simp_all
end Go.Lx
namespace Go.Ab
open Go
theorem ACall.nilv {P:Prg}{f:Nat}{vs:List V}{ob:Xb}{K:Out->Xb->Prop}(h:ACall P f vs ob fun o b=>K o b\/(o=.ret (.d .nils)/\∃E z,K (.ret (.sl (Xa b) 0)) ((Xa b,.vec E z [])::b))):ACall P f vs ob K:=
  ⟨fun w ρ args ho hg hr=>(h.run w ρ args ho hg hr).mono fun e w' ⟨o,b,ρ',k,hre,hO,t⟩=>by
    rcases k with k | ⟨rfl,E,z,k⟩
    · exact⟨o,b,ρ',k,hre,hO,t⟩
    · have hl:Xc b (Xa b)=none:=X2 b
      have hbl:∀b,RO.virt.blk? = some b->w'.heap.size<=b:=fun b hb=>by simp[RO.blk?]at hb
      have t1:=W6 w' (Ext.refl w') (o:=.virt) (hO.free hl) hbl;have o1:OM w' (ρ'.ins (Xa b) .virt) ((Xa b,.vec E z [])::b):=hO.ins (Ext.refl w') hl hbl (.inl ⟨Yh,rfl⟩);refine⟨_,_,_,k,?_,o1,t.trans t1⟩;cases e with
      | returned u=>
        have h1:(V.d .nils).rep w' ρ' u:=hre;show (V.sl (Xa b) 0).rep w' (ρ'.ins (Xa b) .virt) u;rw[J2]at h1;rcases h1 with⟨h1,_⟩ | ⟨_,h1⟩
        · cases h1
        · simp only[D.rep,Ua1,Ua2]at h1
          exact Yj.2 ⟨.virt,Yh,rfl,h1⟩
      | _=>exact (hre:False).elim⟩
def Zp (E z B:Nat):S:=.seq (.rg [] [.op (some 2) (.c (.mv .nils))] [0] [])
 (.seq (.seq (.rg [] [.op (some 3) (.c (.mv (.t 0))),
   .op (some 4) (.isn true false (.t 3))] [0,4] [])
 (.cond (.t 4) (.seq (.rg [] [.op (some 2) (.c (.mv .nils))] [2] [])
 (.ret)) (.skip)))
 (.seq (.rg [] [.op (some 5) (.blv E z [] []),
   .op (some 6) (.c (.mv (.t 0))),
   .op (some 7) (.apv E z B (.t 5) (.t 6)),
   .op (some 2) (.c (.mv (.t 7)))] [2] [])
 (.ret)))
def Xvb (E z B:Nat):S2:=.seq (.rg [] [(0,(.a (.t 0)))] [])
 (.seq (.seq (.rg [.lt 3 [] (.a (.t 0)),.op (some 4) (.isn true false (.t 3))] [(0,(.a (.t 0))),(4,(.a (.t 4)))] [])
 (.cond (.t 4) (.seq (.rg [] [(2,(.a .nils))] [])
 (.ret)) (.skip)))
 (.seq (.rg [.op (some 5) (.blv E z [] []),.lt 6 [] (.a (.t 0)),.op (some 7) (.apv E z B (.t 5) (.t 6))] [(2,(.a (.t 7)))] [])
 (.ret)))
theorem Xeq (E z B:Nat):(Zp E z B).lift []=some (Xvb E z B):=by rfl
theorem X8t {P:Prg}{p:Program}(hP:P.p=p)(hm:p.follows .mixedOrders=true){f E z B:Nat}(hc:Xj p f 1 (Zp E z B) [.t 2]=true){xs:List D}(hs:∀x∈xs,x.sz=z)(hB:(2*xs.length+192)*B<=281474976710656){ob:Xb}{K:Out->Xb->Prop}(h:K (.ret (.sl (Xa ob) xs.length)) ((Xa ob,.vec E z (xs.map .d))::ob)):ACall P f [.d (.list z xs)] ob K:=by
  refine ACall.nilv ?_;refine Ws hP hm hc (Xeq E z B) TOk.nil fun _ hno=>?_;simp[Xvb,I.wp,Xxf,Yge,Xtd,Xro];constructor
  · refine⟨hB,[Xa ob],by simp[Xe],?_,?_⟩
    · have hd:∀(p:Nat->Bool) (l:List D),V.mens p (l.map .d)=false:=fun p l=>by induction l<;>simp_all[V.mens,V.men]
      simp[Xe,hd];exact hno _
    · simpa[Xe]using h
  · intro e
    exact⟨[],by simp,by simpa using hno [],.inr ⟨E,z,by simpa[e]using h⟩⟩
theorem X1m {P:Prg}{p:Program}(hP:P.p=p)(hm:p.follows .mixedOrders=true){f E z B:Nat}(hc:Xj p f 1 (Zp E z B) [.t 2]=true){ob:Xb}{K:Out->Xb->Prop}(h:K (.ret (.sl (Xa ob) 0)) ((Xa ob,.vec E z [])::ob)):ACall P f [.d .nils] ob K:=by
  refine ACall.nilv ?_;refine Ws hP hm hc (Xeq E z B) TOk.nil fun _ hno=>?_;simp[Xvb,I.wp,Xxf];exact⟨[],by simp,by simpa using hno [],.inr ⟨E,z,by simpa using h⟩⟩
end Go.Ab
namespace Go.Proofs.YtolkimpelpnpbaaGreatDoor
open Go Go.Ab
theorem Y8p:Xj Tryz.prog 85 1 (Zp 9 1 16) [.t 2]=true:=by kernel_rfl
theorem Y8q:Xj Tryz.prog 86 1 (Zp 164 5 56) [.t 2]=true:=by kernel_rfl
theorem Y8r:Xj Tryz.prog 87 1 (Zp 110 6 96) [.t 2]=true:=by kernel_rfl
theorem Y8s:Xj Tryz.prog 88 1 (Zp 170 5 96) [.t 2]=true:=by kernel_rfl
theorem Y8t:Xj Tryz.prog 89 1 (Zp 174 5 72) [.t 2]=true:=by kernel_rfl
theorem Y8u:Xj Tryz.prog 90 1 (Zp 71 3 48) [.t 2]=true:=by kernel_rfl
theorem Y8v:Xj Tryz.prog 165 1 (Zp 115 11 120) [.t 2]=true:=by kernel_rfl
theorem Y8w:Xj Tryz.prog 166 1 (Zp 240 4 72) [.t 2]=true:=by kernel_rfl
theorem Y8x:Xj Tryz.prog 167 1 (Zp 244 8 96) [.t 2]=true:=by kernel_rfl
theorem Y8y:Xj Tryz.prog 169 1 (Zp 38 11 120) [.t 2]=true:=by kernel_rfl
theorem Yuf:Xj Tryz.prog 170 1 (Zp 251 7 80) [.t 2]=true:=by kernel_rfl
theorem Yug:Xj Tryz.prog 171 1 (Zp 255 5 56) [.t 2]=true:=by kernel_rfl
theorem Yuh:Xj Tryz.prog 172 1 (Zp 56 4 48) [.t 2]=true:=by kernel_rfl
def Xo7:List (Nat×Nat×Nat×Nat):=[(85,9,1,16),(86,164,5,56),(87,110,6,96),(88,170,5,96),(89,174,5,72),(90,71,3,48),(165,115,11,120),(166,240,4,72),(167,244,8,96),(169,38,11,120),(170,251,7,80),(171,255,5,56),(172,56,4,48)]
theorem Xvc:∀e∈Xo7,Xj Tryz.prog e.1 1 (Zp e.2.1 e.2.2.1 e.2.2.2) [.t 2]=true:=by
  simp only[Xo7,List.forall_mem_cons];exact⟨Y8p,Y8q,Y8r,Y8s,Y8t,Y8u,Y8v,Y8w,Y8x,Y8y,Yuf,Yug,Yuh,fun _ h=>by cases h⟩
def Xu9 (E z B:Nat)(ob:Xb):D->Option (V×Xb)
  | .nils=>some (.sl (Xa ob) 0,(Xa ob,.vec E z [])::ob)
  | .list z' xs=>bif Nat.beq z' z&&xs.all (fun x=>Nat.beq x.sz z)&&decide ((2*xs.length+192)*B<=281474976710656) then some (.sl (Xa ob) xs.length,(Xa ob,.vec E z (xs.map .d))::ob) else none
  | _=>none
def Xo6 (f:Nat)(x:D)(ob:Xb):List (Nat×Nat×Nat×Nat)->Option (V×Xb)
  | []=>none
  | (g,E,z,B)::r=>bif Nat.beq f g then Xu9 E z B ob x else Xo6 f x ob r
theorem Xva {P:Prg}(hP:P.p=Tryz.prog){f E z B:Nat}(hc:Xj Tryz.prog f 1 (Zp E z B) [.t 2]=true){x:D}{ob b:Xb}{o:V}(h:Xu9 E z B ob x=some (o,b)):XCall P f [.d x] ob fun o' b'=>o'=o/\b'=b:=by
  unfold Xu9 at h;split at h
  · cases h; exact XCall.of_nil (ds:=[.nils]) (xs:=[]) (X1m hP mixed hc ⟨rfl,rfl⟩) ⟨rfl,rfl⟩
  · rw[Ucv]at h
    split at h
    · rename_i e
      cases h;simp only[Uai,Ubp,Ubt]at e;obtain⟨⟨e1,e3⟩,e4⟩:=e;rw[Uaj e1];exact XCall.of_nil (ds:=[.list _ _]) (X8t hP mixed hc (fun x hx=>Uaj (e3 x hx)) e4 ⟨rfl,rfl⟩) ⟨rfl,rfl⟩
    · cases h
  · cases h
theorem Xi2 {P:Prg}(hP:P.p=Tryz.prog){f:Nat}{x:D}{ob b:Xb}{o:V}:∀l:List (Nat×Nat×Nat×Nat),(∀e∈l,Xj Tryz.prog e.1 1 (Zp e.2.1 e.2.2.1 e.2.2.2) [.t 2]=true)->Xo6 f x ob l=some (o,b)->XCall P f [.d x] ob fun o' b'=>o'=o/\b'=b
  | [],_,h=>by cases h
  | (g,E,z,B)::r,hl,h=>by
    simp only[Xo6,Ucv]at h;split at h
    · rename_i e
      rw[Uaj e];exact Xva hP (hl _ List.mem_cons_self) h
    · exact Xi2 hP r (fun e he=>hl e (Ucy _ he)) h
end Go.Proofs.YtolkimpelpnpbaaGreatDoor
namespace Go.Py
open Go Go.Ab Go.Lx
def Yck (s:List UInt8):V:=if s.length > 65536 then .tup [.d .nils,.d (.int .i64 0),.d (.int .i64 2)] else Y11 (Yci s.length s 0)
theorem X42 (s:List UInt8):Yck s=Ymv s:=by
 have e:=Xmk s.length s 0 (Uak _);unfold Yck Ymv;rw[e]
def xgl (g:Nat):Option D:=
 bif Nat.beq g 0 then some (.agg [.int .i64 2,.int .i64 1000]) else
 bif Nat.beq g 1 then some (.agg [.int .i64 1,.int .i64 255]) else
 bif Nat.beq g 2 then some (.agg [.int .i64 0,.int .i64 32]) else
 bif Nat.beq g 3 then some (.agg [.int .i64 0,.int .i64 9]) else
 bif Nat.beq g 4 then some (.agg [.int .i64 0,.int .i64 1048576]) else none
def Yff:Nat->List (List Nat)
 | 0=>[[]]
 | 1=>[[0]]
 | 2=>[[0,1],[1,0]]
 | 3=>[[0,1,2],[0,2,1],[1,0,2],[1,2,0],[2,0,1],[2,1,0]]
 | _=>[]
def Yuk:D×V->Option (Int×Int)
 | (.agg [.int .i64 a,.int .i64 b],.d (.bool true))=>some (a,b)
 | _=>none
def X2e:List (D×V)->Option (List (Int×Int))
 | []=>some []
 | e::r=>match Yuk e,X2e r with
  | some p,some l=>some (p::l)
  | _,_=>none
def Y7i (a n:Nat)(ob:Xb):Option (Out×Xb)->Option (List D)
 | some (.ret (.tup []),(j,.arr E 2 l)::r)=>bif Nat.beq j a&&Nat.beq l.length n&&Nat.beq E 76&&X01 r ob then some l else none
 | _=>none
end Go.Py
namespace Go.Proofs.YtolkimpelpnpbaaGreatDoor
open Go Go.Ab Go.Lx Go.Py
def xpc (f:Nat)(vs:List V):Option V:=match vs with
 | [.d (.str s)]=>bif Nat.beq f 74 then some (Yck s) else none
 | _=>none
def xz0:Fns:=⟨fun _ _ _=>none,fun _ _ _=>none,fun _=>false,xgl,fun _ _ _=>none,fun _=>none,fun _ _ _=>none⟩
def Ygc (ob:Xb)(a:Nat)(fs:List (Int×Int))(sn:List Nat):Option (List D):=
 Y7i a sn.length ob ((fns 100 Wp xz0 12).call 108 [.sl a sn.length,.fn 54 [] []] ((a,.arr 76 2 (sn.map fun i=>fD (atF fs i)))::ob))
def Yr8 (ob:Xb)(a:Nat)(fs:List (Int×Int))(s:List D):List (List Nat)->Bool
 | []=>true
 | sn::r=>(match Ygc ob a fs sn with
  | some l=>D.eqbs l s
  | none=>false)&&Yr8 ob a fs s r
def X5t (ob:Xb)(fs:List (Int×Int)):Option (Out×Xb):=match Yff fs.length with
 | sn::r=>(match Ygc ob (Xa ob+5) fs sn with
  | some s=>bif Yr8 ob (Xa ob+5) fs s r then some (.ret (.d (.list 2 s)),ob) else none
  | none=>none)
 | []=>none
def Yxu (ob:Xb):Option (Out×Xb)->Option (Out×Xb)
 | some (.ret (.tup []),r)=>bif X01 r ob then some (.ret (.d .nils),ob) else none
 | _=>none
def Yrl (ob:Xb):Option Ob->Option (Out×Xb)
 | some (.map es)=>(match X2e es with
  | some []=>Yxu ob ((fns 100 Wp xz0 12).call 108 [.d .nils,.fn 54 [] []] ob)
  | some fs=>X5t ob fs
  | none=>none)
 | _=>none
def Yrm (ob:Xb):Option Ob->Option (Out×Xb)
 | some (.box _ (.mp m))=>Yrl ob (Xc ob m)
 | _=>none
def xcall (f:Nat)(vs:List V)(ob:Xb):Option (Out×Xb):=bif Nat.beq f 52 then
  (match vs with
  | [.fn g [] [.ptr bx []],.fn h [] []]=>bif Nat.beq g 109&&Nat.beq h 54 then Yrm ob (Xc ob bx) else none
  | _=>none)
 else none
def xxc (f:Nat)(vs:List V)(ob:Xb):Option (V×Xb):=match vs with
 | [.d x]=>Xo6 f x ob Xo7
 | _=>none
def xlt (k:Nat):Option (List Nat×S×S):=
 bif Nat.beq k 18 then some ([34],ir18900,ir18901) else
 bif Nat.beq k 260 then some ([7],ir260900,ir260901) else none
def xz:Fns:=⟨xcall,fun f vs _=>xpc f vs,fun f=>Nat.beq f 109,xgl,fun _ _ _=>none,xlt,xxc⟩
end Go.Proofs.YtolkimpelpnpbaaGreatDoor
namespace Go.Lx
open Go Go.Ab
theorem Xlc {i n:Nat}(h:i<n)(hn:n<=1000000):IntKind.i64.wrap ((i:Int)+1)=(i:Int)+1:=IntWalk.i64_in _ (by omega)
end Go.Lx
namespace Go.Lx
open Go Go.Ab
def Xh3 (f:Nat->Int):List D:=(List.range 256).map fun i=>.int .i64 (f i)
def Qg (f:Nat->Int):D:=.agg (Xh3 f)
def upd (f:Nat->Int)(n:Nat)(v:Int)(i:Nat):Int:=if i=n then v else f i
theorem Zl {f g:Nat->Int}(h:∀i,i<256->f i=g i):Qg f=Qg g:=by
 unfold Qg Xh3;congr 1;exact List.map_congr_left fun i hi=>by rw[h i (Ub7.mp hi)]
@[simp] theorem tbl_kids (f:Nat->Int):V.kids (.d (Qg f))=some ((Xh3 f).map .d):=by simp only[Qg,V.kids]
@[simp] theorem tbl_getE (f:Nat->Int){n:Nat}(h:n<(Xh3 f).length):(Xh3 f)[n]=.int .i64 (f n):=by simp[Xh3]
@[simp] theorem Xdy (f:Nat->Int):(Xh3 f).length=256:=by simp[Xh3]
@[simp] theorem allD_set (l:List D)(n:Nat)(x:D):V.allD ((l.map V.d).set n (.d x))=some (l.set n x):=by rw[<-Uas,allD_map]
@[simp] theorem tblL_set (f:Nat->Int)(n:Nat)(v:Int):(Xh3 f).set n (.int .i64 v)=Xh3 (upd f n v):=by
 unfold Xh3;apply Uat;intro i;by_cases hi:n=i
 ·subst hi;by_cases hl:n<256
  ·simp[Uau,hl,upd]
  ·simp[Uau,hl]
 ·by_cases hl:i<256
  ·simp[Uau,hi,hl,upd,Ne.symm hi]
  ·simp[Uau,hi,hl]
@[simp] theorem X8y (f:Nat->Int):D.agg (Xh3 f)=Qg f:=rfl
theorem Yfq {l:List D}{n:Nat}(h:∀x∈l,x.sz=n):D.szs l=l.length*n:=D.szs_uniform l h
theorem Xh4 (f:Nat->Int):∀x∈Xh3 f,x.sz=1:=by
 intro x hx;simp only[Xh3,Ua5]at hx;obtain⟨i,_,rfl⟩:=hx;rfl
@[simp] theorem Yrx (f:Nat->Int):(Qg f).sz=256:=by simp only[Qg,D.sz,Yfq (Xh4 f),Xdy]
@[simp] theorem tbl_size' (f:Nat->Int):(Qg f).shape.size=256:=by rw[D.size_shape,Yrx]
@[simp] theorem tbl_agg (f:Nat->Int):V.isAgg (.d (Qg f))=true:=rfl
@[simp] theorem tbl_dagg (f:Nat->Int):(Qg f).isAgg=true:=rfl
@[simp] theorem tbl_ok (f:Nat->Int):(∀a,a∈Xh3 f->a.shape.size=1)=True:=
 eq_true fun x hx=>by rw[D.size_shape]; exact Xh4 f x hx
theorem X49 (n:Nat)(x:D):List.replicate n x=(List.range n).map fun _=>x:=by
 rw[List.map_const',List.length_range]
theorem Xai:∀s:List UInt8,Zn s=s.map fun b=>.int .u8 b.toNat
 | []=>rfl
 | b::r=>by simp[Zn,Xai r]
theorem Xlh:List.replicate 256 (D.int .i64 0)=Xh3 fun _=>0:=X49 256 _

def cl1 (k i:Nat):Int:=if 65<=i/\i<65+k\/97<=i/\i<97+k then 2 else 0
def cl2 (k i:Nat):Int:=if 48<=i/\i<48+k then 3 else cl1 26 i
def spc:List UInt8:=[32,9,10,13]
def cl3 (k i:Nat):Int:=if i∈(spc.take k).map UInt8.toNat then 1 else cl2 10 i
def cl4 (k i:Nat):Int:=if i∈(Xbu.take k).map UInt8.toNat then 4 else cl3 4 i
def Xic:Nat->Int:=cl4 15
theorem Xqu {l:List UInt8}{k i:Nat}(h:k<l.length):(i∈(l.take (k+1)).map UInt8.toNat)↔(i=(l[k]?.getD 0).toNat\/i∈(l.take k).map UInt8.toNat):=by
 rw[List.take_add_one,Uca,Ubu,Ubf h];simp only[Option.toList_some,Uam,Ubm,Uci,Option.getD_some];exact Or.comm
def Y2m:D:=Qg Xic
end Go.Lx
namespace Go.Proofs.YtolkimpelpnpbaaGreatDoor
open Go Go.Ab Go.Lx
section
variable {P:Prg} (hP:P.p=Tryz.prog)
include hP
theorem Xrq {ob:Xb}{K:V->Prop}(h:K (.d Y2m)):PCall P 127 [] ob K:=by
 refine Xh hP mixed (ds:=[]) Yp6 Ywb TOk.nil ?_;simp only[Yng,Xlh];rw[show D.agg (Xh3 fun _=>0)=Qg fun _=>0 from rfl,show Qg (fun _=>0)=Qg (cl1 0) from Zl fun i _=>by simp[cl1]];simp;refine ALoop.go (ι:=Nat) (fun k=>[(0,.ptr 0 []),(7,.d (.int .i64 k))]) (fun k=>[(0,.box 225 (.d (Qg (cl1 k))))]) (fun k=>k<=26) (fun k=>26-k) 0 (by omega) (by simp) (by simp) ?_;intro k hk R rn re _ _;by_cases hlt:k<26
 ·have w1:IntKind.i64.wrap (65+(k:Int))=65+(k:Int):=IntWalk.i64_in _ (by omega);have w2:IntKind.i64.wrap (97+(k:Int))=97+(k:Int):=IntWalk.i64_in _ (by omega);have w3:=Xlc hlt (by omega);simp[Xok,w1,w2,w3,show (k:Int)<26 by omega,show ¬(26:Int)<=k by omega,show (0:Int)<=65+k by omega,show (0:Int)<=97+k by omega,show 65+(k:Int)<256 by omega,show 97+(k:Int)<256 by omega,show (65+(k:Int)).toNat=65+k by omega,show (97+(k:Int)).toNat=97+k by omega,show 65+k<256 by omega,show 97+k<256 by omega];refine rn [] (k+1) _ _ ?_ ?_ ?_ ?_ ?_ ?_
  ·omega
  ·omega
  ·simp
  ·simp;refine Zl fun i _=>?_;simp only[upd,cl1]
   repeat (first | split | omega)
   all_goals omega
  ·simp
  ·simp
 ·have hk':k=26:=by omega
  subst hk';simp[Xok];refine re _ _ _ ?_;simp;clear rn re;rw[show Qg (cl1 26)=Qg (cl2 0) from Zl fun i _=>by simp[cl2]; omega];refine ALoop.go (ι:=Nat) (fun k=>[(0,.ptr 0 []),(17,.d (.int .i64 k))]) (fun k=>[(0,.box 225 (.d (Qg (cl2 k))))]) (fun k=>k<=10) (fun k=>10-k) 0 (by omega) (by simp) (by simp) ?_;intro k hk R rn re _ _;by_cases hlt:k<10
  ·have w1:IntKind.i64.wrap (48+(k:Int))=48+(k:Int):=IntWalk.i64_in _ (by omega);have w3:=Xlc hlt (by omega);simp[Xoj,w1,w3,show (k:Int)<10 by omega,show ¬(10:Int)<=k by omega,show (0:Int)<=48+k by omega,show 48+(k:Int)<256 by omega,show (48+(k:Int)).toNat=48+k by omega,show 48+k<256 by omega];refine rn [] (k+1) _ _ ?_ ?_ ?_ ?_ ?_ ?_
   ·omega
   ·omega
   ·simp
   ·simp;refine Zl fun i _=>?_;simp only[upd,cl2]
    repeat (first | split | omega)
    all_goals omega
   ·simp
   ·simp
  ·have hk':k=10:=by omega
   subst hk';simp[Xoj];refine re _ _ _ ?_;simp;clear rn re;rw[show Qg (cl2 10)=Qg (cl3 0) from Zl fun i _=>by simp[cl3]];show ALoop _ _ _ [_,(25,V.d (D.list 1 (Zn spc))),_,_] _;refine ALoop.go (ι:=Nat) (fun k=>[(0,.ptr 0 []),(25,.d (.list 1 (Zn spc))),(26,.d (.int .i64 4)),(27,.d (.int .i64 k))]) (fun k=>[(1,.gone),(0,.box 225 (.d (Qg (cl3 k))))]) (fun k=>k<=4) (fun k=>4-k) 0 (by omega) (by simp[Xk]) (by simp) ?_;intro k hk R rn re _ _;by_cases hlt:k<4
   ·have w3:=Xlc hlt (by omega);have hb:(Zn spc)[k]?.getD default=.int .u8 (spc[k]?.getD 0).toNat:=by
     rw[Xai]; simp[show k<spc.length from hlt]
    have hlen:(Zn spc).length=4:=rfl;have hc:=(spc[k]?.getD 0).toNat_lt;generalize hcc:spc[k]?.getD 0=c at *;simp[Xoi,w3,hb,hlen,show (k:Int)<4 by omega,show ¬(4:Int)<=k by omega,hc,show ((c.toNat:Int)<256) by omega];refine rn [] (k+1) _ _ ?_ ?_ ?_ ?_ ?_ ?_
    ·omega
    ·omega
    ·simp
    ·simp;refine Zl fun i _=>?_;simp only[upd,cl3,Xqu (show k<spc.length from hlt),hcc];split
     ·rename_i e; simp[e]
     ·rename_i e; simp[e]
    ·simp
    ·simp
   ·have hk':k=4:=by omega
    subst hk';simp[Xoi];refine re _ _ _ ?_;simp;clear rn re;rw[show Qg (cl3 4)=Qg (cl4 0) from Zl fun i _=>by simp[cl4]];show ALoop _ _ _ [_,(35,V.d (D.list 1 (Zn Xbu))),_,_] _;refine ALoop.go (ι:=Nat) (fun k=>[(0,.ptr 0 []),(35,.d (.list 1 (Zn Xbu))),(36,.d (.int .i64 15)),(37,.d (.int .i64 k))]) (fun k=>[(2,.gone),(1,.gone),(0,.box 225 (.d (Qg (cl4 k))))]) (fun k=>k<=15) (fun k=>15-k) 0 (by omega) (by simp[Xk]) (by simp) ?_;intro k hk R rn re _ _;by_cases hlt:k<15
    ·have w3:=Xlc hlt (by omega);have hb:(Zn Xbu)[k]?.getD default=.int .u8 (Xbu[k]?.getD 0).toNat:=by
      rw[Xai]; simp[show k<Xbu.length from hlt]
     have hlen:(Zn Xbu).length=15:=rfl;have hc:=(Xbu[k]?.getD 0).toNat_lt;generalize hcc:Xbu[k]?.getD 0=c at *;simp[Xoh,w3,hb,hlen,show (k:Int)<15 by omega,show ¬(15:Int)<=k by omega,hc,show ((c.toNat:Int)<256) by omega];refine rn [] (k+1) _ _ ?_ ?_ ?_ ?_ ?_ ?_
     ·omega
     ·omega
     ·simp
     ·simp;refine Zl fun i _=>?_;simp only[upd,cl4,Xqu (show k<Xbu.length from hlt),hcc];split
      ·rename_i e; simp[e]
      ·rename_i e; simp[e]
     ·simp
     ·simp
    ·have hk':k=15:=by omega
     subst hk';simp[Xoh];refine re _ _ _ ?_;simp;refine⟨rfl,?_⟩;exact h
end
end Go.Proofs.YtolkimpelpnpbaaGreatDoor
namespace Go.Lx
open Go Go.Ab
@[simp] theorem idxPV_tbl (f:Nat->Int)(kd:IntKind)(i:Int):Xgk (.d (.ref (Qg f))) (.d (.int kd i))=.d (.ref ((Xh3 f).getD i.toNat default)):=by simp only[Qg,Xgk]
@[simp] theorem idxPS_tbl (ob:Xb)(f:Nat->Int)(kd:IntKind)(i:Int):Xmc ob 256 1 (.d (.ref (Qg f))) (.d (.int kd i))=(0<=i/\i<256):=by
 simp only[Qg,Yas,Xdy];simp;intro _ _ x hx; exact Xh4 f x hx
theorem Xer:∀n,n<256->(Xic n=2↔Vc n=true):=by decide +kernel
theorem Xcs:∀n,n<256->(Xic n=3↔Xcu n=true):=by decide +kernel
theorem Xve:∀n,n<256->(Xic n=1↔X79 n=true):=by decide +kernel
theorem X2a:∀n,n<256->(Xic n=4↔Yrg n=true):=by decide +kernel
theorem Xvd:∀n,n<256->0<=Xic n/\Xic n<=4:=by decide +kernel
abbrev scD (s:List UInt8)(i:Int)(l:List D):D:=.agg [.str s,.int .i64 i,Qg Xic,.list 4 l]
abbrev scV (s:List UInt8)(i:Int)(y n:Nat):V:=.agg [.d (.str s),.d (.int .i64 i),.d (Qg Xic),.sl y n]
end Go.Lx
namespace Go.Proofs.YtolkimpelpnpbaaGreatDoor
open Go Go.Ab Go.Lx
section
variable {P:Prg} (hP:P.p=Tryz.prog)
include hP
theorem X9l (c:UInt8)(s:List UInt8)(i:Int)(l:List D){ob:Xb}{K:V->Prop}(h:K (.d (.bool (Ve c)))):PCall P 219 [.d (.int .u8 c.toNat),.d (.ref (.ref (scD s i l)))] ob K:=by
 refine Xh hP mixed (ds:=[.int .u8 c.toNat,.ref (.ref (scD s i l))]) Yqm Ywr TOk.nil ?_;have hc:=c.toNat_lt;simp[Ytl,hc,show (c.toNat:Int)<256 by omega];refine (Ua4 K ?_).mp h;congr 2;rw[Ucl];have h2:=Xer c.toNat hc;have h3:=Xcs c.toNat hc;simp[Ve,Xn2,h2,h3]
theorem Xu0 (c:UInt8)(s:List UInt8)(i:Int)(l:List D){ob:Xb}{K:V->Prop}(h:K (.d (.bool (Ym c)))):PCall P 221 [.d (.int .u8 c.toNat),.d (.ref (.ref (scD s i l)))] ob K:=by
 refine Xh hP mixed (ds:=[.int .u8 c.toNat,.ref (.ref (scD s i l))]) Yqo Ywt TOk.nil ?_;have hc:=c.toNat_lt;simp[Ytn,hc,show (c.toNat:Int)<256 by omega];refine (Ua4 K ?_).mp h;congr 2;rw[Ucl];have h3:=Xcs c.toNat hc;simp[Ym,h3]
theorem X9o (c:UInt8){ob:Xb}{K:V->Prop}(h:K (.d (.bool (Qy c)))):PCall P 223 [.d (.int .u8 c.toNat)] ob K:=by
 refine Xh hP mixed (ds:=[.int .u8 c.toNat]) Yqq Ywv TOk.nil ?_;simp[Ytp];refine (Ua4 K ?_).mp h;congr 2;rw[Ucl];simp[Qy];constructor
 ·intro h1 h2; exact h1 (by rw[<-UInt8.ofNat_toNat (x:=c),show c.toNat=10 by omega]; rfl)
 ·intro h1 h2; subst h2; exact h1 rfl
theorem X12 (s t:List UInt8){ob:Xb}{K:V->Prop}(h:K (.d (.bool (t.isPrefixOf s)))):PCall P 222 [.d (.str s),.d (.str t)] ob K:=by
 have h0:∀{K:V->Prop},K (.d (.bool (t.isPrefixOf s)))->PCall P 285 [.d (.str s),.d (.str t)] [] K:=fun {K} h=>by
  refine Xh hP mixed (ds:=[.str s,.str t]) Yqv Yw0 TOk.nil ?_;simp[Ytr];refine (Ua4 K ?_).mp h;congr 2;rw[Ucl];simp only[List.isPrefixOf_iff_prefix,List.prefix_iff_eq_take];by_cases hl:t.length<=s.length
  ·simp[hl]; exact eq_comm
  ·simp[hl];intro e;have:=Ua4 List.length e;simp at this; omega
 refine Xh hP mixed (ds:=[.str s,.str t]) Yqp Ywu TOk.nil ?_;simp[Yto];exact h0 (by simpa using h)
theorem X9n (s:List UInt8)(i:Nat)(hi:i<=s.length)(hs:s.length<=1000000)(l:List D)(f:Nat)(fi ca:List D)(p:UInt8->Bool)(hf:Xm P.p f=true)
  (hp:∀(c:UInt8) (K:V->Prop),K (.d (.bool (p c)))->PCall P f (fi.map .d++.d (.int .u8 c.toNat)::ca.map .d) [] K)
  {ob:Xb} {K:V->Prop} (h:K (.d (.str ((s.drop i).takeWhile p)))):PCall P 218 [.d (.ref (scD s i l)),.d (.fn f fi ca)] ob K:=by
 refine Xh hP mixed (ds:=[.ref (scD s i l),.fn f fi ca]) Yql Ywq TOk.nil ?_;simp[Ytk];refine ALoop.go (ι:=Nat) (fun j=>[(0,.d (.ref (scD s i l))),(1,.d (.fn f fi ca)),(5,.d (.int .i64 j))]) (fun _=>[]) (fun j=>i<=j/\j<=s.length/\j+tw p s j=i+tw p s i) (fun j=>s.length-j) i ⟨by omega,by omega,rfl⟩ rfl rfl ?_;rintro j ⟨hj0,hj1,hj2⟩ R rn re _ _;have ex:tw p s j=0->∀x,R (AExit.exit 0) [(0,.d (.ref (scD s i l))),(1,.d (.fn f fi ca)),(5,.d (.int .i64 j)),(26,x)] []:=fun h0 x=>by
  refine re _ _ _ ?_;simp[hj0,hj1];refine (Ua4 K ?_).mp h;congr 2;rw[Ubh,Vg];congr 1;simp only[tw]at hj2 h0⊢;omega
 simp[X1g];by_cases hjl:j<s.length
 ·have hwj:=Xlc hjl hs;simp[hjl,hwj,hf];refine⟨PCall.acall (hp s[j] _ ?_),fun h=>absurd h (by omega)⟩;by_cases hb:p s[j]=true
  ·simp[hb];refine rn [] (j+1) _ _ ⟨?_,?_,?_⟩ ?_ ?_ ?_ ?_ ?_
   ·omega
   ·omega
   ·rw[<-hj2,X0s hjl (by simpa[hjl]using hb)]; omega
   ·omega
   ·simp
   ·simp
   ·simp
   ·simp
  ·simp[hb];exact ex (Y14 hjl (by simpa[hjl]using hb)) _
 ·simp[hjl];exact fun _=>ex (Y13 (by omega)) _
end
end Go.Proofs.YtolkimpelpnpbaaGreatDoor
namespace Go.Proofs.YtolkimpelpnpbaaGreatDoor
open Go Go.Ab Go.Lx
section
variable {P:Prg} (hP:P.p=Tryz.prog)
include hP
theorem X9g (s:List UInt8)(i n:Nat)(k m a0:Int)(t:List UInt8)(ts:List D)(hn:i+n<=1000000)(hts:ts.length<=1000000){ob:Xb}{x y:Nat}(hx:Xc ob x=some (.box 228 (scV s i y ts.length)))(hy:Xc ob y=some (.arr 153 4 ts))
  {K:Out->Xb->Prop} (h:K (.ret (.tup [])) (setO (setO ob y (.arr 153 4 (ts++[.agg [.int .i64 k,.str t,.int .i64 m,.int .i64 i]]))) x (.box 228 (scV s ((i+n:Nat):Int) y (ts.length+1))))) :
  ACall P 220 [.ptr x [],.d (.agg [.int .i64 k,.str t,.int .i64 m,.int .i64 a0]),.d (.int .i64 n)] ob K:=by
 have hxy:(y==x)=false:=by rw[Ucg]; intro e; subst e; rw[hx]at hy; cases hy
 have hyx:(x==y)=false:=by rw[Ucg]; intro e; subst e; rw[hx]at hy; cases hy
 refine Xn hP mixed Yqn Yws TOk.nil ?_;intro _ hm;have hw:IntKind.i64.wrap ((i:Int)+n)=(i:Int)+n:=IntWalk.i64_in _ (by omega);simp[Ytm,hx,hy,hxy,hyx,hw];refine⟨by omega,?_⟩;refine⟨[],by simp,?_,?_⟩
 ·simp;exact Xl _ _ _ _ _ (Yq _ _ _ _ _ _ (hm _)) (by simp[hy])
 ·simpa using h
abbrev Xfv (ob:Xb)(x y:Nat)(s:List UInt8)(ts:List D)(k:Int)(t:List UInt8)(m:Int)(i n:Nat):Xb:=
 setO (setO ob y (.arr 153 4 (ts++[.agg [.int .i64 k,.str t,.int .i64 m,.int .i64 i]]))) x (.box 228 (scV s ((i+n:Nat):Int) y (ts.length+1)))
theorem Xf6:Xm P.p 219=true/\Xm P.p 221=true/\Xm P.p 223=true:=by
 rw[hP]; exact⟨by kernel_rfl,by kernel_rfl,by kernel_rfl⟩
section
variable (s:List UInt8) (i:Nat) (ts:List D) (hs:s.length<=65536) (hi:i<s.length) (hts:ts.length<=1000000) {ob:Xb} {x y:Nat} (hx:Xc ob x=some (.box 228 (scV s i y ts.length))) (hy:Xc ob y=some (.arr 153 4 ts)) {K:Out->Xb->Prop}
include hs hi hts hx hy
omit hs hi hts hy in
theorem X9m (h:K (.panic (.d (.iface 222 (.int .i64 i)))) ob):ACall P 128 [.ptr x []] ob K:=by
 refine Xn hP mixed Yp7 Ywc TOk.nil ?_;intro _ hm;simp[Yta,hx];refine⟨[],by simp,?_,?_⟩
 ·simp[hm]
 ·simpa using h
omit hts in
theorem X9q (h:K (.ret (.tup [])) (setO ob x (.box 228 (scV s ((i+1:Nat):Int) y ts.length)))):ACall P 129 [.ptr x []] ob K:=by
 refine Xn hP mixed Yp8 Ywd TOk.nil ?_;intro _ hm;have hw:=Xlc hi (by omega);simp[Ytb,hx,hw];refine⟨[],by simp,?_,?_⟩
 ·simp;exact Xl _ _ _ _ _ (hm _) (by simp[hy])
 ·simpa using h
theorem Ygx (h1:32<tw Ve s i->K (.panic (.d (.iface 222 (.int .i64 i)))) ob)(h2:tw Ve s i<=32->K (.ret (.tup [])) (Xfv ob x y s ts 1 ((s.drop i).takeWhile Ve) 0 i (tw Ve s i))):ACall P 130 [.ptr x []] ob K:=by
 refine Xn hP mixed Yp9 Ywe TOk.nil ?_;intro _ hm;have hle:=Xs5 Ve s i (by omega);simp[Ytc,hx];refine PCall.borrow (n:=5) (ds:=[.ref (scD s i ts),.fn 219 [] [.ref (.ref (scD s i ts))]]) (by simp[hx,hy]) ?_;refine X9n hP s i (by omega) (by omega) ts _ [] _ Ve (Xf6 hP).1 (fun c K h=>by simpa using X9l hP c s i ts h) ?_;simp;have hl:((s.drop i).takeWhile Ve).length=tw Ve s i:=rfl;simp[hl,hx];refine⟨fun h3=>?_,fun h3=>?_⟩
 ·refine⟨[],by simp,?_,?_⟩
  ·simp[hm]
  ·simpa using h1 (by omega)
 ·simp[X1c,hl,hx];refine X9g hP (y:=y) s i _ 1 0 0 _ ts (by omega) hts (by simp[hx]) (by simp[hy]) ?_;simp[hx,hy];refine⟨[],by simp,?_,?_⟩
  ·simp;exact Xl _ _ _ _ _ (Yq _ _ _ _ _ _ (hm _)) (by simp[hy])
  ·simpa[Xfv]using h2 (by omega)
theorem Xu1 (hd:Ym (s[i]?.getD 0)=true)(h1:Xhp ((s.drop i).takeWhile Ym)=none->K (.panic (.d (.iface 222 (.int .i64 i)))) ob)
  (h2:∀m,Xhp ((s.drop i).takeWhile Ym)=some m->K (.ret (.tup [])) (Xfv ob x y s ts 2 [] m i (tw Ym s i))):ACall P 131 [.ptr x []] ob K:=by
 refine Xn hP mixed Yqa Ywf TOk.nil ?_;intro _ hm;have hle:=Xs5 Ym s i (by omega);simp[Ytd,hx];refine PCall.borrow (n:=5) (ds:=[.ref (scD s i ts),.fn 221 [] [.ref (.ref (scD s i ts))]]) (by simp[hx,hy]) ?_;refine X9n hP s i (by omega) (by omega) ts _ [] _ Ym (Xf6 hP).2.1 (fun c K h=>by simpa using Xu0 hP c s i ts h) ?_;have hl:((s.drop i).takeWhile Ym).length=tw Ym s i:=rfl;have hdg:∀k,k<tw Ym s i->Xcu (((s.drop i).takeWhile Ym)[k]?.getD 0).toNat=true:=fun k hk=>by
  have:((s.drop i).takeWhile Ym)[k]∈(s.drop i).takeWhile Ym:=Uba hk;rw[Ubf hk];exact X63 this
 have hne:0<tw Ym s i:=by have:=X0s hi hd; omega
 generalize ht:(s.drop i).takeWhile Ym=t at *;rw[<-hl]at hdg hne;simp;refine ALoop.go (ι:=Nat×Int) (fun k=>[(1,.ptr (Xa ob) []),(2,.d (.str t)),(3,.d (.int .i64 k.2)),(9,.d (.int .i64 t.length)),(10,.d (.int .i64 k.1))]) (fun _=>(Xa ob,.box 224 (.ptr x []))::ob)
  (fun k=>k.1<=t.length/\0<=k.2/\k.2<=1099511627776/\Xho 0 t=Xho k.2 (t.drop k.1)/\(2<=k.1->t.headD 0 ≠ 48)) (fun k=>t.length-k.1) (0,0) ⟨by simp,by simp,by simp,by simp,by simp⟩ rfl rfl ?_
 rintro⟨k,n⟩ ⟨hk,k1,k2,k3,k4⟩ R rn re _ rp;simp only at hk k1 k2 k3 k4;simp[X1d];by_cases hlt:k<t.length
 ·have hc:=hdg k hlt;rw[Xsl hlt]at k3;generalize hcc:t[k]?.getD 0=c at *;have hcc':t[k]=c:=by rw[<-hcc]; simp[hlt]
  simp[Xcu]at hc;have hcl:=c.toNat_lt;have hw:IntKind.i64.wrap (IntKind.i64.wrap (10*n)+IntKind.i64.wrap (IntKind.u8.wrap (c.toNat-48)))=10*n+(c.toNat-48):=by
   rw[IntWalk.u8_in _ (by omega),IntWalk.i64_in (10*n) (by omega),IntWalk.i64_in (_-48) (by omega),IntWalk.i64_in _ (by omega)]
  have hwk:=Xlc hlt (by omega);have hpan:Xhp t=none->R (AExit.panic (V.d (D.iface 222 (D.int IntKind.i64 i)))) [] ((Xa ob,.box 224 (.ptr x []))::ob):=fun hno=>by
   refine rp _ _ _ ?_;simp;refine⟨[],by simp,?_,?_⟩
   ·simp[hm]
   ·simpa using h1 hno
  have h0:(t[0]?.getD 0)=t.headD 0:=by cases t<;>rfl
  have hlead:0<k->t[0]?.getD 0=48->Xhp t=none:=fun k0 e=>by
   rw[h0]at e;unfold Xhp;cases Xho 0 t with
   | none=>rfl
   | some m=>simp only; rw[Ubo]; simp only[not_or,Classical.not_not]; exact⟨by omega,e⟩
  simp[hlt,hcc',hw,hwk,hx];refine⟨⟨fun _ _=>hne,fun e=>hpan ?_,fun e1 e2=>?_⟩,fun e=>absurd e (by omega)⟩
  ·rcases e with e | ⟨e1,e2⟩
   ·rw[Uby e]at k3;simp[Xhp,k3]
   ·refine hlead e1 ?_;have e3:(t[0]?.getD 0).toNat=48:=by omega
    generalize t[0]?.getD 0=z at e3;rw[<-UInt8.ofNat_toNat (x:=z),e3]; rfl
  ·rw[Ubo (by omega)]at k3;simp[X1e,hwk];refine rn [] (k+1,10*n+(c.toNat-48)) _ _ ⟨?_,?_,?_,?_,?_⟩ ?_ ?_ ?_ ?_ ?_
   ·simp only; omega
   ·simp only; omega
   ·exact e1
   ·exact k3
   ·intro h2k e3;have hk0:0<k:=by simp only at h2k; omega
    refine e2 hk0 ?_;rw[h0,e3]; rfl
   ·simp only; omega
   ·simp
   ·simp
   ·simp[Xe]
   ·simp[Xp _ hm,hx]
 ·have hk':k=t.length:=by omega
  subst hk';simp;refine re _ _ _ ?_;simp[hx];refine X9g hP (y:=y) s i _ 2 n 0 _ ts (by omega) hts (by simp[hx]) (by simp[hy]) ?_;simp[hx,hy];refine⟨[],by simp,?_,?_⟩
  ·simp;exact Xl _ _ _ _ _ (Yq _ _ _ _ _ _ (hm _)) (by simp[hy])
  ·have hn:Xhp t=some n:=by
    simp[Xho]at k3;simp only[Xhp,k3];rw[Uby];by_cases h2:2<=t.length
    ·exact .inr (k4 h2)
    ·exact .inl (by omega)
   simpa[Xfv,hl]using h2 n hn
theorem X9p (hsg:Yfn (s[i]?.getD 0)=true)(h1:s[i]?.getD 0=47/\(s.drop (i+1)).head? = some 47->K (.ret (.tup [])) (setO ob x (.box 228 (scV s ((i+tw Qy s i:Nat):Int) y ts.length))))
  (h2:¬(s[i]?.getD 0=47/\(s.drop (i+1)).head? = some 47)->K (.ret (.tup [])) (Xfv ob x y s ts 3 [s[i]?.getD 0] 0 i 1)):ACall P 132 [.ptr x []] ob K:=by
 refine Xn hP mixed Yqb Ywg TOk.nil ?_;intro _ hm;have hw:=Xlc hi (by omega);have hle:=Xs5 Qy s i (by omega);simp[Yte,hx,hw,show i<=s.length by omega];refine PCall.data (ds:=[.str (s.drop i),.str [47,47]]) rfl (X12 hP _ _ ?_);have hpre:([47,47]:List UInt8).isPrefixOf (s.drop i)=decide (s[i]?.getD 0=47/\(s.drop (i+1)).head? = some 47):=by
  rw[Ul hi];cases hd:s.drop (i+1) with
  | nil=>simp[List.isPrefixOf]
  | cons a r=>
   rw[Ucl];simp only[List.isPrefixOf,Uai,Ubn,Bool.and_true,Ubp,List.head?_cons,Uaq];exact⟨fun h=>⟨h.1.symm,h.2.symm⟩,fun h=>⟨h.1.symm,h.2.symm⟩⟩
 rw[hpre];simp[hx,hw];refine⟨fun e1 e2=>?_,fun e=>⟨by omega,?_⟩⟩
 ·refine PCall.borrow (n:=5) (ds:=[.ref (scD s i ts),.fn 223 [] []]) (by simp[hx,hy]) ?_;refine X9n hP s i (by omega) (by omega) ts _ [] [] Qy (Xf6 hP).2.2 (fun c K h=>by simpa using X9o hP c h) ?_;have hl:((s.drop i).takeWhile Qy).length=tw Qy s i:=rfl;have hw2:IntKind.i64.wrap ((i:Int)+tw Qy s i)=(i:Int)+tw Qy s i:=IntWalk.i64_in _ (by omega);simp[hl,hw2];refine⟨[],by simp,?_,?_⟩
  ·simp;exact Xl _ _ _ _ _ (hm _) (by simp[hy])
  ·have:=h1 ⟨e1,by rw[Xjr]; exact e2⟩;simpa using this
 ·have htx:(s.take (i+1)).drop i=[s[i]?.getD 0]:=by
   rw[Ubh,Nat.add_sub_cancel_left,Ul hi]; rfl
  rw[htx];refine X9g hP (y:=y) s i 1 3 0 0 _ ts (by omega) hts hx hy ?_;simp;refine⟨[],by simp,?_,?_⟩
  ·simp;exact Xl _ _ _ _ _ (Yq _ _ _ _ _ _ (hm _)) (by simp[hy])
  ·have:=h2 (fun e1=>e e1.1 (by rw[<-Xjr]; exact e1.2));simpa[Xfv]using this
end
end
end Go.Proofs.YtolkimpelpnpbaaGreatDoor
namespace Go.Proofs.YtolkimpelpnpbaaGreatDoor
open Go Go.Ab Go.Lx
section
variable {P:Prg} (hP:P.p=Tryz.prog)
include hP
theorem Ygy {ob:Xb}{a b c:Nat}{K:Xb->Prop}(h:K ob):DCall P 126 [.ptr a [],.ptr b [],.ptr c []] ob none K:=by
 refine DCall.of_wf fun _ hm=>?_;refine Xes hP mixed Yfd Ym1 Ymx TOk.nil ?_;simp[Xmo,Xmn,Ygh];refine⟨[],by simp,?_,?_⟩
 ·simp[hm]
 ·simpa using h
theorem Ygz {ob:Xb}{a b c:Nat}{i:Int}{K:Xb->Prop}{va vb vc:V}{Ea Eb Ec:Nat}(ha:Xc ob a=some (.box Ea va))(hb:Xc ob b=some (.box Eb vb))(hc:Xc ob c=some (.box Ec vc))(sa:va.shape=.leaf)(sb:vb.shape=.leaf)(sc:vc.shape=.leaf)
  (hab:(a==b)=false) (hac:(a==c)=false) (hbc:(b==c)=false) (h:K (setO (setO (setO ob a (.box Ea (.d .nils))) b (.box Eb (.d (.int .i64 i)))) c (.box Ec (.d (.int .i64 90))))):DCall P 126 [.ptr a [],.ptr b [],.ptr c []] ob (some (.d (.iface 222 (.int .i64 i)))) K:=by
 refine DCall.of_wf fun _ hm=>?_;refine Xes hP mixed Yfd Ym1 Ymx TOk.nil ?_;simp[Xmo,Xmn,Ygh,X1b,ha,hb,hc,hab,hac,hbc,sa,sb,sc];refine⟨[],by simp,?_,?_⟩
 ·rw[Je (by simp)];exact Xl _ _ _ _ _ (Xl _ _ _ _ _ (Xl _ _ _ _ _ (hm _) (by simp)) (by simp)) (by simp)
 ·rw[Je (by simp)];exact h
theorem X18:Xm P.p 126=true/\Xm P.p 128=true/\Xm P.p 129=true/\Xm P.p 130=true/\Xm P.p 131=true/\Xm P.p 132=true:=by
 rw[hP]; exact⟨by kernel_rfl,by kernel_rfl,by kernel_rfl,by kernel_rfl,by kernel_rfl,by kernel_rfl⟩
omit hP in
theorem X0q (f g:Nat->Int):(Qg f).shape=(Qg g).shape:=by
 simp only[Qg,Xh3,D.shape,D.shapes_eq,List.map_map,Function.comp_def]
theorem Yt8 (s:List UInt8){ob:Xb}{K:V->Prop}(h:K (Ymv s)):PCall P 74 [.d (.str s)] ob K:=by
 refine Xbs hP mixed (ds:=[.str s]) Y69 Za6 TOk.nil ?_;obtain⟨d0,d1,d2,d3,d4,d5⟩:=X18 hP;simp only[Y5f,Xlh,X8y];simp[d0];refine⟨fun hl=>?_,fun hl=>?_⟩
 ·simpa[Ymv,show 65536<s.length by omega]using h
 ·have hl':¬65536<s.length:=by omega
  simp only[Ymv,gt_iff_lt,hl',Uay]at h;refine Xrq hP ?_;simp[Y2m];refine⟨X0q _ _,?_⟩;refine ALoop.go (ι:=Nat×List Tok) (fun _=>[(0,.d (.str s)),(2,.ptr 0 []),(3,.ptr 1 []),(4,.ptr 2 []),(5,.ptr 3 []),(6,.ptr 5 [])])
   (fun k=>[(5,.box 229 (.agg [.fn 128 [.ptr 3 []] [],.fn 129 [.ptr 3 []] [],.fn 130 [.ptr 3 []] [],.fn 131 [.ptr 3 []] [],.fn 132 [.ptr 3 []] []])),
    (4,.arr 153 4 (k.2.map Tok.enc)),(3,.box 228 (scV s k.1 4 k.2.length)),(2,.box 46 (.d (.int .i64 0))),(1,.box 3 (.d (.int .i64 0))),(0,.box 141 (.d .nils))])
   (fun k=>k.1<=s.length/\k.2.length<=k.1/\Xid s 0=X0z k.2 (Xid (s.drop k.1) k.1)) (fun k=>s.length-k.1) (0,[]) ⟨by simp,by simp,by simp[X1u]⟩ rfl (by simp) ?_
  rintro⟨i,out⟩ ⟨hi,ho,he⟩ R rn re _ rp;simp only at hi ho he;have nx:∀j out' ob',j<=s.length->out'.length<=j->Xid s 0=X0z out' (Xid (s.drop j) j)->i<j->ob'=[(5,.box 229 (.agg [.fn 128 [.ptr 3 []] [],.fn 129 [.ptr 3 []] [],.fn 130 [.ptr 3 []] [],.fn 131 [.ptr 3 []] [],.fn 132 [.ptr 3 []] []])),
    (4,.arr 153 4 (out'.map Tok.enc)),(3,.box 228 (scV s j 4 out'.length)),(2,.box 46 (.d (.int .i64 0))),(1,.box 3 (.d (.int .i64 0))),(0,.box 141 (.d .nils))]->R .normal [(0,.d (.str s)),(2,.ptr 0 []),(3,.ptr 1 []),(4,.ptr 2 []),(5,.ptr 3 []),(6,.ptr 5 [])] ob':=fun j out' ob' h1 h2 h3 h4 h6=>
   rn [] (j,out') _ _ ⟨h1,h2,h3⟩ (by simp only; omega) rfl (by rw[h6]; simp[Xe]) (by simp[Xe]) (by simp[Xe])
  clear rn;by_cases hlt:i<s.length
  ·rw[Ycj hlt]at he;generalize hc:s[i]?.getD 0=c at *;have hc':s[i]=c:=by rw[<-hc]; simp[hlt]
   have hcl:=c.toNat_lt;have hout:(out.map Tok.enc).length<=1000000:=by simp; omega
   have pan:Xid s 0=.err i->R (.panic (.d (.iface 222 (.int .i64 i)))) [(2,.ptr 0 []),(3,.ptr 1 []),(4,.ptr 2 [])] [(5,.box 229 (.agg [.fn 128 [.ptr 3 []] [],.fn 129 [.ptr 3 []] [],.fn 130 [.ptr 3 []] [],.fn 131 [.ptr 3 []] [],.fn 132 [.ptr 3 []] []])),
    (4,.arr 153 4 (out.map Tok.enc)),(3,.box 228 (scV s i 4 out.length)),(2,.box 46 (.d (.int .i64 0))),(1,.box 3 (.d (.int .i64 0))),(0,.box 141 (.d .nils))]:=fun hr=>by
    refine rp _ _ _ ?_;simp;refine Ygz hP (Ea:=141) (Eb:=3) (Ec:=46) (va:=.d .nils) (vb:=.d (.int .i64 0)) (vc:=.d (.int .i64 0)) (by simp) (by simp) (by simp) (by simp) (by simp) (by simp) rfl rfl rfl ?_;simp;rw[hr]at h;exact h
   have hx:∀(o5:Ob),Xc [(5,o5),(4,Ob.arr 153 4 (out.map Tok.enc)),(3,Ob.box 228 (scV s i 4 (out.map Tok.enc).length)),(2,.box 46 (.d (.int .i64 0))),(1,.box 3 (.d (.int .i64 0))),(0,.box 141 (.d .nils))] 3=some (.box 228 (scV s i 4 (out.map Tok.enc).length)):=fun _=>by simp
   have hcr:=Xvd c.toNat hcl;have cls:∀m:Nat,Xic c.toNat=m->(Xic c.toNat).toNat=m:=fun m e=>by omega
   have g1:=Xve c.toNat hcl;have g2:=Xer c.toNat hcl;have g3:=Xcs c.toNat hcl;have g4:=X2a c.toNat hcl;have e47:Xic c.toNat ≠ 4->¬(c=47/\(s.drop (i+1)).head? = some 47):=fun hne h=>by
    obtain⟨rfl,_⟩:=h; exact hne (by decide +kernel)
   have key:∀m:Int,Xic c.toNat=m->(Xq7 c=decide (m=1))/\(Xda c=decide (m=2))/\(Ym c=decide (m=3))/\(Yfn c=decide (m=4)):=fun m e=>by
    rw[e]at g1 g2 g3 g4;refine⟨?_,?_,?_,?_⟩<;>rw[Ucl,Ubp]
    ·exact g1.symm
    ·exact g2.symm
    ·exact g3.symm
    ·exact g4.symm
   have htwt:∀p:UInt8->Bool,p c=true->tw p s i=((s.drop (i+1)).takeWhile p).length+1/\(s.drop i).takeWhile p=c::(s.drop (i+1)).takeWhile p:=fun p hp=>by
    refine⟨(Yfu p hlt (by rw[hc]; exact hp)).2,?_⟩;rw[Ul hlt,hc,Ucz,Uby hp]
   rcases (by omega:Xic c.toNat=0\/Xic c.toNat=1\/Xic c.toNat=2\/Xic c.toNat=3\/Xic c.toNat=4) with e | e | e | e | e
   ·obtain⟨k1,k2,k3,k4⟩:=key 0 e;simp only[stp,k1,k2,k3,k4,e47 (by rw[e]; decide),Uay,X0z]at he;simp[Xae,hlt,hc',hcl,show (c.toNat:Int)<256 by omega,e,d1];refine X9m hP s i (out.map Tok.enc) (y:=4) (by simp) ?_;simp;exact pan (by simpa using he)
   ·obtain⟨k1,k2,k3,k4⟩:=key 1 e;simp[stp,k1]at he;simp[Xae,hlt,hc',hcl,show (c.toNat:Int)<256 by omega,e,d2];refine X9q hP s i (out.map Tok.enc) (by omega) hlt (y:=4) (by simp) (by simp) ?_;simp;refine nx (i+1) out _ (by omega) (by omega) he (by omega) (by simp)
   ·obtain⟨k1,k2,k3,k4⟩:=key 2 e;have hp:Ve c=true:=by
     have:Vc c.toNat=true:=by simpa[Xda]using k2
     simp[Ve,Xn2,this]
    obtain⟨t1,t2⟩:=htwt Ve hp;have hle:=Xs5 Ve s i (by omega);have k1:Xq7 c=false:=by simpa using k1
    have k2:Xda c=true:=by simpa using k2
    simp only[stp,k1,k2,e47 (by rw[e]; decide),Uah,Uay,Ubb]at he;simp[Xae,hlt,hc',hcl,show (c.toNat:Int)<256 by omega,e,d3];refine Ygx hP s i (out.map Tok.enc) (by omega) hlt hout (y:=4) (by simp) (by simp) (fun h5=>?_) (fun h5=>?_)
    ·simp;rw[Ubo (by omega)]at he;exact pan (by simpa[X0z]using he)
    ·simp[Xfv];rw[Uby (by omega)]at he;simp only[Xfx]at he;have hjj:i+((s.drop (i+1)).takeWhile Ve).length+1=i+tw Ve s i:=by omega
     rw[hjj]at he;refine nx (i+tw Ve s i) (out++[⟨1,c::(s.drop (i+1)).takeWhile Ve,0,i⟩]) _ (by omega) (by simp; omega) he (by omega) ?_;simp[Tok.enc,t2]
   ·obtain⟨k1,k2,k3,k4⟩:=key 3 e;have hp:Ym c=true:=by simpa using k3
    obtain⟨t1,t2⟩:=htwt Ym hp;have hle:=Xs5 Ym s i (by omega);have k1:Xq7 c=false:=by simpa using k1
    have k2:Xda c=false:=by simpa using k2
    simp only[stp,k1,k2,hp,e47 (by rw[e]; decide),Uah,Uay,Ubb]at he;simp[Xae,hlt,hc',hcl,show (c.toNat:Int)<256 by omega,e,d4];refine Xu1 hP s i (out.map Tok.enc) (by omega) hlt hout (y:=4) (by simp) (by simp) (by rw[hc]; exact hp) (fun h5=>?_) (fun m h5=>?_)
    ·simp;rw[t2]at h5;rw[h5]at he;exact pan (by simpa[X0z]using he)
    ·simp[Xfv];rw[t2]at h5;rw[h5]at he;simp only[Xfx]at he;have hjj:i+((s.drop (i+1)).takeWhile Ym).length+1=i+tw Ym s i:=by omega
     rw[hjj]at he;refine nx (i+tw Ym s i) (out++[⟨2,[],m,i⟩]) _ (by omega) (by simp; omega) he (by omega) ?_;simp[Tok.enc]
   ·obtain⟨k1,k2,k3,k4⟩:=key 4 e;simp[Xae,hlt,hc',hcl,show (c.toNat:Int)<256 by omega,e,d5];refine X9p hP s i (out.map Tok.enc) (by omega) hlt hout (y:=4) (by simp) (by simp) (by rw[hc]; simpa using k4) (fun h5=>?_) (fun h5=>?_)
    ·rw[hc]at h5;obtain⟨rfl,h6⟩:=h5;obtain⟨t1,t2⟩:=htwt Qy rfl;have hle:=Xs5 Qy s i (by omega);simp only[stp,k1,h6,and_self,Ubb,Ubp,show ¬((4:Int)=1) by decide,Uay]at he;simp;have hjj:i+((s.drop (i+1)).takeWhile Qy).length+1=i+tw Qy s i:=by omega
     rw[hjj]at he;refine nx (i+tw Qy s i) out _ (by omega) (by omega) he (by omega) ?_;simp
    ·rw[hc]at h5;simp only[stp,k1,k2,k3,k4,h5,Uay,Ubp,show ¬((4:Int)=1) by decide,show ¬((4:Int)=2) by decide,show ¬((4:Int)=3) by decide,Ubb,Xfx]at he;simp[Xfv];refine nx (i+1) (out++[⟨3,[c],0,i⟩]) _ (by omega) (by simp; omega) he (by omega) ?_;simp[Tok.enc,hc]
  ·have hi':i=s.length:=by omega
   subst hi';simp[Xae];refine re _ _ _ ?_;simp;refine Ygy hP ?_;simp;rw[X41 (Uak _)]at he;rw[he]at h;simpa[X0z,Y11,Yfs]using h
end
end Go.Proofs.YtolkimpelpnpbaaGreatDoor
namespace Go.Ab
open Go
def S.rgs:S->List (Nat×List Nat×S×S)
 | .seq a b=>a.rgs++b.rgs
 | .cond _ a b=>a.rgs++b.rgs
 | .block _ a=>a.rgs
 | .loop _ a=>a.rgs
 | .rgf tag ps _ x y _=>[(tag,ps,x,y)]
 | _=>[]
theorem S.loops_rgs {P:Prg}:∀s:S,(∀t∈s.rgs,W5 P t.1 t.2.1 t.2.2.1 t.2.2.2)->s.loops P
 | .seq a b,h=>⟨S.loops_rgs a fun t ht=>h t (List.mem_append_left _ ht),S.loops_rgs b fun t ht=>h t (List.mem_append_right _ ht)⟩
 | .cond _ a b,h=>⟨S.loops_rgs a fun t ht=>h t (List.mem_append_left _ ht),S.loops_rgs b fun t ht=>h t (List.mem_append_right _ ht)⟩
 | .block _ a,h=>S.loops_rgs a h
 | .loop _ a,h=>S.loops_rgs a h
 | .rgf tag ps _ x y _,h=>h (tag,ps,x,y) (Uci.2 rfl)
 | .rg _ _ _ _,_ | .rgT _ _ _ _,_ | .skip,_ | .exit _,_ | .ret,_=>trivial
theorem Xj8 {p:Nat->FI->Bool}:∀{F:FT} {f:Nat} {x:FI},F.all (fun e=>p e.1 e.2)=true->Q0 F f=some x->p f x=true
 | [],_,_,_,h=>by cases h
 | (j,y)::r,f,x,ha,h=>by
  simp only[List.all_cons,Uai]at ha;simp only[Q0,Ucv]at h;split at h
  ·rename_i e;cases h;have:=Uaj e;subst this;exact ha.1
  ·exact Xj8 ha.2 h
end Go.Ab
namespace Go.Py
open Go Go.Ab Go.Lx
theorem X5f:∀{n:Nat} {sn:List Nat},n<=3->sn.Perm (List.range n)->sn∈Yff n
 | 0,sn,_,h=>by
  have:sn=[]:=by simpa using h.length_eq
  simp[Yff,this]
 | 1,sn,_,h=>by
  have:sn=[0]:=by simpa[List.range,List.range.loop]using h
  simp[Yff,this]
 | 2,sn,_,h=>by
  have hl:=h.length_eq;have hn:=h.nodup_iff.2 List.nodup_range;have hm:∀x∈sn,x<2:=fun x hx=>by simpa using (h.mem_iff.1 hx)
  match sn,hl with
  | [a,b],_=>
   have ha:=hm a (by simp); have hb:=hm b (by simp);have:a ≠ b:=by simpa using hn
   have:a=0/\b=1\/a=1/\b=0:=by omega
   rcases this with⟨rfl,rfl⟩ | ⟨rfl,rfl⟩<;>simp[Yff]
 | 3,sn,_,h=>by
  have hl:=h.length_eq;have hn:=h.nodup_iff.2 List.nodup_range;have hm:∀x∈sn,x<3:=fun x hx=>by simpa using (h.mem_iff.1 hx)
  match sn,hl with
  | [a,b,c],_=>
   have ha:=hm a (by simp); have hb:=hm b (by simp); have hc:=hm c (by simp);have h1:(a ≠ b/\a ≠ c)/\b ≠ c:=by simpa using hn
   obtain⟨⟨h1,h2⟩,h3⟩:=h1;have:a=0/\b=1/\c=2\/a=0/\b=2/\c=1\/a=1/\b=0/\c=2\/a=1/\b=2/\c=0\/a=2/\b=0/\c=1\/a=2/\b=1/\c=0:=by omega
   rcases this with⟨rfl,rfl,rfl⟩ | ⟨rfl,rfl,rfl⟩ | ⟨rfl,rfl,rfl⟩ | ⟨rfl,rfl,rfl⟩ | ⟨rfl,rfl,rfl⟩ | ⟨rfl,rfl,rfl⟩<;>simp[Yff]
 | n+4,_,h,_=>by omega
theorem X90 {e:D×V}{p:Int×Int}(h:Yuk e=some p):e=V8 p:=by
 unfold Yuk at h;split at h
 ·cases h; rfl
 ·cases h
theorem Xga:∀{es:List (D×V)} {l:List (Int×Int)},X2e es=some l->es=l.map V8
 | [],l,h=>by cases h; rfl
 | e::r,l,h=>by
  unfold X2e at h;split at h
  ·rename_i p l' h1 h2;cases h;rw[X90 h1,Xga h2]; rfl
  ·cases h
end Go.Py
namespace Go.Proofs.YtolkimpelpnpbaaGreatDoor
open Go Go.Ab Go.Lx Go.Py
structure IvlZ (P:Prg):Prop where
 factors:GlobIs P 0 (.agg [.int .i64 2,.int .i64 1000])
 editions:GlobIs P 1 (.agg [.int .i64 1,.int .i64 255])
 mosts:GlobIs P 2 (.agg [.int .i64 0,.int .i64 32])
 weights:GlobIs P 3 (.agg [.int .i64 0,.int .i64 9])
 anyN:GlobIs P 4 (.agg [.int .i64 0,.int .i64 1048576])
structure LoopZ (P:Prg):Prop where
 keys:Qs P
 change:W5 P 18 [34] ir18900 ir18901
 ints:W5 P 260 [7] ir260900 ir260901
section
variable {P:Prg} (hP:P.p=Tryz.prog) (hI:IvlZ P) (hL:LoopZ P)
include hP hI hL
theorem X8g (g:Nat)(x:D)(h:xgl g=some x):GlobIs P g x:=by
 simp only[xgl,Ucv]at h;split at h
 ·rename_i e; cases h; rw[Uaj e]; exact hI.factors
 split at h
 ·rename_i e; cases h; rw[Uaj e]; exact hI.editions
 split at h
 ·rename_i e; cases h; rw[Uaj e]; exact hI.mosts
 split at h
 ·rename_i e; cases h; rw[Uaj e]; exact hI.weights
 split at h
 ·rename_i e; cases h; rw[Uaj e]; exact hI.anyN
 ·cases h
theorem X8h:xz0.ok P:=⟨fun _ _ _ _ _ h=>(by cases h),fun _ _ _ _ h=>(by cases h),fun _ h=>(by cases h),X8g hP hI hL,fun _ _ _ _ _ h=>(by cases h),fun _ _ _ _ _ h=>(by cases h)⟩
theorem Xqh (tag:Nat)(ps:List Nat)(x y:S)(h:xlt tag=some (ps,x,y)):W5 P tag ps x y/\x.noR=true/\y.noR=true:=by
 simp only[xlt,Ucv]at h;split at h
 ·rename_i e; cases h; rw[Uaj e]; exact⟨hL.change,by kernel_rfl,by kernel_rfl⟩
 split at h
 ·rename_i e; cases h; rw[Uaj e]; exact⟨hL.ints,by kernel_rfl,by kernel_rfl⟩
 ·cases h
theorem Xcd:FT.lps P Wp:=by
 intro f x h;have h1:=Xj8 (p:=fun f x=>Nat.beq f 18||Nat.beq f 204||Nat.beq f 260||x.nr) (F:=Wp) (by kernel_rfl) h;simp only[Ucd]at h1;rcases h1 with ((e | e) | e) | e
 ·rw[Uaj e]at h;have h2:Q0 Wp 18=some (.br Yjc [.c 4 1 false,.c 5 1 false] 2):=by kernel_rfl
  rw[h2]at h; cases h;refine S.loops_rgs Yjc fun t ht=>?_;have h3:Yjc.rgs=[(18,[34],ir18900,ir18901)]:=by kernel_rfl
  rw[h3]at ht;rw[Uci.1 ht]; exact hL.change
 ·rw[Uaj e]at h;have h2:Q0 Wp 204=some (.pr Xsa [.t 4] 2):=by kernel_rfl
  rw[h2]at h; cases h;refine S.loops_rgs Xsa fun t ht=>?_;have h3:Xsa.rgs=[(204,[7],ir204900,ir204901)]:=by kernel_rfl
  rw[h3]at ht;rw[Uci.1 ht]; exact hL.keys
 ·rw[Uaj e]at h;have h2:Q0 Wp 260=some (.pr Xxe [.t 4] 2):=by kernel_rfl
  rw[h2]at h; cases h;refine S.loops_rgs Xxe fun t ht=>?_;have h3:Xxe.rgs=[(260,[7],ir260900,ir260901)]:=by kernel_rfl
  rw[h3]at ht;rw[Uci.1 ht]; exact hL.ints
 ·exact x.lps_nr e
theorem X5o {ob:Xb}{a:Nat}{fs:List (Int×Int)}{sn:List Nat}{s:List D}(h:Ygc ob a fs sn=some s):s.length=sn.length/\ACall P 108 [.sl a sn.length,.fn 54 [] []] ((a,.arr 76 2 (sn.map fun i=>fD (atF fs i)))::ob) fun o b=>o=.ret (.tup [])/\b=(a,.arr 76 2 s)::ob:=by
 have fo:=Xc6 (P:=P) (L:=100) (F:=Wp) (by rw[hP]; exact mixed) (by rw[hP]; exact Xh2) (Xcd hP hI hL) (X8h hP hI hL) (fun _ _ _ _ h=>by cases h) 12;unfold Ygc at h;generalize hq:(fns 100 Wp xz0 12).call 108 [.sl a sn.length,.fn 54 [] []] ((a,.arr 76 2 (sn.map fun i=>fD (atF fs i)))::ob)=q at h;unfold Y7i at h;split at h
 ·rw[Ucv]at h;split at h
  ·rename_i e;cases h;simp only[Uai]at e;obtain⟨⟨⟨e1,e2⟩,e3⟩,e4⟩:=e;have e1:=Uaj e1;have e3:=Uaj e3;have e4:=Qv _ _ e4;subst e1; subst e3; subst e4;exact⟨Uaj e2,fo.call _ _ _ _ _ hq⟩
  ·cases h
 ·cases h
theorem Xox {ob:Xb}{a:Nat}{fs:List (Int×Int)}{s:List D}:∀{l:List (List Nat)},Yr8 ob a fs s l=true->∀sn∈l,Ygc ob a fs sn=some s
 | [],_,sn,hm=>by cases hm
 | x::r,h,sn,hm=>by
  simp only[Yr8,Uai]at h;rcases Uax.1 hm with rfl | hm
  ·have h1:=h.1;split at h1
   ·rename_i l e;rw[e,D.eqbs_eq _ _ h1]
   ·cases h1
  ·exact Xox h.2 sn hm
theorem X1p {ob:Xb}{bx E m:Nat}{fs:List (Int×Int)}(hb:Xc ob bx=some (.box E (.mp m)))(hm:Xc ob m=some (.map (fs.map V8)))(hn:fs.length<=3){o:Out}{b:Xb}(hne:fs ≠ [])(h:X5t ob fs=some (o,b)):ACall P 52 [.fn 109 [] [.ptr bx []],.fn 54 [] []] ob fun o' b'=>o'=o/\b'=b:=by
 refine Xn hP mixed Ysq Yw9 TOk.nil fun _ hno=>?_;simp[Yt0];refine Xcf hP hL.keys hb hm (by omega) (fun e=>absurd (Ucs.1 e) hne) (fun sn hs hsn=>?_);have hmem:=X5f hn hs;unfold X5t at h;split at h
 ·rename_i s0 r e0;split at h
  ·rename_i s e1;rw[Ucv]at h;split at h
   ·rename_i e2;cases h;have hrun:Ygc ob (Xa ob+5) fs sn=some s:=by
     rw[e0]at hmem;rcases Uax.1 hmem with e | e
     ·rw[e]; exact e1
     ·exact Xox hP hI hL e2 sn e
    obtain⟨hlen,hcall⟩:=X5o hP hI hL hrun;simp[Xfs];refine hcall.mono fun o b ⟨h1,h2⟩=>?_;subst h1; subst h2;rw[<-hlen];simp[Xfr];refine⟨[],by simp,?_,?_⟩
    ·simp[Xe]; exact hno _
    ·simp[Xe]
   ·cases h
  ·cases h
 ·cases h
theorem Xuk {ob:Xb}{bx E m:Nat}(hb:Xc ob bx=some (.box E (.mp m)))(hm:Xc ob m=some (.map [])){o:Out}{b:Xb}(h:Yxu ob ((fns 100 Wp xz0 12).call 108 [.d .nils,.fn 54 [] []] ob)=some (o,b)):ACall P 52 [.fn 109 [] [.ptr bx []],.fn 54 [] []] ob fun o' b'=>o'=o/\b'=b:=by
 have fo:=Xc6 (P:=P) (L:=100) (F:=Wp) (by rw[hP]; exact mixed) (by rw[hP]; exact Xh2) (Xcd hP hI hL) (X8h hP hI hL) (fun _ _ _ _ h=>by cases h) 12;refine Xn hP mixed Ysq Yw9 TOk.nil fun _ hno=>?_;simp[Yt0];refine Xcf (fs:=[]) hP hL.keys hb hm (by simp) (fun _=>?_) (fun sn hs hsn=>absurd (by simpa using hs.length_eq) hsn);generalize hq:(fns 100 Wp xz0 12).call 108 [.d .nils,.fn 54 [] []] ob=q at h;unfold Yxu at h;split at h
 ·rw[Ucv]at h;split at h
  ·rename_i e;cases h;have e:=Qv _ _ e;subst e;simp[Xfs];refine (fo.call _ _ _ _ _ hq).mono fun o b ⟨h1,h2⟩=>?_;subst h1; subst h2;simp[Xfr];exact⟨[],by simp,by simpa using hno [],by simp⟩
  ·cases h
 ·cases h
theorem X55 (f:Nat)(vs:List V)(ob:Xb)(o:Out)(b:Xb)(h:xcall f vs ob=some (o,b)):ACall P f vs ob fun o' b'=>o'=o/\b'=b:=by
 unfold xcall at h;rw[Ucv]at h;split at h
 ·rename_i ef;rw[Uaj ef];split at h
  ·rename_i g bx hh;rw[Ucv]at h;split at h
   ·rename_i e;simp only[Uai]at e;rw[Uaj e.1,Uaj e.2];generalize hb:Xc ob bx=ox at h;unfold Yrm at h;split at h
    ·rename_i E m;generalize hm:Xc ob m=om at h;unfold Yrl at h;split at h
     ·rename_i es;split at h
      ·rename_i hd;rw[Xga hd]at hm;exact Xuk hP hI hL hb hm h
      ·rename_i fs hne hd;rw[Xga hd]at hm;have hn:fs.length<=3:=by
        rcases Uaa 3 fs.length with h4 | h4
        ·exfalso;unfold X5t at h;have:Yff fs.length=[]:=by
          match hk:fs.length,h4 with
          | k+4,_=>rfl
         rw[this]at h;cases h
        ·exact h4
       exact X1p hP hI hL hb hm hn (fun e=>hne e) h
      ·cases h
     ·cases h
    ·cases h
   ·cases h
  ·cases h
 ·cases h
theorem Y16:xz.ok P:=by
 refine⟨X55 hP hI hL,fun f vs ob v h=>?_,fun f h=>?_,X8g hP hI hL,fun _ _ _ _ _ h=>(by cases h),fun f vs ob v b h=>?_⟩
 ·simp only[xz]at h;unfold xpc at h;split at h
  ·rename_i s;rw[Ucv]at h;split at h
   ·rename_i e;cases h;rw[Uaj e,X42];exact Yt8 hP s rfl
   ·cases h
  ·cases h
 ·simp only[xz]at h;rw[Uaj h];exact Xu2 hP
 ·simp only[xz]at h;unfold xxc at h;split at h
  ·exact Xi2 hP Xo7 Xvc h
  ·cases h
end
end Go.Proofs.YtolkimpelpnpbaaGreatDoor
namespace Go.Py
open Go Go.Ab Go.Lx
structure Ent where
 f:Nat
 xs:List D
 v:V
def Ysi (f:Nat)(ds:List D):List Ent->Option V
 | []=>none
 | e::r=>bif Nat.beq f e.f&&D.eqbs ds e.xs then some e.v else Ysi f ds r
def Yf2 (f:Nat)(l:List Ent):Option (List D)->Option V
 | some ds=>Ysi f ds l
 | none=>none
end Go.Py
namespace Go.Proofs.YtolkimpelpnpbaaGreatDoor
open Go Go.Ab Go.Lx Go.Py
def pcE (l:List Ent)(f:Nat)(vs:List V):Option V:=match Yf2 f l (V.allD vs) with
 | some v=>some v
 | none=>xpc f vs
def xzE (l:List Ent):Fns:=⟨xcall,fun f vs _=>pcE l f vs,fun f=>Nat.beq f 109,xgl,fun _ _ _=>none,xlt,xxc⟩
section
variable {P:Prg} (hP:P.p=Tryz.prog) (hI:IvlZ P) (hL:LoopZ P)
include hP hI hL
theorem Yfx:(xzE []).ok P:=by
 have h:=Y16 hP hI hL;refine⟨h.call,fun f vs ob v hv=>?_,h.ca,h.gl,h.yd,h.xc⟩;refine h.pc f vs ob v ?_;simp only[xzE,pcE]at hv;cases hd:V.allD vs with
 | none=>rw[hd]at hv; exact hv
 | some ds=>rw[hd]at hv; exact hv
theorem Xw {l:List Ent}{e:Ent}(h:(xzE l).ok P)(he:∀ob,(fns 3000 Wp (xzE l) 40).pc e.f (e.xs.map .d) ob=some e.v):(xzE (e::l)).ok P:=by
 have fo:=Xc6 (P:=P) (L:=3000) (F:=Wp) (by rw[hP]; exact mixed) (by rw[hP]; exact Xh2) (Xcd hP hI hL) h (Xqh hP hI hL) 40;refine⟨h.call,fun f vs ob v hv=>?_,h.ca,h.gl,h.yd,h.xc⟩;have old:(pcE l f vs=some v)->PCall P f vs ob fun v'=>v'=v:=fun hv=>h.pc f vs ob v hv;simp only[xzE]at hv;unfold pcE at hv;split at hv
 ·rename_i u hu;cases hv;cases hd:V.allD vs with
  | none=>rw[hd]at hu; cases hu
  | some ds=>
   rw[hd]at hu;simp only[Yf2,Ysi,Ucv]at hu;split at hu
   ·rename_i hc;cases hu;simp only[Uai]at hc;rw[V.allD_map hd,Uaj hc.1,D.eqbs_eq _ _ hc.2];exact fo.pc _ _ ob _ (he ob)
   ·refine old ?_;unfold pcE;rw[hd];simp only[Yf2,hu]
 ·rename_i hu;refine old ?_;unfold pcE;cases hd:V.allD vs with
  | none=>simp only[Yf2]; exact hv
  | some ds=>
   rw[hd]at hu;simp only[Yf2,Ysi,Ucv]at hu;split at hu
   ·cases hu
   ·simp only[Yf2,hu]; exact hv
end
end Go.Proofs.YtolkimpelpnpbaaGreatDoor
