/- Texts of this claim joined by a program, part 9 of 16; the last is: Calls that are computed once, and what the evaluator makes of them. Over the seat's program; no condition. -/
import Derived.Test.YtolkimpelpnpbaaGreatDoorR5
import Derived.Test.YtolkimpelpnpbaaGreatDoorR6
import Derived.Test.YtolkimpelpnpbaaGreatDoorR7
import Derived.Test.YtolkimpelpnpbaaGreatDoorR8
import Derived.Test.YtolkimpelpnpbaaGreatDoorProg
import Derived.KernelRfl
set_option maxRecDepth 100000
set_option linter.unusedSimpArgs false
set_option linter.unusedVariables false
set_option linter.unusedSectionVars false
set_option linter.defProp false
namespace Go.Ab
open Go

inductive Rr where
 | ok (v:V) (ob:Xb)
 | pn (v:V) (ob:Xb)
 | no

def Jp:List D->Option (List UInt8)
 | []=>some []
 | .int .u8 n::r=>bif decide (0<=n)&&decide (n<256) then (Jp r).map fun s=>UInt8.ofNat n.toNat::s else none
 | _=>none
theorem Jq:∀{l:List D} {s:List UInt8},Jp l=some s->l=Yh s
 | [],s,h=>by simp only[Jp,Option.some.injEq]at h; subst h; rfl
 | x::r,s,h=>by
  unfold Jp at h
  split at h
  ·rename_i e; cases e
  ·rename_i n r' e
   cases e
   rw[Bool.cond_eq_ite]at h
   split at h
   ·rename_i hc
    simp only[Bool.and_eq_true,decide_eq_true_eq]at hc
    rw[Option.map_eq_some_iff]at h
    obtain⟨t,h1,rfl⟩:=h
    rw[Jq h1]
    have:((UInt8.ofNat n.toNat).toNat:Int)=n:=by rw[UInt8.toNat_ofNat']; omega
    simp only[Yh,this]
   ·cases h
  ·cases h

def Y19 (ob:Xb)(id:Nat)(p:List Nat)(n E:Nat)(v t:V):Option V->Rr
 | some old=>bif Sh.beq v.shape old.shape&&decide (old.size=n)&&v.sto then (match t.set p v with | some t'=>.ok .undef (setO ob id (.box E t')) | none=>.no) else .no
 | none=>.no
def Y18 (ob:Xb)(id:Nat)(p:List Nat)(n:Nat)(v:V):Option Ob->Rr
 | some (.box E t)=>Y19 ob id p n E v t (t.at p)
 | _=>.no
def Yno (ob:Xb)(id i n:Nat)(o:Ob)(v v0:V)(p:List Nat):Option V->Rr
 | some old=>bif Sh.beq v.shape old.shape&&decide (old.size=n)&&v.sto then (match v0.set p v with | some t'=>.ok .undef (setO ob id (Xl0 o i t')) | none=>.no) else .no
 | none=>.no
def Ynp (ob:Xb)(id i n:Nat)(o:Ob)(v:V)(z f:Nat)(p:List Nat):Option V->Rr
 | some v0=>bif decide (z=v0.size)&&decide (f=v0.shape.off p) then Yno ob id i n o v v0 p (v0.at p) else .no
 | none=>.no
def Ynn (ob:Xb)(id m z i f:Nat)(p:List Nat)(n:Nat)(v:V):Option Ob->Rr
 | some o=>Ynp ob id i n o v z f p (Va m i (some o))
 | none=>.no
def stR (ob:Xb)(n:Nat)(v:V):V->Rr
 | .ptr id p=>Y18 ob id p n v (Xe ob id)
 | .ep id m z i f p=>Ynn ob id m z i f p n v (Xe ob id)
 | _=>.no
def V.isLf (v:V):Bool:=!v.isAgg
theorem V.lf_shape {v:V}(h:v.isLf=true):v.shape=.leaf:=by
 cases v with
 | d x=>cases x<;>first | rfl | simp[V.isLf,V.isAgg]at h
 | agg xs=>simp[V.isLf,V.isAgg]at h
 | _=>rfl
def Xwz (a b:V):Bool:=bif a.isLf&&b.isLf then true else Sh.beq a.shape b.shape
theorem Xw0 {a b:V}(h:Xwz a b=true):a.shape=b.shape:=by
 unfold Xwz at h
 cases hc:(a.isLf&&b.isLf) with
 | true=>
  simp only[Bool.and_eq_true]at hc
  rw[V.lf_shape hc.1,V.lf_shape hc.2]
 | false=>rw[hc]at h; exact Sh.beq_eq _ _ h
def V.setF:V->List Nat->V->Option V
 | _,[],x=>some x
 | .d (.agg xs),i::p,x=>match xs[i]? with
  | some y=>match V.setF (.d y) p x with
   | some (.d z)=>some (.d (.agg (xs.set i z)))
   | some k=>some (V.mk ((xs.map .d).set i k))
   | none=>none
  | none=>none
 | v,i::p,x=>match v.kids with
  | some ks=>match ks[i]? with
   | some k=>match V.setF k p x with
    | some k'=>some (V.mk (ks.set i k'))
    | none=>none
   | none=>none
  | none=>none
theorem Xr6:∀(l:List D),V.allD (l.map .d)=some l
 | []=>rfl
 | x::r=>by simp only[List.map_cons,V.allD,Xr6 r]
theorem V.setF_eq:∀(p:List Nat) (v x:V),v.setF p x=v.set p x
 | [],v,x=>by cases v<;>first | rfl | (rename_i y; cases y<;>rfl)
 | i::p,v,x=>by
  cases v with
  | d y=>
   cases y with
   | agg xs=>
    simp only[V.setF,V.set,V.kids,List.getElem?_map]
    cases xs[i]? with
    | none=>rfl
    | some y=>
     simp only[Option.map_some,V.setF_eq p (.d y) x]
     cases V.set (.d y) p x with
     | none=>rfl
     | some k=>
      cases k with
      | d z=>simp only[<-List.map_set,V.mk,Xr6]
      | _=>rfl
   | _=>simp[V.setF,V.set,V.kids]
  | agg xs=>
   simp only[V.setF,V.set,V.kids]
   cases xs[i]? with
   | none=>rfl
   | some y=>simp only[V.setF_eq p y x]; cases V.set y p x<;>rfl
  | _=>simp[V.setF,V.set,V.kids]
def Ynt (ob:Xb)(id:Nat)(p:List Nat)(n E:Nat)(v t:V):Option V->Rr
 | some old=>bif Xwz v old&&old.szIs n&&v.sto then (match t.setF p v with | some t'=>.ok .undef (setO ob id (.box E t')) | none=>.no) else .no
 | none=>.no
def Yns (ob:Xb)(id:Nat)(p:List Nat)(n:Nat)(v:V):Option Ob->Rr
 | some (.box E t)=>Ynt ob id p n E v t (t.atF p)
 | _=>.no
def Y17 (ob:Xb)(n:Nat)(v:V):V->Rr
 | .ptr id p=>Yns ob id p n v (Xe ob id)
 | u=>stR ob n v u
def Y16 (sz:Nat):V->Option (List D)
 | .d (.list z ys)=>bif decide (z=sz) then some ys else none
 | .d .nils=>some []
 | _=>none
def X5b (id E sz B n:Nat)(ob:Xb)(ys:List D):Option Ob->Rr
 | some (.arr E' sz' xs)=>bif decide (E'=E)&&decide (sz'=sz)&&decide (n=xs.length)&&decide ((2*(xs.length+ys.length)+192)*B<=281474976710656) then .ok (.sl id (xs.length+ys.length)) (setO ob id (.arr E sz (xs++ys))) else .no
 | _=>.no
def Yn5 (E sz B:Nat)(ob:Xb)(ys:List D):V->Rr
 | .sl id n=>X5b id E sz B n ob ys (Xe ob id)
 | .d .nils=>bif decide ((2*ys.length+192)*B<=281474976710656) then .ok (.sl (Xa ob) ys.length) ((Xa ob,.arr E sz ys)::ob) else .no
 | _=>.no
def X4t (sz n:Nat):Option Ob->Option (List V)
 | some (.vec _ z ys)=>bif decide (z=sz)&&decide (n=ys.length)&&V.stos ys then some ys else none
 | some (.arr _ z ys)=>bif decide (z=sz)&&decide (n=ys.length) then some (ys.map .d) else none
 | _=>none
def Ynm (sz:Nat)(ob:Xb):V->Option (List V)
 | .d (.list z ys)=>bif decide (z=sz) then some (ys.map .d) else none
 | .d .nils=>some []
 | .sl id n=>X4t sz n (Xe ob id)
 | _=>none
def Ycw (id E sz B n:Nat)(ob:Xb)(ys:List V):Option Ob->Rr
 | some (.vec E' sz' xs)=>bif decide (E'=E)&&decide (sz'=sz)&&decide (n=xs.length)&&decide ((2*(xs.length+ys.length)+192)*B<=281474976710656) then .ok (.sl id (xs.length+ys.length)) (setO ob id (.vec E sz (xs++ys))) else .no
 | some (.arr E' sz' xs)=>bif decide (E'=E)&&decide (sz'=sz)&&decide (n=xs.length)&&decide ((2*(xs.length+ys.length)+192)*B<=281474976710656) then .ok (.sl id (xs.length+ys.length)) (setO ob id (.vec E sz (xs.map .d++ys))) else .no
 | _=>.no
def Yxk (E sz B:Nat)(ob:Xb)(ys:List V):V->Rr
 | .sl id n=>Ycw id E sz B n ob ys (Xe ob id)
 | .d .nils=>bif decide ((2*ys.length+192)*B<=281474976710656) then .ok (.sl (Xa ob) ys.length) ((Xa ob,.vec E sz ys)::ob) else .no
 | _=>.no
def Xq3 (o:Option V)(ob:Xb):Rr:=match o with
 | some v=>.ok v ob
 | none=>.no
def Yxl:V->Option V
 | .d (.list sz xs)=>bif decide (sz=1) then (Jp xs).map fun s=>.d (.str s) else none
 | .d .nils=>some (.d (.str []))
 | _=>none
def Y13:V->Option V
 | .d (.str s)=>some (.d (.list 1 (Yh s)))
 | _=>none
def Ynl:V->Option (List D)
 | .d (.str s)=>some (Yh s)
 | _=>none
def Yd1:Option (D×Xb)->Rr
 | some (d,ob)=>.ok (.d d) ob
 | none=>.no
def Yik (n:Nat)(ag:Bool)(ob:Xb):Option V->Rr
 | some v=>bif decide (v.size=n)&&(v.isAgg==ag) then Yd1 (V.giv ob v) else .no
 | none=>.no
def Yy5 (n:Nat)(ag:Bool)(ob:Xb):V->Rr
 | .ptr id p=>Yik n ag ob (atO ob id p)
 | _=>.no
def Yil (ob:Xb)(id:Nat)(p:List Nat)(x:D):Option Ob->Rr
 | some (.box E t)=>match t.set p (.d x) with
  | some t'=>.ok (.d x) (setO ob id (.box E t'))
  | none=>.no
 | _=>.no
def Yim (v:V)(id:Nat)(p:List Nat):Option (D×Xb)->Rr
 | some (x,ob)=>bif Sh.beq x.shape v.shape then Yil ob id p x (Xe ob id) else .no
 | none=>.no
def Yin (n:Nat)(ag:Bool)(ob:Xb)(id:Nat)(p:List Nat):Option V->Rr
 | some v=>bif decide (v.size=n)&&(v.isAgg==ag) then Yim v id p (V.gvF 40000 ob v) else .no
 | none=>.no
def Yy6 (n:Nat)(ag:Bool)(ob:Xb):V->Rr
 | .ptr id p=>Yin n ag ob id p (atO ob id p)
 | _=>.no
def Ynf (id:Nat)(p:List Nat)(n z:Nat)(lo hi:Option V):Option (List V)->Option V
 | some ks=>bif decide (ks.length=n)&&ks.all (fun k=>decide (k.size=z)) then (Yc0 n lo hi).map fun q=>.bs id p q.1 (q.2-q.1) else none
 | none=>none
def Y14 (ob:Xb)(n z:Nat)(lo hi:Option V):V->Option V
 | .ptr id p=>Ynf id p n z lo hi (Zc (atO ob id p))
 | _=>none
def Yxo (ob:Xb)(id E:Nat)(t:V)(p:List Nat)(lo n z:Nat)(ys:List D)(r:V):Option V->Rr
 | some (.d (.agg xs))=>bif decide (lo+n<=xs.length)&&xs.all (fun x=>decide (x.sz=z))&&Sh.beq (D.agg (Xga lo xs ys)).shape (D.agg xs).shape then (match t.set p (.d (.agg (Xga lo xs ys))) with | some t'=>.ok r (setO ob id (.box E t')) | none=>.no) else .no
 | _=>.no
def Yn8 (ob:Xb)(id:Nat)(p:List Nat)(lo n z:Nat)(ys:List D)(r:V):Option Ob->Rr
 | some (.box E t)=>Yxo ob id E t p lo n z ys r (t.at p)
 | _=>.no
def Yxs (z:Nat)(ob:Xb):V->V->Rr
 | .bs id p lo n,.d (.list z' ys)=>bif decide (z'=z) then Yn8 ob id p lo n z (ys.take n) (.d (.int .i64 (min ys.length n:Nat))) (Xe ob id) else .no
 | _,_=>.no
def Yia:Option Ob->Bool
 | some (.box _ _)=>true
 | _=>false
def Yxq (z0:D)(z:Nat)(ob:Xb):V->Rr
 | .bs id p lo n=>bif Nat.beq n 0 then (bif Yia (Xe ob id) then .ok (.tup []) ob else .no) else bif decide (z0.sz=z)&&decide (z=1) then Yn8 ob id p lo n z (List.replicate n z0) (.tup []) (Xe ob id) else .no
 | _=>.no
def Yxz (n z:Nat):D->V->Option V
 | .agg xs,.d (.int _ m)=>gdR (decide (0<=m)&&decide (m<n)&&decide (xs.length=n)&&xs.all (fun x=>decide (x.sz=z))) (.d (.ref (xs.getD m.toNat default)))
 | _,_=>none
def V.isNils:V->Bool
 | .d .nils=>true
 | _=>false
def Ycx:Option V->Bool
 | some v=>v.isNils
 | none=>false
def Ykb (ob:Xb)(id:Nat)(p:List Nat)(E sz:Nat)(y:V):Option Ob->Rr
 | some (.box E0 t)=>bif Ycx (t.at p) then (match t.set p (.sl (Xa ob) 0) with | some t'=>.ok y ((Xa ob,.arr E sz [])::setO ob id (.box E0 t')) | none=>.no) else .no
 | _=>.no
def Yoj (ob:Xb)(E sz:Nat)(p:List Nat)(y:V):V->Rr
 | .ptr id q=>Ykb ob id (q++p) E sz y (Xe ob id)
 | _=>.no
def Yok (y x:V):List (Nat×Nat×List Nat)->Xb->Rr
 | [],ob=>.ok y ob
 | e::l,ob=>match Yoj ob e.1 e.2.1 e.2.2 y x with
  | .ok _ ob'=>Yok y x l ob'
  | _=>.no
def Ydb (id n:Nat)(ob:Xb):Option Ob->Rr
 | some (.arr _ sz xs)=>bif decide (sz ≠ 0)&&decide (n=xs.length)&&!xs.isEmpty then .ok (.d (.list sz xs)) (setO ob id .gone) else .no
 | _=>.no
def Yxt (ob:Xb):V->Rr
 | .sl id n=>Ydb id n ob (Xe ob id)
 | _=>.no
def X4w (id n:Nat)(m:Int)(E:Nat)(ob:Xb):Option Ob->Rr
 | some (.arr E' sz xs)=>bif decide (E'=E)&&decide (sz=1)&&decide (n=xs.length)&&decide (m=n)&&decide (n<=9223372036854775807)&&!xs.isEmpty then (match Jp xs with | some s=>.ok (.d (.str s)) (setO ob id .gone) | none=>.no) else .no
 | _=>.no
def Yny (E:Nat)(ob:Xb):V->V->Rr
 | .sd id n,.d (.int .i64 m)=>X4w id n m E ob (Xe ob id)
 | .d .nilp,.d (.int .i64 m)=>bif decide (m=0) then .ok (.d (.str [])) ob else .no
 | _,_=>.no
def X4o (ob:Xb):V->Rr
 | .iface t v=>.pn (.iface t v) ob
 | .d (.iface t v)=>.pn (.d (.iface t v)) ob
 | _=>.no

structure Fns where
 call:Nat->List V->Xb->Option (Out×Xb)
 pc:Nat->List V->Xb->Option V
 ca:Nat->Bool
 gl:Nat->Option D
 yd:Nat->List V->Xb->Option (Out×Xb):=fun _ _ _=>none
 lt:Nat->Option (List Nat×S×S):=fun _=>none
 xc:Nat->List V->Xb->Option (V×Xb):=fun _ _ _=>none
structure Fns.ok (P:Prg)(R:Fns):Prop where
 call:∀f vs ob o b,R.call f vs ob=some (o,b)->ACall P f vs ob fun o' b'=>o'=o/\b'=b
 pc:∀f vs ob v,R.pc f vs ob=some v->PCall P f vs ob fun v'=>v'=v
 ca:∀f,R.ca f=true->Xm P.p f=true
 gl:∀g x,R.gl g=some x->GlobIs P g x
 yd:∀id vs ob o b,R.yd id vs ob=some (o,b)->AYield P id vs ob fun o' b'=>o'=o/\b'=b
 xc:∀f vs ob v b,R.xc f vs ob=some (v,b)->XCall P f vs ob fun v' b'=>v'=v/\b'=b

def X18:Option (Out×Xb)->Rr
 | some (.ret v,ob)=>.ok v ob
 | some (.panic v,ob)=>.pn v ob
 | none=>.no
def Yic:Option Ob->Bool
 | some (.lp _ _ _)=>true
 | _=>false
def X26 (R:Fns)(args:List V)(ob:Xb):V->Rr
 | .fn f fi ca=>bif R.ca f then X18 (R.call f (fi++args++ca) ob) else .no
 | .d (.fn f fi ca)=>bif R.ca f then X18 (R.call f (fi.map .d++args++ca.map .d) ob) else .no
 | .hd true id=>bif Yic (Xe ob id) then X18 (R.yd id args ob) else .no
 | _=>.no
def Y11 (ob:Xb):V->Option Ob->Rr
 | .mp id,some (.map es)=>.ok (.hd false (Xa ob)) ((Xa ob,.it (some id) es.length [])::ob)
 | .d .nilm,_=>.ok (.hd false (Xa ob)) ((Xa ob,.it none 0 [])::ob)
 | _,_=>.no
def Ybf (ob:Xb)(id j n:Nat)(seen:List Nat)(es:List (D×V)):List Nat->Rr
 | []=>.ok (.tup [.d (.bool false)]) ob
 | [i]=>.ok (.tup [.d (.bool true),.d (es.getD i default).1,(es.getD i default).2]) (setO ob id (.it (some j) n (seen++[i])))
 | _=>.no
def Ylt (ob:Xb)(id j n:Nat)(seen:List Nat):Option Ob->Rr
 | some (.map es)=>bif Nat.beq es.length n then Ybf ob id j n seen es ((List.range n).filter fun i=>!seen.contains i) else .no
 | _=>.no
def Ylu (ob:Xb)(id:Nat):Option Ob->Rr
 | some (.it none _ _)=>.ok (.tup [.d (.bool false)]) ob
 | some (.it (some j) n seen)=>Ylt ob id j n seen (Xe ob j)
 | _=>.no
def Y01 (ob:Xb):V->Rr
 | .hd false id=>Ylu ob id (Xe ob id)
 | _=>.no
def Ydq (i n:Nat):Option Ob->Option V
 | some (.map es)=>gdR (decide (i<n)&&Nat.beq es.length n) (.tup [.d (es.getD i default).1,(es.getD i default).2])
 | _=>none
def Ydr (ob:Xb):Option Ob->Option V
 | some (.it (some j) n (x::seen))=>Ydq ((x::seen).getLastD 0) n (Xe ob j)
 | _=>none
def Yxu (ob:Xb):V->Option V
 | .hd false id=>Ydr ob (Xe ob id)
 | _=>none
def X3m:Option Ob->Option V
 | some (.map es)=>some (.d (.int .i64 es.length))
 | _=>none
def Yis (ob:Xb):V->Option V
 | .mp id=>X3m (Xe ob id)
 | .d .nilm=>some (.d (.int .i64 0))
 | _=>none
def Yid (e:Bool):Option Ob->Option V
 | some (.map _)=>some (.d (.bool !e))
 | _=>none
def Yie (e:Bool)(n:Nat):Option Ob->Option V
 | some (.arr _ _ xs)=>gdR (Nat.beq n xs.length&&!xs.isEmpty) (.d (.bool !e))
 | some (.vec _ _ xs)=>gdR (Nat.beq n xs.length&&!xs.isEmpty) (.d (.bool !e))
 | _=>none
def Yy4 (ob:Xb)(e:Bool):Bool->V->Option V
 | true,.mp id=>Yid e (Xe ob id)
 | true,.d .nilm=>some (.d (.bool e))
 | false,.d .nils=>some (.d (.bool e))
 | false,.d (.list _ xs)=>gdR (!xs.isEmpty) (.d (.bool !e))
 | false,.sl id n=>Yie e n (Xe ob id)
 | _,_=>none
def Ynb (ob:Xb)(v:V):Option (Nat×Nat×Nat×Bool)->Option V
 | none=>some v
 | some (fi,fo,n,ag)=>match (C.fldA fi fo (.t 0)).run [(0,v)] ob with
  | some u=>(C.ld n ag (.t 0)).run [(0,u)] ob
  | none=>none
def Yx4 (R:Fns)(t f:Nat)(fl:Option (Nat×Nat×Nat×Bool))(args:List V)(ob:Xb):V->Rr
 | .iface t' (.ptr id p)=>bif Nat.beq t' t&&R.ca f then (match Ynb ob (.ptr id p) fl with | some r=>X18 (R.call f (r::args) ob) | none=>.no) else .no
 | _=>.no
def Yz5 (E sz B:Nat)(z:D)(ob:Xb):V->Rr
 | .d (.int .i64 n)=>bif decide (0<=n)&&decide (n*B<=281474976710656) then .ok (.sl (Xa ob) n.toNat) ((Xa ob,.arr E sz (List.replicate n.toNat z))::ob) else .no
 | _=>.no
def Ynv (id n z:Nat)(h:Int)(ob:Xb):Option Ob->Rr
 | some (.arr E sz xs)=>bif Nat.beq sz z&&Nat.beq n xs.length&&!xs.isEmpty&&decide (0<=h/\h<=n) then .ok (.sl (Xa ob) h.toNat) ((Xa ob,.arr E sz (xs.take h.toNat))::setO ob id .gone) else .no
 | _=>.no
def Y2d (z:Nat)(ob:Xb):V->V->Rr
 | .sl id n,.d (.int .i64 h)=>Ynv id n z h ob (Xe ob id)
 | _,_=>.no
def Xys (l:Option (List V)):Option (List D):=match l with
 | some ks=>V.allD ks
 | none=>none

def X1o (kd k:D)(es:List (D×V)):Bool:=D.alike kd k&&es.all fun e=>D.alike k e.1
theorem Xn5 {kd k:D}{es:List (D×V)}(h:X1o kd k es=true):Xb4 kd k es:=by
 simp only[X1o,Bool.and_eq_true,List.all_eq_true]at h
 exact h
def Yiw (kd z:D)(ok:Bool)(k:D):Option Ob->Option V
 | some (.map es)=>gdR (X1o kd k es) (X1y z ok (Wj k es))
 | _=>none
def Yy7 (ob:Xb)(kd z:D)(ok:Bool):V->V->Option V
 | .mp id,.d k=>Yiw kd z ok k (Xe ob id)
 | .d .nilm,.d k=>gdR (D.alike kd k) (X1y z ok none)
 | _,_=>none
def X3q (ob:Xb)(id:Nat)(kd k:D)(v:V):Option Ob->Rr
 | some (.map es)=>bif X1o kd k es&&v.sto then .ok .undef (setO ob id (.map (Xjh k v es))) else .no
 | _=>.no
def Yka (ob:Xb)(kd:D)(v:V):V->V->Rr
 | .mp id,.d k=>X3q ob id kd k v (Xe ob id)
 | _,_=>.no
def Yni (ob:Xb)(id n z:Nat):Option V->Rr
 | some (.d (.agg xs))=>bif decide (xs.length=n)&&xs.all (fun x=>decide (x.sz=z)) then .ok (.d (.list z xs)) (setO ob id .gone) else .no
 | _=>.no
def Y15 (ob:Xb)(n z:Nat):V->Rr
 | .ptr id p=>Yni ob id n z (atO ob id p)
 | _=>.no
def X3g:V->Bool
 | .d (.int _ _)=>true
 | _=>false
def Yz4 (sl:Xf):Option A->Bool
 | none=>true
 | some x=>X3g (x.ev sl)

def I.run (R:Fns)(sl:Xf)(ob:Xb):I->Rr
 | .c x=>Xq3 (x.run sl ob) ob
 | .box E x=>bif (x.ev sl).sto then .ok (.ptr (Xa ob) []) ((Xa ob,.box E (x.ev sl))::ob) else .no
 | .alloc E z=>bif (V.d z).sto then .ok (.ptr (Xa ob) []) ((Xa ob,.box E (.d z))::ob) else .no
 | .bls sz z parts=>match Xys (X23 (z.map .d) (parts.map fun (i,x)=>(i,x.ev sl))) with
  | some l=>.ok (.d (.list sz l)) ob
  | none=>.no
 | .blo E sz z parts=>match Xys (X23 (z.map .d) (parts.map fun (i,x)=>(i,x.ev sl))) with
  | some l=>.ok (.sl (Xa ob) l.length) ((Xa ob,.arr E sz l)::ob)
  | none=>.no
 | .st n x v=>Y17 ob n (v.ev sl) (x.ev sl)
 | .app E sz B x y=>match Y16 sz (y.ev sl) with
  | some ys=>Yn5 E sz B ob ys (x.ev sl)
  | none=>.no
 | .appS E B x y=>match Ynl (y.ev sl) with
  | some ys=>Yn5 E 1 B ob ys (x.ev sl)
  | none=>.no
 | .call f args=>X18 (R.call f (args.map (A.ev sl)) ob)
 | .pcall f args=>Xq3 (R.pc f (args.map (A.ev sl)) ob) ob
 | .boxr _ _=>.no
 | .xcall f args=>match R.xc f (args.map (A.ev sl)) ob with
  | some (v,b)=>.ok v b
  | none=>.no
 | .callv x args=>X26 R (args.map (A.ev sl)) ob (x.ev sl)
 | .panic x=>X4o ob (x.ev sl)
 | .b2s x=>Xq3 (Yxl (x.ev sl)) ob
 | .s2b x=>Xq3 (Y13 (x.ev sl)) ob
 | .nilo E sz x=>bif (x.ev sl).isNils then .ok (.sl (Xa ob) 0) ((Xa ob,.arr E sz [])::ob) else .no
 | .mvf x=>Yd1 (V.giv ob (x.ev sl))
 | .ldf n ag x=>Yy5 n ag ob (x.ev sl)
 | .mvg E sz y x p=>Yoj ob E sz p (y.ev sl) (x.ev sl)
 | .mvn y x l=>Yok (y.ev sl) (x.ev sl) l ob
 | .cvb x=>Yxt ob (x.ev sl)
 | .ustr E x y=>Yny E ob (x.ev sl) (y.ev sl)
 | .mkm r=>bif Yz4 sl r then .ok (.mp (Xa ob)) ((Xa ob,.map [])::ob) else .no
 | .lkp kd z ok m k=>Xq3 (Yy7 ob kd z ok (m.ev sl) (k.ev sl)) ob
 | .mset kd m k v=>Yka ob kd (v.ev sl) (m.ev sl) (k.ev sl)
 | .gld g n ag x=>match R.gl g with
  | some y=>bif decide (y.sz=n)&&((V.d y).isAgg==ag)&&D.eqb x y then .ok (.d x) ob else .no
  | none=>.no
 | .slg n z x=>Y15 ob n z (x.ev sl)
 | .blv E sz z parts=>match X23 (z.map .d) (parts.map fun (i,x)=>(i,x.ev sl)) with
  | some ks=>.ok (.sl (Xa ob) ks.length) ((Xa ob,.vec E sz ks)::ob)
  | none=>.no
 | .apv E sz B x y=>match Ynm sz ob (y.ev sl) with
  | some ys=>Yxk E sz B ob ys (x.ev sl)
  | none=>.no
 | .gv x=>Yd1 (V.gvF 40000 ob (x.ev sl))
 | .ldg n ag x=>Yy6 n ag ob (x.ev sl)
 | .slb n z x lo hi=>Xq3 (Y14 ob n z (lo.map (A.ev sl)) (hi.map (A.ev sl)) (x.ev sl)) ob
 | .cpy z x y=>Yxs z ob (x.ev sl) (y.ev sl)
 | .clr z0 z x=>Yxq z0 z ob (x.ev sl)
 | .gix g n z x i=>match R.gl g with
  | some y=>bif D.eqb x y then Xq3 (Yxz n z x (i.ev sl)) ob else .no
  | none=>.no
 | .rng x=>Y11 ob (x.ev sl) (Xe ob (X3p (x.ev sl)))
 | .nxt x=>Y01 ob (x.ev sl)
 | .ety x=>Xq3 (Yxu ob (x.ev sl)) ob
 | .lenM x=>Xq3 (Yis ob (x.ev sl)) ob
 | .isn e m x=>Xq3 (Yy4 ob e m (x.ev sl)) ob
 | .inv _ t f fl x args=>Yx4 R t f fl (args.map (A.ev sl)) ob (x.ev sl)
 | .mks E sz B z l=>Yz5 E sz B z ob (l.ev sl)
 | .trn z x h=>Y2d z ob (x.ev sl) (h.ev sl)

def Rr.to (K Pn:V->Xb->Prop):Rr->Prop
 | .ok v ob=>K v ob
 | .pn v ob=>Pn v ob
 | .no=>False

section
variable {P:Prg} {R:Fns} {sl:Xf} {ob:Xb} {K Pn:V->Xb->Prop}
theorem W1 {o:Option V}(h:(Xq3 o ob).to K Pn):∃v,o=some v/\K v ob:=by
 unfold Xq3 at h; split at h
 ·exact⟨_,rfl,h⟩
 ·exact h.elim
theorem Xh5 {v:V}(h:v.isNils=true):v=.d .nils:=by
 unfold V.isNils at h; split at h
 ·rfl
 ·cases h
theorem Xf9 (hR:R.ok P){f:Nat}{vs:List V}(h:(X18 (R.call f vs ob)).to K Pn):ACall P f vs ob (Xa7 K Pn):=by
 unfold X18 at h
 split at h
 ·rename_i v b hc
  exact (hR.call f vs ob _ _ hc).mono fun o b ⟨e1,e2⟩=>by subst e1; subst e2; exact h
 ·rename_i v b hc
  exact (hR.call f vs ob _ _ hc).mono fun o b ⟨e1,e2⟩=>by subst e1; subst e2; exact h
 ·exact h.elim
theorem Yn0 (hR:R.ok P){id:Nat}{vs:List V}(h:(X18 (R.yd id vs ob)).to K Pn):AYield P id vs ob (Xa7 K Pn):=by
 unfold X18 at h
 split at h
 ·rename_i v b hc
  exact (hR.yd id vs ob _ _ hc).mono fun o b ⟨e1,e2⟩=>by subst e1; subst e2; exact h
 ·rename_i v b hc
  exact (hR.yd id vs ob _ _ hc).mono fun o b ⟨e1,e2⟩=>by subst e1; subst e2; exact h
 ·exact h.elim
theorem Xkb {o:Option (D×Xb)}(h:(Yd1 o).to K Pn):Xhw K o:=by
 unfold Yd1 at h; split at h
 ·exact h
 ·exact h.elim
theorem X1 {b:Bool}{x:Rr}(h:(bif b then x else .no).to K Pn):b=true/\x.to K Pn:=by
 cases b
 ·exact h.elim
 ·exact⟨rfl,h⟩
theorem Xse {id lo n z:Nat}{p:List Nat}{ys:List D}{r:V}{o:Option Ob}(h:(Yn8 ob id p lo n z ys r o).to K Pn):Xxz ob id p lo n z ys r K o:=by
 unfold Yn8 at h; split at h
 ·unfold Yxo at h; split at h
  ·rename_i xs hat
   obtain⟨h1,h2⟩:=X1 h
   simp only[Bool.and_eq_true,decide_eq_true_eq,List.all_eq_true]at h1
   split at h2
   ·rename_i t' ht
    simp only[Xxz,hat,Yn9]
    exact⟨h1.1.1,h1.1.2,Sh.beq_eq _ _ h1.2,t',ht,h2⟩
   ·exact h2.elim
  ·exact h.elim
 ·exact h.elim
theorem Xvm {E sz:Nat}{y a:V}{p:List Nat}(h:(Yoj ob E sz p y a).to K Pn):Xjp ob E sz p y K a:=by
 unfold Yoj at h; split at h
 ·unfold Ykb at h; split at h
  ·rename_i E0 t hl
   obtain⟨h1,h2⟩:=X1 h
   split at h2
   ·rename_i t' ht
    unfold Ycx at h1
    split at h1
    ·rename_i v hv
     simp only[Xjp,hl,Xc9,ht,Xim]
     exact .inl ⟨by rw[hv,Xh5 h1],h2⟩
    ·cases h1
   ·exact h2.elim
  ·exact h.elim
 ·exact h.elim
theorem Xvn {y a:V}:∀{l:List (Nat×Nat×List Nat)} {ob:Xb},(Yok y a l ob).to K Pn->X3r y K a l ob
 | [],_,h=>h
 | e::l,ob,h=>by
  unfold Yok at h
  split at h
  ·rename_i v' ob' he
   exact Xvm (Pn:=fun _ _=>False) (by rw[he]; exact Xvn h)
  ·exact h.elim

theorem I.run_sound (hR:R.ok P){i:I}(h:(i.run R sl ob).to K Pn):i.wp P sl ob K Pn:=by
 cases i<;>simp only[I.run]at h<;>simp only[I.wp]
 case c x=>
  obtain⟨v,h1,h2⟩:=W1 h
  exact C.run_sound (K:=fun v=>K v ob) h1 h2
 case box E x=>obtain⟨h1,h2⟩:=X1 h; exact⟨h1,h2⟩
 case alloc E z=>obtain⟨h1,h2⟩:=X1 h; exact⟨h1,h2⟩
 case bls sz z parts=>
  split at h
  ·rename_i l hl
   unfold Xys at hl
   split at hl
   ·rename_i ks hk
    refine W7 _ _ hk ?_
    rw[hl]; exact h
   ·cases hl
  ·exact h.elim
 case blo E sz z parts=>
  split at h
  ·rename_i l hl
   unfold Xys at hl
   split at hl
   ·rename_i ks hk
    refine W7 _ _ hk ?_
    rw[hl]; exact h
   ·cases hl
  ·exact h.elim
 case st n x v=>
  generalize A.ev sl x=a at h⊢
  unfold Y17 at h; split at h
  ·unfold Yns at h; split at h
   ·rename_i E t hl
    rw[V.atF_eq]at h
    unfold Ynt at h; split at h
    ·rename_i old ho
     obtain⟨h1,h2⟩:=X1 h
     simp only[Bool.and_eq_true,V.szIs_eq,decide_eq_true_eq]at h1
     rw[V.setF_eq]at h2
     split at h2
     ·rename_i t' ht
      simp only[stK,hl,Xxp,ho,Xxq]
      exact⟨Xw0 h1.1.1,h1.1.2,h1.2,t',ht,h2⟩
     ·exact h2.elim
    ·exact h.elim
   ·exact h.elim
  unfold stR at h; split at h
  ·unfold Y18 at h; split at h
   ·rename_i E t hl
    unfold Y19 at h; split at h
    ·rename_i old ho
     obtain⟨h1,h2⟩:=X1 h
     simp only[Bool.and_eq_true,decide_eq_true_eq]at h1
     split at h2
     ·rename_i t' ht
      simp only[stK,hl,Xxp,ho,Xxq]
      exact⟨Sh.beq_eq _ _ h1.1.1,h1.1.2,h1.2,t',ht,h2⟩
     ·exact h2.elim
    ·exact h.elim
   ·exact h.elim
  ·unfold Ynn at h; split at h
   ·rename_i o hl
    unfold Ynp at h; split at h
    ·rename_i v0 he
     obtain⟨h0,h⟩:=X1 h
     simp only[Bool.and_eq_true,decide_eq_true_eq]at h0
     unfold Yno at h; split at h
     ·rename_i old ho
      obtain⟨h1,h2⟩:=X1 h
      simp only[Bool.and_eq_true,decide_eq_true_eq]at h1
      split at h2
      ·rename_i t' ht
       simp only[stK,hl,Ynq,he,Yoq,ho,Ynr]
       exact⟨h0,Sh.beq_eq _ _ h1.1.1,h1.1.2,h1.2,t',ht,h2⟩
      ·exact h2.elim
     ·exact h.elim
    ·exact h.elim
   ·exact h.elim
  ·exact h.elim
 case blv E sz z parts=>
  split at h
  ·rename_i ks hk
   exact W7 _ _ hk h
  ·exact h.elim
 case gv x=>exact Xkb h
 case slb n z x lo hi=>
  obtain⟨v,h1,h2⟩:=W1 h
  generalize A.ev sl x=a at h1⊢
  unfold Y14 at h1; split at h1
  ·rename_i id p
   unfold Ynf at h1; split at h1
   ·rename_i ks hk
    rw[Bool.cond_eq_ite]at h1; split at h1
    ·rename_i hc
     simp only[Bool.and_eq_true,decide_eq_true_eq,List.all_eq_true]at hc
     rw[Option.map_eq_some_iff]at h1
     obtain⟨q,hq,rfl⟩:=h1
     simp only[Ych,hk,Xqe]
     exact⟨hc.1,hc.2,Jn (K:=fun l h=>K (.bs id p l (h-l)) ob) hq h2⟩
    ·cases h1
   ·cases h1
  ·cases h1
 case cpy z x y=>
  generalize A.ev sl x=a at h⊢; generalize A.ev sl y=b at h⊢
  unfold Yxs at h; split at h
  ·obtain⟨h1,h2⟩:=X1 h
   exact⟨of_decide_eq_true h1,Xse h2⟩
  ·exact h.elim
 case clr z0 z x=>
  generalize A.ev sl x=a at h⊢
  unfold Yxq at h; split at h
  ·rename_i id p lo n
   rw[Bool.cond_eq_ite]at h
   split at h
   ·rename_i hn
    have hn:n=0:=Nat.eq_of_beq_eq_true hn
    obtain⟨h1,h2⟩:=X1 h
    refine⟨fun _=>⟨?_,h2⟩,fun e=>(e hn).elim⟩
    generalize Xe ob id=o at h1⊢
    unfold Yia at h1; split at h1
    ·exact⟨_,_,rfl⟩
    ·cases h1
   ·rename_i hn
    have hn:n ≠ 0:=fun e=>hn (by rw[e]; rfl)
    obtain⟨h1,h2⟩:=X1 h
    simp only[Bool.and_eq_true,decide_eq_true_eq]at h1
    exact⟨fun e=>(hn e).elim,fun _=>⟨h1,Xse h2⟩⟩
  ·exact h.elim
 case gix g n z x i=>
  split at h
  ·rename_i y hy
   obtain⟨h1,h9⟩:=X1 h
   clear h
   have e:=D.eqb_eq _ _ h1
   subst e
   refine⟨hR.gl g _ hy,?_⟩
   obtain⟨v,h2,h3⟩:=W1 h9
   generalize A.ev sl i=b at h2⊢
   unfold Yxz at h2; split at h2
   ·obtain⟨h4,rfl⟩:=X4 h2
    simp only[Bool.and_eq_true,decide_eq_true_eq,List.all_eq_true]at h4
    exact⟨h4.1.1,h4.1.2,h4.2,h3⟩
   ·cases h2
  ·exact h.elim
 case ldg n ag x=>
  generalize A.ev sl x=a at h⊢
  unfold Yy6 at h; split at h
  ·unfold Yin at h; split at h
   ·rename_i v hv
    obtain⟨h1,h⟩:=X1 h
    simp only[Bool.and_eq_true,decide_eq_true_eq,beq_iff_eq]at h1
    unfold Yim at h; split at h
    ·rename_i x1 ob1 hg
     obtain⟨h2,h⟩:=X1 h
     unfold Yil at h; split at h
     ·rename_i E t hl
      split at h
      ·rename_i t' ht
       simp only[Ycc,hv,Xva,hg,Xu9,hl,X1s]
       exact⟨h1.1,h1.2,Sh.beq_eq _ _ h2,t',ht,h⟩
      ·exact h.elim
     ·exact h.elim
    ·exact h.elim
   ·exact h.elim
  ·exact h.elim
 case apv E sz B x y=>
  split at h
  ·rename_i ys hy
   have hx:Xq0 E sz B ob ys K (A.ev sl x):=by
    generalize A.ev sl x=a at h⊢
    unfold Yxk at h; split at h
    ·unfold Ycw at h; split at h
     ·rename_i E' sz' xs hl
      obtain⟨h1,h2⟩:=X1 h
      simp only[Bool.and_eq_true,decide_eq_true_eq]at h1
      simp only[Xq0,hl,Xpd]
      exact⟨h1.1.1.1,h1.1.1.2,h1.1.2,h1.2,h2⟩
     ·rename_i E' sz' xs hl
      obtain⟨h1,h2⟩:=X1 h
      simp only[Bool.and_eq_true,decide_eq_true_eq]at h1
      simp only[Xq0,hl,Xpd]
      exact⟨h1.1.1.1,h1.1.1.2,h1.1.2,h1.2,h2⟩
     ·exact h.elim
    ·obtain⟨h1,h2⟩:=X1 h
     exact⟨of_decide_eq_true h1,h2⟩
    ·exact h.elim
   generalize A.ev sl y=b at hy⊢
   unfold Ynm at hy; split at hy
   ·rw[Bool.cond_eq_ite]at hy; split at hy
    ·rename_i hc; cases hy; exact⟨of_decide_eq_true hc,hx⟩
    ·cases hy
   ·cases hy; exact hx
   ·rename_i id n
    unfold X4t at hy; split at hy
    ·rename_i E1 z ys1 hl
     rw[Bool.cond_eq_ite]at hy; split at hy
     ·rename_i hc; cases hy
      simp only[Bool.and_eq_true,decide_eq_true_eq]at hc
      obtain⟨⟨rfl,h2⟩,h3⟩:=hc
      exact .inl ⟨E1,_,hl,h2,h3,hx⟩
     ·cases hy
    ·rename_i E1 z ys1 hl
     rw[Bool.cond_eq_ite]at hy; split at hy
     ·rename_i hc; cases hy
      simp only[Bool.and_eq_true,decide_eq_true_eq]at hc
      obtain⟨rfl,h2⟩:=hc
      exact .inr ⟨E1,ys1,hl,h2,hx⟩
     ·cases hy
    ·cases hy
   ·cases hy
  ·exact h.elim
 case app E sz B x y=>
  split at h
  ·rename_i ys hy
   have hx:Xc5 E sz B ob ys K (A.ev sl x):=by
    generalize A.ev sl x=a at h⊢
    unfold Yn5 at h; split at h
    ·unfold X5b at h; split at h
     ·rename_i E' sz' xs hl
      obtain⟨h1,h2⟩:=X1 h
      simp only[Bool.and_eq_true,decide_eq_true_eq]at h1
      simp only[Xc5,hl,Xc6]
      exact⟨h1.1.1.1,h1.1.1.2,h1.1.2,h1.2,h2⟩
     ·exact h.elim
    ·obtain⟨h1,h2⟩:=X1 h
     exact⟨of_decide_eq_true h1,h2⟩
    ·exact h.elim
   generalize A.ev sl y=b at hy⊢
   unfold Y16 at hy; split at hy
   ·rw[Bool.cond_eq_ite]at hy; split at hy
    ·rename_i hc; cases hy; exact⟨of_decide_eq_true hc,hx⟩
    ·cases hy
   ·cases hy; exact hx
   ·cases hy
  ·exact h.elim
 case appS E B x y=>
  split at h
  ·rename_i ys hy
   have hx:Xc5 E 1 B ob ys K (A.ev sl x):=by
    generalize A.ev sl x=a at h⊢
    unfold Yn5 at h; split at h
    ·unfold X5b at h; split at h
     ·rename_i E' sz' xs hl
      obtain⟨h1,h2⟩:=X1 h
      simp only[Bool.and_eq_true,decide_eq_true_eq]at h1
      simp only[Xc5,hl,Xc6]
      exact⟨h1.1.1.1,h1.1.1.2,h1.1.2,h1.2,h2⟩
     ·exact h.elim
    ·obtain⟨h1,h2⟩:=X1 h
     exact⟨of_decide_eq_true h1,h2⟩
    ·exact h.elim
   generalize A.ev sl y=b at hy⊢
   unfold Ynl at hy; split at hy
   ·cases hy; exact hx
   ·cases hy
  ·exact h.elim
 case call f args=>exact Xf9 hR h
 case pcall f args=>
  obtain⟨v,h1,h2⟩:=W1 h
  exact (hR.pc _ _ _ _ h1).mono fun v' e=>by subst e; exact h2
 case boxr=>exact h.elim
 case xcall f args=>
  split at h
  ·rename_i v b hx
   exact (hR.xc _ _ _ _ _ hx).mono fun v' b' ⟨e1,e2⟩=>by subst e1; subst e2; exact h
  ·exact h.elim
 case callv x args=>
  generalize A.ev sl x=a at h⊢
  unfold X26 at h; split at h
  ·obtain⟨h1,h2⟩:=X1 h
   exact⟨hR.ca _ h1,Xf9 hR h2⟩
  ·obtain⟨h1,h2⟩:=X1 h
   exact⟨hR.ca _ h1,Xf9 hR h2⟩
  ·rename_i id
   obtain⟨h1,h2⟩:=X1 h
   refine⟨?_,Yn0 hR h2⟩
   unfold Yic at h1; split at h1
   ·rename_i e; rw[e]; trivial
   ·cases h1
  ·exact h.elim
 case panic x=>
  generalize A.ev sl x=a at h⊢
  unfold X4o at h; split at h
  ·exact h
  ·exact h
  ·exact h.elim
 case b2s x=>
  obtain⟨v,h1,h2⟩:=W1 h
  generalize A.ev sl x=a at h1⊢
  unfold Yxl at h1; split at h1
  ·rw[Bool.cond_eq_ite]at h1; split at h1
   ·rename_i hc
    rw[Option.map_eq_some_iff]at h1
    obtain⟨s,h3,rfl⟩:=h1
    exact⟨of_decide_eq_true hc,s,Jq h3,h2⟩
   ·cases h1
  ·cases h1; exact h2
  ·cases h1
 case s2b x=>
  obtain⟨v,h1,h2⟩:=W1 h
  generalize A.ev sl x=a at h1⊢
  unfold Y13 at h1; split at h1
  ·cases h1; exact h2
  ·cases h1
 case nilo E sz x=>obtain⟨h1,h2⟩:=X1 h; rw[Xh5 h1]; exact h2
 case mvf x=>exact Xkb h
 case ldf n ag x=>
  generalize A.ev sl x=a at h⊢
  unfold Yy5 at h; split at h
  ·unfold Yik at h; split at h
   ·rename_i v hv
    obtain⟨h1,h2⟩:=X1 h
    simp only[Bool.and_eq_true,decide_eq_true_eq,beq_iff_eq]at h1
    simp only[X1r,hv,Xkj]
    exact⟨h1.1,h1.2,Xkb h2⟩
   ·exact h.elim
  ·exact h.elim
 case mvg=>exact Xvm h
 case mvn=>exact Xvn h
 case cvb x=>
  generalize A.ev sl x=a at h⊢
  unfold Yxt at h; split at h
  ·unfold Ydb at h; split at h
   ·rename_i E' sz xs hl
    obtain⟨h1,h2⟩:=X1 h
    simp at h1
    simp only[Xsz,hl,Xe0]
    exact⟨h1.1.1,h1.1.2,h1.2,h2⟩
   ·exact h.elim
  ·exact h.elim
 case ustr E x y=>
  generalize A.ev sl x=a at h⊢; generalize A.ev sl y=b at h⊢
  unfold Yny at h; split at h
  ·unfold X4w at h; split at h
   ·rename_i E' sz xs hl
    obtain⟨h1,h2⟩:=X1 h
    split at h2
    ·rename_i s hs
     simp at h1
     simp only[Xji,hl,Xei]
     exact⟨h1.1.1.1.1.1,h1.1.1.1.1.2,h1.1.1.1.2,h1.1.1.2,h1.1.2,h1.2,s,Jq hs,h2⟩
    ·exact h2.elim
   ·exact h.elim
  ·obtain⟨h1,h2⟩:=X1 h
   exact⟨of_decide_eq_true h1,h2⟩
  ·exact h.elim
 case mkm r=>
  obtain⟨h1,h2⟩:=X1 h
  refine⟨?_,h2⟩
  cases r with
  | none=>trivial
  | some x=>
   simp only[Yz4]at h1
   simp only[Xx5]
   generalize A.ev sl x=a at h1⊢
   unfold X3g at h1; split at h1
   ·trivial
   ·cases h1
 case lkp kd z ok m k=>
  obtain⟨v,h1,h2⟩:=W1 h
  generalize A.ev sl m=a at h1⊢; generalize A.ev sl k=b at h1⊢
  unfold Yy7 at h1; split at h1
  ·unfold Yiw at h1; split at h1
   ·rename_i es hl
    obtain⟨h3,rfl⟩:=X4 h1
    simp only[Xve,hl,Xfb]
    exact⟨Xn5 h3,h2⟩
   ·cases h1
  ·obtain⟨h3,rfl⟩:=X4 h1
   exact⟨h3,h2⟩
  ·cases h1
 case mset kd m k v=>
  generalize A.ev sl m=a at h⊢; generalize A.ev sl k=b at h⊢
  unfold Yka at h; split at h
  ·unfold X3q at h; split at h
   ·rename_i es hl
    obtain⟨h1,h2⟩:=X1 h
    simp only[Bool.and_eq_true]at h1
    simp only[Xca,hl,Q3]
    exact⟨Xn5 h1.1,h1.2,h2⟩
   ·exact h.elim
  ·exact h.elim
 case rng x=>
  generalize A.ev sl x=a at h⊢
  generalize Xe ob (X3p a)=o at h⊢
  unfold Y11 at h; split at h
  ·exact h
  ·exact h
  ·exact h.elim
 case nxt x=>
  generalize A.ev sl x=a at h⊢
  unfold Y01 at h; split at h
  ·rename_i id
   simp only[X14]
   generalize Xe ob id=o at h⊢
   unfold Ylu at h; split at h
   ·exact h
   ·rename_i j n seen
    simp only[Xiv]
    generalize Xe ob j=o at h⊢
    unfold Ylt at h; split at h
    ·rename_i es
     obtain⟨h1,h2⟩:=X1 h
     have hmem:∀i,i<n->seen.contains i=false->i∈(List.range n).filter fun i=>!seen.contains i:=fun i hi hc=>by
      rw[List.mem_filter]; exact⟨List.mem_range.2 hi,by rw[hc]; rfl⟩
     have hback:∀i,i∈(List.range n).filter (fun i=>!seen.contains i)->i<n/\seen.contains i=false:=fun i hi=>by
      rw[List.mem_filter]at hi; exact⟨List.mem_range.1 hi.1,by simpa using hi.2⟩
     generalize (List.range n).filter (fun i=>!seen.contains i)=l at h2 hmem hback
     refine⟨Nat.eq_of_beq_eq_true h1,fun ha=>?_,fun i hi hc=>?_⟩
     ·unfold Ybf at h2; split at h2
      ·exact h2
      ·rename_i i
       obtain⟨b1,b2⟩:=hback i (by simp)
       have:=List.all_eq_true.1 ha i (List.mem_range.2 b1)
       rw[b2]at this; cases this
      ·exact h2.elim
     ·have hm:=hmem i hi hc
      unfold Ybf at h2; split at h2
      ·cases hm
      ·rcases List.mem_cons.1 hm with rfl | hm
       ·exact h2
       ·cases hm
      ·exact h2.elim
    ·exact h.elim
   ·exact h.elim
  ·exact h.elim
 case ety x=>
  obtain⟨v,h1,h2⟩:=W1 h
  generalize A.ev sl x=a at h1⊢
  unfold Yxu at h1; split at h1
  ·rename_i id
   simp only[X0j]
   generalize Xe ob id=o at h1⊢
   unfold Ydr at h1; split at h1
   ·rename_i j n y seen
    simp only[Xj1]
    generalize Xe ob j=o at h1⊢
    refine⟨by simp,?_⟩
    unfold Ydq at h1; split at h1
    ·obtain⟨h3,rfl⟩:=X4 h1
     simp only[Bool.and_eq_true,decide_eq_true_eq]at h3
     exact⟨h3.1,Nat.eq_of_beq_eq_true h3.2,h2⟩
    ·cases h1
   ·cases h1
  ·cases h1
 case lenM x=>
  obtain⟨v,h1,h2⟩:=W1 h
  generalize A.ev sl x=a at h1⊢
  unfold Yis at h1; split at h1
  ·rename_i id
   simp only[Xp3]
   generalize Xe ob id=o at h1⊢
   unfold X3m at h1; split at h1
   ·cases h1; exact h2
   ·cases h1
  ·cases h1; exact h2
  ·cases h1
 case isn e m x=>
  obtain⟨v,h1,h2⟩:=W1 h
  generalize A.ev sl x=a at h1⊢
  unfold Yy4 at h1; split at h1
  ·rename_i id
   simp only[Xu0]
   generalize Xe ob id=o at h1⊢
   unfold Yid at h1; split at h1
   ·cases h1; exact h2
   ·cases h1
  ·cases h1; exact h2
  ·cases h1; exact h2
  ·rename_i xs
   obtain⟨h3,rfl⟩:=X4 h1
   refine⟨h2,fun e=>?_⟩
   subst e; cases h3
  ·rename_i id k
   simp only[Xu0]
   generalize Xe ob id=o at h1⊢
   unfold Yie at h1; split at h1
   ·obtain⟨h3,rfl⟩:=X4 h1
    simp only[Bool.and_eq_true,Bool.not_eq_true',List.isEmpty_eq_false_iff]at h3
    exact⟨Nat.eq_of_beq_eq_true h3.1,h3.2,h2⟩
   ·obtain⟨h3,rfl⟩:=X4 h1
    simp only[Bool.and_eq_true,Bool.not_eq_true',List.isEmpty_eq_false_iff]at h3
    exact⟨Nat.eq_of_beq_eq_true h3.1,h3.2,h2⟩
   ·cases h1
  ·cases h1
 case inv nm t f fl x args=>
  generalize A.ev sl x=a at h⊢
  unfold Yx4 at h; split at h
  ·rename_i t' id p
   obtain⟨h1,h2⟩:=X1 h
   simp only[Bool.and_eq_true]at h1
   refine⟨Nat.eq_of_beq_eq_true h1.1,hR.ca _ h1.2,?_⟩
   split at h2
   ·rename_i q hq
    have hc:=Xf9 hR h2
    unfold Ynb at hq
    split at hq
    ·cases hq; exact hc
    ·rename_i fi fo n ag
     split at hq
     ·rename_i u hu
      simp only[X2d]
      have h4:=C.run_sound (K:=fun v=>ACall P f (v::args.map (A.ev sl)) ob (Xa7 K Pn)) hq hc
      have h5:=C.run_sound (K:=fun u=>ldK ob n ag (fun v=>ACall P f (v::args.map (A.ev sl)) ob (Xa7 K Pn)) u) hu (by simpa[C.wp,A.ev,look]using h4)
      simpa[C.wp,A.ev,look]using h5
     ·cases hq
   ·exact h2.elim
  ·exact h.elim
 case mks E sz B z l=>
  generalize A.ev sl l=a at h⊢
  unfold Yz5 at h; split at h
  ·obtain⟨h1,h2⟩:=X1 h
   simp only[Bool.and_eq_true,decide_eq_true_eq]at h1
   exact⟨h1.1,h1.2,h2⟩
  ·exact h.elim
 case trn z x hh=>
  generalize A.ev sl x=a at h⊢; generalize A.ev sl hh=b at h⊢
  unfold Y2d at h; split at h
  ·rename_i id n m
   simp only[Ycl]
   generalize Xe ob id=o at h⊢
   unfold Ynv at h; split at h
   ·obtain⟨h1,h2⟩:=X1 h
    simp only[Bool.and_eq_true,Bool.not_eq_true',List.isEmpty_eq_false_iff,decide_eq_true_eq]at h1
    exact⟨Nat.eq_of_beq_eq_true h1.1.1.1,Nat.eq_of_beq_eq_true h1.1.1.2,h1.1.2,h1.2,h2⟩
   ·exact h.elim
  ·exact h.elim
 case slg n z x=>
  generalize A.ev sl x=a at h⊢
  unfold Y15 at h; split at h
  ·rename_i id p
   unfold Yni at h; split at h
   ·rename_i xs hat
    obtain⟨h1,h2⟩:=X1 h
    simp only[Bool.and_eq_true,decide_eq_true_eq,List.all_eq_true]at h1
    simp only[X4r,hat,Xqg]
    exact⟨h1.1,h1.2,h2⟩
   ·exact h.elim
  ·exact h.elim
 case gld g n ag x=>
  split at h
  ·rename_i y hy
   obtain⟨h1,h2⟩:=X1 h
   simp only[Bool.and_eq_true,decide_eq_true_eq,beq_iff_eq]at h1
   have e:=D.eqb_eq _ _ h1.2
   subst e
   exact⟨hR.gl g _ hy,h1.1.1,h1.1.2,h2⟩
  ·exact h.elim
end

inductive Rq where
 | ok (sl:Xf) (ob:Xb)
 | pn (v:V) (sl:Xf) (ob:Xb)
 | no
def Rq.to (K:Xf->Xb->Prop)(Pn:V->Xf->Xb->Prop):Rq->Prop
 | .ok sl ob=>K sl ob
 | .pn v sl ob=>Pn v sl ob
 | .no=>False

mutual
def V.ids:V->List Nat
 | .ptr id _=>[id]
 | .sl id _=>[id]
 | .sd id _=>[id]
 | .mp id=>[id]
 | .hd _ id=>[id]
 | .ep id _ _ _ _ _=>[id]
 | .bs id _ _ _=>[id]
 | .fn _ a b=>V.idss a++V.idss b
 | .agg xs=>V.idss xs
 | .iface _ v=>V.ids v
 | .tup xs=>V.idss xs
 | _=>[]
def V.idss:List V->List Nat
 | []=>[]
 | x::r=>V.ids x++V.idss r
end
def Yqf:Xf->List Nat
 | []=>[]
 | (_,v)::r=>V.ids v++Yqf r
def Xus:Xb->List Nat
 | []=>[]
 | (_,.box _ t)::r=>V.ids t++Xus r
 | (_,.vec _ _ xs)::r=>V.idss xs++Xus r
 | (_,.map es)::r=>V.idss (es.map (·.2))++Xus r
 | (_,.lp _ _ sl)::r=>Yqf sl++Xus r
 | (_,.it (some j) _ _)::r=>j::Xus r
 | _::r=>Xus r

def Xqt (R:Fns)(sl:Xf)(ob:Xb)(d:Option Nat)(i:I)(k:Xf->Xb->Rq):Rq:=match i.run R sl ob with
 | .ok v ob'=>k (put sl d v) ob'
 | .pn v ob'=>.pn v sl ob'
 | .no=>.no
def X2h (R:Fns):List It->Xf->Xb->Rq
 | [],sl,ob=>.ok sl ob
 | .op d i::r,sl,ob=>Xqt R sl ob d i (X2h R r)
 | .gop s want d i::r,sl,ob=>match look sl s with
  | .d (.bool b)=>bif b==want then Xqt R ((s,.d (.bool want))::sl) ob d i (X2h R r) else X2h R r (put ((s,.d (.bool (!want)))::sl) d .undef) ob
  | .undef=>X2h R r (put sl d .undef) ob
  | _=>.no

theorem Vp {P:Prg}{R:Fns}(hR:R.ok P){sl:Xf}{ob:Xb}{d:Option Nat}{i:I}{k:Xf->Xb->Rq}{k' K:Xf->Xb->Prop}{Pn:V->Xf->Xb->Prop}(hk:∀sl ob,(k sl ob).to K Pn->k' sl ob)(h:(Xqt R sl ob d i k).to K Pn) :
  i.wp P sl ob (fun v ob'=>k' (put sl d v) ob') (fun v ob'=>Pn v sl ob'):=by
 refine I.run_sound hR ?_
 unfold Xqt at h
 split at h
 ·rename_i e; rw[e]; exact hk _ _ h
 ·rename_i e; rw[e]; exact h
 ·exact h.elim
theorem Z0 {P:Prg}{R:Fns}(hR:R.ok P){K:Xf->Xb->Prop}{Pn:V->Xf->Xb->Prop}:∀(l:List It) (sl:Xf) (ob:Xb),(X2h R l sl ob).to K Pn->rwp P K Pn l sl ob
 | [],sl,ob,h=>h
 | .op d i::r,sl,ob,h=>Vp hR (fun sl ob h=>Z0 hR r sl ob h) h
 | .gop s want d i::r,sl,ob,h=>by
  simp only[X2h]at h
  simp only[rwp]
  split at h
  ·rename_i b hb
   rw[hb]
   simp only[gdK]
   rw[Bool.cond_eq_ite]at h
   split at h
   ·rename_i e
    have e:b=want:=by simpa using e
    refine⟨fun _=>Vp hR (fun sl ob h=>Z0 hR r sl ob h) h,fun e2=>?_⟩
    rw[e]at e2; cases want<;>cases e2
   ·rename_i e
    have e:¬b=want:=by simpa using e
    exact⟨fun e2=>(e e2).elim,fun _=>Z0 hR r _ ob h⟩
  ·rename_i hb
   rw[hb]
   exact Z0 hR r _ ob h
  ·exact h.elim

mutual
def V.eqb:V->V->Bool
 | .d x,.d y=>D.eqb x y
 | .ptr i p,.ptr j q=>Nat.beq i j&&decide (p=q)
 | .sl i n,.sl j m=>Nat.beq i j&&Nat.beq n m
 | .sd i n,.sd j m=>Nat.beq i j&&Nat.beq n m
 | .mp i,.mp j=>Nat.beq i j
 | .hd a i,.hd b j=>a==b&&Nat.beq i j
 | .ep i n s k f p,.ep j m t l g q=>Nat.beq i j&&Nat.beq n m&&Nat.beq s t&&Nat.beq k l&&Nat.beq f g&&decide (p=q)
 | .bs i p k n,.bs j q l m=>Nat.beq i j&&Nat.beq k l&&Nat.beq n m&&decide (p=q)
 | .fn f a b,.fn g a2 b2=>Nat.beq f g&&V.eqbs a a2&&V.eqbs b b2
 | .agg a,.agg b=>V.eqbs a b
 | .iface t a,.iface u b=>Nat.beq t u&&V.eqb a b
 | .tup a,.tup b=>V.eqbs a b
 | .undef,.undef=>true
 | .any,.any=>true
 | _,_=>false
def V.eqbs:List V->List V->Bool
 | [],[]=>true
 | x::r,y::s=>V.eqb x y&&V.eqbs r s
 | _,_=>false
end
mutual
theorem V.eqb_eq:∀(x y:V),V.eqb x y=true->x=y
 | .d a,y,h=>by cases y<;>simp only[V.eqb,Bool.false_eq_true]at h; rw[D.eqb_eq _ _ h]
 | .ptr i p,y,h=>by cases y<;>simp only[V.eqb,Bool.false_eq_true,Bool.and_eq_true,decide_eq_true_eq]at h; rw[Nat.eq_of_beq_eq_true h.1,h.2]
 | .sl i n,y,h=>by cases y<;>simp only[V.eqb,Bool.false_eq_true,Bool.and_eq_true]at h; rw[Nat.eq_of_beq_eq_true h.1,Nat.eq_of_beq_eq_true h.2]
 | .sd i n,y,h=>by cases y<;>simp only[V.eqb,Bool.false_eq_true,Bool.and_eq_true]at h; rw[Nat.eq_of_beq_eq_true h.1,Nat.eq_of_beq_eq_true h.2]
 | .mp i,y,h=>by cases y<;>simp only[V.eqb,Bool.false_eq_true]at h; rw[Nat.eq_of_beq_eq_true h]
 | .hd a i,y,h=>by cases y<;>simp only[V.eqb,Bool.false_eq_true,Bool.and_eq_true,beq_iff_eq]at h; rw[h.1,Nat.eq_of_beq_eq_true h.2]
 | .ep i n s k f p,y,h=>by
  cases y<;>simp only[V.eqb,Bool.false_eq_true,Bool.and_eq_true,decide_eq_true_eq]at h
  rw[Nat.eq_of_beq_eq_true h.1.1.1.1.1,Nat.eq_of_beq_eq_true h.1.1.1.1.2,Nat.eq_of_beq_eq_true h.1.1.1.2,Nat.eq_of_beq_eq_true h.1.1.2,Nat.eq_of_beq_eq_true h.1.2,h.2]
 | .bs i p k n,y,h=>by
  cases y<;>simp only[V.eqb,Bool.false_eq_true,Bool.and_eq_true,decide_eq_true_eq]at h
  rw[Nat.eq_of_beq_eq_true h.1.1.1,Nat.eq_of_beq_eq_true h.1.1.2,Nat.eq_of_beq_eq_true h.1.2,h.2]
 | .fn f a b,y,h=>by
  cases y<;>simp only[V.eqb,Bool.false_eq_true,Bool.and_eq_true]at h
  rw[Nat.eq_of_beq_eq_true h.1.1,V.eqbs_eq _ _ h.1.2,V.eqbs_eq _ _ h.2]
 | .agg a,y,h=>by cases y<;>simp only[V.eqb,Bool.false_eq_true]at h; rw[V.eqbs_eq _ _ h]
 | .iface t a,y,h=>by cases y<;>simp only[V.eqb,Bool.false_eq_true,Bool.and_eq_true]at h; rw[Nat.eq_of_beq_eq_true h.1,V.eqb_eq _ _ h.2]
 | .tup a,y,h=>by cases y<;>simp only[V.eqb,Bool.false_eq_true]at h; rw[V.eqbs_eq _ _ h]
 | .undef,y,h=>by cases y<;>simp[V.eqb]at h; rfl
 | .any,y,h=>by cases y<;>simp[V.eqb]at h; rfl
theorem V.eqbs_eq:∀(x y:List V),V.eqbs x y=true->x=y
 | [],y,h=>by cases y<;>simp[V.eqbs]at h; rfl
 | x::r,y,h=>by
  cases y<;>simp only[V.eqbs,Bool.false_eq_true,Bool.and_eq_true]at h
  rw[V.eqb_eq _ _ h.1,V.eqbs_eq _ _ h.2]
end
def Ydu:List (D×V)->List (D×V)->Bool
 | [],[]=>true
 | (k,x)::r,(j,y)::s=>D.eqb k j&&V.eqb x y&&Ydu r s
 | _,_=>false
theorem Xug:∀(x y:List (D×V)),Ydu x y=true->x=y
 | [],y,h=>by cases y<;>simp[Ydu]at h; rfl
 | (k,x)::r,y,h=>by
  cases y<;>simp only[Ydu,Bool.false_eq_true,Bool.and_eq_true]at h
  rw[D.eqb_eq _ _ h.1.1,V.eqb_eq _ _ h.1.2,Xug _ _ h.2]
def X29:Xf->Xf->Bool
 | [],[]=>true
 | (k,x)::r,(j,y)::s=>Nat.beq k j&&V.eqb x y&&X29 r s
 | _,_=>false
theorem Xbw:∀(x y:Xf),X29 x y=true->x=y
 | [],y,h=>by cases y<;>simp[X29]at h; rfl
 | (k,x)::r,y,h=>by
  cases y<;>simp only[X29,Bool.false_eq_true,Bool.and_eq_true]at h
  rw[Nat.eq_of_beq_eq_true h.1.1,V.eqb_eq _ _ h.1.2,Xbw _ _ h.2]
def LSt.eqb:LSt->LSt->Bool
 | .ready,.ready=>true
 | .busy,.busy=>true
 | .ret,.ret=>true
 | .exit n,.exit m=>Nat.beq n m
 | _,_=>false
theorem LSt.eqb_eq (x y:LSt)(h:LSt.eqb x y=true):x=y:=by
 cases x<;>cases y<;>simp only[LSt.eqb,Bool.false_eq_true]at h
 ·rfl
 ·rfl
 ·rfl
 ·rw[Nat.eq_of_beq_eq_true h]
def Ob.eqb:Ob->Ob->Bool
 | .box E t,.box F u=>Nat.beq E F&&V.eqb t u
 | .arr E z a,.arr F y b=>Nat.beq E F&&Nat.beq z y&&D.eqbs a b
 | .vec E z a,.vec F y b=>Nat.beq E F&&Nat.beq z y&&V.eqbs a b
 | .map a,.map b=>Ydu a b
 | .gone,.gone=>true
 | .it a n l,.it b m k=>decide (a=b)&&Nat.beq n m&&decide (l=k)
 | .lp t s l,.lp u r k=>Nat.beq t u&&LSt.eqb s r&&X29 l k
 | _,_=>false
theorem Ob.eqb_eq (x y:Ob)(h:Ob.eqb x y=true):x=y:=by
 cases x<;>cases y<;>simp only[Ob.eqb,Bool.false_eq_true,Bool.and_eq_true]at h
 ·rw[Nat.eq_of_beq_eq_true h.1,V.eqb_eq _ _ h.2]
 ·rw[Nat.eq_of_beq_eq_true h.1.1,Nat.eq_of_beq_eq_true h.1.2,D.eqbs_eq _ _ h.2]
 ·rw[Nat.eq_of_beq_eq_true h.1.1,Nat.eq_of_beq_eq_true h.1.2,V.eqbs_eq _ _ h.2]
 ·rw[Xug _ _ h]
 ·rfl
 ·rw[Nat.eq_of_beq_eq_true h.1.1,LSt.eqb_eq _ _ h.1.2,Xbw _ _ h.2]
 ·simp only[decide_eq_true_eq]at h
  rw[h.1.1,Nat.eq_of_beq_eq_true h.1.2,h.2]
def Xx1:Xb->Xb->Bool
 | [],[]=>true
 | (k,x)::r,(j,y)::s=>Nat.beq k j&&Ob.eqb x y&&Xx1 r s
 | _,_=>false
theorem U2:∀(x y:Xb),Xx1 x y=true->x=y
 | [],y,h=>by cases y<;>simp[Xx1]at h; rfl
 | (k,x)::r,y,h=>by
  cases y<;>simp only[Xx1,Bool.false_eq_true,Bool.and_eq_true]at h
  rw[Nat.eq_of_beq_eq_true h.1.1,Ob.eqb_eq _ _ h.1.2,U2 _ _ h.2]
def Rq.eqb:Rq->Rq->Bool
 | .ok a b,.ok c d=>X29 a c&&Xx1 b d
 | .pn v a b,.pn u c d=>V.eqb v u&&X29 a c&&Xx1 b d
 | _,_=>false
theorem Rq.eqb_eq (x y:Rq)(h:Rq.eqb x y=true):x=y:=by
 cases x<;>cases y<;>simp only[Rq.eqb,Bool.false_eq_true,Bool.and_eq_true]at h
 ·rw[Xbw _ _ h.1,U2 _ _ h.2]
 ·rw[V.eqb_eq _ _ h.1.1,Xbw _ _ h.1.2,U2 _ _ h.2]
def X5j (x y:Rq):Rq:=bif Rq.eqb x y then x else .no
theorem Xyx {K:Xf->Xb->Prop}{Pn:V->Xf->Xb->Prop}{x y:Rq}(h:(X5j x y).to K Pn):x.to K Pn/\y.to K Pn:=by
 unfold X5j at h
 cases hb:Rq.eqb x y with
 | false=>rw[hb]at h; exact h.elim
 | true=>
  rw[hb]at h
  have:=Rq.eqb_eq x y hb
  subst this
  exact⟨h,h⟩
def itR (R:Fns)(k:Xf->Xb->Rq):It->Xf->Xb->Rq
 | .op d i,sl,ob=>Xqt R sl ob d i k
 | .gop s want d i,sl,ob=>match look sl s with
  | .d (.bool b)=>bif b==want then Xqt R ((s,.d (.bool want))::sl) ob d i k else k (put ((s,.d (.bool (!want)))::sl) d .undef) ob
  | .undef=>k (put sl d .undef) ob
  | _=>.no
def Xu1 (keep pk:List Nat):Rq->Rq
 | .ok sl ob=>.ok (Xk sl keep) ob
 | .pn v sl ob=>.pn v (Xk sl pk) ob
 | .no=>.no
mutual
def X4n (R:Fns)(keep pk:List Nat):Ot->Xf->Xb->Rq
 | .done,sl,ob=>.ok sl ob
 | .one _ x r,sl,ob=>itR R (X4n R keep pk r) x sl ob
 | .br l,sl,ob=>Xwl R keep pk l sl ob
def Xwl (R:Fns)(keep pk:List Nat):Ots->Xf->Xb->Rq
 | .nil,_,_=>.no
 | .cons _ x r .nil,sl,ob=>Xu1 keep pk (itR R (X4n R keep pk r) x sl ob)
 | .cons _ x r l,sl,ob=>X5j (Xu1 keep pk (itR R (X4n R keep pk r) x sl ob)) (Xwl R keep pk l sl ob)
end

abbrev Rs:=Option (AExit×Xf×Xb)
def Rs.to (Q:Yz):Rs->Prop
 | some (e,sl,ob)=>Q e sl ob
 | none=>False
def Y2b (keep:List Nat)(n:Nat)(sl:Xf)(ob:Xb):Option (Xf×Xb):=
 let kp:=Yqf (Xk sl keep)++Xus ob
 bif Wb (Xd n kp) (Xk sl keep)&&Xi (Xd n kp) (Za (Xd n kp) ob) then some (Xk sl keep,Za (Xd n kp) ob) else none
def X10 (keep:List Nat)(body:Xf->Xb->Rs):Nat->Xf->Xb->Rs
 | 0,_,_=>none
 | n+1,sl,ob=>match body sl ob with
  | some (.normal,sl',ob')=>match Y2b keep (Xa ob) sl' ob' with
   | some (sl2,ob2)=>X10 keep body n sl2 ob2
   | none=>none
  | r=>r
theorem Xd4 {sl:Xf}:∀(l:List Nat) (k:Nat),k∈l->look (Xk sl l) k=look sl k
 | j::r,k,h=>by
  simp only[Xk,look]
  split
  ·rename_i e; rw[e]
  ·rename_i e
   exact Xd4 r k ((List.mem_cons.1 h).resolve_left (fun e2=>e e2.symm))
theorem Xh7 {sl:Xf}{l:List Nat}:∀(m:List Nat),(∀k∈m,k∈l)->Xk (Xk sl l) m=Xk sl m
 | [],_=>rfl
 | k::r,h=>by
  simp only[Xk,Xd4 l k (h k (by simp)),Xh7 r (fun j hj=>h j (by simp[hj]))]
theorem Xd0 (sl:Xf)(l:List Nat):Xk (Xk sl l) l=Xk sl l:=Xh7 l fun _ h=>h
theorem Xn3 {Q:Yz}{keep pk:List Nat}{r:Rq}(h:(Xu1 keep pk r).to (fun sl ob=>Q .normal (Xk sl keep) ob) (fun v sl ob=>Q (.panic v) (Xk sl pk) ob)):r.to (fun sl ob=>Q .normal (Xk sl keep) ob) (fun v sl ob=>Q (.panic v) (Xk sl pk) ob):=by
 cases r with
 | ok sl ob=>simp only[Xu1,Rq.to,Xd0]at h⊢; exact h
 | pn v sl ob=>simp only[Xu1,Rq.to,Xd0]at h⊢; exact h
 | no=>exact h.elim
theorem V8 {P:Prg}{R:Fns}(hR:R.ok P){k:Xf->Xb->Rq}{k' K:Xf->Xb->Prop}{Pn:V->Xf->Xb->Prop}(hk:∀sl ob,(k sl ob).to K Pn->k' sl ob):∀(x:It) (sl:Xf) (ob:Xb),(itR R k x sl ob).to K Pn->itK P k' Pn x sl ob
 | .op d i,sl,ob,h=>Vp hR hk h
 | .gop s want d i,sl,ob,h=>by
  simp only[itR]at h
  simp only[itK]
  split at h
  ·rename_i b hb
   rw[hb]
   simp only[gdK]
   rw[Bool.cond_eq_ite]at h
   split at h
   ·rename_i e
    have e:b=want:=by simpa using e
    refine⟨fun _=>Vp hR hk h,fun e2=>?_⟩
    rw[e]at e2; cases want<;>cases e2
   ·rename_i e
    have e:¬b=want:=by simpa using e
    exact⟨fun e2=>(e e2).elim,fun _=>hk _ _ h⟩
  ·rename_i hb
   rw[hb]
   exact hk _ _ h
  ·exact h.elim
mutual
theorem Um {P:Prg}{R:Fns}(hR:R.ok P){Q:Yz}{keep pk:List Nat}:∀(t:Ot) (sl:Xf) (ob:Xb),(X4n R keep pk t sl ob).to (fun sl ob=>Q .normal (Xk sl keep) ob) (fun v sl ob=>Q (.panic v) (Xk sl pk) ob)->owp P (fun sl ob=>Q .normal (Xk sl keep) ob) (fun v sl ob=>Q (.panic v) (Xk sl pk) ob) t sl ob
 | .done,sl,ob,h=>by simp only[X4n]at h; simp only[owp]; exact h
 | .one _ x r,sl,ob,h=>by
  simp only[X4n]at h
  simp only[owp]
  exact V8 hR (fun sl ob h=>Um hR r sl ob h) x sl ob h
 | .br l,sl,ob,h=>by simp only[X4n]at h; simp only[owp]; exact Xcf hR l sl ob h
theorem Xcf {P:Prg}{R:Fns}(hR:R.ok P){Q:Yz}{keep pk:List Nat}:∀(l:Ots) (sl:Xf) (ob:Xb),(Xwl R keep pk l sl ob).to (fun sl ob=>Q .normal (Xk sl keep) ob) (fun v sl ob=>Q (.panic v) (Xk sl pk) ob)->Xda P (fun sl ob=>Q .normal (Xk sl keep) ob) (fun v sl ob=>Q (.panic v) (Xk sl pk) ob) l sl ob
 | .nil,sl,ob,h=>by simp only[Xda]
 | .cons _ x r .nil,sl,ob,h=>by
  simp only[Xwl]at h
  simp only[Xda,and_true]
  exact V8 hR (fun sl ob h=>Um hR r sl ob h) x sl ob (Xn3 h)
 | .cons _ x r (.cons i y s l),sl,ob,h=>by
  simp only[Xwl]at h
  rw[Xda]
  obtain⟨h1,h2⟩:=Xyx h
  exact⟨V8 hR (fun sl ob h=>Um hR r sl ob h) x sl ob (Xn3 h1),Xcf hR (.cons i y s l) sl ob h2⟩
end
def Y10 (slk:Xf)(id:Nat)(ob:Xb):Option Ob->Rs
 | some (.lp _ .ready _)=>some (.normal,slk,setO ob id .gone)
 | some (.lp _ .ret _)=>some (.ret,slk,setO ob id .gone)
 | some (.lp _ (.exit n) _)=>some (.exit n,slk,setO ob id .gone)
 | _=>none
def Yop (slk:Xf)(id:Nat):Option (Out×Xb)->Rs
 | some (.ret _,ob)=>Y10 slk id ob (Xe ob id)
 | _=>none
def rgR (R:Fns)(tag:Nat)(slk:Xf)(ob:Xb):V->Rs
 | .fn f fi ca=>bif R.ca f then Yop slk (Xa ob) (R.call f (fi++[.hd true (Xa ob)]++ca) ((Xa ob,.lp tag .ready slk)::ob)) else none
 | .d (.fn f fi ca)=>bif R.ca f then Yop slk (Xa ob) (R.call f (fi.map .d++[.hd true (Xa ob)]++ca.map .d) ((Xa ob,.lp tag .ready slk)::ob)) else none
 | _=>none
def S.loops (P:Prg):S->Prop
 | .seq a b=>a.loops P/\b.loops P
 | .cond _ a b=>a.loops P/\b.loops P
 | .block _ a=>a.loops P
 | .loop _ a=>a.loops P
 | .rgf tag ps _ x y _=>W5 P tag ps x y
 | _=>True
theorem S.loops_noR {P:Prg}:∀s:S,s.noR=true->s.loops P
 | .seq a b,h=>by simp only[S.noR,Bool.and_eq_true]at h; exact⟨S.loops_noR a h.1,S.loops_noR b h.2⟩
 | .cond _ a b,h=>by simp only[S.noR,Bool.and_eq_true]at h; exact⟨S.loops_noR a h.1,S.loops_noR b h.2⟩
 | .block _ a,h=>S.loops_noR a h
 | .loop _ a,h=>S.loops_noR a h
 | .rgf _ _ _ _ _ _,h=>by simp[S.noR]at h
 | .rg _ _ _ _,_ | .rgT _ _ _ _,_ | .skip,_ | .exit _,_ | .ret,_=>trivial
theorem Xwv {R:Fns}{P:Prg}{f:Nat}{vs:List V}{ob0:Xb}{slk:Xf}{id:Nat}{Q:Yz}(hR:R.ok P)(h:(Yop slk id (R.call f vs ob0)).to Q):ACall P f vs ob0 (rgQ Q slk id):=by
 unfold Yop at h
 split at h
 ·rename_i v b hc
  refine (hR.call f vs ob0 _ _ hc).mono fun o b' ⟨e1,e2⟩=>?_
  subst e1; subst e2
  simp only[rgQ]
  generalize Xe b' id=z at h⊢
  unfold Y10 at h; split at h
  ·exact h
  ·exact h
  ·exact h
  ·exact h.elim
 ·exact h.elim
def S.run (R:Fns)(L:Nat):S->Xf->Xb->Rs
 | .rg _ l keep pk,sl,ob=>match X2h R l sl ob with
  | .ok sl' ob'=>some (.normal,Xk sl' keep,ob')
  | .pn v sl' ob'=>some (.panic v,Xk sl' pk,ob')
  | .no=>none
 | .rgT _ t keep pk,sl,ob=>match X4n R keep pk t sl ob with
  | .ok sl' ob'=>some (.normal,Xk sl' keep,ob')
  | .pn v sl' ob'=>some (.panic v,Xk sl' pk,ob')
  | .no=>none
 | .seq a b,sl,ob=>match S.run R L a sl ob with
  | some (.normal,sl',ob')=>S.run R L b sl' ob'
  | r=>r
 | .skip,sl,ob=>some (.normal,sl,ob)
 | .cond c a b,sl,ob=>match c.ev sl with
  | .d (.bool t)=>bif t then S.run R L a sl ob else S.run R L b sl ob
  | _=>none
 | .block n a,sl,ob=>match S.run R L a sl ob with
  | some (.exit m,sl',ob')=>bif decide (m=n) then some (.normal,sl',ob') else some (.exit m,sl',ob')
  | r=>r
 | .loop keep a,sl,ob=>X10 keep (S.run R L a) L (Xk sl keep) ob
 | .exit n,sl,ob=>some (.exit n,sl,ob)
 | .ret,sl,ob=>some (.ret,sl,ob)
 | .rgf tag _ g _ _ keep,sl,ob=>rgR R tag (Xk sl keep) ob (g.ev sl)

theorem S.run_sound {P:Prg}{R:Fns}(hR:R.ok P){L:Nat}:∀(s:S) (Q:Yz) (sl:Xf) (ob:Xb),s.loops P->(s.run R L sl ob).to Q->cwp P s Q sl ob
 | .rg _ l keep pk,Q,sl,ob,hl,h=>by
  simp only[S.run]at h
  simp only[cwp]
  refine Z0 hR _ _ _ ?_
  split at h
  ·rename_i e; rw[e]; exact h
  ·rename_i e; rw[e]; exact h
  ·exact h.elim
 | .rgT _ t keep pk,Q,sl,ob,hl,h=>by
  simp only[S.run]at h
  simp only[cwp]
  refine Um hR _ _ _ ?_
  split at h
  ·rename_i e; rw[e]; exact h
  ·rename_i e; rw[e]; exact h
  ·exact h.elim
 | .seq a b,Q,sl,ob,hl,h=>by
  simp only[S.run]at h
  simp only[cwp]
  refine S.run_sound (L:=L) hR a _ sl ob hl.1 ?_
  split at h
  ·rename_i e; rw[e]; exact S.run_sound (L:=L) hR b Q _ _ hl.2 h
  ·rename_i hne
   revert h hne
   generalize S.run R L a sl ob=r
   intro hne h
   cases r with
   | none=>exact h.elim
   | some x=>
    obtain⟨e,sl',ob'⟩:=x
    cases e with
    | normal=>exact (hne _ _ rfl).elim
    | exit n=>exact h
    | ret=>exact h
    | panic v=>exact h
 | .skip,Q,sl,ob,hl,h=>h
 | .cond c a b,Q,sl,ob,hl,h=>by
  simp only[S.run]at h
  simp only[cwp]
  split at h
  ·rename_i t ht
   rw[ht]
   cases t
   ·exact⟨fun e=>(by cases e),fun _=>S.run_sound (L:=L) hR b Q sl ob hl.2 h⟩
   ·exact⟨fun _=>S.run_sound (L:=L) hR a Q sl ob hl.1 h,fun e=>(by cases e)⟩
  ·exact h.elim
 | .block n a,Q,sl,ob,hl,h=>by
  simp only[S.run]at h
  simp only[cwp]
  refine S.run_sound (L:=L) hR a _ sl ob hl ?_
  split at h
  ·rename_i m sl' ob' e
   rw[e]
   rw[Bool.cond_eq_ite]at h
   simp only[Rs.to,Zf]
   by_cases hm:m=n
   ·simp only[hm,decide_true,if_true]at h⊢; exact h
   ·simp only[hm,decide_false,Bool.false_eq_true,if_false]at h⊢; exact h
  ·rename_i hne
   revert h hne
   generalize S.run R L a sl ob=r
   intro hne h
   cases r with
   | none=>exact h.elim
   | some x=>
    obtain⟨e,sl',ob'⟩:=x
    cases e with
    | normal=>exact h
    | exit n=>exact (hne _ _ _ rfl).elim
    | ret=>exact h
    | panic v=>exact h
 | .loop keep a,Q,sl,ob,hl,h=>by
  simp only[S.run]at h
  simp only[cwp]
  refine ALoop.of (ι:=Nat×Xf×Xb) (fun x=>x.2.1) (fun x=>x.2.2) (fun x=>(X10 keep (S.run R L a) x.1 x.2.1 x.2.2).to Q) (fun x=>x.1) (L,Xk sl keep,ob) h rfl rfl ?_
  rintro⟨n,sl1,ob1⟩ h1
  refine S.run_sound (L:=L) hR a _ _ _ hl ?_
  simp only at h1⊢
  cases n with
  | zero=>exact h1.elim
  | succ n=>
   simp only[X10]at h1
   split at h1
   ·rename_i sl' ob' e
    rw[e]
    split at h1
    ·rename_i sl2 ob2 e2
     unfold Y2b at e2
     rw[Bool.cond_eq_ite]at e2
     split at e2
     ·rename_i hc
      simp only[Bool.and_eq_true]at hc
      cases e2
      exact⟨_,hc.1,hc.2,(n,_,_),h1,Nat.lt_succ_self n,rfl,rfl⟩
     ·cases e2
    ·exact h1.elim
   ·rename_i hne
    revert h1 hne
    generalize S.run R L a sl1 ob1=r
    intro hne h1
    cases r with
    | none=>exact h1.elim
    | some x=>
     obtain⟨e,sl',ob'⟩:=x
     cases e with
     | normal=>exact (hne _ _ rfl).elim
     | exit n=>exact h1
     | ret=>exact h1
     | panic v=>exact h1
 | .exit n,Q,sl,ob,hl,h=>h
 | .ret,Q,sl,ob,hl,h=>h
 | .rgf tag ps g x y keep,Q,sl,ob,hl,h=>by
  simp only[S.run]at h
  simp only[cwp]
  refine⟨hl,?_⟩
  generalize g.ev sl=v at h⊢
  unfold rgR at h; split at h
  ·rw[Bool.cond_eq_ite]at h
   split at h
   ·rename_i hc; exact⟨hR.ca _ hc,Xwv hR h⟩
   ·exact h.elim
  ·rw[Bool.cond_eq_ite]at h
   split at h
   ·rename_i hc; exact⟨hR.ca _ hc,Xwv hR h⟩
   ·exact h.elim
  ·exact h.elim

def Ym9 (id n:Nat)(st:LSt)(ob:Xb)(o:Out):Option Ob->Option (Out×Xb)
 | some (.lp tag _ slk)=>
  let b:=setO ob id (.lp tag st slk)
  let kp:=Xus b
  bif Xi (Xd n kp) (Za (Xd n kp) b) then some (o,Za (Xd n kp) b) else none
 | _=>none
def Y1z (id n:Nat):Rs->Option (Out×Xb)
 | some (.normal,_,ob)=>Ym9 id n .ready ob (.ret (.d (.bool true))) (Xe ob id)
 | some (.ret,_,ob)=>Ym9 id n .ret ob (.ret (.d (.bool false))) (Xe ob id)
 | some (.exit m,_,ob)=>Ym9 id n (.exit m) ob (.ret (.d (.bool false))) (Xe ob id)
 | _=>none
def Y1y (R:Fns)(L:Nat)(y:S)(id n:Nat)(sl:Xf)(ob:Xb):Option Ob->Option (Out×Xb)
 | some (.lp tag .ready slk)=>Y1z id n (y.run R L sl (setO ob id (.lp tag .busy slk)))
 | _=>none
def ydR (R:Fns)(L:Nat)(lt:Nat->Option (List Nat×S×S))(id:Nat)(vs:List V)(ob:Xb):Option (Out×Xb):=match Xe ob id with
 | some (.lp tag .ready slk)=>(match lt tag with
  | some (ps,x,y)=>bif Nat.beq vs.length ps.length then
    (match x.run R L (Jm slk ps vs) ob with
     | some (.normal,sl,ob')=>Y1y R L y id (Xa ob) sl ob' (Xe ob' id)
     | _=>none)
   else none
  | none=>none)
 | _=>none
theorem Xxx {P:Prg}(hm:P.p.follows .mixedOrders=true){R:Fns}(hR:R.ok P){L:Nat}{lt:Nat->Option (List Nat×S×S)}(hlt:∀tag ps x y,lt tag=some (ps,x,y)->W5 P tag ps x y/\x.noR=true/\y.noR=true){id:Nat}{vs:List V}{ob b:Xb}{o:Out}(h:ydR R L lt id vs ob=some (o,b)) :
  AYield P id vs ob fun o' b'=>o'=o/\b'=b:=by
 unfold ydR at h
 split at h
 ·rename_i tag slk hl
  split at h
  ·rename_i ps x y ht
   obtain⟨hL,hnx,hny⟩:=hlt _ _ _ _ ht
   rw[Bool.cond_eq_ite]at h
   split at h
   ·rename_i hlen
    refine AYield.of hm hL hl (Nat.eq_of_beq_eq_true hlen) (S.run_sound (L:=L) hR x _ _ _ (S.loops_noR x hnx) ?_)
    split at h
    ·rename_i sl ob' e
     rw[e]
     simp only[Rs.to,rdA]
     generalize Xe ob' id=z at h⊢
     unfold Y1y at h; split at h
     ·rename_i tg sk
      simp only[rdB]
      refine S.run_sound (L:=L) hR y _ _ _ (S.loops_noR y hny) ?_
      generalize y.run R L sl (setO ob' id (.lp tg .busy sk))=w at h⊢
      have fin:∀{st:LSt} {q:Xb} {v:Bool} {u:Option Ob},Ym9 id (Xa ob) st q (.ret (.d (.bool v))) u=some (o,b)->rdE id (Xa ob) st q (fun b'=>(Out.ret (.d (.bool v))=o)/\b'=b) u:=by
       intro st q v u h
       unfold Ym9 at h; split at h
       ·simp only at h
        rw[Bool.cond_eq_ite]at h
        split at h
        ·rename_i hc
         simp only[Option.some.injEq,Prod.mk.injEq]at h
         exact⟨_,rfl,hc,h.1,h.2⟩
        ·cases h
       ·cases h
      unfold Y1z at h; split at h
      ·exact fin h
      ·exact fin h
      ·exact fin h
      ·cases h
     ·cases h
    ·cases h
   ·cases h
  ·cases h
 ·cases h
end Go.Ab
namespace Go.Ab
open Go

def Yxw (x y:Xf×Xb):Bool:=X29 x.1 y.1&&Xx1 x.2 y.2
def X1h (x:Xf×Xb):List (Xf×Xb)->Bool
 | []=>false
 | y::r=>bif Yxw x y then true else X1h x r
def Xqv:List (Xf×Xb)->List (Xf×Xb)->List (Xf×Xb)
 | [],l=>l
 | x::r,l=>bif X1h x l then Xqv r l else x::Xqv r l
theorem Xhz {x:Xf×Xb}:∀{l:List (Xf×Xb)},X1h x l=true->x∈l
 | [],h=>by cases h
 | y::r,h=>by
  simp only[X1h,Bool.cond_eq_ite]at h
  split at h
  ·rename_i e
   simp only[Yxw,Bool.and_eq_true]at e
   have:x=y:=Prod.ext (Xbw _ _ e.1) (U2 _ _ e.2)
   exact this▸List.mem_cons_self
  ·exact List.mem_cons_of_mem _ (Xhz h)
theorem Ue {y:Xf×Xb}:∀(a l:List (Xf×Xb)),(y∈a\/y∈l)->y∈Xqv a l
 | [],l,h=>by simpa[Xqv]using h
 | x::r,l,h=>by
  simp only[Xqv,Bool.cond_eq_ite]
  split
  ·rename_i e
   refine Ue r l ?_
   rcases h with h | h
   ·rcases List.mem_cons.1 h with h | h
    ·exact .inr (h▸Xhz e)
    ·exact .inl h
   ·exact .inr h
  ·rcases h with h | h
   ·rcases List.mem_cons.1 h with h | h
    ·exact h▸List.mem_cons_self
    ·exact List.mem_cons_of_mem _ (Ue r l (.inl h))
   ·exact List.mem_cons_of_mem _ (Ue r l (.inr h))

def Yxe:Option (List (Xf×Xb))->Option (List (Xf×Xb))->Option (List (Xf×Xb))
 | some a,some b=>some (Xqv a b)
 | _,_=>none
def Yw7 (k:Xf->Xb->Option (List (Xf×Xb))):Rq->Option (List (Xf×Xb))
 | .ok sl ob=>k sl ob
 | _=>none
mutual
def Xf8 (R:Fns)(keep:List Nat):Ot->Xf->Xb->Option (List (Xf×Xb))
 | .done,sl,ob=>some [(Xk sl keep,ob)]
 | .one _ x r,sl,ob=>Yw7 (Xf8 R keep r) (itR R .ok x sl ob)
 | .br l,sl,ob=>Xoq R keep l sl ob
def Xoq (R:Fns)(keep:List Nat):Ots->Xf->Xb->Option (List (Xf×Xb))
 | .nil,_,_=>some []
 | .cons _ x r l,sl,ob=>Yxe (Yw7 (Xf8 R keep r) (itR R .ok x sl ob)) (Xoq R keep l sl ob)
end
def Xep (Q:Xf->Xb->Prop)(o:Option (List (Xf×Xb))):Prop:=∃l,o=some l/\∀r∈l,Q r.1 r.2
theorem X2r {Q:Xf->Xb->Prop}{a b:Option (List (Xf×Xb))}(h:Xep Q (Yxe a b)):Xep Q a/\Xep Q b:=by
 obtain⟨l,e,h⟩:=h
 cases a<;>cases b<;>simp only[Yxe,Option.some.injEq,reduceCtorEq]at e
 subst e
 exact⟨⟨_,rfl,fun r hr=>h r (Ue _ _ (.inl hr))⟩,⟨_,rfl,fun r hr=>h r (Ue _ _ (.inr hr))⟩⟩
theorem Xwk {Q:Xf->Xb->Prop}{Pn:V->Xf->Xb->Prop}{k:Xf->Xb->Option (List (Xf×Xb))}{q:Rq}(h:Xep Q (Yw7 k q)):q.to (fun sl ob=>Xep Q (k sl ob)) Pn:=by
 cases q with
 | ok sl ob=>exact h
 | pn v sl ob=>obtain⟨l,e,_⟩:=h; cases e
 | no=>obtain⟨l,e,_⟩:=h; cases e
mutual
theorem Qa {P:Prg}{R:Fns}(hR:R.ok P){Q:Xf->Xb->Prop}{Pn:V->Xf->Xb->Prop}{keep:List Nat}:∀(t:Ot) (sl:Xf) (ob:Xb),Xep Q (Xf8 R keep t sl ob)->owp P (fun sl ob=>Q (Xk sl keep) ob) Pn t sl ob
 | .done,sl,ob,h=>by
  obtain⟨l,e,h⟩:=h
  simp only[Xf8,Option.some.injEq]at e
  subst e
  exact h _ (List.mem_singleton.2 rfl)
 | .one i x r,sl,ob,h=>by
  simp only[Xf8]at h
  rw[owp]
  exact V8 (k:=.ok) (K:=fun sl ob=>Xep Q (Xf8 R keep r sl ob)) hR (fun sl ob h=>Qa hR r sl ob h) x sl ob (Xwk h)
 | .br l,sl,ob,h=>by
  simp only[Xf8]at h
  rw[owp]
  exact Xai hR l sl ob h
theorem Xai {P:Prg}{R:Fns}(hR:R.ok P){Q:Xf->Xb->Prop}{Pn:V->Xf->Xb->Prop}{keep:List Nat}:∀(l:Ots) (sl:Xf) (ob:Xb),Xep Q (Xoq R keep l sl ob)->Xda P (fun sl ob=>Q (Xk sl keep) ob) Pn l sl ob
 | .nil,sl,ob,h=>by rw[Xda]; trivial
 | .cons i x r l,sl,ob,h=>by
  simp only[Xoq]at h
  rw[Xda]
  obtain⟨h1,h2⟩:=X2r h
  exact⟨V8 (k:=.ok) (K:=fun sl ob=>Xep Q (Xf8 R keep r sl ob)) hR (fun sl ob h=>Qa hR r sl ob h) x sl ob (Xwk h1),Xai hR l sl ob h2⟩
end

abbrev Rm:=Option (List (AExit×Xf×Xb))
def Rm.to (Q:Yz)(r:Rm):Prop:=∃l,r=some l/\∀x∈l,Q x.1 x.2.1 x.2.2
def Yp6:Rm->Rm->Rm
 | some a,some b=>some (a++b)
 | _,_=>none
def Xyw (f:AExit×Xf×Xb->Rm):List (AExit×Xf×Xb)->Rm
 | []=>some []
 | [x]=>f x
 | x::r=>Yp6 (f x) (Xyw f r)
theorem X52 {Q:Yz}{a b:Rm}(h:(Yp6 a b).to Q):a.to Q/\b.to Q:=by
 obtain⟨l,e,h⟩:=h
 cases a<;>cases b<;>simp only[Yp6,Option.some.injEq,reduceCtorEq]at e
 subst e
 exact⟨⟨_,rfl,fun x hx=>h x (List.mem_append_left _ hx)⟩,⟨_,rfl,fun x hx=>h x (List.mem_append_right _ hx)⟩⟩
theorem Xes {Q:Yz}{f:AExit×Xf×Xb->Rm}:∀{l:List (AExit×Xf×Xb)},(Xyw f l).to Q->∀x∈l,(f x).to Q
 | [],_,x,hx=>by cases hx
 | [y],h,x,hx=>by
  rw[List.mem_singleton.1 hx]
  exact h
 | y::z::r,h,x,hx=>by
  obtain⟨h1,h2⟩:=X52 h
  rcases List.mem_cons.1 hx with e | hx
  ·exact e▸h1
  ·exact Xes h2 x hx
def Yw8:Rs->Rm
 | some x=>some [x]
 | none=>none
def Y8f (f:Xf->Xb->Rm)(x:AExit×Xf×Xb):Rm:=match x with
 | (.normal,sl,ob)=>f sl ob
 | x=>some [x]
def Yxn (n:Nat)(x:AExit×Xf×Xb):Rm:=match x with
 | (.exit m,sl,ob)=>bif decide (m=n) then some [(.normal,sl,ob)] else some [(.exit m,sl,ob)]
 | x=>some [x]
def S.runM (R:Fns)(L:Nat):S->Xf->Xb->Rm
 | .rgT _ t keep _,sl,ob=>(Xf8 R keep t sl ob).map fun l=>l.map fun x=>(.normal,x.1,x.2)
 | .seq a b,sl,ob=>match S.runM R L a sl ob with
  | some l=>Xyw (Y8f (S.runM R L b)) l
  | none=>none
 | .cond c a b,sl,ob=>match c.ev sl with
  | .d (.bool t)=>bif t then S.runM R L a sl ob else S.runM R L b sl ob
  | _=>none
 | .block n a,sl,ob=>match S.runM R L a sl ob with
  | some l=>Xyw (Yxn n) l
  | none=>none
 | s,sl,ob=>Yw8 (s.run R L sl ob)
theorem Jz {Q:Yz}{r:Rs}(h:(Yw8 r).to Q):r.to Q:=by
 obtain⟨l,e,h⟩:=h
 cases r<;>simp only[Yw8,Option.some.injEq,reduceCtorEq]at e
 subst e
 exact h _ (List.mem_singleton.2 rfl)
theorem Rm.mono {Q Q':Yz}{r:Rm}(h:r.to Q)(hm:∀e s o,Q e s o->Q' e s o):r.to Q':=by
 obtain⟨l,e,h⟩:=h
 exact⟨l,e,fun x hx=>hm _ _ _ (h x hx)⟩
theorem S.runM_sound {P:Prg}{R:Fns}(hR:R.ok P){L:Nat}:∀(s:S) (Q:Yz) (sl:Xf) (ob:Xb),s.loops P->(s.runM R L sl ob).to Q->cwp P s Q sl ob
 | .rgT _ t keep pk,Q,sl,ob,hl,h=>by
  simp only[S.runM]at h
  obtain⟨l,e,h⟩:=h
  rw[Option.map_eq_some_iff]at e
  obtain⟨m,e1,rfl⟩:=e
  simp only[cwp]
  exact Qa hR t sl ob ⟨m,e1,fun r hr=>h (.normal,r.1,r.2) (List.mem_map.2 ⟨r,hr,rfl⟩)⟩
 | .seq a b,Q,sl,ob,hl,h=>by
  simp only[S.runM]at h
  simp only[cwp]
  refine S.runM_sound (L:=L) hR a _ sl ob hl.1 ?_
  split at h
  ·rename_i l e
   rw[e]
   refine⟨l,rfl,fun x hx=>?_⟩
   have h1:=Xes h x hx
   obtain⟨ae,s1,o1⟩:=x
   cases ae with
   | normal=>exact S.runM_sound (L:=L) hR b Q s1 o1 hl.2 h1
   | exit n=>obtain⟨_,e,h⟩:=h1; cases e; exact h _ (List.mem_singleton.2 rfl)
   | ret=>obtain⟨_,e,h⟩:=h1; cases e; exact h _ (List.mem_singleton.2 rfl)
   | panic v=>obtain⟨_,e,h⟩:=h1; cases e; exact h _ (List.mem_singleton.2 rfl)
  ·obtain⟨_,e,_⟩:=h; cases e
 | .cond c a b,Q,sl,ob,hl,h=>by
  simp only[S.runM]at h
  simp only[cwp]
  split at h
  ·rename_i t ht
   rw[ht]
   cases t
   ·exact⟨fun e=>(by cases e),fun _=>S.runM_sound (L:=L) hR b Q sl ob hl.2 h⟩
   ·exact⟨fun _=>S.runM_sound (L:=L) hR a Q sl ob hl.1 h,fun e=>(by cases e)⟩
  ·obtain⟨_,e,_⟩:=h; cases e
 | .block n a,Q,sl,ob,hl,h=>by
  simp only[S.runM]at h
  simp only[cwp]
  refine S.runM_sound (L:=L) hR a _ sl ob hl ?_
  split at h
  ·rename_i l e
   rw[e]
   refine⟨l,rfl,fun x hx=>?_⟩
   have h1:=Xes h x hx
   obtain⟨ae,s1,o1⟩:=x
   cases ae with
   | normal=>obtain⟨_,e,h⟩:=h1; cases e; exact h _ (List.mem_singleton.2 rfl)
   | exit m=>
    simp only[Yxn,Bool.cond_eq_ite]at h1
    simp only[Zf]
    by_cases hm:m=n
    ·simp only[hm,decide_true,if_true]at h1⊢; obtain⟨_,e,h⟩:=h1; cases e; exact h _ (List.mem_singleton.2 rfl)
    ·simp only[hm,decide_false,Bool.false_eq_true,if_false]at h1⊢; obtain⟨_,e,h⟩:=h1; cases e; exact h _ (List.mem_singleton.2 rfl)
   | ret=>obtain⟨_,e,h⟩:=h1; cases e; exact h _ (List.mem_singleton.2 rfl)
   | panic v=>obtain⟨_,e,h⟩:=h1; cases e; exact h _ (List.mem_singleton.2 rfl)
  ·obtain⟨_,e,_⟩:=h; cases e
 | .rg o l k p,Q,sl,ob,hl,h=>S.run_sound (L:=L) hR (.rg o l k p) Q sl ob hl (Jz h)
 | .skip,Q,sl,ob,hl,h=>S.run_sound (L:=L) hR .skip Q sl ob hl (Jz h)
 | .loop k a,Q,sl,ob,hl,h=>S.run_sound (L:=L) hR (.loop k a) Q sl ob hl (Jz h)
 | .exit n,Q,sl,ob,hl,h=>S.run_sound (L:=L) hR (.exit n) Q sl ob hl (Jz h)
 | .ret,Q,sl,ob,hl,h=>S.run_sound (L:=L) hR .ret Q sl ob hl (Jz h)
 | .rgf t ps g x y k,Q,sl,ob,hl,h=>S.run_sound (L:=L) hR (.rgf t ps g x y k) Q sl ob hl (Jz h)
def Ycv {α:Type}(eq:α->α->Bool)(f:Rs->Option α):Rm->Option α
 | none=>none
 | some l=>go l
where go:List (AExit×Xf×Xb)->Option α
 | []=>none
 | [x]=>f (some x)
 | x::r=>match f (some x),go r with
  | some a,some b=>bif eq a b then some a else none
  | _,_=>none
theorem Xr7 {α:Type}{eq:α->α->Bool}(he:∀x y,eq x y=true->x=y){f:Rs->Option α}{a:α}:∀{l:List (AExit×Xf×Xb)},Ycv.go eq f l=some a->∀x∈l,f (some x)=some a
 | [],h,x,hx=>by cases hx
 | [y],h,x,hx=>by rw[List.mem_singleton.1 hx]; exact h
 | y::z::r,h,x,hx=>by
  simp only[Ycv.go]at h
  split at h
  ·rename_i a' b h1 h2
   rw[Bool.cond_eq_ite]at h
   split at h
   ·rename_i e
    cases h
    rcases List.mem_cons.1 hx with e' | hx
    ·exact e'▸h1
    ·exact (he _ _ e)▸Xr7 he h2 x hx
   ·cases h
  ·cases h
theorem Xr8 {α:Type}{eq:α->α->Bool}(he:∀x y,eq x y=true->x=y){f:Rs->Option α}{a:α}{r:Rm}{Q:Yz}(h:Ycv eq f r=some a)(hf:∀x:AExit×Xf×Xb,f (some x)=some a->Rs.to Q (some x)):r.to Q:=by
 cases r with
 | none=>cases h
 | some l=>exact⟨l,rfl,fun x hx=>hf x (Xr7 he h x hx)⟩
def Out.eqb:Out->Out->Bool
 | .ret v,.ret u=>V.eqb v u
 | .panic v,.panic u=>V.eqb v u
 | _,_=>false
def Yqe (x y:Out×Xb):Bool:=Out.eqb x.1 y.1&&Xx1 x.2 y.2
theorem X6p (x y:Out×Xb)(h:Yqe x y=true):x=y:=by
 simp only[Yqe,Bool.and_eq_true]at h
 refine Prod.ext ?_ (U2 _ _ h.2)
 have h1:=h.1
 generalize x.1=a at h1⊢
 generalize y.1=b at h1⊢
 cases a<;>cases b<;>simp only[Out.eqb,Bool.false_eq_true]at h1
 ·rw[V.eqb_eq _ _ h1]
 ·rw[V.eqb_eq _ _ h1]
end Go.Ab
namespace Go.Ab
open Go

theorem X3b {p:Program}{f n:Nat}{s:S}{rs:List RV}(h:Xj p f n s rs=true):Us p f n s rs=true:=by
 simp only[Xj,Bool.and_eq_true]at h
 exact h.1
inductive FI where
 | pl (s:S) (rs:List RV) (n:Nat)
 | df (s:FSt) (rs:List RV) (n:Nat)
 | rc (its:List It) (keep:List Nat) (k:Nat) (s:S) (n:Nat)
  | kp (s:S) (rs:List RV) (n:Nat)
  | pr (s:S) (rs:List RV) (n:Nat)
  | br (s:S) (rs:List RV) (n:Nat)
def FI.ok (p:Program)(f:Nat):FI->Bool
 | .pl s rs n=>Xj p f n s rs
 | .kp s rs n=>Xj p f n s rs
 | .pr s rs n=>Us p f n s rs
 | .br s rs n=>Us p f n s rs
 | .df s rs n=>Xhq p f n s rs
 | .rc its _ k s n=>Xhd p f n k its s
def FSt.noR:FSt->Bool
 | .pre s r=>s.noR&&r.noR
 | .dfr _ _ _ s=>s.noR
def FSt.loops (P:Prg):FSt->Prop
 | .pre s r=>s.loops P/\r.loops P
 | .dfr _ _ _ s=>s.loops P
theorem FSt.loops_noR {P:Prg}:∀s:FSt,s.noR=true->s.loops P
 | .pre s r,h=>by simp only[FSt.noR,Bool.and_eq_true]at h; exact⟨S.loops_noR s h.1,FSt.loops_noR r h.2⟩
 | .dfr _ _ _ s,h=>S.loops_noR s h
def FI.nr:FI->Bool
 | .pl s _ _ | .kp s _ _ | .pr s _ _ | .br s _ _=>s.noR
 | .df s _ _=>s.noR
 | .rc _ _ _ s _=>s.noR
def FI.lps (P:Prg):FI->Prop
 | .pl s _ _ | .kp s _ _ | .pr s _ _ | .br s _ _=>s.loops P
 | .df s _ _=>s.loops P
 | .rc _ _ _ s _=>s.loops P
theorem FI.lps_nr {P:Prg}(x:FI)(h:x.nr=true):x.lps P:=by
 cases x<;>first | exact S.loops_noR _ h | exact FSt.loops_noR _ h
abbrev FT:=List (Nat×FI)
def U8:FT->Nat->Option FI
 | [],_=>none
 | (j,x)::r,k=>bif Nat.beq j k then some x else U8 r k
def FT.lps (P:Prg)(F:FT):Prop:=∀f x,U8 F f=some x->x.lps P
theorem FT.lps_nil {P:Prg}:FT.lps P []:=fun f x h=>by cases h
theorem FT.lps_cons {P:Prg}{f:Nat}{x:FI}{F:FT}(h:x.lps P)(hF:FT.lps P F):FT.lps P ((f,x)::F):=fun g y hg=>by
 simp only[U8]at hg
 rw[Bool.cond_eq_ite]at hg
 split at hg
 ·cases hg; exact h
 ·exact hF g y hg
theorem FT.lps_nr {P:Prg}:∀(F:FT),F.all (fun e=>e.2.nr)=true->FT.lps P F
 | [],_=>FT.lps_nil
 | (f,x)::r,h=>by
  simp only[List.all_cons,Bool.and_eq_true]at h
  exact FT.lps_cons (x.lps_nr h.1) (FT.lps_nr r h.2)
def FT.ok (p:Program)(F:FT):Prop:=∀f x,U8 F f=some x->FI.ok p f x=true/\Xm p f=true
theorem FT.ok_nil {p:Program}:FT.ok p []:=fun f x h=>by cases h
theorem FT.ok_cons {p:Program}{f:Nat}{x:FI}{F:FT}(h:FI.ok p f x=true)(hc:Xm p f=true)(hF:FT.ok p F):FT.ok p ((f,x)::F):=fun g y hg=>by
 simp only[U8]at hg
 rw[Bool.cond_eq_ite]at hg
 split at hg
 ·rename_i e
  cases hg
  have e:f=g:=Nat.eq_of_beq_eq_true e
  subst e
  exact⟨h,hc⟩
 ·exact hF g y hg

def RV.run (sl:Xf)(ob:Xb):RV->Option V
 | .t k=>some (look sl k)
 | .c k n ag=>ldR ob n ag (look sl k)
def Ybq (sl:Xf)(ob:Xb):List RV->Option (List V)
 | []=>some []
 | x::r=>match x.run sl ob with
  | some v=>(Ybq sl ob r).map (v::·)
  | none=>none
def Xur:List V->Xb->List V×Xb
 | [],ob=>([],ob)
 | v::r,ob=>match V.giv ob v with
  | some (d,ob')=>let p:=Xur r ob'; (.d d::p.1,p.2)
  | none=>let p:=Xur r ob; (v::p.1,p.2)
def Xae (n:Nat)(vs:List V)(ob:Xb):Option Xb:=
 let kp:=V.idss vs++Xus ob
 bif !V.mens (Xd n kp) vs&&Xi (Xd n kp) (Za (Xd n kp) ob) then some (Za (Xd n kp) ob) else none
def Yce (n:Nat)(rs:List RV)(sl:Xf)(ob:Xb):Option (Out×Xb):=match Ybq sl ob rs with
 | some vs=>(Xae n (Xur vs ob).1 (Xur vs ob).2).map fun b=>(.ret (Wo (Xur vs ob).1),b)
 | none=>none
def Xut (n:Nat):Xb->List Nat
 | []=>[]
 | (j,x)::r=>bif decide (j<n) then Xus [(j,x)]++Xut n r else Xut n r
def X6w (kp:List Nat):Xb->List Nat
 | []=>[]
 | (j,x)::r=>bif kp.contains j then Xus [(j,x)]++X6w kp r else X6w kp r
def X27 (ob:Xb):Nat->List Nat->List Nat
 | 0,kp=>kp
 | k+1,kp=>X27 ob k (kp++X6w kp ob)
def Xvc (n:Nat)(vs:List V)(ob:Xb):Option Xb:=
 let kp:=X27 ob 3 (V.idss vs++Xut n ob)
 bif !V.mens (Xd n kp) vs&&Xi (Xd n kp) (Za (Xd n kp) ob) then some (Za (Xd n kp) ob) else none
def Yoo (n:Nat)(rs:List RV)(sl:Xf)(ob:Xb):Option (Out×Xb):=match Ybq sl ob rs with
 | some vs=>(Xvc n (Xur vs ob).1 (Xur vs ob).2).map fun b=>(.ret (Wo (Xur vs ob).1),b)
 | none=>none
def Xsp (n:Nat)(rs:List RV):Rs->Option (Out×Xb)
 | some (.normal,sl,ob)=>Yoo n rs sl ob
 | some (.ret,sl,ob)=>Yoo n rs sl ob
 | _=>none
def X51 (n:Nat)(rs:List RV):Rs->Option (Out×Xb)
 | some (.normal,sl,ob)=>Yce n rs sl ob
 | some (.ret,sl,ob)=>Yce n rs sl ob
 | some (.panic v,_,ob)=>(Xae n [v] ob).map fun b=>(.panic v,b)
 | _=>none
def Xsr (n:Nat)(rs:List RV):Rs->Option (Out×Xb)
 | some (.normal,sl,ob)=>Yce n rs sl ob
 | some (.ret,sl,ob)=>Yce n rs sl ob
 | _=>none
def X2e (n:Nat)(rs:List RV)(sl:Xf)(ob:Xb):Option (Out×Xb):=match Ybq sl ob rs with
 | some vs=>(Xae n vs ob).map fun b=>(.ret (Wo vs),b)
 | none=>none
def Xsq (n:Nat)(rs:List RV):Rs->Option (Out×Xb)
 | some (.normal,sl,ob)=>X2e n rs sl ob
 | some (.ret,sl,ob)=>X2e n rs sl ob
 | some (.panic v,_,ob)=>(Xae n [v] ob).map fun b=>(.panic v,b)
 | _=>none
def Xhx (rs:List RV)(sl:Xf)(ob:Xb):Option V:=match Ybq sl ob rs with
 | some vs=>(V.givs ob vs).map fun p=>Wo (p.1.map .d)
 | none=>none
def Xi4 (rs:List RV):Rs->Option V
 | some (.normal,sl,ob)=>Xhx rs sl ob
 | some (.ret,sl,ob)=>Xhx rs sl ob
 | _=>none

def Ydc (R:Fns)(L:Nat)(F:FT)(g:Nat)(vs:List V)(ob:Xb)(rv:Option V):Option Xb:=match U8 F g with
 | some (.rc its keep k s n)=>bif Nat.beq n vs.length then
   (match X2h R its ((k,rv.getD (.d .nili))::Vi 0 vs) ob with
    | .ok sl ob'=>(match s.run R L (Xk sl keep) ob' with
     | some (.normal,_,ob2)=>Xae (Xa ob) [] ob2
     | some (.ret,_,ob2)=>Xae (Xa ob) [] ob2
     | _=>none)
    | _=>none)
  else none
 | _=>none
def V.isIfc:V->Bool
 | .iface _ _=>true
 | .d (.iface _ _)=>true
 | _=>false
def X6b (R:Fns)(L:Nat)(F:FT)(g:Nat)(cl:List V)(rs:List RV):Rs->Option V
 | some (.normal,sl,ob)=>(Ydc R L F g cl ob none).bind fun ob'=>Xhx rs sl ob'
 | some (.ret,sl,ob)=>(Ydc R L F g cl ob none).bind fun ob'=>Xhx rs sl ob'
 | some (.panic v,sl,ob)=>bif v.isIfc then (Ydc R L F g cl ob (some v)).bind fun ob'=>Xhx rs sl ob' else none
 | _=>none
def Ydv (R:Fns)(L:Nat)(F:FT)(rs:List RV):FSt->Xf->Xb->Option V
 | .pre s r,sl,ob=>match s.run R L sl ob with
  | some (.normal,sl',ob')=>Ydv R L F rs r sl' ob'
  | some (.ret,sl',ob')=>Xhx rs sl' ob'
  | _=>none
 | .dfr its keep k s,sl,ob=>match X2h R its sl ob with
  | .ok sl' ob'=>(match look (Xk sl' keep) k with
   | .fn g fi ca=>bif R.ca g then X6b R L F g (fi++ca) rs (s.run R L (Xk sl' keep) ob') else none
   | _=>none)
  | _=>none

def pcD (R:Fns)(L:Nat)(F:FT)(f:Nat)(ds:List D):Option V:=match U8 F f with
 | some (.pl s rs n)=>bif Nat.beq n ds.length then Xi4 rs (s.run R L (Vi 0 (ds.map .d)) []) else none
 | some (.pr s rs n)=>bif Nat.beq n ds.length then Xi4 rs (s.run R L (Vi 0 (ds.map .d)) []) else none
 | some (.br s rs n)=>bif Nat.beq n ds.length then Ycv V.eqb (Xi4 rs) (s.runM R L (Vi 0 (ds.map .d)) []) else none
 | some (.df s rs n)=>bif Nat.beq n ds.length then Ydv R L F rs s (Vi 0 (ds.map .d)) [] else none
 | _=>none
def Ydw (o:Option V):Option V:=match o with
 | some v=>bif v.flatR then some v else none
 | none=>none
def pcX (X R:Fns)(L:Nat)(F:FT)(f:Nat)(ds:List D)(ob:Xb):Option V:=match X.pc f (ds.map .d) ob with
 | some v=>some v
 | none=>pcD R L F f ds
def pcR (X R:Fns)(L:Nat)(F:FT)(f:Nat)(vs:List V)(ob:Xb):Option V:=match V.allD vs with
 | some ds=>pcX X R L F f ds ob
 | none=>match V.toDs ob 12 vs with
  | some ds=>Ydw (pcX X R L F f ds [])
  | none=>none
def acR (R:Fns)(L:Nat)(F:FT)(f:Nat)(vs:List V)(ob:Xb):Option (Out×Xb):=match U8 F f with
 | some (.pl s rs n)=>bif Nat.beq n vs.length then X51 (Xa ob) rs (s.run R L (Vi 0 vs) ob) else none
 | some (.kp s rs n)=>bif Nat.beq n vs.length then Xsq (Xa ob) rs (s.run R L (Vi 0 vs) ob) else none
 | some (.pr s rs n)=>bif Nat.beq n vs.length then Xsr (Xa ob) rs (s.run R L (Vi 0 vs) ob) else none
 | some (.br s rs n)=>bif Nat.beq n vs.length then Ycv Yqe (Xsp (Xa ob) rs) (s.runM R L (Vi 0 vs) ob) else none
 | some (.df _ _ _)=>match V.allD vs with
  | some ds=>(pcD R L F f ds).map fun v=>(.ret v,ob)
  | none=>none
 | _=>none
def fns (L:Nat)(F:FT)(X:Fns):Nat->Fns
 | 0=>X
 | n+1=>⟨fun f vs ob=>match X.call f vs ob with
   | some r=>some r
   | none=>acR (fns L F X n) L F f vs ob,
  fun f vs ob=>pcR X (fns L F X n) L F f vs ob,
  fun f=>(U8 F f).isSome||X.ca f,X.gl,fun id vs ob=>ydR (fns L F X n) L X.lt id vs ob,X.lt,X.xc⟩

section
variable {P:Prg} {R:Fns} {L:Nat} {F:FT}
theorem Vf {sl:Xf}{ob:Xb}:∀(rs:List RV) (K:List V->Prop) (vs:List V),Ybq sl ob rs=some vs->K vs->Wn sl ob rs K
 | [],K,vs,h,hK=>by cases h; exact hK
 | x::r,K,vs,h,hK=>by
  simp only[Ybq]at h
  split at h
  ·rename_i v hv
   rw[Option.map_eq_some_iff]at h
   obtain⟨l,hl,rfl⟩:=h
   simp only[Wn]
   have hr:=Vf r (fun vs=>K (v::vs)) l hl hK
   cases x with
   | t k=>simp only[RV.run,Option.some.injEq]at hv; subst hv; exact hr
   | c k n ag=>
    simp only[RV.run]at hv
    simp only[RV.wp]
    have h0:(C.ld n ag (.t 0)).run [(0,look sl k)] ob=some v:=by simpa[C.run,Xu8,Xup,A.ev,look]using hv
    have h1:=C.run_sound (K:=fun v=>Wn sl ob r fun vs=>K (v::vs)) h0 hr
    simpa[C.wp,A.ev,look]using h1
  ·cases h
theorem Ul:∀(vs:List V) (ob:Xb) (K:List V->Xb->Prop),K (Xur vs ob).1 (Xur vs ob).2->Xc7 vs ob K
 | [],ob,K,h=>h
 | v::r,ob,K,h=>by
  simp only[Xur]at h
  simp only[Xc7]
  split at h
  ·rename_i d ob' e
   rw[e]
   exact Ul r ob' _ h
  ·rename_i e
   rw[e]
   exact Ul r ob _ h
theorem Zh {n:Nat}{vs:List V}{ob b:Xb}{K:Xb->Prop}(h:Xae n vs ob=some b)(hK:K b):Yc n K vs ob:=by
 unfold Xae at h
 rw[Bool.cond_eq_ite]at h
 split at h
 ·rename_i hc
  simp only[Bool.and_eq_true,Bool.not_eq_true']at hc
  cases h
  exact⟨_,hc.1,hc.2,hK⟩
 ·cases h
theorem Uo {n:Nat}{rs:List RV}{sl:Xf}{ob b:Xb}{o:Out}{K:Out->Xb->Prop}(h:Yce n rs sl ob=some (o,b))(hK:K o b):Wn sl ob rs fun vs=>Xc7 vs ob fun vs ob=>Yc n (K (.ret (Wo vs))) vs ob:=by
 unfold Yce at h
 split at h
 ·rename_i vs hv
  rw[Option.map_eq_some_iff]at h
  obtain⟨b',hb,e⟩:=h
  cases e
  exact Vf rs _ vs hv (Ul vs ob _ (Zh hb hK))
 ·cases h
theorem Xjx {n:Nat}{rs:List RV}{r:Rs}{o:Out}{b:Xb}{K:Out->Xb->Prop}(h:X51 n rs r=some (o,b))(hK:K o b):r.to (Wy n rs K):=by
 unfold X51 at h
 split at h
 ·exact Uo h hK
 ·exact Uo h hK
 ·rw[Option.map_eq_some_iff]at h
  obtain⟨b',hb,e⟩:=h
  cases e
  exact Zh hb hK
 ·cases h
theorem Xg8 {n:Nat}{rs:List RV}{r:Rs}{o:Out}{b:Xb}{K:Out->Xb->Prop}(h:Xsr n rs r=some (o,b))(hK:K o b):r.to (Xso n rs K):=by
 unfold Xsr at h
 split at h
 ·exact Uo h hK
 ·exact Uo h hK
 ·cases h
theorem Xie {n:Nat}{vs:List V}{ob b:Xb}{K:Xb->Prop}(h:Xvc n vs ob=some b)(hK:K b):Yc n K vs ob:=by
 unfold Xvc at h
 rw[Bool.cond_eq_ite]at h
 split at h
 ·rename_i hc
  simp only[Bool.and_eq_true,Bool.not_eq_true']at hc
  cases h
  exact⟨_,hc.1,hc.2,hK⟩
 ·cases h
theorem Xed {n:Nat}{rs:List RV}{sl:Xf}{ob b:Xb}{o:Out}{K:Out->Xb->Prop}(h:Yoo n rs sl ob=some (o,b))(hK:K o b):Wn sl ob rs fun vs=>Xc7 vs ob fun vs ob=>Yc n (K (.ret (Wo vs))) vs ob:=by
 unfold Yoo at h
 split at h
 ·rename_i vs hv
  rw[Option.map_eq_some_iff]at h
  obtain⟨b',hb,e⟩:=h
  cases e
  exact Vf rs _ vs hv (Ul vs ob _ (Xie hb hK))
 ·cases h
theorem Xg6 {n:Nat}{rs:List RV}{r:Rs}{o:Out}{b:Xb}{K:Out->Xb->Prop}(h:Xsp n rs r=some (o,b))(hK:K o b):r.to (Xso n rs K):=by
 unfold Xsp at h
 split at h
 ·exact Xed h hK
 ·exact Xed h hK
 ·cases h
theorem Xcm {n:Nat}{rs:List RV}{sl:Xf}{ob b:Xb}{o:Out}{K:Out->Xb->Prop}(h:X2e n rs sl ob=some (o,b))(hK:K o b):Wn sl ob rs fun vs=>Yc n (K (.ret (Wo vs))) vs ob:=by
 unfold X2e at h
 split at h
 ·rename_i vs hv
  rw[Option.map_eq_some_iff]at h
  obtain⟨b',hb,e⟩:=h
  cases e
  exact Vf rs _ vs hv (Zh hb hK)
 ·cases h
theorem Xg7 {n:Nat}{rs:List RV}{r:Rs}{o:Out}{b:Xb}{K:Out->Xb->Prop}(h:Xsq n rs r=some (o,b))(hK:K o b):r.to (Xex n rs K):=by
 unfold Xsq at h
 split at h
 ·exact Xcm h hK
 ·exact Xcm h hK
 ·rw[Option.map_eq_some_iff]at h
  obtain⟨b',hb,e⟩:=h
  cases e
  exact Zh hb hK
 ·cases h
theorem Zv {rs:List RV}{sl:Xf}{ob:Xb}{v:V}{K:V->Prop}(h:Xhx rs sl ob=some v)(hK:K v):Wn sl ob rs fun vs=>Wq (fun l _=>K (Wo (l.map .d))) (V.givs ob vs):=by
 unfold Xhx at h
 split at h
 ·rename_i vs hv
  rw[Option.map_eq_some_iff]at h
  obtain⟨p,hp,rfl⟩:=h
  refine Vf rs _ vs hv ?_
  rw[hp]; exact hK
 ·cases h
theorem Qc {rs:List RV}{r:Rs}{v:V}{K:V->Prop}(h:Xi4 rs r=some v)(hK:K v):r.to (Xas rs K):=by
 unfold Xi4 at h
 split at h
 ·exact Zv h hK
 ·exact Zv h hK
 ·cases h
variable (hm:P.p.follows .mixedOrders=true) (hF:FT.ok P.p F) (hLp:FT.lps P F) (hR:R.ok P)
include hm hF hLp hR
theorem Js {g:Nat}{vs:List V}{ob b:Xb}{rv:Option V}{K:Xb->Prop}(h:Ydc R L F g vs ob rv=some b)(hK:K b):DCall P g vs ob rv K:=by
 unfold Ydc at h
 split at h
 ·rename_i its keep k s n hl
  rw[Bool.cond_eq_ite]at h
  split at h
  ·rename_i e
   have e:n=vs.length:=Nat.eq_of_beq_eq_true e
   subst e
   have hok:=(hF g _ hl).1
   simp only[FI.ok]at hok
   refine Xdp (keep:=keep) hm hok (Z0 hR _ _ _ ?_)
   split at h
   ·rename_i sl ob' e1
    rw[e1]
    refine S.run_sound (L:=L) hR s _ _ _ (hLp g _ hl) ?_
    split at h
    ·rename_i e2; rw[e2]; exact Zh h hK
    ·rename_i e2; rw[e2]; exact Zh h hK
    ·cases h
   ·cases h
  ·cases h
 ·cases h
theorem Xj0 {g:Nat}{cl:List V}{rs:List RV}{r:Rs}{v:V}{K:V->Prop}(h:X6b R L F g cl rs r=some v)(hK:K v):r.to (Xe3 P g cl rs K):=by
 unfold X6b at h
 split at h
 ·rw[Option.bind_eq_some_iff]at h
  obtain⟨b,h1,h2⟩:=h
  exact Js hm hF hLp hR h1 (Zv h2 hK)
 ·rw[Option.bind_eq_some_iff]at h
  obtain⟨b,h1,h2⟩:=h
  exact Js hm hF hLp hR h1 (Zv h2 hK)
 ·rw[Bool.cond_eq_ite]at h
  split at h
  ·rename_i hi
   rw[Option.bind_eq_some_iff]at h
   obtain⟨b,h1,h2⟩:=h
   refine⟨?_,Js hm hF hLp hR h1 (Zv h2 hK)⟩
   unfold V.isIfc at hi
   split at hi
   ·exact⟨_,_,.inl rfl⟩
   ·exact⟨_,.any,.inr ⟨_,rfl⟩⟩
   ·cases hi
  ·cases h
 ·cases h
theorem Xdv {rs:List RV}{K:V->Prop}:∀(s:FSt) (sl:Xf) (ob:Xb) (v:V),s.loops P->Ydv R L F rs s sl ob=some v->K v->fwp P rs K s sl ob
 | .pre s r,sl,ob,v,hl,h,hK=>by
  simp only[Ydv]at h
  simp only[fwp]
  refine S.run_sound (L:=L) hR s _ _ _ hl.1 ?_
  split at h
  ·rename_i e; rw[e]; exact Xdv r _ _ v hl.2 h hK
  ·rename_i e; rw[e]; exact Zv h hK
  ·cases h
 | .dfr its keep k s,sl,ob,v,hl,h,hK=>by
  simp only[Ydv]at h
  simp only[fwp]
  refine Z0 hR _ _ _ ?_
  split at h
  ·rename_i sl' ob' e
   rw[e]
   simp only[Rq.to]
   split at h
   ·rename_i g fi ca e2
    rw[e2]
    rw[Bool.cond_eq_ite]at h
    split at h
    ·rename_i hc
     exact⟨hR.ca _ hc,S.run_sound (L:=L) hR s _ _ _ hl (Xj0 hm hF hLp hR h hK)⟩
    ·cases h
   ·cases h
  ·cases h
theorem Xi1 {f:Nat}{ds:List D}{v:V}{ob:Xb}{K:V->Prop}(h:pcD R L F f ds=some v)(hK:K v):PCall P f (ds.map .d) ob K:=by
 unfold pcD at h
 split at h
 ·rename_i s rs n hl
  rw[Bool.cond_eq_ite]at h
  split at h
  ·rename_i e
   have e:n=ds.length:=Nat.eq_of_beq_eq_true e
   subst e
   exact Xd8 hm (hF f _ hl).1 (S.run_sound (L:=L) hR s _ _ _ (hLp f _ hl) (Qc h hK))
  ·cases h
 ·rename_i s rs n hl
  rw[Bool.cond_eq_ite]at h
  split at h
  ·rename_i e
   have e:n=ds.length:=Nat.eq_of_beq_eq_true e
   subst e
   exact Qb hm (hF f _ hl).1 (S.run_sound (L:=L) hR s _ _ _ (hLp f _ hl) (Qc h hK))
  ·cases h
 ·rename_i s rs n hl
  rw[Bool.cond_eq_ite]at h
  split at h
  ·rename_i e
   have e:n=ds.length:=Nat.eq_of_beq_eq_true e
   subst e
   exact Qb hm (hF f _ hl).1 (S.runM_sound (L:=L) hR s _ _ _ (hLp f _ hl) (Xr8 V.eqb_eq h fun x hx=>Qc hx hK))
  ·cases h
 ·rename_i s rs n hl
  rw[Bool.cond_eq_ite]at h
  split at h
  ·rename_i e
   have e:n=ds.length:=Nat.eq_of_beq_eq_true e
   subst e
   exact Xcg hm (hF f _ hl).1 (Xdv hm hF hLp hR s _ _ v (hLp f _ hl) h hK)
  ·cases h
 ·cases h
theorem Xi2 {X:Fns}(hX:X.ok P){f:Nat}{ds:List D}{v:V}{ob:Xb}{K:V->Prop}(h:pcX X R L F f ds ob=some v)(hK:K v):PCall P f (ds.map .d) ob K:=by
 unfold pcX at h
 split at h
 ·rename_i r hr; cases h; exact (hX.pc _ _ _ _ hr).mono fun v' e=>by subst e; exact hK
 ·exact Xi1 hm hF hLp hR h hK
theorem Xwn {X:Fns}(hX:X.ok P){f:Nat}{vs:List V}{v:V}{ob:Xb}(h:pcR X R L F f vs ob=some v):PCall P f vs ob fun v'=>v'=v:=by
 unfold pcR at h
 split at h
 ·rename_i ds hd
  rw[V.allD_map hd]
  exact Xi2 hm hF hLp hR hX h rfl
 ·split at h
  ·rename_i ds hd
   unfold Ydw at h
   split at h
   ·rename_i v' hv
    rw[Bool.cond_eq_ite]at h
    split at h
    ·rename_i hfl
     cases h
     exact PCall.borrow hd (Xi2 hm hF hLp hR hX hv ⟨hfl,rfl⟩)
    ·cases h
   ·cases h
  ·cases h
theorem Xr4 {f:Nat}{vs:List V}{o:Out}{ob b:Xb}(h:acR R L F f vs ob=some (o,b)):ACall P f vs ob fun o' b'=>o'=o/\b'=b:=by
 unfold acR at h
 split at h
 ·rename_i s rs n hl
  rw[Bool.cond_eq_ite]at h
  split at h
  ·rename_i e
   have e:n=vs.length:=Nat.eq_of_beq_eq_true e
   subst e
   exact Xdf hm (hF f _ hl).1 (S.run_sound (L:=L) hR s _ _ _ (hLp f _ hl) (Xjx h ⟨rfl,rfl⟩))
  ·cases h
 ·rename_i s rs n hl
  rw[Bool.cond_eq_ite]at h
  split at h
  ·rename_i e
   have e:n=vs.length:=Nat.eq_of_beq_eq_true e
   subst e
   exact Xbh hm (hF f _ hl).1 (S.run_sound (L:=L) hR s _ _ _ (hLp f _ hl) (Xg7 h ⟨rfl,rfl⟩))
  ·cases h
 ·rename_i s rs n hl
  rw[Bool.cond_eq_ite]at h
  split at h
  ·rename_i e
   have e:n=vs.length:=Nat.eq_of_beq_eq_true e
   subst e
   exact Xbi hm (hF f _ hl).1 (S.run_sound (L:=L) hR s _ _ _ (hLp f _ hl) (Xg8 h ⟨rfl,rfl⟩))
  ·cases h
 ·rename_i s rs n hl
  rw[Bool.cond_eq_ite]at h
  split at h
  ·rename_i e
   have e:n=vs.length:=Nat.eq_of_beq_eq_true e
   subst e
   exact Xbi hm (hF f _ hl).1 (S.runM_sound (L:=L) hR s _ _ _ (hLp f _ hl) (Xr8 X6p h fun x hx=>Xg6 hx ⟨rfl,rfl⟩))
  ·cases h
 ·split at h
  ·rename_i ds hd
   rw[Option.map_eq_some_iff]at h
   obtain⟨v,hv,e⟩:=h
   cases e
   rw[V.allD_map hd]
   exact PCall.acall (Xi1 hm hF hLp hR hv ⟨rfl,rfl⟩)
  ·cases h
 ·cases h
end
theorem Ydz {p:Program}{F:FT}(hF:FT.ok p F)(f:Nat)(h:(U8 F f).isSome=true):Xm p f=true:=by
 obtain⟨x,hx⟩:=Option.isSome_iff_exists.1 h
 exact (hF f x hx).2
theorem Xb1 {P:Prg}{L:Nat}{F:FT}{X:Fns}(hm:P.p.follows .mixedOrders=true)(hF:FT.ok P.p F)(hLp:FT.lps P F)(hX:X.ok P)(hlt:∀tag ps x y,X.lt tag=some (ps,x,y)->W5 P tag ps x y/\x.noR=true/\y.noR=true):∀n,(fns L F X n).ok P
 | 0=>hX
 | n+1=>by
  refine⟨fun f vs ob o b h=>?_,fun f vs ob v h=>?_,fun f h=>?_,fun g x h=>hX.gl g x h,fun id vs ob o b h=>?_,fun f vs ob v b h=>hX.xc f vs ob v b h⟩
  ·simp only[fns]at h
   split at h
   ·rename_i r hr; cases h; exact hX.call _ _ _ _ _ hr
   ·exact Xr4 hm hF hLp (Xb1 hm hF hLp hX hlt n) h
  ·simp only[fns]at h
   exact Xwn hm hF hLp (Xb1 hm hF hLp hX hlt n) hX h
  ·simp only[fns,Bool.or_eq_true]at h
   rcases h with h | h
   ·exact Ydz hF f h
   ·exact hX.ca f h
  ·simp only[fns]at h
   exact Xxx hm (Xb1 hm hF hLp hX hlt n) hlt h
end Go.Ab
namespace Go.Proofs.YtolkimpelpnpbaaGreatDoor
open Go Go.Ab
def Wf:FT:=[(74,.df Yq9 [.c 2 1 false,.c 3 1 false,.c 4 1 false] 1),
 (39,.pl Yqr [.t 2] 1),
 (126,.rc Xkg Xuy 6 X7d 3),
 (127,.pl X7e [.c 0 256 true] 0),
 (128,.pl X7f [] 1),
 (129,.pl X7g [] 1),
 (130,.pl X7h [] 1),
 (131,.pl X7i [] 1),
 (132,.pl X7j [] 1),
 (112,.pl Yed [.t 2] 1),
 (113,.pl Yee [.t 2] 1),
 (55,.pl Yyh [.t 2] 1),
 (208,.pl Yf9 [.t 2] 1),
 (218,.pl X7s [.t 4] 2),
 (219,.pl X7t [.t 3] 2),
 (220,.pl X7u [] 3),
 (221,.pl X7v [.t 3] 2),
 (222,.pl X7w [.t 4] 2),
 (223,.pl X7x [.t 2] 1),
 (285,.pl X72 [.t 4] 2),
 (25,.pl Yql [.t 2] 1),
 (9,.pl ir9 [.t 4] 2),
 (48,.pl Yqv [.t 2] 1),
 (26,.pl Yqm [.t 2] 1),
 (49,.pl Yqw [.t 2,.t 3] 1),
 (125,.pl X7c [.t 6] 3),
 (40,.pl Yqs [.t 4,.t 5] 2),
 (216,.pl X7q [.c 4 6 true,.t 5] 2),
 (217,.pl X7r [.t 6] 3),
 (71,.pl Yq6 [.t 4,.t 5] 2),
 (69,.pl Yq4 [.t 6,.t 7] 3),
 (72,.pl Yq7 [.t 4] 2),
 (245,.pl X7z [.c 6 6 true,.t 7] 3),
 (252,.pl X70 [.t 4] 2),
 (178,.pl X7l [.t 4] 2),
 (231,.pl X7y [.t 4] 2),
 (121,.pl X68 [.t 6,.t 7] 3),
 (119,.pl X66 [.t 4] 2),
 (120,.pl X67 [.t 4] 3),
 (123,.pl X7a [.c 4 4 true,.t 5] 2),
 (124,.pl X7b [.t 2] 1),
 (213,.pl X7n [.t 4] 2),
 (214,.pl X7o [.t 4] 3),
 (215,.pl X7p [.t 6,.t 7] 3),
 (319,.pl X76 [.t 4] 2),
 (320,.pl X77 [.t 4] 2),
 (321,.pl X78 [.t 4] 2),
 (322,.pl X79 [.t 4] 2),
 (323,.pl X8a [.t 2] 1),
 (284,.pl X71 [.t 6,.t 7] 3),
 (316,.pl X74 [.t 4] 2),
 (317,.pl X75 [.t 4] 3),
 (70,.pl Yq5 [.t 2] 1),
 (122,.pl X69 [.t 2] 1),
 (161,.pl X7k [.t 2] 1),
 (301,.pl X73 [.c 0 5 true] 0),
 (21,.pl Yqk [.t 4] 2),
 (41,.pl Yqt [.t 2] 1),
 (42,.pl Yqu [.t 6] 3),
 (73,.pl Yq8 [.t 4] 2),
 (50,.pl Yqx [.c 2 1 false] 1),
 (106,.pl X61 [] 3),
 (20,.pl Yqj [.t 4] 2),
 (38,.pl Yqq [.t 4] 2),
 (10,.pl Yqh [.t 4,.t 5] 2),
 (13,.pl Yx6 [.t 4] 2),
 (16,.pl Yqi [.c 6 17 true,.t 7] 3),
 (18,.br Yfi [.c 4 1 false,.c 5 1 false] 2),
 (27,.pl Yqn [.t 4] 2),
 (28,.pl Yqo [.t 2] 1),
 (31,.pl Yya [.t 4] 2),
 (34,.pl Yqp [.c 4 17 true,.t 5] 2),
 (36,.kp Yyb [.t 2] 1),
 (51,.pl Yqy [.c 4 2 true,.t 5] 2),
 (52,.pl Yqz [.t 4] 2),
 (53,.kp Yq0 [.t 2] 1),
 (54,.pl Yq1 [.t 4] 2),
 (61,.pl Yyi [.t 4] 2),
 (62,.pl Yyj [.t 3] 2),
 (64,.pl Yq2 [.t 4] 3),
 (65,.pl Yq3 [.c 4 14 true,.t 5] 3),
 (67,.pl Yyk [] 2),
 (68,.pl Yyl [.t 8] 6),
 (107,.pl X62 [.t 2] 1),
 (108,.pl Yec [] 2),
 (109,.pl X63 [] 2),
 (110,.pl X64 [.t 2] 1),
 (111,.pl X65 [.t 4] 2),
 (118,.pl Yef [.t 4] 2),
 (204,.pr Xpz [.t 4] 2),
 (8,.pl ir8 [.t 0] 0),
 (44,.df Yyd [.c 2 6 true,.c 3 1 false,.c 4 1 false] 1),
 (46,.pl Yyf [.c 2 7 true,.t 3] 1),
 (79,.pl Yyq [] 1),
 (82,.pl Yyt [] 2),
 (91,.pl Yyw [] 2),
 (96,.pl Yy0 [.t 2] 1),
 (98,.pl Yy2 [.t 2] 1),
 (100,.pl Yd6 [.t 2] 1),
 (147,.pl Yeu [.c 2 11 true] 1),
 (148,.pl Yev [.t 8] 4),
 (149,.pl Yew [.c 2 7 true] 1),
 (159,.pl Ye6 [.t 4,.t 5] 2),
 (160,.pl Ye7 [.t 4,.t 5] 2),
 (164,.pl Yfa [.t 4] 2),
 (168,.pl Yfb [] 4),
 (190,.pl Yft [.t 2] 1),
 (197,.pl Yf0 [.t 2] 1),
 (200,.pl Yf3 [.c 2 14 true] 1),
 (224,.pl Yga [.c 6 4 true] 3),
 (225,.pl Ygb [.t 4] 2),
 (226,.pl Ygc [.c 2 6 true] 1),
 (232,.pl Ygh [.t 4] 2),
 (236,.pl Ygl [.t 4] 2),
 (241,.pl Ygq [.t 4] 2),
 (244,.pl Ygt [.t 4] 2),
 (250,.pl Ygy [.t 4] 2),
 (251,.pl Ygz [.t 3] 2),
 (255,.pl Yg2 [.t 3] 2),
 (286,.pl Yhj [.t 1] 1),
 (287,.pl Yhk [.t 8] 4),
 (289,.pl Yhm [.t 6] 3),
 (291,.pl Yho [.t 6] 3),
 (294,.pl Yhr [.t 4] 2),
 (298,.pl Yhv [.c 6 6 true,.t 7] 3),
 (299,.pl Yhw [.t 2] 1),
 (318,.pl Yh3 [.t 4] 2),
 (23,.pl Yx8 [.c 2 7 true,.t 3,.t 4] 1),
 (24,.pl Yx9 [.c 4 17 true,.t 5] 2),
 (77,.pl Yyo [] 1),
 (81,.pl Yys [] 1),
 (83,.kp Yyu [.t 2,.t 3] 1),
 (93,.pl Yyy [] 2),
 (102,.rc Xux X60 7 Yd8 3),
 (103,.pl Yd9 [.t 2] 1),
 (105,.pl Yeb [.c 4 17 true] 2),
 (135,.pl Yei [.t 2] 1),
 (136,.pl Yej [] 2),
 (137,.pl Yek [.t 6] 3),
 (139,.pl Yem [.c 2 4 true] 1),
 (140,.pl Yen [.t 6] 3),
 (141,.pl Yeo [.c 2 11 true] 1),
 (142,.pl Yep [.c 2 4 true] 1),
 (143,.pl Yeq [.t 8] 4),
 (144,.pl Yer [.t 4] 2),
 (150,.pl Yex [.t 8] 4),
 (162,.pl Ye8 [.t 4,.t 5] 2),
 (176,.pl Yff [.t 2] 1),
 (177,.pl Yfg [.t 4] 2),
 (180,.pl Yfj [.t 4] 2),
 (184,.pl Yfn [.t 2] 1),
 (186,.pl Yfp [.t 6] 3),
 (188,.kp Yfr [.c 2 2 true,.t 3] 1),
 (189,.pl Yfs [.t 2] 1),
 (192,.pl Yfv [.t 2] 1),
 (193,.pl Yfw [.c 1 14 true] 1),
 (198,.pl Yf1 [.t 8] 4),
 (202,.pl Yf5 [.t 4] 2),
 (235,.pl Ygk [.t 6] 3),
 (249,.pl Ygx [.t 3] 2),
 (253,.pl Yg0 [.t 4] 2),
 (257,.pl Yg4 [.t 4] 2),
 (259,.pl Yg6 [.t 4] 2),
 (262,.pl Yg8 [.t 2] 1),
 (270,.pl Yhg [] 4),
 (295,.pl Yhs [.t 4] 2),
 (297,.pl Yhu [.t 4] 2),
 (303,.pl Yhz [.t 4] 2),
 (263,.pl Yg9 [] 2),
 (264,.pl Yha [.t 2] 1),
 (265,.pl Yhb [.t 2] 1),
 (305,.pl Yh1 [] 2),
 (306,.pl Yh2 [.t 6] 3),
 (342,.pl Yh4 [.t 6] 3),
 (343,.pl Yh5 [.t 2] 1),
 (344,.pl Yh6 [] 2),
 (346,.pl Yh7 [] 3),
 (76,.pl Yyn [] 1),
 (78,.pl Yyp [] 1),
 (84,.rc X3f Yh9 5 Yyv 2),
 (92,.pl Yyx [] 3),
 (95,.pl Yyz [] 2),
 (99,.pl Yy3 [.t 2] 1),
 (104,.kp Yea [.c 2 18 true] 1),
 (138,.pl Yel [.t 4] 2),
 (145,.pl Yes [.c 2 8 true] 1),
 (151,.pl Yey [.c 2 5 true] 1),
 (152,.pl Yez [.t 8] 4),
 (154,.pl Ye1 [.t 4,.t 5] 2),
 (156,.pl Ye3 [.t 4,.t 5] 2),
 (157,.pl Ye4 [.t 2] 1),
 (174,.pl Yfd [.t 2] 1),
 (175,.pl Yfe [.t 3] 2),
 (179,.pl Yfh [.t 4] 2),
 (182,.pl Yfl [.t 4] 2),
 (185,.pl Yfo [.t 2] 1),
 (191,.pl Yfu [.c 1 14 true] 1),
 (196,.pl Yfz [.c 1 14 true] 1),
 (199,.pl Yf2 [.t 6] 3),
 (201,.pl Yf4 [] 1),
 (203,.pl Yf6 [] 2),
 (207,.pl X7m [.t 2] 1),
 (228,.pl Yge [.t 2] 2),
 (229,.pl Ygf [.t 2,.t 3] 1),
 (234,.pl Ygj [.t 4] 2),
 (239,.pl Ygo [.t 6] 3),
 (242,.pl Ygr [.t 2] 1),
 (248,.pl Ygw [.t 4] 2),
 (258,.pl Yg5 [.t 6] 3),
 (260,.pr Xuz [.t 4] 2),
 (261,.br Yg7 [] 2),
 (266,.pl Yhc [.c 2 5 true] 1),
 (290,.br Yhn [.t 4] 2),
 (292,.pl Yhp [.t 4] 2),
 (296,.pl Yht [.t 4] 2),
 (302,.pl Yhy [.t 4] 2),
 (304,.pl Yh0 [.t 8] 4),
 (206,.pl Yf8 [.t 2] 1),
 (278,.pl Yhh [.t 2] 1),
 (279,.pl Yhi [.t 2] 1),
 (12,.pl Yx5 [.t 4] 2),
 (45,.df Yye [.c 2 6 true,.c 3 1 false] 1),
 (47,.df Yyg [.c 4 17 true,.c 5 1 false,.c 6 1 false] 2),
 (75,.rc X3e Yh8 6 Yym 3),
 (80,.pl Yyr [] 1),
 (97,.pl Yy1 [.t 2] 1),
 (101,.pl Yd7 [.t 2,.t 3,.t 4] 1),
 (133,.pl Yeg [] 3),
 (134,.pl Yeh [] 2),
 (146,.pl Yet [.t 8] 4),
 (153,.pl Ye0 [.c 2 4 true] 1),
 (155,.pl Ye2 [.t 2] 1),
 (158,.pl Ye5 [.t 4,.t 5] 2),
 (163,.pl Ye9 [.t 2] 1),
 (173,.pl Yfc [.t 4] 2),
 (181,.pl Yfk [.t 4] 2),
 (183,.pl Yfm [.t 4] 2),
 (187,.pl Yfq [.t 4] 2),
 (194,.pl Yfx [.c 1 14 true] 1),
 (195,.pl Yfy [.c 6 4 true] 3),
 (205,.pl Yf7 [] 5),
 (227,.pl Ygd [.t 4] 2),
 (230,.pl Ygg [.c 2 5 true] 1),
 (233,.pl Ygi [.t 6] 3),
 (237,.pl Ygm [.t 6] 3),
 (238,.pl Ygn [.t 4] 2),
 (240,.pl Ygp [.t 4] 2),
 (243,.pl Ygs [.t 2] 1),
 (246,.pl Ygu [.t 6] 3),
 (247,.pl Ygv [.t 2] 1),
 (254,.pl Yg1 [.t 3] 2),
 (256,.pl Yg3 [.t 4] 2),
 (267,.pl Yhd [.t 2] 1),
 (268,.pl Yhe [.t 4] 2),
 (269,.pl Yhf [] 2),
 (288,.pl Yhl [.t 1] 1),
 (293,.pl Yhq [.t 4] 2),
 (300,.pl Yhx [.t 4] 2)]
theorem Xgg:FT.ok Tryz.prog Wf:=
 FT.ok_cons Y1t (by kernel_rfl)
 (FT.ok_cons Y1c (by kernel_rfl)
 (FT.ok_cons Ybj (by kernel_rfl)
 (FT.ok_cons Yl6 (by kernel_rfl)
 (FT.ok_cons Yl7 (by kernel_rfl)
 (FT.ok_cons Yl8 (by kernel_rfl)
 (FT.ok_cons Yl9 (by kernel_rfl)
 (FT.ok_cons Yma (by kernel_rfl)
 (FT.ok_cons Ymb (by kernel_rfl)
 (FT.ok_cons Ytc (by kernel_rfl)
 (FT.ok_cons Ytd (by kernel_rfl)
 (FT.ok_cons Y8t (by kernel_rfl)
 (FT.ok_cons Yu7 (by kernel_rfl)
 (FT.ok_cons Yml (by kernel_rfl)
 (FT.ok_cons Ymm (by kernel_rfl)
 (FT.ok_cons Ymn (by kernel_rfl)
 (FT.ok_cons Ymo (by kernel_rfl)
 (FT.ok_cons Ymp (by kernel_rfl)
 (FT.ok_cons Ymq (by kernel_rfl)
 (FT.ok_cons Ymv (by kernel_rfl)
 (FT.ok_cons Y06 (by kernel_rfl)
 (FT.ok_cons ok9 (by kernel_rfl)
 (FT.ok_cons Y1g (by kernel_rfl)
 (FT.ok_cons Y07 (by kernel_rfl)
 (FT.ok_cons Y1h (by kernel_rfl)
 (FT.ok_cons Yl5 (by kernel_rfl)
 (FT.ok_cons Y1d (by kernel_rfl)
 (FT.ok_cons Ymj (by kernel_rfl)
 (FT.ok_cons Ymk (by kernel_rfl)
 (FT.ok_cons Y1q (by kernel_rfl)
 (FT.ok_cons Y1o (by kernel_rfl)
 (FT.ok_cons Y1r (by kernel_rfl)
 (FT.ok_cons Yms (by kernel_rfl)
 (FT.ok_cons Ymt (by kernel_rfl)
 (FT.ok_cons Ymd (by kernel_rfl)
 (FT.ok_cons Ymr (by kernel_rfl)
 (FT.ok_cons Yl1 (by kernel_rfl)
 (FT.ok_cons Ylz (by kernel_rfl)
 (FT.ok_cons Yl0 (by kernel_rfl)
 (FT.ok_cons Yl3 (by kernel_rfl)
 (FT.ok_cons Yl4 (by kernel_rfl)
 (FT.ok_cons Ymg (by kernel_rfl)
 (FT.ok_cons Ymh (by kernel_rfl)
 (FT.ok_cons Ymi (by kernel_rfl)
 (FT.ok_cons Ymz (by kernel_rfl)
 (FT.ok_cons Ym0 (by kernel_rfl)
 (FT.ok_cons Ym1 (by kernel_rfl)
 (FT.ok_cons Ym2 (by kernel_rfl)
 (FT.ok_cons Ym3 (by kernel_rfl)
 (FT.ok_cons Ymu (by kernel_rfl)
 (FT.ok_cons Ymx (by kernel_rfl)
 (FT.ok_cons Ymy (by kernel_rfl)
 (FT.ok_cons Y1p (by kernel_rfl)
 (FT.ok_cons Yl2 (by kernel_rfl)
 (FT.ok_cons Ymc (by kernel_rfl)
 (FT.ok_cons Ymw (by kernel_rfl)
 (FT.ok_cons Y05 (by kernel_rfl)
 (FT.ok_cons Y1e (by kernel_rfl)
 (FT.ok_cons Y1f (by kernel_rfl)
 (FT.ok_cons Y1s (by kernel_rfl)
 (FT.ok_cons Y1i (by kernel_rfl)
 (FT.ok_cons Ybi (by kernel_rfl)
 (FT.ok_cons Y04 (by kernel_rfl)
 (FT.ok_cons Y1b (by kernel_rfl)
 (FT.ok_cons Y02 (by kernel_rfl)
 (FT.ok_cons Y8h (by kernel_rfl)
 (FT.ok_cons Y03 (by kernel_rfl)
 (FT.ok_cons Y8i (by kernel_rfl)
 (FT.ok_cons Y08 (by kernel_rfl)
 (FT.ok_cons Y09 (by kernel_rfl)
 (FT.ok_cons Y8m (by kernel_rfl)
 (FT.ok_cons Y1a (by kernel_rfl)
 (FT.ok_cons Y8n (by kernel_rfl)
 (FT.ok_cons Y1j (by kernel_rfl)
 (FT.ok_cons Yom (by kernel_rfl)
 (FT.ok_cons Y1k (by kernel_rfl)
 (FT.ok_cons Y1l (by kernel_rfl)
 (FT.ok_cons Y8u (by kernel_rfl)
 (FT.ok_cons Y8v (by kernel_rfl)
 (FT.ok_cons Y1m (by kernel_rfl)
 (FT.ok_cons Y1n (by kernel_rfl)
 (FT.ok_cons Y8w (by kernel_rfl)
 (FT.ok_cons Y8x (by kernel_rfl)
 (FT.ok_cons Ylv (by kernel_rfl)
 (FT.ok_cons Ytb (by kernel_rfl)
 (FT.ok_cons Ylw (by kernel_rfl)
 (FT.ok_cons Ylx (by kernel_rfl)
 (FT.ok_cons Yly (by kernel_rfl)
 (FT.ok_cons Yte (by kernel_rfl)
 (FT.ok_cons Yme (by kernel_rfl)
 (FT.ok_cons ok8 (by kernel_rfl)
 (FT.ok_cons Y8p (by kernel_rfl)
 (FT.ok_cons Y8r (by kernel_rfl)
 (FT.ok_cons Y82 (by kernel_rfl)
 (FT.ok_cons Y85 (by kernel_rfl)
 (FT.ok_cons Y88 (by kernel_rfl)
 (FT.ok_cons Y9c (by kernel_rfl)
 (FT.ok_cons Y9e (by kernel_rfl)
 (FT.ok_cons Ys5 (by kernel_rfl)
 (FT.ok_cons Ytt (by kernel_rfl)
 (FT.ok_cons Ytu (by kernel_rfl)
 (FT.ok_cons Ytv (by kernel_rfl)
 (FT.ok_cons Yt5 (by kernel_rfl)
 (FT.ok_cons Yt6 (by kernel_rfl)
 (FT.ok_cons Yt9 (by kernel_rfl)
 (FT.ok_cons Yua (by kernel_rfl)
 (FT.ok_cons Yur (by kernel_rfl)
 (FT.ok_cons Yuy (by kernel_rfl)
 (FT.ok_cons Yu1 (by kernel_rfl)
 (FT.ok_cons Yu8 (by kernel_rfl)
 (FT.ok_cons Yu9 (by kernel_rfl)
 (FT.ok_cons Yva (by kernel_rfl)
 (FT.ok_cons Yvf (by kernel_rfl)
 (FT.ok_cons Yvj (by kernel_rfl)
 (FT.ok_cons Yvo (by kernel_rfl)
 (FT.ok_cons Yvr (by kernel_rfl)
 (FT.ok_cons Yvw (by kernel_rfl)
 (FT.ok_cons Yvx (by kernel_rfl)
 (FT.ok_cons Yv0 (by kernel_rfl)
 (FT.ok_cons Ywi (by kernel_rfl)
 (FT.ok_cons Ywj (by kernel_rfl)
 (FT.ok_cons Ywl (by kernel_rfl)
 (FT.ok_cons Ywn (by kernel_rfl)
 (FT.ok_cons Ywq (by kernel_rfl)
 (FT.ok_cons Ywu (by kernel_rfl)
 (FT.ok_cons Ywv (by kernel_rfl)
 (FT.ok_cons Yw2 (by kernel_rfl)
 (FT.ok_cons Y8k (by kernel_rfl)
 (FT.ok_cons Y8l (by kernel_rfl)
 (FT.ok_cons Y80 (by kernel_rfl)
 (FT.ok_cons Y84 (by kernel_rfl)
 (FT.ok_cons Y86 (by kernel_rfl)
 (FT.ok_cons Y9a (by kernel_rfl)
 (FT.ok_cons Ys7 (by kernel_rfl)
 (FT.ok_cons Ys8 (by kernel_rfl)
 (FT.ok_cons Yta (by kernel_rfl)
 (FT.ok_cons Yth (by kernel_rfl)
 (FT.ok_cons Yti (by kernel_rfl)
 (FT.ok_cons Ytj (by kernel_rfl)
 (FT.ok_cons Ytl (by kernel_rfl)
 (FT.ok_cons Ytm (by kernel_rfl)
 (FT.ok_cons Ytn (by kernel_rfl)
 (FT.ok_cons Yto (by kernel_rfl)
 (FT.ok_cons Ytp (by kernel_rfl)
 (FT.ok_cons Ytq (by kernel_rfl)
 (FT.ok_cons Ytw (by kernel_rfl)
 (FT.ok_cons Yt7 (by kernel_rfl)
 (FT.ok_cons Yue (by kernel_rfl)
 (FT.ok_cons Yuf (by kernel_rfl)
 (FT.ok_cons Yuh (by kernel_rfl)
 (FT.ok_cons Yul (by kernel_rfl)
 (FT.ok_cons Yun (by kernel_rfl)
 (FT.ok_cons Yup (by kernel_rfl)
 (FT.ok_cons Yuq (by kernel_rfl)
 (FT.ok_cons Yut (by kernel_rfl)
 (FT.ok_cons Yuu (by kernel_rfl)
 (FT.ok_cons Yuz (by kernel_rfl)
 (FT.ok_cons Yu3 (by kernel_rfl)
 (FT.ok_cons Yvi (by kernel_rfl)
 (FT.ok_cons Yvv (by kernel_rfl)
 (FT.ok_cons Yvy (by kernel_rfl)
 (FT.ok_cons Yv2 (by kernel_rfl)
 (FT.ok_cons Yv4 (by kernel_rfl)
 (FT.ok_cons Yv7 (by kernel_rfl)
 (FT.ok_cons Ywf (by kernel_rfl)
 (FT.ok_cons Ywr (by kernel_rfl)
 (FT.ok_cons Ywt (by kernel_rfl)
 (FT.ok_cons Ywy (by kernel_rfl)
 (FT.ok_cons Yv8 (by kernel_rfl)
 (FT.ok_cons Yv9 (by kernel_rfl)
 (FT.ok_cons Ywa (by kernel_rfl)
 (FT.ok_cons Yw0 (by kernel_rfl)
 (FT.ok_cons Yw1 (by kernel_rfl)
 (FT.ok_cons Yw3 (by kernel_rfl)
 (FT.ok_cons Yw4 (by kernel_rfl)
 (FT.ok_cons Yw5 (by kernel_rfl)
 (FT.ok_cons Yw6 (by kernel_rfl)
 (FT.ok_cons Y8z (by kernel_rfl)
 (FT.ok_cons Y81 (by kernel_rfl)
 (FT.ok_cons Y87 (by kernel_rfl)
 (FT.ok_cons Y89 (by kernel_rfl)
 (FT.ok_cons Y9b (by kernel_rfl)
 (FT.ok_cons Y9f (by kernel_rfl)
 (FT.ok_cons Ys9 (by kernel_rfl)
 (FT.ok_cons Ytk (by kernel_rfl)
 (FT.ok_cons Ytr (by kernel_rfl)
 (FT.ok_cons Ytx (by kernel_rfl)
 (FT.ok_cons Yty (by kernel_rfl)
 (FT.ok_cons Yt0 (by kernel_rfl)
 (FT.ok_cons Yt2 (by kernel_rfl)
 (FT.ok_cons Yt3 (by kernel_rfl)
 (FT.ok_cons Yuc (by kernel_rfl)
 (FT.ok_cons Yud (by kernel_rfl)
 (FT.ok_cons Yug (by kernel_rfl)
 (FT.ok_cons Yuj (by kernel_rfl)
 (FT.ok_cons Yum (by kernel_rfl)
 (FT.ok_cons Yus (by kernel_rfl)
 (FT.ok_cons Yux (by kernel_rfl)
 (FT.ok_cons Yu0 (by kernel_rfl)
 (FT.ok_cons Yu2 (by kernel_rfl)
 (FT.ok_cons Yu4 (by kernel_rfl)
 (FT.ok_cons Ymf (by kernel_rfl)
 (FT.ok_cons Yvc (by kernel_rfl)
 (FT.ok_cons Yvd (by kernel_rfl)
 (FT.ok_cons Yvh (by kernel_rfl)
 (FT.ok_cons Yvm (by kernel_rfl)
 (FT.ok_cons Yvp (by kernel_rfl)
 (FT.ok_cons Yvu (by kernel_rfl)
 (FT.ok_cons Yv3 (by kernel_rfl)
 (FT.ok_cons Yv5 (by kernel_rfl)
 (FT.ok_cons (X3b Yv6) (by kernel_rfl)
 (FT.ok_cons Ywb (by kernel_rfl)
 (FT.ok_cons (X3b Ywm) (by kernel_rfl)
 (FT.ok_cons Ywo (by kernel_rfl)
 (FT.ok_cons Yws (by kernel_rfl)
 (FT.ok_cons Ywx (by kernel_rfl)
 (FT.ok_cons Ywz (by kernel_rfl)
 (FT.ok_cons Yu6 (by kernel_rfl)
 (FT.ok_cons Ywg (by kernel_rfl)
 (FT.ok_cons Ywh (by kernel_rfl)
 (FT.ok_cons Y8g (by kernel_rfl)
 (FT.ok_cons Y8q (by kernel_rfl)
 (FT.ok_cons Y8s (by kernel_rfl)
 (FT.ok_cons Y8y (by kernel_rfl)
 (FT.ok_cons Y83 (by kernel_rfl)
 (FT.ok_cons Y9d (by kernel_rfl)
 (FT.ok_cons Ys6 (by kernel_rfl)
 (FT.ok_cons Ytf (by kernel_rfl)
 (FT.ok_cons Ytg (by kernel_rfl)
 (FT.ok_cons Yts (by kernel_rfl)
 (FT.ok_cons Ytz (by kernel_rfl)
 (FT.ok_cons Yt1 (by kernel_rfl)
 (FT.ok_cons Yt4 (by kernel_rfl)
 (FT.ok_cons Yt8 (by kernel_rfl)
 (FT.ok_cons Yub (by kernel_rfl)
 (FT.ok_cons Yui (by kernel_rfl)
 (FT.ok_cons Yuk (by kernel_rfl)
 (FT.ok_cons Yuo (by kernel_rfl)
 (FT.ok_cons Yuv (by kernel_rfl)
 (FT.ok_cons Yuw (by kernel_rfl)
 (FT.ok_cons Yu5 (by kernel_rfl)
 (FT.ok_cons Yvb (by kernel_rfl)
 (FT.ok_cons Yve (by kernel_rfl)
 (FT.ok_cons Yvg (by kernel_rfl)
 (FT.ok_cons Yvk (by kernel_rfl)
 (FT.ok_cons Yvl (by kernel_rfl)
 (FT.ok_cons Yvn (by kernel_rfl)
 (FT.ok_cons Yvq (by kernel_rfl)
 (FT.ok_cons Yvs (by kernel_rfl)
 (FT.ok_cons Yvt (by kernel_rfl)
 (FT.ok_cons Yvz (by kernel_rfl)
 (FT.ok_cons Yv1 (by kernel_rfl)
 (FT.ok_cons Ywc (by kernel_rfl)
 (FT.ok_cons Ywd (by kernel_rfl)
 (FT.ok_cons Ywe (by kernel_rfl)
 (FT.ok_cons Ywk (by kernel_rfl)
 (FT.ok_cons Ywp (by kernel_rfl)
 (FT.ok_cons Yww (by kernel_rfl)
 (FT.ok_nil))))))))))))))))))))))))))))))))))))))))))))))))))))))))))))))))))))))))))))))))))))))))))))))))))))))))))))))))))))))))))))))))))))))))))))))))))))))))))))))))))))))))))))))))))))))))))))))))))))))))))))))))))))))))))))))))))))))))))))))))))))))))))))))))))
end Go.Proofs.YtolkimpelpnpbaaGreatDoor
namespace Go.Lx
open Go Go.Ab
def Xf5:Int->List UInt8->Option Int
 | n,[]=>some n
 | n,c::r=>if 1099511627776<10*n+(c.toNat-48) then none else Xf5 (10*n+(c.toNat-48)) r
theorem Xp9 {s:List UInt8}{k:Nat}{n:Int}(h:k<s.length):Xf5 n (s.drop k)=if 1099511627776<10*n+((s[k]?.getD 0).toNat-48) then none else Xf5 (10*n+((s[k]?.getD 0).toNat-48)) (s.drop (k+1)):=by
 rw[List.drop_eq_getElem_cons h]
 simp[Xf5,h]
end Go.Lx
namespace Go.Proofs.YtolkimpelpnpbaaGreatDoor
open Go Go.Ab Go.Lx
section
variable {P:Prg} (hP:P.p=Tryz.prog)
include hP
end
end Go.Proofs.YtolkimpelpnpbaaGreatDoor
namespace Go.Lx
open Go Go.Ab
def TD (a:D)(l:List Tok):Prop:=a=Ybw l\/a=.nils/\l=[]
section
variable {a:D} {l:List Tok} (h:TD a l)
include h
theorem TD.len:U5 (.d a)=.d (.int .i64 l.length):=by rcases h with rfl | ⟨rfl,rfl⟩<;>simp[Ybw]
theorem TD.lenS (ob:Xb):Q0 ob (.d a)=True:=by rcases h with rfl | ⟨rfl,rfl⟩<;>simp[Ybw]
theorem TD.idxS (ob:Xb)(k:IntKind)(i:Int):Xh1 ob 4 (.d a) (.d (.int k i))=(0<=i/\i<l.length):=by
 rcases h with rfl | ⟨rfl,rfl⟩
 ·simp[Ybw]
 ·simp[Xh1,Xao]
theorem TD.idx {k:IntKind}{i:Nat}(hi:i<l.length):Xh2 4 (.d a) (.d (.int k i))=.d (.ref (l[i]?.getD default).enc):=by
 rcases h with rfl | ⟨rfl,rfl⟩
 ·simp[Ybw,hi]
 ·simp at hi
end
end Go.Lx
namespace Go.Lx
open Go Go.Ab

def Xb6 (c:UInt8):Bool:=W0 c.toNat
def Ym (c:UInt8):Bool:=Xbr c.toNat
def Xox (c:UInt8):Bool:=X4s c.toNat
def W2 (c:UInt8):Bool:=Xlw c.toNat
def Ybs (c:UInt8):Bool:=Yne c.toNat
def U6 (c:UInt8):Bool:=c != 10

inductive St where
 | skip (n:Nat)
 | tok (k:Int) (t:List UInt8) (m:Int) (n:Nat)
 | err

def Xf6 (t:List UInt8):Option Int:=match Xf5 0 t with
 | none=>none
 | some n=>if t.length=1\/t.headD 0 ≠ 48 then some n else none

def stp (c:UInt8)(r:List UInt8):St:=
 if Xox c then .skip 0
 else if c=47/\r.head? = some 47 then .skip (r.takeWhile U6).length
 else if Xb6 c then
  if (r.takeWhile W2).length+1<=32 then .tok 1 (c::r.takeWhile W2) 0 (r.takeWhile W2).length else .err
 else if Ym c then
  match Xf6 (c::r.takeWhile Ym) with
  | some n=>.tok 2 [] n (r.takeWhile Ym).length
  | none=>.err
 else if Ybs c then .tok 3 [c] 0 0 else .err

inductive Res where
 | ok (l:List Tok)
 | err (at_:Nat)

def Uf (t:Tok):Res->Res
 | .ok l=>.ok (t::l)
 | .err e=>.err e
def Xxy (l:List Tok):Res->Res
 | .ok l'=>.ok (l++l')
 | .err e=>.err e

def Xgp:List UInt8->Nat->Res
 | [],_=>.ok []
 | c::r,off=>match stp c r with
  | .skip n=>Xgp (r.drop n) (off+n+1)
  | .tok k t m n=>Uf ⟨k,t,m,off⟩ (Xgp (r.drop n) (off+n+1))
  | .err=>.err off
termination_by l=>l.length
decreasing_by all_goals (simp only[List.length_drop,List.length_cons]; omega)

def Yw9:Res->V
 | .ok l=>.tup [.d (Ybw l),.d (.int .i64 0),.d (.int .i64 0)]
 | .err e=>.tup [.d .nils,.d (.int .i64 e),.d (.int .i64 90)]
def Yit (s:List UInt8):V:=if s.length > 65536 then .tup [.d .nils,.d (.int .i64 0),.d (.int .i64 2)] else Yw9 (Xgp s 0)

theorem Xyt (r:Res):Xxy [] r=r:=by cases r<;>rfl
theorem Xeq (l:List Tok)(t:Tok)(r:Res):Xxy l (Uf t r)=Xxy (l++[t]) r:=by cases r<;>simp[Xxy,Uf]

def tw (p:UInt8->Bool)(s:List UInt8)(j:Nat):Nat:=((s.drop j).takeWhile p).length
theorem Yxc {p:UInt8->Bool}{s:List UInt8}{j:Nat}(h:s.length<=j):tw p s j=0:=by simp[tw,List.drop_of_length_le h]
theorem Xxt {p:UInt8->Bool}{s:List UInt8}{j:Nat}(h:j<s.length)(hp:p (s[j]?.getD 0)=true):tw p s j=tw p s (j+1)+1:=by
 simp[h]at hp
 unfold tw
 rw[List.drop_eq_getElem_cons h,List.takeWhile_cons,if_pos hp]; rfl
theorem Yxd {p:UInt8->Bool}{s:List UInt8}{j:Nat}(h:j<s.length)(hp:p (s[j]?.getD 0)=false):tw p s j=0:=by
 simp[h]at hp
 unfold tw
 rw[List.drop_eq_getElem_cons h,List.takeWhile_cons,hp]; rfl
theorem Xqu (p:UInt8->Bool)(s:List UInt8)(j:Nat)(h:j<=s.length):j+tw p s j<=s.length:=by
 have:=(List.takeWhile_sublist p (l:=s.drop j)).length_le
 simp[tw]at this⊢; omega
theorem W3 (p:UInt8->Bool):∀l:List UInt8,l.takeWhile p=l.take (l.takeWhile p).length
 | []=>rfl
 | c::r=>by
  simp only[List.takeWhile_cons]
  split
  ·simp; exact W3 p r
  ·rfl
theorem X3n {p:UInt8->Bool}{x:UInt8}:∀{l:List UInt8},x∈l.takeWhile p->p x=true
 | c::r,h=>by
  rw[List.takeWhile_cons]at h
  split at h
  ·rename_i hc
   rcases List.mem_cons.mp h with rfl | h
   ·exact hc
   ·exact X3n h
  ·cases h
theorem V6 {s:List UInt8}{i:Nat}(h:i<s.length):s.drop i=(s[i]?.getD 0)::s.drop (i+1):=by
 rw[List.drop_eq_getElem_cons h]; simp[h]
theorem Ybx (p:UInt8->Bool){s:List UInt8}{i:Nat}(h:i<s.length)(hp:p (s[i]?.getD 0)=true) :
  (s.take (i+tw p s i)).drop i=(s[i]?.getD 0)::(s.drop (i+1)).takeWhile p/\tw p s i=((s.drop (i+1)).takeWhile p).length+1:=by
 have h1:tw p s i=((s.drop (i+1)).takeWhile p).length+1:=Xxt h hp
 refine⟨?_,h1⟩
 rw[List.drop_take,Nat.add_sub_cancel_left,h1,V6 h,List.take_succ_cons,<-W3]

theorem X1v {s:List UInt8}{i off:Nat}(h:s.length<=i):Xgp (s.drop i) off=.ok []:=by
 rw[List.drop_of_length_le h,Xgp]
theorem X8m {s:List UInt8}{i:Nat}(h:i<s.length):Xgp (s.drop i) i=match stp (s[i]?.getD 0) (s.drop (i+1)) with
  | .skip n=>Xgp (s.drop (i+n+1)) (i+n+1)
  | .tok k t m n=>Uf ⟨k,t,m,i⟩ (Xgp (s.drop (i+n+1)) (i+n+1))
  | .err=>.err i:=by
 rw[V6 h,Xgp]
 cases stp (s[i]?.getD 0) (s.drop (i+1)) with
 | err=>rfl
 | skip n=>simp only[List.drop_drop]; congr 2; omega
 | tok k t m n=>simp only[List.drop_drop]; congr 3; omega
theorem Xh0 {s:List UInt8}{i:Nat}:(s.drop i).head? = s[i]?:=by simp[List.head?_drop]
end Go.Lx
namespace Go.Lx
open Go Go.Ab
def X8l:Nat->List UInt8->Nat->Res
 | 0,_,_=>.ok []
 | _,[],_=>.ok []
 | f+1,c::r,off=>match stp c r with
  | .skip n=>X8l f (r.drop n) (off+n+1)
  | .tok k t m n=>Uf ⟨k,t,m,off⟩ (X8l f (r.drop n) (off+n+1))
  | .err=>.err off
theorem Xkm:∀(f:Nat) (s:List UInt8) (off:Nat),s.length<=f->X8l f s off=Xgp s off
 | 0,s,off,h=>by
  have:s=[]:=List.length_eq_zero_iff.1 (by omega)
  subst this; simp[X8l,Xgp]
 | f+1,[],off,h=>by simp[X8l,Xgp]
 | f+1,c::r,off,h=>by
  rw[X8l,Xgp]
  have hl:∀n,(r.drop n).length<=f:=fun n=>by simp at h⊢; omega
  split
  ·rw[Xkm f _ _ (hl _)]; try simp_all
  ·rw[Xkm f _ _ (hl _)]; try simp_all
  ·simp_all
end Go.Lx
namespace Go.Ab
open Go
theorem ACall.nilv {P:Prg}{f:Nat}{vs:List V}{ob:Xb}{K:Out->Xb->Prop}(h:ACall P f vs ob fun o b=>K o b\/(o=.ret (.d .nils)/\∃E z,K (.ret (.sl (Xa b) 0)) ((Xa b,.vec E z [])::b))):ACall P f vs ob K:=
  ⟨fun w ρ args ho hg hr=>(h.run w ρ args ho hg hr).mono fun e w' ⟨o,b,ρ',k,hre,hO,t⟩=>by
    rcases k with k | ⟨rfl,E,z,k⟩
    · exact⟨o,b,ρ',k,hre,hO,t⟩
    · have hl:Xe b (Xa b)=none:=X0 b
      have hbl:∀b,RO.virt.blk? = some b->w'.heap.size<=b:=fun b hb=>by simp[RO.blk?]at hb
      have t1:=Wu w' (Ext.refl w') (o:=.virt) (hO.free hl) hbl
      have o1:OM w' (ρ'.ins (Xa b) .virt) ((Xa b,.vec E z [])::b):=hO.ins (Ext.refl w') hl hbl (.inl ⟨Yf,rfl⟩)
      refine⟨_,_,_,k,?_,o1,t.trans t1⟩
      cases e with
      | returned u=>
        have h1:(V.d .nils).rep w' ρ' u:=hre
        show (V.sl (Xa b) 0).rep w' (ρ'.ins (Xa b) .virt) u
        rw[Uu]at h1
        rcases h1 with⟨h1,_⟩ | ⟨_,h1⟩
        · cases h1
        · simp only[D.rep,List.cons.injEq,and_true]at h1
          exact Yg.2 ⟨.virt,Yf,rfl,h1⟩
      | _=>exact (hre:False).elim⟩
def Zn (E z B:Nat):S:=.seq (.rg [] [.op (some 2) (.c (.mv .nils))] [0] [])
 (.seq (.seq (.rg [] [.op (some 3) (.c (.mv (.t 0))),
   .op (some 4) (.isn true false (.t 3))] [0,4] [])
 (.cond (.t 4) (.seq (.rg [] [.op (some 2) (.c (.mv .nils))] [2] [])
 (.ret)) (.skip)))
 (.seq (.rg [] [.op (some 5) (.blv E z [] []),
   .op (some 6) (.c (.mv (.t 0))),
   .op (some 7) (.apv E z B (.t 5) (.t 6)),
   .op (some 2) (.c (.mv (.t 7)))] [2] [])
 (.ret)))
def Xsu (E z B:Nat):S2:=.seq (.rg [] [(0,(.a (.t 0)))] [])
 (.seq (.seq (.rg [.lt 3 [] (.a (.t 0)),.op (some 4) (.isn true false (.t 3))] [(0,(.a (.t 0))),(4,(.a (.t 4)))] [])
 (.cond (.t 4) (.seq (.rg [] [(2,(.a .nils))] [])
 (.ret)) (.skip)))
 (.seq (.rg [.op (some 5) (.blv E z [] []),.lt 6 [] (.a (.t 0)),.op (some 7) (.apv E z B (.t 5) (.t 6))] [(2,(.a (.t 7)))] [])
 (.ret)))
theorem Xdm (E z B:Nat):(Zn E z B).lift []=some (Xsu E z B):=by rfl
theorem X46 {P:Prg}{p:Program}(hP:P.p=p)(hm:p.follows .mixedOrders=true){f E z B:Nat}(hc:Xj p f 1 (Zn E z B) [.t 2]=true){xs:List D}(hs:∀x∈xs,x.sz=z)(hB:(2*xs.length+192)*B<=281474976710656){ob:Xb}{K:Out->Xb->Prop}(h:K (.ret (.sl (Xa ob) xs.length)) ((Xa ob,.vec E z (xs.map .d))::ob)):ACall P f [.d (.list z xs)] ob K:=by
  refine ACall.nilv ?_
  refine Wh hP hm hc (Xdm E z B) TOk.nil fun _ hno=>?_
  simp[Xsu,I.wp,Xu0,Yci,Xq0,Xpd]
  constructor
  · refine⟨hB,[Xa ob],by simp[Xd],?_,?_⟩
    · have hd:∀(p:Nat->Bool) (l:List D),V.mens p (l.map .d)=false:=fun p l=>by induction l<;>simp_all[V.mens,V.men]
      simp[Xd,hd]
      exact hno _
    · simpa[Xd]using h
  · intro e
    exact⟨[],by simp,by simpa using hno [],.inr ⟨E,z,by simpa[e]using h⟩⟩
theorem Xyl {P:Prg}{p:Program}(hP:P.p=p)(hm:p.follows .mixedOrders=true){f E z B:Nat}(hc:Xj p f 1 (Zn E z B) [.t 2]=true){ob:Xb}{K:Out->Xb->Prop}(h:K (.ret (.sl (Xa ob) 0)) ((Xa ob,.vec E z [])::ob)):ACall P f [.d .nils] ob K:=by
  refine ACall.nilv ?_
  refine Wh hP hm hc (Xdm E z B) TOk.nil fun _ hno=>?_
  simp[Xsu,I.wp,Xu0]
  exact⟨[],by simp,by simpa using hno [],.inr ⟨E,z,by simpa using h⟩⟩
end Go.Ab
namespace Go.Proofs.YtolkimpelpnpbaaGreatDoor
open Go Go.Ab
theorem Y28:Xj Tryz.prog 85 1 (Zn 9 1 16) [.t 2]=true:=by kernel_rfl
theorem Y29:Xj Tryz.prog 86 1 (Zn 164 5 56) [.t 2]=true:=by kernel_rfl
theorem Y3a:Xj Tryz.prog 87 1 (Zn 110 6 96) [.t 2]=true:=by kernel_rfl
theorem Y3b:Xj Tryz.prog 88 1 (Zn 170 5 96) [.t 2]=true:=by kernel_rfl
theorem Y3c:Xj Tryz.prog 89 1 (Zn 174 5 72) [.t 2]=true:=by kernel_rfl
theorem Y3d:Xj Tryz.prog 90 1 (Zn 71 3 48) [.t 2]=true:=by kernel_rfl
theorem Y3e:Xj Tryz.prog 165 1 (Zn 115 11 120) [.t 2]=true:=by kernel_rfl
theorem Y3f:Xj Tryz.prog 166 1 (Zn 240 4 72) [.t 2]=true:=by kernel_rfl
theorem Y3g:Xj Tryz.prog 167 1 (Zn 244 8 96) [.t 2]=true:=by kernel_rfl
theorem Y3h:Xj Tryz.prog 169 1 (Zn 38 11 120) [.t 2]=true:=by kernel_rfl
theorem Yp7:Xj Tryz.prog 170 1 (Zn 251 7 80) [.t 2]=true:=by kernel_rfl
theorem Yp8:Xj Tryz.prog 171 1 (Zn 255 5 56) [.t 2]=true:=by kernel_rfl
theorem Yp9:Xj Tryz.prog 172 1 (Zn 56 4 48) [.t 2]=true:=by kernel_rfl
def Xmz:List (Nat×Nat×Nat×Nat):=[(85,9,1,16),(86,164,5,56),(87,110,6,96),(88,170,5,96),(89,174,5,72),(90,71,3,48),(165,115,11,120),(166,240,4,72),(167,244,8,96),(169,38,11,120),(170,251,7,80),(171,255,5,56),(172,56,4,48)]
theorem Xsv:∀e∈Xmz,Xj Tryz.prog e.1 1 (Zn e.2.1 e.2.2.1 e.2.2.2) [.t 2]=true:=by
  simp only[Xmz,List.forall_mem_cons]
  exact⟨Y28,Y29,Y3a,Y3b,Y3c,Y3d,Y3e,Y3f,Y3g,Y3h,Yp7,Yp8,Yp9,fun _ h=>by cases h⟩
def Xss (E z B:Nat)(ob:Xb):D->Option (V×Xb)
  | .nils=>some (.sl (Xa ob) 0,(Xa ob,.vec E z [])::ob)
  | .list z' xs=>bif Nat.beq z' z&&xs.all (fun x=>Nat.beq x.sz z)&&decide ((2*xs.length+192)*B<=281474976710656) then some (.sl (Xa ob) xs.length,(Xa ob,.vec E z (xs.map .d))::ob) else none
  | _=>none
def Xmy (f:Nat)(x:D)(ob:Xb):List (Nat×Nat×Nat×Nat)->Option (V×Xb)
  | []=>none
  | (g,E,z,B)::r=>bif Nat.beq f g then Xss E z B ob x else Xmy f x ob r
theorem Xst {P:Prg}(hP:P.p=Tryz.prog){f E z B:Nat}(hc:Xj Tryz.prog f 1 (Zn E z B) [.t 2]=true){x:D}{ob b:Xb}{o:V}(h:Xss E z B ob x=some (o,b)):XCall P f [.d x] ob fun o' b'=>o'=o/\b'=b:=by
  unfold Xss at h
  split at h
  · cases h; exact XCall.of_nil (ds:=[.nils]) (xs:=[]) (Xyl hP mixed hc ⟨rfl,rfl⟩) ⟨rfl,rfl⟩
  · rw[Bool.cond_eq_ite]at h
    split at h
    · rename_i e
      cases h
      simp only[Bool.and_eq_true,decide_eq_true_eq,List.all_eq_true]at e
      obtain⟨⟨e1,e3⟩,e4⟩:=e
      rw[Nat.eq_of_beq_eq_true e1]
      exact XCall.of_nil (ds:=[.list _ _]) (X46 hP mixed hc (fun x hx=>Nat.eq_of_beq_eq_true (e3 x hx)) e4 ⟨rfl,rfl⟩) ⟨rfl,rfl⟩
    · cases h
  · cases h
theorem Xhc {P:Prg}(hP:P.p=Tryz.prog){f:Nat}{x:D}{ob b:Xb}{o:V}:∀l:List (Nat×Nat×Nat×Nat),(∀e∈l,Xj Tryz.prog e.1 1 (Zn e.2.1 e.2.2.1 e.2.2.2) [.t 2]=true)->Xmy f x ob l=some (o,b)->XCall P f [.d x] ob fun o' b'=>o'=o/\b'=b
  | [],_,h=>by cases h
  | (g,E,z,B)::r,hl,h=>by
    simp only[Xmy,Bool.cond_eq_ite]at h
    split at h
    · rename_i e
      rw[Nat.eq_of_beq_eq_true e]
      exact Xst hP (hl _ List.mem_cons_self) h
    · exact Xhc hP r (fun e he=>hl e (List.mem_cons_of_mem _ he)) h
end Go.Proofs.YtolkimpelpnpbaaGreatDoor
namespace Go.Py
open Go Go.Ab Go.Lx
def X8n (s:List UInt8):V:=if s.length > 65536 then .tup [.d .nils,.d (.int .i64 0),.d (.int .i64 2)] else Yw9 (X8l s.length s 0)
theorem X1w (s:List UInt8):X8n s=Yit s:=by
 have e:=Xkm s.length s 0 (Nat.le_refl _)
 unfold X8n Yit
 rw[e]
def xgl (g:Nat):Option D:=
 bif Nat.beq g 0 then some (.agg [.int .i64 2,.int .i64 1000]) else
 bif Nat.beq g 1 then some (.agg [.int .i64 1,.int .i64 255]) else
 bif Nat.beq g 2 then some (.agg [.int .i64 0,.int .i64 32]) else
 bif Nat.beq g 3 then some (.agg [.int .i64 0,.int .i64 9]) else
 bif Nat.beq g 4 then some (.agg [.int .i64 0,.int .i64 1048576]) else none
def Ybl:Nat->List (List Nat)
 | 0=>[[]]
 | 1=>[[0]]
 | 2=>[[0,1],[1,0]]
 | 3=>[[0,1,2],[0,2,1],[1,0,2],[1,2,0],[2,0,1],[2,1,0]]
 | _=>[]
def Yqc:D×V->Option (Int×Int)
 | (.agg [.int .i64 a,.int .i64 b],.d (.bool true))=>some (a,b)
 | _=>none
def Xzc:List (D×V)->Option (List (Int×Int))
 | []=>some []
 | e::r=>match Yqc e,Xzc r with
  | some p,some l=>some (p::l)
  | _,_=>none
def Y12 (a n:Nat)(ob:Xb):Option (Out×Xb)->Option (List D)
 | some (.ret (.tup []),(j,.arr E 2 l)::r)=>bif Nat.beq j a&&Nat.beq l.length n&&Nat.beq E 76&&Xx1 r ob then some l else none
 | _=>none
end Go.Py
namespace Go.Proofs.YtolkimpelpnpbaaGreatDoor
open Go Go.Ab Go.Lx Go.Py
def xpc (f:Nat)(vs:List V):Option V:=match vs with
 | [.d (.str s)]=>bif Nat.beq f 74 then some (X8n s) else none
 | _=>none
def xz0:Fns:=⟨fun _ _ _=>none,fun _ _ _=>none,fun _=>false,xgl,fun _ _ _=>none,fun _=>none,fun _ _ _=>none⟩
def Ycf (ob:Xb)(a:Nat)(fs:List (Int×Int))(sn:List Nat):Option (List D):=
 Y12 a sn.length ob ((fns 100 Wf xz0 12).call 108 [.sl a sn.length,.fn 54 [] []] ((a,.arr 76 2 (sn.map fun i=>fD (atF fs i)))::ob))
def Yn4 (ob:Xb)(a:Nat)(fs:List (Int×Int))(s:List D):List (List Nat)->Bool
 | []=>true
 | sn::r=>(match Ycf ob a fs sn with
  | some l=>D.eqbs l s
  | none=>false)&&Yn4 ob a fs s r
def X2l (ob:Xb)(fs:List (Int×Int)):Option (Out×Xb):=match Ybl fs.length with
 | sn::r=>(match Ycf ob (Xa ob+5) fs sn with
  | some s=>bif Yn4 ob (Xa ob+5) fs s r then some (.ret (.d (.list 2 s)),ob) else none
  | none=>none)
 | []=>none
def Ys4 (ob:Xb):Option (Out×Xb)->Option (Out×Xb)
 | some (.ret (.tup []),r)=>bif Xx1 r ob then some (.ret (.d .nils),ob) else none
 | _=>none
def Ynj (ob:Xb):Option Ob->Option (Out×Xb)
 | some (.map es)=>(match Xzc es with
  | some []=>Ys4 ob ((fns 100 Wf xz0 12).call 108 [.d .nils,.fn 54 [] []] ob)
  | some fs=>X2l ob fs
  | none=>none)
 | _=>none
def Ynk (ob:Xb):Option Ob->Option (Out×Xb)
 | some (.box _ (.mp m))=>Ynj ob (Xe ob m)
 | _=>none
def xcall (f:Nat)(vs:List V)(ob:Xb):Option (Out×Xb):=bif Nat.beq f 52 then
  (match vs with
  | [.fn g [] [.ptr bx []],.fn h [] []]=>bif Nat.beq g 109&&Nat.beq h 54 then Ynk ob (Xe ob bx) else none
  | _=>none)
 else none
def xxc (f:Nat)(vs:List V)(ob:Xb):Option (V×Xb):=match vs with
 | [.d x]=>Xmy f x ob Xmz
 | _=>none
def xlt (k:Nat):Option (List Nat×S×S):=
 bif Nat.beq k 18 then some ([34],ir18900,ir18901) else
 bif Nat.beq k 260 then some ([7],ir260900,ir260901) else none
def xz:Fns:=⟨xcall,fun f vs _=>xpc f vs,fun f=>Nat.beq f 109,xgl,fun _ _ _=>none,xlt,xxc⟩
end Go.Proofs.YtolkimpelpnpbaaGreatDoor
namespace Go.Lx
open Go Go.Ab
theorem Xjk {i n:Nat}(h:i<n)(hn:n<=1000000):IntKind.i64.wrap ((i:Int)+1)=(i:Int)+1:=IntWalk.i64_in _ (by omega)
end Go.Lx
namespace Go.Lx
open Go Go.Ab
def Xgh (f:Nat->Int):List D:=(List.range 256).map fun i=>.int .i64 (f i)
def Ur (f:Nat->Int):D:=.agg (Xgh f)
def upd (f:Nat->Int)(n:Nat)(v:Int)(i:Nat):Int:=if i=n then v else f i
theorem Zl {f g:Nat->Int}(h:∀i,i<256->f i=g i):Ur f=Ur g:=by
 unfold Ur Xgh
 congr 1
 exact List.map_congr_left fun i hi=>by rw[h i (List.mem_range.mp hi)]
@[simp] theorem tbl_kids (f:Nat->Int):V.kids (.d (Ur f))=some ((Xgh f).map .d):=by simp only[Ur,V.kids]
@[simp] theorem tbl_getE (f:Nat->Int){n:Nat}(h:n<(Xgh f).length):(Xgh f)[n]=.int .i64 (f n):=by simp[Xgh]
@[simp] theorem Xct (f:Nat->Int):(Xgh f).length=256:=by simp[Xgh]
@[simp] theorem allD_set (l:List D)(n:Nat)(x:D):V.allD ((l.map V.d).set n (.d x))=some (l.set n x):=by rw[<-List.map_set,allD_map]
@[simp] theorem tblL_set (f:Nat->Int)(n:Nat)(v:Int):(Xgh f).set n (.int .i64 v)=Xgh (upd f n v):=by
 unfold Xgh
 apply List.ext_getElem?
 intro i
 by_cases hi:n=i
 ·subst hi
  by_cases hl:n<256
  ·simp[List.getElem?_set,hl,upd]
  ·simp[List.getElem?_set,hl]
 ·by_cases hl:i<256
  ·simp[List.getElem?_set,hi,hl,upd,Ne.symm hi]
  ·simp[List.getElem?_set,hi,hl]
@[simp] theorem X5a (f:Nat->Int):D.agg (Xgh f)=Ur f:=rfl
theorem Ybu {l:List D}{n:Nat}(h:∀x∈l,x.sz=n):D.szs l=l.length*n:=D.szs_uniform l h
theorem Xgi (f:Nat->Int):∀x∈Xgh f,x.sz=1:=by
 intro x hx
 simp only[Xgh,List.mem_map]at hx
 obtain⟨i,_,rfl⟩:=hx
 rfl
@[simp] theorem Ynu (f:Nat->Int):(Ur f).sz=256:=by simp only[Ur,D.sz,Ybu (Xgi f),Xct]
@[simp] theorem tbl_size' (f:Nat->Int):(Ur f).shape.size=256:=by rw[D.size_shape,Ynu]
@[simp] theorem tbl_agg (f:Nat->Int):V.isAgg (.d (Ur f))=true:=rfl
@[simp] theorem tbl_dagg (f:Nat->Int):(Ur f).isAgg=true:=rfl
@[simp] theorem tbl_ok (f:Nat->Int):(∀a,a∈Xgh f->a.shape.size=1)=True:=
 eq_true fun x hx=>by rw[D.size_shape]; exact Xgi f x hx
theorem X11 (n:Nat)(x:D):List.replicate n x=(List.range n).map fun _=>x:=by
 rw[List.map_const',List.length_range]
theorem Jo:∀s:List UInt8,Yh s=s.map fun b=>.int .u8 b.toNat
 | []=>rfl
 | b::r=>by simp[Yh,Jo r]
theorem Xjo:List.replicate 256 (D.int .i64 0)=Xgh fun _=>0:=X11 256 _

def cl1 (k i:Nat):Int:=if 65<=i/\i<65+k\/97<=i/\i<97+k then 2 else 0
def cl2 (k i:Nat):Int:=if 48<=i/\i<48+k then 3 else cl1 26 i
def spc:List UInt8:=[32,9,10,13]
def cl3 (k i:Nat):Int:=if i∈(spc.take k).map UInt8.toNat then 1 else cl2 10 i
def cl4 (k i:Nat):Int:=if i∈(Xau.take k).map UInt8.toNat then 4 else cl3 4 i
def Xgo:Nat->Int:=cl4 15
theorem Xoj {l:List UInt8}{k i:Nat}(h:k<l.length):(i∈(l.take (k+1)).map UInt8.toNat)↔(i=(l[k]?.getD 0).toNat\/i∈(l.take k).map UInt8.toNat):=by
 rw[List.take_add_one,List.map_append,List.mem_append,List.getElem?_eq_getElem h]
 simp only[Option.toList_some,List.map_cons,List.map_nil,List.mem_singleton,Option.getD_some]
 exact Or.comm
def Yxr:D:=Ur Xgo
end Go.Lx
namespace Go.Proofs.YtolkimpelpnpbaaGreatDoor
open Go Go.Ab Go.Lx
section
variable {P:Prg} (hP:P.p=Tryz.prog)
include hP
theorem Xpg {ob:Xb}{K:V->Prop}(h:K (.d Yxr)):PCall P 127 [] ob K:=by
 refine Xg hP mixed (ds:=[]) Yl6 Yro TOk.nil ?_
 simp only[Yjb,Xjo]
 rw[show D.agg (Xgh fun _=>0)=Ur fun _=>0 from rfl,show Ur (fun _=>0)=Ur (cl1 0) from Zl fun i _=>by simp[cl1]]
 simp
 refine ALoop.go (ι:=Nat) (fun k=>[(0,.ptr 0 []),(7,.d (.int .i64 k))]) (fun k=>[(0,.box 225 (.d (Ur (cl1 k))))]) (fun k=>k<=26) (fun k=>26-k) 0 (by omega) (by simp) (by simp) ?_
 intro k hk R rn re _ _
 by_cases hlt:k<26
 ·have w1:IntKind.i64.wrap (65+(k:Int))=65+(k:Int):=IntWalk.i64_in _ (by omega)
  have w2:IntKind.i64.wrap (97+(k:Int))=97+(k:Int):=IntWalk.i64_in _ (by omega)
  have w3:=Xjk hlt (by omega)
  simp[Xmc,w1,w2,w3,show (k:Int)<26 by omega,show ¬(26:Int)<=k by omega,show (0:Int)<=65+k by omega,show (0:Int)<=97+k by omega,show 65+(k:Int)<256 by omega,show 97+(k:Int)<256 by omega,show (65+(k:Int)).toNat=65+k by omega,show (97+(k:Int)).toNat=97+k by omega,show 65+k<256 by omega,show 97+k<256 by omega]
  refine rn [] (k+1) _ _ ?_ ?_ ?_ ?_ ?_ ?_
  ·omega
  ·omega
  ·simp
  ·simp
   refine Zl fun i _=>?_
   simp only[upd,cl1]
   repeat (first | split | omega)
   all_goals omega
  ·simp
  ·simp
 ·have hk':k=26:=by omega
  subst hk'
  simp[Xmc]
  refine re _ _ _ ?_
  simp
  clear rn re
  rw[show Ur (cl1 26)=Ur (cl2 0) from Zl fun i _=>by simp[cl2]; omega]
  refine ALoop.go (ι:=Nat) (fun k=>[(0,.ptr 0 []),(17,.d (.int .i64 k))]) (fun k=>[(0,.box 225 (.d (Ur (cl2 k))))]) (fun k=>k<=10) (fun k=>10-k) 0 (by omega) (by simp) (by simp) ?_
  intro k hk R rn re _ _
  by_cases hlt:k<10
  ·have w1:IntKind.i64.wrap (48+(k:Int))=48+(k:Int):=IntWalk.i64_in _ (by omega)
   have w3:=Xjk hlt (by omega)
   simp[Xmb,w1,w3,show (k:Int)<10 by omega,show ¬(10:Int)<=k by omega,show (0:Int)<=48+k by omega,show 48+(k:Int)<256 by omega,show (48+(k:Int)).toNat=48+k by omega,show 48+k<256 by omega]
   refine rn [] (k+1) _ _ ?_ ?_ ?_ ?_ ?_ ?_
   ·omega
   ·omega
   ·simp
   ·simp
    refine Zl fun i _=>?_
    simp only[upd,cl2]
    repeat (first | split | omega)
    all_goals omega
   ·simp
   ·simp
  ·have hk':k=10:=by omega
   subst hk'
   simp[Xmb]
   refine re _ _ _ ?_
   simp
   clear rn re
   rw[show Ur (cl2 10)=Ur (cl3 0) from Zl fun i _=>by simp[cl3]]
   show ALoop _ _ _ [_,(25,V.d (D.list 1 (Yh spc))),_,_] _
   refine ALoop.go (ι:=Nat) (fun k=>[(0,.ptr 0 []),(25,.d (.list 1 (Yh spc))),(26,.d (.int .i64 4)),(27,.d (.int .i64 k))]) (fun k=>[(1,.gone),(0,.box 225 (.d (Ur (cl3 k))))]) (fun k=>k<=4) (fun k=>4-k) 0 (by omega) (by simp[Xk]) (by simp) ?_
   intro k hk R rn re _ _
   by_cases hlt:k<4
   ·have w3:=Xjk hlt (by omega)
    have hb:(Yh spc)[k]?.getD default=.int .u8 (spc[k]?.getD 0).toNat:=by
     rw[Jo]; simp[show k<spc.length from hlt]
    have hlen:(Yh spc).length=4:=rfl
    have hc:=(spc[k]?.getD 0).toNat_lt
    generalize hcc:spc[k]?.getD 0=c at *
    simp[Xma,w3,hb,hlen,show (k:Int)<4 by omega,show ¬(4:Int)<=k by omega,hc,show ((c.toNat:Int)<256) by omega]
    refine rn [] (k+1) _ _ ?_ ?_ ?_ ?_ ?_ ?_
    ·omega
    ·omega
    ·simp
    ·simp
     refine Zl fun i _=>?_
     simp only[upd,cl3,Xoj (show k<spc.length from hlt),hcc]
     split
     ·rename_i e; simp[e]
     ·rename_i e; simp[e]
    ·simp
    ·simp
   ·have hk':k=4:=by omega
    subst hk'
    simp[Xma]
    refine re _ _ _ ?_
    simp
    clear rn re
    rw[show Ur (cl3 4)=Ur (cl4 0) from Zl fun i _=>by simp[cl4]]
    show ALoop _ _ _ [_,(35,V.d (D.list 1 (Yh Xau))),_,_] _
    refine ALoop.go (ι:=Nat) (fun k=>[(0,.ptr 0 []),(35,.d (.list 1 (Yh Xau))),(36,.d (.int .i64 15)),(37,.d (.int .i64 k))]) (fun k=>[(2,.gone),(1,.gone),(0,.box 225 (.d (Ur (cl4 k))))]) (fun k=>k<=15) (fun k=>15-k) 0 (by omega) (by simp[Xk]) (by simp) ?_
    intro k hk R rn re _ _
    by_cases hlt:k<15
    ·have w3:=Xjk hlt (by omega)
     have hb:(Yh Xau)[k]?.getD default=.int .u8 (Xau[k]?.getD 0).toNat:=by
      rw[Jo]; simp[show k<Xau.length from hlt]
     have hlen:(Yh Xau).length=15:=rfl
     have hc:=(Xau[k]?.getD 0).toNat_lt
     generalize hcc:Xau[k]?.getD 0=c at *
     simp[Xl9,w3,hb,hlen,show (k:Int)<15 by omega,show ¬(15:Int)<=k by omega,hc,show ((c.toNat:Int)<256) by omega]
     refine rn [] (k+1) _ _ ?_ ?_ ?_ ?_ ?_ ?_
     ·omega
     ·omega
     ·simp
     ·simp
      refine Zl fun i _=>?_
      simp only[upd,cl4,Xoj (show k<Xau.length from hlt),hcc]
      split
      ·rename_i e; simp[e]
      ·rename_i e; simp[e]
     ·simp
     ·simp
    ·have hk':k=15:=by omega
     subst hk'
     simp[Xl9]
     refine re _ _ _ ?_
     simp
     refine⟨rfl,?_⟩
     exact h
end
end Go.Proofs.YtolkimpelpnpbaaGreatDoor
namespace Go.Lx
open Go Go.Ab
@[simp] theorem idxPV_tbl (f:Nat->Int)(kd:IntKind)(i:Int):Xe9 (.d (.ref (Ur f))) (.d (.int kd i))=.d (.ref ((Xgh f).getD i.toNat default)):=by simp only[Ur,Xe9]
@[simp] theorem idxPS_tbl (ob:Xb)(f:Nat->Int)(kd:IntKind)(i:Int):Xke ob 256 1 (.d (.ref (Ur f))) (.d (.int kd i))=(0<=i/\i<256):=by
 simp only[Ur,X6z,Xct]
 simp
 intro _ _ x hx; exact Xgi f x hx
theorem Xdn:∀n,n<256->(Xgo n=2↔W0 n=true):=by decide +kernel
theorem Xbp:∀n,n<256->(Xgo n=3↔Xbr n=true):=by decide +kernel
theorem Xsx:∀n,n<256->(Xgo n=1↔X4s n=true):=by decide +kernel
theorem Xy8:∀n,n<256->(Xgo n=4↔Yne n=true):=by decide +kernel
theorem Xsw:∀n,n<256->0<=Xgo n/\Xgo n<=4:=by decide +kernel
abbrev scD (s:List UInt8)(i:Int)(l:List D):D:=.agg [.str s,.int .i64 i,Ur Xgo,.list 4 l]
abbrev scV (s:List UInt8)(i:Int)(y n:Nat):V:=.agg [.d (.str s),.d (.int .i64 i),.d (Ur Xgo),.sl y n]
end Go.Lx
namespace Go.Proofs.YtolkimpelpnpbaaGreatDoor
open Go Go.Ab Go.Lx
section
variable {P:Prg} (hP:P.p=Tryz.prog)
include hP
theorem X5v (c:UInt8)(s:List UInt8)(i:Int)(l:List D){ob:Xb}{K:V->Prop}(h:K (.d (.bool (W2 c)))):PCall P 219 [.d (.int .u8 c.toNat),.d (.ref (.ref (scD s i l)))] ob K:=by
 refine Xg hP mixed (ds:=[.int .u8 c.toNat,.ref (.ref (scD s i l))]) Ymm Yr4 TOk.nil ?_
 have hc:=c.toNat_lt
 simp[Ypd,hc,show (c.toNat:Int)<256 by omega]
 refine (congrArg K ?_).mp h
 congr 2
 rw[Bool.eq_iff_iff]
 have h2:=Xdn c.toNat hc
 have h3:=Xbp c.toNat hc
 simp[W2,Xlw,h2,h3]
theorem Xsl (c:UInt8)(s:List UInt8)(i:Int)(l:List D){ob:Xb}{K:V->Prop}(h:K (.d (.bool (Ym c)))):PCall P 221 [.d (.int .u8 c.toNat),.d (.ref (.ref (scD s i l)))] ob K:=by
 refine Xg hP mixed (ds:=[.int .u8 c.toNat,.ref (.ref (scD s i l))]) Ymo Yr6 TOk.nil ?_
 have hc:=c.toNat_lt
 simp[Ypf,hc,show (c.toNat:Int)<256 by omega]
 refine (congrArg K ?_).mp h
 congr 2
 rw[Bool.eq_iff_iff]
 have h3:=Xbp c.toNat hc
 simp[Ym,h3]
theorem X5y (c:UInt8){ob:Xb}{K:V->Prop}(h:K (.d (.bool (U6 c)))):PCall P 223 [.d (.int .u8 c.toNat)] ob K:=by
 refine Xg hP mixed (ds:=[.int .u8 c.toNat]) Ymq Yr8 TOk.nil ?_
 simp[Yph]
 refine (congrArg K ?_).mp h
 congr 2
 rw[Bool.eq_iff_iff]
 simp[U6]
 constructor
 ·intro h1 h2; exact h1 (by rw[<-UInt8.ofNat_toNat (x:=c),show c.toNat=10 by omega]; rfl)
 ·intro h1 h2; subst h2; exact h1 rfl
theorem Xy0 (s t:List UInt8){ob:Xb}{K:V->Prop}(h:K (.d (.bool (t.isPrefixOf s)))):PCall P 222 [.d (.str s),.d (.str t)] ob K:=by
 have h0:∀{K:V->Prop},K (.d (.bool (t.isPrefixOf s)))->PCall P 285 [.d (.str s),.d (.str t)] [] K:=fun {K} h=>by
  refine Xg hP mixed (ds:=[.str s,.str t]) Ymv Ysd TOk.nil ?_
  simp[Ypj]
  refine (congrArg K ?_).mp h
  congr 2
  rw[Bool.eq_iff_iff]
  simp only[List.isPrefixOf_iff_prefix,List.prefix_iff_eq_take]
  by_cases hl:t.length<=s.length
  ·simp[hl]; exact eq_comm
  ·simp[hl]
   intro e
   have:=congrArg List.length e
   simp at this; omega
 refine Xg hP mixed (ds:=[.str s,.str t]) Ymp Yr7 TOk.nil ?_
 simp[Ypg]
 exact h0 (by simpa using h)
theorem X5x (s:List UInt8)(i:Nat)(hi:i<=s.length)(hs:s.length<=1000000)(l:List D)(f:Nat)(fi ca:List D)(p:UInt8->Bool)(hf:Xm P.p f=true)
  (hp:∀(c:UInt8) (K:V->Prop),K (.d (.bool (p c)))->PCall P f (fi.map .d++.d (.int .u8 c.toNat)::ca.map .d) [] K)
  {ob:Xb} {K:V->Prop} (h:K (.d (.str ((s.drop i).takeWhile p)))):PCall P 218 [.d (.ref (scD s i l)),.d (.fn f fi ca)] ob K:=by
 refine Xg hP mixed (ds:=[.ref (scD s i l),.fn f fi ca]) Yml Yr3 TOk.nil ?_
 simp[Ypc]
 refine ALoop.go (ι:=Nat) (fun j=>[(0,.d (.ref (scD s i l))),(1,.d (.fn f fi ca)),(5,.d (.int .i64 j))]) (fun _=>[]) (fun j=>i<=j/\j<=s.length/\j+tw p s j=i+tw p s i) (fun j=>s.length-j) i ⟨by omega,by omega,rfl⟩ rfl rfl ?_
 rintro j ⟨hj0,hj1,hj2⟩ R rn re _ _
 have ex:tw p s j=0->∀x,R (AExit.exit 0) [(0,.d (.ref (scD s i l))),(1,.d (.fn f fi ca)),(5,.d (.int .i64 j)),(26,x)] []:=fun h0 x=>by
  refine re _ _ _ ?_
  simp[hj0,hj1]
  refine (congrArg K ?_).mp h
  congr 2
  rw[List.drop_take,W3]
  congr 1
  simp only[tw]at hj2 h0⊢
  omega
 simp[Xyf]
 by_cases hjl:j<s.length
 ·have hwj:=Xjk hjl hs
  simp[hjl,hwj,hf]
  refine⟨PCall.acall (hp s[j] _ ?_),fun h=>absurd h (by omega)⟩
  by_cases hb:p s[j]=true
  ·simp[hb]
   refine rn [] (j+1) _ _ ⟨?_,?_,?_⟩ ?_ ?_ ?_ ?_ ?_
   ·omega
   ·omega
   ·rw[<-hj2,Xxt hjl (by simpa[hjl]using hb)]; omega
   ·omega
   ·simp
   ·simp
   ·simp
   ·simp
  ·simp[hb]
   exact ex (Yxd hjl (by simpa[hjl]using hb)) _
 ·simp[hjl]
  exact fun _=>ex (Yxc (by omega)) _
end
end Go.Proofs.YtolkimpelpnpbaaGreatDoor
namespace Go.Proofs.YtolkimpelpnpbaaGreatDoor
open Go Go.Ab Go.Lx
section
variable {P:Prg} (hP:P.p=Tryz.prog)
include hP
theorem X5p (s:List UInt8)(i n:Nat)(k m a0:Int)(t:List UInt8)(ts:List D)(hn:i+n<=1000000)(hts:ts.length<=1000000){ob:Xb}{x y:Nat}(hx:Xe ob x=some (.box 228 (scV s i y ts.length)))(hy:Xe ob y=some (.arr 153 4 ts))
  {K:Out->Xb->Prop} (h:K (.ret (.tup [])) (setO (setO ob y (.arr 153 4 (ts++[.agg [.int .i64 k,.str t,.int .i64 m,.int .i64 i]]))) x (.box 228 (scV s ((i+n:Nat):Int) y (ts.length+1))))) :
  ACall P 220 [.ptr x [],.d (.agg [.int .i64 k,.str t,.int .i64 m,.int .i64 a0]),.d (.int .i64 n)] ob K:=by
 have hxy:(y==x)=false:=by rw[beq_eq_false_iff_ne]; intro e; subst e; rw[hx]at hy; cases hy
 have hyx:(x==y)=false:=by rw[beq_eq_false_iff_ne]; intro e; subst e; rw[hx]at hy; cases hy
 refine Xo hP mixed Ymn Yr5 TOk.nil ?_
 intro _ hm
 have hw:IntKind.i64.wrap ((i:Int)+n)=(i:Int)+n:=IntWalk.i64_in _ (by omega)
 simp[Ype,hx,hy,hxy,hyx,hw]
 refine⟨by omega,?_⟩
 refine⟨[],by simp,?_,?_⟩
 ·simp
  exact Xu _ _ _ _ _ (Y7 _ _ _ _ _ _ (hm _)) (by simp[hy])
 ·simpa using h
abbrev Xeo (ob:Xb)(x y:Nat)(s:List UInt8)(ts:List D)(k:Int)(t:List UInt8)(m:Int)(i n:Nat):Xb:=
 setO (setO ob y (.arr 153 4 (ts++[.agg [.int .i64 k,.str t,.int .i64 m,.int .i64 i]]))) x (.box 228 (scV s ((i+n:Nat):Int) y (ts.length+1)))
theorem Xey:Xm P.p 219=true/\Xm P.p 221=true/\Xm P.p 223=true:=by
 rw[hP]; exact⟨by kernel_rfl,by kernel_rfl,by kernel_rfl⟩
section
variable (s:List UInt8) (i:Nat) (ts:List D) (hs:s.length<=65536) (hi:i<s.length) (hts:ts.length<=1000000) {ob:Xb} {x y:Nat} (hx:Xe ob x=some (.box 228 (scV s i y ts.length))) (hy:Xe ob y=some (.arr 153 4 ts)) {K:Out->Xb->Prop}
include hs hi hts hx hy
omit hs hi hts hy in
theorem X5w (h:K (.panic (.d (.iface 222 (.int .i64 i)))) ob):ACall P 128 [.ptr x []] ob K:=by
 refine Xo hP mixed Yl7 Yrp TOk.nil ?_
 intro _ hm
 simp[Yo2,hx]
 refine⟨[],by simp,?_,?_⟩
 ·simp[hm]
 ·simpa using h
omit hts in
theorem X50 (h:K (.ret (.tup [])) (setO ob x (.box 228 (scV s ((i+1:Nat):Int) y ts.length)))):ACall P 129 [.ptr x []] ob K:=by
 refine Xo hP mixed Yl8 Yrq TOk.nil ?_
 intro _ hm
 have hw:=Xjk hi (by omega)
 simp[Yo3,hx,hw]
 refine⟨[],by simp,?_,?_⟩
 ·simp
  exact Xu _ _ _ _ _ (hm _) (by simp[hy])
 ·simpa using h
theorem Yc2 (h1:32<tw W2 s i->K (.panic (.d (.iface 222 (.int .i64 i)))) ob)(h2:tw W2 s i<=32->K (.ret (.tup [])) (Xeo ob x y s ts 1 ((s.drop i).takeWhile W2) 0 i (tw W2 s i))):ACall P 130 [.ptr x []] ob K:=by
 refine Xo hP mixed Yl9 Yrr TOk.nil ?_
 intro _ hm
 have hle:=Xqu W2 s i (by omega)
 simp[Yo4,hx]
 refine PCall.borrow (n:=5) (ds:=[.ref (scD s i ts),.fn 219 [] [.ref (.ref (scD s i ts))]]) (by simp[hx,hy]) ?_
 refine X5x hP s i (by omega) (by omega) ts _ [] _ W2 (Xey hP).1 (fun c K h=>by simpa using X5v hP c s i ts h) ?_
 simp
 have hl:((s.drop i).takeWhile W2).length=tw W2 s i:=rfl
 simp[hl,hx]
 refine⟨fun h3=>?_,fun h3=>?_⟩
 ·refine⟨[],by simp,?_,?_⟩
  ·simp[hm]
  ·simpa using h1 (by omega)
 ·simp[Xyb,hl,hx]
  refine X5p hP (y:=y) s i _ 1 0 0 _ ts (by omega) hts (by simp[hx]) (by simp[hy]) ?_
  simp[hx,hy]
  refine⟨[],by simp,?_,?_⟩
  ·simp
   exact Xu _ _ _ _ _ (Y7 _ _ _ _ _ _ (hm _)) (by simp[hy])
  ·simpa[Xeo]using h2 (by omega)
theorem Xsm (hd:Ym (s[i]?.getD 0)=true)(h1:Xf6 ((s.drop i).takeWhile Ym)=none->K (.panic (.d (.iface 222 (.int .i64 i)))) ob)
  (h2:∀m,Xf6 ((s.drop i).takeWhile Ym)=some m->K (.ret (.tup [])) (Xeo ob x y s ts 2 [] m i (tw Ym s i))):ACall P 131 [.ptr x []] ob K:=by
 refine Xo hP mixed Yma Yrs TOk.nil ?_
 intro _ hm
 have hle:=Xqu Ym s i (by omega)
 simp[Yo5,hx]
 refine PCall.borrow (n:=5) (ds:=[.ref (scD s i ts),.fn 221 [] [.ref (.ref (scD s i ts))]]) (by simp[hx,hy]) ?_
 refine X5x hP s i (by omega) (by omega) ts _ [] _ Ym (Xey hP).2.1 (fun c K h=>by simpa using Xsl hP c s i ts h) ?_
 have hl:((s.drop i).takeWhile Ym).length=tw Ym s i:=rfl
 have hdg:∀k,k<tw Ym s i->Xbr (((s.drop i).takeWhile Ym)[k]?.getD 0).toNat=true:=fun k hk=>by
  have:((s.drop i).takeWhile Ym)[k]∈(s.drop i).takeWhile Ym:=List.getElem_mem hk
  rw[List.getElem?_eq_getElem hk]
  exact X3n this
 have hne:0<tw Ym s i:=by have:=Xxt hi hd; omega
 generalize ht:(s.drop i).takeWhile Ym=t at *
 rw[<-hl]at hdg hne
 simp
 refine ALoop.go (ι:=Nat×Int) (fun k=>[(1,.ptr (Xa ob) []),(2,.d (.str t)),(3,.d (.int .i64 k.2)),(9,.d (.int .i64 t.length)),(10,.d (.int .i64 k.1))]) (fun _=>(Xa ob,.box 224 (.ptr x []))::ob)
  (fun k=>k.1<=t.length/\0<=k.2/\k.2<=1099511627776/\Xf5 0 t=Xf5 k.2 (t.drop k.1)/\(2<=k.1->t.headD 0 ≠ 48)) (fun k=>t.length-k.1) (0,0) ⟨by simp,by simp,by simp,by simp,by simp⟩ rfl rfl ?_
 rintro⟨k,n⟩ ⟨hk,k1,k2,k3,k4⟩ R rn re _ rp
 simp only at hk k1 k2 k3 k4
 simp[Xyc]
 by_cases hlt:k<t.length
 ·have hc:=hdg k hlt
  rw[Xp9 hlt]at k3
  generalize hcc:t[k]?.getD 0=c at *
  have hcc':t[k]=c:=by rw[<-hcc]; simp[hlt]
  simp[Xbr]at hc
  have hcl:=c.toNat_lt
  have hw:IntKind.i64.wrap (IntKind.i64.wrap (10*n)+IntKind.i64.wrap (IntKind.u8.wrap (c.toNat-48)))=10*n+(c.toNat-48):=by
   rw[IntWalk.u8_in _ (by omega),IntWalk.i64_in (10*n) (by omega),IntWalk.i64_in (_-48) (by omega),IntWalk.i64_in _ (by omega)]
  have hwk:=Xjk hlt (by omega)
  have hpan:Xf6 t=none->R (AExit.panic (V.d (D.iface 222 (D.int IntKind.i64 i)))) [] ((Xa ob,.box 224 (.ptr x []))::ob):=fun hno=>by
   refine rp _ _ _ ?_
   simp
   refine⟨[],by simp,?_,?_⟩
   ·simp[hm]
   ·simpa using h1 hno
  have h0:(t[0]?.getD 0)=t.headD 0:=by cases t<;>rfl
  have hlead:0<k->t[0]?.getD 0=48->Xf6 t=none:=fun k0 e=>by
   rw[h0]at e
   unfold Xf6
   cases Xf5 0 t with
   | none=>rfl
   | some m=>simp only; rw[if_neg]; simp only[not_or,Classical.not_not]; exact⟨by omega,e⟩
  simp[hlt,hcc',hw,hwk,hx]
  refine⟨⟨fun _ _=>hne,fun e=>hpan ?_,fun e1 e2=>?_⟩,fun e=>absurd e (by omega)⟩
  ·rcases e with e | ⟨e1,e2⟩
   ·rw[if_pos e]at k3
    simp[Xf6,k3]
   ·refine hlead e1 ?_
    have e3:(t[0]?.getD 0).toNat=48:=by omega
    generalize t[0]?.getD 0=z at e3
    rw[<-UInt8.ofNat_toNat (x:=z),e3]; rfl
  ·rw[if_neg (by omega)]at k3
   simp[Xyd,hwk]
   refine rn [] (k+1,10*n+(c.toNat-48)) _ _ ⟨?_,?_,?_,?_,?_⟩ ?_ ?_ ?_ ?_ ?_
   ·simp only; omega
   ·simp only; omega
   ·exact e1
   ·exact k3
   ·intro h2k e3
    have hk0:0<k:=by simp only at h2k; omega
    refine e2 hk0 ?_
    rw[h0,e3]; rfl
   ·simp only; omega
   ·simp
   ·simp
   ·simp[Xd]
   ·simp[Xt _ hm,hx]
 ·have hk':k=t.length:=by omega
  subst hk'
  simp
  refine re _ _ _ ?_
  simp[hx]
  refine X5p hP (y:=y) s i _ 2 n 0 _ ts (by omega) hts (by simp[hx]) (by simp[hy]) ?_
  simp[hx,hy]
  refine⟨[],by simp,?_,?_⟩
  ·simp
   exact Xu _ _ _ _ _ (Y7 _ _ _ _ _ _ (hm _)) (by simp[hy])
  ·have hn:Xf6 t=some n:=by
    simp[Xf5]at k3
    simp only[Xf6,k3]
    rw[if_pos]
    by_cases h2:2<=t.length
    ·exact .inr (k4 h2)
    ·exact .inl (by omega)
   simpa[Xeo,hl]using h2 n hn
theorem X5z (hsg:Ybs (s[i]?.getD 0)=true)(h1:s[i]?.getD 0=47/\(s.drop (i+1)).head? = some 47->K (.ret (.tup [])) (setO ob x (.box 228 (scV s ((i+tw U6 s i:Nat):Int) y ts.length))))
  (h2:¬(s[i]?.getD 0=47/\(s.drop (i+1)).head? = some 47)->K (.ret (.tup [])) (Xeo ob x y s ts 3 [s[i]?.getD 0] 0 i 1)):ACall P 132 [.ptr x []] ob K:=by
 refine Xo hP mixed Ymb Yrt TOk.nil ?_
 intro _ hm
 have hw:=Xjk hi (by omega)
 have hle:=Xqu U6 s i (by omega)
 simp[Yo6,hx,hw,show i<=s.length by omega]
 refine PCall.data (ds:=[.str (s.drop i),.str [47,47]]) rfl (Xy0 hP _ _ ?_)
 have hpre:([47,47]:List UInt8).isPrefixOf (s.drop i)=decide (s[i]?.getD 0=47/\(s.drop (i+1)).head? = some 47):=by
  rw[V6 hi]
  cases hd:s.drop (i+1) with
  | nil=>simp[List.isPrefixOf]
  | cons a r=>
   rw[Bool.eq_iff_iff]
   simp only[List.isPrefixOf,Bool.and_eq_true,beq_iff_eq,Bool.and_true,decide_eq_true_eq,List.head?_cons,Option.some.injEq]
   exact⟨fun h=>⟨h.1.symm,h.2.symm⟩,fun h=>⟨h.1.symm,h.2.symm⟩⟩
 rw[hpre]
 simp[hx,hw]
 refine⟨fun e1 e2=>?_,fun e=>⟨by omega,?_⟩⟩
 ·refine PCall.borrow (n:=5) (ds:=[.ref (scD s i ts),.fn 223 [] []]) (by simp[hx,hy]) ?_
  refine X5x hP s i (by omega) (by omega) ts _ [] [] U6 (Xey hP).2.2 (fun c K h=>by simpa using X5y hP c h) ?_
  have hl:((s.drop i).takeWhile U6).length=tw U6 s i:=rfl
  have hw2:IntKind.i64.wrap ((i:Int)+tw U6 s i)=(i:Int)+tw U6 s i:=IntWalk.i64_in _ (by omega)
  simp[hl,hw2]
  refine⟨[],by simp,?_,?_⟩
  ·simp
   exact Xu _ _ _ _ _ (hm _) (by simp[hy])
  ·have:=h1 ⟨e1,by rw[Xh0]; exact e2⟩
   simpa using this
 ·have htx:(s.take (i+1)).drop i=[s[i]?.getD 0]:=by
   rw[List.drop_take,Nat.add_sub_cancel_left,V6 hi]; rfl
  rw[htx]
  refine X5p hP (y:=y) s i 1 3 0 0 _ ts (by omega) hts hx hy ?_
  simp
  refine⟨[],by simp,?_,?_⟩
  ·simp
   exact Xu _ _ _ _ _ (Y7 _ _ _ _ _ _ (hm _)) (by simp[hy])
  ·have:=h2 (fun e1=>e e1.1 (by rw[<-Xh0]; exact e1.2))
   simpa[Xeo]using this
end
end
end Go.Proofs.YtolkimpelpnpbaaGreatDoor
namespace Go.Proofs.YtolkimpelpnpbaaGreatDoor
open Go Go.Ab Go.Lx
section
variable {P:Prg} (hP:P.p=Tryz.prog)
include hP
theorem Yc3 {ob:Xb}{a b c:Nat}{K:Xb->Prop}(h:K ob):DCall P 126 [.ptr a [],.ptr b [],.ptr c []] ob none K:=by
 refine DCall.of_wf fun _ hm=>?_
 refine Xdo hP mixed Ybj Yix Yiv TOk.nil ?_
 simp[Xkq,Xkp,Ycm]
 refine⟨[],by simp,?_,?_⟩
 ·simp[hm]
 ·simpa using h
theorem Yc4 {ob:Xb}{a b c:Nat}{i:Int}{K:Xb->Prop}{va vb vc:V}{Ea Eb Ec:Nat}(ha:Xe ob a=some (.box Ea va))(hb:Xe ob b=some (.box Eb vb))(hc:Xe ob c=some (.box Ec vc))(sa:va.shape=.leaf)(sb:vb.shape=.leaf)(sc:vc.shape=.leaf)
  (hab:(a==b)=false) (hac:(a==c)=false) (hbc:(b==c)=false) (h:K (setO (setO (setO ob a (.box Ea (.d .nils))) b (.box Eb (.d (.int .i64 i)))) c (.box Ec (.d (.int .i64 90))))):DCall P 126 [.ptr a [],.ptr b [],.ptr c []] ob (some (.d (.iface 222 (.int .i64 i)))) K:=by
 refine DCall.of_wf fun _ hm=>?_
 refine Xdo hP mixed Ybj Yix Yiv TOk.nil ?_
 simp[Xkq,Xkp,Ycm,Xya,ha,hb,hc,hab,hac,hbc,sa,sb,sc]
 refine⟨[],by simp,?_,?_⟩
 ·rw[Qo (by simp)]
  exact Xu _ _ _ _ _ (Xu _ _ _ _ _ (Xu _ _ _ _ _ (hm _) (by simp)) (by simp)) (by simp)
 ·rw[Qo (by simp)]
  exact h
theorem Xy5:Xm P.p 126=true/\Xm P.p 128=true/\Xm P.p 129=true/\Xm P.p 130=true/\Xm P.p 131=true/\Xm P.p 132=true:=by
 rw[hP]; exact⟨by kernel_rfl,by kernel_rfl,by kernel_rfl,by kernel_rfl,by kernel_rfl,by kernel_rfl⟩
omit hP in
theorem Xxs (f g:Nat->Int):(Ur f).shape=(Ur g).shape:=by
 simp only[Ur,Xgh,D.shape,D.shapes_eq,List.map_map,Function.comp_def]
theorem Yp0 (s:List UInt8){ob:Xb}{K:V->Prop}(h:K (Yit s)):PCall P 74 [.d (.str s)] ob K:=by
 refine Xar hP mixed (ds:=[.str s]) Y1t Y4c TOk.nil ?_
 obtain⟨d0,d1,d2,d3,d4,d5⟩:=Xy5 hP
 simp only[Yz2,Xjo,X5a]
 simp[d0]
 refine⟨fun hl=>?_,fun hl=>?_⟩
 ·simpa[Yit,show 65536<s.length by omega]using h
 ·have hl':¬65536<s.length:=by omega
  simp only[Yit,gt_iff_lt,hl',if_false]at h
  refine Xpg hP ?_
  simp[Yxr]
  refine⟨Xxs _ _,?_⟩
  refine ALoop.go (ι:=Nat×List Tok) (fun _=>[(0,.d (.str s)),(2,.ptr 0 []),(3,.ptr 1 []),(4,.ptr 2 []),(5,.ptr 3 []),(6,.ptr 5 [])])
   (fun k=>[(5,.box 229 (.agg [.fn 128 [.ptr 3 []] [],.fn 129 [.ptr 3 []] [],.fn 130 [.ptr 3 []] [],.fn 131 [.ptr 3 []] [],.fn 132 [.ptr 3 []] []])),
    (4,.arr 153 4 (k.2.map Tok.enc)),(3,.box 228 (scV s k.1 4 k.2.length)),(2,.box 46 (.d (.int .i64 0))),(1,.box 3 (.d (.int .i64 0))),(0,.box 141 (.d .nils))])
   (fun k=>k.1<=s.length/\k.2.length<=k.1/\Xgp s 0=Xxy k.2 (Xgp (s.drop k.1) k.1)) (fun k=>s.length-k.1) (0,[]) ⟨by simp,by simp,by simp[Xyt]⟩ rfl (by simp) ?_
  rintro⟨i,out⟩ ⟨hi,ho,he⟩ R rn re _ rp
  simp only at hi ho he
  have nx:∀j out' ob',j<=s.length->out'.length<=j->Xgp s 0=Xxy out' (Xgp (s.drop j) j)->i<j->ob'=[(5,.box 229 (.agg [.fn 128 [.ptr 3 []] [],.fn 129 [.ptr 3 []] [],.fn 130 [.ptr 3 []] [],.fn 131 [.ptr 3 []] [],.fn 132 [.ptr 3 []] []])),
    (4,.arr 153 4 (out'.map Tok.enc)),(3,.box 228 (scV s j 4 out'.length)),(2,.box 46 (.d (.int .i64 0))),(1,.box 3 (.d (.int .i64 0))),(0,.box 141 (.d .nils))]->R .normal [(0,.d (.str s)),(2,.ptr 0 []),(3,.ptr 1 []),(4,.ptr 2 []),(5,.ptr 3 []),(6,.ptr 5 [])] ob':=fun j out' ob' h1 h2 h3 h4 h6=>
   rn [] (j,out') _ _ ⟨h1,h2,h3⟩ (by simp only; omega) rfl (by rw[h6]; simp[Xd]) (by simp[Xd]) (by simp[Xd])
  clear rn
  by_cases hlt:i<s.length
  ·rw[X8m hlt]at he
   generalize hc:s[i]?.getD 0=c at *
   have hc':s[i]=c:=by rw[<-hc]; simp[hlt]
   have hcl:=c.toNat_lt
   have hout:(out.map Tok.enc).length<=1000000:=by simp; omega
   have pan:Xgp s 0=.err i->R (.panic (.d (.iface 222 (.int .i64 i)))) [(2,.ptr 0 []),(3,.ptr 1 []),(4,.ptr 2 [])] [(5,.box 229 (.agg [.fn 128 [.ptr 3 []] [],.fn 129 [.ptr 3 []] [],.fn 130 [.ptr 3 []] [],.fn 131 [.ptr 3 []] [],.fn 132 [.ptr 3 []] []])),
    (4,.arr 153 4 (out.map Tok.enc)),(3,.box 228 (scV s i 4 out.length)),(2,.box 46 (.d (.int .i64 0))),(1,.box 3 (.d (.int .i64 0))),(0,.box 141 (.d .nils))]:=fun hr=>by
    refine rp _ _ _ ?_
    simp
    refine Yc4 hP (Ea:=141) (Eb:=3) (Ec:=46) (va:=.d .nils) (vb:=.d (.int .i64 0)) (vc:=.d (.int .i64 0)) (by simp) (by simp) (by simp) (by simp) (by simp) (by simp) rfl rfl rfl ?_
    simp
    rw[hr]at h
    exact h
   have hx:∀(o5:Ob),Xe [(5,o5),(4,Ob.arr 153 4 (out.map Tok.enc)),(3,Ob.box 228 (scV s i 4 (out.map Tok.enc).length)),(2,.box 46 (.d (.int .i64 0))),(1,.box 3 (.d (.int .i64 0))),(0,.box 141 (.d .nils))] 3=some (.box 228 (scV s i 4 (out.map Tok.enc).length)):=fun _=>by simp
   have hcr:=Xsw c.toNat hcl
   have cls:∀m:Nat,Xgo c.toNat=m->(Xgo c.toNat).toNat=m:=fun m e=>by omega
   have g1:=Xsx c.toNat hcl
   have g2:=Xdn c.toNat hcl
   have g3:=Xbp c.toNat hcl
   have g4:=Xy8 c.toNat hcl
   have e47:Xgo c.toNat ≠ 4->¬(c=47/\(s.drop (i+1)).head? = some 47):=fun hne h=>by
    obtain⟨rfl,_⟩:=h; exact hne (by decide +kernel)
   have key:∀m:Int,Xgo c.toNat=m->(Xox c=decide (m=1))/\(Xb6 c=decide (m=2))/\(Ym c=decide (m=3))/\(Ybs c=decide (m=4)):=fun m e=>by
    rw[e]at g1 g2 g3 g4
    refine⟨?_,?_,?_,?_⟩<;>rw[Bool.eq_iff_iff,decide_eq_true_eq]
    ·exact g1.symm
    ·exact g2.symm
    ·exact g3.symm
    ·exact g4.symm
   have htwt:∀p:UInt8->Bool,p c=true->tw p s i=((s.drop (i+1)).takeWhile p).length+1/\(s.drop i).takeWhile p=c::(s.drop (i+1)).takeWhile p:=fun p hp=>by
    refine⟨(Ybx p hlt (by rw[hc]; exact hp)).2,?_⟩
    rw[V6 hlt,hc,List.takeWhile_cons,if_pos hp]
   rcases (by omega:Xgo c.toNat=0\/Xgo c.toNat=1\/Xgo c.toNat=2\/Xgo c.toNat=3\/Xgo c.toNat=4) with e | e | e | e | e
   ·obtain⟨k1,k2,k3,k4⟩:=key 0 e
    simp only[stp,k1,k2,k3,k4,e47 (by rw[e]; decide),if_false,Xxy]at he
    simp[Jl,hlt,hc',hcl,show (c.toNat:Int)<256 by omega,e,d1]
    refine X5w hP s i (out.map Tok.enc) (y:=4) (by simp) ?_
    simp
    exact pan (by simpa using he)
   ·obtain⟨k1,k2,k3,k4⟩:=key 1 e
    simp[stp,k1]at he
    simp[Jl,hlt,hc',hcl,show (c.toNat:Int)<256 by omega,e,d2]
    refine X50 hP s i (out.map Tok.enc) (by omega) hlt (y:=4) (by simp) (by simp) ?_
    simp
    refine nx (i+1) out _ (by omega) (by omega) he (by omega) (by simp)
   ·obtain⟨k1,k2,k3,k4⟩:=key 2 e
    have hp:W2 c=true:=by
     have:W0 c.toNat=true:=by simpa[Xb6]using k2
     simp[W2,Xlw,this]
    obtain⟨t1,t2⟩:=htwt W2 hp
    have hle:=Xqu W2 s i (by omega)
    have k1:Xox c=false:=by simpa using k1
    have k2:Xb6 c=true:=by simpa using k2
    simp only[stp,k1,k2,e47 (by rw[e]; decide),Bool.false_eq_true,if_false,if_true]at he
    simp[Jl,hlt,hc',hcl,show (c.toNat:Int)<256 by omega,e,d3]
    refine Yc2 hP s i (out.map Tok.enc) (by omega) hlt hout (y:=4) (by simp) (by simp) (fun h5=>?_) (fun h5=>?_)
    ·simp
     rw[if_neg (by omega)]at he
     exact pan (by simpa[Xxy]using he)
    ·simp[Xeo]
     rw[if_pos (by omega)]at he
     simp only[Xeq]at he
     have hjj:i+((s.drop (i+1)).takeWhile W2).length+1=i+tw W2 s i:=by omega
     rw[hjj]at he
     refine nx (i+tw W2 s i) (out++[⟨1,c::(s.drop (i+1)).takeWhile W2,0,i⟩]) _ (by omega) (by simp; omega) he (by omega) ?_
     simp[Tok.enc,t2]
   ·obtain⟨k1,k2,k3,k4⟩:=key 3 e
    have hp:Ym c=true:=by simpa using k3
    obtain⟨t1,t2⟩:=htwt Ym hp
    have hle:=Xqu Ym s i (by omega)
    have k1:Xox c=false:=by simpa using k1
    have k2:Xb6 c=false:=by simpa using k2
    simp only[stp,k1,k2,hp,e47 (by rw[e]; decide),Bool.false_eq_true,if_false,if_true]at he
    simp[Jl,hlt,hc',hcl,show (c.toNat:Int)<256 by omega,e,d4]
    refine Xsm hP s i (out.map Tok.enc) (by omega) hlt hout (y:=4) (by simp) (by simp) (by rw[hc]; exact hp) (fun h5=>?_) (fun m h5=>?_)
    ·simp
     rw[t2]at h5
     rw[h5]at he
     exact pan (by simpa[Xxy]using he)
    ·simp[Xeo]
     rw[t2]at h5
     rw[h5]at he
     simp only[Xeq]at he
     have hjj:i+((s.drop (i+1)).takeWhile Ym).length+1=i+tw Ym s i:=by omega
     rw[hjj]at he
     refine nx (i+tw Ym s i) (out++[⟨2,[],m,i⟩]) _ (by omega) (by simp; omega) he (by omega) ?_
     simp[Tok.enc]
   ·obtain⟨k1,k2,k3,k4⟩:=key 4 e
    simp[Jl,hlt,hc',hcl,show (c.toNat:Int)<256 by omega,e,d5]
    refine X5z hP s i (out.map Tok.enc) (by omega) hlt hout (y:=4) (by simp) (by simp) (by rw[hc]; simpa using k4) (fun h5=>?_) (fun h5=>?_)
    ·rw[hc]at h5
     obtain⟨rfl,h6⟩:=h5
     obtain⟨t1,t2⟩:=htwt U6 rfl
     have hle:=Xqu U6 s i (by omega)
     simp only[stp,k1,h6,and_self,if_true,decide_eq_true_eq,show ¬((4:Int)=1) by decide,if_false]at he
     simp
     have hjj:i+((s.drop (i+1)).takeWhile U6).length+1=i+tw U6 s i:=by omega
     rw[hjj]at he
     refine nx (i+tw U6 s i) out _ (by omega) (by omega) he (by omega) ?_
     simp
    ·rw[hc]at h5
     simp only[stp,k1,k2,k3,k4,h5,if_false,decide_eq_true_eq,show ¬((4:Int)=1) by decide,show ¬((4:Int)=2) by decide,show ¬((4:Int)=3) by decide,if_true,Xeq]at he
     simp[Xeo]
     refine nx (i+1) (out++[⟨3,[c],0,i⟩]) _ (by omega) (by simp; omega) he (by omega) ?_
     simp[Tok.enc,hc]
  ·have hi':i=s.length:=by omega
   subst hi'
   simp[Jl]
   refine re _ _ _ ?_
   simp
   refine Yc3 hP ?_
   simp
   rw[X1v (Nat.le_refl _)]at he
   rw[he]at h
   simpa[Xxy,Yw9,Ybw]using h
end
end Go.Proofs.YtolkimpelpnpbaaGreatDoor
namespace Go.Ab
open Go
def S.rgs:S->List (Nat×List Nat×S×S)
 | .seq a b=>a.rgs++b.rgs
 | .cond _ a b=>a.rgs++b.rgs
 | .block _ a=>a.rgs
 | .loop _ a=>a.rgs
 | .rgf tag ps _ x y _=>[(tag,ps,x,y)]
 | _=>[]
theorem S.loops_rgs {P:Prg}:∀s:S,(∀t∈s.rgs,W5 P t.1 t.2.1 t.2.2.1 t.2.2.2)->s.loops P
 | .seq a b,h=>⟨S.loops_rgs a fun t ht=>h t (List.mem_append_left _ ht),S.loops_rgs b fun t ht=>h t (List.mem_append_right _ ht)⟩
 | .cond _ a b,h=>⟨S.loops_rgs a fun t ht=>h t (List.mem_append_left _ ht),S.loops_rgs b fun t ht=>h t (List.mem_append_right _ ht)⟩
 | .block _ a,h=>S.loops_rgs a h
 | .loop _ a,h=>S.loops_rgs a h
 | .rgf tag ps _ x y _,h=>h (tag,ps,x,y) (List.mem_singleton.2 rfl)
 | .rg _ _ _ _,_ | .rgT _ _ _ _,_ | .skip,_ | .exit _,_ | .ret,_=>trivial
theorem Xih {p:Nat->FI->Bool}:∀{F:FT} {f:Nat} {x:FI},F.all (fun e=>p e.1 e.2)=true->U8 F f=some x->p f x=true
 | [],_,_,_,h=>by cases h
 | (j,y)::r,f,x,ha,h=>by
  simp only[List.all_cons,Bool.and_eq_true]at ha
  simp only[U8,Bool.cond_eq_ite]at h
  split at h
  ·rename_i e
   cases h
   have:=Nat.eq_of_beq_eq_true e
   subst this
   exact ha.1
  ·exact Xih ha.2 h
end Go.Ab
namespace Go.Py
open Go Go.Ab Go.Lx
theorem X17:∀{n:Nat} {sn:List Nat},n<=3->sn.Perm (List.range n)->sn∈Ybl n
 | 0,sn,_,h=>by
  have:sn=[]:=by simpa using h.length_eq
  simp[Ybl,this]
 | 1,sn,_,h=>by
  have:sn=[0]:=by simpa[List.range,List.range.loop]using h
  simp[Ybl,this]
 | 2,sn,_,h=>by
  have hl:=h.length_eq
  have hn:=h.nodup_iff.2 List.nodup_range
  have hm:∀x∈sn,x<2:=fun x hx=>by simpa using (h.mem_iff.1 hx)
  match sn,hl with
  | [a,b],_=>
   have ha:=hm a (by simp); have hb:=hm b (by simp)
   have:a ≠ b:=by simpa using hn
   have:a=0/\b=1\/a=1/\b=0:=by omega
   rcases this with⟨rfl,rfl⟩ | ⟨rfl,rfl⟩<;>simp[Ybl]
 | 3,sn,_,h=>by
  have hl:=h.length_eq
  have hn:=h.nodup_iff.2 List.nodup_range
  have hm:∀x∈sn,x<3:=fun x hx=>by simpa using (h.mem_iff.1 hx)
  match sn,hl with
  | [a,b,c],_=>
   have ha:=hm a (by simp); have hb:=hm b (by simp); have hc:=hm c (by simp)
   have h1:(a ≠ b/\a ≠ c)/\b ≠ c:=by simpa using hn
   obtain⟨⟨h1,h2⟩,h3⟩:=h1
   have:a=0/\b=1/\c=2\/a=0/\b=2/\c=1\/a=1/\b=0/\c=2\/a=1/\b=2/\c=0\/a=2/\b=0/\c=1\/a=2/\b=1/\c=0:=by omega
   rcases this with⟨rfl,rfl,rfl⟩ | ⟨rfl,rfl,rfl⟩ | ⟨rfl,rfl,rfl⟩ | ⟨rfl,rfl,rfl⟩ | ⟨rfl,rfl,rfl⟩ | ⟨rfl,rfl,rfl⟩<;>simp[Ybl]
 | n+4,_,h,_=>by omega
theorem X59 {e:D×V}{p:Int×Int}(h:Yqc e=some p):e=V2 p:=by
 unfold Yqc at h
 split at h
 ·cases h; rfl
 ·cases h
theorem Xe1:∀{es:List (D×V)} {l:List (Int×Int)},Xzc es=some l->es=l.map V2
 | [],l,h=>by cases h; rfl
 | e::r,l,h=>by
  unfold Xzc at h
  split at h
  ·rename_i p l' h1 h2
   cases h
   rw[X59 h1,Xe1 h2]; rfl
  ·cases h
end Go.Py
namespace Go.Proofs.YtolkimpelpnpbaaGreatDoor
open Go Go.Ab Go.Lx Go.Py
structure IvlZ (P:Prg):Prop where
 factors:GlobIs P 0 (.agg [.int .i64 2,.int .i64 1000])
 editions:GlobIs P 1 (.agg [.int .i64 1,.int .i64 255])
 mosts:GlobIs P 2 (.agg [.int .i64 0,.int .i64 32])
 weights:GlobIs P 3 (.agg [.int .i64 0,.int .i64 9])
 anyN:GlobIs P 4 (.agg [.int .i64 0,.int .i64 1048576])
structure LoopZ (P:Prg):Prop where
 keys:Xc4 P
 change:W5 P 18 [34] ir18900 ir18901
 ints:W5 P 260 [7] ir260900 ir260901
section
variable {P:Prg} (hP:P.p=Tryz.prog) (hI:IvlZ P) (hL:LoopZ P)
include hP hI hL
theorem X4y (g:Nat)(x:D)(h:xgl g=some x):GlobIs P g x:=by
 simp only[xgl,Bool.cond_eq_ite]at h
 split at h
 ·rename_i e; cases h; rw[Nat.eq_of_beq_eq_true e]; exact hI.factors
 split at h
 ·rename_i e; cases h; rw[Nat.eq_of_beq_eq_true e]; exact hI.editions
 split at h
 ·rename_i e; cases h; rw[Nat.eq_of_beq_eq_true e]; exact hI.mosts
 split at h
 ·rename_i e; cases h; rw[Nat.eq_of_beq_eq_true e]; exact hI.weights
 split at h
 ·rename_i e; cases h; rw[Nat.eq_of_beq_eq_true e]; exact hI.anyN
 ·cases h
theorem X4z:xz0.ok P:=⟨fun _ _ _ _ _ h=>(by cases h),fun _ _ _ _ h=>(by cases h),fun _ h=>(by cases h),X4y hP hI hL,fun _ _ _ _ _ h=>(by cases h),fun _ _ _ _ _ h=>(by cases h)⟩
theorem Xoc (tag:Nat)(ps:List Nat)(x y:S)(h:xlt tag=some (ps,x,y)):W5 P tag ps x y/\x.noR=true/\y.noR=true:=by
 simp only[xlt,Bool.cond_eq_ite]at h
 split at h
 ·rename_i e; cases h; rw[Nat.eq_of_beq_eq_true e]; exact⟨hL.change,by kernel_rfl,by kernel_rfl⟩
 split at h
 ·rename_i e; cases h; rw[Nat.eq_of_beq_eq_true e]; exact⟨hL.ints,by kernel_rfl,by kernel_rfl⟩
 ·cases h
theorem Xbd:FT.lps P Wf:=by
 intro f x h
 have h1:=Xih (p:=fun f x=>Nat.beq f 18||Nat.beq f 204||Nat.beq f 260||x.nr) (F:=Wf) (by kernel_rfl) h
 simp only[Bool.or_eq_true]at h1
 rcases h1 with ((e | e) | e) | e
 ·rw[Nat.eq_of_beq_eq_true e]at h
  have h2:U8 Wf 18=some (.br Yfi [.c 4 1 false,.c 5 1 false] 2):=by kernel_rfl
  rw[h2]at h; cases h
  refine S.loops_rgs Yfi fun t ht=>?_
  have h3:Yfi.rgs=[(18,[34],ir18900,ir18901)]:=by kernel_rfl
  rw[h3]at ht
  rw[List.mem_singleton.1 ht]; exact hL.change
 ·rw[Nat.eq_of_beq_eq_true e]at h
  have h2:U8 Wf 204=some (.pr Xpz [.t 4] 2):=by kernel_rfl
  rw[h2]at h; cases h
  refine S.loops_rgs Xpz fun t ht=>?_
  have h3:Xpz.rgs=[(204,[7],ir204900,ir204901)]:=by kernel_rfl
  rw[h3]at ht
  rw[List.mem_singleton.1 ht]; exact hL.keys
 ·rw[Nat.eq_of_beq_eq_true e]at h
  have h2:U8 Wf 260=some (.pr Xuz [.t 4] 2):=by kernel_rfl
  rw[h2]at h; cases h
  refine S.loops_rgs Xuz fun t ht=>?_
  have h3:Xuz.rgs=[(260,[7],ir260900,ir260901)]:=by kernel_rfl
  rw[h3]at ht
  rw[List.mem_singleton.1 ht]; exact hL.ints
 ·exact x.lps_nr e
theorem X2g {ob:Xb}{a:Nat}{fs:List (Int×Int)}{sn:List Nat}{s:List D}(h:Ycf ob a fs sn=some s):s.length=sn.length/\ACall P 108 [.sl a sn.length,.fn 54 [] []] ((a,.arr 76 2 (sn.map fun i=>fD (atF fs i)))::ob) fun o b=>o=.ret (.tup [])/\b=(a,.arr 76 2 s)::ob:=by
 have fo:=Xb1 (P:=P) (L:=100) (F:=Wf) (by rw[hP]; exact mixed) (by rw[hP]; exact Xgg) (Xbd hP hI hL) (X4z hP hI hL) (fun _ _ _ _ h=>by cases h) 12
 unfold Ycf at h
 generalize hq:(fns 100 Wf xz0 12).call 108 [.sl a sn.length,.fn 54 [] []] ((a,.arr 76 2 (sn.map fun i=>fD (atF fs i)))::ob)=q at h
 unfold Y12 at h
 split at h
 ·rw[Bool.cond_eq_ite]at h
  split at h
  ·rename_i e
   cases h
   simp only[Bool.and_eq_true]at e
   obtain⟨⟨⟨e1,e2⟩,e3⟩,e4⟩:=e
   have e1:=Nat.eq_of_beq_eq_true e1
   have e3:=Nat.eq_of_beq_eq_true e3
   have e4:=U2 _ _ e4
   subst e1; subst e3; subst e4
   exact⟨Nat.eq_of_beq_eq_true e2,fo.call _ _ _ _ _ hq⟩
  ·cases h
 ·cases h
theorem Xmr {ob:Xb}{a:Nat}{fs:List (Int×Int)}{s:List D}:∀{l:List (List Nat)},Yn4 ob a fs s l=true->∀sn∈l,Ycf ob a fs sn=some s
 | [],_,sn,hm=>by cases hm
 | x::r,h,sn,hm=>by
  simp only[Yn4,Bool.and_eq_true]at h
  rcases List.mem_cons.1 hm with rfl | hm
  ·have h1:=h.1
   split at h1
   ·rename_i l e
    rw[e,D.eqbs_eq _ _ h1]
   ·cases h1
  ·exact Xmr h.2 sn hm
theorem Xyo {ob:Xb}{bx E m:Nat}{fs:List (Int×Int)}(hb:Xe ob bx=some (.box E (.mp m)))(hm:Xe ob m=some (.map (fs.map V2)))(hn:fs.length<=3){o:Out}{b:Xb}(hne:fs ≠ [])(h:X2l ob fs=some (o,b)):ACall P 52 [.fn 109 [] [.ptr bx []],.fn 54 [] []] ob fun o' b'=>o'=o/\b'=b:=by
 refine Xo hP mixed Yom Ysm TOk.nil fun _ hno=>?_
 simp[Yps]
 refine Xbf hP hL.keys hb hm (by omega) (fun e=>absurd (List.length_eq_zero_iff.1 e) hne) (fun sn hs hsn=>?_)
 have hmem:=X17 hn hs
 unfold X2l at h
 split at h
 ·rename_i s0 r e0
  split at h
  ·rename_i s e1
   rw[Bool.cond_eq_ite]at h
   split at h
   ·rename_i e2
    cases h
    have hrun:Ycf ob (Xa ob+5) fs sn=some s:=by
     rw[e0]at hmem
     rcases List.mem_cons.1 hmem with e | e
     ·rw[e]; exact e1
     ·exact Xmr hP hI hL e2 sn e
    obtain⟨hlen,hcall⟩:=X2g hP hI hL hrun
    simp[Xem]
    refine hcall.mono fun o b ⟨h1,h2⟩=>?_
    subst h1; subst h2
    rw[<-hlen]
    simp[Xel]
    refine⟨[],by simp,?_,?_⟩
    ·simp[Xd]; exact hno _
    ·simp[Xd]
   ·cases h
  ·cases h
 ·cases h
theorem Xr2 {ob:Xb}{bx E m:Nat}(hb:Xe ob bx=some (.box E (.mp m)))(hm:Xe ob m=some (.map [])){o:Out}{b:Xb}(h:Ys4 ob ((fns 100 Wf xz0 12).call 108 [.d .nils,.fn 54 [] []] ob)=some (o,b)):ACall P 52 [.fn 109 [] [.ptr bx []],.fn 54 [] []] ob fun o' b'=>o'=o/\b'=b:=by
 have fo:=Xb1 (P:=P) (L:=100) (F:=Wf) (by rw[hP]; exact mixed) (by rw[hP]; exact Xgg) (Xbd hP hI hL) (X4z hP hI hL) (fun _ _ _ _ h=>by cases h) 12
 refine Xo hP mixed Yom Ysm TOk.nil fun _ hno=>?_
 simp[Yps]
 refine Xbf (fs:=[]) hP hL.keys hb hm (by simp) (fun _=>?_) (fun sn hs hsn=>absurd (by simpa using hs.length_eq) hsn)
 generalize hq:(fns 100 Wf xz0 12).call 108 [.d .nils,.fn 54 [] []] ob=q at h
 unfold Ys4 at h
 split at h
 ·rw[Bool.cond_eq_ite]at h
  split at h
  ·rename_i e
   cases h
   have e:=U2 _ _ e
   subst e
   simp[Xem]
   refine (fo.call _ _ _ _ _ hq).mono fun o b ⟨h1,h2⟩=>?_
   subst h1; subst h2
   simp[Xel]
   exact⟨[],by simp,by simpa using hno [],by simp⟩
  ·cases h
 ·cases h
theorem X2u (f:Nat)(vs:List V)(ob:Xb)(o:Out)(b:Xb)(h:xcall f vs ob=some (o,b)):ACall P f vs ob fun o' b'=>o'=o/\b'=b:=by
 unfold xcall at h
 rw[Bool.cond_eq_ite]at h
 split at h
 ·rename_i ef
  rw[Nat.eq_of_beq_eq_true ef]
  split at h
  ·rename_i g bx hh
   rw[Bool.cond_eq_ite]at h
   split at h
   ·rename_i e
    simp only[Bool.and_eq_true]at e
    rw[Nat.eq_of_beq_eq_true e.1,Nat.eq_of_beq_eq_true e.2]
    generalize hb:Xe ob bx=ox at h
    unfold Ynk at h
    split at h
    ·rename_i E m
     generalize hm:Xe ob m=om at h
     unfold Ynj at h
     split at h
     ·rename_i es
      split at h
      ·rename_i hd
       rw[Xe1 hd]at hm
       exact Xr2 hP hI hL hb hm h
      ·rename_i fs hne hd
       rw[Xe1 hd]at hm
       have hn:fs.length<=3:=by
        rcases Nat.lt_or_ge 3 fs.length with h4 | h4
        ·exfalso
         unfold X2l at h
         have:Ybl fs.length=[]:=by
          match hk:fs.length,h4 with
          | k+4,_=>rfl
         rw[this]at h
         cases h
        ·exact h4
       exact Xyo hP hI hL hb hm hn (fun e=>hne e) h
      ·cases h
     ·cases h
    ·cases h
   ·cases h
  ·cases h
 ·cases h
theorem Yxf:xz.ok P:=by
 refine⟨X2u hP hI hL,fun f vs ob v h=>?_,fun f h=>?_,X4y hP hI hL,fun _ _ _ _ _ h=>(by cases h),fun f vs ob v b h=>?_⟩
 ·simp only[xz]at h
  unfold xpc at h
  split at h
  ·rename_i s
   rw[Bool.cond_eq_ite]at h
   split at h
   ·rename_i e
    cases h
    rw[Nat.eq_of_beq_eq_true e,X1w]
    exact Yp0 hP s rfl
   ·cases h
  ·cases h
 ·simp only[xz]at h
  rw[Nat.eq_of_beq_eq_true h]
  exact Xsn hP
 ·simp only[xz]at h
  unfold xxc at h
  split at h
  ·exact Xhc hP Xmz Xsv h
  ·cases h
end
end Go.Proofs.YtolkimpelpnpbaaGreatDoor
namespace Go.Py
open Go Go.Ab Go.Lx
structure Ent where
 f:Nat
 xs:List D
 v:V
def Yod (f:Nat)(ds:List D):List Ent->Option V
 | []=>none
 | e::r=>bif Nat.beq f e.f&&D.eqbs ds e.xs then some e.v else Yod f ds r
def Yb5 (f:Nat)(l:List Ent):Option (List D)->Option V
 | some ds=>Yod f ds l
 | none=>none
end Go.Py
namespace Go.Proofs.YtolkimpelpnpbaaGreatDoor
open Go Go.Ab Go.Lx Go.Py
def pcE (l:List Ent)(f:Nat)(vs:List V):Option V:=match Yb5 f l (V.allD vs) with
 | some v=>some v
 | none=>xpc f vs
def xzE (l:List Ent):Fns:=⟨xcall,fun f vs _=>pcE l f vs,fun f=>Nat.beq f 109,xgl,fun _ _ _=>none,xlt,xxc⟩
section
variable {P:Prg} (hP:P.p=Tryz.prog) (hI:IvlZ P) (hL:LoopZ P)
include hP hI hL
theorem Yb0:(xzE []).ok P:=by
 have h:=Yxf hP hI hL
 refine⟨h.call,fun f vs ob v hv=>?_,h.ca,h.gl,h.yd,h.xc⟩
 refine h.pc f vs ob v ?_
 simp only[xzE,pcE]at hv
 cases hd:V.allD vs with
 | none=>rw[hd]at hv; exact hv
 | some ds=>rw[hd]at hv; exact hv
theorem Xw {l:List Ent}{e:Ent}(h:(xzE l).ok P)(he:∀ob,(fns 3000 Wf (xzE l) 40).pc e.f (e.xs.map .d) ob=some e.v):(xzE (e::l)).ok P:=by
 have fo:=Xb1 (P:=P) (L:=3000) (F:=Wf) (by rw[hP]; exact mixed) (by rw[hP]; exact Xgg) (Xbd hP hI hL) h (Xoc hP hI hL) 40
 refine⟨h.call,fun f vs ob v hv=>?_,h.ca,h.gl,h.yd,h.xc⟩
 have old:(pcE l f vs=some v)->PCall P f vs ob fun v'=>v'=v:=fun hv=>h.pc f vs ob v hv
 simp only[xzE]at hv
 unfold pcE at hv
 split at hv
 ·rename_i u hu
  cases hv
  cases hd:V.allD vs with
  | none=>rw[hd]at hu; cases hu
  | some ds=>
   rw[hd]at hu
   simp only[Yb5,Yod,Bool.cond_eq_ite]at hu
   split at hu
   ·rename_i hc
    cases hu
    simp only[Bool.and_eq_true]at hc
    rw[V.allD_map hd,Nat.eq_of_beq_eq_true hc.1,D.eqbs_eq _ _ hc.2]
    exact fo.pc _ _ ob _ (he ob)
   ·refine old ?_
    unfold pcE
    rw[hd]
    simp only[Yb5,hu]
 ·rename_i hu
  refine old ?_
  unfold pcE
  cases hd:V.allD vs with
  | none=>simp only[Yb5]; exact hv
  | some ds=>
   rw[hd]at hu
   simp only[Yb5,Yod,Bool.cond_eq_ite]at hu
   split at hu
   ·cases hu
   ·simp only[Yb5,hu]; exact hv
end
end Go.Proofs.YtolkimpelpnpbaaGreatDoor
