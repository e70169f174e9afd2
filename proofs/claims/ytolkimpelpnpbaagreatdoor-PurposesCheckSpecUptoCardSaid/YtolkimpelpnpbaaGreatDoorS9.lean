/- Texts of this claim joined by a program, part 9 of 20; the last is: Calls that are computed once, and what the evaluator makes of them. Over the seat's program; no condition. -/
import Derived.Test.YtolkimpelpnpbaaGreatDoorS5
import Derived.Test.YtolkimpelpnpbaaGreatDoorS6
import Derived.Test.YtolkimpelpnpbaaGreatDoorS7
import Derived.Test.YtolkimpelpnpbaaGreatDoorS8
import Derived.Test.YtolkimpelpnpbaaGreatDoorProg
import Derived.KernelRfl
set_option maxRecDepth 100000
set_option linter.unusedSimpArgs false
set_option linter.unusedVariables false
set_option linter.unusedSectionVars false
set_option linter.defProp false
namespace Go.Ab
open Go

inductive Rr where
 | ok (v:V) (ob:Xa)
 | pn (v:V) (ob:Xa)
 | no

def J5:List D->Option (List UInt8)
 | []=>some []
 | .int .u8 n::r=>bif decide (0<=n)&&decide (n<256) then (J5 r).map fun s=>UInt8.ofNat n.toNat::s else none
 | _=>none
theorem J6:∀{l:List D} {s:List UInt8},J5 l=some s->l=Ze s
 | [],s,h=>by simp only[J5,Option.some.injEq]at h; subst h; rfl
 | x::r,s,h=>by
  unfold J5 at h
  split at h
  ·rename_i e; cases e
  ·rename_i n r' e
   cases e
   rw[Bool.cond_eq_ite]at h
   split at h
   ·rename_i hc
    simp only[Bool.and_eq_true,decide_eq_true_eq]at hc
    rw[Option.map_eq_some_iff]at h
    obtain⟨t,h1,rfl⟩:=h
    rw[J6 h1]
    have:((UInt8.ofNat n.toNat).toNat:Int)=n:=by rw[UInt8.toNat_ofNat']; omega
    simp only[Ze,this]
   ·cases h
  ·cases h

def Y9s (ob:Xa)(id:Nat)(p:List Nat)(n E:Nat)(v t:V):Option V->Rr
 | some old=>bif Sh.beq v.shape old.shape&&decide (old.size=n)&&v.sto then (match t.set p v with | some t'=>.ok .undef (setO ob id (.box E t')) | none=>.no) else .no
 | none=>.no
def Y9r (ob:Xa)(id:Nat)(p:List Nat)(n:Nat)(v:V):Option Ob->Rr
 | some (.box E t)=>Y9s ob id p n E v t (t.at p)
 | _=>.no
def Yrw (ob:Xa)(id i n:Nat)(o:Ob)(v v0:V)(p:List Nat):Option V->Rr
 | some old=>bif Sh.beq v.shape old.shape&&decide (old.size=n)&&v.sto then (match v0.set p v with | some t'=>.ok .undef (setO ob id (Xm3 o i t')) | none=>.no) else .no
 | none=>.no
def Yrx (ob:Xa)(id i n:Nat)(o:Ob)(v:V)(z f:Nat)(p:List Nat):Option V->Rr
 | some v0=>bif decide (z=v0.size)&&decide (f=v0.shape.off p) then Yrw ob id i n o v v0 p (v0.at p) else .no
 | none=>.no
def Yrv (ob:Xa)(id m z i f:Nat)(p:List Nat)(n:Nat)(v:V):Option Ob->Rr
 | some o=>Yrx ob id i n o v z f p (Vf m i (some o))
 | none=>.no
def stR (ob:Xa)(n:Nat)(v:V):V->Rr
 | .ptr id p=>Y9r ob id p n v (Xe ob id)
 | .ep id m z i f p=>Yrv ob id m z i f p n v (Xe ob id)
 | _=>.no
def V.isLf (v:V):Bool:=!v.isAgg
theorem V.lf_shape {v:V}(h:v.isLf=true):v.shape=.leaf:=by
 cases v with
 | d x=>cases x<;>first | rfl | simp[V.isLf,V.isAgg]at h
 | agg xs=>simp[V.isLf,V.isAgg]at h
 | _=>rfl
def Xyy (a b:V):Bool:=bif a.isLf&&b.isLf then true else Sh.beq a.shape b.shape
theorem Xyz {a b:V}(h:Xyy a b=true):a.shape=b.shape:=by
 unfold Xyy at h
 cases hc:(a.isLf&&b.isLf) with
 | true=>
  simp only[Bool.and_eq_true]at hc
  rw[V.lf_shape hc.1,V.lf_shape hc.2]
 | false=>rw[hc]at h; exact Sh.beq_eq _ _ h
def V.setF:V->List Nat->V->Option V
 | _,[],x=>some x
 | .d (.agg xs),i::p,x=>match xs[i]? with
  | some y=>match V.setF (.d y) p x with
   | some (.d z)=>some (.d (.agg (xs.set i z)))
   | some k=>some (V.mk ((xs.map .d).set i k))
   | none=>none
  | none=>none
 | v,i::p,x=>match v.kids with
  | some ks=>match ks[i]? with
   | some k=>match V.setF k p x with
    | some k'=>some (V.mk (ks.set i k'))
    | none=>none
   | none=>none
  | none=>none
theorem Xtg:∀(l:List D),V.allD (l.map .d)=some l
 | []=>rfl
 | x::r=>by simp only[List.map_cons,V.allD,Xtg r]
theorem V.setF_eq:∀(p:List Nat) (v x:V),v.setF p x=v.set p x
 | [],v,x=>by cases v<;>first | rfl | (rename_i y; cases y<;>rfl)
 | i::p,v,x=>by
  cases v with
  | d y=>
   cases y with
   | agg xs=>
    simp only[V.setF,V.set,V.kids,List.getElem?_map]
    cases xs[i]? with
    | none=>rfl
    | some y=>
     simp only[Option.map_some,V.setF_eq p (.d y) x]
     cases V.set (.d y) p x with
     | none=>rfl
     | some k=>
      cases k with
      | d z=>simp only[<-List.map_set,V.mk,Xtg]
      | _=>rfl
   | _=>simp[V.setF,V.set,V.kids]
  | agg xs=>
   simp only[V.setF,V.set,V.kids]
   cases xs[i]? with
   | none=>rfl
   | some y=>simp only[V.setF_eq p y x]; cases V.set y p x<;>rfl
  | _=>simp[V.setF,V.set,V.kids]
def Yr1 (ob:Xa)(id:Nat)(p:List Nat)(n E:Nat)(v t:V):Option V->Rr
 | some old=>bif Xyy v old&&old.szIs n&&v.sto then (match t.setF p v with | some t'=>.ok .undef (setO ob id (.box E t')) | none=>.no) else .no
 | none=>.no
def Yr0 (ob:Xa)(id:Nat)(p:List Nat)(n:Nat)(v:V):Option Ob->Rr
 | some (.box E t)=>Yr1 ob id p n E v t (t.atF p)
 | _=>.no
def Y9q (ob:Xa)(n:Nat)(v:V):V->Rr
 | .ptr id p=>Yr0 ob id p n v (Xe ob id)
 | u=>stR ob n v u
def Y9p (sz:Nat):V->Option (List D)
 | .d (.list z ys)=>bif decide (z=sz) then some ys else none
 | .d .nils=>some []
 | _=>none
def X72 (id E sz B n:Nat)(ob:Xa)(ys:List D):Option Ob->Rr
 | some (.arr E' sz' xs)=>bif decide (E'=E)&&decide (sz'=sz)&&decide (n=xs.length)&&decide ((2*(xs.length+ys.length)+192)*B<=281474976710656) then .ok (.sl id (xs.length+ys.length)) (setO ob id (.arr E sz (xs++ys))) else .no
 | _=>.no
def Ysc (E sz B:Nat)(ob:Xa)(ys:List D):V->Rr
 | .sl id n=>X72 id E sz B n ob ys (Xe ob id)
 | .d .nils=>bif decide ((2*ys.length+192)*B<=281474976710656) then .ok (.sl (Xb ob) ys.length) ((Xb ob,.arr E sz ys)::ob) else .no
 | _=>.no
def X7g (sz n:Nat):Option Ob->Option (List V)
 | some (.vec _ z ys)=>bif decide (z=sz)&&decide (n=ys.length)&&V.stos ys then some ys else none
 | some (.arr _ z ys)=>bif decide (z=sz)&&decide (n=ys.length) then some (ys.map .d) else none
 | _=>none
def Yru (sz:Nat)(ob:Xa):V->Option (List V)
 | .d (.list z ys)=>bif decide (z=sz) then some (ys.map .d) else none
 | .d .nils=>some []
 | .sl id n=>X7g sz n (Xe ob id)
 | _=>none
def Yfw (id E sz B n:Nat)(ob:Xa)(ys:List V):Option Ob->Rr
 | some (.vec E' sz' xs)=>bif decide (E'=E)&&decide (sz'=sz)&&decide (n=xs.length)&&decide ((2*(xs.length+ys.length)+192)*B<=281474976710656) then .ok (.sl id (xs.length+ys.length)) (setO ob id (.vec E sz (xs++ys))) else .no
 | some (.arr E' sz' xs)=>bif decide (E'=E)&&decide (sz'=sz)&&decide (n=xs.length)&&decide ((2*(xs.length+ys.length)+192)*B<=281474976710656) then .ok (.sl id (xs.length+ys.length)) (setO ob id (.vec E sz (xs.map .d++ys))) else .no
 | _=>.no
def Y3j (E sz B:Nat)(ob:Xa)(ys:List V):V->Rr
 | .sl id n=>Yfw id E sz B n ob ys (Xe ob id)
 | .d .nils=>bif decide ((2*ys.length+192)*B<=281474976710656) then .ok (.sl (Xb ob) ys.length) ((Xb ob,.vec E sz ys)::ob) else .no
 | _=>.no
def Xsa (o:Option V)(ob:Xa):Rr:=match o with
 | some v=>.ok v ob
 | none=>.no
def Y3k:V->Option V
 | .d (.list sz xs)=>bif decide (sz=1) then (J5 xs).map fun s=>.d (.str s) else none
 | .d .nils=>some (.d (.str []))
 | _=>none
def Y9m:V->Option V
 | .d (.str s)=>some (.d (.list 1 (Ze s)))
 | _=>none
def Yrt:V->Option (List D)
 | .d (.str s)=>some (Ze s)
 | _=>none
def Yg1:Option (D×Xa)->Rr
 | some (d,ob)=>.ok (.d d) ob
 | none=>.no
def Ylx (n:Nat)(ag:Bool)(ob:Xa):Option V->Rr
 | some v=>bif decide (v.size=n)&&(v.isAgg==ag) then Yg1 (V.giv ob v) else .no
 | none=>.no
def Y5x (n:Nat)(ag:Bool)(ob:Xa):V->Rr
 | .ptr id p=>Ylx n ag ob (atO ob id p)
 | _=>.no
def Yly (ob:Xa)(id:Nat)(p:List Nat)(x:D):Option Ob->Rr
 | some (.box E t)=>match t.set p (.d x) with
  | some t'=>.ok (.d x) (setO ob id (.box E t'))
  | none=>.no
 | _=>.no
def Ylz (v:V)(id:Nat)(p:List Nat):Option (D×Xa)->Rr
 | some (x,ob)=>bif Sh.beq x.shape v.shape then Yly ob id p x (Xe ob id) else .no
 | none=>.no
def Yl0 (n:Nat)(ag:Bool)(ob:Xa)(id:Nat)(p:List Nat):Option V->Rr
 | some v=>bif decide (v.size=n)&&(v.isAgg==ag) then Ylz v id p (V.gvF 40000 ob v) else .no
 | none=>.no
def Y5y (n:Nat)(ag:Bool)(ob:Xa):V->Rr
 | .ptr id p=>Yl0 n ag ob id p (atO ob id p)
 | _=>.no
def Yrn (id:Nat)(p:List Nat)(n z:Nat)(lo hi:Option V):Option (List V)->Option V
 | some ks=>bif decide (ks.length=n)&&ks.all (fun k=>decide (k.size=z)) then (Yfz n lo hi).map fun q=>.bs id p q.1 (q.2-q.1) else none
 | none=>none
def Y9n (ob:Xa)(n z:Nat)(lo hi:Option V):V->Option V
 | .ptr id p=>Yrn id p n z lo hi (Zk (atO ob id p))
 | _=>none
def Y3n (ob:Xa)(id E:Nat)(t:V)(p:List Nat)(lo n z:Nat)(ys:List D)(r:V):Option V->Rr
 | some (.d (.agg xs))=>bif decide (lo+n<=xs.length)&&xs.all (fun x=>decide (x.sz=z))&&Sh.beq (D.agg (Xgv lo xs ys)).shape (D.agg xs).shape then (match t.set p (.d (.agg (Xgv lo xs ys))) with | some t'=>.ok r (setO ob id (.box E t')) | none=>.no) else .no
 | _=>.no
def Ysg (ob:Xa)(id:Nat)(p:List Nat)(lo n z:Nat)(ys:List D)(r:V):Option Ob->Rr
 | some (.box E t)=>Y3n ob id E t p lo n z ys r (t.at p)
 | _=>.no
def Y3u (z:Nat)(ob:Xa):V->V->Rr
 | .bs id p lo n,.d (.list z' ys)=>bif decide (z'=z) then Ysg ob id p lo n z (ys.take n) (.d (.int .i64 (min ys.length n:Nat))) (Xe ob id) else .no
 | _,_=>.no
def Yln:Option Ob->Bool
 | some (.box _ _)=>true
 | _=>false
def Y3r (z0:D)(z:Nat)(ob:Xa):V->Rr
 | .bs id p lo n=>bif Nat.beq n 0 then (bif Yln (Xe ob id) then .ok (.tup []) ob else .no) else bif decide (z0.sz=z)&&decide (z=1) then Ysg ob id p lo n z (List.replicate n z0) (.tup []) (Xe ob id) else .no
 | _=>.no
def Y4f (n z:Nat):D->V->Option V
 | .agg xs,.d (.int _ m)=>gdR (decide (0<=m)&&decide (m<n)&&decide (xs.length=n)&&xs.all (fun x=>decide (x.sz=z))) (.d (.ref (xs.getD m.toNat default)))
 | _,_=>none
def V.isNils:V->Bool
 | .d .nils=>true
 | _=>false
def Yfx:Option V->Bool
 | some v=>v.isNils
 | none=>false
def Yn8 (ob:Xa)(id:Nat)(p:List Nat)(E sz:Nat)(y:V):Option Ob->Rr
 | some (.box E0 t)=>bif Yfx (t.at p) then (match t.set p (.sl (Xb ob) 0) with | some t'=>.ok y ((Xb ob,.arr E sz [])::setO ob id (.box E0 t')) | none=>.no) else .no
 | _=>.no
def Ysr (ob:Xa)(E sz:Nat)(p:List Nat)(y:V):V->Rr
 | .ptr id q=>Yn8 ob id (q++p) E sz y (Xe ob id)
 | _=>.no
def Yss (y x:V):List (Nat×Nat×List Nat)->Xa->Rr
 | [],ob=>.ok y ob
 | e::l,ob=>match Ysr ob e.1 e.2.1 e.2.2 y x with
  | .ok _ ob'=>Yss y x l ob'
  | _=>.no
def Ygc (id n:Nat)(ob:Xa):Option Ob->Rr
 | some (.arr _ sz xs)=>bif decide (sz ≠ 0)&&decide (n=xs.length)&&!xs.isEmpty then .ok (.d (.list sz xs)) (setO ob id .gone) else .no
 | _=>.no
def Y3v (ob:Xa):V->Rr
 | .sl id n=>Ygc id n ob (Xe ob id)
 | _=>.no
def X7j (id n:Nat)(m:Int)(E:Nat)(ob:Xa):Option Ob->Rr
 | some (.arr E' sz xs)=>bif decide (E'=E)&&decide (sz=1)&&decide (n=xs.length)&&decide (m=n)&&decide (n<=9223372036854775807)&&!xs.isEmpty then (match J5 xs with | some s=>.ok (.d (.str s)) (setO ob id .gone) | none=>.no) else .no
 | _=>.no
def Yr6 (E:Nat)(ob:Xa):V->V->Rr
 | .sd id n,.d (.int .i64 m)=>X7j id n m E ob (Xe ob id)
 | .d .nilp,.d (.int .i64 m)=>bif decide (m=0) then .ok (.d (.str [])) ob else .no
 | _,_=>.no
def X7d (ob:Xa):V->Rr
 | .iface t v=>.pn (.iface t v) ob
 | .d (.iface t v)=>.pn (.d (.iface t v)) ob
 | _=>.no

structure Fns where
 call:Nat->List V->Xa->Option (Out×Xa)
 pc:Nat->List V->Xa->Option V
 ca:Nat->Bool
 gl:Nat->Option D
 yd:Nat->List V->Xa->Option (Out×Xa):=fun _ _ _=>none
 lt:Nat->Option (List Nat×S×S):=fun _=>none
 xc:Nat->List V->Xa->Option (V×Xa):=fun _ _ _=>none
structure Fns.ok (P:Prg)(R:Fns):Prop where
 call:∀f vs ob o b,R.call f vs ob=some (o,b)->ACall P f vs ob fun o' b'=>o'=o/\b'=b
 pc:∀f vs ob v,R.pc f vs ob=some v->PCall P f vs ob fun v'=>v'=v
 ca:∀f,R.ca f=true->Xm P.p f=true
 gl:∀g x,R.gl g=some x->GlobIs P g x
 yd:∀id vs ob o b,R.yd id vs ob=some (o,b)->AYield P id vs ob fun o' b'=>o'=o/\b'=b
 xc:∀f vs ob v b,R.xc f vs ob=some (v,b)->XCall P f vs ob fun v' b'=>v'=v/\b'=b

def X4l:Option (Out×Xa)->Rr
 | some (.ret v,ob)=>.ok v ob
 | some (.panic v,ob)=>.pn v ob
 | none=>.no
def Ylp:Option Ob->Bool
 | some (.lp _ _ _)=>true
 | _=>false
def X5o (R:Fns)(args:List V)(ob:Xa):V->Rr
 | .fn f fi ca=>bif R.ca f then X4l (R.call f (fi++args++ca) ob) else .no
 | .d (.fn f fi ca)=>bif R.ca f then X4l (R.call f (fi.map .d++args++ca.map .d) ob) else .no
 | .hd true id=>bif Ylp (Xe ob id) then X4l (R.yd id args ob) else .no
 | _=>.no
def Y9k (ob:Xa):V->Option Ob->Rr
 | .mp id,some (.map es)=>.ok (.hd false (Xb ob)) ((Xb ob,.it (some id) es.length [])::ob)
 | .d .nilm,_=>.ok (.hd false (Xb ob)) ((Xb ob,.it none 0 [])::ob)
 | _,_=>.no
def Yec (ob:Xa)(id j n:Nat)(seen:List Nat)(es:List (D×V)):List Nat->Rr
 | []=>.ok (.tup [.d (.bool false)]) ob
 | [i]=>.ok (.tup [.d (.bool true),.d (es.getD i default).1,(es.getD i default).2]) (setO ob id (.it (some j) n (seen++[i])))
 | _=>.no
def Ypt (ob:Xa)(id j n:Nat)(seen:List Nat):Option Ob->Rr
 | some (.map es)=>bif Nat.beq es.length n then Yec ob id j n seen es ((List.range n).filter fun i=>!seen.contains i) else .no
 | _=>.no
def Ypu (ob:Xa)(id:Nat):Option Ob->Rr
 | some (.it none _ _)=>.ok (.tup [.d (.bool false)]) ob
 | some (.it (some j) n seen)=>Ypt ob id j n seen (Xe ob j)
 | _=>.no
def Y8k (ob:Xa):V->Rr
 | .hd false id=>Ypu ob id (Xe ob id)
 | _=>.no
def Ygr (i n:Nat):Option Ob->Option V
 | some (.map es)=>gdR (decide (i<n)&&Nat.beq es.length n) (.tup [.d (es.getD i default).1,(es.getD i default).2])
 | _=>none
def Ygs (ob:Xa):Option Ob->Option V
 | some (.it (some j) n (x::seen))=>Ygr ((x::seen).getLastD 0) n (Xe ob j)
 | _=>none
def Y39 (ob:Xa):V->Option V
 | .hd false id=>Ygs ob (Xe ob id)
 | _=>none
def X57:Option Ob->Option V
 | some (.map es)=>some (.d (.int .i64 es.length))
 | _=>none
def Yl3 (ob:Xa):V->Option V
 | .mp id=>X57 (Xe ob id)
 | .d .nilm=>some (.d (.int .i64 0))
 | _=>none
def Ylq (e:Bool):Option Ob->Option V
 | some (.map _)=>some (.d (.bool !e))
 | _=>none
def Ylr (e:Bool)(n:Nat):Option Ob->Option V
 | some (.arr _ _ xs)=>gdR (Nat.beq n xs.length&&!xs.isEmpty) (.d (.bool !e))
 | some (.vec _ _ xs)=>gdR (Nat.beq n xs.length&&!xs.isEmpty) (.d (.bool !e))
 | _=>none
def Y5w (ob:Xa)(e:Bool):Bool->V->Option V
 | true,.mp id=>Ylq e (Xe ob id)
 | true,.d .nilm=>some (.d (.bool e))
 | false,.d .nils=>some (.d (.bool e))
 | false,.d (.list _ xs)=>gdR (!xs.isEmpty) (.d (.bool !e))
 | false,.sl id n=>Ylr e n (Xe ob id)
 | _,_=>none
def Yri (ob:Xa)(v:V):Option (Nat×Nat×Nat×Bool)->Option V
 | none=>some v
 | some (fi,fo,n,ag)=>match (C.fldA fi fo (.t 0)).run [(0,v)] ob with
  | some u=>(C.ld n ag (.t 0)).run [(0,u)] ob
  | none=>none
def Y4k (R:Fns)(t f:Nat)(fl:Option (Nat×Nat×Nat×Bool))(args:List V)(ob:Xa):V->Rr
 | .iface t' (.ptr id p)=>bif Nat.beq t' t&&R.ca f then (match Yri ob (.ptr id p) fl with | some r=>X4l (R.call f (r::args) ob) | none=>.no) else .no
 | _=>.no
def Y69 (E sz B:Nat)(z:D)(ob:Xa):V->Rr
 | .d (.int .i64 n)=>bif decide (0<=n)&&decide (n*B<=281474976710656) then .ok (.sl (Xb ob) n.toNat) ((Xb ob,.arr E sz (List.replicate n.toNat z))::ob) else .no
 | _=>.no
def Yr3 (id n z:Nat)(h:Int)(ob:Xa):Option Ob->Rr
 | some (.arr E sz xs)=>bif Nat.beq sz z&&Nat.beq n xs.length&&!xs.isEmpty&&decide (0<=h/\h<=n) then .ok (.sl (Xb ob) h.toNat) ((Xb ob,.arr E sz (xs.take h.toNat))::setO ob id .gone) else .no
 | _=>.no
def Y9w (z:Nat)(ob:Xa):V->V->Rr
 | .sl id n,.d (.int .i64 h)=>Yr3 id n z h ob (Xe ob id)
 | _,_=>.no
def X02 (l:Option (List V)):Option (List D):=match l with
 | some ks=>V.allD ks
 | none=>none

def X30 (kd k:D)(es:List (D×V)):Bool:=D.alike kd k&&es.all fun e=>D.alike k e.1
theorem Xpb {kd k:D}{es:List (D×V)}(h:X30 kd k es=true):Xci kd k es:=by
 simp only[X30,Bool.and_eq_true,List.all_eq_true]at h
 exact h
def Yl7 (kd z:D)(ok:Bool)(k:D):Option Ob->Option V
 | some (.map es)=>gdR (X30 kd k es) (X4b z ok (Vs k es))
 | _=>none
def Y5z (ob:Xa)(kd z:D)(ok:Bool):V->V->Option V
 | .mp id,.d k=>Yl7 kd z ok k (Xe ob id)
 | .d .nilm,.d k=>gdR (D.alike kd k) (X4b z ok none)
 | _,_=>none
def X6b (ob:Xa)(id:Nat)(kd k:D)(v:V):Option Ob->Rr
 | some (.map es)=>bif X30 kd k es&&v.sto then .ok .undef (setO ob id (.map (Xj6 k v es))) else .no
 | _=>.no
def Yn7 (ob:Xa)(kd:D)(v:V):V->V->Rr
 | .mp id,.d k=>X6b ob id kd k v (Xe ob id)
 | _,_=>.no
def Yrq (ob:Xa)(id n z:Nat):Option V->Rr
 | some (.d (.agg xs))=>bif decide (xs.length=n)&&xs.all (fun x=>decide (x.sz=z)) then .ok (.d (.list z xs)) (setO ob id .gone) else .no
 | _=>.no
def Y9o (ob:Xa)(n z:Nat):V->Rr
 | .ptr id p=>Yrq ob id n z (atO ob id p)
 | _=>.no
def X5z:V->Bool
 | .d (.int _ _)=>true
 | _=>false
def Y68 (sl:Xf):Option A->Bool
 | none=>true
 | some x=>X5z (x.ev sl)

def I.run (R:Fns)(sl:Xf)(ob:Xa):I->Rr
 | .c x=>Xsa (x.run sl ob) ob
 | .box E x=>bif (x.ev sl).sto then .ok (.ptr (Xb ob) []) ((Xb ob,.box E (x.ev sl))::ob) else .no
 | .alloc E z=>bif (V.d z).sto then .ok (.ptr (Xb ob) []) ((Xb ob,.box E (.d z))::ob) else .no
 | .bls sz z parts=>match X02 (X5l (z.map .d) (parts.map fun (i,x)=>(i,x.ev sl))) with
  | some l=>.ok (.d (.list sz l)) ob
  | none=>.no
 | .blo E sz z parts=>match X02 (X5l (z.map .d) (parts.map fun (i,x)=>(i,x.ev sl))) with
  | some l=>.ok (.sl (Xb ob) l.length) ((Xb ob,.arr E sz l)::ob)
  | none=>.no
 | .st n x v=>Y9q ob n (v.ev sl) (x.ev sl)
 | .app E sz B x y=>match Y9p sz (y.ev sl) with
  | some ys=>Ysc E sz B ob ys (x.ev sl)
  | none=>.no
 | .appS E B x y=>match Yrt (y.ev sl) with
  | some ys=>Ysc E 1 B ob ys (x.ev sl)
  | none=>.no
 | .call f args=>X4l (R.call f (args.map (A.ev sl)) ob)
 | .pcall f args=>Xsa (R.pc f (args.map (A.ev sl)) ob) ob
 | .boxr _ _=>.no
 | .xcall f args=>match R.xc f (args.map (A.ev sl)) ob with
  | some (v,b)=>.ok v b
  | none=>.no
 | .callv x args=>X5o R (args.map (A.ev sl)) ob (x.ev sl)
 | .panic x=>X7d ob (x.ev sl)
 | .b2s x=>Xsa (Y3k (x.ev sl)) ob
 | .s2b x=>Xsa (Y9m (x.ev sl)) ob
 | .nilo E sz x=>bif (x.ev sl).isNils then .ok (.sl (Xb ob) 0) ((Xb ob,.arr E sz [])::ob) else .no
 | .mvf x=>Yg1 (V.giv ob (x.ev sl))
 | .ldf n ag x=>Y5x n ag ob (x.ev sl)
 | .mvg E sz y x p=>Ysr ob E sz p (y.ev sl) (x.ev sl)
 | .mvn y x l=>Yss (y.ev sl) (x.ev sl) l ob
 | .cvb x=>Y3v ob (x.ev sl)
 | .ustr E x y=>Yr6 E ob (x.ev sl) (y.ev sl)
 | .mkm r=>bif Y68 sl r then .ok (.mp (Xb ob)) ((Xb ob,.map [])::ob) else .no
 | .lkp kd z ok m k=>Xsa (Y5z ob kd z ok (m.ev sl) (k.ev sl)) ob
 | .mset kd m k v=>Yn7 ob kd (v.ev sl) (m.ev sl) (k.ev sl)
 | .gld g n ag x=>match R.gl g with
  | some y=>bif decide (y.sz=n)&&((V.d y).isAgg==ag)&&D.eqb x y then .ok (.d x) ob else .no
  | none=>.no
 | .slg n z x=>Y9o ob n z (x.ev sl)
 | .blv E sz z parts=>match X5l (z.map .d) (parts.map fun (i,x)=>(i,x.ev sl)) with
  | some ks=>.ok (.sl (Xb ob) ks.length) ((Xb ob,.vec E sz ks)::ob)
  | none=>.no
 | .apv E sz B x y=>match Yru sz ob (y.ev sl) with
  | some ys=>Y3j E sz B ob ys (x.ev sl)
  | none=>.no
 | .gv x=>Yg1 (V.gvF 40000 ob (x.ev sl))
 | .ldg n ag x=>Y5y n ag ob (x.ev sl)
 | .slb n z x lo hi=>Xsa (Y9n ob n z (lo.map (A.ev sl)) (hi.map (A.ev sl)) (x.ev sl)) ob
 | .cpy z x y=>Y3u z ob (x.ev sl) (y.ev sl)
 | .clr z0 z x=>Y3r z0 z ob (x.ev sl)
 | .gix g n z x i=>match R.gl g with
  | some y=>bif D.eqb x y then Xsa (Y4f n z x (i.ev sl)) ob else .no
  | none=>.no
 | .rng x=>Y9k ob (x.ev sl) (Xe ob (X6a (x.ev sl)))
 | .nxt x=>Y8k ob (x.ev sl)
 | .ety x=>Xsa (Y39 ob (x.ev sl)) ob
 | .lenM x=>Xsa (Yl3 ob (x.ev sl)) ob
 | .isn e m x=>Xsa (Y5w ob e m (x.ev sl)) ob
 | .inv _ t f fl x args=>Y4k R t f fl (args.map (A.ev sl)) ob (x.ev sl)
 | .mks E sz B z l=>Y69 E sz B z ob (l.ev sl)
 | .trn z x h=>Y9w z ob (x.ev sl) (h.ev sl)

def Rr.to (K Pn:V->Xa->Prop):Rr->Prop
 | .ok v ob=>K v ob
 | .pn v ob=>Pn v ob
 | .no=>False

section
variable {P:Prg} {R:Fns} {sl:Xf} {ob:Xa} {K Pn:V->Xa->Prop}
theorem W9 {o:Option V}(h:(Xsa o ob).to K Pn):∃v,o=some v/\K v ob:=by
 unfold Xsa at h; split at h
 ·exact⟨_,rfl,h⟩
 ·exact h.elim
theorem Xiw {v:V}(h:v.isNils=true):v=.d .nils:=by
 unfold V.isNils at h; split at h
 ·rfl
 ·cases h
theorem Xgu (hR:R.ok P){f:Nat}{vs:List V}(h:(X4l (R.call f vs ob)).to K Pn):ACall P f vs ob (Xda K Pn):=by
 unfold X4l at h
 split at h
 ·rename_i v b hc
  exact (hR.call f vs ob _ _ hc).mono fun o b ⟨e1,e2⟩=>by subst e1; subst e2; exact h
 ·rename_i v b hc
  exact (hR.call f vs ob _ _ hc).mono fun o b ⟨e1,e2⟩=>by subst e1; subst e2; exact h
 ·exact h.elim
theorem Yr8 (hR:R.ok P){id:Nat}{vs:List V}(h:(X4l (R.yd id vs ob)).to K Pn):AYield P id vs ob (Xda K Pn):=by
 unfold X4l at h
 split at h
 ·rename_i v b hc
  exact (hR.yd id vs ob _ _ hc).mono fun o b ⟨e1,e2⟩=>by subst e1; subst e2; exact h
 ·rename_i v b hc
  exact (hR.yd id vs ob _ _ hc).mono fun o b ⟨e1,e2⟩=>by subst e1; subst e2; exact h
 ·exact h.elim
theorem Xk7 {o:Option (D×Xa)}(h:(Yg1 o).to K Pn):Xq6 K o:=by
 unfold Yg1 at h; split at h
 ·exact h
 ·exact h.elim
theorem Xx {b:Bool}{x:Rr}(h:(bif b then x else .no).to K Pn):b=true/\x.to K Pn:=by
 cases b
 ·exact h.elim
 ·exact⟨rfl,h⟩
theorem Xtp {id lo n z:Nat}{p:List Nat}{ys:List D}{r:V}{o:Option Ob}(h:(Ysg ob id p lo n z ys r o).to K Pn):X5n ob id p lo n z ys r K o:=by
 unfold Ysg at h; split at h
 ·unfold Y3n at h; split at h
  ·rename_i xs hat
   obtain⟨h1,h2⟩:=Xx h
   simp only[Bool.and_eq_true,decide_eq_true_eq,List.all_eq_true]at h1
   split at h2
   ·rename_i t' ht
    simp only[X5n,hat,Yuk]
    exact⟨h1.1.1,h1.1.2,Sh.beq_eq _ _ h1.2,t',ht,h2⟩
   ·exact h2.elim
  ·exact h.elim
 ·exact h.elim
theorem Xwx {E sz:Nat}{y a:V}{p:List Nat}(h:(Ysr ob E sz p y a).to K Pn):Xkh ob E sz p y K a:=by
 unfold Ysr at h; split at h
 ·unfold Yn8 at h; split at h
  ·rename_i E0 t hl
   obtain⟨h1,h2⟩:=Xx h
   split at h2
   ·rename_i t' ht
    unfold Yfx at h1
    split at h1
    ·rename_i v hv
     simp only[Xkh,hl,Xdh,ht,Xja]
     exact .inl ⟨by rw[hv,Xiw h1],h2⟩
    ·cases h1
   ·exact h2.elim
  ·exact h.elim
 ·exact h.elim
theorem Xwy {y a:V}:∀{l:List (Nat×Nat×List Nat)} {ob:Xa},(Yss y a l ob).to K Pn->Ybq y K a l ob
 | [],_,h=>h
 | e::l,ob,h=>by
  unfold Yss at h
  split at h
  ·rename_i v' ob' he
   exact Xwx (Pn:=fun _ _=>False) (by rw[he]; exact Xwy h)
  ·exact h.elim

theorem I.run_sound (hR:R.ok P){i:I}(h:(i.run R sl ob).to K Pn):i.wp P sl ob K Pn:=by
 cases i<;>simp only[I.run]at h<;>simp only[I.wp]
 case c x=>
  obtain⟨v,h1,h2⟩:=W9 h
  exact C.run_sound (K:=fun v=>K v ob) h1 h2
 case box E x=>obtain⟨h1,h2⟩:=Xx h; exact⟨h1,h2⟩
 case alloc E z=>obtain⟨h1,h2⟩:=Xx h; exact⟨h1,h2⟩
 case bls sz z parts=>
  split at h
  ·rename_i l hl
   unfold X02 at hl
   split at hl
   ·rename_i ks hk
    refine Vd _ _ hk ?_
    rw[hl]; exact h
   ·cases hl
  ·exact h.elim
 case blo E sz z parts=>
  split at h
  ·rename_i l hl
   unfold X02 at hl
   split at hl
   ·rename_i ks hk
    refine Vd _ _ hk ?_
    rw[hl]; exact h
   ·cases hl
  ·exact h.elim
 case st n x v=>
  generalize A.ev sl x=a at h⊢
  unfold Y9q at h; split at h
  ·unfold Yr0 at h; split at h
   ·rename_i E t hl
    rw[V.atF_eq]at h
    unfold Yr1 at h; split at h
    ·rename_i old ho
     obtain⟨h1,h2⟩:=Xx h
     simp only[Bool.and_eq_true,V.szIs_eq,decide_eq_true_eq]at h1
     rw[V.setF_eq]at h2
     split at h2
     ·rename_i t' ht
      simp only[stK,hl,Xzr,ho,Xzs]
      exact⟨Xyz h1.1.1,h1.1.2,h1.2,t',ht,h2⟩
     ·exact h2.elim
    ·exact h.elim
   ·exact h.elim
  unfold stR at h; split at h
  ·unfold Y9r at h; split at h
   ·rename_i E t hl
    unfold Y9s at h; split at h
    ·rename_i old ho
     obtain⟨h1,h2⟩:=Xx h
     simp only[Bool.and_eq_true,decide_eq_true_eq]at h1
     split at h2
     ·rename_i t' ht
      simp only[stK,hl,Xzr,ho,Xzs]
      exact⟨Sh.beq_eq _ _ h1.1.1,h1.1.2,h1.2,t',ht,h2⟩
     ·exact h2.elim
    ·exact h.elim
   ·exact h.elim
  ·unfold Yrv at h; split at h
   ·rename_i o hl
    unfold Yrx at h; split at h
    ·rename_i v0 he
     obtain⟨h0,h⟩:=Xx h
     simp only[Bool.and_eq_true,decide_eq_true_eq]at h0
     unfold Yrw at h; split at h
     ·rename_i old ho
      obtain⟨h1,h2⟩:=Xx h
      simp only[Bool.and_eq_true,decide_eq_true_eq]at h1
      split at h2
      ·rename_i t' ht
       simp only[stK,hl,Yry,he,Ys0,ho,Yrz]
       exact⟨h0,Sh.beq_eq _ _ h1.1.1,h1.1.2,h1.2,t',ht,h2⟩
      ·exact h2.elim
     ·exact h.elim
    ·exact h.elim
   ·exact h.elim
  ·exact h.elim
 case blv E sz z parts=>
  split at h
  ·rename_i ks hk
   exact Vd _ _ hk h
  ·exact h.elim
 case gv x=>exact Xk7 h
 case slb n z x lo hi=>
  obtain⟨v,h1,h2⟩:=W9 h
  generalize A.ev sl x=a at h1⊢
  unfold Y9n at h1; split at h1
  ·rename_i id p
   unfold Yrn at h1; split at h1
   ·rename_i ks hk
    rw[Bool.cond_eq_ite]at h1; split at h1
    ·rename_i hc
     simp only[Bool.and_eq_true,decide_eq_true_eq,List.all_eq_true]at hc
     rw[Option.map_eq_some_iff]at h1
     obtain⟨q,hq,rfl⟩:=h1
     simp only[Ysz,hk,Yeu]
     exact⟨hc.1,hc.2,J2 (K:=fun l h=>K (.bs id p l (h-l)) ob) hq h2⟩
    ·cases h1
   ·cases h1
  ·cases h1
 case cpy z x y=>
  generalize A.ev sl x=a at h⊢; generalize A.ev sl y=b at h⊢
  unfold Y3u at h; split at h
  ·obtain⟨h1,h2⟩:=Xx h
   exact⟨of_decide_eq_true h1,Xtp h2⟩
  ·exact h.elim
 case clr z0 z x=>
  generalize A.ev sl x=a at h⊢
  unfold Y3r at h; split at h
  ·rename_i id p lo n
   rw[Bool.cond_eq_ite]at h
   split at h
   ·rename_i hn
    have hn:n=0:=Nat.eq_of_beq_eq_true hn
    obtain⟨h1,h2⟩:=Xx h
    refine⟨fun _=>⟨?_,h2⟩,fun e=>(e hn).elim⟩
    generalize Xe ob id=o at h1⊢
    unfold Yln at h1; split at h1
    ·exact⟨_,_,rfl⟩
    ·cases h1
   ·rename_i hn
    have hn:n ≠ 0:=fun e=>hn (by rw[e]; rfl)
    obtain⟨h1,h2⟩:=Xx h
    simp only[Bool.and_eq_true,decide_eq_true_eq]at h1
    exact⟨fun e=>(hn e).elim,fun _=>⟨h1,Xtp h2⟩⟩
  ·exact h.elim
 case gix g n z x i=>
  split at h
  ·rename_i y hy
   obtain⟨h1,h9⟩:=Xx h
   clear h
   have e:=D.eqb_eq _ _ h1
   subst e
   refine⟨hR.gl g _ hy,?_⟩
   obtain⟨v,h2,h3⟩:=W9 h9
   generalize A.ev sl i=b at h2⊢
   unfold Y4f at h2; split at h2
   ·obtain⟨h4,rfl⟩:=Xz h2
    simp only[Bool.and_eq_true,decide_eq_true_eq,List.all_eq_true]at h4
    exact⟨h4.1.1,h4.1.2,h4.2,h3⟩
   ·cases h2
  ·exact h.elim
 case ldg n ag x=>
  generalize A.ev sl x=a at h⊢
  unfold Y5y at h; split at h
  ·unfold Yl0 at h; split at h
   ·rename_i v hv
    obtain⟨h1,h⟩:=Xx h
    simp only[Bool.and_eq_true,decide_eq_true_eq,beq_iff_eq]at h1
    unfold Ylz at h; split at h
    ·rename_i x1 ob1 hg
     obtain⟨h2,h⟩:=Xx h
     unfold Yly at h; split at h
     ·rename_i E t hl
      split at h
      ·rename_i t' ht
       simp only[Yfb,hv,Xwm,hg,Xwl,hl,X34]
       exact⟨h1.1,h1.2,Sh.beq_eq _ _ h2,t',ht,h⟩
      ·exact h.elim
     ·exact h.elim
    ·exact h.elim
   ·exact h.elim
  ·exact h.elim
 case apv E sz B x y=>
  split at h
  ·rename_i ys hy
   have hx:Xr6 E sz B ob ys K (A.ev sl x):=by
    generalize A.ev sl x=a at h⊢
    unfold Y3j at h; split at h
    ·unfold Yfw at h; split at h
     ·rename_i E' sz' xs hl
      obtain⟨h1,h2⟩:=Xx h
      simp only[Bool.and_eq_true,decide_eq_true_eq]at h1
      simp only[Xr6,hl,Xqn]
      exact⟨h1.1.1.1,h1.1.1.2,h1.1.2,h1.2,h2⟩
     ·rename_i E' sz' xs hl
      obtain⟨h1,h2⟩:=Xx h
      simp only[Bool.and_eq_true,decide_eq_true_eq]at h1
      simp only[Xr6,hl,Xqn]
      exact⟨h1.1.1.1,h1.1.1.2,h1.1.2,h1.2,h2⟩
     ·exact h.elim
    ·obtain⟨h1,h2⟩:=Xx h
     exact⟨of_decide_eq_true h1,h2⟩
    ·exact h.elim
   generalize A.ev sl y=b at hy⊢
   unfold Yru at hy; split at hy
   ·rw[Bool.cond_eq_ite]at hy; split at hy
    ·rename_i hc; cases hy; exact⟨of_decide_eq_true hc,hx⟩
    ·cases hy
   ·cases hy; exact hx
   ·rename_i id n
    unfold X7g at hy; split at hy
    ·rename_i E1 z ys1 hl
     rw[Bool.cond_eq_ite]at hy; split at hy
     ·rename_i hc; cases hy
      simp only[Bool.and_eq_true,decide_eq_true_eq]at hc
      obtain⟨⟨rfl,h2⟩,h3⟩:=hc
      exact .inl ⟨E1,_,hl,h2,h3,hx⟩
     ·cases hy
    ·rename_i E1 z ys1 hl
     rw[Bool.cond_eq_ite]at hy; split at hy
     ·rename_i hc; cases hy
      simp only[Bool.and_eq_true,decide_eq_true_eq]at hc
      obtain⟨rfl,h2⟩:=hc
      exact .inr ⟨E1,ys1,hl,h2,hx⟩
     ·cases hy
    ·cases hy
   ·cases hy
  ·exact h.elim
 case app E sz B x y=>
  split at h
  ·rename_i ys hy
   have hx:Xdp E sz B ob ys K (A.ev sl x):=by
    generalize A.ev sl x=a at h⊢
    unfold Ysc at h; split at h
    ·unfold X72 at h; split at h
     ·rename_i E' sz' xs hl
      obtain⟨h1,h2⟩:=Xx h
      simp only[Bool.and_eq_true,decide_eq_true_eq]at h1
      simp only[Xdp,hl,Xde]
      exact⟨h1.1.1.1,h1.1.1.2,h1.1.2,h1.2,h2⟩
     ·exact h.elim
    ·obtain⟨h1,h2⟩:=Xx h
     exact⟨of_decide_eq_true h1,h2⟩
    ·exact h.elim
   generalize A.ev sl y=b at hy⊢
   unfold Y9p at hy; split at hy
   ·rw[Bool.cond_eq_ite]at hy; split at hy
    ·rename_i hc; cases hy; exact⟨of_decide_eq_true hc,hx⟩
    ·cases hy
   ·cases hy; exact hx
   ·cases hy
  ·exact h.elim
 case appS E B x y=>
  split at h
  ·rename_i ys hy
   have hx:Xdp E 1 B ob ys K (A.ev sl x):=by
    generalize A.ev sl x=a at h⊢
    unfold Ysc at h; split at h
    ·unfold X72 at h; split at h
     ·rename_i E' sz' xs hl
      obtain⟨h1,h2⟩:=Xx h
      simp only[Bool.and_eq_true,decide_eq_true_eq]at h1
      simp only[Xdp,hl,Xde]
      exact⟨h1.1.1.1,h1.1.1.2,h1.1.2,h1.2,h2⟩
     ·exact h.elim
    ·obtain⟨h1,h2⟩:=Xx h
     exact⟨of_decide_eq_true h1,h2⟩
    ·exact h.elim
   generalize A.ev sl y=b at hy⊢
   unfold Yrt at hy; split at hy
   ·cases hy; exact hx
   ·cases hy
  ·exact h.elim
 case call f args=>exact Xgu hR h
 case pcall f args=>
  obtain⟨v,h1,h2⟩:=W9 h
  exact (hR.pc _ _ _ _ h1).mono fun v' e=>by subst e; exact h2
 case boxr=>exact h.elim
 case xcall f args=>
  split at h
  ·rename_i v b hx
   exact (hR.xc _ _ _ _ _ hx).mono fun v' b' ⟨e1,e2⟩=>by subst e1; subst e2; exact h
  ·exact h.elim
 case callv x args=>
  generalize A.ev sl x=a at h⊢
  unfold X5o at h; split at h
  ·obtain⟨h1,h2⟩:=Xx h
   exact⟨hR.ca _ h1,Xgu hR h2⟩
  ·obtain⟨h1,h2⟩:=Xx h
   exact⟨hR.ca _ h1,Xgu hR h2⟩
  ·rename_i id
   obtain⟨h1,h2⟩:=Xx h
   refine⟨?_,Yr8 hR h2⟩
   unfold Ylp at h1; split at h1
   ·rename_i e; rw[e]; trivial
   ·cases h1
  ·exact h.elim
 case panic x=>
  generalize A.ev sl x=a at h⊢
  unfold X7d at h; split at h
  ·exact h
  ·exact h
  ·exact h.elim
 case b2s x=>
  obtain⟨v,h1,h2⟩:=W9 h
  generalize A.ev sl x=a at h1⊢
  unfold Y3k at h1; split at h1
  ·rw[Bool.cond_eq_ite]at h1; split at h1
   ·rename_i hc
    rw[Option.map_eq_some_iff]at h1
    obtain⟨s,h3,rfl⟩:=h1
    exact⟨of_decide_eq_true hc,s,J6 h3,h2⟩
   ·cases h1
  ·cases h1; exact h2
  ·cases h1
 case s2b x=>
  obtain⟨v,h1,h2⟩:=W9 h
  generalize A.ev sl x=a at h1⊢
  unfold Y9m at h1; split at h1
  ·cases h1; exact h2
  ·cases h1
 case nilo E sz x=>obtain⟨h1,h2⟩:=Xx h; rw[Xiw h1]; exact h2
 case mvf x=>exact Xk7 h
 case ldf n ag x=>
  generalize A.ev sl x=a at h⊢
  unfold Y5x at h; split at h
  ·unfold Ylx at h; split at h
   ·rename_i v hv
    obtain⟨h1,h2⟩:=Xx h
    simp only[Bool.and_eq_true,decide_eq_true_eq,beq_iff_eq]at h1
    simp only[X54,hv,Xlg]
    exact⟨h1.1,h1.2,Xk7 h2⟩
   ·exact h.elim
  ·exact h.elim
 case mvg=>exact Xwx h
 case mvn=>exact Xwy h
 case cvb x=>
  generalize A.ev sl x=a at h⊢
  unfold Y3v at h; split at h
  ·unfold Ygc at h; split at h
   ·rename_i E' sz xs hl
    obtain⟨h1,h2⟩:=Xx h
    simp at h1
    simp only[Xud,hl,Xe5]
    exact⟨h1.1.1,h1.1.2,h1.2,h2⟩
   ·exact h.elim
  ·exact h.elim
 case ustr E x y=>
  generalize A.ev sl x=a at h⊢; generalize A.ev sl y=b at h⊢
  unfold Yr6 at h; split at h
  ·unfold X7j at h; split at h
   ·rename_i E' sz xs hl
    obtain⟨h1,h2⟩:=Xx h
    split at h2
    ·rename_i s hs
     simp at h1
     simp only[Xr2,hl,Xj8]
     exact⟨h1.1.1.1.1.1,h1.1.1.1.1.2,h1.1.1.1.2,h1.1.1.2,h1.1.2,h1.2,s,J6 hs,h2⟩
    ·exact h2.elim
   ·exact h.elim
  ·obtain⟨h1,h2⟩:=Xx h
   exact⟨of_decide_eq_true h1,h2⟩
  ·exact h.elim
 case mkm r=>
  obtain⟨h1,h2⟩:=Xx h
  refine⟨?_,h2⟩
  cases r with
  | none=>trivial
  | some x=>
   simp only[Y68]at h1
   simp only[X0e]
   generalize A.ev sl x=a at h1⊢
   unfold X5z at h1; split at h1
   ·trivial
   ·cases h1
 case lkp kd z ok m k=>
  obtain⟨v,h1,h2⟩:=W9 h
  generalize A.ev sl m=a at h1⊢; generalize A.ev sl k=b at h1⊢
  unfold Y5z at h1; split at h1
  ·unfold Yl7 at h1; split at h1
   ·rename_i es hl
    obtain⟨h3,rfl⟩:=Xz h1
    simp only[Xwp,hl,Xfj]
    exact⟨Xpb h3,h2⟩
   ·cases h1
  ·obtain⟨h3,rfl⟩:=Xz h1
   exact⟨h3,h2⟩
  ·cases h1
 case mset kd m k v=>
  generalize A.ev sl m=a at h⊢; generalize A.ev sl k=b at h⊢
  unfold Yn7 at h; split at h
  ·unfold X6b at h; split at h
   ·rename_i es hl
    obtain⟨h1,h2⟩:=Xx h
    simp only[Bool.and_eq_true]at h1
    simp only[Xcp,hl,Jg]
    exact⟨Xpb h1.1,h1.2,h2⟩
   ·exact h.elim
  ·exact h.elim
 case rng x=>
  generalize A.ev sl x=a at h⊢
  generalize Xe ob (X6a a)=o at h⊢
  unfold Y9k at h; split at h
  ·exact h
  ·exact h
  ·exact h.elim
 case nxt x=>
  generalize A.ev sl x=a at h⊢
  unfold Y8k at h; split at h
  ·rename_i id
   simp only[X4h]
   generalize Xe ob id=o at h⊢
   unfold Ypu at h; split at h
   ·exact h
   ·rename_i j n seen
    simp only[Xjk]
    generalize Xe ob j=o at h⊢
    unfold Ypt at h; split at h
    ·rename_i es
     obtain⟨h1,h2⟩:=Xx h
     have hmem:∀i,i<n->seen.contains i=false->i∈(List.range n).filter fun i=>!seen.contains i:=fun i hi hc=>by
      rw[List.mem_filter]; exact⟨List.mem_range.2 hi,by rw[hc]; rfl⟩
     have hback:∀i,i∈(List.range n).filter (fun i=>!seen.contains i)->i<n/\seen.contains i=false:=fun i hi=>by
      rw[List.mem_filter]at hi; exact⟨List.mem_range.1 hi.1,by simpa using hi.2⟩
     generalize (List.range n).filter (fun i=>!seen.contains i)=l at h2 hmem hback
     refine⟨Nat.eq_of_beq_eq_true h1,fun ha=>?_,fun i hi hc=>?_⟩
     ·unfold Yec at h2; split at h2
      ·exact h2
      ·rename_i i
       obtain⟨b1,b2⟩:=hback i (by simp)
       have:=List.all_eq_true.1 ha i (List.mem_range.2 b1)
       rw[b2]at this; cases this
      ·exact h2.elim
     ·have hm:=hmem i hi hc
      unfold Yec at h2; split at h2
      ·cases hm
      ·rcases List.mem_cons.1 hm with rfl | hm
       ·exact h2
       ·cases hm
      ·exact h2.elim
    ·exact h.elim
   ·exact h.elim
  ·exact h.elim
 case ety x=>
  obtain⟨v,h1,h2⟩:=W9 h
  generalize A.ev sl x=a at h1⊢
  unfold Y39 at h1; split at h1
  ·rename_i id
   simp only[X2u]
   generalize Xe ob id=o at h1⊢
   unfold Ygs at h1; split at h1
   ·rename_i j n y seen
    simp only[Xkx]
    generalize Xe ob j=o at h1⊢
    refine⟨by simp,?_⟩
    unfold Ygr at h1; split at h1
    ·obtain⟨h3,rfl⟩:=Xz h1
     simp only[Bool.and_eq_true,decide_eq_true_eq]at h3
     exact⟨h3.1,Nat.eq_of_beq_eq_true h3.2,h2⟩
    ·cases h1
   ·cases h1
  ·cases h1
 case lenM x=>
  obtain⟨v,h1,h2⟩:=W9 h
  generalize A.ev sl x=a at h1⊢
  unfold Yl3 at h1; split at h1
  ·rename_i id
   simp only[Xrb]
   generalize Xe ob id=o at h1⊢
   unfold X57 at h1; split at h1
   ·cases h1; exact h2
   ·cases h1
  ·cases h1; exact h2
  ·cases h1
 case isn e m x=>
  obtain⟨v,h1,h2⟩:=W9 h
  generalize A.ev sl x=a at h1⊢
  unfold Y5w at h1; split at h1
  ·rename_i id
   simp only[Xwd]
   generalize Xe ob id=o at h1⊢
   unfold Ylq at h1; split at h1
   ·cases h1; exact h2
   ·cases h1
  ·cases h1; exact h2
  ·cases h1; exact h2
  ·rename_i xs
   obtain⟨h3,rfl⟩:=Xz h1
   refine⟨h2,fun e=>?_⟩
   subst e; cases h3
  ·rename_i id k
   simp only[Xwd]
   generalize Xe ob id=o at h1⊢
   unfold Ylr at h1; split at h1
   ·obtain⟨h3,rfl⟩:=Xz h1
    simp only[Bool.and_eq_true,Bool.not_eq_true',List.isEmpty_eq_false_iff]at h3
    exact⟨Nat.eq_of_beq_eq_true h3.1,h3.2,h2⟩
   ·obtain⟨h3,rfl⟩:=Xz h1
    simp only[Bool.and_eq_true,Bool.not_eq_true',List.isEmpty_eq_false_iff]at h3
    exact⟨Nat.eq_of_beq_eq_true h3.1,h3.2,h2⟩
   ·cases h1
  ·cases h1
 case inv nm t f fl x args=>
  generalize A.ev sl x=a at h⊢
  unfold Y4k at h; split at h
  ·rename_i t' id p
   obtain⟨h1,h2⟩:=Xx h
   simp only[Bool.and_eq_true]at h1
   refine⟨Nat.eq_of_beq_eq_true h1.1,hR.ca _ h1.2,?_⟩
   split at h2
   ·rename_i q hq
    have hc:=Xgu hR h2
    unfold Yri at hq
    split at hq
    ·cases hq; exact hc
    ·rename_i fi fo n ag
     split at hq
     ·rename_i u hu
      simp only[X4r]
      have h4:=C.run_sound (K:=fun v=>ACall P f (v::args.map (A.ev sl)) ob (Xda K Pn)) hq hc
      have h5:=C.run_sound (K:=fun u=>ldK ob n ag (fun v=>ACall P f (v::args.map (A.ev sl)) ob (Xda K Pn)) u) hu (by simpa[C.wp,A.ev,look]using h4)
      simpa[C.wp,A.ev,look]using h5
     ·cases hq
   ·exact h2.elim
  ·exact h.elim
 case mks E sz B z l=>
  generalize A.ev sl l=a at h⊢
  unfold Y69 at h; split at h
  ·obtain⟨h1,h2⟩:=Xx h
   simp only[Bool.and_eq_true,decide_eq_true_eq]at h1
   exact⟨h1.1,h1.2,h2⟩
  ·exact h.elim
 case trn z x hh=>
  generalize A.ev sl x=a at h⊢; generalize A.ev sl hh=b at h⊢
  unfold Y9w at h; split at h
  ·rename_i id n m
   simp only[Yfj]
   generalize Xe ob id=o at h⊢
   unfold Yr3 at h; split at h
   ·obtain⟨h1,h2⟩:=Xx h
    simp only[Bool.and_eq_true,Bool.not_eq_true',List.isEmpty_eq_false_iff,decide_eq_true_eq]at h1
    exact⟨Nat.eq_of_beq_eq_true h1.1.1.1,Nat.eq_of_beq_eq_true h1.1.1.2,h1.1.2,h1.2,h2⟩
   ·exact h.elim
  ·exact h.elim
 case slg n z x=>
  generalize A.ev sl x=a at h⊢
  unfold Y9o at h; split at h
  ·rename_i id p
   unfold Yrq at h; split at h
   ·rename_i xs hat
    obtain⟨h1,h2⟩:=Xx h
    simp only[Bool.and_eq_true,decide_eq_true_eq,List.all_eq_true]at h1
    simp only[Yff,hat,Xy3]
    exact⟨h1.1,h1.2,h2⟩
   ·exact h.elim
  ·exact h.elim
 case gld g n ag x=>
  split at h
  ·rename_i y hy
   obtain⟨h1,h2⟩:=Xx h
   simp only[Bool.and_eq_true,decide_eq_true_eq,beq_iff_eq]at h1
   have e:=D.eqb_eq _ _ h1.2
   subst e
   exact⟨hR.gl g _ hy,h1.1.1,h1.1.2,h2⟩
  ·exact h.elim
end

inductive Rq where
 | ok (sl:Xf) (ob:Xa)
 | pn (v:V) (sl:Xf) (ob:Xa)
 | no
def Rq.to (K:Xf->Xa->Prop)(Pn:V->Xf->Xa->Prop):Rq->Prop
 | .ok sl ob=>K sl ob
 | .pn v sl ob=>Pn v sl ob
 | .no=>False

mutual
def V.ids:V->List Nat
 | .ptr id _=>[id]
 | .sl id _=>[id]
 | .sd id _=>[id]
 | .mp id=>[id]
 | .hd _ id=>[id]
 | .ep id _ _ _ _ _=>[id]
 | .bs id _ _ _=>[id]
 | .fn _ a b=>V.idss a++V.idss b
 | .agg xs=>V.idss xs
 | .iface _ v=>V.ids v
 | .tup xs=>V.idss xs
 | _=>[]
def V.idss:List V->List Nat
 | []=>[]
 | x::r=>V.ids x++V.idss r
end
def Yu8:Xf->List Nat
 | []=>[]
 | (_,v)::r=>V.ids v++Yu8 r
def Xv3:Xa->List Nat
 | []=>[]
 | (_,.box _ t)::r=>V.ids t++Xv3 r
 | (_,.vec _ _ xs)::r=>V.idss xs++Xv3 r
 | (_,.map es)::r=>V.idss (es.map (·.2))++Xv3 r
 | (_,.lp _ _ sl)::r=>Yu8 sl++Xv3 r
 | (_,.it (some j) _ _)::r=>j::Xv3 r
 | _::r=>Xv3 r

def Xrz (R:Fns)(sl:Xf)(ob:Xa)(d:Option Nat)(i:I)(k:Xf->Xa->Rq):Rq:=match i.run R sl ob with
 | .ok v ob'=>k (put sl d v) ob'
 | .pn v ob'=>.pn v sl ob'
 | .no=>.no
def X4v (R:Fns):List It->Xf->Xa->Rq
 | [],sl,ob=>.ok sl ob
 | .op d i::r,sl,ob=>Xrz R sl ob d i (X4v R r)
 | .gop s want d i::r,sl,ob=>match look sl s with
  | .d (.bool b)=>bif b==want then Xrz R ((s,.d (.bool want))::sl) ob d i (X4v R r) else X4v R r (put ((s,.d (.bool (!want)))::sl) d .undef) ob
  | .undef=>X4v R r (put sl d .undef) ob
  | _=>.no

theorem Vy {P:Prg}{R:Fns}(hR:R.ok P){sl:Xf}{ob:Xa}{d:Option Nat}{i:I}{k:Xf->Xa->Rq}{k' K:Xf->Xa->Prop}{Pn:V->Xf->Xa->Prop}(hk:∀sl ob,(k sl ob).to K Pn->k' sl ob)(h:(Xrz R sl ob d i k).to K Pn) :
  i.wp P sl ob (fun v ob'=>k' (put sl d v) ob') (fun v ob'=>Pn v sl ob'):=by
 refine I.run_sound hR ?_
 unfold Xrz at h
 split at h
 ·rename_i e; rw[e]; exact hk _ _ h
 ·rename_i e; rw[e]; exact h
 ·exact h.elim
theorem Zy {P:Prg}{R:Fns}(hR:R.ok P){K:Xf->Xa->Prop}{Pn:V->Xf->Xa->Prop}:∀(l:List It) (sl:Xf) (ob:Xa),(X4v R l sl ob).to K Pn->rwp P K Pn l sl ob
 | [],sl,ob,h=>h
 | .op d i::r,sl,ob,h=>Vy hR (fun sl ob h=>Zy hR r sl ob h) h
 | .gop s want d i::r,sl,ob,h=>by
  simp only[X4v]at h
  simp only[rwp]
  split at h
  ·rename_i b hb
   rw[hb]
   simp only[gdK]
   rw[Bool.cond_eq_ite]at h
   split at h
   ·rename_i e
    have e:b=want:=by simpa using e
    refine⟨fun _=>Vy hR (fun sl ob h=>Zy hR r sl ob h) h,fun e2=>?_⟩
    rw[e]at e2; cases want<;>cases e2
   ·rename_i e
    have e:¬b=want:=by simpa using e
    exact⟨fun e2=>(e e2).elim,fun _=>Zy hR r _ ob h⟩
  ·rename_i hb
   rw[hb]
   exact Zy hR r _ ob h
  ·exact h.elim

mutual
def V.eqb:V->V->Bool
 | .d x,.d y=>D.eqb x y
 | .ptr i p,.ptr j q=>Nat.beq i j&&decide (p=q)
 | .sl i n,.sl j m=>Nat.beq i j&&Nat.beq n m
 | .sd i n,.sd j m=>Nat.beq i j&&Nat.beq n m
 | .mp i,.mp j=>Nat.beq i j
 | .hd a i,.hd b j=>a==b&&Nat.beq i j
 | .ep i n s k f p,.ep j m t l g q=>Nat.beq i j&&Nat.beq n m&&Nat.beq s t&&Nat.beq k l&&Nat.beq f g&&decide (p=q)
 | .bs i p k n,.bs j q l m=>Nat.beq i j&&Nat.beq k l&&Nat.beq n m&&decide (p=q)
 | .fn f a b,.fn g a2 b2=>Nat.beq f g&&V.eqbs a a2&&V.eqbs b b2
 | .agg a,.agg b=>V.eqbs a b
 | .iface t a,.iface u b=>Nat.beq t u&&V.eqb a b
 | .tup a,.tup b=>V.eqbs a b
 | .undef,.undef=>true
 | .any,.any=>true
 | _,_=>false
def V.eqbs:List V->List V->Bool
 | [],[]=>true
 | x::r,y::s=>V.eqb x y&&V.eqbs r s
 | _,_=>false
end
mutual
theorem V.eqb_eq:∀(x y:V),V.eqb x y=true->x=y
 | .d a,y,h=>by cases y<;>simp only[V.eqb,Bool.false_eq_true]at h; rw[D.eqb_eq _ _ h]
 | .ptr i p,y,h=>by cases y<;>simp only[V.eqb,Bool.false_eq_true,Bool.and_eq_true,decide_eq_true_eq]at h; rw[Nat.eq_of_beq_eq_true h.1,h.2]
 | .sl i n,y,h=>by cases y<;>simp only[V.eqb,Bool.false_eq_true,Bool.and_eq_true]at h; rw[Nat.eq_of_beq_eq_true h.1,Nat.eq_of_beq_eq_true h.2]
 | .sd i n,y,h=>by cases y<;>simp only[V.eqb,Bool.false_eq_true,Bool.and_eq_true]at h; rw[Nat.eq_of_beq_eq_true h.1,Nat.eq_of_beq_eq_true h.2]
 | .mp i,y,h=>by cases y<;>simp only[V.eqb,Bool.false_eq_true]at h; rw[Nat.eq_of_beq_eq_true h]
 | .hd a i,y,h=>by cases y<;>simp only[V.eqb,Bool.false_eq_true,Bool.and_eq_true,beq_iff_eq]at h; rw[h.1,Nat.eq_of_beq_eq_true h.2]
 | .ep i n s k f p,y,h=>by
  cases y<;>simp only[V.eqb,Bool.false_eq_true,Bool.and_eq_true,decide_eq_true_eq]at h
  rw[Nat.eq_of_beq_eq_true h.1.1.1.1.1,Nat.eq_of_beq_eq_true h.1.1.1.1.2,Nat.eq_of_beq_eq_true h.1.1.1.2,Nat.eq_of_beq_eq_true h.1.1.2,Nat.eq_of_beq_eq_true h.1.2,h.2]
 | .bs i p k n,y,h=>by
  cases y<;>simp only[V.eqb,Bool.false_eq_true,Bool.and_eq_true,decide_eq_true_eq]at h
  rw[Nat.eq_of_beq_eq_true h.1.1.1,Nat.eq_of_beq_eq_true h.1.1.2,Nat.eq_of_beq_eq_true h.1.2,h.2]
 | .fn f a b,y,h=>by
  cases y<;>simp only[V.eqb,Bool.false_eq_true,Bool.and_eq_true]at h
  rw[Nat.eq_of_beq_eq_true h.1.1,V.eqbs_eq _ _ h.1.2,V.eqbs_eq _ _ h.2]
 | .agg a,y,h=>by cases y<;>simp only[V.eqb,Bool.false_eq_true]at h; rw[V.eqbs_eq _ _ h]
 | .iface t a,y,h=>by cases y<;>simp only[V.eqb,Bool.false_eq_true,Bool.and_eq_true]at h; rw[Nat.eq_of_beq_eq_true h.1,V.eqb_eq _ _ h.2]
 | .tup a,y,h=>by cases y<;>simp only[V.eqb,Bool.false_eq_true]at h; rw[V.eqbs_eq _ _ h]
 | .undef,y,h=>by cases y<;>simp[V.eqb]at h; rfl
 | .any,y,h=>by cases y<;>simp[V.eqb]at h; rfl
theorem V.eqbs_eq:∀(x y:List V),V.eqbs x y=true->x=y
 | [],y,h=>by cases y<;>simp[V.eqbs]at h; rfl
 | x::r,y,h=>by
  cases y<;>simp only[V.eqbs,Bool.false_eq_true,Bool.and_eq_true]at h
  rw[V.eqb_eq _ _ h.1,V.eqbs_eq _ _ h.2]
end
def Ygv:List (D×V)->List (D×V)->Bool
 | [],[]=>true
 | (k,x)::r,(j,y)::s=>D.eqb k j&&V.eqb x y&&Ygv r s
 | _,_=>false
theorem Xvs:∀(x y:List (D×V)),Ygv x y=true->x=y
 | [],y,h=>by cases y<;>simp[Ygv]at h; rfl
 | (k,x)::r,y,h=>by
  cases y<;>simp only[Ygv,Bool.false_eq_true,Bool.and_eq_true]at h
  rw[D.eqb_eq _ _ h.1.1,V.eqb_eq _ _ h.1.2,Xvs _ _ h.2]
def X5s:Xf->Xf->Bool
 | [],[]=>true
 | (k,x)::r,(j,y)::s=>Nat.beq k j&&V.eqb x y&&X5s r s
 | _,_=>false
theorem Xcc:∀(x y:Xf),X5s x y=true->x=y
 | [],y,h=>by cases y<;>simp[X5s]at h; rfl
 | (k,x)::r,y,h=>by
  cases y<;>simp only[X5s,Bool.false_eq_true,Bool.and_eq_true]at h
  rw[Nat.eq_of_beq_eq_true h.1.1,V.eqb_eq _ _ h.1.2,Xcc _ _ h.2]
def LSt.eqb:LSt->LSt->Bool
 | .ready,.ready=>true
 | .busy,.busy=>true
 | .ret,.ret=>true
 | .exit n,.exit m=>Nat.beq n m
 | _,_=>false
theorem LSt.eqb_eq (x y:LSt)(h:LSt.eqb x y=true):x=y:=by
 cases x<;>cases y<;>simp only[LSt.eqb,Bool.false_eq_true]at h
 ·rfl
 ·rfl
 ·rfl
 ·rw[Nat.eq_of_beq_eq_true h]
def Ob.eqb:Ob->Ob->Bool
 | .box E t,.box F u=>Nat.beq E F&&V.eqb t u
 | .arr E z a,.arr F y b=>Nat.beq E F&&Nat.beq z y&&D.eqbs a b
 | .vec E z a,.vec F y b=>Nat.beq E F&&Nat.beq z y&&V.eqbs a b
 | .map a,.map b=>Ygv a b
 | .gone,.gone=>true
 | .it a n l,.it b m k=>decide (a=b)&&Nat.beq n m&&decide (l=k)
 | .lp t s l,.lp u r k=>Nat.beq t u&&LSt.eqb s r&&X5s l k
 | _,_=>false
theorem Ob.eqb_eq (x y:Ob)(h:Ob.eqb x y=true):x=y:=by
 cases x<;>cases y<;>simp only[Ob.eqb,Bool.false_eq_true,Bool.and_eq_true]at h
 ·rw[Nat.eq_of_beq_eq_true h.1,V.eqb_eq _ _ h.2]
 ·rw[Nat.eq_of_beq_eq_true h.1.1,Nat.eq_of_beq_eq_true h.1.2,D.eqbs_eq _ _ h.2]
 ·rw[Nat.eq_of_beq_eq_true h.1.1,Nat.eq_of_beq_eq_true h.1.2,V.eqbs_eq _ _ h.2]
 ·rw[Xvs _ _ h]
 ·rfl
 ·rw[Nat.eq_of_beq_eq_true h.1.1,LSt.eqb_eq _ _ h.1.2,Xcc _ _ h.2]
 ·simp only[decide_eq_true_eq]at h
  rw[h.1.1,Nat.eq_of_beq_eq_true h.1.2,h.2]
def Xz9:Xa->Xa->Bool
 | [],[]=>true
 | (k,x)::r,(j,y)::s=>Nat.beq k j&&Ob.eqb x y&&Xz9 r s
 | _,_=>false
theorem Qb:∀(x y:Xa),Xz9 x y=true->x=y
 | [],y,h=>by cases y<;>simp[Xz9]at h; rfl
 | (k,x)::r,y,h=>by
  cases y<;>simp only[Xz9,Bool.false_eq_true,Bool.and_eq_true]at h
  rw[Nat.eq_of_beq_eq_true h.1.1,Ob.eqb_eq _ _ h.1.2,Qb _ _ h.2]
def Rq.eqb:Rq->Rq->Bool
 | .ok a b,.ok c d=>X5s a c&&Xz9 b d
 | .pn v a b,.pn u c d=>V.eqb v u&&X5s a c&&Xz9 b d
 | _,_=>false
theorem Rq.eqb_eq (x y:Rq)(h:Rq.eqb x y=true):x=y:=by
 cases x<;>cases y<;>simp only[Rq.eqb,Bool.false_eq_true,Bool.and_eq_true]at h
 ·rw[Xcc _ _ h.1,Qb _ _ h.2]
 ·rw[V.eqb_eq _ _ h.1.1,Xcc _ _ h.1.2,Qb _ _ h.2]
def X8b (x y:Rq):Rq:=bif Rq.eqb x y then x else .no
theorem X09 {K:Xf->Xa->Prop}{Pn:V->Xf->Xa->Prop}{x y:Rq}(h:(X8b x y).to K Pn):x.to K Pn/\y.to K Pn:=by
 unfold X8b at h
 cases hb:Rq.eqb x y with
 | false=>rw[hb]at h; exact h.elim
 | true=>
  rw[hb]at h
  have:=Rq.eqb_eq x y hb
  subst this
  exact⟨h,h⟩
def itR (R:Fns)(k:Xf->Xa->Rq):It->Xf->Xa->Rq
 | .op d i,sl,ob=>Xrz R sl ob d i k
 | .gop s want d i,sl,ob=>match look sl s with
  | .d (.bool b)=>bif b==want then Xrz R ((s,.d (.bool want))::sl) ob d i k else k (put ((s,.d (.bool (!want)))::sl) d .undef) ob
  | .undef=>k (put sl d .undef) ob
  | _=>.no
def Xwe (keep pk:List Nat):Rq->Rq
 | .ok sl ob=>.ok (Xk sl keep) ob
 | .pn v sl ob=>.pn v (Xk sl pk) ob
 | .no=>.no
mutual
def X7c (R:Fns)(keep pk:List Nat):Ot->Xf->Xa->Rq
 | .done,sl,ob=>.ok sl ob
 | .one _ x r,sl,ob=>itR R (X7c R keep pk r) x sl ob
 | .br l,sl,ob=>Xya R keep pk l sl ob
def Xya (R:Fns)(keep pk:List Nat):Ots->Xf->Xa->Rq
 | .nil,_,_=>.no
 | .cons _ x r .nil,sl,ob=>Xwe keep pk (itR R (X7c R keep pk r) x sl ob)
 | .cons _ x r l,sl,ob=>X8b (Xwe keep pk (itR R (X7c R keep pk r) x sl ob)) (Xya R keep pk l sl ob)
end

abbrev Rs:=Option (AExit×Xf×Xa)
def Rs.to (Q:Yx):Rs->Prop
 | some (e,sl,ob)=>Q e sl ob
 | none=>False
def Y9u (keep:List Nat)(n:Nat)(sl:Xf)(ob:Xa):Option (Xf×Xa):=
 let kp:=Yu8 (Xk sl keep)++Xv3 ob
 bif Wg (Xd n kp) (Xk sl keep)&&Xh (Xd n kp) (Y4 (Xd n kp) ob) then some (Xk sl keep,Y4 (Xd n kp) ob) else none
def X4d (keep:List Nat)(body:Xf->Xa->Rs):Nat->Xf->Xa->Rs
 | 0,_,_=>none
 | n+1,sl,ob=>match body sl ob with
  | some (.normal,sl',ob')=>match Y9u keep (Xb ob) sl' ob' with
   | some (sl2,ob2)=>X4d keep body n sl2 ob2
   | none=>none
  | r=>r
theorem Xeb {sl:Xf}:∀(l:List Nat) (k:Nat),k∈l->look (Xk sl l) k=look sl k
 | j::r,k,h=>by
  simp only[Xk,look]
  split
  ·rename_i e; rw[e]
  ·rename_i e
   exact Xeb r k ((List.mem_cons.1 h).resolve_left (fun e2=>e e2.symm))
theorem Xiy {sl:Xf}{l:List Nat}:∀(m:List Nat),(∀k∈m,k∈l)->Xk (Xk sl l) m=Xk sl m
 | [],_=>rfl
 | k::r,h=>by
  simp only[Xk,Xeb l k (h k (by simp)),Xiy r (fun j hj=>h j (by simp[hj]))]
theorem Xd9 (sl:Xf)(l:List Nat):Xk (Xk sl l) l=Xk sl l:=Xiy l fun _ h=>h
theorem Xo9 {Q:Yx}{keep pk:List Nat}{r:Rq}(h:(Xwe keep pk r).to (fun sl ob=>Q .normal (Xk sl keep) ob) (fun v sl ob=>Q (.panic v) (Xk sl pk) ob)):r.to (fun sl ob=>Q .normal (Xk sl keep) ob) (fun v sl ob=>Q (.panic v) (Xk sl pk) ob):=by
 cases r with
 | ok sl ob=>simp only[Xwe,Rq.to,Xd9]at h⊢; exact h
 | pn v sl ob=>simp only[Xwe,Rq.to,Xd9]at h⊢; exact h
 | no=>exact h.elim
theorem Ub {P:Prg}{R:Fns}(hR:R.ok P){k:Xf->Xa->Rq}{k' K:Xf->Xa->Prop}{Pn:V->Xf->Xa->Prop}(hk:∀sl ob,(k sl ob).to K Pn->k' sl ob):∀(x:It) (sl:Xf) (ob:Xa),(itR R k x sl ob).to K Pn->itK P k' Pn x sl ob
 | .op d i,sl,ob,h=>Vy hR hk h
 | .gop s want d i,sl,ob,h=>by
  simp only[itR]at h
  simp only[itK]
  split at h
  ·rename_i b hb
   rw[hb]
   simp only[gdK]
   rw[Bool.cond_eq_ite]at h
   split at h
   ·rename_i e
    have e:b=want:=by simpa using e
    refine⟨fun _=>Vy hR hk h,fun e2=>?_⟩
    rw[e]at e2; cases want<;>cases e2
   ·rename_i e
    have e:¬b=want:=by simpa using e
    exact⟨fun e2=>(e e2).elim,fun _=>hk _ _ h⟩
  ·rename_i hb
   rw[hb]
   exact hk _ _ h
  ·exact h.elim
mutual
theorem Uq {P:Prg}{R:Fns}(hR:R.ok P){Q:Yx}{keep pk:List Nat}:∀(t:Ot) (sl:Xf) (ob:Xa),(X7c R keep pk t sl ob).to (fun sl ob=>Q .normal (Xk sl keep) ob) (fun v sl ob=>Q (.panic v) (Xk sl pk) ob)->owp P (fun sl ob=>Q .normal (Xk sl keep) ob) (fun v sl ob=>Q (.panic v) (Xk sl pk) ob) t sl ob
 | .done,sl,ob,h=>by simp only[X7c]at h; simp only[owp]; exact h
 | .one _ x r,sl,ob,h=>by
  simp only[X7c]at h
  simp only[owp]
  exact Ub hR (fun sl ob h=>Uq hR r sl ob h) x sl ob h
 | .br l,sl,ob,h=>by simp only[X7c]at h; simp only[owp]; exact Xct hR l sl ob h
theorem Xct {P:Prg}{R:Fns}(hR:R.ok P){Q:Yx}{keep pk:List Nat}:∀(l:Ots) (sl:Xf) (ob:Xa),(Xya R keep pk l sl ob).to (fun sl ob=>Q .normal (Xk sl keep) ob) (fun v sl ob=>Q (.panic v) (Xk sl pk) ob)->Xdi P (fun sl ob=>Q .normal (Xk sl keep) ob) (fun v sl ob=>Q (.panic v) (Xk sl pk) ob) l sl ob
 | .nil,sl,ob,h=>by simp only[Xdi]
 | .cons _ x r .nil,sl,ob,h=>by
  simp only[Xya]at h
  simp only[Xdi,and_true]
  exact Ub hR (fun sl ob h=>Uq hR r sl ob h) x sl ob (Xo9 h)
 | .cons _ x r (.cons i y s l),sl,ob,h=>by
  simp only[Xya]at h
  rw[Xdi]
  obtain⟨h1,h2⟩:=X09 h
  exact⟨Ub hR (fun sl ob h=>Uq hR r sl ob h) x sl ob (Xo9 h1),Xct hR (.cons i y s l) sl ob h2⟩
end
def Y9j (slk:Xf)(id:Nat)(ob:Xa):Option Ob->Rs
 | some (.lp _ .ready _)=>some (.normal,slk,setO ob id .gone)
 | some (.lp _ .ret _)=>some (.ret,slk,setO ob id .gone)
 | some (.lp _ (.exit n) _)=>some (.exit n,slk,setO ob id .gone)
 | _=>none
def Ysx (slk:Xf)(id:Nat):Option (Out×Xa)->Rs
 | some (.ret _,ob)=>Y9j slk id ob (Xe ob id)
 | _=>none
def rgR (R:Fns)(tag:Nat)(slk:Xf)(ob:Xa):V->Rs
 | .fn f fi ca=>bif R.ca f then Ysx slk (Xb ob) (R.call f (fi++[.hd true (Xb ob)]++ca) ((Xb ob,.lp tag .ready slk)::ob)) else none
 | .d (.fn f fi ca)=>bif R.ca f then Ysx slk (Xb ob) (R.call f (fi.map .d++[.hd true (Xb ob)]++ca.map .d) ((Xb ob,.lp tag .ready slk)::ob)) else none
 | _=>none
def S.loops (P:Prg):S->Prop
 | .seq a b=>a.loops P/\b.loops P
 | .cond _ a b=>a.loops P/\b.loops P
 | .block _ a=>a.loops P
 | .loop _ a=>a.loops P
 | .rgf tag ps _ x y _=>Vc P tag ps x y
 | _=>True
theorem S.loops_noR {P:Prg}:∀s:S,s.noR=true->s.loops P
 | .seq a b,h=>by simp only[S.noR,Bool.and_eq_true]at h; exact⟨S.loops_noR a h.1,S.loops_noR b h.2⟩
 | .cond _ a b,h=>by simp only[S.noR,Bool.and_eq_true]at h; exact⟨S.loops_noR a h.1,S.loops_noR b h.2⟩
 | .block _ a,h=>S.loops_noR a h
 | .loop _ a,h=>S.loops_noR a h
 | .rgf _ _ _ _ _ _,h=>by simp[S.noR]at h
 | .rg _ _ _ _,_ | .rgT _ _ _ _,_ | .skip,_ | .exit _,_ | .ret,_=>trivial
theorem Xyu {R:Fns}{P:Prg}{f:Nat}{vs:List V}{ob0:Xa}{slk:Xf}{id:Nat}{Q:Yx}(hR:R.ok P)(h:(Ysx slk id (R.call f vs ob0)).to Q):ACall P f vs ob0 (rgQ Q slk id):=by
 unfold Ysx at h
 split at h
 ·rename_i v b hc
  refine (hR.call f vs ob0 _ _ hc).mono fun o b' ⟨e1,e2⟩=>?_
  subst e1; subst e2
  simp only[rgQ]
  generalize Xe b' id=z at h⊢
  unfold Y9j at h; split at h
  ·exact h
  ·exact h
  ·exact h
  ·exact h.elim
 ·exact h.elim
def S.run (R:Fns)(L:Nat):S->Xf->Xa->Rs
 | .rg _ l keep pk,sl,ob=>match X4v R l sl ob with
  | .ok sl' ob'=>some (.normal,Xk sl' keep,ob')
  | .pn v sl' ob'=>some (.panic v,Xk sl' pk,ob')
  | .no=>none
 | .rgT _ t keep pk,sl,ob=>match X7c R keep pk t sl ob with
  | .ok sl' ob'=>some (.normal,Xk sl' keep,ob')
  | .pn v sl' ob'=>some (.panic v,Xk sl' pk,ob')
  | .no=>none
 | .seq a b,sl,ob=>match S.run R L a sl ob with
  | some (.normal,sl',ob')=>S.run R L b sl' ob'
  | r=>r
 | .skip,sl,ob=>some (.normal,sl,ob)
 | .cond c a b,sl,ob=>match c.ev sl with
  | .d (.bool t)=>bif t then S.run R L a sl ob else S.run R L b sl ob
  | _=>none
 | .block n a,sl,ob=>match S.run R L a sl ob with
  | some (.exit m,sl',ob')=>bif decide (m=n) then some (.normal,sl',ob') else some (.exit m,sl',ob')
  | r=>r
 | .loop keep a,sl,ob=>X4d keep (S.run R L a) L (Xk sl keep) ob
 | .exit n,sl,ob=>some (.exit n,sl,ob)
 | .ret,sl,ob=>some (.ret,sl,ob)
 | .rgf tag _ g _ _ keep,sl,ob=>rgR R tag (Xk sl keep) ob (g.ev sl)

theorem S.run_sound {P:Prg}{R:Fns}(hR:R.ok P){L:Nat}:∀(s:S) (Q:Yx) (sl:Xf) (ob:Xa),s.loops P->(s.run R L sl ob).to Q->cwp P s Q sl ob
 | .rg _ l keep pk,Q,sl,ob,hl,h=>by
  simp only[S.run]at h
  simp only[cwp]
  refine Zy hR _ _ _ ?_
  split at h
  ·rename_i e; rw[e]; exact h
  ·rename_i e; rw[e]; exact h
  ·exact h.elim
 | .rgT _ t keep pk,Q,sl,ob,hl,h=>by
  simp only[S.run]at h
  simp only[cwp]
  refine Uq hR _ _ _ ?_
  split at h
  ·rename_i e; rw[e]; exact h
  ·rename_i e; rw[e]; exact h
  ·exact h.elim
 | .seq a b,Q,sl,ob,hl,h=>by
  simp only[S.run]at h
  simp only[cwp]
  refine S.run_sound (L:=L) hR a _ sl ob hl.1 ?_
  split at h
  ·rename_i e; rw[e]; exact S.run_sound (L:=L) hR b Q _ _ hl.2 h
  ·rename_i hne
   revert h hne
   generalize S.run R L a sl ob=r
   intro hne h
   cases r with
   | none=>exact h.elim
   | some x=>
    obtain⟨e,sl',ob'⟩:=x
    cases e with
    | normal=>exact (hne _ _ rfl).elim
    | exit n=>exact h
    | ret=>exact h
    | panic v=>exact h
 | .skip,Q,sl,ob,hl,h=>h
 | .cond c a b,Q,sl,ob,hl,h=>by
  simp only[S.run]at h
  simp only[cwp]
  split at h
  ·rename_i t ht
   rw[ht]
   cases t
   ·exact⟨fun e=>(by cases e),fun _=>S.run_sound (L:=L) hR b Q sl ob hl.2 h⟩
   ·exact⟨fun _=>S.run_sound (L:=L) hR a Q sl ob hl.1 h,fun e=>(by cases e)⟩
  ·exact h.elim
 | .block n a,Q,sl,ob,hl,h=>by
  simp only[S.run]at h
  simp only[cwp]
  refine S.run_sound (L:=L) hR a _ sl ob hl ?_
  split at h
  ·rename_i m sl' ob' e
   rw[e]
   rw[Bool.cond_eq_ite]at h
   simp only[Rs.to,Yl]
   by_cases hm:m=n
   ·simp only[hm,decide_true,if_true]at h⊢; exact h
   ·simp only[hm,decide_false,Bool.false_eq_true,if_false]at h⊢; exact h
  ·rename_i hne
   revert h hne
   generalize S.run R L a sl ob=r
   intro hne h
   cases r with
   | none=>exact h.elim
   | some x=>
    obtain⟨e,sl',ob'⟩:=x
    cases e with
    | normal=>exact h
    | exit n=>exact (hne _ _ _ rfl).elim
    | ret=>exact h
    | panic v=>exact h
 | .loop keep a,Q,sl,ob,hl,h=>by
  simp only[S.run]at h
  simp only[cwp]
  refine ALoop.of (ι:=Nat×Xf×Xa) (fun x=>x.2.1) (fun x=>x.2.2) (fun x=>(X4d keep (S.run R L a) x.1 x.2.1 x.2.2).to Q) (fun x=>x.1) (L,Xk sl keep,ob) h rfl rfl ?_
  rintro⟨n,sl1,ob1⟩ h1
  refine S.run_sound (L:=L) hR a _ _ _ hl ?_
  simp only at h1⊢
  cases n with
  | zero=>exact h1.elim
  | succ n=>
   simp only[X4d]at h1
   split at h1
   ·rename_i sl' ob' e
    rw[e]
    split at h1
    ·rename_i sl2 ob2 e2
     unfold Y9u at e2
     rw[Bool.cond_eq_ite]at e2
     split at e2
     ·rename_i hc
      simp only[Bool.and_eq_true]at hc
      cases e2
      exact⟨_,hc.1,hc.2,(n,_,_),h1,Nat.lt_succ_self n,rfl,rfl⟩
     ·cases e2
    ·exact h1.elim
   ·rename_i hne
    revert h1 hne
    generalize S.run R L a sl1 ob1=r
    intro hne h1
    cases r with
    | none=>exact h1.elim
    | some x=>
     obtain⟨e,sl',ob'⟩:=x
     cases e with
     | normal=>exact (hne _ _ rfl).elim
     | exit n=>exact h1
     | ret=>exact h1
     | panic v=>exact h1
 | .exit n,Q,sl,ob,hl,h=>h
 | .ret,Q,sl,ob,hl,h=>h
 | .rgf tag ps g x y keep,Q,sl,ob,hl,h=>by
  simp only[S.run]at h
  simp only[cwp]
  refine⟨hl,?_⟩
  generalize g.ev sl=v at h⊢
  unfold rgR at h; split at h
  ·rw[Bool.cond_eq_ite]at h
   split at h
   ·rename_i hc; exact⟨hR.ca _ hc,Xyu hR h⟩
   ·exact h.elim
  ·rw[Bool.cond_eq_ite]at h
   split at h
   ·rename_i hc; exact⟨hR.ca _ hc,Xyu hR h⟩
   ·exact h.elim
  ·exact h.elim

def Yrg (id n:Nat)(st:LSt)(ob:Xa)(o:Out):Option Ob->Option (Out×Xa)
 | some (.lp tag _ slk)=>
  let b:=setO ob id (.lp tag st slk)
  let kp:=Xv3 b
  bif Xh (Xd n kp) (Y4 (Xd n kp) b) then some (o,Y4 (Xd n kp) b) else none
 | _=>none
def Y9i (id n:Nat):Rs->Option (Out×Xa)
 | some (.normal,_,ob)=>Yrg id n .ready ob (.ret (.d (.bool true))) (Xe ob id)
 | some (.ret,_,ob)=>Yrg id n .ret ob (.ret (.d (.bool false))) (Xe ob id)
 | some (.exit m,_,ob)=>Yrg id n (.exit m) ob (.ret (.d (.bool false))) (Xe ob id)
 | _=>none
def Y9h (R:Fns)(L:Nat)(y:S)(id n:Nat)(sl:Xf)(ob:Xa):Option Ob->Option (Out×Xa)
 | some (.lp tag .ready slk)=>Y9i id n (y.run R L sl (setO ob id (.lp tag .busy slk)))
 | _=>none
def ydR (R:Fns)(L:Nat)(lt:Nat->Option (List Nat×S×S))(id:Nat)(vs:List V)(ob:Xa):Option (Out×Xa):=match Xe ob id with
 | some (.lp tag .ready slk)=>(match lt tag with
  | some (ps,x,y)=>bif Nat.beq vs.length ps.length then
    (match x.run R L (J1 slk ps vs) ob with
     | some (.normal,sl,ob')=>Y9h R L y id (Xb ob) sl ob' (Xe ob' id)
     | _=>none)
   else none
  | none=>none)
 | _=>none
theorem Xz6 {P:Prg}(hm:P.p.follows .mixedOrders=true){R:Fns}(hR:R.ok P){L:Nat}{lt:Nat->Option (List Nat×S×S)}(hlt:∀tag ps x y,lt tag=some (ps,x,y)->Vc P tag ps x y/\x.noR=true/\y.noR=true){id:Nat}{vs:List V}{ob b:Xa}{o:Out}(h:ydR R L lt id vs ob=some (o,b)) :
  AYield P id vs ob fun o' b'=>o'=o/\b'=b:=by
 unfold ydR at h
 split at h
 ·rename_i tag slk hl
  split at h
  ·rename_i ps x y ht
   obtain⟨hL,hnx,hny⟩:=hlt _ _ _ _ ht
   rw[Bool.cond_eq_ite]at h
   split at h
   ·rename_i hlen
    refine AYield.of hm hL hl (Nat.eq_of_beq_eq_true hlen) (S.run_sound (L:=L) hR x _ _ _ (S.loops_noR x hnx) ?_)
    split at h
    ·rename_i sl ob' e
     rw[e]
     simp only[Rs.to,rdA]
     generalize Xe ob' id=z at h⊢
     unfold Y9h at h; split at h
     ·rename_i tg sk
      simp only[rdB]
      refine S.run_sound (L:=L) hR y _ _ _ (S.loops_noR y hny) ?_
      generalize y.run R L sl (setO ob' id (.lp tg .busy sk))=w at h⊢
      have fin:∀{st:LSt} {q:Xa} {v:Bool} {u:Option Ob},Yrg id (Xb ob) st q (.ret (.d (.bool v))) u=some (o,b)->rdE id (Xb ob) st q (fun b'=>(Out.ret (.d (.bool v))=o)/\b'=b) u:=by
       intro st q v u h
       unfold Yrg at h; split at h
       ·simp only at h
        rw[Bool.cond_eq_ite]at h
        split at h
        ·rename_i hc
         simp only[Option.some.injEq,Prod.mk.injEq]at h
         exact⟨_,rfl,hc,h.1,h.2⟩
        ·cases h
       ·cases h
      unfold Y9i at h; split at h
      ·exact fin h
      ·exact fin h
      ·exact fin h
      ·cases h
     ·cases h
    ·cases h
   ·cases h
  ·cases h
 ·cases h
end Go.Ab
namespace Go.Ab
open Go

def Y4b (x y:Xf×Xa):Bool:=X5s x.1 y.1&&Xz9 x.2 y.2
def X3s (x:Xf×Xa):List (Xf×Xa)->Bool
 | []=>false
 | y::r=>bif Y4b x y then true else X3s x r
def Xr1:List (Xf×Xa)->List (Xf×Xa)->List (Xf×Xa)
 | [],l=>l
 | x::r,l=>bif X3s x l then Xr1 r l else x::Xr1 r l
theorem Xio {x:Xf×Xa}:∀{l:List (Xf×Xa)},X3s x l=true->x∈l
 | [],h=>by cases h
 | y::r,h=>by
  simp only[X3s,Bool.cond_eq_ite]at h
  split at h
  ·rename_i e
   simp only[Y4b,Bool.and_eq_true]at e
   have:x=y:=Prod.ext (Xcc _ _ e.1) (Qb _ _ e.2)
   exact this▸List.mem_cons_self
  ·exact List.mem_cons_of_mem _ (Xio h)
theorem Uk {y:Xf×Xa}:∀(a l:List (Xf×Xa)),(y∈a\/y∈l)->y∈Xr1 a l
 | [],l,h=>by simpa[Xr1]using h
 | x::r,l,h=>by
  simp only[Xr1,Bool.cond_eq_ite]
  split
  ·rename_i e
   refine Uk r l ?_
   rcases h with h | h
   ·rcases List.mem_cons.1 h with h | h
    ·exact .inr (h▸Xio e)
    ·exact .inl h
   ·exact .inr h
  ·rcases h with h | h
   ·rcases List.mem_cons.1 h with h | h
    ·exact h▸List.mem_cons_self
    ·exact List.mem_cons_of_mem _ (Uk r l (.inl h))
   ·exact List.mem_cons_of_mem _ (Uk r l (.inr h))

def Y3b:Option (List (Xf×Xa))->Option (List (Xf×Xa))->Option (List (Xf×Xa))
 | some a,some b=>some (Xr1 a b)
 | _,_=>none
def Y23 (k:Xf->Xa->Option (List (Xf×Xa))):Rq->Option (List (Xf×Xa))
 | .ok sl ob=>k sl ob
 | _=>none
mutual
def Xgt (R:Fns)(keep:List Nat):Ot->Xf->Xa->Option (List (Xf×Xa))
 | .done,sl,ob=>some [(Xk sl keep,ob)]
 | .one _ x r,sl,ob=>Y23 (Xgt R keep r) (itR R .ok x sl ob)
 | .br l,sl,ob=>Xpx R keep l sl ob
def Xpx (R:Fns)(keep:List Nat):Ots->Xf->Xa->Option (List (Xf×Xa))
 | .nil,_,_=>some []
 | .cons _ x r l,sl,ob=>Y3b (Y23 (Xgt R keep r) (itR R .ok x sl ob)) (Xpx R keep l sl ob)
end
def Xeu (Q:Xf->Xa->Prop)(o:Option (List (Xf×Xa))):Prop:=∃l,o=some l/\∀r∈l,Q r.1 r.2
theorem X48 {Q:Xf->Xa->Prop}{a b:Option (List (Xf×Xa))}(h:Xeu Q (Y3b a b)):Xeu Q a/\Xeu Q b:=by
 obtain⟨l,e,h⟩:=h
 cases a<;>cases b<;>simp only[Y3b,Option.some.injEq,reduceCtorEq]at e
 subst e
 exact⟨⟨_,rfl,fun r hr=>h r (Uk _ _ (.inl hr))⟩,⟨_,rfl,fun r hr=>h r (Uk _ _ (.inr hr))⟩⟩
theorem Xx9 {Q:Xf->Xa->Prop}{Pn:V->Xf->Xa->Prop}{k:Xf->Xa->Option (List (Xf×Xa))}{q:Rq}(h:Xeu Q (Y23 k q)):q.to (fun sl ob=>Xeu Q (k sl ob)) Pn:=by
 cases q with
 | ok sl ob=>exact h
 | pn v sl ob=>obtain⟨l,e,_⟩:=h; cases e
 | no=>obtain⟨l,e,_⟩:=h; cases e
mutual
theorem Qk {P:Prg}{R:Fns}(hR:R.ok P){Q:Xf->Xa->Prop}{Pn:V->Xf->Xa->Prop}{keep:List Nat}:∀(t:Ot) (sl:Xf) (ob:Xa),Xeu Q (Xgt R keep t sl ob)->owp P (fun sl ob=>Q (Xk sl keep) ob) Pn t sl ob
 | .done,sl,ob,h=>by
  obtain⟨l,e,h⟩:=h
  simp only[Xgt,Option.some.injEq]at e
  subst e
  exact h _ (List.mem_singleton.2 rfl)
 | .one i x r,sl,ob,h=>by
  simp only[Xgt]at h
  rw[owp]
  exact Ub (k:=.ok) (K:=fun sl ob=>Xeu Q (Xgt R keep r sl ob)) hR (fun sl ob h=>Qk hR r sl ob h) x sl ob (Xx9 h)
 | .br l,sl,ob,h=>by
  simp only[Xgt]at h
  rw[owp]
  exact Xa1 hR l sl ob h
theorem Xa1 {P:Prg}{R:Fns}(hR:R.ok P){Q:Xf->Xa->Prop}{Pn:V->Xf->Xa->Prop}{keep:List Nat}:∀(l:Ots) (sl:Xf) (ob:Xa),Xeu Q (Xpx R keep l sl ob)->Xdi P (fun sl ob=>Q (Xk sl keep) ob) Pn l sl ob
 | .nil,sl,ob,h=>by rw[Xdi]; trivial
 | .cons i x r l,sl,ob,h=>by
  simp only[Xpx]at h
  rw[Xdi]
  obtain⟨h1,h2⟩:=X48 h
  exact⟨Ub (k:=.ok) (K:=fun sl ob=>Xeu Q (Xgt R keep r sl ob)) hR (fun sl ob h=>Qk hR r sl ob h) x sl ob (Xx9 h1),Xa1 hR l sl ob h2⟩
end

abbrev Rm:=Option (List (AExit×Xf×Xa))
def Rm.to (Q:Yx)(r:Rm):Prop:=∃l,r=some l/\∀x∈l,Q x.1 x.2.1 x.2.2
def Yup:Rm->Rm->Rm
 | some a,some b=>some (a++b)
 | _,_=>none
def X08 (f:AExit×Xf×Xa->Rm):List (AExit×Xf×Xa)->Rm
 | []=>some []
 | [x]=>f x
 | x::r=>Yup (f x) (X08 f r)
theorem X8u {Q:Yx}{a b:Rm}(h:(Yup a b).to Q):a.to Q/\b.to Q:=by
 obtain⟨l,e,h⟩:=h
 cases a<;>cases b<;>simp only[Yup,Option.some.injEq,reduceCtorEq]at e
 subst e
 exact⟨⟨_,rfl,fun x hx=>h x (List.mem_append_left _ hx)⟩,⟨_,rfl,fun x hx=>h x (List.mem_append_right _ hx)⟩⟩
theorem Xey {Q:Yx}{f:AExit×Xf×Xa->Rm}:∀{l:List (AExit×Xf×Xa)},(X08 f l).to Q->∀x∈l,(f x).to Q
 | [],_,x,hx=>by cases hx
 | [y],h,x,hx=>by
  rw[List.mem_singleton.1 hx]
  exact h
 | y::z::r,h,x,hx=>by
  obtain⟨h1,h2⟩:=X8u h
  rcases List.mem_cons.1 hx with e | hx
  ·exact e▸h1
  ·exact Xey h2 x hx
def Y24:Rs->Rm
 | some x=>some [x]
 | none=>none
def Zhq (f:Xf->Xa->Rm)(x:AExit×Xf×Xa):Rm:=match x with
 | (.normal,sl,ob)=>f sl ob
 | x=>some [x]
def Y3m (n:Nat)(x:AExit×Xf×Xa):Rm:=match x with
 | (.exit m,sl,ob)=>bif decide (m=n) then some [(.normal,sl,ob)] else some [(.exit m,sl,ob)]
 | x=>some [x]
def S.runM (R:Fns)(L:Nat):S->Xf->Xa->Rm
 | .rgT _ t keep _,sl,ob=>(Xgt R keep t sl ob).map fun l=>l.map fun x=>(.normal,x.1,x.2)
 | .seq a b,sl,ob=>match S.runM R L a sl ob with
  | some l=>X08 (Zhq (S.runM R L b)) l
  | none=>none
 | .cond c a b,sl,ob=>match c.ev sl with
  | .d (.bool t)=>bif t then S.runM R L a sl ob else S.runM R L b sl ob
  | _=>none
 | .block n a,sl,ob=>match S.runM R L a sl ob with
  | some l=>X08 (Y3m n) l
  | none=>none
 | s,sl,ob=>Y24 (s.run R L sl ob)
theorem Xag {Q:Yx}{r:Rs}(h:(Y24 r).to Q):r.to Q:=by
 obtain⟨l,e,h⟩:=h
 cases r<;>simp only[Y24,Option.some.injEq,reduceCtorEq]at e
 subst e
 exact h _ (List.mem_singleton.2 rfl)
theorem Rm.mono {Q Q':Yx}{r:Rm}(h:r.to Q)(hm:∀e s o,Q e s o->Q' e s o):r.to Q':=by
 obtain⟨l,e,h⟩:=h
 exact⟨l,e,fun x hx=>hm _ _ _ (h x hx)⟩
theorem S.runM_sound {P:Prg}{R:Fns}(hR:R.ok P){L:Nat}:∀(s:S) (Q:Yx) (sl:Xf) (ob:Xa),s.loops P->(s.runM R L sl ob).to Q->cwp P s Q sl ob
 | .rgT _ t keep pk,Q,sl,ob,hl,h=>by
  simp only[S.runM]at h
  obtain⟨l,e,h⟩:=h
  rw[Option.map_eq_some_iff]at e
  obtain⟨m,e1,rfl⟩:=e
  simp only[cwp]
  exact Qk hR t sl ob ⟨m,e1,fun r hr=>h (.normal,r.1,r.2) (List.mem_map.2 ⟨r,hr,rfl⟩)⟩
 | .seq a b,Q,sl,ob,hl,h=>by
  simp only[S.runM]at h
  simp only[cwp]
  refine S.runM_sound (L:=L) hR a _ sl ob hl.1 ?_
  split at h
  ·rename_i l e
   rw[e]
   refine⟨l,rfl,fun x hx=>?_⟩
   have h1:=Xey h x hx
   obtain⟨ae,s1,o1⟩:=x
   cases ae with
   | normal=>exact S.runM_sound (L:=L) hR b Q s1 o1 hl.2 h1
   | exit n=>obtain⟨_,e,h⟩:=h1; cases e; exact h _ (List.mem_singleton.2 rfl)
   | ret=>obtain⟨_,e,h⟩:=h1; cases e; exact h _ (List.mem_singleton.2 rfl)
   | panic v=>obtain⟨_,e,h⟩:=h1; cases e; exact h _ (List.mem_singleton.2 rfl)
  ·obtain⟨_,e,_⟩:=h; cases e
 | .cond c a b,Q,sl,ob,hl,h=>by
  simp only[S.runM]at h
  simp only[cwp]
  split at h
  ·rename_i t ht
   rw[ht]
   cases t
   ·exact⟨fun e=>(by cases e),fun _=>S.runM_sound (L:=L) hR b Q sl ob hl.2 h⟩
   ·exact⟨fun _=>S.runM_sound (L:=L) hR a Q sl ob hl.1 h,fun e=>(by cases e)⟩
  ·obtain⟨_,e,_⟩:=h; cases e
 | .block n a,Q,sl,ob,hl,h=>by
  simp only[S.runM]at h
  simp only[cwp]
  refine S.runM_sound (L:=L) hR a _ sl ob hl ?_
  split at h
  ·rename_i l e
   rw[e]
   refine⟨l,rfl,fun x hx=>?_⟩
   have h1:=Xey h x hx
   obtain⟨ae,s1,o1⟩:=x
   cases ae with
   | normal=>obtain⟨_,e,h⟩:=h1; cases e; exact h _ (List.mem_singleton.2 rfl)
   | exit m=>
    simp only[Y3m,Bool.cond_eq_ite]at h1
    simp only[Yl]
    by_cases hm:m=n
    ·simp only[hm,decide_true,if_true]at h1⊢; obtain⟨_,e,h⟩:=h1; cases e; exact h _ (List.mem_singleton.2 rfl)
    ·simp only[hm,decide_false,Bool.false_eq_true,if_false]at h1⊢; obtain⟨_,e,h⟩:=h1; cases e; exact h _ (List.mem_singleton.2 rfl)
   | ret=>obtain⟨_,e,h⟩:=h1; cases e; exact h _ (List.mem_singleton.2 rfl)
   | panic v=>obtain⟨_,e,h⟩:=h1; cases e; exact h _ (List.mem_singleton.2 rfl)
  ·obtain⟨_,e,_⟩:=h; cases e
 | .rg o l k p,Q,sl,ob,hl,h=>S.run_sound (L:=L) hR (.rg o l k p) Q sl ob hl (Xag h)
 | .skip,Q,sl,ob,hl,h=>S.run_sound (L:=L) hR .skip Q sl ob hl (Xag h)
 | .loop k a,Q,sl,ob,hl,h=>S.run_sound (L:=L) hR (.loop k a) Q sl ob hl (Xag h)
 | .exit n,Q,sl,ob,hl,h=>S.run_sound (L:=L) hR (.exit n) Q sl ob hl (Xag h)
 | .ret,Q,sl,ob,hl,h=>S.run_sound (L:=L) hR .ret Q sl ob hl (Xag h)
 | .rgf t ps g x y k,Q,sl,ob,hl,h=>S.run_sound (L:=L) hR (.rgf t ps g x y k) Q sl ob hl (Xag h)
def Yfv {α:Type}(eq:α->α->Bool)(f:Rs->Option α):Rm->Option α
 | none=>none
 | some l=>go l
where go:List (AExit×Xf×Xa)->Option α
 | []=>none
 | [x]=>f (some x)
 | x::r=>match f (some x),go r with
  | some a,some b=>bif eq a b then some a else none
  | _,_=>none
theorem Xth {α:Type}{eq:α->α->Bool}(he:∀x y,eq x y=true->x=y){f:Rs->Option α}{a:α}:∀{l:List (AExit×Xf×Xa)},Yfv.go eq f l=some a->∀x∈l,f (some x)=some a
 | [],h,x,hx=>by cases hx
 | [y],h,x,hx=>by rw[List.mem_singleton.1 hx]; exact h
 | y::z::r,h,x,hx=>by
  simp only[Yfv.go]at h
  split at h
  ·rename_i a' b h1 h2
   rw[Bool.cond_eq_ite]at h
   split at h
   ·rename_i e
    cases h
    rcases List.mem_cons.1 hx with e' | hx
    ·exact e'▸h1
    ·exact (he _ _ e)▸Xth he h2 x hx
   ·cases h
  ·cases h
theorem Xti {α:Type}{eq:α->α->Bool}(he:∀x y,eq x y=true->x=y){f:Rs->Option α}{a:α}{r:Rm}{Q:Yx}(h:Yfv eq f r=some a)(hf:∀x:AExit×Xf×Xa,f (some x)=some a->Rs.to Q (some x)):r.to Q:=by
 cases r with
 | none=>cases h
 | some l=>exact⟨l,rfl,fun x hx=>hf x (Xth he h x hx)⟩
def Out.eqb:Out->Out->Bool
 | .ret v,.ret u=>V.eqb v u
 | .panic v,.panic u=>V.eqb v u
 | _,_=>false
def Yu6 (x y:Out×Xa):Bool:=Out.eqb x.1 y.1&&Xz9 x.2 y.2
theorem X9i (x y:Out×Xa)(h:Yu6 x y=true):x=y:=by
 simp only[Yu6,Bool.and_eq_true]at h
 refine Prod.ext ?_ (Qb _ _ h.2)
 have h1:=h.1
 generalize x.1=a at h1⊢
 generalize y.1=b at h1⊢
 cases a<;>cases b<;>simp only[Out.eqb,Bool.false_eq_true]at h1
 ·rw[V.eqb_eq _ _ h1]
 ·rw[V.eqb_eq _ _ h1]
end Go.Ab
namespace Go.Ab
open Go

theorem X5u {p:Program}{f n:Nat}{s:S}{rs:List RV}(h:Xi p f n s rs=true):Uy p f n s rs=true:=by
 simp only[Xi,Bool.and_eq_true]at h
 exact h.1
inductive FI where
 | pl (s:S) (rs:List RV) (n:Nat)
 | df (s:FSt) (rs:List RV) (n:Nat)
 | rc (its:List It) (keep:List Nat) (k:Nat) (s:S) (n:Nat)
  | kp (s:S) (rs:List RV) (n:Nat)
  | pr (s:S) (rs:List RV) (n:Nat)
  | br (s:S) (rs:List RV) (n:Nat)
def FI.ok (p:Program)(f:Nat):FI->Bool
 | .pl s rs n=>Xi p f n s rs
 | .kp s rs n=>Xi p f n s rs
 | .pr s rs n=>Uy p f n s rs
 | .br s rs n=>Uy p f n s rs
 | .df s rs n=>Xif p f n s rs
 | .rc its _ k s n=>Xh1 p f n k its s
def FSt.noR:FSt->Bool
 | .pre s r=>s.noR&&r.noR
 | .dfr _ _ _ s=>s.noR
def FSt.loops (P:Prg):FSt->Prop
 | .pre s r=>s.loops P/\r.loops P
 | .dfr _ _ _ s=>s.loops P
theorem FSt.loops_noR {P:Prg}:∀s:FSt,s.noR=true->s.loops P
 | .pre s r,h=>by simp only[FSt.noR,Bool.and_eq_true]at h; exact⟨S.loops_noR s h.1,FSt.loops_noR r h.2⟩
 | .dfr _ _ _ s,h=>S.loops_noR s h
def FI.nr:FI->Bool
 | .pl s _ _ | .kp s _ _ | .pr s _ _ | .br s _ _=>s.noR
 | .df s _ _=>s.noR
 | .rc _ _ _ s _=>s.noR
def FI.lps (P:Prg):FI->Prop
 | .pl s _ _ | .kp s _ _ | .pr s _ _ | .br s _ _=>s.loops P
 | .df s _ _=>s.loops P
 | .rc _ _ _ s _=>s.loops P
theorem FI.lps_nr {P:Prg}(x:FI)(h:x.nr=true):x.lps P:=by
 cases x<;>first | exact S.loops_noR _ h | exact FSt.loops_noR _ h
abbrev FT:=List (Nat×FI)
def Qi:FT->Nat->Option FI
 | [],_=>none
 | (j,x)::r,k=>bif Nat.beq j k then some x else Qi r k
def FT.lps (P:Prg)(F:FT):Prop:=∀f x,Qi F f=some x->x.lps P
theorem FT.lps_nil {P:Prg}:FT.lps P []:=fun f x h=>by cases h
theorem FT.lps_cons {P:Prg}{f:Nat}{x:FI}{F:FT}(h:x.lps P)(hF:FT.lps P F):FT.lps P ((f,x)::F):=fun g y hg=>by
 simp only[Qi]at hg
 rw[Bool.cond_eq_ite]at hg
 split at hg
 ·cases hg; exact h
 ·exact hF g y hg
theorem FT.lps_nr {P:Prg}:∀(F:FT),F.all (fun e=>e.2.nr)=true->FT.lps P F
 | [],_=>FT.lps_nil
 | (f,x)::r,h=>by
  simp only[List.all_cons,Bool.and_eq_true]at h
  exact FT.lps_cons (x.lps_nr h.1) (FT.lps_nr r h.2)
def FT.ok (p:Program)(F:FT):Prop:=∀f x,Qi F f=some x->FI.ok p f x=true/\Xm p f=true
theorem FT.ok_nil {p:Program}:FT.ok p []:=fun f x h=>by cases h
theorem FT.ok_cons {p:Program}{f:Nat}{x:FI}{F:FT}(h:FI.ok p f x=true)(hc:Xm p f=true)(hF:FT.ok p F):FT.ok p ((f,x)::F):=fun g y hg=>by
 simp only[Qi]at hg
 rw[Bool.cond_eq_ite]at hg
 split at hg
 ·rename_i e
  cases hg
  have e:f=g:=Nat.eq_of_beq_eq_true e
  subst e
  exact⟨h,hc⟩
 ·exact hF g y hg

def RV.run (sl:Xf)(ob:Xa):RV->Option V
 | .t k=>some (look sl k)
 | .c k n ag=>ldR ob n ag (look sl k)
def Yer (sl:Xf)(ob:Xa):List RV->Option (List V)
 | []=>some []
 | x::r=>match x.run sl ob with
  | some v=>(Yer sl ob r).map (v::·)
  | none=>none
def Xv2:List V->Xa->List V×Xa
 | [],ob=>([],ob)
 | v::r,ob=>match V.giv ob v with
  | some (d,ob')=>let p:=Xv2 r ob'; (.d d::p.1,p.2)
  | none=>let p:=Xv2 r ob; (v::p.1,p.2)
def Xax (n:Nat)(vs:List V)(ob:Xa):Option Xa:=
 let kp:=V.idss vs++Xv3 ob
 bif !V.mens (Xd n kp) vs&&Xh (Xd n kp) (Y4 (Xd n kp) ob) then some (Y4 (Xd n kp) ob) else none
def Yfd (n:Nat)(rs:List RV)(sl:Xf)(ob:Xa):Option (Out×Xa):=match Yer sl ob rs with
 | some vs=>(Xax n (Xv2 vs ob).1 (Xv2 vs ob).2).map fun b=>(.ret (Wv (Xv2 vs ob).1),b)
 | none=>none
def Xv4 (n:Nat):Xa->List Nat
 | []=>[]
 | (j,x)::r=>bif decide (j<n) then Xv3 [(j,x)]++Xv4 n r else Xv4 n r
def X9q (kp:List Nat):Xa->List Nat
 | []=>[]
 | (j,x)::r=>bif kp.contains j then Xv3 [(j,x)]++X9q kp r else X9q kp r
def X5p (ob:Xa):Nat->List Nat->List Nat
 | 0,kp=>kp
 | k+1,kp=>X5p ob k (kp++X9q kp ob)
def Xwn (n:Nat)(vs:List V)(ob:Xa):Option Xa:=
 let kp:=X5p ob 3 (V.idss vs++Xv4 n ob)
 bif !V.mens (Xd n kp) vs&&Xh (Xd n kp) (Y4 (Xd n kp) ob) then some (Y4 (Xd n kp) ob) else none
def Ysw (n:Nat)(rs:List RV)(sl:Xf)(ob:Xa):Option (Out×Xa):=match Yer sl ob rs with
 | some vs=>(Xwn n (Xv2 vs ob).1 (Xv2 vs ob).2).map fun b=>(.ret (Wv (Xv2 vs ob).1),b)
 | none=>none
def Xt1 (n:Nat)(rs:List RV):Rs->Option (Out×Xa)
 | some (.normal,sl,ob)=>Ysw n rs sl ob
 | some (.ret,sl,ob)=>Ysw n rs sl ob
 | _=>none
def X8t (n:Nat)(rs:List RV):Rs->Option (Out×Xa)
 | some (.normal,sl,ob)=>Yfd n rs sl ob
 | some (.ret,sl,ob)=>Yfd n rs sl ob
 | some (.panic v,_,ob)=>(Xax n [v] ob).map fun b=>(.panic v,b)
 | _=>none
def Xt3 (n:Nat)(rs:List RV):Rs->Option (Out×Xa)
 | some (.normal,sl,ob)=>Yfd n rs sl ob
 | some (.ret,sl,ob)=>Yfd n rs sl ob
 | _=>none
def X4s (n:Nat)(rs:List RV)(sl:Xf)(ob:Xa):Option (Out×Xa):=match Yer sl ob rs with
 | some vs=>(Xax n vs ob).map fun b=>(.ret (Wv vs),b)
 | none=>none
def Xt2 (n:Nat)(rs:List RV):Rs->Option (Out×Xa)
 | some (.normal,sl,ob)=>X4s n rs sl ob
 | some (.ret,sl,ob)=>X4s n rs sl ob
 | some (.panic v,_,ob)=>(Xax n [v] ob).map fun b=>(.panic v,b)
 | _=>none
def Xil (rs:List RV)(sl:Xf)(ob:Xa):Option V:=match Yer sl ob rs with
 | some vs=>(V.givs ob vs).map fun p=>Wv (p.1.map .d)
 | none=>none
def Xjt (rs:List RV):Rs->Option V
 | some (.normal,sl,ob)=>Xil rs sl ob
 | some (.ret,sl,ob)=>Xil rs sl ob
 | _=>none

def Ygd (R:Fns)(L:Nat)(F:FT)(g:Nat)(vs:List V)(ob:Xa)(rv:Option V):Option Xa:=match Qi F g with
 | some (.rc its keep k s n)=>bif Nat.beq n vs.length then
   (match X4v R its ((k,rv.getD (.d .nili))::Vo 0 vs) ob with
    | .ok sl ob'=>(match s.run R L (Xk sl keep) ob' with
     | some (.normal,_,ob2)=>Xax (Xb ob) [] ob2
     | some (.ret,_,ob2)=>Xax (Xb ob) [] ob2
     | _=>none)
    | _=>none)
  else none
 | _=>none
def V.isIfc:V->Bool
 | .iface _ _=>true
 | .d (.iface _ _)=>true
 | _=>false
def X83 (R:Fns)(L:Nat)(F:FT)(g:Nat)(cl:List V)(rs:List RV):Rs->Option V
 | some (.normal,sl,ob)=>(Ygd R L F g cl ob none).bind fun ob'=>Xil rs sl ob'
 | some (.ret,sl,ob)=>(Ygd R L F g cl ob none).bind fun ob'=>Xil rs sl ob'
 | some (.panic v,sl,ob)=>bif v.isIfc then (Ygd R L F g cl ob (some v)).bind fun ob'=>Xil rs sl ob' else none
 | _=>none
def Ygw (R:Fns)(L:Nat)(F:FT)(rs:List RV):FSt->Xf->Xa->Option V
 | .pre s r,sl,ob=>match s.run R L sl ob with
  | some (.normal,sl',ob')=>Ygw R L F rs r sl' ob'
  | some (.ret,sl',ob')=>Xil rs sl' ob'
  | _=>none
 | .dfr its keep k s,sl,ob=>match X4v R its sl ob with
  | .ok sl' ob'=>(match look (Xk sl' keep) k with
   | .fn g fi ca=>bif R.ca g then X83 R L F g (fi++ca) rs (s.run R L (Xk sl' keep) ob') else none
   | _=>none)
  | _=>none

def pcD (R:Fns)(L:Nat)(F:FT)(f:Nat)(ds:List D):Option V:=match Qi F f with
 | some (.pl s rs n)=>bif Nat.beq n ds.length then Xjt rs (s.run R L (Vo 0 (ds.map .d)) []) else none
 | some (.pr s rs n)=>bif Nat.beq n ds.length then Xjt rs (s.run R L (Vo 0 (ds.map .d)) []) else none
 | some (.br s rs n)=>bif Nat.beq n ds.length then Yfv V.eqb (Xjt rs) (s.runM R L (Vo 0 (ds.map .d)) []) else none
 | some (.df s rs n)=>bif Nat.beq n ds.length then Ygw R L F rs s (Vo 0 (ds.map .d)) [] else none
 | _=>none
def Ygx (o:Option V):Option V:=match o with
 | some v=>bif v.flatR then some v else none
 | none=>none
def pcX (X R:Fns)(L:Nat)(F:FT)(f:Nat)(ds:List D)(ob:Xa):Option V:=match X.pc f (ds.map .d) ob with
 | some v=>some v
 | none=>pcD R L F f ds
def pcR (X R:Fns)(L:Nat)(F:FT)(f:Nat)(vs:List V)(ob:Xa):Option V:=match V.allD vs with
 | some ds=>pcX X R L F f ds ob
 | none=>match V.toDs ob 12 vs with
  | some ds=>Ygx (pcX X R L F f ds [])
  | none=>none
def acR (R:Fns)(L:Nat)(F:FT)(f:Nat)(vs:List V)(ob:Xa):Option (Out×Xa):=match Qi F f with
 | some (.pl s rs n)=>bif Nat.beq n vs.length then X8t (Xb ob) rs (s.run R L (Vo 0 vs) ob) else none
 | some (.kp s rs n)=>bif Nat.beq n vs.length then Xt2 (Xb ob) rs (s.run R L (Vo 0 vs) ob) else none
 | some (.pr s rs n)=>bif Nat.beq n vs.length then Xt3 (Xb ob) rs (s.run R L (Vo 0 vs) ob) else none
 | some (.br s rs n)=>bif Nat.beq n vs.length then Yfv Yu6 (Xt1 (Xb ob) rs) (s.runM R L (Vo 0 vs) ob) else none
 | some (.df _ _ _)=>match V.allD vs with
  | some ds=>(pcD R L F f ds).map fun v=>(.ret v,ob)
  | none=>none
 | _=>none
def fns (L:Nat)(F:FT)(X:Fns):Nat->Fns
 | 0=>X
 | n+1=>⟨fun f vs ob=>match X.call f vs ob with
   | some r=>some r
   | none=>acR (fns L F X n) L F f vs ob,
  fun f vs ob=>pcR X (fns L F X n) L F f vs ob,
  fun f=>(Qi F f).isSome||X.ca f,X.gl,fun id vs ob=>ydR (fns L F X n) L X.lt id vs ob,X.lt,X.xc⟩

section
variable {P:Prg} {R:Fns} {L:Nat} {F:FT}
theorem Vm {sl:Xf}{ob:Xa}:∀(rs:List RV) (K:List V->Prop) (vs:List V),Yer sl ob rs=some vs->K vs->Wu sl ob rs K
 | [],K,vs,h,hK=>by cases h; exact hK
 | x::r,K,vs,h,hK=>by
  simp only[Yer]at h
  split at h
  ·rename_i v hv
   rw[Option.map_eq_some_iff]at h
   obtain⟨l,hl,rfl⟩:=h
   simp only[Wu]
   have hr:=Vm r (fun vs=>K (v::vs)) l hl hK
   cases x with
   | t k=>simp only[RV.run,Option.some.injEq]at hv; subst hv; exact hr
   | c k n ag=>
    simp only[RV.run]at hv
    simp only[RV.wp]
    have h0:(C.ld n ag (.t 0)).run [(0,look sl k)] ob=some v:=by simpa[C.run,Xwk,Xv0,A.ev,look]using hv
    have h1:=C.run_sound (K:=fun v=>Wu sl ob r fun vs=>K (v::vs)) h0 hr
    simpa[C.wp,A.ev,look]using h1
  ·cases h
theorem Up:∀(vs:List V) (ob:Xa) (K:List V->Xa->Prop),K (Xv2 vs ob).1 (Xv2 vs ob).2->Xdf vs ob K
 | [],ob,K,h=>h
 | v::r,ob,K,h=>by
  simp only[Xv2]at h
  simp only[Xdf]
  split at h
  ·rename_i d ob' e
   rw[e]
   exact Up r ob' _ h
  ·rename_i e
   rw[e]
   exact Up r ob _ h
theorem Y8 {n:Nat}{vs:List V}{ob b:Xa}{K:Xa->Prop}(h:Xax n vs ob=some b)(hK:K b):X4 n K vs ob:=by
 unfold Xax at h
 rw[Bool.cond_eq_ite]at h
 split at h
 ·rename_i hc
  simp only[Bool.and_eq_true,Bool.not_eq_true']at hc
  cases h
  exact⟨_,hc.1,hc.2,hK⟩
 ·cases h
theorem Us {n:Nat}{rs:List RV}{sl:Xf}{ob b:Xa}{o:Out}{K:Out->Xa->Prop}(h:Yfd n rs sl ob=some (o,b))(hK:K o b):Wu sl ob rs fun vs=>Xdf vs ob fun vs ob=>X4 n (K (.ret (Wv vs))) vs ob:=by
 unfold Yfd at h
 split at h
 ·rename_i vs hv
  rw[Option.map_eq_some_iff]at h
  obtain⟨b',hb,e⟩:=h
  cases e
  exact Vm rs _ vs hv (Up vs ob _ (Y8 hb hK))
 ·cases h
theorem Xks {n:Nat}{rs:List RV}{r:Rs}{o:Out}{b:Xa}{K:Out->Xa->Prop}(h:X8t n rs r=some (o,b))(hK:K o b):r.to (Vq n rs K):=by
 unfold X8t at h
 split at h
 ·exact Us h hK
 ·exact Us h hK
 ·rw[Option.map_eq_some_iff]at h
  obtain⟨b',hb,e⟩:=h
  cases e
  exact Y8 hb hK
 ·cases h
theorem Xhx {n:Nat}{rs:List RV}{r:Rs}{o:Out}{b:Xa}{K:Out->Xa->Prop}(h:Xt3 n rs r=some (o,b))(hK:K o b):r.to (Xt0 n rs K):=by
 unfold Xt3 at h
 split at h
 ·exact Us h hK
 ·exact Us h hK
 ·cases h
theorem Xi3 {n:Nat}{vs:List V}{ob b:Xa}{K:Xa->Prop}(h:Xwn n vs ob=some b)(hK:K b):X4 n K vs ob:=by
 unfold Xwn at h
 rw[Bool.cond_eq_ite]at h
 split at h
 ·rename_i hc
  simp only[Bool.and_eq_true,Bool.not_eq_true']at hc
  cases h
  exact⟨_,hc.1,hc.2,hK⟩
 ·cases h
theorem Xek {n:Nat}{rs:List RV}{sl:Xf}{ob b:Xa}{o:Out}{K:Out->Xa->Prop}(h:Ysw n rs sl ob=some (o,b))(hK:K o b):Wu sl ob rs fun vs=>Xdf vs ob fun vs ob=>X4 n (K (.ret (Wv vs))) vs ob:=by
 unfold Ysw at h
 split at h
 ·rename_i vs hv
  rw[Option.map_eq_some_iff]at h
  obtain⟨b',hb,e⟩:=h
  cases e
  exact Vm rs _ vs hv (Up vs ob _ (Xi3 hb hK))
 ·cases h
theorem Xhv {n:Nat}{rs:List RV}{r:Rs}{o:Out}{b:Xa}{K:Out->Xa->Prop}(h:Xt1 n rs r=some (o,b))(hK:K o b):r.to (Xt0 n rs K):=by
 unfold Xt1 at h
 split at h
 ·exact Xek h hK
 ·exact Xek h hK
 ·cases h
theorem Xcz {n:Nat}{rs:List RV}{sl:Xf}{ob b:Xa}{o:Out}{K:Out->Xa->Prop}(h:X4s n rs sl ob=some (o,b))(hK:K o b):Wu sl ob rs fun vs=>X4 n (K (.ret (Wv vs))) vs ob:=by
 unfold X4s at h
 split at h
 ·rename_i vs hv
  rw[Option.map_eq_some_iff]at h
  obtain⟨b',hb,e⟩:=h
  cases e
  exact Vm rs _ vs hv (Y8 hb hK)
 ·cases h
theorem Xhw {n:Nat}{rs:List RV}{r:Rs}{o:Out}{b:Xa}{K:Out->Xa->Prop}(h:Xt2 n rs r=some (o,b))(hK:K o b):r.to (Xe2 n rs K):=by
 unfold Xt2 at h
 split at h
 ·exact Xcz h hK
 ·exact Xcz h hK
 ·rw[Option.map_eq_some_iff]at h
  obtain⟨b',hb,e⟩:=h
  cases e
  exact Y8 hb hK
 ·cases h
theorem Zs {rs:List RV}{sl:Xf}{ob:Xa}{v:V}{K:V->Prop}(h:Xil rs sl ob=some v)(hK:K v):Wu sl ob rs fun vs=>Wy (fun l _=>K (Wv (l.map .d))) (V.givs ob vs):=by
 unfold Xil at h
 split at h
 ·rename_i vs hv
  rw[Option.map_eq_some_iff]at h
  obtain⟨p,hp,rfl⟩:=h
  refine Vm rs _ vs hv ?_
  rw[hp]; exact hK
 ·cases h
theorem Qn {rs:List RV}{r:Rs}{v:V}{K:V->Prop}(h:Xjt rs r=some v)(hK:K v):r.to (U0 rs K):=by
 unfold Xjt at h
 split at h
 ·exact Zs h hK
 ·exact Zs h hK
 ·cases h
variable (hm:P.p.follows .mixedOrders=true) (hF:FT.ok P.p F) (hLp:FT.lps P F) (hR:R.ok P)
include hm hF hLp hR
theorem J8 {g:Nat}{vs:List V}{ob b:Xa}{rv:Option V}{K:Xa->Prop}(h:Ygd R L F g vs ob rv=some b)(hK:K b):DCall P g vs ob rv K:=by
 unfold Ygd at h
 split at h
 ·rename_i its keep k s n hl
  rw[Bool.cond_eq_ite]at h
  split at h
  ·rename_i e
   have e:n=vs.length:=Nat.eq_of_beq_eq_true e
   subst e
   have hok:=(hF g _ hl).1
   simp only[FI.ok]at hok
   refine Xdx (keep:=keep) hm hok (Zy hR _ _ _ ?_)
   split at h
   ·rename_i sl ob' e1
    rw[e1]
    refine S.run_sound (L:=L) hR s _ _ _ (hLp g _ hl) ?_
    split at h
    ·rename_i e2; rw[e2]; exact Y8 h hK
    ·rename_i e2; rw[e2]; exact Y8 h hK
    ·cases h
   ·cases h
  ·cases h
 ·cases h
theorem Xkw {g:Nat}{cl:List V}{rs:List RV}{r:Rs}{v:V}{K:V->Prop}(h:X83 R L F g cl rs r=some v)(hK:K v):r.to (Xe8 P g cl rs K):=by
 unfold X83 at h
 split at h
 ·rw[Option.bind_eq_some_iff]at h
  obtain⟨b,h1,h2⟩:=h
  exact J8 hm hF hLp hR h1 (Zs h2 hK)
 ·rw[Option.bind_eq_some_iff]at h
  obtain⟨b,h1,h2⟩:=h
  exact J8 hm hF hLp hR h1 (Zs h2 hK)
 ·rw[Bool.cond_eq_ite]at h
  split at h
  ·rename_i hi
   rw[Option.bind_eq_some_iff]at h
   obtain⟨b,h1,h2⟩:=h
   refine⟨?_,J8 hm hF hLp hR h1 (Zs h2 hK)⟩
   unfold V.isIfc at hi
   split at hi
   ·exact⟨_,_,.inl rfl⟩
   ·exact⟨_,.any,.inr ⟨_,rfl⟩⟩
   ·cases hi
  ·cases h
 ·cases h
theorem Xd3 {rs:List RV}{K:V->Prop}:∀(s:FSt) (sl:Xf) (ob:Xa) (v:V),s.loops P->Ygw R L F rs s sl ob=some v->K v->fwp P rs K s sl ob
 | .pre s r,sl,ob,v,hl,h,hK=>by
  simp only[Ygw]at h
  simp only[fwp]
  refine S.run_sound (L:=L) hR s _ _ _ hl.1 ?_
  split at h
  ·rename_i e; rw[e]; exact Xd3 r _ _ v hl.2 h hK
  ·rename_i e; rw[e]; exact Zs h hK
  ·cases h
 | .dfr its keep k s,sl,ob,v,hl,h,hK=>by
  simp only[Ygw]at h
  simp only[fwp]
  refine Zy hR _ _ _ ?_
  split at h
  ·rename_i sl' ob' e
   rw[e]
   simp only[Rq.to]
   split at h
   ·rename_i g fi ca e2
    rw[e2]
    rw[Bool.cond_eq_ite]at h
    split at h
    ·rename_i hc
     exact⟨hR.ca _ hc,S.run_sound (L:=L) hR s _ _ _ hl (Xkw hm hF hLp hR h hK)⟩
    ·cases h
   ·cases h
  ·cases h
theorem Xjq {f:Nat}{ds:List D}{v:V}{ob:Xa}{K:V->Prop}(h:pcD R L F f ds=some v)(hK:K v):PCall P f (ds.map .d) ob K:=by
 unfold pcD at h
 split at h
 ·rename_i s rs n hl
  rw[Bool.cond_eq_ite]at h
  split at h
  ·rename_i e
   have e:n=ds.length:=Nat.eq_of_beq_eq_true e
   subst e
   exact Xeg hm (hF f _ hl).1 (S.run_sound (L:=L) hR s _ _ _ (hLp f _ hl) (Qn h hK))
  ·cases h
 ·rename_i s rs n hl
  rw[Bool.cond_eq_ite]at h
  split at h
  ·rename_i e
   have e:n=ds.length:=Nat.eq_of_beq_eq_true e
   subst e
   exact Qm hm (hF f _ hl).1 (S.run_sound (L:=L) hR s _ _ _ (hLp f _ hl) (Qn h hK))
  ·cases h
 ·rename_i s rs n hl
  rw[Bool.cond_eq_ite]at h
  split at h
  ·rename_i e
   have e:n=ds.length:=Nat.eq_of_beq_eq_true e
   subst e
   exact Qm hm (hF f _ hl).1 (S.runM_sound (L:=L) hR s _ _ _ (hLp f _ hl) (Xti V.eqb_eq h fun x hx=>Qn hx hK))
  ·cases h
 ·rename_i s rs n hl
  rw[Bool.cond_eq_ite]at h
  split at h
  ·rename_i e
   have e:n=ds.length:=Nat.eq_of_beq_eq_true e
   subst e
   exact Xcv hm (hF f _ hl).1 (Xd3 hm hF hLp hR s _ _ v (hLp f _ hl) h hK)
  ·cases h
 ·cases h
theorem Xjr {X:Fns}(hX:X.ok P){f:Nat}{ds:List D}{v:V}{ob:Xa}{K:V->Prop}(h:pcX X R L F f ds ob=some v)(hK:K v):PCall P f (ds.map .d) ob K:=by
 unfold pcX at h
 split at h
 ·rename_i r hr; cases h; exact (hX.pc _ _ _ _ hr).mono fun v' e=>by subst e; exact hK
 ·exact Xjq hm hF hLp hR h hK
theorem Xyc {X:Fns}(hX:X.ok P){f:Nat}{vs:List V}{v:V}{ob:Xa}(h:pcR X R L F f vs ob=some v):PCall P f vs ob fun v'=>v'=v:=by
 unfold pcR at h
 split at h
 ·rename_i ds hd
  rw[V.allD_map hd]
  exact Xjr hm hF hLp hR hX h rfl
 ·split at h
  ·rename_i ds hd
   unfold Ygx at h
   split at h
   ·rename_i v' hv
    rw[Bool.cond_eq_ite]at h
    split at h
    ·rename_i hfl
     cases h
     exact PCall.borrow hd (Xjr hm hF hLp hR hX hv ⟨hfl,rfl⟩)
    ·cases h
   ·cases h
  ·cases h
theorem Xtd {f:Nat}{vs:List V}{o:Out}{ob b:Xa}(h:acR R L F f vs ob=some (o,b)):ACall P f vs ob fun o' b'=>o'=o/\b'=b:=by
 unfold acR at h
 split at h
 ·rename_i s rs n hl
  rw[Bool.cond_eq_ite]at h
  split at h
  ·rename_i e
   have e:n=vs.length:=Nat.eq_of_beq_eq_true e
   subst e
   exact Xdn hm (hF f _ hl).1 (S.run_sound (L:=L) hR s _ _ _ (hLp f _ hl) (Xks h ⟨rfl,rfl⟩))
  ·cases h
 ·rename_i s rs n hl
  rw[Bool.cond_eq_ite]at h
  split at h
  ·rename_i e
   have e:n=vs.length:=Nat.eq_of_beq_eq_true e
   subst e
   exact Xbw hm (hF f _ hl).1 (S.run_sound (L:=L) hR s _ _ _ (hLp f _ hl) (Xhw h ⟨rfl,rfl⟩))
  ·cases h
 ·rename_i s rs n hl
  rw[Bool.cond_eq_ite]at h
  split at h
  ·rename_i e
   have e:n=vs.length:=Nat.eq_of_beq_eq_true e
   subst e
   exact Xbx hm (hF f _ hl).1 (S.run_sound (L:=L) hR s _ _ _ (hLp f _ hl) (Xhx h ⟨rfl,rfl⟩))
  ·cases h
 ·rename_i s rs n hl
  rw[Bool.cond_eq_ite]at h
  split at h
  ·rename_i e
   have e:n=vs.length:=Nat.eq_of_beq_eq_true e
   subst e
   exact Xbx hm (hF f _ hl).1 (S.runM_sound (L:=L) hR s _ _ _ (hLp f _ hl) (Xti X9i h fun x hx=>Xhv hx ⟨rfl,rfl⟩))
  ·cases h
 ·split at h
  ·rename_i ds hd
   rw[Option.map_eq_some_iff]at h
   obtain⟨v,hv,e⟩:=h
   cases e
   rw[V.allD_map hd]
   exact PCall.acall (Xjq hm hF hLp hR hv ⟨rfl,rfl⟩)
  ·cases h
 ·cases h
end
theorem Ygz {p:Program}{F:FT}(hF:FT.ok p F)(f:Nat)(h:(Qi F f).isSome=true):Xm p f=true:=by
 obtain⟨x,hx⟩:=Option.isSome_iff_exists.1 h
 exact (hF f x hx).2
theorem Xcf {P:Prg}{L:Nat}{F:FT}{X:Fns}(hm:P.p.follows .mixedOrders=true)(hF:FT.ok P.p F)(hLp:FT.lps P F)(hX:X.ok P)(hlt:∀tag ps x y,X.lt tag=some (ps,x,y)->Vc P tag ps x y/\x.noR=true/\y.noR=true):∀n,(fns L F X n).ok P
 | 0=>hX
 | n+1=>by
  refine⟨fun f vs ob o b h=>?_,fun f vs ob v h=>?_,fun f h=>?_,fun g x h=>hX.gl g x h,fun id vs ob o b h=>?_,fun f vs ob v b h=>hX.xc f vs ob v b h⟩
  ·simp only[fns]at h
   split at h
   ·rename_i r hr; cases h; exact hX.call _ _ _ _ _ hr
   ·exact Xtd hm hF hLp (Xcf hm hF hLp hX hlt n) h
  ·simp only[fns]at h
   exact Xyc hm hF hLp (Xcf hm hF hLp hX hlt n) hX h
  ·simp only[fns,Bool.or_eq_true]at h
   rcases h with h | h
   ·exact Ygz hF f h
   ·exact hX.ca f h
  ·simp only[fns]at h
   exact Xz6 hm (Xcf hm hF hLp hX hlt n) hlt h
end Go.Ab
namespace Go.Proofs.YtolkimpelpnpbaaGreatDoor
open Go Go.Ab
def Wl:FT:=[(74,.df Yv2 [.c 2 1 false,.c 3 1 false,.c 4 1 false] 1),
 (39,.pl Yvj [.t 2] 1),
 (126,.rc Xld Xwb 6 Yab 3),
 (127,.pl Yac [.c 0 256 true] 0),
 (128,.pl Yad [] 1),
 (129,.pl Yae [] 1),
 (130,.pl Yaf [] 1),
 (131,.pl Yag [] 1),
 (132,.pl Yah [] 1),
 (112,.pl X91 [.t 2] 1),
 (113,.pl X92 [.t 2] 1),
 (55,.pl Yvu [.t 2] 1),
 (208,.pl Yal [.t 2] 1),
 (218,.pl Yar [.t 4] 2),
 (219,.pl Yas [.t 3] 2),
 (220,.pl Yat [] 3),
 (221,.pl Yau [.t 3] 2),
 (222,.pl Yav [.t 4] 2),
 (223,.pl Yaw [.t 2] 1),
 (285,.pl Ya1 [.t 4] 2),
 (25,.pl Yve [.t 2] 1),
 (9,.pl ir9 [.t 4] 2),
 (48,.pl Yvn [.t 2] 1),
 (26,.pl Yvf [.t 2] 1),
 (49,.pl Yvo [.t 2,.t 3] 1),
 (125,.pl Yaa [.t 6] 3),
 (40,.pl Yvk [.t 4,.t 5] 2),
 (216,.pl Yap [.c 4 6 true,.t 5] 2),
 (217,.pl Yaq [.t 6] 3),
 (71,.pl Yvz [.t 4,.t 5] 2),
 (69,.pl Yvx [.t 6,.t 7] 3),
 (72,.pl Yv0 [.t 4] 2),
 (245,.pl Yay [.c 6 6 true,.t 7] 3),
 (252,.pl Yaz [.t 4] 2),
 (178,.pl Yaj [.t 4] 2),
 (231,.pl Yax [.t 4] 2),
 (121,.pl X96 [.t 6,.t 7] 3),
 (119,.pl X94 [.t 4] 2),
 (120,.pl X95 [.t 4] 3),
 (123,.pl X98 [.c 4 4 true,.t 5] 2),
 (124,.pl X99 [.t 2] 1),
 (213,.pl Yam [.t 4] 2),
 (214,.pl Yan [.t 4] 3),
 (215,.pl Yao [.t 6,.t 7] 3),
 (319,.pl Ya5 [.t 4] 2),
 (320,.pl Ya6 [.t 4] 2),
 (321,.pl Ya7 [.t 4] 2),
 (322,.pl Ya8 [.t 4] 2),
 (323,.pl Ya9 [.t 2] 1),
 (284,.pl Ya0 [.t 6,.t 7] 3),
 (316,.pl Ya3 [.t 4] 2),
 (317,.pl Ya4 [.t 4] 3),
 (70,.pl Yvy [.t 2] 1),
 (122,.pl X97 [.t 2] 1),
 (161,.pl Yai [.t 2] 1),
 (301,.pl Ya2 [.c 0 5 true] 0),
 (21,.pl Yvd [.t 4] 2),
 (41,.pl Yvl [.t 2] 1),
 (42,.pl Yvm [.t 6] 3),
 (73,.pl Yv1 [.t 4] 2),
 (50,.pl Yvp [.c 2 1 false] 1),
 (106,.pl X9w [] 3),
 (20,.pl Y4o [.t 4] 2),
 (38,.pl Y4y [.t 4] 2),
 (10,.pl Yva [.t 4,.t 5] 2),
 (13,.pl Yvc [.t 4] 2),
 (16,.pl Y4n [.c 6 17 true,.t 7] 3),
 (18,.br Yij [.c 4 1 false,.c 5 1 false] 2),
 (27,.pl Yvg [.t 4] 2),
 (28,.pl Yvh [.t 2] 1),
 (31,.pl Yvi [.t 4] 2),
 (34,.pl Y4w [.c 4 17 true,.t 5] 2),
 (36,.kp Y4x [.t 2] 1),
 (51,.pl Yvq [.c 4 2 true,.t 5] 2),
 (52,.pl Yvr [.t 4] 2),
 (53,.kp Yvs [.t 2] 1),
 (54,.pl Yvt [.t 4] 2),
 (61,.pl Yvv [.t 4] 2),
 (62,.pl Yvw [.t 3] 2),
 (64,.pl Y5a [.t 4] 3),
 (65,.pl Y5b [.c 4 14 true,.t 5] 3),
 (67,.pl Y5c [] 2),
 (68,.pl Y5d [.t 8] 6),
 (107,.pl X9x [.t 2] 1),
 (108,.pl Yhc [] 2),
 (109,.pl X9y [] 2),
 (110,.pl X9z [.t 2] 1),
 (111,.pl X90 [.t 4] 2),
 (118,.pl X93 [.t 4] 2),
 (204,.pr Xq9 [.t 4] 2),
 (8,.pl ir8 [.t 0] 0),
 (44,.df Y40 [.c 2 6 true,.c 3 1 false,.c 4 1 false] 1),
 (46,.pl Y42 [.c 2 7 true,.t 3] 1),
 (79,.pl Y5i [] 1),
 (82,.pl Y5l [] 2),
 (91,.pl Y5o [] 2),
 (96,.pl Y5s [.t 2] 1),
 (98,.pl Y5u [.t 2] 1),
 (100,.pl Yg6 [.t 2] 1),
 (147,.pl Yhv [.c 2 11 true] 1),
 (148,.pl Yhw [.t 8] 4),
 (149,.pl Yhx [.c 2 7 true] 1),
 (159,.pl Yh7 [.t 4,.t 5] 2),
 (160,.pl Yh8 [.t 4,.t 5] 2),
 (164,.pl Yib [.t 4] 2),
 (168,.pl Yic [] 4),
 (190,.pl Yiu [.t 2] 1),
 (197,.pl Yi1 [.t 2] 1),
 (200,.pl Yi4 [.c 2 14 true] 1),
 (224,.pl Yje [.c 6 4 true] 3),
 (225,.pl Yjf [.t 4] 2),
 (226,.pl Yjg [.c 2 6 true] 1),
 (232,.pl Yjl [.t 4] 2),
 (236,.pl Yjp [.t 4] 2),
 (241,.pl Yju [.t 4] 2),
 (244,.pl Yjx [.t 4] 2),
 (250,.pl Yj2 [.t 4] 2),
 (251,.pl Yj3 [.t 3] 2),
 (255,.pl Yj6 [.t 3] 2),
 (286,.pl Ykr [.t 1] 1),
 (287,.pl Yks [.t 8] 4),
 (289,.pl Yku [.t 6] 3),
 (291,.pl Ykw [.t 6] 3),
 (294,.pl Ykz [.t 4] 2),
 (298,.pl Yk3 [.c 6 6 true,.t 7] 3),
 (299,.pl Yk4 [.t 2] 1),
 (318,.pl Ylf [.t 4] 2),
 (23,.pl Y4q [.c 2 7 true,.t 3,.t 4] 1),
 (24,.pl Y4r [.c 4 17 true,.t 5] 2),
 (77,.pl Y5g [] 1),
 (81,.pl Y5k [] 1),
 (83,.kp Y5m [.t 2,.t 3] 1),
 (93,.pl Y5q [] 2),
 (102,.rc Xwa X9v 7 Yg8 3),
 (103,.pl Yg9 [.t 2] 1),
 (105,.pl Yhb [.c 4 17 true] 2),
 (135,.pl Yhj [.t 2] 1),
 (136,.pl Yhk [] 2),
 (137,.pl Yhl [.t 6] 3),
 (139,.pl Yhn [.c 2 4 true] 1),
 (140,.pl Yho [.t 6] 3),
 (141,.pl Yhp [.c 2 11 true] 1),
 (142,.pl Yhq [.c 2 4 true] 1),
 (143,.pl Yhr [.t 8] 4),
 (144,.pl Yhs [.t 4] 2),
 (150,.pl Yhy [.t 8] 4),
 (162,.pl Yh9 [.t 4,.t 5] 2),
 (176,.pl Yig [.t 2] 1),
 (177,.pl Yih [.t 4] 2),
 (180,.pl Yik [.t 4] 2),
 (184,.pl Yio [.t 2] 1),
 (186,.pl Yiq [.t 6] 3),
 (188,.kp Yis [.c 2 2 true,.t 3] 1),
 (189,.pl Yit [.t 2] 1),
 (192,.pl Yiw [.t 2] 1),
 (193,.pl Yix [.c 1 14 true] 1),
 (198,.pl Yi2 [.t 8] 4),
 (202,.pl Yi6 [.t 4] 2),
 (235,.pl Yjo [.t 6] 3),
 (249,.pl Yj1 [.t 3] 2),
 (253,.pl Yj4 [.t 4] 2),
 (257,.pl Yj8 [.t 4] 2),
 (259,.pl Yka [.t 4] 2),
 (262,.pl Ykc [.t 2] 1),
 (270,.pl Ykk [] 4),
 (295,.pl Yk0 [.t 4] 2),
 (297,.pl Yk2 [.t 4] 2),
 (303,.pl Yk7 [.t 4] 2),
 (263,.pl Ykd [] 2),
 (264,.pl Yke [.t 2] 1),
 (265,.pl Ykf [.t 2] 1),
 (305,.pl Yk9 [] 2),
 (306,.pl Yla [.t 6] 3),
 (342,.pl Ylh [.t 6] 3),
 (343,.pl Yli [.t 2] 1),
 (344,.pl Ylj [] 2),
 (346,.pl Ylk [] 3),
 (76,.pl Y5f [] 1),
 (78,.pl Y5h [] 1),
 (84,.rc X5y Ylm 5 Y5n 2),
 (92,.pl Y5p [] 3),
 (95,.pl Y5r [] 2),
 (99,.pl Y5v [.t 2] 1),
 (104,.kp Yha [.c 2 18 true] 1),
 (138,.pl Yhm [.t 4] 2),
 (145,.pl Yht [.c 2 8 true] 1),
 (151,.pl Yhz [.c 2 5 true] 1),
 (152,.pl Yh0 [.t 8] 4),
 (154,.pl Yh2 [.t 4,.t 5] 2),
 (156,.pl Yh4 [.t 4,.t 5] 2),
 (157,.pl Yh5 [.t 2] 1),
 (174,.pl Yie [.t 2] 1),
 (175,.pl Yif [.t 3] 2),
 (179,.pl Yii [.t 4] 2),
 (182,.pl Yim [.t 4] 2),
 (185,.pl Yip [.t 2] 1),
 (191,.pl Yiv [.c 1 14 true] 1),
 (196,.pl Yi0 [.c 1 14 true] 1),
 (199,.pl Yi3 [.t 6] 3),
 (201,.pl Yi5 [] 1),
 (203,.pl Yi7 [] 2),
 (207,.pl Yak [.t 2] 1),
 (228,.pl Yji [.t 2] 2),
 (229,.pl Yjj [.t 2,.t 3] 1),
 (234,.pl Yjn [.t 4] 2),
 (239,.pl Yjs [.t 6] 3),
 (242,.pl Yjv [.t 2] 1),
 (248,.pl Yj0 [.t 4] 2),
 (258,.pl Yj9 [.t 6] 3),
 (260,.pr Xwc [.t 4] 2),
 (261,.br Ykb [] 2),
 (266,.pl Ykg [.c 2 5 true] 1),
 (290,.br Ykv [.t 4] 2),
 (292,.pl Ykx [.t 4] 2),
 (296,.pl Yk1 [.t 4] 2),
 (302,.pl Yk6 [.t 4] 2),
 (304,.pl Yk8 [.t 8] 4),
 (206,.pl Yi9 [.t 2] 1),
 (278,.pl Ykl [.t 2] 1),
 (279,.pl Ykm [.t 2] 1),
 (12,.pl Yvb [.t 4] 2),
 (45,.df Y41 [.c 2 6 true,.c 3 1 false] 1),
 (47,.df Y43 [.c 4 17 true,.c 5 1 false,.c 6 1 false] 2),
 (75,.rc X5x Yll 6 Y5e 3),
 (80,.pl Y5j [] 1),
 (97,.pl Y5t [.t 2] 1),
 (101,.pl Yg7 [.t 2,.t 3,.t 4] 1),
 (133,.pl Yhh [] 3),
 (134,.pl Yhi [] 2),
 (146,.pl Yhu [.t 8] 4),
 (153,.pl Yh1 [.c 2 4 true] 1),
 (155,.pl Yh3 [.t 2] 1),
 (158,.pl Yh6 [.t 4,.t 5] 2),
 (163,.pl Yia [.t 2] 1),
 (173,.pl Yid [.t 4] 2),
 (181,.pl Yil [.t 4] 2),
 (183,.pl Yin [.t 4] 2),
 (187,.pl Yir [.t 4] 2),
 (194,.pl Yiy [.c 1 14 true] 1),
 (195,.pl Yiz [.c 6 4 true] 3),
 (205,.pl Yi8 [] 5),
 (227,.pl Yjh [.t 4] 2),
 (230,.pl Yjk [.c 2 5 true] 1),
 (233,.pl Yjm [.t 6] 3),
 (237,.pl Yjq [.t 6] 3),
 (238,.pl Yjr [.t 4] 2),
 (240,.pl Yjt [.t 4] 2),
 (243,.pl Yjw [.t 2] 1),
 (246,.pl Yjy [.t 6] 3),
 (247,.pl Yjz [.t 2] 1),
 (254,.pl Yj5 [.t 3] 2),
 (256,.pl Yj7 [.t 4] 2),
 (267,.pl Ykh [.t 2] 1),
 (268,.pl Yki [.t 4] 2),
 (269,.pl Ykj [] 2),
 (288,.pl Ykt [.t 1] 1),
 (293,.pl Yky [.t 4] 2),
 (300,.pl Yk5 [.t 4] 2)]
theorem Xg3:FT.ok Tryz.prog Wl:=
 FT.ok_cons Y9c (by kernel_rfl)
 (FT.ok_cons Y8u (by kernel_rfl)
 (FT.ok_cons Yeg (by kernel_rfl)
 (FT.ok_cons Yp9 (by kernel_rfl)
 (FT.ok_cons Yqa (by kernel_rfl)
 (FT.ok_cons Yqb (by kernel_rfl)
 (FT.ok_cons Yqc (by kernel_rfl)
 (FT.ok_cons Yqd (by kernel_rfl)
 (FT.ok_cons Yqe (by kernel_rfl)
 (FT.ok_cons Ypz (by kernel_rfl)
 (FT.ok_cons Yp0 (by kernel_rfl)
 (FT.ok_cons Y84 (by kernel_rfl)
 (FT.ok_cons Yqj (by kernel_rfl)
 (FT.ok_cons Yqp (by kernel_rfl)
 (FT.ok_cons Yqq (by kernel_rfl)
 (FT.ok_cons Yqr (by kernel_rfl)
 (FT.ok_cons Yqs (by kernel_rfl)
 (FT.ok_cons Yqt (by kernel_rfl)
 (FT.ok_cons Yqu (by kernel_rfl)
 (FT.ok_cons Yqz (by kernel_rfl)
 (FT.ok_cons Y8p (by kernel_rfl)
 (FT.ok_cons ok9 (by kernel_rfl)
 (FT.ok_cons Y8y (by kernel_rfl)
 (FT.ok_cons Y8q (by kernel_rfl)
 (FT.ok_cons Y8z (by kernel_rfl)
 (FT.ok_cons Yp8 (by kernel_rfl)
 (FT.ok_cons Y8v (by kernel_rfl)
 (FT.ok_cons Yqn (by kernel_rfl)
 (FT.ok_cons Yqo (by kernel_rfl)
 (FT.ok_cons Y89 (by kernel_rfl)
 (FT.ok_cons Y87 (by kernel_rfl)
 (FT.ok_cons Y9a (by kernel_rfl)
 (FT.ok_cons Yqw (by kernel_rfl)
 (FT.ok_cons Yqx (by kernel_rfl)
 (FT.ok_cons Yqg (by kernel_rfl)
 (FT.ok_cons Yqv (by kernel_rfl)
 (FT.ok_cons Yp4 (by kernel_rfl)
 (FT.ok_cons Yp2 (by kernel_rfl)
 (FT.ok_cons Yp3 (by kernel_rfl)
 (FT.ok_cons Yp6 (by kernel_rfl)
 (FT.ok_cons Yp7 (by kernel_rfl)
 (FT.ok_cons Yqk (by kernel_rfl)
 (FT.ok_cons Yql (by kernel_rfl)
 (FT.ok_cons Yqm (by kernel_rfl)
 (FT.ok_cons Yq3 (by kernel_rfl)
 (FT.ok_cons Yq4 (by kernel_rfl)
 (FT.ok_cons Yq5 (by kernel_rfl)
 (FT.ok_cons Yq6 (by kernel_rfl)
 (FT.ok_cons Yq7 (by kernel_rfl)
 (FT.ok_cons Yqy (by kernel_rfl)
 (FT.ok_cons Yq1 (by kernel_rfl)
 (FT.ok_cons Yq2 (by kernel_rfl)
 (FT.ok_cons Y88 (by kernel_rfl)
 (FT.ok_cons Yp5 (by kernel_rfl)
 (FT.ok_cons Yqf (by kernel_rfl)
 (FT.ok_cons Yq0 (by kernel_rfl)
 (FT.ok_cons Y8o (by kernel_rfl)
 (FT.ok_cons Y8w (by kernel_rfl)
 (FT.ok_cons Y8x (by kernel_rfl)
 (FT.ok_cons Y9b (by kernel_rfl)
 (FT.ok_cons Y80 (by kernel_rfl)
 (FT.ok_cons Yef (by kernel_rfl)
 (FT.ok_cons Zhv (by kernel_rfl)
 (FT.ok_cons Zh5 (by kernel_rfl)
 (FT.ok_cons Y8l (by kernel_rfl)
 (FT.ok_cons Y8n (by kernel_rfl)
 (FT.ok_cons Zht (by kernel_rfl)
 (FT.ok_cons Zhu (by kernel_rfl)
 (FT.ok_cons Y8r (by kernel_rfl)
 (FT.ok_cons Y8s (by kernel_rfl)
 (FT.ok_cons Y8t (by kernel_rfl)
 (FT.ok_cons Zh3 (by kernel_rfl)
 (FT.ok_cons Zh4 (by kernel_rfl)
 (FT.ok_cons Y81 (by kernel_rfl)
 (FT.ok_cons Ysu (by kernel_rfl)
 (FT.ok_cons Y82 (by kernel_rfl)
 (FT.ok_cons Y83 (by kernel_rfl)
 (FT.ok_cons Y85 (by kernel_rfl)
 (FT.ok_cons Y86 (by kernel_rfl)
 (FT.ok_cons Zih (by kernel_rfl)
 (FT.ok_cons Zii (by kernel_rfl)
 (FT.ok_cons Zij (by kernel_rfl)
 (FT.ok_cons Zik (by kernel_rfl)
 (FT.ok_cons Ypv (by kernel_rfl)
 (FT.ok_cons Yyu (by kernel_rfl)
 (FT.ok_cons Ypw (by kernel_rfl)
 (FT.ok_cons Ypx (by kernel_rfl)
 (FT.ok_cons Ypy (by kernel_rfl)
 (FT.ok_cons Yp1 (by kernel_rfl)
 (FT.ok_cons Yqh (by kernel_rfl)
 (FT.ok_cons ok8 (by kernel_rfl)
 (FT.ok_cons Zh7 (by kernel_rfl)
 (FT.ok_cons Zh9 (by kernel_rfl)
 (FT.ok_cons Zip (by kernel_rfl)
 (FT.ok_cons Zis (by kernel_rfl)
 (FT.ok_cons Ziv (by kernel_rfl)
 (FT.ok_cons Ziz (by kernel_rfl)
 (FT.ok_cons Zi1 (by kernel_rfl)
 (FT.ok_cons Yyo (by kernel_rfl)
 (FT.ok_cons Yzd (by kernel_rfl)
 (FT.ok_cons Yze (by kernel_rfl)
 (FT.ok_cons Yzf (by kernel_rfl)
 (FT.ok_cons Yzp (by kernel_rfl)
 (FT.ok_cons Yzq (by kernel_rfl)
 (FT.ok_cons Yzt (by kernel_rfl)
 (FT.ok_cons Yzu (by kernel_rfl)
 (FT.ok_cons Y0b (by kernel_rfl)
 (FT.ok_cons Y0i (by kernel_rfl)
 (FT.ok_cons Y0l (by kernel_rfl)
 (FT.ok_cons Y0v (by kernel_rfl)
 (FT.ok_cons Y0w (by kernel_rfl)
 (FT.ok_cons Y0x (by kernel_rfl)
 (FT.ok_cons Y02 (by kernel_rfl)
 (FT.ok_cons Y06 (by kernel_rfl)
 (FT.ok_cons Y1b (by kernel_rfl)
 (FT.ok_cons Y1e (by kernel_rfl)
 (FT.ok_cons Y1j (by kernel_rfl)
 (FT.ok_cons Y1k (by kernel_rfl)
 (FT.ok_cons Y1n (by kernel_rfl)
 (FT.ok_cons Y19 (by kernel_rfl)
 (FT.ok_cons Y2a (by kernel_rfl)
 (FT.ok_cons Y2c (by kernel_rfl)
 (FT.ok_cons Y2e (by kernel_rfl)
 (FT.ok_cons Y2h (by kernel_rfl)
 (FT.ok_cons Y2l (by kernel_rfl)
 (FT.ok_cons Y2m (by kernel_rfl)
 (FT.ok_cons Y2x (by kernel_rfl)
 (FT.ok_cons Zhx (by kernel_rfl)
 (FT.ok_cons Zhy (by kernel_rfl)
 (FT.ok_cons Zin (by kernel_rfl)
 (FT.ok_cons Zir (by kernel_rfl)
 (FT.ok_cons Zit (by kernel_rfl)
 (FT.ok_cons Zix (by kernel_rfl)
 (FT.ok_cons Yyq (by kernel_rfl)
 (FT.ok_cons Yyr (by kernel_rfl)
 (FT.ok_cons Yyt (by kernel_rfl)
 (FT.ok_cons Yy1 (by kernel_rfl)
 (FT.ok_cons Yy2 (by kernel_rfl)
 (FT.ok_cons Yy3 (by kernel_rfl)
 (FT.ok_cons Yy5 (by kernel_rfl)
 (FT.ok_cons Yy6 (by kernel_rfl)
 (FT.ok_cons Yy7 (by kernel_rfl)
 (FT.ok_cons Yy8 (by kernel_rfl)
 (FT.ok_cons Yy9 (by kernel_rfl)
 (FT.ok_cons Yza (by kernel_rfl)
 (FT.ok_cons Yzg (by kernel_rfl)
 (FT.ok_cons Yzr (by kernel_rfl)
 (FT.ok_cons Yzy (by kernel_rfl)
 (FT.ok_cons Yzz (by kernel_rfl)
 (FT.ok_cons Yz1 (by kernel_rfl)
 (FT.ok_cons Yz5 (by kernel_rfl)
 (FT.ok_cons Yz7 (by kernel_rfl)
 (FT.ok_cons Yz9 (by kernel_rfl)
 (FT.ok_cons Y0a (by kernel_rfl)
 (FT.ok_cons Y0d (by kernel_rfl)
 (FT.ok_cons Y0e (by kernel_rfl)
 (FT.ok_cons Y0j (by kernel_rfl)
 (FT.ok_cons Y0n (by kernel_rfl)
 (FT.ok_cons Y05 (by kernel_rfl)
 (FT.ok_cons Y1i (by kernel_rfl)
 (FT.ok_cons Y1l (by kernel_rfl)
 (FT.ok_cons Y1p (by kernel_rfl)
 (FT.ok_cons Y1r (by kernel_rfl)
 (FT.ok_cons Y1u (by kernel_rfl)
 (FT.ok_cons Y12 (by kernel_rfl)
 (FT.ok_cons Y2i (by kernel_rfl)
 (FT.ok_cons Y2k (by kernel_rfl)
 (FT.ok_cons Y2p (by kernel_rfl)
 (FT.ok_cons Y1v (by kernel_rfl)
 (FT.ok_cons Y1w (by kernel_rfl)
 (FT.ok_cons Y1x (by kernel_rfl)
 (FT.ok_cons Y2r (by kernel_rfl)
 (FT.ok_cons Y2s (by kernel_rfl)
 (FT.ok_cons Y2z (by kernel_rfl)
 (FT.ok_cons Y20 (by kernel_rfl)
 (FT.ok_cons Y21 (by kernel_rfl)
 (FT.ok_cons Y22 (by kernel_rfl)
 (FT.ok_cons Zim (by kernel_rfl)
 (FT.ok_cons Zio (by kernel_rfl)
 (FT.ok_cons Ziu (by kernel_rfl)
 (FT.ok_cons Ziw (by kernel_rfl)
 (FT.ok_cons Ziy (by kernel_rfl)
 (FT.ok_cons Zi2 (by kernel_rfl)
 (FT.ok_cons Yys (by kernel_rfl)
 (FT.ok_cons Yy4 (by kernel_rfl)
 (FT.ok_cons Yzb (by kernel_rfl)
 (FT.ok_cons Yzh (by kernel_rfl)
 (FT.ok_cons Yzi (by kernel_rfl)
 (FT.ok_cons Yzk (by kernel_rfl)
 (FT.ok_cons Yzm (by kernel_rfl)
 (FT.ok_cons Yzn (by kernel_rfl)
 (FT.ok_cons Yzw (by kernel_rfl)
 (FT.ok_cons Yzx (by kernel_rfl)
 (FT.ok_cons Yz0 (by kernel_rfl)
 (FT.ok_cons Yz3 (by kernel_rfl)
 (FT.ok_cons Yz6 (by kernel_rfl)
 (FT.ok_cons Y0c (by kernel_rfl)
 (FT.ok_cons Y0h (by kernel_rfl)
 (FT.ok_cons Y0k (by kernel_rfl)
 (FT.ok_cons Y0m (by kernel_rfl)
 (FT.ok_cons Y0o (by kernel_rfl)
 (FT.ok_cons Yqi (by kernel_rfl)
 (FT.ok_cons Y0z (by kernel_rfl)
 (FT.ok_cons Y00 (by kernel_rfl)
 (FT.ok_cons Y04 (by kernel_rfl)
 (FT.ok_cons Y09 (by kernel_rfl)
 (FT.ok_cons Y1c (by kernel_rfl)
 (FT.ok_cons Y1h (by kernel_rfl)
 (FT.ok_cons Y1q (by kernel_rfl)
 (FT.ok_cons Y1s (by kernel_rfl)
 (FT.ok_cons (X5u Y1t) (by kernel_rfl)
 (FT.ok_cons Y1y (by kernel_rfl)
 (FT.ok_cons (X5u Y2d) (by kernel_rfl)
 (FT.ok_cons Y2f (by kernel_rfl)
 (FT.ok_cons Y2j (by kernel_rfl)
 (FT.ok_cons Y2o (by kernel_rfl)
 (FT.ok_cons Y2q (by kernel_rfl)
 (FT.ok_cons Y0q (by kernel_rfl)
 (FT.ok_cons Y13 (by kernel_rfl)
 (FT.ok_cons Y14 (by kernel_rfl)
 (FT.ok_cons Y8m (by kernel_rfl)
 (FT.ok_cons Zh8 (by kernel_rfl)
 (FT.ok_cons Zia (by kernel_rfl)
 (FT.ok_cons Zil (by kernel_rfl)
 (FT.ok_cons Ziq (by kernel_rfl)
 (FT.ok_cons Zi0 (by kernel_rfl)
 (FT.ok_cons Yyp (by kernel_rfl)
 (FT.ok_cons Yyz (by kernel_rfl)
 (FT.ok_cons Yy0 (by kernel_rfl)
 (FT.ok_cons Yzc (by kernel_rfl)
 (FT.ok_cons Yzj (by kernel_rfl)
 (FT.ok_cons Yzl (by kernel_rfl)
 (FT.ok_cons Yzo (by kernel_rfl)
 (FT.ok_cons Yzs (by kernel_rfl)
 (FT.ok_cons Yzv (by kernel_rfl)
 (FT.ok_cons Yz2 (by kernel_rfl)
 (FT.ok_cons Yz4 (by kernel_rfl)
 (FT.ok_cons Yz8 (by kernel_rfl)
 (FT.ok_cons Y0f (by kernel_rfl)
 (FT.ok_cons Y0g (by kernel_rfl)
 (FT.ok_cons Y0p (by kernel_rfl)
 (FT.ok_cons Y0y (by kernel_rfl)
 (FT.ok_cons Y01 (by kernel_rfl)
 (FT.ok_cons Y03 (by kernel_rfl)
 (FT.ok_cons Y07 (by kernel_rfl)
 (FT.ok_cons Y08 (by kernel_rfl)
 (FT.ok_cons Y1a (by kernel_rfl)
 (FT.ok_cons Y1d (by kernel_rfl)
 (FT.ok_cons Y1f (by kernel_rfl)
 (FT.ok_cons Y1g (by kernel_rfl)
 (FT.ok_cons Y1m (by kernel_rfl)
 (FT.ok_cons Y1o (by kernel_rfl)
 (FT.ok_cons Y1z (by kernel_rfl)
 (FT.ok_cons Y10 (by kernel_rfl)
 (FT.ok_cons Y11 (by kernel_rfl)
 (FT.ok_cons Y2b (by kernel_rfl)
 (FT.ok_cons Y2g (by kernel_rfl)
 (FT.ok_cons Y2n (by kernel_rfl)
 (FT.ok_nil))))))))))))))))))))))))))))))))))))))))))))))))))))))))))))))))))))))))))))))))))))))))))))))))))))))))))))))))))))))))))))))))))))))))))))))))))))))))))))))))))))))))))))))))))))))))))))))))))))))))))))))))))))))))))))))))))))))))))))))))))))))))))))))))))
end Go.Proofs.YtolkimpelpnpbaaGreatDoor
namespace Go.Lx
open Go Go.Ab
def TD (a:D)(l:List Tok):Prop:=a=Yex l\/a=.nils/\l=[]
section
variable {a:D} {l:List Tok} (h:TD a l)
include h
theorem TD.len:Uz (.d a)=.d (.int .i64 l.length):=by rcases h with rfl | ⟨rfl,rfl⟩<;>simp[Yex]
theorem TD.lenS (ob:Xa):Qf ob (.d a)=True:=by rcases h with rfl | ⟨rfl,rfl⟩<;>simp[Yex]
theorem TD.idxS (ob:Xa)(k:IntKind)(i:Int):Xiq ob 4 (.d a) (.d (.int k i))=(0<=i/\i<l.length):=by
 rcases h with rfl | ⟨rfl,rfl⟩
 ·simp[Yex]
 ·simp[Xiq,Xa9]
theorem TD.idx {k:IntKind}{i:Nat}(hi:i<l.length):Xir 4 (.d a) (.d (.int k i))=.d (.ref (l[i]?.getD default).enc):=by
 rcases h with rfl | ⟨rfl,rfl⟩
 ·simp[Yex,hi]
 ·simp at hi
end
end Go.Lx
namespace Go.Lx
open Go Go.Ab

def Xcm (c:UInt8):Bool:=Zu c.toNat
def Yh (c:UInt8):Bool:=U4 c.toNat
def Xp6 (c:UInt8):Bool:=X7f c.toNat
def Va (c:UInt8):Bool:=Xcu c.toNat
def Yet (c:UInt8):Bool:=Yrm c.toNat
def Qg (c:UInt8):Bool:=c != 10

inductive St where
 | skip (n:Nat)
 | tok (k:Int) (t:List UInt8) (m:Int) (n:Nat)
 | err

def Xgs (t:List UInt8):Option Int:=match Xgr 0 t with
 | none=>none
 | some n=>if t.length=1\/t.headD 0 ≠ 48 then some n else none

def stp (c:UInt8)(r:List UInt8):St:=
 if Xp6 c then .skip 0
 else if c=47/\r.head? = some 47 then .skip (r.takeWhile Qg).length
 else if Xcm c then
  if (r.takeWhile Va).length+1<=32 then .tok 1 (c::r.takeWhile Va) 0 (r.takeWhile Va).length else .err
 else if Yh c then
  match Xgs (c::r.takeWhile Yh) with
  | some n=>.tok 2 [] n (r.takeWhile Yh).length
  | none=>.err
 else if Yet c then .tok 3 [c] 0 0 else .err

inductive Res where
 | ok (l:List Tok)
 | err (at_:Nat)

def V1 (t:Tok):Res->Res
 | .ok l=>.ok (t::l)
 | .err e=>.err e
def Xz7 (l:List Tok):Res->Res
 | .ok l'=>.ok (l++l')
 | .err e=>.err e

def Xhe:List UInt8->Nat->Res
 | [],_=>.ok []
 | c::r,off=>match stp c r with
  | .skip n=>Xhe (r.drop n) (off+n+1)
  | .tok k t m n=>V1 ⟨k,t,m,off⟩ (Xhe (r.drop n) (off+n+1))
  | .err=>.err off
termination_by l=>l.length
decreasing_by all_goals (simp only[List.length_drop,List.length_cons]; omega)

def Y26:Res->V
 | .ok l=>.tup [.d (Yex l),.d (.int .i64 0),.d (.int .i64 0)]
 | .err e=>.tup [.d .nils,.d (.int .i64 e),.d (.int .i64 90)]
def Yl4 (s:List UInt8):V:=if s.length > 65536 then .tup [.d .nils,.d (.int .i64 0),.d (.int .i64 2)] else Y26 (Xhe s 0)

theorem X03 (r:Res):Xz7 [] r=r:=by cases r<;>rfl
theorem Xew (l:List Tok)(t:Tok)(r:Res):Xz7 l (V1 t r)=Xz7 (l++[t]) r:=by cases r<;>simp[Xz7,V1]

def tw (p:UInt8->Bool)(s:List UInt8)(j:Nat):Nat:=((s.drop j).takeWhile p).length
theorem Y29 {p:UInt8->Bool}{s:List UInt8}{j:Nat}(h:s.length<=j):tw p s j=0:=by simp[tw,List.drop_of_length_le h]
theorem Xzx {p:UInt8->Bool}{s:List UInt8}{j:Nat}(h:j<s.length)(hp:p (s[j]?.getD 0)=true):tw p s j=tw p s (j+1)+1:=by
 simp[h]at hp
 unfold tw
 rw[List.drop_eq_getElem_cons h,List.takeWhile_cons,if_pos hp]; rfl
theorem Y3a {p:UInt8->Bool}{s:List UInt8}{j:Nat}(h:j<s.length)(hp:p (s[j]?.getD 0)=false):tw p s j=0:=by
 simp[h]at hp
 unfold tw
 rw[List.drop_eq_getElem_cons h,List.takeWhile_cons,hp]; rfl
theorem Xr0 (p:UInt8->Bool)(s:List UInt8)(j:Nat)(h:j<=s.length):j+tw p s j<=s.length:=by
 have:=(List.takeWhile_sublist p (l:=s.drop j)).length_le
 simp[tw]at this⊢; omega
theorem Vb (p:UInt8->Bool):∀l:List UInt8,l.takeWhile p=l.take (l.takeWhile p).length
 | []=>rfl
 | c::r=>by
  simp only[List.takeWhile_cons]
  split
  ·simp; exact Vb p r
  ·rfl
theorem X58 {p:UInt8->Bool}{x:UInt8}:∀{l:List UInt8},x∈l.takeWhile p->p x=true
 | c::r,h=>by
  rw[List.takeWhile_cons]at h
  split at h
  ·rename_i hc
   rcases List.mem_cons.mp h with rfl | h
   ·exact hc
   ·exact X58 h
  ·cases h
theorem Ua {s:List UInt8}{i:Nat}(h:i<s.length):s.drop i=(s[i]?.getD 0)::s.drop (i+1):=by
 rw[List.drop_eq_getElem_cons h]; simp[h]
theorem Yey (p:UInt8->Bool){s:List UInt8}{i:Nat}(h:i<s.length)(hp:p (s[i]?.getD 0)=true) :
  (s.take (i+tw p s i)).drop i=(s[i]?.getD 0)::(s.drop (i+1)).takeWhile p/\tw p s i=((s.drop (i+1)).takeWhile p).length+1:=by
 have h1:tw p s i=((s.drop (i+1)).takeWhile p).length+1:=Xzx h hp
 refine⟨?_,h1⟩
 rw[List.drop_take,Nat.add_sub_cancel_left,h1,Ua h,List.take_succ_cons,<-Vb]

theorem X38 {s:List UInt8}{i off:Nat}(h:s.length<=i):Xhe (s.drop i) off=.ok []:=by
 rw[List.drop_of_length_le h,Xhe]
theorem Ybl {s:List UInt8}{i:Nat}(h:i<s.length):Xhe (s.drop i) i=match stp (s[i]?.getD 0) (s.drop (i+1)) with
  | .skip n=>Xhe (s.drop (i+n+1)) (i+n+1)
  | .tok k t m n=>V1 ⟨k,t,m,i⟩ (Xhe (s.drop (i+n+1)) (i+n+1))
  | .err=>.err i:=by
 rw[Ua h,Xhe]
 cases stp (s[i]?.getD 0) (s.drop (i+1)) with
 | err=>rfl
 | skip n=>simp only[List.drop_drop]; congr 2; omega
 | tok k t m n=>simp only[List.drop_drop]; congr 3; omega
theorem Xip {s:List UInt8}{i:Nat}:(s.drop i).head? = s[i]?:=by simp[List.head?_drop]
end Go.Lx
namespace Go.Lx
open Go Go.Ab
def Ybk:Nat->List UInt8->Nat->Res
 | 0,_,_=>.ok []
 | _,[],_=>.ok []
 | f+1,c::r,off=>match stp c r with
  | .skip n=>Ybk f (r.drop n) (off+n+1)
  | .tok k t m n=>V1 ⟨k,t,m,off⟩ (Ybk f (r.drop n) (off+n+1))
  | .err=>.err off
theorem Xli:∀(f:Nat) (s:List UInt8) (off:Nat),s.length<=f->Ybk f s off=Xhe s off
 | 0,s,off,h=>by
  have:s=[]:=List.length_eq_zero_iff.1 (by omega)
  subst this; simp[Ybk,Xhe]
 | f+1,[],off,h=>by simp[Ybk,Xhe]
 | f+1,c::r,off,h=>by
  rw[Ybk,Xhe]
  have hl:∀n,(r.drop n).length<=f:=fun n=>by simp at h⊢; omega
  split
  ·rw[Xli f _ _ (hl _)]; try simp_all
  ·rw[Xli f _ _ (hl _)]; try simp_all
  ·simp_all
end Go.Lx
namespace Go.Ab
open Go
theorem ACall.nilv {P:Prg}{f:Nat}{vs:List V}{ob:Xa}{K:Out->Xa->Prop}(h:ACall P f vs ob fun o b=>K o b\/(o=.ret (.d .nils)/\∃E z,K (.ret (.sl (Xb b) 0)) ((Xb b,.vec E z [])::b))):ACall P f vs ob K:=
  ⟨fun w ρ args ho hg hr=>(h.run w ρ args ho hg hr).mono fun e w' ⟨o,b,ρ',k,hre,hO,t⟩=>by
    rcases k with k | ⟨rfl,E,z,k⟩
    · exact⟨o,b,ρ',k,hre,hO,t⟩
    · have hl:Xe b (Xb b)=none:=Xw b
      have hbl:∀b,RO.virt.blk? = some b->w'.heap.size<=b:=fun b hb=>by simp[RO.blk?]at hb
      have t1:=W2 w' (Ext.refl w') (o:=.virt) (hO.free hl) hbl
      have o1:OM w' (ρ'.ins (Xb b) .virt) ((Xb b,.vec E z [])::b):=hO.ins (Ext.refl w') hl hbl (.inl ⟨Ya,rfl⟩)
      refine⟨_,_,_,k,?_,o1,t.trans t1⟩
      cases e with
      | returned u=>
        have h1:(V.d .nils).rep w' ρ' u:=hre
        show (V.sl (Xb b) 0).rep w' (ρ'.ins (Xb b) .virt) u
        rw[Jo]at h1
        rcases h1 with⟨h1,_⟩ | ⟨_,h1⟩
        · cases h1
        · simp only[D.rep,List.cons.injEq,and_true]at h1
          exact Yb.2 ⟨.virt,Ya,rfl,h1⟩
      | _=>exact (hre:False).elim⟩
def Zf (E z B:Nat):S:=.seq (.rg [] [.op (some 2) (.c (.mv .nils))] [0] [])
 (.seq (.seq (.rg [] [.op (some 3) (.c (.mv (.t 0))),
   .op (some 4) (.isn true false (.t 3))] [0,4] [])
 (.cond (.t 4) (.seq (.rg [] [.op (some 2) (.c (.mv .nils))] [2] [])
 (.ret)) (.skip)))
 (.seq (.rg [] [.op (some 5) (.blv E z [] []),
   .op (some 6) (.c (.mv (.t 0))),
   .op (some 7) (.apv E z B (.t 5) (.t 6)),
   .op (some 2) (.c (.mv (.t 7)))] [2] [])
 (.ret)))
def Xt7 (E z B:Nat):S2:=.seq (.rg [] [(0,(.a (.t 0)))] [])
 (.seq (.seq (.rg [.lt 3 [] (.a (.t 0)),.op (some 4) (.isn true false (.t 3))] [(0,(.a (.t 0))),(4,(.a (.t 4)))] [])
 (.cond (.t 4) (.seq (.rg [] [(2,(.a .nils))] [])
 (.ret)) (.skip)))
 (.seq (.rg [.op (some 5) (.blv E z [] []),.lt 6 [] (.a (.t 0)),.op (some 7) (.apv E z B (.t 5) (.t 6))] [(2,(.a (.t 7)))] [])
 (.ret)))
theorem Xdu (E z B:Nat):(Zf E z B).lift []=some (Xt7 E z B):=by rfl
theorem X7v {P:Prg}{p:Program}(hP:P.p=p)(hm:p.follows .mixedOrders=true){f E z B:Nat}(hc:Xi p f 1 (Zf E z B) [.t 2]=true){xs:List D}(hs:∀x∈xs,x.sz=z)(hB:(2*xs.length+192)*B<=281474976710656){ob:Xa}{K:Out->Xa->Prop}(h:K (.ret (.sl (Xb ob) xs.length)) ((Xb ob,.vec E z (xs.map .d))::ob)):ACall P f [.d (.list z xs)] ob K:=by
  refine ACall.nilv ?_
  refine Wo hP hm hc (Xdu E z B) TOk.nil fun _ hno=>?_
  simp[Xt7,I.wp,Xwd,Yfg,Xr6,Xqn]
  constructor
  · refine⟨hB,[Xb ob],by simp[Xd],?_,?_⟩
    · have hd:∀(p:Nat->Bool) (l:List D),V.mens p (l.map .d)=false:=fun p l=>by induction l<;>simp_all[V.mens,V.men]
      simp[Xd,hd]
      exact hno _
    · simpa[Xd]using h
  · intro e
    exact⟨[],by simp,by simpa using hno [],.inr ⟨E,z,by simpa[e]using h⟩⟩
theorem X0v {P:Prg}{p:Program}(hP:P.p=p)(hm:p.follows .mixedOrders=true){f E z B:Nat}(hc:Xi p f 1 (Zf E z B) [.t 2]=true){ob:Xa}{K:Out->Xa->Prop}(h:K (.ret (.sl (Xb ob) 0)) ((Xb ob,.vec E z [])::ob)):ACall P f [.d .nils] ob K:=by
  refine ACall.nilv ?_
  refine Wo hP hm hc (Xdu E z B) TOk.nil fun _ hno=>?_
  simp[Xt7,I.wp,Xwd]
  exact⟨[],by simp,by simpa using hno [],.inr ⟨E,z,by simpa using h⟩⟩
end Go.Ab
namespace Go.Proofs.YtolkimpelpnpbaaGreatDoor
open Go Go.Ab
theorem Za2:Xi Tryz.prog 85 1 (Zf 9 1 16) [.t 2]=true:=by kernel_rfl
theorem Za3:Xi Tryz.prog 86 1 (Zf 164 5 56) [.t 2]=true:=by kernel_rfl
theorem Za4:Xi Tryz.prog 87 1 (Zf 110 6 96) [.t 2]=true:=by kernel_rfl
theorem Za5:Xi Tryz.prog 88 1 (Zf 170 5 96) [.t 2]=true:=by kernel_rfl
theorem Za6:Xi Tryz.prog 89 1 (Zf 174 5 72) [.t 2]=true:=by kernel_rfl
theorem Za7:Xi Tryz.prog 90 1 (Zf 71 3 48) [.t 2]=true:=by kernel_rfl
theorem Za8:Xi Tryz.prog 165 1 (Zf 115 11 120) [.t 2]=true:=by kernel_rfl
theorem Za9:Xi Tryz.prog 166 1 (Zf 240 4 72) [.t 2]=true:=by kernel_rfl
theorem Zba:Xi Tryz.prog 167 1 (Zf 244 8 96) [.t 2]=true:=by kernel_rfl
theorem Zbb:Xi Tryz.prog 169 1 (Zf 38 11 120) [.t 2]=true:=by kernel_rfl
theorem Yuq:Xi Tryz.prog 170 1 (Zf 251 7 80) [.t 2]=true:=by kernel_rfl
theorem Yur:Xi Tryz.prog 171 1 (Zf 255 5 56) [.t 2]=true:=by kernel_rfl
theorem Yus:Xi Tryz.prog 172 1 (Zf 56 4 48) [.t 2]=true:=by kernel_rfl
def Xn9:List (Nat×Nat×Nat×Nat):=[(85,9,1,16),(86,164,5,56),(87,110,6,96),(88,170,5,96),(89,174,5,72),(90,71,3,48),(165,115,11,120),(166,240,4,72),(167,244,8,96),(169,38,11,120),(170,251,7,80),(171,255,5,56),(172,56,4,48)]
theorem Xt8:∀e∈Xn9,Xi Tryz.prog e.1 1 (Zf e.2.1 e.2.2.1 e.2.2.2) [.t 2]=true:=by
  simp only[Xn9,List.forall_mem_cons]
  exact⟨Za2,Za3,Za4,Za5,Za6,Za7,Za8,Za9,Zba,Zbb,Yuq,Yur,Yus,fun _ h=>by cases h⟩
def Xt5 (E z B:Nat)(ob:Xa):D->Option (V×Xa)
  | .nils=>some (.sl (Xb ob) 0,(Xb ob,.vec E z [])::ob)
  | .list z' xs=>bif Nat.beq z' z&&xs.all (fun x=>Nat.beq x.sz z)&&decide ((2*xs.length+192)*B<=281474976710656) then some (.sl (Xb ob) xs.length,(Xb ob,.vec E z (xs.map .d))::ob) else none
  | _=>none
def Xn8 (f:Nat)(x:D)(ob:Xa):List (Nat×Nat×Nat×Nat)->Option (V×Xa)
  | []=>none
  | (g,E,z,B)::r=>bif Nat.beq f g then Xt5 E z B ob x else Xn8 f x ob r
theorem Xt6 {P:Prg}(hP:P.p=Tryz.prog){f E z B:Nat}(hc:Xi Tryz.prog f 1 (Zf E z B) [.t 2]=true){x:D}{ob b:Xa}{o:V}(h:Xt5 E z B ob x=some (o,b)):XCall P f [.d x] ob fun o' b'=>o'=o/\b'=b:=by
  unfold Xt5 at h
  split at h
  · cases h; exact XCall.of_nil (ds:=[.nils]) (xs:=[]) (X0v hP mixed hc ⟨rfl,rfl⟩) ⟨rfl,rfl⟩
  · rw[Bool.cond_eq_ite]at h
    split at h
    · rename_i e
      cases h
      simp only[Bool.and_eq_true,decide_eq_true_eq,List.all_eq_true]at e
      obtain⟨⟨e1,e3⟩,e4⟩:=e
      rw[Nat.eq_of_beq_eq_true e1]
      exact XCall.of_nil (ds:=[.list _ _]) (X7v hP mixed hc (fun x hx=>Nat.eq_of_beq_eq_true (e3 x hx)) e4 ⟨rfl,rfl⟩) ⟨rfl,rfl⟩
    · cases h
  · cases h
theorem Xh0 {P:Prg}(hP:P.p=Tryz.prog){f:Nat}{x:D}{ob b:Xa}{o:V}:∀l:List (Nat×Nat×Nat×Nat),(∀e∈l,Xi Tryz.prog e.1 1 (Zf e.2.1 e.2.2.1 e.2.2.2) [.t 2]=true)->Xn8 f x ob l=some (o,b)->XCall P f [.d x] ob fun o' b'=>o'=o/\b'=b
  | [],_,h=>by cases h
  | (g,E,z,B)::r,hl,h=>by
    simp only[Xn8,Bool.cond_eq_ite]at h
    split at h
    · rename_i e
      rw[Nat.eq_of_beq_eq_true e]
      exact Xt6 hP (hl _ List.mem_cons_self) h
    · exact Xh0 hP r (fun e he=>hl e (List.mem_cons_of_mem _ he)) h
end Go.Proofs.YtolkimpelpnpbaaGreatDoor
namespace Go.Py
open Go Go.Ab Go.Lx
def Ybm (s:List UInt8):V:=if s.length > 65536 then .tup [.d .nils,.d (.int .i64 0),.d (.int .i64 2)] else Y26 (Ybk s.length s 0)
theorem X39 (s:List UInt8):Ybm s=Yl4 s:=by
 have e:=Xli s.length s 0 (Nat.le_refl _)
 unfold Ybm Yl4
 rw[e]
def xgl (g:Nat):Option D:=
 bif Nat.beq g 0 then some (.agg [.int .i64 2,.int .i64 1000]) else
 bif Nat.beq g 1 then some (.agg [.int .i64 1,.int .i64 255]) else
 bif Nat.beq g 2 then some (.agg [.int .i64 0,.int .i64 32]) else
 bif Nat.beq g 3 then some (.agg [.int .i64 0,.int .i64 9]) else
 bif Nat.beq g 4 then some (.agg [.int .i64 0,.int .i64 1048576]) else none
def Yei:Nat->List (List Nat)
 | 0=>[[]]
 | 1=>[[0]]
 | 2=>[[0,1],[1,0]]
 | 3=>[[0,1,2],[0,2,1],[1,0,2],[1,2,0],[2,0,1],[2,1,0]]
 | _=>[]
def Yuv:D×V->Option (Int×Int)
 | (.agg [.int .i64 a,.int .i64 b],.d (.bool true))=>some (a,b)
 | _=>none
def X1s:List (D×V)->Option (List (Int×Int))
 | []=>some []
 | e::r=>match Yuv e,X1s r with
  | some p,some l=>some (p::l)
  | _,_=>none
def Y9l (a n:Nat)(ob:Xa):Option (Out×Xa)->Option (List D)
 | some (.ret (.tup []),(j,.arr E 2 l)::r)=>bif Nat.beq j a&&Nat.beq l.length n&&Nat.beq E 76&&Xz9 r ob then some l else none
 | _=>none
end Go.Py
namespace Go.Proofs.YtolkimpelpnpbaaGreatDoor
open Go Go.Ab Go.Lx Go.Py
def xpc (f:Nat)(vs:List V):Option V:=match vs with
 | [.d (.str s)]=>bif Nat.beq f 74 then some (Ybm s) else none
 | _=>none
def xz0:Fns:=⟨fun _ _ _=>none,fun _ _ _=>none,fun _=>false,xgl,fun _ _ _=>none,fun _=>none,fun _ _ _=>none⟩
def Yfe (ob:Xa)(a:Nat)(fs:List (Int×Int))(sn:List Nat):Option (List D):=
 Y9l a sn.length ob ((fns 100 Wl xz0 12).call 108 [.sl a sn.length,.fn 54 [] []] ((a,.arr 76 2 (sn.map fun i=>fD (atF fs i)))::ob))
def Ysb (ob:Xa)(a:Nat)(fs:List (Int×Int))(s:List D):List (List Nat)->Bool
 | []=>true
 | sn::r=>(match Yfe ob a fs sn with
  | some l=>D.eqbs l s
  | none=>false)&&Ysb ob a fs s r
def X4z (ob:Xa)(fs:List (Int×Int)):Option (Out×Xa):=match Yei fs.length with
 | sn::r=>(match Yfe ob (Xb ob+5) fs sn with
  | some s=>bif Ysb ob (Xb ob+5) fs s r then some (.ret (.d (.list 2 s)),ob) else none
  | none=>none)
 | []=>none
def Yyn (ob:Xa):Option (Out×Xa)->Option (Out×Xa)
 | some (.ret (.tup []),r)=>bif Xz9 r ob then some (.ret (.d .nils),ob) else none
 | _=>none
def Yrr (ob:Xa):Option Ob->Option (Out×Xa)
 | some (.map es)=>(match X1s es with
  | some []=>Yyn ob ((fns 100 Wl xz0 12).call 108 [.d .nils,.fn 54 [] []] ob)
  | some fs=>X4z ob fs
  | none=>none)
 | _=>none
def Yrs (ob:Xa):Option Ob->Option (Out×Xa)
 | some (.box _ (.mp m))=>Yrr ob (Xe ob m)
 | _=>none
def xcall (f:Nat)(vs:List V)(ob:Xa):Option (Out×Xa):=bif Nat.beq f 52 then
  (match vs with
  | [.fn g [] [.ptr bx []],.fn h [] []]=>bif Nat.beq g 109&&Nat.beq h 54 then Yrs ob (Xe ob bx) else none
  | _=>none)
 else none
def xxc (f:Nat)(vs:List V)(ob:Xa):Option (V×Xa):=match vs with
 | [.d x]=>Xn8 f x ob Xn9
 | _=>none
def xlt (k:Nat):Option (List Nat×S×S):=
 bif Nat.beq k 18 then some ([34],ir18900,ir18901) else
 bif Nat.beq k 260 then some ([7],ir260900,ir260901) else none
def xz:Fns:=⟨xcall,fun f vs _=>xpc f vs,fun f=>Nat.beq f 109,xgl,fun _ _ _=>none,xlt,xxc⟩
end Go.Proofs.YtolkimpelpnpbaaGreatDoor
namespace Go.Lx
open Go Go.Ab
theorem Xka {i n:Nat}(h:i<n)(hn:n<=1000000):IntKind.i64.wrap ((i:Int)+1)=(i:Int)+1:=IntWalk.i64_in _ (by omega)
end Go.Lx
namespace Go.Lx
open Go Go.Ab
def Xg4 (f:Nat->Int):List D:=(List.range 256).map fun i=>.int .i64 (f i)
def Uv (f:Nat->Int):D:=.agg (Xg4 f)
def upd (f:Nat->Int)(n:Nat)(v:Int)(i:Nat):Int:=if i=n then v else f i
theorem Zc {f g:Nat->Int}(h:∀i,i<256->f i=g i):Uv f=Uv g:=by
 unfold Uv Xg4
 congr 1
 exact List.map_congr_left fun i hi=>by rw[h i (List.mem_range.mp hi)]
@[simp] theorem tbl_kids (f:Nat->Int):V.kids (.d (Uv f))=some ((Xg4 f).map .d):=by simp only[Uv,V.kids]
@[simp] theorem tbl_getE (f:Nat->Int){n:Nat}(h:n<(Xg4 f).length):(Xg4 f)[n]=.int .i64 (f n):=by simp[Xg4]
@[simp] theorem Xc6 (f:Nat->Int):(Xg4 f).length=256:=by simp[Xg4]
@[simp] theorem allD_set (l:List D)(n:Nat)(x:D):V.allD ((l.map V.d).set n (.d x))=some (l.set n x):=by rw[<-List.map_set,allD_map]
@[simp] theorem tblL_set (f:Nat->Int)(n:Nat)(v:Int):(Xg4 f).set n (.int .i64 v)=Xg4 (upd f n v):=by
 unfold Xg4
 apply List.ext_getElem?
 intro i
 by_cases hi:n=i
 ·subst hi
  by_cases hl:n<256
  ·simp[List.getElem?_set,hl,upd]
  ·simp[List.getElem?_set,hl]
 ·by_cases hl:i<256
  ·simp[List.getElem?_set,hi,hl,upd,Ne.symm hi]
  ·simp[List.getElem?_set,hi,hl]
@[simp] theorem X70 (f:Nat->Int):D.agg (Xg4 f)=Uv f:=rfl
theorem Yew {l:List D}{n:Nat}(h:∀x∈l,x.sz=n):D.szs l=l.length*n:=D.szs_uniform l h
theorem Xg5 (f:Nat->Int):∀x∈Xg4 f,x.sz=1:=by
 intro x hx
 simp only[Xg4,List.mem_map]at hx
 obtain⟨i,_,rfl⟩:=hx
 rfl
@[simp] theorem Yr2 (f:Nat->Int):(Uv f).sz=256:=by simp only[Uv,D.sz,Yew (Xg5 f),Xc6]
@[simp] theorem tbl_size' (f:Nat->Int):(Uv f).shape.size=256:=by rw[D.size_shape,Yr2]
@[simp] theorem tbl_agg (f:Nat->Int):V.isAgg (.d (Uv f))=true:=rfl
@[simp] theorem tbl_dagg (f:Nat->Int):(Uv f).isAgg=true:=rfl
@[simp] theorem tbl_ok (f:Nat->Int):(∀a,a∈Xg4 f->a.shape.size=1)=True:=
 eq_true fun x hx=>by rw[D.size_shape]; exact Xg5 f x hx
theorem X4e (n:Nat)(x:D):List.replicate n x=(List.range n).map fun _=>x:=by
 rw[List.map_const',List.length_range]
theorem J4:∀s:List UInt8,Ze s=s.map fun b=>.int .u8 b.toNat
 | []=>rfl
 | b::r=>by simp[Ze,J4 r]
theorem Xkf:List.replicate 256 (D.int .i64 0)=Xg4 fun _=>0:=X4e 256 _

def cl1 (k i:Nat):Int:=if 65<=i/\i<65+k\/97<=i/\i<97+k then 2 else 0
def cl2 (k i:Nat):Int:=if 48<=i/\i<48+k then 3 else cl1 26 i
def spc:List UInt8:=[32,9,10,13]
def cl3 (k i:Nat):Int:=if i∈(spc.take k).map UInt8.toNat then 1 else cl2 10 i
def cl4 (k i:Nat):Int:=if i∈(Xbe.take k).map UInt8.toNat then 4 else cl3 4 i
def Xhd:Nat->Int:=cl4 15
theorem Xpr {l:List UInt8}{k i:Nat}(h:k<l.length):(i∈(l.take (k+1)).map UInt8.toNat)↔(i=(l[k]?.getD 0).toNat\/i∈(l.take k).map UInt8.toNat):=by
 rw[List.take_add_one,List.map_append,List.mem_append,List.getElem?_eq_getElem h]
 simp only[Option.toList_some,List.map_cons,List.map_nil,List.mem_singleton,Option.getD_some]
 exact Or.comm
def Y3s:D:=Uv Xhd
end Go.Lx
namespace Go.Proofs.YtolkimpelpnpbaaGreatDoor
open Go Go.Ab Go.Lx
section
variable {P:Prg} (hP:P.p=Tryz.prog)
include hP
theorem Xqq {ob:Xa}{K:V->Prop}(h:K (.d Y3s)):PCall P 127 [] ob K:=by
 refine Xg hP mixed (ds:=[]) Yp9 Ywo TOk.nil ?_
 simp only[Ymt,Xkf]
 rw[show D.agg (Xg4 fun _=>0)=Uv fun _=>0 from rfl,show Uv (fun _=>0)=Uv (cl1 0) from Zc fun i _=>by simp[cl1]]
 simp
 refine ALoop.go (ι:=Nat) (fun k=>[(0,.ptr 0 []),(7,.d (.int .i64 k))]) (fun k=>[(0,.box 225 (.d (Uv (cl1 k))))]) (fun k=>k<=26) (fun k=>26-k) 0 (by omega) (by simp) (by simp) ?_
 intro k hk R rn re _ _
 by_cases hlt:k<26
 ·have w1:IntKind.i64.wrap (65+(k:Int))=65+(k:Int):=IntWalk.i64_in _ (by omega)
  have w2:IntKind.i64.wrap (97+(k:Int))=97+(k:Int):=IntWalk.i64_in _ (by omega)
  have w3:=Xka hlt (by omega)
  simp[Xnh,w1,w2,w3,show (k:Int)<26 by omega,show ¬(26:Int)<=k by omega,show (0:Int)<=65+k by omega,show (0:Int)<=97+k by omega,show 65+(k:Int)<256 by omega,show 97+(k:Int)<256 by omega,show (65+(k:Int)).toNat=65+k by omega,show (97+(k:Int)).toNat=97+k by omega,show 65+k<256 by omega,show 97+k<256 by omega]
  refine rn [] (k+1) _ _ ?_ ?_ ?_ ?_ ?_ ?_
  ·omega
  ·omega
  ·simp
  ·simp
   refine Zc fun i _=>?_
   simp only[upd,cl1]
   repeat (first | split | omega)
   all_goals omega
  ·simp
  ·simp
 ·have hk':k=26:=by omega
  subst hk'
  simp[Xnh]
  refine re _ _ _ ?_
  simp
  clear rn re
  rw[show Uv (cl1 26)=Uv (cl2 0) from Zc fun i _=>by simp[cl2]; omega]
  refine ALoop.go (ι:=Nat) (fun k=>[(0,.ptr 0 []),(17,.d (.int .i64 k))]) (fun k=>[(0,.box 225 (.d (Uv (cl2 k))))]) (fun k=>k<=10) (fun k=>10-k) 0 (by omega) (by simp) (by simp) ?_
  intro k hk R rn re _ _
  by_cases hlt:k<10
  ·have w1:IntKind.i64.wrap (48+(k:Int))=48+(k:Int):=IntWalk.i64_in _ (by omega)
   have w3:=Xka hlt (by omega)
   simp[Xng,w1,w3,show (k:Int)<10 by omega,show ¬(10:Int)<=k by omega,show (0:Int)<=48+k by omega,show 48+(k:Int)<256 by omega,show (48+(k:Int)).toNat=48+k by omega,show 48+k<256 by omega]
   refine rn [] (k+1) _ _ ?_ ?_ ?_ ?_ ?_ ?_
   ·omega
   ·omega
   ·simp
   ·simp
    refine Zc fun i _=>?_
    simp only[upd,cl2]
    repeat (first | split | omega)
    all_goals omega
   ·simp
   ·simp
  ·have hk':k=10:=by omega
   subst hk'
   simp[Xng]
   refine re _ _ _ ?_
   simp
   clear rn re
   rw[show Uv (cl2 10)=Uv (cl3 0) from Zc fun i _=>by simp[cl3]]
   show ALoop _ _ _ [_,(25,V.d (D.list 1 (Ze spc))),_,_] _
   refine ALoop.go (ι:=Nat) (fun k=>[(0,.ptr 0 []),(25,.d (.list 1 (Ze spc))),(26,.d (.int .i64 4)),(27,.d (.int .i64 k))]) (fun k=>[(1,.gone),(0,.box 225 (.d (Uv (cl3 k))))]) (fun k=>k<=4) (fun k=>4-k) 0 (by omega) (by simp[Xk]) (by simp) ?_
   intro k hk R rn re _ _
   by_cases hlt:k<4
   ·have w3:=Xka hlt (by omega)
    have hb:(Ze spc)[k]?.getD default=.int .u8 (spc[k]?.getD 0).toNat:=by
     rw[J4]; simp[show k<spc.length from hlt]
    have hlen:(Ze spc).length=4:=rfl
    have hc:=(spc[k]?.getD 0).toNat_lt
    generalize hcc:spc[k]?.getD 0=c at *
    simp[Xnf,w3,hb,hlen,show (k:Int)<4 by omega,show ¬(4:Int)<=k by omega,hc,show ((c.toNat:Int)<256) by omega]
    refine rn [] (k+1) _ _ ?_ ?_ ?_ ?_ ?_ ?_
    ·omega
    ·omega
    ·simp
    ·simp
     refine Zc fun i _=>?_
     simp only[upd,cl3,Xpr (show k<spc.length from hlt),hcc]
     split
     ·rename_i e; simp[e]
     ·rename_i e; simp[e]
    ·simp
    ·simp
   ·have hk':k=4:=by omega
    subst hk'
    simp[Xnf]
    refine re _ _ _ ?_
    simp
    clear rn re
    rw[show Uv (cl3 4)=Uv (cl4 0) from Zc fun i _=>by simp[cl4]]
    show ALoop _ _ _ [_,(35,V.d (D.list 1 (Ze Xbe))),_,_] _
    refine ALoop.go (ι:=Nat) (fun k=>[(0,.ptr 0 []),(35,.d (.list 1 (Ze Xbe))),(36,.d (.int .i64 15)),(37,.d (.int .i64 k))]) (fun k=>[(2,.gone),(1,.gone),(0,.box 225 (.d (Uv (cl4 k))))]) (fun k=>k<=15) (fun k=>15-k) 0 (by omega) (by simp[Xk]) (by simp) ?_
    intro k hk R rn re _ _
    by_cases hlt:k<15
    ·have w3:=Xka hlt (by omega)
     have hb:(Ze Xbe)[k]?.getD default=.int .u8 (Xbe[k]?.getD 0).toNat:=by
      rw[J4]; simp[show k<Xbe.length from hlt]
     have hlen:(Ze Xbe).length=15:=rfl
     have hc:=(Xbe[k]?.getD 0).toNat_lt
     generalize hcc:Xbe[k]?.getD 0=c at *
     simp[Xne,w3,hb,hlen,show (k:Int)<15 by omega,show ¬(15:Int)<=k by omega,hc,show ((c.toNat:Int)<256) by omega]
     refine rn [] (k+1) _ _ ?_ ?_ ?_ ?_ ?_ ?_
     ·omega
     ·omega
     ·simp
     ·simp
      refine Zc fun i _=>?_
      simp only[upd,cl4,Xpr (show k<Xbe.length from hlt),hcc]
      split
      ·rename_i e; simp[e]
      ·rename_i e; simp[e]
     ·simp
     ·simp
    ·have hk':k=15:=by omega
     subst hk'
     simp[Xne]
     refine re _ _ _ ?_
     simp
     refine⟨rfl,?_⟩
     exact h
end
end Go.Proofs.YtolkimpelpnpbaaGreatDoor
namespace Go.Lx
open Go Go.Ab
@[simp] theorem idxPV_tbl (f:Nat->Int)(kd:IntKind)(i:Int):Xfh (.d (.ref (Uv f))) (.d (.int kd i))=.d (.ref ((Xg4 f).getD i.toNat default)):=by simp only[Uv,Xfh]
@[simp] theorem idxPS_tbl (ob:Xa)(f:Nat->Int)(kd:IntKind)(i:Int):Xla ob 256 1 (.d (.ref (Uv f))) (.d (.int kd i))=(0<=i/\i<256):=by
 simp only[Uv,X9t,Xc6]
 simp
 intro _ _ x hx; exact Xg5 f x hx
theorem Xdv:∀n,n<256->(Xhd n=2↔Zu n=true):=by decide +kernel
theorem Xb6:∀n,n<256->(Xhd n=3↔U4 n=true):=by decide +kernel
theorem Xua:∀n,n<256->(Xhd n=1↔X7f n=true):=by decide +kernel
theorem X1p:∀n,n<256->(Xhd n=4↔Yrm n=true):=by decide +kernel
theorem Xt9:∀n,n<256->0<=Xhd n/\Xhd n<=4:=by decide +kernel
abbrev scD (s:List UInt8)(i:Int)(l:List D):D:=.agg [.str s,.int .i64 i,Uv Xhd,.list 4 l]
abbrev scV (s:List UInt8)(i:Int)(y n:Nat):V:=.agg [.d (.str s),.d (.int .i64 i),.d (Uv Xhd),.sl y n]
end Go.Lx
namespace Go.Proofs.YtolkimpelpnpbaaGreatDoor
open Go Go.Ab Go.Lx
section
variable {P:Prg} (hP:P.p=Tryz.prog)
include hP
theorem X8m (c:UInt8)(s:List UInt8)(i:Int)(l:List D){ob:Xa}{K:V->Prop}(h:K (.d (.bool (Va c)))):PCall P 219 [.d (.int .u8 c.toNat),.d (.ref (.ref (scD s i l)))] ob K:=by
 refine Xg hP mixed (ds:=[.int .u8 c.toNat,.ref (.ref (scD s i l))]) Yqq Yw9 TOk.nil ?_
 have hc:=c.toNat_lt
 simp[Ytv,hc,show (c.toNat:Int)<256 by omega]
 refine (congrArg K ?_).mp h
 congr 2
 rw[Bool.eq_iff_iff]
 have h2:=Xdv c.toNat hc
 have h3:=Xb6 c.toNat hc
 simp[Va,Xcu,h2,h3]
theorem Xtx (c:UInt8)(s:List UInt8)(i:Int)(l:List D){ob:Xa}{K:V->Prop}(h:K (.d (.bool (Yh c)))):PCall P 221 [.d (.int .u8 c.toNat),.d (.ref (.ref (scD s i l)))] ob K:=by
 refine Xg hP mixed (ds:=[.int .u8 c.toNat,.ref (.ref (scD s i l))]) Yqs Yxb TOk.nil ?_
 have hc:=c.toNat_lt
 simp[Ytx,hc,show (c.toNat:Int)<256 by omega]
 refine (congrArg K ?_).mp h
 congr 2
 rw[Bool.eq_iff_iff]
 have h3:=Xb6 c.toNat hc
 simp[Yh,h3]
theorem X8q (c:UInt8){ob:Xa}{K:V->Prop}(h:K (.d (.bool (Qg c)))):PCall P 223 [.d (.int .u8 c.toNat)] ob K:=by
 refine Xg hP mixed (ds:=[.int .u8 c.toNat]) Yqu Yxd TOk.nil ?_
 simp[Ytz]
 refine (congrArg K ?_).mp h
 congr 2
 rw[Bool.eq_iff_iff]
 simp[Qg]
 constructor
 ·intro h1 h2; exact h1 (by rw[<-UInt8.ofNat_toNat (x:=c),show c.toNat=10 by omega]; rfl)
 ·intro h1 h2; subst h2; exact h1 rfl
theorem X1f (s t:List UInt8){ob:Xa}{K:V->Prop}(h:K (.d (.bool (t.isPrefixOf s)))):PCall P 222 [.d (.str s),.d (.str t)] ob K:=by
 have h0:∀{K:V->Prop},K (.d (.bool (t.isPrefixOf s)))->PCall P 285 [.d (.str s),.d (.str t)] [] K:=fun {K} h=>by
  refine Xg hP mixed (ds:=[.str s,.str t]) Yqz Yxm TOk.nil ?_
  simp[Yt4]
  refine (congrArg K ?_).mp h
  congr 2
  rw[Bool.eq_iff_iff]
  simp only[List.isPrefixOf_iff_prefix,List.prefix_iff_eq_take]
  by_cases hl:t.length<=s.length
  ·simp[hl]; exact eq_comm
  ·simp[hl]
   intro e
   have:=congrArg List.length e
   simp at this; omega
 refine Xg hP mixed (ds:=[.str s,.str t]) Yqt Yxc TOk.nil ?_
 simp[Yty]
 exact h0 (by simpa using h)
theorem X8p (s:List UInt8)(i:Nat)(hi:i<=s.length)(hs:s.length<=1000000)(l:List D)(f:Nat)(fi ca:List D)(p:UInt8->Bool)(hf:Xm P.p f=true)
  (hp:∀(c:UInt8) (K:V->Prop),K (.d (.bool (p c)))->PCall P f (fi.map .d++.d (.int .u8 c.toNat)::ca.map .d) [] K)
  {ob:Xa} {K:V->Prop} (h:K (.d (.str ((s.drop i).takeWhile p)))):PCall P 218 [.d (.ref (scD s i l)),.d (.fn f fi ca)] ob K:=by
 refine Xg hP mixed (ds:=[.ref (scD s i l),.fn f fi ca]) Yqp Yw8 TOk.nil ?_
 simp[Ytu]
 refine ALoop.go (ι:=Nat) (fun j=>[(0,.d (.ref (scD s i l))),(1,.d (.fn f fi ca)),(5,.d (.int .i64 j))]) (fun _=>[]) (fun j=>i<=j/\j<=s.length/\j+tw p s j=i+tw p s i) (fun j=>s.length-j) i ⟨by omega,by omega,rfl⟩ rfl rfl ?_
 rintro j ⟨hj0,hj1,hj2⟩ R rn re _ _
 have ex:tw p s j=0->∀x,R (AExit.exit 0) [(0,.d (.ref (scD s i l))),(1,.d (.fn f fi ca)),(5,.d (.int .i64 j)),(26,x)] []:=fun h0 x=>by
  refine re _ _ _ ?_
  simp[hj0,hj1]
  refine (congrArg K ?_).mp h
  congr 2
  rw[List.drop_take,Vb]
  congr 1
  simp only[tw]at hj2 h0⊢
  omega
 simp[X0p]
 by_cases hjl:j<s.length
 ·have hwj:=Xka hjl hs
  simp[hjl,hwj,hf]
  refine⟨PCall.acall (hp s[j] _ ?_),fun h=>absurd h (by omega)⟩
  by_cases hb:p s[j]=true
  ·simp[hb]
   refine rn [] (j+1) _ _ ⟨?_,?_,?_⟩ ?_ ?_ ?_ ?_ ?_
   ·omega
   ·omega
   ·rw[<-hj2,Xzx hjl (by simpa[hjl]using hb)]; omega
   ·omega
   ·simp
   ·simp
   ·simp
   ·simp
  ·simp[hb]
   exact ex (Y3a hjl (by simpa[hjl]using hb)) _
 ·simp[hjl]
  exact fun _=>ex (Y29 (by omega)) _
end
end Go.Proofs.YtolkimpelpnpbaaGreatDoor
namespace Go.Proofs.YtolkimpelpnpbaaGreatDoor
open Go Go.Ab Go.Lx
section
variable {P:Prg} (hP:P.p=Tryz.prog)
include hP
theorem X8h (s:List UInt8)(i n:Nat)(k m a0:Int)(t:List UInt8)(ts:List D)(hn:i+n<=1000000)(hts:ts.length<=1000000){ob:Xa}{x y:Nat}(hx:Xe ob x=some (.box 228 (scV s i y ts.length)))(hy:Xe ob y=some (.arr 153 4 ts))
  {K:Out->Xa->Prop} (h:K (.ret (.tup [])) (setO (setO ob y (.arr 153 4 (ts++[.agg [.int .i64 k,.str t,.int .i64 m,.int .i64 i]]))) x (.box 228 (scV s ((i+n:Nat):Int) y (ts.length+1))))) :
  ACall P 220 [.ptr x [],.d (.agg [.int .i64 k,.str t,.int .i64 m,.int .i64 a0]),.d (.int .i64 n)] ob K:=by
 have hxy:(y==x)=false:=by rw[beq_eq_false_iff_ne]; intro e; subst e; rw[hx]at hy; cases hy
 have hyx:(x==y)=false:=by rw[beq_eq_false_iff_ne]; intro e; subst e; rw[hx]at hy; cases hy
 refine Xo hP mixed Yqr Yxa TOk.nil ?_
 intro _ hm
 have hw:IntKind.i64.wrap ((i:Int)+n)=(i:Int)+n:=IntWalk.i64_in _ (by omega)
 simp[Ytw,hx,hy,hxy,hyx,hw]
 refine⟨by omega,?_⟩
 refine⟨[],by simp,?_,?_⟩
 ·simp
  exact Xq _ _ _ _ _ (Y1 _ _ _ _ _ _ (hm _)) (by simp[hy])
 ·simpa using h
abbrev Xet (ob:Xa)(x y:Nat)(s:List UInt8)(ts:List D)(k:Int)(t:List UInt8)(m:Int)(i n:Nat):Xa:=
 setO (setO ob y (.arr 153 4 (ts++[.agg [.int .i64 k,.str t,.int .i64 m,.int .i64 i]]))) x (.box 228 (scV s ((i+n:Nat):Int) y (ts.length+1)))
theorem Xe3:Xm P.p 219=true/\Xm P.p 221=true/\Xm P.p 223=true:=by
 rw[hP]; exact⟨by kernel_rfl,by kernel_rfl,by kernel_rfl⟩
section
variable (s:List UInt8) (i:Nat) (ts:List D) (hs:s.length<=65536) (hi:i<s.length) (hts:ts.length<=1000000) {ob:Xa} {x y:Nat} (hx:Xe ob x=some (.box 228 (scV s i y ts.length))) (hy:Xe ob y=some (.arr 153 4 ts)) {K:Out->Xa->Prop}
include hs hi hts hx hy
omit hs hi hts hy in
theorem X8n (h:K (.panic (.d (.iface 222 (.int .i64 i)))) ob):ACall P 128 [.ptr x []] ob K:=by
 refine Xo hP mixed Yqa Ywp TOk.nil ?_
 intro _ hm
 simp[Yth,hx]
 refine⟨[],by simp,?_,?_⟩
 ·simp[hm]
 ·simpa using h
omit hts in
theorem X8s (h:K (.ret (.tup [])) (setO ob x (.box 228 (scV s ((i+1:Nat):Int) y ts.length)))):ACall P 129 [.ptr x []] ob K:=by
 refine Xo hP mixed Yqb Ywq TOk.nil ?_
 intro _ hm
 have hw:=Xka hi (by omega)
 simp[Yti,hx,hw]
 refine⟨[],by simp,?_,?_⟩
 ·simp
  exact Xq _ _ _ _ _ (hm _) (by simp[hy])
 ·simpa using h
theorem Yf2 (h1:32<tw Va s i->K (.panic (.d (.iface 222 (.int .i64 i)))) ob)(h2:tw Va s i<=32->K (.ret (.tup [])) (Xet ob x y s ts 1 ((s.drop i).takeWhile Va) 0 i (tw Va s i))):ACall P 130 [.ptr x []] ob K:=by
 refine Xo hP mixed Yqc Ywr TOk.nil ?_
 intro _ hm
 have hle:=Xr0 Va s i (by omega)
 simp[Ytj,hx]
 refine PCall.borrow (n:=5) (ds:=[.ref (scD s i ts),.fn 219 [] [.ref (.ref (scD s i ts))]]) (by simp[hx,hy]) ?_
 refine X8p hP s i (by omega) (by omega) ts _ [] _ Va (Xe3 hP).1 (fun c K h=>by simpa using X8m hP c s i ts h) ?_
 simp
 have hl:((s.drop i).takeWhile Va).length=tw Va s i:=rfl
 simp[hl,hx]
 refine⟨fun h3=>?_,fun h3=>?_⟩
 ·refine⟨[],by simp,?_,?_⟩
  ·simp[hm]
  ·simpa using h1 (by omega)
 ·simp[X0l,hl,hx]
  refine X8h hP (y:=y) s i _ 1 0 0 _ ts (by omega) hts (by simp[hx]) (by simp[hy]) ?_
  simp[hx,hy]
  refine⟨[],by simp,?_,?_⟩
  ·simp
   exact Xq _ _ _ _ _ (Y1 _ _ _ _ _ _ (hm _)) (by simp[hy])
  ·simpa[Xet]using h2 (by omega)
theorem Xty (hd:Yh (s[i]?.getD 0)=true)(h1:Xgs ((s.drop i).takeWhile Yh)=none->K (.panic (.d (.iface 222 (.int .i64 i)))) ob)
  (h2:∀m,Xgs ((s.drop i).takeWhile Yh)=some m->K (.ret (.tup [])) (Xet ob x y s ts 2 [] m i (tw Yh s i))):ACall P 131 [.ptr x []] ob K:=by
 refine Xo hP mixed Yqd Yws TOk.nil ?_
 intro _ hm
 have hle:=Xr0 Yh s i (by omega)
 simp[Ytk,hx]
 refine PCall.borrow (n:=5) (ds:=[.ref (scD s i ts),.fn 221 [] [.ref (.ref (scD s i ts))]]) (by simp[hx,hy]) ?_
 refine X8p hP s i (by omega) (by omega) ts _ [] _ Yh (Xe3 hP).2.1 (fun c K h=>by simpa using Xtx hP c s i ts h) ?_
 have hl:((s.drop i).takeWhile Yh).length=tw Yh s i:=rfl
 have hdg:∀k,k<tw Yh s i->U4 (((s.drop i).takeWhile Yh)[k]?.getD 0).toNat=true:=fun k hk=>by
  have:((s.drop i).takeWhile Yh)[k]∈(s.drop i).takeWhile Yh:=List.getElem_mem hk
  rw[List.getElem?_eq_getElem hk]
  exact X58 this
 have hne:0<tw Yh s i:=by have:=Xzx hi hd; omega
 generalize ht:(s.drop i).takeWhile Yh=t at *
 rw[<-hl]at hdg hne
 simp
 refine ALoop.go (ι:=Nat×Int) (fun k=>[(1,.ptr (Xb ob) []),(2,.d (.str t)),(3,.d (.int .i64 k.2)),(9,.d (.int .i64 t.length)),(10,.d (.int .i64 k.1))]) (fun _=>(Xb ob,.box 224 (.ptr x []))::ob)
  (fun k=>k.1<=t.length/\0<=k.2/\k.2<=1099511627776/\Xgr 0 t=Xgr k.2 (t.drop k.1)/\(2<=k.1->t.headD 0 ≠ 48)) (fun k=>t.length-k.1) (0,0) ⟨by simp,by simp,by simp,by simp,by simp⟩ rfl rfl ?_
 rintro⟨k,n⟩ ⟨hk,k1,k2,k3,k4⟩ R rn re _ rp
 simp only at hk k1 k2 k3 k4
 simp[X0m]
 by_cases hlt:k<t.length
 ·have hc:=hdg k hlt
  rw[Xrh hlt]at k3
  generalize hcc:t[k]?.getD 0=c at *
  have hcc':t[k]=c:=by rw[<-hcc]; simp[hlt]
  simp[U4]at hc
  have hcl:=c.toNat_lt
  have hw:IntKind.i64.wrap (IntKind.i64.wrap (10*n)+IntKind.i64.wrap (IntKind.u8.wrap (c.toNat-48)))=10*n+(c.toNat-48):=by
   rw[IntWalk.u8_in _ (by omega),IntWalk.i64_in (10*n) (by omega),IntWalk.i64_in (_-48) (by omega),IntWalk.i64_in _ (by omega)]
  have hwk:=Xka hlt (by omega)
  have hpan:Xgs t=none->R (AExit.panic (V.d (D.iface 222 (D.int IntKind.i64 i)))) [] ((Xb ob,.box 224 (.ptr x []))::ob):=fun hno=>by
   refine rp _ _ _ ?_
   simp
   refine⟨[],by simp,?_,?_⟩
   ·simp[hm]
   ·simpa using h1 hno
  have h0:(t[0]?.getD 0)=t.headD 0:=by cases t<;>rfl
  have hlead:0<k->t[0]?.getD 0=48->Xgs t=none:=fun k0 e=>by
   rw[h0]at e
   unfold Xgs
   cases Xgr 0 t with
   | none=>rfl
   | some m=>simp only; rw[if_neg]; simp only[not_or,Classical.not_not]; exact⟨by omega,e⟩
  simp[hlt,hcc',hw,hwk,hx]
  refine⟨⟨fun _ _=>hne,fun e=>hpan ?_,fun e1 e2=>?_⟩,fun e=>absurd e (by omega)⟩
  ·rcases e with e | ⟨e1,e2⟩
   ·rw[if_pos e]at k3
    simp[Xgs,k3]
   ·refine hlead e1 ?_
    have e3:(t[0]?.getD 0).toNat=48:=by omega
    generalize t[0]?.getD 0=z at e3
    rw[<-UInt8.ofNat_toNat (x:=z),e3]; rfl
  ·rw[if_neg (by omega)]at k3
   simp[X0n,hwk]
   refine rn [] (k+1,10*n+(c.toNat-48)) _ _ ⟨?_,?_,?_,?_,?_⟩ ?_ ?_ ?_ ?_ ?_
   ·simp only; omega
   ·simp only; omega
   ·exact e1
   ·exact k3
   ·intro h2k e3
    have hk0:0<k:=by simp only at h2k; omega
    refine e2 hk0 ?_
    rw[h0,e3]; rfl
   ·simp only; omega
   ·simp
   ·simp
   ·simp[Xd]
   ·simp[X1 _ hm,hx]
 ·have hk':k=t.length:=by omega
  subst hk'
  simp
  refine re _ _ _ ?_
  simp[hx]
  refine X8h hP (y:=y) s i _ 2 n 0 _ ts (by omega) hts (by simp[hx]) (by simp[hy]) ?_
  simp[hx,hy]
  refine⟨[],by simp,?_,?_⟩
  ·simp
   exact Xq _ _ _ _ _ (Y1 _ _ _ _ _ _ (hm _)) (by simp[hy])
  ·have hn:Xgs t=some n:=by
    simp[Xgr]at k3
    simp only[Xgs,k3]
    rw[if_pos]
    by_cases h2:2<=t.length
    ·exact .inr (k4 h2)
    ·exact .inl (by omega)
   simpa[Xet,hl]using h2 n hn
theorem X8r (hsg:Yet (s[i]?.getD 0)=true)(h1:s[i]?.getD 0=47/\(s.drop (i+1)).head? = some 47->K (.ret (.tup [])) (setO ob x (.box 228 (scV s ((i+tw Qg s i:Nat):Int) y ts.length))))
  (h2:¬(s[i]?.getD 0=47/\(s.drop (i+1)).head? = some 47)->K (.ret (.tup [])) (Xet ob x y s ts 3 [s[i]?.getD 0] 0 i 1)):ACall P 132 [.ptr x []] ob K:=by
 refine Xo hP mixed Yqe Ywt TOk.nil ?_
 intro _ hm
 have hw:=Xka hi (by omega)
 have hle:=Xr0 Qg s i (by omega)
 simp[Ytl,hx,hw,show i<=s.length by omega]
 refine PCall.data (ds:=[.str (s.drop i),.str [47,47]]) rfl (X1f hP _ _ ?_)
 have hpre:([47,47]:List UInt8).isPrefixOf (s.drop i)=decide (s[i]?.getD 0=47/\(s.drop (i+1)).head? = some 47):=by
  rw[Ua hi]
  cases hd:s.drop (i+1) with
  | nil=>simp[List.isPrefixOf]
  | cons a r=>
   rw[Bool.eq_iff_iff]
   simp only[List.isPrefixOf,Bool.and_eq_true,beq_iff_eq,Bool.and_true,decide_eq_true_eq,List.head?_cons,Option.some.injEq]
   exact⟨fun h=>⟨h.1.symm,h.2.symm⟩,fun h=>⟨h.1.symm,h.2.symm⟩⟩
 rw[hpre]
 simp[hx,hw]
 refine⟨fun e1 e2=>?_,fun e=>⟨by omega,?_⟩⟩
 ·refine PCall.borrow (n:=5) (ds:=[.ref (scD s i ts),.fn 223 [] []]) (by simp[hx,hy]) ?_
  refine X8p hP s i (by omega) (by omega) ts _ [] [] Qg (Xe3 hP).2.2 (fun c K h=>by simpa using X8q hP c h) ?_
  have hl:((s.drop i).takeWhile Qg).length=tw Qg s i:=rfl
  have hw2:IntKind.i64.wrap ((i:Int)+tw Qg s i)=(i:Int)+tw Qg s i:=IntWalk.i64_in _ (by omega)
  simp[hl,hw2]
  refine⟨[],by simp,?_,?_⟩
  ·simp
   exact Xq _ _ _ _ _ (hm _) (by simp[hy])
  ·have:=h1 ⟨e1,by rw[Xip]; exact e2⟩
   simpa using this
 ·have htx:(s.take (i+1)).drop i=[s[i]?.getD 0]:=by
   rw[List.drop_take,Nat.add_sub_cancel_left,Ua hi]; rfl
  rw[htx]
  refine X8h hP (y:=y) s i 1 3 0 0 _ ts (by omega) hts hx hy ?_
  simp
  refine⟨[],by simp,?_,?_⟩
  ·simp
   exact Xq _ _ _ _ _ (Y1 _ _ _ _ _ _ (hm _)) (by simp[hy])
  ·have:=h2 (fun e1=>e e1.1 (by rw[<-Xip]; exact e1.2))
   simpa[Xet]using this
end
end
end Go.Proofs.YtolkimpelpnpbaaGreatDoor
namespace Go.Proofs.YtolkimpelpnpbaaGreatDoor
open Go Go.Ab Go.Lx
section
variable {P:Prg} (hP:P.p=Tryz.prog)
include hP
theorem Yf4 {ob:Xa}{a b c:Nat}{K:Xa->Prop}(h:K ob):DCall P 126 [.ptr a [],.ptr b [],.ptr c []] ob none K:=by
 refine DCall.of_wf fun _ hm=>?_
 refine Xdw hP mixed Yeg Yl8 Yl6 TOk.nil ?_
 simp[Xll,Xlk,Yfk]
 refine⟨[],by simp,?_,?_⟩
 ·simp[hm]
 ·simpa using h
theorem Yf5 {ob:Xa}{a b c:Nat}{i:Int}{K:Xa->Prop}{va vb vc:V}{Ea Eb Ec:Nat}(ha:Xe ob a=some (.box Ea va))(hb:Xe ob b=some (.box Eb vb))(hc:Xe ob c=some (.box Ec vc))(sa:va.shape=.leaf)(sb:vb.shape=.leaf)(sc:vc.shape=.leaf)
  (hab:(a==b)=false) (hac:(a==c)=false) (hbc:(b==c)=false) (h:K (setO (setO (setO ob a (.box Ea (.d .nils))) b (.box Eb (.d (.int .i64 i)))) c (.box Ec (.d (.int .i64 90))))):DCall P 126 [.ptr a [],.ptr b [],.ptr c []] ob (some (.d (.iface 222 (.int .i64 i)))) K:=by
 refine DCall.of_wf fun _ hm=>?_
 refine Xdw hP mixed Yeg Yl8 Yl6 TOk.nil ?_
 simp[Xll,Xlk,Yfk,X0k,ha,hb,hc,hab,hac,hbc,sa,sb,sc]
 refine⟨[],by simp,?_,?_⟩
 ·rw[Q1 (by simp)]
  exact Xq _ _ _ _ _ (Xq _ _ _ _ _ (Xq _ _ _ _ _ (hm _) (by simp)) (by simp)) (by simp)
 ·rw[Q1 (by simp)]
  exact h
theorem X1n:Xm P.p 126=true/\Xm P.p 128=true/\Xm P.p 129=true/\Xm P.p 130=true/\Xm P.p 131=true/\Xm P.p 132=true:=by
 rw[hP]; exact⟨by kernel_rfl,by kernel_rfl,by kernel_rfl,by kernel_rfl,by kernel_rfl,by kernel_rfl⟩
omit hP in
theorem Xzu (f g:Nat->Int):(Uv f).shape=(Uv g).shape:=by
 simp only[Uv,Xg4,D.shape,D.shapes_eq,List.map_map,Function.comp_def]
theorem Yul (s:List UInt8){ob:Xa}{K:V->Prop}(h:K (Yl4 s)):PCall P 74 [.d (.str s)] ob K:=by
 refine Xbc hP mixed (ds:=[.str s]) Y9c Zdr TOk.nil ?_
 obtain⟨d0,d1,d2,d3,d4,d5⟩:=X1n hP
 simp only[Y66,Xkf,X70]
 simp[d0]
 refine⟨fun hl=>?_,fun hl=>?_⟩
 ·simpa[Yl4,show 65536<s.length by omega]using h
 ·have hl':¬65536<s.length:=by omega
  simp only[Yl4,gt_iff_lt,hl',if_false]at h
  refine Xqq hP ?_
  simp[Y3s]
  refine⟨Xzu _ _,?_⟩
  refine ALoop.go (ι:=Nat×List Tok) (fun _=>[(0,.d (.str s)),(2,.ptr 0 []),(3,.ptr 1 []),(4,.ptr 2 []),(5,.ptr 3 []),(6,.ptr 5 [])])
   (fun k=>[(5,.box 229 (.agg [.fn 128 [.ptr 3 []] [],.fn 129 [.ptr 3 []] [],.fn 130 [.ptr 3 []] [],.fn 131 [.ptr 3 []] [],.fn 132 [.ptr 3 []] []])),
    (4,.arr 153 4 (k.2.map Tok.enc)),(3,.box 228 (scV s k.1 4 k.2.length)),(2,.box 46 (.d (.int .i64 0))),(1,.box 3 (.d (.int .i64 0))),(0,.box 141 (.d .nils))])
   (fun k=>k.1<=s.length/\k.2.length<=k.1/\Xhe s 0=Xz7 k.2 (Xhe (s.drop k.1) k.1)) (fun k=>s.length-k.1) (0,[]) ⟨by simp,by simp,by simp[X03]⟩ rfl (by simp) ?_
  rintro⟨i,out⟩ ⟨hi,ho,he⟩ R rn re _ rp
  simp only at hi ho he
  have nx:∀j out' ob',j<=s.length->out'.length<=j->Xhe s 0=Xz7 out' (Xhe (s.drop j) j)->i<j->ob'=[(5,.box 229 (.agg [.fn 128 [.ptr 3 []] [],.fn 129 [.ptr 3 []] [],.fn 130 [.ptr 3 []] [],.fn 131 [.ptr 3 []] [],.fn 132 [.ptr 3 []] []])),
    (4,.arr 153 4 (out'.map Tok.enc)),(3,.box 228 (scV s j 4 out'.length)),(2,.box 46 (.d (.int .i64 0))),(1,.box 3 (.d (.int .i64 0))),(0,.box 141 (.d .nils))]->R .normal [(0,.d (.str s)),(2,.ptr 0 []),(3,.ptr 1 []),(4,.ptr 2 []),(5,.ptr 3 []),(6,.ptr 5 [])] ob':=fun j out' ob' h1 h2 h3 h4 h6=>
   rn [] (j,out') _ _ ⟨h1,h2,h3⟩ (by simp only; omega) rfl (by rw[h6]; simp[Xd]) (by simp[Xd]) (by simp[Xd])
  clear rn
  by_cases hlt:i<s.length
  ·rw[Ybl hlt]at he
   generalize hc:s[i]?.getD 0=c at *
   have hc':s[i]=c:=by rw[<-hc]; simp[hlt]
   have hcl:=c.toNat_lt
   have hout:(out.map Tok.enc).length<=1000000:=by simp; omega
   have pan:Xhe s 0=.err i->R (.panic (.d (.iface 222 (.int .i64 i)))) [(2,.ptr 0 []),(3,.ptr 1 []),(4,.ptr 2 [])] [(5,.box 229 (.agg [.fn 128 [.ptr 3 []] [],.fn 129 [.ptr 3 []] [],.fn 130 [.ptr 3 []] [],.fn 131 [.ptr 3 []] [],.fn 132 [.ptr 3 []] []])),
    (4,.arr 153 4 (out.map Tok.enc)),(3,.box 228 (scV s i 4 out.length)),(2,.box 46 (.d (.int .i64 0))),(1,.box 3 (.d (.int .i64 0))),(0,.box 141 (.d .nils))]:=fun hr=>by
    refine rp _ _ _ ?_
    simp
    refine Yf5 hP (Ea:=141) (Eb:=3) (Ec:=46) (va:=.d .nils) (vb:=.d (.int .i64 0)) (vc:=.d (.int .i64 0)) (by simp) (by simp) (by simp) (by simp) (by simp) (by simp) rfl rfl rfl ?_
    simp
    rw[hr]at h
    exact h
   have hx:∀(o5:Ob),Xe [(5,o5),(4,Ob.arr 153 4 (out.map Tok.enc)),(3,Ob.box 228 (scV s i 4 (out.map Tok.enc).length)),(2,.box 46 (.d (.int .i64 0))),(1,.box 3 (.d (.int .i64 0))),(0,.box 141 (.d .nils))] 3=some (.box 228 (scV s i 4 (out.map Tok.enc).length)):=fun _=>by simp
   have hcr:=Xt9 c.toNat hcl
   have cls:∀m:Nat,Xhd c.toNat=m->(Xhd c.toNat).toNat=m:=fun m e=>by omega
   have g1:=Xua c.toNat hcl
   have g2:=Xdv c.toNat hcl
   have g3:=Xb6 c.toNat hcl
   have g4:=X1p c.toNat hcl
   have e47:Xhd c.toNat ≠ 4->¬(c=47/\(s.drop (i+1)).head? = some 47):=fun hne h=>by
    obtain⟨rfl,_⟩:=h; exact hne (by decide +kernel)
   have key:∀m:Int,Xhd c.toNat=m->(Xp6 c=decide (m=1))/\(Xcm c=decide (m=2))/\(Yh c=decide (m=3))/\(Yet c=decide (m=4)):=fun m e=>by
    rw[e]at g1 g2 g3 g4
    refine⟨?_,?_,?_,?_⟩<;>rw[Bool.eq_iff_iff,decide_eq_true_eq]
    ·exact g1.symm
    ·exact g2.symm
    ·exact g3.symm
    ·exact g4.symm
   have htwt:∀p:UInt8->Bool,p c=true->tw p s i=((s.drop (i+1)).takeWhile p).length+1/\(s.drop i).takeWhile p=c::(s.drop (i+1)).takeWhile p:=fun p hp=>by
    refine⟨(Yey p hlt (by rw[hc]; exact hp)).2,?_⟩
    rw[Ua hlt,hc,List.takeWhile_cons,if_pos hp]
   rcases (by omega:Xhd c.toNat=0\/Xhd c.toNat=1\/Xhd c.toNat=2\/Xhd c.toNat=3\/Xhd c.toNat=4) with e | e | e | e | e
   ·obtain⟨k1,k2,k3,k4⟩:=key 0 e
    simp only[stp,k1,k2,k3,k4,e47 (by rw[e]; decide),if_false,Xz7]at he
    simp[J0,hlt,hc',hcl,show (c.toNat:Int)<256 by omega,e,d1]
    refine X8n hP s i (out.map Tok.enc) (y:=4) (by simp) ?_
    simp
    exact pan (by simpa using he)
   ·obtain⟨k1,k2,k3,k4⟩:=key 1 e
    simp[stp,k1]at he
    simp[J0,hlt,hc',hcl,show (c.toNat:Int)<256 by omega,e,d2]
    refine X8s hP s i (out.map Tok.enc) (by omega) hlt (y:=4) (by simp) (by simp) ?_
    simp
    refine nx (i+1) out _ (by omega) (by omega) he (by omega) (by simp)
   ·obtain⟨k1,k2,k3,k4⟩:=key 2 e
    have hp:Va c=true:=by
     have:Zu c.toNat=true:=by simpa[Xcm]using k2
     simp[Va,Xcu,this]
    obtain⟨t1,t2⟩:=htwt Va hp
    have hle:=Xr0 Va s i (by omega)
    have k1:Xp6 c=false:=by simpa using k1
    have k2:Xcm c=true:=by simpa using k2
    simp only[stp,k1,k2,e47 (by rw[e]; decide),Bool.false_eq_true,if_false,if_true]at he
    simp[J0,hlt,hc',hcl,show (c.toNat:Int)<256 by omega,e,d3]
    refine Yf2 hP s i (out.map Tok.enc) (by omega) hlt hout (y:=4) (by simp) (by simp) (fun h5=>?_) (fun h5=>?_)
    ·simp
     rw[if_neg (by omega)]at he
     exact pan (by simpa[Xz7]using he)
    ·simp[Xet]
     rw[if_pos (by omega)]at he
     simp only[Xew]at he
     have hjj:i+((s.drop (i+1)).takeWhile Va).length+1=i+tw Va s i:=by omega
     rw[hjj]at he
     refine nx (i+tw Va s i) (out++[⟨1,c::(s.drop (i+1)).takeWhile Va,0,i⟩]) _ (by omega) (by simp; omega) he (by omega) ?_
     simp[Tok.enc,t2]
   ·obtain⟨k1,k2,k3,k4⟩:=key 3 e
    have hp:Yh c=true:=by simpa using k3
    obtain⟨t1,t2⟩:=htwt Yh hp
    have hle:=Xr0 Yh s i (by omega)
    have k1:Xp6 c=false:=by simpa using k1
    have k2:Xcm c=false:=by simpa using k2
    simp only[stp,k1,k2,hp,e47 (by rw[e]; decide),Bool.false_eq_true,if_false,if_true]at he
    simp[J0,hlt,hc',hcl,show (c.toNat:Int)<256 by omega,e,d4]
    refine Xty hP s i (out.map Tok.enc) (by omega) hlt hout (y:=4) (by simp) (by simp) (by rw[hc]; exact hp) (fun h5=>?_) (fun m h5=>?_)
    ·simp
     rw[t2]at h5
     rw[h5]at he
     exact pan (by simpa[Xz7]using he)
    ·simp[Xet]
     rw[t2]at h5
     rw[h5]at he
     simp only[Xew]at he
     have hjj:i+((s.drop (i+1)).takeWhile Yh).length+1=i+tw Yh s i:=by omega
     rw[hjj]at he
     refine nx (i+tw Yh s i) (out++[⟨2,[],m,i⟩]) _ (by omega) (by simp; omega) he (by omega) ?_
     simp[Tok.enc]
   ·obtain⟨k1,k2,k3,k4⟩:=key 4 e
    simp[J0,hlt,hc',hcl,show (c.toNat:Int)<256 by omega,e,d5]
    refine X8r hP s i (out.map Tok.enc) (by omega) hlt hout (y:=4) (by simp) (by simp) (by rw[hc]; simpa using k4) (fun h5=>?_) (fun h5=>?_)
    ·rw[hc]at h5
     obtain⟨rfl,h6⟩:=h5
     obtain⟨t1,t2⟩:=htwt Qg rfl
     have hle:=Xr0 Qg s i (by omega)
     simp only[stp,k1,h6,and_self,if_true,decide_eq_true_eq,show ¬((4:Int)=1) by decide,if_false]at he
     simp
     have hjj:i+((s.drop (i+1)).takeWhile Qg).length+1=i+tw Qg s i:=by omega
     rw[hjj]at he
     refine nx (i+tw Qg s i) out _ (by omega) (by omega) he (by omega) ?_
     simp
    ·rw[hc]at h5
     simp only[stp,k1,k2,k3,k4,h5,if_false,decide_eq_true_eq,show ¬((4:Int)=1) by decide,show ¬((4:Int)=2) by decide,show ¬((4:Int)=3) by decide,if_true,Xew]at he
     simp[Xet]
     refine nx (i+1) (out++[⟨3,[c],0,i⟩]) _ (by omega) (by simp; omega) he (by omega) ?_
     simp[Tok.enc,hc]
  ·have hi':i=s.length:=by omega
   subst hi'
   simp[J0]
   refine re _ _ _ ?_
   simp
   refine Yf4 hP ?_
   simp
   rw[X38 (Nat.le_refl _)]at he
   rw[he]at h
   simpa[Xz7,Y26,Yex]using h
end
end Go.Proofs.YtolkimpelpnpbaaGreatDoor
namespace Go.Ab
open Go
def S.rgs:S->List (Nat×List Nat×S×S)
 | .seq a b=>a.rgs++b.rgs
 | .cond _ a b=>a.rgs++b.rgs
 | .block _ a=>a.rgs
 | .loop _ a=>a.rgs
 | .rgf tag ps _ x y _=>[(tag,ps,x,y)]
 | _=>[]
theorem S.loops_rgs {P:Prg}:∀s:S,(∀t∈s.rgs,Vc P t.1 t.2.1 t.2.2.1 t.2.2.2)->s.loops P
 | .seq a b,h=>⟨S.loops_rgs a fun t ht=>h t (List.mem_append_left _ ht),S.loops_rgs b fun t ht=>h t (List.mem_append_right _ ht)⟩
 | .cond _ a b,h=>⟨S.loops_rgs a fun t ht=>h t (List.mem_append_left _ ht),S.loops_rgs b fun t ht=>h t (List.mem_append_right _ ht)⟩
 | .block _ a,h=>S.loops_rgs a h
 | .loop _ a,h=>S.loops_rgs a h
 | .rgf tag ps _ x y _,h=>h (tag,ps,x,y) (List.mem_singleton.2 rfl)
 | .rg _ _ _ _,_ | .rgT _ _ _ _,_ | .skip,_ | .exit _,_ | .ret,_=>trivial
theorem Xi4 {p:Nat->FI->Bool}:∀{F:FT} {f:Nat} {x:FI},F.all (fun e=>p e.1 e.2)=true->Qi F f=some x->p f x=true
 | [],_,_,_,h=>by cases h
 | (j,y)::r,f,x,ha,h=>by
  simp only[List.all_cons,Bool.and_eq_true]at ha
  simp only[Qi,Bool.cond_eq_ite]at h
  split at h
  ·rename_i e
   cases h
   have:=Nat.eq_of_beq_eq_true e
   subst this
   exact ha.1
  ·exact Xi4 ha.2 h
end Go.Ab
namespace Go.Py
open Go Go.Ab Go.Lx
theorem X4k:∀{n:Nat} {sn:List Nat},n<=3->sn.Perm (List.range n)->sn∈Yei n
 | 0,sn,_,h=>by
  have:sn=[]:=by simpa using h.length_eq
  simp[Yei,this]
 | 1,sn,_,h=>by
  have:sn=[0]:=by simpa[List.range,List.range.loop]using h
  simp[Yei,this]
 | 2,sn,_,h=>by
  have hl:=h.length_eq
  have hn:=h.nodup_iff.2 List.nodup_range
  have hm:∀x∈sn,x<2:=fun x hx=>by simpa using (h.mem_iff.1 hx)
  match sn,hl with
  | [a,b],_=>
   have ha:=hm a (by simp); have hb:=hm b (by simp)
   have:a ≠ b:=by simpa using hn
   have:a=0/\b=1\/a=1/\b=0:=by omega
   rcases this with⟨rfl,rfl⟩ | ⟨rfl,rfl⟩<;>simp[Yei]
 | 3,sn,_,h=>by
  have hl:=h.length_eq
  have hn:=h.nodup_iff.2 List.nodup_range
  have hm:∀x∈sn,x<3:=fun x hx=>by simpa using (h.mem_iff.1 hx)
  match sn,hl with
  | [a,b,c],_=>
   have ha:=hm a (by simp); have hb:=hm b (by simp); have hc:=hm c (by simp)
   have h1:(a ≠ b/\a ≠ c)/\b ≠ c:=by simpa using hn
   obtain⟨⟨h1,h2⟩,h3⟩:=h1
   have:a=0/\b=1/\c=2\/a=0/\b=2/\c=1\/a=1/\b=0/\c=2\/a=1/\b=2/\c=0\/a=2/\b=0/\c=1\/a=2/\b=1/\c=0:=by omega
   rcases this with⟨rfl,rfl,rfl⟩ | ⟨rfl,rfl,rfl⟩ | ⟨rfl,rfl,rfl⟩ | ⟨rfl,rfl,rfl⟩ | ⟨rfl,rfl,rfl⟩ | ⟨rfl,rfl,rfl⟩<;>simp[Yei]
 | n+4,_,h,_=>by omega
theorem X81 {e:D×V}{p:Int×Int}(h:Yuv e=some p):e=Qa p:=by
 unfold Yuv at h
 split at h
 ·cases h; rfl
 ·cases h
theorem Xe6:∀{es:List (D×V)} {l:List (Int×Int)},X1s es=some l->es=l.map Qa
 | [],l,h=>by cases h; rfl
 | e::r,l,h=>by
  unfold X1s at h
  split at h
  ·rename_i p l' h1 h2
   cases h
   rw[X81 h1,Xe6 h2]; rfl
  ·cases h
end Go.Py
namespace Go.Proofs.YtolkimpelpnpbaaGreatDoor
open Go Go.Ab Go.Lx Go.Py
structure IvlZ (P:Prg):Prop where
 factors:GlobIs P 0 (.agg [.int .i64 2,.int .i64 1000])
 editions:GlobIs P 1 (.agg [.int .i64 1,.int .i64 255])
 mosts:GlobIs P 2 (.agg [.int .i64 0,.int .i64 32])
 weights:GlobIs P 3 (.agg [.int .i64 0,.int .i64 9])
 anyN:GlobIs P 4 (.agg [.int .i64 0,.int .i64 1048576])
structure LoopZ (P:Prg):Prop where
 keys:Xa6 P
 change:Vc P 18 [34] ir18900 ir18901
 ints:Vc P 260 [7] ir260900 ir260901
section
variable {P:Prg} (hP:P.p=Tryz.prog) (hI:IvlZ P) (hL:LoopZ P)
include hP hI hL
theorem X7l (g:Nat)(x:D)(h:xgl g=some x):GlobIs P g x:=by
 simp only[xgl,Bool.cond_eq_ite]at h
 split at h
 ·rename_i e; cases h; rw[Nat.eq_of_beq_eq_true e]; exact hI.factors
 split at h
 ·rename_i e; cases h; rw[Nat.eq_of_beq_eq_true e]; exact hI.editions
 split at h
 ·rename_i e; cases h; rw[Nat.eq_of_beq_eq_true e]; exact hI.mosts
 split at h
 ·rename_i e; cases h; rw[Nat.eq_of_beq_eq_true e]; exact hI.weights
 split at h
 ·rename_i e; cases h; rw[Nat.eq_of_beq_eq_true e]; exact hI.anyN
 ·cases h
theorem X7m:xz0.ok P:=⟨fun _ _ _ _ _ h=>(by cases h),fun _ _ _ _ h=>(by cases h),fun _ h=>(by cases h),X7l hP hI hL,fun _ _ _ _ _ h=>(by cases h),fun _ _ _ _ _ h=>(by cases h)⟩
theorem Xpi (tag:Nat)(ps:List Nat)(x y:S)(h:xlt tag=some (ps,x,y)):Vc P tag ps x y/\x.noR=true/\y.noR=true:=by
 simp only[xlt,Bool.cond_eq_ite]at h
 split at h
 ·rename_i e; cases h; rw[Nat.eq_of_beq_eq_true e]; exact⟨hL.change,by kernel_rfl,by kernel_rfl⟩
 split at h
 ·rename_i e; cases h; rw[Nat.eq_of_beq_eq_true e]; exact⟨hL.ints,by kernel_rfl,by kernel_rfl⟩
 ·cases h
theorem Xbs:FT.lps P Wl:=by
 intro f x h
 have h1:=Xi4 (p:=fun f x=>Nat.beq f 18||Nat.beq f 204||Nat.beq f 260||x.nr) (F:=Wl) (by kernel_rfl) h
 simp only[Bool.or_eq_true]at h1
 rcases h1 with ((e | e) | e) | e
 ·rw[Nat.eq_of_beq_eq_true e]at h
  have h2:Qi Wl 18=some (.br Yij [.c 4 1 false,.c 5 1 false] 2):=by kernel_rfl
  rw[h2]at h; cases h
  refine S.loops_rgs Yij fun t ht=>?_
  have h3:Yij.rgs=[(18,[34],ir18900,ir18901)]:=by kernel_rfl
  rw[h3]at ht
  rw[List.mem_singleton.1 ht]; exact hL.change
 ·rw[Nat.eq_of_beq_eq_true e]at h
  have h2:Qi Wl 204=some (.pr Xq9 [.t 4] 2):=by kernel_rfl
  rw[h2]at h; cases h
  refine S.loops_rgs Xq9 fun t ht=>?_
  have h3:Xq9.rgs=[(204,[7],ir204900,ir204901)]:=by kernel_rfl
  rw[h3]at ht
  rw[List.mem_singleton.1 ht]; exact hL.keys
 ·rw[Nat.eq_of_beq_eq_true e]at h
  have h2:Qi Wl 260=some (.pr Xwc [.t 4] 2):=by kernel_rfl
  rw[h2]at h; cases h
  refine S.loops_rgs Xwc fun t ht=>?_
  have h3:Xwc.rgs=[(260,[7],ir260900,ir260901)]:=by kernel_rfl
  rw[h3]at ht
  rw[List.mem_singleton.1 ht]; exact hL.ints
 ·exact x.lps_nr e
theorem X4u {ob:Xa}{a:Nat}{fs:List (Int×Int)}{sn:List Nat}{s:List D}(h:Yfe ob a fs sn=some s):s.length=sn.length/\ACall P 108 [.sl a sn.length,.fn 54 [] []] ((a,.arr 76 2 (sn.map fun i=>fD (atF fs i)))::ob) fun o b=>o=.ret (.tup [])/\b=(a,.arr 76 2 s)::ob:=by
 have fo:=Xcf (P:=P) (L:=100) (F:=Wl) (by rw[hP]; exact mixed) (by rw[hP]; exact Xg3) (Xbs hP hI hL) (X7m hP hI hL) (fun _ _ _ _ h=>by cases h) 12
 unfold Yfe at h
 generalize hq:(fns 100 Wl xz0 12).call 108 [.sl a sn.length,.fn 54 [] []] ((a,.arr 76 2 (sn.map fun i=>fD (atF fs i)))::ob)=q at h
 unfold Y9l at h
 split at h
 ·rw[Bool.cond_eq_ite]at h
  split at h
  ·rename_i e
   cases h
   simp only[Bool.and_eq_true]at e
   obtain⟨⟨⟨e1,e2⟩,e3⟩,e4⟩:=e
   have e1:=Nat.eq_of_beq_eq_true e1
   have e3:=Nat.eq_of_beq_eq_true e3
   have e4:=Qb _ _ e4
   subst e1; subst e3; subst e4
   exact⟨Nat.eq_of_beq_eq_true e2,fo.call _ _ _ _ _ hq⟩
  ·cases h
 ·cases h
theorem Xny {ob:Xa}{a:Nat}{fs:List (Int×Int)}{s:List D}:∀{l:List (List Nat)},Ysb ob a fs s l=true->∀sn∈l,Yfe ob a fs sn=some s
 | [],_,sn,hm=>by cases hm
 | x::r,h,sn,hm=>by
  simp only[Ysb,Bool.and_eq_true]at h
  rcases List.mem_cons.1 hm with rfl | hm
  ·have h1:=h.1
   split at h1
   ·rename_i l e
    rw[e,D.eqbs_eq _ _ h1]
   ·cases h1
  ·exact Xny h.2 sn hm
theorem X0y {ob:Xa}{bx E m:Nat}{fs:List (Int×Int)}(hb:Xe ob bx=some (.box E (.mp m)))(hm:Xe ob m=some (.map (fs.map Qa)))(hn:fs.length<=3){o:Out}{b:Xa}(hne:fs ≠ [])(h:X4z ob fs=some (o,b)):ACall P 52 [.fn 109 [] [.ptr bx []],.fn 54 [] []] ob fun o' b'=>o'=o/\b'=b:=by
 refine Xo hP mixed Ysu Yx0 TOk.nil fun _ hno=>?_
 simp[Yue]
 refine Xbu hP hL.keys hb hm (by omega) (fun e=>absurd (List.length_eq_zero_iff.1 e) hne) (fun sn hs hsn=>?_)
 have hmem:=X4k hn hs
 unfold X4z at h
 split at h
 ·rename_i s0 r e0
  split at h
  ·rename_i s e1
   rw[Bool.cond_eq_ite]at h
   split at h
   ·rename_i e2
    cases h
    have hrun:Yfe ob (Xb ob+5) fs sn=some s:=by
     rw[e0]at hmem
     rcases List.mem_cons.1 hmem with e | e
     ·rw[e]; exact e1
     ·exact Xny hP hI hL e2 sn e
    obtain⟨hlen,hcall⟩:=X4u hP hI hL hrun
    simp[Xes]
    refine hcall.mono fun o b ⟨h1,h2⟩=>?_
    subst h1; subst h2
    rw[<-hlen]
    simp[Xer]
    refine⟨[],by simp,?_,?_⟩
    ·simp[Xd]; exact hno _
    ·simp[Xd]
   ·cases h
  ·cases h
 ·cases h
theorem Xtc {ob:Xa}{bx E m:Nat}(hb:Xe ob bx=some (.box E (.mp m)))(hm:Xe ob m=some (.map [])){o:Out}{b:Xa}(h:Yyn ob ((fns 100 Wl xz0 12).call 108 [.d .nils,.fn 54 [] []] ob)=some (o,b)):ACall P 52 [.fn 109 [] [.ptr bx []],.fn 54 [] []] ob fun o' b'=>o'=o/\b'=b:=by
 have fo:=Xcf (P:=P) (L:=100) (F:=Wl) (by rw[hP]; exact mixed) (by rw[hP]; exact Xg3) (Xbs hP hI hL) (X7m hP hI hL) (fun _ _ _ _ h=>by cases h) 12
 refine Xo hP mixed Ysu Yx0 TOk.nil fun _ hno=>?_
 simp[Yue]
 refine Xbu (fs:=[]) hP hL.keys hb hm (by simp) (fun _=>?_) (fun sn hs hsn=>absurd (by simpa using hs.length_eq) hsn)
 generalize hq:(fns 100 Wl xz0 12).call 108 [.d .nils,.fn 54 [] []] ob=q at h
 unfold Yyn at h
 split at h
 ·rw[Bool.cond_eq_ite]at h
  split at h
  ·rename_i e
   cases h
   have e:=Qb _ _ e
   subst e
   simp[Xes]
   refine (fo.call _ _ _ _ _ hq).mono fun o b ⟨h1,h2⟩=>?_
   subst h1; subst h2
   simp[Xer]
   exact⟨[],by simp,by simpa using hno [],by simp⟩
  ·cases h
 ·cases h
theorem X5c (f:Nat)(vs:List V)(ob:Xa)(o:Out)(b:Xa)(h:xcall f vs ob=some (o,b)):ACall P f vs ob fun o' b'=>o'=o/\b'=b:=by
 unfold xcall at h
 rw[Bool.cond_eq_ite]at h
 split at h
 ·rename_i ef
  rw[Nat.eq_of_beq_eq_true ef]
  split at h
  ·rename_i g bx hh
   rw[Bool.cond_eq_ite]at h
   split at h
   ·rename_i e
    simp only[Bool.and_eq_true]at e
    rw[Nat.eq_of_beq_eq_true e.1,Nat.eq_of_beq_eq_true e.2]
    generalize hb:Xe ob bx=ox at h
    unfold Yrs at h
    split at h
    ·rename_i E m
     generalize hm:Xe ob m=om at h
     unfold Yrr at h
     split at h
     ·rename_i es
      split at h
      ·rename_i hd
       rw[Xe6 hd]at hm
       exact Xtc hP hI hL hb hm h
      ·rename_i fs hne hd
       rw[Xe6 hd]at hm
       have hn:fs.length<=3:=by
        rcases Nat.lt_or_ge 3 fs.length with h4 | h4
        ·exfalso
         unfold X4z at h
         have:Yei fs.length=[]:=by
          match hk:fs.length,h4 with
          | k+4,_=>rfl
         rw[this]at h
         cases h
        ·exact h4
       exact X0y hP hI hL hb hm hn (fun e=>hne e) h
      ·cases h
     ·cases h
    ·cases h
   ·cases h
  ·cases h
 ·cases h
theorem Y3c:xz.ok P:=by
 refine⟨X5c hP hI hL,fun f vs ob v h=>?_,fun f h=>?_,X7l hP hI hL,fun _ _ _ _ _ h=>(by cases h),fun f vs ob v b h=>?_⟩
 ·simp only[xz]at h
  unfold xpc at h
  split at h
  ·rename_i s
   rw[Bool.cond_eq_ite]at h
   split at h
   ·rename_i e
    cases h
    rw[Nat.eq_of_beq_eq_true e,X39]
    exact Yul hP s rfl
   ·cases h
  ·cases h
 ·simp only[xz]at h
  rw[Nat.eq_of_beq_eq_true h]
  exact Xtz hP
 ·simp only[xz]at h
  unfold xxc at h
  split at h
  ·exact Xh0 hP Xn9 Xt8 h
  ·cases h
end
end Go.Proofs.YtolkimpelpnpbaaGreatDoor
namespace Go.Py
open Go Go.Ab Go.Lx
structure Ent where
 f:Nat
 xs:List D
 v:V
def Ysl (f:Nat)(ds:List D):List Ent->Option V
 | []=>none
 | e::r=>bif Nat.beq f e.f&&D.eqbs ds e.xs then some e.v else Ysl f ds r
def Ye4 (f:Nat)(l:List Ent):Option (List D)->Option V
 | some ds=>Ysl f ds l
 | none=>none
end Go.Py
namespace Go.Proofs.YtolkimpelpnpbaaGreatDoor
open Go Go.Ab Go.Lx Go.Py
def pcE (l:List Ent)(f:Nat)(vs:List V):Option V:=match Ye4 f l (V.allD vs) with
 | some v=>some v
 | none=>xpc f vs
def xzE (l:List Ent):Fns:=⟨xcall,fun f vs _=>pcE l f vs,fun f=>Nat.beq f 109,xgl,fun _ _ _=>none,xlt,xxc⟩
section
variable {P:Prg} (hP:P.p=Tryz.prog) (hI:IvlZ P) (hL:LoopZ P)
include hP hI hL
theorem Ye0:(xzE []).ok P:=by
 have h:=Y3c hP hI hL
 refine⟨h.call,fun f vs ob v hv=>?_,h.ca,h.gl,h.yd,h.xc⟩
 refine h.pc f vs ob v ?_
 simp only[xzE,pcE]at hv
 cases hd:V.allD vs with
 | none=>rw[hd]at hv; exact hv
 | some ds=>rw[hd]at hv; exact hv
theorem Xu {l:List Ent}{e:Ent}(h:(xzE l).ok P)(he:∀ob,(fns 3000 Wl (xzE l) 40).pc e.f (e.xs.map .d) ob=some e.v):(xzE (e::l)).ok P:=by
 have fo:=Xcf (P:=P) (L:=3000) (F:=Wl) (by rw[hP]; exact mixed) (by rw[hP]; exact Xg3) (Xbs hP hI hL) h (Xpi hP hI hL) 40
 refine⟨h.call,fun f vs ob v hv=>?_,h.ca,h.gl,h.yd,h.xc⟩
 have old:(pcE l f vs=some v)->PCall P f vs ob fun v'=>v'=v:=fun hv=>h.pc f vs ob v hv
 simp only[xzE]at hv
 unfold pcE at hv
 split at hv
 ·rename_i u hu
  cases hv
  cases hd:V.allD vs with
  | none=>rw[hd]at hu; cases hu
  | some ds=>
   rw[hd]at hu
   simp only[Ye4,Ysl,Bool.cond_eq_ite]at hu
   split at hu
   ·rename_i hc
    cases hu
    simp only[Bool.and_eq_true]at hc
    rw[V.allD_map hd,Nat.eq_of_beq_eq_true hc.1,D.eqbs_eq _ _ hc.2]
    exact fo.pc _ _ ob _ (he ob)
   ·refine old ?_
    unfold pcE
    rw[hd]
    simp only[Ye4,hu]
 ·rename_i hu
  refine old ?_
  unfold pcE
  cases hd:V.allD vs with
  | none=>simp only[Ye4]; exact hv
  | some ds=>
   rw[hd]at hu
   simp only[Ye4,Ysl,Bool.cond_eq_ite]at hu
   split at hu
   ·cases hu
   ·simp only[Ye4,hu]; exact hv
end
end Go.Proofs.YtolkimpelpnpbaaGreatDoor
