/- Texts of this claim joined by a program, part 2 of 20; the last is: That maps' iterators, calls by interfaces, slices made and cut do what Ab9 says of them. Over any program; no condition. -/
import Derived.Test.YtolkimpelpnpbaaGreatDoorS1
import Derived.OrdersHeld
import Derived.OrdersIn
import Derived.RangeFuncLeaves
import Derived.RangeFuncCalls
import Derived.Tactics
import Derived.TacticsIn
set_option linter.unusedSimpArgs false
set_option linter.unusedVariables false
set_option linter.unusedSectionVars false
set_option linter.defProp false
namespace Go.Ab
open Go

def Xbg (P:Program)(o:Oper)(a:Act)(next:Act->World->Prop)(Q:Exit->Act->World->Prop):Result Next->Prop
 | .ok (.value v) w'=>next (a.put o.dst v) w'
 | .ok .skip w'=>next (a.put o.dst undef) w'
 | .ok (.enter f args) w'=>Calls P f args w' fun
   | .returned v,w''=>next (a.put o.dst v) w''
   | .panicked chain,w''=>Q (.panic chain) a w''
   | .outgrown,_=>LetsOut Q
 | .ok (.round l f tmps assign body) w'=>RoundIn Fence.wide 0 P l f tmps assign body w' fun
   | .returned v,w''=>next (a.put o.dst v) w''
   | .panicked chain,w''=>Q (.panic chain) a w''
   | .outgrown,_=>LetsOut Q
 | .halt (.panic v) w'=>Q (.panic [{ v,recovered:=false }]) a w'
 | _=>False
def wpA (P:Program)(o:Oper)(a:Act)(w:World)(next:Act->World->Prop)(Q:Exit->Act->World->Prop):Prop:=
 Xbg P o a next Q ((execOp a.eval o).run P w)

def frm:Option Nat->Fence
 | none=>Fence.wide
 | some l=>Fence.wide.inRound l
theorem Xo5 (r:Option Nat)(f:Nat):(frm r).fn f:=by cases r<;>exact trivial
theorem Xii (r:Option Nat):(frm r).depth=none:=by cases r<;>rfl
theorem Xij (r:Option Nat):(frm r).round=r:=by cases r<;>rfl
theorem Xih {r:Option Nat}{n:Nat}{P:Program}{f:Nat}{args:Array Value}{w:World}{R:Ending->World->Prop}(h:Calls P f args w R):CallsIn (frm r) n P f args w R:=by
 cases r with
 | none=>exact callsIn_wide.2 h
 | some l=>exact (callsIn_wide (n:=n).2 h).inRound l
theorem Xq5 {r:Option Nat}{n:Nat}{P:Program}{l f:Nat}{tmps:Array Value}{assign body:Code}{w:World}{R:Ending->World->Prop}(h:RoundIn Fence.wide 0 P l f tmps assign body w R):RoundIn (frm r) n P l f tmps assign body w R:=by
 have h1:RoundIn Fence.wide n P l f tmps assign body w R:=⟨h.1,fun c cs _=>h.2 c cs (room_wide _)⟩
 cases r with
 | none=>exact h1
 | some j=>exact h1

section
variable {P:Program} {ops:Array Oper} {Q:Exit->Act->World->Prop} {md:Region.Mode} {S:World->Prop}

theorem X7k {o:Oper}(hd:∀c,o.op ≠ .defer c){a:Act}{w:World}{next:Act->World->Prop}{r:Option Nat}(h:wpA P o a w next Q):o.wpIn (frm r) 0 P a w next Q:=by
 unfold Oper.wpIn
 refine⟨fun f _=>Xo5 r f,?_⟩
 have hs:o.semAt (frm r).round a.eval=execOp a.eval o:=by
  rw[Xij]
  cases r with
  | none=>exact Oper.semAt_none _ _
  | some l=>exact Oper.semAt_some l _ o hd
 rw[hs]
 unfold wpA at h
 generalize (execOp a.eval o).run P w=x at h⊢
 have hdep:(frm r).depth.isSome=true->1<=0:=fun h=>by rw[Xii]at h; cases h
 cases x with
 | ok n w'=>
  cases n<;>simp only[Xbg]at h<;>simp only[Oper.uponIn]
  case value=>exact h
  case skip=>exact h
  case enter=>exact⟨hdep,Xih h⟩
  case round=>exact⟨hdep,Xq5 h⟩
 | halt x w'=>
  cases x<;>simp only[Xbg]at h<;>simp only[Oper.uponIn]
  exact h

theorem Xqb {o:Oper}{a:Act}{w:World}{K K':Act->World->Prop}(h:∀a w,K a w->K' a w)(hh:wpA P o a w K Q):wpA P o a w K' Q:=by
 unfold wpA at *
 generalize (execOp a.eval o).run P w=r at *
 cases r with
 | ok n w'=>
  cases n<;>simp only[Xbg]at hh⊢
  case value=>exact h _ _ hh
  case skip=>exact h _ _ hh
  case enter=>exact Calls.mono hh (fun e w'' he=>by cases e<;>first | exact h _ _ he | exact he)
  case round=>exact RoundIn.mono hh (fun e w'' he=>by cases e<;>first | exact h _ _ he | exact he)
 | halt x w'=>cases x<;>simp only[Xbg]at hh⊢<;>exact hh

def Qt (P:Program)(ops:Array Oper)(Q:Exit->Act->World->Prop)(i:Nat)(K:Act->World->Prop)(a:Act)(w:World):Prop:=
 match ops[i]? with
 | none=>K a w
 | some o=>if Region.wanted o (yielded ops a.tmps) then wpA P o a w K Q else K (a.put o.dst undef) w

theorem Wn {i:Nat}{a:Act}{w:World}{K K':Act->World->Prop}(h:∀a w,K a w->K' a w)(hh:Qt P ops Q i K a w):Qt P ops Q i K' a w:=by
 unfold Qt at *
 split
 ·exact h _ _ (by simpa[*]using hh)
 ·rename_i o ho
  simp only[ho]at hh
  split
  ·rename_i hw; simp only[hw,if_true]at hh; exact Xqb h hh
  ·rename_i hw; simp only[hw]at hh; exact h _ _ hh

theorem Xke {i:Nat}{o:Oper}{v:Value}{a:Act}(hi:ops[i]? = some o)(hy:YieldsIf P ops S o v a)
  {K:Act->World->Prop} {w:World} (hS:S w) (h:K (a.put o.dst v) w):Qt P ops Q i K a w:=by
 unfold Qt
 simp only[hi]
 rcases hy with⟨hw,hv⟩ | ⟨hw,rfl⟩
 ·simp only[hw,if_true,wpA,hv w hS,Xbg]; exact h
 ·simp only[hw,Bool.false_eq_true,if_false]; exact h

theorem Xm5 {j:Nat}{oi oj:Oper}{v:Value}(hj:ops[j]? = some oj)(hap:oi.apart ops oj=true)
  (hsi:∀cs b,oi.op ≠ .select cs b) (hsj:∀cs b,oj.op ≠ .select cs b)
  (hQ:∀c a w,Q (.panic c) (a.put oi.dst v) w->Q (.panic c) a w) {K:Act->World->Prop} {a:Act} {w:World}
  (hy:YieldsIf P ops S oi v a) (h:Qt P ops Q j K (a.put oi.dst v) w) :
  Qt P ops Q j (fun a' w'=>YieldsIf P ops S oi v a'/\K (a'.put oi.dst v) w') a w:=by
 obtain⟨h1,h2,h3⟩:=Oper.apart_spec hap
 have keep:∀(a:Act),YieldsIf P ops S oi v a->∀u,YieldsIf P ops S oi v (a.put oj.dst u):=fun a hy u=>
  hy.of_same (execOp_put oi hsi a oj.dst u h3) (wanted_put oi a oj.dst u h3)
 unfold Qt at *
 simp only[hj]at *
 rw[wanted_put oj a oi.dst v h1]at h
 split
 ·rename_i hw
  simp only[hw,if_true]at h
  unfold wpA at *
  rw[execOp_put oj hsj a oi.dst v h1]at h
  generalize (execOp a.eval oj).run P w=r at *
  cases r with
  | ok n w'=>
   cases n<;>simp only[Xbg]at h⊢
   case value u=>exact⟨keep a hy u,by rw[<-Act.put_comm a v u h2]; exact h⟩
   case skip=>exact⟨keep a hy _,by rw[<-Act.put_comm a v undef h2]; exact h⟩
   case enter f args=>
    refine Calls.mono h fun e w'' he=>?_
    cases e with
    | returned u=>exact⟨keep a hy u,by rw[<-Act.put_comm a v u h2]; exact he⟩
    | panicked c=>exact hQ _ _ _ he
    | outgrown=>exact he
   case round l f tm as bd=>
    refine RoundIn.mono h fun e w'' he=>?_
    cases e with
    | returned u=>exact⟨keep a hy u,by rw[<-Act.put_comm a v u h2]; exact he⟩
    | panicked c=>exact hQ _ _ _ he
    | outgrown=>exact he
  | halt x w'=>
   cases x<;>simp only[Xbg]at h⊢
   case panic u=>exact hQ _ _ _ h
 ·rename_i hw
  simp only[hw]at h
  exact⟨keep a hy _,by rw[<-Act.put_comm a v undef h2]; exact h⟩

def Vz (P:Program)(ops:Array Oper)(Q:Exit->Act->World->Prop):List Oper->Act->World->Prop
 | [],a,w=>Q .normal a w
 | o::rest,a,w=>if Region.wanted o (yielded ops a.tmps) then wpA P o a w (Vz P ops Q rest) Q else Vz P ops Q rest (a.put o.dst undef) w
theorem Xan {r:Option Nat}:∀(l:List Oper),(∀o∈l,∀c,o.op ≠ .defer c)->∀(a:Act) (w:World),Vz P ops Q l a w->wpListIn (frm r) 0 P ops Q l a w
 | [],_,a,w,h=>h
 | o::rest,hd,a,w,h=>by
  simp only[Vz]at h
  simp only[wpListIn]
  split
  ·rename_i hw
   rw[if_pos hw]at h
   exact X7k (hd o (by simp)) (Xqb (fun a' w'=>Xan rest (fun o' ho'=>hd o' (by simp[ho'])) a' w') h)
  ·rename_i hw
   rw[if_neg hw]at h
   exact⟨fun f _=>Xo5 r f,Xan rest (fun o' ho'=>hd o' (by simp[ho'])) _ _ h⟩

def Xj9 (P:Program)(md:Region.Mode)(ops:Array Oper)(Q:Exit->Act->World->Prop):Nat->Array Bool->Act->World->Prop
 | 0,listed,a,w=>Region.ready md ops listed=[]/\Q .normal a w
 | fuel+1,listed,a,w=>
  (Region.ready md ops listed=[]->Q .normal a w)/\
  ∀i∈Region.ready md ops listed,Qt P ops Q i (Xj9 P md ops Q fuel (listed.setIfInBounds i true)) a w
theorem X5b {r:Option Nat}(hd:∀o∈ops.toList,∀c,o.op ≠ .defer c){i:Nat}{K:Act->World->Prop}{a:Act}{w:World}(h:Qt P ops Q i K a w):wpOpIn (frm r) 0 P ops Q i K a w:=by
 unfold Qt at h
 unfold wpOpIn
 cases ho:ops[i]? with
 | none=>simpa[ho]using h
 | some o=>
  simp only[ho]at h⊢
  split
  ·rename_i hw; rw[if_pos hw]at h; exact X7k (hd o (by simpa using Array.mem_of_getElem? ho)) h
  ·rename_i hw; rw[if_neg hw]at h; exact⟨fun f _=>Xo5 r f,h⟩
theorem Xc8 {r:Option Nat}(hd:∀o∈ops.toList,∀c,o.op ≠ .defer c):∀(fuel:Nat) (listed:Array Bool) (a:Act) (w:World),Xj9 P md ops Q fuel listed a w->wpAnyIn (frm r) 0 P md ops Q fuel listed a w
 | 0,_,_,_,h=>h
 | fuel+1,_,_,_,h=>⟨h.1,fun i hi=>wpOpIn_mono (fun a' w' h'=>Xc8 hd fuel _ a' w' h') (X5b hd (h.2 i hi))⟩
end
end Go.Ab
namespace Go.Ab
open Go

def Xb:Xa->Nat
 | []=>0
 | (j,_)::r=>if Xb r<=j then j+1 else Xb r
theorem Xy:∀(ob:Xa) (j:Nat),Xb ob<=j->Xe ob j=none
 | [],_,_=>rfl
 | (i,o)::r,j,h=>by
  simp only[Xb]at h
  simp only[Xe]
  split at h
  ·rw[if_neg (by omega)]; exact Xy r j (by omega)
  ·rw[if_neg (by omega)]; exact Xy r j h
theorem Xw (ob:Xa):Xe ob (Xb ob)=none:=Xy ob _ (Nat.le_refl _)

def Yg0 (ob:Xa)(id n:Nat):Option Ob->Option (D×Xa)
 | some (.arr _ sz xs)=>if sz ≠ 0/\n=xs.length then some (.list sz xs,setO ob id .gone) else none
 | _=>none
def X01:Option (List D×Xa)->Option (D×Xa)
 | some (l,ob)=>some (.agg l,ob)
 | none=>none
def Ye8 (t:Nat):Option (D×Xa)->Option (D×Xa)
 | some (x,ob)=>some (.iface t x,ob)
 | none=>none
def fnG (f:Nat)(ob:Xa):Option (List D)->Option (List D)->Option (D×Xa)
 | some l,some m=>some (.fn f l m,ob)
 | _,_=>none
def Xa8 (x:D):Option (List D×Xa)->Option (List D×Xa)
 | some (l,ob)=>some (x::l,ob)
 | none=>none
mutual
def V.giv (ob:Xa):V->Option (D×Xa)
 | .d x=>some (x,ob)
 | .sl id n=>Yg0 ob id n (Xe ob id)
 | .agg xs=>X01 (V.givs ob xs)
 | .iface t x=>Ye8 t (V.giv ob x)
 | .fn f a b=>fnG f ob (V.allD a) (V.allD b)
 | _=>none
def V.givs (ob:Xa):List V->Option (List D×Xa)
 | []=>some ([],ob)
 | x::r=>match V.giv ob x with
  | some (y,ob1)=>Xa8 y (V.givs ob1 r)
  | none=>none
end

section
variable {w:World}
theorem Xie {ρ:Env}{f:Nat}{a b:List V}{ob ob':Xa}{d:D}{cs:List Value}(h:(V.fn f a b).repC w ρ cs)(e:fnG f ob (V.allD a) (V.allD b)=some (d,ob')):ob'=ob/\d.rep w (own ρ) cs/\d.isAgg=false:=by
 cases ha:V.allD a with
 | none=>simp[ha,fnG]at e
 | some l=>
  cases hb:V.allD b with
  | none=>simp[ha,hb,fnG]at e
  | some m=>
   simp only[ha,hb,fnG,Option.some.injEq,Prod.mk.injEq]at e
   obtain⟨rfl,rfl⟩:=e
   have h1:=V.allD_map ha
   have h2:=V.allD_map hb
   subst h1; subst h2
   simp only[V.repC]at h
   obtain⟨fs,gs,e1,h3,h4⟩:=h
   exact⟨rfl,by simp only[D.rep]; exact⟨fs,gs,e1,Xei.1 h3,Xei.1 h4⟩,rfl⟩
mutual
theorem V.giv_sound:∀(v:V) (ob:Xa) (ρ:Env) (cs:List Value) (d:D) (ob':Xa),OM w ρ ob->v.repC w ρ cs->V.giv ob v=some (d,ob')->
  ∃ρ',Tr w ρ w ρ'/\OM w ρ' ob'/\d.rep w (own ρ') cs/\d.isAgg=v.isAgg
 | .d x,ob,ρ,cs,dd,ob',hO,h,e=>by
  simp only[V.giv,Option.some.injEq,Prod.mk.injEq]at e
  obtain⟨rfl,rfl⟩:=e
  exact⟨ρ,Tr.refl _ _,hO,by simpa only[V.repC]using h,by cases x<;>rfl⟩
 | .sl id n,ob,ρ,cs,dd,ob',hO,h,e=>by
  simp only[V.giv]at e
  unfold Yg0 at e
  split at e
  ·rename_i E sz xs hl
   split at e
   ·rename_i hc
    simp only[Option.some.injEq,Prod.mk.injEq]at e
    obtain⟨rfl,rfl⟩:=e
    obtain⟨hsz,rfl⟩:=hc
    obtain⟨t1,o1,_⟩:=Xff hO ⟨_,hl⟩
    have h0:=h
    simp only[V.repC]at h0
    obtain⟨o,u,h1,rfl,h2⟩:=h0
    have:=Q5 hO hl hsz (u:=u) (by rw[Yb]; exact⟨o,h1,h2⟩)
    refine⟨_,t1,o1,?_,rfl⟩
    rw[Z2 (by simp[V.isAgg]) (by simp)]at this
    simpa only[V.repC]using this
   ·cases e
  ·cases e
 | .agg xs,ob,ρ,cs,dd,ob',hO,h,e=>by
  simp only[V.giv]at e
  cases hg:V.givs ob xs with
  | none=>simp[hg,X01]at e
  | some r=>
   obtain⟨l,ob1⟩:=r
   simp only[hg,X01,Option.some.injEq,Prod.mk.injEq]at e
   obtain⟨rfl,rfl⟩:=e
   simp only[V.repC]at h
   obtain⟨ρ',t,o,hr⟩:=V.givs_sound xs ob ρ cs l ob1 hO h hg
   exact⟨ρ',t,o,by simpa only[D.rep]using hr,rfl⟩
 | .iface t x,ob,ρ,cs,dd,ob',hO,h,e=>by
  simp only[V.giv]at e
  cases hg:V.giv ob x with
  | none=>simp[hg,Ye8]at e
  | some r=>
   obtain⟨y,ob1⟩:=r
   simp only[hg,Ye8,Option.some.injEq,Prod.mk.injEq]at e
   obtain⟨rfl,rfl⟩:=e
   simp only[V.repC]at h
   obtain⟨u,e1,h1⟩:=h
   rcases h1 with h1 | ⟨p,ds,q,r⟩ | ⟨p,r⟩
   ·subst h1; simp[V.giv]at hg
   ·obtain⟨ρ',t1,o,hr,ha⟩:=V.giv_sound x ob ρ ds y ob1 hO r hg
    exact⟨ρ',t1,o,by simp only[D.rep]; exact⟨u,e1,.inl ⟨by rw[ha]; exact p,ds,q,hr⟩⟩,rfl⟩
   ·obtain⟨ρ',t1,o,hr,ha⟩:=V.giv_sound x ob ρ [u] y ob1 hO r hg
    exact⟨ρ',t1,o,by simp only[D.rep]; exact⟨u,e1,.inr ⟨by rw[ha]; exact p,hr⟩⟩,rfl⟩
 | .fn f a b,ob,ρ,cs,dd,ob',hO,h,e=>by
  simp only[V.giv]at e
  obtain⟨rfl,h1,h2⟩:=Xie h e
  exact⟨ρ,Tr.refl _ _,hO,h1,by rw[h2]; rfl⟩
 | .ptr _ _,_,_,_,_,_,_,_,e | .sd _ _,_,_,_,_,_,_,_,e | .mp _,_,_,_,_,_,_,_,e | .hd _ _,_,_,_,_,_,_,_,e | .ep _ _ _ _ _ _,_,_,_,_,_,_,_,e | .bs _ _ _ _,_,_,_,_,_,_,_,e | .tup _,_,_,_,_,_,_,_,e | .undef,_,_,_,_,_,_,_,e | .any,_,_,_,_,_,_,_,e=>by simp[V.giv]at e
theorem V.givs_sound:∀(vs:List V) (ob:Xa) (ρ:Env) (cs:List Value) (l:List D) (ob':Xa),OM w ρ ob->V.repCs w ρ vs cs->V.givs ob vs=some (l,ob')->
  ∃ρ',Tr w ρ w ρ'/\OM w ρ' ob'/\D.repL w (own ρ') l cs
 | [],ob,ρ,cs,l,ob',hO,h,e=>by
  simp only[V.givs,Option.some.injEq,Prod.mk.injEq]at e
  obtain⟨rfl,rfl⟩:=e
  exact⟨ρ,Tr.refl _ _,hO,by simpa only[V.repCs,D.repL]using h⟩
 | x::r,ob,ρ,cs,l,ob',hO,h,e=>by
  simp only[V.givs]at e
  simp only[V.repCs]at h
  obtain⟨c1,c2,rfl,h1,h2⟩:=h
  split at e
  ·rename_i dd ob1 hg
   obtain⟨ρ1,t1,o1,hr,_⟩:=V.giv_sound x ob ρ c1 dd ob1 hO h1 hg
   cases hg2:V.givs ob1 r with
   | none=>simp[hg2,Xa8]at e
   | some q=>
    obtain⟨l2,ob2⟩:=q
    simp only[hg2,Xa8,Option.some.injEq,Prod.mk.injEq]at e
    obtain⟨rfl,rfl⟩:=e
    obtain⟨ρ2,t2,o2,hr2⟩:=V.givs_sound r ob1 ρ1 c2 l2 ob2 o1 (V.repCs_tr t1 _ _ h2) hg2
    exact⟨ρ2,t1.trans t2,o2,by simp only[D.repL]; exact⟨c1,c2,rfl,D.rep_mono t2.mono _ _ hr,hr2⟩⟩
  ·cases e
end
theorem Xbl {ρ:Env}{ob ob':Xa}{v:V}{d:D}{u:Value}(hO:OM w ρ ob)(h:v.rep w ρ u)(e:V.giv ob v=some (d,ob')):∃ρ',Tr w ρ w ρ'/\OM w ρ' ob'/\(V.d d).rep w ρ' u:=by
 rcases h with h | ⟨p,ds,q,r⟩ | ⟨p,r⟩
 ·subst h; simp[V.giv]at e
 ·obtain⟨ρ',t1,o,hr,ha⟩:=V.giv_sound v ob ρ ds d ob' hO r e
  exact⟨ρ',t1,o,Jo.2 (.inl ⟨by rw[ha]; exact p,ds,q,hr⟩)⟩
 ·obtain⟨ρ',t1,o,hr,ha⟩:=V.giv_sound v ob ρ [u] d ob' hO r e
  exact⟨ρ',t1,o,Jo.2 (.inr ⟨by rw[ha]; exact p,hr⟩)⟩
end

def gvL (g:Xa->V->Option (D×Xa)):Xa->List V->Option (List D×Xa)
 | ob,[]=>some ([],ob)
 | ob,x::r=>match g ob x with
  | some (y,ob1)=>Xa8 y (gvL g ob1 r)
  | none=>none
def gvT (id sz:Nat)(l:List D)(ob:Xa):Option Ob->Option (D×Xa)
 | some (.vec _ _ _)=>some (.list sz l,setO ob id .gone)
 | _=>none
def gvS (id sz:Nat):Option (List D×Xa)->Option (D×Xa)
 | some (l,ob1)=>gvT id sz l ob1 (Xe ob1 id)
 | none=>none
def Y4g (g:Xa->V->Option (D×Xa))(ob:Xa)(id n:Nat):Option Ob->Option (D×Xa)
 | some (.arr _ sz xs)=>if sz ≠ 0/\n=xs.length then some (.list sz xs,setO ob id .gone) else none
 | some (.vec _ sz xs)=>if sz ≠ 0/\n=xs.length then gvS id sz (gvL g ob xs) else none
 | _=>none
def V.gvF:Nat->Xa->V->Option (D×Xa)
 | 0,_,_=>none
 | k+1,ob,v=>match v with
  | .d x=>some (x,ob)
  | .sl id n=>Y4g (V.gvF k) ob id n (Xe ob id)
  | .agg xs=>X01 (gvL (V.gvF k) ob xs)
  | .iface t x=>Ye8 t (V.gvF k ob x)
  | .fn f a b=>fnG f ob (V.allD a) (V.allD b)
  | _=>none
section
variable {w:World}
def Y3h (g:Xa->V->Option (D×Xa))(w:World):Prop:=∀(v:V) (ob:Xa) (ρ:Env) (cs:List Value) (d:D) (ob':Xa),OM w ρ ob->v.repC w ρ cs->g ob v=some (d,ob')->
  (∃ρ',Tr w ρ w ρ'/\OM w ρ' ob'/\d.rep w (own ρ') cs/\d.isAgg=v.isAgg)/\∀j,Xe ob' j=Xe ob j\/Xe ob' j=some .gone
theorem Xi5 {ob:Xa}{id j:Nat}{x:Ob}(hl:Xe ob id=some x):Xe (setO ob id .gone) j=Xe ob j\/Xe (setO ob id .gone) j=some .gone:=by
 rw[Xp ob id j ⟨_,hl⟩]
 split
 ·exact .inr rfl
 ·exact .inl rfl
theorem Xcg {g:Xa->V->Option (D×Xa)}(hg:Y3h g w):∀(vs:List V) (ob:Xa) (ρ:Env) (cs:List Value) (l:List D) (ob':Xa),OM w ρ ob->V.repCs w ρ vs cs->gvL g ob vs=some (l,ob')->
  (∃ρ',Tr w ρ w ρ'/\OM w ρ' ob'/\D.repL w (own ρ') l cs/\l.map D.sz=vs.map V.size)/\∀j,Xe ob' j=Xe ob j\/Xe ob' j=some .gone
 | [],ob,ρ,cs,l,ob',hO,h,e=>by
  simp only[gvL,Option.some.injEq,Prod.mk.injEq]at e
  obtain⟨rfl,rfl⟩:=e
  exact⟨⟨ρ,Tr.refl _ _,hO,by simpa only[V.repCs,D.repL]using h,rfl⟩,fun _=>.inl rfl⟩
 | x::r,ob,ρ,cs,l,ob',hO,h,e=>by
  simp only[gvL]at e
  simp only[V.repCs]at h
  obtain⟨c1,c2,rfl,h1,h2⟩:=h
  split at e
  ·rename_i dd ob1 hq
   obtain⟨⟨ρ1,t1,o1,hr,_⟩,k1⟩:=hg x ob ρ c1 dd ob1 hO h1 hq
   cases hg2:gvL g ob1 r with
   | none=>simp[hg2,Xa8]at e
   | some q=>
    obtain⟨l2,ob2⟩:=q
    simp only[hg2,Xa8,Option.some.injEq,Prod.mk.injEq]at e
    obtain⟨rfl,rfl⟩:=e
    obtain⟨⟨ρ2,t2,o2,hr2,hs2⟩,k2⟩:=Xcg hg r ob1 ρ1 c2 l2 ob2 o1 (V.repCs_tr t1 _ _ h2) hg2
    refine⟨⟨ρ2,t1.trans t2,o2,by simp only[D.repL]; exact⟨c1,c2,rfl,D.rep_mono t2.mono _ _ hr,hr2⟩,?_⟩,fun j=>?_⟩
    ·simp only[List.map_cons,hs2,List.cons.injEq,and_true]
     rw[<-D.rep_len _ _ hr,V.repC_len _ _ h1]; rfl
    ·rcases k2 j with k2 | k2
     ·rw[k2]; exact k1 j
     ·exact .inr k2
  ·cases e
theorem Xp5 {ρ:Env}{id n:Nat}{cs:List Value}(h:(V.sl id n).repC w ρ cs):∃o u,ρ.m id=some o/\cs=[u]/\o.slice n u:=by
 simpa only[V.repC]using h
theorem Xin:∀(k:Nat),Y3h (V.gvF k) w
 | 0=>fun v ob ρ cs d ob' _ _ e=>by simp[V.gvF]at e
 | k+1=>fun v ob ρ cs dd ob' hO h e=>by
  have ih:=Xin k
  cases v with
  | d x=>
   simp only[V.gvF,Option.some.injEq,Prod.mk.injEq]at e
   obtain⟨rfl,rfl⟩:=e
   exact⟨⟨ρ,Tr.refl _ _,hO,by simpa only[V.repC]using h,by cases x<;>rfl⟩,fun _=>.inl rfl⟩
  | agg xs=>
   simp only[V.gvF]at e
   cases hg:gvL (V.gvF k) ob xs with
   | none=>simp[hg,X01]at e
   | some r=>
    obtain⟨l,ob1⟩:=r
    simp only[hg,X01,Option.some.injEq,Prod.mk.injEq]at e
    obtain⟨rfl,rfl⟩:=e
    simp only[V.repC]at h
    obtain⟨⟨ρ',t,o,hr,_⟩,hk⟩:=Xcg ih xs ob ρ cs l ob1 hO h hg
    exact⟨⟨ρ',t,o,by simpa only[D.rep]using hr,rfl⟩,hk⟩
  | iface t x=>
   simp only[V.gvF]at e
   cases hg:V.gvF k ob x with
   | none=>simp[hg,Ye8]at e
   | some r=>
    obtain⟨y,ob1⟩:=r
    simp only[hg,Ye8,Option.some.injEq,Prod.mk.injEq]at e
    obtain⟨rfl,rfl⟩:=e
    simp only[V.repC]at h
    obtain⟨u,e1,h1⟩:=h
    rcases h1 with h1 | ⟨p,ds,q,r⟩ | ⟨p,r⟩
    ·subst h1; cases k<;>simp[V.gvF]at hg
    ·obtain⟨⟨ρ',t1,o,hr,ha⟩,hk⟩:=ih x ob ρ ds y ob1 hO r hg
     exact⟨⟨ρ',t1,o,by simp only[D.rep]; exact⟨u,e1,.inl ⟨by rw[ha]; exact p,ds,q,hr⟩⟩,rfl⟩,hk⟩
    ·obtain⟨⟨ρ',t1,o,hr,ha⟩,hk⟩:=ih x ob ρ [u] y ob1 hO r hg
     exact⟨⟨ρ',t1,o,by simp only[D.rep]; exact⟨u,e1,.inr ⟨by rw[ha]; exact p,hr⟩⟩,rfl⟩,hk⟩
  | fn f a b=>
   simp only[V.gvF]at e
   obtain⟨rfl,h1,h2⟩:=Xie h e
   exact⟨⟨ρ,Tr.refl _ _,hO,h1,by rw[h2]; rfl⟩,fun _=>.inl rfl⟩
  | sl id n=>
   simp only[V.gvF]at e
   unfold Y4g at e
   split at e
   ·rename_i E sz xs hl
    split at e
    ·rename_i hc
     simp only[Option.some.injEq,Prod.mk.injEq]at e
     obtain⟨rfl,rfl⟩:=e
     obtain⟨hsz,rfl⟩:=hc
     obtain⟨t1,o1,_⟩:=Xff hO ⟨_,hl⟩
     obtain⟨o,u,h1,rfl,h2⟩:=Xp5 h
     have:=Q5 hO hl hsz (u:=u) (by rw[Yb]; exact⟨o,h1,h2⟩)
     refine⟨⟨_,t1,o1,?_,rfl⟩,fun j=>Xi5 hl⟩
     rw[Z2 (by simp[V.isAgg]) (by simp)]at this
     simpa only[V.repC]using this
    ·cases e
   ·rename_i E sz xs hl
    split at e
    ·rename_i hc
     obtain⟨hsz,rfl⟩:=hc
     cases hg:gvL (V.gvF k) ob xs with
     | none=>simp[hg,gvS]at e
     | some r=>
      obtain⟨l,ob1⟩:=r
      simp only[hg,gvS]at e
      unfold gvT at e
      split at e
      ·rename_i E' sz' xs' hl1
       simp only[Option.some.injEq,Prod.mk.injEq]at e
       obtain⟨rfl,rfl⟩:=e
       obtain⟨o,u,h1,rfl,h2⟩:=Xp5 h
       have fin:∀(ρ1:Env),Tr w ρ w ρ1->OM w ρ1 ob1->V0 w ρ1 id (.arr E sz l)->l.length=xs.length->(∀j,Xe ob1 j=Xe ob j\/Xe ob1 j=some .gone)->
         (∃ρ',Tr w ρ w ρ'/\OM w ρ' (setO ob1 id .gone)/\(D.list sz l).rep w (own ρ') [u]/\(D.list sz l).isAgg=(V.sl id xs.length).isAgg)/\∀j,Xe (setO ob1 id .gone) j=Xe ob j\/Xe (setO ob1 id .gone) j=some .gone:=by
        intro ρ1 t1 o1 hm hlen hk
        have o2:=o1.swap hl1 hm
        have hl2:Xe (setO ob1 id (.arr E sz l)) id=some (.arr E sz l):=by rw[Xp ob1 id id ⟨_,hl1⟩]; simp
        obtain⟨t3,o3,_⟩:=Xff o2 ⟨_,hl2⟩
        rw[Xc2]at o3
        have hv:(V.sl id l.length).rep w ρ1 u:=V.rep_tr t1 (by rw[hlen,Yb]; exact⟨o,h1,h2⟩)
        have h4:=Q5 o2 hl2 hsz hv
        refine⟨⟨_,t1.trans t3,o3,?_,rfl⟩,fun j=>?_⟩
        ·rw[Z2 (by simp[V.isAgg]) (by simp)]at h4
         simpa only[V.repC]using h4
        ·rcases Xi5 (j:=j) hl1 with h5 | h5
         ·rw[h5]; exact hk j
         ·exact .inr h5
       rcases hO.one id _ hl with⟨hvi,rfl⟩ | ⟨b,cap,cs,sp,g1,g2,g3,g4,g5⟩
       ·simp only[gvL,Option.some.injEq,Prod.mk.injEq]at hg
        obtain⟨rfl,rfl⟩:=hg
        exact fin ρ (Tr.refl _ _) hO (.inl ⟨hvi,rfl⟩) rfl (fun _=>.inl rfl)
       ·obtain⟨⟨ρ1,t1,o1,hr,hs⟩,hk⟩:=Xcg ih xs ob ρ cs l ob1 hO g3 hg
        have hlen:l.length=xs.length:=by simpa using congrArg List.length hs
        have hx':(Ob.vec E' sz' xs')=.vec E sz xs:=by
         rcases hk id with h5 | h5
         ·rw[hl1,hl]at h5; exact Option.some.inj h5
         ·rw[hl1]at h5; cases h5
        cases hx'
        obtain⟨o',p1,p2⟩:=t1.same id _ g1
        have hρ1:ρ1.m id=some (.arr b xs.length cap):=by
         cases p2 with
         | refl=>exact p1
         | gone=>rcases o1.one id _ hl1 with⟨q1,_⟩ | ⟨_,_,_,_,q1,_⟩<;>(rw[p1]at q1; cases q1)
         | grow hlt hh=>
          rcases hh with⟨hq,_⟩ | ⟨b2,c2,hq⟩
          ·cases hq
          ·simp only[RO.arr.injEq]at hq
           rcases o1.one id _ hl1 with⟨q1,_⟩ | ⟨_,_,_,_,q1,_⟩
           ·rw[p1]at q1; cases q1
           ·rw[p1]at q1
            simp only[Option.some.injEq,RO.arr.injEq]at q1
            omega
        refine fin ρ1 t1 o1 (.inr ⟨b,cap,cs,sp,by rw[hlen]; exact hρ1,g2,hr,fun x hx=>?_,g5⟩) hlen hk
        have h6:x.sz∈l.map D.sz:=List.mem_map_of_mem hx
        rw[hs]at h6
        obtain⟨y,hy,h7⟩:=List.mem_map.1 h6
        rw[<-h7]; exact g4 y hy
      ·cases e
    ·cases e
   ·cases e
  | _=>simp[V.gvF]at e
end

inductive Out where
 | ret (v:V)
 | panic (v:V)

def Xap (w:World)(ρ:Env):Ending->Out->Prop
 | .returned u,.ret v=>v.rep w ρ u
 | .panicked ch,.panic v=>∃u,ch=[{ v:=u,recovered:=false }]/\v.rep w ρ u
 | _,_=>False

structure Prg where
 p:Program
 g:Gl

structure ACall (P:Prg)(f:Nat)(vs:List V)(ob:Xa)(K:Out->Xa->Prop):Prop where
 run:∀w ρ args,OM w ρ ob->ρ.gl=P.g->V.reps w ρ vs args->Calls P.p f args.toArray w (fun e w'=>∃out ob' ρ',K out ob'/\Xap w' ρ' e out/\OM w' ρ' ob'/\Tr w ρ w' ρ')

theorem ACall.mono {P:Prg}{f:Nat}{vs:List V}{ob:Xa}{K K':Out->Xa->Prop}(h:ACall P f vs ob K)(hk:∀o b,K o b->K' o b):ACall P f vs ob K':=
 ⟨fun w ρ args ho hg hr=>(h.run w ρ args ho hg hr).mono fun _ _ ⟨out,ob',ρ',k,r⟩=>⟨out,ob',ρ',hk _ _ k,r⟩⟩

structure PCall (P:Prg)(f:Nat)(vs:List V)(ob:Xa)(K:V->Prop):Prop where
 run:∀w ρ args,OM w ρ ob->ρ.gl=P.g->V.reps w ρ vs args->Calls P.p f args.toArray w (fun e w'=>∃v u,K v/\e=.returned u/\v.rep w' ρ u/\Ext w w')

structure XCall (P:Prg)(f:Nat)(vs:List V)(ob:Xa)(K:V->Xa->Prop):Prop where
 run:∀w ρ args,OM w ρ ob->ρ.gl=P.g->V.reps w ρ vs args->Calls P.p f args.toArray w (fun e w'=>∃v ob' ρ' u,K v ob'/\e=.returned u/\v.rep w' ρ' u/\OM w' ρ' ob'/\Tr w ρ w' ρ'/\Ext w w')
theorem XCall.mono {P:Prg}{f:Nat}{vs:List V}{ob:Xa}{K K':V->Xa->Prop}(h:XCall P f vs ob K)(hk:∀v b,K v b->K' v b):XCall P f vs ob K':=
 ⟨fun w ρ args ho hg hr=>(h.run w ρ args ho hg hr).mono fun _ _ ⟨v,b,ρ',u,k,r⟩=>⟨v,b,ρ',u,hk v b k,r⟩⟩
theorem PCall.mono {P:Prg}{f:Nat}{vs:List V}{ob:Xa}{K K':V->Prop}(h:PCall P f vs ob K)(hk:∀v,K v->K' v):PCall P f vs ob K':=
 ⟨fun w ρ args ho hg hr=>(h.run w ρ args ho hg hr).mono fun _ _ ⟨v,u,k,r⟩=>⟨v,u,hk v k,r⟩⟩

theorem PCall.acall {P:Prg}{f:Nat}{vs:List V}{ob:Xa}{K:Out->Xa->Prop}(h:PCall P f vs ob fun v=>K (.ret v) ob):ACall P f vs ob K:=
 ⟨fun w ρ args ho hg hr=>(h.run w ρ args ho hg hr).mono fun e w' ⟨v,u,k,he,r,x⟩=>by subst he; exact⟨.ret v,ob,ρ,k,r,ho.ext x,x.tr⟩⟩

structure AYield (P:Prg)(id:Nat)(vs:List V)(ob:Xa)(K:Out->Xa->Prop):Prop where
 run:∀w ρ args b,OM w ρ ob->ρ.gl=P.g->V.reps w ρ vs args->ρ.m id=some (.map b)->
  ∃fn tmps assign body,(Instr.yield b args.toArray).run P.p w=.ok (.round b fn tmps assign body) w/\
   RoundIn Fence.wide 0 P.p b fn tmps assign body w (fun e w'=>∃out ob' ρ',K out ob'/\Xap w' ρ' e out/\OM w' ρ' ob'/\Tr w ρ w' ρ')
theorem AYield.mono {P:Prg}{id:Nat}{vs:List V}{ob:Xa}{K K':Out->Xa->Prop}(h:AYield P id vs ob K)(hk:∀o b,K o b->K' o b):AYield P id vs ob K':=
 ⟨fun w ρ args b ho hg hr hb=>let ⟨fn,tm,a1,a2,h1,h2⟩:=h.run w ρ args b ho hg hr hb; ⟨fn,tm,a1,a2,h1,h2.mono fun _ _ ⟨out,ob',ρ',k,r⟩=>⟨out,ob',ρ',hk _ _ k,r⟩⟩⟩
def Ylo:Option Ob->Prop
 | some (.lp _ _ _)=>True
 | _=>False

def Xm (P:Program)(f:Nat):Bool:=match P.funcs[f]? with
 | some fn=>fn.name != "runtime.NumGoroutine" &&fn.body.isSome
 | none=>false

def Xda (K Pn:V->Xa->Prop):Out->Xa->Prop
 | .ret v,ob=>K v ob
 | .panic v,ob=>Pn v ob

def Xr7 (E:Nat)(ob:Xa)(K:V->Xa->Prop)(v:V):Prop:=v.sto=true/\K (.ptr (Xb ob) []) ((Xb ob,.box E v)::ob)
def X1a (ob:Xa)(K:V->Xa->Prop):V->Prop
 | .d x=>K (.d (.ref x)) ob
 | _=>False
def Xzs (ob:Xa)(id:Nat)(p:List Nat)(n E:Nat)(v t:V)(K:V->Xa->Prop):Option V->Prop
 | some old=>v.shape=old.shape/\old.size=n/\v.sto=true/\∃t',t.set p v=some t'/\K .undef (setO ob id (.box E t'))
 | none=>False
def Xzr (ob:Xa)(id:Nat)(p:List Nat)(n:Nat)(v:V)(K:V->Xa->Prop):Option Ob->Prop
 | some (.box E t)=>Xzs ob id p n E v t K (t.at p)
 | _=>False
def Yrz (ob:Xa)(id i n:Nat)(o:Ob)(v v0:V)(p:List Nat)(K:V->Xa->Prop):Option V->Prop
 | some old=>v.shape=old.shape/\old.size=n/\v.sto=true/\∃t',v0.set p v=some t'/\K .undef (setO ob id (Xm3 o i t'))
 | none=>False
def Ys0 (ob:Xa)(id i n:Nat)(o:Ob)(v:V)(z f:Nat)(p:List Nat)(K:V->Xa->Prop):Option V->Prop
 | some v0=>(z=v0.size/\f=v0.shape.off p)/\Yrz ob id i n o v v0 p K (v0.at p)
 | none=>False
def Yry (ob:Xa)(id m z i f:Nat)(p:List Nat)(n:Nat)(v:V)(K:V->Xa->Prop):Option Ob->Prop
 | some o=>Ys0 ob id i n o v z f p K (Vf m i (some o))
 | none=>False
def stK (ob:Xa)(n:Nat)(v:V)(K:V->Xa->Prop):V->Prop
 | .ptr id p=>Xzr ob id p n v K (Xe ob id)
 | .ep id m z i f p=>Yry ob id m z i f p n v K (Xe ob id)
 | _=>False
def dK (K:List D->Prop):Option (List D)->Prop
 | some l=>K l
 | none=>False
def Ve (P:Prg)(args:List V)(ob:Xa)(K Pn:V->Xa->Prop):V->Prop
 | .fn f fi ca=>Xm P.p f=true/\ACall P f (fi++args++ca) ob (Xda K Pn)
 | .d (.fn f fi ca)=>Xm P.p f=true/\ACall P f (fi.map .d++args++ca.map .d) ob (Xda K Pn)
 | .hd true id=>Ylo (Xe ob id)/\AYield P id args ob (Xda K Pn)
 | _=>False
def Jk (ob:Xa)(Pn:V->Xa->Prop):V->Prop
 | .iface t v=>Pn (.iface t v) ob
 | .d (.iface t v)=>Pn (.d (.iface t v)) ob
 | _=>False
def Xzn (sz:Nat)(K:List D->Prop):V->Prop
 | .d (.list z ys)=>z=sz/\K ys
 | .d .nils=>K []
 | _=>False
def Xde (id E sz B n:Nat)(ob:Xa)(ys:List D)(K:V->Xa->Prop):Option Ob->Prop
 | some (.arr E' sz' xs)=>E'=E/\sz'=sz/\n=xs.length/\(2*(xs.length+ys.length)+192)*B<=281474976710656/\K (.sl id (xs.length+ys.length)) (setO ob id (.arr E sz (xs++ys)))
 | _=>False
def Xdp (E sz B:Nat)(ob:Xa)(ys:List D)(K:V->Xa->Prop):V->Prop
 | .sl id n=>Xde id E sz B n ob ys K (Xe ob id)
 | .d .nils=>(2*ys.length+192)*B<=281474976710656/\K (.sl (Xb ob) ys.length) ((Xb ob,.arr E sz ys)::ob)
 | _=>False
def Ze:List UInt8->List D
 | []=>[]
 | b::r=>.int .u8 b.toNat::Ze r
def Ysf (K:V->Prop):V->Prop
 | .d (.list sz xs)=>sz=1/\∃s,xs=Ze s/\K (.d (.str s))
 | .d .nils=>K (.d (.str []))
 | _=>False

inductive I where
 | c (x:C)
 | box (E:Nat) (x:A)
 | alloc (E:Nat) (z:D)
 | bls (sz:Nat) (z:List D) (parts:List (Nat×A))
 | blo (E sz:Nat) (z:List D) (parts:List (Nat×A))
 | st (n:Nat) (x v:A)
 | app (E sz B:Nat) (x y:A)
 | appS (E B:Nat) (x y:A)
 | call (f:Nat) (args:List A)
 | pcall (f:Nat) (args:List A)
 | callv (x:A) (args:List A)
 | panic (x:A)
 | b2s (x:A)
 | s2b (x:A)
 | nilo (E sz:Nat) (x:A)
  | mvf (x:A)
  | ldf (n:Nat) (ag:Bool) (x:A)
  | mvg (E sz:Nat) (y x:A) (p:List Nat)
  | mvn (y x:A) (l:List (Nat×Nat×List Nat))
  | cvb (x:A)
  | ustr (E:Nat) (x y:A)
  | mkm (r:Option A)
  | lkp (kd z:D) (ok:Bool) (m k:A)
  | mset (kd:D) (m k v:A)
  | gld (g n:Nat) (ag:Bool) (x:D)
  | slg (n z:Nat) (x:A)
  | blv (E sz:Nat) (z:List D) (parts:List (Nat×A))
  | apv (E sz B:Nat) (x y:A)
  | gv (x:A)
  | ldg (n:Nat) (ag:Bool) (x:A)
  | slb (n z:Nat) (x:A) (lo hi:Option A)
  | cpy (z:Nat) (x y:A)
 | clr (z0:D) (z:Nat) (x:A)
  | gix (g n z:Nat) (x:D) (i:A)
  | rng (x:A)
 | nxt (x:A)
 | ety (x:A)
  | lenM (x:A)
  | isn (e m:Bool) (x:A)
  | inv (nm:String) (t f:Nat) (fl:Option (Nat×Nat×Nat×Bool)) (x:A) (args:List A)
  | mks (E sz B:Nat) (z:D) (l:A)
  | trn (z:Nat) (x:A) (h:A)
  | xcall (f:Nat) (args:List A)
  | boxr (E:Nat) (x:A)

def Xgq (E sz:Nat)(ob:Xa)(K:V->Xa->Prop):V->Prop
 | .d .nils=>K (.sl (Xb ob) 0) ((Xb ob,.arr E sz [])::ob)
 | _=>False
def Xq6 (K:V->Xa->Prop):Option (D×Xa)->Prop
 | some (d,ob)=>K (.d d) ob
 | none=>False
def Xlg (n:Nat)(ag:Bool)(ob:Xa)(K:V->Xa->Prop):Option V->Prop
 | some v=>v.size=n/\v.isAgg=ag/\Xq6 K (V.giv ob v)
 | none=>False
def X54 (n:Nat)(ag:Bool)(ob:Xa)(K:V->Xa->Prop):V->Prop
 | .ptr id p=>Xlg n ag ob K (atO ob id p)
 | _=>False
def X34 (ob:Xa)(id:Nat)(p:List Nat)(x:D)(K:V->Xa->Prop):Option Ob->Prop
 | some (.box E t)=>∃t',t.set p (.d x)=some t'/\K (.d x) (setO ob id (.box E t'))
 | _=>False
def Xwl (v:V)(id:Nat)(p:List Nat)(K:V->Xa->Prop):Option (D×Xa)->Prop
 | some (x,ob)=>x.shape=v.shape/\X34 ob id p x K (Xe ob id)
 | none=>False
def Xwm (n:Nat)(ag:Bool)(ob:Xa)(id:Nat)(p:List Nat)(K:V->Xa->Prop):Option V->Prop
 | some v=>v.size=n/\v.isAgg=ag/\Xwl v id p K (V.gvF 40000 ob v)
 | none=>False
def Yfb (n:Nat)(ag:Bool)(ob:Xa)(K:V->Xa->Prop):V->Prop
 | .ptr id p=>Xwm n ag ob id p K (atO ob id p)
 | _=>False
def Xja (ob:Xa)(id E0 E sz:Nat)(y:V)(K:V->Xa->Prop):Option V->Prop
 | some t=>K y ((Xb ob,.arr E sz [])::setO ob id (.box E0 t))
 | none=>False
def Xdh (ob:Xa)(id:Nat)(p:List Nat)(E sz:Nat)(y:V)(K:V->Xa->Prop):Option Ob->Prop
 | some (.box E0 t)=>(t.at p=some (.d .nils)/\Xja ob id E0 E sz y K (t.set p (.sl (Xb ob) 0)))\/((∃i n,t.at p=some (.sl i n))/\K y ob)
 | _=>False
def Xkh (ob:Xa)(E sz:Nat)(p:List Nat)(y:V)(K:V->Xa->Prop):V->Prop
 | .ptr id q=>Xdh ob id (q++p) E sz y K (Xe ob id)
 | _=>False
def Ybq (y:V)(K:V->Xa->Prop)(x:V):List (Nat×Nat×List Nat)->Xa->Prop
 | [],ob=>K y ob
 | e::l,ob=>Xkh ob e.1 e.2.1 e.2.2 y (fun _ ob'=>Ybq y K x l ob') x
def Xe5 (id n:Nat)(ob:Xa)(K:V->Xa->Prop):Option Ob->Prop
 | some (.arr _ sz xs)=>sz ≠ 0/\n=xs.length/\xs ≠ []/\K (.d (.list sz xs)) (setO ob id .gone)
 | _=>False
def Xud (ob:Xa)(K:V->Xa->Prop):V->Prop
 | .sl id n=>Xe5 id n ob K (Xe ob id)
 | _=>False
def Xj8 (id n:Nat)(m:Int)(E:Nat)(ob:Xa)(K:V->Xa->Prop):Option Ob->Prop
 | some (.arr E' sz xs)=>E'=E/\sz=1/\n=xs.length/\m=n/\n<=9223372036854775807/\xs ≠ []/\∃s,xs=Ze s/\K (.d (.str s)) (setO ob id .gone)
 | _=>False
def Xr2 (E:Nat)(ob:Xa)(K:V->Xa->Prop):V->V->Prop
 | .sd id n,.d (.int .i64 m)=>Xj8 id n m E ob K (Xe ob id)
 | .d .nilp,.d (.int .i64 m)=>m=0/\K (.d (.str [])) ob
 | _,_=>False
def X42 (K:List D->Prop):V->Prop
 | .d (.str s)=>K (Ze s)
 | _=>False
def Ysy (K:V->Prop):V->Prop
 | .d (.str s)=>K (.d (.list 1 (Ze s)))
 | _=>False

def D.alike0:D->D->Bool
 | .int k _,.int k' _=>decide (k=k')
 | .bool _,.bool _=>true
 | .str _,.str _=>true
 | _,_=>false
def Zl:List D->List D->Bool
 | [],[]=>true
 | x::r,y::s=>D.alike0 x y&&Zl r s
 | _,_=>false
def D.alike:D->D->Bool
 | .int k _,.int k' _=>decide (k=k')
 | .bool _,.bool _=>true
 | .str _,.str _=>true
 | .agg xs,.agg ys=>Zl xs ys
 | _,_=>false
def D.sameKey:D->D->Bool
 | .int _ a,.int _ b=>a==b
 | .bool a,.bool b=>a==b
 | .str a,.str b=>a==b
 | .agg xs,.agg ys=>D.eqbs xs ys
 | _,_=>false
def Vs (k:D):List (D×V)->Option V
 | []=>none
 | (j,v)::r=>if D.sameKey k j then some v else Vs k r
def Xj6 (k:D)(x:V):List (D×V)->List (D×V)
 | []=>[(k,x)]
 | (j,v)::r=>if D.sameKey k j then (k,x)::r else (j,v)::Xj6 k x r
def Xci (kd k:D)(es:List (D×V)):Prop:=D.alike kd k=true/\∀e∈es,D.alike k e.1=true
def X4b (z:D):Bool->Option V->V
 | true,some v=>.tup [v,.d (.bool true)]
 | true,none=>.tup [.d z,.d (.bool false)]
 | false,some v=>v
 | false,none=>.d z
def Xfj (kd z:D)(ok:Bool)(k:D)(K:V->Prop):Option Ob->Prop
 | some (.map es)=>Xci kd k es/\K (X4b z ok (Vs k es))
 | _=>False
def Xwp (ob:Xa)(kd z:D)(ok:Bool)(K:V->Prop):V->V->Prop
 | .mp id,.d k=>Xfj kd z ok k K (Xe ob id)
 | .d .nilm,.d k=>D.alike kd k=true/\K (X4b z ok none)
 | _,_=>False
def Jg (ob:Xa)(id:Nat)(kd k:D)(v:V)(K:V->Xa->Prop):Option Ob->Prop
 | some (.map es)=>Xci kd k es/\v.sto=true/\K .undef (setO ob id (.map (Xj6 k v es)))
 | _=>False
def Xcp (ob:Xa)(kd:D)(v:V)(K:V->Xa->Prop):V->V->Prop
 | .mp id,.d k=>Jg ob id kd k v K (Xe ob id)
 | _,_=>False
def Xiv:V->Prop
 | .d (.int _ _)=>True
 | _=>False
def X0e (sl:Xf):Option A->Prop
 | none=>True
 | some x=>Xiv (x.ev sl)
def Xy3 (n z:Nat)(K:D->Prop):Option V->Prop
 | some (.d (.agg xs))=>xs.length=n/\(∀x∈xs,x.sz=z)/\K (.list z xs)
 | _=>False
def Yff (ob:Xa)(n z:Nat)(K:V->Xa->Prop):V->Prop
 | .ptr id p=>Xy3 n z (fun x=>K (.d x) (setO ob id .gone)) (atO ob id p)
 | _=>False
def Yeu (id:Nat)(p:List Nat)(n z:Nat)(lo hi:Option V)(K:V->Prop):Option (List V)->Prop
 | some ks=>ks.length=n/\(∀k∈ks,k.size=z)/\Qy n (fun l h=>K (.bs id p l (h-l))) lo hi
 | none=>False
def Ysz (ob:Xa)(n z:Nat)(lo hi:Option V)(K:V->Xa->Prop):V->Prop
 | .ptr id p=>Yeu id p n z lo hi (fun v=>K v ob) (Zk (atO ob id p))
 | _=>False
def Xgv (lo:Nat)(xs ys:List D):List D:=xs.take lo++(ys++xs.drop (lo+ys.length))
def Yuk (ob:Xa)(id E:Nat)(t:V)(p:List Nat)(lo n z:Nat)(ys:List D)(r:V)(K:V->Xa->Prop):Option V->Prop
 | some (.d (.agg xs))=>lo+n<=xs.length/\(∀x∈xs,x.sz=z)/\(D.agg (Xgv lo xs ys)).shape=(D.agg xs).shape/\∃t',t.set p (.d (.agg (Xgv lo xs ys)))=some t'/\K r (setO ob id (.box E t'))
 | _=>False
def X5n (ob:Xa)(id:Nat)(p:List Nat)(lo n z:Nat)(ys:List D)(r:V)(K:V->Xa->Prop):Option Ob->Prop
 | some (.box E t)=>Yuk ob id E t p lo n z ys r K (t.at p)
 | _=>False
def Y3t (z:Nat)(ob:Xa)(K:V->Xa->Prop):V->V->Prop
 | .bs id p lo n,.d (.list z' ys)=>z'=z/\X5n ob id p lo n z (ys.take n) (.d (.int .i64 (min ys.length n:Nat))) K (Xe ob id)
 | _,_=>False
def Y3q (z0:D)(z:Nat)(ob:Xa)(K:V->Xa->Prop):V->Prop
 | .bs id p lo n=>(n=0->(∃E t,Xe ob id=some (.box E t))/\K (.tup []) ob)/\(n ≠ 0->(z0.sz=z/\z=1)/\X5n ob id p lo n z (List.replicate n z0) (.tup []) K (Xe ob id))
 | _=>False
def Y4e (n z:Nat)(K:V->Prop):D->V->Prop
 | .agg xs,.d (.int _ m)=>(0<=m/\m<n)/\xs.length=n/\(∀x∈xs,x.sz=z)/\K (.d (.ref (xs.getD m.toNat default)))
 | _,_=>False
def Yfg (sz:Nat)(K:List V->Prop)(ob:Xa):V->Prop
 | .d (.list z ys)=>z=sz/\K (ys.map .d)
 | .d .nils=>K []
 | .sl id n=>(∃E ys,Xe ob id=some (.vec E sz ys)/\n=ys.length/\V.stos ys=true/\K ys)\/∃E ys,Xe ob id=some (.arr E sz ys)/\n=ys.length/\K (ys.map .d)
 | _=>False
def Xqn (id E sz B n:Nat)(ob:Xa)(ys:List V)(K:V->Xa->Prop):Option Ob->Prop
 | some (.vec E' sz' xs)=>E'=E/\sz'=sz/\n=xs.length/\(2*(xs.length+ys.length)+192)*B<=281474976710656/\K (.sl id (xs.length+ys.length)) (setO ob id (.vec E sz (xs++ys)))
 | some (.arr E' sz' xs)=>E'=E/\sz'=sz/\n=xs.length/\(2*(xs.length+ys.length)+192)*B<=281474976710656/\K (.sl id (xs.length+ys.length)) (setO ob id (.vec E sz (xs.map .d++ys)))
 | _=>False
def Xr6 (E sz B:Nat)(ob:Xa)(ys:List V)(K:V->Xa->Prop):V->Prop
 | .sl id n=>Xqn id E sz B n ob ys K (Xe ob id)
 | .d .nils=>(2*ys.length+192)*B<=281474976710656/\K (.sl (Xb ob) ys.length) ((Xb ob,.vec E sz ys)::ob)
 | _=>False
def GlobIs (P:Prg)(g:Nat)(x:D):Prop:=∃cs T f,P.g g=some (.cells (List.toArray cs) T f)/\D.isC x cs=true

def Yes (ob:Xa)(K:V->Xa->Prop):V->Option Ob->Prop
 | .mp id,some (.map es)=>K (.hd false (Xb ob)) ((Xb ob,.it (some id) es.length [])::ob)
 | .d .nilm,_=>K (.hd false (Xb ob)) ((Xb ob,.it none 0 [])::ob)
 | _,_=>False
def X6a:V->Nat
 | .mp id=>id
 | _=>0
def Xri (ob:Xa)(id j n:Nat)(seen:List Nat)(K:V->Xa->Prop):Option Ob->Prop
 | some (.map es)=>es.length=n/\((List.range n).all (fun i=>seen.contains i)=true->K (.tup [.d (.bool false)]) ob)/\
   ∀i,i<n->seen.contains i=false->K (.tup [.d (.bool true),.d (es.getD i default).1,(es.getD i default).2]) (setO ob id (.it (some j) n (seen++[i])))
 | _=>False
def Xjk (ob:Xa)(id:Nat)(K:V->Xa->Prop):Option Ob->Prop
 | some (.it none _ _)=>K (.tup [.d (.bool false)]) ob
 | some (.it (some j) n seen)=>Xri ob id j n seen K (Xe ob j)
 | _=>False
def X4h (ob:Xa)(K:V->Xa->Prop):V->Prop
 | .hd false id=>Xjk ob id K (Xe ob id)
 | _=>False
def Xqw (i n:Nat)(K:V->Prop):Option Ob->Prop
 | some (.map es)=>i<n/\es.length=n/\K (.tup [.d (es.getD i default).1,(es.getD i default).2])
 | _=>False
def Xkx (ob:Xa)(K:V->Prop):Option Ob->Prop
 | some (.it (some j) n seen)=>seen ≠ []/\Xqw (seen.getLastD 0) n K (Xe ob j)
 | _=>False
def X2u (ob:Xa)(K:V->Prop):V->Prop
 | .hd false id=>Xkx ob K (Xe ob id)
 | _=>False
def Ybj (K:V->Prop):Option Ob->Prop
 | some (.map es)=>K (.d (.int .i64 es.length))
 | _=>False
def Xrb (ob:Xa)(K:V->Prop):V->Prop
 | .mp id=>Ybj K (Xe ob id)
 | .d .nilm=>K (.d (.int .i64 0))
 | _=>False
def Yv4 (e:Bool)(n:Nat)(K:V->Prop):Option Ob->Prop
 | some (.arr _ _ xs)=>n=xs.length/\xs ≠ []/\K (.d (.bool !e))
 | some (.vec _ _ xs)=>n=xs.length/\xs ≠ []/\K (.d (.bool !e))
 | _=>False
def Yv3 (e:Bool)(K:V->Prop):Option Ob->Prop
 | some (.map _)=>K (.d (.bool !e))
 | _=>False
def Xwd (ob:Xa)(e:Bool)(K:V->Prop):Bool->V->Prop
 | true,.mp id=>Yv3 e K (Xe ob id)
 | true,.d .nilm=>K (.d (.bool e))
 | false,.d .nils=>K (.d (.bool e))
 | false,.d (.list _ xs)=>K (.d (.bool !e))/\(xs=[]->K (.d (.bool e)))
 | false,.sl id n=>Yv4 e n K (Xe ob id)
 | _,_=>False
def X4r (ob:Xa)(K:V->Prop)(v:V):Option (Nat×Nat×Nat×Bool)->Prop
 | none=>K v
 | some (fi,fo,n,ag)=>V6 ob fi fo (fun u=>ldK ob n ag K u) v
def Yso (P:Prg)(t f:Nat)(fl:Option (Nat×Nat×Nat×Bool))(args:List V)(ob:Xa)(K Pn:V->Xa->Prop):V->Prop
 | .iface t' (.ptr id p)=>t'=t/\Xm P.p f=true/\X4r ob (fun r=>ACall P f (r::args) ob (Xda K Pn)) (.ptr id p) fl
 | _=>False
def Ysq (E sz B:Nat)(z:D)(ob:Xa)(K:V->Xa->Prop):V->Prop
 | .d (.int .i64 n)=>0<=n/\n*B<=281474976710656/\K (.sl (Xb ob) n.toNat) ((Xb ob,.arr E sz (List.replicate n.toNat z))::ob)
 | _=>False
def Y28 (id n z:Nat)(h:Int)(ob:Xa)(K:V->Xa->Prop):Option Ob->Prop
 | some (.arr E sz xs)=>sz=z/\n=xs.length/\xs ≠ []/\(0<=h/\h<=n)/\K (.sl (Xb ob) h.toNat) ((Xb ob,.arr E sz (xs.take h.toNat))::setO ob id .gone)
 | _=>False
def Yfj (z:Nat)(ob:Xa)(K:V->Xa->Prop):V->V->Prop
 | .sl id n,.d (.int .i64 h)=>Y28 id n z h ob K (Xe ob id)
 | _,_=>False

def I.wp (P:Prg)(sl:Xf)(ob:Xa)(K Pn:V->Xa->Prop):I->Prop
 | .c x=>x.wp sl ob (fun v=>K v ob)
 | .box E x=>Xr7 E ob K (x.ev sl)
 | .alloc E z=>Xr7 E ob K (.d z)
 | .bls sz z parts=>Qx (z.map .d) (parts.map fun (i,x)=>(i,x.ev sl)) fun ks=>dK (fun l=>K (.d (.list sz l)) ob) (V.allD ks)
 | .blo E sz z parts=>Qx (z.map .d) (parts.map fun (i,x)=>(i,x.ev sl)) fun ks=>dK (fun l=>K (.sl (Xb ob) l.length) ((Xb ob,.arr E sz l)::ob)) (V.allD ks)
 | .st n x v=>stK ob n (v.ev sl) K (x.ev sl)
 | .app E sz B x y=>Xzn sz (fun ys=>Xdp E sz B ob ys K (x.ev sl)) (y.ev sl)
 | .appS E B x y=>X42 (fun ys=>Xdp E 1 B ob ys K (x.ev sl)) (y.ev sl)
 | .call f args=>ACall P f (args.map (A.ev sl)) ob (Xda K Pn)
 | .pcall f args=>PCall P f (args.map (A.ev sl)) ob fun v=>K v ob
 | .callv x args=>Ve P (args.map (A.ev sl)) ob K Pn (x.ev sl)
 | .panic x=>Jk ob Pn (x.ev sl)
 | .b2s x=>Ysf (fun v=>K v ob) (x.ev sl)
 | .s2b x=>Ysy (fun v=>K v ob) (x.ev sl)
 | .nilo E sz x=>Xgq E sz ob K (x.ev sl)
 | .mvf x=>Xq6 K (V.giv ob (x.ev sl))
 | .ldf n ag x=>X54 n ag ob K (x.ev sl)
 | .mvg E sz y x p=>Xkh ob E sz p (y.ev sl) K (x.ev sl)
 | .mvn y x l=>Ybq (y.ev sl) K (x.ev sl) l ob
 | .cvb x=>Xud ob K (x.ev sl)
 | .ustr E x y=>Xr2 E ob K (x.ev sl) (y.ev sl)
 | .mkm r=>X0e sl r/\K (.mp (Xb ob)) ((Xb ob,.map [])::ob)
 | .lkp kd z ok m k=>Xwp ob kd z ok (fun v=>K v ob) (m.ev sl) (k.ev sl)
 | .mset kd m k v=>Xcp ob kd (v.ev sl) K (m.ev sl) (k.ev sl)
 | .gld g n ag x=>GlobIs P g x/\x.sz=n/\(V.d x).isAgg=ag/\K (.d x) ob
 | .slg n z x=>Yff ob n z K (x.ev sl)
 | .blv E sz z parts=>Qx (z.map .d) (parts.map fun (i,x)=>(i,x.ev sl)) fun ks=>K (.sl (Xb ob) ks.length) ((Xb ob,.vec E sz ks)::ob)
 | .apv E sz B x y=>Yfg sz (fun ys=>Xr6 E sz B ob ys K (x.ev sl)) ob (y.ev sl)
 | .gv x=>Xq6 K (V.gvF 40000 ob (x.ev sl))
 | .ldg n ag x=>Yfb n ag ob K (x.ev sl)
 | .slb n z x lo hi=>Ysz ob n z (lo.map (A.ev sl)) (hi.map (A.ev sl)) K (x.ev sl)
 | .cpy z x y=>Y3t z ob K (x.ev sl) (y.ev sl)
 | .clr z0 z x=>Y3q z0 z ob K (x.ev sl)
 | .gix g n z x i=>GlobIs P g x/\Y4e n z (fun v=>K v ob) x (i.ev sl)
 | .rng x=>Yes ob K (x.ev sl) (Xe ob (X6a (x.ev sl)))
 | .nxt x=>X4h ob K (x.ev sl)
 | .ety x=>X2u ob (fun v=>K v ob) (x.ev sl)
 | .lenM x=>Xrb ob (fun v=>K v ob) (x.ev sl)
 | .isn e m x=>Xwd ob e (fun v=>K v ob) m (x.ev sl)
 | .inv _ t f fl x args=>Yso P t f fl (args.map (A.ev sl)) ob K Pn (x.ev sl)
 | .mks E sz B z l=>Ysq E sz B z ob K (l.ev sl)
 | .trn z x h=>Yfj z ob K (x.ev sl) (h.ev sl)
 | .xcall f args=>XCall P f (args.map (A.ev sl)) ob K
 | .boxr _ x=>X1a ob K (x.ev sl)

def Xc9 (P:Program)(e:TypeId)(len size:Nat):Option (List Value):=
 if len*size=0 then some [] else (U2 P e).map fun z=>((Array.range (len*size)).map (z.toArray[· % z.toArray.size]!)).toList

def Xdt (P:Program)(op:Op)(E? : Option Nat)(sz:Nat)(z:List D)(parts:List (Nat×A)):Bool:=match op with
 | .buildSlice t len ps=>Wj ps.toList parts&&(match P.underlying t with
  | some (.slice e)=>(match E? with | some E=>e==E | none=>true)&&X7 P e==some sz&&z.length==len&&decide (len*sz<=2 ^ 24)&&z.all (fun x=>x.sz==sz)&&(match Xc9 P e len sz with | some cs=>D.isCs z cs | none=>false)
  | _=>false)
 | _=>false

def Ud:TypeDesc->D->Bool
 | .int _,.int _ _=>true
 | .string,.str _=>true
 | .bool,.bool _=>true
 | _,_=>false
def Xra:D->KT
 | .int k _=>.int k
 | .bool _=>.bool
 | _=>.str
def W8 (P:Program)(t:TypeId):D->Bool
 | .agg xs=>(KT.st (xs.map Xra)).chk P t
 | kd=>match P.underlying t with
  | some d=>Ud d kd
  | none=>false

def Yg5 (P:Program)(t:TypeId)(nm:String)(f:Nat)(fl:Option (Nat×Nat×Nat×Bool)):Bool:=match (P.info? t).bind (fun i=>i.methods.find? (·.name==nm)) with
 | some m=>(match fl,m.func with
  | none,some (g,true)=>g==f&&m.path.isEmpty&&(P.underlying t matches some (.pointer _))
  | some (fi,fo,n,ag),some (g,false)=>g==f&&(match m.path.toList with
   | [s]=>s.deref&&s.index==fi&&(match P.underlying s.struct with
    | some (.struct fields)=>(match fields[fi]? with
     | some fd=>fd.offset==fo&&X7 P fd.type==some n&&n != 0&&agT P fd.type==ag&&!(P.underlying fd.type matches some (.pointer _))&&(P.underlying fd.type).isSome
     | none=>false)
    | _=>false)
   | _=>false)
  | _,_=>false)
 | none=>false
def Yls:Bool->Option TypeDesc->Operand->Bool
 | false,some (.slice _),.const (.slice none n m)=>n==0&&m==0
 | true,some (.map _ _),.const (.map none)=>true
 | _,_,_=>false
def Ybg:BinOp->Bool->Bool
 | .eql,e=>e
 | .neq,e=>!e
 | _,_=>false

def I.chk (P:Program)(op:Op):I->Bool
 | .c x=>x.chk P op
 | .box E y=>match op with
  | .box e x=>e==E&&A.chk x y
  | _=>false
 | .boxr E y=>match op with
  | .box e x=>e==E&&A.chk x y
  | _=>false
 | .alloc E z=>match op with
  | .alloc e=>e==E&&match U2 P e with
   | some cs=>D.isC z cs
   | none=>false
  | _=>false
 | .bls sz z parts=>Xdt P op none sz z parts
 | .blo E sz z parts=>Xdt P op (some E) sz z parts
 | .blv E sz z parts=>Xdt P op (some E) sz z parts
 | .st n x v=>match op with
  | .store t y u=>X7 P t==some n&&A.chk y x&&A.chk u v
  | _=>false
 | .app E sz B x y=>match op with
  | .call { callee:=.builtin .append,args:=args,argTypes:=ts }=>match args.toList,ts.toList with
   | [u,v],[t,t2]=>(match P.underlying t with | some (.slice e)=>e==E | _=>false)&&(match P.info? E with | some i=>i.size==sz&&i.bytes==B&&i.bytes != 0&&i.size != 0&&i.zero.isSome&&(i.zero.map (·.cells.size))==some sz | none=>false)&&
    (P.underlying t2 matches some (.slice _))&&A.chk u x&&A.chk v y
   | _,_=>false
  | _=>false
 | .apv E sz B x y=>match op with
  | .call { callee:=.builtin .append,args:=args,argTypes:=ts }=>match args.toList,ts.toList with
   | [u,v],[t,t2]=>(match P.underlying t with | some (.slice e)=>e==E | _=>false)&&(match P.info? E with | some i=>i.size==sz&&i.bytes==B&&i.bytes != 0&&i.size != 0&&i.zero.isSome&&(i.zero.map (·.cells.size))==some sz | none=>false)&&
    (P.underlying t2 matches some (.slice _))&&A.chk u x&&A.chk v y
   | _,_=>false
  | _=>false
 | .appS E B x y=>false
 | .call f args=>match op with
  | .call { callee:=.value (.func g),args:=as,.. }=>f==g&&Xm P f&&Xa7 as.toList args
  | _=>false
 | .xcall f args=>match op with
  | .call { callee:=.value (.func g),args:=as,.. }=>f==g&&Xm P f&&Xa7 as.toList args
  | _=>false
 | .pcall f args=>match op with
  | .call { callee:=.value (.func g),args:=as,.. }=>f==g&&Xm P f&&Xa7 as.toList args
  | _=>false
 | .callv y args=>match op with
  | .call { callee:=.value x,args:=as,.. }=>A.chk x y&&Xa7 as.toList args
  | _=>false
 | .panic y=>match op with
  | .panic x=>A.chk x y
  | _=>false
 | .b2s y=>false
 | .s2b y=>false
 | .nilo _ _ y=>match op with
  | .move x | .assign x=>A.chk x y
  | _=>false
 | .mvf y=>match op with
  | .move x | .assign x=>A.chk x y
  | _=>false
 | .gv y=>false
 | .ldf n ag y=>match op with
  | .load t x=>X7 P t==some n&&(P.underlying t).isSome&&agT P t==ag&&A.chk x y
  | _=>false
 | .ldg n ag y=>match op with
  | .load t x=>X7 P t==some n&&(P.underlying t).isSome&&agT P t==ag&&A.chk x y
  | _=>false
 | .mvg _ _ y _ _=>match op with
  | .move x | .assign x=>A.chk x y
  | _=>false
 | .mvn y _ _=>match op with
  | .move x | .assign x=>A.chk x y
  | _=>false
 | .cvb y=>match op with
  | .convert s t x=>s==t&&(match P.underlying s with | some (.slice e)=>(P.underlying e matches some (.int .u8)) | _=>false)&&A.chk x y
  | _=>false
 | .ustr E y z=>false
 | .mkm r=>match op with
  | .makeMap t h=>(P.underlying t matches some (.map _ _))&&Xhc h r
  | _=>false
 | .lkp kd z ok m k=>match op with
  | .lookup t x i o=>o==ok&&(match P.underlying t with
   | some (.map kt et)=>W8 P kt kd&&(match U2 P et with | some cs=>D.isC z cs&&(((P.info? et).bind (·.zero)).map fun v=>match v with | .agg _=>true | _=>false)==some (V.d z).isAgg | none=>false)
   | _=>false)&&A.chk x m&&A.chk i k
  | _=>false
 | .mset kd m k v=>match op with
  | .mapUpdate t x i y=>(match P.underlying t with | some (.map kt _)=>W8 P kt kd | _=>false)&&A.chk x m&&A.chk i k&&A.chk y v
  | .insert t x i y=>(match P.underlying t with | some (.map kt _)=>W8 P kt kd | _=>false)&&A.chk x m&&A.chk i k&&A.chk y v
  | _=>false
 | .gld g n ag _=>match op with
  | .load t (.global h)=>h==g&&X7 P t==some n&&(P.underlying t).isSome&&agT P t==ag
  | _=>false
 | .slg n z y=>false
 | .slb n z y lo hi=>false
 | .cpy z y s=>false
 | .clr z0 z y=>false
 | .gix g n z _ j=>false
 | .rng y=>match op with
  | .range t x=>(P.underlying t matches some (.map _ _))&&A.chk x y
  | _=>false
 | .nxt y=>match op with
  | .next x false=>A.chk x y
  | _=>false
 | .ety y=>match op with
  | .entry x=>A.chk x y
  | _=>false
 | .lenM y=>match op with
  | .call { callee:=.builtin .len,args:=args,argTypes:=ts }=>match args.toList,ts.toList with
   | [u],[t]=>(P.underlying t matches some (.map _ _))&&A.chk u y
   | _,_=>false
  | _=>false
 | .isn e m y=>match op with
  | .binOp o t x cc _=>Ybg o e&&A.chk x y&&Yls m (P.underlying t) cc
  | _=>false
 | .inv nm t f fl y args=>match op with
  | .call { callee:=.invoke x m,args:=as,.. }=>m==nm&&A.chk x y&&Xa7 as.toList args&&Yg5 P t nm f fl
  | _=>false
 | .mks E sz B z l=>match op with
  | .makeSlice t x cc=>A.chk x l&&A.chk cc l&&(match P.underlying t with | some (.slice e)=>e==E | _=>false)&&(match P.info? E with | some i=>i.size==sz&&i.bytes==B | none=>false)&&sz != 0&&B != 0&&(match U2 P E with | some cs=>D.isC z cs&&cs.length==sz | none=>false)&&z.sz==sz
  | _=>false
 | .trn z y h=>match op with
  | .slice t x none (some hh) none=>(match P.underlying t with | some (.slice e)=>X7 P e==some z&&z != 0 | _=>false)&&A.chk x y&&A.chk hh h
  | _=>false
end Go.Ab
namespace Go.Ab
open Go

def U8 (P:Program)(a:Act)(w:World)(ρ:Env)(op:Op)(K Pn:V->Xa->Prop):Prop:=
 ∀(o:Oper),o.op=op->∀(next:Act->World->Prop) (Q:Exit->Act->World->Prop),
  (∀v x ob' w' ρ',K x ob'->x.rep w' ρ' v->OM w' ρ' ob'->Tr w ρ w' ρ'->next (a.put o.dst v) w')->
  (∀u x ob' w' ρ',Pn x ob'->x.rep w' ρ' u->OM w' ρ' ob'->Tr w ρ w' ρ'->Q (.panic [{ v:=u,recovered:=false }]) a w')->
  wpA P o a w next Q

def Xr5 (P:Program)(a:Act)(w:World)(ρ:Env)(op:Op)(ob:Xa)(K:V->Xa->Prop):Prop:=
 ∃v x w',K x ob/\x.rep w' ρ v/\Ext w w'/\∀(o:Oper),o.op=op->(execOp a.eval o).run P w=.ok (.value v) w'

section
variable {P:Program} {a:Act} {w:World} {ρ:Env} {sl:Xf} {ob:Xa} {K Pn:V->Xa->Prop}

theorem Xv {op:Op}{v:Value}{x:V}{ob':Xa}{w':World}{ρ':Env}(hr:∀o:Oper,o.op=op->(execOp a.eval o).run P w=.ok (.value v) w')
  (hK:K x ob') (h1:x.rep w' ρ' v) (h2:OM w' ρ' ob') (h3:Tr w ρ w' ρ'):U8 P a w ρ op K Pn:=by
 intro o ho next Q hn _
 unfold wpA
 rw[hr o ho]
 exact hn v x ob' w' ρ' hK h1 h2 h3

theorem Xr5.does {op:Op}(h:Xr5 P a w ρ op ob K)(hO:OM w ρ ob):U8 P a w ρ op K Pn:=by
 obtain⟨v,x,w',hK,h1,h2,h3⟩:=h
 exact Xv h3 hK h1 (hO.ext h2) h2.tr

def Xsc (P:Program)(a:Act)(w:World)(ρ:Env)(op:Op)(ob:Xa)(K:V->Xa->Prop):Prop:=
 ∀(o:Oper),o.op=op->∀(next:Act->World->Prop) (Q:Exit->Act->World->Prop),
  (∀v x w',K x ob->x.rep w' ρ v->Ext w w'->next (a.put o.dst v) w')->wpA P o a w next Q

theorem Xr5.doesE {op:Op}(h:Xr5 P a w ρ op ob K):Xsc P a w ρ op ob K:=by
 obtain⟨v,x,w',hK,h1,h2,h3⟩:=h
 intro o ho next Q hn
 unfold wpA
 rw[h3 o ho]
 exact hn v x w' hK h1 h2

theorem Xsc.does {op:Op}(h:Xsc P a w ρ op ob K)(hO:OM w ρ ob):U8 P a w ρ op K Pn:=fun o ho next Q hn _=>
 h o ho next Q fun v x w' hK h1 h2=>hn v x ob w' ρ hK h1 (hO.ext h2) h2.tr

def Xdc (P:Program)(a:Act)(w:World)(ρ:Env)(op:Op)(K:V->Xa->Prop):Prop:=
 ∀(o:Oper),o.op=op->∀(next:Act->World->Prop) (Q:Exit->Act->World->Prop),
  (∀v x ob' w' ρ',K x ob'->x.rep w' ρ' v->OM w' ρ' ob'->Tr w ρ w' ρ'->Ext w w'->next (a.put o.dst v) w')->wpA P o a w next Q
theorem Xdc.does {op:Op}(h:Xdc P a w ρ op K):U8 P a w ρ op K Pn:=fun o ho next Q hn _=>
 h o ho next Q fun v x ob' w' ρ' h0 h1 h2 h3 _=>hn v x ob' w' ρ' h0 h1 h2 h3
theorem Zo {op:Op}{v:Value}{x:V}{ob':Xa}{w':World}{ρ':Env}(hr:∀o:Oper,o.op=op->(execOp a.eval o).run P w=.ok (.value v) w')
  (hK:K x ob') (h1:x.rep w' ρ' v) (h2:OM w' ρ' ob') (h3:Tr w ρ w' ρ') (h4:Ext w w'):Xdc P a w ρ op K:=by
 intro o ho next Q hn
 unfold wpA
 rw[hr o ho]
 exact hn v x ob' w' ρ' hK h1 h2 h3 h4

theorem Q0 {op:Op}{ob':Xa}{w':World}{ρ':Env}(hr:∀o:Oper,o.op=op->(execOp a.eval o).run P w=.ok .skip w')
  (hK:K .undef ob') (h2:OM w' ρ' ob') (h3:Tr w ρ w' ρ'):U8 P a w ρ op K Pn:=by
 intro o ho next Q hn _
 unfold wpA
 rw[hr o ho]
 exact hn undef .undef ob' w' ρ' hK (Yu.2 rfl) h2 h3

theorem Ygg (hs:SM w ρ sl a)(hO:OM w ρ ob){op:Op}{x:C}(hc:x.chk P op=true)(h:x.wp sl ob (fun v=>K v ob)):U8 P a w ρ op K Pn:=by
 obtain⟨v,y,hK,h1,h2⟩:=C.sound hs hO hc h
 exact Xv (fun o ho=>h2 o ho w (fun _=>Ext.refl w)) hK h1 hO (Tr.refl _ _)

theorem Xh4 (hs:SM w ρ sl a)(hO:OM w ρ ob){op:Op}{E:Nat}{x:A}(hc:I.chk P op (.box E x)=true)(h:Xr7 E ob K (x.ev sl)):Xdc P a w ρ op K:=by
 cases op<;>simp[I.chk]at hc
 rename_i E' y
 obtain⟨rfl,hc⟩:=hc
 obtain⟨h2,hK⟩:=h
 have h1:=Xw ob
 have r1:=A.sound hs hc
 have hre:=Z3 (V.sto_any h2) r1
 obtain⟨t1,o1,p1⟩:=Xwi hO h1 hre E'
 refine Zo (fun o ho=>?_) hK p1 o1 t1 (Y6 w _)
 simp only[execOp,ho,Instr.box,newVar,newRow,Sem.run_bind,run_newObj,Result.andThen_ok,Sem.run_pure,Array.toArray_toList]
 rfl

theorem Xhj (hs:SM w ρ sl a)(hO:OM w ρ ob){op:Op}{E:Nat}{x:A}(hc:I.chk P op (.boxr E x)=true)(h:X1a ob K (x.ev sl)):Xr5 P a w ρ op ob K:=by
 cases op<;>simp[I.chk]at hc
 rename_i E' y
 obtain⟨rfl,hc⟩:=hc
 have r1:=A.sound hs hc
 unfold X1a at h
 split at h
 ·rename_i d e1
  rw[e1]at r1
  have hre:=Z3 (V.sto_any (v:=.d d) rfl) r1
  have he:=Y6 w (.cells (a.eval y).cells E')
  have hno:¬own ρ w.heap.size:=by
   rintro (⟨id,o,h1,h2⟩ | h1)
   ·have:=Ws hO h1 h2; omega
   ·have:=hO.xlt _ h1; omega
  have hre':(V.d d).repC (Jx w (.cells (a.eval y).cells E')) ρ (a.eval y).cells.toList:=V.repC_tr he.tr _ _ hre
  refine⟨.pointer (some ⟨w.heap.size,0,none⟩),.d (.ref d),Jx w (.cells (a.eval y).cells E'),h,?_,he,fun o ho=>?_⟩
  ·refine Ug.2 ⟨_,(a.eval y).cells.toList,rfl,rfl,⟨fun _=>⟨rfl,hno,?_⟩,fun i hi=>?_⟩,by simpa[V.repC]using hre'⟩
   ·show w.heap.size<(w.heap.push _).size
    simp
   ·have:=Zd w (.cells (a.eval y).cells E')
    simp only[World.cell?,this]
    simp
  ·simp only[execOp,ho,Instr.box,newVar,newRow,Sem.run_bind,run_newObj,Result.andThen_ok,Sem.run_pure,Array.toArray_toList]
   rfl
 ·exact h.elim

theorem Xb9 (hO:OM w ρ ob){op:Op}{E0:Nat}{z:D}(hc:I.chk P op (.alloc E0 z)=true)(h:Xr7 E0 ob K (.d z)):Xdc P a w ρ op K:=by
 cases op<;>simp only[I.chk,Bool.false_eq_true]at hc
 rename_i E
 simp only[Bool.and_eq_true,beq_iff_eq]at hc
 obtain⟨rfl,hc⟩:=hc
 obtain⟨h2,hK⟩:=h
 have h1:=Xw ob
 cases hz:U2 P E with
 | none=>simp[hz]at hc
 | some cs=>
  simp only[hz]at hc
  obtain⟨v,e1,_,hzr⟩:=Ux hz
  have hre:(V.d z).repC w ρ cs:=by simp only[V.repC]; exact D.isC_rep z cs hc
  obtain⟨t1,o1,p1⟩:=Xwi hO h1 hre E
  refine Zo (fun o ho=>?_) hK p1 o1 t1 (Y6 w _)
  simp only[execOp,ho,Instr.alloc,newVar,newRow,Sem.run_bind,hzr,run_newObj,Result.andThen_ok,Sem.run_pure]
  rw[<-e1,Array.toArray_toList]
  rfl

theorem X84 (hs:SM w ρ sl a)(hO:OM w ρ ob){op:Op}{n:Nat}{x v:A}(hc:I.chk P op (.st n x v)=true)(h:stK ob n (v.ev sl) K (x.ev sl)):U8 P a w ρ op K Pn:=by
 cases op<;>simp[I.chk]at hc
 rename_i t y u
 obtain⟨⟨hn,h1⟩,h2⟩:=hc
 have r1:=A.sound hs h1
 have r2:=A.sound hs h2
 unfold stK at h
 split at h
 ·rename_i id p e1
  rw[e1]at r1
  unfold Xzr at h
  split at h
  ·rename_i E t0 hl
   obtain⟨b,sh,hρ,r1⟩:=Yt hO hl r1
   cases hat:t0.at p with
   | none=>simp[hat,Xzs]at h
   | some old=>
    simp only[hat,Xzs]at h
    obtain⟨hsh,hsz,hst,t',hset,hK⟩:=h
    obtain⟨b',cs,g1,g2,g3⟩:=hO.one id _ hl
    rw[hρ]at g1
    simp only[Option.some.injEq,RO.box.injEq]at g1
    obtain⟨rfl,rfl⟩:=g1
    have hre:=Z3 (V.sto_any hst) r2
    obtain⟨t'',e2,e3,h4⟩:=V.repC_set p t0 old _ cs _ g3 hat hre hsh
    rw[hset]at e2
    simp only[Option.some.injEq]at e2
    subst e2
    obtain⟨t1,o1⟩:=Xkb hO hl hρ g2 e3 h4
    obtain⟨c1,c2,c3,q1,q2,q3⟩:=V.repC_at p t0 old cs g3 hat
    have hlen:=V.repC_len _ _ hre
    have hl2:=V.repC_len _ _ q3
    refine Q0 (fun o ho=>?_) hK o1 t1
    have hsize:(a.eval u).cells.size=n:=by
     rw[<-hsz]; unfold V.size; rw[<-hsh,<-hlen]; simp
    have hrun:=run_storeCells_at (P:=P) b (t0.shape.off p) E (a.eval u).cells.toList 0 cs.toArray w g2 (by
     rw[hlen,hsh,<-hl2,<-q2,q1]; simp) (V.one _ _ hst hre)
    simp only[execOp,ho,Instr.storeAt,Instr.sureAddr,storeVar,r1,Sem.run_bind,Sem.run_pure,Result.andThen_ok,Xs hn,hsize,ne_eq,not_true,if_false]
    rw[hrun]
    simp
  ·exact h.elim
 ·rename_i id m z i f p e1
  rw[e1]at r1
  unfold Yry at h
  split at h
  ·rename_i ox hl
   unfold Ys0 at h
   split at h
   ·rename_i v0 hel
    obtain⟨⟨hs1,hs2⟩,h⟩:=h
    cases hat:v0.at p with
    | none=>simp[hat,Yrz]at h
    | some old=>
     simp only[hat,Yrz]at h
     obtain⟨hsh,hsz,hst,t',hset,hK⟩:=h
     obtain⟨b,cap,E,c1,c2,c3,g1,g2,g3,g4,g5⟩:=Xr3 hO hl hel
     rw[Xjx]at r1
     obtain⟨o,q1,q2⟩:=r1
     rw[g1]at q1
     simp only[Option.some.injEq]at q1
     subst q1
     have r1:=q2.2.2 rfl
     have hre:=Z3 (V.sto_any hst) r2
     obtain⟨t'',e2,e3,h4⟩:=V.repC_set p v0 old _ c2 _ g4 hat hre hsh
     rw[hset]at e2
     simp only[Option.some.injEq]at e2
     subst e2
     obtain⟨t1,o1⟩:=g5 t' _ e3 h4
     obtain⟨d1,d2,d3,z1,z2,z3⟩:=V.repC_at p v0 old c2 g4 hat
     have hlen:=V.repC_len _ _ hre
     have hl2:=V.repC_len _ _ z3
     refine Q0 (fun o ho=>?_) hK o1 t1
     have hsize:(a.eval u).cells.size=n:=by
      rw[<-hsz]; unfold V.size; rw[<-hsh,<-hlen]; simp
     have eoff:i*z+f=c1.length+v0.shape.off p:=by rw[hs1,hs2,g3]
     have hl3:(a.eval u).cells.toList.length=d2.length:=by rw[hlen,hsh,<-hl2]
     have hrun:=run_storeCells_at (P:=P) b (c1.length+v0.shape.off p) E (a.eval u).cells.toList 0 (c1++(c2++c3)).toArray w g2 (by
      rw[hl3,<-z2,z1]; simp; omega) (V.one _ _ hst hre)
     simp only[execOp,ho,Instr.storeAt,Instr.sureAddr,storeVar,r1,Sem.run_bind,Sem.run_pure,Result.andThen_ok,Xs hn,hsize,ne_eq,not_true,if_false,eoff]
     rw[hrun]
     have e7:(c1++(c2++c3)).take (c1.length+v0.shape.off p)=c1++c2.take (v0.shape.off p):=by
      rw[List.take_length_add_append,List.take_append_of_le_length (by rw[z1,<-z2]; simp)]
     have e8:(c1++(c2++c3)).drop (c1.length+v0.shape.off p+(a.eval u).cells.toList.length)=c2.drop (v0.shape.off p+(a.eval u).cells.toList.length)++c3:=by
      rw[Nat.add_assoc,List.drop_length_add_append,List.drop_append_of_le_length (by rw[z1,<-z2,hl3]; simp)]
     simp only[Sem.run_pure,Result.andThen_ok]
     congr 2
     simp only[Nat.add_zero,List.toList_toArray]at e7 e8⊢
     rw[e7,e8]
     simp only[List.append_assoc]
   ·exact h.elim
  ·exact h.elim
 ·exact h.elim

theorem Xqv (hs:SM w ρ sl a)(hO:OM w ρ ob){op:Op}{x:A}(hc:I.chk P op (.panic x)=true)(h:Jk ob Pn (x.ev sl)):U8 P a w ρ op K Pn:=by
 cases op<;>simp[I.chk]at hc
 have r1:=A.sound hs hc
 unfold Jk at h
 split at h
 ·rename_i t v e1
  rw[e1]at r1
  have r2:=r1
  rw[Z2 (by simp[V.isAgg]) (by simp)]at r2
  simp only[V.repC,List.cons.injEq,and_true]at r2
  obtain⟨c,r2,_⟩:=r2
  intro o ho next Q _ hq
  unfold wpA
  have:(execOp a.eval o).run P w=.halt (.panic (.iface t c)) w:=by simp[execOp,ho,Instr.panic,r2]
  rw[this]
  rw[r2]at r1
  exact hq _ _ _ _ _ h r1 hO (Tr.refl _ _)
 ·rename_i t v e1
  rw[e1]at r1
  have r2:=r1
  rw[Jp]at r2
  obtain⟨c,r2,_⟩:=r2
  intro o ho next Q _ hq
  unfold wpA
  have:(execOp a.eval o).run P w=.halt (.panic (.iface t c)) w:=by simp[execOp,ho,Instr.panic,r2]
  rw[this]
  rw[r2]at r1
  exact hq _ _ _ _ _ h r1 hO (Tr.refl _ _)
 ·exact h.elim

theorem reps_append {w:World}{ρ:Env}:∀{xs ys:List V} {us vs:List Value},V.reps w ρ xs us->V.reps w ρ ys vs->V.reps w ρ (xs++ys) (us++vs)
 | [],ys,us,vs,h1,h2=>by simp only[V.reps]at h1; subst h1; simpa using h2
 | x::r,ys,us,vs,h1,h2=>by
  simp only[V.reps]at h1
  obtain⟨u,us',rfl,h3,h4⟩:=h1
  simp only[List.cons_append,V.reps]
  exact⟨u,us'++vs,rfl,h3,reps_append h4 h2⟩

theorem Um {P:Prg}(hg:ρ.gl=P.g){op:Op}{f:Nat}{vs:List V}{args:List Value}(hr:∀o:Oper,o.op=op->(execOp a.eval o).run P.p w=.ok (.enter f args.toArray) w)
  (h:ACall P f vs ob (Xda K Pn)) (hO:OM w ρ ob) (h1:V.reps w ρ vs args):U8 P.p a w ρ op K Pn:=by
 intro o ho next Q hn hq
 unfold wpA
 rw[hr o ho]
 simp only[Xbg]
 refine (h.run w ρ args hO hg h1).mono fun e w' ⟨out,ob',ρ',k,r,o1,t1⟩=>?_
 cases e with
 | returned u=>
  cases out with
  | ret v=>exact hn u v ob' w' ρ' k r o1 t1
  | panic v=>exact r.elim
 | panicked ch=>
  cases out with
  | ret v=>exact r.elim
  | panic v=>obtain⟨u,rfl,r⟩:=r; exact hq u v ob' w' ρ' k r o1 t1
 | outgrown=>cases out<;>exact r.elim

theorem Yg {f:Nat}(h:Xm P f=true)(args:Array Value)(w:World):(callFunc f args).run P w=.ok (.enter f args) w:=by
 unfold Xm at h
 split at h
 ·rename_i fn hf
  simp only[Bool.and_eq_true,bne_iff_ne,ne_eq]at h
  obtain⟨b,hb⟩:=Option.isSome_iff_exists.1 h.2
  simp[callFunc,hf,h.1,hb]
 ·simp at h

theorem Xuf {P:Prg}(hg:ρ.gl=P.g)(hs:SM w ρ sl a)(hO:OM w ρ ob){op:Op}{f:Nat}{args:List A}(hc:I.chk P.p op (.call f args)=true)(h:ACall P f (args.map (A.ev sl)) ob (Xda K Pn)):U8 P.p a w ρ op K Pn:=by
 cases op<;>simp only[I.chk,Bool.false_eq_true]at hc
 rename_i c
 obtain⟨ca,as,ts⟩:=c
 cases ca<;>(try simp only[Bool.false_eq_true]at hc)
 rename_i g
 cases g<;>(try simp only[Bool.false_eq_true]at hc)
 simp only[Bool.and_eq_true,beq_iff_eq]at hc
 obtain⟨⟨rfl,h1⟩,h2⟩:=hc
 refine Um hg (args:=as.toList.map a.eval) (fun o ho=>?_) h hO (Y2 hs h2)
 have:a.eval (.func f)=.func (.func f) #[] #[]:=rfl
 simp only[execOp,ho,resolve,this,Deferred.ofValue,Sem.run_bind,Sem.run_pure,Result.andThen_ok,invoke,Yg h1,Y0]
 simp

theorem Xb8 {P:Prg}(hg:ρ.gl=P.g)(hs:SM w ρ sl a)(hO:OM w ρ ob){op:Op}{f:Nat}{args:List A}(hc:I.chk P.p op (.pcall f args)=true)(h:PCall P f (args.map (A.ev sl)) ob fun v=>K v ob):Xsc P.p a w ρ op ob K:=by
 cases op<;>simp only[I.chk,Bool.false_eq_true]at hc
 rename_i c
 obtain⟨ca,as,ts⟩:=c
 cases ca<;>(try simp only[Bool.false_eq_true]at hc)
 rename_i g
 cases g<;>(try simp only[Bool.false_eq_true]at hc)
 simp only[Bool.and_eq_true,beq_iff_eq]at hc
 obtain⟨⟨rfl,h1⟩,h2⟩:=hc
 intro o ho next Q hn
 have hrun:(execOp a.eval o).run P.p w=.ok (.enter f (as.toList.map a.eval).toArray) w:=by
  have:a.eval (.func f)=.func (.func f) #[] #[]:=rfl
  simp only[execOp,ho,resolve,this,Deferred.ofValue,Sem.run_bind,Sem.run_pure,Result.andThen_ok,invoke,Yg h1,Y0]
  simp
 unfold wpA
 rw[hrun]
 simp only[Xbg]
 refine (h.run w ρ _ hO hg (Y2 hs h2)).mono fun e w' ⟨v,u,k,he,r,x⟩=>?_
 subst he
 exact hn u v w' k r x

theorem Xca {P:Prg}(hg:ρ.gl=P.g)(hs:SM w ρ sl a)(hO:OM w ρ ob){op:Op}{f:Nat}{args:List A}(hc:I.chk P.p op (.xcall f args)=true)(h:XCall P f (args.map (A.ev sl)) ob K):Xdc P.p a w ρ op K:=by
 cases op<;>simp only[I.chk,Bool.false_eq_true]at hc
 rename_i c
 obtain⟨ca,as,ts⟩:=c
 cases ca<;>(try simp only[Bool.false_eq_true]at hc)
 rename_i g
 cases g<;>(try simp only[Bool.false_eq_true]at hc)
 simp only[Bool.and_eq_true,beq_iff_eq]at hc
 obtain⟨⟨rfl,h1⟩,h2⟩:=hc
 intro o ho next Q hn
 have hrun:(execOp a.eval o).run P.p w=.ok (.enter f (as.toList.map a.eval).toArray) w:=by
  have:a.eval (.func f)=.func (.func f) #[] #[]:=rfl
  simp only[execOp,ho,resolve,this,Deferred.ofValue,Sem.run_bind,Sem.run_pure,Result.andThen_ok,invoke,Yg h1,Y0]
  simp
 unfold wpA
 rw[hrun]
 simp only[Xbg]
 refine (h.run w ρ _ hO hg (Y2 hs h2)).mono fun e w' ⟨v,b,ρ',u,k,he,r,o,t,x⟩=>?_
 subst he
 exact hn u v b w' ρ' k r o t x

theorem Xqu {P:Prg}(hg:ρ.gl=P.g)(hs:SM w ρ sl a)(hO:OM w ρ ob){op:Op}{x:A}{args:List A}(hc:I.chk P.p op (.callv x args)=true)(h:Ve P (args.map (A.ev sl)) ob K Pn (x.ev sl)):U8 P.p a w ρ op K Pn:=by
 cases op<;>simp only[I.chk,Bool.false_eq_true]at hc
 rename_i c
 obtain⟨ca,as,ts⟩:=c
 cases ca<;>(try simp only[Bool.false_eq_true]at hc)
 rename_i g
 simp only[Bool.and_eq_true]at hc
 obtain⟨h1,h2⟩:=hc
 have r1:=A.sound hs h1
 unfold Ve at h
 split at h
 ·rename_i f fi ca e1
  rw[e1,Xa2]at r1
  obtain⟨fs,gs,r1,r2,r3⟩:=r1
  refine Um hg (args:=fs++as.toList.map a.eval++gs) (fun o ho=>?_) h.2 hO (reps_append (reps_append r2 (Y2 hs h2)) r3)
  simp only[execOp,ho,resolve,r1,Deferred.ofValue,Sem.run_bind,Sem.run_pure,Result.andThen_ok,invoke,Yg h.1,Y0]
  simp
 ·rename_i f fi ca e1
  rw[e1,Xcx]at r1
  obtain⟨fs,gs,r1,r2,r3⟩:=r1
  refine Um hg (args:=fs++as.toList.map a.eval++gs) (fun o ho=>?_) h.2 hO (reps_append (reps_append r2 (Y2 hs h2)) r3)
  simp only[execOp,ho,resolve,r1,Deferred.ofValue,Sem.run_bind,Sem.run_pure,Result.andThen_ok,invoke,Yg h.1,Y0]
  simp
 ·rename_i id e1
  rw[e1,Jq]at r1
  obtain⟨hl,hy⟩:=h
  rcases r1 with⟨b,hb,r1⟩ | ⟨hb,_⟩
  ·simp only[hdV]at r1
   obtain⟨fn,tm,ca,cb,hyd,hrd⟩:=hy.run w ρ _ b hO hg (Y2 hs h2) hb
   intro o ho next Q hn hq
   have hrun:(execOp a.eval o).run P.p w=.ok (.round b fn tm ca cb) w:=by
    simp only[execOp,ho,resolve,r1,Deferred.ofValue,Sem.run_bind,Sem.run_pure,Result.andThen_ok,invoke]
    simpa[Y0]using hyd
   unfold wpA
   rw[hrun]
   simp only[Xbg]
   refine hrd.mono fun e w' ⟨out,ob',ρ',k,r,o1,t1⟩=>?_
   cases e with
   | returned u=>
    cases out with
    | ret v=>exact hn u v ob' w' ρ' k r o1 t1
    | panic v=>exact r.elim
   | panicked ch=>
    cases out with
    | ret v=>exact r.elim
    | panic v=>obtain⟨u,rfl,r⟩:=r; exact hq u v ob' w' ρ' k r o1 t1
   | outgrown=>cases out<;>exact r.elim
  ·exfalso
   unfold Ylo at hl; split at hl
   ·rename_i hlk
    obtain⟨b,_,_,_,_,_,_,h5,_⟩:=hO.one id _ hlk
    rw[hb]at h5; cases h5
   ·exact hl
 ·exact h.elim

theorem X13 (hs:SM w ρ sl a)(hO:OM w ρ ob){op:Op}{x:A}(hc:I.chk P op (.mvf x)=true)(h:Xq6 K (V.giv ob (x.ev sl))):U8 P a w ρ op K Pn:=by
 cases hg:V.giv ob (x.ev sl) with
 | none=>simp[hg,Xq6]at h
 | some q=>
  obtain⟨d,ob'⟩:=q
  simp only[hg,Xq6]at h
  cases op<;>simp[I.chk]at hc
  all_goals
   have r1:=A.sound hs hc
   obtain⟨ρ',t1,o1,r2⟩:=Xbl hO r1 hg
   exact Xv (fun o ho=>by simp[execOp,ho]) h r2 o1 t1

theorem X1y (hs:SM w ρ sl a)(hO:OM w ρ ob){op:Op}{n:Nat}{ag:Bool}{x:A}(hc:I.chk P op (.ldf n ag x)=true)(h:X54 n ag ob K (x.ev sl)):U8 P a w ρ op K Pn:=by
 have hc':C.chk P op (.ld n ag x)=true:=hc
 unfold X54 at h
 split at h
 ·rename_i id p e1
  cases hat:atO ob id p with
  | none=>simp[hat,Xlg]at h
  | some v=>
   simp only[hat,Xlg]at h
   obtain⟨h1,h2,h⟩:=h
   cases hg:V.giv ob v with
   | none=>simp[hg,Xq6]at h
   | some q=>
    obtain⟨d,ob'⟩:=q
    simp only[hg,Xq6]at h
    obtain⟨u,y,hy,hr,hrun⟩:=Uu (K:=fun y=>y=v) hs hO hc' (by rw[e1]; simp only[ldK,hat,Xi2]; exact⟨h1,h2,trivial⟩)
    subst hy
    obtain⟨ρ',t1,o1,r2⟩:=Xbl hO hr hg
    exact Xv (fun o ho=>hrun o ho w (fun _=>Ext.refl w)) h r2 o1 t1
 ·exact h.elim

theorem X1z (hs:SM w ρ sl a)(hO:OM w ρ ob){op:Op}{n:Nat}{ag:Bool}{x:A}(hc:I.chk P op (.ldg n ag x)=true)(h:Yfb n ag ob K (x.ev sl)):U8 P a w ρ op K Pn:=by
 cases op<;>simp[I.chk]at hc
 rename_i t y
 obtain⟨⟨⟨hn,hu⟩,hag⟩,h1⟩:=hc
 have r1:=A.sound hs h1
 unfold Yfb at h
 split at h
 ·rename_i id p e1
  rw[e1]at r1
  cases hat:atO ob id p with
  | none=>simp[hat,Xwm]at h
  | some v=>
   simp only[hat,Xwm]at h
   obtain⟨h2,h3,h⟩:=h
   cases hg:V.gvF 40000 ob v with
   | none=>simp[hg,Xwl]at h
   | some q=>
    obtain⟨d,ob1⟩:=q
    simp only[hg,Xwl]at h
    obtain⟨hsh,h⟩:=h
    obtain⟨t0,b',cs,E,g1,g2,g3,g4,g5⟩:=Xb5 hO hat
    obtain⟨b,sh,hρ,r1⟩:=Yt hO g1 r1
    rw[hρ]at g3
    simp only[Option.some.injEq,RO.box.injEq]at g3
    obtain⟨rfl,rfl⟩:=g3
    obtain⟨c1,c2,c3,e2,e3,h4⟩:=V.repC_at p t0 v cs g5 g2
    obtain⟨⟨ρ',t1,o1,hx,hxa⟩,hk⟩:=Xin 40000 v ob ρ c2 d ob1 hO h4 hg
    have hlk:Xe ob1 id=some (.box E t0):=by
     rcases hk id with h5 | h5
     ·rw[h5,g1]
     ·rw[h5]at h; exact h.elim
    rw[hlk]at h
    simp only[X34]at h
    obtain⟨t',hset,hK⟩:=h
    have hρ':ρ'.m id=some (.box b t0.shape):=by
     obtain⟨o',p1,p2⟩:=t1.same id _ hρ
     obtain⟨b2,cs2,q1,_⟩:=o1.one id _ hlk
     rw[p1]at q1
     cases p2 with
     | refl=>exact p1
     | gone=>cases q1
     | grow _ hh=>rcases hh with⟨hq,_⟩ | ⟨_,_,hq⟩<;>cases hq
    have g5':=V.repC_tr t1 _ _ g5
    obtain⟨t'',e4,e5,h6⟩:=V.repC_set p t0 v (.d d) cs c2 g5' g2 (by simpa only[V.repC]using hx) (by simpa only[V.shape]using hsh)
    rw[hset]at e4
    simp only[Option.some.injEq]at e4
    subst e4
    have e7:cs.take (t0.shape.off p)++(c2++cs.drop (t0.shape.off p+c2.length))=cs:=by
     rw[<-e3,e2]; simp
    rw[e7]at h6
    have o2:=o1.swap hlk (x':=.box E t') ⟨b,cs,by rw[e5]; exact hρ',g4,h6⟩
    have hl:c2.length=n:=by rw[V.repC_len _ _ h4,<-h2]; rfl
    have hrun:=Xfk (P:=P) (t:=t) (n:=n) hn hu (b:=b) (off:=t0.shape.off p) (cs:=c2) hl (w':=w) (fun i hi=>by
     rw[<-e3]
     simp[World.cell?,g4,e2,List.getElem?_append,hi]) (fun h4=>by rw[hag]at h4; rw[h4]at h3; rw[<-h2]; exact Z0 h3)
    have hre:=W5 (w:=w) (ρ:=ρ') (v:=.d d) (cs:=c2) (by simpa only[V.repC]using hx)
    have hda:(V.d d).isAgg=ag:=by
     rw[<-h3,<-hxa]; cases d<;>rfl
    rw[hda]at hre
    refine Xv (fun o ho=>?_) hK hre o2 t1
    simp only[execOp,ho,r1,Sem.run_bind,hrun,Result.andThen_ok,Sem.run_pure,hag]
 ·exact h.elim

theorem Xps (hO:OM w ρ ob){E sz:Nat}{y x:V}{p:List Nat}(h:Xkh ob E sz p y K x):∃ρ' ob',Tr w ρ w ρ'/\OM w ρ' ob'/\K y ob':=by
 unfold Xkh at h
 split at h
 ·rename_i id q
  unfold Xdh at h
  split at h
  ·rename_i E0 t hl
   rcases h with⟨hat,h⟩ | ⟨_,h⟩
   case inr=>exact⟨ρ,ob,Tr.refl w ρ,hO,h⟩
   obtain⟨b,cs,g1,g2,g3⟩:=hO.one id _ hl
   have hne:id ≠ Xb ob:=by intro e; subst e; rw[Xw]at hl; cases hl
   have hbl:∀b,RO.virt.blk? = some b->w.heap.size<=b:=fun b hb=>by simp[RO.blk?]at hb
   have t1:=W2 w (Ext.refl w) (o:=.virt) (hO.free (Xw ob)) hbl
   have o1:OM w (ρ.ins (Xb ob) .virt) ((Xb ob,.arr E sz [])::ob):=hO.ins (Ext.refl w) (Xw ob) hbl (.inl ⟨by simp[Env.ins],rfl⟩)
   have g3':=V.repC_tr t1 _ _ g3
   obtain⟨c1,c2,c3,e2,e3,h4⟩:=V.repC_at (q++p) t (.d .nils) cs g3' hat
   simp only[V.repC,D.rep]at h4
   subst h4
   obtain⟨t',e4,e5,h6⟩:=V.repC_set (q++p) t (.d .nils) (.sl (Xb ob) 0) cs [.slice none 0 0] g3' hat (by simp only[V.repC]; exact⟨.virt,_,by simp[Env.ins],rfl,rfl,rfl⟩) (by simp[V.shape,D.shape])
   rw[e4]at h
   simp only[Xja]at h
   have e7:cs.take (t.shape.off (q++p))++([Value.slice none 0 0]++cs.drop (t.shape.off (q++p) + [Value.slice none 0 0].length))=cs:=by
    rw[<-e3,e2]; simp
   rw[e7]at h6
   have hl1:Xe ((Xb ob,Ob.arr E sz [])::ob) id=some (.box E0 t):=by simp[Xe,hne.symm,hl]
   obtain⟨t2,o2⟩:=Xkb o1 (t':=t') hl1 (by simp[Env.ins,hne,g1]) g2 e5 h6
   have hw:w.setRow b cs.toArray=w:=by
    have:w.heap[b]? = some (.cells cs.toArray E0 (0,0)):=g2
    obtain⟨hb,hb'⟩:=Array.getElem?_eq_some_iff.1 this
    unfold World.setRow
    have hh:(w.heap.modify b fun o=>match o with | .cells _ e f=>.cells cs.toArray e f | o=>o)=w.heap:=by
     apply Array.ext_getElem?
     intro j
     rw[Array.getElem?_modify]
     split
     ·rename_i e; subst e; rw[this]; simp
     ·rfl
    cases w
    simp only[World.mk.injEq,and_true,true_and]
    exact hh
   rw[hw]at t2 o2
   simp only[setO,hne.symm,if_false]at o2
   exact⟨_,_,t1,o2,h⟩
  ·exact h.elim
 ·exact h.elim

theorem Xpt {y x:V}:∀{l:List (Nat×Nat×List Nat)} {ρ ob},OM w ρ ob->Ybq y K x l ob->∃ρ' ob',Tr w ρ w ρ'/\OM w ρ' ob'/\K y ob'
 | [],ρ,ob,hO,h=>⟨ρ,ob,Tr.refl w ρ,hO,h⟩
 | e::l,ρ,ob,hO,h=>by
  obtain⟨ρ1,ob1,t1,o1,h1⟩:=Xps hO h
  obtain⟨ρ2,ob2,t2,o2,h2⟩:=Xpt o1 h1
  exact⟨ρ2,ob2,t1.trans t2,o2,h2⟩

theorem X14 (hs:SM w ρ sl a)(hO:OM w ρ ob){op:Op}{E sz:Nat}{y x:A}{p:List Nat}(hc:I.chk P op (.mvg E sz y x p)=true)(h:Xkh ob E sz p (y.ev sl) K (x.ev sl)):U8 P a w ρ op K Pn:=by
 obtain⟨ρ',ob',t1,o1,h1⟩:=Xps hO h
 cases op<;>simp[I.chk]at hc
 all_goals
  have r1:=A.sound hs hc
  exact Xv (fun o ho=>by simp[execOp,ho]) h1 (V.rep_tr t1 r1) o1 t1

theorem X15 (hs:SM w ρ sl a)(hO:OM w ρ ob){op:Op}{y x:A}{l:List (Nat×Nat×List Nat)}(hc:I.chk P op (.mvn y x l)=true)(h:Ybq (y.ev sl) K (x.ev sl) l ob):U8 P a w ρ op K Pn:=by
 obtain⟨ρ',ob',t1,o1,h1⟩:=Xpt hO h
 cases op<;>simp[I.chk]at hc
 all_goals
  have r1:=A.sound hs hc
  exact Xv (fun o ho=>by simp[execOp,ho]) h1 (V.rep_tr t1 r1) o1 t1
end
end Go.Ab
namespace Go.Ab
open Go
section
variable {P:Program} {a:Act} {w:World} {ρ:Env} {sl:Xf} {ob:Xa} {K Pn:V->Xa->Prop}

theorem Xm2 (hs:SM w ρ sl a){z:List D}{parts:List (Nat×A)}{t e:TypeId}{len sz:Nat}{ps:Array (Nat×Operand)}{K:List V->Prop}(hst:P.underlying t=some (.slice e))(he:X7 P e=some sz)
  (hp:Wj ps.toList parts=true) (hl:z.length=len) (h24:len*sz<=2 ^ 24) (hu:∀x∈z,x.sz=sz) (hz:(match Xc9 P e len sz with | some cs=>D.isCs z cs | none=>false)=true)
  (h:Qx (z.map .d) (parts.map fun (i,x)=>(i,x.ev sl)) K) :
  ∃ks cs,K ks/\V.repCs w ρ ks cs/\ks.map V.shape=(z.map V.d).map V.shape/\∀o:Oper,o.op=.buildSlice t len ps->(execOp a.eval o).run P w=.ok (.value (.slice (some ⟨w.heap.size,0,none⟩) len len)) (Jx w (.cells cs.toArray e)):=by
 cases hzr:Xc9 P e len sz with
 | none=>simp[hzr]at hz
 | some cs=>
  simp only[hzr]at hz
  have hrep:V.repCs w ρ (z.map .d) cs:=(V.repCs_d z cs).2 (D.isCs_rep z cs hz)
  have hplace:∀i,i<((z.map V.d).map V.shape).length->(fun i=>some (i*sz,sz)) i=some (Sh.sizes (((z.map V.d).map V.shape).take i),(((z.map V.d).map V.shape).getD i .leaf).size):=by
   intro i hi
   have hi':i<z.length:=by simpa using hi
   have hx:z[i].shape.size=sz:=by rw[D.size_shape]; exact hu _ (List.getElem_mem hi')
   rw[<-Xp8,D.szs_uniform (sz:=sz) _ (fun x hx=>hu x (List.mem_of_mem_take hx)),List.length_take,Nat.min_eq_left (by omega)]
   simp[hi',V.shape,hx]
  have hkeep:∀(ks:List V) (ps:List (Nat×V)) (K:List V->Prop),Qx ks ps K->Qx ks ps (fun ks'=>K ks'/\ks'.map V.shape=ks.map V.shape):=by
   intro ks ps
   induction ps generalizing ks with
   | nil=>intro K h; exact⟨h,rfl⟩
   | cons p r ih=>
    obtain⟨i,v⟩:=p
    intro K h
    simp only[Qx]at h⊢
    obtain⟨h1,h2,h3,h4⟩:=h
    refine⟨h1,h2,h3,?_⟩
    have h5:=ih (ks.set i v) K h4
    have e:(ks.set i v).map V.shape=ks.map V.shape:=by
     rw[List.map_set,h2]
     apply List.ext_getElem?
     intro j
     by_cases hj:i=j
     ·subst hj; rw[List.getElem?_set]; simp[h1]
     ·rw[List.getElem?_set]; simp[hj]
    rw[e]at h5
    exact h5
  obtain⟨ks',cs',⟨hK,hsh⟩,hR,hF⟩:=Xfc (sl:=sl) hs (fun i=>some (i*sz,sz)) ((z.map V.d).map V.shape) hplace ps.toList parts (z.map .d) cs _ hp hrep rfl (hkeep _ _ _ h)
  refine⟨ks',cs',hK,hR,hsh,fun o ho=>?_⟩
  have hparts:∀ρ':Operand->Value,(ps.map fun (i,x)=>(i,ρ' x)).toList=ps.toList.map fun (i,x)=>(i,ρ' x):=fun ρ'=>by simp
  simp only[execOp,ho,Instr.buildSlice,Sem.run_bind,Xc hst,Xs he,Result.andThen_ok,hparts]
  rw[if_neg (by omega)]
  unfold Xc9 at hzr
  by_cases h0:len*sz=0
  ·simp only[h0,if_true,Option.some.injEq]at hzr
   subst hzr
   simp only[h0,if_true,Sem.run_pure]
   have:(Array.map (fun x=>(#[]:Array Value)[x % (#[]:Array Value).size]!) (Array.range 0))=([]:List Value).toArray:=by simp
   simp only[this,hF,newRow,Sem.run_bind,run_newObj,Result.andThen_ok,Sem.run_pure]
   rfl
  ·simp only[h0,if_false]at hzr⊢
   cases hzt:U2 P e with
   | none=>simp[hzt]at hzr
   | some zc=>
    simp only[hzt,Option.map_some,Option.some.injEq]at hzr
    obtain⟨zv,e1,_,hzrun⟩:=Ux hzt
    have e2:zv.cells=zc.toArray:=by rw[<-e1]
    have e3:Array.map (fun x=>zv.cells[x % zv.cells.size]!) (Array.range (len*sz))=cs.toArray:=by
     rw[e2,<-hzr,Array.toArray_toList]
    simp only[Sem.run_bind,hzrun,Result.andThen_ok,Sem.run_pure,e3,hF,newRow,run_newObj]
    rfl

theorem Xa3 {l z:List D}{sz:Nat}(h:(l.map V.d).map V.shape=(z.map V.d).map V.shape)(hu:∀x∈z,x.sz=sz):l.length=z.length/\∀x∈l,x.sz=sz:=by
 have hlen:l.length=z.length:=by simpa using congrArg List.length h
 refine⟨hlen,fun x hx=>?_⟩
 obtain⟨i,hi,rfl⟩:=List.getElem_of_mem hx
 have h1:=congrArg (fun s:List Sh=>(s.getD i .leaf).size) h
 simp only[List.getD_eq_getElem?_getD,List.getElem?_map,List.getElem?_eq_getElem hi,List.getElem?_eq_getElem (hlen▸hi),Option.map_some,Option.getD_some,V.shape,D.size_shape]at h1
 rw[h1]; exact hu _ (List.getElem_mem _)

theorem Xku {z:List D}{parts:List (Nat×A)}{op:Op}{sz:Nat}{E? : Option Nat}
  (hc:Xdt P op E? sz z parts=true) :
  ∃t len ps e,op=.buildSlice t len ps/\P.underlying t=some (.slice e)/\(∀E,E? = some E->e=E)/\X7 P e=some sz/\Wj ps.toList parts=true/\z.length=len/\len*sz<=2 ^ 24/\(∀x∈z,x.sz=sz)/\(match Xc9 P e len sz with | some cs=>D.isCs z cs | none=>false)=true:=by
 cases op<;>simp only[Xdt,Bool.false_eq_true]at hc
 rename_i t len ps
 simp only[Bool.and_eq_true]at hc
 obtain⟨hp,hc⟩:=hc
 split at hc
 ·rename_i e hst
  simp only[Bool.and_eq_true,beq_iff_eq,decide_eq_true_eq,List.all_eq_true]at hc
  obtain⟨⟨⟨⟨⟨h0,h1⟩,h2⟩,h3⟩,h4⟩,h5⟩:=hc
  refine⟨t,len,ps,e,rfl,hst,fun E hE=>?_,h1,hp,h2,h3,h4,h5⟩
  subst hE; simpa using h0
 ·simp at hc

theorem Xnv (hs:SM w ρ sl a)(hO:OM w ρ ob){op:Op}{sz:Nat}{z:List D}{parts:List (Nat×A)}(hc:I.chk P op (.bls sz z parts)=true)
  (h:Qx (z.map .d) (parts.map fun (i,x)=>(i,x.ev sl)) fun ks=>dK (fun l=>K (.d (.list sz l)) ob) (V.allD ks)):Xr5 P a w ρ op ob K:=by
 obtain⟨t,len,ps,e,rfl,hst,_,he,hp,hl,h24,hu,hz⟩:=Xku (P:=P) (op:=op) (z:=z) (parts:=parts) (sz:=sz) (E?:=none) hc
 obtain⟨ks,cs,hK,hR,hsh,hrun⟩:=Xm2 hs hst he hp hl h24 hu hz h
 cases ha:V.allD ks with
 | none=>simp[ha,dK]at hK
 | some l=>
  simp only[ha,dK]at hK
  have e1:=V.allD_map ha
  subst e1
  rw[V.repCs_d]at hR
  obtain⟨g1,g2⟩:=Xa3 hsh hu
  have he2:=Y6 w (.cells cs.toArray e)
  refine⟨_,_,_,hK,Y3.2 (.inr ⟨_,len,cs,by rw[g1,hl],by omega,?_,D.repL_mono (he2.tr (ρ:=ρ)).mono _ _ hR,g2⟩),he2,hrun⟩
  refine⟨fun _=>⟨rfl,?_,?_⟩,fun i hi=>?_⟩
  ·rintro (⟨id,o,h1,h2⟩ | h1)
   ·have:=Ws hO h1 h2; simp at this
   ·have:=hO.xlt _ h1; simp at this
  ·have:=Zd w (.cells cs.toArray e); exact Xj this
  ·simp[World.cell?,Zd,hi]

theorem Xh2 (hs:SM w ρ sl a)(hO:OM w ρ ob){op:Op}{E sz:Nat}{z:List D}{parts:List (Nat×A)}(hc:I.chk P op (.blo E sz z parts)=true)
  (h:Qx (z.map .d) (parts.map fun (i,x)=>(i,x.ev sl)) fun ks=>dK (fun l=>K (.sl (Xb ob) l.length) ((Xb ob,.arr E sz l)::ob)) (V.allD ks)):Xdc P a w ρ op K:=by
 have hfree:=Xw ob
 obtain⟨t,len,ps,e,rfl,hst,hE,he,hp,hl,h24,hu,hz⟩:=Xku (P:=P) (op:=op) (z:=z) (parts:=parts) (sz:=sz) (E?:=some E) hc
 obtain rfl:=hE E rfl
 obtain⟨ks,cs,hK,hR,hsh,hrun⟩:=Xm2 hs hst he hp hl h24 hu hz h
 cases ha:V.allD ks with
 | none=>simp[ha,dK]at hK
 | some l=>
  simp only[ha,dK]at hK
  have e1:=V.allD_map ha
  subst e1
  rw[V.repCs_d]at hR
  obtain⟨g1,g2⟩:=Xa3 hsh hu
  have he2:=Y6 w (.cells cs.toArray e)
  have hbl:∀b,(RO.arr w.heap.size l.length l.length).blk? = some b->w.heap.size<=b:=fun b hb=>by simp[RO.blk?]at hb; omega
  have t1:=W2 _ he2 (o:=.arr w.heap.size l.length l.length) (hO.free hfree) hbl
  refine Zo hrun hK (Yb.2 ⟨_,by simp[Env.ins]; rfl,?_⟩) (hO.ins he2 hfree hbl ?_) t1 he2
  ·simp only[RO.slice]
   exact⟨Nat.le_refl _,⟨_,_,_,rfl⟩,fun _=>by rw[g1,hl]⟩
  ·refine .inr ⟨w.heap.size,l.length,cs,[],by simp[Env.ins],by simpa using Zd w (.cells cs.toArray e),D.repL_mono t1.mono _ _ hR,g2,?_⟩
   rw[List.append_nil,D.repL_len _ _ hR,D.szs_uniform _ g2]

theorem Xdj {l:List V}{z:List D}{sz:Nat}(h:l.map V.shape=(z.map V.d).map V.shape)(hu:∀x∈z,x.sz=sz):l.length=z.length/\∀x∈l,x.size=sz:=by
 have hlen:l.length=z.length:=by simpa using congrArg List.length h
 refine⟨hlen,fun x hx=>?_⟩
 obtain⟨i,hi,rfl⟩:=List.getElem_of_mem hx
 have h1:=congrArg (fun s:List Sh=>(s.getD i .leaf).size) h
 simp only[List.getD_eq_getElem?_getD,List.getElem?_map,List.getElem?_eq_getElem hi,List.getElem?_eq_getElem (hlen▸hi),Option.map_some,Option.getD_some,V.shape,D.size_shape]at h1
 unfold V.size
 rw[h1]; exact hu _ (List.getElem_mem _)
theorem Xh3 (hs:SM w ρ sl a)(hO:OM w ρ ob){op:Op}{E sz:Nat}{z:List D}{parts:List (Nat×A)}(hc:I.chk P op (.blv E sz z parts)=true)
  (h:Qx (z.map .d) (parts.map fun (i,x)=>(i,x.ev sl)) fun ks=>K (.sl (Xb ob) ks.length) ((Xb ob,.vec E sz ks)::ob)):Xdc P a w ρ op K:=by
 have hfree:=Xw ob
 obtain⟨t,len,ps,e,rfl,hst,hE,he,hp,hl,h24,hu,hz⟩:=Xku (P:=P) (op:=op) (z:=z) (parts:=parts) (sz:=sz) (E?:=some E) hc
 obtain rfl:=hE E rfl
 obtain⟨ks,cs,hK,hR,hsh,hrun⟩:=Xm2 hs hst he hp hl h24 hu hz h
 obtain⟨g1,g2⟩:=Xdj hsh hu
 have he2:=Y6 w (.cells cs.toArray e)
 have hbl:∀b,(RO.arr w.heap.size ks.length ks.length).blk? = some b->w.heap.size<=b:=fun b hb=>by simp[RO.blk?]at hb; omega
 have t1:=W2 _ he2 (o:=.arr w.heap.size ks.length ks.length) (hO.free hfree) hbl
 refine Zo hrun hK (Yb.2 ⟨_,by simp[Env.ins]; rfl,?_⟩) (hO.ins he2 hfree hbl ?_) t1 he2
 ·simp only[RO.slice]
  exact⟨Nat.le_refl _,⟨_,_,_,rfl⟩,fun _=>by rw[g1,hl]⟩
 ·refine .inr ⟨w.heap.size,ks.length,cs,[],by simp[Env.ins],by simpa using Zd w (.cells cs.toArray e),V.repCs_tr t1 _ _ hR,g2,?_⟩
  rw[List.append_nil,V.repCs_len _ _ hR,V.shapes_eq,X6 (z:=sz) _ g2]

theorem Q7 (hO:OM w ρ ob){id:Nat}{x x':Ob}{o:RO}{w':World}(hl:Xe ob id=some x)(t:Tr w ρ w' (ρ.ins id o))(hx:V0 w' (ρ.ins id o) id x')
  (hb:∀b,o.blk? = some b->w.heap.size<=b\/∃p,ρ.m id=some p/\p.blk? = some b) (hk:∀j p b,j ≠ id->ρ.m j=some p->p.blk? = some b->w'.heap[b]? = w.heap[b]?):OM w' (ρ.ins id o) (setO ob id x'):=by
 refine⟨fun j y hy=>?_,fun j p hj=>?_,fun i j p q b h1 h2 h3 h4=>?_,fun b hb=>Nat.lt_of_lt_of_le (hO.xlt b hb) t.size,Q6 t hO.glb,fun b h1 h2=>?_,hO.once.set⟩
 ·rw[Xp ob id j ⟨_,hl⟩]at hy
  split at hy
  ·rename_i e; subst e; simp at hy; subst hy; exact hx
  ·rename_i e
   exact V0.tr t (hO.one j y hy) (by simp[Env.ins,e]) (fun b p h1 h2=>hk j p b e h1 h2)
 ·rw[Xp ob id j ⟨_,hl⟩]
  split
  ·exact⟨_,rfl⟩
  ·rename_i e; exact hO.dom j p (by simpa[Env.ins,e]using hj)
 ·simp only[Env.ins]at h1 h2
  split at h1
  ·rename_i e1
   split at h2
   ·rename_i e2; exact e1.trans e2.symm
   ·simp at h1; subst h1
    rcases hb b h3 with h5 | ⟨r,h5,h6⟩
    ·have:=Ws hO h2 h4; omega
    ·subst e1; exact hO.inj _ _ _ _ _ h5 h2 h6 h4
  ·split at h2
   ·rename_i e2
    simp at h2; subst h2
    rcases hb b h4 with h5 | ⟨r,h5,h6⟩
    ·have:=Ws hO h1 h3; omega
    ·subst e2; exact hO.inj _ _ _ _ _ h1 h5 h3 h6
   ·exact hO.inj i j p q b h1 h2 h3 h4
 ·obtain⟨i,p,h3,h4⟩:=h1
  simp only[Env.ins]at h3 h2
  split at h3
  ·simp at h3; subst h3
   rcases hb b h4 with h5 | ⟨r,h5,h6⟩
   ·have:=hO.xlt b h2; omega
   ·exact hO.xdis b ⟨_,r,h5,h6⟩ h2
  ·exact hO.xdis b ⟨i,p,h3,h4⟩ h2
end
end Go.Ab
namespace Go.Ab
open Go
section
variable {P:Program} {a:Act} {w:World} {ρ:Env} {sl:Xf} {ob:Xa} {K Pn:V->Xa->Prop}

theorem X3.len:∀{es:List (D×V)} {l:List MapEntry},X3 w ρ es l->l.length=es.length
 | [],l,h=>by simp only[X3]at h; subst h; rfl
 | (k,v)::r,l,h=>by obtain⟨e,l',rfl,_,_,h3⟩:=h; simp[X3.len h3]
theorem X3.nth:∀{es:List (D×V)} {l:List MapEntry},X3 w ρ es l->∀(i:Nat) (e:MapEntry),l[i]? = some e->(es.getD i default).1.key=some e.key/\(es.getD i default).2.rep w ρ e.val
 | [],l,h,i,e,he=>by simp only[X3]at h; subst h; simp at he
 | (k,v)::r,l,h,0,e,he=>by obtain⟨e',l',rfl,h1,h2,h3⟩:=h; simp at he; subst he; exact⟨h1,h2⟩
 | (k,v)::r,l,h,i+1,e,he=>by obtain⟨e',l',rfl,h1,h2,h3⟩:=h; simpa using X3.nth h3 i e (by simpa using he)
theorem Jz.nth:∀{l:List MapEntry} {n:Nat},Jz n l->∀(i:Nat) (e:MapEntry),l[i]? = some e->e.born=n+i
 | [],n,h,i,e,he=>by simp at he
 | x::r,n,h,0,e,he=>by simp at he; subst he; simpa using h.1
 | x::r,n,h,i+1,e,he=>by have:=Jz.nth h.2 i e (by simpa using he); omega
theorem Jz.mem {l:List MapEntry}(h:Jz 0 l){e:MapEntry}(he:e∈l):e.born<l.length/\l[e.born]? = some e:=by
 obtain⟨i,hi,rfl⟩:=List.mem_iff_getElem.1 he
 have:=Jz.nth h i _ (List.getElem?_eq_getElem hi)
 rw[Nat.zero_add]at this
 exact⟨by omega,by rw[this]; exact List.getElem?_eq_getElem hi⟩
theorem Jz.find {l:List MapEntry}(h:Jz 0 l){i:Nat}{e:MapEntry}(he:l[i]? = some e):l.find? (·.born==i)=some e:=by
 cases hf:l.find? (·.born==i) with
 | none=>
  have:=List.find?_eq_none.1 hf e (List.mem_of_getElem? he)
  have h2:=Jz.nth h i e he
  rw[Nat.zero_add]at h2
  simp[h2]at this
 | some x=>
  have h1:=List.find?_some hf
  have h2:=(Jz.mem h (List.mem_of_find?_eq_some hf)).2
  have h3:x.born=i:=by simpa using h1
  rw[h3,he]at h2
  exact h2.symm▸rfl
theorem Uc {ow:Nat->Prop}:∀{xs:List D} {us:List Value},Wz xs=some us->D.repL w ow xs us
 | [],us,h=>by simp only[Wz,Option.some.injEq]at h; subst h; rfl
 | x::r,us,h=>by
  simp only[Wz]at h
  split at h
  ·rename_i u us' h1 h2
   cases h
   simp only[D.repL]
   refine⟨[u],us',rfl,?_,Uc h2⟩
   cases x<;>simp only[D.key0,Option.some.injEq,reduceCtorEq]at h1<;>subst h1<;>simp[D.rep]
  ·cases h
theorem Yy {o:Option (List Value)}{u:Value}(h:Ysa o=some u):∃us,o=some us/\u=.agg us.toArray:=by
 cases o with
 | none=>cases h
 | some us=>cases h; exact⟨us,rfl,rfl⟩
theorem Xwh {d:D}{u:Value}(h:d.key=some u):(V.d d).rep w ρ u:=by
 cases d<;>simp only[D.key,Option.some.injEq,reduceCtorEq]at h
 ·subst h; exact X2.2 rfl
 ·subst h; exact rep_bool.2 rfl
 ·subst h; exact Wt.2 rfl
 ·obtain⟨us,h1,rfl⟩:=Yy h
  exact .inr (.inl ⟨rfl,us,rfl,by simp only[V.repC,D.rep]; exact Uc h1⟩)

theorem Xwj (h:OM w ρ ob)(o:Obj)(x:Ob)(hx:V0 (Jx w o) (ρ.ins (Xb ob) (.map w.heap.size)) (Xb ob) x) :
  Tr w ρ (Jx w o) (ρ.ins (Xb ob) (.map w.heap.size))/\OM (Jx w o) (ρ.ins (Xb ob) (.map w.heap.size)) ((Xb ob,x)::ob)/\Ext w (Jx w o):=by
 have he:=Y6 w o
 have hl:=Xw ob
 exact⟨W2 _ he (o:=.map w.heap.size) (h.free hl) (fun b hb=>by simp[RO.blk?]at hb; omega),h.ins he hl (fun b hb=>by simp[RO.blk?]at hb; omega) hx,he⟩

theorem Xh5 (hs:SM w ρ sl a)(hO:OM w ρ ob){op:Op}{x:A}(hc:I.chk P op (.rng x)=true)(h:Yes ob K (x.ev sl) (Xe ob (X6a (x.ev sl)))):Xdc P a w ρ op K:=by
 cases op<;>simp only[I.chk,Bool.false_eq_true,Bool.and_eq_true]at hc
 rename_i t y
 obtain⟨ht,hy⟩:=hc
 obtain⟨kt,et,ht⟩:∃kt et,P.underlying t=some (.map kt et):=by revert ht; split<;>simp_all
 have r1:=A.sound hs hy
 generalize x.ev sl=v at h r1
 unfold Yes at h
 split at h
 ·rename_i id es hl
  simp only[X6a]at hl
  obtain⟨b,l,clk,g1,g2,g3,rfl,g5⟩:=hO.one id _ hl
  rw[Xeh]at r1
  rcases r1 with⟨b',g4,r1⟩ | ⟨g4,_⟩
  ·rw[g1]at g4; cases g4
   have hne:id ≠ Xb ob:=fun e=>by rw[e,Xw]at hl; cases hl
   obtain⟨t1,o1,e1⟩:=Xwj hO (.mapIter (some b) l.length #[] l.length) (.it (some id) es.length []) ⟨w.heap.size,b,by simp[Env.ins],.inl (by simp[Env.ins,hne,g1]),by rw[Zd,g3.len]⟩
   refine Zo (fun o ho=>?_) h (Jq.2 (.inl ⟨w.heap.size,by simp[Env.ins],rfl⟩)) o1 t1 e1
   have hget:(getObj b).run P w=.ok (.map l.toArray l.length) w:=by simp[getObj,Sem.run,g2]
   simp only[execOp,ho,Instr.range,r1,Sem.run_bind,Xc ht,Result.andThen_ok,hget,run_newObj,Sem.run_pure]
   rfl
  ·rw[g1]at g4; cases g4
 ·rw[Jr]at r1
  obtain⟨t1,o1,e1⟩:=Xwj hO (.mapIter none 0 #[] 0) (.it none 0 []) ⟨w.heap.size,by simp[Env.ins],by rw[Zd]⟩
  refine Zo (fun o ho=>?_) h (Jq.2 (.inl ⟨w.heap.size,by simp[Env.ins],rfl⟩)) o1 t1 e1
  simp only[execOp,ho,Instr.range,r1,Sem.run_bind,Xc ht,Result.andThen_ok,run_newObj,Sem.run_pure]
  rfl
 ·exact h.elim

theorem Xqc (h:OM w ρ ob){id b:Nat}{y x:Ob}{o:Obj}(hl:Xe ob id=some y)(hr:ρ.m id=some (.map b))(hb:b<w.heap.size)(hx:V0 (Jy w b o) ρ id x) :
  Tr w ρ (Jy w b o) ρ/\OM (Jy w b o) ρ (setO ob id x):=by
 have t1:Tr w ρ (Jy w b o) ρ:=by
  refine⟨by rw[Ww]; exact Nat.le_refl _,fun j hj _=>Zb w _ (fun e=>hj ?_),fun _ h=>.inl h,rfl,rfl,fun _ o h=>⟨o,h,.refl o⟩,rfl,rfl,rfl,Nat.le_refl _⟩
  subst e; exact⟨id,_,hr,rfl⟩
 refine⟨t1,fun j z hz=>?_,fun j o hj=>?_,h.inj,fun b' hb'=>by rw[Ww]; exact h.xlt b' hb',Q6 t1 h.glb,h.xdis,h.once.set⟩
 ·rw[Xp ob id j ⟨_,hl⟩]at hz
  split at hz
  ·rename_i e; subst e
   simp at hz; subst hz
   exact hx
  ·rename_i e
   refine V0.tr t1 (h.one j z hz) rfl (fun b' o h1 h2=>Zb w _ (fun e2=>e ?_))
   subst e2
   exact h.inj j id _ _ _ h1 hr h2 rfl
 ·rw[Xp ob id j ⟨_,hl⟩]
  split
  ·exact⟨_,rfl⟩
  ·exact h.dom j o hj

theorem Ut {b:Nat}{o y:Obj}(w:World)(hb:w.heap[b]? = some y)(hy:y.isCells=false):(setObj b o).run P w=.ok () (Jy w b o):=by
 cases y<;>simp_all[setObj,Sem.run,Jy,Obj.isCells]
theorem X4w (P:Program)(w:World){n:Nat}(hn:0<n):∃k w',(choose (.mapNext n)).run P w=.ok k w'/\k<n/\Ext w w'/\w'.heap=w.heap:=by
 rw[run_choose_drew]
 split
 ·exact⟨0,w,rfl,hn,Ext.refl w,rfl⟩
 ·exact⟨_,_,rfl,Nat.mod_lt _ hn,Ext.drew w _,rfl⟩

theorem X16 (hs:SM w ρ sl a)(hO:OM w ρ ob){op:Op}{x:A}(hc:I.chk P op (.nxt x)=true)(h:X4h ob K (x.ev sl)):U8 P a w ρ op K Pn:=by
 cases op<;>simp only[I.chk,Bool.false_eq_true]at hc
 rename_i y st
 cases st<;>simp only[Bool.false_eq_true]at hc
 have r1:=A.sound hs hc
 generalize x.ev sl=v at h r1
 unfold X4h at h
 split at h
 ·rename_i id
  have tupF:(V.tup [.d (.bool false)]).rep w ρ (.tuple #[.bool false]):=by
   rw[Zw]; exact⟨[.bool false],rfl,by simp only[V.reps]; exact⟨_,_,rfl,rep_bool.2 rfl,rfl⟩⟩
  unfold Xjk at h
  split at h
  ·rename_i n sn hl
   obtain⟨b,g1,g2⟩:=hO.one id _ hl
   rw[Jq]at r1
   rcases r1 with⟨b',g4,r1⟩ | ⟨g4,_⟩
   ·rw[g1]at g4; cases g4
    simp only[hdV]at r1
    have hget:(getObj b).run P w=.ok (.mapIter none 0 #[] 0) w:=by simp[getObj,Sem.run,g2]
    exact Xv (fun o ho=>by simp[execOp,ho,Instr.next,r1,hget]) h tupF hO (Tr.refl _ _)
   ·rw[g1]at g4; cases g4
  ·rename_i j n seen hl
   obtain⟨b,mb,g1,g2,g3⟩:=hO.one id _ hl
   rw[Jq]at r1
   rcases r1 with⟨b',g4,r1⟩ | ⟨g4,_⟩
   ·rw[g1]at g4; cases g4
    simp only[hdV]at r1
    unfold Xri at h
    split at h
    ·rename_i es hlm
     obtain⟨hlen,hov,hel⟩:=h
     obtain⟨mb',l,clk,m1,m2,m3,rfl,m5⟩:=hO.one j _ hlm
     rcases g2 with g2 | g2
     ·rw[m1]at g2; cases g2
      have hln:l.length=n:=by rw[m3.len,hlen]
      have hget:(getObj b).run P w=.ok (.mapIter (some mb) n seen.toArray n) w:=by simp[getObj,Sem.run,g3]
      have hgm:(getObj mb).run P w=.ok (.map l.toArray l.length) w:=by simp[getObj,Sem.run,m2]
      have hbad:(!seen.toArray.isEmpty&&!l.toArray.isEmpty&&l.toArray.all (fun e=>decide (e.born≥n)))=false:=by
       cases l with
       | nil=>simp
       | cons e r=>
        have h0:=m5.1
        have:decide (e.born≥n)=false:=by simp[h0]; rw[<-hln]; simp
        simp[this]
      let left:Array MapEntry:=l.toArray.filter fun e=>!seen.toArray.contains e.born
      have hold:left.filter (fun e=>decide (e.born<n))=left:=by
       rw[Array.filter_eq_self]
       intro e he
       have he':=(Array.mem_filter.1 he).1
       have:=(Jz.mem m5 (by simpa using he')).1
       simp; omega
      have hnew:left.filter (fun e=>decide (e.born≥n))=#[]:=by
       rw[Array.filter_eq_empty_iff]
       intro e he
       have he':=(Array.mem_filter.1 he).1
       have:=(Jz.mem m5 (by simpa using he')).1
       simp; omega
      have hold2:Array.filter (fun x=>decide (x.born<n)) (Array.filter (fun e=>!seen.toArray.contains e.born) l.toArray)=left:=hold
      have hnew2:Array.filter (fun x=>decide (x.born≥n)) (Array.filter (fun e=>!seen.toArray.contains e.born) l.toArray)=#[]:=hnew
      let cand:Array (Option MapEntry):=(if left.isEmpty then #[none] else #[])++(left++#[]).map some
      have hcs:0<cand.size:=by
       simp only[cand]
       cases hle:left.isEmpty with
       | true=>simp; omega
       | false=>simp[Array.isEmpty_iff]at hle; simp; exact Array.size_pos_iff.2 hle
      obtain⟨k,w1,hk1,hk2,hx1,hh1⟩:=X4w P w hcs
      have hO1:=hO.ext hx1
      cases hck:cand[k]? with
      | none=>simp[Array.getElem?_eq_none_iff]at hck; omega
      | some c=>
       cases c with
       | none=>
        have hle:left.isEmpty=true:=by
         cases hle:left.isEmpty with
         | true=>rfl
         | false=>
          exfalso
          simp only[cand,hle,Bool.false_eq_true,if_false]at hck
          simp at hck
        have hall:(List.range n).all (fun i=>seen.contains i)=true:=by
         rw[List.all_eq_true]
         intro i hi
         have hi:=List.mem_range.1 hi
         have hil:i<l.length:=by omega
         have hb:=Jz.nth m5 i _ (List.getElem?_eq_getElem hil)
         rw[Nat.zero_add]at hb
         cases hc:seen.contains i with
         | true=>rfl
         | false=>
          exfalso
          have:l[i]∈left:=by
           simp only[left,Array.mem_filter]
           refine⟨by simp,?_⟩
           rw[hb]; simpa using hc
          simp[Array.isEmpty_iff]at hle
          rw[hle]at this; simp at this
        refine Xv (w':=w1) (ρ':=ρ) (fun o ho=>?_) (hov hall) tupF hO1 hx1.tr
        simp only[execOp,ho,Instr.next,r1,Sem.run_bind,hget,Result.andThen_ok,hgm,hbad,Bool.false_eq_true,if_false]
        rw[hold2,hnew2]
        change ((Sem.run P (choose (.mapNext cand.size)) w).andThen _).andThen _=_
        rw[hk1]
        simp only[Result.andThen_ok]
        change (Sem.run P (match cand[k]? with | some (some e)=>_ | some none=>_ | none=>_) w1).andThen _=_
        rw[hck]
        simp
       | some e=>
        have hel2:e∈left:=by
         have hm:some e∈cand:=Array.mem_of_getElem? hck
         simp only[cand,Array.append_empty,Array.mem_append,Array.mem_map]at hm
         rcases hm with hm | ⟨e',he',hm⟩
         ·split at hm<;>simp at hm
         ·cases hm; exact he'
        obtain⟨hem,hns⟩:=Array.mem_filter.1 hel2
        obtain⟨hlt,hle⟩:=Jz.mem m5 (e:=e) (by simpa using hem)
        have hns':seen.contains e.born=false:=by simpa using hns
        obtain⟨n1,n2⟩:=m3.nth e.born e hle
        have hbs:b<w1.heap.size:=by rw[hh1]; exact Xj g3
        obtain⟨t2,o2⟩:=Xqc (o:=.mapIter (some mb) n (seen++[e.born]).toArray n) hO1 hl g1 hbs (x:=.it (some j) n (seen++[e.born])) ⟨b,mb,g1,.inl m1,Ju w1 _ hbs⟩
        have t3:=hx1.tr.trans t2
        refine Xv (ρ':=ρ) (v:=.tuple #[.bool true,e.key,e.val]) (fun o ho=>?_) (hel e.born (by omega) hns') ?_ o2 t3
        ·simp only[execOp,ho,Instr.next,r1,Sem.run_bind,hget,Result.andThen_ok,hgm,hbad,Bool.false_eq_true,if_false]
         rw[hold2,hnew2]
         change ((Sem.run P (choose (.mapNext cand.size)) w).andThen _).andThen _=_
         rw[hk1]
         simp only[Result.andThen_ok]
         change (Sem.run P (match cand[k]? with | some (some e)=>_ | some none=>_ | none=>_) w1).andThen _=_
         rw[hck]
         have hset:(setObj b (.mapIter (some mb) n (seen.toArray.push e.born) l.length)).run P w1=.ok () (Jy w1 b (.mapIter (some mb) n (seen++[e.born]).toArray n)):=by
          rw[hln]
          have:(seen.toArray.push e.born)=(seen++[e.born]).toArray:=by simp
          rw[this]
          exact Ut w1 (y:=.mapIter (some mb) n seen.toArray n) (by rw[hh1]; exact g3) rfl
         simp only[Sem.run_bind,hset,Result.andThen_ok,Sem.run_pure]
        ·rw[Zw]
         refine⟨_,rfl,?_⟩
         simp only[V.reps]
         exact⟨_,_,rfl,rep_bool.2 rfl,_,_,rfl,Xwh n1,_,_,rfl,V.rep_tr t3 n2,rfl⟩
     ·rw[m1]at g2; cases g2
    ·exact h.elim
   ·rw[g1]at g4; cases g4
  ·exact h.elim
 ·exact h.elim

theorem Xnw (hs:SM w ρ sl a)(hO:OM w ρ ob){op:Op}{x:A}(hc:I.chk P op (.ety x)=true)(h:X2u ob (fun v=>K v ob) (x.ev sl)):Xr5 P a w ρ op ob K:=by
 cases op<;>simp only[I.chk,Bool.false_eq_true]at hc
 rename_i y
 have r1:=A.sound hs hc
 generalize x.ev sl=v at h r1
 unfold X2u at h
 split at h
 ·rename_i id
  unfold Xkx at h
  split at h
  ·rename_i j n seen hl
   obtain⟨hne,h⟩:=h
   unfold Xqw at h
   split at h
   ·rename_i es hlm
    obtain⟨hi,hlen,hK⟩:=h
    obtain⟨b,mb,g1,g2,g3⟩:=hO.one id _ hl
    obtain⟨mb',l,clk,m1,m2,m3,rfl,m5⟩:=hO.one j _ hlm
    rw[Jq]at r1
    rcases r1 with⟨b',g4,r1⟩ | ⟨g4,_⟩
    ·rw[g1]at g4; cases g4
     rcases g2 with g2 | g2
     ·rw[m1]at g2; cases g2
      simp only[hdV]at r1
      have hln:l.length=n:=by rw[m3.len,hlen]
      have hget:(getObj b).run P w=.ok (.mapIter (some mb) n seen.toArray n) w:=by simp[getObj,Sem.run,g3]
      have hgm:(getObj mb).run P w=.ok (.map l.toArray l.length) w:=by simp[getObj,Sem.run,m2]
      have hst:seen.toArray.back? = some (seen.getLastD 0):=by
       rw[List.back?_toArray]
       cases seen with
       | nil=>exact absurd rfl hne
       | cons x r=>simp[List.getLastD,List.getLast?_eq_some_getLast]
      generalize seen.getLastD 0=i at hi hK hst
      have hle:l[i]? = some (l[i]'(by omega)):=List.getElem?_eq_getElem (by omega)
      have hf:=m5.find hle
      obtain⟨n1,n2⟩:=m3.nth _ _ hle
      generalize l[i]'(by omega)=ee at hle hf n1 n2
      refine⟨.tuple #[ee.key,ee.val],_,w,hK,?_,Ext.refl w,fun o ho=>?_⟩
      ·rw[Zw]
       refine⟨_,rfl,?_⟩
       simp only[V.reps]
       exact⟨_,_,rfl,Xwh n1,_,_,rfl,n2,rfl⟩
      ·simp[execOp,ho,Instr.entry,r1,hget,hst,hgm,hln,hf]
     ·rw[m1]at g2; cases g2
    ·rw[g1]at g4; cases g4
   ·exact h.elim
  ·exact h.elim
 ·exact h.elim

theorem Xhk (hs:SM w ρ sl a)(hO:OM w ρ ob){op:Op}{x:A}(hc:I.chk P op (.lenM x)=true)(h:Xrb ob (fun v=>K v ob) (x.ev sl)):Xr5 P a w ρ op ob K:=by
 cases op<;>simp only[I.chk,Bool.false_eq_true]at hc
 rename_i c
 obtain⟨ca,args,ts⟩:=c
 cases ca<;>(try simp only[Bool.false_eq_true]at hc)
 rename_i b
 cases b<;>(try simp only[Bool.false_eq_true]at hc)
 split at hc
 ·rename_i y t e1 e2
  simp only[Bool.and_eq_true]at hc
  obtain⟨h0,h1⟩:=hc
  obtain⟨kt,et,ht⟩:∃kt et,P.underlying t=some (.map kt et):=by revert h0; split<;>simp_all
  have r1:=A.sound hs h1
  have ea:args=#[y]:=by simpa using congrArg List.toArray e1
  have et:ts=#[t]:=by simpa using congrArg List.toArray e2
  subst ea et
  generalize x.ev sl=v at h r1
  unfold Xrb at h
  split at h
  ·rename_i id
   unfold Ybj at h
   split at h
   ·rename_i es hl
    obtain⟨b,l,clk,g1,g2,g3,rfl,g5⟩:=hO.one id _ hl
    rw[Xeh]at r1
    rcases r1 with⟨b',g4,r1⟩ | ⟨g4,_⟩
    ·rw[g1]at g4; cases g4
     have hget:(getObj b).run P w=.ok (.map l.toArray l.length) w:=by simp[getObj,Sem.run,g2]
     refine⟨_,_,w,h,X2.2 rfl,Ext.refl w,fun o ho=>?_⟩
     simp[execOp,ho,resolve,invoke,builtin,Builtin.len_,r1,Xc ht,goInt,hget,g3.len]
    ·rw[g1]at g4; cases g4
   ·exact h.elim
  ·rw[Jr]at r1
   refine⟨_,_,w,h,X2.2 rfl,Ext.refl w,fun o ho=>?_⟩
   simp[execOp,ho,resolve,invoke,builtin,Builtin.len_,r1,Xc ht,goInt]
  ·exact h.elim
 ·simp at hc

theorem X3k {t e:TypeId}(ht:P.underlying t=some (.slice e))(x:Option Addr)(n m:Nat)(w':World):(Op.equal t (.slice x n m) (.slice none 0 0)).run P w'=.ok x.isNone w':=by
 have:∀d,(Op.equalIn (d+1) t (.slice x n m) (.slice none 0 0)).run P w'=.ok x.isNone w':=fun d=>by cases x<;>simp[Op.equalIn,Xc ht]
 exact this 9999
theorem X3h {t k e:TypeId}(ht:P.underlying t=some (.map k e))(x:Option Nat)(w':World):(Op.equal t (.map x) (.map none)).run P w'=.ok x.isNone w':=by
 have:∀d,(Op.equalIn (d+1) t (.map x) (.map none)).run P w'=.ok x.isNone w':=fun d=>by cases x<;>simp[Op.equalIn,Xc ht]
 exact this 9999
theorem Xqy (op:BinOp)(t:TypeId)(x y:Operand)(b:Option Addr)(n m:Nat)(v:Value)(w':World):(eqGuard op t x y (.slice b n m) v).run P w'=.ok () w':=by
 cases op<;>simp[eqGuard]
theorem Xkz (op:BinOp)(t:TypeId)(x y:Operand)(b:Option Nat)(v:Value)(w':World):(eqGuard op t x y (.map b) v).run P w'=.ok () w':=by
 cases op<;>simp[eqGuard]

theorem Xnx (hs:SM w ρ sl a)(hO:OM w ρ ob){op:Op}{e m:Bool}{x:A}(hc:I.chk P op (.isn e m x)=true)(h:Xwd ob e (fun v=>K v ob) m (x.ev sl)):Xr5 P a w ρ op ob K:=by
 cases op<;>simp only[I.chk,Bool.false_eq_true]at hc
 rename_i o1 t x1 y1 t2
 simp only[Bool.and_eq_true]at hc
 obtain⟨⟨h0,h1⟩,h2⟩:=hc
 have r1:=A.sound hs h1
 generalize x.ev sl=v at h r1
 unfold Yls at h2
 split at h2
 ·rename_i el n m' ht
  simp only[Bool.and_eq_true,beq_iff_eq]at h2
  obtain⟨rfl,rfl⟩:=h2
  have hsl:∀{u:Option Addr} {n m:Nat},a.eval x1=.slice u n m->K (.d (.bool (if u.isNone then e else !e))) ob->Xr5 P a w ρ (.binOp o1 t x1 (.const (.slice none 0 0)) t2) ob K:=by
   intro u n m e1 hK
   have hk:a.eval (.const (.slice none 0 0))=.slice none 0 0:=rfl
   refine⟨_,_,w,hK,rep_bool.2 rfl,Ext.refl w,fun o ho=>?_⟩
   cases u<;>cases o1<;>simp only[Ybg,Bool.false_eq_true]at h0<;>(try (cases e<;>simp at h0))<;>simp[execOp,ho,e1,hk,Xqy,binOp,X3k ht]
  unfold Xwd at h
  split at h
  ·rename_i hm; cases hm
  ·rename_i hm; cases hm
  ·rw[Wk]at r1
   exact hsl r1 h
  ·rename_i xs _
   rw[Y3]at r1
   rcases r1 with⟨rfl,r1⟩ | ⟨ad,cap,vs,r1,_⟩
   ·exact hsl r1 (h.2 rfl)
   ·exact hsl r1 h.1
  ·rename_i id k _
   rw[Yb]at r1
   obtain⟨o,g1,g2⟩:=r1
   have real:∀b len cap,o=.arr b len cap->k=len->K (.d (.bool !e)) ob->Xr5 P a w ρ (.binOp o1 t x1 (.const (.slice none 0 0)) t2) ob K:=by
    intro b len cap e1 e2 hK
    subst e1
    simp only[RO.slice]at g2
    exact hsl (g2.2.2 e2) (by simpa using hK)
   unfold Yv4 at h
   split at h
   ·rename_i E sz xs hl
    obtain⟨rfl,hne,hK⟩:=h
    rcases hO.one id _ hl with⟨_,q2⟩ | ⟨b,cap,cs,sp,q1,_⟩
    ·exact absurd q2 hne
    ·rw[g1]at q1; cases q1
     exact real _ _ _ rfl rfl hK
   ·rename_i E sz xs hl
    obtain⟨rfl,hne,hK⟩:=h
    rcases hO.one id _ hl with⟨_,q2⟩ | ⟨b,cap,cs,sp,q1,_⟩
    ·exact absurd q2 hne
    ·rw[g1]at q1; cases q1
     exact real _ _ _ rfl rfl hK
   ·exact h.elim
  ·exact h.elim
 ·rename_i k el ht
  have hmp:∀{u:Option Nat},a.eval x1=.map u->K (.d (.bool (if u.isNone then e else !e))) ob->Xr5 P a w ρ (.binOp o1 t x1 (.const (.map none)) t2) ob K:=by
   intro u e1 hK
   have hk:a.eval (.const (.map none))=.map none:=rfl
   refine⟨_,_,w,hK,rep_bool.2 rfl,Ext.refl w,fun o ho=>?_⟩
   cases u<;>cases o1<;>simp only[Ybg,Bool.false_eq_true]at h0<;>(try (cases e<;>simp at h0))<;>simp[execOp,ho,e1,hk,Xkz,binOp,X3h ht]
  unfold Xwd at h
  split at h
  ·rename_i id _
   unfold Yv3 at h
   split at h
   ·rename_i es hl
    obtain⟨b,l,clk,g1,_⟩:=hO.one id _ hl
    rw[Xeh]at r1
    rcases r1 with⟨b',g4,r1⟩ | ⟨g4,_⟩
    ·exact hmp r1 (by simpa using h)
    ·rw[g1]at g4; cases g4
   ·exact h.elim
  ·rw[Jr]at r1
   exact hmp r1 h
  all_goals first | contradiction | exact h.elim
 ·cases h2

theorem X4f {t f:Nat}{nm:String}{v:Value}{info:TypeInfo}{m:Method}(hi:P.info? t=some info)(hm:info.methods.find? (·.name==nm)=some m)(hp:m.path=#[])(hf:m.func=some (f,true)){e:TypeId}(ht:P.underlying t=some (.pointer e))(k:Nat) :
  (method (k+1) t v nm).run P w=.ok (f,v) w:=by
 simp only[method,Sem.run_bind,run_typeInfo w hi,Result.andThen_ok,hm,hp,follow,Sem.run_pure,hf,receiverAt,Xc ht,Place.get]
theorem X1x {P:Prg}(hg:ρ.gl=P.g)(hs:SM w ρ sl a)(hO:OM w ρ ob){op:Op}{nm:String}{t f:Nat}{fl:Option (Nat×Nat×Nat×Bool)}{x:A}{args:List A}(hc:I.chk P.p op (.inv nm t f fl x args)=true)
  (h:Yso P t f fl (args.map (A.ev sl)) ob K Pn (x.ev sl)):U8 P.p a w ρ op K Pn:=by
 cases op<;>simp only[I.chk,Bool.false_eq_true]at hc
 rename_i c
 obtain⟨ca,as,ts⟩:=c
 cases ca<;>(try simp only[Bool.false_eq_true]at hc)
 rename_i rc m0
 simp only[Bool.and_eq_true,beq_iff_eq]at hc
 obtain⟨⟨⟨rfl,h1⟩,h2⟩,h3⟩:=hc
 have r1:=A.sound hs h1
 generalize x.ev sl=v at h r1
 unfold Yso at h
 split at h
 ·rename_i t' id p
  obtain⟨rfl,hcal,hr⟩:=h
  rw[Z2 (by simp[V.isAgg]) (by simp)]at r1
  simp only[V.repC,List.cons.injEq,and_true]at r1
  obtain⟨c,r1,rc1⟩:=r1
  have hpt:(V.ptr id p).rep w ρ c:=by
   rcases rc1 with rc1 | ⟨q,_⟩ | ⟨_,rc1⟩
   ·cases rc1
   ·simp[V.isAgg]at q
   ·exact Xbr.2 rc1
  obtain⟨ad,rfl⟩:=Uh hpt
  have hmeth:∃rv r,(method (P.p.types.size+Made.depth) t' (.pointer (some ad)) m0).run P.p w=.ok (f,rv) w/\r.rep w ρ rv/\ACall P f (r::args.map (A.ev sl)) ob (Xda K Pn):=by
   unfold Yg5 at h3
   split at h3
   ·rename_i m hm
    obtain⟨info,hi,hm⟩:∃info,P.p.info? t'=some info/\info.methods.find? (·.name==m0)=some m:=by
     cases hi:P.p.info? t' with
     | none=>rw[hi]at hm; cases hm
     | some info=>rw[hi]at hm; exact⟨info,rfl,hm⟩
    split at h3
    ·rename_i g hfn
     simp only[Bool.and_eq_true,beq_iff_eq]at h3
     obtain⟨⟨rfl,hpe⟩,hty⟩:=h3
     obtain⟨e,ht⟩:∃e,P.p.underlying t'=some (.pointer e):=by revert hty; split<;>simp_all
     have hpe:m.path=#[]:=by simpa[Array.isEmpty_iff]using hpe
     exact⟨_,_,X4f hi hm hpe hfn ht _,hpt,hr⟩
    ·rename_i fi fo n ag g hfn
     simp only[Bool.and_eq_true,beq_iff_eq]at h3
     obtain⟨rfl,h3⟩:=h3
     split at h3
     ·rename_i s hpl
      simp only[Bool.and_eq_true,beq_iff_eq]at h3
      obtain⟨⟨hdr,hix⟩,h3⟩:=h3
      split at h3
      ·rename_i fields hst
       split at h3
       ·rename_i fd hfd
        simp only[Bool.and_eq_true,beq_iff_eq,bne_iff_ne,ne_eq]at h3
        obtain⟨⟨⟨⟨⟨ho,hsz⟩,hn0⟩,hag⟩,hnp⟩,hund⟩:=h3
        simp only[X4r]at hr
        let a2:Act:=⟨#[.pointer (some ad)],[]⟩
        have hs2:SM w ρ [(0,.ptr id p)] a2:=by
         intro k
         simp only[look]
         split
         ·rename_i e; subst e; exact hpt
         ·exact Qp
        have hfT:U6 P.p s.struct fi=some fd:=by simp[U6,hst,hfd]
        obtain⟨v2,y2,hK2,hr2,hrun2⟩:=Xem (P:=P.p) (a:=a2) (f:=fi) (fo:=fo) (x:=.t 0) (op:=.fieldAddr s.struct (.tmp 0) fi) hs2 hO (by simp[C.chk,hfT,ho,hsz,hn0,A.chk]) (by simpa[A.ev,look]using hr)
        have e2:=hrun2 ⟨none,.fieldAddr s.struct (.tmp 0) fi,0, "", #[],none⟩ rfl w (fun _=>Ext.refl w)
        obtain⟨a',hfp,rfl⟩:∃a',(fieldPlace ad fd).run P.p w=.ok a' w/\v2=.pointer (some a'):=by
         have ea:a2.eval (.tmp 0)=.pointer (some ad):=rfl
         simp only[execOp,ea,Instr.fieldAt,Sem.run_bind,Xc hst,Result.andThen_ok,hfd,Instr.sureAddr,Sem.run_pure]at e2
         cases hq:(fieldPlace ad fd).run P.p w with
         | ok a' w'=>simp[hq]at e2; exact⟨a',by rw[e2.2],e2.1.symm⟩
         | halt q w'=>simp[hq]at e2
        let a3:Act:=⟨#[.pointer (some a')],[]⟩
        have hs3:SM w ρ [(0,y2)] a3:=by
         intro k
         simp only[look]
         split
         ·rename_i e; subst e; exact hr2
         ·exact Qp
        obtain⟨v3,y3,hK3,hr3,hrun3⟩:=Uu (P:=P.p) (a:=a3) (n:=n) (ag:=ag) (x:=.t 0) (op:=.load fd.type (.tmp 0)) hs3 hO (by simp[C.chk,hsz,hund,hag,A.chk]) (by simpa[A.ev,look]using hK2)
        have e3:=hrun3 ⟨none,.load fd.type (.tmp 0),0, "", #[],none⟩ rfl w (fun _=>Ext.refl w)
        have hlv:(loadVar fd.type a').run P.p w=.ok v3 w:=by
         have ea:a3.eval (.tmp 0)=.pointer (some a'):=rfl
         simp only[execOp,ea,Instr.loadAt,Sem.run_bind,Instr.sureAddr,Sem.run_pure,Result.andThen_ok]at e3
         revert e3
         generalize (loadVar fd.type a').run P.p w=res
         intro e3
         cases res with
         | ok x w'=>simp at e3; obtain⟨rfl,rfl⟩:=e3; rfl
         | halt x w'=>simp at e3
        refine⟨v3,y3,?_,hr3,hK3⟩
        subst hix
        have hk:P.p.types.size+Made.depth=(P.p.types.size+99)+1:=rfl
        rw[hk]
        generalize P.p.types.size+99=kf
        obtain⟨td,htd⟩:=Option.isSome_iff_exists.1 hund
        have hnp':∀e,td ≠ .pointer e:=fun e he=>by rw[htd,he]at hnp; simp at hnp
        have hrec:∀wr,(receiverAt fd.type (.var a') false wr).run P.p w=.ok v3 w:=by
         intro wr
         unfold receiverAt
         simp only[Sem.run_bind,Xc htd,Result.andThen_ok]
         cases td<;>first | exact absurd rfl (hnp' _) | (simp only[Place.get]; exact hlv)
        simp only[method,Sem.run_bind,run_typeInfo w hi,Result.andThen_ok,hm,hpl,follow,Xc hst,hfd,hdr,if_true,Place.get,Sem.run_pure,asAddr,hfp,hfn,hrec]
       ·cases h3
      ·cases h3
     ·cases h3
    ·cases h3
   ·cases h3
  obtain⟨rv,r,q1,q2,q3⟩:=hmeth
  refine Um hg (args:=rv::as.toList.map a.eval) (fun o ho=>?_) q3 hO (by simp only[V.reps]; exact⟨_,_,rfl,q2,Y2 hs h2⟩)
  have e0:(#[Value.iface t' (.pointer (some ad))]++Array.map a.eval as)[0]? = some (.iface t' (.pointer (some ad))):=by simp[Array.getElem?_append]
  have e1:(#[Value.iface t' (.pointer (some ad))]++Array.map a.eval as).extract 1 (#[Value.iface t' (.pointer (some ad))]++Array.map a.eval as).size=Array.map a.eval as:=by
   apply Array.ext'; simp; exact List.take_of_length_le (by simp)
  simp only[execOp,ho,resolve,r1,Sem.run_bind,Sem.run_pure,Result.andThen_ok,invoke,e0,e1,callMethod]
  have hp:∀w,(program).run P.p w=.ok P.p w:=fun _=>rfl
  simp only[Sem.run_bind,hp,Result.andThen_ok,q1,Yg hcal]
  congr 2
  apply Array.ext'; simp
 ·exact h.elim
end
end Go.Ab
