/- Texts of this claim joined by a program, part 4 of 20; the last is: Equations of elements of growing slices. Over any program; no condition. -/
import Derived.Test.YtolkimpelpnpbaaGreatDoorP3
import Derived.IntWalk
import Derived.Defers
import Derived.Recover
set_option linter.unusedSimpArgs false
set_option linter.unusedVariables false
set_option linter.unusedSectionVars false
set_option linter.defProp false
namespace Go.Ab
open Go

inductive E where
 | a (x:A)
 | u (c:C) (x:E)
 | b (c:C) (x y:E)
 | t (c:C) (x y z:E)
 | ite (c x y:E)
 | call (f:Nat) (x:E)
 | nil
 | cons (x r:E)

structure Fn where
 pre:List V->Prop
 val:List V->V
abbrev Tab:=List (Nat×Fn)
def Xae:Tab->Nat->Option Fn
 | [],_=>none
 | (j,x)::r,k=>if j=k then some x else Xae r k
def TOk (P:Prg)(T:Tab):Prop:=∀f F,Xae T f=some F->∀vs,F.pre vs->∀(ob:Xb) (K:V->Prop),K (F.val vs)->PCall P f vs ob K

def isB (pol:Bool):V->Bool
 | .d (.bool b)=>b==pol
 | _=>false
def Xdg:V->Prop
 | .d (.bool _)=>True
 | _=>False
def Xy4 (x:V):V->V
 | .tup xs=>.tup (x::xs)
 | _=>.any
def X6y:Option Fn->V->V
 | some F,.tup vs=>F.val vs
 | _,_=>.any
def X6x:Option Fn->V->Prop
 | some F,.tup vs=>F.pre vs
 | _,_=>False

def E.val (T:Tab)(sl:Xf)(ob:Xb):E->V
 | .a x=>x.ev sl
 | .u c x=>c.val [(0,x.val T sl ob)] ob
 | .b c x y=>c.val [(0,x.val T sl ob),(1,y.val T sl ob)] ob
 | .t c x y z=>c.val [(0,x.val T sl ob),(1,y.val T sl ob),(2,z.val T sl ob)] ob
 | .ite c x y=>Xed (c.val T sl ob) (x.val T sl ob) (y.val T sl ob)
 | .call f x=>X6y (Xae T f) (x.val T sl ob)
 | .nil=>.tup []
 | .cons x r=>Xy4 (x.val T sl ob) (r.val T sl ob)
def E.ok (T:Tab)(sl:Xf)(ob:Xb):E->Prop
 | .a _=>True
 | .u c x=>x.ok T sl ob/\c.ok [(0,x.val T sl ob)] ob
 | .b c x y=>x.ok T sl ob/\y.ok T sl ob/\c.ok [(0,x.val T sl ob),(1,y.val T sl ob)] ob
 | .t c x y z=>x.ok T sl ob/\y.ok T sl ob/\z.ok T sl ob/\c.ok [(0,x.val T sl ob),(1,y.val T sl ob),(2,z.val T sl ob)] ob
 | .ite c x y=>c.ok T sl ob/\Xdg (c.val T sl ob)/\(isB true (c.val T sl ob)=true->x.ok T sl ob)/\(isB false (c.val T sl ob)=true->y.ok T sl ob)
 | .call f x=>x.ok T sl ob/\X6x (Xae T f) (x.val T sl ob)
 | .nil=>True
 | .cons x r=>x.ok T sl ob/\r.ok T sl ob

def A.men (k:Nat):A->Bool
 | .t j=>j==k
 | _=>false
def E.men (k:Nat):E->Bool
 | .a x=>x.men k
 | .u _ x=>x.men k
 | .b _ x y=>x.men k||y.men k
 | .t _ x y z=>x.men k||y.men k||z.men k
 | .ite x y z=>x.men k||y.men k||z.men k
 | .call _ x=>x.men k
 | .nil=>false
 | .cons x y=>x.men k||y.men k
def C.rd:C->Bool
 | .ld _ _ _=>true
 | .ldd _ _ _=>true
 | _=>false
def E.rd:E->Bool
 | .a _=>false
 | .u c x=>c.rd||x.rd
 | .b c x y=>c.rd||x.rd||y.rd
 | .t c x y z=>c.rd||x.rd||y.rd||z.rd
 | .ite x y z=>x.rd||y.rd||z.rd
 | .call _ x=>x.rd
 | .nil=>false
 | .cons x y=>x.rd||y.rd
def E.isA:E->Bool
 | .a _=>true
 | _=>false

theorem Rcn {T:Tab}{sl:Xf}{ob:Xb}{k:Nat}{v:V}:∀{e:E},e.men k=false->e.val T ((k,v)::sl) ob=e.val T sl ob
 | .a x,h=>by
  cases x<;>simp only[E.val,A.ev];rename_i j;simp only[E.men,A.men,Ucg,ne_eq]at h;have h':¬k=j:=fun e=>h e.symm;simp[look,h']
 | .u c x,h=>by simp only[E.men]at h; simp only[E.val,Rcn h]
 | .b c x y,h=>by simp only[E.men,Ucb]at h; simp only[E.val,Rcn h.1,Rcn h.2]
 | .t c x y z,h=>by simp only[E.men,Ucb]at h; simp only[E.val,Rcn h.1.1,Rcn h.1.2,Rcn h.2]
 | .ite x y z,h=>by simp only[E.men,Ucb]at h; simp only[E.val,Rcn h.1.1,Rcn h.1.2,Rcn h.2]
 | .call f x,h=>by simp only[E.men]at h; simp only[E.val,Rcn h]
 | .nil,_=>rfl
 | .cons x y,h=>by simp only[E.men,Ucb]at h; simp only[E.val,Rcn h.1,Rcn h.2]
theorem C.val_ob {sl:Xf}{ob ob':Xb}{c:C}(h:c.rd=false):c.val sl ob=c.val sl ob':=by
 cases c<;>simp_all[C.rd,C.val]
theorem E.val_ob {T:Tab}{sl:Xf}{ob ob':Xb}:∀{e:E},e.rd=false->e.val T sl ob=e.val T sl ob'
 | .a x,h=>rfl
 | .u c x,h=>by simp only[E.rd,Ucb]at h; simp only[E.val,E.val_ob (ob':=ob') h.2,C.val_ob (ob':=ob') h.1]
 | .b c x y,h=>by simp only[E.rd,Ucb]at h; simp only[E.val,E.val_ob (ob':=ob') h.1.2,E.val_ob (ob':=ob') h.2,C.val_ob (ob':=ob') h.1.1]
 | .t c x y z,h=>by simp only[E.rd,Ucb]at h; simp only[E.val,E.val_ob (ob':=ob') h.1.1.2,E.val_ob (ob':=ob') h.1.2,E.val_ob (ob':=ob') h.2,C.val_ob (ob':=ob') h.1.1.1]
 | .ite x y z,h=>by simp only[E.rd,Ucb]at h; simp only[E.val,E.val_ob (ob':=ob') h.1.1,E.val_ob (ob':=ob') h.1.2,E.val_ob (ob':=ob') h.2]
 | .call f x,h=>by simp only[E.rd]at h; simp only[E.val,E.val_ob (ob':=ob') h]
 | .nil,_=>rfl
 | .cons x y,h=>by simp only[E.rd,Ucb]at h; simp only[E.val,E.val_ob (ob':=ob') h.1,E.val_ob (ob':=ob') h.2]


abbrev Ut:=List (Nat×Bool)
abbrev Sg:=List (Nat×Option (Ut×E))
def Wv:Sg->Nat->Option (Option (Ut×E))
 | [],_=>none
 | (j,x)::r,k=>if j=k then some x else Wv r k
def ent (σ:Sg)(k:Nat):Option (Ut×E):=match Wv σ k with
 | none=>some ([],.a (.t k))
 | some x=>x
def Xv (sl:Xf)(p:Ut):Bool:=p.all fun g=>isB g.2 (look sl g.1)
def Z0 (T:Tab)(sl:Xf)(ob:Xb)(p:List (E×Bool)):Bool:=p.all fun g=>isB g.2 (g.1.val T sl ob)
def Inv (T:Tab)(σ:Sg)(sl sl0:Xf)(ob:Xb):Prop:=∀k p e,ent σ k=some (p,e)->
 (Xv sl p=true->look sl k=e.val T sl0 ob)/\(Xv sl p=false->look sl k=.undef)

def opE (σ:Sg)(p:Ut):A->Option E
 | .t k=>match ent σ k with
  | some (q,e)=>if q.isPrefixOf p then some e else none
  | none=>none
 | x=>some (.a x)
def Wu (σ:Sg)(p:Ut)(c:C)(x:A):Option E:=match opE σ p x with
 | some x=>some (.u c x)
 | none=>none
def U9 (σ:Sg)(p:Ut)(c:C)(x y:A):Option E:=match opE σ p x,opE σ p y with
 | some x,some y=>some (.b c x y)
 | _,_=>none
def Xvj (σ:Sg)(p:Ut)(c:C)(x y z:A):Option E:=match opE σ p x,opE σ p y,opE σ p z with
 | some x,some y,some z=>some (.t c x y z)
 | _,_,_=>none
def Yk2 (σ:Sg)(p:Ut)(g:Nat)(x y:A):Option E:=match opE σ p (.t g),opE σ (p++[(g,true)]) x,opE σ (p++[(g,false)]) y with
 | some c,some x,some y=>some (.ite c x y)
 | _,_,_=>none
def Xm8 (σ:Sg)(p:Ut):List A->Option E
 | []=>some .nil
 | x::r=>match opE σ p x,Xm8 σ p r with
  | some x,some r=>some (.cons x r)
  | _,_=>none

def C.lift (σ:Sg)(p:Ut):C->Option E
 | .mv x=>opE σ p x
 | .pick (.t g) x y=>Yk2 σ p g x y
 | .pick _ _ _=>none
 | .not x=>Wu σ p (.not (.t 0)) x
 | .neg x=>Wu σ p (.neg (.t 0)) x
 | .cpl x=>Wu σ p (.cpl (.t 0)) x
 | .mx x y=>U9 σ p (.mx (.t 0) (.t 1)) x y
 | .bin o x y=>U9 σ p (.bin o (.t 0) (.t 1)) x y
 | .beq e x y=>U9 σ p (.beq e (.t 0) (.t 1)) x y
 | .isnil e x=>Wu σ p (.isnil e (.t 0)) x
 | .pnil e x=>Wu σ p (.pnil e (.t 0)) x
 | .fnil e x=>Wu σ p (.fnil e (.t 0)) x
 | .peq e x y=>U9 σ p (.peq e (.t 0) (.t 1)) x y
 | .usd x=>Wu σ p (.usd (.t 0)) x
 | .cvi k x=>Wu σ p (.cvi k (.t 0)) x
 | .cvs x=>Wu σ p (.cvs (.t 0)) x
 | .idx x i=>U9 σ p (.idx (.t 0) (.t 1)) x i
 | .idxA z x i=>U9 σ p (.idxA z (.t 0) (.t 1)) x i
 | .idxP n z x i=>U9 σ p (.idxP n z (.t 0) (.t 1)) x i
 | .fldA f fo x=>Wu σ p (.fldA f fo (.t 0)) x
 | .fld f fo n ag x=>Wu σ p (.fld f fo n ag (.t 0)) x
 | .ld n ag x=>Wu σ p (.ld n ag (.t 0)) x
 | .nilc x=>Wu σ p (.nilc (.t 0)) x
 | .lenS x=>Wu σ p (.lenS (.t 0)) x
 | .lenL x=>Wu σ p (.lenL (.t 0)) x
 | .lenA n=>some (.a (.int .i64 n))
 | .slcS x none none=>Wu σ p (.slcS (.t 0) none none) x
 | .slcS x (some l) none=>U9 σ p (.slcS (.t 0) (some (.t 1)) none) x l
 | .slcS x none (some h)=>U9 σ p (.slcS (.t 0) none (some (.t 1))) x h
 | .slcS x (some l) (some h)=>Xvj σ p (.slcS (.t 0) (some (.t 1)) (some (.t 2))) x l h
 | .slcL z x none none=>Wu σ p (.slcL z (.t 0) none none) x
 | .slcL z x (some l) none=>U9 σ p (.slcL z (.t 0) (some (.t 1)) none) x l
 | .slcL z x none (some h)=>U9 σ p (.slcL z (.t 0) none (some (.t 1))) x h
 | .slcL z x (some l) (some h)=>Xvj σ p (.slcL z (.t 0) (some (.t 1)) (some (.t 2))) x l h
 | .ext x i=>Wu σ p (.ext (.t 0) i) x
 | .mki t x=>Wu σ p (.mki t (.t 0)) x
 | .tas t z x=>Wu σ p (.tas t z (.t 0)) x
 | .eqD ty e x y=>U9 σ p (.eqD ty e (.t 0) (.t 1)) x y
 | .aix n z ag x i=>U9 σ p (.aix n z ag (.t 0) (.t 1)) x i
 | .ldd n ag x=>Wu σ p (.ldd n ag (.t 0)) x
 | .bld _ _=>none
 | .mkf _ _ _=>none
def I.lift (fs:List Nat)(σ:Sg)(p:Ut):I->Option E
 | .c x=>x.lift σ p
 | .pcall f args=>if fs.contains f then (match Xm8 σ p args with | some e=>some (.call f e) | none=>none) else none
 | _=>none

def Xet (σ:Sg)(p:Ut):A->List Nat
 | .t k=>match ent σ k with
  | some (q,_)=>if q==p then[k] else[]
  | none=>[]
 | _=>[]
def Yyk (σ:Sg)(p:Ut):List A->List Nat
 | []=>[]
 | x::r=>Xet σ p x++Yyk σ p r
def C.cons (σ:Sg)(p:Ut):C->List Nat
 | .mv x | .not x | .neg x | .cpl x | .isnil _ x | .pnil _ x | .fnil _ x | .usd x | .cvi _ x | .cvs x | .fldA _ _ x | .fld _ _ _ _ x | .ld _ _ x | .ldd _ _ x | .nilc x | .lenS x | .lenL x | .ext x _ | .mki _ x | .tas _ _ x=>Xet σ p x
 | .bin _ x y | .mx x y | .beq _ x y | .peq _ x y | .idx x y | .idxA _ x y | .idxP _ _ x y | .eqD _ _ x y | .aix _ _ _ x y=>Xet σ p x++Xet σ p y
 | .slcS x none none | .slcL _ x none none=>Xet σ p x
 | .slcS x (some y) none | .slcL _ x (some y) none | .slcS x none (some y) | .slcL _ x none (some y)=>Xet σ p x++Xet σ p y
 | .slcS x (some y) (some z) | .slcL _ x (some y) (some z)=>Xet σ p x++Xet σ p y++Xet σ p z
 | .pick (.t g) x y=>Xet σ p (.t g)++Xet σ (p++[(g,true)]) x++Xet σ (p++[(g,false)]) y
 | _=>[]
def I.cons (σ:Sg)(p:Ut):I->List Nat
 | .c x=>x.cons σ p
 | .pcall _ args=>Yyk σ p args
 | _=>[]
def I.gcons (σ:Sg)(p:Ut):I->List Nat
 | .c (.pick (.t g) _ _)=>Xet σ p (.t g)
 | _=>[]

section
variable {P:Prg} {T:Tab} {σ:Sg} {sl sl0:Xf} {ob:Xb} {p:Ut}

theorem Xbx {q:Ut}(h:q.isPrefixOf p=true)(hp:Xv sl p=true):Xv sl q=true:=by
 rw[List.isPrefixOf_iff_prefix]at h;obtain⟨t,rfl⟩:=h;simp only[Xv,Uch,Uai]at hp⊢;exact hp.1
theorem Wd (hI:Inv T σ sl sl0 ob)(hp:Xv sl p=true){x:A}{e:E}(h:opE σ p x=some e):e.val T sl0 ob=x.ev sl:=by
 cases x with
 | t k=>
  simp only[opE]at h;split at h
  ·rename_i q e' he;split at h
   ·rename_i hq;cases h;exact ((hI k q e he).1 (Xbx hq hp)).symm
   ·cases h
  ·cases h
 | _=>simp only[opE]at h; cases h; rfl
theorem Xta {c:C}{x:A}{e:E}(h:Wu σ p c x=some e):∃ex,e=.u c ex/\opE σ p x=some ex:=by
 unfold Wu at h; split at h
 ·cases h; exact⟨_,rfl,by assumption⟩
 ·cases h
theorem Xtb {c:C}{x y:A}{e:E}(h:U9 σ p c x y=some e):∃ex ey,e=.b c ex ey/\opE σ p x=some ex/\opE σ p y=some ey:=by
 unfold U9 at h; split at h
 ·cases h; exact⟨_,_,rfl,by assumption,by assumption⟩
 ·cases h
theorem Xtc {c:C}{x y z:A}{e:E}(h:Xvj σ p c x y z=some e):∃ex ey ez,e=.t c ex ey ez/\opE σ p x=some ex/\opE σ p y=some ey/\opE σ p z=some ez:=by
 unfold Xvj at h; split at h
 ·cases h; exact⟨_,_,_,rfl,by assumption,by assumption,by assumption⟩
 ·cases h
theorem Xiz {g:Nat}{x y:A}{e:E}(h:Yk2 σ p g x y=some e):∃ec ex ey,e=.ite ec ex ey/\opE σ p (.t g)=some ec/\opE σ (p++[(g,true)]) x=some ex/\opE σ (p++[(g,false)]) y=some ey:=by
 unfold Yk2 at h; split at h
 ·cases h; exact⟨_,_,_,rfl,by assumption,by assumption,by assumption⟩
 ·cases h
theorem Xjz (hI:Inv T σ sl sl0 ob)(hp:Xv sl p=true):∀{xs:List A} {e:E},Xm8 σ p xs=some e->e.val T sl0 ob=.tup (xs.map (A.ev sl))
 | [],e,h=>by simp only[Xm8]at h; cases h; rfl
 | x::r,e,h=>by
  simp only[Xm8]at h;split at h
  ·rename_i ex er hx hr;cases h;simp only[E.val,Wd hI hp hx,Xjz hI hp hr,Xy4,Uam]
  ·cases h
theorem X3s (x y:V):Xed (.d (.bool true)) x y=x:=by unfold Xed; split<;>simp_all
theorem X3q (x y:V):Xed (.d (.bool false)) x y=y:=by unfold Xed; split<;>simp_all
theorem X3r {v:V}(h:¬Xdg v)(x y:V):Xed v x y=.any:=by unfold Xed; split<;>simp_all[Xdg]
theorem Xgu {v:V}(h:Xdg v):v=.d (.bool true)\/v=.d (.bool false):=by
 unfold Xdg at h; split at h
 ·rename_i b; cases b<;>simp
 ·exact h.elim

theorem C.lift_sound (hI:Inv T σ sl sl0 ob)(hp:Xv sl p=true){c:C}{e:E}(h:c.lift σ p=some e):e.val T sl0 ob=c.val sl ob/\(e.ok T sl0 ob->c.ok sl ob):=by
 have l1:∀{c x},Wu σ p c x=some e->∃ex,e=.u c ex/\ex.val T sl0 ob=x.ev sl:=fun h=>by
  obtain⟨ex,rfl,hx⟩:=Xta h; exact⟨ex,rfl,Wd hI hp hx⟩
 have l2:∀{c x y},U9 σ p c x y=some e->∃ex ey,e=.b c ex ey/\ex.val T sl0 ob=x.ev sl/\ey.val T sl0 ob=y.ev sl:=fun h=>by
  obtain⟨ex,ey,rfl,hx,hy⟩:=Xtb h; exact⟨ex,ey,rfl,Wd hI hp hx,Wd hI hp hy⟩
 have l3:∀{c x y z},Xvj σ p c x y z=some e->∃ex ey ez,e=.t c ex ey ez/\ex.val T sl0 ob=x.ev sl/\ey.val T sl0 ob=y.ev sl/\ez.val T sl0 ob=z.ev sl:=fun h=>by
  obtain⟨ex,ey,ez,rfl,hx,hy,hz⟩:=Xtc h; exact⟨ex,ey,ez,rfl,Wd hI hp hx,Wd hI hp hy,Wd hI hp hz⟩
 unfold C.lift at h;split at h
 case h_1=>exact⟨by rw[Wd hI hp h]; rfl,fun _=>rfl⟩
 case h_2 g x y=>
  obtain⟨ec,ex,ey,rfl,hc,hx,hy⟩:=Xiz h;have hcv:=Wd hI hp hc;simp only[A.ev]at hcv;have hpt:∀b,look sl g=.d (.bool b)->Xv sl (p++[(g,b)])=true:=fun b hb=>by
   simp only[Xv,Uch,Uai]at hp⊢;exact⟨hp,by simp[hb,isB]⟩
  simp only[E.val,E.ok,C.val,C.ok,C.wp,Yy3,hcv];by_cases hb:Xdg (look sl g)
  ·rcases Xgu hb with hb | hb
   ·have:=Wd hI (hpt true hb) hx;rw[hb]; simp only[X3s,Yk4,this]; exact⟨trivial,fun _=>trivial⟩
   ·have:=Wd hI (hpt false hb) hy;rw[hb]; simp only[X3q,Yk3,this]; exact⟨trivial,fun _=>trivial⟩
  ·rw[X3r hb,X3r hb]; exact⟨rfl,fun h=>(hb h.2.1).elim⟩
 case h_26=>cases h; exact⟨rfl,fun _=>rfl⟩
 all_goals first
  | (cases h; done)
  | (obtain⟨ex,rfl,hx⟩:=l1 h; simp only[E.val,E.ok,C.val,C.ok,C.wp,Yy3,Xn6,hx,Option.map]; exact⟨trivial,fun h=>h.2⟩)
  | (obtain⟨ex,ey,rfl,hx,hy⟩:=l2 h; simp only[E.val,E.ok,C.val,C.ok,C.wp,Yy3,Xn6,X1p,Nat.reduceBEq,hx,hy,Option.map]; exact⟨trivial,fun h=>h.2.2⟩)
  | (obtain⟨ex,ey,ez,rfl,hx,hy,hz⟩:=l3 h; simp only[E.val,E.ok,C.val,C.ok,C.wp,Yy3,Xn6,X1p,Nat.reduceBEq,hx,hy,hz,Option.map]; exact⟨trivial,fun h=>h.2.2.2⟩)
end
end Go.Ab
namespace Go.Ab
open Go

section
variable {P:Prg} {T:Tab} {σ:Sg} {sl sl0:Xf} {ob:Xb} {p:Ut}

theorem Ww {x:A}{k:Nat}{ex:E}(hk:k∈Xet σ p x)(h:opE σ p x=some ex):ent σ k=some (p,ex):=by
 cases x with
 | t j=>
  simp only[Xet]at hk;simp only[opE]at h;split at hk
  ·rename_i q e he;split at hk
   ·rename_i hq;simp at hk; subst hk;simp at hq; subst hq;rw[he]at h;simp at h;rw[he,h]
   ·cases hk
  ·cases hk
 | _=>simp[Xet]at hk
theorem Zg {g:Nat}{b:Bool}:Xv sl (p++[(g,b)])=(Xv sl p&&isB b (look sl g)):=by
 simp[Xv,Uch]
theorem Xt8:∀{xs:List A} {e:E},Xm8 σ p xs=some e->∀{k q ek},k∈Yyk σ p xs->ent σ k=some (q,ek)->q=p/\(e.ok T sl0 ob->ek.ok T sl0 ob)
 | [],_,_,k,_,_,hk,_=>by simp[Yyk]at hk
 | x::r,e,h,k,q,ek,hk,he=>by
  simp only[Xm8]at h;split at h
  ·rename_i ex er hx hr;cases h;simp only[Yyk,Ubu]at hk;rcases hk with hk | hk
   ·have:=Ww hk hx;rw[he]at this; cases this;exact⟨rfl,fun h=>h.1⟩
   ·obtain⟨h1,h2⟩:=Xt8 hr hk he;exact⟨h1,fun h=>h2 h.2⟩
  ·cases h

theorem C.cov (hI:Inv T σ sl sl0 ob){c:C}{e:E}(h:c.lift σ p=some e){k:Nat}{q:Ut}{ek:E}(hk:k∈c.cons σ p)(he:ent σ k=some (q,ek))(hq:Xv sl q=true)(ho:Xv sl p=true->e.ok T sl0 ob):ek.ok T sl0 ob:=by
 have l1:∀{c x},Wu σ p c x=some e->k∈Xet σ p x->ek.ok T sl0 ob:=fun h hk=>by
  obtain⟨ex,rfl,hx⟩:=Xta h;have:=Ww hk hx;rw[he]at this; cases this;exact (ho hq).1
 have l2:∀{c x y},U9 σ p c x y=some e->k∈Xet σ p x++Xet σ p y->ek.ok T sl0 ob:=fun h hk=>by
  obtain⟨ex,ey,rfl,hx,hy⟩:=Xtb h;rw[Ubu]at hk;rcases hk with hk | hk
  ·have:=Ww hk hx;rw[he]at this; cases this;exact (ho hq).1
  ·have:=Ww hk hy;rw[he]at this; cases this;exact (ho hq).2.1
 have l3:∀{c x y z},Xvj σ p c x y z=some e->k∈Xet σ p x++Xet σ p y++Xet σ p z->ek.ok T sl0 ob:=fun h hk=>by
  obtain⟨ex,ey,ez,rfl,hx,hy,hz⟩:=Xtc h;rw[Ubu,Ubu]at hk;rcases hk with (hk | hk) | hk
  ·have:=Ww hk hx;rw[he]at this; cases this;exact (ho hq).1
  ·have:=Ww hk hy;rw[he]at this; cases this;exact (ho hq).2.1
  ·have:=Ww hk hz;rw[he]at this; cases this;exact (ho hq).2.2.1
 unfold C.lift at h;split at h<;>simp only[C.cons]at hk
 case h_1=>
  have:=Ww hk h;rw[he]at this; cases this;exact ho hq
 case h_2 g x y=>
  obtain⟨ec,ex,ey,rfl,hc,hx,hy⟩:=Xiz h;rw[Ubu,Ubu]at hk;rcases hk with (hk | hk) | hk
  ·have:=Ww hk hc;rw[he]at this; cases this;exact (ho hq).1
  ·have:=Ww hk hx;rw[he]at this; cases this;rw[Zg,Uai]at hq;have hv:=Wd hI hq.1 hc;exact (ho hq.1).2.2.1 (by rw[hv]; exact hq.2)
  ·have:=Ww hk hy;rw[he]at this; cases this;rw[Zg,Uai]at hq;have hv:=Wd hI hq.1 hc;exact (ho hq.1).2.2.2 (by rw[hv]; exact hq.2)
 all_goals first
  | (cases h; done)
  | exact l1 h hk
  | exact l2 h hk
  | exact l3 h hk
  | (cases hk; done)
theorem I.cov (hI:Inv T σ sl sl0 ob){fs:List Nat}{i:I}{e:E}(h:i.lift fs σ p=some e){k:Nat}{q:Ut}{ek:E}(hk:k∈i.cons σ p)(he:ent σ k=some (q,ek))(hq:Xv sl q=true)(ho:Xv sl p=true->e.ok T sl0 ob):ek.ok T sl0 ob:=by
 cases i<;>simp only[I.lift]at h<;>simp only[I.cons]at hk
 case c x=>exact C.cov hI h hk he hq ho
 case pcall f args=>
  split at h
  ·split at h
   ·rename_i e' ha;cases h;obtain⟨rfl,h2⟩:=Xt8 (T:=T) (sl0:=sl0) (ob:=ob) ha hk he;exact h2 (ho hq).1
   ·cases h
  ·cases h
 all_goals cases h
theorem Rco {fs:List Nat}{i:I}{e:E}(h:i.lift fs σ p=some e){k:Nat}{q:Ut}{ek:E}(hk:k∈i.gcons σ p)(he:ent σ k=some (q,ek))(hq:Xv sl q=true)(ho:Xv sl p=true->e.ok T sl0 ob):Xdg (ek.val T sl0 ob):=by
 unfold I.gcons at hk;split at hk
 ·rename_i g x y;simp only[I.lift,C.lift]at h;obtain⟨ec,ex,ey,rfl,hc,hx,hy⟩:=Xiz h;have:=Ww hk hc;rw[he]at this; cases this;exact (ho hq).2.1
 ·cases hk
theorem I.lift_sound (hT:TOk P T)(hI:Inv T σ sl sl0 ob)(hp:Xv sl p=true){fs:List Nat}{i:I}{e:E}(h:i.lift fs σ p=some e)(ho:e.ok T sl0 ob){KO Pn:V->Xb->Prop}(hK:KO (e.val T sl0 ob) ob):i.wp P sl ob KO Pn:=by
 cases i<;>simp only[I.lift]at h
 case c x=>
  obtain⟨h1,h2⟩:=C.lift_sound hI hp h;simp only[I.wp];exact Rcm (h2 ho) (by rw[<-h1]; exact hK)
 case pcall f args=>
  split at h
  ·split at h
   ·rename_i e' ha;cases h;have hv:=Xjz hI hp ha;simp only[E.ok,E.val,hv]at ho hK;simp only[I.wp];cases hf:Xae T f with
    | none=>rw[hf]at ho; exact ho.2.elim
    | some F=>rw[hf]at ho hK; exact hT f F hf _ ho.2 _ _ hK
   ·cases h
  ·cases h
 all_goals cases h

theorem Inv.congr {sl':Xf}(hI:Inv T σ sl sl0 ob)(h:∀k,look sl' k=look sl k):Inv T σ sl' sl0 ob:=by
 intro k p e he;have:Xv sl' p=Xv sl p:=by simp only[Xv,h]
 rw[this,h];exact hI k p e he

def Uh (d:Nat)(p:Ut):Bool:=p.all fun g=>g.1 != d
def Xns (σ:Sg)(d:Nat):Bool:=σ.all fun x=>match x.2 with
 | some (p,_)=>Uh d p
 | none=>true
theorem V1 {d:Nat}{v:V}(h:Uh d p=true):Xv ((d,v)::sl) p=Xv sl p:=by
 induction p with
 | nil=>rfl
 | cons g r ih=>
  simp only[Uh,List.all_cons,Uai]at h;simp only[Xv,List.all_cons]at ih⊢;have:look ((d,v)::sl) g.1=look sl g.1:=by
   have:=h.1; simp at this;have h':¬d=g.1:=fun e=>this e.symm;simp[look,h']
  rw[this,ih h.2]
theorem Xfx:∀{σ:Sg} {d k:Nat} {p:Ut} {e:E},Xns σ d=true->Wv σ k=some (some (p,e))->Uh d p=true
 | [],_,_,_,_,_,h=>by simp[Wv]at h
 | (j,x)::r,d,k,p,e,hg,h=>by
  simp only[Xns,List.all_cons,Uai]at hg;simp only[Wv]at h;split at h
  ·cases h; exact hg.1
  ·exact Xfx (σ:=r) hg.2 h
theorem J2 {d k:Nat}{q:Ut}{e:E}(hg:Xns σ d=true)(h:ent σ k=some (q,e)):Uh d q=true:=by
 unfold ent at h;split at h
 ·cases h; rfl
 ·rename_i x hx; subst h; exact Xfx hg hx

theorem Z8 {k:Nat}{x:Option (Ut×E)}:ent ((k,x)::σ) k=x:=by simp[ent,Wv]
theorem Zo {j k:Nat}{x:Option (Ut×E)}(h:k ≠ j):ent ((k,x)::σ) j=ent σ j:=by simp[ent,Wv,h]

end
end Go.Ab
namespace Go.Ab
open Go

inductive It2 where
 | chk (p:List (E×Bool)) (e:E)
 | lt (k:Nat) (p:List (E×Bool)) (e:E)
 | op (d:Option Nat) (i:I)
 | gop (p:List (E×Bool)) (d:Option Nat) (i:I)

def Xjf (b:Bool)(v:V):V:=if b then v else .undef

def Ub (P:Prg)(T:Tab)(K:Xf->Xb->Prop)(Pn:V->Xf->Xb->Prop):List It2->Xf->Xb->Prop
 | [],sl,ob=>K sl ob
 | .chk p e::r,sl,ob=>(Z0 T sl ob p=true->e.ok T sl ob)/\Ub P T K Pn r sl ob
 | .lt k p e::r,sl,ob=>(Z0 T sl ob p=true->e.ok T sl ob)/\Ub P T K Pn r ((k,Xjf (Z0 T sl ob p) (e.val T sl ob))::sl) ob
 | .op d i::r,sl,ob=>i.wp P sl ob (fun v ob'=>Ub P T K Pn r (put sl d v) ob') (fun v ob'=>Pn v sl ob')
 | .gop p d i::r,sl,ob=>(Z0 T sl ob p=true->i.wp P sl ob (fun v ob'=>Ub P T K Pn r (put sl d v) ob') (fun v ob'=>Pn v sl ob'))/\
   (Z0 T sl ob p=false->Ub P T K Pn r (put sl d .undef) ob)

def Uw (T:Tab)(sl:Xf)(ob:Xb):List (Nat×E)->Xf
 | []=>[]
 | (k,e)::r=>(k,e.val T sl ob)::Uw T sl ob r
def Vc (T:Tab)(sl:Xf)(ob:Xb):List (Nat×E)->Prop
 | []=>True
 | (_,e)::r=>e.ok T sl ob/\Vc T sl ob r


def A.slots:A->List Nat
 | .t k=>[k]
 | _=>[]
def Wz:List A->List Nat
 | []=>[]
 | x::r=>x.slots++Wz r
def Xge:Option A->List Nat
 | some x=>x.slots
 | none=>[]
def C.slots:C->List Nat
 | .mv x | .not x | .neg x | .cpl x | .isnil _ x | .pnil _ x | .fnil _ x | .usd x | .cvi _ x | .cvs x | .fldA _ _ x | .fld _ _ _ _ x | .ld _ _ x | .ldd _ _ x | .nilc x | .lenS x | .lenL x | .ext x _ | .mki _ x | .tas _ _ x=>x.slots
 | .bin _ x y | .mx x y | .beq _ x y | .peq _ x y | .idx x y | .idxA _ x y | .idxP _ _ x y | .eqD _ _ x y | .aix _ _ _ x y=>x.slots++y.slots
 | .pick x y z=>x.slots++(y.slots++z.slots)
 | .slcS x l h | .slcL _ x l h=>x.slots++(Xge l++Xge h)
 | .lenA _=>[]
 | .bld _ ps=>Wz (ps.map (·.2))
 | .mkf _ a b=>Wz a++Wz b
def I.slots:I->List Nat
 | .c x=>x.slots
 | .box _ x=>x.slots
 | .boxr _ x=>x.slots
 | .alloc _ _=>[]
 | .bls _ _ ps=>Wz (ps.map (·.2))
 | .blo _ _ _ ps=>Wz (ps.map (·.2))
 | .st _ x y=>x.slots++y.slots
 | .app _ _ _ x y=>x.slots++y.slots
 | .appS _ _ x y=>x.slots++y.slots
 | .call _ l=>Wz l
 | .pcall _ l=>Wz l
 | .xcall _ l=>Wz l
 | .callv x l=>x.slots++Wz l
 | .panic x=>x.slots
 | .b2s x=>x.slots
 | .s2b x=>x.slots
 | .nilo _ _ x=>x.slots
 | .mvf x=>x.slots
 | .ldf _ _ x=>x.slots
 | .mvg _ _ y x _=>y.slots++x.slots
 | .mvn y x _=>y.slots++x.slots
 | .cvb x=>x.slots
 | .ustr _ x y=>x.slots++y.slots
 | .mkm r=>Xge r
 | .lkp _ _ _ m k=>m.slots++k.slots
 | .mset _ m k v=>m.slots++(k.slots++v.slots)
 | .gld _ _ _ _=>[]
 | .slg _ _ x=>x.slots
 | .blv _ _ _ ps=>Wz (ps.map (·.2))
 | .apv _ _ _ x y=>x.slots++y.slots
 | .gv x=>x.slots
 | .ldg _ _ x=>x.slots
 | .slb _ _ x lo hi=>x.slots++(Xge lo++Xge hi)
 | .cpy _ x y=>x.slots++y.slots
 | .clr _ _ x=>x.slots
 | .gix _ _ _ _ i=>i.slots
 | .rng x=>x.slots
 | .nxt x=>x.slots
 | .ety x=>x.slots
 | .lenM x=>x.slots
 | .isn _ _ x=>x.slots
 | .inv _ _ _ _ x l=>x.slots++Wz l
 | .mks _ _ _ _ l=>l.slots
 | .trn _ x y=>x.slots++y.slots

section
variable {P:Prg} {sl sl':Xf} {ob:Xb}
theorem Rcp {x:A}(h:∀k∈x.slots,look sl k=look sl' k):x.ev sl=x.ev sl':=by
 cases x<;>simp_all[A.ev,A.slots]
theorem Xbu:∀{l:List A},(∀k∈Wz l,look sl k=look sl' k)->l.map (A.ev sl)=l.map (A.ev sl')
 | [],_=>rfl
 | x::r,h=>by
  simp only[Wz,Ubu]at h;simp only[Uam,Rcp (fun k hk=>h k (.inl hk)),Xbu (fun k hk=>h k (.inr hk))]
theorem Xfs {l:Option A}(h:∀k∈Xge l,look sl k=look sl' k):l.map (A.ev sl)=l.map (A.ev sl'):=by
 cases l with
 | none=>rfl
 | some x=>simp only[Option.map_some,Rcp h]
theorem Xkp:∀{l:List (Nat×A)},(∀k∈Wz (l.map (·.2)),look sl k=look sl' k)->(l.map fun x=>(x.1,A.ev sl x.2))=l.map fun x=>(x.1,A.ev sl' x.2)
 | [],_=>rfl
 | x::r,h=>by
  simp only[Uam,Wz,Ubu]at h;simp only[Uam,Rcp (fun k hk=>h k (.inl hk)),Xkp (fun k hk=>h k (.inr hk))]
theorem C.wp_eq {K:V->Prop}{c:C}(h:∀k∈c.slots,look sl k=look sl' k):c.wp sl ob K=c.wp sl' ob K:=by
 cases c<;>simp only[C.slots,Ubu]at h<;>simp only[C.wp]
 case bld=>rw[Xkp h]
 case mkf=>rw[Xbu (fun k hk=>h k (.inl hk)),Xbu (fun k hk=>h k (.inr hk))]
 case pick=>rw[Rcp (fun k hk=>h k (.inl hk)),Rcp (fun k hk=>h k (.inr (.inl hk))),Rcp (fun k hk=>h k (.inr (.inr hk)))]
 case slcS=>rw[Rcp (fun k hk=>h k (.inl hk)),Xfs (fun k hk=>h k (.inr (.inl hk))),Xfs (fun k hk=>h k (.inr (.inr hk)))]
 case slcL=>rw[Rcp (fun k hk=>h k (.inl hk)),Xfs (fun k hk=>h k (.inr (.inl hk))),Xfs (fun k hk=>h k (.inr (.inr hk)))]
 all_goals first
  | rw[Rcp h]
  | rw[Rcp (fun k hk=>h k (.inl hk)),Rcp (fun k hk=>h k (.inr hk))]
theorem I.wp_eq {K Pn:V->Xb->Prop}{i:I}(h:∀k∈i.slots,look sl k=look sl' k):i.wp P sl ob K Pn=i.wp P sl' ob K Pn:=by
 cases i<;>simp only[I.slots,Ubu]at h<;>simp only[I.wp]
 case c=>rw[C.wp_eq h]
 case bls=>rw[Xkp h]
 case blo=>rw[Xkp h]
 case blv=>rw[Xkp h]
 case call=>rw[Xbu h]
 case pcall=>rw[Xbu h]
 case xcall=>rw[Xbu h]
 case callv=>rw[Rcp (fun k hk=>h k (.inl hk)),Xbu (fun k hk=>h k (.inr hk))]
 case inv=>rw[Rcp (fun k hk=>h k (.inl hk)),Xbu (fun k hk=>h k (.inr hk))]
 case mset=>rw[Rcp (fun k hk=>h k (.inl hk)),Rcp (fun k hk=>h k (.inr (.inl hk))),Rcp (fun k hk=>h k (.inr (.inr hk)))]
 case slb=>rw[Rcp (fun k hk=>h k (.inl hk)),Xfs (fun k hk=>h k (.inr (.inl hk))),Xfs (fun k hk=>h k (.inr (.inr hk)))]
 case mkm r=>
  cases r with
  | none=>rfl
  | some x=>simp only[X5n,Rcp (x:=x) h]
 all_goals first
  | rw[Rcp h]
  | rw[Rcp (fun k hk=>h k (.inl hk)),Rcp (fun k hk=>h k (.inr hk))]
  | rfl

theorem Xlt {K K':V->Xb->Prop}{ob:Xb}{E sz:Nat}{p:List Nat}{y x:V}(hk:∀v b,K v b->K' v b)(h:Xls ob E sz p y K x):Xls ob E sz p y K' x:=by
 unfold Xls at h; split at h
 ·simp only[Xls];generalize Xd _ _=o at h⊢;unfold Xe5 at h; split at h
  ·simp only[Xe5];rcases h with h | h
   case inr=>exact .inr ⟨h.1,hk _ _ h.2⟩
   refine .inl ⟨h.1,?_⟩;have h:=h.2;generalize V.set _ _ _=o at h⊢;cases o with
   | none=>exact h.elim
   | some t=>exact hk _ _ h
  ·exact h.elim
 ·exact h.elim
theorem Xlv {K K':V->Xb->Prop}{y x:V}(hk:∀v b,K v b->K' v b):∀{l:List (Nat×Nat×List Nat)} {ob:Xb},Xvm y K x l ob->Xvm y K' x l ob
 | [],_,h=>hk _ _ h
 | _::_,_,h=>Xlt (fun _ _ h=>Xlv hk h) h

theorem Xu7 {K K':V->Prop}{f fo:Nat}{v:V}(hk:∀v,K v->K' v)(h:Uu ob f fo K v):Uu ob f fo K' v:=by
 have:=C.wp_mono (sl:=[(0,v)]) (ob:=ob) hk (.fldA f fo (.t 0)) (by simpa[C.wp,A.ev,look]using h);simpa[C.wp,A.ev,look]using this
theorem X9g {K K':V->Prop}{n:Nat}{ag:Bool}{v:V}(hk:∀v,K v->K' v)(h:ldK ob n ag K v):ldK ob n ag K' v:=by
 have:=C.wp_mono (sl:=[(0,v)]) (ob:=ob) hk (.ld n ag (.t 0)) (by simpa[C.wp,A.ev,look]using h);simpa[C.wp,A.ev,look]using this
theorem I.wp_mono {K K' Pn Pn':V->Xb->Prop}(hk:∀v b,K v b->K' v b)(hp:∀v b,Pn v b->Pn' v b){i:I}(h:i.wp P sl ob K Pn):i.wp P sl ob K' Pn':=by
 have ho:∀o b,Xcx K Pn o b->Xcx K' Pn' o b:=fun o b=>by cases o with | ret v=>exact hk v b | panic v=>exact hp v b
 have bx:∀{E v},Xwg E ob K v->Xwg E ob K' v:=fun h=>⟨h.1,hk _ _ h.2⟩;have dk:∀{KD KD':List D->Prop},(∀l,KD l->KD' l)->∀o,dK KD o->dK KD' o:=fun f o h=>by cases o with | none=>exact h.elim | some l=>exact f l h
 have gv:∀(o:Option (D×Xb)),Xsz K o->Xsz K' o:=fun o h=>by
  cases o with
  | none=>exact h.elim
  | some q=>exact hk _ _ h
 have ap:∀{E sz B ys u},Xfd E sz B ob ys K u->Xfd E sz B ob ys K' u:=fun {E sz B ys u} h=>by
  unfold Xfd at h; split at h
  ·simp only[Xfd];generalize Xd _ _=o at h⊢;unfold Xe0 at h; split at h
   ·obtain⟨h1,h2,h3,h4,h5⟩:=h;exact⟨h1,h2,h3,h4,hk _ _ h5⟩
   ·exact h.elim
  ·exact⟨h.1,hk _ _ h.2⟩
  ·exact h.elim
 have apv:∀{E sz B ys u},Xwf E sz B ob ys K u->Xwf E sz B ob ys K' u:=fun {E sz B ys u} h=>by
  unfold Xwf at h; split at h
  ·simp only[Xwf];generalize Xd _ _=o at h⊢;unfold Xun at h; split at h
   ·obtain⟨h1,h2,h3,h4,h5⟩:=h;exact⟨h1,h2,h3,h4,hk _ _ h5⟩
   ·obtain⟨h1,h2,h3,h4,h5⟩:=h;exact⟨h1,h2,h3,h4,hk _ _ h5⟩
   ·exact h.elim
  ·exact⟨h.1,hk _ _ h.2⟩
  ·exact h.elim
 have bw:∀{id p lo n z ys r o},Ya5 ob id p lo n z ys r K o->Ya5 ob id p lo n z ys r K' o:=fun {id p lo n z ys r o} h=>by
  unfold Ya5 at h; split at h
  ·simp only[Ya5];generalize V.at _ _=o at h⊢;unfold Y06 at h; split at h
   ·obtain⟨h1,h2,h3,t,h4,h5⟩:=h;exact⟨h1,h2,h3,t,h4,hk _ _ h5⟩
   ·exact h.elim
  ·exact h.elim
 cases i<;>simp only[I.wp]at h⊢
 case c x=>exact C.wp_mono (fun v=>hk v ob) x h
 case box=>exact bx h
 case boxr=>unfold Xna at h⊢; split at h<;>first | exact hk _ _ h | exact h.elim
 case alloc=>exact bx h
 case bls=>exact U0 (fun _=>dk (fun _=>hk _ _) _) _ _ h
 case blo=>exact U0 (fun _=>dk (fun _ h=>hk _ _ h) _) _ _ h
 case st x y=>
  generalize A.ev sl x=v at h⊢;unfold stK at h; split at h
  ·simp only[stK];generalize Xd _ _=o at h⊢;unfold X43 at h; split at h
   ·simp only[X43];generalize V.at _ _=o at h⊢;unfold X44 at h; split at h
    ·obtain⟨h1,h2,h3,t,h4,h5⟩:=h;exact⟨h1,h2,h3,t,h4,hk _ _ h5⟩
    ·exact h.elim
   ·exact h.elim
  ·simp only[stK];generalize Xd _ _=o at h⊢;unfold Yyc at h; split at h
   ·simp only[Yyc];generalize V0 _ _ _=o at h⊢;unfold Yzh at h; split at h
    ·refine⟨h.1,?_⟩;have h:=h.2;generalize V.at _ _=o at h⊢;unfold Yyd at h; split at h
     ·obtain⟨h1,h2,h3,t,h4,h5⟩:=h;exact⟨h1,h2,h3,t,h4,hk _ _ h5⟩
     ·exact h.elim
    ·exact h.elim
   ·exact h.elim
  ·exact h.elim
 case app x y=>
  generalize A.ev sl y=v at h⊢;unfold X4z at h; split at h
  ·exact⟨h.1,ap h.2⟩
  ·exact ap h
  ·exact h.elim
 case blv=>exact U0 (fun _=>hk _ _) _ _ h
 case apv x y=>
  generalize A.ev sl y=v at h⊢;unfold Yl2 at h; split at h
  ·exact⟨h.1,apv h.2⟩
  ·exact apv h
  ·rcases h with⟨E,ys,h1,h2,h3,h4⟩ | ⟨E,ys,h1,h2,h4⟩
   ·exact .inl ⟨E,ys,h1,h2,h3,apv h4⟩
   ·exact .inr ⟨E,ys,h1,h2,apv h4⟩
  ·exact h.elim
 case gv x=>
  generalize Rby _ _ _=v at h⊢;exact gv _ h
 case slb x lo hi=>
  generalize A.ev sl x=v at h⊢;unfold Yzg at h; split at h
  ·simp only[Yzg];generalize Z3 _=o at h⊢;unfold Yld at h; split at h
   ·exact⟨h.1,h.2.1,Xdf (fun _ _=>hk _ _) h.2.2⟩
   ·exact h.elim
  ·exact h.elim
 case cpy x y=>
  generalize A.ev sl x=v at h⊢; generalize A.ev sl y=u at h⊢;unfold Zau at h; split at h
  ·exact⟨h.1,bw h.2⟩
  ·exact h.elim
 case clr x=>
  generalize A.ev sl x=v at h⊢;unfold Zar at h; split at h
  ·exact⟨fun e=>⟨(h.1 e).1,hk _ _ (h.1 e).2⟩,fun e=>⟨(h.2 e).1,bw (h.2 e).2⟩⟩
  ·exact h.elim
 case gix x y=>
  refine⟨h.1,?_⟩;have h:=h.2;generalize A.ev sl y=u at h⊢;unfold Zbf at h; split at h
  ·exact⟨h.1,h.2.1,h.2.2.1,hk _ _ h.2.2.2⟩
  ·exact h.elim
 case ldg x=>
  generalize A.ev sl x=v at h⊢;unfold Ylx at h; split at h
  ·simp only[Ylx];generalize atO _ _ _=o at h⊢;unfold X1k at h; split at h
   ·refine⟨h.1,h.2.1,?_⟩;have h:=h.2.2;generalize Rby _ _ _=o at h⊢;unfold X1j at h; split at h
    ·refine⟨h.1,?_⟩;have h:=h.2;generalize Xd _ _=o at h⊢;unfold X9i at h; split at h
     ·obtain⟨t',h1,h2⟩:=h;exact⟨t',h1,hk _ _ h2⟩
     ·exact h.elim
    ·exact h.elim
   ·exact h.elim
  ·exact h.elim
 case appS x y=>
  generalize A.ev sl y=v at h⊢;unfold Yai at h; split at h
  ·exact ap h
  ·exact h.elim
 case mvf x=>
  generalize V.giv _ _=v at h⊢;exact gv _ h
 case ldf x=>
  generalize A.ev sl x=v at h⊢;unfold X9h at h; split at h
  ·simp only[X9h];generalize atO _ _ _=o at h⊢;unfold Xn2 at h; split at h
   ·exact⟨h.1,h.2.1,gv _ h.2.2⟩
   ·exact h.elim
  ·exact h.elim
 case mvg=>exact Xlt hk h
 case mvn=>exact Xlv hk h
 case cvb x=>
  generalize A.ev sl x=v at h⊢;unfold Xy5 at h; split at h
  ·simp only[Xy5];generalize Xd _ _=o at h⊢;unfold Xg0 at h; split at h
   ·exact⟨h.1,h.2.1,h.2.2.1,hk _ _ h.2.2.2⟩
   ·exact h.elim
  ·exact h.elim
 case ustr x y=>
  generalize A.ev sl x=v at h⊢; generalize A.ev sl y=u at h⊢;unfold Xwb at h; split at h
  ·simp only[Xwb];generalize Xd _ _=o at h⊢;unfold Xmq at h; split at h
   ·obtain⟨h1,h2,h3,h4,h5,h6,s,h7,h8⟩:=h;exact⟨h1,h2,h3,h4,h5,h6,s,h7,hk _ _ h8⟩
   ·exact h.elim
  ·exact⟨h.1,hk _ _ h.2⟩
  ·exact h.elim
 case call=>exact h.mono ho
 case pcall=>exact h.mono fun v=>hk v ob
 case xcall=>exact h.mono hk
 case callv x l=>
  generalize A.ev sl x=v at h⊢;unfold Va at h; split at h
  ·exact⟨h.1,h.2.mono ho⟩
  ·exact⟨h.1,h.2.mono ho⟩
  ·exact⟨h.1,h.2.mono ho⟩
  ·exact h.elim
 case rng x=>
  generalize A.ev sl x=v at h⊢;generalize Xd ob (Ybv v)=o at h⊢;unfold Ylb at h; split at h
  ·exact hk _ _ h
  ·exact hk _ _ h
  ·exact h.elim
 case nxt x=>
  generalize A.ev sl x=v at h⊢;unfold X9w at h; split at h
  ·simp only[X9w];generalize Xd ob _=o at h⊢;unfold Xl4 at h; split at h
   ·exact hk _ _ h
   ·simp only[Xl4];generalize Xd ob _=o at h⊢;unfold Xvq at h; split at h
    ·exact⟨h.1,fun e=>hk _ _ (h.2.1 e),fun i h1 h2=>hk _ _ (h.2.2 i h1 h2)⟩
    ·exact h.elim
   ·exact h.elim
  ·exact h.elim
 case ety x=>
  generalize A.ev sl x=v at h⊢;unfold X76 at h; split at h
  ·simp only[X76];generalize Xd ob _=o at h⊢;unfold Xnk at h; split at h
   ·refine⟨h.1,?_⟩;have h:=h.2;generalize Xd ob _=o at h⊢;unfold Xux at h; split at h
    ·exact⟨h.1,h.2.1,hk _ _ h.2.2⟩
    ·exact h.elim
   ·exact h.elim
  ·exact h.elim
 case lenM x=>
  generalize A.ev sl x=v at h⊢;unfold Xvi at h; split at h
  ·simp only[Xvi];generalize Xd ob _=o at h⊢;unfold Yh2 at h; split at h
   ·exact hk _ _ h
   ·exact h.elim
  ·exact hk _ _ h
  ·exact h.elim
 case isn e m x=>
  generalize A.ev sl x=v at h⊢;unfold X09 at h; split at h
  ·simp only[X09];generalize Xd ob _=o at h⊢;unfold Y2w at h; split at h
   ·exact hk _ _ h
   ·exact h.elim
  ·exact hk _ _ h
  ·exact hk _ _ h
  ·exact⟨hk _ _ h.1,fun e=>hk _ _ (h.2 e)⟩
  ·simp only[X09];generalize Xd ob _=o at h⊢;unfold Y2x at h; split at h
   ·exact⟨h.1,h.2.1,hk _ _ h.2.2⟩
   ·exact⟨h.1,h.2.1,hk _ _ h.2.2⟩
   ·exact h.elim
  ·exact h.elim
 case inv nm t f fl x l=>
  generalize A.ev sl x=v at h⊢;unfold Yy5 at h; split at h
  ·refine⟨h.1,h.2.1,?_⟩;have h:=h.2.2;unfold X97 at h⊢;split at h
   ·exact h.mono ho
   ·exact Xu7 (fun u h=>X9g (fun r h=>h.mono ho) h) h
  ·exact h.elim
 case mks l=>
  generalize A.ev sl l=v at h⊢;unfold Yy7 at h; split at h
  ·exact⟨h.1,h.2.1,hk _ _ h.2.2⟩
  ·exact h.elim
 case trn x y=>
  generalize A.ev sl x=v at h⊢; generalize A.ev sl y=u at h⊢;unfold Yao at h; split at h
  ·simp only[Yao];generalize Xd ob _=o at h⊢;unfold Yzj at h; split at h
   ·exact⟨h.1,h.2.1,h.2.2.1,h.2.2.2.1,hk _ _ h.2.2.2.2⟩
   ·exact h.elim
  ·exact h.elim
 case panic x=>
  generalize A.ev sl x=v at h⊢;unfold Xak at h; split at h
  ·exact hp _ _ h
  ·exact hp _ _ h
  ·exact h.elim
 case b2s x=>
  generalize A.ev sl x=v at h⊢;unfold Yyw at h; split at h
  ·obtain⟨h1,s,h2,h3⟩:=h;exact⟨h1,s,h2,hk _ _ h3⟩
  ·exact hk _ _ h
  ·exact h.elim
 case s2b x=>
  generalize A.ev sl x=v at h⊢;unfold Yzf at h; split at h
  ·exact hk _ _ h
  ·exact h.elim
 case nilo x=>
  generalize A.ev sl x=v at h⊢;unfold Xis at h; split at h
  ·exact hk _ _ h
  ·exact h.elim
 case mkm r=>exact⟨h.1,hk _ _ h.2⟩
 case gld=>exact⟨h.1,h.2.1,h.2.2.1,hk _ _ h.2.2.2⟩
 case slg x=>
  generalize A.ev sl x=v at h⊢;unfold Yl1 at h; split at h
  ·simp only[Yl1];generalize atO _ _ _=o at h⊢;unfold X4f at h; split at h
   ·exact⟨h.1,h.2.1,hk _ _ h.2.2⟩
   ·exact h.elim
  ·exact h.elim
 case lkp x y=>
  generalize A.ev sl x=v at h⊢; generalize A.ev sl y=u at h⊢;unfold X1o at h; split at h
  ·simp only[X1o];generalize Xd _ _=o at h⊢;unfold Xhe at h; split at h
   ·exact⟨h.1,hk _ _ h.2⟩
   ·exact h.elim
  ·exact⟨h.1,hk _ _ h.2⟩
  ·exact h.elim
 case mset x y z=>
  generalize A.ev sl x=v at h⊢; generalize A.ev sl y=u at h⊢;unfold Xd4 at h; split at h
  ·simp only[Xd4];generalize Xd _ _=o at h⊢;unfold Xag at h; split at h
   ·exact⟨h.1,h.2.1,hk _ _ h.2.2⟩
   ·exact h.elim
  ·exact h.elim
end
end Go.Ab
namespace Go.Ab
open Go

def Xqa (σ:Sg):Ut->Ut->Option (List (E×Bool))
 | _,[]=>some []
 | dn,(g,b)::r=>match ent σ g with
  | some (q,e)=>if q.isPrefixOf dn then (match Xqa σ (dn++[(g,b)]) r with | some l=>some ((e,b)::l) | none=>none) else none
  | none=>none
def Zaq (σ:Sg)(f:E->E)(k:Nat):Option It2:=match ent σ k with
 | some (p,e)=>match Xqa σ [] p with
  | some l=>some (.chk l (f e))
  | none=>none
 | none=>none
def chks (σ:Sg)(f:E->E):List Nat->Option (List It2)
 | []=>some []
 | k::r=>match Zaq σ f k,chks σ f r with
  | some c,some l=>some (c::l)
  | _,_=>none
def bw (e:E):E:=.ite e (.a (.bool true)) (.a (.bool true))
def Xfn (σ:Sg)(k:Nat):Sg:=σ.filter fun x=>x.1 != k
def noMen (σ:Sg)(k:Nat):Bool:=σ.all fun x=>match x.2 with
 | some (_,e)=>!e.men k
 | none=>true
def Yv5 (σ:Sg):Bool:=σ.all fun x=>match x.2 with
 | some (_,e)=>!e.rd
 | none=>true
def Ysg (ns:List Nat)(σ:Sg)(k:Nat)(p:Ut):Sg:=if ns.contains k||p.isEmpty then Xfn σ k else (k,some (p,.a (.t k)))::Xfn σ k
def Zei (ns:List Nat)(σ:Sg)(k:Nat):Option (It2×Sg):=match Wv σ k with
 | some (some (p,e))=>match Xqa σ [] p with
  | some l=>if noMen (Xfn σ k) k then some (.lt k l e,Ysg ns σ k p) else none
  | none=>none
 | _=>none
def Yuy (ns:List Nat):List Nat->Sg->Option (List It2×Sg)
 | [],σ=>some ([],σ)
 | k::r,σ=>match Zei ns σ k with
  | some (i,σ')=>match Yuy ns r σ' with
   | some (l,σ'')=>some (i::l,σ'')
   | none=>none
  | none=>none
def kill (lv:List Nat):Sg->Sg
 | []=>[]
 | (k,x)::r=>(if lv.contains k then (k,x) else (k,none))::kill lv r
def X9p:List It->List Nat
 | []=>[]
 | .op _ i::r=>i.slots++X9p r
 | .gop g _ _ i::r=>g::(i.slots++X9p r)
def Y5i (σ:Sg)(s:List Nat)(d:Option Nat):List Nat:=(σ.filter fun x=>match x.2 with
 | some (_,e)=>s.contains x.1||e.rd||(match d with | some k=>x.1 != k&&e.men k | none=>false)
 | none=>false).map (·.1)
def It.d:It->Option Nat
 | .op d _=>d
 | .gop _ _ d _=>d
def It.i:It->I
 | .op _ i=>i
 | .gop _ _ _ i=>i
def It.path (σ:Sg):It->Option (Ut×List Nat)
 | .op _ _=>some ([],[])
 | .gop g b _ _=>match ent σ g with
  | some (q,_)=>some (q++[(g,b)],[g])
  | none=>none
def It.eff (l:List (E×Bool)):It->It2
 | .op d i=>.op d i
 | .gop _ _ d i=>.gop l d i
def Y1j (σ:Sg):Option Nat->Sg
 | some k=>Xfn σ k
 | none=>σ
def Yf4 (σ:Sg)(p:Ut):Option Nat->Bool
 | some k=>noMen (Xfn σ k) k&&Xns (Xfn σ k) k&&Uh k p
 | none=>true
def Xlg (σ:Sg):List Nat->Option (List (Nat×E))
 | []=>some []
 | k::r=>match ent σ k,Xlg σ r with
  | some ([],e),some l=>some ((k,e)::l)
  | _,_=>none
def Yyq (e:E)(k:Nat)(l:List Nat):List Nat:=if e.isA then l else k::l

def Xbe (fs keep pk:List Nat):List It->Sg->List Nat->List Nat->Option (List It2×List (Nat×E))
 | [],σ,pe,pg=>match chks σ id (pe.filter fun k=>!keep.contains k),chks σ bw pg,Xlg σ keep with
  | some c1,some c2,some kp=>some (c1++c2,kp)
  | _,_,_=>none
 | it::r,σ,pe,pg=>match it.path σ with
  | none=>none
  | some (p,gs)=>match it.d,it.i.lift fs σ p with
   | some k,some e=>if Xns (Xfn σ k) k&&Uh k p&&!pe.contains k&&!(gs++pg).contains k then
     Xbe fs keep pk r ((k,some (p,e))::Xfn σ k) (Yyq e k (pe.filter fun j=>!(it.i.cons σ p).contains j)) ((gs++pg).filter fun j=>!(it.i.gcons σ p).contains j)
    else none
   | d,_=>match chks σ id pe,chks σ bw (gs++pg) with
    | some c1,some c2=>match Yuy (it.i.slots++(pk++keep)) (Y5i (kill (it.i.slots++(p.map (·.1)++(X9p r++keep))) σ) it.i.slots d) (kill (it.i.slots++(p.map (·.1)++(X9p r++keep))) σ) with
     | some (ms,σ2)=>match Xqa σ2 [] p with
      | some l=>if (it.i.slots.all fun k=>(Wv σ2 k).isNone)&&Yf4 σ2 p d&&Yv5 σ2&&(pk.all fun k=>(Wv σ2 k).isNone) then
        match Xbe fs keep pk r (Y1j σ2 d) [] []with
        | some (t,kp)=>some (c1++(c2++(ms++(it.eff l::t))),kp)
        | none=>none
       else none
      | none=>none
     | none=>none
    | _,_=>none

section
variable {P:Prg} {T:Tab} {σ:Sg} {sl sl0:Xf} {ob:Xb} {p:Ut} {K:Xf->Xb->Prop} {Pn:V->Xf->Xb->Prop}

theorem Ui (hI:Inv T σ sl sl0 ob):∀(r dn:Ut) (l:List (E×Bool)),Xqa σ dn r=some l->Xv sl dn=true->Xv sl r=Z0 T sl0 ob l
 | [],dn,l,h,_=>by simp only[Xqa]at h; cases h; rfl
 | (g,b)::r,dn,l,h,hd=>by
  simp only[Xqa]at h;split at h
  ·rename_i q e he;split at h
   ·rename_i hq;split at h
    ·rename_i l' hl;cases h;have hv:=(hI g q e he).1 (Xbx hq hd);simp only[Xv,Z0,List.all_cons,hv];cases hb:isB b (e.val T sl0 ob) with
     | false=>rfl
     | true=>
      have:=Ui hI r _ l' hl (by rw[Zg,hd,hv,hb]; rfl);simpa[Xv,Z0]using this
    ·cases h
   ·cases h
  ·cases h

theorem Zf (hI:Inv T σ sl sl0 ob){f:E->E}:∀{ks:List Nat} {cs l:List It2},chks σ f ks=some cs->Ub P T K Pn (cs++l) sl0 ob->
  (∀k∈ks,∀p e,ent σ k=some (p,e)->Xv sl p=true->(f e).ok T sl0 ob)/\Ub P T K Pn l sl0 ob
 | [],cs,l,h,hr=>by simp only[chks]at h; cases h; exact⟨fun _ h=>(by cases h),hr⟩
 | k::r,cs,l,h,hr=>by
  simp only[chks]at h;split at h
  ·rename_i c l' hc hl;cases h;unfold Zaq at hc;split at hc
   ·rename_i p e he;split at hc
    ·rename_i lp hp;cases hc;simp only[List.cons_append,Ub]at hr;obtain⟨h1,h2⟩:=Zf hI hl hr.2;refine⟨fun j hj q e' he' hq=>?_,h2⟩;rcases Uax.mp hj with rfl | hj
     ·rw[he]at he'; cases he';exact hr.1 (by rw[<-Ui hI _ _ _ hp rfl]; exact hq)
     ·exact h1 j hj q e' he' hq
    ·cases hc
   ·cases hc
  ·cases h

theorem Xb0:∀{σ:Sg} {k:Nat},Wv (Xfn σ k) k=none
 | [],_=>rfl
 | (j,x)::r,k=>by
  have ih:=Xb0 (σ:=r) (k:=k);simp only[Xfn]at ih⊢;by_cases h:j=k
  ·subst h; simp[ih]
  ·simp[h,Wv,ih]
theorem Xb1 {k j:Nat}(h:k ≠ j):∀{σ:Sg},Wv (Xfn σ k) j=Wv σ j
 | []=>rfl
 | (i,x)::r=>by
  have ih:=Xb1 h (σ:=r);simp only[Xfn]at ih⊢;by_cases hi:i=k
  ·subst hi; simp[ih,Wv,h]
  ·simp[hi,Wv,ih]
theorem Xfq {k:Nat}:ent (Xfn σ k) k=some ([],.a (.t k)):=by simp[ent,Xb0]
theorem Zq {k j:Nat}(h:k ≠ j):ent (Xfn σ k) j=ent σ j:=by simp[ent,Xb1 h]
theorem Xf6:∀{σ:Sg} {d k:Nat} {p:Ut} {e:E},noMen σ d=true->Wv σ k=some (some (p,e))->e.men d=false
 | [],_,_,_,_,_,h=>by simp[Wv]at h
 | (j,x)::r,d,k,p,e,hg,h=>by
  simp only[noMen,List.all_cons,Uai]at hg;simp only[Wv]at h;split at h
  ·cases h; simpa using hg.1
  ·exact Xf6 (σ:=r) hg.2 h
theorem Xl2:∀{σ:Sg} {k:Nat} {p:Ut} {e:E},Yv5 σ=true->Wv σ k=some (some (p,e))->e.rd=false
 | [],_,_,_,_,h=>by simp[Wv]at h
 | (j,x)::r,k,p,e,hg,h=>by
  simp only[Yv5,List.all_cons,Uai]at hg;simp only[Wv]at h;split at h
  ·cases h; simpa using hg.1
  ·exact Xl2 (σ:=r) hg.2 h
theorem Xts {k:Nat}{e:E}(hg:Yv5 σ=true)(h:ent σ k=some (p,e)):e.rd=false:=by
 unfold ent at h;split at h
 ·cases h; rfl
 ·rename_i x hx; subst h; exact Xl2 hg hx
theorem Xl1 {d k:Nat}{e:E}(hg:noMen (Xfn σ d) d=true)(hd:d ≠ k)(h:ent σ k=some (p,e)):e.men d=false:=by
 rw[<-Zq hd]at h;unfold ent at h;split at h
 ·cases h; simp[E.men,A.men]; exact fun e=>hd e.symm
 ·rename_i x hx; subst h; exact Xf6 hg hx

theorem Xf4 {ns:List Nat}:∀{ks:List Nat} {σ σ':Sg} {sl0:Xf} {ms l:List It2},Inv T σ sl sl0 ob->Yuy ns ks σ=some (ms,σ')->Ub P T K Pn (ms++l) sl0 ob->∃sl0',Inv T σ' sl sl0' ob/\Ub P T K Pn l sl0' ob
 | [],σ,σ',sl0,ms,l,hI,h,hr=>by simp only[Yuy]at h; cases h; exact⟨sl0,hI,hr⟩
 | k::r,σ,σ',sl0,ms,l,hI,h,hr=>by
  simp only[Yuy]at h;split at h
  ·rename_i i σ1 h1;split at h
   ·rename_i l' σ2 h2;cases h;unfold Zei at h1;split at h1
    ·rename_i p e he;split at h1
     ·rename_i lp hp;split at h1
      ·rename_i hm;cases h1;simp only[List.cons_append,Ub]at hr;refine Xf4 ?_ h2 hr.2;have hk:=hI k p e (by simp[ent,he]);have hh:=Ui hI _ _ _ hp rfl;have hdel:∀j q e',ent (Xfn σ k) j=some (q,e')->(Xv sl q=true->look sl j=e'.val T ((k,Xjf (Z0 T sl0 ob lp) (e.val T sl0 ob))::sl0) ob)/\(Xv sl q=false->look sl j=.undef):=by
        intro j q e' he';by_cases hj:k=j
        ·subst hj;rw[Xfq]at he'; cases he';simp only[Xv,List.all_nil,E.val,A.ev,look,Ubb];refine⟨fun _=>?_,fun h=>(by cases h)⟩;rw[<-hh];cases hs:Xv sl p with
         | true=>rw[hk.1 hs]; rfl
         | false=>rw[hk.2 hs]; rfl
        ·rw[Zq hj]at he';rw[Rcn (Xl1 hm hj he')];exact hI j q e' he'
       unfold Ysg;split
       ·exact hdel
       ·intro j q e' he';by_cases hj:k=j
        ·subst hj;rw[Z8]at he'; cases he';simp only[E.val,A.ev,look,Ubb];rw[<-hh];exact⟨fun hs=>by rw[hk.1 hs,hs]; rfl,hk.2⟩
        ·rw[Zo hj]at he';exact hdel j q e' he'
      ·cases h1
     ·cases h1
    ·cases h1
   ·cases h
  ·cases h

theorem Xs7 {lv:List Nat}:∀{σ:Sg} {k:Nat} {e:E},ent (kill lv σ) k=some (p,e)->ent σ k=some (p,e)
 | [],_,_,h=>h
 | (j,x)::r,k,e,h=>by
  by_cases hj:j=k
  ·subst hj;rw[Z8];simp only[kill]at h;split at h
   ·rwa [Z8]at h
   ·rw[Z8]at h; cases h
  ·rw[Zo hj];simp only[kill]at h;refine Xs7 (lv:=lv) (σ:=r) ?_;split at h
   ·rwa [Zo hj]at h
   ·rwa [Zo hj]at h
theorem Inv.kill {lv:List Nat}(hI:Inv T σ sl sl0 ob):Inv T (kill lv σ) sl sl0 ob:=fun k p e h=>hI k p e (Xs7 h)

theorem Inv.fold' (hI:Inv T σ sl sl0 ob){k:Nat}{e:E}(hg:Xns (Xfn σ k) k=true)(hp:Uh k p=true){v:V}(h1:Xv sl p=true->v=e.val T sl0 ob)(h2:Xv sl p=false->v=.undef) :
  Inv T ((k,some (p,e))::Xfn σ k) ((k,v)::sl) sl0 ob:=by
 intro j q e' he;by_cases hj:k=j
 ·subst hj;rw[Z8]at he; cases he;rw[V1 hp];simp only[look,Ubb];exact⟨h1,h2⟩
 ·rw[Zo hj]at he;rw[V1 (J2 hg he)];rw[Zq hj]at he;simp only[look,hj,Uay];exact hI j q e' he

theorem Inv.eff (hI:Inv T σ sl sl0 ob){d:Option Nat}(hf:Yf4 σ p d=true)(hr:Yv5 σ=true){v:V}{ob':Xb}:Inv T (Y1j σ d) (put sl d v) (put sl0 d v) ob':=by
 cases d with
 | none=>
  intro j q e he;rw[E.val_ob (ob':=ob) (Xts hr he)];exact hI j q e he
 | some k=>
  simp only[Yf4,Uai]at hf;intro j q e he;simp only[put,Y1j]at he⊢;by_cases hj:k=j
  ·subst hj;rw[Xfq]at he; cases he;simp[Xv,E.val,A.ev,look]
  ·have he':=he;rw[V1 (J2 hf.1.2 he')];rw[Zq hj]at he;rw[Rcn (Xl1 hf.1.1 hj he),E.val_ob (ob':=ob) (Xts hr he)];simp only[look,hj,Uay];exact hI j q e he
theorem Jg (hI:Inv T σ sl sl0 ob):∀{keep:List Nat} {kp:List (Nat×E)},Xlg σ keep=some kp->Uw T sl0 ob kp=Xk sl keep/\(Vc T sl0 ob kp->∀k∈keep,∀p e,ent σ k=some (p,e)->e.ok T sl0 ob)
 | [],kp,h=>by simp only[Xlg]at h; cases h; exact⟨rfl,fun _ _ h=>(by cases h)⟩
 | k::r,kp,h=>by
  simp only[Xlg]at h;split at h
  ·rename_i e l he hl;cases h;obtain⟨h1,h2⟩:=Jg hI hl;refine⟨by simp only[Uw,Xk,h1,(hI k [] e he).1 rfl],fun ho j hj p e' he'=>?_⟩;rcases Uax.mp hj with rfl | hj
   ·rw[he]at he'; cases he'; exact ho.1
   ·exact h2 ho.2 j hj p e' he'
  ·cases h

def Xx0 (T:Tab)(σ:Sg)(pe pg:List Nat)(sl sl0:Xf)(ob:Xb):Prop:=
 (∀k∈pe,∀p e,ent σ k=some (p,e)->Xv sl p=true->e.ok T sl0 ob)/\
 (∀k∈pg,∀p e,ent σ k=some (p,e)->Xv sl p=true->Xdg (e.val T sl0 ob))

theorem Xmb {fs:List Nat}{i:I}{k:Nat}{e:E}{pe pg:List Nat}{v:V}(hI:Inv T σ sl sl0 ob)(he:i.lift fs σ p=some e)(c1:Xns (Xfn σ k) k=true)(c2:Uh k p=true)(c3:k∉pe)(c4:k∉pg)
  (h:Xx0 T ((k,some (p,e))::Xfn σ k) (Yyq e k (pe.filter fun j=>!(i.cons σ p).contains j)) (pg.filter fun j=>!(i.gcons σ p).contains j) ((k,v)::sl) sl0 ob) :
  Xx0 T σ pe pg sl sl0 ob/\(Xv sl p=true->e.ok T sl0 ob):=by
 obtain⟨a1,a2⟩:=h;have hok:Xv sl p=true->e.ok T sl0 ob:=fun hh=>by
  cases hA:e.isA with
  | true=>cases e<;>simp[E.isA]at hA; trivial
  | false=>exact a1 k (by simp[Yyq,hA]) p e Z8 (by rw[V1 c2]; exact hh)
 refine⟨⟨fun j hj q e' he' hq=>?_,fun j hj q e' he' hq=>?_⟩,hok⟩
 ·by_cases hm:j∈i.cons σ p
  ·exact I.cov hI he hm he' hq hok
  ·have hkj:k ≠ j:=fun e=>c3 (e▸hj);refine a1 j ?_ q e' (by rw[Zo hkj,Zq hkj]; exact he') ?_
   ·simp only[Yyq]; split<;>simp[hj,hm]
   ·rw[V1]; exact hq;exact J2 c1 (by rw[Zq hkj]; exact he')
 ·by_cases hm:j∈i.gcons σ p
  ·exact Rco he hm he' hq hok
  ·have hkj:k ≠ j:=fun e=>c4 (e▸hj);refine a2 j ?_ q e' (by rw[Zo hkj,Zq hkj]; exact he') ?_
   ·simp only[List.mem_filter]; exact⟨hj,by simp[hm]⟩
   ·rw[V1]; exact hq;exact J2 c1 (by rw[Zq hkj]; exact he')

theorem X3p {fs keep pk:List Nat}:∀(its:List It) {σ:Sg} {pe pg:List Nat} {sl sl0:Xf} {ob:Xb} {l:List It2} {kp:List (Nat×E)},Inv T σ sl sl0 ob->Xbe fs keep pk its σ pe pg=some (l,kp)->
  Ub P T (fun sl ob=>Vc T sl ob kp/\K (Uw T sl ob kp) ob) Pn l sl0 ob->Xx0 T σ pe pg sl sl0 ob
 | [],σ,pe,pg,sl,sl0,ob,l,kp,hI,h,hr=>by
  simp only[Xbe]at h;split at h
  ·rename_i c1 c2 kp' h1 h2 h3;cases h;obtain⟨a1,hr⟩:=Zf hI h1 hr;obtain⟨a2,hr⟩:=Zf hI (l:=[]) h2 (by simpa using hr);simp only[Ub]at hr;obtain⟨_,a3⟩:=Jg hI h3;refine⟨fun k hk p e he hp=>?_,fun k hk p e he hp=>(a2 k hk p e he hp).2.1⟩;by_cases hm:k∈keep
   ·exact a3 hr.1 k hm p e he
   ·exact a1 k (by simp[hk,hm]) p e he hp
  ·cases h
 | it::r,σ,pe,pg,sl,sl0,ob,l,kp,hI,h,hr=>by
  simp only[Xbe]at h;split at h
  ·cases h
  ·rename_i p gs hp;split at h
   ·rename_i k e hd he;split at h
    ·rename_i hc;simp only[Uai,Ubq,List.contains_eq_mem,Ucc]at hc;obtain⟨⟨⟨c1,c2⟩,c3⟩,c4⟩:=hc;have hI':=hI.fold' (e:=e) c1 c2 (v:=Xjf (Xv sl p) (e.val T sl0 ob)) (fun h=>by rw[h]; rfl) (fun h=>by rw[h]; rfl);obtain⟨a,_⟩:=Xmb hI he c1 c2 c3 c4 (X3p r hI' h hr);exact⟨a.1,fun j hj=>a.2 j (Ubu.mpr (.inr hj))⟩
    ·cases h
   ·split at h
    ·rename_i c1 c2 h1 h2;split at h
     ·split at h
      ·split at h
       ·split at h
        ·cases h;obtain⟨a1,hr⟩:=Zf hI h1 hr;obtain⟨a2,hr⟩:=Zf hI h2 hr;exact⟨a1,fun k hk p e he hp=>(a2 k (Ubu.mpr (.inr hk)) p e he hp).2.1⟩
        ·cases h
       ·cases h
      ·cases h
     ·cases h
    ·cases h
end
end Go.Ab
namespace Go.Ab
open Go

theorem Xs5 {sl sl':Xf}:∀{ks:List Nat},(∀k∈ks,look sl k=look sl' k)->Xk sl ks=Xk sl' ks
 | [],_=>rfl
 | k::r,h=>by simp only[Xk]; rw[h k (by simp),Xs5 (fun j hj=>h j (by simp[hj]))]

theorem Y9 {P:Prg}{T:Tab}(hT:TOk P T){fs keep pk:List Nat}{K K':Xf->Xb->Prop}{Pn Pn':V->Xf->Xb->Prop}(hK:∀s o,K s o->K' s o)(hP:∀v s o,Pn v s o->Pn' v s o) :
  ∀(its:List It) {σ:Sg} {pe pg:List Nat} {sl sl0:Xf} {ob:Xb} {l:List It2} {kp:List (Nat×E)},Inv T σ sl sl0 ob->Xbe fs keep pk its σ pe pg=some (l,kp)->
  Ub P T (fun sl ob=>Vc T sl ob kp/\K (Uw T sl ob kp) ob) (fun v sl ob=>Pn v (Xk sl pk) ob) l sl0 ob->rwp P (fun sl ob=>K' (Xk sl keep) ob) (fun v sl ob=>Pn' v (Xk sl pk) ob) its sl ob
 | [],σ,pe,pg,sl,sl0,ob,l,kp,hI,h,hr=>by
  simp only[Xbe]at h;split at h
  ·rename_i c1 c2 kp' h1 h2 h3;cases h;obtain⟨_,hr⟩:=Zf hI h1 hr;obtain⟨_,hr⟩:=Zf hI (l:=[]) h2 (by simpa using hr);simp only[Ub]at hr;simp only[rwp];rw[<-(Jg hI h3).1];exact hK _ _ hr.2
  ·cases h
 | it::r,σ,pe,pg,sl,sl0,ob,l,kp,hI,h,hr=>by
  simp only[Xbe]at h;split at h
  ·cases h
  ·rename_i p gs hp;split at h
   ·rename_i k e hd he;split at h
    ·rename_i hc;simp only[Uai,Ubq,List.contains_eq_mem,Ucc]at hc;obtain⟨⟨⟨c1,c2⟩,c3⟩,c4⟩:=hc;have go:∀v,(Xv sl p=true->v=e.val T sl0 ob)->(Xv sl p=false->v=.undef)->rwp P (fun sl ob=>K' (Xk sl keep) ob) (fun v sl ob=>Pn' v (Xk sl pk) ob) r ((k,v)::sl) ob:=
      fun v h1 h2=>Y9 hT hK hP r (hI.fold' (e:=e) c1 c2 h1 h2) h hr
     have hI':=hI.fold' (e:=e) c1 c2 (v:=Xjf (Xv sl p) (e.val T sl0 ob)) (fun h=>by rw[h]; rfl) (fun h=>by rw[h]; rfl);obtain⟨a,hok⟩:=Xmb hI he c1 c2 c3 c4 (X3p r hI' h hr);cases it with
     | op d i=>
      simp only[It.d]at hd; subst hd;simp only[It.path]at hp; cases hp;simp only[rwp];exact I.lift_sound hT hI rfl he (hok rfl) (go _ (fun _=>rfl) (fun h=>by cases h))
     | gop g b d i=>
      simp only[It.d]at hd; subst hd;simp only[It.path]at hp;split at hp
      ·rename_i q eg hg;cases hp;simp only[rwp];cases hq:Xv sl q with
       | false=>
        rw[(hI g q eg hg).2 hq];simp only[gdK];exact go _ (fun h=>by rw[Zg,hq]at h; cases h) (fun _=>rfl)
       | true=>
        have hv:=(hI g q eg hg).1 hq;have hb:=a.2 g (by simp) q eg hg hq;have hcg:∀j,look ((g,look sl g)::sl) j=look sl j:=fun j=>by
         simp only[look]; split
         ·rename_i e; rw[e]
         ·rfl
        have main:∀t,look sl g=.d (.bool t)->gdK g b sl (fun sl=>I.wp P sl ob (fun v ob'=>rwp P (fun sl ob=>K' (Xk sl keep) ob) (fun v sl ob=>Pn' v (Xk sl pk) ob) r (put sl (some k) v) ob') (fun v ob'=>Pn' v (Xk sl pk) ob') i) (fun sl=>rwp P (fun sl ob=>K' (Xk sl keep) ob) (fun v sl ob=>Pn' v (Xk sl pk) ob) r (put sl (some k) .undef) ob) (look sl g):=by
         intro t ht;rw[ht];simp only[gdK];have hh:∀u,t=u->Inv T σ ((g,.d (.bool u))::sl) sl0 ob:=fun u e=>by
          subst e; rw[<-ht]; exact hI.congr hcg
         have hs:∀u,t=u->∀p,Xv ((g,.d (.bool u))::sl) p=Xv sl p:=fun u e p=>by
          subst e; rw[<-ht]; simp only[Xv,hcg]
         refine⟨fun e1=>?_,fun e1=>?_⟩
         ·have hp1:Xv sl (q++[(g,b)])=true:=by rw[Zg,hq,ht,e1]; simp[isB]
          refine I.lift_sound hT (hh _ e1) (by rw[hs _ e1]; exact hp1) he (hok hp1) ?_;refine Y9 hT hK hP r ((hh _ e1).fold' (e:=e) c1 c2 (fun _=>rfl) (fun h=>?_)) h hr;rw[hs _ e1,hp1]at h; cases h
         ·have hp1:Xv sl (q++[(g,b)])=false:=by rw[Zg,hq,ht,e1]; cases b<;>simp[isB]
          refine Y9 hT hK hP r ((hh _ e1).fold' (e:=e) c1 c2 (fun h=>?_) (fun _=>rfl)) h hr;rw[hs _ e1,hp1]at h; cases h
        rcases Xgu hb with hb | hb
        ·exact main true (by rw[hv,hb])
        ·exact main false (by rw[hv,hb])
      ·cases hp
    ·cases h
   ·rename_i d x hd hx;split at h
    ·rename_i c1 c2 h1 h2;split at h
     ·rename_i ms σ2 hm;split at h
      ·rename_i lp hl;split at h
       ·rename_i hc;simp only[Uai,Ubt,Ucf]at hc;obtain⟨⟨⟨d1,d2⟩,d3⟩,d4⟩:=hc;split at h
        ·rename_i t kp' ht;cases h;obtain⟨_,hr⟩:=Zf hI h1 hr;obtain⟨a2,hr⟩:=Zf hI h2 hr;obtain⟨sl1,hI1,hr⟩:=Xf4 hI.kill hm hr;have hlook:∀{s},Inv T σ2 s sl1 ob->∀k,Wv σ2 k=none->look s k=look sl1 k:=fun hI k hk=>(hI k [] (.a (.t k)) (by simp[ent,hk])).1 rfl;have hkeep:∀{s},Inv T σ2 s sl1 ob->Xk s pk=Xk sl1 pk:=fun {s} hI=>by
          exact Xs5 fun k hk=>hlook hI k (d4 k hk)
         have step:∀{s},Inv T σ2 s sl1 ob->it.i.wp P sl1 ob (fun v ob'=>Ub P T (fun sl ob=>Vc T sl ob kp/\K (Uw T sl ob kp) ob) (fun v sl ob=>Pn v (Xk sl pk) ob) t (put sl1 it.d v) ob') (fun v ob'=>Pn v (Xk sl1 pk) ob')->
           it.i.wp P s ob (fun v ob'=>rwp P (fun sl ob=>K' (Xk sl keep) ob) (fun v sl ob=>Pn' v (Xk sl pk) ob) r (put s it.d v) ob') (fun v ob'=>Pn' v (Xk s pk) ob'):=fun {s} hI h=>by
          rw[I.wp_eq (sl':=sl1) (fun k hk=>hlook hI k (d1 k hk))];refine I.wp_mono (fun v b hv=>?_) (fun v b hv=>?_) h
          ·exact Y9 hT hK hP r (hI.eff d2 d3) ht hv
          ·rw[hkeep hI]; exact hP _ _ _ hv
         cases it with
         | op d' i=>
          simp only[It.eff,Ub]at hr;simp only[rwp];exact step hI1 hr
         | gop g b d' i=>
          simp only[It.eff,Ub]at hr;simp only[It.path]at hp;split at hp
          ·rename_i q eg hg;cases hp;have hh:=Ui hI1 _ _ _ hl rfl;have none':∀{s},Inv T σ2 s sl1 ob->Xv sl (q++[(g,b)])=false->rwp P (fun sl ob=>K' (Xk sl keep) ob) (fun v sl ob=>Pn' v (Xk sl pk) ob) r (put s d' .undef) ob:=fun {s} hI hf=>
            Y9 hT hK hP r (hI.eff d2 d3) ht (hr.2 (by rw[<-hh]; exact hf))
           simp only[rwp];cases hq:Xv sl q with
           | false=>
            rw[(hI g q eg hg).2 hq];simp only[gdK];exact none' hI1 (by rw[Zg,hq]; rfl)
           | true=>
            have hv:=(hI g q eg hg).1 hq;have hb:=(a2 g (by simp) q eg hg hq).2.1;have hcg:∀j,look ((g,look sl g)::sl) j=look sl j:=fun j=>by
             simp only[look]; split
             ·rename_i e; rw[e]
             ·rfl
            have main:∀u,look sl g=.d (.bool u)->gdK g b sl (fun sl=>I.wp P sl ob (fun v ob'=>rwp P (fun sl ob=>K' (Xk sl keep) ob) (fun v sl ob=>Pn' v (Xk sl pk) ob) r (put sl d' v) ob') (fun v ob'=>Pn' v (Xk sl pk) ob') i) (fun sl=>rwp P (fun sl ob=>K' (Xk sl keep) ob) (fun v sl ob=>Pn' v (Xk sl pk) ob) r (put sl d' .undef) ob) (look sl g):=by
             intro u hu;rw[hu];simp only[gdK];have hh2:∀w,u=w->Inv T σ2 ((g,.d (.bool w))::sl) sl1 ob:=fun w e=>by
              subst e; rw[<-hu]; exact hI1.congr hcg
             refine⟨fun e1=>?_,fun e1=>?_⟩
             ·exact step (hh2 _ e1) (hr.1 (by rw[<-hh,Zg,hq,hu,e1]; simp[isB]))
             ·exact none' (hh2 _ e1) (by rw[Zg,hq,hu,e1]; cases b<;>simp[isB])
            rcases Xgu hb with hb | hb
            ·exact main true (by rw[hv,hb])
            ·exact main false (by rw[hv,hb])
          ·cases hp
        ·cases h
       ·cases h
      ·cases h
     ·cases h
    ·cases h

theorem Xs2 {P:Prg}{n n':Xf->Xb->Prop}{Pn Pn':V->Xf->Xb->Prop}(hn:∀sl ob,n sl ob->n' sl ob)(hp:∀v sl ob,Pn v sl ob->Pn' v sl ob):∀(x:It) (sl:Xf) (ob:Xb),itK P n Pn x sl ob->itK P n' Pn' x sl ob
 | .op d i,sl,ob,h=>by
  simp only[itK]at h⊢;exact I.wp_mono (fun _ _ h=>hn _ _ h) (fun _ _ h=>hp _ _ _ h) h
 | .gop s want d i,sl,ob,h=>by
  simp only[itK]at h⊢;generalize look sl s=v at h⊢;unfold gdK at h; split at h
  ·exact⟨fun e=>I.wp_mono (fun _ _ h=>hn _ _ h) (fun _ _ h=>hp _ _ _ h) (h.1 e),fun e=>hn _ _ (h.2 e)⟩
  ·exact hn _ _ h
  ·exact h.elim
mutual
theorem Xiy {P:Prg}{K K':Xf->Xb->Prop}{Pn Pn':V->Xf->Xb->Prop}(hk:∀sl ob,K sl ob->K' sl ob)(hp:∀v sl ob,Pn v sl ob->Pn' v sl ob):∀(t:Ot) (sl:Xf) (ob:Xb),owp P K Pn t sl ob->owp P K' Pn' t sl ob
 | .done,sl,ob,h=>by simp only[owp]at h⊢; exact hk _ _ h
 | .one _ x r,sl,ob,h=>by simp only[owp]at h⊢; exact Xs2 (fun sl ob h=>Xiy hk hp r sl ob h) hp x sl ob h
 | .br l,sl,ob,h=>by simp only[owp]at h⊢; exact Xl7 hk hp l sl ob h
theorem Xl7 {P:Prg}{K K':Xf->Xb->Prop}{Pn Pn':V->Xf->Xb->Prop}(hk:∀sl ob,K sl ob->K' sl ob)(hp:∀v sl ob,Pn v sl ob->Pn' v sl ob):∀(t:Ots) (sl:Xf) (ob:Xb),Xe6 P K Pn t sl ob->Xe6 P K' Pn' t sl ob
 | .nil,sl,ob,h=>by simp only[Xe6]
 | .cons _ x r l,sl,ob,h=>by
  simp only[Xe6]at h⊢;exact⟨Xs2 (fun sl ob h=>Xiy hk hp r sl ob h) hp x sl ob h.1,Xl7 hk hp l sl ob h.2⟩
end

inductive S2 where
 | rg (l:List It2) (keep:List (Nat×E)) (pk:List Nat)
 | rgT (t:Ot) (keep pk:List Nat)
 | seq (a b:S2)
 | skip
 | cond (c:A) (a b:S2)
 | block (n:Nat) (a:S2)
 | loop (keep:List Nat) (a:S2)
 | exit (n:Nat)
 | ret
 | rgf (tag:Nat) (ps:List Nat) (g:A) (x y:S) (keep:List Nat)

def Yw (P:Prg)(T:Tab):S2->Ze->Xf->Xb->Prop
 | .rg l keep pk,Q,sl,ob=>Ub P T (fun sl ob=>Vc T sl ob keep/\Q .normal (Uw T sl ob keep) ob) (fun v sl ob=>Q (.panic v) (Xk sl pk) ob) l sl ob
 | .rgT t keep pk,Q,sl,ob=>owp P (fun sl ob=>Q .normal (Xk sl keep) ob) (fun v sl ob=>Q (.panic v) (Xk sl pk) ob) t sl ob
 | .seq a b,Q,sl,ob=>Yw P T a (W3 (Yw P T b Q) Q) sl ob
 | .skip,Q,sl,ob=>Q .normal sl ob
 | .cond c a b,Q,sl,ob=>Xa9 (Yw P T a Q sl ob) (Yw P T b Q sl ob) (c.ev sl)
 | .block n a,Q,sl,ob=>Yw P T a (Y3 n Q) sl ob
 | .loop keep a,Q,sl,ob=>ALoop keep (Yw P T a) Q sl ob
 | .exit n,Q,sl,ob=>Q (.exit n) sl ob
 | .ret,Q,sl,ob=>Q .ret sl ob
 | .rgf tag ps g x y keep,Q,sl,ob=>Vm P tag ps x y/\rgK P tag (Xk sl keep) ob Q (g.ev sl)

def S.lift (fs:List Nat):S->Option S2
 | .rg _ l keep pk=>match Xbe fs keep pk l [] [] []with
  | some (l,kp)=>some (.rg l kp pk)
  | none=>none
 | .rgT _ t keep pk=>some (.rgT t keep pk)
 | .seq a b=>match a.lift fs,b.lift fs with
  | some a,some b=>some (.seq a b)
  | _,_=>none
 | .skip=>some .skip
 | .cond c a b=>match a.lift fs,b.lift fs with
  | some a,some b=>some (.cond c a b)
  | _,_=>none
 | .block n a=>match a.lift fs with
  | some a=>some (.block n a)
  | none=>none
 | .loop keep a=>match a.lift fs with
  | some a=>some (.loop keep a)
  | none=>none
 | .exit n=>some (.exit n)
 | .ret=>some .ret
 | .rgf tag ps g x y keep=>some (.rgf tag ps g x y keep)

theorem X99 {P:Prg}{tag:Nat}{slk:Xf}{ob:Xb}{Q Q':Ze}(hQ:∀e sl ob,Q e sl ob->Q' e sl ob){v:V}(h:rgK P tag slk ob Q v):rgK P tag slk ob Q' v:=by
 have hq:∀o b,rgQ Q slk (Xa ob) o b->rgQ Q' slk (Xa ob) o b:=fun o b h=>by
  cases o with
  | panic _=>exact h
  | ret v=>
   simp only[rgQ]at h⊢;generalize Xd b _=z at h⊢;unfold rgE at h; split at h
   ·exact hQ _ _ _ h
   ·exact hQ _ _ _ h
   ·exact hQ _ _ _ h
   ·exact h.elim
 unfold rgK at h; split at h
 ·exact⟨h.1,h.2.mono hq⟩
 ·exact⟨h.1,h.2.mono hq⟩
 ·exact h.elim

theorem S.lift_sound {P:Prg}{T:Tab}(hT:TOk P T){fs:List Nat}:∀(s:S) {s2:S2} {Q Q':Ze} {sl:Xf} {ob:Xb},s.lift fs=some s2->(∀e sl ob,Q e sl ob->Q' e sl ob)->Yw P T s2 Q sl ob->cwp P s Q' sl ob
 | .rg o l keep pk,s2,Q,Q',sl,ob,h,hQ,hc=>by
  simp only[S.lift]at h;split at h
  ·rename_i l' kp hl;cases h;simp only[Yw]at hc;simp only[cwp];exact Y9 hT (K:=fun sl ob=>Q .normal sl ob) (Pn:=fun v sl ob=>Q (.panic v) sl ob) (fun _ _ h=>hQ _ _ _ h) (fun _ _ _ h=>hQ _ _ _ h) l
    (fun k p e h=>by simp[ent,Wv]at h; obtain⟨rfl,rfl⟩:=h; exact⟨fun _=>rfl,fun h=>by cases h⟩) hl hc
  ·cases h
 | .rgT n t keep pk,s2,Q,Q',sl,ob,h,hQ,hc=>by
  simp only[S.lift]at h;cases h;simp only[Yw]at hc;simp only[cwp];exact Xiy (fun _ _ h=>hQ _ _ _ h) (fun _ _ _ h=>hQ _ _ _ h) t sl ob hc
 | .seq a b,s2,Q,Q',sl,ob,h,hQ,hc=>by
  simp only[S.lift]at h;split at h
  ·rename_i a' b' ha hb;cases h;simp only[Yw]at hc;simp only[cwp];refine S.lift_sound hT a ha (fun e sl ob h=>?_) hc;cases e with
   | normal=>exact S.lift_sound hT b hb hQ h
   | _=>exact hQ _ _ _ h
  ·cases h
 | .skip,s2,Q,Q',sl,ob,h,hQ,hc=>by simp only[S.lift]at h; cases h; exact hQ _ _ _ hc
 | .cond c a b,s2,Q,Q',sl,ob,h,hQ,hc=>by
  simp only[S.lift]at h;split at h
  ·rename_i a' b' ha hb;cases h;simp only[Yw]at hc;simp only[cwp];generalize c.ev sl=v at hc⊢;unfold Xa9 at hc; split at hc
   ·exact⟨fun e=>S.lift_sound hT a ha hQ (hc.1 e),fun e=>S.lift_sound hT b hb hQ (hc.2 e)⟩
   ·exact hc.elim
  ·cases h
 | .block n a,s2,Q,Q',sl,ob,h,hQ,hc=>by
  simp only[S.lift]at h;split at h
  ·rename_i a' ha;cases h;simp only[Yw]at hc;simp only[cwp];refine S.lift_sound hT a ha (fun e sl ob h=>?_) hc;cases e with
   | exit m=>
    simp only[Y3]at h⊢;split
    ·rename_i e; rw[Uby e]at h; exact hQ _ _ _ h
    ·rename_i e; rw[Ubo e]at h; exact hQ _ _ _ h
   | _=>exact hQ _ _ _ h
  ·cases h
 | .loop keep a,s2,Q,Q',sl,ob,h,hQ,hc=>by
  simp only[S.lift]at h;split at h
  ·rename_i a' ha;cases h;simp only[Yw]at hc;simp only[cwp];obtain⟨ι,S,O,I,μ,i0,h1,h2,h3,h4⟩:=hc.run;refine⟨⟨ι,S,O,I,μ,i0,h1,h2,h3,fun i hi=>S.lift_sound hT a ha (fun e sl ob h=>?_) (h4 i hi)⟩⟩;cases e with
   | normal=>exact h
   | _=>exact hQ _ _ _ h
  ·cases h
 | .exit n,s2,Q,Q',sl,ob,h,hQ,hc=>by simp only[S.lift]at h; cases h; exact hQ _ _ _ hc
 | .ret,s2,Q,Q',sl,ob,h,hQ,hc=>by simp only[S.lift]at h; cases h; exact hQ _ _ _ hc
 | .rgf tag ps g x y keep,s2,Q,Q',sl,ob,h,hQ,hc=>by
  simp only[S.lift]at h; cases h;simp only[Yw]at hc;simp only[cwp];exact⟨hc.1,X99 hQ hc.2⟩
end Go.Ab
namespace Go.Ab
open Go

theorem Xg {P:Prg}{p:Program}(hP:P.p=p)(hm:p.follows .mixedOrders=true){f:Nat}{s:S}{rs:List RV}{ds:List D}{ob0:Xb}{K:V->Prop}{fs:List Nat}{s2:S2}{T:Tab}(hc:Xi p f ds.length s rs=true)(hl:s.lift fs=some s2)(hT:TOk P T)
  (h:Yw P T s2 (Ux rs K) (Ua 0 (ds.map .d)) []):PCall P f (ds.map .d) ob0 K:=
 X92 hP hm hc (S.lift_sound hT s hl (fun _ _ _ h=>h) h)

theorem Xn {P:Prg}{p:Program}(hP:P.p=p)(hm:p.follows .mixedOrders=true){f:Nat}{s:S}{rs:List RV}{vs:List V}{ob:Xb}{K:Out->Xb->Prop}{fs:List Nat}{s2:S2}{T:Tab}(hc:Xi p f vs.length s rs=true)(hl:s.lift fs=some s2)(hT:TOk P T)
  (h:(∀kp,Rb8 (Xc (Xa ob) kp) vs=false)->(∀kp,Xh (Xc (Xa ob) kp) ob=true)->Yw P T s2 (Vs (Xa ob) rs K) (Ua 0 vs) ob):ACall P f vs ob K:=
 ACall.of_wf fun h1 h2=>by subst hP; exact Xfb hm hc (S.lift_sound hT s hl (fun _ _ _ h=>h) (h h1 h2))

def PFn (P:Prg)(f:Nat)(F:Fn):Prop:=∀vs,F.pre vs->∀(ob:Xb) (K:V->Prop),K (F.val vs)->PCall P f vs ob K
theorem TOk.nil {P:Prg}:TOk P []:=fun f F h=>by simp[Xae]at h
theorem TOk.cons {P:Prg}{T:Tab}{f:Nat}{F:Fn}(h:PFn P f F)(hT:TOk P T):TOk P ((f,F)::T):=fun g G hg=>by
 simp only[Xae]at hg;split at hg
 ·rename_i e; subst e; cases hg; exact h
 ·exact hT g G hg

def Yza (v:V):Prop:=X3h (fun w=>w=Yku v) v
def mxS (u v:V):Prop:=mxK (fun w=>w=mxV u v) u v
def Ya2 (o:BinOp)(u v:V):Prop:=Xru o (fun w=>w=Yem o u v) u v
def Xfz (e:Bool)(v:V):Prop:=V2 e (fun w=>w=J9 e v) v
def Yyy (k:IntKind)(v:V):Prop:=Xy6 k (fun w=>w=Yff k v) v
def idxS (u v:V):Prop:=X5l (fun w=>w=Ynp u v) u v
def Xk7 (ob:Xb)(z:Nat)(u v:V):Prop:=Xcb ob z (fun w=>w=Xk8 z u v) u v
def Xnw (ob:Xb)(n z:Nat)(u v:V):Prop:=Xcc ob n z (fun w=>w=Xhc u v) u v
def Xu8 (ob:Xb)(f fo:Nat)(v:V):Prop:=Uu ob f fo (fun w=>w=Xnq f fo v) v
def ldS (ob:Xb)(n:Nat)(ag:Bool)(v:V):Prop:=ldK ob n ag (fun w=>w=ldV ob v) v
def Xvo (v:V):Prop:=Xce (fun w=>w=v) v
def X9k (v:V):Prop:=Xdz (fun w=>w=Xn4 v) v
def Qz (ob:Xb)(v:V):Prop:=Xad ob (fun w=>w=U8 v) v
def Xcj (l h:Option V)(v:V):Prop:=Xe8 l h (fun w=>w=Xav l h v) v
def Yy4 (i:Nat)(v:V):Prop:=X5k i (fun w=>w=Yls i v) v
def Yzi (t:Nat)(z:D)(v:V):Prop:=Yam t z (fun w=>w=Yl4 t z v) v

section
variable (P:Prg) (T:Tab) (sl:Xf) (ob:Xb) (x y z:E) (a:A) (u v w:V) (k j n m:Nat) (b c:Bool) (kd kd':IntKind) (i i':Int) (s s':List UInt8) (xs:List D) (vs:List V) (d:D) (o:BinOp) (p:List Nat)
-- what expressions yield
@[simp] theorem v_a:E.val T sl ob (.a a)=a.ev sl:=by simp only[E.val]
@[simp] theorem v_ite:E.val T sl ob (.ite x y z)=Xed (x.val T sl ob) (y.val T sl ob) (z.val T sl ob):=by simp only[E.val]
@[simp] theorem v_call:E.val T sl ob (.call k x)=X6y (Xae T k) (x.val T sl ob):=by simp only[E.val]
@[simp] theorem v_nil:E.val T sl ob .nil=.tup []:=by simp only[E.val]
@[simp] theorem v_cons:E.val T sl ob (.cons x y)=Xy4 (x.val T sl ob) (y.val T sl ob):=by simp only[E.val]
@[simp] theorem v_not:E.val T sl ob (.u (.not (.t 0)) x)=Yku (x.val T sl ob):=by simp[E.val,C.val]
@[simp] theorem v_mx:E.val T sl ob (.b (.mx (.t 0) (.t 1)) x y)=mxV (x.val T sl ob) (y.val T sl ob):=by simp[E.val,C.val]
@[simp] theorem v_bin:E.val T sl ob (.b (.bin o (.t 0) (.t 1)) x y)=Yem o (x.val T sl ob) (y.val T sl ob):=by simp[E.val,C.val]
@[simp] theorem v_isnil:E.val T sl ob (.u (.isnil b (.t 0)) x)=J9 b (x.val T sl ob):=by simp[E.val,C.val]
@[simp] theorem v_cvi:E.val T sl ob (.u (.cvi kd (.t 0)) x)=Yff kd (x.val T sl ob):=by simp[E.val,C.val]
@[simp] theorem v_idx:E.val T sl ob (.b (.idx (.t 0) (.t 1)) x y)=Ynp (x.val T sl ob) (y.val T sl ob):=by simp[E.val,C.val]
@[simp] theorem v_idxA:E.val T sl ob (.b (.idxA n (.t 0) (.t 1)) x y)=Xk8 n (x.val T sl ob) (y.val T sl ob):=by simp[E.val,C.val]
@[simp] theorem v_idxP:E.val T sl ob (.b (.idxP k n (.t 0) (.t 1)) x y)=Xhc (x.val T sl ob) (y.val T sl ob):=by simp[E.val,C.val]
@[simp] theorem v_fldA:E.val T sl ob (.u (.fldA k n (.t 0)) x)=Xnq k n (x.val T sl ob):=by simp[E.val,C.val]
@[simp] theorem v_ldd:E.val T sl ob (.u (.ldd n b (.t 0)) x)=ldV ob (x.val T sl ob):=by simp[E.val,C.val]
@[simp] theorem v_ld:E.val T sl ob (.u (.ld n b (.t 0)) x)=ldV ob (x.val T sl ob):=by simp[E.val,C.val]
@[simp] theorem v_nilc:E.val T sl ob (.u (.nilc (.t 0)) x)=x.val T sl ob:=by simp[E.val,C.val]
@[simp] theorem v_lenS:E.val T sl ob (.u (.lenS (.t 0)) x)=Xn4 (x.val T sl ob):=by simp[E.val,C.val]
@[simp] theorem v_lenL:E.val T sl ob (.u (.lenL (.t 0)) x)=U8 (x.val T sl ob):=by simp[E.val,C.val]
@[simp] theorem v_slcS1:E.val T sl ob (.b (.slcS (.t 0) (some (.t 1)) none) x y)=Xav (some (y.val T sl ob)) none (x.val T sl ob):=by simp[E.val,C.val]
@[simp] theorem v_slcS2:E.val T sl ob (.b (.slcS (.t 0) none (some (.t 1))) x y)=Xav none (some (y.val T sl ob)) (x.val T sl ob):=by simp[E.val,C.val]
@[simp] theorem v_slcS3:E.val T sl ob (.t (.slcS (.t 0) (some (.t 1)) (some (.t 2))) x y z)=Xav (some (y.val T sl ob)) (some (z.val T sl ob)) (x.val T sl ob):=by simp[E.val,C.val]
@[simp] theorem v_ext:E.val T sl ob (.u (.ext (.t 0) n) x)=Yls n (x.val T sl ob):=by simp[E.val,C.val]
@[simp] theorem v_mki:E.val T sl ob (.u (.mki n (.t 0)) x)=X9v n (x.val T sl ob):=by simp[E.val,C.val]
@[simp] theorem v_tas:E.val T sl ob (.u (.tas n d (.t 0)) x)=Yl4 n d (x.val T sl ob):=by simp[E.val,C.val]
-- when expressions are safe
@[simp] theorem o_a:E.ok T sl ob (.a a)=True:=by simp only[E.ok]
@[simp] theorem o_ite:E.ok T sl ob (.ite x y z)=(x.ok T sl ob/\Xdg (x.val T sl ob)/\(isB true (x.val T sl ob)=true->y.ok T sl ob)/\(isB false (x.val T sl ob)=true->z.ok T sl ob)):=by simp only[E.ok]
@[simp] theorem o_call:E.ok T sl ob (.call k x)=(x.ok T sl ob/\X6x (Xae T k) (x.val T sl ob)):=by simp only[E.ok]
@[simp] theorem o_nil:E.ok T sl ob .nil=True:=by simp only[E.ok]
@[simp] theorem o_cons:E.ok T sl ob (.cons x y)=(x.ok T sl ob/\y.ok T sl ob):=by simp only[E.ok]
@[simp] theorem o_not:E.ok T sl ob (.u (.not (.t 0)) x)=(x.ok T sl ob/\Yza (x.val T sl ob)):=by simp[E.ok,C.ok,C.val,Yza]
@[simp] theorem o_mx:E.ok T sl ob (.b (.mx (.t 0) (.t 1)) x y)=(x.ok T sl ob/\y.ok T sl ob/\mxS (x.val T sl ob) (y.val T sl ob)):=by simp[E.ok,C.ok,C.val,mxS]
@[simp] theorem o_bin:E.ok T sl ob (.b (.bin o (.t 0) (.t 1)) x y)=(x.ok T sl ob/\y.ok T sl ob/\Ya2 o (x.val T sl ob) (y.val T sl ob)):=by simp[E.ok,C.ok,C.val,Ya2]
@[simp] theorem o_isnil:E.ok T sl ob (.u (.isnil b (.t 0)) x)=(x.ok T sl ob/\Xfz b (x.val T sl ob)):=by simp[E.ok,C.ok,C.val,Xfz]
@[simp] theorem o_cvi:E.ok T sl ob (.u (.cvi kd (.t 0)) x)=(x.ok T sl ob/\Yyy kd (x.val T sl ob)):=by simp[E.ok,C.ok,C.val,Yyy]
@[simp] theorem o_idx:E.ok T sl ob (.b (.idx (.t 0) (.t 1)) x y)=(x.ok T sl ob/\y.ok T sl ob/\idxS (x.val T sl ob) (y.val T sl ob)):=by simp[E.ok,C.ok,C.val,idxS]
@[simp] theorem o_idxA:E.ok T sl ob (.b (.idxA n (.t 0) (.t 1)) x y)=(x.ok T sl ob/\y.ok T sl ob/\Xk7 ob n (x.val T sl ob) (y.val T sl ob)):=by simp[E.ok,C.ok,C.val,Xk7]
@[simp] theorem o_idxP:E.ok T sl ob (.b (.idxP k n (.t 0) (.t 1)) x y)=(x.ok T sl ob/\y.ok T sl ob/\Xnw ob k n (x.val T sl ob) (y.val T sl ob)):=by simp[E.ok,C.ok,C.val,Xnw]
@[simp] theorem o_fldA:E.ok T sl ob (.u (.fldA k n (.t 0)) x)=(x.ok T sl ob/\Xu8 ob k n (x.val T sl ob)):=by simp[E.ok,C.ok,C.val,Xu8]
def Ysk (n:Nat)(ag:Bool)(v:V):Prop:=Xwj n ag (fun _=>True) v
@[simp] theorem lddS_c {d:D}:Ysk n b (.d (.ref d))=(d.sz=n/\(V.d d).isAgg=b):=by simp[Ysk]
theorem Yh1 {ob:Xb}{v:V}:Xwj n b (fun w=>w=ldV ob v) v=Ysk n b v:=by
 unfold Ysk Xwj; split<;>simp[ldV]
@[simp] theorem o_ldd:E.ok T sl ob (.u (.ldd n b (.t 0)) x)=(x.ok T sl ob/\Ysk n b (x.val T sl ob)):=by simp[E.ok,C.ok,C.val,Yh1]
@[simp] theorem o_ld:E.ok T sl ob (.u (.ld n b (.t 0)) x)=(x.ok T sl ob/\ldS ob n b (x.val T sl ob)):=by simp[E.ok,C.ok,C.val,ldS]
@[simp] theorem o_nilc:E.ok T sl ob (.u (.nilc (.t 0)) x)=(x.ok T sl ob/\Xvo (x.val T sl ob)):=by simp[E.ok,C.ok,C.val,Xvo]
@[simp] theorem o_lenS:E.ok T sl ob (.u (.lenS (.t 0)) x)=(x.ok T sl ob/\X9k (x.val T sl ob)):=by simp[E.ok,C.ok,C.val,X9k]
@[simp] theorem o_lenL:E.ok T sl ob (.u (.lenL (.t 0)) x)=(x.ok T sl ob/\Qz ob (x.val T sl ob)):=by simp[E.ok,C.ok,C.val,Qz]
@[simp] theorem o_slcS1:E.ok T sl ob (.b (.slcS (.t 0) (some (.t 1)) none) x y)=(x.ok T sl ob/\y.ok T sl ob/\Xcj (some (y.val T sl ob)) none (x.val T sl ob)):=by simp[E.ok,C.ok,C.val,Xcj]
@[simp] theorem o_slcS2:E.ok T sl ob (.b (.slcS (.t 0) none (some (.t 1))) x y)=(x.ok T sl ob/\y.ok T sl ob/\Xcj none (some (y.val T sl ob)) (x.val T sl ob)):=by simp[E.ok,C.ok,C.val,Xcj]
@[simp] theorem o_slcS3:E.ok T sl ob (.t (.slcS (.t 0) (some (.t 1)) (some (.t 2))) x y z)=(x.ok T sl ob/\y.ok T sl ob/\z.ok T sl ob/\Xcj (some (y.val T sl ob)) (some (z.val T sl ob)) (x.val T sl ob)):=by simp[E.ok,C.ok,C.val,Xcj]
@[simp] theorem o_ext:E.ok T sl ob (.u (.ext (.t 0) n) x)=(x.ok T sl ob/\Yy4 n (x.val T sl ob)):=by simp[E.ok,C.ok,C.val,Yy4]
@[simp] theorem o_mki:E.ok T sl ob (.u (.mki n (.t 0)) x)=x.ok T sl ob:=by simp[E.ok,C.ok,C.val]
@[simp] theorem o_tas:E.ok T sl ob (.u (.tas n d (.t 0)) x)=(x.ok T sl ob/\Yzi n d (x.val T sl ob)):=by simp[E.ok,C.ok,C.val,Yzi]
-- values
@[simp] theorem pickV_b (b1 b2:Bool):Xed (.d (.bool b)) (.d (.bool b1)) (.d (.bool b2))=.d (.bool (if b then b1 else b2)):=by simp only[Xed]
attribute [simp] X3s X3q
@[simp] theorem notV_b:Yku (.d (.bool b))=.d (.bool (!b)):=by simp only[Yku]
@[simp] theorem notS_b:Yza (.d (.bool b))=True:=by simp[Yza]
@[simp] theorem mxV_i:mxV (.d (.int kd i)) (.d (.int kd' i'))=.d (.int kd (if i' > i then i' else i)):=by simp only[mxV]
@[simp] theorem mxS_i:mxS (.d (.int kd i)) (.d (.int kd' i'))=True:=by simp[mxS,mxK,mxV]
@[simp] theorem binV_i:Yem o (.d (.int kd i)) (.d (.int kd' i'))=Xby o kd i i':=by simp only[Yem]
@[simp] theorem binV_s:Yem o (.d (.str s)) (.d (.str s'))=Ydk o s s':=by simp only[Yem]
@[simp] theorem intV_add:Xby .add kd i i'=.d (.int kd (kd.wrap (i+i'))):=by simp only[Xby]
@[simp] theorem intV_sub:Xby .sub kd i i'=.d (.int kd (kd.wrap (i-i'))):=by simp only[Xby]
@[simp] theorem intV_mul:Xby .mul kd i i'=.d (.int kd (kd.wrap (i*i'))):=by simp only[Xby]
@[simp] theorem intV_eql:Xby .eql kd i i'=.d (.bool (i==i')):=by simp only[Xby]
@[simp] theorem intV_neq:Xby .neq kd i i'=.d (.bool (i != i')):=by simp only[Xby]
@[simp] theorem intV_lss:Xby .lss kd i i'=.d (.bool (decide (i<i'))):=by simp only[Xby]
@[simp] theorem intV_leq:Xby .leq kd i i'=.d (.bool (decide (i<=i'))):=by simp only[Xby]
@[simp] theorem intV_gtr:Xby .gtr kd i i'=.d (.bool (decide (i'<i))):=by simp only[Xby]
@[simp] theorem intV_geq:Xby .geq kd i i'=.d (.bool (decide (i'<=i))):=by simp only[Xby]
@[simp] theorem strV_eql:Ydk .eql s s'=.d (.bool (s==s')):=by simp only[Ydk]
@[simp] theorem strV_neq:Ydk .neq s s'=.d (.bool (s != s')):=by simp only[Ydk]
def Y1w (o:BinOp)(i:Int):Prop:=match o with
 | .quo | .rem=>i ≠ 0
 | .shl | .shr=>0<=i
 | _=>True
@[simp] theorem binS_i:Ya2 o (.d (.int kd i)) (.d (.int kd i'))=Y1w o i':=by cases o<;>simp[Ya2,Y1w,Xmz,Xby]
attribute [simp] Y1w
@[simp] theorem binS_eql:Ya2 .eql (.d (.str s)) (.d (.str s'))=True:=by simp[Ya2]
@[simp] theorem binS_neq:Ya2 .neq (.d (.str s)) (.d (.str s'))=True:=by simp[Ya2]
@[simp] theorem isnilV_n:J9 b (.d .nili)=.d (.bool b):=by simp only[J9]
@[simp] theorem isnilS_n:Xfz b (.d .nili)=True:=by simp[Xfz]
@[simp] theorem isnilV_di:J9 b (.d (.iface k d))=.d (.bool (!b)):=by simp only[J9]
@[simp] theorem isnilS_di:Xfz b (.d (.iface k d))=True:=by simp[Xfz]
@[simp] theorem cviV_i:Yff kd (.d (.int kd' i))=.d (.int kd (kd.wrap i)):=by simp only[Yff]
@[simp] theorem cviS_i:Yyy kd (.d (.int kd' i))=True:=by simp[Yyy]
@[simp] theorem idxV_s:Ynp (.d (.str s)) (.d (.int kd i))=.d (.int .u8 (s.getD i.toNat 0).toNat):=by simp only[Ynp]
@[simp] theorem idxS_s:idxS (.d (.str s)) (.d (.int kd i))=(0<=i/\i<s.length):=by simp[idxS]
@[simp] theorem idxAV_l:Xk8 m (.d (.list n xs)) (.d (.int kd i))=.d (.ref (xs.getD i.toNat default)):=by simp only[Xk8]
@[simp] theorem idxAS_l:Xk7 ob n (.d (.list n xs)) (.d (.int kd i))=(0<=i/\i<xs.length):=by simp[Xk7]
@[simp] theorem idxPV_p:Xhc (.ptr j p) (.d (.int kd i))=.ptr j (p++[i.toNat]):=by simp only[Xhc]
@[simp] theorem idxPV_c:Xhc (.d (.ref (.agg xs))) (.d (.int kd i))=.d (.ref (xs.getD i.toNat default)):=by simp only[Xhc]
@[simp] theorem idxPS_p:Xnw ob k n (.ptr j p) (.d (.int kd i))=((0<=i/\i<k)/\∃ks,Z3 (atO ob j p)=some ks/\ks.length=k/\∀k∈ks,k.size=n):=by simp[Xnw]
@[simp] theorem Yf8:Xnw ob k n (.d (.ref (.agg xs))) (.d (.int kd i))=((0<=i/\i<k)/\xs.length=k/\∀x∈xs,x.sz=n):=by simp[Xnw]
@[simp] theorem fldAV_p:Xnq k n (.ptr j p)=.ptr j (p++[k]):=by simp only[Xnq]
@[simp] theorem fldAV_c:Xnq k n (.d (.ref (.agg xs)))=.d (.ref (xs.getD k default)):=by simp only[Xnq]
def Xsw (f fo:Nat):Option (List V)->Prop
 | some ks=>f<ks.length/\Sh.sizes ((ks.take f).map V.shape)=fo
 | none=>False
@[simp] theorem fldASo_s:Xsw k n (some vs)=(k<vs.length/\Sh.sizes ((vs.take k).map V.shape)=n):=by simp only[Xsw]
@[simp] theorem fldAS_p:Xu8 ob k n (.ptr j p)=Xsw k n (Z3 (atO ob j p)):=by
 simp only[Xu8,Uu,Xsw]; cases Z3 (atO ob j p)<;>simp[U2]
@[simp] theorem fldAS_c:Xu8 ob k n (.d (.ref (.agg xs)))=(k<xs.length/\Raa (xs.take k)=n):=by simp[Xu8]
@[simp] theorem ldVo_s:Ybm (some v)=v:=by simp only[Ybm]
@[simp] theorem ldV_p:ldV ob (.ptr j p)=Ybm (atO ob j p):=by simp only[ldV]
@[simp] theorem ldV_c:ldV ob (.d (.ref d))=.d d:=by simp only[ldV]
def Ylw (n:Nat)(b:Bool):Option V->Prop
 | some v=>v.size=n/\v.isAgg=b
 | none=>False
@[simp] theorem ldSo_s:Ylw n b (some v)=(v.size=n/\v.isAgg=b):=by simp only[Ylw]
@[simp] theorem ldS_p:ldS ob n b (.ptr j p)=Ylw n b (atO ob j p):=by
 simp only[ldS,ldK,ldV]; cases atO ob j p<;>simp[Xlk,Ylw,Ybm]
@[simp] theorem ldS_c:ldS ob n b (.d (.ref d))=(d.sz=n/\(V.d d).isAgg=b):=by simp[ldS]
@[simp] theorem nilcS_p:Xvo (.ptr j p)=True:=by simp[Xvo]
@[simp] theorem nilcS_c:Xvo (.d (.ref d))=True:=by simp[Xvo]
@[simp] theorem lenSV_s:Xn4 (.d (.str s))=.d (.int .i64 s.length):=by simp only[Xn4]
@[simp] theorem lenSS_s:X9k (.d (.str s))=True:=by simp[X9k]
@[simp] theorem lenLV_l:U8 (.d (.list n xs))=.d (.int .i64 xs.length):=by simp only[U8]
@[simp] theorem lenLV_n:U8 (.d .nils)=.d (.int .i64 0):=by simp only[U8]
@[simp] theorem lenLV_o:U8 (.sl j n)=.d (.int .i64 n):=by simp only[U8]
@[simp] theorem lenLS_l:Qz ob (.d (.list n xs))=True:=by simp[Qz]
@[simp] theorem lenLS_n:Qz ob (.d .nils)=True:=by simp[Qz]
@[simp] theorem lenLS_o:Qz ob (.sl j n)=((∃E z xs,Xd ob j=some (.arr E z xs)/\n=xs.length)\/∃E z xs,Xd ob j=some (.vec E z xs)/\n=xs.length):=by simp[Qz]
@[simp] theorem slcSV_sn:Xav (some (.d (.int kd i))) none (.d (.str s))=.d (.str (s.drop i.toNat)):=by simp[Xav,Ya4]
@[simp] theorem slcSV_ns:Xav none (some (.d (.int kd i))) (.d (.str s))=.d (.str (s.take i.toNat)):=by simp[Xav,Ya4]
@[simp] theorem slcSV_ss:Xav (some (.d (.int kd i))) (some (.d (.int kd' i'))) (.d (.str s))=.d (.str ((s.take i'.toNat).drop i.toNat)):=by simp only[Xav,Ya4]
@[simp] theorem slcSS_sn:Xcj (some (.d (.int kd i))) none (.d (.str s))=(0<=i/\i<=s.length):=by simp[Xcj,Xav,Ya4]
@[simp] theorem slcSS_ns:Xcj none (some (.d (.int kd i))) (.d (.str s))=(0<=i/\i<=s.length):=by simp[Xcj,Xav,Ya4]
@[simp] theorem slcSS_ss:Xcj (some (.d (.int kd i))) (some (.d (.int kd' i'))) (.d (.str s))=((0<=i'/\i'<=s.length)/\0<=i/\i<=i'):=by simp[Xcj,Xav,Ya4]
@[simp] theorem extV_t:Yls n (.tup vs)=vs.getD n .any:=by simp only[Yls]
@[simp] theorem extS_t:Yy4 n (.tup vs)=(n<vs.length):=by simp[Yy4,Yls]
@[simp] theorem tasV_dy (d':D):Yl4 k d (.d (.iface k d'))=.tup [.d d',.d (.bool true)]:=by simp[Yl4]
@[simp] theorem tasS_d (d':D):Yzi k d (.d (.iface j d'))=True:=by by_cases h:j=k<;>simp[Yzi,Yam,Yl4,h]
@[simp] theorem consV_t:Xy4 v (.tup vs)=.tup (v::vs):=by simp only[Xy4]
@[simp] theorem callV_s (F:Fn):X6y (some F) (.tup vs)=F.val vs:=by simp only[X6y]
@[simp] theorem callP_s (F:Fn):X6x (some F) (.tup vs)=F.pre vs:=by simp only[X6x]
@[simp] theorem lookT_eq (F:Fn):Xae ((k,F)::T) k=some F:=by simp[Xae]
@[simp] theorem lookT_ne (F:Fn)(h:(j==k)=false):Xae ((j,F)::T) k=Xae T k:=by simp at h; simp[Xae,h]
@[simp] theorem isB_b:isB c (.d (.bool b))=(b==c):=by simp only[isB]
@[simp] theorem boolV_b:Xdg (.d (.bool b))=True:=by simp only[Xdg]
@[simp] theorem whenV_t:Xjf true v=v:=by simp[Xjf]
@[simp] theorem whenV_f:Xjf false v=.undef:=by simp[Xjf]
@[simp] theorem holdsB_nil:Z0 T sl ob []=true:=by simp[Z0]
@[simp] theorem holdsB_cons (l:List (E×Bool)):Z0 T sl ob ((x,b)::l)=(isB b (x.val T sl ob)&&Z0 T sl ob l):=by simp[Z0]
-- folded statements
@[simp] theorem zz (KS:Xf->Xb->Prop)(PS:V->Xf->Xb->Prop):Ub P T KS PS [] sl ob=KS sl ob:=by simp only[Ub]
@[simp] theorem zw (KS:Xf->Xb->Prop)(PS:V->Xf->Xb->Prop)(q:List (E×Bool))(l:List It2):Ub P T KS PS (.chk q x::l) sl ob=((Z0 T sl ob q=true->x.ok T sl ob)/\Ub P T KS PS l sl ob):=by simp only[Ub]
@[simp] theorem zy (KS:Xf->Xb->Prop)(PS:V->Xf->Xb->Prop)(q:List (E×Bool))(l:List It2):Ub P T KS PS (.lt k q x::l) sl ob=((Z0 T sl ob q=true->x.ok T sl ob)/\Ub P T KS PS l ((k,Xjf (Z0 T sl ob q) (x.val T sl ob))::sl) ob):=by simp only[Ub]
@[simp] theorem wa (KS:Xf->Xb->Prop)(PS:V->Xf->Xb->Prop)(dd:Option Nat)(e:I)(l:List It2):Ub P T KS PS (.op dd e::l) sl ob=e.wp P sl ob (fun v ob'=>Ub P T KS PS l (put sl dd v) ob') (fun v ob'=>PS v sl ob'):=by simp only[Ub]
@[simp] theorem zx (KS:Xf->Xb->Prop)(PS:V->Xf->Xb->Prop)(q:List (E×Bool))(dd:Option Nat)(e:I)(l:List It2):Ub P T KS PS (.gop q dd e::l) sl ob=((Z0 T sl ob q=true->e.wp P sl ob (fun v ob'=>Ub P T KS PS l (put sl dd v) ob') (fun v ob'=>PS v sl ob'))/\(Z0 T sl ob q=false->Ub P T KS PS l (put sl dd .undef) ob)):=by simp only[Ub]
@[simp] theorem keepE_nil:Uw T sl ob []=[]:=by simp only[Uw]
@[simp] theorem keepE_cons (l:List (Nat×E)):Uw T sl ob ((k,x)::l)=(k,x.val T sl ob)::Uw T sl ob l:=by simp only[Uw]
@[simp] theorem keepOk_nil:Vc T sl ob []=True:=by simp only[Vc]
@[simp] theorem keepOk_cons (l:List (Nat×E)):Vc T sl ob ((k,x)::l)=(x.ok T sl ob/\Vc T sl ob l):=by simp only[Vc]
variable (Q:Ze) (s1 s2:S2)
@[simp] theorem qm (l:List It2)(kp:List (Nat×E))(pk:List Nat):Yw P T (.rg l kp pk) Q sl ob=Ub P T (fun sl ob=>Vc T sl ob kp/\Q .normal (Uw T sl ob kp) ob) (fun v sl ob=>Q (.panic v) (Xk sl pk) ob) l sl ob:=by simp only[Yw]
@[simp] theorem qp:Yw P T (.seq s1 s2) Q sl ob=Yw P T s1 (W3 (Yw P T s2 Q) Q) sl ob:=by simp only[Yw]
@[simp] theorem qq:Yw P T .skip Q sl ob=Q .normal sl ob:=by simp only[Yw]
@[simp] theorem qj:Yw P T (.cond a s1 s2) Q sl ob=Xa9 (Yw P T s1 Q sl ob) (Yw P T s2 Q sl ob) (a.ev sl):=by simp only[Yw]
@[simp] theorem qi:Yw P T (.block n s1) Q sl ob=Yw P T s1 (Y3 n Q) sl ob:=by simp only[Yw]
@[simp] theorem Xy (kp:List Nat):Yw P T (.loop kp s1) Q sl ob=ALoop kp (Yw P T s1) Q sl ob:=by simp only[Yw]
@[simp] theorem qk:Yw P T (.exit n) Q sl ob=Q (.exit n) sl ob:=by simp only[Yw]
@[simp] theorem ql:Yw P T .ret Q sl ob=Q .ret sl ob:=by simp only[Yw]
end
@[congr] theorem rwp2_congr {P:Prg}{T:Tab}{KS:Xf->Xb->Prop}{PS:V->Xf->Xb->Prop}{l:List It2}{sl sl':Xf}{ob ob':Xb}(h:sl=sl')(h':ob=ob'):Ub P T KS PS l sl ob=Ub P T KS PS l sl' ob':=by rw[h,h']
@[congr] theorem cwp2_congr {P:Prg}{T:Tab}{s:S2}{Q:Ze}{sl sl':Xf}{ob ob':Xb}(h:sl=sl')(h':ob=ob'):Yw P T s Q sl ob=Yw P T s Q sl' ob':=by rw[h,h']
@[congr] theorem E_val_congr {T:Tab}{sl:Xf}{ob:Xb}{e:E}:E.val T sl ob e=E.val T sl ob e:=rfl
@[congr] theorem E_ok_congr {T:Tab}{sl:Xf}{ob:Xb}{e:E}:E.ok T sl ob e=E.ok T sl ob e:=rfl
end Go.Ab
namespace Go.Ab
open Go

def Xch {α β:Type}(f:α->Option β):List α->Option (List β)
 | []=>some []
 | x::r=>match f x with
  | some y=>match Xch f r with
   | some l=>some (y::l)
   | none=>none
  | none=>none
def X1n (k:Nat):Option Ob->Option D
 | some (.arr _ sz xs)=>if sz ≠ 0/\k=xs.length then some (.list sz xs) else none
 | _=>none
def refO (f:V->Option D):Option V->Option D
 | some t=>(f t).map .ref
 | none=>none
def Rcq (ob:Xb):Nat->V->Option D
 | 0,_=>none
 | _+1,.d x=>some x
 | n+1,.ptr id p=>refO (Rcq ob n) (atO ob id p)
 | _+1,.sl id k=>X1n k (Xd ob id)
 | n+1,.fn f fi ca=>match Xch (Rcq ob n) fi,Xch (Rcq ob n) ca with
  | some l,some m=>some (.fn f l m)
  | _,_=>none
 | n+1,.agg xs=>(Xch (Rcq ob n) xs).map .agg
 | n+1,.iface t x=>(Rcq ob n x).map (.iface t)
 | _+1,_=>none
def Rcr (ob:Xb)(n:Nat)(vs:List V):Option (List D):=Xch (Rcq ob n) vs

mutual
def D.flat:D->Bool
 | .agg xs=>Rcs xs
 | .list _ _ | .ref _ | .fn _ _ _ | .iface _ _=>false
 | _=>true
def Rcs:List D->Bool
 | []=>true
 | x::r=>x.flat&&Rcs r
end
def V.flat:V->Bool
 | .d x=>x.flat
 | _=>false
def V.flatR:V->Bool
 | .d x=>x.flat
 | .tup xs=>xs.all V.flat
 | _=>false

section
variable {w:World} {ρ:Env} {ob:Xb}
def X5o:Nat->Prop:=fun _=>False
theorem Yh8:Xji w (own ρ) w X5o:=fun _ _ _=>⟨rfl,fun h=>h⟩

mutual
theorem D.flat_rep {ow ow':Nat->Prop}:∀(x:D) (cs:List Value),x.flat=true->x.rep w ow cs->x.rep w ow' cs
 | .int _ _,_,_,h | .bool _,_,_,h | .str _,_,_,h | .nils,_,_,h | .nili,_,_,h | .nilp,_,_,h | .nilf,_,_,h | .nilm,_,_,h=>by simpa only[D.rep]using h
 | .agg xs,cs,hf,h=>by simp only[D.rep]at h⊢; simp only[D.flat]at hf; exact D.flats_rep xs cs hf h
 | .list _ _,_,hf,_ | .ref _,_,hf,_ | .fn _ _ _,_,hf,_ | .iface _ _,_,hf,_=>by simp[D.flat]at hf
theorem D.flats_rep {ow ow':Nat->Prop}:∀(xs:List D) (cs:List Value),Rcs xs=true->Rac w ow xs cs->Rac w ow' xs cs
 | [],_,_,h=>by simpa only[Rac]using h
 | x::r,cs,hf,h=>by
  simp only[Rac]at h⊢;simp only[Rcs,Uai]at hf;obtain⟨c1,c2,e,h1,h2⟩:=h;exact⟨c1,c2,e,D.flat_rep x c1 hf.1 h1,D.flats_rep r c2 hf.2 h2⟩
end
theorem V.flat_rep {ρ':Env}{v:V}{u:Value}(hf:v.flat=true)(h:v.rep w ρ u):v.rep w ρ' u:=by
 cases v with
 | d x=>
  simp only[V.flat]at hf;rw[Xao]at h⊢;rcases h with⟨a,ds,e,r⟩ | ⟨a,r⟩
  ·exact .inl ⟨a,ds,e,D.flat_rep x ds hf r⟩
  ·exact .inr ⟨a,D.flat_rep x _ hf r⟩
 | _=>simp[V.flat]at hf
theorem V.flats_rep {ρ':Env}:∀{vs:List V} {us:List Value},vs.all V.flat=true->V.reps w ρ vs us->V.reps w ρ' vs us
 | [],_,_,h=>by simpa only[V.reps]using h
 | v::r,us,hf,h=>by
  simp only[List.all_cons,Uai]at hf;simp only[V.reps]at h⊢;obtain⟨u,us',e,h1,h2⟩:=h;exact⟨u,us',e,V.flat_rep (ρ:=ρ) (u:=u) hf.1 h1,V.flats_rep hf.2 h2⟩
theorem Rct {ρ':Env}{v:V}{u:Value}(hf:v.flatR=true)(h:v.rep w ρ u):v.rep w ρ' u:=by
 cases v with
 | d x=>exact V.flat_rep (v:=.d x) hf h
 | tup xs=>
  rw[We]at h⊢;obtain⟨vs,e,h⟩:=h;exact⟨vs,e,V.flats_rep hf h⟩
 | _=>simp[V.flatR]at hf

theorem Xmm (hO:OM w ρ ob):∀(n:Nat) (v:V) (cs:List Value) (y:D),v.repC w ρ cs->Rcq ob n v=some y->y.rep w X5o cs/\y.isAgg=v.isAgg:=by
 intro n;induction n with
 | zero=>intro v cs y _ h; simp[Rcq]at h
 | succ n ih=>
  have ihT:∀(v:V) (u:Value) (y:D),v.rep w ρ u->Rcq ob n v=some y->(y.isAgg=true/\∃ds,u=.agg ds.toArray/\y.rep w X5o ds)\/(y.isAgg=false/\y.rep w X5o [u]):=by
   intro v u y h e;rcases h with h | ⟨a,ds,q,r⟩ | ⟨a,r⟩
   ·subst h; cases n<;>simp[Rcq]at e
   ·obtain⟨h1,h2⟩:=ih v ds y r e; exact .inl ⟨h2.trans a,ds,q,h1⟩
   ·obtain⟨h1,h2⟩:=ih v _ y r e; exact .inr ⟨h2.trans a,h1⟩
  have seqT:∀(vs:List V) (us:List Value) (l:List D),V.reps w ρ vs us->Xch (Rcq ob n) vs=some l->Rab w X5o l us:=by
   intro vs;induction vs with
   | nil=>intro us l h e; simp only[Xch]at e; cases e; simpa only[V.reps,Rab]using h
   | cons v r ihr=>
    intro us l h e;simp only[V.reps]at h;obtain⟨u,us',rfl,h1,h2⟩:=h;simp only[Xch]at e;split at e
    ·rename_i y hy;split at e
     ·rename_i l' hl; cases e;simp only[Rab];exact⟨u,us',rfl,ihT v u y h1 hy,ihr us' l' h2 hl⟩
     ·cases e
    ·cases e
  have Yxz:∀(vs:List V) (cs:List Value) (l:List D),Rap w ρ vs cs->Xch (Rcq ob n) vs=some l->Rac w X5o l cs:=by
   intro vs;induction vs with
   | nil=>intro us l h e; simp only[Xch]at e; cases e; simpa only[Rap,Rac]using h
   | cons v r ihr=>
    intro cs l h e;simp only[Rap]at h;obtain⟨c1,c2,rfl,h1,h2⟩:=h;simp only[Xch]at e;split at e
    ·rename_i y hy;split at e
     ·rename_i l' hl; cases e;simp only[Rac];exact⟨c1,c2,rfl,(ih v c1 y h1 hy).1,ihr c2 l' h2 hl⟩
     ·cases e
    ·cases e
  intro v cs y h e;cases v with
  | d x=>
   simp only[Rcq]at e; cases e;simp only[V.repC]at h;exact⟨Rad Yh8 _ _ h,by cases y<;>rfl⟩
  | ptr id p=>
   simp only[Rcq]at e;cases hat:atO ob id p with
   | none=>rw[hat]at e; simp only[refO]at e; cases e
   | some t=>
    simp only[hat,refO,Ubr]at e;obtain⟨z,hz,rfl⟩:=e;obtain⟨t0,b,cs0,E,g1,g2,g3,g4,g5⟩:=Xdh hO hat;have hr:(V.ptr id p).rep w ρ (cs.headD undef):=by
     have hl:=Ra0 _ _ h;simp[V.shape,Sh.size]at hl;obtain⟨c,rfl⟩:=Ua0.1 hl;exact .inr (.inr ⟨rfl,by simpa using h⟩)
    obtain⟨b',sh,hρ,hu⟩:=Zb hO g1 hr;rw[g3]at hρ; cases hρ;have hl:=Ra0 _ _ h;simp[V.shape,Sh.size]at hl;obtain⟨c,rfl⟩:=Ua0.1 hl;simp only[List.headD_cons]at hu;subst hu;obtain⟨c1,c2,c3,e1,e2,h5⟩:=Ra8 p t0 t cs0 g5 g2;refine⟨?_,rfl⟩;simp only[D.rep];refine⟨_,c2,rfl,rfl,⟨fun _=>⟨rfl,fun h=>h,Xj g4⟩,fun i hi=>?_⟩,(ih t c2 z h5 hz).1⟩;rw[<-e2];simp[World.cell?,g4,e1,Ubc,hi]
  | sl id k=>
   simp only[Rcq]at e;unfold X1n at e;split at e
   ·rename_i E sz xs hl;split at e
    ·rename_i hc; cases e;obtain⟨hsz,rfl⟩:=hc;simp only[V.repC]at h;obtain⟨o,u,h1,rfl,h2⟩:=h;have:=J3 hO hl hsz (u:=u) (by rw[Yl]; exact⟨o,h1,h2⟩);rw[Wj (by simp[V.isAgg]) (by simp)]at this;simp only[V.repC]at this;exact⟨Rad (ow':=X5o) (fun _ _ _=>⟨rfl,fun h=>h⟩) _ _ this,rfl⟩
    ·cases e
   ·cases e
  | fn f fi ca=>
   simp only[Rcq]at e;split at e
   ·rename_i l m hl hm;cases e;simp only[V.repC]at h;obtain⟨fs,gs,e1,h1,h2⟩:=h;exact⟨by simp only[D.rep]; exact⟨fs,gs,e1,seqT fi fs l h1 hl,seqT ca gs m h2 hm⟩,rfl⟩
   ·cases e
  | agg xs=>
   simp only[Rcq,Ubr]at e;obtain⟨l,hl,rfl⟩:=e;simp only[V.repC]at h;exact⟨by simp only[D.rep]; exact Yxz xs cs l h hl,rfl⟩
  | iface t x=>
   simp only[Rcq,Ubr]at e;obtain⟨z,hz,rfl⟩:=e;simp only[V.repC]at h;obtain⟨u,e1,h1⟩:=h;exact⟨by simp only[D.rep]; exact⟨u,e1,ihT x u z h1 hz⟩,rfl⟩
  | _=>simp[Rcq]at e

theorem Xgh (hO:OM w ρ ob){n:Nat}:∀(vs:List V) (us:List Value) (l:List D),V.reps w ρ vs us->Rcr ob n vs=some l->Rab w X5o l us
 | [],us,l,h,e=>by simp only[Rcr,Xch]at e; cases e; simpa only[V.reps,Rab]using h
 | v::r,us,l,h,e=>by
  simp only[V.reps]at h;obtain⟨u,us',rfl,h1,h2⟩:=h;simp only[Rcr,Xch]at e;split at e
  ·rename_i y hy;split at e
   ·rename_i l' hl; cases e;simp only[Rab];refine⟨u,us',rfl,?_,Xgh hO r us' l' h2 hl⟩;rcases h1 with h | ⟨a,ds,q,r⟩ | ⟨a,r⟩
    ·subst h; cases n<;>simp[Rcq]at hy
    ·obtain⟨h1,h2⟩:=Xmm hO n v ds y r hy; exact .inl ⟨h2.trans a,ds,q,h1⟩
    ·obtain⟨h1,h2⟩:=Xmm hO n v _ y r hy; exact .inr ⟨h2.trans a,h1⟩
   ·cases e
  ·cases e

theorem Rcu {P:Prg}{f n:Nat}{vs:List V}{ds:List D}{K:V->Prop}(hd:Rcr ob n vs=some ds)(h:PCall P f (ds.map .d) [] fun v=>v.flatR=true/\K v):PCall P f vs ob K:=by
 refine⟨fun w ρ args hO hg hr=>?_⟩;let ρ0:Env:=⟨fun _=>none,X5o,ρ.gl⟩
 have hno:∀b,¬own ρ0 b:=fun b h=>h.elim (fun ⟨_,_,h,_⟩=>by cases h) (fun h=>h);have hO0:OM w ρ0 []:=⟨fun j x hx=>(by simp[Xd]at hx),fun j o hj=>(by cases hj),fun i j o p b hi=>(by cases hi),fun b hb=>hb.elim,fun b o hb=>⟨(hO.glb b o hb).1,hno b⟩,fun b hb=>absurd (.inl hb) (hno b),trivial⟩
 have hr0:V.reps w ρ0 (ds.map .d) args:=by
  rw[Xb6];have:=Xgh hO vs args ds hr hd;exact Rae (ow:=X5o) (fun _ _ _=>⟨rfl,hno _⟩) _ _ this
 refine (h.run w ρ0 args hO0 hg hr0).mono fun e w' ⟨v,u,⟨k1,k2⟩,he,r,x⟩=>⟨v,u,k2,he,Rct k1 r,x⟩
theorem PCall.data {P:Prg}{f:Nat}{vs:List V}{ds:List D}{K:V->Prop}(hd:vs=ds.map .d)(h:PCall P f (ds.map .d) ob K):PCall P f vs ob K:=by subst hd; exact h
end

section
variable (ob:Xb) (n k f:Nat) (x:D) (v:V) (vs:List V) (p:List Nat)
@[simp] theorem toD_d:Rcq ob (n+1) (.d x)=some x:=by simp only[Rcq]
@[simp] theorem toD_ptr:Rcq ob (n+1) (.ptr k p)=refO (Rcq ob n) (atO ob k p):=by simp only[Rcq]
@[simp] theorem toD_sl (m:Nat):Rcq ob (n+1) (.sl k m)=X1n m (Xd ob k):=by simp only[Rcq]
@[simp] theorem lentO_s (m E sz:Nat)(xs:List D):X1n m (some (.arr E sz xs))=if sz ≠ 0/\m=xs.length then some (.list sz xs) else none:=by simp only[X1n]
@[simp] theorem refO_s (g:V->Option D):refO g (some v)=(g v).map .ref:=by simp only[refO]
def fnO (f:Nat):Option (List D)->Option (List D)->Option D
 | some l,some m=>some (.fn f l m)
 | _,_=>none
@[simp] theorem toD_fn (l l':List V):Rcq ob (n+1) (.fn f l l')=fnO f (Xch (Rcq ob n) l) (Xch (Rcq ob n) l'):=by
 simp only[Rcq]; cases Xch (Rcq ob n) l<;>cases Xch (Rcq ob n) l'<;>rfl
@[simp] theorem fnO_ss (l l':List D):fnO f (some l) (some l')=some (.fn f l l'):=by simp only[fnO]
@[simp] theorem toD_agg:Rcq ob (n+1) (.agg vs)=(Xch (Rcq ob n) vs).map .agg:=by simp only[Rcq]
@[simp] theorem toDs_eq:Rcr ob n vs=Xch (Rcq ob n) vs:=by simp only[Rcr]
@[simp] theorem seqO_nil {α β:Type}(g:α->Option β):Xch g []=some []:=by simp only[Xch]
def Yxz {β:Type}:Option β->Option (List β)->Option (List β)
 | some y,some l=>some (y::l)
 | _,_=>none
@[simp] theorem seqO_cons {α β:Type}(g:α->Option β)(a:α)(l:List α):Xch g (a::l)=Yxz (g a) (Xch g l):=by
 simp only[Xch]; cases g a<;>cases Xch g l<;>rfl
@[simp] theorem seqC_ss {β:Type}(y:β)(l:List β):Yxz (some y) (some l)=some (y::l):=by simp only[Yxz]
end
attribute [simp] D.flat Rcs V.flat V.flatR
end Go.Ab
namespace Go.Ab
open Go


structure DCall (P:Prg)(f:Nat)(vs:List V)(ob:Xb)(rv:Option V)(K:Xb->Prop):Prop where
 ret:rv=none->∀w ρ args,OM w ρ ob->ρ.gl=P.g->V.reps w ρ vs args->CallsD P.p f args.toArray .returning w (fun e u w'=>(∃v,e=.returned v)/\u=.returning/\∃ob' ρ',K ob'/\OM w' ρ' ob'/\Tr w ρ w' ρ')
 pan:∀v,rv=some v->∀w ρ args x,OM w ρ ob->ρ.gl=P.g->V.reps w ρ vs args->v.rep w ρ x->(∃t y,x=.iface t y)->CallsD P.p f args.toArray (.panicking [{ v:=x,recovered:=false }]) w
  (fun e u w'=>(∃v,e=.returned v)/\u=.panicking [{ v:=x,recovered:=true }]/\∃ob' ρ',K ob'/\OM w' ρ' ob'/\Tr w ρ w' ρ')

def I.plain:I->Bool
 | .c _ | .box _ _ | .alloc _ _ | .bls _ _ _ | .blo _ _ _ _ | .blv _ _ _ _ | .st _ _ _=>true
 | _=>false
def It.plain:It->Bool
 | .op _ i=>i.plain
 | .gop _ _ _ i=>i.plain
theorem X5f {P:Program}{o:Oper}{a:Act}{w:World}{next:Act->World->Prop}{Q:Exit->Act->World->Prop}(h:wpA P o a w next Q)(hn:∀l f t x y w',(execOp a.eval o).run P w ≠ .ok (.round l f t x y) w'):o.wp P a w next Q:=by
 unfold wpA at h;unfold Oper.wp;generalize (execOp a.eval o).run P w=r at h hn;cases r with
 | ok n w'=>cases n<;>first | exact h | exact (h:False).elim | exact absurd rfl (hn _ _ _ _ _ _)
 | halt x w'=>cases x<;>exact h
theorem Jq {P:Program}{w w':World}{s:Sem Value}{l f:Nat}{t:Array Value}{x y:Code}:(do let v <-s; pure (Next.value v):Sem Next).run P w ≠ .ok (.round l f t x y) w':=by
 intro h;rw[Sem.run_bind]at h;cases hs:s.run P w with
 | ok v w2=>simp[hs]at h
 | halt q w2=>simp[hs]at h
theorem Xmj {P:Program}{w w':World}{s:Sem Unit}{l f:Nat}{t:Array Value}{x y:Code}:(do s; pure Next.skip:Sem Next).run P w ≠ .ok (.round l f t x y) w':=by
 intro h;rw[Sem.run_bind]at h;cases hs:s.run P w with
 | ok v w2=>simp[hs]at h
 | halt q w2=>simp[hs]at h
theorem Xam {P:Prg}{w:World}{ρ:Env}{sl:Xf}{ob:Xb}{a:Act}{K Pn:V->Xb->Prop}{o:Oper}{i:I}(hs:SM w ρ sl a)(hO:OM w ρ ob)(hp:i.plain=true)(hc:i.chk P.p o.op=true)(h:i.wp P sl ob K Pn)(l f:Nat)(t:Array Value)(x y:Code)(w':World) :
  (execOp a.eval o).run P.p w ≠ .ok (.round l f t x y) w':=by
 cases i<;>simp only[I.plain,Uah]at hp
 case c cc=>
  obtain⟨v,z,_,_,hrun⟩:=C.sound hs hO hc (by simpa only[I.wp]using h);rw[hrun o rfl w (fun _=>Ext.refl w)];simp
 case box=>
  obtain⟨id,op,b1,b2,b3,b4⟩:=o;cases op<;>simp only[I.chk,Uah]at hc;exact Jq
 case alloc=>
  obtain⟨id,op,b1,b2,b3,b4⟩:=o;cases op<;>simp only[I.chk,Uah]at hc;exact Jq
 case st=>
  obtain⟨id,op,b1,b2,b3,b4⟩:=o;cases op<;>simp only[I.chk,Uah]at hc;exact Xmj
 all_goals
  obtain⟨id,op,b1,b2,b3,b4⟩:=o;cases op<;>simp only[I.chk,Xfi,Uah]at hc;exact Jq

def Yxv:Op->Bool
 | .call { callee:=.builtin .recover,.. }=>true
 | _=>false
def Xkg (P:Program)(f n k:Nat)(its:List It)(s:S):Bool:=match P.funcs[f]? with
 | some fn=>match fn.body with
  | some (.seq (.region _ ops false) code)=>match ops.toList with
   | o::os=>decide (n<=fn.ntmps)&&decide (k<fn.ntmps)&&Yxv o.op&&o.dst==some k&&o.guard.isNone&&Wx P fn.ntmps ops os its&&its.all It.plain&&S.chk P fn.ntmps code s&&s.noR&&fn.results.isEmpty
   | []=>false
  | _=>false
 | none=>false

def dQ (n:Nat)(K:Xb->Prop):Ze
 | .normal,_,ob=>X8 n K [] ob
 | .ret,_,ob=>X8 n K [] ob
 | .panic _,_,_=>False
 | .exit _,_,_=>False

theorem Ji {P:Prg}{c:Ctx}(hg:P.g=c.g){xo:Nat->Prop}{ops:Array Oper}{cs:List Frame}{Q:Exit->Act->List Frame->World->Prop}{K:Xf->Xb->Prop}
  (hK:∀sl ob ρ a w,K sl ob->Mod c xo ρ sl ob a w->Q .normal a cs w) :
  ∀(l:List Oper) (j:Nat) (its:List It) (sl:Xf) (ob:Xb) (ρ:Env) (a:Act) (w:World),ops.toList.drop j=l->Wx P.p c.N ops l its=true->its.all It.plain=true->rwp P K (fun _ _ _=>False) its sl ob->Mod c xo ρ sl ob a w->wpOpsS P.p ops Q (List.range' j l.length) a cs w
 | [],j,[],sl,ob,ρ,a,w,_,_,_,h,m=>by simp only[List.length_nil,List.range'_zero,wpOpsS]; exact hK sl ob ρ a w h m
 | o::r,j,i::s,sl,ob,ρ,a,w,hd,hc,hp,h,m=>by
  simp only[List.all_cons,Uai]at hp;obtain⟨hp1,hp⟩:=hp;simp only[Wx,Uai]at hc;obtain⟨h1,h2⟩:=hc;have hj:ops[j]? = some o:=by
   have:=Ua4 (·[0]?) hd;simpa using this
  have hd':ops.toList.drop (j+1)=r:=by
   have:=Ua4 (List.drop 1) hd;simpa[List.drop_drop]using this
  have step:∀(d:Option Nat) (x:I) (sl:Xf),x.plain=true->SM w ρ sl a->Xbb c.N o.dst d=true->x.chk P.p o.op=true->x.wp P sl ob (fun v ob'=>rwp P K (fun _ _ _=>False) s (put sl d v) ob') (fun v ob'=>False)->
    o.wp P.p a w (fun a' w'=>wpOpsS P.p ops Q (List.range' (j+1) r.length) a' cs w') (fun e a' w'=>Q e a' cs w'):=by
   intro d x sl hpx hs hd hx hw;refine X5f ?_ (Xam hs m.om hpx hx hw);refine I.sound (m.gl.trans hg.symm) hs m.om hx hw o rfl _ _ (fun v y ob' w' ρ' hk hr ho t=>?_) (fun u y ob' w' ρ' hk hr ho t=>hk.elim);obtain⟨g1,g2,g3⟩:=Xp hd m.size (hs.tr t) hr;exact Ji hg hK r (j+1) s _ ob' ρ' _ w' hd' h2 hp hk ⟨m.base.tr t,ho,g1,g2,(m.df.tr t).put g3,t.xo.trans m.xo,t.gl.trans m.gl⟩
  have fin:o.wp P.p a w (fun a' w'=>wpOpsS P.p ops Q (List.range' (j+1) r.length) a' cs w') (fun e a' w'=>Q e a' cs w')->Region.wanted o (yielded ops a.tmps)=true->wpOpsS P.p ops Q (List.range' j (r.length+1)) a cs w:=by
   intro hw hwant;rw[Ubs];simp only[wpOpsS,hj,hwant,Ubb];unfold Oper.wp at hw;split
   ·rename_i w' hrun;rw[hrun]at hw;exact hw.elim
   ·exact hw
  simp only[List.length_cons];cases i with
  | op d x=>
   simp only[It.chk,Uai,Ucf]at h1;simp only[rwp]at h;exact fin (step d x sl hp1 m.sm h1.1.1 h1.2 h) (by simp[Region.wanted,h1.1.2])
  | gop g want d x=>
   simp only[It.chk,Uai]at h1;simp only[rwp]at h;rcases Wb (ops:=ops) m.sm h1.1.2 h with⟨hw,sl',hs,h⟩ | ⟨hw,sl',hs,h⟩
   ·exact fin (step d x sl' hp1 hs h1.1.1 h1.2 h) hw
   ·rw[Ubs];simp only[wpOpsS,hj,hw,Uah,Uay];obtain⟨g1,g2,g3⟩:=Xp h1.1.1 m.size hs (Zc.2 rfl);exact Ji hg hK r (j+1) s _ ob ρ _ w hd' h2 hp h ⟨m.base,m.om,g1,g2,m.df.put g3,m.xo,m.gl⟩
 | [],_,_::_,_,_,_,_,_,_,hc,_,_,_=>by simp[Wx]at hc
 | _::_,_,[],_,_,_,_,_,_,hc,_,_,_=>by simp[Wx]at hc

theorem Xfm {P:Prg}(hm:P.p.follows .mixedOrders=true){f k:Nat}{its:List It}{keep:List Nat}{s:S}{vs:List V}{ob:Xb}{rv:Option V}{K:Xb->Prop}(hc:Xkg P.p f vs.length k its s=true)
  (h:rwp P (fun sl ob'=>cwp P s (dQ (Xa ob) K) (Xk sl keep) ob') (fun _ _ _=>False) its ((k,rv.getD (.d .nili))::Ua 0 vs) ob):DCall P f vs ob rv K:=by
 unfold Xkg at hc;split at hc
 ·rename_i fn hf;split at hc
  ·rename_i id ops code hb;split at hc
   ·rename_i o os hops;simp only[Uai,Ubp,Ucf,Ubn]at hc;obtain⟨⟨⟨⟨⟨⟨⟨⟨⟨hn,hk⟩,hrec⟩,hdst⟩,hgd⟩,hits⟩,hpl⟩,hs⟩,hnr⟩,hres⟩:=hc;have hemp:fn.results=#[]:=by simpa using hres
    have hres':∀(t:Array Value) (w:World),(results fn t).run P.p w=.ok (.tuple #[]) w:=fun t w=>by simp[results,hemp]
    have hop:∃args ts,o.op=.call { callee:=.builtin .recover,args:=args,argTypes:=ts }:=by
     revert hrec; generalize o.op=op; intro hrec;unfold Yxv at hrec;split at hrec
     ·exact⟨_,_,rfl⟩
     ·simp at hrec
    obtain⟨rargs,rts,hop⟩:=hop;have hrun:∀(a:Act) (w:World),(execOp a.eval o).run P.p w=.ok .recover w:=fun a w=>by
     simp[execOp,hop,resolve,invoke,builtin]
    have ho0:ops[0]? = some o:=by
     have:=Ua4 (·[0]?) hops; simpa using this
    have hsize:ops.size=os.length+1:=by
     have:=Ua4 List.length hops; simpa using this
    have hdrop:ops.toList.drop 1=os:=by rw[hops]; rfl
    have key:∀w ρ args,OM w ρ ob->ρ.gl=P.g->V.reps w ρ vs args->∀(u u':FrameMode) (x:Value),(rv.getD (.d .nili)).rep w ρ x->
      (∀(c0:Frame) (cs:List Frame),c0.mode=u->(recoverD (c0::cs)=some (x,{ c0 with mode:=u' }::cs))\/(recoverD (c0::cs)=none/\x=.nilIface/\u'=u))->
      CallsD P.p f args.toArray u w (fun e v w'=>(∃v,e=.returned v)/\v=u'/\∃ob' ρ',K ob'/\OM w' ρ' ob'/\Tr w ρ w' ρ'):=by
     intro w ρ args hO hg hr u u' x hx hrecD;refine callsD_of_wpS hf hb fun c0 cs hc0=>?_;let c:Ctx:=⟨w,Xcf ρ,fn.ntmps,[],P.g,ρ.m,[],false⟩
     have hlen:args.length=vs.length:=by simpa using Yv hr
     have m:Mod c ρ.xo ρ (Ua 0 vs) ob { tmps:=args.toArray++Array.replicate (fn.ntmps-args.toArray.size) undef,defers:=[] } w:=by
      refine⟨⟨Uak _,fun _ _ _=>rfl,fun b h=>.inr h,rfl,rfl,rfl,fun id o h=>⟨o,h,.refl o⟩,(fun p hp=>by cases hp),Uak _⟩,hO,?_,?_,Dfr.nil,rfl,hg⟩
      ·refine Uc hr 0 _ (fun i hi=>?_);simp[Ub8,hi]
      ·simp[c]; omega
     have hout:∀(e:Exit) (a':Act) (w':World) cs',cs'={ c0 with mode:=u' }::cs->lift c ρ.xo (dQ (Xa ob) K) e a' w'->bodyPostS P.p fn c0 cs (fun e v w'=>(∃v,e=.returned v)/\v=u'/\∃ob' ρ',K ob'/\OM w' ρ' ob'/\Tr w ρ w' ρ') e a' cs' w':=by
      rintro e a' w' cs' rfl ⟨ae,sl',ob',ρ',hq,he,m'⟩;have old:∀kp id o,ρ.m id=some o->Xc (Xa ob) kp id=false:=fun kp id o h0=>by
       obtain⟨x,hx⟩:=hO.dom id o h0;have hlt:¬Xa ob<=id:=fun hle=>by rw[X1 _ _ hle]at hx; cases hx
       simp[Xc,hlt]
      have tr:∀kp,Tr w ρ w' (ρ'.del (Xc (Xa ob) kp)):=fun kp=>by
       have b2:=m'.base;refine⟨b2.size,fun b h1 h2=>b2.keep b h2 h1,fun b h1=>(b2.owns b (Wi h1)).symm,?_,?_,fun id o h1=>?_,b2.tape,b2.os,b2.out,b2.drawn⟩
       ·show ρ'.xo=ρ.xo; rw[m'.xo]
       ·show ρ'.gl=ρ.gl; rw[m'.gl,hg]
       ·obtain⟨o',h3,h4⟩:=b2.same id o h1;exact⟨o',by simp only[Env.del,old kp id o h1]; exact h3,h4⟩
      have hfin:X8 (Xa ob) K [] ob'->a'.defers=[]/\∃u'',{ c0 with mode:=u' }::cs={ c0 with mode:=u'' }::cs/\∃v,(results fn a'.tmps).run P.p w'=.ok v w'/\((∃v',Ending.returned v=.returned v')/\u''=u'/\∃ob' ρ',K ob'/\OM w' ρ' ob'/\Tr w ρ w' ρ'):=by
       rintro⟨kp,_,k2,k3⟩;exact⟨m'.df.eq rfl,u',rfl,_,hres' _ _,⟨_,rfl⟩,rfl,_,_,k3,m'.om.del k2,tr kp⟩
      cases ae with
      | normal=>cases e<;>simp only[exM]at he; exact hfin hq
      | ret=>cases e<;>simp only[exM]at he; exact hfin hq
      | exit n=>exact hq.elim
      | panic v=>exact hq.elim
     refine wpS_seq (wpS_region ?_);have hrange:List.range ops.size=0::List.range' 1 os.length:=by
      rw[List.range_eq_range',hsize,Ubs]
     rw[hrange];have hwant:∀a:Act,Region.wanted o (yielded ops a.tmps)=true:=fun a=>by simp[Region.wanted,hgd]
     have hput:∀cs':List Frame,cs'={ c0 with mode:=u' }::cs->wpOpsS P.p ops (Exit.thenS (code.wpS P.p (bodyPostS P.p fn c0 cs (fun e v w'=>(∃v,e=.returned v)/\v=u'/\∃ob' ρ',K ob'/\OM w' ρ' ob'/\Tr w ρ w' ρ'))) (bodyPostS P.p fn c0 cs (fun e v w'=>(∃v,e=.returned v)/\v=u'/\∃ob' ρ',K ob'/\OM w' ρ' ob'/\Tr w ρ w' ρ'))) (List.range' 1 os.length)
       (({ tmps:=args.toArray++Array.replicate (fn.ntmps-args.toArray.size) undef,defers:=[] }:Act).put o.dst x) cs' w:=by
      intro cs' hcs';obtain⟨g1,g2,g3⟩:=Xp (d:=some k) (o:=o.dst) (v:=x) (N:=fn.ntmps) (by simp[Xbb,hdst,hk]) m.size m.sm hx;refine Ji (c:=c) (xo:=ρ.xo) rfl (fun sl ob1 ρ1 a1 w1 hk1 m1=>?_) os 1 its _ ob ρ _ w hdrop hits hpl h ⟨m.base,m.om,g1,g2,m.df.put g3,m.xo,m.gl⟩;simp only[Exit.thenS];exact wpS_of_wp (wp_mono (wpIn_wide.1 (Yi (rd:=none) hm rfl code s _ _ _ ρ1 a1 w1 hs (.inl hnr) hk1 ⟨m1.base,m1.om,m1.sm.keep keep,m1.size,m1.df,m1.xo,m1.gl⟩)) (fun e a' w' hl=>hout e a' w' cs' hcs' hl))
     have hwant0:Region.wanted o (yielded ops (args.toArray++Array.replicate (fn.ntmps-args.toArray.size) undef))=true:=hwant { tmps:=args.toArray++Array.replicate (fn.ntmps-args.toArray.size) undef,defers:=[] };simp only[wpOpsS,ho0,hwant0,Ubb,hrun];rcases hrecD c0 cs hc0 with hr1 | ⟨hr1,hx1,hu1⟩
     ·rw[hr1]; exact hput _ rfl
     ·rw[hr1];subst hx1;refine hput _ ?_;subst hu1; cases c0; simp only at hc0; subst hc0; rfl
    refine⟨fun he w ρ args hO hg hr=>?_,fun v he w ρ args x hO hg hr hx hix=>?_⟩
    ·subst he;exact key w ρ args hO hg hr .returning .returning .nilIface (Xc0.2 rfl) (fun c0 cs hc0=>.inr ⟨by simp[recoverD,hc0],rfl,rfl⟩)
    ·subst he;exact key w ρ args hO hg hr _ _ x hx (fun c0 cs hc0=>.inl (by simp[recoverD,hc0]))
   ·simp at hc
  ·simp at hc
 ·simp at hc


inductive FSt where
 | pre (s:S) (r:FSt)
 | dfr (its:List It) (keep:List Nat) (k:Nat) (s:S)

def Ym1 (k:Nat):Op->Bool
 | .defer { callee:=.value (.tmp j),args:=args,.. }=>j==k&&args.isEmpty
 | _=>false
def FSt.chk (P:Program)(N:Nat):Code->FSt->Bool
 | .seq a b,.pre s r=>S.chk P N a s&&s.noR&&FSt.chk P N b r
 | .seq (.region _ ops false) b,.dfr its _ k s=>match ops.toList.reverse with
  | o::os=>Ym1 k o.op&&o.dst.isNone&&o.guard.isNone&&Wx P N ops os.reverse its&&its.all It.plain&&S.chk P N b s&&s.noR
  | []=>false
 | _,_=>false

def Xg3 (P:Prg)(g:Nat)(cl:List V)(rs:List RV)(K:V->Prop):Ze
 | .normal,sl,ob=>DCall P g cl ob none fun ob'=>Vg sl ob' rs fun vs=>Vj (fun l _=>K (Ws (l.map .d))) (Rbv ob' vs)
 | .ret,sl,ob=>DCall P g cl ob none fun ob'=>Vg sl ob' rs fun vs=>Vj (fun l _=>K (Ws (l.map .d))) (Rbv ob' vs)
 | .panic v,sl,ob=>(∃t y,v=.iface t y\/∃z,v=.d (.iface t z))/\DCall P g cl ob (some v) fun ob'=>Vg sl ob' rs fun vs=>Vj (fun l _=>K (Ws (l.map .d))) (Rbv ob' vs)
 | .exit _,_,_=>False
def Ym0 (P:Prg)(s:S)(rs:List RV)(K:V->Prop)(sl:Xf)(ob:Xb):V->Prop
 | .fn g fi ca=>Xm P.p g=true/\cwp P s (Xg3 P g (fi++ca) rs K) sl ob
 | _=>False
def fwp (P:Prg)(rs:List RV)(K:V->Prop):FSt->Xf->Xb->Prop
 | .pre s r,sl,ob=>cwp P s (W3 (fwp P rs K r) (Ux rs K)) sl ob
 | .dfr its keep k s,sl,ob=>rwp P (fun sl ob=>Ym0 P s rs K (Xk sl keep) ob (look (Xk sl keep) k)) (fun _ _ _=>False) its sl ob

def Xkv (P:Program)(f n:Nat)(s:FSt)(rs:List RV):Bool:=match P.funcs[f]? with
 | some fn=>match fn.body with
  | some code=>decide (n<=fn.ntmps)&&FSt.chk P fn.ntmps code s&&Q5 P fn.results.toList rs
  | none=>false
 | none=>false

theorem Xd1 {P:Prg}{c:Ctx}(hg:P.g=c.g){xo:Nat->Prop}{ops:Array Oper}{Q:Exit->Act->World->Prop}{K:Xf->Xb->Prop}{l':List Oper}
  (hK:∀sl ob ρ a w,K sl ob->Mod c xo ρ sl ob a w->wpList P.p ops Q l' a w) :
  ∀(l:List Oper) (its:List It) (sl:Xf) (ob:Xb) (ρ:Env) (a:Act) (w:World),Wx P.p c.N ops l its=true->its.all It.plain=true->rwp P K (fun _ _ _=>False) its sl ob->Mod c xo ρ sl ob a w->wpList P.p ops Q (l++l') a w
 | [],[],sl,ob,ρ,a,w,_,_,h,m=>by simp only[List.nil_append]; exact hK sl ob ρ a w h m
 | o::r,i::s,sl,ob,ρ,a,w,hc,hp,h,m=>by
  simp only[List.all_cons,Uai]at hp;obtain⟨hp1,hp⟩:=hp;simp only[Wx,Uai]at hc;obtain⟨h1,h2⟩:=hc;have step:∀(d:Option Nat) (x:I) (sl:Xf),x.plain=true->SM w ρ sl a->Xbb c.N o.dst d=true->x.chk P.p o.op=true->x.wp P sl ob (fun v ob'=>rwp P K (fun _ _ _=>False) s (put sl d v) ob') (fun v ob'=>False)->o.wp P.p a w (wpList P.p ops Q (r++l')) Q:=by
   intro d x sl hpx hs hd hx hw;refine X5f ?_ (Xam hs m.om hpx hx hw);refine I.sound (m.gl.trans hg.symm) hs m.om hx hw o rfl _ _ (fun v y ob' w' ρ' hk hr ho t=>?_) (fun u y ob' w' ρ' hk hr ho t=>hk.elim);obtain⟨g1,g2,g3⟩:=Xp hd m.size (hs.tr t) hr;exact Xd1 hg hK r s _ ob' ρ' _ w' h2 hp hk ⟨m.base.tr t,ho,g1,g2,(m.df.tr t).put g3,t.xo.trans m.xo,t.gl.trans m.gl⟩
  simp only[List.cons_append];cases i with
  | op d x=>
   simp only[It.chk,Uai,Ucf]at h1;simp only[rwp]at h;simp only[wpList,Region.wanted,h1.1.2,Ubb];exact .inl (step d x sl hp1 m.sm h1.1.1 h1.2 h)
  | gop g want d x=>
   simp only[It.chk,Uai]at h1;simp only[rwp]at h;simp only[wpList];rcases Wb (ops:=ops) m.sm h1.1.2 h with⟨hw,sl',hs,h⟩ | ⟨hw,sl',hs,h⟩
   ·rw[Uby hw];exact .inl (step d x sl' hp1 hs h1.1.1 h1.2 h)
   ·rw[hw];simp only[Uah,Uay];obtain⟨g1,g2,g3⟩:=Xp h1.1.1 m.size hs (Zc.2 rfl);exact Xd1 hg hK r s _ ob ρ _ w h2 hp h ⟨m.base,m.om,g1,g2,m.df.put g3,m.xo,m.gl⟩
 | [],_::_,_,_,_,_,_,hc,_,_,_=>by simp[Wx]at hc
 | _::_,[],_,_,_,_,_,hc,_,_,_=>by simp[Wx]at hc

section
variable {P:Prg} {w0:World} {ρ0:Env}
def X93 (w0:World)(ρ0:Env)(K:V->Prop):Ending->World->Prop:=fun e w'=>∃v u,K v/\e=.returned u/\v.rep w' ρ0 u/\Ext w0 w'
theorem Xsq {c:Ctx}(h0:c.w0=w0)(hex:∀b,¬c.ex b){w':World}{ρ':Env}{sl:Xf}{ob:Xb}{a:Act}{fn:Func}{rs:List RV}{K:V->Prop}(hb:Base c w' ρ')(ho:OM w' ρ' ob)(hs:SM w' ρ' sl a)(hx:ρ'.xo=own ρ0)
  (hc:Q5 P.p fn.results.toList rs=true) (h:Vg sl ob rs fun vs=>Vj (fun l _=>K (Ws (l.map .d))) (Rbv ob vs)):∃v,(results fn a.tmps).run P.p w'=.ok v w'/\X93 w0 ρ0 K (.returned v) w':=by
 obtain⟨vs,us,hk,hrep,hrun⟩:=Wf (P:=P.p) (fn:=fn) hs ho hc h;cases hgv:Rbv ob vs with
 | none=>simp[hgv,Vj]at hk
 | some q=>
  obtain⟨l,ob2⟩:=q;simp only[hgv,Vj]at hk;obtain⟨ρ2,t2,o2,hr2⟩:=Qk vs us ho hrep hgv;have mo2:Xji w' (own ρ2) w' (own ρ0):=fun b h1 _=>⟨rfl,fun h2=>h1 (.inr (by rw[t2.xo,hx]; exact h2))⟩;have hrep':=Uz mo2 _ _ l rfl hr2;have hext:Ext w0 w':=by subst h0; exact⟨hb.size,fun b h=>hb.keep b h (hex b),hb.tape,hb.os,hb.out,hb.drawn⟩
  exact⟨Xvu us,hrun,Ws (l.map .d),Xvu us,hk,rfl,V7 hrep',hext⟩

theorem Xk0 (hm:P.p.follows .mixedOrders=true){c:Ctx}(hg:P.g=c.g)(h0:c.w0=w0)(hex:∀b,¬c.ex b)(hdf:c.df=[])(hmk:c.mrk=false)(hm0:∀id,c.m0 id=none){fn:Func}{rs:List RV}{K:V->Prop}(hres:Q5 P.p fn.results.toList rs=true) :
  ∀(code:Code) (s:FSt) (sl:Xf) (ob:Xb) (ρ:Env) (a:Act) (w:World),FSt.chk P.p c.N code s=true->fwp P rs K s sl ob->Mod c (own ρ0) ρ sl ob a w->code.wp P.p (bodyPostD P.p fn (X93 w0 ρ0 K)) a w
 | .seq x y,.pre s r,sl,ob,ρ,a,w,hc,h,m=>by
  simp only[FSt.chk,Uai]at hc;simp only[fwp]at h;refine wp_seq (wp_mono (wpIn_wide.1 (Yi (rd:=none) hm hg x s _ sl ob ρ a w hc.1.1 (.inl hc.1.2) h m)) ?_);rintro e a' w' ⟨ae,sl',ob',ρ',hq,he,m'⟩;cases ae with
  | normal=>
   cases e<;>simp only[exM]at he;exact Xk0 hm hg h0 hex hdf hmk hm0 hres y r sl' ob' ρ' a' w' hc.2 hq m'
  | exit n=>exact hq.elim
  | ret=>
   cases e<;>simp only[exM]at he;show Leaves _ _ _ _ a'.defers .returning w';rw[m'.df.eq hmk,hdf];exact Xsq h0 hex m'.base m'.om m'.sm m'.xo hres hq
  | panic v=>exact hq.elim
 | .seq (.region id ops false) y,.dfr its keep k s,sl,ob,ρ,a,w,hc,h,m=>by
  simp only[FSt.chk]at hc;split at hc
  ·rename_i o os hops;simp only[Uai,Ucf]at hc;obtain⟨⟨⟨⟨⟨⟨hop,hdst⟩,hgd⟩,hits⟩,hpl⟩,hs⟩,hnr⟩:=hc;simp only[fwp]at h;have hl:ops.toList=os.reverse++[o]:=by
    have:=Ua4 List.reverse hops; simpa using this
   refine wp_seq (wp_region_list ?_);rw[hl];refine Xd1 hg (fun sl0 ob1 ρ1 a1 w1 hk m0=>?_) os.reverse its sl ob ρ a w hits hpl h m;have m1:Mod c (own ρ0) ρ1 (Xk sl0 keep) ob1 a1 w1:=⟨m0.base,m0.om,m0.sm.keep keep,m0.size,m0.df,m0.xo,m0.gl⟩
   generalize Xk sl0 keep=sl1 at hk m1;unfold Ym0 at hk;split at hk
   ·rename_i g fi ca e1;obtain⟨hcall,hk⟩:=hk;have hrep:=m1.sm k;rw[e1]at hrep;have hrep0:=hrep;rw[Xb5]at hrep;obtain⟨fs,gs,hv,hr1,hr2⟩:=hrep;obtain⟨args,ts,hop'⟩:∃args ts,o.op=.defer { callee:=.value (.tmp k),args:=args,argTypes:=ts }/\args=#[]:=by
     revert hop; generalize o.op=op; intro hop;unfold Ym1 at hop;split at hop
     ·simp only[Uai,Ubn]at hop;obtain⟨rfl,hop⟩:=hop;exact⟨_,_,rfl,by simpa using hop⟩
     ·simp at hop
    obtain⟨hop',rfl⟩:=hop';let d:Deferred:={ target:=.fn (.func g) gs.toArray,args:=fs.toArray++#[] }
    have hrun:(execOp a1.eval o).run P.p w1=.ok (.defer d) w1:=by
     have:a1.eval (.tmp k)=.func (.func g) fs.toArray gs.toArray:=hv;simp[execOp,hop',resolve,this,Deferred.ofValue,d]
    simp only[wpList,Region.wanted,hgd,Ubb];left;unfold Oper.wp;rw[hrun];simp only[Oper.upon,hdst,Act.put];let c2:Ctx:=⟨c.w0,c.ex,c.N,[d],c.g,c.m0,[(.fn g fi ca,.func (.func g) fs.toArray gs.toArray)],false⟩
    have m2:Mod c2 (own ρ0) ρ1 sl1 ob1 { a1 with defers:=d::a1.defers } w1:=by
     refine⟨⟨m1.base.size,m1.base.keep,m1.base.owns,m1.base.tape,m1.base.os,m1.base.out,m1.base.same,fun p hp=>?_,m1.base.drawn⟩,m1.om,m1.sm,m1.size,?_,m1.xo,m1.gl⟩
     ·simp only[c2,Uci]at hp;subst hp;rw[hv]at hrep0;exact hrep0
     ·show Dfr c2 w1 ρ1 (d::a1.defers); rw[m1.df.eq hmk,hdf]; exact Dfr.nil (c:=c2)
    show Code.wp _ _ _ _ _;refine wp_mono (wpIn_wide.1 (Yi (rd:=none) hm (c:=c2) hg y s _ _ _ ρ1 _ w1 hs (.inl hnr) hk m2)) ?_;rintro e a' w' ⟨ae,sl',ob',ρ',hq,he,m'⟩;have hclo:V.reps w' ρ' (fi++ca) (fs++gs):=by
     have:=m'.base.ext (.fn g fi ca,.func (.func g) fs.toArray gs.toArray) (by simp[c2]);simp only at this;rw[Xb5]at this;obtain⟨fs',gs',e2,q1,q2⟩:=this;simp only[Value.func.injEq,true_and]at e2;obtain⟨e3,e4⟩:=e2;have e3:fs=fs':=by simpa using Ua4 Array.toList e3
     have e4:gs=gs':=by simpa using Ua4 Array.toList e4
     subst e3 e4;exact reps_append q1 q2
    have hinv:∀w,(invoke d.target d.args).run P.p w=.ok (.enter g (fs++gs).toArray) w:=fun w=>by
     simp only[d,invoke,Yr hcall];simp
    have hd:a'.defers=[d]:=m'.df.eq rfl;have after:∀(w'':World) (ob2:Xb) (ρ2:Env),(Vg sl' ob2 rs fun vs=>Vj (fun l _=>K (Ws (l.map .d))) (Rbv ob2 vs))->OM w'' ρ2 ob2->Tr w' ρ' w'' ρ2->Leaves P.p fn a'.tmps (X93 w0 ρ0 K) [] .returning w'':=by
     intro w'' ob2 ρ2 hq o2 t2;exact Xsq (c:=c2) h0 hex (m'.base.tr t2) o2 (m'.sm.tr t2) (t2.xo.trans m'.xo) hres hq
    have hgl:ρ'.gl=P.g:=m'.gl.trans hg.symm;have hret:DCall P g (fi++ca) ob' none (fun ob'=>Vg sl' ob' rs fun vs=>Vj (fun l _=>K (Ws (l.map .d))) (Rbv ob' vs))->Leaves P.p fn a'.tmps (X93 w0 ρ0 K) a'.defers .returning w':=by
     intro hq;rw[hd];refine leaves_cons (fv:=.func g) (cap:=gs.toArray) (dargs:=fs.toArray++#[]) (by simp) (hinv w') ((hq.ret rfl w' ρ' (fs++gs) m'.om hgl hclo).mono ?_);rintro e u w'' ⟨⟨v,rfl⟩,rfl,ob2,ρ2,k2,o2,t2⟩;exact after w'' ob2 ρ2 k2 o2 t2
    cases ae with
    | normal=>cases e<;>simp only[exM]at he; exact hret hq
    | ret=>cases e<;>simp only[exM]at he; exact hret hq
    | exit n=>exact hq.elim
    | panic v=>
     cases e<;>simp only[exM]at he;obtain⟨u,rfl,hu⟩:=he;obtain⟨⟨t,y,hty⟩,hq⟩:=hq;have hix:∃t y,u=.iface t y:=by
      rcases hty with rfl | ⟨z,rfl⟩
      ·rw[Wj (by simp[V.isAgg]) (by simp)]at hu;simp only[V.repC,Ua1,Ua2]at hu;obtain⟨c,hu,_⟩:=hu;exact⟨_,_,hu⟩
      ·rw[Xap]at hu;obtain⟨c,hu,_⟩:=hu;exact⟨_,_,hu⟩
     show Leaves _ _ _ _ a'.defers _ w';rw[hd];refine leaves_cons (fv:=.func g) (cap:=gs.toArray) (dargs:=fs.toArray++#[]) (by simp) (hinv w') ((hq.pan v rfl w' ρ' (fs++gs) u m'.om hgl hclo hu hix).mono ?_);rintro e u' w'' ⟨⟨v',rfl⟩,rfl,ob2,ρ2,k2,o2,t2⟩;exact after w'' ob2 ρ2 k2 o2 t2
   ·exact hk.elim
  ·simp at hc
 | .skip,_,_,_,_,_,_,hc,_,_ | .region _ _ _,_,_,_,_,_,_,hc,_,_ | .cond _ _ _,_,_,_,_,_,_,hc,_,_ | .block _ _,_,_,_,_,_,_,hc,_,_ | .loop _,_,_,_,_,_,_,hc,_,_ | .rangeFunc _ _ _ _,_,_,_,_,_,_,hc,_,_ | .exit _,_,_,_,_,_,_,hc,_,_ | .scope _,_,_,_,_,_,_,hc,_,_ | .label _,_,_,_,_,_,_,hc,_,_ | .goto _,_,_,_,_,_,_,hc,_,_ | .ret,_,_,_,_,_,_,hc,_,_ | .refuse _,_,_,_,_,_,_,hc,_,_=>by simp[FSt.chk]at hc
 | .seq (.region _ _ true) _,.dfr _ _ _ _,_,_,_,_,_,hc,_,_ | .seq .skip _,.dfr _ _ _ _,_,_,_,_,_,hc,_,_ | .seq (.seq _ _) _,.dfr _ _ _ _,_,_,_,_,_,hc,_,_ | .seq (.cond _ _ _) _,.dfr _ _ _ _,_,_,_,_,_,hc,_,_ | .seq (.block _ _) _,.dfr _ _ _ _,_,_,_,_,_,hc,_,_ | .seq (.loop _) _,.dfr _ _ _ _,_,_,_,_,_,hc,_,_ | .seq (.rangeFunc _ _ _ _) _,.dfr _ _ _ _,_,_,_,_,_,hc,_,_ | .seq (.exit _) _,.dfr _ _ _ _,_,_,_,_,_,hc,_,_ | .seq (.scope _) _,.dfr _ _ _ _,_,_,_,_,_,hc,_,_ | .seq (.label _) _,.dfr _ _ _ _,_,_,_,_,_,hc,_,_ | .seq (.goto _) _,.dfr _ _ _ _,_,_,_,_,_,hc,_,_ | .seq .ret _,.dfr _ _ _ _,_,_,_,_,_,hc,_,_ | .seq (.refuse _) _,.dfr _ _ _ _,_,_,_,_,_,hc,_,_=>by simp[FSt.chk]at hc

theorem Xec (hm:P.p.follows .mixedOrders=true){f:Nat}{s:FSt}{rs:List RV}{ds:List D}{ob0:Xb}{K:V->Prop}(hc:Xkv P.p f ds.length s rs=true)
  (h:fwp P rs K s (Ua 0 (ds.map .d)) []):PCall P f (ds.map .d) ob0 K:=by
 unfold Xkv at hc;split at hc
 ·rename_i fn hf;split at hc
  ·rename_i code hb;simp only[Uai,Ubp]at hc;obtain⟨⟨hn,h1⟩,h2⟩:=hc;refine⟨fun w ρ args hO hg hr=>?_⟩;let ρ1:Env:=⟨fun _=>none,own ρ,ρ.gl⟩
   let c:Ctx:=⟨w,fun _=>False,fn.ntmps,[],P.g,fun _=>none,[],false⟩
   have hnone:∀b,¬Xcf ρ1 b:=fun b ⟨_,_,h,_⟩=>by cases h
   have hlt:∀b,own ρ b->b<w.heap.size:=fun b h=>h.elim (fun ⟨_,_,h1,h2⟩=>Wy hO h1 h2) (hO.xlt b);have mo:Xji w (own ρ) w (own ρ1):=fun b h1 _=>⟨rfl,fun h2=>h2.elim (hnone b) h1⟩;have hr0:=Uz mo _ _ ds rfl hr;have hlen:args.length=ds.length:=by simpa using Yv hr
   have m:Mod c (own ρ) ρ1 (Ua 0 (ds.map .d)) [] { tmps:=args.toArray++Array.replicate (fn.ntmps-args.toArray.size) undef,defers:=[] } w:=by
    refine⟨⟨Uak _,fun _ _ _=>rfl,fun b h=>absurd h (hnone b),rfl,rfl,rfl,(fun id o h=>by cases h),(fun p hp=>by cases hp),Uak _⟩,⟨fun j x hx=>(by simp[Xd]at hx),fun j o hj=>(by cases hj),fun i j o p b hi=>(by cases hi),fun b hb=>hlt b hb,fun b o hb=>⟨(hO.glb b o hb).1,fun h=>h.elim (hnone b) (hO.glb b o hb).2⟩,fun b hb=>absurd hb (hnone b),trivial⟩,?_,?_,Dfr.nil,rfl,hg⟩
    ·refine Uc hr0 0 _ (fun i hi=>?_);simp[Ub8,hi]
    ·simp[c]; omega
   exact calls_of_wp_defers hf hb (Xk0 (w0:=w) (ρ0:=ρ) hm (c:=c) rfl rfl (fun _ h=>h) rfl rfl (fun _=>rfl) h2 code s _ _ _ _ w h1 h m)
  ·simp at hc
 ·simp at hc
end

inductive FS2 where
 | pre (s:S2) (r:FS2)
 | dfr (l:List It2) (keep:List (Nat×E)) (k:Nat) (s:S2)
def FSt.lift (fs:List Nat):FSt->Option FS2
 | .pre s r=>match s.lift fs,r.lift fs with
  | some s,some r=>some (.pre s r)
  | _,_=>none
 | .dfr its kp k s=>match Xbe fs kp [] its [] [] [],s.lift fs with
  | some (l,keep),some s=>some (.dfr l keep k s)
  | _,_=>none
def Xg4 (P:Prg)(T:Tab)(s:S2)(rs:List RV)(K:V->Prop)(sl:Xf)(ob:Xb):V->Prop
 | .fn g fi ca=>Xm P.p g=true/\Yw P T s (Xg3 P g (fi++ca) rs K) sl ob
 | _=>False
def Xwi (P:Prg)(T:Tab)(rs:List RV)(K:V->Prop):FS2->Xf->Xb->Prop
 | .pre s r,sl,ob=>Yw P T s (W3 (Xwi P T rs K r) (Ux rs K)) sl ob
 | .dfr l keep k s,sl,ob=>Ub P T (fun sl ob=>Vc T sl ob keep/\Xg4 P T s rs K (Uw T sl ob keep) ob (look (Uw T sl ob keep) k)) (fun _ _ _=>False) l sl ob

theorem Zbk {T:Tab}{sl:Xf}{ob:Xb}:Inv T [] sl sl ob:=fun k p e h=>by
 simp[ent,Wv]at h; obtain⟨rfl,rfl⟩:=h; exact⟨fun _=>rfl,fun h=>by cases h⟩

theorem FSt.lift_sound {P:Prg}{T:Tab}(hT:TOk P T){fs:List Nat}{rs:List RV}{K:V->Prop}:∀(s:FSt) {s2:FS2} {sl:Xf} {ob:Xb},s.lift fs=some s2->Xwi P T rs K s2 sl ob->fwp P rs K s sl ob
 | .pre s r,s2,sl,ob,h,hc=>by
  simp only[FSt.lift]at h;split at h
  ·rename_i s' r' hs hr;cases h;simp only[Xwi]at hc;simp only[fwp];refine S.lift_sound hT s hs (fun e sl ob h=>?_) hc;cases e with
   | normal=>exact FSt.lift_sound hT r hr h
   | _=>exact h
  ·cases h
 | .dfr its kp k s,s2,sl,ob,h,hc=>by
  simp only[FSt.lift]at h;split at h
  ·rename_i l keep s' hl hs;cases h;simp only[Xwi]at hc;simp only[fwp];have hmono:∀sl ob,Xg4 P T s' rs K sl ob (look sl k)->Ym0 P s rs K sl ob (look sl k):=fun sl ob h=>by
    unfold Xg4 at h;split at h
    ·rename_i g fi ca e1;simp only[Ym0,e1];exact⟨h.1,S.lift_sound hT s hs (fun _ _ _ h=>h) h.2⟩
    ·exact h.elim
   have:=Y9 (pk:=[]) hT (K:=fun sl ob=>Xg4 P T s' rs K sl ob (look sl k)) (K':=fun sl ob=>Ym0 P s rs K sl ob (look sl k)) (Pn:=fun _ _ _=>False) (Pn':=fun _ _ _=>False) hmono (fun _ _ _ h=>h) its Zbk hl hc;exact this
  ·cases h

theorem Xcg {P:Prg}{p:Program}(hP:P.p=p)(hm:p.follows .mixedOrders=true){f:Nat}{s:FSt}{rs:List RV}{ds:List D}{ob0:Xb}{K:V->Prop}{fs:List Nat}{s2:FS2}{T:Tab}(hc:Xkv p f ds.length s rs=true)(hl:s.lift fs=some s2)(hT:TOk P T)
  (h:Xwi P T rs K s2 (Ua 0 (ds.map .d)) []):PCall P f (ds.map .d) ob0 K:=by
 subst hP;exact Xec hm hc (FSt.lift_sound hT s hl h)

theorem Xfl {P:Prg}{p:Program}(hP:P.p=p)(hm:p.follows .mixedOrders=true){f k:Nat}{its:List It}{s:S}{vs:List V}{ob:Xb}{rv:Option V}{K:Xb->Prop}{fs keep:List Nat}{l:List It2}{kp:List (Nat×E)}{s2:S2}{T:Tab}(hc:Xkg p f vs.length k its s=true)
  (hl:Xbe fs keep [] its [] [] []=some (l,kp)) (hs:s.lift fs=some s2) (hT:TOk P T)
  (h:Ub P T (fun sl ob'=>Vc T sl ob' kp/\Yw P T s2 (dQ (Xa ob) K) (Uw T sl ob' kp) ob') (fun _ _ _=>False) l ((k,rv.getD (.d .nili))::Ua 0 vs) ob):DCall P f vs ob rv K:=by
 subst hP;refine Xfm hm (keep:=keep) hc ?_;have:=Y9 (pk:=[]) hT (K:=fun sl ob'=>Yw P T s2 (dQ (Xa ob) K) sl ob') (K':=fun sl ob'=>cwp P s (dQ (Xa ob) K) sl ob') (Pn:=fun _ _ _=>False) (Pn':=fun _ _ _=>False) (fun sl ob h=>S.lift_sound hT s hs (fun _ _ _ h=>h) h) (fun _ _ _ h=>h) its Zbk hl h;exact this

section
variable (P:Prg) (T:Tab) (sl:Xf) (ob:Xb) (rs:List RV) (K:V->Prop) (KB:Xb->Prop) (n k g:Nat) (v:V) (cl:List V)
@[simp] theorem fwp2_pre (s:S2)(r:FS2):Xwi P T rs K (.pre s r) sl ob=Yw P T s (W3 (Xwi P T rs K r) (Ux rs K)) sl ob:=by simp only[Xwi]
@[simp] theorem fwp2_dfr (l:List It2)(kp:List (Nat×E))(s:S2):Xwi P T rs K (.dfr l kp k s) sl ob=Ub P T (fun sl ob=>Vc T sl ob kp/\Xg4 P T s rs K (Uw T sl ob kp) ob (look (Uw T sl ob kp) k)) (fun _ _ _=>False) l sl ob:=by simp only[Xwi]
@[simp] theorem dfrK2_f (s:S2)(fi ca:List V):Xg4 P T s rs K sl ob (.fn g fi ca)=(Xm P.p g=true/\Yw P T s (Xg3 P g (fi++ca) rs K) sl ob):=by simp only[Xg4]
@[simp] theorem dferQ_r:Xg3 P g cl rs K .ret sl ob=DCall P g cl ob none fun ob'=>Vg sl ob' rs fun vs=>Vj (fun l _=>K (Ws (l.map .d))) (Rbv ob' vs):=by simp only[Xg3]
theorem Yfi:Xg3 P g cl rs K (.panic v) sl ob=((∃t y,v=.iface t y\/∃z,v=.d (.iface t z))/\DCall P g cl ob (some v) fun ob'=>Vg sl ob' rs fun vs=>Vj (fun l _=>K (Ws (l.map .d))) (Rbv ob' vs)):=by simp only[Xg3]
@[simp] theorem dferQ_pd (t:Nat)(z:D):Xg3 P g cl rs K (.panic (.d (.iface t z))) sl ob=DCall P g cl ob (some (.d (.iface t z))) fun ob'=>Vg sl ob' rs fun vs=>Vj (fun l _=>K (Ws (l.map .d))) (Rbv ob' vs):=by
 rw[Yfi,eq_iff_iff]; exact⟨fun h=>h.2,fun h=>⟨⟨t,.any,.inr ⟨z,rfl⟩⟩,h⟩⟩
@[simp] theorem dQ_n:dQ n KB .normal sl ob=X8 n KB [] ob:=by simp only[dQ]
@[simp] theorem dQ_p:dQ n KB (.panic v) sl ob=False:=by simp only[dQ]
end
@[congr] theorem DCall_congr {P:Prg}{f:Nat}{vs vs':List V}{ob ob':Xb}{rv rv':Option V}{K:Xb->Prop}(h:vs=vs')(h':ob=ob')(h2:rv=rv'):DCall P f vs ob rv K=DCall P f vs' ob' rv' K:=by rw[h,h',h2]
@[congr] theorem dfrK2_congr {P:Prg}{T:Tab}{s:S2}{rs:List RV}{K:V->Prop}{sl sl':Xf}{ob ob':Xb}{v v':V}(h:sl=sl')(h':ob=ob')(h2:v=v'):Xg4 P T s rs K sl ob v=Xg4 P T s rs K sl' ob' v':=by rw[h,h',h2]
@[congr] theorem fwp2_congr {P:Prg}{T:Tab}{rs:List RV}{K:V->Prop}{s:FS2}{sl sl':Xf}{ob ob':Xb}(h:sl=sl')(h':ob=ob'):Xwi P T rs K s sl ob=Xwi P T rs K s sl' ob':=by rw[h,h']
end Go.Ab
namespace Go.Ab
open Go
def Xgx (n:Nat)(rs:List RV)(K:Out->Xb->Prop):Ze
 | .normal,sl,ob=>Vg sl ob rs fun vs=>X8 n (K (.ret (Ws vs))) vs ob
 | .ret,sl,ob=>Vg sl ob rs fun vs=>X8 n (K (.ret (Ws vs))) vs ob
 | .panic v,_,ob=>X8 n (K (.panic v)) [v] ob
 | .exit _,_,_=>False
section
variable {n k:Nat} {sl:Xf} {ob:Xb} {v:V}
@[simp] theorem callN_r (rs:List RV)(KU:Out->Xb->Prop):Xgx n rs KU .ret sl ob=Vg sl ob rs fun vs=>X8 n (KU (.ret (Ws vs))) vs ob:=by simp only[Xgx]
@[simp] theorem callN_p (rs:List RV)(KU:Out->Xb->Prop):Xgx n rs KU (.panic v) sl ob=X8 n (KU (.panic v)) [v] ob:=by simp only[Xgx]
end
theorem Xc8 {P:Prg}(hm:P.p.follows .mixedOrders=true){f:Nat}{s:S}{rs:List RV}{vs:List V}{ob:Xb}{K:Out->Xb->Prop}(hc:Xi P.p f vs.length s rs=true)
  (h:cwp P s (Xgx (Xa ob) rs K) (Ua 0 vs) ob):ACall P f vs ob K:=by
 simp only[Xi,Uai]at hc;obtain⟨hc,hnr⟩:=hc;unfold Uv at hc;split at hc
 ·rename_i fn hf;split at hc
  ·rename_i code hb;simp only[Uai,Ubp]at hc;obtain⟨⟨hn,h1⟩,h2⟩:=hc;refine⟨fun w ρ args hO hg hr=>calls_of_wp hf hb ?_⟩;let c:Ctx:=⟨w,Xcf ρ,fn.ntmps,[],P.g,ρ.m,[],false⟩
   have hlen:args.length=vs.length:=by simpa using Yv hr
   have m:Mod c ρ.xo ρ (Ua 0 vs) ob { tmps:=args.toArray++Array.replicate (fn.ntmps-args.toArray.size) undef,defers:=[] } w:=by
    refine⟨⟨Uak _,fun _ _ _=>rfl,fun b h=>.inr h,rfl,rfl,rfl,fun id o h=>⟨o,h,.refl o⟩,(fun p hp=>by cases hp),Uak _⟩,hO,?_,?_,Dfr.nil,rfl,hg⟩
    ·refine Uc hr 0 _ (fun i hi=>?_);simp[Ub8,hi]
    ·simp[c]; omega
   refine wp_mono (wpIn_wide.1 (Yi (rd:=none) hm rfl code s _ _ _ ρ _ w h1 (.inl hnr) h m)) ?_;rintro e a' w' ⟨ae,sl',ob',ρ',hq,he,m'⟩;have old:∀kp id o,ρ.m id=some o->Xc (Xa ob) kp id=false:=fun kp id o h0=>by
    obtain⟨x,hx⟩:=hO.dom id o h0;have hlt:¬Xa ob<=id:=fun hle=>by rw[X1 _ _ hle]at hx; cases hx
    simp[Xc,hlt]
   have tr:∀{ρ2:Env},Tr w' ρ' w' ρ2->∀kp,Tr w ρ w' (ρ2.del (Xc (Xa ob) kp)):=fun {ρ2} t kp=>by
    have b2:=m'.base.tr t;refine⟨b2.size,fun b h1 h2=>b2.keep b h2 h1,fun b h1=>(b2.owns b (Wi h1)).symm,?_,?_,fun id o h1=>?_,b2.tape,b2.os,b2.out,b2.drawn⟩
    ·show ρ2.xo=ρ.xo; rw[t.xo,m'.xo]
    ·show ρ2.gl=ρ.gl; rw[t.gl,m'.gl,hg]
    ·obtain⟨o',h3,h4⟩:=b2.same id o h1;exact⟨o',by simp only[Env.del,old kp id o h1]; exact h3,h4⟩
   have hfin:Vg sl' ob' rs (fun vs=>X8 (Xa ob) (K (.ret (Ws vs))) vs ob')->a'.defers=[]/\∃v,(results fn a'.tmps).run P.p w'=.ok v w'/\∃out ob2 ρ2,K out ob2/\Xbs w' ρ2 (.returned v) out/\OM w' ρ2 ob2/\Tr w ρ w' ρ2:=by
    intro hq;obtain⟨vs,us,hk,hrep,hrun⟩:=Wf (P:=P.p) (fn:=fn) m'.sm m'.om h2 hq;obtain⟨kp,k1,k2,k3⟩:=hk;exact⟨m'.df.eq rfl,Xvu us,hrun,.ret (Ws vs),_,_,k3,V7 (Xas k1 hrep),m'.om.del k2,tr (Tr.refl _ _) kp⟩
   cases ae with
   | normal=>
    cases e<;>simp only[exM]at he;exact hfin hq
   | ret=>
    cases e<;>simp only[exM]at he;exact hfin hq
   | exit n=>exact hq.elim
   | panic v=>
    cases e<;>simp only[exM]at he;obtain⟨u,rfl,hu⟩:=he;obtain⟨kp,k1,k2,k3⟩:=hq;simp only[Rb8,Bool.or_false]at k1;exact⟨m'.df.eq rfl,.panic v,_,_,k3,⟨u,rfl,Rcc k1 hu⟩,m'.om.del k2,tr (Tr.refl _ _) kp⟩
  ·simp at hc
 ·simp at hc

theorem W6 {P:Prg}{p:Program}(hP:P.p=p)(hm:p.follows .mixedOrders=true){f:Nat}{s:S}{rs:List RV}{vs:List V}{ob:Xb}{K:Out->Xb->Prop}{fs:List Nat}{s2:S2}{T:Tab}(hc:Xi p f vs.length s rs=true)(hl:s.lift fs=some s2)(hT:TOk P T)
  (h:(∀kp,Rb8 (Xc (Xa ob) kp) vs=false)->(∀kp,Xh (Xc (Xa ob) kp) ob=true)->Yw P T s2 (Xgx (Xa ob) rs K) (Ua 0 vs) ob):ACall P f vs ob K:=
 ACall.of_wf fun h1 h2=>by subst hP; exact Xc8 hm hc (S.lift_sound hT s hl (fun _ _ _ h=>h) (h h1 h2))
end Go.Ab
namespace Go.Ab
open Go

def Xa3:Xf->List Nat->List V->Xf
 | sl,p::ps,v::vs=>Xa3 ((p,v)::sl) ps vs
 | sl,_,_=>sl
def rdE (id n:Nat)(st:LSt)(ob:Xb)(K:Xb->Prop):Option Ob->Prop
 | some (.lp tag _ slk)=>X8 n K [] (setO ob id (.lp tag st slk))
 | _=>False
def rdQ (id n:Nat)(K:Out->Xb->Prop):Ze
 | .normal,_,ob=>rdE id n .ready ob (K (.ret (.d (.bool true)))) (Xd ob id)
 | .ret,_,ob=>rdE id n .ret ob (K (.ret (.d (.bool false)))) (Xd ob id)
 | .exit m,_,ob=>rdE id n (.exit m) ob (K (.ret (.d (.bool false)))) (Xd ob id)
 | .panic _,_,_=>False
def rdB (P:Prg)(y:S)(id n:Nat)(K:Out->Xb->Prop)(sl:Xf)(ob:Xb):Option Ob->Prop
 | some (.lp tag .ready slk)=>cwp P y (rdQ id n K) sl (setO ob id (.lp tag .busy slk))
 | _=>False
def rdA (P:Prg)(y:S)(id n:Nat)(K:Out->Xb->Prop):Ze
 | .normal,sl,ob=>rdB P y id n K sl ob (Xd ob id)
 | _,_,_=>False

section
variable {w:World} {ρ:Env}
theorem X1q {sl:Xf}{t:Array Value}(h:∀p∈sl,p.2.rep w ρ (t.getD p.1 undef))(k:Nat):(look sl k).rep w ρ (t.getD k undef):=by
 rcases X9r (sl:=sl) (k:=k) with e | e
 ·rw[e]; exact Jp
 ·exact h _ e
theorem Xj3:∀(ps:List Nat) (vs:List V) (us:List Value) (sl:Xf) (t:Array Value),V.reps w ρ vs us->vs.length=ps.length->(∀p∈ps,p<t.size)->(∀k,(look sl k).rep w ρ (t.getD k undef))->
  ∀k,(look (Xa3 sl ps vs) k).rep w ρ (((ps.zip us).foldl (fun (t:Array Value) (x:Nat×Value)=>t.setIfInBounds x.1 x.2) t).getD k undef)
 | [],vs,us,sl,t,hr,hl,_,h,k=>by
  cases vs with
  | nil=>simp only[V.reps]at hr; subst hr; exact h k
  | cons v r=>simp at hl
 | p::ps,[],us,sl,t,hr,hl,_,h,k=>by simp at hl
 | p::ps,v::vs,us,sl,t,hr,hl,hp,h,k=>by
  simp only[V.reps]at hr;obtain⟨u,us',rfl,h1,h2⟩:=hr;simp only[Xa3,List.zip_cons_cons,List.foldl_cons];refine Xj3 ps vs us' _ _ h2 (by simpa using hl) (fun q hq=>by simpa using hp q (by simp[hq])) (fun j=>?_) k;have hps:=hp p (by simp);simp only[look];split
  ·rename_i e; subst e;have h1':v.rep w ρ u:=h1;simpa[hps]using h1'
  ·rename_i e;have:=h j;simpa[Ubx,e]using this
theorem Xkw:∀(l:List (Nat×Value)) (t:Array Value),(l.foldl (fun (t:Array Value) (x:Nat×Value)=>t.setIfInBounds x.1 x.2) t).size=t.size
 | [],_=>rfl
 | x::r,t=>by simp only[List.foldl_cons]; rw[Xkw r]; simp
end

theorem AYield.of {P:Prg}(hm:P.p.follows .mixedOrders=true){id tag:Nat}{ps:List Nat}{x y:S}{slk:Xf}{ob:Xb}{vs:List V}{K:Out->Xb->Prop}(hL:Vm P tag ps x y)(hl:Xd ob id=some (.lp tag .ready slk))(hlen:vs.length=ps.length)
  (h:cwp P x (rdA P y id (Xa ob) K) (Xa3 slk ps vs) ob):AYield P id vs ob K:=by
 refine⟨fun w ρ args b hO hg hr hb=>?_⟩;obtain⟨b',fn,tm,dd,qs,ca,cb,g1,g2,g3,g4⟩:=hO.one _ _ hl;rw[hb]at g1; cases g1;rw[hg]at g3;have hc:=(hL qs tm.size ca cb).1 g3;simp only[Uai,Ubn,Ubt,Ubp]at hc;obtain⟨⟨⟨⟨⟨hqs,hps⟩,hcx⟩,hcy⟩,hnx⟩,hny⟩:=hc;have hal:args.length=ps.length:=by rw[<-hlen]; exact Yv hr
 let tm':Array Value:=(qs.zip args.toArray).foldl (fun tmps (x:Nat×Value)=>tmps.setIfInBounds x.1 x.2) tm;have htm:tm'=(ps.zip args).foldl (fun (t:Array Value) (x:Nat×Value)=>t.setIfInBounds x.1 x.2) tm:=by
  simp only[tm',<-Array.foldl_toList,Array.toList_zip,hqs,List.toList_toArray]
 have hget:(Instr.getLoop b).run P.p w=.ok { state:=.ready,pending:=none,fn:=fn,tmps:=tm,params:=qs,assign:=ca,body:=cb,defers:=dd } w:=by
  simp[Instr.getLoop,getObj,Sem.run,g2,LSt.st,LSt.pend]
 refine⟨fn,tm',ca,cb,?_,?_⟩
 ·have hsz:args.toArray.size=qs.size:=by
   have:=Ua4 List.length hqs;simp at this;simp[hal,this]
  simp only[Instr.yield,Sem.run_bind,hget,Result.andThen_ok];rw[Ubo (by simp[hsz])];simp only[Sem.run_pure];rfl
 ·refine roundIn_of_wpIn (F:=Fence.wide) trivial ?_;let c:Ctx:=⟨w,Xcf ρ,tm.size,[],P.g,ρ.m,[(.hd true id,.func (.yield b) #[] #[])],false⟩
  have m:Mod c ρ.xo ρ (Xa3 slk ps vs) ob { tmps:=tm',defers:=[] } w:=by
   refine⟨⟨Uak _,fun _ _ _=>rfl,fun b h=>.inr h,rfl,rfl,rfl,fun id o h=>⟨o,h,.refl o⟩,fun p hp=>?_,Uak _⟩,hO,fun k=>?_,?_,Dfr.nil,rfl,hg⟩
   ·simp only[c,Uci]at hp;subst hp;exact Xaq.2 (.inl ⟨b,hb,rfl⟩)
   ·show (look (Xa3 slk ps vs) k).rep w ρ (tm'.getD k undef);rw[htm];exact Xj3 ps vs args slk tm hr hlen hps (X1q g4) k
   ·show tm'.size=tm.size;rw[htm,Xkw]
  have old:∀kp i o,ρ.m i=some o->Xc (Xa ob) kp i=false:=fun kp i o h0=>by
   obtain⟨x,hx⟩:=hO.dom i o h0;have hlt:¬Xa ob<=i:=fun hle=>by rw[X1 _ _ hle]at hx; cases hx
   simp[Xc,hlt]
  -- the loop's record,wherever the round stands
  have record:∀{w':World} {ρ':Env} {sl':Xf} {ob':Xb} {a':Act} {tg:Nat} {st st':LSt} {sk:Xf},Mod c ρ.xo ρ' sl' ob' a' w'->Xd ob' id=some (.lp tg st sk)->
    ∃r:Loop,(Instr.getLoop b).run P.p w'=.ok r w'/\r.state=st.st/\(setObj b (.loop { r with state:=st'.st,pending:=st'.pend })).run P.p w'=.ok () (Xaz w' b (.loop { r with state:=st'.st,pending:=st'.pend }))/\r.pending=st.pend/\
     Mod c ρ.xo ρ' sl' (setO ob' id (.lp tg st' sk)) a' (Xaz w' b (.loop { r with state:=st'.st,pending:=st'.pend })):=by
   intro w' ρ' sl' ob' a' tg st st' sk m' hl';obtain⟨b2,fn2,tm2,dd2,qs2,ca2,cb2,k1,k2,k3,k4⟩:=m'.om.one _ _ hl';have hx:=m'.base.ext (.hd true id,.func (.yield b) #[] #[]) (by simp[c]);rw[Xaq]at hx;rcases hx with⟨b3,hx,e⟩ | ⟨hx,_⟩
   ·rw[k1]at hx; cases hx;simp only[hdV,Value.func.injEq,Go.Fn.yield.injEq,Ua2]at e;subst e;refine⟨{ state:=st.st,pending:=st.pend,fn:=fn2,tmps:=tm2,params:=qs2,assign:=ca2,body:=cb2,defers:=dd2 },by simp[Instr.getLoop,getObj,Sem.run,k2],rfl,Qs w' k2 rfl,rfl,?_⟩;have hone:Un (Xaz w' b (.loop { state:=st'.st,pending:=st'.pend,fn:=fn2,tmps:=tm2,params:=qs2,assign:=ca2,body:=cb2,defers:=dd2 })) ρ' id (.lp tg st' sk):=by
     refine⟨b,fn2,tm2,dd2,qs2,ca2,cb2,k1,Xau w' _ (Xj k2),k3,fun p hp=>?_⟩;have t1:Tr w' ρ' (Xaz w' b (.loop { state:=st'.st,pending:=st'.pend,fn:=fn2,tmps:=tm2,params:=qs2,assign:=ca2,body:=cb2,defers:=dd2 })) ρ':=by
      refine⟨by rw[Vh]; exact Uak _,fun j hj _=>Zv w' _ (fun e=>hj ?_),fun _ h=>.inl h,rfl,rfl,fun _ o h=>⟨o,h,.refl o⟩,rfl,rfl,rfl,Uak _⟩;subst e; exact⟨id,_,k1,rfl⟩
     exact Raw t1 (k4 p hp)
    obtain⟨t1,o1⟩:=Xua (o:=.loop { state:=st'.st,pending:=st'.pend,fn:=fn2,tmps:=tm2,params:=qs2,assign:=ca2,body:=cb2,defers:=dd2 }) m'.om hl' k1 (Xj k2) (x:=.lp tg st' sk) hone;exact⟨m'.base.tr t1,o1,m'.sm.tr t1,m'.size,m'.df.tr t1,t1.xo.trans m'.xo,t1.gl.trans m'.gl⟩
   ·rw[k1]at hx; cases hx
  have tr:∀{w':World} {ρ':Env} {sl':Xf} {ob':Xb} {a':Act},Mod c ρ.xo ρ' sl' ob' a' w'->∀kp,Tr w ρ w' (ρ'.del (Xc (Xa ob) kp)):=fun {w' ρ' sl' ob' a'} m' kp=>by
   refine⟨m'.base.size,fun b h1 h2=>m'.base.keep b h2 h1,fun b h1=>(m'.base.owns b (Wi h1)).symm,?_,?_,fun id o h1=>?_,m'.base.tape,m'.base.os,m'.base.out,m'.base.drawn⟩
   ·show ρ'.xo=ρ.xo; rw[m'.xo]
   ·show ρ'.gl=ρ.gl; rw[m'.gl,hg]
   ·obtain⟨o',h3,h4⟩:=m'.base.same id o h1;exact⟨o',by simp only[Env.del,old kp id o h1]; exact h3,h4⟩
  have fin:∀{w':World} {ρ':Env} {sl':Xf} {ob':Xb} {a':Act} {st:LSt} {jump:Option Code} {v:Bool},Mod c ρ.xo ρ' sl' ob' a' w'->st.st=(if jump.isNone then .ready else .done)->st.pend=jump->jump.isNone=v->rdE id (Xa ob) st ob' (K (.ret (.d (.bool v)))) (Xd ob' id)->
    ∃u w4,(Instr.endRound b jump).run P.p w'=.ok u w4/\∃out ob2 ρ2,K out ob2/\Xbs w4 ρ2 (.returned u) out/\OM w4 ρ2 ob2/\Tr w ρ w4 ρ2:=by
   intro w' ρ' sl' ob' a' st jump v m' hst hpd hv hk;unfold rdE at hk;split at hk
   ·rename_i tg st0 sk hl';obtain⟨r,q1,_,q3,_,m2⟩:=record (st':=st) m' hl';obtain⟨kp,_,k2,k3⟩:=hk;refine⟨.bool v,_,?_,_,_,_,k3,rep_bool.2 rfl,m2.om.del k2,tr m2 kp⟩;rw[hst,hpd]at q3;simp only[Instr.endRound,Sem.run_bind,q1,Result.andThen_ok,q3,Sem.run_pure];rw[hst,hpd,hv]
   ·exact hk.elim
  refine wpIn_mono (Yi (rd:=some b) hm (c:=c) rfl ca x _ _ _ ρ _ w hcx (.inl hnx) h m) ?_;rintro e a1 w1 ⟨ae,sl1,ob1,ρ1,hq,he,m1⟩;cases ae with
  | exit n=>exact hq.elim
  | ret=>exact hq.elim
  | panic v=>exact hq.elim
  | normal=>
   cases e<;>simp only[exM]at he;simp only[rdA]at hq;unfold rdB at hq;split at hq
   ·rename_i tg sk hl1;obtain⟨r,q1,q2,q3,q4,m2⟩:=record (st':=.busy) m1 hl1;refine⟨_,?_,wpIn_mono (Yi (rd:=some b) hm (c:=c) rfl cb y _ _ _ ρ1 a1 _ hcy (.inl hny) hq m2) ?_⟩
    ·simp only[Instr.beginRound,Sem.run_bind,q1,Result.andThen_ok];have q3':(setObj b (.loop { r with state:=.busy })).run P.p w1=.ok () (Xaz w1 b (.loop { r with state:=.busy,pending:=none })):=by
      have:(Loop.mk .busy r.pending r.fn r.tmps r.params r.assign r.body r.defers)=Loop.mk .busy none r.fn r.tmps r.params r.assign r.body r.defers:=by rw[q4]; rfl
      show (setObj b (.loop (Loop.mk .busy r.pending r.fn r.tmps r.params r.assign r.body r.defers))).run P.p w1=_;rw[this]; exact q3
     rw[q3',q2];simp[LSt.st];rfl
    ·rintro e a3 w3 ⟨ae,sl3,ob3,ρ3,hq,he,m3⟩;cases ae with
     | normal=>cases e<;>simp only[exM]at he; exact fin (st:=.ready) m3 rfl rfl rfl hq
     | ret=>cases e<;>simp only[exM]at he; exact fin (st:=.ret) m3 rfl rfl rfl hq
     | exit n=>cases e<;>simp only[exM]at he; subst he; exact fin (st:=.exit _) m3 rfl rfl rfl hq
     | panic v=>exact hq.elim
   ·exact hq.elim
end Go.Ab
namespace Go.Ab
open Go
def Xfh (n:Nat)(rs:List RV)(K:Out->Xb->Prop):Ze
 | .panic _,_,_=>False
 | e,sl,ob=>Xgx n rs K e sl ob
section
variable {n k:Nat} {sl:Xf} {ob:Xb} {v:V}
@[simp] theorem callNR_r (rs:List RV)(KU:Out->Xb->Prop):Xfh n rs KU .ret sl ob=Vg sl ob rs fun vs=>X8 n (KU (.ret (Ws vs))) vs ob:=by simp only[Xfh,Xgx]
@[simp] theorem callNR_p (rs:List RV)(KU:Out->Xb->Prop):Xfh n rs KU (.panic v) sl ob=False:=by simp only[Xfh]
end
section
theorem Xju {P:Prg}(hm:P.p.follows .mixedOrders=true){f:Nat}{s:S}{rs:List RV}{vs:List V}{ob:Xb}{K:Out->Xb->Prop}(hc:Uv P.p f vs.length s rs=true)
  (h:cwp P s (Xfh (Xa ob) rs K) (Ua 0 vs) ob):ACall P f vs ob K:=by
 unfold Uv at hc;split at hc
 ·rename_i fn hf;split at hc
  ·rename_i code hb;simp only[Uai,Ubp]at hc;obtain⟨⟨hn,h1⟩,h2⟩:=hc;refine⟨fun w ρ args hO hg hr=>callsIn_wide.1 (callsIn_of_wp_marks (n:=0) hf hb trivial ?_)⟩;let c:Ctx:=⟨w,Xcf ρ,fn.ntmps,[],P.g,ρ.m,[],true⟩
   have hlen:args.length=vs.length:=by simpa using Yv hr
   have m:Mod c ρ.xo ρ (Ua 0 vs) ob { tmps:=args.toArray++Array.replicate (fn.ntmps-args.toArray.size) undef,defers:=[] } w:=by
    refine⟨⟨Uak _,fun _ _ _=>rfl,fun b h=>.inr h,rfl,rfl,rfl,fun id o h=>⟨o,h,.refl o⟩,(fun p hp=>by cases hp),Uak _⟩,hO,?_,?_,Dfr.nil,rfl,hg⟩
    ·refine Uc hr 0 _ (fun i hi=>?_);simp[Ub8,hi]
    ·simp[c]; omega
   refine wpIn_mono (Yi (rd:=none) hm rfl code s _ _ _ ρ _ w h1 (.inr ⟨rfl,rfl⟩) h m) ?_;rintro e a' w' ⟨ae,sl',ob',ρ',hq,he,m'⟩;have old:∀kp id o,ρ.m id=some o->Xc (Xa ob) kp id=false:=fun kp id o h0=>by
    obtain⟨x,hx⟩:=hO.dom id o h0;have hlt:¬Xa ob<=id:=fun hle=>by rw[X1 _ _ hle]at hx; cases hx
    simp[Xc,hlt]
   have hfin:Vg sl' ob' rs (fun vs=>X8 (Xa ob) (K (.ret (Ws vs))) vs ob')->LeavesInM Fence.wide 0 P.p fn a'.tmps (fun e w'=>∃out ob' ρ',K out ob'/\Xbs w' ρ' e out/\OM w' ρ' ob'/\Tr w ρ w' ρ') a'.defers .returning w':=by
    intro hq;obtain⟨ms,q1,_,q3,q4⟩:=m'.df;have q1:a'.defers=ms.map mkD:=by rw[q1]; simp[c]
    rw[q1];refine Vo ms w' q3 (fun r hr=>(q4 r hr).2.1) (fun w2 sm hs=>?_);have hgl:∀b o,ρ'.gl b=some o->w2.heap[b]? = w'.heap[b]?:=fun b o hb=>hs b (fun hm=>by
     have h3:=(hO.glb b o (by rw[hg,<-show ρ'.gl=P.g from m'.gl]; exact hb)).1;have:=(q4 b hm).1;have:=Xj h3;show False;simp only[c]at *;omega)
    have om2:=OM.same sm m'.om hgl;have tr:∀{ρ2:Env},Tr w2 ρ' w2 ρ2->∀kp,Tr w ρ w2 (ρ2.del (Xc (Xa ob) kp)):=fun {ρ2} t kp=>by
     refine⟨by rw[sm.size]; exact m'.base.size,fun b h1 h2=>(hs b (fun hm=>by have:=(q4 b hm).1; simp only[c]at this; omega)).trans (m'.base.keep b h2 h1),fun b h1=>?_,?_,?_,fun id o h1=>?_,sm.tape.trans m'.base.tape,sm.os.trans m'.base.os,sm.out.trans m'.base.out,by rw[sm.drawn]; exact m'.base.drawn⟩
     ·rcases t.owns b (Wi h1) with h3 | h3
      ·exact (m'.base.owns b h3).symm
      ·exact .inr (Ual (by rw[sm.size]; exact m'.base.size) h3)
     ·show ρ2.xo=ρ.xo; rw[t.xo,m'.xo]
     ·show ρ2.gl=ρ.gl; rw[t.gl,m'.gl,hg]
     ·obtain⟨o1,h3,h4⟩:=m'.base.same id o h1;obtain⟨o2,h5,h6⟩:=t.same id o1 h3;exact⟨o2,by simp only[Env.del,old kp id o h1]; exact h5,h4.trans h6⟩
    obtain⟨vs,us,hk,hrep,hrun⟩:=Wf (P:=P.p) (fn:=fn) (SM.same sm m'.sm) om2 h2 hq;obtain⟨kp,k1,k2,k3⟩:=hk;exact⟨Xvu us,hrun,.ret (Ws vs),_,_,k3,V7 (Xas k1 hrep),om2.del k2,tr (Tr.refl _ _) kp⟩
   cases ae with
   | normal=>
    cases e<;>simp only[exM]at he;exact hfin hq
   | ret=>
    cases e<;>simp only[exM]at he;exact hfin hq
   | exit n=>exact hq.elim
   | panic v=>exact hq.elim
  ·simp at hc
 ·simp at hc
end
theorem Rcv {P:Prg}{f id E sz n:Nat}{l l':List D}{ys:List V}(hy:∀w ρ ρ' us,own ρ'=own ρ->V.reps w ρ ys us->V.reps w ρ' ys us){ob:Xb}{K:Out->Xb->Prop}(hl:Xd ob id=some (.arr E sz l))
  (h:ACall P f (.sl id n::ys) [(id,.arr E sz l)] fun o b=>o=.ret (.tup [])/\b=[(id,.arr E sz l')]) (hK:K (.ret (.tup [])) (setO ob id (.arr E sz l'))):ACall P f (.sl id n::ys) ob K:=by
 refine⟨fun w ρ args hO hg hr=>?_⟩;obtain⟨o,ho⟩:∃o,ρ.m id=some o:=by
  rcases hO.one id _ hl with⟨h1,_⟩ | ⟨b,cap,cs,sp,h1,_⟩<;>exact⟨_,h1⟩
 let ρ0:Env:=⟨fun j=>if j=id then ρ.m id else none,fun b=>ρ.xo b\/∃j p,j ≠ id/\ρ.m j=some p/\p.blk? = some b,ρ.gl⟩
 have m0:∀j p,ρ0.m j=some p->j=id/\ρ.m id=some p:=fun j p hj=>by
  simp only[ρ0]at hj;split at hj
  ·rename_i e; exact⟨e,hj⟩
  ·cases hj
 have ow0:own ρ0=own ρ:=by
  funext b;refine propext ⟨fun hb=>?_,fun hb=>?_⟩
  ·rcases hb with⟨j,p,h1,h2⟩ | h1 | ⟨j,p,_,h1,h2⟩
   ·obtain⟨rfl,h3⟩:=m0 j p h1; exact .inl ⟨j,p,h3,h2⟩
   ·exact .inr h1
   ·exact .inl ⟨j,p,h1,h2⟩
  ·rcases hb with⟨j,p,h1,h2⟩ | h1
   ·by_cases e:j=id
    ·subst e; exact .inl ⟨j,p,by simp[ρ0,h1],h2⟩
    ·exact .inr (.inr ⟨j,p,e,h1,h2⟩)
   ·exact .inr (.inl h1)
 have hO0:OM w ρ0 [(id,.arr E sz l)]:=by
  refine⟨fun j x hx=>?_,fun j p hj=>?_,fun i j p q b h1 h2 h3 h4=>?_,fun b hb=>?_,fun b q hb=>⟨(hO.glb b q hb).1,by rw[ow0]; exact (hO.glb b q hb).2⟩,fun b hb hx=>?_,⟨rfl,trivial⟩⟩
  ·simp only[Xd]at hx;split at hx
   ·rename_i e;cases hx;have e:j=id:=e.symm;subst e;have h1:=hO.one j _ hl;simp only[Un]at h1⊢;rw[ow0];simpa[ρ0]using h1
   ·cases hx
  ·obtain⟨rfl,_⟩:=m0 j p hj;exact⟨.arr E sz l,by simp[Xd]⟩
  ·rw[(m0 i p h1).1,(m0 j q h2).1]
  ·rcases hb with hb | ⟨j,p,_,h1,h2⟩
   ·exact hO.xlt b hb
   ·exact Wy hO h1 h2
  ·obtain⟨j,p,h1,h2⟩:=hb;obtain⟨rfl,h3⟩:=m0 j p h1;rcases hx with hx | ⟨i,q,hne,h4,h5⟩
   ·exact hO.xdis b ⟨j,p,h3,h2⟩ hx
   ·exact hne (hO.inj i j q p b h4 h3 h5 h2)
 have hr0:V.reps w ρ0 (.sl id n::ys) args:=by
  simp only[V.reps]at hr⊢;obtain⟨u,us,e,h1,h2⟩:=hr;refine⟨u,us,e,?_,?_⟩
  ·have h1:(V.sl id n).rep w ρ u:=h1;have:(V.sl id n).rep w ρ0 u:=by
    rw[Yl]at h1⊢;simpa[ρ0]using h1
   exact this
  ·exact hy w ρ ρ0 us ow0 h2
 refine (h.run w ρ0 args hO0 hg hr0).mono fun e w' ⟨out,ob',ρ',⟨e1,e2⟩,hre,hO',t⟩=>?_;subst e1; subst e2;have m1:∀j p,ρ'.m j=some p->j=id:=fun j p hj=>by
  obtain⟨x,hx⟩:=hO'.dom j p hj;simp only[Xd]at hx;split at hx
  ·rename_i e; exact e.symm
  ·cases hx
 obtain⟨o',ho',hle⟩:=t.same id o (by simp[ρ0,ho]);have blk:∀b,o'.blk? = some b->w.heap.size<=b\/∃p,ρ.m id=some p/\p.blk? = some b:=fun b hb=>by
  rcases t.owns b ⟨id,o',ho',hb⟩with⟨j,p,h1,h2⟩ | h1
  ·exact .inr ⟨p,(m0 j p h1).2,h2⟩
  ·exact .inl h1
 have keep:∀j p b,j ≠ id->ρ.m j=some p->p.blk? = some b->w'.heap[b]? = w.heap[b]?:=fun j p b hne h1 h2=>by
  refine t.keep b (fun ⟨i,q,h3,h4⟩=>?_) (Wy hO h1 h2);obtain⟨rfl,h5⟩:=m0 i q h3;exact hne (hO.inj j i p q b h1 h5 h2 h4)
 have tt:Tr w ρ w' (ρ.ins id o'):=by
  refine⟨t.size,fun b hn hlt=>t.keep b (fun ⟨i,q,h3,h4⟩=>?_) hlt,fun b hb=>?_,rfl,rfl,fun j p hj=>?_,t.tape,t.os,t.out,t.drawn⟩
  ·obtain⟨rfl,h5⟩:=m0 i q h3;exact hn ⟨i,q,h5,h4⟩
  ·obtain⟨j,p,h1,h2⟩:=hb;simp only[Env.ins]at h1;split at h1
   ·cases h1;rcases blk b h2 with h3 | ⟨q,h3,h4⟩
    ·exact .inr h3
    ·exact .inl ⟨id,q,h3,h4⟩
   ·exact .inl ⟨j,p,h1,h2⟩
  ·by_cases e:j=id
   ·subst e;rw[ho]at hj; cases hj;exact⟨o',by simp[Env.ins],hle⟩
   ·exact⟨p,by simp[Env.ins,e,hj],.refl p⟩
 have ow1:own ρ'=own (ρ.ins id o'):=by
  funext b;refine propext ⟨fun hb=>?_,fun hb=>?_⟩
  ·rcases hb with⟨j,p,h1,h2⟩ | h1
   ·have e:=m1 j p h1;subst e;rw[ho']at h1; cases h1;exact .inl ⟨j,o',by simp[Env.ins],h2⟩
   ·rw[t.xo]at h1;rcases h1 with h1 | ⟨j,p,hne,h1,h2⟩
    ·exact .inr h1
    ·exact .inl ⟨j,p,by simp[Env.ins,hne,h1],h2⟩
  ·rcases hb with⟨j,p,h1,h2⟩ | h1
   ·simp only[Env.ins]at h1;split at h1
    ·cases h1; exact .inl ⟨id,o',ho',h2⟩
    ·rename_i hne;exact .inr (t.xo▸.inr ⟨j,p,hne,h1,h2⟩)
   ·exact .inr (t.xo▸.inl h1)
 have one':Un w' (ρ.ins id o') id (.arr E sz l'):=by
  have h1:=hO'.one id (.arr E sz l') (by simp[Xd]);simp only[Un]at h1⊢;rw[ow1]at h1;simpa[Env.ins,ho']using h1
 refine⟨.ret (.tup []),_,ρ.ins id o',hK,?_,J5 hO hl tt one' blk keep,tt⟩;cases e with
 | returned u=>
  have h1:(V.tup []).rep w' ρ' u:=hre;show (V.tup []).rep w' (ρ.ins id o') u;rw[We]at h1⊢;simpa[V.reps]using h1
 | _=>exact (hre:False).elim
end Go.Ab
namespace Go.Ab
open Go
section
variable {ob:Xb} {n k:Nat} {l:List Nat}
theorem Yau (h:k<n):Xc n l k=false:=by simp[Xc]; omega
@[simp] theorem J0 (h:Xa ob<=n):Y2 (Xc n l) ob=ob:=by
 induction ob with
 | nil=>rfl
 | cons e r ih=>
  obtain⟨i,y⟩:=e;simp only[Xa]at h;have hi:i<n/\Xa r<=n:=by split at h<;>omega
  simp only[Y2,Yau hi.1,Uah,Uay,ih hi.2]
@[simp] theorem young_old_add (m:Nat)(h:(Xd ob k).isSome=true):Xc (Xa ob+m) l k=false:=by
 have:k<Xa ob:=by
  rcases Uaa k (Xa ob) with h1 | h1
  ·exact h1
  ·rw[X1 ob k h1]at h; cases h
 simp[Xc]; omega
mutual
theorem Rcw {p q:Nat->Bool}(h:∀j,q j=false->p j=false):∀v:V,V.men q v=false->V.men p v=false
 | .d _,_=>rfl
 | .ptr id _,e=>h id e
 | .sl id _,e=>h id e
 | .sd id _,e=>h id e
 | .mp id,e=>h id e
 | .hd _ id,e=>h id e
 | .ep id _ _ _ _ _,e=>h id e
 | .bs id _ _ _,e=>h id e
 | .fn _ a b,e=>by
  simp only[V.men,Ucb]at e⊢;exact⟨Rcx h a e.1,Rcx h b e.2⟩
 | .agg xs,e=>by simp only[V.men]at e⊢; exact Rcx h xs e
 | .iface _ v,e=>by simp only[V.men]at e⊢; exact Rcw h v e
 | .tup xs,e=>by simp only[V.men]at e⊢; exact Rcx h xs e
 | .undef,_=>rfl
 | .any,_=>rfl
theorem Rcx {p q:Nat->Bool}(h:∀j,q j=false->p j=false):∀xs:List V,Rb8 q xs=false->Rb8 p xs=false
 | [],_=>rfl
 | x::r,e=>by
  simp only[Rb8,Ucb]at e⊢;exact⟨Rcw h x e.1,Rcx h r e.2⟩
end
theorem Xf5 {p q:Nat->Bool}(h:∀j,q j=false->p j=false):∀xs:List (D×V),Jk q xs=false->Jk p xs=false
 | [],_=>rfl
 | (_,x)::r,e=>by
  simp only[Jk,Ucb]at e⊢;exact⟨Rcw h x e.1,Xf5 h r e.2⟩
theorem noMenO_mono {p q:Nat->Bool}(h:∀j,q j=false->p j=false):∀ob:Xb,Xh q ob=true->Xh p ob=true
 | [],_=>rfl
 | (_,.box _ t)::r,e=>by
  simp only[Xh,Uai,Ubq]at e⊢;exact⟨Rcw h t e.1,noMenO_mono h r e.2⟩
 | (_,.vec _ _ t)::r,e=>by
  simp only[Xh,Uai,Ubq]at e⊢;exact⟨Rcx h t e.1,noMenO_mono h r e.2⟩
 | (_,.map t)::r,e=>by
  simp only[Xh,Uai,Ubq]at e⊢;exact⟨Xf5 h t e.1,noMenO_mono h r e.2⟩
 | (_,.arr _ _ _)::r,e=>by simp only[Xh]at e⊢; exact noMenO_mono h r e
 | (_,.gone)::r,e=>by simp only[Xh]at e⊢; exact noMenO_mono h r e
 | (_,.lp _ _ t)::r,e=>by
  simp only[Xh,Uai]at e⊢;exact⟨Xd6 t fun x hx=>Rcw h x.2 (Xbh t e.1 x hx),noMenO_mono h r e.2⟩
 | (_,.it m _ _)::r,e=>by
  simp only[Xh,Uai,Ubq]at e⊢;refine⟨?_,noMenO_mono h r e.2⟩;cases m with
  | none=>rfl
  | some j=>exact h j e.1
theorem Qa (h:∀kp,Xh (Xc (Xa ob) kp) ob=true)(hn:Xa ob<=n):Xh (Xc n l) ob=true:=
 noMenO_mono (fun j e=>by simp[Xc]at e⊢; intro hj; exact e (by omega)) ob (h l)
theorem Xq (m:Nat)(h:∀kp,Xh (Xc (Xa ob) kp) ob=true):Xh (Xc (Xa ob+m) l) ob=true:=Qa h (by omega)
theorem DCall.of_wf {P:Prg}{f:Nat}{vs:List V}{ob:Xb}{rv:Option V}{K:Xb->Prop}(h:(∀kp,Rb8 (Xc (Xa ob) kp) vs=false)->(∀kp,Xh (Xc (Xa ob) kp) ob=true)->DCall P f vs ob rv K):DCall P f vs ob rv K:=by
 have key:∀w ρ args,OM w ρ ob->V.reps w ρ vs args->DCall P f vs ob rv K:=fun w ρ args hO hr=>by
  have old:∀kp id o,ρ.m id=some o->Xc (Xa ob) kp id=false:=fun kp id o h0=>by
   obtain⟨x,hx⟩:=hO.dom id o h0;have hlt:¬Xa ob<=id:=fun hle=>by rw[X1 _ _ hle]at hx; cases hx
   simp[Xc,hlt]
  exact h (fun kp=>Rcf (old kp) _ _ hr) (fun kp=>Z1 ob fun e he=>(hO.one e.1 _ (hO.once.look e he)).noMen (old kp))
 exact⟨fun e w ρ args hO hg hr=>(key w ρ args hO hr).ret e w ρ args hO hg hr,fun v e w ρ args x hO hg hr hv hi=>(key w ρ args hO hr).pan v e w ρ args x hO hg hr hv hi⟩
end
end Go.Ab
namespace Go.Ab
open Go
section
variable {P:Prg} {T:Tab} {sl:Xf} {ob:Xb} {K:Xf->Xb->Prop} {Pn:V->Xf->Xb->Prop}
@[simp] theorem zq:owp P K Pn .done sl ob=K sl ob:=by simp only[owp]
@[simp] theorem zr (i:Nat)(x:It)(r:Ot):owp P K Pn (.one i x r) sl ob=itK P (owp P K Pn r) Pn x sl ob:=by simp only[owp]
@[simp] theorem zp (l:Ots):owp P K Pn (.br l) sl ob=Xe6 P K Pn l sl ob:=by simp only[owp]
@[simp] theorem zu:Xe6 P K Pn .nil sl ob=True:=by simp only[Xe6]
@[simp] theorem zt (i:Nat)(x:It)(r:Ot)(l:Ots):Xe6 P K Pn (.cons i x r l) sl ob=(itK P (owp P K Pn r) Pn x sl ob/\Xe6 P K Pn l sl ob):=by simp only[Xe6]
@[simp] theorem qt (d:Option Nat)(i:I):itK P K Pn (.op d i) sl ob=i.wp P sl ob (fun v ob'=>K (put sl d v) ob') (fun v ob'=>Pn v sl ob'):=by simp only[itK]
@[simp] theorem qr (s:Nat)(b:Bool)(d:Option Nat)(i:I):itK P K Pn (.gop s b d i) sl ob=gdK s b sl (fun sl=>i.wp P sl ob (fun v ob'=>K (put sl d v) ob') (fun v ob'=>Pn v sl ob')) (fun sl=>K (put sl d .undef) ob) (look sl s):=by simp only[itK]
@[simp] theorem qn (t:Ot)(kp pk:List Nat)(Q:Ze):Yw P T (.rgT t kp pk) Q sl ob=owp P (fun sl ob=>Q .normal (Xk sl kp) ob) (fun v sl ob=>Q (.panic v) (Xk sl pk) ob) t sl ob:=by simp only[Yw]
variable {KO PO:V->Xb->Prop} {KV:V->Prop}
@[simp] theorem iwp_mkm (r:Option A):I.wp P sl ob KO PO (.mkm r)=(X5n sl r/\KO (.mp (Xa ob)) ((Xa ob,.map [])::ob)):=by simp only[I.wp]
@[simp] theorem iwp_lkp (kd z:D)(ok:Bool)(m k:A):I.wp P sl ob KO PO (.lkp kd z ok m k)=X1o ob kd z ok (fun v=>KO v ob) (m.ev sl) (k.ev sl):=by simp only[I.wp]
@[simp] theorem iwp_mset (kd:D)(m k v:A):I.wp P sl ob KO PO (.mset kd m k v)=Xd4 ob kd (v.ev sl) KO (m.ev sl) (k.ev sl):=by simp only[I.wp]
@[simp] theorem zf (g n:Nat)(ag:Bool)(x:D):I.wp P sl ob KO PO (.gld g n ag x)=(GlobIs P g x/\x.sz=n/\(V.d x).isAgg=ag/\KO (.d x) ob):=by simp only[I.wp]
@[simp] theorem mkmK_none:X5n sl none=True:=by simp only[X5n]
@[simp] theorem mkmK_some (x:A):X5n sl (some x)=Xlc (x.ev sl):=by simp only[X5n]
@[simp] theorem isIntV_int (k:IntKind)(n:Int):Xlc (.d (.int k n))=True:=by simp only[Xlc]
@[simp] theorem lkpK_mp (kd z k:D)(ok:Bool)(id:Nat):X1o ob kd z ok KV (.mp id) (.d k)=Xhe kd z ok k KV (Xd ob id):=by simp only[X1o]
@[simp] theorem lkpKo_map (kd z k:D)(ok:Bool)(es:List (D×V)):Xhe kd z ok k KV (some (.map es))=(Xdw kd k es/\KV (X9q z ok (Vb k es))):=by simp only[Xhe]
@[simp] theorem msetK_mp (kd k:D)(v:V)(id:Nat):Xd4 ob kd v KO (.mp id) (.d k)=Xag ob id kd k v KO (Xd ob id):=by simp only[Xd4]
@[simp] theorem msetKo_map (kd k:D)(v:V)(id:Nat)(es:List (D×V)):Xag ob id kd k v KO (some (.map es))=(Xdw kd k es/\v.sto=true/\KO .undef (setO ob id (.map (Xmo k v es)))):=by simp only[Xag]
@[simp] theorem lkpV_fs (z:D)(v:V):X9q z false (some v)=v:=by simp only[X9q]
@[simp] theorem lkpV_fn (z:D):X9q z false none=.d z:=by simp only[X9q]
@[simp] theorem findE_nil (k:D):Vb k []=none:=by simp only[Vb]
@[simp] theorem Xu3 (k j:D)(v:V)(r:List (D×V)):Vb k ((j,v)::r)=if Rb2 k j then some v else Vb k r:=by simp only[Vb]
@[simp] theorem updE_nil (k:D)(x:V):Xmo k x []=[(k,x)]:=by simp only[Xmo]
@[simp] theorem cwp_idxV (n z:Nat)(ag:Bool)(x y:A):C.wp sl ob KV (.aix n z ag x y)=Xnx n z ag KV (x.ev sl) (y.ev sl):=by simp only[C.wp]
@[simp] theorem cval_eqD (ty:KT)(e:Bool)(x y:A):C.val sl ob (.eqD ty e x y)=Ylr e (x.ev sl) (y.ev sl):=by simp only[C.val]
@[simp] theorem cval_idxV (n z:Nat)(ag:Bool)(x y:A):C.val sl ob (.aix n z ag x y)=Xvd (x.ev sl) (y.ev sl):=by simp only[C.val]
@[simp] theorem eqDV_d (e:Bool)(x y:D):Ylr e (.d x) (.d y)=.d (.bool (D.eqb x y==e)):=by simp only[Ylr]
@[simp] theorem idxVV_d (k:IntKind)(xs:List D)(n:Int):Xvd (.d (.agg xs)) (.d (.int k n))=.d (xs.getD n.toNat default):=by simp only[Xvd]
def Yng (ty:KT):V->V->Prop
 | .d x,.d y=>ty.fits x=true/\ty.fits y=true
 | _,_=>False
@[simp] theorem eqDS_d (ty:KT)(x y:D):Yng ty (.d x) (.d y)=(ty.fits x=true/\ty.fits y=true):=by simp only[Yng]
@[simp] theorem cok_eqD (ty:KT)(e:Bool)(x y:A):C.ok sl ob (.eqD ty e x y)=Yng ty (x.ev sl) (y.ev sl):=by
 simp only[C.ok,C.wp,C.val];generalize x.ev sl=a; generalize y.ev sl=b;cases a<;>cases b<;>simp[Ynf,Yng,Ylr]
end
attribute [simp] D.eqb D.eqbs KT.fits Rbd Rbe
@[congr] theorem owp_congr {P:Prg}{K:Xf->Xb->Prop}{Pn:V->Xf->Xb->Prop}{t:Ot}{sl:Xf}{ob:Xb}:owp P K Pn t sl ob=owp P K Pn t sl ob:=rfl
@[congr] theorem itK_congr {P:Prg}{K:Xf->Xb->Prop}{Pn:V->Xf->Xb->Prop}{t:It}{sl:Xf}{ob:Xb}:itK P K Pn t sl ob=itK P K Pn t sl ob:=rfl
@[congr] theorem slgK_congr {ob:Xb}{n z:Nat}{K:V->Xb->Prop}{u u':V}(h0:u=u'):Yl1 ob n z K u=Yl1 ob n z K u':=by rw[h0]
@[congr] theorem slgKv_congr {n z:Nat}{K:D->Prop}{u u':Option V}(h0:u=u'):X4f n z K u=X4f n z K u':=by rw[h0]
@[congr] theorem lkpK_congr {ob:Xb}{kd z:D}{ok:Bool}{K:V->Prop}{u u' v v':V}(h0:u=u')(h1:v=v'):X1o ob kd z ok K u v=X1o ob kd z ok K u' v':=by rw[h0,h1]
@[congr] theorem lkpKo_congr {kd z k:D}{ok:Bool}{K:V->Prop}{o o':Option Ob}(h0:o=o'):Xhe kd z ok k K o=Xhe kd z ok k K o':=by rw[h0]
@[congr] theorem msetK_congr {ob:Xb}{kd:D}{x x':V}{K:V->Xb->Prop}{u u' v v':V}(h:x=x')(h0:u=u')(h1:v=v'):Xd4 ob kd x K u v=Xd4 ob kd x' K u' v':=by rw[h,h0,h1]
@[congr] theorem msetKo_congr {ob:Xb}{id:Nat}{kd k:D}{x:V}{K:V->Xb->Prop}{o o':Option Ob}(h0:o=o'):Xag ob id kd k x K o=Xag ob id kd k x K o':=by rw[h0]
structure Pin {α:Type}(a:α):Type where
 mk::
def Xjo (P:Prg)(f:Nat)(args:List V)(ob:Xb)(K:Out->Xb->Prop)(_:Pin K):Prop:=ACall P f args ob K
def Xwm (keep:List Nat)(body:Ze->Xf->Xb->Prop)(Q:Ze)(sl:Xf)(ob:Xb)(_:Pin Q)(_:Pin body):Prop:=ALoop keep body Q sl ob
section
variable {P:Prg} {T:Tab} {sl:Xf} {ob:Xb} {KO PO:V->Xb->Prop}
theorem Xz (f:Nat)(l:List A):I.wp P sl ob KO PO (.call f l)=Xjo P f (l.map (A.ev sl)) ob (Xcx KO PO) ⟨⟩:=by simp only[I.wp,Xjo]
theorem Xx (vs:List V)(k:Nat)(a1 a2:List V):Va P vs ob KO PO (.fn k a1 a2)=(Xm P.p k=true/\Xjo P k (a1++vs++a2) ob (Xcx KO PO) ⟨⟩):=by simp only[Va,Xjo]
theorem Xr (kp:List Nat)(s:S2)(Q:Ze):Yw P T (.loop kp s) Q sl ob=Xwm kp (Yw P T s) Q sl ob ⟨⟩ ⟨⟩:=by simp only[Yw,Xwm]
end
end Go.Ab
namespace Go.Ab
open Go
mutual
def D.le:D->D->Prop
 | .nils,y=>y=.nils\/∃sz,y=.list sz []
 | .agg xs,y=>∃ys,y=.agg ys/\Rcy xs ys
 | .list a xs,y=>∃ys,y=.list a ys/\Rcy xs ys
 | .int k n,y=>y=.int k n
 | .bool b,y=>y=.bool b
 | .str s,y=>y=.str s
 | .nili,y=>y=.nili
 | .nilp,y=>y=.nilp
 | .nilf,y=>y=.nilf
 | .nilm,y=>y=.nilm
 | .ref x,y=>y=.ref x
 | .iface t x,y=>y=.iface t x
 | .fn f a b,y=>y=.fn f a b
def Rcy:List D->List D->Prop
 | [],l=>l=[]
 | x::r,l=>∃y s,l=y::s/\D.le x y/\Rcy r s
end
mutual
theorem D.le.same:∀{x y:D},D.le x y->y.sz=x.sz/\y.isAgg=x.isAgg
 | .nils,y,h=>by
  simp only[D.le]at h;rcases h with rfl | ⟨_,rfl⟩<;>exact⟨by simp[D.sz],rfl⟩
 | .agg xs,y,h=>by
  simp only[D.le]at h;obtain⟨ys,rfl,h⟩:=h;exact⟨by simp only[D.sz]; exact Rcy.same h,rfl⟩
 | .list a xs,y,h=>by
  simp only[D.le]at h;obtain⟨ys,rfl,h⟩:=h;exact⟨by simp only[D.sz],rfl⟩
 | .int ..,y,h | .bool ..,y,h | .str ..,y,h | .nili,y,h | .nilp,y,h | .nilf,y,h | .nilm,y,h | .ref ..,y,h | .iface ..,y,h | .fn ..,y,h=>by
  simp only[D.le]at h; subst h; exact⟨rfl,rfl⟩
theorem Rcy.same:∀{xs ys:List D},Rcy xs ys->Raa ys=Raa xs
 | [],ys,h=>by simp only[Rcy]at h; subst h; rfl
 | x::r,ys,h=>by
  simp only[Rcy]at h;obtain⟨y,s,rfl,h1,h2⟩:=h;simp only[Raa,h1.same.1,h2.same]
end
theorem Rcy.length:∀{xs ys:List D},Rcy xs ys->ys.length=xs.length
 | [],ys,h=>by simp only[Rcy]at h; subst h; rfl
 | x::r,ys,h=>by
  simp only[Rcy]at h;obtain⟨y,s,rfl,h1,h2⟩:=h;simp[Rcy.length h2]
theorem Rcy.szAll:∀{xs ys:List D} {n:Nat},Rcy xs ys->(∀x∈xs,x.sz=n)->∀y∈ys,y.sz=n
 | [],ys,n,h,_=>by simp only[Rcy]at h; subst h; simp
 | x::r,ys,n,h,hx=>by
  simp only[Rcy]at h;obtain⟨y,s,rfl,h1,h2⟩:=h;intro z hz;rcases Uax.1 hz with rfl | hz
  ·rw[h1.same.1]; exact hx x (by simp)
  ·exact Rcy.szAll h2 (fun u hu=>hx u (by simp[hu])) z hz
section
variable {w:World} {ow:Nat->Prop}
mutual
theorem D.le.rep:∀{x y:D} {cs:List Value},D.le x y->x.rep w ow cs->y.rep w ow cs
 | .nils,y,cs,h,hr=>by
  simp only[D.le]at h;rcases h with rfl | ⟨sz,rfl⟩
  ·exact hr
  ·simp only[D.rep]at hr⊢; exact .inl ⟨trivial,hr⟩
 | .agg xs,y,cs,h,hr=>by
  simp only[D.le]at h;obtain⟨ys,rfl,h⟩:=h;simp only[D.rep]at hr⊢;exact Rcy.rep h hr
 | .list a xs,y,cs,h,hr=>by
  simp only[D.le]at h;obtain⟨ys,rfl,h⟩:=h;simp only[D.rep]at hr⊢;have hl:=h.length;rcases hr with⟨rfl,hr⟩ | ⟨ad,cap,vs,h1,h2,h3,h4,h5⟩
  ·refine .inl ⟨?_,hr⟩;simpa using hl
  ·exact .inr ⟨ad,cap,vs,by rw[hl]; exact h1,by rw[hl]; exact h2,h3,Rcy.rep h h4,h.szAll h5⟩
 | .int ..,y,cs,h,hr | .bool ..,y,cs,h,hr | .str ..,y,cs,h,hr | .nili,y,cs,h,hr | .nilp,y,cs,h,hr | .nilf,y,cs,h,hr | .nilm,y,cs,h,hr | .ref ..,y,cs,h,hr | .iface ..,y,cs,h,hr | .fn ..,y,cs,h,hr=>by
  simp only[D.le]at h; subst h; exact hr
theorem Rcy.rep:∀{xs ys:List D} {cs:List Value},Rcy xs ys->Rac w ow xs cs->Rac w ow ys cs
 | [],ys,cs,h,hr=>by simp only[Rcy]at h; subst h; exact hr
 | x::r,ys,cs,h,hr=>by
  simp only[Rcy]at h;obtain⟨y,s,rfl,h1,h2⟩:=h;simp only[Rac]at hr⊢;obtain⟨c1,c2,e,r1,r2⟩:=hr;exact⟨c1,c2,e,D.le.rep h1 r1,Rcy.rep h2 r2⟩
end
end
mutual
theorem D.le.refl:∀x:D,D.le x x
 | .nils=>by simp[D.le]
 | .agg xs=>by simp only[D.le]; exact⟨_,rfl,Rcy.refl xs⟩
 | .list a xs=>by simp only[D.le]; exact⟨_,rfl,Rcy.refl xs⟩
 | .int .. | .bool .. | .str .. | .nili | .nilp | .nilf | .nilm | .ref .. | .iface .. | .fn ..=>by simp only[D.le]
theorem Rcy.refl:∀xs:List D,Rcy xs xs
 | []=>by simp only[Rcy]
 | x::r=>by simp only[Rcy]; exact⟨_,_,rfl,D.le.refl x,Rcy.refl r⟩
end
theorem D.le.nil (sz:Nat):D.le .nils (.list sz []):=by simp[D.le]
theorem D.le.agg {xs ys:List D}(h:Rcy xs ys):D.le (.agg xs) (.agg ys):=by simp only[D.le]; exact⟨_,rfl,h⟩
theorem D.le.list {sz:Nat}{xs ys:List D}(h:Rcy xs ys):D.le (.list sz xs) (.list sz ys):=by simp only[D.le]; exact⟨_,rfl,h⟩
theorem Rcy.nil:Rcy [] []:=by simp only[Rcy]
theorem Rcy.cons {x y:D}{r s:List D}(h:D.le x y)(h':Rcy r s):Rcy (x::r) (y::s):=by simp only[Rcy]; exact⟨_,_,rfl,h,h'⟩
theorem Rcy.map {α:Type}{f g:α->D}:∀{l:List α},(∀x∈l,D.le (f x) (g x))->Rcy (l.map f) (l.map g)
 | [],_=>Rcy.nil
 | x::r,h=>Rcy.cons (h x (by simp)) (Rcy.map fun y hy=>h y (by simp[hy]))
theorem X33 {w:World}{ρ:Env}:∀{xs ys:List D} {us:List Value},Rcy xs ys->V.reps w ρ (xs.map .d) us->V.reps w ρ (ys.map .d) us
 | [],ys,us,h,hr=>by simp only[Rcy]at h; subst h; exact hr
 | x::r,ys,us,h,hr=>by
  simp only[Rcy]at h;obtain⟨y,s,rfl,h1,h2⟩:=h;simp only[Uam]at hr⊢;cases us with
  | nil=>simp[V.reps]at hr
  | cons u us=>
   simp only[V.reps]at hr⊢;obtain⟨u1,us1,e,hu,hus⟩:=hr;cases e;refine⟨_,_,rfl,?_,X33 h2 hus⟩;rcases Xao.1 hu with⟨p,ds,q,hd⟩ | ⟨p,hd⟩
   ·exact Xao.2 (.inl ⟨by rw[h1.same.2]; exact p,ds,q,h1.rep hd⟩)
   ·exact Xao.2 (.inr ⟨by rw[h1.same.2]; exact p,h1.rep hd⟩)
theorem PCall.le {P:Prg}{f:Nat}{ob:Xb}{xs ys:List D}{K:V->Prop}(h:Rcy xs ys)(hc:PCall P f (ys.map .d) ob K):PCall P f (xs.map .d) ob K:=
 ⟨fun w ρ args ho hg hr=>hc.run w ρ args ho hg (X33 h hr)⟩
end Go.Ab
namespace Go.Ab
open Go
def X87 (n z:Nat)(ag:Bool)(u v:V):Prop:=Xnx n z ag (fun w=>w=Xvd u v) u v
section
variable (T:Tab) (sl:Xf) (ob:Xb) (x y:E) (n z:Nat) (b:Bool) (ty:KT)
@[simp] theorem v_eqD:E.val T sl ob (.b (.eqD ty b (.t 0) (.t 1)) x y)=Ylr b (x.val T sl ob) (y.val T sl ob):=by simp[E.val]
@[simp] theorem o_eqD:E.ok T sl ob (.b (.eqD ty b (.t 0) (.t 1)) x y)=(x.ok T sl ob/\y.ok T sl ob/\Yng ty (x.val T sl ob) (y.val T sl ob)):=by simp[E.ok]
@[simp] theorem v_aix:E.val T sl ob (.b (.aix n z b (.t 0) (.t 1)) x y)=Xvd (x.val T sl ob) (y.val T sl ob):=by simp[E.val]
@[simp] theorem o_aix:E.ok T sl ob (.b (.aix n z b (.t 0) (.t 1)) x y)=(x.ok T sl ob/\y.ok T sl ob/\X87 n z b (x.val T sl ob) (y.val T sl ob)):=by simp[E.ok,C.ok,C.val,X87]
@[simp] theorem idxVS_d (xs:List D)(k:IntKind)(i:Int):X87 n z b (.d (.agg xs)) (.d (.int k i))=((0<=i/\i<n)/\xs.length=n/\∀x∈xs,x.sz=z/\x.isAgg=b):=by
 simp[X87,Xnx]
end
theorem ALoop.upto {keep:List Nat}{body:Ze->Xf->Xb->Prop}{Q:Ze}{sl:Xf}{ob:Xb}(n:Nat)(S:Nat->Xf)(O:Nat->Xb)(I:Nat->Prop)(h0:I 0)(hs:Xk sl keep=S 0)(ho:ob=O 0)
  (step:∀k,k<n->I k->∀R:Ze,(∀kp sl' ob',I (k+1)->Xk sl' keep=S (k+1)->Y2 (Xc (Xa (O k)) kp) ob'=O (k+1)->Wo (Xc (Xa (O k)) kp) (S (k+1))=true->Xh (Xc (Xa (O k)) kp) (O (k+1))=true->R .normal sl' ob')->
   (∀n sl' ob',Q (.exit n) sl' ob'->R (.exit n) sl' ob')->(∀sl' ob',Q .ret sl' ob'->R .ret sl' ob')->(∀v sl' ob',Q (.panic v) sl' ob'->R (.panic v) sl' ob')->body R (S k) (O k))
  (done:I n->∀R:Ze,(∀n sl' ob',Q (.exit n) sl' ob'->R (.exit n) sl' ob')->(∀sl' ob',Q .ret sl' ob'->R .ret sl' ob')->(∀v sl' ob',Q (.panic v) sl' ob'->R (.panic v) sl' ob')->body R (S n) (O n)):ALoop keep body Q sl ob:=by
 refine ALoop.go (ι:=Nat) S O (fun k=>k<=n/\I k) (fun k=>n-k) 0 ⟨Ubg _,h0⟩ hs ho fun k ⟨hk,hi⟩ R rn re rr rp=>?_;rcases Uaa k n with h | h
 ·exact step k h hi R (fun kp sl' ob' h1 h2 h3 h4 h5=>rn kp (k+1) sl' ob' ⟨h,h1⟩ (by omega) h2 h3 h4 h5) re rr rp
 ·obtain rfl:k=n:=Nat.le_antisymm hk h;exact done hi R re rr rp
end Go.Ab
namespace Go.Ab
open Go
section
variable (ob:Xb) (z n i f j k:Nat) (kd:IntKind) (m:Int) (p:List Nat) (b:Bool) (v:V) (E:Nat) (xs:List D) (vs:List V)
@[simp] theorem idxAV_sl:Xk8 z (.sl j n) (.d (.int kd m))=.ep j n z m.toNat 0 []:=by simp only[Xk8]
@[simp] theorem idxAS_sl:Xk7 ob z (.sl j n) (.d (.int kd m))=((0<=m/\m<n)/\Xnu z (V0 n m.toNat (Xd ob j))):=by simp[Xk7,Xcb]
@[simp] theorem elemO_arr:V0 n i (some (.arr E z xs))=if n=xs.length then (xs.map V.d)[i]? else none:=by simp only[V0]
@[simp] theorem idxEK_s:Xnu z (some v)=(v.size=z):=by simp only[Xnu]
@[simp] theorem ldV_ep:ldV ob (.ep j n z i f p)=Ybm (atE ob j n z i f p):=by simp only[ldV]
@[simp] theorem ldS_ep:ldS ob k b (.ep j n z i f p)=Ylw k b (atE ob j n z i f p):=by
 simp only[ldS,ldK,ldV];cases atE ob j n z i f p<;>simp[Xlk,Ylw,Ybm]
@[simp] theorem atE_eq:atE ob j n z i f p=Yei z f p (V0 n i (Xd ob j)):=rfl
@[simp] theorem atEv_s:Yei z f p (some v)=if z=v.size/\f=v.shape.off p then v.at p else none:=by simp only[Yei]
@[simp] theorem Sh.off_nil (s:Sh):s.off []=0:=by cases s<;>simp[Sh.off]
end
end Go.Ab
