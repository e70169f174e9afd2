/- Texts of this claim joined by a program, part 9 of 33; the last is: Calls that are computed once, and what the evaluator makes of them. Over the seat's program; no condition. -/
import Derived.Test.YtolkimpelpnpbaaGreatDoorQ5
import Derived.Test.YtolkimpelpnpbaaGreatDoorQ6
import Derived.Test.YtolkimpelpnpbaaGreatDoorQ7
import Derived.Test.YtolkimpelpnpbaaGreatDoorQ8
import Derived.Test.YtolkimpelpnpbaaGreatDoorProg
import Derived.KernelRfl
set_option maxRecDepth 100000
set_option linter.unusedSimpArgs false
set_option linter.unusedVariables false
set_option linter.unusedSectionVars false
set_option linter.defProp false
namespace Go.Ab
open Go

def Ytw (x y:Xd×Xa):Bool:=Xzt x.1 y.1&&Xu5 x.2 y.2
def Xx3 (x:Xd×Xa):List (Xd×Xa)->Bool
 | []=>false
 | y::r=>bif Ytw x y then true else Xx3 x r
def Xou:List (Xd×Xa)->List (Xd×Xa)->List (Xd×Xa)
 | [],l=>l
 | x::r,l=>bif Xx3 x l then Xou r l else x::Xou r l
theorem Xgs {x:Xd×Xa}:∀{l:List (Xd×Xa)},Xx3 x l=true->x∈l
 | [],h=>by cases h
 | y::r,h=>by
  simp only[Xx3,Bool.cond_eq_ite]at h
  split at h
  ·rename_i e
   simp only[Ytw,Bool.and_eq_true]at e
   have:x=y:=Prod.ext (Xbh _ _ e.1) (Uw _ _ e.2)
   exact this▸List.mem_cons_self
  ·exact List.mem_cons_of_mem _ (Xgs h)
theorem V9 {y:Xd×Xa}:∀(a l:List (Xd×Xa)),(y∈a\/y∈l)->y∈Xou a l
 | [],l,h=>by simpa[Xou]using h
 | x::r,l,h=>by
  simp only[Xou,Bool.cond_eq_ite]
  split
  ·rename_i e
   refine V9 r l ?_
   rcases h with h | h
   ·rcases List.mem_cons.1 h with h | h
    ·exact .inr (h▸Xgs e)
    ·exact .inl h
   ·exact .inr h
  ·rcases h with h | h
   ·rcases List.mem_cons.1 h with h | h
    ·exact h▸List.mem_cons_self
    ·exact List.mem_cons_of_mem _ (V9 r l (.inl h))
   ·exact List.mem_cons_of_mem _ (V9 r l (.inr h))

def Ytd:Option (List (Xd×Xa))->Option (List (Xd×Xa))->Option (List (Xd×Xa))
 | some a,some b=>some (Xou a b)
 | _,_=>none
def Ys5 (k:Xd->Xa->Option (List (Xd×Xa))):Rq->Option (List (Xd×Xa))
 | .ok sl ob=>k sl ob
 | _=>none
mutual
def Xe8 (R:Fns)(keep:List Nat):Ot->Xd->Xa->Option (List (Xd×Xa))
 | .done,sl,ob=>some [(Xk sl keep,ob)]
 | .one _ x r,sl,ob=>Ys5 (Xe8 R keep r) (itR R .ok x sl ob)
 | .br l,sl,ob=>Xmv R keep l sl ob
def Xmv (R:Fns)(keep:List Nat):Ots->Xd->Xa->Option (List (Xd×Xa))
 | .nil,_,_=>some []
 | .cons _ x r l,sl,ob=>Ytd (Ys5 (Xe8 R keep r) (itR R .ok x sl ob)) (Xmv R keep l sl ob)
end
def Xdv (Q:Xd->Xa->Prop)(o:Option (List (Xd×Xa))):Prop:=∃l,o=some l/\∀r∈l,Q r.1 r.2
theorem Xzd {Q:Xd->Xa->Prop}{a b:Option (List (Xd×Xa))}(h:Xdv Q (Ytd a b)):Xdv Q a/\Xdv Q b:=by
 obtain⟨l,e,h⟩:=h
 cases a<;>cases b<;>simp only[Ytd,Option.some.injEq,reduceCtorEq]at e
 subst e
 exact⟨⟨_,rfl,fun r hr=>h r (V9 _ _ (.inl hr))⟩,⟨_,rfl,fun r hr=>h r (V9 _ _ (.inr hr))⟩⟩
theorem Xto {Q:Xd->Xa->Prop}{Pn:V->Xd->Xa->Prop}{k:Xd->Xa->Option (List (Xd×Xa))}{q:Rq}(h:Xdv Q (Ys5 k q)):q.to (fun sl ob=>Xdv Q (k sl ob)) Pn:=by
 cases q with
 | ok sl ob=>exact h
 | pn v sl ob=>obtain⟨l,e,_⟩:=h; cases e
 | no=>obtain⟨l,e,_⟩:=h; cases e
mutual
theorem U3 {P:Prg}{R:Fns}(hR:R.ok P){Q:Xd->Xa->Prop}{Pn:V->Xd->Xa->Prop}{keep:List Nat}:∀(t:Ot) (sl:Xd) (ob:Xa),Xdv Q (Xe8 R keep t sl ob)->owp P (fun sl ob=>Q (Xk sl keep) ob) Pn t sl ob
 | .done,sl,ob,h=>by
  obtain⟨l,e,h⟩:=h
  simp only[Xe8,Option.some.injEq]at e
  subst e
  exact h _ (List.mem_singleton.2 rfl)
 | .one i x r,sl,ob,h=>by
  simp only[Xe8]at h
  rw[owp]
  exact V3 (k:=.ok) (K:=fun sl ob=>Xdv Q (Xe8 R keep r sl ob)) hR (fun sl ob h=>U3 hR r sl ob h) x sl ob (Xto h)
 | .br l,sl,ob,h=>by
  simp only[Xe8]at h
  rw[owp]
  exact J8 hR l sl ob h
theorem J8 {P:Prg}{R:Fns}(hR:R.ok P){Q:Xd->Xa->Prop}{Pn:V->Xd->Xa->Prop}{keep:List Nat}:∀(l:Ots) (sl:Xd) (ob:Xa),Xdv Q (Xmv R keep l sl ob)->Xco P (fun sl ob=>Q (Xk sl keep) ob) Pn l sl ob
 | .nil,sl,ob,h=>by rw[Xco]; trivial
 | .cons i x r l,sl,ob,h=>by
  simp only[Xmv]at h
  rw[Xco]
  obtain⟨h1,h2⟩:=Xzd h
  exact⟨V3 (k:=.ok) (K:=fun sl ob=>Xdv Q (Xe8 R keep r sl ob)) hR (fun sl ob h=>U3 hR r sl ob h) x sl ob (Xto h1),J8 hR l sl ob h2⟩
end

abbrev Rm:=Option (List (AExit×Xd×Xa))
def Rm.to (Q:Y0)(r:Rm):Prop:=∃l,r=some l/\∀x∈l,Q x.1 x.2.1 x.2.2
def Yma:Rm->Rm->Rm
 | some a,some b=>some (a++b)
 | _,_=>none
def Xvx (f:AExit×Xd×Xa->Rm):List (AExit×Xd×Xa)->Rm
 | []=>some []
 | [x]=>f x
 | x::r=>Yma (f x) (Xvx f r)
theorem X2h {Q:Y0}{a b:Rm}(h:(Yma a b).to Q):a.to Q/\b.to Q:=by
 obtain⟨l,e,h⟩:=h
 cases a<;>cases b<;>simp only[Yma,Option.some.injEq,reduceCtorEq]at e
 subst e
 exact⟨⟨_,rfl,fun x hx=>h x (List.mem_append_left _ hx)⟩,⟨_,rfl,fun x hx=>h x (List.mem_append_right _ hx)⟩⟩
theorem Xdx {Q:Y0}{f:AExit×Xd×Xa->Rm}:∀{l:List (AExit×Xd×Xa)},(Xvx f l).to Q->∀x∈l,(f x).to Q
 | [],_,x,hx=>by cases hx
 | [y],h,x,hx=>by
  rw[List.mem_singleton.1 hx]
  exact h
 | y::z::r,h,x,hx=>by
  obtain⟨h1,h2⟩:=X2h h
  rcases List.mem_cons.1 hx with e | hx
  ·exact e▸h1
  ·exact Xdx h2 x hx
def Ys6:Rs->Rm
 | some x=>some [x]
 | none=>none
def Y3t (f:Xd->Xa->Rm)(x:AExit×Xd×Xa):Rm:=match x with
 | (.normal,sl,ob)=>f sl ob
 | x=>some [x]
def Ytn (n:Nat)(x:AExit×Xd×Xa):Rm:=match x with
 | (.exit m,sl,ob)=>bif decide (m=n) then some [(.normal,sl,ob)] else some [(.exit m,sl,ob)]
 | x=>some [x]
def S.runM (R:Fns)(L:Nat):S->Xd->Xa->Rm
 | .rgT _ t keep _,sl,ob=>(Xe8 R keep t sl ob).map fun l=>l.map fun x=>(.normal,x.1,x.2)
 | .seq a b,sl,ob=>match S.runM R L a sl ob with
  | some l=>Xvx (Y3t (S.runM R L b)) l
  | none=>none
 | .cond c a b,sl,ob=>match c.ev sl with
  | .d (.bool t)=>bif t then S.runM R L a sl ob else S.runM R L b sl ob
  | _=>none
 | .block n a,sl,ob=>match S.runM R L a sl ob with
  | some l=>Xvx (Ytn n) l
  | none=>none
 | s,sl,ob=>Ys6 (s.run R L sl ob)
theorem Jr {Q:Y0}{r:Rs}(h:(Ys6 r).to Q):r.to Q:=by
 obtain⟨l,e,h⟩:=h
 cases r<;>simp only[Ys6,Option.some.injEq,reduceCtorEq]at e
 subst e
 exact h _ (List.mem_singleton.2 rfl)
theorem Rm.mono {Q Q':Y0}{r:Rm}(h:r.to Q)(hm:∀e s o,Q e s o->Q' e s o):r.to Q':=by
 obtain⟨l,e,h⟩:=h
 exact⟨l,e,fun x hx=>hm _ _ _ (h x hx)⟩
theorem S.runM_sound {P:Prg}{R:Fns}(hR:R.ok P){L:Nat}:∀(s:S) (Q:Y0) (sl:Xd) (ob:Xa),s.loops P->(s.runM R L sl ob).to Q->cwp P s Q sl ob
 | .rgT _ t keep pk,Q,sl,ob,hl,h=>by
  simp only[S.runM]at h
  obtain⟨l,e,h⟩:=h
  rw[Option.map_eq_some_iff]at e
  obtain⟨m,e1,rfl⟩:=e
  simp only[cwp]
  exact U3 hR t sl ob ⟨m,e1,fun r hr=>h (.normal,r.1,r.2) (List.mem_map.2 ⟨r,hr,rfl⟩)⟩
 | .seq a b,Q,sl,ob,hl,h=>by
  simp only[S.runM]at h
  simp only[cwp]
  refine S.runM_sound (L:=L) hR a _ sl ob hl.1 ?_
  split at h
  ·rename_i l e
   rw[e]
   refine⟨l,rfl,fun x hx=>?_⟩
   have h1:=Xdx h x hx
   obtain⟨ae,s1,o1⟩:=x
   cases ae with
   | normal=>exact S.runM_sound (L:=L) hR b Q s1 o1 hl.2 h1
   | exit n=>obtain⟨_,e,h⟩:=h1; cases e; exact h _ (List.mem_singleton.2 rfl)
   | ret=>obtain⟨_,e,h⟩:=h1; cases e; exact h _ (List.mem_singleton.2 rfl)
   | panic v=>obtain⟨_,e,h⟩:=h1; cases e; exact h _ (List.mem_singleton.2 rfl)
  ·obtain⟨_,e,_⟩:=h; cases e
 | .cond c a b,Q,sl,ob,hl,h=>by
  simp only[S.runM]at h
  simp only[cwp]
  split at h
  ·rename_i t ht
   rw[ht]
   cases t
   ·exact⟨fun e=>(by cases e),fun _=>S.runM_sound (L:=L) hR b Q sl ob hl.2 h⟩
   ·exact⟨fun _=>S.runM_sound (L:=L) hR a Q sl ob hl.1 h,fun e=>(by cases e)⟩
  ·obtain⟨_,e,_⟩:=h; cases e
 | .block n a,Q,sl,ob,hl,h=>by
  simp only[S.runM]at h
  simp only[cwp]
  refine S.runM_sound (L:=L) hR a _ sl ob hl ?_
  split at h
  ·rename_i l e
   rw[e]
   refine⟨l,rfl,fun x hx=>?_⟩
   have h1:=Xdx h x hx
   obtain⟨ae,s1,o1⟩:=x
   cases ae with
   | normal=>obtain⟨_,e,h⟩:=h1; cases e; exact h _ (List.mem_singleton.2 rfl)
   | exit m=>
    simp only[Ytn,Bool.cond_eq_ite]at h1
    simp only[Zn]
    by_cases hm:m=n
    ·simp only[hm,decide_true,if_true]at h1⊢; obtain⟨_,e,h⟩:=h1; cases e; exact h _ (List.mem_singleton.2 rfl)
    ·simp only[hm,decide_false,Bool.false_eq_true,if_false]at h1⊢; obtain⟨_,e,h⟩:=h1; cases e; exact h _ (List.mem_singleton.2 rfl)
   | ret=>obtain⟨_,e,h⟩:=h1; cases e; exact h _ (List.mem_singleton.2 rfl)
   | panic v=>obtain⟨_,e,h⟩:=h1; cases e; exact h _ (List.mem_singleton.2 rfl)
  ·obtain⟨_,e,_⟩:=h; cases e
 | .rg o l k p,Q,sl,ob,hl,h=>S.run_sound (L:=L) hR (.rg o l k p) Q sl ob hl (Jr h)
 | .skip,Q,sl,ob,hl,h=>S.run_sound (L:=L) hR .skip Q sl ob hl (Jr h)
 | .loop k a,Q,sl,ob,hl,h=>S.run_sound (L:=L) hR (.loop k a) Q sl ob hl (Jr h)
 | .exit n,Q,sl,ob,hl,h=>S.run_sound (L:=L) hR (.exit n) Q sl ob hl (Jr h)
 | .ret,Q,sl,ob,hl,h=>S.run_sound (L:=L) hR .ret Q sl ob hl (Jr h)
 | .rgf t ps g x y k,Q,sl,ob,hl,h=>S.run_sound (L:=L) hR (.rgf t ps g x y k) Q sl ob hl (Jr h)
def X9b {α:Type}(eq:α->α->Bool)(f:Rs->Option α):Rm->Option α
 | none=>none
 | some l=>go l
where go:List (AExit×Xd×Xa)->Option α
 | []=>none
 | [x]=>f (some x)
 | x::r=>match f (some x),go r with
  | some a,some b=>bif eq a b then some a else none
  | _,_=>none
theorem Xp1 {α:Type}{eq:α->α->Bool}(he:∀x y,eq x y=true->x=y){f:Rs->Option α}{a:α}:∀{l:List (AExit×Xd×Xa)},X9b.go eq f l=some a->∀x∈l,f (some x)=some a
 | [],h,x,hx=>by cases hx
 | [y],h,x,hx=>by rw[List.mem_singleton.1 hx]; exact h
 | y::z::r,h,x,hx=>by
  simp only[X9b.go]at h
  split at h
  ·rename_i a' b h1 h2
   rw[Bool.cond_eq_ite]at h
   split at h
   ·rename_i e
    cases h
    rcases List.mem_cons.1 hx with e' | hx
    ·exact e'▸h1
    ·exact (he _ _ e)▸Xp1 he h2 x hx
   ·cases h
  ·cases h
theorem Xp2 {α:Type}{eq:α->α->Bool}(he:∀x y,eq x y=true->x=y){f:Rs->Option α}{a:α}{r:Rm}{Q:Y0}(h:X9b eq f r=some a)(hf:∀x:AExit×Xd×Xa,f (some x)=some a->Rs.to Q (some x)):r.to Q:=by
 cases r with
 | none=>cases h
 | some l=>exact⟨l,rfl,fun x hx=>hf x (Xp1 he h x hx)⟩
def Out.eqb:Out->Out->Bool
 | .ret v,.ret u=>V.eqb v u
 | .panic v,.panic u=>V.eqb v u
 | _,_=>false
def Ymi (x y:Out×Xa):Bool:=Out.eqb x.1 y.1&&Xu5 x.2 y.2
theorem X25 (x y:Out×Xa)(h:Ymi x y=true):x=y:=by
 simp only[Ymi,Bool.and_eq_true]at h
 refine Prod.ext ?_ (Uw _ _ h.2)
 have h1:=h.1
 generalize x.1=a at h1⊢
 generalize y.1=b at h1⊢
 cases a<;>cases b<;>simp only[Out.eqb,Bool.false_eq_true]at h1
 ·rw[V.eqb_eq _ _ h1]
 ·rw[V.eqb_eq _ _ h1]
end Go.Ab
namespace Go.Ab
open Go

theorem Xzv {p:Program}{f n:Nat}{s:S}{rs:List RV}(h:Xj p f n s rs=true):Ul p f n s rs=true:=by
 simp only[Xj,Bool.and_eq_true]at h
 exact h.1
inductive FI where
 | pl (s:S) (rs:List RV) (n:Nat)
 | df (s:FSt) (rs:List RV) (n:Nat)
 | rc (its:List It) (keep:List Nat) (k:Nat) (s:S) (n:Nat)
  | kp (s:S) (rs:List RV) (n:Nat)
  | pr (s:S) (rs:List RV) (n:Nat)
  | br (s:S) (rs:List RV) (n:Nat)
def FI.ok (p:Program)(f:Nat):FI->Bool
 | .pl s rs n=>Xj p f n s rs
 | .kp s rs n=>Xj p f n s rs
 | .pr s rs n=>Ul p f n s rs
 | .br s rs n=>Ul p f n s rs
 | .df s rs n=>Xgj p f n s rs
 | .rc its _ k s n=>Xf6 p f n k its s
def FSt.noR:FSt->Bool
 | .pre s r=>s.noR&&r.noR
 | .dfr _ _ _ s=>s.noR
def FSt.loops (P:Prg):FSt->Prop
 | .pre s r=>s.loops P/\r.loops P
 | .dfr _ _ _ s=>s.loops P
theorem FSt.loops_noR {P:Prg}:∀s:FSt,s.noR=true->s.loops P
 | .pre s r,h=>by simp only[FSt.noR,Bool.and_eq_true]at h; exact⟨S.loops_noR s h.1,FSt.loops_noR r h.2⟩
 | .dfr _ _ _ s,h=>S.loops_noR s h
def FI.nr:FI->Bool
 | .pl s _ _ | .kp s _ _ | .pr s _ _ | .br s _ _=>s.noR
 | .df s _ _=>s.noR
 | .rc _ _ _ s _=>s.noR
def FI.lps (P:Prg):FI->Prop
 | .pl s _ _ | .kp s _ _ | .pr s _ _ | .br s _ _=>s.loops P
 | .df s _ _=>s.loops P
 | .rc _ _ _ s _=>s.loops P
theorem FI.lps_nr {P:Prg}(x:FI)(h:x.nr=true):x.lps P:=by
 cases x<;>first | exact S.loops_noR _ h | exact FSt.loops_noR _ h
abbrev FT:=List (Nat×FI)
def U1:FT->Nat->Option FI
 | [],_=>none
 | (j,x)::r,k=>bif Nat.beq j k then some x else U1 r k
def FT.lps (P:Prg)(F:FT):Prop:=∀f x,U1 F f=some x->x.lps P
theorem FT.lps_nil {P:Prg}:FT.lps P []:=fun f x h=>by cases h
theorem FT.lps_cons {P:Prg}{f:Nat}{x:FI}{F:FT}(h:x.lps P)(hF:FT.lps P F):FT.lps P ((f,x)::F):=fun g y hg=>by
 simp only[U1]at hg
 rw[Bool.cond_eq_ite]at hg
 split at hg
 ·cases hg; exact h
 ·exact hF g y hg
theorem FT.lps_nr {P:Prg}:∀(F:FT),F.all (fun e=>e.2.nr)=true->FT.lps P F
 | [],_=>FT.lps_nil
 | (f,x)::r,h=>by
  simp only[List.all_cons,Bool.and_eq_true]at h
  exact FT.lps_cons (x.lps_nr h.1) (FT.lps_nr r h.2)
def FT.ok (p:Program)(F:FT):Prop:=∀f x,U1 F f=some x->FI.ok p f x=true/\Xm p f=true
theorem FT.ok_nil {p:Program}:FT.ok p []:=fun f x h=>by cases h
theorem FT.ok_cons {p:Program}{f:Nat}{x:FI}{F:FT}(h:FI.ok p f x=true)(hc:Xm p f=true)(hF:FT.ok p F):FT.ok p ((f,x)::F):=fun g y hg=>by
 simp only[U1]at hg
 rw[Bool.cond_eq_ite]at hg
 split at hg
 ·rename_i e
  cases hg
  have e:f=g:=Nat.eq_of_beq_eq_true e
  subst e
  exact⟨h,hc⟩
 ·exact hF g y hg

def RV.run (sl:Xd)(ob:Xa):RV->Option V
 | .t k=>some (look sl k)
 | .c k n ag=>ldR ob n ag (look sl k)
def X77 (sl:Xd)(ob:Xa):List RV->Option (List V)
 | []=>some []
 | x::r=>match x.run sl ob with
  | some v=>(X77 sl ob r).map (v::·)
  | none=>none
def Xrw:List V->Xa->List V×Xa
 | [],ob=>([],ob)
 | v::r,ob=>match V.giv ob v with
  | some (d,ob')=>let p:=Xrw r ob'; (.d d::p.1,p.2)
  | none=>let p:=Xrw r ob; (v::p.1,p.2)
def J4 (n:Nat)(vs:List V)(ob:Xa):Option Xa:=
 let kp:=V.idss vs++Xrx ob
 bif !V.mens (Xf n kp) vs&&Xg (Xf n kp) (Y8 (Xf n kp) ob) then some (Y8 (Xf n kp) ob) else none
def X8r (n:Nat)(rs:List RV)(sl:Xd)(ob:Xa):Option (Out×Xa):=match X77 sl ob rs with
 | some vs=>(J4 n (Xrw vs ob).1 (Xrw vs ob).2).map fun b=>(.ret (Wk (Xrw vs ob).1),b)
 | none=>none
def Xry (n:Nat):Xa->List Nat
 | []=>[]
 | (j,x)::r=>bif decide (j<n) then Xrx [(j,x)]++Xry n r else Xry n r
def X3c (kp:List Nat):Xa->List Nat
 | []=>[]
 | (j,x)::r=>bif kp.contains j then Xrx [(j,x)]++X3c kp r else X3c kp r
def Xzr (ob:Xa):Nat->List Nat->List Nat
 | 0,kp=>kp
 | k+1,kp=>Xzr ob k (kp++X3c kp ob)
def Xsi (n:Nat)(vs:List V)(ob:Xa):Option Xa:=
 let kp:=Xzr ob 3 (V.idss vs++Xry n ob)
 bif !V.mens (Xf n kp) vs&&Xg (Xf n kp) (Y8 (Xf n kp) ob) then some (Y8 (Xf n kp) ob) else none
def Yky (n:Nat)(rs:List RV)(sl:Xd)(ob:Xa):Option (Out×Xa):=match X77 sl ob rs with
 | some vs=>(Xsi n (Xrw vs ob).1 (Xrw vs ob).2).map fun b=>(.ret (Wk (Xrw vs ob).1),b)
 | none=>none
def Xqi (n:Nat)(rs:List RV):Rs->Option (Out×Xa)
 | some (.normal,sl,ob)=>Yky n rs sl ob
 | some (.ret,sl,ob)=>Yky n rs sl ob
 | _=>none
def X2g (n:Nat)(rs:List RV):Rs->Option (Out×Xa)
 | some (.normal,sl,ob)=>X8r n rs sl ob
 | some (.ret,sl,ob)=>X8r n rs sl ob
 | some (.panic v,_,ob)=>(J4 n [v] ob).map fun b=>(.panic v,b)
 | _=>none
def Xqk (n:Nat)(rs:List RV):Rs->Option (Out×Xa)
 | some (.normal,sl,ob)=>X8r n rs sl ob
 | some (.ret,sl,ob)=>X8r n rs sl ob
 | _=>none
def Xy0 (n:Nat)(rs:List RV)(sl:Xd)(ob:Xa):Option (Out×Xa):=match X77 sl ob rs with
 | some vs=>(J4 n vs ob).map fun b=>(.ret (Wk vs),b)
 | none=>none
def Xqj (n:Nat)(rs:List RV):Rs->Option (Out×Xa)
 | some (.normal,sl,ob)=>Xy0 n rs sl ob
 | some (.ret,sl,ob)=>Xy0 n rs sl ob
 | some (.panic v,_,ob)=>(J4 n [v] ob).map fun b=>(.panic v,b)
 | _=>none
def Xgq (rs:List RV)(sl:Xd)(ob:Xa):Option V:=match X77 sl ob rs with
 | some vs=>(V.givs ob vs).map fun p=>Wk (p.1.map .d)
 | none=>none
def Xhr (rs:List RV):Rs->Option V
 | some (.normal,sl,ob)=>Xgq rs sl ob
 | some (.ret,sl,ob)=>Xgq rs sl ob
 | _=>none

def X9p (R:Fns)(L:Nat)(F:FT)(g:Nat)(vs:List V)(ob:Xa)(rv:Option V):Option Xa:=match U1 F g with
 | some (.rc its keep k s n)=>bif Nat.beq n vs.length then
   (match Xy3 R its ((k,rv.getD (.d .nili))::Vb 0 vs) ob with
    | .ok sl ob'=>(match s.run R L (Xk sl keep) ob' with
     | some (.normal,_,ob2)=>J4 (Xb ob) [] ob2
     | some (.ret,_,ob2)=>J4 (Xb ob) [] ob2
     | _=>none)
    | _=>none)
  else none
 | _=>none
def V.isIfc:V->Bool
 | .iface _ _=>true
 | .d (.iface _ _)=>true
 | _=>false
def X2q (R:Fns)(L:Nat)(F:FT)(g:Nat)(cl:List V)(rs:List RV):Rs->Option V
 | some (.normal,sl,ob)=>(X9p R L F g cl ob none).bind fun ob'=>Xgq rs sl ob'
 | some (.ret,sl,ob)=>(X9p R L F g cl ob none).bind fun ob'=>Xgq rs sl ob'
 | some (.panic v,sl,ob)=>bif v.isIfc then (X9p R L F g cl ob (some v)).bind fun ob'=>Xgq rs sl ob' else none
 | _=>none
def X98 (R:Fns)(L:Nat)(F:FT)(rs:List RV):FSt->Xd->Xa->Option V
 | .pre s r,sl,ob=>match s.run R L sl ob with
  | some (.normal,sl',ob')=>X98 R L F rs r sl' ob'
  | some (.ret,sl',ob')=>Xgq rs sl' ob'
  | _=>none
 | .dfr its keep k s,sl,ob=>match Xy3 R its sl ob with
  | .ok sl' ob'=>(match look (Xk sl' keep) k with
   | .fn g fi ca=>bif R.ca g then X2q R L F g (fi++ca) rs (s.run R L (Xk sl' keep) ob') else none
   | _=>none)
  | _=>none

def pcD (R:Fns)(L:Nat)(F:FT)(f:Nat)(ds:List D):Option V:=match U1 F f with
 | some (.pl s rs n)=>bif Nat.beq n ds.length then Xhr rs (s.run R L (Vb 0 (ds.map .d)) []) else none
 | some (.pr s rs n)=>bif Nat.beq n ds.length then Xhr rs (s.run R L (Vb 0 (ds.map .d)) []) else none
 | some (.br s rs n)=>bif Nat.beq n ds.length then X9b V.eqb (Xhr rs) (s.runM R L (Vb 0 (ds.map .d)) []) else none
 | some (.df s rs n)=>bif Nat.beq n ds.length then X98 R L F rs s (Vb 0 (ds.map .d)) [] else none
 | _=>none
def X99 (o:Option V):Option V:=match o with
 | some v=>bif v.flatR then some v else none
 | none=>none
def pcX (X R:Fns)(L:Nat)(F:FT)(f:Nat)(ds:List D)(ob:Xa):Option V:=match X.pc f (ds.map .d) ob with
 | some v=>some v
 | none=>pcD R L F f ds
def pcR (X R:Fns)(L:Nat)(F:FT)(f:Nat)(vs:List V)(ob:Xa):Option V:=match V.allD vs with
 | some ds=>pcX X R L F f ds ob
 | none=>match V.toDs ob 12 vs with
  | some ds=>X99 (pcX X R L F f ds [])
  | none=>none
def acR (R:Fns)(L:Nat)(F:FT)(f:Nat)(vs:List V)(ob:Xa):Option (Out×Xa):=match U1 F f with
 | some (.pl s rs n)=>bif Nat.beq n vs.length then X2g (Xb ob) rs (s.run R L (Vb 0 vs) ob) else none
 | some (.kp s rs n)=>bif Nat.beq n vs.length then Xqj (Xb ob) rs (s.run R L (Vb 0 vs) ob) else none
 | some (.pr s rs n)=>bif Nat.beq n vs.length then Xqk (Xb ob) rs (s.run R L (Vb 0 vs) ob) else none
 | some (.br s rs n)=>bif Nat.beq n vs.length then X9b Ymi (Xqi (Xb ob) rs) (s.runM R L (Vb 0 vs) ob) else none
 | some (.df _ _ _)=>match V.allD vs with
  | some ds=>(pcD R L F f ds).map fun v=>(.ret v,ob)
  | none=>none
 | _=>none
def fns (L:Nat)(F:FT)(X:Fns):Nat->Fns
 | 0=>X
 | n+1=>⟨fun f vs ob=>match X.call f vs ob with
   | some r=>some r
   | none=>acR (fns L F X n) L F f vs ob,
  fun f vs ob=>pcR X (fns L F X n) L F f vs ob,
  fun f=>(U1 F f).isSome||X.ca f,X.gl,fun id vs ob=>ydR (fns L F X n) L X.lt id vs ob,X.lt,X.xc⟩

section
variable {P:Prg} {R:Fns} {L:Nat} {F:FT}
theorem W8 {sl:Xd}{ob:Xa}:∀(rs:List RV) (K:List V->Prop) (vs:List V),X77 sl ob rs=some vs->K vs->Wj sl ob rs K
 | [],K,vs,h,hK=>by cases h; exact hK
 | x::r,K,vs,h,hK=>by
  simp only[X77]at h
  split at h
  ·rename_i v hv
   rw[Option.map_eq_some_iff]at h
   obtain⟨l,hl,rfl⟩:=h
   simp only[Wj]
   have hr:=W8 r (fun vs=>K (v::vs)) l hl hK
   cases x with
   | t k=>simp only[RV.run,Option.some.injEq]at hv; subst hv; exact hr
   | c k n ag=>
    simp only[RV.run]at hv
    simp only[RV.wp]
    have h0:(C.ld n ag (.t 0)).run [(0,look sl k)] ob=some v:=by simpa[C.run,Xse,Xrv,A.ev,look]using hv
    have h1:=C.run_sound (K:=fun v=>Wj sl ob r fun vs=>K (v::vs)) h0 hr
    simpa[C.wp,A.ev,look]using h1
  ·cases h
theorem Ue:∀(vs:List V) (ob:Xa) (K:List V->Xa->Prop),K (Xrw vs ob).1 (Xrw vs ob).2->Xck vs ob K
 | [],ob,K,h=>h
 | v::r,ob,K,h=>by
  simp only[Xrw]at h
  simp only[Xck]
  split at h
  ·rename_i d ob' e
   rw[e]
   exact Ue r ob' _ h
  ·rename_i e
   rw[e]
   exact Ue r ob _ h
theorem Zd {n:Nat}{vs:List V}{ob b:Xa}{K:Xa->Prop}(h:J4 n vs ob=some b)(hK:K b):Yd n K vs ob:=by
 unfold J4 at h
 rw[Bool.cond_eq_ite]at h
 split at h
 ·rename_i hc
  simp only[Bool.and_eq_true,Bool.not_eq_true']at hc
  cases h
  exact⟨_,hc.1,hc.2,hK⟩
 ·cases h
theorem Uh {n:Nat}{rs:List RV}{sl:Xd}{ob b:Xa}{o:Out}{K:Out->Xa->Prop}(h:X8r n rs sl ob=some (o,b))(hK:K o b):Wj sl ob rs fun vs=>Xck vs ob fun vs ob=>Yd n (K (.ret (Wk vs))) vs ob:=by
 unfold X8r at h
 split at h
 ·rename_i vs hv
  rw[Option.map_eq_some_iff]at h
  obtain⟨b',hb,e⟩:=h
  cases e
  exact W8 rs _ vs hv (Ue vs ob _ (Zd hb hK))
 ·cases h
theorem Xik {n:Nat}{rs:List RV}{r:Rs}{o:Out}{b:Xa}{K:Out->Xa->Prop}(h:X2g n rs r=some (o,b))(hK:K o b):r.to (Vd n rs K):=by
 unfold X2g at h
 split at h
 ·exact Uh h hK
 ·exact Uh h hK
 ·rw[Option.map_eq_some_iff]at h
  obtain⟨b',hb,e⟩:=h
  cases e
  exact Zd hb hK
 ·cases h
theorem Xf2 {n:Nat}{rs:List RV}{r:Rs}{o:Out}{b:Xa}{K:Out->Xa->Prop}(h:Xqk n rs r=some (o,b))(hK:K o b):r.to (Xqh n rs K):=by
 unfold Xqk at h
 split at h
 ·exact Uh h hK
 ·exact Uh h hK
 ·cases h
theorem Xg5 {n:Nat}{vs:List V}{ob b:Xa}{K:Xa->Prop}(h:Xsi n vs ob=some b)(hK:K b):Yd n K vs ob:=by
 unfold Xsi at h
 rw[Bool.cond_eq_ite]at h
 split at h
 ·rename_i hc
  simp only[Bool.and_eq_true,Bool.not_eq_true']at hc
  cases h
  exact⟨_,hc.1,hc.2,hK⟩
 ·cases h
theorem Xdn {n:Nat}{rs:List RV}{sl:Xd}{ob b:Xa}{o:Out}{K:Out->Xa->Prop}(h:Yky n rs sl ob=some (o,b))(hK:K o b):Wj sl ob rs fun vs=>Xck vs ob fun vs ob=>Yd n (K (.ret (Wk vs))) vs ob:=by
 unfold Yky at h
 split at h
 ·rename_i vs hv
  rw[Option.map_eq_some_iff]at h
  obtain⟨b',hb,e⟩:=h
  cases e
  exact W8 rs _ vs hv (Ue vs ob _ (Xg5 hb hK))
 ·cases h
theorem Xf0 {n:Nat}{rs:List RV}{r:Rs}{o:Out}{b:Xa}{K:Out->Xa->Prop}(h:Xqi n rs r=some (o,b))(hK:K o b):r.to (Xqh n rs K):=by
 unfold Xqi at h
 split at h
 ·exact Xdn h hK
 ·exact Xdn h hK
 ·cases h
theorem Xb6 {n:Nat}{rs:List RV}{sl:Xd}{ob b:Xa}{o:Out}{K:Out->Xa->Prop}(h:Xy0 n rs sl ob=some (o,b))(hK:K o b):Wj sl ob rs fun vs=>Yd n (K (.ret (Wk vs))) vs ob:=by
 unfold Xy0 at h
 split at h
 ·rename_i vs hv
  rw[Option.map_eq_some_iff]at h
  obtain⟨b',hb,e⟩:=h
  cases e
  exact W8 rs _ vs hv (Zd hb hK)
 ·cases h
theorem Xf1 {n:Nat}{rs:List RV}{r:Rs}{o:Out}{b:Xa}{K:Out->Xa->Prop}(h:Xqj n rs r=some (o,b))(hK:K o b):r.to (Xd1 n rs K):=by
 unfold Xqj at h
 split at h
 ·exact Xb6 h hK
 ·exact Xb6 h hK
 ·rw[Option.map_eq_some_iff]at h
  obtain⟨b',hb,e⟩:=h
  cases e
  exact Zd hb hK
 ·cases h
theorem Zs {rs:List RV}{sl:Xd}{ob:Xa}{v:V}{K:V->Prop}(h:Xgq rs sl ob=some v)(hK:K v):Wj sl ob rs fun vs=>Wm (fun l _=>K (Wk (l.map .d))) (V.givs ob vs):=by
 unfold Xgq at h
 split at h
 ·rename_i vs hv
  rw[Option.map_eq_some_iff]at h
  obtain⟨p,hp,rfl⟩:=h
  refine W8 rs _ vs hv ?_
  rw[hp]; exact hK
 ·cases h
theorem U5 {rs:List RV}{r:Rs}{v:V}{K:V->Prop}(h:Xhr rs r=some v)(hK:K v):r.to (Js rs K):=by
 unfold Xhr at h
 split at h
 ·exact Zs h hK
 ·exact Zs h hK
 ·cases h
variable (hm:P.p.follows .mixedOrders=true) (hF:FT.ok P.p F) (hLp:FT.lps P F) (hR:R.ok P)
include hm hF hLp hR
theorem Jk {g:Nat}{vs:List V}{ob b:Xa}{rv:Option V}{K:Xa->Prop}(h:X9p R L F g vs ob rv=some b)(hK:K b):DCall P g vs ob rv K:=by
 unfold X9p at h
 split at h
 ·rename_i its keep k s n hl
  rw[Bool.cond_eq_ite]at h
  split at h
  ·rename_i e
   have e:n=vs.length:=Nat.eq_of_beq_eq_true e
   subst e
   have hok:=(hF g _ hl).1
   simp only[FI.ok]at hok
   refine Xc1 (keep:=keep) hm hok (Zw hR _ _ _ ?_)
   split at h
   ·rename_i sl ob' e1
    rw[e1]
    refine S.run_sound (L:=L) hR s _ _ _ (hLp g _ hl) ?_
    split at h
    ·rename_i e2; rw[e2]; exact Zd h hK
    ·rename_i e2; rw[e2]; exact Zd h hK
    ·cases h
   ·cases h
  ·cases h
 ·cases h
theorem Xin {g:Nat}{cl:List V}{rs:List RV}{r:Rs}{v:V}{K:V->Prop}(h:X2q R L F g cl rs r=some v)(hK:K v):r.to (Xd7 P g cl rs K):=by
 unfold X2q at h
 split at h
 ·rw[Option.bind_eq_some_iff]at h
  obtain⟨b,h1,h2⟩:=h
  exact Jk hm hF hLp hR h1 (Zs h2 hK)
 ·rw[Option.bind_eq_some_iff]at h
  obtain⟨b,h1,h2⟩:=h
  exact Jk hm hF hLp hR h1 (Zs h2 hK)
 ·rw[Bool.cond_eq_ite]at h
  split at h
  ·rename_i hi
   rw[Option.bind_eq_some_iff]at h
   obtain⟨b,h1,h2⟩:=h
   refine⟨?_,Jk hm hF hLp hR h1 (Zs h2 hK)⟩
   unfold V.isIfc at hi
   split at hi
   ·exact⟨_,_,.inl rfl⟩
   ·exact⟨_,.any,.inr ⟨_,rfl⟩⟩
   ·cases hi
  ·cases h
 ·cases h
theorem Xc7 {rs:List RV}{K:V->Prop}:∀(s:FSt) (sl:Xd) (ob:Xa) (v:V),s.loops P->X98 R L F rs s sl ob=some v->K v->fwp P rs K s sl ob
 | .pre s r,sl,ob,v,hl,h,hK=>by
  simp only[X98]at h
  simp only[fwp]
  refine S.run_sound (L:=L) hR s _ _ _ hl.1 ?_
  split at h
  ·rename_i e; rw[e]; exact Xc7 r _ _ v hl.2 h hK
  ·rename_i e; rw[e]; exact Zs h hK
  ·cases h
 | .dfr its keep k s,sl,ob,v,hl,h,hK=>by
  simp only[X98]at h
  simp only[fwp]
  refine Zw hR _ _ _ ?_
  split at h
  ·rename_i sl' ob' e
   rw[e]
   simp only[Rq.to]
   split at h
   ·rename_i g fi ca e2
    rw[e2]
    rw[Bool.cond_eq_ite]at h
    split at h
    ·rename_i hc
     exact⟨hR.ca _ hc,S.run_sound (L:=L) hR s _ _ _ hl (Xin hm hF hLp hR h hK)⟩
    ·cases h
   ·cases h
  ·cases h
theorem Xho {f:Nat}{ds:List D}{v:V}{ob:Xa}{K:V->Prop}(h:pcD R L F f ds=some v)(hK:K v):PCall P f (ds.map .d) ob K:=by
 unfold pcD at h
 split at h
 ·rename_i s rs n hl
  rw[Bool.cond_eq_ite]at h
  split at h
  ·rename_i e
   have e:n=ds.length:=Nat.eq_of_beq_eq_true e
   subst e
   exact Xdi hm (hF f _ hl).1 (S.run_sound (L:=L) hR s _ _ _ (hLp f _ hl) (U5 h hK))
  ·cases h
 ·rename_i s rs n hl
  rw[Bool.cond_eq_ite]at h
  split at h
  ·rename_i e
   have e:n=ds.length:=Nat.eq_of_beq_eq_true e
   subst e
   exact U4 hm (hF f _ hl).1 (S.run_sound (L:=L) hR s _ _ _ (hLp f _ hl) (U5 h hK))
  ·cases h
 ·rename_i s rs n hl
  rw[Bool.cond_eq_ite]at h
  split at h
  ·rename_i e
   have e:n=ds.length:=Nat.eq_of_beq_eq_true e
   subst e
   exact U4 hm (hF f _ hl).1 (S.runM_sound (L:=L) hR s _ _ _ (hLp f _ hl) (Xp2 V.eqb_eq h fun x hx=>U5 hx hK))
  ·cases h
 ·rename_i s rs n hl
  rw[Bool.cond_eq_ite]at h
  split at h
  ·rename_i e
   have e:n=ds.length:=Nat.eq_of_beq_eq_true e
   subst e
   exact Xb0 hm (hF f _ hl).1 (Xc7 hm hF hLp hR s _ _ v (hLp f _ hl) h hK)
  ·cases h
 ·cases h
theorem Xhp {X:Fns}(hX:X.ok P){f:Nat}{ds:List D}{v:V}{ob:Xa}{K:V->Prop}(h:pcX X R L F f ds ob=some v)(hK:K v):PCall P f (ds.map .d) ob K:=by
 unfold pcX at h
 split at h
 ·rename_i r hr; cases h; exact (hX.pc _ _ _ _ hr).mono fun v' e=>by subst e; exact hK
 ·exact Xho hm hF hLp hR h hK
theorem Xtr {X:Fns}(hX:X.ok P){f:Nat}{vs:List V}{v:V}{ob:Xa}(h:pcR X R L F f vs ob=some v):PCall P f vs ob fun v'=>v'=v:=by
 unfold pcR at h
 split at h
 ·rename_i ds hd
  rw[V.allD_map hd]
  exact Xhp hm hF hLp hR hX h rfl
 ·split at h
  ·rename_i ds hd
   unfold X99 at h
   split at h
   ·rename_i v' hv
    rw[Bool.cond_eq_ite]at h
    split at h
    ·rename_i hfl
     cases h
     exact PCall.borrow hd (Xhp hm hF hLp hR hX hv ⟨hfl,rfl⟩)
    ·cases h
   ·cases h
  ·cases h
theorem Xpy {f:Nat}{vs:List V}{o:Out}{ob b:Xa}(h:acR R L F f vs ob=some (o,b)):ACall P f vs ob fun o' b'=>o'=o/\b'=b:=by
 unfold acR at h
 split at h
 ·rename_i s rs n hl
  rw[Bool.cond_eq_ite]at h
  split at h
  ·rename_i e
   have e:n=vs.length:=Nat.eq_of_beq_eq_true e
   subst e
   exact Xcr hm (hF f _ hl).1 (S.run_sound (L:=L) hR s _ _ _ (hLp f _ hl) (Xik h ⟨rfl,rfl⟩))
  ·cases h
 ·rename_i s rs n hl
  rw[Bool.cond_eq_ite]at h
  split at h
  ·rename_i e
   have e:n=vs.length:=Nat.eq_of_beq_eq_true e
   subst e
   exact Xa3 hm (hF f _ hl).1 (S.run_sound (L:=L) hR s _ _ _ (hLp f _ hl) (Xf1 h ⟨rfl,rfl⟩))
  ·cases h
 ·rename_i s rs n hl
  rw[Bool.cond_eq_ite]at h
  split at h
  ·rename_i e
   have e:n=vs.length:=Nat.eq_of_beq_eq_true e
   subst e
   exact Xa4 hm (hF f _ hl).1 (S.run_sound (L:=L) hR s _ _ _ (hLp f _ hl) (Xf2 h ⟨rfl,rfl⟩))
  ·cases h
 ·rename_i s rs n hl
  rw[Bool.cond_eq_ite]at h
  split at h
  ·rename_i e
   have e:n=vs.length:=Nat.eq_of_beq_eq_true e
   subst e
   exact Xa4 hm (hF f _ hl).1 (S.runM_sound (L:=L) hR s _ _ _ (hLp f _ hl) (Xp2 X25 h fun x hx=>Xf0 hx ⟨rfl,rfl⟩))
  ·cases h
 ·split at h
  ·rename_i ds hd
   rw[Option.map_eq_some_iff]at h
   obtain⟨v,hv,e⟩:=h
   cases e
   rw[V.allD_map hd]
   exact PCall.acall (Xho hm hF hLp hR hv ⟨rfl,rfl⟩)
  ·cases h
 ·cases h
end
theorem Yac {p:Program}{F:FT}(hF:FT.ok p F)(f:Nat)(h:(U1 F f).isSome=true):Xm p f=true:=by
 obtain⟨x,hx⟩:=Option.isSome_iff_exists.1 h
 exact (hF f x hx).2
theorem Xbl {P:Prg}{L:Nat}{F:FT}{X:Fns}(hm:P.p.follows .mixedOrders=true)(hF:FT.ok P.p F)(hLp:FT.lps P F)(hX:X.ok P)(hlt:∀tag ps x y,X.lt tag=some (ps,x,y)->W0 P tag ps x y/\x.noR=true/\y.noR=true):∀n,(fns L F X n).ok P
 | 0=>hX
 | n+1=>by
  refine⟨fun f vs ob o b h=>?_,fun f vs ob v h=>?_,fun f h=>?_,fun g x h=>hX.gl g x h,fun id vs ob o b h=>?_,fun f vs ob v b h=>hX.xc f vs ob v b h⟩
  ·simp only[fns]at h
   split at h
   ·rename_i r hr; cases h; exact hX.call _ _ _ _ _ hr
   ·exact Xpy hm hF hLp (Xbl hm hF hLp hX hlt n) h
  ·simp only[fns]at h
   exact Xtr hm hF hLp (Xbl hm hF hLp hX hlt n) hX h
  ·simp only[fns,Bool.or_eq_true]at h
   rcases h with h | h
   ·exact Yac hF f h
   ·exact hX.ca f h
  ·simp only[fns]at h
   exact Xu1 hm (Xbl hm hF hLp hX hlt n) hlt h
end Go.Ab
namespace Go.Proofs.YtolkimpelpnpbaaGreatDoor
open Go Go.Ab
def Vs:FT:=[(74,.df Ym8 [.c 2 1 false,.c 3 1 false,.c 4 1 false] 1),
 (39,.pl Ymt [.t 2] 1),
 (126,.rc Xi3 Xr4 6 X3q 3),
 (127,.pl X3r [.c 0 256 true] 0),
 (128,.pl X3s [] 1),
 (129,.pl X3t [] 1),
 (130,.pl X3u [] 1),
 (131,.pl X3v [] 1),
 (132,.pl X3w [] 1),
 (112,.pl Yat [.t 2] 1),
 (113,.pl Yau [.t 2] 1),
 (55,.pl Yul [.t 2] 1),
 (208,.pl Ycq [.t 2] 1),
 (218,.pl X34 [.t 4] 2),
 (219,.pl X35 [.t 3] 2),
 (220,.pl X36 [] 3),
 (221,.pl X37 [.t 3] 2),
 (222,.pl X38 [.t 4] 2),
 (223,.pl X39 [.t 2] 1),
 (285,.pl X4e [.t 4] 2),
 (25,.pl Ymp [.t 2] 1),
 (9,.pl ir9 [.t 4] 2),
 (48,.pl Ymx [.t 2] 1),
 (26,.pl Ymq [.t 2] 1),
 (49,.pl Ymy [.t 2,.t 3] 1),
 (125,.pl X3p [.t 6] 3),
 (40,.pl Ymu [.t 4,.t 5] 2),
 (216,.pl X32 [.c 4 6 true,.t 5] 2),
 (217,.pl X33 [.t 6] 3),
 (71,.pl Ym5 [.t 4,.t 5] 2),
 (69,.pl Ym3 [.t 6,.t 7] 3),
 (72,.pl Ym6 [.t 4] 2),
 (245,.pl X4b [.c 6 6 true,.t 7] 3),
 (252,.pl X4c [.t 4] 2),
 (178,.pl X3y [.t 4] 2),
 (231,.pl X4a [.t 4] 2),
 (121,.pl X3l [.t 6,.t 7] 3),
 (119,.pl X3j [.t 4] 2),
 (120,.pl X3k [.t 4] 3),
 (123,.pl X3n [.c 4 4 true,.t 5] 2),
 (124,.pl X3o [.t 2] 1),
 (213,.pl X3z [.t 4] 2),
 (214,.pl X30 [.t 4] 3),
 (215,.pl X31 [.t 6,.t 7] 3),
 (319,.pl X4i [.t 4] 2),
 (320,.pl X4j [.t 4] 2),
 (321,.pl X4k [.t 4] 2),
 (322,.pl X4l [.t 4] 2),
 (323,.pl X4m [.t 2] 1),
 (284,.pl X4d [.t 6,.t 7] 3),
 (316,.pl X4g [.t 4] 2),
 (317,.pl X4h [.t 4] 3),
 (70,.pl Ym4 [.t 2] 1),
 (122,.pl X3m [.t 2] 1),
 (161,.pl X3x [.t 2] 1),
 (301,.pl X4f [.c 0 5 true] 0),
 (21,.pl Ymo [.t 4] 2),
 (41,.pl Ymv [.t 2] 1),
 (42,.pl Ymw [.t 6] 3),
 (73,.pl Ym7 [.t 4] 2),
 (50,.pl Yui [.c 2 1 false] 1),
 (106,.pl Yap [] 3),
 (20,.pl Ymn [.t 4] 2),
 (38,.pl Yms [.t 4] 2),
 (10,.pl Yt5 [.t 4,.t 5] 2),
 (13,.pl Yt7 [.t 4] 2),
 (16,.pl Ymm [.c 6 17 true,.t 7] 3),
 (18,.br Yby [.c 4 1 false,.c 5 1 false] 2),
 (27,.pl Yua [.t 4] 2),
 (28,.pl Yub [.t 2] 1),
 (31,.pl Yuc [.t 4] 2),
 (34,.pl Ymr [.c 4 17 true,.t 5] 2),
 (36,.kp Yud [.t 2] 1),
 (51,.pl Ymz [.c 4 2 true,.t 5] 2),
 (52,.pl Ym0 [.t 4] 2),
 (53,.kp Yuj [.t 2] 1),
 (54,.pl Yuk [.t 4] 2),
 (61,.pl Yum [.t 4] 2),
 (62,.pl Yun [.t 3] 2),
 (64,.pl Ym1 [.t 4] 3),
 (65,.pl Ym2 [.c 4 14 true,.t 5] 3),
 (67,.pl Yuo [] 2),
 (68,.pl Yup [.t 8] 6),
 (107,.pl X3h [.t 2] 1),
 (108,.pl Yaq [] 2),
 (109,.pl X3i [] 2),
 (110,.pl Yar [.t 2] 1),
 (111,.pl Yas [.t 4] 2),
 (118,.pl Yav [.t 4] 2),
 (204,.pr Xnz [.t 4] 2),
 (8,.pl ir8 [.t 0] 0),
 (44,.df Yue [.c 2 6 true,.c 3 1 false,.c 4 1 false] 1),
 (46,.pl Yug [.c 2 7 true,.t 3] 1),
 (79,.pl Yuu [] 1),
 (82,.pl Yux [] 2),
 (91,.pl Yu0 [] 2),
 (96,.pl Yu4 [.t 2] 1),
 (98,.pl Yu6 [.t 2] 1),
 (100,.pl Yaj [.t 2] 1),
 (147,.pl Yba [.c 2 11 true] 1),
 (148,.pl Ybb [.t 8] 4),
 (149,.pl Ybc [.c 2 7 true] 1),
 (159,.pl Ybm [.t 4,.t 5] 2),
 (160,.pl Ybn [.t 4,.t 5] 2),
 (164,.pl Ybq [.t 4] 2),
 (168,.pl Ybr [] 4),
 (190,.pl Yb9 [.t 2] 1),
 (197,.pl Ycg [.t 2] 1),
 (200,.pl Ycj [.c 2 14 true] 1),
 (224,.pl Ycr [.c 6 4 true] 3),
 (225,.pl Ycs [.t 4] 2),
 (226,.pl Yct [.c 2 6 true] 1),
 (232,.pl Ycy [.t 4] 2),
 (236,.pl Yc2 [.t 4] 2),
 (241,.pl Yc7 [.t 4] 2),
 (244,.pl Yda [.t 4] 2),
 (250,.pl Ydf [.t 4] 2),
 (251,.pl Ydg [.t 3] 2),
 (255,.pl Ydj [.t 3] 2),
 (286,.pl Yd0 [.t 1] 1),
 (287,.pl Yd1 [.t 8] 4),
 (289,.pl Yd3 [.t 6] 3),
 (291,.pl Yd5 [.t 6] 3),
 (294,.pl Yd8 [.t 4] 2),
 (298,.pl Yec [.c 6 6 true,.t 7] 3),
 (299,.pl Yed [.t 2] 1),
 (318,.pl Yek [.t 4] 2),
 (23,.pl Yt8 [.c 2 7 true,.t 3,.t 4] 1),
 (24,.pl Yt9 [.c 4 17 true,.t 5] 2),
 (77,.pl Yus [] 1),
 (81,.pl Yuw [] 1),
 (83,.kp Yuy [.t 2,.t 3] 1),
 (93,.pl Yu2 [] 2),
 (102,.rc Xr3 X3g 7 Yal 3),
 (103,.pl Yam [.t 2] 1),
 (105,.pl Yao [.c 4 17 true] 2),
 (135,.pl Yay [.t 2] 1),
 (136,.pl Yaz [] 2),
 (137,.pl Ya0 [.t 6] 3),
 (139,.pl Ya2 [.c 2 4 true] 1),
 (140,.pl Ya3 [.t 6] 3),
 (141,.pl Ya4 [.c 2 11 true] 1),
 (142,.pl Ya5 [.c 2 4 true] 1),
 (143,.pl Ya6 [.t 8] 4),
 (144,.pl Ya7 [.t 4] 2),
 (150,.pl Ybd [.t 8] 4),
 (162,.pl Ybo [.t 4,.t 5] 2),
 (176,.pl Ybv [.t 2] 1),
 (177,.pl Ybw [.t 4] 2),
 (180,.pl Ybz [.t 4] 2),
 (184,.pl Yb3 [.t 2] 1),
 (186,.pl Yb5 [.t 6] 3),
 (188,.kp Yb7 [.c 2 2 true,.t 3] 1),
 (189,.pl Yb8 [.t 2] 1),
 (192,.pl Ycb [.t 2] 1),
 (193,.pl Ycc [.c 1 14 true] 1),
 (198,.pl Ych [.t 8] 4),
 (202,.pl Ycl [.t 4] 2),
 (235,.pl Yc1 [.t 6] 3),
 (249,.pl Yde [.t 3] 2),
 (253,.pl Ydh [.t 4] 2),
 (257,.pl Ydl [.t 4] 2),
 (259,.pl Ydn [.t 4] 2),
 (262,.pl Ydp [.t 2] 1),
 (270,.pl Ydx [] 4),
 (295,.pl Yd9 [.t 4] 2),
 (297,.pl Yeb [.t 4] 2),
 (303,.pl Yeg [.t 4] 2),
 (263,.pl Ydq [] 2),
 (264,.pl Ydr [.t 2] 1),
 (265,.pl Yds [.t 2] 1),
 (305,.pl Yei [] 2),
 (306,.pl Yej [.t 6] 3),
 (342,.pl Yel [.t 6] 3),
 (343,.pl Yem [.t 2] 1),
 (344,.pl Yen [] 2),
 (346,.pl Yeo [] 3),
 (76,.pl Yur [] 1),
 (78,.pl Yut [] 1),
 (84,.rc Xzy Yeq 5 Yuz 2),
 (92,.pl Yu1 [] 3),
 (95,.pl Yu3 [] 2),
 (99,.pl Yu7 [.t 2] 1),
 (104,.kp Yan [.c 2 18 true] 1),
 (138,.pl Ya1 [.t 4] 2),
 (145,.pl Ya8 [.c 2 8 true] 1),
 (151,.pl Ybe [.c 2 5 true] 1),
 (152,.pl Ybf [.t 8] 4),
 (154,.pl Ybh [.t 4,.t 5] 2),
 (156,.pl Ybj [.t 4,.t 5] 2),
 (157,.pl Ybk [.t 2] 1),
 (174,.pl Ybt [.t 2] 1),
 (175,.pl Ybu [.t 3] 2),
 (179,.pl Ybx [.t 4] 2),
 (182,.pl Yb1 [.t 4] 2),
 (185,.pl Yb4 [.t 2] 1),
 (191,.pl Yca [.c 1 14 true] 1),
 (196,.pl Ycf [.c 1 14 true] 1),
 (199,.pl Yci [.t 6] 3),
 (201,.pl Yck [] 1),
 (203,.pl Ycm [] 2),
 (207,.pl Ycp [.t 2] 1),
 (228,.pl Ycv [.t 2] 2),
 (229,.pl Ycw [.t 2,.t 3] 1),
 (234,.pl Yc0 [.t 4] 2),
 (239,.pl Yc5 [.t 6] 3),
 (242,.pl Yc8 [.t 2] 1),
 (248,.pl Ydd [.t 4] 2),
 (258,.pl Ydm [.t 6] 3),
 (260,.pr Xr5 [.t 4] 2),
 (261,.br Ydo [] 2),
 (266,.pl Ydt [.c 2 5 true] 1),
 (290,.br Yd4 [.t 4] 2),
 (292,.pl Yd6 [.t 4] 2),
 (296,.pl Yea [.t 4] 2),
 (302,.pl Yef [.t 4] 2),
 (304,.pl Yeh [.t 8] 4),
 (206,.pl Yco [.t 2] 1),
 (278,.pl Ydy [.t 2] 1),
 (279,.pl Ydz [.t 2] 1),
 (12,.pl Yt6 [.t 4] 2),
 (45,.df Yuf [.c 2 6 true,.c 3 1 false] 1),
 (47,.df Yuh [.c 4 17 true,.c 5 1 false,.c 6 1 false] 2),
 (75,.rc Xzx Yep 6 Yuq 3),
 (80,.pl Yuv [] 1),
 (97,.pl Yu5 [.t 2] 1),
 (101,.pl Yak [.t 2,.t 3,.t 4] 1),
 (133,.pl Yaw [] 3),
 (134,.pl Yax [] 2),
 (146,.pl Ya9 [.t 8] 4),
 (153,.pl Ybg [.c 2 4 true] 1),
 (155,.pl Ybi [.t 2] 1),
 (158,.pl Ybl [.t 4,.t 5] 2),
 (163,.pl Ybp [.t 2] 1),
 (173,.pl Ybs [.t 4] 2),
 (181,.pl Yb0 [.t 4] 2),
 (183,.pl Yb2 [.t 4] 2),
 (187,.pl Yb6 [.t 4] 2),
 (194,.pl Ycd [.c 1 14 true] 1),
 (195,.pl Yce [.c 6 4 true] 3),
 (205,.pl Ycn [] 5),
 (227,.pl Ycu [.t 4] 2),
 (230,.pl Ycx [.c 2 5 true] 1),
 (233,.pl Ycz [.t 6] 3),
 (237,.pl Yc3 [.t 6] 3),
 (238,.pl Yc4 [.t 4] 2),
 (240,.pl Yc6 [.t 4] 2),
 (243,.pl Yc9 [.t 2] 1),
 (246,.pl Ydb [.t 6] 3),
 (247,.pl Ydc [.t 2] 1),
 (254,.pl Ydi [.t 3] 2),
 (256,.pl Ydk [.t 4] 2),
 (267,.pl Ydu [.t 2] 1),
 (268,.pl Ydv [.t 4] 2),
 (269,.pl Ydw [] 2),
 (288,.pl Yd2 [.t 1] 1),
 (293,.pl Yd7 [.t 4] 2),
 (300,.pl Yee [.t 4] 2)]
theorem Xfd:FT.ok Tryz.prog Vs:=
 FT.ok_cons Yxi (by kernel_rfl)
 (FT.ok_cons Yw4 (by kernel_rfl)
 (FT.ok_cons X70 (by kernel_rfl)
 (FT.ok_cons Yii (by kernel_rfl)
 (FT.ok_cons Yij (by kernel_rfl)
 (FT.ok_cons Yik (by kernel_rfl)
 (FT.ok_cons Yil (by kernel_rfl)
 (FT.ok_cons Yim (by kernel_rfl)
 (FT.ok_cons Yin (by kernel_rfl)
 (FT.ok_cons Yo8 (by kernel_rfl)
 (FT.ok_cons Yo9 (by kernel_rfl)
 (FT.ok_cons Y4b (by kernel_rfl)
 (FT.ok_cons Yq4 (by kernel_rfl)
 (FT.ok_cons Yiw (by kernel_rfl)
 (FT.ok_cons Yix (by kernel_rfl)
 (FT.ok_cons Yiy (by kernel_rfl)
 (FT.ok_cons Yiz (by kernel_rfl)
 (FT.ok_cons Yi0 (by kernel_rfl)
 (FT.ok_cons Yi1 (by kernel_rfl)
 (FT.ok_cons Yi6 (by kernel_rfl)
 (FT.ok_cons Yw0 (by kernel_rfl)
 (FT.ok_cons ok9 (by kernel_rfl)
 (FT.ok_cons Yw8 (by kernel_rfl)
 (FT.ok_cons Yw1 (by kernel_rfl)
 (FT.ok_cons Yw9 (by kernel_rfl)
 (FT.ok_cons Yih (by kernel_rfl)
 (FT.ok_cons Yw5 (by kernel_rfl)
 (FT.ok_cons Yiu (by kernel_rfl)
 (FT.ok_cons Yiv (by kernel_rfl)
 (FT.ok_cons Yxf (by kernel_rfl)
 (FT.ok_cons Yxd (by kernel_rfl)
 (FT.ok_cons Yxg (by kernel_rfl)
 (FT.ok_cons Yi3 (by kernel_rfl)
 (FT.ok_cons Yi4 (by kernel_rfl)
 (FT.ok_cons Yip (by kernel_rfl)
 (FT.ok_cons Yi2 (by kernel_rfl)
 (FT.ok_cons Yid (by kernel_rfl)
 (FT.ok_cons Yib (by kernel_rfl)
 (FT.ok_cons Yic (by kernel_rfl)
 (FT.ok_cons Yif (by kernel_rfl)
 (FT.ok_cons Yig (by kernel_rfl)
 (FT.ok_cons Yir (by kernel_rfl)
 (FT.ok_cons Yis (by kernel_rfl)
 (FT.ok_cons Yit (by kernel_rfl)
 (FT.ok_cons Yja (by kernel_rfl)
 (FT.ok_cons Yjb (by kernel_rfl)
 (FT.ok_cons Yjc (by kernel_rfl)
 (FT.ok_cons Yjd (by kernel_rfl)
 (FT.ok_cons Yje (by kernel_rfl)
 (FT.ok_cons Yi5 (by kernel_rfl)
 (FT.ok_cons Yi8 (by kernel_rfl)
 (FT.ok_cons Yi9 (by kernel_rfl)
 (FT.ok_cons Yxe (by kernel_rfl)
 (FT.ok_cons Yie (by kernel_rfl)
 (FT.ok_cons Yio (by kernel_rfl)
 (FT.ok_cons Yi7 (by kernel_rfl)
 (FT.ok_cons Ywz (by kernel_rfl)
 (FT.ok_cons Yw6 (by kernel_rfl)
 (FT.ok_cons Yw7 (by kernel_rfl)
 (FT.ok_cons Yxh (by kernel_rfl)
 (FT.ok_cons Y38 (by kernel_rfl)
 (FT.ok_cons Yo4 (by kernel_rfl)
 (FT.ok_cons Ywy (by kernel_rfl)
 (FT.ok_cons Yw3 (by kernel_rfl)
 (FT.ok_cons Y3u (by kernel_rfl)
 (FT.ok_cons Y3w (by kernel_rfl)
 (FT.ok_cons Ywx (by kernel_rfl)
 (FT.ok_cons Y3x (by kernel_rfl)
 (FT.ok_cons Y30 (by kernel_rfl)
 (FT.ok_cons Y31 (by kernel_rfl)
 (FT.ok_cons Y32 (by kernel_rfl)
 (FT.ok_cons Yw2 (by kernel_rfl)
 (FT.ok_cons Y33 (by kernel_rfl)
 (FT.ok_cons Yxa (by kernel_rfl)
 (FT.ok_cons Ys4 (by kernel_rfl)
 (FT.ok_cons Y39 (by kernel_rfl)
 (FT.ok_cons Y4a (by kernel_rfl)
 (FT.ok_cons Y4c (by kernel_rfl)
 (FT.ok_cons Y4d (by kernel_rfl)
 (FT.ok_cons Yxb (by kernel_rfl)
 (FT.ok_cons Yxc (by kernel_rfl)
 (FT.ok_cons Y4e (by kernel_rfl)
 (FT.ok_cons Y4f (by kernel_rfl)
 (FT.ok_cons Yh9 (by kernel_rfl)
 (FT.ok_cons Yo5 (by kernel_rfl)
 (FT.ok_cons Yia (by kernel_rfl)
 (FT.ok_cons Yo6 (by kernel_rfl)
 (FT.ok_cons Yo7 (by kernel_rfl)
 (FT.ok_cons Ypa (by kernel_rfl)
 (FT.ok_cons Yiq (by kernel_rfl)
 (FT.ok_cons ok8 (by kernel_rfl)
 (FT.ok_cons Y34 (by kernel_rfl)
 (FT.ok_cons Y36 (by kernel_rfl)
 (FT.ok_cons Y4k (by kernel_rfl)
 (FT.ok_cons Y4n (by kernel_rfl)
 (FT.ok_cons Y4q (by kernel_rfl)
 (FT.ok_cons Y4u (by kernel_rfl)
 (FT.ok_cons Y4w (by kernel_rfl)
 (FT.ok_cons Yoy (by kernel_rfl)
 (FT.ok_cons Ypp (by kernel_rfl)
 (FT.ok_cons Ypq (by kernel_rfl)
 (FT.ok_cons Ypr (by kernel_rfl)
 (FT.ok_cons Yp1 (by kernel_rfl)
 (FT.ok_cons Yp2 (by kernel_rfl)
 (FT.ok_cons Yp5 (by kernel_rfl)
 (FT.ok_cons Yp6 (by kernel_rfl)
 (FT.ok_cons Yqn (by kernel_rfl)
 (FT.ok_cons Yqu (by kernel_rfl)
 (FT.ok_cons Yqx (by kernel_rfl)
 (FT.ok_cons Yq5 (by kernel_rfl)
 (FT.ok_cons Yq6 (by kernel_rfl)
 (FT.ok_cons Yq7 (by kernel_rfl)
 (FT.ok_cons Yrc (by kernel_rfl)
 (FT.ok_cons Yrg (by kernel_rfl)
 (FT.ok_cons Yrl (by kernel_rfl)
 (FT.ok_cons Yro (by kernel_rfl)
 (FT.ok_cons Yrt (by kernel_rfl)
 (FT.ok_cons Yru (by kernel_rfl)
 (FT.ok_cons Yrx (by kernel_rfl)
 (FT.ok_cons Ysf (by kernel_rfl)
 (FT.ok_cons Ysg (by kernel_rfl)
 (FT.ok_cons Ysi (by kernel_rfl)
 (FT.ok_cons Ysk (by kernel_rfl)
 (FT.ok_cons Ysn (by kernel_rfl)
 (FT.ok_cons Ysr (by kernel_rfl)
 (FT.ok_cons Yss (by kernel_rfl)
 (FT.ok_cons Ysz (by kernel_rfl)
 (FT.ok_cons Y3y (by kernel_rfl)
 (FT.ok_cons Y3z (by kernel_rfl)
 (FT.ok_cons Y4i (by kernel_rfl)
 (FT.ok_cons Y4m (by kernel_rfl)
 (FT.ok_cons Y4o (by kernel_rfl)
 (FT.ok_cons Y4s (by kernel_rfl)
 (FT.ok_cons Yo0 (by kernel_rfl)
 (FT.ok_cons Yo1 (by kernel_rfl)
 (FT.ok_cons Yo3 (by kernel_rfl)
 (FT.ok_cons Ypd (by kernel_rfl)
 (FT.ok_cons Ype (by kernel_rfl)
 (FT.ok_cons Ypf (by kernel_rfl)
 (FT.ok_cons Yph (by kernel_rfl)
 (FT.ok_cons Ypi (by kernel_rfl)
 (FT.ok_cons Ypj (by kernel_rfl)
 (FT.ok_cons Ypk (by kernel_rfl)
 (FT.ok_cons Ypl (by kernel_rfl)
 (FT.ok_cons Ypm (by kernel_rfl)
 (FT.ok_cons Yps (by kernel_rfl)
 (FT.ok_cons Yp3 (by kernel_rfl)
 (FT.ok_cons Yqa (by kernel_rfl)
 (FT.ok_cons Yqb (by kernel_rfl)
 (FT.ok_cons Yqd (by kernel_rfl)
 (FT.ok_cons Yqh (by kernel_rfl)
 (FT.ok_cons Yqj (by kernel_rfl)
 (FT.ok_cons Yql (by kernel_rfl)
 (FT.ok_cons Yqm (by kernel_rfl)
 (FT.ok_cons Yqp (by kernel_rfl)
 (FT.ok_cons Yqq (by kernel_rfl)
 (FT.ok_cons Yqv (by kernel_rfl)
 (FT.ok_cons Yqz (by kernel_rfl)
 (FT.ok_cons Yrf (by kernel_rfl)
 (FT.ok_cons Yrs (by kernel_rfl)
 (FT.ok_cons Yrv (by kernel_rfl)
 (FT.ok_cons Yrz (by kernel_rfl)
 (FT.ok_cons Yr1 (by kernel_rfl)
 (FT.ok_cons Yr4 (by kernel_rfl)
 (FT.ok_cons Ysc (by kernel_rfl)
 (FT.ok_cons Yso (by kernel_rfl)
 (FT.ok_cons Ysq (by kernel_rfl)
 (FT.ok_cons Ysv (by kernel_rfl)
 (FT.ok_cons Yr5 (by kernel_rfl)
 (FT.ok_cons Yr6 (by kernel_rfl)
 (FT.ok_cons Yr7 (by kernel_rfl)
 (FT.ok_cons Ysx (by kernel_rfl)
 (FT.ok_cons Ysy (by kernel_rfl)
 (FT.ok_cons Ys0 (by kernel_rfl)
 (FT.ok_cons Ys1 (by kernel_rfl)
 (FT.ok_cons Ys2 (by kernel_rfl)
 (FT.ok_cons Ys3 (by kernel_rfl)
 (FT.ok_cons Y4h (by kernel_rfl)
 (FT.ok_cons Y4j (by kernel_rfl)
 (FT.ok_cons Y4p (by kernel_rfl)
 (FT.ok_cons Y4r (by kernel_rfl)
 (FT.ok_cons Y4t (by kernel_rfl)
 (FT.ok_cons Y4x (by kernel_rfl)
 (FT.ok_cons Yo2 (by kernel_rfl)
 (FT.ok_cons Ypg (by kernel_rfl)
 (FT.ok_cons Ypn (by kernel_rfl)
 (FT.ok_cons Ypt (by kernel_rfl)
 (FT.ok_cons Ypu (by kernel_rfl)
 (FT.ok_cons Ypw (by kernel_rfl)
 (FT.ok_cons Ypy (by kernel_rfl)
 (FT.ok_cons Ypz (by kernel_rfl)
 (FT.ok_cons Yp8 (by kernel_rfl)
 (FT.ok_cons Yp9 (by kernel_rfl)
 (FT.ok_cons Yqc (by kernel_rfl)
 (FT.ok_cons Yqf (by kernel_rfl)
 (FT.ok_cons Yqi (by kernel_rfl)
 (FT.ok_cons Yqo (by kernel_rfl)
 (FT.ok_cons Yqt (by kernel_rfl)
 (FT.ok_cons Yqw (by kernel_rfl)
 (FT.ok_cons Yqy (by kernel_rfl)
 (FT.ok_cons Yq0 (by kernel_rfl)
 (FT.ok_cons Yq3 (by kernel_rfl)
 (FT.ok_cons Yq9 (by kernel_rfl)
 (FT.ok_cons Yra (by kernel_rfl)
 (FT.ok_cons Yre (by kernel_rfl)
 (FT.ok_cons Yrj (by kernel_rfl)
 (FT.ok_cons Yrm (by kernel_rfl)
 (FT.ok_cons Yrr (by kernel_rfl)
 (FT.ok_cons Yr0 (by kernel_rfl)
 (FT.ok_cons Yr2 (by kernel_rfl)
 (FT.ok_cons (Xzv Yr3) (by kernel_rfl)
 (FT.ok_cons Yr8 (by kernel_rfl)
 (FT.ok_cons (Xzv Ysj) (by kernel_rfl)
 (FT.ok_cons Ysl (by kernel_rfl)
 (FT.ok_cons Ysp (by kernel_rfl)
 (FT.ok_cons Ysu (by kernel_rfl)
 (FT.ok_cons Ysw (by kernel_rfl)
 (FT.ok_cons Yq2 (by kernel_rfl)
 (FT.ok_cons Ysd (by kernel_rfl)
 (FT.ok_cons Yse (by kernel_rfl)
 (FT.ok_cons Y3v (by kernel_rfl)
 (FT.ok_cons Y35 (by kernel_rfl)
 (FT.ok_cons Y37 (by kernel_rfl)
 (FT.ok_cons Y4g (by kernel_rfl)
 (FT.ok_cons Y4l (by kernel_rfl)
 (FT.ok_cons Y4v (by kernel_rfl)
 (FT.ok_cons Yoz (by kernel_rfl)
 (FT.ok_cons Ypb (by kernel_rfl)
 (FT.ok_cons Ypc (by kernel_rfl)
 (FT.ok_cons Ypo (by kernel_rfl)
 (FT.ok_cons Ypv (by kernel_rfl)
 (FT.ok_cons Ypx (by kernel_rfl)
 (FT.ok_cons Yp0 (by kernel_rfl)
 (FT.ok_cons Yp4 (by kernel_rfl)
 (FT.ok_cons Yp7 (by kernel_rfl)
 (FT.ok_cons Yqe (by kernel_rfl)
 (FT.ok_cons Yqg (by kernel_rfl)
 (FT.ok_cons Yqk (by kernel_rfl)
 (FT.ok_cons Yqr (by kernel_rfl)
 (FT.ok_cons Yqs (by kernel_rfl)
 (FT.ok_cons Yq1 (by kernel_rfl)
 (FT.ok_cons Yq8 (by kernel_rfl)
 (FT.ok_cons Yrb (by kernel_rfl)
 (FT.ok_cons Yrd (by kernel_rfl)
 (FT.ok_cons Yrh (by kernel_rfl)
 (FT.ok_cons Yri (by kernel_rfl)
 (FT.ok_cons Yrk (by kernel_rfl)
 (FT.ok_cons Yrn (by kernel_rfl)
 (FT.ok_cons Yrp (by kernel_rfl)
 (FT.ok_cons Yrq (by kernel_rfl)
 (FT.ok_cons Yrw (by kernel_rfl)
 (FT.ok_cons Yry (by kernel_rfl)
 (FT.ok_cons Yr9 (by kernel_rfl)
 (FT.ok_cons Ysa (by kernel_rfl)
 (FT.ok_cons Ysb (by kernel_rfl)
 (FT.ok_cons Ysh (by kernel_rfl)
 (FT.ok_cons Ysm (by kernel_rfl)
 (FT.ok_cons Yst (by kernel_rfl)
 (FT.ok_nil))))))))))))))))))))))))))))))))))))))))))))))))))))))))))))))))))))))))))))))))))))))))))))))))))))))))))))))))))))))))))))))))))))))))))))))))))))))))))))))))))))))))))))))))))))))))))))))))))))))))))))))))))))))))))))))))))))))))))))))))))))))))))))))))))
end Go.Proofs.YtolkimpelpnpbaaGreatDoor
namespace Go.Lx
open Go Go.Ab
def Xe5:Int->List UInt8->Option Int
 | n,[]=>some n
 | n,c::r=>if 1099511627776<10*n+(c.toNat-48) then none else Xe5 (10*n+(c.toNat-48)) r
theorem Xn8 {s:List UInt8}{k:Nat}{n:Int}(h:k<s.length):Xe5 n (s.drop k)=if 1099511627776<10*n+((s[k]?.getD 0).toNat-48) then none else Xe5 (10*n+((s[k]?.getD 0).toNat-48)) (s.drop (k+1)):=by
 rw[List.drop_eq_getElem_cons h]
 simp[Xe5,h]
end Go.Lx
namespace Go.Proofs.YtolkimpelpnpbaaGreatDoor
open Go Go.Ab Go.Lx
section
variable {P:Prg} (hP:P.p=Tryz.prog)
include hP
end
end Go.Proofs.YtolkimpelpnpbaaGreatDoor
namespace Go.Lx
open Go Go.Ab
def TD (a:D)(l:List Tok):Prop:=a=X8c l\/a=.nils/\l=[]
section
variable {a:D} {l:List Tok} (h:TD a l)
include h
theorem TD.len:Xcm (.d a)=.d (.int .i64 l.length):=by rcases h with rfl | ⟨rfl,rfl⟩<;>simp[X8c]
theorem TD.lenS (ob:Xa):Xee ob (.d a)=True:=by rcases h with rfl | ⟨rfl,rfl⟩<;>simp[X8c]
theorem TD.idxS (ob:Xa)(k:IntKind)(i:Int):Xgu ob 4 (.d a) (.d (.int k i))=(0<=i/\i<l.length):=by
 rcases h with rfl | ⟨rfl,rfl⟩
 ·simp[X8c]
 ·simp[Xgu,Xad]
theorem TD.idx {k:IntKind}{i:Nat}(hi:i<l.length):Xgv 4 (.d a) (.d (.int k i))=.d (.ref (l[i]?.getD default).enc):=by
 rcases h with rfl | ⟨rfl,rfl⟩
 ·simp[X8c,hi]
 ·simp at hi
end
end Go.Lx
namespace Go.Lx
open Go Go.Ab

def Xbq (c:UInt8):Bool:=Wv c.toNat
def Yn (c:UInt8):Bool:=Xbc c.toNat
def Xm0 (c:UInt8):Bool:=X09 c.toNat
def Wx (c:UInt8):Bool:=Xkc c.toNat
def X79 (c:UInt8):Bool:=Yjp c.toNat
def Uz (c:UInt8):Bool:=c != 10

inductive St where
 | skip (n:Nat)
 | tok (k:Int) (t:List UInt8) (m:Int) (n:Nat)
 | err

def Xe6 (t:List UInt8):Option Int:=match Xe5 0 t with
 | none=>none
 | some n=>if t.length=1\/t.headD 0 ≠ 48 then some n else none

def stp (c:UInt8)(r:List UInt8):St:=
 if Xm0 c then .skip 0
 else if c=47/\r.head? = some 47 then .skip (r.takeWhile Uz).length
 else if Xbq c then
  if (r.takeWhile Wx).length+1<=32 then .tok 1 (c::r.takeWhile Wx) 0 (r.takeWhile Wx).length else .err
 else if Yn c then
  match Xe6 (c::r.takeWhile Yn) with
  | some n=>.tok 2 [] n (r.takeWhile Yn).length
  | none=>.err
 else if X79 c then .tok 3 [c] 0 0 else .err

inductive Res where
 | ok (l:List Tok)
 | err (at_:Nat)

def X9a (t:Tok):Res->Res
 | .ok l=>.ok (t::l)
 | .err e=>.err e
def Xu3 (l:List Tok):Res->Res
 | .ok l'=>.ok (l++l')
 | .err e=>.err e

def Xfm:List UInt8->Nat->Res
 | [],_=>.ok []
 | c::r,off=>match stp c r with
  | .skip n=>Xfm (r.drop n) (off+n+1)
  | .tok k t m n=>X9a ⟨k,t,m,off⟩ (Xfm (r.drop n) (off+n+1))
  | .err=>.err off
termination_by l=>l.length
decreasing_by all_goals (simp only[List.length_drop,List.length_cons]; omega)

def Ys7:Res->V
 | .ok l=>.tup [.d (X8c l),.d (.int .i64 0),.d (.int .i64 0)]
 | .err e=>.tup [.d .nils,.d (.int .i64 e),.d (.int .i64 90)]
def Ye8 (s:List UInt8):V:=if s.length > 65536 then .tup [.d .nils,.d (.int .i64 0),.d (.int .i64 2)] else Ys7 (Xfm s 0)

theorem Xvw (r:Res):Xu3 [] r=r:=by cases r<;>rfl
theorem Xdw (l:List Tok)(t:Tok)(r:Res):Xu3 l (X9a t r)=Xu3 (l++[t]) r:=by cases r<;>simp[Xu3,X9a]

def tw (p:UInt8->Bool)(s:List UInt8)(j:Nat):Nat:=((s.drop j).takeWhile p).length
theorem Yta {p:UInt8->Bool}{s:List UInt8}{j:Nat}(h:s.length<=j):tw p s j=0:=by simp[tw,List.drop_of_length_le h]
theorem Xuw {p:UInt8->Bool}{s:List UInt8}{j:Nat}(h:j<s.length)(hp:p (s[j]?.getD 0)=true):tw p s j=tw p s (j+1)+1:=by
 simp[h]at hp
 unfold tw
 rw[List.drop_eq_getElem_cons h,List.takeWhile_cons,if_pos hp]; rfl
theorem Ytb {p:UInt8->Bool}{s:List UInt8}{j:Nat}(h:j<s.length)(hp:p (s[j]?.getD 0)=false):tw p s j=0:=by
 simp[h]at hp
 unfold tw
 rw[List.drop_eq_getElem_cons h,List.takeWhile_cons,hp]; rfl
theorem Xot (p:UInt8->Bool)(s:List UInt8)(j:Nat)(h:j<=s.length):j+tw p s j<=s.length:=by
 have:=(List.takeWhile_sublist p (l:=s.drop j)).length_le
 simp[tw]at this⊢; omega
theorem Wy (p:UInt8->Bool):∀l:List UInt8,l.takeWhile p=l.take (l.takeWhile p).length
 | []=>rfl
 | c::r=>by
  simp only[List.takeWhile_cons]
  split
  ·simp; exact Wy p r
  ·rfl
theorem Xz6 {p:UInt8->Bool}{x:UInt8}:∀{l:List UInt8},x∈l.takeWhile p->p x=true
 | c::r,h=>by
  rw[List.takeWhile_cons]at h
  split at h
  ·rename_i hc
   rcases List.mem_cons.mp h with rfl | h
   ·exact hc
   ·exact Xz6 h
  ·cases h
theorem V0 {s:List UInt8}{i:Nat}(h:i<s.length):s.drop i=(s[i]?.getD 0)::s.drop (i+1):=by
 rw[List.drop_eq_getElem_cons h]; simp[h]
theorem X8d (p:UInt8->Bool){s:List UInt8}{i:Nat}(h:i<s.length)(hp:p (s[i]?.getD 0)=true) :
  (s.take (i+tw p s i)).drop i=(s[i]?.getD 0)::(s.drop (i+1)).takeWhile p/\tw p s i=((s.drop (i+1)).takeWhile p).length+1:=by
 have h1:tw p s i=((s.drop (i+1)).takeWhile p).length+1:=Xuw h hp
 refine⟨?_,h1⟩
 rw[List.drop_take,Nat.add_sub_cancel_left,h1,V0 h,List.take_succ_cons,<-Wy]

theorem Xyh {s:List UInt8}{i off:Nat}(h:s.length<=i):Xfm (s.drop i) off=.ok []:=by
 rw[List.drop_of_length_le h,Xfm]
theorem X4z {s:List UInt8}{i:Nat}(h:i<s.length):Xfm (s.drop i) i=match stp (s[i]?.getD 0) (s.drop (i+1)) with
  | .skip n=>Xfm (s.drop (i+n+1)) (i+n+1)
  | .tok k t m n=>X9a ⟨k,t,m,i⟩ (Xfm (s.drop (i+n+1)) (i+n+1))
  | .err=>.err i:=by
 rw[V0 h,Xfm]
 cases stp (s[i]?.getD 0) (s.drop (i+1)) with
 | err=>rfl
 | skip n=>simp only[List.drop_drop]; congr 2; omega
 | tok k t m n=>simp only[List.drop_drop]; congr 3; omega
theorem Xgt {s:List UInt8}{i:Nat}:(s.drop i).head? = s[i]?:=by simp[List.head?_drop]
end Go.Lx
namespace Go.Lx
open Go Go.Ab
def X4y:Nat->List UInt8->Nat->Res
 | 0,_,_=>.ok []
 | _,[],_=>.ok []
 | f+1,c::r,off=>match stp c r with
  | .skip n=>X4y f (r.drop n) (off+n+1)
  | .tok k t m n=>X9a ⟨k,t,m,off⟩ (X4y f (r.drop n) (off+n+1))
  | .err=>.err off
theorem Xi9:∀(f:Nat) (s:List UInt8) (off:Nat),s.length<=f->X4y f s off=Xfm s off
 | 0,s,off,h=>by
  have:s=[]:=List.length_eq_zero_iff.1 (by omega)
  subst this; simp[X4y,Xfm]
 | f+1,[],off,h=>by simp[X4y,Xfm]
 | f+1,c::r,off,h=>by
  rw[X4y,Xfm]
  have hl:∀n,(r.drop n).length<=f:=fun n=>by simp at h⊢; omega
  split
  ·rw[Xi9 f _ _ (hl _)]; try simp_all
  ·rw[Xi9 f _ _ (hl _)]; try simp_all
  ·simp_all
end Go.Lx
namespace Go.Ab
open Go
theorem ACall.nilv {P:Prg}{f:Nat}{vs:List V}{ob:Xa}{K:Out->Xa->Prop}(h:ACall P f vs ob fun o b=>K o b\/(o=.ret (.d .nils)/\∃E z,K (.ret (.sl (Xb b) 0)) ((Xb b,.vec E z [])::b))):ACall P f vs ob K:=
  ⟨fun w ρ args ho hg hr=>(h.run w ρ args ho hg hr).mono fun e w' ⟨o,b,ρ',k,hre,hO,t⟩=>by
    rcases k with k | ⟨rfl,E,z,k⟩
    · exact⟨o,b,ρ',k,hre,hO,t⟩
    · have hl:Xe b (Xb b)=none:=Xy b
      have hbl:∀b,RO.virt.blk? = some b->w'.heap.size<=b:=fun b hb=>by simp[RO.blk?]at hb
      have t1:=Wp w' (Ext.refl w') (o:=.virt) (hO.free hl) hbl
      have o1:OM w' (ρ'.ins (Xb b) .virt) ((Xb b,.vec E z [])::b):=hO.ins (Ext.refl w') hl hbl (.inl ⟨Yh,rfl⟩)
      refine⟨_,_,_,k,?_,o1,t.trans t1⟩
      cases e with
      | returned u=>
        have h1:(V.d .nils).rep w' ρ' u:=hre
        show (V.sl (Xb b) 0).rep w' (ρ'.ins (Xb b) .virt) u
        rw[U7]at h1
        rcases h1 with⟨h1,_⟩ | ⟨_,h1⟩
        · cases h1
        · simp only[D.rep,List.cons.injEq,and_true]at h1
          exact Yj.2 ⟨.virt,Yh,rfl,h1⟩
      | _=>exact (hre:False).elim⟩
def Zi (E z B:Nat):S:=.seq (.rg [] [.op (some 2) (.c (.mv .nils))] [0] [])
 (.seq (.seq (.rg [] [.op (some 3) (.c (.mv (.t 0))),
   .op (some 4) (.isn true false (.t 3))] [0,4] [])
 (.cond (.t 4) (.seq (.rg [] [.op (some 2) (.c (.mv .nils))] [2] [])
 (.ret)) (.skip)))
 (.seq (.rg [] [.op (some 5) (.blv E z [] []),
   .op (some 6) (.c (.mv (.t 0))),
   .op (some 7) (.apv E z B (.t 5) (.t 6)),
   .op (some 2) (.c (.mv (.t 7)))] [2] [])
 (.ret)))
def Xqn (E z B:Nat):S2:=.seq (.rg [] [(0,(.a (.t 0)))] [])
 (.seq (.seq (.rg [.lt 3 [] (.a (.t 0)),.op (some 4) (.isn true false (.t 3))] [(0,(.a (.t 0))),(4,(.a (.t 4)))] [])
 (.cond (.t 4) (.seq (.rg [] [(2,(.a .nils))] [])
 (.ret)) (.skip)))
 (.seq (.rg [.op (some 5) (.blv E z [] []),.lt 6 [] (.a (.t 0)),.op (some 7) (.apv E z B (.t 5) (.t 6))] [(2,(.a (.t 7)))] [])
 (.ret)))
theorem Xcy (E z B:Nat):(Zi E z B).lift []=some (Xqn E z B):=by rfl
theorem X1n {P:Prg}{p:Program}(hP:P.p=p)(hm:p.follows .mixedOrders=true){f E z B:Nat}(hc:Xj p f 1 (Zi E z B) [.t 2]=true){xs:List D}(hs:∀x∈xs,x.sz=z)(hB:(2*xs.length+192)*B<=281474976710656){ob:Xa}{K:Out->Xa->Prop}(h:K (.ret (.sl (Xb ob) xs.length)) ((Xb ob,.vec E z (xs.map .d))::ob)):ACall P f [.d (.list z xs)] ob K:=by
  refine ACall.nilv ?_
  refine Us hP hm hc (Xcy E z B) TOk.nil fun _ hno=>?_
  simp[Xqn,I.wp,Xr6,X8v,Xoz,Xnf]
  constructor
  · refine⟨hB,[Xb ob],by simp[Xf],?_,?_⟩
    · have hd:∀(p:Nat->Bool) (l:List D),V.mens p (l.map .d)=false:=fun p l=>by induction l<;>simp_all[V.mens,V.men]
      simp[Xf,hd]
      exact hno _
    · simpa[Xf]using h
  · intro e
    exact⟨[],by simp,by simpa using hno [],.inr ⟨E,z,by simpa[e]using h⟩⟩
theorem Xvo {P:Prg}{p:Program}(hP:P.p=p)(hm:p.follows .mixedOrders=true){f E z B:Nat}(hc:Xj p f 1 (Zi E z B) [.t 2]=true){ob:Xa}{K:Out->Xa->Prop}(h:K (.ret (.sl (Xb ob) 0)) ((Xb ob,.vec E z [])::ob)):ACall P f [.d .nils] ob K:=by
  refine ACall.nilv ?_
  refine Us hP hm hc (Xcy E z B) TOk.nil fun _ hno=>?_
  simp[Xqn,I.wp,Xr6]
  exact⟨[],by simp,by simpa using hno [],.inr ⟨E,z,by simpa using h⟩⟩
end Go.Ab
namespace Go.Proofs.YtolkimpelpnpbaaGreatDoor
open Go Go.Ab
theorem Yyq:Xj Tryz.prog 85 1 (Zi 9 1 16) [.t 2]=true:=by kernel_rfl
theorem Yyr:Xj Tryz.prog 86 1 (Zi 164 5 56) [.t 2]=true:=by kernel_rfl
theorem Yys:Xj Tryz.prog 87 1 (Zi 110 6 96) [.t 2]=true:=by kernel_rfl
theorem Yyt:Xj Tryz.prog 88 1 (Zi 170 5 96) [.t 2]=true:=by kernel_rfl
theorem Yyu:Xj Tryz.prog 89 1 (Zi 174 5 72) [.t 2]=true:=by kernel_rfl
theorem Yyv:Xj Tryz.prog 90 1 (Zi 71 3 48) [.t 2]=true:=by kernel_rfl
theorem Yyw:Xj Tryz.prog 165 1 (Zi 115 11 120) [.t 2]=true:=by kernel_rfl
theorem Yyx:Xj Tryz.prog 166 1 (Zi 240 4 72) [.t 2]=true:=by kernel_rfl
theorem Yyy:Xj Tryz.prog 167 1 (Zi 244 8 96) [.t 2]=true:=by kernel_rfl
theorem Yyz:Xj Tryz.prog 169 1 (Zi 38 11 120) [.t 2]=true:=by kernel_rfl
theorem Ymb:Xj Tryz.prog 170 1 (Zi 251 7 80) [.t 2]=true:=by kernel_rfl
theorem Ymc:Xj Tryz.prog 171 1 (Zi 255 5 56) [.t 2]=true:=by kernel_rfl
theorem Ymd:Xj Tryz.prog 172 1 (Zi 56 4 48) [.t 2]=true:=by kernel_rfl
def Xlc:List (Nat×Nat×Nat×Nat):=[(85,9,1,16),(86,164,5,56),(87,110,6,96),(88,170,5,96),(89,174,5,72),(90,71,3,48),(165,115,11,120),(166,240,4,72),(167,244,8,96),(169,38,11,120),(170,251,7,80),(171,255,5,56),(172,56,4,48)]
theorem Xqo:∀e∈Xlc,Xj Tryz.prog e.1 1 (Zi e.2.1 e.2.2.1 e.2.2.2) [.t 2]=true:=by
  simp only[Xlc,List.forall_mem_cons]
  exact⟨Yyq,Yyr,Yys,Yyt,Yyu,Yyv,Yyw,Yyx,Yyy,Yyz,Ymb,Ymc,Ymd,fun _ h=>by cases h⟩
def Xql (E z B:Nat)(ob:Xa):D->Option (V×Xa)
  | .nils=>some (.sl (Xb ob) 0,(Xb ob,.vec E z [])::ob)
  | .list z' xs=>bif Nat.beq z' z&&xs.all (fun x=>Nat.beq x.sz z)&&decide ((2*xs.length+192)*B<=281474976710656) then some (.sl (Xb ob) xs.length,(Xb ob,.vec E z (xs.map .d))::ob) else none
  | _=>none
def Xlb (f:Nat)(x:D)(ob:Xa):List (Nat×Nat×Nat×Nat)->Option (V×Xa)
  | []=>none
  | (g,E,z,B)::r=>bif Nat.beq f g then Xql E z B ob x else Xlb f x ob r
theorem Xqm {P:Prg}(hP:P.p=Tryz.prog){f E z B:Nat}(hc:Xj Tryz.prog f 1 (Zi E z B) [.t 2]=true){x:D}{ob b:Xa}{o:V}(h:Xql E z B ob x=some (o,b)):XCall P f [.d x] ob fun o' b'=>o'=o/\b'=b:=by
  unfold Xql at h
  split at h
  · cases h; exact XCall.of_nil (ds:=[.nils]) (xs:=[]) (Xvo hP Xx hc ⟨rfl,rfl⟩) ⟨rfl,rfl⟩
  · rw[Bool.cond_eq_ite]at h
    split at h
    · rename_i e
      cases h
      simp only[Bool.and_eq_true,decide_eq_true_eq,List.all_eq_true]at e
      obtain⟨⟨e1,e3⟩,e4⟩:=e
      rw[Nat.eq_of_beq_eq_true e1]
      exact XCall.of_nil (ds:=[.list _ _]) (X1n hP Xx hc (fun x hx=>Nat.eq_of_beq_eq_true (e3 x hx)) e4 ⟨rfl,rfl⟩) ⟨rfl,rfl⟩
    · cases h
  · cases h
theorem Xf5 {P:Prg}(hP:P.p=Tryz.prog){f:Nat}{x:D}{ob b:Xa}{o:V}:∀l:List (Nat×Nat×Nat×Nat),(∀e∈l,Xj Tryz.prog e.1 1 (Zi e.2.1 e.2.2.1 e.2.2.2) [.t 2]=true)->Xlb f x ob l=some (o,b)->XCall P f [.d x] ob fun o' b'=>o'=o/\b'=b
  | [],_,h=>by cases h
  | (g,E,z,B)::r,hl,h=>by
    simp only[Xlb,Bool.cond_eq_ite]at h
    split at h
    · rename_i e
      rw[Nat.eq_of_beq_eq_true e]
      exact Xqm hP (hl _ List.mem_cons_self) h
    · exact Xf5 hP r (fun e he=>hl e (List.mem_cons_of_mem _ he)) h
end Go.Proofs.YtolkimpelpnpbaaGreatDoor
namespace Go.Py
open Go Go.Ab Go.Lx
def X40 (s:List UInt8):V:=if s.length > 65536 then .tup [.d .nils,.d (.int .i64 0),.d (.int .i64 2)] else Ys7 (X4y s.length s 0)
theorem Xyi (s:List UInt8):X40 s=Ye8 s:=by
 have e:=Xi9 s.length s 0 (Nat.le_refl _)
 unfold X40 Ye8
 rw[e]
def xgl (g:Nat):Option D:=
 bif Nat.beq g 0 then some (.agg [.int .i64 2,.int .i64 1000]) else
 bif Nat.beq g 1 then some (.agg [.int .i64 1,.int .i64 255]) else
 bif Nat.beq g 2 then some (.agg [.int .i64 0,.int .i64 32]) else
 bif Nat.beq g 3 then some (.agg [.int .i64 0,.int .i64 9]) else
 bif Nat.beq g 4 then some (.agg [.int .i64 0,.int .i64 1048576]) else none
def X72:Nat->List (List Nat)
 | 0=>[[]]
 | 1=>[[0]]
 | 2=>[[0,1],[1,0]]
 | 3=>[[0,1,2],[0,2,1],[1,0,2],[1,2,0],[2,0,1],[2,1,0]]
 | _=>[]
def Ymg:D×V->Option (Int×Int)
 | (.agg [.int .i64 a,.int .i64 b],.d (.bool true))=>some (a,b)
 | _=>none
def Xwa:List (D×V)->Option (List (Int×Int))
 | []=>some []
 | e::r=>match Ymg e,Xwa r with
  | some p,some l=>some (p::l)
  | _,_=>none
def Yxr (a n:Nat)(ob:Xa):Option (Out×Xa)->Option (List D)
 | some (.ret (.tup []),(j,.arr E 2 l)::r)=>bif Nat.beq j a&&Nat.beq l.length n&&Nat.beq E 76&&Xu5 r ob then some l else none
 | _=>none
end Go.Py
namespace Go.Proofs.YtolkimpelpnpbaaGreatDoor
open Go Go.Ab Go.Lx Go.Py
def xpc (f:Nat)(vs:List V):Option V:=match vs with
 | [.d (.str s)]=>bif Nat.beq f 74 then some (X40 s) else none
 | _=>none
def xz0:Fns:=⟨fun _ _ _=>none,fun _ _ _=>none,fun _=>false,xgl,fun _ _ _=>none,fun _=>none,fun _ _ _=>none⟩
def X8s (ob:Xa)(a:Nat)(fs:List (Int×Int))(sn:List Nat):Option (List D):=
 Yxr a sn.length ob ((fns 100 Vs xz0 12).call 108 [.sl a sn.length,.fn 54 [] []] ((a,.arr 76 2 (sn.map fun i=>fD (atF fs i)))::ob))
def Ykg (ob:Xa)(a:Nat)(fs:List (Int×Int))(s:List D):List (List Nat)->Bool
 | []=>true
 | sn::r=>(match X8s ob a fs sn with
  | some l=>D.eqbs l s
  | none=>false)&&Ykg ob a fs s r
def Xy7 (ob:Xa)(fs:List (Int×Int)):Option (Out×Xa):=match X72 fs.length with
 | sn::r=>(match X8s ob (Xb ob+5) fs sn with
  | some s=>bif Ykg ob (Xb ob+5) fs s r then some (.ret (.d (.list 2 s)),ob) else none
  | none=>none)
 | []=>none
def Yox (ob:Xa):Option (Out×Xa)->Option (Out×Xa)
 | some (.ret (.tup []),r)=>bif Xu5 r ob then some (.ret (.d .nils),ob) else none
 | _=>none
def Yju (ob:Xa):Option Ob->Option (Out×Xa)
 | some (.map es)=>(match Xwa es with
  | some []=>Yox ob ((fns 100 Vs xz0 12).call 108 [.d .nils,.fn 54 [] []] ob)
  | some fs=>Xy7 ob fs
  | none=>none)
 | _=>none
def Yjv (ob:Xa):Option Ob->Option (Out×Xa)
 | some (.box _ (.mp m))=>Yju ob (Xe ob m)
 | _=>none
def xcall (f:Nat)(vs:List V)(ob:Xa):Option (Out×Xa):=bif Nat.beq f 52 then
  (match vs with
  | [.fn g [] [.ptr bx []],.fn h [] []]=>bif Nat.beq g 109&&Nat.beq h 54 then Yjv ob (Xe ob bx) else none
  | _=>none)
 else none
def xxc (f:Nat)(vs:List V)(ob:Xa):Option (V×Xa):=match vs with
 | [.d x]=>Xlb f x ob Xlc
 | _=>none
def xlt (k:Nat):Option (List Nat×S×S):=
 bif Nat.beq k 18 then some ([34],ir18900,ir18901) else
 bif Nat.beq k 260 then some ([7],ir260900,ir260901) else none
def xz:Fns:=⟨xcall,fun f vs _=>xpc f vs,fun f=>Nat.beq f 109,xgl,fun _ _ _=>none,xlt,xxc⟩
end Go.Proofs.YtolkimpelpnpbaaGreatDoor
namespace Go.Lx
open Go Go.Ab
theorem Xh5 {i n:Nat}(h:i<n)(hn:n<=1000000):IntKind.i64.wrap ((i:Int)+1)=(i:Int)+1:=IntWalk.i64_in _ (by omega)
end Go.Lx
namespace Go.Lx
open Go Go.Ab
def Xfe (f:Nat->Int):List D:=(List.range 256).map fun i=>.int .i64 (f i)
def Uk (f:Nat->Int):D:=.agg (Xfe f)
def upd (f:Nat->Int)(n:Nat)(v:Int)(i:Nat):Int:=if i=n then v else f i
theorem Zh {f g:Nat->Int}(h:∀i,i<256->f i=g i):Uk f=Uk g:=by
 unfold Uk Xfe
 congr 1
 exact List.map_congr_left fun i hi=>by rw[h i (List.mem_range.mp hi)]
@[simp] theorem tbl_kids (f:Nat->Int):V.kids (.d (Uk f))=some ((Xfe f).map .d):=by simp only[Uk,V.kids]
@[simp] theorem tbl_getE (f:Nat->Int){n:Nat}(h:n<(Xfe f).length):(Xfe f)[n]=.int .i64 (f n):=by simp[Xfe]
@[simp] theorem Xb9 (f:Nat->Int):(Xfe f).length=256:=by simp[Xfe]
@[simp] theorem allD_set (l:List D)(n:Nat)(x:D):V.allD ((l.map V.d).set n (.d x))=some (l.set n x):=by rw[<-List.map_set,allD_map]
@[simp] theorem tblL_set (f:Nat->Int)(n:Nat)(v:Int):(Xfe f).set n (.int .i64 v)=Xfe (upd f n v):=by
 unfold Xfe
 apply List.ext_getElem?
 intro i
 by_cases hi:n=i
 ·subst hi
  by_cases hl:n<256
  ·simp[List.getElem?_set,hl,upd]
  ·simp[List.getElem?_set,hl]
 ·by_cases hl:i<256
  ·simp[List.getElem?_set,hi,hl,upd,Ne.symm hi]
  ·simp[List.getElem?_set,hi,hl]
@[simp] theorem X1q (f:Nat->Int):D.agg (Xfe f)=Uk f:=rfl
theorem X8a {l:List D}{n:Nat}(h:∀x∈l,x.sz=n):D.szs l=l.length*n:=D.szs_uniform l h
theorem Xff (f:Nat->Int):∀x∈Xfe f,x.sz=1:=by
 intro x hx
 simp only[Xfe,List.mem_map]at hx
 obtain⟨i,_,rfl⟩:=hx
 rfl
@[simp] theorem Yj5 (f:Nat->Int):(Uk f).sz=256:=by simp only[Uk,D.sz,X8a (Xff f),Xb9]
@[simp] theorem tbl_size' (f:Nat->Int):(Uk f).shape.size=256:=by rw[D.size_shape,Yj5]
@[simp] theorem tbl_agg (f:Nat->Int):V.isAgg (.d (Uk f))=true:=rfl
@[simp] theorem tbl_dagg (f:Nat->Int):(Uk f).isAgg=true:=rfl
@[simp] theorem tbl_ok (f:Nat->Int):(∀a,a∈Xfe f->a.shape.size=1)=True:=
 eq_true fun x hx=>by rw[D.size_shape]; exact Xff f x hx
theorem Xyn (n:Nat)(x:D):List.replicate n x=(List.range n).map fun _=>x:=by
 rw[List.map_const',List.length_range]
theorem Jf:∀s:List UInt8,Yi s=s.map fun b=>.int .u8 b.toNat
 | []=>rfl
 | b::r=>by simp[Yi,Jf r]
theorem Xh9:List.replicate 256 (D.int .i64 0)=Xfe fun _=>0:=Xyn 256 _

def cl1 (k i:Nat):Int:=if 65<=i/\i<65+k\/97<=i/\i<97+k then 2 else 0
def cl2 (k i:Nat):Int:=if 48<=i/\i<48+k then 3 else cl1 26 i
def spc:List UInt8:=[32,9,10,13]
def cl3 (k i:Nat):Int:=if i∈(spc.take k).map UInt8.toNat then 1 else cl2 10 i
def cl4 (k i:Nat):Int:=if i∈(Xai.take k).map UInt8.toNat then 4 else cl3 4 i
def Xfl:Nat->Int:=cl4 15
theorem Xmo {l:List UInt8}{k i:Nat}(h:k<l.length):(i∈(l.take (k+1)).map UInt8.toNat)↔(i=(l[k]?.getD 0).toNat\/i∈(l.take k).map UInt8.toNat):=by
 rw[List.take_add_one,List.map_append,List.mem_append,List.getElem?_eq_getElem h]
 simp only[Option.toList_some,List.map_cons,List.map_nil,List.mem_singleton,Option.getD_some]
 exact Or.comm
def Ytr:D:=Uk Xfl
end Go.Lx
namespace Go.Proofs.YtolkimpelpnpbaaGreatDoor
open Go Go.Ab Go.Lx
section
variable {P:Prg} (hP:P.p=Tryz.prog)
include hP
theorem Xni {ob:Xa}{K:V->Prop}(h:K (.d Ytr)):PCall P 127 [] ob K:=by
 refine Xi hP Xx (ds:=[]) Yii Ynl TOk.nil ?_
 simp only[Yfm,Xh9]
 rw[show D.agg (Xfe fun _=>0)=Uk fun _=>0 from rfl,show Uk (fun _=>0)=Uk (cl1 0) from Zh fun i _=>by simp[cl1]]
 simp
 refine ALoop.go (ι:=Nat) (fun k=>[(0,.ptr 0 []),(7,.d (.int .i64 k))]) (fun k=>[(0,.box 225 (.d (Uk (cl1 k))))]) (fun k=>k<=26) (fun k=>26-k) 0 (by omega) (by simp) (by simp) ?_
 intro k hk R rn re _ _
 by_cases hlt:k<26
 ·have w1:IntKind.i64.wrap (65+(k:Int))=65+(k:Int):=IntWalk.i64_in _ (by omega)
  have w2:IntKind.i64.wrap (97+(k:Int))=97+(k:Int):=IntWalk.i64_in _ (by omega)
  have w3:=Xh5 hlt (by omega)
  simp[Xkr,w1,w2,w3,show (k:Int)<26 by omega,show ¬(26:Int)<=k by omega,show (0:Int)<=65+k by omega,show (0:Int)<=97+k by omega,show 65+(k:Int)<256 by omega,show 97+(k:Int)<256 by omega,show (65+(k:Int)).toNat=65+k by omega,show (97+(k:Int)).toNat=97+k by omega,show 65+k<256 by omega,show 97+k<256 by omega]
  refine rn [] (k+1) _ _ ?_ ?_ ?_ ?_ ?_ ?_
  ·omega
  ·omega
  ·simp
  ·simp
   refine Zh fun i _=>?_
   simp only[upd,cl1]
   repeat (first | split | omega)
   all_goals omega
  ·simp
  ·simp
 ·have hk':k=26:=by omega
  subst hk'
  simp[Xkr]
  refine re _ _ _ ?_
  simp
  clear rn re
  rw[show Uk (cl1 26)=Uk (cl2 0) from Zh fun i _=>by simp[cl2]; omega]
  refine ALoop.go (ι:=Nat) (fun k=>[(0,.ptr 0 []),(17,.d (.int .i64 k))]) (fun k=>[(0,.box 225 (.d (Uk (cl2 k))))]) (fun k=>k<=10) (fun k=>10-k) 0 (by omega) (by simp) (by simp) ?_
  intro k hk R rn re _ _
  by_cases hlt:k<10
  ·have w1:IntKind.i64.wrap (48+(k:Int))=48+(k:Int):=IntWalk.i64_in _ (by omega)
   have w3:=Xh5 hlt (by omega)
   simp[Xkq,w1,w3,show (k:Int)<10 by omega,show ¬(10:Int)<=k by omega,show (0:Int)<=48+k by omega,show 48+(k:Int)<256 by omega,show (48+(k:Int)).toNat=48+k by omega,show 48+k<256 by omega]
   refine rn [] (k+1) _ _ ?_ ?_ ?_ ?_ ?_ ?_
   ·omega
   ·omega
   ·simp
   ·simp
    refine Zh fun i _=>?_
    simp only[upd,cl2]
    repeat (first | split | omega)
    all_goals omega
   ·simp
   ·simp
  ·have hk':k=10:=by omega
   subst hk'
   simp[Xkq]
   refine re _ _ _ ?_
   simp
   clear rn re
   rw[show Uk (cl2 10)=Uk (cl3 0) from Zh fun i _=>by simp[cl3]]
   show ALoop _ _ _ [_,(25,V.d (D.list 1 (Yi spc))),_,_] _
   refine ALoop.go (ι:=Nat) (fun k=>[(0,.ptr 0 []),(25,.d (.list 1 (Yi spc))),(26,.d (.int .i64 4)),(27,.d (.int .i64 k))]) (fun k=>[(1,.gone),(0,.box 225 (.d (Uk (cl3 k))))]) (fun k=>k<=4) (fun k=>4-k) 0 (by omega) (by simp[Xk]) (by simp) ?_
   intro k hk R rn re _ _
   by_cases hlt:k<4
   ·have w3:=Xh5 hlt (by omega)
    have hb:(Yi spc)[k]?.getD default=.int .u8 (spc[k]?.getD 0).toNat:=by
     rw[Jf]; simp[show k<spc.length from hlt]
    have hlen:(Yi spc).length=4:=rfl
    have hc:=(spc[k]?.getD 0).toNat_lt
    generalize hcc:spc[k]?.getD 0=c at *
    simp[Xkp,w3,hb,hlen,show (k:Int)<4 by omega,show ¬(4:Int)<=k by omega,hc,show ((c.toNat:Int)<256) by omega]
    refine rn [] (k+1) _ _ ?_ ?_ ?_ ?_ ?_ ?_
    ·omega
    ·omega
    ·simp
    ·simp
     refine Zh fun i _=>?_
     simp only[upd,cl3,Xmo (show k<spc.length from hlt),hcc]
     split
     ·rename_i e; simp[e]
     ·rename_i e; simp[e]
    ·simp
    ·simp
   ·have hk':k=4:=by omega
    subst hk'
    simp[Xkp]
    refine re _ _ _ ?_
    simp
    clear rn re
    rw[show Uk (cl3 4)=Uk (cl4 0) from Zh fun i _=>by simp[cl4]]
    show ALoop _ _ _ [_,(35,V.d (D.list 1 (Yi Xai))),_,_] _
    refine ALoop.go (ι:=Nat) (fun k=>[(0,.ptr 0 []),(35,.d (.list 1 (Yi Xai))),(36,.d (.int .i64 15)),(37,.d (.int .i64 k))]) (fun k=>[(2,.gone),(1,.gone),(0,.box 225 (.d (Uk (cl4 k))))]) (fun k=>k<=15) (fun k=>15-k) 0 (by omega) (by simp[Xk]) (by simp) ?_
    intro k hk R rn re _ _
    by_cases hlt:k<15
    ·have w3:=Xh5 hlt (by omega)
     have hb:(Yi Xai)[k]?.getD default=.int .u8 (Xai[k]?.getD 0).toNat:=by
      rw[Jf]; simp[show k<Xai.length from hlt]
     have hlen:(Yi Xai).length=15:=rfl
     have hc:=(Xai[k]?.getD 0).toNat_lt
     generalize hcc:Xai[k]?.getD 0=c at *
     simp[Xko,w3,hb,hlen,show (k:Int)<15 by omega,show ¬(15:Int)<=k by omega,hc,show ((c.toNat:Int)<256) by omega]
     refine rn [] (k+1) _ _ ?_ ?_ ?_ ?_ ?_ ?_
     ·omega
     ·omega
     ·simp
     ·simp
      refine Zh fun i _=>?_
      simp only[upd,cl4,Xmo (show k<Xai.length from hlt),hcc]
      split
      ·rename_i e; simp[e]
      ·rename_i e; simp[e]
     ·simp
     ·simp
    ·have hk':k=15:=by omega
     subst hk'
     simp[Xko]
     refine re _ _ _ ?_
     simp
     refine⟨rfl,?_⟩
     exact h
end
end Go.Proofs.YtolkimpelpnpbaaGreatDoor
namespace Go.Lx
open Go Go.Ab
@[simp] theorem idxPV_tbl (f:Nat->Int)(kd:IntKind)(i:Int):Xed (.d (.ref (Uk f))) (.d (.int kd i))=.d (.ref ((Xfe f).getD i.toNat default)):=by simp only[Uk,Xed]
@[simp] theorem idxPS_tbl (ob:Xa)(f:Nat->Int)(kd:IntKind)(i:Int):Xi1 ob 256 1 (.d (.ref (Uk f))) (.d (.int kd i))=(0<=i/\i<256):=by
 simp only[Uk,X3f,Xb9]
 simp
 intro _ _ x hx; exact Xff f x hx
theorem Xcz:∀n,n<256->(Xfl n=2↔Wv n=true):=by decide +kernel
theorem Xbb:∀n,n<256->(Xfl n=3↔Xbc n=true):=by decide +kernel
theorem Xqq:∀n,n<256->(Xfl n=1↔X09 n=true):=by decide +kernel
theorem Xv8:∀n,n<256->(Xfl n=4↔Yjp n=true):=by decide +kernel
theorem Xqp:∀n,n<256->0<=Xfl n/\Xfl n<=4:=by decide +kernel
abbrev scD (s:List UInt8)(i:Int)(l:List D):D:=.agg [.str s,.int .i64 i,Uk Xfl,.list 4 l]
abbrev scV (s:List UInt8)(i:Int)(y n:Nat):V:=.agg [.d (.str s),.d (.int .i64 i),.d (Uk Xfl),.sl y n]
end Go.Lx
namespace Go.Proofs.YtolkimpelpnpbaaGreatDoor
open Go Go.Ab Go.Lx
section
variable {P:Prg} (hP:P.p=Tryz.prog)
include hP
theorem X2a (c:UInt8)(s:List UInt8)(i:Int)(l:List D){ob:Xa}{K:V->Prop}(h:K (.d (.bool (Wx c)))):PCall P 219 [.d (.int .u8 c.toNat),.d (.ref (.ref (scD s i l)))] ob K:=by
 refine Xi hP Xx (ds:=[.int .u8 c.toNat,.ref (.ref (scD s i l))]) Yix Yn0 TOk.nil ?_
 have hc:=c.toNat_lt
 simp[Ylk,hc,show (c.toNat:Int)<256 by omega]
 refine (congrArg K ?_).mp h
 congr 2
 rw[Bool.eq_iff_iff]
 have h2:=Xcz c.toNat hc
 have h3:=Xbb c.toNat hc
 simp[Wx,Xkc,h2,h3]
theorem Xqe (c:UInt8)(s:List UInt8)(i:Int)(l:List D){ob:Xa}{K:V->Prop}(h:K (.d (.bool (Yn c)))):PCall P 221 [.d (.int .u8 c.toNat),.d (.ref (.ref (scD s i l)))] ob K:=by
 refine Xi hP Xx (ds:=[.int .u8 c.toNat,.ref (.ref (scD s i l))]) Yiz Yn2 TOk.nil ?_
 have hc:=c.toNat_lt
 simp[Ylm,hc,show (c.toNat:Int)<256 by omega]
 refine (congrArg K ?_).mp h
 congr 2
 rw[Bool.eq_iff_iff]
 have h3:=Xbb c.toNat hc
 simp[Yn,h3]
theorem X2d (c:UInt8){ob:Xa}{K:V->Prop}(h:K (.d (.bool (Uz c)))):PCall P 223 [.d (.int .u8 c.toNat)] ob K:=by
 refine Xi hP Xx (ds:=[.int .u8 c.toNat]) Yi1 Yn4 TOk.nil ?_
 simp[Ylo]
 refine (congrArg K ?_).mp h
 congr 2
 rw[Bool.eq_iff_iff]
 simp[Uz]
 constructor
 ·intro h1 h2; exact h1 (by rw[<-UInt8.ofNat_toNat (x:=c),show c.toNat=10 by omega]; rfl)
 ·intro h1 h2; subst h2; exact h1 rfl
theorem Xv0 (s t:List UInt8){ob:Xa}{K:V->Prop}(h:K (.d (.bool (t.isPrefixOf s)))):PCall P 222 [.d (.str s),.d (.str t)] ob K:=by
 have h0:∀{K:V->Prop},K (.d (.bool (t.isPrefixOf s)))->PCall P 285 [.d (.str s),.d (.str t)] [] K:=fun {K} h=>by
  refine Xi hP Xx (ds:=[.str s,.str t]) Yi6 Yn9 TOk.nil ?_
  simp[Ylq]
  refine (congrArg K ?_).mp h
  congr 2
  rw[Bool.eq_iff_iff]
  simp only[List.isPrefixOf_iff_prefix,List.prefix_iff_eq_take]
  by_cases hl:t.length<=s.length
  ·simp[hl]; exact eq_comm
  ·simp[hl]
   intro e
   have:=congrArg List.length e
   simp at this; omega
 refine Xi hP Xx (ds:=[.str s,.str t]) Yi0 Yn3 TOk.nil ?_
 simp[Yln]
 exact h0 (by simpa using h)
theorem X2c (s:List UInt8)(i:Nat)(hi:i<=s.length)(hs:s.length<=1000000)(l:List D)(f:Nat)(fi ca:List D)(p:UInt8->Bool)(hf:Xm P.p f=true)
  (hp:∀(c:UInt8) (K:V->Prop),K (.d (.bool (p c)))->PCall P f (fi.map .d++.d (.int .u8 c.toNat)::ca.map .d) [] K)
  {ob:Xa} {K:V->Prop} (h:K (.d (.str ((s.drop i).takeWhile p)))):PCall P 218 [.d (.ref (scD s i l)),.d (.fn f fi ca)] ob K:=by
 refine Xi hP Xx (ds:=[.ref (scD s i l),.fn f fi ca]) Yiw Ynz TOk.nil ?_
 simp[Ylj]
 refine ALoop.go (ι:=Nat) (fun j=>[(0,.d (.ref (scD s i l))),(1,.d (.fn f fi ca)),(5,.d (.int .i64 j))]) (fun _=>[]) (fun j=>i<=j/\j<=s.length/\j+tw p s j=i+tw p s i) (fun j=>s.length-j) i ⟨by omega,by omega,rfl⟩ rfl rfl ?_
 rintro j ⟨hj0,hj1,hj2⟩ R rn re _ _
 have ex:tw p s j=0->∀x,R (AExit.exit 0) [(0,.d (.ref (scD s i l))),(1,.d (.fn f fi ca)),(5,.d (.int .i64 j)),(26,x)] []:=fun h0 x=>by
  refine re _ _ _ ?_
  simp[hj0,hj1]
  refine (congrArg K ?_).mp h
  congr 2
  rw[List.drop_take,Wy]
  congr 1
  simp only[tw]at hj2 h0⊢
  omega
 simp[Xvi]
 by_cases hjl:j<s.length
 ·have hwj:=Xh5 hjl hs
  simp[hjl,hwj,hf]
  refine⟨PCall.acall (hp s[j] _ ?_),fun h=>absurd h (by omega)⟩
  by_cases hb:p s[j]=true
  ·simp[hb]
   refine rn [] (j+1) _ _ ⟨?_,?_,?_⟩ ?_ ?_ ?_ ?_ ?_
   ·omega
   ·omega
   ·rw[<-hj2,Xuw hjl (by simpa[hjl]using hb)]; omega
   ·omega
   ·simp
   ·simp
   ·simp
   ·simp
  ·simp[hb]
   exact ex (Ytb hjl (by simpa[hjl]using hb)) _
 ·simp[hjl]
  exact fun _=>ex (Yta (by omega)) _
end
end Go.Proofs.YtolkimpelpnpbaaGreatDoor
namespace Go.Proofs.YtolkimpelpnpbaaGreatDoor
open Go Go.Ab Go.Lx
section
variable {P:Prg} (hP:P.p=Tryz.prog)
include hP
theorem X15 (s:List UInt8)(i n:Nat)(k m a0:Int)(t:List UInt8)(ts:List D)(hn:i+n<=1000000)(hts:ts.length<=1000000){ob:Xa}{x y:Nat}(hx:Xe ob x=some (.box 228 (scV s i y ts.length)))(hy:Xe ob y=some (.arr 153 4 ts))
  {K:Out->Xa->Prop} (h:K (.ret (.tup [])) (setO (setO ob y (.arr 153 4 (ts++[.agg [.int .i64 k,.str t,.int .i64 m,.int .i64 i]]))) x (.box 228 (scV s ((i+n:Nat):Int) y (ts.length+1))))) :
  ACall P 220 [.ptr x [],.d (.agg [.int .i64 k,.str t,.int .i64 m,.int .i64 a0]),.d (.int .i64 n)] ob K:=by
 have hxy:(y==x)=false:=by rw[beq_eq_false_iff_ne]; intro e; subst e; rw[hx]at hy; cases hy
 have hyx:(x==y)=false:=by rw[beq_eq_false_iff_ne]; intro e; subst e; rw[hx]at hy; cases hy
 refine Xs hP Xx Yiy Yn1 TOk.nil ?_
 intro _ hm
 have hw:IntKind.i64.wrap ((i:Int)+n)=(i:Int)+n:=IntWalk.i64_in _ (by omega)
 simp[Yll,hx,hy,hxy,hyx,hw]
 refine⟨by omega,?_⟩
 refine⟨[],by simp,?_,?_⟩
 ·simp
  exact X7 _ _ _ _ _ (Zz _ _ _ _ _ _ (hm _)) (by simp[hy])
 ·simpa using h
abbrev Xdu (ob:Xa)(x y:Nat)(s:List UInt8)(ts:List D)(k:Int)(t:List UInt8)(m:Int)(i n:Nat):Xa:=
 setO (setO ob y (.arr 153 4 (ts++[.agg [.int .i64 k,.str t,.int .i64 m,.int .i64 i]]))) x (.box 228 (scV s ((i+n:Nat):Int) y (ts.length+1)))
theorem Xd2:Xm P.p 219=true/\Xm P.p 221=true/\Xm P.p 223=true:=by
 rw[hP]; exact⟨by kernel_rfl,by kernel_rfl,by kernel_rfl⟩
section
variable (s:List UInt8) (i:Nat) (ts:List D) (hs:s.length<=65536) (hi:i<s.length) (hts:ts.length<=1000000) {ob:Xa} {x y:Nat} (hx:Xe ob x=some (.box 228 (scV s i y ts.length))) (hy:Xe ob y=some (.arr 153 4 ts)) {K:Out->Xa->Prop}
include hs hi hts hx hy
omit hs hi hts hy in
theorem X2b (h:K (.panic (.d (.iface 222 (.int .i64 i)))) ob):ACall P 128 [.ptr x []] ob K:=by
 refine Xs hP Xx Yij Ynm TOk.nil ?_
 intro _ hm
 simp[Yla,hx]
 refine⟨[],by simp,?_,?_⟩
 ·simp[hm]
 ·simpa using h
omit hts in
theorem X2f (h:K (.ret (.tup [])) (setO ob x (.box 228 (scV s ((i+1:Nat):Int) y ts.length)))):ACall P 129 [.ptr x []] ob K:=by
 refine Xs hP Xx Yik Ynn TOk.nil ?_
 intro _ hm
 have hw:=Xh5 hi (by omega)
 simp[Ylb,hx,hw]
 refine⟨[],by simp,?_,?_⟩
 ·simp
  exact X7 _ _ _ _ _ (hm _) (by simp[hy])
 ·simpa using h
theorem X9g (h1:32<tw Wx s i->K (.panic (.d (.iface 222 (.int .i64 i)))) ob)(h2:tw Wx s i<=32->K (.ret (.tup [])) (Xdu ob x y s ts 1 ((s.drop i).takeWhile Wx) 0 i (tw Wx s i))):ACall P 130 [.ptr x []] ob K:=by
 refine Xs hP Xx Yil Yno TOk.nil ?_
 intro _ hm
 have hle:=Xot Wx s i (by omega)
 simp[Ylc,hx]
 refine PCall.borrow (n:=5) (ds:=[.ref (scD s i ts),.fn 219 [] [.ref (.ref (scD s i ts))]]) (by simp[hx,hy]) ?_
 refine X2c hP s i (by omega) (by omega) ts _ [] _ Wx (Xd2 hP).1 (fun c K h=>by simpa using X2a hP c s i ts h) ?_
 simp
 have hl:((s.drop i).takeWhile Wx).length=tw Wx s i:=rfl
 simp[hl,hx]
 refine⟨fun h3=>?_,fun h3=>?_⟩
 ·refine⟨[],by simp,?_,?_⟩
  ·simp[hm]
  ·simpa using h1 (by omega)
 ·simp[Xve,hl,hx]
  refine X15 hP (y:=y) s i _ 1 0 0 _ ts (by omega) hts (by simp[hx]) (by simp[hy]) ?_
  simp[hx,hy]
  refine⟨[],by simp,?_,?_⟩
  ·simp
   exact X7 _ _ _ _ _ (Zz _ _ _ _ _ _ (hm _)) (by simp[hy])
  ·simpa[Xdu]using h2 (by omega)
theorem Xqf (hd:Yn (s[i]?.getD 0)=true)(h1:Xe6 ((s.drop i).takeWhile Yn)=none->K (.panic (.d (.iface 222 (.int .i64 i)))) ob)
  (h2:∀m,Xe6 ((s.drop i).takeWhile Yn)=some m->K (.ret (.tup [])) (Xdu ob x y s ts 2 [] m i (tw Yn s i))):ACall P 131 [.ptr x []] ob K:=by
 refine Xs hP Xx Yim Ynp TOk.nil ?_
 intro _ hm
 have hle:=Xot Yn s i (by omega)
 simp[Yld,hx]
 refine PCall.borrow (n:=5) (ds:=[.ref (scD s i ts),.fn 221 [] [.ref (.ref (scD s i ts))]]) (by simp[hx,hy]) ?_
 refine X2c hP s i (by omega) (by omega) ts _ [] _ Yn (Xd2 hP).2.1 (fun c K h=>by simpa using Xqe hP c s i ts h) ?_
 have hl:((s.drop i).takeWhile Yn).length=tw Yn s i:=rfl
 have hdg:∀k,k<tw Yn s i->Xbc (((s.drop i).takeWhile Yn)[k]?.getD 0).toNat=true:=fun k hk=>by
  have:((s.drop i).takeWhile Yn)[k]∈(s.drop i).takeWhile Yn:=List.getElem_mem hk
  rw[List.getElem?_eq_getElem hk]
  exact Xz6 this
 have hne:0<tw Yn s i:=by have:=Xuw hi hd; omega
 generalize ht:(s.drop i).takeWhile Yn=t at *
 rw[<-hl]at hdg hne
 simp
 refine ALoop.go (ι:=Nat×Int) (fun k=>[(1,.ptr (Xb ob) []),(2,.d (.str t)),(3,.d (.int .i64 k.2)),(9,.d (.int .i64 t.length)),(10,.d (.int .i64 k.1))]) (fun _=>(Xb ob,.box 224 (.ptr x []))::ob)
  (fun k=>k.1<=t.length/\0<=k.2/\k.2<=1099511627776/\Xe5 0 t=Xe5 k.2 (t.drop k.1)/\(2<=k.1->t.headD 0 ≠ 48)) (fun k=>t.length-k.1) (0,0) ⟨by simp,by simp,by simp,by simp,by simp⟩ rfl rfl ?_
 rintro⟨k,n⟩ ⟨hk,k1,k2,k3,k4⟩ R rn re _ rp
 simp only at hk k1 k2 k3 k4
 simp[Xvf]
 by_cases hlt:k<t.length
 ·have hc:=hdg k hlt
  rw[Xn8 hlt]at k3
  generalize hcc:t[k]?.getD 0=c at *
  have hcc':t[k]=c:=by rw[<-hcc]; simp[hlt]
  simp[Xbc]at hc
  have hcl:=c.toNat_lt
  have hw:IntKind.i64.wrap (IntKind.i64.wrap (10*n)+IntKind.i64.wrap (IntKind.u8.wrap (c.toNat-48)))=10*n+(c.toNat-48):=by
   rw[IntWalk.u8_in _ (by omega),IntWalk.i64_in (10*n) (by omega),IntWalk.i64_in (_-48) (by omega),IntWalk.i64_in _ (by omega)]
  have hwk:=Xh5 hlt (by omega)
  have hpan:Xe6 t=none->R (AExit.panic (V.d (D.iface 222 (D.int IntKind.i64 i)))) [] ((Xb ob,.box 224 (.ptr x []))::ob):=fun hno=>by
   refine rp _ _ _ ?_
   simp
   refine⟨[],by simp,?_,?_⟩
   ·simp[hm]
   ·simpa using h1 hno
  have h0:(t[0]?.getD 0)=t.headD 0:=by cases t<;>rfl
  have hlead:0<k->t[0]?.getD 0=48->Xe6 t=none:=fun k0 e=>by
   rw[h0]at e
   unfold Xe6
   cases Xe5 0 t with
   | none=>rfl
   | some m=>simp only; rw[if_neg]; simp only[not_or,Classical.not_not]; exact⟨by omega,e⟩
  simp[hlt,hcc',hw,hwk,hx]
  refine⟨⟨fun _ _=>hne,fun e=>hpan ?_,fun e1 e2=>?_⟩,fun e=>absurd e (by omega)⟩
  ·rcases e with e | ⟨e1,e2⟩
   ·rw[if_pos e]at k3
    simp[Xe6,k3]
   ·refine hlead e1 ?_
    have e3:(t[0]?.getD 0).toNat=48:=by omega
    generalize t[0]?.getD 0=z at e3
    rw[<-UInt8.ofNat_toNat (x:=z),e3]; rfl
  ·rw[if_neg (by omega)]at k3
   simp[Xvg,hwk]
   refine rn [] (k+1,10*n+(c.toNat-48)) _ _ ⟨?_,?_,?_,?_,?_⟩ ?_ ?_ ?_ ?_ ?_
   ·simp only; omega
   ·simp only; omega
   ·exact e1
   ·exact k3
   ·intro h2k e3
    have hk0:0<k:=by simp only at h2k; omega
    refine e2 hk0 ?_
    rw[h0,e3]; rfl
   ·simp only; omega
   ·simp
   ·simp
   ·simp[Xf]
   ·simp[X0 _ hm,hx]
 ·have hk':k=t.length:=by omega
  subst hk'
  simp
  refine re _ _ _ ?_
  simp[hx]
  refine X15 hP (y:=y) s i _ 2 n 0 _ ts (by omega) hts (by simp[hx]) (by simp[hy]) ?_
  simp[hx,hy]
  refine⟨[],by simp,?_,?_⟩
  ·simp
   exact X7 _ _ _ _ _ (Zz _ _ _ _ _ _ (hm _)) (by simp[hy])
  ·have hn:Xe6 t=some n:=by
    simp[Xe5]at k3
    simp only[Xe6,k3]
    rw[if_pos]
    by_cases h2:2<=t.length
    ·exact .inr (k4 h2)
    ·exact .inl (by omega)
   simpa[Xdu,hl]using h2 n hn
theorem X2e (hsg:X79 (s[i]?.getD 0)=true)(h1:s[i]?.getD 0=47/\(s.drop (i+1)).head? = some 47->K (.ret (.tup [])) (setO ob x (.box 228 (scV s ((i+tw Uz s i:Nat):Int) y ts.length))))
  (h2:¬(s[i]?.getD 0=47/\(s.drop (i+1)).head? = some 47)->K (.ret (.tup [])) (Xdu ob x y s ts 3 [s[i]?.getD 0] 0 i 1)):ACall P 132 [.ptr x []] ob K:=by
 refine Xs hP Xx Yin Ynq TOk.nil ?_
 intro _ hm
 have hw:=Xh5 hi (by omega)
 have hle:=Xot Uz s i (by omega)
 simp[Yle,hx,hw,show i<=s.length by omega]
 refine PCall.data (ds:=[.str (s.drop i),.str [47,47]]) rfl (Xv0 hP _ _ ?_)
 have hpre:([47,47]:List UInt8).isPrefixOf (s.drop i)=decide (s[i]?.getD 0=47/\(s.drop (i+1)).head? = some 47):=by
  rw[V0 hi]
  cases hd:s.drop (i+1) with
  | nil=>simp[List.isPrefixOf]
  | cons a r=>
   rw[Bool.eq_iff_iff]
   simp only[List.isPrefixOf,Bool.and_eq_true,beq_iff_eq,Bool.and_true,decide_eq_true_eq,List.head?_cons,Option.some.injEq]
   exact⟨fun h=>⟨h.1.symm,h.2.symm⟩,fun h=>⟨h.1.symm,h.2.symm⟩⟩
 rw[hpre]
 simp[hx,hw]
 refine⟨fun e1 e2=>?_,fun e=>⟨by omega,?_⟩⟩
 ·refine PCall.borrow (n:=5) (ds:=[.ref (scD s i ts),.fn 223 [] []]) (by simp[hx,hy]) ?_
  refine X2c hP s i (by omega) (by omega) ts _ [] [] Uz (Xd2 hP).2.2 (fun c K h=>by simpa using X2d hP c h) ?_
  have hl:((s.drop i).takeWhile Uz).length=tw Uz s i:=rfl
  have hw2:IntKind.i64.wrap ((i:Int)+tw Uz s i)=(i:Int)+tw Uz s i:=IntWalk.i64_in _ (by omega)
  simp[hl,hw2]
  refine⟨[],by simp,?_,?_⟩
  ·simp
   exact X7 _ _ _ _ _ (hm _) (by simp[hy])
  ·have:=h1 ⟨e1,by rw[Xgt]; exact e2⟩
   simpa using this
 ·have htx:(s.take (i+1)).drop i=[s[i]?.getD 0]:=by
   rw[List.drop_take,Nat.add_sub_cancel_left,V0 hi]; rfl
  rw[htx]
  refine X15 hP (y:=y) s i 1 3 0 0 _ ts (by omega) hts hx hy ?_
  simp
  refine⟨[],by simp,?_,?_⟩
  ·simp
   exact X7 _ _ _ _ _ (Zz _ _ _ _ _ _ (hm _)) (by simp[hy])
  ·have:=h2 (fun e1=>e e1.1 (by rw[<-Xgt]; exact e1.2))
   simpa[Xdu]using this
end
end
end Go.Proofs.YtolkimpelpnpbaaGreatDoor
namespace Go.Proofs.YtolkimpelpnpbaaGreatDoor
open Go Go.Ab Go.Lx
section
variable {P:Prg} (hP:P.p=Tryz.prog)
include hP
theorem X9h {ob:Xa}{a b c:Nat}{K:Xa->Prop}(h:K ob):DCall P 126 [.ptr a [],.ptr b [],.ptr c []] ob none K:=by
 refine DCall.of_wf fun _ hm=>?_
 refine Xc0 hP Xx X70 Yfb Ye9 TOk.nil ?_
 simp[Xjd,Xjc,X8z]
 refine⟨[],by simp,?_,?_⟩
 ·simp[hm]
 ·simpa using h
theorem X9i {ob:Xa}{a b c:Nat}{i:Int}{K:Xa->Prop}{va vb vc:V}{Ea Eb Ec:Nat}(ha:Xe ob a=some (.box Ea va))(hb:Xe ob b=some (.box Eb vb))(hc:Xe ob c=some (.box Ec vc))(sa:va.shape=.leaf)(sb:vb.shape=.leaf)(sc:vc.shape=.leaf)
  (hab:(a==b)=false) (hac:(a==c)=false) (hbc:(b==c)=false) (h:K (setO (setO (setO ob a (.box Ea (.d .nils))) b (.box Eb (.d (.int .i64 i)))) c (.box Ec (.d (.int .i64 90))))):DCall P 126 [.ptr a [],.ptr b [],.ptr c []] ob (some (.d (.iface 222 (.int .i64 i)))) K:=by
 refine DCall.of_wf fun _ hm=>?_
 refine Xc0 hP Xx X70 Yfb Ye9 TOk.nil ?_
 simp[Xjd,Xjc,X8z,Xvd,ha,hb,hc,hab,hac,hbc,sa,sb,sc]
 refine⟨[],by simp,?_,?_⟩
 ·rw[Qi (by simp)]
  exact X7 _ _ _ _ _ (X7 _ _ _ _ _ (X7 _ _ _ _ _ (hm _) (by simp)) (by simp)) (by simp)
 ·rw[Qi (by simp)]
  exact h
theorem Xv5:Xm P.p 126=true/\Xm P.p 128=true/\Xm P.p 129=true/\Xm P.p 130=true/\Xm P.p 131=true/\Xm P.p 132=true:=by
 rw[hP]; exact⟨by kernel_rfl,by kernel_rfl,by kernel_rfl,by kernel_rfl,by kernel_rfl,by kernel_rfl⟩
omit hP in
theorem Xuv (f g:Nat->Int):(Uk f).shape=(Uk g).shape:=by
 simp only[Uk,Xfe,D.shape,D.shapes_eq,List.map_map,Function.comp_def]
theorem Yl5 (s:List UInt8){ob:Xa}{K:V->Prop}(h:K (Ye8 s)):PCall P 74 [.d (.str s)] ob K:=by
 refine Xag hP Xx (ds:=[.str s]) Yxi Yzm TOk.nil ?_
 obtain⟨d0,d1,d2,d3,d4,d5⟩:=Xv5 hP
 simp only[Yvz,Xh9,X1q]
 simp[d0]
 refine⟨fun hl=>?_,fun hl=>?_⟩
 ·simpa[Ye8,show 65536<s.length by omega]using h
 ·have hl':¬65536<s.length:=by omega
  simp only[Ye8,gt_iff_lt,hl',if_false]at h
  refine Xni hP ?_
  simp[Ytr]
  refine⟨Xuv _ _,?_⟩
  refine ALoop.go (ι:=Nat×List Tok) (fun _=>[(0,.d (.str s)),(2,.ptr 0 []),(3,.ptr 1 []),(4,.ptr 2 []),(5,.ptr 3 []),(6,.ptr 5 [])])
   (fun k=>[(5,.box 229 (.agg [.fn 128 [.ptr 3 []] [],.fn 129 [.ptr 3 []] [],.fn 130 [.ptr 3 []] [],.fn 131 [.ptr 3 []] [],.fn 132 [.ptr 3 []] []])),
    (4,.arr 153 4 (k.2.map Tok.enc)),(3,.box 228 (scV s k.1 4 k.2.length)),(2,.box 46 (.d (.int .i64 0))),(1,.box 3 (.d (.int .i64 0))),(0,.box 141 (.d .nils))])
   (fun k=>k.1<=s.length/\k.2.length<=k.1/\Xfm s 0=Xu3 k.2 (Xfm (s.drop k.1) k.1)) (fun k=>s.length-k.1) (0,[]) ⟨by simp,by simp,by simp[Xvw]⟩ rfl (by simp) ?_
  rintro⟨i,out⟩ ⟨hi,ho,he⟩ R rn re _ rp
  simp only at hi ho he
  have nx:∀j out' ob',j<=s.length->out'.length<=j->Xfm s 0=Xu3 out' (Xfm (s.drop j) j)->i<j->ob'=[(5,.box 229 (.agg [.fn 128 [.ptr 3 []] [],.fn 129 [.ptr 3 []] [],.fn 130 [.ptr 3 []] [],.fn 131 [.ptr 3 []] [],.fn 132 [.ptr 3 []] []])),
    (4,.arr 153 4 (out'.map Tok.enc)),(3,.box 228 (scV s j 4 out'.length)),(2,.box 46 (.d (.int .i64 0))),(1,.box 3 (.d (.int .i64 0))),(0,.box 141 (.d .nils))]->R .normal [(0,.d (.str s)),(2,.ptr 0 []),(3,.ptr 1 []),(4,.ptr 2 []),(5,.ptr 3 []),(6,.ptr 5 [])] ob':=fun j out' ob' h1 h2 h3 h4 h6=>
   rn [] (j,out') _ _ ⟨h1,h2,h3⟩ (by simp only; omega) rfl (by rw[h6]; simp[Xf]) (by simp[Xf]) (by simp[Xf])
  clear rn
  by_cases hlt:i<s.length
  ·rw[X4z hlt]at he
   generalize hc:s[i]?.getD 0=c at *
   have hc':s[i]=c:=by rw[<-hc]; simp[hlt]
   have hcl:=c.toNat_lt
   have hout:(out.map Tok.enc).length<=1000000:=by simp; omega
   have pan:Xfm s 0=.err i->R (.panic (.d (.iface 222 (.int .i64 i)))) [(2,.ptr 0 []),(3,.ptr 1 []),(4,.ptr 2 [])] [(5,.box 229 (.agg [.fn 128 [.ptr 3 []] [],.fn 129 [.ptr 3 []] [],.fn 130 [.ptr 3 []] [],.fn 131 [.ptr 3 []] [],.fn 132 [.ptr 3 []] []])),
    (4,.arr 153 4 (out.map Tok.enc)),(3,.box 228 (scV s i 4 out.length)),(2,.box 46 (.d (.int .i64 0))),(1,.box 3 (.d (.int .i64 0))),(0,.box 141 (.d .nils))]:=fun hr=>by
    refine rp _ _ _ ?_
    simp
    refine X9i hP (Ea:=141) (Eb:=3) (Ec:=46) (va:=.d .nils) (vb:=.d (.int .i64 0)) (vc:=.d (.int .i64 0)) (by simp) (by simp) (by simp) (by simp) (by simp) (by simp) rfl rfl rfl ?_
    simp
    rw[hr]at h
    exact h
   have hx:∀(o5:Ob),Xe [(5,o5),(4,Ob.arr 153 4 (out.map Tok.enc)),(3,Ob.box 228 (scV s i 4 (out.map Tok.enc).length)),(2,.box 46 (.d (.int .i64 0))),(1,.box 3 (.d (.int .i64 0))),(0,.box 141 (.d .nils))] 3=some (.box 228 (scV s i 4 (out.map Tok.enc).length)):=fun _=>by simp
   have hcr:=Xqp c.toNat hcl
   have cls:∀m:Nat,Xfl c.toNat=m->(Xfl c.toNat).toNat=m:=fun m e=>by omega
   have g1:=Xqq c.toNat hcl
   have g2:=Xcz c.toNat hcl
   have g3:=Xbb c.toNat hcl
   have g4:=Xv8 c.toNat hcl
   have e47:Xfl c.toNat ≠ 4->¬(c=47/\(s.drop (i+1)).head? = some 47):=fun hne h=>by
    obtain⟨rfl,_⟩:=h; exact hne (by decide +kernel)
   have key:∀m:Int,Xfl c.toNat=m->(Xm0 c=decide (m=1))/\(Xbq c=decide (m=2))/\(Yn c=decide (m=3))/\(X79 c=decide (m=4)):=fun m e=>by
    rw[e]at g1 g2 g3 g4
    refine⟨?_,?_,?_,?_⟩<;>rw[Bool.eq_iff_iff,decide_eq_true_eq]
    ·exact g1.symm
    ·exact g2.symm
    ·exact g3.symm
    ·exact g4.symm
   have htwt:∀p:UInt8->Bool,p c=true->tw p s i=((s.drop (i+1)).takeWhile p).length+1/\(s.drop i).takeWhile p=c::(s.drop (i+1)).takeWhile p:=fun p hp=>by
    refine⟨(X8d p hlt (by rw[hc]; exact hp)).2,?_⟩
    rw[V0 hlt,hc,List.takeWhile_cons,if_pos hp]
   rcases (by omega:Xfl c.toNat=0\/Xfl c.toNat=1\/Xfl c.toNat=2\/Xfl c.toNat=3\/Xfl c.toNat=4) with e | e | e | e | e
   ·obtain⟨k1,k2,k3,k4⟩:=key 0 e
    simp only[stp,k1,k2,k3,k4,e47 (by rw[e]; decide),if_false,Xu3]at he
    simp[Jc,hlt,hc',hcl,show (c.toNat:Int)<256 by omega,e,d1]
    refine X2b hP s i (out.map Tok.enc) (y:=4) (by simp) ?_
    simp
    exact pan (by simpa using he)
   ·obtain⟨k1,k2,k3,k4⟩:=key 1 e
    simp[stp,k1]at he
    simp[Jc,hlt,hc',hcl,show (c.toNat:Int)<256 by omega,e,d2]
    refine X2f hP s i (out.map Tok.enc) (by omega) hlt (y:=4) (by simp) (by simp) ?_
    simp
    refine nx (i+1) out _ (by omega) (by omega) he (by omega) (by simp)
   ·obtain⟨k1,k2,k3,k4⟩:=key 2 e
    have hp:Wx c=true:=by
     have:Wv c.toNat=true:=by simpa[Xbq]using k2
     simp[Wx,Xkc,this]
    obtain⟨t1,t2⟩:=htwt Wx hp
    have hle:=Xot Wx s i (by omega)
    have k1:Xm0 c=false:=by simpa using k1
    have k2:Xbq c=true:=by simpa using k2
    simp only[stp,k1,k2,e47 (by rw[e]; decide),Bool.false_eq_true,if_false,if_true]at he
    simp[Jc,hlt,hc',hcl,show (c.toNat:Int)<256 by omega,e,d3]
    refine X9g hP s i (out.map Tok.enc) (by omega) hlt hout (y:=4) (by simp) (by simp) (fun h5=>?_) (fun h5=>?_)
    ·simp
     rw[if_neg (by omega)]at he
     exact pan (by simpa[Xu3]using he)
    ·simp[Xdu]
     rw[if_pos (by omega)]at he
     simp only[Xdw]at he
     have hjj:i+((s.drop (i+1)).takeWhile Wx).length+1=i+tw Wx s i:=by omega
     rw[hjj]at he
     refine nx (i+tw Wx s i) (out++[⟨1,c::(s.drop (i+1)).takeWhile Wx,0,i⟩]) _ (by omega) (by simp; omega) he (by omega) ?_
     simp[Tok.enc,t2]
   ·obtain⟨k1,k2,k3,k4⟩:=key 3 e
    have hp:Yn c=true:=by simpa using k3
    obtain⟨t1,t2⟩:=htwt Yn hp
    have hle:=Xot Yn s i (by omega)
    have k1:Xm0 c=false:=by simpa using k1
    have k2:Xbq c=false:=by simpa using k2
    simp only[stp,k1,k2,hp,e47 (by rw[e]; decide),Bool.false_eq_true,if_false,if_true]at he
    simp[Jc,hlt,hc',hcl,show (c.toNat:Int)<256 by omega,e,d4]
    refine Xqf hP s i (out.map Tok.enc) (by omega) hlt hout (y:=4) (by simp) (by simp) (by rw[hc]; exact hp) (fun h5=>?_) (fun m h5=>?_)
    ·simp
     rw[t2]at h5
     rw[h5]at he
     exact pan (by simpa[Xu3]using he)
    ·simp[Xdu]
     rw[t2]at h5
     rw[h5]at he
     simp only[Xdw]at he
     have hjj:i+((s.drop (i+1)).takeWhile Yn).length+1=i+tw Yn s i:=by omega
     rw[hjj]at he
     refine nx (i+tw Yn s i) (out++[⟨2,[],m,i⟩]) _ (by omega) (by simp; omega) he (by omega) ?_
     simp[Tok.enc]
   ·obtain⟨k1,k2,k3,k4⟩:=key 4 e
    simp[Jc,hlt,hc',hcl,show (c.toNat:Int)<256 by omega,e,d5]
    refine X2e hP s i (out.map Tok.enc) (by omega) hlt hout (y:=4) (by simp) (by simp) (by rw[hc]; simpa using k4) (fun h5=>?_) (fun h5=>?_)
    ·rw[hc]at h5
     obtain⟨rfl,h6⟩:=h5
     obtain⟨t1,t2⟩:=htwt Uz rfl
     have hle:=Xot Uz s i (by omega)
     simp only[stp,k1,h6,and_self,if_true,decide_eq_true_eq,show ¬((4:Int)=1) by decide,if_false]at he
     simp
     have hjj:i+((s.drop (i+1)).takeWhile Uz).length+1=i+tw Uz s i:=by omega
     rw[hjj]at he
     refine nx (i+tw Uz s i) out _ (by omega) (by omega) he (by omega) ?_
     simp
    ·rw[hc]at h5
     simp only[stp,k1,k2,k3,k4,h5,if_false,decide_eq_true_eq,show ¬((4:Int)=1) by decide,show ¬((4:Int)=2) by decide,show ¬((4:Int)=3) by decide,if_true,Xdw]at he
     simp[Xdu]
     refine nx (i+1) (out++[⟨3,[c],0,i⟩]) _ (by omega) (by simp; omega) he (by omega) ?_
     simp[Tok.enc,hc]
  ·have hi':i=s.length:=by omega
   subst hi'
   simp[Jc]
   refine re _ _ _ ?_
   simp
   refine X9h hP ?_
   simp
   rw[Xyh (Nat.le_refl _)]at he
   rw[he]at h
   simpa[Xu3,Ys7,X8c]using h
end
end Go.Proofs.YtolkimpelpnpbaaGreatDoor
namespace Go.Ab
open Go
def S.rgs:S->List (Nat×List Nat×S×S)
 | .seq a b=>a.rgs++b.rgs
 | .cond _ a b=>a.rgs++b.rgs
 | .block _ a=>a.rgs
 | .loop _ a=>a.rgs
 | .rgf tag ps _ x y _=>[(tag,ps,x,y)]
 | _=>[]
theorem S.loops_rgs {P:Prg}:∀s:S,(∀t∈s.rgs,W0 P t.1 t.2.1 t.2.2.1 t.2.2.2)->s.loops P
 | .seq a b,h=>⟨S.loops_rgs a fun t ht=>h t (List.mem_append_left _ ht),S.loops_rgs b fun t ht=>h t (List.mem_append_right _ ht)⟩
 | .cond _ a b,h=>⟨S.loops_rgs a fun t ht=>h t (List.mem_append_left _ ht),S.loops_rgs b fun t ht=>h t (List.mem_append_right _ ht)⟩
 | .block _ a,h=>S.loops_rgs a h
 | .loop _ a,h=>S.loops_rgs a h
 | .rgf tag ps _ x y _,h=>h (tag,ps,x,y) (List.mem_singleton.2 rfl)
 | .rg _ _ _ _,_ | .rgT _ _ _ _,_ | .skip,_ | .exit _,_ | .ret,_=>trivial
theorem Xg7 {p:Nat->FI->Bool}:∀{F:FT} {f:Nat} {x:FI},F.all (fun e=>p e.1 e.2)=true->U1 F f=some x->p f x=true
 | [],_,_,_,h=>by cases h
 | (j,y)::r,f,x,ha,h=>by
  simp only[List.all_cons,Bool.and_eq_true]at ha
  simp only[U1,Bool.cond_eq_ite]at h
  split at h
  ·rename_i e
   cases h
   have:=Nat.eq_of_beq_eq_true e
   subst this
   exact ha.1
  ·exact Xg7 ha.2 h
end Go.Ab
namespace Go.Py
open Go Go.Ab Go.Lx
theorem Xyt:∀{n:Nat} {sn:List Nat},n<=3->sn.Perm (List.range n)->sn∈X72 n
 | 0,sn,_,h=>by
  have:sn=[]:=by simpa using h.length_eq
  simp[X72,this]
 | 1,sn,_,h=>by
  have:sn=[0]:=by simpa[List.range,List.range.loop]using h
  simp[X72,this]
 | 2,sn,_,h=>by
  have hl:=h.length_eq
  have hn:=h.nodup_iff.2 List.nodup_range
  have hm:∀x∈sn,x<2:=fun x hx=>by simpa using (h.mem_iff.1 hx)
  match sn,hl with
  | [a,b],_=>
   have ha:=hm a (by simp); have hb:=hm b (by simp)
   have:a ≠ b:=by simpa using hn
   have:a=0/\b=1\/a=1/\b=0:=by omega
   rcases this with⟨rfl,rfl⟩ | ⟨rfl,rfl⟩<;>simp[X72]
 | 3,sn,_,h=>by
  have hl:=h.length_eq
  have hn:=h.nodup_iff.2 List.nodup_range
  have hm:∀x∈sn,x<3:=fun x hx=>by simpa using (h.mem_iff.1 hx)
  match sn,hl with
  | [a,b,c],_=>
   have ha:=hm a (by simp); have hb:=hm b (by simp); have hc:=hm c (by simp)
   have h1:(a ≠ b/\a ≠ c)/\b ≠ c:=by simpa using hn
   obtain⟨⟨h1,h2⟩,h3⟩:=h1
   have:a=0/\b=1/\c=2\/a=0/\b=2/\c=1\/a=1/\b=0/\c=2\/a=1/\b=2/\c=0\/a=2/\b=0/\c=1\/a=2/\b=1/\c=0:=by omega
   rcases this with⟨rfl,rfl,rfl⟩ | ⟨rfl,rfl,rfl⟩ | ⟨rfl,rfl,rfl⟩ | ⟨rfl,rfl,rfl⟩ | ⟨rfl,rfl,rfl⟩ | ⟨rfl,rfl,rfl⟩<;>simp[X72]
 | n+4,_,h,_=>by omega
theorem X2o {e:D×V}{p:Int×Int}(h:Ymg e=some p):e=Uv p:=by
 unfold Ymg at h
 split at h
 ·cases h; rfl
 ·cases h
theorem Xd5:∀{es:List (D×V)} {l:List (Int×Int)},Xwa es=some l->es=l.map Uv
 | [],l,h=>by cases h; rfl
 | e::r,l,h=>by
  unfold Xwa at h
  split at h
  ·rename_i p l' h1 h2
   cases h
   rw[X2o h1,Xd5 h2]; rfl
  ·cases h
end Go.Py
namespace Go.Proofs.YtolkimpelpnpbaaGreatDoor
open Go Go.Ab Go.Lx Go.Py
structure IvlZ (P:Prg):Prop where
 factors:GlobIs P 0 (.agg [.int .i64 2,.int .i64 1000])
 editions:GlobIs P 1 (.agg [.int .i64 1,.int .i64 255])
 mosts:GlobIs P 2 (.agg [.int .i64 0,.int .i64 32])
 weights:GlobIs P 3 (.agg [.int .i64 0,.int .i64 9])
 anyN:GlobIs P 4 (.agg [.int .i64 0,.int .i64 1048576])
structure LoopZ (P:Prg):Prop where
 keys:Xnd P
 change:W0 P 18 [34] ir18900 ir18901
 ints:W0 P 260 [7] ir260900 ir260901
section
variable {P:Prg} (hP:P.p=Tryz.prog) (hI:IvlZ P) (hL:LoopZ P)
include hP hI hL
theorem X1f (g:Nat)(x:D)(h:xgl g=some x):GlobIs P g x:=by
 simp only[xgl,Bool.cond_eq_ite]at h
 split at h
 ·rename_i e; cases h; rw[Nat.eq_of_beq_eq_true e]; exact hI.factors
 split at h
 ·rename_i e; cases h; rw[Nat.eq_of_beq_eq_true e]; exact hI.editions
 split at h
 ·rename_i e; cases h; rw[Nat.eq_of_beq_eq_true e]; exact hI.mosts
 split at h
 ·rename_i e; cases h; rw[Nat.eq_of_beq_eq_true e]; exact hI.weights
 split at h
 ·rename_i e; cases h; rw[Nat.eq_of_beq_eq_true e]; exact hI.anyN
 ·cases h
theorem X1g:xz0.ok P:=⟨fun _ _ _ _ _ h=>(by cases h),fun _ _ _ _ h=>(by cases h),fun _ h=>(by cases h),X1f hP hI hL,fun _ _ _ _ _ h=>(by cases h),fun _ _ _ _ _ h=>(by cases h)⟩
theorem Xmg (tag:Nat)(ps:List Nat)(x y:S)(h:xlt tag=some (ps,x,y)):W0 P tag ps x y/\x.noR=true/\y.noR=true:=by
 simp only[xlt,Bool.cond_eq_ite]at h
 split at h
 ·rename_i e; cases h; rw[Nat.eq_of_beq_eq_true e]; exact⟨hL.change,by kernel_rfl,by kernel_rfl⟩
 split at h
 ·rename_i e; cases h; rw[Nat.eq_of_beq_eq_true e]; exact⟨hL.ints,by kernel_rfl,by kernel_rfl⟩
 ·cases h
theorem Xaz:FT.lps P Vs:=by
 intro f x h
 have h1:=Xg7 (p:=fun f x=>Nat.beq f 18||Nat.beq f 204||Nat.beq f 260||x.nr) (F:=Vs) (by kernel_rfl) h
 simp only[Bool.or_eq_true]at h1
 rcases h1 with ((e | e) | e) | e
 ·rw[Nat.eq_of_beq_eq_true e]at h
  have h2:U1 Vs 18=some (.br Yby [.c 4 1 false,.c 5 1 false] 2):=by kernel_rfl
  rw[h2]at h; cases h
  refine S.loops_rgs Yby fun t ht=>?_
  have h3:Yby.rgs=[(18,[34],ir18900,ir18901)]:=by kernel_rfl
  rw[h3]at ht
  rw[List.mem_singleton.1 ht]; exact hL.change
 ·rw[Nat.eq_of_beq_eq_true e]at h
  have h2:U1 Vs 204=some (.pr Xnz [.t 4] 2):=by kernel_rfl
  rw[h2]at h; cases h
  refine S.loops_rgs Xnz fun t ht=>?_
  have h3:Xnz.rgs=[(204,[7],ir204900,ir204901)]:=by kernel_rfl
  rw[h3]at ht
  rw[List.mem_singleton.1 ht]; exact hL.keys
 ·rw[Nat.eq_of_beq_eq_true e]at h
  have h2:U1 Vs 260=some (.pr Xr5 [.t 4] 2):=by kernel_rfl
  rw[h2]at h; cases h
  refine S.loops_rgs Xr5 fun t ht=>?_
  have h3:Xr5.rgs=[(260,[7],ir260900,ir260901)]:=by kernel_rfl
  rw[h3]at ht
  rw[List.mem_singleton.1 ht]; exact hL.ints
 ·exact x.lps_nr e
theorem Xy2 {ob:Xa}{a:Nat}{fs:List (Int×Int)}{sn:List Nat}{s:List D}(h:X8s ob a fs sn=some s):s.length=sn.length/\ACall P 108 [.sl a sn.length,.fn 54 [] []] ((a,.arr 76 2 (sn.map fun i=>fD (atF fs i)))::ob) fun o b=>o=.ret (.tup [])/\b=(a,.arr 76 2 s)::ob:=by
 have fo:=Xbl (P:=P) (L:=100) (F:=Vs) (by rw[hP]; exact Xx) (by rw[hP]; exact Xfd) (Xaz hP hI hL) (X1g hP hI hL) (fun _ _ _ _ h=>by cases h) 12
 unfold X8s at h
 generalize hq:(fns 100 Vs xz0 12).call 108 [.sl a sn.length,.fn 54 [] []] ((a,.arr 76 2 (sn.map fun i=>fD (atF fs i)))::ob)=q at h
 unfold Yxr at h
 split at h
 ·rw[Bool.cond_eq_ite]at h
  split at h
  ·rename_i e
   cases h
   simp only[Bool.and_eq_true]at e
   obtain⟨⟨⟨e1,e2⟩,e3⟩,e4⟩:=e
   have e1:=Nat.eq_of_beq_eq_true e1
   have e3:=Nat.eq_of_beq_eq_true e3
   have e4:=Uw _ _ e4
   subst e1; subst e3; subst e4
   exact⟨Nat.eq_of_beq_eq_true e2,fo.call _ _ _ _ _ hq⟩
  ·cases h
 ·cases h
theorem Xk5 {ob:Xa}{a:Nat}{fs:List (Int×Int)}{s:List D}:∀{l:List (List Nat)},Ykg ob a fs s l=true->∀sn∈l,X8s ob a fs sn=some s
 | [],_,sn,hm=>by cases hm
 | x::r,h,sn,hm=>by
  simp only[Ykg,Bool.and_eq_true]at h
  rcases List.mem_cons.1 hm with rfl | hm
  ·have h1:=h.1
   split at h1
   ·rename_i l e
    rw[e,D.eqbs_eq _ _ h1]
   ·cases h1
  ·exact Xk5 h.2 sn hm
theorem Xvr {ob:Xa}{bx E m:Nat}{fs:List (Int×Int)}(hb:Xe ob bx=some (.box E (.mp m)))(hm:Xe ob m=some (.map (fs.map Uv)))(hn:fs.length<=3){o:Out}{b:Xa}(hne:fs ≠ [])(h:Xy7 ob fs=some (o,b)):ACall P 52 [.fn 109 [] [.ptr bx []],.fn 54 [] []] ob fun o' b'=>o'=o/\b'=b:=by
 refine Xs hP Xx Ys4 Yvb TOk.nil fun _ hno=>?_
 simp[Yth]
 refine Xfo hP hL.keys hb hm (by omega) (fun e=>absurd (List.length_eq_zero_iff.1 e) hne) (fun sn hs hsn=>?_)
 have hmem:=Xyt hn hs
 unfold Xy7 at h
 split at h
 ·rename_i s0 r e0
  split at h
  ·rename_i s e1
   rw[Bool.cond_eq_ite]at h
   split at h
   ·rename_i e2
    cases h
    have hrun:X8s ob (Xb ob+5) fs sn=some s:=by
     rw[e0]at hmem
     rcases List.mem_cons.1 hmem with e | e
     ·rw[e]; exact e1
     ·exact Xk5 hP hI hL e2 sn e
    obtain⟨hlen,hcall⟩:=Xy2 hP hI hL hrun
    simp[Xpm]
    refine hcall.mono fun o b ⟨h1,h2⟩=>?_
    subst h1; subst h2
    rw[<-hlen]
    simp[Xpl]
    refine⟨[],by simp,?_,?_⟩
    ·simp[Xf]; exact hno _
    ·simp[Xf]
   ·cases h
  ·cases h
 ·cases h
theorem Xpw {ob:Xa}{bx E m:Nat}(hb:Xe ob bx=some (.box E (.mp m)))(hm:Xe ob m=some (.map [])){o:Out}{b:Xa}(h:Yox ob ((fns 100 Vs xz0 12).call 108 [.d .nils,.fn 54 [] []] ob)=some (o,b)):ACall P 52 [.fn 109 [] [.ptr bx []],.fn 54 [] []] ob fun o' b'=>o'=o/\b'=b:=by
 have fo:=Xbl (P:=P) (L:=100) (F:=Vs) (by rw[hP]; exact Xx) (by rw[hP]; exact Xfd) (Xaz hP hI hL) (X1g hP hI hL) (fun _ _ _ _ h=>by cases h) 12
 refine Xs hP Xx Ys4 Yvb TOk.nil fun _ hno=>?_
 simp[Yth]
 refine Xfo (fs:=[]) hP hL.keys hb hm (by simp) (fun _=>?_) (fun sn hs hsn=>absurd (by simpa using hs.length_eq) hsn)
 generalize hq:(fns 100 Vs xz0 12).call 108 [.d .nils,.fn 54 [] []] ob=q at h
 unfold Yox at h
 split at h
 ·rw[Bool.cond_eq_ite]at h
  split at h
  ·rename_i e
   cases h
   have e:=Uw _ _ e
   subst e
   simp[Xpm]
   refine (fo.call _ _ _ _ _ hq).mono fun o b ⟨h1,h2⟩=>?_
   subst h1; subst h2
   simp[Xpl]
   exact⟨[],by simp,by simpa using hno [],by simp⟩
  ·cases h
 ·cases h
theorem Xzh (f:Nat)(vs:List V)(ob:Xa)(o:Out)(b:Xa)(h:xcall f vs ob=some (o,b)):ACall P f vs ob fun o' b'=>o'=o/\b'=b:=by
 unfold xcall at h
 rw[Bool.cond_eq_ite]at h
 split at h
 ·rename_i ef
  rw[Nat.eq_of_beq_eq_true ef]
  split at h
  ·rename_i g bx hh
   rw[Bool.cond_eq_ite]at h
   split at h
   ·rename_i e
    simp only[Bool.and_eq_true]at e
    rw[Nat.eq_of_beq_eq_true e.1,Nat.eq_of_beq_eq_true e.2]
    generalize hb:Xe ob bx=ox at h
    unfold Yjv at h
    split at h
    ·rename_i E m
     generalize hm:Xe ob m=om at h
     unfold Yju at h
     split at h
     ·rename_i es
      split at h
      ·rename_i hd
       rw[Xd5 hd]at hm
       exact Xpw hP hI hL hb hm h
      ·rename_i fs hne hd
       rw[Xd5 hd]at hm
       have hn:fs.length<=3:=by
        rcases Nat.lt_or_ge 3 fs.length with h4 | h4
        ·exfalso
         unfold Xy7 at h
         have:X72 fs.length=[]:=by
          match hk:fs.length,h4 with
          | k+4,_=>rfl
         rw[this]at h
         cases h
        ·exact h4
       exact Xvr hP hI hL hb hm hn (fun e=>hne e) h
      ·cases h
     ·cases h
    ·cases h
   ·cases h
  ·cases h
 ·cases h
theorem Yte:xz.ok P:=by
 refine⟨Xzh hP hI hL,fun f vs ob v h=>?_,fun f h=>?_,X1f hP hI hL,fun _ _ _ _ _ h=>(by cases h),fun f vs ob v b h=>?_⟩
 ·simp only[xz]at h
  unfold xpc at h
  split at h
  ·rename_i s
   rw[Bool.cond_eq_ite]at h
   split at h
   ·rename_i e
    cases h
    rw[Nat.eq_of_beq_eq_true e,Xyi]
    exact Yl5 hP s rfl
   ·cases h
  ·cases h
 ·simp only[xz]at h
  rw[Nat.eq_of_beq_eq_true h]
  exact Xqg hP
 ·simp only[xz]at h
  unfold xxc at h
  split at h
  ·exact Xf5 hP Xlc Xqo h
  ·cases h
end
end Go.Proofs.YtolkimpelpnpbaaGreatDoor
namespace Go.Py
open Go Go.Ab Go.Lx
structure Ent where
 f:Nat
 xs:List D
 v:V
def Yko (f:Nat)(ds:List D):List Ent->Option V
 | []=>none
 | e::r=>bif Nat.beq f e.f&&D.eqbs ds e.xs then some e.v else Yko f ds r
def X8j (f:Nat)(l:List Ent):Option (List D)->Option V
 | some ds=>Yko f ds l
 | none=>none
end Go.Py
namespace Go.Proofs.YtolkimpelpnpbaaGreatDoor
open Go Go.Ab Go.Lx Go.Py
def pcE (l:List Ent)(f:Nat)(vs:List V):Option V:=match X8j f l (V.allD vs) with
 | some v=>some v
 | none=>xpc f vs
def xzE (l:List Ent):Fns:=⟨xcall,fun f vs _=>pcE l f vs,fun f=>Nat.beq f 109,xgl,fun _ _ _=>none,xlt,xxc⟩
section
variable {P:Prg} (hP:P.p=Tryz.prog) (hI:IvlZ P) (hL:LoopZ P)
include hP hI hL
theorem X8g:(xzE []).ok P:=by
 have h:=Yte hP hI hL
 refine⟨h.call,fun f vs ob v hv=>?_,h.ca,h.gl,h.yd,h.xc⟩
 refine h.pc f vs ob v ?_
 simp only[xzE,pcE]at hv
 cases hd:V.allD vs with
 | none=>rw[hd]at hv; exact hv
 | some ds=>rw[hd]at hv; exact hv
theorem Ye {l:List Ent}{e:Ent}(h:(xzE l).ok P)(he:∀ob,(fns 3000 Vs (xzE l) 40).pc e.f (e.xs.map .d) ob=some e.v):(xzE (e::l)).ok P:=by
 have fo:=Xbl (P:=P) (L:=3000) (F:=Vs) (by rw[hP]; exact Xx) (by rw[hP]; exact Xfd) (Xaz hP hI hL) h (Xmg hP hI hL) 40
 refine⟨h.call,fun f vs ob v hv=>?_,h.ca,h.gl,h.yd,h.xc⟩
 have old:(pcE l f vs=some v)->PCall P f vs ob fun v'=>v'=v:=fun hv=>h.pc f vs ob v hv
 simp only[xzE]at hv
 unfold pcE at hv
 split at hv
 ·rename_i u hu
  cases hv
  cases hd:V.allD vs with
  | none=>rw[hd]at hu; cases hu
  | some ds=>
   rw[hd]at hu
   simp only[X8j,Yko,Bool.cond_eq_ite]at hu
   split at hu
   ·rename_i hc
    cases hu
    simp only[Bool.and_eq_true]at hc
    rw[V.allD_map hd,Nat.eq_of_beq_eq_true hc.1,D.eqbs_eq _ _ hc.2]
    exact fo.pc _ _ ob _ (he ob)
   ·refine old ?_
    unfold pcE
    rw[hd]
    simp only[X8j,hu]
 ·rename_i hu
  refine old ?_
  unfold pcE
  cases hd:V.allD vs with
  | none=>simp only[X8j]; exact hv
  | some ds=>
   rw[hd]at hu
   simp only[X8j,Yko,Bool.cond_eq_ite]at hu
   split at hu
   ·cases hu
   ·simp only[X8j,hu]; exact hv
end
end Go.Proofs.YtolkimpelpnpbaaGreatDoor
