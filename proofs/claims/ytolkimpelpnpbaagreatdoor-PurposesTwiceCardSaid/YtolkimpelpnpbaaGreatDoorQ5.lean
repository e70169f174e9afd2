/- Texts of this claim joined by a program, part 5 of 10; the last is: Abz -/
import Derived.Test.YtolkimpelpnpbaaGreatDoorQ4
import Derived.IntWalk
import Derived.Defers
import Derived.Recover
set_option linter.unusedSimpArgs false
set_option linter.unusedVariables false
set_option linter.unusedSectionVars false
set_option linter.defProp false
namespace Go.Ab
open Go

section
variable {P:Prg} {T:Tab} {σ:Sg} {sl sl0:Xd} {ob:Xa} {p:Vt}

theorem Z7 {x:A}{k:Nat}{ex:E}(hk:k∈Xcb σ p x)(h:opE σ p x=some ex):ent σ k=some (p,ex):=by
 cases x with
 | t j=>
  simp only[Xcb]at hk
  simp only[opE]at h
  split at hk
  ·rename_i q e he
   split at hk
   ·rename_i hq
    simp at hk; subst hk
    simp at hq; subst hq
    rw[he]at h
    simp at h
    rw[he,h]
   ·cases hk
  ·cases hk
 | _=>simp[Xcb]at hk
theorem Yz {g:Nat}{b:Bool}:Xt sl (p++[(g,b)])=(Xt sl p&&isB b (look sl g)):=by
 simp[Xt,List.all_append]
theorem Xm3:∀{xs:List A} {e:E},Xig σ p xs=some e->∀{k q ek},k∈Yj8 σ p xs->ent σ k=some (q,ek)->q=p/\(e.ok T sl0 ob->ek.ok T sl0 ob)
 | [],_,_,k,_,_,hk,_=>by simp[Yj8]at hk
 | x::r,e,h,k,q,ek,hk,he=>by
  simp only[Xig]at h
  split at h
  ·rename_i ex er hx hr
   cases h
   simp only[Yj8,List.mem_append]at hk
   rcases hk with hk | hk
   ·have:=Z7 hk hx
    rw[he]at this; cases this
    exact⟨rfl,fun h=>h.1⟩
   ·obtain⟨h1,h2⟩:=Xm3 hr hk he
    exact⟨h1,fun h=>h2 h.2⟩
  ·cases h

theorem C.cov (hI:Inv T σ sl sl0 ob){c:C}{e:E}(h:c.lift σ p=some e){k:Nat}{q:Vt}{ek:E}(hk:k∈c.cons σ p)(he:ent σ k=some (q,ek))(hq:Xt sl q=true)(ho:Xt sl p=true->e.ok T sl0 ob):ek.ok T sl0 ob:=by
 have l1:∀{c x},Z5 σ p c x=some e->k∈Xcb σ p x->ek.ok T sl0 ob:=fun h hk=>by
  obtain⟨ex,rfl,hx⟩:=Xmd h
  have:=Z7 hk hx
  rw[he]at this; cases this
  exact (ho hq).1
 have l2:∀{c x y},V6 σ p c x y=some e->k∈Xcb σ p x++Xcb σ p y->ek.ok T sl0 ob:=fun h hk=>by
  obtain⟨ex,ey,rfl,hx,hy⟩:=Xme h
  rw[List.mem_append]at hk
  rcases hk with hk | hk
  ·have:=Z7 hk hx
   rw[he]at this; cases this
   exact (ho hq).1
  ·have:=Z7 hk hy
   rw[he]at this; cases this
   exact (ho hq).2.1
 have l3:∀{c x y z},Xn4 σ p c x y z=some e->k∈Xcb σ p x++Xcb σ p y++Xcb σ p z->ek.ok T sl0 ob:=fun h hk=>by
  obtain⟨ex,ey,ez,rfl,hx,hy,hz⟩:=Xmf h
  rw[List.mem_append,List.mem_append]at hk
  rcases hk with (hk | hk) | hk
  ·have:=Z7 hk hx
   rw[he]at this; cases this
   exact (ho hq).1
  ·have:=Z7 hk hy
   rw[he]at this; cases this
   exact (ho hq).2.1
  ·have:=Z7 hk hz
   rw[he]at this; cases this
   exact (ho hq).2.2.1
 unfold C.lift at h
 split at h<;>simp only[C.cons]at hk
 case h_1=>
  have:=Z7 hk h
  rw[he]at this; cases this
  exact ho hq
 case h_2 g x y=>
  obtain⟨ec,ex,ey,rfl,hc,hx,hy⟩:=Xfb h
  rw[List.mem_append,List.mem_append]at hk
  rcases hk with (hk | hk) | hk
  ·have:=Z7 hk hc
   rw[he]at this; cases this
   exact (ho hq).1
  ·have:=Z7 hk hx
   rw[he]at this; cases this
   rw[Yz,Bool.and_eq_true]at hq
   have hv:=Zu hI hq.1 hc
   exact (ho hq.1).2.2.1 (by rw[hv]; exact hq.2)
  ·have:=Z7 hk hy
   rw[he]at this; cases this
   rw[Yz,Bool.and_eq_true]at hq
   have hv:=Zu hI hq.1 hc
   exact (ho hq.1).2.2.2 (by rw[hv]; exact hq.2)
 all_goals first
  | (cases h; done)
  | exact l1 h hk
  | exact l2 h hk
  | exact l3 h hk
  | (cases hk; done)
theorem I.cov (hI:Inv T σ sl sl0 ob){fs:List Nat}{i:I}{e:E}(h:i.lift fs σ p=some e){k:Nat}{q:Vt}{ek:E}(hk:k∈i.cons σ p)(he:ent σ k=some (q,ek))(hq:Xt sl q=true)(ho:Xt sl p=true->e.ok T sl0 ob):ek.ok T sl0 ob:=by
 cases i<;>simp only[I.lift]at h<;>simp only[I.cons]at hk
 case c x=>exact C.cov hI h hk he hq ho
 case pcall f args=>
  split at h
  ·split at h
   ·rename_i e' ha
    cases h
    obtain⟨rfl,h2⟩:=Xm3 (T:=T) (sl0:=sl0) (ob:=ob) ha hk he
    exact h2 (ho hq).1
   ·cases h
  ·cases h
 all_goals cases h
theorem I.gcov {fs:List Nat}{i:I}{e:E}(h:i.lift fs σ p=some e){k:Nat}{q:Vt}{ek:E}(hk:k∈i.gcons σ p)(he:ent σ k=some (q,ek))(hq:Xt sl q=true)(ho:Xt sl p=true->e.ok T sl0 ob):Xa8 (ek.val T sl0 ob):=by
 unfold I.gcons at hk
 split at hk
 ·rename_i g x y
  simp only[I.lift,C.lift]at h
  obtain⟨ec,ex,ey,rfl,hc,hx,hy⟩:=Xfb h
  have:=Z7 hk hc
  rw[he]at this; cases this
  exact (ho hq).2.1
 ·cases hk
theorem I.lift_sound (hT:TOk P T)(hI:Inv T σ sl sl0 ob)(hp:Xt sl p=true){fs:List Nat}{i:I}{e:E}(h:i.lift fs σ p=some e)(ho:e.ok T sl0 ob){KO Pn:V->Xa->Prop}(hK:KO (e.val T sl0 ob) ob):i.wp P sl ob KO Pn:=by
 cases i<;>simp only[I.lift]at h
 case c x=>
  obtain⟨h1,h2⟩:=C.lift_sound hI hp h
  simp only[I.wp]
  exact C.wp_of (h2 ho) (by rw[<-h1]; exact hK)
 case pcall f args=>
  split at h
  ·split at h
   ·rename_i e' ha
    cases h
    have hv:=Xfu hI hp ha
    simp only[E.ok,E.val,hv]at ho hK
    simp only[I.wp]
    cases hf:Xja T f with
    | none=>rw[hf]at ho; exact ho.2.elim
    | some F=>rw[hf]at ho hK; exact hT f F hf _ ho.2 _ _ hK
   ·cases h
  ·cases h
 all_goals cases h

theorem Inv.congr {sl':Xd}(hI:Inv T σ sl sl0 ob)(h:∀k,look sl' k=look sl k):Inv T σ sl' sl0 ob:=by
 intro k p e he
 have:Xt sl' p=Xt sl p:=by simp only[Xt,h]
 rw[this,h]
 exact hI k p e he

def Vi (d:Nat)(p:Vt):Bool:=p.all fun g=>g.1 != d
def Xix (σ:Sg)(d:Nat):Bool:=σ.all fun x=>match x.2 with
 | some (p,_)=>Vi d p
 | none=>true
theorem W4 {d:Nat}{v:V}(h:Vi d p=true):Xt ((d,v)::sl) p=Xt sl p:=by
 induction p with
 | nil=>rfl
 | cons g r ih=>
  simp only[Vi,List.all_cons,Bool.and_eq_true]at h
  simp only[Xt,List.all_cons]at ih⊢
  have:look ((d,v)::sl) g.1=look sl g.1:=by
   have:=h.1; simp at this
   have h':¬d=g.1:=fun e=>this e.symm
   simp[look,h']
  rw[this,ih h.2]
theorem Xc8:∀{σ:Sg} {d k:Nat} {p:Vt} {e:E},Xix σ d=true->Z6 σ k=some (some (p,e))->Vi d p=true
 | [],_,_,_,_,_,h=>by simp[Z6]at h
 | (j,x)::r,d,k,p,e,hg,h=>by
  simp only[Xix,List.all_cons,Bool.and_eq_true]at hg
  simp only[Z6]at h
  split at h
  ·cases h; exact hg.1
  ·exact Xc8 (σ:=r) hg.2 h
theorem Qm {d k:Nat}{q:Vt}{e:E}(hg:Xix σ d=true)(h:ent σ k=some (q,e)):Vi d q=true:=by
 unfold ent at h
 split at h
 ·cases h; rfl
 ·rename_i x hx; subst h; exact Xc8 hg hx

theorem Zp {k:Nat}{x:Option (Vt×E)}:ent ((k,x)::σ) k=x:=by simp[ent,Z6]
theorem Y9 {j k:Nat}{x:Option (Vt×E)}(h:k ≠ j):ent ((k,x)::σ) j=ent σ j:=by simp[ent,Z6,h]

end
end Go.Ab
namespace Go.Ab
open Go

inductive It2 where
 | chk (p:List (E×Bool)) (e:E)
 | lt (k:Nat) (p:List (E×Bool)) (e:E)
 | op (d:Option Nat) (i:I)
 | gop (p:List (E×Bool)) (d:Option Nat) (i:I)

def Xfh (b:Bool)(v:V):V:=if b then v else .undef

def W9 (P:Prg)(T:Tab)(K:Xd->Xa->Prop)(Pn:V->Xd->Xa->Prop):List It2->Xd->Xa->Prop
 | [],sl,ob=>K sl ob
 | .chk p e::r,sl,ob=>(Zj T sl ob p=true->e.ok T sl ob)/\W9 P T K Pn r sl ob
 | .lt k p e::r,sl,ob=>(Zj T sl ob p=true->e.ok T sl ob)/\W9 P T K Pn r ((k,Xfh (Zj T sl ob p) (e.val T sl ob))::sl) ob
 | .op d i::r,sl,ob=>i.wp P sl ob (fun v ob'=>W9 P T K Pn r (put sl d v) ob') (fun v ob'=>Pn v sl ob')
 | .gop p d i::r,sl,ob=>(Zj T sl ob p=true->i.wp P sl ob (fun v ob'=>W9 P T K Pn r (put sl d v) ob') (fun v ob'=>Pn v sl ob'))/\
   (Zj T sl ob p=false->W9 P T K Pn r (put sl d .undef) ob)

def Vw (T:Tab)(sl:Xd)(ob:Xa):List (Nat×E)->Xd
 | []=>[]
 | (k,e)::r=>(k,e.val T sl ob)::Vw T sl ob r
def Wf (T:Tab)(sl:Xd)(ob:Xa):List (Nat×E)->Prop
 | []=>True
 | (_,e)::r=>e.ok T sl ob/\Wf T sl ob r


def A.slots:A->List Nat
 | .t k=>[k]
 | _=>[]
def Wa:List A->List Nat
 | []=>[]
 | x::r=>x.slots++Wa r
def Xdo:Option A->List Nat
 | some x=>x.slots
 | none=>[]
def C.slots:C->List Nat
 | .mv x | .not x | .neg x | .cpl x | .isnil _ x | .pnil _ x | .fnil _ x | .usd x | .cvi _ x | .cvs x | .fldA _ _ x | .fld _ _ _ _ x | .ld _ _ x | .ldd _ _ x | .nilc x | .lenS x | .lenL x | .ext x _ | .mki _ x | .tas _ _ x=>x.slots
 | .bin _ x y | .mx x y | .beq _ x y | .peq _ x y | .idx x y | .idxA _ x y | .idxP _ _ x y | .eqD _ _ x y | .aix _ _ _ x y=>x.slots++y.slots
 | .pick x y z=>x.slots++(y.slots++z.slots)
 | .slcS x l h | .slcL _ x l h=>x.slots++(Xdo l++Xdo h)
 | .lenA _=>[]
 | .bld _ ps=>Wa (ps.map (·.2))
 | .mkf _ a b=>Wa a++Wa b
def I.slots:I->List Nat
 | .c x=>x.slots
 | .box _ x=>x.slots
 | .boxr _ x=>x.slots
 | .alloc _ _=>[]
 | .bls _ _ ps=>Wa (ps.map (·.2))
 | .blo _ _ _ ps=>Wa (ps.map (·.2))
 | .st _ x y=>x.slots++y.slots
 | .app _ _ _ x y=>x.slots++y.slots
 | .appS _ _ x y=>x.slots++y.slots
 | .call _ l=>Wa l
 | .pcall _ l=>Wa l
 | .xcall _ l=>Wa l
 | .callv x l=>x.slots++Wa l
 | .panic x=>x.slots
 | .b2s x=>x.slots
 | .s2b x=>x.slots
 | .nilo _ _ x=>x.slots
 | .mvf x=>x.slots
 | .ldf _ _ x=>x.slots
 | .mvg _ _ y x _=>y.slots++x.slots
 | .mvn y x _=>y.slots++x.slots
 | .cvb x=>x.slots
 | .ustr _ x y=>x.slots++y.slots
 | .mkm r=>Xdo r
 | .lkp _ _ _ m k=>m.slots++k.slots
 | .mset _ m k v=>m.slots++(k.slots++v.slots)
 | .gld _ _ _ _=>[]
 | .slg _ _ x=>x.slots
 | .blv _ _ _ ps=>Wa (ps.map (·.2))
 | .apv _ _ _ x y=>x.slots++y.slots
 | .gv x=>x.slots
 | .ldg _ _ x=>x.slots
 | .slb _ _ x lo hi=>x.slots++(Xdo lo++Xdo hi)
 | .cpy _ x y=>x.slots++y.slots
 | .clr _ _ x=>x.slots
 | .gix _ _ _ _ i=>i.slots
 | .rng x=>x.slots
 | .nxt x=>x.slots
 | .ety x=>x.slots
 | .lenM x=>x.slots
 | .isn _ _ x=>x.slots
 | .inv _ _ _ _ x l=>x.slots++Wa l
 | .mks _ _ _ _ l=>l.slots
 | .trn _ x y=>x.slots++y.slots

section
variable {P:Prg} {sl sl':Xd} {ob:Xa}
theorem A.ev_eq {x:A}(h:∀k∈x.slots,look sl k=look sl' k):x.ev sl=x.ev sl':=by
 cases x<;>simp_all[A.ev,A.slots]
theorem Jx:∀{l:List A},(∀k∈Wa l,look sl k=look sl' k)->l.map (A.ev sl)=l.map (A.ev sl')
 | [],_=>rfl
 | x::r,h=>by
  simp only[Wa,List.mem_append]at h
  simp only[List.map_cons,A.ev_eq (fun k hk=>h k (.inl hk)),Jx (fun k hk=>h k (.inr hk))]
theorem Xc6 {l:Option A}(h:∀k∈Xdo l,look sl k=look sl' k):l.map (A.ev sl)=l.map (A.ev sl'):=by
 cases l with
 | none=>rfl
 | some x=>simp only[Option.map_some,A.ev_eq h]
theorem Xgc:∀{l:List (Nat×A)},(∀k∈Wa (l.map (·.2)),look sl k=look sl' k)->(l.map fun x=>(x.1,A.ev sl x.2))=l.map fun x=>(x.1,A.ev sl' x.2)
 | [],_=>rfl
 | x::r,h=>by
  simp only[List.map_cons,Wa,List.mem_append]at h
  simp only[List.map_cons,A.ev_eq (fun k hk=>h k (.inl hk)),Xgc (fun k hk=>h k (.inr hk))]
theorem C.wp_eq {K:V->Prop}{c:C}(h:∀k∈c.slots,look sl k=look sl' k):c.wp sl ob K=c.wp sl' ob K:=by
 cases c<;>simp only[C.slots,List.mem_append]at h<;>simp only[C.wp]
 case bld=>rw[Xgc h]
 case mkf=>rw[Jx (fun k hk=>h k (.inl hk)),Jx (fun k hk=>h k (.inr hk))]
 case pick=>rw[A.ev_eq (fun k hk=>h k (.inl hk)),A.ev_eq (fun k hk=>h k (.inr (.inl hk))),A.ev_eq (fun k hk=>h k (.inr (.inr hk)))]
 case slcS=>rw[A.ev_eq (fun k hk=>h k (.inl hk)),Xc6 (fun k hk=>h k (.inr (.inl hk))),Xc6 (fun k hk=>h k (.inr (.inr hk)))]
 case slcL=>rw[A.ev_eq (fun k hk=>h k (.inl hk)),Xc6 (fun k hk=>h k (.inr (.inl hk))),Xc6 (fun k hk=>h k (.inr (.inr hk)))]
 all_goals first
  | rw[A.ev_eq h]
  | rw[A.ev_eq (fun k hk=>h k (.inl hk)),A.ev_eq (fun k hk=>h k (.inr hk))]
theorem I.wp_eq {K Pn:V->Xa->Prop}{i:I}(h:∀k∈i.slots,look sl k=look sl' k):i.wp P sl ob K Pn=i.wp P sl' ob K Pn:=by
 cases i<;>simp only[I.slots,List.mem_append]at h<;>simp only[I.wp]
 case c=>rw[C.wp_eq h]
 case bls=>rw[Xgc h]
 case blo=>rw[Xgc h]
 case blv=>rw[Xgc h]
 case call=>rw[Jx h]
 case pcall=>rw[Jx h]
 case xcall=>rw[Jx h]
 case callv=>rw[A.ev_eq (fun k hk=>h k (.inl hk)),Jx (fun k hk=>h k (.inr hk))]
 case inv=>rw[A.ev_eq (fun k hk=>h k (.inl hk)),Jx (fun k hk=>h k (.inr hk))]
 case mset=>rw[A.ev_eq (fun k hk=>h k (.inl hk)),A.ev_eq (fun k hk=>h k (.inr (.inl hk))),A.ev_eq (fun k hk=>h k (.inr (.inr hk)))]
 case slb=>rw[A.ev_eq (fun k hk=>h k (.inl hk)),Xc6 (fun k hk=>h k (.inr (.inl hk))),Xc6 (fun k hk=>h k (.inr (.inr hk)))]
 case mkm r=>
  cases r with
  | none=>rfl
  | some x=>simp only[Xu9,A.ev_eq (x:=x) h]
 all_goals first
  | rw[A.ev_eq h]
  | rw[A.ev_eq (fun k hk=>h k (.inl hk)),A.ev_eq (fun k hk=>h k (.inr hk))]
  | rfl

theorem Xhb {K K':V->Xa->Prop}{ob:Xa}{E sz:Nat}{p:List Nat}{y x:V}(hk:∀v b,K v b->K' v b)(h:Xia ob E sz p y K x):Xia ob E sz p y K' x:=by
 unfold Xia at h; split at h
 ·simp only[Xia]
  generalize Xe _ _=o at h⊢
  unfold Xcn at h; split at h
  ·simp only[Xcn]
   rcases h with h | h
   case inr=>exact .inr ⟨h.1,hk _ _ h.2⟩
   refine .inl ⟨h.1,?_⟩
   have h:=h.2
   generalize V.set _ _ _=o at h⊢
   cases o with
   | none=>exact h.elim
   | some t=>exact hk _ _ h
  ·exact h.elim
 ·exact h.elim
theorem Xhd {K K':V->Xa->Prop}{y x:V}(hk:∀v b,K v b->K' v b):∀{l:List (Nat×Nat×List Nat)} {ob:Xa},X0a y K x l ob->X0a y K' x l ob
 | [],_,h=>hk _ _ h
 | _::_,_,h=>Xhb (fun _ _ h=>Xhd hk h) h

theorem Xnu {K K':V->Prop}{f fo:Nat}{v:V}(hk:∀v,K v->K' v)(h:Vv ob f fo K v):Vv ob f fo K' v:=by
 have:=C.wp_mono (sl:=[(0,v)]) (ob:=ob) hk (.fldA f fo (.t 0)) (by simpa[C.wp,A.ev,look]using h)
 simpa[C.wp,A.ev,look]using this
theorem Xyd {K K':V->Prop}{n:Nat}{ag:Bool}{v:V}(hk:∀v,K v->K' v)(h:ldK ob n ag K v):ldK ob n ag K' v:=by
 have:=C.wp_mono (sl:=[(0,v)]) (ob:=ob) hk (.ld n ag (.t 0)) (by simpa[C.wp,A.ev,look]using h)
 simpa[C.wp,A.ev,look]using this
theorem I.wp_mono {K K' Pn Pn':V->Xa->Prop}(hk:∀v b,K v b->K' v b)(hp:∀v b,Pn v b->Pn' v b){i:I}(h:i.wp P sl ob K Pn):i.wp P sl ob K' Pn':=by
 have ho:∀o b,Xau K Pn o b->Xau K' Pn' o b:=fun o b=>by cases o with | ret v=>exact hk v b | panic v=>exact hp v b
 have bx:∀{E v},Xo0 E ob K v->Xo0 E ob K' v:=fun h=>⟨h.1,hk _ _ h.2⟩
 have dk:∀{KD KD':List D->Prop},(∀l,KD l->KD' l)->∀o,dK KD o->dK KD' o:=fun f o h=>by cases o with | none=>exact h.elim | some l=>exact f l h
 have gv:∀(o:Option (D×Xa)),Xgp K o->Xgp K' o:=fun o h=>by
  cases o with
  | none=>exact h.elim
  | some q=>exact hk _ _ h
 have ap:∀{E sz B ys u},Xci E sz B ob ys K u->Xci E sz B ob ys K' u:=fun {E sz B ys u} h=>by
  unfold Xci at h; split at h
  ·simp only[Xci]
   generalize Xe _ _=o at h⊢
   unfold Xcj at h; split at h
   ·obtain⟨h1,h2,h3,h4,h5⟩:=h
    exact⟨h1,h2,h3,h4,hk _ _ h5⟩
   ·exact h.elim
  ·exact⟨h.1,hk _ _ h.2⟩
  ·exact h.elim
 have apv:∀{E sz B ys u},Xoz E sz B ob ys K u->Xoz E sz B ob ys K' u:=fun {E sz B ys u} h=>by
  unfold Xoz at h; split at h
  ·simp only[Xoz]
   generalize Xe _ _=o at h⊢
   unfold Xnf at h; split at h
   ·obtain⟨h1,h2,h3,h4,h5⟩:=h
    exact⟨h1,h2,h3,h4,hk _ _ h5⟩
   ·obtain⟨h1,h2,h3,h4,h5⟩:=h
    exact⟨h1,h2,h3,h4,hk _ _ h5⟩
   ·exact h.elim
  ·exact⟨h.1,hk _ _ h.2⟩
  ·exact h.elim
 have bw:∀{id p lo n z ys r o},Xu4 ob id p lo n z ys r K o->Xu4 ob id p lo n z ys r K' o:=fun {id p lo n z ys r o} h=>by
  unfold Xu4 at h; split at h
  ·simp only[Xu4]
   generalize V.at _ _=o at h⊢
   unfold Ykk at h; split at h
   ·obtain⟨h1,h2,h3,t,h4,h5⟩:=h
    exact⟨h1,h2,h3,t,h4,hk _ _ h5⟩
   ·exact h.elim
  ·exact h.elim
 cases i<;>simp only[I.wp]at h⊢
 case c x=>exact C.wp_mono (fun v=>hk v ob) x h
 case box=>exact bx h
 case boxr=>unfold Xih at h⊢; split at h<;>first | exact hk _ _ h | exact h.elim
 case alloc=>exact bx h
 case bls=>exact Vz (fun _=>dk (fun _=>hk _ _) _) _ _ h
 case blo=>exact Vz (fun _=>dk (fun _ h=>hk _ _ h) _) _ _ h
 case st x y=>
  generalize A.ev sl x=v at h⊢
  unfold stK at h; split at h
  ·simp only[stK]
   generalize Xe _ _=o at h⊢
   unfold Xus at h; split at h
   ·simp only[Xus]
    generalize V.at _ _=o at h⊢
    unfold Xut at h; split at h
    ·obtain⟨h1,h2,h3,t,h4,h5⟩:=h
     exact⟨h1,h2,h3,t,h4,hk _ _ h5⟩
    ·exact h.elim
   ·exact h.elim
  ·simp only[stK]
   generalize Xe _ _=o at h⊢
   unfold Yj1 at h; split at h
   ·simp only[Yj1]
    generalize W3 _ _ _=o at h⊢
    unfold Yk0 at h; split at h
    ·refine⟨h.1,?_⟩
     have h:=h.2
     generalize V.at _ _=o at h⊢
     unfold Yj2 at h; split at h
     ·obtain⟨h1,h2,h3,t,h4,h5⟩:=h
      exact⟨h1,h2,h3,t,h4,hk _ _ h5⟩
     ·exact h.elim
    ·exact h.elim
   ·exact h.elim
  ·exact h.elim
 case app x y=>
  generalize A.ev sl y=v at h⊢
  unfold Xuq at h; split at h
  ·exact⟨h.1,ap h.2⟩
  ·exact ap h
  ·exact h.elim
 case blv=>exact Vz (fun _=>hk _ _) _ _ h
 case apv x y=>
  generalize A.ev sl y=v at h⊢
  unfold X8v at h; split at h
  ·exact⟨h.1,apv h.2⟩
  ·exact apv h
  ·rcases h with⟨E,ys,h1,h2,h3,h4⟩ | ⟨E,ys,h1,h2,h4⟩
   ·exact .inl ⟨E,ys,h1,h2,h3,apv h4⟩
   ·exact .inr ⟨E,ys,h1,h2,apv h4⟩
  ·exact h.elim
 case gv x=>
  generalize V.gvF _ _ _=v at h⊢
  exact gv _ h
 case slb x lo hi=>
  generalize A.ev sl x=v at h⊢
  unfold X8u at h; split at h
  ·simp only[X8u]
   generalize Za _=o at h⊢
   unfold Xod at h; split at h
   ·exact⟨h.1,h.2.1,Xa7 (fun _ _=>hk _ _) h.2.2⟩
   ·exact h.elim
  ·exact h.elim
 case cpy x y=>
  generalize A.ev sl x=v at h⊢; generalize A.ev sl y=u at h⊢
  unfold Ykm at h; split at h
  ·exact⟨h.1,bw h.2⟩
  ·exact h.elim
 case clr x=>
  generalize A.ev sl x=v at h⊢
  unfold Ykl at h; split at h
  ·exact⟨fun e=>⟨(h.1 e).1,hk _ _ (h.1 e).2⟩,fun e=>⟨(h.2 e).1,bw (h.2 e).2⟩⟩
  ·exact h.elim
 case gix x y=>
  refine⟨h.1,?_⟩
  have h:=h.2
  generalize A.ev sl y=u at h⊢
  unfold Ykr at h; split at h
  ·exact⟨h.1,h.2.1,h.2.2.1,hk _ _ h.2.2.2⟩
  ·exact h.elim
 case ldg x=>
  generalize A.ev sl x=v at h⊢
  unfold X8p at h; split at h
  ·simp only[X8p]
   generalize atO _ _ _=o at h⊢
   unfold Xsg at h; split at h
   ·refine⟨h.1,h.2.1,?_⟩
    have h:=h.2.2
    generalize V.gvF _ _ _=o at h⊢
    unfold Xsf at h; split at h
    ·refine⟨h.1,?_⟩
     have h:=h.2
     generalize Xe _ _=o at h⊢
     unfold Xyf at h; split at h
     ·obtain⟨t',h1,h2⟩:=h
      exact⟨t',h1,hk _ _ h2⟩
     ·exact h.elim
    ·exact h.elim
   ·exact h.elim
  ·exact h.elim
 case appS x y=>
  generalize A.ev sl y=v at h⊢
  unfold Xor at h; split at h
  ·exact ap h
  ·exact h.elim
 case mvf x=>
  generalize V.giv _ _=v at h⊢
  exact gv _ h
 case ldf x=>
  generalize A.ev sl x=v at h⊢
  unfold Xye at h; split at h
  ·simp only[Xye]
   generalize atO _ _ _=o at h⊢
   unfold Xi6 at h; split at h
   ·exact⟨h.1,h.2.1,gv _ h.2.2⟩
   ·exact h.elim
  ·exact h.elim
 case mvg=>exact Xhb hk h
 case mvn=>exact Xhd hk h
 case cvb x=>
  generalize A.ev sl x=v at h⊢
  unfold Xqs at h; split at h
  ·simp only[Xqs]
   generalize Xe _ _=o at h⊢
   unfold Xd4 at h; split at h
   ·exact⟨h.1,h.2.1,h.2.2.1,hk _ _ h.2.2.2⟩
   ·exact h.elim
  ·exact h.elim
 case ustr x y=>
  generalize A.ev sl x=v at h⊢; generalize A.ev sl y=u at h⊢
  unfold Xh3 at h; split at h
  ·simp only[Xh3]
   generalize Xe _ _=o at h⊢
   unfold Xds at h; split at h
   ·obtain⟨h1,h2,h3,h4,h5,h6,s,h7,h8⟩:=h
    exact⟨h1,h2,h3,h4,h5,h6,s,h7,hk _ _ h8⟩
   ·exact h.elim
  ·exact⟨h.1,hk _ _ h.2⟩
  ·exact h.elim
 case call=>exact h.mono ho
 case pcall=>exact h.mono fun v=>hk v ob
 case xcall=>exact h.mono hk
 case callv x l=>
  generalize A.ev sl x=v at h⊢
  unfold Wd at h; split at h
  ·exact⟨h.1,h.2.mono ho⟩
  ·exact⟨h.1,h.2.mono ho⟩
  ·exact⟨h.1,h.2.mono ho⟩
  ·exact h.elim
 case rng x=>
  generalize A.ev sl x=v at h⊢
  generalize Xe ob (Xz8 v)=o at h⊢
  unfold X78 at h; split at h
  ·exact hk _ _ h
  ·exact hk _ _ h
  ·exact h.elim
 case nxt x=>
  generalize A.ev sl x=v at h⊢
  unfold Xyq at h; split at h
  ·simp only[Xyq]
   generalize Xe ob _=o at h⊢
   unfold Xhj at h; split at h
   ·exact hk _ _ h
   ·simp only[Xhj]
    generalize Xe ob _=o at h⊢
    unfold Xn9 at h; split at h
    ·exact⟨h.1,fun e=>hk _ _ (h.2.1 e),fun i h1 h2=>hk _ _ (h.2.2 i h1 h2)⟩
    ·exact h.elim
   ·exact h.elim
  ·exact h.elim
 case ety x=>
  generalize A.ev sl x=v at h⊢
  unfold Xw6 at h; split at h
  ·simp only[Xw6]
   generalize Xe ob _=o at h⊢
   unfold Xio at h; split at h
   ·refine⟨h.1,?_⟩
    have h:=h.2
    generalize Xe ob _=o at h⊢
    unfold Xnm at h; split at h
    ·exact⟨h.1,h.2.1,hk _ _ h.2.2⟩
    ·exact h.elim
   ·exact h.elim
  ·exact h.elim
 case lenM x=>
  generalize A.ev sl x=v at h⊢
  unfold Xn3 at h; split at h
  ·simp only[Xn3]
   generalize Xe ob _=o at h⊢
   unfold X4x at h; split at h
   ·exact hk _ _ h
   ·exact h.elim
  ·exact hk _ _ h
  ·exact h.elim
 case isn e m x=>
  generalize A.ev sl x=v at h⊢
  unfold Xr6 at h; split at h
  ·simp only[Xr6]
   generalize Xe ob _=o at h⊢
   unfold Ym9 at h; split at h
   ·exact hk _ _ h
   ·exact h.elim
  ·exact hk _ _ h
  ·exact hk _ _ h
  ·exact⟨hk _ _ h.1,fun e=>hk _ _ (h.2 e)⟩
  ·simp only[Xr6]
   generalize Xe ob _=o at h⊢
   unfold Yna at h; split at h
   ·exact⟨h.1,h.2.1,hk _ _ h.2.2⟩
   ·exact⟨h.1,h.2.1,hk _ _ h.2.2⟩
   ·exact h.elim
  ·exact h.elim
 case inv nm t f fl x l=>
  generalize A.ev sl x=v at h⊢
  unfold Yks at h; split at h
  ·refine⟨h.1,h.2.1,?_⟩
   have h:=h.2.2
   unfold Xyz at h⊢
   split at h
   ·exact h.mono ho
   ·exact Xnu (fun u h=>Xyd (fun r h=>h.mono ho) h) h
  ·exact h.elim
 case mks l=>
  generalize A.ev sl l=v at h⊢
  unfold Ykt at h; split at h
  ·exact⟨h.1,h.2.1,hk _ _ h.2.2⟩
  ·exact h.elim
 case trn x y=>
  generalize A.ev sl x=v at h⊢; generalize A.ev sl y=u at h⊢
  unfold X8y at h; split at h
  ·simp only[X8y]
   generalize Xe ob _=o at h⊢
   unfold Ys9 at h; split at h
   ·exact⟨h.1,h.2.1,h.2.2.1,h.2.2.2.1,hk _ _ h.2.2.2.2⟩
   ·exact h.elim
  ·exact h.elim
 case panic x=>
  generalize A.ev sl x=v at h⊢
  unfold Qy at h; split at h
  ·exact hp _ _ h
  ·exact hp _ _ h
  ·exact h.elim
 case b2s x=>
  generalize A.ev sl x=v at h⊢
  unfold X8i at h; split at h
  ·obtain⟨h1,s,h2,h3⟩:=h
   exact⟨h1,s,h2,hk _ _ h3⟩
  ·exact hk _ _ h
  ·exact h.elim
 case s2b x=>
  generalize A.ev sl x=v at h⊢
  unfold X8t at h; split at h
  ·exact hk _ _ h
  ·exact h.elim
 case nilo x=>
  generalize A.ev sl x=v at h⊢
  unfold Xe4 at h; split at h
  ·exact hk _ _ h
  ·exact h.elim
 case mkm r=>exact⟨h.1,hk _ _ h.2⟩
 case gld=>exact⟨h.1,h.2.1,h.2.2.1,hk _ _ h.2.2.2⟩
 case slg x=>
  generalize A.ev sl x=v at h⊢
  unfold X08 at h; split at h
  ·simp only[X08]
   generalize atO _ _ _=o at h⊢
   unfold Xof at h; split at h
   ·exact⟨h.1,h.2.1,hk _ _ h.2.2⟩
   ·exact h.elim
  ·exact h.elim
 case lkp x y=>
  generalize A.ev sl x=v at h⊢; generalize A.ev sl y=u at h⊢
  unfold Xsk at h; split at h
  ·simp only[Xsk]
   generalize Xe _ _=o at h⊢
   unfold Xef at h; split at h
   ·exact⟨h.1,hk _ _ h.2⟩
   ·exact h.elim
  ·exact⟨h.1,hk _ _ h.2⟩
  ·exact h.elim
 case mset x y z=>
  generalize A.ev sl x=v at h⊢; generalize A.ev sl y=u at h⊢
  unfold Xbu at h; split at h
  ·simp only[Xbu]
   generalize Xe _ _=o at h⊢
   unfold Qu at h; split at h
   ·exact⟨h.1,h.2.1,hk _ _ h.2.2⟩
   ·exact h.elim
  ·exact h.elim
end
end Go.Ab
namespace Go.Ab
open Go

def Xkd (σ:Sg):Vt->Vt->Option (List (E×Bool))
 | _,[]=>some []
 | dn,(g,b)::r=>match ent σ g with
  | some (q,e)=>if q.isPrefixOf dn then (match Xkd σ (dn++[(g,b)]) r with | some l=>some ((e,b)::l) | none=>none) else none
  | none=>none
def Ytp (σ:Sg)(f:E->E)(k:Nat):Option It2:=match ent σ k with
 | some (p,e)=>match Xkd σ [] p with
  | some l=>some (.chk l (f e))
  | none=>none
 | none=>none
def chks (σ:Sg)(f:E->E):List Nat->Option (List It2)
 | []=>some []
 | k::r=>match Ytp σ f k,chks σ f r with
  | some c,some l=>some (c::l)
  | _,_=>none
def bw (e:E):E:=.ite e (.a (.bool true)) (.a (.bool true))
def Xc2 (σ:Sg)(k:Nat):Sg:=σ.filter fun x=>x.1 != k
def noMen (σ:Sg)(k:Nat):Bool:=σ.all fun x=>match x.2 with
 | some (_,e)=>!e.men k
 | none=>true
def Yh6 (σ:Sg):Bool:=σ.all fun x=>match x.2 with
 | some (_,e)=>!e.rd
 | none=>true
def Yex (ns:List Nat)(σ:Sg)(k:Nat)(p:Vt):Sg:=if ns.contains k||p.isEmpty then Xc2 σ k else (k,some (p,.a (.t k)))::Xc2 σ k
def Yv0 (ns:List Nat)(σ:Sg)(k:Nat):Option (It2×Sg):=match Z6 σ k with
 | some (some (p,e))=>match Xkd σ [] p with
  | some l=>if noMen (Xc2 σ k) k then some (.lt k l e,Yex ns σ k p) else none
  | none=>none
 | _=>none
def Ygj (ns:List Nat):List Nat->Sg->Option (List It2×Sg)
 | [],σ=>some ([],σ)
 | k::r,σ=>match Yv0 ns σ k with
  | some (i,σ')=>match Ygj ns r σ' with
   | some (l,σ'')=>some (i::l,σ'')
   | none=>none
  | none=>none
def kill (lv:List Nat):Sg->Sg
 | []=>[]
 | (k,x)::r=>(if lv.contains k then (k,x) else (k,none))::kill lv r
def Xyj:List It->List Nat
 | []=>[]
 | .op _ i::r=>i.slots++Xyj r
 | .gop g _ _ i::r=>g::(i.slots++Xyj r)
def Yov (σ:Sg)(s:List Nat)(d:Option Nat):List Nat:=(σ.filter fun x=>match x.2 with
 | some (_,e)=>s.contains x.1||e.rd||(match d with | some k=>x.1 != k&&e.men k | none=>false)
 | none=>false).map (·.1)
def It.d:It->Option Nat
 | .op d _=>d
 | .gop _ _ d _=>d
def It.i:It->I
 | .op _ i=>i
 | .gop _ _ _ i=>i
def It.path (σ:Sg):It->Option (Vt×List Nat)
 | .op _ _=>some ([],[])
 | .gop g b _ _=>match ent σ g with
  | some (q,_)=>some (q++[(g,b)],[g])
  | none=>none
def It.eff (l:List (E×Bool)):It->It2
 | .op d i=>.op d i
 | .gop _ _ d i=>.gop l d i
def Ymh (σ:Sg):Option Nat->Sg
 | some k=>Xc2 σ k
 | none=>σ
def X3a (σ:Sg)(p:Vt):Option Nat->Bool
 | some k=>noMen (Xc2 σ k) k&&Xix (Xc2 σ k) k&&Vi k p
 | none=>true
def Xg1 (σ:Sg):List Nat->Option (List (Nat×E))
 | []=>some []
 | k::r=>match ent σ k,Xg1 σ r with
  | some ([],e),some l=>some ((k,e)::l)
  | _,_=>none
def Yke (e:E)(k:Nat)(l:List Nat):List Nat:=if e.isA then l else k::l

def Jn (fs keep pk:List Nat):List It->Sg->List Nat->List Nat->Option (List It2×List (Nat×E))
 | [],σ,pe,pg=>match chks σ id (pe.filter fun k=>!keep.contains k),chks σ bw pg,Xg1 σ keep with
  | some c1,some c2,some kp=>some (c1++c2,kp)
  | _,_,_=>none
 | it::r,σ,pe,pg=>match it.path σ with
  | none=>none
  | some (p,gs)=>match it.d,it.i.lift fs σ p with
   | some k,some e=>if Xix (Xc2 σ k) k&&Vi k p&&!pe.contains k&&!(gs++pg).contains k then
     Jn fs keep pk r ((k,some (p,e))::Xc2 σ k) (Yke e k (pe.filter fun j=>!(it.i.cons σ p).contains j)) ((gs++pg).filter fun j=>!(it.i.gcons σ p).contains j)
    else none
   | d,_=>match chks σ id pe,chks σ bw (gs++pg) with
    | some c1,some c2=>match Ygj (it.i.slots++(pk++keep)) (Yov (kill (it.i.slots++(p.map (·.1)++(Xyj r++keep))) σ) it.i.slots d) (kill (it.i.slots++(p.map (·.1)++(Xyj r++keep))) σ) with
     | some (ms,σ2)=>match Xkd σ2 [] p with
      | some l=>if (it.i.slots.all fun k=>(Z6 σ2 k).isNone)&&X3a σ2 p d&&Yh6 σ2&&(pk.all fun k=>(Z6 σ2 k).isNone) then
        match Jn fs keep pk r (Ymh σ2 d) [] []with
        | some (t,kp)=>some (c1++(c2++(ms++(it.eff l::t))),kp)
        | none=>none
       else none
      | none=>none
     | none=>none
    | _,_=>none

section
variable {P:Prg} {T:Tab} {σ:Sg} {sl sl0:Xd} {ob:Xa} {p:Vt} {K:Xd->Xa->Prop} {Pn:V->Xd->Xa->Prop}

theorem Vj (hI:Inv T σ sl sl0 ob):∀(r dn:Vt) (l:List (E×Bool)),Xkd σ dn r=some l->Xt sl dn=true->Xt sl r=Zj T sl0 ob l
 | [],dn,l,h,_=>by simp only[Xkd]at h; cases h; rfl
 | (g,b)::r,dn,l,h,hd=>by
  simp only[Xkd]at h
  split at h
  ·rename_i q e he
   split at h
   ·rename_i hq
    split at h
    ·rename_i l' hl
     cases h
     have hv:=(hI g q e he).1 (J0 hq hd)
     simp only[Xt,Zj,List.all_cons,hv]
     cases hb:isB b (e.val T sl0 ob) with
     | false=>rfl
     | true=>
      have:=Vj hI r _ l' hl (by rw[Yz,hd,hv,hb]; rfl)
      simpa[Xt,Zj]using this
    ·cases h
   ·cases h
  ·cases h

theorem Yy (hI:Inv T σ sl sl0 ob){f:E->E}:∀{ks:List Nat} {cs l:List It2},chks σ f ks=some cs->W9 P T K Pn (cs++l) sl0 ob->
  (∀k∈ks,∀p e,ent σ k=some (p,e)->Xt sl p=true->(f e).ok T sl0 ob)/\W9 P T K Pn l sl0 ob
 | [],cs,l,h,hr=>by simp only[chks]at h; cases h; exact⟨fun _ h=>(by cases h),hr⟩
 | k::r,cs,l,h,hr=>by
  simp only[chks]at h
  split at h
  ·rename_i c l' hc hl
   cases h
   unfold Ytp at hc
   split at hc
   ·rename_i p e he
    split at hc
    ·rename_i lp hp
     cases hc
     simp only[List.cons_append,W9]at hr
     obtain⟨h1,h2⟩:=Yy hI hl hr.2
     refine⟨fun j hj q e' he' hq=>?_,h2⟩
     rcases List.mem_cons.mp hj with rfl | hj
     ·rw[he]at he'; cases he'
      exact hr.1 (by rw[<-Vj hI _ _ _ hp rfl]; exact hq)
     ·exact h1 j hj q e' he' hq
    ·cases hc
   ·cases hc
  ·cases h

theorem J5:∀{σ:Sg} {k:Nat},Z6 (Xc2 σ k) k=none
 | [],_=>rfl
 | (j,x)::r,k=>by
  have ih:=J5 (σ:=r) (k:=k)
  simp only[Xc2]at ih⊢
  by_cases h:j=k
  ·subst h; simp[ih]
  ·simp[h,Z6,ih]
theorem J6 {k j:Nat}(h:k ≠ j):∀{σ:Sg},Z6 (Xc2 σ k) j=Z6 σ j
 | []=>rfl
 | (i,x)::r=>by
  have ih:=J6 h (σ:=r)
  simp only[Xc2]at ih⊢
  by_cases hi:i=k
  ·subst hi; simp[ih,Z6,h]
  ·simp[hi,Z6,ih]
theorem Xc4 {k:Nat}:ent (Xc2 σ k) k=some ([],.a (.t k)):=by simp[ent,J5]
theorem Zc {k j:Nat}(h:k ≠ j):ent (Xc2 σ k) j=ent σ j:=by simp[ent,J6 h]
theorem Xdh:∀{σ:Sg} {d k:Nat} {p:Vt} {e:E},noMen σ d=true->Z6 σ k=some (some (p,e))->e.men d=false
 | [],_,_,_,_,_,h=>by simp[Z6]at h
 | (j,x)::r,d,k,p,e,hg,h=>by
  simp only[noMen,List.all_cons,Bool.and_eq_true]at hg
  simp only[Z6]at h
  split at h
  ·cases h; simpa using hg.1
  ·exact Xdh (σ:=r) hg.2 h
theorem Xhh:∀{σ:Sg} {k:Nat} {p:Vt} {e:E},Yh6 σ=true->Z6 σ k=some (some (p,e))->e.rd=false
 | [],_,_,_,_,h=>by simp[Z6]at h
 | (j,x)::r,k,p,e,hg,h=>by
  simp only[Yh6,List.all_cons,Bool.and_eq_true]at hg
  simp only[Z6]at h
  split at h
  ·cases h; simpa using hg.1
  ·exact Xhh (σ:=r) hg.2 h
theorem Xmr {k:Nat}{e:E}(hg:Yh6 σ=true)(h:ent σ k=some (p,e)):e.rd=false:=by
 unfold ent at h
 split at h
 ·cases h; rfl
 ·rename_i x hx; subst h; exact Xhh hg hx
theorem Xhg {d k:Nat}{e:E}(hg:noMen (Xc2 σ d) d=true)(hd:d ≠ k)(h:ent σ k=some (p,e)):e.men d=false:=by
 rw[<-Zc hd]at h
 unfold ent at h
 split at h
 ·cases h; simp[E.men,A.men]; exact fun e=>hd e.symm
 ·rename_i x hx; subst h; exact Xdh hg hx

theorem Xdf {ns:List Nat}:∀{ks:List Nat} {σ σ':Sg} {sl0:Xd} {ms l:List It2},Inv T σ sl sl0 ob->Ygj ns ks σ=some (ms,σ')->W9 P T K Pn (ms++l) sl0 ob->∃sl0',Inv T σ' sl sl0' ob/\W9 P T K Pn l sl0' ob
 | [],σ,σ',sl0,ms,l,hI,h,hr=>by simp only[Ygj]at h; cases h; exact⟨sl0,hI,hr⟩
 | k::r,σ,σ',sl0,ms,l,hI,h,hr=>by
  simp only[Ygj]at h
  split at h
  ·rename_i i σ1 h1
   split at h
   ·rename_i l' σ2 h2
    cases h
    unfold Yv0 at h1
    split at h1
    ·rename_i p e he
     split at h1
     ·rename_i lp hp
      split at h1
      ·rename_i hm
       cases h1
       simp only[List.cons_append,W9]at hr
       refine Xdf ?_ h2 hr.2
       have hk:=hI k p e (by simp[ent,he])
       have hh:=Vj hI _ _ _ hp rfl
       have hdel:∀j q e',ent (Xc2 σ k) j=some (q,e')->(Xt sl q=true->look sl j=e'.val T ((k,Xfh (Zj T sl0 ob lp) (e.val T sl0 ob))::sl0) ob)/\(Xt sl q=false->look sl j=.undef):=by
        intro j q e' he'
        by_cases hj:k=j
        ·subst hj
         rw[Xc4]at he'; cases he'
         simp only[Xt,List.all_nil,E.val,A.ev,look,if_true]
         refine⟨fun _=>?_,fun h=>(by cases h)⟩
         rw[<-hh]
         cases hs:Xt sl p with
         | true=>rw[hk.1 hs]; rfl
         | false=>rw[hk.2 hs]; rfl
        ·rw[Zc hj]at he'
         rw[E.val_sl (Xhg hm hj he')]
         exact hI j q e' he'
       unfold Yex
       split
       ·exact hdel
       ·intro j q e' he'
        by_cases hj:k=j
        ·subst hj
         rw[Zp]at he'; cases he'
         simp only[E.val,A.ev,look,if_true]
         rw[<-hh]
         exact⟨fun hs=>by rw[hk.1 hs,hs]; rfl,hk.2⟩
        ·rw[Y9 hj]at he'
         exact hdel j q e' he'
      ·cases h1
     ·cases h1
    ·cases h1
   ·cases h
  ·cases h

theorem Xl8 {lv:List Nat}:∀{σ:Sg} {k:Nat} {e:E},ent (kill lv σ) k=some (p,e)->ent σ k=some (p,e)
 | [],_,_,h=>h
 | (j,x)::r,k,e,h=>by
  by_cases hj:j=k
  ·subst hj
   rw[Zp]
   simp only[kill]at h
   split at h
   ·rwa [Zp]at h
   ·rw[Zp]at h; cases h
  ·rw[Y9 hj]
   simp only[kill]at h
   refine Xl8 (lv:=lv) (σ:=r) ?_
   split at h
   ·rwa [Y9 hj]at h
   ·rwa [Y9 hj]at h
theorem Inv.kill {lv:List Nat}(hI:Inv T σ sl sl0 ob):Inv T (kill lv σ) sl sl0 ob:=fun k p e h=>hI k p e (Xl8 h)

theorem Inv.fold' (hI:Inv T σ sl sl0 ob){k:Nat}{e:E}(hg:Xix (Xc2 σ k) k=true)(hp:Vi k p=true){v:V}(h1:Xt sl p=true->v=e.val T sl0 ob)(h2:Xt sl p=false->v=.undef) :
  Inv T ((k,some (p,e))::Xc2 σ k) ((k,v)::sl) sl0 ob:=by
 intro j q e' he
 by_cases hj:k=j
 ·subst hj
  rw[Zp]at he; cases he
  rw[W4 hp]
  simp only[look,if_true]
  exact⟨h1,h2⟩
 ·rw[Y9 hj]at he
  rw[W4 (Qm hg he)]
  rw[Zc hj]at he
  simp only[look,hj,if_false]
  exact hI j q e' he

theorem Inv.eff (hI:Inv T σ sl sl0 ob){d:Option Nat}(hf:X3a σ p d=true)(hr:Yh6 σ=true){v:V}{ob':Xa}:Inv T (Ymh σ d) (put sl d v) (put sl0 d v) ob':=by
 cases d with
 | none=>
  intro j q e he
  rw[E.val_ob (ob':=ob) (Xmr hr he)]
  exact hI j q e he
 | some k=>
  simp only[X3a,Bool.and_eq_true]at hf
  intro j q e he
  simp only[put,Ymh]at he⊢
  by_cases hj:k=j
  ·subst hj
   rw[Xc4]at he; cases he
   simp[Xt,E.val,A.ev,look]
  ·have he':=he
   rw[W4 (Qm hf.1.2 he')]
   rw[Zc hj]at he
   rw[E.val_sl (Xhg hf.1.1 hj he),E.val_ob (ob':=ob) (Xmr hr he)]
   simp only[look,hj,if_false]
   exact hI j q e he
theorem Uy (hI:Inv T σ sl sl0 ob):∀{keep:List Nat} {kp:List (Nat×E)},Xg1 σ keep=some kp->Vw T sl0 ob kp=Xk sl keep/\(Wf T sl0 ob kp->∀k∈keep,∀p e,ent σ k=some (p,e)->e.ok T sl0 ob)
 | [],kp,h=>by simp only[Xg1]at h; cases h; exact⟨rfl,fun _ _ h=>(by cases h)⟩
 | k::r,kp,h=>by
  simp only[Xg1]at h
  split at h
  ·rename_i e l he hl
   cases h
   obtain⟨h1,h2⟩:=Uy hI hl
   refine⟨by simp only[Vw,Xk,h1,(hI k [] e he).1 rfl],fun ho j hj p e' he'=>?_⟩
   rcases List.mem_cons.mp hj with rfl | hj
   ·rw[he]at he'; cases he'; exact ho.1
   ·exact h2 ho.2 j hj p e' he'
  ·cases h

def Xpu (T:Tab)(σ:Sg)(pe pg:List Nat)(sl sl0:Xd)(ob:Xa):Prop:=
 (∀k∈pe,∀p e,ent σ k=some (p,e)->Xt sl p=true->e.ok T sl0 ob)/\
 (∀k∈pg,∀p e,ent σ k=some (p,e)->Xt sl p=true->Xa8 (e.val T sl0 ob))

theorem Xhq {fs:List Nat}{i:I}{k:Nat}{e:E}{pe pg:List Nat}{v:V}(hI:Inv T σ sl sl0 ob)(he:i.lift fs σ p=some e)(c1:Xix (Xc2 σ k) k=true)(c2:Vi k p=true)(c3:k∉pe)(c4:k∉pg)
  (h:Xpu T ((k,some (p,e))::Xc2 σ k) (Yke e k (pe.filter fun j=>!(i.cons σ p).contains j)) (pg.filter fun j=>!(i.gcons σ p).contains j) ((k,v)::sl) sl0 ob) :
  Xpu T σ pe pg sl sl0 ob/\(Xt sl p=true->e.ok T sl0 ob):=by
 obtain⟨a1,a2⟩:=h
 have hok:Xt sl p=true->e.ok T sl0 ob:=fun hh=>by
  cases hA:e.isA with
  | true=>cases e<;>simp[E.isA]at hA; trivial
  | false=>exact a1 k (by simp[Yke,hA]) p e Zp (by rw[W4 c2]; exact hh)
 refine⟨⟨fun j hj q e' he' hq=>?_,fun j hj q e' he' hq=>?_⟩,hok⟩
 ·by_cases hm:j∈i.cons σ p
  ·exact I.cov hI he hm he' hq hok
  ·have hkj:k ≠ j:=fun e=>c3 (e▸hj)
   refine a1 j ?_ q e' (by rw[Y9 hkj,Zc hkj]; exact he') ?_
   ·simp only[Yke]; split<;>simp[hj,hm]
   ·rw[W4]; exact hq
    exact Qm c1 (by rw[Zc hkj]; exact he')
 ·by_cases hm:j∈i.gcons σ p
  ·exact I.gcov he hm he' hq hok
  ·have hkj:k ≠ j:=fun e=>c4 (e▸hj)
   refine a2 j ?_ q e' (by rw[Y9 hkj,Zc hkj]; exact he') ?_
   ·simp only[List.mem_filter]; exact⟨hj,by simp[hm]⟩
   ·rw[W4]; exact hq
    exact Qm c1 (by rw[Zc hkj]; exact he')

theorem Xts {fs keep pk:List Nat}:∀(its:List It) {σ:Sg} {pe pg:List Nat} {sl sl0:Xd} {ob:Xa} {l:List It2} {kp:List (Nat×E)},Inv T σ sl sl0 ob->Jn fs keep pk its σ pe pg=some (l,kp)->
  W9 P T (fun sl ob=>Wf T sl ob kp/\K (Vw T sl ob kp) ob) Pn l sl0 ob->Xpu T σ pe pg sl sl0 ob
 | [],σ,pe,pg,sl,sl0,ob,l,kp,hI,h,hr=>by
  simp only[Jn]at h
  split at h
  ·rename_i c1 c2 kp' h1 h2 h3
   cases h
   obtain⟨a1,hr⟩:=Yy hI h1 hr
   obtain⟨a2,hr⟩:=Yy hI (l:=[]) h2 (by simpa using hr)
   simp only[W9]at hr
   obtain⟨_,a3⟩:=Uy hI h3
   refine⟨fun k hk p e he hp=>?_,fun k hk p e he hp=>(a2 k hk p e he hp).2.1⟩
   by_cases hm:k∈keep
   ·exact a3 hr.1 k hm p e he
   ·exact a1 k (by simp[hk,hm]) p e he hp
  ·cases h
 | it::r,σ,pe,pg,sl,sl0,ob,l,kp,hI,h,hr=>by
  simp only[Jn]at h
  split at h
  ·cases h
  ·rename_i p gs hp
   split at h
   ·rename_i k e hd he
    split at h
    ·rename_i hc
     simp only[Bool.and_eq_true,Bool.not_eq_true',List.contains_eq_mem,decide_eq_false_iff_not]at hc
     obtain⟨⟨⟨c1,c2⟩,c3⟩,c4⟩:=hc
     have hI':=hI.fold' (e:=e) c1 c2 (v:=Xfh (Xt sl p) (e.val T sl0 ob)) (fun h=>by rw[h]; rfl) (fun h=>by rw[h]; rfl)
     obtain⟨a,_⟩:=Xhq hI he c1 c2 c3 c4 (Xts r hI' h hr)
     exact⟨a.1,fun j hj=>a.2 j (List.mem_append.mpr (.inr hj))⟩
    ·cases h
   ·split at h
    ·rename_i c1 c2 h1 h2
     split at h
     ·split at h
      ·split at h
       ·split at h
        ·cases h
         obtain⟨a1,hr⟩:=Yy hI h1 hr
         obtain⟨a2,hr⟩:=Yy hI h2 hr
         exact⟨a1,fun k hk p e he hp=>(a2 k (List.mem_append.mpr (.inr hk)) p e he hp).2.1⟩
        ·cases h
       ·cases h
      ·cases h
     ·cases h
    ·cases h
end
end Go.Ab
namespace Go.Ab
open Go

theorem Xl5 {sl sl':Xd}:∀{ks:List Nat},(∀k∈ks,look sl k=look sl' k)->Xk sl ks=Xk sl' ks
 | [],_=>rfl
 | k::r,h=>by simp only[Xk]; rw[h k (by simp),Xl5 (fun j hj=>h j (by simp[hj]))]

theorem Yu {P:Prg}{T:Tab}(hT:TOk P T){fs keep pk:List Nat}{K K':Xd->Xa->Prop}{Pn Pn':V->Xd->Xa->Prop}(hK:∀s o,K s o->K' s o)(hP:∀v s o,Pn v s o->Pn' v s o) :
  ∀(its:List It) {σ:Sg} {pe pg:List Nat} {sl sl0:Xd} {ob:Xa} {l:List It2} {kp:List (Nat×E)},Inv T σ sl sl0 ob->Jn fs keep pk its σ pe pg=some (l,kp)->
  W9 P T (fun sl ob=>Wf T sl ob kp/\K (Vw T sl ob kp) ob) (fun v sl ob=>Pn v (Xk sl pk) ob) l sl0 ob->rwp P (fun sl ob=>K' (Xk sl keep) ob) (fun v sl ob=>Pn' v (Xk sl pk) ob) its sl ob
 | [],σ,pe,pg,sl,sl0,ob,l,kp,hI,h,hr=>by
  simp only[Jn]at h
  split at h
  ·rename_i c1 c2 kp' h1 h2 h3
   cases h
   obtain⟨_,hr⟩:=Yy hI h1 hr
   obtain⟨_,hr⟩:=Yy hI (l:=[]) h2 (by simpa using hr)
   simp only[W9]at hr
   simp only[rwp]
   rw[<-(Uy hI h3).1]
   exact hK _ _ hr.2
  ·cases h
 | it::r,σ,pe,pg,sl,sl0,ob,l,kp,hI,h,hr=>by
  simp only[Jn]at h
  split at h
  ·cases h
  ·rename_i p gs hp
   split at h
   ·rename_i k e hd he
    split at h
    ·rename_i hc
     simp only[Bool.and_eq_true,Bool.not_eq_true',List.contains_eq_mem,decide_eq_false_iff_not]at hc
     obtain⟨⟨⟨c1,c2⟩,c3⟩,c4⟩:=hc
     have go:∀v,(Xt sl p=true->v=e.val T sl0 ob)->(Xt sl p=false->v=.undef)->rwp P (fun sl ob=>K' (Xk sl keep) ob) (fun v sl ob=>Pn' v (Xk sl pk) ob) r ((k,v)::sl) ob:=
      fun v h1 h2=>Yu hT hK hP r (hI.fold' (e:=e) c1 c2 h1 h2) h hr
     have hI':=hI.fold' (e:=e) c1 c2 (v:=Xfh (Xt sl p) (e.val T sl0 ob)) (fun h=>by rw[h]; rfl) (fun h=>by rw[h]; rfl)
     obtain⟨a,hok⟩:=Xhq hI he c1 c2 c3 c4 (Xts r hI' h hr)
     cases it with
     | op d i=>
      simp only[It.d]at hd; subst hd
      simp only[It.path]at hp; cases hp
      simp only[rwp]
      exact I.lift_sound hT hI rfl he (hok rfl) (go _ (fun _=>rfl) (fun h=>by cases h))
     | gop g b d i=>
      simp only[It.d]at hd; subst hd
      simp only[It.path]at hp
      split at hp
      ·rename_i q eg hg
       cases hp
       simp only[rwp]
       cases hq:Xt sl q with
       | false=>
        rw[(hI g q eg hg).2 hq]
        simp only[gdK]
        exact go _ (fun h=>by rw[Yz,hq]at h; cases h) (fun _=>rfl)
       | true=>
        have hv:=(hI g q eg hg).1 hq
        have hb:=a.2 g (by simp) q eg hg hq
        have hcg:∀j,look ((g,look sl g)::sl) j=look sl j:=fun j=>by
         simp only[look]; split
         ·rename_i e; rw[e]
         ·rfl
        have main:∀t,look sl g=.d (.bool t)->gdK g b sl (fun sl=>I.wp P sl ob (fun v ob'=>rwp P (fun sl ob=>K' (Xk sl keep) ob) (fun v sl ob=>Pn' v (Xk sl pk) ob) r (put sl (some k) v) ob') (fun v ob'=>Pn' v (Xk sl pk) ob') i) (fun sl=>rwp P (fun sl ob=>K' (Xk sl keep) ob) (fun v sl ob=>Pn' v (Xk sl pk) ob) r (put sl (some k) .undef) ob) (look sl g):=by
         intro t ht
         rw[ht]
         simp only[gdK]
         have hh:∀u,t=u->Inv T σ ((g,.d (.bool u))::sl) sl0 ob:=fun u e=>by
          subst e; rw[<-ht]; exact hI.congr hcg
         have hs:∀u,t=u->∀p,Xt ((g,.d (.bool u))::sl) p=Xt sl p:=fun u e p=>by
          subst e; rw[<-ht]; simp only[Xt,hcg]
         refine⟨fun e1=>?_,fun e1=>?_⟩
         ·have hp1:Xt sl (q++[(g,b)])=true:=by rw[Yz,hq,ht,e1]; simp[isB]
          refine I.lift_sound hT (hh _ e1) (by rw[hs _ e1]; exact hp1) he (hok hp1) ?_
          refine Yu hT hK hP r ((hh _ e1).fold' (e:=e) c1 c2 (fun _=>rfl) (fun h=>?_)) h hr
          rw[hs _ e1,hp1]at h; cases h
         ·have hp1:Xt sl (q++[(g,b)])=false:=by rw[Yz,hq,ht,e1]; cases b<;>simp[isB]
          refine Yu hT hK hP r ((hh _ e1).fold' (e:=e) c1 c2 (fun h=>?_) (fun _=>rfl)) h hr
          rw[hs _ e1,hp1]at h; cases h
        rcases Xdy hb with hb | hb
        ·exact main true (by rw[hv,hb])
        ·exact main false (by rw[hv,hb])
      ·cases hp
    ·cases h
   ·rename_i d x hd hx
    split at h
    ·rename_i c1 c2 h1 h2
     split at h
     ·rename_i ms σ2 hm
      split at h
      ·rename_i lp hl
       split at h
       ·rename_i hc
        simp only[Bool.and_eq_true,List.all_eq_true,Option.isNone_iff_eq_none]at hc
        obtain⟨⟨⟨d1,d2⟩,d3⟩,d4⟩:=hc
        split at h
        ·rename_i t kp' ht
         cases h
         obtain⟨_,hr⟩:=Yy hI h1 hr
         obtain⟨a2,hr⟩:=Yy hI h2 hr
         obtain⟨sl1,hI1,hr⟩:=Xdf hI.kill hm hr
         have hlook:∀{s},Inv T σ2 s sl1 ob->∀k,Z6 σ2 k=none->look s k=look sl1 k:=fun hI k hk=>(hI k [] (.a (.t k)) (by simp[ent,hk])).1 rfl
         have hkeep:∀{s},Inv T σ2 s sl1 ob->Xk s pk=Xk sl1 pk:=fun {s} hI=>by
          exact Xl5 fun k hk=>hlook hI k (d4 k hk)
         have step:∀{s},Inv T σ2 s sl1 ob->it.i.wp P sl1 ob (fun v ob'=>W9 P T (fun sl ob=>Wf T sl ob kp/\K (Vw T sl ob kp) ob) (fun v sl ob=>Pn v (Xk sl pk) ob) t (put sl1 it.d v) ob') (fun v ob'=>Pn v (Xk sl1 pk) ob')->
           it.i.wp P s ob (fun v ob'=>rwp P (fun sl ob=>K' (Xk sl keep) ob) (fun v sl ob=>Pn' v (Xk sl pk) ob) r (put s it.d v) ob') (fun v ob'=>Pn' v (Xk s pk) ob'):=fun {s} hI h=>by
          rw[I.wp_eq (sl':=sl1) (fun k hk=>hlook hI k (d1 k hk))]
          refine I.wp_mono (fun v b hv=>?_) (fun v b hv=>?_) h
          ·exact Yu hT hK hP r (hI.eff d2 d3) ht hv
          ·rw[hkeep hI]; exact hP _ _ _ hv
         cases it with
         | op d' i=>
          simp only[It.eff,W9]at hr
          simp only[rwp]
          exact step hI1 hr
         | gop g b d' i=>
          simp only[It.eff,W9]at hr
          simp only[It.path]at hp
          split at hp
          ·rename_i q eg hg
           cases hp
           have hh:=Vj hI1 _ _ _ hl rfl
           have none':∀{s},Inv T σ2 s sl1 ob->Xt sl (q++[(g,b)])=false->rwp P (fun sl ob=>K' (Xk sl keep) ob) (fun v sl ob=>Pn' v (Xk sl pk) ob) r (put s d' .undef) ob:=fun {s} hI hf=>
            Yu hT hK hP r (hI.eff d2 d3) ht (hr.2 (by rw[<-hh]; exact hf))
           simp only[rwp]
           cases hq:Xt sl q with
           | false=>
            rw[(hI g q eg hg).2 hq]
            simp only[gdK]
            exact none' hI1 (by rw[Yz,hq]; rfl)
           | true=>
            have hv:=(hI g q eg hg).1 hq
            have hb:=(a2 g (by simp) q eg hg hq).2.1
            have hcg:∀j,look ((g,look sl g)::sl) j=look sl j:=fun j=>by
             simp only[look]; split
             ·rename_i e; rw[e]
             ·rfl
            have main:∀u,look sl g=.d (.bool u)->gdK g b sl (fun sl=>I.wp P sl ob (fun v ob'=>rwp P (fun sl ob=>K' (Xk sl keep) ob) (fun v sl ob=>Pn' v (Xk sl pk) ob) r (put sl d' v) ob') (fun v ob'=>Pn' v (Xk sl pk) ob') i) (fun sl=>rwp P (fun sl ob=>K' (Xk sl keep) ob) (fun v sl ob=>Pn' v (Xk sl pk) ob) r (put sl d' .undef) ob) (look sl g):=by
             intro u hu
             rw[hu]
             simp only[gdK]
             have hh2:∀w,u=w->Inv T σ2 ((g,.d (.bool w))::sl) sl1 ob:=fun w e=>by
              subst e; rw[<-hu]; exact hI1.congr hcg
             refine⟨fun e1=>?_,fun e1=>?_⟩
             ·exact step (hh2 _ e1) (hr.1 (by rw[<-hh,Yz,hq,hu,e1]; simp[isB]))
             ·exact none' (hh2 _ e1) (by rw[Yz,hq,hu,e1]; cases b<;>simp[isB])
            rcases Xdy hb with hb | hb
            ·exact main true (by rw[hv,hb])
            ·exact main false (by rw[hv,hb])
          ·cases hp
        ·cases h
       ·cases h
      ·cases h
     ·cases h
    ·cases h

theorem Xl3 {P:Prg}{n n':Xd->Xa->Prop}{Pn Pn':V->Xd->Xa->Prop}(hn:∀sl ob,n sl ob->n' sl ob)(hp:∀v sl ob,Pn v sl ob->Pn' v sl ob):∀(x:It) (sl:Xd) (ob:Xa),itK P n Pn x sl ob->itK P n' Pn' x sl ob
 | .op d i,sl,ob,h=>by
  simp only[itK]at h⊢
  exact I.wp_mono (fun _ _ h=>hn _ _ h) (fun _ _ h=>hp _ _ _ h) h
 | .gop s want d i,sl,ob,h=>by
  simp only[itK]at h⊢
  generalize look sl s=v at h⊢
  unfold gdK at h; split at h
  ·exact⟨fun e=>I.wp_mono (fun _ _ h=>hn _ _ h) (fun _ _ h=>hp _ _ _ h) (h.1 e),fun e=>hn _ _ (h.2 e)⟩
  ·exact hn _ _ h
  ·exact h.elim
mutual
theorem Xfa {P:Prg}{K K':Xd->Xa->Prop}{Pn Pn':V->Xd->Xa->Prop}(hk:∀sl ob,K sl ob->K' sl ob)(hp:∀v sl ob,Pn v sl ob->Pn' v sl ob):∀(t:Ot) (sl:Xd) (ob:Xa),owp P K Pn t sl ob->owp P K' Pn' t sl ob
 | .done,sl,ob,h=>by simp only[owp]at h⊢; exact hk _ _ h
 | .one _ x r,sl,ob,h=>by simp only[owp]at h⊢; exact Xl3 (fun sl ob h=>Xfa hk hp r sl ob h) hp x sl ob h
 | .br l,sl,ob,h=>by simp only[owp]at h⊢; exact Xhm hk hp l sl ob h
theorem Xhm {P:Prg}{K K':Xd->Xa->Prop}{Pn Pn':V->Xd->Xa->Prop}(hk:∀sl ob,K sl ob->K' sl ob)(hp:∀v sl ob,Pn v sl ob->Pn' v sl ob):∀(t:Ots) (sl:Xd) (ob:Xa),Xco P K Pn t sl ob->Xco P K' Pn' t sl ob
 | .nil,sl,ob,h=>by simp only[Xco]
 | .cons _ x r l,sl,ob,h=>by
  simp only[Xco]at h⊢
  exact⟨Xl3 (fun sl ob h=>Xfa hk hp r sl ob h) hp x sl ob h.1,Xhm hk hp l sl ob h.2⟩
end

inductive S2 where
 | rg (l:List It2) (keep:List (Nat×E)) (pk:List Nat)
 | rgT (t:Ot) (keep pk:List Nat)
 | seq (a b:S2)
 | skip
 | cond (c:A) (a b:S2)
 | block (n:Nat) (a:S2)
 | loop (keep:List Nat) (a:S2)
 | exit (n:Nat)
 | ret
 | rgf (tag:Nat) (ps:List Nat) (g:A) (x y:S) (keep:List Nat)

def Y1 (P:Prg)(T:Tab):S2->Y0->Xd->Xa->Prop
 | .rg l keep pk,Q,sl,ob=>W9 P T (fun sl ob=>Wf T sl ob keep/\Q .normal (Vw T sl ob keep) ob) (fun v sl ob=>Q (.panic v) (Xk sl pk) ob) l sl ob
 | .rgT t keep pk,Q,sl,ob=>owp P (fun sl ob=>Q .normal (Xk sl keep) ob) (fun v sl ob=>Q (.panic v) (Xk sl pk) ob) t sl ob
 | .seq a b,Q,sl,ob=>Y1 P T a (Wz (Y1 P T b Q) Q) sl ob
 | .skip,Q,sl,ob=>Q .normal sl ob
 | .cond c a b,Q,sl,ob=>Ji (Y1 P T a Q sl ob) (Y1 P T b Q sl ob) (c.ev sl)
 | .block n a,Q,sl,ob=>Y1 P T a (Zn n Q) sl ob
 | .loop keep a,Q,sl,ob=>ALoop keep (Y1 P T a) Q sl ob
 | .exit n,Q,sl,ob=>Q (.exit n) sl ob
 | .ret,Q,sl,ob=>Q .ret sl ob
 | .rgf tag ps g x y keep,Q,sl,ob=>W0 P tag ps x y/\rgK P tag (Xk sl keep) ob Q (g.ev sl)

def S.lift (fs:List Nat):S->Option S2
 | .rg _ l keep pk=>match Jn fs keep pk l [] [] []with
  | some (l,kp)=>some (.rg l kp pk)
  | none=>none
 | .rgT _ t keep pk=>some (.rgT t keep pk)
 | .seq a b=>match a.lift fs,b.lift fs with
  | some a,some b=>some (.seq a b)
  | _,_=>none
 | .skip=>some .skip
 | .cond c a b=>match a.lift fs,b.lift fs with
  | some a,some b=>some (.cond c a b)
  | _,_=>none
 | .block n a=>match a.lift fs with
  | some a=>some (.block n a)
  | none=>none
 | .loop keep a=>match a.lift fs with
  | some a=>some (.loop keep a)
  | none=>none
 | .exit n=>some (.exit n)
 | .ret=>some .ret
 | .rgf tag ps g x y keep=>some (.rgf tag ps g x y keep)

theorem Xy1 {P:Prg}{tag:Nat}{slk:Xd}{ob:Xa}{Q Q':Y0}(hQ:∀e sl ob,Q e sl ob->Q' e sl ob){v:V}(h:rgK P tag slk ob Q v):rgK P tag slk ob Q' v:=by
 have hq:∀o b,rgQ Q slk (Xb ob) o b->rgQ Q' slk (Xb ob) o b:=fun o b h=>by
  cases o with
  | panic _=>exact h
  | ret v=>
   simp only[rgQ]at h⊢
   generalize Xe b _=z at h⊢
   unfold rgE at h; split at h
   ·exact hQ _ _ _ h
   ·exact hQ _ _ _ h
   ·exact hQ _ _ _ h
   ·exact h.elim
 unfold rgK at h; split at h
 ·exact⟨h.1,h.2.mono hq⟩
 ·exact⟨h.1,h.2.mono hq⟩
 ·exact h.elim

theorem S.lift_sound {P:Prg}{T:Tab}(hT:TOk P T){fs:List Nat}:∀(s:S) {s2:S2} {Q Q':Y0} {sl:Xd} {ob:Xa},s.lift fs=some s2->(∀e sl ob,Q e sl ob->Q' e sl ob)->Y1 P T s2 Q sl ob->cwp P s Q' sl ob
 | .rg o l keep pk,s2,Q,Q',sl,ob,h,hQ,hc=>by
  simp only[S.lift]at h
  split at h
  ·rename_i l' kp hl
   cases h
   simp only[Y1]at hc
   simp only[cwp]
   exact Yu hT (K:=fun sl ob=>Q .normal sl ob) (Pn:=fun v sl ob=>Q (.panic v) sl ob) (fun _ _ h=>hQ _ _ _ h) (fun _ _ _ h=>hQ _ _ _ h) l
    (fun k p e h=>by simp[ent,Z6]at h; obtain⟨rfl,rfl⟩:=h; exact⟨fun _=>rfl,fun h=>by cases h⟩) hl hc
  ·cases h
 | .rgT n t keep pk,s2,Q,Q',sl,ob,h,hQ,hc=>by
  simp only[S.lift]at h
  cases h
  simp only[Y1]at hc
  simp only[cwp]
  exact Xfa (fun _ _ h=>hQ _ _ _ h) (fun _ _ _ h=>hQ _ _ _ h) t sl ob hc
 | .seq a b,s2,Q,Q',sl,ob,h,hQ,hc=>by
  simp only[S.lift]at h
  split at h
  ·rename_i a' b' ha hb
   cases h
   simp only[Y1]at hc
   simp only[cwp]
   refine S.lift_sound hT a ha (fun e sl ob h=>?_) hc
   cases e with
   | normal=>exact S.lift_sound hT b hb hQ h
   | _=>exact hQ _ _ _ h
  ·cases h
 | .skip,s2,Q,Q',sl,ob,h,hQ,hc=>by simp only[S.lift]at h; cases h; exact hQ _ _ _ hc
 | .cond c a b,s2,Q,Q',sl,ob,h,hQ,hc=>by
  simp only[S.lift]at h
  split at h
  ·rename_i a' b' ha hb
   cases h
   simp only[Y1]at hc
   simp only[cwp]
   generalize c.ev sl=v at hc⊢
   unfold Ji at hc; split at hc
   ·exact⟨fun e=>S.lift_sound hT a ha hQ (hc.1 e),fun e=>S.lift_sound hT b hb hQ (hc.2 e)⟩
   ·exact hc.elim
  ·cases h
 | .block n a,s2,Q,Q',sl,ob,h,hQ,hc=>by
  simp only[S.lift]at h
  split at h
  ·rename_i a' ha
   cases h
   simp only[Y1]at hc
   simp only[cwp]
   refine S.lift_sound hT a ha (fun e sl ob h=>?_) hc
   cases e with
   | exit m=>
    simp only[Zn]at h⊢
    split
    ·rename_i e; rw[if_pos e]at h; exact hQ _ _ _ h
    ·rename_i e; rw[if_neg e]at h; exact hQ _ _ _ h
   | _=>exact hQ _ _ _ h
  ·cases h
 | .loop keep a,s2,Q,Q',sl,ob,h,hQ,hc=>by
  simp only[S.lift]at h
  split at h
  ·rename_i a' ha
   cases h
   simp only[Y1]at hc
   simp only[cwp]
   obtain⟨ι,S,O,I,μ,i0,h1,h2,h3,h4⟩:=hc.run
   refine⟨⟨ι,S,O,I,μ,i0,h1,h2,h3,fun i hi=>S.lift_sound hT a ha (fun e sl ob h=>?_) (h4 i hi)⟩⟩
   cases e with
   | normal=>exact h
   | _=>exact hQ _ _ _ h
  ·cases h
 | .exit n,s2,Q,Q',sl,ob,h,hQ,hc=>by simp only[S.lift]at h; cases h; exact hQ _ _ _ hc
 | .ret,s2,Q,Q',sl,ob,h,hQ,hc=>by simp only[S.lift]at h; cases h; exact hQ _ _ _ hc
 | .rgf tag ps g x y keep,s2,Q,Q',sl,ob,h,hQ,hc=>by
  simp only[S.lift]at h; cases h
  simp only[Y1]at hc
  simp only[cwp]
  exact⟨hc.1,Xy1 hQ hc.2⟩
end Go.Ab
namespace Go.Ab
open Go

theorem Xi {P:Prg}{p:Program}(hP:P.p=p)(hm:p.follows .mixedOrders=true){f:Nat}{s:S}{rs:List RV}{ds:List D}{ob0:Xa}{K:V->Prop}{fs:List Nat}{s2:S2}{T:Tab}(hc:Xj p f ds.length s rs=true)(hl:s.lift fs=some s2)(hT:TOk P T)
  (h:Y1 P T s2 (Js rs K) (Vb 0 (ds.map .d)) []):PCall P f (ds.map .d) ob0 K:=
 Xyw hP hm hc (S.lift_sound hT s hl (fun _ _ _ h=>h) h)

theorem Xs {P:Prg}{p:Program}(hP:P.p=p)(hm:p.follows .mixedOrders=true){f:Nat}{s:S}{rs:List RV}{vs:List V}{ob:Xa}{K:Out->Xa->Prop}{fs:List Nat}{s2:S2}{T:Tab}(hc:Xj p f vs.length s rs=true)(hl:s.lift fs=some s2)(hT:TOk P T)
  (h:(∀kp,V.mens (Xf (Xb ob) kp) vs=false)->(∀kp,Xg (Xf (Xb ob) kp) ob=true)->Y1 P T s2 (Vd (Xb ob) rs K) (Vb 0 vs) ob):ACall P f vs ob K:=
 ACall.of_wf fun h1 h2=>by subst hP; exact Xcr hm hc (S.lift_sound hT s hl (fun _ _ _ h=>h) (h h1 h2))

def PFn (P:Prg)(f:Nat)(F:Fn):Prop:=∀vs,F.pre vs->∀(ob:Xa) (K:V->Prop),K (F.val vs)->PCall P f vs ob K
theorem TOk.nil {P:Prg}:TOk P []:=fun f F h=>by simp[Xja]at h
theorem TOk.cons {P:Prg}{T:Tab}{f:Nat}{F:Fn}(h:PFn P f F)(hT:TOk P T):TOk P ((f,F)::T):=fun g G hg=>by
 simp only[Xja]at hg
 split at hg
 ·rename_i e; subst e; cases hg; exact h
 ·exact hT g G hg

def Ykw (v:V):Prop:=Xtm (fun w=>w=X7w v) v
def mxS (u v:V):Prop:=mxK (fun w=>w=mxV u v) u v
def Xzm (o:BinOp)(u v:V):Prop:=Xla o (fun w=>w=X1w o u v) u v
def Xc9 (e:Bool)(v:V):Prop:=W5 e (fun w=>w=Qs e v) v
def Ykn (k:IntKind)(v:V):Prop:=Xqt k (fun w=>w=X2m k v) v
def idxS (u v:V):Prop:=Xu7 (fun w=>w=Yag u v) u v
def Xgu (ob:Xa)(z:Nat)(u v:V):Prop:=Xad ob z (fun w=>w=Xgv z u v) u v
def Xi1 (ob:Xa)(n z:Nat)(u v:V):Prop:=Xae ob n z (fun w=>w=Xed u v) u v
def Xnv (ob:Xa)(f fo:Nat)(v:V):Prop:=Vv ob f fo (fun w=>w=Xiv f fo v) v
def ldS (ob:Xa)(n:Nat)(ag:Bool)(v:V):Prop:=ldK ob n ag (fun w=>w=ldV ob v) v
def Xn7 (v:V):Prop:=Xaf (fun w=>w=v) v
def Xyg (v:V):Prop:=Xbp (fun w=>w=Xi8 v) v
def Xee (ob:Xa)(v:V):Prop:=Qt ob (fun w=>w=Xcm v) v
def Xaj (l h:Option V)(v:V):Prop:=Xcq l h (fun w=>w=Q8 l h v) v
def Ykq (i:Nat)(v:V):Prop:=Xu6 i (fun w=>w=X8l i v) v
def Yk1 (t:Nat)(z:D)(v:V):Prop:=Xzc t z (fun w=>w=X8x t z v) v

section
variable (P:Prg) (T:Tab) (sl:Xd) (ob:Xa) (x y z:E) (a:A) (u v w:V) (k j n m:Nat) (b c:Bool) (kd kd':IntKind) (i i':Int) (s s':List UInt8) (xs:List D) (vs:List V) (d:D) (o:BinOp) (p:List Nat)
-- what expressions yield
@[simp] theorem v_a:E.val T sl ob (.a a)=a.ev sl:=by simp only[E.val]
@[simp] theorem v_ite:E.val T sl ob (.ite x y z)=Xb1 (x.val T sl ob) (y.val T sl ob) (z.val T sl ob):=by simp only[E.val]
@[simp] theorem v_not:E.val T sl ob (.u (.not (.t 0)) x)=X7w (x.val T sl ob):=by simp[E.val,C.val]
@[simp] theorem v_mx:E.val T sl ob (.b (.mx (.t 0) (.t 1)) x y)=mxV (x.val T sl ob) (y.val T sl ob):=by simp[E.val,C.val]
@[simp] theorem v_bin:E.val T sl ob (.b (.bin o (.t 0) (.t 1)) x y)=X1w o (x.val T sl ob) (y.val T sl ob):=by simp[E.val,C.val]
@[simp] theorem v_isnil:E.val T sl ob (.u (.isnil b (.t 0)) x)=Qs b (x.val T sl ob):=by simp[E.val,C.val]
@[simp] theorem v_cvi:E.val T sl ob (.u (.cvi kd (.t 0)) x)=X2m kd (x.val T sl ob):=by simp[E.val,C.val]
@[simp] theorem v_idx:E.val T sl ob (.b (.idx (.t 0) (.t 1)) x y)=Yag (x.val T sl ob) (y.val T sl ob):=by simp[E.val,C.val]
@[simp] theorem v_idxA:E.val T sl ob (.b (.idxA n (.t 0) (.t 1)) x y)=Xgv n (x.val T sl ob) (y.val T sl ob):=by simp[E.val,C.val]
@[simp] theorem v_idxP:E.val T sl ob (.b (.idxP k n (.t 0) (.t 1)) x y)=Xed (x.val T sl ob) (y.val T sl ob):=by simp[E.val,C.val]
@[simp] theorem v_fldA:E.val T sl ob (.u (.fldA k n (.t 0)) x)=Xiv k n (x.val T sl ob):=by simp[E.val,C.val]
@[simp] theorem v_ldd:E.val T sl ob (.u (.ldd n b (.t 0)) x)=ldV ob (x.val T sl ob):=by simp[E.val,C.val]
@[simp] theorem v_ld:E.val T sl ob (.u (.ld n b (.t 0)) x)=ldV ob (x.val T sl ob):=by simp[E.val,C.val]
@[simp] theorem v_nilc:E.val T sl ob (.u (.nilc (.t 0)) x)=x.val T sl ob:=by simp[E.val,C.val]
@[simp] theorem v_lenS:E.val T sl ob (.u (.lenS (.t 0)) x)=Xi8 (x.val T sl ob):=by simp[E.val,C.val]
@[simp] theorem v_lenL:E.val T sl ob (.u (.lenL (.t 0)) x)=Xcm (x.val T sl ob):=by simp[E.val,C.val]
@[simp] theorem v_slcS1:E.val T sl ob (.b (.slcS (.t 0) (some (.t 1)) none) x y)=Q8 (some (y.val T sl ob)) none (x.val T sl ob):=by simp[E.val,C.val]
@[simp] theorem v_slcS2:E.val T sl ob (.b (.slcS (.t 0) none (some (.t 1))) x y)=Q8 none (some (y.val T sl ob)) (x.val T sl ob):=by simp[E.val,C.val]
@[simp] theorem v_slcS3:E.val T sl ob (.t (.slcS (.t 0) (some (.t 1)) (some (.t 2))) x y z)=Q8 (some (y.val T sl ob)) (some (z.val T sl ob)) (x.val T sl ob):=by simp[E.val,C.val]
@[simp] theorem v_ext:E.val T sl ob (.u (.ext (.t 0) n) x)=X8l n (x.val T sl ob):=by simp[E.val,C.val]
@[simp] theorem v_mki:E.val T sl ob (.u (.mki n (.t 0)) x)=Xyp n (x.val T sl ob):=by simp[E.val,C.val]
@[simp] theorem v_tas:E.val T sl ob (.u (.tas n d (.t 0)) x)=X8x n d (x.val T sl ob):=by simp[E.val,C.val]
-- when expressions are safe
@[simp] theorem o_a:E.ok T sl ob (.a a)=True:=by simp only[E.ok]
@[simp] theorem o_ite:E.ok T sl ob (.ite x y z)=(x.ok T sl ob/\Xa8 (x.val T sl ob)/\(isB true (x.val T sl ob)=true->y.ok T sl ob)/\(isB false (x.val T sl ob)=true->z.ok T sl ob)):=by simp only[E.ok]
@[simp] theorem o_not:E.ok T sl ob (.u (.not (.t 0)) x)=(x.ok T sl ob/\Ykw (x.val T sl ob)):=by simp[E.ok,C.ok,C.val,Ykw]
@[simp] theorem o_mx:E.ok T sl ob (.b (.mx (.t 0) (.t 1)) x y)=(x.ok T sl ob/\y.ok T sl ob/\mxS (x.val T sl ob) (y.val T sl ob)):=by simp[E.ok,C.ok,C.val,mxS]
@[simp] theorem o_bin:E.ok T sl ob (.b (.bin o (.t 0) (.t 1)) x y)=(x.ok T sl ob/\y.ok T sl ob/\Xzm o (x.val T sl ob) (y.val T sl ob)):=by simp[E.ok,C.ok,C.val,Xzm]
@[simp] theorem o_isnil:E.ok T sl ob (.u (.isnil b (.t 0)) x)=(x.ok T sl ob/\Xc9 b (x.val T sl ob)):=by simp[E.ok,C.ok,C.val,Xc9]
@[simp] theorem o_cvi:E.ok T sl ob (.u (.cvi kd (.t 0)) x)=(x.ok T sl ob/\Ykn kd (x.val T sl ob)):=by simp[E.ok,C.ok,C.val,Ykn]
@[simp] theorem o_idx:E.ok T sl ob (.b (.idx (.t 0) (.t 1)) x y)=(x.ok T sl ob/\y.ok T sl ob/\idxS (x.val T sl ob) (y.val T sl ob)):=by simp[E.ok,C.ok,C.val,idxS]
@[simp] theorem o_idxA:E.ok T sl ob (.b (.idxA n (.t 0) (.t 1)) x y)=(x.ok T sl ob/\y.ok T sl ob/\Xgu ob n (x.val T sl ob) (y.val T sl ob)):=by simp[E.ok,C.ok,C.val,Xgu]
@[simp] theorem o_idxP:E.ok T sl ob (.b (.idxP k n (.t 0) (.t 1)) x y)=(x.ok T sl ob/\y.ok T sl ob/\Xi1 ob k n (x.val T sl ob) (y.val T sl ob)):=by simp[E.ok,C.ok,C.val,Xi1]
@[simp] theorem o_fldA:E.ok T sl ob (.u (.fldA k n (.t 0)) x)=(x.ok T sl ob/\Xnv ob k n (x.val T sl ob)):=by simp[E.ok,C.ok,C.val,Xnv]
def Ye1 (n:Nat)(ag:Bool)(v:V):Prop:=Xo2 n ag (fun _=>True) v
@[simp] theorem lddS_c {d:D}:Ye1 n b (.d (.ref d))=(d.sz=n/\(V.d d).isAgg=b):=by simp[Ye1]
theorem X4w {ob:Xa}{v:V}:Xo2 n b (fun w=>w=ldV ob v) v=Ye1 n b v:=by
 unfold Ye1 Xo2; split<;>simp[ldV]
@[simp] theorem o_ldd:E.ok T sl ob (.u (.ldd n b (.t 0)) x)=(x.ok T sl ob/\Ye1 n b (x.val T sl ob)):=by simp[E.ok,C.ok,C.val,X4w]
@[simp] theorem o_ld:E.ok T sl ob (.u (.ld n b (.t 0)) x)=(x.ok T sl ob/\ldS ob n b (x.val T sl ob)):=by simp[E.ok,C.ok,C.val,ldS]
@[simp] theorem o_nilc:E.ok T sl ob (.u (.nilc (.t 0)) x)=(x.ok T sl ob/\Xn7 (x.val T sl ob)):=by simp[E.ok,C.ok,C.val,Xn7]
@[simp] theorem o_lenS:E.ok T sl ob (.u (.lenS (.t 0)) x)=(x.ok T sl ob/\Xyg (x.val T sl ob)):=by simp[E.ok,C.ok,C.val,Xyg]
@[simp] theorem o_lenL:E.ok T sl ob (.u (.lenL (.t 0)) x)=(x.ok T sl ob/\Xee ob (x.val T sl ob)):=by simp[E.ok,C.ok,C.val,Xee]
@[simp] theorem o_slcS1:E.ok T sl ob (.b (.slcS (.t 0) (some (.t 1)) none) x y)=(x.ok T sl ob/\y.ok T sl ob/\Xaj (some (y.val T sl ob)) none (x.val T sl ob)):=by simp[E.ok,C.ok,C.val,Xaj]
@[simp] theorem o_slcS2:E.ok T sl ob (.b (.slcS (.t 0) none (some (.t 1))) x y)=(x.ok T sl ob/\y.ok T sl ob/\Xaj none (some (y.val T sl ob)) (x.val T sl ob)):=by simp[E.ok,C.ok,C.val,Xaj]
@[simp] theorem o_slcS3:E.ok T sl ob (.t (.slcS (.t 0) (some (.t 1)) (some (.t 2))) x y z)=(x.ok T sl ob/\y.ok T sl ob/\z.ok T sl ob/\Xaj (some (y.val T sl ob)) (some (z.val T sl ob)) (x.val T sl ob)):=by simp[E.ok,C.ok,C.val,Xaj]
@[simp] theorem o_ext:E.ok T sl ob (.u (.ext (.t 0) n) x)=(x.ok T sl ob/\Ykq n (x.val T sl ob)):=by simp[E.ok,C.ok,C.val,Ykq]
@[simp] theorem o_mki:E.ok T sl ob (.u (.mki n (.t 0)) x)=x.ok T sl ob:=by simp[E.ok,C.ok,C.val]
@[simp] theorem o_tas:E.ok T sl ob (.u (.tas n d (.t 0)) x)=(x.ok T sl ob/\Yk1 n d (x.val T sl ob)):=by simp[E.ok,C.ok,C.val,Yk1]
-- values
@[simp] theorem pickV_b (b1 b2:Bool):Xb1 (.d (.bool b)) (.d (.bool b1)) (.d (.bool b2))=.d (.bool (if b then b1 else b2)):=by simp only[Xb1]
attribute [simp] Xtv Xtt
@[simp] theorem notV_b:X7w (.d (.bool b))=.d (.bool (!b)):=by simp only[X7w]
@[simp] theorem notS_b:Ykw (.d (.bool b))=True:=by simp[Ykw]
@[simp] theorem mxV_i:mxV (.d (.int kd i)) (.d (.int kd' i'))=.d (.int kd (if i' > i then i' else i)):=by simp only[mxV]
@[simp] theorem mxS_i:mxS (.d (.int kd i)) (.d (.int kd' i'))=True:=by simp[mxS,mxK,mxV]
@[simp] theorem binV_i:X1w o (.d (.int kd i)) (.d (.int kd' i'))=J1 o kd i i':=by simp only[X1w]
@[simp] theorem binV_s:X1w o (.d (.str s)) (.d (.str s'))=X1b o s s':=by simp only[X1w]
@[simp] theorem intV_add:J1 .add kd i i'=.d (.int kd (kd.wrap (i+i'))):=by simp only[J1]
@[simp] theorem intV_sub:J1 .sub kd i i'=.d (.int kd (kd.wrap (i-i'))):=by simp only[J1]
@[simp] theorem intV_mul:J1 .mul kd i i'=.d (.int kd (kd.wrap (i*i'))):=by simp only[J1]
@[simp] theorem intV_eql:J1 .eql kd i i'=.d (.bool (i==i')):=by simp only[J1]
@[simp] theorem intV_neq:J1 .neq kd i i'=.d (.bool (i != i')):=by simp only[J1]
@[simp] theorem intV_lss:J1 .lss kd i i'=.d (.bool (decide (i<i'))):=by simp only[J1]
@[simp] theorem intV_leq:J1 .leq kd i i'=.d (.bool (decide (i<=i'))):=by simp only[J1]
@[simp] theorem intV_gtr:J1 .gtr kd i i'=.d (.bool (decide (i'<i))):=by simp only[J1]
@[simp] theorem intV_geq:J1 .geq kd i i'=.d (.bool (decide (i'<=i))):=by simp only[J1]
@[simp] theorem strV_eql:X1b .eql s s'=.d (.bool (s==s')):=by simp only[X1b]
@[simp] theorem strV_neq:X1b .neq s s'=.d (.bool (s != s')):=by simp only[X1b]
def Yml (o:BinOp)(i:Int):Prop:=match o with
 | .quo | .rem=>i ≠ 0
 | .shl | .shr=>0<=i
 | _=>True
@[simp] theorem binS_i:Xzm o (.d (.int kd i)) (.d (.int kd i'))=Yml o i':=by cases o<;>simp[Xzm,Yml,Xu8,J1]
attribute [simp] Yml
@[simp] theorem binS_eql:Xzm .eql (.d (.str s)) (.d (.str s'))=True:=by simp[Xzm]
@[simp] theorem binS_neq:Xzm .neq (.d (.str s)) (.d (.str s'))=True:=by simp[Xzm]
@[simp] theorem isnilV_n:Qs b (.d .nili)=.d (.bool b):=by simp only[Qs]
@[simp] theorem isnilS_n:Xc9 b (.d .nili)=True:=by simp[Xc9]
@[simp] theorem isnilV_di:Qs b (.d (.iface k d))=.d (.bool (!b)):=by simp only[Qs]
@[simp] theorem isnilS_di:Xc9 b (.d (.iface k d))=True:=by simp[Xc9]
@[simp] theorem cviV_i:X2m kd (.d (.int kd' i))=.d (.int kd (kd.wrap i)):=by simp only[X2m]
@[simp] theorem cviS_i:Ykn kd (.d (.int kd' i))=True:=by simp[Ykn]
@[simp] theorem idxV_s:Yag (.d (.str s)) (.d (.int kd i))=.d (.int .u8 (s.getD i.toNat 0).toNat):=by simp only[Yag]
@[simp] theorem idxS_s:idxS (.d (.str s)) (.d (.int kd i))=(0<=i/\i<s.length):=by simp[idxS]
@[simp] theorem idxAV_l:Xgv m (.d (.list n xs)) (.d (.int kd i))=.d (.ref (xs.getD i.toNat default)):=by simp only[Xgv]
@[simp] theorem idxAS_l:Xgu ob n (.d (.list n xs)) (.d (.int kd i))=(0<=i/\i<xs.length):=by simp[Xgu]
@[simp] theorem idxPV_p:Xed (.ptr j p) (.d (.int kd i))=.ptr j (p++[i.toNat]):=by simp only[Xed]
@[simp] theorem idxPV_c:Xed (.d (.ref (.agg xs))) (.d (.int kd i))=.d (.ref (xs.getD i.toNat default)):=by simp only[Xed]
@[simp] theorem idxPS_p:Xi1 ob k n (.ptr j p) (.d (.int kd i))=((0<=i/\i<k)/\∃ks,Za (atO ob j p)=some ks/\ks.length=k/\∀k∈ks,k.size=n):=by simp[Xi1]
@[simp] theorem X3f:Xi1 ob k n (.d (.ref (.agg xs))) (.d (.int kd i))=((0<=i/\i<k)/\xs.length=k/\∀x∈xs,x.sz=n):=by simp[Xi1]
@[simp] theorem fldAV_p:Xiv k n (.ptr j p)=.ptr j (p++[k]):=by simp only[Xiv]
@[simp] theorem fldAV_c:Xiv k n (.d (.ref (.agg xs)))=.d (.ref (xs.getD k default)):=by simp only[Xiv]
def Xl0 (f fo:Nat):Option (List V)->Prop
 | some ks=>f<ks.length/\Sh.sizes ((ks.take f).map V.shape)=fo
 | none=>False
@[simp] theorem fldASo_s:Xl0 k n (some vs)=(k<vs.length/\Sh.sizes ((vs.take k).map V.shape)=n):=by simp only[Xl0]
@[simp] theorem fldAS_p:Xnv ob k n (.ptr j p)=Xl0 k n (Za (atO ob j p)):=by
 simp only[Xnv,Vv,Xl0]; cases Za (atO ob j p)<;>simp[V1]
@[simp] theorem fldAS_c:Xnv ob k n (.d (.ref (.agg xs)))=(k<xs.length/\D.szs (xs.take k)=n):=by simp[Xnv]
@[simp] theorem ldVo_s:Xz2 (some v)=v:=by simp only[Xz2]
@[simp] theorem ldV_p:ldV ob (.ptr j p)=Xz2 (atO ob j p):=by simp only[ldV]
@[simp] theorem ldV_c:ldV ob (.d (.ref d))=.d d:=by simp only[ldV]
def X8o (n:Nat)(b:Bool):Option V->Prop
 | some v=>v.size=n/\v.isAgg=b
 | none=>False
@[simp] theorem ldSo_s:X8o n b (some v)=(v.size=n/\v.isAgg=b):=by simp only[X8o]
@[simp] theorem ldS_p:ldS ob n b (.ptr j p)=X8o n b (atO ob j p):=by
 simp only[ldS,ldK,ldV]; cases atO ob j p<;>simp[Xg4,X8o,Xz2]
@[simp] theorem ldS_c:ldS ob n b (.d (.ref d))=(d.sz=n/\(V.d d).isAgg=b):=by simp[ldS]
@[simp] theorem nilcS_p:Xn7 (.ptr j p)=True:=by simp[Xn7]
@[simp] theorem nilcS_c:Xn7 (.d (.ref d))=True:=by simp[Xn7]
@[simp] theorem lenSV_s:Xi8 (.d (.str s))=.d (.int .i64 s.length):=by simp only[Xi8]
@[simp] theorem lenSS_s:Xyg (.d (.str s))=True:=by simp[Xyg]
@[simp] theorem lenLV_l:Xcm (.d (.list n xs))=.d (.int .i64 xs.length):=by simp only[Xcm]
@[simp] theorem lenLV_n:Xcm (.d .nils)=.d (.int .i64 0):=by simp only[Xcm]
@[simp] theorem lenLV_o:Xcm (.sl j n)=.d (.int .i64 n):=by simp only[Xcm]
@[simp] theorem lenLS_l:Xee ob (.d (.list n xs))=True:=by simp[Xee]
@[simp] theorem lenLS_n:Xee ob (.d .nils)=True:=by simp[Xee]
@[simp] theorem lenLS_o:Xee ob (.sl j n)=((∃E z xs,Xe ob j=some (.arr E z xs)/\n=xs.length)\/∃E z xs,Xe ob j=some (.vec E z xs)/\n=xs.length):=by simp[Xee]
@[simp] theorem slcSV_sn:Q8 (some (.d (.int kd i))) none (.d (.str s))=.d (.str (s.drop i.toNat)):=by simp[Q8,Xzo]
@[simp] theorem slcSV_ns:Q8 none (some (.d (.int kd i))) (.d (.str s))=.d (.str (s.take i.toNat)):=by simp[Q8,Xzo]
@[simp] theorem slcSV_ss:Q8 (some (.d (.int kd i))) (some (.d (.int kd' i'))) (.d (.str s))=.d (.str ((s.take i'.toNat).drop i.toNat)):=by simp only[Q8,Xzo]
@[simp] theorem slcSS_sn:Xaj (some (.d (.int kd i))) none (.d (.str s))=(0<=i/\i<=s.length):=by simp[Xaj,Q8,Xzo]
@[simp] theorem slcSS_ns:Xaj none (some (.d (.int kd i))) (.d (.str s))=(0<=i/\i<=s.length):=by simp[Xaj,Q8,Xzo]
@[simp] theorem slcSS_ss:Xaj (some (.d (.int kd i))) (some (.d (.int kd' i'))) (.d (.str s))=((0<=i'/\i'<=s.length)/\0<=i/\i<=i'):=by simp[Xaj,Q8,Xzo]
@[simp] theorem extV_t:X8l n (.tup vs)=vs.getD n .any:=by simp only[X8l]
@[simp] theorem extS_t:Ykq n (.tup vs)=(n<vs.length):=by simp[Ykq,X8l]
@[simp] theorem tasV_dy (d':D):X8x k d (.d (.iface k d'))=.tup [.d d',.d (.bool true)]:=by simp[X8x]
@[simp] theorem tasS_d (d':D):Yk1 k d (.d (.iface j d'))=True:=by by_cases h:j=k<;>simp[Yk1,Xzc,X8x,h]
@[simp] theorem isB_b:isB c (.d (.bool b))=(b==c):=by simp only[isB]
@[simp] theorem boolV_b:Xa8 (.d (.bool b))=True:=by simp only[Xa8]
@[simp] theorem whenV_t:Xfh true v=v:=by simp[Xfh]
@[simp] theorem whenV_f:Xfh false v=.undef:=by simp[Xfh]
@[simp] theorem holdsB_nil:Zj T sl ob []=true:=by simp[Zj]
@[simp] theorem holdsB_cons (l:List (E×Bool)):Zj T sl ob ((x,b)::l)=(isB b (x.val T sl ob)&&Zj T sl ob l):=by simp[Zj]
-- folded statements
@[simp] theorem zx (KS:Xd->Xa->Prop)(PS:V->Xd->Xa->Prop):W9 P T KS PS [] sl ob=KS sl ob:=by simp only[W9]
@[simp] theorem zt (KS:Xd->Xa->Prop)(PS:V->Xd->Xa->Prop)(q:List (E×Bool))(l:List It2):W9 P T KS PS (.chk q x::l) sl ob=((Zj T sl ob q=true->x.ok T sl ob)/\W9 P T KS PS l sl ob):=by simp only[W9]
@[simp] theorem zw (KS:Xd->Xa->Prop)(PS:V->Xd->Xa->Prop)(q:List (E×Bool))(l:List It2):W9 P T KS PS (.lt k q x::l) sl ob=((Zj T sl ob q=true->x.ok T sl ob)/\W9 P T KS PS l ((k,Xfh (Zj T sl ob q) (x.val T sl ob))::sl) ob):=by simp only[W9]
@[simp] theorem zy (KS:Xd->Xa->Prop)(PS:V->Xd->Xa->Prop)(dd:Option Nat)(e:I)(l:List It2):W9 P T KS PS (.op dd e::l) sl ob=e.wp P sl ob (fun v ob'=>W9 P T KS PS l (put sl dd v) ob') (fun v ob'=>PS v sl ob'):=by simp only[W9]
@[simp] theorem zu (KS:Xd->Xa->Prop)(PS:V->Xd->Xa->Prop)(q:List (E×Bool))(dd:Option Nat)(e:I)(l:List It2):W9 P T KS PS (.gop q dd e::l) sl ob=((Zj T sl ob q=true->e.wp P sl ob (fun v ob'=>W9 P T KS PS l (put sl dd v) ob') (fun v ob'=>PS v sl ob'))/\(Zj T sl ob q=false->W9 P T KS PS l (put sl dd .undef) ob)):=by simp only[W9]
@[simp] theorem keepE_nil:Vw T sl ob []=[]:=by simp only[Vw]
@[simp] theorem keepE_cons (l:List (Nat×E)):Vw T sl ob ((k,x)::l)=(k,x.val T sl ob)::Vw T sl ob l:=by simp only[Vw]
@[simp] theorem keepOk_nil:Wf T sl ob []=True:=by simp only[Wf]
@[simp] theorem keepOk_cons (l:List (Nat×E)):Wf T sl ob ((k,x)::l)=(x.ok T sl ob/\Wf T sl ob l):=by simp only[Wf]
variable (Q:Y0) (s1 s2:S2)
@[simp] theorem qm (l:List It2)(kp:List (Nat×E))(pk:List Nat):Y1 P T (.rg l kp pk) Q sl ob=W9 P T (fun sl ob=>Wf T sl ob kp/\Q .normal (Vw T sl ob kp) ob) (fun v sl ob=>Q (.panic v) (Xk sl pk) ob) l sl ob:=by simp only[Y1]
@[simp] theorem qo:Y1 P T (.seq s1 s2) Q sl ob=Y1 P T s1 (Wz (Y1 P T s2 Q) Q) sl ob:=by simp only[Y1]
@[simp] theorem qp:Y1 P T .skip Q sl ob=Q .normal sl ob:=by simp only[Y1]
@[simp] theorem qj:Y1 P T (.cond a s1 s2) Q sl ob=Ji (Y1 P T s1 Q sl ob) (Y1 P T s2 Q sl ob) (a.ev sl):=by simp only[Y1]
@[simp] theorem qi:Y1 P T (.block n s1) Q sl ob=Y1 P T s1 (Zn n Q) sl ob:=by simp only[Y1]
@[simp] theorem Xv (kp:List Nat):Y1 P T (.loop kp s1) Q sl ob=ALoop kp (Y1 P T s1) Q sl ob:=by simp only[Y1]
@[simp] theorem qk:Y1 P T (.exit n) Q sl ob=Q (.exit n) sl ob:=by simp only[Y1]
@[simp] theorem ql:Y1 P T .ret Q sl ob=Q .ret sl ob:=by simp only[Y1]
end
@[congr] theorem rwp2_congr {P:Prg}{T:Tab}{KS:Xd->Xa->Prop}{PS:V->Xd->Xa->Prop}{l:List It2}{sl sl':Xd}{ob ob':Xa}(h:sl=sl')(h':ob=ob'):W9 P T KS PS l sl ob=W9 P T KS PS l sl' ob':=by rw[h,h']
@[congr] theorem cwp2_congr {P:Prg}{T:Tab}{s:S2}{Q:Y0}{sl sl':Xd}{ob ob':Xa}(h:sl=sl')(h':ob=ob'):Y1 P T s Q sl ob=Y1 P T s Q sl' ob':=by rw[h,h']
@[congr] theorem E_val_congr {T:Tab}{sl:Xd}{ob:Xa}{e:E}:E.val T sl ob e=E.val T sl ob e:=rfl
@[congr] theorem E_ok_congr {T:Tab}{sl:Xd}{ob:Xa}{e:E}:E.ok T sl ob e=E.ok T sl ob e:=rfl
end Go.Ab
namespace Go.Ab
open Go

def Xah {α β:Type}(f:α->Option β):List α->Option (List β)
 | []=>some []
 | x::r=>match f x with
  | some y=>match Xah f r with
   | some l=>some (y::l)
   | none=>none
  | none=>none
def Xsj (k:Nat):Option Ob->Option D
 | some (.arr _ sz xs)=>if sz ≠ 0/\k=xs.length then some (.list sz xs) else none
 | _=>none
def refO (f:V->Option D):Option V->Option D
 | some t=>(f t).map .ref
 | none=>none
def V.toD (ob:Xa):Nat->V->Option D
 | 0,_=>none
 | _+1,.d x=>some x
 | n+1,.ptr id p=>refO (V.toD ob n) (atO ob id p)
 | _+1,.sl id k=>Xsj k (Xe ob id)
 | n+1,.fn f fi ca=>match Xah (V.toD ob n) fi,Xah (V.toD ob n) ca with
  | some l,some m=>some (.fn f l m)
  | _,_=>none
 | n+1,.agg xs=>(Xah (V.toD ob n) xs).map .agg
 | n+1,.iface t x=>(V.toD ob n x).map (.iface t)
 | _+1,_=>none
def V.toDs (ob:Xa)(n:Nat)(vs:List V):Option (List D):=Xah (V.toD ob n) vs

mutual
def D.flat:D->Bool
 | .agg xs=>D.flats xs
 | .list _ _ | .ref _ | .fn _ _ _ | .iface _ _=>false
 | _=>true
def D.flats:List D->Bool
 | []=>true
 | x::r=>x.flat&&D.flats r
end
def V.flat:V->Bool
 | .d x=>x.flat
 | _=>false
def V.flatR:V->Bool
 | .d x=>x.flat
 | .tup xs=>xs.all V.flat
 | _=>false

section
variable {w:World} {ρ:Env} {ob:Xa}
def Xva:Nat->Prop:=fun _=>False
theorem X42:Xfj w (own ρ) w Xva:=fun _ _ _=>⟨rfl,fun h=>h⟩

mutual
theorem D.flat_rep {ow ow':Nat->Prop}:∀(x:D) (cs:List Value),x.flat=true->x.rep w ow cs->x.rep w ow' cs
 | .int _ _,_,_,h | .bool _,_,_,h | .str _,_,_,h | .nils,_,_,h | .nili,_,_,h | .nilp,_,_,h | .nilf,_,_,h | .nilm,_,_,h=>by simpa only[D.rep]using h
 | .agg xs,cs,hf,h=>by simp only[D.rep]at h⊢; simp only[D.flat]at hf; exact D.flats_rep xs cs hf h
 | .list _ _,_,hf,_ | .ref _,_,hf,_ | .fn _ _ _,_,hf,_ | .iface _ _,_,hf,_=>by simp[D.flat]at hf
theorem D.flats_rep {ow ow':Nat->Prop}:∀(xs:List D) (cs:List Value),D.flats xs=true->D.repL w ow xs cs->D.repL w ow' xs cs
 | [],_,_,h=>by simpa only[D.repL]using h
 | x::r,cs,hf,h=>by
  simp only[D.repL]at h⊢
  simp only[D.flats,Bool.and_eq_true]at hf
  obtain⟨c1,c2,e,h1,h2⟩:=h
  exact⟨c1,c2,e,D.flat_rep x c1 hf.1 h1,D.flats_rep r c2 hf.2 h2⟩
end
theorem V.flat_rep {ρ':Env}{v:V}{u:Value}(hf:v.flat=true)(h:v.rep w ρ u):v.rep w ρ' u:=by
 cases v with
 | d x=>
  simp only[V.flat]at hf
  rw[U7]at h⊢
  rcases h with⟨a,ds,e,r⟩ | ⟨a,r⟩
  ·exact .inl ⟨a,ds,e,D.flat_rep x ds hf r⟩
  ·exact .inr ⟨a,D.flat_rep x _ hf r⟩
 | _=>simp[V.flat]at hf
theorem V.flats_rep {ρ':Env}:∀{vs:List V} {us:List Value},vs.all V.flat=true->V.reps w ρ vs us->V.reps w ρ' vs us
 | [],_,_,h=>by simpa only[V.reps]using h
 | v::r,us,hf,h=>by
  simp only[List.all_cons,Bool.and_eq_true]at hf
  simp only[V.reps]at h⊢
  obtain⟨u,us',e,h1,h2⟩:=h
  exact⟨u,us',e,V.flat_rep (ρ:=ρ) (u:=u) hf.1 h1,V.flats_rep hf.2 h2⟩
theorem V.flatR_rep {ρ':Env}{v:V}{u:Value}(hf:v.flatR=true)(h:v.rep w ρ u):v.rep w ρ' u:=by
 cases v with
 | d x=>exact V.flat_rep (v:=.d x) hf h
 | tup xs=>
  rw[Wi]at h⊢
  obtain⟨vs,e,h⟩:=h
  exact⟨vs,e,V.flats_rep hf h⟩
 | _=>simp[V.flatR]at hf

theorem Xh0 (hO:OM w ρ ob):∀(n:Nat) (v:V) (cs:List Value) (y:D),v.repC w ρ cs->V.toD ob n v=some y->y.rep w Xva cs/\y.isAgg=v.isAgg:=by
 intro n
 induction n with
 | zero=>intro v cs y _ h; simp[V.toD]at h
 | succ n ih=>
  have ihT:∀(v:V) (u:Value) (y:D),v.rep w ρ u->V.toD ob n v=some y->(y.isAgg=true/\∃ds,u=.agg ds.toArray/\y.rep w Xva ds)\/(y.isAgg=false/\y.rep w Xva [u]):=by
   intro v u y h e
   rcases h with h | ⟨a,ds,q,r⟩ | ⟨a,r⟩
   ·subst h; cases n<;>simp[V.toD]at e
   ·obtain⟨h1,h2⟩:=ih v ds y r e; exact .inl ⟨h2.trans a,ds,q,h1⟩
   ·obtain⟨h1,h2⟩:=ih v _ y r e; exact .inr ⟨h2.trans a,h1⟩
  have seqT:∀(vs:List V) (us:List Value) (l:List D),V.reps w ρ vs us->Xah (V.toD ob n) vs=some l->D.repT w Xva l us:=by
   intro vs
   induction vs with
   | nil=>intro us l h e; simp only[Xah]at e; cases e; simpa only[V.reps,D.repT]using h
   | cons v r ihr=>
    intro us l h e
    simp only[V.reps]at h
    obtain⟨u,us',rfl,h1,h2⟩:=h
    simp only[Xah]at e
    split at e
    ·rename_i y hy
     split at e
     ·rename_i l' hl; cases e
      simp only[D.repT]
      exact⟨u,us',rfl,ihT v u y h1 hy,ihr us' l' h2 hl⟩
     ·cases e
    ·cases e
  have Yjo:∀(vs:List V) (cs:List Value) (l:List D),V.repCs w ρ vs cs->Xah (V.toD ob n) vs=some l->D.repL w Xva l cs:=by
   intro vs
   induction vs with
   | nil=>intro us l h e; simp only[Xah]at e; cases e; simpa only[V.repCs,D.repL]using h
   | cons v r ihr=>
    intro cs l h e
    simp only[V.repCs]at h
    obtain⟨c1,c2,rfl,h1,h2⟩:=h
    simp only[Xah]at e
    split at e
    ·rename_i y hy
     split at e
     ·rename_i l' hl; cases e
      simp only[D.repL]
      exact⟨c1,c2,rfl,(ih v c1 y h1 hy).1,ihr c2 l' h2 hl⟩
     ·cases e
    ·cases e
  intro v cs y h e
  cases v with
  | d x=>
   simp only[V.toD]at e; cases e
   simp only[V.repC]at h
   exact⟨D.rep_mono X42 _ _ h,by cases y<;>rfl⟩
  | ptr id p=>
   simp only[V.toD]at e
   cases hat:atO ob id p with
   | none=>rw[hat]at e; simp only[refO]at e; cases e
   | some t=>
    simp only[hat,refO,Option.map_eq_some_iff]at e
    obtain⟨z,hz,rfl⟩:=e
    obtain⟨t0,b,cs0,E,g1,g2,g3,g4,g5⟩:=Qg hO hat
    have hr:(V.ptr id p).rep w ρ (cs.headD undef):=by
     have hl:=V.repC_len _ _ h
     simp[V.shape,Sh.size]at hl
     obtain⟨c,rfl⟩:=List.length_eq_one_iff.1 hl
     exact .inr (.inr ⟨rfl,by simpa using h⟩)
    obtain⟨b',sh,hρ,hu⟩:=Yk hO g1 hr
    rw[g3]at hρ; cases hρ
    have hl:=V.repC_len _ _ h
    simp[V.shape,Sh.size]at hl
    obtain⟨c,rfl⟩:=List.length_eq_one_iff.1 hl
    simp only[List.headD_cons]at hu
    subst hu
    obtain⟨c1,c2,c3,e1,e2,h5⟩:=V.repC_at p t0 t cs0 g5 g2
    refine⟨?_,rfl⟩
    simp only[D.rep]
    refine⟨_,c2,rfl,rfl,⟨fun _=>⟨rfl,fun h=>h,Xh g4⟩,fun i hi=>?_⟩,(ih t c2 z h5 hz).1⟩
    rw[<-e2]
    simp[World.cell?,g4,e1,List.getElem?_append,hi]
  | sl id k=>
   simp only[V.toD]at e
   unfold Xsj at e
   split at e
   ·rename_i E sz xs hl
    split at e
    ·rename_i hc; cases e
     obtain⟨hsz,rfl⟩:=hc
     simp only[V.repC]at h
     obtain⟨o,u,h1,rfl,h2⟩:=h
     have:=Qn hO hl hsz (u:=u) (by rw[Yj]; exact⟨o,h1,h2⟩)
     rw[Z0 (by simp[V.isAgg]) (by simp)]at this
     simp only[V.repC]at this
     exact⟨D.rep_mono (ow':=Xva) (fun _ _ _=>⟨rfl,fun h=>h⟩) _ _ this,rfl⟩
    ·cases e
   ·cases e
  | fn f fi ca=>
   simp only[V.toD]at e
   split at e
   ·rename_i l m hl hm
    cases e
    simp only[V.repC]at h
    obtain⟨fs,gs,e1,h1,h2⟩:=h
    exact⟨by simp only[D.rep]; exact⟨fs,gs,e1,seqT fi fs l h1 hl,seqT ca gs m h2 hm⟩,rfl⟩
   ·cases e
  | agg xs=>
   simp only[V.toD,Option.map_eq_some_iff]at e
   obtain⟨l,hl,rfl⟩:=e
   simp only[V.repC]at h
   exact⟨by simp only[D.rep]; exact Yjo xs cs l h hl,rfl⟩
  | iface t x=>
   simp only[V.toD,Option.map_eq_some_iff]at e
   obtain⟨z,hz,rfl⟩:=e
   simp only[V.repC]at h
   obtain⟨u,e1,h1⟩:=h
   exact⟨by simp only[D.rep]; exact⟨u,e1,ihT x u z h1 hz⟩,rfl⟩
  | _=>simp[V.toD]at e

theorem Xdr (hO:OM w ρ ob){n:Nat}:∀(vs:List V) (us:List Value) (l:List D),V.reps w ρ vs us->V.toDs ob n vs=some l->D.repT w Xva l us
 | [],us,l,h,e=>by simp only[V.toDs,Xah]at e; cases e; simpa only[V.reps,D.repT]using h
 | v::r,us,l,h,e=>by
  simp only[V.reps]at h
  obtain⟨u,us',rfl,h1,h2⟩:=h
  simp only[V.toDs,Xah]at e
  split at e
  ·rename_i y hy
   split at e
   ·rename_i l' hl; cases e
    simp only[D.repT]
    refine⟨u,us',rfl,?_,Xdr hO r us' l' h2 hl⟩
    rcases h1 with h | ⟨a,ds,q,r⟩ | ⟨a,r⟩
    ·subst h; cases n<;>simp[V.toD]at hy
    ·obtain⟨h1,h2⟩:=Xh0 hO n v ds y r hy; exact .inl ⟨h2.trans a,ds,q,h1⟩
    ·obtain⟨h1,h2⟩:=Xh0 hO n v _ y r hy; exact .inr ⟨h2.trans a,h1⟩
   ·cases e
  ·cases e

theorem PCall.borrow {P:Prg}{f n:Nat}{vs:List V}{ds:List D}{K:V->Prop}(hd:V.toDs ob n vs=some ds)(h:PCall P f (ds.map .d) [] fun v=>v.flatR=true/\K v):PCall P f vs ob K:=by
 refine⟨fun w ρ args hO hg hr=>?_⟩
 let ρ0:Env:=⟨fun _=>none,Xva,ρ.gl⟩
 have hno:∀b,¬own ρ0 b:=fun b h=>h.elim (fun ⟨_,_,h,_⟩=>by cases h) (fun h=>h)
 have hO0:OM w ρ0 []:=⟨fun j x hx=>(by simp[Xe]at hx),fun j o hj=>(by cases hj),fun i j o p b hi=>(by cases hi),fun b hb=>hb.elim,fun b o hb=>⟨(hO.glb b o hb).1,hno b⟩,fun b hb=>absurd (.inl hb) (hno b),trivial⟩
 have hr0:V.reps w ρ0 (ds.map .d) args:=by
  rw[Xdl]
  have:=Xdr hO vs args ds hr hd
  exact D.repT_mono (ow:=Xva) (fun _ _ _=>⟨rfl,hno _⟩) _ _ this
 refine (h.run w ρ0 args hO0 hg hr0).mono fun e w' ⟨v,u,⟨k1,k2⟩,he,r,x⟩=>⟨v,u,k2,he,V.flatR_rep k1 r,x⟩
theorem PCall.data {P:Prg}{f:Nat}{vs:List V}{ds:List D}{K:V->Prop}(hd:vs=ds.map .d)(h:PCall P f (ds.map .d) ob K):PCall P f vs ob K:=by subst hd; exact h
end

section
variable (ob:Xa) (n k f:Nat) (x:D) (v:V) (vs:List V) (p:List Nat)
@[simp] theorem toD_d:V.toD ob (n+1) (.d x)=some x:=by simp only[V.toD]
@[simp] theorem toD_ptr:V.toD ob (n+1) (.ptr k p)=refO (V.toD ob n) (atO ob k p):=by simp only[V.toD]
@[simp] theorem toD_sl (m:Nat):V.toD ob (n+1) (.sl k m)=Xsj m (Xe ob k):=by simp only[V.toD]
@[simp] theorem lentO_s (m E sz:Nat)(xs:List D):Xsj m (some (.arr E sz xs))=if sz ≠ 0/\m=xs.length then some (.list sz xs) else none:=by simp only[Xsj]
@[simp] theorem refO_s (g:V->Option D):refO g (some v)=(g v).map .ref:=by simp only[refO]
def fnO (f:Nat):Option (List D)->Option (List D)->Option D
 | some l,some m=>some (.fn f l m)
 | _,_=>none
@[simp] theorem toD_fn (l l':List V):V.toD ob (n+1) (.fn f l l')=fnO f (Xah (V.toD ob n) l) (Xah (V.toD ob n) l'):=by
 simp only[V.toD]; cases Xah (V.toD ob n) l<;>cases Xah (V.toD ob n) l'<;>rfl
@[simp] theorem fnO_ss (l l':List D):fnO f (some l) (some l')=some (.fn f l l'):=by simp only[fnO]
@[simp] theorem toD_agg:V.toD ob (n+1) (.agg vs)=(Xah (V.toD ob n) vs).map .agg:=by simp only[V.toD]
@[simp] theorem toDs_eq:V.toDs ob n vs=Xah (V.toD ob n) vs:=by simp only[V.toDs]
@[simp] theorem seqO_nil {α β:Type}(g:α->Option β):Xah g []=some []:=by simp only[Xah]
def Yjo {β:Type}:Option β->Option (List β)->Option (List β)
 | some y,some l=>some (y::l)
 | _,_=>none
@[simp] theorem seqO_cons {α β:Type}(g:α->Option β)(a:α)(l:List α):Xah g (a::l)=Yjo (g a) (Xah g l):=by
 simp only[Xah]; cases g a<;>cases Xah g l<;>rfl
@[simp] theorem seqC_ss {β:Type}(y:β)(l:List β):Yjo (some y) (some l)=some (y::l):=by simp only[Yjo]
end
attribute [simp] D.flat D.flats V.flat V.flatR
end Go.Ab
namespace Go.Ab
open Go


structure DCall (P:Prg)(f:Nat)(vs:List V)(ob:Xa)(rv:Option V)(K:Xa->Prop):Prop where
 ret:rv=none->∀w ρ args,OM w ρ ob->ρ.gl=P.g->V.reps w ρ vs args->CallsD P.p f args.toArray .returning w (fun e u w'=>(∃v,e=.returned v)/\u=.returning/\∃ob' ρ',K ob'/\OM w' ρ' ob'/\Tr w ρ w' ρ')
 pan:∀v,rv=some v->∀w ρ args x,OM w ρ ob->ρ.gl=P.g->V.reps w ρ vs args->v.rep w ρ x->(∃t y,x=.iface t y)->CallsD P.p f args.toArray (.panicking [{ v:=x,recovered:=false }]) w
  (fun e u w'=>(∃v,e=.returned v)/\u=.panicking [{ v:=x,recovered:=true }]/\∃ob' ρ',K ob'/\OM w' ρ' ob'/\Tr w ρ w' ρ')

def I.plain:I->Bool
 | .c _ | .box _ _ | .alloc _ _ | .bls _ _ _ | .blo _ _ _ _ | .blv _ _ _ _ | .st _ _ _=>true
 | _=>false
def It.plain:It->Bool
 | .op _ i=>i.plain
 | .gop _ _ _ i=>i.plain
theorem Xu0 {P:Program}{o:Oper}{a:Act}{w:World}{next:Act->World->Prop}{Q:Exit->Act->World->Prop}(h:wpA P o a w next Q)(hn:∀l f t x y w',(execOp a.eval o).run P w ≠ .ok (.round l f t x y) w'):o.wp P a w next Q:=by
 unfold wpA at h
 unfold Oper.wp
 generalize (execOp a.eval o).run P w=r at h hn
 cases r with
 | ok n w'=>cases n<;>first | exact h | exact (h:False).elim | exact absurd rfl (hn _ _ _ _ _ _)
 | halt x w'=>cases x<;>exact h
theorem U8 {P:Program}{w w':World}{s:Sem Value}{l f:Nat}{t:Array Value}{x y:Code}:(do let v <-s; pure (Next.value v):Sem Next).run P w ≠ .ok (.round l f t x y) w':=by
 intro h
 rw[Sem.run_bind]at h
 cases hs:s.run P w with
 | ok v w2=>simp[hs]at h
 | halt q w2=>simp[hs]at h
theorem Xhz {P:Program}{w w':World}{s:Sem Unit}{l f:Nat}{t:Array Value}{x y:Code}:(do s; pure Next.skip:Sem Next).run P w ≠ .ok (.round l f t x y) w':=by
 intro h
 rw[Sem.run_bind]at h
 cases hs:s.run P w with
 | ok v w2=>simp[hs]at h
 | halt q w2=>simp[hs]at h
theorem Q0 {P:Prg}{w:World}{ρ:Env}{sl:Xd}{ob:Xa}{a:Act}{K Pn:V->Xa->Prop}{o:Oper}{i:I}(hs:SM w ρ sl a)(hO:OM w ρ ob)(hp:i.plain=true)(hc:i.chk P.p o.op=true)(h:i.wp P sl ob K Pn)(l f:Nat)(t:Array Value)(x y:Code)(w':World) :
  (execOp a.eval o).run P.p w ≠ .ok (.round l f t x y) w':=by
 cases i<;>simp only[I.plain,Bool.false_eq_true]at hp
 case c cc=>
  obtain⟨v,z,_,_,hrun⟩:=C.sound hs hO hc (by simpa only[I.wp]using h)
  rw[hrun o rfl w (fun _=>Ext.refl w)]
  simp
 case box=>
  obtain⟨id,op,b1,b2,b3,b4⟩:=o
  cases op<;>simp only[I.chk,Bool.false_eq_true]at hc
  exact U8
 case alloc=>
  obtain⟨id,op,b1,b2,b3,b4⟩:=o
  cases op<;>simp only[I.chk,Bool.false_eq_true]at hc
  exact U8
 case st=>
  obtain⟨id,op,b1,b2,b3,b4⟩:=o
  cases op<;>simp only[I.chk,Bool.false_eq_true]at hc
  exact Xhz
 all_goals
  obtain⟨id,op,b1,b2,b3,b4⟩:=o
  cases op<;>simp only[I.chk,Xcx,Bool.false_eq_true]at hc
  exact U8

def Yjl:Op->Bool
 | .call { callee:=.builtin .recover,.. }=>true
 | _=>false
def Xf6 (P:Program)(f n k:Nat)(its:List It)(s:S):Bool:=match P.funcs[f]? with
 | some fn=>match fn.body with
  | some (.seq (.region _ ops false) code)=>match ops.toList with
   | o::os=>decide (n<=fn.ntmps)&&decide (k<fn.ntmps)&&Yjl o.op&&o.dst==some k&&o.guard.isNone&&Z8 P fn.ntmps ops os its&&its.all It.plain&&S.chk P fn.ntmps code s&&s.noR&&fn.results.isEmpty
   | []=>false
  | _=>false
 | none=>false

def dQ (n:Nat)(K:Xa->Prop):Y0
 | .normal,_,ob=>Yd n K [] ob
 | .ret,_,ob=>Yd n K [] ob
 | .panic _,_,_=>False
 | .exit _,_,_=>False

theorem U0 {P:Prg}{c:Ctx}(hg:P.g=c.g){xo:Nat->Prop}{ops:Array Oper}{cs:List Frame}{Q:Exit->Act->List Frame->World->Prop}{K:Xd->Xa->Prop}
  (hK:∀sl ob ρ a w,K sl ob->Mod c xo ρ sl ob a w->Q .normal a cs w) :
  ∀(l:List Oper) (j:Nat) (its:List It) (sl:Xd) (ob:Xa) (ρ:Env) (a:Act) (w:World),ops.toList.drop j=l->Z8 P.p c.N ops l its=true->its.all It.plain=true->rwp P K (fun _ _ _=>False) its sl ob->Mod c xo ρ sl ob a w->wpOpsS P.p ops Q (List.range' j l.length) a cs w
 | [],j,[],sl,ob,ρ,a,w,_,_,_,h,m=>by simp only[List.length_nil,List.range'_zero,wpOpsS]; exact hK sl ob ρ a w h m
 | o::r,j,i::s,sl,ob,ρ,a,w,hd,hc,hp,h,m=>by
  simp only[List.all_cons,Bool.and_eq_true]at hp
  obtain⟨hp1,hp⟩:=hp
  simp only[Z8,Bool.and_eq_true]at hc
  obtain⟨h1,h2⟩:=hc
  have hj:ops[j]? = some o:=by
   have:=congrArg (·[0]?) hd
   simpa using this
  have hd':ops.toList.drop (j+1)=r:=by
   have:=congrArg (List.drop 1) hd
   simpa[List.drop_drop]using this
  have step:∀(d:Option Nat) (x:I) (sl:Xd),x.plain=true->SM w ρ sl a->Jl c.N o.dst d=true->x.chk P.p o.op=true->x.wp P sl ob (fun v ob'=>rwp P K (fun _ _ _=>False) s (put sl d v) ob') (fun v ob'=>False)->
    o.wp P.p a w (fun a' w'=>wpOpsS P.p ops Q (List.range' (j+1) r.length) a' cs w') (fun e a' w'=>Q e a' cs w'):=by
   intro d x sl hpx hs hd hx hw
   refine Xu0 ?_ (Q0 hs m.om hpx hx hw)
   refine I.sound (m.gl.trans hg.symm) hs m.om hx hw o rfl _ _ (fun v y ob' w' ρ' hk hr ho t=>?_) (fun u y ob' w' ρ' hk hr ho t=>hk.elim)
   obtain⟨g1,g2,g3⟩:=Xn hd m.size (hs.tr t) hr
   exact U0 hg hK r (j+1) s _ ob' ρ' _ w' hd' h2 hp hk ⟨m.base.tr t,ho,g1,g2,(m.df.tr t).put g3,t.xo.trans m.xo,t.gl.trans m.gl⟩
  have fin:o.wp P.p a w (fun a' w'=>wpOpsS P.p ops Q (List.range' (j+1) r.length) a' cs w') (fun e a' w'=>Q e a' cs w')->Region.wanted o (yielded ops a.tmps)=true->wpOpsS P.p ops Q (List.range' j (r.length+1)) a cs w:=by
   intro hw hwant
   rw[List.range'_succ]
   simp only[wpOpsS,hj,hwant,if_true]
   unfold Oper.wp at hw
   split
   ·rename_i w' hrun
    rw[hrun]at hw
    exact hw.elim
   ·exact hw
  simp only[List.length_cons]
  cases i with
  | op d x=>
   simp only[It.chk,Bool.and_eq_true,Option.isNone_iff_eq_none]at h1
   simp only[rwp]at h
   exact fin (step d x sl hp1 m.sm h1.1.1 h1.2 h) (by simp[Region.wanted,h1.1.2])
  | gop g want d x=>
   simp only[It.chk,Bool.and_eq_true]at h1
   simp only[rwp]at h
   rcases Zt (ops:=ops) m.sm h1.1.2 h with⟨hw,sl',hs,h⟩ | ⟨hw,sl',hs,h⟩
   ·exact fin (step d x sl' hp1 hs h1.1.1 h1.2 h) hw
   ·rw[List.range'_succ]
    simp only[wpOpsS,hj,hw,Bool.false_eq_true,if_false]
    obtain⟨g1,g2,g3⟩:=Xn h1.1.1 m.size hs (Yw.2 rfl)
    exact U0 hg hK r (j+1) s _ ob ρ _ w hd' h2 hp h ⟨m.base,m.om,g1,g2,m.df.put g3,m.xo,m.gl⟩
 | [],_,_::_,_,_,_,_,_,_,hc,_,_,_=>by simp[Z8]at hc
 | _::_,_,[],_,_,_,_,_,_,hc,_,_,_=>by simp[Z8]at hc

theorem Xc1 {P:Prg}(hm:P.p.follows .mixedOrders=true){f k:Nat}{its:List It}{keep:List Nat}{s:S}{vs:List V}{ob:Xa}{rv:Option V}{K:Xa->Prop}(hc:Xf6 P.p f vs.length k its s=true)
  (h:rwp P (fun sl ob'=>cwp P s (dQ (Xb ob) K) (Xk sl keep) ob') (fun _ _ _=>False) its ((k,rv.getD (.d .nili))::Vb 0 vs) ob):DCall P f vs ob rv K:=by
 unfold Xf6 at hc
 split at hc
 ·rename_i fn hf
  split at hc
  ·rename_i id ops code hb
   split at hc
   ·rename_i o os hops
    simp only[Bool.and_eq_true,decide_eq_true_eq,Option.isNone_iff_eq_none,beq_iff_eq]at hc
    obtain⟨⟨⟨⟨⟨⟨⟨⟨⟨hn,hk⟩,hrec⟩,hdst⟩,hgd⟩,hits⟩,hpl⟩,hs⟩,hnr⟩,hres⟩:=hc
    have hemp:fn.results=#[]:=by simpa using hres
    have hres':∀(t:Array Value) (w:World),(results fn t).run P.p w=.ok (.tuple #[]) w:=fun t w=>by simp[results,hemp]
    have hop:∃args ts,o.op=.call { callee:=.builtin .recover,args:=args,argTypes:=ts }:=by
     revert hrec; generalize o.op=op; intro hrec
     unfold Yjl at hrec
     split at hrec
     ·exact⟨_,_,rfl⟩
     ·simp at hrec
    obtain⟨rargs,rts,hop⟩:=hop
    have hrun:∀(a:Act) (w:World),(execOp a.eval o).run P.p w=.ok .recover w:=fun a w=>by
     simp[execOp,hop,resolve,invoke,builtin]
    have ho0:ops[0]? = some o:=by
     have:=congrArg (·[0]?) hops; simpa using this
    have hsize:ops.size=os.length+1:=by
     have:=congrArg List.length hops; simpa using this
    have hdrop:ops.toList.drop 1=os:=by rw[hops]; rfl
    have key:∀w ρ args,OM w ρ ob->ρ.gl=P.g->V.reps w ρ vs args->∀(u u':FrameMode) (x:Value),(rv.getD (.d .nili)).rep w ρ x->
      (∀(c0:Frame) (cs:List Frame),c0.mode=u->(recoverD (c0::cs)=some (x,{ c0 with mode:=u' }::cs))\/(recoverD (c0::cs)=none/\x=.nilIface/\u'=u))->
      CallsD P.p f args.toArray u w (fun e v w'=>(∃v,e=.returned v)/\v=u'/\∃ob' ρ',K ob'/\OM w' ρ' ob'/\Tr w ρ w' ρ'):=by
     intro w ρ args hO hg hr u u' x hx hrecD
     refine callsD_of_wpS hf hb fun c0 cs hc0=>?_
     let c:Ctx:=⟨w,Xav ρ,fn.ntmps,[],P.g,ρ.m,[],false⟩
     have hlen:args.length=vs.length:=by simpa using Yq hr
     have m:Mod c ρ.xo ρ (Vb 0 vs) ob { tmps:=args.toArray++Array.replicate (fn.ntmps-args.toArray.size) undef,defers:=[] } w:=by
      refine⟨⟨Nat.le_refl _,fun _ _ _=>rfl,fun b h=>.inr h,rfl,rfl,rfl,fun id o h=>⟨o,h,.refl o⟩,(fun p hp=>by cases hp),Nat.le_refl _⟩,hO,?_,?_,Dfr.nil,rfl,hg⟩
      ·refine Vc hr 0 _ (fun i hi=>?_)
       simp[Array.getElem?_append,hi]
      ·simp[c]; omega
     have hout:∀(e:Exit) (a':Act) (w':World) cs',cs'={ c0 with mode:=u' }::cs->lift c ρ.xo (dQ (Xb ob) K) e a' w'->bodyPostS P.p fn c0 cs (fun e v w'=>(∃v,e=.returned v)/\v=u'/\∃ob' ρ',K ob'/\OM w' ρ' ob'/\Tr w ρ w' ρ') e a' cs' w':=by
      rintro e a' w' cs' rfl ⟨ae,sl',ob',ρ',hq,he,m'⟩
      have old:∀kp id o,ρ.m id=some o->Xf (Xb ob) kp id=false:=fun kp id o h0=>by
       obtain⟨x,hx⟩:=hO.dom id o h0
       have hlt:¬Xb ob<=id:=fun hle=>by rw[X5 _ _ hle]at hx; cases hx
       simp[Xf,hlt]
      have tr:∀kp,Tr w ρ w' (ρ'.del (Xf (Xb ob) kp)):=fun kp=>by
       have b2:=m'.base
       refine⟨b2.size,fun b h1 h2=>b2.keep b h2 h1,fun b h1=>(b2.owns b (Zy h1)).symm,?_,?_,fun id o h1=>?_,b2.tape,b2.os,b2.out,b2.drawn⟩
       ·show ρ'.xo=ρ.xo; rw[m'.xo]
       ·show ρ'.gl=ρ.gl; rw[m'.gl,hg]
       ·obtain⟨o',h3,h4⟩:=b2.same id o h1
        exact⟨o',by simp only[Env.del,old kp id o h1]; exact h3,h4⟩
      have hfin:Yd (Xb ob) K [] ob'->a'.defers=[]/\∃u'',{ c0 with mode:=u' }::cs={ c0 with mode:=u'' }::cs/\∃v,(results fn a'.tmps).run P.p w'=.ok v w'/\((∃v',Ending.returned v=.returned v')/\u''=u'/\∃ob' ρ',K ob'/\OM w' ρ' ob'/\Tr w ρ w' ρ'):=by
       rintro⟨kp,_,k2,k3⟩
       exact⟨m'.df.eq rfl,u',rfl,_,hres' _ _,⟨_,rfl⟩,rfl,_,_,k3,m'.om.del k2,tr kp⟩
      cases ae with
      | normal=>cases e<;>simp only[exM]at he; exact hfin hq
      | ret=>cases e<;>simp only[exM]at he; exact hfin hq
      | exit n=>exact hq.elim
      | panic v=>exact hq.elim
     refine wpS_seq (wpS_region ?_)
     have hrange:List.range ops.size=0::List.range' 1 os.length:=by
      rw[List.range_eq_range',hsize,List.range'_succ]
     rw[hrange]
     have hwant:∀a:Act,Region.wanted o (yielded ops a.tmps)=true:=fun a=>by simp[Region.wanted,hgd]
     have hput:∀cs':List Frame,cs'={ c0 with mode:=u' }::cs->wpOpsS P.p ops (Exit.thenS (code.wpS P.p (bodyPostS P.p fn c0 cs (fun e v w'=>(∃v,e=.returned v)/\v=u'/\∃ob' ρ',K ob'/\OM w' ρ' ob'/\Tr w ρ w' ρ'))) (bodyPostS P.p fn c0 cs (fun e v w'=>(∃v,e=.returned v)/\v=u'/\∃ob' ρ',K ob'/\OM w' ρ' ob'/\Tr w ρ w' ρ'))) (List.range' 1 os.length)
       (({ tmps:=args.toArray++Array.replicate (fn.ntmps-args.toArray.size) undef,defers:=[] }:Act).put o.dst x) cs' w:=by
      intro cs' hcs'
      obtain⟨g1,g2,g3⟩:=Xn (d:=some k) (o:=o.dst) (v:=x) (N:=fn.ntmps) (by simp[Jl,hdst,hk]) m.size m.sm hx
      refine U0 (c:=c) (xo:=ρ.xo) rfl (fun sl ob1 ρ1 a1 w1 hk1 m1=>?_) os 1 its _ ob ρ _ w hdrop hits hpl h ⟨m.base,m.om,g1,g2,m.df.put g3,m.xo,m.gl⟩
      simp only[Exit.thenS]
      exact wpS_of_wp (wp_mono (wpIn_wide.1 (Yf (rd:=none) hm rfl code s _ _ _ ρ1 a1 w1 hs (.inl hnr) hk1 ⟨m1.base,m1.om,m1.sm.keep keep,m1.size,m1.df,m1.xo,m1.gl⟩)) (fun e a' w' hl=>hout e a' w' cs' hcs' hl))
     have hwant0:Region.wanted o (yielded ops (args.toArray++Array.replicate (fn.ntmps-args.toArray.size) undef))=true:=hwant { tmps:=args.toArray++Array.replicate (fn.ntmps-args.toArray.size) undef,defers:=[] }
     simp only[wpOpsS,ho0,hwant0,if_true,hrun]
     rcases hrecD c0 cs hc0 with hr1 | ⟨hr1,hx1,hu1⟩
     ·rw[hr1]; exact hput _ rfl
     ·rw[hr1]
      subst hx1
      refine hput _ ?_
      subst hu1; cases c0; simp only at hc0; subst hc0; rfl
    refine⟨fun he w ρ args hO hg hr=>?_,fun v he w ρ args x hO hg hr hx hix=>?_⟩
    ·subst he
     exact key w ρ args hO hg hr .returning .returning .nilIface (Xaw.2 rfl) (fun c0 cs hc0=>.inr ⟨by simp[recoverD,hc0],rfl,rfl⟩)
    ·subst he
     exact key w ρ args hO hg hr _ _ x hx (fun c0 cs hc0=>.inl (by simp[recoverD,hc0]))
   ·simp at hc
  ·simp at hc
 ·simp at hc


inductive FSt where
 | pre (s:S) (r:FSt)
 | dfr (its:List It) (keep:List Nat) (k:Nat) (s:S)

def X9r (k:Nat):Op->Bool
 | .defer { callee:=.value (.tmp j),args:=args,.. }=>j==k&&args.isEmpty
 | _=>false
def FSt.chk (P:Program)(N:Nat):Code->FSt->Bool
 | .seq a b,.pre s r=>S.chk P N a s&&s.noR&&FSt.chk P N b r
 | .seq (.region _ ops false) b,.dfr its _ k s=>match ops.toList.reverse with
  | o::os=>X9r k o.op&&o.dst.isNone&&o.guard.isNone&&Z8 P N ops os.reverse its&&its.all It.plain&&S.chk P N b s&&s.noR
  | []=>false
 | _,_=>false

def Xd7 (P:Prg)(g:Nat)(cl:List V)(rs:List RV)(K:V->Prop):Y0
 | .normal,sl,ob=>DCall P g cl ob none fun ob'=>Wj sl ob' rs fun vs=>Wm (fun l _=>K (Wk (l.map .d))) (V.givs ob' vs)
 | .ret,sl,ob=>DCall P g cl ob none fun ob'=>Wj sl ob' rs fun vs=>Wm (fun l _=>K (Wk (l.map .d))) (V.givs ob' vs)
 | .panic v,sl,ob=>(∃t y,v=.iface t y\/∃z,v=.d (.iface t z))/\DCall P g cl ob (some v) fun ob'=>Wj sl ob' rs fun vs=>Wm (fun l _=>K (Wk (l.map .d))) (V.givs ob' vs)
 | .exit _,_,_=>False
def X9q (P:Prg)(s:S)(rs:List RV)(K:V->Prop)(sl:Xd)(ob:Xa):V->Prop
 | .fn g fi ca=>Xm P.p g=true/\cwp P s (Xd7 P g (fi++ca) rs K) sl ob
 | _=>False
def fwp (P:Prg)(rs:List RV)(K:V->Prop):FSt->Xd->Xa->Prop
 | .pre s r,sl,ob=>cwp P s (Wz (fwp P rs K r) (Js rs K)) sl ob
 | .dfr its keep k s,sl,ob=>rwp P (fun sl ob=>X9q P s rs K (Xk sl keep) ob (look (Xk sl keep) k)) (fun _ _ _=>False) its sl ob

def Xgj (P:Program)(f n:Nat)(s:FSt)(rs:List RV):Bool:=match P.funcs[f]? with
 | some fn=>match fn.body with
  | some code=>decide (n<=fn.ntmps)&&FSt.chk P fn.ntmps code s&&Up P fn.results.toList rs
  | none=>false
 | none=>false

theorem Xbr {P:Prg}{c:Ctx}(hg:P.g=c.g){xo:Nat->Prop}{ops:Array Oper}{Q:Exit->Act->World->Prop}{K:Xd->Xa->Prop}{l':List Oper}
  (hK:∀sl ob ρ a w,K sl ob->Mod c xo ρ sl ob a w->wpList P.p ops Q l' a w) :
  ∀(l:List Oper) (its:List It) (sl:Xd) (ob:Xa) (ρ:Env) (a:Act) (w:World),Z8 P.p c.N ops l its=true->its.all It.plain=true->rwp P K (fun _ _ _=>False) its sl ob->Mod c xo ρ sl ob a w->wpList P.p ops Q (l++l') a w
 | [],[],sl,ob,ρ,a,w,_,_,h,m=>by simp only[List.nil_append]; exact hK sl ob ρ a w h m
 | o::r,i::s,sl,ob,ρ,a,w,hc,hp,h,m=>by
  simp only[List.all_cons,Bool.and_eq_true]at hp
  obtain⟨hp1,hp⟩:=hp
  simp only[Z8,Bool.and_eq_true]at hc
  obtain⟨h1,h2⟩:=hc
  have step:∀(d:Option Nat) (x:I) (sl:Xd),x.plain=true->SM w ρ sl a->Jl c.N o.dst d=true->x.chk P.p o.op=true->x.wp P sl ob (fun v ob'=>rwp P K (fun _ _ _=>False) s (put sl d v) ob') (fun v ob'=>False)->o.wp P.p a w (wpList P.p ops Q (r++l')) Q:=by
   intro d x sl hpx hs hd hx hw
   refine Xu0 ?_ (Q0 hs m.om hpx hx hw)
   refine I.sound (m.gl.trans hg.symm) hs m.om hx hw o rfl _ _ (fun v y ob' w' ρ' hk hr ho t=>?_) (fun u y ob' w' ρ' hk hr ho t=>hk.elim)
   obtain⟨g1,g2,g3⟩:=Xn hd m.size (hs.tr t) hr
   exact Xbr hg hK r s _ ob' ρ' _ w' h2 hp hk ⟨m.base.tr t,ho,g1,g2,(m.df.tr t).put g3,t.xo.trans m.xo,t.gl.trans m.gl⟩
  simp only[List.cons_append]
  cases i with
  | op d x=>
   simp only[It.chk,Bool.and_eq_true,Option.isNone_iff_eq_none]at h1
   simp only[rwp]at h
   simp only[wpList,Region.wanted,h1.1.2,if_true]
   exact .inl (step d x sl hp1 m.sm h1.1.1 h1.2 h)
  | gop g want d x=>
   simp only[It.chk,Bool.and_eq_true]at h1
   simp only[rwp]at h
   simp only[wpList]
   rcases Zt (ops:=ops) m.sm h1.1.2 h with⟨hw,sl',hs,h⟩ | ⟨hw,sl',hs,h⟩
   ·rw[if_pos hw]
    exact .inl (step d x sl' hp1 hs h1.1.1 h1.2 h)
   ·rw[hw]
    simp only[Bool.false_eq_true,if_false]
    obtain⟨g1,g2,g3⟩:=Xn h1.1.1 m.size hs (Yw.2 rfl)
    exact Xbr hg hK r s _ ob ρ _ w h2 hp h ⟨m.base,m.om,g1,g2,m.df.put g3,m.xo,m.gl⟩
 | [],_::_,_,_,_,_,_,hc,_,_,_=>by simp[Z8]at hc
 | _::_,[],_,_,_,_,_,hc,_,_,_=>by simp[Z8]at hc

section
variable {P:Prg} {w0:World} {ρ0:Env}
def Xyx (w0:World)(ρ0:Env)(K:V->Prop):Ending->World->Prop:=fun e w'=>∃v u,K v/\e=.returned u/\v.rep w' ρ0 u/\Ext w0 w'
theorem Xlu {c:Ctx}(h0:c.w0=w0)(hex:∀b,¬c.ex b){w':World}{ρ':Env}{sl:Xd}{ob:Xa}{a:Act}{fn:Func}{rs:List RV}{K:V->Prop}(hb:Base c w' ρ')(ho:OM w' ρ' ob)(hs:SM w' ρ' sl a)(hx:ρ'.xo=own ρ0)
  (hc:Up P.p fn.results.toList rs=true) (h:Wj sl ob rs fun vs=>Wm (fun l _=>K (Wk (l.map .d))) (V.givs ob vs)):∃v,(results fn a.tmps).run P.p w'=.ok v w'/\Xyx w0 ρ0 K (.returned v) w':=by
 obtain⟨vs,us,hk,hrep,hrun⟩:=Zv (P:=P.p) (fn:=fn) hs ho hc h
 cases hgv:V.givs ob vs with
 | none=>simp[hgv,Wm]at hk
 | some q=>
  obtain⟨l,ob2⟩:=q
  simp only[hgv,Wm]at hk
  obtain⟨ρ2,t2,o2,hr2⟩:=Ud vs us ho hrep hgv
  have mo2:Xfj w' (own ρ2) w' (own ρ0):=fun b h1 _=>⟨rfl,fun h2=>h1 (.inr (by rw[t2.xo,hx]; exact h2))⟩
  have hrep':=Vy mo2 _ _ l rfl hr2
  have hext:Ext w0 w':=by subst h0; exact⟨hb.size,fun b h=>hb.keep b h (hex b),hb.tape,hb.os,hb.out,hb.drawn⟩
  exact⟨Xob us,hrun,Wk (l.map .d),Xob us,hk,rfl,W7 hrep',hext⟩

theorem Xgo (hm:P.p.follows .mixedOrders=true){c:Ctx}(hg:P.g=c.g)(h0:c.w0=w0)(hex:∀b,¬c.ex b)(hdf:c.df=[])(hmk:c.mrk=false)(hm0:∀id,c.m0 id=none){fn:Func}{rs:List RV}{K:V->Prop}(hres:Up P.p fn.results.toList rs=true) :
  ∀(code:Code) (s:FSt) (sl:Xd) (ob:Xa) (ρ:Env) (a:Act) (w:World),FSt.chk P.p c.N code s=true->fwp P rs K s sl ob->Mod c (own ρ0) ρ sl ob a w->code.wp P.p (bodyPostD P.p fn (Xyx w0 ρ0 K)) a w
 | .seq x y,.pre s r,sl,ob,ρ,a,w,hc,h,m=>by
  simp only[FSt.chk,Bool.and_eq_true]at hc
  simp only[fwp]at h
  refine wp_seq (wp_mono (wpIn_wide.1 (Yf (rd:=none) hm hg x s _ sl ob ρ a w hc.1.1 (.inl hc.1.2) h m)) ?_)
  rintro e a' w' ⟨ae,sl',ob',ρ',hq,he,m'⟩
  cases ae with
  | normal=>
   cases e<;>simp only[exM]at he
   exact Xgo hm hg h0 hex hdf hmk hm0 hres y r sl' ob' ρ' a' w' hc.2 hq m'
  | exit n=>exact hq.elim
  | ret=>
   cases e<;>simp only[exM]at he
   show Leaves _ _ _ _ a'.defers .returning w'
   rw[m'.df.eq hmk,hdf]
   exact Xlu h0 hex m'.base m'.om m'.sm m'.xo hres hq
  | panic v=>exact hq.elim
 | .seq (.region id ops false) y,.dfr its keep k s,sl,ob,ρ,a,w,hc,h,m=>by
  simp only[FSt.chk]at hc
  split at hc
  ·rename_i o os hops
   simp only[Bool.and_eq_true,Option.isNone_iff_eq_none]at hc
   obtain⟨⟨⟨⟨⟨⟨hop,hdst⟩,hgd⟩,hits⟩,hpl⟩,hs⟩,hnr⟩:=hc
   simp only[fwp]at h
   have hl:ops.toList=os.reverse++[o]:=by
    have:=congrArg List.reverse hops; simpa using this
   refine wp_seq (wp_region_list ?_)
   rw[hl]
   refine Xbr hg (fun sl0 ob1 ρ1 a1 w1 hk m0=>?_) os.reverse its sl ob ρ a w hits hpl h m
   have m1:Mod c (own ρ0) ρ1 (Xk sl0 keep) ob1 a1 w1:=⟨m0.base,m0.om,m0.sm.keep keep,m0.size,m0.df,m0.xo,m0.gl⟩
   generalize Xk sl0 keep=sl1 at hk m1
   unfold X9q at hk
   split at hk
   ·rename_i g fi ca e1
    obtain⟨hcall,hk⟩:=hk
    have hrep:=m1.sm k
    rw[e1]at hrep
    have hrep0:=hrep
    rw[J9]at hrep
    obtain⟨fs,gs,hv,hr1,hr2⟩:=hrep
    obtain⟨args,ts,hop'⟩:∃args ts,o.op=.defer { callee:=.value (.tmp k),args:=args,argTypes:=ts }/\args=#[]:=by
     revert hop; generalize o.op=op; intro hop
     unfold X9r at hop
     split at hop
     ·simp only[Bool.and_eq_true,beq_iff_eq]at hop
      obtain⟨rfl,hop⟩:=hop
      exact⟨_,_,rfl,by simpa using hop⟩
     ·simp at hop
    obtain⟨hop',rfl⟩:=hop'
    let d:Deferred:={ target:=.fn (.func g) gs.toArray,args:=fs.toArray++#[] }
    have hrun:(execOp a1.eval o).run P.p w1=.ok (.defer d) w1:=by
     have:a1.eval (.tmp k)=.func (.func g) fs.toArray gs.toArray:=hv
     simp[execOp,hop',resolve,this,Deferred.ofValue,d]
    simp only[wpList,Region.wanted,hgd,if_true]
    left
    unfold Oper.wp
    rw[hrun]
    simp only[Oper.upon,hdst,Act.put]
    let c2:Ctx:=⟨c.w0,c.ex,c.N,[d],c.g,c.m0,[(.fn g fi ca,.func (.func g) fs.toArray gs.toArray)],false⟩
    have m2:Mod c2 (own ρ0) ρ1 sl1 ob1 { a1 with defers:=d::a1.defers } w1:=by
     refine⟨⟨m1.base.size,m1.base.keep,m1.base.owns,m1.base.tape,m1.base.os,m1.base.out,m1.base.same,fun p hp=>?_,m1.base.drawn⟩,m1.om,m1.sm,m1.size,?_,m1.xo,m1.gl⟩
     ·simp only[c2,List.mem_singleton]at hp
      subst hp
      rw[hv]at hrep0
      exact hrep0
     ·show Dfr c2 w1 ρ1 (d::a1.defers); rw[m1.df.eq hmk,hdf]; exact Dfr.nil (c:=c2)
    show Code.wp _ _ _ _ _
    refine wp_mono (wpIn_wide.1 (Yf (rd:=none) hm (c:=c2) hg y s _ _ _ ρ1 _ w1 hs (.inl hnr) hk m2)) ?_
    rintro e a' w' ⟨ae,sl',ob',ρ',hq,he,m'⟩
    have hclo:V.reps w' ρ' (fi++ca) (fs++gs):=by
     have:=m'.base.ext (.fn g fi ca,.func (.func g) fs.toArray gs.toArray) (by simp[c2])
     simp only at this
     rw[J9]at this
     obtain⟨fs',gs',e2,q1,q2⟩:=this
     simp only[Value.func.injEq,true_and]at e2
     obtain⟨e3,e4⟩:=e2
     have e3:fs=fs':=by simpa using congrArg Array.toList e3
     have e4:gs=gs':=by simpa using congrArg Array.toList e4
     subst e3 e4
     exact reps_append q1 q2
    have hinv:∀w,(invoke d.target d.args).run P.p w=.ok (.enter g (fs++gs).toArray) w:=fun w=>by
     simp only[d,invoke,Ym hcall]
     simp
    have hd:a'.defers=[d]:=m'.df.eq rfl
    have after:∀(w'':World) (ob2:Xa) (ρ2:Env),(Wj sl' ob2 rs fun vs=>Wm (fun l _=>K (Wk (l.map .d))) (V.givs ob2 vs))->OM w'' ρ2 ob2->Tr w' ρ' w'' ρ2->Leaves P.p fn a'.tmps (Xyx w0 ρ0 K) [] .returning w'':=by
     intro w'' ob2 ρ2 hq o2 t2
     exact Xlu (c:=c2) h0 hex (m'.base.tr t2) o2 (m'.sm.tr t2) (t2.xo.trans m'.xo) hres hq
    have hgl:ρ'.gl=P.g:=m'.gl.trans hg.symm
    have hret:DCall P g (fi++ca) ob' none (fun ob'=>Wj sl' ob' rs fun vs=>Wm (fun l _=>K (Wk (l.map .d))) (V.givs ob' vs))->Leaves P.p fn a'.tmps (Xyx w0 ρ0 K) a'.defers .returning w':=by
     intro hq
     rw[hd]
     refine leaves_cons (fv:=.func g) (cap:=gs.toArray) (dargs:=fs.toArray++#[]) (by simp) (hinv w') ((hq.ret rfl w' ρ' (fs++gs) m'.om hgl hclo).mono ?_)
     rintro e u w'' ⟨⟨v,rfl⟩,rfl,ob2,ρ2,k2,o2,t2⟩
     exact after w'' ob2 ρ2 k2 o2 t2
    cases ae with
    | normal=>cases e<;>simp only[exM]at he; exact hret hq
    | ret=>cases e<;>simp only[exM]at he; exact hret hq
    | exit n=>exact hq.elim
    | panic v=>
     cases e<;>simp only[exM]at he
     obtain⟨u,rfl,hu⟩:=he
     obtain⟨⟨t,y,hty⟩,hq⟩:=hq
     have hix:∃t y,u=.iface t y:=by
      rcases hty with rfl | ⟨z,rfl⟩
      ·rw[Z0 (by simp[V.isAgg]) (by simp)]at hu
       simp only[V.repC,List.cons.injEq,and_true]at hu
       obtain⟨c,hu,_⟩:=hu
       exact⟨_,_,hu⟩
      ·rw[Q2]at hu
       obtain⟨c,hu,_⟩:=hu
       exact⟨_,_,hu⟩
     show Leaves _ _ _ _ a'.defers _ w'
     rw[hd]
     refine leaves_cons (fv:=.func g) (cap:=gs.toArray) (dargs:=fs.toArray++#[]) (by simp) (hinv w') ((hq.pan v rfl w' ρ' (fs++gs) u m'.om hgl hclo hu hix).mono ?_)
     rintro e u' w'' ⟨⟨v',rfl⟩,rfl,ob2,ρ2,k2,o2,t2⟩
     exact after w'' ob2 ρ2 k2 o2 t2
   ·exact hk.elim
  ·simp at hc
 | .skip,_,_,_,_,_,_,hc,_,_ | .region _ _ _,_,_,_,_,_,_,hc,_,_ | .cond _ _ _,_,_,_,_,_,_,hc,_,_ | .block _ _,_,_,_,_,_,_,hc,_,_ | .loop _,_,_,_,_,_,_,hc,_,_ | .rangeFunc _ _ _ _,_,_,_,_,_,_,hc,_,_ | .exit _,_,_,_,_,_,_,hc,_,_ | .scope _,_,_,_,_,_,_,hc,_,_ | .label _,_,_,_,_,_,_,hc,_,_ | .goto _,_,_,_,_,_,_,hc,_,_ | .ret,_,_,_,_,_,_,hc,_,_ | .refuse _,_,_,_,_,_,_,hc,_,_=>by simp[FSt.chk]at hc
 | .seq (.region _ _ true) _,.dfr _ _ _ _,_,_,_,_,_,hc,_,_ | .seq .skip _,.dfr _ _ _ _,_,_,_,_,_,hc,_,_ | .seq (.seq _ _) _,.dfr _ _ _ _,_,_,_,_,_,hc,_,_ | .seq (.cond _ _ _) _,.dfr _ _ _ _,_,_,_,_,_,hc,_,_ | .seq (.block _ _) _,.dfr _ _ _ _,_,_,_,_,_,hc,_,_ | .seq (.loop _) _,.dfr _ _ _ _,_,_,_,_,_,hc,_,_ | .seq (.rangeFunc _ _ _ _) _,.dfr _ _ _ _,_,_,_,_,_,hc,_,_ | .seq (.exit _) _,.dfr _ _ _ _,_,_,_,_,_,hc,_,_ | .seq (.scope _) _,.dfr _ _ _ _,_,_,_,_,_,hc,_,_ | .seq (.label _) _,.dfr _ _ _ _,_,_,_,_,_,hc,_,_ | .seq (.goto _) _,.dfr _ _ _ _,_,_,_,_,_,hc,_,_ | .seq .ret _,.dfr _ _ _ _,_,_,_,_,_,hc,_,_ | .seq (.refuse _) _,.dfr _ _ _ _,_,_,_,_,_,hc,_,_=>by simp[FSt.chk]at hc

theorem Xb0 (hm:P.p.follows .mixedOrders=true){f:Nat}{s:FSt}{rs:List RV}{ds:List D}{ob0:Xa}{K:V->Prop}(hc:Xgj P.p f ds.length s rs=true)
  (h:fwp P rs K s (Vb 0 (ds.map .d)) []):PCall P f (ds.map .d) ob0 K:=by
 unfold Xgj at hc
 split at hc
 ·rename_i fn hf
  split at hc
  ·rename_i code hb
   simp only[Bool.and_eq_true,decide_eq_true_eq]at hc
   obtain⟨⟨hn,h1⟩,h2⟩:=hc
   refine⟨fun w ρ args hO hg hr=>?_⟩
   let ρ1:Env:=⟨fun _=>none,own ρ,ρ.gl⟩
   let c:Ctx:=⟨w,fun _=>False,fn.ntmps,[],P.g,fun _=>none,[],false⟩
   have hnone:∀b,¬Xav ρ1 b:=fun b ⟨_,_,h,_⟩=>by cases h
   have hlt:∀b,own ρ b->b<w.heap.size:=fun b h=>h.elim (fun ⟨_,_,h1,h2⟩=>Wr hO h1 h2) (hO.xlt b)
   have mo:Xfj w (own ρ) w (own ρ1):=fun b h1 _=>⟨rfl,fun h2=>h2.elim (hnone b) h1⟩
   have hr0:=Vy mo _ _ ds rfl hr
   have hlen:args.length=ds.length:=by simpa using Yq hr
   have m:Mod c (own ρ) ρ1 (Vb 0 (ds.map .d)) [] { tmps:=args.toArray++Array.replicate (fn.ntmps-args.toArray.size) undef,defers:=[] } w:=by
    refine⟨⟨Nat.le_refl _,fun _ _ _=>rfl,fun b h=>absurd h (hnone b),rfl,rfl,rfl,(fun id o h=>by cases h),(fun p hp=>by cases hp),Nat.le_refl _⟩,⟨fun j x hx=>(by simp[Xe]at hx),fun j o hj=>(by cases hj),fun i j o p b hi=>(by cases hi),fun b hb=>hlt b hb,fun b o hb=>⟨(hO.glb b o hb).1,fun h=>h.elim (hnone b) (hO.glb b o hb).2⟩,fun b hb=>absurd hb (hnone b),trivial⟩,?_,?_,Dfr.nil,rfl,hg⟩
    ·refine Vc hr0 0 _ (fun i hi=>?_)
     simp[Array.getElem?_append,hi]
    ·simp[c]; omega
   exact calls_of_wp_defers hf hb (Xgo (w0:=w) (ρ0:=ρ) hm (c:=c) rfl rfl (fun _ h=>h) rfl rfl (fun _=>rfl) h2 code s _ _ _ _ w h1 h m)
  ·simp at hc
 ·simp at hc
end

inductive FS2 where
 | pre (s:S2) (r:FS2)
 | dfr (l:List It2) (keep:List (Nat×E)) (k:Nat) (s:S2)
def FSt.lift (fs:List Nat):FSt->Option FS2
 | .pre s r=>match s.lift fs,r.lift fs with
  | some s,some r=>some (.pre s r)
  | _,_=>none
 | .dfr its kp k s=>match Jn fs kp [] its [] [] [],s.lift fs with
  | some (l,keep),some s=>some (.dfr l keep k s)
  | _,_=>none
def Xd8 (P:Prg)(T:Tab)(s:S2)(rs:List RV)(K:V->Prop)(sl:Xd)(ob:Xa):V->Prop
 | .fn g fi ca=>Xm P.p g=true/\Y1 P T s (Xd7 P g (fi++ca) rs K) sl ob
 | _=>False
def Xo1 (P:Prg)(T:Tab)(rs:List RV)(K:V->Prop):FS2->Xd->Xa->Prop
 | .pre s r,sl,ob=>Y1 P T s (Wz (Xo1 P T rs K r) (Js rs K)) sl ob
 | .dfr l keep k s,sl,ob=>W9 P T (fun sl ob=>Wf T sl ob keep/\Xd8 P T s rs K (Vw T sl ob keep) ob (look (Vw T sl ob keep) k)) (fun _ _ _=>False) l sl ob

theorem Yt3 {T:Tab}{sl:Xd}{ob:Xa}:Inv T [] sl sl ob:=fun k p e h=>by
 simp[ent,Z6]at h; obtain⟨rfl,rfl⟩:=h; exact⟨fun _=>rfl,fun h=>by cases h⟩

theorem FSt.lift_sound {P:Prg}{T:Tab}(hT:TOk P T){fs:List Nat}{rs:List RV}{K:V->Prop}:∀(s:FSt) {s2:FS2} {sl:Xd} {ob:Xa},s.lift fs=some s2->Xo1 P T rs K s2 sl ob->fwp P rs K s sl ob
 | .pre s r,s2,sl,ob,h,hc=>by
  simp only[FSt.lift]at h
  split at h
  ·rename_i s' r' hs hr
   cases h
   simp only[Xo1]at hc
   simp only[fwp]
   refine S.lift_sound hT s hs (fun e sl ob h=>?_) hc
   cases e with
   | normal=>exact FSt.lift_sound hT r hr h
   | _=>exact h
  ·cases h
 | .dfr its kp k s,s2,sl,ob,h,hc=>by
  simp only[FSt.lift]at h
  split at h
  ·rename_i l keep s' hl hs
   cases h
   simp only[Xo1]at hc
   simp only[fwp]
   have hmono:∀sl ob,Xd8 P T s' rs K sl ob (look sl k)->X9q P s rs K sl ob (look sl k):=fun sl ob h=>by
    unfold Xd8 at h
    split at h
    ·rename_i g fi ca e1
     simp only[X9q,e1]
     exact⟨h.1,S.lift_sound hT s hs (fun _ _ _ h=>h) h.2⟩
    ·exact h.elim
   have:=Yu (pk:=[]) hT (K:=fun sl ob=>Xd8 P T s' rs K sl ob (look sl k)) (K':=fun sl ob=>X9q P s rs K sl ob (look sl k)) (Pn:=fun _ _ _=>False) (Pn':=fun _ _ _=>False) hmono (fun _ _ _ h=>h) its Yt3 hl hc
   exact this
  ·cases h

theorem Xag {P:Prg}{p:Program}(hP:P.p=p)(hm:p.follows .mixedOrders=true){f:Nat}{s:FSt}{rs:List RV}{ds:List D}{ob0:Xa}{K:V->Prop}{fs:List Nat}{s2:FS2}{T:Tab}(hc:Xgj p f ds.length s rs=true)(hl:s.lift fs=some s2)(hT:TOk P T)
  (h:Xo1 P T rs K s2 (Vb 0 (ds.map .d)) []):PCall P f (ds.map .d) ob0 K:=by
 subst hP
 exact Xb0 hm hc (FSt.lift_sound hT s hl h)

theorem Xc0 {P:Prg}{p:Program}(hP:P.p=p)(hm:p.follows .mixedOrders=true){f k:Nat}{its:List It}{s:S}{vs:List V}{ob:Xa}{rv:Option V}{K:Xa->Prop}{fs keep:List Nat}{l:List It2}{kp:List (Nat×E)}{s2:S2}{T:Tab}(hc:Xf6 p f vs.length k its s=true)
  (hl:Jn fs keep [] its [] [] []=some (l,kp)) (hs:s.lift fs=some s2) (hT:TOk P T)
  (h:W9 P T (fun sl ob'=>Wf T sl ob' kp/\Y1 P T s2 (dQ (Xb ob) K) (Vw T sl ob' kp) ob') (fun _ _ _=>False) l ((k,rv.getD (.d .nili))::Vb 0 vs) ob):DCall P f vs ob rv K:=by
 subst hP
 refine Xc1 hm (keep:=keep) hc ?_
 have:=Yu (pk:=[]) hT (K:=fun sl ob'=>Y1 P T s2 (dQ (Xb ob) K) sl ob') (K':=fun sl ob'=>cwp P s (dQ (Xb ob) K) sl ob') (Pn:=fun _ _ _=>False) (Pn':=fun _ _ _=>False) (fun sl ob h=>S.lift_sound hT s hs (fun _ _ _ h=>h) h) (fun _ _ _ h=>h) its Yt3 hl h
 exact this

section
variable (P:Prg) (T:Tab) (sl:Xd) (ob:Xa) (rs:List RV) (K:V->Prop) (KB:Xa->Prop) (n k g:Nat) (v:V) (cl:List V)
@[simp] theorem fwp2_pre (s:S2)(r:FS2):Xo1 P T rs K (.pre s r) sl ob=Y1 P T s (Wz (Xo1 P T rs K r) (Js rs K)) sl ob:=by simp only[Xo1]
@[simp] theorem fwp2_dfr (l:List It2)(kp:List (Nat×E))(s:S2):Xo1 P T rs K (.dfr l kp k s) sl ob=W9 P T (fun sl ob=>Wf T sl ob kp/\Xd8 P T s rs K (Vw T sl ob kp) ob (look (Vw T sl ob kp) k)) (fun _ _ _=>False) l sl ob:=by simp only[Xo1]
@[simp] theorem dfrK2_f (s:S2)(fi ca:List V):Xd8 P T s rs K sl ob (.fn g fi ca)=(Xm P.p g=true/\Y1 P T s (Xd7 P g (fi++ca) rs K) sl ob):=by simp only[Xd8]
@[simp] theorem dferQ_r:Xd7 P g cl rs K .ret sl ob=DCall P g cl ob none fun ob'=>Wj sl ob' rs fun vs=>Wm (fun l _=>K (Wk (l.map .d))) (V.givs ob' vs):=by simp only[Xd7]
theorem X2p:Xd7 P g cl rs K (.panic v) sl ob=((∃t y,v=.iface t y\/∃z,v=.d (.iface t z))/\DCall P g cl ob (some v) fun ob'=>Wj sl ob' rs fun vs=>Wm (fun l _=>K (Wk (l.map .d))) (V.givs ob' vs)):=by simp only[Xd7]
@[simp] theorem dferQ_pd (t:Nat)(z:D):Xd7 P g cl rs K (.panic (.d (.iface t z))) sl ob=DCall P g cl ob (some (.d (.iface t z))) fun ob'=>Wj sl ob' rs fun vs=>Wm (fun l _=>K (Wk (l.map .d))) (V.givs ob' vs):=by
 rw[X2p,eq_iff_iff]; exact⟨fun h=>h.2,fun h=>⟨⟨t,.any,.inr ⟨z,rfl⟩⟩,h⟩⟩
@[simp] theorem dQ_n:dQ n KB .normal sl ob=Yd n KB [] ob:=by simp only[dQ]
@[simp] theorem dQ_p:dQ n KB (.panic v) sl ob=False:=by simp only[dQ]
end
@[congr] theorem DCall_congr {P:Prg}{f:Nat}{vs vs':List V}{ob ob':Xa}{rv rv':Option V}{K:Xa->Prop}(h:vs=vs')(h':ob=ob')(h2:rv=rv'):DCall P f vs ob rv K=DCall P f vs' ob' rv' K:=by rw[h,h',h2]
@[congr] theorem dfrK2_congr {P:Prg}{T:Tab}{s:S2}{rs:List RV}{K:V->Prop}{sl sl':Xd}{ob ob':Xa}{v v':V}(h:sl=sl')(h':ob=ob')(h2:v=v'):Xd8 P T s rs K sl ob v=Xd8 P T s rs K sl' ob' v':=by rw[h,h',h2]
@[congr] theorem fwp2_congr {P:Prg}{T:Tab}{rs:List RV}{K:V->Prop}{s:FS2}{sl sl':Xd}{ob ob':Xa}(h:sl=sl')(h':ob=ob'):Xo1 P T rs K s sl ob=Xo1 P T rs K s sl' ob':=by rw[h,h']
end Go.Ab
namespace Go.Ab
open Go
section
variable {ob:Xa} {n k:Nat} {l:List Nat}
theorem Xzi (h:k<n):Xf n l k=false:=by simp[Xf]; omega
@[simp] theorem Qi (h:Xb ob<=n):Y8 (Xf n l) ob=ob:=by
 induction ob with
 | nil=>rfl
 | cons e r ih=>
  obtain⟨i,y⟩:=e
  simp only[Xb]at h
  have hi:i<n/\Xb r<=n:=by split at h<;>omega
  simp only[Y8,Xzi hi.1,Bool.false_eq_true,if_false,ih hi.2]
@[simp] theorem young_old_add (m:Nat)(h:(Xe ob k).isSome=true):Xf (Xb ob+m) l k=false:=by
 have:k<Xb ob:=by
  rcases Nat.lt_or_ge k (Xb ob) with h1 | h1
  ·exact h1
  ·rw[X5 ob k h1]at h; cases h
 simp[Xf]; omega
mutual
theorem V.men_mono {p q:Nat->Bool}(h:∀j,q j=false->p j=false):∀v:V,V.men q v=false->V.men p v=false
 | .d _,_=>rfl
 | .ptr id _,e=>h id e
 | .sl id _,e=>h id e
 | .sd id _,e=>h id e
 | .mp id,e=>h id e
 | .hd _ id,e=>h id e
 | .ep id _ _ _ _ _,e=>h id e
 | .bs id _ _ _,e=>h id e
 | .fn _ a b,e=>by
  simp only[V.men,Bool.or_eq_false_iff]at e⊢
  exact⟨V.mens_mono h a e.1,V.mens_mono h b e.2⟩
 | .agg xs,e=>by simp only[V.men]at e⊢; exact V.mens_mono h xs e
 | .iface _ v,e=>by simp only[V.men]at e⊢; exact V.men_mono h v e
 | .tup xs,e=>by simp only[V.men]at e⊢; exact V.mens_mono h xs e
 | .undef,_=>rfl
 | .any,_=>rfl
theorem V.mens_mono {p q:Nat->Bool}(h:∀j,q j=false->p j=false):∀xs:List V,V.mens q xs=false->V.mens p xs=false
 | [],_=>rfl
 | x::r,e=>by
  simp only[V.mens,Bool.or_eq_false_iff]at e⊢
  exact⟨V.men_mono h x e.1,V.mens_mono h r e.2⟩
end
theorem Xdg {p q:Nat->Bool}(h:∀j,q j=false->p j=false):∀xs:List (D×V),U2 q xs=false->U2 p xs=false
 | [],_=>rfl
 | (_,x)::r,e=>by
  simp only[U2,Bool.or_eq_false_iff]at e⊢
  exact⟨V.men_mono h x e.1,Xdg h r e.2⟩
theorem noMenO_mono {p q:Nat->Bool}(h:∀j,q j=false->p j=false):∀ob:Xa,Xg q ob=true->Xg p ob=true
 | [],_=>rfl
 | (_,.box _ t)::r,e=>by
  simp only[Xg,Bool.and_eq_true,Bool.not_eq_true']at e⊢
  exact⟨V.men_mono h t e.1,noMenO_mono h r e.2⟩
 | (_,.vec _ _ t)::r,e=>by
  simp only[Xg,Bool.and_eq_true,Bool.not_eq_true']at e⊢
  exact⟨V.mens_mono h t e.1,noMenO_mono h r e.2⟩
 | (_,.map t)::r,e=>by
  simp only[Xg,Bool.and_eq_true,Bool.not_eq_true']at e⊢
  exact⟨Xdg h t e.1,noMenO_mono h r e.2⟩
 | (_,.arr _ _ _)::r,e=>by simp only[Xg]at e⊢; exact noMenO_mono h r e
 | (_,.gone)::r,e=>by simp only[Xg]at e⊢; exact noMenO_mono h r e
 | (_,.lp _ _ t)::r,e=>by
  simp only[Xg,Bool.and_eq_true]at e⊢
  exact⟨Xbw t fun x hx=>V.men_mono h x.2 (Jp t e.1 x hx),noMenO_mono h r e.2⟩
 | (_,.it m _ _)::r,e=>by
  simp only[Xg,Bool.and_eq_true,Bool.not_eq_true']at e⊢
  refine⟨?_,noMenO_mono h r e.2⟩
  cases m with
  | none=>rfl
  | some j=>exact h j e.1
theorem Xtl (h:∀kp,Xg (Xf (Xb ob) kp) ob=true)(hn:Xb ob<=n):Xg (Xf n l) ob=true:=
 noMenO_mono (fun j e=>by simp[Xf]at e⊢; intro hj; exact e (by omega)) ob (h l)
theorem X0 (m:Nat)(h:∀kp,Xg (Xf (Xb ob) kp) ob=true):Xg (Xf (Xb ob+m) l) ob=true:=Xtl h (by omega)
theorem DCall.of_wf {P:Prg}{f:Nat}{vs:List V}{ob:Xa}{rv:Option V}{K:Xa->Prop}(h:(∀kp,V.mens (Xf (Xb ob) kp) vs=false)->(∀kp,Xg (Xf (Xb ob) kp) ob=true)->DCall P f vs ob rv K):DCall P f vs ob rv K:=by
 have key:∀w ρ args,OM w ρ ob->V.reps w ρ vs args->DCall P f vs ob rv K:=fun w ρ args hO hr=>by
  have old:∀kp id o,ρ.m id=some o->Xf (Xb ob) kp id=false:=fun kp id o h0=>by
   obtain⟨x,hx⟩:=hO.dom id o h0
   have hlt:¬Xb ob<=id:=fun hle=>by rw[X5 _ _ hle]at hx; cases hx
   simp[Xf,hlt]
  exact h (fun kp=>V.mens_dom (old kp) _ _ hr) (fun kp=>Zk ob fun e he=>(hO.one e.1 _ (hO.once.look e he)).noMen (old kp))
 exact⟨fun e w ρ args hO hg hr=>(key w ρ args hO hr).ret e w ρ args hO hg hr,fun v e w ρ args x hO hg hr hv hi=>(key w ρ args hO hr).pan v e w ρ args x hO hg hr hv hi⟩
end
end Go.Ab
namespace Go.Ab
open Go
section
variable {P:Prg} {T:Tab} {sl:Xd} {ob:Xa} {K:Xd->Xa->Prop} {Pn:V->Xd->Xa->Prop}
@[simp] theorem zo:owp P K Pn .done sl ob=K sl ob:=by simp only[owp]
@[simp] theorem zp (i:Nat)(x:It)(r:Ot):owp P K Pn (.one i x r) sl ob=itK P (owp P K Pn r) Pn x sl ob:=by simp only[owp]
@[simp] theorem zn (l:Ots):owp P K Pn (.br l) sl ob=Xco P K Pn l sl ob:=by simp only[owp]
@[simp] theorem zr:Xco P K Pn .nil sl ob=True:=by simp only[Xco]
@[simp] theorem zq (i:Nat)(x:It)(r:Ot)(l:Ots):Xco P K Pn (.cons i x r l) sl ob=(itK P (owp P K Pn r) Pn x sl ob/\Xco P K Pn l sl ob):=by simp only[Xco]
@[simp] theorem qr (d:Option Nat)(i:I):itK P K Pn (.op d i) sl ob=i.wp P sl ob (fun v ob'=>K (put sl d v) ob') (fun v ob'=>Pn v sl ob'):=by simp only[itK]
@[simp] theorem qq (s:Nat)(b:Bool)(d:Option Nat)(i:I):itK P K Pn (.gop s b d i) sl ob=gdK s b sl (fun sl=>i.wp P sl ob (fun v ob'=>K (put sl d v) ob') (fun v ob'=>Pn v sl ob')) (fun sl=>K (put sl d .undef) ob) (look sl s):=by simp only[itK]
@[simp] theorem qn (t:Ot)(kp pk:List Nat)(Q:Y0):Y1 P T (.rgT t kp pk) Q sl ob=owp P (fun sl ob=>Q .normal (Xk sl kp) ob) (fun v sl ob=>Q (.panic v) (Xk sl pk) ob) t sl ob:=by simp only[Y1]
variable {KO PO:V->Xa->Prop} {KV:V->Prop}
@[simp] theorem iwp_mkm (r:Option A):I.wp P sl ob KO PO (.mkm r)=(Xu9 sl r/\KO (.mp (Xb ob)) ((Xb ob,.map [])::ob)):=by simp only[I.wp]
@[simp] theorem iwp_lkp (kd z:D)(ok:Bool)(m k:A):I.wp P sl ob KO PO (.lkp kd z ok m k)=Xsk ob kd z ok (fun v=>KO v ob) (m.ev sl) (k.ev sl):=by simp only[I.wp]
@[simp] theorem iwp_mset (kd:D)(m k v:A):I.wp P sl ob KO PO (.mset kd m k v)=Xbu ob kd (v.ev sl) KO (m.ev sl) (k.ev sl):=by simp only[I.wp]
@[simp] theorem zd (g n:Nat)(ag:Bool)(x:D):I.wp P sl ob KO PO (.gld g n ag x)=(GlobIs P g x/\x.sz=n/\(V.d x).isAgg=ag/\KO (.d x) ob):=by simp only[I.wp]
@[simp] theorem mkmK_none:Xu9 sl none=True:=by simp only[Xu9]
@[simp] theorem mkmK_some (x:A):Xu9 sl (some x)=Xgx (x.ev sl):=by simp only[Xu9]
@[simp] theorem isIntV_int (k:IntKind)(n:Int):Xgx (.d (.int k n))=True:=by simp only[Xgx]
@[simp] theorem lkpK_mp (kd z k:D)(ok:Bool)(id:Nat):Xsk ob kd z ok KV (.mp id) (.d k)=Xef kd z ok k KV (Xe ob id):=by simp only[Xsk]
@[simp] theorem lkpKo_map (kd z k:D)(ok:Bool)(es:List (D×V)):Xef kd z ok k KV (some (.map es))=(Xbo kd k es/\KV (Xyk z ok (We k es))):=by simp only[Xef]
@[simp] theorem msetK_mp (kd k:D)(v:V)(id:Nat):Xbu ob kd v KO (.mp id) (.d k)=Qu ob id kd k v KO (Xe ob id):=by simp only[Xbu]
@[simp] theorem msetKo_map (kd k:D)(v:V)(id:Nat)(es:List (D×V)):Qu ob id kd k v KO (some (.map es))=(Xbo kd k es/\v.sto=true/\KO .undef (setO ob id (.map (Xh2 k v es)))):=by simp only[Qu]
@[simp] theorem lkpV_fs (z:D)(v:V):Xyk z false (some v)=v:=by simp only[Xyk]
@[simp] theorem lkpV_fn (z:D):Xyk z false none=.d z:=by simp only[Xyk]
@[simp] theorem findE_nil (k:D):We k []=none:=by simp only[We]
@[simp] theorem Xnq (k j:D)(v:V)(r:List (D×V)):We k ((j,v)::r)=if D.sameKey k j then some v else We k r:=by simp only[We]
@[simp] theorem updE_nil (k:D)(x:V):Xh2 k x []=[(k,x)]:=by simp only[Xh2]
@[simp] theorem cwp_idxV (n z:Nat)(ag:Bool)(x y:A):C.wp sl ob KV (.aix n z ag x y)=Xi2 n z ag KV (x.ev sl) (y.ev sl):=by simp only[C.wp]
@[simp] theorem cval_eqD (ty:KT)(e:Bool)(x y:A):C.val sl ob (.eqD ty e x y)=X8k e (x.ev sl) (y.ev sl):=by simp only[C.val]
@[simp] theorem cval_idxV (n z:Nat)(ag:Bool)(x y:A):C.val sl ob (.aix n z ag x y)=Xny (x.ev sl) (y.ev sl):=by simp only[C.val]
@[simp] theorem eqDV_d (e:Bool)(x y:D):X8k e (.d x) (.d y)=.d (.bool (D.eqb x y==e)):=by simp only[X8k]
@[simp] theorem idxVV_d (k:IntKind)(xs:List D)(n:Int):Xny (.d (.agg xs)) (.d (.int k n))=.d (xs.getD n.toNat default):=by simp only[Xny]
def X96 (ty:KT):V->V->Prop
 | .d x,.d y=>ty.fits x=true/\ty.fits y=true
 | _,_=>False
@[simp] theorem eqDS_d (ty:KT)(x y:D):X96 ty (.d x) (.d y)=(ty.fits x=true/\ty.fits y=true):=by simp only[X96]
@[simp] theorem cok_eqD (ty:KT)(e:Bool)(x y:A):C.ok sl ob (.eqD ty e x y)=X96 ty (x.ev sl) (y.ev sl):=by
 simp only[C.ok,C.wp,C.val]
 generalize x.ev sl=a; generalize y.ev sl=b
 cases a<;>cases b<;>simp[X95,X96,X8k]
end
attribute [simp] D.eqb D.eqbs KT.fits KT.fitss KT.fitsA
@[congr] theorem owp_congr {P:Prg}{K:Xd->Xa->Prop}{Pn:V->Xd->Xa->Prop}{t:Ot}{sl:Xd}{ob:Xa}:owp P K Pn t sl ob=owp P K Pn t sl ob:=rfl
@[congr] theorem itK_congr {P:Prg}{K:Xd->Xa->Prop}{Pn:V->Xd->Xa->Prop}{t:It}{sl:Xd}{ob:Xa}:itK P K Pn t sl ob=itK P K Pn t sl ob:=rfl
@[congr] theorem slgK_congr {ob:Xa}{n z:Nat}{K:V->Xa->Prop}{u u':V}(h0:u=u'):X08 ob n z K u=X08 ob n z K u':=by rw[h0]
@[congr] theorem slgKv_congr {n z:Nat}{K:D->Prop}{u u':Option V}(h0:u=u'):Xof n z K u=Xof n z K u':=by rw[h0]
@[congr] theorem lkpK_congr {ob:Xa}{kd z:D}{ok:Bool}{K:V->Prop}{u u' v v':V}(h0:u=u')(h1:v=v'):Xsk ob kd z ok K u v=Xsk ob kd z ok K u' v':=by rw[h0,h1]
@[congr] theorem lkpKo_congr {kd z k:D}{ok:Bool}{K:V->Prop}{o o':Option Ob}(h0:o=o'):Xef kd z ok k K o=Xef kd z ok k K o':=by rw[h0]
@[congr] theorem msetK_congr {ob:Xa}{kd:D}{x x':V}{K:V->Xa->Prop}{u u' v v':V}(h:x=x')(h0:u=u')(h1:v=v'):Xbu ob kd x K u v=Xbu ob kd x' K u' v':=by rw[h,h0,h1]
@[congr] theorem msetKo_congr {ob:Xa}{id:Nat}{kd k:D}{x:V}{K:V->Xa->Prop}{o o':Option Ob}(h0:o=o'):Qu ob id kd k x K o=Qu ob id kd k x K o':=by rw[h0]
structure Pin {α:Type}(a:α):Type where
 mk::
def Xfn (P:Prg)(f:Nat)(args:List V)(ob:Xa)(K:Out->Xa->Prop)(_:Pin K):Prop:=ACall P f args ob K
def Xo5 (keep:List Nat)(body:Y0->Xd->Xa->Prop)(Q:Y0)(sl:Xd)(ob:Xa)(_:Pin Q)(_:Pin body):Prop:=ALoop keep body Q sl ob
section
variable {P:Prg} {T:Tab} {sl:Xd} {ob:Xa} {KO PO:V->Xa->Prop}
theorem Xw (f:Nat)(l:List A):I.wp P sl ob KO PO (.call f l)=Xfn P f (l.map (A.ev sl)) ob (Xau KO PO) ⟨⟩:=by simp only[I.wp,Xfn]
theorem Xu (vs:List V)(k:Nat)(a1 a2:List V):Wd P vs ob KO PO (.fn k a1 a2)=(Xm P.p k=true/\Xfn P k (a1++vs++a2) ob (Xau KO PO) ⟨⟩):=by simp only[Wd,Xfn]
theorem Xp (kp:List Nat)(s:S2)(Q:Y0):Y1 P T (.loop kp s) Q sl ob=Xo5 kp (Y1 P T s) Q sl ob ⟨⟩ ⟨⟩:=by simp only[Y1,Xo5]
end
end Go.Ab
namespace Go.Ab
open Go
def Yx4:Nat->Nat->List Nat
  | 0,_=>[]
  | f+1,n=>match n with
    | 0=>[]
    | m+1=>((m+1) % 64)::Yx4 f ((m+1) / 64)
abbrev Zr (α:Type):=Option (α×List Nat)
def Ytf:Nat->Nat->Nat->List Nat->Zr Nat
  | 0,a,_,s=>some (a,s)
  | n+1,a,p,d::s=>Ytf n (a+d*p) (p*64) s
  | _+1,_,_,[]=>none
def rN:List Nat->Zr Nat
  | []=>none
  | d::s=>match d.ble 55 with
    | true=>some (d,s)
    | false=>match d.ble 59 with
      | true=>Ytf 1 ((d-56)*64+56) 1 s
      | false=>Ytf ([2,4,6,12].getD (d-60) 0) 0 1 s
def rZ (s:List Nat):Zr Int:=(rN s).bind fun (n,s)=>some (match n % 2 with | 0=>Int.ofNat (n / 2) | _=>Int.negSucc (n / 2),s)
def rB (s:List Nat):Zr Bool:=(rN s).bind fun (n,s)=>some (n.beq 1,s)
def rIK (s:List Nat):Zr IntKind:=(rN s).bind fun (n,s)=>some (([.i8,.i16,.i32,.i64,.u8,.u16,.u32,.u64]:List IntKind).getD n .i64,s)
def rBO (s:List Nat):Zr BinOp:=(rN s).bind fun (n,s)=>some (([.add,.sub,.mul,.quo,.rem,.and,.or,.xor,.andNot,.shl,.shr,.eql,.neq,.lss,.leq,.gtr,.geq]:List BinOp).getD n .add,s)
def rL' {α:Type}(p:List Nat->Zr α):Nat->List Nat->Zr (List α)
  | 0,s=>some ([],s)
  | n+1,s=>(p s).bind fun (x,s)=>(rL' p n s).bind fun (l,s)=>some (x::l,s)
def rL {α:Type}(p:List Nat->Zr α)(s:List Nat):Zr (List α):=(rN s).bind fun (n,s)=>rL' p n s
def rO {α:Type}(p:List Nat->Zr α)(s:List Nat):Zr (Option α):=(rN s).bind fun (n,s)=>match n with | 0=>some (none,s) | _=>(p s).bind fun (x,s)=>some (some x,s)
def rP {α β:Type}(p:List Nat->Zr α)(q:List Nat->Zr β)(s:List Nat):Zr (α×β):=(p s).bind fun (x,s)=>(q s).bind fun (y,s)=>some ((x,y),s)
def rb:List Nat->Zr UInt8
  | []=>none
  | d::s=>match d.ble 47 with
    | true=>some (UInt8.ofNat (d+96),s)
    | false=>match s with
      | []=>none
      | e::s=>some (UInt8.ofNat ((d-48)*64+e),s)
def rY:List Nat->Zr (List UInt8):=rL rb
mutual
def rD:Nat->List Nat->Zr D
  | 0,_=>none
  | f+1,s=>(rN s).bind fun (n,s)=>match n with
    | 0=>(rIK s).bind fun (a,s)=>(rZ s).bind fun (b,s)=>some (.int a b,s)
    | 1=>(rB s).bind fun (a,s)=>some (.bool a,s)
    | 2=>(rY s).bind fun (a,s)=>some (.str a,s)
    | 3=>some (.nils,s)
    | 4=>(rN s).bind fun (a,s)=>(rLD f s).bind fun (b,s)=>some (.list a b,s)
    | 5=>(rLD f s).bind fun (a,s)=>some (.agg a,s)
    | 6=>some (.nili,s)
    | 7=>some (.nilp,s)
    | 8=>some (.nilf,s)
    | 9=>some (.nilm,s)
    | 10=>(rD f s).bind fun (a,s)=>some (.ref a,s)
    | 11=>(rN s).bind fun (a,s)=>(rD f s).bind fun (b,s)=>some (.iface a b,s)
    | 12=>(rN s).bind fun (a,s)=>(rLD f s).bind fun (b,s)=>(rLD f s).bind fun (c,s)=>some (.fn a b c,s)
    | _=>none
def rLD:Nat->List Nat->Zr (List D)
  | 0,_=>none
  | f+1,s=>(rN s).bind fun (m,s)=>match m with | 0=>(rN s).bind fun (n,s)=>rMD f n s | _=>(rN s).bind fun (n,s)=>(rD f s).bind fun (x,s)=>some (List.replicate n x,s)
def rMD:Nat->Nat->List Nat->Zr (List D)
  | 0,_,_=>none
  | _+1,0,s=>some ([],s)
  | f+1,n+1,s=>(rD f s).bind fun (x,s)=>(rMD f n s).bind fun (l,s)=>some (x::l,s)
end
mutual
def rK:Nat->List Nat->Zr KT
  | 0,_=>none
  | f+1,s=>(rN s).bind fun (n,s)=>match n with
    | 0=>(rIK s).bind fun (a,s)=>some (.int a,s)
    | 1=>some (.bool,s)
    | 2=>some (.str,s)
    | 3=>(rLK f s).bind fun (a,s)=>some (.st a,s)
    | 4=>(rN s).bind fun (a,s)=>(rK f s).bind fun (b,s)=>some (.ar a b,s)
    | _=>none
def rLK:Nat->List Nat->Zr (List KT)
  | 0,_=>none
  | f+1,s=>(rN s).bind fun (n,s)=>rMK f n s
def rMK:Nat->Nat->List Nat->Zr (List KT)
  | 0,_,_=>none
  | _+1,0,s=>some ([],s)
  | f+1,n+1,s=>(rK f s).bind fun (x,s)=>(rMK f n s).bind fun (l,s)=>some (x::l,s)
end
def rA:List Nat->Zr A
  | []=>none
  | d::s=>match d.ble 43 with
    | true=>some (.t d,s)
    | false=>match d-44 with
    | 0=>(rN s).bind fun (a,s)=>some (.t a,s)
    | 1=>(rIK s).bind fun (a,s)=>(rZ s).bind fun (b,s)=>some (.int a b,s)
    | 2=>(rB s).bind fun (a,s)=>some (.bool a,s)
    | 3=>(rY s).bind fun (a,s)=>some (.str a,s)
    | 4=>some (.nils,s)
    | 5=>some (.nili,s)
    | 6=>some (.nilp,s)
    | 7=>some (.nilf,s)
    | 8=>some (.nilm,s)
    | 9=>(rN s).bind fun (a,s)=>some (.nl a,s)
    | 10=>(rN s).bind fun (a,s)=>some (.fn a,s)
    | _=>none
def rC (s:List Nat):Zr C:=(rN s).bind fun (n,s)=>match n with
    | 12=>(rA s).bind fun (a,s)=>some (.neg a,s)
    | 13=>(rB s).bind fun (a,s)=>(rA s).bind fun (b,s)=>(rA s).bind fun (c,s)=>some (.beq a b c,s)
    | 14=>(rB s).bind fun (a,s)=>(rA s).bind fun (b,s)=>some (.isnil a b,s)
    | 15=>(rB s).bind fun (a,s)=>(rA s).bind fun (b,s)=>some (.pnil a b,s)
    | 16=>(rB s).bind fun (a,s)=>(rA s).bind fun (b,s)=>some (.fnil a b,s)
    | 17=>(rB s).bind fun (a,s)=>(rA s).bind fun (b,s)=>(rA s).bind fun (c,s)=>some (.peq a b c,s)
    | 18=>(rA s).bind fun (a,s)=>some (.usd a,s)
    | 19=>(rIK s).bind fun (a,s)=>(rA s).bind fun (b,s)=>some (.cvi a b,s)
    | 20=>(rA s).bind fun (a,s)=>some (.cvs a,s)
    | 21=>(rA s).bind fun (a,s)=>(rA s).bind fun (b,s)=>some (.idx a b,s)
    | 22=>(rN s).bind fun (a,s)=>(rN s).bind fun (b,s)=>(rA s).bind fun (c,s)=>(rA s).bind fun (d,s)=>some (.idxP a b c d,s)
    | 23=>(rN s).bind fun (a,s)=>(rN s).bind fun (b,s)=>(rN s).bind fun (c,s)=>(rB s).bind fun (d,s)=>(rA s).bind fun (e,s)=>some (.fld a b c d e,s)
    | 24=>(rA s).bind fun (a,s)=>some (.lenS a,s)
    | 25=>(rN s).bind fun (a,s)=>some (.lenA a,s)
    | 26=>(rA s).bind fun (a,s)=>(rO (rA) s).bind fun (b,s)=>(rO (rA) s).bind fun (c,s)=>some (.slcS a b c,s)
    | 27=>(rN s).bind fun (a,s)=>(rA s).bind fun (b,s)=>(rO (rA) s).bind fun (c,s)=>(rO (rA) s).bind fun (d,s)=>some (.slcL a b c d,s)
    | 28=>(rN s).bind fun (a,s)=>(rL (rA) s).bind fun (b,s)=>(rL (rA) s).bind fun (c,s)=>some (.mkf a b c,s)
    | 29=>(rN s).bind fun (a,s)=>(rD 90 s).bind fun (b,s)=>(rA s).bind fun (c,s)=>some (.tas a b c,s)
    | 30=>(rK 90 s).bind fun (a,s)=>(rB s).bind fun (b,s)=>(rA s).bind fun (c,s)=>(rA s).bind fun (d,s)=>some (.eqD a b c d,s)
    | 31=>(rN s).bind fun (a,s)=>(rN s).bind fun (b,s)=>(rB s).bind fun (c,s)=>(rA s).bind fun (d,s)=>(rA s).bind fun (e,s)=>some (.aix a b c d e,s)
    | 32=>(rA s).bind fun (a,s)=>some (.cpl a,s)
    | 33=>(rA s).bind fun (a,s)=>(rA s).bind fun (b,s)=>some (.mx a b,s)
    | 34=>(rN s).bind fun (a,s)=>(rB s).bind fun (b,s)=>(rA s).bind fun (c,s)=>some (.ldd a b c,s)
    | _=>none
def rI (s:List Nat):Zr I:=(rN s).bind fun (n,s)=>match n with
    | 10=>(rN s).bind fun (a,s)=>(rN s).bind fun (b,s)=>(rA s).bind fun (c,s)=>(rA s).bind fun (d,s)=>some (.appS a b c d,s)
    | 11=>(rA s).bind fun (a,s)=>some (.b2s a,s)
    | 12=>(rA s).bind fun (a,s)=>some (.s2b a,s)
    | 13=>(rN s).bind fun (a,s)=>(rN s).bind fun (b,s)=>(rA s).bind fun (c,s)=>some (.nilo a b c,s)
    | 14=>(rA s).bind fun (a,s)=>some (.mvf a,s)
    | 15=>(rN s).bind fun (a,s)=>(rB s).bind fun (b,s)=>(rA s).bind fun (c,s)=>some (.ldf a b c,s)
    | 16=>(rN s).bind fun (a,s)=>(rN s).bind fun (b,s)=>(rA s).bind fun (c,s)=>(rA s).bind fun (d,s)=>(rL (rN) s).bind fun (e,s)=>some (.mvg a b c d e,s)
    | 17=>(rA s).bind fun (a,s)=>(rA s).bind fun (b,s)=>(rL (rP (rN) (rP (rN) (rL (rN)))) s).bind fun (c,s)=>some (.mvn a b c,s)
    | 18=>(rA s).bind fun (a,s)=>some (.cvb a,s)
    | 19=>(rN s).bind fun (a,s)=>(rA s).bind fun (b,s)=>(rA s).bind fun (c,s)=>some (.ustr a b c,s)
    | 20=>(rO (rA) s).bind fun (a,s)=>some (.mkm a,s)
    | 21=>(rD 90 s).bind fun (a,s)=>(rD 90 s).bind fun (b,s)=>(rB s).bind fun (c,s)=>(rA s).bind fun (d,s)=>(rA s).bind fun (e,s)=>some (.lkp a b c d e,s)
    | 22=>(rD 90 s).bind fun (a,s)=>(rA s).bind fun (b,s)=>(rA s).bind fun (c,s)=>(rA s).bind fun (d,s)=>some (.mset a b c d,s)
    | 23=>(rN s).bind fun (a,s)=>(rN s).bind fun (b,s)=>(rB s).bind fun (c,s)=>(rD 90 s).bind fun (d,s)=>some (.gld a b c d,s)
    | 24=>(rN s).bind fun (a,s)=>(rN s).bind fun (b,s)=>(rA s).bind fun (c,s)=>some (.slg a b c,s)
    | 25=>(rN s).bind fun (a,s)=>(rN s).bind fun (b,s)=>(rLD 90 s).bind fun (c,s)=>(rL (rP (rN) (rA)) s).bind fun (d,s)=>some (.blv a b c d,s)
    | 26=>(rN s).bind fun (a,s)=>(rN s).bind fun (b,s)=>(rN s).bind fun (c,s)=>(rA s).bind fun (d,s)=>(rA s).bind fun (e,s)=>some (.apv a b c d e,s)
    | 27=>(rA s).bind fun (a,s)=>some (.gv a,s)
    | 28=>(rN s).bind fun (a,s)=>(rB s).bind fun (b,s)=>(rA s).bind fun (c,s)=>some (.ldg a b c,s)
    | 29=>(rN s).bind fun (a,s)=>(rN s).bind fun (b,s)=>(rA s).bind fun (c,s)=>(rO (rA) s).bind fun (d,s)=>(rO (rA) s).bind fun (e,s)=>some (.slb a b c d e,s)
    | 30=>(rN s).bind fun (a,s)=>(rA s).bind fun (b,s)=>(rA s).bind fun (c,s)=>some (.cpy a b c,s)
    | 31=>(rD 90 s).bind fun (a,s)=>(rN s).bind fun (b,s)=>(rA s).bind fun (c,s)=>some (.clr a b c,s)
    | 32=>(rN s).bind fun (a,s)=>(rN s).bind fun (b,s)=>(rN s).bind fun (c,s)=>(rD 90 s).bind fun (d,s)=>(rA s).bind fun (e,s)=>some (.gix a b c d e,s)
    | 33=>(rA s).bind fun (a,s)=>some (.rng a,s)
    | 34=>(rA s).bind fun (a,s)=>some (.nxt a,s)
    | 35=>(rA s).bind fun (a,s)=>some (.ety a,s)
    | 36=>(rA s).bind fun (a,s)=>some (.lenM a,s)
    | 37=>(rB s).bind fun (a,s)=>(rB s).bind fun (b,s)=>(rA s).bind fun (c,s)=>some (.isn a b c,s)
    | 38=>(rN s).bind fun (a,s)=>(rN s).bind fun (b,s)=>(rN s).bind fun (c,s)=>(rD 90 s).bind fun (d,s)=>(rA s).bind fun (e,s)=>some (.mks a b c d e,s)
    | 39=>(rN s).bind fun (a,s)=>(rA s).bind fun (b,s)=>(rA s).bind fun (c,s)=>some (.trn a b c,s)
    | 40=>(rN s).bind fun (a,s)=>(rL (rA) s).bind fun (b,s)=>some (.xcall a b,s)
    | 41=>(rN s).bind fun (a,s)=>(rA s).bind fun (b,s)=>some (.boxr a b,s)
    | _=>none
def rIc (c:Nat)(s:List Nat):Zr I:=match c with
    | 0=>(rA s).bind fun (a,s)=>some (.c (.mv a),s)
    | 1=>(rN s).bind fun (a,s)=>(rB s).bind fun (b,s)=>(rA s).bind fun (c,s)=>some (.c (.ld a b c),s)
    | 2=>(rN s).bind fun (a,s)=>(rN s).bind fun (b,s)=>(rA s).bind fun (c,s)=>some (.c (.fldA a b c),s)
    | 3=>(rBO s).bind fun (a,s)=>(rA s).bind fun (b,s)=>(rA s).bind fun (c,s)=>some (.c (.bin a b c),s)
    | 4=>(rA s).bind fun (a,s)=>some (.c (.lenL a),s)
    | 5=>(rA s).bind fun (a,s)=>some (.c (.nilc a),s)
    | 6=>(rN s).bind fun (a,s)=>(rA s).bind fun (b,s)=>(rA s).bind fun (c,s)=>some (.c (.idxA a b c),s)
    | 7=>(rA s).bind fun (a,s)=>(rN s).bind fun (b,s)=>some (.c (.ext a b),s)
    | 8=>(rA s).bind fun (a,s)=>(rA s).bind fun (b,s)=>(rA s).bind fun (c,s)=>some (.c (.pick a b c),s)
    | 9=>(rA s).bind fun (a,s)=>some (.c (.not a),s)
    | 10=>(rLD 90 s).bind fun (a,s)=>(rL (rP (rN) (rA)) s).bind fun (b,s)=>some (.c (.bld a b),s)
    | 11=>(rN s).bind fun (a,s)=>(rA s).bind fun (b,s)=>some (.c (.mki a b),s)
    | 12=>(rA s).bind fun (a,s)=>(rL (rA) s).bind fun (b,s)=>some (.callv a b,s)
    | 13=>(rN s).bind fun (a,s)=>(rL (rA) s).bind fun (b,s)=>some (.call a b,s)
    | 14=>(rN s).bind fun (a,s)=>(rL (rA) s).bind fun (b,s)=>some (.pcall a b,s)
    | 15=>(rN s).bind fun (a,s)=>(rN s).bind fun (b,s)=>(rN s).bind fun (c,s)=>(rA s).bind fun (d,s)=>(rA s).bind fun (e,s)=>some (.app a b c d e,s)
    | 16=>(rN s).bind fun (a,s)=>(rD 90 s).bind fun (b,s)=>some (.alloc a b,s)
    | 17=>(rN s).bind fun (a,s)=>(rA s).bind fun (b,s)=>some (.box a b,s)
    | 18=>(rN s).bind fun (a,s)=>(rLD 90 s).bind fun (b,s)=>(rL (rP (rN) (rA)) s).bind fun (c,s)=>some (.bls a b c,s)
    | 19=>(rN s).bind fun (a,s)=>(rN s).bind fun (b,s)=>(rLD 90 s).bind fun (c,s)=>(rL (rP (rN) (rA)) s).bind fun (d,s)=>some (.blo a b c d,s)
    | 20=>(rN s).bind fun (a,s)=>(rA s).bind fun (b,s)=>(rA s).bind fun (c,s)=>some (.st a b c,s)
    | 21=>(rA s).bind fun (a,s)=>some (.panic a,s)
    | 28=>(rC s).bind fun (c,s)=>some (.c c,s)
    | 29=>rI s
    | _=>none
def zop (g:Option (Nat×Bool))(d:Option Nat)(l:Nat)(c:Nat)(s:List Nat):Zr (Nat×It):=(rIc c s).bind fun (i,s)=>some ((d.getD l,match g with | none=>.op d i | some (a,b)=>.gop a b d i),s)
def Yxk (g:Option (Nat×Bool))(l:Nat):List Nat->Zr (Nat×It)
  | []=>none
  | c::s=>match c.ble 29 with
    | true=>zop g (match c with | 20=>none | 21=>none | _=>some (l+1)) l c s
    | false=>(rN s).bind fun (n,s)=>zop g (match n with | 0=>none | n+1=>some n) l (c-30) s
def rIt (l:Nat):List Nat->Zr (Nat×It)
  | []=>none
  | c::s=>match c with
    | 61=>(rN s).bind fun (a,s)=>(rB s).bind fun (b,s)=>Yxk (some (a,b)) l s
    | _=>Yxk none l (c::s)
def Yxl:Nat->Nat->List Nat->Zr (Nat×List It)
  | 0,l,s=>some ((l,[]),s)
  | n+1,l,s=>(rIt l s).bind fun ((l,x),s)=>(Yxl n l s).bind fun ((l,r),s)=>some ((l,x::r),s)
mutual
def rOt:Nat->Nat->List Nat->Zr (Nat×Ot)
  | 0,_,_=>none
  | f+1,l,s=>(rN s).bind fun (n,s)=>match n with
    | 0=>some ((l,.done),s)
    | 1=>(rN s).bind fun (i,s)=>(rIt l s).bind fun ((l,x),s)=>(rOt f l s).bind fun ((l,r),s)=>some ((l,.one i x r),s)
    | 2=>(rN s).bind fun (n,s)=>(Yxm f n l s).bind fun (t,s)=>some ((l,.br t),s)
    | _=>none
def Yxm:Nat->Nat->Nat->List Nat->Zr Ots
  | 0,_,_,_=>none
  | _+1,0,_,s=>some (.nil,s)
  | f+1,n+1,l,s=>(rN s).bind fun (i,s)=>(rIt l s).bind fun ((l',x),s)=>(rOt f l' s).bind fun ((_,r),s)=>(Yxm f n l s).bind fun (t,s)=>some (.cons i x r t,s)
end
structure Alg (τ:Type) where
  rg:List Nat->List It->List Nat->List Nat->τ
  rgT:Nat->Ot->List Nat->List Nat->τ
  seq:τ->τ->τ
  skip:τ
  cond:A->τ->τ->τ
  block:Nat->τ->τ
  loop:List Nat->τ->τ
  exit:Nat->τ
  ret:τ
  rgf:Nat->List Nat->A->τ->τ->List Nat->τ
def Yyn:Alg S:=⟨.rg,.rgT,.seq,.skip,.cond,.block,.loop,.exit,.ret,.rgf⟩
def Yym (fs:List Nat):Alg S2:=⟨fun _ l keep pk=>match Jn fs keep pk l [] [] []with
    | some (l,kp)=>.rg l kp pk
    | none=>.skip,fun _ t keep pk=>.rgT t keep pk,.seq,.skip,.cond,.block,.loop,.exit,.ret,fun _ _ _ _ _ _=>.skip⟩
def rS {τ:Type}(a:Alg τ)(ns:List τ):Nat->Nat->List Nat->Zr (Nat×τ)
  | 0,_,_=>none
  | f+1,l,s=>(rN s).bind fun (n,s)=>match n with
    | 0=>(rL rN s).bind fun (o,s)=>(rN s).bind fun (n,s)=>(Yxl n l s).bind fun ((l,i),s)=>(rL rN s).bind fun (c,s)=>(rL rN s).bind fun (b,s)=>some ((l,a.rg o i c b),s)
    | 1=>(rN s).bind fun (n,s)=>(rOt 1000 l s).bind fun ((l,t),s)=>(rL rN s).bind fun (c,s)=>(rL rN s).bind fun (b,s)=>some ((l,a.rgT n t c b),s)
    | 2=>(rS a ns f l s).bind fun ((l,x),s)=>(rS a ns f l s).bind fun ((l,y),s)=>some ((l,a.seq x y),s)
    | 3=>some ((l,a.skip),s)
    | 4=>(rA s).bind fun (c,s)=>(rS a ns f l s).bind fun ((l,x),s)=>(rS a ns f l s).bind fun ((l,y),s)=>some ((l,a.cond c x y),s)
    | 5=>(rN s).bind fun (n,s)=>(rS a ns f l s).bind fun ((l,x),s)=>some ((l,a.block n x),s)
    | 6=>(rL rN s).bind fun (n,s)=>(rS a ns f l s).bind fun ((l,x),s)=>some ((l,a.loop n x),s)
    | 7=>(rN s).bind fun (n,s)=>some ((l,a.exit n),s)
    | 8=>some ((l,a.ret),s)
    | 9=>(rN s).bind fun (t,s)=>(rL rN s).bind fun (p,s)=>(rA s).bind fun (g,s)=>(rS a ns f l s).bind fun ((l,x),s)=>(rS a ns f l s).bind fun ((l,y),s)=>(rL rN s).bind fun (k,s)=>some ((l,a.rgf t p g x y k),s)
    | 10=>(rN s).bind fun (n,s)=>some ((l,ns.getD n a.skip),s)
    | _=>none
def zA {τ:Type}(a:Alg τ)(ns:List τ)(n:Nat):τ:=match rS a ns 1000 0 (Yx4 20000 n) with
  | some ((_,x),_)=>x
  | none=>a.skip
def zS:List S->Nat->S:=zA Yyn
def zL (fs:List Nat):List S2->Nat->S2:=zA (Yym fs)
end Go.Ab
