/- Texts of this claim joined by a program, part 5 of 16; the last is: Equations of ranges Xga functions, of maps' iterators; rounds Xga folded statements. Over any program; no condition. -/
import Derived.Test.YtolkimpelpnpbaaGreatDoorR4
import Derived.IntWalk
import Derived.Defers
import Derived.Recover
set_option linter.unusedSimpArgs false
set_option linter.unusedVariables false
set_option linter.unusedSectionVars false
set_option linter.defProp false
namespace Go.Ab
open Go

section
variable {P:Prg} {T:Tab} {σ:Sg} {sl sl0:Xf} {ob:Xb} {p:Vy}

theorem Z9 {x:A}{k:Nat}{ex:E}(hk:k∈Xcw σ p x)(h:opE σ p x=some ex):ent σ k=some (p,ex):=by
 cases x with
 | t j=>
  simp only[Xcw]at hk
  simp only[opE]at h
  split at hk
  ·rename_i q e he
   split at hk
   ·rename_i hq
    simp at hk; subst hk
    simp at hq; subst hq
    rw[he]at h
    simp at h
    rw[he,h]
   ·cases hk
  ·cases hk
 | _=>simp[Xcw]at hk
theorem Y2 {g:Nat}{b:Bool}:Xv sl (p++[(g,b)])=(Xv sl p&&isB b (look sl g)):=by
 simp[Xv,List.all_append]
theorem Xo0:∀{xs:List A} {e:E},Xju σ p xs=some e->∀{k q ek},k∈Ynx σ p xs->ent σ k=some (q,ek)->q=p/\(e.ok T sl0 ob->ek.ok T sl0 ob)
 | [],_,_,k,_,_,hk,_=>by simp[Ynx]at hk
 | x::r,e,h,k,q,ek,hk,he=>by
  simp only[Xju]at h
  split at h
  ·rename_i ex er hx hr
   cases h
   simp only[Ynx,List.mem_append]at hk
   rcases hk with hk | hk
   ·have:=Z9 hk hx
    rw[he]at this; cases this
    exact⟨rfl,fun h=>h.1⟩
   ·obtain⟨h1,h2⟩:=Xo0 hr hk he
    exact⟨h1,fun h=>h2 h.2⟩
  ·cases h

theorem C.cov (hI:Inv T σ sl sl0 ob){c:C}{e:E}(h:c.lift σ p=some e){k:Nat}{q:Vy}{ek:E}(hk:k∈c.cons σ p)(he:ent σ k=some (q,ek))(hq:Xv sl q=true)(ho:Xv sl p=true->e.ok T sl0 ob):ek.ok T sl0 ob:=by
 have l1:∀{c x},Z7 σ p c x=some e->k∈Xcw σ p x->ek.ok T sl0 ob:=fun h hk=>by
  obtain⟨ex,rfl,hx⟩:=Xn9 h
  have:=Z9 hk hx
  rw[he]at this; cases this
  exact (ho hq).1
 have l2:∀{c x y},Ub σ p c x y=some e->k∈Xcw σ p x++Xcw σ p y->ek.ok T sl0 ob:=fun h hk=>by
  obtain⟨ex,ey,rfl,hx,hy⟩:=Xoa h
  rw[List.mem_append]at hk
  rcases hk with hk | hk
  ·have:=Z9 hk hx
   rw[he]at this; cases this
   exact (ho hq).1
  ·have:=Z9 hk hy
   rw[he]at this; cases this
   exact (ho hq).2.1
 have l3:∀{c x y z},Xp5 σ p c x y z=some e->k∈Xcw σ p x++Xcw σ p y++Xcw σ p z->ek.ok T sl0 ob:=fun h hk=>by
  obtain⟨ex,ey,ez,rfl,hx,hy,hz⟩:=Xob h
  rw[List.mem_append,List.mem_append]at hk
  rcases hk with (hk | hk) | hk
  ·have:=Z9 hk hx
   rw[he]at this; cases this
   exact (ho hq).1
  ·have:=Z9 hk hy
   rw[he]at this; cases this
   exact (ho hq).2.1
  ·have:=Z9 hk hz
   rw[he]at this; cases this
   exact (ho hq).2.2.1
 unfold C.lift at h
 split at h<;>simp only[C.cons]at hk
 case h_1=>
  have:=Z9 hk h
  rw[he]at this; cases this
  exact ho hq
 case h_2 g x y=>
  obtain⟨ec,ex,ey,rfl,hc,hx,hy⟩:=Xgc h
  rw[List.mem_append,List.mem_append]at hk
  rcases hk with (hk | hk) | hk
  ·have:=Z9 hk hc
   rw[he]at this; cases this
   exact (ho hq).1
  ·have:=Z9 hk hx
   rw[he]at this; cases this
   rw[Y2,Bool.and_eq_true]at hq
   have hv:=Zy hI hq.1 hc
   exact (ho hq.1).2.2.1 (by rw[hv]; exact hq.2)
  ·have:=Z9 hk hy
   rw[he]at this; cases this
   rw[Y2,Bool.and_eq_true]at hq
   have hv:=Zy hI hq.1 hc
   exact (ho hq.1).2.2.2 (by rw[hv]; exact hq.2)
 all_goals first
  | (cases h; done)
  | exact l1 h hk
  | exact l2 h hk
  | exact l3 h hk
  | (cases hk; done)
theorem I.cov (hI:Inv T σ sl sl0 ob){fs:List Nat}{i:I}{e:E}(h:i.lift fs σ p=some e){k:Nat}{q:Vy}{ek:E}(hk:k∈i.cons σ p)(he:ent σ k=some (q,ek))(hq:Xv sl q=true)(ho:Xv sl p=true->e.ok T sl0 ob):ek.ok T sl0 ob:=by
 cases i<;>simp only[I.lift]at h<;>simp only[I.cons]at hk
 case c x=>exact C.cov hI h hk he hq ho
 case pcall f args=>
  split at h
  ·split at h
   ·rename_i e' ha
    cases h
    obtain⟨rfl,h2⟩:=Xo0 (T:=T) (sl0:=sl0) (ob:=ob) ha hk he
    exact h2 (ho hq).1
   ·cases h
  ·cases h
 all_goals cases h
theorem I.gcov {fs:List Nat}{i:I}{e:E}(h:i.lift fs σ p=some e){k:Nat}{q:Vy}{ek:E}(hk:k∈i.gcons σ p)(he:ent σ k=some (q,ek))(hq:Xv sl q=true)(ho:Xv sl p=true->e.ok T sl0 ob):Xbn (ek.val T sl0 ob):=by
 unfold I.gcons at hk
 split at hk
 ·rename_i g x y
  simp only[I.lift,C.lift]at h
  obtain⟨ec,ex,ey,rfl,hc,hx,hy⟩:=Xgc h
  have:=Z9 hk hc
  rw[he]at this; cases this
  exact (ho hq).2.1
 ·cases hk
theorem I.lift_sound (hT:TOk P T)(hI:Inv T σ sl sl0 ob)(hp:Xv sl p=true){fs:List Nat}{i:I}{e:E}(h:i.lift fs σ p=some e)(ho:e.ok T sl0 ob){KO Pn:V->Xb->Prop}(hK:KO (e.val T sl0 ob) ob):i.wp P sl ob KO Pn:=by
 cases i<;>simp only[I.lift]at h
 case c x=>
  obtain⟨h1,h2⟩:=C.lift_sound hI hp h
  simp only[I.wp]
  exact C.wp_of (h2 ho) (by rw[<-h1]; exact hK)
 case pcall f args=>
  split at h
  ·split at h
   ·rename_i e' ha
    cases h
    have hv:=Xgx hI hp ha
    simp only[E.ok,E.val,hv]at ho hK
    simp only[I.wp]
    cases hf:Xkn T f with
    | none=>rw[hf]at ho; exact ho.2.elim
    | some F=>rw[hf]at ho hK; exact hT f F hf _ ho.2 _ _ hK
   ·cases h
  ·cases h
 all_goals cases h

theorem Inv.congr {sl':Xf}(hI:Inv T σ sl sl0 ob)(h:∀k,look sl' k=look sl k):Inv T σ sl' sl0 ob:=by
 intro k p e he
 have:Xv sl' p=Xv sl p:=by simp only[Xv,h]
 rw[this,h]
 exact hI k p e he

def Vn (d:Nat)(p:Vy):Bool:=p.all fun g=>g.1 != d
def Xka (σ:Sg)(d:Nat):Bool:=σ.all fun x=>match x.2 with
 | some (p,_)=>Vn d p
 | none=>true
theorem Vb {d:Nat}{v:V}(h:Vn d p=true):Xv ((d,v)::sl) p=Xv sl p:=by
 induction p with
 | nil=>rfl
 | cons g r ih=>
  simp only[Vn,List.all_cons,Bool.and_eq_true]at h
  simp only[Xv,List.all_cons]at ih⊢
  have:look ((d,v)::sl) g.1=look sl g.1:=by
   have:=h.1; simp at this
   have h':¬d=g.1:=fun e=>this e.symm
   simp[look,h']
  rw[this,ih h.2]
theorem Xdw:∀{σ:Sg} {d k:Nat} {p:Vy} {e:E},Xka σ d=true->Z8 σ k=some (some (p,e))->Vn d p=true
 | [],_,_,_,_,_,h=>by simp[Z8]at h
 | (j,x)::r,d,k,p,e,hg,h=>by
  simp only[Xka,List.all_cons,Bool.and_eq_true]at hg
  simp only[Z8]at h
  split at h
  ·cases h; exact hg.1
  ·exact Xdw (σ:=r) hg.2 h
theorem Qr {d k:Nat}{q:Vy}{e:E}(hg:Xka σ d=true)(h:ent σ k=some (q,e)):Vn d q=true:=by
 unfold ent at h
 split at h
 ·cases h; rfl
 ·rename_i x hx; subst h; exact Xdw hg hx

theorem Zt {k:Nat}{x:Option (Vy×E)}:ent ((k,x)::σ) k=x:=by simp[ent,Z8]
theorem Zb {j k:Nat}{x:Option (Vy×E)}(h:k ≠ j):ent ((k,x)::σ) j=ent σ j:=by simp[ent,Z8,h]

end
end Go.Ab
namespace Go.Ab
open Go

inductive It2 where
 | chk (p:List (E×Bool)) (e:E)
 | lt (k:Nat) (p:List (E×Bool)) (e:E)
 | op (d:Option Nat) (i:I)
 | gop (p:List (E×Bool)) (d:Option Nat) (i:I)

def Xgk (b:Bool)(v:V):V:=if b then v else .undef

def Vg (P:Prg)(T:Tab)(K:Xf->Xb->Prop)(Pn:V->Xf->Xb->Prop):List It2->Xf->Xb->Prop
 | [],sl,ob=>K sl ob
 | .chk p e::r,sl,ob=>(Zo T sl ob p=true->e.ok T sl ob)/\Vg P T K Pn r sl ob
 | .lt k p e::r,sl,ob=>(Zo T sl ob p=true->e.ok T sl ob)/\Vg P T K Pn r ((k,Xgk (Zo T sl ob p) (e.val T sl ob))::sl) ob
 | .op d i::r,sl,ob=>i.wp P sl ob (fun v ob'=>Vg P T K Pn r (put sl d v) ob') (fun v ob'=>Pn v sl ob')
 | .gop p d i::r,sl,ob=>(Zo T sl ob p=true->i.wp P sl ob (fun v ob'=>Vg P T K Pn r (put sl d v) ob') (fun v ob'=>Pn v sl ob'))/\
   (Zo T sl ob p=false->Vg P T K Pn r (put sl d .undef) ob)

def V1 (T:Tab)(sl:Xf)(ob:Xb):List (Nat×E)->Xf
 | []=>[]
 | (k,e)::r=>(k,e.val T sl ob)::V1 T sl ob r
def Wk (T:Tab)(sl:Xf)(ob:Xb):List (Nat×E)->Prop
 | []=>True
 | (_,e)::r=>e.ok T sl ob/\Wk T sl ob r


def A.slots:A->List Nat
 | .t k=>[k]
 | _=>[]
def Wd:List A->List Nat
 | []=>[]
 | x::r=>x.slots++Wd r
def Xee:Option A->List Nat
 | some x=>x.slots
 | none=>[]
def C.slots:C->List Nat
 | .mv x | .not x | .neg x | .cpl x | .isnil _ x | .pnil _ x | .fnil _ x | .usd x | .cvi _ x | .cvs x | .fldA _ _ x | .fld _ _ _ _ x | .ld _ _ x | .ldd _ _ x | .nilc x | .lenS x | .lenL x | .ext x _ | .mki _ x | .tas _ _ x=>x.slots
 | .bin _ x y | .mx x y | .beq _ x y | .peq _ x y | .idx x y | .idxA _ x y | .idxP _ _ x y | .eqD _ _ x y | .aix _ _ _ x y=>x.slots++y.slots
 | .pick x y z=>x.slots++(y.slots++z.slots)
 | .slcS x l h | .slcL _ x l h=>x.slots++(Xee l++Xee h)
 | .lenA _=>[]
 | .bld _ ps=>Wd (ps.map (·.2))
 | .mkf _ a b=>Wd a++Wd b
def I.slots:I->List Nat
 | .c x=>x.slots
 | .box _ x=>x.slots
 | .boxr _ x=>x.slots
 | .alloc _ _=>[]
 | .bls _ _ ps=>Wd (ps.map (·.2))
 | .blo _ _ _ ps=>Wd (ps.map (·.2))
 | .st _ x y=>x.slots++y.slots
 | .app _ _ _ x y=>x.slots++y.slots
 | .appS _ _ x y=>x.slots++y.slots
 | .call _ l=>Wd l
 | .pcall _ l=>Wd l
 | .xcall _ l=>Wd l
 | .callv x l=>x.slots++Wd l
 | .panic x=>x.slots
 | .b2s x=>x.slots
 | .s2b x=>x.slots
 | .nilo _ _ x=>x.slots
 | .mvf x=>x.slots
 | .ldf _ _ x=>x.slots
 | .mvg _ _ y x _=>y.slots++x.slots
 | .mvn y x _=>y.slots++x.slots
 | .cvb x=>x.slots
 | .ustr _ x y=>x.slots++y.slots
 | .mkm r=>Xee r
 | .lkp _ _ _ m k=>m.slots++k.slots
 | .mset _ m k v=>m.slots++(k.slots++v.slots)
 | .gld _ _ _ _=>[]
 | .slg _ _ x=>x.slots
 | .blv _ _ _ ps=>Wd (ps.map (·.2))
 | .apv _ _ _ x y=>x.slots++y.slots
 | .gv x=>x.slots
 | .ldg _ _ x=>x.slots
 | .slb _ _ x lo hi=>x.slots++(Xee lo++Xee hi)
 | .cpy _ x y=>x.slots++y.slots
 | .clr _ _ x=>x.slots
 | .gix _ _ _ _ i=>i.slots
 | .rng x=>x.slots
 | .nxt x=>x.slots
 | .ety x=>x.slots
 | .lenM x=>x.slots
 | .isn _ _ x=>x.slots
 | .inv _ _ _ _ x l=>x.slots++Wd l
 | .mks _ _ _ _ l=>l.slots
 | .trn _ x y=>x.slots++y.slots

section
variable {P:Prg} {sl sl':Xf} {ob:Xb}
theorem A.ev_eq {x:A}(h:∀k∈x.slots,look sl k=look sl' k):x.ev sl=x.ev sl':=by
 cases x<;>simp_all[A.ev,A.slots]
theorem J7:∀{l:List A},(∀k∈Wd l,look sl k=look sl' k)->l.map (A.ev sl)=l.map (A.ev sl')
 | [],_=>rfl
 | x::r,h=>by
  simp only[Wd,List.mem_append]at h
  simp only[List.map_cons,A.ev_eq (fun k hk=>h k (.inl hk)),J7 (fun k hk=>h k (.inr hk))]
theorem Xdu {l:Option A}(h:∀k∈Xee l,look sl k=look sl' k):l.map (A.ev sl)=l.map (A.ev sl'):=by
 cases l with
 | none=>rfl
 | some x=>simp only[Option.map_some,A.ev_eq h]
theorem Xhj:∀{l:List (Nat×A)},(∀k∈Wd (l.map (·.2)),look sl k=look sl' k)->(l.map fun x=>(x.1,A.ev sl x.2))=l.map fun x=>(x.1,A.ev sl' x.2)
 | [],_=>rfl
 | x::r,h=>by
  simp only[List.map_cons,Wd,List.mem_append]at h
  simp only[List.map_cons,A.ev_eq (fun k hk=>h k (.inl hk)),Xhj (fun k hk=>h k (.inr hk))]
theorem C.wp_eq {K:V->Prop}{c:C}(h:∀k∈c.slots,look sl k=look sl' k):c.wp sl ob K=c.wp sl' ob K:=by
 cases c<;>simp only[C.slots,List.mem_append]at h<;>simp only[C.wp]
 case bld=>rw[Xhj h]
 case mkf=>rw[J7 (fun k hk=>h k (.inl hk)),J7 (fun k hk=>h k (.inr hk))]
 case pick=>rw[A.ev_eq (fun k hk=>h k (.inl hk)),A.ev_eq (fun k hk=>h k (.inr (.inl hk))),A.ev_eq (fun k hk=>h k (.inr (.inr hk)))]
 case slcS=>rw[A.ev_eq (fun k hk=>h k (.inl hk)),Xdu (fun k hk=>h k (.inr (.inl hk))),Xdu (fun k hk=>h k (.inr (.inr hk)))]
 case slcL=>rw[A.ev_eq (fun k hk=>h k (.inl hk)),Xdu (fun k hk=>h k (.inr (.inl hk))),Xdu (fun k hk=>h k (.inr (.inr hk)))]
 all_goals first
  | rw[A.ev_eq h]
  | rw[A.ev_eq (fun k hk=>h k (.inl hk)),A.ev_eq (fun k hk=>h k (.inr hk))]
theorem I.wp_eq {K Pn:V->Xb->Prop}{i:I}(h:∀k∈i.slots,look sl k=look sl' k):i.wp P sl ob K Pn=i.wp P sl' ob K Pn:=by
 cases i<;>simp only[I.slots,List.mem_append]at h<;>simp only[I.wp]
 case c=>rw[C.wp_eq h]
 case bls=>rw[Xhj h]
 case blo=>rw[Xhj h]
 case blv=>rw[Xhj h]
 case call=>rw[J7 h]
 case pcall=>rw[J7 h]
 case xcall=>rw[J7 h]
 case callv=>rw[A.ev_eq (fun k hk=>h k (.inl hk)),J7 (fun k hk=>h k (.inr hk))]
 case inv=>rw[A.ev_eq (fun k hk=>h k (.inl hk)),J7 (fun k hk=>h k (.inr hk))]
 case mset=>rw[A.ev_eq (fun k hk=>h k (.inl hk)),A.ev_eq (fun k hk=>h k (.inr (.inl hk))),A.ev_eq (fun k hk=>h k (.inr (.inr hk)))]
 case slb=>rw[A.ev_eq (fun k hk=>h k (.inl hk)),Xdu (fun k hk=>h k (.inr (.inl hk))),Xdu (fun k hk=>h k (.inr (.inr hk)))]
 case mkm r=>
  cases r with
  | none=>rfl
  | some x=>simp only[Xx5,A.ev_eq (x:=x) h]
 all_goals first
  | rw[A.ev_eq h]
  | rw[A.ev_eq (fun k hk=>h k (.inl hk)),A.ev_eq (fun k hk=>h k (.inr hk))]
  | rfl

theorem Xil {K K':V->Xb->Prop}{ob:Xb}{E sz:Nat}{p:List Nat}{y x:V}(hk:∀v b,K v b->K' v b)(h:Xjp ob E sz p y K x):Xjp ob E sz p y K' x:=by
 unfold Xjp at h; split at h
 ·simp only[Xjp]
  generalize Xe _ _=o at h⊢
  unfold Xc9 at h; split at h
  ·simp only[Xc9]
   rcases h with h | h
   case inr=>exact .inr ⟨h.1,hk _ _ h.2⟩
   refine .inl ⟨h.1,?_⟩
   have h:=h.2
   generalize V.set _ _ _=o at h⊢
   cases o with
   | none=>exact h.elim
   | some t=>exact hk _ _ h
  ·exact h.elim
 ·exact h.elim
theorem Xin {K K':V->Xb->Prop}{y x:V}(hk:∀v b,K v b->K' v b):∀{l:List (Nat×Nat×List Nat)} {ob:Xb},X3r y K x l ob->X3r y K' x l ob
 | [],_,h=>hk _ _ h
 | _::_,_,h=>Xil (fun _ _ h=>Xin hk h) h

theorem Xpt {K K':V->Prop}{f fo:Nat}{v:V}(hk:∀v,K v->K' v)(h:Vz ob f fo K v):Vz ob f fo K' v:=by
 have:=C.wp_mono (sl:=[(0,v)]) (ob:=ob) hk (.fldA f fo (.t 0)) (by simpa[C.wp,A.ev,look]using h)
 simpa[C.wp,A.ev,look]using this
theorem X1q {K K':V->Prop}{n:Nat}{ag:Bool}{v:V}(hk:∀v,K v->K' v)(h:ldK ob n ag K v):ldK ob n ag K' v:=by
 have:=C.wp_mono (sl:=[(0,v)]) (ob:=ob) hk (.ld n ag (.t 0)) (by simpa[C.wp,A.ev,look]using h)
 simpa[C.wp,A.ev,look]using this
theorem I.wp_mono {K K' Pn Pn':V->Xb->Prop}(hk:∀v b,K v b->K' v b)(hp:∀v b,Pn v b->Pn' v b){i:I}(h:i.wp P sl ob K Pn):i.wp P sl ob K' Pn':=by
 have ho:∀o b,Xa7 K Pn o b->Xa7 K' Pn' o b:=fun o b=>by cases o with | ret v=>exact hk v b | panic v=>exact hp v b
 have bx:∀{E v},Xq1 E ob K v->Xq1 E ob K' v:=fun h=>⟨h.1,hk _ _ h.2⟩
 have dk:∀{KD KD':List D->Prop},(∀l,KD l->KD' l)->∀o,dK KD o->dK KD' o:=fun f o h=>by cases o with | none=>exact h.elim | some l=>exact f l h
 have gv:∀(o:Option (D×Xb)),Xhw K o->Xhw K' o:=fun o h=>by
  cases o with
  | none=>exact h.elim
  | some q=>exact hk _ _ h
 have ap:∀{E sz B ys u},Xc5 E sz B ob ys K u->Xc5 E sz B ob ys K' u:=fun {E sz B ys u} h=>by
  unfold Xc5 at h; split at h
  ·simp only[Xc5]
   generalize Xe _ _=o at h⊢
   unfold Xc6 at h; split at h
   ·obtain⟨h1,h2,h3,h4,h5⟩:=h
    exact⟨h1,h2,h3,h4,hk _ _ h5⟩
   ·exact h.elim
  ·exact⟨h.1,hk _ _ h.2⟩
  ·exact h.elim
 have apv:∀{E sz B ys u},Xq0 E sz B ob ys K u->Xq0 E sz B ob ys K' u:=fun {E sz B ys u} h=>by
  unfold Xq0 at h; split at h
  ·simp only[Xq0]
   generalize Xe _ _=o at h⊢
   unfold Xpd at h; split at h
   ·obtain⟨h1,h2,h3,h4,h5⟩:=h
    exact⟨h1,h2,h3,h4,hk _ _ h5⟩
   ·obtain⟨h1,h2,h3,h4,h5⟩:=h
    exact⟨h1,h2,h3,h4,hk _ _ h5⟩
   ·exact h.elim
  ·exact⟨h.1,hk _ _ h.2⟩
  ·exact h.elim
 have bw:∀{id p lo n z ys r o},Xxz ob id p lo n z ys r K o->Xxz ob id p lo n z ys r K' o:=fun {id p lo n z ys r o} h=>by
  unfold Xxz at h; split at h
  ·simp only[Xxz]
   generalize V.at _ _=o at h⊢
   unfold Yn9 at h; split at h
   ·obtain⟨h1,h2,h3,t,h4,h5⟩:=h
    exact⟨h1,h2,h3,t,h4,hk _ _ h5⟩
   ·exact h.elim
  ·exact h.elim
 cases i<;>simp only[I.wp]at h⊢
 case c x=>exact C.wp_mono (fun v=>hk v ob) x h
 case box=>exact bx h
 case boxr=>unfold Xyy at h⊢; split at h<;>first | exact hk _ _ h | exact h.elim
 case alloc=>exact bx h
 case bls=>exact V5 (fun _=>dk (fun _=>hk _ _) _) _ _ h
 case blo=>exact V5 (fun _=>dk (fun _ h=>hk _ _ h) _) _ _ h
 case st x y=>
  generalize A.ev sl x=v at h⊢
  unfold stK at h; split at h
  ·simp only[stK]
   generalize Xe _ _=o at h⊢
   unfold Xxp at h; split at h
   ·simp only[Xxp]
    generalize V.at _ _=o at h⊢
    unfold Xxq at h; split at h
    ·obtain⟨h1,h2,h3,t,h4,h5⟩:=h
     exact⟨h1,h2,h3,t,h4,hk _ _ h5⟩
    ·exact h.elim
   ·exact h.elim
  ·simp only[stK]
   generalize Xe _ _=o at h⊢
   unfold Ynq at h; split at h
   ·simp only[Ynq]
    generalize Va _ _ _=o at h⊢
    unfold Yoq at h; split at h
    ·refine⟨h.1,?_⟩
     have h:=h.2
     generalize V.at _ _=o at h⊢
     unfold Ynr at h; split at h
     ·obtain⟨h1,h2,h3,t,h4,h5⟩:=h
      exact⟨h1,h2,h3,t,h4,hk _ _ h5⟩
     ·exact h.elim
    ·exact h.elim
   ·exact h.elim
  ·exact h.elim
 case app x y=>
  generalize A.ev sl y=v at h⊢
  unfold Xxn at h; split at h
  ·exact⟨h.1,ap h.2⟩
  ·exact ap h
  ·exact h.elim
 case blv=>exact V5 (fun _=>hk _ _) _ _ h
 case apv x y=>
  generalize A.ev sl y=v at h⊢
  unfold Yci at h; split at h
  ·exact⟨h.1,apv h.2⟩
  ·exact apv h
  ·rcases h with⟨E,ys,h1,h2,h3,h4⟩ | ⟨E,ys,h1,h2,h4⟩
   ·exact .inl ⟨E,ys,h1,h2,h3,apv h4⟩
   ·exact .inr ⟨E,ys,h1,h2,apv h4⟩
  ·exact h.elim
 case gv x=>
  generalize V.gvF _ _ _=v at h⊢
  exact gv _ h
 case slb x lo hi=>
  generalize A.ev sl x=v at h⊢
  unfold Ych at h; split at h
  ·simp only[Ych]
   generalize Zc _=o at h⊢
   unfold Xqe at h; split at h
   ·exact⟨h.1,h.2.1,Xbm (fun _ _=>hk _ _) h.2.2⟩
   ·exact h.elim
  ·exact h.elim
 case cpy x y=>
  generalize A.ev sl x=v at h⊢; generalize A.ev sl y=u at h⊢
  unfold Yob at h; split at h
  ·exact⟨h.1,bw h.2⟩
  ·exact h.elim
 case clr x=>
  generalize A.ev sl x=v at h⊢
  unfold Yoa at h; split at h
  ·exact⟨fun e=>⟨(h.1 e).1,hk _ _ (h.1 e).2⟩,fun e=>⟨(h.2 e).1,bw (h.2 e).2⟩⟩
  ·exact h.elim
 case gix x y=>
  refine⟨h.1,?_⟩
  have h:=h.2
  generalize A.ev sl y=u at h⊢
  unfold Yog at h; split at h
  ·exact⟨h.1,h.2.1,h.2.2.1,hk _ _ h.2.2.2⟩
  ·exact h.elim
 case ldg x=>
  generalize A.ev sl x=v at h⊢
  unfold Ycc at h; split at h
  ·simp only[Ycc]
   generalize atO _ _ _=o at h⊢
   unfold Xva at h; split at h
   ·refine⟨h.1,h.2.1,?_⟩
    have h:=h.2.2
    generalize V.gvF _ _ _=o at h⊢
    unfold Xu9 at h; split at h
    ·refine⟨h.1,?_⟩
     have h:=h.2
     generalize Xe _ _=o at h⊢
     unfold X1s at h; split at h
     ·obtain⟨t',h1,h2⟩:=h
      exact⟨t',h1,hk _ _ h2⟩
     ·exact h.elim
    ·exact h.elim
   ·exact h.elim
  ·exact h.elim
 case appS x y=>
  generalize A.ev sl y=v at h⊢
  unfold Xqs at h; split at h
  ·exact ap h
  ·exact h.elim
 case mvf x=>
  generalize V.giv _ _=v at h⊢
  exact gv _ h
 case ldf x=>
  generalize A.ev sl x=v at h⊢
  unfold X1r at h; split at h
  ·simp only[X1r]
   generalize atO _ _ _=o at h⊢
   unfold Xkj at h; split at h
   ·exact⟨h.1,h.2.1,gv _ h.2.2⟩
   ·exact h.elim
  ·exact h.elim
 case mvg=>exact Xil hk h
 case mvn=>exact Xin hk h
 case cvb x=>
  generalize A.ev sl x=v at h⊢
  unfold Xsz at h; split at h
  ·simp only[Xsz]
   generalize Xe _ _=o at h⊢
   unfold Xe0 at h; split at h
   ·exact⟨h.1,h.2.1,h.2.2.1,hk _ _ h.2.2.2⟩
   ·exact h.elim
  ·exact h.elim
 case ustr x y=>
  generalize A.ev sl x=v at h⊢; generalize A.ev sl y=u at h⊢
  unfold Xji at h; split at h
  ·simp only[Xji]
   generalize Xe _ _=o at h⊢
   unfold Xei at h; split at h
   ·obtain⟨h1,h2,h3,h4,h5,h6,s,h7,h8⟩:=h
    exact⟨h1,h2,h3,h4,h5,h6,s,h7,hk _ _ h8⟩
   ·exact h.elim
  ·exact⟨h.1,hk _ _ h.2⟩
  ·exact h.elim
 case call=>exact h.mono ho
 case pcall=>exact h.mono fun v=>hk v ob
 case xcall=>exact h.mono hk
 case callv x l=>
  generalize A.ev sl x=v at h⊢
  unfold Wi at h; split at h
  ·exact⟨h.1,h.2.mono ho⟩
  ·exact⟨h.1,h.2.mono ho⟩
  ·exact⟨h.1,h.2.mono ho⟩
  ·exact h.elim
 case rng x=>
  generalize A.ev sl x=v at h⊢
  generalize Xe ob (X3p v)=o at h⊢
  unfold Ybr at h; split at h
  ·exact hk _ _ h
  ·exact hk _ _ h
  ·exact h.elim
 case nxt x=>
  generalize A.ev sl x=v at h⊢
  unfold X14 at h; split at h
  ·simp only[X14]
   generalize Xe ob _=o at h⊢
   unfold Xiv at h; split at h
   ·exact hk _ _ h
   ·simp only[Xiv]
    generalize Xe ob _=o at h⊢
    unfold Xqa at h; split at h
    ·exact⟨h.1,fun e=>hk _ _ (h.2.1 e),fun i h1 h2=>hk _ _ (h.2.2 i h1 h2)⟩
    ·exact h.elim
   ·exact h.elim
  ·exact h.elim
 case ety x=>
  generalize A.ev sl x=v at h⊢
  unfold X0j at h; split at h
  ·simp only[X0j]
   generalize Xe ob _=o at h⊢
   unfold Xj1 at h; split at h
   ·refine⟨h.1,?_⟩
    have h:=h.2
    generalize Xe ob _=o at h⊢
    unfold Xpl at h; split at h
    ·exact⟨h.1,h.2.1,hk _ _ h.2.2⟩
    ·exact h.elim
   ·exact h.elim
  ·exact h.elim
 case lenM x=>
  generalize A.ev sl x=v at h⊢
  unfold Xp3 at h; split at h
  ·simp only[Xp3]
   generalize Xe ob _=o at h⊢
   unfold X8k at h; split at h
   ·exact hk _ _ h
   ·exact h.elim
  ·exact hk _ _ h
  ·exact h.elim
 case isn e m x=>
  generalize A.ev sl x=v at h⊢
  unfold Xu0 at h; split at h
  ·simp only[Xu0]
   generalize Xe ob _=o at h⊢
   unfold Yra at h; split at h
   ·exact hk _ _ h
   ·exact h.elim
  ·exact hk _ _ h
  ·exact hk _ _ h
  ·exact⟨hk _ _ h.1,fun e=>hk _ _ (h.2 e)⟩
  ·simp only[Xu0]
   generalize Xe ob _=o at h⊢
   unfold Yrb at h; split at h
   ·exact⟨h.1,h.2.1,hk _ _ h.2.2⟩
   ·exact⟨h.1,h.2.1,hk _ _ h.2.2⟩
   ·exact h.elim
  ·exact h.elim
 case inv nm t f fl x l=>
  generalize A.ev sl x=v at h⊢
  unfold Yoh at h; split at h
  ·refine⟨h.1,h.2.1,?_⟩
   have h:=h.2.2
   unfold X2d at h⊢
   split at h
   ·exact h.mono ho
   ·exact Xpt (fun u h=>X1q (fun r h=>h.mono ho) h) h
  ·exact h.elim
 case mks l=>
  generalize A.ev sl l=v at h⊢
  unfold Yoi at h; split at h
  ·exact⟨h.1,h.2.1,hk _ _ h.2.2⟩
  ·exact h.elim
 case trn x y=>
  generalize A.ev sl x=v at h⊢; generalize A.ev sl y=u at h⊢
  unfold Ycl at h; split at h
  ·simp only[Ycl]
   generalize Xe ob _=o at h⊢
   unfold Yxb at h; split at h
   ·exact⟨h.1,h.2.1,h.2.2.1,h.2.2.2.1,hk _ _ h.2.2.2.2⟩
   ·exact h.elim
  ·exact h.elim
 case panic x=>
  generalize A.ev sl x=v at h⊢
  unfold Q7 at h; split at h
  ·exact hp _ _ h
  ·exact hp _ _ h
  ·exact h.elim
 case b2s x=>
  generalize A.ev sl x=v at h⊢
  unfold Yb3 at h; split at h
  ·obtain⟨h1,s,h2,h3⟩:=h
   exact⟨h1,s,h2,hk _ _ h3⟩
  ·exact hk _ _ h
  ·exact h.elim
 case s2b x=>
  generalize A.ev sl x=v at h⊢
  unfold Ycg at h; split at h
  ·exact hk _ _ h
  ·exact h.elim
 case nilo x=>
  generalize A.ev sl x=v at h⊢
  unfold Xf4 at h; split at h
  ·exact hk _ _ h
  ·exact h.elim
 case mkm r=>exact⟨h.1,hk _ _ h.2⟩
 case gld=>exact⟨h.1,h.2.1,h.2.2.1,hk _ _ h.2.2.2⟩
 case slg x=>
  generalize A.ev sl x=v at h⊢
  unfold X4r at h; split at h
  ·simp only[X4r]
   generalize atO _ _ _=o at h⊢
   unfold Xqg at h; split at h
   ·exact⟨h.1,h.2.1,hk _ _ h.2.2⟩
   ·exact h.elim
  ·exact h.elim
 case lkp x y=>
  generalize A.ev sl x=v at h⊢; generalize A.ev sl y=u at h⊢
  unfold Xve at h; split at h
  ·simp only[Xve]
   generalize Xe _ _=o at h⊢
   unfold Xfb at h; split at h
   ·exact⟨h.1,hk _ _ h.2⟩
   ·exact h.elim
  ·exact⟨h.1,hk _ _ h.2⟩
  ·exact h.elim
 case mset x y z=>
  generalize A.ev sl x=v at h⊢; generalize A.ev sl y=u at h⊢
  unfold Xca at h; split at h
  ·simp only[Xca]
   generalize Xe _ _=o at h⊢
   unfold Q3 at h; split at h
   ·exact⟨h.1,h.2.1,hk _ _ h.2.2⟩
   ·exact h.elim
  ·exact h.elim
end
end Go.Ab
namespace Go.Ab
open Go

def Xlx (σ:Sg):Vy->Vy->Option (List (E×Bool))
 | _,[]=>some []
 | dn,(g,b)::r=>match ent σ g with
  | some (q,e)=>if q.isPrefixOf dn then (match Xlx σ (dn++[(g,b)]) r with | some l=>some ((e,b)::l) | none=>none) else none
  | none=>none
def Yxp (σ:Sg)(f:E->E)(k:Nat):Option It2:=match ent σ k with
 | some (p,e)=>match Xlx σ [] p with
  | some l=>some (.chk l (f e))
  | none=>none
 | none=>none
def chks (σ:Sg)(f:E->E):List Nat->Option (List It2)
 | []=>some []
 | k::r=>match Yxp σ f k,chks σ f r with
  | some c,some l=>some (c::l)
  | _,_=>none
def bw (e:E):E:=.ite e (.a (.bool true)) (.a (.bool true))
def Xdq (σ:Sg)(k:Nat):Sg:=σ.filter fun x=>x.1 != k
def noMen (σ:Sg)(k:Nat):Bool:=σ.all fun x=>match x.2 with
 | some (_,e)=>!e.men k
 | none=>true
def Yls (σ:Sg):Bool:=σ.all fun x=>match x.2 with
 | some (_,e)=>!e.rd
 | none=>true
def Yig (ns:List Nat)(σ:Sg)(k:Nat)(p:Vy):Sg:=if ns.contains k||p.isEmpty then Xdq σ k else (k,some (p,.a (.t k)))::Xdq σ k
def Yz3 (ns:List Nat)(σ:Sg)(k:Nat):Option (It2×Sg):=match Z8 σ k with
 | some (some (p,e))=>match Xlx σ [] p with
  | some l=>if noMen (Xdq σ k) k then some (.lt k l e,Yig ns σ k p) else none
  | none=>none
 | _=>none
def Yj9 (ns:List Nat):List Nat->Sg->Option (List It2×Sg)
 | [],σ=>some ([],σ)
 | k::r,σ=>match Yz3 ns σ k with
  | some (i,σ')=>match Yj9 ns r σ' with
   | some (l,σ'')=>some (i::l,σ'')
   | none=>none
  | none=>none
def kill (lv:List Nat):Sg->Sg
 | []=>[]
 | (k,x)::r=>(if lv.contains k then (k,x) else (k,none))::kill lv r
def X1x:List It->List Nat
 | []=>[]
 | .op _ i::r=>i.slots++X1x r
 | .gop g _ _ i::r=>g::(i.slots++X1x r)
def Ys2 (σ:Sg)(s:List Nat)(d:Option Nat):List Nat:=(σ.filter fun x=>match x.2 with
 | some (_,e)=>s.contains x.1||e.rd||(match d with | some k=>x.1 != k&&e.men k | none=>false)
 | none=>false).map (·.1)
def It.d:It->Option Nat
 | .op d _=>d
 | .gop _ _ d _=>d
def It.i:It->I
 | .op _ i=>i
 | .gop _ _ _ i=>i
def It.path (σ:Sg):It->Option (Vy×List Nat)
 | .op _ _=>some ([],[])
 | .gop g b _ _=>match ent σ g with
  | some (q,_)=>some (q++[(g,b)],[g])
  | none=>none
def It.eff (l:List (E×Bool)):It->It2
 | .op d i=>.op d i
 | .gop _ _ d i=>.gop l d i
def Yqd (σ:Sg):Option Nat->Sg
 | some k=>Xdq σ k
 | none=>σ
def X6u (σ:Sg)(p:Vy):Option Nat->Bool
 | some k=>noMen (Xdq σ k) k&&Xka (Xdq σ k) k&&Vn k p
 | none=>true
def Xh8 (σ:Sg):List Nat->Option (List (Nat×E))
 | []=>some []
 | k::r=>match ent σ k,Xh8 σ r with
  | some ([],e),some l=>some ((k,e)::l)
  | _,_=>none
def Yn2 (e:E)(k:Nat)(l:List Nat):List Nat:=if e.isA then l else k::l

def Jv (fs keep pk:List Nat):List It->Sg->List Nat->List Nat->Option (List It2×List (Nat×E))
 | [],σ,pe,pg=>match chks σ id (pe.filter fun k=>!keep.contains k),chks σ bw pg,Xh8 σ keep with
  | some c1,some c2,some kp=>some (c1++c2,kp)
  | _,_,_=>none
 | it::r,σ,pe,pg=>match it.path σ with
  | none=>none
  | some (p,gs)=>match it.d,it.i.lift fs σ p with
   | some k,some e=>if Xka (Xdq σ k) k&&Vn k p&&!pe.contains k&&!(gs++pg).contains k then
     Jv fs keep pk r ((k,some (p,e))::Xdq σ k) (Yn2 e k (pe.filter fun j=>!(it.i.cons σ p).contains j)) ((gs++pg).filter fun j=>!(it.i.gcons σ p).contains j)
    else none
   | d,_=>match chks σ id pe,chks σ bw (gs++pg) with
    | some c1,some c2=>match Yj9 (it.i.slots++(pk++keep)) (Ys2 (kill (it.i.slots++(p.map (·.1)++(X1x r++keep))) σ) it.i.slots d) (kill (it.i.slots++(p.map (·.1)++(X1x r++keep))) σ) with
     | some (ms,σ2)=>match Xlx σ2 [] p with
      | some l=>if (it.i.slots.all fun k=>(Z8 σ2 k).isNone)&&X6u σ2 p d&&Yls σ2&&(pk.all fun k=>(Z8 σ2 k).isNone) then
        match Jv fs keep pk r (Yqd σ2 d) [] []with
        | some (t,kp)=>some (c1++(c2++(ms++(it.eff l::t))),kp)
        | none=>none
       else none
      | none=>none
     | none=>none
    | _,_=>none

section
variable {P:Prg} {T:Tab} {σ:Sg} {sl sl0:Xf} {ob:Xb} {p:Vy} {K:Xf->Xb->Prop} {Pn:V->Xf->Xb->Prop}

theorem Vo (hI:Inv T σ sl sl0 ob):∀(r dn:Vy) (l:List (E×Bool)),Xlx σ dn r=some l->Xv sl dn=true->Xv sl r=Zo T sl0 ob l
 | [],dn,l,h,_=>by simp only[Xlx]at h; cases h; rfl
 | (g,b)::r,dn,l,h,hd=>by
  simp only[Xlx]at h
  split at h
  ·rename_i q e he
   split at h
   ·rename_i hq
    split at h
    ·rename_i l' hl
     cases h
     have hv:=(hI g q e he).1 (Xaa hq hd)
     simp only[Xv,Zo,List.all_cons,hv]
     cases hb:isB b (e.val T sl0 ob) with
     | false=>rfl
     | true=>
      have:=Vo hI r _ l' hl (by rw[Y2,hd,hv,hb]; rfl)
      simpa[Xv,Zo]using this
    ·cases h
   ·cases h
  ·cases h

theorem Y1 (hI:Inv T σ sl sl0 ob){f:E->E}:∀{ks:List Nat} {cs l:List It2},chks σ f ks=some cs->Vg P T K Pn (cs++l) sl0 ob->
  (∀k∈ks,∀p e,ent σ k=some (p,e)->Xv sl p=true->(f e).ok T sl0 ob)/\Vg P T K Pn l sl0 ob
 | [],cs,l,h,hr=>by simp only[chks]at h; cases h; exact⟨fun _ h=>(by cases h),hr⟩
 | k::r,cs,l,h,hr=>by
  simp only[chks]at h
  split at h
  ·rename_i c l' hc hl
   cases h
   unfold Yxp at hc
   split at hc
   ·rename_i p e he
    split at hc
    ·rename_i lp hp
     cases hc
     simp only[List.cons_append,Vg]at hr
     obtain⟨h1,h2⟩:=Y1 hI hl hr.2
     refine⟨fun j hj q e' he' hq=>?_,h2⟩
     rcases List.mem_cons.mp hj with rfl | hj
     ·rw[he]at he'; cases he'
      exact hr.1 (by rw[<-Vo hI _ _ _ hp rfl]; exact hq)
     ·exact h1 j hj q e' he' hq
    ·cases hc
   ·cases hc
  ·cases h

theorem Xaf:∀{σ:Sg} {k:Nat},Z8 (Xdq σ k) k=none
 | [],_=>rfl
 | (j,x)::r,k=>by
  have ih:=Xaf (σ:=r) (k:=k)
  simp only[Xdq]at ih⊢
  by_cases h:j=k
  ·subst h; simp[ih]
  ·simp[h,Z8,ih]
theorem Xag {k j:Nat}(h:k ≠ j):∀{σ:Sg},Z8 (Xdq σ k) j=Z8 σ j
 | []=>rfl
 | (i,x)::r=>by
  have ih:=Xag h (σ:=r)
  simp only[Xdq]at ih⊢
  by_cases hi:i=k
  ·subst hi; simp[ih,Z8,h]
  ·simp[hi,Z8,ih]
theorem Xds {k:Nat}:ent (Xdq σ k) k=some ([],.a (.t k)):=by simp[ent,Xaf]
theorem Zg {k j:Nat}(h:k ≠ j):ent (Xdq σ k) j=ent σ j:=by simp[ent,Xag h]
theorem Xd7:∀{σ:Sg} {d k:Nat} {p:Vy} {e:E},noMen σ d=true->Z8 σ k=some (some (p,e))->e.men d=false
 | [],_,_,_,_,_,h=>by simp[Z8]at h
 | (j,x)::r,d,k,p,e,hg,h=>by
  simp only[noMen,List.all_cons,Bool.and_eq_true]at hg
  simp only[Z8]at h
  split at h
  ·cases h; simpa using hg.1
  ·exact Xd7 (σ:=r) hg.2 h
theorem Xit:∀{σ:Sg} {k:Nat} {p:Vy} {e:E},Yls σ=true->Z8 σ k=some (some (p,e))->e.rd=false
 | [],_,_,_,_,h=>by simp[Z8]at h
 | (j,x)::r,k,p,e,hg,h=>by
  simp only[Yls,List.all_cons,Bool.and_eq_true]at hg
  simp only[Z8]at h
  split at h
  ·cases h; simpa using hg.1
  ·exact Xit (σ:=r) hg.2 h
theorem Xom {k:Nat}{e:E}(hg:Yls σ=true)(h:ent σ k=some (p,e)):e.rd=false:=by
 unfold ent at h
 split at h
 ·cases h; rfl
 ·rename_i x hx; subst h; exact Xit hg hx
theorem Xis {d k:Nat}{e:E}(hg:noMen (Xdq σ d) d=true)(hd:d ≠ k)(h:ent σ k=some (p,e)):e.men d=false:=by
 rw[<-Zg hd]at h
 unfold ent at h
 split at h
 ·cases h; simp[E.men,A.men]; exact fun e=>hd e.symm
 ·rename_i x hx; subst h; exact Xd7 hg hx

theorem Xd5 {ns:List Nat}:∀{ks:List Nat} {σ σ':Sg} {sl0:Xf} {ms l:List It2},Inv T σ sl sl0 ob->Yj9 ns ks σ=some (ms,σ')->Vg P T K Pn (ms++l) sl0 ob->∃sl0',Inv T σ' sl sl0' ob/\Vg P T K Pn l sl0' ob
 | [],σ,σ',sl0,ms,l,hI,h,hr=>by simp only[Yj9]at h; cases h; exact⟨sl0,hI,hr⟩
 | k::r,σ,σ',sl0,ms,l,hI,h,hr=>by
  simp only[Yj9]at h
  split at h
  ·rename_i i σ1 h1
   split at h
   ·rename_i l' σ2 h2
    cases h
    unfold Yz3 at h1
    split at h1
    ·rename_i p e he
     split at h1
     ·rename_i lp hp
      split at h1
      ·rename_i hm
       cases h1
       simp only[List.cons_append,Vg]at hr
       refine Xd5 ?_ h2 hr.2
       have hk:=hI k p e (by simp[ent,he])
       have hh:=Vo hI _ _ _ hp rfl
       have hdel:∀j q e',ent (Xdq σ k) j=some (q,e')->(Xv sl q=true->look sl j=e'.val T ((k,Xgk (Zo T sl0 ob lp) (e.val T sl0 ob))::sl0) ob)/\(Xv sl q=false->look sl j=.undef):=by
        intro j q e' he'
        by_cases hj:k=j
        ·subst hj
         rw[Xds]at he'; cases he'
         simp only[Xv,List.all_nil,E.val,A.ev,look,if_true]
         refine⟨fun _=>?_,fun h=>(by cases h)⟩
         rw[<-hh]
         cases hs:Xv sl p with
         | true=>rw[hk.1 hs]; rfl
         | false=>rw[hk.2 hs]; rfl
        ·rw[Zg hj]at he'
         rw[E.val_sl (Xis hm hj he')]
         exact hI j q e' he'
       unfold Yig
       split
       ·exact hdel
       ·intro j q e' he'
        by_cases hj:k=j
        ·subst hj
         rw[Zt]at he'; cases he'
         simp only[E.val,A.ev,look,if_true]
         rw[<-hh]
         exact⟨fun hs=>by rw[hk.1 hs,hs]; rfl,hk.2⟩
        ·rw[Zb hj]at he'
         exact hdel j q e' he'
      ·cases h1
     ·cases h1
    ·cases h1
   ·cases h
  ·cases h

theorem Xn6 {lv:List Nat}:∀{σ:Sg} {k:Nat} {e:E},ent (kill lv σ) k=some (p,e)->ent σ k=some (p,e)
 | [],_,_,h=>h
 | (j,x)::r,k,e,h=>by
  by_cases hj:j=k
  ·subst hj
   rw[Zt]
   simp only[kill]at h
   split at h
   ·rwa [Zt]at h
   ·rw[Zt]at h; cases h
  ·rw[Zb hj]
   simp only[kill]at h
   refine Xn6 (lv:=lv) (σ:=r) ?_
   split at h
   ·rwa [Zb hj]at h
   ·rwa [Zb hj]at h
theorem Inv.kill {lv:List Nat}(hI:Inv T σ sl sl0 ob):Inv T (kill lv σ) sl sl0 ob:=fun k p e h=>hI k p e (Xn6 h)

theorem Inv.fold' (hI:Inv T σ sl sl0 ob){k:Nat}{e:E}(hg:Xka (Xdq σ k) k=true)(hp:Vn k p=true){v:V}(h1:Xv sl p=true->v=e.val T sl0 ob)(h2:Xv sl p=false->v=.undef) :
  Inv T ((k,some (p,e))::Xdq σ k) ((k,v)::sl) sl0 ob:=by
 intro j q e' he
 by_cases hj:k=j
 ·subst hj
  rw[Zt]at he; cases he
  rw[Vb hp]
  simp only[look,if_true]
  exact⟨h1,h2⟩
 ·rw[Zb hj]at he
  rw[Vb (Qr hg he)]
  rw[Zg hj]at he
  simp only[look,hj,if_false]
  exact hI j q e' he

theorem Inv.eff (hI:Inv T σ sl sl0 ob){d:Option Nat}(hf:X6u σ p d=true)(hr:Yls σ=true){v:V}{ob':Xb}:Inv T (Yqd σ d) (put sl d v) (put sl0 d v) ob':=by
 cases d with
 | none=>
  intro j q e he
  rw[E.val_ob (ob':=ob) (Xom hr he)]
  exact hI j q e he
 | some k=>
  simp only[X6u,Bool.and_eq_true]at hf
  intro j q e he
  simp only[put,Yqd]at he⊢
  by_cases hj:k=j
  ·subst hj
   rw[Xds]at he; cases he
   simp[Xv,E.val,A.ev,look]
  ·have he':=he
   rw[Vb (Qr hf.1.2 he')]
   rw[Zg hj]at he
   rw[E.val_sl (Xis hf.1.1 hj he),E.val_ob (ob':=ob) (Xom hr he)]
   simp only[look,hj,if_false]
   exact hI j q e he
theorem U4 (hI:Inv T σ sl sl0 ob):∀{keep:List Nat} {kp:List (Nat×E)},Xh8 σ keep=some kp->V1 T sl0 ob kp=Xk sl keep/\(Wk T sl0 ob kp->∀k∈keep,∀p e,ent σ k=some (p,e)->e.ok T sl0 ob)
 | [],kp,h=>by simp only[Xh8]at h; cases h; exact⟨rfl,fun _ _ h=>(by cases h)⟩
 | k::r,kp,h=>by
  simp only[Xh8]at h
  split at h
  ·rename_i e l he hl
   cases h
   obtain⟨h1,h2⟩:=U4 hI hl
   refine⟨by simp only[V1,Xk,h1,(hI k [] e he).1 rfl],fun ho j hj p e' he'=>?_⟩
   rcases List.mem_cons.mp hj with rfl | hj
   ·rw[he]at he'; cases he'; exact ho.1
   ·exact h2 ho.2 j hj p e' he'
  ·cases h

def Xrz (T:Tab)(σ:Sg)(pe pg:List Nat)(sl sl0:Xf)(ob:Xb):Prop:=
 (∀k∈pe,∀p e,ent σ k=some (p,e)->Xv sl p=true->e.ok T sl0 ob)/\
 (∀k∈pg,∀p e,ent σ k=some (p,e)->Xv sl p=true->Xbn (e.val T sl0 ob))

theorem Xi3 {fs:List Nat}{i:I}{k:Nat}{e:E}{pe pg:List Nat}{v:V}(hI:Inv T σ sl sl0 ob)(he:i.lift fs σ p=some e)(c1:Xka (Xdq σ k) k=true)(c2:Vn k p=true)(c3:k∉pe)(c4:k∉pg)
  (h:Xrz T ((k,some (p,e))::Xdq σ k) (Yn2 e k (pe.filter fun j=>!(i.cons σ p).contains j)) (pg.filter fun j=>!(i.gcons σ p).contains j) ((k,v)::sl) sl0 ob) :
  Xrz T σ pe pg sl sl0 ob/\(Xv sl p=true->e.ok T sl0 ob):=by
 obtain⟨a1,a2⟩:=h
 have hok:Xv sl p=true->e.ok T sl0 ob:=fun hh=>by
  cases hA:e.isA with
  | true=>cases e<;>simp[E.isA]at hA; trivial
  | false=>exact a1 k (by simp[Yn2,hA]) p e Zt (by rw[Vb c2]; exact hh)
 refine⟨⟨fun j hj q e' he' hq=>?_,fun j hj q e' he' hq=>?_⟩,hok⟩
 ·by_cases hm:j∈i.cons σ p
  ·exact I.cov hI he hm he' hq hok
  ·have hkj:k ≠ j:=fun e=>c3 (e▸hj)
   refine a1 j ?_ q e' (by rw[Zb hkj,Zg hkj]; exact he') ?_
   ·simp only[Yn2]; split<;>simp[hj,hm]
   ·rw[Vb]; exact hq
    exact Qr c1 (by rw[Zg hkj]; exact he')
 ·by_cases hm:j∈i.gcons σ p
  ·exact I.gcov he hm he' hq hok
  ·have hkj:k ≠ j:=fun e=>c4 (e▸hj)
   refine a2 j ?_ q e' (by rw[Zb hkj,Zg hkj]; exact he') ?_
   ·simp only[List.mem_filter]; exact⟨hj,by simp[hm]⟩
   ·rw[Vb]; exact hq
    exact Qr c1 (by rw[Zg hkj]; exact he')

theorem Xwo {fs keep pk:List Nat}:∀(its:List It) {σ:Sg} {pe pg:List Nat} {sl sl0:Xf} {ob:Xb} {l:List It2} {kp:List (Nat×E)},Inv T σ sl sl0 ob->Jv fs keep pk its σ pe pg=some (l,kp)->
  Vg P T (fun sl ob=>Wk T sl ob kp/\K (V1 T sl ob kp) ob) Pn l sl0 ob->Xrz T σ pe pg sl sl0 ob
 | [],σ,pe,pg,sl,sl0,ob,l,kp,hI,h,hr=>by
  simp only[Jv]at h
  split at h
  ·rename_i c1 c2 kp' h1 h2 h3
   cases h
   obtain⟨a1,hr⟩:=Y1 hI h1 hr
   obtain⟨a2,hr⟩:=Y1 hI (l:=[]) h2 (by simpa using hr)
   simp only[Vg]at hr
   obtain⟨_,a3⟩:=U4 hI h3
   refine⟨fun k hk p e he hp=>?_,fun k hk p e he hp=>(a2 k hk p e he hp).2.1⟩
   by_cases hm:k∈keep
   ·exact a3 hr.1 k hm p e he
   ·exact a1 k (by simp[hk,hm]) p e he hp
  ·cases h
 | it::r,σ,pe,pg,sl,sl0,ob,l,kp,hI,h,hr=>by
  simp only[Jv]at h
  split at h
  ·cases h
  ·rename_i p gs hp
   split at h
   ·rename_i k e hd he
    split at h
    ·rename_i hc
     simp only[Bool.and_eq_true,Bool.not_eq_true',List.contains_eq_mem,decide_eq_false_iff_not]at hc
     obtain⟨⟨⟨c1,c2⟩,c3⟩,c4⟩:=hc
     have hI':=hI.fold' (e:=e) c1 c2 (v:=Xgk (Xv sl p) (e.val T sl0 ob)) (fun h=>by rw[h]; rfl) (fun h=>by rw[h]; rfl)
     obtain⟨a,_⟩:=Xi3 hI he c1 c2 c3 c4 (Xwo r hI' h hr)
     exact⟨a.1,fun j hj=>a.2 j (List.mem_append.mpr (.inr hj))⟩
    ·cases h
   ·split at h
    ·rename_i c1 c2 h1 h2
     split at h
     ·split at h
      ·split at h
       ·split at h
        ·cases h
         obtain⟨a1,hr⟩:=Y1 hI h1 hr
         obtain⟨a2,hr⟩:=Y1 hI h2 hr
         exact⟨a1,fun k hk p e he hp=>(a2 k (List.mem_append.mpr (.inr hk)) p e he hp).2.1⟩
        ·cases h
       ·cases h
      ·cases h
     ·cases h
    ·cases h
end
end Go.Ab
namespace Go.Ab
open Go

theorem Xn4 {sl sl':Xf}:∀{ks:List Nat},(∀k∈ks,look sl k=look sl' k)->Xk sl ks=Xk sl' ks
 | [],_=>rfl
 | k::r,h=>by simp only[Xk]; rw[h k (by simp),Xn4 (fun j hj=>h j (by simp[hj]))]

theorem Yv {P:Prg}{T:Tab}(hT:TOk P T){fs keep pk:List Nat}{K K':Xf->Xb->Prop}{Pn Pn':V->Xf->Xb->Prop}(hK:∀s o,K s o->K' s o)(hP:∀v s o,Pn v s o->Pn' v s o) :
  ∀(its:List It) {σ:Sg} {pe pg:List Nat} {sl sl0:Xf} {ob:Xb} {l:List It2} {kp:List (Nat×E)},Inv T σ sl sl0 ob->Jv fs keep pk its σ pe pg=some (l,kp)->
  Vg P T (fun sl ob=>Wk T sl ob kp/\K (V1 T sl ob kp) ob) (fun v sl ob=>Pn v (Xk sl pk) ob) l sl0 ob->rwp P (fun sl ob=>K' (Xk sl keep) ob) (fun v sl ob=>Pn' v (Xk sl pk) ob) its sl ob
 | [],σ,pe,pg,sl,sl0,ob,l,kp,hI,h,hr=>by
  simp only[Jv]at h
  split at h
  ·rename_i c1 c2 kp' h1 h2 h3
   cases h
   obtain⟨_,hr⟩:=Y1 hI h1 hr
   obtain⟨_,hr⟩:=Y1 hI (l:=[]) h2 (by simpa using hr)
   simp only[Vg]at hr
   simp only[rwp]
   rw[<-(U4 hI h3).1]
   exact hK _ _ hr.2
  ·cases h
 | it::r,σ,pe,pg,sl,sl0,ob,l,kp,hI,h,hr=>by
  simp only[Jv]at h
  split at h
  ·cases h
  ·rename_i p gs hp
   split at h
   ·rename_i k e hd he
    split at h
    ·rename_i hc
     simp only[Bool.and_eq_true,Bool.not_eq_true',List.contains_eq_mem,decide_eq_false_iff_not]at hc
     obtain⟨⟨⟨c1,c2⟩,c3⟩,c4⟩:=hc
     have go:∀v,(Xv sl p=true->v=e.val T sl0 ob)->(Xv sl p=false->v=.undef)->rwp P (fun sl ob=>K' (Xk sl keep) ob) (fun v sl ob=>Pn' v (Xk sl pk) ob) r ((k,v)::sl) ob:=
      fun v h1 h2=>Yv hT hK hP r (hI.fold' (e:=e) c1 c2 h1 h2) h hr
     have hI':=hI.fold' (e:=e) c1 c2 (v:=Xgk (Xv sl p) (e.val T sl0 ob)) (fun h=>by rw[h]; rfl) (fun h=>by rw[h]; rfl)
     obtain⟨a,hok⟩:=Xi3 hI he c1 c2 c3 c4 (Xwo r hI' h hr)
     cases it with
     | op d i=>
      simp only[It.d]at hd; subst hd
      simp only[It.path]at hp; cases hp
      simp only[rwp]
      exact I.lift_sound hT hI rfl he (hok rfl) (go _ (fun _=>rfl) (fun h=>by cases h))
     | gop g b d i=>
      simp only[It.d]at hd; subst hd
      simp only[It.path]at hp
      split at hp
      ·rename_i q eg hg
       cases hp
       simp only[rwp]
       cases hq:Xv sl q with
       | false=>
        rw[(hI g q eg hg).2 hq]
        simp only[gdK]
        exact go _ (fun h=>by rw[Y2,hq]at h; cases h) (fun _=>rfl)
       | true=>
        have hv:=(hI g q eg hg).1 hq
        have hb:=a.2 g (by simp) q eg hg hq
        have hcg:∀j,look ((g,look sl g)::sl) j=look sl j:=fun j=>by
         simp only[look]; split
         ·rename_i e; rw[e]
         ·rfl
        have main:∀t,look sl g=.d (.bool t)->gdK g b sl (fun sl=>I.wp P sl ob (fun v ob'=>rwp P (fun sl ob=>K' (Xk sl keep) ob) (fun v sl ob=>Pn' v (Xk sl pk) ob) r (put sl (some k) v) ob') (fun v ob'=>Pn' v (Xk sl pk) ob') i) (fun sl=>rwp P (fun sl ob=>K' (Xk sl keep) ob) (fun v sl ob=>Pn' v (Xk sl pk) ob) r (put sl (some k) .undef) ob) (look sl g):=by
         intro t ht
         rw[ht]
         simp only[gdK]
         have hh:∀u,t=u->Inv T σ ((g,.d (.bool u))::sl) sl0 ob:=fun u e=>by
          subst e; rw[<-ht]; exact hI.congr hcg
         have hs:∀u,t=u->∀p,Xv ((g,.d (.bool u))::sl) p=Xv sl p:=fun u e p=>by
          subst e; rw[<-ht]; simp only[Xv,hcg]
         refine⟨fun e1=>?_,fun e1=>?_⟩
         ·have hp1:Xv sl (q++[(g,b)])=true:=by rw[Y2,hq,ht,e1]; simp[isB]
          refine I.lift_sound hT (hh _ e1) (by rw[hs _ e1]; exact hp1) he (hok hp1) ?_
          refine Yv hT hK hP r ((hh _ e1).fold' (e:=e) c1 c2 (fun _=>rfl) (fun h=>?_)) h hr
          rw[hs _ e1,hp1]at h; cases h
         ·have hp1:Xv sl (q++[(g,b)])=false:=by rw[Y2,hq,ht,e1]; cases b<;>simp[isB]
          refine Yv hT hK hP r ((hh _ e1).fold' (e:=e) c1 c2 (fun h=>?_) (fun _=>rfl)) h hr
          rw[hs _ e1,hp1]at h; cases h
        rcases Xet hb with hb | hb
        ·exact main true (by rw[hv,hb])
        ·exact main false (by rw[hv,hb])
      ·cases hp
    ·cases h
   ·rename_i d x hd hx
    split at h
    ·rename_i c1 c2 h1 h2
     split at h
     ·rename_i ms σ2 hm
      split at h
      ·rename_i lp hl
       split at h
       ·rename_i hc
        simp only[Bool.and_eq_true,List.all_eq_true,Option.isNone_iff_eq_none]at hc
        obtain⟨⟨⟨d1,d2⟩,d3⟩,d4⟩:=hc
        split at h
        ·rename_i t kp' ht
         cases h
         obtain⟨_,hr⟩:=Y1 hI h1 hr
         obtain⟨a2,hr⟩:=Y1 hI h2 hr
         obtain⟨sl1,hI1,hr⟩:=Xd5 hI.kill hm hr
         have hlook:∀{s},Inv T σ2 s sl1 ob->∀k,Z8 σ2 k=none->look s k=look sl1 k:=fun hI k hk=>(hI k [] (.a (.t k)) (by simp[ent,hk])).1 rfl
         have hkeep:∀{s},Inv T σ2 s sl1 ob->Xk s pk=Xk sl1 pk:=fun {s} hI=>by
          exact Xn4 fun k hk=>hlook hI k (d4 k hk)
         have step:∀{s},Inv T σ2 s sl1 ob->it.i.wp P sl1 ob (fun v ob'=>Vg P T (fun sl ob=>Wk T sl ob kp/\K (V1 T sl ob kp) ob) (fun v sl ob=>Pn v (Xk sl pk) ob) t (put sl1 it.d v) ob') (fun v ob'=>Pn v (Xk sl1 pk) ob')->
           it.i.wp P s ob (fun v ob'=>rwp P (fun sl ob=>K' (Xk sl keep) ob) (fun v sl ob=>Pn' v (Xk sl pk) ob) r (put s it.d v) ob') (fun v ob'=>Pn' v (Xk s pk) ob'):=fun {s} hI h=>by
          rw[I.wp_eq (sl':=sl1) (fun k hk=>hlook hI k (d1 k hk))]
          refine I.wp_mono (fun v b hv=>?_) (fun v b hv=>?_) h
          ·exact Yv hT hK hP r (hI.eff d2 d3) ht hv
          ·rw[hkeep hI]; exact hP _ _ _ hv
         cases it with
         | op d' i=>
          simp only[It.eff,Vg]at hr
          simp only[rwp]
          exact step hI1 hr
         | gop g b d' i=>
          simp only[It.eff,Vg]at hr
          simp only[It.path]at hp
          split at hp
          ·rename_i q eg hg
           cases hp
           have hh:=Vo hI1 _ _ _ hl rfl
           have none':∀{s},Inv T σ2 s sl1 ob->Xv sl (q++[(g,b)])=false->rwp P (fun sl ob=>K' (Xk sl keep) ob) (fun v sl ob=>Pn' v (Xk sl pk) ob) r (put s d' .undef) ob:=fun {s} hI hf=>
            Yv hT hK hP r (hI.eff d2 d3) ht (hr.2 (by rw[<-hh]; exact hf))
           simp only[rwp]
           cases hq:Xv sl q with
           | false=>
            rw[(hI g q eg hg).2 hq]
            simp only[gdK]
            exact none' hI1 (by rw[Y2,hq]; rfl)
           | true=>
            have hv:=(hI g q eg hg).1 hq
            have hb:=(a2 g (by simp) q eg hg hq).2.1
            have hcg:∀j,look ((g,look sl g)::sl) j=look sl j:=fun j=>by
             simp only[look]; split
             ·rename_i e; rw[e]
             ·rfl
            have main:∀u,look sl g=.d (.bool u)->gdK g b sl (fun sl=>I.wp P sl ob (fun v ob'=>rwp P (fun sl ob=>K' (Xk sl keep) ob) (fun v sl ob=>Pn' v (Xk sl pk) ob) r (put sl d' v) ob') (fun v ob'=>Pn' v (Xk sl pk) ob') i) (fun sl=>rwp P (fun sl ob=>K' (Xk sl keep) ob) (fun v sl ob=>Pn' v (Xk sl pk) ob) r (put sl d' .undef) ob) (look sl g):=by
             intro u hu
             rw[hu]
             simp only[gdK]
             have hh2:∀w,u=w->Inv T σ2 ((g,.d (.bool w))::sl) sl1 ob:=fun w e=>by
              subst e; rw[<-hu]; exact hI1.congr hcg
             refine⟨fun e1=>?_,fun e1=>?_⟩
             ·exact step (hh2 _ e1) (hr.1 (by rw[<-hh,Y2,hq,hu,e1]; simp[isB]))
             ·exact none' (hh2 _ e1) (by rw[Y2,hq,hu,e1]; cases b<;>simp[isB])
            rcases Xet hb with hb | hb
            ·exact main true (by rw[hv,hb])
            ·exact main false (by rw[hv,hb])
          ·cases hp
        ·cases h
       ·cases h
      ·cases h
     ·cases h
    ·cases h

theorem Xn2 {P:Prg}{n n':Xf->Xb->Prop}{Pn Pn':V->Xf->Xb->Prop}(hn:∀sl ob,n sl ob->n' sl ob)(hp:∀v sl ob,Pn v sl ob->Pn' v sl ob):∀(x:It) (sl:Xf) (ob:Xb),itK P n Pn x sl ob->itK P n' Pn' x sl ob
 | .op d i,sl,ob,h=>by
  simp only[itK]at h⊢
  exact I.wp_mono (fun _ _ h=>hn _ _ h) (fun _ _ h=>hp _ _ _ h) h
 | .gop s want d i,sl,ob,h=>by
  simp only[itK]at h⊢
  generalize look sl s=v at h⊢
  unfold gdK at h; split at h
  ·exact⟨fun e=>I.wp_mono (fun _ _ h=>hn _ _ h) (fun _ _ h=>hp _ _ _ h) (h.1 e),fun e=>hn _ _ (h.2 e)⟩
  ·exact hn _ _ h
  ·exact h.elim
mutual
theorem Xgb {P:Prg}{K K':Xf->Xb->Prop}{Pn Pn':V->Xf->Xb->Prop}(hk:∀sl ob,K sl ob->K' sl ob)(hp:∀v sl ob,Pn v sl ob->Pn' v sl ob):∀(t:Ot) (sl:Xf) (ob:Xb),owp P K Pn t sl ob->owp P K' Pn' t sl ob
 | .done,sl,ob,h=>by simp only[owp]at h⊢; exact hk _ _ h
 | .one _ x r,sl,ob,h=>by simp only[owp]at h⊢; exact Xn2 (fun sl ob h=>Xgb hk hp r sl ob h) hp x sl ob h
 | .br l,sl,ob,h=>by simp only[owp]at h⊢; exact Xiz hk hp l sl ob h
theorem Xiz {P:Prg}{K K':Xf->Xb->Prop}{Pn Pn':V->Xf->Xb->Prop}(hk:∀sl ob,K sl ob->K' sl ob)(hp:∀v sl ob,Pn v sl ob->Pn' v sl ob):∀(t:Ots) (sl:Xf) (ob:Xb),Xda P K Pn t sl ob->Xda P K' Pn' t sl ob
 | .nil,sl,ob,h=>by simp only[Xda]
 | .cons _ x r l,sl,ob,h=>by
  simp only[Xda]at h⊢
  exact⟨Xn2 (fun sl ob h=>Xgb hk hp r sl ob h) hp x sl ob h.1,Xiz hk hp l sl ob h.2⟩
end

inductive S2 where
 | rg (l:List It2) (keep:List (Nat×E)) (pk:List Nat)
 | rgT (t:Ot) (keep pk:List Nat)
 | seq (a b:S2)
 | skip
 | cond (c:A) (a b:S2)
 | block (n:Nat) (a:S2)
 | loop (keep:List Nat) (a:S2)
 | exit (n:Nat)
 | ret
 | rgf (tag:Nat) (ps:List Nat) (g:A) (x y:S) (keep:List Nat)

def Yy (P:Prg)(T:Tab):S2->Yz->Xf->Xb->Prop
 | .rg l keep pk,Q,sl,ob=>Vg P T (fun sl ob=>Wk T sl ob keep/\Q .normal (V1 T sl ob keep) ob) (fun v sl ob=>Q (.panic v) (Xk sl pk) ob) l sl ob
 | .rgT t keep pk,Q,sl,ob=>owp P (fun sl ob=>Q .normal (Xk sl keep) ob) (fun v sl ob=>Q (.panic v) (Xk sl pk) ob) t sl ob
 | .seq a b,Q,sl,ob=>Yy P T a (W4 (Yy P T b Q) Q) sl ob
 | .skip,Q,sl,ob=>Q .normal sl ob
 | .cond c a b,Q,sl,ob=>Jr (Yy P T a Q sl ob) (Yy P T b Q sl ob) (c.ev sl)
 | .block n a,Q,sl,ob=>Yy P T a (Zf n Q) sl ob
 | .loop keep a,Q,sl,ob=>ALoop keep (Yy P T a) Q sl ob
 | .exit n,Q,sl,ob=>Q (.exit n) sl ob
 | .ret,Q,sl,ob=>Q .ret sl ob
 | .rgf tag ps g x y keep,Q,sl,ob=>W5 P tag ps x y/\rgK P tag (Xk sl keep) ob Q (g.ev sl)

def S.lift (fs:List Nat):S->Option S2
 | .rg _ l keep pk=>match Jv fs keep pk l [] [] []with
  | some (l,kp)=>some (.rg l kp pk)
  | none=>none
 | .rgT _ t keep pk=>some (.rgT t keep pk)
 | .seq a b=>match a.lift fs,b.lift fs with
  | some a,some b=>some (.seq a b)
  | _,_=>none
 | .skip=>some .skip
 | .cond c a b=>match a.lift fs,b.lift fs with
  | some a,some b=>some (.cond c a b)
  | _,_=>none
 | .block n a=>match a.lift fs with
  | some a=>some (.block n a)
  | none=>none
 | .loop keep a=>match a.lift fs with
  | some a=>some (.loop keep a)
  | none=>none
 | .exit n=>some (.exit n)
 | .ret=>some .ret
 | .rgf tag ps g x y keep=>some (.rgf tag ps g x y keep)

theorem X2f {P:Prg}{tag:Nat}{slk:Xf}{ob:Xb}{Q Q':Yz}(hQ:∀e sl ob,Q e sl ob->Q' e sl ob){v:V}(h:rgK P tag slk ob Q v):rgK P tag slk ob Q' v:=by
 have hq:∀o b,rgQ Q slk (Xa ob) o b->rgQ Q' slk (Xa ob) o b:=fun o b h=>by
  cases o with
  | panic _=>exact h
  | ret v=>
   simp only[rgQ]at h⊢
   generalize Xe b _=z at h⊢
   unfold rgE at h; split at h
   ·exact hQ _ _ _ h
   ·exact hQ _ _ _ h
   ·exact hQ _ _ _ h
   ·exact h.elim
 unfold rgK at h; split at h
 ·exact⟨h.1,h.2.mono hq⟩
 ·exact⟨h.1,h.2.mono hq⟩
 ·exact h.elim

theorem S.lift_sound {P:Prg}{T:Tab}(hT:TOk P T){fs:List Nat}:∀(s:S) {s2:S2} {Q Q':Yz} {sl:Xf} {ob:Xb},s.lift fs=some s2->(∀e sl ob,Q e sl ob->Q' e sl ob)->Yy P T s2 Q sl ob->cwp P s Q' sl ob
 | .rg o l keep pk,s2,Q,Q',sl,ob,h,hQ,hc=>by
  simp only[S.lift]at h
  split at h
  ·rename_i l' kp hl
   cases h
   simp only[Yy]at hc
   simp only[cwp]
   exact Yv hT (K:=fun sl ob=>Q .normal sl ob) (Pn:=fun v sl ob=>Q (.panic v) sl ob) (fun _ _ h=>hQ _ _ _ h) (fun _ _ _ h=>hQ _ _ _ h) l
    (fun k p e h=>by simp[ent,Z8]at h; obtain⟨rfl,rfl⟩:=h; exact⟨fun _=>rfl,fun h=>by cases h⟩) hl hc
  ·cases h
 | .rgT n t keep pk,s2,Q,Q',sl,ob,h,hQ,hc=>by
  simp only[S.lift]at h
  cases h
  simp only[Yy]at hc
  simp only[cwp]
  exact Xgb (fun _ _ h=>hQ _ _ _ h) (fun _ _ _ h=>hQ _ _ _ h) t sl ob hc
 | .seq a b,s2,Q,Q',sl,ob,h,hQ,hc=>by
  simp only[S.lift]at h
  split at h
  ·rename_i a' b' ha hb
   cases h
   simp only[Yy]at hc
   simp only[cwp]
   refine S.lift_sound hT a ha (fun e sl ob h=>?_) hc
   cases e with
   | normal=>exact S.lift_sound hT b hb hQ h
   | _=>exact hQ _ _ _ h
  ·cases h
 | .skip,s2,Q,Q',sl,ob,h,hQ,hc=>by simp only[S.lift]at h; cases h; exact hQ _ _ _ hc
 | .cond c a b,s2,Q,Q',sl,ob,h,hQ,hc=>by
  simp only[S.lift]at h
  split at h
  ·rename_i a' b' ha hb
   cases h
   simp only[Yy]at hc
   simp only[cwp]
   generalize c.ev sl=v at hc⊢
   unfold Jr at hc; split at hc
   ·exact⟨fun e=>S.lift_sound hT a ha hQ (hc.1 e),fun e=>S.lift_sound hT b hb hQ (hc.2 e)⟩
   ·exact hc.elim
  ·cases h
 | .block n a,s2,Q,Q',sl,ob,h,hQ,hc=>by
  simp only[S.lift]at h
  split at h
  ·rename_i a' ha
   cases h
   simp only[Yy]at hc
   simp only[cwp]
   refine S.lift_sound hT a ha (fun e sl ob h=>?_) hc
   cases e with
   | exit m=>
    simp only[Zf]at h⊢
    split
    ·rename_i e; rw[if_pos e]at h; exact hQ _ _ _ h
    ·rename_i e; rw[if_neg e]at h; exact hQ _ _ _ h
   | _=>exact hQ _ _ _ h
  ·cases h
 | .loop keep a,s2,Q,Q',sl,ob,h,hQ,hc=>by
  simp only[S.lift]at h
  split at h
  ·rename_i a' ha
   cases h
   simp only[Yy]at hc
   simp only[cwp]
   obtain⟨ι,S,O,I,μ,i0,h1,h2,h3,h4⟩:=hc.run
   refine⟨⟨ι,S,O,I,μ,i0,h1,h2,h3,fun i hi=>S.lift_sound hT a ha (fun e sl ob h=>?_) (h4 i hi)⟩⟩
   cases e with
   | normal=>exact h
   | _=>exact hQ _ _ _ h
  ·cases h
 | .exit n,s2,Q,Q',sl,ob,h,hQ,hc=>by simp only[S.lift]at h; cases h; exact hQ _ _ _ hc
 | .ret,s2,Q,Q',sl,ob,h,hQ,hc=>by simp only[S.lift]at h; cases h; exact hQ _ _ _ hc
 | .rgf tag ps g x y keep,s2,Q,Q',sl,ob,h,hQ,hc=>by
  simp only[S.lift]at h; cases h
  simp only[Yy]at hc
  simp only[cwp]
  exact⟨hc.1,X2f hQ hc.2⟩
end Go.Ab
namespace Go.Ab
open Go

theorem Xg {P:Prg}{p:Program}(hP:P.p=p)(hm:p.follows .mixedOrders=true){f:Nat}{s:S}{rs:List RV}{ds:List D}{ob0:Xb}{K:V->Prop}{fs:List Nat}{s2:S2}{T:Tab}(hc:Xj p f ds.length s rs=true)(hl:s.lift fs=some s2)(hT:TOk P T)
  (h:Yy P T s2 (Xas rs K) (Vi 0 (ds.map .d)) []):PCall P f (ds.map .d) ob0 K:=
 X2a hP hm hc (S.lift_sound hT s hl (fun _ _ _ h=>h) h)

theorem Xo {P:Prg}{p:Program}(hP:P.p=p)(hm:p.follows .mixedOrders=true){f:Nat}{s:S}{rs:List RV}{vs:List V}{ob:Xb}{K:Out->Xb->Prop}{fs:List Nat}{s2:S2}{T:Tab}(hc:Xj p f vs.length s rs=true)(hl:s.lift fs=some s2)(hT:TOk P T)
  (h:(∀kp,V.mens (Xd (Xa ob) kp) vs=false)->(∀kp,Xi (Xd (Xa ob) kp) ob=true)->Yy P T s2 (Wy (Xa ob) rs K) (Vi 0 vs) ob):ACall P f vs ob K:=
 ACall.of_wf fun h1 h2=>by subst hP; exact Xdf hm hc (S.lift_sound hT s hl (fun _ _ _ h=>h) (h h1 h2))

def PFn (P:Prg)(f:Nat)(F:Fn):Prop:=∀vs,F.pre vs->∀(ob:Xb) (K:V->Prop),K (F.val vs)->PCall P f vs ob K
theorem TOk.nil {P:Prg}:TOk P []:=fun f F h=>by simp[Xkn]at h
theorem TOk.cons {P:Prg}{T:Tab}{f:Nat}{F:Fn}(h:PFn P f F)(hT:TOk P T):TOk P ((f,F)::T):=fun g G hg=>by
 simp only[Xkn]at hg
 split at hg
 ·rename_i e; subst e; cases hg; exact h
 ·exact hT g G hg

def Yol (v:V):Prop:=Xwj (fun w=>w=Ybe v) v
def mxS (u v:V):Prop:=mxK (fun w=>w=mxV u v) u v
def X22 (o:BinOp)(u v:V):Prop:=Xmw o (fun w=>w=X5h o u v) u v
def Xdz (e:Bool)(v:V):Prop:=Vc e (fun w=>w=Qy e v) v
def Yoc (k:IntKind)(v:V):Prop:=Xs0 k (fun w=>w=X57 k v) v
def idxS (u v:V):Prop:=Xx3 (fun w=>w=Yd3 u v) u v
def Xh1 (ob:Xb)(z:Nat)(u v:V):Prop:=Xao ob z (fun w=>w=Xh2 z u v) u v
def Xke (ob:Xb)(n z:Nat)(u v:V):Prop:=Xap ob n z (fun w=>w=Xe9 u v) u v
def Xpu (ob:Xb)(f fo:Nat)(v:V):Prop:=Vz ob f fo (fun w=>w=Xj8 f fo v) v
def ldS (ob:Xb)(n:Nat)(ag:Bool)(v:V):Prop:=ldK ob n ag (fun w=>w=ldV ob v) v
def Xp8 (v:V):Prop:=Xaq (fun w=>w=v) v
def X1u (v:V):Prop:=Xb5 (fun w=>w=Xkl v) v
def Q0 (ob:Xb)(v:V):Prop:=Qz ob (fun w=>w=U5 v) v
def Xav (l h:Option V)(v:V):Prop:=Xdc l h (fun w=>w=Jh l h v) v
def Yof (i:Nat)(v:V):Prop:=Xx2 i (fun w=>w=Yb7 i v) v
def Yor (t:Nat)(z:D)(v:V):Prop:=X2q t z (fun w=>w=Yck t z v) v

section
variable (P:Prg) (T:Tab) (sl:Xf) (ob:Xb) (x y z:E) (a:A) (u v w:V) (k j n m:Nat) (b c:Bool) (kd kd':IntKind) (i i':Int) (s s':List UInt8) (xs:List D) (vs:List V) (d:D) (o:BinOp) (p:List Nat)
-- what expressions yield
@[simp] theorem v_a:E.val T sl ob (.a a)=a.ev sl:=by simp only[E.val]
@[simp] theorem v_ite:E.val T sl ob (.ite x y z)=Xch (x.val T sl ob) (y.val T sl ob) (z.val T sl ob):=by simp only[E.val]
@[simp] theorem v_not:E.val T sl ob (.u (.not (.t 0)) x)=Ybe (x.val T sl ob):=by simp[E.val,C.val]
@[simp] theorem v_mx:E.val T sl ob (.b (.mx (.t 0) (.t 1)) x y)=mxV (x.val T sl ob) (y.val T sl ob):=by simp[E.val,C.val]
@[simp] theorem v_bin:E.val T sl ob (.b (.bin o (.t 0) (.t 1)) x y)=X5h o (x.val T sl ob) (y.val T sl ob):=by simp[E.val,C.val]
@[simp] theorem v_isnil:E.val T sl ob (.u (.isnil b (.t 0)) x)=Qy b (x.val T sl ob):=by simp[E.val,C.val]
@[simp] theorem v_cvi:E.val T sl ob (.u (.cvi kd (.t 0)) x)=X57 kd (x.val T sl ob):=by simp[E.val,C.val]
@[simp] theorem v_idx:E.val T sl ob (.b (.idx (.t 0) (.t 1)) x y)=Yd3 (x.val T sl ob) (y.val T sl ob):=by simp[E.val,C.val]
@[simp] theorem v_idxA:E.val T sl ob (.b (.idxA n (.t 0) (.t 1)) x y)=Xh2 n (x.val T sl ob) (y.val T sl ob):=by simp[E.val,C.val]
@[simp] theorem v_idxP:E.val T sl ob (.b (.idxP k n (.t 0) (.t 1)) x y)=Xe9 (x.val T sl ob) (y.val T sl ob):=by simp[E.val,C.val]
@[simp] theorem v_fldA:E.val T sl ob (.u (.fldA k n (.t 0)) x)=Xj8 k n (x.val T sl ob):=by simp[E.val,C.val]
@[simp] theorem v_ld:E.val T sl ob (.u (.ld n b (.t 0)) x)=ldV ob (x.val T sl ob):=by simp[E.val,C.val]
@[simp] theorem v_nilc:E.val T sl ob (.u (.nilc (.t 0)) x)=x.val T sl ob:=by simp[E.val,C.val]
@[simp] theorem v_lenS:E.val T sl ob (.u (.lenS (.t 0)) x)=Xkl (x.val T sl ob):=by simp[E.val,C.val]
@[simp] theorem v_lenL:E.val T sl ob (.u (.lenL (.t 0)) x)=U5 (x.val T sl ob):=by simp[E.val,C.val]
@[simp] theorem v_slcS1:E.val T sl ob (.b (.slcS (.t 0) (some (.t 1)) none) x y)=Jh (some (y.val T sl ob)) none (x.val T sl ob):=by simp[E.val,C.val]
@[simp] theorem v_slcS2:E.val T sl ob (.b (.slcS (.t 0) none (some (.t 1))) x y)=Jh none (some (y.val T sl ob)) (x.val T sl ob):=by simp[E.val,C.val]
@[simp] theorem v_slcS3:E.val T sl ob (.t (.slcS (.t 0) (some (.t 1)) (some (.t 2))) x y z)=Jh (some (y.val T sl ob)) (some (z.val T sl ob)) (x.val T sl ob):=by simp[E.val,C.val]
@[simp] theorem v_ext:E.val T sl ob (.u (.ext (.t 0) n) x)=Yb7 n (x.val T sl ob):=by simp[E.val,C.val]
@[simp] theorem v_mki:E.val T sl ob (.u (.mki n (.t 0)) x)=X13 n (x.val T sl ob):=by simp[E.val,C.val]
@[simp] theorem v_tas:E.val T sl ob (.u (.tas n d (.t 0)) x)=Yck n d (x.val T sl ob):=by simp[E.val,C.val]
-- when expressions are safe
@[simp] theorem o_a:E.ok T sl ob (.a a)=True:=by simp only[E.ok]
@[simp] theorem o_ite:E.ok T sl ob (.ite x y z)=(x.ok T sl ob/\Xbn (x.val T sl ob)/\(isB true (x.val T sl ob)=true->y.ok T sl ob)/\(isB false (x.val T sl ob)=true->z.ok T sl ob)):=by simp only[E.ok]
@[simp] theorem o_not:E.ok T sl ob (.u (.not (.t 0)) x)=(x.ok T sl ob/\Yol (x.val T sl ob)):=by simp[E.ok,C.ok,C.val,Yol]
@[simp] theorem o_mx:E.ok T sl ob (.b (.mx (.t 0) (.t 1)) x y)=(x.ok T sl ob/\y.ok T sl ob/\mxS (x.val T sl ob) (y.val T sl ob)):=by simp[E.ok,C.ok,C.val,mxS]
@[simp] theorem o_bin:E.ok T sl ob (.b (.bin o (.t 0) (.t 1)) x y)=(x.ok T sl ob/\y.ok T sl ob/\X22 o (x.val T sl ob) (y.val T sl ob)):=by simp[E.ok,C.ok,C.val,X22]
@[simp] theorem o_isnil:E.ok T sl ob (.u (.isnil b (.t 0)) x)=(x.ok T sl ob/\Xdz b (x.val T sl ob)):=by simp[E.ok,C.ok,C.val,Xdz]
@[simp] theorem o_cvi:E.ok T sl ob (.u (.cvi kd (.t 0)) x)=(x.ok T sl ob/\Yoc kd (x.val T sl ob)):=by simp[E.ok,C.ok,C.val,Yoc]
@[simp] theorem o_idx:E.ok T sl ob (.b (.idx (.t 0) (.t 1)) x y)=(x.ok T sl ob/\y.ok T sl ob/\idxS (x.val T sl ob) (y.val T sl ob)):=by simp[E.ok,C.ok,C.val,idxS]
@[simp] theorem o_idxA:E.ok T sl ob (.b (.idxA n (.t 0) (.t 1)) x y)=(x.ok T sl ob/\y.ok T sl ob/\Xh1 ob n (x.val T sl ob) (y.val T sl ob)):=by simp[E.ok,C.ok,C.val,Xh1]
@[simp] theorem o_idxP:E.ok T sl ob (.b (.idxP k n (.t 0) (.t 1)) x y)=(x.ok T sl ob/\y.ok T sl ob/\Xke ob k n (x.val T sl ob) (y.val T sl ob)):=by simp[E.ok,C.ok,C.val,Xke]
@[simp] theorem o_fldA:E.ok T sl ob (.u (.fldA k n (.t 0)) x)=(x.ok T sl ob/\Xpu ob k n (x.val T sl ob)):=by simp[E.ok,C.ok,C.val,Xpu]
@[simp] theorem o_ld:E.ok T sl ob (.u (.ld n b (.t 0)) x)=(x.ok T sl ob/\ldS ob n b (x.val T sl ob)):=by simp[E.ok,C.ok,C.val,ldS]
@[simp] theorem o_nilc:E.ok T sl ob (.u (.nilc (.t 0)) x)=(x.ok T sl ob/\Xp8 (x.val T sl ob)):=by simp[E.ok,C.ok,C.val,Xp8]
@[simp] theorem o_lenS:E.ok T sl ob (.u (.lenS (.t 0)) x)=(x.ok T sl ob/\X1u (x.val T sl ob)):=by simp[E.ok,C.ok,C.val,X1u]
@[simp] theorem o_lenL:E.ok T sl ob (.u (.lenL (.t 0)) x)=(x.ok T sl ob/\Q0 ob (x.val T sl ob)):=by simp[E.ok,C.ok,C.val,Q0]
@[simp] theorem o_slcS1:E.ok T sl ob (.b (.slcS (.t 0) (some (.t 1)) none) x y)=(x.ok T sl ob/\y.ok T sl ob/\Xav (some (y.val T sl ob)) none (x.val T sl ob)):=by simp[E.ok,C.ok,C.val,Xav]
@[simp] theorem o_slcS2:E.ok T sl ob (.b (.slcS (.t 0) none (some (.t 1))) x y)=(x.ok T sl ob/\y.ok T sl ob/\Xav none (some (y.val T sl ob)) (x.val T sl ob)):=by simp[E.ok,C.ok,C.val,Xav]
@[simp] theorem o_slcS3:E.ok T sl ob (.t (.slcS (.t 0) (some (.t 1)) (some (.t 2))) x y z)=(x.ok T sl ob/\y.ok T sl ob/\z.ok T sl ob/\Xav (some (y.val T sl ob)) (some (z.val T sl ob)) (x.val T sl ob)):=by simp[E.ok,C.ok,C.val,Xav]
@[simp] theorem o_ext:E.ok T sl ob (.u (.ext (.t 0) n) x)=(x.ok T sl ob/\Yof n (x.val T sl ob)):=by simp[E.ok,C.ok,C.val,Yof]
@[simp] theorem o_mki:E.ok T sl ob (.u (.mki n (.t 0)) x)=x.ok T sl ob:=by simp[E.ok,C.ok,C.val]
@[simp] theorem o_tas:E.ok T sl ob (.u (.tas n d (.t 0)) x)=(x.ok T sl ob/\Yor n d (x.val T sl ob)):=by simp[E.ok,C.ok,C.val,Yor]
-- values
@[simp] theorem pickV_b (b1 b2:Bool):Xch (.d (.bool b)) (.d (.bool b1)) (.d (.bool b2))=.d (.bool (if b then b1 else b2)):=by simp only[Xch]
attribute [simp] Xwr Xwp
@[simp] theorem notV_b:Ybe (.d (.bool b))=.d (.bool (!b)):=by simp only[Ybe]
@[simp] theorem notS_b:Yol (.d (.bool b))=True:=by simp[Yol]
@[simp] theorem mxV_i:mxV (.d (.int kd i)) (.d (.int kd' i'))=.d (.int kd (if i' > i then i' else i)):=by simp only[mxV]
@[simp] theorem mxS_i:mxS (.d (.int kd i)) (.d (.int kd' i'))=True:=by simp[mxS,mxK,mxV]
@[simp] theorem binV_i:X5h o (.d (.int kd i)) (.d (.int kd' i'))=Xab o kd i i':=by simp only[X5h]
@[simp] theorem binV_s:X5h o (.d (.str s)) (.d (.str s'))=X4u o s s':=by simp only[X5h]
@[simp] theorem intV_add:Xab .add kd i i'=.d (.int kd (kd.wrap (i+i'))):=by simp only[Xab]
@[simp] theorem intV_sub:Xab .sub kd i i'=.d (.int kd (kd.wrap (i-i'))):=by simp only[Xab]
@[simp] theorem intV_mul:Xab .mul kd i i'=.d (.int kd (kd.wrap (i*i'))):=by simp only[Xab]
@[simp] theorem intV_eql:Xab .eql kd i i'=.d (.bool (i==i')):=by simp only[Xab]
@[simp] theorem intV_neq:Xab .neq kd i i'=.d (.bool (i != i')):=by simp only[Xab]
@[simp] theorem intV_lss:Xab .lss kd i i'=.d (.bool (decide (i<i'))):=by simp only[Xab]
@[simp] theorem intV_leq:Xab .leq kd i i'=.d (.bool (decide (i<=i'))):=by simp only[Xab]
@[simp] theorem intV_gtr:Xab .gtr kd i i'=.d (.bool (decide (i'<i))):=by simp only[Xab]
@[simp] theorem intV_geq:Xab .geq kd i i'=.d (.bool (decide (i'<=i))):=by simp only[Xab]
@[simp] theorem strV_eql:X4u .eql s s'=.d (.bool (s==s')):=by simp only[X4u]
@[simp] theorem strV_neq:X4u .neq s s'=.d (.bool (s != s')):=by simp only[X4u]
def Yqg (o:BinOp)(i:Int):Prop:=match o with
 | .quo | .rem=>i ≠ 0
 | .shl | .shr=>0<=i
 | _=>True
@[simp] theorem binS_i:X22 o (.d (.int kd i)) (.d (.int kd i'))=Yqg o i':=by cases o<;>simp[X22,Yqg,Xx4,Xab]
attribute [simp] Yqg
@[simp] theorem binS_eql:X22 .eql (.d (.str s)) (.d (.str s'))=True:=by simp[X22]
@[simp] theorem binS_neq:X22 .neq (.d (.str s)) (.d (.str s'))=True:=by simp[X22]
@[simp] theorem isnilV_n:Qy b (.d .nili)=.d (.bool b):=by simp only[Qy]
@[simp] theorem isnilS_n:Xdz b (.d .nili)=True:=by simp[Xdz]
@[simp] theorem isnilV_di:Qy b (.d (.iface k d))=.d (.bool (!b)):=by simp only[Qy]
@[simp] theorem isnilS_di:Xdz b (.d (.iface k d))=True:=by simp[Xdz]
@[simp] theorem cviV_i:X57 kd (.d (.int kd' i))=.d (.int kd (kd.wrap i)):=by simp only[X57]
@[simp] theorem cviS_i:Yoc kd (.d (.int kd' i))=True:=by simp[Yoc]
@[simp] theorem idxV_s:Yd3 (.d (.str s)) (.d (.int kd i))=.d (.int .u8 (s.getD i.toNat 0).toNat):=by simp only[Yd3]
@[simp] theorem idxS_s:idxS (.d (.str s)) (.d (.int kd i))=(0<=i/\i<s.length):=by simp[idxS]
@[simp] theorem idxAV_l:Xh2 m (.d (.list n xs)) (.d (.int kd i))=.d (.ref (xs.getD i.toNat default)):=by simp only[Xh2]
@[simp] theorem idxAS_l:Xh1 ob n (.d (.list n xs)) (.d (.int kd i))=(0<=i/\i<xs.length):=by simp[Xh1]
@[simp] theorem idxPV_p:Xe9 (.ptr j p) (.d (.int kd i))=.ptr j (p++[i.toNat]):=by simp only[Xe9]
@[simp] theorem idxPV_c:Xe9 (.d (.ref (.agg xs))) (.d (.int kd i))=.d (.ref (xs.getD i.toNat default)):=by simp only[Xe9]
@[simp] theorem idxPS_p:Xke ob k n (.ptr j p) (.d (.int kd i))=((0<=i/\i<k)/\∃ks,Zc (atO ob j p)=some ks/\ks.length=k/\∀k∈ks,k.size=n):=by simp[Xke]
@[simp] theorem X6z:Xke ob k n (.d (.ref (.agg xs))) (.d (.int kd i))=((0<=i/\i<k)/\xs.length=k/\∀x∈xs,x.sz=n):=by simp[Xke]
@[simp] theorem fldAV_p:Xj8 k n (.ptr j p)=.ptr j (p++[k]):=by simp only[Xj8]
@[simp] theorem fldAV_c:Xj8 k n (.d (.ref (.agg xs)))=.d (.ref (xs.getD k default)):=by simp only[Xj8]
def Xnz (f fo:Nat):Option (List V)->Prop
 | some ks=>f<ks.length/\Sh.sizes ((ks.take f).map V.shape)=fo
 | none=>False
@[simp] theorem fldASo_s:Xnz k n (some vs)=(k<vs.length/\Sh.sizes ((vs.take k).map V.shape)=n):=by simp only[Xnz]
@[simp] theorem fldAS_p:Xpu ob k n (.ptr j p)=Xnz k n (Zc (atO ob j p)):=by
 simp only[Xpu,Vz,Xnz]; cases Zc (atO ob j p)<;>simp[V7]
@[simp] theorem fldAS_c:Xpu ob k n (.d (.ref (.agg xs)))=(k<xs.length/\D.szs (xs.take k)=n):=by simp[Xpu]
@[simp] theorem ldVo_s:X3j (some v)=v:=by simp only[X3j]
@[simp] theorem ldV_p:ldV ob (.ptr j p)=X3j (atO ob j p):=by simp only[ldV]
@[simp] theorem ldV_c:ldV ob (.d (.ref d))=.d d:=by simp only[ldV]
def Yca (n:Nat)(b:Bool):Option V->Prop
 | some v=>v.size=n/\v.isAgg=b
 | none=>False
@[simp] theorem ldSo_s:Yca n b (some v)=(v.size=n/\v.isAgg=b):=by simp only[Yca]
@[simp] theorem ldS_p:ldS ob n b (.ptr j p)=Yca n b (atO ob j p):=by
 simp only[ldS,ldK,ldV]; cases atO ob j p<;>simp[Xib,Yca,X3j]
@[simp] theorem ldS_c:ldS ob n b (.d (.ref d))=(d.sz=n/\(V.d d).isAgg=b):=by simp[ldS]
@[simp] theorem nilcS_p:Xp8 (.ptr j p)=True:=by simp[Xp8]
@[simp] theorem nilcS_c:Xp8 (.d (.ref d))=True:=by simp[Xp8]
@[simp] theorem lenSV_s:Xkl (.d (.str s))=.d (.int .i64 s.length):=by simp only[Xkl]
@[simp] theorem lenSS_s:X1u (.d (.str s))=True:=by simp[X1u]
@[simp] theorem lenLV_l:U5 (.d (.list n xs))=.d (.int .i64 xs.length):=by simp only[U5]
@[simp] theorem lenLV_n:U5 (.d .nils)=.d (.int .i64 0):=by simp only[U5]
@[simp] theorem lenLV_o:U5 (.sl j n)=.d (.int .i64 n):=by simp only[U5]
@[simp] theorem lenLS_l:Q0 ob (.d (.list n xs))=True:=by simp[Q0]
@[simp] theorem lenLS_n:Q0 ob (.d .nils)=True:=by simp[Q0]
@[simp] theorem lenLS_o:Q0 ob (.sl j n)=((∃E z xs,Xe ob j=some (.arr E z xs)/\n=xs.length)\/∃E z xs,Xe ob j=some (.vec E z xs)/\n=xs.length):=by simp[Q0]
@[simp] theorem slcSV_sn:Jh (some (.d (.int kd i))) none (.d (.str s))=.d (.str (s.drop i.toNat)):=by simp[Jh,X24]
@[simp] theorem slcSV_ns:Jh none (some (.d (.int kd i))) (.d (.str s))=.d (.str (s.take i.toNat)):=by simp[Jh,X24]
@[simp] theorem slcSV_ss:Jh (some (.d (.int kd i))) (some (.d (.int kd' i'))) (.d (.str s))=.d (.str ((s.take i'.toNat).drop i.toNat)):=by simp only[Jh,X24]
@[simp] theorem slcSS_sn:Xav (some (.d (.int kd i))) none (.d (.str s))=(0<=i/\i<=s.length):=by simp[Xav,Jh,X24]
@[simp] theorem slcSS_ns:Xav none (some (.d (.int kd i))) (.d (.str s))=(0<=i/\i<=s.length):=by simp[Xav,Jh,X24]
@[simp] theorem slcSS_ss:Xav (some (.d (.int kd i))) (some (.d (.int kd' i'))) (.d (.str s))=((0<=i'/\i'<=s.length)/\0<=i/\i<=i'):=by simp[Xav,Jh,X24]
@[simp] theorem extV_t:Yb7 n (.tup vs)=vs.getD n .any:=by simp only[Yb7]
@[simp] theorem extS_t:Yof n (.tup vs)=(n<vs.length):=by simp[Yof,Yb7]
@[simp] theorem tasV_dy (d':D):Yck k d (.d (.iface k d'))=.tup [.d d',.d (.bool true)]:=by simp[Yck]
@[simp] theorem tasS_d (d':D):Yor k d (.d (.iface j d'))=True:=by by_cases h:j=k<;>simp[Yor,X2q,Yck,h]
@[simp] theorem isB_b:isB c (.d (.bool b))=(b==c):=by simp only[isB]
@[simp] theorem boolV_b:Xbn (.d (.bool b))=True:=by simp only[Xbn]
@[simp] theorem whenV_t:Xgk true v=v:=by simp[Xgk]
@[simp] theorem whenV_f:Xgk false v=.undef:=by simp[Xgk]
@[simp] theorem holdsB_nil:Zo T sl ob []=true:=by simp[Zo]
@[simp] theorem holdsB_cons (l:List (E×Bool)):Zo T sl ob ((x,b)::l)=(isB b (x.val T sl ob)&&Zo T sl ob l):=by simp[Zo]
-- folded statements
@[simp] theorem zy (KS:Xf->Xb->Prop)(PS:V->Xf->Xb->Prop):Vg P T KS PS [] sl ob=KS sl ob:=by simp only[Vg]
@[simp] theorem zu (KS:Xf->Xb->Prop)(PS:V->Xf->Xb->Prop)(q:List (E×Bool))(l:List It2):Vg P T KS PS (.chk q x::l) sl ob=((Zo T sl ob q=true->x.ok T sl ob)/\Vg P T KS PS l sl ob):=by simp only[Vg]
@[simp] theorem zx (KS:Xf->Xb->Prop)(PS:V->Xf->Xb->Prop)(q:List (E×Bool))(l:List It2):Vg P T KS PS (.lt k q x::l) sl ob=((Zo T sl ob q=true->x.ok T sl ob)/\Vg P T KS PS l ((k,Xgk (Zo T sl ob q) (x.val T sl ob))::sl) ob):=by simp only[Vg]
@[simp] theorem zz (KS:Xf->Xb->Prop)(PS:V->Xf->Xb->Prop)(dd:Option Nat)(e:I)(l:List It2):Vg P T KS PS (.op dd e::l) sl ob=e.wp P sl ob (fun v ob'=>Vg P T KS PS l (put sl dd v) ob') (fun v ob'=>PS v sl ob'):=by simp only[Vg]
@[simp] theorem zw (KS:Xf->Xb->Prop)(PS:V->Xf->Xb->Prop)(q:List (E×Bool))(dd:Option Nat)(e:I)(l:List It2):Vg P T KS PS (.gop q dd e::l) sl ob=((Zo T sl ob q=true->e.wp P sl ob (fun v ob'=>Vg P T KS PS l (put sl dd v) ob') (fun v ob'=>PS v sl ob'))/\(Zo T sl ob q=false->Vg P T KS PS l (put sl dd .undef) ob)):=by simp only[Vg]
@[simp] theorem keepE_nil:V1 T sl ob []=[]:=by simp only[V1]
@[simp] theorem keepE_cons (l:List (Nat×E)):V1 T sl ob ((k,x)::l)=(k,x.val T sl ob)::V1 T sl ob l:=by simp only[V1]
@[simp] theorem keepOk_nil:Wk T sl ob []=True:=by simp only[Wk]
@[simp] theorem keepOk_cons (l:List (Nat×E)):Wk T sl ob ((k,x)::l)=(x.ok T sl ob/\Wk T sl ob l):=by simp only[Wk]
variable (Q:Yz) (s1 s2:S2)
@[simp] theorem qm (l:List It2)(kp:List (Nat×E))(pk:List Nat):Yy P T (.rg l kp pk) Q sl ob=Vg P T (fun sl ob=>Wk T sl ob kp/\Q .normal (V1 T sl ob kp) ob) (fun v sl ob=>Q (.panic v) (Xk sl pk) ob) l sl ob:=by simp only[Yy]
@[simp] theorem qp:Yy P T (.seq s1 s2) Q sl ob=Yy P T s1 (W4 (Yy P T s2 Q) Q) sl ob:=by simp only[Yy]
@[simp] theorem qq:Yy P T .skip Q sl ob=Q .normal sl ob:=by simp only[Yy]
@[simp] theorem qj:Yy P T (.cond a s1 s2) Q sl ob=Jr (Yy P T s1 Q sl ob) (Yy P T s2 Q sl ob) (a.ev sl):=by simp only[Yy]
@[simp] theorem qi:Yy P T (.block n s1) Q sl ob=Yy P T s1 (Zf n Q) sl ob:=by simp only[Yy]
@[simp] theorem Xy (kp:List Nat):Yy P T (.loop kp s1) Q sl ob=ALoop kp (Yy P T s1) Q sl ob:=by simp only[Yy]
@[simp] theorem qk:Yy P T (.exit n) Q sl ob=Q (.exit n) sl ob:=by simp only[Yy]
@[simp] theorem ql:Yy P T .ret Q sl ob=Q .ret sl ob:=by simp only[Yy]
end
@[congr] theorem rwp2_congr {P:Prg}{T:Tab}{KS:Xf->Xb->Prop}{PS:V->Xf->Xb->Prop}{l:List It2}{sl sl':Xf}{ob ob':Xb}(h:sl=sl')(h':ob=ob'):Vg P T KS PS l sl ob=Vg P T KS PS l sl' ob':=by rw[h,h']
@[congr] theorem cwp2_congr {P:Prg}{T:Tab}{s:S2}{Q:Yz}{sl sl':Xf}{ob ob':Xb}(h:sl=sl')(h':ob=ob'):Yy P T s Q sl ob=Yy P T s Q sl' ob':=by rw[h,h']
@[congr] theorem E_val_congr {T:Tab}{sl:Xf}{ob:Xb}{e:E}:E.val T sl ob e=E.val T sl ob e:=rfl
@[congr] theorem E_ok_congr {T:Tab}{sl:Xf}{ob:Xb}{e:E}:E.ok T sl ob e=E.ok T sl ob e:=rfl
end Go.Ab
namespace Go.Ab
open Go

def Xat {α β:Type}(f:α->Option β):List α->Option (List β)
 | []=>some []
 | x::r=>match f x with
  | some y=>match Xat f r with
   | some l=>some (y::l)
   | none=>none
  | none=>none
def Xvd (k:Nat):Option Ob->Option D
 | some (.arr _ sz xs)=>if sz ≠ 0/\k=xs.length then some (.list sz xs) else none
 | _=>none
def refO (f:V->Option D):Option V->Option D
 | some t=>(f t).map .ref
 | none=>none
def V.toD (ob:Xb):Nat->V->Option D
 | 0,_=>none
 | _+1,.d x=>some x
 | n+1,.ptr id p=>refO (V.toD ob n) (atO ob id p)
 | _+1,.sl id k=>Xvd k (Xe ob id)
 | n+1,.fn f fi ca=>match Xat (V.toD ob n) fi,Xat (V.toD ob n) ca with
  | some l,some m=>some (.fn f l m)
  | _,_=>none
 | n+1,.agg xs=>(Xat (V.toD ob n) xs).map .agg
 | n+1,.iface t x=>(V.toD ob n x).map (.iface t)
 | _+1,_=>none
def V.toDs (ob:Xb)(n:Nat)(vs:List V):Option (List D):=Xat (V.toD ob n) vs

mutual
def D.flat:D->Bool
 | .agg xs=>D.flats xs
 | .list _ _ | .ref _ | .fn _ _ _ | .iface _ _=>false
 | _=>true
def D.flats:List D->Bool
 | []=>true
 | x::r=>x.flat&&D.flats r
end
def V.flat:V->Bool
 | .d x=>x.flat
 | _=>false
def V.flatR:V->Bool
 | .d x=>x.flat
 | .tup xs=>xs.all V.flat
 | _=>false

section
variable {w:World} {ρ:Env} {ob:Xb}
def Xx6:Nat->Prop:=fun _=>False
theorem X8q:Xgm w (own ρ) w Xx6:=fun _ _ _=>⟨rfl,fun h=>h⟩

mutual
theorem D.flat_rep {ow ow':Nat->Prop}:∀(x:D) (cs:List Value),x.flat=true->x.rep w ow cs->x.rep w ow' cs
 | .int _ _,_,_,h | .bool _,_,_,h | .str _,_,_,h | .nils,_,_,h | .nili,_,_,h | .nilp,_,_,h | .nilf,_,_,h | .nilm,_,_,h=>by simpa only[D.rep]using h
 | .agg xs,cs,hf,h=>by simp only[D.rep]at h⊢; simp only[D.flat]at hf; exact D.flats_rep xs cs hf h
 | .list _ _,_,hf,_ | .ref _,_,hf,_ | .fn _ _ _,_,hf,_ | .iface _ _,_,hf,_=>by simp[D.flat]at hf
theorem D.flats_rep {ow ow':Nat->Prop}:∀(xs:List D) (cs:List Value),D.flats xs=true->D.repL w ow xs cs->D.repL w ow' xs cs
 | [],_,_,h=>by simpa only[D.repL]using h
 | x::r,cs,hf,h=>by
  simp only[D.repL]at h⊢
  simp only[D.flats,Bool.and_eq_true]at hf
  obtain⟨c1,c2,e,h1,h2⟩:=h
  exact⟨c1,c2,e,D.flat_rep x c1 hf.1 h1,D.flats_rep r c2 hf.2 h2⟩
end
theorem V.flat_rep {ρ':Env}{v:V}{u:Value}(hf:v.flat=true)(h:v.rep w ρ u):v.rep w ρ' u:=by
 cases v with
 | d x=>
  simp only[V.flat]at hf
  rw[Uu]at h⊢
  rcases h with⟨a,ds,e,r⟩ | ⟨a,r⟩
  ·exact .inl ⟨a,ds,e,D.flat_rep x ds hf r⟩
  ·exact .inr ⟨a,D.flat_rep x _ hf r⟩
 | _=>simp[V.flat]at hf
theorem V.flats_rep {ρ':Env}:∀{vs:List V} {us:List Value},vs.all V.flat=true->V.reps w ρ vs us->V.reps w ρ' vs us
 | [],_,_,h=>by simpa only[V.reps]using h
 | v::r,us,hf,h=>by
  simp only[List.all_cons,Bool.and_eq_true]at hf
  simp only[V.reps]at h⊢
  obtain⟨u,us',e,h1,h2⟩:=h
  exact⟨u,us',e,V.flat_rep (ρ:=ρ) (u:=u) hf.1 h1,V.flats_rep hf.2 h2⟩
theorem V.flatR_rep {ρ':Env}{v:V}{u:Value}(hf:v.flatR=true)(h:v.rep w ρ u):v.rep w ρ' u:=by
 cases v with
 | d x=>exact V.flat_rep (v:=.d x) hf h
 | tup xs=>
  rw[Zd]at h⊢
  obtain⟨vs,e,h⟩:=h
  exact⟨vs,e,V.flats_rep hf h⟩
 | _=>simp[V.flatR]at hf

theorem Xjf (hO:OM w ρ ob):∀(n:Nat) (v:V) (cs:List Value) (y:D),v.repC w ρ cs->V.toD ob n v=some y->y.rep w Xx6 cs/\y.isAgg=v.isAgg:=by
 intro n
 induction n with
 | zero=>intro v cs y _ h; simp[V.toD]at h
 | succ n ih=>
  have ihT:∀(v:V) (u:Value) (y:D),v.rep w ρ u->V.toD ob n v=some y->(y.isAgg=true/\∃ds,u=.agg ds.toArray/\y.rep w Xx6 ds)\/(y.isAgg=false/\y.rep w Xx6 [u]):=by
   intro v u y h e
   rcases h with h | ⟨a,ds,q,r⟩ | ⟨a,r⟩
   ·subst h; cases n<;>simp[V.toD]at e
   ·obtain⟨h1,h2⟩:=ih v ds y r e; exact .inl ⟨h2.trans a,ds,q,h1⟩
   ·obtain⟨h1,h2⟩:=ih v _ y r e; exact .inr ⟨h2.trans a,h1⟩
  have seqT:∀(vs:List V) (us:List Value) (l:List D),V.reps w ρ vs us->Xat (V.toD ob n) vs=some l->D.repT w Xx6 l us:=by
   intro vs
   induction vs with
   | nil=>intro us l h e; simp only[Xat]at e; cases e; simpa only[V.reps,D.repT]using h
   | cons v r ihr=>
    intro us l h e
    simp only[V.reps]at h
    obtain⟨u,us',rfl,h1,h2⟩:=h
    simp only[Xat]at e
    split at e
    ·rename_i y hy
     split at e
     ·rename_i l' hl; cases e
      simp only[D.repT]
      exact⟨u,us',rfl,ihT v u y h1 hy,ihr us' l' h2 hl⟩
     ·cases e
    ·cases e
  have Ynd:∀(vs:List V) (cs:List Value) (l:List D),V.repCs w ρ vs cs->Xat (V.toD ob n) vs=some l->D.repL w Xx6 l cs:=by
   intro vs
   induction vs with
   | nil=>intro us l h e; simp only[Xat]at e; cases e; simpa only[V.repCs,D.repL]using h
   | cons v r ihr=>
    intro cs l h e
    simp only[V.repCs]at h
    obtain⟨c1,c2,rfl,h1,h2⟩:=h
    simp only[Xat]at e
    split at e
    ·rename_i y hy
     split at e
     ·rename_i l' hl; cases e
      simp only[D.repL]
      exact⟨c1,c2,rfl,(ih v c1 y h1 hy).1,ihr c2 l' h2 hl⟩
     ·cases e
    ·cases e
  intro v cs y h e
  cases v with
  | d x=>
   simp only[V.toD]at e; cases e
   simp only[V.repC]at h
   exact⟨D.rep_mono X8q _ _ h,by cases y<;>rfl⟩
  | ptr id p=>
   simp only[V.toD]at e
   cases hat:atO ob id p with
   | none=>rw[hat]at e; simp only[refO]at e; cases e
   | some t=>
    simp only[hat,refO,Option.map_eq_some_iff]at e
    obtain⟨z,hz,rfl⟩:=e
    obtain⟨t0,b,cs0,E,g1,g2,g3,g4,g5⟩:=Qm hO hat
    have hr:(V.ptr id p).rep w ρ (cs.headD undef):=by
     have hl:=V.repC_len _ _ h
     simp[V.shape,Sh.size]at hl
     obtain⟨c,rfl⟩:=List.length_eq_one_iff.1 hl
     exact .inr (.inr ⟨rfl,by simpa using h⟩)
    obtain⟨b',sh,hρ,hu⟩:=Yi hO g1 hr
    rw[g3]at hρ; cases hρ
    have hl:=V.repC_len _ _ h
    simp[V.shape,Sh.size]at hl
    obtain⟨c,rfl⟩:=List.length_eq_one_iff.1 hl
    simp only[List.headD_cons]at hu
    subst hu
    obtain⟨c1,c2,c3,e1,e2,h5⟩:=V.repC_at p t0 t cs0 g5 g2
    refine⟨?_,rfl⟩
    simp only[D.rep]
    refine⟨_,c2,rfl,rfl,⟨fun _=>⟨rfl,fun h=>h,Xh g4⟩,fun i hi=>?_⟩,(ih t c2 z h5 hz).1⟩
    rw[<-e2]
    simp[World.cell?,g4,e1,List.getElem?_append,hi]
  | sl id k=>
   simp only[V.toD]at e
   unfold Xvd at e
   split at e
   ·rename_i E sz xs hl
    split at e
    ·rename_i hc; cases e
     obtain⟨hsz,rfl⟩:=hc
     simp only[V.repC]at h
     obtain⟨o,u,h1,rfl,h2⟩:=h
     have:=Qs hO hl hsz (u:=u) (by rw[Yg]; exact⟨o,h1,h2⟩)
     rw[Z3 (by simp[V.isAgg]) (by simp)]at this
     simp only[V.repC]at this
     exact⟨D.rep_mono (ow':=Xx6) (fun _ _ _=>⟨rfl,fun h=>h⟩) _ _ this,rfl⟩
    ·cases e
   ·cases e
  | fn f fi ca=>
   simp only[V.toD]at e
   split at e
   ·rename_i l m hl hm
    cases e
    simp only[V.repC]at h
    obtain⟨fs,gs,e1,h1,h2⟩:=h
    exact⟨by simp only[D.rep]; exact⟨fs,gs,e1,seqT fi fs l h1 hl,seqT ca gs m h2 hm⟩,rfl⟩
   ·cases e
  | agg xs=>
   simp only[V.toD,Option.map_eq_some_iff]at e
   obtain⟨l,hl,rfl⟩:=e
   simp only[V.repC]at h
   exact⟨by simp only[D.rep]; exact Ynd xs cs l h hl,rfl⟩
  | iface t x=>
   simp only[V.toD,Option.map_eq_some_iff]at e
   obtain⟨z,hz,rfl⟩:=e
   simp only[V.repC]at h
   obtain⟨u,e1,h1⟩:=h
   exact⟨by simp only[D.rep]; exact⟨u,e1,ihT x u z h1 hz⟩,rfl⟩
  | _=>simp[V.toD]at e

theorem Xeh (hO:OM w ρ ob){n:Nat}:∀(vs:List V) (us:List Value) (l:List D),V.reps w ρ vs us->V.toDs ob n vs=some l->D.repT w Xx6 l us
 | [],us,l,h,e=>by simp only[V.toDs,Xat]at e; cases e; simpa only[V.reps,D.repT]using h
 | v::r,us,l,h,e=>by
  simp only[V.reps]at h
  obtain⟨u,us',rfl,h1,h2⟩:=h
  simp only[V.toDs,Xat]at e
  split at e
  ·rename_i y hy
   split at e
   ·rename_i l' hl; cases e
    simp only[D.repT]
    refine⟨u,us',rfl,?_,Xeh hO r us' l' h2 hl⟩
    rcases h1 with h | ⟨a,ds,q,r⟩ | ⟨a,r⟩
    ·subst h; cases n<;>simp[V.toD]at hy
    ·obtain⟨h1,h2⟩:=Xjf hO n v ds y r hy; exact .inl ⟨h2.trans a,ds,q,h1⟩
    ·obtain⟨h1,h2⟩:=Xjf hO n v _ y r hy; exact .inr ⟨h2.trans a,h1⟩
   ·cases e
  ·cases e

theorem PCall.borrow {P:Prg}{f n:Nat}{vs:List V}{ds:List D}{K:V->Prop}(hd:V.toDs ob n vs=some ds)(h:PCall P f (ds.map .d) [] fun v=>v.flatR=true/\K v):PCall P f vs ob K:=by
 refine⟨fun w ρ args hO hg hr=>?_⟩
 let ρ0:Env:=⟨fun _=>none,Xx6,ρ.gl⟩
 have hno:∀b,¬own ρ0 b:=fun b h=>h.elim (fun ⟨_,_,h,_⟩=>by cases h) (fun h=>h)
 have hO0:OM w ρ0 []:=⟨fun j x hx=>(by simp[Xe]at hx),fun j o hj=>(by cases hj),fun i j o p b hi=>(by cases hi),fun b hb=>hb.elim,fun b o hb=>⟨(hO.glb b o hb).1,hno b⟩,fun b hb=>absurd (.inl hb) (hno b),trivial⟩
 have hr0:V.reps w ρ0 (ds.map .d) args:=by
  rw[Xeb]
  have:=Xeh hO vs args ds hr hd
  exact D.repT_mono (ow:=Xx6) (fun _ _ _=>⟨rfl,hno _⟩) _ _ this
 refine (h.run w ρ0 args hO0 hg hr0).mono fun e w' ⟨v,u,⟨k1,k2⟩,he,r,x⟩=>⟨v,u,k2,he,V.flatR_rep k1 r,x⟩
theorem PCall.data {P:Prg}{f:Nat}{vs:List V}{ds:List D}{K:V->Prop}(hd:vs=ds.map .d)(h:PCall P f (ds.map .d) ob K):PCall P f vs ob K:=by subst hd; exact h
end

section
variable (ob:Xb) (n k f:Nat) (x:D) (v:V) (vs:List V) (p:List Nat)
@[simp] theorem toD_d:V.toD ob (n+1) (.d x)=some x:=by simp only[V.toD]
@[simp] theorem toD_ptr:V.toD ob (n+1) (.ptr k p)=refO (V.toD ob n) (atO ob k p):=by simp only[V.toD]
@[simp] theorem toD_sl (m:Nat):V.toD ob (n+1) (.sl k m)=Xvd m (Xe ob k):=by simp only[V.toD]
@[simp] theorem lentO_s (m E sz:Nat)(xs:List D):Xvd m (some (.arr E sz xs))=if sz ≠ 0/\m=xs.length then some (.list sz xs) else none:=by simp only[Xvd]
@[simp] theorem refO_s (g:V->Option D):refO g (some v)=(g v).map .ref:=by simp only[refO]
def fnO (f:Nat):Option (List D)->Option (List D)->Option D
 | some l,some m=>some (.fn f l m)
 | _,_=>none
@[simp] theorem toD_fn (l l':List V):V.toD ob (n+1) (.fn f l l')=fnO f (Xat (V.toD ob n) l) (Xat (V.toD ob n) l'):=by
 simp only[V.toD]; cases Xat (V.toD ob n) l<;>cases Xat (V.toD ob n) l'<;>rfl
@[simp] theorem fnO_ss (l l':List D):fnO f (some l) (some l')=some (.fn f l l'):=by simp only[fnO]
@[simp] theorem toD_agg:V.toD ob (n+1) (.agg vs)=(Xat (V.toD ob n) vs).map .agg:=by simp only[V.toD]
@[simp] theorem toDs_eq:V.toDs ob n vs=Xat (V.toD ob n) vs:=by simp only[V.toDs]
@[simp] theorem seqO_nil {α β:Type}(g:α->Option β):Xat g []=some []:=by simp only[Xat]
def Ynd {β:Type}:Option β->Option (List β)->Option (List β)
 | some y,some l=>some (y::l)
 | _,_=>none
@[simp] theorem seqO_cons {α β:Type}(g:α->Option β)(a:α)(l:List α):Xat g (a::l)=Ynd (g a) (Xat g l):=by
 simp only[Xat]; cases g a<;>cases Xat g l<;>rfl
@[simp] theorem seqC_ss {β:Type}(y:β)(l:List β):Ynd (some y) (some l)=some (y::l):=by simp only[Ynd]
end
attribute [simp] D.flat D.flats V.flat V.flatR
end Go.Ab
namespace Go.Ab
open Go


structure DCall (P:Prg)(f:Nat)(vs:List V)(ob:Xb)(rv:Option V)(K:Xb->Prop):Prop where
 ret:rv=none->∀w ρ args,OM w ρ ob->ρ.gl=P.g->V.reps w ρ vs args->CallsD P.p f args.toArray .returning w (fun e u w'=>(∃v,e=.returned v)/\u=.returning/\∃ob' ρ',K ob'/\OM w' ρ' ob'/\Tr w ρ w' ρ')
 pan:∀v,rv=some v->∀w ρ args x,OM w ρ ob->ρ.gl=P.g->V.reps w ρ vs args->v.rep w ρ x->(∃t y,x=.iface t y)->CallsD P.p f args.toArray (.panicking [{ v:=x,recovered:=false }]) w
  (fun e u w'=>(∃v,e=.returned v)/\u=.panicking [{ v:=x,recovered:=true }]/\∃ob' ρ',K ob'/\OM w' ρ' ob'/\Tr w ρ w' ρ')

def I.plain:I->Bool
 | .c _ | .box _ _ | .alloc _ _ | .bls _ _ _ | .blo _ _ _ _ | .blv _ _ _ _ | .st _ _ _=>true
 | _=>false
def It.plain:It->Bool
 | .op _ i=>i.plain
 | .gop _ _ _ i=>i.plain
theorem Xxw {P:Program}{o:Oper}{a:Act}{w:World}{next:Act->World->Prop}{Q:Exit->Act->World->Prop}(h:wpA P o a w next Q)(hn:∀l f t x y w',(execOp a.eval o).run P w ≠ .ok (.round l f t x y) w'):o.wp P a w next Q:=by
 unfold wpA at h
 unfold Oper.wp
 generalize (execOp a.eval o).run P w=r at h hn
 cases r with
 | ok n w'=>cases n<;>first | exact h | exact (h:False).elim | exact absurd rfl (hn _ _ _ _ _ _)
 | halt x w'=>cases x<;>exact h
theorem Qd {P:Program}{w w':World}{s:Sem Value}{l f:Nat}{t:Array Value}{x y:Code}:(do let v <-s; pure (Next.value v):Sem Next).run P w ≠ .ok (.round l f t x y) w':=by
 intro h
 rw[Sem.run_bind]at h
 cases hs:s.run P w with
 | ok v w2=>simp[hs]at h
 | halt q w2=>simp[hs]at h
theorem Xjd {P:Program}{w w':World}{s:Sem Unit}{l f:Nat}{t:Array Value}{x y:Code}:(do s; pure Next.skip:Sem Next).run P w ≠ .ok (.round l f t x y) w':=by
 intro h
 rw[Sem.run_bind]at h
 cases hs:s.run P w with
 | ok v w2=>simp[hs]at h
 | halt q w2=>simp[hs]at h
theorem Q9 {P:Prg}{w:World}{ρ:Env}{sl:Xf}{ob:Xb}{a:Act}{K Pn:V->Xb->Prop}{o:Oper}{i:I}(hs:SM w ρ sl a)(hO:OM w ρ ob)(hp:i.plain=true)(hc:i.chk P.p o.op=true)(h:i.wp P sl ob K Pn)(l f:Nat)(t:Array Value)(x y:Code)(w':World) :
  (execOp a.eval o).run P.p w ≠ .ok (.round l f t x y) w':=by
 cases i<;>simp only[I.plain,Bool.false_eq_true]at hp
 case c cc=>
  obtain⟨v,z,_,_,hrun⟩:=C.sound hs hO hc (by simpa only[I.wp]using h)
  rw[hrun o rfl w (fun _=>Ext.refl w)]
  simp
 case box=>
  obtain⟨id,op,b1,b2,b3,b4⟩:=o
  cases op<;>simp only[I.chk,Bool.false_eq_true]at hc
  exact Qd
 case alloc=>
  obtain⟨id,op,b1,b2,b3,b4⟩:=o
  cases op<;>simp only[I.chk,Bool.false_eq_true]at hc
  exact Qd
 case st=>
  obtain⟨id,op,b1,b2,b3,b4⟩:=o
  cases op<;>simp only[I.chk,Bool.false_eq_true]at hc
  exact Xjd
 all_goals
  obtain⟨id,op,b1,b2,b3,b4⟩:=o
  cases op<;>simp only[I.chk,Xdl,Bool.false_eq_true]at hc
  exact Qd

def Yna:Op->Bool
 | .call { callee:=.builtin .recover,.. }=>true
 | _=>false
def Xhd (P:Program)(f n k:Nat)(its:List It)(s:S):Bool:=match P.funcs[f]? with
 | some fn=>match fn.body with
  | some (.seq (.region _ ops false) code)=>match ops.toList with
   | o::os=>decide (n<=fn.ntmps)&&decide (k<fn.ntmps)&&Yna o.op&&o.dst==some k&&o.guard.isNone&&Wa P fn.ntmps ops os its&&its.all It.plain&&S.chk P fn.ntmps code s&&s.noR&&fn.results.isEmpty
   | []=>false
  | _=>false
 | none=>false

def dQ (n:Nat)(K:Xb->Prop):Yz
 | .normal,_,ob=>Yc n K [] ob
 | .ret,_,ob=>Yc n K [] ob
 | .panic _,_,_=>False
 | .exit _,_,_=>False

theorem U7 {P:Prg}{c:Ctx}(hg:P.g=c.g){xo:Nat->Prop}{ops:Array Oper}{cs:List Frame}{Q:Exit->Act->List Frame->World->Prop}{K:Xf->Xb->Prop}
  (hK:∀sl ob ρ a w,K sl ob->Mod c xo ρ sl ob a w->Q .normal a cs w) :
  ∀(l:List Oper) (j:Nat) (its:List It) (sl:Xf) (ob:Xb) (ρ:Env) (a:Act) (w:World),ops.toList.drop j=l->Wa P.p c.N ops l its=true->its.all It.plain=true->rwp P K (fun _ _ _=>False) its sl ob->Mod c xo ρ sl ob a w->wpOpsS P.p ops Q (List.range' j l.length) a cs w
 | [],j,[],sl,ob,ρ,a,w,_,_,_,h,m=>by simp only[List.length_nil,List.range'_zero,wpOpsS]; exact hK sl ob ρ a w h m
 | o::r,j,i::s,sl,ob,ρ,a,w,hd,hc,hp,h,m=>by
  simp only[List.all_cons,Bool.and_eq_true]at hp
  obtain⟨hp1,hp⟩:=hp
  simp only[Wa,Bool.and_eq_true]at hc
  obtain⟨h1,h2⟩:=hc
  have hj:ops[j]? = some o:=by
   have:=congrArg (·[0]?) hd
   simpa using this
  have hd':ops.toList.drop (j+1)=r:=by
   have:=congrArg (List.drop 1) hd
   simpa[List.drop_drop]using this
  have step:∀(d:Option Nat) (x:I) (sl:Xf),x.plain=true->SM w ρ sl a->Jt c.N o.dst d=true->x.chk P.p o.op=true->x.wp P sl ob (fun v ob'=>rwp P K (fun _ _ _=>False) s (put sl d v) ob') (fun v ob'=>False)->
    o.wp P.p a w (fun a' w'=>wpOpsS P.p ops Q (List.range' (j+1) r.length) a' cs w') (fun e a' w'=>Q e a' cs w'):=by
   intro d x sl hpx hs hd hx hw
   refine Xxw ?_ (Q9 hs m.om hpx hx hw)
   refine I.sound (m.gl.trans hg.symm) hs m.om hx hw o rfl _ _ (fun v y ob' w' ρ' hk hr ho t=>?_) (fun u y ob' w' ρ' hk hr ho t=>hk.elim)
   obtain⟨g1,g2,g3⟩:=Xn hd m.size (hs.tr t) hr
   exact U7 hg hK r (j+1) s _ ob' ρ' _ w' hd' h2 hp hk ⟨m.base.tr t,ho,g1,g2,(m.df.tr t).put g3,t.xo.trans m.xo,t.gl.trans m.gl⟩
  have fin:o.wp P.p a w (fun a' w'=>wpOpsS P.p ops Q (List.range' (j+1) r.length) a' cs w') (fun e a' w'=>Q e a' cs w')->Region.wanted o (yielded ops a.tmps)=true->wpOpsS P.p ops Q (List.range' j (r.length+1)) a cs w:=by
   intro hw hwant
   rw[List.range'_succ]
   simp only[wpOpsS,hj,hwant,if_true]
   unfold Oper.wp at hw
   split
   ·rename_i w' hrun
    rw[hrun]at hw
    exact hw.elim
   ·exact hw
  simp only[List.length_cons]
  cases i with
  | op d x=>
   simp only[It.chk,Bool.and_eq_true,Option.isNone_iff_eq_none]at h1
   simp only[rwp]at h
   exact fin (step d x sl hp1 m.sm h1.1.1 h1.2 h) (by simp[Region.wanted,h1.1.2])
  | gop g want d x=>
   simp only[It.chk,Bool.and_eq_true]at h1
   simp only[rwp]at h
   rcases Zw (ops:=ops) m.sm h1.1.2 h with⟨hw,sl',hs,h⟩ | ⟨hw,sl',hs,h⟩
   ·exact fin (step d x sl' hp1 hs h1.1.1 h1.2 h) hw
   ·rw[List.range'_succ]
    simp only[wpOpsS,hj,hw,Bool.false_eq_true,if_false]
    obtain⟨g1,g2,g3⟩:=Xn h1.1.1 m.size hs (Yx.2 rfl)
    exact U7 hg hK r (j+1) s _ ob ρ _ w hd' h2 hp h ⟨m.base,m.om,g1,g2,m.df.put g3,m.xo,m.gl⟩
 | [],_,_::_,_,_,_,_,_,_,hc,_,_,_=>by simp[Wa]at hc
 | _::_,_,[],_,_,_,_,_,_,hc,_,_,_=>by simp[Wa]at hc

theorem Xdp {P:Prg}(hm:P.p.follows .mixedOrders=true){f k:Nat}{its:List It}{keep:List Nat}{s:S}{vs:List V}{ob:Xb}{rv:Option V}{K:Xb->Prop}(hc:Xhd P.p f vs.length k its s=true)
  (h:rwp P (fun sl ob'=>cwp P s (dQ (Xa ob) K) (Xk sl keep) ob') (fun _ _ _=>False) its ((k,rv.getD (.d .nili))::Vi 0 vs) ob):DCall P f vs ob rv K:=by
 unfold Xhd at hc
 split at hc
 ·rename_i fn hf
  split at hc
  ·rename_i id ops code hb
   split at hc
   ·rename_i o os hops
    simp only[Bool.and_eq_true,decide_eq_true_eq,Option.isNone_iff_eq_none,beq_iff_eq]at hc
    obtain⟨⟨⟨⟨⟨⟨⟨⟨⟨hn,hk⟩,hrec⟩,hdst⟩,hgd⟩,hits⟩,hpl⟩,hs⟩,hnr⟩,hres⟩:=hc
    have hemp:fn.results=#[]:=by simpa using hres
    have hres':∀(t:Array Value) (w:World),(results fn t).run P.p w=.ok (.tuple #[]) w:=fun t w=>by simp[results,hemp]
    have hop:∃args ts,o.op=.call { callee:=.builtin .recover,args:=args,argTypes:=ts }:=by
     revert hrec; generalize o.op=op; intro hrec
     unfold Yna at hrec
     split at hrec
     ·exact⟨_,_,rfl⟩
     ·simp at hrec
    obtain⟨rargs,rts,hop⟩:=hop
    have hrun:∀(a:Act) (w:World),(execOp a.eval o).run P.p w=.ok .recover w:=fun a w=>by
     simp[execOp,hop,resolve,invoke,builtin]
    have ho0:ops[0]? = some o:=by
     have:=congrArg (·[0]?) hops; simpa using this
    have hsize:ops.size=os.length+1:=by
     have:=congrArg List.length hops; simpa using this
    have hdrop:ops.toList.drop 1=os:=by rw[hops]; rfl
    have key:∀w ρ args,OM w ρ ob->ρ.gl=P.g->V.reps w ρ vs args->∀(u u':FrameMode) (x:Value),(rv.getD (.d .nili)).rep w ρ x->
      (∀(c0:Frame) (cs:List Frame),c0.mode=u->(recoverD (c0::cs)=some (x,{ c0 with mode:=u' }::cs))\/(recoverD (c0::cs)=none/\x=.nilIface/\u'=u))->
      CallsD P.p f args.toArray u w (fun e v w'=>(∃v,e=.returned v)/\v=u'/\∃ob' ρ',K ob'/\OM w' ρ' ob'/\Tr w ρ w' ρ'):=by
     intro w ρ args hO hg hr u u' x hx hrecD
     refine callsD_of_wpS hf hb fun c0 cs hc0=>?_
     let c:Ctx:=⟨w,Xa8 ρ,fn.ntmps,[],P.g,ρ.m,[],false⟩
     have hlen:args.length=vs.length:=by simpa using Yp hr
     have m:Mod c ρ.xo ρ (Vi 0 vs) ob { tmps:=args.toArray++Array.replicate (fn.ntmps-args.toArray.size) undef,defers:=[] } w:=by
      refine⟨⟨Nat.le_refl _,fun _ _ _=>rfl,fun b h=>.inr h,rfl,rfl,rfl,fun id o h=>⟨o,h,.refl o⟩,(fun p hp=>by cases hp),Nat.le_refl _⟩,hO,?_,?_,Dfr.nil,rfl,hg⟩
      ·refine Vj hr 0 _ (fun i hi=>?_)
       simp[Array.getElem?_append,hi]
      ·simp[c]; omega
     have hout:∀(e:Exit) (a':Act) (w':World) cs',cs'={ c0 with mode:=u' }::cs->lift c ρ.xo (dQ (Xa ob) K) e a' w'->bodyPostS P.p fn c0 cs (fun e v w'=>(∃v,e=.returned v)/\v=u'/\∃ob' ρ',K ob'/\OM w' ρ' ob'/\Tr w ρ w' ρ') e a' cs' w':=by
      rintro e a' w' cs' rfl ⟨ae,sl',ob',ρ',hq,he,m'⟩
      have old:∀kp id o,ρ.m id=some o->Xd (Xa ob) kp id=false:=fun kp id o h0=>by
       obtain⟨x,hx⟩:=hO.dom id o h0
       have hlt:¬Xa ob<=id:=fun hle=>by rw[X3 _ _ hle]at hx; cases hx
       simp[Xd,hlt]
      have tr:∀kp,Tr w ρ w' (ρ'.del (Xd (Xa ob) kp)):=fun kp=>by
       have b2:=m'.base
       refine⟨b2.size,fun b h1 h2=>b2.keep b h2 h1,fun b h1=>(b2.owns b (Z2 h1)).symm,?_,?_,fun id o h1=>?_,b2.tape,b2.os,b2.out,b2.drawn⟩
       ·show ρ'.xo=ρ.xo; rw[m'.xo]
       ·show ρ'.gl=ρ.gl; rw[m'.gl,hg]
       ·obtain⟨o',h3,h4⟩:=b2.same id o h1
        exact⟨o',by simp only[Env.del,old kp id o h1]; exact h3,h4⟩
      have hfin:Yc (Xa ob) K [] ob'->a'.defers=[]/\∃u'',{ c0 with mode:=u' }::cs={ c0 with mode:=u'' }::cs/\∃v,(results fn a'.tmps).run P.p w'=.ok v w'/\((∃v',Ending.returned v=.returned v')/\u''=u'/\∃ob' ρ',K ob'/\OM w' ρ' ob'/\Tr w ρ w' ρ'):=by
       rintro⟨kp,_,k2,k3⟩
       exact⟨m'.df.eq rfl,u',rfl,_,hres' _ _,⟨_,rfl⟩,rfl,_,_,k3,m'.om.del k2,tr kp⟩
      cases ae with
      | normal=>cases e<;>simp only[exM]at he; exact hfin hq
      | ret=>cases e<;>simp only[exM]at he; exact hfin hq
      | exit n=>exact hq.elim
      | panic v=>exact hq.elim
     refine wpS_seq (wpS_region ?_)
     have hrange:List.range ops.size=0::List.range' 1 os.length:=by
      rw[List.range_eq_range',hsize,List.range'_succ]
     rw[hrange]
     have hwant:∀a:Act,Region.wanted o (yielded ops a.tmps)=true:=fun a=>by simp[Region.wanted,hgd]
     have hput:∀cs':List Frame,cs'={ c0 with mode:=u' }::cs->wpOpsS P.p ops (Exit.thenS (code.wpS P.p (bodyPostS P.p fn c0 cs (fun e v w'=>(∃v,e=.returned v)/\v=u'/\∃ob' ρ',K ob'/\OM w' ρ' ob'/\Tr w ρ w' ρ'))) (bodyPostS P.p fn c0 cs (fun e v w'=>(∃v,e=.returned v)/\v=u'/\∃ob' ρ',K ob'/\OM w' ρ' ob'/\Tr w ρ w' ρ'))) (List.range' 1 os.length)
       (({ tmps:=args.toArray++Array.replicate (fn.ntmps-args.toArray.size) undef,defers:=[] }:Act).put o.dst x) cs' w:=by
      intro cs' hcs'
      obtain⟨g1,g2,g3⟩:=Xn (d:=some k) (o:=o.dst) (v:=x) (N:=fn.ntmps) (by simp[Jt,hdst,hk]) m.size m.sm hx
      refine U7 (c:=c) (xo:=ρ.xo) rfl (fun sl ob1 ρ1 a1 w1 hk1 m1=>?_) os 1 its _ ob ρ _ w hdrop hits hpl h ⟨m.base,m.om,g1,g2,m.df.put g3,m.xo,m.gl⟩
      simp only[Exit.thenS]
      exact wpS_of_wp (wp_mono (wpIn_wide.1 (Yd (rd:=none) hm rfl code s _ _ _ ρ1 a1 w1 hs (.inl hnr) hk1 ⟨m1.base,m1.om,m1.sm.keep keep,m1.size,m1.df,m1.xo,m1.gl⟩)) (fun e a' w' hl=>hout e a' w' cs' hcs' hl))
     have hwant0:Region.wanted o (yielded ops (args.toArray++Array.replicate (fn.ntmps-args.toArray.size) undef))=true:=hwant { tmps:=args.toArray++Array.replicate (fn.ntmps-args.toArray.size) undef,defers:=[] }
     simp only[wpOpsS,ho0,hwant0,if_true,hrun]
     rcases hrecD c0 cs hc0 with hr1 | ⟨hr1,hx1,hu1⟩
     ·rw[hr1]; exact hput _ rfl
     ·rw[hr1]
      subst hx1
      refine hput _ ?_
      subst hu1; cases c0; simp only at hc0; subst hc0; rfl
    refine⟨fun he w ρ args hO hg hr=>?_,fun v he w ρ args x hO hg hr hx hix=>?_⟩
    ·subst he
     exact key w ρ args hO hg hr .returning .returning .nilIface (Xba.2 rfl) (fun c0 cs hc0=>.inr ⟨by simp[recoverD,hc0],rfl,rfl⟩)
    ·subst he
     exact key w ρ args hO hg hr _ _ x hx (fun c0 cs hc0=>.inl (by simp[recoverD,hc0]))
   ·simp at hc
  ·simp at hc
 ·simp at hc


inductive FSt where
 | pre (s:S) (r:FSt)
 | dfr (its:List It) (keep:List Nat) (k:Nat) (s:S)

def Yde (k:Nat):Op->Bool
 | .defer { callee:=.value (.tmp j),args:=args,.. }=>j==k&&args.isEmpty
 | _=>false
def FSt.chk (P:Program)(N:Nat):Code->FSt->Bool
 | .seq a b,.pre s r=>S.chk P N a s&&s.noR&&FSt.chk P N b r
 | .seq (.region _ ops false) b,.dfr its _ k s=>match ops.toList.reverse with
  | o::os=>Yde k o.op&&o.dst.isNone&&o.guard.isNone&&Wa P N ops os.reverse its&&its.all It.plain&&S.chk P N b s&&s.noR
  | []=>false
 | _,_=>false

def Xe3 (P:Prg)(g:Nat)(cl:List V)(rs:List RV)(K:V->Prop):Yz
 | .normal,sl,ob=>DCall P g cl ob none fun ob'=>Wn sl ob' rs fun vs=>Wq (fun l _=>K (Wo (l.map .d))) (V.givs ob' vs)
 | .ret,sl,ob=>DCall P g cl ob none fun ob'=>Wn sl ob' rs fun vs=>Wq (fun l _=>K (Wo (l.map .d))) (V.givs ob' vs)
 | .panic v,sl,ob=>(∃t y,v=.iface t y\/∃z,v=.d (.iface t z))/\DCall P g cl ob (some v) fun ob'=>Wn sl ob' rs fun vs=>Wq (fun l _=>K (Wo (l.map .d))) (V.givs ob' vs)
 | .exit _,_,_=>False
def Ydd (P:Prg)(s:S)(rs:List RV)(K:V->Prop)(sl:Xf)(ob:Xb):V->Prop
 | .fn g fi ca=>Xm P.p g=true/\cwp P s (Xe3 P g (fi++ca) rs K) sl ob
 | _=>False
def fwp (P:Prg)(rs:List RV)(K:V->Prop):FSt->Xf->Xb->Prop
 | .pre s r,sl,ob=>cwp P s (W4 (fwp P rs K r) (Xas rs K)) sl ob
 | .dfr its keep k s,sl,ob=>rwp P (fun sl ob=>Ydd P s rs K (Xk sl keep) ob (look (Xk sl keep) k)) (fun _ _ _=>False) its sl ob

def Xhq (P:Program)(f n:Nat)(s:FSt)(rs:List RV):Bool:=match P.funcs[f]? with
 | some fn=>match fn.body with
  | some code=>decide (n<=fn.ntmps)&&FSt.chk P fn.ntmps code s&&Ux P fn.results.toList rs
  | none=>false
 | none=>false

theorem Xb7 {P:Prg}{c:Ctx}(hg:P.g=c.g){xo:Nat->Prop}{ops:Array Oper}{Q:Exit->Act->World->Prop}{K:Xf->Xb->Prop}{l':List Oper}
  (hK:∀sl ob ρ a w,K sl ob->Mod c xo ρ sl ob a w->wpList P.p ops Q l' a w) :
  ∀(l:List Oper) (its:List It) (sl:Xf) (ob:Xb) (ρ:Env) (a:Act) (w:World),Wa P.p c.N ops l its=true->its.all It.plain=true->rwp P K (fun _ _ _=>False) its sl ob->Mod c xo ρ sl ob a w->wpList P.p ops Q (l++l') a w
 | [],[],sl,ob,ρ,a,w,_,_,h,m=>by simp only[List.nil_append]; exact hK sl ob ρ a w h m
 | o::r,i::s,sl,ob,ρ,a,w,hc,hp,h,m=>by
  simp only[List.all_cons,Bool.and_eq_true]at hp
  obtain⟨hp1,hp⟩:=hp
  simp only[Wa,Bool.and_eq_true]at hc
  obtain⟨h1,h2⟩:=hc
  have step:∀(d:Option Nat) (x:I) (sl:Xf),x.plain=true->SM w ρ sl a->Jt c.N o.dst d=true->x.chk P.p o.op=true->x.wp P sl ob (fun v ob'=>rwp P K (fun _ _ _=>False) s (put sl d v) ob') (fun v ob'=>False)->o.wp P.p a w (wpList P.p ops Q (r++l')) Q:=by
   intro d x sl hpx hs hd hx hw
   refine Xxw ?_ (Q9 hs m.om hpx hx hw)
   refine I.sound (m.gl.trans hg.symm) hs m.om hx hw o rfl _ _ (fun v y ob' w' ρ' hk hr ho t=>?_) (fun u y ob' w' ρ' hk hr ho t=>hk.elim)
   obtain⟨g1,g2,g3⟩:=Xn hd m.size (hs.tr t) hr
   exact Xb7 hg hK r s _ ob' ρ' _ w' h2 hp hk ⟨m.base.tr t,ho,g1,g2,(m.df.tr t).put g3,t.xo.trans m.xo,t.gl.trans m.gl⟩
  simp only[List.cons_append]
  cases i with
  | op d x=>
   simp only[It.chk,Bool.and_eq_true,Option.isNone_iff_eq_none]at h1
   simp only[rwp]at h
   simp only[wpList,Region.wanted,h1.1.2,if_true]
   exact .inl (step d x sl hp1 m.sm h1.1.1 h1.2 h)
  | gop g want d x=>
   simp only[It.chk,Bool.and_eq_true]at h1
   simp only[rwp]at h
   simp only[wpList]
   rcases Zw (ops:=ops) m.sm h1.1.2 h with⟨hw,sl',hs,h⟩ | ⟨hw,sl',hs,h⟩
   ·rw[if_pos hw]
    exact .inl (step d x sl' hp1 hs h1.1.1 h1.2 h)
   ·rw[hw]
    simp only[Bool.false_eq_true,if_false]
    obtain⟨g1,g2,g3⟩:=Xn h1.1.1 m.size hs (Yx.2 rfl)
    exact Xb7 hg hK r s _ ob ρ _ w h2 hp h ⟨m.base,m.om,g1,g2,m.df.put g3,m.xo,m.gl⟩
 | [],_::_,_,_,_,_,_,hc,_,_,_=>by simp[Wa]at hc
 | _::_,[],_,_,_,_,_,hc,_,_,_=>by simp[Wa]at hc

section
variable {P:Prg} {w0:World} {ρ0:Env}
def X2b (w0:World)(ρ0:Env)(K:V->Prop):Ending->World->Prop:=fun e w'=>∃v u,K v/\e=.returned u/\v.rep w' ρ0 u/\Ext w0 w'
theorem Xnt {c:Ctx}(h0:c.w0=w0)(hex:∀b,¬c.ex b){w':World}{ρ':Env}{sl:Xf}{ob:Xb}{a:Act}{fn:Func}{rs:List RV}{K:V->Prop}(hb:Base c w' ρ')(ho:OM w' ρ' ob)(hs:SM w' ρ' sl a)(hx:ρ'.xo=own ρ0)
  (hc:Ux P.p fn.results.toList rs=true) (h:Wn sl ob rs fun vs=>Wq (fun l _=>K (Wo (l.map .d))) (V.givs ob vs)):∃v,(results fn a.tmps).run P.p w'=.ok v w'/\X2b w0 ρ0 K (.returned v) w':=by
 obtain⟨vs,us,hk,hrep,hrun⟩:=Zz (P:=P.p) (fn:=fn) hs ho hc h
 cases hgv:V.givs ob vs with
 | none=>simp[hgv,Wq]at hk
 | some q=>
  obtain⟨l,ob2⟩:=q
  simp only[hgv,Wq]at hk
  obtain⟨ρ2,t2,o2,hr2⟩:=Uk vs us ho hrep hgv
  have mo2:Xgm w' (own ρ2) w' (own ρ0):=fun b h1 _=>⟨rfl,fun h2=>h1 (.inr (by rw[t2.xo,hx]; exact h2))⟩
  have hrep':=V3 mo2 _ _ l rfl hr2
  have hext:Ext w0 w':=by subst h0; exact⟨hb.size,fun b h=>hb.keep b h (hex b),hb.tape,hb.os,hb.out,hb.drawn⟩
  exact⟨Xqc us,hrun,Wo (l.map .d),Xqc us,hk,rfl,Ve hrep',hext⟩

theorem Xhv (hm:P.p.follows .mixedOrders=true){c:Ctx}(hg:P.g=c.g)(h0:c.w0=w0)(hex:∀b,¬c.ex b)(hdf:c.df=[])(hmk:c.mrk=false)(hm0:∀id,c.m0 id=none){fn:Func}{rs:List RV}{K:V->Prop}(hres:Ux P.p fn.results.toList rs=true) :
  ∀(code:Code) (s:FSt) (sl:Xf) (ob:Xb) (ρ:Env) (a:Act) (w:World),FSt.chk P.p c.N code s=true->fwp P rs K s sl ob->Mod c (own ρ0) ρ sl ob a w->code.wp P.p (bodyPostD P.p fn (X2b w0 ρ0 K)) a w
 | .seq x y,.pre s r,sl,ob,ρ,a,w,hc,h,m=>by
  simp only[FSt.chk,Bool.and_eq_true]at hc
  simp only[fwp]at h
  refine wp_seq (wp_mono (wpIn_wide.1 (Yd (rd:=none) hm hg x s _ sl ob ρ a w hc.1.1 (.inl hc.1.2) h m)) ?_)
  rintro e a' w' ⟨ae,sl',ob',ρ',hq,he,m'⟩
  cases ae with
  | normal=>
   cases e<;>simp only[exM]at he
   exact Xhv hm hg h0 hex hdf hmk hm0 hres y r sl' ob' ρ' a' w' hc.2 hq m'
  | exit n=>exact hq.elim
  | ret=>
   cases e<;>simp only[exM]at he
   show Leaves _ _ _ _ a'.defers .returning w'
   rw[m'.df.eq hmk,hdf]
   exact Xnt h0 hex m'.base m'.om m'.sm m'.xo hres hq
  | panic v=>exact hq.elim
 | .seq (.region id ops false) y,.dfr its keep k s,sl,ob,ρ,a,w,hc,h,m=>by
  simp only[FSt.chk]at hc
  split at hc
  ·rename_i o os hops
   simp only[Bool.and_eq_true,Option.isNone_iff_eq_none]at hc
   obtain⟨⟨⟨⟨⟨⟨hop,hdst⟩,hgd⟩,hits⟩,hpl⟩,hs⟩,hnr⟩:=hc
   simp only[fwp]at h
   have hl:ops.toList=os.reverse++[o]:=by
    have:=congrArg List.reverse hops; simpa using this
   refine wp_seq (wp_region_list ?_)
   rw[hl]
   refine Xb7 hg (fun sl0 ob1 ρ1 a1 w1 hk m0=>?_) os.reverse its sl ob ρ a w hits hpl h m
   have m1:Mod c (own ρ0) ρ1 (Xk sl0 keep) ob1 a1 w1:=⟨m0.base,m0.om,m0.sm.keep keep,m0.size,m0.df,m0.xo,m0.gl⟩
   generalize Xk sl0 keep=sl1 at hk m1
   unfold Ydd at hk
   split at hk
   ·rename_i g fi ca e1
    obtain⟨hcall,hk⟩:=hk
    have hrep:=m1.sm k
    rw[e1]at hrep
    have hrep0:=hrep
    rw[Xaj]at hrep
    obtain⟨fs,gs,hv,hr1,hr2⟩:=hrep
    obtain⟨args,ts,hop'⟩:∃args ts,o.op=.defer { callee:=.value (.tmp k),args:=args,argTypes:=ts }/\args=#[]:=by
     revert hop; generalize o.op=op; intro hop
     unfold Yde at hop
     split at hop
     ·simp only[Bool.and_eq_true,beq_iff_eq]at hop
      obtain⟨rfl,hop⟩:=hop
      exact⟨_,_,rfl,by simpa using hop⟩
     ·simp at hop
    obtain⟨hop',rfl⟩:=hop'
    let d:Deferred:={ target:=.fn (.func g) gs.toArray,args:=fs.toArray++#[] }
    have hrun:(execOp a1.eval o).run P.p w1=.ok (.defer d) w1:=by
     have:a1.eval (.tmp k)=.func (.func g) fs.toArray gs.toArray:=hv
     simp[execOp,hop',resolve,this,Deferred.ofValue,d]
    simp only[wpList,Region.wanted,hgd,if_true]
    left
    unfold Oper.wp
    rw[hrun]
    simp only[Oper.upon,hdst,Act.put]
    let c2:Ctx:=⟨c.w0,c.ex,c.N,[d],c.g,c.m0,[(.fn g fi ca,.func (.func g) fs.toArray gs.toArray)],false⟩
    have m2:Mod c2 (own ρ0) ρ1 sl1 ob1 { a1 with defers:=d::a1.defers } w1:=by
     refine⟨⟨m1.base.size,m1.base.keep,m1.base.owns,m1.base.tape,m1.base.os,m1.base.out,m1.base.same,fun p hp=>?_,m1.base.drawn⟩,m1.om,m1.sm,m1.size,?_,m1.xo,m1.gl⟩
     ·simp only[c2,List.mem_singleton]at hp
      subst hp
      rw[hv]at hrep0
      exact hrep0
     ·show Dfr c2 w1 ρ1 (d::a1.defers); rw[m1.df.eq hmk,hdf]; exact Dfr.nil (c:=c2)
    show Code.wp _ _ _ _ _
    refine wp_mono (wpIn_wide.1 (Yd (rd:=none) hm (c:=c2) hg y s _ _ _ ρ1 _ w1 hs (.inl hnr) hk m2)) ?_
    rintro e a' w' ⟨ae,sl',ob',ρ',hq,he,m'⟩
    have hclo:V.reps w' ρ' (fi++ca) (fs++gs):=by
     have:=m'.base.ext (.fn g fi ca,.func (.func g) fs.toArray gs.toArray) (by simp[c2])
     simp only at this
     rw[Xaj]at this
     obtain⟨fs',gs',e2,q1,q2⟩:=this
     simp only[Value.func.injEq,true_and]at e2
     obtain⟨e3,e4⟩:=e2
     have e3:fs=fs':=by simpa using congrArg Array.toList e3
     have e4:gs=gs':=by simpa using congrArg Array.toList e4
     subst e3 e4
     exact reps_append q1 q2
    have hinv:∀w,(invoke d.target d.args).run P.p w=.ok (.enter g (fs++gs).toArray) w:=fun w=>by
     simp only[d,invoke,Yk hcall]
     simp
    have hd:a'.defers=[d]:=m'.df.eq rfl
    have after:∀(w'':World) (ob2:Xb) (ρ2:Env),(Wn sl' ob2 rs fun vs=>Wq (fun l _=>K (Wo (l.map .d))) (V.givs ob2 vs))->OM w'' ρ2 ob2->Tr w' ρ' w'' ρ2->Leaves P.p fn a'.tmps (X2b w0 ρ0 K) [] .returning w'':=by
     intro w'' ob2 ρ2 hq o2 t2
     exact Xnt (c:=c2) h0 hex (m'.base.tr t2) o2 (m'.sm.tr t2) (t2.xo.trans m'.xo) hres hq
    have hgl:ρ'.gl=P.g:=m'.gl.trans hg.symm
    have hret:DCall P g (fi++ca) ob' none (fun ob'=>Wn sl' ob' rs fun vs=>Wq (fun l _=>K (Wo (l.map .d))) (V.givs ob' vs))->Leaves P.p fn a'.tmps (X2b w0 ρ0 K) a'.defers .returning w':=by
     intro hq
     rw[hd]
     refine leaves_cons (fv:=.func g) (cap:=gs.toArray) (dargs:=fs.toArray++#[]) (by simp) (hinv w') ((hq.ret rfl w' ρ' (fs++gs) m'.om hgl hclo).mono ?_)
     rintro e u w'' ⟨⟨v,rfl⟩,rfl,ob2,ρ2,k2,o2,t2⟩
     exact after w'' ob2 ρ2 k2 o2 t2
    cases ae with
    | normal=>cases e<;>simp only[exM]at he; exact hret hq
    | ret=>cases e<;>simp only[exM]at he; exact hret hq
    | exit n=>exact hq.elim
    | panic v=>
     cases e<;>simp only[exM]at he
     obtain⟨u,rfl,hu⟩:=he
     obtain⟨⟨t,y,hty⟩,hq⟩:=hq
     have hix:∃t y,u=.iface t y:=by
      rcases hty with rfl | ⟨z,rfl⟩
      ·rw[Z3 (by simp[V.isAgg]) (by simp)]at hu
       simp only[V.repC,List.cons.injEq,and_true]at hu
       obtain⟨c,hu,_⟩:=hu
       exact⟨_,_,hu⟩
      ·rw[Jb]at hu
       obtain⟨c,hu,_⟩:=hu
       exact⟨_,_,hu⟩
     show Leaves _ _ _ _ a'.defers _ w'
     rw[hd]
     refine leaves_cons (fv:=.func g) (cap:=gs.toArray) (dargs:=fs.toArray++#[]) (by simp) (hinv w') ((hq.pan v rfl w' ρ' (fs++gs) u m'.om hgl hclo hu hix).mono ?_)
     rintro e u' w'' ⟨⟨v',rfl⟩,rfl,ob2,ρ2,k2,o2,t2⟩
     exact after w'' ob2 ρ2 k2 o2 t2
   ·exact hk.elim
  ·simp at hc
 | .skip,_,_,_,_,_,_,hc,_,_ | .region _ _ _,_,_,_,_,_,_,hc,_,_ | .cond _ _ _,_,_,_,_,_,_,hc,_,_ | .block _ _,_,_,_,_,_,_,hc,_,_ | .loop _,_,_,_,_,_,_,hc,_,_ | .rangeFunc _ _ _ _,_,_,_,_,_,_,hc,_,_ | .exit _,_,_,_,_,_,_,hc,_,_ | .scope _,_,_,_,_,_,_,hc,_,_ | .label _,_,_,_,_,_,_,hc,_,_ | .goto _,_,_,_,_,_,_,hc,_,_ | .ret,_,_,_,_,_,_,hc,_,_ | .refuse _,_,_,_,_,_,_,hc,_,_=>by simp[FSt.chk]at hc
 | .seq (.region _ _ true) _,.dfr _ _ _ _,_,_,_,_,_,hc,_,_ | .seq .skip _,.dfr _ _ _ _,_,_,_,_,_,hc,_,_ | .seq (.seq _ _) _,.dfr _ _ _ _,_,_,_,_,_,hc,_,_ | .seq (.cond _ _ _) _,.dfr _ _ _ _,_,_,_,_,_,hc,_,_ | .seq (.block _ _) _,.dfr _ _ _ _,_,_,_,_,_,hc,_,_ | .seq (.loop _) _,.dfr _ _ _ _,_,_,_,_,_,hc,_,_ | .seq (.rangeFunc _ _ _ _) _,.dfr _ _ _ _,_,_,_,_,_,hc,_,_ | .seq (.exit _) _,.dfr _ _ _ _,_,_,_,_,_,hc,_,_ | .seq (.scope _) _,.dfr _ _ _ _,_,_,_,_,_,hc,_,_ | .seq (.label _) _,.dfr _ _ _ _,_,_,_,_,_,hc,_,_ | .seq (.goto _) _,.dfr _ _ _ _,_,_,_,_,_,hc,_,_ | .seq .ret _,.dfr _ _ _ _,_,_,_,_,_,hc,_,_ | .seq (.refuse _) _,.dfr _ _ _ _,_,_,_,_,_,hc,_,_=>by simp[FSt.chk]at hc

theorem Xcg (hm:P.p.follows .mixedOrders=true){f:Nat}{s:FSt}{rs:List RV}{ds:List D}{ob0:Xb}{K:V->Prop}(hc:Xhq P.p f ds.length s rs=true)
  (h:fwp P rs K s (Vi 0 (ds.map .d)) []):PCall P f (ds.map .d) ob0 K:=by
 unfold Xhq at hc
 split at hc
 ·rename_i fn hf
  split at hc
  ·rename_i code hb
   simp only[Bool.and_eq_true,decide_eq_true_eq]at hc
   obtain⟨⟨hn,h1⟩,h2⟩:=hc
   refine⟨fun w ρ args hO hg hr=>?_⟩
   let ρ1:Env:=⟨fun _=>none,own ρ,ρ.gl⟩
   let c:Ctx:=⟨w,fun _=>False,fn.ntmps,[],P.g,fun _=>none,[],false⟩
   have hnone:∀b,¬Xa8 ρ1 b:=fun b ⟨_,_,h,_⟩=>by cases h
   have hlt:∀b,own ρ b->b<w.heap.size:=fun b h=>h.elim (fun ⟨_,_,h1,h2⟩=>Wc hO h1 h2) (hO.xlt b)
   have mo:Xgm w (own ρ) w (own ρ1):=fun b h1 _=>⟨rfl,fun h2=>h2.elim (hnone b) h1⟩
   have hr0:=V3 mo _ _ ds rfl hr
   have hlen:args.length=ds.length:=by simpa using Yp hr
   have m:Mod c (own ρ) ρ1 (Vi 0 (ds.map .d)) [] { tmps:=args.toArray++Array.replicate (fn.ntmps-args.toArray.size) undef,defers:=[] } w:=by
    refine⟨⟨Nat.le_refl _,fun _ _ _=>rfl,fun b h=>absurd h (hnone b),rfl,rfl,rfl,(fun id o h=>by cases h),(fun p hp=>by cases hp),Nat.le_refl _⟩,⟨fun j x hx=>(by simp[Xe]at hx),fun j o hj=>(by cases hj),fun i j o p b hi=>(by cases hi),fun b hb=>hlt b hb,fun b o hb=>⟨(hO.glb b o hb).1,fun h=>h.elim (hnone b) (hO.glb b o hb).2⟩,fun b hb=>absurd hb (hnone b),trivial⟩,?_,?_,Dfr.nil,rfl,hg⟩
    ·refine Vj hr0 0 _ (fun i hi=>?_)
     simp[Array.getElem?_append,hi]
    ·simp[c]; omega
   exact calls_of_wp_defers hf hb (Xhv (w0:=w) (ρ0:=ρ) hm (c:=c) rfl rfl (fun _ h=>h) rfl rfl (fun _=>rfl) h2 code s _ _ _ _ w h1 h m)
  ·simp at hc
 ·simp at hc
end

inductive FS2 where
 | pre (s:S2) (r:FS2)
 | dfr (l:List It2) (keep:List (Nat×E)) (k:Nat) (s:S2)
def FSt.lift (fs:List Nat):FSt->Option FS2
 | .pre s r=>match s.lift fs,r.lift fs with
  | some s,some r=>some (.pre s r)
  | _,_=>none
 | .dfr its kp k s=>match Jv fs kp [] its [] [] [],s.lift fs with
  | some (l,keep),some s=>some (.dfr l keep k s)
  | _,_=>none
def Xe4 (P:Prg)(T:Tab)(s:S2)(rs:List RV)(K:V->Prop)(sl:Xf)(ob:Xb):V->Prop
 | .fn g fi ca=>Xm P.p g=true/\Yy P T s (Xe3 P g (fi++ca) rs K) sl ob
 | _=>False
def Xq2 (P:Prg)(T:Tab)(rs:List RV)(K:V->Prop):FS2->Xf->Xb->Prop
 | .pre s r,sl,ob=>Yy P T s (W4 (Xq2 P T rs K r) (Xas rs K)) sl ob
 | .dfr l keep k s,sl,ob=>Vg P T (fun sl ob=>Wk T sl ob keep/\Xe4 P T s rs K (V1 T sl ob keep) ob (look (V1 T sl ob keep) k)) (fun _ _ _=>False) l sl ob

theorem Yx3 {T:Tab}{sl:Xf}{ob:Xb}:Inv T [] sl sl ob:=fun k p e h=>by
 simp[ent,Z8]at h; obtain⟨rfl,rfl⟩:=h; exact⟨fun _=>rfl,fun h=>by cases h⟩

theorem FSt.lift_sound {P:Prg}{T:Tab}(hT:TOk P T){fs:List Nat}{rs:List RV}{K:V->Prop}:∀(s:FSt) {s2:FS2} {sl:Xf} {ob:Xb},s.lift fs=some s2->Xq2 P T rs K s2 sl ob->fwp P rs K s sl ob
 | .pre s r,s2,sl,ob,h,hc=>by
  simp only[FSt.lift]at h
  split at h
  ·rename_i s' r' hs hr
   cases h
   simp only[Xq2]at hc
   simp only[fwp]
   refine S.lift_sound hT s hs (fun e sl ob h=>?_) hc
   cases e with
   | normal=>exact FSt.lift_sound hT r hr h
   | _=>exact h
  ·cases h
 | .dfr its kp k s,s2,sl,ob,h,hc=>by
  simp only[FSt.lift]at h
  split at h
  ·rename_i l keep s' hl hs
   cases h
   simp only[Xq2]at hc
   simp only[fwp]
   have hmono:∀sl ob,Xe4 P T s' rs K sl ob (look sl k)->Ydd P s rs K sl ob (look sl k):=fun sl ob h=>by
    unfold Xe4 at h
    split at h
    ·rename_i g fi ca e1
     simp only[Ydd,e1]
     exact⟨h.1,S.lift_sound hT s hs (fun _ _ _ h=>h) h.2⟩
    ·exact h.elim
   have:=Yv (pk:=[]) hT (K:=fun sl ob=>Xe4 P T s' rs K sl ob (look sl k)) (K':=fun sl ob=>Ydd P s rs K sl ob (look sl k)) (Pn:=fun _ _ _=>False) (Pn':=fun _ _ _=>False) hmono (fun _ _ _ h=>h) its Yx3 hl hc
   exact this
  ·cases h

theorem Xar {P:Prg}{p:Program}(hP:P.p=p)(hm:p.follows .mixedOrders=true){f:Nat}{s:FSt}{rs:List RV}{ds:List D}{ob0:Xb}{K:V->Prop}{fs:List Nat}{s2:FS2}{T:Tab}(hc:Xhq p f ds.length s rs=true)(hl:s.lift fs=some s2)(hT:TOk P T)
  (h:Xq2 P T rs K s2 (Vi 0 (ds.map .d)) []):PCall P f (ds.map .d) ob0 K:=by
 subst hP
 exact Xcg hm hc (FSt.lift_sound hT s hl h)

theorem Xdo {P:Prg}{p:Program}(hP:P.p=p)(hm:p.follows .mixedOrders=true){f k:Nat}{its:List It}{s:S}{vs:List V}{ob:Xb}{rv:Option V}{K:Xb->Prop}{fs keep:List Nat}{l:List It2}{kp:List (Nat×E)}{s2:S2}{T:Tab}(hc:Xhd p f vs.length k its s=true)
  (hl:Jv fs keep [] its [] [] []=some (l,kp)) (hs:s.lift fs=some s2) (hT:TOk P T)
  (h:Vg P T (fun sl ob'=>Wk T sl ob' kp/\Yy P T s2 (dQ (Xa ob) K) (V1 T sl ob' kp) ob') (fun _ _ _=>False) l ((k,rv.getD (.d .nili))::Vi 0 vs) ob):DCall P f vs ob rv K:=by
 subst hP
 refine Xdp hm (keep:=keep) hc ?_
 have:=Yv (pk:=[]) hT (K:=fun sl ob'=>Yy P T s2 (dQ (Xa ob) K) sl ob') (K':=fun sl ob'=>cwp P s (dQ (Xa ob) K) sl ob') (Pn:=fun _ _ _=>False) (Pn':=fun _ _ _=>False) (fun sl ob h=>S.lift_sound hT s hs (fun _ _ _ h=>h) h) (fun _ _ _ h=>h) its Yx3 hl h
 exact this

section
variable (P:Prg) (T:Tab) (sl:Xf) (ob:Xb) (rs:List RV) (K:V->Prop) (KB:Xb->Prop) (n k g:Nat) (v:V) (cl:List V)
@[simp] theorem fwp2_pre (s:S2)(r:FS2):Xq2 P T rs K (.pre s r) sl ob=Yy P T s (W4 (Xq2 P T rs K r) (Xas rs K)) sl ob:=by simp only[Xq2]
@[simp] theorem fwp2_dfr (l:List It2)(kp:List (Nat×E))(s:S2):Xq2 P T rs K (.dfr l kp k s) sl ob=Vg P T (fun sl ob=>Wk T sl ob kp/\Xe4 P T s rs K (V1 T sl ob kp) ob (look (V1 T sl ob kp) k)) (fun _ _ _=>False) l sl ob:=by simp only[Xq2]
@[simp] theorem dfrK2_f (s:S2)(fi ca:List V):Xe4 P T s rs K sl ob (.fn g fi ca)=(Xm P.p g=true/\Yy P T s (Xe3 P g (fi++ca) rs K) sl ob):=by simp only[Xe4]
@[simp] theorem dferQ_r:Xe3 P g cl rs K .ret sl ob=DCall P g cl ob none fun ob'=>Wn sl ob' rs fun vs=>Wq (fun l _=>K (Wo (l.map .d))) (V.givs ob' vs):=by simp only[Xe3]
theorem X6a:Xe3 P g cl rs K (.panic v) sl ob=((∃t y,v=.iface t y\/∃z,v=.d (.iface t z))/\DCall P g cl ob (some v) fun ob'=>Wn sl ob' rs fun vs=>Wq (fun l _=>K (Wo (l.map .d))) (V.givs ob' vs)):=by simp only[Xe3]
@[simp] theorem dferQ_pd (t:Nat)(z:D):Xe3 P g cl rs K (.panic (.d (.iface t z))) sl ob=DCall P g cl ob (some (.d (.iface t z))) fun ob'=>Wn sl ob' rs fun vs=>Wq (fun l _=>K (Wo (l.map .d))) (V.givs ob' vs):=by
 rw[X6a,eq_iff_iff]; exact⟨fun h=>h.2,fun h=>⟨⟨t,.any,.inr ⟨z,rfl⟩⟩,h⟩⟩
@[simp] theorem dQ_n:dQ n KB .normal sl ob=Yc n KB [] ob:=by simp only[dQ]
@[simp] theorem dQ_p:dQ n KB (.panic v) sl ob=False:=by simp only[dQ]
end
@[congr] theorem DCall_congr {P:Prg}{f:Nat}{vs vs':List V}{ob ob':Xb}{rv rv':Option V}{K:Xb->Prop}(h:vs=vs')(h':ob=ob')(h2:rv=rv'):DCall P f vs ob rv K=DCall P f vs' ob' rv' K:=by rw[h,h',h2]
@[congr] theorem dfrK2_congr {P:Prg}{T:Tab}{s:S2}{rs:List RV}{K:V->Prop}{sl sl':Xf}{ob ob':Xb}{v v':V}(h:sl=sl')(h':ob=ob')(h2:v=v'):Xe4 P T s rs K sl ob v=Xe4 P T s rs K sl' ob' v':=by rw[h,h',h2]
@[congr] theorem fwp2_congr {P:Prg}{T:Tab}{rs:List RV}{K:V->Prop}{s:FS2}{sl sl':Xf}{ob ob':Xb}(h:sl=sl')(h':ob=ob'):Xq2 P T rs K s sl ob=Xq2 P T rs K s sl' ob':=by rw[h,h']
end Go.Ab
namespace Go.Ab
open Go
def Xex (n:Nat)(rs:List RV)(K:Out->Xb->Prop):Yz
 | .normal,sl,ob=>Wn sl ob rs fun vs=>Yc n (K (.ret (Wo vs))) vs ob
 | .ret,sl,ob=>Wn sl ob rs fun vs=>Yc n (K (.ret (Wo vs))) vs ob
 | .panic v,_,ob=>Yc n (K (.panic v)) [v] ob
 | .exit _,_,_=>False
section
variable {n k:Nat} {sl:Xf} {ob:Xb} {v:V}
@[simp] theorem callN_r (rs:List RV)(KU:Out->Xb->Prop):Xex n rs KU .ret sl ob=Wn sl ob rs fun vs=>Yc n (KU (.ret (Wo vs))) vs ob:=by simp only[Xex]
@[simp] theorem callN_p (rs:List RV)(KU:Out->Xb->Prop):Xex n rs KU (.panic v) sl ob=Yc n (KU (.panic v)) [v] ob:=by simp only[Xex]
end
theorem Xbh {P:Prg}(hm:P.p.follows .mixedOrders=true){f:Nat}{s:S}{rs:List RV}{vs:List V}{ob:Xb}{K:Out->Xb->Prop}(hc:Xj P.p f vs.length s rs=true)
  (h:cwp P s (Xex (Xa ob) rs K) (Vi 0 vs) ob):ACall P f vs ob K:=by
 simp only[Xj,Bool.and_eq_true]at hc
 obtain⟨hc,hnr⟩:=hc
 unfold Us at hc
 split at hc
 ·rename_i fn hf
  split at hc
  ·rename_i code hb
   simp only[Bool.and_eq_true,decide_eq_true_eq]at hc
   obtain⟨⟨hn,h1⟩,h2⟩:=hc
   refine⟨fun w ρ args hO hg hr=>calls_of_wp hf hb ?_⟩
   let c:Ctx:=⟨w,Xa8 ρ,fn.ntmps,[],P.g,ρ.m,[],false⟩
   have hlen:args.length=vs.length:=by simpa using Yp hr
   have m:Mod c ρ.xo ρ (Vi 0 vs) ob { tmps:=args.toArray++Array.replicate (fn.ntmps-args.toArray.size) undef,defers:=[] } w:=by
    refine⟨⟨Nat.le_refl _,fun _ _ _=>rfl,fun b h=>.inr h,rfl,rfl,rfl,fun id o h=>⟨o,h,.refl o⟩,(fun p hp=>by cases hp),Nat.le_refl _⟩,hO,?_,?_,Dfr.nil,rfl,hg⟩
    ·refine Vj hr 0 _ (fun i hi=>?_)
     simp[Array.getElem?_append,hi]
    ·simp[c]; omega
   refine wp_mono (wpIn_wide.1 (Yd (rd:=none) hm rfl code s _ _ _ ρ _ w h1 (.inl hnr) h m)) ?_
   rintro e a' w' ⟨ae,sl',ob',ρ',hq,he,m'⟩
   have old:∀kp id o,ρ.m id=some o->Xd (Xa ob) kp id=false:=fun kp id o h0=>by
    obtain⟨x,hx⟩:=hO.dom id o h0
    have hlt:¬Xa ob<=id:=fun hle=>by rw[X3 _ _ hle]at hx; cases hx
    simp[Xd,hlt]
   have tr:∀{ρ2:Env},Tr w' ρ' w' ρ2->∀kp,Tr w ρ w' (ρ2.del (Xd (Xa ob) kp)):=fun {ρ2} t kp=>by
    have b2:=m'.base.tr t
    refine⟨b2.size,fun b h1 h2=>b2.keep b h2 h1,fun b h1=>(b2.owns b (Z2 h1)).symm,?_,?_,fun id o h1=>?_,b2.tape,b2.os,b2.out,b2.drawn⟩
    ·show ρ2.xo=ρ.xo; rw[t.xo,m'.xo]
    ·show ρ2.gl=ρ.gl; rw[t.gl,m'.gl,hg]
    ·obtain⟨o',h3,h4⟩:=b2.same id o h1
     exact⟨o',by simp only[Env.del,old kp id o h1]; exact h3,h4⟩
   have hfin:Wn sl' ob' rs (fun vs=>Yc (Xa ob) (K (.ret (Wo vs))) vs ob')->a'.defers=[]/\∃v,(results fn a'.tmps).run P.p w'=.ok v w'/\∃out ob2 ρ2,K out ob2/\J5 w' ρ2 (.returned v) out/\OM w' ρ2 ob2/\Tr w ρ w' ρ2:=by
    intro hq
    obtain⟨vs,us,hk,hrep,hrun⟩:=Zz (P:=P.p) (fn:=fn) m'.sm m'.om h2 hq
    obtain⟨kp,k1,k2,k3⟩:=hk
    exact⟨m'.df.eq rfl,Xqc us,hrun,.ret (Wo vs),_,_,k3,Ve (Je k1 hrep),m'.om.del k2,tr (Tr.refl _ _) kp⟩
   cases ae with
   | normal=>
    cases e<;>simp only[exM]at he
    exact hfin hq
   | ret=>
    cases e<;>simp only[exM]at he
    exact hfin hq
   | exit n=>exact hq.elim
   | panic v=>
    cases e<;>simp only[exM]at he
    obtain⟨u,rfl,hu⟩:=he
    obtain⟨kp,k1,k2,k3⟩:=hq
    simp only[V.mens,Bool.or_false]at k1
    exact⟨m'.df.eq rfl,.panic v,_,_,k3,⟨u,rfl,V.rep_del k1 hu⟩,m'.om.del k2,tr (Tr.refl _ _) kp⟩
  ·simp at hc
 ·simp at hc

theorem Wh {P:Prg}{p:Program}(hP:P.p=p)(hm:p.follows .mixedOrders=true){f:Nat}{s:S}{rs:List RV}{vs:List V}{ob:Xb}{K:Out->Xb->Prop}{fs:List Nat}{s2:S2}{T:Tab}(hc:Xj p f vs.length s rs=true)(hl:s.lift fs=some s2)(hT:TOk P T)
  (h:(∀kp,V.mens (Xd (Xa ob) kp) vs=false)->(∀kp,Xi (Xd (Xa ob) kp) ob=true)->Yy P T s2 (Xex (Xa ob) rs K) (Vi 0 vs) ob):ACall P f vs ob K:=
 ACall.of_wf fun h1 h2=>by subst hP; exact Xbh hm hc (S.lift_sound hT s hl (fun _ _ _ h=>h) (h h1 h2))
end Go.Ab
namespace Go.Ab
open Go

def Jm:Xf->List Nat->List V->Xf
 | sl,p::ps,v::vs=>Jm ((p,v)::sl) ps vs
 | sl,_,_=>sl
def rdE (id n:Nat)(st:LSt)(ob:Xb)(K:Xb->Prop):Option Ob->Prop
 | some (.lp tag _ slk)=>Yc n K [] (setO ob id (.lp tag st slk))
 | _=>False
def rdQ (id n:Nat)(K:Out->Xb->Prop):Yz
 | .normal,_,ob=>rdE id n .ready ob (K (.ret (.d (.bool true)))) (Xe ob id)
 | .ret,_,ob=>rdE id n .ret ob (K (.ret (.d (.bool false)))) (Xe ob id)
 | .exit m,_,ob=>rdE id n (.exit m) ob (K (.ret (.d (.bool false)))) (Xe ob id)
 | .panic _,_,_=>False
def rdB (P:Prg)(y:S)(id n:Nat)(K:Out->Xb->Prop)(sl:Xf)(ob:Xb):Option Ob->Prop
 | some (.lp tag .ready slk)=>cwp P y (rdQ id n K) sl (setO ob id (.lp tag .busy slk))
 | _=>False
def rdA (P:Prg)(y:S)(id n:Nat)(K:Out->Xb->Prop):Yz
 | .normal,sl,ob=>rdB P y id n K sl ob (Xe ob id)
 | _,_,_=>False

section
variable {w:World} {ρ:Env}
theorem Xvg {sl:Xf}{t:Array Value}(h:∀p∈sl,p.2.rep w ρ (t.getD p.1 undef))(k:Nat):(look sl k).rep w ρ (t.getD k undef):=by
 rcases X1z (sl:=sl) (k:=k) with e | e
 ·rw[e]; exact Uc
 ·exact h _ e
theorem Xg0:∀(ps:List Nat) (vs:List V) (us:List Value) (sl:Xf) (t:Array Value),V.reps w ρ vs us->vs.length=ps.length->(∀p∈ps,p<t.size)->(∀k,(look sl k).rep w ρ (t.getD k undef))->
  ∀k,(look (Jm sl ps vs) k).rep w ρ (((ps.zip us).foldl (fun (t:Array Value) (x:Nat×Value)=>t.setIfInBounds x.1 x.2) t).getD k undef)
 | [],vs,us,sl,t,hr,hl,_,h,k=>by
  cases vs with
  | nil=>simp only[V.reps]at hr; subst hr; exact h k
  | cons v r=>simp at hl
 | p::ps,[],us,sl,t,hr,hl,_,h,k=>by simp at hl
 | p::ps,v::vs,us,sl,t,hr,hl,hp,h,k=>by
  simp only[V.reps]at hr
  obtain⟨u,us',rfl,h1,h2⟩:=hr
  simp only[Jm,List.zip_cons_cons,List.foldl_cons]
  refine Xg0 ps vs us' _ _ h2 (by simpa using hl) (fun q hq=>by simpa using hp q (by simp[hq])) (fun j=>?_) k
  have hps:=hp p (by simp)
  simp only[look]
  split
  ·rename_i e; subst e
   have h1':v.rep w ρ u:=h1
   simpa[hps]using h1'
  ·rename_i e
   have:=h j
   simpa[Array.getElem?_setIfInBounds,e]using this
theorem Xhr:∀(l:List (Nat×Value)) (t:Array Value),(l.foldl (fun (t:Array Value) (x:Nat×Value)=>t.setIfInBounds x.1 x.2) t).size=t.size
 | [],_=>rfl
 | x::r,t=>by simp only[List.foldl_cons]; rw[Xhr r]; simp
end

theorem AYield.of {P:Prg}(hm:P.p.follows .mixedOrders=true){id tag:Nat}{ps:List Nat}{x y:S}{slk:Xf}{ob:Xb}{vs:List V}{K:Out->Xb->Prop}(hL:W5 P tag ps x y)(hl:Xe ob id=some (.lp tag .ready slk))(hlen:vs.length=ps.length)
  (h:cwp P x (rdA P y id (Xa ob) K) (Jm slk ps vs) ob):AYield P id vs ob K:=by
 refine⟨fun w ρ args b hO hg hr hb=>?_⟩
 obtain⟨b',fn,tm,dd,qs,ca,cb,g1,g2,g3,g4⟩:=hO.one _ _ hl
 rw[hb]at g1; cases g1
 rw[hg]at g3
 have hc:=(hL qs tm.size ca cb).1 g3
 simp only[Bool.and_eq_true,beq_iff_eq,List.all_eq_true,decide_eq_true_eq]at hc
 obtain⟨⟨⟨⟨⟨hqs,hps⟩,hcx⟩,hcy⟩,hnx⟩,hny⟩:=hc
 have hal:args.length=ps.length:=by rw[<-hlen]; exact Yp hr
 let tm':Array Value:=(qs.zip args.toArray).foldl (fun tmps (x:Nat×Value)=>tmps.setIfInBounds x.1 x.2) tm
 have htm:tm'=(ps.zip args).foldl (fun (t:Array Value) (x:Nat×Value)=>t.setIfInBounds x.1 x.2) tm:=by
  simp only[tm',<-Array.foldl_toList,Array.toList_zip,hqs,List.toList_toArray]
 have hget:(Instr.getLoop b).run P.p w=.ok { state:=.ready,pending:=none,fn:=fn,tmps:=tm,params:=qs,assign:=ca,body:=cb,defers:=dd } w:=by
  simp[Instr.getLoop,getObj,Sem.run,g2,LSt.st,LSt.pend]
 refine⟨fn,tm',ca,cb,?_,?_⟩
 ·have hsz:args.toArray.size=qs.size:=by
   have:=congrArg List.length hqs
   simp at this
   simp[hal,this]
  simp only[Instr.yield,Sem.run_bind,hget,Result.andThen_ok]
  rw[if_neg (by simp[hsz])]
  simp only[Sem.run_pure]
  rfl
 ·refine roundIn_of_wpIn (F:=Fence.wide) trivial ?_
  let c:Ctx:=⟨w,Xa8 ρ,tm.size,[],P.g,ρ.m,[(.hd true id,.func (.yield b) #[] #[])],false⟩
  have m:Mod c ρ.xo ρ (Jm slk ps vs) ob { tmps:=tm',defers:=[] } w:=by
   refine⟨⟨Nat.le_refl _,fun _ _ _=>rfl,fun b h=>.inr h,rfl,rfl,rfl,fun id o h=>⟨o,h,.refl o⟩,fun p hp=>?_,Nat.le_refl _⟩,hO,fun k=>?_,?_,Dfr.nil,rfl,hg⟩
   ·simp only[c,List.mem_singleton]at hp
    subst hp
    exact Jc.2 (.inl ⟨b,hb,rfl⟩)
   ·show (look (Jm slk ps vs) k).rep w ρ (tm'.getD k undef)
    rw[htm]
    exact Xg0 ps vs args slk tm hr hlen hps (Xvg g4) k
   ·show tm'.size=tm.size
    rw[htm,Xhr]
  have old:∀kp i o,ρ.m i=some o->Xd (Xa ob) kp i=false:=fun kp i o h0=>by
   obtain⟨x,hx⟩:=hO.dom i o h0
   have hlt:¬Xa ob<=i:=fun hle=>by rw[X3 _ _ hle]at hx; cases hx
   simp[Xd,hlt]
  -- the loop's record,wherever the round stands
  have record:∀{w':World} {ρ':Env} {sl':Xf} {ob':Xb} {a':Act} {tg:Nat} {st st':LSt} {sk:Xf},Mod c ρ.xo ρ' sl' ob' a' w'->Xe ob' id=some (.lp tg st sk)->
    ∃r:Loop,(Instr.getLoop b).run P.p w'=.ok r w'/\r.state=st.st/\(setObj b (.loop { r with state:=st'.st,pending:=st'.pend })).run P.p w'=.ok () (Jj w' b (.loop { r with state:=st'.st,pending:=st'.pend }))/\r.pending=st.pend/\
     Mod c ρ.xo ρ' sl' (setO ob' id (.lp tg st' sk)) a' (Jj w' b (.loop { r with state:=st'.st,pending:=st'.pend })):=by
   intro w' ρ' sl' ob' a' tg st st' sk m' hl'
   obtain⟨b2,fn2,tm2,dd2,qs2,ca2,cb2,k1,k2,k3,k4⟩:=m'.om.one _ _ hl'
   have hx:=m'.base.ext (.hd true id,.func (.yield b) #[] #[]) (by simp[c])
   rw[Jc]at hx
   rcases hx with⟨b3,hx,e⟩ | ⟨hx,_⟩
   ·rw[k1]at hx; cases hx
    simp only[hdV,Value.func.injEq,Go.Fn.yield.injEq,and_true]at e
    subst e
    refine⟨{ state:=st.st,pending:=st.pend,fn:=fn2,tmps:=tm2,params:=qs2,assign:=ca2,body:=cb2,defers:=dd2 },by simp[Instr.getLoop,getObj,Sem.run,k2],rfl,Up w' k2 rfl,rfl,?_⟩
    have hone:Vu (Jj w' b (.loop { state:=st'.st,pending:=st'.pend,fn:=fn2,tmps:=tm2,params:=qs2,assign:=ca2,body:=cb2,defers:=dd2 })) ρ' id (.lp tg st' sk):=by
     refine⟨b,fn2,tm2,dd2,qs2,ca2,cb2,k1,Jg w' _ (Xh k2),k3,fun p hp=>?_⟩
     have t1:Tr w' ρ' (Jj w' b (.loop { state:=st'.st,pending:=st'.pend,fn:=fn2,tmps:=tm2,params:=qs2,assign:=ca2,body:=cb2,defers:=dd2 })) ρ':=by
      refine⟨by rw[Wp]; exact Nat.le_refl _,fun j hj _=>Zk w' _ (fun e=>hj ?_),fun _ h=>.inl h,rfl,rfl,fun _ o h=>⟨o,h,.refl o⟩,rfl,rfl,rfl,Nat.le_refl _⟩
      subst e; exact⟨id,_,k1,rfl⟩
     exact V.rep_tr t1 (k4 p hp)
    obtain⟨t1,o1⟩:=Xo4 (o:=.loop { state:=st'.st,pending:=st'.pend,fn:=fn2,tmps:=tm2,params:=qs2,assign:=ca2,body:=cb2,defers:=dd2 }) m'.om hl' k1 (Xh k2) (x:=.lp tg st' sk) hone
    exact⟨m'.base.tr t1,o1,m'.sm.tr t1,m'.size,m'.df.tr t1,t1.xo.trans m'.xo,t1.gl.trans m'.gl⟩
   ·rw[k1]at hx; cases hx
  have tr:∀{w':World} {ρ':Env} {sl':Xf} {ob':Xb} {a':Act},Mod c ρ.xo ρ' sl' ob' a' w'->∀kp,Tr w ρ w' (ρ'.del (Xd (Xa ob) kp)):=fun {w' ρ' sl' ob' a'} m' kp=>by
   refine⟨m'.base.size,fun b h1 h2=>m'.base.keep b h2 h1,fun b h1=>(m'.base.owns b (Z2 h1)).symm,?_,?_,fun id o h1=>?_,m'.base.tape,m'.base.os,m'.base.out,m'.base.drawn⟩
   ·show ρ'.xo=ρ.xo; rw[m'.xo]
   ·show ρ'.gl=ρ.gl; rw[m'.gl,hg]
   ·obtain⟨o',h3,h4⟩:=m'.base.same id o h1
    exact⟨o',by simp only[Env.del,old kp id o h1]; exact h3,h4⟩
  have fin:∀{w':World} {ρ':Env} {sl':Xf} {ob':Xb} {a':Act} {st:LSt} {jump:Option Code} {v:Bool},Mod c ρ.xo ρ' sl' ob' a' w'->st.st=(if jump.isNone then .ready else .done)->st.pend=jump->jump.isNone=v->rdE id (Xa ob) st ob' (K (.ret (.d (.bool v)))) (Xe ob' id)->
    ∃u w4,(Instr.endRound b jump).run P.p w'=.ok u w4/\∃out ob2 ρ2,K out ob2/\J5 w4 ρ2 (.returned u) out/\OM w4 ρ2 ob2/\Tr w ρ w4 ρ2:=by
   intro w' ρ' sl' ob' a' st jump v m' hst hpd hv hk
   unfold rdE at hk
   split at hk
   ·rename_i tg st0 sk hl'
    obtain⟨r,q1,_,q3,_,m2⟩:=record (st':=st) m' hl'
    obtain⟨kp,_,k2,k3⟩:=hk
    refine⟨.bool v,_,?_,_,_,_,k3,rep_bool.2 rfl,m2.om.del k2,tr m2 kp⟩
    rw[hst,hpd]at q3
    simp only[Instr.endRound,Sem.run_bind,q1,Result.andThen_ok,q3,Sem.run_pure]
    rw[hst,hpd,hv]
   ·exact hk.elim
  refine wpIn_mono (Yd (rd:=some b) hm (c:=c) rfl ca x _ _ _ ρ _ w hcx (.inl hnx) h m) ?_
  rintro e a1 w1 ⟨ae,sl1,ob1,ρ1,hq,he,m1⟩
  cases ae with
  | exit n=>exact hq.elim
  | ret=>exact hq.elim
  | panic v=>exact hq.elim
  | normal=>
   cases e<;>simp only[exM]at he
   simp only[rdA]at hq
   unfold rdB at hq
   split at hq
   ·rename_i tg sk hl1
    obtain⟨r,q1,q2,q3,q4,m2⟩:=record (st':=.busy) m1 hl1
    refine⟨_,?_,wpIn_mono (Yd (rd:=some b) hm (c:=c) rfl cb y _ _ _ ρ1 a1 _ hcy (.inl hny) hq m2) ?_⟩
    ·simp only[Instr.beginRound,Sem.run_bind,q1,Result.andThen_ok]
     have q3':(setObj b (.loop { r with state:=.busy })).run P.p w1=.ok () (Jj w1 b (.loop { r with state:=.busy,pending:=none })):=by
      have:(Loop.mk .busy r.pending r.fn r.tmps r.params r.assign r.body r.defers)=Loop.mk .busy none r.fn r.tmps r.params r.assign r.body r.defers:=by rw[q4]; rfl
      show (setObj b (.loop (Loop.mk .busy r.pending r.fn r.tmps r.params r.assign r.body r.defers))).run P.p w1=_
      rw[this]; exact q3
     rw[q3',q2]
     simp[LSt.st]
     rfl
    ·rintro e a3 w3 ⟨ae,sl3,ob3,ρ3,hq,he,m3⟩
     cases ae with
     | normal=>cases e<;>simp only[exM]at he; exact fin (st:=.ready) m3 rfl rfl rfl hq
     | ret=>cases e<;>simp only[exM]at he; exact fin (st:=.ret) m3 rfl rfl rfl hq
     | exit n=>cases e<;>simp only[exM]at he; subst he; exact fin (st:=.exit _) m3 rfl rfl rfl hq
     | panic v=>exact hq.elim
   ·exact hq.elim
end Go.Ab
namespace Go.Ab
open Go
def Xdj (n:Nat)(rs:List RV)(K:Out->Xb->Prop):Yz
 | .panic _,_,_=>False
 | e,sl,ob=>Xex n rs K e sl ob
section
variable {n k:Nat} {sl:Xf} {ob:Xb} {v:V}
@[simp] theorem callNR_r (rs:List RV)(KU:Out->Xb->Prop):Xdj n rs KU .ret sl ob=Wn sl ob rs fun vs=>Yc n (KU (.ret (Wo vs))) vs ob:=by simp only[Xdj,Xex]
@[simp] theorem callNR_p (rs:List RV)(KU:Out->Xb->Prop):Xdj n rs KU (.panic v) sl ob=False:=by simp only[Xdj]
end
section
theorem Xgu {P:Prg}(hm:P.p.follows .mixedOrders=true){f:Nat}{s:S}{rs:List RV}{vs:List V}{ob:Xb}{K:Out->Xb->Prop}(hc:Us P.p f vs.length s rs=true)
  (h:cwp P s (Xdj (Xa ob) rs K) (Vi 0 vs) ob):ACall P f vs ob K:=by
 unfold Us at hc
 split at hc
 ·rename_i fn hf
  split at hc
  ·rename_i code hb
   simp only[Bool.and_eq_true,decide_eq_true_eq]at hc
   obtain⟨⟨hn,h1⟩,h2⟩:=hc
   refine⟨fun w ρ args hO hg hr=>callsIn_wide.1 (callsIn_of_wp_marks (n:=0) hf hb trivial ?_)⟩
   let c:Ctx:=⟨w,Xa8 ρ,fn.ntmps,[],P.g,ρ.m,[],true⟩
   have hlen:args.length=vs.length:=by simpa using Yp hr
   have m:Mod c ρ.xo ρ (Vi 0 vs) ob { tmps:=args.toArray++Array.replicate (fn.ntmps-args.toArray.size) undef,defers:=[] } w:=by
    refine⟨⟨Nat.le_refl _,fun _ _ _=>rfl,fun b h=>.inr h,rfl,rfl,rfl,fun id o h=>⟨o,h,.refl o⟩,(fun p hp=>by cases hp),Nat.le_refl _⟩,hO,?_,?_,Dfr.nil,rfl,hg⟩
    ·refine Vj hr 0 _ (fun i hi=>?_)
     simp[Array.getElem?_append,hi]
    ·simp[c]; omega
   refine wpIn_mono (Yd (rd:=none) hm rfl code s _ _ _ ρ _ w h1 (.inr ⟨rfl,rfl⟩) h m) ?_
   rintro e a' w' ⟨ae,sl',ob',ρ',hq,he,m'⟩
   have old:∀kp id o,ρ.m id=some o->Xd (Xa ob) kp id=false:=fun kp id o h0=>by
    obtain⟨x,hx⟩:=hO.dom id o h0
    have hlt:¬Xa ob<=id:=fun hle=>by rw[X3 _ _ hle]at hx; cases hx
    simp[Xd,hlt]
   have hfin:Wn sl' ob' rs (fun vs=>Yc (Xa ob) (K (.ret (Wo vs))) vs ob')->LeavesInM Fence.wide 0 P.p fn a'.tmps (fun e w'=>∃out ob' ρ',K out ob'/\J5 w' ρ' e out/\OM w' ρ' ob'/\Tr w ρ w' ρ') a'.defers .returning w':=by
    intro hq
    obtain⟨ms,q1,_,q3,q4⟩:=m'.df
    have q1:a'.defers=ms.map mkD:=by rw[q1]; simp[c]
    rw[q1]
    refine Wv ms w' q3 (fun r hr=>(q4 r hr).2.1) (fun w2 sm hs=>?_)
    have hgl:∀b o,ρ'.gl b=some o->w2.heap[b]? = w'.heap[b]?:=fun b o hb=>hs b (fun hm=>by
     have h3:=(hO.glb b o (by rw[hg,<-show ρ'.gl=P.g from m'.gl]; exact hb)).1
     have:=(q4 b hm).1
     have:=Xh h3
     show False
     simp only[c]at *
     omega)
    have om2:=OM.same sm m'.om hgl
    have tr:∀{ρ2:Env},Tr w2 ρ' w2 ρ2->∀kp,Tr w ρ w2 (ρ2.del (Xd (Xa ob) kp)):=fun {ρ2} t kp=>by
     refine⟨by rw[sm.size]; exact m'.base.size,fun b h1 h2=>(hs b (fun hm=>by have:=(q4 b hm).1; simp only[c]at this; omega)).trans (m'.base.keep b h2 h1),fun b h1=>?_,?_,?_,fun id o h1=>?_,sm.tape.trans m'.base.tape,sm.os.trans m'.base.os,sm.out.trans m'.base.out,by rw[sm.drawn]; exact m'.base.drawn⟩
     ·rcases t.owns b (Z2 h1) with h3 | h3
      ·exact (m'.base.owns b h3).symm
      ·exact .inr (Nat.le_trans (by rw[sm.size]; exact m'.base.size) h3)
     ·show ρ2.xo=ρ.xo; rw[t.xo,m'.xo]
     ·show ρ2.gl=ρ.gl; rw[t.gl,m'.gl,hg]
     ·obtain⟨o1,h3,h4⟩:=m'.base.same id o h1
      obtain⟨o2,h5,h6⟩:=t.same id o1 h3
      exact⟨o2,by simp only[Env.del,old kp id o h1]; exact h5,h4.trans h6⟩
    obtain⟨vs,us,hk,hrep,hrun⟩:=Zz (P:=P.p) (fn:=fn) (SM.same sm m'.sm) om2 h2 hq
    obtain⟨kp,k1,k2,k3⟩:=hk
    exact⟨Xqc us,hrun,.ret (Wo vs),_,_,k3,Ve (Je k1 hrep),om2.del k2,tr (Tr.refl _ _) kp⟩
   cases ae with
   | normal=>
    cases e<;>simp only[exM]at he
    exact hfin hq
   | ret=>
    cases e<;>simp only[exM]at he
    exact hfin hq
   | exit n=>exact hq.elim
   | panic v=>exact hq.elim
  ·simp at hc
 ·simp at hc
end
theorem ACall.arr1 {P:Prg}{f id E sz n:Nat}{l l':List D}{ys:List V}(hy:∀w ρ ρ' us,own ρ'=own ρ->V.reps w ρ ys us->V.reps w ρ' ys us){ob:Xb}{K:Out->Xb->Prop}(hl:Xe ob id=some (.arr E sz l))
  (h:ACall P f (.sl id n::ys) [(id,.arr E sz l)] fun o b=>o=.ret (.tup [])/\b=[(id,.arr E sz l')]) (hK:K (.ret (.tup [])) (setO ob id (.arr E sz l'))):ACall P f (.sl id n::ys) ob K:=by
 refine⟨fun w ρ args hO hg hr=>?_⟩
 obtain⟨o,ho⟩:∃o,ρ.m id=some o:=by
  rcases hO.one id _ hl with⟨h1,_⟩ | ⟨b,cap,cs,sp,h1,_⟩<;>exact⟨_,h1⟩
 let ρ0:Env:=⟨fun j=>if j=id then ρ.m id else none,fun b=>ρ.xo b\/∃j p,j ≠ id/\ρ.m j=some p/\p.blk? = some b,ρ.gl⟩
 have m0:∀j p,ρ0.m j=some p->j=id/\ρ.m id=some p:=fun j p hj=>by
  simp only[ρ0]at hj
  split at hj
  ·rename_i e; exact⟨e,hj⟩
  ·cases hj
 have ow0:own ρ0=own ρ:=by
  funext b
  refine propext ⟨fun hb=>?_,fun hb=>?_⟩
  ·rcases hb with⟨j,p,h1,h2⟩ | h1 | ⟨j,p,_,h1,h2⟩
   ·obtain⟨rfl,h3⟩:=m0 j p h1; exact .inl ⟨j,p,h3,h2⟩
   ·exact .inr h1
   ·exact .inl ⟨j,p,h1,h2⟩
  ·rcases hb with⟨j,p,h1,h2⟩ | h1
   ·by_cases e:j=id
    ·subst e; exact .inl ⟨j,p,by simp[ρ0,h1],h2⟩
    ·exact .inr (.inr ⟨j,p,e,h1,h2⟩)
   ·exact .inr (.inl h1)
 have hO0:OM w ρ0 [(id,.arr E sz l)]:=by
  refine⟨fun j x hx=>?_,fun j p hj=>?_,fun i j p q b h1 h2 h3 h4=>?_,fun b hb=>?_,fun b q hb=>⟨(hO.glb b q hb).1,by rw[ow0]; exact (hO.glb b q hb).2⟩,fun b hb hx=>?_,⟨rfl,trivial⟩⟩
  ·simp only[Xe]at hx
   split at hx
   ·rename_i e
    cases hx
    have e:j=id:=e.symm
    subst e
    have h1:=hO.one j _ hl
    simp only[Vu]at h1⊢
    rw[ow0]
    simpa[ρ0]using h1
   ·cases hx
  ·obtain⟨rfl,_⟩:=m0 j p hj
   exact⟨.arr E sz l,by simp[Xe]⟩
  ·rw[(m0 i p h1).1,(m0 j q h2).1]
  ·rcases hb with hb | ⟨j,p,_,h1,h2⟩
   ·exact hO.xlt b hb
   ·exact Wc hO h1 h2
  ·obtain⟨j,p,h1,h2⟩:=hb
   obtain⟨rfl,h3⟩:=m0 j p h1
   rcases hx with hx | ⟨i,q,hne,h4,h5⟩
   ·exact hO.xdis b ⟨j,p,h3,h2⟩ hx
   ·exact hne (hO.inj i j q p b h4 h3 h5 h2)
 have hr0:V.reps w ρ0 (.sl id n::ys) args:=by
  simp only[V.reps]at hr⊢
  obtain⟨u,us,e,h1,h2⟩:=hr
  refine⟨u,us,e,?_,?_⟩
  ·have h1:(V.sl id n).rep w ρ u:=h1
   have:(V.sl id n).rep w ρ0 u:=by
    rw[Yg]at h1⊢
    simpa[ρ0]using h1
   exact this
  ·exact hy w ρ ρ0 us ow0 h2
 refine (h.run w ρ0 args hO0 hg hr0).mono fun e w' ⟨out,ob',ρ',⟨e1,e2⟩,hre,hO',t⟩=>?_
 subst e1; subst e2
 have m1:∀j p,ρ'.m j=some p->j=id:=fun j p hj=>by
  obtain⟨x,hx⟩:=hO'.dom j p hj
  simp only[Xe]at hx
  split at hx
  ·rename_i e; exact e.symm
  ·cases hx
 obtain⟨o',ho',hle⟩:=t.same id o (by simp[ρ0,ho])
 have blk:∀b,o'.blk? = some b->w.heap.size<=b\/∃p,ρ.m id=some p/\p.blk? = some b:=fun b hb=>by
  rcases t.owns b ⟨id,o',ho',hb⟩with⟨j,p,h1,h2⟩ | h1
  ·exact .inr ⟨p,(m0 j p h1).2,h2⟩
  ·exact .inl h1
 have keep:∀j p b,j ≠ id->ρ.m j=some p->p.blk? = some b->w'.heap[b]? = w.heap[b]?:=fun j p b hne h1 h2=>by
  refine t.keep b (fun ⟨i,q,h3,h4⟩=>?_) (Wc hO h1 h2)
  obtain⟨rfl,h5⟩:=m0 i q h3
  exact hne (hO.inj j i p q b h1 h5 h2 h4)
 have tt:Tr w ρ w' (ρ.ins id o'):=by
  refine⟨t.size,fun b hn hlt=>t.keep b (fun ⟨i,q,h3,h4⟩=>?_) hlt,fun b hb=>?_,rfl,rfl,fun j p hj=>?_,t.tape,t.os,t.out,t.drawn⟩
  ·obtain⟨rfl,h5⟩:=m0 i q h3
   exact hn ⟨i,q,h5,h4⟩
  ·obtain⟨j,p,h1,h2⟩:=hb
   simp only[Env.ins]at h1
   split at h1
   ·cases h1
    rcases blk b h2 with h3 | ⟨q,h3,h4⟩
    ·exact .inr h3
    ·exact .inl ⟨id,q,h3,h4⟩
   ·exact .inl ⟨j,p,h1,h2⟩
  ·by_cases e:j=id
   ·subst e
    rw[ho]at hj; cases hj
    exact⟨o',by simp[Env.ins],hle⟩
   ·exact⟨p,by simp[Env.ins,e,hj],.refl p⟩
 have ow1:own ρ'=own (ρ.ins id o'):=by
  funext b
  refine propext ⟨fun hb=>?_,fun hb=>?_⟩
  ·rcases hb with⟨j,p,h1,h2⟩ | h1
   ·have e:=m1 j p h1
    subst e
    rw[ho']at h1; cases h1
    exact .inl ⟨j,o',by simp[Env.ins],h2⟩
   ·rw[t.xo]at h1
    rcases h1 with h1 | ⟨j,p,hne,h1,h2⟩
    ·exact .inr h1
    ·exact .inl ⟨j,p,by simp[Env.ins,hne,h1],h2⟩
  ·rcases hb with⟨j,p,h1,h2⟩ | h1
   ·simp only[Env.ins]at h1
    split at h1
    ·cases h1; exact .inl ⟨id,o',ho',h2⟩
    ·rename_i hne
     exact .inr (t.xo▸.inr ⟨j,p,hne,h1,h2⟩)
   ·exact .inr (t.xo▸.inl h1)
 have one':Vu w' (ρ.ins id o') id (.arr E sz l'):=by
  have h1:=hO'.one id (.arr E sz l') (by simp[Xe])
  simp only[Vu]at h1⊢
  rw[ow1]at h1
  simpa[Env.ins,ho']using h1
 refine⟨.ret (.tup []),_,ρ.ins id o',hK,?_,Qu hO hl tt one' blk keep,tt⟩
 cases e with
 | returned u=>
  have h1:(V.tup []).rep w' ρ' u:=hre
  show (V.tup []).rep w' (ρ.ins id o') u
  rw[Zd]at h1⊢
  simpa[V.reps]using h1
 | _=>exact (hre:False).elim
end Go.Ab
namespace Go.Ab
open Go
section
variable {ob:Xb} {n k:Nat} {l:List Nat}
theorem X2v (h:k<n):Xd n l k=false:=by simp[Xd]; omega
@[simp] theorem Qo (h:Xa ob<=n):Za (Xd n l) ob=ob:=by
 induction ob with
 | nil=>rfl
 | cons e r ih=>
  obtain⟨i,y⟩:=e
  simp only[Xa]at h
  have hi:i<n/\Xa r<=n:=by split at h<;>omega
  simp only[Za,X2v hi.1,Bool.false_eq_true,if_false,ih hi.2]
@[simp] theorem young_old_add (m:Nat)(h:(Xe ob k).isSome=true):Xd (Xa ob+m) l k=false:=by
 have:k<Xa ob:=by
  rcases Nat.lt_or_ge k (Xa ob) with h1 | h1
  ·exact h1
  ·rw[X3 ob k h1]at h; cases h
 simp[Xd]; omega
mutual
theorem V.men_mono {p q:Nat->Bool}(h:∀j,q j=false->p j=false):∀v:V,V.men q v=false->V.men p v=false
 | .d _,_=>rfl
 | .ptr id _,e=>h id e
 | .sl id _,e=>h id e
 | .sd id _,e=>h id e
 | .mp id,e=>h id e
 | .hd _ id,e=>h id e
 | .ep id _ _ _ _ _,e=>h id e
 | .bs id _ _ _,e=>h id e
 | .fn _ a b,e=>by
  simp only[V.men,Bool.or_eq_false_iff]at e⊢
  exact⟨V.mens_mono h a e.1,V.mens_mono h b e.2⟩
 | .agg xs,e=>by simp only[V.men]at e⊢; exact V.mens_mono h xs e
 | .iface _ v,e=>by simp only[V.men]at e⊢; exact V.men_mono h v e
 | .tup xs,e=>by simp only[V.men]at e⊢; exact V.mens_mono h xs e
 | .undef,_=>rfl
 | .any,_=>rfl
theorem V.mens_mono {p q:Nat->Bool}(h:∀j,q j=false->p j=false):∀xs:List V,V.mens q xs=false->V.mens p xs=false
 | [],_=>rfl
 | x::r,e=>by
  simp only[V.mens,Bool.or_eq_false_iff]at e⊢
  exact⟨V.men_mono h x e.1,V.mens_mono h r e.2⟩
end
theorem Xd6 {p q:Nat->Bool}(h:∀j,q j=false->p j=false):∀xs:List (D×V),U9 q xs=false->U9 p xs=false
 | [],_=>rfl
 | (_,x)::r,e=>by
  simp only[U9,Bool.or_eq_false_iff]at e⊢
  exact⟨V.men_mono h x e.1,Xd6 h r e.2⟩
theorem noMenO_mono {p q:Nat->Bool}(h:∀j,q j=false->p j=false):∀ob:Xb,Xi q ob=true->Xi p ob=true
 | [],_=>rfl
 | (_,.box _ t)::r,e=>by
  simp only[Xi,Bool.and_eq_true,Bool.not_eq_true']at e⊢
  exact⟨V.men_mono h t e.1,noMenO_mono h r e.2⟩
 | (_,.vec _ _ t)::r,e=>by
  simp only[Xi,Bool.and_eq_true,Bool.not_eq_true']at e⊢
  exact⟨V.mens_mono h t e.1,noMenO_mono h r e.2⟩
 | (_,.map t)::r,e=>by
  simp only[Xi,Bool.and_eq_true,Bool.not_eq_true']at e⊢
  exact⟨Xd6 h t e.1,noMenO_mono h r e.2⟩
 | (_,.arr _ _ _)::r,e=>by simp only[Xi]at e⊢; exact noMenO_mono h r e
 | (_,.gone)::r,e=>by simp only[Xi]at e⊢; exact noMenO_mono h r e
 | (_,.lp _ _ t)::r,e=>by
  simp only[Xi,Bool.and_eq_true]at e⊢
  exact⟨Xcc t fun x hx=>V.men_mono h x.2 (Jx t e.1 x hx),noMenO_mono h r e.2⟩
 | (_,.it m _ _)::r,e=>by
  simp only[Xi,Bool.and_eq_true,Bool.not_eq_true']at e⊢
  refine⟨?_,noMenO_mono h r e.2⟩
  cases m with
  | none=>rfl
  | some j=>exact h j e.1
theorem Xiq (h:∀kp,Xi (Xd (Xa ob) kp) ob=true)(hn:Xa ob<=n):Xi (Xd n l) ob=true:=
 noMenO_mono (fun j e=>by simp[Xd]at e⊢; intro hj; exact e (by omega)) ob (h l)
theorem Xt (m:Nat)(h:∀kp,Xi (Xd (Xa ob) kp) ob=true):Xi (Xd (Xa ob+m) l) ob=true:=Xiq h (by omega)
theorem DCall.of_wf {P:Prg}{f:Nat}{vs:List V}{ob:Xb}{rv:Option V}{K:Xb->Prop}(h:(∀kp,V.mens (Xd (Xa ob) kp) vs=false)->(∀kp,Xi (Xd (Xa ob) kp) ob=true)->DCall P f vs ob rv K):DCall P f vs ob rv K:=by
 have key:∀w ρ args,OM w ρ ob->V.reps w ρ vs args->DCall P f vs ob rv K:=fun w ρ args hO hr=>by
  have old:∀kp id o,ρ.m id=some o->Xd (Xa ob) kp id=false:=fun kp id o h0=>by
   obtain⟨x,hx⟩:=hO.dom id o h0
   have hlt:¬Xa ob<=id:=fun hle=>by rw[X3 _ _ hle]at hx; cases hx
   simp[Xd,hlt]
  exact h (fun kp=>V.mens_dom (old kp) _ _ hr) (fun kp=>Zp ob fun e he=>(hO.one e.1 _ (hO.once.look e he)).noMen (old kp))
 exact⟨fun e w ρ args hO hg hr=>(key w ρ args hO hr).ret e w ρ args hO hg hr,fun v e w ρ args x hO hg hr hv hi=>(key w ρ args hO hr).pan v e w ρ args x hO hg hr hv hi⟩
end
end Go.Ab
namespace Go.Ab
open Go
section
variable {P:Prg} {T:Tab} {sl:Xf} {ob:Xb} {K:Xf->Xb->Prop} {Pn:V->Xf->Xb->Prop}
@[simp] theorem zp:owp P K Pn .done sl ob=K sl ob:=by simp only[owp]
@[simp] theorem zq (i:Nat)(x:It)(r:Ot):owp P K Pn (.one i x r) sl ob=itK P (owp P K Pn r) Pn x sl ob:=by simp only[owp]
@[simp] theorem zo (l:Ots):owp P K Pn (.br l) sl ob=Xda P K Pn l sl ob:=by simp only[owp]
@[simp] theorem zt:Xda P K Pn .nil sl ob=True:=by simp only[Xda]
@[simp] theorem zr (i:Nat)(x:It)(r:Ot)(l:Ots):Xda P K Pn (.cons i x r l) sl ob=(itK P (owp P K Pn r) Pn x sl ob/\Xda P K Pn l sl ob):=by simp only[Xda]
@[simp] theorem qt (d:Option Nat)(i:I):itK P K Pn (.op d i) sl ob=i.wp P sl ob (fun v ob'=>K (put sl d v) ob') (fun v ob'=>Pn v sl ob'):=by simp only[itK]
@[simp] theorem qr (s:Nat)(b:Bool)(d:Option Nat)(i:I):itK P K Pn (.gop s b d i) sl ob=gdK s b sl (fun sl=>i.wp P sl ob (fun v ob'=>K (put sl d v) ob') (fun v ob'=>Pn v sl ob')) (fun sl=>K (put sl d .undef) ob) (look sl s):=by simp only[itK]
@[simp] theorem qn (t:Ot)(kp pk:List Nat)(Q:Yz):Yy P T (.rgT t kp pk) Q sl ob=owp P (fun sl ob=>Q .normal (Xk sl kp) ob) (fun v sl ob=>Q (.panic v) (Xk sl pk) ob) t sl ob:=by simp only[Yy]
variable {KO PO:V->Xb->Prop} {KV:V->Prop}
@[simp] theorem iwp_mkm (r:Option A):I.wp P sl ob KO PO (.mkm r)=(Xx5 sl r/\KO (.mp (Xa ob)) ((Xa ob,.map [])::ob)):=by simp only[I.wp]
@[simp] theorem iwp_lkp (kd z:D)(ok:Bool)(m k:A):I.wp P sl ob KO PO (.lkp kd z ok m k)=Xve ob kd z ok (fun v=>KO v ob) (m.ev sl) (k.ev sl):=by simp only[I.wp]
@[simp] theorem iwp_mset (kd:D)(m k v:A):I.wp P sl ob KO PO (.mset kd m k v)=Xca ob kd (v.ev sl) KO (m.ev sl) (k.ev sl):=by simp only[I.wp]
@[simp] theorem ze (g n:Nat)(ag:Bool)(x:D):I.wp P sl ob KO PO (.gld g n ag x)=(GlobIs P g x/\x.sz=n/\(V.d x).isAgg=ag/\KO (.d x) ob):=by simp only[I.wp]
@[simp] theorem mkmK_none:Xx5 sl none=True:=by simp only[Xx5]
@[simp] theorem mkmK_some (x:A):Xx5 sl (some x)=Xh4 (x.ev sl):=by simp only[Xx5]
@[simp] theorem isIntV_int (k:IntKind)(n:Int):Xh4 (.d (.int k n))=True:=by simp only[Xh4]
@[simp] theorem lkpK_mp (kd z k:D)(ok:Bool)(id:Nat):Xve ob kd z ok KV (.mp id) (.d k)=Xfb kd z ok k KV (Xe ob id):=by simp only[Xve]
@[simp] theorem lkpKo_map (kd z k:D)(ok:Bool)(es:List (D×V)):Xfb kd z ok k KV (some (.map es))=(Xb4 kd k es/\KV (X1y z ok (Wj k es))):=by simp only[Xfb]
@[simp] theorem msetK_mp (kd k:D)(v:V)(id:Nat):Xca ob kd v KO (.mp id) (.d k)=Q3 ob id kd k v KO (Xe ob id):=by simp only[Xca]
@[simp] theorem msetKo_map (kd k:D)(v:V)(id:Nat)(es:List (D×V)):Q3 ob id kd k v KO (some (.map es))=(Xb4 kd k es/\v.sto=true/\KO .undef (setO ob id (.map (Xjh k v es)))):=by simp only[Q3]
@[simp] theorem lkpV_fs (z:D)(v:V):X1y z false (some v)=v:=by simp only[X1y]
@[simp] theorem lkpV_fn (z:D):X1y z false none=.d z:=by simp only[X1y]
@[simp] theorem findE_nil (k:D):Wj k []=none:=by simp only[Wj]
@[simp] theorem Xpp (k j:D)(v:V)(r:List (D×V)):Wj k ((j,v)::r)=if D.sameKey k j then some v else Wj k r:=by simp only[Wj]
@[simp] theorem updE_nil (k:D)(x:V):Xjh k x []=[(k,x)]:=by simp only[Xjh]
@[simp] theorem cwp_idxV (n z:Nat)(ag:Bool)(x y:A):C.wp sl ob KV (.aix n z ag x y)=Xkf n z ag KV (x.ev sl) (y.ev sl):=by simp only[C.wp]
@[simp] theorem cval_eqD (ty:KT)(e:Bool)(x y:A):C.val sl ob (.eqD ty e x y)=Yb6 e (x.ev sl) (y.ev sl):=by simp only[C.val]
@[simp] theorem cval_idxV (n z:Nat)(ag:Bool)(x y:A):C.val sl ob (.aix n z ag x y)=Xpx (x.ev sl) (y.ev sl):=by simp only[C.val]
@[simp] theorem eqDV_d (e:Bool)(x y:D):Yb6 e (.d x) (.d y)=.d (.bool (D.eqb x y==e)):=by simp only[Yb6]
@[simp] theorem idxVV_d (k:IntKind)(xs:List D)(n:Int):Xpx (.d (.agg xs)) (.d (.int k n))=.d (xs.getD n.toNat default):=by simp only[Xpx]
def Ydt (ty:KT):V->V->Prop
 | .d x,.d y=>ty.fits x=true/\ty.fits y=true
 | _,_=>False
@[simp] theorem eqDS_d (ty:KT)(x y:D):Ydt ty (.d x) (.d y)=(ty.fits x=true/\ty.fits y=true):=by simp only[Ydt]
@[simp] theorem cok_eqD (ty:KT)(e:Bool)(x y:A):C.ok sl ob (.eqD ty e x y)=Ydt ty (x.ev sl) (y.ev sl):=by
 simp only[C.ok,C.wp,C.val]
 generalize x.ev sl=a; generalize y.ev sl=b
 cases a<;>cases b<;>simp[Yds,Ydt,Yb6]
end
attribute [simp] D.eqb D.eqbs KT.fits KT.fitss KT.fitsA
@[congr] theorem owp_congr {P:Prg}{K:Xf->Xb->Prop}{Pn:V->Xf->Xb->Prop}{t:Ot}{sl:Xf}{ob:Xb}:owp P K Pn t sl ob=owp P K Pn t sl ob:=rfl
@[congr] theorem itK_congr {P:Prg}{K:Xf->Xb->Prop}{Pn:V->Xf->Xb->Prop}{t:It}{sl:Xf}{ob:Xb}:itK P K Pn t sl ob=itK P K Pn t sl ob:=rfl
@[congr] theorem slgK_congr {ob:Xb}{n z:Nat}{K:V->Xb->Prop}{u u':V}(h0:u=u'):X4r ob n z K u=X4r ob n z K u':=by rw[h0]
@[congr] theorem slgKv_congr {n z:Nat}{K:D->Prop}{u u':Option V}(h0:u=u'):Xqg n z K u=Xqg n z K u':=by rw[h0]
@[congr] theorem lkpK_congr {ob:Xb}{kd z:D}{ok:Bool}{K:V->Prop}{u u' v v':V}(h0:u=u')(h1:v=v'):Xve ob kd z ok K u v=Xve ob kd z ok K u' v':=by rw[h0,h1]
@[congr] theorem lkpKo_congr {kd z k:D}{ok:Bool}{K:V->Prop}{o o':Option Ob}(h0:o=o'):Xfb kd z ok k K o=Xfb kd z ok k K o':=by rw[h0]
@[congr] theorem msetK_congr {ob:Xb}{kd:D}{x x':V}{K:V->Xb->Prop}{u u' v v':V}(h:x=x')(h0:u=u')(h1:v=v'):Xca ob kd x K u v=Xca ob kd x' K u' v':=by rw[h,h0,h1]
@[congr] theorem msetKo_congr {ob:Xb}{id:Nat}{kd k:D}{x:V}{K:V->Xb->Prop}{o o':Option Ob}(h0:o=o'):Q3 ob id kd k x K o=Q3 ob id kd k x K o':=by rw[h0]
structure Pin {α:Type}(a:α):Type where
 mk::
def Xgr (P:Prg)(f:Nat)(args:List V)(ob:Xb)(K:Out->Xb->Prop)(_:Pin K):Prop:=ACall P f args ob K
def Xq5 (keep:List Nat)(body:Yz->Xf->Xb->Prop)(Q:Yz)(sl:Xf)(ob:Xb)(_:Pin Q)(_:Pin body):Prop:=ALoop keep body Q sl ob
section
variable {P:Prg} {T:Tab} {sl:Xf} {ob:Xb} {KO PO:V->Xb->Prop}
theorem Xz (f:Nat)(l:List A):I.wp P sl ob KO PO (.call f l)=Xgr P f (l.map (A.ev sl)) ob (Xa7 KO PO) ⟨⟩:=by simp only[I.wp,Xgr]
theorem Xx (vs:List V)(k:Nat)(a1 a2:List V):Wi P vs ob KO PO (.fn k a1 a2)=(Xm P.p k=true/\Xgr P k (a1++vs++a2) ob (Xa7 KO PO) ⟨⟩):=by simp only[Wi,Xgr]
theorem Xq (kp:List Nat)(s:S2)(Q:Yz):Yy P T (.loop kp s) Q sl ob=Xq5 kp (Yy P T s) Q sl ob ⟨⟩ ⟨⟩:=by simp only[Yy,Xq5]
end
end Go.Ab
namespace Go.Ab
open Go
mutual
def D.le:D->D->Prop
 | .nils,y=>y=.nils\/∃sz,y=.list sz []
 | .agg xs,y=>∃ys,y=.agg ys/\D.les xs ys
 | .list a xs,y=>∃ys,y=.list a ys/\D.les xs ys
 | .int k n,y=>y=.int k n
 | .bool b,y=>y=.bool b
 | .str s,y=>y=.str s
 | .nili,y=>y=.nili
 | .nilp,y=>y=.nilp
 | .nilf,y=>y=.nilf
 | .nilm,y=>y=.nilm
 | .ref x,y=>y=.ref x
 | .iface t x,y=>y=.iface t x
 | .fn f a b,y=>y=.fn f a b
def D.les:List D->List D->Prop
 | [],l=>l=[]
 | x::r,l=>∃y s,l=y::s/\D.le x y/\D.les r s
end
mutual
theorem D.le.same:∀{x y:D},D.le x y->y.sz=x.sz/\y.isAgg=x.isAgg
 | .nils,y,h=>by
  simp only[D.le]at h
  rcases h with rfl | ⟨_,rfl⟩<;>exact⟨by simp[D.sz],rfl⟩
 | .agg xs,y,h=>by
  simp only[D.le]at h
  obtain⟨ys,rfl,h⟩:=h
  exact⟨by simp only[D.sz]; exact D.les.same h,rfl⟩
 | .list a xs,y,h=>by
  simp only[D.le]at h
  obtain⟨ys,rfl,h⟩:=h
  exact⟨by simp only[D.sz],rfl⟩
 | .int ..,y,h | .bool ..,y,h | .str ..,y,h | .nili,y,h | .nilp,y,h | .nilf,y,h | .nilm,y,h | .ref ..,y,h | .iface ..,y,h | .fn ..,y,h=>by
  simp only[D.le]at h; subst h; exact⟨rfl,rfl⟩
theorem D.les.same:∀{xs ys:List D},D.les xs ys->D.szs ys=D.szs xs
 | [],ys,h=>by simp only[D.les]at h; subst h; rfl
 | x::r,ys,h=>by
  simp only[D.les]at h
  obtain⟨y,s,rfl,h1,h2⟩:=h
  simp only[D.szs,h1.same.1,h2.same]
end
theorem D.les.length:∀{xs ys:List D},D.les xs ys->ys.length=xs.length
 | [],ys,h=>by simp only[D.les]at h; subst h; rfl
 | x::r,ys,h=>by
  simp only[D.les]at h
  obtain⟨y,s,rfl,h1,h2⟩:=h
  simp[D.les.length h2]
theorem D.les.szAll:∀{xs ys:List D} {n:Nat},D.les xs ys->(∀x∈xs,x.sz=n)->∀y∈ys,y.sz=n
 | [],ys,n,h,_=>by simp only[D.les]at h; subst h; simp
 | x::r,ys,n,h,hx=>by
  simp only[D.les]at h
  obtain⟨y,s,rfl,h1,h2⟩:=h
  intro z hz
  rcases List.mem_cons.1 hz with rfl | hz
  ·rw[h1.same.1]; exact hx x (by simp)
  ·exact D.les.szAll h2 (fun u hu=>hx u (by simp[hu])) z hz
section
variable {w:World} {ow:Nat->Prop}
mutual
theorem D.le.rep:∀{x y:D} {cs:List Value},D.le x y->x.rep w ow cs->y.rep w ow cs
 | .nils,y,cs,h,hr=>by
  simp only[D.le]at h
  rcases h with rfl | ⟨sz,rfl⟩
  ·exact hr
  ·simp only[D.rep]at hr⊢; exact .inl ⟨trivial,hr⟩
 | .agg xs,y,cs,h,hr=>by
  simp only[D.le]at h
  obtain⟨ys,rfl,h⟩:=h
  simp only[D.rep]at hr⊢
  exact D.les.rep h hr
 | .list a xs,y,cs,h,hr=>by
  simp only[D.le]at h
  obtain⟨ys,rfl,h⟩:=h
  simp only[D.rep]at hr⊢
  have hl:=h.length
  rcases hr with⟨rfl,hr⟩ | ⟨ad,cap,vs,h1,h2,h3,h4,h5⟩
  ·refine .inl ⟨?_,hr⟩
   simpa using hl
  ·exact .inr ⟨ad,cap,vs,by rw[hl]; exact h1,by rw[hl]; exact h2,h3,D.les.rep h h4,h.szAll h5⟩
 | .int ..,y,cs,h,hr | .bool ..,y,cs,h,hr | .str ..,y,cs,h,hr | .nili,y,cs,h,hr | .nilp,y,cs,h,hr | .nilf,y,cs,h,hr | .nilm,y,cs,h,hr | .ref ..,y,cs,h,hr | .iface ..,y,cs,h,hr | .fn ..,y,cs,h,hr=>by
  simp only[D.le]at h; subst h; exact hr
theorem D.les.rep:∀{xs ys:List D} {cs:List Value},D.les xs ys->D.repL w ow xs cs->D.repL w ow ys cs
 | [],ys,cs,h,hr=>by simp only[D.les]at h; subst h; exact hr
 | x::r,ys,cs,h,hr=>by
  simp only[D.les]at h
  obtain⟨y,s,rfl,h1,h2⟩:=h
  simp only[D.repL]at hr⊢
  obtain⟨c1,c2,e,r1,r2⟩:=hr
  exact⟨c1,c2,e,D.le.rep h1 r1,D.les.rep h2 r2⟩
end
end
mutual
theorem D.le.refl:∀x:D,D.le x x
 | .nils=>by simp[D.le]
 | .agg xs=>by simp only[D.le]; exact⟨_,rfl,D.les.refl xs⟩
 | .list a xs=>by simp only[D.le]; exact⟨_,rfl,D.les.refl xs⟩
 | .int .. | .bool .. | .str .. | .nili | .nilp | .nilf | .nilm | .ref .. | .iface .. | .fn ..=>by simp only[D.le]
theorem D.les.refl:∀xs:List D,D.les xs xs
 | []=>by simp only[D.les]
 | x::r=>by simp only[D.les]; exact⟨_,_,rfl,D.le.refl x,D.les.refl r⟩
end
theorem D.le.nil (sz:Nat):D.le .nils (.list sz []):=by simp[D.le]
theorem D.le.agg {xs ys:List D}(h:D.les xs ys):D.le (.agg xs) (.agg ys):=by simp only[D.le]; exact⟨_,rfl,h⟩
theorem D.le.list {sz:Nat}{xs ys:List D}(h:D.les xs ys):D.le (.list sz xs) (.list sz ys):=by simp only[D.le]; exact⟨_,rfl,h⟩
theorem D.les.nil:D.les [] []:=by simp only[D.les]
theorem D.les.cons {x y:D}{r s:List D}(h:D.le x y)(h':D.les r s):D.les (x::r) (y::s):=by simp only[D.les]; exact⟨_,_,rfl,h,h'⟩
theorem D.les.map {α:Type}{f g:α->D}:∀{l:List α},(∀x∈l,D.le (f x) (g x))->D.les (l.map f) (l.map g)
 | [],_=>D.les.nil
 | x::r,h=>D.les.cons (h x (by simp)) (D.les.map fun y hy=>h y (by simp[hy]))
theorem Xwu {w:World}{ρ:Env}:∀{xs ys:List D} {us:List Value},D.les xs ys->V.reps w ρ (xs.map .d) us->V.reps w ρ (ys.map .d) us
 | [],ys,us,h,hr=>by simp only[D.les]at h; subst h; exact hr
 | x::r,ys,us,h,hr=>by
  simp only[D.les]at h
  obtain⟨y,s,rfl,h1,h2⟩:=h
  simp only[List.map_cons]at hr⊢
  cases us with
  | nil=>simp[V.reps]at hr
  | cons u us=>
   simp only[V.reps]at hr⊢
   obtain⟨u1,us1,e,hu,hus⟩:=hr
   cases e
   refine⟨_,_,rfl,?_,Xwu h2 hus⟩
   rcases Uu.1 hu with⟨p,ds,q,hd⟩ | ⟨p,hd⟩
   ·exact Uu.2 (.inl ⟨by rw[h1.same.2]; exact p,ds,q,h1.rep hd⟩)
   ·exact Uu.2 (.inr ⟨by rw[h1.same.2]; exact p,h1.rep hd⟩)
theorem PCall.le {P:Prg}{f:Nat}{ob:Xb}{xs ys:List D}{K:V->Prop}(h:D.les xs ys)(hc:PCall P f (ys.map .d) ob K):PCall P f (xs.map .d) ob K:=
 ⟨fun w ρ args ho hg hr=>hc.run w ρ args ho hg (Xwu h hr)⟩
end Go.Ab
namespace Go.Ab
open Go
def X1j (n z:Nat)(ag:Bool)(u v:V):Prop:=Xkf n z ag (fun w=>w=Xpx u v) u v
section
variable (T:Tab) (sl:Xf) (ob:Xb) (x y:E) (n z:Nat) (b:Bool) (ty:KT)
@[simp] theorem v_eqD:E.val T sl ob (.b (.eqD ty b (.t 0) (.t 1)) x y)=Yb6 b (x.val T sl ob) (y.val T sl ob):=by simp[E.val]
@[simp] theorem o_eqD:E.ok T sl ob (.b (.eqD ty b (.t 0) (.t 1)) x y)=(x.ok T sl ob/\y.ok T sl ob/\Ydt ty (x.val T sl ob) (y.val T sl ob)):=by simp[E.ok]
@[simp] theorem v_aix:E.val T sl ob (.b (.aix n z b (.t 0) (.t 1)) x y)=Xpx (x.val T sl ob) (y.val T sl ob):=by simp[E.val]
@[simp] theorem o_aix:E.ok T sl ob (.b (.aix n z b (.t 0) (.t 1)) x y)=(x.ok T sl ob/\y.ok T sl ob/\X1j n z b (x.val T sl ob) (y.val T sl ob)):=by simp[E.ok,C.ok,C.val,X1j]
@[simp] theorem idxVS_d (xs:List D)(k:IntKind)(i:Int):X1j n z b (.d (.agg xs)) (.d (.int k i))=((0<=i/\i<n)/\xs.length=n/\∀x∈xs,x.sz=z/\x.isAgg=b):=by
 simp[X1j,Xkf]
end
theorem ALoop.upto {keep:List Nat}{body:Yz->Xf->Xb->Prop}{Q:Yz}{sl:Xf}{ob:Xb}(n:Nat)(S:Nat->Xf)(O:Nat->Xb)(I:Nat->Prop)(h0:I 0)(hs:Xk sl keep=S 0)(ho:ob=O 0)
  (step:∀k,k<n->I k->∀R:Yz,(∀kp sl' ob',I (k+1)->Xk sl' keep=S (k+1)->Za (Xd (Xa (O k)) kp) ob'=O (k+1)->Wb (Xd (Xa (O k)) kp) (S (k+1))=true->Xi (Xd (Xa (O k)) kp) (O (k+1))=true->R .normal sl' ob')->
   (∀n sl' ob',Q (.exit n) sl' ob'->R (.exit n) sl' ob')->(∀sl' ob',Q .ret sl' ob'->R .ret sl' ob')->(∀v sl' ob',Q (.panic v) sl' ob'->R (.panic v) sl' ob')->body R (S k) (O k))
  (done:I n->∀R:Yz,(∀n sl' ob',Q (.exit n) sl' ob'->R (.exit n) sl' ob')->(∀sl' ob',Q .ret sl' ob'->R .ret sl' ob')->(∀v sl' ob',Q (.panic v) sl' ob'->R (.panic v) sl' ob')->body R (S n) (O n)):ALoop keep body Q sl ob:=by
 refine ALoop.go (ι:=Nat) S O (fun k=>k<=n/\I k) (fun k=>n-k) 0 ⟨Nat.zero_le _,h0⟩ hs ho fun k ⟨hk,hi⟩ R rn re rr rp=>?_
 rcases Nat.lt_or_ge k n with h | h
 ·exact step k h hi R (fun kp sl' ob' h1 h2 h3 h4 h5=>rn kp (k+1) sl' ob' ⟨h,h1⟩ (by omega) h2 h3 h4 h5) re rr rp
 ·obtain rfl:k=n:=Nat.le_antisymm hk h
  exact done hi R re rr rp
end Go.Ab
namespace Go.Ab
open Go
section
variable (ob:Xb) (z n i f j k:Nat) (kd:IntKind) (m:Int) (p:List Nat) (b:Bool) (v:V) (E:Nat) (xs:List D) (vs:List V)
@[simp] theorem idxAV_sl:Xh2 z (.sl j n) (.d (.int kd m))=.ep j n z m.toNat 0 []:=by simp only[Xh2]
@[simp] theorem idxAS_sl:Xh1 ob z (.sl j n) (.d (.int kd m))=((0<=m/\m<n)/\Xkc z (Va n m.toNat (Xe ob j))):=by simp[Xh1,Xao]
@[simp] theorem elemO_arr:Va n i (some (.arr E z xs))=if n=xs.length then (xs.map V.d)[i]? else none:=by simp only[Va]
@[simp] theorem idxEK_s:Xkc z (some v)=(v.size=z):=by simp only[Xkc]
@[simp] theorem ldV_ep:ldV ob (.ep j n z i f p)=X3j (atE ob j n z i f p):=by simp only[ldV]
@[simp] theorem ldS_ep:ldS ob k b (.ep j n z i f p)=Yca k b (atE ob j n z i f p):=by
 simp only[ldS,ldK,ldV]
 cases atE ob j n z i f p<;>simp[Xib,Yca,X3j]
@[simp] theorem atE_eq:atE ob j n z i f p=X5d z f p (Va n i (Xe ob j)):=rfl
@[simp] theorem atEv_s:X5d z f p (some v)=if z=v.size/\f=v.shape.off p then v.at p else none:=by simp only[X5d]
@[simp] theorem Sh.off_nil (s:Sh):s.off []=0:=by cases s<;>simp[Sh.off]
end
end Go.Ab
namespace Go.Ab
open Go
section
variable {P:Prg} {T:Tab} {sl slk:Xf} {ob:Xb} {KO PO:V->Xb->Prop} {KV:V->Prop}
@[simp] theorem iwp_rng (x:A):I.wp P sl ob KO PO (.rng x)=Ybr ob KO (x.ev sl) (Xe ob (X3p (x.ev sl))):=by simp only[I.wp]
@[simp] theorem iwp_nxt (x:A):I.wp P sl ob KO PO (.nxt x)=X14 ob KO (x.ev sl):=by simp only[I.wp]
@[simp] theorem iwp_ety (x:A):I.wp P sl ob KO PO (.ety x)=X0j ob (fun v=>KO v ob) (x.ev sl):=by simp only[I.wp]
@[simp] theorem mpId_mp (id:Nat):X3p (.mp id)=id:=rfl
@[simp] theorem rngK_mp (id:Nat)(es:List (D×V)):Ybr ob KO (.mp id) (some (.map es))=KO (.hd false (Xa ob)) ((Xa ob,.it (some id) es.length [])::ob):=by simp only[Ybr]
@[simp] theorem nxtK_hd (id:Nat):X14 ob KO (.hd false id)=Xiv ob id KO (Xe ob id):=by simp only[X14]
@[simp] theorem nxtKo_s (id j n:Nat)(l:List Nat):Xiv ob id KO (some (.it (some j) n l))=Xqa ob id j n l KO (Xe ob j):=by simp only[Xiv]
@[simp] theorem nxtKm_m (id j n:Nat)(seen:List Nat)(es:List (D×V)):Xqa ob id j n seen KO (some (.map es))=(es.length=n/\((List.range n).all (fun i=>seen.contains i)=true->KO (.tup [.d (.bool false)]) ob)/\
   ∀i,i<n->seen.contains i=false->KO (.tup [.d (.bool true),.d (es.getD i default).1,(es.getD i default).2]) (setO ob id (.it (some j) n (seen++[i])))):=by simp only[Xqa]
@[simp] theorem entK_hd (id:Nat):X0j ob KV (.hd false id)=Xj1 ob KV (Xe ob id):=by simp only[X0j]
@[simp] theorem entKo_s (j n:Nat)(l:List Nat):Xj1 ob KV (some (.it (some j) n l))=(l ≠ []/\Xpl (l.getLastD 0) n KV (Xe ob j)):=by simp only[Xj1]
@[simp] theorem entKm_m (i n:Nat)(es:List (D×V)):Xpl i n KV (some (.map es))=(i<n/\es.length=n/\KV (.tup [.d (es.getD i default).1,(es.getD i default).2])):=by simp only[Xpl]
@[simp] theorem callvK_hd (args:List V)(id:Nat):Wi P args ob KO PO (.hd true id)=(Yib (Xe ob id)/\AYield P id args ob (Xa7 KO PO)):=by simp only[Wi]
@[simp] theorem isLp_s (tag:Nat)(st:LSt):Yib (some (.lp tag st sl))=True:=by simp only[Yib]
@[simp] theorem cwp2_rgf (tag:Nat)(ps:List Nat)(g:A)(x y:S)(keep:List Nat)(Q:Yz):Yy P T (.rgf tag ps g x y keep) Q sl ob=(W5 P tag ps x y/\rgK P tag (Xk sl keep) ob Q (g.ev sl)):=by simp only[Yy]
@[simp] theorem rgK_fn (tag f:Nat)(fi ca:List V)(Q:Yz):rgK P tag slk ob Q (.fn f fi ca)=(Xm P.p f=true/\ACall P f (fi++[.hd true (Xa ob)]++ca) ((Xa ob,.lp tag .ready slk)::ob) (rgQ Q slk (Xa ob))):=by simp only[rgK]
@[simp] theorem rgQ_r (v:V)(id:Nat)(Q:Yz):rgQ Q slk id (.ret v) ob=rgE Q slk id ob (Xe ob id):=by simp only[rgQ]
@[simp] theorem rgE_n (tag id:Nat)(Q:Yz):rgE Q slk id ob (some (.lp tag .ready sl))=Q .normal slk (setO ob id .gone):=by simp only[rgE]
variable {K:Out->Xb->Prop}
@[simp] theorem rdE_s (id n tag:Nat)(st st':LSt)(K:Xb->Prop):rdE id n st ob K (some (.lp tag st' slk))=Yc n K [] (setO ob id (.lp tag st slk)):=by simp only[rdE]
@[simp] theorem rdQ_n (id n:Nat):rdQ id n K .normal sl ob=rdE id n .ready ob (K (.ret (.d (.bool true)))) (Xe ob id):=by simp only[rdQ]
@[simp] theorem bindS_nil (vs:List V):Jm sl [] vs=sl:=by simp only[Jm]
@[simp] theorem bindS_cons (p:Nat)(ps:List Nat)(v:V)(vs:List V):Jm sl (p::ps) (v::vs)=Jm ((p,v)::sl) ps vs:=by simp only[Jm]
end
def Ym8 (P:Prg)(T:Tab)(y:S2)(id n:Nat)(K:Out->Xb->Prop)(sl:Xf)(ob:Xb):Option Ob->Prop
 | some (.lp tag .ready slk)=>Yy P T y (rdQ id n K) sl (setO ob id (.lp tag .busy slk))
 | _=>False
def Yon (P:Prg)(T:Tab)(y:S2)(id n:Nat)(K:Out->Xb->Prop):Yz
 | .normal,sl,ob=>Ym8 P T y id n K sl ob (Xe ob id)
 | _,_,_=>False
section
variable {P:Prg} {T:Tab} {sl slk:Xf} {ob:Xb} {K:Out->Xb->Prop}
@[simp] theorem rdA2_n (y:S2)(id n:Nat):Yon P T y id n K .normal sl ob=Ym8 P T y id n K sl ob (Xe ob id):=by simp only[Yon]
@[simp] theorem rdB2_s (y:S2)(id n tag:Nat):Ym8 P T y id n K sl ob (some (.lp tag .ready slk))=Yy P T y (rdQ id n K) sl (setO ob id (.lp tag .busy slk)):=by simp only[Ym8]
end
theorem AYield.lift {P:Prg}{p:Program}(hP:P.p=p)(hm:p.follows .mixedOrders=true){T:Tab}(hT:TOk P T){id tag:Nat}{ps fs fs':List Nat}{x y:S}{x2 y2:S2}{slk:Xf}{ob:Xb}{vs:List V}{K:Out->Xb->Prop}(hL:W5 P tag ps x y)
  (hx:x.lift fs=some x2) (hy:y.lift fs'=some y2) (hl:Xe ob id=some (.lp tag .ready slk)) (hlen:vs.length=ps.length) (h:Yy P T x2 (Yon P T y2 id (Xa ob) K) (Jm slk ps vs) ob):AYield P id vs ob K:=by
 subst hP
 refine AYield.of hm hL hl hlen (S.lift_sound hT x hx (fun e s o h=>?_) h)
 cases e with
 | normal=>
  simp only[Yon]at h
  simp only[rdA]
  generalize Xe o id=z at h⊢
  unfold Ym8 at h
  unfold rdB
  split at h
  ·exact S.lift_sound hT y hy (fun _ _ _ h=>h) h
  ·exact h.elim
 | exit n=>exact h.elim
 | ret=>exact h.elim
 | panic v=>exact h.elim
theorem XCall.of_nil {P:Prg}{f E z n:Nat}{ds xs:List D}{ob:Xb}{K:V->Xb->Prop}(h:ACall P f (ds.map .d) [] fun o b=>o=.ret (.sl 0 n)/\b=[(0,.vec E z (xs.map .d))])(hK:K (.sl (Xa ob) n) ((Xa ob,.vec E z (xs.map .d))::ob)):XCall P f (ds.map .d) ob K:=by
 refine⟨fun w ρ args hO hg hr=>?_⟩
 let ρ0:Env:=⟨fun _=>none,own ρ,ρ.gl⟩
 have hno:∀b,¬Xa8 ρ0 b:=fun b ⟨_,_,h,_⟩=>by cases h
 have ow0:own ρ0=own ρ:=by
  funext b
  exact propext ⟨fun h=>h.elim (fun h=>(hno b h).elim) id,fun h=>.inr h⟩
 have hlt:∀b,own ρ b->b<w.heap.size:=fun b h=>h.elim (fun ⟨_,_,h1,h2⟩=>Wc hO h1 h2) (hO.xlt b)
 have hO0:OM w ρ0 []:=⟨fun j x hx=>(by simp[Xe]at hx),fun j o hj=>(by cases hj),fun i j o p b hi=>(by cases hi),hlt,fun b o hb=>⟨(hO.glb b o hb).1,by rw[ow0]; exact (hO.glb b o hb).2⟩,fun b hb=>absurd hb (hno b),trivial⟩
 have hr0:V.reps w ρ0 (ds.map .d) args:=by
  rw[Xeb]at hr⊢
  rw[ow0]; exact hr
 refine (h.run w ρ0 args hO0 hg hr0).mono fun e w' ⟨out,ob',ρ',⟨e1,e2⟩,hre,hO',t⟩=>?_
 subst e1; subst e2
 have m1:∀j p,ρ'.m j=some p->j=0:=fun j p hj=>by
  obtain⟨x,hx⟩:=hO'.dom j p hj
  simp only[Xe]at hx
  split at hx
  ·rename_i e; exact e.symm
  ·cases hx
 have one:=hO'.one 0 (.vec E z (xs.map .d)) (by simp[Xe])
 obtain⟨o,ho⟩:∃o,ρ'.m 0=some o:=by
  rcases one with⟨h1,_⟩ | ⟨b,cap,cs,sp,h1,_⟩<;>exact⟨_,h1⟩
 have hb:∀b,o.blk? = some b->w.heap.size<=b:=fun b hb=>(t.owns b ⟨0,o,ho,hb⟩).elim (fun h=>(hno b h).elim) id
 have hx:Ext w w':=⟨t.size,fun b hb=>t.keep b (hno b) hb,t.tape,t.os,t.out,t.drawn⟩
 have hf:Xe ob (Xa ob)=none:=X0 ob
 have ow1:own ρ'=own (ρ.ins (Xa ob) o):=by
  funext b
  refine propext ⟨fun h=>?_,fun h=>?_⟩
  ·rcases h with⟨j,p,h1,h2⟩ | h1
   ·have e:=m1 j p h1
    subst e
    rw[ho]at h1; cases h1
    exact .inl ⟨Xa ob,o,Yf,h2⟩
   ·rw[t.xo]at h1
    rcases h1 with⟨j,p,h1,h2⟩ | h1
    ·have:j ≠ Xa ob:=fun e=>by subst e; rw[hO.free hf]at h1; cases h1
     exact .inl ⟨j,p,by simp[Env.ins,this,h1],h2⟩
    ·exact .inr h1
  ·rcases h with⟨j,p,h1,h2⟩ | h1
   ·simp only[Env.ins]at h1
    split at h1
    ·cases h1; exact .inl ⟨0,o,ho,h2⟩
    ·exact .inr (t.xo▸.inl ⟨j,p,h1,h2⟩)
   ·exact .inr (t.xo▸.inr h1)
 have hcs:∀(l:List D) (cs:List Value),V.repCs w' ρ' (l.map .d) cs->V.repCs w' (ρ.ins (Xa ob) o) (l.map .d) cs:=fun l=>by
  induction l with
  | nil=>intro cs h; simpa only[List.map_nil,V.repCs]using h
  | cons x r ih=>
   intro cs h
   simp only[List.map_cons,V.repCs]at h⊢
   obtain⟨c1,c2,e,h1,h2⟩:=h
   refine⟨c1,c2,e,?_,ih _ h2⟩
   simp only[V.repC]at h1⊢
   rw[<-ow1]; exact h1
 have one':Vu w' (ρ.ins (Xa ob) o) (Xa ob) (.vec E z (xs.map .d)):=by
  simp only[Vu]at one⊢
  rw[ho]at one
  rw[Yf]
  rcases one with h1 | ⟨b,cap,cs,sp,h1,h2,h3,h4⟩
  ·exact .inl h1
  ·exact .inr ⟨b,cap,cs,sp,h1,h2,hcs _ _ h3,h4⟩
 cases e with
 | returned u=>
  refine⟨.sl (Xa ob) n,_,ρ.ins (Xa ob) o,u,hK,rfl,?_,hO.ins hx hf hb one',Wu w' hx (hO.free hf) hb,hx⟩
  have h1:(V.sl 0 n).rep w' ρ' u:=hre
  rw[Yg]at h1⊢
  obtain⟨o',h2,h3⟩:=h1
  rw[ho]at h2; cases h2
  exact⟨o,Yf,h3⟩
 | _=>exact (hre:False).elim
theorem Xgt {P:Prg}{p:Program}(hP:P.p=p)(hm:p.follows .mixedOrders=true){f:Nat}{s:S}{rs:List RV}{vs:List V}{ob:Xb}{K:Out->Xb->Prop}{fs:List Nat}{s2:S2}{T:Tab}(hc:Us p f vs.length s rs=true)(hl:s.lift fs=some s2)(hT:TOk P T)
  (h:(∀kp,V.mens (Xd (Xa ob) kp) vs=false)->(∀kp,Xi (Xd (Xa ob) kp) ob=true)->Yy P T s2 (Xdj (Xa ob) rs K) (Vi 0 vs) ob):ACall P f vs ob K:=
 ACall.of_wf fun h1 h2=>by subst hP; exact Xgu hm hc (S.lift_sound hT s hl (fun _ _ _ h=>h) (h h1 h2))
end Go.Ab
