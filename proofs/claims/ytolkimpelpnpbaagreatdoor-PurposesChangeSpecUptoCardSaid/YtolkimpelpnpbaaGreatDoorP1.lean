/- Texts of this claim joined by a program, part 1 of 20; the last is: Operations carried out, the rounds of a range Xea a function among them. Over any program; no condition. -/
import Derived.Deep.Quiet
import Derived.Laws.Sem
import Derived.Laws.World
import Derived.Laws.Cells
import Derived.Laws.Strings
import Derived.Laws.Concat
import Derived.Laws.StructEq
import Derived.ChangeKeysEq
import Derived.Lib.UnsafeStr
import Derived.Laws.CopyRow
import Derived.Laws.BytesString
import Derived.OrdersHeld
import Derived.OrdersIn
import Derived.RangeFuncLeaves
import Derived.RangeFuncCalls
import Derived.Tactics
import Derived.TacticsIn
set_option linter.unusedSimpArgs false
set_option linter.unusedVariables false
set_option linter.unusedSectionVars false
set_option linter.defProp false
namespace Go
def Uaa:=@Nat.lt_or_ge
def Uab:=@Array.getElem?_eq_none
def Uac:=@Nat.add_mul
def Uad:=@List.take_length_add_append
def Uae:=@List.drop_length_add_append
def Uaf:=@List.drop_eq_getElem_cons
def Uag:=@Nat.add_assoc
def Uah:=@Bool.false_eq_true
def Uai:=@Bool.and_eq_true
def Uaj:=@Nat.eq_of_beq_eq_true
def Uak:=@Nat.le_refl
def Ual:=@Nat.le_trans
def Uam:=@List.map_cons
def Uan:=@List.getElem?_eq_some_iff
def Uao:=@List.take_append_drop
def Uap:=@List.map_take
def Uaq:=@Option.some.injEq
def Uar:=@List.length_append
def Uas:=@List.map_set
def Uat:=@List.ext_getElem?
def Uau:=@List.getElem?_set
def Uav:=@List.append_assoc
def Uaw:=@List.set_eq_take_append_cons_drop
def Uax:=@List.mem_cons
def Uay:=@if_false
def Uaz:=@Nat.lt_of_lt_of_le
def Ua0:=@List.length_eq_one_iff
def Ua1:=@List.cons.injEq
def Ua2:=@and_true
def Ua3:=@Option.isSome_iff_exists
def Ua4:=@congrArg
def Ua5:=@List.mem_map
def Ua6:=@List.mem_of_mem_take
def Ua7:=@List.length_take
def Ua8:=@Nat.min_eq_left
def Ua9:=@Nat.pos_of_ne_zero
def Uba:=@List.getElem_mem
def Ubb:=@if_true
def Ubc:=@List.getElem?_append
def Ubd:=@List.getElem?_append_right
def Ube:=@List.getElem?_append_left
def Ubf:=@List.getElem?_eq_getElem
def Ubg:=@Nat.zero_le
def Ubh:=@List.drop_take
def Ubi:=@List.eq_nil_of_length_eq_zero
def Ubj:=@List.take_succ_eq_append_getElem
def Ubk:=@List.take_of_length_le
def Ubl:=@List.drop_of_length_le
def Ubm:=@List.map_nil
def Ubn:=@beq_iff_eq
def Ubo:=@if_neg
def Ubp:=@decide_eq_true_eq
def Ubq:=@Bool.not_eq_true'
def Ubr:=@Option.map_eq_some_iff
def Ubs:=@List.range'_succ
def Ubt:=@List.all_eq_true
def Ubu:=@List.mem_append
def Ubv:=@Nat.le_of_mul_le_mul_right
def Ubw:=@List.mem_or_eq_of_mem_set
def Ubx:=@Array.getElem?_setIfInBounds
def Uby:=@if_pos
def Ubz:=@Array.mem_of_getElem?
def Ub0:=@Prod.mk.injEq
def Ub1:=@Option.some.inj
def Ub2:=@Array.getElem?_modify
def Ub3:=@List.getD_eq_getElem?_getD
def Ub4:=@List.append_nil
def Ub5:=@List.mem_iff_getElem
def Ub6:=@Nat.zero_add
def Ub7:=@List.mem_range
def Ub8:=@Array.getElem?_append
def Ub9:=@Nat.mul_le_mul_right
def Uca:=@List.map_append
def Ucb:=@Bool.or_eq_false_iff
def Ucc:=@decide_eq_false_iff_not
def Ucd:=@Bool.or_eq_true
def Uce:=@Array.getElem?_eq_getElem
def Ucf:=@Option.isNone_iff_eq_none
def Ucg:=@beq_eq_false_iff_ne
def Uch:=@List.all_append
def Uci:=@List.mem_singleton
def Ucj:=@List.getElem?_eq_none
def Uck:=@Array.getElem?_append_left
def Ucl:=@Bool.eq_iff_iff
def Ucm:=@Bool.eq_false_iff
def Ucn:=@Bool.and_eq_false_iff
def Uco:=@List.nodup_append
def Ucp:=@decide_eq_false
def Ucq:=@List.take_length
def Ucr:=@decide_eq_true
def Ucs:=@List.foldl_append
def Uct:=@List.length_eq_zero_iff
def Ucu:=@decide_true
def Ucv:=@Bool.true_and
def Ucw:=@Option.bind_eq_some_iff
def Ucx:=@Bool.cond_eq_ite
def Ucy:=@of_decide_eq_true
def Ucz:=@List.isEmpty_eq_false_iff
def Uc0:=@List.mem_cons_of_mem
def Uc1:=@List.takeWhile_cons
end Go
namespace Go.Ab
open Go

inductive D where
 | int (k:IntKind) (n:Int)
 | bool (b:Bool)
 | str (s:List UInt8)
 | nils
 | list (sz:Nat) (xs:List D)
 | agg (xs:List D)
 | nili
 | nilp
 | nilf
 | nilm
 | ref (x:D)
 | iface (t:Nat) (x:D)
 | fn (f:Nat) (fi ca:List D)
 deriving Inhabited

def D.isAgg:D->Bool
 | .agg _=>true
 | _=>false

mutual
def D.sz:D->Nat
 | .agg xs=>Raa xs
 | _=>1
def Raa:List D->Nat
 | []=>0
 | x::r=>x.sz+Raa r
end

def Cells (w:World)(ow:Nat->Prop)(a:Addr)(vs:List Value):Prop:=
 (vs ≠ []->a.spot=none/\¬ow a.block/\a.block<w.heap.size)/\∀i (h:i<vs.length),w.cell? ⟨a.block,a.off+i,none⟩=some vs[i]

mutual
def D.rep (w:World)(ow:Nat->Prop):D->List Value->Prop
 | .int k n,cs=>cs=[.int k n]
 | .bool b,cs=>cs=[.bool b]
 | .str s,cs=>cs=[.string ⟨s.toArray⟩]
 | .nils,cs=>cs=[.slice none 0 0]
 | .list sz xs,cs=>(xs=[]/\cs=[.slice none 0 0])\/∃a cap vs,cs=[.slice (some a) xs.length cap]/\xs.length<=cap/\Cells w ow a vs/\Rac w ow xs vs/\∀x∈xs,x.sz=sz
 | .agg xs,cs=>Rac w ow xs cs
 | .nili,cs=>cs=[.nilIface]
 | .nilp,cs=>cs=[.pointer none]
 | .nilf,cs=>cs=[.nilFunc]
 | .nilm,cs=>cs=[.map none]
 | .ref x,cs=>∃a vs,cs=[.pointer (some a)]/\a.spot=none/\Cells w ow a vs/\D.rep w ow x vs
 | .iface t x,cs=>∃u,cs=[.iface t u]/\((x.isAgg=true/\∃ds,u=.agg ds.toArray/\D.rep w ow x ds)\/(x.isAgg=false/\D.rep w ow x [u]))
 | .fn f fi ca,cs=>∃fs gs,cs=[.func (.func f) fs.toArray gs.toArray]/\Rab w ow fi fs/\Rab w ow ca gs
def Rab (w:World)(ow:Nat->Prop):List D->List Value->Prop
 | [],vs=>vs=[]
 | x::r,vs=>∃u us,vs=u::us/\((x.isAgg=true/\∃ds,u=.agg ds.toArray/\D.rep w ow x ds)\/(x.isAgg=false/\D.rep w ow x [u]))/\Rab w ow r us
def Rac (w:World)(ow:Nat->Prop):List D->List Value->Prop
 | [],cs=>cs=[]
 | x::r,cs=>∃c1 c2,cs=c1++c2/\D.rep w ow x c1/\Rac w ow r c2
end

def Xji (w:World)(ow:Nat->Prop)(w':World)(ow':Nat->Prop):Prop:=
 ∀b,¬ow b->b<w.heap.size->w'.heap[b]? = w.heap[b]?/\¬ow' b

theorem cell?_congr {w w':World}{b:Nat}(h:w'.heap[b]? = w.heap[b]?)(o:Nat):w'.cell? ⟨b,o,none⟩=w.cell? ⟨b,o,none⟩:=by
 simp[World.cell?,h]

theorem Xj {w:World}{b:Nat}{o:Obj}(h:w.heap[b]? = some o):b<w.heap.size:=by
 rcases Uaa b w.heap.size with h1 | h1
 ·exact h1
 ·simp[Uab h1]at h

theorem Xji.refl (w:World)(ow:Nat->Prop):Xji w ow w ow:=fun _ h _=>⟨rfl,h⟩

theorem Xji.trans {w w' w'':World}{ow ow' ow'':Nat->Prop}(h:Xji w ow w' ow')(h':Xji w' ow' w'' ow''):Xji w ow w'' ow'':=by
 intro b h1 h2;obtain⟨e,n⟩:=h b h1 h2;have hb:b<w'.heap.size:=by
  have:w.heap[b]? = some w.heap[b]:=by simp[h2]
  exact Xj (e.trans this)
 obtain⟨e',n'⟩:=h' b n hb;exact⟨e'.trans e,n'⟩

theorem Cells.mono {w w':World}{ow ow':Nat->Prop}{a:Addr}{vs:List Value}(m:Xji w ow w' ow')(h:Cells w ow a vs):Cells w' ow' a vs:=by
 obtain⟨h2,h3⟩:=h;refine⟨fun hne=>?_,fun i hi=>?_⟩
 ·obtain⟨h1,p,q⟩:=h2 hne;obtain⟨e,n⟩:=m _ p q;refine⟨h1,n,?_⟩;have:w.heap[a.block]? = some w.heap[a.block]:=by simp[q]
  exact Xj (e.trans this)
 ·have hne:vs ≠ []:=by intro h; simp[h]at hi
  obtain⟨_,p,q⟩:=h2 hne;rw[cell?_congr (m _ p q).1]; exact h3 i hi

mutual
theorem Rad {w w':World}{ow ow':Nat->Prop}(m:Xji w ow w' ow'):∀(d:D) (cs:List Value),d.rep w ow cs->d.rep w' ow' cs
 | .int k n,cs,h=>by simpa[D.rep]using h
 | .bool b,cs,h=>by simpa[D.rep]using h
 | .str s,cs,h=>by simpa[D.rep]using h
 | .nils,cs,h=>by simpa[D.rep]using h
 | .nili,cs,h=>by simpa[D.rep]using h
 | .nilp,cs,h=>by simpa[D.rep]using h
 | .nilf,cs,h=>by simpa[D.rep]using h
 | .nilm,cs,h=>by simpa[D.rep]using h
 | .ref x,cs,h=>by
  simp only[D.rep]at h⊢;obtain⟨a,vs,e,h0,h1,h2⟩:=h;exact⟨a,vs,e,h0,h1.mono m,Rad m x vs h2⟩
 | .iface t x,cs,h=>by
  simp only[D.rep]at h⊢;obtain⟨u,e,h1⟩:=h;refine⟨u,e,?_⟩;rcases h1 with⟨p,ds,q,r⟩ | ⟨p,r⟩
  ·exact .inl ⟨p,ds,q,Rad m x ds r⟩
  ·exact .inr ⟨p,Rad m x _ r⟩
 | .fn f fi ca,cs,h=>by
  simp only[D.rep]at h⊢;obtain⟨fs,gs,e,h1,h2⟩:=h;exact⟨fs,gs,e,Rae m fi fs h1,Rae m ca gs h2⟩
 | .agg xs,cs,h=>by
  simp only[D.rep]at h⊢;exact Raf m xs cs h
 | .list sz xs,cs,h=>by
  simp only[D.rep]at h⊢;rcases h with h | ⟨a,cap,vs,h1,h2,h3,h4,h5⟩
  ·exact .inl h
  ·exact .inr ⟨a,cap,vs,h1,h2,h3.mono m,Raf m xs vs h4,h5⟩
theorem Rae {w w':World}{ow ow':Nat->Prop}(m:Xji w ow w' ow'):∀(xs:List D) (vs:List Value),Rab w ow xs vs->Rab w' ow' xs vs
 | [],vs,h=>by simpa only[Rab]using h
 | x::r,vs,h=>by
  simp only[Rab]at h⊢;obtain⟨u,us,e,h1,h2⟩:=h;refine⟨u,us,e,?_,Rae m r us h2⟩;rcases h1 with⟨p,ds,q,r⟩ | ⟨p,r⟩
  ·exact .inl ⟨p,ds,q,Rad m x ds r⟩
  ·exact .inr ⟨p,Rad m x _ r⟩
theorem Raf {w w':World}{ow ow':Nat->Prop}(m:Xji w ow w' ow'):∀(xs:List D) (cs:List Value),Rac w ow xs cs->Rac w' ow' xs cs
 | [],cs,h=>by simpa[Rac]using h
 | x::r,cs,h=>by
  simp only[Rac]at h⊢;obtain⟨c1,c2,e,h1,h2⟩:=h;exact⟨c1,c2,e,Rad m x c1 h1,Raf m r c2 h2⟩
end

mutual
theorem Rag {w:World}{ow:Nat->Prop}:∀(d:D) (cs:List Value),d.rep w ow cs->cs.length=d.sz
 | .int k n,cs,h=>by simp[D.rep]at h; simp[h,D.sz]
 | .bool b,cs,h=>by simp[D.rep]at h; simp[h,D.sz]
 | .str s,cs,h=>by simp[D.rep]at h; simp[h,D.sz]
 | .nils,cs,h=>by simp[D.rep]at h; simp[h,D.sz]
 | .nili,cs,h=>by simp[D.rep]at h; simp[h,D.sz]
 | .nilp,cs,h=>by simp[D.rep]at h; simp[h,D.sz]
 | .nilf,cs,h=>by simp[D.rep]at h; simp[h,D.sz]
 | .nilm,cs,h=>by simp[D.rep]at h; simp[h,D.sz]
 | .ref x,cs,h=>by simp only[D.rep]at h; obtain⟨a,vs,e,_⟩:=h; simp[e,D.sz]
 | .iface t x,cs,h=>by simp only[D.rep]at h; obtain⟨u,e,_⟩:=h; simp[e,D.sz]
 | .fn f fi ca,cs,h=>by simp only[D.rep]at h; obtain⟨fs,gs,e,_⟩:=h; simp[e,D.sz]
 | .agg xs,cs,h=>by
  simp only[D.rep]at h;simp only[D.sz];exact Rah xs cs h
 | .list sz xs,cs,h=>by
  simp only[D.rep]at h;rcases h with⟨_,h⟩ | ⟨a,cap,vs,h1,_⟩
  ·simp[h,D.sz]
  ·simp[h1,D.sz]
theorem Rah {w:World}{ow:Nat->Prop}:∀(xs:List D) (cs:List Value),Rac w ow xs cs->cs.length=Raa xs
 | [],cs,h=>by simp[Rac]at h; simp[h,Raa]
 | x::r,cs,h=>by
  simp only[Rac]at h;obtain⟨c1,c2,e,h1,h2⟩:=h;simp[e,Raa,Rag x c1 h1,Rah r c2 h2]
end

theorem Rai {w:World}{ow:Nat->Prop}{xs ys:List D}{c1 c2:List Value}(h1:Rac w ow xs c1)(h2:Rac w ow ys c2):Rac w ow (xs++ys) (c1++c2):=by
 induction xs generalizing c1 with
 | nil=>simp only[Rac]at h1; subst h1; simpa using h2
 | cons x r ih=>
  simp only[Rac]at h1;obtain⟨a1,a2,rfl,h3,h4⟩:=h1;simp only[List.cons_append,Rac];exact⟨a1,a2++c2,by simp,h3,ih h4⟩

theorem Raj {sz:Nat}:∀(xs:List D),(∀x∈xs,x.sz=sz)->Raa xs=xs.length*sz
 | [],_=>by simp[Raa]
 | x::r,h=>by
  have h1:=h x (by simp);have h2:=Raj r (fun y hy=>h y (by simp[hy]));simp[Raa,h1,h2,Uac]; omega

theorem Rak {w:World}{ow:Nat->Prop}:∀(xs:List D) (i:Nat) (cs:List Value),Rac w ow xs cs->
  Rac w ow (xs.take i) (cs.take (Raa (xs.take i)))/\Rac w ow (xs.drop i) (cs.drop (Raa (xs.take i)))
 | xs,0,cs,h=>by simpa[Rac,Raa]using h
 | [],i+1,cs,h=>by simpa[Rac,Raa]using h
 | x::r,i+1,cs,h=>by
  simp only[Rac]at h;obtain⟨c1,c2,rfl,h1,h2⟩:=h;have hl:=Rag x c1 h1;obtain⟨p,q⟩:=Rak r i c2 h2;simp only[List.take_succ_cons,List.drop_succ_cons,Raa];constructor
  ·rw[<-hl,Uad];simp only[Rac];exact⟨c1,_,rfl,h1,p⟩
  ·rw[<-hl,Uae];exact q

theorem Ral {w:World}{ow:Nat->Prop}{xs:List D}{cs:List Value}(h:Rac w ow xs cs){i:Nat}(hi:i<xs.length) :
  xs[i].rep w ow ((cs.drop (Raa (xs.take i))).take xs[i].sz):=by
 have h2:=(Rak xs i cs h).2;rw[Uaf hi]at h2;simp only[Rac]at h2;obtain⟨c1,c2,e,h3,_⟩:=h2;have hl:=Rag _ c1 h3;rw[e,<-hl]; simpa using h3

theorem Cells.sub {w:World}{ow:Nat->Prop}{a:Addr}{vs:List Value}(h:Cells w ow a vs)(k n:Nat) :
  Cells w ow ⟨a.block,a.off+k,none⟩ ((vs.drop k).take n):=by
 obtain⟨h2,h3⟩:=h;refine⟨fun hne=>⟨rfl,(h2 ?_).2⟩,fun i hi=>?_⟩
 ·intro e; subst e; simp at hne
 ·have hi':k+i<vs.length:=by simp at hi; omega
  have:=h3 (k+i) hi';simp only[List.getElem_take,List.getElem_drop];rw[<-this,Uag]

theorem Cells.nil {w:World}{ow:Nat->Prop}(a:Addr):Cells w ow a []:=⟨fun h=>absurd rfl h,fun i h=>by simp at h⟩

theorem Ram {a:Addr}(h:a.spot=none)(n:Nat):a.add n=⟨a.block,a.off+n,none⟩:=by
 obtain⟨b,o,s⟩:=a;simp only at h;subst h;unfold Addr.add;split
 ·rename_i h; simp[h]
 ·rfl

mutual
def D.eqb:D->D->Bool
 | .int k a,.int k' b=>decide (k=k')&&decide (a=b)
 | .bool a,.bool b=>a==b
 | .str a,.str b=>a==b
 | .nils,.nils=>true
 | .list z a,.list z' b=>Nat.beq z z'&&D.eqbs a b
 | .agg a,.agg b=>D.eqbs a b
 | .nili,.nili=>true
 | .nilp,.nilp=>true
 | .nilf,.nilf=>true
 | .nilm,.nilm=>true
 | .ref a,.ref b=>D.eqb a b
 | .iface t a,.iface t' b=>Nat.beq t t'&&D.eqb a b
 | .fn f a b,.fn f' a' b'=>Nat.beq f f'&&D.eqbs a a'&&D.eqbs b b'
 | _,_=>false
def D.eqbs:List D->List D->Bool
 | [],[]=>true
 | x::r,y::s=>D.eqb x y&&D.eqbs r s
 | _,_=>false
end
mutual
theorem D.eqb_eq:∀(x y:D),D.eqb x y=true->x=y
 | .int k a,y,h=>by cases y<;>simp[D.eqb]at h; simp[h]
 | .bool a,y,h=>by cases y<;>simp[D.eqb]at h; simp[h]
 | .str a,y,h=>by cases y<;>simp[D.eqb]at h; simp[h]
 | .nils,y,h=>by cases y<;>simp[D.eqb]at h; rfl
 | .nili,y,h=>by cases y<;>simp[D.eqb]at h; rfl
 | .nilp,y,h=>by cases y<;>simp[D.eqb]at h; rfl
 | .nilf,y,h=>by cases y<;>simp[D.eqb]at h; rfl
 | .nilm,y,h=>by cases y<;>simp[D.eqb]at h; rfl
 | .list z a,y,h=>by
  cases y<;>simp only[D.eqb,Uah,Uai]at h;rw[Uaj h.1,D.eqbs_eq _ _ h.2]
 | .agg a,y,h=>by
  cases y<;>simp only[D.eqb,Uah]at h;rw[D.eqbs_eq _ _ h]
 | .ref a,y,h=>by
  cases y<;>simp only[D.eqb,Uah]at h;rw[D.eqb_eq _ _ h]
 | .iface t a,y,h=>by
  cases y<;>simp only[D.eqb,Uah,Uai]at h;rw[Uaj h.1,D.eqb_eq _ _ h.2]
 | .fn f a b,y,h=>by
  cases y<;>simp only[D.eqb,Uah,Uai]at h;rw[Uaj h.1.1,D.eqbs_eq _ _ h.1.2,D.eqbs_eq _ _ h.2]
theorem D.eqbs_eq:∀(x y:List D),D.eqbs x y=true->x=y
 | [],y,h=>by cases y<;>simp[D.eqbs]at h; rfl
 | x::r,y,h=>by
  cases y<;>simp only[D.eqbs,Uah,Uai]at h;rw[D.eqb_eq _ _ h.1,D.eqbs_eq _ _ h.2]
end
theorem Cells.subAdd {w:World}{ow:Nat->Prop}{a:Addr}{vs:List Value}(h:Cells w ow a vs)(k n:Nat):Cells w ow (a.add k) ((vs.drop k).take n):=by
 by_cases hv:vs=[]
 ·subst hv; simpa using Cells.nil _
 ·rw[Ram (h.1 hv).1]; exact h.sub k n

end Go.Ab
namespace Go.Ab
open Go

inductive Sh where
 | leaf
 | node (xs:List Sh)

mutual
def Sh.size:Sh->Nat
 | .leaf=>1
 | .node xs=>Sh.sizes xs
def Sh.sizes:List Sh->Nat
 | []=>0
 | x::r=>x.size+Sh.sizes r
end

def Sh.off:Sh->List Nat->Nat
 | .node xs,i::p=>Sh.sizes (xs.take i)+Sh.off (xs.getD i .leaf) p
 | _,_=>0

mutual
def D.shape:D->Sh
 | .agg xs=>.node (D.shapes xs)
 | _=>.leaf
def D.shapes:List D->List Sh
 | []=>[]
 | x::r=>x.shape::D.shapes r
end

mutual
theorem Ran:∀d:D,d.shape.size=d.sz
 | .int _ _ | .bool _ | .str _ | .nils | .list _ _ | .nili | .nilp | .nilf | .nilm | .ref _ | .iface _ _ | .fn _ _ _=>by simp[D.shape,Sh.size,D.sz]
 | .agg xs=>by simp only[D.shape,Sh.size,D.sz]; exact Rao xs
theorem Rao:∀xs:List D,Sh.sizes (D.shapes xs)=Raa xs
 | []=>by simp[D.shapes,Sh.sizes,Raa]
 | x::r=>by simp[D.shapes,Sh.sizes,Raa,Ran x,Rao r]
end

inductive V where
 | d (x:D)
 | ptr (id:Nat) (path:List Nat)
 | sl (id n:Nat)
 | sd (id n:Nat)
 | mp (id:Nat)
 | ep (id n z i off:Nat) (path:List Nat)
 | bs (id:Nat) (path:List Nat) (lo n:Nat)
 | hd (y:Bool) (id:Nat)
 | fn (f:Nat) (first captured:List V)
 | agg (xs:List V)
 | iface (t:Nat) (v:V)
 | tup (xs:List V)
 | undef
 | any
 deriving Inhabited

def V.isAgg:V->Bool
 | .d (.agg _)=>true
 | .agg _=>true
 | _=>false

mutual
def V.shape:V->Sh
 | .d x=>x.shape
 | .agg xs=>.node (V.shapes xs)
 | _=>.leaf
def V.shapes:List V->List Sh
 | []=>[]
 | x::r=>x.shape::V.shapes r
end

def V.size (v:V):Nat:=v.shape.size

def hdV:Bool->Nat->Value
 | true,b=>.func (.yield b) #[] #[]
 | false,b=>.pointer (some ⟨b,0,none⟩)

inductive RO where
 | box (b:Nat) (sh:Sh)
 | arr (b len cap:Nat)
 | map (b:Nat)
 | virt
 | gone

def RO.blk? : RO->Option Nat
 | .box b _=>some b
 | .arr b _ _=>some b
 | .map b=>some b
 | .virt=>none
 | .gone=>none

structure Gl where
 g:Nat->Option Obj
 l:Nat->Array Nat->Nat->Code->Code->Prop
instance:CoeFun Gl (fun _=>Nat->Option Obj):=⟨Gl.g⟩

structure Env where
 m:Nat->Option RO
 xo:Nat->Prop
 gl:Gl

def Xcf (ρ:Env)(b:Nat):Prop:=∃id o,ρ.m id=some o/\o.blk? = some b
def own (ρ:Env)(b:Nat):Prop:=Xcf ρ b\/ρ.xo b

def RO.slice (o:RO)(n:Nat)(u:Value):Prop:=
 match o with
 | .box _ _=>False
 | .map _=>False
 | .arr b len cap=>n<=len/\(∃a l c,u=.slice a l c)/\(n=len->u=.slice (some ⟨b,0,none⟩) len cap)
 | .virt=>n=0/\u=.slice none 0 0
 | .gone=>∃a l c,u=.slice a l c

def RO.sdata (o:RO)(n:Nat)(u:Value):Prop:=
 match o with
 | .box _ _=>False
 | .map _=>False
 | .arr b len _=>n<=len/\(∃a,u=.pointer a)/\(n=len->n ≠ 0->u=.pointer (some ⟨b,0,none⟩))
 | .virt=>n=0/\∃a,u=.pointer a
 | .gone=>∃a,u=.pointer a

def RO.elem (o:RO)(n off:Nat)(u:Value):Prop:=
 match o with
 | .box _ _=>False
 | .map _=>False
 | .arr b len _=>n<=len/\(∃a,u=.pointer (some a))/\(n=len->u=.pointer (some ⟨b,off,none⟩))
 | .virt=>False
 | .gone=>∃a,u=.pointer (some a)

inductive RO.le:RO->RO->Prop where
 | refl (o:RO):RO.le o o
 | grow {o:RO} {n b m c:Nat} (h:n<m) (h1:o=.virt/\n=0\/∃b c,o=.arr b n c):RO.le o (.arr b m c)
 | gone (o:RO):RO.le o .gone

theorem RO.le.trans {a b c:RO}(h:a.le b)(h':b.le c):a.le c:=by
 cases h' with
 | refl=>exact h
 | gone=>exact .gone a
 | grow k h1=>
  cases h with
  | refl=>exact .grow k h1
  | gone=>rcases h1 with⟨h1,_⟩ | ⟨_,_,h1⟩<;>cases h1
  | grow k2 h2=>
   rcases h1 with⟨h1,_⟩ | ⟨_,_,h1⟩
   ·cases h1
   ·cases h1; exact .grow (by omega) h2

mutual
def V.repC (w:World)(ρ:Env):V->List Value->Prop
 | .d x,cs=>x.rep w (own ρ) cs
 | .ptr id p,cs=>(∃b sh,ρ.m id=some (.box b sh)/\cs=[.pointer (some ⟨b,sh.off p,none⟩)])\/(ρ.m id=some .gone/\∃a,cs=[.pointer (some a)])
 | .sl id n,cs=>∃o u,ρ.m id=some o/\cs=[u]/\o.slice n u
 | .sd id n,cs=>∃o u,ρ.m id=some o/\cs=[u]/\o.sdata n u
 | .mp id,cs=>(∃b,ρ.m id=some (.map b)/\cs=[.map (some b)])\/(ρ.m id=some .gone/\∃r,cs=[.map r])
 | .hd y id,cs=>(∃b,ρ.m id=some (.map b)/\cs=[hdV y b])\/(ρ.m id=some .gone/\∃b,cs=[hdV y b])
 | .ep id n z i f p,cs=>∃o u,ρ.m id=some o/\cs=[u]/\o.elem n (i*z+f) u
 | .bs id p lo n,cs=>(∃b sh cap f,ρ.m id=some (.box b sh)/\(n<=cap/\(n ≠ 0->f=sh.off (p++[lo])))/\cs=[.slice (some ⟨b,f,none⟩) n cap])\/(ρ.m id=some .gone/\∃a l c,cs=[.slice a l c])
 | .fn f fi ca,cs=>∃fs gs,cs=[.func (.func f) fs.toArray gs.toArray]/\V.reps w ρ fi fs/\V.reps w ρ ca gs
 | .agg xs,cs=>Rap w ρ xs cs
 | .iface t x,cs=>∃u,cs=[.iface t u]/\(x=.any\/(x.isAgg=true/\∃ds,u=.agg ds.toArray/\V.repC w ρ x ds)\/(x.isAgg=false/\V.repC w ρ x [u]))
 | .tup xs,cs=>∃vs,cs=[.tuple vs.toArray]/\V.reps w ρ xs vs
 | .undef,cs=>cs=[Go.undef]
 | .any,cs=>∃u,cs=[u]
def Rap (w:World)(ρ:Env):List V->List Value->Prop
 | [],cs=>cs=[]
 | x::r,cs=>∃c1 c2,cs=c1++c2/\V.repC w ρ x c1/\Rap w ρ r c2
def V.reps (w:World)(ρ:Env):List V->List Value->Prop
 | [],vs=>vs=[]
 | x::r,vs=>∃u us,vs=u::us/\(x=.any\/(x.isAgg=true/\∃ds,u=.agg ds.toArray/\V.repC w ρ x ds)\/(x.isAgg=false/\V.repC w ρ x [u]))/\V.reps w ρ r us
end

def V.rep (w:World)(ρ:Env)(x:V)(u:Value):Prop:=
 (x=.any)\/(x.isAgg=true/\∃ds,u=.agg ds.toArray/\x.repC w ρ ds)\/(x.isAgg=false/\x.repC w ρ [u])

structure Tr (w:World)(ρ:Env)(w':World)(ρ':Env):Prop where
 size:w.heap.size<=w'.heap.size
 keep:∀b,¬Xcf ρ b->b<w.heap.size->w'.heap[b]? = w.heap[b]?
 owns:∀b,Xcf ρ' b->Xcf ρ b\/w.heap.size<=b
 xo:ρ'.xo=ρ.xo
 gl:ρ'.gl=ρ.gl
 same:∀id o,ρ.m id=some o->∃o',ρ'.m id=some o'/\o.le o'
 tape:w'.tape=w.tape
 os:w'.os=w.os
 out:w'.output=w.output
 drawn:w.drawn<=w'.drawn

theorem Tr.mono {w w':World}{ρ ρ':Env}(t:Tr w ρ w' ρ'):Xji w (own ρ) w' (own ρ'):=fun b h1 h2=>
 ⟨t.keep b (fun h=>h1 (.inl h)) h2,fun h=>h.elim (fun h=>(t.owns b h).elim (fun h=>h1 (.inl h)) (fun h=>by omega)) (fun h=>h1 (.inr (t.xo▸h)))⟩

theorem Tr.refl (w:World)(ρ:Env):Tr w ρ w ρ:=
 ⟨Uak _,fun _ _ _=>rfl,fun _ h=>.inl h,rfl,rfl,fun _ o h=>⟨o,h,.refl o⟩,rfl,rfl,rfl,Uak _⟩

theorem Tr.trans {w w' w'':World}{ρ ρ' ρ'':Env}(t:Tr w ρ w' ρ')(u:Tr w' ρ' w'' ρ''):Tr w ρ w'' ρ'':=by
 refine⟨Ual t.size u.size,fun b h1 h2=>?_,fun b h=>?_,u.xo.trans t.xo,u.gl.trans t.gl,fun id o h=>?_,u.tape.trans t.tape,u.os.trans t.os,u.out.trans t.out,Ual t.drawn u.drawn⟩
 ·have hn:¬Xcf ρ' b:=fun h=>(t.owns b h).elim h1 (fun h=>by omega);exact (u.keep b hn (by have:=t.size; omega)).trans (t.keep b h1 h2)
 ·rcases u.owns b h with h | h
  ·exact t.owns b h
  ·have:=t.size; exact .inr (by omega)
 ·obtain⟨o',h1,h2⟩:=t.same id o h;obtain⟨o'',h3,h4⟩:=u.same id o' h1;exact⟨o'',h3,h2.trans h4⟩

theorem Raq {o o':RO}{n:Nat}{u:Value}(h:o.slice n u)(t:o.le o'):o'.slice n u:=by
 cases t with
 | refl=>exact h
 | gone=>
  cases o with
  | box b s=>exact h.elim
  | map b=>exact h.elim
  | arr b l c=>exact h.2.1
  | virt=>exact⟨_,_,_,h.2⟩
  | gone=>exact h
 | grow k h1=>
  rcases h1 with⟨rfl,rfl⟩ | ⟨b',c',rfl⟩
  ·simp only[RO.slice]at h⊢;obtain⟨rfl,rfl⟩:=h;exact⟨by omega,⟨_,_,_,rfl⟩,fun h=>by omega⟩
  ·simp only[RO.slice]at h⊢;exact⟨by omega,h.2.1,fun h1=>by omega⟩

theorem Rar {o o':RO}{n:Nat}{u:Value}(h:o.sdata n u)(t:o.le o'):o'.sdata n u:=by
 cases t with
 | refl=>exact h
 | gone=>
  cases o with
  | box b s=>exact h.elim
  | map b=>exact h.elim
  | arr b l c=>exact h.2.1
  | virt=>exact h.2
  | gone=>exact h
 | grow k h1=>
  rcases h1 with⟨rfl,rfl⟩ | ⟨b',c',rfl⟩
  ·exact⟨by have:=h.1; omega,h.2,fun h1=>by have:=h.1; omega⟩
  ·exact⟨by have:=h.1; omega,h.2.1,fun h1=>by have:=h.1; omega⟩

theorem Ras {o o':RO}{n off:Nat}{u:Value}(h:o.elem n off u)(t:o.le o'):o'.elem n off u:=by
 cases t with
 | refl=>exact h
 | gone=>
  cases o with
  | box b s=>exact h.elim
  | map b=>exact h.elim
  | arr b l c=>exact h.2.1
  | virt=>exact h.elim
  | gone=>exact h
 | grow k h1=>
  rcases h1 with⟨rfl,rfl⟩ | ⟨b',c',rfl⟩
  ·exact h.elim
  ·exact⟨by have:=h.1; omega,h.2.1,fun h1=>by have:=h.1; omega⟩

mutual
theorem Rat {w w':World}{ρ ρ':Env}(t:Tr w ρ w' ρ'):∀(x:V) (cs:List Value),x.repC w ρ cs->x.repC w' ρ' cs
 | .d x,cs,h=>by
  simp only[V.repC]at h⊢;exact Rad t.mono x cs h
 | .ptr id p,cs,h=>by
  simp only[V.repC]at h⊢;rcases h with⟨b,sh,h1,h2⟩ | ⟨h1,h2⟩
  ·obtain⟨o',h3,h4⟩:=t.same id _ h1;cases h4 with
   | refl=>exact .inl ⟨b,sh,h3,h2⟩
   | gone=>exact .inr ⟨h3,_,h2⟩
   | grow k h5=>rcases h5 with⟨h5,_⟩ | ⟨_,_,h5⟩<;>cases h5
  ·obtain⟨o',h3,h4⟩:=t.same id _ h1;cases h4 with
   | refl=>exact .inr ⟨h3,h2⟩
   | gone=>exact .inr ⟨h3,h2⟩
   | grow k h5=>rcases h5 with⟨h5,_⟩ | ⟨_,_,h5⟩<;>cases h5
 | .sl id n,cs,h=>by
  simp only[V.repC]at h⊢;obtain⟨o,u,h1,h2,h3⟩:=h;obtain⟨o',h4,h5⟩:=t.same id _ h1;exact⟨o',u,h4,h2,Raq h3 h5⟩
 | .sd id n,cs,h=>by
  simp only[V.repC]at h⊢;obtain⟨o,u,h1,h2,h3⟩:=h;obtain⟨o',h4,h5⟩:=t.same id _ h1;exact⟨o',u,h4,h2,Rar h3 h5⟩
 | .mp id,cs,h=>by
  simp only[V.repC]at h⊢;rcases h with⟨b,h1,h2⟩ | ⟨h1,h2⟩
  ·obtain⟨o',h3,h4⟩:=t.same id _ h1;cases h4 with
   | refl=>exact .inl ⟨b,h3,h2⟩
   | gone=>exact .inr ⟨h3,_,h2⟩
   | grow k h5=>rcases h5 with⟨h5,_⟩ | ⟨_,_,h5⟩<;>cases h5
  ·obtain⟨o',h3,h4⟩:=t.same id _ h1;cases h4 with
   | refl=>exact .inr ⟨h3,h2⟩
   | gone=>exact .inr ⟨h3,h2⟩
   | grow k h5=>rcases h5 with⟨h5,_⟩ | ⟨_,_,h5⟩<;>cases h5
 | .hd y id,cs,h=>by
  simp only[V.repC]at h⊢;rcases h with⟨b,h1,h2⟩ | ⟨h1,h2⟩
  ·obtain⟨o',h3,h4⟩:=t.same id _ h1;cases h4 with
   | refl=>exact .inl ⟨b,h3,h2⟩
   | gone=>exact .inr ⟨h3,_,h2⟩
   | grow k h5=>rcases h5 with⟨h5,_⟩ | ⟨_,_,h5⟩<;>cases h5
  ·obtain⟨o',h3,h4⟩:=t.same id _ h1;cases h4 with
   | refl=>exact .inr ⟨h3,h2⟩
   | gone=>exact .inr ⟨h3,h2⟩
   | grow k h5=>rcases h5 with⟨h5,_⟩ | ⟨_,_,h5⟩<;>cases h5
 | .ep id n z i f p,cs,h=>by
  simp only[V.repC]at h⊢;obtain⟨o,u,h1,h2,h3⟩:=h;obtain⟨o',h4,h5⟩:=t.same id _ h1;exact⟨o',u,h4,h2,Ras h3 h5⟩
 | .bs id p lo n,cs,h=>by
  simp only[V.repC]at h⊢;rcases h with⟨b,sh,cap,f,h1,h2⟩ | ⟨h1,h2⟩
  ·obtain⟨o',h3,h4⟩:=t.same id _ h1;cases h4 with
   | refl=>exact .inl ⟨b,sh,cap,f,h3,h2⟩
   | gone=>exact .inr ⟨h3,_,_,_,h2.2⟩
   | grow k h5=>rcases h5 with⟨h5,_⟩ | ⟨_,_,h5⟩<;>cases h5
  ·obtain⟨o',h3,h4⟩:=t.same id _ h1;cases h4 with
   | refl=>exact .inr ⟨h3,h2⟩
   | gone=>exact .inr ⟨h3,h2⟩
   | grow k h5=>rcases h5 with⟨h5,_⟩ | ⟨_,_,h5⟩<;>cases h5
 | .fn f fi ca,cs,h=>by
  simp only[V.repC]at h⊢;obtain⟨fs,gs,e,h1,h2⟩:=h;exact⟨fs,gs,e,Rav t fi fs h1,Rav t ca gs h2⟩
 | .agg xs,cs,h=>by
  simp only[V.repC]at h⊢;exact Rau t xs cs h
 | .iface ty x,cs,h=>by
  simp only[V.repC]at h⊢;obtain⟨u,e,h1⟩:=h;refine⟨u,e,?_⟩;rcases h1 with h1 | ⟨p,ds,q,r⟩ | ⟨p,r⟩
  ·exact .inl h1
  ·exact .inr (.inl ⟨p,ds,q,Rat t x ds r⟩)
  ·exact .inr (.inr ⟨p,Rat t x _ r⟩)
 | .tup xs,cs,h=>by
  simp only[V.repC]at h⊢;obtain⟨vs,e,h1⟩:=h;exact⟨vs,e,Rav t xs vs h1⟩
 | .undef,cs,h=>by simpa only[V.repC]using h
 | .any,cs,h=>by simpa only[V.repC]using h
theorem Rau {w w':World}{ρ ρ':Env}(t:Tr w ρ w' ρ'):∀(xs:List V) (cs:List Value),Rap w ρ xs cs->Rap w' ρ' xs cs
 | [],cs,h=>by simpa only[Rap]using h
 | x::r,cs,h=>by
  simp only[Rap]at h⊢;obtain⟨c1,c2,e,h1,h2⟩:=h;exact⟨c1,c2,e,Rat t x c1 h1,Rau t r c2 h2⟩
theorem Rav {w w':World}{ρ ρ':Env}(t:Tr w ρ w' ρ'):∀(xs:List V) (vs:List Value),V.reps w ρ xs vs->V.reps w' ρ' xs vs
 | [],vs,h=>by simpa only[V.reps]using h
 | x::r,vs,h=>by
  simp only[V.reps]at h⊢;obtain⟨u,us,e,h1,h2⟩:=h;refine⟨u,us,e,?_,Rav t r us h2⟩;rcases h1 with h1 | ⟨p,ds,q,r⟩ | ⟨p,r⟩
  ·exact .inl h1
  ·exact .inr (.inl ⟨p,ds,q,Rat t x ds r⟩)
  ·exact .inr (.inr ⟨p,Rat t x _ r⟩)
end

theorem Raw {w w':World}{ρ ρ':Env}(t:Tr w ρ w' ρ'){x:V}{u:Value}(h:x.rep w ρ u):x.rep w' ρ' u:=by
 rcases h with h | ⟨p,ds,q,r⟩ | ⟨p,r⟩
 ·exact .inl h
 ·exact .inr (.inl ⟨p,ds,q,Rat t x ds r⟩)
 ·exact .inr (.inr ⟨p,Rat t x _ r⟩)


def V.kids:V->Option (List V)
 | .agg xs=>some xs
 | .d (.agg xs)=>some (xs.map .d)
 | _=>none

theorem V.shapes_eq:∀xs:List V,V.shapes xs=xs.map V.shape
 | []=>by simp[V.shapes]
 | x::r=>by simp[V.shapes,V.shapes_eq r]

theorem D.shapes_eq:∀xs:List D,D.shapes xs=xs.map D.shape
 | []=>by simp[D.shapes]
 | x::r=>by simp[D.shapes,D.shapes_eq r]

theorem Rax {v:V}{ks:List V}(h:v.kids=some ks):v.shape=.node (ks.map V.shape):=by
 cases v with
 | agg xs=>simp[V.kids]at h; subst h; simp[V.shape,V.shapes_eq]
 | d x=>
  cases x with
  | agg xs=>simp[V.kids]at h; subst h; simp[V.shape,D.shape,D.shapes_eq]
  | _=>simp[V.kids]at h
 | _=>simp[V.kids]at h

theorem Ray {w:World}{ρ:Env}:∀(xs:List D) (cs:List Value),Rap w ρ (xs.map .d) cs↔Rac w (own ρ) xs cs
 | [],cs=>by simp[Rap,Rac]
 | x::r,cs=>by simp[Rap,Rac,V.repC,Ray r]

theorem Raz {w:World}{ρ:Env}{v:V}{ks:List V}(h:v.kids=some ks)(cs:List Value):v.repC w ρ cs↔Rap w ρ ks cs:=by
 cases v with
 | agg xs=>simp[V.kids]at h; subst h; simp[V.repC]
 | d x=>
  cases x with
  | agg xs=>simp[V.kids]at h; subst h; rw[Ray]; simp[V.repC,D.rep]
  | _=>simp[V.kids]at h
 | _=>simp[V.kids]at h

mutual
theorem Ra0 {w:World}{ρ:Env}:∀(x:V) (cs:List Value),x.repC w ρ cs->cs.length=x.shape.size
 | .d x,cs,h=>by simp only[V.repC]at h; simp only[V.shape,Ran]; exact Rag x cs h
 | .ptr id p,cs,h=>by simp only[V.repC]at h; rcases h with⟨b,sh,_,e⟩ | ⟨_,a,e⟩<;>simp[e,V.shape,Sh.size]
 | .sl id n,cs,h=>by simp only[V.repC]at h; obtain⟨o,u,_,e,_⟩:=h; simp[e,V.shape,Sh.size]
 | .sd id n,cs,h=>by simp only[V.repC]at h; obtain⟨o,u,_,e,_⟩:=h; simp[e,V.shape,Sh.size]
 | .mp id,cs,h=>by simp only[V.repC]at h; rcases h with⟨b,_,e⟩ | ⟨_,a,e⟩<;>simp[e,V.shape,Sh.size]
 | .hd y id,cs,h=>by simp only[V.repC]at h; rcases h with⟨b,_,e⟩ | ⟨_,a,e⟩<;>simp[e,V.shape,Sh.size]
 | .ep id n z i f p,cs,h=>by simp only[V.repC]at h; obtain⟨o,u,_,e,_⟩:=h; simp[e,V.shape,Sh.size]
 | .bs id p lo n,cs,h=>by simp only[V.repC]at h; rcases h with⟨b,sh,cap,f,_,_,e⟩ | ⟨_,a,l,c,e⟩<;>simp[e,V.shape,Sh.size]
 | .fn f fi ca,cs,h=>by simp only[V.repC]at h; obtain⟨fs,gs,e,_⟩:=h; simp[e,V.shape,Sh.size]
 | .agg xs,cs,h=>by simp only[V.repC]at h; simp only[V.shape,Sh.size]; exact Ra1 xs cs h
 | .iface t x,cs,h=>by simp only[V.repC]at h; obtain⟨u,e,_⟩:=h; simp[e,V.shape,Sh.size]
 | .tup xs,cs,h=>by simp only[V.repC]at h; obtain⟨u,e,_⟩:=h; simp[e,V.shape,Sh.size]
 | .undef,cs,h=>by simp only[V.repC]at h; simp[h,V.shape,Sh.size]
 | .any,cs,h=>by simp only[V.repC]at h; obtain⟨u,e⟩:=h; simp[e,V.shape,Sh.size]
theorem Ra1 {w:World}{ρ:Env}:∀(xs:List V) (cs:List Value),Rap w ρ xs cs->cs.length=Sh.sizes (V.shapes xs)
 | [],cs,h=>by simp only[Rap]at h; simp[h,V.shapes,Sh.sizes]
 | x::r,cs,h=>by
  simp only[Rap]at h;obtain⟨c1,c2,e,h1,h2⟩:=h;simp[e,V.shapes,Sh.sizes,Ra0 x c1 h1,Ra1 r c2 h2]
end

theorem Ra2 {w:World}{ρ:Env}:∀(xs:List V) (i:Nat) (cs:List Value),Rap w ρ xs cs->
  Rap w ρ (xs.take i) (cs.take (Sh.sizes ((xs.map V.shape).take i)))/\Rap w ρ (xs.drop i) (cs.drop (Sh.sizes ((xs.map V.shape).take i)))
 | xs,0,cs,h=>by simpa[Rap,Sh.sizes]using h
 | [],i+1,cs,h=>by simpa[Rap,Sh.sizes]using h
 | x::r,i+1,cs,h=>by
  simp only[Rap]at h;obtain⟨c1,c2,rfl,h1,h2⟩:=h;have hl:=Ra0 x c1 h1;obtain⟨p,q⟩:=Ra2 r i c2 h2;simp only[Uam,List.take_succ_cons,List.drop_succ_cons,Sh.sizes];constructor
  ·rw[<-hl,Uad];simp only[Rap];exact⟨c1,_,rfl,h1,p⟩
  ·rw[<-hl,Uae];exact q

theorem Ra3 {w:World}{ρ:Env}{xs ys:List V}{c1 c2:List Value}(h1:Rap w ρ xs c1)(h2:Rap w ρ ys c2):Rap w ρ (xs++ys) (c1++c2):=by
 induction xs generalizing c1 with
 | nil=>simp only[Rap]at h1; subst h1; simpa using h2
 | cons x r ih=>
  simp only[Rap]at h1;obtain⟨a1,a2,rfl,h3,h4⟩:=h1;simp only[List.cons_append,Rap];exact⟨a1,a2++c2,by simp,h3,ih h4⟩

theorem Ra4 {w:World}{ρ:Env}{xs:List V}{cs:List Value}(h:Rap w ρ xs cs){i:Nat}{v:V}(hi:xs[i]? = some v) :
  ∃c1 c2 c3,cs=c1++(c2++c3)/\c1.length=Sh.sizes ((xs.map V.shape).take i)/\Rap w ρ (xs.take i) c1/\v.repC w ρ c2/\Rap w ρ (xs.drop (i+1)) c3:=by
 obtain⟨hl,hv⟩:=Uan.1 hi;obtain⟨h1,h2⟩:=Ra2 xs i cs h;rw[Uaf hl,hv]at h2;simp only[Rap]at h2;obtain⟨c2,c3,e,h3,h4⟩:=h2;refine⟨_,c2,c3,?_,?_,h1,h3,h4⟩
 ·rw[<-e,Uao]
 ·have h5:=Ra1 _ _ h1;rw[V.shapes_eq,<-Uap]at *;rw[h5]

def V.at:V->List Nat->Option V
 | v,[]=>some v
 | v,i::p=>match v.kids with
  | some ks=>match ks[i]? with
   | some k=>V.at k p
   | none=>none
  | none=>none

def Ra5:List V->Option (List D)
 | []=>some []
 | .d x::r=>match Ra5 r with
  | some l=>some (x::l)
  | none=>none
 | _::_=>none

def V.mk (xs:List V):V:=match Ra5 xs with
 | some l=>.d (.agg l)
 | none=>.agg xs

theorem V.allD_map:∀{xs:List V} {l:List D},Ra5 xs=some l->xs=l.map .d
 | [],l,h=>by simp[Ra5]at h; subst h; rfl
 | .d x::r,l,h=>by
  simp only[Ra5]at h;cases h1:Ra5 r with
  | none=>simp[h1]at h
  | some m=>simp[h1]at h; subst h; simp[V.allD_map h1]
 | .ptr _ _::_,l,h | .sl _ _::_,l,h | .sd _ _::_,l,h | .mp _::_,l,h | .hd _ _::_,l,h | .ep _ _ _ _ _ _::_,l,h | .bs _ _ _ _::_,l,h | .fn _ _ _::_,l,h | .agg _::_,l,h | .iface _ _::_,l,h | .tup _::_,l,h | .undef::_,l,h | .any::_,l,h=>by simp[Ra5]at h

theorem Ra6 (xs:List V):(V.mk xs).kids=some xs:=by
 unfold V.mk;split
 ·rename_i l h; simp[V.kids,V.allD_map h]
 ·simp[V.kids]

theorem Ra7 {v:V}{ks:List V}(h:v.kids=some ks):v.isAgg=true:=by
 cases v with
 | agg xs=>rfl
 | d x=>cases x with
  | agg xs=>rfl
  | _=>simp[V.kids]at h
 | _=>simp[V.kids]at h

def V.set:V->List Nat->V->Option V
 | _,[],x=>some x
 | v,i::p,x=>match v.kids with
  | some ks=>match ks[i]? with
   | some k=>match V.set k p x with
    | some k'=>some (V.mk (ks.set i k'))
    | none=>none
   | none=>none
  | none=>none

theorem Ra8 {w:World}{ρ:Env}:∀(p:List Nat) (t v:V) (cs:List Value),t.repC w ρ cs->t.at p=some v->
  ∃c1 c2 c3,cs=c1++(c2++c3)/\c1.length=t.shape.off p/\v.repC w ρ c2
 | [],t,v,cs,h,e=>by
  simp only[V.at,Uaq]at e; subst e;exact⟨[],cs,[],by simp,by cases t.shape<;>simp[Sh.off],h⟩
 | i::p,t,v,cs,h,e=>by
  simp only[V.at]at e;split at e
  ·rename_i ks hk;split at e
   ·rename_i k hi;rw[Raz hk]at h;obtain⟨c1,c2,c3,e1,e2,_,h2,_⟩:=Ra4 h hi;obtain⟨d1,d2,d3,e3,e4,h4⟩:=Ra8 p k v c2 h2 e;refine⟨c1++d1,d2,d3++c3,by simp[e1,e3],?_,h4⟩;rw[Rax hk];simp only[Sh.off,Uar,e2,e4];have:(List.map V.shape ks).getD i .leaf=k.shape:=by simp[hi]
    rw[this]
   ·simp at e
  ·simp at e

theorem Ra9 {w:World}{ρ:Env}:∀(p:List Nat) (t v x:V) (cs ds:List Value),t.repC w ρ cs->t.at p=some v->x.repC w ρ ds->x.shape=v.shape->
  ∃t',t.set p x=some t'/\t'.shape=t.shape/\t'.repC w ρ (cs.take (t.shape.off p)++(ds++cs.drop (t.shape.off p+ds.length)))
 | [],t,v,x,cs,ds,h,e,hx,hs=>by
  simp only[V.at,Uaq]at e; subst e;refine⟨x,rfl,hs,?_⟩;have h1:=Ra0 _ _ h;have h2:=Ra0 _ _ hx;have:t.shape.off []=0:=by cases t.shape<;>simp[Sh.off]
  rw[this];have h3:ds.length=cs.length:=by rw[h1,h2,hs]
  simp[h3,hx]
 | i::p,t,v,x,cs,ds,h,e,hx,hs=>by
  simp only[V.at]at e;split at e
  ·rename_i ks hk;split at e
   ·rename_i k hi;rw[Raz hk]at h;obtain⟨c1,c2,c3,e1,e2,h1,h2,h3⟩:=Ra4 h hi;obtain⟨k',e3,e4,h4⟩:=Ra9 p k v x c2 ds h2 e hx hs;obtain⟨d1,d2,d3,e5,e6,h5⟩:=Ra8 p k v c2 h2 e;have hl:ds.length=d2.length:=by rw[Ra0 _ _ hx,Ra0 _ _ h5,hs]
    have hof:t.shape.off (i::p)=c1.length+k.shape.off p:=by
     rw[Rax hk];simp only[Sh.off,e2];have:(List.map V.shape ks).getD i .leaf=k.shape:=by simp[hi]
     rw[this]
    refine⟨V.mk (ks.set i k'),by simp[V.set,hk,hi,e3],?_,?_⟩
    ·rw[Rax hk,Rax (Ra6 _),Uas,e4];congr 1;apply Uat;intro j;by_cases hj:i=j
     ·subst hj; rw[Uau]; simp[hi]; obtain⟨hl,_⟩:=Uan.1 hi; omega
     ·rw[Uau]; simp[hj]
    ·rw[Raz (Ra6 _),hof];have e7:cs.take (c1.length+k.shape.off p)++(ds++cs.drop (c1.length+k.shape.off p+ds.length)) =
       c1++((c2.take (k.shape.off p)++(ds++c2.drop (k.shape.off p+ds.length)))++c3):=by
      subst e5;rw[e1,<-e6];simp only[Uav,hl];rw[Uad,Uag,Uae];simp[List.drop_append]
     rw[e7];have e8:ks.set i k'=ks.take i++(k'::ks.drop (i+1)):=by
      obtain⟨hl,_⟩:=Uan.1 hi;exact Uaw.trans (by simp[hl])
     rw[e8];refine Ra3 h1 ?_;simp only[Rap];exact⟨_,c3,rfl,h4,h3⟩
   ·simp at e
  ·simp at e

end Go.Ab
namespace Go.Ab
open Go

inductive LSt where
 | ready
 | busy
 | ret
 | exit (n:Nat)
def LSt.st:LSt->LoopState
 | .ready=>.ready
 | .busy=>.busy
 | .ret=>.done
 | .exit _=>.done
def LSt.pend:LSt->Option Code
 | .ret=>some .ret
 | .exit n=>some (.exit n)
 | _=>none

inductive Ob where
 | box (E:Nat) (t:V)
 | arr (E sz:Nat) (xs:List D)
 | vec (E sz:Nat) (xs:List V)
 | map (es:List (D×V))
 | gone
  | lp (tag:Nat) (st:LSt) (sl:List (Nat×V))
  | it (m:Option Nat) (n:Nat) (seen:List Nat)

def look:List (Nat×V)->Nat->V
 | [],_=>.any
 | (j,d)::r,k=>if j=k then d else look r k

def Xd:List (Nat×Ob)->Nat->Option Ob
 | [],_=>none
 | (j,d)::r,k=>if j=k then some d else Xd r k

def setO:List (Nat×Ob)->Nat->Ob->List (Nat×Ob)
 | [],_,_=>[]
 | (j,d)::r,k,x=>if j=k then (j,x)::r else (j,d)::setO r k x

abbrev Xf:=List (Nat×V)
abbrev Xb:=List (Nat×Ob)

def D.key0:D->Option Value
 | .int k n=>some (.int k n)
 | .bool b=>some (.bool b)
 | .str s=>some (.string ⟨s.toArray⟩)
 | _=>none
def Vk:List D->Option (List Value)
 | []=>some []
 | x::r=>match x.key0,Vk r with
  | some u,some us=>some (u::us)
  | _,_=>none
def Yyr:Option (List Value)->Option Value
 | some us=>some (.agg us.toArray)
 | none=>none
def D.key:D->Option Value
 | .int k n=>some (.int k n)
 | .bool b=>some (.bool b)
 | .str s=>some (.string ⟨s.toArray⟩)
 | .agg xs=>Yyr (Vk xs)
 | _=>none
def Yb (w:World)(ρ:Env):List (D×V)->List MapEntry->Prop
 | [],es=>es=[]
 | (k,v)::r,es=>∃e es',es=e::es'/\k.key=some e.key/\v.rep w ρ e.val/\Yb w ρ r es'
theorem Yb.tr {w w':World}{ρ ρ':Env}(t:Tr w ρ w' ρ'):∀(l:List (D×V)) (es:List MapEntry),Yb w ρ l es->Yb w' ρ' l es
 | [],es,h=>h
 | (k,v)::r,es,h=>by
  obtain⟨e,es',h1,h2,h3,h4⟩:=h;exact⟨e,es',h1,h2,Raw t h3,Yb.tr t r es' h4⟩

def Xa0:Nat->List MapEntry->Prop
 | _,[]=>True
 | n,e::r=>e.born=n/\Xa0 (n+1) r
def Un (w:World)(ρ:Env)(id:Nat):Ob->Prop
 | .box E t=>∃b cs,ρ.m id=some (.box b t.shape)/\w.heap[b]? = some (.cells (List.toArray cs) E (0,0))/\t.repC w ρ cs
 | .arr E sz xs=>(ρ.m id=some .virt/\xs=[])\/∃b cap cs sp,ρ.m id=some (.arr b xs.length cap)/\w.heap[b]? = some (.cells (List.toArray (cs++sp)) E (0,0))/\
   Rac w (own ρ) xs cs/\(∀x∈xs,x.sz=sz)/\(cs++sp).length=cap*sz
 | .vec E sz xs=>(ρ.m id=some .virt/\xs=[])\/∃b cap cs sp,ρ.m id=some (.arr b xs.length cap)/\w.heap[b]? = some (.cells (List.toArray (cs++sp)) E (0,0))/\
   Rap w ρ xs cs/\(∀x∈xs,x.size=sz)/\(cs++sp).length=cap*sz
 | .map es=>∃b l clk,ρ.m id=some (.map b)/\w.heap[b]? = some (.map (List.toArray l) clk)/\Yb w ρ es l/\clk=l.length/\Xa0 0 l
 | .gone=>ρ.m id=some .gone
 | .lp tag st sl=>∃b fn tm dd ps ca cb,ρ.m id=some (.map b)/\w.heap[b]? = some (.loop { state:=st.st,pending:=st.pend,fn:=fn,tmps:=tm,params:=ps,assign:=ca,body:=cb,defers:=dd })/\ρ.gl.l tag ps tm.size ca cb/\∀p∈sl,p.2.rep w ρ (tm.getD p.1 undef)
 | .it none _ _=>∃b,ρ.m id=some (.map b)/\w.heap[b]? = some (.mapIter none 0 #[] 0)
 | .it (some j) n seen=>∃b mb,ρ.m id=some (.map b)/\(ρ.m j=some (.map mb)\/ρ.m j=some .gone)/\w.heap[b]? = some (.mapIter (some mb) n seen.toArray n)

def Xm6:Xb->Prop
 | []=>True
 | (j,_)::r=>Xd r j=none/\Xm6 r
theorem Xm6.look:∀{ob:Xb},Xm6 ob->∀e∈ob,Xd ob e.1=some e.2
 | [],_,e,h=>by cases h
 | (j,o)::r,h,e,he=>by
  rcases Uax.mp he with rfl | he
  ·simp[Xd]
  ·have h1:=Xm6.look h.2 e he;have:j ≠ e.1:=fun e'=>by rw[e']at h; rw[h.1]at h1; cases h1
   simp[Xd,this,h1]

theorem Xel {x:Ob}{id:Nat}:∀(ob:Xb) (j:Nat),Xd ob j=none->Xd (setO ob id x) j=none
 | [],_,h=>by simp[setO,Xd]
 | (k,y)::r,j,h=>by
  simp only[Xd]at h;simp only[setO];split at h
  ·cases h
  ·rename_i e;split
   ·simp only[Xd,e,Uay]; exact h
   ·simp only[Xd,e,Uay]; exact Xel r j h
theorem Xm6.set {x:Ob}{id:Nat}:∀{ob:Xb},Xm6 ob->Xm6 (setO ob id x)
 | [],h=>h
 | (k,y)::r,h=>by
  simp only[setO];split
  ·exact h
  ·exact⟨Xel r k h.1,Xm6.set h.2⟩

structure OM (w:World)(ρ:Env)(objs:Xb):Prop where
 one:∀id ob,Xd objs id=some ob->Un w ρ id ob
 dom:∀id o,ρ.m id=some o->∃ob,Xd objs id=some ob
 inj:∀i j o p b,ρ.m i=some o->ρ.m j=some p->o.blk? = some b->p.blk? = some b->i=j
 xlt:∀b,ρ.xo b->b<w.heap.size
 glb:∀b o,ρ.gl b=some o->w.heap[b]? = some o/\¬own ρ b
 xdis:∀b,Xcf ρ b->¬ρ.xo b
 once:Xm6 objs

def SM (w:World)(ρ:Env)(sl:Xf)(a:Act):Prop:=∀k,(look sl k).rep w ρ (a.tmps.getD k undef)

structure Ext (w w':World):Prop where
 size:w.heap.size<=w'.heap.size
 keep:∀b,b<w.heap.size->w'.heap[b]? = w.heap[b]?
 tape:w'.tape=w.tape
 os:w'.os=w.os
 out:w'.output=w.output
 drawn:w.drawn<=w'.drawn

theorem Ext.refl (w:World):Ext w w:=⟨Uak _,fun _ _=>rfl,rfl,rfl,rfl,Uak _⟩
theorem Ext.trans {w w' w'':World}(h:Ext w w')(h':Ext w' w''):Ext w w'':=
 ⟨Ual h.size h'.size,fun b hb=>(h'.keep b (Uaz hb h.size)).trans (h.keep b hb),h'.tape.trans h.tape,h'.os.trans h.os,h'.out.trans h.out,Ual h.drawn h'.drawn⟩
theorem Ext.tr {w w':World}(h:Ext w w'){ρ:Env}:Tr w ρ w' ρ:=
 ⟨h.size,fun b _ hb=>h.keep b hb,fun _ h=>.inl h,rfl,rfl,fun _ o h=>⟨o,h,.refl o⟩,h.tape,h.os,h.out,h.drawn⟩
theorem Rba (w:World)(n:Nat)(h:w.drawn<=n:=by simp):Ext w { w with drawn:=n }:=⟨Uak _,fun _ _=>rfl,rfl,rfl,rfl,h⟩

theorem J4 {w w':World}{ρ ρ':Env}(t:Tr w ρ w' ρ')(h:∀b o,ρ.gl b=some o->w.heap[b]? = some o/\¬own ρ b):∀b o,ρ'.gl b=some o->w'.heap[b]? = some o/\¬own ρ' b:=by
 intro b o hb;rw[t.gl]at hb;obtain⟨h1,h2⟩:=h b o hb;obtain⟨h3,h4⟩:=t.mono b h2 (Xj h1);exact⟨h3.trans h1,h4⟩

theorem OM.ext {w w':World}{ρ:Env}{objs:Xb}(h:Ext w w')(m:OM w ρ objs):OM w' ρ objs:=by
 refine⟨fun id ob hl=>?_,m.dom,m.inj,fun b hb=>Uaz (m.xlt b hb) h.size,J4 h.tr m.glb,m.xdis,m.once⟩;have h1:=m.one id ob hl;cases ob with
 | box E t=>
  obtain⟨b,cs,h2,h3,h4⟩:=h1;exact⟨b,cs,h2,(h.keep b (Xj h3)).trans h3,Rat h.tr _ _ h4⟩
 | arr E sz xs=>
  rcases h1 with h1 | ⟨b,cap,cs,sp,h2,h3,h4,h5,h6⟩
  ·exact .inl h1
  ·exact .inr ⟨b,cap,cs,sp,h2,(h.keep b (Xj h3)).trans h3,Raf (h.tr (ρ:=ρ)).mono _ _ h4,h5,h6⟩
 | vec E sz xs=>
  rcases h1 with h1 | ⟨b,cap,cs,sp,h2,h3,h4,h5,h6⟩
  ·exact .inl h1
  ·exact .inr ⟨b,cap,cs,sp,h2,(h.keep b (Xj h3)).trans h3,Rau (h.tr (ρ:=ρ)) _ _ h4,h5,h6⟩
 | map es=>
  obtain⟨b,l,clk,h2,h3,h4,h5⟩:=h1;exact⟨b,l,clk,h2,(h.keep b (Xj h3)).trans h3,Yb.tr h.tr _ _ h4,h5⟩
 | lp tag st sl=>
  obtain⟨b,fn,tm,dd,ps,ca,cb,h2,h3,h4,h5⟩:=h1;exact⟨b,fn,tm,dd,ps,ca,cb,h2,(h.keep b (Xj h3)).trans h3,h4,fun p hp=>Raw h.tr (h5 p hp)⟩
 | it m n seen=>
  cases m with
  | none=>obtain⟨b,h2,h3⟩:=h1; exact⟨b,h2,(h.keep b (Xj h3)).trans h3⟩
  | some j=>obtain⟨b,mb,h2,h4,h3⟩:=h1; exact⟨b,mb,h2,h4,(h.keep b (Xj h3)).trans h3⟩
 | gone=>exact h1

theorem SM.tr {w w':World}{ρ ρ':Env}{sl:Xf}{a:Act}(t:Tr w ρ w' ρ')(h:SM w ρ sl a):SM w' ρ' sl a:=fun k=>Raw t (h k)


inductive A where
 | t (k:Nat)
 | int (k:IntKind) (n:Int)
 | bool (b:Bool)
 | str (s:List UInt8)
 | nils
 | nili
 | nilp
 | nilf
 | nilm
 | nl (sz:Nat)
 | fn (f:Nat)

def A.chk:Operand->A->Bool
 | .tmp k,.t j=>k==j
 | .const (.int k n),.int k' n'=>decide (k=k')&&n==n'
 | .const (.bool b),.bool b'=>b==b'
 | .const (.string s),.str l=>s.data.toList==l
 | .const (.slice none n m),.nils=>n==0&&m==0
 | .const .nilIface,.nili=>true
 | .const (.pointer none),.nilp=>true
 | .const .nilFunc,.nilf=>true
 | .const (.map none),.nilm=>true
 | .const (.slice none n m),.nl _=>n==0&&m==0
 | .func f,.fn g=>f==g
 | _,_=>false

def A.ev (sl:Xf):A->V
 | .t k=>look sl k
 | .int k n=>.d (.int k n)
 | .bool b=>.d (.bool b)
 | .str s=>.d (.str s)
 | .nils=>.d .nils
 | .nili=>.d .nili
 | .nilp=>.d .nilp
 | .nilf=>.d .nilf
 | .nilm=>.d .nilm
 | .nl sz=>.d (.list sz [])
 | .fn f=>.fn f [] []

section reps
variable {w:World} {ρ:Env} {u:Value}
theorem X9 {k:IntKind}{n:Int}:(V.d (.int k n)).rep w ρ u↔u=.int k n:=by simp[V.rep,V.isAgg,V.repC,D.rep]
theorem rep_bool {b:Bool}:(V.d (.bool b)).rep w ρ u↔u=.bool b:=by simp[V.rep,V.isAgg,V.repC,D.rep]
theorem Vf {s:List UInt8}:(V.d (.str s)).rep w ρ u↔u=.string ⟨s.toArray⟩:=by simp[V.rep,V.isAgg,V.repC,D.rep]
theorem W1:(V.d .nils).rep w ρ u↔u=.slice none 0 0:=by simp[V.rep,V.isAgg,V.repC,D.rep]
theorem Xc0:(V.d .nili).rep w ρ u↔u=.nilIface:=by simp[V.rep,V.isAgg,V.repC,D.rep]
theorem Xi2:(V.d .nilp).rep w ρ u↔u=.pointer none:=by simp[V.rep,V.isAgg,V.repC,D.rep]
theorem Xt0:(V.d .nilf).rep w ρ u↔u=.nilFunc:=by simp[V.rep,V.isAgg,V.repC,D.rep]
theorem Xar:(V.d .nilm).rep w ρ u↔u=.map none:=by simp[V.rep,V.isAgg,V.repC,D.rep]
theorem Zc:V.undef.rep w ρ u↔u=undef:=by simp[V.rep,V.isAgg,V.repC]
theorem Jp:V.any.rep w ρ u:=.inl rfl
theorem Zn {sz:Nat}{xs:List D}:(V.d (.list sz xs)).rep w ρ u↔(xs=[]/\u=.slice none 0 0)\/∃a cap vs,u=.slice (some a) xs.length cap/\xs.length<=cap/\Cells w (own ρ) a vs/\Rac w (own ρ) xs vs/\∀x∈xs,x.sz=sz:=by
 simp[V.rep,V.isAgg,V.repC,D.rep]
theorem Qc {x:D}:(V.d (.ref x)).rep w ρ u↔∃a vs,u=.pointer (some a)/\a.spot=none/\Cells w (own ρ) a vs/\x.rep w (own ρ) vs:=by
 simp[V.rep,V.isAgg,V.repC,D.rep]
theorem Xc1 {id:Nat}{p:List Nat}:(V.ptr id p).rep w ρ u↔(∃b sh,ρ.m id=some (.box b sh)/\u=.pointer (some ⟨b,sh.off p,none⟩))\/(ρ.m id=some .gone/\∃a,u=.pointer (some a)):=by
 simp[V.rep,V.isAgg,V.repC]
theorem Qd {id:Nat}{p:List Nat}(h:(V.ptr id p).rep w ρ u):∃a,u=.pointer (some a):=by
 rw[Xc1]at h;rcases h with⟨b,sh,_,h⟩ | ⟨_,h⟩
 ·exact⟨_,h⟩
 ·exact h
theorem Zb {id:Nat}{p:List Nat}{ob:Xb}{E:Nat}{t:V}(hO:OM w ρ ob)(hl:Xd ob id=some (.box E t))(h:(V.ptr id p).rep w ρ u):∃b sh,ρ.m id=some (.box b sh)/\u=.pointer (some ⟨b,sh.off p,none⟩):=by
 rw[Xc1]at h;rcases h with h | ⟨h,_⟩
 ·exact h
 ·obtain⟨b,cs,h1,_⟩:=hO.one id _ hl;rw[h]at h1; cases h1
theorem Qq {id:Nat}{p:List Nat}{b:Nat}{sh:Sh}(h:ρ.m id=some (.box b sh)):(V.ptr id p).rep w ρ (.pointer (some ⟨b,sh.off p,none⟩)):=Xc1.2 (.inl ⟨b,sh,h,rfl⟩)
theorem Yl {id n:Nat}:(V.sl id n).rep w ρ u↔∃o,ρ.m id=some o/\o.slice n u:=by
 simp[V.rep,V.isAgg,V.repC]
theorem Yxy {id n:Nat}:(V.sd id n).rep w ρ u↔∃o,ρ.m id=some o/\o.sdata n u:=by
 simp[V.rep,V.isAgg,V.repC]
theorem Xgb {id:Nat}:(V.mp id).rep w ρ u↔(∃b,ρ.m id=some (.map b)/\u=.map (some b))\/(ρ.m id=some .gone/\∃r,u=.map r):=by
 simp[V.rep,V.isAgg,V.repC]
theorem Xaq {y:Bool}{id:Nat}:(V.hd y id).rep w ρ u↔(∃b,ρ.m id=some (.map b)/\u=hdV y b)\/(ρ.m id=some .gone/\∃b,u=hdV y b):=by
 simp[V.rep,V.isAgg,V.repC]
theorem Ydh {id lo n:Nat}{p:List Nat}:(V.bs id p lo n).rep w ρ u↔(∃b sh cap f,ρ.m id=some (.box b sh)/\(n<=cap/\(n ≠ 0->f=sh.off (p++[lo])))/\u=.slice (some ⟨b,f,none⟩) n cap)\/(ρ.m id=some .gone/\∃a l c,u=.slice a l c):=by
 simp[V.rep,V.isAgg,V.repC]
theorem Xmf {id n z i f:Nat}{p:List Nat}:(V.ep id n z i f p).rep w ρ u↔∃o,ρ.m id=some o/\o.elem n (i*z+f) u:=by
 simp[V.rep,V.isAgg,V.repC]
theorem Xb5 {f:Nat}{fi ca:List V}:(V.fn f fi ca).rep w ρ u↔∃fs gs,u=.func (.func f) fs.toArray gs.toArray/\V.reps w ρ fi fs/\V.reps w ρ ca gs:=by
 simp[V.rep,V.isAgg,V.repC]
theorem Xao {x:D}:(V.d x).rep w ρ u↔(x.isAgg=true/\∃ds,u=.agg ds.toArray/\x.rep w (own ρ) ds)\/(x.isAgg=false/\x.rep w (own ρ) [u]):=by
 have:(V.d x).isAgg=x.isAgg:=by cases x<;>rfl
 simp[V.rep,V.repC,this]
theorem Xap {t:Nat}{x:D}:(V.d (.iface t x)).rep w ρ u↔∃c,u=.iface t c/\(V.d x).rep w ρ c:=by
 simp[Xao,D.isAgg,D.rep]
theorem Xb6:∀{l:List D} {us:List Value},V.reps w ρ (l.map .d) us↔Rab w (own ρ) l us
 | [],us=>by simp[V.reps,Rab]
 | x::r,us=>by
  have:∀u,((V.d x)=V.any\/(V.d x).isAgg=true/\(∃ds,u=Value.agg ds.toArray/\V.repC w ρ (V.d x) ds)\/(V.d x).isAgg=false/\V.repC w ρ (V.d x) [u])↔(V.d x).rep w ρ u:=fun u=>Iff.rfl;simp only[Uam,V.reps,Rab,Xb6 (l:=r),this,Xao]
theorem Xeh {f:Nat}{fi ca:List D}:(V.d (.fn f fi ca)).rep w ρ u↔∃fs gs,u=.func (.func f) fs.toArray gs.toArray/\V.reps w ρ (fi.map .d) fs/\V.reps w ρ (ca.map .d) gs:=by
 simp[Xao,D.isAgg,D.rep,Xb6]
theorem We {xs:List V}:(V.tup xs).rep w ρ u↔∃vs,u=.tuple vs.toArray/\V.reps w ρ xs vs:=by
 simp[V.rep,V.isAgg,V.repC]
theorem Xtz {v:V}{ks:List V}(h:v.kids=some ks):v.rep w ρ u↔∃cs,u=.agg cs.toArray/\Rap w ρ ks cs:=by
 have h1:=Ra7 h;have h2:v ≠ .any:=by intro e; subst e; simp[V.isAgg]at h1
 simp[V.rep,h1,h2,Raz h]
theorem Wj {v:V}(h:v.isAgg=false)(h2:v ≠ .any):v.rep w ρ u↔v.repC w ρ [u]:=by
 simp[V.rep,h,h2]
theorem Vp {v:V}{cs:List Value}(h:v.repC w ρ cs):v.rep w ρ (if v.isAgg then .agg cs.toArray else cs.headD undef):=by
 cases ha:v.isAgg with
 | true=>exact .inr (.inl ⟨ha,cs,by simp,h⟩)
 | false=>
  have h1:=Ra0 _ _ h;have h2:v.shape.size=1:=by
   cases v with
   | d x=>cases x<;>simp_all[V.isAgg,V.shape,D.shape,Sh.size]
   | agg xs=>simp[V.isAgg]at ha
   | _=>simp[V.shape,Sh.size]
  rw[h2]at h1;obtain⟨c,rfl⟩:=Ua0.1 h1;exact .inr (.inr ⟨ha,by simpa using h⟩)
theorem Wl {v:V}(hv:v ≠ .any){u:Value}(h:v.rep w ρ u):v.repC w ρ u.cells.toList:=by
 rcases h with h | ⟨_,ds,rfl,h⟩ | ⟨ha,h⟩
 ·exact absurd h hv
 ·simpa[Value.cells]using h
 ·have:u.cells=#[u]:=by
   cases u with
   | agg cs=>
    cases v with
    | d x=>cases x<;>simp_all[V.isAgg,V.repC,D.rep]
    | sl id n=>
     simp only[V.repC]at h;obtain⟨o,u,_,h2,h3⟩:=h;simp only[Ua1,Ua2]at h2;subst h2;cases o<;>simp[RO.slice]at h3
    | sd id n=>
     simp only[V.repC]at h;obtain⟨o,u,_,h2,h3⟩:=h;simp only[Ua1,Ua2]at h2;subst h2;cases o<;>simp[RO.sdata]at h3
    | ptr id p=>simp only[V.repC]at h; rcases h with⟨_,_,_,h⟩ | ⟨_,_,h⟩<;>simp at h
    | mp id=>simp only[V.repC]at h; rcases h with⟨_,_,h⟩ | ⟨_,_,h⟩<;>simp at h
    | hd y id=>simp only[V.repC]at h; rcases h with⟨_,_,h⟩ | ⟨_,_,h⟩<;>cases y<;>simp[hdV]at h
    | bs id p lo n=>simp only[V.repC]at h; rcases h with⟨_,_,_,_,_,_,h⟩ | ⟨_,_,_,_,h⟩<;>simp at h
    | ep id n z i f p=>
     simp only[V.repC]at h;obtain⟨o,u,_,h2,h3⟩:=h;simp only[Ua1,Ua2]at h2;subst h2;cases o<;>simp[RO.elem]at h3
    | _=>simp_all[V.isAgg,V.repC,Go.undef]
   | _=>rfl
  rw[this]; simpa using h
end reps

theorem A.sound {w:World}{ρ:Env}{sl:Xf}{a:Act}(hs:SM w ρ sl a):∀{x:Operand} {y:A},A.chk x y=true->(y.ev sl).rep w ρ (a.eval x)
 | .tmp k,.t j,h=>by simp[A.chk]at h; subst h; exact hs k
 | .const (.int k n),.int k' n',h=>by simp[A.chk]at h; obtain⟨rfl,rfl⟩:=h; simp[A.ev,X9,Act.eval]
 | .const (.bool b),.bool b',h=>by simp[A.chk]at h; subst h; simp[A.ev,rep_bool,Act.eval]
 | .const (.string s),.str l,h=>by
  simp[A.chk]at h; subst h; simp[A.ev,Vf,Act.eval]
 | .const (.slice none n m),.nils,h=>by simp[A.chk]at h; obtain⟨rfl,rfl⟩:=h; simp[A.ev,W1,Act.eval]
 | .const .nilIface,.nili,h=>by simp[A.ev,Xc0,Act.eval]
 | .const (.pointer none),.nilp,h=>by simp[A.ev,Xi2,Act.eval]
 | .const .nilFunc,.nilf,h=>by simp[A.ev,Xt0,Act.eval]
 | .const (.map none),.nilm,h=>by simp[A.ev,Xar,Act.eval]
 | .const (.slice none n m),.nl sz,h=>by simp[A.chk]at h; obtain⟨rfl,rfl⟩:=h; simp[A.ev,Zn,Act.eval]
 | .func f,.fn g,h=>by
  simp[A.chk]at h; subst h;simp only[A.ev,Xb5,Act.eval,V.reps];exact⟨[],[],rfl,rfl,rfl⟩
end Go.Ab
namespace Go.Ab
open Go


def atO (objs:Xb)(id:Nat)(p:List Nat):Option V:=match Xd objs id with
 | some (.box _ t)=>t.at p
 | _=>none
def Q2 (K:V->Prop):V->V->V->Prop
 | .d (.bool t),.d (.bool x),.d (.bool y)=>K (.d (.bool (if t then x else y)))
 | .d (.bool t),x,y=>(t=true->K x)/\(t=false->K y)
 | _,_,_=>False
def X3h (K:V->Prop):V->Prop
 | .d (.bool b)=>K (.d (.bool (!b)))
 | _=>False
def Ykt (K:V->Prop):V->Prop
 | .d (.int k n)=>K (.d (.int k (k.wrap (0-n))))
 | _=>False
def Xup (op:BinOp)(k:IntKind)(x y:Int):Int:=
 match op with
 | .and=>k.wrap (BitVec.ofInt k.bits x &&&BitVec.ofInt k.bits y).toNat
 | .or=>k.wrap (BitVec.ofInt k.bits x |||BitVec.ofInt k.bits y).toNat
 | .xor=>k.wrap (BitVec.ofInt k.bits x ^^^ BitVec.ofInt k.bits y).toNat
 | _=>k.wrap (BitVec.ofInt k.bits x &&&~~~ BitVec.ofInt k.bits y).toNat
def mxK (K:V->Prop):V->V->Prop
 | .d (.int k a),.d (.int _ b)=>K (.d (.int k (if b > a then b else a)))
 | _,_=>False
def Xmz (op:BinOp)(k k':IntKind)(a b:Int)(K:V->Prop):Prop:=
 match op with
 | .add=>k=k'/\K (.d (.int k (k.wrap (a+b))))
 | .sub=>k=k'/\K (.d (.int k (k.wrap (a-b))))
 | .mul=>k=k'/\K (.d (.int k (k.wrap (a*b))))
 | .quo=>k=k'/\b ≠ 0/\K (.d (.int k (k.wrap (a.tdiv b))))
 | .rem=>k=k'/\b ≠ 0/\K (.d (.int k (a.tmod b)))
 | .and | .or | .xor | .andNot=>k=k'/\K (.d (.int k (Xup op k a b)))
 | .shl=>0<=b/\K (.d (.int k (k.wrap (a*2 ^ (min b.toNat k.bits)))))
 | .shr=>0<=b/\K (.d (.int k (a.fdiv (2 ^ (min b.toNat k.bits)))))
 | .eql=>k=k'/\K (.d (.bool (a==b)))
 | .neq=>k=k'/\K (.d (.bool (a != b)))
 | .lss=>k=k'/\K (.d (.bool (decide (a<b))))
 | .leq=>k=k'/\K (.d (.bool (decide (a<=b))))
 | .gtr=>k=k'/\K (.d (.bool (decide (b<a))))
 | .geq=>k=k'/\K (.d (.bool (decide (b<=a))))
def Yfd (K:V->Prop):V->Prop
 | .d (.int k n)=>K (.d (.int k (Xup .xor k (if k.signed then -1 else k.max) n)))
 | _=>False
def Xwl (op:BinOp)(x y:List UInt8)(K:V->Prop):Prop:=
 match op with
 | .add=>x.length+y.length<=9223372036854775807/\K (.d (.str (x++y)))
 | .eql=>K (.d (.bool (x==y)))
 | .neq=>K (.d (.bool (x != y)))
 | .lss=>K (.d (.bool (Op.bytesLess x y)))
 | .leq=>K (.d (.bool (Op.bytesLess x y||x==y)))
 | .gtr=>K (.d (.bool (!(Op.bytesLess x y||x==y))))
 | .geq=>K (.d (.bool (!Op.bytesLess x y)))
 | _=>False
def Xru (op:BinOp)(K:V->Prop):V->V->Prop
 | .d (.int k a),.d (.int k' b)=>Xmz op k k' a b K
 | .d (.str x),.d (.str y)=>Xwl op x y K
 | _,_=>False
def Yek (e:Bool)(K:V->Prop):V->V->Prop
 | .d (.bool x),.d (.bool y)=>K (.d (.bool ((x==y)==e)))
 | _,_=>False
def V2 (e:Bool)(K:V->Prop):V->Prop
 | .d .nili=>K (.d (.bool e))
 | .iface _ _=>K (.d (.bool (!e)))
 | .d (.iface _ _)=>K (.d (.bool (!e)))
 | _=>False
def Xqc (e:Bool)(K:V->Prop):V->Prop
 | .d .nilp=>K (.d (.bool e))
 | .d (.ref _)=>K (.d (.bool (!e)))
 | .ptr _ _=>K (.d (.bool (!e)))
 | _=>False
def Xnr (e:Bool)(K:V->Prop):V->Prop
 | .d .nilf=>K (.d (.bool e))
 | .d (.fn _ _ _)=>K (.d (.bool (!e)))
 | .fn _ _ _=>K (.d (.bool (!e)))
 | _=>False
def Yly (objs:Xb)(e:Bool)(K:V->Prop):V->V->Prop
 | .ptr i p,.ptr j q=>i=j/\p=q/\(∃v,atO objs i p=some v)/\K (.d (.bool e))
 | _,_=>False
def Ylk (objs:Xb)(K:V->Prop):V->Prop
 | .sl id n=>(∃E sz xs,Xd objs id=some (.arr E sz xs)/\sz ≠ 0/\n=xs.length/\xs ≠ [])/\K (.sd id n)
 | .d .nils=>K (.d .nilp)
 | _=>False
def X9v (t:Nat):V->V
 | .d x=>.d (.iface t x)
 | v=>.iface t v
def Yh7 (f:Nat)(fi ca:List V):Option (List D)->Option (List D)->V
 | some l,some m=>.d (.fn f l m)
 | _,_=>.fn f fi ca
def Ybu (f:Nat)(fi ca:List V):V:=Yh7 f fi ca (Ra5 fi) (Ra5 ca)
def Xy6 (k:IntKind)(K:V->Prop):V->Prop
 | .d (.int _ n)=>K (.d (.int k (k.wrap n)))
 | _=>False
def Yfg (K:V->Prop):V->Prop
 | .d (.str s)=>K (.d (.str s))
 | _=>False
def X5l (K:V->Prop):V->V->Prop
 | .d (.str s),.d (.int _ n)=>(0<=n/\n<s.length)/\K (.d (.int .u8 (s.getD n.toNat 0).toNat))
 | _,_=>False
def Z3:Option V->Option (List V)
 | some v=>v.kids
 | none=>none
def V0 (n i:Nat):Option Ob->Option V
 | some (.vec _ _ xs)=>if n=xs.length then xs[i]? else none
 | some (.arr _ _ xs)=>if n=xs.length then (xs.map V.d)[i]? else none
 | _=>none
def Yei (z f:Nat)(p:List Nat):Option V->Option V
 | some v=>if z=v.size/\f=v.shape.off p then v.at p else none
 | none=>none
def atE (objs:Xb)(id n z i f:Nat)(p:List Nat):Option V:=Yei z f p (V0 n i (Xd objs id))
def Xnu (z:Nat):Option V->Prop
 | some v=>v.size=z
 | none=>False
def Xcb (objs:Xb)(z:Nat)(K:V->Prop):V->V->Prop
 | .d (.list sz xs),.d (.int _ n)=>z=sz/\(0<=n/\n<xs.length)/\K (.d (.ref (xs.getD n.toNat default)))
 | .sl id n,.d (.int _ m)=>(0<=m/\m<n)/\Xnu z (V0 n m.toNat (Xd objs id))/\K (.ep id n z m.toNat 0 [])
 | .bs id p lo n,.d (.int _ m)=>(0<=m/\m<n)/\(∃ks,Z3 (atO objs id p)=some ks/\lo+n<=ks.length/\∀k∈ks,k.size=z)/\K (.ptr id (p++[lo+m.toNat]))
 | _,_=>False
def Xcc (objs:Xb)(len z:Nat)(K:V->Prop):V->V->Prop
 | .ptr id p,.d (.int _ n)=>(0<=n/\n<len)/\(∃ks,Z3 (atO objs id p)=some ks/\ks.length=len/\∀k∈ks,k.size=z)/\K (.ptr id (p++[n.toNat]))
 | .d (.ref (.agg xs)),.d (.int _ n)=>(0<=n/\n<len)/\xs.length=len/\(∀x∈xs,x.sz=z)/\K (.d (.ref (xs.getD n.toNat default)))
 | _,_=>False
def U2 (id:Nat)(p:List Nat)(f fo:Nat)(K:V->Prop):Option (List V)->Prop
 | some ks=>f<ks.length/\Sh.sizes ((ks.take f).map V.shape)=fo/\K (.ptr id (p++[f]))
 | none=>False
def Uu (objs:Xb)(f fo:Nat)(K:V->Prop):V->Prop
 | .ptr id p=>U2 id p f fo K (Z3 (atO objs id p))
 | .d (.ref (.agg xs))=>f<xs.length/\Raa (xs.take f)=fo/\K (.d (.ref (xs.getD f default)))
 | .ep id n z i g p=>K (.ep id n z i (g+fo) (p++[f]))
 | _=>False
def Yf2 (f fo n:Nat)(ag:Bool)(K:V->Prop):Option (List V)->Prop
 | some ks=>f<ks.length/\Sh.sizes ((ks.take f).map V.shape)=fo/\(ks.getD f .any).size=n/\(ks.getD f .any).isAgg=ag/\K (ks.getD f .any)
 | none=>False
def Xlk (n:Nat)(ag:Bool)(K:V->Prop):Option V->Prop
 | some v=>v.size=n/\v.isAgg=ag/\K v
 | none=>False
def ldK (objs:Xb)(n:Nat)(ag:Bool)(K:V->Prop):V->Prop
 | .ptr id p=>Xlk n ag K (atO objs id p)
 | .d (.ref x)=>x.sz=n/\(V.d x).isAgg=ag/\K (.d x)
 | .ep id m z i f p=>Xlk n ag K (atE objs id m z i f p)
 | _=>False
def Xwj (n:Nat)(ag:Bool)(K:V->Prop):V->Prop
 | .d (.ref x)=>x.sz=n/\(V.d x).isAgg=ag/\K (.d x)
 | _=>False
def Xce (K:V->Prop):V->Prop
 | .ptr id p=>K (.ptr id p)
 | .ep id n z i f p=>K (.ep id n z i f p)
 | .d (.ref x)=>K (.d (.ref x))
 | .fn f a b=>K (.fn f a b)
 | .d (.fn f a b)=>K (.d (.fn f a b))
 | _=>False
def Xdz (K:V->Prop):V->Prop
 | .d (.str s)=>K (.d (.int .i64 s.length))
 | _=>False
def Xad (objs:Xb)(K:V->Prop):V->Prop
 | .d (.list _ xs)=>K (.d (.int .i64 xs.length))
 | .d .nils=>K (.d (.int .i64 0))
 | .bs id _ _ n=>(∃E t,Xd objs id=some (.box E t))/\K (.d (.int .i64 n))
 | .sl id n=>((∃E z xs,Xd objs id=some (.arr E z xs)/\n=xs.length)\/∃E z xs,Xd objs id=some (.vec E z xs)/\n=xs.length)/\K (.d (.int .i64 n))
 | _=>False
def Jx (len:Nat)(K:Nat->Nat->Prop):Option V->Option V->Prop
 | none,none=>K 0 len
 | some (.d (.int _ l)),none=>(0<=l/\l<=len)/\K l.toNat len
 | none,some (.d (.int _ h))=>(0<=h/\h<=len)/\K 0 h.toNat
 | some (.d (.int _ l)),some (.d (.int _ h))=>(0<=h/\h<=len)/\(0<=l/\l<=h)/\K l.toNat h.toNat
 | _,_=>False
def Xe8 (lo hi:Option V)(K:V->Prop):V->Prop
 | .d (.str s)=>Jx s.length (fun l h=>K (.d (.str ((s.take h).drop l)))) lo hi
 | _=>False
def Xi5 (z:Nat)(lo hi:Option V)(K:V->Prop):V->Prop
 | .d (.list sz xs)=>z=sz/\Jx xs.length (fun l h=>K (.d (.list sz ((xs.take h).drop l)))) lo hi
 | _=>False
def X5k (i:Nat)(K:V->Prop):V->Prop
 | .tup xs=>i<xs.length/\K (xs.getD i .any)
 | _=>False
def Jw:List V->List (Nat×V)->(List V->Prop)->Prop
 | ks,[],K=>K ks
 | ks,(i,v)::r,K=>i<ks.length/\v.shape=(ks.getD i .any).shape/\v ≠ .any/\Jw (ks.set i v) r K
def Yam (t:Nat)(z:D)(K:V->Prop):V->Prop
 | .iface t' v=>(t'=t->K (.tup [v,.d (.bool true)]))/\(t' ≠ t->K (.tup [.d z,.d (.bool false)]))
 | .d (.iface t' x)=>(t'=t->K (.tup [.d x,.d (.bool true)]))/\(t' ≠ t->K (.tup [.d z,.d (.bool false)]))
 | .d .nili=>K (.tup [.d z,.d (.bool false)])
 | _=>False

inductive KT where
 | int (k:IntKind)
 | bool
 | str
 | st (fs:List KT)
 | ar (n:Nat) (e:KT)
mutual
def KT.cells:KT->Nat
 | .st fs=>Rbb fs
 | .ar n e=>n*e.cells
 | _=>1
def Rbb:List KT->Nat
 | []=>0
 | t::r=>t.cells+Rbb r
end
mutual
def KT.depth:KT->Nat
 | .st fs=>Rbc fs+1
 | .ar _ e=>e.depth+1
 | _=>1
def Rbc:List KT->Nat
 | []=>0
 | t::r=>max t.depth (Rbc r)
end
mutual
def KT.fits:KT->D->Bool
 | .int k,.int k' _=>decide (k=k')
 | .bool,.bool _=>true
 | .str,.str _=>true
 | .st fs,.agg xs=>Rbd fs xs
 | .ar n e,.agg xs=>decide (xs.length=n)&&Rbe e xs
 | _,_=>false
def Rbd:List KT->List D->Bool
 | [],[]=>true
 | t::r,x::s=>t.fits x&&Rbd r s
 | _,_=>false
def Rbe:KT->List D->Bool
 | _,[]=>true
 | t,x::s=>t.fits x&&Rbe t s
end
def Ynf (ty:KT)(e:Bool)(K:V->Prop):V->V->Prop
 | .d x,.d y=>ty.fits x=true/\ty.fits y=true/\K (.d (.bool (D.eqb x y==e)))
 | _,_=>False
def Xnx (len z:Nat)(ag:Bool)(K:V->Prop):V->V->Prop
 | .d (.agg xs),.d (.int _ n)=>(0<=n/\n<len)/\xs.length=len/\(∀x∈xs,x.sz=z/\x.isAgg=ag)/\K (.d (xs.getD n.toNat default))
 | _,_=>False

inductive C where
 | mv (x:A)
 | pick (c a b:A)
 | not (x:A)
 | neg (x:A)
 | cpl (x:A)
 | mx (x y:A)
 | bin (op:BinOp) (x y:A)
 | beq (e:Bool) (x y:A)
 | isnil (e:Bool) (x:A)
 | pnil (e:Bool) (x:A)
 | fnil (e:Bool) (x:A)
 | peq (e:Bool) (x y:A)
 | usd (x:A)
 | cvi (k:IntKind) (x:A)
 | cvs (x:A)
 | idx (x i:A)
 | idxA (sz:Nat) (x i:A)
 | idxP (len sz:Nat) (x i:A)
 | fldA (f fo:Nat) (x:A)
 | fld (f fo n:Nat) (ag:Bool) (x:A)
 | ld (n:Nat) (ag:Bool) (x:A)
 | nilc (x:A)
 | lenS (x:A)
 | lenL (x:A)
 | lenA (n:Nat)
 | slcS (x:A) (lo hi:Option A)
 | slcL (sz:Nat) (x:A) (lo hi:Option A)
 | ext (x:A) (i:Nat)
 | bld (z:List D) (parts:List (Nat×A))
 | mkf (f:Nat) (first cap:List A)
 | mki (t:Nat) (x:A)
 | tas (t:Nat) (z:D) (x:A)
 | eqD (ty:KT) (e:Bool) (x y:A)
 | aix (len sz:Nat) (ag:Bool) (x i:A)
  | ldd (n:Nat) (ag:Bool) (x:A)

def C.wp (sl:Xf)(objs:Xb)(K:V->Prop):C->Prop
 | .mv x=>K (x.ev sl)
 | .pick c a b=>Q2 K (c.ev sl) (a.ev sl) (b.ev sl)
 | .not x=>X3h K (x.ev sl)
 | .neg x=>Ykt K (x.ev sl)
 | .cpl x=>Yfd K (x.ev sl)
 | .mx x y=>mxK K (x.ev sl) (y.ev sl)
 | .bin op x y=>Xru op K (x.ev sl) (y.ev sl)
 | .beq e x y=>Yek e K (x.ev sl) (y.ev sl)
 | .isnil e x=>V2 e K (x.ev sl)
 | .pnil e x=>Xqc e K (x.ev sl)
 | .fnil e x=>Xnr e K (x.ev sl)
 | .peq e x y=>Yly objs e K (x.ev sl) (y.ev sl)
 | .usd x=>Ylk objs K (x.ev sl)
 | .cvi k x=>Xy6 k K (x.ev sl)
 | .cvs x=>Yfg K (x.ev sl)
 | .idx x i=>X5l K (x.ev sl) (i.ev sl)
 | .idxA z x i=>Xcb objs z K (x.ev sl) (i.ev sl)
 | .idxP n z x i=>Xcc objs n z K (x.ev sl) (i.ev sl)
 | .fldA f fo x=>Uu objs f fo K (x.ev sl)
 | .fld f fo n ag x=>Yf2 f fo n ag K (x.ev sl).kids
 | .ld n ag x=>ldK objs n ag K (x.ev sl)
 | .ldd n ag x=>Xwj n ag K (x.ev sl)
 | .nilc x=>Xce K (x.ev sl)
 | .lenS x=>Xdz K (x.ev sl)
 | .lenL x=>Xad objs K (x.ev sl)
 | .lenA n=>K (.d (.int .i64 n))
 | .slcS x lo hi=>Xe8 (lo.map (A.ev sl)) (hi.map (A.ev sl)) K (x.ev sl)
 | .slcL z x lo hi=>Xi5 z (lo.map (A.ev sl)) (hi.map (A.ev sl)) K (x.ev sl)
 | .ext x i=>X5k i K (x.ev sl)
 | .bld z parts=>Jw (z.map .d) (parts.map fun (i,x)=>(i,x.ev sl)) fun ks=>K (V.mk ks)
 | .mkf f first cap=>K (Ybu f (first.map (A.ev sl)) (cap.map (A.ev sl)))
 | .mki t x=>K (X9v t (x.ev sl))
 | .tas t z x=>Yam t z K (x.ev sl)
 | .eqD ty e x y=>Ynf ty e K (x.ev sl) (y.ev sl)
 | .aix len z ag x i=>Xnx len z ag K (x.ev sl) (i.ev sl)


def Xb9:List Operand->List A->Bool
 | [],[]=>true
 | x::r,y::s=>A.chk x y&&Xb9 r s
 | _,_=>false
def Xjl:Option Operand->Option A->Bool
 | none,none=>true
 | some x,some y=>A.chk x y
 | _,_=>false
def W0:List (Nat×Operand)->List (Nat×A)->Bool
 | [],[]=>true
 | (i,x)::r,(j,y)::s=>i==j&&A.chk x y&&W0 r s
 | _,_=>false
mutual
def Rbf:D->List Value->Bool
 | .int k n,[.int k' n']=>decide (k=k')&&n==n'
 | .bool b,[.bool b']=>b==b'
 | .str s,[.string t]=>t.data.toList==s
 | .nils,[.slice none n m]=>n==0&&m==0
 | .nili,[.nilIface]=>true
 | .nilp,[.pointer none]=>true
 | .nilf,[.nilFunc]=>true
 | .nilm,[.map none]=>true
 | .list _ [],[.slice none n m]=>n==0&&m==0
 | .agg xs,cs=>Rbg xs cs
 | _,_=>false
def Rbg:List D->List Value->Bool
 | [],[]=>true
 | x::r,cs=>Rbf x (cs.take x.sz)&&Rbg r (cs.drop x.sz)
 | _,_=>false
end
def agT (P:Program)(t:TypeId):Bool:=match P.underlying t with
 | some (.struct _) | some (.array _ _)=>true
 | _=>false
def Q8 (P:Program)(s:TypeId)(f:Nat):Option Field:=match P.underlying s with
 | some (.struct fs)=>fs[f]?
 | _=>none
def Yh (P:Program)(t:TypeId):Option Nat:=(P.info? t).map (·.size)
def Q4 (P:Program)(t:TypeId):Option (List Value):=((P.info? t).bind (·.zero)).map (·.cells.toList)

mutual
def KT.chk (P:Program):KT->TypeId->Bool
 | .int k,t=>match P.underlying t with | some (.int k')=>decide (k'=k) | _=>false
 | .bool,t=>match P.underlying t with | some .bool=>true | _=>false
 | .str,t=>match P.underlying t with | some .string=>true | _=>false
 | .st fs,t=>match P.underlying t with | some (.struct fds)=>!P.stoodInHeld t&&KT.chks P fs fds.toList 0 | _=>false
 | .ar n e,t=>match P.underlying t with | some (.array m u)=>n==m&&Yh P u==some e.cells&&e.chk P u | _=>false
def KT.chks (P:Program):List KT->List Field->Nat->Bool
 | [],[],_=>true
 | t::r,f::fs,o=>f.name != "_" &&f.offset==o&&Yh P f.type==some t.cells&&t.chk P f.type&&KT.chks P r fs (o+t.cells)
 | _,_,_=>false
end

def C.chk (P:Program)(op:Op):C->Bool
 | .mv y=>match op with
  | .move x | .assign x=>A.chk x y
  | _=>false
 | .pick c a b=>match op with
  | .pick x y z=>A.chk x c&&A.chk y a&&A.chk z b
  | _=>false
 | .not y=>match op with
  | .unOp .not _ x=>A.chk x y
  | _=>false
 | .neg y=>match op with
  | .unOp .neg _ x=>A.chk x y
  | _=>false
 | .cpl y=>match op with
  | .unOp .xor _ x=>A.chk x y
  | _=>false
 | .mx a b=>match op with
  | .call { callee:=.builtin .max,args:=args,argTypes:=_ }=>match args.toList with
   | [x,y]=>A.chk x a&&A.chk y b
   | _=>false
  | _=>false
 | .bin o a b=>match op with
  | .binOp o' _ x y _=>decide (o=o')&&A.chk x a&&A.chk y b
  | _=>false
 | .beq e a b=>match op with
  | .binOp o t x y _=>decide (o=if e then .eql else .neq)&&(P.underlying t matches some .bool)&&A.chk x a&&A.chk y b
  | _=>false
 | .isnil e a=>match op with
  | .binOp o t x y _=>decide (o=if e then .eql else .neq)&&(P.underlying t matches some (.interface _))&&A.chk x a&&(y matches .const .nilIface)
  | _=>false
 | .pnil e a=>match op with
  | .binOp o t x y _=>decide (o=if e then .eql else .neq)&&(P.underlying t matches some (.pointer _))&&A.chk x a&&(y matches .const (.pointer none))
  | _=>false
 | .fnil e a=>match op with
  | .binOp o t x y _=>decide (o=if e then .eql else .neq)&&(P.underlying t matches some (.func _ _ _))&&A.chk x a&&(y matches .const .nilFunc)
  | _=>false
 | .peq e a b=>match op with
  | .binOp o t x y _=>decide (o=if e then .eql else .neq)&&(match P.underlying t with | some (.pointer el)=>(match Yh P el with | some n=>n != 0 | none=>false) | _=>false)&&A.chk x a&&A.chk y b
  | _=>false
 | .usd y=>match op with
  | .call { callee:=.builtin .unsafeSliceData,args:=args,argTypes:=_ }=>match args.toList with
   | [x]=>A.chk x y
   | _=>false
  | _=>false
 | .cvi k y=>match op with
  | .convert s t x=>(P.underlying s).isSome&&(match P.underlying t with | some (.int k')=>decide (k=k') | _=>false)&&A.chk x y
  | _=>false
 | .cvs y=>match op with
  | .convert s t x=>(P.underlying s matches some .string)&&(P.underlying t matches some .string)&&A.chk x y
  | _=>false
 | .idx a i=>match op with
  | .index t x j=>(P.underlying t matches some .string)&&A.chk x a&&A.chk j i
  | _=>false
 | .idxA z a i=>match op with
  | .indexAddr t x j=>(match P.underlying t with | some (.slice e)=>Yh P e==some z&&z != 0 | _=>false)&&A.chk x a&&A.chk j i
  | _=>false
 | .idxP n z a i=>match op with
  | .indexAddr t x j=>(match P.underlying t with | some (.array m e)=>n==m&&Yh P e==some z | _=>false)&&A.chk x a&&A.chk j i
  | _=>false
 | .fldA f fo y=>match op with
  | .fieldAddr s x g=>f==g&&(match Q8 P s f with | some fl=>fl.offset==fo&&(match Yh P fl.type with | some n=>n != 0 | none=>false) | none=>false)&&A.chk x y
  | _=>false
 | .fld f fo n ag y=>match op with
  | .field s x g=>f==g&&(match Q8 P s f with | some fl=>fl.offset==fo&&Yh P fl.type==some n&&(P.underlying fl.type).isSome&&agT P fl.type==ag | none=>false)&&A.chk x y
  | _=>false
 | .ld n ag y=>match op with
  | .load t x=>Yh P t==some n&&(P.underlying t).isSome&&agT P t==ag&&A.chk x y
  | _=>false
 | .ldd n ag y=>match op with
  | .load t x=>Yh P t==some n&&(P.underlying t).isSome&&agT P t==ag&&A.chk x y
  | _=>false
 | .nilc y=>match op with
  | .nilCheck x=>A.chk x y
  | _=>false
 | .lenS y=>match op with
  | .call { callee:=.builtin .len,args:=args,argTypes:=ts }=>match args.toList,ts.toList with
   | [x],[t]=>(P.underlying t matches some .string)&&A.chk x y
   | _,_=>false
  | _=>false
 | .lenL y=>match op with
  | .call { callee:=.builtin .len,args:=args,argTypes:=ts }=>match args.toList,ts.toList with
   | [x],[t]=>(P.underlying t matches some (.slice _))&&A.chk x y
   | _,_=>false
  | _=>false
 | .lenA n=>match op with
  | .call { callee:=.builtin .len,args:=args,argTypes:=ts }=>match args.toList,ts.toList with
   | [_],[t]=>(match P.underlying t with | some (.array m _)=>n==m | _=>false)
   | _,_=>false
  | _=>false
 | .slcS y lo hi=>match op with
  | .slice t x l h none=>(P.underlying t matches some .string)&&A.chk x y&&Xjl l lo&&Xjl h hi
  | _=>false
 | .slcL z y lo hi=>match op with
  | .slice t x l h none=>(match P.underlying t with | some (.slice e)=>Yh P e==some z | _=>false)&&A.chk x y&&Xjl l lo&&Xjl h hi
  | _=>false
 | .ext y i=>match op with
  | .extract x j=>i==j&&A.chk x y
  | _=>false
 | .bld z parts=>match op with
  | .build t ps=>W0 ps.toList parts&&(match Q4 P t with | some cs=>Rbg z cs | none=>false)&&
   (match P.underlying t with
    | some (.struct fs)=>fs.toList.all (fun fl=>(Yh P fl.type).isSome)&&fs.toList.map (fun fl=>(fl.offset,(Yh P fl.type).getD 0))==(List.range z.length).map (fun i=>(Raa (z.take i),(z.getD i default).sz))
    | some (.array _ e)=>(match Yh P e with | some n=>z.all (fun x=>x.sz==n) | none=>false)
    | _=>false)
  | _=>false
 | .mkf f first cap=>match op with
  | .makeFunc (.func g) fs cs=>f==g&&Xb9 fs.toList first&&Xb9 cs.toList cap
  | _=>false
 | .mki t y=>match op with
  | .makeInterface u x=>t==u&&(match P.underlying t with | some (.interface _)=>false | some _=>true | none=>false)&&A.chk x y
  | _=>false
 | .tas t z y=>match op with
  | .typeAssert x _ u true=>t==u&&(match P.underlying t with | some (.interface _)=>false | some _=>true | none=>false)&&(match Q4 P t with | some cs=>Rbf z cs&&(((P.info? t).bind (·.zero)).map fun v=>match v with | .agg _=>true | _=>false)==some (V.d z).isAgg | none=>false)&&A.chk x y
  | _=>false
 | .eqD ty e a b=>match op with
  | .binOp o t x y _=>decide (o=if e then .eql else .neq)&&ty.chk P t&&decide (ty.depth<=10000)&&(match ty with | .st _ | .ar _ _=>true | _=>false)&&!P.eqGuardType P.depth t&&A.chk x a&&A.chk y b
  | _=>false
 | .aix n z ag a i=>match op with
  | .index t x j=>(match P.underlying t with | some (.array m e)=>n==m&&Yh P e==some z&&(P.underlying e).isSome&&agT P e==ag | _=>false)&&A.chk x a&&A.chk j i
  | _=>false
end Go.Ab
namespace Go.Ab
open Go

def Jv (l:Bool)(P:Program)(a:Act)(w:World)(ρ:Env)(op:Op)(K:V->Prop):Prop:=
 ∃v x,K x/\x.rep w ρ v/\∀(o:Oper),o.op=op->∀w',(l=true->Ext w w')->(execOp a.eval o).run P w'=.ok (.value v) w'
abbrev Ye:=Jv false

section
variable {P:Program} {a:Act} {w:World} {ρ:Env} {sl:Xf} {objs:Xb} {K:V->Prop}

theorem Xe {t:TypeId}{d:TypeDesc}(h:P.underlying t=some d)(w':World):(underlying t).run P w'=.ok d w':=by
 simp[underlying,h]
theorem Xu {t:TypeId}{n:Nat}(h:Yh P t=some n)(w':World):(sizeOf t).run P w'=.ok n w':=by
 unfold Yh at h;cases hi:P.info? t with
 | none=>simp[hi]at h
 | some i=>simp[hi]at h; simp[sizeOf,typeInfo,hi,h]
theorem J8 {t:TypeId}(h:(P.underlying t).isSome=true)(w':World):(isAgg t).run P w'=.ok (agT P t) w':=by
 obtain⟨d,hd⟩:=Ua3.1 h;simp only[isAgg,agT,Sem.run_bind,Xe hd,Result.andThen_ok,hd];cases d<;>simp

theorem Yag (hs:SM w ρ sl a){x:A}{op:Op}(hc:C.chk P op (.mv x)=true)(h:K (x.ev sl)):Ye P a w ρ op K:=by
 cases op<;>simp[C.chk]at hc
 all_goals exact⟨_,_,h,A.sound hs hc,fun o ho w' _=>by simp[execOp,ho]⟩

theorem Xv4 (hs:SM w ρ sl a){c x y:A}{op:Op}(hc:C.chk P op (.pick c x y)=true)(h:Q2 K (c.ev sl) (x.ev sl) (y.ev sl)):Ye P a w ρ op K:=by
 cases op<;>simp[C.chk]at hc;rename_i oc ox oy;obtain⟨⟨h1,h2⟩,h3⟩:=hc;have r1:=A.sound hs h1;have r2:=A.sound hs h2;have r3:=A.sound hs h3;generalize c.ev sl=vc at *;generalize x.ev sl=vx at *;generalize y.ev sl=vy at *;have key:∀t:Bool,vc=.d (.bool t)->(t=true->K vx)->(t=false->K vy)->Ye P a w ρ (.pick oc ox oy) K:=by
  intro t e k1 k2;subst e;rw[rep_bool]at r1;cases t with
  | true=>exact⟨_,vx,k1 rfl,r2,fun o ho w' _=>by simp[execOp,ho,r1,asBool]⟩
  | false=>exact⟨_,vy,k2 rfl,r3,fun o ho w' _=>by simp[execOp,ho,r1,asBool]⟩
 unfold Q2 at h;split at h
 ·rename_i t b1 b2;refine key t rfl (fun e=>?_) (fun e=>?_)<;>subst e<;>simpa using h
 ·exact key _ rfl h.1 h.2
 ·exact h.elim

theorem X4v (hs:SM w ρ sl a){x:A}{op:Op}(hc:C.chk P op (.not x)=true)(h:X3h K (x.ev sl)):Ye P a w ρ op K:=by
 cases op<;>simp[C.chk]at hc;rename_i u t y;cases u<;>simp at hc;have r1:=A.sound hs hc;unfold X3h at h;split at h
 ·rename_i b hb;rw[hb,rep_bool]at r1;exact⟨.bool (!b),_,h,rep_bool.2 rfl,fun o ho w' _=>by simp[execOp,ho,r1,Op.unary]⟩
 ·exact h.elim

theorem X4u (hs:SM w ρ sl a){x:A}{op:Op}(hc:C.chk P op (.neg x)=true)(h:Ykt K (x.ev sl)):Ye P a w ρ op K:=by
 cases op<;>simp[C.chk]at hc;rename_i u t y;cases u<;>simp at hc;have r1:=A.sound hs hc;unfold Ykt at h;split at h
 ·rename_i k n hb;rw[hb,X9]at r1;exact⟨_,_,h,X9.2 rfl,fun o ho w' _=>by simp[execOp,ho,r1,Op.unary,Op.intArith]⟩
 ·exact h.elim

theorem X4k (hs:SM w ρ sl a){x:A}{op:Op}(hc:C.chk P op (.cpl x)=true)(h:Yfd K (x.ev sl)):Ye P a w ρ op K:=by
 cases op<;>simp[C.chk]at hc;rename_i u t y;cases u<;>simp at hc;have r1:=A.sound hs hc;unfold Yfd at h;split at h
 ·rename_i k n hb;rw[hb,X9]at r1;exact⟨_,_,h,X9.2 rfl,fun o ho w' _=>by simp[execOp,ho,r1,Op.unary,Op.intBits,Xup]⟩
 ·exact h.elim

theorem Yah (hs:SM w ρ sl a){x y:A}{op:Op}(hc:C.chk P op (.mx x y)=true)(h:mxK K (x.ev sl) (y.ev sl)):Ye P a w ρ op K:=by
 cases op<;>simp only[C.chk,Uah]at hc;rename_i c;obtain⟨ca,args,ts⟩:=c;cases ca<;>(try simp only[Uah]at hc);rename_i b;cases b<;>(try simp only[Uah]at hc);split at hc
 ·rename_i u v e1;simp only[Uai]at hc;have r1:=A.sound hs hc.1;have r2:=A.sound hs hc.2;have ea:args=#[u,v]:=by simpa using Ua4 List.toArray e1
  subst ea;generalize x.ev sl=vx at *;generalize y.ev sl=vy at *;unfold mxK at h;split at h
  ·rename_i k n k' m;rw[X9]at r1 r2;exact⟨_,_,h,X9.2 rfl,fun o ho w' _=>by simp[execOp,ho,resolve,invoke,builtin,Builtin.max_,Builtin.max2,r1,r2]⟩
  ·exact h.elim
 ·simp at hc

theorem Ue (op:BinOp)(t:TypeId)(x y:Operand)(k:IntKind)(n:Int)(v:Value)(w':World):(eqGuard op t x y (.int k n) v).run P w'=.ok () w':=by
 cases op<;>simp[eqGuard]
theorem Q7 (op:BinOp)(t:TypeId)(x y:Operand)(s:ByteArray)(v:Value)(w':World):(eqGuard op t x y (.string s) v).run P w'=.ok () w':=by
 cases op<;>simp[eqGuard]
theorem Xko (op:BinOp)(t:TypeId)(x y:Operand)(b:Bool)(v:Value)(w':World):(eqGuard op t x y (.bool b) v).run P w'=.ok () w':=by
 cases op<;>simp[eqGuard]
theorem J1 (op:BinOp)(t:TypeId)(x y:Operand)(u:TypeId)(b v:Value)(w':World):(eqGuard op t x y (.iface u b) v).run P w'=.ok () w':=by
 cases op<;>simp[eqGuard]

theorem Xrv (s:List UInt8):(ByteArray.mk s.toArray).size=s.length:=by
 show s.toArray.size=_; simp

theorem Xmn (l:List UInt8):ByteArray.toList ⟨l.toArray⟩=l:=by
 simp[ByteArray.toList_eq]

theorem X4i (hs:SM w ρ sl a){op':BinOp}{x y:A}{op:Op}(hc:C.chk P op (.bin op' x y)=true)(h:Xru op' K (x.ev sl) (y.ev sl)):Ye P a w ρ op K:=by
 cases op<;>simp[C.chk]at hc;rename_i o1 t x1 y1 t2;obtain⟨⟨rfl,h1⟩,h2⟩:=hc;have r1:=A.sound hs h1;have r2:=A.sound hs h2;generalize x.ev sl=vx at *;generalize y.ev sl=vy at *;unfold Xru at h;split at h
 ·rename_i k n k' m;rw[X9]at r1 r2;cases op'<;>simp only[Xmz]at h
  all_goals first
   | (obtain⟨rfl,h⟩:=h; first
     | exact⟨_,_,h,X9.2 rfl,fun o ho w' _=>by simp[execOp,ho,r1,r2,Ue,binOp,Op.intArith,Op.intBits,Xup]⟩
     | exact⟨_,_,h,rep_bool.2 rfl,fun o ho w' _=>by simp[execOp,ho,r1,r2,Ue,binOp,Op.intCmp]⟩
     | (obtain⟨hm,h⟩:=h; exact⟨_,_,h,X9.2 rfl,fun o ho w' _=>by simp[execOp,ho,r1,r2,Ue,binOp,Op.intDiv,hm]⟩))
   | (obtain⟨hm,h⟩:=h; exact⟨_,_,h,X9.2 rfl,fun o ho w' _=>by simp[execOp,ho,r1,r2,Ue,binOp,Op.shift,show ¬m<0 by omega]⟩)
 ·rename_i s1 s2;rw[Vf]at r1 r2;cases op'<;>simp only[Xwl]at h
  all_goals first
   | exact⟨_,_,h,rep_bool.2 rfl,fun o ho w' _=>by simp[execOp,ho,r1,r2,Q7,binOp,Op.stringOp,bne]⟩
   | (exact h.elim; done)
   | skip
  obtain⟨hm,h⟩:=h;refine⟨_,_,h,Vf.2 rfl,fun o ho w' _=>?_⟩;simp only[execOp,ho,r1,r2,Q7,binOp,Sem.run_bind,Result.andThen_ok];rw[run_string_add_sum _ _ _ (by simpa[ByteArray.size]using hm)];simp[ByteArray.mk_append_mk]
 ·exact h.elim

theorem Xu0 {t:TypeId}(ht:P.underlying t=some .bool)(x y:Bool)(w':World):(Op.equal t (.bool x) (.bool y)).run P w'=.ok (x==y) w':=by
 have:∀d,(Op.equalIn (d+1) t (.bool x) (.bool y)).run P w'=.ok (x==y) w':=fun d=>by simp[Op.equalIn,Xe ht]
 exact this 9999
theorem X8u {t:TypeId}{ms:Array (String×TypeId)}(ht:P.underlying t=some (.interface ms))(w':World):(Op.equal t .nilIface .nilIface).run P w'=.ok true w':=by
 have:∀d,(Op.equalIn (d+1) t .nilIface .nilIface).run P w'=.ok true w':=fun d=>by simp[Op.equalIn,Xe ht]
 exact this 9999
theorem Xsp {t:TypeId}{ms:Array (String×TypeId)}(ht:P.underlying t=some (.interface ms))(u:TypeId)(c:Value)(w':World):(Op.equal t (.iface u c) .nilIface).run P w'=.ok false w':=by
 have:∀d,(Op.equalIn (d+1) t (.iface u c) .nilIface).run P w'=.ok false w':=fun d=>by simp[Op.equalIn,Xe ht]
 exact this 9999
theorem Xnm (op:BinOp)(t:TypeId)(x:Operand)(c:Value)(w':World):(eqGuard op t x (.const c) .nilIface .nilIface).run P w'=.ok () w':=by
 cases op<;>simp[eqGuard]

theorem X4h (hs:SM w ρ sl a){e:Bool}{x y:A}{op:Op}(hc:C.chk P op (.beq e x y)=true)(h:Yek e K (x.ev sl) (y.ev sl)):Ye P a w ρ op K:=by
 cases op<;>simp[C.chk]at hc;rename_i o1 t x1 y1 t2;obtain⟨⟨⟨h0,h3⟩,h1⟩,h2⟩:=hc;have r1:=A.sound hs h1;have r2:=A.sound hs h2;have ht:P.underlying t=some .bool:=by revert h3; split<;>simp_all
 unfold Yek at h;split at h
 ·rename_i b1 b2 e1 e2;rw[e1,rep_bool]at r1;rw[e2,rep_bool]at r2;refine⟨_,_,h,rep_bool.2 rfl,fun o ho w' _=>?_⟩;subst h0;cases e<;>simp[execOp,ho,r1,r2,Xko,binOp,Xu0 ht]
 ·exact h.elim

theorem Xql (hs:SM w ρ sl a){e:Bool}{x:A}{op:Op}(hc:C.chk P op (.isnil e x)=true)(h:V2 e K (x.ev sl)):Ye P a w ρ op K:=by
 cases op<;>simp[C.chk]at hc;rename_i o1 t x1 y1 t2;obtain⟨⟨⟨h0,h3⟩,h1⟩,h2⟩:=hc;have r1:=A.sound hs h1;obtain⟨ms,ht⟩:∃ms,P.underlying t=some (.interface ms):=by revert h3; split<;>simp_all
 have hy:y1=.const .nilIface:=by revert h2; split<;>simp_all
 subst hy;have hk:a.eval (.const .nilIface)=.nilIface:=rfl;unfold V2 at h;split at h
 ·rename_i e1;rw[e1,Xc0]at r1;refine⟨_,_,h,rep_bool.2 rfl,fun o ho w' _=>?_⟩;subst h0;cases e<;>simp[execOp,ho,r1,hk,Xnm,binOp,X8u ht]
 ·rename_i u v e1;rw[e1]at r1;rw[Wj (by simp[V.isAgg]) (by simp)]at r1;simp only[V.repC,Ua1,Ua2]at r1;obtain⟨c,r1,_⟩:=r1;refine⟨_,_,h,rep_bool.2 rfl,fun o ho w' _=>?_⟩;subst h0;cases e<;>simp[execOp,ho,r1,hk,J1,binOp,Xsp ht]
 ·rename_i u v e1;rw[e1,Xap]at r1;obtain⟨c,r1,_⟩:=r1;refine⟨_,_,h,rep_bool.2 rfl,fun o ho w' _=>?_⟩;subst h0;cases e<;>simp[execOp,ho,r1,hk,J1,binOp,Xsp ht]
 ·exact h.elim

theorem X8v {t e:TypeId}(ht:P.underlying t=some (.pointer e))(x:Option Addr)(w':World):(Op.equal t (.pointer x) (.pointer none)).run P w'=.ok x.isNone w':=by
 have:∀d,(Op.equalIn (d+1) t (.pointer x) (.pointer none)).run P w'=.ok x.isNone w':=fun d=>by cases x<;>simp[Op.equalIn,Xe ht]
 exact this 9999
theorem Xdp (op:BinOp)(t:TypeId)(x y:Operand)(b:Option Addr)(v:Value)(w':World):(eqGuard op t x y (.pointer b) v).run P w'=.ok () w':=by
 cases op<;>simp[eqGuard]
theorem X8s {t:TypeId}{ps rs:Array TypeId}{vr:Bool}(ht:P.underlying t=some (.func ps rs vr))(w':World):(Op.equal t .nilFunc .nilFunc).run P w'=.ok true w':=by
 have:∀d,(Op.equalIn (d+1) t .nilFunc .nilFunc).run P w'=.ok true w':=fun d=>by simp[Op.equalIn,Xe ht]
 exact this 9999
theorem Xso {t:TypeId}{ps rs:Array TypeId}{vr:Bool}(ht:P.underlying t=some (.func ps rs vr))(f:Go.Fn)(a b:Array Value)(w':World):(Op.equal t (.func f a b) .nilFunc).run P w'=.ok false w':=by
 have:∀d,(Op.equalIn (d+1) t (.func f a b) .nilFunc).run P w'=.ok false w':=fun d=>by simp[Op.equalIn,Xe ht]
 exact this 9999
theorem Xuy (op:BinOp)(t:TypeId)(x y:Operand)(v:Value)(w':World):(eqGuard op t x y .nilFunc v).run P w'=.ok () w':=by
 cases op<;>simp[eqGuard]
theorem Xfr (op:BinOp)(t:TypeId)(x y:Operand)(f:Go.Fn)(c d:Array Value)(v:Value)(w':World):(eqGuard op t x y (.func f c d) v).run P w'=.ok () w':=by
 cases op<;>simp[eqGuard]

theorem Xv5 (hs:SM w ρ sl a){e:Bool}{x:A}{op:Op}(hc:C.chk P op (.pnil e x)=true)(h:Xqc e K (x.ev sl)):Ye P a w ρ op K:=by
 cases op<;>simp[C.chk]at hc;rename_i o1 t x1 y1 t2;obtain⟨⟨⟨h0,h3⟩,h1⟩,h2⟩:=hc;have r1:=A.sound hs h1;obtain⟨el,ht⟩:∃el,P.underlying t=some (.pointer el):=by revert h3; split<;>simp_all
 have hy:y1=.const (.pointer none):=by revert h2; split<;>simp_all
 subst hy;have hk:a.eval (.const (.pointer none))=.pointer none:=rfl;have key:∀(q:Option Addr) (b:Bool),a.eval x1=.pointer q->q.isNone=b->K (.d (.bool (b==e)))->Ye P a w ρ (.binOp o1 t x1 (.const (.pointer none)) t2) K:=by
  intro q b hq hb hK;refine⟨_,_,hK,rep_bool.2 rfl,fun o ho w' _=>?_⟩;subst h0 hb;cases e<;>cases q<;>simp[execOp,ho,hq,hk,Xdp,binOp,X8v ht]
 unfold Xqc at h;split at h
 ·rename_i e1;rw[e1,Xi2]at r1;exact key none true r1 rfl (by cases e<;>exact h)
 ·rename_i y e1;rw[e1,Qc]at r1;obtain⟨ad,vs,r1,_⟩:=r1;exact key _ false r1 rfl (by cases e<;>exact h)
 ·rename_i id p e1;rw[e1]at r1;obtain⟨ad,r1⟩:=Qd r1;exact key _ false r1 rfl (by cases e<;>exact h)
 ·exact h.elim

theorem Xvw (hs:SM w ρ sl a){e:Bool}{x:A}{op:Op}(hc:C.chk P op (.fnil e x)=true)(h:Xnr e K (x.ev sl)):Ye P a w ρ op K:=by
 cases op<;>simp[C.chk]at hc;rename_i o1 t x1 y1 t2;obtain⟨⟨⟨h0,h3⟩,h1⟩,h2⟩:=hc;have r1:=A.sound hs h1;obtain⟨ps,rs,vr,ht⟩:∃ps rs vr,P.underlying t=some (.func ps rs vr):=by revert h3; split<;>simp_all
 have hy:y1=.const .nilFunc:=by revert h2; split<;>simp_all
 subst hy;have hk:a.eval (.const .nilFunc)=.nilFunc:=rfl;unfold Xnr at h;split at h
 ·rename_i e1;rw[e1,Xt0]at r1;refine⟨_,_,h,rep_bool.2 rfl,fun o ho w' _=>?_⟩;subst h0;cases e<;>simp[execOp,ho,r1,hk,Xuy,binOp,X8s ht]
 ·rename_i f fi ca e1;rw[e1,Xeh]at r1;obtain⟨fs,gs,r1,_⟩:=r1;refine⟨_,_,h,rep_bool.2 rfl,fun o ho w' _=>?_⟩;subst h0;cases e<;>simp[execOp,ho,r1,hk,Xfr,binOp,Xso ht]
 ·rename_i f fi ca e1;rw[e1,Xb5]at r1;obtain⟨fs,gs,r1,_⟩:=r1;refine⟨_,_,h,rep_bool.2 rfl,fun o ho w' _=>?_⟩;subst h0;cases e<;>simp[execOp,ho,r1,hk,Xfr,binOp,Xso ht]
 ·exact h.elim

theorem X4l (hs:SM w ρ sl a){k:IntKind}{x:A}{op:Op}(hc:C.chk P op (.cvi k x)=true)(h:Xy6 k K (x.ev sl)):Ye P a w ρ op K:=by
 cases op<;>simp[C.chk]at hc;rename_i s t x1;obtain⟨⟨h0,h3⟩,h1⟩:=hc;have r1:=A.sound hs h1;obtain⟨d,hd⟩:=Ua3.1 h0;have ht:P.underlying t=some (.int k):=by revert h3; split<;>simp_all
 unfold Xy6 at h;split at h
 ·rename_i k' n e1;rw[e1,X9]at r1;refine⟨_,_,h,X9.2 rfl,fun o ho w' _=>?_⟩;simp[execOp,ho,r1,convert,Xe ht,Xe hd,Conv.intToInt]
 ·exact h.elim

theorem X4m (hs:SM w ρ sl a){x:A}{op:Op}(hc:C.chk P op (.cvs x)=true)(h:Yfg K (x.ev sl)):Ye P a w ρ op K:=by
 cases op<;>simp[C.chk]at hc;rename_i s t x1;obtain⟨⟨h0,h3⟩,h1⟩:=hc;have r1:=A.sound hs h1;have hd:P.underlying s=some .string:=by revert h0; split<;>simp_all
 have ht:P.underlying t=some .string:=by revert h3; split<;>simp_all
 unfold Yfg at h;split at h
 ·rename_i l e1;rw[e1,Vf]at r1;refine⟨_,_,h,Vf.2 rfl,fun o ho w' _=>?_⟩;simp[execOp,ho,r1,convert,Xe ht,Xe hd]
 ·exact h.elim

theorem X4q (hs:SM w ρ sl a){x y:A}{op:Op}(hc:C.chk P op (.idx x y)=true)(h:X5l K (x.ev sl) (y.ev sl)):Ye P a w ρ op K:=by
 cases op<;>simp[C.chk]at hc;rename_i t x1 y1;obtain⟨⟨h0,h1⟩,h2⟩:=hc;have r1:=A.sound hs h1;have r2:=A.sound hs h2;have ht:P.underlying t=some .string:=by revert h0; split<;>simp_all
 unfold X5l at h;split at h
 ·rename_i s k n e1 e2;rw[e1,Vf]at r1;rw[e2,X9]at r2;obtain⟨⟨hn0,hn⟩,h⟩:=h;refine⟨_,_,h,X9.2 rfl,fun o ho w' _=>?_⟩;have hlt:n.toNat<s.length:=by omega
  have hb:(ByteArray.mk s.toArray)[n.toNat]? = some s[n.toNat]:=by
   rw[getElem?_pos _ _ (by simpa[ByteArray.size]using hlt)];simp[ByteArray.getElem_eq_getElem_data]
  simp[execOp,ho,r1,r2,Instr.index,asIntOf,Xe ht,hn0,hb,hlt]
 ·exact h.elim

theorem Yfn (hO:OM w ρ objs){id n i:Nat}{v:V}(h:V0 n i (Xd objs id)=some v) :
  ∃b cap E sz vs cs sp,ρ.m id=some (.arr b n cap)/\w.heap[b]? = some (.cells (List.toArray (cs++sp)) E (0,0))/\Rap w ρ vs cs/\(∀x∈vs,x.size=sz)/\(cs++sp).length=cap*sz/\n=vs.length/\vs[i]? = some v:=by
 unfold V0 at h;split at h
 ·rename_i E sz xs hl;split at h
  ·rename_i hn;rcases hO.one id _ hl with⟨_,rfl⟩ | ⟨b,cap,cs,sp,h1,h2,h3,h4,h5⟩
   ·simp at h
   ·exact⟨b,cap,E,sz,xs,cs,sp,by rw[hn]; exact h1,h2,h3,h4,h5,hn,h⟩
  ·cases h
 ·rename_i E sz xs hl;split at h
  ·rename_i hn;rcases hO.one id _ hl with⟨_,rfl⟩ | ⟨b,cap,cs,sp,h1,h2,h3,h4,h5⟩
   ·simp at h
   ·refine⟨b,cap,E,sz,xs.map .d,cs,sp,by rw[hn]; exact h1,h2,(Ray _ _).2 h3,?_,h5,by simpa using hn,h⟩;intro x hx;obtain⟨y,hy,rfl⟩:=Ua5.1 hx;simp[V.size,V.shape,Ran,h4 y hy]
  ·cases h
 ·cases h
theorem Yf {z:Nat}:∀(ks:List V),(∀k∈ks,k.size=z)->Sh.sizes (ks.map V.shape)=ks.length*z
 | [],_=>by simp[Sh.sizes]
 | x::r,h=>by
  have h1:=h x (by simp);have h2:=Yf r (fun y hy=>h y (by simp[hy]));unfold V.size at h1;simp[Sh.sizes,h1,h2,Uac]; omega
theorem Xfp (hO:OM w ρ objs){id n i:Nat}{v:V}(h:V0 n i (Xd objs id)=some v) :
  ∃b cap E c1 c2 c3,ρ.m id=some (.arr b n cap)/\w.heap[b]? = some (.cells (List.toArray (c1++(c2++c3))) E (0,0))/\c1.length=i*v.size/\v.repC w ρ c2:=by
 obtain⟨b,cap,E,sz,vs,cs,sp,h1,h2,h3,h4,h5,h6,h7⟩:=Yfn hO h;obtain⟨c1,c2,c3,e1,e2,_,g2,_⟩:=Ra4 h3 h7;have hv:v.size=sz:=h4 v (List.mem_of_getElem? h7);have hlt:i<vs.length:=(Uan.1 h7).1;refine⟨b,cap,E,c1,c2,c3++sp,h1,by rw[h2,e1]; simp,?_,g2⟩;rw[e2,<-Uap,Yf (z:=sz) _ (fun x hx=>h4 x (Ua6 hx)),Ua7,Ua8 (by omega),hv]
theorem off_nil (sh:Sh):sh.off []=0:=by cases sh<;>simp[Sh.off]
theorem Xei {id n z i f:Nat}{p:List Nat}{u:Value}(h:(V.ep id n z i f p).rep w ρ u):∃a,u=.pointer (some a):=by
 rw[Xmf]at h;obtain⟨o,_,h⟩:=h;cases o with
 | arr b l c=>exact h.2.1
 | gone=>exact h
 | box b s=>exact h.elim
 | map b=>exact h.elim
 | virt=>exact h.elim
theorem X8r {id n z i g fo:Nat}{p q:List Nat}{ad:Addr}(h:(V.ep id n z i g p).rep w ρ (.pointer (some ad))) :
  (V.ep id n z i (g+fo) q).rep w ρ (.pointer (some (ad.add fo))):=by
 rw[Xmf]at h⊢;obtain⟨o,h1,h⟩:=h;refine⟨o,h1,?_⟩;cases o with
 | arr b' l c=>
  simp only[RO.elem]at h⊢;refine⟨h.1,⟨_,rfl⟩,fun hn=>?_⟩;have:=h.2.2 hn;simp only[Value.pointer.injEq,Uaq]at this⊢;subst this;rw[Ram rfl];simp only[Addr.mk.injEq,Ua2,true_and];omega
 | gone=>exact⟨_,rfl⟩
 | box b s=>exact h.elim
 | map b=>exact h.elim
 | virt=>exact h.elim
theorem Xdh (ho:OM w ρ objs){id:Nat}{p:List Nat}{v:V}(h:atO objs id p=some v) :
  ∃t b cs E,Xd objs id=some (.box E t)/\t.at p=some v/\ρ.m id=some (.box b t.shape)/\w.heap[b]? = some (.cells (List.toArray cs) E (0,0))/\t.repC w ρ cs:=by
 unfold atO at h;split at h
 ·rename_i E t hl;obtain⟨b,cs,h1,h2,h3⟩:=ho.one id _ hl;exact⟨t,b,cs,E,hl,h,h1,h2,h3⟩
 ·simp at h

theorem Rbh (s:Sh):∀(p:List Nat) (t:V) (v:V) (i:Nat),t.shape=s->t.at p=some v->s.off (p++[i])=s.off p+v.shape.off [i]
 | [],t,v,i,e,h=>by
  simp only[V.at,Uaq]at h; subst h; subst e;have:t.shape.off []=0:=by cases t.shape<;>simp[Sh.off]
  simp[this]
 | j::p,t,v,i,e,h=>by
  simp only[V.at]at h;split at h
  ·rename_i ks hk;split at h
   ·rename_i k hj;subst e;rw[Rax hk];have hg:(List.map V.shape ks).getD j .leaf=k.shape:=by simp[hj]
    simp only[List.cons_append,Sh.off,hg];rw[Rbh _ p k v i rfl h];omega
   ·simp at h
  ·simp at h

theorem Xp9 {v:V}{ks:List V}(hk:v.kids=some ks)(i:Nat):v.shape.off [i]=Sh.sizes ((ks.take i).map V.shape):=by
 rw[Rax hk];simp only[Sh.off,Uap];cases (List.map V.shape ks).getD i .leaf<;>simp[Sh.off]



theorem Xvx (hs:SM w ρ sl a)(hO:OM w ρ objs){z:Nat}{x y:A}{op:Op}(hc:C.chk P op (.idxA z x y)=true)(h:Xcb objs z K (x.ev sl) (y.ev sl)):Ye P a w ρ op K:=by
 cases op<;>simp[C.chk]at hc;rename_i t x1 y1;obtain⟨⟨h0,h1⟩,h2⟩:=hc;have r1:=A.sound hs h1;have r2:=A.sound hs h2;obtain⟨e,ht,he,hz0⟩:∃e,P.underlying t=some (.slice e)/\Yh P e=some z/\z ≠ 0:=by
  revert h0; split<;>simp_all
 unfold Xcb at h;split at h
 ·rename_i sz xs k n e1 e2;rw[e1,Zn]at r1;rw[e2,X9]at r2;obtain⟨rfl,⟨hn0,hn⟩,h⟩:=h;have hlt:n.toNat<xs.length:=by omega
  rcases r1 with⟨hx,_⟩ | ⟨ad,cap,vs,r1,_,hce,hre,hu⟩
  ·subst hx; simp at hlt
  ·have hsp:ad.spot=none:=by
    refine (hce.1 fun hv=>?_).1;have:=Rah _ _ hre;rw[hv,Raj _ hu]at this;simp only[List.length_nil]at this;have h5:0<xs.length*z:=Nat.mul_pos (by omega) (Ua9 hz0);omega
   refine⟨_,_,h,Qc.2 ⟨⟨ad.block,ad.off+n.toNat*z,none⟩,_,rfl,rfl,hce.sub (n.toNat*z) z,?_⟩,fun o ho w' _=>?_⟩
   ·have h3:=Ral hre hlt;have h4:Raa (xs.take n.toNat)=n.toNat*z:=by
     rw[Raj (sz:=z) _ (fun x hx=>hu x (Ua6 hx))];rw[Ua7,Ua8 (by omega)]
    rw[h4,hu _ (Uba hlt)]at h3;simpa[hlt]using h3
   ·simp[execOp,ho,r1,r2,Instr.indexAt,asIntOf,Xe ht,hn0,hn,Xu he,Ram hsp]
 ·rename_i id n k m e1 e2;rw[e1,Yl]at r1;rw[e2,X9]at r2;obtain⟨⟨hn0,hn⟩,h⟩:=h;cases he1:V0 n m.toNat (Xd objs id) with
  | none=>simp only[he1,Xnu,false_and]at h
  | some v=>
   simp only[he1,Xnu]at h;obtain⟨hz,h⟩:=h;obtain⟨b,cap,E,c1,c2,c3,g1,g2,g3,g4⟩:=Xfp hO he1;obtain⟨o,q1,q2⟩:=r1;rw[g1]at q1;simp only[Uaq]at q1;subst q1;have r1:=q2.2.2 rfl;refine⟨.pointer (some ⟨b,m.toNat*z,none⟩),_,h,Xmf.2 ⟨_,g1,?_⟩,fun o ho w' _=>?_⟩
   ·refine⟨Uak _,⟨_,rfl⟩,fun _=>?_⟩;rfl
   ·simp[execOp,ho,r1,r2,Instr.indexAt,asIntOf,Xe ht,hn0,hn,Xu he,Ram]
 ·rename_i id p lo n k m e1 e2;rw[e1,Ydh]at r1;rw[e2,X9]at r2;obtain⟨⟨hn0,hn⟩,⟨ks,hk,hl,hz⟩,h⟩:=h;cases hat:atO objs id p with
  | none=>simp[hat,Z3]at hk
  | some v=>
   simp only[hat,Z3]at hk;obtain⟨t0,b',cs,E,g1,g2,g3,g4,g5⟩:=Xdh hO hat;rcases r1 with⟨b,sh,cap,f,hρ,⟨hcap,hof⟩,r1⟩ | ⟨hg,_⟩
   ·have hof:=hof (by omega);subst hof;rw[hρ]at g3;simp only[Uaq,RO.box.injEq]at g3;obtain⟨rfl,rfl⟩:=g3;refine⟨_,_,h,Qq hρ,fun o ho w' _=>?_⟩;have h3:∀i,i<=ks.length->t0.shape.off (p++[i])=t0.shape.off p+i*z:=fun i hi=>by
     rw[Rbh _ p t0 v i rfl g2,Xp9 hk,Yf (z:=z) _ (fun x hx=>hz x (Ua6 hx)),Ua7,Ua8 hi]
    have h4:=h3 lo (by omega);have h5:=h3 (lo+m.toNat) (by omega);simp[execOp,ho,r1,r2,Instr.indexAt,asIntOf,Xe ht,hn0,hn,Xu he,Ram,h4,h5,Uac,Uag]
   ·rw[g3]at hg; cases hg
 ·exact h.elim

theorem X4w (hs:SM w ρ sl a)(hO:OM w ρ objs){e:Bool}{x y:A}{op:Op}(hc:C.chk P op (.peq e x y)=true)(h:Yly objs e K (x.ev sl) (y.ev sl)):Ye P a w ρ op K:=by
 cases op<;>simp[C.chk]at hc;rename_i o1 t x1 y1 t2;obtain⟨⟨⟨h0,h3⟩,h1⟩,h2⟩:=hc;have r1:=A.sound hs h1;have r2:=A.sound hs h2;obtain⟨el,n,ht,hn,hn0⟩:∃el n,P.underlying t=some (.pointer el)/\Yh P el=some n/\n ≠ 0:=by
  split at h3
  ·rename_i el he;split at h3
   ·rename_i n hn; exact⟨el,n,he,hn,by simpa using h3⟩
   ·simp at h3
  ·simp at h3
 unfold Yly at h;split at h
 ·rename_i i p j q e1 e2;obtain⟨rfl,rfl,⟨v,hv⟩,h⟩:=h;obtain⟨t0,b',cs,E,g1,_⟩:=Xdh hO hv;rw[e1]at r1;rw[e2]at r2;obtain⟨b,sh,hρ,r1⟩:=Zb hO g1 r1;obtain⟨b2,sh2,hρ2,r2⟩:=Zb hO g1 r2;rw[hρ]at hρ2;cases hρ2;refine⟨_,_,h,rep_bool.2 rfl,fun o ho w' _=>?_⟩;have heq:(Op.equal t (.pointer (some ⟨b,sh.off p,none⟩)) (.pointer (some ⟨b,sh.off p,none⟩))).run P w'=.ok true w':=by
   have:∀d,(Op.equalIn (d+1) t (.pointer (some ⟨b,sh.off p,none⟩)) (.pointer (some ⟨b,sh.off p,none⟩))).run P w'=.ok true w':=fun d=>by
    simp[Op.equalIn,Xe ht,Xu hn,sameAddr]
   exact this 9999
  subst h0;cases e<;>simp[execOp,ho,r1,r2,Xdp,binOp,heq]
 ·exact h.elim

theorem Xvy (hs:SM w ρ sl a)(ho:OM w ρ objs){n z:Nat}{x y:A}{op:Op}(hc:C.chk P op (.idxP n z x y)=true)(h:Xcc objs n z K (x.ev sl) (y.ev sl)):Ye P a w ρ op K:=by
 cases op<;>simp[C.chk]at hc;rename_i t x1 y1;obtain⟨⟨h0,h1⟩,h2⟩:=hc;have r1:=A.sound hs h1;have r2:=A.sound hs h2;obtain⟨e,ht,he⟩:∃e,P.underlying t=some (.array n e)/\Yh P e=some z:=by
  revert h0; split<;>simp_all
 unfold Xcc at h;split at h
 ·rename_i id p k m e1 e2;rw[e1]at r1;rw[e2,X9]at r2;obtain⟨⟨hn0,hn⟩,⟨ks,hk,hl,hu⟩,h⟩:=h;cases hat:atO objs id p with
  | none=>simp[hat,Z3]at hk
  | some v=>
   simp only[hat,Z3]at hk;obtain⟨t0,b',cs,E,g1,g2,g3,g4,g5⟩:=Xdh ho hat;obtain⟨b,sh,hρ,r1⟩:=Zb ho g1 r1;rw[hρ]at g3;simp only[Uaq,RO.box.injEq]at g3;obtain⟨rfl,rfl⟩:=g3;refine⟨_,_,h,Qq hρ,fun o ho w' _=>?_⟩;have h3:t0.shape.off (p++[m.toNat])=t0.shape.off p+m.toNat*z:=by
    rw[Rbh _ p t0 v m.toNat rfl g2,Xp9 hk,Yf (z:=z) _ (fun k hk'=>hu k (Ua6 hk')),Ua7,Ua8 (by omega)]
   simp[execOp,ho,r1,r2,Instr.indexAt,asIntOf,Xe ht,hn0,hn,Xu he,Instr.sureAddr,Ram,h3]
 ·rename_i xs k m e1 e2;rw[e1,Qc]at r1;rw[e2,X9]at r2;obtain⟨⟨hn0,hn⟩,hl,hu,h⟩:=h;obtain⟨ad,vs,r1,hsp,hce,hre⟩:=r1;simp only[D.rep]at hre;have hlt:m.toNat<xs.length:=by omega
  refine⟨_,_,h,Qc.2 ⟨⟨ad.block,ad.off+m.toNat*z,none⟩,_,rfl,rfl,hce.sub (m.toNat*z) z,?_⟩,fun o ho w' _=>?_⟩
  ·have h3:=Ral hre hlt;have h4:Raa (xs.take m.toNat)=m.toNat*z:=by
    rw[Raj (sz:=z) _ (fun x hx=>hu x (Ua6 hx)),Ua7,Ua8 (by omega)]
   rw[h4,hu _ (Uba hlt)]at h3;simpa[hlt]using h3
  ·simp[execOp,ho,r1,r2,Instr.indexAt,asIntOf,Xe ht,hn0,hn,Xu he,Instr.sureAddr,Ram hsp]
 ·exact h.elim

theorem Xgf (hs:SM w ρ sl a)(ho:OM w ρ objs){f fo:Nat}{x:A}{op:Op}(hc:C.chk P op (.fldA f fo x)=true)(h:Uu objs f fo K (x.ev sl)):Ye P a w ρ op K:=by
 cases op<;>simp[C.chk]at hc;rename_i t x1 g;obtain⟨⟨rfl,h0⟩,h1⟩:=hc;have r1:=A.sound hs h1;obtain⟨fl,n,hf,hof,hn,hn0⟩:∃fl n,Q8 P t f=some fl/\fl.offset=fo/\Yh P fl.type=some n/\n ≠ 0:=by
  cases h2:Q8 P t f with
  | none=>simp[h2]at h0
  | some fl=>
   cases h3:Yh P fl.type with
   | none=>simp[h2,h3]at h0
   | some n=>simp[h2,h3]at h0; exact⟨fl,n,rfl,h0.1,h3,h0.2⟩
 obtain⟨fs,hst,hfi⟩:∃fs,P.underlying t=some (.struct fs)/\fs[f]? = some fl:=by
  unfold Q8 at hf; revert hf; split<;>simp_all
 unfold Uu at h;split at h
 ·rename_i id p e1;rw[e1]at r1;cases hat:atO objs id p with
  | none=>simp[hat,Z3,U2]at h
  | some v=>
   cases hk:v.kids with
   | none=>simp[hat,Z3,U2,hk]at h
   | some ks=>
    simp only[hat,Z3,U2,hk]at h;obtain⟨hl,hsz,h⟩:=h;obtain⟨t0,b',cs,E,g1,g2,g3,g4,g5⟩:=Xdh ho hat;obtain⟨b,sh,hρ,r1⟩:=Zb ho g1 r1;rw[hρ]at g3;simp only[Uaq,RO.box.injEq]at g3;obtain⟨rfl,rfl⟩:=g3;refine⟨_,_,h,Qq hρ,fun o ho w' _=>?_⟩;have h3:t0.shape.off (p++[f])=t0.shape.off p+fl.offset:=by
     rw[Rbh _ p t0 v f rfl g2,Xp9 hk,hsz,hof]
    simp[execOp,ho,r1,Instr.fieldAt,Xe hst,hfi,Instr.sureAddr,fieldPlace,Xu hn,hn0,Ram,h3]
 ·rename_i xs e1;rw[e1,Qc]at r1;obtain⟨ad,vs,r1,hsp,hce,hre⟩:=r1;obtain⟨hl,hsz,h⟩:=h;simp only[D.rep]at hre;refine⟨_,_,h,Qc.2 ⟨⟨ad.block,ad.off+fo,none⟩,_,rfl,rfl,hce.sub fo xs[f].sz,?_⟩,fun o ho w' _=>?_⟩
  ·have h3:=Ral hre hl;rw[hsz]at h3;simpa[hl]using h3
  ·simp[execOp,ho,r1,Instr.fieldAt,Xe hst,hfi,Instr.sureAddr,fieldPlace,Xu hn,hn0,Ram hsp,hof]
 ·rename_i id m z i g p e1;rw[e1]at r1;obtain⟨ad,r2⟩:=Xei r1;rw[r2]at r1;refine⟨_,_,h,X8r r1,fun o ho w' _=>?_⟩;simp[execOp,ho,r2,Instr.fieldAt,Xe hst,hfi,Instr.sureAddr,fieldPlace,Xu hn,hn0,hof]
 ·exact h.elim

theorem Xv3 (hs:SM w ρ sl a){x:A}{op:Op}(hc:C.chk P op (.nilc x)=true)(h:Xce K (x.ev sl)):Ye P a w ρ op K:=by
 cases op<;>simp[C.chk]at hc;have r1:=A.sound hs hc;unfold Xce at h;split at h
 ·rename_i id p e1;rw[e1]at r1;obtain⟨_,r2⟩:=Qd r1;exact⟨_,_,h,r1,fun o ho w' _=>by simp[execOp,ho,r2]⟩
 ·rename_i id n z i g p e1;rw[e1]at r1;obtain⟨_,r2⟩:=Xei r1;exact⟨_,_,h,r1,fun o ho w' _=>by simp[execOp,ho,r2]⟩
 ·rename_i y e1;rw[e1]at r1;have r2:=r1;rw[Qc]at r2;obtain⟨b,sh,r2,_⟩:=r2;exact⟨_,_,h,r1,fun o ho w' _=>by simp[execOp,ho,r2]⟩
 ·rename_i f fi ca e1;rw[e1]at r1;have r2:=r1;rw[Xb5]at r2;obtain⟨b,sh,r2,_⟩:=r2;exact⟨_,_,h,r1,fun o ho w' _=>by simp[execOp,ho,r2]⟩
 ·rename_i f fi ca e1;rw[e1]at r1;have r2:=r1;rw[Xeh]at r2;obtain⟨b,sh,r2,_⟩:=r2;exact⟨_,_,h,r1,fun o ho w' _=>by simp[execOp,ho,r2]⟩
 ·exact h.elim

theorem Xv2 (hs:SM w ρ sl a){x:A}{op:Op}(hc:C.chk P op (.lenS x)=true)(h:Xdz K (x.ev sl)):Ye P a w ρ op K:=by
 cases op<;>simp only[C.chk,Uah]at hc;rename_i c;obtain⟨ca,args,ts⟩:=c;cases ca<;>(try simp only[Uah]at hc);rename_i b;cases b<;>(try simp only[Uah]at hc);split at hc
 ·rename_i y t e1 e2;simp only[Uai]at hc;obtain⟨h0,h1⟩:=hc;have ht:P.underlying t=some .string:=by revert h0; split<;>simp_all
  have r1:=A.sound hs h1;have ea:args=#[y]:=by simpa using Ua4 List.toArray e1
  have et:ts=#[t]:=by simpa using Ua4 List.toArray e2
  subst ea et;unfold Xdz at h;split at h
  ·rename_i s e3;rw[e3,Vf]at r1;refine⟨_,_,h,X9.2 rfl,fun o ho w' _=>?_⟩;simp[execOp,ho,resolve,invoke,builtin,Builtin.len_,r1,Xe ht,goInt,Xrv]
  ·exact h.elim
 ·simp at hc

theorem Xv1 (hs:SM w ρ sl a)(hO:OM w ρ objs){x:A}{op:Op}(hc:C.chk P op (.lenL x)=true)(h:Xad objs K (x.ev sl)):Ye P a w ρ op K:=by
 cases op<;>simp only[C.chk,Uah]at hc;rename_i c;obtain⟨ca,args,ts⟩:=c;cases ca<;>(try simp only[Uah]at hc);rename_i b;cases b<;>(try simp only[Uah]at hc);split at hc
 ·rename_i y t e1 e2;simp only[Uai]at hc;obtain⟨h0,h1⟩:=hc;obtain⟨e,ht⟩:∃e,P.underlying t=some (.slice e):=by revert h0; split<;>simp_all
  have r1:=A.sound hs h1;have ea:args=#[y]:=by simpa using Ua4 List.toArray e1
  have et:ts=#[t]:=by simpa using Ua4 List.toArray e2
  subst ea et;have key:∀(ad:Option Addr) (n c:Nat),a.eval y=.slice ad n c->K (.d (.int .i64 n))->Ye P a w ρ (.call { callee:=.builtin .len,args:=#[y],argTypes:=#[t] }) K:=by
   intro ad n c e4 hK;refine⟨_,_,hK,X9.2 rfl,fun o ho w' _=>?_⟩;simp[execOp,ho,resolve,invoke,builtin,Builtin.len_,e4,Xe ht,goInt]
  unfold Xad at h;split at h
  ·rename_i sz xs e3;rw[e3,Zn]at r1;rcases r1 with⟨rfl,r1⟩ | ⟨ad,cap,vs,r1,_⟩
   ·exact key _ _ _ r1 h
   ·exact key _ _ _ r1 h
  ·rename_i e3;rw[e3,W1]at r1;exact key _ _ _ r1 h
  ·rename_i id p lo n e3;rw[e3,Ydh]at r1;obtain⟨⟨E,t0,hl⟩,h⟩:=h;rcases r1 with⟨b,sh,cap,f,_,_,r1⟩ | ⟨hg,_⟩
   ·exact key _ _ _ r1 h
   ·obtain⟨b,cs,h5,_⟩:=hO.one id _ hl;rw[hg]at h5; cases h5
  ·rename_i id n e3;rw[e3,Yl]at r1;obtain⟨hd,h⟩:=h;obtain⟨o,hρ,r1⟩:=r1;have h5:ρ.m id=some .virt\/∃b cap,ρ.m id=some (.arr b n cap):=by
    rcases hd with⟨E,z,xs,hl,hn⟩ | ⟨E,z,xs,hl,hn⟩
    ·rcases hO.one id _ hl with⟨h5,_⟩ | ⟨b,cap,cs,sp,h5,_⟩
     ·exact .inl h5
     ·exact .inr ⟨b,cap,by rw[hn]; exact h5⟩
    ·rcases hO.one id _ hl with⟨h5,_⟩ | ⟨b,cap,cs,sp,h5,_⟩
     ·exact .inl h5
     ·exact .inr ⟨b,cap,by rw[hn]; exact h5⟩
   rcases h5 with h5 | ⟨b,cap,h5⟩
   ·rw[hρ]at h5;simp only[Uaq]at h5;subst h5;simp only[RO.slice]at r1;obtain⟨rfl,r1⟩:=r1;exact key _ _ _ r1 h
   ·rw[hρ]at h5;simp only[Uaq]at h5;subst h5;simp only[RO.slice]at r1;exact key _ _ _ (r1.2.2 trivial) h
  ·exact h.elim
 ·simp at hc

theorem Xv0 {n:Nat}{op:Op}(hc:C.chk P op (.lenA n)=true)(h:K (.d (.int .i64 n))):Ye P a w ρ op K:=by
 cases op<;>simp only[C.chk,Uah]at hc;rename_i c;obtain⟨ca,args,ts⟩:=c;cases ca<;>(try simp only[Uah]at hc);rename_i b;cases b<;>(try simp only[Uah]at hc);split at hc
 ·rename_i y t e1 e2;obtain⟨e,ht⟩:∃e,P.underlying t=some (.array n e):=by revert hc; split<;>simp_all
  have ea:args=#[y]:=by simpa using Ua4 List.toArray e1
  have et:ts=#[t]:=by simpa using Ua4 List.toArray e2
  subst ea et;refine⟨_,_,h,X9.2 rfl,fun o ho w' _=>?_⟩;simp[execOp,ho,resolve,invoke,builtin,Builtin.len_,Xe ht,goInt]
 ·simp at hc

theorem X4o (hs:SM w ρ sl a){x:A}{i:Nat}{op:Op}(hc:C.chk P op (.ext x i)=true)(h:X5k i K (x.ev sl)):Ye P a w ρ op K:=by
 cases op<;>simp[C.chk]at hc;obtain⟨rfl,h1⟩:=hc;have r1:=A.sound hs h1;unfold X5k at h;split at h
 ·rename_i xs e1;rw[e1,We]at r1;obtain⟨vs,r1,h2⟩:=r1;obtain⟨hl,h⟩:=h;have key:∀(xs:List V) (vs:List Value) (i:Nat),V.reps w ρ xs vs->i<xs.length->∃u,vs[i]? = some u/\(xs.getD i .any).rep w ρ u:=by
   intro xs;induction xs with
   | nil=>intro vs i _ h; simp at h
   | cons x r ih=>
    intro vs i h hi;simp only[V.reps]at h;obtain⟨u,us,rfl,h3,h4⟩:=h;cases i with
    | zero=>exact⟨u,rfl,h3⟩
    | succ i=>simpa using ih us i h4 (by simpa using hi)
  obtain⟨u,h3,h4⟩:=key xs vs i h2 hl;refine⟨u,_,h,h4,fun o ho w' _=>?_⟩;simp[execOp,ho,r1,Instr.extract,h3]
 ·exact h.elim

theorem Zk (hs:SM w ρ sl a):∀{xs:List Operand} {ys:List A},Xb9 xs ys=true->V.reps w ρ (ys.map (A.ev sl)) (xs.map a.eval)
 | [],[],_=>by simp[V.reps]
 | x::r,y::s,h=>by
  simp only[Xb9,Uai]at h;simp only[Uam,V.reps];exact⟨_,_,rfl,A.sound hs h.1,Zk hs h.2⟩
 | [],_::_,h=>by simp[Xb9]at h
 | _::_,[],h=>by simp[Xb9]at h

theorem X4t (hs:SM w ρ sl a){t:Nat}{x:A}{op:Op}(hc:C.chk P op (.mki t x)=true)(h:K (X9v t (x.ev sl))):Ye P a w ρ op K:=by
 cases op<;>simp[C.chk]at hc;rename_i t' xo;obtain⟨⟨rfl,h0⟩,h1⟩:=hc;obtain⟨d,hd,hni⟩:∃d,P.underlying t=some d/\∀ms,d ≠ .interface ms:=by
  revert h0; split<;>simp_all
 have r1:=A.sound hs h1;refine⟨.iface t (a.eval xo),_,h,?_,fun o ho w' _=>?_⟩
 ·unfold X9v;split
  ·rename_i y e1;rw[e1]at r1;exact Xap.2 ⟨_,rfl,r1⟩
  ·rw[Wj (by simp[V.isAgg]) (by simp)];simp only[V.repC];exact⟨_,rfl,r1⟩
 ·simp only[execOp,ho,Instr.makeInterface,Sem.run_bind,Xe hd,Result.andThen_ok];cases d<;>simp_all

theorem Zj {α β:Type}(f:α->β)(xs:Array α):xs.map f=(xs.toList.map f).toArray:=by apply Array.ext'; simp

theorem X4s (hs:SM w ρ sl a){f:Nat}{first cap:List A}{op:Op}(hc:C.chk P op (.mkf f first cap)=true)(h:K (Ybu f (first.map (A.ev sl)) (cap.map (A.ev sl)))):Ye P a w ρ op K:=by
 cases op<;>simp only[C.chk,Uah]at hc;rename_i g fs cs;cases g<;>simp at hc;obtain⟨⟨rfl,h1⟩,h2⟩:=hc;refine⟨.func (.func f) (fs.map a.eval) (cs.map a.eval),_,h,?_,fun o ho w' _=>?_⟩
 ·have q1:=Zk hs h1;have q2:=Zk hs h2;unfold Ybu Yh7;split
  ·rename_i l m e1 e2;rw[V.allD_map e1]at q1;rw[V.allD_map e2]at q2;rw[Xeh];exact⟨fs.toList.map a.eval,cs.toList.map a.eval,by rw[Zj,Zj],q1,q2⟩
  ·rw[Xb5];exact⟨fs.toList.map a.eval,cs.toList.map a.eval,by rw[Zj,Zj],q1,q2⟩
 ·simp[execOp,ho,Instr.makeFunc]

theorem Xhf {t:TypeId}{n:Nat}(hn:Yh P t=some n)(hu:(P.underlying t).isSome=true){b off:Nat}{cs:List Value}(hl:cs.length=n)
  {w':World} (hc:∀i (h:i<cs.length),w'.cell? ⟨b,off+i,none⟩=some cs[i]) (h1:agT P t=false->n=1) :
  (Instr.loadAt t (.pointer (some ⟨b,off,none⟩))).run P w'=.ok (if agT P t then .agg cs.toArray else cs.headD undef) w':=by
 simp only[Instr.loadAt,Instr.sureAddr,loadVar,Sem.run_bind,Sem.run_pure,Result.andThen_ok,J8 hu];cases hag:agT P t with
 | true=>
  have:=run_loadCells_list (P:=P) (w:=w') ⟨b,off,none⟩ cs (fun j v hj=>by
   obtain⟨hl,hv⟩:=Uan.1 hj;rw[Ram rfl,<-hv]; exact hc j hl)
  simp only[Sem.run_bind,Xu hn,Result.andThen_ok,<-hl,this,Ubb,Sem.run_pure]
 | false=>
  have h2:=h1 hag;rw[h2]at hl;obtain⟨c,rfl⟩:=Ua0.1 hl;have h3:=hc 0 (by simp);simp only[Nat.add_zero,List.getElem_cons_zero]at h3;simp[h3]
end
end Go.Ab
namespace Go.Ab
open Go
section
variable {P:Program} {a:Act} {w:World} {ρ:Env} {sl:Xf} {objs:Xb} {K:V->Prop}

theorem Wh {v:V}(h:v.isAgg=false):v.size=1:=by
 cases v with
 | d x=>cases x<;>simp_all[V.isAgg,V.size,V.shape,D.shape,Sh.size]
 | agg xs=>simp[V.isAgg]at h
 | _=>simp[V.size,V.shape,Sh.size]

theorem X4p (hs:SM w ρ sl a){f fo n:Nat}{ag:Bool}{x:A}{op:Op}(hc:C.chk P op (.fld f fo n ag x)=true)(h:Yf2 f fo n ag K (x.ev sl).kids):Ye P a w ρ op K:=by
 cases op<;>simp[C.chk]at hc;rename_i t x1 g;obtain⟨⟨rfl,h0⟩,h1⟩:=hc;have r1:=A.sound hs h1;obtain⟨fl,hf,hof,hn,hu,hag⟩:∃fl,Q8 P t f=some fl/\fl.offset=fo/\Yh P fl.type=some n/\(P.underlying fl.type).isSome=true/\agT P fl.type=ag:=by
  cases h2:Q8 P t f with
  | none=>simp[h2]at h0
  | some fl=>simp[h2]at h0; exact⟨fl,rfl,h0.1.1.1,h0.1.1.2,h0.1.2,h0.2⟩
 obtain⟨fs,hst,hfi⟩:∃fs,P.underlying t=some (.struct fs)/\fs[f]? = some fl:=by
  unfold Q8 at hf; revert hf; split<;>simp_all
 cases hk:(x.ev sl).kids with
 | none=>simp[hk,Yf2]at h
 | some ks=>
  simp only[hk,Yf2]at h;obtain⟨hl,hsz,h2,h3,h⟩:=h;rw[Xtz hk]at r1;obtain⟨cs,r1,hre⟩:=r1;have hi:ks[f]? = some (ks.getD f .any):=by simp[hl]
  obtain⟨c1,c2,c3,e1,e2,_,h4,_⟩:=Ra4 hre hi;generalize ks.getD f .any=v at *;have hlen:=Ra0 _ _ h4;refine⟨_,v,h,Vp h4,fun o ho w' _=>?_⟩;have e3:c1.length=fl.offset:=by rw[e2,hof,<-hsz,Uap]
  have hx:cs.toArray.extract fl.offset (fl.offset+n)=c2.toArray:=by
   rw[e1,<-e3,<-h2]; unfold V.size; rw[<-hlen];simp
  simp only[execOp,ho,Instr.field,Xe hst,hfi,part,asAgg,r1,Sem.run_bind,Sem.run_pure,Result.andThen_ok,J8 hu,hag,h3];cases ag with
  | true=>simp only[Ubb,Sem.run_bind,Xu hn,Result.andThen_ok,Sem.run_pure,hx]
  | false=>
   have h5:=Wh h3;unfold V.size at h5;rw[h5]at hlen;obtain⟨c,rfl⟩:=Ua0.1 hlen;have:cs.toArray[fl.offset]? = some c:=by rw[e1,<-e3]; simp
   simp[this]

theorem Qu (hs:SM w ρ sl a)(hO:OM w ρ objs){n:Nat}{ag:Bool}{x:A}{op:Op}(hc:C.chk P op (.ld n ag x)=true)(h:ldK objs n ag K (x.ev sl)):Jv true P a w ρ op K:=by
 cases op<;>simp[C.chk]at hc;rename_i t x1;obtain⟨⟨⟨hn,hu⟩,hag⟩,h1⟩:=hc;have r1:=A.sound hs h1;have key:∀(b off:Nat) (cs:List Value) (v:V),a.eval x1=.pointer (some ⟨b,off,none⟩)->(cs ≠ []->b<w.heap.size)->(∀i (h:i<cs.length),w.cell? ⟨b,off+i,none⟩=some cs[i])->
   v.repC w ρ cs->v.size=n->v.isAgg=ag->K v->Jv true P a w ρ (.load t x1) K:=by
  intro b off cs v e1 hb hce hre h2 h3 hK;have hl:=Ra0 _ _ hre;refine⟨_,v,hK,Vp hre,fun o ho w' he=>?_⟩;have:=Xhf (P:=P) (t:=t) (n:=n) hn hu (b:=b) (off:=off) (cs:=cs) (by rw[hl,<-h2]; rfl) (w':=w') (fun i hi=>by
   rw[cell?_congr ((he rfl).keep b (hb (by intro e; subst e; simp at hi)))]; exact hce i hi) (fun h4=>by rw[hag]at h4; rw[h4]at h3; rw[<-h2]; exact Wh h3)
  simp only[execOp,ho,e1,Sem.run_bind,this,Result.andThen_ok,Sem.run_pure,hag,h3]
 unfold ldK at h;split at h
 ·rename_i id p e1;rw[e1]at r1;cases hat:atO objs id p with
  | none=>simp[hat,Xlk]at h
  | some v=>
   simp only[hat,Xlk]at h;obtain⟨h2,h3,h⟩:=h;obtain⟨t0,b',cs,E,g1,g2,g3,g4,g5⟩:=Xdh hO hat;obtain⟨b,sh,hρ,r1⟩:=Zb hO g1 r1;rw[hρ]at g3;simp only[Uaq,RO.box.injEq]at g3;obtain⟨rfl,rfl⟩:=g3;obtain⟨c1,c2,c3,e2,e3,h4⟩:=Ra8 p t0 v cs g5 g2;refine key b _ c2 v r1 (fun _=>Xj g4) (fun i hi=>?_) h4 h2 h3 h;rw[<-e3];simp[World.cell?,g4,e2,Ubc,hi]
 ·rename_i y e1;rw[e1,Qc]at r1;obtain⟨ad,vs,r1,hsp,hce,hre⟩:=r1;obtain⟨h2,h3,h⟩:=h;obtain⟨b,off,sp⟩:=ad;obtain⟨hb,hcell⟩:=hce;simp only at hsp; subst hsp;exact key b off vs (.d y) r1 (fun hne=>(hb hne).2.2) hcell (by simpa[V.repC]using hre) (by simp[V.size,V.shape,Ran,h2]) h3 h
 ·rename_i id m z i_ f p e1;rw[e1]at r1;cases hel:V0 m i_ (Xd objs id) with
  | none=>simp[atE,hel,Yei,Xlk]at h
  | some v0=>
   cases hat:Yei z f p (some v0) with
   | none=>simp[atE,hel,hat,Xlk]at h
   | some v=>
    simp only[atE,hel,hat,Xlk]at h;obtain⟨h2,h3,h⟩:=h;simp only[Yei]at hat;split at hat
    ·rename_i hsh;obtain⟨b,cap,E,c1,c2,c3,g1,g2,g3,g4⟩:=Xfp hO hel;obtain⟨d1,d2,d3,e2,e3,h4⟩:=Ra8 p v0 v c2 g4 hat;rw[Xmf]at r1;obtain⟨o,q1,q2⟩:=r1;rw[g1]at q1;simp only[Uaq]at q1;subst q1;have r1:=q2.2.2 rfl;refine key b _ d2 v r1 (fun _=>Xj g2) (fun i hi=>?_) h4 h2 h3 h;have e5:i_*z+f+i=c1.length+(d1.length+i):=by rw[hsh.1,hsh.2,g3,e3]; omega
     subst e2;rw[e5];simp[World.cell?,g2];rw[Ubd (by omega),show c1.length+(d1.length+i)-c1.length=d1.length+i by omega,Ubd (by omega),show d1.length+i-d1.length=i by omega,Ube hi,Ubf hi]
    ·cases hat
 ·exact h.elim

theorem Xa5 (hs:SM w ρ sl a){len cap:Nat}{isS:Bool}{lo hi:Option Operand}{lo' hi':Option A}{K:Nat->Nat->Prop}(hcap:len<=cap)
  (h1:Xjl lo lo'=true) (h2:Xjl hi hi'=true) (h:Jx len K (lo'.map (A.ev sl)) (hi'.map (A.ev sl))) :
  ∃l h,K l h/\l<=h/\h<=len/\∀w',(Instr.sliceBounds isS len cap (lo.map a.eval) (hi.map a.eval) none).run P w'=.ok (l,h,cap) w':=by
 have hev:∀{x:Operand} {y:A},A.chk x y=true->∀{k n},y.ev sl=.d (.int k n)->a.eval x=.int k n:=fun {x y} hc {k n} e=>by
  have:=A.sound hs hc; rw[e,X9]at this; exact this
 cases lo with
 | none=>
  cases lo' with
  | some _=>simp[Xjl]at h1
  | none=>
   cases hi with
   | none=>
    cases hi' with
    | some _=>simp[Xjl]at h2
    | none=>
     simp only[Option.map_none,Jx]at h;exact⟨0,len,h,Ubg _,Uak _,fun w'=>by simp[Instr.sliceBounds]⟩
   | some oh=>
    cases hi' with
    | none=>simp[Xjl]at h2
    | some ah=>
     simp only[Xjl]at h2;simp only[Option.map_none,Option.map_some]at h;cases e:ah.ev sl with
     | d x=>
      cases x with
      | int k n=>
       simp only[e,Jx]at h;obtain⟨⟨g1,g2⟩,h⟩:=h;refine⟨0,n.toNat,h,Ubg _,by omega,fun w'=>?_⟩;have:n<=(cap:Int):=by omega
       simp[Instr.sliceBounds,Instr.sliceBound,hev h2 e,asIntOf,g1,this]
      | _=>simp[e,Jx]at h
     | _=>simp[e,Jx]at h
 | some ol=>
  cases lo' with
  | none=>simp[Xjl]at h1
  | some al=>
   simp only[Xjl]at h1;simp only[Option.map_some]at h;cases el:al.ev sl with
   | d x=>
    cases x with
    | int k n=>
     cases hi with
     | none=>
      cases hi' with
      | some _=>simp[Xjl]at h2
      | none=>
       simp only[Option.map_none,el,Jx]at h;obtain⟨⟨g1,g2⟩,h⟩:=h;refine⟨n.toNat,len,h,by omega,Uak _,fun w'=>?_⟩;simp[Instr.sliceBounds,Instr.sliceBound,hev h1 el,asIntOf,g1,g2]
     | some oh=>
      cases hi' with
      | none=>simp[Xjl]at h2
      | some ah=>
       simp only[Xjl]at h2;simp only[Option.map_some,el]at h;cases e:ah.ev sl with
       | d x=>
        cases x with
        | int k' m=>
         simp only[e,Jx]at h;obtain⟨⟨g1,g2⟩,⟨g3,g4⟩,h⟩:=h;refine⟨n.toNat,m.toNat,h,by omega,by omega,fun w'=>?_⟩;have q1:m<=(cap:Int):=by omega
         have q2:n<=((m.toNat:Nat):Int):=by omega
         have q3:(max m 0:Int)=m:=by omega
         simp[Instr.sliceBounds,Instr.sliceBound,hev h1 el,hev h2 e,asIntOf,g1,g3,q1,q3,g4]
        | _=>simp[e,Jx]at h
       | _=>simp[e,Jx]at h
    | _=>simp[el,Jx]at h
   | _=>simp[el,Jx]at h

theorem Xv7 (hs:SM w ρ sl a){x:A}{lo hi:Option A}{op:Op}(hc:C.chk P op (.slcS x lo hi)=true)(h:Xe8 (lo.map (A.ev sl)) (hi.map (A.ev sl)) K (x.ev sl)):Ye P a w ρ op K:=by
 cases op<;>simp only[C.chk,Uah]at hc;rename_i t x1 l1 h1 m1;cases m1<;>simp only[Uah]at hc;simp only[Uai]at hc;obtain⟨⟨⟨h0,hx⟩,hlo⟩,hhi⟩:=hc;have r1:=A.sound hs hx;have ht:P.underlying t=some .string:=by revert h0; split<;>simp_all
 unfold Xe8 at h;split at h
 ·rename_i s e1;rw[e1,Vf]at r1;obtain⟨l,h',hK,g1,g2,hr⟩:=Xa5 (P:=P) (cap:=s.length) (isS:=false) hs (Uak _) hlo hhi h;refine⟨_,_,hK,Vf.2 rfl,fun o ho w' _=>?_⟩;simp only[execOp,ho,Instr.sliceAt,Instr.slice,r1,Sem.run_bind,Xe ht,Result.andThen_ok,Option.map_none,Option.isSome_none,Uah,Uay,Xrv,hr,Sem.run_pure];congr 3;apply ByteArray.ext;simp[ByteArray.data_extract,List.extract_eq_take_drop,Ubh]
 ·exact h.elim

theorem Xv6 (hs:SM w ρ sl a){z:Nat}{x:A}{lo hi:Option A}{op:Op}(hc:C.chk P op (.slcL z x lo hi)=true)(h:Xi5 z (lo.map (A.ev sl)) (hi.map (A.ev sl)) K (x.ev sl)):Ye P a w ρ op K:=by
 cases op<;>simp only[C.chk,Uah]at hc;rename_i t x1 l1 h1 m1;cases m1<;>simp only[Uah]at hc;simp only[Uai]at hc;obtain⟨⟨⟨h0,hx⟩,hlo⟩,hhi⟩:=hc;have r1:=A.sound hs hx;obtain⟨e,ht,he⟩:∃e,P.underlying t=some (.slice e)/\Yh P e=some z:=by
  revert h0; split<;>simp_all
 unfold Xi5 at h;split at h
 ·rename_i sz xs e1;rw[e1,Zn]at r1;obtain⟨rfl,h⟩:=h;rcases r1 with⟨rfl,r1⟩ | ⟨ad,cap,vs,r1,hcap,hce,hre,hu⟩
  ·obtain⟨l,h',hK,g1,g2,hr⟩:=Xa5 (P:=P) (cap:=0) (isS:=true) hs (Uak _) hlo hhi h;simp at g2; subst g2; simp at g1; subst g1;refine⟨.slice none 0 0,_,hK,Zn.2 (.inl ⟨by simp,rfl⟩),fun o ho w' _=>?_⟩;simp[execOp,ho,Instr.sliceAt,Instr.slice,r1,Xe ht,hr,Xu he]
  ·obtain⟨l,h',hK,g1,g2,hr⟩:=Xa5 (P:=P) (cap:=cap) (isS:=true) hs hcap hlo hhi h;have hlen:((xs.take h').drop l).length=h'-l:=by simp; omega
   by_cases hz:cap=l
   ·subst hz;refine⟨.slice (some ad) (h'-cap) (cap-cap),_,hK,Zn.2 (.inr ⟨ad,cap-cap,[],by rw[hlen],by omega,Cells.nil ad,?_,?_⟩),fun o ho w' _=>?_⟩
    ·have:(xs.take h').drop cap=[]:=Ubi (by omega);rw[this]; simp[Rac]
    ·intro y hy; exact hu y (Ua6 (List.mem_of_mem_drop hy))
    ·simp[execOp,ho,Instr.sliceAt,Instr.slice,r1,Xe ht,hr,Xu he]
   ·refine⟨.slice (some (ad.add (l*z))) (h'-l) (cap-l),_,hK,Zn.2 (.inr ⟨_,cap-l,_,by rw[hlen],by omega,hce.subAdd (l*z) ((h'-l)*z),?_,?_⟩),fun o ho w' _=>?_⟩
    ·have s1:=(Rak xs l vs hre).2;have t1:Raa (xs.take l)=l*z:=by
      rw[Raj (sz:=z) _ (fun y hy=>hu y (Ua6 hy)),Ua7,Ua8 (by omega)]
     rw[t1]at s1;have s2:=(Rak (xs.drop l) (h'-l) _ s1).1;have t2:Raa ((xs.drop l).take (h'-l))=(h'-l)*z:=by
      rw[Raj (sz:=z) _ (fun y hy=>hu y (List.mem_of_mem_drop (Ua6 hy))),Ua7,List.length_drop,Ua8 (by omega)]
     rw[t2]at s2
     rwa [Ubh]
    ·intro y hy; exact hu y (Ua6 (List.mem_of_mem_drop hy))
    ·simp[execOp,ho,Instr.sliceAt,Instr.slice,r1,Xe ht,hr,Xu he,hz]
 ·exact h.elim

theorem Xbw:∀(ds:List Value) (arr:List Value) (off k:Nat),off+k+ds.length<=arr.length->
  (ds.zipIdx k).foldl (fun (cs:Array Value) (x:Value×Nat)=>cs.setIfInBounds (off+x.2) x.1) arr.toArray=(arr.take (off+k)++(ds++arr.drop (off+k+ds.length))).toArray
 | [],arr,off,k,_=>by simp
 | d::r,arr,off,k,h=>by
  simp only[List.zipIdx_cons,List.foldl_cons];simp only[List.length_cons]at h;have e:arr.toArray.setIfInBounds (off+k) d=(arr.set (off+k) d).toArray:=by simp
  rw[e,Xbw r (arr.set (off+k) d) off (k+1) (by simp; omega)];congr 1;have hlt:off+k<arr.length:=by omega
  have e1:(arr.set (off+k) d).take (off+(k+1))=arr.take (off+k)++[d]:=by
   rw[<-Uag,Ubj (by simpa using hlt)];simp[List.take_set_of_le]
  have e2:(arr.set (off+k) d).drop (off+(k+1)+r.length)=arr.drop (off+k+(d::r).length):=by
   rw[List.drop_set_of_lt (by omega)];congr 1; simp; omega
  rw[e1,e2]; simp

theorem Rbi:∀(xs:List D) (cs:List Value),Rbg xs cs=true->Rac w (own ρ) xs cs:=by
 have go:∀n,(∀(x:D) (cs:List Value),SizeOf.sizeOf x<n->Rbf x cs=true->x.rep w (own ρ) cs)/\(∀(xs:List D) (cs:List Value),SizeOf.sizeOf xs<n->Rbg xs cs=true->Rac w (own ρ) xs cs):=by
  intro n;induction n with
  | zero=>exact⟨fun _ _ h=>by omega,fun _ _ h=>by omega⟩
  | succ n ih=>
   constructor
   ·intro x cs hn h;cases x with
    | agg xs=>
     simp only[Rbf]at h;simp only[D.rep];refine ih.2 xs cs ?_ h;simp at hn; omega
    | list sz ys=>unfold Rbf at h; split at h<;>simp_all[D.rep]
    | ref y=>simp[Rbf]at h
    | iface t y=>simp[Rbf]at h
    | fn f fi ca=>simp[Rbf]at h
    | str s=>
     unfold Rbf at h;split at h<;>simp_all[D.rep];rename_i t h1;subst h;cases t; simp
    | _=>
     unfold Rbf at h;split at h<;>simp_all[D.rep]
   ·intro xs cs hn h;cases xs with
    | nil=>cases cs<;>simp_all[Rbg,Rac]
    | cons x r=>
     simp only[Rbg,Uai]at h;simp only[Rac];simp at hn;exact⟨cs.take x.sz,cs.drop x.sz,by simp,ih.1 x _ (by omega) h.1,ih.2 r _ (by omega) h.2⟩
 intro xs cs h;exact (go (SizeOf.sizeOf xs+1)).2 xs cs (by omega) h

theorem Rbj (x:D)(cs:List Value)(h:Rbf x cs=true):x.rep w (own ρ) cs:=by
 have:=Rbi (w:=w) (ρ:=ρ) [x] cs;cases hx:Rbg [x] cs with
 | true=>
  have:=this hx;simp only[Rac]at this;obtain⟨c1,c2,e,h1,h2⟩:=this;subst h2; simpa[e]using h1
 | false=>
  exfalso;have hl:cs.take x.sz=cs/\cs.drop x.sz=[]:=by
   have:cs.length<=x.sz:=by
    cases x with
    | agg xs=>
     simp only[Rbf]at h;have:=Rah _ _ (Rbi (w:=w) (ρ:=ρ) xs cs h);simp[D.sz,this]
    | list sz ys=>unfold Rbf at h; split at h<;>simp_all[D.sz]
    | ref y=>simp[Rbf]at h
    | iface t y=>simp[Rbf]at h
    | fn f fi ca=>simp[Rbf]at h
    | _=>
     unfold Rbf at h;split at h<;>simp_all[D.sz]
   exact⟨Ubk this,Ubl this⟩
  simp[Rbg,hl.1,hl.2,h]at hx

theorem Xg6 (hs:SM w ρ sl a)(place:Nat->Option (Nat×Nat))(shs:List Sh)(hp:∀i,i<shs.length->place i=some (Sh.sizes (shs.take i),(shs.getD i .leaf).size)) :
  ∀(parts:List (Nat×Operand)) (ys:List (Nat×A)) (ks:List V) (cs:List Value) (K:List V->Prop),W0 parts ys=true->Rap w ρ ks cs->ks.map V.shape=shs->
   Jw ks (ys.map fun (i,x)=>(i,x.ev sl)) K->∃ks' cs',K ks'/\Rap w ρ ks' cs'/\Instr.fill place cs.toArray (parts.map fun (i,x)=>(i,a.eval x))=some cs'.toArray
 | [],[],ks,cs,K,_,h2,_,h4=>by
  simp only[Ubm,Jw]at h4;exact⟨ks,cs,h4,h2,by simp[Instr.fill]⟩
 | (i,x)::r,(j,y)::s,ks,cs,K,h1,h2,h3,h4=>by
  simp only[W0,Uai,Ubn]at h1;obtain⟨⟨rfl,h1⟩,h5⟩:=h1;simp only[Uam,Jw]at h4;obtain⟨hi,hsh,hne,h4⟩:=h4;have r1:=A.sound hs h1;have hv:=Wl hne r1;have hlen:=Ra0 _ _ hv;have hk:ks[i]? = some (ks.getD i .any):=by simp[hi]
  obtain⟨c1,c2,c3,e1,e2,g1,g2,g3⟩:=Ra4 h2 hk;have hl2:=Ra0 _ _ g2;have hil:i<shs.length:=by rw[<-h3]; simpa using hi
  have hsz:(shs.getD i .leaf).size=(ks.getD i .any).shape.size:=by rw[<-h3]; simp[hi]
  have hset:(ks.set i (y.ev sl)).map V.shape=shs:=by
   rw[<-h3,Uas,hsh];apply Uat;intro j;by_cases hj:i=j
   ·subst hj; rw[Uau]; simp[hi]
   ·rw[Uau]; simp[hj]
  have hrep:Rap w ρ (ks.set i (y.ev sl)) (c1++((a.eval x).cells.toList++c3)):=by
   rw[show ks.set i (y.ev sl)=ks.take i++(y.ev sl::ks.drop (i+1)) from Uaw.trans (by simp[hi])];refine Ra3 g1 ?_;simp only[Rap];exact⟨_,c3,rfl,hv,g3⟩
  obtain⟨ks',cs',hK,hR,hF⟩:=Xg6 hs place shs hp r s _ _ K h5 hrep hset h4;refine⟨ks',cs',hK,hR,?_⟩;have hsize:(a.eval x).cells.size=(shs.getD i .leaf).size:=by
   have:(a.eval x).cells.toList.length=(a.eval x).cells.size:=by simp
   rw[<-this,hlen,hsh,hsz]
  have hoff:c1.length=Sh.sizes (shs.take i):=by rw[e2,<-h3]
  have hbnd:¬(Sh.sizes (shs.take i)+(a.eval x).cells.size > cs.toArray.size):=by
   rw[hsize,hsz,<-hl2,<-hoff,e1]; simp
  have hsp:(a.eval x).cells.zipIdx.foldl (fun (cs:Array Value) (x:Value×Nat)=>cs.setIfInBounds (Sh.sizes (shs.take i)+x.2) x.1) cs.toArray=(c1++((a.eval x).cells.toList++c3)).toArray:=by
   rw[<-Array.foldl_toList,Array.toList_zipIdx];rw[Xbw _ cs _ 0 (by simp only[Nat.add_zero]; have:=hbnd; simp at this⊢; omega)];congr 1;have e3:(a.eval x).cells.toList.length=c2.length:=by rw[hlen,hsh,hl2]
   rw[e3,<-hoff,e1];simp
  simp only[Uam,Instr.fill,hp i hil];rw[Ubo (by simp only[hsize]; simpa[hsize]using hbnd)];rw[show (fun (cs:Array Value) (x:Value×Nat)=>match x with | (c,j)=>cs.setIfInBounds (Sh.sizes (shs.take i)+j) c)=(fun (cs:Array Value) (x:Value×Nat)=>cs.setIfInBounds (Sh.sizes (shs.take i)+x.2) x.1) from rfl,hsp];exact hF
 | [],_::_,_,_,_,h,_,_,_=>by simp[W0]at h
 | _::_,[],_,_,_,h,_,_,_=>by simp[W0]at h
end
end Go.Ab
namespace Go.Ab
open Go
section
variable {P:Program} {w:World} {ow:Nat->Prop}
def Xex (x:D)(cs:List Value):Value:=if x.isAgg then .agg cs.toArray else cs.headD undef
theorem Rbk {ty:KT}{t:TypeId}{x:D}(hc:ty.chk P t=true)(hf:ty.fits x=true):(P.underlying t).isSome=true/\agT P t=x.isAgg:=by
 cases ty<;>cases x<;>simp only[KT.fits,Uah]at hf<;>simp only[KT.chk]at hc<;>unfold agT<;>(cases hu:P.underlying t with
  | none=>simp[hu]at hc
  | some d=>cases d<;>simp_all[D.isAgg])
mutual
theorem Rbl:∀(ty:KT) (x:D),ty.fits x=true->x.sz=ty.cells
 | .int k,x,h=>by cases x<;>simp[KT.fits]at h; simp[D.sz,KT.cells]
 | .bool,x,h=>by cases x<;>simp[KT.fits]at h; simp[D.sz,KT.cells]
 | .str,x,h=>by cases x<;>simp[KT.fits]at h; simp[D.sz,KT.cells]
 | .st fs,x,h=>by
  cases x<;>simp only[KT.fits,Uah]at h;simp only[D.sz,KT.cells];exact Rbm fs _ h
 | .ar n e,x,h=>by
  cases x<;>simp only[KT.fits,Uah,Uai,Ubp]at h;simp only[D.sz,KT.cells];rw[Rbn e _ h.2,h.1]
theorem Rbm:∀(ts:List KT) (xs:List D),Rbd ts xs=true->Raa xs=Rbb ts
 | [],xs,h=>by cases xs<;>simp[Rbd]at h; simp[Raa,Rbb]
 | t::r,xs,h=>by
  cases xs<;>simp only[Rbd,Uah,Uai]at h;simp only[Raa,Rbb,Rbl t _ h.1,Rbm r _ h.2]
theorem Rbn:∀(t:KT) (xs:List D),Rbe t xs=true->Raa xs=xs.length*t.cells
 | t,[],_=>by simp[Raa]
 | t,x::s,h=>by
  simp only[Rbe,Uai]at h;simp only[Raa,List.length_cons,Rbl t x h.1,Rbn t s h.2,Uac];omega
end
theorem Xal {ty:KT}{t:TypeId}{x:D}{c1 c2 c3:List Value}(hc:ty.chk P t=true)(hs:Yh P t=some ty.cells)(hf:ty.fits x=true)(hr:x.rep w ow c2)(w':World) :
  (part t (c1++(c2++c3)).toArray c1.length).run P w'=.ok (Xex x c2) w':=by
 obtain⟨hu,hag⟩:=Rbk hc hf;have hl:=Rag _ _ hr;rw[Rbl ty x hf]at hl;simp only[part,Sem.run_bind,J8 hu,hag,Result.andThen_ok,Xex];cases hx:x.isAgg with
 | true=>
  simp only[Ubb,Sem.run_bind,Xu hs,Result.andThen_ok,Sem.run_pure];congr 2;rw[<-hl];simp
 | false=>
  have h1:x.sz=1:=by cases x<;>simp_all[D.isAgg,D.sz]
  rw[Rag _ _ hr,h1]at hl;have hl2:=Rag _ _ hr;rw[h1]at hl2;obtain⟨c,rfl⟩:=Ua0.1 hl2;simp
mutual
theorem KT.equal:∀(ty:KT) (t:TypeId) (x y:D) (cx cy:List Value) (d:Nat),ty.chk P t=true->ty.fits x=true->ty.fits y=true->x.rep w ow cx->y.rep w ow cy->ty.depth<=d->∀w0,(Op.equalIn d t (Xex x cx) (Xex y cy)).run P w0=.ok (D.eqb x y) w0
 | .int k,t,x,y,cx,cy,d,hc,hx,hy,rx,ry,hd,w0=>by
  cases x<;>simp[KT.fits]at hx;cases y<;>simp[KT.fits]at hy;subst hx; subst hy;simp only[D.rep]at rx ry; subst rx; subst ry;simp only[KT.chk]at hc;obtain⟨d,rfl⟩:∃e,d=e+1:=⟨d-1,by simp only[KT.depth]at hd; omega⟩
  cases hu:P.underlying t with
  | none=>simp[hu]at hc
  | some td=>
   cases td<;>simp[hu]at hc;simp[Xex,D.isAgg,D.eqb,run_equalIn_int w0 d t _ _ _ _ hu];rfl
 | .bool,t,x,y,cx,cy,d,hc,hx,hy,rx,ry,hd,w0=>by
  cases x<;>simp[KT.fits]at hx;cases y<;>simp[KT.fits]at hy;simp only[D.rep]at rx ry; subst rx; subst ry;simp only[KT.chk]at hc;obtain⟨d,rfl⟩:∃e,d=e+1:=⟨d-1,by simp only[KT.depth]at hd; omega⟩
  cases hu:P.underlying t with
  | none=>simp[hu]at hc
  | some td=>
   cases td<;>simp[hu]at hc;simp[Xex,D.isAgg,D.eqb,run_equalIn_bool w0 d t _ _ hu]
 | .str,t,x,y,cx,cy,d,hc,hx,hy,rx,ry,hd,w0=>by
  cases x<;>simp[KT.fits]at hx;cases y<;>simp[KT.fits]at hy;simp only[D.rep]at rx ry; subst rx; subst ry;simp only[KT.chk]at hc;obtain⟨d,rfl⟩:∃e,d=e+1:=⟨d-1,by simp only[KT.depth]at hd; omega⟩
  cases hu:P.underlying t with
  | none=>simp[hu]at hc
  | some td=>
   cases td<;>simp[hu]at hc;simp[Xex,D.isAgg,D.eqb,run_equalIn_string w0 d t _ _ hu]
 | .st fs,t,x,y,cx,cy,d,hc,hx,hy,rx,ry,hd,w0=>by
  cases x<;>simp only[KT.fits,Uah]at hx;cases y<;>simp only[KT.fits,Uah]at hy;simp only[D.rep]at rx ry;simp only[KT.chk]at hc;simp only[KT.depth]at hd;obtain⟨d,rfl⟩:∃e,d=e+1:=⟨d-1,by omega⟩
  cases hu:P.underlying t with
  | none=>simp[hu]at hc
  | some td=>
   cases td<;>simp only[hu,Uah,Uai,Ubq]at hc;rename_i fds;have hfo:P.fieldsOf t=fds:=by simp[Program.fieldsOf,hu]
   simp only[Xex,D.isAgg,Ubb,D.eqb];rw[run_equalIn_struct w0 d t _ _ (by rw[hfo]; exact hu) hc.1,hfo];exact Rbo fs fds.toList 0 _ _ [] cx [] cy d hc.2 hx hy rx ry (by omega) rfl rfl w0
 | .ar n e,t,x,y,cx,cy,d,hc,hx,hy,rx,ry,hd,w0=>by
  cases x<;>simp only[KT.fits,Uah,Uai,Ubp]at hx;cases y<;>simp only[KT.fits,Uah,Uai,Ubp]at hy;simp only[D.rep]at rx ry;simp only[KT.chk]at hc;simp only[KT.depth]at hd;obtain⟨d,rfl⟩:∃e,d=e+1:=⟨d-1,by omega⟩
  cases hu:P.underlying t with
  | none=>simp[hu]at hc
  | some td=>
   cases td<;>simp only[hu,Uah,Uai,Ubn]at hc;rename_i m u;obtain⟨⟨rfl,hsz⟩,hce⟩:=hc;obtain⟨i,hi,his⟩:∃i,P.info? u=some i/\i.size=e.cells:=by
    unfold Yh at hsz;rw[Ubr]at hsz;exact hsz
   have hco:P.cellsOf u=e.cells:=by simp[Program.cellsOf,hi,his]
   simp only[Xex,D.isAgg,Ubb,D.eqb];rw[run_equalIn_array w0 d _ _ hu hi,hco];rename_i xs ys;have:=Rbp e u 0 xs ys [] cx [] cy d hce hsz hx.2 hy.2 (by omega) rx ry (by omega) (by simp) (by simp) w0;rw[hx.1,<-List.range_eq_range']at this;simpa using this
theorem Rbo:∀(ts:List KT) (fds:List Field) (o:Nat) (xs ys:List D) (px cx py cy:List Value) (d:Nat),KT.chks P ts fds o=true->Rbd ts xs=true->Rbd ts ys=true->Rac w ow xs cx->Rac w ow ys cy->Rbc ts<=d->px.length=o->py.length=o->∀w0,(Op.eqFields d (px++cx).toArray (py++cy).toArray fds).run P w0=.ok (D.eqbs xs ys) w0
 | [],fds,o,xs,ys,px,cx,py,cy,d,hc,hx,hy,rx,ry,hd,lx,ly,w0=>by
  cases fds<;>simp[KT.chks]at hc;cases xs<;>simp[Rbd]at hx;cases ys<;>simp[Rbd]at hy;simp[Op.eqFields,D.eqbs]
 | t::r,fds,o,xs,ys,px,cx,py,cy,d,hc,hx,hy,rx,ry,hd,lx,ly,w0=>by
  cases fds<;>simp only[KT.chks,Uah,Uai,bne_iff_ne,ne_eq,Ubn]at hc;rename_i f fs;cases xs<;>simp only[Rbd,Uah,Uai]at hx;cases ys<;>simp only[Rbd,Uah,Uai]at hy;rename_i x xs y ys;simp only[Rac]at rx ry;obtain⟨a1,a2,rfl,ra,rx⟩:=rx;obtain⟨b1,b2,rfl,rb,ry⟩:=ry;obtain⟨⟨⟨⟨hn,ho⟩,hsz⟩,hct⟩,hcr⟩:=hc;simp only[Rbc]at hd;have e1:f.offset=px.length:=by omega
  have e2:f.offset=py.length:=by omega
  have p1:=fun w'=>Xal (c1:=px) (c3:=a2) hct hsz hx.1 ra w';have p2:=fun w'=>Xal (c1:=py) (c3:=b2) hct hsz hy.1 rb w';rw[<-e1]at p1;rw[<-e2]at p2;have q:=KT.equal t f.type x y a1 b1 d hct hx.1 hy.1 ra rb (by omega);simp only[Op.eqFields,hn,ne_eq,not_false_eq_true,Ubb,Sem.run_bind,p1,p2,q,Result.andThen_ok,D.eqbs];have la:=Rag _ _ ra;have lb:=Rag _ _ rb;rw[Rbl t x hx.1]at la;rw[Rbl t y hy.1]at lb;have ih:=Rbo r fs (o+t.cells) xs ys (px++a1) a2 (py++b1) b2 d hcr hx.2 hy.2 rx ry (by omega) (by simp; omega) (by simp; omega) w0;simp only[Uav]at ih;cases hq:D.eqb x y with
  | true=>simpa using ih
  | false=>simp
theorem Rbp:∀(e:KT) (u:TypeId) (i:Nat) (xs ys:List D) (px cx py cy:List Value) (d:Nat),e.chk P u=true->Yh P u=some e.cells->Rbe e xs=true->Rbe e ys=true->xs.length=ys.length->Rac w ow xs cx->Rac w ow ys cy->e.depth<=d->px.length=i*e.cells->py.length=i*e.cells->∀w0,
  (Op.eqItems d u e.cells (px++cx).toArray (py++cy).toArray (List.range' i xs.length)).run P w0=.ok (D.eqbs xs ys) w0
 | e,u,i,[],ys,px,cx,py,cy,d,hc,hs,hx,hy,hl,rx,ry,hd,lx,ly,w0=>by
  cases ys<;>simp at hl;simp[Op.eqItems,D.eqbs]
 | e,u,i,x::xs,ys,px,cx,py,cy,d,hc,hs,hx,hy,hl,rx,ry,hd,lx,ly,w0=>by
  cases ys<;>simp at hl;rename_i y ys;simp only[Rbe,Uai]at hx hy;simp only[Rac]at rx ry;obtain⟨a1,a2,rfl,ra,rx⟩:=rx;obtain⟨b1,b2,rfl,rb,ry⟩:=ry;have p1:=fun w'=>Xal (c1:=px) (c3:=a2) hc hs hx.1 ra w';have p2:=fun w'=>Xal (c1:=py) (c3:=b2) hc hs hy.1 rb w';rw[lx]at p1;rw[ly]at p2;have q:=KT.equal e u x y a1 b1 d hc hx.1 hy.1 ra rb hd;simp only[List.length_cons,Ubs,Op.eqItems,Sem.run_bind,p1,p2,q,Result.andThen_ok,D.eqbs];have la:=Rag _ _ ra;have lb:=Rag _ _ rb;rw[Rbl e x hx.1]at la;rw[Rbl e y hy.1]at lb;have ih:=Rbp e u (i+1) xs ys (px++a1) a2 (py++b1) b2 d hc hs hx.2 hy.2 hl rx ry hd (by simp[Uac]; omega) (by simp[Uac]; omega) w0;simp only[Uav]at ih;cases hq:D.eqb x y with
  | true=>simpa using ih
  | false=>simp
end
end
end Go.Ab
namespace Go.Ab
open Go
section
variable {P:Program} {a:Act} {w:World} {ρ:Env} {sl:Xf} {objs:Xb} {K:V->Prop}

theorem Qy {t:TypeId}{cs:List Value}(h:Q4 P t=some cs):∃v,v.cells.toList=cs/\(P.info? t).bind (·.zero)=some v/\∀w',(zeroValue t).run P w'=.ok v w':=by
 unfold Q4 at h;cases hi:P.info? t with
 | none=>simp[hi]at h
 | some i=>
  cases hz:i.zero with
  | none=>simp[hi,hz]at h
  | some v=>
   simp[hi,hz]at h;exact⟨v,h,by simp[hz],fun w'=>by simp[zeroValue,typeInfo,hi,hz]⟩

theorem Xpv (fs:List Field)(hsz:fs.all (fun fl=>(Yh P fl.type).isSome)=true)(w':World) :
  (fs.mapM (fun f=>(do pure (f.offset,<-sizeOf f.type):Sem (Nat×Nat)))).run P w'=.ok (fs.map fun fl=>(fl.offset,(Yh P fl.type).getD 0)) w':=by
 induction fs with
 | nil=>simp
 | cons x r ih=>
  simp only[List.all_cons,Uai]at hsz;obtain⟨n,hn⟩:=Ua3.1 hsz.1;simp only[List.mapM_cons,Sem.run_bind,Xu hn,Result.andThen_ok,Sem.run_pure,ih hsz.2,Uam,hn,Option.getD_some]

theorem Xt6 (z:List D)(i:Nat):Raa (z.take i)=Sh.sizes (((z.map V.d).map V.shape).take i):=by
 rw[<-Uap,<-Uap,<-Rao,D.shapes_eq];simp[V.shape,Function.comp_def]

theorem X4j (hs:SM w ρ sl a){z:List D}{parts:List (Nat×A)}{op:Op}(hc:C.chk P op (.bld z parts)=true)
  (h:Jw (z.map .d) (parts.map fun (i,x)=>(i,x.ev sl)) fun ks=>K (V.mk ks)):Ye P a w ρ op K:=by
 cases op<;>simp only[C.chk,Uah]at hc;rename_i t ps;simp only[Uai]at hc;obtain⟨⟨hp,hz⟩,ht⟩:=hc;cases hzt:Q4 P t with
 | none=>simp[hzt]at hz
 | some cs=>
  simp only[hzt]at hz;obtain⟨zv,e1,e2,hzr⟩:=Qy hzt;have hrep:Rap w ρ (z.map .d) cs:=(Ray z cs).2 (Rbi z cs hz);have ecs:zv.cells=cs.toArray:=by rw[<-e1]
  have key:∀place:Nat->Option (Nat×Nat),(∀i,i<z.length->place i=some (Raa (z.take i),(z.getD i default).sz))->
    (∀(o:Oper),o.op=.build t ps->∀w' cells,Instr.fill place cs.toArray (ps.toList.map fun (i,x)=>(i,a.eval x))=some cells->(execOp a.eval o).run P w'=.ok (.value (.agg cells)) w')->
    Ye P a w ρ (.build t ps) K:=by
   intro place hpl hrun;obtain⟨ks',cs',hK,hR,hF⟩:=Xg6 (sl:=sl) hs place ((z.map V.d).map V.shape) (fun i hi=>by
    rw[hpl i (by simpa using hi),Xt6];have hi':i<z.length:=by simpa using hi
    congr 2;simp[hi',V.shape,Ran]) ps.toList parts (z.map .d) cs _ hp hrep rfl h
   exact⟨.agg cs'.toArray,V.mk ks',hK,(Xtz (Ra6 ks')).2 ⟨cs',rfl,hR⟩,fun o ho w' _=>hrun o ho w' _ hF⟩
  have hparts:∀ρ':Operand->Value,(ps.map fun (i,x)=>(i,ρ' x)).toList=ps.toList.map fun (i,x)=>(i,ρ' x):=fun ρ'=>by simp
  split at ht
  ·rename_i fs hst;simp only[Uai,Ubn]at ht;obtain⟨h1,h2⟩:=ht;refine key (fun i=>((fs.toList.map fun fl=>(fl.offset,(Yh P fl.type).getD 0)).toArray)[i]?) (fun i hi=>?_) (fun o ho w' cells hF=>?_)
   ·rw[h2]; simp[hi]
   ·have hm:=Xpv (P:=P) fs.toList h1 w';have hm2:(fs.mapM (fun f=>(do pure (f.offset,<-sizeOf f.type):Sem (Nat×Nat)))).run P w'=.ok ((fs.toList.map fun fl=>(fl.offset,(Yh P fl.type).getD 0)).toArray) w':=by
     rw[Array.mapM_eq_mapM_toList];simp only[Sem.run_map,hm,Result.andThen_ok]
    simp only[execOp,ho,Instr.build,Sem.run_bind,hzr,Result.andThen_ok,Xe hst,hm2,hparts,ecs,hF,Sem.run_pure]
  ·rename_i n e hst;cases he:Yh P e with
   | none=>simp[he]at ht
   | some sz=>
    simp only[he,Ubt,Ubn]at ht;refine key (fun i=>some (i*sz,sz)) (fun i hi=>?_) (fun o ho w' cells hF=>?_)
    ·rw[Raj (sz:=sz) _ (fun x hx=>ht x (Ua6 hx)),Ua7,Ua8 (by omega)];simp[hi,ht _ (Uba hi)]
    ·simp only[execOp,ho,Instr.build,Sem.run_bind,hzr,Result.andThen_ok,Xe hst,Xu he,hparts,ecs,hF,Sem.run_pure]
  ·simp at ht

theorem X4x (hs:SM w ρ sl a){t:Nat}{z:D}{x:A}{op:Op}(hc:C.chk P op (.tas t z x)=true)(h:Yam t z K (x.ev sl)):Ye P a w ρ op K:=by
 cases op<;>simp only[C.chk,Uah]at hc;rename_i x1 xt u co;cases co<;>simp only[Uah]at hc;simp only[Uai,Ubn]at hc;obtain⟨⟨⟨rfl,h0⟩,hz⟩,h1⟩:=hc;obtain⟨d,hd,hni⟩:∃d,P.underlying t=some d/\∀ms,d ≠ .interface ms:=by
  revert h0; split<;>simp_all
 have r1:=A.sound hs h1;cases hzt:Q4 P t with
 | none=>simp[hzt]at hz
 | some cs=>
  simp only[hzt,Uai,Ubn]at hz;obtain⟨hz1,hz2⟩:=hz;obtain⟨zv,e1,e2,hzr⟩:=Qy hzt;have hzrep:(V.d z).rep w ρ zv:=by
   have hr:(V.d z).repC w ρ cs:=by simp only[V.repC]; exact Rbj z cs hz1
   rw[e2]at hz2;simp only[Option.map_some,Uaq]at hz2;cases zv with
   | agg cs'=>
    simp only at hz2;refine .inr (.inl ⟨hz2.symm,cs,?_,hr⟩);simp only[Value.cells]at e1;rw[<-e1]
   | _=>
    simp only at hz2;refine .inr (.inr ⟨hz2.symm,?_⟩);simp only[Value.cells]at e1;rw[<-e1]at hr;simpa using hr
  have tup:∀{v:V} {u:Value} (b:Bool),v.rep w ρ u->(V.tup [v,.d (.bool b)]).rep w ρ (.tuple #[u,.bool b]):=fun b hv=>by
   rw[We];refine⟨[_,.bool b],rfl,?_⟩;simp only[V.reps];exact⟨_,_,rfl,hv,_,_,rfl,rep_bool.2 rfl,rfl⟩
  unfold Yam at h;split at h
  ·rename_i t' v e3;rw[e3,Wj (by simp[V.isAgg]) (by simp)]at r1;simp only[V.repC,Ua1,Ua2]at r1;obtain⟨c,r1,r2⟩:=r1;by_cases htt:t'=t
   ·refine⟨_,_,h.1 htt,tup true r2,fun o ho w' _=>?_⟩;subst htt;simp only[execOp,ho,Instr.typeAssert,Sem.run_bind,Xe hd,Result.andThen_ok,r1];cases d<;>simp_all
   ·refine⟨_,_,h.2 htt,tup false hzrep,fun o ho w' _=>?_⟩;simp only[execOp,ho,Instr.typeAssert,Sem.run_bind,Xe hd,Result.andThen_ok,r1];cases d<;>simp_all
  ·rename_i t' v e3;rw[e3,Xap]at r1;obtain⟨c,r1,r2⟩:=r1;by_cases htt:t'=t
   ·refine⟨_,_,h.1 htt,tup true r2,fun o ho w' _=>?_⟩;subst htt;simp only[execOp,ho,Instr.typeAssert,Sem.run_bind,Xe hd,Result.andThen_ok,r1];cases d<;>simp_all
   ·refine⟨_,_,h.2 htt,tup false hzrep,fun o ho w' _=>?_⟩;simp only[execOp,ho,Instr.typeAssert,Sem.run_bind,Xe hd,Result.andThen_ok,r1];cases d<;>simp_all
  ·rename_i e3;rw[e3,Xc0]at r1;refine⟨_,_,h,tup false hzrep,fun o ho w' _=>?_⟩;simp only[execOp,ho,Instr.typeAssert,Sem.run_bind,Xe hd,Result.andThen_ok,r1];cases d<;>simp_all
  ·exact h.elim

theorem X4y (hs:SM w ρ sl a)(hO:OM w ρ objs){op:Op}{x:A}(hc:C.chk P op (.usd x)=true)(h:Ylk objs K (x.ev sl)):Ye P a w ρ op K:=by
 cases op<;>simp only[C.chk,Uah]at hc;rename_i c;obtain⟨ca,args,ts⟩:=c;cases ca<;>(try simp only[Uah]at hc);rename_i b;cases b<;>(try simp only[Uah]at hc);split at hc
 ·rename_i u e1;have ea:args=#[u]:=by simpa using Ua4 List.toArray e1
  subst ea;have r1:=A.sound hs hc;have hrun:∀(val:Value) (o:Oper) (w':World),o.op=.call { callee:=.builtin .unsafeSliceData,args:=#[u],argTypes:=ts }->(Builtin.unsafeSliceData_ ts o.type #[a.eval u]).run P w'=.ok val w'->(execOp a.eval o).run P w'=.ok (.value val) w':=by
   intro val o w' ho hr;simp only[execOp,ho,resolve,invoke,builtin,Sem.run_bind,Sem.run_pure,Result.andThen_ok,List.map_toArray,Uam,Ubm,hr]
  unfold Ylk at h;split at h
  ·rename_i id n e2;obtain⟨⟨E,sz,xs,hl,hsz,rfl,hne⟩,hK⟩:=h;rw[e2,Yl]at r1;obtain⟨o,hρ,hv⟩:=r1;rcases hO.one id _ hl with⟨h1,rfl⟩ | ⟨b,cap,cs,sp,h1,h2,h3,h4,h5⟩
   ·exact absurd rfl hne
   ·rw[hρ]at h1; simp at h1; subst h1;have hu:=hv.2.2 rfl;have hcap:cap ≠ 0:=by
     intro e; subst e;have hcl:cs.length=xs.length*sz:=by rw[Rah _ _ h3,Raj _ h4]
     have hx:xs.length ≠ 0:=by simpa using hne
     have:0<xs.length*sz:=Nat.mul_pos (Ua9 hx) (Ua9 hsz);simp at h5; rw[h5.1]at hcl; simp at hcl; omega
    refine⟨_,_,hK,Yxy.2 ⟨_,hρ,Uak _,⟨_,rfl⟩,fun _ _=>rfl⟩,fun o ho w' _=>hrun _ o w' ho (by rw[hu]; exact Lib.run_unsafeSliceData_row _ _ _ _ _ _ hcap)⟩
  ·rename_i e2;rw[e2,W1]at r1;exact⟨_,_,h,Xi2.2 rfl,fun o ho w' _=>hrun _ o w' ho (by rw[r1]; exact Lib.run_unsafeSliceData_nil _ _ _ _ _)⟩
  ·exact h.elim
 ·simp at hc

theorem Xje {x:D}{u:Value}(h:(V.d x).rep w ρ u):∃cs,u=Xex x cs/\x.rep w (own ρ) cs:=by
 rw[Xao]at h;rcases h with⟨h1,ds,h2,h3⟩ | ⟨h1,h2⟩
 ·exact⟨ds,by simp[Xex,h1,h2],h3⟩
 ·exact⟨[u],by simp[Xex,h1],h2⟩
theorem X4n (hs:SM w ρ sl a){ty:KT}{e:Bool}{x y:A}{op:Op}(hc:C.chk P op (.eqD ty e x y)=true)(h:Ynf ty e K (x.ev sl) (y.ev sl)):Ye P a w ρ op K:=by
 cases op<;>simp only[C.chk,Uah]at hc;rename_i o t x1 y1 t2;simp only[Uai,Ubp,Ubq]at hc;obtain⟨⟨⟨⟨⟨⟨ho,hty⟩,hdep⟩,hag⟩,hgd⟩,hx⟩,hy⟩:=hc;have r1:=A.sound hs hx;have r2:=A.sound hs hy;unfold Ynf at h;split at h
 ·rename_i dx dy e1 e2;rw[e1]at r1;rw[e2]at r2;obtain⟨fx,fy,hK⟩:=h;have ax:dx.isAgg=true/\dy.isAgg=true:=by
   cases ty<;>simp only[Uah]at hag<;>cases dx<;>simp only[KT.fits,Uah]at fx<;>cases dy<;>simp only[KT.fits,Uah]at fy<;>exact⟨rfl,rfl⟩
  obtain⟨cx,ux,rx⟩:=Xje r1;obtain⟨cy,uy,ry⟩:=Xje r2;have q:=KT.equal ty t dx dy cx cy 10000 hty fx fy rx ry hdep;have vx:Xex dx cx=.agg cx.toArray:=by simp[Xex,ax.1]
  have vy:Xex dy cy=.agg cy.toArray:=by simp[Xex,ax.2]
  rw[vx,vy]at q;rw[vx]at ux;rw[vy]at uy;refine⟨_,_,hK,rep_bool.2 rfl,fun op' hop w' _=>?_⟩;have hg:(eqGuard o t x1 y1 (.agg cx.toArray) (.agg cy.toArray)).run P w'=.ok () w':=run_eqGuard_agg w' o t x1 y1 _ _ hgd;cases e with
  | true=>
   simp only[Ubb]at ho;subst ho;simp only[execOp,hop,ux,uy,Sem.run_bind,hg,Result.andThen_ok,run_eql_struct,q];simp
  | false=>
   simp only[Uah,Uay]at ho;subst ho;simp only[execOp,hop,ux,uy,Sem.run_bind,hg,Result.andThen_ok,run_neq_struct,q];simp
 ·exact h.elim
theorem Xvz (hs:SM w ρ sl a){n z:Nat}{ag:Bool}{x y:A}{op:Op}(hc:C.chk P op (.aix n z ag x y)=true)(h:Xnx n z ag K (x.ev sl) (y.ev sl)):Ye P a w ρ op K:=by
 cases op<;>simp only[C.chk,Uah]at hc;rename_i t x1 y1;simp only[Uai]at hc;obtain⟨⟨h0,h1⟩,h2⟩:=hc;have r1:=A.sound hs h1;have r2:=A.sound hs h2;obtain⟨e,ht,he,hu,hag⟩:∃e,P.underlying t=some (.array n e)/\Yh P e=some z/\(P.underlying e).isSome=true/\agT P e=ag:=by
  revert h0; split
  ·rename_i m e h; intro h0; simp only[Uai,Ubn]at h0; obtain⟨⟨⟨rfl,h3⟩,h4⟩,h5⟩:=h0; exact⟨e,h,h3,h4,h5⟩
  ·intro h; cases h
 unfold Xnx at h;split at h
 ·rename_i xs k i e1 e2;rw[e1]at r1;rw[e2,X9]at r2;obtain⟨⟨hi0,hi⟩,hl,hall,hK⟩:=h;obtain⟨cs,u1,rx⟩:=Xje r1;simp only[D.rep]at rx;simp only[Xex,D.isAgg,Ubb]at u1;have hlt:i.toNat<xs.length:=by omega
  have h3:=Ral rx hlt;have hsz:Raa (xs.take i.toNat)=i.toNat*z:=by
   rw[Raj (sz:=z) _ (fun x hx=>(hall x (Ua6 hx)).1),Ua7,Ua8 (by omega)]
  have hm:=hall _ (Uba hlt);rw[hsz,hm.1]at h3;have hlen:=Rag _ _ h3;have hg:xs.getD i.toNat default=xs[i.toNat]:=by simp[hlt]
  rw[hg]at hK;have hrun:∀w',(part e cs.toArray (i.toNat*z)).run P w'=.ok (Xex xs[i.toNat] ((cs.drop (i.toNat*z)).take z)) w':=by
   intro w';simp only[part,Sem.run_bind,J8 hu,hag,Result.andThen_ok,Xex,hm.2];cases ag with
   | true=>
    simp only[Ubb,Sem.run_bind,Xu he,Result.andThen_ok,Sem.run_pure];congr 2;apply Array.ext';simp[List.take_drop]
   | false=>
    have h1:xs[i.toNat].sz=1:=by
     have:=hm.2;cases hx:xs[i.toNat]<;>simp_all[D.isAgg,D.sz]
    have hz1:z=1:=by rw[<-hm.1,h1]
    subst hz1;rw[h1]at hlen;obtain⟨c,hc'⟩:=Ua0.1 hlen;have:cs[i.toNat*1]? = some c:=by
     have:=Ua4 (·[0]?) hc';simpa[List.getElem?_take,List.getElem?_drop]using this
    simp only[Uah,Uay,hc',List.headD_cons];simp at this;simp[this]
  refine⟨Xex xs[i.toNat] ((cs.drop (i.toNat*z)).take z),_,hK,?_,fun o ho w' _=>?_⟩
  ·rw[Xao];simp only[Xex,hm.2];cases ag with
   | true=>exact .inl ⟨rfl,_,rfl,h3⟩
   | false=>
    refine .inr ⟨rfl,?_⟩;have h1:xs[i.toNat].sz=1:=by
     have:=hm.2;cases hx:xs[i.toNat]<;>simp_all[D.isAgg,D.sz]
    rw[h1]at hlen;obtain⟨c,hc'⟩:=Ua0.1 hlen;rw[hc']at h3⊢;simpa using h3
  ·simp[execOp,ho,Instr.index,u1,r2,asIntOf,Xe ht,hi0,hi,Xu he,hrun]
 ·exact h.elim

def C.isLd:C->Bool
 | .ld _ _ _=>true
 | .ldd _ _ _=>true
 | _=>false
def C.isLdd:C->Bool
 | .ldd _ _ _=>true
 | _=>false
theorem Yh0 {objs:Xb}{n:Nat}{ag:Bool}{v:V}(h:Xwj n ag K v):ldK objs n ag K v:=by
 unfold Xwj at h;split at h
 ·simpa only[ldK]using h
 ·exact h.elim
theorem X4r (hs:SM w ρ sl a)(hO:OM w ρ objs){n:Nat}{ag:Bool}{x:A}{op:Op}(hc:C.chk P op (.ldd n ag x)=true)(h:Xwj n ag K (x.ev sl)):Jv true P a w ρ op K:=
 Qu hs hO (show C.chk P op (.ld n ag x)=true from hc) (Yh0 h)
theorem Rbq (hs:SM w ρ sl a)(hO:OM w ρ objs){op:Op}{c:C}(hl:c.isLdd=true)(hc:c.chk P op=true)(h:c.wp sl objs K) :
  ∃v x,K x/\x.rep w ρ v/\∀(o:Oper),o.op=op->∀w':World,(∀b,b<w.heap.size->¬own ρ b->w'.heap[b]? = w.heap[b]?)->(execOp a.eval o).run P w'=.ok (.value v) w':=by
 cases c<;>simp[C.isLdd]at hl;rename_i n ag x;cases op<;>simp[C.chk]at hc;rename_i t x1;obtain⟨⟨⟨hn,hu⟩,hag⟩,h1⟩:=hc;have r1:=A.sound hs h1;simp only[C.wp]at h;unfold Xwj at h;split at h
 ·rename_i y e1;rw[e1,Qc]at r1;obtain⟨ad,vs,r1,hsp,hce,hre⟩:=r1;obtain⟨h2,h3,h⟩:=h;obtain⟨b,off,sp⟩:=ad;obtain⟨hb,hcell⟩:=hce;simp only at hsp; subst hsp;have hre':(V.d y).repC w ρ vs:=by simpa[V.repC]using hre
  have h2':(V.d y).size=n:=by simp[V.size,V.shape,Ran,h2]
  have hl:=Ra0 _ _ hre';refine⟨_,.d y,h,Vp hre',fun o ho w' he=>?_⟩;have:=Xhf (P:=P) (t:=t) (n:=n) hn hu (b:=b) (off:=off) (cs:=vs) (by rw[hl,<-h2']; rfl) (w':=w') (fun i hi=>by
   have hne:vs ≠ []:=by intro e; subst e; simp at hi
   obtain⟨_,g1,g2⟩:=hb hne;rw[cell?_congr (he b g2 g1)]; exact hcell i hi) (fun h4=>by rw[hag]at h4; rw[h4]at h3; rw[<-h2']; exact Wh h3)
  simp only[execOp,ho,r1,Sem.run_bind,this,Result.andThen_ok,Sem.run_pure,hag,h3]
 ·exact h.elim

theorem C.sound (hs:SM w ρ sl a)(hO:OM w ρ objs){op:Op}:∀{c:C},c.chk P op=true->c.wp sl objs K->Jv c.isLd P a w ρ op K
 | .mv _,hc,h=>Yag hs hc h
 | .pick _ _ _,hc,h=>Xv4 hs hc h
 | .not _,hc,h=>X4v hs hc h
 | .neg _,hc,h=>X4u hs hc h
 | .cpl _,hc,h=>X4k hs hc h
 | .mx _ _,hc,h=>Yah hs hc h
 | .bin _ _ _,hc,h=>X4i hs hc h
 | .beq _ _ _,hc,h=>X4h hs hc h
 | .isnil _ _,hc,h=>Xql hs hc h
 | .pnil _ _,hc,h=>Xv5 hs hc h
 | .fnil _ _,hc,h=>Xvw hs hc h
 | .peq _ _ _,hc,h=>X4w hs hO hc h
 | .usd _,hc,h=>X4y hs hO hc h
 | .cvi _ _,hc,h=>X4l hs hc h
 | .cvs _,hc,h=>X4m hs hc h
 | .idx _ _,hc,h=>X4q hs hc h
 | .idxA _ _ _,hc,h=>Xvx hs hO hc h
 | .idxP _ _ _ _,hc,h=>Xvy hs hO hc h
 | .fldA _ _ _,hc,h=>Xgf hs hO hc h
 | .fld _ _ _ _ _,hc,h=>X4p hs hc h
 | .ld _ _ _,hc,h=>Qu hs hO hc h
 | .ldd _ _ _,hc,h=>X4r hs hO hc h
 | .nilc _,hc,h=>Xv3 hs hc h
 | .lenS _,hc,h=>Xv2 hs hc h
 | .lenL _,hc,h=>Xv1 hs hO hc h
 | .lenA _,hc,h=>Xv0 hc h
 | .slcS _ _ _,hc,h=>Xv7 hs hc h
 | .slcL _ _ _ _,hc,h=>Xv6 hs hc h
 | .ext _ _,hc,h=>X4o hs hc h
 | .bld _ _,hc,h=>X4j hs hc h
 | .mkf _ _ _,hc,h=>X4s hs hc h
 | .mki _ _,hc,h=>X4t hs hc h
 | .tas _ _ _,hc,h=>X4x hs hc h
 | .eqD _ _ _ _,hc,h=>X4n hs hc h
 | .aix _ _ _ _ _,hc,h=>Xvz hs hc h
end
end Go.Ab
namespace Go.Ab
open Go
section
variable {P:Program} {w:World} {ρ:Env} {ob:Xb}

def Env.ins (ρ:Env)(id:Nat)(o:RO):Env:=⟨fun j=>if j=id then some o else ρ.m j,ρ.xo,ρ.gl⟩

theorem OM.free (h:OM w ρ ob){id:Nat}(hl:Xd ob id=none):ρ.m id=none:=by
 cases hr:ρ.m id with
 | none=>rfl
 | some o=>obtain⟨x,hx⟩:=h.dom id o hr; rw[hl]at hx; cases hx

def Xay (w:World)(o:Obj):World:={ w with heap:=w.heap.push o }

theorem Zx (w:World)(o:Obj):(Xay w o).heap[w.heap.size]? = some o:=by
 show (w.heap.push o)[w.heap.size]? = some o;simp
theorem Xx6 (w:World)(o:Obj){b:Nat}(h:b<w.heap.size):(Xay w o).heap[b]? = w.heap[b]?:=by
 show (w.heap.push o)[b]? = w.heap[b]?;simp[Array.getElem?_push,Nat.ne_of_lt h]
theorem Zp (w:World)(o:Obj):Ext w (Xay w o):=⟨by show w.heap.size<=(w.heap.push o).size; simp,fun _ h=>Xx6 w o h,rfl,rfl,rfl,Uak _⟩

theorem Wy (h:OM w ρ ob){id:Nat}{o:RO}{b:Nat}(hr:ρ.m id=some o)(hb:o.blk? = some b):b<w.heap.size:=by
 obtain⟨x,hx⟩:=h.dom id o hr;have h1:=h.one id x hx;cases x with
 | box E t=>
  obtain⟨b',cs,h2,h3,_⟩:=h1;rw[hr]at h2; simp at h2; subst h2; simp[RO.blk?]at hb; subst hb; exact Xj h3
 | arr E sz xs=>
  rcases h1 with⟨h2,_⟩ | ⟨b',cap,cs,sp,h2,h3,_⟩
  ·rw[hr]at h2; simp at h2; subst h2; simp[RO.blk?]at hb
  ·rw[hr]at h2; simp at h2; subst h2; simp[RO.blk?]at hb; subst hb; exact Xj h3
 | vec E sz xs=>
  rcases h1 with⟨h2,_⟩ | ⟨b',cap,cs,sp,h2,h3,_⟩
  ·rw[hr]at h2; simp at h2; subst h2; simp[RO.blk?]at hb
  ·rw[hr]at h2; simp at h2; subst h2; simp[RO.blk?]at hb; subst hb; exact Xj h3
 | map es=>
  obtain⟨b',l,clk,h2,h3,_⟩:=h1;rw[hr]at h2; simp at h2; subst h2; simp[RO.blk?]at hb; subst hb; exact Xj h3
 | lp tag st sl=>
  obtain⟨b',fn,tm,dd,ps,ca,cb,h2,h3,_⟩:=h1;rw[hr]at h2; simp at h2; subst h2; simp[RO.blk?]at hb; subst hb; exact Xj h3
 | it m n seen=>
  cases m with
  | none=>
   obtain⟨b',h2,h3⟩:=h1;rw[hr]at h2; simp at h2; subst h2; simp[RO.blk?]at hb; subst hb; exact Xj h3
  | some j=>
   obtain⟨b',mb,h2,_,h3⟩:=h1;rw[hr]at h2; simp at h2; subst h2; simp[RO.blk?]at hb; subst hb; exact Xj h3
 | gone=>
  have h2:ρ.m id=some .gone:=h1;rw[hr]at h2; simp at h2; subst h2; simp[RO.blk?]at hb

theorem Vn (w':World)(he:Ext w w'){id:Nat}{o:RO}(hf:ρ.m id=none)(hb:∀b,o.blk? = some b->w.heap.size<=b):Tr w ρ w' (ρ.ins id o):=by
 refine⟨he.size,fun b _ h=>he.keep b h,fun b h=>?_,rfl,rfl,fun j x hx=>⟨x,?_,.refl x⟩,he.tape,he.os,he.out,he.drawn⟩
 ·obtain⟨j,x,h1,h2⟩:=h;simp only[Env.ins]at h1;split at h1
  ·simp at h1; subst h1; exact .inr (hb b h2)
  ·exact .inl ⟨j,x,h1,h2⟩
 ·simp only[Env.ins];split
  ·rename_i e; subst e; rw[hf]at hx; cases hx
  ·exact hx

theorem Un.tr {w':World}{ρ':Env}(t:Tr w ρ w' ρ'){id:Nat}{x:Ob}(h:Un w ρ id x)(hr:ρ'.m id=ρ.m id)(hb:∀b o,ρ.m id=some o->o.blk? = some b->w'.heap[b]? = w.heap[b]?):Un w' ρ' id x:=by
 cases x with
 | box E y=>
  obtain⟨b,cs,h1,h2,h3⟩:=h;exact⟨b,cs,hr.trans h1,(hb b _ h1 rfl).trans h2,Rat t _ _ h3⟩
 | arr E sz xs=>
  rcases h with⟨h1,h2⟩ | ⟨b,cap,cs,sp,h1,h2,h3,h4,h5⟩
  ·exact .inl ⟨hr.trans h1,h2⟩
  ·exact .inr ⟨b,cap,cs,sp,hr.trans h1,(hb b _ h1 rfl).trans h2,Raf t.mono _ _ h3,h4,h5⟩
 | vec E sz xs=>
  rcases h with⟨h1,h2⟩ | ⟨b,cap,cs,sp,h1,h2,h3,h4,h5⟩
  ·exact .inl ⟨hr.trans h1,h2⟩
  ·exact .inr ⟨b,cap,cs,sp,hr.trans h1,(hb b _ h1 rfl).trans h2,Rau t _ _ h3,h4,h5⟩
 | map es=>
  obtain⟨b,l,clk,h1,h2,h3,h4⟩:=h;exact⟨b,l,clk,hr.trans h1,(hb b _ h1 rfl).trans h2,Yb.tr t _ _ h3,h4⟩
 | lp tag st sl=>
  obtain⟨b,fn,tm,dd,ps,ca,cb,h1,h2,h3,h4⟩:=h;exact⟨b,fn,tm,dd,ps,ca,cb,hr.trans h1,(hb b _ h1 rfl).trans h2,by rw[t.gl]; exact h3,fun p hp=>Raw t (h4 p hp)⟩
 | it m n seen=>
  cases m with
  | none=>obtain⟨b,h1,h2⟩:=h; exact⟨b,hr.trans h1,(hb b _ h1 rfl).trans h2⟩
  | some j=>
   obtain⟨b,mb,h1,h3,h2⟩:=h;refine⟨b,mb,hr.trans h1,?_,(hb b _ h1 rfl).trans h2⟩;rcases h3 with h3 | h3
   ·obtain⟨o',h4,h5⟩:=t.same j _ h3;cases h5 with
    | refl=>exact .inl h4
    | gone=>exact .inr h4
    | grow k h5=>rcases h5 with⟨h5,_⟩ | ⟨_,_,h5⟩<;>cases h5
   ·obtain⟨o',h4,h5⟩:=t.same j _ h3;cases h5 with
    | refl=>exact .inr h4
    | gone=>exact .inr h4
    | grow k h5=>rcases h5 with⟨h5,_⟩ | ⟨_,_,h5⟩<;>cases h5
 | gone=>exact hr.trans h

theorem OM.ins {w':World}(h:OM w ρ ob)(he:Ext w w'){id:Nat}{o:RO}{x:Ob}(hl:Xd ob id=none)(hb:∀b,o.blk? = some b->w.heap.size<=b)
  (hx:Un w' (ρ.ins id o) id x):OM w' (ρ.ins id o) ((id,x)::ob):=by
 have hf:=h.free hl;have t:=Vn w' he (o:=o) hf hb;refine⟨fun j y hy=>?_,fun j y hy=>?_,fun i j p q b h1 h2 h3 h4=>?_,fun b hb=>Uaz (h.xlt b hb) he.size,J4 t h.glb,fun b h1 h2=>?_,⟨hl,h.once⟩⟩
 ·simp only[Xd]at hy;split at hy
  ·rename_i e; subst e; simp at hy; subst hy; exact hx
  ·rename_i e;refine Un.tr t (h.one j y hy) (by simp[Env.ins,Ne.symm e]) (fun b z h1 h2=>he.keep b (Wy h h1 h2))
 ·simp only[Xd];split
  ·exact⟨x,rfl⟩
  ·rename_i e; exact h.dom j y (by simpa[Env.ins,Ne.symm e]using hy)
 ·simp only[Env.ins]at h1 h2;split at h1
  ·rename_i e1;split at h2
   ·rename_i e2; exact e1.trans e2.symm
   ·simp at h1; subst h1;have:=Wy h h2 h4;have:=hb b h3;omega
  ·split at h2
   ·simp at h2; subst h2;have:=Wy h h1 h3;have:=hb b h4;omega
   ·exact h.inj i j p q b h1 h2 h3 h4
 ·obtain⟨i,p,h3,h4⟩:=h1;simp only[Env.ins]at h3;split at h3
  ·simp at h3; subst h3;have:=hb b h4;have:=h.xlt b h2;omega
  ·exact h.xdis b ⟨i,p,h3,h4⟩ h2

theorem X1g (h:OM w ρ ob){id:Nat}(hl:Xd ob id=none){t:V}{cs:List Value}(hre:t.repC w ρ cs)(E:TypeId) :
  Tr w ρ (Xay w (.cells cs.toArray E)) (ρ.ins id (.box w.heap.size t.shape))/\OM (Xay w (.cells cs.toArray E)) (ρ.ins id (.box w.heap.size t.shape)) ((id,.box E t)::ob)/\
   (V.ptr id []).rep (Xay w (.cells cs.toArray E)) (ρ.ins id (.box w.heap.size t.shape)) (.pointer (some ⟨w.heap.size,0,none⟩)):=by
 have he:=Zp w (.cells cs.toArray E);have t1:=Vn _ he (o:=.box w.heap.size t.shape) (h.free hl) (fun b hb=>by simp[RO.blk?]at hb; omega);refine⟨t1,h.ins he hl (fun b hb=>by simp[RO.blk?]at hb; omega) ?_,?_⟩
 ·exact⟨w.heap.size,cs,by simp[Env.ins],Zx _ _,Rat t1 _ _ hre⟩
 ·have:t.shape.off []=0:=by cases t.shape<;>simp[Sh.off]
  have h2:=Qq (w:=Xay w (.cells cs.toArray E)) (ρ:=ρ.ins id (.box w.heap.size t.shape)) (id:=id) (p:=[]) (b:=w.heap.size) (sh:=t.shape) (by simp[Env.ins]);rw[this]at h2;exact h2

mutual
def V.sto:V->Bool
 | .agg xs=>Rbr xs
 | .tup _ | .undef | .any=>false
 | _=>true
def Rbr:List V->Bool
 | []=>true
 | x::r=>x.sto&&Rbr r
end

mutual
theorem D.one {ow:Nat->Prop}:∀(d:D) (cs:List Value),d.rep w ow cs->∀c∈cs,c.oneCell'=true
 | .int _ _,cs,h | .bool _,cs,h | .str _,cs,h | .nils,cs,h | .nili,cs,h | .nilp,cs,h | .nilf,cs,h | .nilm,cs,h=>by simp[D.rep]at h; simp[h,Value.oneCell']
 | .list sz xs,cs,h=>by
  simp only[D.rep]at h;rcases h with⟨_,h⟩ | ⟨a,cap,vs,h,_⟩<;>simp[h,Value.oneCell']
 | .ref x,cs,h=>by simp only[D.rep]at h; obtain⟨a,vs,e,_⟩:=h; simp[e,Value.oneCell']
 | .iface t x,cs,h=>by simp only[D.rep]at h; obtain⟨u,e,_⟩:=h; simp[e,Value.oneCell']
 | .fn f fi ca,cs,h=>by simp only[D.rep]at h; obtain⟨fs,gs,e,_⟩:=h; simp[e,Value.oneCell']
 | .agg xs,cs,h=>by simp only[D.rep]at h; exact Rbs xs cs h
theorem Rbs {ow:Nat->Prop}:∀(xs:List D) (cs:List Value),Rac w ow xs cs->∀c∈cs,c.oneCell'=true
 | [],cs,h=>by simp[Rac]at h; simp[h]
 | x::r,cs,h=>by
  simp only[Rac]at h;obtain⟨c1,c2,rfl,h1,h2⟩:=h;intro c hc;rcases Ubu.1 hc with hc | hc
  ·exact D.one x c1 h1 c hc
  ·exact Rbs r c2 h2 c hc
end

mutual
theorem V.one:∀(v:V) (cs:List Value),v.sto=true->v.repC w ρ cs->∀c∈cs,c.oneCell'=true
 | .d x,cs,_,h=>by simp only[V.repC]at h; exact D.one x cs h
 | .ptr id p,cs,_,h=>by simp only[V.repC]at h; rcases h with⟨b,sh,_,e⟩ | ⟨_,a,e⟩<;>simp[e,Value.oneCell']
 | .sl id n,cs,_,h=>by
  simp only[V.repC]at h;obtain⟨o,u,_,e,h2⟩:=h;cases o with
  | box b s=>simp[RO.slice]at h2
  | map b=>simp[RO.slice]at h2
  | arr b l c=>simp only[RO.slice]at h2; obtain⟨_,⟨x,y,z,rfl⟩,_⟩:=h2; simp[e,Value.oneCell']
  | virt=>simp only[RO.slice]at h2; obtain⟨_,rfl⟩:=h2; simp[e,Value.oneCell']
  | gone=>simp only[RO.slice]at h2; obtain⟨x,y,z,rfl⟩:=h2; simp[e,Value.oneCell']
 | .sd id n,cs,_,h=>by
  simp only[V.repC]at h;obtain⟨o,u,_,e,h2⟩:=h;cases o with
  | box b s=>simp[RO.sdata]at h2
  | map b=>simp[RO.sdata]at h2
  | arr b l c=>simp only[RO.sdata]at h2; obtain⟨_,⟨x,rfl⟩,_⟩:=h2; simp[e,Value.oneCell']
  | virt=>simp only[RO.sdata]at h2; obtain⟨_,_,rfl⟩:=h2; simp[e,Value.oneCell']
  | gone=>simp only[RO.sdata]at h2; obtain⟨_,rfl⟩:=h2; simp[e,Value.oneCell']
 | .mp id,cs,_,h=>by simp only[V.repC]at h; rcases h with⟨_,_,e⟩ | ⟨_,_,e⟩<;>simp[e,Value.oneCell']
 | .hd y id,cs,_,h=>by simp only[V.repC]at h; rcases h with⟨_,_,e⟩ | ⟨_,_,e⟩<;>cases y<;>simp[e,hdV,Value.oneCell']
 | .bs id p lo n,cs,_,h=>by simp only[V.repC]at h; rcases h with⟨_,_,_,_,_,_,e⟩ | ⟨_,_,_,_,e⟩<;>simp[e,Value.oneCell']
 | .ep id n z i f p,cs,_,h=>by
  simp only[V.repC]at h;obtain⟨o,u,_,e,h2⟩:=h;cases o with
  | box b s=>simp[RO.elem]at h2
  | map b=>simp[RO.elem]at h2
  | arr b l c=>simp only[RO.elem]at h2; obtain⟨_,⟨x,rfl⟩,_⟩:=h2; simp[e,Value.oneCell']
  | virt=>simp[RO.elem]at h2
  | gone=>simp only[RO.elem]at h2; obtain⟨_,rfl⟩:=h2; simp[e,Value.oneCell']
 | .fn f fi ca,cs,_,h=>by simp only[V.repC]at h; obtain⟨fs,gs,e,_⟩:=h; simp[e,Value.oneCell']
 | .agg xs,cs,hs,h=>by simp only[V.repC]at h; simp only[V.sto]at hs; exact Rbt xs cs hs h
 | .iface t x,cs,_,h=>by simp only[V.repC]at h; obtain⟨u,e,_⟩:=h; simp[e,Value.oneCell']
 | .tup xs,cs,hs,h | .undef,cs,hs,h | .any,cs,hs,h=>by simp[V.sto]at hs
theorem Rbt:∀(xs:List V) (cs:List Value),Rbr xs=true->Rap w ρ xs cs->∀c∈cs,c.oneCell'=true
 | [],cs,_,h=>by simp[Rap]at h; simp[h]
 | x::r,cs,hs,h=>by
  simp only[Rap]at h;simp only[Rbr,Uai]at hs;obtain⟨c1,c2,rfl,h1,h2⟩:=h;intro c hc;rcases Ubu.1 hc with hc | hc
  ·exact V.one x c1 hs.1 h1 c hc
  ·exact Rbt r c2 hs.2 h2 c hc
end

theorem Rbu {v:V}(h:v.sto=true):v ≠ .any:=by intro e; subst e; simp[V.sto]at h

theorem Xs {x:Ob}:∀(ob:Xb) (id j:Nat),(∃y,Xd ob id=some y)->Xd (setO ob id x) j=if j=id then some x else Xd ob j
 | [],id,j,h=>by simp[Xd]at h
 | (k,y)::r,id,j,h=>by
  simp only[setO];split
  ·rename_i e; subst e;simp only[Xd];by_cases hj:k=j
   ·simp[hj]
   ·simp[hj,Ne.symm hj]
  ·rename_i e;simp only[Xd]at h⊢;rw[Ubo e]at h;rw[Xs r id j h];by_cases hj:k=j
   ·subst hj; simp[e]
   ·simp[hj]

theorem Xhb (h:OM w ρ ob){id:Nat}{w2:World}(hl:∃y,Xd ob id=some y)(hsz:w2.heap.size=w.heap.size)(hk:∀j,(∀o,ρ.m id=some o->o.blk? ≠ some j)->w2.heap[j]? = w.heap[j]?)
  (htp:w2.tape=w.tape) (hos:w2.os=w.os) (hout:w2.output=w.output) (hdr:w.drawn<=w2.drawn):Tr w ρ w2 (ρ.ins id .gone)/\OM w2 (ρ.ins id .gone) (setO ob id .gone)/\∀b o,ρ.m id=some o->o.blk? = some b->¬own (ρ.ins id .gone) b:=by
 have t1:Tr w ρ w2 (ρ.ins id .gone):=by
  refine⟨by omega,fun b hb _=>hk b (fun o h1 h2=>hb ⟨id,o,h1,h2⟩),fun b hb=>.inl ?_,rfl,rfl,fun j o hj=>?_,htp,hos,hout,hdr⟩
  ·obtain⟨j,o,h1,h2⟩:=hb;simp only[Env.ins]at h1;split at h1
   ·simp at h1; subst h1; simp[RO.blk?]at h2
   ·exact⟨j,o,h1,h2⟩
  ·by_cases e:j=id
   ·exact⟨.gone,by simp[Env.ins,e],.gone o⟩
   ·exact⟨o,by simp[Env.ins,e,hj],.refl o⟩
 have hno:∀b o,ρ.m id=some o->o.blk? = some b->¬own (ρ.ins id .gone) b:=by
  rintro b o h1 h2 (⟨j,p,h3,h4⟩ | h3)
  ·simp only[Env.ins]at h3;split at h3
   ·simp at h3; subst h3; simp[RO.blk?]at h4
   ·rename_i e; exact e (h.inj j id p o b h3 h1 h4 h2)
  ·exact h.xdis b ⟨id,o,h1,h2⟩ h3
 refine⟨t1,⟨fun j y hy=>?_,fun j o hj=>?_,fun i j p q b h1 h2 h3 h4=>?_,fun b hb=>by rw[hsz]; exact h.xlt b hb,J4 t1 h.glb,fun b hb=>?_,h.once.set⟩,hno⟩
 ·rw[Xs ob id j hl]at hy;split at hy
  ·rename_i e; subst e; simp at hy; subst hy;simp[Un,Env.ins]
  ·rename_i e;exact Un.tr t1 (h.one j y hy) (by simp[Env.ins,e]) (fun b p h1 h2=>hk b (fun o h3 h4=>e (h.inj j id p o b h1 h3 h2 h4)))
 ·rw[Xs ob id j hl];split
  ·exact⟨_,rfl⟩
  ·rename_i e; exact h.dom j o (by simpa[Env.ins,e]using hj)
 ·simp only[Env.ins]at h1 h2;split at h1
  ·simp at h1; subst h1; simp[RO.blk?]at h3
  ·split at h2
   ·simp at h2; subst h2; simp[RO.blk?]at h4
   ·exact h.inj i j p q b h1 h2 h3 h4
 ·obtain⟨j,o,h1,h2⟩:=hb;simp only[Env.ins]at h1;split at h1
  ·simp at h1; subst h1; simp[RO.blk?]at h2
  ·exact h.xdis b ⟨j,o,h1,h2⟩
theorem Xha (h:OM w ρ ob){id:Nat}(hl:∃y,Xd ob id=some y):Tr w ρ w (ρ.ins id .gone)/\OM w (ρ.ins id .gone) (setO ob id .gone)/\∀b o,ρ.m id=some o->o.blk? = some b->¬own (ρ.ins id .gone) b:=
 Xhb h hl rfl (fun _ _=>rfl) rfl rfl rfl (Uak _)

theorem J3 (h:OM w ρ ob){id E sz:Nat}{xs:List D}(hl:Xd ob id=some (.arr E sz xs))(hsz:sz ≠ 0){u:Value}(hv:(V.sl id xs.length).rep w ρ u) :
  (V.d (.list sz xs)).rep w (ρ.ins id .gone) u:=by
 obtain⟨t1,_,hno⟩:=Xha h ⟨_,hl⟩;rw[Yl]at hv;obtain⟨o,hρ,hv⟩:=hv;rw[Zn];rcases h.one id _ hl with⟨h1,rfl⟩ | ⟨b,cap,cs,sp,h1,h2,h3,h4,h5⟩
 ·rw[hρ]at h1; simp at h1; subst h1;exact .inl ⟨rfl,hv.2⟩
 ·rw[hρ]at h1; simp at h1; subst h1;have hu:=hv.2.2 rfl;refine .inr ⟨_,cap,cs,hu,?_,⟨fun _=>⟨rfl,hno b _ hρ rfl,Xj h2⟩,fun i hi=>?_⟩,Raf t1.mono _ _ h3,h4⟩
  ·have hcl:cs.length=xs.length*sz:=by rw[Rah _ _ h3,Raj _ h4]
   have:xs.length*sz<=cap*sz:=by rw[<-h5,<-hcl]; simp
   exact Ubv this (Ua9 hsz)
  ·simp[World.cell?,h2,Ubc,hi]

theorem Xmt (h:OM w ρ ob){id:Nat}{t t':V}{b:Nat}{cs cs':List Value}{E:TypeId}(hl:Xd ob id=some (.box E t))(hr:ρ.m id=some (.box b t.shape))
  (hb:w.heap[b]? = some (.cells (List.toArray cs) E (0,0))) (hs:t'.shape=t.shape) (hre:t'.repC w ρ cs') :
  Tr w ρ (w.setRow b cs'.toArray) ρ/\OM (w.setRow b cs'.toArray) ρ (setO ob id (.box E t')):=by
 have t1:Tr w ρ (w.setRow b cs'.toArray) ρ:=by
  refine⟨by simp,fun j hj _=>setRow_other w b j _ (fun e=>hj ?_),fun _ h=>.inl h,rfl,rfl,fun _ o h=>⟨o,h,.refl o⟩,rfl,rfl,rfl,Uak _⟩;subst e; exact⟨id,_,hr,rfl⟩
 refine⟨t1,fun j y hy=>?_,fun j o hj=>?_,h.inj,fun b' hb'=>by simpa using h.xlt b' hb',J4 t1 h.glb,h.xdis,h.once.set⟩
 ·rw[Xs ob id j ⟨_,hl⟩]at hy;split at hy
  ·rename_i e; subst e;simp at hy; subst hy;exact⟨b,cs',by rw[hs]; exact hr,setRow_heap w b _ _ E _ hb,Rat t1 _ _ hre⟩
  ·rename_i e;refine Un.tr t1 (h.one j y hy) rfl (fun b' o h1 h2=>setRow_other w b b' _ (fun e2=>e ?_));subst e2;exact h.inj j id _ _ _ h1 hr h2 rfl
 ·rw[Xs ob id j ⟨_,hl⟩];split
  ·exact⟨_,rfl⟩
  ·exact h.dom j o hj

theorem Xen {x y:Ob}{id:Nat}:∀(ob:Xb),setO (setO ob id x) id y=setO ob id y
 | []=>rfl
 | (k,z)::r=>by
  simp only[setO];split
  ·rename_i e; simp[setO,e]
  ·rename_i e; simp[setO,e,Xen r]
theorem OM.swap (h:OM w ρ ob){id:Nat}{x x':Ob}(hl:Xd ob id=some x)(hx:Un w ρ id x'):OM w ρ (setO ob id x'):=by
 refine⟨fun j y hy=>?_,fun j o hj=>?_,h.inj,h.xlt,h.glb,h.xdis,h.once.set⟩
 ·rw[Xs ob id j ⟨_,hl⟩]at hy;split at hy
  ·rename_i e; subst e; simp at hy; subst hy; exact hx
  ·exact h.one j y hy
 ·rw[Xs ob id j ⟨_,hl⟩];split
  ·exact⟨_,rfl⟩
  ·exact h.dom j o hj
def Xqk:Ob->Nat->V->Ob
 | .vec E sz xs,i,t=>.vec E sz (xs.set i t)
 | .arr E sz xs,i,.d x=>.arr E sz (xs.set i x)
 | .arr E sz xs,i,t=>.vec E sz ((xs.map .d).set i t)
 | o,_,_=>o
theorem Xwc (h:OM w ρ ob){id n i:Nat}{o:Ob}{v0:V}(hl:Xd ob id=some o)(he:V0 n i (some o)=some v0) :
  ∃b cap E c1 c2 c3,ρ.m id=some (.arr b n cap)/\w.heap[b]? = some (.cells (List.toArray (c1++(c2++c3))) E (0,0))/\c1.length=i*v0.size/\v0.repC w ρ c2/\
   ∀(t':V) (c2':List Value),t'.shape=v0.shape->t'.repC w ρ c2'->Tr w ρ (w.setRow b (c1++(c2'++c3)).toArray) ρ/\OM (w.setRow b (c1++(c2'++c3)).toArray) ρ (setO ob id (Xqk o i t')):=by
 have key:∀(E sz:Nat) (vs:List V) (b cap:Nat) (cs sp:List Value),ρ.m id=some (.arr b n cap)->w.heap[b]? = some (.cells (List.toArray (cs++sp)) E (0,0))->Rap w ρ vs cs->(∀x∈vs,x.size=sz)->
   (cs++sp).length=cap*sz->n=vs.length->vs[i]? = some v0->(∀w' t' cs',w'.heap[b]? = some (.cells (List.toArray (cs'++sp)) E (0,0))->Rap w' ρ (vs.set i t') cs'->t'.size=sz->(cs'++sp).length=cap*sz->Un w' ρ id (Xqk o i t'))->
   ∃b cap E c1 c2 c3,ρ.m id=some (.arr b n cap)/\w.heap[b]? = some (.cells (List.toArray (c1++(c2++c3))) E (0,0))/\c1.length=i*v0.size/\v0.repC w ρ c2/\
   ∀(t':V) (c2':List Value),t'.shape=v0.shape->t'.repC w ρ c2'->Tr w ρ (w.setRow b (c1++(c2'++c3)).toArray) ρ/\OM (w.setRow b (c1++(c2'++c3)).toArray) ρ (setO ob id (Xqk o i t')):=by
  intro E sz vs b cap cs sp h1 h2 h3 h4 h5 h6 h7 hx;obtain⟨c1,c2,c3,e1,e2,g1,g2,g3⟩:=Ra4 h3 h7;have hv:v0.size=sz:=h4 v0 (List.mem_of_getElem? h7);have hlt:i<vs.length:=(Uan.1 h7).1;refine⟨b,cap,E,c1,c2,c3++sp,h1,by rw[h2,e1]; simp,?_,g2,fun t' c2' hs hr=>?_⟩
  ·rw[e2,<-Uap,Yf (z:=sz) _ (fun x hx=>h4 x (Ua6 hx)),Ua7,Ua8 (by omega),hv]
  have hlen:c2'.length=c2.length:=by rw[Ra0 _ _ hr,Ra0 _ _ g2,hs]
  have t1:Tr w ρ (w.setRow b (c1++(c2'++(c3++sp))).toArray) ρ:=by
   refine⟨by simp,fun j hj _=>setRow_other w b j _ (fun e=>hj ?_),fun _ h=>.inl h,rfl,rfl,fun _ o h=>⟨o,h,.refl o⟩,rfl,rfl,rfl,Uak _⟩;subst e; exact⟨id,_,h1,rfl⟩
  refine⟨t1,fun j y hy=>?_,fun j o hj=>?_,h.inj,fun b' hb'=>by simpa using h.xlt b' hb',J4 t1 h.glb,h.xdis,h.once.set⟩
  ·rw[Xs ob id j ⟨_,hl⟩]at hy;split at hy
   ·rename_i e; subst e;simp at hy; subst hy;refine hx _ t' (c1++(c2'++c3)) (by rw[setRow_heap w b _ _ E _ h2]; simp) ?_ (by unfold V.size; rw[hs]; exact hv) ?_
    ·refine Rau t1 _ _ ?_;have e8:vs.set i t'=vs.take i++(t'::vs.drop (i+1)):=Uaw.trans (by simp[hlt]);rw[e8];refine Ra3 g1 ?_;simp only[Rap];exact⟨_,c3,rfl,hr,g3⟩
    ·rw[<-h5,e1]; simp[hlen]
   ·rename_i e;refine Un.tr t1 (h.one j y hy) rfl (fun b' o' q1 q2=>setRow_other w b b' _ (fun e2=>e ?_));subst e2;exact h.inj j id _ _ _ q1 h1 q2 rfl
  ·rw[Xs ob id j ⟨_,hl⟩];split
   ·exact⟨_,rfl⟩
   ·exact h.dom j o hj
 cases o with
 | vec E sz xs=>
  simp only[V0]at he;split at he
  ·rename_i hn;rcases h.one id _ hl with⟨_,rfl⟩ | ⟨b,cap,cs,sp,h1,h2,h3,h4,h5⟩
   ·simp at he
   ·refine key E sz xs b cap cs sp (by rw[hn]; exact h1) h2 h3 h4 h5 hn he (fun w' t' cs' q1 q2 q3 q4=>.inr ⟨b,cap,cs',sp,by simpa[Xqk]using h1,q1,q2,fun x hx=>?_,q4⟩);rcases Ubw hx with hx | rfl
    ·exact h4 x hx
    ·exact q3
  ·cases he
 | arr E sz xs=>
  simp only[V0]at he;split at he
  ·rename_i hn;rcases h.one id _ hl with⟨_,rfl⟩ | ⟨b,cap,cs,sp,h1,h2,h3,h4,h5⟩
   ·simp at he
   ·have h4':∀x∈xs.map V.d,x.size=sz:=fun x hx=>by
     obtain⟨y,hy,rfl⟩:=Ua5.1 hx;simp[V.size,V.shape,Ran,h4 y hy]
    refine key E sz (xs.map .d) b cap cs sp (by rw[hn]; exact h1) h2 ((Ray _ _).2 h3) h4' h5 (by simpa using hn) he (fun w' t' cs' q1 q2 q3 q4=>?_);have gen:Un w' ρ id (.vec E sz ((xs.map .d).set i t')):=.inr ⟨b,cap,cs',sp,by simpa using h1,q1,q2,fun x hx=>by
     rcases Ubw hx with hx | rfl
     ·exact h4' x hx
     ·exact q3,q4⟩
    cases t' with
    | d x=>
     refine .inr ⟨b,cap,cs',sp,by simpa[Xqk]using h1,q1,?_,fun y hy=>?_,q4⟩
     ·rw[<-Uas,Ray]at q2; exact q2
     ·rcases Ubw hy with hy | rfl
      ·exact h4 y hy
      ·simpa[V.size,V.shape,Ran]using q3
    | _=>exact gen
  ·cases he
 | _=>simp[V0]at he

theorem Yhz (h:OM w ρ ob){id:Nat}(hl:Xd ob id=none) :
  Tr w ρ (Xay w (.map #[] 0)) (ρ.ins id (.map w.heap.size))/\OM (Xay w (.map #[] 0)) (ρ.ins id (.map w.heap.size)) ((id,.map [])::ob)/\
   (V.mp id).rep (Xay w (.map #[] 0)) (ρ.ins id (.map w.heap.size)) (.map (some w.heap.size)):=by
 have he:=Zp w (.map #[] 0);have t1:=Vn _ he (o:=.map w.heap.size) (h.free hl) (fun b hb=>by simp[RO.blk?]at hb; omega);refine⟨t1,h.ins he hl (fun b hb=>by simp[RO.blk?]at hb; omega) ?_,?_⟩
 ·exact⟨w.heap.size,[],0,by simp[Env.ins],Zx _ _,rfl,rfl,trivial⟩
 ·exact Xgb.2 (.inl ⟨w.heap.size,by simp[Env.ins],rfl⟩)

def Xaz (w:World)(b:Nat)(o:Obj):World:={ w with heap:=w.heap.setIfInBounds b o }
theorem Xau (w:World){b:Nat}(o:Obj)(h:b<w.heap.size):(Xaz w b o).heap[b]? = some o:=by
 show (w.heap.setIfInBounds b o)[b]? = some o;simp[h]
theorem Zv (w:World){b j:Nat}(o:Obj)(h:b ≠ j):(Xaz w b o).heap[j]? = w.heap[j]?:=by
 show (w.heap.setIfInBounds b o)[j]? = w.heap[j]?;simp[Ubx,h]
theorem Vh (w:World)(b:Nat)(o:Obj):(Xaz w b o).heap.size=w.heap.size:=by
 show (w.heap.setIfInBounds b o).size=w.heap.size;simp
theorem Xmu (h:OM w ρ ob){id:Nat}{es es':List (D×V)}{b:Nat}{l l':List MapEntry}{clk clk':Nat}(hl:Xd ob id=some (.map es))(hr:ρ.m id=some (.map b))
  (hb:w.heap[b]? = some (.map l.toArray clk)) (hre:Yb w ρ es' l') (hbn:clk'=l'.length/\Xa0 0 l') :
  Tr w ρ (Xaz w b (.map l'.toArray clk')) ρ/\OM (Xaz w b (.map l'.toArray clk')) ρ (setO ob id (.map es')):=by
 have t1:Tr w ρ (Xaz w b (.map l'.toArray clk')) ρ:=by
  refine⟨by rw[Vh]; exact Uak _,fun j hj _=>Zv w _ (fun e=>hj ?_),fun _ h=>.inl h,rfl,rfl,fun _ o h=>⟨o,h,.refl o⟩,rfl,rfl,rfl,Uak _⟩;subst e; exact⟨id,_,hr,rfl⟩
 refine⟨t1,fun j y hy=>?_,fun j o hj=>?_,h.inj,fun b' hb'=>by rw[Vh]; exact h.xlt b' hb',J4 t1 h.glb,h.xdis,h.once.set⟩
 ·rw[Xs ob id j ⟨_,hl⟩]at hy;split at hy
  ·rename_i e; subst e;simp at hy; subst hy;exact⟨b,l',clk',hr,Xau w _ (Xj hb),Yb.tr t1 _ _ hre,hbn⟩
  ·rename_i e;refine Un.tr t1 (h.one j y hy) rfl (fun b' o h1 h2=>Zv w _ (fun e2=>e ?_));subst e2;exact h.inj j id _ _ _ h1 hr h2 rfl
 ·rw[Xs ob id j ⟨_,hl⟩];split
  ·exact⟨_,rfl⟩
  ·exact h.dom j o hj

end
end Go.Ab
namespace Go.Ab
open Go

def Xcl (P:Program)(o:Oper)(a:Act)(next:Act->World->Prop)(Q:Exit->Act->World->Prop):Result Next->Prop
 | .ok (.value v) w'=>next (a.put o.dst v) w'
 | .ok .skip w'=>next (a.put o.dst undef) w'
 | .ok (.enter f args) w'=>Calls P f args w' fun
   | .returned v,w''=>next (a.put o.dst v) w''
   | .panicked chain,w''=>Q (.panic chain) a w''
   | .outgrown,_=>LetsOut Q
 | .ok (.round l f tmps assign body) w'=>RoundIn Fence.wide 0 P l f tmps assign body w' fun
   | .returned v,w''=>next (a.put o.dst v) w''
   | .panicked chain,w''=>Q (.panic chain) a w''
   | .outgrown,_=>LetsOut Q
 | .halt (.panic v) w'=>Q (.panic [{ v,recovered:=false }]) a w'
 | _=>False
def wpA (P:Program)(o:Oper)(a:Act)(w:World)(next:Act->World->Prop)(Q:Exit->Act->World->Prop):Prop:=
 Xcl P o a next Q ((execOp a.eval o).run P w)

def frm:Option Nat->Fence
 | none=>Fence.wide
 | some l=>Fence.wide.inRound l
theorem Xsy (r:Option Nat)(f:Nat):(frm r).fn f:=by cases r<;>exact trivial
theorem Xky (r:Option Nat):(frm r).depth=none:=by cases r<;>rfl
theorem Xkz (r:Option Nat):(frm r).round=r:=by cases r<;>rfl
theorem Xkx {r:Option Nat}{n:Nat}{P:Program}{f:Nat}{args:Array Value}{w:World}{R:Ending->World->Prop}(h:Calls P f args w R):CallsIn (frm r) n P f args w R:=by
 cases r with
 | none=>exact callsIn_wide.2 h
 | some l=>exact (callsIn_wide (n:=n).2 h).inRound l
theorem Xu9 {r:Option Nat}{n:Nat}{P:Program}{l f:Nat}{tmps:Array Value}{assign body:Code}{w:World}{R:Ending->World->Prop}(h:RoundIn Fence.wide 0 P l f tmps assign body w R):RoundIn (frm r) n P l f tmps assign body w R:=by
 have h1:RoundIn Fence.wide n P l f tmps assign body w R:=⟨h.1,fun c cs _=>h.2 c cs (room_wide _)⟩
 cases r with
 | none=>exact h1
 | some j=>exact h1

section
variable {P:Program} {ops:Array Oper} {Q:Exit->Act->World->Prop} {md:Region.Mode} {S:World->Prop}

theorem Ydo {o:Oper}(hd:∀c,o.op ≠ .defer c){a:Act}{w:World}{next:Act->World->Prop}{r:Option Nat}(h:wpA P o a w next Q):o.wpIn (frm r) 0 P a w next Q:=by
 unfold Oper.wpIn;refine⟨fun f _=>Xsy r f,?_⟩;have hs:o.semAt (frm r).round a.eval=execOp a.eval o:=by
  rw[Xkz];cases r with
  | none=>exact Oper.semAt_none _ _
  | some l=>exact Oper.semAt_some l _ o hd
 rw[hs];unfold wpA at h;generalize (execOp a.eval o).run P w=x at h⊢;have hdep:(frm r).depth.isSome=true->1<=0:=fun h=>by rw[Xky]at h; cases h
 cases x with
 | ok n w'=>
  cases n<;>simp only[Xcl]at h<;>simp only[Oper.uponIn]
  case value=>exact h
  case skip=>exact h
  case enter=>exact⟨hdep,Xkx h⟩
  case round=>exact⟨hdep,Xu9 h⟩
 | halt x w'=>
  cases x<;>simp only[Xcl]at h<;>simp only[Oper.uponIn];exact h

theorem Xt9 {o:Oper}{a:Act}{w:World}{K K':Act->World->Prop}(h:∀a w,K a w->K' a w)(hh:wpA P o a w K Q):wpA P o a w K' Q:=by
 unfold wpA at *;generalize (execOp a.eval o).run P w=r at *;cases r with
 | ok n w'=>
  cases n<;>simp only[Xcl]at hh⊢
  case value=>exact h _ _ hh
  case skip=>exact h _ _ hh
  case enter=>exact Calls.mono hh (fun e w'' he=>by cases e<;>first | exact h _ _ he | exact he)
  case round=>exact RoundIn.mono hh (fun e w'' he=>by cases e<;>first | exact h _ _ he | exact he)
 | halt x w'=>cases x<;>simp only[Xcl]at hh⊢<;>exact hh

def Jt (P:Program)(ops:Array Oper)(Q:Exit->Act->World->Prop)(i:Nat)(K:Act->World->Prop)(a:Act)(w:World):Prop:=
 match ops[i]? with
 | none=>K a w
 | some o=>if Region.wanted o (yielded ops a.tmps) then wpA P o a w K Q else K (a.put o.dst undef) w

theorem W4 {i:Nat}{a:Act}{w:World}{K K':Act->World->Prop}(h:∀a w,K a w->K' a w)(hh:Jt P ops Q i K a w):Jt P ops Q i K' a w:=by
 unfold Jt at *;split
 ·exact h _ _ (by simpa[*]using hh)
 ·rename_i o ho;simp only[ho]at hh;split
  ·rename_i hw; simp only[hw,Ubb]at hh; exact Xt9 h hh
  ·rename_i hw; simp only[hw]at hh; exact h _ _ hh

theorem Xmw {i:Nat}{o:Oper}{v:Value}{a:Act}(hi:ops[i]? = some o)(hy:YieldsIf P ops S o v a)
  {K:Act->World->Prop} {w:World} (hS:S w) (h:K (a.put o.dst v) w):Jt P ops Q i K a w:=by
 unfold Jt;simp only[hi];rcases hy with⟨hw,hv⟩ | ⟨hw,rfl⟩
 ·simp only[hw,Ubb,wpA,hv w hS,Xcl]; exact h
 ·simp only[hw,Uah,Uay]; exact h

theorem Xqq {j:Nat}{oi oj:Oper}{v:Value}(hj:ops[j]? = some oj)(hap:oi.apart ops oj=true)
  (hsi:∀cs b,oi.op ≠ .select cs b) (hsj:∀cs b,oj.op ≠ .select cs b)
  (hQ:∀c a w,Q (.panic c) (a.put oi.dst v) w->Q (.panic c) a w) {K:Act->World->Prop} {a:Act} {w:World}
  (hy:YieldsIf P ops S oi v a) (h:Jt P ops Q j K (a.put oi.dst v) w) :
  Jt P ops Q j (fun a' w'=>YieldsIf P ops S oi v a'/\K (a'.put oi.dst v) w') a w:=by
 obtain⟨h1,h2,h3⟩:=Oper.apart_spec hap;have keep:∀(a:Act),YieldsIf P ops S oi v a->∀u,YieldsIf P ops S oi v (a.put oj.dst u):=fun a hy u=>
  hy.of_same (execOp_put oi hsi a oj.dst u h3) (wanted_put oi a oj.dst u h3)
 unfold Jt at *;simp only[hj]at *;rw[wanted_put oj a oi.dst v h1]at h;split
 ·rename_i hw;simp only[hw,Ubb]at h;unfold wpA at *;rw[execOp_put oj hsj a oi.dst v h1]at h;generalize (execOp a.eval oj).run P w=r at *;cases r with
  | ok n w'=>
   cases n<;>simp only[Xcl]at h⊢
   case value u=>exact⟨keep a hy u,by rw[<-Act.put_comm a v u h2]; exact h⟩
   case skip=>exact⟨keep a hy _,by rw[<-Act.put_comm a v undef h2]; exact h⟩
   case enter f args=>
    refine Calls.mono h fun e w'' he=>?_;cases e with
    | returned u=>exact⟨keep a hy u,by rw[<-Act.put_comm a v u h2]; exact he⟩
    | panicked c=>exact hQ _ _ _ he
    | outgrown=>exact he
   case round l f tm as bd=>
    refine RoundIn.mono h fun e w'' he=>?_;cases e with
    | returned u=>exact⟨keep a hy u,by rw[<-Act.put_comm a v u h2]; exact he⟩
    | panicked c=>exact hQ _ _ _ he
    | outgrown=>exact he
  | halt x w'=>
   cases x<;>simp only[Xcl]at h⊢
   case panic u=>exact hQ _ _ _ h
 ·rename_i hw;simp only[hw]at h;exact⟨keep a hy _,by rw[<-Act.put_comm a v undef h2]; exact h⟩

def Ul (P:Program)(ops:Array Oper)(Q:Exit->Act->World->Prop):List Oper->Act->World->Prop
 | [],a,w=>Q .normal a w
 | o::rest,a,w=>if Region.wanted o (yielded ops a.tmps) then wpA P o a w (Ul P ops Q rest) Q else Ul P ops Q rest (a.put o.dst undef) w
theorem Xbq {r:Option Nat}:∀(l:List Oper),(∀o∈l,∀c,o.op ≠ .defer c)->∀(a:Act) (w:World),Ul P ops Q l a w->wpListIn (frm r) 0 P ops Q l a w
 | [],_,a,w,h=>h
 | o::rest,hd,a,w,h=>by
  simp only[Ul]at h;simp only[wpListIn];split
  ·rename_i hw;rw[Uby hw]at h;exact Ydo (hd o (by simp)) (Xt9 (fun a' w'=>Xbq rest (fun o' ho'=>hd o' (by simp[ho'])) a' w') h)
  ·rename_i hw;rw[Ubo hw]at h;exact⟨fun f _=>Xsy r f,Xbq rest (fun o' ho'=>hd o' (by simp[ho'])) _ _ h⟩

def Xmr (P:Program)(md:Region.Mode)(ops:Array Oper)(Q:Exit->Act->World->Prop):Nat->Array Bool->Act->World->Prop
 | 0,listed,a,w=>Region.ready md ops listed=[]/\Q .normal a w
 | fuel+1,listed,a,w=>
  (Region.ready md ops listed=[]->Q .normal a w)/\
  ∀i∈Region.ready md ops listed,Jt P ops Q i (Xmr P md ops Q fuel (listed.setIfInBounds i true)) a w
theorem Yas {r:Option Nat}(hd:∀o∈ops.toList,∀c,o.op ≠ .defer c){i:Nat}{K:Act->World->Prop}{a:Act}{w:World}(h:Jt P ops Q i K a w):wpOpIn (frm r) 0 P ops Q i K a w:=by
 unfold Jt at h;unfold wpOpIn;cases ho:ops[i]? with
 | none=>simpa[ho]using h
 | some o=>
  simp only[ho]at h⊢;split
  ·rename_i hw; rw[Uby hw]at h; exact Ydo (hd o (by simpa using Ubz ho)) h
  ·rename_i hw; rw[Ubo hw]at h; exact⟨fun f _=>Xsy r f,h⟩
theorem Xev {r:Option Nat}(hd:∀o∈ops.toList,∀c,o.op ≠ .defer c):∀(fuel:Nat) (listed:Array Bool) (a:Act) (w:World),Xmr P md ops Q fuel listed a w->wpAnyIn (frm r) 0 P md ops Q fuel listed a w
 | 0,_,_,_,h=>h
 | fuel+1,_,_,_,h=>⟨h.1,fun i hi=>wpOpIn_mono (fun a' w' h'=>Xev hd fuel _ a' w' h') (Yas hd (h.2 i hi))⟩
end
end Go.Ab
