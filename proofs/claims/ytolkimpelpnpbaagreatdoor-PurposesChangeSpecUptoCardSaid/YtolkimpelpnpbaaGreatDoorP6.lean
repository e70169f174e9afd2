/- Texts of this claim joined by a program, part 6 of 20; the last is: The same statements with their regions folded into expressions, printed by the fold itself; that they are that is checked by the kernel. No condition. -/
import Derived.Test.YtolkimpelpnpbaaGreatDoorP4
import Derived.Test.YtolkimpelpnpbaaGreatDoorP5
import Derived.Test.YtolkimpelpnpbaaGreatDoorProg
import Derived.KernelRfl
set_option maxRecDepth 100000
set_option linter.unusedSimpArgs false
set_option linter.unusedVariables false
set_option linter.unusedSectionVars false
set_option linter.defProp false
namespace Go.Sx
open Go Go.Ab Go.Lx
def Xir (a b:Int×Int):Int×Int:=(IntKind.i64.wrap (a.1+b.1),if b.2 > a.2 then b.2 else a.2)
def Yy6 (a:Int×Int):Int×Int:=(a.1,IntKind.i64.wrap (a.2+1))
mutual
def RForm.many:RForm->Int×Int
 | .mk _ _ k _=>Yy6 ((Rc8 k).foldl Xir (1,0))
def Rc8:List RForm->List (Int×Int)
 | []=>[]
 | f::r=>f.many::Rc8 r
end
theorem Rc9:∀l:List RForm,Rc8 l=l.map RForm.many
 | []=>rfl
 | f::r=>by rw[Rc8,Rc9 r]; rfl
theorem Rda (f:RForm):f.many=Yy6 ((f.kids.map RForm.many).foldl Xir (1,0)):=by
 cases f; rw[RForm.many,Rc9]; rfl
def RForm.mAt (f:RForm)(k:Nat):Int×Int:=((f.kids.take k).map RForm.many).foldl Xir (1,0)
theorem Rdb (f:RForm){k:Nat}(h:k<f.kids.length):f.mAt (k+1)=Xir (f.mAt k) f.kids[k].many:=by
 unfold RForm.mAt;rw[Ubj h,Uca,Ucs];rfl
theorem Rdc (f:RForm):Yy6 (f.mAt f.kids.length)=f.many:=by
 rw[Rda,RForm.mAt,Ucq]
theorem Rdd {f:RForm}{k:RForm}(h:k∈f.kids):SizeOf.sizeOf k<SizeOf.sizeOf f:=by
 cases f with
 | mk o n l a=>
  have:=List.sizeOf_lt_of_mem h;simp only[RForm.kids]at this;simp only[RForm.mk.sizeOf_spec];omega
def Xvk (f:RForm):V:=.tup [.d (.int .i64 f.many.1),.d (.int .i64 f.many.2)]
end Go.Sx
namespace Go.Proofs.YtolkimpelpnpbaaGreatDoor
open Go Go.Ab Go.Lx Go.Sx
section
variable {P:Prg} (hP:P.p=Tryz.prog)
include hP
theorem Xyo:∀(f:RForm),f.small->∀{ob:Xb} {K:V->Prop},K (Xvk f)->PCall P 49 [.d f.enc] ob K:=fun f hf ob K h=>by
 have ih:∀k∈f.kids,∀{ob:Xb} {K:V->Prop},K (Xvk k)->PCall P 49 [.d k.enc] ob K:=fun k hk _ _=>Xyo k ((Rc7 hf).2 k hk);have hl:=(Rc7 hf).1;refine Xg hP mixed (ds:=[f.enc]) Zge Zky TOk.nil ?_;simp[Zh3,Rc4];refine ALoop.go (ι:=Nat) (fun k=>[(1,.ptr 0 []),(4,.d (.int .i64 (f.mAt k).1)),(5,.d (.int .i64 (f.mAt k).2)),(6,.d (.int .i64 k))]) (fun _=>[(0,.box 40 (.d f.enc))]) (fun k=>k<=f.kids.length) (fun k=>f.kids.length-k) 0 (Ubg _) (by simp[RForm.mAt]) (by simp[Rc4]) ?_;intro k hk R rn re rr rp;by_cases hlt:k<f.kids.length
 ·simp[Xxk,Rc4 f,hlt];have wr:IntKind.i64.wrap ((k:Int)+1)=(k:Int)+1:=IntWalk.i64_in _ (by omega);refine⟨⟨by simp[Rc4,RAtom.enc,RTerm.enc,D.sz,Raa],by rw[Rc4]⟩,ih _ (Uba hlt) ?_⟩;simp[Xvk,wr];refine rn [] (k+1) _ _ (by omega) (by omega) ?_ (by simp[Xc,Rc4 f]) (by simp[Xc]) (by simp[Xc]);rw[Rdb f hlt];simp[Xir]
 ·have:k=f.kids.length:=by omega
  subst this;simp[Xxk,Rc4 f];refine re _ _ _ ?_;simp[Rc4 f];have e:=Rdc f;unfold Xvk at h;rw[<-e]at h;exact h
termination_by f=>SizeOf.sizeOf f
decreasing_by exact Rdd hk
theorem Xj6 (f:RForm)(hf:f.small){ob:Xb}{K:V->Prop}(h:∀b,K (.d (.bool b))):PCall P 26 [.d f.enc] ob K:=by
 refine Xg hP mixed (ds:=[f.enc]) Zf1 Zkg TOk.nil ?_;simp[Zho];refine⟨⟨by rw[Ran]; simp[Rc4,RAtom.enc,RTerm.enc,D.sz,Raa],by rw[Rc4]⟩,Xyo hP f hf ?_⟩;simp[Xvk];exact h _
theorem Yer {y:RSrc}(hy:y.small){ob:Xb}{K:V->Prop}(h:∀b,K (.d (.bool b))):PCall P 48 [.d y.enc] ob K:=by
 have wr:∀{k n:Nat},k<n->n<=9223372036854775807->IntKind.i64.wrap ((k:Int)+1)=(k:Int)+1:=fun h1 h2=>IntWalk.i64_in _ (by omega);refine Xg hP mixed (ds:=[y.enc]) Zgd Zkx TOk.nil ?_;simp[Zh2,RSrc.enc,Xo];refine ALoop.go (ι:=Nat) (fun i=>[(1,.ptr 0 []),(3,.d (.int .i64 i))]) (fun _=>[(0,.box 29 (.d y.enc))]) (fun i=>i<=y.schemas.length) (fun i=>y.schemas.length-i) 0 (Ubg _) (by simp) (by simp[RSrc.enc,Xo]) ?_;intro k hk R rn re rr rp;by_cases hlt:k<y.schemas.length
 ·simp[Xxj,hlt,RSrc.enc,Xo,RSchema.enc]
  first
   | exact⟨fun _=>rr _ _ (by simp; exact h _),fun _ _=>rn [] (k+1) _ _ (by omega) (by omega) (by simp[wr hlt hy.schemas]) (by simp[Xc,RSrc.enc,Xo]) (by simp[Xc]) (by simp[Xc])⟩
   | exact⟨fun _=>rr _ _ (by simp; exact h _),fun _ _ _=>rn [] (k+1) _ _ (by omega) (by omega) (by simp[wr hlt hy.schemas]) (by simp[Xc,RSrc.enc,Xo]) (by simp[Xc]) (by simp[Xc])⟩
   | exact⟨fun _=>rr _ _ (by simp; exact h _),fun _=>rn [] (k+1) _ _ (by omega) (by omega) (by simp[wr hlt hy.schemas]) (by simp[Xc,RSrc.enc,Xo]) (by simp[Xc]) (by simp[Xc])⟩
 have:k=y.schemas.length:=by omega
 subst this;simp[Xxj,RSrc.enc,Xo];refine re _ _ _ ?_;clear re rr rp rn hk hlt;simp[RSrc.enc,Xo];refine ALoop.go (ι:=Nat) (fun i=>[(1,.ptr 0 []),(4,.d (.int .i64 i))]) (fun _=>[(0,.box 29 (.d y.enc))]) (fun i=>i<=y.rules.length) (fun i=>y.rules.length-i) 0 (Ubg _) (by simp) (by simp[RSrc.enc,Xo]) ?_;intro k hk R rn re rr rp;by_cases hlt:k<y.rules.length
 ·simp[Xxi,hlt,RSrc.enc,Xo,RRule.enc]
  first
   | exact⟨fun _=>rr _ _ (by simp; exact h _),fun _ _=>rn [] (k+1) _ _ (by omega) (by omega) (by simp[wr hlt hy.rules]) (by simp[Xc,RSrc.enc,Xo]) (by simp[Xc]) (by simp[Xc])⟩
   | exact⟨fun _=>rr _ _ (by simp; exact h _),fun _ _ _=>rn [] (k+1) _ _ (by omega) (by omega) (by simp[wr hlt hy.rules]) (by simp[Xc,RSrc.enc,Xo]) (by simp[Xc]) (by simp[Xc])⟩
   | exact⟨fun _=>rr _ _ (by simp; exact h _),fun _=>rn [] (k+1) _ _ (by omega) (by omega) (by simp[wr hlt hy.rules]) (by simp[Xc,RSrc.enc,Xo]) (by simp[Xc]) (by simp[Xc])⟩
 have:k=y.rules.length:=by omega
 subst this;simp[Xxi,RSrc.enc,Xo];refine re _ _ _ ?_;clear re rr rp rn hk hlt;simp[RSrc.enc,Xo];refine ALoop.go (ι:=Nat) (fun i=>[(1,.ptr 0 []),(5,.d (.int .i64 i))]) (fun _=>[(0,.box 29 (.d y.enc))]) (fun i=>i<=y.converts.length) (fun i=>y.converts.length-i) 0 (Ubg _) (by simp) (by simp[RSrc.enc,Xo]) ?_;intro k hk R rn re rr rp;by_cases hlt:k<y.converts.length
 ·simp[Xxh,hlt,RSrc.enc,Xo,RConvert.enc]
  first
   | exact⟨fun _=>rr _ _ (by simp; exact h _),fun _ _=>rn [] (k+1) _ _ (by omega) (by omega) (by simp[wr hlt hy.converts]) (by simp[Xc,RSrc.enc,Xo]) (by simp[Xc]) (by simp[Xc])⟩
   | exact⟨fun _=>rr _ _ (by simp; exact h _),fun _ _ _=>rn [] (k+1) _ _ (by omega) (by omega) (by simp[wr hlt hy.converts]) (by simp[Xc,RSrc.enc,Xo]) (by simp[Xc]) (by simp[Xc])⟩
   | exact⟨fun _=>rr _ _ (by simp; exact h _),fun _=>rn [] (k+1) _ _ (by omega) (by omega) (by simp[wr hlt hy.converts]) (by simp[Xc,RSrc.enc,Xo]) (by simp[Xc]) (by simp[Xc])⟩
 have:k=y.converts.length:=by omega
 subst this;simp[Xxh,RSrc.enc,Xo];refine re _ _ _ ?_;clear re rr rp rn hk hlt;simp[RSrc.enc,Xo];refine ALoop.go (ι:=Nat) (fun i=>[(1,.ptr 0 []),(6,.d (.int .i64 i))]) (fun _=>[(0,.box 29 (.d y.enc))]) (fun i=>i<=y.purposes.length) (fun i=>y.purposes.length-i) 0 (Ubg _) (by simp) (by simp[RSrc.enc,Xo]) ?_;intro k hk R rn re rr rp;by_cases hlt:k<y.purposes.length
 ·simp[Xxg,hlt,RSrc.enc,Xo,RPurpose.enc]
  first
   | exact⟨fun _=>rr _ _ (by simp; exact h _),fun _ _=>rn [] (k+1) _ _ (by omega) (by omega) (by simp[wr hlt hy.purposes]) (by simp[Xc,RSrc.enc,Xo]) (by simp[Xc]) (by simp[Xc])⟩
   | exact⟨fun _=>rr _ _ (by simp; exact h _),fun _ _ _=>rn [] (k+1) _ _ (by omega) (by omega) (by simp[wr hlt hy.purposes]) (by simp[Xc,RSrc.enc,Xo]) (by simp[Xc]) (by simp[Xc])⟩
   | exact⟨fun _=>rr _ _ (by simp; exact h _),fun _=>rn [] (k+1) _ _ (by omega) (by omega) (by simp[wr hlt hy.purposes]) (by simp[Xc,RSrc.enc,Xo]) (by simp[Xc]) (by simp[Xc])⟩
 have:k=y.purposes.length:=by omega
 subst this;simp[Xxg,RSrc.enc,Xo];refine re _ _ _ ?_;clear re rr rp rn hk hlt;simp[RSrc.enc,Xo];exact h _
theorem Xnb {t:RTab}(ht:t.src.small)(ho:t.order.length<=9223372036854775807){ob:Xb}{K:V->Prop}(h:∀b,K (.d (.bool b))):PCall P 25 [.d t.enc] ob K:=by
 refine Xg hP mixed (ds:=[t.enc]) Zf0 Zkf TOk.nil ?_;simp[Zhn,RTab.enc,RSrc.enc,Xo,Xcd];refine Yer hP ht (fun b=>?_);simp;exact h _
end
end Go.Proofs.YtolkimpelpnpbaaGreatDoor
namespace Go.Sx
open Go Go.Ab Go.Lx
def Q9 (units:Nat)(t:RType):Bool:=decide (0<=t.lo/\t.lo<=t.hi/\t.hi<=1048576/\-1<=t.unit/\t.unit<units/\t.names.length=0)
def Xaa (t:RType):Bool:=decide (t.lo=0/\t.hi=1023/\t.unit=-1/\t.names.length=0)
def Xab (t:RType):Bool:=decide (t.lo=0/\t.hi=4095/\t.unit=-1/\t.names.length=0)
def V3 (t:RType):Bool:=decide (t.lo=0/\t.hi=(t.names.length:Int)-1/\t.unit=-1/\1<=t.names.length/\t.names.length<=16)&&decide (t.names.Nodup)
def Vi (units:Nat)(t:RType):Bool:=
  if t.kind=1 then Q9 units t else if t.kind=2 then Xaa t else if t.kind=3 then Xab t else if t.kind=4 then V3 t else false
def Z6 (y:RSrc)(s f:Int):Option RField:=if s<0\/f<0 then none else (y.schemas[s.toNat]?).bind fun c=>c.fields[f.toNat]?
def Ym (y:RSrc)(s f:Int):Option RType:=match Z6 y s f with
  | none=>none
  | some x=>if Vi y.units.length x.type&&(decide (x.type.unit<0)||(match y.units[x.type.unit.toNat]? with | some u=>Xjc y u | none=>false)) then some x.type else none
def Xm9 (y:RSrc)(u:Int):Int:=match y.units[u.toNat]? with | some v=>v.base | none=>0
def Xuu (y:RSrc)(a b:RType):Bool:=
  if a.kind ≠ b.kind then false else if a.kind=4 then decide (a.names=b.names)
  else if a.kind ≠ 1\/a.unit=-1\/b.unit=-1 then decide (a.unit=b.unit) else decide (Xm9 y a.unit=Xm9 y b.unit)
def W7 (y:RSrc)(s f s' f':Int):Bool:=match Ym y s f,Ym y s' f' with
  | some t,some u=>Xuu y t u
  | _,_=>false
def Xbo (y:RSrc)(vs:List RVar)(i:Nat)(v:RVar):Bool:=
  decide (0<=v.schema)&&decide (Xt RSchema.name y.schemas v.kind 0=v.schema)&&Yq v.kind&&Yq v.name&&decide (Xt RVar.name vs v.name 0=i)
def Z2 (y:RSrc)(vs:List RVar):Bool:=
  decide (1<=vs.length)&&decide (vs.length<=3)&&(vs.zipIdx.all fun p=>Xbo y vs p.2 p.1)&&vs.any fun v=>!v.other
def refO (y:RSrc)(vs:List RVar)(t:RTerm):Option (Int×Int):=
  if Yq t.name&&Yq t.path&&decide (t.n=0) then
    (match vs[(Xt RVar.name vs t.name 0).toNat]? with
     | some v=>if Xt RVar.name vs t.name 0<0\/Xt RVar.name vs t.name 0 ≠ t.var then none else
       (match y.schemas[v.schema.toNat]? with
        | some c=>if Xt RField.name c.fields t.path 0<0\/Xt RField.name c.fields t.path 0 ≠ t.field then none else some (v.schema,t.field)
        | none=>none)
     | none=>none)
  else none
def Wt (y:RSrc)(r:Int×Int):Int:=match Z6 y r.1 r.2 with | some x=>x.type.kind | none=>0
def Yde (y:RSrc)(op:Int)(r:Option (Int×Int)):Bool:=match r with
  | none=>true
  | some r=>!(decide (op=2)||decide (op=3))||decide (Wt y r=1)||decide (Wt y r=2)
def Wk (y:RSrc)(vs:List RVar)(a:RAtom):Bool:=
  decide (1<=a.op)&&decide (a.op<=4)&&((refO y vs a.a).isSome||a.a.isNum)&&((refO y vs a.b).isSome||a.b.isNum)&&
  (match refO y vs a.a,refO y vs a.b with
   | none,none=>false
   | some r,some s=>W7 y r.1 r.2 s.1 s.2
   | _,_=>true)&&Yde y a.op (refO y vs a.a)&&Yde y a.op (refO y vs a.b)
def Ylg:RTerm:=⟨[],[],0,0,0⟩
def Ymk:RAtom:=⟨0,Ylg,Ylg⟩
def RTerm.zero (t:RTerm):Bool:=decide (t.name=[])&&decide (t.path=[])&&decide (t.var=0)&&decide (t.field=0)&&decide (t.n=0)
def RAtom.zero (a:RAtom):Bool:=decide (a.op=0)&&a.a.zero&&a.b.zero
mutual
def RForm.okS (y:RSrc)(vs:List RVar):RForm->Nat->Nat×Nat->Bool×(Nat×Nat)
  | .mk op n k a,d,c=>
    if 32<c.1+1\/8<d\/8<k.length then (false,(c.1+1,c.2))
    else if op=1\/op=2 then (if a.zero&&decide (n=0) then Rde y vs k (d+1) (c.1+1,c.2) else (false,(c.1+1,c.2)))
    else if op=3 then (if a.zero&&decide (1<=n)&&decide (n<=k.length) then Rde y vs k (d+1) (c.1+1,c.2) else (false,(c.1+1,c.2)))
    else if op=4 then (a.zero&&decide (k.length=0)&&decide (0<=n)&&decide (n<vs.length),(c.1+1,c.2))
    else if op=5 then (decide (n=0)&&decide (k.length=0)&&decide (c.2+1<=8)&&Wk y vs a,(c.1+1,c.2+1))
    else (false,(c.1+1,c.2))
def Rde (y:RSrc)(vs:List RVar):List RForm->Nat->Nat×Nat->Bool×(Nat×Nat)
  | [],_,c=>(true,c)
  | f::r,d,c=>if (RForm.okS y vs f d c).1 then Rde y vs r d (RForm.okS y vs f d c).2 else (false,(RForm.okS y vs f d c).2)
end
def Yc (y:RSrc)(q:RQ):Bool:=
  Yq q.name&&decide (0<=q.purpose)&&(match y.purposes[q.purpose.toNat]? with
    | some p=>decide (Xt RPurpose.name y.purposes p.name 0=q.purpose)&&Yq p.name
    | none=>false)&&Z2 y q.vars&&(RForm.okS y q.vars q.form 1 (0,0)).1
end Go.Sx
namespace Go.Sx
open Go Go.Ab Go.Lx
theorem Z9 {α:Type}(f:α->B)(n:B):∀(l:List α) (k:Int),(Xt f l n k=-1/\∀x∈l,f x ≠ n)\/∃(i:Nat) (h:i<l.length),Xt f l n k=k+i/\f l[i]=n/\∀j (hj:j<i),f (l[j]'(by omega)) ≠ n
 | [],k=>.inl ⟨rfl,by simp⟩
 | x::r,k=>by
  by_cases e:f x=n
  ·exact .inr ⟨0,by simp,by simp[Xt,e],by simpa using e,by intro j hj; omega⟩
  ·rcases Z9 f n r (k+1) with⟨h1,h2⟩ | ⟨i,h,h1,h2,h3⟩
   ·refine .inl ⟨by simp[Xt,e,h1],?_⟩;intro z hz;rcases Uax.1 hz with rfl | hz
    ·exact e
    ·exact h2 z hz
   ·refine .inr ⟨i+1,by simpa using h,by simp only[Xt,e,Uay,h1]; push_cast; omega,by simpa using h2,?_⟩;intro j hj;rcases j with _ | j
    ·simpa using e
    ·simpa using h3 j (by omega)
theorem Qj {α:Type}{f:α->B}{n:B}{l:List α}(h0:0<=Xt f l n 0):∃(i:Nat) (h:i<l.length),Xt f l n 0=i/\f l[i]=n/\∀j (hj:j<i),f (l[j]'(by omega)) ≠ n:=by
 rcases Z9 f n l 0 with⟨h1,_⟩ | ⟨i,h,h1,h2,h3⟩
 ·omega
 ·exact⟨i,h,by simpa using h1,h2,h3⟩
mutual
def RForm.atoms:RForm->List RAtom
 | .mk op _ k a=>(if op=5 then[a] else[])++Rdf k
def Rdf:List RForm->List RAtom
 | []=>[]
 | f::r=>f.atoms++Rdf r
end
mutual
theorem Xl6 (y:RSrc)(vs:List RVar):∀(f:RForm) (d:Nat) (c:Nat×Nat),c.2<=8->(f.okS y vs d c).1=true->(f.okS y vs d c).2.2=c.2+f.atoms.length/\(f.okS y vs d c).2.2<=8/\∀a∈f.atoms,Wk y vs a=true
 | .mk op n k a,d,c,hc,h=>by
  unfold RForm.okS at h⊢;unfold RForm.atoms;split at h
  ·cases h
  rename_i h0;simp only[h0,Uay];split at h
  ·rename_i h1;have h5:op ≠ 5:=by omega
   simp only[h1,Ubb,h5,Uay,List.nil_append];split at h
   ·rename_i h2;simp only[h2,Ubb];exact Xai y vs k (d+1) (c.1+1,c.2) hc h
   ·cases h
  rename_i h1;simp only[h1,Uay];split at h
  ·rename_i h2;have h5:op ≠ 5:=by omega
   simp only[h2,Ubb,h5,Uay,List.nil_append];split at h
   ·rename_i h3;have h5':¬(3:Int)=5:=by omega
    simp only[h3,Ubb,h5',Uay,List.nil_append];exact Xai y vs k (d+1) (c.1+1,c.2) hc h
   ·cases h
  rename_i h2;simp only[h2,Uay];split at h
  ·rename_i h3;simp only[Uai,Ubp]at h;have hk:k=[]:=Uct.1 h.1.1.2;subst hk;have h5':¬(4:Int)=5:=by omega
   simp[h3,Rdf,hc]
  rename_i h3;simp only[h3,Uay];split at h
  ·rename_i h4;simp only[Uai,Ubp]at h;have hk:k=[]:=Uct.1 h.1.1.2;subst hk;simp[h4,Rdf,h.1.2,h.2]
  ·cases h
theorem Xai (y:RSrc)(vs:List RVar):∀(l:List RForm) (d:Nat) (c:Nat×Nat),c.2<=8->(Rde y vs l d c).1=true->(Rde y vs l d c).2.2=c.2+(Rdf l).length/\(Rde y vs l d c).2.2<=8/\∀a∈Rdf l,Wk y vs a=true
 | [],d,c,hc,h=>by simp[Rde,Rdf,hc]
 | f::r,d,c,hc,h=>by
  unfold Rde at h⊢;unfold Rdf;split at h
  ·rename_i h1;obtain⟨e1,e2,e3⟩:=Xl6 y vs f d c hc h1;obtain⟨g1,g2,g3⟩:=Xai y vs r d _ e2 h;simp only[h1,Ubb];refine⟨by rw[g1,e1,Uar]; omega,g2,fun a ha=>?_⟩;rcases Ubu.1 ha with ha | ha
   ·exact e3 a ha
   ·exact g3 a ha
  ·cases h
end
theorem X5d {y:RSrc}{vs:List RVar}{i:Nat}{v:RVar}(h:Xbo y vs i v=true):∃(s:Nat) (hs:s<y.schemas.length),v.schema=s/\y.schemas[s].name=v.kind/\(∃(hi:i<vs.length),vs[i].name=v.name)/\∀j (hj:j<i) (hl:j<vs.length),vs[j].name ≠ v.name:=by
 simp only[Xbo,Uai,Ubp]at h;obtain⟨⟨⟨⟨h1,h2⟩,h3⟩,h4⟩,h5⟩:=h;obtain⟨s,hs,e1,e2,_⟩:=Qj (f:=RSchema.name) (n:=v.kind) (l:=y.schemas) (by omega);obtain⟨j,hj,g1,g2,g3⟩:=Qj (f:=RVar.name) (n:=v.name) (l:=vs) (by omega);have:j=i:=by omega
 subst this;exact⟨s,hs,by omega,e2,⟨hj,g2⟩,fun k hk hl=>g3 k hk⟩
theorem Qx {y:RSrc}{vs:List RVar}(h:Z2 y vs=true)(i:Nat)(hi:i<vs.length):Xbo y vs i vs[i]=true:=by
 simp only[Z2,Uai,Ubt]at h;exact h.1.2 (vs[i],i) (List.mem_zipIdx_iff_getElem?.2 (by simp[hi]))
theorem Qb {y:RSrc}{vs:List RVar}{t:RTerm}{r:Int×Int}(h:refO y vs t=some r):∃(i:Nat) (hi:i<vs.length) (s:Nat) (hs:s<y.schemas.length) (g:Nat) (hg:g<y.schemas[s].fields.length),t.var=i/\vs[i].name=t.name/\vs[i].schema=r.1/\s=r.1.toNat/\t.field=g/\r.2=g/\y.schemas[s].fields[g].name=t.path:=by
 unfold refO at h;split at h
 ·split at h
  ·rename_i v hv;split at h
   ·cases h
   ·rename_i hn;obtain⟨i,hi,e1,e2,_⟩:=Qj (f:=RVar.name) (n:=t.name) (l:=vs) (by omega);rw[e1]at hv hn;simp only[Int.toNat_natCast,Ubf hi,Uaq]at hv;subst hv;split at h
    ·rename_i c hc;split at h
     ·cases h
     ·rename_i hm;cases h;obtain⟨hs,hc⟩:=Uan.1 hc;obtain⟨g,hg,f1,f2,_⟩:=Qj (f:=RField.name) (n:=t.path) (l:=c.fields) (by omega);subst hc;exact⟨i,hi,_,hs,g,hg,by omega,e2,rfl,rfl,by omega,by simp only; omega,f2⟩
    ·cases h
  ·cases h
 ·cases h
theorem Xnn {y:RSrc}{s f:Int}(h:¬∃(i:Nat) (hi:i<y.schemas.length) (j:Nat),s=i/\f=j/\j<y.schemas[i].fields.length):Z6 y s f=none:=by
 unfold Z6;split
 ·rfl
 ·rename_i hn;cases e:y.schemas[s.toNat]? with
  | none=>rfl
  | some c=>
   obtain⟨hi,hc⟩:=Uan.1 e;simp only[Option.bind_some];rw[Ucj];rcases Uaa f.toNat c.fields.length with hf | hf
   ·exact (h ⟨s.toNat,hi,f.toNat,by omega,by omega,by rw[hc]; exact hf⟩).elim
   ·exact hf
theorem Xkq {y:RSrc}{i j:Nat}(hi:i<y.schemas.length)(hj:j<y.schemas[i].fields.length):Z6 y i j=some y.schemas[i].fields[j]:=by
 unfold Z6;rw[Ubo (by omega)];simp[hi,hj]
end Go.Sx
namespace Go.Sx
open Go Go.Ab Go.Lx
def Q3 (l:List B):List (D×V):=l.map fun s=>(.str s,.d (.bool true))
theorem Xmi (s:B):∀l:List B,Vb (.str s) (Q3 l)=if s∈l then some (.d (.bool true)) else none
 | []=>by simp[Q3,Vb]
 | x::r=>by
  have ih:=Xmi s r;simp only[Q3,Uam,Vb,Rb2]at ih⊢;by_cases e:s=x
  ·simp[e]
  ·simp only[Ucg.2 e,Uah,Uay,ih,Uax,e,false_or]
theorem Xt2 (s:B)(v:V):∀l:List B,s∉l->Xmo (.str s) v (Q3 l)=Q3 l++[(.str s,v)]
 | [],_=>by simp[Q3,Xmo]
 | x::r,h=>by
  have h1:s ≠ x:=fun e=>h (by simp[e]);have h2:s∉r:=fun e=>h (by simp[e]);have ih:=Xt2 s v r h2;simp only[Q3,Uam,Xmo,Rb2,List.cons_append]at ih⊢;simp only[Ucg.2 h1,Uah,Uay,ih]
theorem X4b (s:B)(l:List B):Xdw (.str []) (.str s) (Q3 l):=by
 refine⟨rfl,fun e he=>?_⟩;simp only[Q3,Ua5]at he;obtain⟨x,_,rfl⟩:=he;rfl
theorem Yae (p:Nat->Bool)(l:List B):Jk p (Q3 l)=false:=by
 induction l with
 | nil=>rfl
 | cons x r ih=>simpa[Q3,Jk,V.men]using ih
theorem X4c (l:List B)(x:B):Q3 (l++[x])=Q3 l++[(.str x,.d (.bool true))]:=by simp[Q3]
end Go.Sx
namespace Go.Proofs.YtolkimpelpnpbaaGreatDoor
open Go Go.Ab Go.Lx Go.Sx
section
variable {P:Prg} (hP:P.p=Tryz.prog)
include hP
theorem Yex (t:RType)(u:Nat){ob:Xb}{K:V->Prop}(h:K (.d (.bool (Q9 u t)))):PCall P 319 [.d t.enc,.d (.int .i64 u)] ob K:=by
 refine Xg hP mixed (ds:=[t.enc,.int .i64 u]) Yxg Y4n TOk.nil ?_;have h':∀b,b=Q9 u t->K (.d (.bool b)):=fun b e=>e▸h;clear h;simp[Y0q,RType.enc,Xo];apply h'; rw[Ucl]; simp[Q9,and_assoc]
theorem Yey (t:RType)(u:Nat){ob:Xb}{K:V->Prop}(h:K (.d (.bool (Xaa t)))):PCall P 320 [.d t.enc,.d (.int .i64 u)] ob K:=by
 refine Xg hP mixed (ds:=[t.enc,.int .i64 u]) Yxh Y4o TOk.nil ?_;have h':∀b,b=Xaa t->K (.d (.bool b)):=fun b e=>e▸h;clear h;simp[Y0r,RType.enc,Xo];apply h'; rw[Ucl]; simp[Xaa,and_assoc]
theorem Yez (t:RType)(u:Nat){ob:Xb}{K:V->Prop}(h:K (.d (.bool (Xab t)))):PCall P 321 [.d t.enc,.d (.int .i64 u)] ob K:=by
 refine Xg hP mixed (ds:=[t.enc,.int .i64 u]) Yxi Y4p TOk.nil ?_;have h':∀b,b=Xab t->K (.d (.bool b)):=fun b e=>e▸h;clear h;simp[Y0s,RType.enc,Xo];apply h'; rw[Ucl]; simp[Xab,and_assoc]
theorem Xnc {l:List B}(hl:l.length<=9223372036854775807){ob:Xb}{K:V->Prop}(h:K (.d (.bool (decide l.Nodup)))):PCall P 323 [.d (Xo l)] ob K:=by
 have wr:∀{k n:Nat},k<n->n<=9223372036854775807->IntKind.i64.wrap ((k:Int)+1)=(k:Int)+1:=fun h1 h2=>IntWalk.i64_in _ (by omega);refine Xg hP mixed (ds:=[Xo l]) Yxk Y4r TOk.nil ?_;simp[Y0t,Xo];refine ALoop.upto l.length (fun k=>[(3,.mp 0),(9,.d (.list 1 (l.map D.str))),(10,.d (.int .i64 l.length)),(11,.d (.int .i64 k))]) (fun k=>[(0,.map (Q3 (l.take k)))]) (fun k=>(l.take k).Nodup) (by simp) (by simp) (by simp[Q3]) ?_ ?_
 ·intro k hk hi R rn re rr rp;simp[Xrc,hk,X4b,Xmi];by_cases hm:l[k]∈l.take k
  ·simp[hm];refine rr _ _ ?_;have:¬l.Nodup:=fun hn=>by
    have h2:(l.take (k+1)).Nodup:=hn.sublist (List.take_sublist _ _);rw[Ubj hk,Uco]at h2;exact h2.2.2 _ hm _ (by simp) rfl
   simpa[this]using h
  ·simp[hm,Xt2];refine rn [] _ _ ?_ (by simp[wr hk hl]) ?_ (by simp[Xc]) ?_
   ·rw[Ubj hk,Uco];refine⟨hi,by simp,?_⟩;intro a ha b hb;simp only[Uci]at hb;subst hb;exact fun e=>hm (e▸ha)
   ·rw[Ubj hk,X4c];simp[Xc]
   ·simp[Xh,Yae]
 ·intro hi R re rr rp;simp[Xrc];refine re _ _ _ ?_;simp;rw[Ucq]at hi;simpa[hi]using h
theorem Ye0 (t:RType)(ht:t.names.length<=9223372036854775807)(u:Nat){ob:Xb}{K:V->Prop}(h:K (.d (.bool (V3 t)))):PCall P 322 [.d t.enc,.d (.int .i64 u)] ob K:=by
 refine Xg hP mixed (ds:=[t.enc,.int .i64 u]) Yxj Y4q TOk.nil ?_;have wr:IntKind.i64.wrap ((t.names.length:Int)-1)=(t.names.length:Int)-1:=IntWalk.i64_in _ (by omega);have c:∀{ob:Xb} {K:V->Prop},K (.d (.bool (decide t.names.Nodup)))->PCall P 323 [.d (.list 1 (t.names.map .str))] ob K:=fun h=>Xnc hP ht h;by_cases hc:t.lo=0/\t.hi=(t.names.length:Int)-1/\t.unit=-1/\1<=t.names.length/\t.names.length<=16
 ·obtain⟨h1,h2,h3,h4,h5⟩:=hc;have h4':¬t.names=[]:=by intro e; simp[e]at h4
  have h4i:(1:Int)<=t.names.length:=by omega
  have h5i:(t.names.length:Int)<=16:=by omega
  simp[Xuh,RType.enc,Xo,h1,h2,h3,h4i,h5i,wr];refine c ?_;have e:V3 t=decide t.names.Nodup:=by simp only[V3,h1,h2,h3,h4,h5,and_self,Ucu,Ucv]
  rw[e]at h;simpa using h
 ·have hk:V3 t=false:=by simp only[V3,hc,decide_false,Bool.false_and]
  rw[hk]at h;by_cases h1:t.lo=0
  ·by_cases h2:t.hi=(t.names.length:Int)-1
   ·by_cases h3:t.unit=-1
    ·by_cases h4:1<=t.names.length
     ·have h5:¬t.names.length<=16:=fun h5=>hc ⟨h1,h2,h3,h4,h5⟩;have h4':¬t.names=[]:=by intro e; simp[e]at h4
      have h4i:(1:Int)<=t.names.length:=by omega
      have h5i:¬(t.names.length:Int)<=16:=by omega
      simp[Xuh,RType.enc,Xo,h1,h2,h3,h4i,h5i,wr]; exact h
     ·have h4':t.names=[]:=by simpa using h4
      simp[Xuh,RType.enc,Xo,h1,h2,h3,h4',wr]; exact h
    ·simp[Xuh,RType.enc,Xo,h1,h2,h3,wr]; exact h
   ·simp[Xuh,RType.enc,Xo,h1,h2,wr]; exact h
  ·simp[Xuh,RType.enc,Xo,h1,wr]; exact h
def Xlj:D:=.agg [.nilf,.fn 319 [] [],.fn 320 [] [],.fn 321 [] [],.fn 322 [] []]
theorem Xgv {ob:Xb}{K:V->Prop}(h:K (.d Xlj)):PCall P 301 [] ob K:=by
 refine Xg hP mixed (ds:=[]) Yxd Y4g TOk.nil ?_;simp[Y0n];exact h
theorem X6t {y:RSrc}(t:RType)(ht:t.names.length<=9223372036854775807){ob:Xb}{K:V->Prop}(h:K (.d (.bool (Vi y.units.length t)))):PCall P 252 [.d (.agg [y.enc]),.d t.enc] ob K:=by
 have c1:Xm P.p 319=true:=by rw[hP]; kernel_rfl
 have c2:Xm P.p 320=true:=by rw[hP]; kernel_rfl
 have c3:Xm P.p 321=true:=by rw[hP]; kernel_rfl
 have c4:Xm P.p 322=true:=by rw[hP]; kernel_rfl
 have d1:∀{ob:Xb} {K:V->Prop},K (.d (.bool (Q9 y.units.length t)))->PCall P 319 [.d (.agg [iD t.kind,iD t.lo,iD t.hi,.str t.of_,iD t.unit,.list 1 (t.names.map .str)]),.d (.int .i64 y.units.length)] ob K:=fun h=>Yex hP t _ h;have d2:∀{ob:Xb} {K:V->Prop},K (.d (.bool (Xaa t)))->PCall P 320 [.d (.agg [iD t.kind,iD t.lo,iD t.hi,.str t.of_,iD t.unit,.list 1 (t.names.map .str)]),.d (.int .i64 y.units.length)] ob K:=fun h=>Yey hP t _ h;have d3:∀{ob:Xb} {K:V->Prop},K (.d (.bool (Xab t)))->PCall P 321 [.d (.agg [iD t.kind,iD t.lo,iD t.hi,.str t.of_,iD t.unit,.list 1 (t.names.map .str)]),.d (.int .i64 y.units.length)] ob K:=fun h=>Yez hP t _ h;have d4:∀{ob:Xb} {K:V->Prop},K (.d (.bool (V3 t)))->PCall P 322 [.d (.agg [iD t.kind,iD t.lo,iD t.hi,.str t.of_,iD t.unit,.list 1 (t.names.map .str)]),.d (.int .i64 y.units.length)] ob K:=fun h=>Ye0 hP t ht _ h;refine Xg hP mixed (ds:=[.agg [y.enc],t.enc]) Yxa Y39 TOk.nil ?_;unfold Vi at h;by_cases k1:t.kind=1
 ·rw[Uby k1]at h;simp only[k1]at d1;simp[Xue,RSrc.enc,RType.enc,Xo,k1];refine Xgv hP ?_;simp[Xlj,c1];refine⟨⟨rfl,rfl,rfl,rfl,rfl⟩,Rbz (d1 ?_)⟩;simpa using h
 rw[Ubo k1]at h;by_cases k2:t.kind=2
 ·rw[Uby k2]at h;simp only[k2]at d2;simp[Xue,RSrc.enc,RType.enc,Xo,k2];refine Xgv hP ?_;simp[Xlj,c2];refine⟨⟨rfl,rfl,rfl,rfl,rfl⟩,Rbz (d2 ?_)⟩;simpa using h
 rw[Ubo k2]at h;by_cases k3:t.kind=3
 ·rw[Uby k3]at h;simp only[k3]at d3;simp[Xue,RSrc.enc,RType.enc,Xo,k3];refine Xgv hP ?_;simp[Xlj,c3];refine⟨⟨rfl,rfl,rfl,rfl,rfl⟩,Rbz (d3 ?_)⟩;simpa using h
 rw[Ubo k3]at h;by_cases k4:t.kind=4
 ·rw[Uby k4]at h;simp only[k4]at d4;simp[Xue,RSrc.enc,RType.enc,Xo,k4];refine Xgv hP ?_;simp[Xlj,c4];refine⟨⟨rfl,rfl,rfl,rfl,rfl⟩,Rbz (d4 ?_)⟩;simpa using h
 rw[Ubo k4]at h;have hk:t.kind<1\/4<t.kind:=by omega
 rcases hk with hk | hk
 ·simp[Xue,RSrc.enc,RType.enc,Xo,hk];exact h
 ·have hk':¬t.kind<1:=by omega
  simp[Xue,RSrc.enc,RType.enc,Xo,hk,hk'];exact h
theorem Xgw {y:RSrc}(hy:y.small){s f:Int}{nm pa:B}{ob:Xb}{K:V->Prop}
  (h0:Ym y s f=none->∀d:D,d=X5a\/(∃t:RType,d=t.enc)->K (.tup [.d d,.d (.bool false)])) (h1:∀t,Ym y s f=some t->t.names.length<=9223372036854775807->K (.tup [.d t.enc,.d (.bool true)])) :
  PCall P 216 [.d (.agg [y.enc]),.d (.agg [.str nm,.str pa,iD s,iD f])] ob K:=by
 refine Xg hP mixed (ds:=[.agg [y.enc],.agg [.str nm,.str pa,iD s,iD f]]) Yw0 Y3z TOk.nil ?_;simp[Y0b,RSrc.enc,Xo];refine X6u (y:=y) hP ?_ ?_
 ·intro hn;have hu:Ym y s f=none:=by simp only[Ym,Xnn hn]
  simp[X5a];exact h0 hu _ (.inl rfl)
 ·intro i hi j hj hs hf;subst hs; subst hf;have hx:=Xkq hi hj;have hsm:y.schemas[i].fields[j].type.names.length<=9223372036854775807:=(hy.schema _ (Uba hi)).names _ (Uba hj);generalize y.schemas[i].fields[j]=x at hx hsm;have dt:∀{ob:Xb} {K:V->Prop},K (.d (.bool (Vi y.units.length x.type)))->PCall P 252 [.d (.agg [.agg [.list 1 (y.issuers.map .str),.list 5 (y.units.map RUnit.enc),.list 6 (y.schemas.map RSchema.enc),.list 5 (y.rules.map RRule.enc),.list 5 (y.converts.map RConvert.enc),.list 3 (y.purposes.map RPurpose.enc)]]),.d (.agg [iD x.type.kind,iD x.type.lo,iD x.type.hi,.str x.type.of_,iD x.type.unit,.list 1 (x.type.names.map .str)])] ob K:=fun h=>X6t (y:=y) hP x.type hsm h;simp[RType.enc,Xo];refine dt ?_;by_cases ht:Vi y.units.length x.type=true
  ·by_cases hu:0<=x.type.unit
   ·have hu2:x.type.unit.toNat<y.units.length:=by
     unfold Vi at ht;split at ht
     ·simp only[Q9,Ubp]at ht; omega
     split at ht
     ·simp only[Xaa,Ubp]at ht; omega
     split at ht
     ·simp only[Xab,Ubp]at ht; omega
     split at ht
     ·simp only[V3,Uai,Ubp]at ht; omega
     ·cases ht
    obtain⟨u,hn⟩:∃u:Nat,x.type.unit=u:=⟨x.type.unit.toNat,by omega⟩
    rw[hn]at hu2;simp only[Int.toNat_natCast]at hu2;have du:∀{ob:Xb} {K:V->Prop},K (.d (.bool (Xjc y y.units[u])))->PCall P 178 [.d (.agg [.agg [.list 1 (y.issuers.map .str),.list 5 (y.units.map RUnit.enc),.list 6 (y.schemas.map RSchema.enc),.list 5 (y.rules.map RRule.enc),.list 5 (y.converts.map RConvert.enc),.list 3 (y.purposes.map RPurpose.enc)]]),.d y.units[u].enc] ob K:=fun h=>X6v (y:=y) hP _ h;simp[ht,hn,hu2,RUnit.enc];refine du ?_;have hus:Ym y (i:Int) (j:Int)=if Xjc y y.units[u]=true then some x.type else none:=by
     have hlt:¬(u:Int)<0:=by omega
     simp[Ym,hx,ht,hn,hu2,hlt]
    cases hub:Xjc y y.units[u]with
    | true=>
     simp[hub]at hus;simp[hub,hn];have:=h1 _ hus hsm;simpa[RType.enc,Xo,hn]using this
    | false=>
     simp[hub]at hus;simp[hub,hn];have:=h0 hus x.type.enc (.inr ⟨_,rfl⟩);simpa[RType.enc,Xo,hn]using this
   ·have hus:Ym y (i:Int) (j:Int)=some x.type:=by
     have:x.type.unit<0:=by omega
     simp[Ym,hx,ht,this]
    have hu':x.type.unit<0:=by omega
    simp[ht,hu,hu'];have:=h1 _ hus hsm;simpa[RType.enc,Xo]using this
  ·have ht':Vi y.units.length x.type=false:=by simpa using ht
   have hus:Ym y (i:Int) (j:Int)=none:=by
    simp[Ym,hx,ht']
   simp[ht'];have:=h0 hus x.type.enc (.inr ⟨_,rfl⟩);simpa[RType.enc,Xo]using this
omit hP in
theorem usable_unit {y:RSrc}{s f:Int}{t:RType}(h:Ym y s f=some t):Vi y.units.length t=true:=by
 cases e:Z6 y s f with
 | none=>simp[Ym,e]at h
 | some x=>
  simp only[Ym,e,Option.ite_none_right_eq_some,Uaq,Uai]at h;rw[<-h.2]; exact h.1.1
theorem Xj7 {y:RSrc}(a b:RType)(ha:a.names.length<=9223372036854775807)(hta:Vi y.units.length a=true)(htb:Vi y.units.length b=true){ob:Xb}{K:V->Prop}(h:K (.d (.bool (Xuu y a b)))) :
  PCall P 217 [.d (.agg [y.enc]),.d a.enc,.d b.enc] ob K:=by
 refine Xg hP mixed (ds:=[.agg [y.enc],a.enc,b.enc]) Yw1 Y30 TOk.nil ?_;have c:∀{ob:Xb} {K:V->Prop},K (.d (.bool (decide (a.names=b.names))))->PCall P 231 [.d (.list 1 (a.names.map .str)),.d (.list 1 (b.names.map .str))] ob K:=fun h=>X6s hP ha h;unfold Xuu at h;by_cases h1:a.kind=b.kind
 ·rw[Ubo (by simp[h1])]at h;by_cases h2:a.kind=4
  ·rw[Uby h2]at h;have h2':b.kind=4:=by omega
   simp[Xud,RSrc.enc,RType.enc,Xo,h2,h2'];refine c ?_;simpa using h
  ·rw[Ubo h2]at h;have h2':¬b.kind=4:=by omega
   by_cases h3:a.kind=1
   ·have h3':b.kind=1:=by omega
    by_cases h4:a.unit=-1
    ·rw[Uby (.inr (.inl h4))]at h;have h':∀b',b'=decide (a.unit=b.unit)->K (.d (.bool b')):=fun b' e=>e▸h;simp[Xud,RSrc.enc,RType.enc,Xo,h3,h3',h4];apply h'; rw[Ucl]; simp; omega
    ·by_cases h5:b.unit=-1
     ·rw[Uby (.inr (.inr h5))]at h;have h':∀b',b'=decide (a.unit=b.unit)->K (.d (.bool b')):=fun b' e=>e▸h;simp[Xud,RSrc.enc,RType.enc,Xo,h3,h3',h4,h5];apply h'; rw[Ucl]; simp; omega
     ·rw[Ubo (by omega)]at h;have hu:0<=a.unit/\a.unit<y.units.length:=by
       simp only[Vi,h3,Ubb,Q9,Ubp]at hta; omega
      have hv:0<=b.unit/\b.unit<y.units.length:=by
       simp only[Vi,h3',Ubb,Q9,Ubp]at htb; omega
      obtain⟨u,hu1⟩:∃u:Nat,a.unit=u:=⟨a.unit.toNat,by omega⟩
      obtain⟨v,hv1⟩:∃u:Nat,b.unit=u:=⟨b.unit.toNat,by omega⟩
      have hu2:u<y.units.length:=by omega
      have hv2:v<y.units.length:=by omega
      have eu:Xm9 y a.unit=y.units[u].base:=by simp[Xm9,hu1,hu2]
      have ev:Xm9 y b.unit=y.units[v].base:=by simp[Xm9,hv1,hv2]
      rw[eu,ev]at h;simp[Xud,RSrc.enc,RType.enc,RUnit.enc,Xo,h3,h3',h4,h5,hu1,hv1,hu2,hv2]
      first | exact h | skip
   ·rw[Uby (.inl h3)]at h;have h3':¬b.kind=1:=by omega
    have h':∀b',b'=decide (a.unit=b.unit)->K (.d (.bool b')):=fun b' e=>e▸h;simp[Xud,RSrc.enc,RType.enc,Xo,h1,h2',h3'];apply h'; rw[Ucl]; simp
 ·rw[Uby (by simpa using h1)]at h;simp[Xud,RSrc.enc,RType.enc,Xo,h1];exact h
theorem Yep {y:RSrc}(hy:y.small){s f s' f':Int}{nm pa nm' pa':B}{ob:Xb}{K:V->Prop}(h:K (.d (.bool (W7 y s f s' f')))) :
  PCall P 125 [.d y.enc,.d (.agg [.str nm,.str pa,iD s,iD f]),.d (.agg [.str nm',.str pa',iD s',iD f'])] ob K:=by
 refine Xg hP mixed (ds:=[y.enc,.agg [.str nm,.str pa,iD s,iD f],.agg [.str nm',.str pa',iD s',iD f']]) Ywl Y3g TOk.nil ?_;simp[Yzy,RSrc.enc,Xo];have bad:∀{d:D},(d=X5a\/∃t:RType,d=t.enc)->d.shape=.node [.leaf,.leaf,.leaf,.leaf,.leaf,.leaf]:=by
  rintro d (rfl | ⟨t,rfl⟩)<;>rfl
 have agg:∀{d:D},(d=X5a\/∃t:RType,d=t.enc)->∃xs,d=.agg xs:=by
  rintro d (rfl | ⟨t,rfl⟩)<;>exact⟨_,rfl⟩
 refine Xgw (y:=y) hP hy (fun hn d hd=>?_) (fun t ht htl=>?_)
 ·have e:W7 y s f s' f'=false:=by simp[W7,hn]
  rw[e]at h;have hs:=bad hd;obtain⟨xs,rfl⟩:=agg hd;have s2:D.shapes xs=[.leaf,.leaf,.leaf,.leaf,.leaf,.leaf]:=by simpa[D.shape]using hs
  simp[s2];refine Xgw (y:=y) hP hy (fun hn' d' hd'=>?_) (fun t' ht' htl'=>?_)
  ·have hs':=bad hd';obtain⟨xs',rfl⟩:=agg hd';have s2':D.shapes xs'=[.leaf,.leaf,.leaf,.leaf,.leaf,.leaf]:=by simpa[D.shape]using hs'
   simp[s2'];exact h
  ·simp[RType.enc,Xo];exact h
 ·simp[RType.enc,Xo];refine Xgw (y:=y) hP hy (fun hn' d' hd'=>?_) (fun t' ht' htl'=>?_)
  ·have e:W7 y s f s' f'=false:=by simp[W7,ht,hn']
   rw[e]at h;have hs':=bad hd';obtain⟨xs',rfl⟩:=agg hd';have s2':D.shapes xs'=[.leaf,.leaf,.leaf,.leaf,.leaf,.leaf]:=by simpa[D.shape]using hs'
   simp[s2'];exact h
  ·have e:W7 y s f s' f'=Xuu y t t':=by simp[W7,ht,ht']
   rw[e]at h;simp[RType.enc,Xo];refine Xj7 (y:=y) hP t t' htl (usable_unit ht) (usable_unit ht') ?_;simpa using h
end
end Go.Proofs.YtolkimpelpnpbaaGreatDoor
namespace Go.Sx
open Go Go.Ab Go.Lx
theorem Xem:∀{ob:Xb} {k:Nat} {o:Ob},Xd ob k=some o->setO ob k o=ob
 | (j,o')::r,k,o,h=>by
  simp only[Xd]at h;simp only[setO];split
  ·rename_i e; simp[e]at h; subst h; rfl
  ·rename_i e; rw[Xem (by simpa[e]using h)]
theorem Yd {ob:Xb}{k:Nat}{o:Ob}(h:Xd ob k=some o):k<Xa ob:=by
 rcases Uaa k (Xa ob) with h1 | h1
 ·exact h1
 ·rw[X1 ob k h1]at h; cases h
@[simp] theorem ex3 (a b n:Nat)(c:List D):(∃E z xs,(a=E/\b=z/\c=xs)/\n=xs.length)=(n=c.length):=by
 rw[eq_iff_iff];exact⟨fun ⟨_,_,_,⟨_,_,h3⟩,h4⟩=>h3▸h4,fun h=>⟨_,_,_,⟨rfl,rfl,rfl⟩,h⟩⟩
@[simp] theorem add11 (n:Nat):n+1+1=n+2:=rfl
@[simp] theorem add21 (n:Nat):n+2+1=n+3:=rfl
@[simp] theorem add31 (n:Nat):n+3+1=n+4:=rfl
@[simp] theorem add41 (n:Nat):n+4+1=n+5:=rfl
@[simp] theorem add51 (n:Nat):n+5+1=n+6:=rfl
@[simp] theorem add61 (n:Nat):n+6+1=n+7:=rfl
@[simp] theorem add71 (n:Nat):n+7+1=n+8:=rfl
@[simp] theorem add12 (n:Nat):n+1+2=n+3:=rfl
@[simp] theorem add22 (n:Nat):n+2+2=n+4:=rfl
@[simp] theorem strsD_shape (l:List B):(Xo l).shape=.leaf:=by simp[Xo,D.shape]
@[simp] theorem strsD_sz (l:List B):(Xo l).sz=1:=by simp[Xo,D.sz]
@[simp] theorem strsD_agg (l:List B):(Xo l).isAgg=false:=rfl
@[simp] theorem intsD_shape (l:List Int):(Xcd l).shape=.leaf:=by simp[Xcd,D.shape]
@[simp] theorem RTerm.enc_shape (t:RTerm):t.enc.shape=.node [.leaf,.leaf,.leaf,.leaf,.leaf]:=rfl
@[simp] theorem RTerm.enc_sz (t:RTerm):t.enc.sz=5:=by simp[RTerm.enc,D.sz,Raa]
@[simp] theorem RTerm.enc_agg (t:RTerm):t.enc.isAgg=true:=rfl
end Go.Sx
namespace Go.Proofs.YtolkimpelpnpbaaGreatDoor
open Go Go.Ab
def Yb3:Nat:=0x1890d3a
def Yb4:Nat:=0x1a04
def n21:Nat:=0x11df17a038069b0b0b39cc0099ce0790060ee1d102a00d0431b01630d09ce91e9ce00904ac8904414916302900d1040cc5a500904d13225b144025aa31350011303ecd2810813f39900508b0340addcc12004f0327fc12907a10100811300907403d10a7f100e074abf0a803d0e40008cf12302b65500702b01e3060b11bbdc192a0240b4b6f66263bafdb9500e07f08b02625317fc160230aa5d204150a0a701f65501d04b0e308726ddcc3df7fc01b9ed01a0172510da6030da018cca005539788cca5669c9b8b1a8012648de556685854c1570271f73bab6b01107104604d8a0b4325e00a6015c664edb2
def Y10:S:=zS [(zS [] Yb3),(zS [] Yb4)] n21
theorem Zfz:Xi Tryz.prog 21 2 Y10 [.t 4]=true:=by kernel_rfl
def Ycl:Nat:=0x1000a4d33cdbe5b767ea4d016bdd01512b0120b32eb149bdc2130121b00bf25405a2600430127c304a1ff0101262c8bee00700f12b0060b39de1680101eacc33a900a15f2c81be81f00b0fdc84cc39d3c601d457108601ecc319800c1471d44433121b60064720440ba81f11d006c6500412b0000b30030447f554916302700e0405220f504005a10204005a13200014407a1200081351498d513f7f11be8d51300a98d59e58d5129000bf30f80089991ec5331010a902cd0e53329653302bbb920a02b57931876a2590196edd1e01f9431700b1215009dc17480200b402002966297e76fc1200ee1c02308b0252fe06e0260200220410210baafa1a91c50031fc00c2053342150072fe20201d087b2b25e01e2b73de10501b48ba5a17052601a990
def n41:Nat:=0x111a27c2fd0190cc06b068a4d0eaa4da7704b01757c0160ba0177c05630414f359104501407a00e77101316d21401218a03d0110a92148a11b68e60ba21411d6131c300cb137e904b1ee04c0080ba14e00ed99
def Y2b:S:=zS [(zS [] Ycl)] n41
theorem Zgb:Xi Tryz.prog 41 1 Y2b [.t 2]=true:=by kernel_rfl
def Ycm:Nat:=0x1234989004
def Ycn:Nat:=0x1043d27c9fc290a4668b3c03923c
def X2z:Nat:=0x12d600c03900370f05d006c792a646b072749be000d07962abc510400e90703913455770f00905d17107200958900a02e00549500e0484950725e818fc1440677c03900370f05d21907266875e0390c4
def X20:Nat:=0x13c51e4d2700606c043d2717d07204f4600041790399e3
def Yco:Nat:=0x134f1e083c28398603a0b34de03b15f49c157bc403c16300b06e03a5711b1bc40fcbc40391aa038044033a080375b53ea0361483ea0350b31253ea7210b23ea0fc3ea0321aa5ac02d3ed7f70e04a302f2c94a302e1484a380f4a359710902b307ced91d01708d38656f0291c40280b304d02311b0794bb043ccc0240b304d43c0ba0240382ea0211260210380040433700220cc31d5030239251e04942836310170b3609019ba53ab01d2c93ab01c0fd01e4be3ab0180fd01a4be3ab01b31214a3ab2ab0b23abb8f79c3ab80a3ab0161aab8c3ed2eb305bdc14866680a6660111aa0101683ed3ca0e02dbd342db00d1482db80f2db00b0f28120cc6ed00e10f58701777f12600925c00709f25000a55905250300b925234d3677c0077e70061d1044275d150eeb82d2c4c62ae002d2c91d2aec1013fc7b14464847c1350a947c05e1b647c13000012020a554c9cdf9e0d1299a312450303251a23489277c101b001a80e41ecc680a91ef05e1b69f102920a02a50f026004
def n42:Nat:=0x12d6026e0d3e001e17b50302917ea84e0d027c2050302851a2970005c30750466881b502557e05d0070a6556177912048a27a8702024e0f10903581022348830a610b8ab00823e01d16d21d35ed08a215785b768223e017c932043fd0ca03805201427501304b012722011198cf34a000e01008100f72250007900d04300c5ec72200a0ba00b05108d4a007474802844106b
def Y2c:S:=zS [(zS [] Yco),(zS [(zS [(zS [] Ycm),(zS [] Ycn)] X2z)] X20)] n42
theorem Zgc:Xi Tryz.prog 42 3 Y2c [.t 6]=true:=by kernel_rfl
def Yda:Nat:=0x12540386c24c58190132980120f20370382d2035126035038a665260747210320b317b033518032a3e03205a0311aa7f702e94902f51802ea3e02e05a02d0f202c12b0298069172628b102a21302921708d8b1028cbf0273074bb3ba02714701008da661ec98117501e0240f543c0413700c87976311840200fd0220de01e0f501d3ee5202ab1714320b70de6fa0af0de98bcb500b04701c1470181ed33c04146d0ba0170cc21263682300450004d04e01120527a49c0101b352641900b590c0301416305e3f299b0066c65e10a64b16c25268a71751c20c4
def Ydb:Nat:=0x1000d90129dbebe123c
def Ydc:Nat:=0x106fbee0e602c0db99959b1016dd13305eb97b291702a406f49302d0631d302b04f02b17054a7a2aff027008029104afe0f10390d02d560c06e8f2000025a9e026bcf
def X27:Nat:=0x12d61707fe7a23d900859075a01f0b401f02455550a3583f909160c04e97e3061700c906f0aae3601d2d73ded44a5abee6ab990
def n73:Nat:=0x1c190eca664c5485a664c50d199b0050110cc1b81d300fbf800506f43512b1353e200d6a905836f3a900934a00b0b311b04419e0392af05a2500f100cd579cc0f1009d570042b8006d57079d3a2091b000a0cc34a0650060ee2091b00070cc06ec2c041ae311b34a04034a35c04036fc97262cce04f0356209c11091300d91202d855401640f01138d2a709b00a2660160455ebd900ead90a7721ee060178fb5580158fb06e0163130715d9cd29411d3338621b8b5e09dbde54247a71c300e8c03baa0d071563026282
def Y2u:S:=zS [(zS [(zS [] Ydc),(zS [] Ydb)] X27),(zS [] Yda)] n73
theorem Zgs:Xi Tryz.prog 73 2 Y2u [.t 4]=true:=by kernel_rfl
def Ycu:Nat:=0x111a0092c42b600a55b
def n50:Nat:=0x191800160c00c0b50d004820104b09a267221014225be1bca26700801603a3974040032c831002a192
def Y2f:S:=zS [(zS [] Ycu)] n50
theorem Zgf:Xi Tryz.prog 50 1 Y2f [.c 2 1 false]=true:=by kernel_rfl
def X1y:Nat:=0x10009c20180120a40e201923c
def Xpw:Nat:=0x18d99c201655200c0b26655d13e510f5b377d58925e89d451b5b2b14da10f1465a9
def Xpx:Nat:=0x10689c20ea9c254f4355ff00f64e
def Y4w:Nat:=0x11e412e00d36600c149a73687db61f100b0481b1d264f740e31d7ea0a73ba3911b82677f2138053
def Ygd:S:=zS [(zS [(zS [(zS [] X1y)] Xpw)] Xpx)] Y4w
theorem Yky:Xi Tryz.prog 106 3 Ygd []=true:=by kernel_rfl
end Go.Proofs.YtolkimpelpnpbaaGreatDoor
namespace Go.Proofs.YtolkimpelpnpbaaGreatDoor
open Go Go.Ab
def Xog:S2:=zL [] [] Yb3
def Xm1:=(by cbv:Xog=_)
def Xoh:S2:=zL [] [] Yb4
def Ydu:=(by cbv:Xoh=_)
def Zc7:S2:=zL [] [Xog,Xoh] n21
def Zhl:=(show Zc7=_ from (fun (a b:S2)=>(by cbv:zL [] [a,b] n21=_)) Xog Xoh)
theorem Zkd:Y10.lift []=some Zc7:=by kernel_rfl
def Xo1:S2:=zL [] [] Ycl
def Xxc:=(by cbv:Xo1=_)
def Zdp:S2:=zL [] [Xo1] n41
def Y0w:=(show Zdp=_ from (fun (a:S2)=>(by cbv:zL [] [a] n41=_)) Xo1)
theorem Zku:Y2b.lift []=some Zdp:=by kernel_rfl
def Xo2:S2:=zL [] [] Ycm
def Xxe:=(by cbv:Xo2=_)
def Xo3:S2:=zL [] [] Ycn
def Yd0:=(by cbv:Xo3=_)
def Xif:S2:=zL [] [Xo2,Xo3] X2z
def Xxd:=(show Xif=_ from (fun (a b:S2)=>(by cbv:zL [] [a,b] X2z=_)) Xo2 Xo3)
def Xd2:S2:=zL [] [Xif] X20
def Xxf:=(show Xd2=_ from (fun (a:S2)=>(by cbv:zL [] [a] X20=_)) Xif)
def Xig:S2:=zL [] [] Yco
def Vr:=(by cbv:Xig=_)
def Zdq:S2:=zL [] [Xig,Xd2] n42
def Zae:=(show Zdq=_ from (fun (a b:S2)=>(by cbv:zL [] [a,b] n42=_)) Xig Xd2)
theorem Zkv:Y2c.lift []=some Zdq:=by kernel_rfl
def Xij:S2:=zL [] [] Yda
def Xxw:=(by cbv:Xij=_)
def Xpt:S2:=zL [] [] Ydb
def Xxy:=(by cbv:Xpt=_)
def Xpu:S2:=zL [] [] Ydc
def Xxz:=(by cbv:Xpu=_)
def Xps:S2:=zL [] [Xpu,Xpt] X27
def Xxx:=(show Xps=_ from (fun (a b:S2)=>(by cbv:zL [] [a,b] X27=_)) Xpu Xpt)
def Zeg:S2:=zL [] [Xps,Xij] n73
def Y0z:=(show Zeg=_ from (fun (a b:S2)=>(by cbv:zL [] [a,b] n73=_)) Xps Xij)
theorem Zlj:Y2u.lift []=some Zeg:=by kernel_rfl
def Xo9:S2:=zL [] [] Ycu
def Xxl:=(by cbv:Xo9=_)
def Zdu:S2:=zL [] [Xo9] n50
def Zh4:=(show Zdu=_ from (fun (a:S2)=>(by cbv:zL [] [a] n50=_)) Xo9)
theorem Zkz:Y2f.lift []=some Zdu:=by kernel_rfl
def Xhg:S2:=zL [] [] X1y
def Xcm:=(by cbv:Xhg=_)
def Xaf:S2:=zL [] [Xhg] Xpw
def Ju:=(show Xaf=_ from (fun (a:S2)=>(by cbv:zL [] [a] Xpw=_)) Xhg)
def Xhh:S2:=zL [] [Xaf] Xpx
def Xcn:=(show Xhh=_ from (fun (a:S2)=>(by cbv:zL [] [a] Xpx=_)) Xaf)
def Ysz:S2:=zL [] [Xhh] Y4w
def X5p:=(show Ysz=_ from (fun (a:S2)=>(by cbv:zL [] [a] Y4w=_)) Xhh)
theorem Yst:Ygd.lift []=some Ysz:=by kernel_rfl
end Go.Proofs.YtolkimpelpnpbaaGreatDoor
namespace Go.Sx
open Go Go.Ab Go.Lx
def Xjk (y:RSrc)(vs:List RVar)(c:Nat×Nat):D:=.agg [y.enc,.list 4 (vs.map RVar.enc),iD c.1,iD c.2]
def Yxx:Option (Int×Int)->D
 | none=>.agg [.str [],.str [],iD 0,iD 0]
 | some r=>.agg [.str [],.str [],iD r.1,iD r.2]
def Xax (y:RSrc)(vs:List RVar):Prop:=∀v∈vs,∃s:Nat,v.schema=s/\s<y.schemas.length
end Go.Sx
namespace Go.Proofs.YtolkimpelpnpbaaGreatDoor
open Go Go.Ab Go.Lx Go.Sx
section
variable {P:Prg} (hP:P.p=Tryz.prog)
include hP
theorem Yec {y:RSrc}(hy:y.small){vs:List RVar}(hv:Xax y vs)(hl:vs.length<=9223372036854775807){c:Nat×Nat}(t:RTerm){ob:Xb}{p:Nat}(hp:Xd ob p=some (.box 93 (.d (Xjk y vs c)))){K:Out->Xb->Prop}
  (h:K (.ret (.tup [.d (Yxx (refO y vs t)),.d (.bool (refO y vs t).isSome)])) ob):ACall P 123 [.ptr p [],.d t.enc] ob K:=by
 refine Xn hP mixed Ywj Y3e TOk.nil fun _ hm=>?_;have hlt:=Yd hp;have e0:(Xa ob==p)=false:=by simp; omega
 have e1:(Xa ob+1==p)=false:=by simp; omega
 have cN:∀(s:B) {ob:Xb} {K:V->Prop},K (.d (.bool (Yq s)))->PCall P 39 [.d (.str s)] ob K:=fun s ob K h=>(Xyj hP) _ (by simp) _ _ (by simpa using h);unfold Xjk at hp;obtain⟨xs,hxs,s6⟩:∃xs,y.enc=D.agg xs/\D.shapes xs=[.leaf,.leaf,.leaf,.leaf,.leaf,.leaf]:=⟨_,rfl,rfl⟩
 have cF:∀{k:Int} {n:B} {ob:Xb} {K:V->Prop},((k<0\/(y.schemas.length:Int)<=k)->K (.tup [.d (.int .i64 0),.d (.bool false)]))->(∀i (hi:i<y.schemas.length),k=i->K (Y8 (Xt RField.name y.schemas[i].fields n 0)))->PCall P 215 [.d (.agg xs),.d (.int .i64 k),.d (.str n)] ob K:=fun h0 h=>by rw[<-hxs]; exact Yeu hP hy.schema hy.schemas h0 h
 rw[hxs]at hp;have no:Sx.refO y vs t=none->X8 (Xa ob) (K (Out.ret (V.tup [V.d (D.agg [D.str [],D.str [],D.int IntKind.i64 0,D.int IntKind.i64 0]),V.d (D.bool false)])))
   [V.d (D.agg [D.str [],D.str [],D.int IntKind.i64 0,D.int IntKind.i64 0]),V.d (D.bool false)]
   ((Xa ob+1,Ob.box 56 (V.d (D.agg [D.str [],D.str [],D.int IntKind.i64 0,D.int IntKind.i64 0])))::(Xa ob,Ob.box 36 (V.d (D.agg [D.str t.name,D.str t.path,iD t.var,iD t.field,iD t.n])))::ob):=fun e=>by
  rw[e]at h;exact⟨[],by simp,by simp[Xc]; simpa[Xc]using hm [],by simpa[Xc,Yxx]using h⟩
 simp[Yzx,RTerm.enc];refine cN _ ?_;cases h1:Yq t.name with
 | false=>simp; exact no (by simp[Sx.refO,h1])
 | true=>
  simp;refine cN _ ?_;cases h2:Yq t.path with
  | false=>simp; exact no (by simp[Sx.refO,h2])
  | true=>
   by_cases h3:t.n=0
   ·simp[h3,hp,e0,e1,s6];refine Xfg hP hl _ ?_;rcases Z9 RVar.name t.name vs 0 with⟨f1,_⟩ | ⟨i,hi,f1,f2,_⟩
    ·simp[f1,h3];simp[h3]at no;refine no ?_;simp[Sx.refO,h1,h2,h3,f1];cases vs[0]?<;>simp
    ·simp only[Int.zero_add]at f1;obtain⟨s,hs1,hs2⟩:=hv _ (Uba hi);by_cases h4:(i:Int)=t.var
     ·have h4r:t.var=(i:Int):=h4.symm;simp[f1,h4r,hi,RVar.enc,hs1,hs2,hp,e0,e1,s6];simp[h3,h4r]at no;refine⟨fun hneg=>absurd hneg (by omega),?_⟩;refine cF (k:=(s:Int)) (fun hk=>by omega) (fun i' hi' hii=>?_);obtain rfl:s=i':=by omega
      rcases Z9 RField.name t.path y.schemas[s].fields 0 with⟨g1,_⟩ | ⟨g,hg,g1,g2,_⟩
      ·have hR:Sx.refO y vs t=none:=by simp[Sx.refO,h1,h2,h3,h4r,f1,hi,hs1,hs2,g1]
       rw[g1];simp[Y8];exact no hR
      ·simp only[Int.zero_add]at g1;rw[g1];have hgn:¬(g:Int)<0:=by omega
       by_cases h5:t.field=(g:Int)
       ·have hR:Sx.refO y vs t=some ((s:Int),(g:Int)):=by simp[Sx.refO,h1,h2,h3,h4r,f1,hi,hs1,hs2,g1,h5]
        rw[hR]at h;simp[Y8,h5,hgn,hi,hs1,hp,e0,e1];exact⟨[],by simp,by simp[Xc]; simpa[Xc]using hm [],by simpa[Xc,Yxx]using h⟩
       ·have hR:Sx.refO y vs t=none:=by
         have h5':¬(g:Int)=t.field:=fun e=>h5 e.symm;simp[Sx.refO,h1,h2,h3,h4r,f1,hi,hs1,hs2,g1,h5']
        have h5':¬(g:Int)=t.field:=fun e=>h5 e.symm;simp[Y8,h5',hgn];exact no hR
     ·simp[f1,h4];simp[h3]at no;exact no (by simp[Sx.refO,h1,h2,h3,f1,hi,h4])
   ·simp[h3]; exact no (by simp[Sx.refO,h3])
end
end Go.Proofs.YtolkimpelpnpbaaGreatDoor
namespace Go.Sx
open Go Go.Ab Go.Lx
def Xan (y:RSrc)(vs:List RVar)(l:List RTerm):List (Int×Int):=l.filterMap (refO y vs)
theorem Xyf {y:RSrc}{vs:List RVar}{a:RAtom}{x:RTerm}(hx:x∈[a.a,a.b])(h1:refO y vs x=none)(h2:x.isNum=false):Wk y vs a=false:=by
 rcases Uax.1 hx with rfl | hx
 ·simp[Wk,h1,h2]
 ·rw[Uci.1 hx]at h1 h2;simp[Wk,h1,h2]
def Xd8 (y:RSrc)(op:Int)(r:Int×Int):Bool:=!(decide (op=2)||decide (op=3))||decide (Wt y r=1)||decide (Wt y r=2)
def inR (y:RSrc)(r:Int×Int):Prop:=∃(s:Nat) (hs:s<y.schemas.length) (g:Nat),r.1=s/\r.2=g/\g<y.schemas[s].fields.length
theorem Jo {y:RSrc}{vs:List RVar}{t:RTerm}{r:Int×Int}(hv:∀v∈vs,∃s:Nat,v.schema=s/\s<y.schemas.length)(h:refO y vs t=some r):inR y r:=by
 obtain⟨i,hi,s,hs,g,hg,_,_,h1,h2,_,h3,_⟩:=Qb h;obtain⟨s',e1,e2⟩:=hv _ (Uba hi);have:s=s':=by omega
 subst this;exact⟨s,hs,g,by omega,h3,hg⟩
def pRD (r:Int×Int):D:=.agg [.str [],.str [],iD r.1,iD r.2]
end Go.Sx
namespace Go.Proofs.YtolkimpelpnpbaaGreatDoor
open Go Go.Ab Go.Lx Go.Sx
section
variable {P:Prg} (hP:P.p=Tryz.prog)
include hP
theorem X58 {y:RSrc}(hy:y.small){vs:List RVar}(hv:Xax y vs)(hl:vs.length<=9223372036854775807){c:Nat×Nat}(a:RAtom){ob:Xb}{p:Nat}(hp:Xd ob p=some (.box 93 (.d (Xjk y vs c)))){K:Out->Xb->Prop}
  (h:K (.ret (.d (.bool (Wk y vs a)))) ob):ACall P 73 [.ptr p [],.d a.enc] ob K:=by
 refine Xn hP mixed Zgs Zlj TOk.nil fun _ hm=>?_;have hlt:=Yd hp;have e0:(Xa ob==p)=false:=by simp; omega
 have e1:(Xa ob+1==p)=false:=by simp; omega
 have e2:(Xa ob+2==p)=false:=by simp; omega
 have e3:(Xa ob+3==p)=false:=by simp; omega
 have fin:∀(b:Bool) (ob2:Xb),b=Wk y vs a->Y2 (Xc (Xa ob) []) ob2=ob->X8 (Xa ob) (K (.ret (.d (.bool b)))) [.d (.bool b)] ob2:=fun b ob2 e hd=>by
  subst e;exact⟨[],by simp,by rw[hd]; exact hm [],by rw[hd]; exact h⟩
 by_cases ho1:a.op<1
 ·simp[Y0z,RAtom.enc,RTerm.enc,ho1];refine fin _ _ (Eq.symm ?_) (by simp[Xc]);simp[Wk]; omega
 by_cases ho2:4<a.op
 ·simp[Y0z,RAtom.enc,RTerm.enc,ho1,ho2];refine fin _ _ (Eq.symm ?_) (by simp[Xc]);simp[Wk]; omega
 simp[Y0z,RAtom.enc,RTerm.enc,ho1,ho2];have hts:∀k,k<2->∃hk:k < [a.a,a.b].length,True:=fun k hk=>⟨hk,trivial⟩;refine ALoop.upto 2 (fun k=>[(0,.ptr p []),(3,.ptr (Xa ob) []),(5,.sl (Xa ob+1) (Xan y vs ([a.a,a.b].take k)).length),(25,.d (.list 5 [a.a.enc,a.b.enc])),(26,.d (.int .i64 2)),(27,.d (.int .i64 k))])
  (fun k=>(Xa ob+1,.arr 56 4 ((Xan y vs ([a.a,a.b].take k)).map pRD))::(Xa ob,.box 38 (.d a.enc))::ob) (fun k=>∀x∈[a.a,a.b].take k,(refO y vs x).isSome=true\/x.isNum=true) (by simp) (by simp[Xan,RTerm.enc]) (by simp[Xan,RAtom.enc,RTerm.enc]) ?_ ?_
 ·intro k hk hi R rn re rr rp;obtain⟨hk2,_⟩:=hts k hk;have hx:([a.a.enc,a.b.enc]:List D)[k]?.getD default=([a.a,a.b][k]).enc:=by
   rcases k with _ | _ | k
   ·rfl
   ·rfl
   ·omega
  have hki:(k:Int)<2:=by omega
  have htk:Xan y vs ([a.a,a.b].take (k+1))=Xan y vs ([a.a,a.b].take k)++(match refO y vs ([a.a,a.b][k]) with | some r=>[r] | none=>[]):=by
   rw[Ubj hk2];simp only[Xan,List.filterMap_append,List.filterMap_cons,List.filterMap_nil];cases refO y vs [a.a,a.b][k]<;>rfl
  have hmem:[a.a,a.b][k]∈[a.a,a.b]:=Uba hk2;have hti:(∀x∈[a.a,a.b].take (k+1),(refO y vs x).isSome=true\/x.isNum=true)↔((refO y vs ([a.a,a.b][k])).isSome=true\/([a.a,a.b][k]).isNum=true):=by
   rw[Ubj hk2];constructor
   ·intro h; exact h _ (Ubu.2 (.inr (Uci.2 rfl)))
   ·intro h x hx;rcases Ubu.1 hx with hx | hx
    ·exact hi x hx
    ·rw[Uci.1 hx]; exact h
  rw[htk]at rn;replace rn:=fun kp sl' ob' h0=>rn kp sl' ob' (hti.2 h0);generalize [a.a,a.b][k]=tk at hx rn hmem htk hti;have hrk:(Xan y vs ([a.a,a.b].take k)).length<=1:=by
   refine Ual (List.length_filterMap_le _ _) ?_;simp; omega
  generalize Xan y vs ([a.a,a.b].take k)=rk at rn hrk htk;have ex:[tk.name,tk.path]=[tk.name,tk.path]:=rfl;simp[Xxx,hki,hx];refine⟨rfl,?_⟩;refine Yec hP hy hv hl (c:=c) tk (p:=p) ?_ ?_
  ·simp[hp,e0,e1,e2]
  have wr:IntKind.i64.wrap ((k:Int)+1)=(k:Int)+1:=IntWalk.i64_in _ (by omega);have hm1:Xh (Xc (Xa ob+2) []) ob=true:=Xq 2 hm;have cI:∀{ob:Xb} {K:V->Prop},K (.d (.bool tk.isNum))->PCall P 124 [.d tk.enc] ob K:=fun h=>Xus hP tk h;obtain⟨tx,htx,hts⟩:∃tx,tk.enc=D.agg tx/\D.shapes tx=[.leaf,.leaf,.leaf,.leaf,.leaf]:=⟨_,rfl,rfl⟩
  rw[htx]at cI⊢;cases hr:refO y vs tk with
  | none=>
   simp[Yxx,Xxz,hts];refine cI ?_;cases hn:tk.isNum with
   | true=>
    simp[Xxy,wr];rw[hr]at rn;refine rn [] _ _ (.inr hn) (by simp) (by simp[Xc]) (by simp[Xc]; omega) (by simpa[Xc]using hm1)
   | false=>
    simp;refine rr _ _ ?_;simp;exact fin _ _ (Eq.symm (Xyf hmem hr hn)) (by simp[Xc])
  | some r=>
   simp[Yxx,Xxz,hts];refine⟨by omega,?_⟩;simp[Xxy,wr];rw[hr]at rn;refine rn [] _ _ (.inl rfl) (by simp) (by simp[Xc,pRD]) (by simp[Xc]; omega) (by simpa[Xc]using hm1)
 ·intro hi R re rr rp;have h2:[a.a,a.b].take 2=[a.a,a.b]:=rfl;rw[h2]at hi;have hir:∀r∈Xan y vs [a.a,a.b],inR y r:=by
   intro r hr;obtain⟨x,_,hx⟩:=List.mem_filterMap.1 hr;exact Jo hv hx
  simp[Xxx];refine re _ _ _ ?_;clear re rr rp;have cA:∀(r s:Int×Int) {ob:Xb} {K:V->Prop},K (.d (.bool (W7 y r.1 r.2 s.1 s.2)))->PCall P 125 [.d y.enc,.d (.agg [.str [],.str [],iD r.1,iD r.2]),.d (.agg [.str [],.str [],iD s.1,iD s.2])] ob K:=fun r s {ob K} h=>Yep hP hy h;have hp2:=hp;unfold Xjk at hp2;obtain⟨xs,hxs,s6⟩:∃xs,y.enc=D.agg xs/\D.shapes xs=[.leaf,.leaf,.leaf,.leaf,.leaf,.leaf]:=⟨_,rfl,rfl⟩
  rw[hxs]at hp2 cA;have tail:∀(rk:List (Int×Int)),rk.length<=2->(∀r∈rk,inR y r)->rk.all (Xd8 y a.op)=Wk y vs a->ALoop [0,3,72,73,74] (Yw P [] Xij)
    (Y3 2 (W3 (Yw P [] ((S2.rg [] [(4,E.a (A.bool true))] []).seq S2.ret) (Vs (Xa ob) [RV.t 4] K)) (Vs (Xa ob) [RV.t 4] K)))
    [(0,.ptr p []),(3,.ptr (Xa ob) []),(72,.sl (Xa ob+1) rk.length),(73,.d (.int .i64 rk.length)),(74,.d (.int .i64 0))] ((Xa ob+1,.arr 56 4 (rk.map pRD))::(Xa ob,.box 38 (.d a.enc))::ob):=by
   intro rk hrl hri hra;refine ALoop.upto rk.length (fun k=>[(0,.ptr p []),(3,.ptr (Xa ob) []),(72,.sl (Xa ob+1) rk.length),(73,.d (.int .i64 rk.length)),(74,.d (.int .i64 k))]) (fun k=>(Xa ob+1,.arr 56 4 (rk.map pRD))::(Xa ob,.box 38 (.d a.enc))::ob) (fun k=>(rk.take k).all (Xd8 y a.op)=true) (by simp) (by simp) rfl ?_ ?_
   ·intro k hk hi R rn re rr rp;have hm1:Xh (Xc (Xa ob+2) []) ob=true:=Xq 2 hm;obtain⟨s,hs,g,h1,h2,h3⟩:=hri _ (Uba hk);have hkn:Wt y rk[k]=(y.schemas[s].fields[g]).type.kind:=by
     simp only[Wt,h1,h2,Xkq hs h3]
    have wr:IntKind.i64.wrap ((k:Int)+1)=(k:Int)+1:=IntWalk.i64_in _ (by omega);have hon:Xd8 y a.op rk[k]=(!(decide (a.op=2)||decide (a.op=3))||decide ((y.schemas[s].fields[g]).type.kind=1)||decide ((y.schemas[s].fields[g]).type.kind=2)):=by simp only[Xd8,hkn]
    have htk:(rk.take (k+1)).all (Xd8 y a.op)=Xd8 y a.op rk[k]:=by
     rw[Ubj hk,Uch,hi]; simp
    rw[htk]at rn;have hp3:=hp2;rw[<-hxs]at hp3;simp only[RSrc.enc]at hp3;simp[Xxw,hk,pRD,hp3,e0,e1,e2,e3,h1,h2,hs,h3,RSchema.enc,RField.enc,RType.enc,RAtom.enc];constructor
    ·intro c1 c2 c3;refine rr _ _ ?_;simp;refine fin false _ ?_ (by simp[Xc]);rw[<-hra];refine Eq.symm (Ucm.2 fun hall=>?_);have:=Ubt.1 hall _ (Uba hk);rw[hon]at this;simp[c2,c3]at this;omega
    ·intro c1;refine rn [] _ _ ?_ (by simp[wr]) (by simp[Xc,RAtom.enc]) (by simp[Xc]; omega) (by simpa[Xc]using hm1);rw[hon];by_cases d1:a.op=2\/a.op=3
     ·by_cases d2:y.schemas[s].fields[g].type.kind=1
      ·simp[d2]
      ·simp[c1 d1 d2]
     ·have d3:a.op ≠ 2:=fun e=>d1 (.inl e);have d4:a.op ≠ 3:=fun e=>d1 (.inr e);simp[d3,d4]
   ·intro hi R re rr rp;simp[Xxw];refine re _ _ _ ?_;simp;rw[Ucq]at hi;rw[hi]at hra;exact fin _ _ hra (by simp[Xc])
  have ord1:∀r:Int×Int,Yde y a.op (some r)=Xd8 y a.op r:=fun r=>rfl;have hop:(decide (1<=a.op)&&decide (a.op<=4))=true:=by simp; omega
  cases ra:refO y vs a.a with
  | none=>
   cases rb:refO y vs a.b with
   | none=>
    simp[Xan,ra,rb];refine⟨⟨_,_,_,⟨rfl,rfl,rfl⟩,rfl⟩,?_⟩;refine fin false _ ?_ ?_
    ·simp[Wk,ra,rb]
    ·simp[Xc]
   | some s=>
    have hn:a.a.isNum=true:=by
     rcases hi a.a (by simp) with h1 | h1
     ·rw[ra]at h1; cases h1
     ·exact h1
    simp[Xan,ra,rb];have:=tail [s] (by simp) (by intro r hr; rw[Uci.1 hr]; exact Jo hv rb) (by
     simp only[Wk,hop,ra,rb,hn,ord1]; simp[Yde])
    simpa using this
  | some r=>
   cases rb:refO y vs a.b with
   | none=>
    have hn:a.b.isNum=true:=by
     rcases hi a.b (by simp) with h1 | h1
     ·rw[rb]at h1; cases h1
     ·exact h1
    simp[Xan,ra,rb];have:=tail [r] (by simp) (by intro r' hr; rw[Uci.1 hr]; exact Jo hv ra) (by
     simp only[Wk,hop,ra,rb,hn,ord1]; simp[Yde])
    simpa using this
   | some s=>
    simp[Xan,ra,rb,hp2,e0,e1,s6,pRD];refine cA r s ?_;cases hal:W7 y r.1 r.2 s.1 s.2 with
    | false=>
     simp;refine fin false _ ?_ ?_
     ·simp[Wk,ra,rb,hal]
     ·simp[Xc]
    | true=>
     simp;have:=tail [r,s] (by simp) (by
      intro r' hr;rcases Uax.1 hr with rfl | hr
      ·exact Jo hv ra
      ·rw[Uci.1 hr]; exact Jo hv rb) (by
      simp only[Wk,hop,ra,rb,hal,ord1]; simp)
     simpa[pRD]using this
end
end Go.Proofs.YtolkimpelpnpbaaGreatDoor
namespace Go.Sx
open Go Go.Ab Go.Lx
theorem Xbi (y:RSrc)(vs:List RVar):∀(a b:List RForm) (d:Nat) (c:Nat×Nat),Rde y vs (a++b) d c=if (Rde y vs a d c).1 then Rde y vs b d (Rde y vs a d c).2 else Rde y vs a d c
 | [],b,d,c=>by simp[Rde]
 | f::r,b,d,c=>by
  have ih:=Xbi y vs r b d;simp only[List.cons_append,Rde];by_cases h:(RForm.okS y vs f d c).1=true
  ·simp[h,ih]
  ·simp[h]
theorem Yk0 (y:RSrc)(vs:List RVar)(x:RForm)(d:Nat)(c:Nat×Nat):Rde y vs [x] d c=x.okS y vs d c:=by
 rcases h:x.okS y vs d c with⟨b,s⟩
 cases b<;>simp[Rde,h]
theorem X9x {y:RSrc}{vs:List RVar}{l:List RForm}{d k:Nat}{c:Nat×Nat}(hk:k<l.length)(hi:(Rde y vs (l.take k) d c).1=true):Rde y vs (l.take (k+1)) d c=l[k].okS y vs d (Rde y vs (l.take k) d c).2:=by
 rw[Ubj hk,Xbi,Uby hi,Yk0]
theorem X9y {y:RSrc}{vs:List RVar}{l:List RForm}{d k:Nat}{c:Nat×Nat}(h:(Rde y vs (l.take k) d c).1=false):Rde y vs l d c=Rde y vs (l.take k) d c:=by
 have e:=Xbi y vs (l.take k) (l.drop k) d c;rw[Uao,h]at e;simpa using e
@[simp] theorem RForm.enc_shape (f:RForm):f.enc.shape=.node [.leaf,.leaf,.leaf,.node [.leaf,.node [.leaf,.leaf,.leaf,.leaf,.leaf],.node [.leaf,.leaf,.leaf,.leaf,.leaf]]]:=by rw[Rc4]; rfl
@[simp] theorem RForm.enc_sz (f:RForm):f.enc.sz=14:=by rw[Rc4]; simp[RAtom.enc,RTerm.enc,D.sz,Raa]
@[simp] theorem RForm.enc_agg (f:RForm):f.enc.isAgg=true:=by rw[Rc4]; rfl
mutual
theorem Yxm (y:RSrc)(vs:List RVar):∀(f:RForm) (d:Nat) (c:Nat×Nat),(f.okS y vs d c).1=true->(f.okS y vs d c).2.1<=32
 | .mk op n k a,d,c,h=>by
  unfold RForm.okS at h⊢;split at h
  ·cases h
  rename_i h0;simp only[h0,Uay];split at h
  ·rename_i h1;simp only[h1,Ubb];split at h
   ·rename_i h2;simp only[h2,Ubb];exact Xtt y vs k (d+1) (c.1+1,c.2) (by simp only; omega) h
   ·cases h
  rename_i h1;simp only[h1,Uay];split at h
  ·rename_i h2;simp only[h2,Ubb];split at h
   ·rename_i h3;simp only[h3,Ubb];exact Xtt y vs k (d+1) (c.1+1,c.2) (by simp only; omega) h
   ·cases h
  rename_i h2;simp only[h2,Uay];split at h
  ·rename_i h3;simp only[h3,Ubb]; omega
  rename_i h3;simp only[h3,Uay];split at h
  ·rename_i h4;simp only[h4,Ubb]; omega
  ·cases h
theorem Xtt (y:RSrc)(vs:List RVar):∀(l:List RForm) (d:Nat) (c:Nat×Nat),c.1<=32->(Rde y vs l d c).1=true->(Rde y vs l d c).2.1<=32
 | [],d,c,hc,h=>by simpa[Rde]using hc
 | f::r,d,c,hc,h=>by
  unfold Rde at h⊢;split at h
  ·rename_i h1;simp only[h1,Ubb];exact Xtt y vs r d _ (Yxm y vs f d c h1) h
  ·cases h
end
theorem Yxl (y:RSrc)(vs:List RVar)(f:RForm)(d:Nat)(c:Nat×Nat):f.okS y vs d c =
  if 32<c.1+1\/8<d\/8<f.kids.length then (false,(c.1+1,c.2))
  else if f.op=1\/f.op=2 then (if f.atom.zero&&decide (f.n=0) then Rde y vs f.kids (d+1) (c.1+1,c.2) else (false,(c.1+1,c.2)))
  else if f.op=3 then (if f.atom.zero&&decide (1<=f.n)&&decide (f.n<=f.kids.length) then Rde y vs f.kids (d+1) (c.1+1,c.2) else (false,(c.1+1,c.2)))
  else if f.op=4 then (f.atom.zero&&decide (f.kids.length=0)&&decide (0<=f.n)&&decide (f.n<vs.length),(c.1+1,c.2))
  else if f.op=5 then (decide (f.n=0)&&decide (f.kids.length=0)&&decide (c.2+1<=8)&&Wk y vs f.atom,(c.1+1,c.2+1))
  else (false,(c.1+1,c.2)):=by
 cases f; rw[RForm.okS]; rfl
theorem Y6 (a:RAtom):a.enc.eqb (.agg [.int .i64 0,.agg [.str [],.str [],.int .i64 0,.int .i64 0,.int .i64 0],.agg [.str [],.str [],.int .i64 0,.int .i64 0,.int .i64 0]])=a.zero:=by
 obtain⟨o,⟨n1,p1,v1,f1,m1⟩,⟨n2,p2,v2,f2,m2⟩⟩:=a;rw[Ucl];simp[RAtom.enc,RTerm.enc,RAtom.zero,RTerm.zero,D.eqb,D.eqbs,and_assoc]
def X91 (l:List RVar):Bool:=l.any fun v=>!v.other
theorem X3n (l:List RVar)(v:RVar):X91 (l++[v])=(X91 l||!v.other):=by simp[X91]
theorem Yaq (y:RSrc)(vs:List RVar):Z2 y vs=(decide (1<=vs.length)&&decide (vs.length<=3)&&(vs.zipIdx.all fun p=>Xbo y vs p.2 p.1)&&X91 vs):=rfl
end Go.Sx
namespace Go.Proofs.YtolkimpelpnpbaaGreatDoor
open Go Go.Ab Go.Lx Go.Sx
section
variable {P:Prg} (hP:P.p=Tryz.prog)
include hP
theorem X6d {y:RSrc}(hy:y.small){vs:List RVar}(hl:vs.length<=9223372036854775807){c:Nat×Nat}{ob:Xb}{p:Nat}(hp:Xd ob p=some (.box 93 (.d (Xjk y vs c)))){K:Out->Xb->Prop}
  (h:K (.ret (.d (.bool (Z2 y vs)))) ob):ACall P 41 [.ptr p []] ob K:=by
 refine Xn hP mixed Zgb Zku TOk.nil fun _ hm=>?_;have hlt:=Yd hp;have e0:(Xa ob==p)=false:=by simp; omega
 have e1:(Xa ob+1==p)=false:=by simp; omega
 have fin:∀(b:Bool) (ob2:Xb),b=Z2 y vs->Y2 (Xc (Xa ob) []) ob2=ob->X8 (Xa ob) (K (.ret (.d (.bool b)))) [.d (.bool b)] ob2:=fun b ob2 e hd=>by
  subst e;exact⟨[],by simp,by rw[hd]; exact hm [],by rw[hd]; exact h⟩
 unfold Xjk at hp;obtain⟨xs,hxs,s6⟩:∃xs,y.enc=D.agg xs/\D.shapes xs=[.leaf,.leaf,.leaf,.leaf,.leaf,.leaf]:=⟨_,rfl,rfl⟩
 have cS:∀(n:B) {ob:Xb} {K:V->Prop},K (Y8 (Xt RSchema.name y.schemas n 0))->PCall P 71 [.d (.agg xs),.d (.str n)] ob K:=fun n ob K h=>by rw[<-hxs]; exact X6q hP hy.schemas h
 have cN:∀(s:B) {ob:Xb} {K:V->Prop},K (.d (.bool (Yq s)))->PCall P 39 [.d (.str s)] ob K:=fun s ob K h=>(Xyj hP) _ (by simp) _ _ (by simpa using h);rw[hxs]at hp;by_cases h1:vs.length<1
 ·have h1':vs=[]:=Uct.1 (by omega);subst h1';simp[Y0w,hp,s6];refine fin false _ ?_ ?_
  ·simp[Z2]
  ·simp[Xc]
 by_cases h2:3<vs.length
 ·have h1i:¬(vs.length:Int)<1:=by omega
  have h2i:(3:Int)<vs.length:=by omega
  simp[Y0w,hp,s6,h1i,h2i];refine fin false _ ?_ ?_
  ·simp[Z2]; omega
  ·simp[Xc]
 have h1i:¬(vs.length:Int)<1:=by omega
 have h2i:¬(3:Int)<vs.length:=by omega
 simp[Y0w,hp,s6,h1i,h2i];have hvb:Z2 y vs=((vs.zipIdx.all fun p=>Xbo y vs p.2 p.1)&&X91 vs):=by
  have a1:1<=vs.length:=by omega
  have a2:vs.length<=3:=by omega
  rw[Yaq,Ucr a1,Ucr a2]; rfl
 have hall:(∀i (hi:i<vs.length),Xbo y vs i vs[i]=true)->(vs.zipIdx.all fun p=>Xbo y vs p.2 p.1)=true:=by
  intro hh;rw[Ubt];rintro⟨v,i⟩ hm;have:=List.mem_zipIdx_iff_getElem?.1 hm;obtain⟨hi,hv⟩:=Uan.1 this;simp only at hi hv⊢;rw[<-hv]; exact hh i hi
 have hbad:∀i (hi:i<vs.length),Xbo y vs i vs[i]=false->Z2 y vs=false:=by
  intro i hi hf;rw[Ucm];intro ht;have:=Qx ht i hi;rw[hf]at this; cases this
 refine ALoop.upto vs.length (fun k=>[(0,.ptr p []),(3,.d (.bool (X91 (vs.take k)))),(25,.d (.list 4 (vs.map RVar.enc))),(26,.d (.int .i64 vs.length)),(27,.d (.int .i64 k))]) (fun k=>ob) (fun k=>∀i (hi:i<vs.length),i<k->Xbo y vs i vs[i]=true) (by intro i hi h; omega) (by simp[X91]) rfl ?_ ?_
 ·intro k hk hi R rn re rr rp;have wr:IntKind.i64.wrap ((k:Int)+1)=(k:Int)+1:=IntWalk.i64_in _ (by omega);have hnx:∀(hv:Xbo y vs k vs[k]=true),∀i (hi:i<vs.length),i<k+1->Xbo y vs i vs[i]=true:=by
   intro hv i hi2 hlt;rcases Uaa i k with h1 | h1
   ·exact hi i hi2 h1
   ·have:i=k:=by omega
    subst this; exact hv
  have hany:X91 (vs.take (k+1))=(X91 (vs.take k)||!vs[k].other):=by
   rw[Ubj hk,X3n]
  rw[hany]at rn;have hb:=hbad k hk;have hv0:Xbo y vs k vs[k]=(decide (0<=vs[k].schema)&&decide (Xt RSchema.name y.schemas vs[k].kind 0=vs[k].schema)&&Yq vs[k].kind&&Yq vs[k].name&&decide (Xt RVar.name vs vs[k].name 0=k)):=rfl;have hen:((vs.map RVar.enc)[k]?.getD default)=RVar.enc vs[k]:=by simp[hk]
  generalize hvk:vs[k]=v at *;simp[Xxc,hk,hen,hvk,RVar.enc,hp,s6,e0,e1];refine cS _ ?_;rcases Z9 RSchema.name v.kind y.schemas 0 with⟨f1,_⟩ | ⟨i,hi2,f1,f2,_⟩
  ·have hF:Z2 y vs=false:=hb (by
    rw[hv0,f1];by_cases h0:0<=v.schema
    ·have:¬(-1:Int)=v.schema:=by omega
     simp[this]
    ·simp[h0])
   rw[f1];simp[Y8];refine rr _ _ ?_;simp;exact fin false _ hF.symm (by simp[Xc])
  ·simp only[Int.zero_add]at f1;have hin:¬(i:Int)<0:=by omega
   by_cases g1:(i:Int)=v.schema
   ·have g1':v.schema=(i:Int):=g1.symm;have g0:(0:Int)<=i:=by omega
    rw[f1];simp[Y8,hin,g1'];refine cN _ ?_;cases g2:Yq v.kind with
    | false=>
     simp;refine rr _ _ ?_;simp;exact fin false _ (hb (by rw[hv0]; simp[g2])).symm (by simp[Xc])
    | true=>
     simp;refine cN _ ?_;cases g3:Yq v.name with
     | false=>
      simp;refine rr _ _ ?_;simp;exact fin false _ (hb (by rw[hv0]; simp[g3])).symm (by simp[Xc])
     | true=>
      simp;refine Xfg hP hl _ ?_;by_cases g4:Xt RVar.name vs v.name 0=(k:Int)
      ·simp[g4];refine rn [] _ _ (hnx (by rw[hv0,f1]; simp[g1',g2,g3,g4,g0])) (by simp[wr]) (by simp[Xc]) (by simp[Xc]; omega) (by simpa[Xc]using hm [])
      ·simp[g4];refine rr _ _ ?_;simp;exact fin false _ (hb (by rw[hv0]; simp[g4])).symm (by simp[Xc])
   ·have hF:Z2 y vs=false:=hb (by rw[hv0,f1]; simp[g1]);have g1b:((i:Int) != v.schema)=true:=by simpa using g1
    rw[f1];simp[Y8,hin,g1,g1b];refine rr _ _ ?_;simp;exact fin false _ hF.symm (by simp[Xc])
 ·intro hi R re rr rp;simp[Xxc];refine re _ _ _ ?_;simp;refine fin _ _ ?_ ?_
  ·rw[hvb,hall (fun i hi2=>hi i hi2 hi2)]; simp
  ·simp[Xc]
theorem Xc7 {y:RSrc}(hy:y.small){vs:List RVar}(hv:Xax y vs)(hl:vs.length<=3):∀(f:RForm),f.small->∀(d:Nat),d<=9->∀(c:Nat×Nat),c.1<=32->c.2<=8->∀{ob:Xb} {p:Nat},Xd ob p=some (.box 93 (.d (Xjk y vs c)))->∀{K:Out->Xb->Prop},
  K (.ret (.d (.bool (f.okS y vs d c).1))) (setO ob p (.box 93 (.d (Xjk y vs (f.okS y vs d c).2))))->ACall P 42 [.ptr p [],.d f.enc,.d (.int .i64 d)] ob K:=fun f hf d hd c hc1 hc2 ob p hp K h=>by
 have ih:∀k∈f.kids,∀(d:Nat),d<=9->∀(c:Nat×Nat),c.1<=32->c.2<=8->∀{ob:Xb} {p:Nat},Xd ob p=some (.box 93 (.d (Xjk y vs c)))->∀{K:Out->Xb->Prop},K (.ret (.d (.bool (k.okS y vs d c).1))) (setO ob p (.box 93 (.d (Xjk y vs (k.okS y vs d c).2))))->ACall P 42 [.ptr p [],.d k.enc,.d (.int .i64 d)] ob K:=fun k hk d hd c hc1 hc2 _ _ hp _ h=>Xc7 hy hv hl k ((Rc7 hf).2 k hk) d hd c hc1 hc2 hp h;have hkl:=(Rc7 hf).1;refine Xn hP mixed Zgc Zkv TOk.nil fun _ hm=>?_;have hlt:=Yd hp;have e0:(Xa ob==p)=false:=by simp; omega
 have e1:(Xa ob+1==p)=false:=by simp; omega
 have w1:IntKind.i64.wrap ((c.1:Int)+1)=(c.1:Int)+1:=IntWalk.i64_in _ (by omega);unfold Xjk at hp;obtain⟨xs,hxs,s6⟩:∃xs,y.enc=D.agg xs/\D.shapes xs=[.leaf,.leaf,.leaf,.leaf,.leaf,.leaf]:=⟨_,rfl,rfl⟩
 rw[hxs]at hp;have ha1:f.atom.enc.shape.size=11:=by rw[Ran]; simp[RAtom.enc,RTerm.enc,D.sz,Raa]
 have fin:∀b c',f.okS y vs d c=(b,c')->∀ob2,Y2 (Xc (Xa ob) []) ob2=setO ob p (.box 93 (.d (.agg [.agg xs,.list 4 (vs.map RVar.enc),iD c'.1,iD c'.2])))->X8 (Xa ob) (K (.ret (.d (.bool b)))) [.d (.bool b)] ob2:=by
  intro b c' e ob2 hd;rw[e]at h;simp only[Xjk,hxs]at h;refine⟨[],by simp,?_,by rw[hd]; exact h⟩;rw[hd];exact Xl _ _ _ _ _ (hm _) (by simp)
 have hS:=Yxl y vs f d c;by_cases hbig:32<c.1+1\/8<d\/8<f.kids.length
 ·have hb':(32<(c.1:Int)+1\/8<(d:Int))\/8<(f.kids.length:Int):=by omega
  rw[Uby hbig]at hS;simp[Zae,Rc4 f,hp,e0,e1,s6,w1,hb'];refine⟨?_,fun a1 a2 a3=>by omega⟩;refine fin _ _ hS _ ?_;simp[Xc]
 have q1:(c.1:Int)+1<=32:=by omega
 have q2:(d:Int)<=8:=by omega
 have q3:(f.kids.length:Int)<=8:=by omega
 have q1':¬(32:Int)<(c.1:Int)+1:=by omega
 have q2':¬(8:Int)<(d:Int):=by omega
 have q3':¬(8:Int)<(f.kids.length:Int):=by omega
 rw[Ubo hbig]at hS;simp[Zae,Rc4 f,hp,e0,e1,s6,w1,q1,q2,q3,q1',q2',q3',ha1,Y6];refine⟨rfl,by simp[RAtom.enc,RTerm.enc,KT.fits,Rbd],?_⟩;have kids:∀(j:Nat) (v:V) (o n:Int),(j=47\/j=64)->f.okS y vs d c=Rde y vs f.kids (d+1) (c.1+1,c.2)->Yw P [] Xd2 (Vs (Xa ob) [RV.t 6] K)
   [(0,V.ptr p []),(2,V.d (D.int IntKind.i64 ↑d)),(4,V.ptr (Xa ob) []),(j,v)]
   ((Xa ob,Ob.box 40 (V.d (D.agg [iD o,iD n,D.list 14 (List.map RForm.enc f.kids),f.atom.enc])))::
    setO ob p (Ob.box 93 (V.d (D.agg [D.agg xs,D.list 4 (List.map RVar.enc vs),D.int IntKind.i64 (↑c.fst+1),iD ↑c.snd])))):=by
  intro j v o n hj hK;have go:ALoop [0,2,121,122,123] (Yw P [] Xif) (Y3 1 (W3 (Yw P [] ((S2.rg [] [(6,E.a (A.bool true))] []).seq S2.ret) (Vs (Xa ob) [RV.t 6] K)) (Vs (Xa ob) [RV.t 6] K)))
    [(0,V.ptr p []),(2,V.d (D.int IntKind.i64 ↑d)),(121,V.d (D.list 14 (List.map RForm.enc f.kids))),(122,V.d (D.int IntKind.i64 ↑f.kids.length)),(123,V.d (D.int IntKind.i64 0))]
    ((Xa ob,Ob.box 40 (V.d (D.agg [iD o,iD n,D.list 14 (List.map RForm.enc f.kids),f.atom.enc])))::
    setO ob p (Ob.box 93 (V.d (D.agg [D.agg xs,D.list 4 (List.map RVar.enc vs),D.int IntKind.i64 (↑c.fst+1),iD ↑c.snd])))):=by
   refine ALoop.upto f.kids.length (fun k=>[(0,V.ptr p []),(2,V.d (D.int IntKind.i64 ↑d)),(121,V.d (D.list 14 (List.map RForm.enc f.kids))),(122,V.d (D.int IntKind.i64 ↑f.kids.length)),(123,V.d (D.int IntKind.i64 k))])
    (fun k=>(Xa ob,Ob.box 40 (V.d (D.agg [iD o,iD n,D.list 14 (List.map RForm.enc f.kids),f.atom.enc])))::
     setO ob p (Ob.box 93 (V.d (D.agg [D.agg xs,D.list 4 (List.map RVar.enc vs),iD (Rde y vs (f.kids.take k) (d+1) (c.1+1,c.2)).2.1,iD (Rde y vs (f.kids.take k) (d+1) (c.1+1,c.2)).2.2]))))
    (fun k=>(Rde y vs (f.kids.take k) (d+1) (c.1+1,c.2)).1=true) (by simp[Rde]) (by simp) (by simp[Rde]) ?_ ?_
   ·intro k hk hi R rn re rr rp;have wr:IntKind.i64.wrap ((k:Int)+1)=(k:Int)+1:=IntWalk.i64_in _ (by omega);have wd:IntKind.i64.wrap ((d:Int)+1)=((d+1:Nat):Int):=by rw[IntWalk.i64_in _ (by omega)]; push_cast; rfl
    have b1:=Xtt y vs (f.kids.take k) (d+1) (c.1+1,c.2) (by simp only; omega) hi;have b2:=(Xai y vs (f.kids.take k) (d+1) (c.1+1,c.2) hc2 hi).2.1;have hstep:=X9x hk hi;have hfull:(RForm.okS y vs f.kids[k] (d+1) (Rde y vs (f.kids.take k) (d+1) (c.1+1,c.2)).2).1=false->f.okS y vs d c=(false,(RForm.okS y vs f.kids[k] (d+1) (Rde y vs (f.kids.take k) (d+1) (c.1+1,c.2)).2).2):=by
     intro hf;have hf':=hf;rw[<-hstep]at hf';rw[hK,X9y hf',hstep];exact Prod.ext hf rfl
    rw[hstep]at rn;have hmem:f.kids[k]∈f.kids:=Uba hk;generalize Rde y vs (f.kids.take k) (d+1) (c.1+1,c.2)=st at rn hfull b1 b2 hi hstep⊢;have hagg:(match V.d f.kids[k].enc with | V.d (D.agg xs)=>true | V.agg xs=>true | x=>false)=true:=by rw[Rc4]
    simp[Xxd,hk,wd];refine⟨hagg,?_⟩;refine ih _ hmem (d+1) (by omega) st.2 b1 b2 (p:=p) ?_ ?_
    ·simp[hp,e0,e1,Xjk,hxs]
    generalize RForm.okS y vs f.kids[k] (d+1) st.2=res at rn hfull hstep⊢;cases hr:res.1 with
    | false=>
     simp[Xxe,e0,e1];refine rr _ _ ?_;simp;refine fin false _ (hfull hr) _ ?_;simp[Xc,Xjk,hxs]
    | true=>
     simp[Xxe,Yd0,e0,e1,wr];refine rn [] _ _ hr (by simp) ?_ (by simp[Xc]; omega) ?_
     ·simp[Xc,Xjk,hxs]
     ·simp[Xc];exact Xl _ _ _ _ _ (Xq 1 hm) (by simp)
   ·intro hi R re rr rp;rw[Ucq]at hi;simp[Xxd];refine re _ _ _ ?_;simp;refine fin true _ (by rw[hK]; exact Prod.ext hi rfl) _ ?_;simp[Xc]
  rcases hj with rfl | rfl
  ·simp[Xxf];exact go
  ·simp[Xxf];exact go
 have o1:f.op=1->(f.op==1)=true:=fun e=>by simp[e]
 have zcase:(f.op=1\/f.op=2)->Yw P [] Xig
    (Y3 0 (W3 (Yw P [] Xd2 (Vs (Xa ob) [RV.t 6] K)) (Vs (Xa ob) [RV.t 6] K)))
    [(0,V.ptr p []),(2,V.d (D.int IntKind.i64 ↑d)),(4,V.ptr (Xa ob) []),(7,V.d (D.bool f.atom.zero)),(37,V.d (iD f.op)),(38,V.d (D.bool true))]
    ((Xa ob,Ob.box 40 (V.d (D.agg [iD f.op,iD f.n,D.list 14 (List.map RForm.enc f.kids),f.atom.enc])))::
     setO ob p (Ob.box 93 (V.d (D.agg [D.agg xs,D.list 4 (List.map RVar.enc vs),D.int IntKind.i64 (↑c.fst+1),iD ↑c.snd])))):=by
  intro ho;rw[Uby ho]at hS;cases hz:f.atom.zero with
  | false=>
   simp[Vr];simp[hz]at hS;exact fin _ _ hS _ (by simp[Xc])
  | true=>
   by_cases hn:f.n=0
   ·simp[Vr,hn];simp[hz,hn]at hS;exact kids 47 _ _ _ (.inl rfl) hS
   ·simp[Vr,hn];simp[hz,hn]at hS;exact fin _ _ hS _ (by simp[Xc])
 refine⟨fun ho=>by rw[o1 ho]; exact zcase (.inl ho),fun ho=>?_⟩;by_cases ho2:f.op=2
 ·have:=zcase (.inr ho2);simpa[ho2]using this
 have ho12:¬(f.op=1\/f.op=2):=by omega
 rw[Ubo ho12]at hS;by_cases ho3:f.op=3
 ·rw[Uby ho3]at hS;simp[Vr,ho3];constructor
  ·intro hc3;have:(f.atom.zero&&decide (1<=f.n)&&decide (f.n<=f.kids.length))=false:=by
    rcases hc3 with (h1 | h1) | h1
    ·simp[h1]
    ·have:¬1<=f.n:=by omega
     simp[this]
    ·have:¬f.n<=f.kids.length:=by omega
     simp[this]
   rw[this]at hS;simp at hS;exact fin _ _ hS _ (by simp[Xc])
  ·intro h1 h2 h3;simp[h1,h2,h3]at hS;exact kids 64 _ _ _ (.inr rfl) hS
 ·rw[Ubo ho3]at hS;by_cases ho4:f.op=4
  ·rw[Uby ho4]at hS;simp[Vr,ho4,hp,e0,e1,s6];simp at hS;exact fin _ _ hS _ (by simp[Xc])
  ·rw[Ubo ho4]at hS;by_cases ho5:f.op=5
   ·rw[Uby ho5]at hS;have w2:IntKind.i64.wrap ((c.2:Int)+1)=(c.2:Int)+1:=IntWalk.i64_in _ (by omega);by_cases hok:f.n=0/\f.kids=[]/\c.2+1<=8
    ·obtain⟨k1,k2,k3⟩:=hok;have k3i:(c.2:Int)+1<=8:=by omega
     have hagg:(match V.d f.atom.enc with | V.d (D.agg xs)=>true | V.agg xs=>true | x=>false)=true:=rfl;have k3n:c.2<=7:=by omega
     simp[Vr,ho5,hp,e0,e1,s6,w2,k1,k2,k3i,ha1];refine⟨rfl,?_⟩;refine X58 hP hy hv (by omega) (c:=(c.1+1,c.2+1)) f.atom (p:=p) ?_ ?_
     ·simp[hp,e0,e1,Xjk,hxs]
     simp[k1,k2,k3n]at hS;simp;refine fin _ _ (by rw[hS]) _ ?_;simp[Xc]
    ·have:(decide (f.n=0)&&decide (f.kids.length=0)&&decide (c.2+1<=8)&&Wk y vs f.atom)=false:=by
      rw[Ucm];intro ht;simp only[Uai,Ubp]at ht;exact hok ⟨ht.1.1.1,Uct.1 ht.1.1.2,ht.1.2⟩
     rw[this]at hS;by_cases k1:f.n=0
     ·by_cases k2:f.kids=[]
      ·have k3i:¬(c.2:Int)+1<=8:=by
        intro h3; exact hok ⟨k1,k2,by omega⟩
       simp[Vr,ho5,hp,e0,e1,s6,w2,k1,k2,k3i];refine fin _ _ hS _ ?_;simp[Xc]
      ·simp[Vr,ho5,hp,e0,e1,s6,w2,k1,k2];refine fin _ _ hS _ ?_;simp[Xc]
     ·simp[Vr,ho5,hp,e0,e1,s6,w2,k1];refine fin _ _ hS _ ?_;simp[Xc]
   ·rw[Ubo ho5]at hS;simp[Vr,ho,ho2,ho3,ho4,ho5];exact fin _ _ hS _ (by simp[Xc])
termination_by f=>SizeOf.sizeOf f
decreasing_by exact Rdd hk
end
end Go.Proofs.YtolkimpelpnpbaaGreatDoor
namespace Go.Sx
open Go Go.Ab Go.Lx
theorem Xaw {y:RSrc}{vs:List RVar}(h:Z2 y vs=true):Xax y vs/\vs.length<=3:=by
 constructor
 ·intro v hv;obtain⟨i,hi,rfl⟩:=Ub5.1 hv;obtain⟨s,hs,e,_⟩:=X5d (Qx h i hi);exact⟨s,e,hs⟩
 ·simp only[Z2,Uai,Ubp]at h;exact h.1.1.2
def Z5 (y:RSrc)(q:RQ):Int:=if Yc y q then 0 else 210
end Go.Sx
namespace Go.Proofs.YtolkimpelpnpbaaGreatDoor
open Go Go.Ab Go.Lx Go.Sx
section
variable {P:Prg} (hP:P.p=Tryz.prog)
include hP
theorem Xyi {t:RTab}(hy:t.src.small){q:RQ}(hq:q.small){ob:Xb}{K:V->Prop}(h:K (.d (.int .i64 (Z5 t.src q)))):PCall P 21 [.d t.enc,.d q.enc] ob K:=by
 refine Xg hP mixed (ds:=[t.enc,q.enc]) Zfz Zkd TOk.nil ?_;have cN:∀(s:B) {ob:Xb} {K:V->Prop},K (.d (.bool (Yq s)))->PCall P 39 [.d (.str s)] ob K:=fun s ob K h=>(Xyj hP) _ (by simp) _ _ (by simpa using h);obtain⟨y,od⟩:=t;simp only[RTab.enc]at hy h⊢;have bad:Yc y q=false->K (.d (.int .i64 210)):=fun e=>by
  have:Z5 y q=210:=by simp[Z5,e]
  rw[<-this]; exact h
 obtain⟨x0,x1,x2,x3,x4,hxs,s0,s1,s2,s3,s4⟩:∃x0 x1 x2 x3 x4,y.enc=D.agg [x0,x1,x2,x3,x4,.list 3 (y.purposes.map RPurpose.enc)]/\x0.shape=.leaf/\x1.shape=.leaf/\x2.shape=.leaf/\x3.shape=.leaf/\x4.shape=.leaf:=⟨_,_,_,_,_,rfl,rfl,rfl,rfl,rfl,rfl⟩
 obtain⟨q1,q2,q3,q4⟩:=q;have cU:∀(n:B) {ob:Xb} {K:V->Prop},K (Y8 (Xt RPurpose.name y.purposes n 0))->PCall P 40 [.d (.agg [x0,x1,x2,x3,x4,.list 3 (y.purposes.map RPurpose.enc)]),.d (.str n)] ob K:=fun n ob K h=>by rw[<-hxs]; exact Xyk hP hy.purposes h
 have hagg:(match V.d q4.enc with | V.d (D.agg xs)=>true | V.agg xs=>true | x=>false)=true:=by rw[Rc4]
 rw[hxs];simp[Zhl,RQ.enc,s0,s1,s2,s3,s4];refine cN _ ?_;cases g1:Yq q1 with
 | false=>simp; exact bad (by simp[Yc,g1])
 | true=>
  by_cases g2:q2<0
  ·simp[g2]; exact bad (by simp[Yc]; omega)
  by_cases g3:(y.purposes.length:Int)<=q2
  ·simp[g2,g3];exact bad (by
    have:y.purposes[q2.toNat]? = none:=Ucj (by omega);simp[Yc,this])
  obtain⟨n,rfl,hn⟩:∃n:Nat,q2=n/\n<y.purposes.length:=⟨q2.toNat,by omega,by omega⟩
  simp[g3,hn,RPurpose.enc];refine⟨fun hneg=>absurd hneg (by omega),?_⟩;refine cU _ ?_;obtain⟨i,hi,f1,_,_⟩ | f0:(∃(i:Nat) (hi:i<y.purposes.length),Xt RPurpose.name y.purposes y.purposes[n].name 0=i/\y.purposes[i].name=y.purposes[n].name/\True)\/False:=by
   rcases Z9 RPurpose.name y.purposes[n].name y.purposes 0 with⟨_,h2⟩ | ⟨i,h,h1,h2,_⟩
   ·exact absurd rfl (h2 _ (Uba hn))
   ·exact .inl ⟨i,h,by simpa using h1,h2,trivial⟩
  ·have hin:¬(i:Int)<0:=by omega
   rw[f1];by_cases g4:(i:Int)=(n:Int)
   ·have g4':i=n:=by omega
    subst g4';simp[Y8,hin,hn];refine cN _ ?_;cases g5:Yq y.purposes[i].name with
    | false=>
     simp;exact bad (by simp[Yc,hn,g5])
    | true=>
     simp;refine X6d hP hy hq.vars (c:=(0,0)) (p:=3) ?_ ?_
     ·simp[Xjk,hxs]
     cases g6:Z2 y q3 with
     | false=>
      simp[Xm1];exact bad (by simp[Yc,g6])
     | true=>
      obtain⟨v1,v2⟩:=Xaw g6;simp;refine⟨hagg,?_⟩;refine Xc7 hP hy v1 v2 q4 hq.form 1 (by omega) (0,0) (by simp) (by simp) (p:=3) ?_ ?_
      ·simp[Xjk,hxs]
      have hck:Yc y ⟨q1,i,q3,q4⟩=(q4.okS y q3 1 (0,0)).1:=by
       simp[Yc,g1,hn,f1,g5,g6]
      cases g7:(q4.okS y q3 1 (0,0)).1 with
      | false=>
       simp[Xm1];exact bad (by rw[hck,g7])
      | true=>
       simp[Xm1,Ydu];have:Z5 y ⟨q1,i,q3,q4⟩=0:=by simp[Z5,hck,g7]
       rw[this]at h;exact h
   ·have g4b:((i:Int) != (n:Int))=true:=by simpa using g4
    have g4n:¬i=n:=by omega
    simp[Y8,hin,g4,g4b,g4n];exact bad (by simp[Yc,hn,f1,g4])
  ·exact f0.elim
end
end Go.Proofs.YtolkimpelpnpbaaGreatDoor
namespace Go.Sx
open Go Go.Ab Go.Lx
def RForm.atE (f:RForm):List RAtom:=if f.op=5 then[f.atom] else[]
theorem RForm.atoms_eq (f:RForm):f.atoms=f.atE++Rdf f.kids:=by cases f; rw[RForm.atoms]; rfl
theorem Rdg:∀(a b:List RForm),Rdf (a++b)=Rdf a++Rdf b
 | [],b=>by simp[Rdf]
 | f::r,b=>by simp only[List.cons_append,Rdf,Rdg r b,Uav]
theorem Rdh {l:List RForm}{k:Nat}(h:k<l.length):Rdf (l.take (k+1))=Rdf (l.take k)++l[k].atoms:=by
 rw[Ubj h,Rdg]; simp[Rdf]
abbrev Yaz (l:List RAtom):Ob:=.arr 38 11 (l.map RAtom.enc)
abbrev Ya0 (q n:Nat):Ob:=.box 72 (.sl q n)
abbrev Yyv:Ob:=.box 206 (.fn 106 [] [.ptr 1 [],.ptr 2 []])
abbrev Xj2 (ob:Xb)(q:Nat)(l:List RAtom):Xb:=setO (setO ob q (Yaz l)) 1 (Ya0 q l.length)
theorem Xgs {i q:Nat}{o:Ob}{ob:Xb}{l:List RAtom}(h1:(i==q)=false)(h2:(i==1)=false):Xj2 ((i,o)::ob) q l=(i,o)::Xj2 ob q l:=by
 have n1:i ≠ q:=by simpa using h1
 have n2:i ≠ 1:=by simpa using h2
 simp[Xj2,setO,n1,n2]
theorem X6k {q i:Nat}{o o' x:Ob}{ob:Xb}{l:List RAtom}(h1:q ≠ 1)(h2:i ≠ 1):Xj2 ((q,o)::(i,o')::setO ob 1 x) q l=(q,Yaz l)::(i,o')::setO ob 1 (Ya0 q l.length):=by
 simp[Xj2,setO,h1,h2]
theorem Xi4 {o o':Ob}{i j:Nat}(h:i ≠ j):∀ob:Xb,setO (setO ob i o) j o'=setO (setO ob j o') i o
 | []=>rfl
 | (k,y)::r=>by
  simp only[setO];by_cases h1:k=i
  ·subst h1; simp[setO,h]
  ·by_cases h2:k=j
   ·subst h2; simp[setO,h1]
   ·simp[setO,h1,h2,Xi4 h r]
theorem Yej {q:Nat}{ob:Xb}{l l':List RAtom}(h:q ≠ 1):Xj2 (Xj2 ob q l) q l'=Xj2 ob q l':=by
 simp only[Xj2];rw[Xi4 h,Xc2,Xi4 (Ne.symm h),Xc2]
theorem Xl0 {p:Nat->Bool}{q:Nat}{ob:Xb}{l:List RAtom}(h:Xh p ob=true)(hq:p q=false):Xh p (Xj2 ob q l)=true:=
 Xl _ _ _ _ _ (Yx _ _ _ _ _ _ h) (by simpa using hq)
@[simp] theorem RAtom.enc_shape (a:RAtom):a.enc.shape=.node [.leaf,.node [.leaf,.leaf,.leaf,.leaf,.leaf],.node [.leaf,.leaf,.leaf,.leaf,.leaf]]:=rfl
@[simp] theorem RAtom.enc_sz (a:RAtom):a.enc.sz=11:=by simp[RAtom.enc,RTerm.enc,D.sz,Raa]
end Go.Sx
namespace Go.Proofs.YtolkimpelpnpbaaGreatDoor
open Go Go.Ab Go.Lx Go.Sx
section
variable {P:Prg} (hP:P.p=Tryz.prog)
include hP
theorem Qh:Xm P.p 106=true:=by rw[hP]; kernel_rfl
theorem Xfa:∀(f:RForm),f.small->∀{ob:Xb} {q:Nat} {l:List RAtom},Xd ob 1=some (Ya0 q l.length)->Xd ob q=some (Yaz l)->Xd ob 2=some Yyv->(l++f.atoms).length<=1000->∀{K:Out->Xb->Prop},
  K (.ret (.tup [])) (Xj2 ob q (l++f.atoms))->ACall P 106 [.d f.enc,.ptr 1 [],.ptr 2 []] ob K:=fun f hf ob q l h1 hq h2 hl K h=>by
 have ih:∀k∈f.kids,∀{ob:Xb} {q:Nat} {l:List RAtom},Xd ob 1=some (Ya0 q l.length)->Xd ob q=some (Yaz l)->Xd ob 2=some Yyv->(l++k.atoms).length<=1000->∀{K:Out->Xb->Prop},K (.ret (.tup [])) (Xj2 ob q (l++k.atoms))->ACall P 106 [.d k.enc,.ptr 1 [],.ptr 2 []] ob K:=fun k hk _ _ _ h1 hq h2 hl _ h=>Xfa k ((Rc7 hf).2 k hk) h1 hq h2 hl h;have hkl:=(Rc7 hf).1;refine Xn hP mixed Yky Yst TOk.nil fun _ hm=>?_;have l1:=Yd h1;have lq:=Yd hq;have l2:=Yd h2;have q1:q ≠ 1:=fun e=>by rw[e,h1]at hq; cases hq
 have q2:q ≠ 2:=fun e=>by rw[e,h2]at hq; cases hq
 have e1:(Xa ob==1)=false:=by simp; omega
 have e2:(Xa ob==2)=false:=by simp; omega
 have eq:(Xa ob==q)=false:=by simp; omega
 have g1:(q==1)=false:=by simpa using q1
 have g2:(q==2)=false:=by simpa using q2
 have g1':(1==q)=false:=by simpa using Ne.symm q1
 have g2':(2==q)=false:=by simpa using Ne.symm q2
 rw[RForm.atoms_eq,<-Uav]at h hl;have hlen:(l++f.atE).length<=1000:=by rw[Uar]at hl; omega
 have hagg:∀k:RForm,(match V.d k.enc with | V.d (D.agg xs)=>true | V.agg xs=>true | x=>false)=true:=fun k=>by rw[Rc4]
 have main:∀o:Int,ALoop [2,15,16,17] (Yw P [] Xaf) (Y3 0 (Vs (Xa ob) [] K))
   [(2,V.ptr 2 []),(15,V.d (.list 14 (f.kids.map RForm.enc))),(16,V.d (.int .i64 f.kids.length)),(17,V.d (D.int IntKind.i64 0))]
   ((Xa ob,.box 40 (.d (.agg [iD o,iD f.n,.list 14 (f.kids.map RForm.enc),f.atom.enc])))::Xj2 ob q (l++f.atE)):=by
  intro o;refine ALoop.upto f.kids.length (fun k=>[(2,V.ptr 2 []),(15,V.d (.list 14 (f.kids.map RForm.enc))),(16,V.d (.int .i64 f.kids.length)),(17,V.d (D.int IntKind.i64 k))])
   (fun k=>(Xa ob,.box 40 (.d (.agg [iD o,iD f.n,.list 14 (f.kids.map RForm.enc),f.atom.enc])))::Xj2 ob q (l++f.atE++Rdf (f.kids.take k))) (fun _=>True) trivial (by simp) (by simp[Rdf]) ?_ ?_
  ·intro k hk _ R rn re rr rp;have wr:IntKind.i64.wrap ((k:Int)+1)=(k:Int)+1:=IntWalk.i64_in _ (by omega);have hst:=Rdh hk;have hle:(l++f.atE++Rdf (f.kids.take (k+1))).length<=1000:=by
    refine Ual ?_ hl;have e:Rdf f.kids=Rdf (f.kids.take (k+1))++Rdf (f.kids.drop (k+1)):=by rw[<-Rdg,Uao]
    rw[e]; simp only[Uar]; omega
   rw[hst,<-Uav]at rn hle;have hmem:f.kids[k]∈f.kids:=Uba hk;generalize l++f.atE++Rdf (f.kids.take k)=lk at rn hle⊢;simp[Ju,hk,h2,e2,g2,g2'];refine⟨hagg _,Qh hP,?_⟩;have e11:(Xa ob+1==1)=false:=by simp; omega
   have e12:(Xa ob+1==2)=false:=by simp; omega
   have e1q:(Xa ob+1==q)=false:=by simp; omega
   refine ih _ hmem (q:=q) (l:=lk) ?_ ?_ ?_ hle ?_
   ·simp[h1,hq,e1,g1,g1',e11]
   ·simp[h1,hq,eq,e1q,g1,g1']
   ·simp[h2,e2,e12,g2]
   ·simp[Xcm,wr];refine rn [] _ _ trivial (by simp) ?_ (by simp[Xc]; omega) ?_
    ·rw[Xgs e1q e11,Xgs eq e1,Yej q1];simp[Xc]
    ·simp[Xc];exact Xl0 (Xq 1 hm) (by simp[Xc]; omega)
  ·intro _ R re rr rp;simp[Ju];refine re _ _ _ ?_;simp;refine⟨[],by simp,?_,?_⟩
   ·simp[Xc];exact Xl0 (hm _) (by simp[Xc]; omega)
   ·simpa[Xc]using h
 by_cases ho:f.op=5
 ·have hag:(match V.d f.atom.enc with | V.d (D.agg xs)=>true | V.agg xs=>true | x=>false)=true:=rfl;simp[X5p,Rc4 f,ho,h1,h2,hq,e1,e2,eq,g1,g1',g2,g2'];have hl1:l.length+1<=1000:=by simpa[RForm.atE,ho]using hlen
  refine⟨rfl,by omega,?_⟩;have:=main 5;simp[Xcn,h1,hq,g1,g1'];simp[RForm.atE,ho,Xj2,Yaz,Ya0]at this;exact this
 ·simp[X5p,Rc4 f,ho];have:=main f.op;simp[Xcn];have e0:Xj2 ob q l=ob:=by simp only[Xj2]; rw[Xem hq,Xem h1]
  simp only[RForm.atE,ho,Uay,Ub4,e0]at this;exact this
termination_by f=>SizeOf.sizeOf f
decreasing_by exact Rdd hk
theorem Xe9:∀(f:RForm),f.small->∀{ob:Xb},Xd ob 1=some (.box 72 (.d .nils))->Xd ob 2=some Yyv->f.atoms.length<=1000->∀{K:Out->Xb->Prop},
  (f.atoms=[]->K (.ret (.tup [])) ob)->(∀q,Xa ob<=q->K (.ret (.tup [])) ((q,Yaz f.atoms)::setO ob 1 (Ya0 q f.atoms.length)))->ACall P 106 [.d f.enc,.ptr 1 [],.ptr 2 []] ob K:=fun f hf ob h1 h2 hl K hn hs=>by
 have ih:∀k∈f.kids,∀{ob:Xb},Xd ob 1=some (.box 72 (.d .nils))->Xd ob 2=some Yyv->k.atoms.length<=1000->∀{K:Out->Xb->Prop},(k.atoms=[]->K (.ret (.tup [])) ob)->(∀q,Xa ob<=q->K (.ret (.tup [])) ((q,Yaz k.atoms)::setO ob 1 (Ya0 q k.atoms.length)))->ACall P 106 [.d k.enc,.ptr 1 [],.ptr 2 []] ob K:=fun k hk _ h1 h2 hl _ hn hs=>Xe9 k ((Rc7 hf).2 k hk) h1 h2 hl hn hs;have hkl:=(Rc7 hf).1;refine Xn hP mixed Yky Yst TOk.nil fun _ hm=>?_;have l1:=Yd h1;have l2:=Yd h2;have e1:(Xa ob==1)=false:=by simp; omega
 have e2:(Xa ob==2)=false:=by simp; omega
 have hagg:∀k:RForm,(match V.d k.enc with | V.d (D.agg xs)=>true | V.agg xs=>true | x=>false)=true:=fun k=>by rw[Rc4]
 have hat:=RForm.atoms_eq f;let fo (o:Int):Ob:=.box 40 (.d (.agg [iD o,iD f.n,.list 14 (f.kids.map RForm.enc),f.atom.enc]));let O (o:Int):List RAtom->Option Nat->Xb:=fun l q=>match q with
  | none=>(Xa ob,fo o)::ob
  | some q=>(q,Yaz l)::(Xa ob,fo o)::setO ob 1 (Ya0 q l.length)
 have main:∀(o:Int) (q0:Option Nat),(q0=none/\f.atE=[]\/∃q,q0=some q/\Xa ob+1<=q)->ALoop [2,15,16,17] (Yw P [] Xaf) (Y3 0 (Vs (Xa ob) [] K))
   [(2,V.ptr 2 []),(15,V.d (.list 14 (f.kids.map RForm.enc))),(16,V.d (.int .i64 f.kids.length)),(17,V.d (D.int IntKind.i64 0))] (O o f.atE q0):=by
  intro o q0 h0;refine ALoop.go (ι:=Nat×Option Nat) (fun i=>[(2,V.ptr 2 []),(15,V.d (.list 14 (f.kids.map RForm.enc))),(16,V.d (.int .i64 f.kids.length)),(17,V.d (D.int IntKind.i64 i.1))])
   (fun i=>O o (f.atE++Rdf (f.kids.take i.1)) i.2) (fun i=>i.1<=f.kids.length/\(i.2=none/\f.atE++Rdf (f.kids.take i.1)=[]\/∃q,i.2=some q/\Xa ob+1<=q)) (fun i=>f.kids.length-i.1) (0,q0) ⟨Ubg _,by simpa[Rdf]using h0⟩ (by simp) (by simp[Rdf]) ?_
  rintro⟨k,qo⟩ ⟨hk,hi⟩ R rn re rr rp;dsimp only at hk hi rn⊢;by_cases hlt:k<f.kids.length
  ·have wr:IntKind.i64.wrap ((k:Int)+1)=(k:Int)+1:=IntWalk.i64_in _ (by omega);have hst:=Rdh hlt;have hle:(f.atE++Rdf (f.kids.take (k+1))).length<=1000:=by
    refine Ual ?_ hl;have e:Rdf f.kids=Rdf (f.kids.take (k+1))++Rdf (f.kids.drop (k+1)):=by rw[<-Rdg,Uao]
    rw[hat,e]; simp only[Uar]; omega
   rw[hst,<-Uav]at hle;have hmem:f.kids[k]∈f.kids:=Uba hlt;have hnx:f.atE++Rdf (f.kids.take (k+1))=f.atE++Rdf (f.kids.take k)++f.kids[k].atoms:=by rw[hst,Uav]
   generalize hlk:f.atE++Rdf (f.kids.take k)=lk at hle hi hnx rn⊢;have e11:(Xa ob+1==1)=false:=by simp; omega
   have e12:(Xa ob+1==2)=false:=by simp; omega
   rcases hi with⟨rfl,hn0⟩ | ⟨q,rfl,hq⟩
   ·simp[O,fo,Ju,hlt,h2,e2];refine⟨hagg _,Qh hP,?_⟩;subst hn0;simp only[List.nil_append]at hle hnx;refine ih _ hmem ?_ ?_ hle ?_ ?_
    ·simp[h1,e1,e11]
    ·simp[h2,e2,e12]
    ·intro hka;simp[Xcm,wr];refine rn [] (k+1,none) _ _ ⟨hlt,.inl ⟨rfl,by rw[hnx,hka]⟩⟩ (by simp only; omega) (by simp) ?_ (by simp[O,Xc]; omega) ?_
     ·simp[O,fo,Xc]
     ·simp[O,fo,Xc];exact Xq 1 hm
    ·intro q hq;simp at hq;simp[Xcm,wr];refine rn [q] (k+1,some q) _ _ ⟨hlt,.inr ⟨q,rfl,by omega⟩⟩ (by simp only; omega) (by simp) ?_ (by simp[O,Xc]; omega) ?_
     ·simp only[hnx];have n1:¬Xa ob+1=q:=by omega
      have n2:¬Xa ob+1<=Xa ob:=by omega
      simp[O,fo,Xc,e1,e11,n1,n2]
     ·simp only[hnx];simp[O,fo,Xc,e1,e11];exact Xl _ _ _ _ _ (Xq 1 hm) (by simp[Xc])
   ·have c1:(q==1)=false:=by simp; omega
    have c2:(q==2)=false:=by simp; omega
    have c3:(q+1==1)=false:=by simp; omega
    have c4:(q+1==2)=false:=by simp; omega
    have c5:(Xa ob==q)=false:=by simp; omega
    have hfr:Xa (O o lk (some q))=q+1:=by
     simp[O,Xa];intro; omega
    have c6:(q+1==q)=false:=by simp
    have q1:q ≠ 1:=by omega
    simp[O,fo,Ju,hlt,h2,e2,c2,hq,c4];refine⟨hagg _,Qh hP,?_⟩;refine Xfa hP _ ((Rc7 hf).2 _ hmem) (q:=q) (l:=lk) ?_ ?_ ?_ hle ?_
    ·simp[h1,e1,c1,c3]
    ·simp[c6]
    ·simp[h2,e2,c2,c4]
    ·simp[Xcm,wr];refine rn [] (k+1,some q) _ _ ⟨hlt,.inr ⟨q,rfl,hq⟩⟩ (by simp only; omega) (by simp) ?_ ?_ ?_
     ·simp only[hfr,hnx];rw[Xgs c6 c3];simp only[O,fo];rw[X6k q1 (by omega)];have n3:Xa ob<=q+1:=by omega
      have n4:¬q+1<=Xa ob:=by omega
      simp[Xc,n3,n4]
     ·simp only[hfr];simp[Xc]; omega
     ·simp only[hfr,hnx];simp[O,fo,Xc];exact Xl _ _ _ _ _ (Qa hm (by omega)) (by simp[Xc])
  ·have:k=f.kids.length:=by omega
   subst this;simp[Ju];refine re _ _ _ ?_;rw[Ucq,<-hat]at hi;simp;rw[<-hat];rcases hi with⟨rfl,hn0⟩ | ⟨q,rfl,hq⟩
   ·refine⟨[],by simp,?_,?_⟩
    ·simp[O,Xc]; exact hm _
    ·simpa[O,Xc]using hn hn0
   ·refine⟨[q],by simp,?_,?_⟩
    ·have n1:¬Xa ob=q:=by omega
     simp[O,Xc,n1];exact Xl _ _ _ _ _ (hm _) (by simp[Xc])
    ·have:=hs q (by omega);have n1:¬Xa ob=q:=by omega
     simpa[O,Xc,n1]using this
 by_cases ho:f.op=5
 ·have hae:f.atE=[f.atom]:=by simp[RForm.atE,ho]
  simp[X5p,Rc4 f,ho,h1,h2,e1,e2];refine⟨rfl,?_⟩;have:=main 5 (some (Xa ob+1)) (.inr ⟨_,rfl,Uak _⟩);simp[Xcn];rw[hae]at this;exact this
 ·have hae:f.atE=[]:=by simp[RForm.atE,ho]
  simp[X5p,Rc4 f,ho];have:=main f.op none (.inl ⟨rfl,hae⟩);simp[Xcn];exact this
termination_by f=>SizeOf.sizeOf f
decreasing_by exact Rdd hk
theorem Yeq {q:RQ}(hq:q.small)(hl:q.form.atoms.length<=1000){ob:Xb}{K:V->Prop}(h:∀d:D,(d=.list 11 (q.form.atoms.map RAtom.enc)\/q.form.atoms=[]/\d=.nils)->K (.d d)):PCall P 50 [.d q.enc] ob K:=by
 refine Xg hP mixed (ds:=[q.enc]) Zgf Zkz TOk.nil ?_;have hagg:(match V.d q.form.enc with | V.d (D.agg xs)=>true | V.agg xs=>true | x=>false)=true:=by rw[Rc4]
 simp[Zh4,RQ.enc];refine⟨hagg,Qh hP,?_⟩;refine Xe9 hP q.form hq.form ?_ ?_ hl ?_ ?_
 ·simp
 ·simp
 ·intro e;simp[Xxl];exact h _ (.inr ⟨e,rfl⟩)
 ·intro q' hq';simp at hq';have g1:(q'==1)=false:=by simp; omega
  simp[Xxl,g1];exact h _ (.inl rfl)
end
end Go.Proofs.YtolkimpelpnpbaaGreatDoor
namespace Go.Py
open Go Go.Ab Go.Lx Go.Sx
def Yg (q:RQ)(t:RTerm):Option (Int×Int):=if t.var<0 then none else (q.vars[t.var.toNat]?).map fun v=>(v.schema,t.field)
def Xdr (q:RQ)(t:RTerm):V:=match Yg q t with
 | some p=>.tup [.d (fD p),.d (.bool true)]
 | none=>.tup [.d (fD (0,0)),.d (.bool false)]
theorem Xcs (p:Int×Int)(fs:List (Int×Int)):Xdw (.agg [.int .i64 0,.int .i64 0]) (fD p) (fs.map Uq):=by
 refine⟨by simp[Rb1,Z4,fD,Rb0],fun e he=>?_⟩;obtain⟨r,_,rfl⟩:=Ua5.1 he;simp[Uq,Rb1,Z4,fD,Rb0]
theorem Xsr (p:Int×Int):∀fs:List (Int×Int),Vb (fD p) (fs.map Uq)=if p∈fs then some (.d (.bool true)) else none
 | []=>by simp
 | r::fs=>by
  simp only[Uam,Uq,Xu3,Xsr p fs];have:Rb2 (fD p) (fD r)=decide (p=r):=by
   obtain⟨a,b⟩:=p; obtain⟨c,d⟩:=r;rw[Ucl];simp[Rb2,fD,D.eqbs,D.eqb]
  rw[this];by_cases e:p=r
  ·simp[e]
  ·simp[e]
end Go.Py
namespace Go.Proofs.YtolkimpelpnpbaaGreatDoor
open Go Go.Ab Go.Lx Go.Sx Go.Py
section
variable {P:Prg} (hP:P.p=Tryz.prog)
include hP
theorem Xj8 {q:RQ}{t:RTerm}{ob:Xb}{K:V->Prop}(h:K (Xdr q t)):PCall P 51 [.d q.enc,.d t.enc] ob K:=by
 refine Xg hP mixed (ds:=[q.enc,t.enc]) Zgg Zk0 TOk.nil ?_;simp[Zh5,RQ.enc,RTerm.enc];constructor
 ·intro hv;have hn:Yg q t=none:=by
   unfold Yg;rcases hv with hv | hv
   ·rw[Uby hv]
   ·rw[Ubo (by omega),Ucj (by omega)]; rfl
  simp only[Xdr,hn,fD]at h;exact h
 ·intro h0 h1;have hlt:t.var.toNat<q.vars.length:=by omega
  have e:q.vars[t.var.toNat]? = some q.vars[t.var.toNat]:=Ubf hlt;have hs:Yg q t=some (q.vars[t.var.toNat].schema,t.field):=by
   unfold Yg;rw[Ubo (by omega),e]; rfl
  simp only[Xdr,hs,fD]at h;simp[e,RVar.enc,h0,h1,iD]at h⊢;exact h
theorem Xx2 {q:RQ}{t:RTerm}{fs:List (Int×Int)}{ob:Xb}{qb mb m:Nat}(hq:Xd ob qb=some (.box 42 (.d q.enc)))(hb:Xd ob mb=some (.box 74 (.mp m)))(hm:Xd ob m=some (.map (fs.map Uq))){K:Out->Xb->Prop}(h:K (.ret (.d (.bool (match Yg q t with | some p=>decide (p∈fs) | none=>false)))) ob) :
  ACall P 64 [.d t.enc,.ptr qb [],.ptr mb []] ob K:=by
 refine Xn hP mixed Zgm Zlc TOk.nil fun _ hno=>?_;have hq':(Xd ob qb).isSome=true:=by rw[hq]; rfl
 have hb':(Xd ob mb).isSome=true:=by rw[hb]; rfl
 have hm':(Xd ob m).isSome=true:=by rw[hm]; rfl
 simp[Zie,hq,hb,hm,hq',hb',hm'];have hs:q.enc.shape.size=17:=by rw[RQ.enc,Rc4]; rfl
 refine⟨rfl,⟨hs,rfl⟩,rfl,⟨hs,rfl⟩,Xj8 hP ?_⟩;unfold Xdr;cases hf:Yg q t with
 | none=>
  rw[hf]at h;simp[fD];exact⟨[],by simp,by simp[Xc]; exact hno _,by simpa[Xc]using h⟩
 | some p=>
  rw[hf]at h;simp[fD,hm,hm'];rw[show D.agg [D.int .i64 p.1,D.int .i64 p.2]=fD p from rfl,Xsr];refine⟨Xcs p fs,?_⟩;by_cases hp:p∈fs
  ·simp[hp]at h⊢;exact⟨[],by simp,by simp[Xc]; exact hno _,by simpa[Xc]using h⟩
  ·simp[hp]at h⊢;exact⟨[],by simp,by simp[Xc]; exact hno _,by simpa[Xc]using h⟩
end
end Go.Proofs.YtolkimpelpnpbaaGreatDoor
namespace Go.Py
open Go Go.Ab Go.Lx Go.Sx
mutual
def rbF (h:RAtom->Bool):RForm->RForm×Bool
 | .mk op n k a=>
  if op=5 then (.mk op n k a,!h a) else if op=4 then (.mk op n k a,true)
  else (.mk op (if op=3 then max (n-(k.length-(rbL h k).length)) 1 else n) (rbL h k) a,decide (k.length=0)||decide (0<(rbL h k).length))
def rbL (h:RAtom->Bool):List RForm->List RForm
 | []=>[]
 | f::r=>if (rbF h f).2 then (rbF h f).1::rbL h r else rbL h r
end
theorem Xf9 (h:RAtom->Bool)(f:RForm):rbF h f =
  if f.op=5 then (f,!h f.atom) else if f.op=4 then (f,true)
  else (.mk f.op (if f.op=3 then max (f.n-(f.kids.length-(rbL h f.kids).length)) 1 else f.n) (rbL h f.kids) f.atom,decide (f.kids.length=0)||decide (0<(rbL h f.kids).length)):=by
 cases f; rw[rbF]; rfl
theorem Xga (h:RAtom->Bool):∀(a b:List RForm),rbL h (a++b)=rbL h a++rbL h b
 | [],b=>by simp[rbL]
 | f::r,b=>by simp only[List.cons_append,rbL,Xga h r b]; split<;>simp
theorem Jn (h:RAtom->Bool):∀l:List RForm,(rbL h l).length<=l.length
 | []=>by simp[rbL]
 | f::r=>by
  have:=Jn h r;simp only[rbL];split<;>simp only[List.length_cons]<;>omega
theorem Xty {h:RAtom->Bool}{l:List RForm}{k:Nat}(hk:k<l.length):rbL h (l.take (k+1))=rbL h (l.take k)++(if (rbF h l[k]).2 then[(rbF h l[k]).1] else[]):=by
 rw[Ubj hk,Xga];simp[rbL]
mutual
theorem Xtu (y:RSrc)(vs:List RVar)(h:RAtom->Bool):∀(f:RForm) (d:Nat) (c c0:Nat×Nat),(f.okS y vs d c).1=true->c0.1<=c.1->c0.2<=c.2->
  c.1<=(f.okS y vs d c).2.1/\c.2<=(f.okS y vs d c).2.2/\((rbF h f).2=true->((rbF h f).1.okS y vs d c0).1=true/\((rbF h f).1.okS y vs d c0).2.1<=(f.okS y vs d c).2.1/\((rbF h f).1.okS y vs d c0).2.2<=(f.okS y vs d c).2.2)
 | .mk op n k a,d,c,c0,ho,h1,h2=>by
  have hl:=Jn h k;by_cases hb:32<c.1+1\/8<d\/8<k.length
  ·rw[RForm.okS,Uby hb]at ho; cases ho
  have hb0:¬(32<c0.1+1\/8<d\/8<k.length):=by omega
  have hb1:¬(32<c0.1+1\/8<d\/8<(rbL h k).length):=by omega
  by_cases h12:op=1\/op=2
  ·have n3:op ≠ 3:=by omega
   have n4:op ≠ 4:=by omega
   have n5:op ≠ 5:=by omega
   rw[RForm.okS,Ubo hb,Uby h12]at ho⊢;by_cases hz:(a.zero&&decide (n=0))=true
   ·rw[Uby hz]at ho⊢;obtain⟨m1,m2,m3,m4,m5⟩:=Xcv y vs h k (d+1) (c.1+1,c.2) (c0.1+1,c0.2) ho (by simp only; omega) h2;refine⟨by simp only at m1; omega,m2,fun _=>?_⟩;simp only[rbF,n3,n4,n5,Uay];rw[RForm.okS,Ubo hb1,Uby h12,Uby hz];exact⟨m3,m4,m5⟩
   ·rw[Ubo hz]at ho; cases ho
  by_cases h3:op=3
  ·have n4:op ≠ 4:=by omega
   have n5:op ≠ 5:=by omega
   rw[RForm.okS,Ubo hb,Ubo h12,Uby h3]at ho⊢;by_cases hz:(a.zero&&decide (1<=n)&&decide (n<=k.length))=true
   ·rw[Uby hz]at ho⊢;obtain⟨m1,m2,m3,m4,m5⟩:=Xcv y vs h k (d+1) (c.1+1,c.2) (c0.1+1,c0.2) ho (by simp only; omega) h2;refine⟨by simp only at m1; omega,m2,fun hr=>?_⟩;simp only[rbF,h3,Ubb]at hr⊢;have hz':=hz;simp only[Uai,Ubp]at hz';have hr':0<(rbL h k).length:=by
     simp at hr;rcases hr with hr | hr
     ·subst hr; simp at hz'; omega
     ·exact hr
    have g4:¬((3:Int)=4):=by omega
    have g5:¬((3:Int)=5):=by omega
    simp only[g4,g5,Uay];rw[RForm.okS,Ubo hb1,Ubo (by omega),Uby rfl,Uby (by
     simp only[Uai,Ubp];exact⟨⟨hz'.1.1,by omega⟩,by omega⟩)]
    exact⟨m3,m4,m5⟩
   ·rw[Ubo hz]at ho; cases ho
  by_cases h4:op=4
  ·rw[RForm.okS,Ubo hb,Ubo h12,Ubo h3,Uby h4]at ho⊢;refine⟨by simp only; omega,Uak _,fun _=>?_⟩;have n5:¬((4:Int)=5):=by omega
   subst h4;simp only[rbF,n5,Uay,Ubb];rw[RForm.okS,Ubo hb0,Ubo h12,Ubo h3,Uby rfl];exact⟨ho,by simp only; omega,h2⟩
  by_cases h5:op=5
  ·rw[RForm.okS,Ubo hb,Ubo h12,Ubo h3,Ubo h4,Uby h5]at ho⊢;refine⟨by simp only; omega,by simp only; omega,fun _=>?_⟩;subst h5;simp only[rbF,Ubb];rw[RForm.okS,Ubo hb0,Ubo h12,Ubo h3,Ubo h4,Uby rfl];simp only[Uai,Ubp]at ho⊢;exact⟨⟨⟨ho.1.1,by omega⟩,ho.2⟩,by omega,by omega⟩
  ·rw[RForm.okS,Ubo hb,Ubo h12,Ubo h3,Ubo h4,Ubo h5]at ho; cases ho
theorem Xcv (y:RSrc)(vs:List RVar)(h:RAtom->Bool):∀(l:List RForm) (d:Nat) (c c0:Nat×Nat),(Rde y vs l d c).1=true->c0.1<=c.1->c0.2<=c.2->
  c.1<=(Rde y vs l d c).2.1/\c.2<=(Rde y vs l d c).2.2/\(Rde y vs (rbL h l) d c0).1=true/\(Rde y vs (rbL h l) d c0).2.1<=(Rde y vs l d c).2.1/\(Rde y vs (rbL h l) d c0).2.2<=(Rde y vs l d c).2.2
 | [],d,c,c0,ho,h1,h2=>by
  simp only[Rde,rbL];exact⟨Uak _,Uak _,trivial,h1,h2⟩
 | f::r,d,c,c0,ho,h1,h2=>by
  rw[Rde]at ho⊢;by_cases hf:(RForm.okS y vs f d c).1=true
  ·rw[Uby hf]at ho⊢;obtain⟨m1,m2,m3⟩:=Xtu y vs h f d c c0 hf h1 h2;simp only[rbL];by_cases hr:(rbF h f).2=true
   ·obtain⟨k1,k2,k3⟩:=m3 hr;rw[Uby hr,Rde,Uby k1];obtain⟨p1,p2,p3⟩:=Xcv y vs h r d _ _ ho k2 k3;exact⟨by omega,by omega,p3⟩
   ·rw[Ubo hr];obtain⟨p1,p2,p3⟩:=Xcv y vs h r d _ c0 ho (by omega) (by omega);exact⟨by omega,by omega,p3⟩
  ·rw[Ubo hf]at ho; cases ho
end
mutual
theorem Xef (h:RAtom->Bool):∀f:RForm,f.small->(rbF h f).1.small
 | .mk op n k a,hs=>by
  rw[RForm.small]at hs;have hl:=Jn h k;simp only[rbF];split
  ·rw[RForm.small]; exact hs
  ·split
   ·rw[RForm.small]; exact hs
   ·rw[RForm.small]; exact⟨by omega,Xeg h k hs.2⟩
theorem Xeg (h:RAtom->Bool):∀l:List RForm,Rc5 l->Rc5 (rbL h l)
 | [],_=>by simp[rbL,Rc5]
 | f::r,hs=>by
  rw[Rc5]at hs;simp only[rbL];split
  ·rw[Rc5]; exact⟨Xef h f hs.1,Xeg h r hs.2⟩
  ·exact Xeg h r hs.2
end
def _root_.Go.Sx.RQ.withF (q:RQ)(f:RForm):RQ:=⟨q.name,q.purpose,q.vars,f⟩
theorem Xrx {y:RSrc}{q:RQ}{h:RAtom->Bool}(hc:Yc y q=true)(hr:(rbF h q.form).2=true):Yc y (q.withF (rbF h q.form).1)=true:=by
 simp only[Yc,Uai,RQ.withF]at hc⊢;exact⟨hc.1,((Xtu y q.vars h q.form 1 (0,0) (0,0) hc.2 (Uak _) (Uak _)).2.2 hr).1⟩
mutual
def Rdi:RForm->Prop
 | .mk op n k _=>k.length<=8/\(op=3->1<=n/\n<=k.length)/\Rdj k
def Rdj:List RForm->Prop
 | []=>True
 | f::r=>Rdi f/\Rdj r
end
theorem Xkr:∀{l:List RForm},Rdj l->∀f∈l,Rdi f
 | [],_,f,h=>by cases h
 | g::r,h,f,hf=>by
  rw[Rdj]at h;rcases Uax.mp hf with rfl | hf
  ·exact h.1
  ·exact Xkr h.2 f hf
theorem Xbd {f:RForm}(h:Rdi f):f.kids.length<=8/\(f.op=3->1<=f.n/\f.n<=f.kids.length)/\∀k∈f.kids,Rdi k:=by
 cases f; rw[Rdi]at h; exact⟨h.1,h.2.1,Xkr h.2.2⟩
mutual
theorem Xcw (y:RSrc)(vs:List RVar):∀(f:RForm) (d:Nat) (c:Nat×Nat),(f.okS y vs d c).1=true->Rdi f
 | .mk op n k a,d,c,h=>by
  rw[RForm.okS]at h;rw[Rdi];by_cases h0:32<c.1+1\/8<d\/8<k.length
  ·rw[Uby h0]at h; cases h
  rw[Ubo h0]at h;refine⟨by omega,?_⟩;by_cases h1:op=1\/op=2
  ·rw[Uby h1]at h;split at h
   ·exact⟨fun e=>by omega,Xiv y vs k _ _ h⟩
   ·cases h
  rw[Ubo h1]at h;by_cases h2:op=3
  ·rw[Uby h2]at h;split at h
   ·rename_i h3;simp only[Uai,Ubp]at h3;exact⟨fun _=>⟨h3.1.2,h3.2⟩,Xiv y vs k _ _ h⟩
   ·cases h
  rw[Ubo h2]at h;have hk:k.length=0->Rdj k:=fun e=>by
   cases k with
   | nil=>rw[Rdj]; trivial
   | cons a b=>simp at e
  by_cases h3:op=4
  ·rw[Uby h3]at h;simp only[Uai,Ubp]at h;exact⟨fun e=>absurd e h2,hk h.1.1.2⟩
  rw[Ubo h3]at h;by_cases h4:op=5
  ·rw[Uby h4]at h;simp only[Uai,Ubp]at h;exact⟨fun e=>absurd e h2,hk h.1.1.2⟩
  ·rw[Ubo h4]at h; cases h
theorem Xiv (y:RSrc)(vs:List RVar):∀(l:List RForm) (d:Nat) (c:Nat×Nat),(Rde y vs l d c).1=true->Rdj l
 | [],d,c,h=>by rw[Rdj]; trivial
 | f::r,d,c,h=>by
  rw[Rde]at h;rw[Rdj];split at h
  ·rename_i h1;exact⟨Xcw y vs f d c h1,Xiv y vs r d _ h⟩
  ·cases h
end
end Go.Py
namespace Go.Py
open Go Go.Ab Go.Lx Go.Sx
def Xk6 (q:RQ)(fs:List (Int×Int))(t:RTerm):Bool:=match Yg q t with | some p=>decide (p∈fs) | none=>false
def Zm (q:RQ)(fs:List (Int×Int))(a:RAtom):Bool:=Xk6 q fs a.a||Xk6 q fs a.b
structure WEnv (ob:Xb)(q:RQ)(fs:List (Int×Int))(qb mb m lb rb:Nat):Prop where
 hq:Xd ob qb=some (.box 42 (.d q.enc))
 hb:Xd ob mb=some (.box 74 (.mp m))
 hm:Xd ob m=some (.map (fs.map Uq))
 hl:Xd ob lb=some (.box 132 (.fn 64 [] [.ptr qb [],.ptr mb []]))
 hr:Xd ob rb=some (.box 133 (.fn 65 [] [.ptr lb [],.ptr rb []]))
theorem WEnv.cons {ob:Xb}{q:RQ}{fs:List (Int×Int)}{qb mb m lb rb:Nat}(h:WEnv ob q fs qb mb m lb rb){i:Nat}{o:Ob}(hi:Xa ob<=i):WEnv ((i,o)::ob) q fs qb mb m lb rb:=by
 have key:∀{j:Nat} {x:Ob},Xd ob j=some x->Xd ((i,o)::ob) j=some x:=fun {j x} hj=>by
  have:=Yd hj;rw[Xd,Ubo (by omega)]; exact hj
 exact⟨key h.hq,key h.hb,key h.hm,key h.hl,key h.hr⟩
mutual
theorem Xac:∀{x y:D},D.le x y->y.shape=x.shape
 | .nils,y,h=>by
  simp only[D.le]at h;rcases h with rfl | ⟨_,rfl⟩<;>rfl
 | .agg xs,y,h=>by
  simp only[D.le]at h;obtain⟨ys,rfl,h⟩:=h;simp only[D.shape,Xlm h]
 | .list a xs,y,h=>by
  simp only[D.le]at h;obtain⟨ys,rfl,h⟩:=h;rfl
 | .int ..,y,h | .bool ..,y,h | .str ..,y,h | .nili,y,h | .nilp,y,h | .nilf,y,h | .nilm,y,h | .ref ..,y,h | .iface ..,y,h | .fn ..,y,h=>by
  simp only[D.le]at h; subst h; rfl
theorem Xlm:∀{xs ys:List D},Rcy xs ys->D.shapes ys=D.shapes xs
 | [],ys,h=>by simp only[Rcy]at h; subst h; rfl
 | x::r,ys,h=>by
  simp only[Rcy]at h;obtain⟨y,s,rfl,h1,h2⟩:=h;simp only[D.shapes,Xac h1,Xlm h2]
end
abbrev fSh:Sh:=.node [.leaf,.leaf,.leaf,.node [.leaf,.node [.leaf,.leaf,.leaf,.leaf,.leaf],.node [.leaf,.leaf,.leaf,.leaf,.leaf]]]
theorem X1l {d:D}{f:RForm}(h:D.le d f.enc):d.shape=fSh:=by rw[<-Xac h,RForm.enc_shape]
theorem Xn3 {d:D}{f:RForm}(h:D.le d f.enc):(V.d d).isAgg=true:=by
 have:=h.same.2;cases d<;>first | rfl | (exfalso; revert this; rw[Rc4]; simp[D.isAgg])
def Xe4 (h:RAtom->Bool)(l:List RForm)(xs:List D):Prop:=Rcy xs ((rbL h l).map RForm.enc)
theorem Rcy.append:∀{a b c d:List D},Rcy a b->Rcy c d->Rcy (a++c) (b++d)
 | [],b,c,d,h,h'=>by simp only[Rcy]at h; subst h; simpa using h'
 | x::r,b,c,d,h,h'=>by
  simp only[Rcy]at h;obtain⟨y,s,rfl,h1,h2⟩:=h;simp only[List.cons_append,Rcy];exact⟨y,s++d,rfl,h1,Rcy.append h2 h'⟩
theorem Xe4.sz {h:RAtom->Bool}{l:List RForm}{xs:List D}(hx:Xe4 h l xs):∀x∈xs,x.sz=14:=by
 have key:∀{xs:List D} {ys:List RForm},Rcy xs (ys.map RForm.enc)->∀x∈xs,x.sz=14:=by
  intro xs;induction xs with
  | nil=>intro ys _ x hx; cases hx
  | cons a r ih=>
   intro ys h x hx;simp only[Rcy]at h;obtain⟨y,s,e,h1,h2⟩:=h;cases ys with
   | nil=>cases e
   | cons f t=>
    simp only[Uam,Ua1]at e;obtain⟨rfl,rfl⟩:=e;rcases Uax.1 hx with rfl | hx
    ·have:=h1.same.1; simp at this; omega
    ·exact ih h2 x hx
 exact key hx
theorem Xe4.len {h:RAtom->Bool}{l:List RForm}{xs:List D}(hx:Xe4 h l xs):xs.length=(rbL h l).length:=by
 have:=Rcy.length hx;simpa using this.symm
end Go.Py
namespace Go.Proofs.YtolkimpelpnpbaaGreatDoor
open Go Go.Ab Go.Lx Go.Sx Go.Py
set_option maxHeartbeats 2000000
section
variable {P:Prg} (hP:P.p=Tryz.prog)
include hP
theorem Xdi:Xm P.p 64=true:=by rw[hP]; kernel_rfl
theorem Jb:Xm P.p 65=true:=by rw[hP]; kernel_rfl
theorem Xjr {q:RQ}{fs:List (Int×Int)}{qb mb m lb rb:Nat}:∀(f:RForm),Rdi f->∀{ob:Xb},WEnv ob q fs qb mb m lb rb->∀{K:Out->Xb->Prop},
  (∀d,D.le d (rbF (Zm q fs) f).1.enc->K (.ret (.tup [.d d,.d (.bool (rbF (Zm q fs) f).2)])) ob)->ACall P 65 [.d f.enc,.ptr lb [],.ptr rb []] ob K:=fun f hf ob hw K h=>by
 have ih:∀k∈f.kids,∀{ob:Xb},WEnv ob q fs qb mb m lb rb->∀{K:Out->Xb->Prop},(∀d,D.le d (rbF (Zm q fs) k).1.enc->K (.ret (.tup [.d d,.d (.bool (rbF (Zm q fs) k).2)])) ob)->ACall P 65 [.d k.enc,.ptr lb [],.ptr rb []] ob K:=fun k hk _ hw _ h=>Xjr k ((Xbd hf).2.2 k hk) hw h;refine Xn hP mixed Zgn Zld TOk.nil fun _ hno=>?_;have l1:=Yd hw.hl;have l2:=Yd hw.hr;have hl:=hw.hl;have hr:=hw.hr;by_cases h5:f.op=5
 ·have hag:(match V.d f.atom.enc with | V.d (D.agg xs)=>true | V.agg xs=>true | x=>false)=true:=rfl;have e0:(Xa ob==lb)=false:=by simp; omega
  have e1:(Xa ob+1==lb)=false:=by simp; omega
  have ts:∀t:RTerm,t.enc.shape=.node [.leaf,.leaf,.leaf,.leaf,.leaf]:=fun t=>rfl;have ta:∀t:RTerm,(V.d t.enc).isAgg=true:=fun t=>rfl;have tz:(Sh.node [.leaf,.leaf,.leaf,.leaf,.leaf]).size=5:=rfl;simp[Y0y,Rc4 f,RAtom.enc,ts,ta,tz,h5,hl,hr,e0,e1,↓qm,↓qp,↓qq,↓qj,↓qi,↓qk,↓ql,↓qn,↓zz,↓zw,↓zy,↓wa,↓zx,↓zq,↓zr,↓zp,↓zu,↓zt,↓qt,↓qr,↓za,-zd,↓Xz,↓zl,-Ya,↓Xx,-Xy,↓Xr,↓ze,↓qy,↓qu,↓zm,↓qx,↓qw,↓qv,↓zf,↓zh,↓zg,↓zi,↓zj,↓zk,↓wc,↓wb,↓wf,↓we,↓qc,↓qa,↓qe,↓qd,↓qf,↓qh,↓qg,↓zo,↓zn];have hw2:∀o o',WEnv ((Xa ob+1,o)::(Xa ob,o')::ob) q fs qb mb m lb rb:=fun o o'=>(hw.cons (Uak _)).cons (by simp[Xa]);have cR:∀(t:RTerm) {ob:Xb} (_:WEnv ob q fs qb mb m lb rb) {K:Out->Xb->Prop} {pn:Pin K} (_:K (.ret (.d (.bool (Xk6 q fs t)))) ob),Xjo P 64 [.d t.enc,.ptr qb [],.ptr mb []] ob K pn:=fun t ob hw K _ h=>Xx2 hP hw.hq hw.hb hw.hm h;have hR:rbF (Zm q fs) f=(f,!(Xk6 q fs f.atom.a||Xk6 q fs f.atom.b)):=by rw[Xf9,Uby h5]; rfl
  have hF:=h f.enc (by rw[hR]; exact D.le.refl _);rw[hR,Rc4 f,h5,RAtom.enc]at hF;have fin:∀(b:Bool) (E:D) (o o':Ob),K (.ret (.tup [.d E,.d (.bool b)])) ob->X8 (Xa ob) (K (.ret (.tup [.d E,.d (.bool b)]))) [.d E,.d (.bool b)] ((Xa ob+1,o)::(Xa ob,o')::ob):=fun b E o o' h=>⟨[],by simp,by simp[Xc]; exact hno _,by simpa[Xc]using h⟩
  repeat' with_reducible refine And.intro ?_ ?_
  all_goals first | rfl | exact Xdi hP | skip
  all_goals refine cR _ (hw2 _ _) ?_
  all_goals simp[hl,hr,e0,e1,RAtom.enc,ts,ta,tz,↓qm,↓qp,↓qq,↓qj,↓qi,↓qk,↓ql,↓qn,↓zz,↓zw,↓zy,↓wa,↓zx,↓zq,↓zr,↓zp,↓zu,↓zt,↓qt,↓qr,↓za,-zd,↓Xz,↓zl,-Ya,↓Xx,-Xy,↓Xr,↓ze,↓qy,↓qu,↓zm,↓qx,↓qw,↓qv,↓zf,↓zh,↓zg,↓zi,↓zj,↓zk,↓wc,↓wb,↓wf,↓we,↓qc,↓qa,↓qe,↓qd,↓qf,↓qh,↓qg,↓zo,↓zn]
  all_goals cases g1:Xk6 q fs f.atom.a
  all_goals simp[hl,hr,e0,e1,RAtom.enc,ts,ta,tz,↓qm,↓qp,↓qq,↓qj,↓qi,↓qk,↓ql,↓qn,↓zz,↓zw,↓zy,↓wa,↓zx,↓zq,↓zr,↓zp,↓zu,↓zt,↓qt,↓qr,↓za,-zd,↓Xz,↓zl,-Ya,↓Xx,-Xy,↓Xr,↓ze,↓qy,↓qu,↓zm,↓qx,↓qw,↓qv,↓zf,↓zh,↓zg,↓zi,↓zj,↓zk,↓wc,↓wb,↓wf,↓we,↓qc,↓qa,↓qe,↓qd,↓qf,↓qh,↓qg,↓zo,↓zn]
  all_goals simp only[g1,Bool.true_or,Bool.false_or,Bool.not_true]at hF
  all_goals first | exact fin _ _ _ _ hF | skip
  all_goals repeat' with_reducible refine And.intro ?_ ?_
  all_goals first | rfl | exact Xdi hP | skip
  all_goals refine cR _ (hw2 _ _) ?_
  all_goals simp[hl,hr,e0,e1,RAtom.enc,ts,ta,tz,↓qm,↓qp,↓qq,↓qj,↓qi,↓qk,↓ql,↓qn,↓zz,↓zw,↓zy,↓wa,↓zx,↓zq,↓zr,↓zp,↓zu,↓zt,↓qt,↓qr,↓za,-zd,↓Xz,↓zl,-Ya,↓Xx,-Xy,↓Xr,↓ze,↓qy,↓qu,↓zm,↓qx,↓qw,↓qv,↓zf,↓zh,↓zg,↓zi,↓zj,↓zk,↓wc,↓wb,↓wf,↓we,↓qc,↓qa,↓qe,↓qd,↓qf,↓qh,↓qg,↓zo,↓zn]
  all_goals exact fin _ _ _ _ hF
 have hE:f.enc=.agg [iD f.op,iD f.n,.list 14 (f.kids.map RForm.enc),f.atom.enc]:=Rc4 f;by_cases h4:f.op=4
 ·have hR:rbF (Zm q fs) f=(f,true):=by rw[Xf9,Ubo h5,Uby h4]
  have hF:=h f.enc (by rw[hR]; exact D.le.refl _);rw[hR,hE,h4]at hF;simp[Y0y,Rc4 f,h4,↓qm,↓qp,↓qq,↓qj,↓qi,↓qk,↓ql,↓qn,↓zz,↓zw,↓zy,↓wa,↓zx,↓zq,↓zr,↓zp,↓zu,↓zt,↓qt,↓qr,↓za,-zd,↓Xz,↓zl,-Ya,↓Xx,-Xy,↓Xr,↓ze,↓qy,↓qu,↓zm,↓qx,↓qw,↓qv,↓zf,↓zh,↓zg,↓zi,↓zj,↓zk,↓wc,↓wb,↓wf,↓we,↓qc,↓qa,↓qe,↓qd,↓qf,↓qh,↓qg,↓zo,↓zn];refine⟨[],by simp,by simp[Xc]; exact hno _,by simpa[Xc]using hF⟩
 ·simp[Y0y,Rc4 f,h4,h5,↓qm,↓qp,↓qq,↓qj,↓qi,↓qk,↓ql,↓qn,↓zz,↓zw,↓zy,↓wa,↓zx,↓zq,↓zr,↓zp,↓zu,↓zt,↓qt,↓qr,↓za,-zd,↓Xz,↓zl,-Ya,↓Xx,-Xy,↓Xr,↓ze,↓qy,↓qu,↓zm,↓qx,↓qw,↓qv,↓zf,↓zh,↓zg,↓zi,↓zj,↓zk,↓wc,↓wb,↓wf,↓we,↓qc,↓qa,↓qe,↓qd,↓qf,↓qh,↓qg,↓zo,↓zn];simp[Yd2,↓qm,↓qp,↓qq,↓qj,↓qi,↓qk,↓ql,↓qn,↓zz,↓zw,↓zy,↓wa,↓zx,↓zq,↓zr,↓zp,↓zu,↓zt,↓qt,↓qr,↓za,-zd,↓Xz,↓zl,-Ya,↓Xx,-Xy,↓Xr,↓ze,↓qy,↓qu,↓zm,↓qx,↓qw,↓qv,↓zf,↓zh,↓zg,↓zi,↓zj,↓zk,↓wc,↓wb,↓wf,↓we,↓qc,↓qa,↓qe,↓qd,↓qf,↓qh,↓qg,↓zo,↓zn];unfold Xwm;have hkl:=(Xbd hf).1;have hkn:=(Xbd hf).2.1;have e0:(Xa ob==lb)=false:=by simp; omega
  have e0r:(Xa ob==rb)=false:=by simp; omega
  have e1r:(Xa ob+1==rb)=false:=by simp; omega
  have e2r:(Xa ob+2==rb)=false:=by simp; omega
  have e4r:(Xa ob+4==rb)=false:=by simp; omega
  have e5r:(Xa ob+5==rb)=false:=by simp; omega
  have hagg:∀k:RForm,(match V.d k.enc with | V.d (D.agg xs)=>true | V.agg xs=>true | x=>false)=true:=fun k=>by rw[Rc4]
  let fo:Ob:=.box 40 (.d (.agg [iD f.op,iD f.n,.list 14 (f.kids.map RForm.enc),f.atom.enc]));let O:List D->Xb:=fun xs=>match xs with
   | []=>(Xa ob+1,.box 40 (.d (.agg [iD f.op,iD f.n,.nils,f.atom.enc])))::(Xa ob,fo)::ob
   | x::r=>(Xa ob+4,.arr 40 14 (x::r))::(Xa ob+1,.box 40 (.agg [.d (iD f.op),.d (iD f.n),.sl (Xa ob+4) (r.length+1),.d f.atom.enc]))::(Xa ob,fo)::ob
  refine ALoop.go (ι:=Nat×List D) (fun i=>[(2,.ptr rb []),(3,.ptr (Xa ob) []),(4,.ptr (Xa ob+1) []),(35,.d (.list 14 (f.kids.map RForm.enc))),(36,.d (.int .i64 f.kids.length)),(37,.d (.int .i64 i.1))])
   (fun i=>O i.2) (fun i=>i.1<=f.kids.length/\Xe4 (Zm q fs) (f.kids.take i.1) i.2) (fun i=>f.kids.length-i.1) (0,[]) ⟨Ubg _,by simp[Xe4,rbL,Rcy]⟩ (by simp) rfl ?_
  rintro⟨k,xs⟩ ⟨hk,hx⟩ R rn re rr rp;dsimp only at hk hx rn⊢;by_cases hlt:k<f.kids.length
  ·have wr:IntKind.i64.wrap ((k:Int)+1)=(k:Int)+1:=IntWalk.i64_in _ (by omega);have hmem:f.kids[k]∈f.kids:=Uba hlt;have hst:=Xty (h:=Zm q fs) hlt;cases xs with
   | nil=>
    simp[O,fo,Xm5,hlt,hr,e0r,e1r,e2r,↓qm,↓qp,↓qq,↓qj,↓qi,↓qk,↓ql,↓qn,↓zz,↓zw,↓zy,↓wa,↓zx,↓zq,↓zr,↓zp,↓zu,↓zt,↓qt,↓qr,↓za,-zd,↓Xz,↓zl,-Ya,↓Xx,-Xy,↓Xr,↓ze,↓qy,↓qu,↓zm,↓qx,↓qw,↓qv,↓zf,↓zh,↓zg,↓zi,↓zj,↓zk,↓wc,↓wb,↓wf,↓we,↓qc,↓qa,↓qe,↓qd,↓qf,↓qh,↓qg,↓zo,↓zn];refine⟨hagg _,Jb hP,?_⟩;refine ih _ hmem ?_ (fun d hd=>?_)
    ·exact ((hw.cons (Uak _)).cons (by simp[Xa])).cons (by simp[Xa])
    ·have hs:=X1l hd;have hda:=Xn3 hd;have hsz:fSh.size=14:=rfl;have hdz:d.sz=14:=by have:=hd.same.1; simp at this; omega
     have hdm:(match V.d d with | V.d (D.agg xs)=>true | V.agg xs=>true | x=>false)=true:=by
      cases d<;>first | rfl | (revert hda; simp[V.isAgg])
     simp[hs,hsz,↓qm,↓qp,↓qq,↓qj,↓qi,↓qk,↓ql,↓qn,↓zz,↓zw,↓zy,↓wa,↓zx,↓zq,↓zr,↓zp,↓zu,↓zt,↓qt,↓qr,↓za,-zd,↓Xz,↓zl,-Ya,↓Xx,-Xy,↓Xr,↓ze,↓qy,↓qu,↓zm,↓qx,↓qw,↓qv,↓zf,↓zh,↓zg,↓zi,↓zj,↓zk,↓wc,↓wb,↓wf,↓we,↓qc,↓qa,↓qe,↓qd,↓qf,↓qh,↓qg,↓zo,↓zn];simp[Xxs,↓qm,↓qp,↓qq,↓qj,↓qi,↓qk,↓ql,↓qn,↓zz,↓zw,↓zy,↓wa,↓zx,↓zq,↓zr,↓zp,↓zu,↓zt,↓qt,↓qr,↓za,-zd,↓Xz,↓zl,-Ya,↓Xx,-Xy,↓Xr,↓ze,↓qy,↓qu,↓zm,↓qx,↓qw,↓qv,↓zf,↓zh,↓zg,↓zi,↓zj,↓zk,↓wc,↓wb,↓wf,↓we,↓qc,↓qa,↓qe,↓qd,↓qf,↓qh,↓qg,↓zo,↓zn];cases g:(rbF (Zm q fs) f.kids[k]).2 with
     | false=>
      rw[g,Ubo (by simp),Ub4]at hst;simp[Xgn,wr,↓qm,↓qp,↓qq,↓qj,↓qi,↓qk,↓ql,↓qn,↓zz,↓zw,↓zy,↓wa,↓zx,↓zq,↓zr,↓zp,↓zu,↓zt,↓qt,↓qr,↓za,-zd,↓Xz,↓zl,-Ya,↓Xx,-Xy,↓Xr,↓ze,↓qy,↓qu,↓zm,↓qx,↓qw,↓qv,↓zf,↓zh,↓zg,↓zi,↓zj,↓zk,↓wc,↓wb,↓wf,↓we,↓qc,↓qa,↓qe,↓qd,↓qf,↓qh,↓qg,↓zo,↓zn];refine rn [] (k+1,[]) _ _ ⟨hlt,?_⟩ (by simp only; omega) (by simp) ?_ (by simp[O,Xc]; omega) ?_
      ·rw[Xe4,hst]; exact hx
      ·have e:¬Xa ob+3<=Xa ob:=by omega
       simp[O,fo,Xc,e]
      ·simp[O,fo,Xc];exact Xq 2 hno
     | true=>
      rw[g,Uby rfl]at hst;simp[hs,hsz,hdz,hda,fo,↓qm,↓qp,↓qq,↓qj,↓qi,↓qk,↓ql,↓qn,↓zz,↓zw,↓zy,↓wa,↓zx,↓zq,↓zr,↓zp,↓zu,↓zt,↓qt,↓qr,↓za,-zd,↓Xz,↓zl,-Ya,↓Xx,-Xy,↓Xr,↓ze,↓qy,↓qu,↓zm,↓qx,↓qw,↓qv,↓zf,↓zh,↓zg,↓zi,↓zj,↓zk,↓wc,↓wb,↓wf,↓we,↓qc,↓qa,↓qe,↓qd,↓qf,↓qh,↓qg,↓zo,↓zn];refine⟨hdm,?_⟩;simp[Xgn,wr,↓qm,↓qp,↓qq,↓qj,↓qi,↓qk,↓ql,↓qn,↓zz,↓zw,↓zy,↓wa,↓zx,↓zq,↓zr,↓zp,↓zu,↓zt,↓qt,↓qr,↓za,-zd,↓Xz,↓zl,-Ya,↓Xx,-Xy,↓Xr,↓ze,↓qy,↓qu,↓zm,↓qx,↓qw,↓qv,↓zf,↓zh,↓zg,↓zi,↓zj,↓zk,↓wc,↓wb,↓wf,↓we,↓qc,↓qa,↓qe,↓qd,↓qf,↓qh,↓qg,↓zo,↓zn];refine rn [Xa ob+4] (k+1,[d]) _ _ ⟨hlt,?_⟩ (by simp only; omega) (by simp) ?_ (by simp[O,Xc]; omega) ?_
      ·have hx0:rbL (Zm q fs) (f.kids.take k)=[]:=by
        have:=hx.len;simpa using this.symm
       rw[Xe4,hst,hx0];exact Rcy.cons hd Rcy.nil
      ·have e:¬Xa ob+3<=Xa ob:=by omega
       simp[O,fo,Xc,e,Uag]
      ·simp[O,fo,Xc];exact Xq 2 hno
   | cons x r=>
    have hxl:=hx.len;have hrl:(rbL (Zm q fs) (f.kids.take k)).length<=8:=by
     have:=Jn (Zm q fs) (f.kids.take k);simp only[Ua7]at this; omega
    simp only[List.length_cons]at hxl;simp[O,fo,Xm5,hlt,hr,e0r,e1r,e4r,e5r,↓qm,↓qp,↓qq,↓qj,↓qi,↓qk,↓ql,↓qn,↓zz,↓zw,↓zy,↓wa,↓zx,↓zq,↓zr,↓zp,↓zu,↓zt,↓qt,↓qr,↓za,-zd,↓Xz,↓zl,-Ya,↓Xx,-Xy,↓Xr,↓ze,↓qy,↓qu,↓zm,↓qx,↓qw,↓qv,↓zf,↓zh,↓zg,↓zi,↓zj,↓zk,↓wc,↓wb,↓wf,↓we,↓qc,↓qa,↓qe,↓qd,↓qf,↓qh,↓qg,↓zo,↓zn];refine⟨hagg _,Jb hP,?_⟩;refine ih _ hmem ?_ (fun d hd=>?_)
    ·exact (((hw.cons (Uak _)).cons (by simp[Xa])).cons (by simp[Xa])).cons (by simp[Xa])
    ·have hs:=X1l hd;have hda:=Xn3 hd;have hsz:fSh.size=14:=rfl;have hdz:d.sz=14:=by have:=hd.same.1; simp at this; omega
     have hdm:(match V.d d with | V.d (D.agg xs)=>true | V.agg xs=>true | x=>false)=true:=by
      cases d<;>first | rfl | (revert hda; simp[V.isAgg])
     simp[hs,hsz,↓qm,↓qp,↓qq,↓qj,↓qi,↓qk,↓ql,↓qn,↓zz,↓zw,↓zy,↓wa,↓zx,↓zq,↓zr,↓zp,↓zu,↓zt,↓qt,↓qr,↓za,-zd,↓Xz,↓zl,-Ya,↓Xx,-Xy,↓Xr,↓ze,↓qy,↓qu,↓zm,↓qx,↓qw,↓qv,↓zf,↓zh,↓zg,↓zi,↓zj,↓zk,↓wc,↓wb,↓wf,↓we,↓qc,↓qa,↓qe,↓qd,↓qf,↓qh,↓qg,↓zo,↓zn];simp[Xxs,↓qm,↓qp,↓qq,↓qj,↓qi,↓qk,↓ql,↓qn,↓zz,↓zw,↓zy,↓wa,↓zx,↓zq,↓zr,↓zp,↓zu,↓zt,↓qt,↓qr,↓za,-zd,↓Xz,↓zl,-Ya,↓Xx,-Xy,↓Xr,↓ze,↓qy,↓qu,↓zm,↓qx,↓qw,↓qv,↓zf,↓zh,↓zg,↓zi,↓zj,↓zk,↓wc,↓wb,↓wf,↓we,↓qc,↓qa,↓qe,↓qd,↓qf,↓qh,↓qg,↓zo,↓zn];cases g:(rbF (Zm q fs) f.kids[k]).2 with
     | false=>
      rw[g,Ubo (by simp),Ub4]at hst;simp[Xgn,wr,↓qm,↓qp,↓qq,↓qj,↓qi,↓qk,↓ql,↓qn,↓zz,↓zw,↓zy,↓wa,↓zx,↓zq,↓zr,↓zp,↓zu,↓zt,↓qt,↓qr,↓za,-zd,↓Xz,↓zl,-Ya,↓Xx,-Xy,↓Xr,↓ze,↓qy,↓qu,↓zm,↓qx,↓qw,↓qv,↓zf,↓zh,↓zg,↓zi,↓zj,↓zk,↓wc,↓wb,↓wf,↓we,↓qc,↓qa,↓qe,↓qd,↓qf,↓qh,↓qg,↓zo,↓zn];refine rn [] (k+1,x::r) _ _ ⟨hlt,?_⟩ (by simp only; omega) (by simp) ?_ (by simp[O,Xc]; omega) ?_
      ·rw[Xe4,hst]; exact hx
      ·have e:¬Xa ob+6<=Xa ob:=by omega
       simp[O,fo,Xc,e,Uag]
      ·simp[O,fo,Xc];exact Xq 5 hno
     | true=>
      rw[g,Uby rfl]at hst;simp[hs,hsz,hdz,hda,fo,↓qm,↓qp,↓qq,↓qj,↓qi,↓qk,↓ql,↓qn,↓zz,↓zw,↓zy,↓wa,↓zx,↓zq,↓zr,↓zp,↓zu,↓zt,↓qt,↓qr,↓za,-zd,↓Xz,↓zl,-Ya,↓Xx,-Xy,↓Xr,↓ze,↓qy,↓qu,↓zm,↓qx,↓qw,↓qv,↓zf,↓zh,↓zg,↓zi,↓zj,↓zk,↓wc,↓wb,↓wf,↓we,↓qc,↓qa,↓qe,↓qd,↓qf,↓qh,↓qg,↓zo,↓zn];refine⟨hdm,by omega,?_⟩;simp[Xgn,wr,↓qm,↓qp,↓qq,↓qj,↓qi,↓qk,↓ql,↓qn,↓zz,↓zw,↓zy,↓wa,↓zx,↓zq,↓zr,↓zp,↓zu,↓zt,↓qt,↓qr,↓za,-zd,↓Xz,↓zl,-Ya,↓Xx,-Xy,↓Xr,↓ze,↓qy,↓qu,↓zm,↓qx,↓qw,↓qv,↓zf,↓zh,↓zg,↓zi,↓zj,↓zk,↓wc,↓wb,↓wf,↓we,↓qc,↓qa,↓qe,↓qd,↓qf,↓qh,↓qg,↓zo,↓zn];refine rn [] (k+1,x::(r++[d])) _ _ ⟨hlt,?_⟩ (by simp only; omega) (by simp) ?_ (by simp[O,Xc]; omega) ?_
      ·rw[Xe4,hst,Uca];exact Rcy.append hx (Rcy.cons hd Rcy.nil)
      ·have e:¬Xa ob+6<=Xa ob:=by omega
       simp[O,fo,Xc,e,Uag]
      ·simp[O,fo,Xc];exact Xq 5 hno
  ·have hk0:k=f.kids.length:=by omega
   subst hk0;rw[Ucq]at hx;have hxl:=hx.len;have hll:=Jn (Zm q fs) f.kids;have hR:rbF (Zm q fs) f=(.mk f.op (if f.op=3 then max (f.n-(f.kids.length-(rbL (Zm q fs) f.kids).length)) 1 else f.n) (rbL (Zm q fs) f.kids) f.atom,decide (f.kids.length=0)||decide (0<(rbL (Zm q fs) f.kids).length)):=by rw[Xf9,Ubo h5,Ubo h4]
   have hD:∀n',n'=(if f.op=3 then max (f.n-(f.kids.length-xs.length)) 1 else f.n)->∀z,(z=.nils/\xs=[]\/z=.list 14 xs)->∀b,b=(decide (f.kids.length=0)||decide (0<xs.length))->K (.ret (.tup [.d (.agg [iD f.op,iD n',z,f.atom.enc]),.d (.bool b)])) ob:=by
    intro n' en z hz b eb;have hF:=h (.agg [iD f.op,iD n',z,f.atom.enc]) (by
     rw[hR,Rc4];rw[<-hxl,<-en];rw[show ∀o n k a,(RForm.mk o n k a).op=o from fun _ _ _ _=>rfl,show ∀o n k a,(RForm.mk o n k a).n=n from fun _ _ _ _=>rfl,show ∀o n k a,(RForm.mk o n k a).kids=k from fun _ _ _ _=>rfl,show ∀o n k a,(RForm.mk o n k a).atom=a from fun _ _ _ _=>rfl];refine D.le.agg (Rcy.cons (D.le.refl _) (Rcy.cons (D.le.refl _) (Rcy.cons ?_ (Rcy.cons (D.le.refl _) Rcy.nil))));rcases hz with⟨rfl,e⟩ | rfl
     ·subst e;have e0:rbL (Zm q fs) f.kids=[]:=Ubi hxl.symm;rw[e0]; exact D.le.nil _
     ·exact D.le.list hx)
    rw[hR]at hF;simp only[<-hxl,<-eb]at hF;exact hF
   simp[O,Xm5,↓qm,↓qp,↓qq,↓qj,↓qi,↓qk,↓ql,↓qn,↓zz,↓zw,↓zy,↓wa,↓zx,↓zq,↓zr,↓zp,↓zu,↓zt,↓qt,↓qr,↓za,-zd,↓Xz,↓zl,-Ya,↓Xx,-Xy,↓Xr,↓ze,↓qy,↓qu,↓zm,↓qx,↓qw,↓qv,↓zf,↓zh,↓zg,↓zi,↓zj,↓zk,↓wc,↓wb,↓wf,↓we,↓qc,↓qa,↓qe,↓qd,↓qf,↓qh,↓qg,↓zo,↓zn];refine re _ _ _ ?_;cases xs with
   | nil=>
    have hfin:∀n',n'=(if f.op=3 then max (f.n-(f.kids.length-0)) 1 else f.n)->Yw P [] Xd3 (Vs (Xa ob) [RV.c 4 14 true,RV.t 5] K) [(3,V.ptr (Xa ob) []),(4,V.ptr (Xa ob+1) [])] ((Xa ob+1,.box 40 (.d (.agg [iD f.op,iD n',.nils,f.atom.enc])))::(Xa ob,fo)::ob):=by
     intro n' en;have hF:=hD n' en .nils (.inl ⟨rfl,rfl⟩) _ rfl;simp[Xxr,fo,↓qm,↓qp,↓qq,↓qj,↓qi,↓qk,↓ql,↓qn,↓zz,↓zw,↓zy,↓wa,↓zx,↓zq,↓zr,↓zp,↓zu,↓zt,↓qt,↓qr,↓za,-zd,↓Xz,↓zl,-Ya,↓Xx,-Xy,↓Xr,↓ze,↓qy,↓qu,↓zm,↓qx,↓qw,↓qv,↓zf,↓zh,↓zg,↓zi,↓zj,↓zk,↓wc,↓wb,↓wf,↓we,↓qc,↓qa,↓qe,↓qd,↓qf,↓qh,↓qg,↓zo,↓zn];refine⟨[],by simp,by simp[Xc]; exact hno _,?_⟩;have ek:decide (f.kids=[])=(decide (f.kids.length=0)||decide (0<([]:List D).length)):=by
      rw[Ucl]; simp
     rw[ek];simpa[Xc]using hF
    by_cases h3:f.op=3
    ·have hn:=hkn h3;have w1:IntKind.i64.wrap (f.kids.length:Int)=(f.kids.length:Int):=IntWalk.i64_in _ (by omega);have w2:IntKind.i64.wrap (f.n-(f.kids.length:Int))=f.n-(f.kids.length:Int):=IntWalk.i64_in _ (by omega);have hf':=hfin (if f.n-(f.kids.length:Int)<1 then 1 else f.n-(f.kids.length:Int)) (by rw[Uby h3]; split<;>omega);simp[h3,fo,w1,w2,↓qm,↓qp,↓qq,↓qj,↓qi,↓qk,↓ql,↓qn,↓zz,↓zw,↓zy,↓wa,↓zx,↓zq,↓zr,↓zp,↓zu,↓zt,↓qt,↓qr,↓za,-zd,↓Xz,↓zl,-Ya,↓Xx,-Xy,↓Xr,↓ze,↓qy,↓qu,↓zm,↓qx,↓qw,↓qv,↓zf,↓zh,↓zg,↓zi,↓zj,↓zk,↓wc,↓wb,↓wf,↓we,↓qc,↓qa,↓qe,↓qd,↓qf,↓qh,↓qg,↓zo,↓zn]at hf'⊢;exact hf'
    ·have hf':=hfin f.n (by rw[Ubo h3]);simp[h3,fo,↓qm,↓qp,↓qq,↓qj,↓qi,↓qk,↓ql,↓qn,↓zz,↓zw,↓zy,↓wa,↓zx,↓zq,↓zr,↓zp,↓zu,↓zt,↓qt,↓qr,↓za,-zd,↓Xz,↓zl,-Ya,↓Xx,-Xy,↓Xr,↓ze,↓qy,↓qu,↓zm,↓qx,↓qw,↓qv,↓zf,↓zh,↓zg,↓zi,↓zj,↓zk,↓wc,↓wb,↓wf,↓we,↓qc,↓qa,↓qe,↓qd,↓qf,↓qh,↓qg,↓zo,↓zn]at hf'⊢;exact hf'
   | cons x r=> 
    have hfin:∀n',n'=(if f.op=3 then max (f.n-(f.kids.length-(x::r).length)) 1 else f.n)->Yw P [] Xd3 (Vs (Xa ob) [RV.c 4 14 true,RV.t 5] K) [(3,V.ptr (Xa ob) []),(4,V.ptr (Xa ob+1) [])] ((Xa ob+4,.arr 40 14 (x::r))::(Xa ob+1,.box 40 (.agg [.d (iD f.op),.d (iD n'),.sl (Xa ob+4) (r.length+1),.d f.atom.enc]))::(Xa ob,fo)::ob):=by
     intro n' en;have hF:=hD n' en (.list 14 (x::r)) (.inr rfl) _ rfl;simp[Xxr,fo,↓qm,↓qp,↓qq,↓qj,↓qi,↓qk,↓ql,↓qn,↓zz,↓zw,↓zy,↓wa,↓zx,↓zq,↓zr,↓zp,↓zu,↓zt,↓qt,↓qr,↓za,-zd,↓Xz,↓zl,-Ya,↓Xx,-Xy,↓Xr,↓ze,↓qy,↓qu,↓zm,↓qx,↓qw,↓qv,↓zf,↓zh,↓zg,↓zi,↓zj,↓zk,↓wc,↓wb,↓wf,↓we,↓qc,↓qa,↓qe,↓qd,↓qf,↓qh,↓qg,↓zo,↓zn];have e:¬Xa ob+4<Xa ob:=by omega
     refine⟨[],by simp,by simp[Xc]; exact hno _,?_⟩;simpa[Xc]using hF
    by_cases h3:f.op=3
    ·have hn:=hkn h3;simp only[List.length_cons]at hxl hfin;have w1:IntKind.i64.wrap ((f.kids.length:Int)-((r.length:Int)+1))=(f.kids.length:Int)-((r.length:Int)+1):=IntWalk.i64_in _ (by omega);have w2:IntKind.i64.wrap (f.n-((f.kids.length:Int)-((r.length:Int)+1)))=f.n-((f.kids.length:Int)-((r.length:Int)+1)):=IntWalk.i64_in _ (by omega);have hf':=hfin (if f.n-((f.kids.length:Int)-((r.length:Int)+1))<1 then 1 else f.n-((f.kids.length:Int)-((r.length:Int)+1))) (by rw[Uby h3]; split<;>omega);simp[h3,fo,w1,w2,↓qm,↓qp,↓qq,↓qj,↓qi,↓qk,↓ql,↓qn,↓zz,↓zw,↓zy,↓wa,↓zx,↓zq,↓zr,↓zp,↓zu,↓zt,↓qt,↓qr,↓za,-zd,↓Xz,↓zl,-Ya,↓Xx,-Xy,↓Xr,↓ze,↓qy,↓qu,↓zm,↓qx,↓qw,↓qv,↓zf,↓zh,↓zg,↓zi,↓zj,↓zk,↓wc,↓wb,↓wf,↓we,↓qc,↓qa,↓qe,↓qd,↓qf,↓qh,↓qg,↓zo,↓zn]at hf'⊢;exact hf'
    ·have hf':=hfin f.n (by rw[Ubo h3]);simp[h3,fo,↓qm,↓qp,↓qq,↓qj,↓qi,↓qk,↓ql,↓qn,↓zz,↓zw,↓zy,↓wa,↓zx,↓zq,↓zr,↓zp,↓zu,↓zt,↓qt,↓qr,↓za,-zd,↓Xz,↓zl,-Ya,↓Xx,-Xy,↓Xr,↓ze,↓qy,↓qu,↓zm,↓qx,↓qw,↓qv,↓zf,↓zh,↓zg,↓zi,↓zj,↓zk,↓wc,↓wb,↓wf,↓we,↓qc,↓qa,↓qe,↓qd,↓qf,↓qh,↓qg,↓zo,↓zn]at hf'⊢;exact hf'
termination_by f=>SizeOf.sizeOf f
decreasing_by exact Rdd hk
end
end Go.Proofs.YtolkimpelpnpbaaGreatDoor
namespace Go.Py
open Go Go.Ab Go.Lx Go.Sx
abbrev qSh:Sh:=.node [.leaf,.leaf,.leaf,.node [.leaf,.leaf,.leaf,.node [.leaf,.node [.leaf,.leaf,.leaf,.leaf,.leaf],.node [.leaf,.leaf,.leaf,.leaf,.leaf]]]]
def Xjj (fs:List (Int×Int))(p:Int×Int):List (Int×Int):=if p∈fs then fs else fs++[p]
def refP (r:RRef):Int×Int:=(r.schema,r.field)
def Yn (l:List RRef):List (Int×Int):=l.foldl (fun fs r=>Xjj fs (refP r)) []
theorem Xco {fs:List (Int×Int)}{p x:Int×Int}:x∈Xjj fs p↔x∈fs\/x=p:=by
 unfold Xjj;split
 ·rename_i h;refine⟨.inl,fun h1=>h1.elim id fun e=>by rw[e]; exact h⟩
 ·simp
theorem Xli {l:List RRef}{x:Int×Int}:x∈Yn l↔∃r∈l,refP r=x:=by
 have key:∀(l:List RRef) (fs:List (Int×Int)),x∈l.foldl (fun fs r=>Xjj fs (refP r)) fs↔x∈fs\/∃r∈l,refP r=x:=by
  intro l;induction l with
  | nil=>simp
  | cons a r ih=>
   intro fs;rw[List.foldl_cons,ih,Xco];simp only[Uax,exists_eq_or_imp];constructor
   ·rintro ((h | h) | h)
    ·exact .inl h
    ·exact .inr (.inl h.symm)
    ·exact .inr (.inr h)
   ·rintro (h | h | h)
    ·exact .inl (.inl h)
    ·exact .inl (.inr h.symm)
    ·exact .inr h
 unfold Yn;rw[key]; simp
theorem Xvg (l:List RRef)(r:RRef):Yn (l++[r])=Xjj (Yn l) (refP r):=by
 unfold Yn; rw[Ucs]; rfl
theorem Xdo (p:Nat->Bool)(fs:List (Int×Int)):Jk p (fs.map Uq)=false:=by
 induction fs with
 | nil=>rfl
 | cons a r ih=>simp only[Uam,Uq,Jk,V.men]at ih⊢; simpa using ih
def zQ:RQ:=⟨[],0,[],.mk 0 0 [] Ymk⟩
abbrev zQD:D:=.agg [.str [],.int .i64 0,.nils,.agg [.int .i64 0,.int .i64 0,.nils,.agg [.int .i64 0,.agg [.str [],.str [],.int .i64 0,.int .i64 0,.int .i64 0],.agg [.str [],.str [],.int .i64 0,.int .i64 0,.int .i64 0]]]]
theorem Yav:D.le zQD zQ.enc:=by
 simp only[zQ,RQ.enc,Rc4,RForm.op,RForm.n,RForm.kids,RForm.atom,Ubm,Ymk,RAtom.enc,Ylg,RTerm.enc];exact D.le.agg (Rcy.cons (D.le.refl _) (Rcy.cons (D.le.refl _) (Rcy.cons (D.le.nil _) (Rcy.cons (D.le.agg (Rcy.cons (D.le.refl _) (Rcy.cons (D.le.refl _) (Rcy.cons (D.le.nil _) (Rcy.cons (D.le.refl _) Rcy.nil))))) Rcy.nil))))
def X5 (y:RSrc)(q:RQ)(l:List RRef):RQ×Int:=
 if Yc y q then (if (rbF (Zm q (Yn l)) q.form).2 then (q.withF (rbF (Zm q (Yn l)) q.form).1,0) else (zQ,260)) else (zQ,210)
theorem Xjd (p:Int×Int):∀fs:List (Int×Int),Xmo (fD p) (.d (.bool true)) (fs.map Uq)=(Xjj fs p).map Uq
 | []=>by simp[Xjj,Xmo,Uq]
 | r::fs=>by
  have ih:=Xjd p fs;have:Rb2 (fD p) (fD r)=decide (p=r):=by
   obtain⟨a,b⟩:=p; obtain⟨c,d⟩:=r;rw[Ucl];simp[Rb2,fD,D.eqbs,D.eqb]
  simp only[Uam,Uq,Xmo,this];by_cases e:p=r
  ·subst e; simp[Xjj,Uq]
  ·rw[Ubo (by simpa using e),ih];unfold Xjj;by_cases h:p∈fs
   ·simp[h,Uq]
   ·simp[h,e,Uq]
end Go.Py
namespace Go.Proofs.YtolkimpelpnpbaaGreatDoor
open Go Go.Ab Go.Lx Go.Sx Go.Py
section
variable {P:Prg} (hP:P.p=Tryz.prog)
include hP
theorem Xjs {q:RQ}(hf:Rdi q.form){fs:List (Int×Int)}{m:Nat}{ob:Xb}(hm:Xd ob m=some (.map (fs.map Uq))){K:Out->Xb->Prop}
  (h:∀d,D.le d (q.withF (rbF (Zm q fs) q.form).1).enc->K (.ret (.tup [.d d,.d (.bool (rbF (Zm q fs) q.form).2)])) ob):ACall P 34 [.d q.enc,.mp m] ob K:=by
 refine Xn hP mixed Zf5 Zko TOk.nil fun _ hno=>?_;have hml:=Yd hm;have hagg:∀k:RForm,(match V.d k.enc with | V.d (D.agg xs)=>true | V.agg xs=>true | x=>false)=true:=fun k=>by rw[Rc4]
 simp[Zhw,RQ.enc,Uag];refine⟨hagg _,Jb hP,?_⟩;refine Xjr hP (q:=q) (fs:=fs) (qb:=Xa ob) (mb:=Xa ob+1) (m:=m) (lb:=Xa ob+3) (rb:=Xa ob+4) _ hf ?_ (fun d hd=>?_)
 ·have e0:(Xa ob==m)=false:=by simp; omega
  have e1:(Xa ob+1==m)=false:=by simp; omega
  have e2:(Xa ob+2==m)=false:=by simp; omega
  have e3:(Xa ob+3==m)=false:=by simp; omega
  have e4:(Xa ob+4==m)=false:=by simp; omega
  exact⟨by simp[RQ.enc],by simp,by simp[hm,e0,e1,e2,e3,e4],by simp,by simp⟩
 ·have hs:=X1l hd;have hsz:fSh.size=14:=rfl;have hda:=Xn3 hd;simp[Ydw,hs,hsz];have hF:=h (.agg [.str q.name,iD q.purpose,.list 4 (q.vars.map RVar.enc),d]) (D.le.agg (Rcy.cons (D.le.refl _) (Rcy.cons (D.le.refl _) (Rcy.cons (D.le.refl _) (Rcy.cons hd Rcy.nil)))));refine⟨[],by simp,by simp[Xc]; exact hno _,by simpa[Xc]using hF⟩
theorem Xyl {t:RTab}(hy:t.src.small){q:RQ}(hq:q.small){l:List RRef}(hl:l.length<=100000){ob:Xb}{K:V->Prop}
  (h:∀d,D.le d (X5 t.src q l).1.enc->K (.tup [.d d,.d (.int .i64 (X5 t.src q l).2)])):PCall P 16 [.d t.enc,.d q.enc,.d (.list 4 (l.map RRef.enc))] ob K:=by
 refine Xg hP mixed (ds:=[t.enc,q.enc,.list 4 (l.map RRef.enc)]) Zfx Zj9 TOk.nil ?_;have ts:t.enc.shape.size=7:=rfl;have qs:q.enc.shape.size=17:=by rw[RQ.enc,D.shape]; simp[D.shapes]
 simp[Zhi,ts,qs];refine⟨rfl,rfl,rfl,rfl,Xyi hP hy hq ?_⟩;cases hc:Yc t.src q with
 | false=>
  have hF:=h zQD (by simp only[X5,hc]; exact Yav);simp only[X5,hc]at hF;simp[Z5,hc];exact hF
 | true=>
  simp[Z5,hc];refine ALoop.upto l.length (fun k=>[(4,.ptr 1 []),(6,.ptr 2 []),(9,.mp 3),(21,.d (.list 4 (l.map RRef.enc))),(22,.d (.int .i64 l.length)),(23,.d (.int .i64 k))])
   (fun k=>[(3,.map ((Yn (l.take k)).map Uq)),(2,.box 42 (.d zQD)),(1,.box 42 (.d q.enc)),(0,.box 32 (.d t.enc))]) (fun _=>True) trivial (by simp) (by simp[Yn]) ?_ ?_
  ·intro k hk _ R rn re rr rp;have wr:IntKind.i64.wrap ((k:Int)+1)=(k:Int)+1:=IntWalk.i64_in _ (by omega);have hst:Yn (l.take (k+1))=Xjj (Yn (l.take k)) (refP l[k]):=by rw[Ubj hk,Xvg]
   simp[Xwp,hk,RRef.enc];refine⟨Xcs (refP l[k]) _,?_⟩;rw[show D.agg [iD l[k].schema,iD l[k].field]=fD (refP l[k]) from rfl,Xjd,wr];refine rn [] _ _ trivial (by simp) ?_ ?_ ?_
   ·rw[hst]; simp[Xc]
   ·simp[Xc]
   ·rw[hst]; simp[Xc];exact Xdo _ _
  ·intro _ R re rr rp;simp[Xwp];refine re _ _ _ ?_;simp[qs];refine⟨rfl,?_⟩;have hck:(q.form.okS t.src q.vars 1 (0,0)).1=true:=by
    simp only[Yc,Uai]at hc;exact hc.2
   refine Xjs hP (Xcw _ _ _ _ _ hck) (fs:=Yn l) (by simp) (fun d hd=>?_);have hds:d.shape=qSh:=by rw[<-Xac hd]; simp[RQ.enc,RQ.withF,D.shape,D.shapes]
   have qz:qSh.size=17:=rfl;have qsh:q.enc.shape=qSh:=by simp[RQ.enc,D.shape,D.shapes]
   have hda:(V.d d).isAgg=true:=by
    have:=hd.same.2;cases d<;>first | rfl | (exfalso; revert this; simp[RQ.enc,D.isAgg])
   have hdm:(match V.d d with | V.d (D.agg xs)=>true | V.agg xs=>true | x=>false)=true:=by
    cases d<;>first | rfl | (revert hda; simp[V.isAgg])
   have zs:zQD.shape.size=17:=rfl;simp[hds,qz,qsh];cases hr:(rbF (Zm q (Yn l)) q.form).2 with
   | false=>
    have hw:X5 t.src q l=(zQ,260):=by unfold X5; rw[Uby hc,Ubo (by simp[hr])]
    have hF:=h zQD (by rw[hw]; exact Yav);rw[hw]at hF;simp[Xwq,hds,qz,qsh];exact hF
   | true=>
    have hw:X5 t.src q l=(q.withF (rbF (Zm q (Yn l)) q.form).1,0):=by unfold X5; rw[Uby hc,Uby hr]
    have hF:=h d (by rw[hw]; exact hd);rw[hw]at hF;simp[Xwq,hds,qz,qsh];exact⟨hdm,hF⟩
end
end Go.Proofs.YtolkimpelpnpbaaGreatDoor
namespace Go.Py
open Go Go.Ab Go.Lx Go.Sx
def Vq (l:List RAtom):List RTerm:=l.flatMap fun a=>[a.a,a.b]
def Uo (q:RQ)(fs:List (Int×Int))(t:RTerm):List (Int×Int):=match Yg q t with | some p=>Xjj fs p | none=>fs
def fsA (q:RQ)(l:List RAtom):List (Int×Int):=(Vq l).foldl (Uo q) []
def X7 (q:RQ):List (Int×Int):=(fsA q q.form.atoms).mergeSort leP
theorem X84 (q:RQ)(l:List RAtom)(a:RAtom):fsA q (l++[a])=Uo q (Uo q (fsA q l) a.a) a.b:=by
 simp[fsA,Vq,List.flatMap_append,Ucs]
theorem X6e (q:RQ)(fs:List (Int×Int))(t:RTerm):(Uo q fs t).length<=fs.length+1:=by
 unfold Uo;split
 ·unfold Xjj; split<;>simp
 ·omega
theorem X0w (q:RQ)(l:List RAtom):(fsA q l).length<=2*l.length:=by
 have h1:∀(l:List RTerm) (fs:List (Int×Int)),(l.foldl (Uo q) fs).length<=fs.length+l.length:=by
  intro l;induction l with
  | nil=>simp
  | cons a r ih=>
   intro fs;have:=ih (Uo q fs a);have h2:=X6e q fs a;simp only[List.foldl_cons,List.length_cons];omega
 have h3:(Vq l).length=2*l.length:=by
  induction l with
  | nil=>rfl
  | cons a r ih=>simp only[Vq,List.flatMap_cons,Uar,List.length_cons,List.length_nil]at ih⊢; omega
 have:=h1 (Vq l) [];simp only[List.length_nil]at this;unfold fsA; omega
theorem Xdy (a b c:Int×Int)(h1:leP a b=true)(h2:leP b c=true):leP a c=true:=by
 unfold leP at *;simp only[Ucd,Uai,Ubp]at *;omega
theorem Xdx (a b:Int×Int):(leP a b||leP b a)=true:=by
 unfold leP;simp only[Ucd,Uai,Ubp];omega
theorem X9j {a b:Int×Int}(h1:leP a b=true)(h2:leP b a=true):a=b:=by
 unfold leP at *;simp only[Ucd,Uai,Ubp]at *;obtain⟨a1,a2⟩:=a;obtain⟨b1,b2⟩:=b;simp only[Ub0]at *;omega
theorem X4g {l l':List (Int×Int)}(h:l.Perm l'):l.mergeSort leP=l'.mergeSort leP:=by
 refine List.Perm.eq_of_pairwise (le:=fun a b=>leP a b=true) (fun a b _ _ h1 h2=>X9j h1 h2) (List.pairwise_mergeSort Xdy Xdx l) (List.pairwise_mergeSort Xdy Xdx l') ?_;exact (List.mergeSort_perm l leP).trans (h.trans (List.mergeSort_perm l' leP).symm)
theorem Ymj (fs:List (Int×Int)):(List.range fs.length).map (atF fs)=fs:=by
 apply List.ext_getElem
 ·simp
 ·intro i h1 h2;simp at h1;simp[atF,List.getD,h1]
theorem Yle {fs:List (Int×Int)}{sn:List Nat}(h:sn.Perm (List.range fs.length)):(sn.map (atF fs)).mergeSort leP=fs.mergeSort leP:=by
 rw[X4g (h.map (atF fs)),Ymj]
end Go.Py
namespace Go.Proofs.YtolkimpelpnpbaaGreatDoor
open Go Go.Ab Go.Lx Go.Sx Go.Py
section
variable {P:Prg} (hP:P.p=Tryz.prog)
include hP
theorem Yeb {m:Nat}{ob:Xb}(hm:(Xd ob m).isSome=true){K:Out->Xb->Prop}(h:K (.ret (.fn 109 [] [.ptr (Xa ob) []])) ((Xa ob,.box 74 (.mp m))::ob)):ACall P 53 [.mp m] ob K:=by
 refine W6 hP mixed Zgh Zk1 TOk.nil fun _ hno=>?_;simp[Zh6];have hml:m<Xa ob:=by
  rcases Uaa m (Xa ob) with h1 | h1
  ·exact h1
  ·rw[X1 ob m h1]at hm; cases hm
 refine⟨[Xa ob],by simp[Xc],?_,by simpa[Xc]using h⟩;have e:¬Xa ob<=m:=by omega
 simp[Xc,e];exact hno _
theorem Xx3 (hL:Xa2 P){ob:Xb}{bx E m:Nat}{fs:List (Int×Int)}(hb:Xd ob bx=some (.box E (.mp m)))(hm:Xd ob m=some (.map (fs.map Uq)))(hn:fs.length<=100000){K:Out->Xb->Prop}
  (h0:fs=[]->K (.ret (.d .nils)) ob) (h:∀i,Xa ob<=i->K (.ret (.sl i (fs.mergeSort leP).length)) ((i,.arr 76 2 ((fs.mergeSort leP).map fD))::ob)) :
  ACall P 52 [.fn 109 [] [.ptr bx []],.fn 54 [] []] ob K:=by
 refine W6 hP mixed Yzb Y4t TOk.nil fun _ hno=>?_;simp[Y0x];refine Xc6 hP hL hb hm hn (fun e=>?_) (fun sn hs hne=>?_)
 ·simp[Xgm];have hfs:fs=[]:=Ubi e;refine Xuj (P:=P) (by rw[hP]; exact Xeo) ?_;simp[Xgl];exact⟨[],by simp,by simpa using hno [],by simpa using h0 hfs⟩
 ·simp[Xgm];have hln:sn.length=(sn.map (atF fs)).length:=by simp
  have hlen:sn.length=fs.length:=by simpa using hs.length_eq
  have hmap:sn.map (fun i=>fD (atF fs i))=(sn.map (atF fs)).map prD:=by simp[fD,prD]
  rw[hmap,hln];refine Ymf (P:=P) (E:=76) (xs:=sn.map (atF fs)) (by rw[hP]; exact Xeo) (by simp; omega) (by simp) ?_;rw[Yle hs];have hl2:(fs.mergeSort leP).length=fs.length:=List.length_mergeSort fs;simp[Xgl];refine⟨[Xa ob+5],by simp[Xc],by simp[Xc]; exact hno _,?_⟩;have:=h (Xa ob+5) (by omega);rw[hl2,<-hlen]at this;rw[show (prD:Int×Int->D)=fD from rfl];simpa[Xc]using this
theorem Xym (hL:Xa2 P){q:RQ}(hq:q.small)(hl:q.form.atoms.length<=1000){ob:Xb}{K:V->Prop}(h:∀d:D,(d=.list 2 ((X7 q).map fD)\/X7 q=[]/\d=.nils)->K (.d d)):PCall P 28 [.d q.enc] ob K:=by
 refine Xg hP mixed (ds:=[q.enc]) Zf3 Zki TOk.nil ?_;have qs:q.enc.shape.size=17:=by rw[RQ.enc,D.shape]; simp[D.shapes]
 simp[Zhq,qs];refine⟨rfl,Yeq hP hq hl (fun d hd=>?_)⟩;have hlen:U8 (.d d)=.d (.int .i64 q.form.atoms.length)/\∀ob,Qz ob (.d d):=by
  rcases hd with rfl | ⟨e,rfl⟩
  ·simp
  ·simp[e]
 refine⟨hlen.2 _,?_⟩;rw[hlen.1];refine ALoop.upto q.form.atoms.length (fun k=>[(1,.ptr 0 []),(3,.mp 1),(12,.d d),(13,.d (.int .i64 q.form.atoms.length)),(14,.d (.int .i64 k))])
  (fun k=>[(1,.map ((fsA q (q.form.atoms.take k)).map Uq)),(0,.box 42 (.d q.enc))]) (fun _=>True) trivial (by simp) (by simp[fsA,Vq]) ?_ ?_
 ·intro k hk _ R rn re rr rp;have wr:IntKind.i64.wrap ((k:Int)+1)=(k:Int)+1:=IntWalk.i64_in _ (by omega);have hst:fsA q (q.form.atoms.take (k+1))=Uo q (Uo q (fsA q (q.form.atoms.take k)) q.form.atoms[k].a) q.form.atoms[k].b:=by rw[Ubj hk,X84]
  obtain rfl:d=.list 11 (q.form.atoms.map RAtom.enc):=by
   rcases hd with rfl | ⟨e,rfl⟩
   ·rfl
   ·rw[e]at hk; simp at hk
  have ag:∀a:RAtom,(match V.d a.enc with | V.d (D.agg xs)=>true | V.agg xs=>true | x=>false)=true:=fun a=>rfl;have tg:∀a:RTerm,(match V.d a.enc with | V.d (D.agg xs)=>true | V.agg xs=>true | x=>false)=true:=fun a=>rfl;simp[Xwy,hk];have hka:q.form.atoms[k].enc=.agg [iD q.form.atoms[k].op,q.form.atoms[k].a.enc,q.form.atoms[k].b.enc]:=rfl;rw[hka];simp;refine⟨rfl,?_⟩;generalize q.form.atoms[k]=a at hst⊢;refine⟨rfl,rfl,rfl,?_⟩;rw[show Uo q (Uo q (fsA q (q.form.atoms.take k)) a.a) a.b=[a.a,a.b].foldl (Uo q) (fsA q (q.form.atoms.take k)) from rfl]at hst;have key:∀(Q:Ze) (ts:List RTerm) (fs0:List (Int×Int)),ts.length=2->
    (∀sl,Xk sl [1,3,12,13,14]=[(1,.ptr 0 []),(3,.mp 1),(12,.d (.list 11 (q.form.atoms.map RAtom.enc))),(13,.d (.int .i64 q.form.atoms.length)),(14,.d (.int .i64 k))]->Q (.exit 2) sl [(2,.box 38 (.d (.agg [iD a.op,a.a.enc,a.b.enc]))),(1,.map ((ts.foldl (Uo q) fs0).map Uq)),(0,.box 42 (.d q.enc))])->
    ALoop [1,3,12,13,14,22,23,24] (Yw P [] Xh5) Q [(1,.ptr 0 []),(3,.mp 1),(12,.d (.list 11 (q.form.atoms.map RAtom.enc))),(13,.d (.int .i64 q.form.atoms.length)),(14,.d (.int .i64 k)),(22,.d (.list 5 (ts.map RTerm.enc))),(23,.d (.int .i64 2)),(24,.d (.int .i64 0))] [(2,.box 38 (.d (.agg [iD a.op,a.a.enc,a.b.enc]))),(1,.map (fs0.map Uq)),(0,.box 42 (.d q.enc))]:=by
   intro Q ts fs0 htl hQ;refine ALoop.upto 2 (fun j=>[(1,.ptr 0 []),(3,.mp 1),(12,.d (.list 11 (q.form.atoms.map RAtom.enc))),(13,.d (.int .i64 q.form.atoms.length)),(14,.d (.int .i64 k)),(22,.d (.list 5 (ts.map RTerm.enc))),(23,.d (.int .i64 2)),(24,.d (.int .i64 j))])
    (fun j=>[(2,.box 38 (.d (.agg [iD a.op,a.a.enc,a.b.enc]))),(1,.map (((ts.take j).foldl (Uo q) fs0).map Uq)),(0,.box 42 (.d q.enc))]) (fun _=>True) trivial (by simp) (by simp) ?_ ?_
   ·intro j hj _ R2 rn2 re2 rr2 rp2;have hjl:j<ts.length:=by omega
    have hj2:(j:Int)<2:=by omega
    have wj:IntKind.i64.wrap ((j:Int)+1)=(j:Int)+1:=IntWalk.i64_in _ (by omega);have hsj:(ts.take (j+1)).foldl (Uo q) fs0=Uo q ((ts.take j).foldl (Uo q) fs0) ts[j]:=by rw[Ubj hjl,Ucs]; rfl
    have tsz:(Sh.node [.leaf,.leaf,.leaf,.leaf,.leaf]).size=5:=rfl;simp[Xwx,hj2,hjl,qs,tsz];refine⟨rfl,rfl,rfl,rfl,?_⟩;refine Xj8 hP ?_;unfold Xdr;cases hf:Yg q ts[j]with
    | none=>
     have hst2:Uo q ((ts.take j).foldl (Uo q) fs0) ts[j]=(ts.take j).foldl (Uo q) fs0:=by unfold Uo; rw[hf]
     simp[fD,Xwz,wj];refine rn2 [] _ _ trivial (by simp) ?_ ?_ ?_
     ·rw[hsj,hst2]; simp[Xc]
     ·simp[Xc]
     ·rw[hsj,hst2]; simp[Xc]; exact Xdo _ _
    | some p=>
     have hst2:Uo q ((ts.take j).foldl (Uo q) fs0) ts[j]=Xjj ((ts.take j).foldl (Uo q) fs0) p:=by unfold Uo; rw[hf]
     simp[fD];refine⟨Xcs p _,?_⟩;rw[show D.agg [D.int .i64 p.1,D.int .i64 p.2]=fD p from rfl,Xjd];simp[Xwz,wj];refine rn2 [] _ _ trivial (by simp) ?_ ?_ ?_
     ·rw[hsj,hst2]; simp[Xc]
     ·simp[Xc]
     ·rw[hsj,hst2]; simp[Xc]; exact Xdo _ _
   ·intro _ R2 re2 rr2 rp2;rw[Ubk (by omega)];simp[Xwx];refine re2 _ _ _ (hQ _ (by simp))
  refine key _ [a.a,a.b] _ rfl (fun sl hsl=>?_);simp only[Xk,Ua1,Ub0,true_and,Ua2]at hsl;obtain⟨g1,g2,g3,g4,g5⟩:=hsl;simp[g1,g2,g3,g4,g5,wr];refine rn [] _ _ trivial (by simp) ?_ ?_ ?_
  ·rw[hst]; simp[Xc]
  ·simp[Xc]
  ·rw[hst]; simp[Xc]; exact Xdo _ _
 ·intro _ R re rr rp;simp[Xwy];refine re _ _ _ ?_;simp;refine Yeb hP (by simp) ?_;simp;have hn:(fsA q q.form.atoms).length<=100000:=by have:=X0w q q.form.atoms; omega
  refine Xx3 hP hL (bx:=2) (E:=74) (m:=1) (fs:=fsA q q.form.atoms) (by simp) (by simp) hn (fun e=>?_) (fun i hi=>?_)
  ·have hh:=h .nils (.inr ⟨by unfold X7; rw[e]; simp,rfl⟩);simp;exact hh
  ·have hh:=h _ (.inl rfl);simp;exact hh
end
end Go.Proofs.YtolkimpelpnpbaaGreatDoor
namespace Go.Py
open Go Go.Ab Go.Lx Go.Sx
def Y0 (y:RSrc)(p:Int×Int):RRef:=match y.schemas[p.1.toNat]? with
 | some c=>(match c.fields[p.2.toNat]? with | some f=>⟨c.name,f.name,p.1,p.2⟩ | none=>⟨c.name,[],p.1,p.2⟩)
 | none=>⟨[],[],p.1,p.2⟩
theorem Xb4 (y:RSrc)(p:Int×Int):refP (Y0 y p)=p:=by
 unfold Y0 refP;split
 ·split<;>rfl
 ·rfl
theorem Yh6 {q:RQ}{l:List RAtom}{p:Int×Int}:p∈fsA q l↔∃a∈l,Yg q a.a=some p\/Yg q a.b=some p:=by
 have key:∀(l:List RTerm) (fs:List (Int×Int)),p∈l.foldl (Uo q) fs↔p∈fs\/∃t∈l,Yg q t=some p:=by
  intro l;induction l with
  | nil=>simp
  | cons t r ih=>
   intro fs;rw[List.foldl_cons,ih];have:p∈Uo q fs t↔p∈fs\/Yg q t=some p:=by
    unfold Uo;cases hf:Yg q t with
    | none=>simp
    | some x=>
     simp only[Xco,Uaq];constructor
     ·rintro (h | h)
      ·exact .inl h
      ·exact .inr h.symm
     ·rintro (h | h)
      ·exact .inl h
      ·exact .inr h.symm
   rw[this];simp only[Uax,exists_eq_or_imp,or_assoc]
 unfold fsA;rw[key];simp only[List.not_mem_nil,false_or,Vq,List.mem_flatMap,Uax,or_false];constructor
 ·rintro⟨t,⟨a,ha,rfl | rfl⟩,ht⟩
  ·exact⟨a,ha,.inl ht⟩
  ·exact⟨a,ha,.inr ht⟩
 ·rintro⟨a,ha,h | h⟩
  ·exact⟨_,⟨a,ha,.inl rfl⟩,h⟩
  ·exact⟨_,⟨a,ha,.inr rfl⟩,h⟩
theorem X1v {q:RQ}{p:Int×Int}:p∈X7 q↔∃a∈q.form.atoms,Yg q a.a=some p\/Yg q a.b=some p:=by
 unfold X7;rw[List.mem_mergeSort,Yh6]
theorem W9 (q:RQ):(X7 q).length<=2*q.form.atoms.length:=by
 unfold X7;rw[List.length_mergeSort];exact X0w q _
theorem Xg5 {y:RSrc}{q:RQ}{t:RTerm}(hv:Xax y q.vars)(ht:(refO y q.vars t).isSome=true\/t.isNum=true){p:Int×Int}(h:Yg q t=some p):inR y p:=by
 rcases ht with ht | ht
 ·obtain⟨r,hr⟩:=Ua3.1 ht;have hin:=Jo (fun v hv'=>hv v hv') hr;obtain⟨i,hi,s,hs,g,hg,e1,_,e3,e4,e5,e6,_⟩:=Qb hr;unfold Yg at h;rw[Ubo (by omega)]at h;have e7:q.vars[t.var.toNat]? = some q.vars[i]:=by
   have:t.var.toNat=i:=by omega
   rw[this]; exact Ubf hi
  rw[e7]at h;simp only[Option.map_some,Uaq]at h;have:p=r:=by rw[<-h]; exact Prod.ext e3 (by simp only; omega)
  rw[this]; exact hin
 ·unfold RTerm.isNum at ht;simp only[Uai,Ubp]at ht;unfold Yg at h;rw[Uby (by omega)]at h;cases h
theorem Zd {y:RSrc}{q:RQ}(hc:Yc y q=true):Xax y q.vars/\q.form.atoms.length<=8/\∀a∈q.form.atoms,Wk y q.vars a=true:=by
 simp only[Yc,Uai]at hc;obtain⟨h1,h2⟩:=hc;obtain⟨a1,a2,a3⟩:=Xl6 y q.vars q.form 1 (0,0) (by simp) h2;exact⟨(Xaw h1.2).1,by simp only at a1; omega,a3⟩
theorem X6j {y:RSrc}{q:RQ}(hc:Yc y q=true):∀p∈X7 q,inR y p:=by
 intro p hp;obtain⟨hv,_,ha⟩:=Zd hc;obtain⟨a,ham,h⟩:=X1v.1 hp;have hb:=ha a ham;unfold Wk at hb;simp only[Uai,Ucd]at hb;rcases h with h | h
 ·exact Xg5 hv (by simpa using hb.1.1.1.1.2) h
 ·exact Xg5 hv (by simpa using hb.1.1.1.2) h
end Go.Py
namespace Go.Proofs.YtolkimpelpnpbaaGreatDoor
open Go Go.Ab Go.Lx Go.Sx Go.Py
section
variable {P:Prg} (hP:P.p=Tryz.prog)
include hP
theorem Yms {y:RSrc}(hy:y.small){l:List (Int×Int)}(hl:l.length<=100000)(hin:∀p∈l,inR y p){x:D}(hx:x=.list 2 (l.map fD)\/l=[]/\x=.nils){ob:Xb}{K:V->Prop}(h:K (.d (.list 4 ((l.map (Y0 y)).map RRef.enc)))):PCall P 27 [.d y.enc,.d x] ob K:=by
 refine Xg hP mixed (ds:=[y.enc,x]) Zf2 Zkh TOk.nil ?_;have hlen:U8 (.d x)=.d (.int .i64 l.length)/\∀ob,Qz ob (.d x):=by
  rcases hx with rfl | ⟨e,rfl⟩
  ·simp
  ·simp[e]
 simp[Zhp];refine⟨hlen.2 _,?_⟩;rw[hlen.1];refine ALoop.upto l.length (fun k=>[(2,.ptr 0 []),(4,.sl 1 k),(8,.d x),(9,.d (.int .i64 l.length)),(10,.d (.int .i64 k))])
  (fun k=>[(1,.arr 56 4 ((l.take k).map fun p=>(Y0 y p).enc)),(0,.box 29 (.d y.enc))]) (fun _=>True) trivial (by simp) (by simp) ?_ ?_
 ·intro k hk _ R rn re rr rp;have wr:IntKind.i64.wrap ((k:Int)+1)=(k:Int)+1:=IntWalk.i64_in _ (by omega);obtain rfl:x=.list 2 (l.map fD):=by
   rcases hx with rfl | ⟨e,rfl⟩
   ·rfl
   ·rw[e]at hk; simp at hk
  obtain⟨s,hs,g,e1,e2,hg⟩:=hin _ (Uba hk);have hst:(l.take (k+1)).map (fun p=>(Y0 y p).enc)=(l.take k).map (fun p=>(Y0 y p).enc)++[(Y0 y l[k]).enc]:=by rw[Ubj hk,Uca]; rfl
  have hr:(Y0 y l[k]).enc=.agg [.str y.schemas[s].name,.str y.schemas[s].fields[g].name,iD s,iD g]:=by
   unfold Y0;rw[e1,e2];simp only[Int.toNat_natCast,Ubf hs,Ubf hg];rfl
  have s0:¬(s:Int)<0:=by omega
  have g0:¬(g:Int)<0:=by omega
  simp[Xww,hk,fD,RSrc.enc,e1,e2,hs,hg,s0,g0,RSchema.enc];have hfe:y.schemas[s].fields[g].enc=.agg [.str y.schemas[s].fields[g].name,y.schemas[s].fields[g].type.enc,.agg [iD y.schemas[s].fields[g].w0,iD y.schemas[s].fields[g].w1,iD y.schemas[s].fields[g].w2,iD y.schemas[s].fields[g].w3]]:=rfl;rw[hfe];have hlk:min k l.length=k:=by omega
  simp[hlk,wr];refine⟨by omega,?_⟩;rw[hr]at hst;refine rn [] _ _ trivial (by simp) ?_ ?_ ?_
  ·simp only[hst];simp[Xc,RSrc.enc]
  ·simp[Xc]
  ·simp[Xc]
 ·intro _ R re rr rp;simp[Xww];refine re _ _ _ ?_;simp;have:(l.map (Y0 y)).map RRef.enc=l.map fun p=>(Y0 y p).enc:=by simp
  rw[this]at h;exact h
end
end Go.Proofs.YtolkimpelpnpbaaGreatDoor
namespace Go.Proofs.YtolkimpelpnpbaaGreatDoor
open Go Go.Ab
def Yb5:Nat:=0x15d91848e130900b261c193fc0055c02a700202b10705eb7fb323483a806754566cce85c015490679f0aa18f
def n22:Nat:=0x11c60682e368b5d92b056324c282
def Zbr:S:=zS [(zS [] Yb5)] n22
theorem Zpq:Xi Tryz.prog 22 2 Zbr [.t 4]=true:=by kernel_rfl
def n43:Nat:=0x10b00101a500f71191e5a65a185d00739935d13a00d35124cb2d03816e
def Zb0:S:=zS [] n43
theorem Zpy:Xi Tryz.prog 43 2 Zb0 [.t 4]=true:=by kernel_rfl
end Go.Proofs.YtolkimpelpnpbaaGreatDoor
namespace Go.Proofs.YtolkimpelpnpbaaGreatDoor
open Go Go.Ab
def Xoi:S2:=zL [] [] Yb5
def Xwu:=(by cbv:Xoi=_)
def Zc8:S2:=zL [] [Xoi] n22
def Zhm:=(show Zc8=_ from (fun (a:S2)=>(by cbv:zL [] [a] n22=_)) Xoi)
theorem Zke:Zbr.lift []=some Zc8:=by kernel_rfl
def Zdr:S2:=zL [] [] n43
def Zh1:=(by cbv:Zdr=_)
theorem Zkw:Zb0.lift []=some Zdr:=by kernel_rfl
end Go.Proofs.YtolkimpelpnpbaaGreatDoor
namespace Go.Py
open Go Go.Ab Go.Lx Go.Sx
theorem Xkd {y:RSrc}{q:RQ}(hc:Yc y q=true):(q.form.okS y q.vars 1 (0,0)).1=true:=by
 simp only[Yc,Uai]at hc;exact hc.2
def inP (l:List RRef)(r:RRef):Bool:=decide (refP r∈l.map refP)
theorem X88 {l:List RRef}{r:RRef}:inP l r=true↔refP r∈Yn l:=by
 unfold inP;rw[Ubp,Xli,Ua5]
end Go.Py
namespace Go.Proofs.YtolkimpelpnpbaaGreatDoor
open Go Go.Ab Go.Lx Go.Sx Go.Py
section
variable {P:Prg} (hP:P.p=Tryz.prog)
include hP
theorem Zim (r s:RRef){ob:Xb}{K:V->Prop}(h:K (.d (.bool (decide (refP r=refP s))))):PCall P 43 [.d r.enc,.d s.enc] ob K:=by
 refine Xg hP mixed (ds:=[r.enc,s.enc]) Zpy Zkw TOk.nil ?_;have e:decide (refP r=refP s)=if r.schema=s.schema then decide (r.field=s.field) else false:=by
  unfold refP;rw[Ucl];by_cases h1:r.schema=s.schema<;>simp[h1]
 rw[e]at h;simp[Zh1,RRef.enc];by_cases h1:r.schema=s.schema
 ·simp[h1]at h⊢; exact h
 ·simp[h1]at h⊢; exact h
theorem Y07 {l:List RRef}(hl:l.length<=9223372036854775807){x:D}(hx:x=.list 4 (l.map RRef.enc)\/l=[]/\x=.nils)(r:RRef){ob:Xb}{K:V->Prop}(h:K (.d (.bool (inP l r)))):PCall P 22 [.d x,.d r.enc] ob K:=by
 refine Xg hP mixed (ds:=[x,r.enc]) Zpq Zke TOk.nil ?_;have hlen:U8 (.d x)=.d (.int .i64 l.length)/\∀ob,Qz ob (.d x):=by
  rcases hx with rfl | ⟨e,rfl⟩
  ·simp
  ·simp[e]
 simp[Zhm];refine ALoop.upto l.length (fun k=>[(0,.d x),(3,.ptr 0 []),(5,.d (.int .i64 k))])
  (fun _=>[(0,.box 56 (.d r.enc))]) (fun k=>∀i,(hi:i<l.length)->i<k->refP l[i] ≠ refP r) (fun i _ h=>absurd h (by omega)) (by simp) (by simp) ?_ ?_
 ·intro k hk hI R rn re rr rp;have wr:IntKind.i64.wrap ((k:Int)+1)=(k:Int)+1:=IntWalk.i64_in _ (by omega);obtain rfl:x=.list 4 (l.map RRef.enc):=by
   rcases hx with rfl | ⟨e,rfl⟩
   ·rfl
   ·rw[e]at hk; simp at hk
  have rs:∀s:RRef,s.enc.shape.size=4:=fun s=>rfl;simp[Xwu,hk,rs];refine⟨rfl,⟨rfl,rfl⟩,rfl,⟨rfl,rfl⟩,?_⟩;refine Zim hP _ _ ?_;by_cases e:refP l[k]=refP r
  ·have hb:inP l r=true:=by
    unfold inP;rw[Ubp,<-e];exact Ua5.2 ⟨_,Uba hk,rfl⟩
   rw[hb]at h;simp[e];refine rr _ _ ?_;simp;exact h
  ·simp[e,wr];refine rn [] _ _ (fun i hi h1=>?_) (by simp) (by simp[Xc]) (by simp[Xc]) (by simp[Xc]);by_cases e2:i=k
   ·subst e2; exact e
   ·exact hI i hi (by omega)
 ·intro hI R re rr rp;have hb:inP l r=false:=by
   unfold inP;rw[Ucc,Ua5];rintro⟨s,hs,e⟩;obtain⟨i,hi,rfl⟩:=Ub5.1 hs;exact hI i hi hi e
  rw[hb]at h;simp[Xwu,hlen.1];refine⟨hlen.2 _,?_⟩;refine re _ _ _ ?_;simp;exact h
end
end Go.Proofs.YtolkimpelpnpbaaGreatDoor
namespace Go.Proofs.YtolkimpelpnpbaaGreatDoor
open Go Go.Ab
def n29:Nat:=0x1a0489001912601903800101812b0110b333c1497bd46d2eb3f204dcdf7bd01516359cd7f05a0130fd015d7f1b008b013d7f2170900161474752178e914747505a010b3d12b00ba084f816dbe900d126be900c1630211bebe98e72765c50f200912b007a0854716dc5135b0078dd044046b0b0b391f44627504347204ac8912b13005804414400c0021ea847cb10640381328477d692903314b08b03533225206104e14784700603601e8471200001290091130010375e89a391227801e0843b51c16ed34e1ee2270c904d04e02294341a19e10aada92a02a0b402a02f025ad901e0f800103100e02bbfd04809002c26d08dc160290aaad704176f0a70256550231f50e302426ddcc8867fc02107a5ea02014930d42105dcdf30d01e0a930d6bd01c14b08b04e30d4af07a01400801901625129f01804f29f0170a901414b53929f0150a929f5668c425407a00f1a838306fcd5566e0500905003738d3ba7cd01807104604d50084c8ba0936010404e209adb2
def Zbu:S:=zS [] n29
theorem Zpt:Xi Tryz.prog 29 2 Zbu [.t 4]=true:=by kernel_rfl
def n33:Nat:=0x164905e21a1070d093e09a8f5915192
def Zbx:S:=zS [] n33
theorem Zpw:Xi Tryz.prog 33 1 Zbx [.t 2]=true:=by kernel_rfl
def Yc1:Nat:=0x1000600014087aa404320201e3e560001c10b01b015000a7346f21a00e0198663675e8768dbc00326e7f50cf51501222100401100e11475d6647b900483a169
def X22:Nat:=0x111a01d0880885196000ea60022f002
def n63:Nat:=0x11e43bb00d10b00c149a73687db61f116693e06f2964f74e431d7ea0a7939391d6c00510b11d00b02600603106b8f58ce192
def Zca:S:=zS [(zS [(zS [] Yc1)] X22)] n63
theorem Zp8:Xi Tryz.prog 63 1 Zca [.t 2]=true:=by kernel_rfl
def Ycx:Nat:=0x100083200d0077820430063a83e58321320db14407a130008135149252c5825208c375c920460331f604a1c612904f0310b10640e602c07a02900899900c0317473a68cf00230c1010003a6101b4bd6a02b04202dd6a1a202bd6a72202f4493a604900102c4493a602863c07a0241a80266488f10a92b300723795ca4107a0510211491e62a20371be1e601f0a91e60491b67ab30268276a00c01d74712150800203acdf12153033212100695aa6acc712122484a00989d03700e645379661278aa97892590196ed34e1dc4f91060209430b1158011a1e8ef47a1cf05e098105006b1713411244d0671582391143760eb14e18f
def n56:Nat:=0x10b00050441a50041638060035b50015492c900152204b05a35c8b67c32408320ea8322b04a818d39882e
def Zb5:S:=zS [(zS [] Ycx)] n56
theorem Zp3:Xi Tryz.prog 56 2 Zb5 [.t 4]=true:=by kernel_rfl
def Ycy:Nat:=0x14a800c006529b88c3a015569338a911168fe3d547e0980032bd2ad0020e3a0d1121e1a911ee1146f80020e31460aa169
def n57:Nat:=0x13c000515107f4a82b040406582e
def Zb6:S:=zS [(zS [] Ycy)] n57
theorem Zp4:Xi Tryz.prog 57 2 Zb6 [.t 4]=true:=by kernel_rfl
def Ycz:Nat:=0x1000a110350b30a4721ac0035d4334f03e12603ec449044de00903c04496081904d43e03b1630d09f203976203c5d4a8c1b20370de6d20cc5a00010380cc1c55c006400966c033126033c4490493bb9b1140310ee0300f55a00950cc169
def n58:Nat:=0x153ba110eaa112b023402e12602e17606115312b7b805810104468105894206502b5188b102a1488b18438b16590409421240277da9420262130251b008d9420241aa43c0180b3022aaa9027fa79760916d59e02012659e01f21301c1b023759e01d21359e9e559e01b0fd7fa07901aba57fa0191487fa8437fa0170f2124016307ca819801614701aa050141260141762a301312b00fa083f216d88901112688901021300f1b023788900e0f200d12b9b23a91fa043a2717a05aa8717a5c516300b3cb1b00bf17a4431aa9f68060061682a31b079e05a1020f12171aa9a613200817b001518b09a0eb59cb41c3135123c2e198035020019071977130283e1b10aae403c994c8e24e06e02d69d24a1e324a7d999c0a802b0271a802a0e02d502905eafe07302714b8da8f21090250d9688537011041bc28dc2a331d0220d99f41988cb1b897702028301f01b177059a27001115a8700161a24e06e1150051b1c37019cd90180e00da01705e7880730da5a00014780a801300e4330102ee21401105e2141e38e607321484361310900c1604a25375341e10052a343d0090d93711984401b8e04028ded
def Zb7:S:=zS [(zS [] Ycz)] n58
theorem Zp5:Xi Tryz.prog 58 3 Zb7 [.t 6]=true:=by kernel_rfl
def X11:Nat:=0x148d1848e130900bc3a013569d0c0c50bd8fe664445b3234800d1f6112ce80c515490679f0aa18f
def Y4z:Nat:=0x13c0e27354
def Ynz:S:=zS [(zS [] X11)] Y4z
theorem Y5s:Xi Tryz.prog 114 2 Ynz [.t 4]=true:=by kernel_rfl
def X12:Nat:=0x14a800c006529b88c3a015569338a911168fe3d547eb5b2bd2ad085a0d1121e1a911ee1146f813a0050aa169
def Y40:Nat:=0x13c000515107f4a82b040406582e
def Yn0:S:=zS [(zS [] X12)] Y40
theorem Y5t:Xi Tryz.prog 115 2 Yn0 [.t 4]=true:=by kernel_rfl
def Zep:Nat:=0x11e068128365901f0b302712b02490283f4bb02515f01c9a10244430f104e02405a60202405a0230fd83f15b3700e083f02114883f0201ed00101f1b069783f01e0f201d12b01a0b352001b15f01c17c26905a04964701a05a60201a05a99e05227c0d90170f50161ed00506e0171470153bd34101512601508a0c919e0742eb0118060135187bd0121487bdb597bd010cbf3ca12300e0f519808626da0500d12600d08a0c919e0743a90070b31fa104c512509b21d101b543c5113305e2ff05a04905e2ff05a1b25278dd1aa005163cb90045180012170f5ae31ed06e1b055834a0000fd05213212314404b13508500506e03602001117f0080c91bb13f0085900ae9bb1f317c120947697032287a11113a1e19300047a9991f317c1019470c807a134041234b290052a302b07a0213e202a02605833115b0290e035702886a0278da02614b697b6d04033115b0242623310230a93310222373319e533144901faa71771492353b501a0030199a123501c06cb1d14b006293235224235602dc9a17016c690151160030199a155106c04e0f99e50f92240f9602a768bf5e000e16dca300c14b08d3fb1c388a33e1984e2024071e04026ded
def Yn1:S:=zS [] Zep
theorem Y5u:Xi Tryz.prog 116 3 Yn1 [.t 6]=true:=by kernel_rfl
def Ze3:Nat:=0x11e02ab283019168d234f80e02db33c41900f1d102037c2db0160fd0184be2db0141482db0131ed0012db3f299b0b52db0110fd0134be2db7d92db00d0fd086142cdb06e017147001cdb8da2db97d79ccdb1b12db1fa1092501600090f57fc00a14711621200c16c06700d1dc10601307e34f8670081762a3007b0bbab0440090431b016303746c5710f59ce537043c8912b1440080d17da03603d1320a903614b68c03603d13500013fb000089bb1ec1efadd3321ef9721efc341ef1010f89511efc7502f33202b62003344902bd0e1ef2249f1926ae97ce01002a7478f17af3322b35382b3001b69000024d0e95c109022114021b768cb27831801c17030840f0100f60111a954a0f01060202e297702028301f5ea81e01e10730d98a01c808dfb0171a80193058a9073017808df582a05506186001269da5105802fdf28436120408be0d900a6afb2ece82a315b0080d90071f50851b8e04024ded
def Ypw:S:=zS [] Ze3
theorem Y7o:Xi Tryz.prog 209 3 Ypw [.t 6]=true:=by kernel_rfl
def Ze4:Nat:=0x15f05ca16000e047672cc12ad55c760105c4e3ff94f0100205db04037bc212b507e3c95ca22d05f10806b57d00792b15b3d600539931e8fa355b24282
def Ypx:S:=zS [] Ze4
theorem Y7p:Xi Tryz.prog 210 2 Ypx [.c 4 4 true]=true:=by kernel_rfl
def Ze6:Nat:=0x10b00180870179ed17b0162620da1984781c30130d965e50f0464e00db3d58130c81f71844b0bd71a60090f0006008aeb0ad33501f94f98022544008539100e1314647a005d00e0451e224c80e
def Ypz:S:=zS [] Ze6
theorem Y7r:Xi Tryz.prog 212 2 Ypz [.t 4]=true:=by kernel_rfl
def X2m:Nat:=0x12a540e7a10a46416832611e001fb0f1de3721f64653fe00b37501b8c70411c11840b493d0161a619093f0135ff0148a41123560074654df1142c02ad00c1a607d1713cb399007b86071
def Y5a:Nat:=0x11e015b0fe06800740e0ea00740e2b02670650aad24
def Yq9:S:=zS [(zS [] X2m)] Y5a
theorem Y82:Xi Tryz.prog 280 3 Yq9 [.t 6]=true:=by kernel_rfl
def Yb8:Nat:=0x10008363a7316ac0010793
def Yb9:Nat:=0x106f8361200db1290293f943e11302b02a1bb43e10a06c76e8e714a00702b01f1015580e40f8a3402d01e0ba36a00706406721500b7f2b266a0065027160026ad6085024558b47a3402350f
def X2q:Nat:=0x1bcd8360210db0200183f943e01f11c1bb03827706c2788e714a6ab4210c82a8a3495a0ba36a00706406721500b5ae8a86a00650161609590850130c85c8a3401250f15805d08c20d6a0229b3a1052a5cd3
def n30:Nat:=0x10b013021b0345198360ea8369fa0672e400a0aa1040215067cc0ac3c29b411d97b03006b12e7d4561
def Zbv:S:=zS [(zS [(zS [] Yb9),(zS [] Yb8)] X2q)] n30
theorem Zpu:Xi Tryz.prog 30 2 Zbv [.t 4]=true:=by kernel_rfl
def Ycc:Nat:=0x10005bf0170080a4016ac001782d8830b110b436019b6890f0f1579c4d76a1053ae01b29506e01926d0b1001ab90ab0cf5910b1004dd21052a549b18f
def n32:Nat:=0x10b0024087937abc0221f5aac1050211342405bf0ea5bf9fa3620110aa2a7934bfb0105b03c200e2e3c1c25e00d1a13640a700b65533e0080e3047040440009d98
def Zbw:S:=zS [(zS [] Ycc)] n32
theorem Zpv:Xi Tryz.prog 32 2 Zbw [.t 4]=true:=by kernel_rfl
def Yc0:Nat:=0x15d90179f5016309b4f53e59100506f63e57500811600203d994214061ae22141baae22142a70048c18f92140fc613000364b1379f1a31a926600c2e2
def n59:Nat:=0x1058647e3e6470407d19160b76dd226e3e05e01de14226dfce140b587b1d2dbf9162e20618b00bae3e05e01d6dd226dfce140b587b1d20618b00badfc6dd0061a120745801863d1d2dbf91694302100102065f00a06c17a04e021051c27b1d65f90404504e5d0dc30682e368b0025d9b982baceb0410414f76215e4016107647cdd1fb7d424c282
def Zb8:S:=zS [(zS [] Yc0)] n59
theorem Zp6:Xi Tryz.prog 59 2 Zb8 [.t 4]=true:=by kernel_rfl
def n60:Nat:=0x11e0026006202025b6c00201c55216a67202404202601f5d208550a10501f95bddc01b8c7041cd0c4d8d801801fd5f2fe0900253fa0470200201d201e3fa0900193130c30173130400150205a4c1a09b2390b1061aa04bc0142050b10c30137c8e2801100a17191c00f0851f71054b06872c64f12a99f39801d200c26d0851f044000e51c0f00752e3aa22052f30043555be0241ba2f9469
def Zb9:S:=zS [] n60
theorem Zp7:Xi Tryz.prog 60 3 Zb9 [.c 6 4 true]=true:=by kernel_rfl
def Zeq:Nat:=0x18c608701607a00a3e201501005818c1dd2eee1e3a1e013d77a704018cc5f2de2ad2de5db2de4a22de13a2de35f00690639935d13a01435124cb2d03816e
def Yn2:S:=zS [] Zeq
theorem Y5v:Xi Tryz.prog 117 2 Yn2 [.t 4]=true:=by kernel_rfl
def Ze5:Nat:=0x11e001e28301d4df01c01616002237c19a3de017b6c03b01d02c00119a2e7011b6c03b01702c00119a01a04201c8295308291b2018829d5f8290120420148297d919a1b201114200f14b09001b2a200f14b0470192a219a9af0152a219a1d20132a2b890a800d239abb02137c18c0b205e2917d918c35f3460213374960482e11c11f900f1ddd0152801301122941a1060191a486b205aa3b4dd7d
def Ypy:S:=zS [] Ze5
theorem Y7q:Xi Tryz.prog 211 3 Ypy [.t 6]=true:=by kernel_rfl
def Zfi:Nat:=0x10b00201a501f0161778ab1331213b514003a03c1be21d01c0a901a14b68c21d96357804212115b0180e0acc073121cb03fd00022a14003903c5c160108b292c9c6432284b725e34711402333701098f00eddd00e7941d332c20100b2a61541bb03803c54c98f007ddd00750256a24c80e
def Yra:S:=zS [] Zfi
theorem Y83:Xi Tryz.prog 281 2 Yra [.t 4]=true:=by kernel_rfl
def Zfj:Nat:=0x10584030440aa00212b135be5132adf03c1be36f00021303514b539cce0a936f0045399c1c0a130123be61b503302000bcec1290aa113d7010a020cd61010270e01860e48270f81b118602b029cf4df7142186bbd02a1421860268270251b1dd3cf4b93142afc91314202014b0c302bcd1061001029cd19d0024cd19c4c2804019f074aa905892301d30561a803cb0457dd50192518a9d14c57df50125b80550618600128087860420520100d96640c30753b89122783180849f00133de1ddd1e02404520d37490000d0d9c501b5b6b1b823444dbf923912333e1024e509a169046b9c14ccb6d7d
def Yrb:S:=zS [] Zfj
theorem Y84:Xi Tryz.prog 282 3 Yrb [.t 6]=true:=by kernel_rfl
def Zfk:Nat:=0x11e00102f400f2e100e0c809b18405dbd71a607c17125739957f00640e2f52e9d24
def Yrc:S:=zS [] Zfk
theorem Y85:Xi Tryz.prog 283 3 Yrc [.c 6 6 true]=true:=by kernel_rfl
def Zfn:Nat:=0x11e001e28301d01400801c0152ee29f01b05e29f96a29f01913d29f36717108103d1e329f01607329f5db08103d2b68c40a80120101a80bd0611392b67a70a800e07c3362eeb6105e1b400b9fc2b21b41e31b4008109007160b1d0412670740aad24
def Yrx:S:=zS [] Zfn
theorem Y9q:Xi Tryz.prog 312 3 Yrx [.t 6]=true:=by kernel_rfl
def Zfo:Nat:=0x11c60d76470721a583c03c0b3986420c4803c05a03d14803c83503c05a03b1aa9f20360b333f0395b5ba10382c9ba1037148036835ba10351aa721030949b51305b7d0322c9b7d031148030835b7d02f1aab2f02bcb97d50e002b05a02c14802b21713d02b05a02a1aa6810220b365937f0e062607956f1a16260262c96260251480228356260231486262b2626797109020307631bcc020147b0801d12601d03804d60901e5590520062a99250b05201a54320173ed2ab0e03ab0192c93ab0181480178353ab0161aab8ccb92eb0e0bdc14801221713d6660111aa9f90b3ddb3ca0e05af00e1485af2b25af3a91091fa0d92500d37a4147014041d360060906d3d1212400607d9250b09cc1a500615f3ed00530704c5710ee04c217b7821725604c5221aa35c1355b81320e0cce07336f4389c10a81301138169fd1200e0cacd192b2c8d10910100b8d00d345c02001404102b04fa9c09002c0f801e17b00600b02d51a0b002a1a50290251a8028d3102705eb250732bcd0d2bc0240a8aab0083192ee3d302105e3d30200733d38253d301e0733d34383d301c0a801b4ef15b01a3056cf4384d8013dc40151074c30140734c32b2bdb0a8011ac13ce107b6307315c2b27c607315c9c4c7000a160009bcc4e2b0857d0f02e416b0a4006760b531d404d19e30306b0021e214c80e
def Yry:S:=zS [] Zfo
theorem Y9r:Xi Tryz.prog 313 2 Yry [.t 4]=true:=by kernel_rfl
def Zfp:Nat:=0x10b00291a502826d0790270e018602682702513ddd3cf49ab02069dafc827825c280a801e4ef7892ee16401c05e6d982555307301869d4d80131a80153054c301407301369dbdb0a801100edf40101078e607300e8086131c300c16000b1f50c37cd02004164300a0e34a650d0060939240c90060eb04b0642ff31339882e
def Yrz:S:=zS [] Zfp
theorem Y9s:Xi Tryz.prog 314 2 Yrz [.t 4]=true:=by kernel_rfl
def X2r:Nat:=0x148d8a131630901082d6038b90c58c5123a57a5d0162be3e726e0121ba34843f38266c20d0054adb3a79fcd3
def Y5c:Nat:=0x12d3e273f8
def Yr0:S:=zS [(zS [] X2r)] Y5c
theorem Y9t:Xi Tryz.prog 315 2 Yr0 [.t 4]=true:=by kernel_rfl
def X2w:Nat:=0x10008fa00f08707946c00400f6a632f92b3cf0d9e2308b1f040b08b1b543107e0052866f192b2c211406f3cc178
def Xp4:Nat:=0x11fb00a0040a400975c25b3e500a8fa4858fa22f0cf4f76210c900d0a700404a0db18f
def Y5f:Nat:=0x172e1e453d1fb2b0562
def Yr2:S:=zS [(zS [(zS [] X2w)] Xp4)] Y5f
theorem Y9v:Xi Tryz.prog 325 1 Yr2 [.t 2]=true:=by kernel_rfl
end Go.Proofs.YtolkimpelpnpbaaGreatDoor
namespace Go.Proofs.YtolkimpelpnpbaaGreatDoor
open Go Go.Ab
def Zdd:S2:=zL [] [] n29
def Zhr:=(by cbv:Zdd=_)
theorem Zkj:Zbu.lift []=some Zdd:=by kernel_rfl
def Zdh:S2:=zL [] [] n33
def Zhv:=(by cbv:Zdh=_)
theorem Zkn:Zbx.lift []=some Zdh:=by kernel_rfl
def Xii:S2:=zL [] [] Yc1
def Xxp:=(by cbv:Xii=_)
def Xpg:S2:=zL [] [Xii] X22
def Xxq:=(show Xpg=_ from (fun (a:S2)=>(by cbv:zL [] [a] X22=_)) Xii)
def Zd7:S2:=zL [] [Xpg] n63
def Zag:=(show Zd7=_ from (fun (a:S2)=>(by cbv:zL [] [a] n63=_)) Xpg)
theorem Zlb:Zca.lift []=some Zd7:=by kernel_rfl
def Xpd:S2:=zL [] [] Ycx
def Xxm:=(by cbv:Xpd=_)
def Zd0:S2:=zL [] [Xpd] n56
def Zh9:=(show Zd0=_ from (fun (a:S2)=>(by cbv:zL [] [a] n56=_)) Xpd)
theorem Zk4:Zb5.lift []=some Zd0:=by kernel_rfl
def Xpe:S2:=zL [] [] Ycy
def Xxn:=(by cbv:Xpe=_)
def Zd1:S2:=zL [] [Xpe] n57
def Zia:=(show Zd1=_ from (fun (a:S2)=>(by cbv:zL [] [a] n57=_)) Xpe)
theorem Zk5:Zb6.lift []=some Zd1:=by kernel_rfl
def Xih:S2:=zL [] [] Ycz
def Xxo:=(by cbv:Xih=_)
def Zd2:S2:=zL [] [Xih] n58
def Xjq:=(show Zd2=_ from (fun (a:S2)=>(by cbv:zL [] [a] n58=_)) Xih)
theorem Zk6:Zb7.lift []=some Zd2:=by kernel_rfl
def Xhl:S2:=zL [] [] X11
def Xqt:=(by cbv:Xhl=_)
def Ys6:S2:=zL [] [Xhl] Y4z
def Yzq:=(show Ys6=_ from (fun (a:S2)=>(by cbv:zL [] [a] Y4z=_)) Xhl)
theorem Y25:Ynz.lift []=some Ys6:=by kernel_rfl
def Xhm:S2:=zL [] [] X12
def Xqu:=(by cbv:Xhm=_)
def Ys7:S2:=zL [] [Xhm] Y40
def Yzr:=(show Ys7=_ from (fun (a:S2)=>(by cbv:zL [] [a] Y40=_)) Xhm)
theorem Y26:Yn0.lift []=some Ys7:=by kernel_rfl
def Ys8:S2:=zL [] [] Zep
def Ydr:=(by cbv:Ys8=_)
theorem Y27:Yn1.lift []=some Ys8:=by kernel_rfl
def Ytu:S2:=zL [] [] Ze3
def Xjp:=(by cbv:Ytu=_)
theorem Y3s:Ypw.lift []=some Ytu:=by kernel_rfl
def Ytv:S2:=zL [] [] Ze4
def Yl6:=(by cbv:Ytv=_)
theorem Y3t:Ypx.lift []=some Ytv:=by kernel_rfl
def Ytx:S2:=zL [] [] Ze6
def Yz8:=(by cbv:Ytx=_)
theorem Y3v:Ypz.lift []=some Ytx:=by kernel_rfl
def Xh3:S2:=zL [] [] X2m
def Xq8:=(by cbv:Xh3=_)
def Yuc:S2:=zL [] [Xh3] Y5a
def Y0i:=(show Yuc=_ from (fun (a:S2)=>(by cbv:zL [] [a] Y5a=_)) Xh3)
theorem Y4a:Yq9.lift []=some Yuc:=by kernel_rfl
def Xh6:S2:=zL [] [] Yb8
def Xw0:=(by cbv:Xh6=_)
def Xh7:S2:=zL [] [] Yb9
def Xw1:=(by cbv:Xh7=_)
def Xom:S2:=zL [] [Xh7,Xh6] X2q
def Xm3:=(show Xom=_ from (fun (a b:S2)=>(by cbv:zL [] [a,b] X2q=_)) Xh7 Xh6)
def Zde:S2:=zL [] [Xom] n30
def Zhs:=(show Zde=_ from (fun (a:S2)=>(by cbv:zL [] [a] n30=_)) Xom)
theorem Zkk:Zbv.lift []=some Zde:=by kernel_rfl
def Xoq:S2:=zL [] [] Ycc
def Xw5:=(by cbv:Xoq=_)
def Zdg:S2:=zL [] [Xoq] n32
def Zhu:=(show Zdg=_ from (fun (a:S2)=>(by cbv:zL [] [a] n32=_)) Xoq)
theorem Zkm:Zbw.lift []=some Zdg:=by kernel_rfl
def Xpf:S2:=zL [] [] Yc0
def Xm4:=(by cbv:Xpf=_)
def Zd3:S2:=zL [] [Xpf] n59
def Zib:=(show Zd3=_ from (fun (a:S2)=>(by cbv:zL [] [a] n59=_)) Xpf)
theorem Zk7:Zb8.lift []=some Zd3:=by kernel_rfl
def Zd4:S2:=zL [] [] n60
def Zic:=(by cbv:Zd4=_)
theorem Zk8:Zb9.lift []=some Zd4:=by kernel_rfl
def Ys9:S2:=zL [] [] Zeq
def Yds:=(by cbv:Ys9=_)
theorem Y28:Yn2.lift []=some Ys9:=by kernel_rfl
def Ytw:S2:=zL [] [] Ze5
def Yz7:=(by cbv:Ytw=_)
theorem Y3u:Ypy.lift []=some Ytw:=by kernel_rfl
def Yud:S2:=zL [] [] Zfi
def Y0j:=(by cbv:Yud=_)
theorem Y4b:Yra.lift []=some Yud:=by kernel_rfl
def Yue:S2:=zL [] [] Zfj
def Xm2:=(by cbv:Yue=_)
theorem Y4c:Yrb.lift []=some Yue:=by kernel_rfl
def Yuf:S2:=zL [] [] Zfk
def Y0k:=(by cbv:Yuf=_)
theorem Y4d:Yrc.lift []=some Yuf:=by kernel_rfl
def Yuj:S2:=zL [] [] Zfn
def Xw2:=(by cbv:Yuj=_)
theorem Y4h:Yrx.lift []=some Yuj:=by kernel_rfl
def Yuk:S2:=zL [] [] Zfo
def Xuf:=(by cbv:Yuk=_)
theorem Y4i:Yry.lift []=some Yuk:=by kernel_rfl
def Yul:S2:=zL [] [] Zfp
def Xug:=(by cbv:Yul=_)
theorem Y4j:Yrz.lift []=some Yul:=by kernel_rfl
def Xh8:S2:=zL [] [] X2r
def Xq9:=(by cbv:Xh8=_)
def Yum:S2:=zL [] [Xh8] Y5c
def Yl9:=(show Yum=_ from (fun (a:S2)=>(by cbv:zL [] [a] Y5c=_)) Xh8)
theorem Y4k:Yr0.lift []=some Yum:=by kernel_rfl
def Xid:S2:=zL [] [] X2w
def Xrd:=(by cbv:Xid=_)
def Xie:S2:=zL [] [Xid] Xp4
def Xre:=(show Xie=_ from (fun (a:S2)=>(by cbv:zL [] [a] Xp4=_)) Xid)
def Yuu:S2:=zL [] [Xie] Y5f
def Y0u:=(show Yuu=_ from (fun (a:S2)=>(by cbv:zL [] [a] Y5f=_)) Xie)
theorem Y4s:Yr2.lift []=some Yuu:=by kernel_rfl
end Go.Proofs.YtolkimpelpnpbaaGreatDoor
