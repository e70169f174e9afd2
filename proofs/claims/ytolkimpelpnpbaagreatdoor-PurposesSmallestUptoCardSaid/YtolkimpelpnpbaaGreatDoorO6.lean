/- Texts of this claim joined by a program, part 6 of 20; the last is: The same statements with their regions folded into expressions, printed by the fold itself; that they are that is checked by the kernel. No condition. -/
import Derived.Test.YtolkimpelpnpbaaGreatDoorO4
import Derived.Test.YtolkimpelpnpbaaGreatDoorO5
import Derived.Test.YtolkimpelpnpbaaGreatDoorProg
import Derived.KernelRfl
set_option maxRecDepth 100000
set_option linter.unusedSimpArgs false
set_option linter.unusedVariables false
set_option linter.unusedSectionVars false
set_option linter.defProp false
namespace Go.Sx
open Go Go.Ab Go.Lx
def Xx3 (a b:Int×Int):Int×Int:=(IntKind.i64.wrap (a.1+b.1),if b.2 > a.2 then b.2 else a.2)
def Yxc (a:Int×Int):Int×Int:=(a.1,IntKind.i64.wrap (a.2+1))
mutual
def RForm.many:RForm->Int×Int
 | .mk _ _ k _=>Yxc ((RForm.manys k).foldl Xx3 (1,0))
def RForm.manys:List RForm->List (Int×Int)
 | []=>[]
 | f::r=>f.many::RForm.manys r
end
theorem RForm.manys_eq:∀l:List RForm,RForm.manys l=l.map RForm.many
 | []=>rfl
 | f::r=>by rw[RForm.manys,RForm.manys_eq r]; rfl
theorem RForm.many_eq (f:RForm):f.many=Yxc ((f.kids.map RForm.many).foldl Xx3 (1,0)):=by
 cases f; rw[RForm.many,RForm.manys_eq]; rfl
def RForm.mAt (f:RForm)(k:Nat):Int×Int:=((f.kids.take k).map RForm.many).foldl Xx3 (1,0)
theorem RForm.mAt_succ (f:RForm){k:Nat}(h:k<f.kids.length):f.mAt (k+1)=Xx3 (f.mAt k) f.kids[k].many:=by
 unfold RForm.mAt;rw[Ubj h,Uca,Ucr];rfl
theorem RForm.mAt_all (f:RForm):Yxc (f.mAt f.kids.length)=f.many:=by
 rw[RForm.many_eq,RForm.mAt,Ucq]
theorem RForm.kid_lt {f:RForm}{k:RForm}(h:k∈f.kids):SizeOf.sizeOf k<SizeOf.sizeOf f:=by
 cases f with
 | mk o n l a=>
  have:=List.sizeOf_lt_of_mem h;simp only[RForm.kids]at this;simp only[RForm.mk.sizeOf_spec];omega
def Xx4 (f:RForm):V:=.tup [.d (.int .i64 f.many.1),.d (.int .i64 f.many.2)]
end Go.Sx
namespace Go.Proofs.YtolkimpelpnpbaaGreatDoor
open Go Go.Ab Go.Lx Go.Sx
section
variable {P:Prg} (hP:P.p=Tryz.prog)
include hP
theorem X6h:∀(f:RForm),f.small->∀{ob:Xb} {K:V->Prop},K (Xx4 f)->PCall P 49 [.d f.enc] ob K:=fun f hf ob K h=>by
 have ih:∀k∈f.kids,∀{ob:Xb} {K:V->Prop},K (Xx4 k)->PCall P 49 [.d k.enc] ob K:=fun k hk _ _=>X6h k ((RForm.small_eq hf).2 k hk);have hl:=(RForm.small_eq hf).1;refine Xh hP mixed (ds:=[f.enc]) Y6v Zar TOk.nil ?_;simp[Y8b,RForm.enc_eq];refine ALoop.go (ι:=Nat) (fun k=>[(1,.ptr 0 []),(4,.d (.int .i64 (f.mAt k).1)),(5,.d (.int .i64 (f.mAt k).2)),(6,.d (.int .i64 k))]) (fun _=>[(0,.box 40 (.d f.enc))]) (fun k=>k<=f.kids.length) (fun k=>f.kids.length-k) 0 (Ubg _) (by simp[RForm.mAt]) (by simp[RForm.enc_eq]) ?_;intro k hk R rn re rr rp;by_cases hlt:k<f.kids.length
 ·simp[Xt4,RForm.enc_eq f,hlt];have wr:IntKind.i64.wrap ((k:Int)+1)=(k:Int)+1:=IntWalk.i64_in _ (by omega);refine⟨⟨by simp[RForm.enc_eq,RAtom.enc,RTerm.enc,D.sz,D.szs],by rw[RForm.enc_eq]⟩,ih _ (Uba hlt) ?_⟩;simp[Xx4,wr];refine rn [] (k+1) _ _ (by omega) (by omega) ?_ (by simp[Xe,RForm.enc_eq f]) (by simp[Xe]) (by simp[Xe]);rw[RForm.mAt_succ f hlt];simp[Xx3]
 ·have:k=f.kids.length:=by omega
  subst this;simp[Xt4,RForm.enc_eq f];refine re _ _ _ ?_;simp[RForm.enc_eq f];have e:=RForm.mAt_all f;unfold Xx4 at h;rw[<-e]at h;exact h
termination_by f=>SizeOf.sizeOf f
decreasing_by exact RForm.kid_lt hk
theorem Xit (f:RForm)(hf:f.small){ob:Xb}{K:V->Prop}(h:∀b,K (.d (.bool b))):PCall P 26 [.d f.enc] ob K:=by
 refine Xh hP mixed (ds:=[f.enc]) Y6k Zaf TOk.nil ?_;simp[Y71];refine⟨⟨by rw[D.size_shape]; simp[RForm.enc_eq,RAtom.enc,RTerm.enc,D.sz,D.szs],by rw[RForm.enc_eq]⟩,X6h hP f hf ?_⟩;simp[Xx4];exact h _
theorem X9c {y:RSrc}(hy:y.small){ob:Xb}{K:V->Prop}(h:∀b,K (.d (.bool b))):PCall P 48 [.d y.enc] ob K:=by
 have wr:∀{k n:Nat},k<n->n<=9223372036854775807->IntKind.i64.wrap ((k:Int)+1)=(k:Int)+1:=fun h1 h2=>IntWalk.i64_in _ (by omega);refine Xh hP mixed (ds:=[y.enc]) Y6u Zaq TOk.nil ?_;simp[Y8a,RSrc.enc,Xq];refine ALoop.go (ι:=Nat) (fun i=>[(1,.ptr 0 []),(3,.d (.int .i64 i))]) (fun _=>[(0,.box 29 (.d y.enc))]) (fun i=>i<=y.schemas.length) (fun i=>y.schemas.length-i) 0 (Ubg _) (by simp) (by simp[RSrc.enc,Xq]) ?_;intro k hk R rn re rr rp;by_cases hlt:k<y.schemas.length
 ·simp[Xt3,hlt,RSrc.enc,Xq,RSchema.enc]
  first
   | exact⟨fun _=>rr _ _ (by simp; exact h _),fun _ _=>rn [] (k+1) _ _ (by omega) (by omega) (by simp[wr hlt hy.schemas]) (by simp[Xe,RSrc.enc,Xq]) (by simp[Xe]) (by simp[Xe])⟩
   | exact⟨fun _=>rr _ _ (by simp; exact h _),fun _ _ _=>rn [] (k+1) _ _ (by omega) (by omega) (by simp[wr hlt hy.schemas]) (by simp[Xe,RSrc.enc,Xq]) (by simp[Xe]) (by simp[Xe])⟩
   | exact⟨fun _=>rr _ _ (by simp; exact h _),fun _=>rn [] (k+1) _ _ (by omega) (by omega) (by simp[wr hlt hy.schemas]) (by simp[Xe,RSrc.enc,Xq]) (by simp[Xe]) (by simp[Xe])⟩
 have:k=y.schemas.length:=by omega
 subst this;simp[Xt3,RSrc.enc,Xq];refine re _ _ _ ?_;clear re rr rp rn hk hlt;simp[RSrc.enc,Xq];refine ALoop.go (ι:=Nat) (fun i=>[(1,.ptr 0 []),(4,.d (.int .i64 i))]) (fun _=>[(0,.box 29 (.d y.enc))]) (fun i=>i<=y.rules.length) (fun i=>y.rules.length-i) 0 (Ubg _) (by simp) (by simp[RSrc.enc,Xq]) ?_;intro k hk R rn re rr rp;by_cases hlt:k<y.rules.length
 ·simp[Xt2,hlt,RSrc.enc,Xq,RRule.enc]
  first
   | exact⟨fun _=>rr _ _ (by simp; exact h _),fun _ _=>rn [] (k+1) _ _ (by omega) (by omega) (by simp[wr hlt hy.rules]) (by simp[Xe,RSrc.enc,Xq]) (by simp[Xe]) (by simp[Xe])⟩
   | exact⟨fun _=>rr _ _ (by simp; exact h _),fun _ _ _=>rn [] (k+1) _ _ (by omega) (by omega) (by simp[wr hlt hy.rules]) (by simp[Xe,RSrc.enc,Xq]) (by simp[Xe]) (by simp[Xe])⟩
   | exact⟨fun _=>rr _ _ (by simp; exact h _),fun _=>rn [] (k+1) _ _ (by omega) (by omega) (by simp[wr hlt hy.rules]) (by simp[Xe,RSrc.enc,Xq]) (by simp[Xe]) (by simp[Xe])⟩
 have:k=y.rules.length:=by omega
 subst this;simp[Xt2,RSrc.enc,Xq];refine re _ _ _ ?_;clear re rr rp rn hk hlt;simp[RSrc.enc,Xq];refine ALoop.go (ι:=Nat) (fun i=>[(1,.ptr 0 []),(5,.d (.int .i64 i))]) (fun _=>[(0,.box 29 (.d y.enc))]) (fun i=>i<=y.converts.length) (fun i=>y.converts.length-i) 0 (Ubg _) (by simp) (by simp[RSrc.enc,Xq]) ?_;intro k hk R rn re rr rp;by_cases hlt:k<y.converts.length
 ·simp[Xt1,hlt,RSrc.enc,Xq,RConvert.enc]
  first
   | exact⟨fun _=>rr _ _ (by simp; exact h _),fun _ _=>rn [] (k+1) _ _ (by omega) (by omega) (by simp[wr hlt hy.converts]) (by simp[Xe,RSrc.enc,Xq]) (by simp[Xe]) (by simp[Xe])⟩
   | exact⟨fun _=>rr _ _ (by simp; exact h _),fun _ _ _=>rn [] (k+1) _ _ (by omega) (by omega) (by simp[wr hlt hy.converts]) (by simp[Xe,RSrc.enc,Xq]) (by simp[Xe]) (by simp[Xe])⟩
   | exact⟨fun _=>rr _ _ (by simp; exact h _),fun _=>rn [] (k+1) _ _ (by omega) (by omega) (by simp[wr hlt hy.converts]) (by simp[Xe,RSrc.enc,Xq]) (by simp[Xe]) (by simp[Xe])⟩
 have:k=y.converts.length:=by omega
 subst this;simp[Xt1,RSrc.enc,Xq];refine re _ _ _ ?_;clear re rr rp rn hk hlt;simp[RSrc.enc,Xq];refine ALoop.go (ι:=Nat) (fun i=>[(1,.ptr 0 []),(6,.d (.int .i64 i))]) (fun _=>[(0,.box 29 (.d y.enc))]) (fun i=>i<=y.purposes.length) (fun i=>y.purposes.length-i) 0 (Ubg _) (by simp) (by simp[RSrc.enc,Xq]) ?_;intro k hk R rn re rr rp;by_cases hlt:k<y.purposes.length
 ·simp[Xt0,hlt,RSrc.enc,Xq,RPurpose.enc]
  first
   | exact⟨fun _=>rr _ _ (by simp; exact h _),fun _ _=>rn [] (k+1) _ _ (by omega) (by omega) (by simp[wr hlt hy.purposes]) (by simp[Xe,RSrc.enc,Xq]) (by simp[Xe]) (by simp[Xe])⟩
   | exact⟨fun _=>rr _ _ (by simp; exact h _),fun _ _ _=>rn [] (k+1) _ _ (by omega) (by omega) (by simp[wr hlt hy.purposes]) (by simp[Xe,RSrc.enc,Xq]) (by simp[Xe]) (by simp[Xe])⟩
   | exact⟨fun _=>rr _ _ (by simp; exact h _),fun _=>rn [] (k+1) _ _ (by omega) (by omega) (by simp[wr hlt hy.purposes]) (by simp[Xe,RSrc.enc,Xq]) (by simp[Xe]) (by simp[Xe])⟩
 have:k=y.purposes.length:=by omega
 subst this;simp[Xt0,RSrc.enc,Xq];refine re _ _ _ ?_;clear re rr rp rn hk hlt;simp[RSrc.enc,Xq];exact h _
theorem Xlr {t:RTab}(ht:t.src.small)(ho:t.order.length<=9223372036854775807){ob:Xb}{K:V->Prop}(h:∀b,K (.d (.bool b))):PCall P 25 [.d t.enc] ob K:=by
 refine Xh hP mixed (ds:=[t.enc]) Y6j Zae TOk.nil ?_;simp[Y70,RTab.enc,RSrc.enc,Xq,Xea];refine X9c hP ht (fun b=>?_);simp;exact h _
end
end Go.Proofs.YtolkimpelpnpbaaGreatDoor
namespace Go.Sx
open Go Go.Ab Go.Lx
def Xba (units:Nat)(t:RType):Bool:=decide (0<=t.lo/\t.lo<=t.hi/\t.hi<=1048576/\-1<=t.unit/\t.unit<units/\t.names.length=0)
def Xe6 (t:RType):Bool:=decide (t.lo=0/\t.hi=1023/\t.unit=-1/\t.names.length=0)
def Xe7 (t:RType):Bool:=decide (t.lo=0/\t.hi=4095/\t.unit=-1/\t.names.length=0)
def Xbb (t:RType):Bool:=decide (t.lo=0/\t.hi=(t.names.length:Int)-1/\t.unit=-1/\1<=t.names.length/\t.names.length<=16)&&decide (t.names.Nodup)
def Xbx (units:Nat)(t:RType):Bool:=
  if t.kind=1 then Xba units t else if t.kind=2 then Xe6 t else if t.kind=3 then Xe7 t else if t.kind=4 then Xbb t else false
def Xc2 (y:RSrc)(s f:Int):Option RField:=if s<0\/f<0 then none else (y.schemas[s.toNat]?).bind fun c=>c.fields[f.toNat]?
def Ze (y:RSrc)(s f:Int):Option RType:=match Xc2 y s f with
  | none=>none
  | some x=>if Xbx y.units.length x.type&&(decide (x.type.unit<0)||(match y.units[x.type.unit.toNat]? with | some u=>Xs7 y u | none=>false)) then some x.type else none
def Xrp (y:RSrc)(u:Int):Int:=match y.units[u.toNat]? with | some v=>v.base | none=>0
def X2d (y:RSrc)(a b:RType):Bool:=
  if a.kind ≠ b.kind then false else if a.kind=4 then decide (a.names=b.names)
  else if a.kind ≠ 1\/a.unit=-1\/b.unit=-1 then decide (a.unit=b.unit) else decide (Xrp y a.unit=Xrp y b.unit)
def Qm (y:RSrc)(s f s' f':Int):Bool:=match Ze y s f,Ze y s' f' with
  | some t,some u=>X2d y t u
  | _,_=>false
def Xs9 (y:RSrc)(vs:List RVar)(i:Nat)(v:RVar):Bool:=
  decide (0<=v.schema)&&decide (Ya RSchema.name y.schemas v.kind 0=v.schema)&&Ww v.kind&&Ww v.name&&decide (Ya RVar.name vs v.name 0=i)
def Q6 (y:RSrc)(vs:List RVar):Bool:=
  decide (1<=vs.length)&&decide (vs.length<=3)&&(vs.zipIdx.all fun p=>Xs9 y vs p.2 p.1)&&vs.any fun v=>!v.other
def refO (y:RSrc)(vs:List RVar)(t:RTerm):Option (Int×Int):=
  if Ww t.name&&Ww t.path&&decide (t.n=0) then
    (match vs[(Ya RVar.name vs t.name 0).toNat]? with
     | some v=>if Ya RVar.name vs t.name 0<0\/Ya RVar.name vs t.name 0 ≠ t.var then none else
       (match y.schemas[v.schema.toNat]? with
        | some c=>if Ya RField.name c.fields t.path 0<0\/Ya RField.name c.fields t.path 0 ≠ t.field then none else some (v.schema,t.field)
        | none=>none)
     | none=>none)
  else none
def Xsd (y:RSrc)(r:Int×Int):Int:=match Xc2 y r.1 r.2 with | some x=>x.type.kind | none=>0
def Yq6 (y:RSrc)(op:Int)(r:Option (Int×Int)):Bool:=match r with
  | none=>true
  | some r=>!(decide (op=2)||decide (op=3))||decide (Xsd y r=1)||decide (Xsd y r=2)
def Vh (y:RSrc)(vs:List RVar)(a:RAtom):Bool:=
  decide (1<=a.op)&&decide (a.op<=4)&&((refO y vs a.a).isSome||a.a.isNum)&&((refO y vs a.b).isSome||a.b.isNum)&&
  (match refO y vs a.a,refO y vs a.b with
   | none,none=>false
   | some r,some s=>Qm y r.1 r.2 s.1 s.2
   | _,_=>true)&&Yq6 y a.op (refO y vs a.a)&&Yq6 y a.op (refO y vs a.b)
def Yfr:RTerm:=⟨[],[],0,0,0⟩
def Ygu:RAtom:=⟨0,Yfr,Yfr⟩
def RTerm.zero (t:RTerm):Bool:=decide (t.name=[])&&decide (t.path=[])&&decide (t.var=0)&&decide (t.field=0)&&decide (t.n=0)
def RAtom.zero (a:RAtom):Bool:=decide (a.op=0)&&a.a.zero&&a.b.zero
mutual
def RForm.okS (y:RSrc)(vs:List RVar):RForm->Nat->Nat×Nat->Bool×(Nat×Nat)
  | .mk op n k a,d,c=>
    if 32<c.1+1\/8<d\/8<k.length then (false,(c.1+1,c.2))
    else if op=1\/op=2 then (if a.zero&&decide (n=0) then RForm.okL y vs k (d+1) (c.1+1,c.2) else (false,(c.1+1,c.2)))
    else if op=3 then (if a.zero&&decide (1<=n)&&decide (n<=k.length) then RForm.okL y vs k (d+1) (c.1+1,c.2) else (false,(c.1+1,c.2)))
    else if op=4 then (a.zero&&decide (k.length=0)&&decide (0<=n)&&decide (n<vs.length),(c.1+1,c.2))
    else if op=5 then (decide (n=0)&&decide (k.length=0)&&decide (c.2+1<=8)&&Vh y vs a,(c.1+1,c.2+1))
    else (false,(c.1+1,c.2))
def RForm.okL (y:RSrc)(vs:List RVar):List RForm->Nat->Nat×Nat->Bool×(Nat×Nat)
  | [],_,c=>(true,c)
  | f::r,d,c=>if (RForm.okS y vs f d c).1 then RForm.okL y vs r d (RForm.okS y vs f d c).2 else (false,(RForm.okS y vs f d c).2)
end
def Yi (y:RSrc)(q:RQ):Bool:=
  Ww q.name&&decide (0<=q.purpose)&&(match y.purposes[q.purpose.toNat]? with
    | some p=>decide (Ya RPurpose.name y.purposes p.name 0=q.purpose)&&Ww p.name
    | none=>false)&&Q6 y q.vars&&(RForm.okS y q.vars q.form 1 (0,0)).1
end Go.Sx
namespace Go.Sx
open Go Go.Ab Go.Lx
theorem Z0 {α:Type}(f:α->B)(n:B):∀(l:List α) (k:Int),(Ya f l n k=-1/\∀x∈l,f x ≠ n)\/∃(i:Nat) (h:i<l.length),Ya f l n k=k+i/\f l[i]=n/\∀j (hj:j<i),f (l[j]'(by omega)) ≠ n
 | [],k=>.inl ⟨rfl,by simp⟩
 | x::r,k=>by
  by_cases e:f x=n
  ·exact .inr ⟨0,by simp,by simp[Ya,e],by simpa using e,by intro j hj; omega⟩
  ·rcases Z0 f n r (k+1) with⟨h1,h2⟩ | ⟨i,h,h1,h2,h3⟩
   ·refine .inl ⟨by simp[Ya,e,h1],?_⟩;intro z hz;rcases Uax.1 hz with rfl | hz
    ·exact e
    ·exact h2 z hz
   ·refine .inr ⟨i+1,by simpa using h,by simp only[Ya,e,Uay,h1]; push_cast; omega,by simpa using h2,?_⟩;intro j hj;rcases j with _ | j
    ·simpa using e
    ·simpa using h3 j (by omega)
theorem U3 {α:Type}{f:α->B}{n:B}{l:List α}(h0:0<=Ya f l n 0):∃(i:Nat) (h:i<l.length),Ya f l n 0=i/\f l[i]=n/\∀j (hj:j<i),f (l[j]'(by omega)) ≠ n:=by
 rcases Z0 f n l 0 with⟨h1,_⟩ | ⟨i,h,h1,h2,h3⟩
 ·omega
 ·exact⟨i,h,by simpa using h1,h2,h3⟩
mutual
def RForm.atoms:RForm->List RAtom
 | .mk op _ k a=>(if op=5 then[a] else[])++RForm.atomsL k
def RForm.atomsL:List RForm->List RAtom
 | []=>[]
 | f::r=>f.atoms++RForm.atomsL r
end
mutual
theorem Xkq (y:RSrc)(vs:List RVar):∀(f:RForm) (d:Nat) (c:Nat×Nat),c.2<=8->(f.okS y vs d c).1=true->(f.okS y vs d c).2.2=c.2+f.atoms.length/\(f.okS y vs d c).2.2<=8/\∀a∈f.atoms,Vh y vs a=true
 | .mk op n k a,d,c,hc,h=>by
  unfold RForm.okS at h⊢;unfold RForm.atoms;split at h
  ·cases h
  rename_i h0;simp only[h0,Uay];split at h
  ·rename_i h1;have h5:op ≠ 5:=by omega
   simp only[h1,Ubb,h5,Uay,List.nil_append];split at h
   ·rename_i h2;simp only[h2,Ubb];exact Jt y vs k (d+1) (c.1+1,c.2) hc h
   ·cases h
  rename_i h1;simp only[h1,Uay];split at h
  ·rename_i h2;have h5:op ≠ 5:=by omega
   simp only[h2,Ubb,h5,Uay,List.nil_append];split at h
   ·rename_i h3;have h5':¬(3:Int)=5:=by omega
    simp only[h3,Ubb,h5',Uay,List.nil_append];exact Jt y vs k (d+1) (c.1+1,c.2) hc h
   ·cases h
  rename_i h2;simp only[h2,Uay];split at h
  ·rename_i h3;simp only[Uai,Ubp]at h;have hk:k=[]:=Ucs.1 h.1.1.2;subst hk;have h5':¬(4:Int)=5:=by omega
   simp[h3,RForm.atomsL,hc]
  rename_i h3;simp only[h3,Uay];split at h
  ·rename_i h4;simp only[Uai,Ubp]at h;have hk:k=[]:=Ucs.1 h.1.1.2;subst hk;simp[h4,RForm.atomsL,h.1.2,h.2]
  ·cases h
theorem Jt (y:RSrc)(vs:List RVar):∀(l:List RForm) (d:Nat) (c:Nat×Nat),c.2<=8->(RForm.okL y vs l d c).1=true->(RForm.okL y vs l d c).2.2=c.2+(RForm.atomsL l).length/\(RForm.okL y vs l d c).2.2<=8/\∀a∈RForm.atomsL l,Vh y vs a=true
 | [],d,c,hc,h=>by simp[RForm.okL,RForm.atomsL,hc]
 | f::r,d,c,hc,h=>by
  unfold RForm.okL at h⊢;unfold RForm.atomsL;split at h
  ·rename_i h1;obtain⟨e1,e2,e3⟩:=Xkq y vs f d c hc h1;obtain⟨g1,g2,g3⟩:=Jt y vs r d _ e2 h;simp only[h1,Ubb];refine⟨by rw[g1,e1,Uar]; omega,g2,fun a ha=>?_⟩;rcases Ubu.1 ha with ha | ha
   ·exact e3 a ha
   ·exact g3 a ha
  ·cases h
end
theorem Yfw {y:RSrc}{vs:List RVar}{i:Nat}{v:RVar}(h:Xs9 y vs i v=true):∃(s:Nat) (hs:s<y.schemas.length),v.schema=s/\y.schemas[s].name=v.kind/\(∃(hi:i<vs.length),vs[i].name=v.name)/\∀j (hj:j<i) (hl:j<vs.length),vs[j].name ≠ v.name:=by
 simp only[Xs9,Uai,Ubp]at h;obtain⟨⟨⟨⟨h1,h2⟩,h3⟩,h4⟩,h5⟩:=h;obtain⟨s,hs,e1,e2,_⟩:=U3 (f:=RSchema.name) (n:=v.kind) (l:=y.schemas) (by omega);obtain⟨j,hj,g1,g2,g3⟩:=U3 (f:=RVar.name) (n:=v.name) (l:=vs) (by omega);have:j=i:=by omega
 subst this;exact⟨s,hs,by omega,e2,⟨hj,g2⟩,fun k hk hl=>g3 k hk⟩
theorem Xrc {y:RSrc}{vs:List RVar}(h:Q6 y vs=true)(i:Nat)(hi:i<vs.length):Xs9 y vs i vs[i]=true:=by
 simp only[Q6,Uai,Ubt]at h;exact h.1.2 (vs[i],i) (List.mem_zipIdx_iff_getElem?.2 (by simp[hi]))
theorem Xkz {y:RSrc}{vs:List RVar}{t:RTerm}{r:Int×Int}(h:refO y vs t=some r):∃(i:Nat) (hi:i<vs.length) (s:Nat) (hs:s<y.schemas.length) (g:Nat) (hg:g<y.schemas[s].fields.length),t.var=i/\vs[i].name=t.name/\vs[i].schema=r.1/\s=r.1.toNat/\t.field=g/\r.2=g/\y.schemas[s].fields[g].name=t.path:=by
 unfold refO at h;split at h
 ·split at h
  ·rename_i v hv;split at h
   ·cases h
   ·rename_i hn;obtain⟨i,hi,e1,e2,_⟩:=U3 (f:=RVar.name) (n:=t.name) (l:=vs) (by omega);rw[e1]at hv hn;simp only[Int.toNat_natCast,Ubf hi,Uaq]at hv;subst hv;split at h
    ·rename_i c hc;split at h
     ·cases h
     ·rename_i hm;cases h;obtain⟨hs,hc⟩:=Uan.1 hc;obtain⟨g,hg,f1,f2,_⟩:=U3 (f:=RField.name) (n:=t.path) (l:=c.fields) (by omega);subst hc;exact⟨i,hi,_,hs,g,hg,by omega,e2,rfl,rfl,by omega,by simp only; omega,f2⟩
    ·cases h
  ·cases h
 ·cases h
theorem Xl2 {y:RSrc}{s f:Int}(h:¬∃(i:Nat) (hi:i<y.schemas.length) (j:Nat),s=i/\f=j/\j<y.schemas[i].fields.length):Xc2 y s f=none:=by
 unfold Xc2;split
 ·rfl
 ·rename_i hn;cases e:y.schemas[s.toNat]? with
  | none=>rfl
  | some c=>
   obtain⟨hi,hc⟩:=Uan.1 e;simp only[Option.bind_some];rw[Ucj];rcases Uaa f.toNat c.fields.length with hf | hf
   ·exact (h ⟨s.toNat,hi,f.toNat,by omega,by omega,by rw[hc]; exact hf⟩).elim
   ·exact hf
theorem Xjd {y:RSrc}{i j:Nat}(hi:i<y.schemas.length)(hj:j<y.schemas[i].fields.length):Xc2 y i j=some y.schemas[i].fields[j]:=by
 unfold Xc2;rw[Ubo (by omega)];simp[hi,hj]
end Go.Sx
namespace Go.Sx
open Go Go.Ab Go.Lx
def Qk (l:List B):List (D×V):=l.map fun s=>(.str s,.d (.bool true))
theorem Xk3 (s:B):∀l:List B,Wu (.str s) (Qk l)=if s∈l then some (.d (.bool true)) else none
 | []=>by simp[Qk,Wu]
 | x::r=>by
  have ih:=Xk3 s r;simp only[Qk,Uam,Wu,D.sameKey]at ih⊢;by_cases e:s=x
  ·simp[e]
  ·simp only[Ucg.2 e,Uah,Uay,ih,Uax,e,false_or]
theorem Xq5 (s:B)(v:V):∀l:List B,s∉l->Xk9 (.str s) v (Qk l)=Qk l++[(.str s,v)]
 | [],_=>by simp[Qk,Xk9]
 | x::r,h=>by
  have h1:s ≠ x:=fun e=>h (by simp[e]);have h2:s∉r:=fun e=>h (by simp[e]);have ih:=Xq5 s v r h2;simp only[Qk,Uam,Xk9,D.sameKey,List.cons_append]at ih⊢;simp only[Ucg.2 h1,Uah,Uay,ih]
theorem Xzw (s:B)(l:List B):Xc8 (.str []) (.str s) (Qk l):=by
 refine⟨rfl,fun e he=>?_⟩;simp only[Qk,Ua5]at he;obtain⟨x,_,rfl⟩:=he;rfl
theorem X5s (p:Nat->Bool)(l:List B):Q1 p (Qk l)=false:=by
 induction l with
 | nil=>rfl
 | cons x r ih=>simpa[Qk,Q1,V.men]using ih
theorem Xzx (l:List B)(x:B):Qk (l++[x])=Qk l++[(.str x,.d (.bool true))]:=by simp[Qk]
end Go.Sx
namespace Go.Proofs.YtolkimpelpnpbaaGreatDoor
open Go Go.Ab Go.Lx Go.Sx
section
variable {P:Prg} (hP:P.p=Tryz.prog)
include hP
theorem X9h (t:RType)(u:Nat){ob:Xb}{K:V->Prop}(h:K (.d (.bool (Xba u t)))):PCall P 319 [.d t.enc,.d (.int .i64 u)] ob K:=by
 refine Xh hP mixed (ds:=[t.enc,.int .i64 u]) Yqz Yw4 TOk.nil ?_;have h':∀b,b=Xba u t->K (.d (.bool b)):=fun b e=>e▸h;clear h;simp[Ytv,RType.enc,Xq];apply h'; rw[Ucl]; simp[Xba,and_assoc]
theorem X9i (t:RType)(u:Nat){ob:Xb}{K:V->Prop}(h:K (.d (.bool (Xe6 t)))):PCall P 320 [.d t.enc,.d (.int .i64 u)] ob K:=by
 refine Xh hP mixed (ds:=[t.enc,.int .i64 u]) Yq0 Yw5 TOk.nil ?_;have h':∀b,b=Xe6 t->K (.d (.bool b)):=fun b e=>e▸h;clear h;simp[Ytw,RType.enc,Xq];apply h'; rw[Ucl]; simp[Xe6,and_assoc]
theorem X9j (t:RType)(u:Nat){ob:Xb}{K:V->Prop}(h:K (.d (.bool (Xe7 t)))):PCall P 321 [.d t.enc,.d (.int .i64 u)] ob K:=by
 refine Xh hP mixed (ds:=[t.enc,.int .i64 u]) Yq1 Yw6 TOk.nil ?_;have h':∀b,b=Xe7 t->K (.d (.bool b)):=fun b e=>e▸h;clear h;simp[Ytx,RType.enc,Xq];apply h'; rw[Ucl]; simp[Xe7,and_assoc]
theorem Xlt {l:List B}(hl:l.length<=9223372036854775807){ob:Xb}{K:V->Prop}(h:K (.d (.bool (decide l.Nodup)))):PCall P 323 [.d (Xq l)] ob K:=by
 have wr:∀{k n:Nat},k<n->n<=9223372036854775807->IntKind.i64.wrap ((k:Int)+1)=(k:Int)+1:=fun h1 h2=>IntWalk.i64_in _ (by omega);refine Xh hP mixed (ds:=[Xq l]) Yq3 Yw8 TOk.nil ?_;simp[Yty,Xq];refine ALoop.upto l.length (fun k=>[(3,.mp 0),(9,.d (.list 1 (l.map D.str))),(10,.d (.int .i64 l.length)),(11,.d (.int .i64 k))]) (fun k=>[(0,.map (Qk (l.take k)))]) (fun k=>(l.take k).Nodup) (by simp) (by simp) (by simp[Qk]) ?_ ?_
 ·intro k hk hi R rn re rr rp;simp[Xos,hk,Xzw,Xk3];by_cases hm:l[k]∈l.take k
  ·simp[hm];refine rr _ _ ?_;have:¬l.Nodup:=fun hn=>by
    have h2:(l.take (k+1)).Nodup:=hn.sublist (List.take_sublist _ _);rw[Ubj hk,Uco]at h2;exact h2.2.2 _ hm _ (by simp) rfl
   simpa[this]using h
  ·simp[hm,Xq5];refine rn [] _ _ ?_ (by simp[wr hk hl]) ?_ (by simp[Xe]) ?_
   ·rw[Ubj hk,Uco];refine⟨hi,by simp,?_⟩;intro a ha b hb;simp only[Uci]at hb;subst hb;exact fun e=>hm (e▸ha)
   ·rw[Ubj hk,Xzx];simp[Xe]
   ·simp[Xg,X5s]
 ·intro hi R re rr rp;simp[Xos];refine re _ _ _ ?_;simp;rw[Ucq]at hi;simpa[hi]using h
theorem X9k (t:RType)(ht:t.names.length<=9223372036854775807)(u:Nat){ob:Xb}{K:V->Prop}(h:K (.d (.bool (Xbb t)))):PCall P 322 [.d t.enc,.d (.int .i64 u)] ob K:=by
 refine Xh hP mixed (ds:=[t.enc,.int .i64 u]) Yq2 Yw7 TOk.nil ?_;have wr:IntKind.i64.wrap ((t.names.length:Int)-1)=(t.names.length:Int)-1:=IntWalk.i64_in _ (by omega);have c:∀{ob:Xb} {K:V->Prop},K (.d (.bool (decide t.names.Nodup)))->PCall P 323 [.d (.list 1 (t.names.map .str))] ob K:=fun h=>Xlt hP ht h;by_cases hc:t.lo=0/\t.hi=(t.names.length:Int)-1/\t.unit=-1/\1<=t.names.length/\t.names.length<=16
 ·obtain⟨h1,h2,h3,h4,h5⟩:=hc;have h4':¬t.names=[]:=by intro e; simp[e]at h4
  have h4i:(1:Int)<=t.names.length:=by omega
  have h5i:(t.names.length:Int)<=16:=by omega
  simp[Xrj,RType.enc,Xq,h1,h2,h3,h4i,h5i,wr];refine c ?_;have e:Xbb t=decide t.names.Nodup:=by simp only[Xbb,h1,h2,h3,h4,h5,and_self,decide_true,Uct]
  rw[e]at h;simpa using h
 ·have hk:Xbb t=false:=by simp only[Xbb,hc,decide_false,Bool.false_and]
  rw[hk]at h;by_cases h1:t.lo=0
  ·by_cases h2:t.hi=(t.names.length:Int)-1
   ·by_cases h3:t.unit=-1
    ·by_cases h4:1<=t.names.length
     ·have h5:¬t.names.length<=16:=fun h5=>hc ⟨h1,h2,h3,h4,h5⟩;have h4':¬t.names=[]:=by intro e; simp[e]at h4
      have h4i:(1:Int)<=t.names.length:=by omega
      have h5i:¬(t.names.length:Int)<=16:=by omega
      simp[Xrj,RType.enc,Xq,h1,h2,h3,h4i,h5i,wr]; exact h
     ·have h4':t.names=[]:=by simpa using h4
      simp[Xrj,RType.enc,Xq,h1,h2,h3,h4',wr]; exact h
    ·simp[Xrj,RType.enc,Xq,h1,h2,h3,wr]; exact h
   ·simp[Xrj,RType.enc,Xq,h1,h2,wr]; exact h
  ·simp[Xrj,RType.enc,Xq,h1,wr]; exact h
def Xj2:D:=.agg [.nilf,.fn 319 [] [],.fn 320 [] [],.fn 321 [] [],.fn 322 [] []]
theorem Xf3 {ob:Xb}{K:V->Prop}(h:K (.d Xj2)):PCall P 301 [] ob K:=by
 refine Xh hP mixed (ds:=[]) Yqw Yw1 TOk.nil ?_;simp[Yts];exact h
theorem X14 {y:RSrc}(t:RType)(ht:t.names.length<=9223372036854775807){ob:Xb}{K:V->Prop}(h:K (.d (.bool (Xbx y.units.length t)))):PCall P 252 [.d (.agg [y.enc]),.d t.enc] ob K:=by
 have c1:Xm P.p 319=true:=by rw[hP]; kernel_rfl
 have c2:Xm P.p 320=true:=by rw[hP]; kernel_rfl
 have c3:Xm P.p 321=true:=by rw[hP]; kernel_rfl
 have c4:Xm P.p 322=true:=by rw[hP]; kernel_rfl
 have d1:∀{ob:Xb} {K:V->Prop},K (.d (.bool (Xba y.units.length t)))->PCall P 319 [.d (.agg [iD t.kind,iD t.lo,iD t.hi,.str t.of_,iD t.unit,.list 1 (t.names.map .str)]),.d (.int .i64 y.units.length)] ob K:=fun h=>X9h hP t _ h;have d2:∀{ob:Xb} {K:V->Prop},K (.d (.bool (Xe6 t)))->PCall P 320 [.d (.agg [iD t.kind,iD t.lo,iD t.hi,.str t.of_,iD t.unit,.list 1 (t.names.map .str)]),.d (.int .i64 y.units.length)] ob K:=fun h=>X9i hP t _ h;have d3:∀{ob:Xb} {K:V->Prop},K (.d (.bool (Xe7 t)))->PCall P 321 [.d (.agg [iD t.kind,iD t.lo,iD t.hi,.str t.of_,iD t.unit,.list 1 (t.names.map .str)]),.d (.int .i64 y.units.length)] ob K:=fun h=>X9j hP t _ h;have d4:∀{ob:Xb} {K:V->Prop},K (.d (.bool (Xbb t)))->PCall P 322 [.d (.agg [iD t.kind,iD t.lo,iD t.hi,.str t.of_,iD t.unit,.list 1 (t.names.map .str)]),.d (.int .i64 y.units.length)] ob K:=fun h=>X9k hP t ht _ h;refine Xh hP mixed (ds:=[.agg [y.enc],t.enc]) Yqt Ywy TOk.nil ?_;unfold Xbx at h;by_cases k1:t.kind=1
 ·rw[Uby k1]at h;simp only[k1]at d1;simp[Xri,RSrc.enc,RType.enc,Xq,k1];refine Xf3 hP ?_;simp[Xj2,c1];refine⟨⟨rfl,rfl,rfl,rfl,rfl⟩,PCall.acall (d1 ?_)⟩;simpa using h
 rw[Ubo k1]at h;by_cases k2:t.kind=2
 ·rw[Uby k2]at h;simp only[k2]at d2;simp[Xri,RSrc.enc,RType.enc,Xq,k2];refine Xf3 hP ?_;simp[Xj2,c2];refine⟨⟨rfl,rfl,rfl,rfl,rfl⟩,PCall.acall (d2 ?_)⟩;simpa using h
 rw[Ubo k2]at h;by_cases k3:t.kind=3
 ·rw[Uby k3]at h;simp only[k3]at d3;simp[Xri,RSrc.enc,RType.enc,Xq,k3];refine Xf3 hP ?_;simp[Xj2,c3];refine⟨⟨rfl,rfl,rfl,rfl,rfl⟩,PCall.acall (d3 ?_)⟩;simpa using h
 rw[Ubo k3]at h;by_cases k4:t.kind=4
 ·rw[Uby k4]at h;simp only[k4]at d4;simp[Xri,RSrc.enc,RType.enc,Xq,k4];refine Xf3 hP ?_;simp[Xj2,c4];refine⟨⟨rfl,rfl,rfl,rfl,rfl⟩,PCall.acall (d4 ?_)⟩;simpa using h
 rw[Ubo k4]at h;have hk:t.kind<1\/4<t.kind:=by omega
 rcases hk with hk | hk
 ·simp[Xri,RSrc.enc,RType.enc,Xq,hk];exact h
 ·have hk':¬t.kind<1:=by omega
  simp[Xri,RSrc.enc,RType.enc,Xq,hk,hk'];exact h
theorem Xf4 {y:RSrc}(hy:y.small){s f:Int}{nm pa:B}{ob:Xb}{K:V->Prop}
  (h0:Ze y s f=none->∀d:D,d=X0t\/(∃t:RType,d=t.enc)->K (.tup [.d d,.d (.bool false)])) (h1:∀t,Ze y s f=some t->t.names.length<=9223372036854775807->K (.tup [.d t.enc,.d (.bool true)])) :
  PCall P 216 [.d (.agg [y.enc]),.d (.agg [.str nm,.str pa,iD s,iD f])] ob K:=by
 refine Xh hP mixed (ds:=[.agg [y.enc],.agg [.str nm,.str pa,iD s,iD f]]) Yqj Ywo TOk.nil ?_;simp[Ytj,RSrc.enc,Xq];refine X15 (y:=y) hP ?_ ?_
 ·intro hn;have hu:Ze y s f=none:=by simp only[Ze,Xl2 hn]
  simp[X0t];exact h0 hu _ (.inl rfl)
 ·intro i hi j hj hs hf;subst hs; subst hf;have hx:=Xjd hi hj;have hsm:y.schemas[i].fields[j].type.names.length<=9223372036854775807:=(hy.schema _ (Uba hi)).names _ (Uba hj);generalize y.schemas[i].fields[j]=x at hx hsm;have dt:∀{ob:Xb} {K:V->Prop},K (.d (.bool (Xbx y.units.length x.type)))->PCall P 252 [.d (.agg [.agg [.list 1 (y.issuers.map .str),.list 5 (y.units.map RUnit.enc),.list 6 (y.schemas.map RSchema.enc),.list 5 (y.rules.map RRule.enc),.list 5 (y.converts.map RConvert.enc),.list 3 (y.purposes.map RPurpose.enc)]]),.d (.agg [iD x.type.kind,iD x.type.lo,iD x.type.hi,.str x.type.of_,iD x.type.unit,.list 1 (x.type.names.map .str)])] ob K:=fun h=>X14 (y:=y) hP x.type hsm h;simp[RType.enc,Xq];refine dt ?_;by_cases ht:Xbx y.units.length x.type=true
  ·by_cases hu:0<=x.type.unit
   ·have hu2:x.type.unit.toNat<y.units.length:=by
     unfold Xbx at ht;split at ht
     ·simp only[Xba,Ubp]at ht; omega
     split at ht
     ·simp only[Xe6,Ubp]at ht; omega
     split at ht
     ·simp only[Xe7,Ubp]at ht; omega
     split at ht
     ·simp only[Xbb,Uai,Ubp]at ht; omega
     ·cases ht
    obtain⟨u,hn⟩:∃u:Nat,x.type.unit=u:=⟨x.type.unit.toNat,by omega⟩
    rw[hn]at hu2;simp only[Int.toNat_natCast]at hu2;have du:∀{ob:Xb} {K:V->Prop},K (.d (.bool (Xs7 y y.units[u])))->PCall P 178 [.d (.agg [.agg [.list 1 (y.issuers.map .str),.list 5 (y.units.map RUnit.enc),.list 6 (y.schemas.map RSchema.enc),.list 5 (y.rules.map RRule.enc),.list 5 (y.converts.map RConvert.enc),.list 3 (y.purposes.map RPurpose.enc)]]),.d y.units[u].enc] ob K:=fun h=>X16 (y:=y) hP _ h;simp[ht,hn,hu2,RUnit.enc];refine du ?_;have hus:Ze y (i:Int) (j:Int)=if Xs7 y y.units[u]=true then some x.type else none:=by
     have hlt:¬(u:Int)<0:=by omega
     simp[Ze,hx,ht,hn,hu2,hlt]
    cases hub:Xs7 y y.units[u]with
    | true=>
     simp[hub]at hus;simp[hub,hn];have:=h1 _ hus hsm;simpa[RType.enc,Xq,hn]using this
    | false=>
     simp[hub]at hus;simp[hub,hn];have:=h0 hus x.type.enc (.inr ⟨_,rfl⟩);simpa[RType.enc,Xq,hn]using this
   ·have hus:Ze y (i:Int) (j:Int)=some x.type:=by
     have:x.type.unit<0:=by omega
     simp[Ze,hx,ht,this]
    have hu':x.type.unit<0:=by omega
    simp[ht,hu,hu'];have:=h1 _ hus hsm;simpa[RType.enc,Xq]using this
  ·have ht':Xbx y.units.length x.type=false:=by simpa using ht
   have hus:Ze y (i:Int) (j:Int)=none:=by
    simp[Ze,hx,ht']
   simp[ht'];have:=h0 hus x.type.enc (.inr ⟨_,rfl⟩);simpa[RType.enc,Xq]using this
omit hP in
theorem Xd1 {y:RSrc}{s f:Int}{t:RType}(h:Ze y s f=some t):Xbx y.units.length t=true:=by
 cases e:Xc2 y s f with
 | none=>simp[Ze,e]at h
 | some x=>
  simp only[Ze,e,Option.ite_none_right_eq_some,Uaq,Uai]at h;rw[<-h.2]; exact h.1.1
theorem Xiv {y:RSrc}(a b:RType)(ha:a.names.length<=9223372036854775807)(hta:Xbx y.units.length a=true)(htb:Xbx y.units.length b=true){ob:Xb}{K:V->Prop}(h:K (.d (.bool (X2d y a b)))) :
  PCall P 217 [.d (.agg [y.enc]),.d a.enc,.d b.enc] ob K:=by
 refine Xh hP mixed (ds:=[.agg [y.enc],a.enc,b.enc]) Yqk Ywp TOk.nil ?_;have c:∀{ob:Xb} {K:V->Prop},K (.d (.bool (decide (a.names=b.names))))->PCall P 231 [.d (.list 1 (a.names.map .str)),.d (.list 1 (b.names.map .str))] ob K:=fun h=>X13 hP ha h;unfold X2d at h;by_cases h1:a.kind=b.kind
 ·rw[Ubo (by simp[h1])]at h;by_cases h2:a.kind=4
  ·rw[Uby h2]at h;have h2':b.kind=4:=by omega
   simp[Xrh,RSrc.enc,RType.enc,Xq,h2,h2'];refine c ?_;simpa using h
  ·rw[Ubo h2]at h;have h2':¬b.kind=4:=by omega
   by_cases h3:a.kind=1
   ·have h3':b.kind=1:=by omega
    by_cases h4:a.unit=-1
    ·rw[Uby (.inr (.inl h4))]at h;have h':∀b',b'=decide (a.unit=b.unit)->K (.d (.bool b')):=fun b' e=>e▸h;simp[Xrh,RSrc.enc,RType.enc,Xq,h3,h3',h4];apply h'; rw[Ucl]; simp; omega
    ·by_cases h5:b.unit=-1
     ·rw[Uby (.inr (.inr h5))]at h;have h':∀b',b'=decide (a.unit=b.unit)->K (.d (.bool b')):=fun b' e=>e▸h;simp[Xrh,RSrc.enc,RType.enc,Xq,h3,h3',h4,h5];apply h'; rw[Ucl]; simp; omega
     ·rw[Ubo (by omega)]at h;have hu:0<=a.unit/\a.unit<y.units.length:=by
       simp only[Xbx,h3,Ubb,Xba,Ubp]at hta; omega
      have hv:0<=b.unit/\b.unit<y.units.length:=by
       simp only[Xbx,h3',Ubb,Xba,Ubp]at htb; omega
      obtain⟨u,hu1⟩:∃u:Nat,a.unit=u:=⟨a.unit.toNat,by omega⟩
      obtain⟨v,hv1⟩:∃u:Nat,b.unit=u:=⟨b.unit.toNat,by omega⟩
      have hu2:u<y.units.length:=by omega
      have hv2:v<y.units.length:=by omega
      have eu:Xrp y a.unit=y.units[u].base:=by simp[Xrp,hu1,hu2]
      have ev:Xrp y b.unit=y.units[v].base:=by simp[Xrp,hv1,hv2]
      rw[eu,ev]at h;simp[Xrh,RSrc.enc,RType.enc,RUnit.enc,Xq,h3,h3',h4,h5,hu1,hv1,hu2,hv2]
      first | exact h | skip
   ·rw[Uby (.inl h3)]at h;have h3':¬b.kind=1:=by omega
    have h':∀b',b'=decide (a.unit=b.unit)->K (.d (.bool b')):=fun b' e=>e▸h;simp[Xrh,RSrc.enc,RType.enc,Xq,h1,h2',h3'];apply h'; rw[Ucl]; simp
 ·rw[Uby (by simpa using h1)]at h;simp[Xrh,RSrc.enc,RType.enc,Xq,h1];exact h
theorem X9a {y:RSrc}(hy:y.small){s f s' f':Int}{nm pa nm' pa':B}{ob:Xb}{K:V->Prop}(h:K (.d (.bool (Qm y s f s' f')))) :
  PCall P 125 [.d y.enc,.d (.agg [.str nm,.str pa,iD s,iD f]),.d (.agg [.str nm',.str pa',iD s',iD f'])] ob K:=by
 refine Xh hP mixed (ds:=[y.enc,.agg [.str nm,.str pa,iD s,iD f],.agg [.str nm',.str pa',iD s',iD f']]) Yp5 Ywa TOk.nil ?_;simp[Ys9,RSrc.enc,Xq];have bad:∀{d:D},(d=X0t\/∃t:RType,d=t.enc)->d.shape=.node [.leaf,.leaf,.leaf,.leaf,.leaf,.leaf]:=by
  rintro d (rfl | ⟨t,rfl⟩)<;>rfl
 have agg:∀{d:D},(d=X0t\/∃t:RType,d=t.enc)->∃xs,d=.agg xs:=by
  rintro d (rfl | ⟨t,rfl⟩)<;>exact⟨_,rfl⟩
 refine Xf4 (y:=y) hP hy (fun hn d hd=>?_) (fun t ht htl=>?_)
 ·have e:Qm y s f s' f'=false:=by simp[Qm,hn]
  rw[e]at h;have hs:=bad hd;obtain⟨xs,rfl⟩:=agg hd;have s2:D.shapes xs=[.leaf,.leaf,.leaf,.leaf,.leaf,.leaf]:=by simpa[D.shape]using hs
  simp[s2];refine Xf4 (y:=y) hP hy (fun hn' d' hd'=>?_) (fun t' ht' htl'=>?_)
  ·have hs':=bad hd';obtain⟨xs',rfl⟩:=agg hd';have s2':D.shapes xs'=[.leaf,.leaf,.leaf,.leaf,.leaf,.leaf]:=by simpa[D.shape]using hs'
   simp[s2'];exact h
  ·simp[RType.enc,Xq];exact h
 ·simp[RType.enc,Xq];refine Xf4 (y:=y) hP hy (fun hn' d' hd'=>?_) (fun t' ht' htl'=>?_)
  ·have e:Qm y s f s' f'=false:=by simp[Qm,ht,hn']
   rw[e]at h;have hs':=bad hd';obtain⟨xs',rfl⟩:=agg hd';have s2':D.shapes xs'=[.leaf,.leaf,.leaf,.leaf,.leaf,.leaf]:=by simpa[D.shape]using hs'
   simp[s2'];exact h
  ·have e:Qm y s f s' f'=X2d y t t':=by simp[Qm,ht,ht']
   rw[e]at h;simp[RType.enc,Xq];refine Xiv (y:=y) hP t t' htl (Xd1 ht) (Xd1 ht') ?_;simpa using h
end
end Go.Proofs.YtolkimpelpnpbaaGreatDoor
namespace Go.Sx
open Go Go.Ab Go.Lx
theorem Xdt:∀{ob:Xb} {k:Nat} {o:Ob},Xc ob k=some o->setO ob k o=ob
 | (j,o')::r,k,o,h=>by
  simp only[Xc]at h;simp only[setO];split
  ·rename_i e; simp[e]at h; subst h; rfl
  ·rename_i e; rw[Xdt (by simpa[e]using h)]
theorem Yb {ob:Xb}{k:Nat}{o:Ob}(h:Xc ob k=some o):k<Xa ob:=by
 rcases Uaa k (Xa ob) with h1 | h1
 ·exact h1
 ·rw[X1 ob k h1]at h; cases h
@[simp] theorem ex3 (a b n:Nat)(c:List D):(∃E z xs,(a=E/\b=z/\c=xs)/\n=xs.length)=(n=c.length):=by
 rw[eq_iff_iff];exact⟨fun ⟨_,_,_,⟨_,_,h3⟩,h4⟩=>h3▸h4,fun h=>⟨_,_,_,⟨rfl,rfl,rfl⟩,h⟩⟩
@[simp] theorem add11 (n:Nat):n+1+1=n+2:=rfl
@[simp] theorem add21 (n:Nat):n+2+1=n+3:=rfl
@[simp] theorem add31 (n:Nat):n+3+1=n+4:=rfl
@[simp] theorem add41 (n:Nat):n+4+1=n+5:=rfl
@[simp] theorem add51 (n:Nat):n+5+1=n+6:=rfl
@[simp] theorem add61 (n:Nat):n+6+1=n+7:=rfl
@[simp] theorem add71 (n:Nat):n+7+1=n+8:=rfl
@[simp] theorem add12 (n:Nat):n+1+2=n+3:=rfl
@[simp] theorem add22 (n:Nat):n+2+2=n+4:=rfl
@[simp] theorem strsD_shape (l:List B):(Xq l).shape=.leaf:=by simp[Xq,D.shape]
@[simp] theorem strsD_sz (l:List B):(Xq l).sz=1:=by simp[Xq,D.sz]
@[simp] theorem strsD_agg (l:List B):(Xq l).isAgg=false:=rfl
@[simp] theorem RTerm.enc_shape (t:RTerm):t.enc.shape=.node [.leaf,.leaf,.leaf,.leaf,.leaf]:=rfl
@[simp] theorem RTerm.enc_sz (t:RTerm):t.enc.sz=5:=by simp[RTerm.enc,D.sz,D.szs]
@[simp] theorem RTerm.enc_agg (t:RTerm):t.enc.isAgg=true:=rfl
end Go.Sx
namespace Go.Proofs.YtolkimpelpnpbaaGreatDoor
open Go Go.Ab
def X69:Nat:=0x1037f63243c5ba609d6
def X7a:Nat:=0x17f0168a6
def n21:Nat:=0x1d9690009385d447e03d80744094365fe06d644032a0d4365054401f0436585554365094c650244424409004401290d0901dc0a62000955372c0a1e362c253811352c01332c456643858585a4590a342ceb92056334a041037f63243c5ba6322c59320585312c7e2e2c08302c09763d2f2c01270e763d06be3df4002c2c2a0c032bebaa072b1e09417be30304290028081e0124ca24292527251e262502280ea463266b6271058523df224f2141209d061febaa1d4f0505a7200841037f63243c5ba61c591c05851b7e15081a17108be11959e118b6e10505ae00e116b6e17c4800e11400137e100868120d8b103d11b6103d7c4800103d0f000e090d01270e0ceb400d20116246550b050614858585a41d062e0a6348400b20b9434a68422a110020ecd7
def Yu2:S:=zS [(zS [] X69),(zS [] X7a)] n21
theorem Y6i:Xj Tryz.prog 21 2 Yu2 [.t 4]=true:=by kernel_rfl
def X7h:Nat:=0x1001b1a19034617441cab1b001838dba11b1a19034616d61e15447e12d81444090012651344b6126505cb00126511444312dc074c9c99de10445910381b1a1905037b0f447e06d80e440d440c10382171650c440a440210380e71650b44420dfb71650944420bfb7165047d1e716505400c382071650844064871650744057165a1066505445e447e00444d44094065024401270e406501444f406505414065372c00362c7e322c08352c0900323d342c01270e00323d332cb6323d05aa00323d312c00302c7e2c2c082f2cf40c8b2c3d2e2cb62c3d0592002c3d06402c3d2b002a09072b1e1f1e1d1b1a181c19171615141312bda39e82889aff4b1f4502001b1a199a758b09290028df0120ca20292527211e2624027d0e2542271f2363251f05742620224121e9221e0c82889a05035c4b0c45001b1a1975037b1f75141da742435ff51f38062e1eb0011b1904061b7141d11cba1c1b1a1903711a1b0d1dbc
def n41:Nat:=0x19c011844039d19386a41691b1a190346fc1b1a190346e81904184f17064816e917f6624345764241039c99de15591545147e0e08065b130f8b0e3d12590e3d11b60e3d100648000e3d0fe90e3da10e3d0d455b0c0d030b040a4f09064808e9091e0e624099de
def Yvc:S:=zS [(zS [] X7h)] n41
theorem Y6s:Xj Tryz.prog 41 1 Yvc [.t 2]=true:=by kernel_rfl
def X7i:Nat:=0x1e5719907640c6e04
def X7j:Nat:=0x143390239013902460d6e0439ab036e000e39db40
def Xy0:Nat:=0x1d969000c3903390239013902710b6e090a6e086e076e032a0dfe096ef30009010e4b0839f641433902390139090271066e090e14b2b270ef665e46280a2e056e010e476e016e0e0604620587f7046e5c5e390339023901390271026e036e0d0539bc
def Xy1:Nat:=0x10871742e07646903390239013902460660433902390139024668426e596e4f044a0139200462
def X7k:Nat:=0x108719907640871013f44df763e443ad83d443b440211380d013a653c44010b743a6504cb013a6540013a653944be384433d8105b37440e7c3365364481336535444d8733653444cd3365400133653244be31442dd86830440b7c2d652fd6012d652e44812d655c4a012d652c444c2d2b44ee2a444f04aa17415e45274429446c28444d022344ae5b26444325444f24444d022344e924dc084121445921380443224422dc0a5b250b233821960871012044df761f4417d81e4419440d7c17651dd60117651c44421efb0117651844421afb0117651b4406480117651a44cd1765001bdc01176504aa0117651644be154412d8681444107c1265134481126504aa0112651144be10440cd8680f440b7c0c650ed6010c650d44810c655c4a010c650b447b0cdc1716151413120ebd0f9e82889aff4b174509445909382507f50a440adc4d2d250b0b382196e57199076408445908385c5e07447e01d8064403440f03426505d6426504444f42655c4a426502444f426504aa4265004400372c7e342c08fe362c0d8b343d352cb6343d04aa00343d332c00322c0907331e0f41302c593025075c71312c31f65b250b322196e5719907642f2c592f5c5e2e2c7e2b0868f40c8b2b3d2c2cb62b3d04aa002b3d2a002909072a1e07412604
def n42:Nat:=0x1d969002625075c7128271e045b250b29db4c26592625075c712727ab250b28db62460025075c46244f0440252002627b5c5e23081e2221477045020585704502058543f11c4c4c4c9fb2706920010bb08521200541e5719907641f591f5c5e1e7e1a08105b1d0f8b1a3d1c591a3dac4b1a3d5c4a001a3d1900187e1608105b170f8b163d0240163d15c0385b140f03134f12074a1105400f62005c430e106c0f074a0aae5b0d430c4f0b074a0ae90b1e08a85c4376df0128052f96
def Yvd:S:=zS [(zS [] X7k),(zS [(zS [(zS [] X7i),(zS [] X7j)] Xy0)] Xy1)] n42
theorem Y6t:Xj Tryz.prog 42 3 Yvd [.t 6]=true:=by kernel_rfl
def X71:Nat:=0x100123811381038034636441338ab1244003738db4c7f99a63544593538123811381038037176344432d8045b33440c7c32650c4232653144be30442ed8fe2f440c7c2e650c422e652d44002c447e29d8065b2b440b8b29652a44b6296503a8296528445e5b2744ee2644eb4027382010a81238113810380c037125440dc2444f2344412244aa21441f440b0620444222fb1e444f1dd65c1c441a4406061b44421dfb1944a2fb0b852138200b4a1c38201844921744411644e917dcbda39e0b889a040a05554b114500123811381038ee7115440b0414665ff500380c2e1444b001124410d606b903054af71344ba13381238113810380371114412440d1438bc
def X72:Nat:=0x1001b1a19050371312c1cab1b0032db40
def X73:Nat:=0x18b1b1a19050371302ce02f2cf43059380f2e2c42665ff5c91208b06046402c2c592c1b1a1908058b08092d64037f99a62b592b1b1a1988058b09762a2708290901273d28b039f0273d490574273d2600250909261e0762
def Xy8:Nat:=0x1d969001b1a198807058b09240023080414665ff50038a5011fca1f242522201e212002038349054b211e09a81b1a190705037b1e070514b224082e1d60011b190506b9d11cba1c1b1a1905037b1a1b0d1dbc
def n73:Nat:=0x17f742ea6d912381138103803460602e91238113810380346e810d6051138f9037f99a60f44597d05035e0e447e352c08760d4401d800353d0c440974650bd84405440305390e74650a44b00cfb74650744b009fb746504446306fb7465fe09d6067465050adc74656806d60674650507dc746503444174650244057465407465004440353d045b372c0b8b353d362c59353d0540353d342c4c2d332cee322c0405331e1615141312110e0b100f9e0a889aff4b164502691b1a19050371fc1b1a19050371e8190418011645b2b2024612176047064a1560477416200762ef433059380d1d58037f99a61459140343137e10084d2d120f8b103d11b6103d03a8103d0f455b0e0d030deb400e2008624345764226042f96
def Yvu:S:=zS [(zS [(zS [] X73),(zS [] X72)] Xy8),(zS [] X71)] n73
theorem Y68:Xj Tryz.prog 73 2 Yvu [.t 4]=true:=by kernel_rfl
def X7q:Nat:=0x19c0109026c02420a1f96
def n50:Nat:=0x169450149050c0601f04755034fb9f34704036c034a0032381c1c96f34708163a1058454803103810002a1196
def Yvg:S:=zS [(zS [] X7q)] n50
theorem Y6w:Xj Tryz.prog 50 1 Yvg [.c 2 1 false]=true:=by kernel_rfl
def Xx8:Nat:=0x100bd0f02041812ab110019db40
def Xns:Nat:=0x16900bd0f02041601150ccd0e4842161f8b40bd0fae0514050e14b2b270ef665e4628062e13010ed0a306b9d112ba12bd0f020510110d13bc
def Xnt:Nat:=0x169bd0f0204fcbd0f0204e80f040eeb4a0f20b9
def Yxd:Nat:=0x16903434a0d016c0c0900390b260f0b42b2b270464b0b120a010b47cb014f064008594d87040a5b07ee06eb4007200362f3470028042f58
def Yav:S:=zS [(zS [(zS [(zS [] Xx8)] Xns)] Xnt)] Yxd
theorem Yfc:Xj Tryz.prog 106 3 Yav []=true:=by kernel_rfl
end Go.Proofs.YtolkimpelpnpbaaGreatDoor
namespace Go.Proofs.YtolkimpelpnpbaaGreatDoor
open Go Go.Ab
def Xmr:S2:=zL [] [] X69
def Xlk:=by
 have h:=Eq.refl Xmr
 conv at h=>rhs; cbv
 exact h
def Xms:S2:=zL [] [] X7a
def X8i:=by
 have h:=Eq.refl Xms
 conv at h=>rhs; cbv
 exact h
def Y4k:S2:=zL [] [Xmr,Xms] n21
def Y7z:=by
 have h:=fun (a b:S2)=>Eq.refl (zL [] [a,b] n21)
 conv at h=>intro a b; rhs; cbv
 have e:Y4k=_:=h Xmr Xms;exact e
theorem Zad:Yu2.lift []=some Y4k:=by kernel_rfl
def Xm1:S2:=zL [] [] X7h
def Xtw:=by
 have h:=Eq.refl Xm1
 conv at h=>rhs; cbv
 exact h
def Y4v:S2:=zL [] [Xm1] n41
def Ytz:=by
 have h:=fun (a:S2)=>Eq.refl (zL [] [a] n41)
 conv at h=>intro a; rhs; cbv
 have e:Y4v=_:=h Xm1;exact e
theorem Zao:Yvc.lift []=some Y4v:=by kernel_rfl
def Xm2:S2:=zL [] [] X7i
def Xty:=by
 have h:=Eq.refl Xm2
 conv at h=>rhs; cbv
 exact h
def Xm3:S2:=zL [] [] X7j
def X8m:=by
 have h:=Eq.refl Xm3
 conv at h=>rhs; cbv
 exact h
def Xhe:S2:=zL [] [Xm2,Xm3] Xy0
def Xtx:=by
 have h:=fun (a b:S2)=>Eq.refl (zL [] [a,b] Xy0)
 conv at h=>intro a b; rhs; cbv
 have e:Xhe=_:=h Xm2 Xm3;exact e
def Xdc:S2:=zL [] [Xhe] Xy1
def Xtz:=by
 have h:=fun (a:S2)=>Eq.refl (zL [] [a] Xy1)
 conv at h=>intro a; rhs; cbv
 have e:Xdc=_:=h Xhe;exact e
def Xhf:S2:=zL [] [] X7k
def W9:=by
 have h:=Eq.refl Xhf
 conv at h=>rhs; cbv
 exact h
def Y4w:S2:=zL [] [Xhf,Xdc] n42
def Y18:=by
 have h:=fun (a b:S2)=>Eq.refl (zL [] [a,b] n42)
 conv at h=>intro a b; rhs; cbv
 have e:Y4w=_:=h Xhf Xdc;exact e
theorem Zap:Yvd.lift []=some Y4w:=by kernel_rfl
def Xhh:S2:=zL [] [] X71
def Xud:=by
 have h:=Eq.refl Xhh
 conv at h=>rhs; cbv
 exact h
def Xnp:S2:=zL [] [] X72
def Xuf:=by
 have h:=Eq.refl Xnp
 conv at h=>rhs; cbv
 exact h
def Xnq:S2:=zL [] [] X73
def Xug:=by
 have h:=Eq.refl Xnq
 conv at h=>rhs; cbv
 exact h
def Xno:S2:=zL [] [Xnq,Xnp] Xy8
def Xue:=by
 have h:=fun (a b:S2)=>Eq.refl (zL [] [a,b] Xy8)
 conv at h=>intro a b; rhs; cbv
 have e:Xno=_:=h Xnq Xnp;exact e
def Y5e:S2:=zL [] [Xno,Xhh] n73
def Yt2:=by
 have h:=fun (a b:S2)=>Eq.refl (zL [] [a,b] n73)
 conv at h=>intro a b; rhs; cbv
 have e:Y5e=_:=h Xno Xhh;exact e
theorem Za5:Yvu.lift []=some Y5e:=by kernel_rfl
def Xm9:S2:=zL [] [] X7q
def Xt5:=by
 have h:=Eq.refl Xm9
 conv at h=>rhs; cbv
 exact h
def Y4z:S2:=zL [] [Xm9] n50
def Y8c:=by
 have h:=fun (a:S2)=>Eq.refl (zL [] [a] n50)
 conv at h=>intro a; rhs; cbv
 have e:Y4z=_:=h Xm9;exact e
theorem Zas:Yvg.lift []=some Y4z:=by kernel_rfl
def Xgn:S2:=zL [] [] Xx8
def Xbz:=by
 have h:=Eq.refl Xgn
 conv at h=>rhs; cbv
 exact h
def Jq:S2:=zL [] [Xgn] Xns
def Ja:=by
 have h:=fun (a:S2)=>Eq.refl (zL [] [a] Xns)
 conv at h=>intro a; rhs; cbv
 have e:Jq=_:=h Xgn;exact e
def Xgo:S2:=zL [] [Jq] Xnt
def Xb0:=by
 have h:=fun (a:S2)=>Eq.refl (zL [] [a] Xnt)
 conv at h=>intro a; rhs; cbv
 have e:Xgo=_:=h Jq;exact e
def Ym2:S2:=zL [] [Xgo] Yxd
def X07:=by
 have h:=fun (a:S2)=>Eq.refl (zL [] [a] Yxd)
 conv at h=>intro a; rhs; cbv
 have e:Ym2=_:=h Xgo;exact e
theorem Ymw:Yav.lift []=some Ym2:=by kernel_rfl
end Go.Proofs.YtolkimpelpnpbaaGreatDoor
namespace Go.Sx
open Go Go.Ab Go.Lx
def Xia (y:RSrc)(vs:List RVar)(c:Nat×Nat):D:=.agg [y.enc,.list 4 (vs.map RVar.enc),iD c.1,iD c.2]
def Yrd:Option (Int×Int)->D
 | none=>.agg [.str [],.str [],iD 0,iD 0]
 | some r=>.agg [.str [],.str [],iD r.1,iD r.2]
def Xfp (y:RSrc)(vs:List RVar):Prop:=∀v∈vs,∃s:Nat,v.schema=s/\s<y.schemas.length
end Go.Sx
namespace Go.Proofs.YtolkimpelpnpbaaGreatDoor
open Go Go.Ab Go.Lx Go.Sx
section
variable {P:Prg} (hP:P.p=Tryz.prog)
include hP
theorem X8x {y:RSrc}(hy:y.small){vs:List RVar}(hv:Xfp y vs)(hl:vs.length<=9223372036854775807){c:Nat×Nat}(t:RTerm){ob:Xb}{p:Nat}(hp:Xc ob p=some (.box 93 (.d (Xia y vs c)))){K:Out->Xb->Prop}
  (h:K (.ret (.tup [.d (Yrd (refO y vs t)),.d (.bool (refO y vs t).isSome)])) ob):ACall P 123 [.ptr p [],.d t.enc] ob K:=by
 refine Xn hP mixed Yp3 Yv8 TOk.nil fun _ hm=>?_;have hlt:=Yb hp;have e0:(Xa ob==p)=false:=by simp; omega
 have e1:(Xa ob+1==p)=false:=by simp; omega
 have cN:∀(s:B) {ob:Xb} {K:V->Prop},K (.d (.bool (Ww s)))->PCall P 39 [.d (.str s)] ob K:=fun s ob K h=>(Xux hP) _ (by simp) _ _ (by simpa using h);unfold Xia at hp;obtain⟨xs,hxs,s6⟩:∃xs,y.enc=D.agg xs/\D.shapes xs=[.leaf,.leaf,.leaf,.leaf,.leaf,.leaf]:=⟨_,rfl,rfl⟩
 have cF:∀{k:Int} {n:B} {ob:Xb} {K:V->Prop},((k<0\/(y.schemas.length:Int)<=k)->K (.tup [.d (.int .i64 0),.d (.bool false)]))->(∀i (hi:i<y.schemas.length),k=i->K (Yy (Ya RField.name y.schemas[i].fields n 0)))->PCall P 215 [.d (.agg xs),.d (.int .i64 k),.d (.str n)] ob K:=fun h0 h=>by rw[<-hxs]; exact X9f hP hy.schema hy.schemas h0 h
 rw[hxs]at hp;have no:Sx.refO y vs t=none->X6 (Xa ob) (K (Out.ret (V.tup [V.d (D.agg [D.str [],D.str [],D.int IntKind.i64 0,D.int IntKind.i64 0]),V.d (D.bool false)])))
   [V.d (D.agg [D.str [],D.str [],D.int IntKind.i64 0,D.int IntKind.i64 0]),V.d (D.bool false)]
   ((Xa ob+1,Ob.box 56 (V.d (D.agg [D.str [],D.str [],D.int IntKind.i64 0,D.int IntKind.i64 0])))::(Xa ob,Ob.box 36 (V.d (D.agg [D.str t.name,D.str t.path,iD t.var,iD t.field,iD t.n])))::ob):=fun e=>by
  rw[e]at h;exact⟨[],by simp,by simp[Xe]; simpa[Xe]using hm [],by simpa[Xe,Yrd]using h⟩
 simp[Ys8,RTerm.enc];refine cN _ ?_;cases h1:Ww t.name with
 | false=>simp; exact no (by simp[Sx.refO,h1])
 | true=>
  simp;refine cN _ ?_;cases h2:Ww t.path with
  | false=>simp; exact no (by simp[Sx.refO,h2])
  | true=>
   by_cases h3:t.n=0
   ·simp[h3,hp,e0,e1,s6];refine Xen hP hl _ ?_;rcases Z0 RVar.name t.name vs 0 with⟨f1,_⟩ | ⟨i,hi,f1,f2,_⟩
    ·simp[f1,h3];simp[h3]at no;refine no ?_;simp[Sx.refO,h1,h2,h3,f1];cases vs[0]?<;>simp
    ·simp only[Int.zero_add]at f1;obtain⟨s,hs1,hs2⟩:=hv _ (Uba hi);by_cases h4:(i:Int)=t.var
     ·have h4r:t.var=(i:Int):=h4.symm;simp[f1,h4r,hi,RVar.enc,hs1,hs2,hp,e0,e1,s6];simp[h3,h4r]at no;refine⟨fun hneg=>absurd hneg (by omega),?_⟩;refine cF (k:=(s:Int)) (fun hk=>by omega) (fun i' hi' hii=>?_);obtain rfl:s=i':=by omega
      rcases Z0 RField.name t.path y.schemas[s].fields 0 with⟨g1,_⟩ | ⟨g,hg,g1,g2,_⟩
      ·have hR:Sx.refO y vs t=none:=by simp[Sx.refO,h1,h2,h3,h4r,f1,hi,hs1,hs2,g1]
       rw[g1];simp[Yy];exact no hR
      ·simp only[Int.zero_add]at g1;rw[g1];have hgn:¬(g:Int)<0:=by omega
       by_cases h5:t.field=(g:Int)
       ·have hR:Sx.refO y vs t=some ((s:Int),(g:Int)):=by simp[Sx.refO,h1,h2,h3,h4r,f1,hi,hs1,hs2,g1,h5]
        rw[hR]at h;simp[Yy,h5,hgn,hi,hs1,hp,e0,e1];exact⟨[],by simp,by simp[Xe]; simpa[Xe]using hm [],by simpa[Xe,Yrd]using h⟩
       ·have hR:Sx.refO y vs t=none:=by
         have h5':¬(g:Int)=t.field:=fun e=>h5 e.symm;simp[Sx.refO,h1,h2,h3,h4r,f1,hi,hs1,hs2,g1,h5']
        have h5':¬(g:Int)=t.field:=fun e=>h5 e.symm;simp[Yy,h5',hgn];exact no hR
     ·simp[f1,h4];simp[h3]at no;exact no (by simp[Sx.refO,h1,h2,h3,f1,hi,h4])
   ·simp[h3]; exact no (by simp[Sx.refO,h3])
end
end Go.Proofs.YtolkimpelpnpbaaGreatDoor
namespace Go.Sx
open Go Go.Ab Go.Lx
def J1 (y:RSrc)(vs:List RVar)(l:List RTerm):List (Int×Int):=l.filterMap (refO y vs)
theorem Xuu {y:RSrc}{vs:List RVar}{a:RAtom}{x:RTerm}(hx:x∈[a.a,a.b])(h1:refO y vs x=none)(h2:x.isNum=false):Vh y vs a=false:=by
 rcases Uax.1 hx with rfl | hx
 ·simp[Vh,h1,h2]
 ·rw[Uci.1 hx]at h1 h2;simp[Vh,h1,h2]
def Xdh (y:RSrc)(op:Int)(r:Int×Int):Bool:=!(decide (op=2)||decide (op=3))||decide (Xsd y r=1)||decide (Xsd y r=2)
def inR (y:RSrc)(r:Int×Int):Prop:=∃(s:Nat) (hs:s<y.schemas.length) (g:Nat),r.1=s/\r.2=g/\g<y.schemas[s].fields.length
theorem Xa0 {y:RSrc}{vs:List RVar}{t:RTerm}{r:Int×Int}(hv:∀v∈vs,∃s:Nat,v.schema=s/\s<y.schemas.length)(h:refO y vs t=some r):inR y r:=by
 obtain⟨i,hi,s,hs,g,hg,_,_,h1,h2,_,h3,_⟩:=Xkz h;obtain⟨s',e1,e2⟩:=hv _ (Uba hi);have:s=s':=by omega
 subst this;exact⟨s,hs,g,by omega,h3,hg⟩
def pRD (r:Int×Int):D:=.agg [.str [],.str [],iD r.1,iD r.2]
end Go.Sx
namespace Go.Proofs.YtolkimpelpnpbaaGreatDoor
open Go Go.Ab Go.Lx Go.Sx
section
variable {P:Prg} (hP:P.p=Tryz.prog)
include hP
theorem X1l {y:RSrc}(hy:y.small){vs:List RVar}(hv:Xfp y vs)(hl:vs.length<=9223372036854775807){c:Nat×Nat}(a:RAtom){ob:Xb}{p:Nat}(hp:Xc ob p=some (.box 93 (.d (Xia y vs c)))){K:Out->Xb->Prop}
  (h:K (.ret (.d (.bool (Vh y vs a)))) ob):ACall P 73 [.ptr p [],.d a.enc] ob K:=by
 refine Xn hP mixed Y68 Za5 TOk.nil fun _ hm=>?_;have hlt:=Yb hp;have e0:(Xa ob==p)=false:=by simp; omega
 have e1:(Xa ob+1==p)=false:=by simp; omega
 have e2:(Xa ob+2==p)=false:=by simp; omega
 have e3:(Xa ob+3==p)=false:=by simp; omega
 have fin:∀(b:Bool) (ob2:Xb),b=Vh y vs a->Yv (Xe (Xa ob) []) ob2=ob->X6 (Xa ob) (K (.ret (.d (.bool b)))) [.d (.bool b)] ob2:=fun b ob2 e hd=>by
  subst e;exact⟨[],by simp,by rw[hd]; exact hm [],by rw[hd]; exact h⟩
 by_cases ho1:a.op<1
 ·simp[Yt2,RAtom.enc,RTerm.enc,ho1];refine fin _ _ (Eq.symm ?_) (by simp[Xe]);simp[Vh]; omega
 by_cases ho2:4<a.op
 ·simp[Yt2,RAtom.enc,RTerm.enc,ho1,ho2];refine fin _ _ (Eq.symm ?_) (by simp[Xe]);simp[Vh]; omega
 simp[Yt2,RAtom.enc,RTerm.enc,ho1,ho2];have hts:∀k,k<2->∃hk:k < [a.a,a.b].length,True:=fun k hk=>⟨hk,trivial⟩;refine ALoop.upto 2 (fun k=>[(0,.ptr p []),(3,.ptr (Xa ob) []),(5,.sl (Xa ob+1) (J1 y vs ([a.a,a.b].take k)).length),(25,.d (.list 5 [a.a.enc,a.b.enc])),(26,.d (.int .i64 2)),(27,.d (.int .i64 k))])
  (fun k=>(Xa ob+1,.arr 56 4 ((J1 y vs ([a.a,a.b].take k)).map pRD))::(Xa ob,.box 38 (.d a.enc))::ob) (fun k=>∀x∈[a.a,a.b].take k,(refO y vs x).isSome=true\/x.isNum=true) (by simp) (by simp[J1,RTerm.enc]) (by simp[J1,RAtom.enc,RTerm.enc]) ?_ ?_
 ·intro k hk hi R rn re rr rp;obtain⟨hk2,_⟩:=hts k hk;have hx:([a.a.enc,a.b.enc]:List D)[k]?.getD default=([a.a,a.b][k]).enc:=by
   rcases k with _ | _ | k
   ·rfl
   ·rfl
   ·omega
  have hki:(k:Int)<2:=by omega
  have htk:J1 y vs ([a.a,a.b].take (k+1))=J1 y vs ([a.a,a.b].take k)++(match refO y vs ([a.a,a.b][k]) with | some r=>[r] | none=>[]):=by
   rw[Ubj hk2];simp only[J1,List.filterMap_append,List.filterMap_cons,List.filterMap_nil];cases refO y vs [a.a,a.b][k]<;>rfl
  have hmem:[a.a,a.b][k]∈[a.a,a.b]:=Uba hk2;have hti:(∀x∈[a.a,a.b].take (k+1),(refO y vs x).isSome=true\/x.isNum=true)↔((refO y vs ([a.a,a.b][k])).isSome=true\/([a.a,a.b][k]).isNum=true):=by
   rw[Ubj hk2];constructor
   ·intro h; exact h _ (Ubu.2 (.inr (Uci.2 rfl)))
   ·intro h x hx;rcases Ubu.1 hx with hx | hx
    ·exact hi x hx
    ·rw[Uci.1 hx]; exact h
  rw[htk]at rn;replace rn:=fun kp sl' ob' h0=>rn kp sl' ob' (hti.2 h0);generalize [a.a,a.b][k]=tk at hx rn hmem htk hti;have hrk:(J1 y vs ([a.a,a.b].take k)).length<=1:=by
   refine Ual (List.length_filterMap_le _ _) ?_;simp; omega
  generalize J1 y vs ([a.a,a.b].take k)=rk at rn hrk htk;have ex:[tk.name,tk.path]=[tk.name,tk.path]:=rfl;simp[Xue,hki,hx];refine⟨rfl,?_⟩;refine X8x hP hy hv hl (c:=c) tk (p:=p) ?_ ?_
  ·simp[hp,e0,e1,e2]
  have wr:IntKind.i64.wrap ((k:Int)+1)=(k:Int)+1:=IntWalk.i64_in _ (by omega);have hm1:Xg (Xe (Xa ob+2) []) ob=true:=Xp 2 hm;have cI:∀{ob:Xb} {K:V->Prop},K (.d (.bool tk.isNum))->PCall P 124 [.d tk.enc] ob K:=fun h=>Xrr hP tk h;obtain⟨tx,htx,hts⟩:∃tx,tk.enc=D.agg tx/\D.shapes tx=[.leaf,.leaf,.leaf,.leaf,.leaf]:=⟨_,rfl,rfl⟩
  rw[htx]at cI⊢;cases hr:refO y vs tk with
  | none=>
   simp[Yrd,Xug,hts];refine cI ?_;cases hn:tk.isNum with
   | true=>
    simp[Xuf,wr];rw[hr]at rn;refine rn [] _ _ (.inr hn) (by simp) (by simp[Xe]) (by simp[Xe]; omega) (by simpa[Xe]using hm1)
   | false=>
    simp;refine rr _ _ ?_;simp;exact fin _ _ (Eq.symm (Xuu hmem hr hn)) (by simp[Xe])
  | some r=>
   simp[Yrd,Xug,hts];refine⟨by omega,?_⟩;simp[Xuf,wr];rw[hr]at rn;refine rn [] _ _ (.inl rfl) (by simp) (by simp[Xe,pRD]) (by simp[Xe]; omega) (by simpa[Xe]using hm1)
 ·intro hi R re rr rp;have h2:[a.a,a.b].take 2=[a.a,a.b]:=rfl;rw[h2]at hi;have hir:∀r∈J1 y vs [a.a,a.b],inR y r:=by
   intro r hr;obtain⟨x,_,hx⟩:=List.mem_filterMap.1 hr;exact Xa0 hv hx
  simp[Xue];refine re _ _ _ ?_;clear re rr rp;have cA:∀(r s:Int×Int) {ob:Xb} {K:V->Prop},K (.d (.bool (Qm y r.1 r.2 s.1 s.2)))->PCall P 125 [.d y.enc,.d (.agg [.str [],.str [],iD r.1,iD r.2]),.d (.agg [.str [],.str [],iD s.1,iD s.2])] ob K:=fun r s {ob K} h=>X9a hP hy h;have hp2:=hp;unfold Xia at hp2;obtain⟨xs,hxs,s6⟩:∃xs,y.enc=D.agg xs/\D.shapes xs=[.leaf,.leaf,.leaf,.leaf,.leaf,.leaf]:=⟨_,rfl,rfl⟩
  rw[hxs]at hp2 cA;have tail:∀(rk:List (Int×Int)),rk.length<=2->(∀r∈rk,inR y r)->rk.all (Xdh y a.op)=Vh y vs a->ALoop [0,3,72,73,74] (Yr P [] Xhh)
    (Y7 2 (W3 (Yr P [] ((S2.rg [] [(4,E.a (A.bool true))] []).seq S2.ret) (Va (Xa ob) [RV.t 4] K)) (Va (Xa ob) [RV.t 4] K)))
    [(0,.ptr p []),(3,.ptr (Xa ob) []),(72,.sl (Xa ob+1) rk.length),(73,.d (.int .i64 rk.length)),(74,.d (.int .i64 0))] ((Xa ob+1,.arr 56 4 (rk.map pRD))::(Xa ob,.box 38 (.d a.enc))::ob):=by
   intro rk hrl hri hra;refine ALoop.upto rk.length (fun k=>[(0,.ptr p []),(3,.ptr (Xa ob) []),(72,.sl (Xa ob+1) rk.length),(73,.d (.int .i64 rk.length)),(74,.d (.int .i64 k))]) (fun k=>(Xa ob+1,.arr 56 4 (rk.map pRD))::(Xa ob,.box 38 (.d a.enc))::ob) (fun k=>(rk.take k).all (Xdh y a.op)=true) (by simp) (by simp) rfl ?_ ?_
   ·intro k hk hi R rn re rr rp;have hm1:Xg (Xe (Xa ob+2) []) ob=true:=Xp 2 hm;obtain⟨s,hs,g,h1,h2,h3⟩:=hri _ (Uba hk);have hkn:Xsd y rk[k]=(y.schemas[s].fields[g]).type.kind:=by
     simp only[Xsd,h1,h2,Xjd hs h3]
    have wr:IntKind.i64.wrap ((k:Int)+1)=(k:Int)+1:=IntWalk.i64_in _ (by omega);have hon:Xdh y a.op rk[k]=(!(decide (a.op=2)||decide (a.op=3))||decide ((y.schemas[s].fields[g]).type.kind=1)||decide ((y.schemas[s].fields[g]).type.kind=2)):=by simp only[Xdh,hkn]
    have htk:(rk.take (k+1)).all (Xdh y a.op)=Xdh y a.op rk[k]:=by
     rw[Ubj hk,Uch,hi]; simp
    rw[htk]at rn;have hp3:=hp2;rw[<-hxs]at hp3;simp only[RSrc.enc]at hp3;simp[Xud,hk,pRD,hp3,e0,e1,e2,e3,h1,h2,hs,h3,RSchema.enc,RField.enc,RType.enc,RAtom.enc];constructor
    ·intro c1 c2 c3;refine rr _ _ ?_;simp;refine fin false _ ?_ (by simp[Xe]);rw[<-hra];refine Eq.symm (Ucm.2 fun hall=>?_);have:=Ubt.1 hall _ (Uba hk);rw[hon]at this;simp[c2,c3]at this;omega
    ·intro c1;refine rn [] _ _ ?_ (by simp[wr]) (by simp[Xe,RAtom.enc]) (by simp[Xe]; omega) (by simpa[Xe]using hm1);rw[hon];by_cases d1:a.op=2\/a.op=3
     ·by_cases d2:y.schemas[s].fields[g].type.kind=1
      ·simp[d2]
      ·simp[c1 d1 d2]
     ·have d3:a.op ≠ 2:=fun e=>d1 (.inl e);have d4:a.op ≠ 3:=fun e=>d1 (.inr e);simp[d3,d4]
   ·intro hi R re rr rp;simp[Xud];refine re _ _ _ ?_;simp;rw[Ucq]at hi;rw[hi]at hra;exact fin _ _ hra (by simp[Xe])
  have ord1:∀r:Int×Int,Yq6 y a.op (some r)=Xdh y a.op r:=fun r=>rfl;have hop:(decide (1<=a.op)&&decide (a.op<=4))=true:=by simp; omega
  cases ra:refO y vs a.a with
  | none=>
   cases rb:refO y vs a.b with
   | none=>
    simp[J1,ra,rb];refine⟨⟨_,_,_,⟨rfl,rfl,rfl⟩,rfl⟩,?_⟩;refine fin false _ ?_ ?_
    ·simp[Vh,ra,rb]
    ·simp[Xe]
   | some s=>
    have hn:a.a.isNum=true:=by
     rcases hi a.a (by simp) with h1 | h1
     ·rw[ra]at h1; cases h1
     ·exact h1
    simp[J1,ra,rb];have:=tail [s] (by simp) (by intro r hr; rw[Uci.1 hr]; exact Xa0 hv rb) (by
     simp only[Vh,hop,ra,rb,hn,ord1]; simp[Yq6])
    simpa using this
  | some r=>
   cases rb:refO y vs a.b with
   | none=>
    have hn:a.b.isNum=true:=by
     rcases hi a.b (by simp) with h1 | h1
     ·rw[rb]at h1; cases h1
     ·exact h1
    simp[J1,ra,rb];have:=tail [r] (by simp) (by intro r' hr; rw[Uci.1 hr]; exact Xa0 hv ra) (by
     simp only[Vh,hop,ra,rb,hn,ord1]; simp[Yq6])
    simpa using this
   | some s=>
    simp[J1,ra,rb,hp2,e0,e1,s6,pRD];refine cA r s ?_;cases hal:Qm y r.1 r.2 s.1 s.2 with
    | false=>
     simp;refine fin false _ ?_ ?_
     ·simp[Vh,ra,rb,hal]
     ·simp[Xe]
    | true=>
     simp;have:=tail [r,s] (by simp) (by
      intro r' hr;rcases Uax.1 hr with rfl | hr
      ·exact Xa0 hv ra
      ·rw[Uci.1 hr]; exact Xa0 hv rb) (by
      simp only[Vh,hop,ra,rb,hal,ord1]; simp)
     simpa[pRD]using this
end
end Go.Proofs.YtolkimpelpnpbaaGreatDoor
namespace Go.Sx
open Go Go.Ab Go.Lx
theorem Xaw (y:RSrc)(vs:List RVar):∀(a b:List RForm) (d:Nat) (c:Nat×Nat),RForm.okL y vs (a++b) d c=if (RForm.okL y vs a d c).1 then RForm.okL y vs b d (RForm.okL y vs a d c).2 else RForm.okL y vs a d c
 | [],b,d,c=>by simp[RForm.okL]
 | f::r,b,d,c=>by
  have ih:=Xaw y vs r b d;simp only[List.cons_append,RForm.okL];by_cases h:(RForm.okS y vs f d c).1=true
  ·simp[h,ih]
  ·simp[h]
theorem Yfe (y:RSrc)(vs:List RVar)(x:RForm)(d:Nat)(c:Nat×Nat):RForm.okL y vs [x] d c=x.okS y vs d c:=by
 rcases h:x.okS y vs d c with⟨b,s⟩
 cases b<;>simp[RForm.okL,h]
theorem X5d {y:RSrc}{vs:List RVar}{l:List RForm}{d k:Nat}{c:Nat×Nat}(hk:k<l.length)(hi:(RForm.okL y vs (l.take k) d c).1=true):RForm.okL y vs (l.take (k+1)) d c=l[k].okS y vs d (RForm.okL y vs (l.take k) d c).2:=by
 rw[Ubj hk,Xaw,Uby hi,Yfe]
theorem X5e {y:RSrc}{vs:List RVar}{l:List RForm}{d k:Nat}{c:Nat×Nat}(h:(RForm.okL y vs (l.take k) d c).1=false):RForm.okL y vs l d c=RForm.okL y vs (l.take k) d c:=by
 have e:=Xaw y vs (l.take k) (l.drop k) d c;rw[Uao,h]at e;simpa using e
@[simp] theorem RForm.enc_shape (f:RForm):f.enc.shape=.node [.leaf,.leaf,.leaf,.node [.leaf,.node [.leaf,.leaf,.leaf,.leaf,.leaf],.node [.leaf,.leaf,.leaf,.leaf,.leaf]]]:=by rw[RForm.enc_eq]; rfl
@[simp] theorem RForm.enc_sz (f:RForm):f.enc.sz=14:=by rw[RForm.enc_eq]; simp[RAtom.enc,RTerm.enc,D.sz,D.szs]
@[simp] theorem RForm.enc_agg (f:RForm):f.enc.isAgg=true:=by rw[RForm.enc_eq]; rfl
mutual
theorem Yq5 (y:RSrc)(vs:List RVar):∀(f:RForm) (d:Nat) (c:Nat×Nat),(f.okS y vs d c).1=true->(f.okS y vs d c).2.1<=32
 | .mk op n k a,d,c,h=>by
  unfold RForm.okS at h⊢;split at h
  ·cases h
  rename_i h0;simp only[h0,Uay];split at h
  ·rename_i h1;simp only[h1,Ubb];split at h
   ·rename_i h2;simp only[h2,Ubb];exact Xq0 y vs k (d+1) (c.1+1,c.2) (by simp only; omega) h
   ·cases h
  rename_i h1;simp only[h1,Uay];split at h
  ·rename_i h2;simp only[h2,Ubb];split at h
   ·rename_i h3;simp only[h3,Ubb];exact Xq0 y vs k (d+1) (c.1+1,c.2) (by simp only; omega) h
   ·cases h
  rename_i h2;simp only[h2,Uay];split at h
  ·rename_i h3;simp only[h3,Ubb]; omega
  rename_i h3;simp only[h3,Uay];split at h
  ·rename_i h4;simp only[h4,Ubb]; omega
  ·cases h
theorem Xq0 (y:RSrc)(vs:List RVar):∀(l:List RForm) (d:Nat) (c:Nat×Nat),c.1<=32->(RForm.okL y vs l d c).1=true->(RForm.okL y vs l d c).2.1<=32
 | [],d,c,hc,h=>by simpa[RForm.okL]using hc
 | f::r,d,c,hc,h=>by
  unfold RForm.okL at h⊢;split at h
  ·rename_i h1;simp only[h1,Ubb];exact Xq0 y vs r d _ (Yq5 y vs f d c h1) h
  ·cases h
end
theorem Yq4 (y:RSrc)(vs:List RVar)(f:RForm)(d:Nat)(c:Nat×Nat):f.okS y vs d c =
  if 32<c.1+1\/8<d\/8<f.kids.length then (false,(c.1+1,c.2))
  else if f.op=1\/f.op=2 then (if f.atom.zero&&decide (f.n=0) then RForm.okL y vs f.kids (d+1) (c.1+1,c.2) else (false,(c.1+1,c.2)))
  else if f.op=3 then (if f.atom.zero&&decide (1<=f.n)&&decide (f.n<=f.kids.length) then RForm.okL y vs f.kids (d+1) (c.1+1,c.2) else (false,(c.1+1,c.2)))
  else if f.op=4 then (f.atom.zero&&decide (f.kids.length=0)&&decide (0<=f.n)&&decide (f.n<vs.length),(c.1+1,c.2))
  else if f.op=5 then (decide (f.n=0)&&decide (f.kids.length=0)&&decide (c.2+1<=8)&&Vh y vs f.atom,(c.1+1,c.2+1))
  else (false,(c.1+1,c.2)):=by
 cases f; rw[RForm.okS]; rfl
theorem Xww (a:RAtom):a.enc.eqb (.agg [.int .i64 0,.agg [.str [],.str [],.int .i64 0,.int .i64 0,.int .i64 0],.agg [.str [],.str [],.int .i64 0,.int .i64 0,.int .i64 0]])=a.zero:=by
 obtain⟨o,⟨n1,p1,v1,f1,m1⟩,⟨n2,p2,v2,f2,m2⟩⟩:=a;rw[Ucl];simp[RAtom.enc,RTerm.enc,RAtom.zero,RTerm.zero,D.eqb,D.eqbs,and_assoc]
def X5h (l:List RVar):Bool:=l.any fun v=>!v.other
theorem Xze (l:List RVar)(v:RVar):X5h (l++[v])=(X5h l||!v.other):=by simp[X5h]
theorem X53 (y:RSrc)(vs:List RVar):Q6 y vs=(decide (1<=vs.length)&&decide (vs.length<=3)&&(vs.zipIdx.all fun p=>Xs9 y vs p.2 p.1)&&X5h vs):=rfl
end Go.Sx
namespace Go.Proofs.YtolkimpelpnpbaaGreatDoor
open Go Go.Ab Go.Lx Go.Sx
section
variable {P:Prg} (hP:P.p=Tryz.prog)
include hP
theorem X1q {y:RSrc}(hy:y.small){vs:List RVar}(hl:vs.length<=9223372036854775807){c:Nat×Nat}{ob:Xb}{p:Nat}(hp:Xc ob p=some (.box 93 (.d (Xia y vs c)))){K:Out->Xb->Prop}
  (h:K (.ret (.d (.bool (Q6 y vs)))) ob):ACall P 41 [.ptr p []] ob K:=by
 refine Xn hP mixed Y6s Zao TOk.nil fun _ hm=>?_;have hlt:=Yb hp;have e0:(Xa ob==p)=false:=by simp; omega
 have e1:(Xa ob+1==p)=false:=by simp; omega
 have fin:∀(b:Bool) (ob2:Xb),b=Q6 y vs->Yv (Xe (Xa ob) []) ob2=ob->X6 (Xa ob) (K (.ret (.d (.bool b)))) [.d (.bool b)] ob2:=fun b ob2 e hd=>by
  subst e;exact⟨[],by simp,by rw[hd]; exact hm [],by rw[hd]; exact h⟩
 unfold Xia at hp;obtain⟨xs,hxs,s6⟩:∃xs,y.enc=D.agg xs/\D.shapes xs=[.leaf,.leaf,.leaf,.leaf,.leaf,.leaf]:=⟨_,rfl,rfl⟩
 have cS:∀(n:B) {ob:Xb} {K:V->Prop},K (Yy (Ya RSchema.name y.schemas n 0))->PCall P 71 [.d (.agg xs),.d (.str n)] ob K:=fun n ob K h=>by rw[<-hxs]; exact X11 hP hy.schemas h
 have cN:∀(s:B) {ob:Xb} {K:V->Prop},K (.d (.bool (Ww s)))->PCall P 39 [.d (.str s)] ob K:=fun s ob K h=>(Xux hP) _ (by simp) _ _ (by simpa using h);rw[hxs]at hp;by_cases h1:vs.length<1
 ·have h1':vs=[]:=Ucs.1 (by omega);subst h1';simp[Ytz,hp,s6];refine fin false _ ?_ ?_
  ·simp[Q6]
  ·simp[Xe]
 by_cases h2:3<vs.length
 ·have h1i:¬(vs.length:Int)<1:=by omega
  have h2i:(3:Int)<vs.length:=by omega
  simp[Ytz,hp,s6,h1i,h2i];refine fin false _ ?_ ?_
  ·simp[Q6]; omega
  ·simp[Xe]
 have h1i:¬(vs.length:Int)<1:=by omega
 have h2i:¬(3:Int)<vs.length:=by omega
 simp[Ytz,hp,s6,h1i,h2i];have hvb:Q6 y vs=((vs.zipIdx.all fun p=>Xs9 y vs p.2 p.1)&&X5h vs):=by
  have a1:1<=vs.length:=by omega
  have a2:vs.length<=3:=by omega
  rw[X53,decide_eq_true a1,decide_eq_true a2]; rfl
 have hall:(∀i (hi:i<vs.length),Xs9 y vs i vs[i]=true)->(vs.zipIdx.all fun p=>Xs9 y vs p.2 p.1)=true:=by
  intro hh;rw[Ubt];rintro⟨v,i⟩ hm;have:=List.mem_zipIdx_iff_getElem?.1 hm;obtain⟨hi,hv⟩:=Uan.1 this;simp only at hi hv⊢;rw[<-hv]; exact hh i hi
 have hbad:∀i (hi:i<vs.length),Xs9 y vs i vs[i]=false->Q6 y vs=false:=by
  intro i hi hf;rw[Ucm];intro ht;have:=Xrc ht i hi;rw[hf]at this; cases this
 refine ALoop.upto vs.length (fun k=>[(0,.ptr p []),(3,.d (.bool (X5h (vs.take k)))),(25,.d (.list 4 (vs.map RVar.enc))),(26,.d (.int .i64 vs.length)),(27,.d (.int .i64 k))]) (fun k=>ob) (fun k=>∀i (hi:i<vs.length),i<k->Xs9 y vs i vs[i]=true) (by intro i hi h; omega) (by simp[X5h]) rfl ?_ ?_
 ·intro k hk hi R rn re rr rp;have wr:IntKind.i64.wrap ((k:Int)+1)=(k:Int)+1:=IntWalk.i64_in _ (by omega);have hnx:∀(hv:Xs9 y vs k vs[k]=true),∀i (hi:i<vs.length),i<k+1->Xs9 y vs i vs[i]=true:=by
   intro hv i hi2 hlt;rcases Uaa i k with h1 | h1
   ·exact hi i hi2 h1
   ·have:i=k:=by omega
    subst this; exact hv
  have hany:X5h (vs.take (k+1))=(X5h (vs.take k)||!vs[k].other):=by
   rw[Ubj hk,Xze]
  rw[hany]at rn;have hb:=hbad k hk;have hv0:Xs9 y vs k vs[k]=(decide (0<=vs[k].schema)&&decide (Ya RSchema.name y.schemas vs[k].kind 0=vs[k].schema)&&Ww vs[k].kind&&Ww vs[k].name&&decide (Ya RVar.name vs vs[k].name 0=k)):=rfl;have hen:((vs.map RVar.enc)[k]?.getD default)=RVar.enc vs[k]:=by simp[hk]
  generalize hvk:vs[k]=v at *;simp[Xtw,hk,hen,hvk,RVar.enc,hp,s6,e0,e1];refine cS _ ?_;rcases Z0 RSchema.name v.kind y.schemas 0 with⟨f1,_⟩ | ⟨i,hi2,f1,f2,_⟩
  ·have hF:Q6 y vs=false:=hb (by
    rw[hv0,f1];by_cases h0:0<=v.schema
    ·have:¬(-1:Int)=v.schema:=by omega
     simp[this]
    ·simp[h0])
   rw[f1];simp[Yy];refine rr _ _ ?_;simp;exact fin false _ hF.symm (by simp[Xe])
  ·simp only[Int.zero_add]at f1;have hin:¬(i:Int)<0:=by omega
   by_cases g1:(i:Int)=v.schema
   ·have g1':v.schema=(i:Int):=g1.symm;have g0:(0:Int)<=i:=by omega
    rw[f1];simp[Yy,hin,g1'];refine cN _ ?_;cases g2:Ww v.kind with
    | false=>
     simp;refine rr _ _ ?_;simp;exact fin false _ (hb (by rw[hv0]; simp[g2])).symm (by simp[Xe])
    | true=>
     simp;refine cN _ ?_;cases g3:Ww v.name with
     | false=>
      simp;refine rr _ _ ?_;simp;exact fin false _ (hb (by rw[hv0]; simp[g3])).symm (by simp[Xe])
     | true=>
      simp;refine Xen hP hl _ ?_;by_cases g4:Ya RVar.name vs v.name 0=(k:Int)
      ·simp[g4];refine rn [] _ _ (hnx (by rw[hv0,f1]; simp[g1',g2,g3,g4,g0])) (by simp[wr]) (by simp[Xe]) (by simp[Xe]; omega) (by simpa[Xe]using hm [])
      ·simp[g4];refine rr _ _ ?_;simp;exact fin false _ (hb (by rw[hv0]; simp[g4])).symm (by simp[Xe])
   ·have hF:Q6 y vs=false:=hb (by rw[hv0,f1]; simp[g1]);have g1b:((i:Int) != v.schema)=true:=by simpa using g1
    rw[f1];simp[Yy,hin,g1,g1b];refine rr _ _ ?_;simp;exact fin false _ hF.symm (by simp[Xe])
 ·intro hi R re rr rp;simp[Xtw];refine re _ _ _ ?_;simp;refine fin _ _ ?_ ?_
  ·rw[hvb,hall (fun i hi2=>hi i hi2 hi2)]; simp
  ·simp[Xe]
theorem Xcg {y:RSrc}(hy:y.small){vs:List RVar}(hv:Xfp y vs)(hl:vs.length<=3):∀(f:RForm),f.small->∀(d:Nat),d<=9->∀(c:Nat×Nat),c.1<=32->c.2<=8->∀{ob:Xb} {p:Nat},Xc ob p=some (.box 93 (.d (Xia y vs c)))->∀{K:Out->Xb->Prop},
  K (.ret (.d (.bool (f.okS y vs d c).1))) (setO ob p (.box 93 (.d (Xia y vs (f.okS y vs d c).2))))->ACall P 42 [.ptr p [],.d f.enc,.d (.int .i64 d)] ob K:=fun f hf d hd c hc1 hc2 ob p hp K h=>by
 have ih:∀k∈f.kids,∀(d:Nat),d<=9->∀(c:Nat×Nat),c.1<=32->c.2<=8->∀{ob:Xb} {p:Nat},Xc ob p=some (.box 93 (.d (Xia y vs c)))->∀{K:Out->Xb->Prop},K (.ret (.d (.bool (k.okS y vs d c).1))) (setO ob p (.box 93 (.d (Xia y vs (k.okS y vs d c).2))))->ACall P 42 [.ptr p [],.d k.enc,.d (.int .i64 d)] ob K:=fun k hk d hd c hc1 hc2 _ _ hp _ h=>Xcg hy hv hl k ((RForm.small_eq hf).2 k hk) d hd c hc1 hc2 hp h;have hkl:=(RForm.small_eq hf).1;refine Xn hP mixed Y6t Zap TOk.nil fun _ hm=>?_;have hlt:=Yb hp;have e0:(Xa ob==p)=false:=by simp; omega
 have e1:(Xa ob+1==p)=false:=by simp; omega
 have w1:IntKind.i64.wrap ((c.1:Int)+1)=(c.1:Int)+1:=IntWalk.i64_in _ (by omega);unfold Xia at hp;obtain⟨xs,hxs,s6⟩:∃xs,y.enc=D.agg xs/\D.shapes xs=[.leaf,.leaf,.leaf,.leaf,.leaf,.leaf]:=⟨_,rfl,rfl⟩
 rw[hxs]at hp;have ha1:f.atom.enc.shape.size=11:=by rw[D.size_shape]; simp[RAtom.enc,RTerm.enc,D.sz,D.szs]
 have fin:∀b c',f.okS y vs d c=(b,c')->∀ob2,Yv (Xe (Xa ob) []) ob2=setO ob p (.box 93 (.d (.agg [.agg xs,.list 4 (vs.map RVar.enc),iD c'.1,iD c'.2])))->X6 (Xa ob) (K (.ret (.d (.bool b)))) [.d (.bool b)] ob2:=by
  intro b c' e ob2 hd;rw[e]at h;simp only[Xia,hxs]at h;refine⟨[],by simp,?_,by rw[hd]; exact h⟩;rw[hd];exact Xl _ _ _ _ _ (hm _) (by simp)
 have hS:=Yq4 y vs f d c;by_cases hbig:32<c.1+1\/8<d\/8<f.kids.length
 ·have hb':(32<(c.1:Int)+1\/8<(d:Int))\/8<(f.kids.length:Int):=by omega
  rw[Uby hbig]at hS;simp[Y18,RForm.enc_eq f,hp,e0,e1,s6,w1,hb'];refine⟨?_,fun a1 a2 a3=>by omega⟩;refine fin _ _ hS _ ?_;simp[Xe]
 have q1:(c.1:Int)+1<=32:=by omega
 have q2:(d:Int)<=8:=by omega
 have q3:(f.kids.length:Int)<=8:=by omega
 have q1':¬(32:Int)<(c.1:Int)+1:=by omega
 have q2':¬(8:Int)<(d:Int):=by omega
 have q3':¬(8:Int)<(f.kids.length:Int):=by omega
 rw[Ubo hbig]at hS;simp[Y18,RForm.enc_eq f,hp,e0,e1,s6,w1,q1,q2,q3,q1',q2',q3',ha1,Xww];refine⟨rfl,by simp[RAtom.enc,RTerm.enc,KT.fits,KT.fitss],?_⟩;have kids:∀(j:Nat) (v:V) (o n:Int),(j=47\/j=64)->f.okS y vs d c=RForm.okL y vs f.kids (d+1) (c.1+1,c.2)->Yr P [] Xdc (Va (Xa ob) [RV.t 6] K)
   [(0,V.ptr p []),(2,V.d (D.int IntKind.i64 ↑d)),(4,V.ptr (Xa ob) []),(j,v)]
   ((Xa ob,Ob.box 40 (V.d (D.agg [iD o,iD n,D.list 14 (List.map RForm.enc f.kids),f.atom.enc])))::
    setO ob p (Ob.box 93 (V.d (D.agg [D.agg xs,D.list 4 (List.map RVar.enc vs),D.int IntKind.i64 (↑c.fst+1),iD ↑c.snd])))):=by
  intro j v o n hj hK;have go:ALoop [0,2,121,122,123] (Yr P [] Xhe) (Y7 1 (W3 (Yr P [] ((S2.rg [] [(6,E.a (A.bool true))] []).seq S2.ret) (Va (Xa ob) [RV.t 6] K)) (Va (Xa ob) [RV.t 6] K)))
    [(0,V.ptr p []),(2,V.d (D.int IntKind.i64 ↑d)),(121,V.d (D.list 14 (List.map RForm.enc f.kids))),(122,V.d (D.int IntKind.i64 ↑f.kids.length)),(123,V.d (D.int IntKind.i64 0))]
    ((Xa ob,Ob.box 40 (V.d (D.agg [iD o,iD n,D.list 14 (List.map RForm.enc f.kids),f.atom.enc])))::
    setO ob p (Ob.box 93 (V.d (D.agg [D.agg xs,D.list 4 (List.map RVar.enc vs),D.int IntKind.i64 (↑c.fst+1),iD ↑c.snd])))):=by
   refine ALoop.upto f.kids.length (fun k=>[(0,V.ptr p []),(2,V.d (D.int IntKind.i64 ↑d)),(121,V.d (D.list 14 (List.map RForm.enc f.kids))),(122,V.d (D.int IntKind.i64 ↑f.kids.length)),(123,V.d (D.int IntKind.i64 k))])
    (fun k=>(Xa ob,Ob.box 40 (V.d (D.agg [iD o,iD n,D.list 14 (List.map RForm.enc f.kids),f.atom.enc])))::
     setO ob p (Ob.box 93 (V.d (D.agg [D.agg xs,D.list 4 (List.map RVar.enc vs),iD (RForm.okL y vs (f.kids.take k) (d+1) (c.1+1,c.2)).2.1,iD (RForm.okL y vs (f.kids.take k) (d+1) (c.1+1,c.2)).2.2]))))
    (fun k=>(RForm.okL y vs (f.kids.take k) (d+1) (c.1+1,c.2)).1=true) (by simp[RForm.okL]) (by simp) (by simp[RForm.okL]) ?_ ?_
   ·intro k hk hi R rn re rr rp;have wr:IntKind.i64.wrap ((k:Int)+1)=(k:Int)+1:=IntWalk.i64_in _ (by omega);have wd:IntKind.i64.wrap ((d:Int)+1)=((d+1:Nat):Int):=by rw[IntWalk.i64_in _ (by omega)]; push_cast; rfl
    have b1:=Xq0 y vs (f.kids.take k) (d+1) (c.1+1,c.2) (by simp only; omega) hi;have b2:=(Jt y vs (f.kids.take k) (d+1) (c.1+1,c.2) hc2 hi).2.1;have hstep:=X5d hk hi;have hfull:(RForm.okS y vs f.kids[k] (d+1) (RForm.okL y vs (f.kids.take k) (d+1) (c.1+1,c.2)).2).1=false->f.okS y vs d c=(false,(RForm.okS y vs f.kids[k] (d+1) (RForm.okL y vs (f.kids.take k) (d+1) (c.1+1,c.2)).2).2):=by
     intro hf;have hf':=hf;rw[<-hstep]at hf';rw[hK,X5e hf',hstep];exact Prod.ext hf rfl
    rw[hstep]at rn;have hmem:f.kids[k]∈f.kids:=Uba hk;generalize RForm.okL y vs (f.kids.take k) (d+1) (c.1+1,c.2)=st at rn hfull b1 b2 hi hstep⊢;have hagg:(match V.d f.kids[k].enc with | V.d (D.agg xs)=>true | V.agg xs=>true | x=>false)=true:=by rw[RForm.enc_eq]
    simp[Xtx,hk,wd];refine⟨hagg,?_⟩;refine ih _ hmem (d+1) (by omega) st.2 b1 b2 (p:=p) ?_ ?_
    ·simp[hp,e0,e1,Xia,hxs]
    generalize RForm.okS y vs f.kids[k] (d+1) st.2=res at rn hfull hstep⊢;cases hr:res.1 with
    | false=>
     simp[Xty,e0,e1];refine rr _ _ ?_;simp;refine fin false _ (hfull hr) _ ?_;simp[Xe,Xia,hxs]
    | true=>
     simp[Xty,X8m,e0,e1,wr];refine rn [] _ _ hr (by simp) ?_ (by simp[Xe]; omega) ?_
     ·simp[Xe,Xia,hxs]
     ·simp[Xe];exact Xl _ _ _ _ _ (Xp 1 hm) (by simp)
   ·intro hi R re rr rp;rw[Ucq]at hi;simp[Xtx];refine re _ _ _ ?_;simp;refine fin true _ (by rw[hK]; exact Prod.ext hi rfl) _ ?_;simp[Xe]
  rcases hj with rfl | rfl
  ·simp[Xtz];exact go
  ·simp[Xtz];exact go
 have o1:f.op=1->(f.op==1)=true:=fun e=>by simp[e]
 have zcase:(f.op=1\/f.op=2)->Yr P [] Xhf
    (Y7 0 (W3 (Yr P [] Xdc (Va (Xa ob) [RV.t 6] K)) (Va (Xa ob) [RV.t 6] K)))
    [(0,V.ptr p []),(2,V.d (D.int IntKind.i64 ↑d)),(4,V.ptr (Xa ob) []),(7,V.d (D.bool f.atom.zero)),(37,V.d (iD f.op)),(38,V.d (D.bool true))]
    ((Xa ob,Ob.box 40 (V.d (D.agg [iD f.op,iD f.n,D.list 14 (List.map RForm.enc f.kids),f.atom.enc])))::
     setO ob p (Ob.box 93 (V.d (D.agg [D.agg xs,D.list 4 (List.map RVar.enc vs),D.int IntKind.i64 (↑c.fst+1),iD ↑c.snd])))):=by
  intro ho;rw[Uby ho]at hS;cases hz:f.atom.zero with
  | false=>
   simp[W9];simp[hz]at hS;exact fin _ _ hS _ (by simp[Xe])
  | true=>
   by_cases hn:f.n=0
   ·simp[W9,hn];simp[hz,hn]at hS;exact kids 47 _ _ _ (.inl rfl) hS
   ·simp[W9,hn];simp[hz,hn]at hS;exact fin _ _ hS _ (by simp[Xe])
 refine⟨fun ho=>by rw[o1 ho]; exact zcase (.inl ho),fun ho=>?_⟩;by_cases ho2:f.op=2
 ·have:=zcase (.inr ho2);simpa[ho2]using this
 have ho12:¬(f.op=1\/f.op=2):=by omega
 rw[Ubo ho12]at hS;by_cases ho3:f.op=3
 ·rw[Uby ho3]at hS;simp[W9,ho3];constructor
  ·intro hc3;have:(f.atom.zero&&decide (1<=f.n)&&decide (f.n<=f.kids.length))=false:=by
    rcases hc3 with (h1 | h1) | h1
    ·simp[h1]
    ·have:¬1<=f.n:=by omega
     simp[this]
    ·have:¬f.n<=f.kids.length:=by omega
     simp[this]
   rw[this]at hS;simp at hS;exact fin _ _ hS _ (by simp[Xe])
  ·intro h1 h2 h3;simp[h1,h2,h3]at hS;exact kids 64 _ _ _ (.inr rfl) hS
 ·rw[Ubo ho3]at hS;by_cases ho4:f.op=4
  ·rw[Uby ho4]at hS;simp[W9,ho4,hp,e0,e1,s6];simp at hS;exact fin _ _ hS _ (by simp[Xe])
  ·rw[Ubo ho4]at hS;by_cases ho5:f.op=5
   ·rw[Uby ho5]at hS;have w2:IntKind.i64.wrap ((c.2:Int)+1)=(c.2:Int)+1:=IntWalk.i64_in _ (by omega);by_cases hok:f.n=0/\f.kids=[]/\c.2+1<=8
    ·obtain⟨k1,k2,k3⟩:=hok;have k3i:(c.2:Int)+1<=8:=by omega
     have hagg:(match V.d f.atom.enc with | V.d (D.agg xs)=>true | V.agg xs=>true | x=>false)=true:=rfl;have k3n:c.2<=7:=by omega
     simp[W9,ho5,hp,e0,e1,s6,w2,k1,k2,k3i,ha1];refine⟨rfl,?_⟩;refine X1l hP hy hv (by omega) (c:=(c.1+1,c.2+1)) f.atom (p:=p) ?_ ?_
     ·simp[hp,e0,e1,Xia,hxs]
     simp[k1,k2,k3n]at hS;simp;refine fin _ _ (by rw[hS]) _ ?_;simp[Xe]
    ·have:(decide (f.n=0)&&decide (f.kids.length=0)&&decide (c.2+1<=8)&&Vh y vs f.atom)=false:=by
      rw[Ucm];intro ht;simp only[Uai,Ubp]at ht;exact hok ⟨ht.1.1.1,Ucs.1 ht.1.1.2,ht.1.2⟩
     rw[this]at hS;by_cases k1:f.n=0
     ·by_cases k2:f.kids=[]
      ·have k3i:¬(c.2:Int)+1<=8:=by
        intro h3; exact hok ⟨k1,k2,by omega⟩
       simp[W9,ho5,hp,e0,e1,s6,w2,k1,k2,k3i];refine fin _ _ hS _ ?_;simp[Xe]
      ·simp[W9,ho5,hp,e0,e1,s6,w2,k1,k2];refine fin _ _ hS _ ?_;simp[Xe]
     ·simp[W9,ho5,hp,e0,e1,s6,w2,k1];refine fin _ _ hS _ ?_;simp[Xe]
   ·rw[Ubo ho5]at hS;simp[W9,ho,ho2,ho3,ho4,ho5];exact fin _ _ hS _ (by simp[Xe])
termination_by f=>SizeOf.sizeOf f
decreasing_by exact RForm.kid_lt hk
end
end Go.Proofs.YtolkimpelpnpbaaGreatDoor
namespace Go.Sx
open Go Go.Ab Go.Lx
theorem Xrd {y:RSrc}{vs:List RVar}(h:Q6 y vs=true):Xfp y vs/\vs.length<=3:=by
 constructor
 ·intro v hv;obtain⟨i,hi,rfl⟩:=Ub5.1 hv;obtain⟨s,hs,e,_⟩:=Yfw (Xrc h i hi);exact⟨s,e,hs⟩
 ·simp only[Q6,Uai,Ubp]at h;exact h.1.1.2
def Vj (y:RSrc)(q:RQ):Int:=if Yi y q then 0 else 210
end Go.Sx
namespace Go.Proofs.YtolkimpelpnpbaaGreatDoor
open Go Go.Ab Go.Lx Go.Sx
section
variable {P:Prg} (hP:P.p=Tryz.prog)
include hP
theorem Xf2 {t:RTab}(hy:t.src.small){q:RQ}(hq:q.small){ob:Xb}{K:V->Prop}(h:K (.d (.int .i64 (Vj t.src q)))):PCall P 21 [.d t.enc,.d q.enc] ob K:=by
 refine Xh hP mixed (ds:=[t.enc,q.enc]) Y6i Zad TOk.nil ?_;have cN:∀(s:B) {ob:Xb} {K:V->Prop},K (.d (.bool (Ww s)))->PCall P 39 [.d (.str s)] ob K:=fun s ob K h=>(Xux hP) _ (by simp) _ _ (by simpa using h);obtain⟨y,od⟩:=t;simp only[RTab.enc]at hy h⊢;have bad:Yi y q=false->K (.d (.int .i64 210)):=fun e=>by
  have:Vj y q=210:=by simp[Vj,e]
  rw[<-this]; exact h
 obtain⟨x0,x1,x2,x3,x4,hxs,s0,s1,s2,s3,s4⟩:∃x0 x1 x2 x3 x4,y.enc=D.agg [x0,x1,x2,x3,x4,.list 3 (y.purposes.map RPurpose.enc)]/\x0.shape=.leaf/\x1.shape=.leaf/\x2.shape=.leaf/\x3.shape=.leaf/\x4.shape=.leaf:=⟨_,_,_,_,_,rfl,rfl,rfl,rfl,rfl,rfl⟩
 obtain⟨q1,q2,q3,q4⟩:=q;have cU:∀(n:B) {ob:Xb} {K:V->Prop},K (Yy (Ya RPurpose.name y.purposes n 0))->PCall P 40 [.d (.agg [x0,x1,x2,x3,x4,.list 3 (y.purposes.map RPurpose.enc)]),.d (.str n)] ob K:=fun n ob K h=>by rw[<-hxs]; exact Xuy hP hy.purposes h
 have hagg:(match V.d q4.enc with | V.d (D.agg xs)=>true | V.agg xs=>true | x=>false)=true:=by rw[RForm.enc_eq]
 rw[hxs];simp[Y7z,RQ.enc,s0,s1,s2,s3,s4];refine cN _ ?_;cases g1:Ww q1 with
 | false=>simp; exact bad (by simp[Yi,g1])
 | true=>
  by_cases g2:q2<0
  ·simp[g2]; exact bad (by simp[Yi]; omega)
  by_cases g3:(y.purposes.length:Int)<=q2
  ·simp[g2,g3];exact bad (by
    have:y.purposes[q2.toNat]? = none:=Ucj (by omega);simp[Yi,this])
  obtain⟨n,rfl,hn⟩:∃n:Nat,q2=n/\n<y.purposes.length:=⟨q2.toNat,by omega,by omega⟩
  simp[g3,hn,RPurpose.enc];refine⟨fun hneg=>absurd hneg (by omega),?_⟩;refine cU _ ?_;obtain⟨i,hi,f1,_,_⟩ | f0:(∃(i:Nat) (hi:i<y.purposes.length),Ya RPurpose.name y.purposes y.purposes[n].name 0=i/\y.purposes[i].name=y.purposes[n].name/\True)\/False:=by
   rcases Z0 RPurpose.name y.purposes[n].name y.purposes 0 with⟨_,h2⟩ | ⟨i,h,h1,h2,_⟩
   ·exact absurd rfl (h2 _ (Uba hn))
   ·exact .inl ⟨i,h,by simpa using h1,h2,trivial⟩
  ·have hin:¬(i:Int)<0:=by omega
   rw[f1];by_cases g4:(i:Int)=(n:Int)
   ·have g4':i=n:=by omega
    subst g4';simp[Yy,hin,hn];refine cN _ ?_;cases g5:Ww y.purposes[i].name with
    | false=>
     simp;exact bad (by simp[Yi,hn,g5])
    | true=>
     simp;refine X1q hP hy hq.vars (c:=(0,0)) (p:=3) ?_ ?_
     ·simp[Xia,hxs]
     cases g6:Q6 y q3 with
     | false=>
      simp[Xlk];exact bad (by simp[Yi,g6])
     | true=>
      obtain⟨v1,v2⟩:=Xrd g6;simp;refine⟨hagg,?_⟩;refine Xcg hP hy v1 v2 q4 hq.form 1 (by omega) (0,0) (by simp) (by simp) (p:=3) ?_ ?_
      ·simp[Xia,hxs]
      have hck:Yi y ⟨q1,i,q3,q4⟩=(q4.okS y q3 1 (0,0)).1:=by
       simp[Yi,g1,hn,f1,g5,g6]
      cases g7:(q4.okS y q3 1 (0,0)).1 with
      | false=>
       simp[Xlk];exact bad (by rw[hck,g7])
      | true=>
       simp[Xlk,X8i];have:Vj y ⟨q1,i,q3,q4⟩=0:=by simp[Vj,hck,g7]
       rw[this]at h;exact h
   ·have g4b:((i:Int) != (n:Int))=true:=by simpa using g4
    have g4n:¬i=n:=by omega
    simp[Yy,hin,g4,g4b,g4n];exact bad (by simp[Yi,hn,f1,g4])
  ·exact f0.elim
end
end Go.Proofs.YtolkimpelpnpbaaGreatDoor
namespace Go.Sx
open Go Go.Ab Go.Lx
def RForm.atE (f:RForm):List RAtom:=if f.op=5 then[f.atom] else[]
theorem RForm.atoms_eq (f:RForm):f.atoms=f.atE++RForm.atomsL f.kids:=by cases f; rw[RForm.atoms]; rfl
theorem RForm.atomsL_append:∀(a b:List RForm),RForm.atomsL (a++b)=RForm.atomsL a++RForm.atomsL b
 | [],b=>by simp[RForm.atomsL]
 | f::r,b=>by simp only[List.cons_append,RForm.atomsL,RForm.atomsL_append r b,Uav]
theorem RForm.atomsL_take {l:List RForm}{k:Nat}(h:k<l.length):RForm.atomsL (l.take (k+1))=RForm.atomsL (l.take k)++l[k].atoms:=by
 rw[Ubj h,RForm.atomsL_append]; simp[RForm.atomsL]
abbrev X6a (l:List RAtom):Ob:=.arr 38 11 (l.map RAtom.enc)
abbrev X6b (q n:Nat):Ob:=.box 72 (.sl q n)
abbrev Ysb:Ob:=.box 206 (.fn 106 [] [.ptr 1 [],.ptr 2 []])
abbrev Xip (ob:Xb)(q:Nat)(l:List RAtom):Xb:=setO (setO ob q (X6a l)) 1 (X6b q l.length)
theorem Xfy {i q:Nat}{o:Ob}{ob:Xb}{l:List RAtom}(h1:(i==q)=false)(h2:(i==1)=false):Xip ((i,o)::ob) q l=(i,o)::Xip ob q l:=by
 have n1:i ≠ q:=by simpa using h1
 have n2:i ≠ 1:=by simpa using h2
 simp[Xip,setO,n1,n2]
theorem X1v {q i:Nat}{o o' x:Ob}{ob:Xb}{l:List RAtom}(h1:q ≠ 1)(h2:i ≠ 1):Xip ((q,o)::(i,o')::setO ob 1 x) q l=(q,X6a l)::(i,o')::setO ob 1 (X6b q l.length):=by
 simp[Xip,setO,h1,h2]
theorem Xhz {o o':Ob}{i j:Nat}(h:i ≠ j):∀ob:Xb,setO (setO ob i o) j o'=setO (setO ob j o') i o
 | []=>rfl
 | (k,y)::r=>by
  simp only[setO];by_cases h1:k=i
  ·subst h1; simp[setO,h]
  ·by_cases h2:k=j
   ·subst h2; simp[setO,h1]
   ·simp[setO,h1,h2,Xhz h r]
theorem X84 {q:Nat}{ob:Xb}{l l':List RAtom}(h:q ≠ 1):Xip (Xip ob q l) q l'=Xip ob q l':=by
 simp only[Xip];rw[Xhz h,Xca,Xhz (Ne.symm h),Xca]
theorem Xkk {p:Nat->Bool}{q:Nat}{ob:Xb}{l:List RAtom}(h:Xg p ob=true)(hq:p q=false):Xg p (Xip ob q l)=true:=
 Xl _ _ _ _ _ (Yq _ _ _ _ _ _ h) (by simpa using hq)
@[simp] theorem RAtom.enc_shape (a:RAtom):a.enc.shape=.node [.leaf,.node [.leaf,.leaf,.leaf,.leaf,.leaf],.node [.leaf,.leaf,.leaf,.leaf,.leaf]]:=rfl
@[simp] theorem RAtom.enc_sz (a:RAtom):a.enc.sz=11:=by simp[RAtom.enc,RTerm.enc,D.sz,D.szs]
end Go.Sx
namespace Go.Proofs.YtolkimpelpnpbaaGreatDoor
open Go Go.Ab Go.Lx Go.Sx
section
variable {P:Prg} (hP:P.p=Tryz.prog)
include hP
theorem U1:Xm P.p 106=true:=by rw[hP]; kernel_rfl
theorem Xei:∀(f:RForm),f.small->∀{ob:Xb} {q:Nat} {l:List RAtom},Xc ob 1=some (X6b q l.length)->Xc ob q=some (X6a l)->Xc ob 2=some Ysb->(l++f.atoms).length<=1000->∀{K:Out->Xb->Prop},
  K (.ret (.tup [])) (Xip ob q (l++f.atoms))->ACall P 106 [.d f.enc,.ptr 1 [],.ptr 2 []] ob K:=fun f hf ob q l h1 hq h2 hl K h=>by
 have ih:∀k∈f.kids,∀{ob:Xb} {q:Nat} {l:List RAtom},Xc ob 1=some (X6b q l.length)->Xc ob q=some (X6a l)->Xc ob 2=some Ysb->(l++k.atoms).length<=1000->∀{K:Out->Xb->Prop},K (.ret (.tup [])) (Xip ob q (l++k.atoms))->ACall P 106 [.d k.enc,.ptr 1 [],.ptr 2 []] ob K:=fun k hk _ _ _ h1 hq h2 hl _ h=>Xei k ((RForm.small_eq hf).2 k hk) h1 hq h2 hl h;have hkl:=(RForm.small_eq hf).1;refine Xn hP mixed Yfc Ymw TOk.nil fun _ hm=>?_;have l1:=Yb h1;have lq:=Yb hq;have l2:=Yb h2;have q1:q ≠ 1:=fun e=>by rw[e,h1]at hq; cases hq
 have q2:q ≠ 2:=fun e=>by rw[e,h2]at hq; cases hq
 have e1:(Xa ob==1)=false:=by simp; omega
 have e2:(Xa ob==2)=false:=by simp; omega
 have eq:(Xa ob==q)=false:=by simp; omega
 have g1:(q==1)=false:=by simpa using q1
 have g2:(q==2)=false:=by simpa using q2
 have g1':(1==q)=false:=by simpa using Ne.symm q1
 have g2':(2==q)=false:=by simpa using Ne.symm q2
 rw[RForm.atoms_eq,<-Uav]at h hl;have hlen:(l++f.atE).length<=1000:=by rw[Uar]at hl; omega
 have hagg:∀k:RForm,(match V.d k.enc with | V.d (D.agg xs)=>true | V.agg xs=>true | x=>false)=true:=fun k=>by rw[RForm.enc_eq]
 have main:∀o:Int,ALoop [2,15,16,17] (Yr P [] Jq) (Y7 0 (Va (Xa ob) [] K))
   [(2,V.ptr 2 []),(15,V.d (.list 14 (f.kids.map RForm.enc))),(16,V.d (.int .i64 f.kids.length)),(17,V.d (D.int IntKind.i64 0))]
   ((Xa ob,.box 40 (.d (.agg [iD o,iD f.n,.list 14 (f.kids.map RForm.enc),f.atom.enc])))::Xip ob q (l++f.atE)):=by
  intro o;refine ALoop.upto f.kids.length (fun k=>[(2,V.ptr 2 []),(15,V.d (.list 14 (f.kids.map RForm.enc))),(16,V.d (.int .i64 f.kids.length)),(17,V.d (D.int IntKind.i64 k))])
   (fun k=>(Xa ob,.box 40 (.d (.agg [iD o,iD f.n,.list 14 (f.kids.map RForm.enc),f.atom.enc])))::Xip ob q (l++f.atE++RForm.atomsL (f.kids.take k))) (fun _=>True) trivial (by simp) (by simp[RForm.atomsL]) ?_ ?_
  ·intro k hk _ R rn re rr rp;have wr:IntKind.i64.wrap ((k:Int)+1)=(k:Int)+1:=IntWalk.i64_in _ (by omega);have hst:=RForm.atomsL_take hk;have hle:(l++f.atE++RForm.atomsL (f.kids.take (k+1))).length<=1000:=by
    refine Ual ?_ hl;have e:RForm.atomsL f.kids=RForm.atomsL (f.kids.take (k+1))++RForm.atomsL (f.kids.drop (k+1)):=by rw[<-RForm.atomsL_append,Uao]
    rw[e]; simp only[Uar]; omega
   rw[hst,<-Uav]at rn hle;have hmem:f.kids[k]∈f.kids:=Uba hk;generalize l++f.atE++RForm.atomsL (f.kids.take k)=lk at rn hle⊢;simp[Ja,hk,h2,e2,g2,g2'];refine⟨hagg _,U1 hP,?_⟩;have e11:(Xa ob+1==1)=false:=by simp; omega
   have e12:(Xa ob+1==2)=false:=by simp; omega
   have e1q:(Xa ob+1==q)=false:=by simp; omega
   refine ih _ hmem (q:=q) (l:=lk) ?_ ?_ ?_ hle ?_
   ·simp[h1,hq,e1,g1,g1',e11]
   ·simp[h1,hq,eq,e1q,g1,g1']
   ·simp[h2,e2,e12,g2]
   ·simp[Xbz,wr];refine rn [] _ _ trivial (by simp) ?_ (by simp[Xe]; omega) ?_
    ·rw[Xfy e1q e11,Xfy eq e1,X84 q1];simp[Xe]
    ·simp[Xe];exact Xkk (Xp 1 hm) (by simp[Xe]; omega)
  ·intro _ R re rr rp;simp[Ja];refine re _ _ _ ?_;simp;refine⟨[],by simp,?_,?_⟩
   ·simp[Xe];exact Xkk (hm _) (by simp[Xe]; omega)
   ·simpa[Xe]using h
 by_cases ho:f.op=5
 ·have hag:(match V.d f.atom.enc with | V.d (D.agg xs)=>true | V.agg xs=>true | x=>false)=true:=rfl;simp[X07,RForm.enc_eq f,ho,h1,h2,hq,e1,e2,eq,g1,g1',g2,g2'];have hl1:l.length+1<=1000:=by simpa[RForm.atE,ho]using hlen
  refine⟨rfl,by omega,?_⟩;have:=main 5;simp[Xb0,h1,hq,g1,g1'];simp[RForm.atE,ho,Xip,X6a,X6b]at this;exact this
 ·simp[X07,RForm.enc_eq f,ho];have:=main f.op;simp[Xb0];have e0:Xip ob q l=ob:=by simp only[Xip]; rw[Xdt hq,Xdt h1]
  simp only[RForm.atE,ho,Uay,Ub4,e0]at this;exact this
termination_by f=>SizeOf.sizeOf f
decreasing_by exact RForm.kid_lt hk
theorem Xeh:∀(f:RForm),f.small->∀{ob:Xb},Xc ob 1=some (.box 72 (.d .nils))->Xc ob 2=some Ysb->f.atoms.length<=1000->∀{K:Out->Xb->Prop},
  (f.atoms=[]->K (.ret (.tup [])) ob)->(∀q,Xa ob<=q->K (.ret (.tup [])) ((q,X6a f.atoms)::setO ob 1 (X6b q f.atoms.length)))->ACall P 106 [.d f.enc,.ptr 1 [],.ptr 2 []] ob K:=fun f hf ob h1 h2 hl K hn hs=>by
 have ih:∀k∈f.kids,∀{ob:Xb},Xc ob 1=some (.box 72 (.d .nils))->Xc ob 2=some Ysb->k.atoms.length<=1000->∀{K:Out->Xb->Prop},(k.atoms=[]->K (.ret (.tup [])) ob)->(∀q,Xa ob<=q->K (.ret (.tup [])) ((q,X6a k.atoms)::setO ob 1 (X6b q k.atoms.length)))->ACall P 106 [.d k.enc,.ptr 1 [],.ptr 2 []] ob K:=fun k hk _ h1 h2 hl _ hn hs=>Xeh k ((RForm.small_eq hf).2 k hk) h1 h2 hl hn hs;have hkl:=(RForm.small_eq hf).1;refine Xn hP mixed Yfc Ymw TOk.nil fun _ hm=>?_;have l1:=Yb h1;have l2:=Yb h2;have e1:(Xa ob==1)=false:=by simp; omega
 have e2:(Xa ob==2)=false:=by simp; omega
 have hagg:∀k:RForm,(match V.d k.enc with | V.d (D.agg xs)=>true | V.agg xs=>true | x=>false)=true:=fun k=>by rw[RForm.enc_eq]
 have hat:=RForm.atoms_eq f;let fo (o:Int):Ob:=.box 40 (.d (.agg [iD o,iD f.n,.list 14 (f.kids.map RForm.enc),f.atom.enc]));let O (o:Int):List RAtom->Option Nat->Xb:=fun l q=>match q with
  | none=>(Xa ob,fo o)::ob
  | some q=>(q,X6a l)::(Xa ob,fo o)::setO ob 1 (X6b q l.length)
 have main:∀(o:Int) (q0:Option Nat),(q0=none/\f.atE=[]\/∃q,q0=some q/\Xa ob+1<=q)->ALoop [2,15,16,17] (Yr P [] Jq) (Y7 0 (Va (Xa ob) [] K))
   [(2,V.ptr 2 []),(15,V.d (.list 14 (f.kids.map RForm.enc))),(16,V.d (.int .i64 f.kids.length)),(17,V.d (D.int IntKind.i64 0))] (O o f.atE q0):=by
  intro o q0 h0;refine ALoop.go (ι:=Nat×Option Nat) (fun i=>[(2,V.ptr 2 []),(15,V.d (.list 14 (f.kids.map RForm.enc))),(16,V.d (.int .i64 f.kids.length)),(17,V.d (D.int IntKind.i64 i.1))])
   (fun i=>O o (f.atE++RForm.atomsL (f.kids.take i.1)) i.2) (fun i=>i.1<=f.kids.length/\(i.2=none/\f.atE++RForm.atomsL (f.kids.take i.1)=[]\/∃q,i.2=some q/\Xa ob+1<=q)) (fun i=>f.kids.length-i.1) (0,q0) ⟨Ubg _,by simpa[RForm.atomsL]using h0⟩ (by simp) (by simp[RForm.atomsL]) ?_
  rintro⟨k,qo⟩ ⟨hk,hi⟩ R rn re rr rp;dsimp only at hk hi rn⊢;by_cases hlt:k<f.kids.length
  ·have wr:IntKind.i64.wrap ((k:Int)+1)=(k:Int)+1:=IntWalk.i64_in _ (by omega);have hst:=RForm.atomsL_take hlt;have hle:(f.atE++RForm.atomsL (f.kids.take (k+1))).length<=1000:=by
    refine Ual ?_ hl;have e:RForm.atomsL f.kids=RForm.atomsL (f.kids.take (k+1))++RForm.atomsL (f.kids.drop (k+1)):=by rw[<-RForm.atomsL_append,Uao]
    rw[hat,e]; simp only[Uar]; omega
   rw[hst,<-Uav]at hle;have hmem:f.kids[k]∈f.kids:=Uba hlt;have hnx:f.atE++RForm.atomsL (f.kids.take (k+1))=f.atE++RForm.atomsL (f.kids.take k)++f.kids[k].atoms:=by rw[hst,Uav]
   generalize hlk:f.atE++RForm.atomsL (f.kids.take k)=lk at hle hi hnx rn⊢;have e11:(Xa ob+1==1)=false:=by simp; omega
   have e12:(Xa ob+1==2)=false:=by simp; omega
   rcases hi with⟨rfl,hn0⟩ | ⟨q,rfl,hq⟩
   ·simp[O,fo,Ja,hlt,h2,e2];refine⟨hagg _,U1 hP,?_⟩;subst hn0;simp only[List.nil_append]at hle hnx;refine ih _ hmem ?_ ?_ hle ?_ ?_
    ·simp[h1,e1,e11]
    ·simp[h2,e2,e12]
    ·intro hka;simp[Xbz,wr];refine rn [] (k+1,none) _ _ ⟨hlt,.inl ⟨rfl,by rw[hnx,hka]⟩⟩ (by simp only; omega) (by simp) ?_ (by simp[O,Xe]; omega) ?_
     ·simp[O,fo,Xe]
     ·simp[O,fo,Xe];exact Xp 1 hm
    ·intro q hq;simp at hq;simp[Xbz,wr];refine rn [q] (k+1,some q) _ _ ⟨hlt,.inr ⟨q,rfl,by omega⟩⟩ (by simp only; omega) (by simp) ?_ (by simp[O,Xe]; omega) ?_
     ·simp only[hnx];have n1:¬Xa ob+1=q:=by omega
      have n2:¬Xa ob+1<=Xa ob:=by omega
      simp[O,fo,Xe,e1,e11,n1,n2]
     ·simp only[hnx];simp[O,fo,Xe,e1,e11];exact Xl _ _ _ _ _ (Xp 1 hm) (by simp[Xe])
   ·have c1:(q==1)=false:=by simp; omega
    have c2:(q==2)=false:=by simp; omega
    have c3:(q+1==1)=false:=by simp; omega
    have c4:(q+1==2)=false:=by simp; omega
    have c5:(Xa ob==q)=false:=by simp; omega
    have hfr:Xa (O o lk (some q))=q+1:=by
     simp[O,Xa];intro; omega
    have c6:(q+1==q)=false:=by simp
    have q1:q ≠ 1:=by omega
    simp[O,fo,Ja,hlt,h2,e2,c2,hq,c4];refine⟨hagg _,U1 hP,?_⟩;refine Xei hP _ ((RForm.small_eq hf).2 _ hmem) (q:=q) (l:=lk) ?_ ?_ ?_ hle ?_
    ·simp[h1,e1,c1,c3]
    ·simp[c6]
    ·simp[h2,e2,c2,c4]
    ·simp[Xbz,wr];refine rn [] (k+1,some q) _ _ ⟨hlt,.inr ⟨q,rfl,hq⟩⟩ (by simp only; omega) (by simp) ?_ ?_ ?_
     ·simp only[hfr,hnx];rw[Xfy c6 c3];simp only[O,fo];rw[X1v q1 (by omega)];have n3:Xa ob<=q+1:=by omega
      have n4:¬q+1<=Xa ob:=by omega
      simp[Xe,n3,n4]
     ·simp only[hfr];simp[Xe]; omega
     ·simp only[hfr,hnx];simp[O,fo,Xe];exact Xl _ _ _ _ _ (Uu hm (by omega)) (by simp[Xe])
  ·have:k=f.kids.length:=by omega
   subst this;simp[Ja];refine re _ _ _ ?_;rw[Ucq,<-hat]at hi;simp;rw[<-hat];rcases hi with⟨rfl,hn0⟩ | ⟨q,rfl,hq⟩
   ·refine⟨[],by simp,?_,?_⟩
    ·simp[O,Xe]; exact hm _
    ·simpa[O,Xe]using hn hn0
   ·refine⟨[q],by simp,?_,?_⟩
    ·have n1:¬Xa ob=q:=by omega
     simp[O,Xe,n1];exact Xl _ _ _ _ _ (hm _) (by simp[Xe])
    ·have:=hs q (by omega);have n1:¬Xa ob=q:=by omega
     simpa[O,Xe,n1]using this
 by_cases ho:f.op=5
 ·have hae:f.atE=[f.atom]:=by simp[RForm.atE,ho]
  simp[X07,RForm.enc_eq f,ho,h1,h2,e1,e2];refine⟨rfl,?_⟩;have:=main 5 (some (Xa ob+1)) (.inr ⟨_,rfl,Uak _⟩);simp[Xb0];rw[hae]at this;exact this
 ·have hae:f.atE=[]:=by simp[RForm.atE,ho]
  simp[X07,RForm.enc_eq f,ho];have:=main f.op none (.inl ⟨rfl,hae⟩);simp[Xb0];exact this
termination_by f=>SizeOf.sizeOf f
decreasing_by exact RForm.kid_lt hk
theorem X9b {q:RQ}(hq:q.small)(hl:q.form.atoms.length<=1000){ob:Xb}{K:V->Prop}(h:∀d:D,(d=.list 11 (q.form.atoms.map RAtom.enc)\/q.form.atoms=[]/\d=.nils)->K (.d d)):PCall P 50 [.d q.enc] ob K:=by
 refine Xh hP mixed (ds:=[q.enc]) Y6w Zas TOk.nil ?_;have hagg:(match V.d q.form.enc with | V.d (D.agg xs)=>true | V.agg xs=>true | x=>false)=true:=by rw[RForm.enc_eq]
 simp[Y8c,RQ.enc];refine⟨hagg,U1 hP,?_⟩;refine Xeh hP q.form hq.form ?_ ?_ hl ?_ ?_
 ·simp
 ·simp
 ·intro e;simp[Xt5];exact h _ (.inr ⟨e,rfl⟩)
 ·intro q' hq';simp at hq';have g1:(q'==1)=false:=by simp; omega
  simp[Xt5,g1];exact h _ (.inl rfl)
end
end Go.Proofs.YtolkimpelpnpbaaGreatDoor
namespace Go.Py
open Go Go.Ab Go.Lx Go.Sx
def Zg (q:RQ)(t:RTerm):Option (Int×Int):=if t.var<0 then none else (q.vars[t.var.toNat]?).map fun v=>(v.schema,t.field)
def Xc3 (q:RQ)(t:RTerm):V:=match Zg q t with
 | some p=>.tup [.d (fD p),.d (.bool true)]
 | none=>.tup [.d (fD (0,0)),.d (.bool false)]
theorem Xb4 (p:Int×Int)(fs:List (Int×Int)):Xc8 (.agg [.int .i64 0,.int .i64 0]) (fD p) (fs.map V8):=by
 refine⟨by simp[D.alike,Zv,fD,D.alike0],fun e he=>?_⟩;obtain⟨r,_,rfl⟩:=Ua5.1 he;simp[V8,D.alike,Zv,fD,D.alike0]
theorem Xpz (p:Int×Int):∀fs:List (Int×Int),Wu (fD p) (fs.map V8)=if p∈fs then some (.d (.bool true)) else none
 | []=>by simp
 | r::fs=>by
  simp only[Uam,V8,Xrz,Xpz p fs];have:D.sameKey (fD p) (fD r)=decide (p=r):=by
   obtain⟨a,b⟩:=p; obtain⟨c,d⟩:=r;rw[Ucl];simp[D.sameKey,fD,D.eqbs,D.eqb]
  rw[this];by_cases e:p=r
  ·simp[e]
  ·simp[e]
end Go.Py
namespace Go.Proofs.YtolkimpelpnpbaaGreatDoor
open Go Go.Ab Go.Lx Go.Sx Go.Py
section
variable {P:Prg} (hP:P.p=Tryz.prog)
include hP
theorem Xiw {q:RQ}{t:RTerm}{ob:Xb}{K:V->Prop}(h:K (Xc3 q t)):PCall P 51 [.d q.enc,.d t.enc] ob K:=by
 refine Xh hP mixed (ds:=[q.enc,t.enc]) Y6x Zat TOk.nil ?_;simp[Y8d,RQ.enc,RTerm.enc];constructor
 ·intro hv;have hn:Zg q t=none:=by
   unfold Zg;rcases hv with hv | hv
   ·rw[Uby hv]
   ·rw[Ubo (by omega),Ucj (by omega)]; rfl
  simp only[Xc3,hn,fD]at h;exact h
 ·intro h0 h1;have hlt:t.var.toNat<q.vars.length:=by omega
  have e:q.vars[t.var.toNat]? = some q.vars[t.var.toNat]:=Ubf hlt;have hs:Zg q t=some (q.vars[t.var.toNat].schema,t.field):=by
   unfold Zg;rw[Ubo (by omega),e]; rfl
  simp only[Xc3,hs,fD]at h;simp[e,RVar.enc,h0,h1,iD]at h⊢;exact h
theorem Xui {q:RQ}{t:RTerm}{fs:List (Int×Int)}{ob:Xb}{qb mb m:Nat}(hq:Xc ob qb=some (.box 42 (.d q.enc)))(hb:Xc ob mb=some (.box 74 (.mp m)))(hm:Xc ob m=some (.map (fs.map V8))){K:Out->Xb->Prop}(h:K (.ret (.d (.bool (match Zg q t with | some p=>decide (p∈fs) | none=>false)))) ob) :
  ACall P 64 [.d t.enc,.ptr qb [],.ptr mb []] ob K:=by
 refine Xn hP mixed Y62 Zaz TOk.nil fun _ hno=>?_;have hq':(Xc ob qb).isSome=true:=by rw[hq]; rfl
 have hb':(Xc ob mb).isSome=true:=by rw[hb]; rfl
 have hm':(Xc ob m).isSome=true:=by rw[hm]; rfl
 simp[Y8h,hq,hb,hm,hq',hb',hm'];have hs:q.enc.shape.size=17:=by rw[RQ.enc,RForm.enc_eq]; rfl
 refine⟨rfl,⟨hs,rfl⟩,rfl,⟨hs,rfl⟩,Xiw hP ?_⟩;unfold Xc3;cases hf:Zg q t with
 | none=>
  rw[hf]at h;simp[fD];exact⟨[],by simp,by simp[Xe]; exact hno _,by simpa[Xe]using h⟩
 | some p=>
  rw[hf]at h;simp[fD,hm,hm'];rw[show D.agg [D.int .i64 p.1,D.int .i64 p.2]=fD p from rfl,Xpz];refine⟨Xb4 p fs,?_⟩;by_cases hp:p∈fs
  ·simp[hp]at h⊢;exact⟨[],by simp,by simp[Xe]; exact hno _,by simpa[Xe]using h⟩
  ·simp[hp]at h⊢;exact⟨[],by simp,by simp[Xe]; exact hno _,by simpa[Xe]using h⟩
end
end Go.Proofs.YtolkimpelpnpbaaGreatDoor
namespace Go.Py
open Go Go.Ab Go.Lx Go.Sx
mutual
def rbF (h:RAtom->Bool):RForm->RForm×Bool
 | .mk op n k a=>
  if op=5 then (.mk op n k a,!h a) else if op=4 then (.mk op n k a,true)
  else (.mk op (if op=3 then max (n-(k.length-(rbL h k).length)) 1 else n) (rbL h k) a,decide (k.length=0)||decide (0<(rbL h k).length))
def rbL (h:RAtom->Bool):List RForm->List RForm
 | []=>[]
 | f::r=>if (rbF h f).2 then (rbF h f).1::rbL h r else rbL h r
end
theorem Xzm (h:RAtom->Bool)(f:RForm):rbF h f =
  if f.op=5 then (f,!h f.atom) else if f.op=4 then (f,true)
  else (.mk f.op (if f.op=3 then max (f.n-(f.kids.length-(rbL h f.kids).length)) 1 else f.n) (rbL h f.kids) f.atom,decide (f.kids.length=0)||decide (0<(rbL h f.kids).length)):=by
 cases f; rw[rbF]; rfl
theorem Xff (h:RAtom->Bool):∀(a b:List RForm),rbL h (a++b)=rbL h a++rbL h b
 | [],b=>by simp[rbL]
 | f::r,b=>by simp only[List.cons_append,rbL,Xff h r b]; split<;>simp
theorem Xdm (h:RAtom->Bool):∀l:List RForm,(rbL h l).length<=l.length
 | []=>by simp[rbL]
 | f::r=>by
  have:=Xdm h r;simp only[rbL];split<;>simp only[List.length_cons]<;>omega
theorem X5k {h:RAtom->Bool}{l:List RForm}{k:Nat}(hk:k<l.length):rbL h (l.take (k+1))=rbL h (l.take k)++(if (rbF h l[k]).2 then[(rbF h l[k]).1] else[]):=by
 rw[Ubj hk,Xff];simp[rbL]
mutual
theorem Xq1 (y:RSrc)(vs:List RVar)(h:RAtom->Bool):∀(f:RForm) (d:Nat) (c c0:Nat×Nat),(f.okS y vs d c).1=true->c0.1<=c.1->c0.2<=c.2->
  c.1<=(f.okS y vs d c).2.1/\c.2<=(f.okS y vs d c).2.2/\((rbF h f).2=true->((rbF h f).1.okS y vs d c0).1=true/\((rbF h f).1.okS y vs d c0).2.1<=(f.okS y vs d c).2.1/\((rbF h f).1.okS y vs d c0).2.2<=(f.okS y vs d c).2.2)
 | .mk op n k a,d,c,c0,ho,h1,h2=>by
  have hl:=Xdm h k;by_cases hb:32<c.1+1\/8<d\/8<k.length
  ·rw[RForm.okS,Uby hb]at ho; cases ho
  have hb0:¬(32<c0.1+1\/8<d\/8<k.length):=by omega
  have hb1:¬(32<c0.1+1\/8<d\/8<(rbL h k).length):=by omega
  by_cases h12:op=1\/op=2
  ·have n3:op ≠ 3:=by omega
   have n4:op ≠ 4:=by omega
   have n5:op ≠ 5:=by omega
   rw[RForm.okS,Ubo hb,Uby h12]at ho⊢;by_cases hz:(a.zero&&decide (n=0))=true
   ·rw[Uby hz]at ho⊢;obtain⟨m1,m2,m3,m4,m5⟩:=Xb5 y vs h k (d+1) (c.1+1,c.2) (c0.1+1,c0.2) ho (by simp only; omega) h2;refine⟨by simp only at m1; omega,m2,fun _=>?_⟩;simp only[rbF,n3,n4,n5,Uay];rw[RForm.okS,Ubo hb1,Uby h12,Uby hz];exact⟨m3,m4,m5⟩
   ·rw[Ubo hz]at ho; cases ho
  by_cases h3:op=3
  ·have n4:op ≠ 4:=by omega
   have n5:op ≠ 5:=by omega
   rw[RForm.okS,Ubo hb,Ubo h12,Uby h3]at ho⊢;by_cases hz:(a.zero&&decide (1<=n)&&decide (n<=k.length))=true
   ·rw[Uby hz]at ho⊢;obtain⟨m1,m2,m3,m4,m5⟩:=Xb5 y vs h k (d+1) (c.1+1,c.2) (c0.1+1,c0.2) ho (by simp only; omega) h2;refine⟨by simp only at m1; omega,m2,fun hr=>?_⟩;simp only[rbF,h3,Ubb]at hr⊢;have hz':=hz;simp only[Uai,Ubp]at hz';have hr':0<(rbL h k).length:=by
     simp at hr;rcases hr with hr | hr
     ·subst hr; simp at hz'; omega
     ·exact hr
    have g4:¬((3:Int)=4):=by omega
    have g5:¬((3:Int)=5):=by omega
    simp only[g4,g5,Uay];rw[RForm.okS,Ubo hb1,Ubo (by omega),Uby rfl,Uby (by
     simp only[Uai,Ubp];exact⟨⟨hz'.1.1,by omega⟩,by omega⟩)]
    exact⟨m3,m4,m5⟩
   ·rw[Ubo hz]at ho; cases ho
  by_cases h4:op=4
  ·rw[RForm.okS,Ubo hb,Ubo h12,Ubo h3,Uby h4]at ho⊢;refine⟨by simp only; omega,Uak _,fun _=>?_⟩;have n5:¬((4:Int)=5):=by omega
   subst h4;simp only[rbF,n5,Uay,Ubb];rw[RForm.okS,Ubo hb0,Ubo h12,Ubo h3,Uby rfl];exact⟨ho,by simp only; omega,h2⟩
  by_cases h5:op=5
  ·rw[RForm.okS,Ubo hb,Ubo h12,Ubo h3,Ubo h4,Uby h5]at ho⊢;refine⟨by simp only; omega,by simp only; omega,fun _=>?_⟩;subst h5;simp only[rbF,Ubb];rw[RForm.okS,Ubo hb0,Ubo h12,Ubo h3,Ubo h4,Uby rfl];simp only[Uai,Ubp]at ho⊢;exact⟨⟨⟨ho.1.1,by omega⟩,ho.2⟩,by omega,by omega⟩
  ·rw[RForm.okS,Ubo hb,Ubo h12,Ubo h3,Ubo h4,Ubo h5]at ho; cases ho
theorem Xb5 (y:RSrc)(vs:List RVar)(h:RAtom->Bool):∀(l:List RForm) (d:Nat) (c c0:Nat×Nat),(RForm.okL y vs l d c).1=true->c0.1<=c.1->c0.2<=c.2->
  c.1<=(RForm.okL y vs l d c).2.1/\c.2<=(RForm.okL y vs l d c).2.2/\(RForm.okL y vs (rbL h l) d c0).1=true/\(RForm.okL y vs (rbL h l) d c0).2.1<=(RForm.okL y vs l d c).2.1/\(RForm.okL y vs (rbL h l) d c0).2.2<=(RForm.okL y vs l d c).2.2
 | [],d,c,c0,ho,h1,h2=>by
  simp only[RForm.okL,rbL];exact⟨Uak _,Uak _,trivial,h1,h2⟩
 | f::r,d,c,c0,ho,h1,h2=>by
  rw[RForm.okL]at ho⊢;by_cases hf:(RForm.okS y vs f d c).1=true
  ·rw[Uby hf]at ho⊢;obtain⟨m1,m2,m3⟩:=Xq1 y vs h f d c c0 hf h1 h2;simp only[rbL];by_cases hr:(rbF h f).2=true
   ·obtain⟨k1,k2,k3⟩:=m3 hr;rw[Uby hr,RForm.okL,Uby k1];obtain⟨p1,p2,p3⟩:=Xb5 y vs h r d _ _ ho k2 k3;exact⟨by omega,by omega,p3⟩
   ·rw[Ubo hr];obtain⟨p1,p2,p3⟩:=Xb5 y vs h r d _ c0 ho (by omega) (by omega);exact⟨by omega,by omega,p3⟩
  ·rw[Ubo hf]at ho; cases ho
end
mutual
theorem J0 (h:RAtom->Bool):∀f:RForm,f.small->(rbF h f).1.small
 | .mk op n k a,hs=>by
  rw[RForm.small]at hs;have hl:=Xdm h k;simp only[rbF];split
  ·rw[RForm.small]; exact hs
  ·split
   ·rw[RForm.small]; exact hs
   ·rw[RForm.small]; exact⟨by omega,Xdn h k hs.2⟩
theorem Xdn (h:RAtom->Bool):∀l:List RForm,RForm.smalls l->RForm.smalls (rbL h l)
 | [],_=>by simp[rbL,RForm.smalls]
 | f::r,hs=>by
  rw[RForm.smalls]at hs;simp only[rbL];split
  ·rw[RForm.smalls]; exact⟨J0 h f hs.1,Xdn h r hs.2⟩
  ·exact Xdn h r hs.2
end
def _root_.Go.Sx.RQ.withF (q:RQ)(f:RForm):RQ:=⟨q.name,q.purpose,q.vars,f⟩
theorem Xf8 {y:RSrc}{q:RQ}{h:RAtom->Bool}(hc:Yi y q=true)(hr:(rbF h q.form).2=true):Yi y (q.withF (rbF h q.form).1)=true:=by
 simp only[Yi,Uai,RQ.withF]at hc⊢;exact⟨hc.1,((Xq1 y q.vars h q.form 1 (0,0) (0,0) hc.2 (Uak _) (Uak _)).2.2 hr).1⟩
mutual
def RForm.fine:RForm->Prop
 | .mk op n k _=>k.length<=8/\(op=3->1<=n/\n<=k.length)/\RForm.fines k
def RForm.fines:List RForm->Prop
 | []=>True
 | f::r=>RForm.fine f/\RForm.fines r
end
theorem Xje:∀{l:List RForm},RForm.fines l->∀f∈l,RForm.fine f
 | [],_,f,h=>by cases h
 | g::r,h,f,hf=>by
  rw[RForm.fines]at h;rcases Uax.mp hf with rfl | hf
  ·exact h.1
  ·exact Xje h.2 f hf
theorem Xl3 {f:RForm}(h:RForm.fine f):f.kids.length<=8/\(f.op=3->1<=f.n/\f.n<=f.kids.length)/\∀k∈f.kids,RForm.fine k:=by
 cases f; rw[RForm.fine]at h; exact⟨h.1,h.2.1,Xje h.2.2⟩
mutual
theorem Xhr (y:RSrc)(vs:List RVar):∀(f:RForm) (d:Nat) (c:Nat×Nat),(f.okS y vs d c).1=true->RForm.fine f
 | .mk op n k a,d,c,h=>by
  rw[RForm.okS]at h;rw[RForm.fine];by_cases h0:32<c.1+1\/8<d\/8<k.length
  ·rw[Uby h0]at h; cases h
  rw[Ubo h0]at h;refine⟨by omega,?_⟩;by_cases h1:op=1\/op=2
  ·rw[Uby h1]at h;split at h
   ·exact⟨fun e=>by omega,Xhq y vs k _ _ h⟩
   ·cases h
  rw[Ubo h1]at h;by_cases h2:op=3
  ·rw[Uby h2]at h;split at h
   ·rename_i h3;simp only[Uai,Ubp]at h3;exact⟨fun _=>⟨h3.1.2,h3.2⟩,Xhq y vs k _ _ h⟩
   ·cases h
  rw[Ubo h2]at h;have hk:k.length=0->RForm.fines k:=fun e=>by
   cases k with
   | nil=>rw[RForm.fines]; trivial
   | cons a b=>simp at e
  by_cases h3:op=4
  ·rw[Uby h3]at h;simp only[Uai,Ubp]at h;exact⟨fun e=>absurd e h2,hk h.1.1.2⟩
  rw[Ubo h3]at h;by_cases h4:op=5
  ·rw[Uby h4]at h;simp only[Uai,Ubp]at h;exact⟨fun e=>absurd e h2,hk h.1.1.2⟩
  ·rw[Ubo h4]at h; cases h
theorem Xhq (y:RSrc)(vs:List RVar):∀(l:List RForm) (d:Nat) (c:Nat×Nat),(RForm.okL y vs l d c).1=true->RForm.fines l
 | [],d,c,h=>by rw[RForm.fines]; trivial
 | f::r,d,c,h=>by
  rw[RForm.okL]at h;rw[RForm.fines];split at h
  ·rename_i h1;exact⟨Xhr y vs f d c h1,Xhq y vs r d _ h⟩
  ·cases h
end
end Go.Py
namespace Go.Py
open Go Go.Ab Go.Lx Go.Sx
def X4f (q:RQ)(fs:List (Int×Int))(t:RTerm):Bool:=match Zg q t with | some p=>decide (p∈fs) | none=>false
def We (q:RQ)(fs:List (Int×Int))(a:RAtom):Bool:=X4f q fs a.a||X4f q fs a.b
structure WEnv (ob:Xb)(q:RQ)(fs:List (Int×Int))(qb mb m lb rb:Nat):Prop where
 hq:Xc ob qb=some (.box 42 (.d q.enc))
 hb:Xc ob mb=some (.box 74 (.mp m))
 hm:Xc ob m=some (.map (fs.map V8))
 hl:Xc ob lb=some (.box 132 (.fn 64 [] [.ptr qb [],.ptr mb []]))
 hr:Xc ob rb=some (.box 133 (.fn 65 [] [.ptr lb [],.ptr rb []]))
theorem WEnv.cons {ob:Xb}{q:RQ}{fs:List (Int×Int)}{qb mb m lb rb:Nat}(h:WEnv ob q fs qb mb m lb rb){i:Nat}{o:Ob}(hi:Xa ob<=i):WEnv ((i,o)::ob) q fs qb mb m lb rb:=by
 have key:∀{j:Nat} {x:Ob},Xc ob j=some x->Xc ((i,o)::ob) j=some x:=fun {j x} hj=>by
  have:=Yb hj;rw[Xc,Ubo (by omega)]; exact hj
 exact⟨key h.hq,key h.hb,key h.hm,key h.hl,key h.hr⟩
mutual
theorem Jo:∀{x y:D},D.le x y->y.shape=x.shape
 | .nils,y,h=>by
  simp only[D.le]at h;rcases h with rfl | ⟨_,rfl⟩<;>rfl
 | .agg xs,y,h=>by
  simp only[D.le]at h;obtain⟨ys,rfl,h⟩:=h;simp only[D.shape,Xj7 h]
 | .list a xs,y,h=>by
  simp only[D.le]at h;obtain⟨ys,rfl,h⟩:=h;rfl
 | .int ..,y,h | .bool ..,y,h | .str ..,y,h | .nili,y,h | .nilp,y,h | .nilf,y,h | .nilm,y,h | .ref ..,y,h | .iface ..,y,h | .fn ..,y,h=>by
  simp only[D.le]at h; subst h; rfl
theorem Xj7:∀{xs ys:List D},D.les xs ys->D.shapes ys=D.shapes xs
 | [],ys,h=>by simp only[D.les]at h; subst h; rfl
 | x::r,ys,h=>by
  simp only[D.les]at h;obtain⟨y,s,rfl,h1,h2⟩:=h;simp only[D.shapes,Jo h1,Xj7 h2]
end
abbrev fSh:Sh:=.node [.leaf,.leaf,.leaf,.node [.leaf,.node [.leaf,.leaf,.leaf,.leaf,.leaf],.node [.leaf,.leaf,.leaf,.leaf,.leaf]]]
theorem Xxr {d:D}{f:RForm}(h:D.le d f.enc):d.shape=fSh:=by rw[<-Jo h,RForm.enc_shape]
theorem Xmi {d:D}{f:RForm}(h:D.le d f.enc):(V.d d).isAgg=true:=by
 have:=h.same.2;cases d<;>first | rfl | (exfalso; revert this; rw[RForm.enc_eq]; simp[D.isAgg])
def Xec (h:RAtom->Bool)(l:List RForm)(xs:List D):Prop:=D.les xs ((rbL h l).map RForm.enc)
theorem D.les.append:∀{a b c d:List D},D.les a b->D.les c d->D.les (a++c) (b++d)
 | [],b,c,d,h,h'=>by simp only[D.les]at h; subst h; simpa using h'
 | x::r,b,c,d,h,h'=>by
  simp only[D.les]at h;obtain⟨y,s,rfl,h1,h2⟩:=h;simp only[List.cons_append,D.les];exact⟨y,s++d,rfl,h1,D.les.append h2 h'⟩
theorem Xec.sz {h:RAtom->Bool}{l:List RForm}{xs:List D}(hx:Xec h l xs):∀x∈xs,x.sz=14:=by
 have key:∀{xs:List D} {ys:List RForm},D.les xs (ys.map RForm.enc)->∀x∈xs,x.sz=14:=by
  intro xs;induction xs with
  | nil=>intro ys _ x hx; cases hx
  | cons a r ih=>
   intro ys h x hx;simp only[D.les]at h;obtain⟨y,s,e,h1,h2⟩:=h;cases ys with
   | nil=>cases e
   | cons f t=>
    simp only[Uam,Ua1]at e;obtain⟨rfl,rfl⟩:=e;rcases Uax.1 hx with rfl | hx
    ·have:=h1.same.1; simp at this; omega
    ·exact ih h2 x hx
 exact key hx
theorem Xec.len {h:RAtom->Bool}{l:List RForm}{xs:List D}(hx:Xec h l xs):xs.length=(rbL h l).length:=by
 have:=D.les.length hx;simpa using this.symm
end Go.Py
namespace Go.Proofs.YtolkimpelpnpbaaGreatDoor
open Go Go.Ab Go.Lx Go.Sx Go.Py
set_option maxHeartbeats 2000000
section
variable {P:Prg} (hP:P.p=Tryz.prog)
include hP
theorem Xcq:Xm P.p 64=true:=by rw[hP]; kernel_rfl
theorem Qt:Xm P.p 65=true:=by rw[hP]; kernel_rfl
theorem Xif {q:RQ}{fs:List (Int×Int)}{qb mb m lb rb:Nat}:∀(f:RForm),RForm.fine f->∀{ob:Xb},WEnv ob q fs qb mb m lb rb->∀{K:Out->Xb->Prop},
  (∀d,D.le d (rbF (We q fs) f).1.enc->K (.ret (.tup [.d d,.d (.bool (rbF (We q fs) f).2)])) ob)->ACall P 65 [.d f.enc,.ptr lb [],.ptr rb []] ob K:=fun f hf ob hw K h=>by
 have ih:∀k∈f.kids,∀{ob:Xb},WEnv ob q fs qb mb m lb rb->∀{K:Out->Xb->Prop},(∀d,D.le d (rbF (We q fs) k).1.enc->K (.ret (.tup [.d d,.d (.bool (rbF (We q fs) k).2)])) ob)->ACall P 65 [.d k.enc,.ptr lb [],.ptr rb []] ob K:=fun k hk _ hw _ h=>Xif k ((Xl3 hf).2.2 k hk) hw h;refine Xn hP mixed Y63 Za0 TOk.nil fun _ hno=>?_;have l1:=Yb hw.hl;have l2:=Yb hw.hr;have hl:=hw.hl;have hr:=hw.hr;by_cases h5:f.op=5
 ·have hag:(match V.d f.atom.enc with | V.d (D.agg xs)=>true | V.agg xs=>true | x=>false)=true:=rfl;have e0:(Xa ob==lb)=false:=by simp; omega
  have e1:(Xa ob+1==lb)=false:=by simp; omega
  have ts:∀t:RTerm,t.enc.shape=.node [.leaf,.leaf,.leaf,.leaf,.leaf]:=fun t=>rfl;have ta:∀t:RTerm,(V.d t.enc).isAgg=true:=fun t=>rfl;have tz:(Sh.node [.leaf,.leaf,.leaf,.leaf,.leaf]).size=5:=rfl;simp[Yt1,RForm.enc_eq f,RAtom.enc,ts,ta,tz,h5,hl,hr,e0,e1,↓qm,↓qp,↓qq,↓qj,↓qi,↓qk,↓ql,↓qn,↓zz,↓zw,↓zy,↓wa,↓zx,↓zq,↓zr,↓zp,↓zu,↓zt,↓qt,↓qr,↓za,-zd,↓Xz,↓zl,-X8,↓Xx,-Xy,↓Xr,↓ze,↓qy,↓qu,↓zm,↓qx,↓qw,↓qv,↓zf,↓zh,↓zg,↓zi,↓zj,↓zk,↓wc,↓wb,↓wf,↓we,↓qc,↓qa,↓qe,↓qd,↓qf,↓qh,↓qg,↓zo,↓zn];have hw2:∀o o',WEnv ((Xa ob+1,o)::(Xa ob,o')::ob) q fs qb mb m lb rb:=fun o o'=>(hw.cons (Uak _)).cons (by simp[Xa]);have cR:∀(t:RTerm) {ob:Xb} (_:WEnv ob q fs qb mb m lb rb) {K:Out->Xb->Prop} {pn:Pin K} (_:K (.ret (.d (.bool (X4f q fs t)))) ob),Xie P 64 [.d t.enc,.ptr qb [],.ptr mb []] ob K pn:=fun t ob hw K _ h=>Xui hP hw.hq hw.hb hw.hm h;have hR:rbF (We q fs) f=(f,!(X4f q fs f.atom.a||X4f q fs f.atom.b)):=by rw[Xzm,Uby h5]; rfl
  have hF:=h f.enc (by rw[hR]; exact D.le.refl _);rw[hR,RForm.enc_eq f,h5,RAtom.enc]at hF;have fin:∀(b:Bool) (E:D) (o o':Ob),K (.ret (.tup [.d E,.d (.bool b)])) ob->X6 (Xa ob) (K (.ret (.tup [.d E,.d (.bool b)]))) [.d E,.d (.bool b)] ((Xa ob+1,o)::(Xa ob,o')::ob):=fun b E o o' h=>⟨[],by simp,by simp[Xe]; exact hno _,by simpa[Xe]using h⟩
  repeat' with_reducible refine And.intro ?_ ?_
  all_goals first | rfl | exact Xcq hP | skip
  all_goals refine cR _ (hw2 _ _) ?_
  all_goals simp[hl,hr,e0,e1,RAtom.enc,ts,ta,tz,↓qm,↓qp,↓qq,↓qj,↓qi,↓qk,↓ql,↓qn,↓zz,↓zw,↓zy,↓wa,↓zx,↓zq,↓zr,↓zp,↓zu,↓zt,↓qt,↓qr,↓za,-zd,↓Xz,↓zl,-X8,↓Xx,-Xy,↓Xr,↓ze,↓qy,↓qu,↓zm,↓qx,↓qw,↓qv,↓zf,↓zh,↓zg,↓zi,↓zj,↓zk,↓wc,↓wb,↓wf,↓we,↓qc,↓qa,↓qe,↓qd,↓qf,↓qh,↓qg,↓zo,↓zn]
  all_goals cases g1:X4f q fs f.atom.a
  all_goals simp[hl,hr,e0,e1,RAtom.enc,ts,ta,tz,↓qm,↓qp,↓qq,↓qj,↓qi,↓qk,↓ql,↓qn,↓zz,↓zw,↓zy,↓wa,↓zx,↓zq,↓zr,↓zp,↓zu,↓zt,↓qt,↓qr,↓za,-zd,↓Xz,↓zl,-X8,↓Xx,-Xy,↓Xr,↓ze,↓qy,↓qu,↓zm,↓qx,↓qw,↓qv,↓zf,↓zh,↓zg,↓zi,↓zj,↓zk,↓wc,↓wb,↓wf,↓we,↓qc,↓qa,↓qe,↓qd,↓qf,↓qh,↓qg,↓zo,↓zn]
  all_goals simp only[g1,Bool.true_or,Bool.false_or,Bool.not_true]at hF
  all_goals first | exact fin _ _ _ _ hF | skip
  all_goals repeat' with_reducible refine And.intro ?_ ?_
  all_goals first | rfl | exact Xcq hP | skip
  all_goals refine cR _ (hw2 _ _) ?_
  all_goals simp[hl,hr,e0,e1,RAtom.enc,ts,ta,tz,↓qm,↓qp,↓qq,↓qj,↓qi,↓qk,↓ql,↓qn,↓zz,↓zw,↓zy,↓wa,↓zx,↓zq,↓zr,↓zp,↓zu,↓zt,↓qt,↓qr,↓za,-zd,↓Xz,↓zl,-X8,↓Xx,-Xy,↓Xr,↓ze,↓qy,↓qu,↓zm,↓qx,↓qw,↓qv,↓zf,↓zh,↓zg,↓zi,↓zj,↓zk,↓wc,↓wb,↓wf,↓we,↓qc,↓qa,↓qe,↓qd,↓qf,↓qh,↓qg,↓zo,↓zn]
  all_goals exact fin _ _ _ _ hF
 have hE:f.enc=.agg [iD f.op,iD f.n,.list 14 (f.kids.map RForm.enc),f.atom.enc]:=RForm.enc_eq f;by_cases h4:f.op=4
 ·have hR:rbF (We q fs) f=(f,true):=by rw[Xzm,Ubo h5,Uby h4]
  have hF:=h f.enc (by rw[hR]; exact D.le.refl _);rw[hR,hE,h4]at hF;simp[Yt1,RForm.enc_eq f,h4,↓qm,↓qp,↓qq,↓qj,↓qi,↓qk,↓ql,↓qn,↓zz,↓zw,↓zy,↓wa,↓zx,↓zq,↓zr,↓zp,↓zu,↓zt,↓qt,↓qr,↓za,-zd,↓Xz,↓zl,-X8,↓Xx,-Xy,↓Xr,↓ze,↓qy,↓qu,↓zm,↓qx,↓qw,↓qv,↓zf,↓zh,↓zg,↓zi,↓zj,↓zk,↓wc,↓wb,↓wf,↓we,↓qc,↓qa,↓qe,↓qd,↓qf,↓qh,↓qg,↓zo,↓zn];refine⟨[],by simp,by simp[Xe]; exact hno _,by simpa[Xe]using hF⟩
 ·simp[Yt1,RForm.enc_eq f,h4,h5,↓qm,↓qp,↓qq,↓qj,↓qi,↓qk,↓ql,↓qn,↓zz,↓zw,↓zy,↓wa,↓zx,↓zq,↓zr,↓zp,↓zu,↓zt,↓qt,↓qr,↓za,-zd,↓Xz,↓zl,-X8,↓Xx,-Xy,↓Xr,↓ze,↓qy,↓qu,↓zm,↓qx,↓qw,↓qv,↓zf,↓zh,↓zg,↓zi,↓zj,↓zk,↓wc,↓wb,↓wf,↓we,↓qc,↓qa,↓qe,↓qd,↓qf,↓qh,↓qg,↓zo,↓zn];simp[X8n,↓qm,↓qp,↓qq,↓qj,↓qi,↓qk,↓ql,↓qn,↓zz,↓zw,↓zy,↓wa,↓zx,↓zq,↓zr,↓zp,↓zu,↓zt,↓qt,↓qr,↓za,-zd,↓Xz,↓zl,-X8,↓Xx,-Xy,↓Xr,↓ze,↓qy,↓qu,↓zm,↓qx,↓qw,↓qv,↓zf,↓zh,↓zg,↓zi,↓zj,↓zk,↓wc,↓wb,↓wf,↓we,↓qc,↓qa,↓qe,↓qd,↓qf,↓qh,↓qg,↓zo,↓zn];unfold Xtl;have hkl:=(Xl3 hf).1;have hkn:=(Xl3 hf).2.1;have e0:(Xa ob==lb)=false:=by simp; omega
  have e0r:(Xa ob==rb)=false:=by simp; omega
  have e1r:(Xa ob+1==rb)=false:=by simp; omega
  have e2r:(Xa ob+2==rb)=false:=by simp; omega
  have e4r:(Xa ob+4==rb)=false:=by simp; omega
  have e5r:(Xa ob+5==rb)=false:=by simp; omega
  have hagg:∀k:RForm,(match V.d k.enc with | V.d (D.agg xs)=>true | V.agg xs=>true | x=>false)=true:=fun k=>by rw[RForm.enc_eq]
  let fo:Ob:=.box 40 (.d (.agg [iD f.op,iD f.n,.list 14 (f.kids.map RForm.enc),f.atom.enc]));let O:List D->Xb:=fun xs=>match xs with
   | []=>(Xa ob+1,.box 40 (.d (.agg [iD f.op,iD f.n,.nils,f.atom.enc])))::(Xa ob,fo)::ob
   | x::r=>(Xa ob+4,.arr 40 14 (x::r))::(Xa ob+1,.box 40 (.agg [.d (iD f.op),.d (iD f.n),.sl (Xa ob+4) (r.length+1),.d f.atom.enc]))::(Xa ob,fo)::ob
  refine ALoop.go (ι:=Nat×List D) (fun i=>[(2,.ptr rb []),(3,.ptr (Xa ob) []),(4,.ptr (Xa ob+1) []),(35,.d (.list 14 (f.kids.map RForm.enc))),(36,.d (.int .i64 f.kids.length)),(37,.d (.int .i64 i.1))])
   (fun i=>O i.2) (fun i=>i.1<=f.kids.length/\Xec (We q fs) (f.kids.take i.1) i.2) (fun i=>f.kids.length-i.1) (0,[]) ⟨Ubg _,by simp[Xec,rbL,D.les]⟩ (by simp) rfl ?_
  rintro⟨k,xs⟩ ⟨hk,hx⟩ R rn re rr rp;dsimp only at hk hx rn⊢;by_cases hlt:k<f.kids.length
  ·have wr:IntKind.i64.wrap ((k:Int)+1)=(k:Int)+1:=IntWalk.i64_in _ (by omega);have hmem:f.kids[k]∈f.kids:=Uba hlt;have hst:=X5k (h:=We q fs) hlt;cases xs with
   | nil=>
    simp[O,fo,Xll,hlt,hr,e0r,e1r,e2r,↓qm,↓qp,↓qq,↓qj,↓qi,↓qk,↓ql,↓qn,↓zz,↓zw,↓zy,↓wa,↓zx,↓zq,↓zr,↓zp,↓zu,↓zt,↓qt,↓qr,↓za,-zd,↓Xz,↓zl,-X8,↓Xx,-Xy,↓Xr,↓ze,↓qy,↓qu,↓zm,↓qx,↓qw,↓qv,↓zf,↓zh,↓zg,↓zi,↓zj,↓zk,↓wc,↓wb,↓wf,↓we,↓qc,↓qa,↓qe,↓qd,↓qf,↓qh,↓qg,↓zo,↓zn];refine⟨hagg _,Qt hP,?_⟩;refine ih _ hmem ?_ (fun d hd=>?_)
    ·exact ((hw.cons (Uak _)).cons (by simp[Xa])).cons (by simp[Xa])
    ·have hs:=Xxr hd;have hda:=Xmi hd;have hsz:fSh.size=14:=rfl;have hdz:d.sz=14:=by have:=hd.same.1; simp at this; omega
     have hdm:(match V.d d with | V.d (D.agg xs)=>true | V.agg xs=>true | x=>false)=true:=by
      cases d<;>first | rfl | (revert hda; simp[V.isAgg])
     simp[hs,hsz,↓qm,↓qp,↓qq,↓qj,↓qi,↓qk,↓ql,↓qn,↓zz,↓zw,↓zy,↓wa,↓zx,↓zq,↓zr,↓zp,↓zu,↓zt,↓qt,↓qr,↓za,-zd,↓Xz,↓zl,-X8,↓Xx,-Xy,↓Xr,↓ze,↓qy,↓qu,↓zm,↓qx,↓qw,↓qv,↓zf,↓zh,↓zg,↓zi,↓zj,↓zk,↓wc,↓wb,↓wf,↓we,↓qc,↓qa,↓qe,↓qd,↓qf,↓qh,↓qg,↓zo,↓zn];simp[Xt9,↓qm,↓qp,↓qq,↓qj,↓qi,↓qk,↓ql,↓qn,↓zz,↓zw,↓zy,↓wa,↓zx,↓zq,↓zr,↓zp,↓zu,↓zt,↓qt,↓qr,↓za,-zd,↓Xz,↓zl,-X8,↓Xx,-Xy,↓Xr,↓ze,↓qy,↓qu,↓zm,↓qx,↓qw,↓qv,↓zf,↓zh,↓zg,↓zi,↓zj,↓zk,↓wc,↓wb,↓wf,↓we,↓qc,↓qa,↓qe,↓qd,↓qf,↓qh,↓qg,↓zo,↓zn];cases g:(rbF (We q fs) f.kids[k]).2 with
     | false=>
      rw[g,Ubo (by simp),Ub4]at hst;simp[Xft,wr,↓qm,↓qp,↓qq,↓qj,↓qi,↓qk,↓ql,↓qn,↓zz,↓zw,↓zy,↓wa,↓zx,↓zq,↓zr,↓zp,↓zu,↓zt,↓qt,↓qr,↓za,-zd,↓Xz,↓zl,-X8,↓Xx,-Xy,↓Xr,↓ze,↓qy,↓qu,↓zm,↓qx,↓qw,↓qv,↓zf,↓zh,↓zg,↓zi,↓zj,↓zk,↓wc,↓wb,↓wf,↓we,↓qc,↓qa,↓qe,↓qd,↓qf,↓qh,↓qg,↓zo,↓zn];refine rn [] (k+1,[]) _ _ ⟨hlt,?_⟩ (by simp only; omega) (by simp) ?_ (by simp[O,Xe]; omega) ?_
      ·rw[Xec,hst]; exact hx
      ·have e:¬Xa ob+3<=Xa ob:=by omega
       simp[O,fo,Xe,e]
      ·simp[O,fo,Xe];exact Xp 2 hno
     | true=>
      rw[g,Uby rfl]at hst;simp[hs,hsz,hdz,hda,fo,↓qm,↓qp,↓qq,↓qj,↓qi,↓qk,↓ql,↓qn,↓zz,↓zw,↓zy,↓wa,↓zx,↓zq,↓zr,↓zp,↓zu,↓zt,↓qt,↓qr,↓za,-zd,↓Xz,↓zl,-X8,↓Xx,-Xy,↓Xr,↓ze,↓qy,↓qu,↓zm,↓qx,↓qw,↓qv,↓zf,↓zh,↓zg,↓zi,↓zj,↓zk,↓wc,↓wb,↓wf,↓we,↓qc,↓qa,↓qe,↓qd,↓qf,↓qh,↓qg,↓zo,↓zn];refine⟨hdm,?_⟩;simp[Xft,wr,↓qm,↓qp,↓qq,↓qj,↓qi,↓qk,↓ql,↓qn,↓zz,↓zw,↓zy,↓wa,↓zx,↓zq,↓zr,↓zp,↓zu,↓zt,↓qt,↓qr,↓za,-zd,↓Xz,↓zl,-X8,↓Xx,-Xy,↓Xr,↓ze,↓qy,↓qu,↓zm,↓qx,↓qw,↓qv,↓zf,↓zh,↓zg,↓zi,↓zj,↓zk,↓wc,↓wb,↓wf,↓we,↓qc,↓qa,↓qe,↓qd,↓qf,↓qh,↓qg,↓zo,↓zn];refine rn [Xa ob+4] (k+1,[d]) _ _ ⟨hlt,?_⟩ (by simp only; omega) (by simp) ?_ (by simp[O,Xe]; omega) ?_
      ·have hx0:rbL (We q fs) (f.kids.take k)=[]:=by
        have:=hx.len;simpa using this.symm
       rw[Xec,hst,hx0];exact D.les.cons hd D.les.nil
      ·have e:¬Xa ob+3<=Xa ob:=by omega
       simp[O,fo,Xe,e,Uag]
      ·simp[O,fo,Xe];exact Xp 2 hno
   | cons x r=>
    have hxl:=hx.len;have hrl:(rbL (We q fs) (f.kids.take k)).length<=8:=by
     have:=Xdm (We q fs) (f.kids.take k);simp only[Ua7]at this; omega
    simp only[List.length_cons]at hxl;simp[O,fo,Xll,hlt,hr,e0r,e1r,e4r,e5r,↓qm,↓qp,↓qq,↓qj,↓qi,↓qk,↓ql,↓qn,↓zz,↓zw,↓zy,↓wa,↓zx,↓zq,↓zr,↓zp,↓zu,↓zt,↓qt,↓qr,↓za,-zd,↓Xz,↓zl,-X8,↓Xx,-Xy,↓Xr,↓ze,↓qy,↓qu,↓zm,↓qx,↓qw,↓qv,↓zf,↓zh,↓zg,↓zi,↓zj,↓zk,↓wc,↓wb,↓wf,↓we,↓qc,↓qa,↓qe,↓qd,↓qf,↓qh,↓qg,↓zo,↓zn];refine⟨hagg _,Qt hP,?_⟩;refine ih _ hmem ?_ (fun d hd=>?_)
    ·exact (((hw.cons (Uak _)).cons (by simp[Xa])).cons (by simp[Xa])).cons (by simp[Xa])
    ·have hs:=Xxr hd;have hda:=Xmi hd;have hsz:fSh.size=14:=rfl;have hdz:d.sz=14:=by have:=hd.same.1; simp at this; omega
     have hdm:(match V.d d with | V.d (D.agg xs)=>true | V.agg xs=>true | x=>false)=true:=by
      cases d<;>first | rfl | (revert hda; simp[V.isAgg])
     simp[hs,hsz,↓qm,↓qp,↓qq,↓qj,↓qi,↓qk,↓ql,↓qn,↓zz,↓zw,↓zy,↓wa,↓zx,↓zq,↓zr,↓zp,↓zu,↓zt,↓qt,↓qr,↓za,-zd,↓Xz,↓zl,-X8,↓Xx,-Xy,↓Xr,↓ze,↓qy,↓qu,↓zm,↓qx,↓qw,↓qv,↓zf,↓zh,↓zg,↓zi,↓zj,↓zk,↓wc,↓wb,↓wf,↓we,↓qc,↓qa,↓qe,↓qd,↓qf,↓qh,↓qg,↓zo,↓zn];simp[Xt9,↓qm,↓qp,↓qq,↓qj,↓qi,↓qk,↓ql,↓qn,↓zz,↓zw,↓zy,↓wa,↓zx,↓zq,↓zr,↓zp,↓zu,↓zt,↓qt,↓qr,↓za,-zd,↓Xz,↓zl,-X8,↓Xx,-Xy,↓Xr,↓ze,↓qy,↓qu,↓zm,↓qx,↓qw,↓qv,↓zf,↓zh,↓zg,↓zi,↓zj,↓zk,↓wc,↓wb,↓wf,↓we,↓qc,↓qa,↓qe,↓qd,↓qf,↓qh,↓qg,↓zo,↓zn];cases g:(rbF (We q fs) f.kids[k]).2 with
     | false=>
      rw[g,Ubo (by simp),Ub4]at hst;simp[Xft,wr,↓qm,↓qp,↓qq,↓qj,↓qi,↓qk,↓ql,↓qn,↓zz,↓zw,↓zy,↓wa,↓zx,↓zq,↓zr,↓zp,↓zu,↓zt,↓qt,↓qr,↓za,-zd,↓Xz,↓zl,-X8,↓Xx,-Xy,↓Xr,↓ze,↓qy,↓qu,↓zm,↓qx,↓qw,↓qv,↓zf,↓zh,↓zg,↓zi,↓zj,↓zk,↓wc,↓wb,↓wf,↓we,↓qc,↓qa,↓qe,↓qd,↓qf,↓qh,↓qg,↓zo,↓zn];refine rn [] (k+1,x::r) _ _ ⟨hlt,?_⟩ (by simp only; omega) (by simp) ?_ (by simp[O,Xe]; omega) ?_
      ·rw[Xec,hst]; exact hx
      ·have e:¬Xa ob+6<=Xa ob:=by omega
       simp[O,fo,Xe,e,Uag]
      ·simp[O,fo,Xe];exact Xp 5 hno
     | true=>
      rw[g,Uby rfl]at hst;simp[hs,hsz,hdz,hda,fo,↓qm,↓qp,↓qq,↓qj,↓qi,↓qk,↓ql,↓qn,↓zz,↓zw,↓zy,↓wa,↓zx,↓zq,↓zr,↓zp,↓zu,↓zt,↓qt,↓qr,↓za,-zd,↓Xz,↓zl,-X8,↓Xx,-Xy,↓Xr,↓ze,↓qy,↓qu,↓zm,↓qx,↓qw,↓qv,↓zf,↓zh,↓zg,↓zi,↓zj,↓zk,↓wc,↓wb,↓wf,↓we,↓qc,↓qa,↓qe,↓qd,↓qf,↓qh,↓qg,↓zo,↓zn];refine⟨hdm,by omega,?_⟩;simp[Xft,wr,↓qm,↓qp,↓qq,↓qj,↓qi,↓qk,↓ql,↓qn,↓zz,↓zw,↓zy,↓wa,↓zx,↓zq,↓zr,↓zp,↓zu,↓zt,↓qt,↓qr,↓za,-zd,↓Xz,↓zl,-X8,↓Xx,-Xy,↓Xr,↓ze,↓qy,↓qu,↓zm,↓qx,↓qw,↓qv,↓zf,↓zh,↓zg,↓zi,↓zj,↓zk,↓wc,↓wb,↓wf,↓we,↓qc,↓qa,↓qe,↓qd,↓qf,↓qh,↓qg,↓zo,↓zn];refine rn [] (k+1,x::(r++[d])) _ _ ⟨hlt,?_⟩ (by simp only; omega) (by simp) ?_ (by simp[O,Xe]; omega) ?_
      ·rw[Xec,hst,Uca];exact D.les.append hx (D.les.cons hd D.les.nil)
      ·have e:¬Xa ob+6<=Xa ob:=by omega
       simp[O,fo,Xe,e,Uag]
      ·simp[O,fo,Xe];exact Xp 5 hno
  ·have hk0:k=f.kids.length:=by omega
   subst hk0;rw[Ucq]at hx;have hxl:=hx.len;have hll:=Xdm (We q fs) f.kids;have hR:rbF (We q fs) f=(.mk f.op (if f.op=3 then max (f.n-(f.kids.length-(rbL (We q fs) f.kids).length)) 1 else f.n) (rbL (We q fs) f.kids) f.atom,decide (f.kids.length=0)||decide (0<(rbL (We q fs) f.kids).length)):=by rw[Xzm,Ubo h5,Ubo h4]
   have hD:∀n',n'=(if f.op=3 then max (f.n-(f.kids.length-xs.length)) 1 else f.n)->∀z,(z=.nils/\xs=[]\/z=.list 14 xs)->∀b,b=(decide (f.kids.length=0)||decide (0<xs.length))->K (.ret (.tup [.d (.agg [iD f.op,iD n',z,f.atom.enc]),.d (.bool b)])) ob:=by
    intro n' en z hz b eb;have hF:=h (.agg [iD f.op,iD n',z,f.atom.enc]) (by
     rw[hR,RForm.enc_eq];rw[<-hxl,<-en];rw[show ∀o n k a,(RForm.mk o n k a).op=o from fun _ _ _ _=>rfl,show ∀o n k a,(RForm.mk o n k a).n=n from fun _ _ _ _=>rfl,show ∀o n k a,(RForm.mk o n k a).kids=k from fun _ _ _ _=>rfl,show ∀o n k a,(RForm.mk o n k a).atom=a from fun _ _ _ _=>rfl];refine D.le.agg (D.les.cons (D.le.refl _) (D.les.cons (D.le.refl _) (D.les.cons ?_ (D.les.cons (D.le.refl _) D.les.nil))));rcases hz with⟨rfl,e⟩ | rfl
     ·subst e;have e0:rbL (We q fs) f.kids=[]:=Ubi hxl.symm;rw[e0]; exact D.le.nil _
     ·exact D.le.list hx)
    rw[hR]at hF;simp only[<-hxl,<-eb]at hF;exact hF
   simp[O,Xll,↓qm,↓qp,↓qq,↓qj,↓qi,↓qk,↓ql,↓qn,↓zz,↓zw,↓zy,↓wa,↓zx,↓zq,↓zr,↓zp,↓zu,↓zt,↓qt,↓qr,↓za,-zd,↓Xz,↓zl,-X8,↓Xx,-Xy,↓Xr,↓ze,↓qy,↓qu,↓zm,↓qx,↓qw,↓qv,↓zf,↓zh,↓zg,↓zi,↓zj,↓zk,↓wc,↓wb,↓wf,↓we,↓qc,↓qa,↓qe,↓qd,↓qf,↓qh,↓qg,↓zo,↓zn];refine re _ _ _ ?_;cases xs with
   | nil=>
    have hfin:∀n',n'=(if f.op=3 then max (f.n-(f.kids.length-0)) 1 else f.n)->Yr P [] Xdd (Va (Xa ob) [RV.c 4 14 true,RV.t 5] K) [(3,V.ptr (Xa ob) []),(4,V.ptr (Xa ob+1) [])] ((Xa ob+1,.box 40 (.d (.agg [iD f.op,iD n',.nils,f.atom.enc])))::(Xa ob,fo)::ob):=by
     intro n' en;have hF:=hD n' en .nils (.inl ⟨rfl,rfl⟩) _ rfl;simp[Xt8,fo,↓qm,↓qp,↓qq,↓qj,↓qi,↓qk,↓ql,↓qn,↓zz,↓zw,↓zy,↓wa,↓zx,↓zq,↓zr,↓zp,↓zu,↓zt,↓qt,↓qr,↓za,-zd,↓Xz,↓zl,-X8,↓Xx,-Xy,↓Xr,↓ze,↓qy,↓qu,↓zm,↓qx,↓qw,↓qv,↓zf,↓zh,↓zg,↓zi,↓zj,↓zk,↓wc,↓wb,↓wf,↓we,↓qc,↓qa,↓qe,↓qd,↓qf,↓qh,↓qg,↓zo,↓zn];refine⟨[],by simp,by simp[Xe]; exact hno _,?_⟩;have ek:decide (f.kids=[])=(decide (f.kids.length=0)||decide (0<([]:List D).length)):=by
      rw[Ucl]; simp
     rw[ek];simpa[Xe]using hF
    by_cases h3:f.op=3
    ·have hn:=hkn h3;have w1:IntKind.i64.wrap (f.kids.length:Int)=(f.kids.length:Int):=IntWalk.i64_in _ (by omega);have w2:IntKind.i64.wrap (f.n-(f.kids.length:Int))=f.n-(f.kids.length:Int):=IntWalk.i64_in _ (by omega);have hf':=hfin (if f.n-(f.kids.length:Int)<1 then 1 else f.n-(f.kids.length:Int)) (by rw[Uby h3]; split<;>omega);simp[h3,fo,w1,w2,↓qm,↓qp,↓qq,↓qj,↓qi,↓qk,↓ql,↓qn,↓zz,↓zw,↓zy,↓wa,↓zx,↓zq,↓zr,↓zp,↓zu,↓zt,↓qt,↓qr,↓za,-zd,↓Xz,↓zl,-X8,↓Xx,-Xy,↓Xr,↓ze,↓qy,↓qu,↓zm,↓qx,↓qw,↓qv,↓zf,↓zh,↓zg,↓zi,↓zj,↓zk,↓wc,↓wb,↓wf,↓we,↓qc,↓qa,↓qe,↓qd,↓qf,↓qh,↓qg,↓zo,↓zn]at hf'⊢;exact hf'
    ·have hf':=hfin f.n (by rw[Ubo h3]);simp[h3,fo,↓qm,↓qp,↓qq,↓qj,↓qi,↓qk,↓ql,↓qn,↓zz,↓zw,↓zy,↓wa,↓zx,↓zq,↓zr,↓zp,↓zu,↓zt,↓qt,↓qr,↓za,-zd,↓Xz,↓zl,-X8,↓Xx,-Xy,↓Xr,↓ze,↓qy,↓qu,↓zm,↓qx,↓qw,↓qv,↓zf,↓zh,↓zg,↓zi,↓zj,↓zk,↓wc,↓wb,↓wf,↓we,↓qc,↓qa,↓qe,↓qd,↓qf,↓qh,↓qg,↓zo,↓zn]at hf'⊢;exact hf'
   | cons x r=> 
    have hfin:∀n',n'=(if f.op=3 then max (f.n-(f.kids.length-(x::r).length)) 1 else f.n)->Yr P [] Xdd (Va (Xa ob) [RV.c 4 14 true,RV.t 5] K) [(3,V.ptr (Xa ob) []),(4,V.ptr (Xa ob+1) [])] ((Xa ob+4,.arr 40 14 (x::r))::(Xa ob+1,.box 40 (.agg [.d (iD f.op),.d (iD n'),.sl (Xa ob+4) (r.length+1),.d f.atom.enc]))::(Xa ob,fo)::ob):=by
     intro n' en;have hF:=hD n' en (.list 14 (x::r)) (.inr rfl) _ rfl;simp[Xt8,fo,↓qm,↓qp,↓qq,↓qj,↓qi,↓qk,↓ql,↓qn,↓zz,↓zw,↓zy,↓wa,↓zx,↓zq,↓zr,↓zp,↓zu,↓zt,↓qt,↓qr,↓za,-zd,↓Xz,↓zl,-X8,↓Xx,-Xy,↓Xr,↓ze,↓qy,↓qu,↓zm,↓qx,↓qw,↓qv,↓zf,↓zh,↓zg,↓zi,↓zj,↓zk,↓wc,↓wb,↓wf,↓we,↓qc,↓qa,↓qe,↓qd,↓qf,↓qh,↓qg,↓zo,↓zn];have e:¬Xa ob+4<Xa ob:=by omega
     refine⟨[],by simp,by simp[Xe]; exact hno _,?_⟩;simpa[Xe]using hF
    by_cases h3:f.op=3
    ·have hn:=hkn h3;simp only[List.length_cons]at hxl hfin;have w1:IntKind.i64.wrap ((f.kids.length:Int)-((r.length:Int)+1))=(f.kids.length:Int)-((r.length:Int)+1):=IntWalk.i64_in _ (by omega);have w2:IntKind.i64.wrap (f.n-((f.kids.length:Int)-((r.length:Int)+1)))=f.n-((f.kids.length:Int)-((r.length:Int)+1)):=IntWalk.i64_in _ (by omega);have hf':=hfin (if f.n-((f.kids.length:Int)-((r.length:Int)+1))<1 then 1 else f.n-((f.kids.length:Int)-((r.length:Int)+1))) (by rw[Uby h3]; split<;>omega);simp[h3,fo,w1,w2,↓qm,↓qp,↓qq,↓qj,↓qi,↓qk,↓ql,↓qn,↓zz,↓zw,↓zy,↓wa,↓zx,↓zq,↓zr,↓zp,↓zu,↓zt,↓qt,↓qr,↓za,-zd,↓Xz,↓zl,-X8,↓Xx,-Xy,↓Xr,↓ze,↓qy,↓qu,↓zm,↓qx,↓qw,↓qv,↓zf,↓zh,↓zg,↓zi,↓zj,↓zk,↓wc,↓wb,↓wf,↓we,↓qc,↓qa,↓qe,↓qd,↓qf,↓qh,↓qg,↓zo,↓zn]at hf'⊢;exact hf'
    ·have hf':=hfin f.n (by rw[Ubo h3]);simp[h3,fo,↓qm,↓qp,↓qq,↓qj,↓qi,↓qk,↓ql,↓qn,↓zz,↓zw,↓zy,↓wa,↓zx,↓zq,↓zr,↓zp,↓zu,↓zt,↓qt,↓qr,↓za,-zd,↓Xz,↓zl,-X8,↓Xx,-Xy,↓Xr,↓ze,↓qy,↓qu,↓zm,↓qx,↓qw,↓qv,↓zf,↓zh,↓zg,↓zi,↓zj,↓zk,↓wc,↓wb,↓wf,↓we,↓qc,↓qa,↓qe,↓qd,↓qf,↓qh,↓qg,↓zo,↓zn]at hf'⊢;exact hf'
termination_by f=>SizeOf.sizeOf f
decreasing_by exact RForm.kid_lt hk
end
end Go.Proofs.YtolkimpelpnpbaaGreatDoor
namespace Go.Py
open Go Go.Ab Go.Lx Go.Sx
abbrev qSh:Sh:=.node [.leaf,.leaf,.leaf,.node [.leaf,.leaf,.leaf,.node [.leaf,.node [.leaf,.leaf,.leaf,.leaf,.leaf],.node [.leaf,.leaf,.leaf,.leaf,.leaf]]]]
def Xli (fs:List (Int×Int))(p:Int×Int):List (Int×Int):=if p∈fs then fs else fs++[p]
def refP (r:RRef):Int×Int:=(r.schema,r.field)
def Ur (l:List RRef):List (Int×Int):=l.foldl (fun fs r=>Xli fs (refP r)) []
theorem Xfu {fs:List (Int×Int)}{p x:Int×Int}:x∈Xli fs p↔x∈fs\/x=p:=by
 unfold Xli;split
 ·rename_i h;refine⟨.inl,fun h1=>h1.elim id fun e=>by rw[e]; exact h⟩
 ·simp
theorem Xxl {l:List RRef}{x:Int×Int}:x∈Ur l↔∃r∈l,refP r=x:=by
 have key:∀(l:List RRef) (fs:List (Int×Int)),x∈l.foldl (fun fs r=>Xli fs (refP r)) fs↔x∈fs\/∃r∈l,refP r=x:=by
  intro l;induction l with
  | nil=>simp
  | cons a r ih=>
   intro fs;rw[List.foldl_cons,ih,Xfu];simp only[Uax,exists_eq_or_imp];constructor
   ·rintro ((h | h) | h)
    ·exact .inl h
    ·exact .inr (.inl h.symm)
    ·exact .inr (.inr h)
   ·rintro (h | h | h)
    ·exact .inl (.inl h)
    ·exact .inl (.inr h.symm)
    ·exact .inr h
 unfold Ur;rw[key]; simp
theorem Xsc (l:List RRef)(r:RRef):Ur (l++[r])=Xli (Ur l) (refP r):=by
 unfold Ur; rw[Ucr]; rfl
theorem Xcz (p:Nat->Bool)(fs:List (Int×Int)):Q1 p (fs.map V8)=false:=by
 induction fs with
 | nil=>rfl
 | cons a r ih=>simp only[Uam,V8,Q1,V.men]at ih⊢; simpa using ih
def zQ:RQ:=⟨[],0,[],.mk 0 0 [] Ygu⟩
abbrev zQD:D:=.agg [.str [],.int .i64 0,.nils,.agg [.int .i64 0,.int .i64 0,.nils,.agg [.int .i64 0,.agg [.str [],.str [],.int .i64 0,.int .i64 0,.int .i64 0],.agg [.str [],.str [],.int .i64 0,.int .i64 0,.int .i64 0]]]]
theorem Yr5:D.le zQD zQ.enc:=by
 simp only[zQ,RQ.enc,RForm.enc_eq,RForm.op,RForm.n,RForm.kids,RForm.atom,Ubm,Ygu,RAtom.enc,Yfr,RTerm.enc];exact D.le.agg (D.les.cons (D.le.refl _) (D.les.cons (D.le.refl _) (D.les.cons (D.le.nil _) (D.les.cons (D.le.agg (D.les.cons (D.le.refl _) (D.les.cons (D.le.refl _) (D.les.cons (D.le.nil _) (D.les.cons (D.le.refl _) D.les.nil))))) D.les.nil))))
def Yu (y:RSrc)(q:RQ)(l:List RRef):RQ×Int:=
 if Yi y q then (if (rbF (We q (Ur l)) q.form).2 then (q.withF (rbF (We q (Ur l)) q.form).1,0) else (zQ,260)) else (zQ,210)
theorem Xh5 (p:Int×Int):∀fs:List (Int×Int),Xk9 (fD p) (.d (.bool true)) (fs.map V8)=(Xli fs p).map V8
 | []=>by simp[Xli,Xk9,V8]
 | r::fs=>by
  have ih:=Xh5 p fs;have:D.sameKey (fD p) (fD r)=decide (p=r):=by
   obtain⟨a,b⟩:=p; obtain⟨c,d⟩:=r;rw[Ucl];simp[D.sameKey,fD,D.eqbs,D.eqb]
  simp only[Uam,V8,Xk9,this];by_cases e:p=r
  ·subst e; simp[Xli,V8]
  ·rw[Ubo (by simpa using e),ih];unfold Xli;by_cases h:p∈fs
   ·simp[h,V8]
   ·simp[h,e,V8]
end Go.Py
namespace Go.Proofs.YtolkimpelpnpbaaGreatDoor
open Go Go.Ab Go.Lx Go.Sx Go.Py
section
variable {P:Prg} (hP:P.p=Tryz.prog)
include hP
theorem Xig {q:RQ}(hf:RForm.fine q.form){fs:List (Int×Int)}{m:Nat}{ob:Xb}(hm:Xc ob m=some (.map (fs.map V8))){K:Out->Xb->Prop}
  (h:∀d,D.le d (q.withF (rbF (We q fs) q.form).1).enc->K (.ret (.tup [.d d,.d (.bool (rbF (We q fs) q.form).2)])) ob):ACall P 34 [.d q.enc,.mp m] ob K:=by
 refine Xn hP mixed Y6o Zak TOk.nil fun _ hno=>?_;have hml:=Yb hm;have hagg:∀k:RForm,(match V.d k.enc with | V.d (D.agg xs)=>true | V.agg xs=>true | x=>false)=true:=fun k=>by rw[RForm.enc_eq]
 simp[Y76,RQ.enc,Uag];refine⟨hagg _,Qt hP,?_⟩;refine Xif hP (q:=q) (fs:=fs) (qb:=Xa ob) (mb:=Xa ob+1) (m:=m) (lb:=Xa ob+3) (rb:=Xa ob+4) _ hf ?_ (fun d hd=>?_)
 ·have e0:(Xa ob==m)=false:=by simp; omega
  have e1:(Xa ob+1==m)=false:=by simp; omega
  have e2:(Xa ob+2==m)=false:=by simp; omega
  have e3:(Xa ob+3==m)=false:=by simp; omega
  have e4:(Xa ob+4==m)=false:=by simp; omega
  exact⟨by simp[RQ.enc],by simp,by simp[hm,e0,e1,e2,e3,e4],by simp,by simp⟩
 ·have hs:=Xxr hd;have hsz:fSh.size=14:=rfl;have hda:=Xmi hd;simp[X8k,hs,hsz];have hF:=h (.agg [.str q.name,iD q.purpose,.list 4 (q.vars.map RVar.enc),d]) (D.le.agg (D.les.cons (D.le.refl _) (D.les.cons (D.le.refl _) (D.les.cons (D.le.refl _) (D.les.cons hd D.les.nil)))));refine⟨[],by simp,by simp[Xe]; exact hno _,by simpa[Xe]using hF⟩
theorem Xiu {t:RTab}(hy:t.src.small){q:RQ}(hq:q.small){l:List RRef}(hl:l.length<=100000){ob:Xb}{K:V->Prop}
  (h:∀d,D.le d (Yu t.src q l).1.enc->K (.tup [.d d,.d (.int .i64 (Yu t.src q l).2)])):PCall P 16 [.d t.enc,.d q.enc,.d (.list 4 (l.map RRef.enc))] ob K:=by
 refine Xh hP mixed (ds:=[t.enc,q.enc,.list 4 (l.map RRef.enc)]) Y6h Zac TOk.nil ?_;have ts:t.enc.shape.size=7:=rfl;have qs:q.enc.shape.size=17:=by rw[RQ.enc,D.shape]; simp[D.shapes]
 simp[Y7y,ts,qs];refine⟨rfl,rfl,rfl,rfl,Xf2 hP hy hq ?_⟩;cases hc:Yi t.src q with
 | false=>
  have hF:=h zQD (by simp only[Yu,hc]; exact Yr5);simp only[Yu,hc]at hF;simp[Vj,hc];exact hF
 | true=>
  simp[Vj,hc];refine ALoop.upto l.length (fun k=>[(4,.ptr 1 []),(6,.ptr 2 []),(9,.mp 3),(21,.d (.list 4 (l.map RRef.enc))),(22,.d (.int .i64 l.length)),(23,.d (.int .i64 k))])
   (fun k=>[(3,.map ((Ur (l.take k)).map V8)),(2,.box 42 (.d zQD)),(1,.box 42 (.d q.enc)),(0,.box 32 (.d t.enc))]) (fun _=>True) trivial (by simp) (by simp[Ur]) ?_ ?_
  ·intro k hk _ R rn re rr rp;have wr:IntKind.i64.wrap ((k:Int)+1)=(k:Int)+1:=IntWalk.i64_in _ (by omega);have hst:Ur (l.take (k+1))=Xli (Ur (l.take k)) (refP l[k]):=by rw[Ubj hk,Xsc]
   simp[Xtn,hk,RRef.enc];refine⟨Xb4 (refP l[k]) _,?_⟩;rw[show D.agg [iD l[k].schema,iD l[k].field]=fD (refP l[k]) from rfl,Xh5,wr];refine rn [] _ _ trivial (by simp) ?_ ?_ ?_
   ·rw[hst]; simp[Xe]
   ·simp[Xe]
   ·rw[hst]; simp[Xe];exact Xcz _ _
  ·intro _ R re rr rp;simp[Xtn];refine re _ _ _ ?_;simp[qs];refine⟨rfl,?_⟩;have hck:(q.form.okS t.src q.vars 1 (0,0)).1=true:=by
    simp only[Yi,Uai]at hc;exact hc.2
   refine Xig hP (Xhr _ _ _ _ _ hck) (fs:=Ur l) (by simp) (fun d hd=>?_);have hds:d.shape=qSh:=by rw[<-Jo hd]; simp[RQ.enc,RQ.withF,D.shape,D.shapes]
   have qz:qSh.size=17:=rfl;have qsh:q.enc.shape=qSh:=by simp[RQ.enc,D.shape,D.shapes]
   have hda:(V.d d).isAgg=true:=by
    have:=hd.same.2;cases d<;>first | rfl | (exfalso; revert this; simp[RQ.enc,D.isAgg])
   have hdm:(match V.d d with | V.d (D.agg xs)=>true | V.agg xs=>true | x=>false)=true:=by
    cases d<;>first | rfl | (revert hda; simp[V.isAgg])
   have zs:zQD.shape.size=17:=rfl;simp[hds,qz,qsh];cases hr:(rbF (We q (Ur l)) q.form).2 with
   | false=>
    have hw:Yu t.src q l=(zQ,260):=by unfold Yu; rw[Uby hc,Ubo (by simp[hr])]
    have hF:=h zQD (by rw[hw]; exact Yr5);rw[hw]at hF;simp[Xto,hds,qz,qsh];exact hF
   | true=>
    have hw:Yu t.src q l=(q.withF (rbF (We q (Ur l)) q.form).1,0):=by unfold Yu; rw[Uby hc,Uby hr]
    have hF:=h d (by rw[hw]; exact hd);rw[hw]at hF;simp[Xto,hds,qz,qsh];exact⟨hdm,hF⟩
end
end Go.Proofs.YtolkimpelpnpbaaGreatDoor
namespace Go.Py
open Go Go.Ab Go.Lx Go.Sx
def Xdz (l:List RAtom):List RTerm:=l.flatMap fun a=>[a.a,a.b]
def U0 (q:RQ)(fs:List (Int×Int))(t:RTerm):List (Int×Int):=match Zg q t with | some p=>Xli fs p | none=>fs
def fsA (q:RQ)(l:List RAtom):List (Int×Int):=(Xdz l).foldl (U0 q) []
def Xt (q:RQ):List (Int×Int):=(fsA q q.form.atoms).mergeSort leP
theorem X4d (q:RQ)(l:List RAtom)(a:RAtom):fsA q (l++[a])=U0 q (U0 q (fsA q l) a.a) a.b:=by
 simp[fsA,Xdz,List.flatMap_append,Ucr]
theorem X1r (q:RQ)(fs:List (Int×Int))(t:RTerm):(U0 q fs t).length<=fs.length+1:=by
 unfold U0;split
 ·unfold Xli; split<;>simp
 ·omega
theorem Xw4 (q:RQ)(l:List RAtom):(fsA q l).length<=2*l.length:=by
 have h1:∀(l:List RTerm) (fs:List (Int×Int)),(l.foldl (U0 q) fs).length<=fs.length+l.length:=by
  intro l;induction l with
  | nil=>simp
  | cons a r ih=>
   intro fs;have:=ih (U0 q fs a);have h2:=X1r q fs a;simp only[List.foldl_cons,List.length_cons];omega
 have h3:(Xdz l).length=2*l.length:=by
  induction l with
  | nil=>rfl
  | cons a r ih=>simp only[Xdz,List.flatMap_cons,Uar,List.length_cons,List.length_nil]at ih⊢; omega
 have:=h1 (Xdz l) [];simp only[List.length_nil]at this;unfold fsA; omega
theorem Xj5 (a b c:Int×Int)(h1:leP a b=true)(h2:leP b c=true):leP a c=true:=by
 unfold leP at *;simp only[Ucd,Uai,Ubp]at *;omega
theorem Xj4 (a b:Int×Int):(leP a b||leP b a)=true:=by
 unfold leP;simp only[Ucd,Uai,Ubp];omega
theorem X4z {a b:Int×Int}(h1:leP a b=true)(h2:leP b a=true):a=b:=by
 unfold leP at *;simp only[Ucd,Uai,Ubp]at *;obtain⟨a1,a2⟩:=a;obtain⟨b1,b2⟩:=b;simp only[Ub0]at *;omega
theorem Xz1 {l l':List (Int×Int)}(h:l.Perm l'):l.mergeSort leP=l'.mergeSort leP:=by
 refine List.Perm.eq_of_pairwise (le:=fun a b=>leP a b=true) (fun a b _ _ h1 h2=>X4z h1 h2) (List.pairwise_mergeSort Xj5 Xj4 l) (List.pairwise_mergeSort Xj5 Xj4 l') ?_;exact (List.mergeSort_perm l leP).trans (h.trans (List.mergeSort_perm l' leP).symm)
theorem Ygt (fs:List (Int×Int)):(List.range fs.length).map (atF fs)=fs:=by
 apply List.ext_getElem
 ·simp
 ·intro i h1 h2;simp at h1;simp[atF,List.getD,h1]
theorem Yfp {fs:List (Int×Int)}{sn:List Nat}(h:sn.Perm (List.range fs.length)):(sn.map (atF fs)).mergeSort leP=fs.mergeSort leP:=by
 rw[Xz1 (h.map (atF fs)),Ygt]
end Go.Py
namespace Go.Proofs.YtolkimpelpnpbaaGreatDoor
open Go Go.Ab Go.Lx Go.Sx Go.Py
section
variable {P:Prg} (hP:P.p=Tryz.prog)
include hP
theorem X8w {m:Nat}{ob:Xb}(hm:(Xc ob m).isSome=true){K:Out->Xb->Prop}(h:K (.ret (.fn 109 [] [.ptr (Xa ob) []])) ((Xa ob,.box 74 (.mp m))::ob)):ACall P 53 [.mp m] ob K:=by
 refine Ws hP mixed Y6y Zau TOk.nil fun _ hno=>?_;simp[Y8e];have hml:m<Xa ob:=by
  rcases Uaa m (Xa ob) with h1 | h1
  ·exact h1
  ·rw[X1 ob m h1]at hm; cases hm
 refine⟨[Xa ob],by simp[Xe],?_,by simpa[Xe]using h⟩;have e:¬Xa ob<=m:=by omega
 simp[Xe,e];exact hno _
theorem Xuj (hL:Qs P){ob:Xb}{bx E m:Nat}{fs:List (Int×Int)}(hb:Xc ob bx=some (.box E (.mp m)))(hm:Xc ob m=some (.map (fs.map V8)))(hn:fs.length<=100000){K:Out->Xb->Prop}
  (h0:fs=[]->K (.ret (.d .nils)) ob) (h:∀i,Xa ob<=i->K (.ret (.sl i (fs.mergeSort leP).length)) ((i,.arr 76 2 ((fs.mergeSort leP).map fD))::ob)) :
  ACall P 52 [.fn 109 [] [.ptr bx []],.fn 54 [] []] ob K:=by
 refine Ws hP mixed Ysq Yw9 TOk.nil fun _ hno=>?_;simp[Yt0];refine Xcf hP hL hb hm hn (fun e=>?_) (fun sn hs hne=>?_)
 ·simp[Xfs];have hfs:fs=[]:=Ubi e;refine Xrl (P:=P) (by rw[hP]; exact Xdv) ?_;simp[Xfr];exact⟨[],by simp,by simpa using hno [],by simpa using h0 hfs⟩
 ·simp[Xfs];have hln:sn.length=(sn.map (atF fs)).length:=by simp
  have hlen:sn.length=fs.length:=by simpa using hs.length_eq
  have hmap:sn.map (fun i=>fD (atF fs i))=(sn.map (atF fs)).map prD:=by simp[fD,prD]
  rw[hmap,hln];refine Ygp (P:=P) (E:=76) (xs:=sn.map (atF fs)) (by rw[hP]; exact Xdv) (by simp; omega) (by simp) ?_;rw[Yfp hs];have hl2:(fs.mergeSort leP).length=fs.length:=List.length_mergeSort fs;simp[Xfr];refine⟨[Xa ob+5],by simp[Xe],by simp[Xe]; exact hno _,?_⟩;have:=h (Xa ob+5) (by omega);rw[hl2,<-hlen]at this;rw[show (prD:Int×Int->D)=fD from rfl];simpa[Xe]using this
theorem Xls (hL:Qs P){q:RQ}(hq:q.small)(hl:q.form.atoms.length<=1000){ob:Xb}{K:V->Prop}(h:∀d:D,(d=.list 2 ((Xt q).map fD)\/Xt q=[]/\d=.nils)->K (.d d)):PCall P 28 [.d q.enc] ob K:=by
 refine Xh hP mixed (ds:=[q.enc]) Y6m Zah TOk.nil ?_;have qs:q.enc.shape.size=17:=by rw[RQ.enc,D.shape]; simp[D.shapes]
 simp[Y73,qs];refine⟨rfl,X9b hP hq hl (fun d hd=>?_)⟩;have hlen:Vy (.d d)=.d (.int .i64 q.form.atoms.length)/\∀ob,Ue ob (.d d):=by
  rcases hd with rfl | ⟨e,rfl⟩
  ·simp
  ·simp[e]
 refine⟨hlen.2 _,?_⟩;rw[hlen.1];refine ALoop.upto q.form.atoms.length (fun k=>[(1,.ptr 0 []),(3,.mp 1),(12,.d d),(13,.d (.int .i64 q.form.atoms.length)),(14,.d (.int .i64 k))])
  (fun k=>[(1,.map ((fsA q (q.form.atoms.take k)).map V8)),(0,.box 42 (.d q.enc))]) (fun _=>True) trivial (by simp) (by simp[fsA,Xdz]) ?_ ?_
 ·intro k hk _ R rn re rr rp;have wr:IntKind.i64.wrap ((k:Int)+1)=(k:Int)+1:=IntWalk.i64_in _ (by omega);have hst:fsA q (q.form.atoms.take (k+1))=U0 q (U0 q (fsA q (q.form.atoms.take k)) q.form.atoms[k].a) q.form.atoms[k].b:=by rw[Ubj hk,X4d]
  obtain rfl:d=.list 11 (q.form.atoms.map RAtom.enc):=by
   rcases hd with rfl | ⟨e,rfl⟩
   ·rfl
   ·rw[e]at hk; simp at hk
  have ag:∀a:RAtom,(match V.d a.enc with | V.d (D.agg xs)=>true | V.agg xs=>true | x=>false)=true:=fun a=>rfl;have tg:∀a:RTerm,(match V.d a.enc with | V.d (D.agg xs)=>true | V.agg xs=>true | x=>false)=true:=fun a=>rfl;simp[Xts,hk];have hka:q.form.atoms[k].enc=.agg [iD q.form.atoms[k].op,q.form.atoms[k].a.enc,q.form.atoms[k].b.enc]:=rfl;rw[hka];simp;refine⟨rfl,?_⟩;generalize q.form.atoms[k]=a at hst⊢;refine⟨rfl,rfl,rfl,?_⟩;rw[show U0 q (U0 q (fsA q (q.form.atoms.take k)) a.a) a.b=[a.a,a.b].foldl (U0 q) (fsA q (q.form.atoms.take k)) from rfl]at hst;have key:∀(Q:Y3) (ts:List RTerm) (fs0:List (Int×Int)),ts.length=2->
    (∀sl,Xk sl [1,3,12,13,14]=[(1,.ptr 0 []),(3,.mp 1),(12,.d (.list 11 (q.form.atoms.map RAtom.enc))),(13,.d (.int .i64 q.form.atoms.length)),(14,.d (.int .i64 k))]->Q (.exit 2) sl [(2,.box 38 (.d (.agg [iD a.op,a.a.enc,a.b.enc]))),(1,.map ((ts.foldl (U0 q) fs0).map V8)),(0,.box 42 (.d q.enc))])->
    ALoop [1,3,12,13,14,22,23,24] (Yr P [] Xg9) Q [(1,.ptr 0 []),(3,.mp 1),(12,.d (.list 11 (q.form.atoms.map RAtom.enc))),(13,.d (.int .i64 q.form.atoms.length)),(14,.d (.int .i64 k)),(22,.d (.list 5 (ts.map RTerm.enc))),(23,.d (.int .i64 2)),(24,.d (.int .i64 0))] [(2,.box 38 (.d (.agg [iD a.op,a.a.enc,a.b.enc]))),(1,.map (fs0.map V8)),(0,.box 42 (.d q.enc))]:=by
   intro Q ts fs0 htl hQ;refine ALoop.upto 2 (fun j=>[(1,.ptr 0 []),(3,.mp 1),(12,.d (.list 11 (q.form.atoms.map RAtom.enc))),(13,.d (.int .i64 q.form.atoms.length)),(14,.d (.int .i64 k)),(22,.d (.list 5 (ts.map RTerm.enc))),(23,.d (.int .i64 2)),(24,.d (.int .i64 j))])
    (fun j=>[(2,.box 38 (.d (.agg [iD a.op,a.a.enc,a.b.enc]))),(1,.map (((ts.take j).foldl (U0 q) fs0).map V8)),(0,.box 42 (.d q.enc))]) (fun _=>True) trivial (by simp) (by simp) ?_ ?_
   ·intro j hj _ R2 rn2 re2 rr2 rp2;have hjl:j<ts.length:=by omega
    have hj2:(j:Int)<2:=by omega
    have wj:IntKind.i64.wrap ((j:Int)+1)=(j:Int)+1:=IntWalk.i64_in _ (by omega);have hsj:(ts.take (j+1)).foldl (U0 q) fs0=U0 q ((ts.take j).foldl (U0 q) fs0) ts[j]:=by rw[Ubj hjl,Ucr]; rfl
    have tsz:(Sh.node [.leaf,.leaf,.leaf,.leaf,.leaf]).size=5:=rfl;simp[Xtr,hj2,hjl,qs,tsz];refine⟨rfl,rfl,rfl,rfl,?_⟩;refine Xiw hP ?_;unfold Xc3;cases hf:Zg q ts[j]with
    | none=>
     have hst2:U0 q ((ts.take j).foldl (U0 q) fs0) ts[j]=(ts.take j).foldl (U0 q) fs0:=by unfold U0; rw[hf]
     simp[fD,Xtt,wj];refine rn2 [] _ _ trivial (by simp) ?_ ?_ ?_
     ·rw[hsj,hst2]; simp[Xe]
     ·simp[Xe]
     ·rw[hsj,hst2]; simp[Xe]; exact Xcz _ _
    | some p=>
     have hst2:U0 q ((ts.take j).foldl (U0 q) fs0) ts[j]=Xli ((ts.take j).foldl (U0 q) fs0) p:=by unfold U0; rw[hf]
     simp[fD];refine⟨Xb4 p _,?_⟩;rw[show D.agg [D.int .i64 p.1,D.int .i64 p.2]=fD p from rfl,Xh5];simp[Xtt,wj];refine rn2 [] _ _ trivial (by simp) ?_ ?_ ?_
     ·rw[hsj,hst2]; simp[Xe]
     ·simp[Xe]
     ·rw[hsj,hst2]; simp[Xe]; exact Xcz _ _
   ·intro _ R2 re2 rr2 rp2;rw[Ubk (by omega)];simp[Xtr];refine re2 _ _ _ (hQ _ (by simp))
  refine key _ [a.a,a.b] _ rfl (fun sl hsl=>?_);simp only[Xk,Ua1,Ub0,true_and,Ua2]at hsl;obtain⟨g1,g2,g3,g4,g5⟩:=hsl;simp[g1,g2,g3,g4,g5,wr];refine rn [] _ _ trivial (by simp) ?_ ?_ ?_
  ·rw[hst]; simp[Xe]
  ·simp[Xe]
  ·rw[hst]; simp[Xe]; exact Xcz _ _
 ·intro _ R re rr rp;simp[Xts];refine re _ _ _ ?_;simp;refine X8w hP (by simp) ?_;simp;have hn:(fsA q q.form.atoms).length<=100000:=by have:=Xw4 q q.form.atoms; omega
  refine Xuj hP hL (bx:=2) (E:=74) (m:=1) (fs:=fsA q q.form.atoms) (by simp) (by simp) hn (fun e=>?_) (fun i hi=>?_)
  ·have hh:=h .nils (.inr ⟨by unfold Xt; rw[e]; simp,rfl⟩);simp;exact hh
  ·have hh:=h _ (.inl rfl);simp;exact hh
end
end Go.Proofs.YtolkimpelpnpbaaGreatDoor
namespace Go.Py
open Go Go.Ab Go.Lx Go.Sx
def Uw (y:RSrc)(p:Int×Int):RRef:=match y.schemas[p.1.toNat]? with
 | some c=>(match c.fields[p.2.toNat]? with | some f=>⟨c.name,f.name,p.1,p.2⟩ | none=>⟨c.name,[],p.1,p.2⟩)
 | none=>⟨[],[],p.1,p.2⟩
theorem X77 (y:RSrc)(p:Int×Int):refP (Uw y p)=p:=by
 unfold Uw refP;split
 ·split<;>rfl
 ·rfl
theorem Ycl {q:RQ}{l:List RAtom}{p:Int×Int}:p∈fsA q l↔∃a∈l,Zg q a.a=some p\/Zg q a.b=some p:=by
 have key:∀(l:List RTerm) (fs:List (Int×Int)),p∈l.foldl (U0 q) fs↔p∈fs\/∃t∈l,Zg q t=some p:=by
  intro l;induction l with
  | nil=>simp
  | cons t r ih=>
   intro fs;rw[List.foldl_cons,ih];have:p∈U0 q fs t↔p∈fs\/Zg q t=some p:=by
    unfold U0;cases hf:Zg q t with
    | none=>simp
    | some x=>
     simp only[Xfu,Uaq];constructor
     ·rintro (h | h)
      ·exact .inl h
      ·exact .inr h.symm
     ·rintro (h | h)
      ·exact .inl h
      ·exact .inr h.symm
   rw[this];simp only[Uax,exists_eq_or_imp,or_assoc]
 unfold fsA;rw[key];simp only[List.not_mem_nil,false_or,Xdz,List.mem_flatMap,Uax,or_false];constructor
 ·rintro⟨t,⟨a,ha,rfl | rfl⟩,ht⟩
  ·exact⟨a,ha,.inl ht⟩
  ·exact⟨a,ha,.inr ht⟩
 ·rintro⟨a,ha,h | h⟩
  ·exact⟨_,⟨a,ha,.inl rfl⟩,h⟩
  ·exact⟨_,⟨a,ha,.inr rfl⟩,h⟩
theorem Xx5 {q:RQ}{p:Int×Int}:p∈Xt q↔∃a∈q.form.atoms,Zg q a.a=some p\/Zg q a.b=some p:=by
 unfold Xt;rw[List.mem_mergeSort,Ycl]
theorem Uj (q:RQ):(Xt q).length<=2*q.form.atoms.length:=by
 unfold Xt;rw[List.length_mergeSort];exact Xw4 q _
theorem Xpx {y:RSrc}{q:RQ}{t:RTerm}(hv:Xfp y q.vars)(ht:(refO y q.vars t).isSome=true\/t.isNum=true){p:Int×Int}(h:Zg q t=some p):inR y p:=by
 rcases ht with ht | ht
 ·obtain⟨r,hr⟩:=Ua3.1 ht;have hin:=Xa0 (fun v hv'=>hv v hv') hr;obtain⟨i,hi,s,hs,g,hg,e1,_,e3,e4,e5,e6,_⟩:=Xkz hr;unfold Zg at h;rw[Ubo (by omega)]at h;have e7:q.vars[t.var.toNat]? = some q.vars[i]:=by
   have:t.var.toNat=i:=by omega
   rw[this]; exact Ubf hi
  rw[e7]at h;simp only[Option.map_some,Uaq]at h;have:p=r:=by rw[<-h]; exact Prod.ext e3 (by simp only; omega)
  rw[this]; exact hin
 ·unfold RTerm.isNum at ht;simp only[Uai,Ubp]at ht;unfold Zg at h;rw[Uby (by omega)]at h;cases h
theorem Z7 {y:RSrc}{q:RQ}(hc:Yi y q=true):Xfp y q.vars/\q.form.atoms.length<=8/\∀a∈q.form.atoms,Vh y q.vars a=true:=by
 simp only[Yi,Uai]at hc;obtain⟨h1,h2⟩:=hc;obtain⟨a1,a2,a3⟩:=Xkq y q.vars q.form 1 (0,0) (by simp) h2;exact⟨(Xrd h1.2).1,by simp only at a1; omega,a3⟩
theorem Xo2 {y:RSrc}{q:RQ}(hc:Yi y q=true):∀p∈Xt q,inR y p:=by
 intro p hp;obtain⟨hv,_,ha⟩:=Z7 hc;obtain⟨a,ham,h⟩:=Xx5.1 hp;have hb:=ha a ham;unfold Vh at hb;simp only[Uai,Ucd]at hb;rcases h with h | h
 ·exact Xpx hv (by simpa using hb.1.1.1.1.2) h
 ·exact Xpx hv (by simpa using hb.1.1.1.2) h
end Go.Py
namespace Go.Proofs.YtolkimpelpnpbaaGreatDoor
open Go Go.Ab Go.Lx Go.Sx Go.Py
section
variable {P:Prg} (hP:P.p=Tryz.prog)
include hP
theorem X6i {y:RSrc}(hy:y.small){l:List (Int×Int)}(hl:l.length<=100000)(hin:∀p∈l,inR y p){x:D}(hx:x=.list 2 (l.map fD)\/l=[]/\x=.nils){ob:Xb}{K:V->Prop}(h:K (.d (.list 4 ((l.map (Uw y)).map RRef.enc)))):PCall P 27 [.d y.enc,.d x] ob K:=by
 refine Xh hP mixed (ds:=[y.enc,x]) Y6l Zag TOk.nil ?_;have hlen:Vy (.d x)=.d (.int .i64 l.length)/\∀ob,Ue ob (.d x):=by
  rcases hx with rfl | ⟨e,rfl⟩
  ·simp
  ·simp[e]
 simp[Y72];refine⟨hlen.2 _,?_⟩;rw[hlen.1];refine ALoop.upto l.length (fun k=>[(2,.ptr 0 []),(4,.sl 1 k),(8,.d x),(9,.d (.int .i64 l.length)),(10,.d (.int .i64 k))])
  (fun k=>[(1,.arr 56 4 ((l.take k).map fun p=>(Uw y p).enc)),(0,.box 29 (.d y.enc))]) (fun _=>True) trivial (by simp) (by simp) ?_ ?_
 ·intro k hk _ R rn re rr rp;have wr:IntKind.i64.wrap ((k:Int)+1)=(k:Int)+1:=IntWalk.i64_in _ (by omega);obtain rfl:x=.list 2 (l.map fD):=by
   rcases hx with rfl | ⟨e,rfl⟩
   ·rfl
   ·rw[e]at hk; simp at hk
  obtain⟨s,hs,g,e1,e2,hg⟩:=hin _ (Uba hk);have hst:(l.take (k+1)).map (fun p=>(Uw y p).enc)=(l.take k).map (fun p=>(Uw y p).enc)++[(Uw y l[k]).enc]:=by rw[Ubj hk,Uca]; rfl
  have hr:(Uw y l[k]).enc=.agg [.str y.schemas[s].name,.str y.schemas[s].fields[g].name,iD s,iD g]:=by
   unfold Uw;rw[e1,e2];simp only[Int.toNat_natCast,Ubf hs,Ubf hg];rfl
  have s0:¬(s:Int)<0:=by omega
  have g0:¬(g:Int)<0:=by omega
  simp[Xtq,hk,fD,RSrc.enc,e1,e2,hs,hg,s0,g0,RSchema.enc];have hfe:y.schemas[s].fields[g].enc=.agg [.str y.schemas[s].fields[g].name,y.schemas[s].fields[g].type.enc,.agg [iD y.schemas[s].fields[g].w0,iD y.schemas[s].fields[g].w1,iD y.schemas[s].fields[g].w2,iD y.schemas[s].fields[g].w3]]:=rfl;rw[hfe];have hlk:min k l.length=k:=by omega
  simp[hlk,wr];refine⟨by omega,?_⟩;rw[hr]at hst;refine rn [] _ _ trivial (by simp) ?_ ?_ ?_
  ·simp only[hst];simp[Xe,RSrc.enc]
  ·simp[Xe]
  ·simp[Xe]
 ·intro _ R re rr rp;simp[Xtq];refine re _ _ _ ?_;simp;have:(l.map (Uw y)).map RRef.enc=l.map fun p=>(Uw y p).enc:=by simp
  rw[this]at h;exact h
def Ui (y:RSrc)(q:RQ):List RRef×Int:=if Yi y q then ((Xt q).map (Uw y),0) else ([],210)
theorem X1z (hL:Qs P){t:RTab}(hy:t.src.small){q:RQ}(hq:q.small){ob:Xb}{K:V->Prop}(h:∀d:D,(d=.list 4 ((Ui t.src q).1.map RRef.enc)\/(Ui t.src q).1=[]/\d=.nils)->K (.tup [.d d,.d (.int .i64 (Ui t.src q).2)])):PCall P 10 [.d t.enc,.d q.enc] ob K:=by
 refine Xh hP mixed (ds:=[t.enc,q.enc]) Y6f Y99 TOk.nil ?_;have ts:t.enc.shape.size=7:=rfl;have qs:q.enc.shape.size=17:=by rw[RQ.enc,D.shape]; simp[D.shapes]
 simp[Y7w,ts,qs];refine⟨rfl,rfl,rfl,rfl,Xf2 hP hy hq ?_⟩;cases hc:Yi t.src q with
 | false=>
  have hw:Ui t.src q=([],210):=by unfold Ui; rw[Ubo (by simp[hc])]
  rw[hw]at h;have:=h .nils (.inr ⟨rfl,rfl⟩);simp[Vj,hc];exact this
 | true=>
  have hw:Ui t.src q=((Xt q).map (Uw t.src),0):=by unfold Ui; rw[Uby hc]
  rw[hw]at h;obtain⟨_,ha,_⟩:=Z7 hc;have hal:=Uj q;simp[Vj,hc,qs];have hte:t.enc=.agg [t.src.enc,Xea t.order]:=rfl;have sz:t.src.enc.shape.size=6:=rfl;have sg:(V.d t.src.enc).isAgg=true:=rfl;rw[hte];simp[sz,sg];refine⟨rfl,rfl,rfl,rfl,?_⟩;refine Xls hP hL hq (by omega) (fun d hd=>?_);refine PCall.acall (X6i hP hy (l:=Xt q) (by omega) (Xo2 hc) hd ?_);have:=h _ (.inl rfl);simp at this;simp;exact this
end
end Go.Proofs.YtolkimpelpnpbaaGreatDoor
namespace Go.Proofs.YtolkimpelpnpbaaGreatDoor
open Go Go.Ab
end Go.Proofs.YtolkimpelpnpbaaGreatDoor
namespace Go.Proofs.YtolkimpelpnpbaaGreatDoor
open Go Go.Ab
end Go.Proofs.YtolkimpelpnpbaaGreatDoor
namespace Go.Py
open Go Go.Ab Go.Lx Go.Sx
theorem Xu8 {y:RSrc}{q:RQ}(hc:Yi y q=true):(q.form.okS y q.vars 1 (0,0)).1=true:=by
 simp only[Yi,Uai]at hc;exact hc.2
end Go.Py
namespace Go.Proofs.YtolkimpelpnpbaaGreatDoor
open Go Go.Ab Go.Lx Go.Sx Go.Py
section
variable {P:Prg} (hP:P.p=Tryz.prog)
include hP
end
end Go.Proofs.YtolkimpelpnpbaaGreatDoor
namespace Go.Proofs.YtolkimpelpnpbaaGreatDoor
open Go Go.Ab
def n33:Nat:=0x19c60f1040107380e7cf04755b94f30402a1196
def Y3k:S:=zS [] n33
theorem Zff:Xj Tryz.prog 33 1 Y3k [.t 2]=true:=by kernel_rfl
def X7s:Nat:=0x15e03471405ab134304141e8b400403471c041e1b1500390b260f1a0107380e1901f018170e0659164f484a03161e0940d1125912047c04110e0d0310040f4f484a040f1e0562
def Xy3:Nat:=0x19c011d039d1e6a4169040347a45e034768a602
def n63:Nat:=0x1690343480d041e0c0900390b260f0b42b2b270464b0b120a010b01475503714008594d470a5b07ee068140072003624348751ea10b260631964f3040281196
def Y3r:S:=zS [(zS [(zS [] X7s)] Xy3)] n63
theorem Zfm:Xj Tryz.prog 63 1 Y3r [.t 2]=true:=by kernel_rfl
end Go.Proofs.YtolkimpelpnpbaaGreatDoor
namespace Go.Proofs.YtolkimpelpnpbaaGreatDoor
open Go Go.Ab
def Y4q:S2:=zL [] [] n33
def Y75:=by
 have h:=Eq.refl Y4q
 conv at h=>rhs; cbv
 exact h
theorem Zaj:Y3k.lift []=some Y4q:=by kernel_rfl
def Xhg:S2:=zL [] [] X7s
def Xt6:=by
 have h:=Eq.refl Xhg
 conv at h=>rhs; cbv
 exact h
def Xnc:S2:=zL [] [Xhg] Xy3
def Xt7:=by
 have h:=fun (a:S2)=>Eq.refl (zL [] [a] Xy3)
 conv at h=>intro a; rhs; cbv
 have e:Xnc=_:=h Xhg;exact e
def Y46:S2:=zL [] [Xnc] n63
def Y2a:=by
 have h:=fun (a:S2)=>Eq.refl (zL [] [a] n63)
 conv at h=>intro a; rhs; cbv
 have e:Y46=_:=h Xnc;exact e
theorem Zay:Y3r.lift []=some Y46:=by kernel_rfl
end Go.Proofs.YtolkimpelpnpbaaGreatDoor
