/- Texts of this claim joined by a program, part 14 of 15; the last is: The law's own examples hold (sane). Condition: the program is the seat's; its package variables are laid. -/
import Derived.Test.YtmapdjjigmkbfaaGreatDoorU5
import Derived.Test.YtmapdjjigmkbfaaGreatDoorU6
import Derived.Test.YtmapdjjigmkbfaaGreatDoorU10
import Derived.Test.YtmapdjjigmkbfaaGreatDoorU11
import Derived.Test.YtmapdjjigmkbfaaGreatDoorU12
import Derived.Test.YtmapdjjigmkbfaaGreatDoorU13
set_option maxRecDepth 100000
set_option linter.unusedSimpArgs false
set_option linter.unusedVariables false
set_option linter.unusedSectionVars false
set_option linter.defProp false
namespace Go.Proofs.YtmapdjjigmkbfaaGreatDoor
open Go Go.Ab Go.Lx
def Ymo (f:Nat)(vs:List V)(ob:Objs):Option (Out×Objs):=
 bif Nat.beq f 110&&V.eqbs vs [.ptr 1 [],.bs 2 [] 0 64] then
  (bif X31 ob bo1 then some (.ret (.tup []),bp1) else bif X31 ob bo2 then some (.ret (.tup []),bp2) else bif X31 ob bo3 then some (.ret (.tup []),bp3) else none)
 else none
def xh2:Fns:=⟨Ymo,fun _ _ _=>none,fun _=>false,kgl⟩
theorem X4d (ob:Objs):(fns 3000 Xuy xh2 40).pc 58 [.d (.list 1 [Yxy,.list 1 (bytesD Yxq)])] ob=some (.d Yrm):=by kernel_rfl
theorem Yay {P:Prg}(h:(fns 3000 Xuy xh 20).ok P)(f:Nat)(vs:List V)(ob:Objs)(o:Out)(b:Objs)(e:Ymo f vs ob=some (o,b)):ACall P f vs ob fun o' b'=>o'=o/\b'=b:=by
 unfold Ymo at e
 rw[Bool.cond_eq_ite]at e
 split at e
 ·rename_i hc
  simp only[Bool.and_eq_true]at hc
  obtain⟨h1,h2⟩:=hc
  rw[Nat.eq_of_beq_eq_true h1,V.eqbs_eq _ _ h2]
  rw[Bool.cond_eq_ite]at e
  split at e
  ·rename_i h3
   cases e
   rw[Xbr _ _ h3]
   exact h.call _ _ _ _ _ Yzr
  ·rw[Bool.cond_eq_ite]at e
   split at e
   ·rename_i h3
    cases e
    rw[Xbr _ _ h3]
    exact h.call _ _ _ _ _ Yzs
   ·rw[Bool.cond_eq_ite]at e
    split at e
    ·rename_i h3
     cases e
     rw[Xbr _ _ h3]
     exact h.call _ _ _ _ _ Yzt
    ·cases e
 ·cases e
end Go.Proofs.YtmapdjjigmkbfaaGreatDoor
namespace Go.Lx
open Go Go.Ab
def Yde (s:List UInt8):V:=if s.length > 65536 then .tup [.d .nils,.d (.int .i64 0),.d (.int .i64 2)] else X84 (Ydd s.length s 0)
theorem X40 (s:List UInt8):Yde s=Xx0 s:=by
 have e:=Xm1 s.length s 0 (Nat.le_refl _)
 unfold Yde Xx0
 rw[e]
def Ymv:D->Option Tok
 | .agg [.int .i64 k,.str t,.int .i64 n,.int .i64 a]=>some ⟨k,t,n,a⟩
 | _=>none
def X3i:List D->Option (List Tok)
 | []=>some []
 | x::r=>match Ymv x,X3i r with
  | some t,some l=>some (t::l)
  | _,_=>none
theorem Ybv {x:D}{t:Tok}(h:Ymv x=some t):x=t.enc:=by
 unfold Ymv at h
 split at h
 ·cases h; rfl
 ·cases h
theorem Xrl:∀{xs:List D} {l:List Tok},X3i xs=some l->xs=l.map Tok.enc
 | [],l,h=>by cases h; rfl
 | x::r,l,h=>by
  unfold X3i at h
  split at h
  ·rename_i t l' h1 h2
   cases h
   rw[Ybv h1,Xrl h2]; rfl
  ·cases h
def Ykp:D->Option V
 | .list 4 xs=>match X3i xs with
  | some l=>if l.length<=100000 then some (Xqf l) else none
  | none=>none
 | _=>none
def Yb8 (x:D):Option V:=
 bif D.eqb x (.list 1 [.list 1 (bytesD Yxz)]) then some (.d Yxx) else
 bif D.eqb x (.list 1 [Yxy,.list 1 (bytesD Yxq)]) then some (.d Yrm) else none
end Go.Lx
namespace Go.Proofs.YtmapdjjigmkbfaaGreatDoor
open Go Go.Ab Go.Lx
def xqc (f:Nat)(vs:List V):Option V:=match vs with
 | [.d (.str s)]=>bif Nat.beq f 16 then some (Yde s) else none
 | [.d x]=>bif Nat.beq f 17 then Ykp x else bif Nat.beq f 58 then Yb8 x else none
 | _=>none
def xq:Fns:=⟨fun _ _ _=>none,fun f vs _=>xqc f vs,fun _=>false,kgl⟩
theorem X1r (ob:Objs):(fns 3000 Xuy xq 40).pc 8 [] ob=some (.d (.bool true)):=by kernel_rfl
abbrev Kst (P:Prg):Prop:=Xcc P 0 Ygv
section
variable {P:Prg} (hP:P.p=Tryz.prog) (hK:Kst P) (hG:Pow P)
include hP hK
theorem Xxr (g:Nat)(x:D)(h:kgl g=some x):Xcc P g x:=by
 unfold kgl at h
 rw[Bool.cond_eq_ite]at h
 split at h
 ·rename_i e; cases h; rw[Nat.eq_of_beq_eq_true e]; exact hK
 ·cases h
theorem Ykv:xh.ok P:=⟨fun _ _ _ _ _ h=>(by cases h),fun _ _ _ _ h=>(by cases h),fun _ h=>(by cases h),Xxr hP hK⟩
theorem Yku:xh2.ok P:=by
 have fo:=Xft (P:=P) (L:=3000) (F:=Xuy) (by rw[hP]; exact mixed) (by rw[hP]; exact Xi3) (Ykv hP hK) 20
 exact⟨fun f vs ob o b h=>Yay fo f vs ob o b h,fun _ _ _ _ h=>(by cases h),fun _ h=>(by cases h),Xxr hP hK⟩
theorem Yfd {x:D}{ob:Objs}{v:V}(h:Yb8 x=some v):PCall P 58 [.d x] ob fun v'=>v'=v:=by
 have fo:=Xft (P:=P) (L:=3000) (F:=Xuy) (by rw[hP]; exact mixed) (by rw[hP]; exact Xi3) (Ykv hP hK) 40
 unfold Yb8 at h
 rw[Bool.cond_eq_ite]at h
 split at h
 ·rename_i e
  cases h
  rw[D.eqb_eq _ _ e]
  exact fo.pc _ _ ob _ (X4e ob)
 ·rw[Bool.cond_eq_ite]at h
  split at h
  ·rename_i e
   cases h
   rw[D.eqb_eq _ _ e]
   exact (Xft (P:=P) (L:=3000) (F:=Xuy) (by rw[hP]; exact mixed) (by rw[hP]; exact Xi3) (Yku hP hK) 40).pc _ _ ob _ (X4d ob)
  ·cases h
include hG
theorem Yq2:xq.ok P:=by
 refine⟨fun _ _ _ _ _ h=>(by cases h),fun f vs ob v h=>?_,fun _ h=>(by cases h),Xxr hP hK⟩
 simp only[xq]at h
 unfold xqc at h
 split at h
 ·rename_i s
  rw[Bool.cond_eq_ite]at h
  split at h
  ·rename_i e
   cases h
   rw[Nat.eq_of_beq_eq_true e,X40]
   exact Yfa hP s rfl
  ·cases h
 ·rename_i x _
  rw[Bool.cond_eq_ite]at h
  split at h
  ·rename_i e
   rw[Nat.eq_of_beq_eq_true e]
   unfold Ykp at h
   split at h
   ·rename_i xs
    split at h
    ·rename_i l hl
     split at h
     ·rename_i h2
      cases h
      rw[Xrl hl]
      exact Yfc hP hG (l:=l) (.inl rfl) h2 rfl
     ·cases h
    ·cases h
   ·cases h
  ·rw[Bool.cond_eq_ite]at h
   split at h
   ·rename_i e
    rw[Nat.eq_of_beq_eq_true e]
    exact Yfd hP hK h
   ·cases h
 ·cases h
theorem c_sane {ob:Objs}{K:V->Prop}(h:K (.d (.bool true))):PCall P 8 [] ob K:=by
 have h1:=(Xft (P:=P) (L:=3000) (F:=Xuy) (by rw[hP]; exact mixed) (by rw[hP]; exact Xi3) (Yq2 hP hK hG) 40).pc _ _ ob _ (X1r ob)
 refine h1.mono fun v e=>?_
 subst e; exact h
end
end Go.Proofs.YtmapdjjigmkbfaaGreatDoor
