/- Texts of this claim joined by a program, part 15 of 16; the last is: The law's own examples hold (sane). Condition: the program is the seat's; its package variables are laid. -/
import Derived.Test.YtmapdjjigmkbfaaGreatDoorB7
import Derived.Test.YtmapdjjigmkbfaaGreatDoorB9
import Derived.Test.YtmapdjjigmkbfaaGreatDoorB11
import Derived.Test.YtmapdjjigmkbfaaGreatDoorB12
import Derived.Test.YtmapdjjigmkbfaaGreatDoorB13
import Derived.Test.YtmapdjjigmkbfaaGreatDoorB14
set_option linter.unusedSimpArgs false
set_option linter.unusedVariables false
set_option linter.unusedSectionVars false
set_option linter.defProp false
/- The hash of the example's source, computed by the kernel. No condition. -/
namespace Go.Proofs.YtmapdjjigmkbfaaGreatDoor
open Go Go.Ab Go.Lx
set_option maxRecDepth 100000
def Yhl (f : Nat) (vs : List V) (ob : Objs) : Option (Out × Objs) :=
 bif Nat.beq f 110 && V.eqbs vs [.ptr 1 [],.bs 2 [] 0 64] then
  (bif X1j ob bo1 then some (.ret (.tup []),bp1) else bif X1j ob bo2 then some (.ret (.tup []),bp2) else bif X1j ob bo3 then some (.ret (.tup []),bp3) else none)
 else none
def xh2 : Fns := ⟨Yhl,fun _ _ _ => none,fun _ => false,kgl⟩
theorem X1w (ob : Objs) : (fns 3000 Xs6 xh2 40).pc 58 [.d (.list 1 [Yp3,.list 1 (bytesD Ypv)])] ob = some (.d Yld) := by kernel_rfl
theorem X7s {P : Prg} (h : (fns 3000 Xs6 xh 20).ok P) (f : Nat) (vs : List V) (ob : Objs) (o : Out) (b : Objs) (e : Yhl f vs ob = some (o,b)) : ACall P f vs ob fun o' b' => o' = o ∧ b' = b := by
 unfold Yhl at e
 rw [Bool.cond_eq_ite] at e
 split at e
 ·rename_i hc
  simp only [Bool.and_eq_true] at hc
  obtain ⟨h1,h2⟩ := hc
  rw [Nat.eq_of_beq_eq_true h1,V.eqbs_eq _ _ h2]
  rw [Bool.cond_eq_ite] at e
  split at e
  ·rename_i h3
   cases e
   rw [Xa8 _ _ h3]
   exact h.call _ _ _ _ _ Yrf
  ·rw [Bool.cond_eq_ite] at e
   split at e
   ·rename_i h3
    cases e
    rw [Xa8 _ _ h3]
    exact h.call _ _ _ _ _ Yrg
   ·rw [Bool.cond_eq_ite] at e
    split at e
    ·rename_i h3
     cases e
     rw [Xa8 _ _ h3]
     exact h.call _ _ _ _ _ Yrh
    ·cases e
 ·cases e
end Go.Proofs.YtmapdjjigmkbfaaGreatDoor
/- The law's own examples hold (sane). Condition: the program is the seat's; its package variables are laid. -/
namespace Go.Lx
open Go Go.Ab
def Yab (s : List UInt8) : V := if s.length > 65536 then .tup [.d .nils,.d (.int .i64 0),.d (.int .i64 2)] else Yfi (X98 s.length s 0)
theorem X2l (s : List UInt8) : Yab s = Yaa s := by
 have e := Xl5 s.length s 0 (Nat.le_refl _)
 unfold Yab Yaa
 rw [e]
def Yhs : D → Option Tok
 | .agg [.int .i64 k,.str t,.int .i64 n,.int .i64 a] => some ⟨k,t,n,a⟩
 | _ => none
def X0z : List D → Option (List Tok)
 | [] => some []
 | x :: r => match Yhs x,X0z r with
  | some t,some l => some (t :: l)
  | _,_ => none
theorem X8m {x : D} {t : Tok} (h : Yhs x = some t) : x = t.enc := by
 unfold Yhs at h
 split at h
 ·cases h; rfl
 ·cases h
theorem Xpu : ∀ {xs : List D} {l : List Tok},X0z xs = some l → xs = l.map Tok.enc
 | [],l,h => by cases h; rfl
 | x :: r,l,h => by
  unfold X0z at h
  split at h
  ·rename_i t l' h1 h2
   cases h
   rw [X8m h1,Xpu h2]; rfl
  ·cases h
def Yfz : D → Option V
 | .list 4 xs => match X0z xs with
  | some l => if l.length ≤ 100000 then some (Xid l) else none
  | none => none
 | _ => none
def X81 (x : D) : Option V :=
 bif D.eqb x (.list 1 [.list 1 (bytesD Yp4)]) then some (.d Yp2) else
 bif D.eqb x (.list 1 [Yp3,.list 1 (bytesD Ypv)]) then some (.d Yld) else none
end Go.Lx
namespace Go.Proofs.YtmapdjjigmkbfaaGreatDoor
open Go Go.Ab Go.Lx
set_option maxRecDepth 100000
def xqc (f : Nat) (vs : List V) : Option V := match vs with
 | [.d (.str s)] => bif Nat.beq f 16 then some (Yab s) else none
 | [.d x] => bif Nat.beq f 17 then Yfz x else bif Nat.beq f 58 then X81 x else none
 | _ => none
def xq : Fns := ⟨fun _ _ _ => none,fun f vs _ => xqc f vs,fun _ => false,kgl⟩
theorem Xzb (ob : Objs) : (fns 3000 Xs6 xq 40).pc 8 [] ob = some (.d (.bool true)) := by kernel_rfl
abbrev Kst (P : Prg) : Prop := Xbo P 0 Yc2
section
variable {P : Prg} (hP : P.p = Tryz.prog) (hK : Kst P) (hG : Pow P)
include hP hK
theorem Xvp (g : Nat) (x : D) (h : kgl g = some x) : Xbo P g x := by
 unfold kgl at h
 rw [Bool.cond_eq_ite] at h
 split at h
 ·rename_i e; cases h; rw [Nat.eq_of_beq_eq_true e]; exact hK
 ·cases h
theorem Yf5 : xh.ok P := ⟨fun _ _ _ _ _ h => (by cases h),fun _ _ _ _ h => (by cases h),fun _ h => (by cases h),Xvp hP hK⟩
theorem Yf4 : xh2.ok P := by
 have fo := Xfb (P := P) (L := 3000) (F := Xs6) (by rw [hP]; exact mixed) (by rw [hP]; exact Xia) (Yf5 hP hK) 20
 exact ⟨fun f vs ob o b h => X7s fo f vs ob o b h,fun _ _ _ _ h => (by cases h),fun _ h => (by cases h),Xvp hP hK⟩
theorem Yb4 {x : D} {ob : Objs} {v : V} (h : X81 x = some v) : PCall P 58 [.d x] ob fun v' => v' = v := by
 have fo := Xfb (P := P) (L := 3000) (F := Xs6) (by rw [hP]; exact mixed) (by rw [hP]; exact Xia) (Yf5 hP hK) 40
 unfold X81 at h
 rw [Bool.cond_eq_ite] at h
 split at h
 ·rename_i e
  cases h
  rw [D.eqb_eq _ _ e]
  exact fo.pc _ _ ob _ (X1x ob)
 ·rw [Bool.cond_eq_ite] at h
  split at h
  ·rename_i e
   cases h
   rw [D.eqb_eq _ _ e]
   exact (Xfb (P := P) (L := 3000) (F := Xs6) (by rw [hP]; exact mixed) (by rw [hP]; exact Xia) (Yf4 hP hK) 40).pc _ _ ob _ (X1w ob)
  ·cases h
include hG
theorem Yku : xq.ok P := by
 refine ⟨fun _ _ _ _ _ h => (by cases h),fun f vs ob v h => ?_,fun _ h => (by cases h),Xvp hP hK⟩
 simp only [xq] at h
 unfold xqc at h
 split at h
 ·rename_i s
  rw [Bool.cond_eq_ite] at h
  split at h
  ·rename_i e
   cases h
   rw [Nat.eq_of_beq_eq_true e,X2l]
   exact Yb3 hP s rfl
  ·cases h
 ·rename_i x _
  rw [Bool.cond_eq_ite] at h
  split at h
  ·rename_i e
   rw [Nat.eq_of_beq_eq_true e]
   unfold Yfz at h
   split at h
   ·rename_i xs
    split at h
    ·rename_i l hl
     split at h
     ·rename_i h2
      cases h
      rw [Xpu hl]
      exact X3n hP hG (l := l) (.inl rfl) h2 rfl
     ·cases h
    ·cases h
   ·cases h
  ·rw [Bool.cond_eq_ite] at h
   split at h
   ·rename_i e
    rw [Nat.eq_of_beq_eq_true e]
    exact Yb4 hP hK h
   ·cases h
 ·cases h
theorem c_sane {ob : Objs} {K : V → Prop} (h : K (.d (.bool true))) : PCall P 8 [] ob K := by
 have h1 := (Xfb (P := P) (L := 3000) (F := Xs6) (by rw [hP]; exact mixed) (by rw [hP]; exact Xia) (Yku hP hK hG) 40).pc _ _ ob _ (Xzb ob)
 refine h1.mono fun v e => ?_
 subst e; exact h
end
end Go.Proofs.YtmapdjjigmkbfaaGreatDoor
