/- Texts of this claim joined by a program, part 14 of 15; the last is: The law's own examples hold (sane). Condition: the program is the seat's; its package variables are laid. -/
import Derived.Test.YtmapdjjigmkbfaaGreatDoorD7
import Derived.Test.YtmapdjjigmkbfaaGreatDoorD8
import Derived.Test.YtmapdjjigmkbfaaGreatDoorD10
import Derived.Test.YtmapdjjigmkbfaaGreatDoorD11
import Derived.Test.YtmapdjjigmkbfaaGreatDoorD12
import Derived.Test.YtmapdjjigmkbfaaGreatDoorD13
set_option linter.unusedSimpArgs false
set_option linter.unusedVariables false
set_option linter.unusedSectionVars false
set_option linter.defProp false
/- The hash of the example's source, computed by the kernel. No condition. -/
namespace Go.Proofs.YtmapdjjigmkbfaaGreatDoor
open Go Go.Ab Go.Lx
set_option maxRecDepth 100000
def X9e (f : Nat) (vs : List V) (ob : Objs) : Option (Out × Objs) :=
 bif Nat.beq f 110 && V.eqbs vs [.ptr 1 [], .bs 2 [] 0 64] then
  (bif Xtw ob bo1 then some (.ret (.tup []), bp1) else bif Xtw ob bo2 then some (.ret (.tup []), bp2) else bif Xtw ob bo3 then some (.ret (.tup []), bp3) else none)
 else none
def xh2 : Fns := ⟨X9e, fun _ _ _ => none, fun _ => false, kgl⟩
theorem Xt7 (ob : Objs) : (fns 3000 Xm8 xh2 40).pc 58 [.d (.list 1 [Ygn, .list 1 (bytesD Ygf)])] ob = some (.d Ycf) := by kernel_rfl
theorem Xyi {P : Prg} (h : (fns 3000 Xm8 xh 20).ok P) (f : Nat) (vs : List V) (ob : Objs) (o : Out) (b : Objs) (e : X9e f vs ob = some (o, b)) : ACall P f vs ob fun o' b' => o' = o ∧ b' = b := by
 unfold X9e at e
 rw [Bool.cond_eq_ite] at e
 split at e
 ·rename_i hc
  simp only [Bool.and_eq_true] at hc
  obtain ⟨h1, h2⟩ := hc
  rw [Nat.eq_of_beq_eq_true h1, V.eqbs_eq _ _ h2]
  rw [Bool.cond_eq_ite] at e
  split at e
  ·rename_i h3
   cases e
   rw [Qo _ _ h3]
   exact h.call _ _ _ _ _ Yhm
  ·rw [Bool.cond_eq_ite] at e
   split at e
   ·rename_i h3
    cases e
    rw [Qo _ _ h3]
    exact h.call _ _ _ _ _ Yhn
   ·rw [Bool.cond_eq_ite] at e
    split at e
    ·rename_i h3
     cases e
     rw [Qo _ _ h3]
     exact h.call _ _ _ _ _ Yho
    ·cases e
 ·cases e
end Go.Proofs.YtmapdjjigmkbfaaGreatDoor
/- The law's own examples hold (sane). Condition: the program is the seat's; its package variables are laid. -/
namespace Go.Lx
open Go Go.Ab
def X2q (s : List UInt8) : V := if s.length > 65536 then .tup [.d .nils, .d (.int .i64 0), .d (.int .i64 2)] else Ybx (X2o s.length s 0)
theorem Xvf (s : List UInt8) : X2q s = X5c s := by
 have e := Xh8 s.length s 0 (Nat.le_refl _)
 unfold X2q X5c
 rw [e]
def X9l : D → Option Tok
 | .agg [.int .i64 k, .str t, .int .i64 n, .int .i64 a] => some ⟨k, t, n, a⟩
 | _ => none
def Xtc : List D → Option (List Tok)
 | [] => some []
 | x :: r => match X9l x, Xtc r with
  | some t, some l => some (t :: l)
  | _, _ => none
theorem Xzj {x : D} {t : Tok} (h : X9l x = some t) : x = t.enc := by
 unfold X9l at h
 split at h
 ·cases h; rfl
 ·cases h
theorem Xj4 : ∀ {xs : List D} {l : List Tok}, Xtc xs = some l → xs = l.map Tok.enc
 | [], l, h => by cases h; rfl
 | x :: r, l, h => by
  unfold Xtc at h
  split at h
  ·rename_i t l' h1 h2
   cases h
   rw [Xzj h1, Xj4 h2]; rfl
  ·cases h
def X73 : D → Option V
 | .list 4 xs => match Xtc xs with
  | some l => if l.length ≤ 100000 then some (Xew l) else none
  | none => none
 | _ => none
def Xzz (x : D) : Option V :=
 bif D.eqb x (.list 1 [.list 1 (bytesD Ygo)]) then some (.d Ygm) else
 bif D.eqb x (.list 1 [Ygn, .list 1 (bytesD Ygf)]) then some (.d Ycf) else none
end Go.Lx
namespace Go.Proofs.YtmapdjjigmkbfaaGreatDoor
open Go Go.Ab Go.Lx
set_option maxRecDepth 100000
def xqc (f : Nat) (vs : List V) : Option V := match vs with
 | [.d (.str s)] => bif Nat.beq f 16 then some (X2q s) else none
 | [.d x] => bif Nat.beq f 17 then X73 x else bif Nat.beq f 58 then Xzz x else none
 | _ => none
def xq : Fns := ⟨fun _ _ _ => none, fun f vs _ => xqc f vs, fun _ => false, kgl⟩
theorem Xr0 (ob : Objs) : (fns 3000 Xm8 xq 40).pc 8 [] ob = some (.d (.bool true)) := by kernel_rfl
abbrev Kst (P : Prg) : Prop := Zl P 0 X43
section
variable {P : Prg} (hP : P.p = Tryz.prog) (hK : Kst P) (hG : Pow P)
include hP hK
theorem Xpd (g : Nat) (x : D) (h : kgl g = some x) : Zl P g x := by
 unfold kgl at h
 rw [Bool.cond_eq_ite] at h
 split at h
 ·rename_i e; cases h; rw [Nat.eq_of_beq_eq_true e]; exact hK
 ·cases h
theorem X8a : xh.ok P := ⟨fun _ _ _ _ _ h => (by cases h), fun _ _ _ _ h => (by cases h), fun _ h => (by cases h), Xpd hP hK⟩
theorem X79 : xh2.ok P := by
 have fo := Xck (P := P) (L := 3000) (F := Xm8) (by rw [hP]; exact mixed) (by rw [hP]; exact Xet) (X8a hP hK) 20
 exact ⟨fun f vs ob o b h => Xyi fo f vs ob o b h, fun _ _ _ _ h => (by cases h), fun _ h => (by cases h), Xpd hP hK⟩
theorem X33 {x : D} {ob : Objs} {v : V} (h : Xzz x = some v) : PCall P 58 [.d x] ob fun v' => v' = v := by
 have fo := Xck (P := P) (L := 3000) (F := Xm8) (by rw [hP]; exact mixed) (by rw [hP]; exact Xet) (X8a hP hK) 40
 unfold Xzz at h
 rw [Bool.cond_eq_ite] at h
 split at h
 ·rename_i e
  cases h
  rw [D.eqb_eq _ _ e]
  exact fo.pc _ _ ob _ (Xt8 ob)
 ·rw [Bool.cond_eq_ite] at h
  split at h
  ·rename_i e
   cases h
   rw [D.eqb_eq _ _ e]
   exact (Xck (P := P) (L := 3000) (F := Xm8) (by rw [hP]; exact mixed) (by rw [hP]; exact Xet) (X79 hP hK) 40).pc _ _ ob _ (Xt7 ob)
  ·cases h
include hG
theorem Yb0 : xq.ok P := by
 refine ⟨fun _ _ _ _ _ h => (by cases h), fun f vs ob v h => ?_, fun _ h => (by cases h), Xpd hP hK⟩
 simp only [xq] at h
 unfold xqc at h
 split at h
 ·rename_i s
  rw [Bool.cond_eq_ite] at h
  split at h
  ·rename_i e
   cases h
   rw [Nat.eq_of_beq_eq_true e, Xvf]
   exact X9g hP s rfl
  ·cases h
 ·rename_i x _
  rw [Bool.cond_eq_ite] at h
  split at h
  ·rename_i e
   rw [Nat.eq_of_beq_eq_true e]
   unfold X73 at h
   split at h
   ·rename_i xs
    split at h
    ·rename_i l hl
     split at h
     ·rename_i h2
      cases h
      rw [Xj4 hl]
      exact Xwe hP hG (l := l) (.inl rfl) h2 rfl
     ·cases h
    ·cases h
   ·cases h
  ·rw [Bool.cond_eq_ite] at h
   split at h
   ·rename_i e
    rw [Nat.eq_of_beq_eq_true e]
    exact X33 hP hK h
   ·cases h
 ·cases h
theorem c_sane {ob : Objs} {K : V → Prop} (h : K (.d (.bool true))) : PCall P 8 [] ob K := by
 have h1 := (Xck (P := P) (L := 3000) (F := Xm8) (by rw [hP]; exact mixed) (by rw [hP]; exact Xet) (Yb0 hP hK hG) 40).pc _ _ ob _ (Xr0 ob)
 refine h1.mono fun v e => ?_
 subst e; exact h
end
end Go.Proofs.YtmapdjjigmkbfaaGreatDoor
