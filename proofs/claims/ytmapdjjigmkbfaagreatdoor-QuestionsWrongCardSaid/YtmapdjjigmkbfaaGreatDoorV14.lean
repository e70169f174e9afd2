/- Texts of this claim joined by a program, part 14 of 15; the last is: The law's own examples hold (sane). Condition: the program is the seat's; its package variables are laid. -/
import Derived.Test.YtmapdjjigmkbfaaGreatDoorV6
import Derived.Test.YtmapdjjigmkbfaaGreatDoorV8
import Derived.Test.YtmapdjjigmkbfaaGreatDoorV10
import Derived.Test.YtmapdjjigmkbfaaGreatDoorV11
import Derived.Test.YtmapdjjigmkbfaaGreatDoorV12
import Derived.Test.YtmapdjjigmkbfaaGreatDoorV13
set_option linter.unusedSimpArgs false
set_option linter.unusedVariables false
set_option linter.unusedSectionVars false
set_option linter.defProp false
/- The hash of the example's source, computed by the kernel. No condition. -/
namespace Go.Proofs.YtmapdjjigmkbfaaGreatDoor
open Go Go.Ab Go.Lx
set_option maxRecDepth 100000
def Ye1 (f : Nat) (vs : List V) (ob : Objs) : Option (Out × Objs) :=
 bif Nat.beq f 110 && V.eqbs vs [.ptr 1 [],.bs 2 [] 0 64] then
  (bif Xzc ob bo1 then some (.ret (.tup []),bp1) else bif Xzc ob bo2 then some (.ret (.tup []),bp2) else bif Xzc ob bo3 then some (.ret (.tup []),bp3) else none)
 else none
def xh2 : Fns := ⟨Ye1,fun _ _ _ => none,fun _ => false,kgl⟩
theorem Xzp (ob : Objs) : (fns 3000 Xre xh2 40).pc 58 [.d (.list 1 [Ym3,.list 1 (bytesD Ymv)])] ob = some (.d Yiq) := by kernel_rfl
theorem X42 {P : Prg} (h : (fns 3000 Xre xh 20).ok P) (f : Nat) (vs : List V) (ob : Objs) (o : Out) (b : Objs) (e : Ye1 f vs ob = some (o,b)) : ACall P f vs ob fun o' b' => o' = o ∧ b' = b := by
 unfold Ye1 at e
 rw [Bool.cond_eq_ite] at e
 split at e
 ·rename_i hc
  simp only [Bool.and_eq_true] at hc
  obtain ⟨h1,h2⟩ := hc
  rw [Nat.eq_of_beq_eq_true h1,V.eqbs_eq _ _ h2]
  rw [Bool.cond_eq_ite] at e
  split at e
  ·rename_i h3
   cases e
   rw [Xau _ _ h3]
   exact h.call _ _ _ _ _ Yn9
  ·rw [Bool.cond_eq_ite] at e
   split at e
   ·rename_i h3
    cases e
    rw [Xau _ _ h3]
    exact h.call _ _ _ _ _ Yoa
   ·rw [Bool.cond_eq_ite] at e
    split at e
    ·rename_i h3
     cases e
     rw [Xau _ _ h3]
     exact h.call _ _ _ _ _ Yob
    ·cases e
 ·cases e
end Go.Proofs.YtmapdjjigmkbfaaGreatDoor
/- The law's own examples hold (sane). Condition: the program is the seat's; its package variables are laid. -/
namespace Go.Lx
open Go Go.Ab
def X7g (s : List UInt8) : V := if s.length > 65536 then .tup [.d .nils,.d (.int .i64 0),.d (.int .i64 2)] else Yc0 (X7e s.length s 0)
theorem X0f (s : List UInt8) : X7g s = X0e s := by
 have e := Xk0 s.length s 0 (Nat.le_refl _)
 unfold X7g X0e
 rw [e]
def Ye8 : D → Option Tok
 | .agg [.int .i64 k,.str t,.int .i64 n,.int .i64 a] => some ⟨k,t,n,a⟩
 | _ => none
def Xyt : List D → Option (List Tok)
 | [] => some []
 | x :: r => match Ye8 x,Xyt r with
  | some t,some l => some (t :: l)
  | _,_ => none
theorem X5x {x : D} {t : Tok} (h : Ye8 x = some t) : x = t.enc := by
 unfold Ye8 at h
 split at h
 ·cases h; rfl
 ·cases h
theorem Xn9 : ∀ {xs : List D} {l : List Tok},Xyt xs = some l → xs = l.map Tok.enc
 | [],l,h => by cases h; rfl
 | x :: r,l,h => by
  unfold Xyt at h
  split at h
  ·rename_i t l' h1 h2
   cases h
   rw [X5x h1,Xn9 h2]; rfl
  ·cases h
def Ydg : D → Option V
 | .list 4 xs => match Xyt xs with
  | some l => if l.length ≤ 100000 then some (Xhi l) else none
  | none => none
 | _ => none
def X6a (x : D) : Option V :=
 bif D.eqb x (.list 1 [.list 1 (bytesD Ym4)]) then some (.d Ym2) else
 bif D.eqb x (.list 1 [Ym3,.list 1 (bytesD Ymv)]) then some (.d Yiq) else none
end Go.Lx
namespace Go.Proofs.YtmapdjjigmkbfaaGreatDoor
open Go Go.Ab Go.Lx
set_option maxRecDepth 100000
def xqc (f : Nat) (vs : List V) : Option V := match vs with
 | [.d (.str s)] => bif Nat.beq f 16 then some (X7g s) else none
 | [.d x] => bif Nat.beq f 17 then Ydg x else bif Nat.beq f 58 then X6a x else none
 | _ => none
def xq : Fns := ⟨fun _ _ _ => none,fun f vs _ => xqc f vs,fun _ => false,kgl⟩
theorem Xw5 (ob : Objs) : (fns 3000 Xre xq 40).pc 8 [] ob = some (.d (.bool true)) := by kernel_rfl
abbrev Kst (P : Prg) : Prop := Xba P 0 X94
section
variable {P : Prg} (hP : P.p = Tryz.prog) (hK : Kst P) (hG : Pow P)
include hP hK
theorem Xtt (g : Nat) (x : D) (h : kgl g = some x) : Xba P g x := by
 unfold kgl at h
 rw [Bool.cond_eq_ite] at h
 split at h
 ·rename_i e; cases h; rw [Nat.eq_of_beq_eq_true e]; exact hK
 ·cases h
theorem Ydm : xh.ok P := ⟨fun _ _ _ _ _ h => (by cases h),fun _ _ _ _ h => (by cases h),fun _ h => (by cases h),Xtt hP hK⟩
theorem Ydl : xh2.ok P := by
 have fo := Xep (P := P) (L := 3000) (F := Xre) (by rw [hP]; exact mixed) (by rw [hP]; exact Xhf) (Ydm hP hK) 20
 exact ⟨fun f vs ob o b h => X42 fo f vs ob o b h,fun _ _ _ _ h => (by cases h),fun _ h => (by cases h),Xtt hP hK⟩
theorem X87 {x : D} {ob : Objs} {v : V} (h : X6a x = some v) : PCall P 58 [.d x] ob fun v' => v' = v := by
 have fo := Xep (P := P) (L := 3000) (F := Xre) (by rw [hP]; exact mixed) (by rw [hP]; exact Xhf) (Ydm hP hK) 40
 unfold X6a at h
 rw [Bool.cond_eq_ite] at h
 split at h
 ·rename_i e
  cases h
  rw [D.eqb_eq _ _ e]
  exact fo.pc _ _ ob _ (Xzq ob)
 ·rw [Bool.cond_eq_ite] at h
  split at h
  ·rename_i e
   cases h
   rw [D.eqb_eq _ _ e]
   exact (Xep (P := P) (L := 3000) (F := Xre) (by rw [hP]; exact mixed) (by rw [hP]; exact Xhf) (Ydl hP hK) 40).pc _ _ ob _ (Xzp ob)
  ·cases h
include hG
theorem Yh7 : xq.ok P := by
 refine ⟨fun _ _ _ _ _ h => (by cases h),fun f vs ob v h => ?_,fun _ h => (by cases h),Xtt hP hK⟩
 simp only [xq] at h
 unfold xqc at h
 split at h
 ·rename_i s
  rw [Bool.cond_eq_ite] at h
  split at h
  ·rename_i e
   cases h
   rw [Nat.eq_of_beq_eq_true e,X0f]
   exact X5f hP s rfl
  ·cases h
 ·rename_i x _
  rw [Bool.cond_eq_ite] at h
  split at h
  ·rename_i e
   rw [Nat.eq_of_beq_eq_true e]
   unfold Ydg at h
   split at h
   ·rename_i xs
    split at h
    ·rename_i l hl
     split at h
     ·rename_i h2
      cases h
      rw [Xn9 hl]
      exact Xsl hP hG (l := l) (.inl rfl) h2 rfl
     ·cases h
    ·cases h
   ·cases h
  ·rw [Bool.cond_eq_ite] at h
   split at h
   ·rename_i e
    rw [Nat.eq_of_beq_eq_true e]
    exact X87 hP hK h
   ·cases h
 ·cases h
theorem c_sane {ob : Objs} {K : V → Prop} (h : K (.d (.bool true))) : PCall P 8 [] ob K := by
 have h1 := (Xep (P := P) (L := 3000) (F := Xre) (by rw [hP]; exact mixed) (by rw [hP]; exact Xhf) (Yh7 hP hK hG) 40).pc _ _ ob _ (Xw5 ob)
 refine h1.mono fun v e => ?_
 subst e; exact h
end
end Go.Proofs.YtmapdjjigmkbfaaGreatDoor
