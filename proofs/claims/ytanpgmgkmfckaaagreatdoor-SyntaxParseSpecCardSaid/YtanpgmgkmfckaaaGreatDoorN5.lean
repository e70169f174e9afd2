/- Texts of this claim joined by a program, part 5 of 9; the last is: Contracts: the definitions. Condition: the program is the seat's, and its intervals are laid. -/
import Derived.Test.YtanpgmgkmfckaaaGreatDoorN4
import Derived.Test.YtanpgmgkmfckaaaGreatDoorProg
import Derived.KernelRfl
set_option linter.unusedSimpArgs false
set_option linter.unusedVariables false
set_option linter.unusedSectionVars false
set_option linter.defProp false
/- The same statements with their regions folded into expressions, printed by the fold itself; that they are that is checked by the kernel. No condition. -/
namespace Go.Proofs.YtanpgmgkmfckaaaGreatDoor
open Go Go.Ab
set_option maxRecDepth 100000
def Xr2 : S2 := zL [] [] X12
def J5 := by
 have h := Eq.refl Xr2
 conv at h => rhs; cbv
 exact h
def Yg4 : FS2 := .pre (.rg [.op (some 2) (.alloc 40 .nils), .op (some 3) (.alloc 3 (.int .i64 0)), .op (some 4) (.alloc 31 (.int .i64 0))] [(0, (.a (.t 0))), (2, (.a (.t 2))), (3, (.a (.t 3))), (4, (.a (.t 4)))] [])
 (.pre (.seq (.rg [] [(0, (.a (.t 0))), (2, (.a (.t 2))), (3, (.a (.t 3))), (4, (.a (.t 4))), (9, (.b (.bin .gtr (.t 0) (.t 1)) (.u (.lenS (.t 0)) (.a (.t 0))) (.a (.int .i64 65536))))] [])
 (.cond (.t 9) (.seq (.rg [.op none (.st 1 (.t 2) .nils), .op none (.st 1 (.t 3) (.int .i64 0)), .op none (.st 1 (.t 4) (.int .i64 2))] [(2, (.a (.t 2))), (3, (.a (.t 3))), (4, (.a (.t 4)))] [])
 (.ret)) (.skip)))
 (.dfr [.op (some 10) (.c (.mkf 41 [] [(.t 2), (.t 3), (.t 4)]))] [(0, (.a (.t 0))), (2, (.a (.t 2))), (3, (.a (.t 3))), (4, (.a (.t 4))), (10, (.a (.t 10)))] 10
 (.seq (.rg [.op (some 12) (.pcall 42 []), .lt 11 [] (.a (.t 0)), .op (some 13) (.c (.bld [(.str []), (.int .i64 0), (.agg (List.replicate 256 (.int .i64 0))), .nils] [(0, (.t 11)), (2, (.t 12))])), .op (some 14) (.box 119 (.t 13)), .op (some 5) (.mvg 44 4 (.t 14) (.t 14) [3])] [(0, (.a (.t 0))), (2, (.a (.t 2))), (3, (.a (.t 3))), (4, (.a (.t 4))), (5, (.a (.t 5)))] [2, 3, 4])
 (.seq (.rg [.lt 15 [] (.a (.t 5)), .op (some 16) (.c (.mkf 43 [(.t 15)] [])), .lt 17 [] (.a (.t 5)), .op (some 18) (.c (.mkf 44 [(.t 17)] [])), .lt 19 [] (.a (.t 5)), .op (some 20) (.c (.mkf 45 [(.t 19)] [])), .lt 21 [] (.a (.t 5)), .op (some 22) (.c (.mkf 46 [(.t 21)] [])), .lt 23 [] (.a (.t 5)), .op (some 24) (.c (.mkf 47 [(.t 23)] [])), .op (some 25) (.c (.bld [.nilf, .nilf, .nilf, .nilf, .nilf] [(0, (.t 16)), (1, (.t 18)), (2, (.t 20)), (3, (.t 22)), (4, (.t 24))])), .op (some 6) (.alloc 120 (.agg [.nilf, .nilf, .nilf, .nilf, .nilf])), .op none (.st 5 (.t 6) (.t 25))] [(0, (.a (.t 0))), (2, (.a (.t 2))), (3, (.a (.t 3))), (4, (.a (.t 4))), (5, (.a (.t 5))), (6, (.a (.t 6)))] [2, 3, 4])
 (.seq (.block 0 (.loop [0, 2, 3, 4, 5, 6] Xr2))
 (.seq (.rg [.chk [] (.u (.ld 1 false (.t 0)) (.u (.fldA 3 258 (.t 0)) (.u (.nilc (.t 0)) (.a (.t 5))))), .lt 50 [] (.u (.ld 1 false (.t 0)) (.u (.fldA 3 258 (.t 0)) (.u (.nilc (.t 0)) (.a (.t 5))))), .op none (.st 1 (.t 2) (.t 50)), .op none (.st 1 (.t 3) (.int .i64 0)), .op none (.st 1 (.t 4) (.int .i64 0))] [(2, (.a (.t 2))), (3, (.a (.t 3))), (4, (.a (.t 4)))] [2, 3, 4])
 (.ret)))))))
theorem Ysg : Yib.lift [] = some Yg4 := by kernel_rfl
def Xjh : S2 := zL [] [] Xzq
def Xfu := by
 have h := Eq.refl Xjh
 conv at h => rhs; cbv
 exact h
def Xmn : S2 := zL [] [] X1s
def Xvq := by
 have h := Eq.refl Xmn
 conv at h => rhs; cbv
 exact h
def Xkv : S2 := zL [] [Xmn, Xjh] Xqm
def Xj2 := by
 have h := fun (a b : S2) => Eq.refl (zL [] [a, b] Xqm)
 conv at h => intro a b; rhs; cbv
 have e : Xkv = _ := h Xmn Xjh
 exact e
def Yjf : S2 := zL [] [Xkv] n38
def Yoo := by
 have h := fun (a : S2) => Eq.refl (zL [] [a] n38)
 conv at h => intro a; rhs; cbv
 have e : Yjf = _ := h Xkv
 exact e
theorem Yqi : Yhl.lift [] = some Yjf := by kernel_rfl
def Xjz : S2 := zL [] [] Xzz
def X21 := by
 have h := Eq.refl Xjz
 conv at h => rhs; cbv
 exact h
def Xu8 : List It2 := []
def Xse : List (Nat × E) := [(0, (.a (.t 0))), (1, (.a (.t 1))), (2, (.a (.t 2))), (3, (.a (.t 6)))]
theorem Yi8 : Jy [] Ya1 [] Xz9 [] [] [] = some (Xu8, Xse) := by kernel_rfl
def Yio : S2 := zL [] [Xjz] n41
def Ylv := by
 have h := fun (a : S2) => Eq.refl (zL [] [a] n41)
 conv at h => intro a; rhs; cbv
 have e : Yio = _ := h Xjz
 exact e
theorem Yj0 : Yid.lift [] = some Yio := by kernel_rfl
def Xu2 : S2 := zL [] [] X0p
def Xq8 := by
 have h := Eq.refl Xu2
 conv at h => rhs; cbv
 exact h
def Xq2 : S2 := zL [] [] X0k
def Xrk := by
 have h := Eq.refl Xq2
 conv at h => rhs; cbv
 exact h
def Xwh : S2 := zL [] [] X0v
def Xtr := by
 have h := Eq.refl Xwh
 conv at h => rhs; cbv
 exact h
def Xs4 : S2 := zL [] [] X0h
def Xuv := by
 have h := Eq.refl Xs4
 conv at h => rhs; cbv
 exact h
def Yiw : S2 := .seq (.rg [.op (some 0) (.alloc 116 (.agg (List.replicate 256 (.int .i64 0))))] [(0, (.a (.t 0)))] [])
 (.seq (.seq (.rg [] [(0, (.a (.t 0))), (7, (.a (.int .i64 0)))] [])
 (.block 0 (.loop [0, 7] Xs4)))
 (.seq (.seq (.rg [] [(0, (.a (.t 0))), (17, (.a (.int .i64 0)))] [])
 (.block 2 (.loop [0, 17] Xwh)))
 (.seq (.seq (.rg [.op (some 24) (.blo 5 1 [(.int .u8 0), (.int .u8 0), (.int .u8 0), (.int .u8 0)] [(0, (.int .u8 32)), (1, (.int .u8 9)), (2, (.int .u8 10)), (3, (.int .u8 13))]), .op (some 25) (.cvb (.t 24))] [(0, (.a (.t 0))), (25, (.a (.t 25))), (26, (.u (.lenL (.t 0)) (.a (.t 25)))), (27, (.a (.int .i64 0)))] [])
 (.block 4 (.loop [0, 25, 26, 27] Xq2)))
 (.seq (.seq (.rg [.op (some 34) (.blo 5 1 (List.replicate 15 (.int .u8 0)) [(0, (.int .u8 123)), (1, (.int .u8 125)), (2, (.int .u8 40)), (3, (.int .u8 41)), (4, (.int .u8 59)), (5, (.int .u8 44)), (6, (.int .u8 61)), (7, (.int .u8 35)), (8, (.int .u8 47)), (9, (.int .u8 60)), (10, (.int .u8 33)), (11, (.int .u8 45)), (12, (.int .u8 46)), (13, (.int .u8 58)), (14, (.int .u8 43))]), .op (some 35) (.cvb (.t 34))] [(0, (.a (.t 0))), (35, (.a (.t 35))), (36, (.u (.lenL (.t 0)) (.a (.t 35)))), (37, (.a (.int .i64 0)))] [])
 (.block 6 (.loop [0, 35, 36, 37] Xu2)))
 (.seq (.rg [.chk [] (.u (.ld 256 true (.t 0)) (.a (.t 0))), .lt 44 [] (.u (.ld 256 true (.t 0)) (.a (.t 0))), .op none (.st 256 (.t 0) (.t 44))] [(0, (.a (.t 0)))] [])
 (.ret))))))
theorem Ysr : Yj2.lift [] = some Yiw := by kernel_rfl
def Ykb : S2 := zL [] [] n43
def Yns := by
 have h := Eq.refl Ykb
 conv at h => rhs; cbv
 exact h
theorem Yrc : Yml.lift [] = some Ykb := by kernel_rfl
def Yjg : S2 := zL [] [] n44
def Yp0 := by
 have h := Eq.refl Yjg
 conv at h => rhs; cbv
 exact h
theorem Yrl : Ykq.lift [] = some Yjg := by kernel_rfl
def Xjr : S2 := zL [] [] X0e
def X37 := by
 have h := Eq.refl Xjr
 conv at h => rhs; cbv
 exact h
def Yk4 : S2 := zL [] [Xjr] n45
def Ypq := by
 have h := fun (a : S2) => Eq.refl (zL [] [a] n45)
 conv at h => intro a; rhs; cbv
 have e : Yk4 = _ := h Xjr
 exact e
theorem Yo6 : Ymt.lift [] = some Yk4 := by kernel_rfl
def Xi1 : S2 := zL [] [] Xzu
def X5d := by
 have h := Eq.refl Xi1
 conv at h => rhs; cbv
 exact h
def Xkd : S2 := zL [] [Xi1] Xrt
def X2g := by
 have h := fun (a : S2) => Eq.refl (zL [] [a] Xrt)
 conv at h => intro a; rhs; cbv
 have e : Xkd = _ := h Xi1
 exact e
def Yiy : S2 := zL [] [Xkd] n46
def Yq1 := by
 have h := fun (a : S2) => Eq.refl (zL [] [a] n46)
 conv at h => intro a; rhs; cbv
 have e : Yiy = _ := h Xkd
 exact e
theorem Yqw : Yip.lift [] = some Yiy := by kernel_rfl
def Yl2 : S2 := zL [] [] n47
def Yo8 := by
 have h := Eq.refl Yl2
 conv at h => rhs; cbv
 exact h
theorem Ysx : Ymf.lift [] = some Yl2 := by kernel_rfl
def Yje : S2 := zL [] [] n79
def Yqb := by
 have h := Eq.refl Yje
 conv at h => rhs; cbv
 exact h
theorem Yom : Ykt.lift [] = some Yje := by kernel_rfl
def Ylt : S2 := zL [] [] n80
def Yri := by
 have h := Eq.refl Ylt
 conv at h => rhs; cbv
 exact h
theorem Yra : Yla.lift [] = some Ylt := by kernel_rfl
def Yg9 : S2 := zL [80, 83] [] n81
def Yoj := by
 have h := Eq.refl Yg9
 conv at h => rhs; cbv
 exact h
theorem Yqv : Yka.lift [80, 83] = some Yg9 := by kernel_rfl
def Xl6 : S2 := zL [80, 81] [] X0n
def X6c := by
 have h := Eq.refl Xl6
 conv at h => rhs; cbv
 exact h
def Yg8 : S2 := zL [80, 81] [Xl6] n82
def Yqh := by
 have h := fun (a : S2) => Eq.refl (zL [80, 81] [a] n82)
 conv at h => intro a; rhs; cbv
 have e : Yg8 = _ := h Xl6
 exact e
theorem Yqy : Yjl.lift [80, 81] = some Yg8 := by kernel_rfl
def Yhv : S2 := zL [] [] n83
def Ynm := by
 have h := Eq.refl Yhv
 conv at h => rhs; cbv
 exact h
theorem Yp3 : Yh6.lift [] = some Yhv := by kernel_rfl
def Xim : S2 := zL [] [] Xzv
def X3z := by
 have h := Eq.refl Xim
 conv at h => rhs; cbv
 exact h
def Yh2 : S2 := zL [] [Xim] n84
def Ync := by
 have h := fun (a : S2) => Eq.refl (zL [] [a] n84)
 conv at h => intro a; rhs; cbv
 have e : Yh2 = _ := h Xim
 exact e
theorem Yq9 : Yi6.lift [] = some Yh2 := by kernel_rfl
def Xl0 : S2 := zL [] [] Xzw
def X6i := by
 have h := Eq.refl Xl0
 conv at h => rhs; cbv
 exact h
def Yku : S2 := zL [] [Xl0] n85
def Yqp := by
 have h := fun (a : S2) => Eq.refl (zL [] [a] n85)
 conv at h => intro a; rhs; cbv
 have e : Yku = _ := h Xl0
 exact e
theorem Yr1 : Yj3.lift [] = some Yku := by kernel_rfl
def Xfy : S2 := zL [] [] Xvg
def Xx2 := by
 have h := Eq.refl Xfy
 conv at h => rhs; cbv
 exact h
def X79 : S2 := zL [] [Xfy] Yf7
def Yf1 := by
 have h := fun (a : S2) => Eq.refl (zL [] [a] Yf7)
 conv at h => intro a; rhs; cbv
 have e : X79 = _ := h Xfy
 exact e
theorem Yea : X6h.lift [] = some X79 := by kernel_rfl
def Ybn : S2 := zL [100, 170] [] Yhn
def Et112 := by
 have h := Eq.refl Ybn
 conv at h => rhs; cbv
 exact h
theorem lf112 : Yac.lift [100, 170] = some Ybn := by kernel_rfl
def Yau : S2 := zL [] [] Yhu
def Et113 := by
 have h := Eq.refl Yau
 conv at h => rhs; cbv
 exact h
theorem lf113 : X9p.lift [] = some Yau := by kernel_rfl
def X9o : S2 := zL [] [] Yht
def Et114 := by
 have h := Eq.refl X9o
 conv at h => rhs; cbv
 exact h
theorem lf114 : X9y.lift [] = some X9o := by kernel_rfl
def X8i : S2 := zL [] [] Ymy
def Et116 := by
 have h := Eq.refl X8i
 conv at h => rhs; cbv
 exact h
theorem lf116 : X9m.lift [] = some X8i := by kernel_rfl
def Xfj : S2 := zL [] [] Xv1
def Xw9 := by
 have h := Eq.refl Xfj
 conv at h => rhs; cbv
 exact h
def X7r : S2 := zL [] [Xfj] Ydj
def Ydc := by
 have h := fun (a : S2) => Eq.refl (zL [] [a] Ydj)
 conv at h => intro a; rhs; cbv
 have e : X7r = _ := h Xfj
 exact e
theorem Yek : X76.lift [] = some X7r := by kernel_rfl
def X8b : S2 := zL [] [] Yk3
def Yeb := by
 have h := Eq.refl X8b
 conv at h => rhs; cbv
 exact h
theorem Ygu : Ycd.lift [] = some X8b := by kernel_rfl
def Yag : S2 := zL [] [] Yir
def Yd7 := by
 have h := Eq.refl Yag
 conv at h => rhs; cbv
 exact h
theorem Yeu : X87.lift [] = some Yag := by kernel_rfl
def Yaa : S2 := zL [] [] Yix
def Yfv := by
 have h := Eq.refl Yaa
 conv at h => rhs; cbv
 exact h
theorem Yfy : X7e.lift [] = some Yaa := by kernel_rfl
def X8q : S2 := zL [] [] Ylo
def Ydg := by
 have h := Eq.refl X8q
 conv at h => rhs; cbv
 exact h
theorem Ygj : X9t.lift [] = some X8q := by kernel_rfl
def X7w : S2 := zL [] [] Yli
def Yga := by
 have h := Eq.refl X7w
 conv at h => rhs; cbv
 exact h
theorem Yec : X7p.lift [] = some X7w := by kernel_rfl
def Yai : S2 := zL [] [] Yh5
def Ygt := by
 have h := Eq.refl Yai
 conv at h => rhs; cbv
 exact h
theorem Yg2 : Ybw.lift [] = some Yai := by kernel_rfl
end Go.Proofs.YtanpgmgkmfckaaaGreatDoor
/- Plain functions of the lexer: classes of bytes, names, numbers, tokens. No program. -/
namespace Go.Lx
open Go Go.Ab

structure Tok where
 kind : Int
 text : List UInt8
 n : Int
 at_ : Int
 deriving DecidableEq, Inhabited

def Tok.enc (t : Tok) : D := .agg [.int .i64 t.kind, .str t.text, .int .i64 t.n, .int .i64 t.at_]
def toks (l : List Tok) : D := .list 4 (l.map Tok.enc)

def Y4 (c : Int) : Bool := decide (97 ≤ c ∧ c ≤ 122 ∨ 65 ≤ c ∧ c ≤ 90)
def Zm (c : Int) : Bool := decide (48 ≤ c ∧ c ≤ 57)
def Qh (c : Int) : Bool := decide (c = 32 ∨ c = 9 ∨ c = 10 ∨ c = 13)
def Vy (c : Int) : Bool := Y4 c || Zm c || decide (c = 95)
def signs : List UInt8 := [123, 125, 40, 41, 59, 44, 61, 35, 47, 60, 33, 45, 46, 58, 43]
def signI (c : Int) : Bool := signs.any fun b => decide ((b.toNat : Int) = c)

def nameB (s : List UInt8) : Bool := decide (1 ≤ s.length ∧ s.length ≤ 32) && Y4 (s.getD 0 0).toNat && s.all fun c => Vy c.toNat

theorem Xgl {s : List UInt8} {p : UInt8 → Bool} : s.all p = true ↔ ∀ i, i < s.length → p (s.getD i 0) = true := by
 rw [List.all_eq_true]
 constructor
 ·intro h i hi; simp [hi]; exact h _ (List.getElem_mem hi)
 ·intro h x hx
  obtain ⟨i, hi, rfl⟩ := List.getElem_of_mem hx
  have := h i hi
  simpa [hi] using this
end Go.Lx
/- Contracts: classes of bytes and names, of the program and of the document. Condition: the program is the seat's. -/
namespace Go.Proofs.YtanpgmgkmfckaaaGreatDoor
open Go Go.Ab Go.Lx
theorem mixed : Tryz.prog.follows .mixedOrders = true := by kernel_rfl
set_option maxRecDepth 100000

def fnI (f : Int → Bool) : Ab.Fn := ⟨fun vs => match vs with | [.d (.int .u8 _)] => True | _ => False, fun vs => match vs with | [.d (.int .u8 n)] => .d (.bool (f n)) | _ => .any⟩
@[simp] theorem fnI_pre (f : Int → Bool) (n : Int) : (fnI f).pre [.d (.int .u8 n)] = True := by simp only [fnI]
@[simp] theorem fnI_val (f : Int → Bool) (n : Int) : (fnI f).val [.d (.int .u8 n)] = .d (.bool (f n)) := by simp only [fnI]
theorem Xhh {P : Prg} {k : Nat} {f : Int → Bool} (h : ∀ n ob (K : V → Prop), K (.d (.bool (f n))) → PCall P k [.d (.int .u8 n)] ob K) : PFn P k (fnI f) := by
 intro vs hp ob K hK
 simp only [fnI] at hp hK
 split at hp
 ·exact h _ _ _ hK
 ·exact hp.elim
def fnS (f : List UInt8 → Bool) : Ab.Fn := ⟨fun vs => match vs with | [.d (.str _)] => True | _ => False, fun vs => match vs with | [.d (.str s)] => .d (.bool (f s)) | _ => .any⟩
@[simp] theorem fnS_pre (f : List UInt8 → Bool) (s : List UInt8) : (fnS f).pre [.d (.str s)] = True := by simp only [fnS]
@[simp] theorem fnS_val (f : List UInt8 → Bool) (s : List UInt8) : (fnS f).val [.d (.str s)] = .d (.bool (f s)) := by simp only [fnS]
theorem X1y {P : Prg} {k : Nat} {f : List UInt8 → Bool} (h : ∀ s ob (K : V → Prop), K (.d (.bool (f s))) → PCall P k [.d (.str s)] ob K) : PFn P k (fnS f) := by
 intro vs hp ob K hK
 simp only [fnS] at hp hK
 split at hp
 ·exact h _ _ _ hK
 ·exact hp.elim

section
variable {P : Prg} (hP : P.p = Tryz.prog)
include hP
theorem Xgp : PFn P 80 (fnI Y4) := Xhh fun n ob K h => by
 refine pcall_lift hP mixed (ds := [.int .u8 n]) Ysy Yra TOk.nil ?_
 have h' : ∀ b, b = Y4 n → K (.d (.bool b)) := fun b e => e ▸ h
 simp [Yri]
 apply h'; rw [Bool.eq_iff_iff]; simp [Y4]; try omega
theorem Xn8 : PFn P 83 (fnI Zm) := Xhh fun n ob K h => by
 refine pcall_lift hP mixed (ds := [.int .u8 n]) Yoh Yp3 TOk.nil ?_
 have h' : ∀ b, b = Zm n → K (.d (.bool b)) := fun b e => e ▸ h
 simp [Ynm]
 apply h'; rw [Bool.eq_iff_iff]; simp [Zm]; try omega
theorem X2u : PFn P 79 (fnI Qh) := Xhh fun n ob K h => by
 refine pcall_lift hP mixed (ds := [.int .u8 n]) Yse Yom TOk.nil ?_
 have h' : ∀ b, b = Qh n → K (.d (.bool b)) := fun b e => e ▸ h
 simp [Yqb]
 apply h'; rw [Bool.eq_iff_iff]; simp [Qh]; try omega
theorem X1o : PFn P 81 (fnI Vy) := Xhh fun n ob K h => by
 refine pcall_lift hP mixed (ds := [.int .u8 n]) Yn8 Yqv (TOk.cons (Xgp hP) (TOk.cons (Xn8 hP) TOk.nil)) ?_
 have h' : ∀ b, b = Vy n → K (.d (.bool b)) := fun b e => e ▸ h
 simp [Yoj]
 apply h'; rw [Bool.eq_iff_iff]; simp [Vy]; try omega
theorem c_Name : PFn P 100 (fnS nameB) := X1y fun s ob K h => by
 refine pcall_lift hP mixed (ds := [.str s]) X68 Yea TOk.nil ?_
 have h' : ∀ b, b = nameB s → K (.d (.bool b)) := fun b e => e ▸ h
 clear h
 simp [Yf1]
 refine ⟨fun hne => h' _ ?_, fun h0 h1 => ?_⟩
 ·rcases hne with rfl | h1
  ·simp [nameB]
  ·simp [nameB]; omega
 ·have h0' : 1 ≤ s.length := by cases s with | nil => exact absurd rfl h0 | cons => simp
  refine ALoop.go (ι := Nat) (fun k => [(0, .d (.str s)), (14, .d (.int .i64 s.length)), (15, .d (.int .i64 k))]) (fun _ => []) (fun k => k ≤ s.length ∧ (∀ i, i < k → Vy (s.getD i 0).toNat = true) ∧ (0 < k → Y4 (s.getD 0 0).toNat = true)) (fun k => s.length - k) 0 ⟨by omega, by omega, by omega⟩ (by simp) rfl ?_
  rintro k ⟨hk, hp, hl⟩ R rn re rr _
  simp [Xx2]
  simp only [List.getD_eq_getElem?_getD] at hp hl rn
  refine ⟨fun hlt => ⟨hlt, fun e1 e2 e3 => rr _ _ ?_, fun e => rn [] (k + 1) _ _ ⟨by omega, fun i hi => ?_, fun _ => ?_⟩ (by omega) ?_ rfl rfl rfl⟩, fun hge => re _ _ _ ?_⟩
  ·simp
   refine h' _ (Eq.symm ?_)
   rw [Bool.eq_false_iff]
   intro hn
   simp only [nameB, Bool.and_eq_true, Xgl, List.getD_eq_getElem?_getD] at hn
   have := hn.2 k hlt
   have h2 := hn.1.2
   rcases e3 with rfl | e3
   ·simp [Y4] at h2; omega
   ·simp [Vy, Y4, Zm] at this; omega
  ·by_cases hi' : i = k
   ·subst hi'; simp [Vy, Y4, Zm]; omega
   ·exact hp i (by omega)
  ·by_cases h2 : k = 0
   ·subst h2; simp [Y4]; omega
   ·exact hl (by omega)
  ·simp; exact IntWalk.i64_in _ (by omega)
  ·have hk' : k = s.length := by omega
   subst hk'
   simp
   refine h' _ (Eq.symm ?_)
   simp only [nameB, Bool.and_eq_true, Xgl, List.getD_eq_getElem?_getD]
   exact ⟨⟨by simp; omega, hl h0'⟩, hp⟩
end
end Go.Proofs.YtanpgmgkmfckaaaGreatDoor
/- Contracts: names, signs and numbers of the document. Condition: the program is the seat's. -/
namespace Go.Lx
open Go Go.Ab
def W5 : Int → List UInt8 → Option Int
 | n, [] => some n
 | n, c :: r => if 1099511627776 < 10 * n + (c.toNat - 48) then none else W5 (10 * n + (c.toNat - 48)) r
def X9s (s : List UInt8) : V := match W5 0 s with
 | none => .tup [.d (.int .i64 0), .d (.bool false)]
 | some n => .tup [.d (.int .i64 n), .d (.bool (decide (s.length = 1) || !decide ((s.getD 0 0).toNat = 48)))]
theorem Xel {s : List UInt8} {k : Nat} {n : Int} (h : k < s.length) : W5 n (s.drop k) = if 1099511627776 < 10 * n + ((s[k]?.getD 0).toNat - 48) then none else W5 (10 * n + ((s[k]?.getD 0).toNat - 48)) (s.drop (k + 1)) := by
 rw [List.drop_eq_getElem_cons h]
 simp [W5, h]
end Go.Lx
namespace Go.Proofs.YtanpgmgkmfckaaaGreatDoor
open Go Go.Ab Go.Lx
set_option maxRecDepth 100000
section
variable {P : Prg} (hP : P.p = Tryz.prog)
include hP
theorem X6f : PFn P 82 (fnS nameB) := X1y fun s ob K h => by
 refine pcall_lift hP mixed (ds := [.str s]) Yo3 Yqy (TOk.cons (Xgp hP) (TOk.cons (X1o hP) TOk.nil)) ?_
 have h' : ∀ b, b = nameB s → K (.d (.bool b)) := fun b e => e ▸ h
 clear h
 simp [Yqh]
 refine ⟨fun h1 h2 => by omega, fun hne => h' _ ?_, fun h1 h2 h3 => ?_⟩
 ·rcases hne with h1 | h1
  ·simp [nameB]; omega
  ·simp [nameB, h1]
 ·refine ALoop.go (ι := Nat) (fun k => [(0, .d (.str s)), (3, .d (.int .i64 k))]) (fun _ => []) (fun k => k ≤ s.length ∧ ∀ i, i < k → Vy (s[i]?.getD 0).toNat = true) (fun k => s.length - k) 0 ⟨by omega, by omega⟩ (by simp) rfl ?_
  rintro k ⟨hk, hp⟩ R rn re rr _
  simp [X6c]
  refine ⟨fun hlt => ⟨hlt, fun e => rr _ _ ?_, fun e => rn [] (k + 1) _ _ ⟨by omega, fun i hi => ?_⟩ (by omega) ?_ rfl rfl rfl⟩, fun hge => re _ _ _ ?_⟩
  ·simp
   refine h' _ (Eq.symm ?_)
   rw [Bool.eq_false_iff]
   intro hn
   simp only [nameB, Bool.and_eq_true, Xgl, List.getD_eq_getElem?_getD] at hn
   rw [hn.2 k hlt] at e; cases e
  ·by_cases hi' : i = k
   ·subst hi'; exact e
   ·exact hp i (by omega)
  ·simp; exact IntWalk.i64_in _ (by omega)
  ·have hk' : k = s.length := by omega
   subst hk'
   simp
   refine h' _ (Eq.symm ?_)
   simp only [nameB, Bool.and_eq_true, Xgl, List.getD_eq_getElem?_getD]
   exact ⟨⟨by simp; omega, h3⟩, hp⟩
theorem X8l : PFn P 85 (fnI signI) := Xhh fun n ob K h => by
 refine pcall_lift hP mixed (ds := [.int .u8 n]) Yql Yr1 TOk.nil ?_
 have h' : ∀ b, b = signI n → K (.d (.bool b)) := fun b e => e ▸ h
 clear h
 simp [Yqp]
 show ALoop _ _ _ [_, (3, V.d (D.str signs)), _] _
 refine ALoop.go (ι := Nat) (fun k => [(0, .d (.int .u8 n)), (3, .d (.str signs)), (4, .d (.int .i64 k))]) (fun _ => []) (fun k => k ≤ signs.length ∧ ∀ i, i < k → ¬ ((signs[i]?.getD 0).toNat : Int) = n) (fun k => signs.length - k) 0 ⟨by simp, by omega⟩ (by simp) rfl ?_
 have hl : signs.length = 15 := rfl
 have hs : signI n = true ↔ ∃ i, i < signs.length ∧ ((signs[i]?.getD 0).toNat : Int) = n := by
  simp only [signI, List.any_eq_true, decide_eq_true_eq]
  constructor
  ·rintro ⟨x, hx, e⟩
   obtain ⟨i, hi, rfl⟩ := List.getElem_of_mem hx
   exact ⟨i, hi, by simpa [hi] using e⟩
  ·rintro ⟨i, hi, e⟩
   exact ⟨signs[i], List.getElem_mem hi, by simpa [hi] using e⟩
 generalize signs = s at *
 rintro k ⟨hk, hp⟩ R rn re rr _
 simp [X6i]
 refine ⟨fun hlt => ⟨hlt, fun e => rr _ _ ?_, fun e => rn [] (k + 1) _ _ ⟨by omega, fun i hi => ?_⟩ (by omega) ?_ rfl rfl rfl⟩, fun hge => re _ _ _ ?_⟩
 ·simp
  exact h' _ (hs.mpr ⟨k, hlt, e⟩).symm
 ·by_cases hi' : i = k
  ·subst hi'; exact e
  ·exact hp i (by omega)
 ·simp; exact IntWalk.i64_in _ (by omega)
 ·simp
  refine h' _ (Eq.symm ?_)
  rw [Bool.eq_false_iff]
  intro hn
  obtain ⟨i, hi, e⟩ := hs.mp hn
  exact hp i (by omega) e
theorem Xx3 (s : List UInt8) (hd : ∀ i, i < s.length → Zm (s[i]?.getD 0).toNat = true) (hn : s ≠ []) (hs : s.length ≤ 1000000) {ob : Objs} {K : V → Prop} (h : K (X9s s)) : PCall P 84 [.d (.str s)] ob K := by
 refine pcall_lift hP mixed (ds := [.str s]) Ym4 Yq9 TOk.nil ?_
 simp [Ync]
 refine ALoop.go (ι := Nat × Int) (fun k => [(0, .d (.str s)), (4, .d (.int .i64 k.2)), (5, .d (.int .i64 k.1))]) (fun _ => []) (fun k => k.1 ≤ s.length ∧ 0 ≤ k.2 ∧ k.2 ≤ 1099511627776 ∧ W5 0 s = W5 k.2 (s.drop k.1)) (fun k => s.length - k.1) (0, 0) ⟨by simp, by simp, by simp, by simp⟩ (by simp) rfl ?_
 rintro ⟨k, n⟩ ⟨hk, h1, h2, h3⟩ R rn re rr _
 simp only at hk h1 h2 h3
 simp [X3z]
 have hw : k < s.length → IntKind.i64.wrap (IntKind.i64.wrap (10 * n) + IntKind.i64.wrap (IntKind.u8.wrap ((s[k]?.getD 0).toNat - 48))) = 10 * n + ((s[k]?.getD 0).toNat - 48) ∧ (48 : Int) ≤ (s[k]?.getD 0).toNat := fun hlt => by
  have hc := hd k hlt
  simp [Zm] at hc
  rw [IntWalk.u8_in _ (by omega), IntWalk.i64_in (10 * n) (by omega), IntWalk.i64_in (_ - 48) (by omega), IntWalk.i64_in _ (by omega)]
  exact ⟨rfl, by omega⟩
 refine ⟨fun hlt => ⟨hlt, ?_⟩, fun hge => re _ _ _ ?_⟩
 ·rw [Xel hlt] at h3
  obtain ⟨hw, hc⟩ := hw hlt
  rw [hw]
  refine ⟨fun e => rr _ _ ?_, fun e => rn [] (k + 1, 10 * n + ((s[k]?.getD 0).toNat - 48)) _ _ ⟨by simp; omega, by simp; omega, by simp; omega, ?_⟩ (by simp; omega) ?_ rfl rfl rfl⟩
  ·rw [if_pos e] at h3
   simp [X9s, h3] at h
   simp; exact h
  ·rw [if_neg (by omega)] at h3
   exact h3
  ·simp; exact IntWalk.i64_in _ (by omega)
 ·clear rn rr hw
  have hk' : k = s.length := by omega
  subst hk'
  simp [W5] at h3
  simp [X9s, h3] at h
  have hl : 0 < s.length := by cases s with | nil => exact absurd rfl hn | cons => simp
  simp
  refine ⟨fun _ => hl, ?_⟩
  refine (congrArg K ?_).mp h
  simp
  rw [Bool.eq_iff_iff]; simp; omega
end
end Go.Proofs.YtanpgmgkmfckaaaGreatDoor
/- Slices of tokens. No program. -/
namespace Go.Lx
open Go Go.Ab
def TD (a : D) (l : List Tok) : Prop := a = toks l ∨ a = .nils ∧ l = []
section
variable {a : D} {l : List Tok} (h : TD a l)
include h
theorem TD.len : Xdn (.d a) = .d (.int .i64 l.length) := by rcases h with rfl | ⟨rfl, rfl⟩ <;> simp [toks]
theorem TD.lenS (ob : Objs) : Xgc ob (.d a) = True := by rcases h with rfl | ⟨rfl, rfl⟩ <;> simp [toks]
theorem TD.idxS (k : IntKind) (i : Int) : Xp5 4 (.d a) (.d (.int k i)) = (0 ≤ i ∧ i < l.length) := by
 rcases h with rfl | ⟨rfl, rfl⟩
 ·simp [toks]
 ·simp [Xp5, Xc8]
theorem TD.idx {k : IntKind} {i : Nat} (hi : i < l.length) : Xoz (.d a) (.d (.int k i)) = .d (.ref (l[i]?.getD default).enc) := by
 rcases h with rfl | ⟨rfl, rfl⟩
 ·simp [toks, hi]
 ·simp at hi
end
end Go.Lx
/- The lexer as a plain function of bytes. No program. -/
namespace Go.Lx
open Go Go.Ab

def Zt (c : UInt8) : Bool := Y4 c.toNat
def Xw (c : UInt8) : Bool := Zm c.toNat
def Q0 (c : UInt8) : Bool := Qh c.toNat
def Yg (c : UInt8) : Bool := Vy c.toNat
def signB (c : UInt8) : Bool := signI c.toNat
def Zz (c : UInt8) : Bool := c != 10

inductive St where
 | skip (n : Nat)
 | tok (k : Int) (t : List UInt8) (m : Int) (n : Nat)
 | err

def Jk (t : List UInt8) : Option Int := match W5 0 t with
 | none => none
 | some n => if t.length = 1 ∨ t.headD 0 ≠ 48 then some n else none

def stp (c : UInt8) (r : List UInt8) : St :=
 if Q0 c then .skip 0
 else if c = 47 ∧ r.head? = some 47 then .skip (r.takeWhile Zz).length
 else if Zt c then
  if (r.takeWhile Yg).length + 1 ≤ 32 then .tok 1 (c :: r.takeWhile Yg) 0 (r.takeWhile Yg).length else .err
 else if Xw c then
  match Jk (c :: r.takeWhile Xw) with
  | some n => .tok 2 [] n (r.takeWhile Xw).length
  | none => .err
 else if signB c then .tok 3 [c] 0 0 else .err

inductive Res where
 | ok (l : List Tok)
 | err (at_ : Nat)

def Xw4 (t : Tok) : Res → Res
 | .ok l => .ok (t :: l)
 | .err e => .err e
def Xnt (l : List Tok) : Res → Res
 | .ok l' => .ok (l ++ l')
 | .err e => .err e

def Wi : List UInt8 → Nat → Res
 | [], _ => .ok []
 | c :: r, off => match stp c r with
  | .skip n => Wi (r.drop n) (off + n + 1)
  | .tok k t m n => Xw4 ⟨k, t, m, off⟩ (Wi (r.drop n) (off + n + 1))
  | .err => .err off
termination_by l => l.length
decreasing_by all_goals (simp only [List.length_drop, List.length_cons]; omega)

def X3b : Res → V
 | .ok l => .tup [.d (toks l), .d (.int .i64 0), .d (.int .i64 0)]
 | .err e => .tup [.d .nils, .d (.int .i64 e), .d (.int .i64 90)]
def Xnc (s : List UInt8) : V := if s.length > 65536 then .tup [.d .nils, .d (.int .i64 0), .d (.int .i64 2)] else X3b (Wi s 0)

theorem Xoo (r : Res) : Xnt [] r = r := by cases r <;> rfl
theorem U0 (l : List Tok) (t : Tok) (r : Res) : Xnt l (Xw4 t r) = Xnt (l ++ [t]) r := by cases r <;> simp [Xnt, Xw4]

def tw (p : UInt8 → Bool) (s : List UInt8) (j : Nat) : Nat := ((s.drop j).takeWhile p).length
theorem Xxs {p : UInt8 → Bool} {s : List UInt8} {j : Nat} (h : s.length ≤ j) : tw p s j = 0 := by simp [tw, List.drop_of_length_le h]
theorem Xdv {p : UInt8 → Bool} {s : List UInt8} {j : Nat} (h : j < s.length) (hp : p (s[j]?.getD 0) = true) : tw p s j = tw p s (j + 1) + 1 := by
 simp [h] at hp
 unfold tw
 rw [List.drop_eq_getElem_cons h, List.takeWhile_cons, if_pos hp]; rfl
theorem Xyd {p : UInt8 → Bool} {s : List UInt8} {j : Nat} (h : j < s.length) (hp : p (s[j]?.getD 0) = false) : tw p s j = 0 := by
 simp [h] at hp
 unfold tw
 rw [List.drop_eq_getElem_cons h, List.takeWhile_cons, hp]; rfl
theorem Xmo (p : UInt8 → Bool) (s : List UInt8) (j : Nat) (h : j ≤ s.length) : j + tw p s j ≤ s.length := by
 have := (List.takeWhile_sublist p (l := s.drop j)).length_le
 simp [tw] at this ⊢; omega
theorem Y6 (p : UInt8 → Bool) : ∀ l : List UInt8, l.takeWhile p = l.take (l.takeWhile p).length
 | [] => rfl
 | c :: r => by
  simp only [List.takeWhile_cons]
  split
  ·simp; exact Y6 p r
  ·rfl
theorem Xoc {p : UInt8 → Bool} {x : UInt8} : ∀ {l : List UInt8}, x ∈ l.takeWhile p → p x = true
 | c :: r, h => by
  rw [List.takeWhile_cons] at h
  split at h
  ·rename_i hc
   rcases List.mem_cons.mp h with rfl | h
   ·exact hc
   ·exact Xoc h
  ·cases h
theorem Vj {s : List UInt8} {i : Nat} (h : i < s.length) : s.drop i = (s[i]?.getD 0) :: s.drop (i + 1) := by
 rw [List.drop_eq_getElem_cons h]; simp [h]
theorem Xfo (p : UInt8 → Bool) {s : List UInt8} {i : Nat} (h : i < s.length) (hp : p (s[i]?.getD 0) = true) :
  (s.take (i + tw p s i)).drop i = (s[i]?.getD 0) :: (s.drop (i + 1)).takeWhile p ∧ tw p s i = ((s.drop (i + 1)).takeWhile p).length + 1 := by
 have h1 : tw p s i = ((s.drop (i + 1)).takeWhile p).length + 1 := Xdv h hp
 refine ⟨?_, h1⟩
 rw [List.drop_take, Nat.add_sub_cancel_left, h1, Vj h, List.take_succ_cons, ← Y6]

theorem Xn3 {s : List UInt8} {i off : Nat} (h : s.length ≤ i) : Wi (s.drop i) off = .ok [] := by
 rw [List.drop_of_length_le h, Wi]
theorem Xr6 {s : List UInt8} {i : Nat} (h : i < s.length) : Wi (s.drop i) i = match stp (s[i]?.getD 0) (s.drop (i + 1)) with
  | .skip n => Wi (s.drop (i + n + 1)) (i + n + 1)
  | .tok k t m n => Xw4 ⟨k, t, m, i⟩ (Wi (s.drop (i + n + 1)) (i + n + 1))
  | .err => .err i := by
 rw [Vj h, Wi]
 cases stp (s[i]?.getD 0) (s.drop (i + 1)) with
 | err => rfl
 | skip n => simp only [List.drop_drop]; congr 2; omega
 | tok k t m n => simp only [List.drop_drop]; congr 3; omega
theorem Q8 {s : List UInt8} {i : Nat} : (s.drop i).head? = s[i]? := by simp [List.head?_drop]
end Go.Lx
/- The parser of sources as plain functions of tokens. No program. -/
namespace Go.Sx
open Go Go.Ab Go.Lx
abbrev B := List UInt8
inductive R (α : Type) where
 | ok (a : α) (ts : List Tok)
 | err (ts : List Tok) (e : Int)
abbrev M (α : Type) := List Tok → R α
def M.bind {α β : Type} (m : M α) (f : α → M β) : M β := fun ts => match m ts with
 | .ok a ts' => f a ts'
 | .err ts' e => .err ts' e
def M.pure {α : Type} (a : α) : M α := fun ts => .ok a ts
instance : Monad M where
 pure := M.pure
 bind := M.bind
section
variable {α β : Type}
@[simp] theorem J7 (a : α) (ts : List Tok) : (pure a : M α) ts = .ok a ts := rfl
theorem Xd (m : M α) (f : α → M β) (ts : List Tok) : (m >>= f) ts = match m ts with
 | .ok a ts' => f a ts'
 | .err ts' e => .err ts' e := rfl
theorem Xx {γ : Type} (m : M α) (f : α → M β) (g : β → M γ) : ((m >>= f) >>= g) = (m >>= fun a => f a >>= g) := by
 funext ts
 simp only [Xd]
 cases m ts <;> rfl
theorem Yi (a : α) (f : α → M β) : ((pure a : M α) >>= f) = f a := rfl
def ifM (c : List Tok → Bool) (a b : M α) : M α := fun ts => if c ts then a ts else b ts
def fail (e : Int) : M α := fun ts => .err ts e
end
def Xf (k : Int) (t : B) : List Tok → Bool
 | [] => false
 | x :: _ => decide (x.kind = k) && (decide (t = []) || x.text == t)
def Wf (k : Int) (t : B) : M Tok := fun ts => if Xf k t ts then .ok (ts.headD default) ts.tail else .err ts 100
def X5 : M B := do let t ← Wf 1 []; pure t.text
def X7 (t : B) : M Unit := do let _ ← Wf 1 t; pure ()
def X0 (t : B) : M Unit := do let _ ← Wf 3 t; pure ()
def Xo (k : Int) (t : B) : M Bool := fun ts => if Xf k t ts then .ok true ts.tail else .ok false ts
def Xv (lo hi : Int) : M Int := fun ts => if Xf 2 [] ts && decide (lo ≤ (ts.headD default).n) && decide ((ts.headD default).n ≤ hi) then .ok (ts.headD default).n ts.tail else .err ts 100
theorem Xd3 {lo hi n : Int} {ts ts' : List Tok} (h : Xv lo hi ts = .ok n ts') : lo ≤ n ∧ n ≤ hi := by
 simp only [Xv] at h
 split at h
 ·rename_i hc
  simp only [Bool.and_eq_true, decide_eq_true_eq] at hc
  cases h
  exact ⟨hc.1.2, hc.2⟩
 ·cases h
def Ym (many most : Nat) : M Unit := fun ts => if many = most then .err ts 2 else .ok () ts
def Xp {α : Type} (begins : List Tok → Bool) (read : M α) : Nat → M (List α)
 | 0 => fun ts => if begins ts then .err ts 2 else .ok [] ts
 | n + 1 => fun ts => if begins ts then (do let a ← read; let l ← Xp begins read n; pure (a :: l) : M (List α)) ts else .ok [] ts

inductive Term where
 | num (n : Int)
 | path (a b : B)
structure From where
 name : B
 kind : B
 of_ : Option (B × B)
structure Atom where
 op : Int
 a : Term
 b : Term
structure SetT where
 path : B
 term : Term
structure Move where
 to_ : B
 from_ : B
 shift : Int
structure Ref where
 name : B
 path : B
inductive TypeT where
 | num (lo hi : Int) (of_ : Option B)
 | date
 | person
 | choice (l : List B)
structure Field where
 name : B
 type : TypeT
 weights : List Int
structure Depend where
 names : List B
 name : B
structure UnitT where
 name : B
 of_ : Option (Int × B)
structure Schema where
 name : B
 by_ : B
 version : Int
 fields : List Field
 depends : List Depend
structure Rule where
 head : B
 froms : List From
 wheres : List Atom
 sets : List SetT
structure Convert where
 from_ : B
 to_ : B
 moves : List Move
structure Purpose where
 name : B
 may : List Ref
 most : Int
structure Src where
 issuers : List B
 units : List UnitT
 schemas : List Schema
 rules : List Rule
 converts : List Convert
 purposes : List Purpose
abbrev iD (n : Int) : D := .int .i64 n
def Term.enc : Term → D
 | .num n => .agg [.str [], .str [], iD (-1), iD 0, iD n]
 | .path a b => .agg [.str a, .str b, iD 0, iD 0, iD 0]
def From.enc (f : From) : D := .agg [.str f.name, .str f.kind, iD 0, match f.of_ with | none => .agg [.str [], .str [], iD 0, iD 0, iD 0] | some x => .agg [.str x.1, .str x.2, iD 0, iD 0, iD 0]]
def Atom.enc (a : Atom) : D := .agg [iD a.op, a.a.enc, a.b.enc]
def SetT.enc (s : SetT) : D := .agg [.str s.path, iD 0, s.term.enc]
def Move.enc (m : Move) : D := .agg [.str m.to_, .str m.from_, iD 0, iD 0, iD m.shift]
def Ref.enc (r : Ref) : D := .agg [.str r.name, .str r.path, iD 0, iD 0]
def X4 (l : List B) : D := .list 1 (l.map .str)
def TypeT.enc : TypeT → D
 | .num lo hi of_ => .agg [iD 1, iD lo, iD hi, .str (of_.getD []), iD 0, .nils]
 | .date => .agg [iD 2, iD 0, iD 1023, .str [], iD 0, .nils]
 | .person => .agg [iD 3, iD 0, iD 4095, .str [], iD 0, .nils]
 | .choice l => .agg [iD 4, iD 0, iD (l.length - 1), .str [], iD 0, X4 l]
def Field.enc (f : Field) : D := .agg [.str f.name, f.type.enc, .agg (f.weights.map iD)]
def Depend.enc (d : Depend) : D := .agg [X4 d.names, .str d.name, .nils, iD 0]
def UnitT.enc (u : UnitT) : D := match u.of_ with
 | none => .agg [.str u.name, .str [], iD 0, iD 0, iD 0]
 | some x => .agg [.str u.name, .str x.2, iD x.1, iD 0, iD 0]
def Schema.enc (s : Schema) : D := .agg [.str s.name, .str s.by_, iD 0, iD s.version, .list 11 (s.fields.map Field.enc), .list 4 (s.depends.map Depend.enc)]
def Rule.enc (r : Rule) : D := .agg [.str r.head, iD 0, .list 8 (r.froms.map From.enc), .list 11 (r.wheres.map Atom.enc), .list 7 (r.sets.map SetT.enc)]
def Convert.enc (c : Convert) : D := .agg [.str c.from_, .str c.to_, iD 0, iD 0, .list 5 (c.moves.map Move.enc)]
def Purpose.enc (p : Purpose) : D := .agg [.str p.name, .list 4 (p.may.map Ref.enc), iD p.most]

def Xh1 : M (B × B) := do let a ← X5; X0 [46]; let b ← X5; pure (a, b)
def Xbk : M Term := fun ts => if Xf 2 [] ts then (do let n ← Xv 0 1048576; pure (.num n) : M Term) ts else (do let x ← Xh1; pure (.path x.1 x.2) : M Term) ts
def Z2 : M From := do
 X7 [102, 114, 111, 109]
 let a ← X5
 let b ← X5
 let c ← Xo 1 [111, 102]
 if c then do let x ← Xh1; X0 [59]; pure ⟨a, b, some x⟩ else do X0 [59]; pure ⟨a, b, none⟩
def opM : M Int := do
 let b ← Xo 3 [61]
 if b then pure 1 else do
  let b ← Xo 3 [60]
  if b then do
   let b ← Xo 3 [61]
   pure (if b then 3 else 2)
  else do X0 [33]; X0 [61]; pure 4
def Uu : M Atom := do
 X7 [119, 104, 101, 114, 101]
 let a ← Xbk
 let o ← opM
 let b ← Xbk
 X0 [59]
 pure ⟨o, a, b⟩
def Xr1 : M SetT := do X7 [115, 101, 116]; let a ← X5; X0 [61]; let t ← Xbk; X0 [59]; pure ⟨a, t⟩
def Xd8 : M Int := do
 let b ← Xo 3 [43]
 if b then Xv 0 1048576 else do
  let b ← Xo 3 [45]
  if b then do let n ← Xv 0 1048576; pure (-n) else pure 0
def Xdl : M Move := do let a ← X5; X0 [61]; let b ← X5; let n ← Xd8; X0 [59]; pure ⟨a, b, n⟩
def Xww : M Ref := do X7 [109, 97, 121]; let x ← Xh1; X0 [59]; pure ⟨x.1, x.2⟩
def Xei : Nat → M (List Int)
 | 0 => pure []
 | n + 1 => do let a ← Xv 0 9; let l ← Xei n; pure (a :: l)
def Vl : M (List Int) := Xei 4
def W6 (most : Nat) : M (List B) := do let a ← X5; let l ← Xp (Xf 3 [44]) (do X0 [44]; X5) (most - 1); pure (a :: l)
def Xlo : M TypeT := do
 let b ← Xo 1 [110, 117, 109, 98, 101, 114]
 if b then do
  let lo ← Xv 0 1048576
  X7 [116, 111]
  let hi ← Xv 0 1048576
  let b ← Xo 1 [105, 110]
  if b then do let n ← X5; pure (.num lo hi (some n)) else pure (.num lo hi none)
 else do
  let b ← Xo 1 [100, 97, 116, 101]
  if b then pure .date else do
   let b ← Xo 1 [112, 101, 114, 115, 111, 110]
   if b then pure .person else do
    let b ← Xo 1 [99, 104, 111, 105, 99, 101]
    if b then do let l ← W6 16; pure (.choice l) else fail 100
def Uj : M Field := do X7 [102, 105, 101, 108, 100]; let n ← X5; X0 [58]; let t ← Xlo; let w ← Vl; X0 [59]; pure ⟨n, t, w⟩
def Uf : M Depend := do X7 [100, 101, 112, 101, 110, 100]; let l ← W6 11; X7 [103, 105, 118, 101]; let n ← X5; X0 [59]; pure ⟨l, n⟩

def Uq (s : Src) : M Src := do
 Ym s.issuers.length 8
 X7 [105, 115, 115, 117, 101, 114]
 let a ← X5
 X0 [59]
 pure { s with issuers := s.issuers ++ [a] }
def Xhf (s : Src) : M Src := do
 Ym s.units.length 16
 X7 [117, 110, 105, 116]
 let a ← X5
 let b ← Xo 3 [61]
 if b then do
  let n ← Xv 2 1000
  let o ← X5
  X0 [59]
  pure { s with units := s.units ++ [⟨a, some (n, o)⟩] }
 else do
  X0 [59]
  pure { s with units := s.units ++ [⟨a, none⟩] }
def Xau : Nat → Schema → M Schema
 | 0, _ => fail 0
 | n + 1, s => do
  let b ← Xo 3 [125]
  if b then pure s else (ifM (Xf 1 [102, 105, 101, 108, 100]) (do Ym s.fields.length 12; let f ← Uj; Xau n { s with fields := s.fields ++ [f] }) (ifM (Xf 1 [100, 101, 112, 101, 110, 100]) (do Ym s.depends.length 8; let d ← Uf; Xau n { s with depends := s.depends ++ [d] }) (fail 100)))
def Ur (s : Src) : M Src := do
 Ym s.schemas.length 16
 X7 [115, 99, 104, 101, 109, 97]
 let a ← X5
 X7 [98, 121]
 let b ← X5
 X7 [118, 101, 114, 115, 105, 111, 110]
 let v ← Xv 1 255
 X7 [115, 101, 108, 102]
 let w ← Vl
 X0 [123]
 let x ← Xau 21 ⟨a, b, v, [⟨[115, 101, 108, 102], .person, w⟩], []⟩
 pure { s with schemas := s.schemas ++ [x] }
def Xhp (s : Src) : M Src := do
 Ym s.rules.length 16
 X7 [100, 101, 114, 105, 118, 101]
 let a ← X5
 X0 [123]
 ifM (Xf 1 [102, 114, 111, 109]) (do
  let f ← Xp (Xf 1 [102, 114, 111, 109]) Z2 3
  let w ← Xp (Xf 1 [119, 104, 101, 114, 101]) Uu 8
  let t ← Xp (Xf 1 [115, 101, 116]) Xr1 11
  X0 [125]
  pure { s with rules := s.rules ++ [⟨a, f, w, t⟩] }) (fail 100)
def W2 (s : Src) : M Src := do
 Ym s.converts.length 16
 X7 [99, 111, 110, 118, 101, 114, 116]
 let a ← X5
 X7 [116, 111]
 let b ← X5
 X0 [123]
 let l ← Xp (Xf 1 []) Xdl 11
 X0 [125]
 pure { s with converts := s.converts ++ [⟨a, b, l⟩] }
def We (s : Src) : M Src := do
 Ym s.purposes.length 8
 X7 [112, 117, 114, 112, 111, 115, 101]
 let a ← X5
 X0 [123]
 let l ← Xp (Xf 1 [109, 97, 121]) Xww 32
 X7 [109, 111, 115, 116]
 let n ← Xv 0 32
 X0 [59]
 X0 [125]
 pure { s with purposes := s.purposes ++ [⟨a, l, n⟩] }

def atI (en : Int) : List Tok → Int
 | [] => en
 | x :: _ => x.at_
def Xch (ts : List Tok) (e : Int) : Int := match ts with
 | [] => 100
 | _ => e
abbrev pv (ts : List Tok) (en : Int) (S : V) : V := .agg [.d (.list 4 (ts.map Tok.enc)), .d (.int .i64 en), S]
abbrev Qb (en : Int) (ts : List Tok) (e : Int) : D := .iface 60 (.agg [.int .i64 (atI en ts), .int .i64 (Xch ts e)])
abbrev pb (ts : List Tok) (en : Int) (S : V) : Ob := .box 66 (pv ts en S)
def PK {α : Type} (K : Out → Objs → Prop) (ob : Objs) (p : Nat) (en : Int) (S : V) (v : α → V) : R α → Prop
 | .ok a ts => K (.ret (v a)) (setO ob p (pb ts en S))
 | .err ts e => K (.panic (.d (Qb en ts e))) (setO ob p (pb ts en S))
section
variable {α β : Type} {K : Out → Objs → Prop} {ob : Objs} {p : Nat} {en : Int} {S : V} {v : α → V}
@[simp] theorem PK_ok (a : α) (ts : List Tok) : PK K ob p en S v (.ok a ts) = K (.ret (v a)) (setO ob p (pb ts en S)) := rfl
@[simp] theorem PK_err (e : Int) (ts : List Tok) : PK K ob p en S v (.err ts e) = K (.panic (.d (Qb en ts e))) (setO ob p (pb ts en S)) := rfl
theorem PK.bind {K' : Out → Objs → Prop} {ob1 : Objs} {v' : β → V} {m : M α} {f : α → M β} {ts : List Tok} (h : PK K ob p en S v' ((m >>= f) ts))
  (he : ∀ ts' e, K (.panic (.d (Qb en ts' e))) (setO ob p (pb ts' en S)) → K' (.panic (.d (Qb en ts' e))) (setO ob1 p (pb ts' en S)))
  (hk : ∀ a ts', m ts = .ok a ts' → PK K ob p en S v' (f a ts') → K' (.ret (v a)) (setO ob1 p (pb ts' en S))) : PK K' ob1 p en S v (m ts) := by
 rw [Xd] at h
 cases hm : m ts with
 | ok a ts' => rw [hm] at h; exact hk a ts' hm h
 | err ts' e => rw [hm] at h; exact he ts' e h
end
theorem PK.tail {α : Type} {K K' : Out → Objs → Prop} {ob ob1 : Objs} {p : Nat} {en : Int} {S : V} {v : α → V} {v' : α → V} {m : M α} {ts : List Tok} (h : PK K ob p en S v' (m ts))
  (he : ∀ ts' e, K (.panic (.d (Qb en ts' e))) (setO ob p (pb ts' en S)) → K' (.panic (.d (Qb en ts' e))) (setO ob1 p (pb ts' en S)))
  (hk : ∀ a ts', m ts = .ok a ts' → K (.ret (v' a)) (setO ob p (pb ts' en S)) → K' (.ret (v a)) (setO ob1 p (pb ts' en S))) : PK K' ob1 p en S v (m ts) := by
 cases hm : m ts with
 | ok a ts' => rw [hm] at h; exact hk a ts' hm h
 | err ts' e => rw [hm] at h; exact he ts' e h
theorem Yw {q : Nat → Bool} : ∀ {ob : Objs} {k E : Nat} {v : V}, noMenO q ob = true → lookO ob k = some (.box E v) → V.men q v = false
 | (j, o) :: r, k, E, v, h, hl => by
  simp only [lookO] at hl
  split at hl
  ·cases hl
   simp only [noMenO, Bool.and_eq_true, Bool.not_eq_true'] at h
   exact h.1
  ·refine Yw (ob := r) ?_ hl
   cases o <;> simp_all [noMenO]
theorem Ye : ∀ {ob : Objs} {k : Nat} {o : Ob}, lookO ob k = some o → setO ob k o = ob
 | (j, o') :: r, k, o, h => by
  simp only [lookO] at h
  simp only [setO]
  split
  ·rename_i e; simp [e] at h; subst h; rfl
  ·rename_i e; rw [Ye (by simpa [e] using h)]
@[simp] theorem succ_ne (n : Nat) : ((n : Int) + 1 = 0) = False := by simp; omega
@[simp] theorem one_le_succ (n : Nat) : (1 ≤ (n : Int) + 1) = True := by simp; omega
@[simp] theorem ex3 (a b n : Nat) (c : List D) : (∃ E z xs, (a = E ∧ b = z ∧ c = xs) ∧ n = xs.length) = (n = c.length) := by
 rw [eq_iff_iff]
 exact ⟨fun ⟨_, _, _, ⟨_, _, h3⟩, h4⟩ => h3 ▸ h4, fun h => ⟨_, _, _, ⟨rfl, rfl, rfl⟩, h⟩⟩
@[simp] theorem add11 (n : Nat) : n + 1 + 1 = n + 2 := rfl
@[simp] theorem add21 (n : Nat) : n + 2 + 1 = n + 3 := rfl
@[simp] theorem add31 (n : Nat) : n + 3 + 1 = n + 4 := rfl
@[simp] theorem add41 (n : Nat) : n + 4 + 1 = n + 5 := rfl
@[simp] theorem add51 (n : Nat) : n + 5 + 1 = n + 6 := rfl
@[simp] theorem add61 (n : Nat) : n + 6 + 1 = n + 7 := rfl
@[simp] theorem add71 (n : Nat) : n + 7 + 1 = n + 8 := rfl
@[simp] theorem add12 (n : Nat) : n + 1 + 2 = n + 3 := rfl
@[simp] theorem add22 (n : Nat) : n + 2 + 2 = n + 4 := rfl
theorem Xmv {ob : Objs} {k : Nat} {o : Ob} (h : lookO ob k = some o) : k < fresh ob := by
 rcases Nat.lt_or_ge k (fresh ob) with h1 | h1
 ·exact h1
 ·rw [Yd ob k h1] at h; cases h
theorem Xb {ob ob2 : Objs} {p : Nat} {ts ts' : List Tok} {en : Int} {S : V} (hp : lookO ob p = some (pb ts en S)) (hm : ∀ kp, noMenO (young (fresh ob) kp) ob = true) {K : Objs → Prop} {vs : List V} (h : K (setO ob p (pb ts' en S))) (hv : V.mens (young (fresh ob) []) vs = false) (hd : Z6 (young (fresh ob) []) ob2 = setO ob p (pb ts' en S)) : Ys (fresh ob) K vs ob2 := by
 refine ⟨[], hv, ?_, ?_⟩
 ·rw [hd]
  refine noMenO_set_box _ _ _ _ _ (hm _) ?_
  have := Yw (hm []) hp
  simpa [pv] using this
 ·rw [hd]; exact h
@[simp] theorem Term.enc_shape (t : Term) : t.enc.shape = .node [.leaf, .leaf, .leaf, .leaf, .leaf] := by cases t <;> simp [Term.enc, D.shape]
@[simp] theorem TypeT.enc_shape (t : TypeT) : t.enc.shape = .node [.leaf, .leaf, .leaf, .leaf, .leaf, .leaf] := by cases t <;> simp [TypeT.enc, X4, D.shape]
theorem Xn9 : ∀ {n : Nat} {ts ts' : List Tok} {l : List Int}, Xei n ts = .ok l ts' → l.length = n
 | 0, ts, ts', l, h => by cases h; rfl
 | n + 1, ts, ts', l, h => by
  simp only [Xei, Xd] at h
  cases h1 : Xv 0 9 ts with
  | err a b => rw [h1] at h; cases h
  | ok a t1 =>
   rw [h1] at h
   cases h2 : Xei n t1 with
   | err a b => simp only [h2] at h; cases h
   | ok l' t2 =>
    simp only [h2] at h
    cases h
    simp [Xn9 h2]
theorem Un {ts ts' : List Tok} {l : List Int} (h : Vl ts = .ok l ts') : ∃ a b c d, l = [a, b, c, d] := by
 have := Xn9 h
 match l, this with
 | [a, b, c, d], _ => exact ⟨a, b, c, d, rfl⟩
theorem Xb9 {α : Type} {begins : List Tok → Bool} {read : M α} : ∀ {n : Nat} {ts ts' : List Tok} {l : List α}, Xp begins read n ts = .ok l ts' → l.length ≤ n
 | 0, ts, ts', l, h => by
  simp only [Xp] at h
  split at h
  ·cases h
  ·cases h; simp
 | n + 1, ts, ts', l, h => by
  simp only [Xp] at h
  split at h
  ·simp only [Xd] at h
   cases h1 : read ts with
   | err a b => rw [h1] at h; cases h
   | ok a t1 =>
    rw [h1] at h
    cases h2 : Xp begins read n t1 with
    | err a b => simp only [h2] at h; cases h
    | ok l' t2 =>
     simp only [h2] at h
     cases h
     have := Xb9 h2
     simpa using this
  ·cases h; simp
theorem Xji {n : Nat} {ts ts' : List Tok} {l : List B} (h : W6 n ts = .ok l ts') : 1 ≤ l.length ∧ l.length ≤ n - 1 + 1 := by
 simp only [W6, Xd] at h
 cases h1 : X5 ts with
 | err a b => rw [h1] at h; cases h
 | ok a t1 =>
  rw [h1] at h
  cases h2 : Xp (Xf 3 [44]) (do X0 [44]; X5) (n - 1) t1 with
  | err a b => simp only [h2] at h; cases h
  | ok l' t2 =>
   simp only [h2] at h
   cases h
   have := Xb9 h2
   simpa using this
@[simp] theorem From.enc_shape (f : From) : f.enc.shape = .node [.leaf, .leaf, .leaf, .node [.leaf, .leaf, .leaf, .leaf, .leaf]] := by
 obtain ⟨a, b, c⟩ := f
 cases c <;> simp [From.enc, D.shape]
@[simp] theorem Atom.enc_shape (f : Atom) : f.enc.shape = .node [.leaf, .node [.leaf, .leaf, .leaf, .leaf, .leaf], .node [.leaf, .leaf, .leaf, .leaf, .leaf]] := by simp [Atom.enc, D.shape]
@[simp] theorem SetT.enc_shape (f : SetT) : f.enc.shape = .node [.leaf, .leaf, .node [.leaf, .leaf, .leaf, .leaf, .leaf]] := by simp [SetT.enc, D.shape]
@[simp] theorem Move.enc_shape (f : Move) : f.enc.shape = .node [.leaf, .leaf, .leaf, .leaf, .leaf] := by simp [Move.enc, D.shape]
@[simp] theorem Ref.enc_shape (f : Ref) : f.enc.shape = .node [.leaf, .leaf, .leaf, .leaf] := by simp [Ref.enc, D.shape]
abbrev Yp (s : Src) : V := .agg [.sl 5 s.issuers.length, .sl 6 s.units.length, .sl 7 s.schemas.length, .sl 8 s.rules.length, .sl 9 s.converts.length, .sl 10 s.purposes.length]
abbrev Yfm : Ob := .map [(.str [105, 115, 115, 117, 101, 114], .fn 19 [] []), (.str [117, 110, 105, 116], .fn 20 [] []), (.str [115, 99, 104, 101, 109, 97], .fn 21 [] []), (.str [100, 101, 114, 105, 118, 101], .fn 22 [] []), (.str [99, 111, 110, 118, 101, 114, 116], .fn 23 [] []), (.str [112, 117, 114, 112, 111, 115, 101], .fn 24 [] [])]
abbrev Ua : D := .agg [.nils, .nils, .nils, .nils, .nils, .nils]
abbrev stO (en : Int) (ts : List Tok) (s : Src) : Objs :=
 [(10, .arr 88 3 (s.purposes.map Purpose.enc)), (9, .arr 84 5 (s.converts.map Convert.enc)), (8, .arr 50 5 (s.rules.map Rule.enc)), (7, .arr 79 6 (s.schemas.map Schema.enc)), (6, .arr 74 5 (s.units.map UnitT.enc)), (5, .arr 9 1 (s.issuers.map D.str)),
  (4, pb ts en (Yp s)), (3, Yfm), (2, .box 31 (.d (.int .i64 0))), (1, .box 3 (.d (.int .i64 0))), (0, .box 30 (.d Ua))]
def PS (K : Out → Objs → Prop) (en : Int) : R Src → Prop
 | .ok s ts => K (.ret (.tup [])) (stO en ts s)
 | .err ts e => ∀ s, K (.panic (.d (Qb en ts e))) (stO en ts s)
theorem PS.bind {α : Type} {K K' : Out → Objs → Prop} {en : Int} {S : V} {ob1 : Objs} {v : α → V} {m : M α} {f : α → M Src} {ts : List Tok} (h : PS K en ((m >>= f) ts))
  (he : ∀ ts' e, (∀ s, K (.panic (.d (Qb en ts' e))) (stO en ts' s)) → K' (.panic (.d (Qb en ts' e))) (setO ob1 4 (pb ts' en S)))
  (hk : ∀ a ts', m ts = .ok a ts' → PS K en (f a ts') → K' (.ret (v a)) (setO ob1 4 (pb ts' en S))) : PK K' ob1 4 en S v (m ts) := by
 rw [Xd] at h
 cases hm : m ts with
 | ok a ts' => rw [hm] at h; exact hk a ts' hm h
 | err ts' e => rw [hm] at h; exact he ts' e h
theorem Xj {en : Int} {ts : List Tok} {s : Src} {K : Objs → Prop} {vs : List V} {ob2 : Objs} (h : K (stO en ts s)) (hv : V.mens (young 11 []) vs = false) (hd : Z6 (young 11 []) ob2 = stO en ts s) : Ys 11 K vs ob2 := by
 refine ⟨[], hv, ?_, ?_⟩
 ·rw [hd]; simp [young, Qa]
 ·rw [hd]; exact h
structure Few (s : Src) : Prop where
 issuers : s.issuers.length ≤ 8
 units : s.units.length ≤ 16
 schemas : s.schemas.length ≤ 16
 rules : s.rules.length ≤ 16
 converts : s.converts.length ≤ 16
 purposes : s.purposes.length ≤ 8
end Go.Sx
/- Contracts: the parser's small readers. Condition: the program is the seat's. -/
namespace Go.Proofs.YtanpgmgkmfckaaaGreatDoor
open Go Go.Ab Go.Lx Go.Sx
set_option maxRecDepth 100000
section
variable {P : Prg} (hP : P.p = Tryz.prog) {ob : Objs} {p : Nat} {ts : List Tok} {en : Int} {S : V} (hS : V.allD [S] = none) (hp : lookO ob p = some (pb ts en S)) {K : Out → Objs → Prop}
include hP hS hp
theorem Ws (e : Int) (h : K (.panic (.d (Qb en ts e))) (setO ob p (pb ts en S))) : ACall P 25 [.ptr p [], .d (.int .i64 e)] ob K := by
 refine acall_lift hP mixed Ysb Yrg TOk.nil fun _ hm => ?_
 cases ts with
 | nil =>
  simp [Yhk, hp]
  exact Xb hp hm (by simpa [Qb, atI, Xch] using h) (by simp) (by simp [Ye hp])
 | cons t ts =>
  simp [Yhk, X2q, hp, Tok.enc]
  exact Xb hp hm (by simpa [Qb, atI, Xch] using h) (by simp) (by simp [Ye hp])
theorem Jw (k : Int) (t : B) (h : K (.ret (.d (.bool (Xf k t ts)))) (setO ob p (pb ts en S))) : ACall P 65 [.ptr p [], .d (.int .i64 k), .d (.str t)] ob K := by
 refine acall_lift hP mixed Yn3 Ynp TOk.nil fun _ hm => ?_
 cases ts with
 | nil =>
  simp [Yln, hp]
  exact Xb hp hm (by simpa [Xf] using h) (by simp) (by simp [Ye hp])
 | cons x ts =>
  simp [Yln, hp, Tok.enc]
  exact Xb hp hm (by simpa [Xf] using h) (by simp) (by simp [Ye hp])
theorem Xoi (k : Int) (t : B) (h : PK K ob p en S (fun t => .d t.enc) (Wf k t ts)) : ACall P 133 [.ptr p [], .d (.int .i64 k), .d (.str t)] ob K := by
 refine acall_lift hP mixed Yfq Yem TOk.nil fun _ hm => ?_
 simp [Yfw, hp]
 refine Jw hP hS (ts := ts) (en := en) (S := S) (by simp [hp]) _ _ ?_
 simp [hp]
 refine ⟨fun hn => ?_, fun hn => ?_⟩
 ·simp [Wf, hn] at h
  refine Ws hP hS (ts := ts) (en := en) (S := S) (by simp [hp]) _ ?_
  simp [hp]
  exact Xb hp hm h (by simp) (by simp [hp])
 ·cases ts with
  | nil => simp [Xf] at hn
  | cons x ts =>
   simp [Wf, hn] at h
   simp [Xx4, hp, hS, Tok.enc]
   exact Xb hp hm h (by simp) (by simp [hp])
theorem Y3 (h : PK K ob p en S (fun t => .d (.str t)) (X5 ts)) : ACall P 60 [.ptr p []] ob K := by
 refine acall_lift hP mixed Yqj Ynx TOk.nil fun _ hm => ?_
 simp [Ynd, hp]
 refine Xoi hP hS hp _ _ ?_
 refine PK.bind h (fun ts' e h => ?_) (fun a ts' ha h => ?_)
 ·simp
  exact Xb hp hm h (by simp) (by simp [hp])
 ·simp [Tok.enc]
  exact Xb hp hm h (by simp) (by simp [hp])
theorem Zf (t : B) (h : PK K ob p en S (fun _ => .tup []) (X7 t ts)) : ACall P 59 [.ptr p [], .d (.str t)] ob K := by
 refine acall_lift hP mixed Yqx Yop TOk.nil fun _ hm => ?_
 simp [Yr7, hp]
 refine Xoi hP hS hp _ _ ?_
 refine PK.bind h (fun ts' e h => ?_) (fun a ts' ha h => ?_)
 ·simp
  exact Xb hp hm h (by simp) (by simp [hp])
 ·simp [Tok.enc]
  exact Xb hp hm h (by simp) (by simp [hp])
theorem Yb (t : B) (h : PK K ob p en S (fun _ => .tup []) (X0 t ts)) : ACall P 61 [.ptr p [], .d (.str t)] ob K := by
 refine acall_lift hP mixed Yrd Ynw TOk.nil fun _ hm => ?_
 simp [Yp5, hp]
 refine Xoi hP hS hp _ _ ?_
 refine PK.bind h (fun ts' e h => ?_) (fun a ts' ha h => ?_)
 ·simp
  exact Xb hp hm h (by simp) (by simp [hp])
 ·simp [Tok.enc]
  exact Xb hp hm h (by simp) (by simp [hp])
theorem Yx (k : Int) (t : B) (h : PK K ob p en S (fun b => .d (.bool b)) (Xo k t ts)) : ACall P 62 [.ptr p [], .d (.int .i64 k), .d (.str t)] ob K := by
 refine acall_lift hP mixed Yo9 Ym5 TOk.nil fun _ hm => ?_
 simp [Ynb, hp]
 refine Jw hP hS hp _ _ ?_
 simp [hp]
 refine ⟨fun hn => ?_, fun hn => ?_⟩
 ·simp [Xo, hn] at h
  exact Xb hp hm h (by simp) (by simp [hp])
 ·cases ts with
  | nil => simp [Xf] at hn
  | cons x ts =>
   simp [Xo, hn] at h
   simp [hp, hS]
   exact Xb hp hm h (by simp) (by simp [hp])
theorem Xa5 (many most : Nat) (h : PK K ob p en S (fun _ => .tup []) (Ym many most ts)) : ACall P 58 [.ptr p [], .d (.int .i64 many), .d (.int .i64 most)] ob K := by
 refine acall_lift hP mixed Ypp Yru TOk.nil fun _ hm => ?_
 simp [Ym7, hp]
 refine ⟨fun hn => ?_, fun hn => ?_⟩
 ·simp [Ym, show many = most by omega] at h
  refine Ws hP hS hp _ ?_
  simp
  exact Xb hp hm h (by simp) (by simp [hp])
 ·simp [Ym, show many ≠ most by omega] at h
  exact Xb hp hm h (by simp) (by simp [Ye hp])
end
end Go.Proofs.YtanpgmgkmfckaaaGreatDoor
/- Contracts: the parser's readers of parts. Condition: the program is the seat's, and its intervals are laid. -/
namespace Go.Proofs.YtanpgmgkmfckaaaGreatDoor
open Go Go.Ab Go.Lx Go.Sx
set_option maxRecDepth 100000
attribute [local simp ↓] ql qn qo qi qh qj qk qm zs zp zr zt zq zl zm zk zo zn qq qp qw qx zg qy qv qr zh qu qt qs qz zb za zd ze zf zw zu zy zx qb qa qd qc qe qg qf zj zi
structure Ivl (P : Prg) : Prop where
 factors : GlobIs P 0 (.agg [.int .i64 2, .int .i64 1000])
 editions : GlobIs P 1 (.agg [.int .i64 1, .int .i64 255])
 mosts : GlobIs P 2 (.agg [.int .i64 0, .int .i64 32])
 weights : GlobIs P 3 (.agg [.int .i64 0, .int .i64 9])
 anyN : GlobIs P 4 (.agg [.int .i64 0, .int .i64 1048576])
section
variable {P : Prg} (hP : P.p = Tryz.prog)
include hP
theorem Yfr (lo hi n : Int) {ob : Objs} {K : V → Prop} (h : K (.d (.bool (decide (lo ≤ n) && decide (n ≤ hi))))) : PCall P 134 [.d (.agg [.int .i64 lo, .int .i64 hi]), .d (.int .i64 n)] ob K := by
 refine pcall_lift hP mixed (ds := [.agg [.int .i64 lo, .int .i64 hi], .int .i64 n]) Ygs Ye2 TOk.nil ?_
 simp [Ydb]
 simpa using h
variable {ob : Objs} {p : Nat} {ts : List Tok} {en : Int} {S : V} (hS : V.allD [S] = none) (hp : lookO ob p = some (pb ts en S)) {K : Out → Objs → Prop}
include hS hp
theorem Y8 (lo hi : Int) (h : PK K ob p en S (fun n => .d (.int .i64 n)) (Xv lo hi ts)) : ACall P 63 [.ptr p [], .d (.agg [.int .i64 lo, .int .i64 hi])] ob K := by
 refine acall_lift hP mixed Yor Yq8 TOk.nil fun _ hm => ?_
 simp [Ysh, hp, hS]
 refine Jw hP hS (ts := ts) (en := en) (S := S) (by simp [hp]) _ _ ?_
 cases hn : Xf 2 [] ts with
 | false =>
  simp [Xv, hn] at h
  simp [hp, hS]
  refine Ws hP hS (ts := ts) (en := en) (S := S) (by simp [hp]) _ ?_
  simp [hp, hS]
  exact Xb hp hm h (by simp) (by simp [hp])
 | true =>
  cases ts with
  | nil => simp [Xf] at hn
  | cons x ts =>
   simp [hp, hS, Tok.enc]
   refine Yfr hP _ _ _ ?_
   by_cases hr : lo ≤ x.n ∧ x.n ≤ hi
   ·simp [Xv, hn, hr] at h
    simp [hr, X2o, hp, hS]
    refine Xoi hP hS (ts := x :: ts) (en := en) (S := S) (by simp [hp, Tok.enc]) _ _ ?_
    simp [Wf, hn, hp, hS, Tok.enc]
    exact Xb hp hm h (by simp) (by simp [hp])
   ·have hr' : (decide (lo ≤ x.n) && decide (x.n ≤ hi)) = false := by simpa using hr
    simp [Xv, hn, Bool.and_assoc, hr'] at h
    simp only [hr']
    simp [hp, hS]
    refine Ws hP hS (ts := x :: ts) (en := en) (S := S) (by simp [hp, Tok.enc]) _ ?_
    simp [hp, hS, Tok.enc]
    exact Xb hp hm h (by simp) (by simp [hp, Tok.enc])
theorem Xrp (h : PK K ob p en S (fun x => .tup [.d (.str x.1), .d (.str x.2)]) (Xh1 ts)) : ACall P 138 [.ptr p []] ob K := by
 refine acall_lift hP mixed Yd0 Yc4 TOk.nil fun _ hm => ?_
 simp [Ye5, hp, hS]
 refine Y3 hP hS (by simp [hp]) (PK.bind h (fun ts' e h => ?_) (fun a ts' ha h => ?_))
 ·simp
  exact Xb hp hm h (by simp) (by simp [hp])
 simp [hp, hS]
 refine Yb hP hS (by simp [hp]) _ (PK.bind h (fun ts' e h => ?_) (fun a ts' ha h => ?_))
 ·simp
  exact Xb hp hm h (by simp) (by simp [hp])
 simp [hp, hS]
 refine Y3 hP hS (by simp [hp]) (PK.bind h (fun ts' e h => ?_) (fun a ts' ha h => ?_))
 ·simp
  exact Xb hp hm h (by simp) (by simp [hp])
 simp [hp, hS]
 exact Xb hp hm h (by simp) (by simp [hp])
theorem X7i (hI : Ivl P) (h : PK K ob p en S (fun x => .d x.enc) (Xdl ts)) : ACall P 76 [.ptr p []] ob K := by
 refine acall_lift hP mixed Ysd Yox TOk.nil fun _ hm => ?_
 simp [Yoa, hp, hS, hI.factors, hI.editions, hI.mosts, hI.weights, hI.anyN]
 refine Y3 hP hS (by simp [hp]) (PK.bind h (fun ts' e h => ?_) (fun a ts' ha h => ?_))
 ·simp
  exact Xb hp hm h (by simp) (by simp [hp])
 simp [hp, hS, hI.factors, hI.editions, hI.mosts, hI.weights, hI.anyN]
 refine Yb hP hS (by simp [hp]) _ (PK.bind h (fun ts' e h => ?_) (fun a ts' ha h => ?_))
 ·simp
  exact Xb hp hm h (by simp) (by simp [hp])
 simp [hp, hS, hI.factors, hI.editions, hI.mosts, hI.weights, hI.anyN]
 refine Y3 hP hS (by simp [hp]) (PK.bind h (fun ts' e h => ?_) (fun a ts' ha h => ?_))
 ·simp
  exact Xb hp hm h (by simp) (by simp [hp])
 simp [hp, hS, hI.factors, hI.editions, hI.mosts, hI.weights, hI.anyN]
 rw [Xd8, Xx] at h
 refine Yx hP hS (by simp [hp]) _ _ (PK.bind h (fun ts' e h => ?_) (fun a ts' ha h => ?_))
 ·simp
  exact Xb hp hm h (by simp) (by simp [hp])
 cases a
 ·skip
  simp only [Bool.false_eq_true, if_false, if_true, Xx, Yi] at h
  simp [hp, hS, hI.factors, hI.editions, hI.mosts, hI.weights, hI.anyN]
  refine Yx hP hS (by simp [hp]) _ _ (PK.bind h (fun ts' e h => ?_) (fun a ts' ha h => ?_))
  ·simp
   exact Xb hp hm h (by simp) (by simp [hp])
  cases a
  ·skip
   simp only [Bool.false_eq_true, if_false, if_true, Xx, Yi] at h
   simp [hp, hS, hI.factors, hI.editions, hI.mosts, hI.weights, hI.anyN, Xi6]
   refine Yb hP hS (by simp [hp]) _ (PK.bind h (fun ts' e h => ?_) (fun a ts' ha h => ?_))
   ·simp
    exact Xb hp hm h (by simp) (by simp [hp])
   simp [hp, hS, hI.factors, hI.editions, hI.mosts, hI.weights, hI.anyN]
   exact Xb hp hm h (by simp) (by simp [hp])
  ·skip
   simp only [Bool.false_eq_true, if_false, if_true, Xx, Yi] at h
   simp [hp, hS, hI.factors, hI.editions, hI.mosts, hI.weights, hI.anyN]
   refine Y8 hP hS (by simp [hp]) _ _ (PK.bind h (fun ts' e h => ?_) (fun a ts' ha h => ?_))
   ·simp
    exact Xb hp hm h (by simp) (by simp [hp])
   simp [hp, hS, hI.factors, hI.editions, hI.mosts, hI.weights, hI.anyN, Xi6]
   have hw : IntKind.i64.wrap (-a) = -a := by have := Xd3 ha; exact IntWalk.i64_in _ (by omega)
   simp only [hw]
   refine Yb hP hS (by simp [hp]) _ (PK.bind h (fun ts' e h => ?_) (fun a ts' ha h => ?_))
   ·simp
    exact Xb hp hm h (by simp) (by simp [hp])
   simp [hp, hS, hI.factors, hI.editions, hI.mosts, hI.weights, hI.anyN]
   exact Xb hp hm h (by simp) (by simp [hp])
 ·skip
  simp only [Bool.false_eq_true, if_false, if_true, Xx, Yi] at h
  simp [hp, hS, hI.factors, hI.editions, hI.mosts, hI.weights, hI.anyN]
  refine Y8 hP hS (by simp [hp]) _ _ (PK.bind h (fun ts' e h => ?_) (fun a ts' ha h => ?_))
  ·simp
   exact Xb hp hm h (by simp) (by simp [hp])
  simp [hp, hS, hI.factors, hI.editions, hI.mosts, hI.weights, hI.anyN, Xi6]
  refine Yb hP hS (by simp [hp]) _ (PK.bind h (fun ts' e h => ?_) (fun a ts' ha h => ?_))
  ·simp
   exact Xb hp hm h (by simp) (by simp [hp])
  simp [hp, hS, hI.factors, hI.editions, hI.mosts, hI.weights, hI.anyN]
  exact Xb hp hm h (by simp) (by simp [hp])
theorem Yfh (h : PK K ob p en S (fun x => .d x.enc) (Xww ts)) : ACall P 78 [.ptr p []] ob K := by
 refine acall_lift hP mixed Ym3 Yrs TOk.nil fun _ hm => ?_
 simp [Yrt, hp, hS]
 refine Zf hP hS (by simp [hp]) _ (PK.bind h (fun ts' e h => ?_) (fun a ts' ha h => ?_))
 ·simp
  exact Xb hp hm h (by simp) (by simp [hp])
 simp [hp, hS]
 refine Xrp hP hS (by simp [hp]) (PK.bind h (fun ts' e h => ?_) (fun a ts' ha h => ?_))
 ·simp
  exact Xb hp hm h (by simp) (by simp [hp])
 simp [hp, hS]
 refine Yb hP hS (by simp [hp]) _ (PK.bind h (fun ts' e h => ?_) (fun a ts' ha h => ?_))
 ·simp
  exact Xb hp hm h (by simp) (by simp [hp])
 simp [hp, hS]
 exact Xb hp hm h (by simp) (by simp [hp])
theorem Ybr (h : PK K ob p en S (fun x => .d x.enc) (Z2 ts)) : ACall P 70 [.ptr p []] ob K := by
 refine acall_lift hP mixed Yrr Yqt TOk.nil fun _ hm => ?_
 simp [Yoq, hp, hS]
 refine Zf hP hS (by simp [hp]) _ (PK.bind h (fun ts' e h => ?_) (fun a ts' ha h => ?_))
 ·simp
  exact Xb hp hm h (by simp) (by simp [hp])
 simp [hp, hS]
 refine Y3 hP hS (by simp [hp]) (PK.bind h (fun ts' e h => ?_) (fun a ts' ha h => ?_))
 ·simp
  exact Xb hp hm h (by simp) (by simp [hp])
 simp [hp, hS]
 refine Y3 hP hS (by simp [hp]) (PK.bind h (fun ts' e h => ?_) (fun a ts' ha h => ?_))
 ·simp
  exact Xb hp hm h (by simp) (by simp [hp])
 simp [hp, hS]
 refine Yx hP hS (by simp [hp]) _ _ (PK.bind h (fun ts' e h => ?_) (fun a ts' ha h => ?_))
 ·simp
  exact Xb hp hm h (by simp) (by simp [hp])
 cases a
 ·skip
  simp only [Bool.false_eq_true, if_false, if_true, Xx, Yi] at h
  simp [hp, hS, Xu1]
  refine Yb hP hS (by simp [hp]) _ (PK.bind h (fun ts' e h => ?_) (fun a ts' ha h => ?_))
  ·simp
   exact Xb hp hm h (by simp) (by simp [hp])
  simp [hp, hS]
  exact Xb hp hm h (by simp) (by simp [hp])
 ·skip
  simp only [Bool.false_eq_true, if_false, if_true, Xx, Yi] at h
  simp [hp, hS]
  refine Xrp hP hS (by simp [hp]) (PK.bind h (fun ts' e h => ?_) (fun a ts' ha h => ?_))
  ·simp
   exact Xb hp hm h (by simp) (by simp [hp])
  simp [hp, hS, Xu1]
  refine Yb hP hS (by simp [hp]) _ (PK.bind h (fun ts' e h => ?_) (fun a ts' ha h => ?_))
  ·simp
   exact Xb hp hm h (by simp) (by simp [hp])
  simp [hp, hS]
  exact Xb hp hm h (by simp) (by simp [hp])
end
end Go.Proofs.YtanpgmgkmfckaaaGreatDoor
/- Contracts: terms, comparisons, weights. Condition: the program is the seat's, and its intervals are laid. -/
namespace Go.Proofs.YtanpgmgkmfckaaaGreatDoor
open Go Go.Ab Go.Lx Go.Sx
set_option maxRecDepth 100000
attribute [local simp ↓] ql qn qo qi qh qj qk qm zs zp zr zt zq zl zm zk zo zn qq qp qw qx zg qy qv qr zh qu qt qs qz zb za zd ze zf zw zu zy zx qb qa qd qc qe qg qf zj zi
section
variable {P : Prg} (hP : P.p = Tryz.prog) {ob : Objs} {p : Nat} {ts : List Tok} {en : Int} {S : V} (hS : V.allD [S] = none) (hp : lookO ob p = some (pb ts en S)) {K : Out → Objs → Prop}
include hP hS hp
theorem Xef (hI : Ivl P) (h : PK K ob p en S (fun x => .d x.enc) (Xbk ts)) : ACall P 139 [.ptr p []] ob K := by
 refine acall_lift hP mixed Yfg Yd9 TOk.nil fun _ hm => ?_
 simp [Ygy, hp, hS, hI.factors, hI.editions, hI.mosts, hI.weights, hI.anyN]
 refine Jw hP hS (ts := ts) (en := en) (S := S) (by simp [hp]) _ _ ?_
 cases hn : Xf 2 [] ts with
 | false =>
  simp only [Xbk, hn, Bool.false_eq_true, if_false] at h
  simp [hp, hS, hI.anyN]
  refine Xrp hP hS (by simp [hp]) (PK.bind h (fun ts' e h => ?_) (fun a ts' ha h => ?_))
  ·simp
   exact Xb hp hm h (by simp) (by simp [hp])
  simp [hp, hS, hI.factors, hI.editions, hI.mosts, hI.weights, hI.anyN]
  exact Xb hp hm h (by simp) (by simp [hp])
 | true =>
  simp only [Xbk, hn, if_true] at h
  simp [hp, hS, hI.anyN]
  refine Y8 hP hS (by simp [hp]) _ _ (PK.bind h (fun ts' e h => ?_) (fun a ts' ha h => ?_))
  ·simp
   exact Xb hp hm h (by simp) (by simp [hp])
  simp [hp, hS, hI.factors, hI.editions, hI.mosts, hI.weights, hI.anyN]
  exact Xb hp hm h (by simp) (by simp [hp])
theorem X4i (hI : Ivl P) (h : PK K ob p en S (fun x => .d x.enc) (Uu ts)) : ACall P 72 [.ptr p []] ob K := by
 refine acall_lift hP mixed Ypr Ysj TOk.nil fun _ hm => ?_
 simp [Yo5, hp, hS, hI.factors, hI.editions, hI.mosts, hI.weights, hI.anyN]
 refine Zf hP hS (by simp [hp]) _ (PK.bind h (fun ts' e h => ?_) (fun a ts' ha h => ?_))
 ·simp
  exact Xb hp hm h (by simp) (by simp [hp])
 simp [hp, hS, hI.factors, hI.editions, hI.mosts, hI.weights, hI.anyN]
 refine Xef hP hS (by simp [hp]) hI (PK.bind h (fun ts' e h => ?_) (fun a ts' ha h => ?_))
 ·simp
  exact Xb hp hm h (by simp) (by simp [hp])
 simp [hp, hS, hI.factors, hI.editions, hI.mosts, hI.weights, hI.anyN]
 rw [opM, Xx] at h
 refine Yx hP hS (by simp [hp]) _ _ (PK.bind h (fun ts' e h => ?_) (fun a ts' ha h => ?_))
 ·simp
  exact Xb hp hm h (by simp) (by simp [hp])
 cases a
 ·skip
  simp only [Bool.false_eq_true, if_false, if_true, Xx, Yi] at h
  simp [hp, hS, hI.factors, hI.editions, hI.mosts, hI.weights, hI.anyN]
  refine Yx hP hS (by simp [hp]) _ _ (PK.bind h (fun ts' e h => ?_) (fun a ts' ha h => ?_))
  ·simp
   exact Xb hp hm h (by simp) (by simp [hp])
  cases a
  ·skip
   simp only [Bool.false_eq_true, if_false, if_true, Xx, Yi] at h
   simp [hp, hS, hI.factors, hI.editions, hI.mosts, hI.weights, hI.anyN]
   refine Yb hP hS (by simp [hp]) _ (PK.bind h (fun ts' e h => ?_) (fun a ts' ha h => ?_))
   ·simp
    exact Xb hp hm h (by simp) (by simp [hp])
   simp [hp, hS, hI.factors, hI.editions, hI.mosts, hI.weights, hI.anyN]
   refine Yb hP hS (by simp [hp]) _ (PK.bind h (fun ts' e h => ?_) (fun a ts' ha h => ?_))
   ·simp
    exact Xb hp hm h (by simp) (by simp [hp])
   simp [hp, hS, hI.factors, hI.editions, hI.mosts, hI.weights, hI.anyN, Xf7]
   refine Xef hP hS (by simp [hp]) hI (PK.bind h (fun ts' e h => ?_) (fun a ts' ha h => ?_))
   ·simp
    exact Xb hp hm h (by simp) (by simp [hp])
   simp [hp, hS, hI.factors, hI.editions, hI.mosts, hI.weights, hI.anyN]
   refine Yb hP hS (by simp [hp]) _ (PK.bind h (fun ts' e h => ?_) (fun a ts' ha h => ?_))
   ·simp
    exact Xb hp hm h (by simp) (by simp [hp])
   simp [hp, hS, hI.factors, hI.editions, hI.mosts, hI.weights, hI.anyN]
   exact Xb hp hm h (by simp) (by simp [hp])
  ·skip
   simp only [Bool.false_eq_true, if_false, if_true, Xx, Yi] at h
   simp [hp, hS, hI.factors, hI.editions, hI.mosts, hI.weights, hI.anyN]
   refine Yx hP hS (by simp [hp]) _ _ (PK.bind h (fun ts' e h => ?_) (fun a ts' ha h => ?_))
   ·simp
    exact Xb hp hm h (by simp) (by simp [hp])
   cases a
   ·skip
    simp only [Bool.false_eq_true, if_false, if_true, Xx, Yi] at h
    simp [hp, hS, hI.factors, hI.editions, hI.mosts, hI.weights, hI.anyN, Xf7]
    refine Xef hP hS (by simp [hp]) hI (PK.bind h (fun ts' e h => ?_) (fun a ts' ha h => ?_))
    ·simp
     exact Xb hp hm h (by simp) (by simp [hp])
    simp [hp, hS, hI.factors, hI.editions, hI.mosts, hI.weights, hI.anyN]
    refine Yb hP hS (by simp [hp]) _ (PK.bind h (fun ts' e h => ?_) (fun a ts' ha h => ?_))
    ·simp
     exact Xb hp hm h (by simp) (by simp [hp])
    simp [hp, hS, hI.factors, hI.editions, hI.mosts, hI.weights, hI.anyN]
    exact Xb hp hm h (by simp) (by simp [hp])
   ·skip
    simp only [Bool.false_eq_true, if_false, if_true, Xx, Yi] at h
    simp [hp, hS, hI.factors, hI.editions, hI.mosts, hI.weights, hI.anyN, Xf7]
    refine Xef hP hS (by simp [hp]) hI (PK.bind h (fun ts' e h => ?_) (fun a ts' ha h => ?_))
    ·simp
     exact Xb hp hm h (by simp) (by simp [hp])
    simp [hp, hS, hI.factors, hI.editions, hI.mosts, hI.weights, hI.anyN]
    refine Yb hP hS (by simp [hp]) _ (PK.bind h (fun ts' e h => ?_) (fun a ts' ha h => ?_))
    ·simp
     exact Xb hp hm h (by simp) (by simp [hp])
    simp [hp, hS, hI.factors, hI.editions, hI.mosts, hI.weights, hI.anyN]
    exact Xb hp hm h (by simp) (by simp [hp])
 ·skip
  simp only [Bool.false_eq_true, if_false, if_true, Xx, Yi] at h
  simp [hp, hS, hI.factors, hI.editions, hI.mosts, hI.weights, hI.anyN, Xf7]
  refine Xef hP hS (by simp [hp]) hI (PK.bind h (fun ts' e h => ?_) (fun a ts' ha h => ?_))
  ·simp
   exact Xb hp hm h (by simp) (by simp [hp])
  simp [hp, hS, hI.factors, hI.editions, hI.mosts, hI.weights, hI.anyN]
  refine Yb hP hS (by simp [hp]) _ (PK.bind h (fun ts' e h => ?_) (fun a ts' ha h => ?_))
  ·simp
   exact Xb hp hm h (by simp) (by simp [hp])
  simp [hp, hS, hI.factors, hI.editions, hI.mosts, hI.weights, hI.anyN]
  exact Xb hp hm h (by simp) (by simp [hp])
theorem Yev (hI : Ivl P) (h : PK K ob p en S (fun x => .d x.enc) (Xr1 ts)) : ACall P 74 [.ptr p []] ob K := by
 refine acall_lift hP mixed Ym6 Ypi TOk.nil fun _ hm => ?_
 simp [Yp8, hp, hS, hI.factors, hI.editions, hI.mosts, hI.weights, hI.anyN]
 refine Zf hP hS (by simp [hp]) _ (PK.bind h (fun ts' e h => ?_) (fun a ts' ha h => ?_))
 ·simp
  exact Xb hp hm h (by simp) (by simp [hp])
 simp [hp, hS, hI.factors, hI.editions, hI.mosts, hI.weights, hI.anyN]
 refine Y3 hP hS (by simp [hp]) (PK.bind h (fun ts' e h => ?_) (fun a ts' ha h => ?_))
 ·simp
  exact Xb hp hm h (by simp) (by simp [hp])
 simp [hp, hS, hI.factors, hI.editions, hI.mosts, hI.weights, hI.anyN]
 refine Yb hP hS (by simp [hp]) _ (PK.bind h (fun ts' e h => ?_) (fun a ts' ha h => ?_))
 ·simp
  exact Xb hp hm h (by simp) (by simp [hp])
 simp [hp, hS, hI.factors, hI.editions, hI.mosts, hI.weights, hI.anyN]
 refine Xef hP hS (by simp [hp]) hI (PK.bind h (fun ts' e h => ?_) (fun a ts' ha h => ?_))
 ·simp
  exact Xb hp hm h (by simp) (by simp [hp])
 simp [hp, hS, hI.factors, hI.editions, hI.mosts, hI.weights, hI.anyN]
 refine Yb hP hS (by simp [hp]) _ (PK.bind h (fun ts' e h => ?_) (fun a ts' ha h => ?_))
 ·simp
  exact Xb hp hm h (by simp) (by simp [hp])
 simp [hp, hS, hI.factors, hI.editions, hI.mosts, hI.weights, hI.anyN]
 exact Xb hp hm h (by simp) (by simp [hp])
theorem Xhn (hI : Ivl P) (h : PK K ob p en S (fun l => .d (.agg (l.map iD))) (Vl ts)) : ACall P 64 [.ptr p []] ob K := by
 refine acall_lift hP mixed Yrh Yrb TOk.nil fun _ hm => ?_
 simp [Ypu, hp, hS]
 refine ALoop.go (ι := List Int × List Tok) (fun j => [(0, .ptr p []), (2, .ptr (fresh ob) []), (4, .d (.int .i64 j.1.length))])
  (fun j => (fresh ob, .box 91 (.d (.agg (j.1.map iD ++ List.replicate (4 - j.1.length) (iD 0))))) :: setO ob p (pb j.2 en S))
  (fun j => j.1.length ≤ 4 ∧ PK K ob p en S (fun l => .d (.agg (l.map iD))) ((Xei (4 - j.1.length) >>= fun l => pure (j.1 ++ l)) j.2)) (fun j => 4 - j.1.length) ([], ts) ⟨by simp, ?_⟩ (by simp) (by simp [Ye hp]) ?_
 ·simp only [Vl] at h
  simp only [List.length_nil, Nat.sub_zero, List.nil_append]
  rw [Xd]
  cases hr : Xei 4 ts with
  | ok a ts' => rw [hr] at h; exact h
  | err ts' e => rw [hr] at h; exact h
 rintro ⟨l, ts1⟩ ⟨hl, h⟩ R rn re rr rp
 have w1 : IntKind.i64.wrap 1 = 1 := by decide
 have w2 : IntKind.i64.wrap 2 = 2 := by decide
 have w3 : IntKind.i64.wrap 3 = 3 := by decide
 have w4 : IntKind.i64.wrap 4 = 4 := by decide
 match l, hl with
 | [], _ =>
  simp [Xc4, hp, hS, hI.weights]
  simp [Xei, Xx, Yi] at h
  refine Y8 hP hS (by simp [hp]) _ _ (PK.bind h (fun ts' e h => ?_) (fun a ts' ha h => ?_))
  ·simp
   refine rp _ _ _ ?_
   simp
   exact Xb hp hm h (by simp) (by simp [hp])
  simp [hp, hS, w1, w2, w3, w4]
  refine rn [] ([a], ts') _ _ ⟨by simp, by simpa [Xei, Xx, Yi] using h⟩ (by simp) (by simp) (by simp [hp]) (by simp [hp]) ?_
  simp
  refine noMenO_set_box _ _ _ _ _ (Xm _ hm) ?_
  have := Yw (Xm 1 (l := []) hm) hp
  simpa [pv] using this
 | [a0], _ =>
  simp [Xc4, hp, hS, hI.weights]
  simp [Xei, Xx, Yi] at h
  refine Y8 hP hS (by simp [hp]) _ _ (PK.bind h (fun ts' e h => ?_) (fun a ts' ha h => ?_))
  ·simp
   refine rp _ _ _ ?_
   simp
   exact Xb hp hm h (by simp) (by simp [hp])
  simp [hp, hS, w1, w2, w3, w4]
  refine rn [] ([a0, a], ts') _ _ ⟨by simp, by simpa [Xei, Xx, Yi] using h⟩ (by simp) (by simp) (by simp [hp]) (by simp [hp]) ?_
  simp
  refine noMenO_set_box _ _ _ _ _ (Xm _ hm) ?_
  have := Yw (Xm 1 (l := []) hm) hp
  simpa [pv] using this
 | [a0, b0], _ =>
  simp [Xc4, hp, hS, hI.weights]
  simp [Xei, Xx, Yi] at h
  refine Y8 hP hS (by simp [hp]) _ _ (PK.bind h (fun ts' e h => ?_) (fun a ts' ha h => ?_))
  ·simp
   refine rp _ _ _ ?_
   simp
   exact Xb hp hm h (by simp) (by simp [hp])
  simp [hp, hS, w1, w2, w3, w4]
  refine rn [] ([a0, b0, a], ts') _ _ ⟨by simp, by simpa [Xei, Xx, Yi] using h⟩ (by simp) (by simp) (by simp [hp]) (by simp [hp]) ?_
  simp
  refine noMenO_set_box _ _ _ _ _ (Xm _ hm) ?_
  have := Yw (Xm 1 (l := []) hm) hp
  simpa [pv] using this
 | [a0, b0, c0], _ =>
  simp [Xc4, hp, hS, hI.weights]
  simp [Xei, Xx, Yi] at h
  refine Y8 hP hS (by simp [hp]) _ _ (PK.bind h (fun ts' e h => ?_) (fun a ts' ha h => ?_))
  ·simp
   refine rp _ _ _ ?_
   simp
   exact Xb hp hm h (by simp) (by simp [hp])
  simp [hp, hS, w1, w2, w3, w4]
  refine rn [] ([a0, b0, c0, a], ts') _ _ ⟨by simp, by simpa [Xei, Xx, Yi] using h⟩ (by simp) (by simp) (by simp [hp]) (by simp [hp]) ?_
  simp
  refine noMenO_set_box _ _ _ _ _ (Xm _ hm) ?_
  have := Yw (Xm 1 (l := []) hm) hp
  simpa [pv] using this
 | [a0, b0, c0, d0], _ =>
  simp [Xc4, hp, hS]
  simp [Xei, Xx, Yi] at h
  refine re _ _ _ ?_
  simp [hp, hS]
  exact Xb hp hm h (by simp) (by simp [hp])
 | _ :: _ :: _ :: _ :: _ :: _, hl => simp at hl
end
end Go.Proofs.YtanpgmgkmfckaaaGreatDoor
/- Contracts: the parser's lists. Condition: the program is the seat's. -/
namespace Go.Proofs.YtanpgmgkmfckaaaGreatDoor
open Go Go.Ab Go.Lx Go.Sx
set_option maxRecDepth 100000
attribute [local simp ↓] ql qn qo qi qh qj qk qm zs zp zr zt zq zl zm zk zo zn qq qp qw qx zg qy qv qr zh qu qt qs qz zb za zd ze zf zw zu zy zx qb qa qd qc qe qg qf zj zi
section
variable {P : Prg} (hP : P.p = Tryz.prog) {ob : Objs} {p : Nat} {ts : List Tok} {en : Int} {S : V} (hS : V.allD [S] = none) (hp : lookO ob p = some (pb ts en S)) {K : Out → Objs → Prop}
include hP hS hp
omit hS in
theorem Jr (t : B) (x : Nat) (hx : fresh ob = x) (h : K (.ret (.fn 137 [] [.ptr x [], .ptr (x + 1) []])) ((x + 1, .box 9 (.d (.str t))) :: (x, .box 63 (.ptr p [])) :: ob)) : ACall P 69 [.ptr p [], .d (.str t)] ob K := by
 subst hx
 refine acall_lift hP mixed Yry Yq7 TOk.nil fun _ hm => ?_
 simp [Yol, hp]
 refine ⟨[fresh ob, fresh ob + 1], by simp [young], ?_, ?_⟩
 ·have := Xmv hp
  simp [young, hp, hm, this]
 ·simpa [young, hp] using h
theorem Ul {t : B} {b1 b2 : Nat} (h1 : lookO ob b1 = some (.box 63 (.ptr p []))) (h2 : lookO ob b2 = some (.box 9 (.d (.str t)))) (h : K (.ret (.d (.bool (Xf 1 t ts)))) (setO ob p (pb ts en S))) : ACall P 137 [.ptr b1 [], .ptr b2 []] ob K := by
 refine acall_lift hP mixed Ydm Yfb TOk.nil fun _ hm => ?_
 simp [Yeh, hp, h1, h2]
 refine Jw hP hS hp _ _ ?_
 simp [hp]
 exact Xb hp hm h (by simp) (by simp [hp])
theorem X3f {α : Type} {enc : α → D} (hsh : ∀ a, (enc a).shape = .node [.leaf, .leaf, .leaf, .node [.leaf, .leaf, .leaf, .leaf, .leaf]]) (begins : List Tok → Bool) (read : M α) (most : Nat) (hmost : most ≤ 1000) (bf rf : Nat) (bfi bca rfi rca : List V) (hbc : Xh P.p bf = true) (hrc : Xh P.p rf = true)
  (x : Nat) (hx : fresh ob = x) (hb : ∀ (ts : List Tok) (o : Ob) (K : Out → Objs → Prop), K (.ret (.d (.bool (begins ts)))) ((x, o) :: setO ob p (pb ts en S)) → ACall P bf (bfi ++ bca) ((x, o) :: setO ob p (pb ts en S)) K)
  (hr : ∀ (ts : List Tok) (o : Ob) (K : Out → Objs → Prop), PK K ((x, o) :: setO ob p (pb ts en S)) p en S (fun a => .d (enc a)) (read ts) → ACall P rf (rfi ++ rca) ((x, o) :: setO ob p (pb ts en S)) K)
  (h : PK K ob p en S (fun l => .d (.list 8 (l.map enc))) (Xp begins read most ts)) : ACall P 68 [.ptr p [], .d (.int .i64 most), .fn bf bfi bca, .fn rf rfi rca] ob K := by
 subst hx
 refine acall_lift hP mixed Ypw Yqz TOk.nil fun hv hm => ?_
 have hv1 := V.mens_mono (p := young (fresh ob + 1) []) (q := young (fresh ob) []) (fun j e => by simp [young] at e ⊢; omega) _ (hv [])
 simp at hv1
 simp [Yqo, hp, hS]
 refine ALoop.go (ι := List α × List Tok) (fun j => [(0, .ptr p []), (1, .d (.int .i64 most)), (2, .fn bf bfi bca), (3, .fn rf rfi rca), (8, .sl (fresh ob) j.1.length)])
  (fun j => (fresh ob, .arr 54 8 (j.1.map enc)) :: setO ob p (pb j.2 en S))
  (fun j => j.1.length ≤ most ∧ PK K ob p en S (fun l => .d (.list 8 (l.map enc))) ((Xp begins read (most - j.1.length) >>= fun l => pure (j.1 ++ l)) j.2)) (fun j => most - j.1.length) ([], ts) ⟨by simp, ?_⟩ (by simp) (by simp [Ye hp]) ?_
 ·simp only [List.length_nil, Nat.sub_zero, List.nil_append]
  rw [Xd]
  cases hr : Xp begins read most ts with
  | ok a ts' => rw [hr] at h; exact h
  | err ts' e => rw [hr] at h; exact h
 rintro ⟨l, ts1⟩ ⟨hl, h⟩ R rn re rr rp
 dsimp only at hl h rn
 simp [X3x, hp, hS, hbc]
 refine hb _ _ _ ?_
 cases hbg : begins ts1 with
 | false =>
  simp [hp, hS]
  refine re _ _ _ ?_
  have h' : PK K ob p en S (fun l => .d (.list 8 (l.map enc))) (.ok l ts1) := by
   rw [Xd] at h
   cases hn : most - l.length <;> simpa [hn, Xp, hbg] using h
  simp [hp, hS]
  exact Xb hp hm h' (by simp) (by simp [hp])
 | true =>
  by_cases he : l.length = most
  ·simp [he, Xp, hbg, Xd] at h
   simp [hp, hS, he]
   refine Ws hP hS (ts := ts1) (en := en) (S := S) (by simp [hp]) _ ?_
   simp [hp]
   refine rp _ _ _ ?_
   simp
   exact Xb hp hm h (by simp) (by simp [hp])
  ·have hne : ¬ ((l.length : Int) = most) := by omega
   obtain ⟨n, hn⟩ : ∃ n, most - l.length = n + 1 := ⟨most - l.length - 1, by omega⟩
   simp only [hn] at h
   simp only [Xd, Xp, hbg, if_true] at h
   simp [hp, hS, hne, hrc, X2z]
   refine hr _ _ _ ?_
   cases ha : read ts1 with
   | err ts' e =>
    simp only [ha] at h
    simp
    refine rp _ _ _ ?_
    simp
    exact Xb hp hm h (by simp) (by simp [hp])
   | ok a ts' =>
    simp only [ha] at h
    simp [hp, hS, hsh]
    refine ⟨by omega, ?_⟩
    refine rn [] (l ++ [a], ts') _ _ ⟨by simp; omega, ?_⟩ (by simp; omega) (by simp) (by simp [hp]) (by simp [hp, hv1]) ?_
    ·simp only [List.length_append, List.length_singleton, show most - (l.length + 1) = n by omega]
     rw [Xd]
     cases hl2 : Xp begins read n ts' with
     | err ts2 e => simp only [hl2] at h; exact h
     | ok l2 ts2 => simp only [hl2] at h; simpa using h
    ·simp
     refine noMenO_set_box _ _ _ _ _ (Xm _ hm) ?_
     have := Yw (Xm 1 (l := []) hm) hp
     simpa [pv] using this
theorem X57 {α : Type} {enc : α → D} (hsh : ∀ a, (enc a).shape = .node [.leaf, .node [.leaf, .leaf, .leaf, .leaf, .leaf], .node [.leaf, .leaf, .leaf, .leaf, .leaf]]) (begins : List Tok → Bool) (read : M α) (most : Nat) (hmost : most ≤ 1000) (bf rf : Nat) (bfi bca rfi rca : List V) (hbc : Xh P.p bf = true) (hrc : Xh P.p rf = true)
  (x : Nat) (hx : fresh ob = x) (hb : ∀ (ts : List Tok) (o : Ob) (K : Out → Objs → Prop), K (.ret (.d (.bool (begins ts)))) ((x, o) :: setO ob p (pb ts en S)) → ACall P bf (bfi ++ bca) ((x, o) :: setO ob p (pb ts en S)) K)
  (hr : ∀ (ts : List Tok) (o : Ob) (K : Out → Objs → Prop), PK K ((x, o) :: setO ob p (pb ts en S)) p en S (fun a => .d (enc a)) (read ts) → ACall P rf (rfi ++ rca) ((x, o) :: setO ob p (pb ts en S)) K)
  (h : PK K ob p en S (fun l => .d (.list 11 (l.map enc))) (Xp begins read most ts)) : ACall P 71 [.ptr p [], .d (.int .i64 most), .fn bf bfi bca, .fn rf rfi rca] ob K := by
 subst hx
 refine acall_lift hP mixed Yq3 Yps TOk.nil fun hv hm => ?_
 have hv1 := V.mens_mono (p := young (fresh ob + 1) []) (q := young (fresh ob) []) (fun j e => by simp [young] at e ⊢; omega) _ (hv [])
 simp at hv1
 simp [Ynq, hp, hS]
 refine ALoop.go (ι := List α × List Tok) (fun j => [(0, .ptr p []), (1, .d (.int .i64 most)), (2, .fn bf bfi bca), (3, .fn rf rfi rca), (8, .sl (fresh ob) j.1.length)])
  (fun j => (fresh ob, .arr 56 11 (j.1.map enc)) :: setO ob p (pb j.2 en S))
  (fun j => j.1.length ≤ most ∧ PK K ob p en S (fun l => .d (.list 11 (l.map enc))) ((Xp begins read (most - j.1.length) >>= fun l => pure (j.1 ++ l)) j.2)) (fun j => most - j.1.length) ([], ts) ⟨by simp, ?_⟩ (by simp) (by simp [Ye hp]) ?_
 ·simp only [List.length_nil, Nat.sub_zero, List.nil_append]
  rw [Xd]
  cases hr : Xp begins read most ts with
  | ok a ts' => rw [hr] at h; exact h
  | err ts' e => rw [hr] at h; exact h
 rintro ⟨l, ts1⟩ ⟨hl, h⟩ R rn re rr rp
 dsimp only at hl h rn
 simp [X42, hp, hS, hbc]
 refine hb _ _ _ ?_
 cases hbg : begins ts1 with
 | false =>
  simp [hp, hS]
  refine re _ _ _ ?_
  have h' : PK K ob p en S (fun l => .d (.list 11 (l.map enc))) (.ok l ts1) := by
   rw [Xd] at h
   cases hn : most - l.length <;> simpa [hn, Xp, hbg] using h
  simp [hp, hS]
  exact Xb hp hm h' (by simp) (by simp [hp])
 | true =>
  by_cases he : l.length = most
  ·simp [he, Xp, hbg, Xd] at h
   simp [hp, hS, he]
   refine Ws hP hS (ts := ts1) (en := en) (S := S) (by simp [hp]) _ ?_
   simp [hp]
   refine rp _ _ _ ?_
   simp
   exact Xb hp hm h (by simp) (by simp [hp])
  ·have hne : ¬ ((l.length : Int) = most) := by omega
   obtain ⟨n, hn⟩ : ∃ n, most - l.length = n + 1 := ⟨most - l.length - 1, by omega⟩
   simp only [hn] at h
   simp only [Xd, Xp, hbg, if_true] at h
   simp [hp, hS, hne, hrc, X3g]
   refine hr _ _ _ ?_
   cases ha : read ts1 with
   | err ts' e =>
    simp only [ha] at h
    simp
    refine rp _ _ _ ?_
    simp
    exact Xb hp hm h (by simp) (by simp [hp])
   | ok a ts' =>
    simp only [ha] at h
    simp [hp, hS, hsh]
    refine ⟨by omega, ?_⟩
    refine rn [] (l ++ [a], ts') _ _ ⟨by simp; omega, ?_⟩ (by simp; omega) (by simp) (by simp [hp]) (by simp [hp, hv1]) ?_
    ·simp only [List.length_append, List.length_singleton, show most - (l.length + 1) = n by omega]
     rw [Xd]
     cases hl2 : Xp begins read n ts' with
     | err ts2 e => simp only [hl2] at h; exact h
     | ok l2 ts2 => simp only [hl2] at h; simpa using h
    ·simp
     refine noMenO_set_box _ _ _ _ _ (Xm _ hm) ?_
     have := Yw (Xm 1 (l := []) hm) hp
     simpa [pv] using this
theorem X4z {α : Type} {enc : α → D} (hsh : ∀ a, (enc a).shape = .node [.leaf, .leaf, .node [.leaf, .leaf, .leaf, .leaf, .leaf]]) (begins : List Tok → Bool) (read : M α) (most : Nat) (hmost : most ≤ 1000) (bf rf : Nat) (bfi bca rfi rca : List V) (hbc : Xh P.p bf = true) (hrc : Xh P.p rf = true)
  (x : Nat) (hx : fresh ob = x) (hb : ∀ (ts : List Tok) (o : Ob) (K : Out → Objs → Prop), K (.ret (.d (.bool (begins ts)))) ((x, o) :: setO ob p (pb ts en S)) → ACall P bf (bfi ++ bca) ((x, o) :: setO ob p (pb ts en S)) K)
  (hr : ∀ (ts : List Tok) (o : Ob) (K : Out → Objs → Prop), PK K ((x, o) :: setO ob p (pb ts en S)) p en S (fun a => .d (enc a)) (read ts) → ACall P rf (rfi ++ rca) ((x, o) :: setO ob p (pb ts en S)) K)
  (h : PK K ob p en S (fun l => .d (.list 7 (l.map enc))) (Xp begins read most ts)) : ACall P 73 [.ptr p [], .d (.int .i64 most), .fn bf bfi bca, .fn rf rfi rca] ob K := by
 subst hx
 refine acall_lift hP mixed Yoc Yqg TOk.nil fun hv hm => ?_
 have hv1 := V.mens_mono (p := young (fresh ob + 1) []) (q := young (fresh ob) []) (fun j e => by simp [young] at e ⊢; omega) _ (hv [])
 simp at hv1
 simp [Yqm, hp, hS]
 refine ALoop.go (ι := List α × List Tok) (fun j => [(0, .ptr p []), (1, .d (.int .i64 most)), (2, .fn bf bfi bca), (3, .fn rf rfi rca), (8, .sl (fresh ob) j.1.length)])
  (fun j => (fresh ob, .arr 58 7 (j.1.map enc)) :: setO ob p (pb j.2 en S))
  (fun j => j.1.length ≤ most ∧ PK K ob p en S (fun l => .d (.list 7 (l.map enc))) ((Xp begins read (most - j.1.length) >>= fun l => pure (j.1 ++ l)) j.2)) (fun j => most - j.1.length) ([], ts) ⟨by simp, ?_⟩ (by simp) (by simp [Ye hp]) ?_
 ·simp only [List.length_nil, Nat.sub_zero, List.nil_append]
  rw [Xd]
  cases hr : Xp begins read most ts with
  | ok a ts' => rw [hr] at h; exact h
  | err ts' e => rw [hr] at h; exact h
 rintro ⟨l, ts1⟩ ⟨hl, h⟩ R rn re rr rp
 dsimp only at hl h rn
 simp [X45, hp, hS, hbc]
 refine hb _ _ _ ?_
 cases hbg : begins ts1 with
 | false =>
  simp [hp, hS]
  refine re _ _ _ ?_
  have h' : PK K ob p en S (fun l => .d (.list 7 (l.map enc))) (.ok l ts1) := by
   rw [Xd] at h
   cases hn : most - l.length <;> simpa [hn, Xp, hbg] using h
  simp [hp, hS]
  exact Xb hp hm h' (by simp) (by simp [hp])
 | true =>
  by_cases he : l.length = most
  ·simp [he, Xp, hbg, Xd] at h
   simp [hp, hS, he]
   refine Ws hP hS (ts := ts1) (en := en) (S := S) (by simp [hp]) _ ?_
   simp [hp]
   refine rp _ _ _ ?_
   simp
   exact Xb hp hm h (by simp) (by simp [hp])
  ·have hne : ¬ ((l.length : Int) = most) := by omega
   obtain ⟨n, hn⟩ : ∃ n, most - l.length = n + 1 := ⟨most - l.length - 1, by omega⟩
   simp only [hn] at h
   simp only [Xd, Xp, hbg, if_true] at h
   simp [hp, hS, hne, hrc, X3e]
   refine hr _ _ _ ?_
   cases ha : read ts1 with
   | err ts' e =>
    simp only [ha] at h
    simp
    refine rp _ _ _ ?_
    simp
    exact Xb hp hm h (by simp) (by simp [hp])
   | ok a ts' =>
    simp only [ha] at h
    simp [hp, hS, hsh]
    refine ⟨by omega, ?_⟩
    refine rn [] (l ++ [a], ts') _ _ ⟨by simp; omega, ?_⟩ (by simp; omega) (by simp) (by simp [hp]) (by simp [hp, hv1]) ?_
    ·simp only [List.length_append, List.length_singleton, show most - (l.length + 1) = n by omega]
     rw [Xd]
     cases hl2 : Xp begins read n ts' with
     | err ts2 e => simp only [hl2] at h; exact h
     | ok l2 ts2 => simp only [hl2] at h; simpa using h
    ·simp
     refine noMenO_set_box _ _ _ _ _ (Xm _ hm) ?_
     have := Yw (Xm 1 (l := []) hm) hp
     simpa [pv] using this
theorem X2h {α : Type} {enc : α → D} (hsh : ∀ a, (enc a).shape = .node [.leaf, .leaf, .leaf, .leaf, .leaf]) (begins : List Tok → Bool) (read : M α) (most : Nat) (hmost : most ≤ 1000) (bf rf : Nat) (bfi bca rfi rca : List V) (hbc : Xh P.p bf = true) (hrc : Xh P.p rf = true)
  (x : Nat) (hx : fresh ob = x) (hb : ∀ (ts : List Tok) (o : Ob) (K : Out → Objs → Prop), K (.ret (.d (.bool (begins ts)))) ((x, o) :: setO ob p (pb ts en S)) → ACall P bf (bfi ++ bca) ((x, o) :: setO ob p (pb ts en S)) K)
  (hr : ∀ (ts : List Tok) (o : Ob) (K : Out → Objs → Prop), PK K ((x, o) :: setO ob p (pb ts en S)) p en S (fun a => .d (enc a)) (read ts) → ACall P rf (rfi ++ rca) ((x, o) :: setO ob p (pb ts en S)) K)
  (h : PK K ob p en S (fun l => .d (.list 5 (l.map enc))) (Xp begins read most ts)) : ACall P 75 [.ptr p [], .d (.int .i64 most), .fn bf bfi bca, .fn rf rfi rca] ob K := by
 subst hx
 refine acall_lift hP mixed Yqa Yrn TOk.nil fun hv hm => ?_
 have hv1 := V.mens_mono (p := young (fresh ob + 1) []) (q := young (fresh ob) []) (fun j e => by simp [young] at e ⊢; omega) _ (hv [])
 simp at hv1
 simp [Yn7, hp, hS]
 refine ALoop.go (ι := List α × List Tok) (fun j => [(0, .ptr p []), (1, .d (.int .i64 most)), (2, .fn bf bfi bca), (3, .fn rf rfi rca), (8, .sl (fresh ob) j.1.length)])
  (fun j => (fresh ob, .arr 112 5 (j.1.map enc)) :: setO ob p (pb j.2 en S))
  (fun j => j.1.length ≤ most ∧ PK K ob p en S (fun l => .d (.list 5 (l.map enc))) ((Xp begins read (most - j.1.length) >>= fun l => pure (j.1 ++ l)) j.2)) (fun j => most - j.1.length) ([], ts) ⟨by simp, ?_⟩ (by simp) (by simp [Ye hp]) ?_
 ·simp only [List.length_nil, Nat.sub_zero, List.nil_append]
  rw [Xd]
  cases hr : Xp begins read most ts with
  | ok a ts' => rw [hr] at h; exact h
  | err ts' e => rw [hr] at h; exact h
 rintro ⟨l, ts1⟩ ⟨hl, h⟩ R rn re rr rp
 dsimp only at hl h rn
 simp [X3o, hp, hS, hbc]
 refine hb _ _ _ ?_
 cases hbg : begins ts1 with
 | false =>
  simp [hp, hS]
  refine re _ _ _ ?_
  have h' : PK K ob p en S (fun l => .d (.list 5 (l.map enc))) (.ok l ts1) := by
   rw [Xd] at h
   cases hn : most - l.length <;> simpa [hn, Xp, hbg] using h
  simp [hp, hS]
  exact Xb hp hm h' (by simp) (by simp [hp])
 | true =>
  by_cases he : l.length = most
  ·simp [he, Xp, hbg, Xd] at h
   simp [hp, hS, he]
   refine Ws hP hS (ts := ts1) (en := en) (S := S) (by simp [hp]) _ ?_
   simp [hp]
   refine rp _ _ _ ?_
   simp
   exact Xb hp hm h (by simp) (by simp [hp])
  ·have hne : ¬ ((l.length : Int) = most) := by omega
   obtain ⟨n, hn⟩ : ∃ n, most - l.length = n + 1 := ⟨most - l.length - 1, by omega⟩
   simp only [hn] at h
   simp only [Xd, Xp, hbg, if_true] at h
   simp [hp, hS, hne, hrc, X5v]
   refine hr _ _ _ ?_
   cases ha : read ts1 with
   | err ts' e =>
    simp only [ha] at h
    simp
    refine rp _ _ _ ?_
    simp
    exact Xb hp hm h (by simp) (by simp [hp])
   | ok a ts' =>
    simp only [ha] at h
    simp [hp, hS, hsh]
    refine ⟨by omega, ?_⟩
    refine rn [] (l ++ [a], ts') _ _ ⟨by simp; omega, ?_⟩ (by simp; omega) (by simp) (by simp [hp]) (by simp [hp, hv1]) ?_
    ·simp only [List.length_append, List.length_singleton, show most - (l.length + 1) = n by omega]
     rw [Xd]
     cases hl2 : Xp begins read n ts' with
     | err ts2 e => simp only [hl2] at h; exact h
     | ok l2 ts2 => simp only [hl2] at h; simpa using h
    ·simp
     refine noMenO_set_box _ _ _ _ _ (Xm _ hm) ?_
     have := Yw (Xm 1 (l := []) hm) hp
     simpa [pv] using this
theorem X5l {α : Type} {enc : α → D} (hsh : ∀ a, (enc a).shape = .node [.leaf, .leaf, .leaf, .leaf]) (begins : List Tok → Bool) (read : M α) (most : Nat) (hmost : most ≤ 1000) (bf rf : Nat) (bfi bca rfi rca : List V) (hbc : Xh P.p bf = true) (hrc : Xh P.p rf = true)
  (x : Nat) (hx : fresh ob = x) (hb : ∀ (ts : List Tok) (o : Ob) (K : Out → Objs → Prop), K (.ret (.d (.bool (begins ts)))) ((x, o) :: setO ob p (pb ts en S)) → ACall P bf (bfi ++ bca) ((x, o) :: setO ob p (pb ts en S)) K)
  (hr : ∀ (ts : List Tok) (o : Ob) (K : Out → Objs → Prop), PK K ((x, o) :: setO ob p (pb ts en S)) p en S (fun a => .d (enc a)) (read ts) → ACall P rf (rfi ++ rca) ((x, o) :: setO ob p (pb ts en S)) K)
  (h : PK K ob p en S (fun l => .d (.list 4 (l.map enc))) (Xp begins read most ts)) : ACall P 77 [.ptr p [], .d (.int .i64 most), .fn bf bfi bca, .fn rf rfi rca] ob K := by
 subst hx
 refine acall_lift hP mixed Yo2 Ypk TOk.nil fun hv hm => ?_
 have hv1 := V.mens_mono (p := young (fresh ob + 1) []) (q := young (fresh ob) []) (fun j e => by simp [young] at e ⊢; omega) _ (hv [])
 simp at hv1
 simp [Yo1, hp, hS]
 refine ALoop.go (ι := List α × List Tok) (fun j => [(0, .ptr p []), (1, .d (.int .i64 most)), (2, .fn bf bfi bca), (3, .fn rf rfi rca), (8, .sl (fresh ob) j.1.length)])
  (fun j => (fresh ob, .arr 107 4 (j.1.map enc)) :: setO ob p (pb j.2 en S))
  (fun j => j.1.length ≤ most ∧ PK K ob p en S (fun l => .d (.list 4 (l.map enc))) ((Xp begins read (most - j.1.length) >>= fun l => pure (j.1 ++ l)) j.2)) (fun j => most - j.1.length) ([], ts) ⟨by simp, ?_⟩ (by simp) (by simp [Ye hp]) ?_
 ·simp only [List.length_nil, Nat.sub_zero, List.nil_append]
  rw [Xd]
  cases hr : Xp begins read most ts with
  | ok a ts' => rw [hr] at h; exact h
  | err ts' e => rw [hr] at h; exact h
 rintro ⟨l, ts1⟩ ⟨hl, h⟩ R rn re rr rp
 dsimp only at hl h rn
 simp [X2y, hp, hS, hbc]
 refine hb _ _ _ ?_
 cases hbg : begins ts1 with
 | false =>
  simp [hp, hS]
  refine re _ _ _ ?_
  have h' : PK K ob p en S (fun l => .d (.list 4 (l.map enc))) (.ok l ts1) := by
   rw [Xd] at h
   cases hn : most - l.length <;> simpa [hn, Xp, hbg] using h
  simp [hp, hS]
  exact Xb hp hm h' (by simp) (by simp [hp])
 | true =>
  by_cases he : l.length = most
  ·simp [he, Xp, hbg, Xd] at h
   simp [hp, hS, he]
   refine Ws hP hS (ts := ts1) (en := en) (S := S) (by simp [hp]) _ ?_
   simp [hp]
   refine rp _ _ _ ?_
   simp
   exact Xb hp hm h (by simp) (by simp [hp])
  ·have hne : ¬ ((l.length : Int) = most) := by omega
   obtain ⟨n, hn⟩ : ∃ n, most - l.length = n + 1 := ⟨most - l.length - 1, by omega⟩
   simp only [hn] at h
   simp only [Xd, Xp, hbg, if_true] at h
   simp [hp, hS, hne, hrc, X4w]
   refine hr _ _ _ ?_
   cases ha : read ts1 with
   | err ts' e =>
    simp only [ha] at h
    simp
    refine rp _ _ _ ?_
    simp
    exact Xb hp hm h (by simp) (by simp [hp])
   | ok a ts' =>
    simp only [ha] at h
    simp [hp, hS, hsh]
    refine ⟨by omega, ?_⟩
    refine rn [] (l ++ [a], ts') _ _ ⟨by simp; omega, ?_⟩ (by simp; omega) (by simp) (by simp [hp]) (by simp [hp, hv1]) ?_
    ·simp only [List.length_append, List.length_singleton, show most - (l.length + 1) = n by omega]
     rw [Xd]
     cases hl2 : Xp begins read n ts' with
     | err ts2 e => simp only [hl2] at h; exact h
     | ok l2 ts2 => simp only [hl2] at h; simpa using h
    ·simp
     refine noMenO_set_box _ _ _ _ _ (Xm _ hm) ?_
     have := Yw (Xm 1 (l := []) hm) hp
     simpa [pv] using this
theorem X4h {α : Type} {enc : α → D} (hsh : ∀ a, (enc a).shape = .leaf) (begins : List Tok → Bool) (read : M α) (most : Nat) (hmost : most ≤ 1000) (bf rf : Nat) (bfi bca rfi rca : List V) (hbc : Xh P.p bf = true) (hrc : Xh P.p rf = true)
  (x : Nat) (hx : fresh ob = x) (hb : ∀ (ts : List Tok) (o : Ob) (K : Out → Objs → Prop), K (.ret (.d (.bool (begins ts)))) ((x, o) :: setO ob p (pb ts en S)) → ACall P bf (bfi ++ bca) ((x, o) :: setO ob p (pb ts en S)) K)
  (hr : ∀ (ts : List Tok) (o : Ob) (K : Out → Objs → Prop), PK K ((x, o) :: setO ob p (pb ts en S)) p en S (fun a => .d (enc a)) (read ts) → ACall P rf (rfi ++ rca) ((x, o) :: setO ob p (pb ts en S)) K)
  (h : PK K ob p en S (fun l => .d (.list 1 (l.map enc))) (Xp begins read most ts)) : ACall P 176 [.ptr p [], .d (.int .i64 most), .fn bf bfi bca, .fn rf rfi rca] ob K := by
 subst hx
 refine acall_lift hP mixed Ygg Yc7 TOk.nil fun hv hm => ?_
 have hv1 := V.mens_mono (p := young (fresh ob + 1) []) (q := young (fresh ob) []) (fun j e => by simp [young] at e ⊢; omega) _ (hv [])
 simp at hv1
 simp [Yel, hp, hS]
 refine ALoop.go (ι := List α × List Tok) (fun j => [(0, .ptr p []), (1, .d (.int .i64 most)), (2, .fn bf bfi bca), (3, .fn rf rfi rca), (8, .sl (fresh ob) j.1.length)])
  (fun j => (fresh ob, .arr 9 1 (j.1.map enc)) :: setO ob p (pb j.2 en S))
  (fun j => j.1.length ≤ most ∧ PK K ob p en S (fun l => .d (.list 1 (l.map enc))) ((Xp begins read (most - j.1.length) >>= fun l => pure (j.1 ++ l)) j.2)) (fun j => most - j.1.length) ([], ts) ⟨by simp, ?_⟩ (by simp) (by simp [Ye hp]) ?_
 ·simp only [List.length_nil, Nat.sub_zero, List.nil_append]
  rw [Xd]
  cases hr : Xp begins read most ts with
  | ok a ts' => rw [hr] at h; exact h
  | err ts' e => rw [hr] at h; exact h
 rintro ⟨l, ts1⟩ ⟨hl, h⟩ R rn re rr rp
 dsimp only at hl h rn
 simp [Xxt, hp, hS, hbc]
 refine hb _ _ _ ?_
 cases hbg : begins ts1 with
 | false =>
  simp [hp, hS]
  refine re _ _ _ ?_
  have h' : PK K ob p en S (fun l => .d (.list 1 (l.map enc))) (.ok l ts1) := by
   rw [Xd] at h
   cases hn : most - l.length <;> simpa [hn, Xp, hbg] using h
  simp [hp, hS]
  exact Xb hp hm h' (by simp) (by simp [hp])
 | true =>
  by_cases he : l.length = most
  ·simp [he, Xp, hbg, Xd] at h
   simp [hp, hS, he]
   refine Ws hP hS (ts := ts1) (en := en) (S := S) (by simp [hp]) _ ?_
   simp [hp]
   refine rp _ _ _ ?_
   simp
   exact Xb hp hm h (by simp) (by simp [hp])
  ·have hne : ¬ ((l.length : Int) = most) := by omega
   obtain ⟨n, hn⟩ : ∃ n, most - l.length = n + 1 := ⟨most - l.length - 1, by omega⟩
   simp only [hn] at h
   simp only [Xd, Xp, hbg, if_true] at h
   simp [hp, hS, hne, hrc, Xzk]
   refine hr _ _ _ ?_
   cases ha : read ts1 with
   | err ts' e =>
    simp only [ha] at h
    simp
    refine rp _ _ _ ?_
    simp
    exact Xb hp hm h (by simp) (by simp [hp])
   | ok a ts' =>
    simp only [ha] at h
    simp [hp, hS, hsh]
    refine ⟨by omega, ?_⟩
    refine rn [] (l ++ [a], ts') _ _ ⟨by simp; omega, ?_⟩ (by simp; omega) (by simp) (by simp [hp]) (by simp [hp, hv1]) ?_
    ·simp only [List.length_append, List.length_singleton, show most - (l.length + 1) = n by omega]
     rw [Xd]
     cases hl2 : Xp begins read n ts' with
     | err ts2 e => simp only [hl2] at h; exact h
     | ok l2 ts2 => simp only [hl2] at h; simpa using h
    ·simp
     refine noMenO_set_box _ _ _ _ _ (Xm _ hm) ?_
     have := Yw (Xm 1 (l := []) hm) hp
     simpa [pv] using this
end
end Go.Proofs.YtanpgmgkmfckaaaGreatDoor
/- Contracts: names with commas, types, fields, dependencies. Condition: the program is the seat's, and its intervals are laid. -/
namespace Go.Proofs.YtanpgmgkmfckaaaGreatDoor
open Go Go.Ab Go.Lx Go.Sx
set_option maxRecDepth 100000
attribute [local simp ↓] ql qn qo qi qh qj qk qm zs zp zr zt zq zl zm zk zo zn qq qp qw qx zg qy qv qr zh qu qt qs qz zb za zd ze zf zw zu zy zx qb qa qd qc qe qg qf zj zi
section
variable {P : Prg} (hP : P.p = Tryz.prog) {ob : Objs} {p : Nat} {ts : List Tok} {en : Int} {S : V} (hS : V.allD [S] = none) (hp : lookO ob p = some (pb ts en S)) {K : Out → Objs → Prop}
include hP
theorem V5 : Xh P.p 175 = true ∧ Xh P.p 177 = true ∧ Xh P.p 137 = true ∧ Xh P.p 70 = true ∧ Xh P.p 72 = true ∧ Xh P.p 74 = true ∧ Xh P.p 76 = true ∧ Xh P.p 78 = true := by
 rw [hP]; exact ⟨by kernel_rfl, by kernel_rfl, by kernel_rfl, by kernel_rfl, by kernel_rfl, by kernel_rfl, by kernel_rfl, by kernel_rfl⟩
include hS hp
theorem Xrq {b1 : Nat} (h1 : lookO ob b1 = some (.box 63 (.ptr p []))) (h : K (.ret (.d (.bool (Xf 3 [44] ts)))) (setO ob p (pb ts en S))) : ACall P 175 [.ptr b1 []] ob K := by
 refine acall_lift hP mixed Yei Yee TOk.nil fun _ hm => ?_
 simp [Yf2, hp, h1]
 refine Jw hP hS hp _ _ ?_
 simp [hp]
 exact Xb hp hm h (by simp) (by simp [hp])
theorem Xun {b1 : Nat} (h1 : lookO ob b1 = some (.box 63 (.ptr p []))) (h : PK K ob p en S (fun a => .d (.str a)) ((do X0 [44]; X5 : M B) ts)) : ACall P 177 [.ptr b1 []] ob K := by
 have hbp : (b1 == p) = false := by rw [beq_eq_false_iff_ne]; intro e; subst e; rw [h1] at hp; cases hp
 have hpb : (p == b1) = false := by rw [beq_eq_false_iff_ne]; intro e; subst e; rw [h1] at hp; cases hp
 refine acall_lift hP mixed Ygx Ydt TOk.nil fun _ hm => ?_
 simp [Yf8, hp, h1]
 refine Yb hP hS hp _ (PK.bind h (fun ts' e h => ?_) (fun a ts' ha h => ?_))
 ·simp
  exact Xb hp hm h (by simp) (by simp [hp])
 simp [hp, h1, hbp, hpb]
 refine Y3 hP hS (by simp [hp]) (PK.tail h (fun ts' e h => ?_) (fun a ts' ha h => ?_))
 ·simp
  exact Xb hp hm h (by simp) (by simp [hp])
 simp [hp, h1]
 exact Xb hp hm h (by simp) (by simp [hp])
theorem Xnf (most : Nat) (h0 : 1 ≤ most) (hmost : most ≤ 1000) (h : PK K ob p en S (fun l => .d (X4 l)) (W6 most ts)) : ACall P 136 [.ptr p [], .d (.int .i64 most)] ob K := by
 refine acall_lift hP mixed Yen Yeg TOk.nil fun _ hm => ?_
 simp [Yc2, hp, hS]
 refine Y3 hP hS (by simp [hp]) (PK.bind h (fun ts' e h => ?_) (fun a ts' ha h => ?_))
 ·simp
  exact Xb hp hm h (by simp) (by simp [hp])
 simp [hp, hS]
 have hw : IntKind.i64.wrap ((most : Int) - 1) = ((most - 1 : Nat) : Int) := by rw [IntWalk.i64_in _ (by omega)]; omega
 rw [hw]
 refine X4h hP hS (by simp [hp]) (enc := D.str) (fun _ => rfl) (Xf 3 [44]) (do X0 [44]; X5) (most - 1) (by omega) _ _ [] _ [] _ (V5 hP).1 (V5 hP).2.1 _ rfl (fun ts o K h => ?_) (fun ts o K h => ?_) (PK.bind h (fun ts' e h => ?_) (fun l ts' ha h => ?_))
 ·exact Xrq hP hS (p := p) (ts := ts) (en := en) (by simp [hp]) (by simp [hp]) (by simpa [hp] using h)
 ·exact Xun hP hS (p := p) (ts := ts) (en := en) (by simp [hp]) (by simp [hp]) (by simpa [hp] using h)
 ·simp [hp]
  exact Xb hp hm h (by simp) (by simp [hp])
 have hl := Xb9 ha
 simp [hp, show 1 + l.length = l.length + 1 by omega]
 refine ⟨by omega, ?_⟩
 exact Xb hp hm h (by simp) (by simp [hp])
theorem X7b (hI : Ivl P) (h : PK K ob p en S (fun x => .d x.enc) (Xlo ts)) : ACall P 135 [.ptr p []] ob K := by
 refine acall_lift hP mixed Ygd Yey TOk.nil fun _ hm => ?_
 simp [Yff, hp, hS, hI.factors, hI.editions, hI.mosts, hI.weights, hI.anyN]
 refine Yx hP hS (by simp [hp]) _ _ (PK.bind h (fun ts' e h => ?_) (fun a ts' ha h => ?_))
 ·simp
  exact Xb hp hm h (by simp) (by simp [hp])
 cases a
 ·skip
  simp only [Bool.false_eq_true, if_false, if_true, Xx, Yi] at h
  simp [hp, hS, hI.factors, hI.editions, hI.mosts, hI.weights, hI.anyN]
  refine Yx hP hS (by simp [hp]) _ _ (PK.bind h (fun ts' e h => ?_) (fun a ts' ha h => ?_))
  ·simp
   exact Xb hp hm h (by simp) (by simp [hp])
  cases a
  ·skip
   simp only [Bool.false_eq_true, if_false, if_true, Xx, Yi] at h
   simp [hp, hS, hI.factors, hI.editions, hI.mosts, hI.weights, hI.anyN]
   refine Yx hP hS (by simp [hp]) _ _ (PK.bind h (fun ts' e h => ?_) (fun a ts' ha h => ?_))
   ·simp
    exact Xb hp hm h (by simp) (by simp [hp])
   cases a
   ·skip
    simp only [Bool.false_eq_true, if_false, if_true, Xx, Yi] at h
    simp [hp, hS, hI.factors, hI.editions, hI.mosts, hI.weights, hI.anyN]
    refine Yx hP hS (by simp [hp]) _ _ (PK.bind h (fun ts' e h => ?_) (fun a ts' ha h => ?_))
    ·simp
     exact Xb hp hm h (by simp) (by simp [hp])
    cases a
    ·skip
     simp only [Bool.false_eq_true, if_false, if_true, Xx, Yi] at h
     simp [hp, hS, hI.factors, hI.editions, hI.mosts, hI.weights, hI.anyN]
     refine Ws hP hS (ts := ts') (en := en) (S := S) (by simp [hp]) _ ?_
     simp [hp]
     exact Xb hp hm h (by simp) (by simp [hp])
    ·skip
     simp only [Bool.false_eq_true, if_false, if_true, Xx, Yi] at h
     simp [hp, hS, hI.factors, hI.editions, hI.mosts, hI.weights, hI.anyN]
     refine Xnf hP hS (by simp [hp]) 16 (by decide) (by decide) (PK.bind h (fun ts' e h => ?_) (fun l ts' ha h => ?_))
     ·simp
      exact Xb hp hm h (by simp) (by simp [hp])
     have hl := Xji ha
     have hw : IntKind.i64.wrap ((l.length : Int) - 1) = (l.length : Int) - 1 := IntWalk.i64_in _ (by omega)
     simp [hp, hS, X4, hw, Jt]
     exact Xb hp hm h (by simp) (by simp [hp])
   ·skip
    simp only [Bool.false_eq_true, if_false, if_true, Xx, Yi] at h
    simp [hp, hS, hI.factors, hI.editions, hI.mosts, hI.weights, hI.anyN, Jt]
    exact Xb hp hm h (by simp) (by simp [hp])
  ·skip
   simp only [Bool.false_eq_true, if_false, if_true, Xx, Yi] at h
   simp [hp, hS, hI.factors, hI.editions, hI.mosts, hI.weights, hI.anyN, Jt]
   exact Xb hp hm h (by simp) (by simp [hp])
 ·skip
  simp only [Bool.false_eq_true, if_false, if_true, Xx, Yi] at h
  simp [hp, hS, hI.factors, hI.editions, hI.mosts, hI.weights, hI.anyN]
  refine Y8 hP hS (by simp [hp]) _ _ (PK.bind h (fun ts' e h => ?_) (fun a ts' ha h => ?_))
  ·simp
   exact Xb hp hm h (by simp) (by simp [hp])
  simp [hp, hS, hI.factors, hI.editions, hI.mosts, hI.weights, hI.anyN]
  refine Zf hP hS (by simp [hp]) _ (PK.bind h (fun ts' e h => ?_) (fun a ts' ha h => ?_))
  ·simp
   exact Xb hp hm h (by simp) (by simp [hp])
  simp [hp, hS, hI.factors, hI.editions, hI.mosts, hI.weights, hI.anyN]
  refine Y8 hP hS (by simp [hp]) _ _ (PK.bind h (fun ts' e h => ?_) (fun a ts' ha h => ?_))
  ·simp
   exact Xb hp hm h (by simp) (by simp [hp])
  simp [hp, hS, hI.factors, hI.editions, hI.mosts, hI.weights, hI.anyN]
  refine Yx hP hS (by simp [hp]) _ _ (PK.bind h (fun ts' e h => ?_) (fun a ts' ha h => ?_))
  ·simp
   exact Xb hp hm h (by simp) (by simp [hp])
  cases a
  ·skip
   simp only [Bool.false_eq_true, if_false, if_true, Xx, Yi] at h
   simp [hp, hS, hI.factors, hI.editions, hI.mosts, hI.weights, hI.anyN, Jt]
   exact Xb hp hm h (by simp) (by simp [hp])
  ·skip
   simp only [Bool.false_eq_true, if_false, if_true, Xx, Yi] at h
   simp [hp, hS, hI.factors, hI.editions, hI.mosts, hI.weights, hI.anyN]
   refine Y3 hP hS (by simp [hp]) (PK.bind h (fun ts' e h => ?_) (fun a ts' ha h => ?_))
   ·simp
    exact Xb hp hm h (by simp) (by simp [hp])
   simp [hp, hS, hI.factors, hI.editions, hI.mosts, hI.weights, hI.anyN, Jt]
   exact Xb hp hm h (by simp) (by simp [hp])
theorem X39 (hI : Ivl P) (h : PK K ob p en S (fun x => .d x.enc) (Uj ts)) : ACall P 66 [.ptr p []] ob K := by
 refine acall_lift hP mixed Yr8 Ypd TOk.nil fun _ hm => ?_
 simp [Yn6, hp, hS, hI.factors, hI.editions, hI.mosts, hI.weights, hI.anyN]
 refine Zf hP hS (by simp [hp]) _ (PK.bind h (fun ts' e h => ?_) (fun a ts' ha h => ?_))
 ·simp
  exact Xb hp hm h (by simp) (by simp [hp])
 simp [hp, hS, hI.factors, hI.editions, hI.mosts, hI.weights, hI.anyN]
 refine Y3 hP hS (by simp [hp]) (PK.bind h (fun ts' e h => ?_) (fun a ts' ha h => ?_))
 ·simp
  exact Xb hp hm h (by simp) (by simp [hp])
 simp [hp, hS, hI.factors, hI.editions, hI.mosts, hI.weights, hI.anyN]
 refine Yb hP hS (by simp [hp]) _ (PK.bind h (fun ts' e h => ?_) (fun a ts' ha h => ?_))
 ·simp
  exact Xb hp hm h (by simp) (by simp [hp])
 simp [hp, hS, hI.factors, hI.editions, hI.mosts, hI.weights, hI.anyN]
 refine X7b hP hS (by simp [hp]) hI (PK.bind h (fun ts' e h => ?_) (fun a ts' ha h => ?_))
 ·simp
  exact Xb hp hm h (by simp) (by simp [hp])
 simp [hp, hS, hI.factors, hI.editions, hI.mosts, hI.weights, hI.anyN]
 refine Xhn hP hS (by simp [hp]) hI (PK.bind h (fun ts' e h => ?_) (fun l ts' ha h => ?_))
 ·simp
  exact Xb hp hm h (by simp) (by simp [hp])
 obtain ⟨a0, b0, c0, d0, rfl⟩ := Un ha
 simp [hp, hS]
 refine Yb hP hS (by simp [hp]) _ (PK.bind h (fun ts' e h => ?_) (fun a ts' ha h => ?_))
 ·simp
  exact Xb hp hm h (by simp) (by simp [hp])
 simp [hp, hS, hI.factors, hI.editions, hI.mosts, hI.weights, hI.anyN]
 exact Xb hp hm h (by simp) (by simp [hp])
theorem Xyx (h : PK K ob p en S (fun x => .d x.enc) (Uf ts)) : ACall P 67 [.ptr p []] ob K := by
 refine acall_lift hP mixed Ym8 Yr0 TOk.nil fun _ hm => ?_
 simp [Yob, hp, hS]
 refine Zf hP hS (by simp [hp]) _ (PK.bind h (fun ts' e h => ?_) (fun a ts' ha h => ?_))
 ·simp
  exact Xb hp hm h (by simp) (by simp [hp])
 simp [hp, hS]
 refine Xnf hP hS (by simp [hp]) 11 (by decide) (by decide) (PK.bind h (fun ts' e h => ?_) (fun l ts' ha h => ?_))
 ·simp
  exact Xb hp hm h (by simp) (by simp [hp])
 simp [hp, hS, X4]
 refine Zf hP hS (by simp [hp]) _ (PK.bind h (fun ts' e h => ?_) (fun a ts' ha h => ?_))
 ·simp
  exact Xb hp hm h (by simp) (by simp [hp])
 simp [hp, hS]
 refine Y3 hP hS (by simp [hp]) (PK.bind h (fun ts' e h => ?_) (fun a ts' ha h => ?_))
 ·simp
  exact Xb hp hm h (by simp) (by simp [hp])
 simp [hp, hS]
 refine Yb hP hS (by simp [hp]) _ (PK.bind h (fun ts' e h => ?_) (fun a ts' ha h => ?_))
 ·simp
  exact Xb hp hm h (by simp) (by simp [hp])
 simp [hp, hS]
 exact Xb hp hm h (by simp) (by simp [hp])
end
end Go.Proofs.YtanpgmgkmfckaaaGreatDoor
/- Contracts: the definitions. Condition: the program is the seat's, and its intervals are laid. -/
namespace Go.Proofs.YtanpgmgkmfckaaaGreatDoor
open Go Go.Ab Go.Lx Go.Sx
set_option maxRecDepth 100000
attribute [local simp ↓] ql qn qo qi qh qj qk qm zs zp zr zt zq zl zm zk zo zn qq qp qw qx zg qy qv qr zh qu qt qs qz zb za zd ze zf zw zu zy zx qb qa qd qc qe qg qf zj zi
section
variable {P : Prg} (hP : P.p = Tryz.prog) (hI : Ivl P) {ts : List Tok} {en : Int} {s : Src} (hs : Few s) {K : Out → Objs → Prop}
include hP hI hs
theorem Xy0 (h : PS K en (Uq s ts)) : ACall P 19 [.ptr 4 []] (stO en ts s) K := by
 refine acall_lift hP mixed Yss Ysm TOk.nil fun _ hm => ?_
 simp [Yrv, hI.factors, hI.editions, hI.mosts, hI.weights, hI.anyN]
 refine Xa5 hP (S := Yp s) (by simp) (by simp) _ 8 (PS.bind h (fun ts' e h => ?_) (fun a ts' ha h => ?_))
 ·simp
  exact Xj (h s) (by simp) (by simp [young])
 simp [hI.factors, hI.editions, hI.mosts, hI.weights, hI.anyN]
 refine Zf hP (S := Yp s) (by simp) (by simp) _ (PS.bind h (fun ts' e h => ?_) (fun a ts' ha h => ?_))
 ·simp
  exact Xj (h s) (by simp) (by simp [young])
 simp [hI.factors, hI.editions, hI.mosts, hI.weights, hI.anyN]
 refine ⟨?_, ?_⟩
 ·skip
  refine Y3 hP (S := Yp s) (by simp) (by simp) (PS.bind h (fun ts' e h => ?_) (fun a ts' ha h => ?_))
  ·simp
   exact Xj (h s) (by simp) (by simp [young])
  simp [hI.factors, hI.editions, hI.mosts, hI.weights, hI.anyN]
  refine ⟨by have := hs.issuers; omega, ?_⟩
  refine Yb hP (S := Yp { s with issuers := s.issuers ++ [a] }) (by simp) (by simp) _ (PS.bind h (fun ts' e h => ?_) (fun a ts' ha h => ?_))
  ·simp
   exact Xj (h { s with issuers := s.issuers ++ [a] }) (by simp) (by simp [young])
  simp [hI.factors, hI.editions, hI.mosts, hI.weights, hI.anyN]
  exact Xj h (by simp) (by simp)
 ·skip
  refine Y3 hP (S := Yp s) (by simp) (by simp) (PS.bind h (fun ts' e h => ?_) (fun a ts' ha h => ?_))
  ·simp
   exact Xj (h s) (by simp) (by simp [young])
  simp [hI.factors, hI.editions, hI.mosts, hI.weights, hI.anyN]
  refine ⟨by have := hs.issuers; omega, ?_⟩
  refine Yb hP (S := Yp { s with issuers := s.issuers ++ [a] }) (by simp) (by simp) _ (PS.bind h (fun ts' e h => ?_) (fun a ts' ha h => ?_))
  ·simp
   exact Xj (h { s with issuers := s.issuers ++ [a] }) (by simp) (by simp [young])
  simp [hI.factors, hI.editions, hI.mosts, hI.weights, hI.anyN]
  exact Xj h (by simp) (by simp)
end
end Go.Proofs.YtanpgmgkmfckaaaGreatDoor
/- Contracts: the definitions. Condition: the program is the seat's, and its intervals are laid. -/
namespace Go.Proofs.YtanpgmgkmfckaaaGreatDoor
open Go Go.Ab Go.Lx Go.Sx
set_option maxRecDepth 100000
attribute [local simp ↓] ql qn qo qi qh qj qk qm zs zp zr zt zq zl zm zk zo zn qq qp qw qx zg qy qv qr zh qu qt qs qz zb za zd ze zf zw zu zy zx qb qa qd qc qe qg qf zj zi
section
variable {P : Prg} (hP : P.p = Tryz.prog) (hI : Ivl P) {ts : List Tok} {en : Int} {s : Src} (hs : Few s) {K : Out → Objs → Prop}
include hP hI hs
theorem Yah (h : PS K en (Xhf s ts)) : ACall P 20 [.ptr 4 []] (stO en ts s) K := by
 refine acall_lift hP mixed Yos Ysw TOk.nil fun _ hm => ?_
 simp [Ysu, hI.factors, hI.editions, hI.mosts, hI.weights, hI.anyN]
 refine Xa5 hP (S := Yp s) (by simp) (by simp) _ 16 (PS.bind h (fun ts' e h => ?_) (fun a ts' ha h => ?_))
 ·simp
  exact Xj (h s) (by simp) (by simp [young])
 simp [hI.factors, hI.editions, hI.mosts, hI.weights, hI.anyN]
 refine Zf hP (S := Yp s) (by simp) (by simp) _ (PS.bind h (fun ts' e h => ?_) (fun a ts' ha h => ?_))
 ·simp
  exact Xj (h s) (by simp) (by simp [young])
 simp [hI.factors, hI.editions, hI.mosts, hI.weights, hI.anyN]
 refine Y3 hP (S := Yp s) (by simp) (by simp) (PS.bind h (fun ts' e h => ?_) (fun a ts' ha h => ?_))
 ·simp
  exact Xj (h s) (by simp) (by simp [young])
 simp [hI.factors, hI.editions, hI.mosts, hI.weights, hI.anyN]
 refine Yx hP (S := Yp s) (by simp) (by simp) _ _ (PS.bind h (fun ts' e h => ?_) (fun a ts' ha h => ?_))
 ·simp
  exact Xj (h s) (by simp) (by simp [young])
 cases a
 ·skip
  simp only [Bool.false_eq_true, if_false, if_true, Xx, Yi] at h
  simp [hI.factors, hI.editions, hI.mosts, hI.weights, hI.anyN, Xwa]
  refine Yb hP (S := Yp s) (by simp) (by simp) _ (PS.bind h (fun ts' e h => ?_) (fun a ts' ha h => ?_))
  ·simp
   exact Xj (h s) (by simp) (by simp [young])
  simp [hI.factors, hI.editions, hI.mosts, hI.weights, hI.anyN]
  refine ⟨by have := hs.units; omega, ?_⟩
  exact Xj h (by simp) (by simp [young, UnitT.enc])
 ·skip
  simp only [Bool.false_eq_true, if_false, if_true, Xx, Yi] at h
  simp [hI.factors, hI.editions, hI.mosts, hI.weights, hI.anyN]
  refine Y8 hP (S := Yp s) (by simp) (by simp) _ _ (PS.bind h (fun ts' e h => ?_) (fun a ts' ha h => ?_))
  ·simp
   exact Xj (h s) (by simp) (by simp [young])
  simp [hI.factors, hI.editions, hI.mosts, hI.weights, hI.anyN]
  refine Y3 hP (S := Yp s) (by simp) (by simp) (PS.bind h (fun ts' e h => ?_) (fun a ts' ha h => ?_))
  ·simp
   exact Xj (h s) (by simp) (by simp [young])
  simp [hI.factors, hI.editions, hI.mosts, hI.weights, hI.anyN, Xwa]
  refine Yb hP (S := Yp s) (by simp) (by simp) _ (PS.bind h (fun ts' e h => ?_) (fun a ts' ha h => ?_))
  ·simp
   exact Xj (h s) (by simp) (by simp [young])
  simp [hI.factors, hI.editions, hI.mosts, hI.weights, hI.anyN]
  refine ⟨by have := hs.units; omega, ?_⟩
  exact Xj h (by simp) (by simp [young, UnitT.enc])
end
end Go.Proofs.YtanpgmgkmfckaaaGreatDoor
/- The abstract statements that stand for the code of these functions, written by a program from the translation; that they do is checked by the kernel. No condition. -/
namespace Go.Proofs.YtanpgmgkmfckaaaGreatDoor
open Go Go.Ab
set_option maxRecDepth 100000
def X89 : Nat := 0x440c20c71840c2142e2c041e2c3070080b8783000
def X19 : Nat := 0x100a0c40c20c81c610308643a0eddec099347002000dac1040c20f62071840c21f5b01badb08083b74b0c0c0b7dcec001040b7dcac000080b7d003b71b04180b7dc2c001040b7dbec000080b7dbac140b7d1c002df6cb00ac141c22c78c0000821030832071840c21aa25ea6200800255da000419c1042003b661069400419000028c51c01802800020450070e11040c20e11c6103086003b603c37c47800417400027051dd786000082
def Ybj : S := zS [(zS [] X89)] X19
def ir9 : FSt := .pre (.rg [] [.op (some 2) (.alloc 30 (.agg [.nils, .nils, .nils, .nils, .nils, .nils])),
   .op (some 3) (.alloc 3 (.int .i64 0)),
   .op (some 4) (.alloc 31 (.int .i64 0))] [0, 2, 3, 4] [])
 (.pre (.rg [] [.op (some 10) (.c (.mv (.t 0))),
   .op (some 11) (.pcall 15 [(.t 10)]),
   .op (some 9) (.c (.mv (.t 11))),
   .op (some 12) (.c (.ext (.t 9) 0)),
   .op (some 13) (.c (.ext (.t 9) 1)),
   .op (some 14) (.c (.ext (.t 9) 2)),
   .op (some 5) (.c (.mv (.t 12))),
   .op none (.st 1 (.t 3) (.t 13)),
   .op none (.st 1 (.t 4) (.t 14))] [0, 2, 3, 4, 5] [])
 (.pre (.seq (.rg [] [.op (some 15) (.c (.ld 1 false (.t 4))),
   .op (some 16) (.c (.bin .neq (.t 15) (.int .i64 0)))] [0, 2, 3, 4, 5, 16] [])
 (.cond (.t 16) (.seq (.rgT 6 (.one 0 (.op (some 17) (.c (.ld 6 true (.t 2))))
  (.br (.cons 1 (.op (some 18) (.c (.ld 1 false (.t 3)))) (.br (.cons 2 (.op (some 19) (.c (.ld 1 false (.t 4)))) (.one 3 (.op none (.st 6 (.t 2) (.t 17)))
  (.one 4 (.op none (.st 1 (.t 3) (.t 18)))
  (.one 5 (.op none (.st 1 (.t 4) (.t 19)))
  (.done))))
  (.cons 3 (.op none (.st 6 (.t 2) (.t 17))) (.br (.cons 2 (.op (some 19) (.c (.ld 1 false (.t 4)))) (.one 4 (.op none (.st 1 (.t 3) (.t 18)))
  (.one 5 (.op none (.st 1 (.t 4) (.t 19)))
  (.done)))
  (.cons 4 (.op none (.st 1 (.t 3) (.t 18))) (.br (.cons 2 (.op (some 19) (.c (.ld 1 false (.t 4)))) (.one 5 (.op none (.st 1 (.t 4) (.t 19)))
  (.done))
  (.nil)))
  (.nil))))
  (.nil))))
  (.cons 2 (.op (some 19) (.c (.ld 1 false (.t 4)))) (.br (.cons 1 (.op (some 18) (.c (.ld 1 false (.t 3)))) (.one 3 (.op none (.st 6 (.t 2) (.t 17)))
  (.one 4 (.op none (.st 1 (.t 3) (.t 18)))
  (.one 5 (.op none (.st 1 (.t 4) (.t 19)))
  (.done))))
  (.cons 3 (.op none (.st 6 (.t 2) (.t 17))) (.br (.cons 1 (.op (some 18) (.c (.ld 1 false (.t 3)))) (.one 4 (.op none (.st 1 (.t 3) (.t 18)))
  (.one 5 (.op none (.st 1 (.t 4) (.t 19)))
  (.done)))
  (.nil)))
  (.nil))))
  (.cons 3 (.op none (.st 6 (.t 2) (.t 17))) (.br (.cons 1 (.op (some 18) (.c (.ld 1 false (.t 3)))) (.br (.cons 2 (.op (some 19) (.c (.ld 1 false (.t 4)))) (.one 4 (.op none (.st 1 (.t 3) (.t 18)))
  (.one 5 (.op none (.st 1 (.t 4) (.t 19)))
  (.done)))
  (.cons 4 (.op none (.st 1 (.t 3) (.t 18))) (.br (.cons 2 (.op (some 19) (.c (.ld 1 false (.t 4)))) (.one 5 (.op none (.st 1 (.t 4) (.t 19)))
  (.done))
  (.nil)))
  (.nil))))
  (.cons 2 (.op (some 19) (.c (.ld 1 false (.t 4)))) (.br (.cons 1 (.op (some 18) (.c (.ld 1 false (.t 3)))) (.one 4 (.op none (.st 1 (.t 3) (.t 18)))
  (.one 5 (.op none (.st 1 (.t 4) (.t 19)))
  (.done)))
  (.nil)))
  (.nil))))
  (.nil)))))) [2, 3, 4] [])
 (.ret)) (.skip)))
 (.dfr [.op (some 20) (.c (.mkf 18 [] [(.t 2), (.t 3), (.t 4)]))] [0, 2, 3, 4, 5, 20] 20
 (.seq (.rg [] [.op (some 21) (.mkm none),
   .op none (.mset (.str []) (.t 21) (.str [105, 115, 115, 117, 101, 114]) (.fn 19)),
   .op none (.mset (.str []) (.t 21) (.str [117, 110, 105, 116]) (.fn 20)),
   .op none (.mset (.str []) (.t 21) (.str [115, 99, 104, 101, 109, 97]) (.fn 21)),
   .op none (.mset (.str []) (.t 21) (.str [100, 101, 114, 105, 118, 101]) (.fn 22)),
   .op none (.mset (.str []) (.t 21) (.str [99, 111, 110, 118, 101, 114, 116]) (.fn 23)),
   .op none (.mset (.str []) (.t 21) (.str [112, 117, 114, 112, 111, 115, 101]) (.fn 24)),
   .op (some 22) (.c (.mv (.t 21))),
   .op (some 6) (.c (.mv (.t 22)))] [0, 2, 3, 4, 5, 6] [2, 3, 4])
 (.seq (.rg [] [.op (some 23) (.c (.mv (.t 5))),
   .op (some 24) (.c (.mv (.t 0))),
   .op (some 25) (.c (.lenS (.t 24))),
   .op (some 26) (.c (.bld [.nils, .int .i64 0, .agg [.nils, .nils, .nils, .nils, .nils, .nils]] [(0, (.t 23)), (1, (.t 25))])),
   .op (some 27) (.box 66 (.t 26)),
   .op (some 7) (.mvn (.t 27) (.t 27) [(9, 1, [2, 0]), (74, 5, [2, 1]), (79, 6, [2, 2]), (50, 5, [2, 3]), (84, 5, [2, 4]), (88, 3, [2, 5])])] [2, 3, 4, 6, 7] [2, 3, 4])
 (.seq (.block 0 (.loop [2, 3, 4, 6, 7] Ybj))
 (.seq (.rg [] [.op (some 60) (.c (.mv (.t 7))),
   .op (some 61) (.c (.nilc (.t 60))),
   .op (some 62) (.c (.fldA 2 2 (.t 61))),
   .op (some 63) (.ldf 6 true (.t 62)),
   .op none (.st 6 (.t 2) (.t 63)),
   .op none (.st 1 (.t 3) (.int .i64 0)),
   .op none (.st 1 (.t 4) (.int .i64 0))] [2, 3, 4] [2, 3, 4])
 (.ret))))))))
theorem ok9 : Xpu Tryz.prog 9 1 ir9 [.c 2 6 true, .c 3 1 false, .c 4 1 false] = true := by kernel_rfl
def Yb7 : Nat := 0x1002002002e2c0f8b01507042104086041e2cdac0392e5e03e2d141d6c001ddf041080e2c0010030040450c00c00020030000c00030060050020c014100b484002e2c0f8b01507042104086041e2cdac0392e5e0f141038b000400c01011430030000800c00030000c01801400830050402c2e30101d6c001ddf0420b7b012b8343002e2c0f8b01507042104086041e2cdac0392e5e0f141038b000400c01011430030000800c00030000c01801400830050402d2101dec04ae01e2b0c1d6c001ddf042080038782042104da0001201
def Xz5 : Nat := 0x40080080478b12e2c0541c1085142181438b0de2c438128e12e2d141338b0004ee1f04108fe2c0010030030020c4005040112100478b12e2c0541c1085142181438b0de2c438128e0f1413f8b000400c00c0083100141004478c0404ce2c0013b87c10823b8b012f8343011e2c4b8b01507042145086050e2c378b10e04a383c504fe2c0010030030020c40050401121013b8b012f8438ac304ce2c0013b87c108200fe1e08108514de20001201
def Xvp : Nat := 0x40080090e83b6b099340b1e0800002800800900ed2b8b07e2c0c2e0d278b04238b00041085142008e1e140002138b04
def Xqq : Nat := 0x412801380800c6e2c178784385405106bc20ed178b032783401b87830000802800800980edcecc2c0c2e0dcac131b000410841020317850000adb04
def X04 : Nat := 0x401c3a84
def Xsb : Nat := 0x100a02d0800efb2e78430524616f083b6eb03278340bde0c0002085045
def Xrn : Nat := 0x104a00a02a0800e925d06f183b680c6e0d029783000082
def Xu4 : Nat := 0x400006f8b1ee2c054301778b020822c1738b020822814f8b052416b8b18e2ca38197e1ce2d2015f8b00059e1f141099e2c0010c30030000c000200218014100648701be2c7b8b0150c05de2c08208b05ce2c08208a053e2c14905ae2c638b28e065f83c8059e2c0010c30030000c00020021801410066f8c07057e2c0016787c508208118f6b8ec601be2c7b8b0150c05de2c08208b05ce2c08208a053e2c14905ae2c638b28e065f83c8059e2c0010c30030000c00020021801410064870420463dd1815f8b00041142096e2c082084055e2c082083054e2c14204000104053878004d040282002180142
def Xvs : Nat := 0x100a0020026c1be6085e0d141080128e107420000800800a49415021040a30010030040450c00c00020030000c00030060050020c014100b9784c304b91f100002
def Xrm : Nat := 0x100a0030800e18845031c20a0048e0d0217840000800c20037c32d40030040450c00c00020030000c00030060050020c0165e04b9e0463054c4bc00800c01011430030000800c00030000c018014008300a001ffef43b42183b400830030000800c00030000c01807e8100002
def Xju : Nat := 0x100a00200218c15312f7020f834075e080002
def Xkb : Nat := 0x4028008009a6c15020c30996021f8347fbc0c008300200504205774065e140002
def Xjk : Nat := 0x4028008008e3c94d21561ef5820f83405de080002
def Xlk : Nat := 0x100a0020025150540810424c113834051e100002
def Xkh : Nat := 0x100a0020026420af4420f834049e080002
def Xlb : Nat := 0x402800800900865030c00c00030000800860055f80ee3c00430c00c000300008008600a3811383403de140002
def Xjl : Nat := 0x4028000104d1480d31af3020f834035e080002
def n21 : Nat := 0x40280001803b4a1030b834910800104708208608208514000015e200002
def Yg3 : S := zS [(zS [(zS [(zS [(zS [(zS [(zS [(zS [(zS [(zS [(zS [(zS [(zS [] X04), (zS [(zS [(zS [] Yb7), (zS [(zS [] Xz5)] Xvp)] Xqq)] Xsb)] Xrn)] Xu4)] Xvs)] Xrm)] Xju)] Xkb)] Xjk)] Xlk)] Xkh)] Xlb)] Xjl)] n21
theorem Ypn : X1 Tryz.prog 21 1 Yg3 [] = true := by kernel_rfl
def X03 : Nat := 0x1000dac078b01500e2c0c30b7b02082bac175b33b28e05c8fd2c0010c30c00c0002140141005482045072b00041c6c0c30b0b02082bec140000bde34c2ca2481c61440c2040340
def Xvb : Nat := 0x100a002002741becb02178340b5e080002
def Xsj : Nat := 0x100a002002aab054084102a67583b65111e0d028052e1c7000141530ef98237834000099e200002
def Xtw : Nat := 0x100a0020028e40540830c28a0403b5e10fe0d021050e1c70000548521716f7c23783400007de200002
def Xto : Nat := 0x4028008009c74150208209b6460ed5c43383406813b871c00034f48612f60237834000061e200002
def X0j : Nat := 0x4300200243a0ed54264d016782000504
def Xtv : Nat := 0x412802805020034c934f48612f083b520c9e0d013783000082
def Xqo : Nat := 0x4028008009b06f40217834045e080002
def Xv3 : Nat := 0x100a0020023c21540c30c00c00021401720ee3800430c300300008500a34113834039e140002
def Xtg : Nat := 0x402800011562521441af2c20f834031e080002
def n22 : Nat := 0x40280001803b490c30b83481070010460c308508208414000011e200002
def Ylj : S := zS [(zS [(zS [(zS [(zS [(zS [] X0j), (zS [(zS [(zS [(zS [(zS [] X03)] Xvb)] Xsj)] Xtw)] Xto)] Xtv)] Xqo)] Xv3)] Xtg)] n22
theorem Ynn : X1 Tryz.prog 22 1 Ylj [] = true := by kernel_rfl
def Xz1 : Nat := 0x1000a2b054a84102a420828059e543815ce0f9800430030000c00020021401410054820450640010631040a20820a114000085e34c2ca2481c61440c2040340
def Xvz : Nat := 0x4028008009d06f7821783407de080002
def Xvo : Nat := 0x4028008009c74150210409b6560ed5c44f834068153871c00002f60237834000061e200002
def Xs1 : Nat := 0x4028008009b06f54217834059e080002
def Xqg : Nat := 0x100a0020024d40540810424811383404de100002
def Xq4 : Nat := 0x100a0020023d40af4020f834045e080002
def Xsg : Nat := 0x4028008008f0855030030000c000200214015ce03b8e0010c00c000300008008500a34113834039e140002
def Xr9 : Nat := 0x100a00005448558e3c31ef2c20f834031e080002
def n23 : Nat := 0x40280001803b490c30b834810700104610408508208414000011e200002
def Ymg : S := zS [(zS [(zS [(zS [(zS [(zS [(zS [(zS [(zS [] Xz1)] Xvz)] Xvo)] Xs1)] Xqg)] Xq4)] Xsg)] Xr9)] n23
theorem Ypv : X1 Tryz.prog 23 1 Ymg [] = true := by kernel_rfl
def X01 : Nat := 0x4002bbac054b6c1450acb020828c5aa8c038383e90010030030020c01410034820430670010661450a50820a414000091e34c2ca2481c61440c2040340
def Xr4 : Nat := 0x4028008009d06f84217834089e080002
def Xu5 : Nat := 0x100a002002ef006f7c217834081e080002
def Xv0 : Nat := 0x100a00200275e05408208271b087e0d2380c000300200504209774071e140002
def Xr7 : Nat := 0x100a0020025133cd12f6420f834069e080002
def Xvc : Nat := 0x40280080097601502041096508e03b52115e0d015056e1c70001904d0ef4c23783400004de200002
def Xqv : Nat := 0x4028008009b06f40217834045e080002
def Xte : Nat := 0x4028008008f0835000c00c00830058380ee3800400c00c008300a34113834039e140002
def Xv8 : Nat := 0x100a0000454cf4125501ef2c20f834031e080002
def n24 : Nat := 0x40280001403b490c30b834810700104614508508208414000011e200002
def Ymh : S := zS [(zS [(zS [(zS [(zS [(zS [(zS [(zS [(zS [(zS [] X01)] Xr4)] Xu5)] Xv0)] Xr7)] Xvc)] Xqv)] Xte)] Xv8)] n24
theorem Ynv : X1 Tryz.prog 24 1 Ymh [] = true := by kernel_rfl
end Go.Proofs.YtanpgmgkmfckaaaGreatDoor
/- The same statements with their regions folded into expressions, printed by the fold itself; that they are that is checked by the kernel. No condition. -/
namespace Go.Proofs.YtanpgmgkmfckaaaGreatDoor
open Go Go.Ab
set_option maxRecDepth 100000
def Xsw : S2 := zL [15] [] X89
def Yax := by
 have h := Eq.refl Xsw
 conv at h => rhs; cbv
 exact h
def Xzt : S2 := zL [15] [Xsw] X19
def Xz8 := by
 have h := fun (a : S2) => Eq.refl (zL [15] [a] X19)
 conv at h => intro a; rhs; cbv
 have e : Xzt = _ := h Xsw
 exact e
def lt9 : FS2 := .pre (.rg [.op (some 2) (.alloc 30 (.agg [.nils, .nils, .nils, .nils, .nils, .nils])), .op (some 3) (.alloc 3 (.int .i64 0)), .op (some 4) (.alloc 31 (.int .i64 0))] [(0, (.a (.t 0))), (2, (.a (.t 2))), (3, (.a (.t 3))), (4, (.a (.t 4)))] [])
 (.pre (.rg [.chk [] (.u (.ext (.t 0) 0) (.call 15 (.cons (.a (.t 0)) .nil))), .chk [] (.u (.ext (.t 0) 2) (.call 15 (.cons (.a (.t 0)) .nil))), .chk [] (.u (.ext (.t 0) 1) (.call 15 (.cons (.a (.t 0)) .nil))), .lt 13 [] (.u (.ext (.t 0) 1) (.call 15 (.cons (.a (.t 0)) .nil))), .op none (.st 1 (.t 3) (.t 13)), .lt 14 [] (.u (.ext (.t 0) 2) (.call 15 (.cons (.a (.t 0)) .nil))), .op none (.st 1 (.t 4) (.t 14))] [(0, (.a (.t 0))), (2, (.a (.t 2))), (3, (.a (.t 3))), (4, (.a (.t 4))), (5, (.u (.ext (.t 0) 0) (.call 15 (.cons (.a (.t 0)) .nil))))] [])
 (.pre (.seq (.rg [] [(0, (.a (.t 0))), (2, (.a (.t 2))), (3, (.a (.t 3))), (4, (.a (.t 4))), (5, (.a (.t 5))), (16, (.b (.bin .neq (.t 0) (.t 1)) (.u (.ld 1 false (.t 0)) (.a (.t 4))) (.a (.int .i64 0))))] [])
 (.cond (.t 16) (.seq (.rgT (.one 0 (.op (some 17) (.c (.ld 6 true (.t 2))))
  (.br (.cons 1 (.op (some 18) (.c (.ld 1 false (.t 3)))) (.br (.cons 2 (.op (some 19) (.c (.ld 1 false (.t 4)))) (.one 3 (.op none (.st 6 (.t 2) (.t 17)))
  (.one 4 (.op none (.st 1 (.t 3) (.t 18)))
  (.one 5 (.op none (.st 1 (.t 4) (.t 19)))
  (.done))))
  (.cons 3 (.op none (.st 6 (.t 2) (.t 17))) (.br (.cons 2 (.op (some 19) (.c (.ld 1 false (.t 4)))) (.one 4 (.op none (.st 1 (.t 3) (.t 18)))
  (.one 5 (.op none (.st 1 (.t 4) (.t 19)))
  (.done)))
  (.cons 4 (.op none (.st 1 (.t 3) (.t 18))) (.br (.cons 2 (.op (some 19) (.c (.ld 1 false (.t 4)))) (.one 5 (.op none (.st 1 (.t 4) (.t 19)))
  (.done))
  (.nil)))
  (.nil))))
  (.nil))))
  (.cons 2 (.op (some 19) (.c (.ld 1 false (.t 4)))) (.br (.cons 1 (.op (some 18) (.c (.ld 1 false (.t 3)))) (.one 3 (.op none (.st 6 (.t 2) (.t 17)))
  (.one 4 (.op none (.st 1 (.t 3) (.t 18)))
  (.one 5 (.op none (.st 1 (.t 4) (.t 19)))
  (.done))))
  (.cons 3 (.op none (.st 6 (.t 2) (.t 17))) (.br (.cons 1 (.op (some 18) (.c (.ld 1 false (.t 3)))) (.one 4 (.op none (.st 1 (.t 3) (.t 18)))
  (.one 5 (.op none (.st 1 (.t 4) (.t 19)))
  (.done)))
  (.nil)))
  (.nil))))
  (.cons 3 (.op none (.st 6 (.t 2) (.t 17))) (.br (.cons 1 (.op (some 18) (.c (.ld 1 false (.t 3)))) (.br (.cons 2 (.op (some 19) (.c (.ld 1 false (.t 4)))) (.one 4 (.op none (.st 1 (.t 3) (.t 18)))
  (.one 5 (.op none (.st 1 (.t 4) (.t 19)))
  (.done)))
  (.cons 4 (.op none (.st 1 (.t 3) (.t 18))) (.br (.cons 2 (.op (some 19) (.c (.ld 1 false (.t 4)))) (.one 5 (.op none (.st 1 (.t 4) (.t 19)))
  (.done))
  (.nil)))
  (.nil))))
  (.cons 2 (.op (some 19) (.c (.ld 1 false (.t 4)))) (.br (.cons 1 (.op (some 18) (.c (.ld 1 false (.t 3)))) (.one 4 (.op none (.st 1 (.t 3) (.t 18)))
  (.one 5 (.op none (.st 1 (.t 4) (.t 19)))
  (.done)))
  (.nil)))
  (.nil))))
  (.nil)))))) [2, 3, 4] [])
 (.ret)) (.skip)))
 (.dfr [.op (some 20) (.c (.mkf 18 [] [(.t 2), (.t 3), (.t 4)]))] [(0, (.a (.t 0))), (2, (.a (.t 2))), (3, (.a (.t 3))), (4, (.a (.t 4))), (5, (.a (.t 5))), (20, (.a (.t 20)))] 20
 (.seq (.rg [.op (some 21) (.mkm none), .op none (.mset (.str []) (.t 21) (.str [105, 115, 115, 117, 101, 114]) (.fn 19)), .op none (.mset (.str []) (.t 21) (.str [117, 110, 105, 116]) (.fn 20)), .op none (.mset (.str []) (.t 21) (.str [115, 99, 104, 101, 109, 97]) (.fn 21)), .op none (.mset (.str []) (.t 21) (.str [100, 101, 114, 105, 118, 101]) (.fn 22)), .op none (.mset (.str []) (.t 21) (.str [99, 111, 110, 118, 101, 114, 116]) (.fn 23)), .op none (.mset (.str []) (.t 21) (.str [112, 117, 114, 112, 111, 115, 101]) (.fn 24))] [(0, (.a (.t 0))), (2, (.a (.t 2))), (3, (.a (.t 3))), (4, (.a (.t 4))), (5, (.a (.t 5))), (6, (.a (.t 21)))] [2, 3, 4])
 (.seq (.rg [.chk [] (.u (.lenS (.t 0)) (.a (.t 0))), .lt 25 [] (.u (.lenS (.t 0)) (.a (.t 0))), .lt 23 [] (.a (.t 5)), .op (some 26) (.c (.bld [.nils, (.int .i64 0), (.agg [.nils, .nils, .nils, .nils, .nils, .nils])] [(0, (.t 23)), (1, (.t 25))])), .op (some 27) (.box 66 (.t 26)), .op (some 7) (.mvn (.t 27) (.t 27) [(9, 1, [2, 0]), (74, 5, [2, 1]), (79, 6, [2, 2]), (50, 5, [2, 3]), (84, 5, [2, 4]), (88, 3, [2, 5])])] [(2, (.a (.t 2))), (3, (.a (.t 3))), (4, (.a (.t 4))), (6, (.a (.t 6))), (7, (.a (.t 7)))] [2, 3, 4])
 (.seq (.block 0 (.loop [2, 3, 4, 6, 7] Xzt))
 (.seq (.rg [.chk [] (.u (.fldA 2 2 (.t 0)) (.u (.nilc (.t 0)) (.a (.t 7)))), .lt 62 [] (.u (.fldA 2 2 (.t 0)) (.u (.nilc (.t 0)) (.a (.t 7)))), .op (some 63) (.ldf 6 true (.t 62)), .op none (.st 6 (.t 2) (.t 63)), .op none (.st 1 (.t 3) (.int .i64 0)), .op none (.st 1 (.t 4) (.int .i64 0))] [(2, (.a (.t 2))), (3, (.a (.t 3))), (4, (.a (.t 4)))] [2, 3, 4])
 (.ret))))))))
theorem lf9 : ir9.lift [15] = some lt9 := by kernel_rfl
def Xl2 : S2 := .rgT (.one 0 (.op (some 53) (.c (.fldA 4 4 (.t 2))))
  (.one 2 (.op (some 55) (.c (.mv (.t 0))))
  (.br (.cons 1 (.op (some 54) (.c (.ld 1 false (.t 53)))) (.one 3 (.op (some 56) (.call 66 [(.t 55)]))
  (.one 4 (.op (some 57) (.bls 11 [.agg [.str [], .agg [.int .i64 0, .int .i64 0, .int .i64 0, .str [], .int .i64 0, .nils], .agg (List.replicate 4 (.int .i64 0))]] [(0, (.t 56))]))
  (.one 5 (.op (some 58) (.app 93 11 120 (.t 54) (.t 57)))
  (.one 6 (.op (some 59) (.c (.fldA 4 4 (.t 2))))
  (.one 7 (.op none (.st 1 (.t 59) (.t 58)))
  (.done))))))
  (.cons 3 (.op (some 56) (.call 66 [(.t 55)])) (.br (.cons 1 (.op (some 54) (.c (.ld 1 false (.t 53)))) (.one 4 (.op (some 57) (.bls 11 [.agg [.str [], .agg [.int .i64 0, .int .i64 0, .int .i64 0, .str [], .int .i64 0, .nils], .agg (List.replicate 4 (.int .i64 0))]] [(0, (.t 56))]))
  (.one 5 (.op (some 58) (.app 93 11 120 (.t 54) (.t 57)))
  (.one 6 (.op (some 59) (.c (.fldA 4 4 (.t 2))))
  (.one 7 (.op none (.st 1 (.t 59) (.t 58)))
  (.done)))))
  (.cons 4 (.op (some 57) (.bls 11 [.agg [.str [], .agg [.int .i64 0, .int .i64 0, .int .i64 0, .str [], .int .i64 0, .nils], .agg (List.replicate 4 (.int .i64 0))]] [(0, (.t 56))])) (.br (.cons 1 (.op (some 54) (.c (.ld 1 false (.t 53)))) (.one 5 (.op (some 58) (.app 93 11 120 (.t 54) (.t 57)))
  (.one 6 (.op (some 59) (.c (.fldA 4 4 (.t 2))))
  (.one 7 (.op none (.st 1 (.t 59) (.t 58)))
  (.done))))
  (.nil)))
  (.nil))))
  (.nil)))))) [0, 2] []
def Xlp : S2 := zL [] [] Xz5
def X3a := by
 have h := Eq.refl Xlp
 conv at h => rhs; cbv
 exact h
def Xmy : S2 := zL [] [Xlp] Xvp
def Xub := by
 have h := fun (a : S2) => Eq.refl (zL [] [a] Xvp)
 conv at h => intro a; rhs; cbv
 have e : Xmy = _ := h Xlp
 exact e
def Xk9 : S2 := zL [] [Xl2, Xmy] Xqq
def Xvt := by
 have h := fun (a b : S2) => Eq.refl (zL [] [a, b] Xqq)
 conv at h => intro a b; rhs; cbv
 have e : Xk9 = _ := h Xl2 Xmy
 exact e
def Xk4 : S2 := zL [] [] X04
def Xua := by
 have h := Eq.refl Xk4
 conv at h => rhs; cbv
 exact h
def Xl7 : S2 := zL [] [Xk9] Xsb
def X32 := by
 have h := fun (a : S2) => Eq.refl (zL [] [a] Xsb)
 conv at h => intro a; rhs; cbv
 have e : Xl7 = _ := h Xk9
 exact e
def Xkw : S2 := zL [] [Xk4, Xl7] Xrn
def X5h := by
 have h := fun (a b : S2) => Eq.refl (zL [] [a, b] Xrn)
 conv at h => intro a b; rhs; cbv
 have e : Xkw = _ := h Xk4 Xl7
 exact e
def Xj9 : S2 := zL [] [Xkw] Xu4
def X5i := by
 have h := fun (a : S2) => Eq.refl (zL [] [a] Xu4)
 conv at h => intro a; rhs; cbv
 have e : Xj9 = _ := h Xkw
 exact e
def Xih : S2 := zL [] [Xj9] Xvs
def X3v := by
 have h := fun (a : S2) => Eq.refl (zL [] [a] Xvs)
 conv at h => intro a; rhs; cbv
 have e : Xih = _ := h Xj9
 exact e
def Xlq : S2 := zL [] [Xih] Xrm
def X4n := by
 have h := fun (a : S2) => Eq.refl (zL [] [a] Xrm)
 conv at h => intro a; rhs; cbv
 have e : Xlq = _ := h Xih
 exact e
def Xfi : S2 := zL [] [Xlq] Xju
def Xzg := by
 have h := fun (a : S2) => Eq.refl (zL [] [a] Xju)
 conv at h => intro a; rhs; cbv
 have e : Xfi = _ := h Xlq
 exact e
def Xfm : S2 := zL [] [Xfi] Xkb
def Xxf := by
 have h := fun (a : S2) => Eq.refl (zL [] [a] Xkb)
 conv at h => intro a; rhs; cbv
 have e : Xfm = _ := h Xfi
 exact e
def Xgg : S2 := zL [] [Xfm] Xjk
def Xxg := by
 have h := fun (a : S2) => Eq.refl (zL [] [a] Xjk)
 conv at h => intro a; rhs; cbv
 have e : Xgg = _ := h Xfm
 exact e
def Xf4 : S2 := zL [] [Xgg] Xlk
def Xxc := by
 have h := fun (a : S2) => Eq.refl (zL [] [a] Xlk)
 conv at h => intro a; rhs; cbv
 have e : Xf4 = _ := h Xgg
 exact e
def Xgm : S2 := zL [] [Xf4] Xkh
def Xx1 := by
 have h := fun (a : S2) => Eq.refl (zL [] [a] Xkh)
 conv at h => intro a; rhs; cbv
 have e : Xgm = _ := h Xf4
 exact e
def Xgd : S2 := zL [] [Xgm] Xlb
def Xx6 := by
 have h := fun (a : S2) => Eq.refl (zL [] [a] Xlb)
 conv at h => intro a; rhs; cbv
 have e : Xgd = _ := h Xgm
 exact e
def Xet : S2 := zL [] [Xgd] Xjl
def Xxi := by
 have h := fun (a : S2) => Eq.refl (zL [] [a] Xjl)
 conv at h => intro a; rhs; cbv
 have e : Xet = _ := h Xgd
 exact e
def Yiv : S2 := zL [] [Xet] n21
def Ysq := by
 have h := fun (a : S2) => Eq.refl (zL [] [a] n21)
 conv at h => intro a; rhs; cbv
 have e : Yiv = _ := h Xet
 exact e
theorem Yrj : Yg3.lift [] = some Yiv := by kernel_rfl
def Xjc : S2 := zL [] [] X03
def X5c := by
 have h := Eq.refl Xjc
 conv at h => rhs; cbv
 exact h
def Xk0 : S2 := zL [] [Xjc] Xvb
def X20 := by
 have h := fun (a : S2) => Eq.refl (zL [] [a] Xvb)
 conv at h => intro a; rhs; cbv
 have e : Xk0 = _ := h Xjc
 exact e
def Xjd : S2 := zL [] [Xk0] Xsj
def X5m := by
 have h := fun (a : S2) => Eq.refl (zL [] [a] Xsj)
 conv at h => intro a; rhs; cbv
 have e : Xjd = _ := h Xk0
 exact e
def Xl3 : S2 := zL [] [Xjd] Xtw
def X4k := by
 have h := fun (a : S2) => Eq.refl (zL [] [a] Xtw)
 conv at h => intro a; rhs; cbv
 have e : Xl3 = _ := h Xjd
 exact e
def Xmc : S2 := zL [] [Xl3] Xto
def X52 := by
 have h := fun (a : S2) => Eq.refl (zL [] [a] Xto)
 conv at h => intro a; rhs; cbv
 have e : Xmc = _ := h Xl3
 exact e
def Xjv : S2 := zL [] [] X0j
def Xux := by
 have h := Eq.refl Xjv
 conv at h => rhs; cbv
 exact h
def Xkz : S2 := zL [] [Xjv, Xmc] Xtv
def X3r := by
 have h := fun (a b : S2) => Eq.refl (zL [] [a, b] Xtv)
 conv at h => intro a b; rhs; cbv
 have e : Xkz = _ := h Xjv Xmc
 exact e
def Xkq : S2 := zL [] [Xkz] Xqo
def X6a := by
 have h := fun (a : S2) => Eq.refl (zL [] [a] Xqo)
 conv at h => intro a; rhs; cbv
 have e : Xkq = _ := h Xkz
 exact e
def Xil : S2 := zL [] [Xkq] Xv3
def X4r := by
 have h := fun (a : S2) => Eq.refl (zL [] [a] Xv3)
 conv at h => intro a; rhs; cbv
 have e : Xil = _ := h Xkq
 exact e
def Xmd : S2 := zL [] [Xil] Xtg
def X5w := by
 have h := fun (a : S2) => Eq.refl (zL [] [a] Xtg)
 conv at h => intro a; rhs; cbv
 have e : Xmd = _ := h Xil
 exact e
def Ylw : S2 := zL [] [Xmd] n22
def Yq5 := by
 have h := fun (a : S2) => Eq.refl (zL [] [a] n22)
 conv at h => intro a; rhs; cbv
 have e : Ylw = _ := h Xmd
 exact e
theorem Ypb : Ylj.lift [] = some Ylw := by kernel_rfl
def Xkk : S2 := zL [] [] Xz1
def X3s := by
 have h := Eq.refl Xkk
 conv at h => rhs; cbv
 exact h
def Xk5 : S2 := zL [] [Xkk] Xvz
def X47 := by
 have h := fun (a : S2) => Eq.refl (zL [] [a] Xvz)
 conv at h => intro a; rhs; cbv
 have e : Xk5 = _ := h Xkk
 exact e
def Xml : S2 := zL [] [Xk5] Xvo
def X49 := by
 have h := fun (a : S2) => Eq.refl (zL [] [a] Xvo)
 conv at h => intro a; rhs; cbv
 have e : Xml = _ := h Xk5
 exact e
def Xir : S2 := zL [] [Xml] Xs1
def X4s := by
 have h := fun (a : S2) => Eq.refl (zL [] [a] Xs1)
 conv at h => intro a; rhs; cbv
 have e : Xir = _ := h Xml
 exact e
def Xin : S2 := zL [] [Xir] Xqg
def X50 := by
 have h := fun (a : S2) => Eq.refl (zL [] [a] Xqg)
 conv at h => intro a; rhs; cbv
 have e : Xin = _ := h Xir
 exact e
def Xlj : S2 := zL [] [Xin] Xq4
def X40 := by
 have h := fun (a : S2) => Eq.refl (zL [] [a] Xq4)
 conv at h => intro a; rhs; cbv
 have e : Xlj = _ := h Xin
 exact e
def Xmb : S2 := zL [] [Xlj] Xsg
def X4v := by
 have h := fun (a : S2) => Eq.refl (zL [] [a] Xsg)
 conv at h => intro a; rhs; cbv
 have e : Xmb = _ := h Xlj
 exact e
def Xig : S2 := zL [] [Xmb] Xr9
def X48 := by
 have h := fun (a : S2) => Eq.refl (zL [] [a] Xr9)
 conv at h => intro a; rhs; cbv
 have e : Xig = _ := h Xmb
 exact e
def Ym2 : S2 := zL [] [Xig] n23
def Ysf := by
 have h := fun (a : S2) => Eq.refl (zL [] [a] n23)
 conv at h => intro a; rhs; cbv
 have e : Ym2 = _ := h Xig
 exact e
theorem Yok : Ymg.lift [] = some Ym2 := by kernel_rfl
def Xix : S2 := zL [] [] X01
def X2t := by
 have h := Eq.refl Xix
 conv at h => rhs; cbv
 exact h
def Xmr : S2 := zL [] [Xix] Xr4
def X30 := by
 have h := fun (a : S2) => Eq.refl (zL [] [a] Xr4)
 conv at h => intro a; rhs; cbv
 have e : Xmr = _ := h Xix
 exact e
def Xmt : S2 := zL [] [Xmr] Xu5
def X5o := by
 have h := fun (a : S2) => Eq.refl (zL [] [a] Xu5)
 conv at h => intro a; rhs; cbv
 have e : Xmt = _ := h Xmr
 exact e
def Xkg : S2 := zL [] [Xmt] Xv0
def X4d := by
 have h := fun (a : S2) => Eq.refl (zL [] [a] Xv0)
 conv at h => intro a; rhs; cbv
 have e : Xkg = _ := h Xmt
 exact e
def Xiv : S2 := zL [] [Xkg] Xr7
def X3q := by
 have h := fun (a : S2) => Eq.refl (zL [] [a] Xr7)
 conv at h => intro a; rhs; cbv
 have e : Xiv = _ := h Xkg
 exact e
def Xmh : S2 := zL [] [Xiv] Xvc
def X4f := by
 have h := fun (a : S2) => Eq.refl (zL [] [a] Xvc)
 conv at h => intro a; rhs; cbv
 have e : Xmh = _ := h Xiv
 exact e
def Xiq : S2 := zL [] [Xmh] Xqv
def X2s := by
 have h := fun (a : S2) => Eq.refl (zL [] [a] Xqv)
 conv at h => intro a; rhs; cbv
 have e : Xiq = _ := h Xmh
 exact e
def Xlx : S2 := zL [] [Xiq] Xte
def X2k := by
 have h := fun (a : S2) => Eq.refl (zL [] [a] Xte)
 conv at h => intro a; rhs; cbv
 have e : Xlx = _ := h Xiq
 exact e
def Xlz : S2 := zL [] [Xlx] Xv8
def X2p := by
 have h := fun (a : S2) => Eq.refl (zL [] [a] Xv8)
 conv at h => intro a; rhs; cbv
 have e : Xlz = _ := h Xlx
 exact e
def Ymv : S2 := zL [] [Xlz] n24
def Yn4 := by
 have h := fun (a : S2) => Eq.refl (zL [] [a] n24)
 conv at h => intro a; rhs; cbv
 have e : Ymv = _ := h Xlz
 exact e
theorem Yow : Ymh.lift [] = some Ymv := by kernel_rfl
end Go.Proofs.YtanpgmgkmfckaaaGreatDoor
/- Contracts: the definitions. Condition: the program is the seat's, and its intervals are laid. -/
namespace Go.Proofs.YtanpgmgkmfckaaaGreatDoor
open Go Go.Ab Go.Lx Go.Sx
set_option maxRecDepth 100000
attribute [local simp ↓] ql qn qo qi qh qj qk qm zs zp zr zt zq zl zm zk zo zn qq qp qw qx zg qy qv qr zh qu qt qs qz zb za zd ze zf zw zu zy zx qb qa qd qc qe qg qf zj zi
section
variable {P : Prg} (hP : P.p = Tryz.prog) (hI : Ivl P) {ts : List Tok} {en : Int} {s : Src} (hs : Few s) {K : Out → Objs → Prop}
include hP hI hs
theorem Xwb (h : PS K en (W2 s ts)) : ACall P 23 [.ptr 4 []] (stO en ts s) K := by
 refine acall_lift hP mixed Ypv Yok TOk.nil fun _ hm => ?_
 simp [Ysf, hI.factors, hI.editions, hI.mosts, hI.weights, hI.anyN]
 refine Xa5 hP (S := Yp s) (by simp) (by simp) _ 16 (PS.bind h (fun ts' e h => ?_) (fun a ts' ha h => ?_))
 ·simp
  exact Xj (h s) (by simp) (by simp [young])
 simp [hI.factors, hI.editions, hI.mosts, hI.weights, hI.anyN, X48]
 refine Zf hP (S := Yp s) (by simp) (by simp) _ (PS.bind h (fun ts' e h => ?_) (fun a ts' ha h => ?_))
 ·simp
  exact Xj (h s) (by simp) (by simp [young])
 simp [hI.factors, hI.editions, hI.mosts, hI.weights, hI.anyN, X4v]
 refine Y3 hP (S := Yp s) (by simp) (by simp) (PS.bind h (fun ts' e h => ?_) (fun a ts' ha h => ?_))
 ·simp
  exact Xj (h s) (by simp) (by simp [young])
 simp [hI.factors, hI.editions, hI.mosts, hI.weights, hI.anyN, X40]
 refine Zf hP (S := Yp s) (by simp) (by simp) _ (PS.bind h (fun ts' e h => ?_) (fun a ts' ha h => ?_))
 ·simp
  exact Xj (h s) (by simp) (by simp [young])
 simp [hI.factors, hI.editions, hI.mosts, hI.weights, hI.anyN, X50]
 refine Y3 hP (S := Yp s) (by simp) (by simp) (PS.bind h (fun ts' e h => ?_) (fun a ts' ha h => ?_))
 ·simp
  exact Xj (h s) (by simp) (by simp [young])
 simp [hI.factors, hI.editions, hI.mosts, hI.weights, hI.anyN, X4s]
 refine Yb hP (S := Yp s) (by simp) (by simp) _ (PS.bind h (fun ts' e h => ?_) (fun a ts' ha h => ?_))
 ·simp
  exact Xj (h s) (by simp) (by simp [young])
 simp [hI.factors, hI.editions, hI.mosts, hI.weights, hI.anyN, X49]
 refine Jr hP (ts := ts') (en := en) (S := Yp s) (by simp) _ 12 (by simp) ?_
 simp
 refine X2h hP (S := Yp s) (by simp) (by simp) (enc := Move.enc) (by simp) (Xf 1 []) Xdl 11 (by decide) _ _ [] _ [.ptr 4 []] [] (V5 hP).2.2.1 (V5 hP).2.2.2.2.2.2.1 14 (by simp) (fun ts o K h => ?_) (fun ts o K h => ?_) (PS.bind h (fun ts' e h => ?_) (fun a ts' ha h => ?_))
 ·exact Ul hP (S := Yp s) (p := 4) (ts := ts) (en := en) (t := []) (by simp) (by simp) (by simp) (by simp) (by simpa using h)
 ·exact X7i hP (S := Yp s) (by simp) (p := 4) (ts := ts) (en := en) (by simp) hI h
 ·simp
  exact Xj (h s) (by simp) (by simp [young])
 simp [hI.factors, hI.editions, hI.mosts, hI.weights, hI.anyN, X47]
 refine Yb hP (S := Yp s) (by simp) (by simp) _ (PS.bind h (fun ts' e h => ?_) (fun a ts' ha h => ?_))
 ·simp
  exact Xj (h s) (by simp) (by simp [young])
 simp [hI.factors, hI.editions, hI.mosts, hI.weights, hI.anyN, X3s]
 refine ⟨by have := hs.converts; omega, ?_⟩
 exact Xj (s := { s with converts := s.converts ++ [⟨_, _, _⟩] }) h (by simp) (by simp [young]; rfl)
end
end Go.Proofs.YtanpgmgkmfckaaaGreatDoor
/- Contracts: the definitions. Condition: the program is the seat's, and its intervals are laid. -/
namespace Go.Proofs.YtanpgmgkmfckaaaGreatDoor
open Go Go.Ab Go.Lx Go.Sx
set_option maxRecDepth 100000
attribute [local simp ↓] ql qn qo qi qh qj qk qm zs zp zr zt zq zl zm zk zo zn qq qp qw qx zg qy qv qr zh qu qt qs qz zb za zd ze zf zw zu zy zx qb qa qd qc qe qg qf zj zi
section
variable {P : Prg} (hP : P.p = Tryz.prog) (hI : Ivl P) {ts : List Tok} {en : Int} {s : Src} (hs : Few s) {K : Out → Objs → Prop}
include hP hI hs
theorem Xsn (h : PS K en (We s ts)) : ACall P 24 [.ptr 4 []] (stO en ts s) K := by
 refine acall_lift hP mixed Ynv Yow TOk.nil fun _ hm => ?_
 simp [Yn4, hI.factors, hI.editions, hI.mosts, hI.weights, hI.anyN]
 refine Xa5 hP (S := Yp s) (by simp) (by simp) _ 8 (PS.bind h (fun ts' e h => ?_) (fun a ts' ha h => ?_))
 ·simp
  exact Xj (h s) (by simp) (by simp [young])
 simp [hI.factors, hI.editions, hI.mosts, hI.weights, hI.anyN, X2p]
 refine Zf hP (S := Yp s) (by simp) (by simp) _ (PS.bind h (fun ts' e h => ?_) (fun a ts' ha h => ?_))
 ·simp
  exact Xj (h s) (by simp) (by simp [young])
 simp [hI.factors, hI.editions, hI.mosts, hI.weights, hI.anyN, X2k]
 refine Y3 hP (S := Yp s) (by simp) (by simp) (PS.bind h (fun ts' e h => ?_) (fun a ts' ha h => ?_))
 ·simp
  exact Xj (h s) (by simp) (by simp [young])
 simp [hI.factors, hI.editions, hI.mosts, hI.weights, hI.anyN, X2s]
 refine Yb hP (S := Yp s) (by simp) (by simp) _ (PS.bind h (fun ts' e h => ?_) (fun a ts' ha h => ?_))
 ·simp
  exact Xj (h s) (by simp) (by simp [young])
 simp [hI.factors, hI.editions, hI.mosts, hI.weights, hI.anyN, X4f]
 refine Jr hP (ts := ts') (en := en) (S := Yp s) (by simp) _ 12 (by simp) ?_
 simp
 refine X5l hP (S := Yp s) (by simp) (by simp) (enc := Ref.enc) (by simp) (Xf 1 [109, 97, 121]) Xww 32 (by decide) _ _ [] _ [.ptr 4 []] [] (V5 hP).2.2.1 (V5 hP).2.2.2.2.2.2.2 14 (by simp) (fun ts o K h => ?_) (fun ts o K h => ?_) (PS.bind h (fun ts' e h => ?_) (fun a ts' ha h => ?_))
 ·exact Ul hP (S := Yp s) (p := 4) (ts := ts) (en := en) (t := [109, 97, 121]) (by simp) (by simp) (by simp) (by simp) (by simpa using h)
 ·exact Yfh hP (S := Yp s) (by simp) (p := 4) (ts := ts) (en := en) (by simp) h
 ·simp
  exact Xj (h s) (by simp) (by simp [young])
 simp [hI.factors, hI.editions, hI.mosts, hI.weights, hI.anyN, X3q]
 refine Zf hP (S := Yp s) (by simp) (by simp) _ (PS.bind h (fun ts' e h => ?_) (fun a ts' ha h => ?_))
 ·simp
  exact Xj (h s) (by simp) (by simp [young])
 simp [hI.factors, hI.editions, hI.mosts, hI.weights, hI.anyN, X4d]
 refine Y8 hP (S := Yp s) (by simp) (by simp) _ _ (PS.bind h (fun ts' e h => ?_) (fun a ts' ha h => ?_))
 ·simp
  exact Xj (h s) (by simp) (by simp [young])
 simp [hI.factors, hI.editions, hI.mosts, hI.weights, hI.anyN, X5o]
 refine Yb hP (S := Yp s) (by simp) (by simp) _ (PS.bind h (fun ts' e h => ?_) (fun a ts' ha h => ?_))
 ·simp
  exact Xj (h s) (by simp) (by simp [young])
 simp [hI.factors, hI.editions, hI.mosts, hI.weights, hI.anyN, X30]
 refine Yb hP (S := Yp s) (by simp) (by simp) _ (PS.bind h (fun ts' e h => ?_) (fun a ts' ha h => ?_))
 ·simp
  exact Xj (h s) (by simp) (by simp [young])
 simp [hI.factors, hI.editions, hI.mosts, hI.weights, hI.anyN, X2t]
 refine ⟨by have := hs.purposes; omega, ?_⟩
 exact Xj (s := { s with purposes := s.purposes ++ [⟨_, _, _⟩] }) h (by simp) (by simp [young]; rfl)
end
end Go.Proofs.YtanpgmgkmfckaaaGreatDoor
/- Contracts: the definitions. Condition: the program is the seat's, and its intervals are laid. -/
namespace Go.Proofs.YtanpgmgkmfckaaaGreatDoor
open Go Go.Ab Go.Lx Go.Sx
set_option maxRecDepth 100000
attribute [local simp ↓] ql qn qo qi qh qj qk qm zs zp zr zt zq zl zm zk zo zn qq qp qw qx zg qy qv qr zh qu qt qs qz zb za zd ze zf zw zu zy zx qb qa qd qc qe qg qf zj zi
section
variable {P : Prg} (hP : P.p = Tryz.prog) (hI : Ivl P) {ts : List Tok} {en : Int} {s : Src} (hs : Few s) {K : Out → Objs → Prop}
include hP hI hs
theorem Ybc (h : PS K en (Xhp s ts)) : ACall P 22 [.ptr 4 []] (stO en ts s) K := by
 refine acall_lift hP mixed Ynn Ypb TOk.nil fun _ hm => ?_
 simp [Yq5, hI.factors, hI.editions, hI.mosts, hI.weights, hI.anyN]
 refine Xa5 hP (S := Yp s) (by simp) (by simp) _ 16 (PS.bind h (fun ts' e h => ?_) (fun a ts' ha h => ?_))
 ·simp
  exact Xj (h s) (by simp) (by simp [young])
 simp [hI.factors, hI.editions, hI.mosts, hI.weights, hI.anyN, X5w]
 refine Zf hP (S := Yp s) (by simp) (by simp) _ (PS.bind h (fun ts' e h => ?_) (fun a ts' ha h => ?_))
 ·simp
  exact Xj (h s) (by simp) (by simp [young])
 simp [hI.factors, hI.editions, hI.mosts, hI.weights, hI.anyN, X4r]
 refine Y3 hP (S := Yp s) (by simp) (by simp) (PS.bind h (fun ts' e h => ?_) (fun a ts' ha h => ?_))
 ·simp
  exact Xj (h s) (by simp) (by simp [young])
 simp [hI.factors, hI.editions, hI.mosts, hI.weights, hI.anyN, X6a]
 refine Yb hP (S := Yp s) (by simp) (by simp) _ (PS.bind h (fun ts' e h => ?_) (fun a ts' ha h => ?_))
 ·simp
  exact Xj (h s) (by simp) (by simp [young])
 simp [hI.factors, hI.editions, hI.mosts, hI.weights, hI.anyN, X3r]
 refine Jw hP (S := Yp s) (ts := ts') (en := en) (by simp) (by simp) _ _ ?_
 cases hn : Xf 1 [102, 114, 111, 109] ts' with
 | false =>
  simp only [ifM, hn, Bool.false_eq_true, if_false] at h
  simp [Xux]
  refine Ws hP (S := Yp s) (ts := ts') (en := en) (by simp) (by simp) _ ?_
  simp
  exact Xj (h s) (by simp) (by simp [young])
 | true =>
  simp only [ifM, hn, if_true] at h
  simp [Xux, X52]
  refine Jr hP (ts := ts') (en := en) (S := Yp s) (by simp) _ 12 (by simp) ?_
  simp
  refine X3f hP (S := Yp s) (by simp) (by simp) (enc := From.enc) (by simp) (Xf 1 [102, 114, 111, 109]) Z2 3 (by decide) _ _ [] _ [.ptr 4 []] [] (V5 hP).2.2.1 (V5 hP).2.2.2.1 14 (by simp) (fun ts o K h => ?_) (fun ts o K h => ?_) (PS.bind h (fun ts' e h => ?_) (fun a ts' ha h => ?_))
  ·exact Ul hP (S := Yp s) (p := 4) (ts := ts) (en := en) (t := [102, 114, 111, 109]) (by simp) (by simp) (by simp) (by simp) (by simpa using h)
  ·exact Ybr hP (S := Yp s) (by simp) (p := 4) (ts := ts) (en := en) (by simp) h
  ·simp
   exact Xj (h s) (by simp) (by simp [young])
  simp [hI.factors, hI.editions, hI.mosts, hI.weights, hI.anyN, X4k]
  refine Jr hP (ts := ts') (en := en) (S := Yp s) (by simp) _ 14 (by simp) ?_
  simp
  refine X57 hP (S := Yp s) (by simp) (by simp) (enc := Atom.enc) (by simp) (Xf 1 [119, 104, 101, 114, 101]) Uu 8 (by decide) _ _ [] _ [.ptr 4 []] [] (V5 hP).2.2.1 (V5 hP).2.2.2.2.1 16 (by simp) (fun ts o K h => ?_) (fun ts o K h => ?_) (PS.bind h (fun ts' e h => ?_) (fun a ts' ha h => ?_))
  ·exact Ul hP (S := Yp s) (p := 4) (ts := ts) (en := en) (t := [119, 104, 101, 114, 101]) (by simp) (by simp) (by simp) (by simp) (by simpa using h)
  ·exact X4i hP (S := Yp s) (by simp) (p := 4) (ts := ts) (en := en) (by simp) hI h
  ·simp
   exact Xj (h s) (by simp) (by simp [young])
  simp [hI.factors, hI.editions, hI.mosts, hI.weights, hI.anyN, X5m]
  refine Jr hP (ts := ts') (en := en) (S := Yp s) (by simp) _ 16 (by simp) ?_
  simp
  refine X4z hP (S := Yp s) (by simp) (by simp) (enc := SetT.enc) (by simp) (Xf 1 [115, 101, 116]) Xr1 11 (by decide) _ _ [] _ [.ptr 4 []] [] (V5 hP).2.2.1 (V5 hP).2.2.2.2.2.1 18 (by simp) (fun ts o K h => ?_) (fun ts o K h => ?_) (PS.bind h (fun ts' e h => ?_) (fun a ts' ha h => ?_))
  ·exact Ul hP (S := Yp s) (p := 4) (ts := ts) (en := en) (t := [115, 101, 116]) (by simp) (by simp) (by simp) (by simp) (by simpa using h)
  ·exact Yev hP (S := Yp s) (by simp) (p := 4) (ts := ts) (en := en) (by simp) hI h
  ·simp
   exact Xj (h s) (by simp) (by simp [young])
  simp [hI.factors, hI.editions, hI.mosts, hI.weights, hI.anyN, X20]
  refine Yb hP (S := Yp s) (by simp) (by simp) _ (PS.bind h (fun ts' e h => ?_) (fun a ts' ha h => ?_))
  ·simp
   exact Xj (h s) (by simp) (by simp [young])
  simp [hI.factors, hI.editions, hI.mosts, hI.weights, hI.anyN, X5c]
  refine ⟨by have := hs.rules; omega, ?_⟩
  exact Xj (s := { s with rules := s.rules ++ [⟨_, _, _, _⟩] }) h (by simp) (by simp [young]; rfl)
end
end Go.Proofs.YtanpgmgkmfckaaaGreatDoor
/- Contracts: the definitions. Condition: the program is the seat's, and its intervals are laid. -/
namespace Go.Proofs.YtanpgmgkmfckaaaGreatDoor
open Go Go.Ab Go.Lx Go.Sx
set_option maxRecDepth 100000
attribute [local simp ↓] ql qn qo qi qh qj qk qm zs zp zr zt zq zl zm zk zo zn qq qp qw qx zg qy qv qr zh qu qt qs qz zb za zd ze zf zw zu zy zx qb qa qd qc qe qg qf zj zi
theorem Ycc {α β : Type} {c : List Tok → Bool} {a b : M α} {g : α → M β} {ts : List Tok} (h : c ts = true) : (ifM c a b >>= g) ts = (a >>= g) ts := by simp only [Xd, ifM, h, if_true]
theorem X8j {α β : Type} {c : List Tok → Bool} {a b : M α} {g : α → M β} {ts : List Tok} (h : c ts = false) : (ifM c a b >>= g) ts = (b >>= g) ts := by simp only [Xd, ifM, h, if_false, Bool.false_eq_true]
theorem Xav {α β : Type} {m : M α} {f : α → M β} {ts ts' : List Tok} {b : β} (h : (m >>= f) ts = .ok b ts') : ∃ a t1, m ts = .ok a t1 ∧ f a t1 = .ok b ts' := by
 rw [Xd] at h
 cases hm : m ts with
 | ok a t1 => rw [hm] at h; exact ⟨a, t1, rfl, h⟩
 | err a b => rw [hm] at h; cases h
theorem Xp4 {f : Sx.Field} {ts ts' : List Tok} (h : Uj ts = .ok f ts') : ∃ a b c d, f.weights = [a, b, c, d] := by
 simp only [Uj] at h
 obtain ⟨_, _, _, h⟩ := Xav h
 obtain ⟨_, _, _, h⟩ := Xav h
 obtain ⟨_, _, _, h⟩ := Xav h
 obtain ⟨_, _, _, h⟩ := Xav h
 obtain ⟨w, _, hw, h⟩ := Xav h
 obtain ⟨_, _, _, h⟩ := Xav h
 cases h
 exact Un hw
theorem Xje {f : Sx.Field} {ts ts' : List Tok} (h : Uj ts = .ok f ts') : f.enc.shape = .node [.leaf, .node [.leaf, .leaf, .leaf, .leaf, .leaf, .leaf], .node [.leaf, .leaf, .leaf, .leaf]] := by
 obtain ⟨a, b, c, d, e⟩ := Xp4 h
 simp [Field.enc, e, D.shape]
theorem Xhm (d : Sx.Depend) : d.enc.shape = .node [.leaf, .leaf, .leaf, .leaf] := by simp [Depend.enc, X4, D.shape]
section
variable {P : Prg} (hP : P.p = Tryz.prog) (hI : Ivl P) {ts : List Tok} {en : Int} {s : Src} (hs : Few s) {K : Out → Objs → Prop}
include hP hI hs
theorem Xyn (h : PS K en (Ur s ts)) : ACall P 21 [.ptr 4 []] (stO en ts s) K := by
 refine acall_lift hP mixed Ypn Yrj TOk.nil fun _ hm => ?_
 simp [Ysq, hI.factors, hI.editions, hI.mosts, hI.weights, hI.anyN]
 refine Xa5 hP (S := Yp s) (by simp) (by simp) _ 16 (PS.bind h (fun ts' e h => ?_) (fun a ts' ha h => ?_))
 ·simp
  exact Xj (h s) (by simp) (by simp [young])
 simp [hI.factors, hI.editions, hI.mosts, hI.weights, hI.anyN, Xxi]
 refine Zf hP (S := Yp s) (by simp) (by simp) _ (PS.bind h (fun ts' e h => ?_) (fun a ts' ha h => ?_))
 ·simp
  exact Xj (h s) (by simp) (by simp [young])
 simp [hI.factors, hI.editions, hI.mosts, hI.weights, hI.anyN, Xx6]
 refine Y3 hP (S := Yp s) (by simp) (by simp) (PS.bind h (fun ts' e h => ?_) (fun a ts' ha h => ?_))
 ·simp
  exact Xj (h s) (by simp) (by simp [young])
 simp [hI.factors, hI.editions, hI.mosts, hI.weights, hI.anyN, Xx1]
 refine Zf hP (S := Yp s) (by simp) (by simp) _ (PS.bind h (fun ts' e h => ?_) (fun a ts' ha h => ?_))
 ·simp
  exact Xj (h s) (by simp) (by simp [young])
 simp [hI.factors, hI.editions, hI.mosts, hI.weights, hI.anyN, Xxc]
 refine Y3 hP (S := Yp s) (by simp) (by simp) (PS.bind h (fun ts' e h => ?_) (fun a ts' ha h => ?_))
 ·simp
  exact Xj (h s) (by simp) (by simp [young])
 simp [hI.factors, hI.editions, hI.mosts, hI.weights, hI.anyN, Xxg]
 refine Zf hP (S := Yp s) (by simp) (by simp) _ (PS.bind h (fun ts' e h => ?_) (fun a ts' ha h => ?_))
 ·simp
  exact Xj (h s) (by simp) (by simp [young])
 simp [hI.factors, hI.editions, hI.mosts, hI.weights, hI.anyN, Xxf]
 refine Y8 hP (S := Yp s) (by simp) (by simp) _ _ (PS.bind h (fun ts' e h => ?_) (fun a ts' ha h => ?_))
 ·simp
  exact Xj (h s) (by simp) (by simp [young])
 simp [hI.factors, hI.editions, hI.mosts, hI.weights, hI.anyN, Xzg]
 refine Zf hP (S := Yp s) (by simp) (by simp) _ (PS.bind h (fun ts' e h => ?_) (fun a ts' ha h => ?_))
 ·simp
  exact Xj (h s) (by simp) (by simp [young])
 simp [hI.factors, hI.editions, hI.mosts, hI.weights, hI.anyN, X4n]
 refine Xhn hP (S := Yp s) (by simp) (by simp) hI (PS.bind h (fun ts' e h => ?_) (fun a ts' ha h => ?_))
 ·simp
  exact Xj (h s) (by simp) (by simp [young])
 obtain ⟨w1, w2, w3, w4, rfl⟩ := Un ha
 simp [X3v]
 refine Yb hP (S := Yp s) (by simp) (by simp) _ (PS.bind h (fun ts' e h => ?_) (fun a ts' ha h => ?_))
 ·simp
  exact Xj (h s) (by simp) (by simp [young])
 simp [hI.factors, hI.editions, hI.mosts, hI.weights, hI.anyN, X5i]
 have fin : ∀ (ts' : List Tok) (e : Int), (∀ s, K (.panic (.d (Qb en ts' e))) (stO en ts' s)) → ∀ (o1 o2 o3 o4 : Ob), Ys 11 (K (.panic (.d (Qb en ts' e)))) [.d (Qb en ts' e)] ((14, o1) :: (13, o2) :: (12, o3) :: (11, o4) :: stO en ts' s) := fun ts' e h o1 o2 o3 o4 => Xj (h s) (by simp) (by simp [young])
 refine ALoop.go (ι := Schema × List Tok) (fun _ => [(0, .ptr 4 []), (2, .ptr 11 [])])
  (fun j => (14, .arr 96 4 (j.1.depends.map Depend.enc)) :: (13, .arr 93 11 (j.1.fields.map Field.enc)) :: (12, .box 93 (.d (Field.enc ⟨[115, 101, 108, 102], .person, [w1, w2, w3, w4]⟩))) :: (11, .box 79 (.agg [.d (.str j.1.name), .d (.str j.1.by_), .d (iD 0), .d (iD j.1.version), .sl 13 j.1.fields.length, .sl 14 j.1.depends.length])) :: stO en j.2 s)
  (fun j => 1 ≤ j.1.fields.length ∧ j.1.fields.length ≤ 12 ∧ j.1.depends.length ≤ 8 ∧ PS K en ((Xau (22 - (j.1.fields.length + j.1.depends.length)) j.1 >>= fun x => pure { s with schemas := s.schemas ++ [x] }) j.2)) (fun j => 20 - (j.1.fields.length + j.1.depends.length)) (⟨_, _, _, [⟨_, _, _⟩], []⟩, _) ⟨by simp, by simp, by simp, h⟩ (by simp) (by simp [Field.enc, TypeT.enc]) ?_
 clear h
 rintro ⟨x, ts1⟩ ⟨hf0, hf, hd, h⟩ R rn re rr rp
 dsimp only at hf0 hf hd h rn
 obtain ⟨n, hn⟩ : ∃ n, 22 - (x.fields.length + x.depends.length) = n + 1 := ⟨21 - (x.fields.length + x.depends.length), by omega⟩
 rw [hn, Xau, Xx] at h
 simp [X5h]
 refine Yx hP (S := Yp s) (by simp) (by simp) _ _ (PS.bind h (fun ts' e h => ?_) (fun a ts' ha h => ?_))
 ·simp
  refine rp _ _ _ ?_
  simp
  exact fin _ _ h _ _ _ _
 cases a with
 | true =>
  simp only [if_true, Yi] at h
  simp [Xua]
  refine re _ _ _ ?_
  simp
  exact ⟨by have := hs.schemas; omega, Xj (s := { s with schemas := s.schemas ++ [x] }) h (by simp) (by simp [young]; rfl)⟩
 | false =>
  simp only [Bool.false_eq_true, if_false] at h
  simp [Xua, X32]
  refine Jw hP (S := Yp s) (ts := ts') (en := en) (by simp) (by simp) _ _ ?_
  cases hn1 : Xf 1 [102, 105, 101, 108, 100] ts' with
  | true =>
   rw [Ycc hn1, Xx] at h
   simp [Xvt]
   refine Xa5 hP (S := Yp s) (by simp) (by simp) _ 12 (PS.bind h (fun ts' e h => ?_) (fun a ts' ha h => ?_))
   ·simp
    refine rp _ _ _ ?_
    simp
    exact fin _ _ h _ _ _ _
   have hlt : x.fields.length < 12 := by
    simp only [Ym] at ha
    split at ha
    ·cases ha
    ·omega
   rw [Xx] at h
   simp [Xl2]
   refine ⟨?_, ?_⟩
   all_goals
    refine X39 hP (S := Yp s) (by simp) (by simp) hI (PS.bind h (fun ts' e h => ?_) (fun a ts' ha h => ?_))
    ·simp
     refine rp _ _ _ ?_
     simp
     exact fin _ _ h _ _ _ _
    have hsh := Xje ha
    simp [hsh]
    refine ⟨by omega, ?_⟩
    refine rn [] ({ x with fields := x.fields ++ [a] }, ts') _ _ ⟨by first | exact hf0 | simp, by simp; omega, by simp; omega, ?_⟩ (by simp; omega) (by simp) (by simp [young]) (by simp [young]) (by simp [young, Qa])
    simp only [List.length_append, List.length_singleton]
    rw [show 22 - (x.fields.length + 1 + x.depends.length) = n by omega]
    exact h
  | false =>
   rw [X8j hn1] at h
   simp [Xvt]
   refine Jw hP (S := Yp s) (ts := ts') (en := en) (by simp) (by simp) _ _ ?_
   cases hn2 : Xf 1 [100, 101, 112, 101, 110, 100] ts' with
   | false =>
    rw [X8j hn2] at h
    simp [Xub]
    refine Ws hP (S := Yp s) (ts := ts') (en := en) (by simp) (by simp) _ ?_
    simp
    refine rp _ _ _ ?_
    simp
    exact fin _ _ h _ _ _ _
   | true =>
    rw [Ycc hn2, Xx] at h
    simp [Xub]
    refine Xa5 hP (S := Yp s) (by simp) (by simp) _ 8 (PS.bind h (fun ts' e h => ?_) (fun a ts' ha h => ?_))
    ·simp
     refine rp _ _ _ ?_
     simp
     exact fin _ _ h _ _ _ _
    have hlt : x.depends.length < 8 := by
     simp only [Ym] at ha
     split at ha
     ·cases ha
     ·omega
    rw [Xx] at h
    simp [X3a]
    refine ⟨?_, ?_⟩
    all_goals
     refine Xyx hP (S := Yp s) (by simp) (by simp) (PS.bind h (fun ts' e h => ?_) (fun a ts' ha h => ?_))
     ·simp
      refine rp _ _ _ ?_
      simp
      exact fin _ _ h _ _ _ _
     have hsh := Xhm a
     simp [hsh]
     refine ⟨by omega, ?_⟩
     refine rn [] ({ x with depends := x.depends ++ [a] }, ts') _ _ ⟨by first | exact hf0 | simp, by simp; omega, by simp; omega, ?_⟩ (by simp; omega) (by simp) (by simp [young]) (by simp [young]) (by simp [young, Qa])
     simp only [List.length_append, List.length_singleton]
     rw [show 22 - (x.fields.length + (x.depends.length + 1)) = n by omega]
     exact h
end
end Go.Proofs.YtanpgmgkmfckaaaGreatDoor
