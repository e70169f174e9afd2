/- Texts of this claim joined by a program, part 12 of 13; the last is: The law's own examples hold (sane). Condition: the program is the seat's; its package variables are laid. -/
import Derived.Test.YtmapdjjigmkbfaaGreatDoorT4
import Derived.Test.YtmapdjjigmkbfaaGreatDoorT7
import Derived.Test.YtmapdjjigmkbfaaGreatDoorT8
import Derived.Test.YtmapdjjigmkbfaaGreatDoorT9
import Derived.Test.YtmapdjjigmkbfaaGreatDoorT10
import Derived.Test.YtmapdjjigmkbfaaGreatDoorT11
import Derived.Shelf.Strings.Builder1
import Derived.Shelf.Strconv.Itoa0
import Derived.Shelf.Strconv.Itoa1
import Derived.Shelf.LaysM
import Derived.Shelf.Strconv.Itoa2
import Derived.Shelf.Strconv.Itoa3
import Derived.Shelf.Strings.Search1
import Derived.Shelf.Strings.Search2
import Derived.Shelf.Strings.Search3
import Derived.Shelf.Strings.Shaped
import Derived.Shelf.Slices.Equal
import Derived.Shelf.Slices.Empties2
import Derived.Test.YtmapdjjigmkbfaaGreatDoorProg
set_option linter.unusedSimpArgs false
set_option linter.unusedVariables false
set_option linter.unusedSectionVars false
set_option linter.defProp false
/- The hash of the example's source, computed by the kernel. No condition. -/
namespace Go.Proofs.YtmapdjjigmkbfaaGreatDoor
open Go Go.Ab Go.Lx
set_option maxRecDepth 100000
def X4j (f : Nat) (vs : List V) (ob : Objs) : Option (Out × Objs) :=
 bif Nat.beq f 110 && V.eqbs vs [.ptr 1 [], .bs 2 [] 0 64] then
  (bif Xou ob bo1 then some (.ret (.tup []), bp1) else bif Xou ob bo2 then some (.ret (.tup []), bp2) else bif Xou ob bo3 then some (.ret (.tup []), bp3) else none)
 else none
def xh2 : Fns := ⟨X4j, fun _ _ _ => none, fun _ => false, kgl⟩
theorem Xor (ob : Objs) : (fns 3000 Xjz xh2 40).pc 58 [.d (.list 1 [X7p, .list 1 (bytesD X82)])] ob = some (.d X80) := by kernel_rfl
theorem Xvd {P : Prg} (h : (fns 3000 Xjz xh 20).ok P) (f : Nat) (vs : List V) (ob : Objs) (o : Out) (b : Objs) (e : X4j f vs ob = some (o, b)) : ACall P f vs ob fun o' b' => o' = o ∧ b' = b := by
 unfold X4j at e
 rw [Bool.cond_eq_ite] at e
 split at e
 ·rename_i hc
  simp only [Bool.and_eq_true] at hc
  obtain ⟨h1, h2⟩ := hc
  rw [Nat.eq_of_beq_eq_true h1, V.eqbs_eq _ _ h2]
  rw [Bool.cond_eq_ite] at e
  split at e
  ·rename_i h3
   cases e
   rw [Uf _ _ h3]
   exact h.call _ _ _ _ _ Yat
  ·rw [Bool.cond_eq_ite] at e
   split at e
   ·rename_i h3
    cases e
    rw [Uf _ _ h3]
    exact h.call _ _ _ _ _ X9c
   ·rw [Bool.cond_eq_ite] at e
    split at e
    ·rename_i h3
     cases e
     rw [Uf _ _ h3]
     exact h.call _ _ _ _ _ Yau
    ·cases e
 ·cases e
end Go.Proofs.YtmapdjjigmkbfaaGreatDoor
/- Plain facts on runs of bytes. No program. -/
namespace Go.Lx
open Go Go.Ab
theorem Xee {i n : Nat} (h : i < n) (hn : n ≤ 1000000) : IntKind.i64.wrap ((i : Int) + 1) = (i : Int) + 1 := IntWalk.i64_in _ (by omega)
end Go.Lx
/- Tables of numbers as data; the classes of bytes. Condition: the program is the seat's. -/
namespace Go.Lx
open Go Go.Ab
def Xcx (f : Nat → Int) : List D := (List.range 256).map fun i => .int .i64 (f i)
def W1 (f : Nat → Int) : D := .agg (Xcx f)
def upd (f : Nat → Int) (n : Nat) (v : Int) (i : Nat) : Int := if i = n then v else f i
theorem Yi {f g : Nat → Int} (h : ∀ i, i < 256 → f i = g i) : W1 f = W1 g := by
 unfold W1 Xcx
 congr 1
 exact List.map_congr_left fun i hi => by rw [h i (List.mem_range.mp hi)]
@[simp] theorem tbl_kids (f : Nat → Int) : V.kids (.d (W1 f)) = some ((Xcx f).map .d) := by simp only [W1, V.kids]
@[simp] theorem tbl_getE (f : Nat → Int) {n : Nat} (h : n < (Xcx f).length) : (Xcx f)[n] = .int .i64 (f n) := by simp [Xcx]
@[simp] theorem J5 (f : Nat → Int) : (Xcx f).length = 256 := by simp [Xcx]
@[simp] theorem allD_set (l : List D) (n : Nat) (x : D) : V.allD ((l.map V.d).set n (.d x)) = some (l.set n x) := by rw [← List.map_set, allD_map]
@[simp] theorem tblL_set (f : Nat → Int) (n : Nat) (v : Int) : (Xcx f).set n (.int .i64 v) = Xcx (upd f n v) := by
 unfold Xcx
 apply List.ext_getElem?
 intro i
 by_cases hi : n = i
 ·subst hi
  by_cases hl : n < 256
  ·simp [List.getElem?_set, hl, upd]
  ·simp [List.getElem?_set, hl]
 ·by_cases hl : i < 256
  ·simp [List.getElem?_set, hi, hl, upd, Ne.symm hi]
  ·simp [List.getElem?_set, hi, hl]
@[simp] theorem Xue (f : Nat → Int) : D.agg (Xcx f) = W1 f := rfl
theorem Xwf {l : List D} {n : Nat} (h : ∀ x ∈ l, x.sz = n) : D.szs l = l.length * n := D.szs_uniform l h
theorem Xcq (f : Nat → Int) : ∀ x ∈ Xcx f, x.sz = 1 := by
 intro x hx
 simp only [Xcx, List.mem_map] at hx
 obtain ⟨i, _, rfl⟩ := hx
 rfl
@[simp] theorem Xyp (f : Nat → Int) : (W1 f).sz = 256 := by simp only [W1, D.sz, Xwf (Xcq f), J5]
@[simp] theorem tbl_size' (f : Nat → Int) : (W1 f).shape.size = 256 := by rw [D.size_shape, Xyp]
@[simp] theorem tbl_agg (f : Nat → Int) : V.isAgg (.d (W1 f)) = true := rfl
@[simp] theorem tbl_dagg (f : Nat → Int) : (W1 f).isAgg = true := rfl
@[simp] theorem tbl_ok (f : Nat → Int) : (∀ a, a ∈ Xcx f → a.shape.size = 1) = True :=
 eq_true fun x hx => by rw [D.size_shape]; exact Xcq f x hx
theorem Xo6 (n : Nat) (x : D) : List.replicate n x = (List.range n).map fun _ => x := by
 rw [List.map_const', List.length_range]
theorem Up : ∀ s : List UInt8, bytesD s = s.map fun b => .int .u8 b.toNat
 | [] => rfl
 | b :: r => by simp [bytesD, Up r]
theorem Xeo : List.replicate 256 (D.int .i64 0) = Xcx fun _ => 0 := Xo6 256 _

def cl1 (k i : Nat) : Int := if 65 ≤ i ∧ i < 65 + k ∨ 97 ≤ i ∧ i < 97 + k then 2 else 0
def cl2 (k i : Nat) : Int := if 48 ≤ i ∧ i < 48 + k then 3 else cl1 26 i
def spc : List UInt8 := [32, 9, 10, 13]
def cl3 (k i : Nat) : Int := if i ∈ (spc.take k).map UInt8.toNat then 1 else cl2 10 i
def cl4 (k i : Nat) : Int := if i ∈ (signs.take k).map UInt8.toNat then 4 else cl3 4 i
def Xc2 : Nat → Int := cl4 15
theorem Xh8 {l : List UInt8} {k i : Nat} (h : k < l.length) : (i ∈ (l.take (k + 1)).map UInt8.toNat) ↔ (i = (l[k]?.getD 0).toNat ∨ i ∈ (l.take k).map UInt8.toNat) := by
 rw [List.take_add_one, List.map_append, List.mem_append, List.getElem?_eq_getElem h]
 simp only [Option.toList_some, List.map_cons, List.map_nil, List.mem_singleton, Option.getD_some]
 exact Or.comm
def X59 : D := W1 Xc2
end Go.Lx
namespace Go.Proofs.YtmapdjjigmkbfaaGreatDoor
open Go Go.Ab Go.Lx
set_option maxRecDepth 100000
section
variable {P : Prg} (hP : P.p = Tryz.prog)
include hP
theorem Xjv {ob : Objs} {K : V → Prop} (h : K (.d X59)) : PCall P 44 [] ob K := by
 refine pcall_lift hP mixed (ds := []) X61 Ybv TOk.nil ?_
 simp only [X8y, Xeo]
 rw [show D.agg (Xcx fun _ => 0) = W1 fun _ => 0 from rfl, show W1 (fun _ => 0) = W1 (cl1 0) from Yi fun i _ => by simp [cl1]]
 simp
 refine ALoop.go (ι := Nat) (fun k => [(0, .ptr 0 []), (7, .d (.int .i64 k))]) (fun k => [(0, .box 127 (.d (W1 (cl1 k))))]) (fun k => k ≤ 26) (fun k => 26 - k) 0 (by omega) (by simp) (by simp) ?_
 intro k hk R rn re _ _
 by_cases hlt : k < 26
 ·have w1 : IntKind.i64.wrap (65 + (k : Int)) = 65 + (k : Int) := IntWalk.i64_in _ (by omega)
  have w2 : IntKind.i64.wrap (97 + (k : Int)) = 97 + (k : Int) := IntWalk.i64_in _ (by omega)
  have w3 := Xee hlt (by omega)
  simp [Xnq, w1, w2, w3, show (k : Int) < 26 by omega, show ¬ (26 : Int) ≤ k by omega, show (0 : Int) ≤ 65 + k by omega, show (0 : Int) ≤ 97 + k by omega, show 65 + (k : Int) < 256 by omega, show 97 + (k : Int) < 256 by omega, show (65 + (k : Int)).toNat = 65 + k by omega, show (97 + (k : Int)).toNat = 97 + k by omega, show 65 + k < 256 by omega, show 97 + k < 256 by omega]
  refine rn [] (k + 1) _ _ ?_ ?_ ?_ ?_ ?_ ?_
  ·omega
  ·omega
  ·simp
  ·simp
   refine Yi fun i _ => ?_
   simp only [upd, cl1]
   repeat (first | split | omega)
   all_goals omega
  ·simp
  ·simp
 ·have hk' : k = 26 := by omega
  subst hk'
  simp [Xnq]
  refine re _ _ _ ?_
  simp
  clear rn re
  rw [show W1 (cl1 26) = W1 (cl2 0) from Yi fun i _ => by simp [cl2]; omega]
  refine ALoop.go (ι := Nat) (fun k => [(0, .ptr 0 []), (17, .d (.int .i64 k))]) (fun k => [(0, .box 127 (.d (W1 (cl2 k))))]) (fun k => k ≤ 10) (fun k => 10 - k) 0 (by omega) (by simp) (by simp) ?_
  intro k hk R rn re _ _
  by_cases hlt : k < 10
  ·have w1 : IntKind.i64.wrap (48 + (k : Int)) = 48 + (k : Int) := IntWalk.i64_in _ (by omega)
   have w3 := Xee hlt (by omega)
   simp [Xni, w1, w3, show (k : Int) < 10 by omega, show ¬ (10 : Int) ≤ k by omega, show (0 : Int) ≤ 48 + k by omega, show 48 + (k : Int) < 256 by omega, show (48 + (k : Int)).toNat = 48 + k by omega, show 48 + k < 256 by omega]
   refine rn [] (k + 1) _ _ ?_ ?_ ?_ ?_ ?_ ?_
   ·omega
   ·omega
   ·simp
   ·simp
    refine Yi fun i _ => ?_
    simp only [upd, cl2]
    repeat (first | split | omega)
    all_goals omega
   ·simp
   ·simp
  ·have hk' : k = 10 := by omega
   subst hk'
   simp [Xni]
   refine re _ _ _ ?_
   simp
   clear rn re
   rw [show W1 (cl2 10) = W1 (cl3 0) from Yi fun i _ => by simp [cl3]]
   show ALoop _ _ _ [_, (25, V.d (D.list 1 (bytesD spc))), _, _] _
   refine ALoop.go (ι := Nat) (fun k => [(0, .ptr 0 []), (25, .d (.list 1 (bytesD spc))), (26, .d (.int .i64 4)), (27, .d (.int .i64 k))]) (fun k => [(1, .gone), (0, .box 127 (.d (W1 (cl3 k))))]) (fun k => k ≤ 4) (fun k => 4 - k) 0 (by omega) (by simp [Xc]) (by simp) ?_
   intro k hk R rn re _ _
   by_cases hlt : k < 4
   ·have w3 := Xee hlt (by omega)
    have hb : (bytesD spc)[k]?.getD default = .int .u8 (spc[k]?.getD 0).toNat := by
     rw [Up]; simp [show k < spc.length from hlt]
    have hlen : (bytesD spc).length = 4 := rfl
    have hc := (spc[k]?.getD 0).toNat_lt
    generalize hcc : spc[k]?.getD 0 = c at *
    simp [Xmc, w3, hb, hlen, show (k : Int) < 4 by omega, show ¬ (4 : Int) ≤ k by omega, hc, show ((c.toNat : Int) < 256) by omega]
    refine rn [] (k + 1) _ _ ?_ ?_ ?_ ?_ ?_ ?_
    ·omega
    ·omega
    ·simp
    ·simp
     refine Yi fun i _ => ?_
     simp only [upd, cl3, Xh8 (show k < spc.length from hlt), hcc]
     split
     ·rename_i e; simp [e]
     ·rename_i e; simp [e]
    ·simp
    ·simp
   ·have hk' : k = 4 := by omega
    subst hk'
    simp [Xmc]
    refine re _ _ _ ?_
    simp
    clear rn re
    rw [show W1 (cl3 4) = W1 (cl4 0) from Yi fun i _ => by simp [cl4]]
    show ALoop _ _ _ [_, (35, V.d (D.list 1 (bytesD signs))), _, _] _
    refine ALoop.go (ι := Nat) (fun k => [(0, .ptr 0 []), (35, .d (.list 1 (bytesD signs))), (36, .d (.int .i64 15)), (37, .d (.int .i64 k))]) (fun k => [(2, .gone), (1, .gone), (0, .box 127 (.d (W1 (cl4 k))))]) (fun k => k ≤ 15) (fun k => 15 - k) 0 (by omega) (by simp [Xc]) (by simp) ?_
    intro k hk R rn re _ _
    by_cases hlt : k < 15
    ·have w3 := Xee hlt (by omega)
     have hb : (bytesD signs)[k]?.getD default = .int .u8 (signs[k]?.getD 0).toNat := by
      rw [Up]; simp [show k < signs.length from hlt]
     have hlen : (bytesD signs).length = 15 := rfl
     have hc := (signs[k]?.getD 0).toNat_lt
     generalize hcc : signs[k]?.getD 0 = c at *
     simp [Xla, w3, hb, hlen, show (k : Int) < 15 by omega, show ¬ (15 : Int) ≤ k by omega, hc, show ((c.toNat : Int) < 256) by omega]
     refine rn [] (k + 1) _ _ ?_ ?_ ?_ ?_ ?_ ?_
     ·omega
     ·omega
     ·simp
     ·simp
      refine Yi fun i _ => ?_
      simp only [upd, cl4, Xh8 (show k < signs.length from hlt), hcc]
      split
      ·rename_i e; simp [e]
      ·rename_i e; simp [e]
     ·simp
     ·simp
    ·have hk' : k = 15 := by omega
     subst hk'
     simp [Xla]
     refine re _ _ _ ?_
     simp
     refine ⟨rfl, ?_⟩
     exact h
end
end Go.Proofs.YtmapdjjigmkbfaaGreatDoor
/- Contracts: what the scanner calls. Condition: the program is the seat's. -/
namespace Go.Lx
open Go Go.Ab
@[simp] theorem idxPV_tbl (f : Nat → Int) (kd : IntKind) (i : Int) : Xbv (.d (.ref (W1 f))) (.d (.int kd i)) = .d (.ref ((Xcx f).getD i.toNat default)) := by simp only [W1, Xbv]
@[simp] theorem idxPS_tbl (ob : Objs) (f : Nat → Int) (kd : IntKind) (i : Int) : Xgn ob 256 1 (.d (.ref (W1 f))) (.d (.int kd i)) = (0 ≤ i ∧ i < 256) := by
 simp only [W1, Xu9, J5]
 simp
 intro _ _ x hx; exact Xcq f x hx
theorem Xaw : ∀ n, n < 256 → (Xc2 n = 2 ↔ Zm n = true) := by decide +kernel
theorem Jn : ∀ n, n < 256 → (Xc2 n = 3 ↔ Jk n = true) := by decide +kernel
theorem Xka : ∀ n, n < 256 → (Xc2 n = 1 ↔ Xq7 n = true) := by decide +kernel
theorem Xov : ∀ n, n < 256 → (Xc2 n = 4 ↔ signI n = true) := by decide +kernel
theorem Xj5 : ∀ n, n < 256 → 0 ≤ Xc2 n ∧ Xc2 n ≤ 4 := by decide +kernel
abbrev scD (s : List UInt8) (i : Int) (l : List D) : D := .agg [.str s, .int .i64 i, W1 Xc2, .list 4 l]
abbrev scV (s : List UInt8) (i : Int) (y n : Nat) : V := .agg [.d (.str s), .d (.int .i64 i), .d (W1 Xc2), .sl y n]
end Go.Lx
namespace Go.Proofs.YtmapdjjigmkbfaaGreatDoor
open Go Go.Ab Go.Lx
set_option maxRecDepth 100000
section
variable {P : Prg} (hP : P.p = Tryz.prog)
include hP
theorem Xuw (c : UInt8) (s : List UInt8) (i : Int) (l : List D) {ob : Objs} {K : V → Prop} (h : K (.d (.bool (Zl c)))) : PCall P 97 [.d (.int .u8 c.toNat), .d (.ref (.ref (scD s i l)))] ob K := by
 refine pcall_lift hP mixed (ds := [.int .u8 c.toNat, .ref (.ref (scD s i l))]) X8i Ybk TOk.nil ?_
 have hc := c.toNat_lt
 simp [X9n, hc, show (c.toNat : Int) < 256 by omega]
 refine (congrArg K ?_).mp h
 congr 2
 rw [Bool.eq_iff_iff]
 have h2 := Xaw c.toNat hc
 have h3 := Jn c.toNat hc
 simp [Zl, Xgb, h2, h3]
theorem Xlc (c : UInt8) (s : List UInt8) (i : Int) (l : List D) {ob : Objs} {K : V → Prop} (h : K (.d (.bool (Xz c)))) : PCall P 99 [.d (.int .u8 c.toNat), .d (.ref (.ref (scD s i l)))] ob K := by
 refine pcall_lift hP mixed (ds := [.int .u8 c.toNat, .ref (.ref (scD s i l))]) X6c Ya6 TOk.nil ?_
 have hc := c.toNat_lt
 simp [X9z, hc, show (c.toNat : Int) < 256 by omega]
 refine (congrArg K ?_).mp h
 congr 2
 rw [Bool.eq_iff_iff]
 have h3 := Jn c.toNat hc
 simp [Xz, h3]
theorem Xuh (c : UInt8) {ob : Objs} {K : V → Prop} (h : K (.d (.bool (Vg c)))) : PCall P 101 [.d (.int .u8 c.toNat)] ob K := by
 refine pcall_lift hP mixed (ds := [.int .u8 c.toNat]) Xyd X17 TOk.nil ?_
 simp [X4a]
 refine (congrArg K ?_).mp h
 congr 2
 rw [Bool.eq_iff_iff]
 simp [Vg]
 constructor
 ·intro h1 h2; exact h1 (by rw [← UInt8.ofNat_toNat (x := c), show c.toNat = 10 by omega]; rfl)
 ·intro h1 h2; subst h2; exact h1 rfl
theorem Xps (s t : List UInt8) {ob : Objs} {K : V → Prop} (h : K (.d (.bool (t.isPrefixOf s)))) : PCall P 100 [.d (.str s), .d (.str t)] ob K := by
 have h0 : ∀ {K : V → Prop}, K (.d (.bool (t.isPrefixOf s))) → PCall P 129 [.d (.str s), .d (.str t)] [] K := fun {K} h => by
  refine pcall_lift hP mixed (ds := [.str s, .str t]) Xzu X20 TOk.nil ?_
  simp [X2d]
  refine (congrArg K ?_).mp h
  congr 2
  rw [Bool.eq_iff_iff]
  simp only [List.isPrefixOf_iff_prefix, List.prefix_iff_eq_take]
  by_cases hl : t.length ≤ s.length
  ·simp [hl]; exact eq_comm
  ·simp [hl]
   intro e
   have := congrArg List.length e
   simp at this; omega
 refine pcall_lift hP mixed (ds := [.str s, .str t]) Xya X3k TOk.nil ?_
 simp [X3a]
 exact h0 (by simpa using h)
theorem Xup (s : List UInt8) (i : Nat) (hi : i ≤ s.length) (hs : s.length ≤ 1000000) (l : List D) (f : Nat) (fi ca : List D) (p : UInt8 → Bool) (hf : Xg P.p f = true)
  (hp : ∀ (c : UInt8) (K : V → Prop), K (.d (.bool (p c))) → PCall P f (fi.map .d ++ .d (.int .u8 c.toNat) :: ca.map .d) [] K)
  {ob : Objs} {K : V → Prop} (h : K (.d (.str ((s.drop i).takeWhile p)))) : PCall P 96 [.d (.ref (scD s i l)), .d (.fn f fi ca)] ob K := by
 refine pcall_lift hP mixed (ds := [.ref (scD s i l), .fn f fi ca]) X8q X9b TOk.nil ?_
 simp [Ybd]
 refine ALoop.go (ι := Nat) (fun j => [(0, .d (.ref (scD s i l))), (1, .d (.fn f fi ca)), (5, .d (.int .i64 j))]) (fun _ => []) (fun j => i ≤ j ∧ j ≤ s.length ∧ j + tw p s j = i + tw p s i) (fun j => s.length - j) i ⟨by omega, by omega, rfl⟩ rfl rfl ?_
 rintro j ⟨hj0, hj1, hj2⟩ R rn re _ _
 have ex : tw p s j = 0 → ∀ x, R (AExit.exit 0) [(0, .d (.ref (scD s i l))), (1, .d (.fn f fi ca)), (5, .d (.int .i64 j)), (26, x)] [] := fun h0 x => by
  refine re _ _ _ ?_
  simp [hj0, hj1]
  refine (congrArg K ?_).mp h
  congr 2
  rw [List.drop_take, Zo]
  congr 1
  simp only [tw] at hj2 h0 ⊢
  omega
 simp [Xs4]
 by_cases hjl : j < s.length
 ·have hwj := Xee hjl hs
  simp [hjl, hwj, hf]
  refine ⟨PCall.acall (hp s[j] _ ?_), fun h => absurd h (by omega)⟩
  by_cases hb : p s[j] = true
  ·simp [hb]
   refine rn [] (j + 1) _ _ ⟨?_, ?_, ?_⟩ ?_ ?_ ?_ ?_ ?_
   ·omega
   ·omega
   ·rw [← hj2, Xmz hjl (by simpa [hjl] using hb)]; omega
   ·omega
   ·simp
   ·simp
   ·simp
   ·simp
  ·simp [hb]
   exact ex (X3f hjl (by simpa [hjl] using hb)) _
 ·simp [hjl]
  exact fun _ => ex (X1n (by omega)) _
end
end Go.Proofs.YtmapdjjigmkbfaaGreatDoor
/- Contracts: the scanner's methods. Condition: the program is the seat's. -/
namespace Go.Proofs.YtmapdjjigmkbfaaGreatDoor
open Go Go.Ab Go.Lx
set_option maxRecDepth 100000
section
variable {P : Prg} (hP : P.p = Tryz.prog)
include hP
theorem Xuq (s : List UInt8) (i n : Nat) (k m a0 : Int) (t : List UInt8) (ts : List D) (hn : i + n ≤ 1000000) (hts : ts.length ≤ 1000000) {ob : Objs} {x y : Nat} (hx : lookO ob x = some (.box 130 (scV s i y ts.length))) (hy : lookO ob y = some (.arr 59 4 ts))
  {K : Out → Objs → Prop} (h : K (.ret (.tup [])) (setO (setO ob y (.arr 59 4 (ts ++ [.agg [.int .i64 k, .str t, .int .i64 m, .int .i64 i]]))) x (.box 130 (scV s ((i + n : Nat) : Int) y (ts.length + 1))))) :
  ACall P 98 [.ptr x [], .d (.agg [.int .i64 k, .str t, .int .i64 m, .int .i64 a0]), .d (.int .i64 n)] ob K := by
 have hxy : (y == x) = false := by rw [beq_eq_false_iff_ne]; intro e; subst e; rw [hx] at hy; cases hy
 have hyx : (x == y) = false := by rw [beq_eq_false_iff_ne]; intro e; subst e; rw [hx] at hy; cases hy
 refine acall_lift hP mixed X5z Yag TOk.nil ?_
 intro _ hm
 have hw : IntKind.i64.wrap ((i : Int) + n) = (i : Int) + n := IntWalk.i64_in _ (by omega)
 simp [Yba, hx, hy, hxy, hyx, hw]
 refine ⟨by omega, ?_⟩
 refine ⟨[], by simp, ?_, ?_⟩
 ·simp
  exact noMenO_set_box _ _ _ _ _ (noMenO_set_arr _ _ _ _ _ _ (hm _)) (by simp [hy])
 ·simpa using h
abbrev Xbs (ob : Objs) (x y : Nat) (s : List UInt8) (ts : List D) (k : Int) (t : List UInt8) (m : Int) (i n : Nat) : Objs :=
 setO (setO ob y (.arr 59 4 (ts ++ [.agg [.int .i64 k, .str t, .int .i64 m, .int .i64 i]]))) x (.box 130 (scV s ((i + n : Nat) : Int) y (ts.length + 1)))
theorem Xb6 : Xg P.p 97 = true ∧ Xg P.p 99 = true ∧ Xg P.p 101 = true := by
 rw [hP]; exact ⟨by kernel_rfl, by kernel_rfl, by kernel_rfl⟩
section
variable (s : List UInt8) (i : Nat) (ts : List D) (hs : s.length ≤ 65536) (hi : i < s.length) (hts : ts.length ≤ 1000000) {ob : Objs} {x y : Nat} (hx : lookO ob x = some (.box 130 (scV s i y ts.length))) (hy : lookO ob y = some (.arr 59 4 ts)) {K : Out → Objs → Prop}
include hs hi hts hx hy
omit hs hi hts hy in
theorem Xut (h : K (.panic (.d (.iface 124 (.int .i64 i)))) ob) : ACall P 45 [.ptr x []] ob K := by
 refine acall_lift hP mixed X7z Yaa TOk.nil ?_
 intro _ hm
 simp [X9q, hx]
 refine ⟨[], by simp, ?_, ?_⟩
 ·simp [hm]
 ·simpa using h
omit hts in
theorem Xvw (h : K (.ret (.tup [])) (setO ob x (.box 130 (scV s ((i + 1 : Nat) : Int) y ts.length)))) : ACall P 46 [.ptr x []] ob K := by
 refine acall_lift hP mixed X8a X95 TOk.nil ?_
 intro _ hm
 have hw := Xee hi (by omega)
 simp [Yaj, hx, hw]
 refine ⟨[], by simp, ?_, ?_⟩
 ·simp
  exact noMenO_set_box _ _ _ _ _ (hm _) (by simp [hy])
 ·simpa using h
theorem Xxf (h1 : 32 < tw Zl s i → K (.panic (.d (.iface 124 (.int .i64 i)))) ob) (h2 : tw Zl s i ≤ 32 → K (.ret (.tup [])) (Xbs ob x y s ts 1 ((s.drop i).takeWhile Zl) 0 i (tw Zl s i))) : ACall P 47 [.ptr x []] ob K := by
 refine acall_lift hP mixed X48 Ya4 TOk.nil ?_
 intro _ hm
 have hle := Xjq Zl s i (by omega)
 simp [Ya3, hx]
 refine PCall.borrow (n := 5) (ds := [.ref (scD s i ts), .fn 97 [] [.ref (.ref (scD s i ts))]]) (by simp [hx, hy]) ?_
 refine Xup hP s i (by omega) (by omega) ts _ [] _ Zl (Xb6 hP).1 (fun c K h => by simpa using Xuw hP c s i ts h) ?_
 simp
 have hl : ((s.drop i).takeWhile Zl).length = tw Zl s i := rfl
 simp [hl, hx]
 refine ⟨fun h3 => ?_, fun h3 => ?_⟩
 ·refine ⟨[], by simp, ?_, ?_⟩
  ·simp [hm]
  ·simpa using h1 (by omega)
 ·simp [Xvz, hl, hx]
  refine Xuq hP (y := y) s i _ 1 0 0 _ ts (by omega) hts (by simp [hx]) (by simp [hy]) ?_
  simp [hx, hy]
  refine ⟨[], by simp, ?_, ?_⟩
  ·simp
   exact noMenO_set_box _ _ _ _ _ (noMenO_set_arr _ _ _ _ _ _ (hm _)) (by simp [hy])
  ·simpa [Xbs] using h2 (by omega)
theorem Xkr (hd : Xz (s[i]?.getD 0) = true) (h1 : Xcz ((s.drop i).takeWhile Xz) = none → K (.panic (.d (.iface 124 (.int .i64 i)))) ob)
  (h2 : ∀ m, Xcz ((s.drop i).takeWhile Xz) = some m → K (.ret (.tup [])) (Xbs ob x y s ts 2 [] m i (tw Xz s i))) : ACall P 48 [.ptr x []] ob K := by
 refine acall_lift hP mixed X7m Yac TOk.nil ?_
 intro _ hm
 have hle := Xjq Xz s i (by omega)
 simp [Yar, hx]
 refine PCall.borrow (n := 5) (ds := [.ref (scD s i ts), .fn 99 [] [.ref (.ref (scD s i ts))]]) (by simp [hx, hy]) ?_
 refine Xup hP s i (by omega) (by omega) ts _ [] _ Xz (Xb6 hP).2.1 (fun c K h => by simpa using Xlc hP c s i ts h) ?_
 have hl : ((s.drop i).takeWhile Xz).length = tw Xz s i := rfl
 have hdg : ∀ k, k < tw Xz s i → Jk (((s.drop i).takeWhile Xz)[k]?.getD 0).toNat = true := fun k hk => by
  have : ((s.drop i).takeWhile Xz)[k] ∈ (s.drop i).takeWhile Xz := List.getElem_mem hk
  rw [List.getElem?_eq_getElem hk]
  exact Xrk this
 have hne : 0 < tw Xz s i := by have := Xmz hi hd; omega
 generalize ht : (s.drop i).takeWhile Xz = t at *
 rw [← hl] at hdg hne
 simp
 refine ALoop.go (ι := Nat × Int) (fun k => [(1, .ptr (fresh ob) []), (2, .d (.str t)), (3, .d (.int .i64 k.2)), (9, .d (.int .i64 t.length)), (10, .d (.int .i64 k.1))]) (fun _ => (fresh ob, .box 126 (.ptr x [])) :: ob)
  (fun k => k.1 ≤ t.length ∧ 0 ≤ k.2 ∧ k.2 ≤ 1099511627776 ∧ Xb5 0 t = Xb5 k.2 (t.drop k.1) ∧ (2 ≤ k.1 → t.headD 0 ≠ 48)) (fun k => t.length - k.1) (0, 0) ⟨by simp, by simp, by simp, by simp, by simp⟩ rfl rfl ?_
 rintro ⟨k, n⟩ ⟨hk, k1, k2, k3, k4⟩ R rn re _ rp
 simp only at hk k1 k2 k3 k4
 simp [Xsx]
 by_cases hlt : k < t.length
 ·have hc := hdg k hlt
  rw [Xjn hlt] at k3
  generalize hcc : t[k]?.getD 0 = c at *
  have hcc' : t[k] = c := by rw [← hcc]; simp [hlt]
  simp [Jk] at hc
  have hcl := c.toNat_lt
  have hw : IntKind.i64.wrap (IntKind.i64.wrap (10 * n) + IntKind.i64.wrap (IntKind.u8.wrap (c.toNat - 48))) = 10 * n + (c.toNat - 48) := by
   rw [IntWalk.u8_in _ (by omega), IntWalk.i64_in (10 * n) (by omega), IntWalk.i64_in (_ - 48) (by omega), IntWalk.i64_in _ (by omega)]
  have hwk := Xee hlt (by omega)
  have hpan : Xcz t = none → R (AExit.panic (V.d (D.iface 124 (D.int IntKind.i64 i)))) [] ((fresh ob, .box 126 (.ptr x [])) :: ob) := fun hno => by
   refine rp _ _ _ ?_
   simp
   refine ⟨[], by simp, ?_, ?_⟩
   ·simp [hm]
   ·simpa using h1 hno
  have h0 : (t[0]?.getD 0) = t.headD 0 := by cases t <;> rfl
  have hlead : 0 < k → t[0]?.getD 0 = 48 → Xcz t = none := fun k0 e => by
   rw [h0] at e
   unfold Xcz
   cases Xb5 0 t with
   | none => rfl
   | some m => simp only; rw [if_neg]; simp only [not_or, Classical.not_not]; exact ⟨by omega, e⟩
  simp [hlt, hcc', hw, hwk, hx]
  refine ⟨⟨fun _ _ => hne, fun e => hpan ?_, fun e1 e2 => ?_⟩, fun e => absurd e (by omega)⟩
  ·rcases e with e | ⟨e1, e2⟩
   ·rw [if_pos e] at k3
    simp [Xcz, k3]
   ·refine hlead e1 ?_
    have e3 : (t[0]?.getD 0).toNat = 48 := by omega
    generalize t[0]?.getD 0 = z at e3
    rw [← UInt8.ofNat_toNat (x := z), e3]; rfl
  ·rw [if_neg (by omega)] at k3
   simp [Xvx, hwk]
   refine rn [] (k + 1, 10 * n + (c.toNat - 48)) _ _ ⟨?_, ?_, ?_, ?_, ?_⟩ ?_ ?_ ?_ ?_ ?_
   ·simp only; omega
   ·simp only; omega
   ·exact e1
   ·exact k3
   ·intro h2k e3
    have hk0 : 0 < k := by simp only at h2k; omega
    refine e2 hk0 ?_
    rw [h0, e3]; rfl
   ·simp only; omega
   ·simp
   ·simp
   ·simp [young]
   ·simp [X1 _ hm, hx]
 ·have hk' : k = t.length := by omega
  subst hk'
  simp
  refine re _ _ _ ?_
  simp [hx]
  refine Xuq hP (y := y) s i _ 2 n 0 _ ts (by omega) hts (by simp [hx]) (by simp [hy]) ?_
  simp [hx, hy]
  refine ⟨[], by simp, ?_, ?_⟩
  ·simp
   exact noMenO_set_box _ _ _ _ _ (noMenO_set_arr _ _ _ _ _ _ (hm _)) (by simp [hy])
  ·have hn : Xcz t = some n := by
    simp [Xb5] at k3
    simp only [Xcz, k3]
    rw [if_pos]
    by_cases h2 : 2 ≤ t.length
    ·exact .inr (k4 h2)
    ·exact .inl (by omega)
   simpa [Xbs, hl] using h2 n hn
theorem Xvj (hsg : signB (s[i]?.getD 0) = true) (h1 : s[i]?.getD 0 = 47 ∧ (s.drop (i + 1)).head? = some 47 → K (.ret (.tup [])) (setO ob x (.box 130 (scV s ((i + tw Vg s i : Nat) : Int) y ts.length))))
  (h2 : ¬ (s[i]?.getD 0 = 47 ∧ (s.drop (i + 1)).head? = some 47) → K (.ret (.tup [])) (Xbs ob x y s ts 3 [s[i]?.getD 0] 0 i 1)) : ACall P 49 [.ptr x []] ob K := by
 refine acall_lift hP mixed X6q Yai TOk.nil ?_
 intro _ hm
 have hw := Xee hi (by omega)
 have hle := Xjq Vg s i (by omega)
 simp [X9v, hx, hw, show i ≤ s.length by omega]
 refine PCall.data (ds := [.str (s.drop i), .str [47, 47]]) rfl (Xps hP _ _ ?_)
 have hpre : ([47, 47] : List UInt8).isPrefixOf (s.drop i) = decide (s[i]?.getD 0 = 47 ∧ (s.drop (i + 1)).head? = some 47) := by
  rw [Ww hi]
  cases hd : s.drop (i + 1) with
  | nil => simp [List.isPrefixOf]
  | cons a r =>
   rw [Bool.eq_iff_iff]
   simp only [List.isPrefixOf, Bool.and_eq_true, beq_iff_eq, Bool.and_true, decide_eq_true_eq, List.head?_cons, Option.some.injEq]
   exact ⟨fun h => ⟨h.1.symm, h.2.symm⟩, fun h => ⟨h.1.symm, h.2.symm⟩⟩
 rw [hpre]
 simp [hx, hw]
 refine ⟨fun e1 e2 => ?_, fun e => ⟨by omega, ?_⟩⟩
 ·refine PCall.borrow (n := 5) (ds := [.ref (scD s i ts), .fn 101 [] []]) (by simp [hx, hy]) ?_
  refine Xup hP s i (by omega) (by omega) ts _ [] [] Vg (Xb6 hP).2.2 (fun c K h => by simpa using Xuh hP c h) ?_
  have hl : ((s.drop i).takeWhile Vg).length = tw Vg s i := rfl
  have hw2 : IntKind.i64.wrap ((i : Int) + tw Vg s i) = (i : Int) + tw Vg s i := IntWalk.i64_in _ (by omega)
  simp [hl, hw2]
  refine ⟨[], by simp, ?_, ?_⟩
  ·simp
   exact noMenO_set_box _ _ _ _ _ (hm _) (by simp [hy])
  ·have := h1 ⟨e1, by rw [Xde]; exact e2⟩
   simpa using this
 ·have htx : (s.take (i + 1)).drop i = [s[i]?.getD 0] := by
   rw [List.drop_take, Nat.add_sub_cancel_left, Ww hi]; rfl
  rw [htx]
  refine Xuq hP (y := y) s i 1 3 0 0 _ ts (by omega) hts hx hy ?_
  simp
  refine ⟨[], by simp, ?_, ?_⟩
  ·simp
   exact noMenO_set_box _ _ _ _ _ (noMenO_set_arr _ _ _ _ _ _ (hm _)) (by simp [hy])
  ·have := h2 (fun e1 => e e1.1 (by rw [← Xde]; exact e1.2))
   simpa [Xbs] using this
end
end
end Go.Proofs.YtmapdjjigmkbfaaGreatDoor
/- Contracts: Lex. Condition: the program is the seat's. -/
namespace Go.Proofs.YtmapdjjigmkbfaaGreatDoor
open Go Go.Ab Go.Lx
set_option maxRecDepth 100000
section
variable {P : Prg} (hP : P.p = Tryz.prog)
include hP
theorem X0r {ob : Objs} {a b c : Nat} {K : Objs → Prop} (h : K ob) : DCall P 43 [.ptr a [], .ptr b [], .ptr c []] ob none K := by
 refine DCall.of_wf fun _ hm => ?_
 refine Xa3 hP mixed X3z X5e X5x TOk.nil ?_
 simp [Xkm, Xl3, X5u]
 refine ⟨[], by simp, ?_, ?_⟩
 ·simp [hm]
 ·simpa using h
theorem Xzk {ob : Objs} {a b c : Nat} {i : Int} {K : Objs → Prop} {va vb vc : V} {Ea Eb Ec : Nat} (ha : lookO ob a = some (.box Ea va)) (hb : lookO ob b = some (.box Eb vb)) (hc : lookO ob c = some (.box Ec vc)) (sa : va.shape = .leaf) (sb : vb.shape = .leaf) (sc : vc.shape = .leaf)
  (hab : (a == b) = false) (hac : (a == c) = false) (hbc : (b == c) = false) (h : K (setO (setO (setO ob a (.box Ea (.d .nils))) b (.box Eb (.d (.int .i64 i)))) c (.box Ec (.d (.int .i64 90))))) : DCall P 43 [.ptr a [], .ptr b [], .ptr c []] ob (some (.d (.iface 124 (.int .i64 i)))) K := by
 refine DCall.of_wf fun _ hm => ?_
 refine Xa3 hP mixed X3z X5e X5x TOk.nil ?_
 simp [Xkm, Xl3, X5u, Xth, ha, hb, hc, hab, hac, hbc, sa, sb, sc]
 refine ⟨[], by simp, ?_, ?_⟩
 ·rw [Vp (by simp)]
  exact noMenO_set_box _ _ _ _ _ (noMenO_set_box _ _ _ _ _ (noMenO_set_box _ _ _ _ _ (hm _) (by simp)) (by simp)) (by simp)
 ·rw [Vp (by simp)]
  exact h
theorem Xoz : Xg P.p 43 = true ∧ Xg P.p 45 = true ∧ Xg P.p 46 = true ∧ Xg P.p 47 = true ∧ Xg P.p 48 = true ∧ Xg P.p 49 = true := by
 rw [hP]; exact ⟨by kernel_rfl, by kernel_rfl, by kernel_rfl, by kernel_rfl, by kernel_rfl, by kernel_rfl⟩
omit hP in
theorem Xl2 (f g : Nat → Int) : (W1 f).shape = (W1 g).shape := by
 simp only [W1, Xcx, D.shape, D.shapes_eq, List.map_map, Function.comp_def]
theorem X2w (s : List UInt8) {ob : Objs} {K : V → Prop} (h : K (Xzd s)) : PCall P 16 [.d (.str s)] ob K := by
 refine Qg hP mixed (ds := [.str s]) Yaq Ybn TOk.nil ?_
 obtain ⟨d0, d1, d2, d3, d4, d5⟩ := Xoz hP
 simp only [X6z, Xeo, Xue]
 simp [d0]
 refine ⟨fun hl => ?_, fun hl => ?_⟩
 ·simpa [Xzd, show 65536 < s.length by omega] using h
 ·have hl' : ¬ 65536 < s.length := by omega
  simp only [Xzd, gt_iff_lt, hl', if_false] at h
  refine Xjv hP ?_
  simp [X59]
  refine ⟨Xl2 _ _, ?_⟩
  refine ALoop.go (ι := Nat × List Tok) (fun _ => [(0, .d (.str s)), (2, .ptr 0 []), (3, .ptr 1 []), (4, .ptr 2 []), (5, .ptr 3 []), (6, .ptr 5 [])])
   (fun k => [(5, .box 131 (.agg [.fn 45 [.ptr 3 []] [], .fn 46 [.ptr 3 []] [], .fn 47 [.ptr 3 []] [], .fn 48 [.ptr 3 []] [], .fn 49 [.ptr 3 []] []])),
    (4, .arr 59 4 (k.2.map Tok.enc)), (3, .box 130 (scV s k.1 4 k.2.length)), (2, .box 45 (.d (.int .i64 0))), (1, .box 3 (.d (.int .i64 0))), (0, .box 55 (.d .nils))])
   (fun k => k.1 ≤ s.length ∧ k.2.length ≤ k.1 ∧ Xc3 s 0 = Xn5 k.2 (Xc3 (s.drop k.1) k.1)) (fun k => s.length - k.1) (0, []) ⟨by simp, by simp, by simp [Xpv]⟩ rfl (by simp) ?_
  rintro ⟨i, out⟩ ⟨hi, ho, he⟩ R rn re _ rp
  simp only at hi ho he
  have nx : ∀ j out' ob', j ≤ s.length → out'.length ≤ j → Xc3 s 0 = Xn5 out' (Xc3 (s.drop j) j) → i < j → ob' = [(5, .box 131 (.agg [.fn 45 [.ptr 3 []] [], .fn 46 [.ptr 3 []] [], .fn 47 [.ptr 3 []] [], .fn 48 [.ptr 3 []] [], .fn 49 [.ptr 3 []] []])),
    (4, .arr 59 4 (out'.map Tok.enc)), (3, .box 130 (scV s j 4 out'.length)), (2, .box 45 (.d (.int .i64 0))), (1, .box 3 (.d (.int .i64 0))), (0, .box 55 (.d .nils))] → R .normal [(0, .d (.str s)), (2, .ptr 0 []), (3, .ptr 1 []), (4, .ptr 2 []), (5, .ptr 3 []), (6, .ptr 5 [])] ob' := fun j out' ob' h1 h2 h3 h4 h6 =>
   rn [] (j, out') _ _ ⟨h1, h2, h3⟩ (by simp only; omega) rfl (by rw [h6]; simp [young]) (by simp [young]) (by simp [young])
  clear rn
  by_cases hlt : i < s.length
  ·rw [Xtk hlt] at he
   generalize hc : s[i]?.getD 0 = c at *
   have hc' : s[i] = c := by rw [← hc]; simp [hlt]
   have hcl := c.toNat_lt
   have hout : (out.map Tok.enc).length ≤ 1000000 := by simp; omega
   have pan : Xc3 s 0 = .err i → R (.panic (.d (.iface 124 (.int .i64 i)))) [(2, .ptr 0 []), (3, .ptr 1 []), (4, .ptr 2 [])] [(5, .box 131 (.agg [.fn 45 [.ptr 3 []] [], .fn 46 [.ptr 3 []] [], .fn 47 [.ptr 3 []] [], .fn 48 [.ptr 3 []] [], .fn 49 [.ptr 3 []] []])),
    (4, .arr 59 4 (out.map Tok.enc)), (3, .box 130 (scV s i 4 out.length)), (2, .box 45 (.d (.int .i64 0))), (1, .box 3 (.d (.int .i64 0))), (0, .box 55 (.d .nils))] := fun hr => by
    refine rp _ _ _ ?_
    simp
    refine Xzk hP (Ea := 55) (Eb := 3) (Ec := 45) (va := .d .nils) (vb := .d (.int .i64 0)) (vc := .d (.int .i64 0)) (by simp) (by simp) (by simp) (by simp) (by simp) (by simp) rfl rfl rfl ?_
    simp
    rw [hr] at h
    exact h
   have hx : ∀ (o5 : Ob), lookO [(5, o5), (4, Ob.arr 59 4 (out.map Tok.enc)), (3, Ob.box 130 (scV s i 4 (out.map Tok.enc).length)), (2, .box 45 (.d (.int .i64 0))), (1, .box 3 (.d (.int .i64 0))), (0, .box 55 (.d .nils))] 3 = some (.box 130 (scV s i 4 (out.map Tok.enc).length)) := fun _ => by simp
   have hcr := Xj5 c.toNat hcl
   have cls : ∀ m : Nat, Xc2 c.toNat = m → (Xc2 c.toNat).toNat = m := fun m e => by omega
   have g1 := Xka c.toNat hcl
   have g2 := Xaw c.toNat hcl
   have g3 := Jn c.toNat hcl
   have g4 := Xov c.toNat hcl
   have e47 : Xc2 c.toNat ≠ 4 → ¬ (c = 47 ∧ (s.drop (i + 1)).head? = some 47) := fun hne h => by
    obtain ⟨rfl, _⟩ := h; exact hne (by decide +kernel)
   have key : ∀ m : Int, Xc2 c.toNat = m → (Xht c = decide (m = 1)) ∧ (J4 c = decide (m = 2)) ∧ (Xz c = decide (m = 3)) ∧ (signB c = decide (m = 4)) := fun m e => by
    rw [e] at g1 g2 g3 g4
    refine ⟨?_, ?_, ?_, ?_⟩ <;> rw [Bool.eq_iff_iff, decide_eq_true_eq]
    ·exact g1.symm
    ·exact g2.symm
    ·exact g3.symm
    ·exact g4.symm
   have htwt : ∀ p : UInt8 → Bool, p c = true → tw p s i = ((s.drop (i + 1)).takeWhile p).length + 1 ∧ (s.drop i).takeWhile p = c :: (s.drop (i + 1)).takeWhile p := fun p hp => by
    refine ⟨(Xtr p hlt (by rw [hc]; exact hp)).2, ?_⟩
    rw [Ww hlt, hc, List.takeWhile_cons, if_pos hp]
   rcases (by omega : Xc2 c.toNat = 0 ∨ Xc2 c.toNat = 1 ∨ Xc2 c.toNat = 2 ∨ Xc2 c.toNat = 3 ∨ Xc2 c.toNat = 4) with e | e | e | e | e
   ·obtain ⟨k1, k2, k3, k4⟩ := key 0 e
    simp only [stp, k1, k2, k3, k4, e47 (by rw [e]; decide), if_false, Xn5] at he
    simp [Un, hlt, hc', hcl, show (c.toNat : Int) < 256 by omega, e, d1]
    refine Xut hP s i (out.map Tok.enc) (y := 4) (by simp) ?_
    simp
    exact pan (by simpa using he)
   ·obtain ⟨k1, k2, k3, k4⟩ := key 1 e
    simp [stp, k1] at he
    simp [Un, hlt, hc', hcl, show (c.toNat : Int) < 256 by omega, e, d2]
    refine Xvw hP s i (out.map Tok.enc) (by omega) hlt (y := 4) (by simp) (by simp) ?_
    simp
    refine nx (i + 1) out _ (by omega) (by omega) he (by omega) (by simp)
   ·obtain ⟨k1, k2, k3, k4⟩ := key 2 e
    have hp : Zl c = true := by
     have : Zm c.toNat = true := by simpa [J4] using k2
     simp [Zl, Xgb, this]
    obtain ⟨t1, t2⟩ := htwt Zl hp
    have hle := Xjq Zl s i (by omega)
    have k1 : Xht c = false := by simpa using k1
    have k2 : J4 c = true := by simpa using k2
    simp only [stp, k1, k2, e47 (by rw [e]; decide), Bool.false_eq_true, if_false, if_true] at he
    simp [Un, hlt, hc', hcl, show (c.toNat : Int) < 256 by omega, e, d3]
    refine Xxf hP s i (out.map Tok.enc) (by omega) hlt hout (y := 4) (by simp) (by simp) (fun h5 => ?_) (fun h5 => ?_)
    ·simp
     rw [if_neg (by omega)] at he
     exact pan (by simpa [Xn5] using he)
    ·simp [Xbs]
     rw [if_pos (by omega)] at he
     simp only [Xc1] at he
     have hjj : i + ((s.drop (i + 1)).takeWhile Zl).length + 1 = i + tw Zl s i := by omega
     rw [hjj] at he
     refine nx (i + tw Zl s i) (out ++ [⟨1, c :: (s.drop (i + 1)).takeWhile Zl, 0, i⟩]) _ (by omega) (by simp; omega) he (by omega) ?_
     simp [Tok.enc, t2]
   ·obtain ⟨k1, k2, k3, k4⟩ := key 3 e
    have hp : Xz c = true := by simpa using k3
    obtain ⟨t1, t2⟩ := htwt Xz hp
    have hle := Xjq Xz s i (by omega)
    have k1 : Xht c = false := by simpa using k1
    have k2 : J4 c = false := by simpa using k2
    simp only [stp, k1, k2, hp, e47 (by rw [e]; decide), Bool.false_eq_true, if_false, if_true] at he
    simp [Un, hlt, hc', hcl, show (c.toNat : Int) < 256 by omega, e, d4]
    refine Xkr hP s i (out.map Tok.enc) (by omega) hlt hout (y := 4) (by simp) (by simp) (by rw [hc]; exact hp) (fun h5 => ?_) (fun m h5 => ?_)
    ·simp
     rw [t2] at h5
     rw [h5] at he
     exact pan (by simpa [Xn5] using he)
    ·simp [Xbs]
     rw [t2] at h5
     rw [h5] at he
     simp only [Xc1] at he
     have hjj : i + ((s.drop (i + 1)).takeWhile Xz).length + 1 = i + tw Xz s i := by omega
     rw [hjj] at he
     refine nx (i + tw Xz s i) (out ++ [⟨2, [], m, i⟩]) _ (by omega) (by simp; omega) he (by omega) ?_
     simp [Tok.enc]
   ·obtain ⟨k1, k2, k3, k4⟩ := key 4 e
    simp [Un, hlt, hc', hcl, show (c.toNat : Int) < 256 by omega, e, d5]
    refine Xvj hP s i (out.map Tok.enc) (by omega) hlt hout (y := 4) (by simp) (by simp) (by rw [hc]; simpa using k4) (fun h5 => ?_) (fun h5 => ?_)
    ·rw [hc] at h5
     obtain ⟨rfl, h6⟩ := h5
     obtain ⟨t1, t2⟩ := htwt Vg rfl
     have hle := Xjq Vg s i (by omega)
     simp only [stp, k1, h6, and_self, if_true, decide_eq_true_eq, show ¬ ((4 : Int) = 1) by decide, if_false] at he
     simp
     have hjj : i + ((s.drop (i + 1)).takeWhile Vg).length + 1 = i + tw Vg s i := by omega
     rw [hjj] at he
     refine nx (i + tw Vg s i) out _ (by omega) (by omega) he (by omega) ?_
     simp
    ·rw [hc] at h5
     simp only [stp, k1, k2, k3, k4, h5, if_false, decide_eq_true_eq, show ¬ ((4 : Int) = 1) by decide, show ¬ ((4 : Int) = 2) by decide, show ¬ ((4 : Int) = 3) by decide, if_true, Xc1] at he
     simp [Xbs]
     refine nx (i + 1) (out ++ [⟨3, [c], 0, i⟩]) _ (by omega) (by simp; omega) he (by omega) ?_
     simp [Tok.enc, hc]
  ·have hi' : i = s.length := by omega
   subst hi'
   simp [Un]
   refine re _ _ _ ?_
   simp
   refine X0r hP ?_
   simp
   rw [Xp8 (Nat.le_refl _)] at he
   rw [he] at h
   simpa [Xn5, X2p, Xt9] using h
end
end Go.Proofs.YtmapdjjigmkbfaaGreatDoor
/- strings.Builder: copyCheck, walked (the shelf's body has a panic where this dump refuses). Condition: the program is the seat's. -/
namespace Go.Proofs.YtmapdjjigmkbfaaGreatDoor
open Go Go.Ab Go.Lx
set_option maxRecDepth 100000
open Go.RowKit in
set_option maxHeartbeats 1000000 in
theorem cc_used (b : Nat) (w : World) (h0 : w.cell? ⟨b, 0, none⟩ = some (.pointer (some ⟨b, 0, none⟩))) :
  Calls Tryz.prog 103 #[.pointer (some ⟨b, 0, none⟩)] w fun e w' => e = .returned (.tuple #[]) ∧ w' = w := by
 have hX : (Tryz.prog.info? 134).map (·.size) = some 2 := by kernel_rfl
 obtain ⟨j, hj, _⟩ := Option.map_eq_some_iff.1 hX
 go_enter Tryz.func103, Tryz.ntmps103
 go_wp2
 rw [Lib.run_neq_ptr_same w _ Tryz.underlying132 hj]
 go_wp2
 go_end0
 exact ⟨rfl, rfl⟩
open Go.RowKit in
set_option maxHeartbeats 1000000 in
theorem cc_fresh (b : Nat) (w : World) (h0 : w.cell? ⟨b, 0, none⟩ = some (.pointer none)) (hsh : w.shape? b = some (134, 2)) (hfz : w.frozen? ⟨b, 0, none⟩ = false) :
  Calls Tryz.prog 103 #[.pointer (some ⟨b, 0, none⟩)] w fun e w' => e = .returned (.tuple #[]) ∧ w' = w.setCell ⟨b, 0, none⟩ (.pointer (some ⟨b, 0, none⟩)) := by
 have hX : (Tryz.prog.info? 134).map (·.size) = some 2 := by kernel_rfl
 have hY : liesAt Tryz.prog Tryz.prog.depth 134 (2 / Tryz.prog.cellsOf 134) 0 134 1 = true := by kernel_rfl
 obtain ⟨j, hj, hjs⟩ := Option.map_eq_some_iff.1 hX
 go_enter Tryz.func103, Tryz.ntmps103
 go_wp2
 rw [Lib.run_to_unsafe w ⟨b, 0, none⟩ Tryz.underlying132 Tryz.underlying229 hj (by rw [hjs]; decide) hsh (Nat.zero_lt_succ 1)]
 simp only [Result.andThen]
 rw [Oper.upon_value]
 go_wp2
 rw [run_callFunc_extern Tryz.func131 (by kernel_rfl) (by kernel_rfl) (by kernel_rfl) (e := Extern.AbiNoEscape.same) (by kernel_rfl)]
 rw [Lib.run_noEscape]
 simp only [Result.andThen]
 rw [Oper.upon_value]
 go_wp2
 rw [Lib.run_from_unsafe w ⟨b, 0, none⟩ Tryz.underlying229 Tryz.underlying132 hj hsh hY]
 simp only [Result.andThen]
 rw [Oper.upon_value]
 go_wp2
 go_end0
 exact ⟨rfl, rfl⟩
theorem bytesD_len : ∀ t : List UInt8, (bytesD t).length = t.length
 | [] => rfl
 | _ :: r => by simp [bytesD, bytesD_len r]
theorem bytesD_app : ∀ s t : List UInt8, bytesD (s ++ t) = bytesD s ++ bytesD t
 | [], _ => rfl
 | _ :: r, t => by simp [bytesD, bytesD_app r t]
theorem noMenO_set_gone {ob : Objs} (ids : Nat → Bool) (k : Nat) (h : noMenO ids ob = true) : noMenO ids (setO ob k .gone) = true := by
 induction ob with
 | nil => rfl
 | cons e r ih =>
  obtain ⟨j, o⟩ := e
  simp only [setO]
  split
  ·cases o <;> simp_all [noMenO]
  ·cases o <;> simp_all [noMenO]
section
variable {P : Prg} (hP : P.p = Tryz.prog)
include hP
theorem c_cc0 {ob : Objs} {x : Nat} (hx : lookO ob x = some (.box 134 (.d (.agg [.nilp, .nils])))) {K : Out → Objs → Prop} (h : K (.ret (.tup [])) (setO ob x (.box 134 (.agg [.ptr x [], .d .nils])))) : ACall P 103 [.ptr x []] ob K := by
 refine ⟨fun w ρ args ho hg hr => ?_⟩
 obtain ⟨b, cs, h1, h2, h3⟩ := ho.one x _ hx
 simp only [V.repC, D.rep, D.repL] at h3
 obtain ⟨c1, c2, rfl, rfl, c3, c4, rfl, rfl, rfl⟩ := h3
 simp only [V.reps, ↓reduceCtorEq, false_or] at hr
 obtain ⟨u, us, rfl, hu, rfl⟩ := hr
 have hu' : (V.ptr x []).rep w ρ u := hu.elim (fun h => .inr (.inl h)) (fun h => .inr (.inr h))
 obtain ⟨b', sh, g1, g2⟩ := rep_ptr_box ho hx hu'
 rw [h1] at g1; simp only [Option.some.injEq, RO.box.injEq] at g1
 obtain ⟨rfl, rfl⟩ := g1
 have hoff : Sh.off (V.d (.agg [.nilp, .nils])).shape [] = 0 := rfl
 rw [hoff] at g2; subst g2
 rw [hP]
 have hre : (V.agg [.ptr x [], .d .nils]).repC w ρ [.pointer (some ⟨b, 0, none⟩), .slice none 0 0] := by
  simp only [V.repC, V.repCs, D.rep]
  exact ⟨[_], [_], rfl, .inl ⟨b, _, h1, rfl⟩, [_], [], rfl, rfl, rfl⟩
 obtain ⟨t1, o1⟩ := write_box (t' := .agg [.ptr x [], .d .nils]) ho hx h1 h2 rfl hre
 refine (cc_fresh b w (by simp [World.cell?, h2]) (by simp [World.shape?, h2]) (by simp [World.frozen?, h2])).mono ?_
 rintro e w' ⟨rfl, rfl⟩
 have hw : w.setCell ⟨b, 0, none⟩ (.pointer (some ⟨b, 0, none⟩)) = w.setRow b [.pointer (some ⟨b, 0, none⟩), .slice none 0 0].toArray := by
  simp only [World.setCell, World.setRow]
  congr 1
  apply Array.ext_getElem?
  intro i
  simp only [Array.getElem?_modify]
  split
  ·rename_i e; subst e; rw [h2]; simp
  ·rfl
 rw [hw]
 exact ⟨_, _, ρ, h, rep_tup.2 ⟨[], rfl, rfl⟩, o1, t1⟩
theorem c_cc1 {ob : Objs} {x : Nat} {v : V} (hx : lookO ob x = some (.box 134 (.agg [.ptr x [], v]))) {K : Out → Objs → Prop} (h : K (.ret (.tup [])) ob) : ACall P 103 [.ptr x []] ob K := by
 refine ⟨fun w ρ args ho hg hr => ?_⟩
 obtain ⟨b, cs, h1, h2, h3⟩ := ho.one x _ hx
 simp only [V.repC, V.repCs] at h3
 obtain ⟨c1, c2, rfl, h3, _⟩ := h3
 rcases h3 with ⟨b', sh, h4, rfl⟩ | ⟨h4, _⟩
 ·rw [h1] at h4; simp only [Option.some.injEq, RO.box.injEq] at h4
  obtain ⟨rfl, rfl⟩ := h4
  simp only [V.reps, ↓reduceCtorEq, false_or] at hr
  obtain ⟨u, us, rfl, hu, rfl⟩ := hr
  have hu' : (V.ptr x []).rep w ρ u := hu.elim (fun h => .inr (.inl h)) (fun h => .inr (.inr h))
  obtain ⟨b', sh, g1, g2⟩ := rep_ptr_box ho hx hu'
  rw [h1] at g1; simp only [Option.some.injEq, RO.box.injEq] at g1
  obtain ⟨rfl, rfl⟩ := g1
  have hoff : Sh.off (V.agg [.ptr x [], v]).shape [] = 0 := rfl
  rw [hoff] at g2; subst g2
  rw [hP]
  refine (cc_used b w (by rw [hoff] at h2; simp [World.cell?, h2])).mono ?_
  rintro e w' ⟨rfl, rfl⟩
  exact ⟨_, _, ρ, h, rep_tup.2 ⟨[], rfl, rfl⟩, ho, .refl _ _⟩
 ·rw [h1] at h4; cases h4
theorem c_wb {ob : Objs} {x y : Nat} {c : Int} {l : List D} (hx : lookO ob x = some (.box 134 (.agg [.ptr x [], .sl y l.length]))) (hy : lookO ob y = some (.arr 5 1 l)) (hl : l.length ≤ 100000000) {K : Out → Objs → Prop} (h : K (.ret (.d .nili)) (setO (setO ob y (.arr 5 1 (l ++ [.int .u8 c]))) x (.box 134 (.agg [.ptr x [], .sl y (l.length + 1)])))) : ACall P 51 [.ptr x [], .d (.int .u8 c)] ob K := by
 have hxy : (y == x) = false := by rw [beq_eq_false_iff_ne]; intro e; subst e; rw [hx] at hy; cases hy
 have hyx : (x == y) = false := by rw [beq_eq_false_iff_ne]; intro e; subst e; rw [hx] at hy; cases hy
 refine acall_lift hP mixed ok51 lf51 TOk.nil ?_
 intro _ hm
 simp [Et51, hx]
 refine c_cc1 hP hx ?_
 simp [hx, hy, hxy, hyx]
 refine ⟨by omega, [], by simp, ?_, ?_⟩
 ·simp
  exact noMenO_set_box _ _ _ _ _ (noMenO_set_arr _ _ _ _ _ _ (hm _)) (by simp [hx, hy])
 ·simpa using h
theorem c_ws {ob : Objs} {x y : Nat} {t : List UInt8} {l : List D} (hx : lookO ob x = some (.box 134 (.agg [.ptr x [], .sl y l.length]))) (hy : lookO ob y = some (.arr 5 1 l)) (hl : l.length + t.length ≤ 100000000) {K : Out → Objs → Prop} (h : K (.ret (.tup [.d (.int .i64 t.length), .d .nili])) (setO (setO ob y (.arr 5 1 (l ++ bytesD t))) x (.box 134 (.agg [.ptr x [], .sl y (l.length + t.length)])))) : ACall P 52 [.ptr x [], .d (.str t)] ob K := by
 have hxy : (y == x) = false := by rw [beq_eq_false_iff_ne]; intro e; subst e; rw [hx] at hy; cases hy
 have hyx : (x == y) = false := by rw [beq_eq_false_iff_ne]; intro e; subst e; rw [hx] at hy; cases hy
 refine acall_lift hP mixed ok52 lf52 TOk.nil ?_
 intro _ hm
 simp [Et52, hx]
 refine c_cc1 hP hx ?_
 simp [hx, hy, hxy, hyx, bytesD_len]
 refine ⟨by omega, [], by simp, ?_, ?_⟩
 ·simp
  exact noMenO_set_box _ _ _ _ _ (noMenO_set_arr _ _ _ _ _ _ (hm _)) (by simp [hx, hy])
 ·simpa using h
theorem c_ws0 {ob : Objs} {x : Nat} {t : List UInt8} (hx : lookO ob x = some (.box 134 (.d (.agg [.nilp, .nils])))) (hl : t.length ≤ 100000000) {K : Out → Objs → Prop} (h : K (.ret (.tup [.d (.int .i64 t.length), .d .nili])) ((fresh ob, .arr 5 1 (bytesD t)) :: (setO ob x (.box 134 (.agg [.ptr x [], .sl (fresh ob) t.length]))))) : ACall P 52 [.ptr x [], .d (.str t)] ob K := by
 refine acall_lift hP mixed ok52 lf52 TOk.nil ?_
 intro _ hm
 simp [Et52, hx]
 refine c_cc0 hP hx ?_
 simp [hx, bytesD_len]
 have hy : young (fresh ob) [fresh ob] (fresh ob) = false := by simp [young]
 refine ⟨by omega, [fresh ob], by simp, ?_, ?_⟩
 ·simp [hy]
  exact noMenO_set_box _ _ _ _ _ (hm _) (by simp [hx, hy])
 ·simpa [hy] using h
theorem c_bs0 {ob : Objs} {x : Nat} (hx : lookO ob x = some (.box 134 (.d (.agg [.nilp, .nils])))) {K : Out → Objs → Prop} (h : K (.ret (.d (.str []))) ob) : ACall P 54 [.ptr x []] ob K := by
 refine acall_lift hP mixed ok54 lf54 TOk.nil ?_
 intro _ hm
 simp [Et54, hx]
 refine ⟨[], by simp, ?_, ?_⟩
 ·simp [hm]
 ·simpa using h
theorem c_bs {ob : Objs} {x y : Nat} {t : List UInt8} (hx : lookO ob x = some (.box 134 (.agg [.ptr x [], .sl y t.length]))) (hy : lookO ob y = some (.arr 5 1 (bytesD t))) (h0 : t ≠ []) (hl : t.length ≤ 100000000) {K : Out → Objs → Prop} (h : K (.ret (.d (.str t))) (setO ob y .gone)) : ACall P 54 [.ptr x []] ob K := by
 refine acall_lift hP mixed ok54 lf54 TOk.nil ?_
 intro _ hm
 have hb : bytesD t ≠ [] := by cases t with
  | nil => exact (h0 rfl).elim
  | cons c r => simp [bytesD]
 simp [Et54, hx, hy, bytesD_len, hb]
 have e1 : ∃ E z xs, (5 = E ∧ 1 = z ∧ bytesD t = xs) ∧ t.length = xs.length := ⟨_, _, _, ⟨rfl, rfl, rfl⟩, (bytesD_len t).symm⟩
 have e2 : ∃ E sz xs, (5 = E ∧ 1 = sz ∧ bytesD t = xs) ∧ ¬sz = 0 ∧ t.length = xs.length ∧ ¬xs = [] := ⟨_, _, _, ⟨rfl, rfl, rfl⟩, by decide, (bytesD_len t).symm, hb⟩
 first | refine ⟨e1, e2, e1, e2, by omega, t, rfl, [], by simp, ?_, ?_⟩ | refine ⟨e2, by omega, t, rfl, [], by simp, ?_, ?_⟩
 ·simp
  exact noMenO_set_gone _ _ (hm _)
 ·simpa using h
end
end Go.Proofs.YtmapdjjigmkbfaaGreatDoor
/- Laid by the kit's lay-shelf.mjs and lay-plain.mjs (a tool's print), cut down by shl.py. -/
namespace Go.Proofs
open Go.Shelf
def Tryz.laysM171_ren : Go.Shelf.Ren := ⟨fun | 171 => 53 | 243 => 104 | 246 => 132 | 283 => 143 | 284 => 144 | 285 => 145 | 286 => 146 | 129 => 162 | 317 => 161 | 318 => 163 | 319 => 164 | 320 => 165 | 337 => 174 | 338 => 175 | n => n, fun | 3 => 3 | 9 => 9 | 2 => 2 | 4 => 4 | 171 => 247 | 0 => 0 | 53 => 236 | 37 => 80 | 5 => 5 | 173 => 250 | 212 => 260 | 51 => 200 | 20 => 20 | 213 => 261 | 46 => 239 | 232 => 75 | 233 => 235 | n => n, fun | 17 => 2 | 18 => 3 | 19 => 4 | n => n⟩
theorem Tryz.laysM171 : Go.Proofs.LaysM.n171 Tryz.prog Tryz.laysM171_ren := {
 mixed := by kernel_rfl
 f129 := Tryz.func162.trans (congrArg some (by kernel_rfl))
 f171 := Tryz.func53.trans (congrArg some (by kernel_rfl))
 f243 := Tryz.func104.trans (congrArg some (by kernel_rfl))
 f246 := Tryz.func132.trans (congrArg some (by kernel_rfl))
 f283 := Tryz.func143.trans (congrArg some (by kernel_rfl))
 f284 := Tryz.func144.trans (congrArg some (by kernel_rfl))
 f285 := Tryz.func145.trans (congrArg some (by kernel_rfl))
 f286 := Tryz.func146.trans (congrArg some (by kernel_rfl))
 f317 := Tryz.func161.trans (congrArg some (by kernel_rfl))
 f318 := Tryz.func163.trans (congrArg some (by kernel_rfl))
 f319 := Tryz.func164.trans (congrArg some (by kernel_rfl))
 f320 := Tryz.func165.trans (congrArg some (by kernel_rfl))
 f337 := Tryz.func174.trans (congrArg some (by kernel_rfl))
 f338 := Tryz.func175.trans (congrArg some (by kernel_rfl))
 t0 := Tryz.underlying0
 a0 := Tryz.isAgg0
 z0 := Tryz.sizeOf0
 v0 := Tryz.zeroValue0
 t2 := Tryz.underlying2
 a2 := Tryz.isAgg2
 z2 := Tryz.sizeOf2
 v2 := Tryz.zeroValue2
 t3 := Tryz.underlying3
 a3 := Tryz.isAgg3
 z3 := Tryz.sizeOf3
 v3 := Tryz.zeroValue3
 t4 := Tryz.underlying4
 a4 := Tryz.isAgg4
 z4 := Tryz.sizeOf4
 v4 := Tryz.zeroValue4
 t5 := Tryz.underlying5
 a5 := Tryz.isAgg5
 z5 := Tryz.sizeOf5
 v5 := Tryz.zeroValue5
 t9 := Tryz.underlying9
 a9 := Tryz.isAgg9
 z9 := Tryz.sizeOf9
 v9 := Tryz.zeroValue9
 t20 := Tryz.underlying20
 a20 := Tryz.isAgg20
 z20 := Tryz.sizeOf20
 v20 := Tryz.zeroValue20
 t37 := Tryz.underlying80
 a37 := Tryz.isAgg80
 z37 := Tryz.sizeOf80
 v37 := Tryz.zeroValue80
 t46 := Tryz.underlying239
 a46 := Tryz.isAgg239
 z46 := Tryz.sizeOf239
 v46 := Tryz.zeroValue239
 t51 := Tryz.underlying200
 a51 := Tryz.isAgg200
 z51 := Tryz.sizeOf200
 v51 := Tryz.zeroValue200
 t53 := Tryz.underlying236
 a53 := Tryz.isAgg236
 z53 := Tryz.sizeOf236
 v53 := Tryz.zeroValue236
 t171 := Tryz.underlying247
 a171 := Tryz.isAgg247
 z171 := Tryz.sizeOf247
 v171 := Tryz.zeroValue247
 t173 := Tryz.underlying250
 a173 := Tryz.isAgg250
 z173 := Tryz.sizeOf250
 v173 := Tryz.zeroValue250
 t212 := Tryz.underlying260
 a212 := Tryz.isAgg260
 z212 := Tryz.sizeOf260
 v212 := Tryz.zeroValue260
 t213 := Tryz.underlying261
 a213 := Tryz.isAgg261
 z213 := Tryz.sizeOf261
 t232 := Tryz.underlying75
 a232 := Tryz.isAgg75
 z232 := Tryz.sizeOf75
 v232 := Tryz.zeroValue75
 t233 := Tryz.underlying235
 a233 := Tryz.isAgg235
 z233 := Tryz.sizeOf235
 v233 := Tryz.zeroValue235
 g17 := by kernel_rfl
 g18 := by kernel_rfl
 g19 := by kernel_rfl
 i0 := by kernel_rfl
 i2 := by kernel_rfl
 i3 := by kernel_rfl
 i4 := by kernel_rfl
 i5 := by kernel_rfl
 i9 := by kernel_rfl
 i20 := by kernel_rfl
 i37 := by kernel_rfl
 i46 := by kernel_rfl
 i51 := by kernel_rfl
 i53 := by kernel_rfl
 i171 := by kernel_rfl
 i173 := by kernel_rfl
 i212 := by kernel_rfl
 i232 := by kernel_rfl
 i233 := by kernel_rfl
 m17 := by kernel_rfl
 m18 := by kernel_rfl
 m19 := by kernel_rfl }
open Go.RowKit Go.Sort Go.Lib in
theorem Tryz.strconv_Itoa (n : Int) (h0 : -9223372036854775808 ≤ n) (h1 : n ≤ 9223372036854775807) (w : World) (htab : Lib.TabIs Tryz.prog w "internal/strconv.uint64pow10" .u64 Lib.pow10Tab) :
  Calls Tryz.prog 53 #[.int .i64 n] w fun e w' => e = .returned (.string ⟨(Lib.itoa n).toArray⟩) ∧ ∃ k os, w' = grow (w.drewN k) os := Any.strconv_Itoa Tryz.laysM171 n h0 h1 w htab
def Tryz.lays144_ren : Go.Shelf.Ren := ⟨fun | 144 => 102 | 143 => 130 | 219 => 142 | 217 => 157 | 225 => 158 | 224 => 159 | 267 => 160 | 266 => 172 | 314 => 173 | n => n, fun | 9 => 9 | 4 => 4 | 3 => 3 | 5 => 5 | 46 => 239 | 146 => 270 | 51 => 200 | n => n, fun | 1 => 1 | n => n⟩
theorem Tryz.lays144 : Go.Proofs.Lays.n144 Tryz.prog Tryz.lays144_ren := {
 mixed := by kernel_rfl
 f143 := Tryz.func130.trans (congrArg some (by kernel_rfl))
 f144 := Tryz.func102.trans (congrArg some (by kernel_rfl))
 f217 := Tryz.func157.trans (congrArg some (by kernel_rfl))
 f219 := Tryz.func142.trans (congrArg some (by kernel_rfl))
 f224 := Tryz.func159.trans (congrArg some (by kernel_rfl))
 f225 := Tryz.func158.trans (congrArg some (by kernel_rfl))
 f266 := Tryz.func172.trans (congrArg some (by kernel_rfl))
 f267 := Tryz.func160.trans (congrArg some (by kernel_rfl))
 f314 := Tryz.func173.trans (congrArg some (by kernel_rfl))
 t3 := Tryz.underlying3
 a3 := Tryz.isAgg3
 z3 := Tryz.sizeOf3
 v3 := Tryz.zeroValue3
 t4 := Tryz.underlying4
 a4 := Tryz.isAgg4
 z4 := Tryz.sizeOf4
 v4 := Tryz.zeroValue4
 t5 := Tryz.underlying5
 a5 := Tryz.isAgg5
 z5 := Tryz.sizeOf5
 v5 := Tryz.zeroValue5
 t9 := Tryz.underlying9
 a9 := Tryz.isAgg9
 z9 := Tryz.sizeOf9
 v9 := Tryz.zeroValue9
 t46 := Tryz.underlying239
 a46 := Tryz.isAgg239
 z46 := Tryz.sizeOf239
 v46 := Tryz.zeroValue239
 t51 := Tryz.underlying200
 a51 := Tryz.isAgg200
 z51 := Tryz.sizeOf200
 v51 := Tryz.zeroValue200
 t146 := Tryz.underlying270
 a146 := Tryz.isAgg270
 z146 := Tryz.sizeOf270
 v146 := Tryz.zeroValue270
 g1 := by kernel_rfl }
open Go.RowKit Go.Lib in
theorem Tryz.strings_Contains_one (s : ByteArray) (c : UInt8) (w : World) :
  Calls Tryz.prog 102 #[.string s, .string ⟨#[c]⟩] w fun e w' => e = .returned (.bool (decide (0 ≤ Lib.indexByte s.data.toList c))) ∧ w' = w := Any.strings_Contains_one Tryz.lays144 s c w
end Go.Proofs
/- Contracts: strings.Contains at one byte, strconv.Itoa, which tokens are valid, decimal digits. Condition: the program is the seat's; the powers of ten are laid. -/
namespace Go.Lx
open Go Go.Ab
def hasB (s : List UInt8) (c : UInt8) : Bool := s.any fun b => b == c
def fnC : Ab.Fn := ⟨fun vs => match vs with | [.d (.str _), .d (.str t)] => t.length = 1 | _ => False, fun vs => match vs with | [.d (.str s), .d (.str t)] => .d (.bool (hasB s (t.headD 0))) | _ => .any⟩
@[simp] theorem fnC_pre (s t : List UInt8) : fnC.pre [.d (.str s), .d (.str t)] = (t.length = 1) := by simp only [fnC]
@[simp] theorem fnC_val (s t : List UInt8) : fnC.val [.d (.str s), .d (.str t)] = .d (.bool (hasB s (t.headD 0))) := by simp only [fnC]
def validB (t : Tok) : Bool :=
 if t.kind = 1 then nameB t.text && decide (t.n = 0)
 else if t.kind = 2 then decide (t.text = []) && decide (0 ≤ t.n) && decide (t.n ≤ 1099511627776)
 else if t.kind = 3 then decide (t.text.length = 1) && signB (t.text.headD 0) && decide (t.n = 0)
 else false
def Pow (P : Prg) : Prop := ∃ T f, P.g 2 = some (.cells (Lib.pow10Tab.map fun z => Value.int .u64 z).toArray T f)
theorem ext_grow (w : World) (k : Nat) (os : Array Obj) : Ext w (Go.Sort.grow (w.drewN k) os) := by
 refine ⟨by simp [Go.Sort.grow], fun b hb => ?_, rfl, rfl, rfl⟩
 simp [Go.Sort.grow, Array.getElem?_append, hb]
theorem any_index (s : List UInt8) (c : UInt8) : decide (0 ≤ Lib.indexByte s c) = hasB s c := by
 unfold hasB
 induction s with
 | nil => rfl
 | cons b r ih =>
  have hg := Lib.indexByte_ge r c
  simp only [Lib.indexByte, List.any_cons, ← ih]
  by_cases h : b == c
  ·simp [h]
  ·simp only [h]
   by_cases h2 : Lib.indexByte r c = -1
   ·simp [h2]
   ·have h3 : (Lib.indexByte r c == -1) = false := by simp [h2]
    simp only [h3, Bool.false_or]
    have : 0 ≤ Lib.indexByte r c := by omega
    simp [this]; omega
theorem hasB_signs (c : UInt8) : hasB [123, 125, 40, 41, 59, 44, 61, 35, 47, 60, 33, 45, 46, 58, 43] c = signB c := by
 unfold hasB signB signI signs
 congr 1
 funext b
 rw [Bool.eq_iff_iff]
 simp only [beq_iff_eq, decide_eq_true_eq, Int.natCast_inj]
 constructor
 ·intro h; rw [h]
 ·intro h; exact UInt8.toNat_inj.1 h
theorem len1 (s : List UInt8) : decide ((s.length : Int) = 1) = decide (s.length = 1) := by
 rw [Bool.eq_iff_iff]; simp only [decide_eq_true_eq]; omega
theorem head0 (s : List UInt8) : s[0]? = s.head? := by cases s <;> rfl
end Go.Lx
namespace Go.Proofs.YtmapdjjigmkbfaaGreatDoor
open Go Go.Ab Go.Lx
set_option maxRecDepth 100000
section
variable {P : Prg} (hP : P.p = Tryz.prog)
include hP
theorem c_Contains : PFn P 102 fnC := by
 intro vs hp ob K hK
 simp only [fnC] at hp hK
 split at hp
 ·rename_i s t
  simp only at hK
  match t, hp with
  | [c], _ =>
   refine ⟨fun w ρ args ho hg hr => ?_⟩
   simp only [V.reps, ↓reduceCtorEq, false_or, V.isAgg, Bool.false_eq_true, false_and, V.repC, D.rep, true_and, List.cons.injEq, and_true] at hr
   obtain ⟨u, us, rfl, hu, u2, us2, rfl, hu2, rfl⟩ := hr
   subst hu; subst hu2
   rw [hP]
   refine (Tryz.strings_Contains_one ⟨s.toArray⟩ c w).mono ?_
   rintro e w' ⟨rfl, rfl⟩
   refine ⟨_, _, hK, rfl, ?_, Ext.refl w'⟩
   rw [rep_bool, any_index]
   rfl
 ·exact hp.elim
theorem c_Itoa (hT : Pow P) (n : Int) (h0 : 0 ≤ n) (h1 : n ≤ 9223372036854775807) {ob : Objs} {K : V → Prop} (h : K (.d (.str (Lib.itoa n)))) : PCall P 53 [.d (.int .i64 n)] ob K := by
 refine ⟨fun w ρ args ho hg hr => ?_⟩
 simp only [V.reps, ↓reduceCtorEq, false_or, V.isAgg, Bool.false_eq_true, false_and, V.repC, D.rep, true_and, List.cons.injEq, and_true] at hr
 obtain ⟨u, us, rfl, hu, rfl⟩ := hr
 subst hu
 rw [hP]
 obtain ⟨T, f, hT⟩ := hT
 have hb := (ho.glb 2 _ (by rw [hg, hT])).1
 have htab : Lib.TabIs Tryz.prog w "internal/strconv.uint64pow10" .u64 Lib.pow10Tab := by
  have hn : Tryz.prog.globalNamed "internal/strconv.uint64pow10" = some 2 := by kernel_rfl
  simp only [Lib.TabIs, World.var?, hn, Option.bind_some, hb]
 refine (Tryz.strconv_Itoa n (by omega) h1 w htab).mono ?_
 rintro e w' ⟨rfl, k, os, rfl⟩
 exact ⟨_, _, h, rfl, rep_str.2 rfl, ext_grow w k os⟩
theorem c_valid (t : Tok) {ob : Objs} {K : V → Prop} (h : K (.d (.bool (validB t)))) : PCall P 50 [.d t.enc] ob K := by
 refine pcall_lift hP mixed (ds := [t.enc]) ok50 lf50 (TOk.cons (c_Name hP) (TOk.cons (c_Contains hP) TOk.nil)) ?_
 have h' : ∀ x, x = validB t → K (.d (.bool x)) := fun b e => e ▸ h
 clear h
 obtain ⟨k, s, n, i⟩ := t
 simp [Et50, Tok.enc, hasB_signs]
 refine ⟨fun h1 => h' _ ?_, fun h1 => ⟨fun h2 => h' _ ?_, fun h2 => ⟨fun h3 => ⟨fun h4 => by omega, h' _ ?_⟩, fun h3 => h' _ ?_⟩⟩⟩
 ·subst h1; simp [validB, Bool.beq_eq_decide_eq]
 ·subst h2; simp [validB]
 ·subst h3; simp [validB, Bool.beq_eq_decide_eq, len1, signB, head0]
 ·simp [validB, h1, h2, h3]
end
end Go.Proofs.YtmapdjjigmkbfaaGreatDoor
/- Plain facts on decimal digits and equal tokens. No program. -/
namespace Go.Lx
open Go Go.Ab
def X31 (n : Nat) : UInt8 := UInt8.ofNat (48 + n % 10)
theorem Zj (n : Nat) : Lib.decDigits n = (if n < 10 then [] else Lib.decDigits (n / 10)) ++ [X31 n] := by
 rw [Lib.decDigits]
 split
 ·rename_i h; simp [X31, Nat.mod_eq_of_lt h]
 ·simp [X31]
theorem Xo0 (n : Nat) : Lib.itoa n = Lib.decDigits n := by
 unfold Lib.itoa; rw [if_neg (by omega)]; rfl
end Go.Lx
/- Plain facts on the text of tokens. No program. -/
namespace Go.Lx
open Go Go.Ab
def Q6 (t : Tok) : List UInt8 := if t.kind = 2 then Lib.itoa t.n else t.text
def Zb : List Tok → List UInt8
 | [] => []
 | [t] => Q6 t
 | t :: r => Q6 t ++ 32 :: Zb r
def Xgk (l : List Tok) : V := if l.all validB then .tup [.d (.str (Zb l)), .d (.int .i64 0)] else .tup [.d (.str []), .d (.int .i64 90)]
theorem Xbc : ∀ (l : List Tok) (t : Tok), Zb (l ++ [t]) = if l = [] then Q6 t else Zb l ++ 32 :: Q6 t
 | [], t => rfl
 | [a], t => by simp [Zb]
 | a :: b :: r, t => by
  have h := Xbc (b :: r) t
  simp only [List.cons_append, Zb] at h ⊢
  rw [h]; simp
theorem Xce (n : Nat) : (Lib.decDigits n).length ≤ n + 1 ∧ Lib.decDigits n ≠ [] := by
 refine ⟨?_, by rw [Zj]; simp⟩
 induction n using Nat.strongRecOn with
 | ind n ih =>
  rw [Zj]
  split
  ·simp
  ·have := ih (n / 10) (by omega)
   simp; omega
theorem Xbg : ∀ (k n : Nat), n < 10 ^ (k + 1) → (Lib.decDigits n).length ≤ k + 1
 | 0, n, h => by rw [Zj, if_pos (by omega)]; simp
 | k + 1, n, h => by
  rw [Zj]
  split
  ·simp
  ·have := Xbg k (n / 10) (by rw [Nat.pow_succ] at h; omega)
   simp; omega
theorem J0 {t : Tok} (h : validB t = true) : Q6 t ≠ [] ∧ (Q6 t).length ≤ 32 := by
 unfold validB at h
 unfold Q6
 split at h
 ·rename_i e
  rw [if_neg (by omega)]
  simp [nameB] at h
  refine ⟨fun e => ?_, by omega⟩
  simp [e] at h
 ·split at h
  ·rename_i e
   rw [if_pos e]
   simp at h
   obtain ⟨N, hN⟩ := Int.eq_ofNat_of_zero_le h.1.2
   rw [hN, Xo0]
   exact ⟨(Xce N).2, Nat.le_trans (Xbg 12 N (by omega)) (by decide)⟩
  ·rename_i e
   rw [if_neg e]
   split at h
   ·simp at h
    refine ⟨fun e => ?_, by omega⟩
    simp [e] at h
   ·cases h
theorem Jd : ∀ (l : List Tok), (∀ t ∈ l, validB t = true) → (Zb l).length ≤ 33 * l.length
 | [], _ => by simp [Zb]
 | [t], h => by have := J0 (h t (by simp)); simp [Zb]; omega
 | a :: b :: r, h => by
  have h1 := J0 (h a (by simp))
  have h2 := Jd (b :: r) (fun t ht => h t (by simp [ht]))
  simp only [Zb, List.length_append, List.length_cons] at h2 ⊢
  omega
theorem Xo7 {l : List Tok} (h : ∀ t ∈ l, validB t = true) (h0 : l ≠ []) : Zb l ≠ [] := by
 match l, h0 with
 | [t], _ => exact (J0 (h t (by simp))).1
 | a :: b :: r, _ => simp [Zb]
theorem Xdz {l : List Tok} {k : Nat} (hk : k < l.length) : l.take (k + 1) = l.take k ++ [l[k]] := (List.take_append_getElem hk).symm
end Go.Lx
/- Contracts: lex.Text. Condition: the program is the seat's; the powers of ten are laid. -/
namespace Go.Lx
open Go Go.Ab
def obT (l : List Tok) : Nat → Objs
 | 0 => [(0, .box 134 (.d (.agg [.nilp, .nils])))]
 | k + 1 => [(2, .arr 5 1 (bytesD (Zb (l.take (k + 1))))), (0, .box 134 (.agg [.ptr 0 [], .sl 2 (Zb (l.take (k + 1))).length]))]
end Go.Lx
namespace Go.Proofs.YtmapdjjigmkbfaaGreatDoor
open Go Go.Ab Go.Lx
set_option maxRecDepth 100000
section
variable {P : Prg} (hP : P.p = Tryz.prog) (hG : Pow P)
include hP hG
theorem Xw0 {a : D} {l : List Tok} (ha : TD a l) (hl : l.length ≤ 100000) {ob : Objs} {K : V → Prop} (h : K (Xgk l)) : PCall P 17 [.d a] ob K := by
 refine pcall_lift hP mixed (ds := [a]) Ybm X9e TOk.nil ?_
 have h' : ∀ x, x = Xgk l → K x := fun b e => e ▸ h
 clear h
 simp [Yaf, ha.len, ha.lenS]
 refine ALoop.go (ι := Nat) (fun k => [(4, .ptr 0 []), (7, .d a), (8, .d (.int .i64 l.length)), (9, .d (.int .i64 k))]) (obT l) (fun k => k ≤ l.length ∧ ∀ t ∈ l.take k, validB t = true) (fun k => l.length - k) 0 ⟨by omega, by simp⟩ (by simp) rfl ?_
 have hw1 : IntKind.i64.wrap 1 = 1 := IntWalk.i64_in _ (by omega)
 rintro k ⟨hk, hp⟩ R rn re rr _
 by_cases hlt : k < l.length
 ·have hL := Jd _ hp
  have hT : (l.take k).length ≤ 100000 := by simp; omega
  have hne : k ≠ 0 → l.take k ≠ [] := fun h e => by
   rcases List.take_eq_nil_iff.1 e with h1 | h1
   ·exact h h1
   ·rw [h1] at hlt; simp at hlt
  have hi : IntKind.i64.wrap ((k : Int) + 1) = (k : Int) + 1 := IntWalk.i64_in _ (by omega)
  have hp' : validB l[k] = true → ∀ t ∈ l.take (k + 1), validB t = true := by
   intro hv t ht
   rw [Xdz hlt] at ht
   rcases List.mem_append.1 ht with ht | ht
   ·exact hp t ht
   ·rw [List.mem_singleton.1 ht]; exact hv
  have hd : validB l[k] = true → l[k].kind = 2 → 0 ≤ l[k].n ∧ l[k].n ≤ 9223372036854775807 ∧ Lib.itoa l[k].n = Q6 l[k] := by
   intro hv e
   unfold validB at hv
   rw [if_neg (by omega), if_pos e] at hv
   simp at hv
   exact ⟨hv.1.2, by omega, by rw [Q6, if_pos e]⟩
  have hx : l[k].kind ≠ 2 → l[k].text = Q6 l[k] := fun e => by rw [Q6, if_neg e]
  have hj := Xbc (l.take k) l[k]
  rw [← Xdz hlt] at hj
  have hbad : validB l[k] = false → V.tup [.d (.str []), .d (.int .i64 90)] = Xgk l := by
   intro hv
   rw [Xgk, if_neg]
   rw [List.all_eq_true]
   intro hA
   have := hA l[k] (List.getElem_mem hlt)
   rw [hv] at this; cases this
  cases k with
  | zero =>
   rw [if_pos (by simp)] at hj
   have hidx := ha.idx (k := .i64) hlt
   simp only [Int.natCast_zero] at hidx
   simp [Xg5, ha.idxS, obT, hlt, hidx, Tok.enc]
   refine c_valid hP l[0] ?_
   simp
   refine ⟨fun hv => rr _ _ ?_, fun hv => ?_⟩
   ·simp
    exact h' _ (hbad hv)
   ·have hw := J0 hv
    simp [Xle]
    refine ⟨fun e => ?_, fun e => ?_⟩
    ·obtain ⟨e1, e2, e3⟩ := hd hv e
     refine c_Itoa hP hG _ e1 e2 ?_
     rw [e3]
     refine c_ws0 hP (by simp) (by omega) ?_
     simp [Xbo, hi]
     rw [hw1]
     refine rn [2] 1 _ _ ⟨by omega, hp' hv⟩ (by omega) (by simp) ?_ (by simp [obT, young, fresh]) (by simp [obT, young, fresh])
     simp only [Nat.zero_add] at hj
     simp [obT, young, fresh, hj]
    ·rw [hx e]
     refine c_ws0 hP (by simp) (by omega) ?_
     simp [Xbo, hi]
     rw [hw1]
     refine rn [2] 1 _ _ ⟨by omega, hp' hv⟩ (by omega) (by simp) ?_ (by simp [obT, young, fresh]) (by simp [obT, young, fresh])
     simp only [Nat.zero_add] at hj
     simp [obT, young, fresh, hj]
  | succ k =>
   rw [if_neg (hne (by omega))] at hj
   have hidx := ha.idx (k := .i64) hlt
   have hlt' : (k : Int) + 1 < l.length := by omega
   have h0k : (0 : Int) < (k : Int) + 1 := by omega
   have h0k' : (0 : Int) ≤ (k : Int) + 1 := by omega
   rw [show ((k + 1 : Nat) : Int) = (k : Int) + 1 from rfl] at hidx
   simp [Xg5, ha.idxS, obT, hlt, hlt', h0k, h0k', hidx, Tok.enc]
   refine c_valid hP l[k + 1] ?_
   simp
   refine ⟨fun hv => rr _ _ ?_, fun hv => ?_⟩
   ·simp
    exact h' _ (hbad hv)
   ·have hw := J0 hv
    have hbl := bytesD_len (Zb (l.take (k + 1)))
    refine c_wb hP (x := 0) (y := 2) (l := bytesD (Zb (l.take (k + 1)))) (by simp [hbl]) (by simp) (by omega) ?_
    simp [Xle]
    have e32 : bytesD (Zb (l.take (k + 1))) ++ [D.int .u8 32] = bytesD (Zb (l.take (k + 1)) ++ [32]) := by rw [bytesD_app]; rfl
    have hbl2 := bytesD_len (Zb (l.take (k + 1)) ++ [32])
    rw [List.length_append] at hbl2
    rw [e32, hbl]
    have hi2 : IntKind.i64.wrap ((k : Int) + 1 + 1) = (k : Int) + 1 + 1 := hi
    refine ⟨fun e => ?_, fun e => ?_⟩
    ·obtain ⟨e1, e2, e3⟩ := hd hv e
     refine c_Itoa hP hG _ e1 e2 ?_
     rw [e3]
     refine c_ws hP (x := 0) (y := 2) (l := bytesD (Zb (l.take (k + 1)) ++ [32])) (by simp [hbl2]) (by simp) (by simp [hbl2]; omega) ?_
     simp [Xbo, hi2]
     refine rn [] (k + 2) _ _ ⟨by omega, hp' hv⟩ (by omega) ?_ ?_ (by simp [obT, young, fresh]) (by simp [obT, young, fresh])
     ·simp; omega
     ·simp [obT, young, fresh, hj, bytesD_app, bytesD, hbl]; omega
    ·rw [hx e]
     refine c_ws hP (x := 0) (y := 2) (l := bytesD (Zb (l.take (k + 1)) ++ [32])) (by simp [hbl2]) (by simp) (by simp [hbl2]; omega) ?_
     simp [Xbo, hi2]
     refine rn [] (k + 2) _ _ ⟨by omega, hp' hv⟩ (by omega) ?_ ?_ (by simp [obT, young, fresh]) (by simp [obT, young, fresh])
     ·simp; omega
     ·simp [obT, young, fresh, hj, bytesD_app, bytesD, hbl]; omega
 ·have hk' : k = l.length := by omega
  subst hk'
  simp at hp
  have ht : Xgk l = .tup [.d (.str (Zb l)), .d (.int .i64 0)] := by rw [Xgk, if_pos (List.all_eq_true.2 hp)]
  have hL := Jd _ hp
  simp [Xg5]
  refine re _ _ _ ?_
  simp
  cases hn : l.length with
  | zero =>
   have : l = [] := List.length_eq_zero_iff.1 hn
   subst this
   refine c_bs0 hP (by simp [obT]) ?_
   simp
   exact h' _ ht.symm
  | succ n =>
   refine c_bs hP (x := 0) (y := 2) (t := Zb l) (by simp [obT, ← hn]) (by simp [obT, ← hn]) (Xo7 hp (fun e => by rw [e] at hn; cases hn)) (by omega) ?_
   simp
   exact h' _ ht.symm
end
end Go.Proofs.YtmapdjjigmkbfaaGreatDoor
/- The law's own examples hold (sane). Condition: the program is the seat's; its package variables are laid. -/
namespace Go.Lx
open Go Go.Ab
def Xs7 (s : List UInt8) : V := if s.length > 65536 then .tup [.d .nils, .d (.int .i64 0), .d (.int .i64 2)] else X2p (Xtu s.length s 0)
theorem Xo1 (s : List UInt8) : Xs7 s = Xzd s := by
 have e := Xfs s.length s 0 (Nat.le_refl _)
 unfold Xs7 Xzd
 rw [e]
def X19 : D → Option Tok
 | .agg [.int .i64 k, .str t, .int .i64 n, .int .i64 a] => some ⟨k, t, n, a⟩
 | _ => none
def Xqw : List D → Option (List Tok)
 | [] => some []
 | x :: r => match X19 x, Xqw r with
  | some t, some l => some (t :: l)
  | _, _ => none
theorem Xu8 {x : D} {t : Tok} (h : X19 x = some t) : x = t.enc := by
 unfold X19 at h
 split at h
 ·cases h; rfl
 ·cases h
theorem Xii : ∀ {xs : List D} {l : List Tok}, Xqw xs = some l → xs = l.map Tok.enc
 | [], l, h => by cases h; rfl
 | x :: r, l, h => by
  unfold Xqw at h
  split at h
  ·rename_i t l' h1 h2
   cases h
   rw [Xu8 h1, Xii h2]; rfl
  ·cases h
def Xzx : D → Option V
 | .list 4 xs => match Xqw xs with
  | some l => if l.length ≤ 100000 then some (Xgk l) else none
  | none => none
 | _ => none
def Xun (x : D) : Option V :=
 bif D.eqb x (.list 1 [.list 1 (bytesD X52)]) then some (.d X5q) else
 bif D.eqb x (.list 1 [X7p, .list 1 (bytesD X82)]) then some (.d X80) else none
end Go.Lx
namespace Go.Proofs.YtmapdjjigmkbfaaGreatDoor
open Go Go.Ab Go.Lx
set_option maxRecDepth 100000
def xqc (f : Nat) (vs : List V) : Option V := match vs with
 | [.d (.str s)] => bif Nat.beq f 16 then some (Xs7 s) else none
 | [.d x] => bif Nat.beq f 17 then Xzx x else bif Nat.beq f 58 then Xun x else none
 | _ => none
def xq : Fns := ⟨fun _ _ _ => none, fun f vs _ => xqc f vs, fun _ => false, kgl⟩
theorem Xnv (ob : Objs) : (fns 3000 Xjz xq 40).pc 8 [] ob = some (.d (.bool true)) := by kernel_rfl
abbrev Kst (P : Prg) : Prop := Uz P 0 X0a
section
variable {P : Prg} (hP : P.p = Tryz.prog) (hK : Kst P) (hG : Pow P)
include hP hK
theorem Xn2 (g : Nat) (x : D) (h : kgl g = some x) : Uz P g x := by
 unfold kgl at h
 rw [Bool.cond_eq_ite] at h
 split at h
 ·rename_i e; cases h; rw [Nat.eq_of_beq_eq_true e]; exact hK
 ·cases h
theorem Xyn : xh.ok P := ⟨fun _ _ _ _ _ h => (by cases h), fun _ _ _ _ h => (by cases h), fun _ h => (by cases h), Xn2 hP hK⟩
theorem Xy2 : xh2.ok P := by
 have fo := Xbd (P := P) (L := 3000) (F := Xjz) (by rw [hP]; exact mixed) (by rw [hP]; exact Xbw) (Xyn hP hK) 20
 exact ⟨fun f vs ob o b h => Xvd fo f vs ob o b h, fun _ _ _ _ h => (by cases h), fun _ h => (by cases h), Xn2 hP hK⟩
theorem Xzs {x : D} {ob : Objs} {v : V} (h : Xun x = some v) : PCall P 58 [.d x] ob fun v' => v' = v := by
 have fo := Xbd (P := P) (L := 3000) (F := Xjz) (by rw [hP]; exact mixed) (by rw [hP]; exact Xbw) (Xyn hP hK) 40
 unfold Xun at h
 rw [Bool.cond_eq_ite] at h
 split at h
 ·rename_i e
  cases h
  rw [D.eqb_eq _ _ e]
  exact fo.pc _ _ ob _ (Xo4 ob)
 ·rw [Bool.cond_eq_ite] at h
  split at h
  ·rename_i e
   cases h
   rw [D.eqb_eq _ _ e]
   exact (Xbd (P := P) (L := 3000) (F := Xjz) (by rw [hP]; exact mixed) (by rw [hP]; exact Xbw) (Xy2 hP hK) 40).pc _ _ ob _ (Xor ob)
  ·cases h
include hG
theorem X1u : xq.ok P := by
 refine ⟨fun _ _ _ _ _ h => (by cases h), fun f vs ob v h => ?_, fun _ h => (by cases h), Xn2 hP hK⟩
 simp only [xq] at h
 unfold xqc at h
 split at h
 ·rename_i s
  rw [Bool.cond_eq_ite] at h
  split at h
  ·rename_i e
   cases h
   rw [Nat.eq_of_beq_eq_true e, Xo1]
   exact X2w hP s rfl
  ·cases h
 ·rename_i x _
  rw [Bool.cond_eq_ite] at h
  split at h
  ·rename_i e
   rw [Nat.eq_of_beq_eq_true e]
   unfold Xzx at h
   split at h
   ·rename_i xs
    split at h
    ·rename_i l hl
     split at h
     ·rename_i h2
      cases h
      rw [Xii hl]
      exact Xw0 hP hG (l := l) (.inl rfl) h2 rfl
     ·cases h
    ·cases h
   ·cases h
  ·rw [Bool.cond_eq_ite] at h
   split at h
   ·rename_i e
    rw [Nat.eq_of_beq_eq_true e]
    exact Xzs hP hK h
   ·cases h
 ·cases h
theorem c_sane {ob : Objs} {K : V → Prop} (h : K (.d (.bool true))) : PCall P 8 [] ob K := by
 have h1 := (Xbd (P := P) (L := 3000) (F := Xjz) (by rw [hP]; exact mixed) (by rw [hP]; exact Xbw) (X1u hP hK hG) 40).pc _ _ ob _ (Xnv ob)
 refine h1.mono fun v e => ?_
 subst e; exact h
end
end Go.Proofs.YtmapdjjigmkbfaaGreatDoor
