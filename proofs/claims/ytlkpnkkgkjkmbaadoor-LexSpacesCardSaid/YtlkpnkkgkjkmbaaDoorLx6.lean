/- Tables of numbers as data; the classes of bytes. Condition: the program is the seat's. -/
import Derived.Test.YtlkpnkkgkjkmbaaDoorLx5
namespace Go.Lx
open Go Go.Ab
/-- a table of 256 numbers -/
def tblL (f : Nat → Int) : List D := (List.range 256).map fun i => .int .i64 (f i)
def tblD (f : Nat → Int) : D := .agg (tblL f)
def upd (f : Nat → Int) (n : Nat) (v : Int) (i : Nat) : Int := if i = n then v else f i
theorem tblD_congr {f g : Nat → Int} (h : ∀ i, i < 256 → f i = g i) : tblD f = tblD g := by
  unfold tblD tblL
  congr 1
  exact List.map_congr_left fun i hi => by rw [h i (List.mem_range.mp hi)]
@[simp] theorem tbl_get (f : Nat → Int) {n : Nat} (h : n < 256) : (tblL f)[n]? = some (.int .i64 (f n)) := by simp [tblL, h]
@[simp] theorem tbl_kids (f : Nat → Int) : V.kids (.d (tblD f)) = some ((tblL f).map .d) := by simp only [tblD, V.kids]
@[simp] theorem tbl_getE (f : Nat → Int) {n : Nat} (h : n < (tblL f).length) : (tblL f)[n] = .int .i64 (f n) := by simp [tblL]
@[simp] theorem tblL_length (f : Nat → Int) : (tblL f).length = 256 := by simp [tblL]
@[simp] theorem allD_set (l : List D) (n : Nat) (x : D) : V.allD ((l.map V.d).set n (.d x)) = some (l.set n x) := by rw [← List.map_set, allD_map]
@[simp] theorem tblL_set (f : Nat → Int) (n : Nat) (v : Int) : (tblL f).set n (.int .i64 v) = tblL (upd f n v) := by
  unfold tblL
  apply List.ext_getElem?
  intro i
  by_cases hi : n = i
  · subst hi
    by_cases hl : n < 256
    · simp [List.getElem?_set, hl, upd]
    · simp [List.getElem?_set, hl]
  · by_cases hl : i < 256
    · simp [List.getElem?_set, hi, hl, upd, Ne.symm hi]
    · simp [List.getElem?_set, hi, hl]
@[simp] theorem agg_tbl (f : Nat → Int) : D.agg (tblL f) = tblD f := rfl
theorem szs_all {l : List D} {n : Nat} (h : ∀ x ∈ l, x.sz = n) : D.szs l = l.length * n := D.szs_uniform l h
theorem tblL_one (f : Nat → Int) : ∀ x ∈ tblL f, x.sz = 1 := by
  intro x hx
  simp only [tblL, List.mem_map] at hx
  obtain ⟨i, _, rfl⟩ := hx
  rfl
@[simp] theorem tbl_sz (f : Nat → Int) : (tblD f).sz = 256 := by simp only [tblD, D.sz, szs_all (tblL_one f), tblL_length]
theorem tbl_size (f : Nat → Int) : V.size (.d (tblD f)) = 256 := by
  unfold V.size; rw [show (V.d (tblD f)).shape = (tblD f).shape from rfl, D.size_shape, tbl_sz]
@[simp] theorem tbl_size' (f : Nat → Int) : (tblD f).shape.size = 256 := by rw [D.size_shape, tbl_sz]
@[simp] theorem tbl_agg (f : Nat → Int) : V.isAgg (.d (tblD f)) = true := rfl
@[simp] theorem tbl_dagg (f : Nat → Int) : (tblD f).isAgg = true := rfl
@[simp] theorem tbl_ok (f : Nat → Int) : (∀ a, a ∈ tblL f → a.shape.size = 1) = True :=
  eq_true fun x hx => by rw [D.size_shape]; exact tblL_one f x hx
theorem map_zero (n : Nat) (x : D) : List.replicate n x = (List.range n).map fun _ => x := by
  rw [List.map_const', List.length_range]
theorem bytesD_map : ∀ s : List UInt8, bytesD s = s.map fun b => .int .u8 b.toNat
  | [] => rfl
  | b :: r => by simp [bytesD, bytesD_map r]
theorem zeros_tbl : List.replicate 256 (D.int .i64 0) = tblL fun _ => 0 := map_zero 256 _

def cl1 (k i : Nat) : Int := if 65 ≤ i ∧ i < 65 + k ∨ 97 ≤ i ∧ i < 97 + k then 2 else 0
def cl2 (k i : Nat) : Int := if 48 ≤ i ∧ i < 48 + k then 3 else cl1 26 i
def spc : List UInt8 := [32, 9, 10, 13]
def cl3 (k i : Nat) : Int := if i ∈ (spc.take k).map UInt8.toNat then 1 else cl2 10 i
def cl4 (k i : Nat) : Int := if i ∈ (signs.take k).map UInt8.toNat then 4 else cl3 4 i
/-- the class of each byte -/
def clsF : Nat → Int := cl4 15
theorem mem_take {l : List UInt8} {k i : Nat} (h : k < l.length) : (i ∈ (l.take (k + 1)).map UInt8.toNat) ↔ (i = (l[k]?.getD 0).toNat ∨ i ∈ (l.take k).map UInt8.toNat) := by
  rw [List.take_add_one, List.map_append, List.mem_append, List.getElem?_eq_getElem h]
  simp only [Option.toList_some, List.map_cons, List.map_nil, List.mem_singleton, Option.getD_some]
  exact Or.comm
def clsD : D := tblD clsF
end Go.Lx
namespace Go.Proofs.YtlkpnkkgkjkmbaaDoor
open Go Go.Ab Go.Lx
set_option maxRecDepth 100000
section
variable {P : Prg} (hP : P.p = Tryd.prog)
include hP
theorem c_classify {ob : Objs} {K : V → Prop} (h : K (.d clsD)) : PCall P 25 [] ob K := by
  refine pcall_lift hP mixed (ds := []) ok25 lf25 TOk.nil ?_
  simp only [lt25, zeros_tbl]
  rw [show D.agg (tblL fun _ => 0) = tblD fun _ => 0 from rfl, show tblD (fun _ => 0) = tblD (cl1 0) from tblD_congr fun i _ => by simp [cl1]]
  simp
  refine ALoop.go (ι := Nat) (fun k => [(0, .ptr 0 []), (7, .d (.int .i64 k))]) (fun k => [(0, .box 45 (.d (tblD (cl1 k))))]) (fun k => k ≤ 26) (fun k => 26 - k) 0 (by omega) (by simp) (by simp) ?_
  intro k hk R rn re _ _
  by_cases hlt : k < 26
  · have w1 : IntKind.i64.wrap (65 + (k : Int)) = 65 + (k : Int) := IntWalk.i64_in _ (by omega)
    have w2 : IntKind.i64.wrap (97 + (k : Int)) = 97 + (k : Int) := IntWalk.i64_in _ (by omega)
    have w3 := wrap1 hlt (by omega)
    simp [lt25_l3, w1, w2, w3, show (k : Int) < 26 by omega, show ¬ (26 : Int) ≤ k by omega, show (0 : Int) ≤ 65 + k by omega, show (0 : Int) ≤ 97 + k by omega, show 65 + (k : Int) < 256 by omega, show 97 + (k : Int) < 256 by omega, show (65 + (k : Int)).toNat = 65 + k by omega, show (97 + (k : Int)).toNat = 97 + k by omega, show 65 + k < 256 by omega, show 97 + k < 256 by omega]
    refine rn [] (k + 1) _ _ ?_ ?_ ?_ ?_ ?_ ?_
    · omega
    · omega
    · simp
    · simp
      refine tblD_congr fun i _ => ?_
      simp only [upd, cl1]
      repeat (first | split | omega)
      all_goals omega
    · simp
    · simp
  · have hk' : k = 26 := by omega
    subst hk'
    simp [lt25_l3]
    refine re _ _ _ ?_
    simp
    clear rn re
    rw [show tblD (cl1 26) = tblD (cl2 0) from tblD_congr fun i _ => by simp [cl2]; omega]
    refine ALoop.go (ι := Nat) (fun k => [(0, .ptr 0 []), (17, .d (.int .i64 k))]) (fun k => [(0, .box 45 (.d (tblD (cl2 k))))]) (fun k => k ≤ 10) (fun k => 10 - k) 0 (by omega) (by simp) (by simp) ?_
    intro k hk R rn re _ _
    by_cases hlt : k < 10
    · have w1 : IntKind.i64.wrap (48 + (k : Int)) = 48 + (k : Int) := IntWalk.i64_in _ (by omega)
      have w3 := wrap1 hlt (by omega)
      simp [lt25_l2, w1, w3, show (k : Int) < 10 by omega, show ¬ (10 : Int) ≤ k by omega, show (0 : Int) ≤ 48 + k by omega, show 48 + (k : Int) < 256 by omega, show (48 + (k : Int)).toNat = 48 + k by omega, show 48 + k < 256 by omega]
      refine rn [] (k + 1) _ _ ?_ ?_ ?_ ?_ ?_ ?_
      · omega
      · omega
      · simp
      · simp
        refine tblD_congr fun i _ => ?_
        simp only [upd, cl2]
        repeat (first | split | omega)
        all_goals omega
      · simp
      · simp
    · have hk' : k = 10 := by omega
      subst hk'
      simp [lt25_l2]
      refine re _ _ _ ?_
      simp
      clear rn re
      rw [show tblD (cl2 10) = tblD (cl3 0) from tblD_congr fun i _ => by simp [cl3]]
      show ALoop _ _ _ [_, (25, V.d (D.list 1 (bytesD spc))), _, _] _
      refine ALoop.go (ι := Nat) (fun k => [(0, .ptr 0 []), (25, .d (.list 1 (bytesD spc))), (26, .d (.int .i64 4)), (27, .d (.int .i64 k))]) (fun k => [(1, .gone), (0, .box 45 (.d (tblD (cl3 k))))]) (fun k => k ≤ 4) (fun k => 4 - k) 0 (by omega) (by simp [keepS]) (by simp) ?_
      intro k hk R rn re _ _
      by_cases hlt : k < 4
      · have w3 := wrap1 hlt (by omega)
        have hb : (bytesD spc)[k]?.getD default = .int .u8 (spc[k]?.getD 0).toNat := by
          rw [bytesD_map]; simp [show k < spc.length from hlt]
        have hlen : (bytesD spc).length = 4 := rfl
        have hc := (spc[k]?.getD 0).toNat_lt
        generalize hcc : spc[k]?.getD 0 = c at *
        simp [lt25_l1, w3, hb, hlen, show (k : Int) < 4 by omega, show ¬ (4 : Int) ≤ k by omega, hc, show ((c.toNat : Int) < 256) by omega]
        refine rn [] (k + 1) _ _ ?_ ?_ ?_ ?_ ?_ ?_
        · omega
        · omega
        · simp
        · simp
          refine tblD_congr fun i _ => ?_
          simp only [upd, cl3, mem_take (show k < spc.length from hlt), hcc]
          split
          · rename_i e; simp [e]
          · rename_i e; simp [e]
        · simp
        · simp
      · have hk' : k = 4 := by omega
        subst hk'
        simp [lt25_l1]
        refine re _ _ _ ?_
        simp
        clear rn re
        rw [show tblD (cl3 4) = tblD (cl4 0) from tblD_congr fun i _ => by simp [cl4]]
        show ALoop _ _ _ [_, (35, V.d (D.list 1 (bytesD signs))), _, _] _
        refine ALoop.go (ι := Nat) (fun k => [(0, .ptr 0 []), (35, .d (.list 1 (bytesD signs))), (36, .d (.int .i64 15)), (37, .d (.int .i64 k))]) (fun k => [(2, .gone), (1, .gone), (0, .box 45 (.d (tblD (cl4 k))))]) (fun k => k ≤ 15) (fun k => 15 - k) 0 (by omega) (by simp [keepS]) (by simp) ?_
        intro k hk R rn re _ _
        by_cases hlt : k < 15
        · have w3 := wrap1 hlt (by omega)
          have hb : (bytesD signs)[k]?.getD default = .int .u8 (signs[k]?.getD 0).toNat := by
            rw [bytesD_map]; simp [show k < signs.length from hlt]
          have hlen : (bytesD signs).length = 15 := rfl
          have hc := (signs[k]?.getD 0).toNat_lt
          generalize hcc : signs[k]?.getD 0 = c at *
          simp [lt25_l0, w3, hb, hlen, show (k : Int) < 15 by omega, show ¬ (15 : Int) ≤ k by omega, hc, show ((c.toNat : Int) < 256) by omega]
          refine rn [] (k + 1) _ _ ?_ ?_ ?_ ?_ ?_ ?_
          · omega
          · omega
          · simp
          · simp
            refine tblD_congr fun i _ => ?_
            simp only [upd, cl4, mem_take (show k < signs.length from hlt), hcc]
            split
            · rename_i e; simp [e]
            · rename_i e; simp [e]
          · simp
          · simp
        · have hk' : k = 15 := by omega
          subst hk'
          simp [lt25_l0]
          refine re _ _ _ ?_
          simp
          refine ⟨rfl, ?_⟩
          exact h
end
end Go.Proofs.YtlkpnkkgkjkmbaaDoor
