/- Texts of this claim joined by a program, part 7 of 16; the last is: Contracts: names are looked up while a question is resolved. Condition: the program is the seat's. -/
import Derived.Test.YtmapdjjigmkbfaaGreatDoorB5
import Derived.Test.YtmapdjjigmkbfaaGreatDoorB6
import Derived.Shelf.Strings.Builder1
import Derived.Shelf.Strconv.Itoa0
import Derived.Shelf.Strconv.Itoa1
import Derived.Shelf.LaysM
import Derived.Shelf.Strconv.Itoa2
import Derived.Shelf.Strconv.Itoa3
import Derived.Shelf.Strings.Search1
import Derived.Shelf.Strings.Search2
import Derived.Shelf.Strings.Search3
import Derived.Shelf.Strings.Shaped
import Derived.Shelf.Slices.Equal
import Derived.Shelf.Slices.Empties2
import Derived.Test.YtmapdjjigmkbfaaGreatDoorProg
set_option linter.unusedSimpArgs false
set_option linter.unusedVariables false
set_option linter.unusedSectionVars false
set_option linter.defProp false
/- Contracts: the scanner's methods. Condition: the program is the seat's. -/
namespace Go.Proofs.YtmapdjjigmkbfaaGreatDoor
open Go Go.Ab Go.Lx
set_option maxRecDepth 100000
section
variable {P : Prg} (hP : P.p = Tryz.prog)
include hP
theorem X75 (s : List UInt8) (i n : Nat) (k m a0 : Int) (t : List UInt8) (ts : List D) (hn : i + n ≤ 1000000) (hts : ts.length ≤ 1000000) {ob : Objs} {x y : Nat} (hx : lookO ob x = some (.box 130 (scV s i y ts.length))) (hy : lookO ob y = some (.arr 59 4 ts))
  {K : Out → Objs → Prop} (h : K (.ret (.tup [])) (setO (setO ob y (.arr 59 4 (ts ++ [.agg [.int .i64 k,.str t,.int .i64 m,.int .i64 i]]))) x (.box 130 (scV s ((i + n : Nat) : Int) y (ts.length + 1))))) :
  ACall P 98 [.ptr x [],.d (.agg [.int .i64 k,.str t,.int .i64 m,.int .i64 a0]),.d (.int .i64 n)] ob K := by
 have hxy : (y == x) = false := by rw [beq_eq_false_iff_ne]; intro e; subst e; rw [hx] at hy; cases hy
 have hyx : (x == y) = false := by rw [beq_eq_false_iff_ne]; intro e; subst e; rw [hx] at hy; cases hy
 refine acall_lift hP mixed Ypi Ysx TOk.nil ?_
 intro _ hm
 have hw : IntKind.i64.wrap ((i : Int) + n) = (i : Int) + n := IntWalk.i64_in _ (by omega)
 simp [Yq8,hx,hy,hxy,hyx,hw]
 refine ⟨by omega,?_⟩
 refine ⟨[],by simp,?_,?_⟩
 ·simp
  exact noMenO_set_box _ _ _ _ _ (noMenO_set_arr _ _ _ _ _ _ (hm _)) (by simp [hy])
 ·simpa using h
abbrev Xf2 (ob : Objs) (x y : Nat) (s : List UInt8) (ts : List D) (k : Int) (t : List UInt8) (m : Int) (i n : Nat) : Objs :=
 setO (setO ob y (.arr 59 4 (ts ++ [.agg [.int .i64 k,.str t,.int .i64 m,.int .i64 i]]))) x (.box 130 (scV s ((i + n : Nat) : Int) y (ts.length + 1)))
theorem Xf8 : Xj P.p 97 = true ∧ Xj P.p 99 = true ∧ Xj P.p 101 = true := by
 rw [hP]; exact ⟨by kernel_rfl,by kernel_rfl,by kernel_rfl⟩
section
variable (s : List UInt8) (i : Nat) (ts : List D) (hs : s.length ≤ 65536) (hi : i < s.length) (hts : ts.length ≤ 1000000) {ob : Objs} {x y : Nat} (hx : lookO ob x = some (.box 130 (scV s i y ts.length))) (hy : lookO ob y = some (.arr 59 4 ts)) {K : Out → Objs → Prop}
include hs hi hts hx hy
omit hs hi hts hy in
theorem X8b (h : K (.panic (.d (.iface 124 (.int .i64 i)))) ob) : ACall P 45 [.ptr x []] ob K := by
 refine acall_lift hP mixed Yor Yr5 TOk.nil ?_
 intro _ hm
 simp [Yqm,hx]
 refine ⟨[],by simp,?_,?_⟩
 ·simp [hm]
 ·simpa using h
omit hts in
theorem X8f (h : K (.ret (.tup [])) (setO ob x (.box 130 (scV s ((i + 1 : Nat) : Int) y ts.length)))) : ACall P 46 [.ptr x []] ob K := by
 refine acall_lift hP mixed Yos Yr6 TOk.nil ?_
 intro _ hm
 have hw := Xk0 hi (by omega)
 simp [Yqn,hx,hw]
 refine ⟨[],by simp,?_,?_⟩
 ·simp
  exact noMenO_set_box _ _ _ _ _ (hm _) (by simp [hy])
 ·simpa using h
theorem Yb5 (h1 : 32 < tw Zy s i → K (.panic (.d (.iface 124 (.int .i64 i)))) ob) (h2 : tw Zy s i ≤ 32 → K (.ret (.tup [])) (Xf2 ob x y s ts 1 ((s.drop i).takeWhile Zy) 0 i (tw Zy s i))) : ACall P 47 [.ptr x []] ob K := by
 refine acall_lift hP mixed Yot Yr7 TOk.nil ?_
 intro _ hm
 have hle := Xst Zy s i (by omega)
 simp [Yqo,hx]
 refine PCall.borrow (n := 5) (ds := [.ref (scD s i ts),.fn 97 [] [.ref (.ref (scD s i ts))]]) (by simp [hx,hy]) ?_
 refine X8c hP s i (by omega) (by omega) ts _ [] _ Zy (Xf8 hP).1 (fun c K h => by simpa using X8a hP c s i ts h) ?_
 simp
 have hl : ((s.drop i).takeWhile Zy).length = tw Zy s i := rfl
 simp [hl,hx]
 refine ⟨fun h3 => ?_,fun h3 => ?_⟩
 ·refine ⟨[],by simp,?_,?_⟩
  ·simp [hm]
  ·simpa using h1 (by omega)
 ·simp [X60,hl,hx]
  refine X75 hP (y := y) s i _ 1 0 0 _ ts (by omega) hts (by simp [hx]) (by simp [hy]) ?_
  simp [hx,hy]
  refine ⟨[],by simp,?_,?_⟩
  ·simp
   exact noMenO_set_box _ _ _ _ _ (noMenO_set_arr _ _ _ _ _ _ (hm _)) (by simp [hy])
  ·simpa [Xf2] using h2 (by omega)
theorem Xui (hd : Ye (s[i]?.getD 0) = true) (h1 : Xdn ((s.drop i).takeWhile Ye) = none → K (.panic (.d (.iface 124 (.int .i64 i)))) ob)
  (h2 : ∀ m,Xdn ((s.drop i).takeWhile Ye) = some m → K (.ret (.tup [])) (Xf2 ob x y s ts 2 [] m i (tw Ye s i))) : ACall P 48 [.ptr x []] ob K := by
 refine acall_lift hP mixed You Yr8 TOk.nil ?_
 intro _ hm
 have hle := Xst Ye s i (by omega)
 simp [Yqp,hx]
 refine PCall.borrow (n := 5) (ds := [.ref (scD s i ts),.fn 99 [] [.ref (.ref (scD s i ts))]]) (by simp [hx,hy]) ?_
 refine X8c hP s i (by omega) (by omega) ts _ [] _ Ye (Xf8 hP).2.1 (fun c K h => by simpa using Xuh hP c s i ts h) ?_
 have hl : ((s.drop i).takeWhile Ye).length = tw Ye s i := rfl
 have hdg : ∀ k,k < tw Ye s i → Jb (((s.drop i).takeWhile Ye)[k]?.getD 0).toNat = true := fun k hk => by
  have : ((s.drop i).takeWhile Ye)[k] ∈ (s.drop i).takeWhile Ye := List.getElem_mem hk
  rw [List.getElem?_eq_getElem hk]
  exact X36 this
 have hne : 0 < tw Ye s i := by have := Xzd hi hd; omega
 generalize ht : (s.drop i).takeWhile Ye = t at *
 rw [← hl] at hdg hne
 simp
 refine ALoop.go (ι := Nat × Int) (fun k => [(1,.ptr (fresh ob) []),(2,.d (.str t)),(3,.d (.int .i64 k.2)),(9,.d (.int .i64 t.length)),(10,.d (.int .i64 k.1))]) (fun _ => (fresh ob,.box 126 (.ptr x [])) :: ob)
  (fun k => k.1 ≤ t.length ∧ 0 ≤ k.2 ∧ k.2 ≤ 1099511627776 ∧ Q4 0 t = Q4 k.2 (t.drop k.1) ∧ (2 ≤ k.1 → t.headD 0 ≠ 48)) (fun k => t.length - k.1) (0,0) ⟨by simp,by simp,by simp,by simp,by simp⟩ rfl rfl ?_
 rintro ⟨k,n⟩ ⟨hk,k1,k2,k3,k4⟩ R rn re _ rp
 simp only at hk k1 k2 k3 k4
 simp [X61]
 by_cases hlt : k < t.length
 ·have hc := hdg k hlt
  rw [Xsa hlt] at k3
  generalize hcc : t[k]?.getD 0 = c at *
  have hcc' : t[k] = c := by rw [← hcc]; simp [hlt]
  simp [Jb] at hc
  have hcl := c.toNat_lt
  have hw : IntKind.i64.wrap (IntKind.i64.wrap (10 * n) + IntKind.i64.wrap (IntKind.u8.wrap (c.toNat - 48))) = 10 * n + (c.toNat - 48) := by
   rw [IntWalk.u8_in _ (by omega),IntWalk.i64_in (10 * n) (by omega),IntWalk.i64_in (_ - 48) (by omega),IntWalk.i64_in _ (by omega)]
  have hwk := Xk0 hlt (by omega)
  have hpan : Xdn t = none → R (AExit.panic (V.d (D.iface 124 (D.int IntKind.i64 i)))) [] ((fresh ob,.box 126 (.ptr x [])) :: ob) := fun hno => by
   refine rp _ _ _ ?_
   simp
   refine ⟨[],by simp,?_,?_⟩
   ·simp [hm]
   ·simpa using h1 hno
  have h0 : (t[0]?.getD 0) = t.headD 0 := by cases t <;> rfl
  have hlead : 0 < k → t[0]?.getD 0 = 48 → Xdn t = none := fun k0 e => by
   rw [h0] at e
   unfold Xdn
   cases Q4 0 t with
   | none => rfl
   | some m => simp only; rw [if_neg]; simp only [not_or,Classical.not_not]; exact ⟨by omega,e⟩
  simp [hlt,hcc',hw,hwk,hx]
  refine ⟨⟨fun _ _ => hne,fun e => hpan ?_,fun e1 e2 => ?_⟩,fun e => absurd e (by omega)⟩
  ·rcases e with e | ⟨e1,e2⟩
   ·rw [if_pos e] at k3
    simp [Xdn,k3]
   ·refine hlead e1 ?_
    have e3 : (t[0]?.getD 0).toNat = 48 := by omega
    generalize t[0]?.getD 0 = z at e3
    rw [← UInt8.ofNat_toNat (x := z),e3]; rfl
  ·rw [if_neg (by omega)] at k3
   simp [X62,hwk]
   refine rn [] (k + 1,10 * n + (c.toNat - 48)) _ _ ⟨?_,?_,?_,?_,?_⟩ ?_ ?_ ?_ ?_ ?_
   ·simp only; omega
   ·simp only; omega
   ·exact e1
   ·exact k3
   ·intro h2k e3
    have hk0 : 0 < k := by simp only at h2k; omega
    refine e2 hk0 ?_
    rw [h0,e3]; rfl
   ·simp only; omega
   ·simp
   ·simp
   ·simp [young]
   ·simp [W2 _ hm,hx]
 ·have hk' : k = t.length := by omega
  subst hk'
  simp
  refine re _ _ _ ?_
  simp [hx]
  refine X75 hP (y := y) s i _ 2 n 0 _ ts (by omega) hts (by simp [hx]) (by simp [hy]) ?_
  simp [hx,hy]
  refine ⟨[],by simp,?_,?_⟩
  ·simp
   exact noMenO_set_box _ _ _ _ _ (noMenO_set_arr _ _ _ _ _ _ (hm _)) (by simp [hy])
  ·have hn : Xdn t = some n := by
    simp [Q4] at k3
    simp only [Xdn,k3]
    rw [if_pos]
    by_cases h2 : 2 ≤ t.length
    ·exact .inr (k4 h2)
    ·exact .inl (by omega)
   simpa [Xf2,hl] using h2 n hn
theorem X8e (hsg : signB (s[i]?.getD 0) = true) (h1 : s[i]?.getD 0 = 47 ∧ (s.drop (i + 1)).head? = some 47 → K (.ret (.tup [])) (setO ob x (.box 130 (scV s ((i + tw V7 s i : Nat) : Int) y ts.length))))
  (h2 : ¬ (s[i]?.getD 0 = 47 ∧ (s.drop (i + 1)).head? = some 47) → K (.ret (.tup [])) (Xf2 ob x y s ts 3 [s[i]?.getD 0] 0 i 1)) : ACall P 49 [.ptr x []] ob K := by
 refine acall_lift hP mixed Yov Yr9 TOk.nil ?_
 intro _ hm
 have hw := Xk0 hi (by omega)
 have hle := Xst V7 s i (by omega)
 simp [Yqq,hx,hw,show i ≤ s.length by omega]
 refine PCall.data (ds := [.str (s.drop i),.str [47,47]]) rfl (X0o hP _ _ ?_)
 have hpre : ([47,47] : List UInt8).isPrefixOf (s.drop i) = decide (s[i]?.getD 0 = 47 ∧ (s.drop (i + 1)).head? = some 47) := by
  rw [Qe hi]
  cases hd : s.drop (i + 1) with
  | nil => simp [List.isPrefixOf]
  | cons a r =>
   rw [Bool.eq_iff_iff]
   simp only [List.isPrefixOf,Bool.and_eq_true,beq_iff_eq,Bool.and_true,decide_eq_true_eq,List.head?_cons,Option.some.injEq]
   exact ⟨fun h => ⟨h.1.symm,h.2.symm⟩,fun h => ⟨h.1.symm,h.2.symm⟩⟩
 rw [hpre]
 simp [hx,hw]
 refine ⟨fun e1 e2 => ?_,fun e => ⟨by omega,?_⟩⟩
 ·refine PCall.borrow (n := 5) (ds := [.ref (scD s i ts),.fn 101 [] []]) (by simp [hx,hy]) ?_
  refine X8c hP s i (by omega) (by omega) ts _ [] [] V7 (Xf8 hP).2.2 (fun c K h => by simpa using X8d hP c h) ?_
  have hl : ((s.drop i).takeWhile V7).length = tw V7 s i := rfl
  have hw2 : IntKind.i64.wrap ((i : Int) + tw V7 s i) = (i : Int) + tw V7 s i := IntWalk.i64_in _ (by omega)
  simp [hl,hw2]
  refine ⟨[],by simp,?_,?_⟩
  ·simp
   exact noMenO_set_box _ _ _ _ _ (hm _) (by simp [hy])
  ·have := h1 ⟨e1,by rw [Xjj]; exact e2⟩
   simpa using this
 ·have htx : (s.take (i + 1)).drop i = [s[i]?.getD 0] := by
   rw [List.drop_take,Nat.add_sub_cancel_left,Qe hi]; rfl
  rw [htx]
  refine X75 hP (y := y) s i 1 3 0 0 _ ts (by omega) hts hx hy ?_
  simp
  refine ⟨[],by simp,?_,?_⟩
  ·simp
   exact noMenO_set_box _ _ _ _ _ (noMenO_set_arr _ _ _ _ _ _ (hm _)) (by simp [hy])
  ·have := h2 (fun e1 => e e1.1 (by rw [← Xjj]; exact e1.2))
   simpa [Xf2] using this
end
end
end Go.Proofs.YtmapdjjigmkbfaaGreatDoor
/- Contracts: Lex. Condition: the program is the seat's. -/
namespace Go.Proofs.YtmapdjjigmkbfaaGreatDoor
open Go Go.Ab Go.Lx
set_option maxRecDepth 100000
section
variable {P : Prg} (hP : P.p = Tryz.prog)
include hP
theorem Yb6 {ob : Objs} {a b c : Nat} {K : Objs → Prop} (h : K ob) : DCall P 43 [.ptr a [],.ptr b [],.ptr c []] ob none K := by
 refine DCall.of_wf fun _ hm => ?_
 refine V3 hP mixed Yko Yl6 Yl3 TOk.nil ?_
 simp [Xv6,Xv5,Ykx]
 refine ⟨[],by simp,?_,?_⟩
 ·simp [hm]
 ·simpa using h
theorem Yb7 {ob : Objs} {a b c : Nat} {i : Int} {K : Objs → Prop} {va vb vc : V} {Ea Eb Ec : Nat} (ha : lookO ob a = some (.box Ea va)) (hb : lookO ob b = some (.box Eb vb)) (hc : lookO ob c = some (.box Ec vc)) (sa : va.shape = .leaf) (sb : vb.shape = .leaf) (sc : vc.shape = .leaf)
  (hab : (a == b) = false) (hac : (a == c) = false) (hbc : (b == c) = false) (h : K (setO (setO (setO ob a (.box Ea (.d .nils))) b (.box Eb (.d (.int .i64 i)))) c (.box Ec (.d (.int .i64 90))))) : DCall P 43 [.ptr a [],.ptr b [],.ptr c []] ob (some (.d (.iface 124 (.int .i64 i)))) K := by
 refine DCall.of_wf fun _ hm => ?_
 refine V3 hP mixed Yko Yl6 Yl3 TOk.nil ?_
 simp [Xv6,Xv5,Ykx,X6z,ha,hb,hc,hab,hac,hbc,sa,sb,sc]
 refine ⟨[],by simp,?_,?_⟩
 ·rw [J0 (by simp)]
  exact noMenO_set_box _ _ _ _ _ (noMenO_set_box _ _ _ _ _ (noMenO_set_box _ _ _ _ _ (hm _) (by simp)) (by simp)) (by simp)
 ·rw [J0 (by simp)]
  exact h
theorem X0v : Xj P.p 43 = true ∧ Xj P.p 45 = true ∧ Xj P.p 46 = true ∧ Xj P.p 47 = true ∧ Xj P.p 48 = true ∧ Xj P.p 49 = true := by
 rw [hP]; exact ⟨by kernel_rfl,by kernel_rfl,by kernel_rfl,by kernel_rfl,by kernel_rfl,by kernel_rfl⟩
omit hP in
theorem Xzc (f g : Nat → Int) : (Q0 f).shape = (Q0 g).shape := by
 simp only [Q0,Xib,D.shape,D.shapes_eq,List.map_map,Function.comp_def]
theorem Yb3 (s : List UInt8) {ob : Objs} {K : V → Prop} (h : K (Yaa s)) : PCall P 16 [.d (.str s)] ob K := by
 refine Ux hP mixed (ds := [.str s]) Ys1 Yrq TOk.nil ?_
 obtain ⟨d0,d1,d2,d3,d4,d5⟩ := X0v hP
 simp only [Ymc,Xk4,X7u]
 simp [d0]
 refine ⟨fun hl => ?_,fun hl => ?_⟩
 ·simpa [Yaa,show 65536 < s.length by omega] using h
 ·have hl' : ¬ 65536 < s.length := by omega
  simp only [Yaa,gt_iff_lt,hl',if_false] at h
  refine Xri hP ?_
  simp [Yk9]
  refine ⟨Xzc _ _,?_⟩
  refine ALoop.go (ι := Nat × List Tok) (fun _ => [(0,.d (.str s)),(2,.ptr 0 []),(3,.ptr 1 []),(4,.ptr 2 []),(5,.ptr 3 []),(6,.ptr 5 [])])
   (fun k => [(5,.box 131 (.agg [.fn 45 [.ptr 3 []] [],.fn 46 [.ptr 3 []] [],.fn 47 [.ptr 3 []] [],.fn 48 [.ptr 3 []] [],.fn 49 [.ptr 3 []] []])),
    (4,.arr 59 4 (k.2.map Tok.enc)),(3,.box 130 (scV s k.1 4 k.2.length)),(2,.box 45 (.d (.int .i64 0))),(1,.box 3 (.d (.int .i64 0))),(0,.box 55 (.d .nils))])
   (fun k => k.1 ≤ s.length ∧ k.2.length ≤ k.1 ∧ Wx s 0 = Xzk k.2 (Wx (s.drop k.1) k.1)) (fun k => s.length - k.1) (0,[]) ⟨by simp,by simp,by simp [X0l]⟩ rfl (by simp) ?_
  rintro ⟨i,out⟩ ⟨hi,ho,he⟩ R rn re _ rp
  simp only at hi ho he
  have nx : ∀ j out' ob',j ≤ s.length → out'.length ≤ j → Wx s 0 = Xzk out' (Wx (s.drop j) j) → i < j → ob' = [(5,.box 131 (.agg [.fn 45 [.ptr 3 []] [],.fn 46 [.ptr 3 []] [],.fn 47 [.ptr 3 []] [],.fn 48 [.ptr 3 []] [],.fn 49 [.ptr 3 []] []])),
    (4,.arr 59 4 (out'.map Tok.enc)),(3,.box 130 (scV s j 4 out'.length)),(2,.box 45 (.d (.int .i64 0))),(1,.box 3 (.d (.int .i64 0))),(0,.box 55 (.d .nils))] → R .normal [(0,.d (.str s)),(2,.ptr 0 []),(3,.ptr 1 []),(4,.ptr 2 []),(5,.ptr 3 []),(6,.ptr 5 [])] ob' := fun j out' ob' h1 h2 h3 h4 h6 =>
   rn [] (j,out') _ _ ⟨h1,h2,h3⟩ (by simp only; omega) rfl (by rw [h6]; simp [young]) (by simp [young]) (by simp [young])
  clear rn
  by_cases hlt : i < s.length
  ·rw [X99 hlt] at he
   generalize hc : s[i]?.getD 0 = c at *
   have hc' : s[i] = c := by rw [← hc]; simp [hlt]
   have hcl := c.toNat_lt
   have hout : (out.map Tok.enc).length ≤ 1000000 := by simp; omega
   have pan : Wx s 0 = .err i → R (.panic (.d (.iface 124 (.int .i64 i)))) [(2,.ptr 0 []),(3,.ptr 1 []),(4,.ptr 2 [])] [(5,.box 131 (.agg [.fn 45 [.ptr 3 []] [],.fn 46 [.ptr 3 []] [],.fn 47 [.ptr 3 []] [],.fn 48 [.ptr 3 []] [],.fn 49 [.ptr 3 []] []])),
    (4,.arr 59 4 (out.map Tok.enc)),(3,.box 130 (scV s i 4 out.length)),(2,.box 45 (.d (.int .i64 0))),(1,.box 3 (.d (.int .i64 0))),(0,.box 55 (.d .nils))] := fun hr => by
    refine rp _ _ _ ?_
    simp
    refine Yb7 hP (Ea := 55) (Eb := 3) (Ec := 45) (va := .d .nils) (vb := .d (.int .i64 0)) (vc := .d (.int .i64 0)) (by simp) (by simp) (by simp) (by simp) (by simp) (by simp) rfl rfl rfl ?_
    simp
    rw [hr] at h
    exact h
   have hx : ∀ (o5 : Ob),lookO [(5,o5),(4,Ob.arr 59 4 (out.map Tok.enc)),(3,Ob.box 130 (scV s i 4 (out.map Tok.enc).length)),(2,.box 45 (.d (.int .i64 0))),(1,.box 3 (.d (.int .i64 0))),(0,.box 55 (.d .nils))] 3 = some (.box 130 (scV s i 4 (out.map Tok.enc).length)) := fun _ => by simp
   have hcr := Xuk c.toNat hcl
   have cls : ∀ m : Nat,Xik c.toNat = m → (Xik c.toNat).toNat = m := fun m e => by omega
   have g1 := Xul c.toNat hcl
   have g2 := Xe1 c.toNat hcl
   have g3 := Xc6 c.toNat hcl
   have g4 := X0x c.toNat hcl
   have e47 : Xik c.toNat ≠ 4 → ¬ (c = 47 ∧ (s.drop (i + 1)).head? = some 47) := fun hne h => by
    obtain ⟨rfl,_⟩ := h; exact hne (by decide +kernel)
   have key : ∀ m : Int,Xik c.toNat = m → (Uz c = decide (m = 1)) ∧ (Zk c = decide (m = 2)) ∧ (Ye c = decide (m = 3)) ∧ (signB c = decide (m = 4)) := fun m e => by
    rw [e] at g1 g2 g3 g4
    refine ⟨?_,?_,?_,?_⟩ <;> rw [Bool.eq_iff_iff,decide_eq_true_eq]
    ·exact g1.symm
    ·exact g2.symm
    ·exact g3.symm
    ·exact g4.symm
   have htwt : ∀ p : UInt8 → Bool,p c = true → tw p s i = ((s.drop (i + 1)).takeWhile p).length + 1 ∧ (s.drop i).takeWhile p = c :: (s.drop (i + 1)).takeWhile p := fun p hp => by
    refine ⟨(Yax p hlt (by rw [hc]; exact hp)).2,?_⟩
    rw [Qe hlt,hc,List.takeWhile_cons,if_pos hp]
   rcases (by omega : Xik c.toNat = 0 ∨ Xik c.toNat = 1 ∨ Xik c.toNat = 2 ∨ Xik c.toNat = 3 ∨ Xik c.toNat = 4) with e | e | e | e | e
   ·obtain ⟨k1,k2,k3,k4⟩ := key 0 e
    simp only [stp,k1,k2,k3,k4,e47 (by rw [e]; decide),if_false,Xzk] at he
    simp [Xaz,hlt,hc',hcl,show (c.toNat : Int) < 256 by omega,e,d1]
    refine X8b hP s i (out.map Tok.enc) (y := 4) (by simp) ?_
    simp
    exact pan (by simpa using he)
   ·obtain ⟨k1,k2,k3,k4⟩ := key 1 e
    simp [stp,k1] at he
    simp [Xaz,hlt,hc',hcl,show (c.toNat : Int) < 256 by omega,e,d2]
    refine X8f hP s i (out.map Tok.enc) (by omega) hlt (y := 4) (by simp) (by simp) ?_
    simp
    refine nx (i + 1) out _ (by omega) (by omega) he (by omega) (by simp)
   ·obtain ⟨k1,k2,k3,k4⟩ := key 2 e
    have hp : Zy c = true := by
     have : Z8 c.toNat = true := by simpa [Zk] using k2
     simp [Zy,Xj7,this]
    obtain ⟨t1,t2⟩ := htwt Zy hp
    have hle := Xst Zy s i (by omega)
    have k1 : Uz c = false := by simpa using k1
    have k2 : Zk c = true := by simpa using k2
    simp only [stp,k1,k2,e47 (by rw [e]; decide),Bool.false_eq_true,if_false,if_true] at he
    simp [Xaz,hlt,hc',hcl,show (c.toNat : Int) < 256 by omega,e,d3]
    refine Yb5 hP s i (out.map Tok.enc) (by omega) hlt hout (y := 4) (by simp) (by simp) (fun h5 => ?_) (fun h5 => ?_)
    ·simp
     rw [if_neg (by omega)] at he
     exact pan (by simpa [Xzk] using he)
    ·simp [Xf2]
     rw [if_pos (by omega)] at he
     simp only [Xf3] at he
     have hjj : i + ((s.drop (i + 1)).takeWhile Zy).length + 1 = i + tw Zy s i := by omega
     rw [hjj] at he
     refine nx (i + tw Zy s i) (out ++ [⟨1,c :: (s.drop (i + 1)).takeWhile Zy,0,i⟩]) _ (by omega) (by simp; omega) he (by omega) ?_
     simp [Tok.enc,t2]
   ·obtain ⟨k1,k2,k3,k4⟩ := key 3 e
    have hp : Ye c = true := by simpa using k3
    obtain ⟨t1,t2⟩ := htwt Ye hp
    have hle := Xst Ye s i (by omega)
    have k1 : Uz c = false := by simpa using k1
    have k2 : Zk c = false := by simpa using k2
    simp only [stp,k1,k2,hp,e47 (by rw [e]; decide),Bool.false_eq_true,if_false,if_true] at he
    simp [Xaz,hlt,hc',hcl,show (c.toNat : Int) < 256 by omega,e,d4]
    refine Xui hP s i (out.map Tok.enc) (by omega) hlt hout (y := 4) (by simp) (by simp) (by rw [hc]; exact hp) (fun h5 => ?_) (fun m h5 => ?_)
    ·simp
     rw [t2] at h5
     rw [h5] at he
     exact pan (by simpa [Xzk] using he)
    ·simp [Xf2]
     rw [t2] at h5
     rw [h5] at he
     simp only [Xf3] at he
     have hjj : i + ((s.drop (i + 1)).takeWhile Ye).length + 1 = i + tw Ye s i := by omega
     rw [hjj] at he
     refine nx (i + tw Ye s i) (out ++ [⟨2,[],m,i⟩]) _ (by omega) (by simp; omega) he (by omega) ?_
     simp [Tok.enc]
   ·obtain ⟨k1,k2,k3,k4⟩ := key 4 e
    simp [Xaz,hlt,hc',hcl,show (c.toNat : Int) < 256 by omega,e,d5]
    refine X8e hP s i (out.map Tok.enc) (by omega) hlt hout (y := 4) (by simp) (by simp) (by rw [hc]; simpa using k4) (fun h5 => ?_) (fun h5 => ?_)
    ·rw [hc] at h5
     obtain ⟨rfl,h6⟩ := h5
     obtain ⟨t1,t2⟩ := htwt V7 rfl
     have hle := Xst V7 s i (by omega)
     simp only [stp,k1,h6,and_self,if_true,decide_eq_true_eq,show ¬ ((4 : Int) = 1) by decide,if_false] at he
     simp
     have hjj : i + ((s.drop (i + 1)).takeWhile V7).length + 1 = i + tw V7 s i := by omega
     rw [hjj] at he
     refine nx (i + tw V7 s i) out _ (by omega) (by omega) he (by omega) ?_
     simp
    ·rw [hc] at h5
     simp only [stp,k1,k2,k3,k4,h5,if_false,decide_eq_true_eq,show ¬ ((4 : Int) = 1) by decide,show ¬ ((4 : Int) = 2) by decide,show ¬ ((4 : Int) = 3) by decide,if_true,Xf3] at he
     simp [Xf2]
     refine nx (i + 1) (out ++ [⟨3,[c],0,i⟩]) _ (by omega) (by simp; omega) he (by omega) ?_
     simp [Tok.enc,hc]
  ·have hi' : i = s.length := by omega
   subst hi'
   simp [Xaz]
   refine re _ _ _ ?_
   simp
   refine Yb6 hP ?_
   simp
   rw [X2k (Nat.le_refl _)] at he
   rw [he] at h
   simpa [Xzk,Yfi,toks] using h
end
end Go.Proofs.YtmapdjjigmkbfaaGreatDoor
/- strings.Builder: copyCheck, walked (the shelf's body has a panic where this dump refuses). Condition: the program is the seat's. -/
namespace Go.Proofs.YtmapdjjigmkbfaaGreatDoor
open Go Go.Ab Go.Lx
set_option maxRecDepth 100000
open Go.RowKit in
set_option maxHeartbeats 1000000 in
theorem cc_used (b : Nat) (w : World) (h0 : w.cell? ⟨b,0,none⟩ = some (.pointer (some ⟨b,0,none⟩))) :
  Calls Tryz.prog 103 #[.pointer (some ⟨b,0,none⟩)] w fun e w' => e = .returned (.tuple #[]) ∧ w' = w := by
 have hX : (Tryz.prog.info? 134).map (·.size) = some 2 := by kernel_rfl
 obtain ⟨j,hj,_⟩ := Option.map_eq_some_iff.1 hX
 go_enter Tryz.func103,Tryz.ntmps103
 go_wp2
 rw [Lib.run_neq_ptr_same w _ Tryz.underlying132 hj]
 go_wp2
 go_end0
 exact ⟨rfl,rfl⟩
open Go.RowKit in
set_option maxHeartbeats 1000000 in
theorem cc_fresh (b : Nat) (w : World) (h0 : w.cell? ⟨b,0,none⟩ = some (.pointer none)) (hsh : w.shape? b = some (134,2)) (hfz : w.frozen? ⟨b,0,none⟩ = false) :
  Calls Tryz.prog 103 #[.pointer (some ⟨b,0,none⟩)] w fun e w' => e = .returned (.tuple #[]) ∧ w' = w.setCell ⟨b,0,none⟩ (.pointer (some ⟨b,0,none⟩)) := by
 have hX : (Tryz.prog.info? 134).map (·.size) = some 2 := by kernel_rfl
 have hY : liesAt Tryz.prog Tryz.prog.depth 134 (2 / Tryz.prog.cellsOf 134) 0 134 1 = true := by kernel_rfl
 obtain ⟨j,hj,hjs⟩ := Option.map_eq_some_iff.1 hX
 go_enter Tryz.func103,Tryz.ntmps103
 go_wp2
 rw [Lib.run_to_unsafe w ⟨b,0,none⟩ Tryz.underlying132 Tryz.underlying229 hj (by rw [hjs]; decide) hsh (Nat.zero_lt_succ 1)]
 simp only [Result.andThen]
 rw [Oper.upon_value]
 go_wp2
 rw [run_callFunc_extern Tryz.func131 (by kernel_rfl) (by kernel_rfl) (by kernel_rfl) (e := Extern.AbiNoEscape.same) (by kernel_rfl)]
 rw [Lib.run_noEscape]
 simp only [Result.andThen]
 rw [Oper.upon_value]
 go_wp2
 rw [Lib.run_from_unsafe w ⟨b,0,none⟩ Tryz.underlying229 Tryz.underlying132 hj hsh hY]
 simp only [Result.andThen]
 rw [Oper.upon_value]
 go_wp2
 go_end0
 exact ⟨rfl,rfl⟩
theorem bytesD_len : ∀ t : List UInt8,(bytesD t).length = t.length
 | [] => rfl
 | _ :: r => by simp [bytesD,bytesD_len r]
theorem bytesD_app : ∀ s t : List UInt8,bytesD (s ++ t) = bytesD s ++ bytesD t
 | [],_ => rfl
 | _ :: r,t => by simp [bytesD,bytesD_app r t]
theorem noMenO_set_gone {ob : Objs} (ids : Nat → Bool) (k : Nat) (h : noMenO ids ob = true) : noMenO ids (setO ob k .gone) = true := by
 induction ob with
 | nil => rfl
 | cons e r ih =>
  obtain ⟨j,o⟩ := e
  simp only [setO]
  split
  ·cases o <;> simp_all [noMenO]
  ·cases o <;> simp_all [noMenO]
section
variable {P : Prg} (hP : P.p = Tryz.prog)
include hP
theorem c_cc0 {ob : Objs} {x : Nat} (hx : lookO ob x = some (.box 134 (.d (.agg [.nilp,.nils])))) {K : Out → Objs → Prop} (h : K (.ret (.tup [])) (setO ob x (.box 134 (.agg [.ptr x [],.d .nils])))) : ACall P 103 [.ptr x []] ob K := by
 refine ⟨fun w ρ args ho hg hr => ?_⟩
 obtain ⟨b,cs,h1,h2,h3⟩ := ho.one x _ hx
 simp only [V.repC,D.rep,D.repL] at h3
 obtain ⟨c1,c2,rfl,rfl,c3,c4,rfl,rfl,rfl⟩ := h3
 simp only [V.reps,↓reduceCtorEq,false_or] at hr
 obtain ⟨u,us,rfl,hu,rfl⟩ := hr
 have hu' : (V.ptr x []).rep w ρ u := hu.elim (fun h => .inr (.inl h)) (fun h => .inr (.inr h))
 obtain ⟨b',sh,g1,g2⟩ := rep_ptr_box ho hx hu'
 rw [h1] at g1; simp only [Option.some.injEq,RO.box.injEq] at g1
 obtain ⟨rfl,rfl⟩ := g1
 have hoff : Sh.off (V.d (.agg [.nilp,.nils])).shape [] = 0 := rfl
 rw [hoff] at g2; subst g2
 rw [hP]
 have hre : (V.agg [.ptr x [],.d .nils]).repC w ρ [.pointer (some ⟨b,0,none⟩),.slice none 0 0] := by
  simp only [V.repC,V.repCs,D.rep]
  exact ⟨[_],[_],rfl,.inl ⟨b,_,h1,rfl⟩,[_],[],rfl,rfl,rfl⟩
 obtain ⟨t1,o1⟩ := write_box (t' := .agg [.ptr x [],.d .nils]) ho hx h1 h2 rfl hre
 refine (cc_fresh b w (by simp [World.cell?,h2]) (by simp [World.shape?,h2]) (by simp [World.frozen?,h2])).mono ?_
 rintro e w' ⟨rfl,rfl⟩
 have hw : w.setCell ⟨b,0,none⟩ (.pointer (some ⟨b,0,none⟩)) = w.setRow b [.pointer (some ⟨b,0,none⟩),.slice none 0 0].toArray := by
  simp only [World.setCell,World.setRow]
  congr 1
  apply Array.ext_getElem?
  intro i
  simp only [Array.getElem?_modify]
  split
  ·rename_i e; subst e; rw [h2]; simp
  ·rfl
 rw [hw]
 exact ⟨_,_,ρ,h,rep_tup.2 ⟨[],rfl,rfl⟩,o1,t1⟩
theorem c_cc1 {ob : Objs} {x : Nat} {v : V} (hx : lookO ob x = some (.box 134 (.agg [.ptr x [],v]))) {K : Out → Objs → Prop} (h : K (.ret (.tup [])) ob) : ACall P 103 [.ptr x []] ob K := by
 refine ⟨fun w ρ args ho hg hr => ?_⟩
 obtain ⟨b,cs,h1,h2,h3⟩ := ho.one x _ hx
 simp only [V.repC,V.repCs] at h3
 obtain ⟨c1,c2,rfl,h3,_⟩ := h3
 rcases h3 with ⟨b',sh,h4,rfl⟩ | ⟨h4,_⟩
 ·rw [h1] at h4; simp only [Option.some.injEq,RO.box.injEq] at h4
  obtain ⟨rfl,rfl⟩ := h4
  simp only [V.reps,↓reduceCtorEq,false_or] at hr
  obtain ⟨u,us,rfl,hu,rfl⟩ := hr
  have hu' : (V.ptr x []).rep w ρ u := hu.elim (fun h => .inr (.inl h)) (fun h => .inr (.inr h))
  obtain ⟨b',sh,g1,g2⟩ := rep_ptr_box ho hx hu'
  rw [h1] at g1; simp only [Option.some.injEq,RO.box.injEq] at g1
  obtain ⟨rfl,rfl⟩ := g1
  have hoff : Sh.off (V.agg [.ptr x [],v]).shape [] = 0 := rfl
  rw [hoff] at g2; subst g2
  rw [hP]
  refine (cc_used b w (by rw [hoff] at h2; simp [World.cell?,h2])).mono ?_
  rintro e w' ⟨rfl,rfl⟩
  exact ⟨_,_,ρ,h,rep_tup.2 ⟨[],rfl,rfl⟩,ho,.refl _ _⟩
 ·rw [h1] at h4; cases h4
theorem c_wb {ob : Objs} {x y : Nat} {c : Int} {l : List D} (hx : lookO ob x = some (.box 134 (.agg [.ptr x [],.sl y l.length]))) (hy : lookO ob y = some (.arr 5 1 l)) (hl : l.length ≤ 100000000) {K : Out → Objs → Prop} (h : K (.ret (.d .nili)) (setO (setO ob y (.arr 5 1 (l ++ [.int .u8 c]))) x (.box 134 (.agg [.ptr x [],.sl y (l.length + 1)])))) : ACall P 51 [.ptr x [],.d (.int .u8 c)] ob K := by
 have hxy : (y == x) = false := by rw [beq_eq_false_iff_ne]; intro e; subst e; rw [hx] at hy; cases hy
 have hyx : (x == y) = false := by rw [beq_eq_false_iff_ne]; intro e; subst e; rw [hx] at hy; cases hy
 refine acall_lift hP mixed ok51 lf51 TOk.nil ?_
 intro _ hm
 simp [Et51,hx]
 refine c_cc1 hP hx ?_
 simp [hx,hy,hxy,hyx]
 refine ⟨by omega,[],by simp,?_,?_⟩
 ·simp
  exact noMenO_set_box _ _ _ _ _ (noMenO_set_arr _ _ _ _ _ _ (hm _)) (by simp [hx,hy])
 ·simpa using h
theorem c_ws {ob : Objs} {x y : Nat} {t : List UInt8} {l : List D} (hx : lookO ob x = some (.box 134 (.agg [.ptr x [],.sl y l.length]))) (hy : lookO ob y = some (.arr 5 1 l)) (hl : l.length + t.length ≤ 100000000) {K : Out → Objs → Prop} (h : K (.ret (.tup [.d (.int .i64 t.length),.d .nili])) (setO (setO ob y (.arr 5 1 (l ++ bytesD t))) x (.box 134 (.agg [.ptr x [],.sl y (l.length + t.length)])))) : ACall P 52 [.ptr x [],.d (.str t)] ob K := by
 have hxy : (y == x) = false := by rw [beq_eq_false_iff_ne]; intro e; subst e; rw [hx] at hy; cases hy
 have hyx : (x == y) = false := by rw [beq_eq_false_iff_ne]; intro e; subst e; rw [hx] at hy; cases hy
 refine acall_lift hP mixed ok52 lf52 TOk.nil ?_
 intro _ hm
 simp [Et52,hx]
 refine c_cc1 hP hx ?_
 simp [hx,hy,hxy,hyx,bytesD_len]
 refine ⟨by omega,[],by simp,?_,?_⟩
 ·simp
  exact noMenO_set_box _ _ _ _ _ (noMenO_set_arr _ _ _ _ _ _ (hm _)) (by simp [hx,hy])
 ·simpa using h
theorem c_ws0 {ob : Objs} {x : Nat} {t : List UInt8} (hx : lookO ob x = some (.box 134 (.d (.agg [.nilp,.nils])))) (hl : t.length ≤ 100000000) {K : Out → Objs → Prop} (h : K (.ret (.tup [.d (.int .i64 t.length),.d .nili])) ((fresh ob,.arr 5 1 (bytesD t)) :: (setO ob x (.box 134 (.agg [.ptr x [],.sl (fresh ob) t.length]))))) : ACall P 52 [.ptr x [],.d (.str t)] ob K := by
 refine acall_lift hP mixed ok52 lf52 TOk.nil ?_
 intro _ hm
 simp [Et52,hx]
 refine c_cc0 hP hx ?_
 simp [hx,bytesD_len]
 have hy : young (fresh ob) [fresh ob] (fresh ob) = false := by simp [young]
 refine ⟨by omega,[fresh ob],by simp,?_,?_⟩
 ·simp [hy]
  exact noMenO_set_box _ _ _ _ _ (hm _) (by simp [hx,hy])
 ·simpa [hy] using h
theorem c_bs0 {ob : Objs} {x : Nat} (hx : lookO ob x = some (.box 134 (.d (.agg [.nilp,.nils])))) {K : Out → Objs → Prop} (h : K (.ret (.d (.str []))) ob) : ACall P 54 [.ptr x []] ob K := by
 refine acall_lift hP mixed ok54 lf54 TOk.nil ?_
 intro _ hm
 simp [Et54,hx]
 refine ⟨[],by simp,?_,?_⟩
 ·simp [hm]
 ·simpa using h
theorem c_bs {ob : Objs} {x y : Nat} {t : List UInt8} (hx : lookO ob x = some (.box 134 (.agg [.ptr x [],.sl y t.length]))) (hy : lookO ob y = some (.arr 5 1 (bytesD t))) (h0 : t ≠ []) (hl : t.length ≤ 100000000) {K : Out → Objs → Prop} (h : K (.ret (.d (.str t))) (setO ob y .gone)) : ACall P 54 [.ptr x []] ob K := by
 refine acall_lift hP mixed ok54 lf54 TOk.nil ?_
 intro _ hm
 have hb : bytesD t ≠ [] := by cases t with
  | nil => exact (h0 rfl).elim
  | cons c r => simp [bytesD]
 simp [Et54,hx,hy,bytesD_len,hb]
 have e1 : ∃ E z xs,(5 = E ∧ 1 = z ∧ bytesD t = xs) ∧ t.length = xs.length := ⟨_,_,_,⟨rfl,rfl,rfl⟩,(bytesD_len t).symm⟩
 have e2 : ∃ E sz xs,(5 = E ∧ 1 = sz ∧ bytesD t = xs) ∧ ¬sz = 0 ∧ t.length = xs.length ∧ ¬xs = [] := ⟨_,_,_,⟨rfl,rfl,rfl⟩,by decide,(bytesD_len t).symm,hb⟩
 first | refine ⟨e1,e2,e1,e2,by omega,t,rfl,[],by simp,?_,?_⟩ | refine ⟨e2,by omega,t,rfl,[],by simp,?_,?_⟩
 ·simp
  exact noMenO_set_gone _ _ (hm _)
 ·simpa using h
end
end Go.Proofs.YtmapdjjigmkbfaaGreatDoor
/- Laid by the kit's lay-shelf.mjs and lay-plain.mjs (a tool's print), cut down by shl.py. -/
namespace Go.Proofs
open Go.Shelf
def Tryz.laysM171_ren : Go.Shelf.Ren := ⟨fun | 171 => 53 | 243 => 104 | 246 => 132 | 283 => 143 | 284 => 144 | 285 => 145 | 286 => 146 | 129 => 162 | 317 => 161 | 318 => 163 | 319 => 164 | 320 => 165 | 337 => 174 | 338 => 175 | n => n,fun | 3 => 3 | 9 => 9 | 2 => 2 | 4 => 4 | 171 => 247 | 0 => 0 | 53 => 236 | 37 => 80 | 5 => 5 | 173 => 250 | 212 => 260 | 51 => 200 | 20 => 20 | 213 => 261 | 46 => 239 | 232 => 75 | 233 => 235 | n => n,fun | 17 => 2 | 18 => 3 | 19 => 4 | n => n⟩
theorem Tryz.laysM171 : Go.Proofs.LaysM.n171 Tryz.prog Tryz.laysM171_ren := {
 mixed := by kernel_rfl
 f129 := Tryz.func162.trans (congrArg some (by kernel_rfl))
 f171 := Tryz.func53.trans (congrArg some (by kernel_rfl))
 f243 := Tryz.func104.trans (congrArg some (by kernel_rfl))
 f246 := Tryz.func132.trans (congrArg some (by kernel_rfl))
 f283 := Tryz.func143.trans (congrArg some (by kernel_rfl))
 f284 := Tryz.func144.trans (congrArg some (by kernel_rfl))
 f285 := Tryz.func145.trans (congrArg some (by kernel_rfl))
 f286 := Tryz.func146.trans (congrArg some (by kernel_rfl))
 f317 := Tryz.func161.trans (congrArg some (by kernel_rfl))
 f318 := Tryz.func163.trans (congrArg some (by kernel_rfl))
 f319 := Tryz.func164.trans (congrArg some (by kernel_rfl))
 f320 := Tryz.func165.trans (congrArg some (by kernel_rfl))
 f337 := Tryz.func174.trans (congrArg some (by kernel_rfl))
 f338 := Tryz.func175.trans (congrArg some (by kernel_rfl))
 t0 := Tryz.underlying0
 a0 := Tryz.isAgg0
 z0 := Tryz.sizeOf0
 v0 := Tryz.zeroValue0
 t2 := Tryz.underlying2
 a2 := Tryz.isAgg2
 z2 := Tryz.sizeOf2
 v2 := Tryz.zeroValue2
 t3 := Tryz.underlying3
 a3 := Tryz.isAgg3
 z3 := Tryz.sizeOf3
 v3 := Tryz.zeroValue3
 t4 := Tryz.underlying4
 a4 := Tryz.isAgg4
 z4 := Tryz.sizeOf4
 v4 := Tryz.zeroValue4
 t5 := Tryz.underlying5
 a5 := Tryz.isAgg5
 z5 := Tryz.sizeOf5
 v5 := Tryz.zeroValue5
 t9 := Tryz.underlying9
 a9 := Tryz.isAgg9
 z9 := Tryz.sizeOf9
 v9 := Tryz.zeroValue9
 t20 := Tryz.underlying20
 a20 := Tryz.isAgg20
 z20 := Tryz.sizeOf20
 v20 := Tryz.zeroValue20
 t37 := Tryz.underlying80
 a37 := Tryz.isAgg80
 z37 := Tryz.sizeOf80
 v37 := Tryz.zeroValue80
 t46 := Tryz.underlying239
 a46 := Tryz.isAgg239
 z46 := Tryz.sizeOf239
 v46 := Tryz.zeroValue239
 t51 := Tryz.underlying200
 a51 := Tryz.isAgg200
 z51 := Tryz.sizeOf200
 v51 := Tryz.zeroValue200
 t53 := Tryz.underlying236
 a53 := Tryz.isAgg236
 z53 := Tryz.sizeOf236
 v53 := Tryz.zeroValue236
 t171 := Tryz.underlying247
 a171 := Tryz.isAgg247
 z171 := Tryz.sizeOf247
 v171 := Tryz.zeroValue247
 t173 := Tryz.underlying250
 a173 := Tryz.isAgg250
 z173 := Tryz.sizeOf250
 v173 := Tryz.zeroValue250
 t212 := Tryz.underlying260
 a212 := Tryz.isAgg260
 z212 := Tryz.sizeOf260
 v212 := Tryz.zeroValue260
 t213 := Tryz.underlying261
 a213 := Tryz.isAgg261
 z213 := Tryz.sizeOf261
 t232 := Tryz.underlying75
 a232 := Tryz.isAgg75
 z232 := Tryz.sizeOf75
 v232 := Tryz.zeroValue75
 t233 := Tryz.underlying235
 a233 := Tryz.isAgg235
 z233 := Tryz.sizeOf235
 v233 := Tryz.zeroValue235
 g17 := by kernel_rfl
 g18 := by kernel_rfl
 g19 := by kernel_rfl
 i0 := by kernel_rfl
 i2 := by kernel_rfl
 i3 := by kernel_rfl
 i4 := by kernel_rfl
 i5 := by kernel_rfl
 i9 := by kernel_rfl
 i20 := by kernel_rfl
 i37 := by kernel_rfl
 i46 := by kernel_rfl
 i51 := by kernel_rfl
 i53 := by kernel_rfl
 i171 := by kernel_rfl
 i173 := by kernel_rfl
 i212 := by kernel_rfl
 i232 := by kernel_rfl
 i233 := by kernel_rfl
 m17 := by kernel_rfl
 m18 := by kernel_rfl
 m19 := by kernel_rfl }
open Go.RowKit Go.Sort Go.Lib in
theorem Tryz.strconv_Itoa (n : Int) (h0 : -9223372036854775808 ≤ n) (h1 : n ≤ 9223372036854775807) (w : World) (htab : Lib.TabIs Tryz.prog w "internal/strconv.uint64pow10" .u64 Lib.pow10Tab) :
  Calls Tryz.prog 53 #[.int .i64 n] w fun e w' => e = .returned (.string ⟨(Lib.itoa n).toArray⟩) ∧ ∃ k os,w' = grow (w.drewN k) os := Any.strconv_Itoa Tryz.laysM171 n h0 h1 w htab
def Tryz.lays144_ren : Go.Shelf.Ren := ⟨fun | 144 => 102 | 143 => 130 | 219 => 142 | 217 => 157 | 225 => 158 | 224 => 159 | 267 => 160 | 266 => 172 | 314 => 173 | n => n,fun | 9 => 9 | 4 => 4 | 3 => 3 | 5 => 5 | 46 => 239 | 146 => 270 | 51 => 200 | n => n,fun | 1 => 1 | n => n⟩
theorem Tryz.lays144 : Go.Proofs.Lays.n144 Tryz.prog Tryz.lays144_ren := {
 mixed := by kernel_rfl
 f143 := Tryz.func130.trans (congrArg some (by kernel_rfl))
 f144 := Tryz.func102.trans (congrArg some (by kernel_rfl))
 f217 := Tryz.func157.trans (congrArg some (by kernel_rfl))
 f219 := Tryz.func142.trans (congrArg some (by kernel_rfl))
 f224 := Tryz.func159.trans (congrArg some (by kernel_rfl))
 f225 := Tryz.func158.trans (congrArg some (by kernel_rfl))
 f266 := Tryz.func172.trans (congrArg some (by kernel_rfl))
 f267 := Tryz.func160.trans (congrArg some (by kernel_rfl))
 f314 := Tryz.func173.trans (congrArg some (by kernel_rfl))
 t3 := Tryz.underlying3
 a3 := Tryz.isAgg3
 z3 := Tryz.sizeOf3
 v3 := Tryz.zeroValue3
 t4 := Tryz.underlying4
 a4 := Tryz.isAgg4
 z4 := Tryz.sizeOf4
 v4 := Tryz.zeroValue4
 t5 := Tryz.underlying5
 a5 := Tryz.isAgg5
 z5 := Tryz.sizeOf5
 v5 := Tryz.zeroValue5
 t9 := Tryz.underlying9
 a9 := Tryz.isAgg9
 z9 := Tryz.sizeOf9
 v9 := Tryz.zeroValue9
 t46 := Tryz.underlying239
 a46 := Tryz.isAgg239
 z46 := Tryz.sizeOf239
 v46 := Tryz.zeroValue239
 t51 := Tryz.underlying200
 a51 := Tryz.isAgg200
 z51 := Tryz.sizeOf200
 v51 := Tryz.zeroValue200
 t146 := Tryz.underlying270
 a146 := Tryz.isAgg270
 z146 := Tryz.sizeOf270
 v146 := Tryz.zeroValue270
 g1 := by kernel_rfl }
open Go.RowKit Go.Lib in
theorem Tryz.strings_Contains_one (s : ByteArray) (c : UInt8) (w : World) :
  Calls Tryz.prog 102 #[.string s,.string ⟨#[c]⟩] w fun e w' => e = .returned (.bool (decide (0 ≤ Lib.indexByte s.data.toList c))) ∧ w' = w := Any.strings_Contains_one Tryz.lays144 s c w
end Go.Proofs
/- Contracts: strings.Contains at one byte, strconv.Itoa, which tokens are valid, decimal digits. Condition: the program is the seat's; the powers of ten are laid. -/
namespace Go.Lx
open Go Go.Ab
def hasB (s : List UInt8) (c : UInt8) : Bool := s.any fun b => b == c
def fnC : Ab.Fn := ⟨fun vs => match vs with | [.d (.str _),.d (.str t)] => t.length = 1 | _ => False,fun vs => match vs with | [.d (.str s),.d (.str t)] => .d (.bool (hasB s (t.headD 0))) | _ => .any⟩
@[simp] theorem fnC_pre (s t : List UInt8) : fnC.pre [.d (.str s),.d (.str t)] = (t.length = 1) := by simp only [fnC]
@[simp] theorem fnC_val (s t : List UInt8) : fnC.val [.d (.str s),.d (.str t)] = .d (.bool (hasB s (t.headD 0))) := by simp only [fnC]
def validB (t : Tok) : Bool :=
 if t.kind = 1 then nameB t.text && decide (t.n = 0)
 else if t.kind = 2 then decide (t.text = []) && decide (0 ≤ t.n) && decide (t.n ≤ 1099511627776)
 else if t.kind = 3 then decide (t.text.length = 1) && signB (t.text.headD 0) && decide (t.n = 0)
 else false
def Pow (P : Prg) : Prop := ∃ T f,P.g 2 = some (.cells (Lib.pow10Tab.map fun z => Value.int .u64 z).toArray T f)
theorem ext_grow (w : World) (k : Nat) (os : Array Obj) : Ext w (Go.Sort.grow (w.drewN k) os) := by
 refine ⟨by simp [Go.Sort.grow],fun b hb => ?_,rfl,rfl,rfl⟩
 simp [Go.Sort.grow,Array.getElem?_append,hb]
theorem any_index (s : List UInt8) (c : UInt8) : decide (0 ≤ Lib.indexByte s c) = hasB s c := by
 unfold hasB
 induction s with
 | nil => rfl
 | cons b r ih =>
  have hg := Lib.indexByte_ge r c
  simp only [Lib.indexByte,List.any_cons,← ih]
  by_cases h : b == c
  ·simp [h]
  ·simp only [h]
   by_cases h2 : Lib.indexByte r c = -1
   ·simp [h2]
   ·have h3 : (Lib.indexByte r c == -1) = false := by simp [h2]
    simp only [h3,Bool.false_or]
    have : 0 ≤ Lib.indexByte r c := by omega
    simp [this]; omega
theorem hasB_signs (c : UInt8) : hasB [123,125,40,41,59,44,61,35,47,60,33,45,46,58,43] c = signB c := by
 unfold hasB signB signI signs
 congr 1
 funext b
 rw [Bool.eq_iff_iff]
 simp only [beq_iff_eq,decide_eq_true_eq,Int.natCast_inj]
 constructor
 ·intro h; rw [h]
 ·intro h; exact UInt8.toNat_inj.1 h
theorem len1 (s : List UInt8) : decide ((s.length : Int) = 1) = decide (s.length = 1) := by
 rw [Bool.eq_iff_iff]; simp only [decide_eq_true_eq]; omega
theorem head0 (s : List UInt8) : s[0]? = s.head? := by cases s <;> rfl
end Go.Lx
namespace Go.Proofs.YtmapdjjigmkbfaaGreatDoor
open Go Go.Ab Go.Lx
set_option maxRecDepth 100000
section
variable {P : Prg} (hP : P.p = Tryz.prog)
include hP
theorem c_Contains : PFn P 102 fnC := by
 intro vs hp ob K hK
 simp only [fnC] at hp hK
 split at hp
 ·rename_i s t
  simp only at hK
  match t,hp with
  | [c],_ =>
   refine ⟨fun w ρ args ho hg hr => ?_⟩
   simp only [V.reps,↓reduceCtorEq,false_or,V.isAgg,Bool.false_eq_true,false_and,V.repC,D.rep,true_and,List.cons.injEq,and_true] at hr
   obtain ⟨u,us,rfl,hu,u2,us2,rfl,hu2,rfl⟩ := hr
   subst hu; subst hu2
   rw [hP]
   refine (Tryz.strings_Contains_one ⟨s.toArray⟩ c w).mono ?_
   rintro e w' ⟨rfl,rfl⟩
   refine ⟨_,_,hK,rfl,?_,Ext.refl w'⟩
   rw [rep_bool,any_index]
   rfl
 ·exact hp.elim
theorem c_Itoa (hT : Pow P) (n : Int) (h0 : 0 ≤ n) (h1 : n ≤ 9223372036854775807) {ob : Objs} {K : V → Prop} (h : K (.d (.str (Lib.itoa n)))) : PCall P 53 [.d (.int .i64 n)] ob K := by
 refine ⟨fun w ρ args ho hg hr => ?_⟩
 simp only [V.reps,↓reduceCtorEq,false_or,V.isAgg,Bool.false_eq_true,false_and,V.repC,D.rep,true_and,List.cons.injEq,and_true] at hr
 obtain ⟨u,us,rfl,hu,rfl⟩ := hr
 subst hu
 rw [hP]
 obtain ⟨T,f,hT⟩ := hT
 have hb := (ho.glb 2 _ (by rw [hg,hT])).1
 have htab : Lib.TabIs Tryz.prog w "internal/strconv.uint64pow10" .u64 Lib.pow10Tab := by
  have hn : Tryz.prog.globalNamed "internal/strconv.uint64pow10" = some 2 := by kernel_rfl
  simp only [Lib.TabIs,World.var?,hn,Option.bind_some,hb]
 refine (Tryz.strconv_Itoa n (by omega) h1 w htab).mono ?_
 rintro e w' ⟨rfl,k,os,rfl⟩
 exact ⟨_,_,h,rfl,rep_str.2 rfl,ext_grow w k os⟩
theorem c_valid (t : Tok) {ob : Objs} {K : V → Prop} (h : K (.d (.bool (validB t)))) : PCall P 50 [.d t.enc] ob K := by
 refine pcall_lift hP mixed (ds := [t.enc]) ok50 lf50 (TOk.cons (c_Name hP) (TOk.cons (c_Contains hP) TOk.nil)) ?_
 have h' : ∀ x,x = validB t → K (.d (.bool x)) := fun b e => e ▸ h
 clear h
 obtain ⟨k,s,n,i⟩ := t
 simp [Et50,Tok.enc,hasB_signs]
 refine ⟨fun h1 => h' _ ?_,fun h1 => ⟨fun h2 => h' _ ?_,fun h2 => ⟨fun h3 => ⟨fun h4 => by omega,h' _ ?_⟩,fun h3 => h' _ ?_⟩⟩⟩
 ·subst h1; simp [validB,Bool.beq_eq_decide_eq]
 ·subst h2; simp [validB]
 ·subst h3; simp [validB,Bool.beq_eq_decide_eq,len1,signB,head0]
 ·simp [validB,h1,h2,h3]
end
end Go.Proofs.YtmapdjjigmkbfaaGreatDoor
/- Plain facts on decimal digits and equal tokens. No program. -/
namespace Go.Lx
open Go Go.Ab
def Yci (n : Nat) : UInt8 := UInt8.ofNat (48 + n % 10)
theorem Yv (n : Nat) : Lib.decDigits n = (if n < 10 then [] else Lib.decDigits (n / 10)) ++ [Yci n] := by
 rw [Lib.decDigits]
 split
 ·rename_i h; simp [Yci,Nat.mod_eq_of_lt h]
 ·simp [Yci]
theorem Xge (n : Nat) : (Yci n).toNat = 48 + n % 10 := by
 have : n % 10 < 10 := Nat.mod_lt _ (by decide)
 simp [Yci,UInt8.toNat_ofNat']; omega
theorem Xp9 (n : Nat) : Lib.itoa n = Lib.decDigits n := by
 unfold Lib.itoa; rw [if_neg (by omega)]; rfl
end Go.Lx
/- Plain facts on the text of tokens. No program. -/
namespace Go.Lx
open Go Go.Ab
def Q8 (t : Tok) : List UInt8 := if t.kind = 2 then Lib.itoa t.n else t.text
def Zs : List Tok → List UInt8
 | [] => []
 | [t] => Q8 t
 | t :: r => Q8 t ++ 32 :: Zs r
def Xid (l : List Tok) : V := if l.all validB then .tup [.d (.str (Zs l)),.d (.int .i64 0)] else .tup [.d (.str []),.d (.int .i64 90)]
theorem Xfe : ∀ (l : List Tok) (t : Tok),Zs (l ++ [t]) = if l = [] then Q8 t else Zs l ++ 32 :: Q8 t
 | [],t => rfl
 | [a],t => by simp [Zs]
 | a :: b :: r,t => by
  have h := Xfe (b :: r) t
  simp only [List.cons_append,Zs] at h ⊢
  rw [h]; simp
theorem Uf (n : Nat) : (Lib.decDigits n).length ≤ n + 1 ∧ Lib.decDigits n ≠ [] := by
 refine ⟨?_,by rw [Yv]; simp⟩
 induction n using Nat.strongRecOn with
 | ind n ih =>
  rw [Yv]
  split
  ·simp
  ·have := ih (n / 10) (by omega)
   simp; omega
theorem Xe4 : ∀ (k n : Nat),n < 10 ^ (k + 1) → (Lib.decDigits n).length ≤ k + 1
 | 0,n,h => by rw [Yv,if_pos (by omega)]; simp
 | k + 1,n,h => by
  rw [Yv]
  split
  ·simp
  ·have := Xe4 k (n / 10) (by rw [Nat.pow_succ] at h; omega)
   simp; omega
theorem Xed {t : Tok} (h : validB t = true) : Q8 t ≠ [] ∧ (Q8 t).length ≤ 32 := by
 unfold validB at h
 unfold Q8
 split at h
 ·rename_i e
  rw [if_neg (by omega)]
  simp [nameB] at h
  refine ⟨fun e => ?_,by omega⟩
  simp [e] at h
 ·split at h
  ·rename_i e
   rw [if_pos e]
   simp at h
   obtain ⟨N,hN⟩ := Int.eq_ofNat_of_zero_le h.1.2
   rw [hN,Xp9]
   exact ⟨(Uf N).2,Nat.le_trans (Xe4 12 N (by omega)) (by decide)⟩
  ·rename_i e
   rw [if_neg e]
   split at h
   ·simp at h
    refine ⟨fun e => ?_,by omega⟩
    simp [e] at h
   ·cases h
theorem Xae : ∀ (l : List Tok),(∀ t ∈ l,validB t = true) → (Zs l).length ≤ 33 * l.length
 | [],_ => by simp [Zs]
 | [t],h => by have := Xed (h t (by simp)); simp [Zs]; omega
 | a :: b :: r,h => by
  have h1 := Xed (h a (by simp))
  have h2 := Xae (b :: r) (fun t ht => h t (by simp [ht]))
  simp only [Zs,List.length_append,List.length_cons] at h2 ⊢
  omega
theorem X2d {l : List Tok} (h : ∀ t ∈ l,validB t = true) (h0 : l ≠ []) : Zs l ≠ [] := by
 match l,h0 with
 | [t],_ => exact (Xed (h t (by simp))).1
 | a :: b :: r,_ => simp [Zs]
theorem Xkw {l : List Tok} {k : Nat} (hk : k < l.length) : l.take (k + 1) = l.take k ++ [l[k]] := (List.take_append_getElem hk).symm
end Go.Lx
/- Plain laws of the lexer: shifting, joining. No program. -/
namespace Go.Lx
open Go Go.Ab
theorem Xd8 (p : UInt8 → Bool) (r : List UInt8) : (r.takeWhile p).length ≤ r.length := (List.takeWhile_prefix p).length_le
theorem X29 {c : UInt8} {r : List UInt8} {n : Nat} (h : stp c r = .skip n) : n ≤ r.length := by
 unfold stp at h
 have := Xd8 V7 r
 (repeat' split at h) <;> (first | (cases h; omega) | cases h)
theorem Yav {c : UInt8} {r : List UInt8} {k m : Int} {t : List UInt8} {n : Nat} (h : stp c r = .tok k t m n) : n ≤ r.length := by
 unfold stp at h
 have h1 := Xd8 Zy r
 have h2 := Xd8 Ye r
 (repeat' split at h) <;> (first | (cases h; omega) | cases h)
theorem Va {c : UInt8} {r : List UInt8} {n off : Nat} (h : stp c r = .skip n) : Wx (c :: r) off = Wx (r.drop n) (off + n + 1) := by
 rw [Wx,h]
theorem Vl {c : UInt8} {r : List UInt8} {k m : Int} {t : List UInt8} {n off : Nat} (h : stp c r = .tok k t m n) : Wx (c :: r) off = Xsz ⟨k,t,m,off⟩ (Wx (r.drop n) (off + n + 1)) := by
 rw [Wx,h]
theorem Xag {c : UInt8} {r : List UInt8} {off : Nat} (h : stp c r = .err) : Wx (c :: r) off = .err off := by
 rw [Wx,h]
theorem Wo (off : Nat) : Wx [] off = .ok [] := by rw [Wx]
theorem Xgp {M : List UInt8 → Nat → Prop} (h0 : ∀ off,M [] off)
  (h1 : ∀ c r n off,stp c r = .skip n → n ≤ r.length → M (r.drop n) (off + n + 1) → M (c :: r) off)
  (h2 : ∀ c r k t m n off,stp c r = .tok k t m n → n ≤ r.length → M (r.drop n) (off + n + 1) → M (c :: r) off)
  (h3 : ∀ c r off,stp c r = .err → M (c :: r) off) : ∀ s off,M s off := by
 have key : ∀ N s off,s.length ≤ N → M s off := by
  intro N
  induction N with
  | zero =>
   intro s off h
   have : s = [] := List.length_eq_zero_iff.1 (by omega)
   subst this; exact h0 off
  | succ N ih =>
   intro s off h
   cases s with
   | nil => exact h0 off
   | cons c r =>
    simp at h
    have hd : ∀ n,(r.drop n).length ≤ N := fun n => by simp; omega
    cases hs : stp c r with
    | skip n => exact h1 c r n off hs (X29 hs) (ih _ _ (hd n))
    | tok k t m n => exact h2 c r k t m n off hs (Yav hs) (ih _ _ (hd n))
    | err => exact h3 c r off hs
 exact fun s off => key _ s off (Nat.le_refl _)
theorem Vv (p : UInt8 → Bool) {z : UInt8} (hz : p z = false) : ∀ (r b : List UInt8),(r ++ z :: b).takeWhile p = r.takeWhile p
 | [],b => by simp [List.takeWhile,hz]
 | c :: r,b => by
  simp only [List.cons_append,List.takeWhile_cons,Vv p hz r b]
theorem Xb5 (p : UInt8 → Bool) : ∀ (r x : List UInt8),(r.takeWhile p).length < r.length → (r ++ x).takeWhile p = r.takeWhile p
 | [],x,h => by simp at h
 | c :: r,x,h => by
  simp only [List.cons_append,List.takeWhile_cons] at h ⊢
  split
  ·rename_i hc
   rw [hc] at h
   simp at h
   rw [Xb5 p r x h]
  ·rfl
theorem Z2 (p : UInt8 → Bool) : ∀ (r : List UInt8) (j : Nat),(r.takeWhile p).length ≤ j → (r.take j).takeWhile p = r.takeWhile p
 | [],j,_ => by simp
 | c :: r,0,h => by
  simp only [List.takeWhile_cons] at h ⊢
  split at h
  ·simp at h
  ·rename_i hc; simp [hc]
 | c :: r,j + 1,h => by
  simp only [List.take_succ_cons,List.takeWhile_cons] at h ⊢
  split
  ·rename_i hc
   rw [hc] at h
   simp at h
   rw [Z2 p r j h]
  ·rfl
def X8i (c : UInt8) (r : List UInt8) : Prop := c = 47 ∧ r.head? = some 47
theorem Xy9 {c : UInt8} {r : List UInt8} (h : X8i c r) : stp c r = .skip (r.takeWhile V7).length := by
 obtain ⟨rfl,h⟩ := h
 simp [stp,h,Uz,Xd5]
theorem Yfx {c : UInt8} {r more : List UInt8} (h : (r.takeWhile V7).length < r.length ∨ ¬ X8i c r) : stp c (r ++ 32 :: more) = stp c r := by
 have h1 : (r ++ 32 :: more).takeWhile Zy = r.takeWhile Zy := Vv _ (by decide) r more
 have h2 : (r ++ 32 :: more).takeWhile Ye = r.takeWhile Ye := Vv _ (by decide) r more
 have h4 : ((r ++ 32 :: more).head? = some 47) = (r.head? = some 47) := by cases r <;> simp
 unfold stp
 rw [h1,h2]
 simp only [h4]
 rcases h with h | h
 ·rw [Xb5 _ _ _ h]
 ·have hf : ¬ (c = 47 ∧ r.head? = some 47) := h
  simp only [if_neg hf]
theorem Xh9 {c : UInt8} {r : List UInt8} {j n : Nat} (hn : n ≤ j) (h : stp c r = .skip n ∨ ∃ k t m,stp c r = .tok k t m n) : stp c (r.take j) = stp c r := by
 have hh : ¬ X8i c r → ¬ (c = 47 ∧ (r.take j).head? = some 47) := fun hc ⟨e1,e2⟩ => hc ⟨e1,by
  cases r with
  | nil => simp at e2
  | cons a r => cases j with
   | zero => simp at e2
   | succ j => simpa using e2⟩
 by_cases hc : X8i c r
 ·have hs := Xy9 hc
  have hn' : (r.takeWhile V7).length = n := by
   rcases h with h | ⟨_,_,_,h⟩
   ·rw [hs] at h; cases h; rfl
   ·rw [hs] at h; cases h
  have hc' : X8i c (r.take j) := by
   refine ⟨hc.1,?_⟩
   cases r with
   | nil => simpa using hc.2
   | cons a r =>
    have ha : a = 47 := by simpa using hc.2
    subst ha
    have : V7 47 = true := by decide
    simp [List.takeWhile_cons,this] at hn'
    cases j with
    | zero => omega
    | succ j => simp
  rw [hs,Xy9 hc',Z2 _ _ _ (by omega)]
 ·have hf : ¬ (c = 47 ∧ r.head? = some 47) := hc
  unfold stp at h ⊢
  rw [if_neg (hh hc)]
  rw [if_neg hf] at h ⊢
  split
  ·rfl
  ·rename_i h1
   rw [if_neg h1] at h
   split
   ·rename_i h2
    rw [if_pos h2] at h
    split at h
    ·simp at h
     obtain ⟨_,_,_,_,_,_,h⟩ := h
     rw [Z2 _ _ _ (by omega)]
    ·simp at h
   ·rename_i h2
    rw [if_neg h2] at h
    split
    ·rename_i h3
     rw [if_pos h3] at h
     split at h
     ·simp at h
      obtain ⟨_,_,_,_,_,_,h⟩ := h
      rename_i h4
      rw [Z2 _ _ _ (by omega),h4]
     ·simp at h
    ·rfl
theorem Xr6 : ∀ s off,∀ e,Wx s off = .err e → off ≤ e ∧ e - off < s.length ∧ (∃ l,Wx (s.take (e - off)) off = .ok l) ∧ ∀ o,Wx (s.drop (e - off)) o = .err o := by
 apply Xgp
 ·intro off e h; rw [Wo] at h; cases h
 ·intro c r n off h hn ih e he
  rw [Va h] at he
  obtain ⟨h1,h2,⟨l,h3⟩,h4⟩ := ih e he
  obtain ⟨m,hm⟩ : ∃ m,e = off + n + 1 + m := ⟨e - (off + n + 1),by omega⟩
  subst hm
  have e1 : off + n + 1 + m - off = m + n + 1 := by omega
  have e2 : off + n + 1 + m - (off + n + 1) = m := by omega
  rw [e2] at h2 h3 h4
  rw [e1]
  simp at h2
  refine ⟨by omega,by simp; omega,⟨l,?_⟩,fun o => ?_⟩
  ·rw [List.take_succ_cons,Va ((Xh9 (by omega) (.inl h)).trans h),List.drop_take]
   simpa using h3
  ·rw [List.drop_succ_cons,Nat.add_comm,← List.drop_drop]; exact h4 o
 ·intro c r k t m' n off h hn ih e he
  rw [Vl h] at he
  cases hr : Wx (r.drop n) (off + n + 1) with
  | ok l => rw [hr] at he; cases he
  | err e' =>
   rw [hr] at he
   obtain rfl : e' = e := by simpa [Xsz] using he
   obtain ⟨h1,h2,⟨l,h3⟩,h4⟩ := ih e' hr
   obtain ⟨m,hm⟩ : ∃ m,e' = off + n + 1 + m := ⟨e' - (off + n + 1),by omega⟩
   subst hm
   have e1 : off + n + 1 + m - off = m + n + 1 := by omega
   have e2 : off + n + 1 + m - (off + n + 1) = m := by omega
   rw [e2] at h2 h3 h4
   rw [e1]
   simp at h2
   refine ⟨by omega,by simp; omega,⟨⟨k,t,m',off⟩ :: l,?_⟩,fun o => ?_⟩
   ·rw [List.take_succ_cons,Vl ((Xh9 (by omega) (.inr ⟨_,_,_,h⟩)).trans h),List.drop_take]
    have : m + n - n = m := by omega
    rw [this,h3]; rfl
   ·rw [List.drop_succ_cons,Nat.add_comm,← List.drop_drop]; exact h4 o
 ·intro c r off h e he
  rw [Xag h] at he
  cases he
  refine ⟨Nat.le_refl _,by simp,⟨[],by simp [Wo]⟩,fun o => ?_⟩
  simp only [Nat.sub_self,List.drop_zero]
  exact Xag h
end Go.Lx
/- Plain laws of the lexer: places, names. No program. -/
namespace Go.Lx
open Go Go.Ab
theorem Ut {p : UInt8 → Bool} : ∀ {r : List UInt8},(∀ x ∈ r,p x = true) → r.takeWhile p = r
 | [],_ => rfl
 | c :: r,h => by
  rw [List.takeWhile_cons,if_pos (h c (by simp)),Ut (fun x hx => h x (by simp [hx]))]
theorem X28 {c : UInt8} {r : List UInt8} (hc : Zk c = true) (hr : ∀ x ∈ r,Zy x = true) (hl : r.length + 1 ≤ 32) : stp c r = .tok 1 (c :: r) 0 r.length := by
 have h1 : r.takeWhile Zy = r := by
  exact Ut hr
 have h2 : Uz c = false := by
  simp only [Zk,Uz,Z8,Xd5,decide_eq_true_eq,decide_eq_false_iff_not] at hc ⊢; omega
 have h3 : ¬ (c = 47 ∧ r.head? = some 47) := by
  rintro ⟨rfl,_⟩; revert hc; decide
 unfold stp
 rw [h2,if_neg (by simp),if_neg h3,if_pos hc,h1,if_pos hl]
theorem Xxs {s : List UInt8} : nameB s = true ↔ ∃ c r,s = c :: r ∧ Zk c = true ∧ (∀ x ∈ r,Zy x = true) ∧ r.length + 1 ≤ 32 := by
 cases s with
 | nil => simp [nameB]
 | cons c r =>
  have hp : Zk c = true → Zy c = true := by
   intro h; simp only [Zk,Zy,Xj7] at h ⊢; simp [h]
  simp only [nameB,List.length_cons,List.getD_cons_zero,Bool.and_eq_true,decide_eq_true_eq,List.all_cons,List.all_eq_true,List.cons.injEq,Zk] at *
  constructor
  ·rintro ⟨⟨⟨_,h1⟩,h2⟩,h3,h4⟩
   exact ⟨c,r,⟨rfl,rfl⟩,h2,h4,h1⟩
  ·rintro ⟨c',r',⟨rfl,rfl⟩,h2,h4,h1⟩
   exact ⟨⟨⟨by omega,h1⟩,h2⟩,hp h2,h4⟩
end Go.Lx
/- The parser of questions as a plain function of tokens; what is printed is parsed back. No program. -/
namespace Go.Sx
open Go Go.Ab Go.Lx
abbrev Ybm : B := [97,115,107]
abbrev Ybn : B := [102,111,114]
abbrev Jr : B := [102,114,111,109]
abbrev Xec : B := [111,116,104,101,114]
abbrev Ya1 : B := [97,108,108]
abbrev X58 : B := [97,110,121]
abbrev Jf : B := [108,101,97,115,116]
abbrev Xzh : B := [104,97,115]
def Xil (ts : List Tok) : Bool := Xf 3 [46] ts.tail
def Xj8 : M RTerm := do let a ← Ws; Yh [46]; let b ← Ws; pure ⟨a,b,0,0,0⟩
def Xim : M Int := do let t ← Wf 2 []; pure t.n
def Xbj : M RTerm := ifM (Xf 2 []) (do let n ← Xim; pure ⟨[],[],-1,0,n⟩) Xj8
def opQ : M Int := do
 let b ← Xv 3 [61]
 if b then pure 1 else do
  let b ← Xv 3 [60]
  if b then do
   let b ← Xv 3 [61]
   pure (if b then 3 else 2)
  else do Yh [33]; Yh [61]; pure 4
def Jh : M RForm := do let a ← Xbj; let o ← opQ; let b ← Xbj; pure (.mk 5 0 [] ⟨o,a,b⟩)
def Xzp : M RForm := do let a ← Ws; pure (.mk 4 0 [] ⟨0,⟨a,[],0,0,0⟩,Xo0⟩)
def Q7 {α : Type} (m : M α) : M α := fun ts => m ts.tail
def Q5 (ts : List Tok) : Bool := Xf 1 [] ts && !Xil ts
def Ww (w : B) (ts : List Tok) : Bool := decide ((ts.headD default).text = w)
mutual
def Zw : Nat → M RForm
 | 0 => fail 0
 | n + 1 => ifM Q5
  (ifM (Ww Ya1) (Q7 do Yh [123]; let l ← Yq n; pure (.mk 1 0 l Yr))
  (ifM (Ww X58) (Q7 do Yh [123]; let l ← Yq n; pure (.mk 2 0 l Yr))
  (ifM (Ww Jf) (Q7 do let k ← Xim; Yh [123]; let l ← Yq n; pure (.mk 3 k l Yr))
  (ifM (Ww Xzh) (Q7 Xzp) Jh)))) Jh
def Yq : Nat → M (List RForm)
 | 0 => fail 0
 | n + 1 => do
  let b ← Xv 3 [125]
  if b then pure [] else do
   let f ← Zw n
   Yh [59]
   let l ← Yq n
   pure (f :: l)
end
def Ul (ts : List Tok) : Bool := Xf 1 Jr ts && !Xil ts
def Xzf : M RVar := do Wu Jr; let a ← Ws; let b ← Ws; let c ← Xv 1 Xec; Yh [59]; pure ⟨a,b,0,c⟩
def Z3 : Nat → M (List RVar)
 | 0 => fail 0
 | n + 1 => ifM Ul (do let v ← Xzf; let l ← Z3 n; pure (v :: l)) (pure [])
def X1h : M Unit := fun ts => if ts = [] then .ok () [] else .err ts 100
def Wy (n : Nat) : M (RQ × B) := do
 Wu Ybm
 let a ← Ws
 Wu Ybn
 let p ← Ws
 Yh [123]
 let vs ← Z3 n
 let f ← Zw n
 Yh [59]
 Yh [125]
 X1h
 pure (⟨a,0,vs,f⟩,p)
def fieldsOf (y : RSrc) (v : RVar) : List RField := match y.schemas[v.schema.toNat]? with | some c => c.fields | none => []
def Xow (y : RSrc) (vs : List RVar) (t : RTerm) : Option RTerm :=
 if t.name = [] then some t else
  match vs[(Xi RVar.name vs t.name 0).toNat]? with
  | none => none
  | some v => if Xi RVar.name vs t.name 0 < 0 ∨ Xi RField.name (fieldsOf y v) t.path 0 < 0 then none
   else some ⟨t.name,t.path,Xi RVar.name vs t.name 0,Xi RField.name (fieldsOf y v) t.path 0,t.n⟩
mutual
def Xb3 (y : RSrc) (vs : List RVar) : RForm → Option RForm
 | .mk op n k a =>
  if op = 4 then (if Xi RVar.name vs a.a.name 0 < 0 then none else some (.mk 4 (Xi RVar.name vs a.a.name 0) k Yr))
  else if op = 5 then (match Xow y vs a.a,Xow y vs a.b with
   | some x,some z => some (.mk 5 n k ⟨a.op,x,z⟩)
   | _,_ => none)
  else (match U6 y vs k with
   | some l => some (.mk op n l a)
   | none => none)
def U6 (y : RSrc) (vs : List RVar) : List RForm → Option (List RForm)
 | [] => some []
 | f :: r => match Xb3 y vs f,U6 y vs r with
  | some g,some l => some (g :: l)
  | _,_ => none
end
def Je (t : RTerm) : RTerm := if t.name = [] then ⟨[],[],-1,0,t.n⟩ else ⟨t.name,t.path,0,0,0⟩
mutual
def RForm.strip (vs : List RVar) : RForm → RForm
 | .mk op n k a =>
  if op = 4 then .mk 4 0 [] ⟨0,⟨Ya0 vs n,[],0,0,0⟩,Xo0⟩
  else if op = 5 then .mk 5 0 [] ⟨a.op,Je a.a,Je a.b⟩
  else if op = 3 then .mk 3 n (RForm.stripL vs k) Yr
  else .mk op 0 (RForm.stripL vs k) Yr
def RForm.stripL (vs : List RVar) : List RForm → List RForm
 | [] => []
 | f :: r => f.strip vs :: RForm.stripL vs r
end
def Xej (v : RVar) : List Tok := nmT Jr :: nmT v.name :: nmT v.kind :: ((if v.other then [nmT Xec] else []) ++ [sgT [59]])
def Xb1 (q : RQ) (p : B) : List Tok := nmT Ybm :: nmT q.name :: nmT Ybn :: nmT p :: sgT [123] :: (q.vars.flatMap Xej ++ (Zi q.vars q.form ++ [sgT [59],sgT [125]]))
@[simp] theorem k_name (s : B) (p : List Tok) : Ws (nmT s :: p) = .ok s p := by simp [Ws,Xd,Wf,Xf,nmT]
@[simp] theorem k_word (s : B) (p : List Tok) : Wu s (nmT s :: p) = .ok () p := by simp [Wu,Xd,Wf,Xf,nmT]
@[simp] theorem k_sign (s : B) (p : List Tok) : Yh s (sgT s :: p) = .ok () p := by simp [Yh,Xd,Wf,Xf,sgT]
@[simp] theorem k_num (n : Int) (p : List Tok) : Xim (nuT n :: p) = .ok n p := by simp [Xim,Xd,Wf,Xf,nuT]
@[simp] theorem k_acc_s (s t : B) (p : List Tok) : Xv 3 s (sgT t :: p) = if s = [] ∨ t = s then .ok true p else .ok false (sgT t :: p) := by
 by_cases h : s = [] ∨ t = s <;> simp [Xv,Xf,sgT,h]
@[simp] theorem k_acc_w (s t : B) (p : List Tok) : Xv 1 s (nmT t :: p) = if s = [] ∨ t = s then .ok true p else .ok false (nmT t :: p) := by
 by_cases h : s = [] ∨ t = s <;> simp [Xv,Xf,nmT,h]
@[simp] theorem k_acc_sn (s t : B) (p : List Tok) : Xv 1 s (sgT t :: p) = .ok false (sgT t :: p) := by simp [Xv,Xf,sgT]
@[simp] theorem k_acc_sw (s t : B) (p : List Tok) : Xv 3 s (nmT t :: p) = .ok false (nmT t :: p) := by simp [Xv,Xf,nmT]
@[simp] theorem k_acc_us (s : B) (n : Int) (p : List Tok) : Xv 3 s (nuT n :: p) = .ok false (nuT n :: p) := by simp [Xv,Xf,nuT]
@[simp] theorem k_next_w (s t : B) (p : List Tok) : Xf 1 s (nmT t :: p) = decide (s = [] ∨ t = s) := by rw [Bool.eq_iff_iff]; simp [Xf,nmT]
@[simp] theorem k_next_wn (s : B) (n : Int) (p : List Tok) : Xf 1 s (nuT n :: p) = false := by simp [Xf,nuT]
@[simp] theorem k_next_s (s t : B) (p : List Tok) : Xf 3 s (sgT t :: p) = decide (s = [] ∨ t = s) := by rw [Bool.eq_iff_iff]; simp [Xf,sgT]
@[simp] theorem k_next_sw (s t : B) (p : List Tok) : Xf 3 s (nmT t :: p) = false := by simp [Xf,nmT]
@[simp] theorem k_next_sn (s : B) (n : Int) (p : List Tok) : Xf 3 s (nuT n :: p) = false := by simp [Xf,nuT]
@[simp] theorem k_next_nw (s t : B) (p : List Tok) : Xf 2 s (nmT t :: p) = false := by simp [Xf,nmT]
@[simp] theorem k_next_nn (n : Int) (p : List Tok) : Xf 2 [] (nuT n :: p) = true := by simp [Xf,nuT]
theorem X95 (t : RTerm) (p : List Tok) : Xbj (Y0 t ++ p) = .ok (Je t) p := by
 by_cases h : t.name = []
 ·simp [Y0,Je,h,Xbj,ifM,Xd]
 ·simp [Y0,Je,h,Xbj,ifM,Xj8,Xd]
theorem Yi9 {o : Int} (h : 1 ≤ o ∧ o ≤ 4) (t : Tok) (ht : ∀ p,Xf 3 [61] (t :: p) = false) (p : List Tok) : opQ (opT o ++ t :: p) = .ok o (t :: p) := by
 have ha : Xv 3 [61] (t :: p) = .ok false (t :: p) := by simp [Xv,ht]
 have h4 : o = 1 ∨ o = 2 ∨ o = 3 ∨ o = 4 := by omega
 rcases h4 with rfl | rfl | rfl | rfl <;> simp [opT,opQ,Xd,ha]
theorem Q1 (t : RTerm) : ∃ x r,Y0 t = x :: r ∧ (∀ p,Xf 3 [61] (x :: p) = false) ∧ (∀ s p,Xv 3 s (x :: p) = .ok false (x :: p)) ∧ (∀ p,Xf 1 [] (x :: (r ++ p)) = true → Xil (x :: (r ++ p)) = true) := by
 by_cases h : t.name = []
 ·exact ⟨nuT t.n,[],by simp [Y0,h],by simp,by simp,by simp⟩
 ·exact ⟨nmT t.name,[sgT [46],nmT t.path],by simp [Y0,h],by simp,by simp,by simp [Xil]⟩
theorem X93 {a : RAtom} (h : 1 ≤ a.op ∧ a.op ≤ 4) (p : List Tok) : Jh (Y0 a.a ++ (opT a.op ++ (Y0 a.b ++ p))) = .ok (.mk 5 0 [] ⟨a.op,Je a.a,Je a.b⟩) p := by
 obtain ⟨x,r,e,hx,_⟩ := Q1 a.b
 have ho : opQ (opT a.op ++ (Y0 a.b ++ p)) = .ok a.op (Y0 a.b ++ p) := by rw [e]; exact Yi9 h x hx _
 simp [Jh,Xd,X95,ho]
mutual
def RForm.pr (vs : List RVar) : RForm → Prop
 | .mk op n k a => (op = 1 ∧ RForm.prL vs k) ∨ (op = 2 ∧ RForm.prL vs k) ∨ (op = 3 ∧ RForm.prL vs k) ∨ op = 4 ∨ (op = 5 ∧ 1 ≤ a.op ∧ a.op ≤ 4)
def RForm.prL (vs : List RVar) : List RForm → Prop
 | [] => True
 | f :: r => f.pr vs ∧ RForm.prL vs r
end
theorem Xu9 {vs : List RVar} {f : RForm} (h : f.pr vs) : ∃ x r,Zi vs f = x :: r ∧ ∀ s p,Xv 3 s (x :: p) = .ok false (x :: p) := by
 obtain ⟨op,n,k,a⟩ := f
 rw [RForm.pr] at h
 rw [Zi]
 rcases h with ⟨rfl,_⟩ | ⟨rfl,_⟩ | ⟨rfl,_⟩ | rfl | ⟨rfl,_,_⟩
 ·exact ⟨_,_,by simp; exact ⟨rfl,rfl⟩,by simp⟩
 ·exact ⟨_,_,by simp; exact ⟨rfl,rfl⟩,by simp⟩
 ·exact ⟨_,_,by simp; exact ⟨rfl,rfl⟩,by simp⟩
 ·exact ⟨_,_,by simp; exact ⟨rfl,rfl⟩,by simp⟩
 ·obtain ⟨x,r,e,_,hx,_⟩ := Q1 a.a
  exact ⟨x,_,by simp [e]; rfl,hx⟩
mutual
theorem X3y (vs : List RVar) : ∀ (f : RForm),f.pr vs → ∀ (n : Nat) (p : List Tok),(Zi vs f).length ≤ n → Zw n (Zi vs f ++ p) = .ok (f.strip vs) p
 | .mk op m k a,h,n,p,hn => by
  rw [RForm.pr] at h
  rw [Zi] at hn ⊢
  rw [RForm.strip]
  rcases h with ⟨rfl,hk⟩ | ⟨rfl,hk⟩ | ⟨rfl,hk⟩ | rfl | ⟨rfl,ha⟩
  ·simp at hn
   obtain ⟨j,rfl⟩ : ∃ j,n = j + 1 := ⟨n - 1,by omega⟩
   have hl := Xqa vs k hk j p (by omega)
   simp [Zw,ifM,Q5,Xil,Ww,nmT,Xf,sgT,Q7,Xd] at hl ⊢
   simp [Yh,Wf,Xf,Xd,hl]
  ·simp at hn
   obtain ⟨j,rfl⟩ : ∃ j,n = j + 1 := ⟨n - 1,by omega⟩
   have hl := Xqa vs k hk j p (by omega)
   simp [Zw,ifM,Q5,Xil,Ww,nmT,Xf,sgT,Q7,Xd] at hl ⊢
   simp [Yh,Wf,Xf,Xd,hl]
  ·simp at hn
   obtain ⟨j,rfl⟩ : ∃ j,n = j + 1 := ⟨n - 1,by omega⟩
   have hl := Xqa vs k hk j p (by omega)
   simp [Zw,ifM,Q5,Xil,Ww,nmT,nuT,Xf,sgT,Q7,Xd] at hl ⊢
   simp [Xim,Yh,Wf,Xf,Xd,hl]
  ·simp at hn
   obtain ⟨j,rfl⟩ : ∃ j,n = j + 1 := ⟨n - 1,by omega⟩
   simp [Zw,ifM,Q5,Xil,Ww,nmT,Xf,Q7]
   simp [Xzp,Ws,Wf,Xf,Xd]
  ·obtain ⟨x,r,e,_,_,hx⟩ := Q1 a.a
   have hn1 : 1 ≤ n := by simp [e] at hn; omega
   obtain ⟨j,rfl⟩ : ∃ j,n = j + 1 := ⟨n - 1,by omega⟩
   have hr : Q5 (Y0 a.a ++ (opT a.op ++ (Y0 a.b ++ p))) = false := by
    have := hx (opT a.op ++ (Y0 a.b ++ p))
    rw [e]
    simp only [List.cons_append,Q5]
    cases hb : Xf 1 [] (x :: (r ++ (opT a.op ++ (Y0 a.b ++ p)))) with
    | false => rfl
    | true => rw [this hb]; rfl
   have ha' := X93 (a := a) ha p
   simp [Zw,ifM,hr,ha']
theorem Xqa (vs : List RVar) : ∀ (l : List RForm),RForm.prL vs l → ∀ (n : Nat) (p : List Tok),(Yw vs l).length + 1 ≤ n → Yq n (Yw vs l ++ sgT [125] :: p) = .ok (RForm.stripL vs l) p
 | [],_,n,p,hn => by
  obtain ⟨j,rfl⟩ : ∃ j,n = j + 1 := ⟨n - 1,by omega⟩
  simp [Yq,Yw,RForm.stripL,Xd]
 | f :: r,h,n,p,hn => by
  rw [RForm.prL] at h
  rw [Yw] at hn ⊢
  rw [RForm.stripL]
  obtain ⟨j,rfl⟩ : ∃ j,n = j + 1 := ⟨n - 1,by omega⟩
  simp at hn
  obtain ⟨x,s,e,hx⟩ := Xu9 h.1
  have hf := X3y vs f h.1 j (sgT [59] :: (Yw vs r ++ sgT [125] :: p)) (by omega)
  have hl := Xqa vs r h.2 j p (by omega)
  have ha : Xv 3 [125] (Zi vs f ++ sgT [59] :: (Yw vs r ++ sgT [125] :: p)) = .ok false (Zi vs f ++ sgT [59] :: (Yw vs r ++ sgT [125] :: p)) := by
   rw [e]; exact hx _ _
  simp only [List.append_assoc,List.cons_append]
  simp [Yq,Xd,ha,hf,hl]
end
theorem X3z : ∀ (vs : List RVar) (n : Nat) (p : List Tok),Ul p = false → vs.length + 1 ≤ n → Z3 n (vs.flatMap Xej ++ p) = .ok (vs.map fun v => ⟨v.name,v.kind,0,v.other⟩) p
 | [],n,p,hp,hn => by
  obtain ⟨j,rfl⟩ : ∃ j,n = j + 1 := ⟨n - 1,by simp at hn; omega⟩
  simp [Z3,ifM,hp]
 | v :: r,n,p,hp,hn => by
  obtain ⟨j,rfl⟩ : ∃ j,n = j + 1 := ⟨n - 1,by simp at hn; omega⟩
  have ih := X3z r j p hp (by simpa using hn)
  have hf : ∀ q,Ul (nmT Jr :: nmT v.name :: q) = true := fun q => by simp [Ul,Xil]
  cases ho : v.other <;> simp [Z3,ifM,Xej,ho,hf,Xzf,Xd,ih]
theorem Xvd {vs : List RVar} {f : RForm} (h : f.pr vs) (p : List Tok) : Ul (Zi vs f ++ p) = false := by
 obtain ⟨op,n,k,a⟩ := f
 rw [RForm.pr] at h
 rw [Zi]
 rcases h with ⟨rfl,_⟩ | ⟨rfl,_⟩ | ⟨rfl,_⟩ | rfl | ⟨rfl,_,_⟩
 ·simp [Ul]
 ·simp [Ul]
 ·simp [Ul]
 ·simp [Ul]
 ·obtain ⟨x,r,e,_,_,hx⟩ := Q1 a.a
  have := hx (opT a.op ++ (Y0 a.b ++ p))
  simp [e,Ul]
  intro h1
  refine this ?_
  cases hk : Xf 1 [] (x :: (r ++ (opT a.op ++ (Y0 a.b ++ p)))) with
  | true => rfl
  | false =>
   simp [Xf] at h1 hk
   exact absurd h1.1 hk
theorem X94 {q : RQ} (hf : q.form.pr q.vars) (p : B) (n : Nat) (hn : (Xb1 q p).length ≤ n) : Wy n (Xb1 q p) = .ok (⟨q.name,0,q.vars.map fun v => ⟨v.name,v.kind,0,v.other⟩,q.form.strip q.vars⟩,p) [] := by
 have hfm : ∀ vs : List RVar,vs.length ≤ (vs.flatMap Xej).length := by
  intro vs
  induction vs with
  | nil => simp
  | cons v r ih => simp only [List.flatMap_cons,List.length_append,List.length_cons,Xej]; omega
 have h1 := hfm q.vars
 simp only [Xb1,List.length_cons,List.length_append,List.length_nil] at hn
 have hv := X3z q.vars n (Zi q.vars q.form ++ [sgT [59],sgT [125]]) (Xvd hf _) (by omega)
 have hq := X3y q.vars q.form hf n [sgT [59],sgT [125]] (by omega)
 simp [Xb1,Wy,Xd,hv,hq,X1h]
end Go.Sx
/- Equations of slices of arrays and of package arrays. Over any program; no condition. -/
namespace Go.Ab
open Go
section
variable {P : Prg} {sl : Xb} {ob : Objs} {KO PO : V → Objs → Prop} {T : Tab} {z n : Nat} {K : V → Prop}
@[simp] theorem iwp_blv (E sz : Nat) (z : List D) (Xg : List (Nat × A)) : I.wp P sl ob KO PO (.blv E sz z Xg) = Jt (z.map .d) (Xg.map fun (i,x) => (i,x.ev sl)) fun ks => KO (.sl (fresh ob) ks.length) ((fresh ob,.vec E sz ks) :: ob) := by simp only [I.wp]
@[simp] theorem iwp_apv (E sz B : Nat) (x y : A) : I.wp P sl ob KO PO (.apv E sz B x y) = Ybj sz (fun ys => Xps E sz B ob ys KO (x.ev sl)) ob (y.ev sl) := by simp only [I.wp]
@[simp] theorem apvK_sl (E sz B id n : Nat) (ys : List V) : Xps E sz B ob ys KO (.sl id n) = Xem id E sz B n ob ys KO (lookO ob id) := by simp only [Xps]
@[simp] theorem Xt8 (E sz B id n E' sz' : Nat) (ys xs : List V) : Xem id E sz B n ob ys KO (some (.vec E' sz' xs)) = (E' = E ∧ sz' = sz ∧ n = xs.length ∧ (2 * (xs.length + ys.length) + 192) * B ≤ 281474976710656 ∧ KO (.sl id (xs.length + ys.length)) (setO ob id (.vec E sz (xs ++ ys)))) := by simp only [Xem]
@[simp] theorem Xt7 (E sz B id n E' sz' : Nat) (ys : List V) (xs : List D) : Xem id E sz B n ob ys KO (some (.arr E' sz' xs)) = (E' = E ∧ sz' = sz ∧ n = xs.length ∧ (2 * (xs.length + ys.length) + 192) * B ≤ 281474976710656 ∧ KO (.sl id (xs.length + ys.length)) (setO ob id (.vec E sz (xs.map .d ++ ys)))) := by simp only [Xem]
end
end Go.Ab
/- What a reading call of the parser of questions leaves. No program. -/
namespace Go.Sx
open Go Go.Ab Go.Lx
@[simp] theorem succ_ne (n : Nat) : ((n : Int) + 1 = 0) = False := by simp; omega
def atI (en : Int) : List Tok → Int
 | [] => en
 | x :: _ => x.at_
abbrev pv (ts : List Tok) (en : Int) (S : V) : V := .agg [.d (.list 4 (ts.map Tok.enc)),.d (.int .i64 en),S]
abbrev Vt (en : Int) (ts : List Tok) (_ : Int) : D := .iface 84 (.int .i64 (atI en ts))
abbrev pb (ts : List Tok) (en : Int) (S : V) : Ob := .box 90 (pv ts en S)
def PK {α : Type} (K : Out → Objs → Prop) (ob : Objs) (p : Nat) (en : Int) (S : V) (v : α → V) : R α → Prop
 | .ok a ts => K (.ret (v a)) (setO ob p (pb ts en S))
 | .err ts e => K (.panic (.d (Vt en ts e))) (setO ob p (pb ts en S))
section
variable {α β : Type} {K : Out → Objs → Prop} {ob : Objs} {p : Nat} {en : Int} {S : V} {v : α → V}
@[simp] theorem PK_ok (a : α) (ts : List Tok) : PK K ob p en S v (.ok a ts) = K (.ret (v a)) (setO ob p (pb ts en S)) := rfl
@[simp] theorem PK_err (e : Int) (ts : List Tok) : PK K ob p en S v (.err ts e) = K (.panic (.d (Vt en ts e))) (setO ob p (pb ts en S)) := rfl
theorem PK.bind {K' : Out → Objs → Prop} {ob1 : Objs} {v' : β → V} {m : M α} {f : α → M β} {ts : List Tok} (h : PK K ob p en S v' ((m >>= f) ts))
  (he : ∀ ts' e,K (.panic (.d (Vt en ts' e))) (setO ob p (pb ts' en S)) → K' (.panic (.d (Vt en ts' e))) (setO ob1 p (pb ts' en S)))
  (hk : ∀ a ts',m ts = .ok a ts' → PK K ob p en S v' (f a ts') → K' (.ret (v a)) (setO ob1 p (pb ts' en S))) : PK K' ob1 p en S v (m ts) := by
 rw [Xd] at h
 cases hm : m ts with
 | ok a ts' => rw [hm] at h; exact hk a ts' hm h
 | err ts' e => rw [hm] at h; exact he ts' e h
end
theorem PK.tail {α : Type} {K K' : Out → Objs → Prop} {ob ob1 : Objs} {p : Nat} {en : Int} {S : V} {v : α → V} {v' : α → V} {m : M α} {ts : List Tok} (h : PK K ob p en S v' (m ts))
  (he : ∀ ts' e,K (.panic (.d (Vt en ts' e))) (setO ob p (pb ts' en S)) → K' (.panic (.d (Vt en ts' e))) (setO ob1 p (pb ts' en S)))
  (hk : ∀ a ts',m ts = .ok a ts' → K (.ret (v' a)) (setO ob p (pb ts' en S)) → K' (.ret (v a)) (setO ob1 p (pb ts' en S))) : PK K' ob1 p en S v (m ts) := by
 cases hm : m ts with
 | ok a ts' => rw [hm] at h; exact hk a ts' hm h
 | err ts' e => rw [hm] at h; exact he ts' e h
theorem Wh {q : Nat → Bool} : ∀ {ob : Objs} {k E : Nat} {v : V},noMenO q ob = true → lookO ob k = some (.box E v) → V.men q v = false
 | (j,o) :: r,k,E,v,h,hl => by
  simp only [lookO] at hl
  split at hl
  ·cases hl
   simp only [noMenO,Bool.and_eq_true,Bool.not_eq_true'] at h
   exact h.1
  ·refine Wh (ob := r) ?_ hl
   cases o <;> simp_all [noMenO]
theorem Xr {ob ob2 : Objs} {p : Nat} {ts ts' : List Tok} {en : Int} {S : V} (hp : lookO ob p = some (pb ts en S)) (hm : ∀ kp,noMenO (young (fresh ob) kp) ob = true) {K : Objs → Prop} {vs : List V} (h : K (setO ob p (pb ts' en S))) (hv : V.mens (young (fresh ob) []) vs = false) (hd : Xy (young (fresh ob) []) ob2 = setO ob p (pb ts' en S)) : Xx (fresh ob) K vs ob2 := by
 refine ⟨[],hv,?_,?_⟩
 ·rw [hd]
  refine noMenO_set_box _ _ _ _ _ (hm _) ?_
  have := Wh (hm []) hp
  simpa [pv] using this
 ·rw [hd]; exact h
end Go.Sx
/- Contracts: the parser's small readers. Condition: the program is the seat's. -/
namespace Go.Proofs.YtmapdjjigmkbfaaGreatDoor
open Go Go.Ab Go.Lx Go.Sx
set_option maxRecDepth 100000
section
variable {P : Prg} (hP : P.p = Tryz.prog) {ob : Objs} {p : Nat} {ts : List Tok} {en : Int} {S : V} (hS : V.allD [S] = none) (hp : lookO ob p = some (pb ts en S)) {K : Out → Objs → Prop}
include hP hS hp
theorem X59 (e : Int) (h : K (.panic (.d (Vt en ts e))) (setO ob p (pb ts en S))) : ACall P 69 [.ptr p []] ob K := by
 refine acall_lift hP mixed Yo7 Ysl TOk.nil fun _ hm => ?_
 cases ts with
 | nil =>
  simp [Yky,hp]
  have h' : K (.panic (.d (.iface 84 (.int .i64 en)))) (setO ob p (pb [] en S)) := h
  exact Xr hp hm h' (by simp) (by simp [Ze hp])
 | cons t ts =>
  simp [Yky,X7h,hp,Tok.enc]
  have h' : K (.panic (.d (.iface 84 (.int .i64 t.at_)))) (setO ob p (pb (t :: ts) en S)) := h
  exact Xr hp hm h' (by simp) (by simp [Ze hp])
theorem Xk2 (k : Int) (t : B) (h : K (.ret (.d (.bool (Xf k t ts)))) (setO ob p (pb ts en S))) : ACall P 66 [.ptr p [],.d (.int .i64 0),.d (.int .i64 k),.d (.str t)] ob K := by
 refine acall_lift hP mixed Ykp Yl4 TOk.nil fun _ hm => ?_
 cases ts with
 | nil =>
  simp [Ybs,hp]
  exact Xr hp hm (by simpa [Xf] using h) (by simp) (by simp [Ze hp])
 | cons x ts =>
  simp [Ybs,hp,Tok.enc]
  exact Xr hp hm (by simpa [Xf] using h) (by simp) (by simp [Ze hp])
theorem Xzj (k : Int) (t : B) (h : K (.ret (.d (.bool (Xf k t ts.tail)))) (setO ob p (pb ts en S))) : ACall P 66 [.ptr p [],.d (.int .i64 1),.d (.int .i64 k),.d (.str t)] ob K := by
 refine acall_lift hP mixed Ykp Yl4 TOk.nil fun _ hm => ?_
 match ts,hp,h with
 | [],hp,h =>
  simp [Ybs,hp]
  exact Xr hp hm (by simpa [Xf] using h) (by simp) (by simp [Ze hp])
 | [x],hp,h =>
  simp [Ybs,hp]
  exact Xr hp hm (by simpa [Xf] using h) (by simp) (by simp [Ze hp])
 | x :: y :: ts,hp,h =>
  simp [Ybs,hp,Tok.enc]
  have h1 : (1 : Int) < (ts.length : Int) + 2 := by omega
  simp only [h1,decide_true,Bool.true_and,implies_true,true_and]
  exact Xr hp hm (by simpa [Xf] using h) (by simp) (by simp [Ze hp])
theorem Vf (k : Int) (t : B) (h : PK K ob p en S (fun t => .d t.enc) (Wf k t ts)) : ACall P 63 [.ptr p [],.d (.int .i64 k),.d (.str t)] ob K := by
 refine acall_lift hP mixed Yo2 Ysg TOk.nil fun _ hm => ?_
 simp [Yqw,hp]
 refine Xk2 hP hS (ts := ts) (en := en) (S := S) (by simp [hp]) _ _ ?_
 simp [hp,X69]
 refine ⟨fun hn => ?_,fun hn => ?_⟩
 ·simp [Wf,hn] at h
  refine X59 hP hS (ts := ts) (en := en) (S := S) (by simp [hp]) 100 ?_
  simp [hp]
  exact Xr hp hm h (by simp) (by simp [hp])
 ·cases ts with
  | nil => simp [Xf] at hn
  | cons x ts =>
   simp [Wf,hn] at h
   simp [X68,hp,hS,Tok.enc]
   exact Xr hp hm h (by simp) (by simp [hp])
theorem Xee (h : PK K ob p en S (fun t => .d (.str t)) (Ws ts)) : ACall P 65 [.ptr p []] ob K := by
 refine acall_lift hP mixed Yo4 Ysi TOk.nil fun _ hm => ?_
 simp [Yqy,hp]
 refine Vf hP hS hp _ _ ?_
 refine PK.bind h (fun ts' e h => ?_) (fun a ts' ha h => ?_)
 ·simp
  exact Xr hp hm h (by simp) (by simp [hp])
 ·simp [Tok.enc]
  exact Xr hp hm h (by simp) (by simp [hp])
theorem Xax (k : Int) (t : B) (h : PK K ob p en S (fun b => .d (.bool b)) (Xv k t ts)) : ACall P 67 [.ptr p [],.d (.int .i64 k),.d (.str t)] ob K := by
 refine acall_lift hP mixed Yo5 Ysj TOk.nil fun _ hm => ?_
 simp [Yqz,hp]
 refine Xk2 hP hS hp _ _ ?_
 simp [hp,X7b,X7c]
 refine ⟨fun hn => ?_,fun hn => ?_⟩
 ·simp [Xv,hn] at h
  exact Xr hp hm h (by simp) (by simp [hp])
 ·cases ts with
  | nil => simp [Xf] at hn
  | cons x ts =>
   simp [Xv,hn] at h
   simp [hp,hS]
   exact Xr hp hm h (by simp) (by simp [hp])
end
end Go.Proofs.YtmapdjjigmkbfaaGreatDoor
/- Contracts: terms and operations are read. Condition: the program is the seat's. -/
namespace Go.Proofs.YtmapdjjigmkbfaaGreatDoor
open Go Go.Ab Go.Lx Go.Sx
set_option maxRecDepth 100000
attribute [local simp ↓] ql qn qo qi qh qj qk qm zu zq zt zw zr zm zn zl zp zo qq qp qx qy zh qz qw qr zi qu qt qs za zd zb ze zf zg zy zx wc zz qb qa qd qc qe qg qf zk zj
section
variable {P : Prg} (hP : P.p = Tryz.prog) {ob : Objs} {p : Nat} {ts : List Tok} {en : Int} {S : V} (hS : V.allD [S] = none) (hp : lookO ob p = some (pb ts en S)) {K : Out → Objs → Prop}
include hP hS hp
theorem Ytg (h : PK K ob p en S (fun o => .d (.int .i64 o)) (opQ ts)) : ACall P 112 [.ptr p []] ob K := by
 refine acall_lift hP mixed Yeo Yji TOk.nil fun _ hm => ?_
 simp [Ygt,hp,hS]
 rw [opQ] at h
 refine Xax hP hS (by simp [hp]) _ _ (PK.bind h (fun ts' e h => ?_) (fun a ts' ha h => ?_))
 ·simp
  exact Xr hp hm h (by simp) (by simp [hp])
 cases a
 ·skip
  simp only [Bool.false_eq_true,if_false,if_true,Za,U4] at h
  simp [hp,hS,Xpc,Xpb,Xpa]
  refine Xax hP hS (by simp [hp]) _ _ (PK.bind h (fun ts' e h => ?_) (fun a ts' ha h => ?_))
  ·simp
   exact Xr hp hm h (by simp) (by simp [hp])
  cases a
  ·skip
   simp only [Bool.false_eq_true,if_false,if_true,Za,U4] at h
   simp [hp,hS,Xo9,Xpa]
   simp only [Yh,Za,U4] at h
   refine Vf hP hS (by simp [hp]) _ _ (PK.bind h (fun ts' e h => ?_) (fun a ts' ha h => ?_))
   ·simp
    exact Xr hp hm h (by simp) (by simp [hp])
   simp [hp,hS,Xz1]
   refine Vf hP hS (by simp [hp]) _ _ (PK.bind h (fun ts' e h => ?_) (fun a ts' ha h => ?_))
   ·simp
    exact Xr hp hm h (by simp) (by simp [hp])
   simp [hp,hS,Xz0]
   exact Xr hp hm h (by simp) (by simp [hp])
  ·skip
   simp only [Bool.false_eq_true,if_false,if_true,Za,U4] at h
   simp [hp,hS,Xo9]
   refine Xax hP hS (by simp [hp]) _ _ (PK.bind h (fun ts' e h => ?_) (fun a ts' ha h => ?_))
   ·simp
    exact Xr hp hm h (by simp) (by simp [hp])
   cases a
   ·skip
    simp only [Bool.false_eq_true,if_false,if_true,Za,U4] at h
    simp [hp,hS,Xo7,Xo8]
    exact Xr hp hm h (by simp) (by simp [hp])
   ·skip
    simp only [Bool.false_eq_true,if_false,if_true,Za,U4] at h
    simp [hp,hS,Xo7,Xo8]
    exact Xr hp hm h (by simp) (by simp [hp])
 ·skip
  simp only [Bool.false_eq_true,if_false,if_true,Za,U4] at h
  simp [hp,hS,Xpb,Xpc]
  exact Xr hp hm h (by simp) (by simp [hp])
theorem X6a (h : PK K ob p en S (fun x => .d x.enc) (Xbj ts)) : ACall P 111 [.ptr p []] ob K := by
 refine acall_lift hP mixed Yen Yjh TOk.nil fun _ hm => ?_
 simp [Ygs,hp,hS]
 refine Xk2 hP hS (ts := ts) (en := en) (S := S) (by simp [hp]) _ _ ?_
 cases hn : Xf 2 [] ts with
 | false =>
  simp only [Xbj,ifM,hn,Bool.false_eq_true,if_false,Xj8,Yh,Za,U4] at h
  simp [hp,hS,Xo5,Xo6]
  refine Xee hP hS (by simp [hp]) (PK.bind h (fun ts' e h => ?_) (fun a ts' ha h => ?_))
  ·simp
   exact Xr hp hm h (by simp) (by simp [hp])
  simp [hp,hS,Xzz]
  refine Vf hP hS (by simp [hp]) _ _ (PK.bind h (fun ts' e h => ?_) (fun a ts' ha h => ?_))
  ·simp
   exact Xr hp hm h (by simp) (by simp [hp])
  simp [hp,hS,Xzy]
  refine Xee hP hS (by simp [hp]) (PK.bind h (fun ts' e h => ?_) (fun a ts' ha h => ?_))
  ·simp
   exact Xr hp hm h (by simp) (by simp [hp])
  simp [hp,hS,Xzx]
  exact Xr hp hm h (by simp) (by simp [hp])
 | true =>
  simp only [Xbj,ifM,hn,if_true,Xim,Za,U4] at h
  simp [hp,hS,Xo5,Xo6]
  refine Vf hP hS (by simp [hp]) _ _ (PK.bind h (fun ts' e h => ?_) (fun a ts' ha h => ?_))
  ·simp
   exact Xr hp hm h (by simp) (by simp [hp])
  simp [hp,hS,Tok.enc]
  exact Xr hp hm h (by simp) (by simp [hp])
end
end Go.Proofs.YtmapdjjigmkbfaaGreatDoor
/- Formulas that are being read: what they own. No program. -/
namespace Go.Sx
open Go Go.Ab Go.Lx
def Xc (N : Objs) : List Nat := N.map Prod.fst
theorem Vm {N ob : Objs} {j : Nat} (h : j ∈ Xc N) : lookO (N ++ ob) j = lookO N j := by
 induction N with
 | nil => cases h
 | cons x r ih =>
  obtain ⟨i,o⟩ := x
  simp only [List.cons_append,lookO]
  split
  ·rfl
  ·rename_i hi
   rcases List.mem_cons.1 h with rfl | h
   ·exact absurd rfl hi
   ·exact ih h
theorem Yg {N ob : Objs} {j : Nat} (h : j ∉ Xc N) : lookO (N ++ ob) j = lookO ob j := by
 induction N with
 | nil => rfl
 | cons x r ih =>
  obtain ⟨i,o⟩ := x
  simp only [List.cons_append,lookO]
  simp only [Xc,List.map_cons,List.mem_cons,not_or] at h
  rw [if_neg (fun e => h.1 e.symm)]
  exact ih h.2
theorem Y8 {N ob : Objs} {j : Nat} {o : Ob} (h : j ∉ Xc N) : setO (N ++ ob) j o = N ++ setO ob j o := by
 induction N with
 | nil => rfl
 | cons x r ih =>
  obtain ⟨i,o'⟩ := x
  simp only [List.cons_append,setO]
  simp only [Xc,List.map_cons,List.mem_cons,not_or] at h
  rw [if_neg (fun e => h.1 e.symm),ih h.2]
theorem Jz {q : Nat → Bool} {N ob : Objs} (h : ∀ j ∈ Xc N,q j = false) : Xy q (N ++ ob) = N ++ Xy q ob := by
 induction N with
 | nil => rfl
 | cons x r ih =>
  obtain ⟨i,o'⟩ := x
  simp only [List.cons_append,Xy]
  rw [if_neg (by rw [h i (by simp [Xc])]; simp),ih (fun j hj => h j (by simp only [Xc,List.map_cons,List.mem_cons]; exact .inr hj))]
theorem Wq {q : Nat → Bool} : ∀ {N ob : Objs},noMenO q (N ++ ob) = (noMenO q N && noMenO q ob)
 | [],ob => by simp [noMenO]
 | (i,o) :: r,ob => by cases o <;> simp [noMenO,Wq (N := r),Bool.and_assoc]
theorem Ya (ob : Objs) (k : Nat) (o : Ob) : Xc (setO ob k o) = Xc ob := by
 induction ob with
 | nil => rfl
 | cons x r ih =>
  obtain ⟨i,o'⟩ := x
  simp only [setO]
  split
  ·rfl
  ·simp only [Xc,List.map_cons] at ih ⊢; rw [ih]
theorem X8 {q : Nat → Bool} {X : Objs} (h : ∀ j ∈ Xc X,q j = false) : Xy q X = X := by
 have := Jz (ob := []) h
 simpa [Xy] using this
theorem Wg (N M : Objs) : Xc (N ++ M) = Xc N ++ Xc M := by simp [Xc]
theorem X2 {ob : Objs} {j : Nat} (h : j ∈ Xc ob) : j < fresh ob := by
 induction ob with
 | nil => cases h
 | cons x r ih =>
  obtain ⟨i,o⟩ := x
  simp only [fresh]
  rcases List.mem_cons.1 h with rfl | h
  ·split
   ·exact Nat.lt_succ_self _
   ·rename_i hn; exact Nat.lt_of_not_le hn
  ·have := ih h
   split
   ·omega
   ·exact this
theorem J5 (N ob : Objs) : fresh ob ≤ fresh (N ++ ob) := by
 induction N with
 | nil => exact Nat.le_refl _
 | cons x r ih =>
  obtain ⟨i,o⟩ := x
  simp only [List.cons_append,fresh]
  split <;> omega
structure News (n : Nat) (N : Objs) : Prop where
 ge : ∀ j ∈ Xc N,n ≤ j
 men : ∀ q : Nat → Bool,(∀ j ∈ Xc N,q j = false) → noMenO q N = true
theorem News.nil (n : Nat) : News n [] := ⟨by simp [Xc],fun _ _ => rfl⟩
theorem News.app {n : Nat} {N M : Objs} (h : News n N) (h' : News n M) : News n (N ++ M) := by
 refine ⟨fun j hj => ?_,fun q hq => ?_⟩
 ·rw [Wg,List.mem_append] at hj
  exact hj.elim (h.ge j) (h'.ge j)
 ·rw [Wq,h.men q (fun j hj => hq j (by rw [Wg]; exact List.mem_append_left _ hj)),h'.men q (fun j hj => hq j (by rw [Wg]; exact List.mem_append_right _ hj))]; rfl
theorem News.le {n m : Nat} {N : Objs} (h : News n N) (hm : m ≤ n) : News m N := ⟨fun j hj => Nat.le_trans hm (h.ge j hj),h.men⟩
def Xw (vs : List V) : Ob := .vec 42 14 vs
mutual
def Zt (ob : Objs) : RForm → V → List Nat → Prop
 | .mk op n k a,v,ids => match k with
  | [] => (∃ z,(z = .nils ∨ z = .list 14 []) ∧ v = .d (.agg [iD op,iD n,z,a.enc])) ∧ ids = []
  | f :: r => ∃ id vs is,v = .agg [.d (iD op),.d (iD n),.sl id vs.length,.d a.enc] ∧ ids = id :: is ∧ lookO ob id = some (Xw vs) ∧ ∃ x ws b c,vs = x :: ws ∧ is = b ++ c ∧ Zt ob f x b ∧ Zb ob r ws c
def Zb (ob : Objs) : List RForm → List V → List Nat → Prop
 | [],vs,ids => vs = [] ∧ ids = []
 | f :: r,vs,ids => ∃ v ws a b,vs = v :: ws ∧ ids = a ++ b ∧ Zt ob f v a ∧ Zb ob r ws b
end
theorem Vy {ob : Objs} {op n : Int} {k : List RForm} {a : RAtom} {v : V} {ids : List Nat} (hk : k ≠ []) : Zt ob (.mk op n k a) v ids ↔ ∃ id vs is,v = .agg [.d (iD op),.d (iD n),.sl id vs.length,.d a.enc] ∧ ids = id :: is ∧ lookO ob id = some (Xw vs) ∧ Zb ob k vs is := by
 cases k with
 | nil => exact absurd rfl hk
 | cons f r => rw [Zt]; simp only [Zb]
mutual
theorem Zt.look {ob ob' : Objs} : ∀ {f : RForm} {v : V} {ids : List Nat},Zt ob f v ids → (∀ j ∈ ids,lookO ob' j = lookO ob j) → Zt ob' f v ids
 | .mk op n [] a,v,ids,h,_ => by rw [Zt] at h ⊢; exact h
 | .mk op n (f :: r) a,v,ids,h,hl => by
  rw [Zt] at h ⊢
  obtain ⟨id,vs,is,e1,e2,h1,x,ws,b,c,e3,e4,h2,h3⟩ := h
  subst e2
  refine ⟨id,vs,is,e1,rfl,by rw [hl id (by simp)]; exact h1,x,ws,b,c,e3,e4,Zt.look h2 (fun j hj => hl j (by simp [e4,hj])),Zb.look h3 (fun j hj => hl j (by simp [e4,hj]))⟩
theorem Zb.look {ob ob' : Objs} : ∀ {l : List RForm} {vs : List V} {ids : List Nat},Zb ob l vs ids → (∀ j ∈ ids,lookO ob' j = lookO ob j) → Zb ob' l vs ids
 | [],vs,ids,h,_ => by rw [Zb] at h ⊢; exact h
 | f :: r,vs,ids,h,hl => by
  rw [Zb] at h ⊢
  obtain ⟨v,ws,a,b,e1,e2,h2,h3⟩ := h
  subst e2
  exact ⟨v,ws,a,b,e1,rfl,Zt.look h2 (fun j hj => hl j (by simp [hj])),Zb.look h3 (fun j hj => hl j (by simp [hj]))⟩
end
theorem Zb.snoc {ob : Objs} : ∀ {l : List RForm} {vs : List V} {ids : List Nat} {f : RForm} {v : V} {a : List Nat},Zb ob l vs ids → Zt ob f v a → Zb ob (l ++ [f]) (vs ++ [v]) (ids ++ a)
 | [],vs,ids,f,v,a,h,hf => by
  rw [Zb] at h
  obtain ⟨rfl,rfl⟩ := h
  simp only [List.nil_append]
  rw [Zb]
  exact ⟨v,[],a,[],rfl,by simp,hf,by rw [Zb]; exact ⟨rfl,rfl⟩⟩
 | g :: r,vs,ids,f,v,a,h,hf => by
  rw [Zb] at h
  obtain ⟨w,ws,b,c,rfl,rfl,h1,h2⟩ := h
  simp only [List.cons_append]
  rw [Zb]
  exact ⟨w,ws ++ [v],b,c ++ a,rfl,by simp,h1,Zb.snoc h2 hf⟩
theorem Zb.len {ob : Objs} : ∀ {l : List RForm} {vs : List V} {ids : List Nat},Zb ob l vs ids → vs.length = l.length
 | [],vs,ids,h => by rw [Zb] at h; rw [h.1]; rfl
 | f :: r,vs,ids,h => by
  rw [Zb] at h
  obtain ⟨v,ws,a,b,rfl,_,_,h2⟩ := h
  simp [Zb.len h2]
theorem Zt.men {ob : Objs} {f : RForm} {v : V} {ids : List Nat} (h : Zt ob f v ids) {q : Nat → Bool} (hq : ∀ j ∈ ids,q j = false) : V.men q v = false := by
 obtain ⟨op,n,k,a⟩ := f
 cases k with
 | nil =>
  rw [Zt] at h
  obtain ⟨⟨z,_,rfl⟩,_⟩ := h
  simp [V.men]
 | cons g r =>
  rw [Zt] at h
  obtain ⟨id,vs,is,rfl,rfl,_⟩ := h
  simp [V.men,V.mens,hq]
theorem Zb.mens {ob : Objs} : ∀ {l : List RForm} {vs : List V} {ids : List Nat},Zb ob l vs ids → ∀ {q : Nat → Bool},(∀ j ∈ ids,q j = false) → V.mens q vs = false
 | [],vs,ids,h,q,_ => by rw [Zb] at h; rw [h.1]; rfl
 | f :: r,vs,ids,h,q,hq => by
  rw [Zb] at h
  obtain ⟨v,ws,a,b,rfl,rfl,h1,h2⟩ := h
  simp only [V.mens,Bool.or_eq_false_iff]
  exact ⟨h1.men (fun j hj => hq j (by simp [hj])),Zb.mens h2 (fun j hj => hq j (by simp [hj]))⟩
theorem Zt.shape {ob : Objs} {f : RForm} {v : V} {ids : List Nat} (h : Zt ob f v ids) : ∃ kv,(kv.shape = .leaf ∧ kv.sto = true ∧ kv ≠ .any) ∧ v = V.mk [.d (iD f.op),.d (iD f.n),kv,.d f.atom.enc] := by
 obtain ⟨op,n,k,a⟩ := f
 cases k with
 | nil =>
  rw [Zt] at h
  obtain ⟨⟨z,hz,rfl⟩,_⟩ := h
  rcases hz with rfl | rfl
  ·exact ⟨.d .nils,⟨rfl,rfl,by simp⟩,by simp [V.mk,V.allD,RForm.op,RForm.n,RForm.atom]⟩
  ·exact ⟨.d (.list 14 []),⟨rfl,rfl,by simp⟩,by simp [V.mk,V.allD,RForm.op,RForm.n,RForm.atom]⟩
 | cons g r =>
  rw [Zt] at h
  obtain ⟨id,vs,is,rfl,rfl,_⟩ := h
  exact ⟨.sl id vs.length,⟨rfl,rfl,by simp⟩,by simp [V.mk,V.allD,RForm.op,RForm.n,RForm.atom]⟩
theorem Zt.fits {ob : Objs} {f : RForm} {v : V} {ids : List Nat} (h : Zt ob f v ids) : v.shape = .node [.leaf,.leaf,.leaf,.node [.leaf,.node [.leaf,.leaf,.leaf,.leaf,.leaf],.node [.leaf,.leaf,.leaf,.leaf,.leaf]]] ∧ v ≠ .any ∧ v.sto = true ∧ v.isAgg = true := by
 obtain ⟨kv,⟨k1,k2,k3⟩,rfl⟩ := h.shape
 refine ⟨?_,?_,?_,V.isAgg_mk _⟩
 ·rw [V.shape_kids (V.kids_mk _)]
  simp [k1]
 ·have := V.isAgg_mk [.d (iD f.op),.d (iD f.n),kv,.d f.atom.enc]
  intro e
  rw [e] at this
  cases this
 ·unfold V.mk
  split
  ·rfl
  ·simp [V.sto,V.stos,k2]
def RP {α : Type} (Z : α → List Tok → Prop) (E : List Tok → Int → Prop) : R α → Prop
 | .ok a ts => Z a ts
 | .err ts e => E ts e
section
variable {α β : Type} {Z : α → List Tok → Prop} {E E' : List Tok → Int → Prop} {Z' : β → List Tok → Prop} {m : M β} {f : β → M α} {ts : List Tok}
@[simp] theorem Yhg (a : α) (ts : List Tok) : RP Z E (.ok a ts) = Z a ts := rfl
@[simp] theorem RP_err (e : Int) (ts : List Tok) : RP Z E (.err ts e) = E ts e := rfl
theorem RP.mono {γ : Type} {Z Z' : γ → List Tok → Prop} {r : R γ} (h : RP Z E r) (he : ∀ ts' e,E ts' e → E' ts' e) (hk : ∀ a ts',Z a ts' → Z' a ts') : RP Z' E' r := by
 cases r with
 | ok a ts' => exact hk a ts' h
 | err ts' e => exact he ts' e h
theorem RP.bind (h : RP Z E ((m >>= f) ts)) (he : ∀ ts' e,E ts' e → E' ts' e) (hk : ∀ a ts',m ts = .ok a ts' → RP Z E (f a ts') → Z' a ts') : RP Z' E' (m ts) := by
 rw [Xd] at h
 cases hm : m ts with
 | ok a ts' => rw [hm] at h; exact hk a ts' hm h
 | err ts' e => rw [hm] at h; exact he ts' e h
theorem RP.pk {K : Out → Objs → Prop} {ob : Objs} {p : Nat} {en : Int} {S : V} {v : β → V} (h : RP Z E ((m >>= f) ts)) (he : ∀ ts' e,E ts' e → K (.panic (.d (Vt en ts' e))) (setO ob p (pb ts' en S)))
  (hk : ∀ a ts',m ts = .ok a ts' → RP Z E (f a ts') → K (.ret (v a)) (setO ob p (pb ts' en S))) : PK K ob p en S v (m ts) := by
 rw [Xd] at h
 cases hm : m ts with
 | ok a ts' => rw [hm] at h; exact hk a ts' hm h
 | err ts' e => rw [hm] at h; exact he ts' e h
end
theorem Yd7 {α : Type} (m : M α) : (m >>= fun l => pure l) = m := by
 funext ts
 rw [Xd]
 cases m ts <;> rfl
theorem X11 {α β : Type} (c : List Tok → Bool) (a b : M α) (f : α → M β) : (ifM c a b >>= f) = ifM c (a >>= f) (b >>= f) := by
 funext ts
 simp only [Xd,Go.Sx.ifM]
 by_cases h : c ts = true <;> simp [h]
def EP (K : Out → Objs → Prop) (ob : Objs) (p : Nat) (en : Int) (S : V) (ts : List Tok) (e : Int) : Prop := K (.panic (.d (Vt en ts e))) (setO ob p (pb ts en S))
def PF (K : Out → Objs → Prop) (ob : Objs) (p : Nat) (en : Int) (S : V) : R RForm → Prop :=
 RP (fun f ts => ∀ N v ids,News (fresh ob) N → ids.Nodup → (∀ j ∈ ids,j ∈ Xc N) → Zt N f v ids → K (.ret v) (N ++ setO ob p (pb ts en S))) (EP K ob p en S)
def ZL (K : Out → Objs → Prop) (ob : Objs) (p : Nat) (en : Int) (S : V) : List RForm → List Tok → Prop
 | [],ts => K (.ret (.d (.list 14 []))) (setO ob p (pb ts en S))
 | f :: r,ts => ∀ N id vs ids,News (fresh ob) N → (id :: ids).Nodup → (∀ j ∈ id :: ids,j ∈ Xc N) → lookO N id = some (Xw vs) → Zb N (f :: r) vs ids → K (.ret (.sl id vs.length)) (N ++ setO ob p (pb ts en S))
def PL (K : Out → Objs → Prop) (ob : Objs) (p : Nat) (en : Int) (S : V) : R (List RForm) → Prop := RP (ZL K ob p en S) (EP K ob p en S)
def X1v (c : Nat) : Ob := .map [(.str Ya1,.fn 59 [] [.ptr c []]),(.str X58,.fn 61 [] [.ptr c []]),(.str Jf,.fn 62 [] [.ptr c []]),(.str Xzh,.fn 64 [] [.ptr c []])]
structure Ctx (ob : Objs) (p m c : Nat) : Prop where
 map : lookO ob m = some (X1v c)
 cap : lookO ob c = some (.box 87 (.ptr p []))
 pm : p ≠ m
 pc : p ≠ c
theorem Ctx.set {ob : Objs} {p m c : Nat} {o : Ob} (h : Ctx ob p m c) (hp : ∃ y,lookO ob p = some y) : Ctx (setO ob p o) p m c :=
 ⟨by rw [Xl ob p m hp,if_neg (Ne.symm h.pm)]; exact h.map,by rw [Xl ob p c hp,if_neg (Ne.symm h.pc)]; exact h.cap,h.pm,h.pc⟩
theorem Ctx.cons {ob : Objs} {p m c j : Nat} {o : Ob} (h : Ctx ob p m c) (hj : fresh ob ≤ j) : Ctx ((j,o) :: ob) p m c := by
 have h1 := Xt h.map
 have h2 := Xt h.cap
 exact ⟨by rw [Xq _ _ _ _ (by simp; omega)]; exact h.map,by rw [Xq _ _ _ _ (by simp; omega)]; exact h.cap,h.pm,h.pc⟩
theorem Ctx.app {N ob : Objs} {p m c : Nat} (h : Ctx ob p m c) (hN : ∀ j ∈ Xc N,fresh ob ≤ j) : Ctx (N ++ ob) p m c := by
 have h1 := Xt h.map
 have h2 := Xt h.cap
 exact ⟨by rw [Yg (fun e => by have := hN _ e; omega)]; exact h.map,by rw [Yg (fun e => by have := hN _ e; omega)]; exact h.cap,h.pm,h.pc⟩
theorem Qw {q : Nat → Bool} {N ob : Objs} (h : ∀ j ∈ Xc N,q j = true) : Xy q (N ++ ob) = Xy q ob := by
 induction N with
 | nil => rfl
 | cons x r ih =>
  obtain ⟨i,o'⟩ := x
  simp only [List.cons_append,Xy]
  rw [if_pos (h i (by simp [Xc])),ih (fun j hj => h j (by simp only [Xc,List.map_cons,List.mem_cons]; exact .inr hj))]
theorem Xvw {ob : Objs} {p : Nat} {ts ts' : List Tok} {en : Int} {S : V} (hp : lookO ob p = some (pb ts en S)) (hm : ∀ kp,noMenO (young (fresh ob) kp) ob = true) {K : Objs → Prop} {N M : Objs} {v : V} (hN : News (fresh ob) N) (hM : ∀ j ∈ Xc M,fresh ob ≤ j ∧ j ∉ Xc N)
  (hv : ∀ q : Nat → Bool,(∀ j ∈ Xc N,q j = false) → V.men q v = false) (h : K (N ++ setO ob p (pb ts' en S))) : Xx (fresh ob) K [v] (N ++ (M ++ setO ob p (pb ts' en S))) := by
 have hq : ∀ j ∈ Xc N,young (fresh ob) (Xc N) j = false := fun j hj => by simp [young,hj]
 have hd : Xy (young (fresh ob) (Xc N)) (N ++ (M ++ setO ob p (pb ts' en S))) = N ++ setO ob p (pb ts' en S) := by
  rw [Jz hq,Qw (fun j hj => by have := hM j hj; simp [young,this.1,this.2])]
  rw [X8 (fun j hj => ?_)]
  rw [Ya] at hj
  have := X2 hj
  simp [young]; omega
 refine ⟨Xc N,?_,?_,?_⟩
 ·simp only [V.mens,Bool.or_false]
  exact hv _ hq
 ·rw [hd,Wq,hN.men _ hq]
  exact noMenO_set_box _ _ _ _ _ (hm _) (by have := Wh (hm (Xc N)) hp; simpa [pv] using this)
 ·rw [hd]; exact h
theorem Um {ob : Objs} {p : Nat} {ts ts' : List Tok} {en : Int} {S : V} (hp : lookO ob p = some (pb ts en S)) (hm : ∀ kp,noMenO (young (fresh ob) kp) ob = true) {K : Objs → Prop} {N M : Objs} {f : RForm} {v : V} {ids : List Nat} (hN : News (fresh ob) N) (hM : ∀ j ∈ Xc M,fresh ob ≤ j ∧ j ∉ Xc N)
  (hin : ∀ j ∈ ids,j ∈ Xc N) (hF : Zt N f v ids) (h : K (N ++ setO ob p (pb ts' en S))) : Xx (fresh ob) K [v] (N ++ (M ++ setO ob p (pb ts' en S))) := by
 have hq : ∀ j ∈ Xc N,young (fresh ob) (Xc N) j = false := fun j hj => by simp [young,hj]
 have hd : Xy (young (fresh ob) (Xc N)) (N ++ (M ++ setO ob p (pb ts' en S))) = N ++ setO ob p (pb ts' en S) := by
  rw [Jz hq,Qw (fun j hj => by have := hM j hj; simp [young,this.1,this.2])]
  rw [X8 (fun j hj => ?_)]
  rw [Ya] at hj
  have := X2 hj
  simp [young]; omega
 refine ⟨Xc N,?_,?_,?_⟩
 ·simp only [V.mens,Bool.or_false]
  exact hF.men (fun j hj => hq j (hin j hj))
 ·rw [hd,Wq,hN.men _ hq]
  exact noMenO_set_box _ _ _ _ _ (hm _) (by have := Wh (hm (Xc N)) hp; simpa [pv] using this)
 ·rw [hd]; exact h
def Xeo (n : Nat) : M (List RForm) := do Yh [123]; Yq n
def Vj {α : Type} (m : M α) : Prop := ∀ ts a ts',m ts = .ok a ts' → ts'.length ≤ ts.length
theorem Vj.bind {α β : Type} {m : M α} {f : α → M β} (h : Vj m) (hf : ∀ a,Vj (f a)) : Vj (m >>= f) := by
 intro ts b ts' e
 rw [Xd] at e
 cases hm : m ts with
 | err a b => rw [hm] at e; cases e
 | ok a t1 =>
  rw [hm] at e
  exact Nat.le_trans (hf a t1 b ts' e) (h ts a t1 hm)
theorem Vj.pure {α : Type} (a : α) : Vj (Pure.pure a : M α) := by
 intro ts b ts' e; cases e; exact Nat.le_refl _
theorem Vj.take (k : Int) (t : B) : Vj (Wf k t) := by
 intro ts b ts' e
 simp only [Wf] at e
 split at e
 ·cases e; simp
 ·cases e
theorem Vj.accept (k : Int) (t : B) : Vj (Xv k t) := by
 intro ts b ts' e
 simp only [Xv] at e
 split at e <;> cases e <;> simp
theorem Vj.ifM {α : Type} {c : List Tok → Bool} {a b : M α} (ha : Vj a) (hb : Vj b) : Vj (ifM c a b) := by
 intro ts x ts' e
 simp only [Go.Sx.ifM] at e
 split at e
 ·exact ha ts x ts' e
 ·exact hb ts x ts' e
theorem Vj.skip {α : Type} {m : M α} (h : Vj m) : Vj (Q7 m) := by
 intro ts x ts' e
 have := h ts.tail x ts' e
 simp at this; omega
theorem Vj.fail {α : Type} (e : Int) : Vj (Go.Sx.fail e : M α) := by intro ts x ts' h; cases h
theorem Vj.name : Vj Ws := .bind (.take _ _) fun _ => .pure _
theorem Vj.word (t : B) : Vj (Wu t) := .bind (.take _ _) fun _ => .pure _
theorem Vj.sign (t : B) : Vj (Yh t) := .bind (.take _ _) fun _ => .pure _
theorem Vj.num : Vj Xim := .bind (.take _ _) fun _ => .pure _
theorem Vj.term : Vj Xbj := .ifM (.bind .num fun _ => .pure _) (.bind .name fun _ => .bind (.sign _) fun _ => .bind .name fun _ => .pure _)
theorem Vj.op : Vj opQ := .bind (.accept _ _) fun b => by
 cases b
 ·exact .bind (.accept _ _) fun b => by
   cases b
   ·exact .bind (.sign _) fun _ => .bind (.sign _) fun _ => .pure _
   ·exact .bind (.accept _ _) fun _ => .pure _
 ·exact .pure _
theorem Vj.atom : Vj Jh := .bind .term fun _ => .bind .op fun _ => .bind .term fun _ => .pure _
theorem Vj.forms : ∀ n,Vj (Zw n) ∧ Vj (Yq n)
 | 0 => ⟨by rw [Zw]; exact .fail _,by rw [Yq]; exact .fail _⟩
 | n + 1 => by
  obtain ⟨h1,h2⟩ := Vj.forms n
  constructor
  ·rw [Zw]
   exact .ifM (.ifM (.skip (.bind (.sign _) fun _ => .bind h2 fun _ => .pure _)) (.ifM (.skip (.bind (.sign _) fun _ => .bind h2 fun _ => .pure _)) (.ifM (.skip (.bind .num fun _ => .bind (.sign _) fun _ => .bind h2 fun _ => .pure _)) (.ifM (.skip (.bind .name fun _ => .pure _)) .atom)))) .atom
  ·rw [Yq]
   exact .bind (.accept _ _) fun b => by
    cases b
    ·exact .bind h1 fun _ => .bind (.sign _) fun _ => .bind h2 fun _ => .pure _
    ·exact .pure _
theorem Qp {k : Int} {t : B} {ts ts' : List Tok} {a : Tok} (h : Wf k t ts = .ok a ts') : ts'.length < ts.length := by
 simp only [Wf] at h
 split at h
 ·rename_i hn
  cases h
  cases ts with
  | nil => simp [Xf] at hn
  | cons x r => simp
 ·cases h
end Go.Sx
/- Contracts: formulas and their Xg are read. Condition: the program is the seat's. -/
namespace Go.Proofs.YtmapdjjigmkbfaaGreatDoor
open Go Go.Ab Go.Lx Go.Sx
set_option maxRecDepth 100000
def Xt1 (P : Prg) (n : Nat) : Prop := ∀ (ts : List Tok),ts.length + 1 ≤ n → ∀ (ob : Objs) (p m c : Nat) (en : Int),lookO ob p = some (pb ts en (.mp m)) → Ctx ob p m c → ∀ K : Out → Objs → Prop,PF K ob p en (.mp m) (Zw n ts) → ACall P 68 [.ptr p []] ob K
def Xip (P : Prg) (n : Nat) : Prop := ∀ (ts : List Tok),ts.length + 1 ≤ n → ∀ (ob : Objs) (p m c : Nat) (en : Int),lookO ob p = some (pb ts en (.mp m)) → Ctx ob p m c → ∀ K : Out → Objs → Prop,PL K ob p en (.mp m) (Xeo n ts) → ACall P 60 [.ptr p []] ob K
def Q3 (vs : List V) : Ob := if vs = [] then .arr 42 14 [] else Xw vs
section
variable {P : Prg} (hP : P.p = Tryz.prog)
include hP
theorem X96 (n : Nat) (hn : n ≤ 1000000) (ih : ∀ m,m < n → Xt1 P m) : Xip P n := by
 intro ts hts ob p m c en hp hc K h
 have hS : V.allD [V.mp m] = none := by simp [V.allD]
 refine acall_lift hP mixed Yoz Ysd TOk.nil fun _ hm => ?_
 have hlp := Xt hp
 have e1 : (fresh ob == p) = false := by simp; omega
 have ef : ¬ fresh ob + 1 ≤ fresh ob := by omega
 simp only [PL,Xeo,Yh,Za,U4] at h
 simp [Yqt,hp,hS]
 refine Vf hP hS (ts := ts) (en := en) (S := .mp m) (by simp [hp,e1]) _ _ (RP.pk h (fun ts' e h => ?_) (fun a ts1 ha h => ?_))
 ·simp [e1]
  exact Xr hp hm h (by simp) (by simp [hp])
 have hlt := Qp ha
 simp [X66,e1]
 let O : Objs → List V → List Tok → Objs := fun N vs ts => N ++ (fresh ob,Q3 vs) :: setO ob p (pb ts en (.mp m))
 have hOp : ∀ N vs ts,News (fresh ob + 1) N → lookO (O N vs ts) p = some (pb ts en (.mp m)) := fun N vs ts hN => by
  have : p ∉ Xc N := fun e => by have := hN.ge _ e; omega
  simp only [O]
  rw [Yg this]
  simp [e1,hp]
 have hOi : ∀ N vs ts,News (fresh ob + 1) N → lookO (O N vs ts) (fresh ob) = some (Q3 vs) := fun N vs ts hN => by
  have : fresh ob ∉ Xc N := fun e => by have := hN.ge _ e; omega
  simp only [O]
  rw [Yg this]
  simp
 have hOs : ∀ N vs ts ts',News (fresh ob + 1) N → setO (O N vs ts) p (pb ts' en (.mp m)) = O N vs ts' := fun N vs ts ts' hN => by
  have : p ∉ Xc N := fun e => by have := hN.ge _ e; omega
  simp only [O]
  rw [Y8 this]
  simp [e1]
 have hOf : ∀ N vs ts,fresh ob + 1 ≤ fresh (O N vs ts) := fun N vs ts => by
  have := J5 N ((fresh ob,Q3 vs) :: setO ob p (pb ts en (.mp m)))
  simp at this
  exact this
 have hOc : ∀ N vs ts,News (fresh ob + 1) N → Ctx (O N vs ts) p m c := fun N vs ts hN => by
  simp only [O]
  refine Ctx.app (Ctx.cons (hc.set ⟨_,hp⟩) (by simp)) (fun j hj => ?_)
  have := hN.ge j hj
  simp; omega
 have drpO : ∀ N o ts,News (fresh ob + 1) N → Xy (young (fresh ob) []) (N ++ (fresh ob,o) :: setO ob p (pb ts en (.mp m))) = setO ob p (pb ts en (.mp m)) := fun N o ts hN => by
  rw [Qw (fun j hj => by have := hN.ge j hj; simp [young]; omega)]
  simp [hp]
 have nom : ∀ ts kp,noMenO (young (fresh ob) kp) (setO ob p (pb ts en (.mp m))) = true := fun ts kp =>
  noMenO_set_box _ _ _ _ _ (hm _) (by have := Wh (hm kp) hp; simpa [pv] using this)
 have nomU : ∀ ts n kp,fresh ob ≤ n → noMenO (young n kp) (setO ob p (pb ts en (.mp m))) = true := fun ts n kp hn =>
  noMenO_set_box _ _ _ _ _ (noMenO_up hm hn) (by have := Wh (noMenO_up (l := kp) hm hn) hp; simpa [pv] using this)
 have lvM : ∀ M ts e,(∀ j ∈ Xc M,fresh ob ≤ j) → EP K ob p en (.mp m) ts e → Xx (fresh ob) (K (.panic (.d (Vt en ts e)))) [.d (Vt en ts e)] (M ++ setO ob p (pb ts en (.mp m))) := fun M ts e hM h => by
  have hd : Xy (young (fresh ob) []) (M ++ setO ob p (pb ts en (.mp m))) = setO ob p (pb ts en (.mp m)) := by
   rw [Qw (fun j hj => by simpa [young] using hM j hj)]
   simp [hp]
  exact ⟨[],by simp,by rw [hd]; exact nom _ _,by rw [hd]; exact h⟩
 have hOk : ∀ N vs ts,Xc (O N vs ts) = Xc N ++ fresh ob :: Xc ob := fun N vs ts => by
  simp only [O]
  rw [Wg]
  simp only [Xc,List.map_cons]
  congr 2
  exact Ya ob p _
 have drp : ∀ N vs ts,News (fresh ob + 1) N → Xy (young (fresh ob) []) (O N vs ts) = setO ob p (pb ts en (.mp m)) := fun N vs ts hN => by
  simp only [O]
  rw [Qw (fun j hj => by have := hN.ge j hj; simp [young]; omega)]
  simp [hp]
 have lvE : ∀ N vs ts e,News (fresh ob + 1) N → EP K ob p en (.mp m) ts e → Xx (fresh ob) (K (.panic (.d (Vt en ts e)))) [.d (Vt en ts e)] (O N vs ts) := fun N vs ts e hN h => by
  refine ⟨[],by simp,?_,?_⟩
  ·rw [drp _ _ _ hN]
   exact noMenO_set_box _ _ _ _ _ (hm _) (by have := Wh (hm []) hp; simpa [pv] using this)
  ·rw [drp _ _ _ hN]; exact h
 refine ALoop.go (ι := List RForm × List Tok × Objs × List V × List Nat × Nat) (fun i => [(0,.ptr p []),(2,.sl (fresh ob) i.2.2.2.1.length)]) (fun i => O i.2.2.1 i.2.2.2.1 i.2.1)
  (fun i => News (fresh ob + 1) i.2.2.1 ∧ i.2.2.2.2.1.Nodup ∧ (∀ j ∈ i.2.2.2.2.1,j ∈ Xc i.2.2.1) ∧ Zb i.2.2.1 i.1 i.2.2.2.1 i.2.2.2.2.1 ∧ i.2.1.length + 2 ≤ i.2.2.2.2.2 ∧ i.2.2.2.2.2 ≤ n ∧ i.1.length + i.2.1.length ≤ n ∧ RP (ZL K ob p en (.mp m)) (EP K ob p en (.mp m)) ((Yq i.2.2.2.2.2 >>= fun l => pure (i.1 ++ l)) i.2.1)) (fun i => i.2.1.length)
  ([],ts1,[],[],[],n) ⟨News.nil _,List.nodup_nil,by simp,by rw [Zb]; exact ⟨rfl,rfl⟩,by simp only; omega,Nat.le_refl _,by simp only [List.length_nil]; omega,?_⟩ (by simp) (by simp [O,Q3]) ?_
 ·simp only [List.nil_append,Yd7]
  exact h
 rintro ⟨acc,ts2,N,vs,ids,k⟩ ⟨hN,hnd,hin,hL,hk2,hkn,hac,hR⟩ R rn re rr rp
 simp only at hN hnd hin hL hk2 hkn hac hR rn ⊢
 obtain ⟨k,rfl⟩ : ∃ j,k = j + 1 := ⟨k - 1,by omega⟩
 simp only [Yq,Za] at hR
 simp [X63]
 refine Xax hP hS (ts := ts2) (en := en) (S := .mp m) (hOp _ _ _ hN) _ _ (RP.pk hR (fun ts' e h => ?_) (fun a ts3 ha3 h => ?_))
 ·simp
  refine rp _ _ _ ?_
  rw [hOs _ _ _ _ hN]
  simp
  exact lvE _ _ _ _ hN h
 have hle3 := Vj.accept _ _ _ _ _ ha3
 cases a with
 | true =>
  simp [Xtr]
  refine re _ _ _ ?_
  rw [hOs _ _ _ _ hN]
  simp only [if_true,Za,U4,Wa,Yhg,List.append_nil] at h
  cases acc with
  | nil =>
   rw [Zb] at hL
   obtain ⟨rfl,rfl⟩ := hL
   have hOid := hOi N [] ts3 hN
   simp [Q3] at hOid
   simp [hOid]
   have hni : fresh ob ∉ Xc N := fun e => by have := hN.ge _ e; omega
   refine ⟨[],by simp,?_,?_⟩
   ·simp only [O]
    rw [Y8 hni]
    simp only [setO,if_true]
    rw [drpO _ _ _ hN]; exact nom _ _
   ·simp only [O]
    rw [Y8 hni]
    simp only [setO,if_true]
    rw [drpO _ _ _ hN]; exact h
  | cons f r =>
   have hvl := hL.len
   have hvn : vs ≠ [] := fun e => by rw [e] at hvl; cases hvl
   have hko : Q3 vs = Xw vs := by simp [Q3,hvn]
   have hOid := hOi N vs ts3 hN
   rw [hko] at hOid
   simp [Xw] at hOid
   simp [hOid,Xzo,gvO]
   have hni : fresh ob ∉ Xc N := fun e => by have := hN.ge _ e; omega
   have eO : O N vs ts3 = (N ++ [(fresh ob,Xw vs)]) ++ setO ob p (pb ts3 en (.mp m)) := by simp [O,hko]
   have hkN : Xc (N ++ [(fresh ob,Xw vs)]) = Xc N ++ [fresh ob] := by rw [Wg]; rfl
   have hNN : News (fresh ob) (N ++ [(fresh ob,Xw vs)]) := by
    refine ⟨fun j hj => ?_,fun q hq => ?_⟩
    ·rw [hkN,List.mem_append] at hj
     rcases hj with hj | hj
     ·have := hN.ge j hj; omega
     ·simp at hj; omega
    ·rw [hkN] at hq
     rw [Wq,hN.men q (fun j hj => hq j (by simp [hj]))]
     simp [noMenO,Xw,hL.mens (q := q) (fun j hj => hq j (by simp [hin j hj]))]
   have hyg : ∀ j ∈ Xc (N ++ [(fresh ob,Xw vs)]),young (fresh ob) (Xc (N ++ [(fresh ob,Xw vs)])) j = false := fun j hj => by simp [young,hj]
   have hdd : Xy (young (fresh ob) (Xc (N ++ [(fresh ob,Xw vs)]))) (O N vs ts3) = O N vs ts3 := by
    rw [eO,Jz hyg]
    simp [hp]
   refine ⟨Xc (N ++ [(fresh ob,Xw vs)]),?_,?_,?_⟩
   ·simp [V.mens,V.men,young,hkN]
   ·rw [hdd,eO,Wq,hNN.men _ hyg,nom]; rfl
   ·rw [hdd,eO]
    refine h _ (fresh ob) vs ids hNN ?_ ?_ ?_ ?_
    ·refine List.nodup_cons.2 ⟨fun e => hni (hin _ e),hnd⟩
    ·intro j hj
     rw [hkN]
     rcases List.mem_cons.1 hj with rfl | hj
     ·simp
     ·simp [hin j hj]
    ·rw [Yg hni]; simp
    ·exact hL.look (fun j hj => Vm (hin j hj))
 | false =>
  simp [Xtr,X65]
  rw [hOs _ _ _ _ hN]
  simp only [Bool.false_eq_true,if_false,Za,U4] at h
  refine ih k (by omega) ts3 (by omega) _ p m c en (hOp _ _ _ hN) (hOc _ _ _ hN) _ (RP.bind h (fun ts' e h => ?_) (fun f ts4 ha4 h => ?_))
  ·unfold EP
   simp
   refine rp _ _ _ ?_
   rw [hOs _ _ _ _ hN]
   simp
   exact lvE _ _ _ _ hN h
  ·intro N2 v ids2 hN2 hnd2 hin2 hF
   have hle4 := (Vj.forms k).1 _ _ _ ha4
   rw [hOs _ _ _ _ hN]
   obtain ⟨v1,v2,v3,v4⟩ := hF.fits
   have hfo := hOf N vs ts3
   have hN2' : ∀ j ∈ Xc N2,fresh ob + 1 ≤ j := fun j hj => by have := hN2.ge j hj; omega
   have hi2 : fresh ob ∉ Xc N2 := fun e => by have := hN2' _ e; omega
   have hp2 : p ∉ Xc N2 := fun e => by have := hN2' _ e; omega
   have lk : lookO (N2 ++ O N vs ts4) (fresh ob) = some (Q3 vs) := by rw [Yg hi2]; exact hOi _ _ _ hN
   have lkp : lookO (N2 ++ O N vs ts4) p = some (pb ts4 en (.mp m)) := by rw [Yg hp2]; exact hOp _ _ _ hN
   have hfx : fresh ob < fresh (N2 ++ O N vs ts4) := by have := J5 N2 (O N vs ts4); have := hOf N vs ts4; omega
   have e3 : (fresh (N2 ++ O N vs ts4) == fresh ob) = false := by simp; omega
   have e4 : (fresh (N2 ++ O N vs ts4) == p) = false := by simp; omega
   simp
   refine ⟨by simpa [D.shape,D.shapes] using v1,v2,?_⟩
   refine .inl ⟨_,[v],by simp; rfl,by simp,by simp [v3],?_⟩
   have hvl := hL.len
   have hkv : Q3 (vs ++ [v]) = Xw (vs ++ [v]) := by simp [Q3]
   have hni : fresh ob ∉ Xc N := fun e => by have := hN.ge _ e; omega
   have hsx : ∀ o,setO ((fresh (N2 ++ O N vs ts4),o) :: (N2 ++ O N vs ts4)) (fresh ob) (Xw (vs ++ [v])) = (fresh (N2 ++ O N vs ts4),o) :: (N2 ++ O N (vs ++ [v]) ts4) := fun o => by
    rw [Yk _ _ _ _ _ e3,Y8 hi2]
    simp only [O]
    rw [Y8 hni]
    simp only [setO,if_true,hkv]
   have hge : fresh (O N vs ts2) ≤ fresh (N2 ++ O N vs ts4) := by
    have h1 := J5 N2 (O N vs ts4)
    have h2 : fresh (O N vs ts2) = fresh (O N vs ts4) := by rw [← hOs N vs ts4 ts2 hN]; simp
    omega
   have hf23 : fresh (O N vs ts3) = fresh (O N vs ts2) := by rw [← hOs N vs ts2 ts3 hN]; simp
   have hNlt : ∀ j ∈ Xc N,j < fresh (O N vs ts2) := fun j hj => X2 (by rw [hOk]; simp [hj])
   have nx : Zc P [] Xhu (Zn 1 R) [(0,.ptr p []),(2,.sl (fresh ob) (vs.length + 1))] ((fresh (N2 ++ O N vs ts4),.vec 42 14 [v]) :: (N2 ++ O N (vs ++ [v]) ts4)) := by
    generalize hx : fresh (N2 ++ O N vs ts4) = x at *
    have lkp4 : lookO ((x,.vec 42 14 [v]) :: (N2 ++ O N (vs ++ [v]) ts4)) p = some (pb ts4 en (.mp m)) := by
     rw [Xq _ _ _ _ e4,Yg hp2]; exact hOp _ _ _ hN
    simp [X64]
    simp only [Yh,Za,U4] at h
    refine Vf hP hS (ts := ts4) (en := en) (S := .mp m) lkp4 _ _ (RP.pk h (fun ts' e h => ?_) (fun a5 ts5 ha5 h => ?_))
    ·simp
     refine rp _ _ _ ?_
     simp
     rw [Yk _ _ _ _ _ e4,Y8 hp2,hOs _ _ _ _ hN]
     have e5 : (x,Ob.vec 42 14 [v]) :: (N2 ++ O N (vs ++ [v]) ts') = ((x,.vec 42 14 [v]) :: (N2 ++ (N ++ [(fresh ob,Q3 (vs ++ [v]))]))) ++ setO ob p (pb ts' en (.mp m)) := by simp [O]
     rw [e5]
     refine lvM _ _ _ (fun j hj => ?_) h
     simp only [Xc,List.map_cons,List.map_append,List.mem_cons,List.mem_append,List.map_nil,List.not_mem_nil,or_false] at hj
     rcases hj with rfl | hj | hj | rfl
     ·omega
     ·have := hN2' j hj; omega
     ·have := hN.ge j hj; omega
     ·omega
    ·have hlt5 := Qp ha5
     simp
     rw [Yk _ _ _ _ _ e4,Y8 hp2,hOs _ _ _ _ hN]
     have hdis : ∀ j ∈ Xc N,j ∉ Xc N2 := fun j hj hj2 => by have h1 := hNlt j hj; have h2 := hN2.ge j hj2; omega
     have hLn : Zb (N2 ++ N) (acc ++ [f]) (vs ++ [v]) (ids ++ ids2) := (hL.look (fun j hj => Yg (hdis j (hin j hj)))).snoc (hF.look (fun j hj => Vm (hin2 j hj)))
     have hq2 : ∀ j ∈ Xc N2,young (fresh (O N vs ts2)) (Xc N2) j = false := fun j hj => by simp [young,hj]
     have hqN : ∀ j ∈ Xc N,young (fresh (O N vs ts2)) (Xc N2) j = false := fun j hj => by have := hNlt j hj; simp [young]; omega
     refine rn (Xc N2) (acc ++ [f],ts5,N2 ++ N,vs ++ [v],ids ++ ids2,k) _ _ ⟨(hN2.le (by omega)).app hN,?_,?_,hLn,by simp only; omega,by simp only; omega,by simp only [List.length_append,List.length_cons,List.length_nil]; omega,?_⟩ (by simp only; omega) (by simp) ?_ ?_ ?_
     ·rw [List.nodup_append]
      exact ⟨hnd,hnd2,fun a ha b hb e => by subst e; exact hdis a (hin a ha) (hin2 a hb)⟩
     ·intro j hj
      rw [Wg]
      simp only [List.mem_append] at hj ⊢
      exact hj.elim (fun h => .inr (hin j h)) (fun h => .inl (hin2 j h))
     ·simpa [List.append_assoc] using h
     ·have hyx : young (fresh (O N vs ts2)) (Xc N2) x = true := by
       have : x ∉ Xc N2 := fun e => by have := X2 (ob := N2 ++ O N vs ts4) (by rw [Wg]; exact List.mem_append_left _ e); omega
       simp [young,this]; omega
      simp only [Xy,hyx,if_true]
      rw [Jz hq2,X8 (fun j hj => ?_)]
      ·simp [O]
      ·rw [hOk] at hj
       have : j < fresh (O N vs ts2) := X2 (by rw [hOk]; exact hj)
       simp [young]; omega
     ·have := hOf N vs ts2
      simp [young]; omega
     ·have e6 : O (N2 ++ N) (vs ++ [v]) ts5 = N2 ++ (N ++ (fresh ob,Q3 (vs ++ [v])) :: setO ob p (pb ts5 en (.mp m))) := by simp [O]
      rw [e6,Wq,Wq,hN2.men _ hq2,hN.men _ hqN,hkv]
      have := hOf N vs ts2
      simp only [noMenO,Xw,Bool.true_and]
      rw [nomU _ _ _ (by omega),hLn.mens (fun j hj => ?_)]
      ·rfl
      ·simp only [List.mem_append] at hj
       exact hj.elim (fun h => hqN j (hin j h)) (fun h => hq2 j (hin2 j h))
   by_cases hvs : vs = []
   ·have hko : Q3 vs = .arr 42 14 [] := by simp [Q3,hvs]
    rw [hko] at lk
    have hkk : Xw (vs ++ [v]) = .vec 42 14 [v] := by simp [Xw,hvs]
    rw [hkk] at hsx
    have h0 : vs.length = 0 := by rw [hvs]; rfl
    rw [h0] at nx
    simp only [Xq _ _ _ _ e3,lk,Xt7,List.length_cons,List.length_nil,List.map_nil,List.nil_append,hsx,h0]
    exact ⟨trivial,trivial,trivial,by omega,nx⟩
   ·have hko : Q3 vs = .vec 42 14 vs := by simp [Q3,hvs,Xw]
    rw [hko] at lk
    simp only [Xw] at hsx
    simp only [Xq _ _ _ _ e3,lk,Xt8,List.length_cons,List.length_nil,hsx]
    exact ⟨trivial,trivial,trivial,by omega,nx⟩
end
end Go.Proofs.YtmapdjjigmkbfaaGreatDoor
/- Contracts: the readers of formulas by their first words. Condition: the program is the seat's. -/
namespace Go.Proofs.YtmapdjjigmkbfaaGreatDoor
open Go Go.Ab Go.Lx Go.Sx
set_option maxRecDepth 100000
section
variable {P : Prg} (hP : P.p = Tryz.prog)
include hP
def X3f (P : Prg) (g : Nat) (op : Int) (n : Nat) : Prop := ∀ (ts : List Tok),ts.length + 1 ≤ n → ∀ (ob : Objs) (p m c : Nat) (en : Int),lookO ob p = some (pb ts en (.mp m)) → Ctx ob p m c → ∀ K : Out → Objs → Prop,PF K ob p en (.mp m) ((Xeo n >>= fun l => pure (.mk op 0 l Yr)) ts) → ACall P g [.ptr c []] ob K
theorem Ybx (n : Nat) (hk : Xip P n) : X3f P 59 1 n := by
 intro ts hts ob p m c en hp hc K h
 refine acall_lift hP mixed Yoy Ysc TOk.nil fun _ hm => ?_
 have hlp := Xt hp
 have hlc := Xt hc.cap
 have e1 : (fresh ob == p) = false := by simp; omega
 have e2 : (fresh ob == c) = false := by simp; omega
 have hcap := hc.cap
 simp [Yqs,hcap,e2]
 unfold PF at h
 refine hk ts hts _ p m c en (by rw [Xq _ _ _ _ e1]; exact hp) (hc.cons (Nat.le_refl _)) _ (RP.bind h (fun ts' e h => ?_) (fun l ts1 hl h => ?_))
 ·unfold EP
  simp [e1]
  exact Xr hp hm h (by simp) (by simp [hp])
 cases l with
 | nil =>
  simp only [ZL]
  simp [e1]
  have hF : Zt [] (.mk 1 0 [] Yr) (.d (.agg [iD 1,iD 0,.list 14 [],Yr.enc])) [] := by rw [Zt]; exact ⟨⟨_,.inr rfl,rfl⟩,rfl⟩
  exact Um hp hm (N := []) (M := [(_,_)]) (News.nil _) (by simp [Xc]) (by simp) hF (h [] _ [] (News.nil _) List.nodup_nil (by simp) hF)
 | cons f r =>
  intro N id vs ids hN hnd hin hlk hL
  have hN1 : ∀ j ∈ Xc N,fresh ob + 1 ≤ j := fun j hj => by have := hN.ge j hj; simp at this; omega
  have ht : fresh ob ∉ Xc N := fun e => by have := hN1 _ e; omega
  have hset : ∀ o o' Y,setO (N ++ (fresh ob,o) :: Y) (fresh ob) o' = N ++ (fresh ob,o') :: Y := fun o o' Y => by rw [Y8 ht]; simp [setO]
  have hlt : ∀ o Y,lookO (N ++ (fresh ob,o) :: Y) (fresh ob) = some o := fun o Y => by rw [Yg ht]; simp
  have hid : ∀ Y,lookO (N ++ Y) id = some (.vec 42 14 vs) := fun Y => by rw [Vm (hin id (by simp))]; exact hlk
  rw [Yk _ _ _ _ _ e1]
  simp [hset,hlt,hid,V.allD,Xzo,gvO,Xir]
  have hF : Zt N (.mk 1 0 (f :: r) Yr) (.agg [.d (iD 1),.d (iD 0),.sl id vs.length,.d Yr.enc]) (id :: ids) := (Vy (by simp)).2 ⟨id,vs,ids,rfl,rfl,hlk,hL⟩
  have hN0 : News (fresh ob) N := hN.le (by simp)
  exact Um hp hm (M := [(_,_)]) hN0 (by simp [Xc]; exact fun x hx => ht (by simp only [Xc,List.mem_map]; exact ⟨_,hx,rfl⟩)) hin hF (h N _ (id :: ids) hN0 hnd hin hF)
theorem Yby (n : Nat) (hk : Xip P n) : X3f P 61 2 n := by
 intro ts hts ob p m c en hp hc K h
 refine acall_lift hP mixed Yo0 Yse TOk.nil fun _ hm => ?_
 have hlp := Xt hp
 have hlc := Xt hc.cap
 have e1 : (fresh ob == p) = false := by simp; omega
 have e2 : (fresh ob == c) = false := by simp; omega
 have hcap := hc.cap
 simp [Yqu,hcap,e2]
 unfold PF at h
 refine hk ts hts _ p m c en (by rw [Xq _ _ _ _ e1]; exact hp) (hc.cons (Nat.le_refl _)) _ (RP.bind h (fun ts' e h => ?_) (fun l ts1 hl h => ?_))
 ·unfold EP
  simp [e1]
  exact Xr hp hm h (by simp) (by simp [hp])
 cases l with
 | nil =>
  simp only [ZL]
  simp [e1]
  have hF : Zt [] (.mk 2 0 [] Yr) (.d (.agg [iD 2,iD 0,.list 14 [],Yr.enc])) [] := by rw [Zt]; exact ⟨⟨_,.inr rfl,rfl⟩,rfl⟩
  exact Um hp hm (N := []) (M := [(_,_)]) (News.nil _) (by simp [Xc]) (by simp) hF (h [] _ [] (News.nil _) List.nodup_nil (by simp) hF)
 | cons f r =>
  intro N id vs ids hN hnd hin hlk hL
  have hN1 : ∀ j ∈ Xc N,fresh ob + 1 ≤ j := fun j hj => by have := hN.ge j hj; simp at this; omega
  have ht : fresh ob ∉ Xc N := fun e => by have := hN1 _ e; omega
  have hset : ∀ o o' Y,setO (N ++ (fresh ob,o) :: Y) (fresh ob) o' = N ++ (fresh ob,o') :: Y := fun o o' Y => by rw [Y8 ht]; simp [setO]
  have hlt : ∀ o Y,lookO (N ++ (fresh ob,o) :: Y) (fresh ob) = some o := fun o Y => by rw [Yg ht]; simp
  have hid : ∀ Y,lookO (N ++ Y) id = some (.vec 42 14 vs) := fun Y => by rw [Vm (hin id (by simp))]; exact hlk
  rw [Yk _ _ _ _ _ e1]
  simp [hset,hlt,hid,V.allD,Xzo,gvO,Xir]
  have hF : Zt N (.mk 2 0 (f :: r) Yr) (.agg [.d (iD 2),.d (iD 0),.sl id vs.length,.d Yr.enc]) (id :: ids) := (Vy (by simp)).2 ⟨id,vs,ids,rfl,rfl,hlk,hL⟩
  have hN0 : News (fresh ob) N := hN.le (by simp)
  exact Um hp hm (M := [(_,_)]) hN0 (by simp [Xc]; exact fun x hx => ht (by simp only [Xc,List.mem_map]; exact ⟨_,hx,rfl⟩)) hin hF (h N _ (id :: ids) hN0 hnd hin hF)
theorem X2i (n : Nat) (hk : Xip P n) (ts : List Tok) (hts : ts.length + 1 ≤ n) {ob : Objs} {p m c : Nat} {en : Int} (hp : lookO ob p = some (pb ts en (.mp m))) (hc : Ctx ob p m c) {K : Out → Objs → Prop} (h : PF K ob p en (.mp m) ((Xim >>= fun k => Xeo n >>= fun l => pure (.mk 3 k l Yr)) ts)) : ACall P 62 [.ptr c []] ob K := by
 refine acall_lift hP mixed Yo1 Ysf TOk.nil fun _ hm => ?_
 have hlp := Xt hp
 have hlc := Xt hc.cap
 have e1 : (fresh ob == p) = false := by simp; omega
 have e2 : (fresh ob == c) = false := by simp; omega
 have hcap := hc.cap
 simp [Yqv,hcap,e2]
 unfold PF at h
 have hS : V.allD [V.mp m] = none := by simp [V.allD]
 simp only [Xim,Za,U4] at h
 refine Vf hP hS (ts := ts) (en := en) (S := .mp m) (by rw [Xq _ _ _ _ e1]; exact hp) _ _ (RP.pk h (fun ts' e h => ?_) (fun a ts0 ha h => ?_))
 ·simp [e1]
  exact Xr hp hm h (by simp) (by simp [hp])
 have hlt0 := Qp ha
 obtain ⟨a1,a2,k0,a4⟩ := a
 simp only at h
 have hcap' : lookO (setO ob p (pb ts0 en (.mp m))) c = some (.box 87 (.ptr p [])) := (hc.set (o := pb ts0 en (.mp m)) ⟨_,hp⟩).cap
 simp [X67,e1,e2,Tok.enc,hcap']
 refine hk ts0 (by omega) _ p m c en (by rw [Xq _ _ _ _ e1]; simp [hp]) ((hc.set ⟨_,hp⟩).cons (by simp)) _ (RP.bind h (fun ts' e h => ?_) (fun l ts1 hl h => ?_))
 ·unfold EP
  simp [e1]
  exact Xr hp hm h (by simp) (by simp [hp])
 cases l with
 | nil =>
  simp only [ZL]
  simp [e1]
  have hF : Zt [] (.mk 3 k0 [] Yr) (.d (.agg [iD 3,iD k0,.list 14 [],Yr.enc])) [] := by rw [Zt]; exact ⟨⟨_,.inr rfl,rfl⟩,rfl⟩
  exact Um hp hm (N := []) (M := [(_,_)]) (News.nil _) (by simp [Xc]) (by simp) hF (h [] _ [] (News.nil _) List.nodup_nil (by simp) hF)
 | cons f r =>
  intro N id vs ids hN hnd hin hlk hL
  have hN1 : ∀ j ∈ Xc N,fresh ob + 1 ≤ j := fun j hj => by have := hN.ge j hj; simp at this; omega
  have ht : fresh ob ∉ Xc N := fun e => by have := hN1 _ e; omega
  have hset : ∀ o o' Y,setO (N ++ (fresh ob,o) :: Y) (fresh ob) o' = N ++ (fresh ob,o') :: Y := fun o o' Y => by rw [Y8 ht]; simp [setO]
  have hlt : ∀ o Y,lookO (N ++ (fresh ob,o) :: Y) (fresh ob) = some o := fun o Y => by rw [Yg ht]; simp
  have hid : ∀ Y,lookO (N ++ Y) id = some (.vec 42 14 vs) := fun Y => by rw [Vm (hin id (by simp))]; exact hlk
  rw [Yk _ _ _ _ _ e1,Xas]
  simp [hset,hlt,hid,V.allD,Xzo,gvO,Xir]
  have hF : Zt N (.mk 3 k0 (f :: r) Yr) (.agg [.d (iD 3),.d (iD k0),.sl id vs.length,.d Yr.enc]) (id :: ids) := (Vy (by simp)).2 ⟨id,vs,ids,rfl,rfl,hlk,hL⟩
  have hN0 : News (fresh ob) N := hN.le (by simp)
  exact Um hp hm (M := [(_,_)]) hN0 (by simp [Xc]; exact fun x hx => ht (by simp only [Xc,List.mem_map]; exact ⟨_,hx,rfl⟩)) hin hF (h N _ (id :: ids) hN0 hnd hin hF)
theorem Yct {ts : List Tok} {ob : Objs} {p m c : Nat} {en : Int} (hp : lookO ob p = some (pb ts en (.mp m))) (hc : Ctx ob p m c) {K : Out → Objs → Prop} (h : PF K ob p en (.mp m) (Xzp ts)) : ACall P 64 [.ptr c []] ob K := by
 refine acall_lift hP mixed Yo3 Ysh TOk.nil fun _ hm => ?_
 have hlp := Xt hp
 have hlc := Xt hc.cap
 have hS : V.allD [V.mp m] = none := by simp [V.allD]
 have e1 : (fresh ob == p) = false := by simp; omega
 have e2 : (fresh ob == c) = false := by simp; omega
 have e3 : (fresh ob + 1 == p) = false := by simp; omega
 have e4 : (fresh ob + 1 == c) = false := by simp; omega
 have hcap := hc.cap
 simp [Yqx,hcap,e2,e4]
 unfold PF Xzp at h
 refine Xee hP hS (ts := ts) (en := en) (by simp [hp,e1,e3]) (RP.pk h (fun ts' e h => ?_) (fun a ts0 ha h => ?_))
 ·simp [e1,e3]
  exact Xr hp hm h (by simp) (by simp [hp])
 simp [X7a,e1,e3]
 have hF : Zt [] (.mk 4 0 [] ⟨0,⟨a,[],0,0,0⟩,Xo0⟩) (.d (.agg [iD 4,iD 0,.nils,RAtom.enc ⟨0,⟨a,[],0,0,0⟩,Xo0⟩])) [] := by rw [Zt]; exact ⟨⟨_,.inl rfl,rfl⟩,rfl⟩
 exact Um hp hm (N := []) (M := [(_,_),(_,_)]) (News.nil _) (by simp [Xc]) (by simp) hF (h [] _ [] (News.nil _) List.nodup_nil (by simp) hF)
end
end Go.Proofs.YtmapdjjigmkbfaaGreatDoor
/- Contract: a formula is read. Condition: the program is the seat's. -/
namespace Go.Proofs.YtmapdjjigmkbfaaGreatDoor
open Go Go.Ab Go.Lx Go.Sx
set_option maxRecDepth 100000
section
variable {P : Prg} (hP : P.p = Tryz.prog)
include hP
theorem Qu : Xj P.p 59 = true ∧ Xj P.p 61 = true ∧ Xj P.p 62 = true ∧ Xj P.p 64 = true := by
 rw [hP]; exact ⟨by kernel_rfl,by kernel_rfl,by kernel_rfl,by kernel_rfl⟩
theorem Yas (n : Nat) (hk : Xip P n) : Xt1 P (n + 1) := by
 intro ts hts ob p m c en hp hc K h
 refine acall_lift hP mixed Yo6 Ysk TOk.nil fun _ hm => ?_
 have hlp := Xt hp
 have hlm := Xt hc.map
 have hS : V.allD [V.mp m] = none := by simp [V.allD]
 have e1 : (fresh ob == p) = false := by simp; omega
 have e2 : (fresh ob == m) = false := by simp; omega
 simp [Yq0]
 unfold PF at h
 rw [Zw] at h
 have atm : RP (fun f ts => ∀ N v ids,News (fresh ob) N → ids.Nodup → (∀ j ∈ ids,j ∈ Xc N) → Zt N f v ids → K (.ret v) (N ++ setO ob p (pb ts en (.mp m)))) (EP K ob p en (.mp m)) (Jh ts) → ∀ rest,Zc P [] Xhv (V2 (fresh ob) [.c 2 14 true] K) ((0,.ptr p []) :: (2,.ptr (fresh ob) []) :: rest) ((fresh ob,.box 42 (.d (.agg [iD 0,iD 0,.nils,.agg [iD 0,.agg [.str [],.str [],iD 0,iD 0,iD 0],.agg [.str [],.str [],iD 0,iD 0,iD 0]]]))) :: setO ob p (pb ts en (.mp m))) := by
  intro h rest
  have cm : ∀ ts' o,lookO ((fresh ob,o) :: setO ob p (pb ts' en (.mp m))) p = some (pb ts' en (.mp m)) := fun ts' o => by simp [hp,e1]
  have er : ∀ ts' e o,EP K ob p en (.mp m) ts' e → Xx (fresh ob) (K (.panic (.d (Vt en ts' e)))) [.d (Vt en ts' e)] ((fresh ob,o) :: setO ob p (pb ts' en (.mp m))) := fun ts' e o h => Xr hp hm h (by simp) (by simp [hp])
  unfold Jh at h
  simp [X7g]
  refine X6a hP hS (cm _ _) (RP.pk h (fun ts' e h => ?_) (fun a ts1 ha h => ?_))
  ·simp [e1]
   exact er _ _ _ h
  simp [X7f,e1,RTerm.enc]
  refine Ytg hP hS (cm _ _) (RP.pk h (fun ts' e h => ?_) (fun o ts2 ho h => ?_))
  ·simp [e1]
   exact er _ _ _ h
  simp [X7e,e1]
  refine X6a hP hS (cm _ _) (RP.pk h (fun ts' e h => ?_) (fun b ts3 hb h => ?_))
  ·simp [e1]
   exact er _ _ _ h
  simp [X7d,e1,RTerm.enc]
  have hF : Zt [] (.mk 5 0 [] ⟨o,a,b⟩) (.d (.agg [iD 5,iD 0,.nils,RAtom.enc ⟨o,a,b⟩])) [] := by rw [Zt]; exact ⟨⟨_,.inl rfl,rfl⟩,rfl⟩
  exact Um hp hm (N := []) (M := [(_,_)]) (News.nil _) (by simp [Xc]) (by simp) hF (h [] _ [] (News.nil _) List.nodup_nil (by simp) hF)
 refine Xk2 hP hS (ts := ts) (en := en) (S := .mp m) (by simp [hp,e1]) _ _ ?_
 simp [e1]
 cases hn1 : Xf 1 [] ts with
 | false =>
  have hrb : Q5 ts = false := by simp [Q5,hn1]
  simp only [Go.Sx.ifM,hrb,Bool.false_eq_true,if_false] at h
  simp [Xld]
  exact atm h _
 | true =>
  simp
  refine Xzj hP hS (ts := ts) (en := en) (S := .mp m) (by simp [hp,e1]) _ _ ?_
  cases hd : Xf 3 [46] ts.tail with
  | true =>
   have hrb : Q5 ts = false := by simp [Q5,hn1,Xil,hd]
   simp only [Go.Sx.ifM,hrb,Bool.false_eq_true,if_false] at h
   simp [Xld,e1]
   exact atm h _
  | false =>
   have hrb : Q5 ts = true := by simp [Q5,hn1,Xil,hd]
   obtain ⟨x,r,rfl⟩ : ∃ x r,ts = x :: r := by
    cases ts with
    | nil => simp [Xf] at hn1
    | cons x r => exact ⟨x,r,rfl⟩
   have hmp : lookO (setO ob p (pb (x :: r) en (.mp m))) m = some (X1v c) := (hc.set ⟨_,hp⟩).map
   unfold X1v at hmp
   simp only [Go.Sx.ifM,hrb,if_true,Ww,List.headD_cons] at h
   simp [Xld,e1,hp,e2,hmp,Tok.enc]
   let b0 : Ob := .box 42 (.d (.agg [iD 0,iD 0,.nils,.agg [iD 0,.agg [.str [],.str [],iD 0,iD 0,iD 0],.agg [.str [],.str [],iD 0,iD 0,iD 0]]]))
   have hS1 : Ob.box 90 (mkO [V.d (D.list 4 (List.map Tok.enc r)),V.d (D.int IntKind.i64 en),V.mp m] (Xb8 (D.list 4 (List.map Tok.enc r)) (Xb8 (D.int IntKind.i64 en) (V.allD [V.mp m])))) = pb r en (.mp m) := by simp [V.allD]
   have fin : ∀ (f : RForm) (ts3 : List Tok),(∀ N v ids,News (fresh ob) N → ids.Nodup → (∀ j ∈ ids,j ∈ Xc N) → Zt N f v ids → K (.ret v) (N ++ setO ob p (pb ts3 en (.mp m)))) → ∀ N v ids,News (fresh ob + 1) N → ids.Nodup → (∀ j ∈ ids,j ∈ Xc N) → Zt N f v ids →
     stKo (N ++ (fresh ob,b0) :: setO ob p (pb ts3 en (.mp m))) (fresh ob) [] 14 v (fun v ob' => Xgn 14 true (fun v => gvO v ob' (fun v' ob' => Xx (fresh ob) (K (Out.ret v')) [v'] ob') (V.giv ob' v)) (atB [] (lookO ob' (fresh ob)))) (lookO (N ++ (fresh ob,b0) :: setO ob p (pb ts3 en (.mp m))) (fresh ob)) := by
    intro f ts3 h N v ids hN hnd hin hF
    have ht : fresh ob ∉ Xc N := fun e => by have := hN.ge _ e; omega
    have hset : ∀ o o' Y,setO (N ++ (fresh ob,o) :: Y) (fresh ob) o' = N ++ (fresh ob,o') :: Y := fun o o' Y => by rw [Y8 ht]; simp [setO]
    have hlt : ∀ o Y,lookO (N ++ (fresh ob,o) :: Y) (fresh ob) = some o := fun o Y => by rw [Yg ht]; simp
    obtain ⟨v1,v2,v3,v4⟩ := hF.fits
    have hN0 : News (fresh ob) N := hN.le (by simp)
    have hM : ∀ o,∀ j ∈ Xc [(fresh ob,o)],fresh ob ≤ j ∧ j ∉ Xc N := fun o j hj => by
     simp [Xc] at hj
     subst hj
     exact ⟨Nat.le_refl _,ht⟩
    have h2 := h N v ids hN0 hnd hin hF
    have lv := Um hp hm (M := [(fresh ob,.box 42 v)]) hN0 (hM _) hin hF h2
    obtain ⟨op,k0,ks,a0⟩ := f
    cases ks with
    | nil =>
     rw [Zt] at hF
     obtain ⟨⟨z,hz,rfl⟩,_⟩ := hF
     simp at v1
     simp [hset,hlt,v1,b0]
     exact lv
    | cons f1 r1 =>
     have hF0 := hF
     rw [Zt] at hF
     obtain ⟨id,vs,is,rfl,rfl,hl,_⟩ := hF
     have hid : ∀ Y,lookO (N ++ Y) id = some (.vec 42 14 vs) := fun Y => by rw [Vm (hin id (by simp))]; exact hl
     simp [hset,hlt,hid,b0,Xzo,gvO,Xir]
     exact lv
   rw [hS1]
   have hl1 : lookO ((fresh ob,b0) :: setO ob p (pb r en (.mp m))) p = some (pb r en (.mp m)) := by simp [e1,hp]
   have hc1 : Ctx ((fresh ob,b0) :: setO ob p (pb r en (.mp m))) p m c := (hc.set ⟨_,hp⟩).cons (by simp)
   have hf1 : fresh ((fresh ob,b0) :: setO ob p (pb r en (.mp m))) = fresh ob + 1 := by simp
   have hs1 : ∀ ts',setO ((fresh ob,b0) :: setO ob p (pb r en (.mp m))) p (pb ts' en (.mp m)) = (fresh ob,b0) :: setO ob p (pb ts' en (.mp m)) := fun ts' => by simp [e1]
   have hlr : r.length + 1 ≤ n := by simp at hts; omega
   by_cases w1 : x.text = Ya1
   ·simp only [w1,decide_true,if_true,Q7,List.tail_cons] at h
    simp [w1]
    refine ⟨(Qu hP).1,?_⟩
    have ek : ∀ g : List RForm → M RForm,(Xeo n >>= g) = (Yh [123] >>= fun _ => Yq n >>= g) := fun g => by rw [Xeo,Za]
    rw [← ek] at h
    refine Ybx hP n hk r hlr _ p m c en hl1 hc1 _ (RP.mono h (fun ts' e h => ?_) (fun f ts3 h => ?_))
    ·unfold EP
     rw [hs1]
     simp
     exact Xr hp hm h (by simp) (by simp [hp])
    ·intro N v ids hN hnd hin hF
     rw [hf1] at hN
     rw [hs1]
     simp
     exact fin f ts3 h N v ids hN hnd hin hF
   simp only [w1,decide_false,Bool.false_eq_true,if_false] at h
   by_cases w2 : x.text = X58
   ·simp only [w2,decide_true,if_true,Q7,List.tail_cons] at h
    simp [w2]
    refine ⟨(Qu hP).2.1,?_⟩
    have ek : ∀ g : List RForm → M RForm,(Xeo n >>= g) = (Yh [123] >>= fun _ => Yq n >>= g) := fun g => by rw [Xeo,Za]
    rw [← ek] at h
    refine Yby hP n hk r hlr _ p m c en hl1 hc1 _ (RP.mono h (fun ts' e h => ?_) (fun f ts3 h => ?_))
    ·unfold EP
     rw [hs1]
     simp
     exact Xr hp hm h (by simp) (by simp [hp])
    ·intro N v ids hN hnd hin hF
     rw [hf1] at hN
     rw [hs1]
     simp
     exact fin f ts3 h N v ids hN hnd hin hF
   simp only [w2,decide_false,Bool.false_eq_true,if_false] at h
   by_cases w3 : x.text = Jf
   ·simp only [w3,decide_true,if_true,Q7,List.tail_cons] at h
    simp [w3]
    refine ⟨(Qu hP).2.2.1,?_⟩
    have ek : ∀ g : List RForm → M RForm,(Xeo n >>= g) = (Yh [123] >>= fun _ => Yq n >>= g) := fun g => by rw [Xeo,Za]
    simp only [← ek] at h
    refine X2i hP n hk r hlr hl1 hc1 (RP.mono h (fun ts' e h => ?_) (fun f ts3 h => ?_))
    ·unfold EP
     rw [hs1]
     simp
     exact Xr hp hm h (by simp) (by simp [hp])
    ·intro N v ids hN hnd hin hF
     rw [hf1] at hN
     rw [hs1]
     simp
     exact fin f ts3 h N v ids hN hnd hin hF
   simp only [w3,decide_false,Bool.false_eq_true,if_false] at h
   by_cases w4 : x.text = Xzh
   ·simp only [w4,decide_true,if_true,Q7,List.tail_cons] at h
    simp [w4]
    refine ⟨(Qu hP).2.2.2,?_⟩
    refine Yct hP hl1 hc1 (RP.mono h (fun ts' e h => ?_) (fun f ts3 h => ?_))
    ·unfold EP
     rw [hs1]
     simp
     exact Xr hp hm h (by simp) (by simp [hp])
    ·intro N v ids hN hnd hin hF
     rw [hf1] at hN
     rw [hs1]
     simp
     exact fin f ts3 h N v ids hN hnd hin hF
   simp only [w4,decide_false,Bool.false_eq_true,if_false] at h
   simp [w1,w2,w3,w4]
   exact atm h _
theorem Xjd : ∀ n,n ≤ 1000000 → (∀ m,m ≤ n → Xt1 P m)
 | 0,_ => fun m hm ts hts => by omega
 | n + 1,hn => fun m hm => by
  have ih := Xjd n (by omega)
  rcases Nat.lt_or_ge m (n + 1) with h1 | h1
  ·exact ih m (by omega)
  ·have : m = n + 1 := by omega
   subst this
   exact Yas hP n (X96 hP n (by omega) (fun m hm => ih m (by omega)))
end
end Go.Proofs.YtmapdjjigmkbfaaGreatDoor
/- Contract: a question is read. Condition: the program is the seat's. -/
namespace Go.Sx
open Go Go.Ab Go.Lx
def Xrf (N : Objs) (vs : List RVar) (vv : V) (ids : List Nat) : Prop := (vs = [] ∧ vv = .d .nils ∧ ids = []) ∨ (vs ≠ [] ∧ ∃ id,vv = .sl id vs.length ∧ ids = [id] ∧ lookO N id = some (.arr 63 4 (vs.map RVar.enc)))
def qV (name : B) (pur : Int) (vv fv : V) : V := V.mk [.d (.str name),.d (iD pur),vv,fv]
def qS (name pur : B) (vv fv : V) : V := V.mk [qV name 0 vv fv,.d (.str pur)]
section
variable {name pur : B} {z : Int} {vv fv : V}
@[simp] theorem Yaq : (qV name z vv fv).kids = some [.d (.str name),.d (iD z),vv,fv] := V.kids_mk _
@[simp] theorem Yap : (qS name pur vv fv).kids = some [qV name 0 vv fv,.d (.str pur)] := V.kids_mk _
@[simp] theorem Xx7 : (qV name z vv fv).isAgg = true := V.isAgg_mk _
@[simp] theorem X50 : (qS name pur vv fv).isAgg = true := V.isAgg_mk _
theorem Yb : (qV name z vv fv).shape = .node [.leaf,.leaf,vv.shape,fv.shape] := by rw [V.shape_kids Yaq]; rfl
theorem Xcq : (qS name pur vv fv).shape = .node [.node [.leaf,.leaf,vv.shape,fv.shape],.leaf] := by rw [V.shape_kids Yap]; simp [Yb]
@[simp] theorem qV_fold : mkO [.d (.str name),.d (.int .i64 z),vv,fv] (Xb8 (.str name) (Xb8 (.int .i64 z) (V.allD [vv,fv]))) = qV name z vv fv := by simp [qV]
@[simp] theorem qS_fold : mkO [qV name 0 vv fv,.d (.str pur)] (V.allD [qV name 0 vv fv,.d (.str pur)]) = qS name pur vv fv := by rw [← Yj8]; rfl
@[simp] theorem qS_sl (i n : Nat) : V.agg [.agg [.d (.str name),.d (.int .i64 0),.sl i n,fv],.d (.str pur)] = qS name pur (.sl i n) fv := rfl
theorem Xqo {q : Nat → Bool} (l : List V) : V.men q (V.mk l) = V.mens q l := by
 unfold V.mk
 cases h : V.allD l with
 | none => rfl
 | some x =>
  rw [V.allD_map h]
  simp only [V.men]
  clear h
  induction x with
  | nil => rfl
  | cons a r ih => simp [V.mens,V.men,← ih]
@[simp] theorem qV_men {q : Nat → Bool} : V.men q (qV name z vv fv) = (V.men q vv || V.men q fv) := by rw [qV,Xqo]; simp [V.mens,V.men]
@[simp] theorem qS_men {q : Nat → Bool} : V.men q (qS name pur vv fv) = (V.men q vv || V.men q fv) := by rw [qS,Xqo]; simp [V.mens,V.men]
theorem Xqp (l : List V) : (V.mk l).sto = V.stos l := by
 unfold V.mk
 cases h : V.allD l with
 | none => rfl
 | some x =>
  rw [V.allD_map h]
  clear h
  induction x with
  | nil => rfl
  | cons a r ih => simpa [V.stos,V.sto] using ih
@[simp] theorem qV_sto : (qV name z vv fv).sto = (vv.sto && fv.sto) := by rw [qV,Xqp]; simp [V.stos,V.sto]
@[simp] theorem qS_sto : (qS name pur vv fv).sto = (vv.sto && fv.sto) := by rw [qS,Xqp]; simp [V.stos,V.sto]
end
def Yi : D := .agg [iD 0,iD 0,.nils,.agg [iD 0,.agg [.str [],.str [],iD 0,iD 0,iD 0],.agg [.str [],.str [],iD 0,iD 0,iD 0]]]
def PQ (K : Out → Objs → Prop) (ob : Objs) (p : Nat) (en : Int) (S : V) : R (RQ × B) → Prop :=
 RP (fun x ts => ∀ N vv fv a b,News (fresh ob) N → (a ++ b).Nodup → (∀ j ∈ a ++ b,j ∈ Xc N) → Xrf N x.1.vars vv a → Zt N x.1.form fv b → K (.ret (qS x.1.name x.2 vv fv)) (N ++ setO ob p (pb ts en S))) (EP K ob p en S)
end Go.Sx
namespace Go.Proofs.YtmapdjjigmkbfaaGreatDoor
open Go Go.Ab Go.Lx Go.Sx
set_option maxRecDepth 100000
section
variable {P : Prg} (hP : P.p = Tryz.prog)
include hP
theorem Xrg (n : Nat) (hn : n ≤ 1000000) (ts : List Tok) (hts : ts.length + 2 ≤ n) {ob : Objs} {p m c : Nat} {en : Int} (hp : lookO ob p = some (pb ts en (.mp m))) (hc : Ctx ob p m c) {K : Out → Objs → Prop} (h : PQ K ob p en (.mp m) (Wy n ts)) : ACall P 27 [.ptr p []] ob K := by
 refine Xcz hP mixed Yoj Yrv TOk.nil fun _ hm => ?_
 have hlp := Xt hp
 have hS : V.allD [V.mp m] = none := by simp [V.allD]
 have e1 : (fresh ob == p) = false := by simp; omega
 have cm : ∀ ts' o,lookO ((fresh ob,o) :: setO ob p (pb ts' en (.mp m))) p = some (pb ts' en (.mp m)) := fun ts' o => by simp [hp,e1]
 have er : ∀ ts' e o,EP K ob p en (.mp m) ts' e → Xx (fresh ob) (K (.panic (.d (Vt en ts' e)))) [.d (Vt en ts' e)] ((fresh ob,o) :: setO ob p (pb ts' en (.mp m))) := fun ts' e o h => Xr hp hm h (by simp) (by simp [hp])
 unfold PQ Wy at h
 simp only [Wu,Yh,Za,U4] at h
 simp [Yqf]
 refine Vf hP hS (ts := ts) (en := en) (by simp [hp,e1]) _ _ (RP.pk h (fun ts' e h => ?_) (fun a ts1 h1 h => ?_))
 ·simp [e1]
  exact er _ _ _ h
 simp [X0e,e1]
 refine Xee hP hS (cm _ _) (RP.pk h (fun ts' e h => ?_) (fun name ts2 h2 h => ?_))
 ·simp [e1]
  exact er _ _ _ h
 simp [X0d,e1]
 refine Vf hP hS (cm _ _) _ _ (RP.pk h (fun ts' e h => ?_) (fun a ts3 h3 h => ?_))
 ·simp [e1]
  exact er _ _ _ h
 simp [X0c,e1]
 refine Xee hP hS (cm _ _) (RP.pk h (fun ts' e h => ?_) (fun pur ts4 h4 h => ?_))
 ·simp [e1]
  exact er _ _ _ h
 simp [X0b,e1]
 refine Vf hP hS (cm _ _) _ _ (RP.pk h (fun ts' e h => ?_) (fun a ts5 h5 h => ?_))
 ·simp [e1]
  exact er _ _ _ h
 simp [X0a,e1]
 have l5 : ts5.length + 2 ≤ n := by
  have g1 := Qp h1; have g2 := Vj.name _ _ _ h2; have g3 := Qp h3; have g4 := Vj.name _ _ _ h4; have g5 := Qp h5
  omega
 let bx : V → V → Ob := fun vv fv => .box 93 (qS name pur vv fv)
 let O2 : List RVar → Option Nat → V → List Tok → Objs := fun vs o fv ts => match o with
  | none => (fresh ob,bx (.d .nils) fv) :: setO ob p (pb ts en (.mp m))
  | some id => (id,.arr 63 4 (vs.map RVar.enc)) :: (fresh ob,bx (.sl id vs.length) fv) :: setO ob p (pb ts en (.mp m))
 let O : List RVar → Option Nat → List Tok → Objs := fun vs o ts => O2 vs o (.d Yi) ts
 let vV : List RVar → Option Nat → V := fun vs o => match o with
  | none => .d .nils
  | some id => .sl id vs.length
 let ok : List RVar → Option Nat → Prop := fun vs o => (vs = [] ∧ o = none) ∨ (vs ≠ [] ∧ ∃ id,o = some id ∧ fresh ob + 1 ≤ id)
 refine ALoop.go (ι := List RVar × Option Nat × List Tok × Nat) (fun _ => [(0,.ptr p []),(2,.ptr (fresh ob) [])]) (fun i => O i.1 i.2.1 i.2.2.1)
  (fun i => ok i.1 i.2.1 ∧ i.2.2.1.length + 1 ≤ i.2.2.2 ∧ i.1.length + i.2.2.1.length + 2 ≤ n ∧ RP (fun (x : RQ × B) ts => ∀ N vv fv a b,News (fresh ob) N → (a ++ b).Nodup → (∀ j ∈ a ++ b,j ∈ Xc N) → Xrf N x.1.vars vv a → Zt N x.1.form fv b → K (.ret (qS x.1.name x.2 vv fv)) (N ++ setO ob p (pb ts en (.mp m)))) (EP K ob p en (.mp m))
   ((Z3 i.2.2.2 >>= fun vs => Zw n >>= fun f => Wf 3 [59] >>= fun _ => Wf 3 [125] >>= fun _ => X1h >>= fun _ => pure (⟨name,0,i.1 ++ vs,f⟩,pur)) i.2.2.1)) (fun i => i.2.2.1.length)
  ([],none,ts5,n) ⟨.inl ⟨rfl,rfl⟩,by simp only; omega,by simp only [List.length_nil]; omega,?_⟩ (by simp) rfl ?_
 ·simpa using h
 rintro ⟨vs,o,ts6,k⟩ ⟨hk,hk1,hk2,h⟩ R rn re rr rp
 simp only at hk hk1 hk2 h rn ⊢
 obtain ⟨k,rfl⟩ : ∃ j,k = j + 1 := ⟨k - 1,by omega⟩
 have hOp2 : ∀ fv ts',lookO (O2 vs o fv ts') p = some (pb ts' en (.mp m)) := fun fv ts' => by
  rcases hk with ⟨_,rfl⟩ | ⟨_,id,rfl,hid⟩
  ·simp [O2,e1,hp]
  ·have e2 : (id == p) = false := by simp; omega
   simp [O2,e1,e2,hp]
 have hOs2 : ∀ fv ts1 ts',setO (O2 vs o fv ts1) p (pb ts' en (.mp m)) = O2 vs o fv ts' := fun fv ts1 ts' => by
  rcases hk with ⟨_,rfl⟩ | ⟨_,id,rfl,hid⟩
  ·simp [O2,e1]
  ·have e2 : (id == p) = false := by simp; omega
   simp [O2,e1,e2]
 have hOt2 : ∀ fv ts',lookO (O2 vs o fv ts') (fresh ob) = some (bx (vV vs o) fv) := fun fv ts' => by
  rcases hk with ⟨_,rfl⟩ | ⟨_,id,rfl,hid⟩
  ·simp [O2,vV]
  ·have e2 : (id == fresh ob) = false := by simp; omega
   simp [O2,vV,e2]
 have hOf2 : ∀ fv fv' ts',setO (O2 vs o fv ts') (fresh ob) (bx (vV vs o) fv') = O2 vs o fv' ts' := fun fv fv' ts' => by
  rcases hk with ⟨_,rfl⟩ | ⟨_,id,rfl,hid⟩
  ·simp [O2,vV]
  ·have e2 : (id == fresh ob) = false := by simp; omega
   simp [O2,vV,e2]
 have hOk2 : ∀ fv ts',Xc (O2 vs o fv ts') = (match o with | none => [] | some id => [id]) ++ fresh ob :: Xc ob := fun fv ts' => by
  have := Ya ob p (pb ts' en (.mp m))
  rcases hk with ⟨_,rfl⟩ | ⟨_,id,rfl,hid⟩
  ·simp only [O2,Xc,List.map_cons,List.nil_append] at this ⊢; rw [this]
  ·simp only [O2,Xc,List.map_cons,List.cons_append,List.nil_append] at this ⊢; rw [this]
 have hlv : ∀ fv ts' e (o1 : Objs),(∀ j ∈ Xc o1,fresh ob ≤ j) → EP K ob p en (.mp m) ts' e → Xx (fresh ob) (K (.panic (.d (Vt en ts' e)))) [.d (Vt en ts' e)] (o1 ++ O2 vs o fv ts') := fun fv ts' e o1 ho h => by
  refine Xr hp hm h (by simp) ?_
  rw [Qw (fun j hj => by simpa [young] using ho j hj)]
  rcases hk with ⟨_,rfl⟩ | ⟨_,id,rfl,hid⟩
  ·simp [O2,hp]
  ·have : fresh ob ≤ id := by omega
   simp [O2,young,this,hp]
 have hOg : ∀ fv ts',fresh ob + 1 ≤ fresh (O2 vs o fv ts') := fun fv ts' => by
  have : fresh ob < fresh (O2 vs o fv ts') := X2 (by rw [hOk2]; simp)
  omega
 have hOc : ∀ fv ts',Ctx (O2 vs o fv ts') p m c := fun fv ts' => by
  rcases hk with ⟨_,rfl⟩ | ⟨_,id,rfl,hid⟩
  ·exact (hc.set ⟨_,hp⟩).cons (by simp)
  ·refine Ctx.cons ((hc.set ⟨_,hp⟩).cons (by simp)) ?_
   simp; omega
 rw [Z3] at h
 simp only [X11,Za,U4,List.append_nil] at h
 simp [Xz8]
 refine Xk2 hP hS (ts := ts6) (en := en) (S := .mp m) (hOp2 _ _) _ _ ?_
 try simp only [O]
 rw [hOs2]
 simp
 have exitF : RP (fun (x : RQ × B) ts => ∀ N vv fv a b,News (fresh ob) N → (a ++ b).Nodup → (∀ j ∈ a ++ b,j ∈ Xc N) → Xrf N x.1.vars vv a → Zt N x.1.form fv b → K (.ret (qS x.1.name x.2 vv fv)) (N ++ setO ob p (pb ts en (.mp m)))) (EP K ob p en (.mp m))
   ((Zw n >>= fun f => Wf 3 [59] >>= fun _ => Wf 3 [125] >>= fun _ => X1h >>= fun _ => pure (⟨name,0,vs,f⟩,pur)) ts6) → ∀ rest,R (.exit 0) ((0,.ptr p []) :: (2,.ptr (fresh ob) []) :: rest) (O2 vs o (.d Yi) ts6) := by
  intro h rest
  refine re _ _ _ ?_
  simp
  refine Xjd hP n hn n (Nat.le_refl _) ts6 (by omega) _ p m c en (hOp2 _ _) (hOc _ _) _ (RP.bind h (fun ts' e h => ?_) (fun f ts7 h7 h => ?_))
  ·unfold EP
   rw [hOs2]
   simp
   exact hlv _ ts' e [] (by simp [Xc]) h
  ·intro N v ids hN hnd hin hF
   rw [hOs2]
   have hgg := hOg (.d Yi) ts6
   have hN1 : ∀ j ∈ Xc N,fresh ob + 1 ≤ j := fun j hj => by have := hN.ge j hj; omega
   have ht : fresh ob ∉ Xc N := fun e => by have := hN1 _ e; omega
   have hpN : p ∉ Xc N := fun e => by have := hN1 _ e; omega
   have hlk : ∀ fv ts',lookO (N ++ O2 vs o fv ts') (fresh ob) = some (bx (vV vs o) fv) := fun fv ts' => by rw [Yg ht,hOt2]
   have hst : ∀ fv fv' ts',setO (N ++ O2 vs o fv ts') (fresh ob) (bx (vV vs o) fv') = N ++ O2 vs o fv' ts' := fun fv fv' ts' => by rw [Y8 ht,hOf2]
   have hlp : ∀ fv ts',lookO (N ++ O2 vs o fv ts') p = some (pb ts' en (.mp m)) := fun fv ts' => by rw [Yg hpN,hOp2]
   have hsp : ∀ fv ts1 ts',setO (N ++ O2 vs o fv ts1) p (pb ts' en (.mp m)) = N ++ O2 vs o fv ts' := fun fv ts1 ts' => by rw [Y8 hpN,hOs2]
   obtain ⟨v1,v2,v3,v4⟩ := hF.fits
   simp only [bx] at hlk hst
   have hvs : (vV vs o).shape = .leaf := by
    rcases hk with ⟨_,rfl⟩ | ⟨_,id,rfl,hid⟩ <;> rfl
   have hvt : (vV vs o).sto = true := by
    rcases hk with ⟨_,rfl⟩ | ⟨_,id,rfl,hid⟩ <;> rfl
   have hks : ∀ j ∈ Xc N,fresh ob ≤ j := fun j hj => by have := hN1 j hj; omega
   simp [hlk,v1,v3,hst,Yi,hvs]
   simp [X6o]
   refine Vf hP hS (hlp _ _) _ _ (RP.pk h (fun ts' e h => ?_) (fun a ts8 h8 h => ?_))
   ·rw [hsp]
    simp
    exact hlv _ _ e N hks h
   rw [hsp]
   simp [X6n]
   refine Vf hP hS (hlp _ _) _ _ (RP.pk h (fun ts' e h => ?_) (fun a ts9 h9 h => ?_))
   ·rw [hsp]
    simp
    exact hlv _ _ e N hks h
   rw [hsp]
   simp [X6m,hlp]
   cases ts9 with
   | cons x r =>
    simp
    refine X59 hP hS (hlp _ _) 100 ?_
    rw [hsp]
    simp
    exact hlv _ _ 100 N hks (by simpa [Xd,X1h] using h)
   | nil =>
    simp [X6l,hlk,Xcq,hvs,v1,v3,hvt,hst]
    have h' : ∀ N vv fv a b,News (fresh ob) N → (a ++ b).Nodup → (∀ j ∈ a ++ b,j ∈ Xc N) → Xrf N vs vv a → Zt N f fv b → K (.ret (qS name pur vv fv)) (N ++ setO ob p (pb [] en (.mp m))) := by simpa [Xd,X1h] using h
    refine ⟨X50,?_⟩
    rcases hk with ⟨rfl,rfl⟩ | ⟨hne,id,rfl,hid⟩
    ·have hV : Xrf N [] (.d .nils) [] := .inl ⟨rfl,rfl,rfl⟩
     exact Xvw hp hm (M := [(fresh ob,bx (.d .nils) v)]) (hN.le (by omega)) (fun j hj => by simp [Xc] at hj; subst hj; exact ⟨Nat.le_refl _,ht⟩)
      (fun q hq => by simp [vV,hF.men (fun j hj => hq j (hin j hj))]) (h' N _ v [] ids (hN.le (by omega)) (by simpa using hnd) (by simpa using hin) hV hF)
    ·have hidl : id < fresh (O2 vs (some id) (.d Yi) ts6) := X2 (by rw [hOk2]; simp)
     have hiN : id ∉ Xc N := fun e => by have := hN.ge _ e; omega
     have hkN : Xc (N ++ [(id,Ob.arr 63 4 (vs.map RVar.enc))]) = Xc N ++ [id] := by rw [Wg]; rfl
     have hNN : News (fresh ob) (N ++ [(id,Ob.arr 63 4 (vs.map RVar.enc))]) := by
      refine (hN.le (by omega)).app ⟨fun j hj => ?_,fun q _ => rfl⟩
      simp [Xc] at hj
      omega
     have hV : Xrf (N ++ [(id,Ob.arr 63 4 (vs.map RVar.enc))]) vs (.sl id vs.length) [id] := .inr ⟨hne,id,rfl,rfl,by rw [Yg hiN]; simp⟩
     have hF' : Zt (N ++ [(id,Ob.arr 63 4 (vs.map RVar.enc))]) f v ids := hF.look (fun j hj => Vm (hin j hj))
     have := h' _ _ v [id] ids hNN (by
      rw [List.singleton_append]
      exact List.nodup_cons.2 ⟨fun e => hiN (hin _ e),hnd⟩) (fun j hj => by
      rw [hkN]
      simp only [List.singleton_append,List.mem_cons] at hj
      rcases hj with rfl | hj
      ·simp
      ·simp [hin j hj]) hV hF'
     have hl := Xvw hp hm (M := [(fresh ob,bx (.sl id vs.length) v)]) (v := qS name pur (.sl id vs.length) v) hNN (fun j hj => by
      simp [Xc] at hj; subst hj
      rw [hkN]
      exact ⟨Nat.le_refl _,fun e => by
       rw [List.mem_append] at e
       rcases e with e | e
       ·exact ht e
       ·simp at e; omega⟩) (fun q hq => by
      rw [hkN] at hq
      simp [V.men,hF.men (fun j hj => hq j (by simp [hin j hj])),hq id (by simp)]) this
     simpa [O2,vV] using hl
 cases hf : Xf 1 Jr ts6 with
 | false =>
  have hfb : Ul ts6 = false := by simp [Ul,hf]
  simp only [Go.Sx.ifM,hfb,Bool.false_eq_true,if_false] at h
  simp [Xla]
  exact exitF h _
 | true =>
  simp
  refine Xzj hP hS (ts := ts6) (en := en) (S := .mp m) (hOp2 _ _) _ _ ?_
  rw [hOs2]
  cases hd : Xf 3 [46] ts6.tail with
  | true =>
   have hfb : Ul ts6 = false := by simp [Ul,hf,Xil,hd]
   simp only [Go.Sx.ifM,hfb,Bool.false_eq_true,if_false] at h
   simp [Xla]
   exact exitF h _
  | false =>
   have hfb : Ul ts6 = true := by simp [Ul,hf,Xil,hd]
   simp only [Go.Sx.ifM,hfb,if_true,Xzf,Wu,Yh,Za,U4] at h
   have er : ∀ ts' e (M : Objs),(∀ j ∈ Xc M,fresh ob ≤ j) → EP K ob p en (.mp m) ts' e → R (.panic (.d (Vt en ts' e))) [] (M ++ O2 vs o (.d Yi) ts') := fun ts' e M hM h => by
    refine rp _ _ _ ?_
    simp
    exact hlv _ ts' e M hM h
   have hgg := hOg (.d Yi) ts6
   have hxf : ∀ ts',fresh (O2 vs o (.d Yi) ts') = fresh (O2 vs o (.d Yi) ts6) := fun ts' => by rw [← hOs2 (.d Yi) ts6 ts']; simp
   simp [Xla,Xz9]
   refine Vf hP hS (hOp2 _ _) _ _ (RP.pk h (fun ts' e h => ?_) (fun a ts7 h7 h => ?_))
   ·rw [hOs2]
    simp
    exact er ts' e [] (by simp [Xc]) h
   rw [hOs2]
   simp [X6s]
   refine Xee hP hS (hOp2 _ _) (RP.pk h (fun ts' e h => ?_) (fun vn ts8 h8 h => ?_))
   ·rw [hOs2]
    simp
    exact er ts' e [] (by simp [Xc]) h
   rw [hOs2]
   simp [X6r]
   rw [hxf ts8]
   have hyy : ∃ y,fresh (O2 vs o (.d Yi) ts6) = y := ⟨_,rfl⟩
   obtain ⟨y,hy⟩ := hyy
   rw [hy] at hgg hxf ⊢
   have e3 : (y == p) = false := by simp; omega
   have e4 : (y == fresh ob) = false := by simp; omega
   have hOp3 : ∀ b ts',lookO ((y,b) :: O2 vs o (.d Yi) ts') p = some (pb ts' en (.mp m)) := fun b ts' => by rw [Xq _ _ _ _ e3,hOp2]
   have hOs3 : ∀ b ts1 ts',setO ((y,b) :: O2 vs o (.d Yi) ts1) p (pb ts' en (.mp m)) = (y,b) :: O2 vs o (.d Yi) ts' := fun b ts1 ts' => by rw [Yk _ _ _ _ _ e3,hOs2]
   have er3 : ∀ b ts' e,EP K ob p en (.mp m) ts' e → R (.panic (.d (Vt en ts' e))) [] ((y,b) :: O2 vs o (.d Yi) ts') := fun b ts' e h => er ts' e [(y,b)] (by simp [Xc]; omega) h
   refine Xee hP hS (hOp3 _ _) (RP.pk h (fun ts' e h => ?_) (fun vk ts9 h9 h => ?_))
   ·rw [hOs3]
    simp
    exact er3 _ ts' e h
   rw [hOs3]
   simp [X6q]
   refine Xax hP hS (hOp3 _ _) _ _ (RP.pk h (fun ts' e h => ?_) (fun vo ts10 h10 h => ?_))
   ·rw [hOs3]
    simp
    exact er3 _ ts' e h
   rw [hOs3]
   simp [X6p]
   refine Vf hP hS (hOp3 _ _) _ _ (RP.pk h (fun ts' e h => ?_) (fun a ts11 h11 h => ?_))
   ·rw [hOs3]
    simp
    exact er3 _ ts' e h
   rw [hOs3]
   have hts11 : ts11.length + 1 ≤ ts6.length := by
    have g1 := Qp h7; have g2 := Vj.name _ _ _ h8; have g3 := Vj.name _ _ _ h9; have g4 := Vj.accept _ _ _ _ _ h10; have g5 := Qp h11
    omega
   rcases hk with ⟨rfl,rfl⟩ | ⟨hne,id,rfl,hid⟩
   ·have hl1 : ∀ b,lookO ((y,b) :: O2 [] none (.d Yi) ts11) (fresh ob) = some (.box 93 (qS name pur (.d .nils) (.d Yi))) := fun b => by rw [Xq _ _ _ _ e4,hOt2]
    have e5 : (y + 1 == fresh ob) = false := by simp; omega
    have e6 : (y == fresh ob) = false := e4
    have hy0 := hxf ts11
    have hl2 : lookO (O2 [] none (.d Yi) ts11) (fresh ob) = some (.box 93 (qS name pur (.d .nils) (.d Yi))) := hOt2 _ _
    have zs : Yi.shape.size = 14 := rfl
    simp [Xtg,hl1,hy0,e5,e6,hl2]
    have hst : setO (O2 [] none (.d Yi) ts11) (fresh ob) (.box 93 (qS name pur (.sl (y + 1) 1) (.d Yi))) = (fresh ob,bx (.sl (y + 1) 1) (.d Yi)) :: setO ob p (pb ts11 en (.mp m)) := by simp [O2,bx]
    rw [hst]
    have hO6 : fresh (O2 [] none (.d Yi) ts6) = y := hy
    refine rn [y + 1] ([⟨vn,vk,0,vo⟩],some (y + 1),ts11,k) _ _ ⟨.inr ⟨by simp,y + 1,rfl,by omega⟩,by simp only; omega,by simp only [List.length_cons,List.length_nil] at hk2 ⊢; omega,by simpa using h⟩ (by simp only; omega) (by simp) ?_ ?_ ?_
    ·show Xy (young (fresh (O2 [] none (.d Yi) ts6)) [y + 1]) _ = _
     rw [hO6]
     have d1 : young y [y + 1] y = true := by simp [young]
     have d2 : young y [y + 1] (y + 1) = false := by simp [young]
     have d3 : young y [y + 1] (fresh ob) = false := by simp [young]; omega
     simp only [Xy,d1,d2,d3,if_true,if_false,Bool.false_eq_true]
     rw [X8 (fun j hj => by
      rw [Ya] at hj
      have := X2 hj
      simp [young]; omega)]
     rfl
    ·show Uw (young (fresh (O2 [] none (.d Yi) ts6)) [y + 1]) _ = true
     rw [hO6]
     simp [young]; omega
    ·show noMenO (young (fresh (O2 [] none (.d Yi) ts6)) [y + 1]) (O2 [⟨vn,vk,0,vo⟩] (some (y + 1)) (.d Yi) ts11) = true
     rw [hO6]
     have d2 : young y [y + 1] (y + 1) = false := by simp [young]
     simp [O2,bx,noMenO,V.men,d2]
     exact noMenO_set_box _ _ _ _ _ (noMenO_up hm (by omega)) (by have := Wh (noMenO_up (l := [y + 1]) (n := y) hm (by omega)) hp; simpa [pv] using this)
   ·have hl1 : ∀ b,lookO ((y,b) :: O2 vs (some id) (.d Yi) ts11) (fresh ob) = some (.box 93 (qS name pur (.sl id vs.length) (.d Yi))) := fun b => by rw [Xq _ _ _ _ e4,hOt2]
    have hidl : id < y := by rw [← hy]; exact X2 (by rw [hOk2]; simp)
    have e7 : (y == id) = false := by simp; omega
    have e8 : (id == fresh ob) = false := by simp; omega
    have hO6 : fresh (O2 vs (some id) (.d Yi) ts6) = y := hy
    have hOe : O2 vs (some id) (.d Yi) ts11 = (id,.arr 63 4 (vs.map RVar.enc)) :: (fresh ob,bx (.sl id vs.length) (.d Yi)) :: setO ob p (pb ts11 en (.mp m)) := rfl
    rw [hOe] at hl1 ⊢
    simp only [bx] at hl1 ⊢
    simp [Xtg,hl1,e7,e8,e4]
    refine ⟨by omega,?_⟩
    refine rn [] (vs ++ [⟨vn,vk,0,vo⟩],some id,ts11,k) _ _ ⟨.inr ⟨by simp,id,rfl,hid⟩,by simp only; omega,by simp only [List.length_append,List.length_cons,List.length_nil] at hk2 ⊢; omega,by simpa [List.append_assoc] using h⟩ (by simp only; omega) (by simp) ?_ ?_ ?_
    ·show Xy (young (fresh (O2 vs (some id) (.d Yi) ts6)) []) _ = _
     rw [hO6]
     have d1 : young y [] y = true := by simp [young]
     have d2 : young y [] id = false := by simp [young]; omega
     have d3 : young y [] (fresh ob) = false := by simp [young]; omega
     simp only [Xy,d1,d2,d3,if_true,if_false,Bool.false_eq_true]
     rw [X8 (fun j hj => by
      rw [Ya] at hj
      have := X2 hj
      simp [young]; omega)]
     simp [O,O2,bx,RVar.enc]
    ·show Uw (young (fresh (O2 vs (some id) (.d Yi) ts6)) []) _ = true
     rw [hO6]
     simp [young]; omega
    ·show noMenO (young (fresh (O2 vs (some id) (.d Yi) ts6)) []) (O2 (vs ++ [⟨vn,vk,0,vo⟩]) (some id) (.d Yi) ts11) = true
     rw [hO6]
     have d2 : young y [] id = false := by simp [young]; omega
     simp [O2,bx,noMenO,V.men,d2]
     exact noMenO_set_box _ _ _ _ _ (noMenO_up hm (by omega)) (by have := Wh (noMenO_up (l := []) (n := y) hm (by omega)) hp; simpa [pv] using this)
end
end Go.Proofs.YtmapdjjigmkbfaaGreatDoor
/- Contracts: names are looked up while a question is resolved. Condition: the program is the seat's. -/
namespace Go.Sx
open Go Go.Ab Go.Lx
abbrev unD : D := .iface 86 (.agg [])
def VL (ob : Objs) (vs : List RVar) (vv : V) : Prop := (vs = [] ∧ vv = .d .nils) ∨ ∃ id,vv = .sl id vs.length ∧ lookO ob id = some (.arr 63 4 (vs.map RVar.enc))
def rV (y : RSrc) (vv : V) : V := V.mk [.d y.enc,vv]
section
variable {y : RSrc} {vv : V}
@[simp] theorem Yar : (rV y vv).kids = some [.d y.enc,vv] := V.kids_mk _
@[simp] theorem Xdx : (rV y vv).isAgg = true := V.isAgg_mk _
theorem Z0 : (rV y vv).shape = .node [.node [.leaf,.leaf,.leaf,.leaf,.leaf,.leaf],vv.shape] := by rw [V.shape_kids Yar]; rfl
@[simp] theorem rV_men {q : Nat → Bool} : V.men q (rV y vv) = V.men q vv := by rw [rV,Xqo]; simp [V.mens,V.men]
@[simp] theorem rV_sto : (rV y vv).sto = vv.sto := by rw [rV,Xqp]; simp [V.stos,V.sto]
end
theorem VL.shape {ob : Objs} {vs : List RVar} {vv : V} (h : VL ob vs vv) : vv.shape = .leaf ∧ vv.sto = true ∧ vv ≠ .any := by
 rcases h with ⟨_,rfl⟩ | ⟨id,rfl,_⟩ <;> exact ⟨rfl,rfl,by simp⟩
structure TLoc (T : V) (tst : RTerm → Objs) : Prop where
 nil : Jo T
 fa : ∀ t k,k < 5 → Qh (tst t) k k T
 nmV : ∀ t,ldV (tst t) (Yo 0 0 T) = .d (.str t.name)
 nmS : ∀ t,ldS (tst t) 1 false (Yo 0 0 T)
 paV : ∀ t,ldV (tst t) (Yo 1 1 T) = .d (.str t.path)
 paS : ∀ t,ldS (tst t) 1 false (Yo 1 1 T)
 vaV : ∀ t,ldV (tst t) (Yo 2 2 T) = .d (iD t.var)
 vaS : ∀ t,ldS (tst t) 1 false (Yo 2 2 T)
 stv : ∀ t x (K : V → Objs → Prop),K .undef (tst { t with var := x }) → stK (tst t) 1 (.d (.int .i64 x)) K (Yo 2 2 T)
 stf : ∀ t x (K : V → Objs → Prop),K .undef (tst { t with field := x }) → stK (tst t) 1 (.d (.int .i64 x)) K (Yo 3 3 T)
 fr : ∀ t t',fresh (tst t) = fresh (tst t')
 ks : ∀ t t',Xc (tst t) = Xc (tst t')
 nm : ∀ t t' q,noMenO q (tst t) = noMenO q (tst t')
end Go.Sx
namespace Go.Proofs.YtmapdjjigmkbfaaGreatDoor
open Go Go.Ab Go.Lx Go.Sx
set_option maxRecDepth 100000
section
variable {P : Prg} (hP : P.p = Tryz.prog)
include hP
theorem W8 (n : Int) (b : Bool) {ob : Objs} {K : Out → Objs → Prop} (h1 : b = true → K (.ret (.d (.int .i64 n))) ob) (h0 : b = false → K (.panic (.d unD)) ob) : ACall P 70 [.d (.int .i64 n),.d (.bool b)] ob K := by
 refine acall_lift hP mixed Yo8 Ysm TOk.nil fun _ hm => ?_
 cases b with
 | true =>
  simp [Ykz,X7i]
  exact ⟨[],by simp,by simpa using hm [],by simpa using h1 rfl⟩
 | false =>
  simp [Ykz]
  exact ⟨[],by simp,by simpa using hm [],by simpa using h0 rfl⟩
theorem X3h {y : RSrc} {vs : List RVar} (hvl : vs.length ≤ 1000000) {vv : V} (n : B) {ob : Objs} (hv : VL ob vs vv) {K : Out → Objs → Prop} (h1 : 0 ≤ Xi RVar.name vs n 0 → K (.ret (.d (.int .i64 (Xi RVar.name vs n 0)))) ob) (h0 : Xi RVar.name vs n 0 < 0 → K (.panic (.d unD)) ob) :
  ACall P 115 [rV y vv,.d (.str n)] ob K := by
 refine acall_lift hP mixed Yer Yjl TOk.nil fun hm0 hm => ?_
 obtain ⟨k1,k2,k3⟩ := hv.shape
 simp [Ygw,k1,k2,Z0]
 have go : ∀ (K' : V → Prop),K' (.d (.int .i64 (Xi RVar.name vs n 0))) → PCall P 94 [vv,.d (.str n)] ((fresh ob,.box 96 (rV y vv)) :: ob) K' := by
  intro K' h
  rcases hv with ⟨rfl,rfl⟩ | ⟨id,rfl,hl⟩
  ·exact PCall.le (xs := [.nils,.str n]) (ys := [.list 4 [],.str n]) (D.les.cons (D.le.nil 4) (D.les.cons (D.le.refl _) D.les.nil)) (Qt hP (l := []) (by simp) n h)
  ·have hid := Xt hl
   have e : (fresh ob == id) = false := by simp; omega
   refine PCall.borrow (n := 5) (ds := [.list 4 (vs.map RVar.enc),.str n]) (by simp [e,hl]) (Qt hP (by omega) n ⟨by simp [V.flatR],h⟩)
 have hva : vv.isAgg = false := by rcases hv with ⟨_,rfl⟩ | ⟨id,rfl,_⟩ <;> rfl
 refine ⟨⟨rfl,hva⟩,?_⟩
 refine go _ ?_
 simp
 have fin : ∀ out v1,(∀ q,V.men q v1 = false) → K out ob → Xx (fresh ob) (K out) [v1] ((fresh ob,.box 96 (rV y vv)) :: ob) := fun out v1 hv1 h => by
  have hd : Xy (young (fresh ob) []) ((fresh ob,.box 96 (rV y vv)) :: ob) = ob := by
   simp only [Xy,Ub,if_true]
   exact X8 (fun j hj => by have := X2 hj; simp [young]; omega)
  exact ⟨[],by simp [V.mens,hv1],by rw [hd]; exact hm [],by rw [hd]; exact h⟩
 refine W8 hP _ _ (fun hb => ?_) (fun hb => ?_)
 ·simp
  exact fin _ _ (fun q => rfl) (h1 (by simpa using hb))
 ·simp
  exact fin _ _ (fun q => rfl) (h0 (by simpa using hb))
theorem X3i {y : RSrc} (hy : y.small) {vs : List RVar} (hvl : vs.length ≤ 1000000) (hvi : Xb6 y vs) {vv : V} {T : V} {tst : RTerm → Objs} (hT : ∀ z o,(∀ t,fresh (tst t) ≤ z) → TLoc T (fun t => (z,o) :: tst t)) (hv : ∀ t,VL (tst t) vs vv) (hfr : ∀ t t',fresh (tst t) = fresh (tst t')) (hnm : ∀ t t' q,noMenO q (tst t) = noMenO q (tst t')) (hks : ∀ t t',Xc (tst t) = Xc (tst t')) (t : RTerm) {K : Out → Objs → Prop}
  (h1 : ∀ t',Xow y vs t = some t' → K (.ret (.tup [])) (tst t')) (h0 : Xow y vs t = none → ∀ t',K (.panic (.d unD)) (tst t')) : ACall P 116 [rV y vv,T] (tst t) K := by
 refine acall_lift hP mixed Yes Yjm TOk.nil fun _ hm => ?_
 obtain ⟨k1,k2,k3⟩ := (hv t).shape
 have hva : vv.isAgg = false := by rcases hv t with ⟨_,rfl⟩ | ⟨id,rfl,_⟩ <;> rfl
 obtain ⟨z,hz⟩ : ∃ z,fresh (tst t) = z := ⟨_,rfl⟩
 rw [hz] at hm ⊢
 have hzt : ∀ t',fresh (tst t') = z := fun t' => by rw [hfr t' t,hz]
 have hL := hT z (.box 96 (rV y vv)) (fun t' => by rw [hzt]; exact Nat.le_refl _)
 have lv : ∀ t' out v1,(∀ q,V.men q v1 = false) → K out (tst t') → Xx z (K out) [v1] ((z,.box 96 (rV y vv)) :: tst t') := fun t' out v1 hv1 h => by
  have hd : Xy (young z []) ((z,.box 96 (rV y vv)) :: tst t') = tst t' := by
   simp only [Xy,Ub,if_true]
   exact X8 (fun j hj => by have := X2 hj; rw [hzt] at this; simp [young]; omega)
  exact ⟨[],by simp [V.mens,hv1],by rw [hd,hnm t' t]; exact hm [],by rw [hd]; exact h⟩
 have lr : ∀ t',K (.ret (.tup [])) (tst t') → Xx z (K (.ret (.tup []))) [] ((z,.box 96 (rV y vv)) :: tst t') := fun t' h => by
  have hd : Xy (young z []) ((z,.box 96 (rV y vv)) :: tst t') = tst t' := by
   simp only [Xy,Ub,if_true]
   exact X8 (fun j hj => by have := X2 hj; rw [hzt] at this; simp [young]; omega)
  exact ⟨[],by simp,by rw [hd,hnm t' t]; exact hm [],by rw [hd]; exact h⟩
 have hvc : ∀ t',VL ((z,.box 96 (rV y vv)) :: tst t') vs vv := fun t' => by
  rcases hv t' with h | ⟨id,e,hl⟩
  ·exact .inl h
  ·have := Xt hl
   rw [hzt] at this
   exact .inr ⟨id,e,by rw [Xq _ _ _ _ (by simp; omega)]; exact hl⟩
 by_cases hne : t.name = []
 ·simp [Ybp,k1,k2,Z0,hz,hL.nmV t,hL.nmS t,hL.nil,hL.fa t 0 (by omega),hne]
  exact lr t (h1 t (by simp [Xow,hne]))
 ·simp [Ybp,k1,k2,Z0,hz,hL.nmV t,hL.nmS t,hL.nil,hL.fa t 0 (by omega),hne]
  refine ⟨Xdx,?_⟩
  have hres : Xow y vs t = match vs[(Xi RVar.name vs t.name 0).toNat]? with
   | none => none
   | some v => if Xi RVar.name vs t.name 0 < 0 ∨ Xi RField.name (fieldsOf y v) t.path 0 < 0 then none
    else some ⟨t.name,t.path,Xi RVar.name vs t.name 0,Xi RField.name (fieldsOf y v) t.path 0,t.n⟩ := by unfold Xow; rw [if_neg hne]; all_goals rfl
  refine X3h hP hvl t.name (hvc t) (fun hi => ?_) (fun hlt => ?_)
  ·obtain ⟨i,hil,f1,f2,_⟩ := W5 hi
   obtain ⟨s,hs1,hs2⟩ := hvi _ (List.getElem_mem hil)
   have hin : ¬ (i : Int) < 0 := by omega
   rw [f1] at hres ⊢
   simp only [Int.toNat_natCast,List.getElem?_eq_getElem hil,hin,false_or] at hres
   obtain ⟨id,rfl,hl⟩ : ∃ id,vv = .sl id vs.length ∧ lookO (tst t) id = some (.arr 63 4 (vs.map RVar.enc)) := by
    rcases hv t with ⟨rfl,_⟩ | h
    ·simp at hil
    ·exact h
   have hidz : id < z := by rw [← hz]; exact Xt hl
   have ez : (z == id) = false := by simp; omega
   simp [hL.fa t 2 (by omega)]
   refine hL.stv t _ _ ?_
   have hl2 : ∀ t',lookO (tst t') id = some (.arr 63 4 (vs.map RVar.enc)) := fun t' => by
    rcases hv t' with ⟨rfl,_⟩ | ⟨id',e,h⟩
    ·simp at hil
    ·cases e; exact h
   generalize ht1 : ({ t with var := (i : Int) } : RTerm) = t1
   have tn : t1.name = t.name := by rw [← ht1]
   have tp : t1.path = t.path := by rw [← ht1]
   have tv : t1.var = i := by rw [← ht1]
   have hfo : fieldsOf y vs[i] = y.schemas[s].fields := by simp [fieldsOf,hs1,hs2]
   rw [hfo] at hres
   simp [Xz3,hL.paV t1,hL.paS t1,hL.vaV t1,hL.vaS t1,hL.nil,hL.fa t1 1 (by omega),hL.fa t1 2 (by omega),hL.fa t1 3 (by omega),tv,tp,hl2,ez,hil,RVar.enc,hs1]
   refine ⟨rfl,⟨rfl,rfl⟩,rfl,⟨rfl,rfl⟩,?_⟩
   refine Xuf hP hy.schema hy.schemas (fun hb => by omega) (fun j hj e => ?_)
   have e' : j = s := by omega
   subst e'
   rcases Zh RField.name t.path y.schemas[j].fields 0 with ⟨g1,_⟩ | ⟨k,hk,g1,_,_⟩
   ·rw [g1]
    rw [g1] at hres
    simp [Ym]
    refine W8 hP _ _ (fun hb => by cases hb) (fun hb => ?_)
    simp
    exact lv t1 _ _ (fun q => rfl) (h0 (by rw [hres]; simp) t1)
   ·simp only [Int.zero_add] at g1
    have hkn : ¬ (k : Int) < 0 := by omega
    rw [g1]
    rw [g1] at hres
    simp [Ym,hkn]
    refine W8 hP _ _ (fun hb => ?_) (fun hb => by cases hb)
    simp [hL.fa t1 3 (by omega)]
    refine hL.stf t1 _ _ ?_
    refine lr _ (h1 _ ?_)
    rw [hres,← ht1]
    simp [hkn]
  ·simp
   refine lv t _ _ (fun q => rfl) (h0 ?_ t)
   rw [hres]
   cases vs[(Xi RVar.name vs t.name 0).toNat]? with
   | none => rfl
   | some v => simp [hlt]
end
end Go.Proofs.YtmapdjjigmkbfaaGreatDoor
