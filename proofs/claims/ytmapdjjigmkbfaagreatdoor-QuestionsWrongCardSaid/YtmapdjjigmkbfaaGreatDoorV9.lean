/- Texts of this claim joined by a program, part 9 of 15; the last is: What the evaluator of the questions' examples knows beside its table. No condition. -/
import Derived.Test.YtmapdjjigmkbfaaGreatDoorV5
import Derived.Test.YtmapdjjigmkbfaaGreatDoorV6
import Derived.Test.YtmapdjjigmkbfaaGreatDoorV8
import Derived.KernelRfl
set_option linter.unusedSimpArgs false
set_option linter.unusedVariables false
set_option linter.unusedSectionVars false
set_option linter.defProp false
/- The law QuestionsWrong. Condition: the program is the seat's; its package variables are laid. -/
namespace Go.Sx
open Go Go.Ab Go.Lx
structure StopAt (s : B) (l r : List Tok) (a k : Nat) : Prop where
 le : k ≤ l.length
 lt : ∀ i (h : i < l.length),i < k → l[i].at_ < a
 eq : ∀ h : k < l.length,l[k].at_ = a
 len : a ≤ s.length
 last : k = l.length ↔ a = s.length
 at_ : ∀ e,Yg l = .err r e → atI s.length r = a
theorem X7z {s : B} {l r : List Tok} {e : Int} (hl : Zo s 0 = .ok l) (h : Yg l = .err r e) : ∃ a k,StopAt s l r a k ∧ ((k = l.length ∧ r = []) ∨ ∃ pre t post,l = pre ++ t :: post ∧ r = t :: post ∧ k = pre.length ∧ Zo (s.take a) 0 = .ok pre ∧ (Yg pre).End) := by
 rcases X07 hl h with ⟨rfl,h1⟩ | ⟨pre,t,post,m,rfl,rfl,h1,h2,h3,h4,h5⟩
 ·exact ⟨s.length,l.length,⟨Nat.le_refl _,fun i hi _ => h1 _ (List.getElem_mem hi),fun h => absurd h (Nat.lt_irrefl _),Nat.le_refl _,⟨fun _ => rfl,fun _ => rfl⟩,fun _ _ => rfl⟩,.inl ⟨rfl,rfl⟩⟩
 ·refine ⟨m,pre.length,⟨by simp,fun i hi hlt => ?_,fun hk => ?_,by omega,⟨fun hk => ?_,fun hk => ?_⟩,fun _ _ => h1⟩,.inr ⟨pre,t,post,rfl,rfl,rfl,h4,h5⟩⟩
  ·rw [List.getElem_append_left hlt]
   exact h3 _ (List.getElem_mem hlt)
  ·simp [h1]
  ·simp at hk
  ·omega
theorem Xss (y : RSrc) {s : B} {pre : List Tok} {a : Nat} (ha : a ≤ s.length) (hs : s.length ≤ 10000) (hl : Zo (s.take a) 0 = .ok pre) (h : (Yg pre).End) : (Y9 y (s.take a)).2.2 = 100 → (Y9 y (s.take a)).2.1 = a := by
 have hlen : (s.take a).length = a := by simp; omega
 rw [Y9,if_neg (by omega),hl]
 simp only
 cases hq : Yg pre with
 | err r e =>
  rw [hq] at h
  simp only [R.End] at h
  subst h
  intro _
  simp only [Xd5,atI,hlen]
 | ok x r =>
  simp only [Xd5,Xug]
  split
  ·intro h; simp at h
  ·split
   ·intro h; simp at h
   ·intro h; simp at h
theorem Xv0 {s : B} {l p q : List Tok} (hl : Zo s 0 = .ok l) (e : l = p ++ q) : (X7 p).length ≤ 2 * s.length := by
 cases q with
 | nil =>
  rw [List.append_nil] at e
  rw [← e]
  exact (Qr s 0 _ hl).2
 | cons t post =>
  obtain ⟨m,_,h2,h3⟩ := Xt1 _ _ _ hl p t post e
  have := (Qr _ 0 _ h3).2
  simp at this
  omega
theorem Xqg (y : RSrc) {s : B} {pre post : List Tok} {t : Tok} {e : Int} (hl : Zo s 0 = .ok (pre ++ t :: post)) (h : Yg (pre ++ t :: post) = .err (t :: post) e) (more : B) (hs : s.length + more.length ≤ 3000) :
  (X7 (pre ++ [t]) ++ 32 :: more).length ≤ 10000 ∧ ((Y9 y (X7 (pre ++ [t]) ++ 32 :: more)).2.2 = 90 ∨ ((Y9 y (X7 (pre ++ [t]) ++ 32 :: more)).2.2 = 100 ∧ (Y9 y (X7 (pre ++ [t]) ++ 32 :: more)).2.1 = (Je pre : Nat))) := by
 have h1 := Xv0 (p := pre ++ [t]) (q := post) hl (by simp)
 have hlen : (X7 (pre ++ [t]) ++ 32 :: more).length ≤ 10000 := by simp; omega
 refine ⟨hlen,?_⟩
 rw [Y9,if_neg (by omega)]
 rcases Xq7 hl h more with ⟨x,hx⟩ | ⟨l,r,hx,hq,ha⟩
 ·rw [hx]; exact .inl rfl
 ·rw [hx]
  right
  simp only [hq,Xd5,ha,and_self]
theorem Xpf {l : List Tok} (h : ∀ t ∈ l,validB t = true) : Xhi l = .tup [.d (.str (X7 l)),.d (.int .i64 0)] := by
 rw [Xhi,if_pos (by rw [List.all_eq_true]; exact h)]
theorem X0g {s : B} {l : List Tok} (hs : s.length ≤ 65536) (h : Zo s 0 = .ok l) : X0e s = .tup [.d (.list 4 (l.map Tok.enc)),.d (.int .i64 0),.d (.int .i64 0)] := by
 rw [X0e,if_neg (by omega),h]; rfl
end Go.Sx
namespace Go.Proofs.YtmapdjjigmkbfaaGreatDoor
open Go Go.Ab Go.Lx Go.Sx
set_option maxRecDepth 100000
set_option maxHeartbeats 1000000
section
variable {P : Prg} (hP : P.p = Tryz.prog) (hsane : ∀ {ob : Objs} {K : V → Prop},K (.d (.bool true)) → PCall P 8 [] ob K) (hG : Pow P)
include hP hsane hG
theorem p_QuestionsWrong {t : RTab} (hy : t.src.small) (ho : t.order.length ≤ 9223372036854775807) (s m : B) (hsl : s.length ≤ 4611686018427387903) (hml : m.length ≤ 4611686018427387903) {ob : Objs} {K : V → Prop} (h : K (.d (.bool true))) : PCall P 5 [.d t.enc,.d (.str s),.d (.str m)] ob K := by
 have hts : t.enc.shape.size = 7 := rfl
 have hqz : qSh.size = 17 := rfl
 have hw : IntKind.i64.wrap ((s.length : Int) + m.length) = (s.length : Int) + m.length := IntWalk.i64_in _ (by omega)
 refine pcall_lift hP mixed (ds := [t.enc,.str s,.str m]) ok5 lf5 TOk.nil ?_
 simp [Et5,hts]
 refine hsane ?_
 simp [hts]
 refine ⟨rfl,?_⟩
 refine Xke hP hy ho (fun b => ?_)
 cases b with
 | false => simp; exact h
 | true =>
  simp [hw]
  refine ⟨fun _ => h,fun hl3 => ?_⟩
  have hsm : s.length + m.length ≤ 3000 := by omega
  have hsc : s.length ≤ 10000 := by omega
  refine ⟨rfl,?_⟩
  refine Xkf hP hy s (Xne hsc) (fun d hd => ?_)
  have hds := Xty hd
  simp [hds,hqz]
  have hpq : ∀ l,Zo s 0 = .ok l → Y9 t.src s = Xd5 t.src s.length (Yg l) := fun l hl => by rw [Y9,if_neg (by omega)]; simp only [hl]
  cases hl : Zo s 0 with
  | err e =>
   have : Y9 t.src s = (Xds,(e : Int),90) := by rw [Y9,if_neg (by omega)]; simp only [hl]
   rw [this]
   simp
   exact h
  | ok l =>
   have hp := hpq l hl
   have hll := Xt2 s 0 l hl
   cases hq : Yg l with
   | ok x r =>
    have he : (Y9 t.src s).2.2 ≠ 100 := by
     rw [hp,hq]
     simp only [Xd5,Xug]
     split
     ·simp
     ·split <;> simp
    simp [he]
    exact h
   | err r e =>
    obtain ⟨a,k,hst,hcase⟩ := X7z hl hq
    have hpe : Y9 t.src s = (Xds,(a : Int),100) := by
     rw [hp,hq]
     simp only [Xd5,hst.at_ e hq]
    rw [hpe]
    simp
    refine X5f hP s ?_
    rw [X0g (by omega) hl]
    simp
    refine ALoop.go (ι := Nat) (fun i => [(1,.d (.str s)),(2,.d (.str m)),(3,.ptr 0 []),(8,.d (.int .i64 a)),(10,.d (.list 4 (l.map Tok.enc))),(13,.d (.int .i64 i))])
     (fun _ => [(1,.box 44 (.d d)),(0,.box 32 (.d t.enc))]) (fun i => i ≤ k) (fun i => k - i) 0 (Nat.zero_le _) (by simp) (by simp) ?_
    intro i hi R rn re rr rp
    have hkl := hst.le
    by_cases hlt : i < k
    ·have hil : i < l.length := by omega
     have hat := hst.lt i hil hlt
     simp [Xrv,hil,Tok.enc,hat]
     have hw1 : IntKind.i64.wrap ((i : Int) + 1) = (i : Int) + 1 := IntWalk.i64_in _ (by omega)
     refine rn [] (i + 1) _ _ (by omega) (by omega) (by simp [hw1]) (by simp [young]) (by simp [young]) (by simp [young])
    ·have hik : i = k := by omega
     subst hik
     suffices hR : R (.exit 0) [(1,.d (.str s)),(2,.d (.str m)),(3,.ptr 0 []),(8,.d (.int .i64 a)),(10,.d (.list 4 (l.map Tok.enc))),(13,.d (.int .i64 i)),(67,.d (.bool false))] [(1,.box 44 (.d d)),(0,.box 32 (.d t.enc))] by
      by_cases hil : i < l.length
      ·have hat := hst.eq hil
       simp [Xrv,hil,Tok.enc,hat]
       simpa [hil,hat] using hR
      ·simp [Xrv,hil]
       simpa [hil] using hR
     refine re 0 _ _ ?_
     have hlen := hst.len
     have hlast := hst.last
     have ha0 : ¬ (a : Int) < 0 := by omega
     have ha1 : ¬ (s.length : Int) < a := by omega
     have nxt : ∀ (d2 : D) (to e2 : Int),(e2 = 100 → to = a) → Zc P [] Xou (Vb (Zc P [] Xov (Xa4 [RV.t 6] K)) (Xa4 [RV.t 6] K)) [(2,.d (.str m)),(3,.ptr 0 []),(8,.d (.int .i64 a)),(10,.d (.list 4 (l.map Tok.enc))),(13,.d (.int .i64 i)),(15,.d (.int .i64 to)),(16,.d (.int .i64 e2))] [(2,.box 44 (.d d2)),(1,.box 44 (.d d)),(0,.box 32 (.d t.enc))] := by
      intro d2 to e2 hto
      simp [X8u]
      refine ⟨fun c1 c2 => absurd (hto c1) c2,fun _ => ?_⟩
      simp [X8v]
      refine ⟨fun _ => h,fun hne => ?_⟩
      obtain ⟨pre,tk,post,rfl,rfl,rfl,_,_⟩ : ∃ pre t post,l = pre ++ t :: post ∧ r = t :: post ∧ i = pre.length ∧ Zo (s.take a) 0 = .ok pre ∧ (Yg pre).End := by
       rcases hcase with ⟨h1,_⟩ | h1
       ·exact absurd (by omega) hne
       ·exact h1
      obtain ⟨hval,hjl⟩ := Qr s 0 _ hl
      have hw2 : IntKind.i64.wrap ((pre.length : Int) + 1) = (pre.length : Int) + 1 := IntWalk.i64_in _ (by simp at hll; omega)
      have htn : ((pre.length : Int) + 1).toNat = pre.length + 1 := by omega
      have ht1 : ((pre ++ tk :: post).map Tok.enc).take (pre.length + 1) = (pre ++ [tk]).map Tok.enc := by
       rw [← List.map_take]
       congr 1
       rw [List.take_append,List.take_of_length_le (by omega)]
       simp
      have ht0 : ((pre ++ tk :: post).map Tok.enc).take pre.length = pre.map Tok.enc := by
       rw [← List.map_take,List.take_left']
       rfl
      rw [hw2,htn,ht1,ht0]
      have hv1 : ∀ t ∈ pre ++ [tk],validB t = true := fun x hx => hval x (by
       simp only [List.mem_append,List.mem_cons,List.not_mem_nil,or_false] at hx ⊢
       rcases hx with hx | hx
       ·exact .inl hx
       ·exact .inr (.inl hx))
      have hv0 : ∀ t ∈ pre,validB t = true := fun x hx => hval x (by simp [hx])
      obtain ⟨hm1,hm2⟩ := Xqg t.src hl hq m (by omega)
      refine ⟨⟨by omega,by simp⟩,?_⟩
      refine Xsl hP hG (l := pre ++ [tk]) (.inl rfl) (by rw [List.length_append] at hll ⊢; simp only [List.length_cons,List.length_nil] at hll ⊢; omega) ?_
      rw [Xpf hv1]
      simp
      refine Xsl hP hG (l := pre) (.inl rfl) (by rw [List.length_append] at hll; omega) ?_
      rw [Xpf hv0]
      simp
      have hm3 : (X7 (pre ++ [tk])).length + 1 + m.length ≤ 10000 := by simp at hm1; omega
      refine ⟨⟨by omega,by omega⟩,⟨rfl,rfl⟩,⟨by omega,by omega⟩,⟨rfl,rfl⟩,?_⟩
      refine Xkf hP hy _ (Xne hm1) (fun d3 hd3 => ?_)
      have hds3 := Xty hd3
      simp [hds3]
      generalize (Y9 t.src (X7 (pre ++ [tk]) ++ 32 :: m)).2.2 = E at hm2
      generalize (Y9 t.src (X7 (pre ++ [tk]) ++ 32 :: m)).2.1 = A at hm2
      have hjp := Xv0 (p := pre) hl rfl
      have hw3 : IntKind.i64.wrap (((X7 pre).length : Int) + 1) = ((X7 pre).length : Int) + 1 := IntWalk.i64_in _ (by omega)
      refine ⟨fun hp0 => ?_,fun hp0 => ?_⟩
      ·have hwa : Je pre = (X7 pre).length + 1 := by rw [Je,if_neg (by intro e; rw [e] at hp0; simp at hp0)]
       rw [hwa] at hm2
       rw [hw3]
       rcases hm2 with rfl | ⟨rfl,rfl⟩
       ·simp [Xnx]
        exact h
       ·simp [Xnx]
        exact h
      ·subst hp0
       have hwa : Je [] = 0 := rfl
       rw [hwa] at hm2
       rcases hm2 with rfl | ⟨rfl,rfl⟩
       ·simp [Xnx,X7]
        exact h
       ·simp [Xnx,X7]
        exact h
     have par : ∀ ob' (K' : V → Prop),(∀ (d2 : D) (to e2 : Int),d2.shape = qSh → (e2 = 100 → to = a) → K' (.tup [.d d2,.d (.int .i64 to),.d (.int .i64 e2)])) → PCall P 10 [.d t.enc,.d (.str (s.take a))] ob' K' := fun ob' K' hK' => by
      refine Xkf hP hy _ (Xne (by simp; omega)) (fun d2 hd2 => hK' d2 _ _ (Xty hd2) ?_)
      rcases hcase with ⟨h1,rfl⟩ | ⟨pre,t',post,_,_,_,h3,h4⟩
      ·have ha : a = s.length := hlast.1 h1
       rw [ha,List.take_length,hpe,← ha]
       intro _; rfl
      ·exact Xss _ hlen hsc h3 h4
     by_cases hil : i < l.length
     ·have hat := hst.eq hil
      have hal : a < s.length := by omega
      simp [ha1,hil,hat,hal,Tok.enc,hts]
      refine ⟨fun c => absurd c (by omega),fun _ => ⟨hlen,rfl,par _ _ (fun d2 to e2 hd2 hto => ?_),par _ _ (fun d2 to e2 hd2 hto => ?_)⟩⟩
      ·simp [Xhq,hd2]
       exact nxt d2 to e2 hto
      ·simp [Xhq,hd2]
       exact nxt d2 to e2 hto
     ·have hal : ¬ a < s.length := by omega
      simp [ha1,hil,hal,hts]
      refine ⟨fun c => absurd c (by omega),fun _ => ⟨hlen,rfl,par _ _ (fun d2 to e2 hd2 hto => ?_),par _ _ (fun d2 to e2 hd2 hto => ?_)⟩⟩
      ·simp [Xhq,hd2]
       exact nxt d2 to e2 hto
      ·simp [Xhq,hd2]
       exact nxt d2 to e2 hto
end
end Go.Proofs.YtmapdjjigmkbfaaGreatDoor
/- An evaluator of operations on abstract values, and that what it yields holds. Over any program; no condition. -/
namespace Go.Ab
open Go

mutual
def Sh.beq : Sh → Sh → Bool
 | .leaf,.leaf => true
 | .node xs,.node ys => Sh.beqs xs ys
 | _,_ => false
def Sh.beqs : List Sh → List Sh → Bool
 | [],[] => true
 | x :: r,y :: s => Sh.beq x y && Sh.beqs r s
 | _,_ => false
end
mutual
theorem Sh.beq_eq : ∀ (a b : Sh),Sh.beq a b = true → a = b
 | .leaf,.leaf,_ => rfl
 | .node xs,.node ys,h => by simp only [Sh.beq] at h; rw [Sh.beqs_eq xs ys h]
 | .leaf,.node _,h => by simp [Sh.beq] at h
 | .node _,.leaf,h => by simp [Sh.beq] at h
theorem Sh.beqs_eq : ∀ (a b : List Sh),Sh.beqs a b = true → a = b
 | [],[],_ => rfl
 | x :: r,y :: s,h => by
  simp only [Sh.beqs,Bool.and_eq_true] at h
  rw [Sh.beq_eq x y h.1,Sh.beqs_eq r s h.2]
 | [],_ :: _,h => by simp [Sh.beqs] at h
 | _ :: _,[],h => by simp [Sh.beqs] at h
end
def V.isAny : V → Bool
 | .any => true
 | _ => false
def nz (v : V) : Option V := bif v.isAny then none else some v
def gdR (b : Bool) (v : V) : Option V := bif b then some v else none
def Ycw : V → V → V → Option V
 | .d (.bool t),.d (.bool x),.d (.bool y) => some (.d (.bool (bif t then x else y)))
 | .d (.bool t),x,y => some (bif t then x else y)
 | _,_,_ => none
def Yiy (op : BinOp) (k k' : IntKind) (a b : Int) : Option V :=
 match op with
 | .shl => gdR (decide (0 ≤ b)) (Xbf op k a b)
 | .shr => gdR (decide (0 ≤ b)) (Xbf op k a b)
 | .quo => gdR (decide (k = k') && decide (b ≠ 0)) (Xbf op k a b)
 | .rem => gdR (decide (k = k') && decide (b ≠ 0)) (Xbf op k a b)
 | _ => gdR (decide (k = k')) (Xbf op k a b)
def Ym0 (op : BinOp) (x y : List UInt8) : Option V :=
 match op with
 | .add => gdR (decide (x.length + y.length ≤ 9223372036854775807)) (Xxp op x y)
 | .eql | .neq | .lss | .leq | .gtr | .geq => some (Xxp op x y)
 | _ => none
def Yih (op : BinOp) : V → V → Option V
 | .d (.int k a),.d (.int k' b) => Yiy op k k' a b
 | .d (.str x),.d (.str y) => Ym0 op x y
 | _,_ => none
def Yml (ob : Objs) (e : Bool) : V → V → Option V
 | .ptr i p,.ptr j q => gdR (decide (i = j) && decide (p = q) && (atO ob i p).isSome) (.d (.bool e))
 | _,_ => none
def Ydh (id n : Nat) : Option Ob → Option V
 | some (.arr _ sz xs) => gdR (decide (sz ≠ 0) && decide (n = xs.length) && !xs.isEmpty) (.sd id n)
 | _ => none
def Ym6 (ob : Objs) : V → Option V
 | .sl id n => Ydh id n (lookO ob id)
 | .d .nils => some (.d .nilp)
 | _ => none
def Yix : V → V → Option V
 | .d (.str s),.d (.int _ n) => gdR (decide (0 ≤ n) && decide (n < s.length)) (.d (.int .u8 (s.getD n.toNat 0).toNat))
 | _,_ => none
def X6c (z : Nat) : Option V → Bool
 | some v => decide (v.size = z)
 | none => false
def X6b (z lo n : Nat) : Option (List V) → Bool
 | some ks => decide (lo + n ≤ ks.length) && ks.all (fun k => decide (k.size = z))
 | none => false
def X9w (ob : Objs) (z : Nat) : V → V → Option V
 | .d (.list sz xs),.d (.int _ n) => gdR (decide (z = sz) && decide (0 ≤ n) && decide (n < xs.length)) (.d (.ref (xs.getD n.toNat default)))
 | .sl id n,.d (.int _ m) => gdR (decide (0 ≤ m) && decide (m < n) && X6c z (Wq n m.toNat (lookO ob id))) (.ep id n z m.toNat 0 [])
 | .bs id p lo n,.d (.int _ m) => gdR (decide (0 ≤ m) && decide (m < n) && X6b z lo n (Zg (atO ob id p))) (.ptr id (p ++ [lo + m.toNat]))
 | _,_ => none
def Xin (len z : Nat) (v : V) : Option (List V) → Option V
 | some ks => gdR (decide (ks.length = len) && ks.all (fun k => decide (k.size = z))) v
 | none => none
def Xzs (ob : Objs) (len z : Nat) : V → V → Option V
 | .ptr id p,.d (.int _ n) => bif decide (0 ≤ n) && decide (n < len) then Xin len z (.ptr id (p ++ [n.toNat])) (Zg (atO ob id p)) else none
 | .d (.ref (.agg xs)),.d (.int _ n) => gdR (decide (0 ≤ n) && decide (n < len) && decide (xs.length = len) && xs.all (fun x => decide (x.sz = z))) (.d (.ref (xs.getD n.toNat default)))
 | _,_ => none
def X1l (id : Nat) (p : List Nat) (f fo : Nat) : Option (List V) → Option V
 | some ks => gdR (decide (f < ks.length) && decide (Sh.sizes ((ks.take f).map V.shape) = fo)) (.ptr id (p ++ [f]))
 | none => none
def X9r (ob : Objs) (f fo : Nat) : V → Option V
 | .ptr id p => X1l id p f fo (Zg (atO ob id p))
 | .d (.ref (.agg xs)) => gdR (decide (f < xs.length) && decide (D.szs (xs.take f) = fo)) (.d (.ref (xs.getD f default)))
 | .ep id n z i g p => some (.ep id n z i (g + fo) (p ++ [f]))
 | _ => none
def Yiu (f fo n : Nat) (ag : Bool) : Option (List V) → Option V
 | some ks => gdR (decide (f < ks.length) && decide (Sh.sizes ((ks.take f).map V.shape) = fo) && decide ((ks.getD f .any).size = n) && ((ks.getD f .any).isAgg == ag)) (ks.getD f .any)
 | none => none
def X96 (n : Nat) (ag : Bool) : Option V → Option V
 | some v => gdR (decide (v.size = n) && (v.isAgg == ag)) v
 | none => none
def ldR (ob : Objs) (n : Nat) (ag : Bool) : V → Option V
 | .ptr id p => X96 n ag (atO ob id p)
 | .d (.ref x) => gdR (decide (x.sz = n) && ((V.d x).isAgg == ag)) (.d x)
 | .ep id m z i f p => X96 n ag (atE ob id m z i f p)
 | _ => none
def Ybw : V → Option V
 | .ptr id p => some (.ptr id p)
 | .ep id n z i f p => some (.ep id n z i f p)
 | .d (.ref x) => some (.d (.ref x))
 | .fn f a b => some (.fn f a b)
 | .d (.fn f a b) => some (.d (.fn f a b))
 | _ => none
def X1w (n : Nat) : Option Ob → Option V
 | some (.arr _ _ xs) => gdR (decide (n = xs.length)) (.d (.int .i64 n))
 | some (.vec _ _ xs) => gdR (decide (n = xs.length)) (.d (.int .i64 n))
 | _ => none
def X1v (n : Nat) : Option Ob → Option V
 | some (.box _ _) => some (.d (.int .i64 n))
 | _ => none
def Yac (ob : Objs) : V → Option V
 | .d (.list _ xs) => some (.d (.int .i64 xs.length))
 | .d .nils => some (.d (.int .i64 0))
 | .sl id n => X1w n (lookO ob id)
 | .bs id _ _ n => X1v n (lookO ob id)
 | _ => none
def X86 (len : Nat) : Option V → Option V → Option (Nat × Nat)
 | none,none => some (0,len)
 | some (.d (.int _ l)),none => bif decide (0 ≤ l) && decide (l ≤ len) then some (l.toNat,len) else none
 | none,some (.d (.int _ h)) => bif decide (0 ≤ h) && decide (h ≤ len) then some (0,h.toNat) else none
 | some (.d (.int _ l)),some (.d (.int _ h)) => bif decide (0 ≤ h) && decide (h ≤ len) && decide (0 ≤ l) && decide (l ≤ h) then some (l.toNat,h.toNat) else none
 | _,_ => none
def Yc6 (lo hi : Option V) : V → Option V
 | .d (.str s) => (X86 s.length lo hi).map fun p => .d (.str ((s.take p.2).drop p.1))
 | _ => none
def Yc5 (z : Nat) (lo hi : Option V) : V → Option V
 | .d (.list sz xs) => bif decide (z = sz) then (X86 xs.length lo hi).map fun p => .d (.list sz ((xs.take p.2).drop p.1)) else none
 | _ => none
def Yis (i : Nat) : V → Option V
 | .tup xs => gdR (decide (i < xs.length)) (xs.getD i .any)
 | _ => none
def X1f : List V → List (Nat × V) → Option (List V)
 | ks,[] => some ks
 | ks,(i,v) :: r => bif decide (i < ks.length) && Sh.beq v.shape (ks.getD i .any).shape && !v.isAny then X1f (ks.set i v) r else none
def Ym5 (t : Nat) (z : D) : V → Option V
 | .iface t' v => some (bif decide (t' = t) then .tup [v,.d (.bool true)] else .tup [.d z,.d (.bool false)])
 | .d (.iface t' x) => some (bif decide (t' = t) then .tup [.d x,.d (.bool true)] else .tup [.d z,.d (.bool false)])
 | .d .nili => some (.tup [.d z,.d (.bool false)])
 | _ => none

def Yir (ty : KT) (e : Bool) : V → V → Option V
 | .d x,.d y => gdR (ty.fits x && ty.fits y) (.d (.bool (D.eqb x y == e)))
 | _,_ => none
def X9y (len z : Nat) (ag : Bool) : V → V → Option V
 | .d (.agg xs),.d (.int _ n) => gdR (decide (0 ≤ n) && decide (n < len) && decide (xs.length = len) && xs.all (fun x => decide (x.sz = z) && (x.isAgg == ag))) (.d (xs.getD n.toNat default))
 | _,_ => none

def D.szIs (x : D) (z : Nat) : Bool := bif x.isAgg then decide (x.sz = z) else Nat.beq 1 z
theorem D.szIs_eq (x : D) (z : Nat) : x.szIs z = decide (x.sz = z) := by
 unfold D.szIs
 cases hx : x.isAgg with
 | true => rfl
 | false =>
  have h1 : x.sz = 1 := by cases x <;> first | rfl | simp [D.isAgg] at hx
  rw [h1]
  simp only [cond_false]
  by_cases e : 1 = z
  ·subst e; rfl
  ·rw [decide_eq_false e]
   cases hb : Nat.beq 1 z with
   | false => rfl
   | true => exact (e (Nat.eq_of_beq_eq_true hb)).elim
def V.szIs (v : V) (z : Nat) : Bool := bif v.isAgg then decide (v.size = z) else Nat.beq 1 z
theorem V.szIs_eq (v : V) (z : Nat) : v.szIs z = decide (v.size = z) := by
 unfold V.szIs
 cases hx : v.isAgg with
 | true => rfl
 | false =>
  have h1 : v.size = 1 := by
   cases v with
   | d x => cases x <;> first | rfl | simp [V.isAgg] at hx
   | agg xs => simp [V.isAgg] at hx
   | _ => rfl
  rw [h1]
  simp only [cond_false]
  by_cases e : 1 = z
  ·subst e; rfl
  ·rw [decide_eq_false e]
   cases hb : Nat.beq 1 z with
   | false => rfl
   | true => exact (e (Nat.eq_of_beq_eq_true hb)).elim
def V.atF : V → List Nat → Option V
 | v,[] => some v
 | .d (.agg xs),i :: p => match xs[i]? with
  | some x => V.atF (.d x) p
  | none => none
 | v,i :: p => match v.kids with
  | some ks => match ks[i]? with
   | some k => V.atF k p
   | none => none
  | none => none
theorem V.atF_eq : ∀ (p : List Nat) (v : V),v.atF p = v.at p
 | [],v => by cases v <;> first | rfl | (rename_i x; cases x <;> rfl)
 | i :: p,v => by
  cases v with
  | d x =>
   cases x with
   | agg xs =>
    simp only [V.atF,V.at,V.kids,List.getElem?_map]
    cases xs[i]? with
    | none => rfl
    | some y => simp only [Option.map_some]; exact V.atF_eq p (.d y)
   | _ => simp [V.atF,V.at,V.kids]
  | agg xs =>
   simp only [V.atF,V.at,V.kids]
   cases xs[i]? with
   | none => rfl
   | some y => exact V.atF_eq p y
  | _ => simp [V.atF,V.at,V.kids]
def Ydq (objs : Objs) (id : Nat) (p : List Nat) : Option V := match lookO objs id with
 | some (.box _ t) => t.atF p
 | _ => none
theorem Xsf (objs : Objs) (id : Nat) (p : List Nat) : Ydq objs id p = atO objs id p := by
 unfold Ydq atO
 cases lookO objs id with
 | none => rfl
 | some o => cases o <;> simp [V.atF_eq]
def Xkv (len z : Nat) (w : V) : Option V → Option V
 | some (.d (.agg xs)) => gdR (Nat.beq xs.length len && xs.all (fun x => x.szIs z)) w
 | o => Xin len z w (Zg o)
theorem X49 (a b : Nat) : Nat.beq a b = decide (a = b) := by
 by_cases e : a = b
 ·subst e; simp
 ·rw [decide_eq_false e]
  cases hb : Nat.beq a b with
  | false => rfl
  | true => exact (e (Nat.eq_of_beq_eq_true hb)).elim
theorem Xp8 (len z : Nat) (w : V) (o : Option V) : Xkv len z w o = Xin len z w (Zg o) := by
 unfold Xkv
 split
 ·rename_i xs
  simp only [Zg,V.kids,Xin,List.length_map,List.all_map,X49,D.szIs_eq]
  congr 2
  congr 1
  funext x
  simp [V.size,V.shape,D.size_shape]
 ·rfl
def Xtn (ob : Objs) (len z : Nat) : V → V → Option V
 | .ptr id p,.d (.int _ n) => bif decide (0 ≤ n) && decide (n < len) then Xkv len z (.ptr id (p ++ [n.toNat])) (Ydq ob id p) else none
 | u,v => Xzs ob len z u v
theorem Xto (ob : Objs) (len z : Nat) (u v : V) : Xtn ob len z u v = Xzs ob len z u v := by
 unfold Xtn; split
 ·simp only [Xzs,Xp8,Xsf]
 ·rfl
def X97 (n : Nat) (ag : Bool) : Option V → Option V
 | some v => gdR (v.szIs n && (v.isAgg == ag)) v
 | none => none
def Ygn (ob : Objs) (n : Nat) (ag : Bool) : V → Option V
 | .ptr id p => X97 n ag (Ydq ob id p)
 | .d (.ref x) => gdR (x.szIs n && ((V.d x).isAgg == ag)) (.d x)
 | v => ldR ob n ag v
theorem Xtw (ob : Objs) (n : Nat) (ag : Bool) (v : V) : Ygn ob n ag v = ldR ob n ag v := by
 unfold Ygn; split
 ·simp only [ldR,Xsf]
  cases atO ob _ _ <;> simp [X97,X96,V.szIs_eq]
 ·simp only [ldR,D.szIs_eq]
 ·rfl
def Xtd {α : Type} (n : Int) (f : Int → α) : α := match n with
 | .ofNat 0 => f (.ofNat 0)
 | .ofNat (m + 1) => f (.ofNat (m + 1))
 | .negSucc 0 => f (.negSucc 0)
 | .negSucc (m + 1) => f (.negSucc (m + 1))
theorem Xte {α : Type} (n : Int) (f : Int → α) : Xtd n f = f n := by
 unfold Xtd; split <;> rfl
def X8f : Option V → Option V
 | some (.d (.int k n)) => Xtd n fun n => some (.d (.int k n))
 | o => o
theorem Xth (o : Option V) : X8f o = o := by
 unfold X8f; split
 ·rw [Xte]
 ·rfl
def C.run (sl : Xb) (ob : Objs) : C → Option V
 | .mv x => some (x.ev sl)
 | .pick c a b => Ycw (c.ev sl) (a.ev sl) (b.ev sl)
 | .not x => nz (X7l (x.ev sl))
 | .neg x => X8f (nz (Yhx (x.ev sl)))
 | .cpl x => X8f (nz (Ye6 (x.ev sl)))
 | .mx x y => nz (mxV (x.ev sl) (y.ev sl))
 | .bin op x y => X8f (Yih op (x.ev sl) (y.ev sl))
 | .beq e x y => nz (Ye2 e (x.ev sl) (y.ev sl))
 | .isnil e x => nz (J1 e (x.ev sl))
 | .pnil e x => nz (X7s e (x.ev sl))
 | .fnil e x => nz (Xfr e (x.ev sl))
 | .peq e x y => Yml ob e (x.ev sl) (y.ev sl)
 | .usd x => Ym6 ob (x.ev sl)
 | .cvi k x => X8f (nz (X5v k (x.ev sl)))
 | .cvs x => nz (Ye7 (x.ev sl))
 | .idx x i => Yix (x.ev sl) (i.ev sl)
 | .idxA z x i => X9w ob z (x.ev sl) (i.ev sl)
 | .idxP n z x i => Xtn ob n z (x.ev sl) (i.ev sl)
 | .fldA f fo x => X9r ob f fo (x.ev sl)
 | .fld f fo n ag x => Yiu f fo n ag (x.ev sl).kids
 | .ld n ag x => Ygn ob n ag (x.ev sl)
 | .nilc x => Ybw (x.ev sl)
 | .lenS x => nz (Xkz (x.ev sl))
 | .lenL x => Yac ob (x.ev sl)
 | .lenA n => some (.d (.int .i64 n))
 | .slcS x lo hi => Yc6 (lo.map (A.ev sl)) (hi.map (A.ev sl)) (x.ev sl)
 | .slcL z x lo hi => Yc5 z (lo.map (A.ev sl)) (hi.map (A.ev sl)) (x.ev sl)
 | .ext x i => Yis i (x.ev sl)
 | .bld z Xs => (X1f (z.map .d) (Xs.map fun (i,x) => (i,x.ev sl))).map V.mk
 | .mkf f first cap => some (X1y f (first.map (A.ev sl)) (cap.map (A.ev sl)))
 | .mki t x => some (X0l t (x.ev sl))
 | .tas t z x => Ym5 t z (x.ev sl)
 | .eqD ty e x y => Yir ty e (x.ev sl) (y.ev sl)
 | .aix n z ag x i => X9y n z ag (x.ev sl) (i.ev sl)

theorem X5 {b : Bool} {v u : V} (h : gdR b v = some u) : b = true ∧ v = u := by
 cases b <;> simp [gdR] at h ⊢; exact h
theorem W4 {v u : V} (h : nz v = some u) : v = u ∧ v ≠ .any := by
 cases v <;> simp [nz,V.isAny] at h <;> exact ⟨h,by simp⟩
theorem Xam {len : Nat} {lo hi : Option V} {p : Nat × Nat} {K : Nat → Nat → Prop} (h : X86 len lo hi = some p) (hK : K p.1 p.2) : Ji len K lo hi := by
 unfold X86 at h
 split at h <;> simp only [Ji]
 ·cases h; exact hK
 ·rw [Bool.cond_eq_ite] at h; split at h
  ·rename_i hc; cases h; simp at hc; exact ⟨hc,hK⟩
  ·cases h
 ·rw [Bool.cond_eq_ite] at h; split at h
  ·rename_i hc; cases h; simp at hc; exact ⟨hc,hK⟩
  ·cases h
 ·rw [Bool.cond_eq_ite] at h; split at h
  ·rename_i hc; cases h; simp at hc; exact ⟨⟨hc.1.1.1,hc.1.1.2⟩,⟨hc.1.2,hc.2⟩,hK⟩
  ·cases h
 ·cases h
theorem Vr {K : List V → Prop} : ∀ (ps : List (Nat × V)) (ks : List V) {l : List V},X1f ks ps = some l → K l → Jf ks ps K
 | [],ks,l,h,hK => by simp only [X1f,Option.some.injEq] at h; subst h; exact hK
 | (i,v) :: r,ks,l,h,hK => by
  simp only [X1f] at h
  rw [Bool.cond_eq_ite] at h
  split at h
  ·rename_i hc
   simp only [Bool.and_eq_true,decide_eq_true_eq,Bool.not_eq_true'] at hc
   refine ⟨hc.1.1,Sh.beq_eq _ _ hc.1.2,fun e => ?_,Vr r _ h hK⟩
   subst e; simp [V.isAny] at hc
  ·cases h
theorem C.run_sound {sl : Xb} {ob : Objs} {c : C} {v : V} {K : V → Prop} (h : c.run sl ob = some v) (hK : K v) : c.wp sl ob K := by
 cases c <;> simp only [C.run,Xtw,Xto,Xth] at h <;> simp only [C.wp]
 case mv => cases h; exact hK
 case lenA => cases h; exact hK
 case mkf => cases h; exact hK
 case mki => cases h; exact hK
 case bld z Xs =>
  rw [Option.map_eq_some_iff] at h
  obtain ⟨l,h1,rfl⟩ := h
  exact Vr _ _ h1 hK
 case pick x y z =>
  generalize A.ev sl x = a at h ⊢; generalize A.ev sl y = b at h ⊢; generalize A.ev sl z = c at h ⊢
  unfold Ycw at h
  split at h
  ·cases h; rename_i t _ _; cases t <;> exact hK
  ·cases h; rename_i t hn
   cases t
   ·simp only [cond_false] at hK
    unfold Xa3
    split <;> simp_all
   ·simp only [cond_true] at hK
    unfold Xa3
    split <;> simp_all
  ·cases h
 case bin op x y =>
  generalize A.ev sl x = a at h ⊢; generalize A.ev sl y = b at h ⊢
  unfold Yih at h; split at h
  ·simp only [Xn8]
   cases op <;> simp only [Yiy] at h <;> obtain ⟨h1,rfl⟩ := X5 h <;> simp only [Bool.and_eq_true,decide_eq_true_eq] at h1 <;> simp only [Xxj] <;> first | exact ⟨h1,hK⟩ | exact ⟨h1.1,h1.2,hK⟩
  ·simp only [Xn8]
   cases op <;> simp only [Ym0] at h <;> first | (obtain ⟨h1,rfl⟩ := X5 h; exact ⟨of_decide_eq_true h1,hK⟩) | (cases h; exact hK) | cases h
  ·cases h
 case not x => obtain ⟨rfl,h1⟩ := W4 h; generalize A.ev sl x = a at h1 hK ⊢; unfold X7l at h1 hK; unfold Xvo; split <;> simp_all
 case cpl x => obtain ⟨rfl,h1⟩ := W4 h; generalize A.ev sl x = a at h1 hK ⊢; unfold Ye6 at h1 hK; unfold X5u; split <;> simp_all
 case mx x y => obtain ⟨rfl,h1⟩ := W4 h; generalize A.ev sl x = a at h1 hK ⊢; generalize A.ev sl y = b at h1 hK ⊢; unfold mxV at h1 hK; unfold mxK; split <;> simp_all
 case neg x => obtain ⟨rfl,h1⟩ := W4 h; generalize A.ev sl x = a at h1 hK ⊢; unfold Yhx at h1 hK; unfold X7k; split <;> simp_all
 case isnil x => obtain ⟨rfl,h1⟩ := W4 h; generalize A.ev sl x = a at h1 hK ⊢; unfold J1 at h1 hK; unfold Vx; split <;> simp_all
 case pnil x => obtain ⟨rfl,h1⟩ := W4 h; generalize A.ev sl x = a at h1 hK ⊢; unfold X7s at h1 hK; unfold Xm9; split <;> simp_all
 case fnil x => obtain ⟨rfl,h1⟩ := W4 h; generalize A.ev sl x = a at h1 hK ⊢; unfold Xfr at h1 hK; unfold Xav; split <;> simp_all
 case cvi x => obtain ⟨rfl,h1⟩ := W4 h; generalize A.ev sl x = a at h1 hK ⊢; unfold X5v at h1 hK; unfold Xsu; split <;> simp_all
 case cvs x => obtain ⟨rfl,h1⟩ := W4 h; generalize A.ev sl x = a at h1 hK ⊢; unfold Ye7 at h1 hK; unfold X5w; split <;> simp_all
 case lenS x => obtain ⟨rfl,h1⟩ := W4 h; generalize A.ev sl x = a at h1 hK ⊢; unfold Xkz at h1 hK; unfold Xc3; split <;> simp_all
 case beq x y => obtain ⟨rfl,h1⟩ := W4 h; generalize A.ev sl x = a at h1 hK ⊢; generalize A.ev sl y = b at h1 hK ⊢; unfold Ye2 at h1 hK; unfold X48; split <;> simp_all
 case peq x y =>
  generalize A.ev sl x = a at h ⊢; generalize A.ev sl y = b at h ⊢
  unfold Yml at h; split at h
  ·obtain ⟨h1,rfl⟩ := X5 h
   simp only [Bool.and_eq_true,decide_eq_true_eq,Option.isSome_iff_exists] at h1
   exact ⟨h1.1.1,h1.1.2,h1.2,hK⟩
  ·cases h
 case usd x =>
  generalize A.ev sl x = a at h ⊢
  unfold Ym6 at h; split at h
  ·unfold Ydh at h
   simp only [Xq3]
   split at h
   ·rename_i E sz xs hl
    obtain ⟨h1,rfl⟩ := X5 h
    simp at h1
    exact ⟨⟨_,_,_,hl,h1.1.1,h1.1.2,h1.2⟩,hK⟩
   ·cases h
  ·cases h; exact hK
  ·cases h
 case idx x y =>
  generalize A.ev sl x = a at h ⊢; generalize A.ev sl y = b at h ⊢
  unfold Yix at h; split at h
  ·obtain ⟨h1,rfl⟩ := X5 h
   simp only [Bool.and_eq_true,decide_eq_true_eq] at h1
   exact ⟨h1,hK⟩
  ·cases h
 case idxA x y =>
  generalize A.ev sl x = a at h ⊢; generalize A.ev sl y = b at h ⊢
  unfold X9w at h; split at h
  ·obtain ⟨h1,rfl⟩ := X5 h
   simp only [Bool.and_eq_true,decide_eq_true_eq] at h1
   exact ⟨h1.1.1,⟨h1.1.2,h1.2⟩,hK⟩
  ·obtain ⟨h1,rfl⟩ := X5 h
   simp only [Bool.and_eq_true,decide_eq_true_eq] at h1
   refine ⟨h1.1,?_,hK⟩
   have h2 := h1.2
   generalize Wq _ _ _ = o at h2 ⊢
   cases o with
   | none => simp [X6c] at h2
   | some v =>
    simp only [X6c] at h2
    simp only [Xfu]
    exact of_decide_eq_true h2
  ·obtain ⟨h1,rfl⟩ := X5 h
   simp only [Bool.and_eq_true,decide_eq_true_eq] at h1
   refine ⟨h1.1,?_,hK⟩
   have h2 := h1.2
   generalize Zg _ = o at h2 ⊢
   cases o with
   | none => simp [X6b] at h2
   | some ks =>
    simp only [X6b,Bool.and_eq_true,decide_eq_true_eq,List.all_eq_true] at h2
    exact ⟨ks,rfl,h2⟩
  ·cases h
 case eqD x y =>
  generalize A.ev sl x = a at h ⊢; generalize A.ev sl y = b at h ⊢
  unfold Yir at h; split at h
  ·obtain ⟨h1,rfl⟩ := X5 h
   simp only [Bool.and_eq_true] at h1
   exact ⟨h1.1,h1.2,hK⟩
  ·cases h
 case aix x y =>
  generalize A.ev sl x = a at h ⊢; generalize A.ev sl y = b at h ⊢
  unfold X9y at h; split at h
  ·obtain ⟨h1,rfl⟩ := X5 h
   simp only [Bool.and_eq_true,decide_eq_true_eq,List.all_eq_true,beq_iff_eq] at h1
   exact ⟨⟨h1.1.1.1,h1.1.1.2⟩,h1.1.2,h1.2,hK⟩
  ·cases h
 case idxP x y =>
  generalize A.ev sl x = a at h ⊢; generalize A.ev sl y = b at h ⊢
  unfold Xzs at h; split at h
  ·rw [Bool.cond_eq_ite] at h; split at h
   ·rename_i hc
    unfold Xin at h; split at h
    ·rename_i ks hk
     obtain ⟨h1,rfl⟩ := X5 h
     simp only [Bool.and_eq_true,decide_eq_true_eq,List.all_eq_true] at h1 hc
     exact ⟨hc,⟨ks,hk,h1.1,h1.2⟩,hK⟩
    ·cases h
   ·cases h
  ·obtain ⟨h1,rfl⟩ := X5 h
   simp only [Bool.and_eq_true,decide_eq_true_eq,List.all_eq_true] at h1
   exact ⟨⟨h1.1.1.1,h1.1.1.2⟩,h1.1.2,h1.2,hK⟩
  ·cases h
 case fldA x =>
  generalize A.ev sl x = a at h ⊢
  unfold X9r at h; split at h
  ·unfold X1l at h; split at h
   ·rename_i ks hk
    obtain ⟨h1,rfl⟩ := X5 h
    simp only [Bool.and_eq_true,decide_eq_true_eq] at h1
    simp only [Ux,hk]
    exact ⟨h1.1,h1.2,hK⟩
   ·cases h
  ·obtain ⟨h1,rfl⟩ := X5 h
   simp only [Bool.and_eq_true,decide_eq_true_eq] at h1
   exact ⟨h1.1,h1.2,hK⟩
  ·cases h; exact hK
  ·cases h
 case fld x =>
  generalize (A.ev sl x).kids = a at h ⊢
  unfold Yiu at h; split at h
  ·obtain ⟨h1,rfl⟩ := X5 h
   simp only [Bool.and_eq_true,decide_eq_true_eq,beq_iff_eq] at h1
   exact ⟨h1.1.1.1,h1.1.1.2,h1.1.2,h1.2,hK⟩
  ·cases h
 case ld x =>
  generalize A.ev sl x = a at h ⊢
  unfold ldR at h; split at h
  ·unfold X96 at h; split at h
   ·rename_i v hk
    obtain ⟨h1,rfl⟩ := X5 h
    simp only [Bool.and_eq_true,decide_eq_true_eq,beq_iff_eq] at h1
    simp only [ldK,hk]
    exact ⟨h1.1,h1.2,hK⟩
   ·cases h
  ·obtain ⟨h1,rfl⟩ := X5 h
   simp only [Bool.and_eq_true,decide_eq_true_eq,beq_iff_eq] at h1
   exact ⟨h1.1,h1.2,hK⟩
  ·unfold X96 at h; split at h
   ·rename_i v hk
    obtain ⟨h1,rfl⟩ := X5 h
    simp only [Bool.and_eq_true,decide_eq_true_eq,beq_iff_eq] at h1
    simp only [ldK,hk]
    exact ⟨h1.1,h1.2,hK⟩
   ·cases h
  ·cases h
 case nilc x =>
  generalize A.ev sl x = a at h ⊢
  unfold Ybw at h; split at h <;> cases h <;> exact hK
 case lenL x =>
  generalize A.ev sl x = a at h ⊢
  unfold Yac at h; split at h
  ·cases h; exact hK
  ·cases h; exact hK
  ·unfold X1w at h; split at h
   ·rename_i E z xs hl
    obtain ⟨h1,rfl⟩ := X5 h
    exact ⟨.inl ⟨_,_,_,hl,of_decide_eq_true h1⟩,hK⟩
   ·rename_i E z xs hl
    obtain ⟨h1,rfl⟩ := X5 h
    exact ⟨.inr ⟨_,_,_,hl,of_decide_eq_true h1⟩,hK⟩
   ·cases h
  ·unfold X1v at h; split at h
   ·rename_i E t hl
    cases h
    exact ⟨⟨_,_,hl⟩,hK⟩
   ·cases h
  ·cases h
 case slcS x lo hi =>
  generalize A.ev sl x = a at h ⊢
  unfold Yc6 at h; split at h
  ·rw [Option.map_eq_some_iff] at h
   obtain ⟨p,h1,rfl⟩ := h
   exact Xam (K := fun l h => K (.d (.str ((List.take h _).drop l)))) h1 hK
  ·cases h
 case slcL x lo hi =>
  generalize A.ev sl x = a at h ⊢
  unfold Yc5 at h; split at h
  ·rw [Bool.cond_eq_ite] at h; split at h
   ·rename_i hc
    rw [Option.map_eq_some_iff] at h
    obtain ⟨p,h1,rfl⟩ := h
    exact ⟨of_decide_eq_true hc,Xam (K := fun l h => K (.d (.list _ ((List.take h _).drop l)))) h1 hK⟩
   ·cases h
  ·cases h
 case ext x i =>
  generalize A.ev sl x = a at h ⊢
  unfold Yis at h; split at h
  ·obtain ⟨h1,rfl⟩ := X5 h
   exact ⟨of_decide_eq_true h1,hK⟩
  ·cases h
 case tas t z x =>
  generalize A.ev sl x = a at h ⊢
  unfold Ym5 at h; split at h
  ·cases h
   refine ⟨fun e => ?_,fun e => ?_⟩ <;> simp [e] at hK <;> exact hK
  ·cases h
   refine ⟨fun e => ?_,fun e => ?_⟩ <;> simp [e] at hK <;> exact hK
  ·cases h; exact hK
  ·cases h
end Go.Ab
/- An evaluator of statements and functions, and that what it yields holds. Over any program; no condition. -/
namespace Go.Ab
open Go

inductive Rr where
 | ok (v : V) (ob : Objs)
 | pn (v : V) (ob : Objs)
 | no

def Xao : List D → Option (List UInt8)
 | [] => some []
 | .int .u8 n :: r => bif decide (0 ≤ n) && decide (n < 256) then (Xao r).map fun s => UInt8.ofNat n.toNat :: s else none
 | _ => none
theorem Xap : ∀ {l : List D} {s : List UInt8},Xao l = some s → l = bytesD s
 | [],s,h => by simp only [Xao,Option.some.injEq] at h; subst h; rfl
 | x :: r,s,h => by
  unfold Xao at h
  split at h
  ·rename_i e; cases e
  ·rename_i n r' e
   cases e
   rw [Bool.cond_eq_ite] at h
   split at h
   ·rename_i hc
    simp only [Bool.and_eq_true,decide_eq_true_eq] at hc
    rw [Option.map_eq_some_iff] at h
    obtain ⟨t,h1,rfl⟩ := h
    rw [Xap h1]
    have : ((UInt8.ofNat n.toNat).toNat : Int) = n := by rw [UInt8.toNat_ofNat']; omega
    simp only [bytesD,this]
   ·cases h
  ·cases h

def Ymz (ob : Objs) (id : Nat) (p : List Nat) (n E : Nat) (v t : V) : Option V → Rr
 | some old => bif Sh.beq v.shape old.shape && decide (old.size = n) && v.sto then (match t.set p v with | some t' => .ok .undef (setO ob id (.box E t')) | none => .no) else .no
 | none => .no
def Ymy (ob : Objs) (id : Nat) (p : List Nat) (n : Nat) (v : V) : Option Ob → Rr
 | some (.box E t) => Ymz ob id p n E v t (t.at p)
 | _ => .no
def Ydb (ob : Objs) (id i n : Nat) (o : Ob) (v v0 : V) (p : List Nat) : Option V → Rr
 | some old => bif Sh.beq v.shape old.shape && decide (old.size = n) && v.sto then (match v0.set p v with | some t' => .ok .undef (setO ob id (Xbv o i t')) | none => .no) else .no
 | none => .no
def Ydc (ob : Objs) (id i n : Nat) (o : Ob) (v : V) (z f : Nat) (p : List Nat) : Option V → Rr
 | some v0 => bif decide (z = v0.size) && decide (f = v0.shape.off p) then Ydb ob id i n o v v0 p (v0.at p) else .no
 | none => .no
def Yda (ob : Objs) (id m z i f : Nat) (p : List Nat) (n : Nat) (v : V) : Option Ob → Rr
 | some o => Ydc ob id i n o v z f p (Wq m i (some o))
 | none => .no
def stR (ob : Objs) (n : Nat) (v : V) : V → Rr
 | .ptr id p => Ymy ob id p n v (lookO ob id)
 | .ep id m z i f p => Yda ob id m z i f p n v (lookO ob id)
 | _ => .no
def V.isLf (v : V) : Bool := !v.isAgg
theorem V.lf_shape {v : V} (h : v.isLf = true) : v.shape = .leaf := by
 cases v with
 | d x => cases x <;> first | rfl | simp [V.isLf,V.isAgg] at h
 | agg xs => simp [V.isLf,V.isAgg] at h
 | _ => rfl
def Xwc (a b : V) : Bool := bif a.isLf && b.isLf then true else Sh.beq a.shape b.shape
theorem Xwd {a b : V} (h : Xwc a b = true) : a.shape = b.shape := by
 unfold Xwc at h
 cases hc : (a.isLf && b.isLf) with
 | true =>
  simp only [Bool.and_eq_true] at hc
  rw [V.lf_shape hc.1,V.lf_shape hc.2]
 | false => rw [hc] at h; exact Sh.beq_eq _ _ h
def V.setF : V → List Nat → V → Option V
 | _,[],x => some x
 | .d (.agg xs),i :: p,x => match xs[i]? with
  | some y => match V.setF (.d y) p x with
   | some (.d z) => some (.d (.agg (xs.set i z)))
   | some k => some (V.mk ((xs.map .d).set i k))
   | none => none
  | none => none
 | v,i :: p,x => match v.kids with
  | some ks => match ks[i]? with
   | some k => match V.setF k p x with
    | some k' => some (V.mk (ks.set i k'))
    | none => none
   | none => none
  | none => none
theorem Xr8 : ∀ (l : List D),V.allD (l.map .d) = some l
 | [] => rfl
 | x :: r => by simp only [List.map_cons,V.allD,Xr8 r]
theorem V.setF_eq : ∀ (p : List Nat) (v x : V),v.setF p x = v.set p x
 | [],v,x => by cases v <;> first | rfl | (rename_i y; cases y <;> rfl)
 | i :: p,v,x => by
  cases v with
  | d y =>
   cases y with
   | agg xs =>
    simp only [V.setF,V.set,V.kids,List.getElem?_map]
    cases xs[i]? with
    | none => rfl
    | some y =>
     simp only [Option.map_some,V.setF_eq p (.d y) x]
     cases V.set (.d y) p x with
     | none => rfl
     | some k =>
      cases k with
      | d z => simp only [← List.map_set,V.mk,Xr8]
      | _ => rfl
   | _ => simp [V.setF,V.set,V.kids]
  | agg xs =>
   simp only [V.setF,V.set,V.kids]
   cases xs[i]? with
   | none => rfl
   | some y => simp only [V.setF_eq p y x]; cases V.set y p x <;> rfl
  | _ => simp [V.setF,V.set,V.kids]
def Yde (ob : Objs) (id : Nat) (p : List Nat) (n E : Nat) (v t : V) : Option V → Rr
 | some old => bif Xwc v old && old.szIs n && v.sto then (match t.setF p v with | some t' => .ok .undef (setO ob id (.box E t')) | none => .no) else .no
 | none => .no
def Ydd (ob : Objs) (id : Nat) (p : List Nat) (n : Nat) (v : V) : Option Ob → Rr
 | some (.box E t) => Yde ob id p n E v t (t.atF p)
 | _ => .no
def Ymx (ob : Objs) (n : Nat) (v : V) : V → Rr
 | .ptr id p => Ydd ob id p n v (lookO ob id)
 | u => stR ob n v u
def Ymw (sz : Nat) : V → Option (List D)
 | .d (.list z ys) => bif decide (z = sz) then some ys else none
 | .d .nils => some []
 | _ => none
def X45 (id E sz B n : Nat) (ob : Objs) (ys : List D) : Option Ob → Rr
 | some (.arr E' sz' xs) => bif decide (E' = E) && decide (sz' = sz) && decide (n = xs.length) && decide ((2 * (xs.length + ys.length) + 192) * B ≤ 281474976710656) then .ok (.sl id (xs.length + ys.length)) (setO ob id (.arr E sz (xs ++ ys))) else .no
 | _ => .no
def Ydp (E sz B : Nat) (ob : Objs) (ys : List D) : V → Rr
 | .sl id n => X45 id E sz B n ob ys (lookO ob id)
 | .d .nils => bif decide ((2 * ys.length + 192) * B ≤ 281474976710656) then .ok (.sl (fresh ob) ys.length) ((fresh ob,.arr E sz ys) :: ob) else .no
 | _ => .no
def X3k (sz n : Nat) : Option Ob → Option (List V)
 | some (.vec _ z ys) => bif decide (z = sz) && decide (n = ys.length) && V.stos ys then some ys else none
 | some (.arr _ z ys) => bif decide (z = sz) && decide (n = ys.length) then some (ys.map .d) else none
 | _ => none
def Yc9 (sz : Nat) (ob : Objs) : V → Option (List V)
 | .d (.list z ys) => bif decide (z = sz) then some (ys.map .d) else none
 | .d .nils => some []
 | .sl id n => X3k sz n (lookO ob id)
 | _ => none
def X83 (id E sz B n : Nat) (ob : Objs) (ys : List V) : Option Ob → Rr
 | some (.vec E' sz' xs) => bif decide (E' = E) && decide (sz' = sz) && decide (n = xs.length) && decide ((2 * (xs.length + ys.length) + 192) * B ≤ 281474976710656) then .ok (.sl id (xs.length + ys.length)) (setO ob id (.vec E sz (xs ++ ys))) else .no
 | some (.arr E' sz' xs) => bif decide (E' = E) && decide (sz' = sz) && decide (n = xs.length) && decide ((2 * (xs.length + ys.length) + 192) * B ≤ 281474976710656) then .ok (.sl id (xs.length + ys.length)) (setO ob id (.vec E sz (xs.map .d ++ ys))) else .no
 | _ => .no
def Yif (E sz B : Nat) (ob : Objs) (ys : List V) : V → Rr
 | .sl id n => X83 id E sz B n ob ys (lookO ob id)
 | .d .nils => bif decide ((2 * ys.length + 192) * B ≤ 281474976710656) then .ok (.sl (fresh ob) ys.length) ((fresh ob,.vec E sz ys) :: ob) else .no
 | _ => .no
def X0o (o : Option V) (ob : Objs) : Rr := match o with
 | some v => .ok v ob
 | none => .no
def Yig : V → Option V
 | .d (.list sz xs) => bif decide (sz = 1) then (Xao xs).map fun s => .d (.str s) else none
 | .d .nils => some (.d (.str []))
 | _ => none
def Ymr : V → Option V
 | .d (.str s) => some (.d (.list 1 (bytesD s)))
 | _ => none
def Yc8 : V → Option (List D)
 | .d (.str s) => some (bytesD s)
 | _ => none
def X9u : Option (D × Objs) → Rr
 | some (d,ob) => .ok (.d d) ob
 | none => .no
def X98 (n : Nat) (ag : Bool) (ob : Objs) : Option V → Rr
 | some v => bif decide (v.size = n) && (v.isAgg == ag) then X9u (V.giv ob v) else .no
 | none => .no
def Yjc (n : Nat) (ag : Bool) (ob : Objs) : V → Rr
 | .ptr id p => X98 n ag ob (atO ob id p)
 | _ => .no
def X99 (ob : Objs) (id : Nat) (p : List Nat) (x : D) : Option Ob → Rr
 | some (.box E t) => match t.set p (.d x) with
  | some t' => .ok (.d x) (setO ob id (.box E t'))
  | none => .no
 | _ => .no
def Yaa (v : V) (id : Nat) (p : List Nat) : Option (D × Objs) → Rr
 | some (x,ob) => bif Sh.beq x.shape v.shape then X99 ob id p x (lookO ob id) else .no
 | none => .no
def Yab (n : Nat) (ag : Bool) (ob : Objs) (id : Nat) (p : List Nat) : Option V → Rr
 | some v => bif decide (v.size = n) && (v.isAgg == ag) then Yaa v id p (V.gvF 40000 ob v) else .no
 | none => .no
def Yjd (n : Nat) (ag : Bool) (ob : Objs) : V → Rr
 | .ptr id p => Yab n ag ob id p (atO ob id p)
 | _ => .no
def Yc4 (id : Nat) (p : List Nat) (n z : Nat) (lo hi : Option V) : Option (List V) → Option V
 | some ks => bif decide (ks.length = n) && ks.all (fun k => decide (k.size = z)) then (X86 n lo hi).map fun q => .bs id p q.1 (q.2 - q.1) else none
 | none => none
def Ymt (ob : Objs) (n z : Nat) (lo hi : Option V) : V → Option V
 | .ptr id p => Yc4 id p n z lo hi (Zg (atO ob id p))
 | _ => none
def Yij (ob : Objs) (id E : Nat) (t : V) (p : List Nat) (lo n z : Nat) (ys : List D) (r : V) : Option V → Rr
 | some (.d (.agg xs)) => bif decide (lo + n ≤ xs.length) && xs.all (fun x => decide (x.sz = z)) && Sh.beq (D.agg (X3f lo xs ys)).shape (D.agg xs).shape then (match t.set p (.d (.agg (X3f lo xs ys))) with | some t' => .ok r (setO ob id (.box E t')) | none => .no) else .no
 | _ => .no
def Ydr (ob : Objs) (id : Nat) (p : List Nat) (lo n z : Nat) (ys : List D) (r : V) : Option Ob → Rr
 | some (.box E t) => Yij ob id E t p lo n z ys r (t.at p)
 | _ => .no
def Yin (z : Nat) (ob : Objs) : V → V → Rr
 | .bs id p lo n,.d (.list z' ys) => bif decide (z' = z) then Ydr ob id p lo n z (ys.take n) (.d (.int .i64 (min ys.length n : Nat))) (lookO ob id) else .no
 | _,_ => .no
def X92 : Option Ob → Bool
 | some (.box _ _) => true
 | _ => false
def Yil (z0 : D) (z : Nat) (ob : Objs) : V → Rr
 | .bs id p lo n => bif Nat.beq n 0 then (bif X92 (lookO ob id) then .ok (.tup []) ob else .no) else bif decide (z0.sz = z) && decide (z = 1) then Ydr ob id p lo n z (List.replicate n z0) (.tup []) (lookO ob id) else .no
 | _ => .no
def Yiv (n z : Nat) : D → V → Option V
 | .agg xs,.d (.int _ m) => gdR (decide (0 ≤ m) && decide (m < n) && decide (xs.length = n) && xs.all (fun x => decide (x.sz = z))) (.d (.ref (xs.getD m.toNat default)))
 | _,_ => none
def V.isNils : V → Bool
 | .d .nils => true
 | _ => false
def X84 : Option V → Bool
 | some v => v.isNils
 | none => false
def Ybb (ob : Objs) (id : Nat) (p : List Nat) (E sz : Nat) (y : V) : Option Ob → Rr
 | some (.box E0 t) => bif X84 (t.at p) then (match t.set p (.sl (fresh ob) 0) with | some t' => .ok y ((fresh ob,.arr E sz []) :: setO ob id (.box E0 t')) | none => .no) else .no
 | _ => .no
def Yd0 (ob : Objs) (E sz : Nat) (p : List Nat) (y : V) : V → Rr
 | .ptr id q => Ybb ob id (q ++ p) E sz y (lookO ob id)
 | _ => .no
def Yd1 (y x : V) : List (Nat × Nat × List Nat) → Objs → Rr
 | [],ob => .ok y ob
 | e :: l,ob => match Yd0 ob e.1 e.2.1 e.2.2 y x with
  | .ok _ ob' => Yd1 y x l ob'
  | _ => .no
def X9g (id n : Nat) (ob : Objs) : Option Ob → Rr
 | some (.arr _ sz xs) => bif decide (sz ≠ 0) && decide (n = xs.length) && !xs.isEmpty then .ok (.d (.list sz xs)) (setO ob id .gone) else .no
 | _ => .no
def Yio (ob : Objs) : V → Rr
 | .sl id n => X9g id n ob (lookO ob id)
 | _ => .no
def X3p (id n : Nat) (m : Int) (E : Nat) (ob : Objs) : Option Ob → Rr
 | some (.arr E' sz xs) => bif decide (E' = E) && decide (sz = 1) && decide (n = xs.length) && decide (m = n) && decide (n ≤ 9223372036854775807) && !xs.isEmpty then (match Xao xs with | some s => .ok (.d (.str s)) (setO ob id .gone) | none => .no) else .no
 | _ => .no
def Ydj (E : Nat) (ob : Objs) : V → V → Rr
 | .sd id n,.d (.int .i64 m) => X3p id n m E ob (lookO ob id)
 | .d .nilp,.d (.int .i64 m) => bif decide (m = 0) then .ok (.d (.str [])) ob else .no
 | _,_ => .no
def X3g (ob : Objs) : V → Rr
 | .iface t v => .pn (.iface t v) ob
 | .d (.iface t v) => .pn (.d (.iface t v)) ob
 | _ => .no

structure Fns where
 call : Nat → List V → Objs → Option (Out × Objs)
 pc : Nat → List V → Objs → Option V
 ca : Nat → Bool
 gl : Nat → Option D
structure Fns.ok (P : Prg) (R : Fns) : Prop where
 call : ∀ f vs ob o b,R.call f vs ob = some (o,b) → ACall P f vs ob fun o' b' => o' = o ∧ b' = b
 pc : ∀ f vs ob v,R.pc f vs ob = some v → PCall P f vs ob fun v' => v' = v
 ca : ∀ f,R.ca f = true → Xf P.p f = true
 gl : ∀ g x,R.gl g = some x → Xba P g x

def Ycv : Option (Out × Objs) → Rr
 | some (.ret v,ob) => .ok v ob
 | some (.panic v,ob) => .pn v ob
 | none => .no
def X1h (R : Fns) (args : List V) (ob : Objs) : V → Rr
 | .fn f fi ca => bif R.ca f then Ycv (R.call f (fi ++ args ++ ca) ob) else .no
 | .d (.fn f fi ca) => bif R.ca f then Ycv (R.call f (fi.map .d ++ args ++ ca.map .d) ob) else .no
 | _ => .no
def Xye (l : Option (List V)) : Option (List D) := match l with
 | some ks => V.allD ks
 | none => none

def Xz8 (kd k : D) (es : List (D × V)) : Bool := D.alike kd k && es.all fun e => D.alike k e.1
theorem Xol {kd k : D} {es : List (D × V)} (h : Xz8 kd k es = true) : Qb kd k es := by
 simp only [Xz8,Bool.and_eq_true,List.all_eq_true] at h
 exact h
def Yad (kd z : D) (ok : Bool) (k : D) : Option Ob → Option V
 | some (.map es) => gdR (Xz8 kd k es) (X0i z ok (Q6 k es))
 | _ => none
def Yjg (ob : Objs) (kd z : D) (ok : Bool) : V → V → Option V
 | .mp id,.d k => Yad kd z ok k (lookO ob id)
 | .d .nilm,.d k => gdR (D.alike kd k) (X0i z ok none)
 | _,_ => none
def X1z (ob : Objs) (id : Nat) (kd k : D) (v : V) : Option Ob → Rr
 | some (.map es) => bif Xz8 kd k es && v.sto then .ok .undef (setO ob id (.map (Xnf k v es))) else .no
 | _ => .no
def Yba (ob : Objs) (kd : D) (v : V) : V → V → Rr
 | .mp id,.d k => X1z ob id kd k v (lookO ob id)
 | _,_ => .no
def Yc7 (ob : Objs) (id n z : Nat) : Option V → Rr
 | some (.d (.agg xs)) => bif decide (xs.length = n) && xs.all (fun x => decide (x.sz = z)) then .ok (.d (.list z xs)) (setO ob id .gone) else .no
 | _ => .no
def Ymu (ob : Objs) (n z : Nat) : V → Rr
 | .ptr id p => Yc7 ob id n z (atO ob id p)
 | _ => .no
def X1p : V → Bool
 | .d (.int _ _) => true
 | _ => false
def Ykv (sl : Xb) : Option A → Bool
 | none => true
 | some x => X1p (x.ev sl)

def I.run (R : Fns) (sl : Xb) (ob : Objs) : I → Rr
 | .c x => X0o (x.run sl ob) ob
 | .box E x => bif (x.ev sl).sto then .ok (.ptr (fresh ob) []) ((fresh ob,.box E (x.ev sl)) :: ob) else .no
 | .alloc E z => bif (V.d z).sto then .ok (.ptr (fresh ob) []) ((fresh ob,.box E (.d z)) :: ob) else .no
 | .bls sz z Xs => match Xye (X1f (z.map .d) (Xs.map fun (i,x) => (i,x.ev sl))) with
  | some l => .ok (.d (.list sz l)) ob
  | none => .no
 | .blo E sz z Xs => match Xye (X1f (z.map .d) (Xs.map fun (i,x) => (i,x.ev sl))) with
  | some l => .ok (.sl (fresh ob) l.length) ((fresh ob,.arr E sz l) :: ob)
  | none => .no
 | .st n x v => Ymx ob n (v.ev sl) (x.ev sl)
 | .app E sz B x y => match Ymw sz (y.ev sl) with
  | some ys => Ydp E sz B ob ys (x.ev sl)
  | none => .no
 | .appS E B x y => match Yc8 (y.ev sl) with
  | some ys => Ydp E 1 B ob ys (x.ev sl)
  | none => .no
 | .call f args => Ycv (R.call f (args.map (A.ev sl)) ob)
 | .pcall f args => X0o (R.pc f (args.map (A.ev sl)) ob) ob
 | .callv x args => X1h R (args.map (A.ev sl)) ob (x.ev sl)
 | .panic x => X3g ob (x.ev sl)
 | .b2s x => X0o (Yig (x.ev sl)) ob
 | .s2b x => X0o (Ymr (x.ev sl)) ob
 | .nilo E sz x => bif (x.ev sl).isNils then .ok (.sl (fresh ob) 0) ((fresh ob,.arr E sz []) :: ob) else .no
 | .mvf x => X9u (V.giv ob (x.ev sl))
 | .ldf n ag x => Yjc n ag ob (x.ev sl)
 | .mvg E sz y x p => Yd0 ob E sz p (y.ev sl) (x.ev sl)
 | .mvn y x l => Yd1 (y.ev sl) (x.ev sl) l ob
 | .cvb x => Yio ob (x.ev sl)
 | .ustr E x y => Ydj E ob (x.ev sl) (y.ev sl)
 | .mkm r => bif Ykv sl r then .ok (.mp (fresh ob)) ((fresh ob,.map []) :: ob) else .no
 | .lkp kd z ok m k => X0o (Yjg ob kd z ok (m.ev sl) (k.ev sl)) ob
 | .mset kd m k v => Yba ob kd (v.ev sl) (m.ev sl) (k.ev sl)
 | .gld g n ag x => match R.gl g with
  | some y => bif decide (y.sz = n) && ((V.d y).isAgg == ag) && D.eqb x y then .ok (.d x) ob else .no
  | none => .no
 | .slg n z x => Ymu ob n z (x.ev sl)
 | .blv E sz z Xs => match X1f (z.map .d) (Xs.map fun (i,x) => (i,x.ev sl)) with
  | some ks => .ok (.sl (fresh ob) ks.length) ((fresh ob,.vec E sz ks) :: ob)
  | none => .no
 | .apv E sz B x y => match Yc9 sz ob (y.ev sl) with
  | some ys => Yif E sz B ob ys (x.ev sl)
  | none => .no
 | .gv x => X9u (V.gvF 40000 ob (x.ev sl))
 | .ldg n ag x => Yjd n ag ob (x.ev sl)
 | .slb n z x lo hi => X0o (Ymt ob n z (lo.map (A.ev sl)) (hi.map (A.ev sl)) (x.ev sl)) ob
 | .cpy z x y => Yin z ob (x.ev sl) (y.ev sl)
 | .clr z0 z x => Yil z0 z ob (x.ev sl)
 | .gix g n z x i => match R.gl g with
  | some y => bif D.eqb x y then X0o (Yiv n z x (i.ev sl)) ob else .no
  | none => .no

def Rr.to (K Pn : V → Objs → Prop) : Rr → Prop
 | .ok v ob => K v ob
 | .pn v ob => Pn v ob
 | .no => False

section
variable {P : Prg} {R : Fns} {sl : Xb} {ob : Objs} {K Pn : V → Objs → Prop}
theorem Jd {o : Option V} (h : (X0o o ob).to K Pn) : ∃ v,o = some v ∧ K v ob := by
 unfold X0o at h; split at h
 ·exact ⟨_,rfl,h⟩
 ·exact h.elim
theorem Xip {v : V} (h : v.isNils = true) : v = .d .nils := by
 unfold V.isNils at h; split at h
 ·rfl
 ·cases h
theorem Xm6 (hR : R.ok P) {f : Nat} {vs : List V} (h : (Ycv (R.call f vs ob)).to K Pn) : ACall P f vs ob (Xm5 K Pn) := by
 unfold Ycv at h
 split at h
 ·rename_i v b hc
  exact (hR.call f vs ob _ _ hc).mono fun o b ⟨e1,e2⟩ => by subst e1; subst e2; exact h
 ·rename_i v b hc
  exact (hR.call f vs ob _ _ hc).mono fun o b ⟨e1,e2⟩ => by subst e1; subst e2; exact h
 ·exact h.elim
theorem Xks {o : Option (D × Objs)} (h : (X9u o).to K Pn) : Xig K o := by
 unfold X9u at h; split at h
 ·exact h
 ·exact h.elim
theorem Xx {b : Bool} {x : Rr} (h : (bif b then x else .no).to K Pn) : b = true ∧ x.to K Pn := by
 cases b
 ·exact h.elim
 ·exact ⟨rfl,h⟩
theorem Xsi {id lo n z : Nat} {p : List Nat} {ys : List D} {r : V} {o : Option Ob} (h : (Ydr ob id p lo n z ys r o).to K Pn) : Xxf ob id p lo n z ys r K o := by
 unfold Ydr at h; split at h
 ·unfold Yij at h; split at h
  ·rename_i xs hat
   obtain ⟨h1,h2⟩ := Xx h
   simp only [Bool.and_eq_true,decide_eq_true_eq,List.all_eq_true] at h1
   split at h2
   ·rename_i t' ht
    simp only [Xxf,hat,Yds]
    exact ⟨h1.1.1,h1.1.2,Sh.beq_eq _ _ h1.2,t',ht,h2⟩
   ·exact h2.elim
  ·exact h.elim
 ·exact h.elim
theorem Xuh {E sz : Nat} {y a : V} {p : List Nat} (h : (Yd0 ob E sz p y a).to K Pn) : Xj2 ob E sz p y K a := by
 unfold Yd0 at h; split at h
 ·unfold Ybb at h; split at h
  ·rename_i E0 t hl
   obtain ⟨h1,h2⟩ := Xx h
   split at h2
   ·rename_i t' ht
    unfold X84 at h1
    split at h1
    ·rename_i v hv
     simp only [Xj2,hl,Xd3,ht,Xiz]
     exact .inl ⟨by rw [hv,Xip h1],h2⟩
    ·cases h1
   ·exact h2.elim
  ·exact h.elim
 ·exact h.elim
theorem Xui {y a : V} : ∀ {l : List (Nat × Nat × List Nat)} {ob : Objs},(Yd1 y a l ob).to K Pn → X10 y K a l ob
 | [],_,h => h
 | e :: l,ob,h => by
  unfold Yd1 at h
  split at h
  ·rename_i v' ob' he
   exact Xuh (Pn := fun _ _ => False) (by rw [he]; exact Xui h)
  ·exact h.elim

theorem I.run_sound (hR : R.ok P) {i : I} (h : (i.run R sl ob).to K Pn) : i.wp P sl ob K Pn := by
 cases i <;> simp only [I.run] at h <;> simp only [I.wp]
 case c x =>
  obtain ⟨v,h1,h2⟩ := Jd h
  exact C.run_sound (K := fun v => K v ob) h1 h2
 case box E x => obtain ⟨h1,h2⟩ := Xx h; exact ⟨h1,h2⟩
 case alloc E z => obtain ⟨h1,h2⟩ := Xx h; exact ⟨h1,h2⟩
 case bls sz z Xs =>
  split at h
  ·rename_i l hl
   unfold Xye at hl
   split at hl
   ·rename_i ks hk
    refine Vr _ _ hk ?_
    rw [hl]; exact h
   ·cases hl
  ·exact h.elim
 case blo E sz z Xs =>
  split at h
  ·rename_i l hl
   unfold Xye at hl
   split at hl
   ·rename_i ks hk
    refine Vr _ _ hk ?_
    rw [hl]; exact h
   ·cases hl
  ·exact h.elim
 case st n x v =>
  generalize A.ev sl x = a at h ⊢
  unfold Ymx at h; split at h
  ·unfold Ydd at h; split at h
   ·rename_i E t hl
    rw [V.atF_eq] at h
    unfold Yde at h; split at h
    ·rename_i old ho
     obtain ⟨h1,h2⟩ := Xx h
     simp only [Bool.and_eq_true,V.szIs_eq,decide_eq_true_eq] at h1
     rw [V.setF_eq] at h2
     split at h2
     ·rename_i t' ht
      simp only [stK,hl,stKo,ho,Xw1]
      exact ⟨Xwd h1.1.1,h1.1.2,h1.2,t',ht,h2⟩
     ·exact h2.elim
    ·exact h.elim
   ·exact h.elim
  unfold stR at h; split at h
  ·unfold Ymy at h; split at h
   ·rename_i E t hl
    unfold Ymz at h; split at h
    ·rename_i old ho
     obtain ⟨h1,h2⟩ := Xx h
     simp only [Bool.and_eq_true,decide_eq_true_eq] at h1
     split at h2
     ·rename_i t' ht
      simp only [stK,hl,stKo,ho,Xw1]
      exact ⟨Sh.beq_eq _ _ h1.1.1,h1.1.2,h1.2,t',ht,h2⟩
     ·exact h2.elim
    ·exact h.elim
   ·exact h.elim
  ·unfold Yda at h; split at h
   ·rename_i o hl
    unfold Ydc at h; split at h
    ·rename_i v0 he
     obtain ⟨h0,h⟩ := Xx h
     simp only [Bool.and_eq_true,decide_eq_true_eq] at h0
     unfold Ydb at h; split at h
     ·rename_i old ho
      obtain ⟨h1,h2⟩ := Xx h
      simp only [Bool.and_eq_true,decide_eq_true_eq] at h1
      split at h2
      ·rename_i t' ht
       simp only [stK,hl,Xxn,he,X01,ho,Xxo]
       exact ⟨h0,Sh.beq_eq _ _ h1.1.1,h1.1.2,h1.2,t',ht,h2⟩
      ·exact h2.elim
     ·exact h.elim
    ·exact h.elim
   ·exact h.elim
  ·exact h.elim
 case blv E sz z Xs =>
  split at h
  ·rename_i ks hk
   exact Vr _ _ hk h
  ·exact h.elim
 case gv x => exact Xks h
 case slb n z x lo hi =>
  obtain ⟨v,h1,h2⟩ := Jd h
  generalize A.ev sl x = a at h1 ⊢
  unfold Ymt at h1; split at h1
  ·rename_i id p
   unfold Yc4 at h1; split at h1
   ·rename_i ks hk
    rw [Bool.cond_eq_ite] at h1; split at h1
    ·rename_i hc
     simp only [Bool.and_eq_true,decide_eq_true_eq,List.all_eq_true] at hc
     rw [Option.map_eq_some_iff] at h1
     obtain ⟨q,hq,rfl⟩ := h1
     simp only [X8n,hk,Xqk]
     exact ⟨hc.1,hc.2,Xam (K := fun l h => K (.bs id p l (h - l)) ob) hq h2⟩
    ·cases h1
   ·cases h1
  ·cases h1
 case cpy z x y =>
  generalize A.ev sl x = a at h ⊢; generalize A.ev sl y = b at h ⊢
  unfold Yin at h; split at h
  ·obtain ⟨h1,h2⟩ := Xx h
   exact ⟨of_decide_eq_true h1,Xsi h2⟩
  ·exact h.elim
 case clr z0 z x =>
  generalize A.ev sl x = a at h ⊢
  unfold Yil at h; split at h
  ·rename_i id p lo n
   rw [Bool.cond_eq_ite] at h
   split at h
   ·rename_i hn
    have hn : n = 0 := Nat.eq_of_beq_eq_true hn
    obtain ⟨h1,h2⟩ := Xx h
    refine ⟨fun _ => ⟨?_,h2⟩,fun e => (e hn).elim⟩
    generalize lookO ob id = o at h1 ⊢
    unfold X92 at h1; split at h1
    ·exact ⟨_,_,rfl⟩
    ·cases h1
   ·rename_i hn
    have hn : n ≠ 0 := fun e => hn (by rw [e]; rfl)
    obtain ⟨h1,h2⟩ := Xx h
    simp only [Bool.and_eq_true,decide_eq_true_eq] at h1
    exact ⟨fun e => (hn e).elim,fun _ => ⟨h1,Xsi h2⟩⟩
  ·exact h.elim
 case gix g n z x i =>
  split at h
  ·rename_i y hy
   obtain ⟨h1,h9⟩ := Xx h
   clear h
   have e := D.eqb_eq _ _ h1
   subst e
   refine ⟨hR.gl g _ hy,?_⟩
   obtain ⟨v,h2,h3⟩ := Jd h9
   generalize A.ev sl i = b at h2 ⊢
   unfold Yiv at h2; split at h2
   ·obtain ⟨h4,rfl⟩ := X5 h2
    simp only [Bool.and_eq_true,decide_eq_true_eq,List.all_eq_true] at h4
    exact ⟨h4.1.1,h4.1.2,h4.2,h3⟩
   ·cases h2
  ·exact h.elim
 case ldg n ag x =>
  generalize A.ev sl x = a at h ⊢
  unfold Yjd at h; split at h
  ·unfold Yab at h; split at h
   ·rename_i v hv
    obtain ⟨h1,h⟩ := Xx h
    simp only [Bool.and_eq_true,decide_eq_true_eq,beq_iff_eq] at h1
    unfold Yaa at h; split at h
    ·rename_i x1 ob1 hg
     obtain ⟨h2,h⟩ := Xx h
     unfold X99 at h; split at h
     ·rename_i E t hl
      split at h
      ·rename_i t' ht
       simp only [X1u,hv,Xqd,hg,Xqc,hl,Xtx]
       exact ⟨h1.1,h1.2,Sh.beq_eq _ _ h2,t',ht,h⟩
      ·exact h.elim
     ·exact h.elim
    ·exact h.elim
   ·exact h.elim
  ·exact h.elim
 case apv E sz B x y =>
  split at h
  ·rename_i ys hy
   have hx : Xn7 E sz B ob ys K (A.ev sl x) := by
    generalize A.ev sl x = a at h ⊢
    unfold Yif at h; split at h
    ·unfold X83 at h; split at h
     ·rename_i E' sz' xs hl
      obtain ⟨h1,h2⟩ := Xx h
      simp only [Bool.and_eq_true,decide_eq_true_eq] at h1
      simp only [Xn7,hl,Xdy]
      exact ⟨h1.1.1.1,h1.1.1.2,h1.1.2,h1.2,h2⟩
     ·rename_i E' sz' xs hl
      obtain ⟨h1,h2⟩ := Xx h
      simp only [Bool.and_eq_true,decide_eq_true_eq] at h1
      simp only [Xn7,hl,Xdy]
      exact ⟨h1.1.1.1,h1.1.1.2,h1.1.2,h1.2,h2⟩
     ·exact h.elim
    ·obtain ⟨h1,h2⟩ := Xx h
     exact ⟨of_decide_eq_true h1,h2⟩
    ·exact h.elim
   generalize A.ev sl y = b at hy ⊢
   unfold Yc9 at hy; split at hy
   ·rw [Bool.cond_eq_ite] at hy; split at hy
    ·rename_i hc; cases hy; exact ⟨of_decide_eq_true hc,hx⟩
    ·cases hy
   ·cases hy; exact hx
   ·rename_i id n
    unfold X3k at hy; split at hy
    ·rename_i E1 z ys1 hl
     rw [Bool.cond_eq_ite] at hy; split at hy
     ·rename_i hc; cases hy
      simp only [Bool.and_eq_true,decide_eq_true_eq] at hc
      obtain ⟨⟨rfl,h2⟩,h3⟩ := hc
      exact .inl ⟨E1,_,hl,h2,h3,hx⟩
     ·cases hy
    ·rename_i E1 z ys1 hl
     rw [Bool.cond_eq_ite] at hy; split at hy
     ·rename_i hc; cases hy
      simp only [Bool.and_eq_true,decide_eq_true_eq] at hc
      obtain ⟨rfl,h2⟩ := hc
      exact .inr ⟨E1,ys1,hl,h2,hx⟩
     ·cases hy
    ·cases hy
   ·cases hy
  ·exact h.elim
 case app E sz B x y =>
  split at h
  ·rename_i ys hy
   have hx : Xdv E sz B ob ys K (A.ev sl x) := by
    generalize A.ev sl x = a at h ⊢
    unfold Ydp at h; split at h
    ·unfold X45 at h; split at h
     ·rename_i E' sz' xs hl
      obtain ⟨h1,h2⟩ := Xx h
      simp only [Bool.and_eq_true,decide_eq_true_eq] at h1
      simp only [Xdv,hl,Xdx]
      exact ⟨h1.1.1.1,h1.1.1.2,h1.1.2,h1.2,h2⟩
     ·exact h.elim
    ·obtain ⟨h1,h2⟩ := Xx h
     exact ⟨of_decide_eq_true h1,h2⟩
    ·exact h.elim
   generalize A.ev sl y = b at hy ⊢
   unfold Ymw at hy; split at hy
   ·rw [Bool.cond_eq_ite] at hy; split at hy
    ·rename_i hc; cases hy; exact ⟨of_decide_eq_true hc,hx⟩
    ·cases hy
   ·cases hy; exact hx
   ·cases hy
  ·exact h.elim
 case appS E B x y =>
  split at h
  ·rename_i ys hy
   have hx : Xdv E 1 B ob ys K (A.ev sl x) := by
    generalize A.ev sl x = a at h ⊢
    unfold Ydp at h; split at h
    ·unfold X45 at h; split at h
     ·rename_i E' sz' xs hl
      obtain ⟨h1,h2⟩ := Xx h
      simp only [Bool.and_eq_true,decide_eq_true_eq] at h1
      simp only [Xdv,hl,Xdx]
      exact ⟨h1.1.1.1,h1.1.1.2,h1.1.2,h1.2,h2⟩
     ·exact h.elim
    ·obtain ⟨h1,h2⟩ := Xx h
     exact ⟨of_decide_eq_true h1,h2⟩
    ·exact h.elim
   generalize A.ev sl y = b at hy ⊢
   unfold Yc8 at hy; split at hy
   ·cases hy; exact hx
   ·cases hy
  ·exact h.elim
 case call f args => exact Xm6 hR h
 case pcall f args =>
  obtain ⟨v,h1,h2⟩ := Jd h
  exact (hR.pc _ _ _ _ h1).mono fun v' e => by subst e; exact h2
 case callv x args =>
  generalize A.ev sl x = a at h ⊢
  unfold X1h at h; split at h
  ·obtain ⟨h1,h2⟩ := Xx h
   exact ⟨hR.ca _ h1,Xm6 hR h2⟩
  ·obtain ⟨h1,h2⟩ := Xx h
   exact ⟨hR.ca _ h1,Xm6 hR h2⟩
  ·exact h.elim
 case panic x =>
  generalize A.ev sl x = a at h ⊢
  unfold X3g at h; split at h
  ·exact h
  ·exact h
  ·exact h.elim
 case b2s x =>
  obtain ⟨v,h1,h2⟩ := Jd h
  generalize A.ev sl x = a at h1 ⊢
  unfold Yig at h1; split at h1
  ·rw [Bool.cond_eq_ite] at h1; split at h1
   ·rename_i hc
    rw [Option.map_eq_some_iff] at h1
    obtain ⟨s,h3,rfl⟩ := h1
    exact ⟨of_decide_eq_true hc,s,Xap h3,h2⟩
   ·cases h1
  ·cases h1; exact h2
  ·cases h1
 case s2b x =>
  obtain ⟨v,h1,h2⟩ := Jd h
  generalize A.ev sl x = a at h1 ⊢
  unfold Ymr at h1; split at h1
  ·cases h1; exact h2
  ·cases h1
 case nilo E sz x => obtain ⟨h1,h2⟩ := Xx h; rw [Xip h1]; exact h2
 case mvf x => exact Xks h
 case ldf n ag x =>
  generalize A.ev sl x = a at h ⊢
  unfold Yjc at h; split at h
  ·unfold X98 at h; split at h
   ·rename_i v hv
    obtain ⟨h1,h2⟩ := Xx h
    simp only [Bool.and_eq_true,decide_eq_true_eq,beq_iff_eq] at h1
    simp only [X0a,hv,Xky]
    exact ⟨h1.1,h1.2,Xks h2⟩
   ·exact h.elim
  ·exact h.elim
 case mvg => exact Xuh h
 case mvn => exact Xui h
 case cvb x =>
  generalize A.ev sl x = a at h ⊢
  unfold Yio at h; split at h
  ·unfold X9g at h; split at h
   ·rename_i E' sz xs hl
    obtain ⟨h1,h2⟩ := Xx h
    simp at h1
    simp only [Xst,hl,Xfl]
    exact ⟨h1.1.1,h1.1.2,h1.2,h2⟩
   ·exact h.elim
  ·exact h.elim
 case ustr E x y =>
  generalize A.ev sl x = a at h ⊢; generalize A.ev sl y = b at h ⊢
  unfold Ydj at h; split at h
  ·unfold X3p at h; split at h
   ·rename_i E' sz xs hl
    obtain ⟨h1,h2⟩ := Xx h
    split at h2
    ·rename_i s hs
     simp at h1
     simp only [Xa6,hl,Xag]
     exact ⟨h1.1.1.1.1.1,h1.1.1.1.1.2,h1.1.1.1.2,h1.1.1.2,h1.1.2,h1.2,s,Xap hs,h2⟩
    ·exact h2.elim
   ·exact h.elim
  ·obtain ⟨h1,h2⟩ := Xx h
   exact ⟨of_decide_eq_true h1,h2⟩
  ·exact h.elim
 case mkm r =>
  obtain ⟨h1,h2⟩ := Xx h
  refine ⟨?_,h2⟩
  cases r with
  | none => trivial
  | some x =>
   simp only [Ykv] at h1
   simp only [Xxk]
   generalize A.ev sl x = a at h1 ⊢
   unfold X1p at h1; split at h1
   ·trivial
   ·cases h1
 case lkp kd z ok m k =>
  obtain ⟨v,h1,h2⟩ := Jd h
  generalize A.ev sl m = a at h1 ⊢; generalize A.ev sl k = b at h1 ⊢
  unfold Yjg at h1; split at h1
  ·unfold Yad at h1; split at h1
   ·rename_i es hl
    obtain ⟨h3,rfl⟩ := X5 h1
    simp only [Xt3,hl,Xf0]
    exact ⟨Xol h3,h2⟩
   ·cases h1
  ·obtain ⟨h3,rfl⟩ := X5 h1
   exact ⟨h3,h2⟩
  ·cases h1
 case mset kd m k v =>
  generalize A.ev sl m = a at h ⊢; generalize A.ev sl k = b at h ⊢
  unfold Yba at h; split at h
  ·unfold X1z at h; split at h
   ·rename_i es hl
    obtain ⟨h1,h2⟩ := Xx h
    simp only [Bool.and_eq_true] at h1
    simp only [Xc6,hl,J6]
    exact ⟨Xol h1.1,h1.2,h2⟩
   ·exact h.elim
  ·exact h.elim
 case slg n z x =>
  generalize A.ev sl x = a at h ⊢
  unfold Ymu at h; split at h
  ·rename_i id p
   unfold Yc7 at h; split at h
   ·rename_i xs hat
    obtain ⟨h1,h2⟩ := Xx h
    simp only [Bool.and_eq_true,decide_eq_true_eq,List.all_eq_true] at h1
    simp only [X3j,hat,Xql]
    exact ⟨h1.1,h1.2,h2⟩
   ·exact h.elim
  ·exact h.elim
 case gld g n ag x =>
  split at h
  ·rename_i y hy
   obtain ⟨h1,h2⟩ := Xx h
   simp only [Bool.and_eq_true,decide_eq_true_eq,beq_iff_eq] at h1
   have e := D.eqb_eq _ _ h1.2
   subst e
   exact ⟨hR.gl g _ hy,h1.1.1,h1.1.2,h2⟩
  ·exact h.elim
end

inductive Rq where
 | ok (sl : Xb) (ob : Objs)
 | pn (v : V) (sl : Xb) (ob : Objs)
 | no
def Rq.to (K : Xb → Objs → Prop) (Pn : V → Xb → Objs → Prop) : Rq → Prop
 | .ok sl ob => K sl ob
 | .pn v sl ob => Pn v sl ob
 | .no => False

mutual
def V.ids : V → List Nat
 | .ptr id _ => [id]
 | .sl id _ => [id]
 | .sd id _ => [id]
 | .mp id => [id]
 | .ep id _ _ _ _ _ => [id]
 | .bs id _ _ _ => [id]
 | .fn _ a b => V.idss a ++ V.idss b
 | .agg xs => V.idss xs
 | .iface _ v => V.ids v
 | .tup xs => V.idss xs
 | _ => []
def V.idss : List V → List Nat
 | [] => []
 | x :: r => V.ids x ++ V.idss r
end
def Yiw : Xb → List Nat
 | [] => []
 | (_,v) :: r => V.ids v ++ Yiw r
def X8h : Objs → List Nat
 | [] => []
 | (_,.box _ t) :: r => V.ids t ++ X8h r
 | (_,.vec _ _ xs) :: r => V.idss xs ++ X8h r
 | (_,.map es) :: r => V.idss (es.map (·.2)) ++ X8h r
 | _ :: r => X8h r

def Xqy (R : Fns) (sl : Xb) (ob : Objs) (d : Option Nat) (i : I) (k : Xb → Objs → Rq) : Rq := match i.run R sl ob with
 | .ok v ob' => k (put sl d v) ob'
 | .pn v ob' => .pn v sl ob'
 | .no => .no
def X0v (R : Fns) : List It → Xb → Objs → Rq
 | [],sl,ob => .ok sl ob
 | .op d i :: r,sl,ob => Xqy R sl ob d i (X0v R r)
 | .gop s want d i :: r,sl,ob => match look sl s with
  | .d (.bool b) => bif b == want then Xqy R ((s,.d (.bool want)) :: sl) ob d i (X0v R r) else X0v R r (put ((s,.d (.bool (!want))) :: sl) d .undef) ob
  | .undef => X0v R r (put sl d .undef) ob
  | _ => .no

theorem Uk {P : Prg} {R : Fns} (hR : R.ok P) {sl : Xb} {ob : Objs} {d : Option Nat} {i : I} {k : Xb → Objs → Rq} {k' K : Xb → Objs → Prop} {Pn : V → Xb → Objs → Prop} (hk : ∀ sl ob,(k sl ob).to K Pn → k' sl ob) (h : (Xqy R sl ob d i k).to K Pn) :
  i.wp P sl ob (fun v ob' => k' (put sl d v) ob') (fun v ob' => Pn v sl ob') := by
 refine I.run_sound hR ?_
 unfold Xqy at h
 split at h
 ·rename_i e; rw [e]; exact hk _ _ h
 ·rename_i e; rw [e]; exact h
 ·exact h.elim
theorem Z6 {P : Prg} {R : Fns} (hR : R.ok P) {K : Xb → Objs → Prop} {Pn : V → Xb → Objs → Prop} : ∀ (l : List It) (sl : Xb) (ob : Objs),(X0v R l sl ob).to K Pn → rwp P K Pn l sl ob
 | [],sl,ob,h => h
 | .op d i :: r,sl,ob,h => Uk hR (fun sl ob h => Z6 hR r sl ob h) h
 | .gop s want d i :: r,sl,ob,h => by
  simp only [X0v] at h
  simp only [rwp]
  split at h
  ·rename_i b hb
   rw [hb]
   simp only [gdK]
   rw [Bool.cond_eq_ite] at h
   split at h
   ·rename_i e
    have e : b = want := by simpa using e
    refine ⟨fun _ => Uk hR (fun sl ob h => Z6 hR r sl ob h) h,fun e2 => ?_⟩
    rw [e] at e2; cases want <;> cases e2
   ·rename_i e
    have e : ¬ b = want := by simpa using e
    exact ⟨fun e2 => (e e2).elim,fun _ => Z6 hR r _ ob h⟩
  ·rename_i hb
   rw [hb]
   exact Z6 hR r _ ob h
  ·exact h.elim

mutual
def V.eqb : V → V → Bool
 | .d x,.d y => D.eqb x y
 | .ptr i p,.ptr j q => Nat.beq i j && decide (p = q)
 | .sl i n,.sl j m => Nat.beq i j && Nat.beq n m
 | .sd i n,.sd j m => Nat.beq i j && Nat.beq n m
 | .mp i,.mp j => Nat.beq i j
 | .ep i n s k f p,.ep j m t l g q => Nat.beq i j && Nat.beq n m && Nat.beq s t && Nat.beq k l && Nat.beq f g && decide (p = q)
 | .bs i p k n,.bs j q l m => Nat.beq i j && Nat.beq k l && Nat.beq n m && decide (p = q)
 | .fn f a b,.fn g a2 b2 => Nat.beq f g && V.eqbs a a2 && V.eqbs b b2
 | .agg a,.agg b => V.eqbs a b
 | .iface t a,.iface u b => Nat.beq t u && V.eqb a b
 | .tup a,.tup b => V.eqbs a b
 | .undef,.undef => true
 | .any,.any => true
 | _,_ => false
def V.eqbs : List V → List V → Bool
 | [],[] => true
 | x :: r,y :: s => V.eqb x y && V.eqbs r s
 | _,_ => false
end
mutual
theorem V.eqb_eq : ∀ (x y : V),V.eqb x y = true → x = y
 | .d a,y,h => by cases y <;> simp only [V.eqb,Bool.false_eq_true] at h; rw [D.eqb_eq _ _ h]
 | .ptr i p,y,h => by cases y <;> simp only [V.eqb,Bool.false_eq_true,Bool.and_eq_true,decide_eq_true_eq] at h; rw [Nat.eq_of_beq_eq_true h.1,h.2]
 | .sl i n,y,h => by cases y <;> simp only [V.eqb,Bool.false_eq_true,Bool.and_eq_true] at h; rw [Nat.eq_of_beq_eq_true h.1,Nat.eq_of_beq_eq_true h.2]
 | .sd i n,y,h => by cases y <;> simp only [V.eqb,Bool.false_eq_true,Bool.and_eq_true] at h; rw [Nat.eq_of_beq_eq_true h.1,Nat.eq_of_beq_eq_true h.2]
 | .mp i,y,h => by cases y <;> simp only [V.eqb,Bool.false_eq_true] at h; rw [Nat.eq_of_beq_eq_true h]
 | .ep i n s k f p,y,h => by
  cases y <;> simp only [V.eqb,Bool.false_eq_true,Bool.and_eq_true,decide_eq_true_eq] at h
  rw [Nat.eq_of_beq_eq_true h.1.1.1.1.1,Nat.eq_of_beq_eq_true h.1.1.1.1.2,Nat.eq_of_beq_eq_true h.1.1.1.2,Nat.eq_of_beq_eq_true h.1.1.2,Nat.eq_of_beq_eq_true h.1.2,h.2]
 | .bs i p k n,y,h => by
  cases y <;> simp only [V.eqb,Bool.false_eq_true,Bool.and_eq_true,decide_eq_true_eq] at h
  rw [Nat.eq_of_beq_eq_true h.1.1.1,Nat.eq_of_beq_eq_true h.1.1.2,Nat.eq_of_beq_eq_true h.1.2,h.2]
 | .fn f a b,y,h => by
  cases y <;> simp only [V.eqb,Bool.false_eq_true,Bool.and_eq_true] at h
  rw [Nat.eq_of_beq_eq_true h.1.1,V.eqbs_eq _ _ h.1.2,V.eqbs_eq _ _ h.2]
 | .agg a,y,h => by cases y <;> simp only [V.eqb,Bool.false_eq_true] at h; rw [V.eqbs_eq _ _ h]
 | .iface t a,y,h => by cases y <;> simp only [V.eqb,Bool.false_eq_true,Bool.and_eq_true] at h; rw [Nat.eq_of_beq_eq_true h.1,V.eqb_eq _ _ h.2]
 | .tup a,y,h => by cases y <;> simp only [V.eqb,Bool.false_eq_true] at h; rw [V.eqbs_eq _ _ h]
 | .undef,y,h => by cases y <;> simp [V.eqb] at h; rfl
 | .any,y,h => by cases y <;> simp [V.eqb] at h; rfl
theorem V.eqbs_eq : ∀ (x y : List V),V.eqbs x y = true → x = y
 | [],y,h => by cases y <;> simp [V.eqbs] at h; rfl
 | x :: r,y,h => by
  cases y <;> simp only [V.eqbs,Bool.false_eq_true,Bool.and_eq_true] at h
  rw [V.eqb_eq _ _ h.1,V.eqbs_eq _ _ h.2]
end
def X9o : List (D × V) → List (D × V) → Bool
 | [],[] => true
 | (k,x) :: r,(j,y) :: s => D.eqb k j && V.eqb x y && X9o r s
 | _,_ => false
theorem Xs8 : ∀ (x y : List (D × V)),X9o x y = true → x = y
 | [],y,h => by cases y <;> simp [X9o] at h; rfl
 | (k,x) :: r,y,h => by
  cases y <;> simp only [X9o,Bool.false_eq_true,Bool.and_eq_true] at h
  rw [D.eqb_eq _ _ h.1.1,V.eqb_eq _ _ h.1.2,Xs8 _ _ h.2]
def Ob.eqb : Ob → Ob → Bool
 | .box E t,.box F u => Nat.beq E F && V.eqb t u
 | .arr E z a,.arr F y b => Nat.beq E F && Nat.beq z y && D.eqbs a b
 | .vec E z a,.vec F y b => Nat.beq E F && Nat.beq z y && V.eqbs a b
 | .map a,.map b => X9o a b
 | .gone,.gone => true
 | _,_ => false
theorem Ob.eqb_eq (x y : Ob) (h : Ob.eqb x y = true) : x = y := by
 cases x <;> cases y <;> simp only [Ob.eqb,Bool.false_eq_true,Bool.and_eq_true] at h
 ·rw [Nat.eq_of_beq_eq_true h.1,V.eqb_eq _ _ h.2]
 ·rw [Nat.eq_of_beq_eq_true h.1.1,Nat.eq_of_beq_eq_true h.1.2,D.eqbs_eq _ _ h.2]
 ·rw [Nat.eq_of_beq_eq_true h.1.1,Nat.eq_of_beq_eq_true h.1.2,V.eqbs_eq _ _ h.2]
 ·rw [Xs8 _ _ h]
 ·rfl
def X8c : Xb → Xb → Bool
 | [],[] => true
 | (k,x) :: r,(j,y) :: s => Nat.beq k j && V.eqb x y && X8c r s
 | _,_ => false
theorem Xkm : ∀ (x y : Xb),X8c x y = true → x = y
 | [],y,h => by cases y <;> simp [X8c] at h; rfl
 | (k,x) :: r,y,h => by
  cases y <;> simp only [X8c,Bool.false_eq_true,Bool.and_eq_true] at h
  rw [Nat.eq_of_beq_eq_true h.1.1,V.eqb_eq _ _ h.1.2,Xkm _ _ h.2]
def Xzc : Objs → Objs → Bool
 | [],[] => true
 | (k,x) :: r,(j,y) :: s => Nat.beq k j && Ob.eqb x y && Xzc r s
 | _,_ => false
theorem Xau : ∀ (x y : Objs),Xzc x y = true → x = y
 | [],y,h => by cases y <;> simp [Xzc] at h; rfl
 | (k,x) :: r,y,h => by
  cases y <;> simp only [Xzc,Bool.false_eq_true,Bool.and_eq_true] at h
  rw [Nat.eq_of_beq_eq_true h.1.1,Ob.eqb_eq _ _ h.1.2,Xau _ _ h.2]
def Rq.eqb : Rq → Rq → Bool
 | .ok a b,.ok c d => X8c a c && Xzc b d
 | .pn v a b,.pn u c d => V.eqb v u && X8c a c && Xzc b d
 | _,_ => false
theorem Rq.eqb_eq (x y : Rq) (h : Rq.eqb x y = true) : x = y := by
 cases x <;> cases y <;> simp only [Rq.eqb,Bool.false_eq_true,Bool.and_eq_true] at h
 ·rw [Xkm _ _ h.1,Xau _ _ h.2]
 ·rw [V.eqb_eq _ _ h.1.1,Xkm _ _ h.1.2,Xau _ _ h.2]
def X5b (x y : Rq) : Rq := bif Rq.eqb x y then x else .no
theorem Xyh {K : Xb → Objs → Prop} {Pn : V → Xb → Objs → Prop} {x y : Rq} (h : (X5b x y).to K Pn) : x.to K Pn ∧ y.to K Pn := by
 unfold X5b at h
 cases hb : Rq.eqb x y with
 | false => rw [hb] at h; exact h.elim
 | true =>
  rw [hb] at h
  have := Rq.eqb_eq x y hb
  subst this
  exact ⟨h,h⟩
def itR (R : Fns) (k : Xb → Objs → Rq) : It → Xb → Objs → Rq
 | .op d i,sl,ob => Xqy R sl ob d i k
 | .gop s want d i,sl,ob => match look sl s with
  | .d (.bool b) => bif b == want then Xqy R ((s,.d (.bool want)) :: sl) ob d i k else k (put ((s,.d (.bool (!want))) :: sl) d .undef) ob
  | .undef => k (put sl d .undef) ob
  | _ => .no
def Xts (keep pk : List Nat) : Rq → Rq
 | .ok sl ob => .ok (Xd sl keep) ob
 | .pn v sl ob => .pn v (Xd sl pk) ob
 | .no => .no
mutual
def X3e (R : Fns) (keep pk : List Nat) : Ot → Xb → Objs → Rq
 | .done,sl,ob => .ok sl ob
 | .one _ x r,sl,ob => itR R (X3e R keep pk r) x sl ob
 | .br l,sl,ob => Xvt R keep pk l sl ob
def Xvt (R : Fns) (keep pk : List Nat) : Ots → Xb → Objs → Rq
 | .nil,_,_ => .no
 | .cons _ x r .nil,sl,ob => Xts keep pk (itR R (X3e R keep pk r) x sl ob)
 | .cons _ x r l,sl,ob => X5b (Xts keep pk (itR R (X3e R keep pk r) x sl ob)) (Xvt R keep pk l sl ob)
end

abbrev Rs := Option (AExit × Xb × Objs)
def Rs.to (Q : Vp) : Rs → Prop
 | some (e,sl,ob) => Q e sl ob
 | none => False
def Ym1 (keep : List Nat) (n : Nat) (sl : Xb) (ob : Objs) : Option (Xb × Objs) :=
 let kp := Yiw (Xd sl keep) ++ X8h ob
 bif Ur (young n kp) (Xd sl keep) && noMenO (young n kp) (Xw (young n kp) ob) then some (Xd sl keep,Xw (young n kp) ob) else none
def X0j (keep : List Nat) (body : Xb → Objs → Rs) : Nat → Xb → Objs → Rs
 | 0,_,_ => none
 | n + 1,sl,ob => match body sl ob with
  | some (.normal,sl',ob') => match Ym1 keep (fresh ob) sl' ob' with
   | some (sl2,ob2) => X0j keep body n sl2 ob2
   | none => none
  | r => r
theorem Xex {sl : Xb} : ∀ (l : List Nat) (k : Nat),k ∈ l → look (Xd sl l) k = look sl k
 | j :: r,k,h => by
  simp only [Xd,look]
  split
  ·rename_i e; rw [e]
  ·rename_i e
   exact Xex r k ((List.mem_cons.1 h).resolve_left (fun e2 => e e2.symm))
theorem Xiq {sl : Xb} {l : List Nat} : ∀ (m : List Nat),(∀ k ∈ m,k ∈ l) → Xd (Xd sl l) m = Xd sl m
 | [],_ => rfl
 | k :: r,h => by
  simp only [Xd,Xex l k (h k (by simp)),Xiq r (fun j hj => h j (by simp [hj]))]
theorem Xeu (sl : Xb) (l : List Nat) : Xd (Xd sl l) l = Xd sl l := Xiq l fun _ h => h
theorem Xoj {Q : Vp} {keep pk : List Nat} {r : Rq} (h : (Xts keep pk r).to (fun sl ob => Q .normal (Xd sl keep) ob) (fun v sl ob => Q (.panic v) (Xd sl pk) ob)) : r.to (fun sl ob => Q .normal (Xd sl keep) ob) (fun v sl ob => Q (.panic v) (Xd sl pk) ob) := by
 cases r with
 | ok sl ob => simp only [Xts,Rq.to,Xeu] at h ⊢; exact h
 | pn v sl ob => simp only [Xts,Rq.to,Xeu] at h ⊢; exact h
 | no => exact h.elim
theorem Xc1 {P : Prg} {R : Fns} (hR : R.ok P) {k : Xb → Objs → Rq} {k' K : Xb → Objs → Prop} {Pn : V → Xb → Objs → Prop} (hk : ∀ sl ob,(k sl ob).to K Pn → k' sl ob) : ∀ (x : It) (sl : Xb) (ob : Objs),(itR R k x sl ob).to K Pn → itK P k' Pn x sl ob
 | .op d i,sl,ob,h => Uk hR hk h
 | .gop s want d i,sl,ob,h => by
  simp only [itR] at h
  simp only [itK]
  split at h
  ·rename_i b hb
   rw [hb]
   simp only [gdK]
   rw [Bool.cond_eq_ite] at h
   split at h
   ·rename_i e
    have e : b = want := by simpa using e
    refine ⟨fun _ => Uk hR hk h,fun e2 => ?_⟩
    rw [e] at e2; cases want <;> cases e2
   ·rename_i e
    have e : ¬ b = want := by simpa using e
    exact ⟨fun e2 => (e e2).elim,fun _ => hk _ _ h⟩
  ·rename_i hb
   rw [hb]
   exact hk _ _ h
  ·exact h.elim
mutual
theorem Qs {P : Prg} {R : Fns} (hR : R.ok P) {Q : Vp} {keep pk : List Nat} : ∀ (t : Ot) (sl : Xb) (ob : Objs),(X3e R keep pk t sl ob).to (fun sl ob => Q .normal (Xd sl keep) ob) (fun v sl ob => Q (.panic v) (Xd sl pk) ob) → owp P (fun sl ob => Q .normal (Xd sl keep) ob) (fun v sl ob => Q (.panic v) (Xd sl pk) ob) t sl ob
 | .done,sl,ob,h => by simp only [X3e] at h; simp only [owp]; exact h
 | .one _ x r,sl,ob,h => by
  simp only [X3e] at h
  simp only [owp]
  exact Xc1 hR (fun sl ob h => Qs hR r sl ob h) x sl ob h
 | .br l,sl,ob,h => by simp only [X3e] at h; simp only [owp]; exact Xda hR l sl ob h
theorem Xda {P : Prg} {R : Fns} (hR : R.ok P) {Q : Vp} {keep pk : List Nat} : ∀ (l : Ots) (sl : Xb) (ob : Objs),(Xvt R keep pk l sl ob).to (fun sl ob => Q .normal (Xd sl keep) ob) (fun v sl ob => Q (.panic v) (Xd sl pk) ob) → Xhr P (fun sl ob => Q .normal (Xd sl keep) ob) (fun v sl ob => Q (.panic v) (Xd sl pk) ob) l sl ob
 | .nil,sl,ob,h => by simp only [Xhr]
 | .cons _ x r .nil,sl,ob,h => by
  simp only [Xvt] at h
  simp only [Xhr,and_true]
  exact Xc1 hR (fun sl ob h => Qs hR r sl ob h) x sl ob (Xoj h)
 | .cons _ x r (.cons i y s l),sl,ob,h => by
  simp only [Xvt] at h
  rw [Xhr]
  obtain ⟨h1,h2⟩ := Xyh h
  exact ⟨Xc1 hR (fun sl ob h => Qs hR r sl ob h) x sl ob (Xoj h1),Xda hR (.cons i y s l) sl ob h2⟩
end
def S.run (R : Fns) (L : Nat) : S → Xb → Objs → Rs
 | .rg _ l keep pk,sl,ob => match X0v R l sl ob with
  | .ok sl' ob' => some (.normal,Xd sl' keep,ob')
  | .pn v sl' ob' => some (.panic v,Xd sl' pk,ob')
  | .no => none
 | .rgT _ t keep pk,sl,ob => match X3e R keep pk t sl ob with
  | .ok sl' ob' => some (.normal,Xd sl' keep,ob')
  | .pn v sl' ob' => some (.panic v,Xd sl' pk,ob')
  | .no => none
 | .seq a b,sl,ob => match S.run R L a sl ob with
  | some (.normal,sl',ob') => S.run R L b sl' ob'
  | r => r
 | .skip,sl,ob => some (.normal,sl,ob)
 | .cond c a b,sl,ob => match c.ev sl with
  | .d (.bool t) => bif t then S.run R L a sl ob else S.run R L b sl ob
  | _ => none
 | .block n a,sl,ob => match S.run R L a sl ob with
  | some (.exit m,sl',ob') => bif decide (m = n) then some (.normal,sl',ob') else some (.exit m,sl',ob')
  | r => r
 | .loop keep a,sl,ob => X0j keep (S.run R L a) L (Xd sl keep) ob
 | .exit n,sl,ob => some (.exit n,sl,ob)
 | .ret,sl,ob => some (.ret,sl,ob)

theorem S.run_sound {P : Prg} {R : Fns} (hR : R.ok P) {L : Nat} : ∀ (s : S) (Q : Vp) (sl : Xb) (ob : Objs),(s.run R L sl ob).to Q → cwp P s Q sl ob
 | .rg _ l keep pk,Q,sl,ob,h => by
  simp only [S.run] at h
  simp only [cwp]
  refine Z6 hR _ _ _ ?_
  split at h
  ·rename_i e; rw [e]; exact h
  ·rename_i e; rw [e]; exact h
  ·exact h.elim
 | .rgT _ t keep pk,Q,sl,ob,h => by
  simp only [S.run] at h
  simp only [cwp]
  refine Qs hR _ _ _ ?_
  split at h
  ·rename_i e; rw [e]; exact h
  ·rename_i e; rw [e]; exact h
  ·exact h.elim
 | .seq a b,Q,sl,ob,h => by
  simp only [S.run] at h
  simp only [cwp]
  refine S.run_sound (L := L) hR a _ sl ob ?_
  split at h
  ·rename_i e; rw [e]; exact S.run_sound (L := L) hR b Q _ _ h
  ·rename_i hne
   revert h hne
   generalize S.run R L a sl ob = r
   intro hne h
   cases r with
   | none => exact h.elim
   | some x =>
    obtain ⟨e,sl',ob'⟩ := x
    cases e with
    | normal => exact (hne _ _ rfl).elim
    | exit n => exact h
    | ret => exact h
    | panic v => exact h
 | .skip,Q,sl,ob,h => h
 | .cond c a b,Q,sl,ob,h => by
  simp only [S.run] at h
  simp only [cwp]
  split at h
  ·rename_i t ht
   rw [ht]
   cases t
   ·exact ⟨fun e => (by cases e),fun _ => S.run_sound (L := L) hR b Q sl ob h⟩
   ·exact ⟨fun _ => S.run_sound (L := L) hR a Q sl ob h,fun e => (by cases e)⟩
  ·exact h.elim
 | .block n a,Q,sl,ob,h => by
  simp only [S.run] at h
  simp only [cwp]
  refine S.run_sound (L := L) hR a _ sl ob ?_
  split at h
  ·rename_i m sl' ob' e
   rw [e]
   rw [Bool.cond_eq_ite] at h
   simp only [Rs.to,Zs]
   by_cases hm : m = n
   ·simp only [hm,decide_true,if_true] at h ⊢; exact h
   ·simp only [hm,decide_false,Bool.false_eq_true,if_false] at h ⊢; exact h
  ·rename_i hne
   revert h hne
   generalize S.run R L a sl ob = r
   intro hne h
   cases r with
   | none => exact h.elim
   | some x =>
    obtain ⟨e,sl',ob'⟩ := x
    cases e with
    | normal => exact h
    | exit n => exact (hne _ _ _ rfl).elim
    | ret => exact h
    | panic v => exact h
 | .loop keep a,Q,sl,ob,h => by
  simp only [S.run] at h
  simp only [cwp]
  refine ALoop.of (ι := Nat × Xb × Objs) (fun x => x.2.1) (fun x => x.2.2) (fun x => (X0j keep (S.run R L a) x.1 x.2.1 x.2.2).to Q) (fun x => x.1) (L,Xd sl keep,ob) h rfl rfl ?_
  rintro ⟨n,sl1,ob1⟩ h1
  refine S.run_sound (L := L) hR a _ _ _ ?_
  simp only at h1 ⊢
  cases n with
  | zero => exact h1.elim
  | succ n =>
   simp only [X0j] at h1
   split at h1
   ·rename_i sl' ob' e
    rw [e]
    split at h1
    ·rename_i sl2 ob2 e2
     unfold Ym1 at e2
     rw [Bool.cond_eq_ite] at e2
     split at e2
     ·rename_i hc
      simp only [Bool.and_eq_true] at hc
      cases e2
      exact ⟨_,hc.1,hc.2,(n,_,_),h1,Nat.lt_succ_self n,rfl,rfl⟩
     ·cases e2
    ·exact h1.elim
   ·rename_i hne
    revert h1 hne
    generalize S.run R L a sl1 ob1 = r
    intro hne h1
    cases r with
    | none => exact h1.elim
    | some x =>
     obtain ⟨e,sl',ob'⟩ := x
     cases e with
     | normal => exact (hne _ _ rfl).elim
     | exit n => exact h1
     | ret => exact h1
     | panic v => exact h1
 | .exit n,Q,sl,ob,h => h
 | .ret,Q,sl,ob,h => h
end Go.Ab
/- An evaluator of calls, and that what it yields holds. Over any program; no condition. -/
namespace Go.Ab
open Go

inductive FI where
 | pl (s : S) (rs : List RV) (n : Nat)
 | df (s : FSt) (rs : List RV) (n : Nat)
 | rc (its : List It) (keep : List Nat) (k : Nat) (s : S) (n : Nat)
  | kp (s : S) (rs : List RV) (n : Nat)
def FI.ok (p : Program) (f : Nat) : FI → Bool
 | .pl s rs n => Yh p f n s rs
 | .kp s rs n => Yh p f n s rs
 | .df s rs n => Xp4 p f n s rs
 | .rc its _ k s n => Xpu p f n k its s
abbrev FT := List (Nat × FI)
def Xiu : FT → Nat → Option FI
 | [],_ => none
 | (j,x) :: r,k => bif Nat.beq j k then some x else Xiu r k
def FT.ok (p : Program) (F : FT) : Prop := ∀ f x,Xiu F f = some x → FI.ok p f x = true ∧ Xf p f = true
theorem FT.ok_nil {p : Program} : FT.ok p [] := fun f x h => by cases h
theorem FT.ok_cons {p : Program} {f : Nat} {x : FI} {F : FT} (h : FI.ok p f x = true) (hc : Xf p f = true) (hF : FT.ok p F) : FT.ok p ((f,x) :: F) := fun g y hg => by
 simp only [Xiu] at hg
 rw [Bool.cond_eq_ite] at hg
 split at hg
 ·rename_i e
  cases hg
  have e : f = g := Nat.eq_of_beq_eq_true e
  subst e
  exact ⟨h,hc⟩
 ·exact hF g y hg

def RV.run (sl : Xb) (ob : Objs) : RV → Option V
 | .t k => some (look sl k)
 | .c k n ag => ldR ob n ag (look sl k)
def X8l (sl : Xb) (ob : Objs) : List RV → Option (List V)
 | [] => some []
 | x :: r => match x.run sl ob with
  | some v => (X8l sl ob r).map (v :: ·)
  | none => none
def X1m : List V → Objs → List V × Objs
 | [],ob => ([],ob)
 | v :: r,ob => match V.giv ob v with
  | some (d,ob') => let p := X1m r ob'; (.d d :: p.1,p.2)
  | none => let p := X1m r ob; (v :: p.1,p.2)
def Xbi (n : Nat) (vs : List V) (ob : Objs) : Option Objs :=
 let kp := V.idss vs ++ X8h ob
 bif !V.mens (young n kp) vs && noMenO (young n kp) (Xw (young n kp) ob) then some (Xw (young n kp) ob) else none
def Yd4 (n : Nat) (rs : List RV) (sl : Xb) (ob : Objs) : Option (Out × Objs) := match X8l sl ob rs with
 | some vs => (Xbi n (X1m vs ob).1 (X1m vs ob).2).map fun b => (.ret (V3 (X1m vs ob).1),b)
 | none => none
def X5r (n : Nat) (rs : List RV) : Rs → Option (Out × Objs)
 | some (.normal,sl,ob) => Yd4 n rs sl ob
 | some (.ret,sl,ob) => Yd4 n rs sl ob
 | some (.panic v,_,ob) => (Xbi n [v] ob).map fun b => (.panic v,b)
 | _ => none
def X0u (n : Nat) (rs : List RV) (sl : Xb) (ob : Objs) : Option (Out × Objs) := match X8l sl ob rs with
 | some vs => (Xbi n vs ob).map fun b => (.ret (V3 vs),b)
 | none => none
def Xso (n : Nat) (rs : List RV) : Rs → Option (Out × Objs)
 | some (.normal,sl,ob) => X0u n rs sl ob
 | some (.ret,sl,ob) => X0u n rs sl ob
 | some (.panic v,_,ob) => (Xbi n [v] ob).map fun b => (.panic v,b)
 | _ => none
def Xih (rs : List RV) (sl : Xb) (ob : Objs) : Option V := match X8l sl ob rs with
 | some vs => (V.givs ob vs).map fun p => V3 (p.1.map .d)
 | none => none
def Xv1 (rs : List RV) : Rs → Option V
 | some (.normal,sl,ob) => Xih rs sl ob
 | some (.ret,sl,ob) => Xih rs sl ob
 | _ => none

def X9h (R : Fns) (L : Nat) (F : FT) (g : Nat) (vs : List V) (ob : Objs) (rv : Option V) : Option Objs := match Xiu F g with
 | some (.rc its keep k s n) => bif Nat.beq n vs.length then
   (match X0v R its ((k,rv.getD (.d .nili)) :: Jg 0 vs) ob with
    | .ok sl ob' => (match s.run R L (Xd sl keep) ob' with
     | some (.normal,_,ob2) => Xbi (fresh ob) [] ob2
     | some (.ret,_,ob2) => Xbi (fresh ob) [] ob2
     | _ => none)
    | _ => none)
  else none
 | _ => none
def V.isIfc : V → Bool
 | .iface _ _ => true
 | .d (.iface _ _) => true
 | _ => false
def X5z (R : Fns) (L : Nat) (F : FT) (g : Nat) (cl : List V) (rs : List RV) : Rs → Option V
 | some (.normal,sl,ob) => (X9h R L F g cl ob none).bind fun ob' => Xih rs sl ob'
 | some (.ret,sl,ob) => (X9h R L F g cl ob none).bind fun ob' => Xih rs sl ob'
 | some (.panic v,sl,ob) => bif v.isIfc then (X9h R L F g cl ob (some v)).bind fun ob' => Xih rs sl ob' else none
 | _ => none
def X9p (R : Fns) (L : Nat) (F : FT) (rs : List RV) : FSt → Xb → Objs → Option V
 | .pre s r,sl,ob => match s.run R L sl ob with
  | some (.normal,sl',ob') => X9p R L F rs r sl' ob'
  | some (.ret,sl',ob') => Xih rs sl' ob'
  | _ => none
 | .dfr its keep k s,sl,ob => match X0v R its sl ob with
  | .ok sl' ob' => (match look (Xd sl' keep) k with
   | .fn g fi ca => bif R.ca g then X5z R L F g (fi ++ ca) rs (s.run R L (Xd sl' keep) ob') else none
   | _ => none)
  | _ => none

def pcD (R : Fns) (L : Nat) (F : FT) (f : Nat) (ds : List D) : Option V := match Xiu F f with
 | some (.pl s rs n) => bif Nat.beq n ds.length then Xv1 rs (s.run R L (Jg 0 (ds.map .d)) []) else none
 | some (.df s rs n) => bif Nat.beq n ds.length then X9p R L F rs s (Jg 0 (ds.map .d)) [] else none
 | _ => none
def X9q (o : Option V) : Option V := match o with
 | some v => bif v.flatR then some v else none
 | none => none
def pcX (X R : Fns) (L : Nat) (F : FT) (f : Nat) (ds : List D) (ob : Objs) : Option V := match X.pc f (ds.map .d) ob with
 | some v => some v
 | none => pcD R L F f ds
def pcR (X R : Fns) (L : Nat) (F : FT) (f : Nat) (vs : List V) (ob : Objs) : Option V := match V.allD vs with
 | some ds => pcX X R L F f ds ob
 | none => match V.toDs ob 12 vs with
  | some ds => X9q (pcX X R L F f ds [])
  | none => none
def acR (R : Fns) (L : Nat) (F : FT) (f : Nat) (vs : List V) (ob : Objs) : Option (Out × Objs) := match Xiu F f with
 | some (.pl s rs n) => bif Nat.beq n vs.length then X5r (fresh ob) rs (s.run R L (Jg 0 vs) ob) else none
 | some (.kp s rs n) => bif Nat.beq n vs.length then Xso (fresh ob) rs (s.run R L (Jg 0 vs) ob) else none
 | some (.df _ _ _) => match V.allD vs with
  | some ds => (pcD R L F f ds).map fun v => (.ret v,ob)
  | none => none
 | _ => none
def fns (L : Nat) (F : FT) (X : Fns) : Nat → Fns
 | 0 => X
 | n + 1 => ⟨fun f vs ob => match X.call f vs ob with
   | some r => some r
   | none => acR (fns L F X n) L F f vs ob,
  fun f vs ob => pcR X (fns L F X n) L F f vs ob,
  fun f => (Xiu F f).isSome || X.ca f,X.gl⟩

section
variable {P : Prg} {R : Fns} {L : Nat} {F : FT}
theorem Qu {sl : Xb} {ob : Objs} : ∀ (rs : List RV) (K : List V → Prop) (vs : List V),X8l sl ob rs = some vs → K vs → Vn sl ob rs K
 | [],K,vs,h,hK => by cases h; exact hK
 | x :: r,K,vs,h,hK => by
  simp only [X8l] at h
  split at h
  ·rename_i v hv
   rw [Option.map_eq_some_iff] at h
   obtain ⟨l,hl,rfl⟩ := h
   simp only [Vn]
   have hr := Qu r (fun vs => K (v :: vs)) l hl hK
   cases x with
   | t k => simp only [RV.run,Option.some.injEq] at hv; subst hv; exact hr
   | c k n ag =>
    simp only [RV.run] at hv
    simp only [RV.wp]
    have h0 : (C.ld n ag (.t 0)).run [(0,look sl k)] ob = some v := by simpa [C.run,Xtw,Xth,A.ev,look] using hv
    have h1 := C.run_sound (K := fun v => Vn sl ob r fun vs => K (v :: vs)) h0 hr
    simpa [C.wp,A.ev,look] using h1
  ·cases h
theorem Xay : ∀ (vs : List V) (ob : Objs) (K : List V → Objs → Prop),K (X1m vs ob).1 (X1m vs ob).2 → Xft vs ob K
 | [],ob,K,h => h
 | v :: r,ob,K,h => by
  simp only [X1m] at h
  simp only [Xft]
  split at h
  ·rename_i d ob' e
   rw [e]
   exact Xay r ob' _ h
  ·rename_i e
   rw [e]
   exact Xay r ob _ h
theorem Zm {n : Nat} {vs : List V} {ob b : Objs} {K : Objs → Prop} (h : Xbi n vs ob = some b) (hK : K b) : Xv n K vs ob := by
 unfold Xbi at h
 rw [Bool.cond_eq_ite] at h
 split at h
 ·rename_i hc
  simp only [Bool.and_eq_true,Bool.not_eq_true'] at hc
  cases h
  exact ⟨_,hc.1,hc.2,hK⟩
 ·cases h
theorem Xe6 {n : Nat} {rs : List RV} {sl : Xb} {ob b : Objs} {o : Out} {K : Out → Objs → Prop} (h : Yd4 n rs sl ob = some (o,b)) (hK : K o b) : Vn sl ob rs fun vs => Xft vs ob fun vs ob => Xv n (K (.ret (V3 vs))) vs ob := by
 unfold Yd4 at h
 split at h
 ·rename_i vs hv
  rw [Option.map_eq_some_iff] at h
  obtain ⟨b',hb,e⟩ := h
  cases e
  exact Qu rs _ vs hv (Xay vs ob _ (Zm hb hK))
 ·cases h
theorem Xkh {n : Nat} {rs : List RV} {r : Rs} {o : Out} {b : Objs} {K : Out → Objs → Prop} (h : X5r n rs r = some (o,b)) (hK : K o b) : r.to (V6 n rs K) := by
 unfold X5r at h
 split at h
 ·exact Xe6 h hK
 ·exact Xe6 h hK
 ·rw [Option.map_eq_some_iff] at h
  obtain ⟨b',hb,e⟩ := h
  cases e
  exact Zm hb hK
 ·cases h
theorem Xdk {n : Nat} {rs : List RV} {sl : Xb} {ob b : Objs} {o : Out} {K : Out → Objs → Prop} (h : X0u n rs sl ob = some (o,b)) (hK : K o b) : Vn sl ob rs fun vs => Xv n (K (.ret (V3 vs))) vs ob := by
 unfold X0u at h
 split at h
 ·rename_i vs hv
  rw [Option.map_eq_some_iff] at h
  obtain ⟨b',hb,e⟩ := h
  cases e
  exact Qu rs _ vs hv (Zm hb hK)
 ·cases h
theorem Xh2 {n : Nat} {rs : List RV} {r : Rs} {o : Out} {b : Objs} {K : Out → Objs → Prop} (h : Xso n rs r = some (o,b)) (hK : K o b) : r.to (Xh1 n rs K) := by
 unfold Xso at h
 split at h
 ·exact Xdk h hK
 ·exact Xdk h hK
 ·rw [Option.map_eq_some_iff] at h
  obtain ⟨b',hb,e⟩ := h
  cases e
  exact Zm hb hK
 ·cases h
theorem Zz {rs : List RV} {sl : Xb} {ob : Objs} {v : V} {K : V → Prop} (h : Xih rs sl ob = some v) (hK : K v) : Vn sl ob rs fun vs => W9 (fun l _ => K (V3 (l.map .d))) (V.givs ob vs) := by
 unfold Xih at h
 split at h
 ·rename_i vs hv
  rw [Option.map_eq_some_iff] at h
  obtain ⟨p,hp,rfl⟩ := h
  refine Qu rs _ vs hv ?_
  rw [hp]; exact hK
 ·cases h
theorem Xna {rs : List RV} {r : Rs} {v : V} {K : V → Prop} (h : Xv1 rs r = some v) (hK : K v) : r.to (Xa4 rs K) := by
 unfold Xv1 at h
 split at h
 ·exact Zz h hK
 ·exact Zz h hK
 ·cases h
variable (hm : P.p.follows .mixedOrders = true) (hF : FT.ok P.p F) (hR : R.ok P)
include hm hF hR
theorem Xar {g : Nat} {vs : List V} {ob b : Objs} {rv : Option V} {K : Objs → Prop} (h : X9h R L F g vs ob rv = some b) (hK : K b) : DCall P g vs ob rv K := by
 unfold X9h at h
 split at h
 ·rename_i its keep k s n hl
  rw [Bool.cond_eq_ite] at h
  split at h
  ·rename_i e
   have e : n = vs.length := Nat.eq_of_beq_eq_true e
   subst e
   have hok := (hF g _ hl).1
   simp only [FI.ok] at hok
   refine Xeg (keep := keep) hm hok (Z6 hR _ _ _ ?_)
   split at h
   ·rename_i sl ob' e1
    rw [e1]
    refine S.run_sound (L := L) hR s _ _ _ ?_
    split at h
    ·rename_i e2; rw [e2]; exact Zm h hK
    ·rename_i e2; rw [e2]; exact Zm h hK
    ·cases h
   ·cases h
  ·cases h
 ·cases h
theorem Xkk {g : Nat} {cl : List V} {rs : List RV} {r : Rs} {v : V} {K : V → Prop} (h : X5z R L F g cl rs r = some v) (hK : K v) : r.to (Xfn P g cl rs K) := by
 unfold X5z at h
 split at h
 ·rw [Option.bind_eq_some_iff] at h
  obtain ⟨b,h1,h2⟩ := h
  exact Xar hm hF hR h1 (Zz h2 hK)
 ·rw [Option.bind_eq_some_iff] at h
  obtain ⟨b,h1,h2⟩ := h
  exact Xar hm hF hR h1 (Zz h2 hK)
 ·rw [Bool.cond_eq_ite] at h
  split at h
  ·rename_i hi
   rw [Option.bind_eq_some_iff] at h
   obtain ⟨b,h1,h2⟩ := h
   refine ⟨?_,Xar hm hF hR h1 (Zz h2 hK)⟩
   unfold V.isIfc at hi
   split at hi
   ·exact ⟨_,_,.inl rfl⟩
   ·exact ⟨_,.any,.inr ⟨_,rfl⟩⟩
   ·cases hi
  ·cases h
 ·cases h
theorem Xeo {rs : List RV} {K : V → Prop} : ∀ (s : FSt) (sl : Xb) (ob : Objs) (v : V),X9p R L F rs s sl ob = some v → K v → fwp P rs K s sl ob
 | .pre s r,sl,ob,v,h,hK => by
  simp only [X9p] at h
  simp only [fwp]
  refine S.run_sound (L := L) hR s _ _ _ ?_
  split at h
  ·rename_i e; rw [e]; exact Xeo r _ _ v h hK
  ·rename_i e; rw [e]; exact Zz h hK
  ·cases h
 | .dfr its keep k s,sl,ob,v,h,hK => by
  simp only [X9p] at h
  simp only [fwp]
  refine Z6 hR _ _ _ ?_
  split at h
  ·rename_i sl' ob' e
   rw [e]
   simp only [Rq.to]
   split at h
   ·rename_i g fi ca e2
    rw [e2]
    rw [Bool.cond_eq_ite] at h
    split at h
    ·rename_i hc
     exact ⟨hR.ca _ hc,S.run_sound (L := L) hR s _ _ _ (Xkk hm hF hR h hK)⟩
    ·cases h
   ·cases h
  ·cases h
theorem Xja {f : Nat} {ds : List D} {v : V} {ob : Objs} {K : V → Prop} (h : pcD R L F f ds = some v) (hK : K v) : PCall P f (ds.map .d) ob K := by
 unfold pcD at h
 split at h
 ·rename_i s rs n hl
  rw [Bool.cond_eq_ite] at h
  split at h
  ·rename_i e
   have e : n = ds.length := Nat.eq_of_beq_eq_true e
   subst e
   exact Xe1 hm (hF f _ hl).1 (S.run_sound (L := L) hR s _ _ _ (Xna h hK))
  ·cases h
 ·rename_i s rs n hl
  rw [Bool.cond_eq_ite] at h
  split at h
  ·rename_i e
   have e : n = ds.length := Nat.eq_of_beq_eq_true e
   subst e
   exact Xdb hm (hF f _ hl).1 (Xeo hm hF hR s _ _ v h hK)
  ·cases h
 ·cases h
theorem Xjb {X : Fns} (hX : X.ok P) {f : Nat} {ds : List D} {v : V} {ob : Objs} {K : V → Prop} (h : pcX X R L F f ds ob = some v) (hK : K v) : PCall P f (ds.map .d) ob K := by
 unfold pcX at h
 split at h
 ·rename_i r hr; cases h; exact (hX.pc _ _ _ _ hr).mono fun v' e => by subst e; exact hK
 ·exact Xja hm hF hR h hK
theorem Xvv {X : Fns} (hX : X.ok P) {f : Nat} {vs : List V} {v : V} {ob : Objs} (h : pcR X R L F f vs ob = some v) : PCall P f vs ob fun v' => v' = v := by
 unfold pcR at h
 split at h
 ·rename_i ds hd
  rw [V.allD_map hd]
  exact Xjb hm hF hR hX h rfl
 ·split at h
  ·rename_i ds hd
   unfold X9q at h
   split at h
   ·rename_i v' hv
    rw [Bool.cond_eq_ite] at h
    split at h
    ·rename_i hfl
     cases h
     exact PCall.borrow hd (Xjb hm hF hR hX hv ⟨hfl,rfl⟩)
    ·cases h
   ·cases h
  ·cases h
theorem Xr6 {f : Nat} {vs : List V} {o : Out} {ob b : Objs} (h : acR R L F f vs ob = some (o,b)) : ACall P f vs ob fun o' b' => o' = o ∧ b' = b := by
 unfold acR at h
 split at h
 ·rename_i s rs n hl
  rw [Bool.cond_eq_ite] at h
  split at h
  ·rename_i e
   have e : n = vs.length := Nat.eq_of_beq_eq_true e
   subst e
   exact Xed hm (hF f _ hl).1 (S.run_sound (L := L) hR s _ _ _ (Xkh h ⟨rfl,rfl⟩))
  ·cases h
 ·rename_i s rs n hl
  rw [Bool.cond_eq_ite] at h
  split at h
  ·rename_i e
   have e : n = vs.length := Nat.eq_of_beq_eq_true e
   subst e
   exact Xcl hm (hF f _ hl).1 (S.run_sound (L := L) hR s _ _ _ (Xh2 h ⟨rfl,rfl⟩))
  ·cases h
 ·split at h
  ·rename_i ds hd
   rw [Option.map_eq_some_iff] at h
   obtain ⟨v,hv,e⟩ := h
   cases e
   rw [V.allD_map hd]
   exact PCall.acall (Xja hm hF hR hv ⟨rfl,rfl⟩)
  ·cases h
 ·cases h
end
theorem X9t {p : Program} {F : FT} (hF : FT.ok p F) (f : Nat) (h : (Xiu F f).isSome = true) : Xf p f = true := by
 obtain ⟨x,hx⟩ := Option.isSome_iff_exists.1 h
 exact (hF f x hx).2
theorem Xep {P : Prg} {L : Nat} {F : FT} {X : Fns} (hm : P.p.follows .mixedOrders = true) (hF : FT.ok P.p F) (hX : X.ok P) : ∀ n,(fns L F X n).ok P
 | 0 => hX
 | n + 1 => by
  refine ⟨fun f vs ob o b h => ?_,fun f vs ob v h => ?_,fun f h => ?_,fun g x h => hX.gl g x h⟩
  ·simp only [fns] at h
   split at h
   ·rename_i r hr; cases h; exact hX.call _ _ _ _ _ hr
   ·exact Xr6 hm hF (Xep hm hF hX n) h
  ·simp only [fns] at h
   exact Xvv hm hF (Xep hm hF hX n) hX h
  ·simp only [fns,Bool.or_eq_true] at h
   rcases h with h | h
   ·exact X9t hF f h
   ·exact hX.ca f h
end Go.Ab
/- The table of the functions' texts for the evaluator, written by a program; that it is right is checked by the kernel. No condition. -/
namespace Go.Proofs.YtmapdjjigmkbfaaGreatDoor
open Go Go.Ab
set_option maxRecDepth 100000
def Xre : FT := [(39,.pl Yfj [.t 2] 1),
 (43,.rc Xtr X1o 6 Yfn 3),
 (44,.pl Yfo [.c 0 256 true] 0),
 (45,.pl Yfp [] 1),
 (46,.pl Yfq [] 1),
 (47,.pl Yfr [] 1),
 (48,.pl Yfs [] 1),
 (49,.pl Yft [] 1),
 (50,.pl Yfu [.t 2] 1),
 (51,.pl Yfv [.t 4] 2),
 (52,.pl Yfw [.t 4,.t 5] 2),
 (54,.pl Yfx [.t 2] 1),
 (96,.pl Ygi [.t 4] 2),
 (97,.pl Ygj [.t 3] 2),
 (98,.pl Ygk [] 3),
 (99,.pl Ygl [.t 3] 2),
 (100,.pl X6e [.t 4] 2),
 (101,.pl X6f [.t 2] 1),
 (129,.pl X6v [.t 4] 2),
 (10,.df Yfc [.c 4 17 true,.c 5 1 false,.c 6 1 false] 2),
 (14,.pl Yi0 [.t 4,.t 5] 2),
 (23,.pl Yi6 [.c 0 7 true] 0),
 (25,.rc Xtq X1n 7 Yff 3),
 (26,.pl Yfg [.t 2] 1),
 (27,.kp Yfh [.c 2 18 true] 1),
 (28,.pl Yfi [.c 4 17 true] 2),
 (38,.pl Yi8 [] 2),
 (59,.pl Yf0 [.c 1 14 true] 1),
 (60,.pl Yf1 [.t 2] 1),
 (61,.pl Yf2 [.c 1 14 true] 1),
 (62,.pl Yf3 [.c 1 14 true] 1),
 (63,.pl Yf4 [.c 6 4 true] 3),
 (64,.pl Yf5 [.c 1 14 true] 1),
 (65,.pl Yf6 [.t 2] 1),
 (66,.pl Yf7 [.t 8] 4),
 (67,.pl Yf8 [.t 6] 3),
 (68,.pl Yf9 [.c 2 14 true] 1),
 (69,.pl Yga [] 1),
 (70,.pl Ygb [.t 4] 2),
 (72,.pl Ygd [] 2),
 (91,.pl Yjb [] 2),
 (111,.pl X6l [.c 2 5 true] 1),
 (112,.pl X6m [.t 2] 1),
 (115,.pl X6p [.t 4] 2),
 (116,.pl X6q [] 2),
 (8,.pl ir8 [.t 0] 0),
 (21,.pl Yi4 [.c 4 32 true,.t 5] 2),
 (22,.pl Yi5 [.c 4 32 true] 2),
 (58,.pl Yja [.c 2 32 true] 1),
 (109,.pl X9z [] 2),
 (110,.pl X90 [] 2),
 (134,.pl X91 [.t 4] 2),
 (20,.pl Yfe [.t 6] 3),
 (40,.pl Yfk [.t 4,.t 5] 2),
 (56,.pl Yfy [.c 4 6 true,.t 5] 2),
 (57,.pl Yfz [.t 6] 3),
 (71,.pl Ygc [.t 4,.t 5] 2),
 (92,.pl Yge [.t 6,.t 7] 3),
 (94,.pl Ygg [.t 4] 2),
 (105,.pl X6g [.c 6 6 true,.t 7] 3),
 (106,.pl X6h [.t 4] 2),
 (107,.pl X6i [.t 4] 2),
 (108,.pl X6j [.t 4] 2),
 (113,.pl X6n [.t 6,.t 7] 3),
 (125,.pl X6r [.t 4] 2),
 (126,.pl X6s [.t 4] 3),
 (127,.pl X6t [.c 4 4 true,.t 5] 2),
 (128,.pl X6u [.t 2] 1),
 (135,.pl X6x [.t 4] 2),
 (136,.pl X6y [.t 4] 3),
 (137,.pl X6z [.t 6,.t 7] 3),
 (147,.pl X60 [.t 4] 2),
 (148,.pl X61 [.t 4] 2),
 (149,.pl X62 [.t 4] 2),
 (150,.pl X63 [.t 4] 2),
 (151,.pl X64 [.t 2] 1),
 (152,.pl X65 [.t 6,.t 7] 3),
 (166,.pl X67 [.t 4] 2),
 (167,.pl X68 [.t 4] 3),
 (93,.pl Ygf [.t 2] 1),
 (114,.pl X6o [.t 2] 1),
 (153,.pl X66 [.t 2] 1),
 (133,.pl X6w [.c 0 5 true] 0),
 (15,.pl Yfd [.t 4] 2),
 (41,.pl Yfl [.t 2] 1),
 (42,.pl Yfm [.t 6] 3),
 (95,.pl Ygh [.t 4] 2),
 (18,.pl Yi3 [.c 2 1 false] 1),
 (55,.pl Yi9 [] 3)]
theorem Xhf : FT.ok Tryz.prog Xre :=
 FT.ok_cons Ylm (by kernel_rfl)
 (FT.ok_cons Yh1 (by kernel_rfl)
 (FT.ok_cons Ylq (by kernel_rfl)
 (FT.ok_cons Ylr (by kernel_rfl)
 (FT.ok_cons Yls (by kernel_rfl)
 (FT.ok_cons Ylt (by kernel_rfl)
 (FT.ok_cons Ylu (by kernel_rfl)
 (FT.ok_cons Ylv (by kernel_rfl)
 (FT.ok_cons ok50 (by kernel_rfl)
 (FT.ok_cons ok51 (by kernel_rfl)
 (FT.ok_cons ok52 (by kernel_rfl)
 (FT.ok_cons ok54 (by kernel_rfl)
 (FT.ok_cons Ymf (by kernel_rfl)
 (FT.ok_cons Ymg (by kernel_rfl)
 (FT.ok_cons Ymh (by kernel_rfl)
 (FT.ok_cons Ymi (by kernel_rfl)
 (FT.ok_cons Yby (by kernel_rfl)
 (FT.ok_cons Ybz (by kernel_rfl)
 (FT.ok_cons Yce (by kernel_rfl)
 (FT.ok_cons Ylg (by kernel_rfl)
 (FT.ok_cons Ypl (by kernel_rfl)
 (FT.ok_cons Ypr (by kernel_rfl)
 (FT.ok_cons Yd3 (by kernel_rfl)
 (FT.ok_cons Ylj (by kernel_rfl)
 (FT.ok_cons Ylk (by kernel_rfl)
 (FT.ok_cons Yll (by kernel_rfl)
 (FT.ok_cons Ypt (by kernel_rfl)
 (FT.ok_cons Yly (by kernel_rfl)
 (FT.ok_cons Ylz (by kernel_rfl)
 (FT.ok_cons Yl0 (by kernel_rfl)
 (FT.ok_cons Yl1 (by kernel_rfl)
 (FT.ok_cons Yl2 (by kernel_rfl)
 (FT.ok_cons Yl3 (by kernel_rfl)
 (FT.ok_cons Yl4 (by kernel_rfl)
 (FT.ok_cons Yh2 (by kernel_rfl)
 (FT.ok_cons Yl5 (by kernel_rfl)
 (FT.ok_cons Yl6 (by kernel_rfl)
 (FT.ok_cons Yl7 (by kernel_rfl)
 (FT.ok_cons Yl8 (by kernel_rfl)
 (FT.ok_cons Yma (by kernel_rfl)
 (FT.ok_cons Ypw (by kernel_rfl)
 (FT.ok_cons Yb4 (by kernel_rfl)
 (FT.ok_cons Yb5 (by kernel_rfl)
 (FT.ok_cons Yb8 (by kernel_rfl)
 (FT.ok_cons Yb9 (by kernel_rfl)
 (FT.ok_cons ok8 (by kernel_rfl)
 (FT.ok_cons Ypp (by kernel_rfl)
 (FT.ok_cons Ypq (by kernel_rfl)
 (FT.ok_cons Ypv (by kernel_rfl)
 (FT.ok_cons Yhy (by kernel_rfl)
 (FT.ok_cons Yhz (by kernel_rfl)
 (FT.ok_cons Yh0 (by kernel_rfl)
 (FT.ok_cons Yli (by kernel_rfl)
 (FT.ok_cons Yln (by kernel_rfl)
 (FT.ok_cons Ylw (by kernel_rfl)
 (FT.ok_cons Ylx (by kernel_rfl)
 (FT.ok_cons Yl9 (by kernel_rfl)
 (FT.ok_cons Ymb (by kernel_rfl)
 (FT.ok_cons Ymd (by kernel_rfl)
 (FT.ok_cons Yb0 (by kernel_rfl)
 (FT.ok_cons Yb1 (by kernel_rfl)
 (FT.ok_cons Yb2 (by kernel_rfl)
 (FT.ok_cons Yb3 (by kernel_rfl)
 (FT.ok_cons Yb6 (by kernel_rfl)
 (FT.ok_cons Yca (by kernel_rfl)
 (FT.ok_cons Ycb (by kernel_rfl)
 (FT.ok_cons Ycc (by kernel_rfl)
 (FT.ok_cons Ycd (by kernel_rfl)
 (FT.ok_cons Ycg (by kernel_rfl)
 (FT.ok_cons Ych (by kernel_rfl)
 (FT.ok_cons Yci (by kernel_rfl)
 (FT.ok_cons Ycj (by kernel_rfl)
 (FT.ok_cons Yck (by kernel_rfl)
 (FT.ok_cons Ycl (by kernel_rfl)
 (FT.ok_cons Ycm (by kernel_rfl)
 (FT.ok_cons Ycn (by kernel_rfl)
 (FT.ok_cons Yco (by kernel_rfl)
 (FT.ok_cons Ycq (by kernel_rfl)
 (FT.ok_cons Ycr (by kernel_rfl)
 (FT.ok_cons Ymc (by kernel_rfl)
 (FT.ok_cons Yb7 (by kernel_rfl)
 (FT.ok_cons Ycp (by kernel_rfl)
 (FT.ok_cons Ycf (by kernel_rfl)
 (FT.ok_cons Ylh (by kernel_rfl)
 (FT.ok_cons Ylo (by kernel_rfl)
 (FT.ok_cons Ylp (by kernel_rfl)
 (FT.ok_cons Yme (by kernel_rfl)
 (FT.ok_cons Ypo (by kernel_rfl)
 (FT.ok_cons Ypu (by kernel_rfl)
 (FT.ok_nil)))))))))))))))))))))))))))))))))))))))))))))))))))))))))))))))))))))))))))))))))))))))))
end Go.Proofs.YtmapdjjigmkbfaaGreatDoor
/- The lexer by fuel, to be computed. No program. -/
namespace Go.Lx
open Go Go.Ab
def X7e : Nat → List UInt8 → Nat → Res
 | 0,_,_ => .ok []
 | _,[],_ => .ok []
 | f + 1,c :: r,off => match stp c r with
  | .skip n => X7e f (r.drop n) (off + n + 1)
  | .tok k t m n => Xr7 ⟨k,t,m,off⟩ (X7e f (r.drop n) (off + n + 1))
  | .err => .err off
theorem Xk0 : ∀ (f : Nat) (s : List UInt8) (off : Nat),s.length ≤ f → X7e f s off = Zo s off
 | 0,s,off,h => by
  have : s = [] := List.length_eq_zero_iff.1 (by omega)
  subst this; simp [X7e,Zo]
 | f + 1,[],off,h => by simp [X7e,Zo]
 | f + 1,c :: r,off,h => by
  rw [X7e,Zo]
  have hl : ∀ n,(r.drop n).length ≤ f := fun n => by simp at h ⊢; omega
  split
  ·rw [Xk0 f _ _ (hl _)]; try simp_all
  ·rw [Xk0 f _ _ (hl _)]; try simp_all
  ·simp_all
end Go.Lx
/- What the evaluator of the questions' examples knows beside its table. No condition. -/
namespace Go.Lx
open Go Go.Ab
def X94 : D := .agg [.int .u32 1116352408,.int .u32 1899447441,.int .u32 3049323471,.int .u32 3921009573,.int .u32 961987163,.int .u32 1508970993,.int .u32 2453635748,.int .u32 2870763221,.int .u32 3624381080,.int .u32 310598401,.int .u32 607225278,.int .u32 1426881987,.int .u32 1925078388,.int .u32 2162078206,.int .u32 2614888103,.int .u32 3248222580,.int .u32 3835390401,.int .u32 4022224774,.int .u32 264347078,.int .u32 604807628,.int .u32 770255983,.int .u32 1249150122,.int .u32 1555081692,.int .u32 1996064986,.int .u32 2554220882,.int .u32 2821834349,.int .u32 2952996808,.int .u32 3210313671,.int .u32 3336571891,.int .u32 3584528711,.int .u32 113926993,.int .u32 338241895,.int .u32 666307205,.int .u32 773529912,.int .u32 1294757372,.int .u32 1396182291,.int .u32 1695183700,.int .u32 1986661051,.int .u32 2177026350,.int .u32 2456956037,.int .u32 2730485921,.int .u32 2820302411,.int .u32 3259730800,.int .u32 3345764771,.int .u32 3516065817,.int .u32 3600352804,.int .u32 4094571909,.int .u32 275423344,.int .u32 430227734,.int .u32 506948616,.int .u32 659060556,.int .u32 883997877,.int .u32 958139571,.int .u32 1322822218,.int .u32 1537002063,.int .u32 1747873779,.int .u32 1955562222,.int .u32 2024104815,.int .u32 2227730452,.int .u32 2361852424,.int .u32 2428436474,.int .u32 2756734187,.int .u32 3204031479,.int .u32 3329325298]
def Ym2 : D := .agg [.int .u8 31,.int .u8 80,.int .u8 135,.int .u8 219,.int .u8 145,.int .u8 156,.int .u8 237,.int .u8 92,.int .u8 18,.int .u8 60,.int .u8 127,.int .u8 80,.int .u8 125,.int .u8 63,.int .u8 204,.int .u8 232,.int .u8 24,.int .u8 203,.int .u8 12,.int .u8 246,.int .u8 231,.int .u8 124,.int .u8 47,.int .u8 149,.int .u8 168,.int .u8 163,.int .u8 94,.int .u8 149,.int .u8 30,.int .u8 3,.int .u8 253,.int .u8 185]
def Ym3 : D := .list 1 [.int .u8 31,.int .u8 80,.int .u8 135,.int .u8 219,.int .u8 145,.int .u8 156,.int .u8 237,.int .u8 92,.int .u8 18,.int .u8 60,.int .u8 127,.int .u8 80,.int .u8 125,.int .u8 63,.int .u8 204,.int .u8 232,.int .u8 24,.int .u8 203,.int .u8 12,.int .u8 246,.int .u8 231,.int .u8 124,.int .u8 47,.int .u8 149,.int .u8 168,.int .u8 163,.int .u8 94,.int .u8 149,.int .u8 30,.int .u8 3,.int .u8 253,.int .u8 185]
def Yiq : D := .agg [.int .u8 245,.int .u8 130,.int .u8 95,.int .u8 56,.int .u8 178,.int .u8 131,.int .u8 52,.int .u8 248,.int .u8 69,.int .u8 175,.int .u8 109,.int .u8 205,.int .u8 19,.int .u8 159,.int .u8 111,.int .u8 163,.int .u8 102,.int .u8 117,.int .u8 229,.int .u8 99,.int .u8 147,.int .u8 61,.int .u8 67,.int .u8 81,.int .u8 101,.int .u8 242,.int .u8 184,.int .u8 139,.int .u8 157,.int .u8 241,.int .u8 225,.int .u8 45]
def Ymv : List UInt8 := [97,115,107,32,111,108,100,32,102,111,114,32,99,108,117,98,32,123,32,102,114,111,109,32,112,32,98,105,114,116,104,32,59,32,102,114,111,109,32,99,32,115,105,122,101,32,111,116,104,101,114,32,59,32,97,110,121,32,123,32,112,32,46,32,100,97,121,32,60,32,52,48,48,32,59,32,108,101,97,115,116,32,49,32,123,32,104,97,115,32,99,32,59,32,53,32,60,32,61,32,99,32,46,32,104,105,103,104,32,59,32,125,32,59,32,125,32,59,32,125]
def Ym4 : List UInt8 := [113,117,101,115,116,105,111,110]
def bo1 : Objs := [(2,.box 235 (.d (.agg [.int .u8 31,.int .u8 80,.int .u8 135,.int .u8 219,.int .u8 145,.int .u8 156,.int .u8 237,.int .u8 92,.int .u8 18,.int .u8 60,.int .u8 127,.int .u8 80,.int .u8 125,.int .u8 63,.int .u8 204,.int .u8 232,.int .u8 24,.int .u8 203,.int .u8 12,.int .u8 246,.int .u8 231,.int .u8 124,.int .u8 47,.int .u8 149,.int .u8 168,.int .u8 163,.int .u8 94,.int .u8 149,.int .u8 30,.int .u8 3,.int .u8 253,.int .u8 185,.int .u8 97,.int .u8 115,.int .u8 107,.int .u8 32,.int .u8 111,.int .u8 108,.int .u8 100,.int .u8 32,.int .u8 102,.int .u8 111,.int .u8 114,.int .u8 32,.int .u8 99,.int .u8 108,.int .u8 117,.int .u8 98,.int .u8 32,.int .u8 123,.int .u8 32,.int .u8 102,.int .u8 114,.int .u8 111,.int .u8 109,.int .u8 32,.int .u8 112,.int .u8 32,.int .u8 98,.int .u8 105,.int .u8 114,.int .u8 116,.int .u8 104,.int .u8 32]))),(1,.box 202 (.d (.agg [.int .u32 1779033703,.int .u32 3144134277,.int .u32 1013904242,.int .u32 2773480762,.int .u32 1359893119,.int .u32 2600822924,.int .u32 528734635,.int .u32 1541459225]))),(0,.box 76 (.d (.agg [.int .u8 0,.int .u8 0,.int .u8 0,.int .u8 0,.int .u8 0,.int .u8 0,.int .u8 0,.int .u8 0,.int .u8 0,.int .u8 0,.int .u8 0,.int .u8 0,.int .u8 0,.int .u8 0,.int .u8 0,.int .u8 0,.int .u8 0,.int .u8 0,.int .u8 0,.int .u8 0,.int .u8 0,.int .u8 0,.int .u8 0,.int .u8 0,.int .u8 0,.int .u8 0,.int .u8 0,.int .u8 0,.int .u8 0,.int .u8 0,.int .u8 0,.int .u8 0])))]
def bp1 : Objs := [(2,.box 235 (.d (.agg [.int .u8 31,.int .u8 80,.int .u8 135,.int .u8 219,.int .u8 145,.int .u8 156,.int .u8 237,.int .u8 92,.int .u8 18,.int .u8 60,.int .u8 127,.int .u8 80,.int .u8 125,.int .u8 63,.int .u8 204,.int .u8 232,.int .u8 24,.int .u8 203,.int .u8 12,.int .u8 246,.int .u8 231,.int .u8 124,.int .u8 47,.int .u8 149,.int .u8 168,.int .u8 163,.int .u8 94,.int .u8 149,.int .u8 30,.int .u8 3,.int .u8 253,.int .u8 185,.int .u8 97,.int .u8 115,.int .u8 107,.int .u8 32,.int .u8 111,.int .u8 108,.int .u8 100,.int .u8 32,.int .u8 102,.int .u8 111,.int .u8 114,.int .u8 32,.int .u8 99,.int .u8 108,.int .u8 117,.int .u8 98,.int .u8 32,.int .u8 123,.int .u8 32,.int .u8 102,.int .u8 114,.int .u8 111,.int .u8 109,.int .u8 32,.int .u8 112,.int .u8 32,.int .u8 98,.int .u8 105,.int .u8 114,.int .u8 116,.int .u8 104,.int .u8 32]))),(1,.box 202 (.d (.agg [.int .u32 3353024799,.int .u32 3401748870,.int .u32 3158369745,.int .u32 740706947,.int .u32 2987156969,.int .u32 2150010247,.int .u32 291726018,.int .u32 4028775330]))),(0,.box 76 (.d (.agg [.int .u8 0,.int .u8 0,.int .u8 0,.int .u8 0,.int .u8 0,.int .u8 0,.int .u8 0,.int .u8 0,.int .u8 0,.int .u8 0,.int .u8 0,.int .u8 0,.int .u8 0,.int .u8 0,.int .u8 0,.int .u8 0,.int .u8 0,.int .u8 0,.int .u8 0,.int .u8 0,.int .u8 0,.int .u8 0,.int .u8 0,.int .u8 0,.int .u8 0,.int .u8 0,.int .u8 0,.int .u8 0,.int .u8 0,.int .u8 0,.int .u8 0,.int .u8 0])))]
def bo2 : Objs := [(2,.box 235 (.d (.agg [.int .u8 59,.int .u8 32,.int .u8 102,.int .u8 114,.int .u8 111,.int .u8 109,.int .u8 32,.int .u8 99,.int .u8 32,.int .u8 115,.int .u8 105,.int .u8 122,.int .u8 101,.int .u8 32,.int .u8 111,.int .u8 116,.int .u8 104,.int .u8 101,.int .u8 114,.int .u8 32,.int .u8 59,.int .u8 32,.int .u8 97,.int .u8 110,.int .u8 121,.int .u8 32,.int .u8 123,.int .u8 32,.int .u8 112,.int .u8 32,.int .u8 46,.int .u8 32,.int .u8 100,.int .u8 97,.int .u8 121,.int .u8 32,.int .u8 60,.int .u8 32,.int .u8 52,.int .u8 48,.int .u8 48,.int .u8 32,.int .u8 59,.int .u8 32,.int .u8 108,.int .u8 101,.int .u8 97,.int .u8 115,.int .u8 116,.int .u8 32,.int .u8 49,.int .u8 32,.int .u8 123,.int .u8 32,.int .u8 104,.int .u8 97,.int .u8 115,.int .u8 32,.int .u8 99,.int .u8 32,.int .u8 59,.int .u8 32,.int .u8 53,.int .u8 32]))),(1,.box 202 (.d (.agg [.int .u32 3353024799,.int .u32 3401748870,.int .u32 3158369745,.int .u32 740706947,.int .u32 2987156969,.int .u32 2150010247,.int .u32 291726018,.int .u32 4028775330]))),(0,.box 76 (.d (.agg [.int .u8 0,.int .u8 0,.int .u8 0,.int .u8 0,.int .u8 0,.int .u8 0,.int .u8 0,.int .u8 0,.int .u8 0,.int .u8 0,.int .u8 0,.int .u8 0,.int .u8 0,.int .u8 0,.int .u8 0,.int .u8 0,.int .u8 0,.int .u8 0,.int .u8 0,.int .u8 0,.int .u8 0,.int .u8 0,.int .u8 0,.int .u8 0,.int .u8 0,.int .u8 0,.int .u8 0,.int .u8 0,.int .u8 0,.int .u8 0,.int .u8 0,.int .u8 0])))]
def bp2 : Objs := [(2,.box 235 (.d (.agg [.int .u8 59,.int .u8 32,.int .u8 102,.int .u8 114,.int .u8 111,.int .u8 109,.int .u8 32,.int .u8 99,.int .u8 32,.int .u8 115,.int .u8 105,.int .u8 122,.int .u8 101,.int .u8 32,.int .u8 111,.int .u8 116,.int .u8 104,.int .u8 101,.int .u8 114,.int .u8 32,.int .u8 59,.int .u8 32,.int .u8 97,.int .u8 110,.int .u8 121,.int .u8 32,.int .u8 123,.int .u8 32,.int .u8 112,.int .u8 32,.int .u8 46,.int .u8 32,.int .u8 100,.int .u8 97,.int .u8 121,.int .u8 32,.int .u8 60,.int .u8 32,.int .u8 52,.int .u8 48,.int .u8 48,.int .u8 32,.int .u8 59,.int .u8 32,.int .u8 108,.int .u8 101,.int .u8 97,.int .u8 115,.int .u8 116,.int .u8 32,.int .u8 49,.int .u8 32,.int .u8 123,.int .u8 32,.int .u8 104,.int .u8 97,.int .u8 115,.int .u8 32,.int .u8 99,.int .u8 32,.int .u8 59,.int .u8 32,.int .u8 53,.int .u8 32]))),(1,.box 202 (.d (.agg [.int .u32 1133438781,.int .u32 3720667108,.int .u32 2822332097,.int .u32 2789580547,.int .u32 2280602201,.int .u32 3609626632,.int .u32 2609829547,.int .u32 413238801]))),(0,.box 76 (.d (.agg [.int .u8 0,.int .u8 0,.int .u8 0,.int .u8 0,.int .u8 0,.int .u8 0,.int .u8 0,.int .u8 0,.int .u8 0,.int .u8 0,.int .u8 0,.int .u8 0,.int .u8 0,.int .u8 0,.int .u8 0,.int .u8 0,.int .u8 0,.int .u8 0,.int .u8 0,.int .u8 0,.int .u8 0,.int .u8 0,.int .u8 0,.int .u8 0,.int .u8 0,.int .u8 0,.int .u8 0,.int .u8 0,.int .u8 0,.int .u8 0,.int .u8 0,.int .u8 0])))]
def bo3 : Objs := [(2,.box 235 (.d (.agg [.int .u8 60,.int .u8 32,.int .u8 61,.int .u8 32,.int .u8 99,.int .u8 32,.int .u8 46,.int .u8 32,.int .u8 104,.int .u8 105,.int .u8 103,.int .u8 104,.int .u8 32,.int .u8 59,.int .u8 32,.int .u8 125,.int .u8 32,.int .u8 59,.int .u8 32,.int .u8 125,.int .u8 32,.int .u8 59,.int .u8 32,.int .u8 125,.int .u8 128,.int .u8 0,.int .u8 0,.int .u8 0,.int .u8 0,.int .u8 0,.int .u8 0,.int .u8 0,.int .u8 0,.int .u8 0,.int .u8 0,.int .u8 0,.int .u8 0,.int .u8 0,.int .u8 0,.int .u8 0,.int .u8 0,.int .u8 0,.int .u8 0,.int .u8 0,.int .u8 0,.int .u8 0,.int .u8 0,.int .u8 0,.int .u8 0,.int .u8 0,.int .u8 0,.int .u8 0,.int .u8 0,.int .u8 0,.int .u8 0,.int .u8 0,.int .u8 0,.int .u8 0,.int .u8 0,.int .u8 0,.int .u8 0,.int .u8 0,.int .u8 4,.int .u8 192]))),(1,.box 202 (.d (.agg [.int .u32 1133438781,.int .u32 3720667108,.int .u32 2822332097,.int .u32 2789580547,.int .u32 2280602201,.int .u32 3609626632,.int .u32 2609829547,.int .u32 413238801]))),(0,.box 76 (.d (.agg [.int .u8 0,.int .u8 0,.int .u8 0,.int .u8 0,.int .u8 0,.int .u8 0,.int .u8 0,.int .u8 0,.int .u8 0,.int .u8 0,.int .u8 0,.int .u8 0,.int .u8 0,.int .u8 0,.int .u8 0,.int .u8 0,.int .u8 0,.int .u8 0,.int .u8 0,.int .u8 0,.int .u8 0,.int .u8 0,.int .u8 0,.int .u8 0,.int .u8 0,.int .u8 0,.int .u8 0,.int .u8 0,.int .u8 0,.int .u8 0,.int .u8 0,.int .u8 0])))]
def bp3 : Objs := [(2,.box 235 (.d (.agg [.int .u8 60,.int .u8 32,.int .u8 61,.int .u8 32,.int .u8 99,.int .u8 32,.int .u8 46,.int .u8 32,.int .u8 104,.int .u8 105,.int .u8 103,.int .u8 104,.int .u8 32,.int .u8 59,.int .u8 32,.int .u8 125,.int .u8 32,.int .u8 59,.int .u8 32,.int .u8 125,.int .u8 32,.int .u8 59,.int .u8 32,.int .u8 125,.int .u8 128,.int .u8 0,.int .u8 0,.int .u8 0,.int .u8 0,.int .u8 0,.int .u8 0,.int .u8 0,.int .u8 0,.int .u8 0,.int .u8 0,.int .u8 0,.int .u8 0,.int .u8 0,.int .u8 0,.int .u8 0,.int .u8 0,.int .u8 0,.int .u8 0,.int .u8 0,.int .u8 0,.int .u8 0,.int .u8 0,.int .u8 0,.int .u8 0,.int .u8 0,.int .u8 0,.int .u8 0,.int .u8 0,.int .u8 0,.int .u8 0,.int .u8 0,.int .u8 0,.int .u8 0,.int .u8 0,.int .u8 0,.int .u8 0,.int .u8 0,.int .u8 4,.int .u8 192]))),(1,.box 202 (.d (.agg [.int .u32 4118961976,.int .u32 2994943224,.int .u32 1169124813,.int .u32 329215907,.int .u32 1719002467,.int .u32 2470265681,.int .u32 1710405771,.int .u32 2649874733]))),(0,.box 76 (.d (.agg [.int .u8 0,.int .u8 0,.int .u8 0,.int .u8 0,.int .u8 0,.int .u8 0,.int .u8 0,.int .u8 0,.int .u8 0,.int .u8 0,.int .u8 0,.int .u8 0,.int .u8 0,.int .u8 0,.int .u8 0,.int .u8 0,.int .u8 0,.int .u8 0,.int .u8 0,.int .u8 0,.int .u8 0,.int .u8 0,.int .u8 0,.int .u8 0,.int .u8 0,.int .u8 0,.int .u8 0,.int .u8 0,.int .u8 0,.int .u8 0,.int .u8 0,.int .u8 0])))]
def kgl (g : Nat) : Option D := bif Nat.beq g 0 then some X94 else none
def xh : Fns := ⟨fun _ _ _ => none,fun _ _ _ => none,fun _ => false,kgl⟩
end Go.Lx
