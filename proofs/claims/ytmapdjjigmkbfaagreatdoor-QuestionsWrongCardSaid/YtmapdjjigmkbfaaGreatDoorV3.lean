/- Texts of this claim joined by a program, part 3 of 15; the last is: Statements X3f abstract states, and that what is shown of them holds of the program's code. Over any program; no condition. -/
import Derived.Test.YtmapdjjigmkbfaaGreatDoorV2
import Derived.OrdersHeld
import Derived.Tactics
set_option linter.unusedSimpArgs false
set_option linter.unusedVariables false
set_option linter.unusedSectionVars false
set_option linter.defProp false
/- That append does what Ab9 says of it. Over any program; no condition. -/
namespace Go.Ab
open Go
section
variable {P : Program} {a : Act} {w : World} {ρ : Env} {sl : Xb} {ob : Objs} {K Pn : V → Objs → Prop}

theorem Yy {id : Nat} {o : RO} : (ρ.ins id o).m id = some o := by simp [Env.ins]

theorem Xij (n : Nat) : ∀ (r c : Nat),c ≤ 2 * n + 192 → Builtin.growBy n r c ≤ 2 * n + 192
 | 0,c,h => by simpa [Builtin.growBy] using h
 | r + 1,c,h => by
  simp only [Builtin.growBy]
  split
  ·exact h
  ·exact Xij n r _ (by omega)

theorem Xqh {need cap : Nat} (h : cap < need) : Builtin.nextslicecap need cap ≤ 2 * need + 192 := by
 unfold Builtin.nextslicecap
 split
 ·omega
 ·split
  ·omega
  ·exact Xij need 4 cap (by omega)

theorem Xw0 {sz : Nat} {v : V} {x : Value} {K : List D → Prop} (hv : v.rep w ρ x) (h : Xwz sz K v) :
  ∃ ys vs,K ys ∧ D.repL w (own ρ) ys vs ∧ (∀ y ∈ ys,y.sz = sz) ∧ (∀ w',(Builtin.lenOf x).run P w' = .ok ys.length w') ∧ ∀ w',w'.heap = w.heap → (Builtin.firstCells sz ys.length x).run P w' = .ok vs.toArray w' := by
 unfold Xwz at h
 split at h
 ·rename_i z ys
  obtain ⟨rfl,h⟩ := h
  rw [Yw] at hv
  rcases hv with ⟨rfl,rfl⟩ | ⟨ad,cap,vs,rfl,hcap,hce,hre,hu⟩
  ·exact ⟨[],[],h,by simp [D.repL],by simp,fun w' => by simp [Builtin.lenOf],fun w' _ => by simp [Builtin.firstCells]⟩
  ·refine ⟨ys,vs,h,hre,hu,fun w' => by simp [Builtin.lenOf],fun w' hw => ?_⟩
   have hl : vs.length = ys.length * z := by rw [D.repL_len _ _ hre,D.szs_uniform _ hu]
   simp only [Builtin.firstCells,← hl]
   exact run_loadCells_list w' ad vs (fun j u hj => by
    obtain ⟨hj',e⟩ := List.getElem?_eq_some_iff.1 hj
    have hne : vs ≠ [] := by intro h; simp [h] at hj'
    rw [Addr.add_eq (hce.1 hne).1,cell?_congr (w := w) (w' := w') (by rw [hw]),← e]
    exact hce.2 j hj')
 ·rw [Wu] at hv
  subst hv
  exact ⟨[],[],h,by simp [D.repL],by simp,fun w' => by simp [Builtin.lenOf],fun w' _ => by simp [Builtin.firstCells]⟩
 ·exact h.elim

structure AppT (P : Program) (t t2 E sz B : Nat) : Prop where
 u1 : P.underlying t = some (.slice E)
 u2 : (∃ e,P.underlying t2 = some (.slice e)) ∨ P.underlying t2 = some .string
 info : ∃ i z,P.info? E = some i ∧ i.size = sz ∧ i.bytes = B ∧ i.zero = some z ∧ z.cells.size = sz
 b0 : B ≠ 0
 s0 : sz ≠ 0

theorem Xn4 {t t2 ty E sz B : Nat} (T : AppT P t t2 E sz B) {base : Option Addr} {sLen sCap n : Nat} {x : Value} {cs vs : List Value}
  (hx : ∀ w',(Builtin.lenOf x).run P w' = .ok n w') (hf : ∀ w',w'.heap = w.heap → (Builtin.firstCells sz n x).run P w' = .ok vs.toArray w')
  (ho : ∀ w',w'.heap = w.heap → (Builtin.firstCells sz sLen (.slice base sLen sCap)).run P w' = .ok cs.toArray w') (hneed : sCap < sLen + n) (hB : (2 * (sLen + n) + 192) * B ≤ 281474976710656) :
  ∃ newCap rest,sLen + n ≤ newCap ∧ rest.length = (newCap - (sLen + n)) * sz ∧
   (Builtin.append_ #[t,t2] ty #[.slice base sLen sCap,x]).run P w = .ok (.slice (some ⟨w.heap.size,0,none⟩) (sLen + n) newCap) (Xhu { w with drawn := w.drawn + 1 } (.cells ((cs ++ vs) ++ rest).toArray E)) := by
 obtain ⟨i,z,hi,h1,h2,h3,h4⟩ := T.info
 have hsz : X9 P E = some sz := by simp [X9,hi,h1]
 have hti : ∀ w',(typeInfo E).run P w' = .ok i w' := fun w' => by simp [typeInfo,hi]
 have hzv : ∀ w',(zeroValue E).run P w' = .ok z w' := fun w' => by simp [zeroValue,typeInfo,hi,h3]
 have hcap := Xqh hneed
 have hle : Builtin.nextslicecap (sLen + n) sCap * B ≤ 281474976710656 := Nat.le_trans (Nat.mul_le_mul_right B hcap) hB
 have hq : (Question.appendCap (sLen + n) sCap E).forced = false := rfl
 refine ⟨(Question.appendCap (sLen + n) sCap E).cut (w.tape w.drawn (.appendCap (sLen + n) sCap E)),(Builtin.zeroCells z.cells ((Question.appendCap (sLen + n) sCap E).cut (w.tape w.drawn (.appendCap (sLen + n) sCap E)) - (sLen + n))).toList,?_,?_,?_⟩
 ·simp [Question.cut]
 ·simp [Builtin.zeroCells,h4]
 ·generalize hc : (Question.appendCap (sLen + n) sCap E).cut (w.tape w.drawn (.appendCap (sLen + n) sCap E)) = newCap
  unfold Builtin.append_
  have e0 : (#[t,t2] : Array TypeId)[0]? = some t := rfl
  have e1 : (#[t,t2] : Array TypeId)[1]? = some t2 := rfl
  rcases T.u2 with ⟨e2,u2⟩ | u2
  all_goals
   simp only [e0,e1,List.getElem?_toArray,List.getElem?_cons_zero,List.getElem?_cons_succ,Sem.run_bind,Xa T.u1,Xa u2,Result.andThen_ok,Xm hsz,Sem.run_pure,hx,Bool.false_eq_true,if_false,Bool.not_false,if_true]
   rw [if_neg (by omega)]
   have hb : ¬ (Builtin.nextslicecap (sLen + n) sCap * B > 2 ^ 48) := by omega
   simp only [hb,T.b0,or_self,and_false,if_false,Sem.run_bind,run_choose,hq,Bool.false_eq_true,hc,Result.andThen_ok,run_askRoom,hti,h2,ho { w with drawn := w.drawn + 1 } rfl,hf { w with drawn := w.drawn + 1 } rfl,hzv,newRow,run_newObj,Sem.run_pure]
   have e3 : (cs.toArray ++ vs.toArray) ++ Builtin.zeroCells z.cells (newCap - (sLen + n)) = ((cs ++ vs) ++ (Builtin.zeroCells z.cells (newCap - (sLen + n))).toList).toArray := by apply Array.ext'; simp
   rw [e3]
   rfl

theorem Xn6 {t t2 ty E sz B : Nat} (T : AppT P t t2 E sz B) {b sLen sCap n : Nat} {x : Value} {cs sp vs : List Value}
  (hx : ∀ w',(Builtin.lenOf x).run P w' = .ok n w') (hf : ∀ w',w'.heap = w.heap → (Builtin.firstCells sz n x).run P w' = .ok vs.toArray w')
  (hb : w.heap[b]? = some (.cells (List.toArray (cs ++ sp)) E (0,0))) (hcs : cs.length = sLen * sz) (hvs : vs.length = n * sz) (hlen : (cs ++ sp).length = sCap * sz) (hone : ∀ v ∈ vs,v.oneCell' = true) (hneed : sLen + n ≤ sCap) :
  (Builtin.append_ #[t,t2] ty #[.slice (some ⟨b,0,none⟩) sLen sCap,x]).run P w = .ok (.slice (some ⟨b,0,none⟩) (sLen + n) sCap) (w.setRow b ((cs ++ vs) ++ sp.drop vs.length).toArray) := by
 obtain ⟨i,z,hi,h1,h2,h3,h4⟩ := T.info
 have hsz : X9 P E = some sz := by simp [X9,hi,h1]
 unfold Builtin.append_
 have e0 : (#[t,t2] : Array TypeId)[0]? = some t := rfl
 have e1 : (#[t,t2] : Array TypeId)[1]? = some t2 := rfl
 have hsum : sLen * sz + n * sz ≤ sCap * sz := by rw [← Nat.add_mul]; exact Nat.mul_le_mul_right sz hneed
 have hrun := run_storeCells_at (P := P) b (sLen * sz) E vs 0 (cs ++ sp).toArray w hb (by rw [hvs,List.size_toArray,hlen]; omega) hone
 have hadd : (⟨b,0,none⟩ : Addr).add (sLen * sz) = ⟨b,sLen * sz,none⟩ := by rw [Addr.add_eq rfl]; simp
 rcases T.u2 with ⟨e2,u2⟩ | u2
 all_goals
  simp only [e0,e1,List.getElem?_toArray,List.getElem?_cons_zero,List.getElem?_cons_succ,Sem.run_bind,Xa T.u1,Xa u2,Result.andThen_ok,Xm hsz,Sem.run_pure,hx,Bool.false_eq_true,if_false,Bool.not_false,if_true]
  rw [if_pos hneed]
  simp only [Sem.run_bind,hf w rfl,Result.andThen_ok,hadd,hrun,Sem.run_pure]
  congr 3
  rw [Nat.add_zero,← hcs]
  simp [List.drop_append]

theorem Xn5 {t t2 ty E sz B : Nat} (T : AppT P t t2 E sz B) {x : Value}
  (hx : ∀ w',(Builtin.lenOf x).run P w' = .ok 0 w') (hf : ∀ w',w'.heap = w.heap → (Builtin.firstCells sz 0 x).run P w' = .ok #[] w') :
  (Builtin.append_ #[t,t2] ty #[.slice none 0 0,x]).run P w = .ok (.slice none 0 0) w := by
 obtain ⟨i,z,hi,h1,h2,h3,h4⟩ := T.info
 have hsz : X9 P E = some sz := by simp [X9,hi,h1]
 unfold Builtin.append_
 rcases T.u2 with ⟨e2,u2⟩ | u2 <;> simp [Xa T.u1,Xa u2,Xm hsz,hx,hf w rfl]

theorem Xn3 {t t2 ty E sz B : Nat} (T : AppT P t t2 E sz B) (hO : OM w ρ ob) {id : Nat} {xs ys : List D} {s x : Value} {vs : List Value} (hl : lookO ob id = some (.arr E sz xs))
  (hs : (V.sl id xs.length).rep w ρ s) (hre : D.repL w (own ρ) ys vs) (hu : ∀ y ∈ ys,y.sz = sz)
  (hx : ∀ w',(Builtin.lenOf x).run P w' = .ok ys.length w') (hf : ∀ w',w'.heap = w.heap → (Builtin.firstCells sz ys.length x).run P w' = .ok vs.toArray w')
  (hB : (2 * (xs.length + ys.length) + 192) * B ≤ 281474976710656) :
  ∃ v w' ρ',(Builtin.append_ #[t,t2] ty #[s,x]).run P w = .ok v w' ∧ Tr w ρ w' ρ' ∧ OM w' ρ' (setO ob id (.arr E sz (xs ++ ys))) ∧ (V.sl id (xs.length + ys.length)).rep w' ρ' v := by
 rw [Y2] at hs
 obtain ⟨o,hρ,hs⟩ := hs
 have h1 := hO.one id _ hl
 have hvl : vs.length = ys.length * sz := by rw [D.repL_len _ _ hre,D.szs_uniform _ hu]
 -- a new row,from whatever was there
 have grow : ∀ (base : Option Addr) (sCap : Nat) (cs : List Value),s = .slice base xs.length sCap → D.repL w (own ρ) xs cs → (∀ y ∈ xs,y.sz = sz) →
   (∀ w',w'.heap = w.heap → (Builtin.firstCells sz xs.length (.slice base xs.length sCap)).run P w' = .ok cs.toArray w') → sCap < xs.length + ys.length →
   (o = .virt ∧ xs.length = 0 ∨ ∃ b c,o = .arr b xs.length c) → xs.length ≤ sCap →
   ∃ v w' ρ',(Builtin.append_ #[t,t2] ty #[s,x]).run P w = .ok v w' ∧ Tr w ρ w' ρ' ∧ OM w' ρ' (setO ob id (.arr E sz (xs ++ ys))) ∧ (V.sl id (xs.length + ys.length)).rep w' ρ' v := by
  intro base sCap cs es hxs hux hold hneed ho hlc
  subst es
  obtain ⟨newCap,rest,g1,g2,g3⟩ := Xn4 (ty := ty) T hx hf hold hneed hB
  have he : Ext w (Xhu { w with drawn := w.drawn + 1 } (.cells ((cs ++ vs) ++ rest).toArray E)) := (Ext.drew w _).trans (Vk _ _)
  have t1 : Tr w ρ (Xhu { w with drawn := w.drawn + 1 } (.cells ((cs ++ vs) ++ rest).toArray E)) (ρ.ins id (.arr w.heap.size (xs.length + ys.length) newCap)) := by
   refine ⟨he.size,fun b _ h => he.keep b h,fun b h => ?_,rfl,rfl,fun j p hp => ?_,he.tape,he.os,he.out⟩
   ·obtain ⟨j,p,q1,q2⟩ := h
    simp only [Env.ins] at q1
    split at q1
    ·simp at q1; subst q1; simp [RO.blk?] at q2; exact .inr (by omega)
    ·exact .inl ⟨j,p,q1,q2⟩
   ·by_cases ej : j = id
    ·subst ej
     refine ⟨_,Yy,.grow (n := xs.length) (by omega) ?_⟩
     rw [hρ] at hp; simp at hp; subst hp
     exact ho
    ·exact ⟨p,by simp [Env.ins,ej,hp],.refl p⟩
  refine ⟨_,_,_,g3,t1,Xb7 hO hl t1 (.inr ⟨w.heap.size,newCap,cs ++ vs,rest,by simp [Env.ins],V5 _ _,D.repL_append (D.repL_mono t1.mono _ _ hxs) (D.repL_mono t1.mono _ _ hre),?_,?_⟩) (fun b hb => ?_) (fun j p b hj h2 h3 => he.keep b (Qf hO h2 h3)),?_⟩
  ·intro y hy
   rcases List.mem_append.1 hy with hy | hy
   ·exact hux y hy
   ·exact hu y hy
  ·have hcl : cs.length = xs.length * sz := by rw [D.repL_len _ _ hxs,D.szs_uniform _ hux]
   rw [List.length_append,List.length_append,g2,hcl,hvl,← Nat.add_mul,← Nat.add_mul]
   congr 1; omega
  ·simp [RO.blk?] at hb; exact .inl (by omega)
  ·rw [Y2]
   refine ⟨_,Yy,?_⟩
   exact ⟨Nat.le_refl _,⟨_,_,_,rfl⟩,fun _ => rfl⟩
 rcases h1 with ⟨h1,rfl⟩ | ⟨b,cap,cs,sp,h1,h2,h3,h4,h5⟩
 ·-- nothing yet
  rw [hρ] at h1; simp at h1; subst h1
  simp only [RO.slice] at hs
  obtain ⟨_,rfl⟩ := hs
  by_cases hy : ys = []
  ·subst hy
   have hv0 : vs = [] := by simpa using hvl
   subst hv0
   refine ⟨_,w,ρ,Xn5 T hx (fun w' hw => hf w' hw),Tr.refl _ _,?_,?_⟩
   ·refine ⟨fun j y hy => ?_,fun j p hp => ?_,hO.inj,hO.xlt,hO.glb,hO.xdis,hO.once.set⟩
    ·rw [Xh ob id j ⟨_,hl⟩] at hy
     split at hy
     ·rename_i e; subst e; simp at hy; subst hy; exact .inl ⟨hρ,rfl⟩
     ·exact hO.one j y hy
    ·rw [Xh ob id j ⟨_,hl⟩]
     split
     ·exact ⟨_,rfl⟩
     ·exact hO.dom j p hp
   ·rw [Y2]; exact ⟨_,hρ,rfl,rfl⟩
  ·refine grow none 0 [] rfl (by simp [D.repL]) (by simp) (fun w' _ => by simp [Builtin.firstCells]) ?_ (.inl ⟨rfl,rfl⟩) (Nat.le_refl _)
   cases ys with
   | nil => exact absurd rfl hy
   | cons y r => simp
 ·rw [hρ] at h1; simp at h1; subst h1
  obtain ⟨_,_,hs⟩ := hs
  have hs := hs rfl
  have hcl : cs.length = xs.length * sz := by rw [D.repL_len _ _ h3,D.szs_uniform _ h4]
  have hlc : xs.length ≤ cap := by
   have : xs.length * sz ≤ cap * sz := by rw [← h5,← hcl]; simp
   exact Nat.le_of_mul_le_mul_right this (Nat.pos_of_ne_zero T.s0)
  by_cases hroom : xs.length + ys.length ≤ cap
  ·subst hs
   have hrun := Xn6 (ty := ty) T hx hf h2 hcl hvl h5 (D.ones ys vs hre) hroom
   have t1 : Tr w ρ (w.setRow b ((cs ++ vs) ++ sp.drop vs.length).toArray) (ρ.ins id (.arr b (xs.length + ys.length) cap)) := by
    refine ⟨by simp,fun j hj _ => setRow_other w b j _ (fun e => hj ?_),fun j h => ?_,rfl,rfl,fun j p hp => ?_,rfl,rfl,rfl⟩
    ·subst e; exact ⟨id,_,hρ,rfl⟩
    ·obtain ⟨k,p,q1,q2⟩ := h
     simp only [Env.ins] at q1
     split at q1
     ·simp at q1; subst q1; simp [RO.blk?] at q2; subst q2; exact .inl ⟨id,_,hρ,rfl⟩
     ·exact .inl ⟨k,p,q1,q2⟩
    ·by_cases ej : j = id
     ·subst ej
      rw [hρ] at hp; simp at hp; subst hp
      refine ⟨_,Yy,?_⟩
      cases ys with
      | nil => exact .refl _
      | cons y r => exact .grow (n := xs.length) (by simp) (.inr ⟨_,_,rfl⟩)
     ·exact ⟨p,by simp [Env.ins,ej,hp],.refl p⟩
   refine ⟨_,_,_,hrun,t1,Xb7 hO hl t1 (.inr ⟨b,cap,cs ++ vs,sp.drop vs.length,by simp [Env.ins],setRow_heap w b _ _ E _ h2,D.repL_append (D.repL_mono t1.mono _ _ h3) (D.repL_mono t1.mono _ _ hre),?_,?_⟩) (fun b' hb => ?_) (fun j p b' hj q1 q2 => setRow_other w b b' _ (fun e => hj ?_)),?_⟩
   ·intro y hy
    rcases List.mem_append.1 hy with hy | hy
    ·exact h4 y hy
    ·exact hu y hy
   ·have hsum : xs.length * sz + ys.length * sz ≤ cap * sz := by rw [← Nat.add_mul]; exact Nat.mul_le_mul_right sz hroom
    simp only [List.length_append,List.length_drop] at h5 ⊢
    omega
   ·simp [RO.blk?] at hb; subst hb; exact .inr ⟨_,hρ,rfl⟩
   ·subst e; exact hO.inj j id _ _ _ q1 hρ q2 rfl
   ·rw [Y2]
    refine ⟨_,Yy,?_⟩
    exact ⟨Nat.le_refl _,⟨_,_,_,rfl⟩,fun _ => rfl⟩
  ·refine grow (some ⟨b,0,none⟩) cap cs hs h3 h4 (fun w' hw => ?_) (by omega) (.inr ⟨_,_,rfl⟩) hlc
   simp only [Builtin.firstCells,← hcl]
   exact run_loadCells_list w' _ cs (fun j u hj => by
    obtain ⟨hj',e⟩ := List.getElem?_eq_some_iff.1 hj
    rw [Addr.add_eq rfl,cell?_congr (w := w) (w' := w') (by rw [hw])]
    simp [World.cell?,h2,List.getElem?_append,hj',e])

theorem Xcn {t t2 ty E sz B : Nat} (T : AppT P t t2 E sz B) (hO : OM w ρ ob) {id : Nat} {xs ys : List V} {s x : Value} {vs : List Value} (hl : lookO ob id = some (.vec E sz xs))
  (hs : (V.sl id xs.length).rep w ρ s) (hst : V.stos ys = true) (hre : V.repCs w ρ ys vs) (hu : ∀ y ∈ ys,y.size = sz)
  (hx : ∀ w',(Builtin.lenOf x).run P w' = .ok ys.length w') (hf : ∀ w',w'.heap = w.heap → (Builtin.firstCells sz ys.length x).run P w' = .ok vs.toArray w')
  (hB : (2 * (xs.length + ys.length) + 192) * B ≤ 281474976710656) :
  ∃ v w' ρ',(Builtin.append_ #[t,t2] ty #[s,x]).run P w = .ok v w' ∧ Tr w ρ w' ρ' ∧ OM w' ρ' (setO ob id (.vec E sz (xs ++ ys))) ∧ (V.sl id (xs.length + ys.length)).rep w' ρ' v := by
 rw [Y2] at hs
 obtain ⟨o,hρ,hs⟩ := hs
 have h1 := hO.one id _ hl
 have hvl : vs.length = ys.length * sz := by rw [V.repCs_len _ _ hre,V.shapes_eq,X0 _ hu]
 -- a new row,from whatever was there
 have grow : ∀ (base : Option Addr) (sCap : Nat) (cs : List Value),s = .slice base xs.length sCap → V.repCs w ρ xs cs → (∀ y ∈ xs,y.size = sz) →
   (∀ w',w'.heap = w.heap → (Builtin.firstCells sz xs.length (.slice base xs.length sCap)).run P w' = .ok cs.toArray w') → sCap < xs.length + ys.length →
   (o = .virt ∧ xs.length = 0 ∨ ∃ b c,o = .arr b xs.length c) → xs.length ≤ sCap →
   ∃ v w' ρ',(Builtin.append_ #[t,t2] ty #[s,x]).run P w = .ok v w' ∧ Tr w ρ w' ρ' ∧ OM w' ρ' (setO ob id (.vec E sz (xs ++ ys))) ∧ (V.sl id (xs.length + ys.length)).rep w' ρ' v := by
  intro base sCap cs es hxs hux hold hneed ho hlc
  subst es
  obtain ⟨newCap,rest,g1,g2,g3⟩ := Xn4 (ty := ty) T hx hf hold hneed hB
  have he : Ext w (Xhu { w with drawn := w.drawn + 1 } (.cells ((cs ++ vs) ++ rest).toArray E)) := (Ext.drew w _).trans (Vk _ _)
  have t1 : Tr w ρ (Xhu { w with drawn := w.drawn + 1 } (.cells ((cs ++ vs) ++ rest).toArray E)) (ρ.ins id (.arr w.heap.size (xs.length + ys.length) newCap)) := by
   refine ⟨he.size,fun b _ h => he.keep b h,fun b h => ?_,rfl,rfl,fun j p hp => ?_,he.tape,he.os,he.out⟩
   ·obtain ⟨j,p,q1,q2⟩ := h
    simp only [Env.ins] at q1
    split at q1
    ·simp at q1; subst q1; simp [RO.blk?] at q2; exact .inr (by omega)
    ·exact .inl ⟨j,p,q1,q2⟩
   ·by_cases ej : j = id
    ·subst ej
     refine ⟨_,Yy,.grow (n := xs.length) (by omega) ?_⟩
     rw [hρ] at hp; simp at hp; subst hp
     exact ho
    ·exact ⟨p,by simp [Env.ins,ej,hp],.refl p⟩
  refine ⟨_,_,_,g3,t1,Xb7 hO hl t1 (.inr ⟨w.heap.size,newCap,cs ++ vs,rest,by simp [Env.ins],V5 _ _,V.repCs_append (V.repCs_tr t1 _ _ hxs) (V.repCs_tr t1 _ _ hre),?_,?_⟩) (fun b hb => ?_) (fun j p b hj h2 h3 => he.keep b (Qf hO h2 h3)),?_⟩
  ·intro y hy
   rcases List.mem_append.1 hy with hy | hy
   ·exact hux y hy
   ·exact hu y hy
  ·have hcl : cs.length = xs.length * sz := by rw [V.repCs_len _ _ hxs,V.shapes_eq,X0 _ hux]
   rw [List.length_append,List.length_append,g2,hcl,hvl,← Nat.add_mul,← Nat.add_mul]
   congr 1; omega
  ·simp [RO.blk?] at hb; exact .inl (by omega)
  ·rw [Y2]
   refine ⟨_,Yy,?_⟩
   exact ⟨Nat.le_refl _,⟨_,_,_,rfl⟩,fun _ => rfl⟩
 rcases h1 with ⟨h1,rfl⟩ | ⟨b,cap,cs,sp,h1,h2,h3,h4,h5⟩
 ·-- nothing yet
  rw [hρ] at h1; simp at h1; subst h1
  simp only [RO.slice] at hs
  obtain ⟨_,rfl⟩ := hs
  by_cases hy : ys = []
  ·subst hy
   have hv0 : vs = [] := by simpa using hvl
   subst hv0
   refine ⟨_,w,ρ,Xn5 T hx (fun w' hw => hf w' hw),Tr.refl _ _,?_,?_⟩
   ·refine ⟨fun j y hy => ?_,fun j p hp => ?_,hO.inj,hO.xlt,hO.glb,hO.xdis,hO.once.set⟩
    ·rw [Xh ob id j ⟨_,hl⟩] at hy
     split at hy
     ·rename_i e; subst e; simp at hy; subst hy; exact .inl ⟨hρ,rfl⟩
     ·exact hO.one j y hy
    ·rw [Xh ob id j ⟨_,hl⟩]
     split
     ·exact ⟨_,rfl⟩
     ·exact hO.dom j p hp
   ·rw [Y2]; exact ⟨_,hρ,rfl,rfl⟩
  ·refine grow none 0 [] rfl (by simp [V.repCs]) (by simp) (fun w' _ => by simp [Builtin.firstCells]) ?_ (.inl ⟨rfl,rfl⟩) (Nat.le_refl _)
   cases ys with
   | nil => exact absurd rfl hy
   | cons y r => simp
 ·rw [hρ] at h1; simp at h1; subst h1
  obtain ⟨_,_,hs⟩ := hs
  have hs := hs rfl
  have hcl : cs.length = xs.length * sz := by rw [V.repCs_len _ _ h3,V.shapes_eq,X0 _ h4]
  have hlc : xs.length ≤ cap := by
   have : xs.length * sz ≤ cap * sz := by rw [← h5,← hcl]; simp
   exact Nat.le_of_mul_le_mul_right this (Nat.pos_of_ne_zero T.s0)
  by_cases hroom : xs.length + ys.length ≤ cap
  ·subst hs
   have hrun := Xn6 (ty := ty) T hx hf h2 hcl hvl h5 (V.onesV ys vs hst hre) hroom
   have t1 : Tr w ρ (w.setRow b ((cs ++ vs) ++ sp.drop vs.length).toArray) (ρ.ins id (.arr b (xs.length + ys.length) cap)) := by
    refine ⟨by simp,fun j hj _ => setRow_other w b j _ (fun e => hj ?_),fun j h => ?_,rfl,rfl,fun j p hp => ?_,rfl,rfl,rfl⟩
    ·subst e; exact ⟨id,_,hρ,rfl⟩
    ·obtain ⟨k,p,q1,q2⟩ := h
     simp only [Env.ins] at q1
     split at q1
     ·simp at q1; subst q1; simp [RO.blk?] at q2; subst q2; exact .inl ⟨id,_,hρ,rfl⟩
     ·exact .inl ⟨k,p,q1,q2⟩
    ·by_cases ej : j = id
     ·subst ej
      rw [hρ] at hp; simp at hp; subst hp
      refine ⟨_,Yy,?_⟩
      cases ys with
      | nil => exact .refl _
      | cons y r => exact .grow (n := xs.length) (by simp) (.inr ⟨_,_,rfl⟩)
     ·exact ⟨p,by simp [Env.ins,ej,hp],.refl p⟩
   refine ⟨_,_,_,hrun,t1,Xb7 hO hl t1 (.inr ⟨b,cap,cs ++ vs,sp.drop vs.length,by simp [Env.ins],setRow_heap w b _ _ E _ h2,V.repCs_append (V.repCs_tr t1 _ _ h3) (V.repCs_tr t1 _ _ hre),?_,?_⟩) (fun b' hb => ?_) (fun j p b' hj q1 q2 => setRow_other w b b' _ (fun e => hj ?_)),?_⟩
   ·intro y hy
    rcases List.mem_append.1 hy with hy | hy
    ·exact h4 y hy
    ·exact hu y hy
   ·have hsum : xs.length * sz + ys.length * sz ≤ cap * sz := by rw [← Nat.add_mul]; exact Nat.mul_le_mul_right sz hroom
    simp only [List.length_append,List.length_drop] at h5 ⊢
    omega
   ·simp [RO.blk?] at hb; subst hb; exact .inr ⟨_,hρ,rfl⟩
   ·subst e; exact hO.inj j id _ _ _ q1 hρ q2 rfl
   ·rw [Y2]
    refine ⟨_,Yy,?_⟩
    exact ⟨Nat.le_refl _,⟨_,_,_,rfl⟩,fun _ => rfl⟩
  ·refine grow (some ⟨b,0,none⟩) cap cs hs h3 h4 (fun w' hw => ?_) (by omega) (.inr ⟨_,_,rfl⟩) hlc
   simp only [Builtin.firstCells,← hcl]
   exact run_loadCells_list w' _ cs (fun j u hj => by
    obtain ⟨hj',e⟩ := List.getElem?_eq_some_iff.1 hj
    rw [Addr.add_eq rfl,cell?_congr (w := w) (w' := w') (by rw [hw])]
    simp [World.cell?,h2,List.getElem?_append,hj',e])

theorem Xsb {u v : Operand} {t t2 E sz B : Nat} {vx : V} {ys : List D} {vs : List Value} (T : AppT P t t2 E sz B) (r1 : vx.rep w ρ (a.eval u)) (hO : OM w ρ ob) (hK : Xdv E sz B ob ys K vx)
  (hre : D.repL w (own ρ) ys vs) (hu : ∀ y ∈ ys,y.sz = sz) (hx : ∀ w',(Builtin.lenOf (a.eval v)).run P w' = .ok ys.length w')
  (hf : ∀ w',w'.heap = w.heap → (Builtin.firstCells sz ys.length (a.eval v)).run P w' = .ok vs.toArray w') : U2 P a w ρ (.call { callee := .builtin .append,args := #[u,v],argTypes := #[t,t2] }) K Pn := by
 have hrun : ∀ (w' : World) (val : Value) (o : Oper),o.op = .call { callee := .builtin .append,args := #[u,v],argTypes := #[t,t2] } → (Builtin.append_ #[t,t2] o.type #[a.eval u,a.eval v]).run P w = .ok val w' → (execOp a.eval o).run P w = .ok (.value val) w' := by
  intro w' val o ho hr
  simp only [execOp,ho,resolve,invoke,builtin,Sem.run_bind,Sem.run_pure,Result.andThen_ok,List.map_toArray,List.map_cons,List.map_nil,hr]
 unfold Xdv at hK
 split at hK
 ·rename_i id n
  unfold Xdx at hK
  split at hK
  ·rename_i E' sz' xs hl
   obtain ⟨rfl,rfl,rfl,hB,hK⟩ := hK
   intro o ho next Q hn _
   obtain ⟨val,w',ρ',g1,g2,g3,g4⟩ := Xn3 (ty := o.type) T hO hl r1 hre hu hx hf hB
   unfold Oper.wp
   rw [hrun w' val o ho g1]
   exact hn val _ _ w' ρ' hK g4 g3 g2
  ·exact hK.elim
 ·obtain ⟨hB,hK⟩ := hK
  have hl := Yp ob
  rw [Wu] at r1
  have hbl : ∀ b,RO.virt.blk? = some b → w.heap.size ≤ b := fun b hb => by simp [RO.blk?] at hb
  have t1 := Jz w (Ext.refl w) (o := .virt) (hO.free hl) hbl
  have o1 : OM w (ρ.ins (fresh ob) .virt) ((fresh ob,.arr E sz []) :: ob) := hO.ins (Ext.refl w) hl hbl (.inl ⟨Yy,rfl⟩)
  have q1 : (V.sl (fresh ob) ([] : List D).length).rep w (ρ.ins (fresh ob) .virt) (a.eval u) := by
   rw [Y2]; exact ⟨_,Yy,rfl,r1⟩
  intro o ho next Q hn _
  obtain ⟨val,w',ρ',g1,g2,g3,g4⟩ := Xn3 (ty := o.type) (ys := ys) T o1 (by simp [lookO]) q1 (D.repL_mono t1.mono _ _ hre) hu hx hf (by simpa using hB)
  unfold Oper.wp
  rw [hrun w' val o ho g1]
  simp only [setO,if_true,List.nil_append,List.length_nil,Nat.zero_add] at g3 g4
  exact hn val _ _ w' ρ' hK g4 g3 (t1.trans g2)
 ·exact hK.elim

theorem Xyv (hs : SM w ρ sl a) (hO : OM w ρ ob) {op : Op} {E sz B : Nat} {x y : A} (hc : I.chk P op (.app E sz B x y) = true)
  (h : Xwz sz (fun ys => Xdv E sz B ob ys K (x.ev sl)) (y.ev sl)) : U2 P a w ρ op K Pn := by
 cases op <;> simp only [I.chk,Bool.false_eq_true] at hc
 rename_i c
 obtain ⟨ca,args,ts⟩ := c
 cases ca <;> (try simp only [Bool.false_eq_true] at hc)
 rename_i b
 cases b <;> (try simp only [Bool.false_eq_true] at hc)
 split at hc
 ·rename_i u v t t2 e1 e2
  simp only [Bool.and_eq_true] at hc
  obtain ⟨⟨⟨⟨h0,h1⟩,h2⟩,h3⟩,h4⟩ := hc
  have ea : args = #[u,v] := by simpa using congrArg List.toArray e1
  have et : ts = #[t,t2] := by simpa using congrArg List.toArray e2
  subst ea et
  have T : AppT P t t2 E sz B := by
   cases hi : P.info? E with
   | none => simp [hi] at h1
   | some i =>
    simp only [hi,Bool.and_eq_true,beq_iff_eq,bne_iff_ne,ne_eq] at h1
    obtain ⟨⟨⟨⟨⟨g1,g2⟩,g3⟩,g4⟩,g5⟩,g6⟩ := h1
    obtain ⟨z,hz⟩ := Option.isSome_iff_exists.1 g5
    rw [hz] at g6
    simp at g6
    refine ⟨?_,?_,⟨i,z,hi,g1,g2,hz,g6⟩,by rw [← g2]; exact g3,by rw [← g1]; exact g4⟩
    ·revert h0; split <;> simp_all
    ·left; revert h2; split <;> simp_all
  have r1 := A.sound hs h3
  have r2 := A.sound hs h4
  obtain ⟨ys,vs,hK,hre,hu,hx,hf⟩ := Xw0 (P := P) r2 h
  exact Xsb T r1 hO hK hre hu hx hf
 ·simp at hc

theorem Xse {id E sz : Nat} {xs : List D} (h : Xch w ρ id (.arr E sz xs)) : Xch w ρ id (.vec E sz (xs.map .d)) := by
 rcases h with ⟨h1,rfl⟩ | ⟨b,cap,cs,sp,h1,h2,h3,h4,h5⟩
 ·exact .inl ⟨h1,rfl⟩
 ·refine .inr ⟨b,cap,cs,sp,by simpa using h1,h2,(V.repCs_d _ _).2 h3,fun x hx => ?_,h5⟩
  obtain ⟨y,hy,rfl⟩ := List.mem_map.1 hx
  simp [V.size,V.shape,D.size_shape,h4 y hy]
theorem X00 {sz : Nat} {v : V} {x : Value} {K : List V → Prop} (hO : OM w ρ ob) (hv : v.rep w ρ x) (h : X8o sz K ob v) :
  ∃ ys vs,K ys ∧ V.repCs w ρ ys vs ∧ V.stos ys = true ∧ (∀ y ∈ ys,y.size = sz) ∧ (∀ w',(Builtin.lenOf x).run P w' = .ok ys.length w') ∧ ∀ w',w'.heap = w.heap → (Builtin.firstCells sz ys.length x).run P w' = .ok vs.toArray w' := by
 have dat : ∀ {ys : List D} {vs : List Value},D.repL w (own ρ) ys vs → (∀ y ∈ ys,y.sz = sz) → V.repCs w ρ (ys.map .d) vs ∧ V.stos (ys.map .d) = true ∧ ∀ y ∈ ys.map V.d,y.size = sz := by
  intro ys vs h1 h2
  refine ⟨(V.repCs_d _ _).2 h1,?_,fun y hy => ?_⟩
  ·clear h1 h2; induction ys with
   | nil => rfl
   | cons y r ih => simp [V.stos,V.sto,ih]
  ·obtain ⟨z,hz,rfl⟩ := List.mem_map.1 hy
   simp [V.size,V.shape,D.size_shape,h2 z hz]
 have own : ∀ {id : Nat} {E : Nat} {ys : List V},Xch w ρ id (.vec E sz ys) → (V.sl id ys.length).rep w ρ x → V.stos ys = true → K ys →
   ∃ ys vs,K ys ∧ V.repCs w ρ ys vs ∧ V.stos ys = true ∧ (∀ y ∈ ys,y.size = sz) ∧ (∀ w',(Builtin.lenOf x).run P w' = .ok ys.length w') ∧ ∀ w',w'.heap = w.heap → (Builtin.firstCells sz ys.length x).run P w' = .ok vs.toArray w' := by
  intro id E ys hm hv hst hK
  rw [Y2] at hv
  obtain ⟨o,hρ,hv⟩ := hv
  rcases hm with ⟨h1,rfl⟩ | ⟨b,cap,cs,sp,h1,h2,h3,h4,h5⟩
  ·rw [hρ] at h1; simp at h1; subst h1
   obtain ⟨_,rfl⟩ := hv
   exact ⟨[],[],hK,by simp [V.repCs],rfl,by simp,fun w' => by simp [Builtin.lenOf],fun w' _ => by simp [Builtin.firstCells]⟩
  ·rw [hρ] at h1; simp at h1; subst h1
   have hx := hv.2.2 rfl
   subst hx
   refine ⟨ys,cs,hK,h3,hst,h4,fun w' => by simp [Builtin.lenOf],fun w' hw => ?_⟩
   have hcl : cs.length = ys.length * sz := by rw [V.repCs_len _ _ h3,V.shapes_eq,X0 _ h4]
   simp only [Builtin.firstCells,← hcl]
   exact run_loadCells_list w' _ cs (fun j u hj => by
    obtain ⟨hj',e⟩ := List.getElem?_eq_some_iff.1 hj
    rw [Addr.add_eq rfl,cell?_congr (w := w) (w' := w') (by rw [hw])]
    simp [World.cell?,h2,List.getElem?_append,hj',e])
 unfold X8o at h
 split at h
 ·rename_i z ys
  obtain ⟨ys',vs,hK,hre,hu,hl,hf⟩ := Xw0 (P := P) (K := fun ys => K (ys.map .d)) hv (by simpa only [Xwz] using h)
  obtain ⟨d1,d2,d3⟩ := dat hre hu
  exact ⟨_,vs,hK,d1,d2,d3,fun w' => by simpa using hl w',fun w' hw => by simpa using hf w' hw⟩
 ·rw [Wu] at hv
  subst hv
  exact ⟨[],[],h,by simp [V.repCs],rfl,by simp,fun w' => by simp [Builtin.lenOf],fun w' _ => by simp [Builtin.firstCells]⟩
 ·rename_i id n
  rcases h with ⟨E,ys,hl,rfl,hst,hK⟩ | ⟨E,ys,hl,rfl,hK⟩
  ·exact own (hO.one id _ hl) hv hst hK
  ·have hm : Xch w ρ id (.vec E sz (ys.map .d)) := Xse (hO.one id _ hl)
   refine own hm (by simpa using hv) ?_ hK
   clear hm hl hv hK
   induction ys with
   | nil => rfl
   | cons y r ih => simp [V.stos,V.sto,ih]
 ·exact h.elim
theorem X46 {u v : Operand} {t t2 E sz B : Nat} {vx : V} {ys : List V} {vs : List Value} (T : AppT P t t2 E sz B) (r1 : vx.rep w ρ (a.eval u)) (hO : OM w ρ ob) (hK : Xn7 E sz B ob ys K vx)
  (hst : V.stos ys = true) (hre : V.repCs w ρ ys vs) (hu : ∀ y ∈ ys,y.size = sz) (hx : ∀ w',(Builtin.lenOf (a.eval v)).run P w' = .ok ys.length w')
  (hf : ∀ w',w'.heap = w.heap → (Builtin.firstCells sz ys.length (a.eval v)).run P w' = .ok vs.toArray w') : U2 P a w ρ (.call { callee := .builtin .append,args := #[u,v],argTypes := #[t,t2] }) K Pn := by
 have hrun : ∀ (w' : World) (val : Value) (o : Oper),o.op = .call { callee := .builtin .append,args := #[u,v],argTypes := #[t,t2] } → (Builtin.append_ #[t,t2] o.type #[a.eval u,a.eval v]).run P w = .ok val w' → (execOp a.eval o).run P w = .ok (.value val) w' := by
  intro w' val o ho hr
  simp only [execOp,ho,resolve,invoke,builtin,Sem.run_bind,Sem.run_pure,Result.andThen_ok,List.map_toArray,List.map_cons,List.map_nil,hr]
 unfold Xn7 at hK
 split at hK
 ·rename_i id n
  unfold Xdy at hK
  split at hK
  ·rename_i E' sz' xs hl
   obtain ⟨rfl,rfl,rfl,hB,hK⟩ := hK
   intro o ho next Q hn _
   obtain ⟨val,w',ρ',g1,g2,g3,g4⟩ := Xcn (ty := o.type) T hO hl r1 hst hre hu hx hf hB
   unfold Oper.wp
   rw [hrun w' val o ho g1]
   exact hn val _ _ w' ρ' hK g4 g3 g2
  ·rename_i E' sz' xs hl
   obtain ⟨rfl,rfl,rfl,hB,hK⟩ := hK
   have o2 := hO.swap hl (Xse (hO.one id _ hl))
   have hl2 : lookO (setO ob id (.vec E' sz' (xs.map .d))) id = some (.vec E' sz' (xs.map .d)) := by rw [Xh ob id id ⟨_,hl⟩]; simp
   intro o ho next Q hn _
   obtain ⟨val,w',ρ',g1,g2,g3,g4⟩ := Xcn (ty := o.type) T o2 hl2 (by simpa using r1) hst hre hu hx hf (by simpa using hB)
   rw [Xdl] at g3
   rw [List.length_map] at g4
   unfold Oper.wp
   rw [hrun w' val o ho g1]
   exact hn val _ _ w' ρ' hK g4 g3 g2
  ·exact hK.elim
 ·obtain ⟨hB,hK⟩ := hK
  have hl := Yp ob
  rw [Wu] at r1
  have hbl : ∀ b,RO.virt.blk? = some b → w.heap.size ≤ b := fun b hb => by simp [RO.blk?] at hb
  have t1 := Jz w (Ext.refl w) (o := .virt) (hO.free hl) hbl
  have o1 : OM w (ρ.ins (fresh ob) .virt) ((fresh ob,.vec E sz []) :: ob) := hO.ins (Ext.refl w) hl hbl (.inl ⟨Yy,rfl⟩)
  have q1 : (V.sl (fresh ob) ([] : List V).length).rep w (ρ.ins (fresh ob) .virt) (a.eval u) := by
   rw [Y2]; exact ⟨_,Yy,rfl,r1⟩
  intro o ho next Q hn _
  obtain ⟨val,w',ρ',g1,g2,g3,g4⟩ := Xcn (ty := o.type) (ys := ys) T o1 (by simp [lookO]) q1 hst (V.repCs_tr t1 _ _ hre) hu hx hf (by simpa using hB)
  unfold Oper.wp
  rw [hrun w' val o ho g1]
  simp only [setO,if_true,List.nil_append,List.length_nil,Nat.zero_add] at g3 g4
  exact hn val _ _ w' ρ' hK g4 g3 (t1.trans g2)
 ·exact hK.elim

theorem Xyw (hs : SM w ρ sl a) (hO : OM w ρ ob) {op : Op} {E sz B : Nat} {x y : A} (hc : I.chk P op (.apv E sz B x y) = true)
  (h : X8o sz (fun ys => Xn7 E sz B ob ys K (x.ev sl)) ob (y.ev sl)) : U2 P a w ρ op K Pn := by
 cases op <;> simp only [I.chk,Bool.false_eq_true] at hc
 rename_i c
 obtain ⟨ca,args,ts⟩ := c
 cases ca <;> (try simp only [Bool.false_eq_true] at hc)
 rename_i b
 cases b <;> (try simp only [Bool.false_eq_true] at hc)
 split at hc
 ·rename_i u v t t2 e1 e2
  simp only [Bool.and_eq_true] at hc
  obtain ⟨⟨⟨⟨h0,h1⟩,h2⟩,h3⟩,h4⟩ := hc
  have ea : args = #[u,v] := by simpa using congrArg List.toArray e1
  have et : ts = #[t,t2] := by simpa using congrArg List.toArray e2
  subst ea et
  have T : AppT P t t2 E sz B := by
   cases hi : P.info? E with
   | none => simp [hi] at h1
   | some i =>
    simp only [hi,Bool.and_eq_true,beq_iff_eq,bne_iff_ne,ne_eq] at h1
    obtain ⟨⟨⟨⟨⟨g1,g2⟩,g3⟩,g4⟩,g5⟩,g6⟩ := h1
    obtain ⟨z,hz⟩ := Option.isSome_iff_exists.1 g5
    rw [hz] at g6
    simp at g6
    refine ⟨?_,?_,⟨i,z,hi,g1,g2,hz,g6⟩,by rw [← g2]; exact g3,by rw [← g1]; exact g4⟩
    ·revert h0; split <;> simp_all
    ·left; revert h2; split <;> simp_all
  have r1 := A.sound hs h3
  have r2 := A.sound hs h4
  obtain ⟨ys,vs,hK,hre,hst,hu,hx,hf⟩ := X00 (P := P) hO r2 h
  exact X46 T r1 hO hK hst hre hu hx hf
 ·simp at hc

theorem Xhy (s : List UInt8) : ∀ x ∈ bytesD s,x.sz = 1 := by
 induction s with
 | nil => simp [bytesD]
 | cons b r ih => simp only [bytesD,List.mem_cons]; rintro x (rfl | h); exact rfl; exact ih x h
theorem Y3 (s : List UInt8) : (bytesD s).length = s.length := by
 induction s with
 | nil => rfl
 | cons b r ih => simp [bytesD,ih]
theorem Vs {ow : Nat → Prop} : ∀ (s : List UInt8) (cs : List Value),D.repL w ow (bytesD s) cs ↔ cs = s.map fun b => .int .u8 b.toNat
 | [],cs => by simp [bytesD,D.repL]
 | b :: r,cs => by
  simp only [bytesD,D.repL,D.rep,List.map_cons,Vs r]
  constructor
  ·rintro ⟨c1,c2,rfl,rfl,rfl⟩; rfl
  ·rintro rfl; exact ⟨_,_,rfl,rfl,rfl⟩

theorem Xsx (hs : SM w ρ sl a) (hO : OM w ρ ob) {op : Op} {E B : Nat} {x y : A} (hc : I.chk P op (.appS E B x y) = true)
  (h : Xhe (fun ys => Xdv E 1 B ob ys K (x.ev sl)) (y.ev sl)) : U2 P a w ρ op K Pn := by
 cases op <;> simp only [I.chk,Bool.false_eq_true] at hc
 rename_i c
 obtain ⟨ca,args,ts⟩ := c
 cases ca <;> (try simp only [Bool.false_eq_true] at hc)
 rename_i b
 cases b <;> (try simp only [Bool.false_eq_true] at hc)
 split at hc
 ·rename_i u v t t2 e1 e2
  simp only [Bool.and_eq_true] at hc
  obtain ⟨⟨⟨⟨h0,h1⟩,h2⟩,h3⟩,h4⟩ := hc
  have ea : args = #[u,v] := by simpa using congrArg List.toArray e1
  have et : ts = #[t,t2] := by simpa using congrArg List.toArray e2
  subst ea et
  have T : AppT P t t2 E 1 B := by
   cases hi : P.info? E with
   | none => simp [hi] at h1
   | some i =>
    simp only [hi,Bool.and_eq_true,beq_iff_eq,bne_iff_ne,ne_eq] at h1
    obtain ⟨⟨⟨⟨g1,g2⟩,g3⟩,g5⟩,g6⟩ := h1
    obtain ⟨z,hz⟩ := Option.isSome_iff_exists.1 g5
    rw [hz] at g6
    simp at g6
    refine ⟨?_,?_,⟨i,z,hi,g1,g2,hz,g6⟩,by rw [← g2]; exact g3,by omega⟩
    ·revert h0; split <;> simp_all
    ·right; revert h2; split <;> simp_all
  have r1 := A.sound hs h3
  have r2 := A.sound hs h4
  unfold Xhe at h
  split at h
  ·rename_i s e3
   rw [e3,rep_str] at r2
   have hlen : (bytesD s).length = s.length := Y3 s
   refine Xsb T r1 hO h ((Vs s _).2 rfl) (Xhy s) (fun w' => ?_) (fun w' _ => ?_)
   ·rw [r2,hlen]; simp [Builtin.lenOf,Xb1]
   ·rw [r2,hlen]
    simp only [Builtin.firstCells,Sem.run_pure]
    congr 1
    apply Array.ext'
    simp [ByteArray.data_extract]
  ·exact h.elim
 ·simp at hc

theorem Xy0 (hs : SM w ρ sl a) (hO : OM w ρ ob) {op : Op} {x : A} (hc : I.chk P op (.cvb x) = true) (h : Xst ob K (x.ev sl)) : U2 P a w ρ op K Pn := by
 cases op <;> simp only [I.chk,Bool.false_eq_true] at hc
 rename_i s t y
 simp only [Bool.and_eq_true,beq_iff_eq] at hc
 obtain ⟨⟨rfl,h0⟩,h2⟩ := hc
 have r1 := A.sound hs h2
 obtain ⟨e,hs1,he⟩ : ∃ e,P.underlying s = some (.slice e) ∧ P.underlying e = some (.int .u8) := by
  cases hu : P.underlying s with
  | none => simp [hu] at h0
  | some d =>
   cases d <;> simp [hu] at h0
   rename_i e
   refine ⟨e,rfl,?_⟩
   revert h0; split <;> simp_all
 unfold Xst at h
 split at h
 ·rename_i id n e1
  unfold Xfl at h
  split at h
  ·rename_i E sz xs hl
   obtain ⟨hsz,rfl,hne,hK⟩ := h
   rw [e1] at r1
   have r3 := Jv hO hl hsz r1
   rw [Y2] at r1
   obtain ⟨o,hρ,hv⟩ := r1
   rcases hO.one id _ hl with ⟨h1,rfl⟩ | ⟨b,cap,cs,sp,h1,h2,h3,h4,h5⟩
   ·exact absurd rfl hne
   ·rw [hρ] at h1; simp at h1; subst h1
    have hu := hv.2.2 rfl
    have hw : ∃ w2,w2.heap.size = w.heap.size ∧ (∀ j,j ≠ b → w2.heap[j]? = w.heap[j]?) ∧ w2.heap[b]? = some (.cells (List.toArray (cs ++ sp)) E ((cs ++ sp).length,(cs ++ sp).length + 1)) ∧ w2.tape = w.tape ∧ w2.os = w.os ∧ w2.output = w.output ∧ (markStringish ⟨b,0,none⟩).run P w = .ok () w2 := by
     have hsh : w.shape? b = some (E,(cs ++ sp).length) := by simp [World.shape?,h2]
     refine ⟨w.freeze ⟨b,(cs ++ sp).length,none⟩ 1,by simp [World.freeze],fun j hj => ?_,?_,rfl,rfl,rfl,?_⟩
     ·simp only [World.freeze]
      simp [Array.getElem?_modify,Ne.symm hj]
     ·simp only [World.freeze]
      simp [Array.getElem?_modify,h2]
     ·simp only [markStringish,Sem.run_bind,run_shape,hsh,Result.andThen_ok,run_freeze]
    obtain ⟨w2,q1,q2,q3,q4,q5,q6,q7⟩ := hw
    obtain ⟨t1,o1,hno⟩ := Xfs hO (w2 := w2) ⟨_,hl⟩ q1 (fun j hj => q2 j (fun e => hj _ hρ (by rw [e]; rfl))) q4 q5 q6
    refine Xg (v := .slice (some ⟨b,0,none⟩) xs.length cap) (fun o ho => ?_) hK ?_ o1 t1
    ·simp only [execOp,ho,hu,convert,Sem.run_bind,Xa hs1,Result.andThen_ok,beq_self_eq_true,Xa he,q7,Sem.run_pure]
    ·rw [Yw]
     refine .inr ⟨_,cap,cs,rfl,?_,⟨fun _ => ⟨rfl,hno b _ hρ rfl,Xl q3⟩,fun i hi => ?_⟩,D.repL_mono t1.mono _ _ h3,h4⟩
     ·have hcl : cs.length = xs.length * sz := by rw [D.repL_len _ _ h3,D.szs_uniform _ h4]
      have : xs.length * sz ≤ cap * sz := by rw [← h5,← hcl]; simp
      exact Nat.le_of_mul_le_mul_right this (Nat.pos_of_ne_zero hsz)
     ·simp [World.cell?,q3,List.getElem?_append,hi]
  ·exact h.elim
 ·exact h.elim

theorem Xs1 (hs : SM w ρ sl a) (hO : OM w ρ ob) {op : Op} {E : Nat} {x y : A} (hc : I.chk P op (.ustr E x y) = true) (h : Xa6 E ob K (x.ev sl) (y.ev sl)) : U2 P a w ρ op K Pn := by
 cases op <;> simp only [I.chk,Bool.false_eq_true] at hc
 rename_i c
 obtain ⟨ca,args,ts⟩ := c
 cases ca <;> (try simp only [Bool.false_eq_true] at hc)
 rename_i b
 cases b <;> (try simp only [Bool.false_eq_true] at hc)
 split at hc
 ·rename_i u v t t2 e1 e2
  have ea : args = #[u,v] := by simpa using congrArg List.toArray e1
  have et : ts = #[t,t2] := by simpa using congrArg List.toArray e2
  subst ea et
  simp only [Bool.and_eq_true] at hc
  obtain ⟨⟨h0,h1⟩,h2⟩ := hc
  have r1 := A.sound hs h1
  have r2 := A.sound hs h2
  obtain ⟨hp,hce⟩ : P.underlying t = some (.pointer E) ∧ P.cellsOf E = 1 := by
   split at h0
   ·rename_i e he; simp only [Bool.and_eq_true,beq_iff_eq] at h0; obtain ⟨rfl,h0⟩ := h0; exact ⟨he,h0⟩
   ·simp at h0
  have hrun : ∀ (w' : World) (val : Value) (o : Oper),o.op = .call { callee := .builtin .unsafeString,args := #[u,v],argTypes := #[t,t2] } → (Builtin.unsafeString_ #[t,t2] o.type #[a.eval u,a.eval v]).run P w = .ok val w' → (execOp a.eval o).run P w = .ok (.value val) w' := by
   intro w' val o ho hr
   simp only [execOp,ho,resolve,invoke,builtin,Sem.run_bind,Sem.run_pure,Result.andThen_ok,List.map_toArray,List.map_cons,List.map_nil,hr]
  unfold Xa6 at h
  split at h
  ·rename_i id n m e3 e4
   unfold Xag at h
   split at h
   ·rename_i E' sz xs hl
    obtain ⟨rfl,rfl,rfl,rfl,h63,hne,s,rfl,hK⟩ := h
    rw [e3,X3i] at r1
    rw [e4,X2] at r2
    obtain ⟨o,hρ,hv⟩ := r1
    have hs0 : s ≠ [] := by intro e; subst e; exact hne rfl
    rcases hO.one id _ hl with ⟨h1,hx⟩ | ⟨b,cap,cs,sp,h1,h2,h3,h4,h5⟩
    ·exact absurd hx hne
    ·rw [hρ] at h1; simp at h1; subst h1
     have hu := hv.2.2 rfl (by simpa using hne)
     rw [Vs] at h3
     subst h3
     have hll : (bytesD s).length = s.length := Y3 s
     obtain ⟨t1,o1,hno⟩ := Xfs hO (w2 := w.freeze ⟨b,0,none⟩ s.length) ⟨_,hl⟩ (by unfold World.freeze; split <;> simp) (fun j hj => by
      have : b ≠ j := fun e => hj _ hρ (by rw [e]; rfl)
      unfold World.freeze; split
      ·rfl
      ·simp [Array.getElem?_modify,this]) (by unfold World.freeze; split <;> rfl) (by unfold World.freeze; split <;> rfl) (by unfold World.freeze; split <;> rfl)
     refine Xg (v := .string ⟨s.toArray⟩) (fun o ho => hrun _ _ o ho ?_) hK (rep_str.2 rfl) o1 t1
     rw [hu,r2,hll]
     exact Lib.run_unsafeString_row (P := P) (w := w) t t2 _ E' hp hce b ((s.map fun b => Value.int .u8 b.toNat) ++ sp).length (by simp [World.shape?,h2]) s hs0 (by simp) (by omega) (fun j x hj => by
      obtain ⟨hj',e⟩ := List.getElem?_eq_some_iff.1 hj
      rw [Addr.add_eq rfl]
      simp [World.cell?,h2,List.getElem?_append,hj',e])
   ·exact h.elim
  ·rename_i m e3 e4
   obtain ⟨rfl,hK⟩ := h
   rw [e3,Xce] at r1
   rw [e4,X2] at r2
   refine Xg (v := .string .empty) (fun o ho => hrun _ _ o ho ?_) hK (rep_str.2 rfl) hO (Tr.refl _ _)
   rw [r1,r2]
   exact Lib.run_unsafeString_none _ _ _ _ _
  ·exact h.elim
 ·simp at hc

theorem Xjd : ∀ (s : List UInt8) (l : List UInt8),(s.map fun b : UInt8 => ((b.toNat : Nat) : Int)).foldl (fun (r : ByteArray) (n : Int) => r.push (UInt8.ofNat n.toNat)) ⟨l.toArray⟩ = ⟨(l ++ s).toArray⟩
 | [],l => by simp
 | b :: r,l => by
  simp only [List.map_cons,List.foldl_cons]
  have : (ByteArray.mk l.toArray).push (UInt8.ofNat ((b.toNat : Nat) : Int).toNat) = ⟨(l ++ [b]).toArray⟩ := by
   apply ByteArray.ext; simp [ByteArray.push]
  rw [this,Xjd r (l ++ [b])]
  simp

theorem Xyx (hs : SM w ρ sl a) (hO : OM w ρ ob) {op : Op} {x : A} (hc : I.chk P op (.b2s x) = true) (h : X79 (fun v => K v ob) (x.ev sl)) : U2 P a w ρ op K Pn := by
 cases op <;> simp [I.chk] at hc
 rename_i s t y
 obtain ⟨⟨h0,h1⟩,h2⟩ := hc
 have r1 := A.sound hs h2
 obtain ⟨e,hs1,he,hsz⟩ : ∃ e,P.underlying s = some (.slice e) ∧ P.underlying e = some (.int .u8) ∧ X9 P e = some 1 := by
  cases hu : P.underlying s with
  | none => simp [hu] at h0
  | some d =>
   cases d <;> simp [hu] at h0
   rename_i e
   refine ⟨e,rfl,?_,h0.2⟩
   have := h0.1
   revert this; split <;> simp_all
 have ht : P.underlying t = some .string := by revert h1; split <;> simp_all
 have hcv : ∀ (ad : Option Addr) (l c : Nat) (o : Oper),o.op = .convert s t y → a.eval y = .slice ad l c → (execOp a.eval o).run P w = ((Conv.bytesToString (.slice ad l c)).run P w).andThen fun v w' => .ok (.value v) w' := by
  intro ad l c o ho hy
  simp only [execOp,ho,hy,convert,Sem.run_bind,Xa hs1,Xa ht,Result.andThen_ok,Xa he]
  simp
 unfold X79 at h
 split at h
 ·rename_i sz xs e1
  obtain ⟨rfl,bs,rfl,hK⟩ := h
  rw [e1,Yw] at r1
  rcases r1 with ⟨hx,r1⟩ | ⟨ad,cap,vs,r1,hcap,hce,hre,hu⟩
  ·have : bs = [] := by have := congrArg List.length hx; rw [Y3] at this; exact List.eq_nil_of_length_eq_zero this
   subst this
   refine Xg (fun o ho => ?_) hK (rep_str.2 rfl) hO (Tr.refl _ _)
   rw [hcv _ _ _ o ho r1]
   simp [Conv.bytesToString]
   rfl
  ·rw [Vs] at hre
   refine Xg (fun o ho => ?_) hK (rep_str.2 rfl) hO (Tr.refl _ _)
   rw [hcv _ _ _ o ho r1,run_bytesToString w ad _ cap (bs.map fun b => ((b.toNat : Nat) : Int)) ?_]
   ·have := Xjd bs []
    simp only [List.nil_append] at this
    simp only [Result.andThen_ok]
    rw [← this]
    rfl
   ·have := run_loadCells_list (P := P) w ad vs (fun j u hj => by
     obtain ⟨hj',e⟩ := List.getElem?_eq_some_iff.1 hj
     have hne : vs ≠ [] := by intro h; simp [h] at hj'
     rw [Addr.add_eq (hce.1 hne).1,← e]; exact hce.2 j hj')
    rw [Y3]
    rw [show vs.length = bs.length by rw [hre]; simp] at this
    rw [this,hre]
    simp
 ·rename_i e1
  rw [e1,Wu] at r1
  refine Xg (fun o ho => ?_) h (rep_str.2 rfl) hO (Tr.refl _ _)
  rw [hcv _ _ _ o ho r1]
  simp [Conv.bytesToString]
  rfl
 ·exact h.elim

theorem Xn2 (hs : SM w ρ sl a) (hO : OM w ρ ob) {op : Op} {x : A} (hc : I.chk P op (.s2b x) = true) (h : X8m (fun v => K v ob) (x.ev sl)) : X3t P a w ρ op ob K := by
 cases op <;> simp [I.chk] at hc
 rename_i s t y
 obtain ⟨⟨h0,h1⟩,h2⟩ := hc
 have r1 := A.sound hs h2
 have hs1 : P.underlying s = some .string := by revert h0; split <;> simp_all
 obtain ⟨e,ht,he⟩ : ∃ e,P.underlying t = some (.slice e) ∧ P.underlying e = some (.int .u8) := by
  cases hu : P.underlying t with
  | none => simp [hu] at h1
  | some d =>
   cases d <;> simp [hu] at h1
   rename_i e
   refine ⟨e,rfl,?_⟩
   revert h1; split <;> simp_all
 unfold X8m at h
 split at h
 ·rename_i bs e1
  rw [e1,rep_str] at r1
  have hq : (Question.appendCap bs.length 0 e).forced = false := rfl
  generalize hcap : (Question.appendCap bs.length 0 e).cut (w.tape w.drawn (.appendCap bs.length 0 e)) = cap
  have hge : bs.length ≤ cap := by rw [← hcap]; simp [Question.cut]
  let cs : List Value := (bs.map fun b => Value.int .u8 b.toNat) ++ List.replicate (cap - bs.length) (.int .u8 0)
  let w1 : World := Xhu { w with drawn := w.drawn + 1 } (.cells cs.toArray e)
  have hlen : cs.length = cap := by simp [cs]; omega
  have he1 : Ext w w1 := (Ext.drew w _).trans (Vk _ _)
  have hn : w1.heap[w.heap.size]? = some (.cells cs.toArray e (0,0)) := V5 _ _
  let w2 : World := w1.freeze ⟨w.heap.size,cap,none⟩ 1
  have hn2 : w2.heap[w.heap.size]? = some (.cells cs.toArray e (cap,cap + 1)) := by
   simp only [w2,World.freeze]
   simp [Array.getElem?_modify,hn]
  have hsz2 : w2.heap.size = w1.heap.size := by simp [w2,World.freeze]
  have he2 : Ext w w2 := by
   refine ⟨by rw [hsz2]; exact he1.size,fun b hb => ?_,he1.tape,he1.os,he1.out⟩
   rw [← he1.keep b hb]
   simp only [w2,World.freeze]
   simp [Array.getElem?_modify,Nat.ne_of_gt hb]
  refine ⟨.slice (some ⟨w.heap.size,0,none⟩) bs.length cap,_,w2,h,Yw.2 (.inr ⟨⟨w.heap.size,0,none⟩,cap,bs.map fun b => Value.int .u8 b.toNat,by rw [Y3],by rw [Y3]; exact hge,⟨fun _ => ⟨rfl,?_,Xl hn2⟩,fun i hi => ?_⟩,(Vs bs _).2 rfl,Xhy bs⟩),he2,fun o ho => ?_⟩
  rotate_left 2
  ·simp only [execOp,ho,r1,convert,Sem.run_bind,Xa hs1,Xa ht,Result.andThen_ok,Xa he,Conv.stringToBytes,Xb1,run_choose,hq,Bool.false_eq_true,if_false,hcap,newRow,run_newObj,Sem.run_pure]
   have e3 : Array.map (fun b : UInt8 => Value.int IntKind.u8 b.toNat) (ByteArray.mk bs.toArray).data ++ Array.replicate (cap - bs.length) (Value.int IntKind.u8 0) = cs.toArray := by
    apply Array.ext'; simp [cs]
   rw [e3]
   have hsh : w1.shape? w.heap.size = some (e,cap) := by simp [World.shape?,hn,hlen]
   have hm : (markStringish ⟨w.heap.size,0,none⟩).run P w1 = .ok () w2 := by
    simp only [markStringish,Sem.run_bind,run_shape,hsh,Result.andThen_ok,run_freeze]
    rfl
   show ((Sem.run P (markStringish ⟨w.heap.size,0,none⟩) w1).andThen _).andThen _ = _
   rw [hm]
   simp
  ·rintro (⟨j,p,q1,q2⟩ | q)
   ·have := Qf hO q1 q2; simp at this
   ·have := hO.xlt _ q; simp at this
  ·have hi' : i < bs.length := by simpa using hi
   simp [World.cell?,hn2,cs,List.getElem?_append,hi']
 ·exact h.elim

theorem Xs0 (hs : SM w ρ sl a) (hO : OM w ρ ob) {op : Op} {E sz : Nat} {x : A} (hc : I.chk P op (.nilo E sz x) = true) (h : Xg8 E sz ob K (x.ev sl)) : U2 P a w ρ op K Pn := by
 unfold Xg8 at h
 split at h
 ·rename_i e1
  have hf := Yp ob
  have hbl : ∀ b,RO.virt.blk? = some b → w.heap.size ≤ b := fun b hb => by simp [RO.blk?] at hb
  have t1 := Jz w (Ext.refl w) (o := .virt) (hO.free hf) hbl
  have o1 : OM w (ρ.ins (fresh ob) .virt) ((fresh ob,.arr E sz []) :: ob) := hO.ins (Ext.refl w) hf hbl (.inl ⟨Yy,rfl⟩)
  cases op <;> simp [I.chk] at hc
  all_goals
   have r1 := A.sound hs hc
   rw [e1,Wu] at r1
   exact Xg (fun o ho => by simp [execOp,ho]) h (Y2.2 ⟨.virt,Yy,⟨rfl,r1⟩⟩) o1 t1
 ·exact h.elim

theorem Xy5 (hs : SM w ρ sl a) (hO : OM w ρ ob) {op : Op} {r : Option A} (hc : I.chk P op (.mkm r) = true) (h : Xxk sl r ∧ K (.mp (fresh ob)) ((fresh ob,.map []) :: ob)) : U2 P a w ρ op K Pn := by
 cases op <;> simp only [I.chk,Bool.false_eq_true] at hc
 rename_i t hint
 simp only [Bool.and_eq_true] at hc
 obtain ⟨hm,hK⟩ := h
 obtain ⟨kt,et,ht⟩ : ∃ kt et,P.underlying t = some (.map kt et) := by
  have := hc.1
  revert this; split <;> simp_all
 obtain ⟨t1,o1,p1⟩ := X7d hO (Yp ob)
 refine Xg (fun o ho => ?_) hK p1 o1 t1
 cases hint with
 | none =>
  simp only [execOp,ho,Option.map_none,Instr.makeMap,Sem.run_bind,run_newObj,Result.andThen_ok,Sem.run_pure]
  rfl
 | some x =>
  cases r with
  | none => simp [Xee] at hc
  | some y =>
   simp only [Xee] at hc
   have r1 := A.sound hs hc.2
   simp only [Xxk] at hm
   unfold Xio at hm
   split at hm
   ·rename_i k n e1
    rw [e1,X2] at r1
    simp only [execOp,ho,Option.map_some,Instr.makeMap,Sem.run_bind,Xa ht,run_newObj,Result.andThen_ok,Sem.run_pure,r1,asInt]
    rfl
   ·exact hm.elim

theorem Xcm {k j : D} (h : D.alike k j = true) : ∃ u v,k.key = some u ∧ j.key = some v := by
 unfold D.alike at h
 split at h <;> first | exact ⟨_,_,rfl,rfl⟩ | cases h
theorem Xaz {td : TypeDesc} {kd k : D} (h : Uq td kd = true) (h2 : D.alike kd k = true) : Uq td k = true := by
 unfold Uq at h
 split at h
 ·cases k <;> simp [D.alike] at h2 <;> rfl
 ·cases k <;> simp [D.alike] at h2 <;> rfl
 ·cases k <;> simp [D.alike] at h2 <;> rfl
 ·cases h
theorem Xe7 {td : TypeDesc} {k j : D} {u v : Value} (hk : Uq td k = true) (ha : D.alike k j = true) (hu : k.key = some u) (hv : j.key = some v) : Instr.sameNow td u v = some (D.sameKey k j) := by
 cases k <;> cases j <;> simp only [D.alike,Bool.false_eq_true,decide_eq_true_eq] at ha <;> simp only [D.key,Option.some.injEq] at hu hv <;> subst hu <;> subst hv <;> cases td <;> simp only [Uq,Bool.false_eq_true] at hk
 ·subst ha; simp [Instr.sameNow,D.sameKey]
 ·simp [Instr.sameNow,D.sameKey]
 ·rename_i s t
  simp only [Instr.sameNow,D.sameKey,Option.some.injEq]
  rw [beq_toListBytes,Xjv,Xjv]
theorem Xta {td : TypeDesc} {k : D} {u : Value} (hk : Uq td k = true) (hu : k.key = some u) : ∀ (es : List (D × V)) (l : List MapEntry) (i : Nat),Y7 w ρ es l → (∀ e ∈ es,D.alike k e.1 = true) →
  (Q6 k es = none ∧ Instr.findNow td u l i = some none) ∨ ∃ v j e,Q6 k es = some v ∧ Instr.findNow td u l i = some (some (i + j,e.val)) ∧ l[j]? = some e ∧ v.rep w ρ e.val ∧ e.key = u
 | [],l,i,h,_ => by
  simp only [Y7] at h; subst h
  exact .inl ⟨rfl,rfl⟩
 | (j,v) :: r,l,i,h,ha => by
  obtain ⟨e,l',rfl,h1,h2,h3⟩ := h
  have haj := ha (j,v) (by simp)
  have hs := Xe7 hk haj hu h1
  simp only [Instr.findNow,Q6,hs]
  cases hsk : D.sameKey k j with
  | true =>
   refine .inr ⟨v,0,e,by simp,by simp,by simp,h2,?_⟩
   cases k <;> cases j <;> simp only [D.alike,Bool.false_eq_true,decide_eq_true_eq] at haj <;> simp only [D.sameKey,beq_iff_eq] at hsk <;> simp only [D.key,Option.some.injEq] at hu h1 <;> rw [← hu,← h1] <;> simp_all
  | false =>
   rcases Xta hk hu r l' (i + 1) h3 (fun x hx => ha x (by simp [hx])) with ⟨f1,f2⟩ | ⟨v',j',e',f1,f2,f3,f4,f5⟩
   ·exact .inl ⟨by simpa using f1,by simpa using f2⟩
   ·exact .inr ⟨v',j' + 1,e',by simpa using f1,by simp only [f2]; congr 3; omega,by simpa using f3,f4,f5⟩
theorem Yz {kt : TypeId} {td : TypeDesc} (ht : P.underlying kt = some td) {u : Value} {l : List MapEntry} {r : Option (Nat × Value)} (h : Instr.findNow td u l 0 = some r) (w' : World) : (Instr.findKey kt u l).run P w' = .ok r w' := by
 simp [Instr.findKey,Xa ht,h]
theorem Yv {kt : TypeId} {td : TypeDesc} (ht : P.underlying kt = some td) {k : D} (hk : Uq td k = true) (u : Value) (b : Bool) (w' : World) : (Instr.checkKey b 10000 kt u).run P w' = .ok () w' := by
 unfold Instr.checkKey
 simp only [Sem.run_bind,Xa ht,Result.andThen_ok]
 unfold Uq at hk
 split at hk <;> first | (cases hk; done) | simp
theorem X09 {et : TypeId} {z : D} (h : (match Qk P et with | some cs => D.isC z cs && (((P.info? et).bind (·.zero)).map fun v => match v with | .agg _ => true | _ => false) == some (V.d z).isAgg | none => false) = true) :
  ∃ zv,(V.d z).rep w ρ zv ∧ ∀ w',(zeroValue et).run P w' = .ok zv w' := by
 cases hzt : Qk P et with
 | none => simp [hzt] at h
 | some cs =>
  simp only [hzt,Bool.and_eq_true,beq_iff_eq] at h
  obtain ⟨hz1,hz2⟩ := h
  obtain ⟨zv,e1,e2,hzr⟩ := Qw hzt
  refine ⟨zv,?_,hzr⟩
  have hr : (V.d z).repC w ρ cs := by simp only [V.repC]; exact D.isC_rep z cs hz1
  rw [e2] at hz2
  simp only [Option.map_some,Option.some.injEq] at hz2
  cases zv with
  | agg cs' =>
   simp only at hz2
   refine .inr (.inl ⟨hz2.symm,cs,?_,hr⟩)
   simp only [Value.cells] at e1
   rw [← e1]
  | _ =>
   simp only at hz2
   refine .inr (.inr ⟨hz2.symm,?_⟩)
   simp only [Value.cells] at e1
   rw [← e1] at hr
   simpa using hr
theorem Xy4 (hs : SM w ρ sl a) (hO : OM w ρ ob) {op : Op} {kd z : D} {ok : Bool} {m k : A} (hc : I.chk P op (.lkp kd z ok m k) = true) (h : Xt3 ob kd z ok (fun v => K v ob) (m.ev sl) (k.ev sl)) : U2 P a w ρ op K Pn := by
 cases op <;> simp only [I.chk,Bool.false_eq_true] at hc
 rename_i t x i o
 simp only [Bool.and_eq_true,beq_iff_eq] at hc
 obtain ⟨⟨⟨rfl,hty⟩,hx⟩,hi⟩ := hc
 obtain ⟨kt,et,ht,hkk,hz⟩ : ∃ kt et,P.underlying t = some (.map kt et) ∧ Qa P kt kd = true ∧ (match Qk P et with | some cs => D.isC z cs && (((P.info? et).bind (·.zero)).map fun v => match v with | .agg _ => true | _ => false) == some (V.d z).isAgg | none => false) = true := by
  revert hty; split
  ·rename_i kt et h; intro h1; simp only [Bool.and_eq_true] at h1; exact ⟨kt,et,h,h1.1,h1.2⟩
  ·intro h; cases h
 obtain ⟨td,htd,hkd⟩ : ∃ td,P.underlying kt = some td ∧ Uq td kd = true := by
  unfold Qa at hkk
  split at hkk
  ·rename_i d hd; exact ⟨d,hd,hkk⟩
  ·cases hkk
 obtain ⟨zv,hzv,hzr⟩ := X09 (w := w) (ρ := ρ) hz
 have r1 := A.sound hs hx
 have r2 := A.sound hs hi
 have tup : ∀ {v : V} {u : Value} (b : Bool),v.rep w ρ u → (V.tup [v,.d (.bool b)]).rep w ρ (.tuple #[u,.bool b]) := fun b hv => by
  rw [rep_tup]
  refine ⟨[_,.bool b],rfl,?_⟩
  simp only [V.reps]
  exact ⟨_,_,rfl,hv,_,_,rfl,rep_bool.2 rfl,rfl⟩
 have keyRep : ∀ {d : D} {u v : Value},d.key = some u → (V.d d).rep w ρ v → v = u := fun {d u v} h1 h2 => by
  cases d <;> simp only [D.key,Option.some.injEq,reduceCtorEq] at h1
  ·rw [X2] at h2; rw [h2,← h1]
  ·rw [rep_bool] at h2; rw [h2,← h1]
  ·rw [rep_str] at h2; rw [h2,← h1]
 unfold Xt3 at h
 split at h
 ·rename_i id kk e1 e2
  rw [e1] at r1
  rw [e2] at r2
  unfold Xf0 at h
  split at h
  ·rename_i es hl
   obtain ⟨⟨ha0,hall⟩,hK⟩ := h
   obtain ⟨b,l,clk,g1,g2,g3⟩ := hO.one id _ hl
   rw [Xv7] at r1
   rcases r1 with ⟨b',g4,r1⟩ | ⟨g4,_⟩
   ·rw [g1] at g4; cases g4
    have hkk' := Xaz hkd ha0
    obtain ⟨_,ku,_,hku⟩ := Xcm ha0
    have r2' := keyRep hku r2
    have hget : (getObj b).run P w = .ok (.map l.toArray clk) w := by simp [getObj,Sem.run,g2]
    rcases Xta hkk' hku es l 0 g3 hall with ⟨f1,f2⟩ | ⟨v,j,e,f1,f2,f3,f4,f5⟩
    ·rw [f1] at hK
     cases o
     ·exact Xg (fun o ho => by simp [execOp,ho,Instr.lookup,r1,r2',Xa ht,hget,Yv htd hkk',Yz htd f2,hzr]) hK hzv hO (Tr.refl _ _)
     ·exact Xg (fun o ho => by simp [execOp,ho,Instr.lookup,r1,r2',Xa ht,hget,Yv htd hkk',Yz htd f2,hzr]) hK (tup false hzv) hO (Tr.refl _ _)
    ·rw [f1] at hK
     cases o
     ·exact Xg (fun o ho => by simp [execOp,ho,Instr.lookup,r1,r2',Xa ht,hget,Yv htd hkk',Yz htd f2]) hK f4 hO (Tr.refl _ _)
     ·exact Xg (fun o ho => by simp [execOp,ho,Instr.lookup,r1,r2',Xa ht,hget,Yv htd hkk',Yz htd f2]) hK (tup true f4) hO (Tr.refl _ _)
   ·rw [g1] at g4; cases g4
  ·exact h.elim
 ·rename_i kk e1 e2
  rw [e1,Xo7] at r1
  rw [e2] at r2
  obtain ⟨ha0,hK⟩ := h
  have hkk' := Xaz hkd ha0
  obtain ⟨_,ku,_,hku⟩ := Xcm ha0
  have r2' := keyRep hku r2
  have f2 : Instr.findNow td ku ([] : List MapEntry) 0 = some none := rfl
  cases o
  ·exact Xg (fun o ho => by simp [execOp,ho,Instr.lookup,r1,r2',Xa ht,Yv htd hkk',Yz htd f2,hzr]) hK hzv hO (Tr.refl _ _)
  ·exact Xg (fun o ho => by simp [execOp,ho,Instr.lookup,r1,r2',Xa ht,Yv htd hkk',Yz htd f2,hzr]) hK (tup false hzv) hO (Tr.refl _ _)
 ·exact h.elim

theorem X3o {td : TypeDesc} {k : D} {u : Value} {x : V} {xv : Value} (hk : Uq td k = true) (hu : k.key = some u) (hx : x.rep w ρ xv) (clk : Nat) : ∀ (es : List (D × V)) (l : List MapEntry) (i : Nat),Y7 w ρ es l → (∀ e ∈ es,D.alike k e.1 = true) →
  (Instr.findNow td u l i = some none ∧ Y7 w ρ (Xnf k x es) (l ++ [{ key := u,val := xv,born := clk }])) ∨ ∃ j e v,Instr.findNow td u l i = some (some (i + j,v)) ∧ l[j]? = some e ∧ e.key = u ∧ Y7 w ρ (Xnf k x es) (l.modify j fun e => { e with key := u,val := xv })
 | [],l,i,h,_ => by
  simp only [Y7] at h; subst h
  exact .inl ⟨rfl,⟨_,[],rfl,hu,hx,rfl⟩⟩
 | (j,v) :: r,l,i,h,ha => by
  obtain ⟨e,l',rfl,h1,h2,h3⟩ := h
  have haj := ha (j,v) (by simp)
  have hs := Xe7 hk haj hu h1
  simp only [Instr.findNow,Xnf,hs]
  cases hsk : D.sameKey k j with
  | true =>
   refine .inr ⟨0,e,e.val,by simp,by simp,?_,?_⟩
   ·cases k <;> cases j <;> simp only [D.alike,Bool.false_eq_true,decide_eq_true_eq] at haj <;> simp only [D.sameKey,beq_iff_eq] at hsk <;> simp only [D.key,Option.some.injEq] at hu h1 <;> rw [← hu,← h1] <;> simp_all
   ·simp only [if_true]
    exact ⟨_,l',rfl,hu,hx,h3⟩
  | false =>
   rcases X3o hk hu hx clk r l' (i + 1) h3 (fun x hx => ha x (by simp [hx])) with ⟨f1,f2⟩ | ⟨j',e',v',f1,f2,f3,f4⟩
   ·refine .inl ⟨by simpa using f1,?_⟩
    exact ⟨e,_,rfl,h1,h2,f2⟩
   ·refine .inr ⟨j' + 1,e',v',by simp only [f1]; congr 3; omega,by simpa using f2,f3,?_⟩
    exact ⟨e,_,rfl,h1,h2,f4⟩
theorem Xjn {k : D} {u : Value} (h : k.key = some u) : Instr.sameBits 10000 u u = true := by
 cases k <;> simp only [D.key,Option.some.injEq,reduceCtorEq] at h
 ·subst h; show (_ == _ && _ == _) = true; simp
 ·subst h; show (_ == _) = true; simp
 ·subst h; show (_ == _) = true; rw [beq_toListBytes]; simp
theorem Xsz (hs : SM w ρ sl a) (hO : OM w ρ ob) {op : Op} {kd : D} {m k v : A} (hc : I.chk P op (.mset kd m k v) = true) (h : Xc6 ob kd (v.ev sl) K (m.ev sl) (k.ev sl)) : U2 P a w ρ op K Pn := by
 obtain ⟨t,x,i,y,hop,hty,hx,hi,hy⟩ : ∃ t x i y,(op = .mapUpdate t x i y ∨ op = .insert t x i y) ∧ (match P.underlying t with | some (.map kt _) => Qa P kt kd | _ => false) = true ∧ A.chk x m = true ∧ A.chk i k = true ∧ A.chk y v = true := by
  cases op <;> simp only [I.chk,Bool.false_eq_true,Bool.and_eq_true] at hc
  ·rename_i t x i y; exact ⟨t,x,i,y,.inr rfl,hc.1.1.1,hc.1.1.2,hc.1.2,hc.2⟩
  ·rename_i t x i y; exact ⟨t,x,i,y,.inl rfl,hc.1.1.1,hc.1.1.2,hc.1.2,hc.2⟩
 obtain ⟨kt,et,ht,hkk⟩ : ∃ kt et,P.underlying t = some (.map kt et) ∧ Qa P kt kd = true := by
  revert hty; split
  ·rename_i kt et h; intro h1; exact ⟨kt,et,h,h1⟩
  ·intro h; cases h
 obtain ⟨td,htd,hkd⟩ : ∃ td,P.underlying kt = some td ∧ Uq td kd = true := by
  unfold Qa at hkk
  split at hkk
  ·rename_i d hd; exact ⟨d,hd,hkk⟩
  ·cases hkk
 have r1 := A.sound hs hx
 have r2 := A.sound hs hi
 have r3 := A.sound hs hy
 have keyRep : ∀ {d : D} {u v : Value},d.key = some u → (V.d d).rep w ρ v → v = u := fun {d u v} h1 h2 => by
  cases d <;> simp only [D.key,Option.some.injEq,reduceCtorEq] at h1
  ·rw [X2] at h2; rw [h2,← h1]
  ·rw [rep_bool] at h2; rw [h2,← h1]
  ·rw [rep_str] at h2; rw [h2,← h1]
 unfold Xc6 at h
 split at h
 ·rename_i id kk e1 e2
  rw [e1] at r1
  rw [e2] at r2
  unfold J6 at h
  split at h
  ·rename_i es hl
   obtain ⟨⟨ha0,hall⟩,hst,hK⟩ := h
   obtain ⟨b,l,clk,g1,g2,g3⟩ := hO.one id _ hl
   rw [Xv7] at r1
   rcases r1 with ⟨b',g4,r1⟩ | ⟨g4,_⟩
   ·rw [g1] at g4; cases g4
    have hkk' := Xaz hkd ha0
    obtain ⟨_,ku,_,hku⟩ := Xcm ha0
    have r2' := keyRep hku r2
    have hget : (getObj b).run P w = .ok (.map l.toArray clk) w := by simp [getObj,Sem.run,g2]
    rcases X3o hkk' hku r3 clk es l 0 g3 hall with ⟨f1,f2⟩ | ⟨j,e,v',f1,f2,f3,f4⟩
    ·obtain ⟨t1,o1⟩ := Xjy (clk' := clk + 1) hO hl g1 g2 f2
     refine Jm (fun o ho => ?_) hK o1 t1
     have hset : (setObj b (.map ((l ++ [(⟨ku,a.eval y,clk⟩ : MapEntry)]).toArray) (clk + 1))).run P w = .ok () (Xrd w b (.map ((l ++ [(⟨ku,a.eval y,clk⟩ : MapEntry)]).toArray) (clk + 1))) := by simp [setObj,Sem.run,g2,Xrd]
     rcases hop with rfl | rfl <;> simp [execOp,ho,Instr.mapUpdate,r1,r2',Xa ht,hget,Yv htd hkk',Yz htd f1] <;> (rw [hset]; simp)
    ·obtain ⟨t1,o1⟩ := Xjy (clk' := clk) hO hl g1 g2 f4
     refine Jm (fun o ho => ?_) hK o1 t1
     have hks : (Instr.keyThatStays e.key ku).run P w = .ok ku w := by simp [Instr.keyThatStays,f3,Xjn hku]
     have hm : (l.toArray.modify j fun e => { e with key := ku,val := a.eval y }) = (l.modify j fun e => { e with key := ku,val := a.eval y }).toArray := by simp
     have hset : (setObj b (.map (l.modify j fun e => { e with key := ku,val := a.eval y }).toArray clk)).run P w = .ok () (Xrd w b (.map (l.modify j fun e => { e with key := ku,val := a.eval y }).toArray clk)) := by simp [setObj,Sem.run,g2,Xrd]
     have f1' : Instr.findNow td ku l 0 = some (some (j,v')) := by rw [f1]; simp
     rcases hop with rfl | rfl <;> simp [execOp,ho,Instr.mapUpdate,r1,r2',Xa ht,hget,Yv htd hkk',Yz htd f1',f2,hks] <;> (rw [hset]; simp)
   ·rw [g1] at g4; cases g4
  ·exact h.elim
 ·exact h.elim

theorem Xy1 {P : Prg} (hg : ρ.gl = P.g) (hO : OM w ρ ob) {op : Op} {g n : Nat} {ag : Bool} {x : D} (hc : I.chk P.p op (.gld g n ag x) = true) (h : Xba P g x ∧ x.sz = n ∧ (V.d x).isAgg = ag ∧ K (.d x) ob) : U2 P.p a w ρ op K Pn := by
 obtain ⟨t,hop,h1,h2,h3⟩ : ∃ t,op = .load t (.global g) ∧ X9 P.p t = some n ∧ (P.p.underlying t).isSome = true ∧ agT P.p t = ag := by
  simp only [I.chk] at hc
  split at hc
  ·rename_i t hh
   simp only [Bool.and_eq_true,beq_iff_eq] at hc
   obtain ⟨⟨⟨rfl,h1⟩,h2⟩,h3⟩ := hc
   exact ⟨t,rfl,h1,h2,h3⟩
  ·cases hc
 obtain ⟨⟨cs,T,f,hgl,hx⟩,hsz,hag,hK⟩ := h
 obtain ⟨hh,hno⟩ := hO.glb g _ (by rw [hg]; exact hgl)
 have hrep : x.rep w (own ρ) cs := D.isC_rep x cs hx
 have hr : (V.d (.ref x)).rep w ρ (.pointer (some ⟨g,0,none⟩)) := Q4.2 ⟨⟨g,0,none⟩,cs,rfl,rfl,⟨fun _ => ⟨rfl,hno,Xl hh⟩,fun i hi => by simp [World.cell?,hh,hi]⟩,hrep⟩
 let a2 : Act := ⟨#[.pointer (some ⟨g,0,none⟩)],[]⟩
 have hs2 : SM w ρ [(0,.d (.ref x))] a2 := by
  intro k
  simp only [look]
  split
  ·rename_i e; subst e; exact hr
  ·exact Xdg
 obtain ⟨v,y,hK2,hr2,hrun⟩ := Xcg (P := P.p) (K := fun v => v = V.d x) (a := a2) (n := n) (ag := ag) (x := .t 0) (op := .load t (.tmp 0)) hs2 hO (by simp [C.chk,h1,h2,h3,A.chk]) (by simp [A.ev,look,ldK,hsz,hag])
 subst hK2
 refine Xg (fun o ho => ?_) hK hr2 hO (Tr.refl _ _)
 have := hrun ⟨none,.load t (.tmp 0),0, "", #[],none⟩ rfl w (fun _ => Ext.refl w)
 simp only [execOp,Act.eval,a2] at this
 simp only [execOp,ho,hop,Act.eval]
 simpa using this

theorem Xza (hs : SM w ρ sl a) (hO : OM w ρ ob) {op : Op} {n z : Nat} {x : A} (hc : I.chk P op (.slg n z x) = true) (h : X3j ob n z K (x.ev sl)) : U2 P a w ρ op K Pn := by
 obtain ⟨t,x1,e,hop,ht,he,hx⟩ : ∃ t x1 e,op = .slice t x1 none none none ∧ P.underlying t = some (.array n e) ∧ X9 P e = some z ∧ A.chk x1 x = true := by
  simp only [I.chk] at hc
  split at hc
  ·rename_i t x1
   simp only [Bool.and_eq_true] at hc
   obtain ⟨h0,h1⟩ := hc
   split at h0
   ·rename_i m e hu
    simp only [Bool.and_eq_true,beq_iff_eq] at h0
    obtain ⟨rfl,h0⟩ := h0
    exact ⟨t,x1,e,rfl,hu,h0,h1⟩
   ·cases h0
  ·cases hc
 have r1 := A.sound hs hx
 unfold X3j at h
 split at h
 ·rename_i id p e1
  rw [e1] at r1
  unfold Xql at h
  split at h
  ·rename_i xs hat
   obtain ⟨hl,hz,hK⟩ := h
   obtain ⟨t0,b',cs,E,g1,g2,g3,g4,g5⟩ := Jj hO hat
   obtain ⟨b,sh,hρ,r1⟩ := rep_ptr_box hO g1 r1
   rw [hρ] at g3
   simp only [Option.some.injEq,RO.box.injEq] at g3
   obtain ⟨rfl,rfl⟩ := g3
   obtain ⟨t1,o1,hno⟩ := Xcw hO (id := id) ⟨_,g1⟩
   obtain ⟨c1,c2,c3,q1,q2,q3⟩ := V.repC_at p t0 _ cs g5 g2
   simp only [V.repC,D.rep] at q3
   refine Xg (v := .slice (some ⟨b,t0.shape.off p,none⟩) n n) (fun o ho => ?_) hK ?_ o1 t1
   ·simp only [execOp,ho,hop,r1,Option.map_none,Instr.sliceAt,Sem.run_bind,Xa ht,Result.andThen_ok,Instr.sureAddr,Sem.run_pure,Instr.sliceBounds,Xm he]
    simp only [Nat.zero_mul,Nat.sub_zero]
    rw [Addr.add_eq rfl]
    simp
   ·rw [Yw]
    refine .inr ⟨⟨b,t0.shape.off p,none⟩,n,c2,by rw [hl],by omega,⟨fun _ => ⟨rfl,hno b _ hρ rfl,Xl g4⟩,fun i hi => ?_⟩,D.repL_mono t1.mono _ _ q3,hz⟩
    rw [← q2]
    simp [World.cell?,g4,q1,List.getElem?_append,hi]
  ·exact h.elim
 ·exact h.elim

theorem Xy9 (hs : SM w ρ sl a) (hO : OM w ρ ob) {op : Op} {n z : Nat} {x : A} {lo hi : Option A} (hc : I.chk P op (.slb n z x lo hi) = true) (h : X8n ob n z (lo.map (A.ev sl)) (hi.map (A.ev sl)) K (x.ev sl)) : U2 P a w ρ op K Pn := by
 cases op <;> simp only [I.chk,Bool.false_eq_true] at hc
 rename_i t x1 l1 h1 m1
 cases m1 <;> simp only [Bool.false_eq_true] at hc
 simp only [Bool.and_eq_true] at hc
 obtain ⟨⟨⟨h0,hx⟩,hlo⟩,hhi⟩ := hc
 obtain ⟨e,ht,he⟩ : ∃ e,P.underlying t = some (.array n e) ∧ X9 P e = some z := by
  revert h0; split
  ·rename_i m e hu
   simp only [Bool.and_eq_true,beq_iff_eq]
   rintro ⟨rfl,h0⟩
   exact ⟨e,hu,h0⟩
  ·simp
 have r1 := A.sound hs hx
 unfold X8n at h
 split at h
 ·rename_i id p e1
  rw [e1] at r1
  cases hat : atO ob id p with
  | none => simp [hat,Zg,Xqk] at h
  | some v =>
   cases hk : v.kids with
   | none => simp [hat,Zg,hk,Xqk] at h
   | some ks =>
    simp only [hat,Zg,hk,Xqk] at h
    obtain ⟨hlen,hz,h⟩ := h
    obtain ⟨t0,b',cs,E,g1,g2,g3,g4,g5⟩ := Jj hO hat
    obtain ⟨b,sh,hρ,r1⟩ := rep_ptr_box hO g1 r1
    rw [hρ] at g3
    simp only [Option.some.injEq,RO.box.injEq] at g3
    obtain ⟨rfl,rfl⟩ := g3
    obtain ⟨l,h',hK,q1,q2,hr⟩ := Qm (P := P) (cap := n) (isS := false) hs (Nat.le_refl _) hlo hhi h
    refine Xg (v := .slice (some (if n = l then ⟨b,t0.shape.off p,none⟩ else (⟨b,t0.shape.off p,none⟩ : Addr).add (l * z))) (h' - l) (n - l)) (fun o ho => ?_) hK ?_ hO (Tr.refl _ _)
    ·simp only [execOp,ho,r1,Instr.sliceAt,Sem.run_bind,Xa ht,Result.andThen_ok,Instr.sureAddr,Sem.run_pure,Option.map_none,hr,Xm he]
    ·rw [Xjf]
     refine .inl ⟨b,t0.shape,n - l,if n = l then t0.shape.off p else t0.shape.off p + l * z,hρ,⟨by omega,fun hne => ?_⟩,?_⟩
     ·rw [if_neg (by omega),Sh.off_append _ p t0 v l rfl g2,Xc8 hk,X0 (z := z) _ (fun x hx => hz x (List.mem_of_mem_take hx)),List.length_take,Nat.min_eq_left (by omega)]
     ·split
      ·rfl
      ·rw [Addr.add_eq rfl]
 ·exact h.elim
theorem Xsj (hO : OM w ρ ob) {id lo n z : Nat} {p : List Nat} {ys : List D} {vs : List Value} {r : V} {u : Value} (hu : (V.bs id p lo n).rep w ρ u) (hy : D.repL w (own ρ) ys vs) (hz : ∀ y ∈ ys,y.sz = z) (hn : ys.length ≤ n)
  (h : Xxf ob id p lo n z ys r K (lookO ob id)) : ∃ b f cap w' ob',u = .slice (some ⟨b,f,none⟩) n cap ∧ (storeCells ⟨b,f,none⟩ vs).run P w = .ok () w' ∧ Tr w ρ w' ρ ∧ OM w' ρ ob' ∧ K r ob' := by
 unfold Xxf at h
 split at h
 ·rename_i E t hl
  unfold Yds at h
  split at h
  ·rename_i xs hat
   obtain ⟨hle,hxz,hsh,t',hset,hK⟩ := h
   obtain ⟨b,cs,g1,g2,g3⟩ := hO.one id _ hl
   rw [Xjf] at hu
   rcases hu with ⟨b',sh,cap,f,q1,⟨q2,q3⟩,q4⟩ | ⟨q1,_⟩
   case inr => rw [q1] at g1; cases g1
   rw [g1] at q1
   simp only [Option.some.injEq,RO.box.injEq] at q1
   obtain ⟨rfl,rfl⟩ := q1
   obtain ⟨c1,c2,c3,e2,e3,h4⟩ := V.repC_at p t _ cs g3 hat
   simp only [V.repC,D.rep] at h4
   have hvl : vs.length = ys.length * z := by rw [D.repL_len _ _ hy,D.szs_uniform _ hz]
   have hc2 : c2.length = xs.length * z := by rw [D.repL_len _ _ h4,D.szs_uniform _ hxz]
   have tk : ∀ i,i ≤ xs.length → D.szs (xs.take i) = i * z := fun i hi => by
    rw [D.szs_uniform (sz := z) _ (fun y hy => hxz y (List.mem_of_mem_take hy)),List.length_take,Nat.min_eq_left hi]
   have s1 := (D.repL_split xs lo c2 h4).1
   have s2 := (D.repL_split xs (lo + ys.length) c2 h4).2
   rw [tk lo (by omega)] at s1
   rw [tk (lo + ys.length) (by omega)] at s2
   have hnew : D.repL w (own ρ) (X3f lo xs ys) (c2.take (lo * z) ++ (vs ++ c2.drop ((lo + ys.length) * z))) := D.repL_append s1 (D.repL_append hy s2)
   have hlz : (lo + ys.length) * z ≤ c2.length := by rw [hc2]; exact Nat.mul_le_mul_right z (by omega)
   have hlz2 : lo * z + vs.length = (lo + ys.length) * z := by rw [hvl,Nat.add_mul]
   obtain ⟨t'',e4,e5,h6⟩ := V.repC_set p t _ (.d (.agg (X3f lo xs ys))) cs _ g3 hat (by simp only [V.repC,D.rep]; exact hnew) (by simpa only [V.shape] using hsh)
   rw [hset] at e4
   simp only [Option.some.injEq] at e4
   subst e4
   have e7 : cs.take (t.shape.off p) ++ (c2.take (lo * z) ++ (vs ++ c2.drop ((lo + ys.length) * z)) ++ cs.drop (t.shape.off p + (c2.take (lo * z) ++ (vs ++ c2.drop ((lo + ys.length) * z))).length)) = c1 ++ ((c2.take (lo * z) ++ (vs ++ c2.drop ((lo + ys.length) * z))) ++ c3) := by
    have hl2 : (c2.take (lo * z) ++ (vs ++ c2.drop ((lo + ys.length) * z))).length = c2.length := by
     simp only [List.length_append,List.length_take,List.length_drop]; omega
    rw [hl2,← e3,e2,List.take_left,← List.append_assoc c1 c2 c3,← List.length_append,List.drop_left]
   rw [e7] at h6
   by_cases hn0 : n = 0
   ·have hy0 : ys = [] := List.eq_nil_of_length_eq_zero (by omega)
    subst hy0
    have hv0 : vs = [] := List.eq_nil_of_length_eq_zero (by simpa using hvl)
    subst hv0
    have e8 : c1 ++ ((c2.take (lo * z) ++ ([] ++ c2.drop ((lo + ([] : List D).length) * z))) ++ c3) = cs := by rw [e2]; simp
    rw [e8] at h6
    exact ⟨b,f,cap,w,_,q4,by simp [storeCells],Tr.refl _ _,hO.swap hl (x' := .box E t') ⟨b,cs,by rw [e5]; exact g1,g2,h6⟩,hK⟩
   ·have hf := q3 hn0
    have hks : (V.d (.agg xs)).kids = some (xs.map .d) := rfl
    have hoff : t.shape.off (p ++ [lo]) = t.shape.off p + lo * z := by
     rw [Sh.off_append _ p t _ lo rfl hat,Xc8 hks,X0 (z := z) _ (fun x hx => ?_),List.length_take,List.length_map,Nat.min_eq_left (by omega)]
     obtain ⟨y,hy,rfl⟩ := List.mem_map.1 (List.mem_of_mem_take hx)
     simp [V.size,V.shape,D.size_shape,hxz y hy]
    obtain ⟨t1,o1⟩ := write_box hO hl g1 g2 e5 h6
    have hrun := run_storeCells_at (P := P) b (t.shape.off p + lo * z) E vs 0 cs.toArray w g2 (by rw [e2,← e3]; simp; omega) (D.ones ys vs hy)
    refine ⟨b,f,cap,_,_,q4,?_,t1,o1,hK⟩
    rw [hf,hoff,hrun]
    congr 2
    simp only [Nat.add_zero]
    rw [e2,← e3,List.take_length_add_append,Nat.add_assoc,List.drop_length_add_append,hlz2,List.take_append_of_le_length (by omega),List.drop_append_of_le_length hlz]
    simp
  ·exact h.elim
 ·exact h.elim
theorem Xyz (hs : SM w ρ sl a) (hO : OM w ρ ob) {op : Op} {z : Nat} {x y : A} (hc : I.chk P op (.cpy z x y) = true) (h : Ydu z ob K (x.ev sl) (y.ev sl)) : U2 P a w ρ op K Pn := by
 cases op <;> simp only [I.chk,Bool.false_eq_true] at hc
 rename_i c
 obtain ⟨ca,args,ts⟩ := c
 cases ca <;> (try simp only [Bool.false_eq_true] at hc)
 rename_i b
 cases b <;> (try simp only [Bool.false_eq_true] at hc)
 split at hc
 ·rename_i u v t t2 e1 e2
  simp only [Bool.and_eq_true] at hc
  obtain ⟨⟨h0,h1⟩,h2⟩ := hc
  have ea : args = #[u,v] := by simpa using congrArg List.toArray e1
  have et : ts = #[t,t2] := by simpa using congrArg List.toArray e2
  subst ea et
  obtain ⟨e,ht,he,hz0⟩ : ∃ e,P.underlying t = some (.slice e) ∧ X9 P e = some z ∧ z ≠ 0 := by
   revert h0; split <;> simp_all
  have r1 := A.sound hs h1
  have r2 := A.sound hs h2
  unfold Ydu at h
  split at h
  ·rename_i id p lo n z' ys e3 e4
   obtain ⟨rfl,h⟩ := h
   rw [e3] at r1
   rw [e4,Yw] at r2
   have key : ∃ vs,D.repL w (own ρ) (ys.take n) vs ∧ (∀ y ∈ ys.take n,y.sz = z') ∧ (Builtin.lenOf (a.eval v)).run P w = .ok ys.length w ∧ (Builtin.firstCells z' (Nat.min ys.length n) (a.eval v)).run P w = .ok vs.toArray w := by
    rcases r2 with ⟨rfl,r2⟩ | ⟨ad,cap,vs,r2,hcap,hce,hre,hu⟩
    ·exact ⟨[],by simp [D.repL],by simp,by simp [r2,Builtin.lenOf],by simp [r2,Builtin.firstCells]⟩
    ·have s1 := (D.repL_split ys n vs hre).1
     have hvl : vs.length = ys.length * z' := by rw [D.repL_len _ _ hre,D.szs_uniform _ hu]
     have tk : D.szs (ys.take n) = Nat.min ys.length n * z' := by
      rw [D.szs_uniform (sz := z') _ (fun y hy => hu y (List.mem_of_mem_take hy)),List.length_take,Nat.min_comm]
     rw [tk] at s1
     refine ⟨_,s1,fun y hy => hu y (List.mem_of_mem_take hy),by simp [r2,Builtin.lenOf],?_⟩
     have hlen : (vs.take (Nat.min ys.length n * z')).length = Nat.min ys.length n * z' := by
      rw [List.length_take,hvl,Nat.min_eq_left (Nat.mul_le_mul_right z' (Nat.min_le_left _ _))]
     have hl := run_loadCells_list (P := P) (w := w) ad (vs.take (Nat.min ys.length n * z')) (fun j c hj => by
      obtain ⟨hj',e⟩ := List.getElem?_eq_some_iff.1 hj
      have hj2 : j < vs.length := by rw [List.length_take] at hj'; omega
      have hne : vs ≠ [] := by intro h; simp [h] at hj2
      rw [Addr.add_eq (hce.1 hne).1,← e,List.getElem_take]
      exact hce.2 j hj2)
     rw [hlen] at hl
     rw [r2]
     simpa only [Builtin.firstCells] using hl
   obtain ⟨vs,hy,hz,hlen,hfc⟩ := key
   obtain ⟨b,f,cap,w',ob',q1,q2,t1,o1,hK⟩ := Xsj (P := P) hO r1 hy hz (by rw [List.length_take]; omega) h
   refine Xg (v := .int .i64 (Nat.min ys.length n : Nat)) (fun o ho => ?_) hK (X2.2 rfl) o1 t1
   have hcopy : ∀ ty,(Builtin.copy_ #[t,t2] ty #[a.eval u,a.eval v]).run P w = .ok (goInt (Nat.min ys.length n)) w' := by
    intro ty
    unfold Builtin.copy_
    have e0 : (#[t,t2] : Array TypeId)[0]? = some t := rfl
    have ev0 : (#[a.eval u,a.eval v] : Array Value)[0]? = some (a.eval u) := rfl
    have ev1 : (#[a.eval u,a.eval v] : Array Value)[1]? = some (a.eval v) := rfl
    rw [e0,ev0,ev1,q1]
    simp only [Sem.run_bind,Xa ht,Result.andThen_ok,hlen,Xm he,hfc,q2,Sem.run_pure]
   simp only [execOp,ho,resolve,invoke,builtin,Sem.run_bind,Sem.run_pure,Result.andThen_ok,List.map_toArray,List.map_cons,List.map_nil,hcopy]
   rfl
  ·exact h.elim
 ·simp at hc
theorem Xyy (hs : SM w ρ sl a) (hO : OM w ρ ob) {op : Op} {z0 : D} {z : Nat} {x : A} (hc : I.chk P op (.clr z0 z x) = true) (h : Ydt z0 z ob K (x.ev sl)) : U2 P a w ρ op K Pn := by
 cases op <;> simp only [I.chk,Bool.false_eq_true] at hc
 rename_i c
 obtain ⟨ca,args,ts⟩ := c
 cases ca <;> (try simp only [Bool.false_eq_true] at hc)
 rename_i b
 cases b <;> (try simp only [Bool.false_eq_true] at hc)
 split at hc
 ·rename_i u t e1 e2
  simp only [Bool.and_eq_true] at hc
  obtain ⟨h0,h1⟩ := hc
  have ea : args = #[u] := by simpa using congrArg List.toArray e1
  have et : ts = #[t] := by simpa using congrArg List.toArray e2
  subst ea et
  obtain ⟨e,ht,he,hz0,cs,hzt,hzc0⟩ : ∃ e,P.underlying t = some (.slice e) ∧ X9 P e = some z ∧ z ≠ 0 ∧ ∃ cs,Qk P e = some cs ∧ D.isC z0 cs = true := by
   revert h0; split
   ·rename_i e hu
    simp only [Bool.and_eq_true,beq_iff_eq,bne_iff_ne,ne_eq]
    rintro ⟨⟨h2,h3⟩,h4⟩
    refine ⟨e,hu,h2,h3,?_⟩
    cases hz : Qk P e with
    | none => simp [hz] at h4
    | some cs => simp only [hz] at h4; exact ⟨cs,rfl,h4⟩
   ·simp
  obtain ⟨zv,ez,_,hzrun⟩ := Qw hzt
  have r1 := A.sound hs h1
  unfold Ydt at h
  split at h
  ·rename_i id p lo n e3
   rw [e3] at r1
   have e0 : (#[t] : Array TypeId)[0]? = some t := rfl
   have ev0 : (#[a.eval u] : Array Value)[0]? = some (a.eval u) := rfl
   by_cases hn : n = 0
   ·subst hn
    obtain ⟨⟨E,t0,hl⟩,h⟩ := h.1 rfl
    refine Xg (v := .tuple #[]) (fun o ho => ?_) h (rep_tup.2 ⟨[],rfl,rfl⟩) hO (Tr.refl _ _)
    have hclr : ∀ ty,(Builtin.clear_ #[t] ty #[a.eval u]).run P w = .ok (.tuple #[]) w := by
     intro ty
     unfold Builtin.clear_
     rw [e0,ev0]
     rw [Xjf] at r1
     rcases r1 with ⟨b,sh,cap,f,_,_,r1⟩ | ⟨hg,_⟩
     ·rw [r1]
      simp only [Sem.run_bind,Xa ht,Result.andThen_ok,Sem.run_pure]
     ·obtain ⟨b,cs,h5,_⟩ := hO.one id _ hl
      rw [hg] at h5; cases h5
    simp only [execOp,ho,resolve,invoke,builtin,Sem.run_bind,Sem.run_pure,Result.andThen_ok,List.map_toArray,List.map_cons,List.map_nil,hclr]
   ·obtain ⟨⟨hsz,hz1⟩,h⟩ := h.2 hn
    have hrows : ∀ m,D.repL w (own ρ) (List.replicate m z0) (List.replicate m cs).flatten := by
     intro m
     induction m with
     | zero => simp [D.repL]
     | succ m ih => simp only [List.replicate_succ,List.flatten_cons,D.repL]; exact ⟨cs,_,rfl,D.isC_rep z0 cs hzc0,ih⟩
    have hrow := hrows n
    obtain ⟨b,f,cap,w',ob',q1,q2,t1,o1,hK⟩ := Xsj (P := P) hO r1 hrow (fun y hy => by rw [List.eq_of_mem_replicate hy]; exact hsz) (by simp) h
    refine Xg (v := .tuple #[]) (fun o ho => ?_) hK (rep_tup.2 ⟨[],rfl,rfl⟩) o1 t1
    have hclr : ∀ ty,(Builtin.clear_ #[t] ty #[a.eval u]).run P w = .ok (.tuple #[]) w' := by
     intro ty
     unfold Builtin.clear_
     rw [e0,ev0,q1]
     obtain ⟨m,rfl⟩ : ∃ m,n = m + 1 := ⟨n - 1,by omega⟩
     have hzc : (Builtin.zeroCells zv.cells (m + 1)).toList = (List.replicate (m + 1) cs).flatten := by
      have hl1 : cs.length = 1 := by rw [D.rep_len _ _ (D.isC_rep (w := w) (ρ := ρ) z0 cs hzc0),hsz,hz1]
      obtain ⟨c,rfl⟩ := List.length_eq_one_iff.1 hl1
      have ez2 : zv.cells = #[c] := by apply Array.ext'; exact ez
      simp only [Builtin.zeroCells,ez2]
      apply List.ext_getElem
      ·simp
      ·intro i h1 h2
       simp [Nat.mod_one]
     simp only [Sem.run_bind,Xa ht,Result.andThen_ok,hzrun,hzc,q2,Sem.run_pure]
    simp only [execOp,ho,resolve,invoke,builtin,Sem.run_bind,Sem.run_pure,Result.andThen_ok,List.map_toArray,List.map_cons,List.map_nil,hclr]
  ·exact h.elim
 ·simp at hc
theorem Xn1 {P : Prg} (hg : ρ.gl = P.g) (hs : SM w ρ sl a) (hO : OM w ρ ob) {op : Op} {g n z : Nat} {x : D} {i : A} (hc : I.chk P.p op (.gix g n z x i) = true) (h : Xba P g x ∧ Ydz n z (fun v => K v ob) x (i.ev sl)) : X3t P.p a w ρ op ob K := by
 obtain ⟨t,j,e,hop,ht,he,hj⟩ : ∃ t j e,op = .indexAddr t (.global g) j ∧ P.p.underlying t = some (.array n e) ∧ X9 P.p e = some z ∧ A.chk j i = true := by
  simp only [I.chk] at hc
  split at hc
  ·rename_i t hh j
   simp only [Bool.and_eq_true,beq_iff_eq] at hc
   obtain ⟨⟨rfl,h0⟩,h1⟩ := hc
   split at h0
   ·rename_i m e hu
    simp only [Bool.and_eq_true,beq_iff_eq] at h0
    obtain ⟨rfl,h0⟩ := h0
    exact ⟨t,j,e,rfl,hu,h0,h1⟩
   ·cases h0
  ·cases hc
 obtain ⟨⟨cs,T,f,hgl,hx⟩,h⟩ := h
 obtain ⟨hh,hno⟩ := hO.glb g _ (by rw [hg]; exact hgl)
 have hrep : x.rep w (own ρ) cs := D.isC_rep x cs hx
 have hr : (V.d (.ref x)).rep w ρ (.pointer (some ⟨g,0,none⟩)) := Q4.2 ⟨⟨g,0,none⟩,cs,rfl,rfl,⟨fun _ => ⟨rfl,hno,Xl hh⟩,fun i hi => by simp [World.cell?,hh,hi]⟩,hrep⟩
 have r2 := A.sound hs hj
 let a2 : Act := ⟨#[.pointer (some ⟨g,0,none⟩),a.eval j],[]⟩
 have hs2 : SM w ρ [(0,.d (.ref x)),(1,i.ev sl)] a2 := by
  intro k
  simp only [look]
  split
  ·rename_i e; subst e; exact hr
  ·split
   ·rename_i e; subst e; exact r2
   ·exact Xdg
 unfold Ydz at h
 split at h
 ·rename_i xs k m e1
  obtain ⟨hm,hl,hz,hK⟩ := h
  obtain ⟨v,y,hK2,hr2,hrun⟩ := Xfa (P := P.p) (K := fun v => v = V.d (.ref (xs.getD m.toNat default))) (a := a2) (n := n) (z := z) (x := .t 0) (y := .t 1) (op := .indexAddr t (.tmp 0) (.tmp 1)) hs2 hO (by simp [C.chk,ht,he,A.chk]) (by
   have q0 : A.ev [(0,V.d (.ref (.agg xs))),(1,i.ev sl)] (.t 0) = .d (.ref (.agg xs)) := rfl
   have q1 : A.ev [(0,V.d (.ref (.agg xs))),(1,i.ev sl)] (.t 1) = .d (.int k m) := by rw [← e1]; rfl
   rw [q0,q1]; exact ⟨hm,hl,hz,rfl⟩)
  subst hK2
  refine ⟨_,_,w,hK,hr2,Ext.refl w,fun o ho => ?_⟩
  have := hrun ⟨none,.indexAddr t (.tmp 0) (.tmp 1),0, "", #[],none⟩ rfl w (fun _ => Ext.refl w)
  simp only [execOp,Act.eval,a2] at this
  simp only [execOp,ho,hop,Act.eval]
  simpa using this
 ·exact h.elim

theorem I.sound {P : Prg} (hg : ρ.gl = P.g) (hs : SM w ρ sl a) (hO : OM w ρ ob) {op : Op} : ∀ {i : I},i.chk P.p op = true → i.wp P sl ob K Pn → U2 P.p a w ρ op K Pn
 | .c _,hc,h => X9l hs hO hc h
 | .box _ _,hc,h => (Xh6 hs hO hc h).does
 | .alloc _ _,hc,h => (Xcs hO hc h).does
 | .bls _ _ _,hc,h => (Xn0 hs hO hc h).does hO
 | .blo _ _ _ _,hc,h => (Xh4 hs hO hc h).does
 | .st _ _ _,hc,h => X51 hs hO hc h
 | .app _ _ _ _ _,hc,h => Xyv hs hO hc h
 | .appS _ _ _ _,hc,h => Xsx hs hO hc h
 | .call _ _,hc,h => Xsy hg hs hO hc h
 | .pcall _ _,hc,h => (Xcr hg hs hO hc h).does hO
 | .callv _ _,hc,h => Xpv hg hs hO hc h
 | .panic _,hc,h => Xpw hs hO hc h
 | .b2s _,hc,h => Xyx hs hO hc h
 | .s2b _,hc,h => (Xn2 hs hO hc h).does hO
 | .nilo _ _ _,hc,h => Xs0 hs hO hc h
 | .mvf _,hc,h => Xy6 hs hO hc h
 | .ldf _ _ _,hc,h => Xy2 hs hO hc h
 | .mvg _ _ _ _ _,hc,h => Xy7 hs hO hc h
 | .mvn _ _ _,hc,h => Xy8 hs hO hc h
 | .cvb _,hc,h => Xy0 hs hO hc h
 | .ustr _ _ _,hc,h => Xs1 hs hO hc h
 | .mkm _,hc,h => Xy5 hs hO hc h
 | .lkp _ _ _ _ _,hc,h => Xy4 hs hO hc h
 | .mset _ _ _ _,hc,h => Xsz hs hO hc h
 | .gld _ _ _ _,hc,h => Xy1 hg hO hc h
 | .slg _ _ _,hc,h => Xza hs hO hc h
 | .blv _ _ _ _,hc,h => (Xh5 hs hO hc h).does
 | .apv _ _ _ _ _,hc,h => Xyw hs hO hc h
 | .gv _,hc,h => X50 hs hO hc h
 | .ldg _ _ _,hc,h => Xy3 hs hO hc h
 | .slb _ _ _ _ _,hc,h => Xy9 hs hO hc h
 | .cpy _ _ _,hc,h => Xyz hs hO hc h
 | .clr _ _ _,hc,h => Xyy hs hO hc h
 | .gix _ _ _ _ _,hc,h => (Xn1 hg hs hO hc h).does hO

def I.kind : I → Nat
 | .c cc => if cc.isLd then 1 else 0
 | .bls _ _ _ | .s2b _ | .pcall _ _ | .gix _ _ _ _ _ => 2
 | .box _ _ | .alloc _ _ | .blo _ _ _ _ | .blv _ _ _ _ => 4
 | _ => 3

theorem I.soundE {P : Prg} (hg : ρ.gl = P.g) (hs : SM w ρ sl a) (hO : OM w ρ ob) {op : Op} : ∀ {i : I},i.kind = 2 → i.chk P.p op = true → i.wp P sl ob K Pn → Xrf P.p a w ρ op ob K
 | .bls _ _ _,_,hc,h => (Xn0 hs hO hc h).doesE
 | .gix _ _ _ _ _,_,hc,h => (Xn1 hg hs hO hc h).doesE
 | .s2b _,_,hc,h => (Xn2 hs hO hc h).doesE
 | .pcall _ _,_,hc,h => Xcr hg hs hO hc h
 | .c cc,hk,_,_ => by simp only [I.kind] at hk; split at hk <;> cases hk
 | .box _ _,hk,_,_ | .alloc _ _,hk,_,_ | .blo _ _ _ _,hk,_,_ | .st _ _ _,hk,_,_ | .app _ _ _ _ _,hk,_,_ | .appS _ _ _ _,hk,_,_ | .call _ _,hk,_,_ | .callv _ _,hk,_,_ | .panic _,hk,_,_ | .b2s _,hk,_,_ | .nilo _ _ _,hk,_,_ | .mvf _,hk,_,_ | .ldf _ _ _,hk,_,_ | .mvg _ _ _ _ _,hk,_,_ | .mvn _ _ _,hk,_,_ | .cvb _,hk,_,_ | .ustr _ _ _,hk,_,_ | .mkm _,hk,_,_ | .lkp _ _ _ _ _,hk,_,_ | .mset _ _ _ _,hk,_,_ | .gld _ _ _ _,hk,_,_ | .slg _ _ _,hk,_,_ | .blv _ _ _ _,hk,_,_ | .apv _ _ _ _ _,hk,_,_ | .gv _,hk,_,_ | .ldg _ _ _,hk,_,_ | .slb _ _ _ _ _,hk,_,_ | .cpy _ _ _,hk,_,_ | .clr _ _ _,hk,_,_ => by simp [I.kind] at hk
theorem I.soundX (hs : SM w ρ sl a) (hO : OM w ρ ob) {Q : Prg} {op : Op} : ∀ {i : I},i.kind = 4 → i.chk P op = true → i.wp Q sl ob K Pn → Xhs P a w ρ op K
 | .box _ _,_,hc,h => Xh6 hs hO hc h
 | .alloc _ _,_,hc,h => Xcs hO hc h
 | .blo _ _ _ _,_,hc,h => Xh4 hs hO hc h
 | .blv _ _ _ _,_,hc,h => Xh5 hs hO hc h
 | .c cc,hk,_,_ => by simp only [I.kind] at hk; split at hk <;> cases hk
 | .bls _ _ _,hk,_,_ | .s2b _,hk,_,_ | .pcall _ _,hk,_,_ | .st _ _ _,hk,_,_ | .app _ _ _ _ _,hk,_,_ | .appS _ _ _ _,hk,_,_ | .call _ _,hk,_,_ | .callv _ _,hk,_,_ | .panic _,hk,_,_ | .b2s _,hk,_,_ | .nilo _ _ _,hk,_,_ | .mvf _,hk,_,_ | .ldf _ _ _,hk,_,_ | .mvg _ _ _ _ _,hk,_,_ | .mvn _ _ _,hk,_,_ | .cvb _,hk,_,_ | .ustr _ _ _,hk,_,_ | .mkm _,hk,_,_ | .lkp _ _ _ _ _,hk,_,_ | .mset _ _ _ _,hk,_,_ | .gld _ _ _ _,hk,_,_ | .slg _ _ _,hk,_,_ | .apv _ _ _ _ _,hk,_,_ | .gv _,hk,_,_ | .ldg _ _ _,hk,_,_ | .slb _ _ _ _ _,hk,_,_ | .cpy _ _ _,hk,_,_ | .clr _ _ _,hk,_,_ | .gix _ _ _ _ _,hk,_,_ => by simp [I.kind] at hk
end
end Go.Ab
/- Regions that draw their order: which operations may be taken first. Over any program; no condition. -/
namespace Go.Ab
open Go
section
variable {P : Program} {ops : Array Oper} {Q : Exit → Act → World → Prop} {md : Region.Mode} {R : World → World → Prop} {tl : Nat → Bool}

def W7 (P : Program) (md : Region.Mode) (ops : Array Oper) (Q : Exit → Act → World → Prop) (R : World → World → Prop) (tl : Nat → Bool) : Nat → Array Bool → Act → World → Prop
 | 0,listed,a,w => Region.ready md ops listed = [] ∧ Q .normal a w
 | fuel + 1,listed,a,w =>
  (Region.ready md ops listed = [] → Q .normal a w) ∧
  ∀ i ∈ Region.ready md ops listed,wpOp P ops Q i (fun a' w' => (tl i = false → R w w') ∧ W7 P md ops Q R tl fuel (listed.setIfInBounds i true) a' w') a w

theorem Xa8 : ∀ (fuel : Nat) (listed : Array Bool) (a : Act) (w : World),W7 P md ops Q R tl fuel listed a w → wpAny P md ops Q fuel listed a w
 | 0,_,_,_,h => h
 | fuel + 1,_,_,_,h => ⟨h.1,fun i hi => wpOp_mono (fun a' w' h' => Xa8 fuel _ a' w' h'.2) (h.2 i hi)⟩

def Xa9 (md : Region.Mode) (ops : Array Oper) (listed : Array Bool) : Prop :=
 ∀ k o,ops[k]? = some o → listed.getD k false = true → ∀ e ∈ o.after,Region.binds md e = true → listed.getD e.on false = true

theorem Xa9.step {listed : Array Bool} (h : Xa9 md ops listed) {j : Nat} (hj : j ∈ Region.ready md ops listed) : Xa9 md ops (listed.setIfInBounds j true) := by
 obtain ⟨_,oj,hoj,hall⟩ := mem_ready.1 hj
 intro k o hk hl e he hb
 by_cases hjk : j = k
 ·subst hjk
  rw [hoj] at hk; simp at hk; subst hk
  exact getD_set_true (hall e he hb)
 ·rw [getD_set_ne false hjk] at hl
  exact getD_set_true (h k o hk hl e he hb)

def Xbz (md : Region.Mode) (ops : Array Oper) (i : Nat) : Nat → Nat → Bool
 | 0,_ => false
 | fuel + 1,j => match ops[j]? with
  | some o => o.after.any fun e => Region.binds md e && (e.on == i || Xbz md ops i fuel e.on)
  | none => false

theorem Xbr {listed : Array Bool} (hc : Xa9 md ops listed) {i : Nat} : ∀ (fuel k : Nat),Xbz md ops i fuel k = true → listed.getD k false = true → listed.getD i false = true
 | 0,k,h,_ => by simp [Xbz] at h
 | fuel + 1,k,h,hl => by
  simp only [Xbz] at h
  split at h
  ·rename_i o ho
   rw [Array.any_eq_true'] at h
   obtain ⟨e,he,h⟩ := h
   simp only [Bool.and_eq_true,Bool.or_eq_true,beq_iff_eq] at h
   have h1 := hc k o ho hl e he h.1
   rcases h.2 with h2 | h2
   ·rw [← h2]; exact h1
   ·exact Xbr hc fuel e.on h2 h1
  ·simp at h

theorem J7 {listed : Array Bool} (hc : Xa9 md ops listed) {i j fuel : Nat} (hi : listed.getD i true = false) (h : Xbz md ops i fuel j = true) : j ∉ Region.ready md ops listed := by
 intro hj
 obtain ⟨_,o,ho,hall⟩ := mem_ready.1 hj
 cases fuel with
 | zero => simp [Xbz] at h
 | succ fuel =>
  simp only [Xbz,ho] at h
  rw [Array.any_eq_true'] at h
  obtain ⟨e,he,h⟩ := h
  simp only [Bool.and_eq_true,Bool.or_eq_true,beq_iff_eq] at h
  have h1 := hall e he h.1
  have hli : listed.getD i false = true := by
   rcases h.2 with h2 | h2
   ·rw [← h2]; exact h1
   ·exact Xbr hc fuel e.on h2 h1
  rcases Nat.lt_or_ge i listed.size with h' | h'
  ·simp [h'] at hi hli; rw [hi] at hli; cases hli
  ·simp [Array.getElem?_eq_none h'] at hli

theorem Xq8 {S S' : World → Prop} {o : Oper} {v : Value} {a : Act} (h : YieldsIf P ops S o v a) (hs : ∀ w,S' w → S w) : YieldsIf P ops S' o v a :=
 h.imp (fun ⟨h1,h2⟩ => ⟨h1,fun w hw => h2 w (hs w hw)⟩) id

theorem Vh (hrefl : ∀ w,R w w) (htrans : ∀ u v w,R u v → R v w → R u w) {l : Bool} {i : Nat} {oi : Oper} {v : Value} (hi : ops[i]? = some oi) (hsel : ∀ (j : Nat) (o : Oper) cs b,ops[j]? = some o → o.op ≠ .select cs b)
  (hQ : ∀ c a w,Q (.panic c) (a.put oi.dst v) w → Q (.panic c) a w) (hl : l = true → ∀ j,j < ops.size → tl j = true → j ≠ i → ∃ fuel,Xbz md ops i fuel j = true) :
  ∀ (fuel : Nat) (listed : Array Bool) (a : Act) (w : World),Xa9 md ops listed →
   (∀ j oj,ops[j]? = some oj → j ≠ i → listed.getD j true = false → (∀ e ∈ oj.after,Region.binds md e = true → e.on ≠ i) → oi.apart ops oj = true) →
   i ∈ Region.ready md ops listed → YieldsIf P ops (fun w' => l = true → R w w') oi v a →
   W7 P md ops Q R tl fuel (listed.setIfInBounds i true) (a.put oi.dst v) w → W7 P md ops Q R tl (fuel + 1) listed a w := by
 intro fuel
 induction fuel with
 | zero =>
  intro listed a w _ _ hr hy H
  refine ⟨fun h => (by rw [h] at hr; cases hr),fun j hj => ?_⟩
  by_cases hji : j = i
  ·subst hji; exact hy.wpOp hi (fun _ => hrefl w) ⟨fun _ => hrefl w,H⟩
  ·have := ready_mono hj hji
   rw [H.1] at this
   cases this
 | succ fuel ih =>
  intro listed a w hcl hfree hr hy H
  refine ⟨fun h => (by rw [h] at hr; cases hr),fun j hj => ?_⟩
  by_cases hji : j = i
  ·subst hji; exact hy.wpOp hi (fun _ => hrefl w) ⟨fun _ => hrefl w,H⟩
  ·have h1 := H.2 j (ready_mono hj hji)
   obtain ⟨hjun,oj,hoj,hall⟩ := mem_ready.1 hj
   have hiun := (mem_ready.1 hr).1
   have hnot : ∀ e ∈ oj.after,Region.binds md e = true → e.on ≠ i := fun e he hb heq => by
    have h1 := hall e he hb
    rw [heq] at h1
    rcases Nat.lt_or_ge i listed.size with h' | h'
    ·simp [h'] at hiun h1; rw [hiun] at h1; cases h1
    ·simp [Array.getElem?_eq_none h'] at h1
   have h2 := wpOp_putIf hoj (hfree j oj hoj hji hjun hnot) (fun cs b => hsel i oi cs b hi) (fun cs b => hsel j oj cs b hoj) hQ hy h1
   have hfree' : ∀ k ok,ops[k]? = some ok → k ≠ i → (listed.setIfInBounds j true).getD k true = false →
     (∀ e ∈ ok.after,Region.binds md e = true → e.on ≠ i) → oi.apart ops ok = true := fun k ok hk hki hun hno => by
    refine hfree k ok hk hki ?_ hno
    by_cases hjk : j = k
    ·subst hjk; exact hjun
    ·rw [getD_set_ne true hjk] at hun; exact hun
   refine wpOp_mono (fun a' w' h3 => ⟨h3.2.1,ih (listed.setIfInBounds j true) a' w' (hcl.step hj) hfree' (ready_mono hr (Ne.symm hji)) (Xq8 h3.1 fun w'' h4 h5 => ?_) ?_⟩) h2
   ·have hR : R w w' := by
     refine h3.2.1 ?_
     cases ht : tl j with
     | false => rfl
     | true =>
      obtain ⟨fl,hw⟩ := hl h5 j (Array.getElem?_eq_some_iff.1 hoj).1 ht hji
      exact absurd hj (J7 hcl hiun hw)
    exact htrans _ _ _ hR (h4 h5)
   ·rw [Array.setIfInBounds_comm _ _ hji]
    exact h3.2.2
end
end Go.Ab
/- Statements X3f abstract states, and that what is shown of them holds of the program's code. Over any program; no condition. -/
namespace Go.Ab
open Go

def put (sl : Xb) (d : Option Nat) (v : V) : Xb := match d with
  | some k => (k,v) :: sl
  | none => sl

inductive It where
  | op (d : Option Nat) (i : I)
  | gop (s : Nat) (want : Bool) (d : Option Nat) (i : I)

def gdK (s : Nat) (want : Bool) (sl : Xb) (Y N : Xb → Prop) : V → Prop
  | .d (.bool b) => (b = want → Y ((s,.d (.bool want)) :: sl)) ∧ (b = !want → N ((s,.d (.bool (!want))) :: sl))
  | .undef => N sl
  | _ => False

def rwp (P : Prg) (K : Xb → Objs → Prop) (Pn : V → Xb → Objs → Prop) : List It → Xb → Objs → Prop
  | [],sl,ob => K sl ob
  | .op d i :: r,sl,ob => i.wp P sl ob (fun v ob' => rwp P K Pn r (put sl d v) ob') (fun v ob' => Pn v sl ob')
  | .gop s want d i :: r,sl,ob => gdK s want sl (fun sl => i.wp P sl ob (fun v ob' => rwp P K Pn r (put sl d v) ob') (fun v ob' => Pn v sl ob')) (fun sl => rwp P K Pn r (put sl d .undef) ob) (look sl s)

mutual
inductive Ot where
  | done
  | one (i : Nat) (x : It) (r : Ot)
  | br (l : Ots)
inductive Ots where
  | nil
  | cons (i : Nat) (x : It) (r : Ot) (l : Ots)
end
def itK (P : Prg) (next : Xb → Objs → Prop) (Pn : V → Xb → Objs → Prop) : It → Xb → Objs → Prop
  | .op d i,sl,ob => i.wp P sl ob (fun v ob' => next (put sl d v) ob') (fun v ob' => Pn v sl ob')
  | .gop s want d i,sl,ob => gdK s want sl (fun sl => i.wp P sl ob (fun v ob' => next (put sl d v) ob') (fun v ob' => Pn v sl ob')) (fun sl => next (put sl d .undef) ob) (look sl s)
mutual
def owp (P : Prg) (K : Xb → Objs → Prop) (Pn : V → Xb → Objs → Prop) : Ot → Xb → Objs → Prop
  | .done,sl,ob => K sl ob
  | .one _ x r,sl,ob => itK P (owp P K Pn r) Pn x sl ob
  | .br l,sl,ob => Xhr P K Pn l sl ob
def Xhr (P : Prg) (K : Xb → Objs → Prop) (Pn : V → Xb → Objs → Prop) : Ots → Xb → Objs → Prop
  | .nil,_,_ => True
  | .cons _ x r l,sl,ob => itK P (owp P K Pn r) Pn x sl ob ∧ Xhr P K Pn l sl ob
end

inductive S where
  | rg (ord : List Nat) (l : List It) (keep pk : List Nat)
  | rgT (n : Nat) (t : Ot) (keep pk : List Nat)
  | seq (a b : S)
  | skip
  | cond (c : A) (a b : S)
  | block (n : Nat) (a : S)
  | loop (keep : List Nat) (a : S)
  | exit (n : Nat)
  | ret

inductive AExit where
  | normal
  | exit (n : Nat)
  | ret
  | panic (v : V)

abbrev Vp := AExit → Xb → Objs → Prop

def Vb (next : Xb → Objs → Prop) (Q : Vp) : Vp
  | .normal,sl,ob => next sl ob
  | .exit n,sl,ob => Q (.exit n) sl ob
  | .ret,sl,ob => Q .ret sl ob
  | .panic v,sl,ob => Q (.panic v) sl ob
def Zs (id : Nat) (Q : Vp) : Vp
  | .normal,sl,ob => Q .normal sl ob
  | .exit n,sl,ob => if n = id then Q .normal sl ob else Q (.exit n) sl ob
  | .ret,sl,ob => Q .ret sl ob
  | .panic v,sl,ob => Q (.panic v) sl ob
def Xaq (Y N : Prop) : V → Prop
  | .d (.bool t) => (t = true → Y) ∧ (t = false → N)
  | _ => False
def Xd (sl : Xb) : List Nat → Xb
  | [] => []
  | k :: r => (k,look sl k) :: Xd sl r

mutual
def V.men (ids : Nat → Bool) : V → Bool
  | .ptr id _ => ids id
  | .sl id _ => ids id
  | .sd id _ => ids id
  | .mp id => ids id
  | .ep id _ _ _ _ _ => ids id
  | .bs id _ _ _ => ids id
  | .fn _ a b => V.mens ids a || V.mens ids b
  | .agg xs => V.mens ids xs
  | .iface _ v => V.men ids v
  | .tup xs => V.mens ids xs
  | _ => false
def V.mens (ids : Nat → Bool) : List V → Bool
  | [] => false
  | x :: r => V.men ids x || V.mens ids r
end
def Xw (ids : Nat → Bool) : Objs → Objs
  | [] => []
  | (j,x) :: r => if ids j then Xw ids r else (j,x) :: Xw ids r
def Ur (ids : Nat → Bool) : Xb → Bool
  | [] => true
  | (_,v) :: r => !V.men ids v && Ur ids r
def Jb (ids : Nat → Bool) : List (D × V) → Bool
  | [] => false
  | (_,v) :: r => V.men ids v || Jb ids r
def noMenO (ids : Nat → Bool) : Objs → Bool
  | [] => true
  | (_,.box _ t) :: r => !V.men ids t && noMenO ids r
  | (_,.vec _ _ xs) :: r => !V.mens ids xs && noMenO ids r
  | (_,.map es) :: r => !Jb ids es && noMenO ids r
  | _ :: r => noMenO ids r
def young (n : Nat) (kp : List Nat) (id : Nat) : Bool := decide (n ≤ id) && !kp.contains id
def sub (keep : List Nat) (n : Nat) (K : Xb → Objs → Prop) (sl : Xb) (ob : Objs) : Prop :=
  ∃ kp : List Nat,Ur (young n kp) (Xd sl keep) = true ∧ noMenO (young n kp) (Xw (young n kp) ob) = true ∧ K (Xd sl keep) (Xw (young n kp) ob)

structure ALoop (keep : List Nat) (body : Vp → Xb → Objs → Prop) (Q : Vp) (sl : Xb) (ob : Objs) : Prop where
  run : ∃ (ι : Type) (S : ι → Xb) (O : ι → Objs) (I : ι → Prop) (μ : ι → Nat) (i0 : ι),I i0 ∧ Xd sl keep = S i0 ∧ ob = O i0 ∧
    ∀ i,I i → body (Vb (sub keep (fresh (O i)) fun sl' ob' => ∃ j,I j ∧ μ j < μ i ∧ sl' = S j ∧ ob' = O j) Q) (S i) (O i)

def cwp (P : Prg) : S → Vp → Xb → Objs → Prop
  | .rg _ l keep pk,Q,sl,ob => rwp P (fun sl ob => Q .normal (Xd sl keep) ob) (fun v sl ob => Q (.panic v) (Xd sl pk) ob) l sl ob
  | .rgT _ t keep pk,Q,sl,ob => owp P (fun sl ob => Q .normal (Xd sl keep) ob) (fun v sl ob => Q (.panic v) (Xd sl pk) ob) t sl ob
  | .seq a b,Q,sl,ob => cwp P a (Vb (cwp P b Q) Q) sl ob
  | .skip,Q,sl,ob => Q .normal sl ob
  | .cond c a b,Q,sl,ob => Xaq (cwp P a Q sl ob) (cwp P b Q sl ob) (c.ev sl)
  | .block n a,Q,sl,ob => cwp P a (Zs n Q) sl ob
  | .loop keep a,Q,sl,ob => ALoop keep (cwp P a) Q sl ob
  | .exit n,Q,sl,ob => Q (.exit n) sl ob
  | .ret,Q,sl,ob => Q .ret sl ob


def Xat (N : Nat) : Option Nat → Option Nat → Bool
  | some k,some j => k == j && decide (k < N)
  | none,none => true
  | _,_ => false

def It.chk (P : Program) (N : Nat) (ops : Array Oper) (o : Oper) : It → Bool
  | .op d i => Xat N o.dst d && o.guard.isNone && i.chk P o.op
  | .gop s want d i => Xat N o.dst d && (match o.guard with
    | some (j,b) => b == want && (match ops[j]? with | some o' => o'.dst == some s | none => false)
    | none => false) && i.chk P o.op

def Wn (P : Program) (N : Nat) (ops : Array Oper) : List Oper → List It → Bool
  | [],[] => true
  | o :: r,i :: s => i.chk P N ops o && Wn P N ops r s
  | _,_ => false

def It.kind : It → Nat
  | .op _ i => i.kind
  | .gop _ _ _ i => i.kind
def X1r : List Nat → List It → Nat → Nat
  | i :: r,x :: s,j => if i = j then x.kind else X1r r s j
  | _,_,_ => 3
def Xki (P : Program) (N : Nat) (ops : Array Oper) (kd : Nat → Nat) (listed : Array Bool) : List Nat → List It → Bool
  | [],[] => (Region.ready .any ops listed).isEmpty
  | i :: r,x :: s => (Region.ready .any ops listed).contains i && (match ops[i]? with | some o => x.chk P N ops o | none => false) && x.kind == kd i &&
      (match x.kind with
        | 0 => Region.free .any ops listed i
        | 1 => Region.free .any ops listed i && (List.range ops.size).all (fun j => kd j != 3 || j == i || Xbz .any ops i ops.size j)
        | _ => (Region.ready .any ops listed) == [i]) &&
      Xki P N ops kd (listed.setIfInBounds i true) r s
  | _,_ => false
mutual
def Ot.kinds : Ot → List (Nat × Nat)
  | .done => []
  | .one i x r => (i,x.kind) :: r.kinds
  | .br l => l.kinds
def Ots.kinds : Ots → List (Nat × Nat)
  | .nil => []
  | .cons i x r l => (i,x.kind) :: (r.kinds ++ l.kinds)
end
def X1s : List (Nat × Nat) → Nat → Nat
  | [],_ => 3
  | (i,k) :: r,j => if i = j then k else X1s r j
def Ots.has (j : Nat) : Ots → Bool
  | .nil => false
  | .cons i _ _ l => i == j || l.has j
mutual
def Un (P : Program) (N : Nat) (ops : Array Oper) (kd : Nat → Nat) : Nat → Array Bool → Ot → Bool
  | 0,listed,.done => (Region.ready .any ops listed).isEmpty
  | n + 1,listed,.one i x r => (Region.ready .any ops listed).contains i && (match ops[i]? with | some o => x.chk P N ops o | none => false) && x.kind == kd i &&
      (match x.kind with
        | 0 => Region.free .any ops listed i
        | 1 => Region.free .any ops listed i && (List.range ops.size).all (fun j => kd j != 3 || j == i || Xbz .any ops i ops.size j)
        | _ => (Region.ready .any ops listed) == [i]) &&
      Un P N ops kd n (listed.setIfInBounds i true) r
  | n + 1,listed,.br l => !(Region.ready .any ops listed).isEmpty && (Region.ready .any ops listed).all (fun j => l.has j) && Xfk P N ops kd n listed l
  | _,_,_ => false
def Xfk (P : Program) (N : Nat) (ops : Array Oper) (kd : Nat → Nat) : Nat → Array Bool → Ots → Bool
  | _,_,.nil => true
  | n,listed,.cons i x r l => (Region.ready .any ops listed).contains i && (match ops[i]? with | some o => x.chk P N ops o | none => false) && x.kind == kd i && Un P N ops kd n (listed.setIfInBounds i true) r && Xfk P N ops kd n listed l
end
def Xb3 (pk : List Nat) (ops : Array Oper) : Bool := ops.toList.all fun o => match o.dst with
  | some d => !pk.contains d
  | none => true

def S.chk (P : Program) (N : Nat) : Code → S → Bool
  | .skip,.skip => true
  | .region _ ops draw,.rg ord l _ pk => if draw then decide (ord.length ≤ ops.size) && Region.noSelect ops && Xb3 pk ops && Xki P N ops (X1r ord l) (Array.replicate ops.size false) ord l else Wn P N ops ops.toList l
  | .region _ ops draw,.rgT n t _ pk => draw && decide (n ≤ ops.size) && Region.noSelect ops && Xb3 pk ops && Un P N ops (X1s t.kinds) n (Array.replicate ops.size false) t
  | .seq a b,.seq x y => S.chk P N a x && S.chk P N b y
  | .cond c a b,.cond d x y => A.chk c d && S.chk P N a x && S.chk P N b y
  | .block n a,.block m x => n == m && S.chk P N a x
  | .loop a,.loop _ x => S.chk P N a x
  | .exit n,.exit m => n == m
  | .ret,.ret => true
  | _,_ => false


structure Ctx where
  w0 : World
  ex : Nat → Prop
  N : Nat
  df : List Deferred
  g : Nat → Option Obj
  m0 : Nat → Option RO
  ev : List (V × Value)

structure Base (c : Ctx) (w : World) (ρ : Env) : Prop where
  size : c.w0.heap.size ≤ w.heap.size
  keep : ∀ b,b < c.w0.heap.size → ¬ c.ex b → w.heap[b]? = c.w0.heap[b]?
  owns : ∀ b,Xo3 ρ b → c.w0.heap.size ≤ b ∨ c.ex b
  tape : w.tape = c.w0.tape
  os : w.os = c.w0.os
  out : w.output = c.w0.output
  same : ∀ id o,c.m0 id = some o → ∃ o',ρ.m id = some o' ∧ o.le o'
  ext : ∀ p ∈ c.ev,p.1.rep w ρ p.2

theorem Base.tr {c : Ctx} {w w' : World} {ρ ρ' : Env} (h : Base c w ρ) (t : Tr w ρ w' ρ') : Base c w' ρ' := by
  refine ⟨Nat.le_trans h.size t.size,fun b h1 h2 => ?_,fun b h1 => ?_,t.tape.trans h.tape,t.os.trans h.os,t.out.trans h.out,fun id o h1 => ?_,fun p hp => V.rep_tr t (h.ext p hp)⟩
  · refine (t.keep b (fun h3 => ?_) (Nat.lt_of_lt_of_le h1 h.size)).trans (h.keep b h1 h2)
    exact (h.owns b h3).elim (fun h => by omega) h2
  · rcases t.owns b h1 with h3 | h3
    · exact h.owns b h3
    · exact .inl (Nat.le_trans h.size h3)
  · obtain ⟨o',h2,h3⟩ := h.same id o h1
    obtain ⟨o'',h4,h5⟩ := t.same id o' h2
    exact ⟨o'',h4,h3.trans h5⟩

structure Mod (c : Ctx) (xo : Nat → Prop) (ρ : Env) (sl : Xb) (ob : Objs) (a : Act) (w : World) : Prop where
  base : Base c w ρ
  om : OM w ρ ob
  sm : SM w ρ sl a
  size : a.tmps.size = c.N
  df : a.defers = c.df
  xo : ρ.xo = xo
  gl : ρ.gl = c.g

def exM (w : World) (ρ : Env) : Exit → AExit → Prop
  | .normal,.normal => True
  | .exit n,.exit m => n = m
  | .ret,.ret => True
  | .panic ch,.panic v => ∃ u,ch = [{ v := u,recovered := false }] ∧ v.rep w ρ u
  | _,_ => False

def lift (c : Ctx) (xo : Nat → Prop) (Q : Vp) : Exit → Act → World → Prop :=
  fun e a w => ∃ ae sl ob ρ,Q ae sl ob ∧ exM w ρ e ae ∧ Mod c xo ρ sl ob a w

theorem Xk {w : World} {ρ : Env} {sl : Xb} {a : Act} {d : Option Nat} {x : V} {v : Value} {N : Nat} {o : Option Nat} (hd : Xat N o d = true) (hN : a.tmps.size = N) (hs : SM w ρ sl a) (hx : x.rep w ρ v) :
    SM w ρ (put sl d x) (a.put o v) ∧ (a.put o v).tmps.size = N ∧ (a.put o v).defers = a.defers := by
  cases o with
  | none =>
    cases d with
    | none => exact ⟨hs,hN,rfl⟩
    | some j => simp [Xat] at hd
  | some k =>
    cases d with
    | none => simp [Xat] at hd
    | some j =>
      simp only [Xat,Bool.and_eq_true,beq_iff_eq,decide_eq_true_eq] at hd
      obtain ⟨rfl,hk⟩ := hd
      refine ⟨fun i => ?_,by simpa [Act.put] using hN,rfl⟩
      simp only [put,look,Act.put]
      split
      · rename_i e; subst e
        have : k < a.tmps.size := by omega
        simpa [this] using hx
      · rename_i e
        have := hs i
        simpa [Array.getElem?_setIfInBounds,e] using this

theorem Xj0 {ops : Array Oper} {a : Act} {j s : Nat} {o' : Oper} {b : Bool} (h1 : ops[j]? = some o') (h2 : o'.dst = some s) (h3 : a.tmps.getD s undef = .bool b) : yielded ops a.tmps j = some b := by
  have hs : s < a.tmps.size := by
    rcases Nat.lt_or_ge s a.tmps.size with h | h
    · exact h
    · simp [Array.getD,Nat.not_lt.2 h,undef] at h3
  simp only [Array.getD,hs,dif_pos] at h3
  have : a.tmps[s]? = some (.bool b) := by rw [Array.getElem?_eq_getElem hs]; exact congrArg some h3
  simp [yielded,h1,h2,this]

theorem Xhm {ops : Array Oper} {a : Act} {j s : Nat} {o' : Oper} (h1 : ops[j]? = some o') (h2 : o'.dst = some s) (h3 : a.tmps.getD s undef = undef) : yielded ops a.tmps j = none := by
  rcases Nat.lt_or_ge s a.tmps.size with hs | hs
  · simp only [Array.getD,hs,dif_pos] at h3
    have : a.tmps[s]? = some (.tuple #[]) := by rw [Array.getElem?_eq_getElem hs]; exact congrArg some h3
    simp [yielded,h1,h2,this]
  · have : a.tmps[s]? = none := Array.getElem?_eq_none hs
    simp [yielded,h1,h2,this]

theorem Z0 {w : World} {ρ : Env} {sl : Xb} {a : Act} {ops : Array Oper} {o : Oper} {s : Nat} {want : Bool} {Y N : Xb → Prop} (hs : SM w ρ sl a)
    (hg : (match o.guard with | some (j,b) => b == want && (match ops[j]? with | some o' => o'.dst == some s | none => false) | none => false) = true)
    (h : gdK s want sl Y N (look sl s)) :
    (Region.wanted o (yielded ops a.tmps) = true ∧ ∃ sl',SM w ρ sl' a ∧ Y sl') ∨ (Region.wanted o (yielded ops a.tmps) = false ∧ ∃ sl',SM w ρ sl' a ∧ N sl') := by
  split at hg
  · rename_i j b hj
    simp only [Bool.and_eq_true,beq_iff_eq] at hg
    obtain ⟨rfl,hg⟩ := hg
    split at hg
    · rename_i o' ho
      have hd : o'.dst = some s := by simpa using hg
      have hv := hs s
      have key : ∀ c : Bool,a.tmps.getD s undef = .bool c → SM w ρ ((s,.d (.bool c)) :: sl) a := fun c hc k => by
        simp only [look]
        split
        · rename_i e; subst e; rw [hc]; exact rep_bool.2 rfl
        · exact hs k
      unfold gdK at h
      split at h
      · rename_i c e
        rw [e,rep_bool] at hv
        have hy := Xj0 (a := a) ho hd hv
        by_cases hcb : c = b
        · subst hcb
          exact .inl ⟨by simp [Region.wanted,hj,hy],_,key c hv,h.1 rfl⟩
        · have hcn : c = !b := by cases c <;> cases b <;> simp_all
          subst hcn
          exact .inr ⟨by simp [Region.wanted,hj,hy],_,key _ hv,h.2 rfl⟩
      · rename_i e
        rw [e,Zw] at hv
        have hy := Xhm (a := a) ho hd hv
        exact .inr ⟨by simp [Region.wanted,hj,hy],_,hs,h⟩
      · exact h.elim
    · simp at hg
  · simp at hg

theorem Xa0 {P : Prg} {c : Ctx} (hg : P.g = c.g) {xo : Nat → Prop} {ops : Array Oper} {Q : Exit → Act → World → Prop} {K : Xb → Objs → Prop} {Pn : V → Xb → Objs → Prop}
    (hK : ∀ sl ob ρ a w,K sl ob → Mod c xo ρ sl ob a w → Q .normal a w)
    (hP : ∀ v sl ob ρ a w u,Pn v sl ob → Mod c xo ρ sl ob a w → v.rep w ρ u → Q (.panic [{ v := u,recovered := false }]) a w) :
    ∀ (l : List Oper) (its : List It) (sl : Xb) (ob : Objs) (ρ : Env) (a : Act) (w : World),Wn P.p c.N ops l its = true → rwp P K Pn its sl ob → Mod c xo ρ sl ob a w → wpList P.p ops Q l a w
  | [],[],sl,ob,ρ,a,w,_,h,m => by simp only [wpList]; exact hK sl ob ρ a w h m
  | o :: r,i :: s,sl,ob,ρ,a,w,hc,h,m => by
    simp only [Wn,Bool.and_eq_true] at hc
    obtain ⟨h1,h2⟩ := hc
    have step : ∀ (d : Option Nat) (x : I) (sl : Xb),SM w ρ sl a → Xat c.N o.dst d = true → x.chk P.p o.op = true → x.wp P sl ob (fun v ob' => rwp P K Pn s (put sl d v) ob') (fun v ob' => Pn v sl ob') → o.wp P.p a w (wpList P.p ops Q r) Q := by
      intro d x sl hs hd hx hw
      refine I.sound (m.gl.trans hg.symm) hs m.om hx hw o rfl _ _ (fun v y ob' w' ρ' hk hr ho t => ?_) (fun u y ob' w' ρ' hk hr ho t => ?_)
      · obtain ⟨g1,g2,g3⟩ := Xk hd m.size (hs.tr t) hr
        exact Xa0 hg hK hP r s _ ob' ρ' _ w' h2 hk ⟨m.base.tr t,ho,g1,g2,g3.trans m.df,t.xo.trans m.xo,t.gl.trans m.gl⟩
      · exact hP y sl ob' ρ' a w' u hk ⟨m.base.tr t,ho,hs.tr t,m.size,m.df,t.xo.trans m.xo,t.gl.trans m.gl⟩ hr
    cases i with
    | op d x =>
      simp only [It.chk,Bool.and_eq_true,Option.isNone_iff_eq_none] at h1
      simp only [rwp] at h
      simp only [wpList,Region.wanted,h1.1.2,if_true]
      exact .inl (step d x sl m.sm h1.1.1 h1.2 h)
    | gop g want d x =>
      simp only [It.chk,Bool.and_eq_true] at h1
      simp only [rwp] at h
      simp only [wpList]
      rcases Z0 (ops := ops) m.sm h1.1.2 h with ⟨hw,sl',hs,h⟩ | ⟨hw,sl',hs,h⟩
      · rw [if_pos hw]
        exact .inl (step d x sl' hs h1.1.1 h1.2 h)
      · rw [hw]
        simp only [Bool.false_eq_true,if_false]
        obtain ⟨g1,g2,g3⟩ := Xk h1.1.1 m.size hs (Zw.2 rfl)
        exact Xa0 hg hK hP r s _ ob ρ _ w h2 h ⟨m.base,m.om,g1,g2,g3.trans m.df,m.xo,m.gl⟩
  | [],_ :: _,_,_,_,_,_,hc,_,_ => by simp [Wn] at hc
  | _ :: _,[],_,_,_,_,_,hc,_,_ => by simp [Wn] at hc

theorem SM.keep {w : World} {ρ : Env} {sl : Xb} {a : Act} (hs : SM w ρ sl a) (l : List Nat) : SM w ρ (Xd sl l) a := by
  intro k
  induction l with
  | nil => exact Xdg
  | cons j r ih =>
    simp only [Xd,look]
    split
    · rename_i e; subst e; exact hs j
    · exact ih

def Env.del (ρ : Env) (ids : Nat → Bool) : Env := ⟨fun j => if ids j then none else ρ.m j,ρ.xo,ρ.gl⟩

theorem Qp {ρ : Env} {ids : Nat → Bool} {b : Nat} (h : Xo3 (ρ.del ids) b) : Xo3 ρ b := by
  obtain ⟨j,o,h1,h2⟩ := h
  simp only [Env.del] at h1
  split at h1
  · cases h1
  · exact ⟨j,o,h1,h2⟩

theorem Xfm (w : World) (ρ : Env) (ids : Nat → Bool) : Xhn w (own ρ) w (own (ρ.del ids)) := fun _ h _ =>
  ⟨rfl,fun h' => h (h'.elim (fun h => .inl (Qp h)) .inr)⟩

mutual
theorem V.repC_del {w : World} {ρ : Env} {ids : Nat → Bool} : ∀ (x : V) (cs : List Value),V.men ids x = false → x.repC w ρ cs → x.repC w (ρ.del ids) cs
  | .d x,cs,_,h => by simp only [V.repC] at h ⊢; exact D.rep_mono (Xfm w ρ ids) x cs h
  | .ptr id p,cs,hm,h => by
    simp only [V.repC] at h ⊢
    simp only [V.men] at hm
    rcases h with ⟨b,sh,h1,h2⟩ | ⟨h1,h2⟩
    · exact .inl ⟨b,sh,by simp only [Env.del,hm]; exact h1,h2⟩
    · exact .inr ⟨by simp only [Env.del,hm]; exact h1,h2⟩
  | .sl id n,cs,hm,h => by
    simp only [V.repC] at h ⊢
    simp only [V.men] at hm
    obtain ⟨o,u,h1,h2⟩ := h
    exact ⟨o,u,by simp only [Env.del,hm]; exact h1,h2⟩
  | .sd id n,cs,hm,h => by
    simp only [V.repC] at h ⊢
    simp only [V.men] at hm
    obtain ⟨o,u,h1,h2⟩ := h
    exact ⟨o,u,by simp only [Env.del,hm]; exact h1,h2⟩
  | .mp id,cs,hm,h => by
    simp only [V.repC] at h ⊢
    simp only [V.men] at hm
    rcases h with ⟨b,h1,h2⟩ | ⟨h1,h2⟩
    · exact .inl ⟨b,by simp only [Env.del,hm]; exact h1,h2⟩
    · exact .inr ⟨by simp only [Env.del,hm]; exact h1,h2⟩
  | .bs id p lo n,cs,hm,h => by
    simp only [V.repC] at h ⊢
    simp only [V.men] at hm
    rcases h with ⟨b,sh,cap,f,h1,h2⟩ | ⟨h1,h2⟩
    · exact .inl ⟨b,sh,cap,f,by simp only [Env.del,hm]; exact h1,h2⟩
    · exact .inr ⟨by simp only [Env.del,hm]; exact h1,h2⟩
  | .ep id n z i f p,cs,hm,h => by
    simp only [V.repC] at h ⊢
    simp only [V.men] at hm
    obtain ⟨o,u,h1,h2⟩ := h
    exact ⟨o,u,by simp only [Env.del,hm]; exact h1,h2⟩
  | .fn f fi ca,cs,hm,h => by
    simp only [V.repC] at h ⊢
    simp only [V.men,Bool.or_eq_false_iff] at hm
    obtain ⟨fs,gs,e,h1,h2⟩ := h
    exact ⟨fs,gs,e,V.reps_del fi fs hm.1 h1,V.reps_del ca gs hm.2 h2⟩
  | .agg xs,cs,hm,h => by
    simp only [V.repC] at h ⊢
    simp only [V.men] at hm
    exact V.repCs_del xs cs hm h
  | .iface ty x,cs,hm,h => by
    simp only [V.repC] at h ⊢
    simp only [V.men] at hm
    obtain ⟨u,e,h1⟩ := h
    refine ⟨u,e,?_⟩
    rcases h1 with h1 | ⟨p,ds,q,r⟩ | ⟨p,r⟩
    · exact .inl h1
    · exact .inr (.inl ⟨p,ds,q,V.repC_del x ds hm r⟩)
    · exact .inr (.inr ⟨p,V.repC_del x _ hm r⟩)
  | .tup xs,cs,hm,h => by
    simp only [V.repC] at h ⊢
    simp only [V.men] at hm
    obtain ⟨vs,e,h1⟩ := h
    exact ⟨vs,e,V.reps_del xs vs hm h1⟩
  | .undef,cs,_,h => by simpa only [V.repC] using h
  | .any,cs,_,h => by simpa only [V.repC] using h
theorem V.repCs_del {w : World} {ρ : Env} {ids : Nat → Bool} : ∀ (xs : List V) (cs : List Value),V.mens ids xs = false → V.repCs w ρ xs cs → V.repCs w (ρ.del ids) xs cs
  | [],cs,_,h => by simpa only [V.repCs] using h
  | x :: r,cs,hm,h => by
    simp only [V.repCs] at h ⊢
    simp only [V.mens,Bool.or_eq_false_iff] at hm
    obtain ⟨c1,c2,e,h1,h2⟩ := h
    exact ⟨c1,c2,e,V.repC_del x c1 hm.1 h1,V.repCs_del r c2 hm.2 h2⟩
theorem V.reps_del {w : World} {ρ : Env} {ids : Nat → Bool} : ∀ (xs : List V) (vs : List Value),V.mens ids xs = false → V.reps w ρ xs vs → V.reps w (ρ.del ids) xs vs
  | [],vs,_,h => by simpa only [V.reps] using h
  | x :: r,vs,hm,h => by
    simp only [V.reps] at h ⊢
    simp only [V.mens,Bool.or_eq_false_iff] at hm
    obtain ⟨u,us,e,h1,h2⟩ := h
    refine ⟨u,us,e,?_,V.reps_del r us hm.2 h2⟩
    rcases h1 with h1 | ⟨p,ds,q,r⟩ | ⟨p,r⟩
    · exact .inl h1
    · exact .inr (.inl ⟨p,ds,q,V.repC_del x ds hm.1 r⟩)
    · exact .inr (.inr ⟨p,V.repC_del x _ hm.1 r⟩)
end

theorem V.rep_del {w : World} {ρ : Env} {ids : Nat → Bool} {x : V} {u : Value} (hm : V.men ids x = false) (h : x.rep w ρ u) : x.rep w (ρ.del ids) u := by
  rcases h with h1 | ⟨p,ds,q,r⟩ | ⟨p,r⟩
  · exact .inl h1
  · exact .inr (.inl ⟨p,ds,q,V.repC_del x ds hm r⟩)
  · exact .inr (.inr ⟨p,V.repC_del x _ hm r⟩)

theorem Y7.del {w : World} {ρ : Env} {ids : Nat → Bool} : ∀ (l : List (D × V)) (es : List MapEntry),Jb ids l = false → Y7 w ρ l es → Y7 w (ρ.del ids) l es
  | [],es,_,h => h
  | (k,v) :: r,es,hm,h => by
    simp only [Jb,Bool.or_eq_false_iff] at hm
    obtain ⟨e,es',h1,h2,h3,h4⟩ := h
    exact ⟨e,es',h1,h2,V.rep_del hm.1 h3,Y7.del r es' hm.2 h4⟩

theorem Vz {ids : Nat → Bool} : ∀ (ob : Objs) (j : Nat),lookO (Xw ids ob) j = if ids j then none else lookO ob j
  | [],j => by simp [Xw,lookO]
  | (k,x) :: r,j => by
    simp only [Xw]
    split
    · rename_i h
      rw [Vz r j]
      simp only [lookO]
      by_cases e : k = j
      · subst e; rw [if_pos h,if_pos h]
      · simp [e]
    · rename_i h
      simp only [lookO,Vz r j]
      by_cases e : k = j
      · subst e; rw [if_pos rfl,if_neg h,if_pos rfl]
      · simp [e]

theorem Xkc.drop {ids : Nat → Bool} : ∀ {ob : Objs},Xkc ob → Xkc (Xw ids ob)
  | [],h => h
  | (k,x) :: r,h => by
    simp only [Xw]
    split
    · exact Xkc.drop h.2
    · refine ⟨?_,Xkc.drop h.2⟩
      rw [Vz,h.1]; split <;> rfl

theorem Zi {ids : Nat → Bool} : ∀ (ob : Objs) (j E : Nat) (t : V),noMenO ids ob = true → lookO ob j = some (.box E t) → V.men ids t = false
  | [],j,E,t,_,h => by simp [lookO] at h
  | (k,x) :: r,j,E,t,hm,h => by
    simp only [lookO] at h
    split at h
    · simp at h; subst h
      simp only [noMenO,Bool.and_eq_true] at hm
      simpa using hm.1
    · cases x with
      | box _ y => simp only [noMenO,Bool.and_eq_true] at hm; exact Zi r j E t hm.2 h
      | vec _ _ y => simp only [noMenO,Bool.and_eq_true] at hm; exact Zi r j E t hm.2 h
      | map y => simp only [noMenO,Bool.and_eq_true] at hm; exact Zi r j E t hm.2 h
      | arr _ z xs => simp only [noMenO] at hm; exact Zi r j E t hm h
      | gone => simp only [noMenO] at hm; exact Zi r j E t hm h
theorem Wy {ids : Nat → Bool} : ∀ (ob : Objs) (j E sz : Nat) (t : List V),noMenO ids ob = true → lookO ob j = some (.vec E sz t) → V.mens ids t = false
  | [],j,E,sz,t,_,h => by simp [lookO] at h
  | (k,x) :: r,j,E,sz,t,hm,h => by
    simp only [lookO] at h
    split at h
    · simp at h; subst h
      simp only [noMenO,Bool.and_eq_true] at hm
      simpa using hm.1
    · cases x with
      | box _ y => simp only [noMenO,Bool.and_eq_true] at hm; exact Wy r j E sz t hm.2 h
      | vec _ _ y => simp only [noMenO,Bool.and_eq_true] at hm; exact Wy r j E sz t hm.2 h
      | map y => simp only [noMenO,Bool.and_eq_true] at hm; exact Wy r j E sz t hm.2 h
      | arr _ z xs => simp only [noMenO] at hm; exact Wy r j E sz t hm h
      | gone => simp only [noMenO] at hm; exact Wy r j E sz t hm h
theorem Wx {ids : Nat → Bool} : ∀ (ob : Objs) (j : Nat) (t : List (D × V)),noMenO ids ob = true → lookO ob j = some (.map t) → Jb ids t = false
  | [],j,t,_,h => by simp [lookO] at h
  | (k,x) :: r,j,t,hm,h => by
    simp only [lookO] at h
    split at h
    · simp at h; subst h
      simp only [noMenO,Bool.and_eq_true] at hm
      simpa using hm.1
    · cases x with
      | box _ y => simp only [noMenO,Bool.and_eq_true] at hm; exact Wx r j t hm.2 h
      | vec _ _ y => simp only [noMenO,Bool.and_eq_true] at hm; exact Wx r j t hm.2 h
      | map y => simp only [noMenO,Bool.and_eq_true] at hm; exact Wx r j t hm.2 h
      | arr _ z xs => simp only [noMenO] at hm; exact Wx r j t hm h
      | gone => simp only [noMenO] at hm; exact Wx r j t hm h

theorem Xc7 {ids : Nat → Bool} : ∀ (sl : Xb) (k : Nat),Ur ids sl = true → V.men ids (look sl k) = false
  | [],k,_ => by simp [look,V.men]
  | (j,v) :: r,k,hm => by
    simp only [Ur,Bool.and_eq_true] at hm
    simp only [look]
    split
    · simpa using hm.1
    · exact Xc7 r k hm.2

theorem OM.del {w : World} {ρ : Env} {ob : Objs} {ids : Nat → Bool} (h : OM w ρ ob) (hm : noMenO ids (Xw ids ob) = true) : OM w (ρ.del ids) (Xw ids ob) := by
  refine ⟨fun j x hx => ?_,fun j o hj => ?_,fun i j o p b h1 h2 h3 h4 => ?_,h.xlt,fun b o hb => ⟨(h.glb b o hb).1,(Xfm w ρ ids b (h.glb b o hb).2 (Xl (h.glb b o hb).1)).2⟩,fun b hb => h.xdis b (Qp hb),Xkc.drop h.once⟩
  · have hx0 := hx
    rw [Vz] at hx
    split at hx
    · cases hx
    · rename_i hn
      have h1 := h.one j x hx
      cases x with
      | box E t =>
        obtain ⟨b,cs,g1,g2,g3⟩ := h1
        exact ⟨b,cs,by simp only [Env.del,hn]; exact g1,g2,V.repC_del t cs (Zi _ j E t hm hx0) g3⟩
      | gone => exact (by simp only [Env.del,hn]; exact h1 : (ρ.del ids).m j = some .gone)
      | arr E sz xs =>
        rcases h1 with ⟨g1,g2⟩ | ⟨b,cap,cs,sp,g1,g2,g3,g4⟩
        · exact .inl ⟨by simp only [Env.del,hn]; exact g1,g2⟩
        · exact .inr ⟨b,cap,cs,sp,by simp only [Env.del,hn]; exact g1,g2,D.repL_mono (Xfm w ρ ids) _ _ g3,g4⟩
      | vec E sz xs =>
        rcases h1 with ⟨g1,g2⟩ | ⟨b,cap,cs,sp,g1,g2,g3,g4⟩
        · exact .inl ⟨by simp only [Env.del,hn]; exact g1,g2⟩
        · exact .inr ⟨b,cap,cs,sp,by simp only [Env.del,hn]; exact g1,g2,V.repCs_del xs cs (Wy _ j E sz xs hm hx0) g3,g4⟩
      | map es =>
        obtain ⟨b,l,clk,g1,g2,g3⟩ := h1
        exact ⟨b,l,clk,by simp only [Env.del,hn]; exact g1,g2,Y7.del es l (Wx _ j es hm hx0) g3⟩
  · simp only [Env.del] at hj
    rw [Vz]
    split at hj
    · cases hj
    · rename_i hn
      rw [if_neg hn]
      exact h.dom j o hj
  · simp only [Env.del] at h1 h2
    split at h1
    · cases h1
    · split at h2
      · cases h2
      · exact h.inj i j o p b h1 h2 h3 h4

section
variable {w : World} {ρ : Env}
mutual
theorem V.men_dom {ids : Nat → Bool} (hd : ∀ id o,ρ.m id = some o → ids id = false) : ∀ (v : V) (cs : List Value),v.repC w ρ cs → V.men ids v = false
  | .d _,_,_ => rfl
  | .ptr id p,cs,h => by
    simp only [V.repC] at h
    simp only [V.men]
    rcases h with ⟨_,_,h,_⟩ | ⟨h,_⟩ <;> exact hd _ _ h
  | .sl id n,cs,h => by simp only [V.repC] at h; obtain ⟨_,_,h,_⟩ := h; exact hd _ _ h
  | .sd id n,cs,h => by simp only [V.repC] at h; obtain ⟨_,_,h,_⟩ := h; exact hd _ _ h
  | .mp id,cs,h => by
    simp only [V.repC] at h
    simp only [V.men]
    rcases h with ⟨_,h,_⟩ | ⟨h,_⟩ <;> exact hd _ _ h
  | .bs id p lo n,cs,h => by
    simp only [V.repC] at h
    simp only [V.men]
    rcases h with ⟨_,_,_,_,h,_⟩ | ⟨h,_⟩ <;> exact hd _ _ h
  | .ep id n z i f p,cs,h => by simp only [V.repC] at h; obtain ⟨_,_,h,_⟩ := h; exact hd _ _ h
  | .fn f fi ca,cs,h => by
    simp only [V.repC] at h
    obtain ⟨fs,gs,_,h1,h2⟩ := h
    simp only [V.men,V.mens_dom hd fi fs h1,V.mens_dom hd ca gs h2,Bool.or_self]
  | .agg xs,cs,h => by simp only [V.repC] at h; simp only [V.men]; exact V.menCs_dom hd xs cs h
  | .iface t x,cs,h => by
    simp only [V.repC] at h
    obtain ⟨u,_,h⟩ := h
    simp only [V.men]
    rcases h with h | ⟨_,ds,_,h⟩ | ⟨_,h⟩
    · subst h; rfl
    · exact V.men_dom hd x ds h
    · exact V.men_dom hd x _ h
  | .tup xs,cs,h => by simp only [V.repC] at h; obtain ⟨vs,_,h⟩ := h; simp only [V.men]; exact V.mens_dom hd xs vs h
  | .undef,_,_ => rfl
  | .any,_,_ => rfl
theorem V.menCs_dom {ids : Nat → Bool} (hd : ∀ id o,ρ.m id = some o → ids id = false) : ∀ (xs : List V) (cs : List Value),V.repCs w ρ xs cs → V.mens ids xs = false
  | [],_,_ => rfl
  | x :: r,cs,h => by
    simp only [V.repCs] at h
    obtain ⟨c1,c2,_,h1,h2⟩ := h
    simp only [V.mens,V.men_dom hd x c1 h1,V.menCs_dom hd r c2 h2,Bool.or_self]
theorem V.mens_dom {ids : Nat → Bool} (hd : ∀ id o,ρ.m id = some o → ids id = false) : ∀ (xs : List V) (vs : List Value),V.reps w ρ xs vs → V.mens ids xs = false
  | [],_,_ => rfl
  | x :: r,vs,h => by
    simp only [V.reps] at h
    obtain ⟨u,us,_,h1,h2⟩ := h
    have : V.men ids x = false := by
      rcases h1 with h | ⟨_,ds,_,h⟩ | ⟨_,h⟩
      · subst h; rfl
      · exact V.men_dom hd x ds h
      · exact V.men_dom hd x _ h
    simp only [V.mens,this,V.mens_dom hd r us h2,Bool.or_self]
end
theorem V.men_temp {ids : Nat → Bool} (hd : ∀ id o,ρ.m id = some o → ids id = false) {v : V} {u : Value} (h : v.rep w ρ u) : V.men ids v = false := by
  rcases h with h | ⟨_,ds,_,h⟩ | ⟨_,h⟩
  · subst h; rfl
  · exact V.men_dom hd v ds h
  · exact V.men_dom hd v _ h
end

theorem Mod.sub {c : Ctx} {xo : Nat → Prop} {ρ : Env} {sl : Xb} {ob : Objs} {a : Act} {w : World} {keep : List Nat} {drp : Nat → Bool} (m : Mod c xo ρ sl ob a w) (hd : ∀ id o,c.m0 id = some o → drp id = false) (hv : ∀ p ∈ c.ev,V.men drp p.1 = false)
    (h1 : Ur drp (Xd sl keep) = true) (h2 : noMenO drp (Xw drp ob) = true) : Mod c xo (ρ.del drp) (Xd sl keep) (Xw drp ob) a w :=
  ⟨⟨m.base.size,m.base.keep,fun b hb => m.base.owns b (Qp hb),m.base.tape,m.base.os,m.base.out,fun id o h => (m.base.same id o h).elim fun o' q => ⟨o',by simp only [Env.del,hd id o h]; exact q.1,q.2⟩,fun p hp => V.rep_del (hv p hp) (m.base.ext p hp)⟩,m.om.del h2,fun k => V.rep_del (Xc7 _ k h1) (m.sm.keep keep k),m.size,m.df,m.xo,m.gl⟩

def Xci (c : Ctx) (xo : Nat → Prop) (pk : List Nat) (Q : Vp) (ch : List PanicEntry) (a : Act) (w : World) : Prop :=
  ∃ v sl ob ρ u,Q (.panic v) (Xd sl pk) ob ∧ ch = [{ v := u,recovered := false }] ∧ v.rep w ρ u ∧ Mod c xo ρ (Xd sl pk) ob a w

theorem Xiw (sl : Xb) : ∀ (pk : List Nat) (k : Nat),k ∉ pk → look (Xd sl pk) k = .any
  | [],k,_ => by simp [Xd,look]
  | j :: r,k,h => by
    simp only [Xd,look]
    have : j ≠ k := fun e => h (by simp [e])
    rw [if_neg this]
    exact Xiw sl r k (fun h' => h (by simp [h']))

theorem Xi8 {c : Ctx} {xo : Nat → Prop} {pk : List Nat} {Q : Vp} {ch : List PanicEntry} {a : Act} {w : World} {d : Option Nat} {v : Value} (hd : ∀ k,d = some k → k ∉ pk) (h : Xci c xo pk Q ch (a.put d v) w) : Xci c xo pk Q ch a w := by
  obtain ⟨x,sl,ob,ρ,u,h1,h2,h3,m⟩ := h
  refine ⟨x,sl,ob,ρ,u,h1,h2,h3,m.base,m.om,fun k => ?_,?_,?_,m.xo,m.gl⟩
  · by_cases hk : k ∈ pk
    · have := m.sm k
      cases d with
      | none => exact this
      | some j =>
        have hne : j ≠ k := fun e => hd j rfl (e ▸ hk)
        simpa [Act.put,Array.getElem?_setIfInBounds,hne] using this
    · rw [Xiw sl pk k hk]; exact Xdg
  · have := m.size
    cases d <;> simpa [Act.put] using this
  · have := m.df
    cases d <;> simpa [Act.put] using this

theorem Zd {P : Prg} {c : Ctx} (hg : P.g = c.g) {xo : Nat → Prop} {ops : Array Oper} {Q : Exit → Act → World → Prop} {QP : Vp} {pk : List Nat} {K : Xb → Objs → Prop} {kd : Nat → Nat}
    (hsel : Region.noSelect ops = true) (hpk : Xb3 pk ops = true)
    (hK : ∀ sl ob ρ a w,K sl ob → Mod c xo ρ sl ob a w → Q .normal a w)
    (hQ : ∀ ch a w,Q (.panic ch) a w ↔ Xci c xo pk QP ch a w) :
    ∀ (ord : List Nat) (its : List It) (listed : Array Bool) (sl : Xb) (ob : Objs) (ρ : Env) (a : Act) (w : World),Xki P.p c.N ops kd listed ord its = true → Xa9 .any ops listed →
      rwp P K (fun v sl ob => QP (.panic v) (Xd sl pk) ob) its sl ob → Mod c xo ρ sl ob a w → W7 P.p .any ops Q Ext (fun j => kd j == 3) ord.length listed a w
  | [],[],listed,sl,ob,ρ,a,w,hc,_,h,m => by
    simp only [Xki] at hc
    simp only [List.length_nil,W7]
    exact ⟨by simpa using hc,hK sl ob ρ a w h m⟩
  | i :: r,x :: s,listed,sl,ob,ρ,a,w,hc,hcl,h,m => by
    simp only [Xki,Bool.and_eq_true] at hc
    obtain ⟨⟨⟨⟨hr,hx⟩,hkd⟩,hkind⟩,hrest⟩ := hc
    have hr' : i ∈ Region.ready .any ops listed := by simpa using hr
    cases ho : ops[i]? with
    | none => simp [ho] at hx
    | some o =>
      simp only [ho] at hx
      have hkd' : x.kind = kd i := by simpa using hkd
      have hpko : ∀ k,o.dst = some k → k ∉ pk := by
        intro k hk
        have := List.all_eq_true.1 hpk o (by simpa using Array.mem_of_getElem? ho)
        simpa [hk] using this
      have hQo : ∀ v : Value,∀ ch a w,Q (.panic ch) (a.put o.dst v) w → Q (.panic ch) a w := fun v ch a w hq => (hQ ch a w).2 (Xi8 hpko ((hQ ch _ w).1 hq))
      have hcl' := hcl.step hr'
      simp only [List.length_cons]
      -- the operation's state and text,whichever way its guard goes
      have hd : ∃ (d : Option Nat) (y : I),Xat c.N o.dst d = true ∧ y.chk P.p o.op = true ∧ x.kind = y.kind ∧
          ((Region.wanted o (yielded ops a.tmps) = true ∧ ∃ sl',SM w ρ sl' a ∧ y.wp P sl' ob (fun v ob' => rwp P K (fun v sl ob => QP (.panic v) (Xd sl pk) ob) s (put sl' d v) ob') (fun v ob' => QP (.panic v) (Xd sl' pk) ob')) ∨
           (Region.wanted o (yielded ops a.tmps) = false ∧ ∃ sl',SM w ρ sl' a ∧ rwp P K (fun v sl ob => QP (.panic v) (Xd sl pk) ob) s (put sl' d .undef) ob)) := by
        cases x with
        | op d y =>
          simp only [It.chk,Bool.and_eq_true,Option.isNone_iff_eq_none] at hx
          simp only [rwp] at h
          exact ⟨d,y,hx.1.1,hx.2,rfl,.inl ⟨by simp [Region.wanted,hx.1.2],sl,m.sm,h⟩⟩
        | gop g want d y =>
          simp only [It.chk,Bool.and_eq_true] at hx
          simp only [rwp] at h
          exact ⟨d,y,hx.1.1,hx.2,rfl,Z0 (ops := ops) m.sm hx.1.2 h⟩
      obtain ⟨d,y,hdst,hy,hky,hways⟩ := hd
      -- an operation that may be taken first
      have first : ∀ l : Bool,(∀ cc,y = .c cc → cc.isLd = l) → (∃ cc,y = .c cc) → Region.free .any ops listed i = true →
          (l = true → ∀ j,j < ops.size → (kd j == 3) = true → j ≠ i → ∃ fuel,Xbz .any ops i fuel j = true) → W7 P.p .any ops Q Ext (fun j => kd j == 3) (r.length + 1) listed a w := by
        intro l hld hcc hfree hwt
        obtain ⟨cc,rfl⟩ := hcc
        have hld := hld cc rfl
        rcases hways with ⟨hw,sl',hs,hwp⟩ | ⟨hw,sl',hs,hwp⟩
        · simp only [I.wp] at hwp
          obtain ⟨v,z,hk,hrep,hrun⟩ := C.sound hs m.om hy hwp
          obtain ⟨g1,g2,g3⟩ := Xk hdst m.size hs hrep
          refine Vh (l := l) Ext.refl (fun _ _ _ => Ext.trans) ho (Region.noSelect_spec hsel) (hQo v) hwt _ listed a w hcl (Region.free_spec ho hfree) hr' (.inl ⟨hw,fun w' hw' => hrun o rfl w' (fun e => hw' (by rw [← hld]; exact e))⟩) ?_
          exact Zd hg hsel hpk hK hQ r s _ _ ob ρ _ w hrest hcl' hk ⟨m.base,m.om,g1,g2,g3.trans m.df,m.xo,m.gl⟩
        · obtain ⟨g1,g2,g3⟩ := Xk hdst m.size hs (Zw.2 rfl)
          refine Vh (l := l) Ext.refl (fun _ _ _ => Ext.trans) ho (Region.noSelect_spec hsel) (hQo undef) hwt _ listed a w hcl (Region.free_spec ho hfree) hr' (.inr ⟨hw,rfl⟩) ?_
          exact Zd hg hsel hpk hK hQ r s _ _ ob ρ _ w hrest hcl' hwp ⟨m.base,m.om,g1,g2,g3.trans m.df,m.xo,m.gl⟩
      -- the only one that may come up
      have alone : Region.ready .any ops listed = [i] → (y.kind = 2 ∨ y.kind = 3 ∨ y.kind = 4) → W7 P.p .any ops Q Ext (fun j => kd j == 3) (r.length + 1) listed a w := by
        intro hra hk23
        refine ⟨fun h0 => (by rw [hra] at h0; cases h0),fun j hj => ?_⟩
        rw [hra] at hj
        simp at hj; subst hj
        unfold wpOp
        simp only [ho]
        rcases hways with ⟨hw,sl',hs,hwp⟩ | ⟨hw,sl',hs,hwp⟩
        · rw [if_pos hw]
          refine .inl ?_
          rcases hk23 with hk2 | hk3 | hk4
          · refine I.soundE (m.gl.trans hg.symm) hs m.om hk2 hy hwp o rfl _ _ (fun v z w' hk hrep he => ⟨fun _ => he,?_⟩)
            obtain ⟨g1,g2,g3⟩ := Xk hdst m.size (hs.tr he.tr) hrep
            exact Zd hg hsel hpk hK hQ r s _ _ ob ρ _ w' hrest hcl' hk ⟨m.base.tr he.tr,m.om.ext he,g1,g2,g3.trans m.df,m.xo,m.gl⟩
          · refine I.sound (m.gl.trans hg.symm) hs m.om hy hwp o rfl _ _ (fun v z ob' w' ρ' hk hrep ho' t => ⟨fun hf => ?_,?_⟩) (fun u z ob' w' ρ' hk hrep ho' t => ?_)
            · rw [← hkd',hky,hk3] at hf; cases hf
            · obtain ⟨g1,g2,g3⟩ := Xk hdst m.size (hs.tr t) hrep
              exact Zd hg hsel hpk hK hQ r s _ _ ob' ρ' _ w' hrest hcl' hk ⟨m.base.tr t,ho',g1,g2,g3.trans m.df,t.xo.trans m.xo,t.gl.trans m.gl⟩
            · exact (hQ _ _ _).2 ⟨z,sl',ob',ρ',u,hk,rfl,hrep,m.base.tr t,ho',(hs.tr t).keep pk,m.size,m.df,t.xo.trans m.xo,t.gl.trans m.gl⟩
          · refine I.soundX hs m.om hk4 hy hwp o rfl _ _ (fun v z ob' w' ρ' hk hrep ho' t he => ⟨fun _ => he,?_⟩)
            obtain ⟨g1,g2,g3⟩ := Xk hdst m.size (hs.tr t) hrep
            exact Zd hg hsel hpk hK hQ r s _ _ ob' ρ' _ w' hrest hcl' hk ⟨m.base.tr t,ho',g1,g2,g3.trans m.df,t.xo.trans m.xo,t.gl.trans m.gl⟩
        · rw [hw]
          simp only [Bool.false_eq_true,if_false]
          refine ⟨fun _ => Ext.refl w,?_⟩
          obtain ⟨g1,g2,g3⟩ := Xk hdst m.size hs (Zw.2 rfl)
          exact Zd hg hsel hpk hK hQ r s _ _ ob ρ _ w hrest hcl' hwp ⟨m.base,m.om,g1,g2,g3.trans m.df,m.xo,m.gl⟩
      have hkl : y.kind = 0 ∨ y.kind = 1 ∨ y.kind = 2 ∨ y.kind = 3 ∨ y.kind = 4 := by
        cases y with
        | c cc => simp only [I.kind]; split <;> simp
        | _ => simp [I.kind]
      have hcc : ∀ n,(n = 0 ∨ n = 1) → y.kind = n → (∃ cc,y = .c cc) ∧ ∀ cc,y = .c cc → cc.isLd = (n == 1) := by
        intro n hn hyn
        cases y with
        | c cc =>
          refine ⟨⟨cc,rfl⟩,fun c' e => ?_⟩
          cases e
          simp only [I.kind] at hyn
          cases hl : cc.isLd <;> simp [hl] at hyn <;> subst hyn <;> rfl
        | _ => simp [I.kind] at hyn; subst hyn; simp at hn
      rcases hkl with h0 | h1 | h2 | h3 | h4
      · rw [hky,h0] at hkind
        obtain ⟨c1,c2⟩ := hcc 0 (.inl rfl) h0
        exact first false (fun cc e => by simpa using c2 cc e) c1 hkind (by simp)
      · rw [hky,h1] at hkind
        simp only [Bool.and_eq_true] at hkind
        obtain ⟨c1,c2⟩ := hcc 1 (.inr rfl) h1
        refine first true (fun cc e => by simpa using c2 cc e) c1 hkind.1 (fun _ j hj hk3 hne => ⟨ops.size,?_⟩)
        have := List.all_eq_true.1 hkind.2 j (by simpa using hj)
        have hk3' : kd j = 3 := by simpa using hk3
        simpa [hk3',hne] using this
      · rw [hky,h2] at hkind
        exact alone (by simpa using hkind) (.inl h2)
      · rw [hky,h3] at hkind
        exact alone (by simpa using hkind) (.inr (.inl h3))
      · rw [hky,h4] at hkind
        exact alone (by simpa using hkind) (.inr (.inr h4))
  | [],_ :: _,_,_,_,_,_,_,hc,_,_,_ => by simp [Xki] at hc
  | _ :: _,[],_,_,_,_,_,_,hc,_,_,_ => by simp [Xki] at hc

theorem Xpc {P : Prg} {c : Ctx} (hg : P.g = c.g) {xo : Nat → Prop} {ops : Array Oper} {Q : Exit → Act → World → Prop} {QP : Vp} {pk : List Nat} {next : Xb → Objs → Prop} {i : Nat} {o : Oper} {x : It} {sl : Xb} {ob : Objs} {ρ : Env} {a : Act} {w : World} {N : Act → World → Prop}
    (hQ : ∀ ch a w,Q (.panic ch) a w ↔ Xci c xo pk QP ch a w) (ho : ops[i]? = some o) (hx : x.chk P.p c.N ops o = true) (h : itK P next (fun v sl ob => QP (.panic v) (Xd sl pk) ob) x sl ob) (m : Mod c xo ρ sl ob a w)
    (hN : ∀ sl' ob' ρ' a' w',next sl' ob' → Mod c xo ρ' sl' ob' a' w' → N a' w') : wpOp P.p ops Q i (fun a' w' => (x.kind ≠ 3 → Ext w w') ∧ N a' w') a w := by
  have hd : ∃ (d : Option Nat) (y : I),Xat c.N o.dst d = true ∧ y.chk P.p o.op = true ∧ x.kind = y.kind ∧
      ((Region.wanted o (yielded ops a.tmps) = true ∧ ∃ sl',SM w ρ sl' a ∧ y.wp P sl' ob (fun v ob' => next (put sl' d v) ob') (fun v ob' => QP (.panic v) (Xd sl' pk) ob')) ∨
       (Region.wanted o (yielded ops a.tmps) = false ∧ ∃ sl',SM w ρ sl' a ∧ next (put sl' d .undef) ob)) := by
    cases x with
    | op d y =>
      simp only [It.chk,Bool.and_eq_true,Option.isNone_iff_eq_none] at hx
      exact ⟨d,y,hx.1.1,hx.2,rfl,.inl ⟨by simp [Region.wanted,hx.1.2],sl,m.sm,h⟩⟩
    | gop g want d y =>
      simp only [It.chk,Bool.and_eq_true] at hx
      simp only [itK] at h
      exact ⟨d,y,hx.1.1,hx.2,rfl,Z0 (ops := ops) m.sm hx.1.2 h⟩
  obtain ⟨d,y,hdst,hy,hky,hways⟩ := hd
  unfold wpOp
  simp only [ho]
  rcases hways with ⟨hw,sl',hs,hwp⟩ | ⟨hw,sl',hs,hwp⟩
  · rw [if_pos hw]
    refine .inl ?_
    by_cases hk3 : y.kind = 3
    · refine I.sound (m.gl.trans hg.symm) hs m.om hy hwp o rfl _ _ (fun v z ob' w' ρ' hk hrep ho' t => ⟨fun hf => ?_,?_⟩) (fun u z ob' w' ρ' hk hrep ho' t => ?_)
      · rw [hky] at hf; exact absurd hk3 hf
      · obtain ⟨g1,g2,g3⟩ := Xk hdst m.size (hs.tr t) hrep
        exact hN _ ob' ρ' _ w' hk ⟨m.base.tr t,ho',g1,g2,g3.trans m.df,t.xo.trans m.xo,t.gl.trans m.gl⟩
      · exact (hQ _ _ _).2 ⟨z,sl',ob',ρ',u,hk,rfl,hrep,m.base.tr t,ho',(hs.tr t).keep pk,m.size,m.df,t.xo.trans m.xo,t.gl.trans m.gl⟩
    · by_cases hk2 : y.kind = 2
      · refine I.soundE (m.gl.trans hg.symm) hs m.om hk2 hy hwp o rfl _ _ (fun v z w' hk hrep he => ⟨fun _ => he,?_⟩)
        obtain ⟨g1,g2,g3⟩ := Xk hdst m.size (hs.tr he.tr) hrep
        exact hN _ ob ρ _ w' hk ⟨m.base.tr he.tr,m.om.ext he,g1,g2,g3.trans m.df,m.xo,m.gl⟩
      · by_cases hk4 : y.kind = 4
        · refine I.soundX hs m.om hk4 hy hwp o rfl _ _ (fun v z ob' w' ρ' hk hrep ho' t he => ⟨fun _ => he,?_⟩)
          obtain ⟨g1,g2,g3⟩ := Xk hdst m.size (hs.tr t) hrep
          exact hN _ ob' ρ' _ w' hk ⟨m.base.tr t,ho',g1,g2,g3.trans m.df,t.xo.trans m.xo,t.gl.trans m.gl⟩
        cases y with
        | c cc =>
          simp only [I.wp] at hwp
          obtain ⟨v,z,hk,hrep,hrun⟩ := C.sound hs m.om hy hwp
          obtain ⟨g1,g2,g3⟩ := Xk hdst m.size hs hrep
          unfold Oper.wp
          rw [hrun o rfl w (fun _ => Ext.refl w)]
          exact ⟨fun _ => Ext.refl w,hN _ ob ρ _ w hk ⟨m.base,m.om,g1,g2,g3.trans m.df,m.xo,m.gl⟩⟩
        | _ => exfalso; simp [I.kind] at hk2 hk3 hk4
  · rw [hw]
    simp only [Bool.false_eq_true,if_false]
    refine ⟨fun _ => Ext.refl w,?_⟩
    obtain ⟨g1,g2,g3⟩ := Xk hdst m.size hs (Zw.2 rfl)
    exact hN _ ob ρ _ w hwp ⟨m.base,m.om,g1,g2,g3.trans m.df,m.xo,m.gl⟩

theorem Wc {P : Prg} {c : Ctx} (hg : P.g = c.g) {xo : Nat → Prop} {ops : Array Oper} {Q : Exit → Act → World → Prop} {QP : Vp} {pk : List Nat} {K : Xb → Objs → Prop} {kd : Nat → Nat}
    (hsel : Region.noSelect ops = true) (hpk : Xb3 pk ops = true)
    (hK : ∀ sl ob ρ a w,K sl ob → Mod c xo ρ sl ob a w → Q .normal a w)
    (hQ : ∀ ch a w,Q (.panic ch) a w ↔ Xci c xo pk QP ch a w) :
    ∀ (n : Nat) (t : Ot) (listed : Array Bool) (sl : Xb) (ob : Objs) (ρ : Env) (a : Act) (w : World),Un P.p c.N ops kd n listed t = true → Xa9 .any ops listed →
      owp P K (fun v sl ob => QP (.panic v) (Xd sl pk) ob) t sl ob → Mod c xo ρ sl ob a w → W7 P.p .any ops Q Ext (fun j => kd j == 3) n listed a w
  | 0,.done,listed,sl,ob,ρ,a,w,hc,_,h,m => by
    simp only [Un] at hc
    simp only [owp] at h
    simp only [W7]
    exact ⟨by simpa using hc,hK sl ob ρ a w h m⟩
  | n + 1,.br l,listed,sl,ob,ρ,a,w,hc,hcl,h,m => by
    simp only [Un,Bool.and_eq_true,Bool.not_eq_true'] at hc
    obtain ⟨⟨hne,hall⟩,hcs⟩ := hc
    simp only [owp] at h
    simp only [W7]
    refine ⟨fun h0 => by rw [h0] at hne; simp at hne,fun j hj => ?_⟩
    have hh := List.all_eq_true.1 hall j hj
    obtain ⟨x,r,o,g1,g2,g3,g4,g5⟩ : ∃ x r o,ops[j]? = some o ∧ x.chk P.p c.N ops o = true ∧ x.kind = kd j ∧ Un P.p c.N ops kd n (listed.setIfInBounds j true) r = true ∧ itK P (owp P K (fun v sl ob => QP (.panic v) (Xd sl pk) ob) r) (fun v sl ob => QP (.panic v) (Xd sl pk) ob) x sl ob := by
      clear hne hall
      revert h hcs hh
      generalize l = l
      intro hh hcs h
      have go : ∀ (l : Ots),l.has j = true → Xfk P.p c.N ops kd n listed l = true → Xhr P K (fun v sl ob => QP (.panic v) (Xd sl pk) ob) l sl ob → ∃ x r o,ops[j]? = some o ∧ x.chk P.p c.N ops o = true ∧ x.kind = kd j ∧ Un P.p c.N ops kd n (listed.setIfInBounds j true) r = true ∧ itK P (owp P K (fun v sl ob => QP (.panic v) (Xd sl pk) ob) r) (fun v sl ob => QP (.panic v) (Xd sl pk) ob) x sl ob := by
        intro l
        induction l using Ots.rec (motive_1 := fun _ => True) with
        | nil => intro h; simp [Ots.has] at h
        | cons i x r l _ ih =>
          intro h1 h2 h3
          simp only [Ots.has,Bool.or_eq_true,beq_iff_eq] at h1
          simp only [Xfk,Bool.and_eq_true] at h2
          simp only [Xhr] at h3
          by_cases e : i = j
          · subst e
            obtain ⟨⟨⟨⟨_,hx⟩,hk⟩,hr⟩,_⟩ := h2
            cases ho : ops[i]? with
            | none => simp [ho] at hx
            | some o => simp only [ho] at hx; exact ⟨x,r,o,rfl,hx,by simpa using hk,hr,h3.1⟩
          · exact ih (h1.resolve_left e) h2.2 h3.2
        | done => trivial
        | one i x r _ => trivial
        | br l _ => trivial
      first | exact go _ hh hcs h | exact go _ h hcs hh
    have hst := Xpc (Q := Q) (N := fun a' w' => W7 P.p .any ops Q Ext (fun j => kd j == 3) n (listed.setIfInBounds j true) a' w') hg hQ g1 g2 g5 m (fun sl' ob' ρ' a' w' hk m' => Wc hg hsel hpk hK hQ n r _ sl' ob' ρ' a' w' g4 (hcl.step hj) hk m')
    refine wpOp_mono (fun a' w' h' => ⟨fun hf => h'.1 ?_,h'.2⟩) hst
    rw [g3]; intro e; simp [e] at hf
  | n + 1,.one i x r,listed,sl,ob,ρ,a,w,hc,hcl,h,m => by
    simp only [Un,Bool.and_eq_true] at hc
    obtain ⟨⟨⟨⟨hr,hx⟩,hkd⟩,hkind⟩,hrest⟩ := hc
    have hr' : i ∈ Region.ready .any ops listed := by simpa using hr
    simp only [owp] at h
    cases ho : ops[i]? with
    | none => simp [ho] at hx
    | some o =>
      simp only [ho] at hx
      have hkd' : x.kind = kd i := by simpa using hkd
      have hcl' := hcl.step hr'
      -- the only one that may come up
      have alone : Region.ready .any ops listed = [i] → W7 P.p .any ops Q Ext (fun j => kd j == 3) (n + 1) listed a w := by
        intro hra
        refine ⟨fun h0 => (by rw [hra] at h0; cases h0),fun j hj => ?_⟩
        rw [hra] at hj
        simp at hj; subst hj
        have hst := Xpc (Q := Q) (N := fun a' w' => W7 P.p .any ops Q Ext (fun j => kd j == 3) n (listed.setIfInBounds j true) a' w') hg hQ ho hx h m (fun sl' ob' ρ' a' w' hk m' => Wc hg hsel hpk hK hQ n r _ sl' ob' ρ' a' w' hrest hcl' hk m')
        refine wpOp_mono (fun a' w' h' => ⟨fun hf => h'.1 ?_,h'.2⟩) hst
        rw [hkd']; intro e; simp [e] at hf
      have hpko : ∀ k,o.dst = some k → k ∉ pk := by
        intro k hk
        have := List.all_eq_true.1 hpk o (by simpa using Array.mem_of_getElem? ho)
        simpa [hk] using this
      have hQo : ∀ v : Value,∀ ch a w,Q (.panic ch) (a.put o.dst v) w → Q (.panic ch) a w := fun v ch a w hq => (hQ ch a w).2 (Xi8 hpko ((hQ ch _ w).1 hq))
      have hd : ∃ (d : Option Nat) (y : I),Xat c.N o.dst d = true ∧ y.chk P.p o.op = true ∧ x.kind = y.kind ∧
          ((Region.wanted o (yielded ops a.tmps) = true ∧ ∃ sl',SM w ρ sl' a ∧ y.wp P sl' ob (fun v ob' => owp P K (fun v sl ob => QP (.panic v) (Xd sl pk) ob) r (put sl' d v) ob') (fun v ob' => QP (.panic v) (Xd sl' pk) ob')) ∨
           (Region.wanted o (yielded ops a.tmps) = false ∧ ∃ sl',SM w ρ sl' a ∧ owp P K (fun v sl ob => QP (.panic v) (Xd sl pk) ob) r (put sl' d .undef) ob)) := by
        cases x with
        | op d y =>
          simp only [It.chk,Bool.and_eq_true,Option.isNone_iff_eq_none] at hx
          exact ⟨d,y,hx.1.1,hx.2,rfl,.inl ⟨by simp [Region.wanted,hx.1.2],sl,m.sm,h⟩⟩
        | gop g want d y =>
          simp only [It.chk,Bool.and_eq_true] at hx
          simp only [itK] at h
          exact ⟨d,y,hx.1.1,hx.2,rfl,Z0 (ops := ops) m.sm hx.1.2 h⟩
      obtain ⟨d,y,hdst,hy,hky,hways⟩ := hd
      have first : ∀ l : Bool,(∀ cc,y = .c cc → cc.isLd = l) → (∃ cc,y = .c cc) → Region.free .any ops listed i = true →
          (l = true → ∀ j,j < ops.size → (kd j == 3) = true → j ≠ i → ∃ fuel,Xbz .any ops i fuel j = true) → W7 P.p .any ops Q Ext (fun j => kd j == 3) (n + 1) listed a w := by
        intro l hld hcc hfree hwt
        obtain ⟨cc,rfl⟩ := hcc
        have hld := hld cc rfl
        rcases hways with ⟨hw,sl',hs,hwp⟩ | ⟨hw,sl',hs,hwp⟩
        · simp only [I.wp] at hwp
          obtain ⟨v,z,hk,hrep,hrun⟩ := C.sound hs m.om hy hwp
          obtain ⟨g1,g2,g3⟩ := Xk hdst m.size hs hrep
          refine Vh (l := l) Ext.refl (fun _ _ _ => Ext.trans) ho (Region.noSelect_spec hsel) (hQo v) hwt _ listed a w hcl (Region.free_spec ho hfree) hr' (.inl ⟨hw,fun w' hw' => hrun o rfl w' (fun e => hw' (by rw [← hld]; exact e))⟩) ?_
          exact Wc hg hsel hpk hK hQ n r _ _ ob ρ _ w hrest hcl' hk ⟨m.base,m.om,g1,g2,g3.trans m.df,m.xo,m.gl⟩
        · obtain ⟨g1,g2,g3⟩ := Xk hdst m.size hs (Zw.2 rfl)
          refine Vh (l := l) Ext.refl (fun _ _ _ => Ext.trans) ho (Region.noSelect_spec hsel) (hQo undef) hwt _ listed a w hcl (Region.free_spec ho hfree) hr' (.inr ⟨hw,rfl⟩) ?_
          exact Wc hg hsel hpk hK hQ n r _ _ ob ρ _ w hrest hcl' hwp ⟨m.base,m.om,g1,g2,g3.trans m.df,m.xo,m.gl⟩
      have hcc : ∀ n,(n = 0 ∨ n = 1) → y.kind = n → (∃ cc,y = .c cc) ∧ ∀ cc,y = .c cc → cc.isLd = (n == 1) := by
        intro n hn hyn
        cases y with
        | c cc =>
          refine ⟨⟨cc,rfl⟩,fun c' e => ?_⟩
          cases e
          simp only [I.kind] at hyn
          cases hl : cc.isLd <;> simp [hl] at hyn <;> subst hyn <;> rfl
        | _ => simp [I.kind] at hyn; subst hyn; simp at hn
      have hkl : y.kind = 0 ∨ y.kind = 1 ∨ y.kind = 2 ∨ y.kind = 3 ∨ y.kind = 4 := by
        cases y with
        | c cc => simp only [I.kind]; split <;> simp
        | _ => simp [I.kind]
      rcases hkl with h0 | h1 | h2 | h3 | h4
      · rw [hky,h0] at hkind
        obtain ⟨c1,c2⟩ := hcc 0 (.inl rfl) h0
        exact first false (fun cc e => by simpa using c2 cc e) c1 hkind (by simp)
      · rw [hky,h1] at hkind
        simp only [Bool.and_eq_true] at hkind
        obtain ⟨c1,c2⟩ := hcc 1 (.inr rfl) h1
        refine first true (fun cc e => by simpa using c2 cc e) c1 hkind.1 (fun _ j hj hk3 hne => ⟨ops.size,?_⟩)
        have := List.all_eq_true.1 hkind.2 j (by simpa using hj)
        have hk3' : kd j = 3 := by simpa using hk3
        simpa [hk3',hne] using this
      · rw [hky,h2] at hkind
        exact alone (by simpa using hkind)
      · rw [hky,h3] at hkind
        exact alone (by simpa using hkind)
      · rw [hky,h4] at hkind
        exact alone (by simpa using hkind)
  | 0,.one _ _ _,_,_,_,_,_,_,hc,_,_,_ => by simp [Un] at hc
  | 0,.br _,_,_,_,_,_,_,hc,_,_,_ => by simp [Un] at hc
  | _ + 1,.done,_,_,_,_,_,_,hc,_,_,_ => by simp [Un] at hc

theorem Xa7 {P : Program} {ops : Array Oper} {Q : Exit → Act → World → Prop} {md : Region.Mode} : ∀ (n m : Nat) (listed : Array Bool) (a : Act) (w : World),n ≤ m → wpAny P md ops Q n listed a w → wpAny P md ops Q m listed a w
  | 0,0,_,_,_,_,h => h
  | 0,m + 1,listed,a,w,_,h => ⟨fun _ => h.2,fun i hi => by rw [h.1] at hi; cases hi⟩
  | n + 1,m + 1,listed,a,w,hle,h => ⟨h.1,fun i hi => wpOp_mono (fun a' w' h' => Xa7 n m _ a' w' (by omega) h') (h.2 i hi)⟩
  | n + 1,0,_,_,_,hle,_ => by omega

theorem Xbb {p : Nat → Prop} : ∀ n,p n → ∃ m,p m ∧ ∀ k,p k → m ≤ k := by
  intro n
  induction n using Nat.strongRecOn with
  | _ n ih =>
    intro hn
    by_cases h : ∃ k,p k ∧ k < n
    · obtain ⟨k,hk,hlt⟩ := h; exact ih k hlt hk
    · exact ⟨n,hn,fun k hk => Nat.le_of_not_lt fun hlt => h ⟨k,hk,hlt⟩⟩

theorem Yx {P : Prg} (hm : P.p.follows .mixedOrders = true) {c : Ctx} (hg : P.g = c.g) {xo : Nat → Prop} : ∀ (code : Code) (s : S) (Q : Vp) (sl : Xb) (ob : Objs) (ρ : Env) (a : Act) (w : World),
    S.chk P.p c.N code s = true → cwp P s Q sl ob → Mod c xo ρ sl ob a w → code.wp P.p (lift c xo Q) a w
  | .skip,s,Q,sl,ob,ρ,a,w,hc,h,m => by
    cases s <;> simp [S.chk] at hc
    exact wp_skip ⟨.normal,sl,ob,ρ,h,trivial,m⟩
  | .region id ops draw,s,Q,sl,ob,ρ,a,w,hc,h,m => by
    cases s <;> simp only [S.chk,Bool.false_eq_true] at hc
    case rgT n t keep pk =>
      simp only [cwp] at h
      simp only [Bool.and_eq_true] at hc
      obtain ⟨⟨⟨⟨hdr,hlen⟩,hsel⟩,hpk⟩,hcan⟩ := hc
      subst hdr
      have hlen : n ≤ ops.size := by simpa using hlen
      let Q' : Exit → Act → World → Prop := fun e a w => match e with
        | .panic ch => Xci c xo pk Q ch a w
        | e => lift c xo Q e a w
      have hx : Ext w { w with drawn := w.drawn + 1 } := Ext.drew w _
      have key := Wc (Q := Q') (QP := Q) (K := fun sl ob => Q .normal (Xd sl keep) ob) hg hsel hpk
        (fun sl ob ρ a w hk m => (⟨.normal,_,ob,ρ,hk,trivial,m.base,m.om,m.sm.keep keep,m.size,m.df,m.xo,m.gl⟩ : lift c xo Q .normal a w))
        (fun ch a w => Iff.rfl) n t (Array.replicate ops.size false) sl ob ρ a { w with drawn := w.drawn + 1 } hcan
        (fun k o _ hl => by
          rcases Nat.lt_or_ge k ops.size with h' | h'
          · simp [h'] at hl
          · simp [h'] at hl) h ⟨m.base.tr hx.tr,m.om.ext hx,m.sm.tr hx.tr,m.size,m.df,m.xo,m.gl⟩
      have hany := Xa8 _ _ _ _ key
      refine wp_mono (wp_region_any hm (Xa7 _ _ _ _ _ hlen hany)) (fun e a' w' he => ?_)
      cases e with
      | panic ch =>
        obtain ⟨v,sl',ob',ρ',u,h1,h2,h3,m'⟩ := he
        exact ⟨.panic v,_,ob',ρ',h1,⟨u,h2,h3⟩,m'⟩
      | _ => exact he
    rename_i ord l keep pk
    simp only [cwp] at h
    cases draw with
    | false =>
      simp only [Bool.false_eq_true,if_false] at hc
      refine wp_region_list (Xa0 (c := c) (xo := xo) hg (fun sl ob ρ a w hk m => ?_) (fun v sl ob ρ a w u hk m hr => ?_) ops.toList l sl ob ρ a w hc h m)
      · exact ⟨.normal,_,ob,ρ,hk,trivial,m.base,m.om,m.sm.keep keep,m.size,m.df,m.xo,m.gl⟩
      · exact ⟨.panic v,_,ob,ρ,hk,⟨u,rfl,hr⟩,m.base,m.om,m.sm.keep pk,m.size,m.df,m.xo,m.gl⟩
    | true =>
      simp only [if_true,Bool.and_eq_true] at hc
      obtain ⟨⟨⟨hlen,hsel⟩,hpk⟩,hcan⟩ := hc
      have hlen : ord.length ≤ ops.size := by simpa using hlen
      let Q' : Exit → Act → World → Prop := fun e a w => match e with
        | .panic ch => Xci c xo pk Q ch a w
        | e => lift c xo Q e a w
      have hx : Ext w { w with drawn := w.drawn + 1 } := Ext.drew w _
      have key := Zd (Q := Q') (QP := Q) (K := fun sl ob => Q .normal (Xd sl keep) ob) hg hsel hpk
        (fun sl ob ρ a w hk m => (⟨.normal,_,ob,ρ,hk,trivial,m.base,m.om,m.sm.keep keep,m.size,m.df,m.xo,m.gl⟩ : lift c xo Q .normal a w))
        (fun ch a w => Iff.rfl) ord l (Array.replicate ops.size false) sl ob ρ a { w with drawn := w.drawn + 1 } hcan
        (fun k o _ hl => by
          rcases Nat.lt_or_ge k ops.size with h' | h'
          · simp [h'] at hl
          · simp [h'] at hl) h ⟨m.base.tr hx.tr,m.om.ext hx,m.sm.tr hx.tr,m.size,m.df,m.xo,m.gl⟩
      have hany := Xa8 _ _ _ _ key
      refine wp_mono (wp_region_any hm (Xa7 _ _ _ _ _ hlen hany)) (fun e a' w' he => ?_)
      cases e with
      | panic ch =>
        obtain ⟨v,sl',ob',ρ',u,h1,h2,h3,m'⟩ := he
        exact ⟨.panic v,_,ob',ρ',h1,⟨u,h2,h3⟩,m'⟩
      | _ => exact he
  | .seq x y,s,Q,sl,ob,ρ,a,w,hc,h,m => by
    cases s <;> simp [S.chk] at hc
    simp only [cwp] at h
    refine wp_seq (wp_mono (Yx hm hg x _ _ sl ob ρ a w hc.1 h m) ?_)
    rintro e a' w' ⟨ae,sl',ob',ρ',hq,he,m'⟩
    cases ae with
    | normal =>
      cases e <;> simp only [exM] at he
      exact Yx hm hg y _ Q sl' ob' ρ' a' w' hc.2 hq m'
    | exit n =>
      cases e <;> simp only [exM] at he
      exact ⟨.exit n,sl',ob',ρ',hq,he,m'⟩
    | ret =>
      cases e <;> simp only [exM] at he
      exact ⟨.ret,sl',ob',ρ',hq,trivial,m'⟩
    | panic v =>
      cases e <;> simp only [exM] at he
      exact ⟨.panic v,sl',ob',ρ',hq,he,m'⟩
  | .cond d x y,s,Q,sl,ob,ρ,a,w,hc,h,m => by
    cases s <;> simp [S.chk] at hc
    obtain ⟨⟨h1,h2⟩,h3⟩ := hc
    simp only [cwp] at h
    have r1 := A.sound m.sm h1
    unfold Xaq at h
    split at h
    · rename_i t e
      rw [e,rep_bool] at r1
      exact wp_cond_split r1 (fun ht => Yx hm hg x _ Q sl ob ρ a w h2 (h.1 ht) m) (fun ht => Yx hm hg y _ Q sl ob ρ a w h3 (h.2 ht) m)
    · exact h.elim
  | .block n x,s,Q,sl,ob,ρ,a,w,hc,h,m => by
    cases s <;> simp [S.chk] at hc
    obtain ⟨rfl,h1⟩ := hc
    simp only [cwp] at h
    refine wp_block (wp_mono (Yx hm hg x _ _ sl ob ρ a w h1 h m) ?_)
    rintro e a' w' ⟨ae,sl',ob',ρ',hq,he,m'⟩
    cases ae with
    | normal =>
      cases e <;> simp only [exM] at he
      exact ⟨.normal,sl',ob',ρ',hq,trivial,m'⟩
    | exit k =>
      cases e <;> simp only [exM] at he
      subst he
      simp only [Zs] at hq
      simp only [Exit.inBlock]
      split
      · rename_i e; rw [if_pos e] at hq; exact ⟨.normal,sl',ob',ρ',hq,trivial,m'⟩
      · rename_i e; rw [if_neg e] at hq; exact ⟨.exit _,sl',ob',ρ',hq,rfl,m'⟩
    | ret =>
      cases e <;> simp only [exM] at he
      exact ⟨.ret,sl',ob',ρ',hq,trivial,m'⟩
    | panic v =>
      cases e <;> simp only [exM] at he
      exact ⟨.panic v,sl',ob',ρ',hq,he,m'⟩
  | .loop x,s,Q,sl,ob,ρ,a,w,hc,h,m => by
    cases s <;> simp [S.chk] at hc
    simp only [cwp] at h
    obtain ⟨ι,St,Ot,I,μ,i0,hi0,he0,he1,hstep⟩ := h.run
    let G : Act → World → Nat → Prop := fun a w n => ∃ i ρ,I i ∧ μ i = n ∧ Mod c xo ρ (St i) (Ot i) a w
    let M : Act → World → Nat := fun a w => open Classical in if h : ∃ n,G a w n then Classical.choose (Xbb (p := G a w) (Classical.choose h) (Classical.choose_spec h)) else 0
    have hM : ∀ a w n,G a w n → G a w (M a w) ∧ M a w ≤ n := by
      intro a w n hn
      have hex : ∃ n,G a w n := ⟨n,hn⟩
      have := Classical.choose_spec (Xbb (p := G a w) (Classical.choose hex) (Classical.choose_spec hex))
      simp only [M,hex,dif_pos]
      exact ⟨this.1,this.2 n hn⟩
    refine wp_loop (I := fun a w => ∃ n,G a w n) (μ := M) ⟨μ i0,i0,ρ,hi0,rfl,by rw [← he0,← he1]; exact ⟨m.base,m.om,m.sm.keep _,m.size,m.df,m.xo,m.gl⟩⟩ ?_
    rintro a1 w1 ⟨n,hn⟩
    obtain ⟨⟨i,ρ1,hi,hmu,m1⟩,_⟩ := hM a1 w1 n hn
    refine wp_mono (Yx hm hg x _ _ _ _ ρ1 a1 w1 hc (hstep i hi) m1) ?_
    rintro e a' w' ⟨ae,sl',ob',ρ',hq,he,m'⟩
    cases ae with
    | normal =>
      cases e <;> simp only [exM] at he
      simp only [Vb] at hq
      obtain ⟨drp,q1,q2,j,hj,hlt,hSj,hOj⟩ := hq
      have hold1 : ∀ id o,ρ1.m id = some o → young (fresh (Ot i)) drp id = false := fun id o h0 => by
        obtain ⟨x,hx⟩ := m1.om.dom id o h0
        have hlt : ¬ fresh (Ot i) ≤ id := fun hle => by rw [Yj _ _ hle] at hx; cases hx
        simp [young,hlt]
      have hold : ∀ id o,c.m0 id = some o → young (fresh (Ot i)) drp id = false := fun id o h0 => by
        obtain ⟨o',h1,_⟩ := m1.base.same id o h0
        exact hold1 id o' h1
      have hev : ∀ p ∈ c.ev,V.men (young (fresh (Ot i)) drp) p.1 = false := fun p hp => V.men_temp hold1 (m1.base.ext p hp)
      have hg : G a' w' (μ j) := ⟨j,_,hj,rfl,by rw [← hSj,← hOj]; exact m'.sub hold hev q1 q2⟩
      have := hM a' w' _ hg
      exact ⟨⟨_,hg⟩,by omega⟩
    | exit k =>
      cases e <;> simp only [exM] at he
      exact ⟨.exit k,sl',ob',ρ',hq,he,m'⟩
    | ret =>
      cases e <;> simp only [exM] at he
      exact ⟨.ret,sl',ob',ρ',hq,trivial,m'⟩
    | panic v =>
      cases e <;> simp only [exM] at he
      exact ⟨.panic v,sl',ob',ρ',hq,he,m'⟩
  | .exit n,s,Q,sl,ob,ρ,a,w,hc,h,m => by
    cases s <;> simp [S.chk] at hc
    subst hc
    exact wp_exit ⟨.exit n,sl,ob,ρ,h,rfl,m⟩
  | .ret,s,Q,sl,ob,ρ,a,w,hc,h,m => by
    cases s <;> simp [S.chk] at hc
    exact wp_ret ⟨.ret,sl,ob,ρ,h,trivial,m⟩
  | .rangeFunc _ _ _ _,s,Q,sl,ob,ρ,a,w,hc,h,m => by cases s <;> simp [S.chk] at hc
  | .scope _,s,Q,sl,ob,ρ,a,w,hc,h,m => by cases s <;> simp [S.chk] at hc
  | .label _,s,Q,sl,ob,ρ,a,w,hc,h,m => by cases s <;> simp [S.chk] at hc
  | .goto _,s,Q,sl,ob,ρ,a,w,hc,h,m => by cases s <;> simp [S.chk] at hc
  | .refuse _,s,Q,sl,ob,ρ,a,w,hc,h,m => by cases s <;> simp [S.chk] at hc
end Go.Ab
