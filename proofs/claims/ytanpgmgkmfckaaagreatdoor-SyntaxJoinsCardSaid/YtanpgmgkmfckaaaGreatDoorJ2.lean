/- Texts of this claim joined by a program, part 2 of 7; the last is: Statements over folded regions. Over any program; no condition. -/
import Derived.Test.YtanpgmgkmfckaaaGreatDoorJ1
import Derived.OrdersHeld
import Derived.Tactics
set_option linter.unusedSimpArgs false
set_option linter.unusedVariables false
set_option linter.unusedSectionVars false
/- That append does what Ab9 says of it. Over any program; no condition. -/
namespace Go.Ab
open Go
section
variable {P : Program} {a : Act} {w : World} {ρ : Env} {sl : Slots} {ob : Objs} {K Pn : V → Objs → Prop}

theorem ins_self {id : Nat} {o : RO} : (ρ.ins id o).m id = some o := by simp [Env.ins]

theorem growBy_le (n : Nat) : ∀ (r c : Nat), c ≤ 2 * n + 192 → Builtin.growBy n r c ≤ 2 * n + 192
  | 0, c, h => by simpa [Builtin.growBy] using h
  | r + 1, c, h => by
    simp only [Builtin.growBy]
    split
    · exact h
    · exact growBy_le n r _ (by omega)

theorem nextcap_le {need cap : Nat} (h : cap < need) : Builtin.nextslicecap need cap ≤ 2 * need + 192 := by
  unfold Builtin.nextslicecap
  split
  · omega
  · split
    · omega
    · exact growBy_le need 4 cap (by omega)

theorem src_run {sz : Nat} {v : V} {x : Value} {K : List D → Prop} (hv : v.rep w ρ x) (h : srcK sz K v) :
    ∃ ys vs, K ys ∧ D.repL w (own ρ) ys vs ∧ (∀ y ∈ ys, y.sz = sz) ∧ (∀ w', (Builtin.lenOf x).run P w' = .ok ys.length w') ∧ ∀ w', w'.heap = w.heap → (Builtin.firstCells sz ys.length x).run P w' = .ok vs.toArray w' := by
  unfold srcK at h
  split at h
  · rename_i z ys
    obtain ⟨rfl, h⟩ := h
    rw [rep_list] at hv
    rcases hv with ⟨rfl, rfl⟩ | ⟨ad, cap, vs, rfl, hcap, hce, hre, hu⟩
    · exact ⟨[], [], h, by simp [D.repL], by simp, fun w' => by simp [Builtin.lenOf], fun w' _ => by simp [Builtin.firstCells]⟩
    · refine ⟨ys, vs, h, hre, hu, fun w' => by simp [Builtin.lenOf], fun w' hw => ?_⟩
      have hl : vs.length = ys.length * z := by rw [D.repL_len _ _ hre, D.szs_uniform _ hu]
      simp only [Builtin.firstCells, ← hl]
      exact run_loadCells_list w' ad vs (fun j u hj => by
        obtain ⟨hj', e⟩ := List.getElem?_eq_some_iff.1 hj
        have hne : vs ≠ [] := by intro h; simp [h] at hj'
        rw [Addr.add_eq (hce.1 hne).1, cell?_congr (w := w) (w' := w') (by rw [hw]), ← e]
        exact hce.2 j hj')
  · rw [rep_nils] at hv
    subst hv
    exact ⟨[], [], h, by simp [D.repL], by simp, fun w' => by simp [Builtin.lenOf], fun w' _ => by simp [Builtin.firstCells]⟩
  · exact h.elim

structure AppT (P : Program) (t t2 E sz B : Nat) : Prop where
  u1 : P.underlying t = some (.slice E)
  u2 : (∃ e, P.underlying t2 = some (.slice e)) ∨ P.underlying t2 = some .string
  info : ∃ i z, P.info? E = some i ∧ i.size = sz ∧ i.bytes = B ∧ i.zero = some z ∧ z.cells.size = sz
  b0 : B ≠ 0
  s0 : sz ≠ 0

theorem app_grow {t t2 ty E sz B : Nat} (T : AppT P t t2 E sz B) {base : Option Addr} {sLen sCap n : Nat} {x : Value} {cs vs : List Value}
    (hx : ∀ w', (Builtin.lenOf x).run P w' = .ok n w') (hf : ∀ w', w'.heap = w.heap → (Builtin.firstCells sz n x).run P w' = .ok vs.toArray w')
    (ho : ∀ w', w'.heap = w.heap → (Builtin.firstCells sz sLen (.slice base sLen sCap)).run P w' = .ok cs.toArray w') (hneed : sCap < sLen + n) (hB : (2 * (sLen + n) + 192) * B ≤ 281474976710656) :
    ∃ newCap rest, sLen + n ≤ newCap ∧ rest.length = (newCap - (sLen + n)) * sz ∧
      (Builtin.append_ #[t, t2] ty #[.slice base sLen sCap, x]).run P w = .ok (.slice (some ⟨w.heap.size, 0, none⟩) (sLen + n) newCap) (addB { w with drawn := w.drawn + 1 } (.cells ((cs ++ vs) ++ rest).toArray E)) := by
  obtain ⟨i, z, hi, h1, h2, h3, h4⟩ := T.info
  have hsz : sizeT P E = some sz := by simp [sizeT, hi, h1]
  have hti : ∀ w', (typeInfo E).run P w' = .ok i w' := fun w' => by simp [typeInfo, hi]
  have hzv : ∀ w', (zeroValue E).run P w' = .ok z w' := fun w' => by simp [zeroValue, typeInfo, hi, h3]
  have hcap := nextcap_le hneed
  have hle : Builtin.nextslicecap (sLen + n) sCap * B ≤ 281474976710656 := Nat.le_trans (Nat.mul_le_mul_right B hcap) hB
  have hq : (Question.appendCap (sLen + n) sCap E).forced = false := rfl
  refine ⟨(Question.appendCap (sLen + n) sCap E).cut (w.tape w.drawn (.appendCap (sLen + n) sCap E)), (Builtin.zeroCells z.cells ((Question.appendCap (sLen + n) sCap E).cut (w.tape w.drawn (.appendCap (sLen + n) sCap E)) - (sLen + n))).toList, ?_, ?_, ?_⟩
  · simp [Question.cut]
  · simp [Builtin.zeroCells, h4]
  · generalize hc : (Question.appendCap (sLen + n) sCap E).cut (w.tape w.drawn (.appendCap (sLen + n) sCap E)) = newCap
    unfold Builtin.append_
    have e0 : (#[t, t2] : Array TypeId)[0]? = some t := rfl
    have e1 : (#[t, t2] : Array TypeId)[1]? = some t2 := rfl
    rcases T.u2 with ⟨e2, u2⟩ | u2
    all_goals
      simp only [e0, e1, List.getElem?_toArray, List.getElem?_cons_zero, List.getElem?_cons_succ, Sem.run_bind, underlying_run T.u1, underlying_run u2, Result.andThen_ok, info_size hsz, Sem.run_pure, hx, Bool.false_eq_true, if_false, Bool.not_false, if_true]
      rw [if_neg (by omega)]
      have hb : ¬ (Builtin.nextslicecap (sLen + n) sCap * B > 2 ^ 48) := by omega
      simp only [hb, T.b0, or_self, and_false, if_false, Sem.run_bind, run_choose, hq, Bool.false_eq_true, hc, Result.andThen_ok, run_askRoom, hti, h2, ho { w with drawn := w.drawn + 1 } rfl, hf { w with drawn := w.drawn + 1 } rfl, hzv, newRow, run_newObj, Sem.run_pure]
      have e3 : (cs.toArray ++ vs.toArray) ++ Builtin.zeroCells z.cells (newCap - (sLen + n)) = ((cs ++ vs) ++ (Builtin.zeroCells z.cells (newCap - (sLen + n))).toList).toArray := by apply Array.ext'; simp
      rw [e3]
      rfl

theorem app_room {t t2 ty E sz B : Nat} (T : AppT P t t2 E sz B) {b sLen sCap n : Nat} {x : Value} {cs sp vs : List Value}
    (hx : ∀ w', (Builtin.lenOf x).run P w' = .ok n w') (hf : ∀ w', w'.heap = w.heap → (Builtin.firstCells sz n x).run P w' = .ok vs.toArray w')
    (hb : w.heap[b]? = some (.cells (List.toArray (cs ++ sp)) E (0, 0))) (hcs : cs.length = sLen * sz) (hvs : vs.length = n * sz) (hlen : (cs ++ sp).length = sCap * sz) (hone : ∀ v ∈ vs, v.oneCell' = true) (hneed : sLen + n ≤ sCap) :
    (Builtin.append_ #[t, t2] ty #[.slice (some ⟨b, 0, none⟩) sLen sCap, x]).run P w = .ok (.slice (some ⟨b, 0, none⟩) (sLen + n) sCap) (w.setRow b ((cs ++ vs) ++ sp.drop vs.length).toArray) := by
  obtain ⟨i, z, hi, h1, h2, h3, h4⟩ := T.info
  have hsz : sizeT P E = some sz := by simp [sizeT, hi, h1]
  unfold Builtin.append_
  have e0 : (#[t, t2] : Array TypeId)[0]? = some t := rfl
  have e1 : (#[t, t2] : Array TypeId)[1]? = some t2 := rfl
  have hsum : sLen * sz + n * sz ≤ sCap * sz := by rw [← Nat.add_mul]; exact Nat.mul_le_mul_right sz hneed
  have hrun := run_storeCells_at (P := P) b (sLen * sz) E vs 0 (cs ++ sp).toArray w hb (by rw [hvs, List.size_toArray, hlen]; omega) hone
  have hadd : (⟨b, 0, none⟩ : Addr).add (sLen * sz) = ⟨b, sLen * sz, none⟩ := by rw [Addr.add_eq rfl]; simp
  rcases T.u2 with ⟨e2, u2⟩ | u2
  all_goals
    simp only [e0, e1, List.getElem?_toArray, List.getElem?_cons_zero, List.getElem?_cons_succ, Sem.run_bind, underlying_run T.u1, underlying_run u2, Result.andThen_ok, info_size hsz, Sem.run_pure, hx, Bool.false_eq_true, if_false, Bool.not_false, if_true]
    rw [if_pos hneed]
    simp only [Sem.run_bind, hf w rfl, Result.andThen_ok, hadd, hrun, Sem.run_pure]
    congr 3
    rw [Nat.add_zero, ← hcs]
    simp [List.drop_append]

theorem app_none {t t2 ty E sz B : Nat} (T : AppT P t t2 E sz B) {x : Value}
    (hx : ∀ w', (Builtin.lenOf x).run P w' = .ok 0 w') (hf : ∀ w', w'.heap = w.heap → (Builtin.firstCells sz 0 x).run P w' = .ok #[] w') :
    (Builtin.append_ #[t, t2] ty #[.slice none 0 0, x]).run P w = .ok (.slice none 0 0) w := by
  obtain ⟨i, z, hi, h1, h2, h3, h4⟩ := T.info
  have hsz : sizeT P E = some sz := by simp [sizeT, hi, h1]
  unfold Builtin.append_
  rcases T.u2 with ⟨e2, u2⟩ | u2 <;> simp [underlying_run T.u1, underlying_run u2, info_size hsz, hx, hf w rfl]

theorem app_core {t t2 ty E sz B : Nat} (T : AppT P t t2 E sz B) (hO : OM w ρ ob) {id : Nat} {xs ys : List D} {s x : Value} {vs : List Value} (hl : lookO ob id = some (.arr E sz xs))
    (hs : (V.sl id xs.length).rep w ρ s) (hre : D.repL w (own ρ) ys vs) (hu : ∀ y ∈ ys, y.sz = sz)
    (hx : ∀ w', (Builtin.lenOf x).run P w' = .ok ys.length w') (hf : ∀ w', w'.heap = w.heap → (Builtin.firstCells sz ys.length x).run P w' = .ok vs.toArray w')
    (hB : (2 * (xs.length + ys.length) + 192) * B ≤ 281474976710656) :
    ∃ v w' ρ', (Builtin.append_ #[t, t2] ty #[s, x]).run P w = .ok v w' ∧ Tr w ρ w' ρ' ∧ OM w' ρ' (setO ob id (.arr E sz (xs ++ ys))) ∧ (V.sl id (xs.length + ys.length)).rep w' ρ' v := by
  rw [rep_sl] at hs
  obtain ⟨o, hρ, hs⟩ := hs
  have h1 := hO.one id _ hl
  have hvl : vs.length = ys.length * sz := by rw [D.repL_len _ _ hre, D.szs_uniform _ hu]
  -- a new row, from whatever was there
  have grow : ∀ (base : Option Addr) (sCap : Nat) (cs : List Value), s = .slice base xs.length sCap → D.repL w (own ρ) xs cs → (∀ y ∈ xs, y.sz = sz) →
      (∀ w', w'.heap = w.heap → (Builtin.firstCells sz xs.length (.slice base xs.length sCap)).run P w' = .ok cs.toArray w') → sCap < xs.length + ys.length →
      (o = .virt ∧ xs.length = 0 ∨ ∃ b c, o = .arr b xs.length c) → xs.length ≤ sCap →
      ∃ v w' ρ', (Builtin.append_ #[t, t2] ty #[s, x]).run P w = .ok v w' ∧ Tr w ρ w' ρ' ∧ OM w' ρ' (setO ob id (.arr E sz (xs ++ ys))) ∧ (V.sl id (xs.length + ys.length)).rep w' ρ' v := by
    intro base sCap cs es hxs hux hold hneed ho hlc
    subst es
    obtain ⟨newCap, rest, g1, g2, g3⟩ := app_grow (ty := ty) T hx hf hold hneed hB
    have he : Ext w (addB { w with drawn := w.drawn + 1 } (.cells ((cs ++ vs) ++ rest).toArray E)) := (Ext.drew w _).trans (ext_add _ _)
    have t1 : Tr w ρ (addB { w with drawn := w.drawn + 1 } (.cells ((cs ++ vs) ++ rest).toArray E)) (ρ.ins id (.arr w.heap.size (xs.length + ys.length) newCap)) := by
      refine ⟨he.size, fun b _ h => he.keep b h, fun b h => ?_, rfl, rfl, fun j p hp => ?_, he.tape, he.os, he.out⟩
      · obtain ⟨j, p, q1, q2⟩ := h
        simp only [Env.ins] at q1
        split at q1
        · simp at q1; subst q1; simp [RO.blk?] at q2; exact .inr (by omega)
        · exact .inl ⟨j, p, q1, q2⟩
      · by_cases ej : j = id
        · subst ej
          refine ⟨_, ins_self, .grow (n := xs.length) (by omega) ?_⟩
          rw [hρ] at hp; simp at hp; subst hp
          exact ho
        · exact ⟨p, by simp [Env.ins, ej, hp], .refl p⟩
    refine ⟨_, _, _, g3, t1, grow_obj hO hl t1 (.inr ⟨w.heap.size, newCap, cs ++ vs, rest, by simp [Env.ins], add_new _ _, D.repL_append (D.repL_mono t1.mono _ _ hxs) (D.repL_mono t1.mono _ _ hre), ?_, ?_⟩) (fun b hb => ?_) (fun j p b hj h2 h3 => he.keep b (own_lt hO h2 h3)), ?_⟩
    · intro y hy
      rcases List.mem_append.1 hy with hy | hy
      · exact hux y hy
      · exact hu y hy
    · have hcl : cs.length = xs.length * sz := by rw [D.repL_len _ _ hxs, D.szs_uniform _ hux]
      rw [List.length_append, List.length_append, g2, hcl, hvl, ← Nat.add_mul, ← Nat.add_mul]
      congr 1; omega
    · simp [RO.blk?] at hb; exact .inl (by omega)
    · rw [rep_sl]
      refine ⟨_, ins_self, ?_⟩
      exact ⟨Nat.le_refl _, ⟨_, _, _, rfl⟩, fun _ => rfl⟩
  rcases h1 with ⟨h1, rfl⟩ | ⟨b, cap, cs, sp, h1, h2, h3, h4, h5⟩
  · -- nothing yet
    rw [hρ] at h1; simp at h1; subst h1
    simp only [RO.slice] at hs
    obtain ⟨_, rfl⟩ := hs
    by_cases hy : ys = []
    · subst hy
      have hv0 : vs = [] := by simpa using hvl
      subst hv0
      refine ⟨_, w, ρ, app_none T hx (fun w' hw => hf w' hw), Tr.refl _ _, ?_, ?_⟩
      · refine ⟨fun j y hy => ?_, fun j p hp => ?_, hO.inj, hO.xlt, hO.glb, hO.xdis, hO.once.set⟩
        · rw [lookO_setO ob id j ⟨_, hl⟩] at hy
          split at hy
          · rename_i e; subst e; simp at hy; subst hy; exact .inl ⟨hρ, rfl⟩
          · exact hO.one j y hy
        · rw [lookO_setO ob id j ⟨_, hl⟩]
          split
          · exact ⟨_, rfl⟩
          · exact hO.dom j p hp
      · rw [rep_sl]; exact ⟨_, hρ, rfl, rfl⟩
    · refine grow none 0 [] rfl (by simp [D.repL]) (by simp) (fun w' _ => by simp [Builtin.firstCells]) ?_ (.inl ⟨rfl, rfl⟩) (Nat.le_refl _)
      cases ys with
      | nil => exact absurd rfl hy
      | cons y r => simp
  · rw [hρ] at h1; simp at h1; subst h1
    obtain ⟨_, _, hs⟩ := hs
    have hs := hs rfl
    have hcl : cs.length = xs.length * sz := by rw [D.repL_len _ _ h3, D.szs_uniform _ h4]
    have hlc : xs.length ≤ cap := by
      have : xs.length * sz ≤ cap * sz := by rw [← h5, ← hcl]; simp
      exact Nat.le_of_mul_le_mul_right this (Nat.pos_of_ne_zero T.s0)
    by_cases hroom : xs.length + ys.length ≤ cap
    · subst hs
      have hrun := app_room (ty := ty) T hx hf h2 hcl hvl h5 (D.ones ys vs hre) hroom
      have t1 : Tr w ρ (w.setRow b ((cs ++ vs) ++ sp.drop vs.length).toArray) (ρ.ins id (.arr b (xs.length + ys.length) cap)) := by
        refine ⟨by simp, fun j hj _ => setRow_other w b j _ (fun e => hj ?_), fun j h => ?_, rfl, rfl, fun j p hp => ?_, rfl, rfl, rfl⟩
        · subst e; exact ⟨id, _, hρ, rfl⟩
        · obtain ⟨k, p, q1, q2⟩ := h
          simp only [Env.ins] at q1
          split at q1
          · simp at q1; subst q1; simp [RO.blk?] at q2; subst q2; exact .inl ⟨id, _, hρ, rfl⟩
          · exact .inl ⟨k, p, q1, q2⟩
        · by_cases ej : j = id
          · subst ej
            rw [hρ] at hp; simp at hp; subst hp
            refine ⟨_, ins_self, ?_⟩
            cases ys with
            | nil => exact .refl _
            | cons y r => exact .grow (n := xs.length) (by simp) (.inr ⟨_, _, rfl⟩)
          · exact ⟨p, by simp [Env.ins, ej, hp], .refl p⟩
      refine ⟨_, _, _, hrun, t1, grow_obj hO hl t1 (.inr ⟨b, cap, cs ++ vs, sp.drop vs.length, by simp [Env.ins], setRow_heap w b _ _ E _ h2, D.repL_append (D.repL_mono t1.mono _ _ h3) (D.repL_mono t1.mono _ _ hre), ?_, ?_⟩) (fun b' hb => ?_) (fun j p b' hj q1 q2 => setRow_other w b b' _ (fun e => hj ?_)), ?_⟩
      · intro y hy
        rcases List.mem_append.1 hy with hy | hy
        · exact h4 y hy
        · exact hu y hy
      · have hsum : xs.length * sz + ys.length * sz ≤ cap * sz := by rw [← Nat.add_mul]; exact Nat.mul_le_mul_right sz hroom
        simp only [List.length_append, List.length_drop] at h5 ⊢
        omega
      · simp [RO.blk?] at hb; subst hb; exact .inr ⟨_, hρ, rfl⟩
      · subst e; exact hO.inj j id _ _ _ q1 hρ q2 rfl
      · rw [rep_sl]
        refine ⟨_, ins_self, ?_⟩
        exact ⟨Nat.le_refl _, ⟨_, _, _, rfl⟩, fun _ => rfl⟩
    · refine grow (some ⟨b, 0, none⟩) cap cs hs h3 h4 (fun w' hw => ?_) (by omega) (.inr ⟨_, _, rfl⟩) hlc
      simp only [Builtin.firstCells, ← hcl]
      exact run_loadCells_list w' _ cs (fun j u hj => by
        obtain ⟨hj', e⟩ := List.getElem?_eq_some_iff.1 hj
        rw [Addr.add_eq rfl, cell?_congr (w := w) (w' := w') (by rw [hw])]
        simp [World.cell?, h2, List.getElem?_append, hj', e])

theorem app_fin {u v : Operand} {t t2 E sz B : Nat} {vx : V} {ys : List D} {vs : List Value} (T : AppT P t t2 E sz B) (r1 : vx.rep w ρ (a.eval u)) (hO : OM w ρ ob) (hK : appK E sz B ob ys K vx)
    (hre : D.repL w (own ρ) ys vs) (hu : ∀ y ∈ ys, y.sz = sz) (hx : ∀ w', (Builtin.lenOf (a.eval v)).run P w' = .ok ys.length w')
    (hf : ∀ w', w'.heap = w.heap → (Builtin.firstCells sz ys.length (a.eval v)).run P w' = .ok vs.toArray w') : Does P a w ρ (.call { callee := .builtin .append, args := #[u, v], argTypes := #[t, t2] }) K Pn := by
  have hrun : ∀ (w' : World) (val : Value) (o : Oper), o.op = .call { callee := .builtin .append, args := #[u, v], argTypes := #[t, t2] } → (Builtin.append_ #[t, t2] o.type #[a.eval u, a.eval v]).run P w = .ok val w' → (execOp a.eval o).run P w = .ok (.value val) w' := by
    intro w' val o ho hr
    simp only [execOp, ho, resolve, invoke, builtin, Sem.run_bind, Sem.run_pure, Result.andThen_ok, List.map_toArray, List.map_cons, List.map_nil, hr]
  unfold appK at hK
  split at hK
  · rename_i id n
    unfold appKo at hK
    split at hK
    · rename_i E' sz' xs hl
      obtain ⟨rfl, rfl, rfl, hB, hK⟩ := hK
      intro o ho next Q hn _
      obtain ⟨val, w', ρ', g1, g2, g3, g4⟩ := app_core (ty := o.type) T hO hl r1 hre hu hx hf hB
      unfold Oper.wp
      rw [hrun w' val o ho g1]
      exact hn val _ _ w' ρ' hK g4 g3 g2
    · exact hK.elim
  · obtain ⟨hB, hK⟩ := hK
    have hl := fresh_none ob
    rw [rep_nils] at r1
    have hbl : ∀ b, RO.virt.blk? = some b → w.heap.size ≤ b := fun b hb => by simp [RO.blk?] at hb
    have t1 := ins_tr w (Ext.refl w) (o := .virt) (hO.free hl) hbl
    have o1 : OM w (ρ.ins (fresh ob) .virt) ((fresh ob, .arr E sz []) :: ob) := hO.ins (Ext.refl w) hl hbl (.inl ⟨ins_self, rfl⟩)
    have q1 : (V.sl (fresh ob) ([] : List D).length).rep w (ρ.ins (fresh ob) .virt) (a.eval u) := by
      rw [rep_sl]; exact ⟨_, ins_self, rfl, r1⟩
    intro o ho next Q hn _
    obtain ⟨val, w', ρ', g1, g2, g3, g4⟩ := app_core (ty := o.type) (ys := ys) T o1 (by simp [lookO]) q1 (D.repL_mono t1.mono _ _ hre) hu hx hf (by simpa using hB)
    unfold Oper.wp
    rw [hrun w' val o ho g1]
    simp only [setO, if_true, List.nil_append, List.length_nil, Nat.zero_add] at g3 g4
    exact hn val _ _ w' ρ' hK g4 g3 (t1.trans g2)
  · exact hK.elim

theorem does_app (hs : SM w ρ sl a) (hO : OM w ρ ob) {op : Op} {E sz B : Nat} {x y : A} (hc : I.chk P op (.app E sz B x y) = true)
    (h : srcK sz (fun ys => appK E sz B ob ys K (x.ev sl)) (y.ev sl)) : Does P a w ρ op K Pn := by
  cases op <;> simp only [I.chk, Bool.false_eq_true] at hc
  rename_i c
  obtain ⟨ca, args, ts⟩ := c
  cases ca <;> (try simp only [Bool.false_eq_true] at hc)
  rename_i b
  cases b <;> (try simp only [Bool.false_eq_true] at hc)
  split at hc
  · rename_i u v t t2 e1 e2
    simp only [Bool.and_eq_true] at hc
    obtain ⟨⟨⟨⟨h0, h1⟩, h2⟩, h3⟩, h4⟩ := hc
    have ea : args = #[u, v] := by simpa using congrArg List.toArray e1
    have et : ts = #[t, t2] := by simpa using congrArg List.toArray e2
    subst ea et
    have T : AppT P t t2 E sz B := by
      cases hi : P.info? E with
      | none => simp [hi] at h1
      | some i =>
        simp only [hi, Bool.and_eq_true, beq_iff_eq, bne_iff_ne, ne_eq] at h1
        obtain ⟨⟨⟨⟨⟨g1, g2⟩, g3⟩, g4⟩, g5⟩, g6⟩ := h1
        obtain ⟨z, hz⟩ := Option.isSome_iff_exists.1 g5
        rw [hz] at g6
        simp at g6
        refine ⟨?_, ?_, ⟨i, z, hi, g1, g2, hz, g6⟩, by rw [← g2]; exact g3, by rw [← g1]; exact g4⟩
        · revert h0; split <;> simp_all
        · left; revert h2; split <;> simp_all
    have r1 := A.sound hs h3
    have r2 := A.sound hs h4
    obtain ⟨ys, vs, hK, hre, hu, hx, hf⟩ := src_run (P := P) r2 h
    exact app_fin T r1 hO hK hre hu hx hf
  · simp at hc

theorem bytesD_sz (s : List UInt8) : ∀ x ∈ bytesD s, x.sz = 1 := by
  induction s with
  | nil => simp [bytesD]
  | cons b r ih => simp only [bytesD, List.mem_cons]; rintro x (rfl | h); exact rfl; exact ih x h
theorem bytesD_length (s : List UInt8) : (bytesD s).length = s.length := by
  induction s with
  | nil => rfl
  | cons b r ih => simp [bytesD, ih]
theorem bytesD_rep {ow : Nat → Prop} : ∀ (s : List UInt8) (cs : List Value), D.repL w ow (bytesD s) cs ↔ cs = s.map fun b => .int .u8 b.toNat
  | [], cs => by simp [bytesD, D.repL]
  | b :: r, cs => by
    simp only [bytesD, D.repL, D.rep, List.map_cons, bytesD_rep r]
    constructor
    · rintro ⟨c1, c2, rfl, rfl, rfl⟩; rfl
    · rintro rfl; exact ⟨_, _, rfl, rfl, rfl⟩

theorem does_appS (hs : SM w ρ sl a) (hO : OM w ρ ob) {op : Op} {E B : Nat} {x y : A} (hc : I.chk P op (.appS E B x y) = true)
    (h : srcSK (fun ys => appK E 1 B ob ys K (x.ev sl)) (y.ev sl)) : Does P a w ρ op K Pn := by
  cases op <;> simp only [I.chk, Bool.false_eq_true] at hc
  rename_i c
  obtain ⟨ca, args, ts⟩ := c
  cases ca <;> (try simp only [Bool.false_eq_true] at hc)
  rename_i b
  cases b <;> (try simp only [Bool.false_eq_true] at hc)
  split at hc
  · rename_i u v t t2 e1 e2
    simp only [Bool.and_eq_true] at hc
    obtain ⟨⟨⟨⟨h0, h1⟩, h2⟩, h3⟩, h4⟩ := hc
    have ea : args = #[u, v] := by simpa using congrArg List.toArray e1
    have et : ts = #[t, t2] := by simpa using congrArg List.toArray e2
    subst ea et
    have T : AppT P t t2 E 1 B := by
      cases hi : P.info? E with
      | none => simp [hi] at h1
      | some i =>
        simp only [hi, Bool.and_eq_true, beq_iff_eq, bne_iff_ne, ne_eq] at h1
        obtain ⟨⟨⟨⟨g1, g2⟩, g3⟩, g5⟩, g6⟩ := h1
        obtain ⟨z, hz⟩ := Option.isSome_iff_exists.1 g5
        rw [hz] at g6
        simp at g6
        refine ⟨?_, ?_, ⟨i, z, hi, g1, g2, hz, g6⟩, by rw [← g2]; exact g3, by omega⟩
        · revert h0; split <;> simp_all
        · right; revert h2; split <;> simp_all
    have r1 := A.sound hs h3
    have r2 := A.sound hs h4
    unfold srcSK at h
    split at h
    · rename_i s e3
      rw [e3, rep_str] at r2
      have hlen : (bytesD s).length = s.length := bytesD_length s
      refine app_fin T r1 hO h ((bytesD_rep s _).2 rfl) (bytesD_sz s) (fun w' => ?_) (fun w' _ => ?_)
      · rw [r2, hlen]; simp [Builtin.lenOf, byteSize]
      · rw [r2, hlen]
        simp only [Builtin.firstCells, Sem.run_pure]
        congr 1
        apply Array.ext'
        simp [ByteArray.data_extract]
    · exact h.elim
  · simp at hc

theorem does_cvb (hs : SM w ρ sl a) (hO : OM w ρ ob) {op : Op} {x : A} (hc : I.chk P op (.cvb x) = true) (h : cvbK ob K (x.ev sl)) : Does P a w ρ op K Pn := by
  cases op <;> simp only [I.chk, Bool.false_eq_true] at hc
  rename_i s t y
  simp only [Bool.and_eq_true, beq_iff_eq] at hc
  obtain ⟨⟨rfl, h0⟩, h2⟩ := hc
  have r1 := A.sound hs h2
  obtain ⟨e, hs1, he⟩ : ∃ e, P.underlying s = some (.slice e) ∧ P.underlying e = some (.int .u8) := by
    cases hu : P.underlying s with
    | none => simp [hu] at h0
    | some d =>
      cases d <;> simp [hu] at h0
      rename_i e
      refine ⟨e, rfl, ?_⟩
      revert h0; split <;> simp_all
  unfold cvbK at h
  split at h
  · rename_i id n e1
    unfold cvbKo at h
    split at h
    · rename_i E sz xs hl
      obtain ⟨hsz, rfl, hne, hK⟩ := h
      rw [e1] at r1
      have r3 := give_arr hO hl hsz r1
      rw [rep_sl] at r1
      obtain ⟨o, hρ, hv⟩ := r1
      rcases hO.one id _ hl with ⟨h1, rfl⟩ | ⟨b, cap, cs, sp, h1, h2, h3, h4, h5⟩
      · exact absurd rfl hne
      · rw [hρ] at h1; simp at h1; subst h1
        have hu := hv.2.2 rfl
        have hw : ∃ w2, w2.heap.size = w.heap.size ∧ (∀ j, j ≠ b → w2.heap[j]? = w.heap[j]?) ∧ w2.heap[b]? = some (.cells (List.toArray (cs ++ sp)) E ((cs ++ sp).length, (cs ++ sp).length + 1)) ∧ w2.tape = w.tape ∧ w2.os = w.os ∧ w2.output = w.output ∧ (markStringish ⟨b, 0, none⟩).run P w = .ok () w2 := by
          have hsh : w.shape? b = some (E, (cs ++ sp).length) := by simp [World.shape?, h2]
          refine ⟨w.freeze ⟨b, (cs ++ sp).length, none⟩ 1, by simp [World.freeze], fun j hj => ?_, ?_, rfl, rfl, rfl, ?_⟩
          · simp only [World.freeze]
            simp [Array.getElem?_modify, Ne.symm hj]
          · simp only [World.freeze]
            simp [Array.getElem?_modify, h2]
          · simp only [markStringish, Sem.run_bind, run_shape, hsh, Result.andThen_ok, run_freeze]
        obtain ⟨w2, q1, q2, q3, q4, q5, q6, q7⟩ := hw
        obtain ⟨t1, o1, hno⟩ := give_upw hO (w2 := w2) ⟨_, hl⟩ q1 (fun j hj => q2 j (fun e => hj _ hρ (by rw [e]; rfl))) q4 q5 q6
        refine does_value (v := .slice (some ⟨b, 0, none⟩) xs.length cap) (fun o ho => ?_) hK ?_ o1 t1
        · simp only [execOp, ho, hu, convert, Sem.run_bind, underlying_run hs1, Result.andThen_ok, beq_self_eq_true, underlying_run he, q7, Sem.run_pure]
        · rw [rep_list]
          refine .inr ⟨_, cap, cs, rfl, ?_, ⟨fun _ => ⟨rfl, hno b _ hρ rfl, lt_of_some q3⟩, fun i hi => ?_⟩, D.repL_mono t1.mono _ _ h3, h4⟩
          · have hcl : cs.length = xs.length * sz := by rw [D.repL_len _ _ h3, D.szs_uniform _ h4]
            have : xs.length * sz ≤ cap * sz := by rw [← h5, ← hcl]; simp
            exact Nat.le_of_mul_le_mul_right this (Nat.pos_of_ne_zero hsz)
          · simp [World.cell?, q3, List.getElem?_append, hi]
    · exact h.elim
  · exact h.elim

theorem does_ustr (hs : SM w ρ sl a) (hO : OM w ρ ob) {op : Op} {E : Nat} {x y : A} (hc : I.chk P op (.ustr E x y) = true) (h : ustrK E ob K (x.ev sl) (y.ev sl)) : Does P a w ρ op K Pn := by
  cases op <;> simp only [I.chk, Bool.false_eq_true] at hc
  rename_i c
  obtain ⟨ca, args, ts⟩ := c
  cases ca <;> (try simp only [Bool.false_eq_true] at hc)
  rename_i b
  cases b <;> (try simp only [Bool.false_eq_true] at hc)
  split at hc
  · rename_i u v t t2 e1 e2
    have ea : args = #[u, v] := by simpa using congrArg List.toArray e1
    have et : ts = #[t, t2] := by simpa using congrArg List.toArray e2
    subst ea et
    simp only [Bool.and_eq_true] at hc
    obtain ⟨⟨h0, h1⟩, h2⟩ := hc
    have r1 := A.sound hs h1
    have r2 := A.sound hs h2
    obtain ⟨hp, hce⟩ : P.underlying t = some (.pointer E) ∧ P.cellsOf E = 1 := by
      split at h0
      · rename_i e he; simp only [Bool.and_eq_true, beq_iff_eq] at h0; obtain ⟨rfl, h0⟩ := h0; exact ⟨he, h0⟩
      · simp at h0
    have hrun : ∀ (w' : World) (val : Value) (o : Oper), o.op = .call { callee := .builtin .unsafeString, args := #[u, v], argTypes := #[t, t2] } → (Builtin.unsafeString_ #[t, t2] o.type #[a.eval u, a.eval v]).run P w = .ok val w' → (execOp a.eval o).run P w = .ok (.value val) w' := by
      intro w' val o ho hr
      simp only [execOp, ho, resolve, invoke, builtin, Sem.run_bind, Sem.run_pure, Result.andThen_ok, List.map_toArray, List.map_cons, List.map_nil, hr]
    unfold ustrK at h
    split at h
    · rename_i id n m e3 e4
      unfold ustrKo at h
      split at h
      · rename_i E' sz xs hl
        obtain ⟨rfl, rfl, rfl, rfl, h63, hne, s, rfl, hK⟩ := h
        rw [e3, rep_sd] at r1
        rw [e4, rep_int] at r2
        obtain ⟨o, hρ, hv⟩ := r1
        have hs0 : s ≠ [] := by intro e; subst e; exact hne rfl
        rcases hO.one id _ hl with ⟨h1, hx⟩ | ⟨b, cap, cs, sp, h1, h2, h3, h4, h5⟩
        · exact absurd hx hne
        · rw [hρ] at h1; simp at h1; subst h1
          have hu := hv.2.2 rfl (by simpa using hne)
          rw [bytesD_rep] at h3
          subst h3
          have hll : (bytesD s).length = s.length := bytesD_length s
          obtain ⟨t1, o1, hno⟩ := give_upw hO (w2 := w.freeze ⟨b, 0, none⟩ s.length) ⟨_, hl⟩ (by unfold World.freeze; split <;> simp) (fun j hj => by
            have : b ≠ j := fun e => hj _ hρ (by rw [e]; rfl)
            unfold World.freeze; split
            · rfl
            · simp [Array.getElem?_modify, this]) (by unfold World.freeze; split <;> rfl) (by unfold World.freeze; split <;> rfl) (by unfold World.freeze; split <;> rfl)
          refine does_value (v := .string ⟨s.toArray⟩) (fun o ho => hrun _ _ o ho ?_) hK (rep_str.2 rfl) o1 t1
          rw [hu, r2, hll]
          exact Lib.run_unsafeString_row (P := P) (w := w) t t2 _ E' hp hce b ((s.map fun b => Value.int .u8 b.toNat) ++ sp).length (by simp [World.shape?, h2]) s hs0 (by simp) (by omega) (fun j x hj => by
            obtain ⟨hj', e⟩ := List.getElem?_eq_some_iff.1 hj
            rw [Addr.add_eq rfl]
            simp [World.cell?, h2, List.getElem?_append, hj', e])
      · exact h.elim
    · rename_i m e3 e4
      obtain ⟨rfl, hK⟩ := h
      rw [e3, rep_nilp] at r1
      rw [e4, rep_int] at r2
      refine does_value (v := .string .empty) (fun o ho => hrun _ _ o ho ?_) hK (rep_str.2 rfl) hO (Tr.refl _ _)
      rw [r1, r2]
      exact Lib.run_unsafeString_none _ _ _ _ _
    · exact h.elim
  · simp at hc

theorem push_fold : ∀ (s : List UInt8) (l : List UInt8), (s.map fun b : UInt8 => ((b.toNat : Nat) : Int)).foldl (fun (r : ByteArray) (n : Int) => r.push (UInt8.ofNat n.toNat)) ⟨l.toArray⟩ = ⟨(l ++ s).toArray⟩
  | [], l => by simp
  | b :: r, l => by
    simp only [List.map_cons, List.foldl_cons]
    have : (ByteArray.mk l.toArray).push (UInt8.ofNat ((b.toNat : Nat) : Int).toNat) = ⟨(l ++ [b]).toArray⟩ := by
      apply ByteArray.ext; simp [ByteArray.push]
    rw [this, push_fold r (l ++ [b])]
    simp

theorem does_b2s (hs : SM w ρ sl a) (hO : OM w ρ ob) {op : Op} {x : A} (hc : I.chk P op (.b2s x) = true) (h : b2sK (fun v => K v ob) (x.ev sl)) : Does P a w ρ op K Pn := by
  cases op <;> simp [I.chk] at hc
  rename_i s t y
  obtain ⟨⟨h0, h1⟩, h2⟩ := hc
  have r1 := A.sound hs h2
  obtain ⟨e, hs1, he, hsz⟩ : ∃ e, P.underlying s = some (.slice e) ∧ P.underlying e = some (.int .u8) ∧ sizeT P e = some 1 := by
    cases hu : P.underlying s with
    | none => simp [hu] at h0
    | some d =>
      cases d <;> simp [hu] at h0
      rename_i e
      refine ⟨e, rfl, ?_, h0.2⟩
      have := h0.1
      revert this; split <;> simp_all
  have ht : P.underlying t = some .string := by revert h1; split <;> simp_all
  have hcv : ∀ (ad : Option Addr) (l c : Nat) (o : Oper), o.op = .convert s t y → a.eval y = .slice ad l c → (execOp a.eval o).run P w = ((Conv.bytesToString (.slice ad l c)).run P w).andThen fun v w' => .ok (.value v) w' := by
    intro ad l c o ho hy
    simp only [execOp, ho, hy, convert, Sem.run_bind, underlying_run hs1, underlying_run ht, Result.andThen_ok, underlying_run he]
    simp
  unfold b2sK at h
  split at h
  · rename_i sz xs e1
    obtain ⟨rfl, bs, rfl, hK⟩ := h
    rw [e1, rep_list] at r1
    rcases r1 with ⟨hx, r1⟩ | ⟨ad, cap, vs, r1, hcap, hce, hre, hu⟩
    · have : bs = [] := by have := congrArg List.length hx; rw [bytesD_length] at this; exact List.eq_nil_of_length_eq_zero this
      subst this
      refine does_value (fun o ho => ?_) hK (rep_str.2 rfl) hO (Tr.refl _ _)
      rw [hcv _ _ _ o ho r1]
      simp [Conv.bytesToString]
      rfl
    · rw [bytesD_rep] at hre
      refine does_value (fun o ho => ?_) hK (rep_str.2 rfl) hO (Tr.refl _ _)
      rw [hcv _ _ _ o ho r1, run_bytesToString w ad _ cap (bs.map fun b => ((b.toNat : Nat) : Int)) ?_]
      · have := push_fold bs []
        simp only [List.nil_append] at this
        simp only [Result.andThen_ok]
        rw [← this]
        rfl
      · have := run_loadCells_list (P := P) w ad vs (fun j u hj => by
          obtain ⟨hj', e⟩ := List.getElem?_eq_some_iff.1 hj
          have hne : vs ≠ [] := by intro h; simp [h] at hj'
          rw [Addr.add_eq (hce.1 hne).1, ← e]; exact hce.2 j hj')
        rw [bytesD_length]
        rw [show vs.length = bs.length by rw [hre]; simp] at this
        rw [this, hre]
        simp
  · rename_i e1
    rw [e1, rep_nils] at r1
    refine does_value (fun o ho => ?_) h (rep_str.2 rfl) hO (Tr.refl _ _)
    rw [hcv _ _ _ o ho r1]
    simp [Conv.bytesToString]
    rfl
  · exact h.elim

theorem adds_s2b (hs : SM w ρ sl a) (hO : OM w ρ ob) {op : Op} {x : A} (hc : I.chk P op (.s2b x) = true) (h : s2bK (fun v => K v ob) (x.ev sl)) : Adds P a w ρ op ob K := by
  cases op <;> simp [I.chk] at hc
  rename_i s t y
  obtain ⟨⟨h0, h1⟩, h2⟩ := hc
  have r1 := A.sound hs h2
  have hs1 : P.underlying s = some .string := by revert h0; split <;> simp_all
  obtain ⟨e, ht, he⟩ : ∃ e, P.underlying t = some (.slice e) ∧ P.underlying e = some (.int .u8) := by
    cases hu : P.underlying t with
    | none => simp [hu] at h1
    | some d =>
      cases d <;> simp [hu] at h1
      rename_i e
      refine ⟨e, rfl, ?_⟩
      revert h1; split <;> simp_all
  unfold s2bK at h
  split at h
  · rename_i bs e1
    rw [e1, rep_str] at r1
    have hq : (Question.appendCap bs.length 0 e).forced = false := rfl
    generalize hcap : (Question.appendCap bs.length 0 e).cut (w.tape w.drawn (.appendCap bs.length 0 e)) = cap
    have hge : bs.length ≤ cap := by rw [← hcap]; simp [Question.cut]
    let cs : List Value := (bs.map fun b => Value.int .u8 b.toNat) ++ List.replicate (cap - bs.length) (.int .u8 0)
    let w1 : World := addB { w with drawn := w.drawn + 1 } (.cells cs.toArray e)
    have hlen : cs.length = cap := by simp [cs]; omega
    have he1 : Ext w w1 := (Ext.drew w _).trans (ext_add _ _)
    have hn : w1.heap[w.heap.size]? = some (.cells cs.toArray e (0, 0)) := add_new _ _
    let w2 : World := w1.freeze ⟨w.heap.size, cap, none⟩ 1
    have hn2 : w2.heap[w.heap.size]? = some (.cells cs.toArray e (cap, cap + 1)) := by
      simp only [w2, World.freeze]
      simp [Array.getElem?_modify, hn]
    have hsz2 : w2.heap.size = w1.heap.size := by simp [w2, World.freeze]
    have he2 : Ext w w2 := by
      refine ⟨by rw [hsz2]; exact he1.size, fun b hb => ?_, he1.tape, he1.os, he1.out⟩
      rw [← he1.keep b hb]
      simp only [w2, World.freeze]
      simp [Array.getElem?_modify, Nat.ne_of_gt hb]
    refine ⟨.slice (some ⟨w.heap.size, 0, none⟩) bs.length cap, _, w2, h, rep_list.2 (.inr ⟨⟨w.heap.size, 0, none⟩, cap, bs.map fun b => Value.int .u8 b.toNat, by rw [bytesD_length], by rw [bytesD_length]; exact hge, ⟨fun _ => ⟨rfl, ?_, lt_of_some hn2⟩, fun i hi => ?_⟩, (bytesD_rep bs _).2 rfl, bytesD_sz bs⟩), he2, fun o ho => ?_⟩
    rotate_left 2
    · simp only [execOp, ho, r1, convert, Sem.run_bind, underlying_run hs1, underlying_run ht, Result.andThen_ok, underlying_run he, Conv.stringToBytes, byteSize, run_choose, hq, Bool.false_eq_true, if_false, hcap, newRow, run_newObj, Sem.run_pure]
      have e3 : Array.map (fun b : UInt8 => Value.int IntKind.u8 b.toNat) (ByteArray.mk bs.toArray).data ++ Array.replicate (cap - bs.length) (Value.int IntKind.u8 0) = cs.toArray := by
        apply Array.ext'; simp [cs]
      rw [e3]
      have hsh : w1.shape? w.heap.size = some (e, cap) := by simp [World.shape?, hn, hlen]
      have hm : (markStringish ⟨w.heap.size, 0, none⟩).run P w1 = .ok () w2 := by
        simp only [markStringish, Sem.run_bind, run_shape, hsh, Result.andThen_ok, run_freeze]
        rfl
      show ((Sem.run P (markStringish ⟨w.heap.size, 0, none⟩) w1).andThen _).andThen _ = _
      rw [hm]
      simp
    · rintro (⟨j, p, q1, q2⟩ | q)
      · have := own_lt hO q1 q2; simp at this
      · have := hO.xlt _ q; simp at this
    · have hi' : i < bs.length := by simpa using hi
      simp [World.cell?, hn2, cs, List.getElem?_append, hi']
  · exact h.elim

theorem does_nilo (hs : SM w ρ sl a) (hO : OM w ρ ob) {op : Op} {E sz : Nat} {x : A} (hc : I.chk P op (.nilo E sz x) = true) (h : niloK E sz ob K (x.ev sl)) : Does P a w ρ op K Pn := by
  unfold niloK at h
  split at h
  · rename_i e1
    have hf := fresh_none ob
    have hbl : ∀ b, RO.virt.blk? = some b → w.heap.size ≤ b := fun b hb => by simp [RO.blk?] at hb
    have t1 := ins_tr w (Ext.refl w) (o := .virt) (hO.free hf) hbl
    have o1 : OM w (ρ.ins (fresh ob) .virt) ((fresh ob, .arr E sz []) :: ob) := hO.ins (Ext.refl w) hf hbl (.inl ⟨ins_self, rfl⟩)
    cases op <;> simp [I.chk] at hc
    all_goals
      have r1 := A.sound hs hc
      rw [e1, rep_nils] at r1
      exact does_value (fun o ho => by simp [execOp, ho]) h (rep_sl.2 ⟨.virt, ins_self, ⟨rfl, r1⟩⟩) o1 t1
  · exact h.elim

theorem does_mkm (hs : SM w ρ sl a) (hO : OM w ρ ob) {op : Op} {r : Option A} (hc : I.chk P op (.mkm r) = true) (h : mkmK sl r ∧ K (.mp (fresh ob)) ((fresh ob, .map []) :: ob)) : Does P a w ρ op K Pn := by
  cases op <;> simp only [I.chk, Bool.false_eq_true] at hc
  rename_i t hint
  simp only [Bool.and_eq_true] at hc
  obtain ⟨hm, hK⟩ := h
  obtain ⟨kt, et, ht⟩ : ∃ kt et, P.underlying t = some (.map kt et) := by
    have := hc.1
    revert this; split <;> simp_all
  obtain ⟨t1, o1, p1⟩ := lay_map hO (fresh_none ob)
  refine does_value (fun o ho => ?_) hK p1 o1 t1
  cases hint with
  | none =>
    simp only [execOp, ho, Option.map_none, Instr.makeMap, Sem.run_bind, run_newObj, Result.andThen_ok, Sem.run_pure]
    rfl
  | some x =>
    cases r with
    | none => simp [chkO] at hc
    | some y =>
      simp only [chkO] at hc
      have r1 := A.sound hs hc.2
      simp only [mkmK] at hm
      unfold isIntV at hm
      split at hm
      · rename_i k n e1
        rw [e1, rep_int] at r1
        simp only [execOp, ho, Option.map_some, Instr.makeMap, Sem.run_bind, underlying_run ht, run_newObj, Result.andThen_ok, Sem.run_pure, r1, asInt]
        rfl
      · exact hm.elim

theorem alike_key {k j : D} (h : D.alike k j = true) : ∃ u v, k.key = some u ∧ j.key = some v := by
  unfold D.alike at h
  split at h <;> first | exact ⟨_, _, rfl, rfl⟩ | cases h
theorem kind_alike {td : TypeDesc} {kd k : D} (h : kindOf td kd = true) (h2 : D.alike kd k = true) : kindOf td k = true := by
  unfold kindOf at h
  split at h
  · cases k <;> simp [D.alike] at h2 <;> rfl
  · cases k <;> simp [D.alike] at h2 <;> rfl
  · cases k <;> simp [D.alike] at h2 <;> rfl
  · cases h
theorem sameNow_ok {td : TypeDesc} {k j : D} {u v : Value} (hk : kindOf td k = true) (ha : D.alike k j = true) (hu : k.key = some u) (hv : j.key = some v) : Instr.sameNow td u v = some (D.sameKey k j) := by
  cases k <;> cases j <;> simp only [D.alike, Bool.false_eq_true, decide_eq_true_eq] at ha <;> simp only [D.key, Option.some.injEq] at hu hv <;> subst hu <;> subst hv <;> cases td <;> simp only [kindOf, Bool.false_eq_true] at hk
  · subst ha; simp [Instr.sameNow, D.sameKey]
  · simp [Instr.sameNow, D.sameKey]
  · rename_i s t
    simp only [Instr.sameNow, D.sameKey, Option.some.injEq]
    rw [beq_toListBytes, toList_mk, toList_mk]
theorem find_ok {td : TypeDesc} {k : D} {u : Value} (hk : kindOf td k = true) (hu : k.key = some u) : ∀ (es : List (D × V)) (l : List MapEntry) (i : Nat), EntRep w ρ es l → (∀ e ∈ es, D.alike k e.1 = true) →
    (findE k es = none ∧ Instr.findNow td u l i = some none) ∨ ∃ v j e, findE k es = some v ∧ Instr.findNow td u l i = some (some (i + j, e.val)) ∧ l[j]? = some e ∧ v.rep w ρ e.val ∧ e.key = u
  | [], l, i, h, _ => by
    simp only [EntRep] at h; subst h
    exact .inl ⟨rfl, rfl⟩
  | (j, v) :: r, l, i, h, ha => by
    obtain ⟨e, l', rfl, h1, h2, h3⟩ := h
    have haj := ha (j, v) (by simp)
    have hs := sameNow_ok hk haj hu h1
    simp only [Instr.findNow, findE, hs]
    cases hsk : D.sameKey k j with
    | true =>
      refine .inr ⟨v, 0, e, by simp, by simp, by simp, h2, ?_⟩
      cases k <;> cases j <;> simp only [D.alike, Bool.false_eq_true, decide_eq_true_eq] at haj <;> simp only [D.sameKey, beq_iff_eq] at hsk <;> simp only [D.key, Option.some.injEq] at hu h1 <;> rw [← hu, ← h1] <;> simp_all
    | false =>
      rcases find_ok hk hu r l' (i + 1) h3 (fun x hx => ha x (by simp [hx])) with ⟨f1, f2⟩ | ⟨v', j', e', f1, f2, f3, f4, f5⟩
      · exact .inl ⟨by simpa using f1, by simpa using f2⟩
      · exact .inr ⟨v', j' + 1, e', by simpa using f1, by simp only [f2]; congr 3; omega, by simpa using f3, f4, f5⟩
theorem findKey_run {kt : TypeId} {td : TypeDesc} (ht : P.underlying kt = some td) {u : Value} {l : List MapEntry} {r : Option (Nat × Value)} (h : Instr.findNow td u l 0 = some r) (w' : World) : (Instr.findKey kt u l).run P w' = .ok r w' := by
  simp [Instr.findKey, underlying_run ht, h]
theorem checkKey_run {kt : TypeId} {td : TypeDesc} (ht : P.underlying kt = some td) {k : D} (hk : kindOf td k = true) (u : Value) (b : Bool) (w' : World) : (Instr.checkKey b 10000 kt u).run P w' = .ok () w' := by
  unfold Instr.checkKey
  simp only [Sem.run_bind, underlying_run ht, Result.andThen_ok]
  unfold kindOf at hk
  split at hk <;> first | (cases hk; done) | simp
theorem zero_rep {et : TypeId} {z : D} (h : (match zeroT P et with | some cs => D.isC z cs && (((P.info? et).bind (·.zero)).map fun v => match v with | .agg _ => true | _ => false) == some (V.d z).isAgg | none => false) = true) :
    ∃ zv, (V.d z).rep w ρ zv ∧ ∀ w', (zeroValue et).run P w' = .ok zv w' := by
  cases hzt : zeroT P et with
  | none => simp [hzt] at h
  | some cs =>
    simp only [hzt, Bool.and_eq_true, beq_iff_eq] at h
    obtain ⟨hz1, hz2⟩ := h
    obtain ⟨zv, e1, e2, hzr⟩ := zero_run hzt
    refine ⟨zv, ?_, hzr⟩
    have hr : (V.d z).repC w ρ cs := by simp only [V.repC]; exact D.isC_rep z cs hz1
    rw [e2] at hz2
    simp only [Option.map_some, Option.some.injEq] at hz2
    cases zv with
    | agg cs' =>
      simp only at hz2
      refine .inr (.inl ⟨hz2.symm, cs, ?_, hr⟩)
      simp only [Value.cells] at e1
      rw [← e1]
    | _ =>
      simp only at hz2
      refine .inr (.inr ⟨hz2.symm, ?_⟩)
      simp only [Value.cells] at e1
      rw [← e1] at hr
      simpa using hr
theorem does_lkp (hs : SM w ρ sl a) (hO : OM w ρ ob) {op : Op} {kd z : D} {ok : Bool} {m k : A} (hc : I.chk P op (.lkp kd z ok m k) = true) (h : lkpK ob kd z ok (fun v => K v ob) (m.ev sl) (k.ev sl)) : Does P a w ρ op K Pn := by
  cases op <;> simp only [I.chk, Bool.false_eq_true] at hc
  rename_i t x i o
  simp only [Bool.and_eq_true, beq_iff_eq] at hc
  obtain ⟨⟨⟨rfl, hty⟩, hx⟩, hi⟩ := hc
  obtain ⟨kt, et, ht, hkk, hz⟩ : ∃ kt et, P.underlying t = some (.map kt et) ∧ keyKind P kt kd = true ∧ (match zeroT P et with | some cs => D.isC z cs && (((P.info? et).bind (·.zero)).map fun v => match v with | .agg _ => true | _ => false) == some (V.d z).isAgg | none => false) = true := by
    revert hty; split
    · rename_i kt et h; intro h1; simp only [Bool.and_eq_true] at h1; exact ⟨kt, et, h, h1.1, h1.2⟩
    · intro h; cases h
  obtain ⟨td, htd, hkd⟩ : ∃ td, P.underlying kt = some td ∧ kindOf td kd = true := by
    unfold keyKind at hkk
    split at hkk
    · rename_i d hd; exact ⟨d, hd, hkk⟩
    · cases hkk
  obtain ⟨zv, hzv, hzr⟩ := zero_rep (w := w) (ρ := ρ) hz
  have r1 := A.sound hs hx
  have r2 := A.sound hs hi
  have tup : ∀ {v : V} {u : Value} (b : Bool), v.rep w ρ u → (V.tup [v, .d (.bool b)]).rep w ρ (.tuple #[u, .bool b]) := fun b hv => by
    rw [rep_tup]
    refine ⟨[_, .bool b], rfl, ?_⟩
    simp only [V.reps]
    exact ⟨_, _, rfl, hv, _, _, rfl, rep_bool.2 rfl, rfl⟩
  have keyRep : ∀ {d : D} {u v : Value}, d.key = some u → (V.d d).rep w ρ v → v = u := fun {d u v} h1 h2 => by
    cases d <;> simp only [D.key, Option.some.injEq, reduceCtorEq] at h1
    · rw [rep_int] at h2; rw [h2, ← h1]
    · rw [rep_bool] at h2; rw [h2, ← h1]
    · rw [rep_str] at h2; rw [h2, ← h1]
  unfold lkpK at h
  split at h
  · rename_i id kk e1 e2
    rw [e1] at r1
    rw [e2] at r2
    unfold lkpKo at h
    split at h
    · rename_i es hl
      obtain ⟨⟨ha0, hall⟩, hK⟩ := h
      obtain ⟨b, l, clk, g1, g2, g3⟩ := hO.one id _ hl
      rw [rep_mp] at r1
      rcases r1 with ⟨b', g4, r1⟩ | ⟨g4, _⟩
      · rw [g1] at g4; cases g4
        have hkk' := kind_alike hkd ha0
        obtain ⟨_, ku, _, hku⟩ := alike_key ha0
        have r2' := keyRep hku r2
        have hget : (getObj b).run P w = .ok (.map l.toArray clk) w := by simp [getObj, Sem.run, g2]
        rcases find_ok hkk' hku es l 0 g3 hall with ⟨f1, f2⟩ | ⟨v, j, e, f1, f2, f3, f4, f5⟩
        · rw [f1] at hK
          cases o
          · exact does_value (fun o ho => by simp [execOp, ho, Instr.lookup, r1, r2', underlying_run ht, hget, checkKey_run htd hkk', findKey_run htd f2, hzr]) hK hzv hO (Tr.refl _ _)
          · exact does_value (fun o ho => by simp [execOp, ho, Instr.lookup, r1, r2', underlying_run ht, hget, checkKey_run htd hkk', findKey_run htd f2, hzr]) hK (tup false hzv) hO (Tr.refl _ _)
        · rw [f1] at hK
          cases o
          · exact does_value (fun o ho => by simp [execOp, ho, Instr.lookup, r1, r2', underlying_run ht, hget, checkKey_run htd hkk', findKey_run htd f2]) hK f4 hO (Tr.refl _ _)
          · exact does_value (fun o ho => by simp [execOp, ho, Instr.lookup, r1, r2', underlying_run ht, hget, checkKey_run htd hkk', findKey_run htd f2]) hK (tup true f4) hO (Tr.refl _ _)
      · rw [g1] at g4; cases g4
    · exact h.elim
  · rename_i kk e1 e2
    rw [e1, rep_nilm] at r1
    rw [e2] at r2
    obtain ⟨ha0, hK⟩ := h
    have hkk' := kind_alike hkd ha0
    obtain ⟨_, ku, _, hku⟩ := alike_key ha0
    have r2' := keyRep hku r2
    have f2 : Instr.findNow td ku ([] : List MapEntry) 0 = some none := rfl
    cases o
    · exact does_value (fun o ho => by simp [execOp, ho, Instr.lookup, r1, r2', underlying_run ht, checkKey_run htd hkk', findKey_run htd f2, hzr]) hK hzv hO (Tr.refl _ _)
    · exact does_value (fun o ho => by simp [execOp, ho, Instr.lookup, r1, r2', underlying_run ht, checkKey_run htd hkk', findKey_run htd f2, hzr]) hK (tup false hzv) hO (Tr.refl _ _)
  · exact h.elim

theorem upd_ok {td : TypeDesc} {k : D} {u : Value} {x : V} {xv : Value} (hk : kindOf td k = true) (hu : k.key = some u) (hx : x.rep w ρ xv) (clk : Nat) : ∀ (es : List (D × V)) (l : List MapEntry) (i : Nat), EntRep w ρ es l → (∀ e ∈ es, D.alike k e.1 = true) →
    (Instr.findNow td u l i = some none ∧ EntRep w ρ (updE k x es) (l ++ [{ key := u, val := xv, born := clk }])) ∨ ∃ j e v, Instr.findNow td u l i = some (some (i + j, v)) ∧ l[j]? = some e ∧ e.key = u ∧ EntRep w ρ (updE k x es) (l.modify j fun e => { e with key := u, val := xv })
  | [], l, i, h, _ => by
    simp only [EntRep] at h; subst h
    exact .inl ⟨rfl, ⟨_, [], rfl, hu, hx, rfl⟩⟩
  | (j, v) :: r, l, i, h, ha => by
    obtain ⟨e, l', rfl, h1, h2, h3⟩ := h
    have haj := ha (j, v) (by simp)
    have hs := sameNow_ok hk haj hu h1
    simp only [Instr.findNow, updE, hs]
    cases hsk : D.sameKey k j with
    | true =>
      refine .inr ⟨0, e, e.val, by simp, by simp, ?_, ?_⟩
      · cases k <;> cases j <;> simp only [D.alike, Bool.false_eq_true, decide_eq_true_eq] at haj <;> simp only [D.sameKey, beq_iff_eq] at hsk <;> simp only [D.key, Option.some.injEq] at hu h1 <;> rw [← hu, ← h1] <;> simp_all
      · simp only [if_true]
        exact ⟨_, l', rfl, hu, hx, h3⟩
    | false =>
      rcases upd_ok hk hu hx clk r l' (i + 1) h3 (fun x hx => ha x (by simp [hx])) with ⟨f1, f2⟩ | ⟨j', e', v', f1, f2, f3, f4⟩
      · refine .inl ⟨by simpa using f1, ?_⟩
        exact ⟨e, _, rfl, h1, h2, f2⟩
      · refine .inr ⟨j' + 1, e', v', by simp only [f1]; congr 3; omega, by simpa using f2, f3, ?_⟩
        exact ⟨e, _, rfl, h1, h2, f4⟩
theorem sameBits_key {k : D} {u : Value} (h : k.key = some u) : Instr.sameBits 10000 u u = true := by
  cases k <;> simp only [D.key, Option.some.injEq, reduceCtorEq] at h
  · subst h; show (_ == _ && _ == _) = true; simp
  · subst h; show (_ == _) = true; simp
  · subst h; show (_ == _) = true; rw [beq_toListBytes]; simp
theorem does_mset (hs : SM w ρ sl a) (hO : OM w ρ ob) {op : Op} {kd : D} {m k v : A} (hc : I.chk P op (.mset kd m k v) = true) (h : msetK ob kd (v.ev sl) K (m.ev sl) (k.ev sl)) : Does P a w ρ op K Pn := by
  obtain ⟨t, x, i, y, hop, hty, hx, hi, hy⟩ : ∃ t x i y, (op = .mapUpdate t x i y ∨ op = .insert t x i y) ∧ (match P.underlying t with | some (.map kt _) => keyKind P kt kd | _ => false) = true ∧ A.chk x m = true ∧ A.chk i k = true ∧ A.chk y v = true := by
    cases op <;> simp only [I.chk, Bool.false_eq_true, Bool.and_eq_true] at hc
    · rename_i t x i y; exact ⟨t, x, i, y, .inr rfl, hc.1.1.1, hc.1.1.2, hc.1.2, hc.2⟩
    · rename_i t x i y; exact ⟨t, x, i, y, .inl rfl, hc.1.1.1, hc.1.1.2, hc.1.2, hc.2⟩
  obtain ⟨kt, et, ht, hkk⟩ : ∃ kt et, P.underlying t = some (.map kt et) ∧ keyKind P kt kd = true := by
    revert hty; split
    · rename_i kt et h; intro h1; exact ⟨kt, et, h, h1⟩
    · intro h; cases h
  obtain ⟨td, htd, hkd⟩ : ∃ td, P.underlying kt = some td ∧ kindOf td kd = true := by
    unfold keyKind at hkk
    split at hkk
    · rename_i d hd; exact ⟨d, hd, hkk⟩
    · cases hkk
  have r1 := A.sound hs hx
  have r2 := A.sound hs hi
  have r3 := A.sound hs hy
  have keyRep : ∀ {d : D} {u v : Value}, d.key = some u → (V.d d).rep w ρ v → v = u := fun {d u v} h1 h2 => by
    cases d <;> simp only [D.key, Option.some.injEq, reduceCtorEq] at h1
    · rw [rep_int] at h2; rw [h2, ← h1]
    · rw [rep_bool] at h2; rw [h2, ← h1]
    · rw [rep_str] at h2; rw [h2, ← h1]
  unfold msetK at h
  split at h
  · rename_i id kk e1 e2
    rw [e1] at r1
    rw [e2] at r2
    unfold msetKo at h
    split at h
    · rename_i es hl
      obtain ⟨⟨ha0, hall⟩, hst, hK⟩ := h
      obtain ⟨b, l, clk, g1, g2, g3⟩ := hO.one id _ hl
      rw [rep_mp] at r1
      rcases r1 with ⟨b', g4, r1⟩ | ⟨g4, _⟩
      · rw [g1] at g4; cases g4
        have hkk' := kind_alike hkd ha0
        obtain ⟨_, ku, _, hku⟩ := alike_key ha0
        have r2' := keyRep hku r2
        have hget : (getObj b).run P w = .ok (.map l.toArray clk) w := by simp [getObj, Sem.run, g2]
        rcases upd_ok hkk' hku r3 clk es l 0 g3 hall with ⟨f1, f2⟩ | ⟨j, e, v', f1, f2, f3, f4⟩
        · obtain ⟨t1, o1⟩ := write_map (clk' := clk + 1) hO hl g1 g2 f2
          refine does_skip (fun o ho => ?_) hK o1 t1
          have hset : (setObj b (.map ((l ++ [(⟨ku, a.eval y, clk⟩ : MapEntry)]).toArray) (clk + 1))).run P w = .ok () (setB w b (.map ((l ++ [(⟨ku, a.eval y, clk⟩ : MapEntry)]).toArray) (clk + 1))) := by simp [setObj, Sem.run, g2, setB]
          rcases hop with rfl | rfl <;> simp [execOp, ho, Instr.mapUpdate, r1, r2', underlying_run ht, hget, checkKey_run htd hkk', findKey_run htd f1] <;> (rw [hset]; simp)
        · obtain ⟨t1, o1⟩ := write_map (clk' := clk) hO hl g1 g2 f4
          refine does_skip (fun o ho => ?_) hK o1 t1
          have hks : (Instr.keyThatStays e.key ku).run P w = .ok ku w := by simp [Instr.keyThatStays, f3, sameBits_key hku]
          have hm : (l.toArray.modify j fun e => { e with key := ku, val := a.eval y }) = (l.modify j fun e => { e with key := ku, val := a.eval y }).toArray := by simp
          have hset : (setObj b (.map (l.modify j fun e => { e with key := ku, val := a.eval y }).toArray clk)).run P w = .ok () (setB w b (.map (l.modify j fun e => { e with key := ku, val := a.eval y }).toArray clk)) := by simp [setObj, Sem.run, g2, setB]
          have f1' : Instr.findNow td ku l 0 = some (some (j, v')) := by rw [f1]; simp
          rcases hop with rfl | rfl <;> simp [execOp, ho, Instr.mapUpdate, r1, r2', underlying_run ht, hget, checkKey_run htd hkk', findKey_run htd f1', f2, hks] <;> (rw [hset]; simp)
      · rw [g1] at g4; cases g4
    · exact h.elim
  · exact h.elim

theorem does_gld {P : Prg} (hg : ρ.gl = P.g) (hO : OM w ρ ob) {op : Op} {g n : Nat} {ag : Bool} {x : D} (hc : I.chk P.p op (.gld g n ag x) = true) (h : GlobIs P g x ∧ x.sz = n ∧ (V.d x).isAgg = ag ∧ K (.d x) ob) : Does P.p a w ρ op K Pn := by
  obtain ⟨t, hop, h1, h2, h3⟩ : ∃ t, op = .load t (.global g) ∧ sizeT P.p t = some n ∧ (P.p.underlying t).isSome = true ∧ agT P.p t = ag := by
    simp only [I.chk] at hc
    split at hc
    · rename_i t hh
      simp only [Bool.and_eq_true, beq_iff_eq] at hc
      obtain ⟨⟨⟨rfl, h1⟩, h2⟩, h3⟩ := hc
      exact ⟨t, rfl, h1, h2, h3⟩
    · cases hc
  obtain ⟨⟨cs, T, f, hgl, hx⟩, hsz, hag, hK⟩ := h
  obtain ⟨hh, hno⟩ := hO.glb g _ (by rw [hg]; exact hgl)
  have hrep : x.rep w (own ρ) cs := D.isC_rep x cs hx
  have hr : (V.d (.ref x)).rep w ρ (.pointer (some ⟨g, 0, none⟩)) := rep_cp.2 ⟨⟨g, 0, none⟩, cs, rfl, rfl, ⟨fun _ => ⟨rfl, hno, lt_of_some hh⟩, fun i hi => by simp [World.cell?, hh, hi]⟩, hrep⟩
  let a2 : Act := ⟨#[.pointer (some ⟨g, 0, none⟩)], []⟩
  have hs2 : SM w ρ [(0, .d (.ref x))] a2 := by
    intro k
    simp only [look]
    split
    · rename_i e; subst e; exact hr
    · exact rep_any
  obtain ⟨v, y, hK2, hr2, hrun⟩ := sound_ld (P := P.p) (K := fun v => v = V.d x) (a := a2) (n := n) (ag := ag) (x := .t 0) (op := .load t (.tmp 0)) hs2 hO (by simp [C.chk, h1, h2, h3, A.chk]) (by simp [A.ev, look, ldK, hsz, hag])
  subst hK2
  refine does_value (fun o ho => ?_) hK hr2 hO (Tr.refl _ _)
  have := hrun ⟨none, .load t (.tmp 0), 0, "", #[], none⟩ rfl w (fun _ => Ext.refl w)
  simp only [execOp, Act.eval, a2] at this
  simp only [execOp, ho, hop, Act.eval]
  simpa using this

theorem does_slg (hs : SM w ρ sl a) (hO : OM w ρ ob) {op : Op} {n z : Nat} {x : A} (hc : I.chk P op (.slg n z x) = true) (h : slgK ob n z K (x.ev sl)) : Does P a w ρ op K Pn := by
  obtain ⟨t, x1, e, hop, ht, he, hx⟩ : ∃ t x1 e, op = .slice t x1 none none none ∧ P.underlying t = some (.array n e) ∧ sizeT P e = some z ∧ A.chk x1 x = true := by
    simp only [I.chk] at hc
    split at hc
    · rename_i t x1
      simp only [Bool.and_eq_true] at hc
      obtain ⟨h0, h1⟩ := hc
      split at h0
      · rename_i m e hu
        simp only [Bool.and_eq_true, beq_iff_eq] at h0
        obtain ⟨rfl, h0⟩ := h0
        exact ⟨t, x1, e, rfl, hu, h0, h1⟩
      · cases h0
    · cases hc
  have r1 := A.sound hs hx
  unfold slgK at h
  split at h
  · rename_i id p e1
    rw [e1] at r1
    unfold slgKv at h
    split at h
    · rename_i xs hat
      obtain ⟨hl, hz, hK⟩ := h
      obtain ⟨t0, b', cs, E, g1, g2, g3, g4, g5⟩ := box_of hO hat
      obtain ⟨b, sh, hρ, r1⟩ := rep_ptr_box hO g1 r1
      rw [hρ] at g3
      simp only [Option.some.injEq, RO.box.injEq] at g3
      obtain ⟨rfl, rfl⟩ := g3
      obtain ⟨t1, o1, hno⟩ := give_up hO (id := id) ⟨_, g1⟩
      obtain ⟨c1, c2, c3, q1, q2, q3⟩ := V.repC_at p t0 _ cs g5 g2
      simp only [V.repC, D.rep] at q3
      refine does_value (v := .slice (some ⟨b, t0.shape.off p, none⟩) n n) (fun o ho => ?_) hK ?_ o1 t1
      · simp only [execOp, ho, hop, r1, Option.map_none, Instr.sliceAt, Sem.run_bind, underlying_run ht, Result.andThen_ok, Instr.sureAddr, Sem.run_pure, Instr.sliceBounds, info_size he]
        simp only [Nat.zero_mul, Nat.sub_zero]
        rw [Addr.add_eq rfl]
        simp
      · rw [rep_list]
        refine .inr ⟨⟨b, t0.shape.off p, none⟩, n, c2, by rw [hl], by omega, ⟨fun _ => ⟨rfl, hno b _ hρ rfl, lt_of_some g4⟩, fun i hi => ?_⟩, D.repL_mono t1.mono _ _ q3, hz⟩
        rw [← q2]
        simp [World.cell?, g4, q1, List.getElem?_append, hi]
    · exact h.elim
  · exact h.elim

theorem I.sound {P : Prg} (hg : ρ.gl = P.g) (hs : SM w ρ sl a) (hO : OM w ρ ob) {op : Op} : ∀ {i : I}, i.chk P.p op = true → i.wp P sl ob K Pn → Does P.p a w ρ op K Pn
  | .c _, hc, h => does_c hs hO hc h
  | .box _ _, hc, h => does_box hs hO hc h
  | .alloc _ _, hc, h => does_alloc hO hc h
  | .bls _ _ _, hc, h => (adds_bls hs hO hc h).does hO
  | .blo _ _ _ _, hc, h => does_blo hs hO hc h
  | .st _ _ _, hc, h => does_st hs hO hc h
  | .app _ _ _ _ _, hc, h => does_app hs hO hc h
  | .appS _ _ _ _, hc, h => does_appS hs hO hc h
  | .call _ _, hc, h => does_call hg hs hO hc h
  | .pcall _ _, hc, h => (doesE_pcall hg hs hO hc h).does hO
  | .callv _ _, hc, h => does_callv hg hs hO hc h
  | .panic _, hc, h => does_panic hs hO hc h
  | .b2s _, hc, h => does_b2s hs hO hc h
  | .s2b _, hc, h => (adds_s2b hs hO hc h).does hO
  | .nilo _ _ _, hc, h => does_nilo hs hO hc h
  | .mvf _, hc, h => does_mvf hs hO hc h
  | .ldf _ _ _, hc, h => does_ldf hs hO hc h
  | .mvg _ _ _ _ _, hc, h => does_mvg hs hO hc h
  | .mvn _ _ _, hc, h => does_mvn hs hO hc h
  | .cvb _, hc, h => does_cvb hs hO hc h
  | .ustr _ _ _, hc, h => does_ustr hs hO hc h
  | .mkm _, hc, h => does_mkm hs hO hc h
  | .lkp _ _ _ _ _, hc, h => does_lkp hs hO hc h
  | .mset _ _ _ _, hc, h => does_mset hs hO hc h
  | .gld _ _ _ _, hc, h => does_gld hg hO hc h
  | .slg _ _ _, hc, h => does_slg hs hO hc h

def I.kind : I → Nat
  | .c cc => if cc.isLd then 1 else 0
  | .bls _ _ _ | .s2b _ | .pcall _ _ => 2
  | _ => 3

theorem I.soundE {P : Prg} (hg : ρ.gl = P.g) (hs : SM w ρ sl a) (hO : OM w ρ ob) {op : Op} : ∀ {i : I}, i.kind = 2 → i.chk P.p op = true → i.wp P sl ob K Pn → DoesE P.p a w ρ op ob K
  | .bls _ _ _, _, hc, h => (adds_bls hs hO hc h).doesE
  | .s2b _, _, hc, h => (adds_s2b hs hO hc h).doesE
  | .pcall _ _, _, hc, h => doesE_pcall hg hs hO hc h
  | .c cc, hk, _, _ => by simp only [I.kind] at hk; split at hk <;> cases hk
  | .box _ _, hk, _, _ | .alloc _ _, hk, _, _ | .blo _ _ _ _, hk, _, _ | .st _ _ _, hk, _, _ | .app _ _ _ _ _, hk, _, _ | .appS _ _ _ _, hk, _, _ | .call _ _, hk, _, _ | .callv _ _, hk, _, _ | .panic _, hk, _, _ | .b2s _, hk, _, _ | .nilo _ _ _, hk, _, _ | .mvf _, hk, _, _ | .ldf _ _ _, hk, _, _ | .mvg _ _ _ _ _, hk, _, _ | .mvn _ _ _, hk, _, _ | .cvb _, hk, _, _ | .ustr _ _ _, hk, _, _ | .mkm _, hk, _, _ | .lkp _ _ _ _ _, hk, _, _ | .mset _ _ _ _, hk, _, _ | .gld _ _ _ _, hk, _, _ | .slg _ _ _, hk, _, _ => by simp [I.kind] at hk
end
end Go.Ab
/- Regions that draw their order: which operations may be taken first. Over any program; no condition. -/
namespace Go.Ab
open Go
section
variable {P : Program} {ops : Array Oper} {Q : Exit → Act → World → Prop} {md : Region.Mode} {R : World → World → Prop} {tl : Nat → Bool}

def wpAnyG (P : Program) (md : Region.Mode) (ops : Array Oper) (Q : Exit → Act → World → Prop) (R : World → World → Prop) (tl : Nat → Bool) : Nat → Array Bool → Act → World → Prop
  | 0, listed, a, w => Region.ready md ops listed = [] ∧ Q .normal a w
  | fuel + 1, listed, a, w =>
    (Region.ready md ops listed = [] → Q .normal a w) ∧
    ∀ i ∈ Region.ready md ops listed, wpOp P ops Q i (fun a' w' => (tl i = false → R w w') ∧ wpAnyG P md ops Q R tl fuel (listed.setIfInBounds i true) a' w') a w

theorem wpAny_of_G : ∀ (fuel : Nat) (listed : Array Bool) (a : Act) (w : World), wpAnyG P md ops Q R tl fuel listed a w → wpAny P md ops Q fuel listed a w
  | 0, _, _, _, h => h
  | fuel + 1, _, _, _, h => ⟨h.1, fun i hi => wpOp_mono (fun a' w' h' => wpAny_of_G fuel _ a' w' h'.2) (h.2 i hi)⟩

def Closed (md : Region.Mode) (ops : Array Oper) (listed : Array Bool) : Prop :=
  ∀ k o, ops[k]? = some o → listed.getD k false = true → ∀ e ∈ o.after, Region.binds md e = true → listed.getD e.on false = true

theorem Closed.step {listed : Array Bool} (h : Closed md ops listed) {j : Nat} (hj : j ∈ Region.ready md ops listed) : Closed md ops (listed.setIfInBounds j true) := by
  obtain ⟨_, oj, hoj, hall⟩ := mem_ready.1 hj
  intro k o hk hl e he hb
  by_cases hjk : j = k
  · subst hjk
    rw [hoj] at hk; simp at hk; subst hk
    exact getD_set_true (hall e he hb)
  · rw [getD_set_ne false hjk] at hl
    exact getD_set_true (h k o hk hl e he hb)

def waits (md : Region.Mode) (ops : Array Oper) (i : Nat) : Nat → Nat → Bool
  | 0, _ => false
  | fuel + 1, j => match ops[j]? with
    | some o => o.after.any fun e => Region.binds md e && (e.on == i || waits md ops i fuel e.on)
    | none => false

theorem waits_listed {listed : Array Bool} (hc : Closed md ops listed) {i : Nat} : ∀ (fuel k : Nat), waits md ops i fuel k = true → listed.getD k false = true → listed.getD i false = true
  | 0, k, h, _ => by simp [waits] at h
  | fuel + 1, k, h, hl => by
    simp only [waits] at h
    split at h
    · rename_i o ho
      rw [Array.any_eq_true'] at h
      obtain ⟨e, he, h⟩ := h
      simp only [Bool.and_eq_true, Bool.or_eq_true, beq_iff_eq] at h
      have h1 := hc k o ho hl e he h.1
      rcases h.2 with h2 | h2
      · rw [← h2]; exact h1
      · exact waits_listed hc fuel e.on h2 h1
    · simp at h

theorem not_ready_of_waits {listed : Array Bool} (hc : Closed md ops listed) {i j fuel : Nat} (hi : listed.getD i true = false) (h : waits md ops i fuel j = true) : j ∉ Region.ready md ops listed := by
  intro hj
  obtain ⟨_, o, ho, hall⟩ := mem_ready.1 hj
  cases fuel with
  | zero => simp [waits] at h
  | succ fuel =>
    simp only [waits, ho] at h
    rw [Array.any_eq_true'] at h
    obtain ⟨e, he, h⟩ := h
    simp only [Bool.and_eq_true, Bool.or_eq_true, beq_iff_eq] at h
    have h1 := hall e he h.1
    have hli : listed.getD i false = true := by
      rcases h.2 with h2 | h2
      · rw [← h2]; exact h1
      · exact waits_listed hc fuel e.on h2 h1
    rcases Nat.lt_or_ge i listed.size with h' | h'
    · simp [h'] at hi hli; rw [hi] at hli; cases hli
    · simp [Array.getElem?_eq_none h'] at hli

theorem yif_weaken {S S' : World → Prop} {o : Oper} {v : Value} {a : Act} (h : YieldsIf P ops S o v a) (hs : ∀ w, S' w → S w) : YieldsIf P ops S' o v a :=
  h.imp (fun ⟨h1, h2⟩ => ⟨h1, fun w hw => h2 w (hs w hw)⟩) id

theorem wpAnyG_first (hrefl : ∀ w, R w w) (htrans : ∀ u v w, R u v → R v w → R u w) {l : Bool} {i : Nat} {oi : Oper} {v : Value} (hi : ops[i]? = some oi) (hsel : ∀ (j : Nat) (o : Oper) cs b, ops[j]? = some o → o.op ≠ .select cs b)
    (hQ : ∀ c a w, Q (.panic c) (a.put oi.dst v) w → Q (.panic c) a w) (hl : l = true → ∀ j, j < ops.size → tl j = true → j ≠ i → ∃ fuel, waits md ops i fuel j = true) :
    ∀ (fuel : Nat) (listed : Array Bool) (a : Act) (w : World), Closed md ops listed →
      (∀ j oj, ops[j]? = some oj → j ≠ i → listed.getD j true = false → (∀ e ∈ oj.after, Region.binds md e = true → e.on ≠ i) → oi.apart ops oj = true) →
      i ∈ Region.ready md ops listed → YieldsIf P ops (fun w' => l = true → R w w') oi v a →
      wpAnyG P md ops Q R tl fuel (listed.setIfInBounds i true) (a.put oi.dst v) w → wpAnyG P md ops Q R tl (fuel + 1) listed a w := by
  intro fuel
  induction fuel with
  | zero =>
    intro listed a w _ _ hr hy H
    refine ⟨fun h => (by rw [h] at hr; cases hr), fun j hj => ?_⟩
    by_cases hji : j = i
    · subst hji; exact hy.wpOp hi (fun _ => hrefl w) ⟨fun _ => hrefl w, H⟩
    · have := ready_mono hj hji
      rw [H.1] at this
      cases this
  | succ fuel ih =>
    intro listed a w hcl hfree hr hy H
    refine ⟨fun h => (by rw [h] at hr; cases hr), fun j hj => ?_⟩
    by_cases hji : j = i
    · subst hji; exact hy.wpOp hi (fun _ => hrefl w) ⟨fun _ => hrefl w, H⟩
    · have h1 := H.2 j (ready_mono hj hji)
      obtain ⟨hjun, oj, hoj, hall⟩ := mem_ready.1 hj
      have hiun := (mem_ready.1 hr).1
      have hnot : ∀ e ∈ oj.after, Region.binds md e = true → e.on ≠ i := fun e he hb heq => by
        have h1 := hall e he hb
        rw [heq] at h1
        rcases Nat.lt_or_ge i listed.size with h' | h'
        · simp [h'] at hiun h1; rw [hiun] at h1; cases h1
        · simp [Array.getElem?_eq_none h'] at h1
      have h2 := wpOp_putIf hoj (hfree j oj hoj hji hjun hnot) (fun cs b => hsel i oi cs b hi) (fun cs b => hsel j oj cs b hoj) hQ hy h1
      have hfree' : ∀ k ok, ops[k]? = some ok → k ≠ i → (listed.setIfInBounds j true).getD k true = false →
          (∀ e ∈ ok.after, Region.binds md e = true → e.on ≠ i) → oi.apart ops ok = true := fun k ok hk hki hun hno => by
        refine hfree k ok hk hki ?_ hno
        by_cases hjk : j = k
        · subst hjk; exact hjun
        · rw [getD_set_ne true hjk] at hun; exact hun
      refine wpOp_mono (fun a' w' h3 => ⟨h3.2.1, ih (listed.setIfInBounds j true) a' w' (hcl.step hj) hfree' (ready_mono hr (Ne.symm hji)) (yif_weaken h3.1 fun w'' h4 h5 => ?_) ?_⟩) h2
      · have hR : R w w' := by
          refine h3.2.1 ?_
          cases ht : tl j with
          | false => rfl
          | true =>
            obtain ⟨fl, hw⟩ := hl h5 j (Array.getElem?_eq_some_iff.1 hoj).1 ht hji
            exact absurd hj (not_ready_of_waits hcl hiun hw)
        exact htrans _ _ _ hR (h4 h5)
      · rw [Array.setIfInBounds_comm _ _ hji]
        exact h3.2.2
end
end Go.Ab
/- Statements over abstract states, and that what is shown of them holds of the program's code. Over any program; no condition. -/
namespace Go.Ab
open Go

def put (sl : Slots) (d : Option Nat) (v : V) : Slots := match d with
  | some k => (k, v) :: sl
  | none => sl

inductive It where
  | op (d : Option Nat) (i : I)
  | gop (s : Nat) (want : Bool) (d : Option Nat) (i : I)

def gdK (s : Nat) (want : Bool) (sl : Slots) (Y N : Slots → Prop) : V → Prop
  | .d (.bool b) => (b = want → Y ((s, .d (.bool want)) :: sl)) ∧ (b = !want → N ((s, .d (.bool (!want))) :: sl))
  | .undef => N sl
  | _ => False

def rwp (P : Prg) (K : Slots → Objs → Prop) (Pn : V → Slots → Objs → Prop) : List It → Slots → Objs → Prop
  | [], sl, ob => K sl ob
  | .op d i :: r, sl, ob => i.wp P sl ob (fun v ob' => rwp P K Pn r (put sl d v) ob') (fun v ob' => Pn v sl ob')
  | .gop s want d i :: r, sl, ob => gdK s want sl (fun sl => i.wp P sl ob (fun v ob' => rwp P K Pn r (put sl d v) ob') (fun v ob' => Pn v sl ob')) (fun sl => rwp P K Pn r (put sl d .undef) ob) (look sl s)

mutual
inductive Ot where
  | done
  | one (i : Nat) (x : It) (r : Ot)
  | br (l : Ots)
inductive Ots where
  | nil
  | cons (i : Nat) (x : It) (r : Ot) (l : Ots)
end
def itK (P : Prg) (next : Slots → Objs → Prop) (Pn : V → Slots → Objs → Prop) : It → Slots → Objs → Prop
  | .op d i, sl, ob => i.wp P sl ob (fun v ob' => next (put sl d v) ob') (fun v ob' => Pn v sl ob')
  | .gop s want d i, sl, ob => gdK s want sl (fun sl => i.wp P sl ob (fun v ob' => next (put sl d v) ob') (fun v ob' => Pn v sl ob')) (fun sl => next (put sl d .undef) ob) (look sl s)
mutual
def owp (P : Prg) (K : Slots → Objs → Prop) (Pn : V → Slots → Objs → Prop) : Ot → Slots → Objs → Prop
  | .done, sl, ob => K sl ob
  | .one _ x r, sl, ob => itK P (owp P K Pn r) Pn x sl ob
  | .br l, sl, ob => owps P K Pn l sl ob
def owps (P : Prg) (K : Slots → Objs → Prop) (Pn : V → Slots → Objs → Prop) : Ots → Slots → Objs → Prop
  | .nil, _, _ => True
  | .cons _ x r l, sl, ob => itK P (owp P K Pn r) Pn x sl ob ∧ owps P K Pn l sl ob
end

inductive S where
  | rg (ord : List Nat) (l : List It) (keep pk : List Nat)
  | rgT (n : Nat) (t : Ot) (keep pk : List Nat)
  | seq (a b : S)
  | skip
  | cond (c : A) (a b : S)
  | block (n : Nat) (a : S)
  | loop (keep : List Nat) (a : S)
  | exit (n : Nat)
  | ret

inductive AExit where
  | normal
  | exit (n : Nat)
  | ret
  | panic (v : V)

abbrev Post := AExit → Slots → Objs → Prop

def thenK (next : Slots → Objs → Prop) (Q : Post) : Post
  | .normal, sl, ob => next sl ob
  | .exit n, sl, ob => Q (.exit n) sl ob
  | .ret, sl, ob => Q .ret sl ob
  | .panic v, sl, ob => Q (.panic v) sl ob
def blockK (id : Nat) (Q : Post) : Post
  | .normal, sl, ob => Q .normal sl ob
  | .exit n, sl, ob => if n = id then Q .normal sl ob else Q (.exit n) sl ob
  | .ret, sl, ob => Q .ret sl ob
  | .panic v, sl, ob => Q (.panic v) sl ob
def condK (Y N : Prop) : V → Prop
  | .d (.bool t) => (t = true → Y) ∧ (t = false → N)
  | _ => False
def keepS (sl : Slots) : List Nat → Slots
  | [] => []
  | k :: r => (k, look sl k) :: keepS sl r

mutual
def V.men (ids : Nat → Bool) : V → Bool
  | .ptr id _ => ids id
  | .sl id _ => ids id
  | .sd id _ => ids id
  | .mp id => ids id
  | .ep id _ _ _ _ => ids id
  | .fn _ a b => V.mens ids a || V.mens ids b
  | .agg xs => V.mens ids xs
  | .iface _ v => V.men ids v
  | .tup xs => V.mens ids xs
  | _ => false
def V.mens (ids : Nat → Bool) : List V → Bool
  | [] => false
  | x :: r => V.men ids x || V.mens ids r
end
def dropO (ids : Nat → Bool) : Objs → Objs
  | [] => []
  | (j, x) :: r => if ids j then dropO ids r else (j, x) :: dropO ids r
def noMenS (ids : Nat → Bool) : Slots → Bool
  | [] => true
  | (_, v) :: r => !V.men ids v && noMenS ids r
def mensE (ids : Nat → Bool) : List (D × V) → Bool
  | [] => false
  | (_, v) :: r => V.men ids v || mensE ids r
def noMenO (ids : Nat → Bool) : Objs → Bool
  | [] => true
  | (_, .box _ t) :: r => !V.men ids t && noMenO ids r
  | (_, .vec _ _ xs) :: r => !V.mens ids xs && noMenO ids r
  | (_, .map es) :: r => !mensE ids es && noMenO ids r
  | _ :: r => noMenO ids r
def young (n : Nat) (kp : List Nat) (id : Nat) : Bool := decide (n ≤ id) && !kp.contains id
def sub (keep : List Nat) (n : Nat) (K : Slots → Objs → Prop) (sl : Slots) (ob : Objs) : Prop :=
  ∃ kp : List Nat, noMenS (young n kp) (keepS sl keep) = true ∧ noMenO (young n kp) (dropO (young n kp) ob) = true ∧ K (keepS sl keep) (dropO (young n kp) ob)

structure ALoop (keep : List Nat) (body : Post → Slots → Objs → Prop) (Q : Post) (sl : Slots) (ob : Objs) : Prop where
  run : ∃ (ι : Type) (S : ι → Slots) (O : ι → Objs) (I : ι → Prop) (μ : ι → Nat) (i0 : ι), I i0 ∧ keepS sl keep = S i0 ∧ ob = O i0 ∧
    ∀ i, I i → body (thenK (sub keep (fresh (O i)) fun sl' ob' => ∃ j, I j ∧ μ j < μ i ∧ sl' = S j ∧ ob' = O j) Q) (S i) (O i)

def cwp (P : Prg) : S → Post → Slots → Objs → Prop
  | .rg _ l keep pk, Q, sl, ob => rwp P (fun sl ob => Q .normal (keepS sl keep) ob) (fun v sl ob => Q (.panic v) (keepS sl pk) ob) l sl ob
  | .rgT _ t keep pk, Q, sl, ob => owp P (fun sl ob => Q .normal (keepS sl keep) ob) (fun v sl ob => Q (.panic v) (keepS sl pk) ob) t sl ob
  | .seq a b, Q, sl, ob => cwp P a (thenK (cwp P b Q) Q) sl ob
  | .skip, Q, sl, ob => Q .normal sl ob
  | .cond c a b, Q, sl, ob => condK (cwp P a Q sl ob) (cwp P b Q sl ob) (c.ev sl)
  | .block n a, Q, sl, ob => cwp P a (blockK n Q) sl ob
  | .loop keep a, Q, sl, ob => ALoop keep (cwp P a) Q sl ob
  | .exit n, Q, sl, ob => Q (.exit n) sl ob
  | .ret, Q, sl, ob => Q .ret sl ob


def dstOk (N : Nat) : Option Nat → Option Nat → Bool
  | some k, some j => k == j && decide (k < N)
  | none, none => true
  | _, _ => false

def It.chk (P : Program) (N : Nat) (ops : Array Oper) (o : Oper) : It → Bool
  | .op d i => dstOk N o.dst d && o.guard.isNone && i.chk P o.op
  | .gop s want d i => dstOk N o.dst d && (match o.guard with
    | some (j, b) => b == want && (match ops[j]? with | some o' => o'.dst == some s | none => false)
    | none => false) && i.chk P o.op

def chkIts (P : Program) (N : Nat) (ops : Array Oper) : List Oper → List It → Bool
  | [], [] => true
  | o :: r, i :: s => i.chk P N ops o && chkIts P N ops r s
  | _, _ => false

def It.kind : It → Nat
  | .op _ i => i.kind
  | .gop _ _ _ i => i.kind
def kindAt : List Nat → List It → Nat → Nat
  | i :: r, x :: s, j => if i = j then x.kind else kindAt r s j
  | _, _, _ => 3
def canon (P : Program) (N : Nat) (ops : Array Oper) (kd : Nat → Nat) (listed : Array Bool) : List Nat → List It → Bool
  | [], [] => (Region.ready .any ops listed).isEmpty
  | i :: r, x :: s => (Region.ready .any ops listed).contains i && (match ops[i]? with | some o => x.chk P N ops o | none => false) && x.kind == kd i &&
      (match x.kind with
        | 0 => Region.free .any ops listed i
        | 1 => Region.free .any ops listed i && (List.range ops.size).all (fun j => kd j != 3 || j == i || waits .any ops i ops.size j)
        | _ => (Region.ready .any ops listed) == [i]) &&
      canon P N ops kd (listed.setIfInBounds i true) r s
  | _, _ => false
mutual
def Ot.kinds : Ot → List (Nat × Nat)
  | .done => []
  | .one i x r => (i, x.kind) :: r.kinds
  | .br l => l.kinds
def Ots.kinds : Ots → List (Nat × Nat)
  | .nil => []
  | .cons i x r l => (i, x.kind) :: (r.kinds ++ l.kinds)
end
def kindIn : List (Nat × Nat) → Nat → Nat
  | [], _ => 3
  | (i, k) :: r, j => if i = j then k else kindIn r j
def Ots.has (j : Nat) : Ots → Bool
  | .nil => false
  | .cons i _ _ l => i == j || l.has j
mutual
def canonT (P : Program) (N : Nat) (ops : Array Oper) (kd : Nat → Nat) : Nat → Array Bool → Ot → Bool
  | 0, listed, .done => (Region.ready .any ops listed).isEmpty
  | n + 1, listed, .one i x r => (Region.ready .any ops listed).contains i && (match ops[i]? with | some o => x.chk P N ops o | none => false) && x.kind == kd i &&
      (match x.kind with
        | 0 => Region.free .any ops listed i
        | 1 => Region.free .any ops listed i && (List.range ops.size).all (fun j => kd j != 3 || j == i || waits .any ops i ops.size j)
        | _ => (Region.ready .any ops listed) == [i]) &&
      canonT P N ops kd n (listed.setIfInBounds i true) r
  | n + 1, listed, .br l => !(Region.ready .any ops listed).isEmpty && (Region.ready .any ops listed).all (fun j => l.has j) && canonTs P N ops kd n listed l
  | _, _, _ => false
def canonTs (P : Program) (N : Nat) (ops : Array Oper) (kd : Nat → Nat) : Nat → Array Bool → Ots → Bool
  | _, _, .nil => true
  | n, listed, .cons i x r l => (Region.ready .any ops listed).contains i && (match ops[i]? with | some o => x.chk P N ops o | none => false) && x.kind == kd i && canonT P N ops kd n (listed.setIfInBounds i true) r && canonTs P N ops kd n listed l
end
def dstsFree (pk : List Nat) (ops : Array Oper) : Bool := ops.toList.all fun o => match o.dst with
  | some d => !pk.contains d
  | none => true

def S.chk (P : Program) (N : Nat) : Code → S → Bool
  | .skip, .skip => true
  | .region _ ops draw, .rg ord l _ pk => if draw then decide (ord.length ≤ ops.size) && Region.noSelect ops && dstsFree pk ops && canon P N ops (kindAt ord l) (Array.replicate ops.size false) ord l else chkIts P N ops ops.toList l
  | .region _ ops draw, .rgT n t _ pk => draw && decide (n ≤ ops.size) && Region.noSelect ops && dstsFree pk ops && canonT P N ops (kindIn t.kinds) n (Array.replicate ops.size false) t
  | .seq a b, .seq x y => S.chk P N a x && S.chk P N b y
  | .cond c a b, .cond d x y => A.chk c d && S.chk P N a x && S.chk P N b y
  | .block n a, .block m x => n == m && S.chk P N a x
  | .loop a, .loop _ x => S.chk P N a x
  | .exit n, .exit m => n == m
  | .ret, .ret => true
  | _, _ => false


structure Ctx where
  w0 : World
  ex : Nat → Prop
  N : Nat
  df : List Deferred
  g : Nat → Option Obj
  m0 : Nat → Option RO
  ev : List (V × Value)

structure Base (c : Ctx) (w : World) (ρ : Env) : Prop where
  size : c.w0.heap.size ≤ w.heap.size
  keep : ∀ b, b < c.w0.heap.size → ¬ c.ex b → w.heap[b]? = c.w0.heap[b]?
  owns : ∀ b, ownM ρ b → c.w0.heap.size ≤ b ∨ c.ex b
  tape : w.tape = c.w0.tape
  os : w.os = c.w0.os
  out : w.output = c.w0.output
  same : ∀ id o, c.m0 id = some o → ∃ o', ρ.m id = some o' ∧ o.le o'
  ext : ∀ p ∈ c.ev, p.1.rep w ρ p.2

theorem Base.tr {c : Ctx} {w w' : World} {ρ ρ' : Env} (h : Base c w ρ) (t : Tr w ρ w' ρ') : Base c w' ρ' := by
  refine ⟨Nat.le_trans h.size t.size, fun b h1 h2 => ?_, fun b h1 => ?_, t.tape.trans h.tape, t.os.trans h.os, t.out.trans h.out, fun id o h1 => ?_, fun p hp => V.rep_tr t (h.ext p hp)⟩
  · refine (t.keep b (fun h3 => ?_) (Nat.lt_of_lt_of_le h1 h.size)).trans (h.keep b h1 h2)
    exact (h.owns b h3).elim (fun h => by omega) h2
  · rcases t.owns b h1 with h3 | h3
    · exact h.owns b h3
    · exact .inl (Nat.le_trans h.size h3)
  · obtain ⟨o', h2, h3⟩ := h.same id o h1
    obtain ⟨o'', h4, h5⟩ := t.same id o' h2
    exact ⟨o'', h4, h3.trans h5⟩

structure Mod (c : Ctx) (xo : Nat → Prop) (ρ : Env) (sl : Slots) (ob : Objs) (a : Act) (w : World) : Prop where
  base : Base c w ρ
  om : OM w ρ ob
  sm : SM w ρ sl a
  size : a.tmps.size = c.N
  df : a.defers = c.df
  xo : ρ.xo = xo
  gl : ρ.gl = c.g

def exM (w : World) (ρ : Env) : Exit → AExit → Prop
  | .normal, .normal => True
  | .exit n, .exit m => n = m
  | .ret, .ret => True
  | .panic ch, .panic v => ∃ u, ch = [{ v := u, recovered := false }] ∧ v.rep w ρ u
  | _, _ => False

def lift (c : Ctx) (xo : Nat → Prop) (Q : Post) : Exit → Act → World → Prop :=
  fun e a w => ∃ ae sl ob ρ, Q ae sl ob ∧ exM w ρ e ae ∧ Mod c xo ρ sl ob a w

theorem rep_look_put {w : World} {ρ : Env} {sl : Slots} {a : Act} {d : Option Nat} {x : V} {v : Value} {N : Nat} {o : Option Nat} (hd : dstOk N o d = true) (hN : a.tmps.size = N) (hs : SM w ρ sl a) (hx : x.rep w ρ v) :
    SM w ρ (put sl d x) (a.put o v) ∧ (a.put o v).tmps.size = N ∧ (a.put o v).defers = a.defers := by
  cases o with
  | none =>
    cases d with
    | none => exact ⟨hs, hN, rfl⟩
    | some j => simp [dstOk] at hd
  | some k =>
    cases d with
    | none => simp [dstOk] at hd
    | some j =>
      simp only [dstOk, Bool.and_eq_true, beq_iff_eq, decide_eq_true_eq] at hd
      obtain ⟨rfl, hk⟩ := hd
      refine ⟨fun i => ?_, by simpa [Act.put] using hN, rfl⟩
      simp only [put, look, Act.put]
      split
      · rename_i e; subst e
        have : k < a.tmps.size := by omega
        simpa [this] using hx
      · rename_i e
        have := hs i
        simpa [Array.getElem?_setIfInBounds, e] using this

theorem yielded_bool {ops : Array Oper} {a : Act} {j s : Nat} {o' : Oper} {b : Bool} (h1 : ops[j]? = some o') (h2 : o'.dst = some s) (h3 : a.tmps.getD s undef = .bool b) : yielded ops a.tmps j = some b := by
  have hs : s < a.tmps.size := by
    rcases Nat.lt_or_ge s a.tmps.size with h | h
    · exact h
    · simp [Array.getD, Nat.not_lt.2 h, undef] at h3
  simp only [Array.getD, hs, dif_pos] at h3
  have : a.tmps[s]? = some (.bool b) := by rw [Array.getElem?_eq_getElem hs]; exact congrArg some h3
  simp [yielded, h1, h2, this]

theorem yielded_undef {ops : Array Oper} {a : Act} {j s : Nat} {o' : Oper} (h1 : ops[j]? = some o') (h2 : o'.dst = some s) (h3 : a.tmps.getD s undef = undef) : yielded ops a.tmps j = none := by
  rcases Nat.lt_or_ge s a.tmps.size with hs | hs
  · simp only [Array.getD, hs, dif_pos] at h3
    have : a.tmps[s]? = some (.tuple #[]) := by rw [Array.getElem?_eq_getElem hs]; exact congrArg some h3
    simp [yielded, h1, h2, this]
  · have : a.tmps[s]? = none := Array.getElem?_eq_none hs
    simp [yielded, h1, h2, this]

theorem guard_sound {w : World} {ρ : Env} {sl : Slots} {a : Act} {ops : Array Oper} {o : Oper} {s : Nat} {want : Bool} {Y N : Slots → Prop} (hs : SM w ρ sl a)
    (hg : (match o.guard with | some (j, b) => b == want && (match ops[j]? with | some o' => o'.dst == some s | none => false) | none => false) = true)
    (h : gdK s want sl Y N (look sl s)) :
    (Region.wanted o (yielded ops a.tmps) = true ∧ ∃ sl', SM w ρ sl' a ∧ Y sl') ∨ (Region.wanted o (yielded ops a.tmps) = false ∧ ∃ sl', SM w ρ sl' a ∧ N sl') := by
  split at hg
  · rename_i j b hj
    simp only [Bool.and_eq_true, beq_iff_eq] at hg
    obtain ⟨rfl, hg⟩ := hg
    split at hg
    · rename_i o' ho
      have hd : o'.dst = some s := by simpa using hg
      have hv := hs s
      have key : ∀ c : Bool, a.tmps.getD s undef = .bool c → SM w ρ ((s, .d (.bool c)) :: sl) a := fun c hc k => by
        simp only [look]
        split
        · rename_i e; subst e; rw [hc]; exact rep_bool.2 rfl
        · exact hs k
      unfold gdK at h
      split at h
      · rename_i c e
        rw [e, rep_bool] at hv
        have hy := yielded_bool (a := a) ho hd hv
        by_cases hcb : c = b
        · subst hcb
          exact .inl ⟨by simp [Region.wanted, hj, hy], _, key c hv, h.1 rfl⟩
        · have hcn : c = !b := by cases c <;> cases b <;> simp_all
          subst hcn
          exact .inr ⟨by simp [Region.wanted, hj, hy], _, key _ hv, h.2 rfl⟩
      · rename_i e
        rw [e, rep_undef] at hv
        have hy := yielded_undef (a := a) ho hd hv
        exact .inr ⟨by simp [Region.wanted, hj, hy], _, hs, h⟩
      · exact h.elim
    · simp at hg
  · simp at hg

theorem list_sound {P : Prg} {c : Ctx} (hg : P.g = c.g) {xo : Nat → Prop} {ops : Array Oper} {Q : Exit → Act → World → Prop} {K : Slots → Objs → Prop} {Pn : V → Slots → Objs → Prop}
    (hK : ∀ sl ob ρ a w, K sl ob → Mod c xo ρ sl ob a w → Q .normal a w)
    (hP : ∀ v sl ob ρ a w u, Pn v sl ob → Mod c xo ρ sl ob a w → v.rep w ρ u → Q (.panic [{ v := u, recovered := false }]) a w) :
    ∀ (l : List Oper) (its : List It) (sl : Slots) (ob : Objs) (ρ : Env) (a : Act) (w : World), chkIts P.p c.N ops l its = true → rwp P K Pn its sl ob → Mod c xo ρ sl ob a w → wpList P.p ops Q l a w
  | [], [], sl, ob, ρ, a, w, _, h, m => by simp only [wpList]; exact hK sl ob ρ a w h m
  | o :: r, i :: s, sl, ob, ρ, a, w, hc, h, m => by
    simp only [chkIts, Bool.and_eq_true] at hc
    obtain ⟨h1, h2⟩ := hc
    have step : ∀ (d : Option Nat) (x : I) (sl : Slots), SM w ρ sl a → dstOk c.N o.dst d = true → x.chk P.p o.op = true → x.wp P sl ob (fun v ob' => rwp P K Pn s (put sl d v) ob') (fun v ob' => Pn v sl ob') → o.wp P.p a w (wpList P.p ops Q r) Q := by
      intro d x sl hs hd hx hw
      refine I.sound (m.gl.trans hg.symm) hs m.om hx hw o rfl _ _ (fun v y ob' w' ρ' hk hr ho t => ?_) (fun u y ob' w' ρ' hk hr ho t => ?_)
      · obtain ⟨g1, g2, g3⟩ := rep_look_put hd m.size (hs.tr t) hr
        exact list_sound hg hK hP r s _ ob' ρ' _ w' h2 hk ⟨m.base.tr t, ho, g1, g2, g3.trans m.df, t.xo.trans m.xo, t.gl.trans m.gl⟩
      · exact hP y sl ob' ρ' a w' u hk ⟨m.base.tr t, ho, hs.tr t, m.size, m.df, t.xo.trans m.xo, t.gl.trans m.gl⟩ hr
    cases i with
    | op d x =>
      simp only [It.chk, Bool.and_eq_true, Option.isNone_iff_eq_none] at h1
      simp only [rwp] at h
      simp only [wpList, Region.wanted, h1.1.2, if_true]
      exact .inl (step d x sl m.sm h1.1.1 h1.2 h)
    | gop g want d x =>
      simp only [It.chk, Bool.and_eq_true] at h1
      simp only [rwp] at h
      simp only [wpList]
      rcases guard_sound (ops := ops) m.sm h1.1.2 h with ⟨hw, sl', hs, h⟩ | ⟨hw, sl', hs, h⟩
      · rw [if_pos hw]
        exact .inl (step d x sl' hs h1.1.1 h1.2 h)
      · rw [hw]
        simp only [Bool.false_eq_true, if_false]
        obtain ⟨g1, g2, g3⟩ := rep_look_put h1.1.1 m.size hs (rep_undef.2 rfl)
        exact list_sound hg hK hP r s _ ob ρ _ w h2 h ⟨m.base, m.om, g1, g2, g3.trans m.df, m.xo, m.gl⟩
  | [], _ :: _, _, _, _, _, _, hc, _, _ => by simp [chkIts] at hc
  | _ :: _, [], _, _, _, _, _, hc, _, _ => by simp [chkIts] at hc

theorem SM.keep {w : World} {ρ : Env} {sl : Slots} {a : Act} (hs : SM w ρ sl a) (l : List Nat) : SM w ρ (keepS sl l) a := by
  intro k
  induction l with
  | nil => exact rep_any
  | cons j r ih =>
    simp only [keepS, look]
    split
    · rename_i e; subst e; exact hs j
    · exact ih

def Env.del (ρ : Env) (ids : Nat → Bool) : Env := ⟨fun j => if ids j then none else ρ.m j, ρ.xo, ρ.gl⟩

theorem del_ownM {ρ : Env} {ids : Nat → Bool} {b : Nat} (h : ownM (ρ.del ids) b) : ownM ρ b := by
  obtain ⟨j, o, h1, h2⟩ := h
  simp only [Env.del] at h1
  split at h1
  · cases h1
  · exact ⟨j, o, h1, h2⟩

theorem del_mono (w : World) (ρ : Env) (ids : Nat → Bool) : Mono w (own ρ) w (own (ρ.del ids)) := fun _ h _ =>
  ⟨rfl, fun h' => h (h'.elim (fun h => .inl (del_ownM h)) .inr)⟩

mutual
theorem V.repC_del {w : World} {ρ : Env} {ids : Nat → Bool} : ∀ (x : V) (cs : List Value), V.men ids x = false → x.repC w ρ cs → x.repC w (ρ.del ids) cs
  | .d x, cs, _, h => by simp only [V.repC] at h ⊢; exact D.rep_mono (del_mono w ρ ids) x cs h
  | .ptr id p, cs, hm, h => by
    simp only [V.repC] at h ⊢
    simp only [V.men] at hm
    rcases h with ⟨b, sh, h1, h2⟩ | ⟨h1, h2⟩
    · exact .inl ⟨b, sh, by simp only [Env.del, hm]; exact h1, h2⟩
    · exact .inr ⟨by simp only [Env.del, hm]; exact h1, h2⟩
  | .sl id n, cs, hm, h => by
    simp only [V.repC] at h ⊢
    simp only [V.men] at hm
    obtain ⟨o, u, h1, h2⟩ := h
    exact ⟨o, u, by simp only [Env.del, hm]; exact h1, h2⟩
  | .sd id n, cs, hm, h => by
    simp only [V.repC] at h ⊢
    simp only [V.men] at hm
    obtain ⟨o, u, h1, h2⟩ := h
    exact ⟨o, u, by simp only [Env.del, hm]; exact h1, h2⟩
  | .mp id, cs, hm, h => by
    simp only [V.repC] at h ⊢
    simp only [V.men] at hm
    rcases h with ⟨b, h1, h2⟩ | ⟨h1, h2⟩
    · exact .inl ⟨b, by simp only [Env.del, hm]; exact h1, h2⟩
    · exact .inr ⟨by simp only [Env.del, hm]; exact h1, h2⟩
  | .ep id n sh i p, cs, hm, h => by
    simp only [V.repC] at h ⊢
    simp only [V.men] at hm
    obtain ⟨o, u, h1, h2⟩ := h
    exact ⟨o, u, by simp only [Env.del, hm]; exact h1, h2⟩
  | .fn f fi ca, cs, hm, h => by
    simp only [V.repC] at h ⊢
    simp only [V.men, Bool.or_eq_false_iff] at hm
    obtain ⟨fs, gs, e, h1, h2⟩ := h
    exact ⟨fs, gs, e, V.reps_del fi fs hm.1 h1, V.reps_del ca gs hm.2 h2⟩
  | .agg xs, cs, hm, h => by
    simp only [V.repC] at h ⊢
    simp only [V.men] at hm
    exact V.repCs_del xs cs hm h
  | .iface ty x, cs, hm, h => by
    simp only [V.repC] at h ⊢
    simp only [V.men] at hm
    obtain ⟨u, e, h1⟩ := h
    refine ⟨u, e, ?_⟩
    rcases h1 with h1 | ⟨p, ds, q, r⟩ | ⟨p, r⟩
    · exact .inl h1
    · exact .inr (.inl ⟨p, ds, q, V.repC_del x ds hm r⟩)
    · exact .inr (.inr ⟨p, V.repC_del x _ hm r⟩)
  | .tup xs, cs, hm, h => by
    simp only [V.repC] at h ⊢
    simp only [V.men] at hm
    obtain ⟨vs, e, h1⟩ := h
    exact ⟨vs, e, V.reps_del xs vs hm h1⟩
  | .undef, cs, _, h => by simpa only [V.repC] using h
  | .any, cs, _, h => by simpa only [V.repC] using h
theorem V.repCs_del {w : World} {ρ : Env} {ids : Nat → Bool} : ∀ (xs : List V) (cs : List Value), V.mens ids xs = false → V.repCs w ρ xs cs → V.repCs w (ρ.del ids) xs cs
  | [], cs, _, h => by simpa only [V.repCs] using h
  | x :: r, cs, hm, h => by
    simp only [V.repCs] at h ⊢
    simp only [V.mens, Bool.or_eq_false_iff] at hm
    obtain ⟨c1, c2, e, h1, h2⟩ := h
    exact ⟨c1, c2, e, V.repC_del x c1 hm.1 h1, V.repCs_del r c2 hm.2 h2⟩
theorem V.reps_del {w : World} {ρ : Env} {ids : Nat → Bool} : ∀ (xs : List V) (vs : List Value), V.mens ids xs = false → V.reps w ρ xs vs → V.reps w (ρ.del ids) xs vs
  | [], vs, _, h => by simpa only [V.reps] using h
  | x :: r, vs, hm, h => by
    simp only [V.reps] at h ⊢
    simp only [V.mens, Bool.or_eq_false_iff] at hm
    obtain ⟨u, us, e, h1, h2⟩ := h
    refine ⟨u, us, e, ?_, V.reps_del r us hm.2 h2⟩
    rcases h1 with h1 | ⟨p, ds, q, r⟩ | ⟨p, r⟩
    · exact .inl h1
    · exact .inr (.inl ⟨p, ds, q, V.repC_del x ds hm.1 r⟩)
    · exact .inr (.inr ⟨p, V.repC_del x _ hm.1 r⟩)
end

theorem V.rep_del {w : World} {ρ : Env} {ids : Nat → Bool} {x : V} {u : Value} (hm : V.men ids x = false) (h : x.rep w ρ u) : x.rep w (ρ.del ids) u := by
  rcases h with h1 | ⟨p, ds, q, r⟩ | ⟨p, r⟩
  · exact .inl h1
  · exact .inr (.inl ⟨p, ds, q, V.repC_del x ds hm r⟩)
  · exact .inr (.inr ⟨p, V.repC_del x _ hm r⟩)

theorem EntRep.del {w : World} {ρ : Env} {ids : Nat → Bool} : ∀ (l : List (D × V)) (es : List MapEntry), mensE ids l = false → EntRep w ρ l es → EntRep w (ρ.del ids) l es
  | [], es, _, h => h
  | (k, v) :: r, es, hm, h => by
    simp only [mensE, Bool.or_eq_false_iff] at hm
    obtain ⟨e, es', h1, h2, h3, h4⟩ := h
    exact ⟨e, es', h1, h2, V.rep_del hm.1 h3, EntRep.del r es' hm.2 h4⟩

theorem lookO_drop {ids : Nat → Bool} : ∀ (ob : Objs) (j : Nat), lookO (dropO ids ob) j = if ids j then none else lookO ob j
  | [], j => by simp [dropO, lookO]
  | (k, x) :: r, j => by
    simp only [dropO]
    split
    · rename_i h
      rw [lookO_drop r j]
      simp only [lookO]
      by_cases e : k = j
      · subst e; rw [if_pos h, if_pos h]
      · simp [e]
    · rename_i h
      simp only [lookO, lookO_drop r j]
      by_cases e : k = j
      · subst e; rw [if_pos rfl, if_neg h, if_pos rfl]
      · simp [e]

theorem Once.drop {ids : Nat → Bool} : ∀ {ob : Objs}, Once ob → Once (dropO ids ob)
  | [], h => h
  | (k, x) :: r, h => by
    simp only [dropO]
    split
    · exact Once.drop h.2
    · refine ⟨?_, Once.drop h.2⟩
      rw [lookO_drop, h.1]; split <;> rfl

theorem noMenO_look {ids : Nat → Bool} : ∀ (ob : Objs) (j E : Nat) (t : V), noMenO ids ob = true → lookO ob j = some (.box E t) → V.men ids t = false
  | [], j, E, t, _, h => by simp [lookO] at h
  | (k, x) :: r, j, E, t, hm, h => by
    simp only [lookO] at h
    split at h
    · simp at h; subst h
      simp only [noMenO, Bool.and_eq_true] at hm
      simpa using hm.1
    · cases x with
      | box _ y => simp only [noMenO, Bool.and_eq_true] at hm; exact noMenO_look r j E t hm.2 h
      | vec _ _ y => simp only [noMenO, Bool.and_eq_true] at hm; exact noMenO_look r j E t hm.2 h
      | map y => simp only [noMenO, Bool.and_eq_true] at hm; exact noMenO_look r j E t hm.2 h
      | arr _ z xs => simp only [noMenO] at hm; exact noMenO_look r j E t hm h
      | gone => simp only [noMenO] at hm; exact noMenO_look r j E t hm h
theorem noMenO_vec {ids : Nat → Bool} : ∀ (ob : Objs) (j E sz : Nat) (t : List V), noMenO ids ob = true → lookO ob j = some (.vec E sz t) → V.mens ids t = false
  | [], j, E, sz, t, _, h => by simp [lookO] at h
  | (k, x) :: r, j, E, sz, t, hm, h => by
    simp only [lookO] at h
    split at h
    · simp at h; subst h
      simp only [noMenO, Bool.and_eq_true] at hm
      simpa using hm.1
    · cases x with
      | box _ y => simp only [noMenO, Bool.and_eq_true] at hm; exact noMenO_vec r j E sz t hm.2 h
      | vec _ _ y => simp only [noMenO, Bool.and_eq_true] at hm; exact noMenO_vec r j E sz t hm.2 h
      | map y => simp only [noMenO, Bool.and_eq_true] at hm; exact noMenO_vec r j E sz t hm.2 h
      | arr _ z xs => simp only [noMenO] at hm; exact noMenO_vec r j E sz t hm h
      | gone => simp only [noMenO] at hm; exact noMenO_vec r j E sz t hm h
theorem noMenO_map {ids : Nat → Bool} : ∀ (ob : Objs) (j : Nat) (t : List (D × V)), noMenO ids ob = true → lookO ob j = some (.map t) → mensE ids t = false
  | [], j, t, _, h => by simp [lookO] at h
  | (k, x) :: r, j, t, hm, h => by
    simp only [lookO] at h
    split at h
    · simp at h; subst h
      simp only [noMenO, Bool.and_eq_true] at hm
      simpa using hm.1
    · cases x with
      | box _ y => simp only [noMenO, Bool.and_eq_true] at hm; exact noMenO_map r j t hm.2 h
      | vec _ _ y => simp only [noMenO, Bool.and_eq_true] at hm; exact noMenO_map r j t hm.2 h
      | map y => simp only [noMenO, Bool.and_eq_true] at hm; exact noMenO_map r j t hm.2 h
      | arr _ z xs => simp only [noMenO] at hm; exact noMenO_map r j t hm h
      | gone => simp only [noMenO] at hm; exact noMenO_map r j t hm h

theorem noMenS_look {ids : Nat → Bool} : ∀ (sl : Slots) (k : Nat), noMenS ids sl = true → V.men ids (look sl k) = false
  | [], k, _ => by simp [look, V.men]
  | (j, v) :: r, k, hm => by
    simp only [noMenS, Bool.and_eq_true] at hm
    simp only [look]
    split
    · simpa using hm.1
    · exact noMenS_look r k hm.2

theorem OM.del {w : World} {ρ : Env} {ob : Objs} {ids : Nat → Bool} (h : OM w ρ ob) (hm : noMenO ids (dropO ids ob) = true) : OM w (ρ.del ids) (dropO ids ob) := by
  refine ⟨fun j x hx => ?_, fun j o hj => ?_, fun i j o p b h1 h2 h3 h4 => ?_, h.xlt, fun b o hb => ⟨(h.glb b o hb).1, (del_mono w ρ ids b (h.glb b o hb).2 (lt_of_some (h.glb b o hb).1)).2⟩, fun b hb => h.xdis b (del_ownM hb), Once.drop h.once⟩
  · have hx0 := hx
    rw [lookO_drop] at hx
    split at hx
    · cases hx
    · rename_i hn
      have h1 := h.one j x hx
      cases x with
      | box E t =>
        obtain ⟨b, cs, g1, g2, g3⟩ := h1
        exact ⟨b, cs, by simp only [Env.del, hn]; exact g1, g2, V.repC_del t cs (noMenO_look _ j E t hm hx0) g3⟩
      | gone => exact (by simp only [Env.del, hn]; exact h1 : (ρ.del ids).m j = some .gone)
      | arr E sz xs =>
        rcases h1 with ⟨g1, g2⟩ | ⟨b, cap, cs, sp, g1, g2, g3, g4⟩
        · exact .inl ⟨by simp only [Env.del, hn]; exact g1, g2⟩
        · exact .inr ⟨b, cap, cs, sp, by simp only [Env.del, hn]; exact g1, g2, D.repL_mono (del_mono w ρ ids) _ _ g3, g4⟩
      | vec E sz xs =>
        rcases h1 with ⟨g1, g2⟩ | ⟨b, cap, cs, sp, g1, g2, g3, g4⟩
        · exact .inl ⟨by simp only [Env.del, hn]; exact g1, g2⟩
        · exact .inr ⟨b, cap, cs, sp, by simp only [Env.del, hn]; exact g1, g2, V.repCs_del xs cs (noMenO_vec _ j E sz xs hm hx0) g3, g4⟩
      | map es =>
        obtain ⟨b, l, clk, g1, g2, g3⟩ := h1
        exact ⟨b, l, clk, by simp only [Env.del, hn]; exact g1, g2, EntRep.del es l (noMenO_map _ j es hm hx0) g3⟩
  · simp only [Env.del] at hj
    rw [lookO_drop]
    split at hj
    · cases hj
    · rename_i hn
      rw [if_neg hn]
      exact h.dom j o hj
  · simp only [Env.del] at h1 h2
    split at h1
    · cases h1
    · split at h2
      · cases h2
      · exact h.inj i j o p b h1 h2 h3 h4

section
variable {w : World} {ρ : Env}
mutual
theorem V.men_dom {ids : Nat → Bool} (hd : ∀ id o, ρ.m id = some o → ids id = false) : ∀ (v : V) (cs : List Value), v.repC w ρ cs → V.men ids v = false
  | .d _, _, _ => rfl
  | .ptr id p, cs, h => by
    simp only [V.repC] at h
    simp only [V.men]
    rcases h with ⟨_, _, h, _⟩ | ⟨h, _⟩ <;> exact hd _ _ h
  | .sl id n, cs, h => by simp only [V.repC] at h; obtain ⟨_, _, h, _⟩ := h; exact hd _ _ h
  | .sd id n, cs, h => by simp only [V.repC] at h; obtain ⟨_, _, h, _⟩ := h; exact hd _ _ h
  | .mp id, cs, h => by
    simp only [V.repC] at h
    simp only [V.men]
    rcases h with ⟨_, h, _⟩ | ⟨h, _⟩ <;> exact hd _ _ h
  | .ep id n sh i p, cs, h => by simp only [V.repC] at h; obtain ⟨_, _, h, _⟩ := h; exact hd _ _ h
  | .fn f fi ca, cs, h => by
    simp only [V.repC] at h
    obtain ⟨fs, gs, _, h1, h2⟩ := h
    simp only [V.men, V.mens_dom hd fi fs h1, V.mens_dom hd ca gs h2, Bool.or_self]
  | .agg xs, cs, h => by simp only [V.repC] at h; simp only [V.men]; exact V.menCs_dom hd xs cs h
  | .iface t x, cs, h => by
    simp only [V.repC] at h
    obtain ⟨u, _, h⟩ := h
    simp only [V.men]
    rcases h with h | ⟨_, ds, _, h⟩ | ⟨_, h⟩
    · subst h; rfl
    · exact V.men_dom hd x ds h
    · exact V.men_dom hd x _ h
  | .tup xs, cs, h => by simp only [V.repC] at h; obtain ⟨vs, _, h⟩ := h; simp only [V.men]; exact V.mens_dom hd xs vs h
  | .undef, _, _ => rfl
  | .any, _, _ => rfl
theorem V.menCs_dom {ids : Nat → Bool} (hd : ∀ id o, ρ.m id = some o → ids id = false) : ∀ (xs : List V) (cs : List Value), V.repCs w ρ xs cs → V.mens ids xs = false
  | [], _, _ => rfl
  | x :: r, cs, h => by
    simp only [V.repCs] at h
    obtain ⟨c1, c2, _, h1, h2⟩ := h
    simp only [V.mens, V.men_dom hd x c1 h1, V.menCs_dom hd r c2 h2, Bool.or_self]
theorem V.mens_dom {ids : Nat → Bool} (hd : ∀ id o, ρ.m id = some o → ids id = false) : ∀ (xs : List V) (vs : List Value), V.reps w ρ xs vs → V.mens ids xs = false
  | [], _, _ => rfl
  | x :: r, vs, h => by
    simp only [V.reps] at h
    obtain ⟨u, us, _, h1, h2⟩ := h
    have : V.men ids x = false := by
      rcases h1 with h | ⟨_, ds, _, h⟩ | ⟨_, h⟩
      · subst h; rfl
      · exact V.men_dom hd x ds h
      · exact V.men_dom hd x _ h
    simp only [V.mens, this, V.mens_dom hd r us h2, Bool.or_self]
end
theorem V.men_temp {ids : Nat → Bool} (hd : ∀ id o, ρ.m id = some o → ids id = false) {v : V} {u : Value} (h : v.rep w ρ u) : V.men ids v = false := by
  rcases h with h | ⟨_, ds, _, h⟩ | ⟨_, h⟩
  · subst h; rfl
  · exact V.men_dom hd v ds h
  · exact V.men_dom hd v _ h
end

theorem Mod.sub {c : Ctx} {xo : Nat → Prop} {ρ : Env} {sl : Slots} {ob : Objs} {a : Act} {w : World} {keep : List Nat} {drp : Nat → Bool} (m : Mod c xo ρ sl ob a w) (hd : ∀ id o, c.m0 id = some o → drp id = false) (hv : ∀ p ∈ c.ev, V.men drp p.1 = false)
    (h1 : noMenS drp (keepS sl keep) = true) (h2 : noMenO drp (dropO drp ob) = true) : Mod c xo (ρ.del drp) (keepS sl keep) (dropO drp ob) a w :=
  ⟨⟨m.base.size, m.base.keep, fun b hb => m.base.owns b (del_ownM hb), m.base.tape, m.base.os, m.base.out, fun id o h => (m.base.same id o h).elim fun o' q => ⟨o', by simp only [Env.del, hd id o h]; exact q.1, q.2⟩, fun p hp => V.rep_del (hv p hp) (m.base.ext p hp)⟩, m.om.del h2, fun k => V.rep_del (noMenS_look _ k h1) (m.sm.keep keep k), m.size, m.df, m.xo, m.gl⟩

def PanicQ (c : Ctx) (xo : Nat → Prop) (pk : List Nat) (Q : Post) (ch : List PanicEntry) (a : Act) (w : World) : Prop :=
  ∃ v sl ob ρ u, Q (.panic v) (keepS sl pk) ob ∧ ch = [{ v := u, recovered := false }] ∧ v.rep w ρ u ∧ Mod c xo ρ (keepS sl pk) ob a w

theorem look_keep (sl : Slots) : ∀ (pk : List Nat) (k : Nat), k ∉ pk → look (keepS sl pk) k = .any
  | [], k, _ => by simp [keepS, look]
  | j :: r, k, h => by
    simp only [keepS, look]
    have : j ≠ k := fun e => h (by simp [e])
    rw [if_neg this]
    exact look_keep sl r k (fun h' => h (by simp [h']))

theorem panic_put {c : Ctx} {xo : Nat → Prop} {pk : List Nat} {Q : Post} {ch : List PanicEntry} {a : Act} {w : World} {d : Option Nat} {v : Value} (hd : ∀ k, d = some k → k ∉ pk) (h : PanicQ c xo pk Q ch (a.put d v) w) : PanicQ c xo pk Q ch a w := by
  obtain ⟨x, sl, ob, ρ, u, h1, h2, h3, m⟩ := h
  refine ⟨x, sl, ob, ρ, u, h1, h2, h3, m.base, m.om, fun k => ?_, ?_, ?_, m.xo, m.gl⟩
  · by_cases hk : k ∈ pk
    · have := m.sm k
      cases d with
      | none => exact this
      | some j =>
        have hne : j ≠ k := fun e => hd j rfl (e ▸ hk)
        simpa [Act.put, Array.getElem?_setIfInBounds, hne] using this
    · rw [look_keep sl pk k hk]; exact rep_any
  · have := m.size
    cases d <;> simpa [Act.put] using this
  · have := m.df
    cases d <;> simpa [Act.put] using this

theorem drawn_sound {P : Prg} {c : Ctx} (hg : P.g = c.g) {xo : Nat → Prop} {ops : Array Oper} {Q : Exit → Act → World → Prop} {QP : Post} {pk : List Nat} {K : Slots → Objs → Prop} {kd : Nat → Nat}
    (hsel : Region.noSelect ops = true) (hpk : dstsFree pk ops = true)
    (hK : ∀ sl ob ρ a w, K sl ob → Mod c xo ρ sl ob a w → Q .normal a w)
    (hQ : ∀ ch a w, Q (.panic ch) a w ↔ PanicQ c xo pk QP ch a w) :
    ∀ (ord : List Nat) (its : List It) (listed : Array Bool) (sl : Slots) (ob : Objs) (ρ : Env) (a : Act) (w : World), canon P.p c.N ops kd listed ord its = true → Closed .any ops listed →
      rwp P K (fun v sl ob => QP (.panic v) (keepS sl pk) ob) its sl ob → Mod c xo ρ sl ob a w → wpAnyG P.p .any ops Q Ext (fun j => kd j == 3) ord.length listed a w
  | [], [], listed, sl, ob, ρ, a, w, hc, _, h, m => by
    simp only [canon] at hc
    simp only [List.length_nil, wpAnyG]
    exact ⟨by simpa using hc, hK sl ob ρ a w h m⟩
  | i :: r, x :: s, listed, sl, ob, ρ, a, w, hc, hcl, h, m => by
    simp only [canon, Bool.and_eq_true] at hc
    obtain ⟨⟨⟨⟨hr, hx⟩, hkd⟩, hkind⟩, hrest⟩ := hc
    have hr' : i ∈ Region.ready .any ops listed := by simpa using hr
    cases ho : ops[i]? with
    | none => simp [ho] at hx
    | some o =>
      simp only [ho] at hx
      have hkd' : x.kind = kd i := by simpa using hkd
      have hpko : ∀ k, o.dst = some k → k ∉ pk := by
        intro k hk
        have := List.all_eq_true.1 hpk o (by simpa using Array.mem_of_getElem? ho)
        simpa [hk] using this
      have hQo : ∀ v : Value, ∀ ch a w, Q (.panic ch) (a.put o.dst v) w → Q (.panic ch) a w := fun v ch a w hq => (hQ ch a w).2 (panic_put hpko ((hQ ch _ w).1 hq))
      have hcl' := hcl.step hr'
      simp only [List.length_cons]
      -- the operation's state and text, whichever way its guard goes
      have hd : ∃ (d : Option Nat) (y : I), dstOk c.N o.dst d = true ∧ y.chk P.p o.op = true ∧ x.kind = y.kind ∧
          ((Region.wanted o (yielded ops a.tmps) = true ∧ ∃ sl', SM w ρ sl' a ∧ y.wp P sl' ob (fun v ob' => rwp P K (fun v sl ob => QP (.panic v) (keepS sl pk) ob) s (put sl' d v) ob') (fun v ob' => QP (.panic v) (keepS sl' pk) ob')) ∨
           (Region.wanted o (yielded ops a.tmps) = false ∧ ∃ sl', SM w ρ sl' a ∧ rwp P K (fun v sl ob => QP (.panic v) (keepS sl pk) ob) s (put sl' d .undef) ob)) := by
        cases x with
        | op d y =>
          simp only [It.chk, Bool.and_eq_true, Option.isNone_iff_eq_none] at hx
          simp only [rwp] at h
          exact ⟨d, y, hx.1.1, hx.2, rfl, .inl ⟨by simp [Region.wanted, hx.1.2], sl, m.sm, h⟩⟩
        | gop g want d y =>
          simp only [It.chk, Bool.and_eq_true] at hx
          simp only [rwp] at h
          exact ⟨d, y, hx.1.1, hx.2, rfl, guard_sound (ops := ops) m.sm hx.1.2 h⟩
      obtain ⟨d, y, hdst, hy, hky, hways⟩ := hd
      -- an operation that may be taken first
      have first : ∀ l : Bool, (∀ cc, y = .c cc → cc.isLd = l) → (∃ cc, y = .c cc) → Region.free .any ops listed i = true →
          (l = true → ∀ j, j < ops.size → (kd j == 3) = true → j ≠ i → ∃ fuel, waits .any ops i fuel j = true) → wpAnyG P.p .any ops Q Ext (fun j => kd j == 3) (r.length + 1) listed a w := by
        intro l hld hcc hfree hwt
        obtain ⟨cc, rfl⟩ := hcc
        have hld := hld cc rfl
        rcases hways with ⟨hw, sl', hs, hwp⟩ | ⟨hw, sl', hs, hwp⟩
        · simp only [I.wp] at hwp
          obtain ⟨v, z, hk, hrep, hrun⟩ := C.sound hs m.om hy hwp
          obtain ⟨g1, g2, g3⟩ := rep_look_put hdst m.size hs hrep
          refine wpAnyG_first (l := l) Ext.refl (fun _ _ _ => Ext.trans) ho (Region.noSelect_spec hsel) (hQo v) hwt _ listed a w hcl (Region.free_spec ho hfree) hr' (.inl ⟨hw, fun w' hw' => hrun o rfl w' (fun e => hw' (by rw [← hld]; exact e))⟩) ?_
          exact drawn_sound hg hsel hpk hK hQ r s _ _ ob ρ _ w hrest hcl' hk ⟨m.base, m.om, g1, g2, g3.trans m.df, m.xo, m.gl⟩
        · obtain ⟨g1, g2, g3⟩ := rep_look_put hdst m.size hs (rep_undef.2 rfl)
          refine wpAnyG_first (l := l) Ext.refl (fun _ _ _ => Ext.trans) ho (Region.noSelect_spec hsel) (hQo undef) hwt _ listed a w hcl (Region.free_spec ho hfree) hr' (.inr ⟨hw, rfl⟩) ?_
          exact drawn_sound hg hsel hpk hK hQ r s _ _ ob ρ _ w hrest hcl' hwp ⟨m.base, m.om, g1, g2, g3.trans m.df, m.xo, m.gl⟩
      -- the only one that may come up
      have alone : Region.ready .any ops listed = [i] → (y.kind = 2 ∨ y.kind = 3) → wpAnyG P.p .any ops Q Ext (fun j => kd j == 3) (r.length + 1) listed a w := by
        intro hra hk23
        refine ⟨fun h0 => (by rw [hra] at h0; cases h0), fun j hj => ?_⟩
        rw [hra] at hj
        simp at hj; subst hj
        unfold wpOp
        simp only [ho]
        rcases hways with ⟨hw, sl', hs, hwp⟩ | ⟨hw, sl', hs, hwp⟩
        · rw [if_pos hw]
          refine .inl ?_
          rcases hk23 with hk2 | hk3
          · refine I.soundE (m.gl.trans hg.symm) hs m.om hk2 hy hwp o rfl _ _ (fun v z w' hk hrep he => ⟨fun _ => he, ?_⟩)
            obtain ⟨g1, g2, g3⟩ := rep_look_put hdst m.size (hs.tr he.tr) hrep
            exact drawn_sound hg hsel hpk hK hQ r s _ _ ob ρ _ w' hrest hcl' hk ⟨m.base.tr he.tr, m.om.ext he, g1, g2, g3.trans m.df, m.xo, m.gl⟩
          · refine I.sound (m.gl.trans hg.symm) hs m.om hy hwp o rfl _ _ (fun v z ob' w' ρ' hk hrep ho' t => ⟨fun hf => ?_, ?_⟩) (fun u z ob' w' ρ' hk hrep ho' t => ?_)
            · rw [← hkd', hky, hk3] at hf; cases hf
            · obtain ⟨g1, g2, g3⟩ := rep_look_put hdst m.size (hs.tr t) hrep
              exact drawn_sound hg hsel hpk hK hQ r s _ _ ob' ρ' _ w' hrest hcl' hk ⟨m.base.tr t, ho', g1, g2, g3.trans m.df, t.xo.trans m.xo, t.gl.trans m.gl⟩
            · exact (hQ _ _ _).2 ⟨z, sl', ob', ρ', u, hk, rfl, hrep, m.base.tr t, ho', (hs.tr t).keep pk, m.size, m.df, t.xo.trans m.xo, t.gl.trans m.gl⟩
        · rw [hw]
          simp only [Bool.false_eq_true, if_false]
          refine ⟨fun _ => Ext.refl w, ?_⟩
          obtain ⟨g1, g2, g3⟩ := rep_look_put hdst m.size hs (rep_undef.2 rfl)
          exact drawn_sound hg hsel hpk hK hQ r s _ _ ob ρ _ w hrest hcl' hwp ⟨m.base, m.om, g1, g2, g3.trans m.df, m.xo, m.gl⟩
      have hkl : y.kind = 0 ∨ y.kind = 1 ∨ y.kind = 2 ∨ y.kind = 3 := by
        cases y with
        | c cc => simp only [I.kind]; split <;> simp
        | _ => simp [I.kind]
      have hcc : ∀ n, (n = 0 ∨ n = 1) → y.kind = n → (∃ cc, y = .c cc) ∧ ∀ cc, y = .c cc → cc.isLd = (n == 1) := by
        intro n hn hyn
        cases y with
        | c cc =>
          refine ⟨⟨cc, rfl⟩, fun c' e => ?_⟩
          cases e
          simp only [I.kind] at hyn
          cases hl : cc.isLd <;> simp [hl] at hyn <;> subst hyn <;> rfl
        | _ => simp [I.kind] at hyn; subst hyn; simp at hn
      rcases hkl with h0 | h1 | h2 | h3
      · rw [hky, h0] at hkind
        obtain ⟨c1, c2⟩ := hcc 0 (.inl rfl) h0
        exact first false (fun cc e => by simpa using c2 cc e) c1 hkind (by simp)
      · rw [hky, h1] at hkind
        simp only [Bool.and_eq_true] at hkind
        obtain ⟨c1, c2⟩ := hcc 1 (.inr rfl) h1
        refine first true (fun cc e => by simpa using c2 cc e) c1 hkind.1 (fun _ j hj hk3 hne => ⟨ops.size, ?_⟩)
        have := List.all_eq_true.1 hkind.2 j (by simpa using hj)
        have hk3' : kd j = 3 := by simpa using hk3
        simpa [hk3', hne] using this
      · rw [hky, h2] at hkind
        exact alone (by simpa using hkind) (.inl h2)
      · rw [hky, h3] at hkind
        exact alone (by simpa using hkind) (.inr h3)
  | [], _ :: _, _, _, _, _, _, _, hc, _, _, _ => by simp [canon] at hc
  | _ :: _, [], _, _, _, _, _, _, hc, _, _, _ => by simp [canon] at hc

theorem step_any {P : Prg} {c : Ctx} (hg : P.g = c.g) {xo : Nat → Prop} {ops : Array Oper} {Q : Exit → Act → World → Prop} {QP : Post} {pk : List Nat} {next : Slots → Objs → Prop} {i : Nat} {o : Oper} {x : It} {sl : Slots} {ob : Objs} {ρ : Env} {a : Act} {w : World} {N : Act → World → Prop}
    (hQ : ∀ ch a w, Q (.panic ch) a w ↔ PanicQ c xo pk QP ch a w) (ho : ops[i]? = some o) (hx : x.chk P.p c.N ops o = true) (h : itK P next (fun v sl ob => QP (.panic v) (keepS sl pk) ob) x sl ob) (m : Mod c xo ρ sl ob a w)
    (hN : ∀ sl' ob' ρ' a' w', next sl' ob' → Mod c xo ρ' sl' ob' a' w' → N a' w') : wpOp P.p ops Q i (fun a' w' => (x.kind ≠ 3 → Ext w w') ∧ N a' w') a w := by
  have hd : ∃ (d : Option Nat) (y : I), dstOk c.N o.dst d = true ∧ y.chk P.p o.op = true ∧ x.kind = y.kind ∧
      ((Region.wanted o (yielded ops a.tmps) = true ∧ ∃ sl', SM w ρ sl' a ∧ y.wp P sl' ob (fun v ob' => next (put sl' d v) ob') (fun v ob' => QP (.panic v) (keepS sl' pk) ob')) ∨
       (Region.wanted o (yielded ops a.tmps) = false ∧ ∃ sl', SM w ρ sl' a ∧ next (put sl' d .undef) ob)) := by
    cases x with
    | op d y =>
      simp only [It.chk, Bool.and_eq_true, Option.isNone_iff_eq_none] at hx
      exact ⟨d, y, hx.1.1, hx.2, rfl, .inl ⟨by simp [Region.wanted, hx.1.2], sl, m.sm, h⟩⟩
    | gop g want d y =>
      simp only [It.chk, Bool.and_eq_true] at hx
      simp only [itK] at h
      exact ⟨d, y, hx.1.1, hx.2, rfl, guard_sound (ops := ops) m.sm hx.1.2 h⟩
  obtain ⟨d, y, hdst, hy, hky, hways⟩ := hd
  unfold wpOp
  simp only [ho]
  rcases hways with ⟨hw, sl', hs, hwp⟩ | ⟨hw, sl', hs, hwp⟩
  · rw [if_pos hw]
    refine .inl ?_
    by_cases hk3 : y.kind = 3
    · refine I.sound (m.gl.trans hg.symm) hs m.om hy hwp o rfl _ _ (fun v z ob' w' ρ' hk hrep ho' t => ⟨fun hf => ?_, ?_⟩) (fun u z ob' w' ρ' hk hrep ho' t => ?_)
      · rw [hky] at hf; exact absurd hk3 hf
      · obtain ⟨g1, g2, g3⟩ := rep_look_put hdst m.size (hs.tr t) hrep
        exact hN _ ob' ρ' _ w' hk ⟨m.base.tr t, ho', g1, g2, g3.trans m.df, t.xo.trans m.xo, t.gl.trans m.gl⟩
      · exact (hQ _ _ _).2 ⟨z, sl', ob', ρ', u, hk, rfl, hrep, m.base.tr t, ho', (hs.tr t).keep pk, m.size, m.df, t.xo.trans m.xo, t.gl.trans m.gl⟩
    · by_cases hk2 : y.kind = 2
      · refine I.soundE (m.gl.trans hg.symm) hs m.om hk2 hy hwp o rfl _ _ (fun v z w' hk hrep he => ⟨fun _ => he, ?_⟩)
        obtain ⟨g1, g2, g3⟩ := rep_look_put hdst m.size (hs.tr he.tr) hrep
        exact hN _ ob ρ _ w' hk ⟨m.base.tr he.tr, m.om.ext he, g1, g2, g3.trans m.df, m.xo, m.gl⟩
      · cases y with
        | c cc =>
          simp only [I.wp] at hwp
          obtain ⟨v, z, hk, hrep, hrun⟩ := C.sound hs m.om hy hwp
          obtain ⟨g1, g2, g3⟩ := rep_look_put hdst m.size hs hrep
          unfold Oper.wp
          rw [hrun o rfl w (fun _ => Ext.refl w)]
          exact ⟨fun _ => Ext.refl w, hN _ ob ρ _ w hk ⟨m.base, m.om, g1, g2, g3.trans m.df, m.xo, m.gl⟩⟩
        | _ => exfalso; simp [I.kind] at hk2 hk3
  · rw [hw]
    simp only [Bool.false_eq_true, if_false]
    refine ⟨fun _ => Ext.refl w, ?_⟩
    obtain ⟨g1, g2, g3⟩ := rep_look_put hdst m.size hs (rep_undef.2 rfl)
    exact hN _ ob ρ _ w hwp ⟨m.base, m.om, g1, g2, g3.trans m.df, m.xo, m.gl⟩

theorem drawnT_sound {P : Prg} {c : Ctx} (hg : P.g = c.g) {xo : Nat → Prop} {ops : Array Oper} {Q : Exit → Act → World → Prop} {QP : Post} {pk : List Nat} {K : Slots → Objs → Prop} {kd : Nat → Nat}
    (hsel : Region.noSelect ops = true) (hpk : dstsFree pk ops = true)
    (hK : ∀ sl ob ρ a w, K sl ob → Mod c xo ρ sl ob a w → Q .normal a w)
    (hQ : ∀ ch a w, Q (.panic ch) a w ↔ PanicQ c xo pk QP ch a w) :
    ∀ (n : Nat) (t : Ot) (listed : Array Bool) (sl : Slots) (ob : Objs) (ρ : Env) (a : Act) (w : World), canonT P.p c.N ops kd n listed t = true → Closed .any ops listed →
      owp P K (fun v sl ob => QP (.panic v) (keepS sl pk) ob) t sl ob → Mod c xo ρ sl ob a w → wpAnyG P.p .any ops Q Ext (fun j => kd j == 3) n listed a w
  | 0, .done, listed, sl, ob, ρ, a, w, hc, _, h, m => by
    simp only [canonT] at hc
    simp only [owp] at h
    simp only [wpAnyG]
    exact ⟨by simpa using hc, hK sl ob ρ a w h m⟩
  | n + 1, .br l, listed, sl, ob, ρ, a, w, hc, hcl, h, m => by
    simp only [canonT, Bool.and_eq_true, Bool.not_eq_true'] at hc
    obtain ⟨⟨hne, hall⟩, hcs⟩ := hc
    simp only [owp] at h
    simp only [wpAnyG]
    refine ⟨fun h0 => by rw [h0] at hne; simp at hne, fun j hj => ?_⟩
    have hh := List.all_eq_true.1 hall j hj
    obtain ⟨x, r, o, g1, g2, g3, g4, g5⟩ : ∃ x r o, ops[j]? = some o ∧ x.chk P.p c.N ops o = true ∧ x.kind = kd j ∧ canonT P.p c.N ops kd n (listed.setIfInBounds j true) r = true ∧ itK P (owp P K (fun v sl ob => QP (.panic v) (keepS sl pk) ob) r) (fun v sl ob => QP (.panic v) (keepS sl pk) ob) x sl ob := by
      clear hne hall
      revert h hcs hh
      generalize l = l
      intro hh hcs h
      have go : ∀ (l : Ots), l.has j = true → canonTs P.p c.N ops kd n listed l = true → owps P K (fun v sl ob => QP (.panic v) (keepS sl pk) ob) l sl ob → ∃ x r o, ops[j]? = some o ∧ x.chk P.p c.N ops o = true ∧ x.kind = kd j ∧ canonT P.p c.N ops kd n (listed.setIfInBounds j true) r = true ∧ itK P (owp P K (fun v sl ob => QP (.panic v) (keepS sl pk) ob) r) (fun v sl ob => QP (.panic v) (keepS sl pk) ob) x sl ob := by
        intro l
        induction l using Ots.rec (motive_1 := fun _ => True) with
        | nil => intro h; simp [Ots.has] at h
        | cons i x r l _ ih =>
          intro h1 h2 h3
          simp only [Ots.has, Bool.or_eq_true, beq_iff_eq] at h1
          simp only [canonTs, Bool.and_eq_true] at h2
          simp only [owps] at h3
          by_cases e : i = j
          · subst e
            obtain ⟨⟨⟨⟨_, hx⟩, hk⟩, hr⟩, _⟩ := h2
            cases ho : ops[i]? with
            | none => simp [ho] at hx
            | some o => simp only [ho] at hx; exact ⟨x, r, o, rfl, hx, by simpa using hk, hr, h3.1⟩
          · exact ih (h1.resolve_left e) h2.2 h3.2
        | done => trivial
        | one i x r _ => trivial
        | br l _ => trivial
      first | exact go _ hh hcs h | exact go _ h hcs hh
    have hst := step_any (Q := Q) (N := fun a' w' => wpAnyG P.p .any ops Q Ext (fun j => kd j == 3) n (listed.setIfInBounds j true) a' w') hg hQ g1 g2 g5 m (fun sl' ob' ρ' a' w' hk m' => drawnT_sound hg hsel hpk hK hQ n r _ sl' ob' ρ' a' w' g4 (hcl.step hj) hk m')
    refine wpOp_mono (fun a' w' h' => ⟨fun hf => h'.1 ?_, h'.2⟩) hst
    rw [g3]; intro e; simp [e] at hf
  | n + 1, .one i x r, listed, sl, ob, ρ, a, w, hc, hcl, h, m => by
    simp only [canonT, Bool.and_eq_true] at hc
    obtain ⟨⟨⟨⟨hr, hx⟩, hkd⟩, hkind⟩, hrest⟩ := hc
    have hr' : i ∈ Region.ready .any ops listed := by simpa using hr
    simp only [owp] at h
    cases ho : ops[i]? with
    | none => simp [ho] at hx
    | some o =>
      simp only [ho] at hx
      have hkd' : x.kind = kd i := by simpa using hkd
      have hcl' := hcl.step hr'
      -- the only one that may come up
      have alone : Region.ready .any ops listed = [i] → wpAnyG P.p .any ops Q Ext (fun j => kd j == 3) (n + 1) listed a w := by
        intro hra
        refine ⟨fun h0 => (by rw [hra] at h0; cases h0), fun j hj => ?_⟩
        rw [hra] at hj
        simp at hj; subst hj
        have hst := step_any (Q := Q) (N := fun a' w' => wpAnyG P.p .any ops Q Ext (fun j => kd j == 3) n (listed.setIfInBounds j true) a' w') hg hQ ho hx h m (fun sl' ob' ρ' a' w' hk m' => drawnT_sound hg hsel hpk hK hQ n r _ sl' ob' ρ' a' w' hrest hcl' hk m')
        refine wpOp_mono (fun a' w' h' => ⟨fun hf => h'.1 ?_, h'.2⟩) hst
        rw [hkd']; intro e; simp [e] at hf
      have hpko : ∀ k, o.dst = some k → k ∉ pk := by
        intro k hk
        have := List.all_eq_true.1 hpk o (by simpa using Array.mem_of_getElem? ho)
        simpa [hk] using this
      have hQo : ∀ v : Value, ∀ ch a w, Q (.panic ch) (a.put o.dst v) w → Q (.panic ch) a w := fun v ch a w hq => (hQ ch a w).2 (panic_put hpko ((hQ ch _ w).1 hq))
      have hd : ∃ (d : Option Nat) (y : I), dstOk c.N o.dst d = true ∧ y.chk P.p o.op = true ∧ x.kind = y.kind ∧
          ((Region.wanted o (yielded ops a.tmps) = true ∧ ∃ sl', SM w ρ sl' a ∧ y.wp P sl' ob (fun v ob' => owp P K (fun v sl ob => QP (.panic v) (keepS sl pk) ob) r (put sl' d v) ob') (fun v ob' => QP (.panic v) (keepS sl' pk) ob')) ∨
           (Region.wanted o (yielded ops a.tmps) = false ∧ ∃ sl', SM w ρ sl' a ∧ owp P K (fun v sl ob => QP (.panic v) (keepS sl pk) ob) r (put sl' d .undef) ob)) := by
        cases x with
        | op d y =>
          simp only [It.chk, Bool.and_eq_true, Option.isNone_iff_eq_none] at hx
          exact ⟨d, y, hx.1.1, hx.2, rfl, .inl ⟨by simp [Region.wanted, hx.1.2], sl, m.sm, h⟩⟩
        | gop g want d y =>
          simp only [It.chk, Bool.and_eq_true] at hx
          simp only [itK] at h
          exact ⟨d, y, hx.1.1, hx.2, rfl, guard_sound (ops := ops) m.sm hx.1.2 h⟩
      obtain ⟨d, y, hdst, hy, hky, hways⟩ := hd
      have first : ∀ l : Bool, (∀ cc, y = .c cc → cc.isLd = l) → (∃ cc, y = .c cc) → Region.free .any ops listed i = true →
          (l = true → ∀ j, j < ops.size → (kd j == 3) = true → j ≠ i → ∃ fuel, waits .any ops i fuel j = true) → wpAnyG P.p .any ops Q Ext (fun j => kd j == 3) (n + 1) listed a w := by
        intro l hld hcc hfree hwt
        obtain ⟨cc, rfl⟩ := hcc
        have hld := hld cc rfl
        rcases hways with ⟨hw, sl', hs, hwp⟩ | ⟨hw, sl', hs, hwp⟩
        · simp only [I.wp] at hwp
          obtain ⟨v, z, hk, hrep, hrun⟩ := C.sound hs m.om hy hwp
          obtain ⟨g1, g2, g3⟩ := rep_look_put hdst m.size hs hrep
          refine wpAnyG_first (l := l) Ext.refl (fun _ _ _ => Ext.trans) ho (Region.noSelect_spec hsel) (hQo v) hwt _ listed a w hcl (Region.free_spec ho hfree) hr' (.inl ⟨hw, fun w' hw' => hrun o rfl w' (fun e => hw' (by rw [← hld]; exact e))⟩) ?_
          exact drawnT_sound hg hsel hpk hK hQ n r _ _ ob ρ _ w hrest hcl' hk ⟨m.base, m.om, g1, g2, g3.trans m.df, m.xo, m.gl⟩
        · obtain ⟨g1, g2, g3⟩ := rep_look_put hdst m.size hs (rep_undef.2 rfl)
          refine wpAnyG_first (l := l) Ext.refl (fun _ _ _ => Ext.trans) ho (Region.noSelect_spec hsel) (hQo undef) hwt _ listed a w hcl (Region.free_spec ho hfree) hr' (.inr ⟨hw, rfl⟩) ?_
          exact drawnT_sound hg hsel hpk hK hQ n r _ _ ob ρ _ w hrest hcl' hwp ⟨m.base, m.om, g1, g2, g3.trans m.df, m.xo, m.gl⟩
      have hcc : ∀ n, (n = 0 ∨ n = 1) → y.kind = n → (∃ cc, y = .c cc) ∧ ∀ cc, y = .c cc → cc.isLd = (n == 1) := by
        intro n hn hyn
        cases y with
        | c cc =>
          refine ⟨⟨cc, rfl⟩, fun c' e => ?_⟩
          cases e
          simp only [I.kind] at hyn
          cases hl : cc.isLd <;> simp [hl] at hyn <;> subst hyn <;> rfl
        | _ => simp [I.kind] at hyn; subst hyn; simp at hn
      have hkl : y.kind = 0 ∨ y.kind = 1 ∨ y.kind = 2 ∨ y.kind = 3 := by
        cases y with
        | c cc => simp only [I.kind]; split <;> simp
        | _ => simp [I.kind]
      rcases hkl with h0 | h1 | h2 | h3
      · rw [hky, h0] at hkind
        obtain ⟨c1, c2⟩ := hcc 0 (.inl rfl) h0
        exact first false (fun cc e => by simpa using c2 cc e) c1 hkind (by simp)
      · rw [hky, h1] at hkind
        simp only [Bool.and_eq_true] at hkind
        obtain ⟨c1, c2⟩ := hcc 1 (.inr rfl) h1
        refine first true (fun cc e => by simpa using c2 cc e) c1 hkind.1 (fun _ j hj hk3 hne => ⟨ops.size, ?_⟩)
        have := List.all_eq_true.1 hkind.2 j (by simpa using hj)
        have hk3' : kd j = 3 := by simpa using hk3
        simpa [hk3', hne] using this
      · rw [hky, h2] at hkind
        exact alone (by simpa using hkind)
      · rw [hky, h3] at hkind
        exact alone (by simpa using hkind)
  | 0, .one _ _ _, _, _, _, _, _, _, hc, _, _, _ => by simp [canonT] at hc
  | 0, .br _, _, _, _, _, _, _, hc, _, _, _ => by simp [canonT] at hc
  | _ + 1, .done, _, _, _, _, _, _, hc, _, _, _ => by simp [canonT] at hc

theorem wpAny_fuel {P : Program} {ops : Array Oper} {Q : Exit → Act → World → Prop} {md : Region.Mode} : ∀ (n m : Nat) (listed : Array Bool) (a : Act) (w : World), n ≤ m → wpAny P md ops Q n listed a w → wpAny P md ops Q m listed a w
  | 0, 0, _, _, _, _, h => h
  | 0, m + 1, listed, a, w, _, h => ⟨fun _ => h.2, fun i hi => by rw [h.1] at hi; cases hi⟩
  | n + 1, m + 1, listed, a, w, hle, h => ⟨h.1, fun i hi => wpOp_mono (fun a' w' h' => wpAny_fuel n m _ a' w' (by omega) h') (h.2 i hi)⟩
  | n + 1, 0, _, _, _, hle, _ => by omega

theorem exists_least {p : Nat → Prop} : ∀ n, p n → ∃ m, p m ∧ ∀ k, p k → m ≤ k := by
  intro n
  induction n using Nat.strongRecOn with
  | _ n ih =>
    intro hn
    by_cases h : ∃ k, p k ∧ k < n
    · obtain ⟨k, hk, hlt⟩ := h; exact ih k hlt hk
    · exact ⟨n, hn, fun k hk => Nat.le_of_not_lt fun hlt => h ⟨k, hk, hlt⟩⟩

theorem cwp_sound {P : Prg} (hm : P.p.follows .mixedOrders = true) {c : Ctx} (hg : P.g = c.g) {xo : Nat → Prop} : ∀ (code : Code) (s : S) (Q : Post) (sl : Slots) (ob : Objs) (ρ : Env) (a : Act) (w : World),
    S.chk P.p c.N code s = true → cwp P s Q sl ob → Mod c xo ρ sl ob a w → code.wp P.p (lift c xo Q) a w
  | .skip, s, Q, sl, ob, ρ, a, w, hc, h, m => by
    cases s <;> simp [S.chk] at hc
    exact wp_skip ⟨.normal, sl, ob, ρ, h, trivial, m⟩
  | .region id ops draw, s, Q, sl, ob, ρ, a, w, hc, h, m => by
    cases s <;> simp only [S.chk, Bool.false_eq_true] at hc
    case rgT n t keep pk =>
      simp only [cwp] at h
      simp only [Bool.and_eq_true] at hc
      obtain ⟨⟨⟨⟨hdr, hlen⟩, hsel⟩, hpk⟩, hcan⟩ := hc
      subst hdr
      have hlen : n ≤ ops.size := by simpa using hlen
      let Q' : Exit → Act → World → Prop := fun e a w => match e with
        | .panic ch => PanicQ c xo pk Q ch a w
        | e => lift c xo Q e a w
      have hx : Ext w { w with drawn := w.drawn + 1 } := Ext.drew w _
      have key := drawnT_sound (Q := Q') (QP := Q) (K := fun sl ob => Q .normal (keepS sl keep) ob) hg hsel hpk
        (fun sl ob ρ a w hk m => (⟨.normal, _, ob, ρ, hk, trivial, m.base, m.om, m.sm.keep keep, m.size, m.df, m.xo, m.gl⟩ : lift c xo Q .normal a w))
        (fun ch a w => Iff.rfl) n t (Array.replicate ops.size false) sl ob ρ a { w with drawn := w.drawn + 1 } hcan
        (fun k o _ hl => by
          rcases Nat.lt_or_ge k ops.size with h' | h'
          · simp [h'] at hl
          · simp [h'] at hl) h ⟨m.base.tr hx.tr, m.om.ext hx, m.sm.tr hx.tr, m.size, m.df, m.xo, m.gl⟩
      have hany := wpAny_of_G _ _ _ _ key
      refine wp_mono (wp_region_any hm (wpAny_fuel _ _ _ _ _ hlen hany)) (fun e a' w' he => ?_)
      cases e with
      | panic ch =>
        obtain ⟨v, sl', ob', ρ', u, h1, h2, h3, m'⟩ := he
        exact ⟨.panic v, _, ob', ρ', h1, ⟨u, h2, h3⟩, m'⟩
      | _ => exact he
    rename_i ord l keep pk
    simp only [cwp] at h
    cases draw with
    | false =>
      simp only [Bool.false_eq_true, if_false] at hc
      refine wp_region_list (list_sound (c := c) (xo := xo) hg (fun sl ob ρ a w hk m => ?_) (fun v sl ob ρ a w u hk m hr => ?_) ops.toList l sl ob ρ a w hc h m)
      · exact ⟨.normal, _, ob, ρ, hk, trivial, m.base, m.om, m.sm.keep keep, m.size, m.df, m.xo, m.gl⟩
      · exact ⟨.panic v, _, ob, ρ, hk, ⟨u, rfl, hr⟩, m.base, m.om, m.sm.keep pk, m.size, m.df, m.xo, m.gl⟩
    | true =>
      simp only [if_true, Bool.and_eq_true] at hc
      obtain ⟨⟨⟨hlen, hsel⟩, hpk⟩, hcan⟩ := hc
      have hlen : ord.length ≤ ops.size := by simpa using hlen
      let Q' : Exit → Act → World → Prop := fun e a w => match e with
        | .panic ch => PanicQ c xo pk Q ch a w
        | e => lift c xo Q e a w
      have hx : Ext w { w with drawn := w.drawn + 1 } := Ext.drew w _
      have key := drawn_sound (Q := Q') (QP := Q) (K := fun sl ob => Q .normal (keepS sl keep) ob) hg hsel hpk
        (fun sl ob ρ a w hk m => (⟨.normal, _, ob, ρ, hk, trivial, m.base, m.om, m.sm.keep keep, m.size, m.df, m.xo, m.gl⟩ : lift c xo Q .normal a w))
        (fun ch a w => Iff.rfl) ord l (Array.replicate ops.size false) sl ob ρ a { w with drawn := w.drawn + 1 } hcan
        (fun k o _ hl => by
          rcases Nat.lt_or_ge k ops.size with h' | h'
          · simp [h'] at hl
          · simp [h'] at hl) h ⟨m.base.tr hx.tr, m.om.ext hx, m.sm.tr hx.tr, m.size, m.df, m.xo, m.gl⟩
      have hany := wpAny_of_G _ _ _ _ key
      refine wp_mono (wp_region_any hm (wpAny_fuel _ _ _ _ _ hlen hany)) (fun e a' w' he => ?_)
      cases e with
      | panic ch =>
        obtain ⟨v, sl', ob', ρ', u, h1, h2, h3, m'⟩ := he
        exact ⟨.panic v, _, ob', ρ', h1, ⟨u, h2, h3⟩, m'⟩
      | _ => exact he
  | .seq x y, s, Q, sl, ob, ρ, a, w, hc, h, m => by
    cases s <;> simp [S.chk] at hc
    simp only [cwp] at h
    refine wp_seq (wp_mono (cwp_sound hm hg x _ _ sl ob ρ a w hc.1 h m) ?_)
    rintro e a' w' ⟨ae, sl', ob', ρ', hq, he, m'⟩
    cases ae with
    | normal =>
      cases e <;> simp only [exM] at he
      exact cwp_sound hm hg y _ Q sl' ob' ρ' a' w' hc.2 hq m'
    | exit n =>
      cases e <;> simp only [exM] at he
      exact ⟨.exit n, sl', ob', ρ', hq, he, m'⟩
    | ret =>
      cases e <;> simp only [exM] at he
      exact ⟨.ret, sl', ob', ρ', hq, trivial, m'⟩
    | panic v =>
      cases e <;> simp only [exM] at he
      exact ⟨.panic v, sl', ob', ρ', hq, he, m'⟩
  | .cond d x y, s, Q, sl, ob, ρ, a, w, hc, h, m => by
    cases s <;> simp [S.chk] at hc
    obtain ⟨⟨h1, h2⟩, h3⟩ := hc
    simp only [cwp] at h
    have r1 := A.sound m.sm h1
    unfold condK at h
    split at h
    · rename_i t e
      rw [e, rep_bool] at r1
      exact wp_cond_split r1 (fun ht => cwp_sound hm hg x _ Q sl ob ρ a w h2 (h.1 ht) m) (fun ht => cwp_sound hm hg y _ Q sl ob ρ a w h3 (h.2 ht) m)
    · exact h.elim
  | .block n x, s, Q, sl, ob, ρ, a, w, hc, h, m => by
    cases s <;> simp [S.chk] at hc
    obtain ⟨rfl, h1⟩ := hc
    simp only [cwp] at h
    refine wp_block (wp_mono (cwp_sound hm hg x _ _ sl ob ρ a w h1 h m) ?_)
    rintro e a' w' ⟨ae, sl', ob', ρ', hq, he, m'⟩
    cases ae with
    | normal =>
      cases e <;> simp only [exM] at he
      exact ⟨.normal, sl', ob', ρ', hq, trivial, m'⟩
    | exit k =>
      cases e <;> simp only [exM] at he
      subst he
      simp only [blockK] at hq
      simp only [Exit.inBlock]
      split
      · rename_i e; rw [if_pos e] at hq; exact ⟨.normal, sl', ob', ρ', hq, trivial, m'⟩
      · rename_i e; rw [if_neg e] at hq; exact ⟨.exit _, sl', ob', ρ', hq, rfl, m'⟩
    | ret =>
      cases e <;> simp only [exM] at he
      exact ⟨.ret, sl', ob', ρ', hq, trivial, m'⟩
    | panic v =>
      cases e <;> simp only [exM] at he
      exact ⟨.panic v, sl', ob', ρ', hq, he, m'⟩
  | .loop x, s, Q, sl, ob, ρ, a, w, hc, h, m => by
    cases s <;> simp [S.chk] at hc
    simp only [cwp] at h
    obtain ⟨ι, St, Ot, I, μ, i0, hi0, he0, he1, hstep⟩ := h.run
    let G : Act → World → Nat → Prop := fun a w n => ∃ i ρ, I i ∧ μ i = n ∧ Mod c xo ρ (St i) (Ot i) a w
    let M : Act → World → Nat := fun a w => open Classical in if h : ∃ n, G a w n then Classical.choose (exists_least (p := G a w) (Classical.choose h) (Classical.choose_spec h)) else 0
    have hM : ∀ a w n, G a w n → G a w (M a w) ∧ M a w ≤ n := by
      intro a w n hn
      have hex : ∃ n, G a w n := ⟨n, hn⟩
      have := Classical.choose_spec (exists_least (p := G a w) (Classical.choose hex) (Classical.choose_spec hex))
      simp only [M, hex, dif_pos]
      exact ⟨this.1, this.2 n hn⟩
    refine wp_loop (I := fun a w => ∃ n, G a w n) (μ := M) ⟨μ i0, i0, ρ, hi0, rfl, by rw [← he0, ← he1]; exact ⟨m.base, m.om, m.sm.keep _, m.size, m.df, m.xo, m.gl⟩⟩ ?_
    rintro a1 w1 ⟨n, hn⟩
    obtain ⟨⟨i, ρ1, hi, hmu, m1⟩, _⟩ := hM a1 w1 n hn
    refine wp_mono (cwp_sound hm hg x _ _ _ _ ρ1 a1 w1 hc (hstep i hi) m1) ?_
    rintro e a' w' ⟨ae, sl', ob', ρ', hq, he, m'⟩
    cases ae with
    | normal =>
      cases e <;> simp only [exM] at he
      simp only [thenK] at hq
      obtain ⟨drp, q1, q2, j, hj, hlt, hSj, hOj⟩ := hq
      have hold1 : ∀ id o, ρ1.m id = some o → young (fresh (Ot i)) drp id = false := fun id o h0 => by
        obtain ⟨x, hx⟩ := m1.om.dom id o h0
        have hlt : ¬ fresh (Ot i) ≤ id := fun hle => by rw [fresh_look _ _ hle] at hx; cases hx
        simp [young, hlt]
      have hold : ∀ id o, c.m0 id = some o → young (fresh (Ot i)) drp id = false := fun id o h0 => by
        obtain ⟨o', h1, _⟩ := m1.base.same id o h0
        exact hold1 id o' h1
      have hev : ∀ p ∈ c.ev, V.men (young (fresh (Ot i)) drp) p.1 = false := fun p hp => V.men_temp hold1 (m1.base.ext p hp)
      have hg : G a' w' (μ j) := ⟨j, _, hj, rfl, by rw [← hSj, ← hOj]; exact m'.sub hold hev q1 q2⟩
      have := hM a' w' _ hg
      exact ⟨⟨_, hg⟩, by omega⟩
    | exit k =>
      cases e <;> simp only [exM] at he
      exact ⟨.exit k, sl', ob', ρ', hq, he, m'⟩
    | ret =>
      cases e <;> simp only [exM] at he
      exact ⟨.ret, sl', ob', ρ', hq, trivial, m'⟩
    | panic v =>
      cases e <;> simp only [exM] at he
      exact ⟨.panic v, sl', ob', ρ', hq, he, m'⟩
  | .exit n, s, Q, sl, ob, ρ, a, w, hc, h, m => by
    cases s <;> simp [S.chk] at hc
    subst hc
    exact wp_exit ⟨.exit n, sl, ob, ρ, h, rfl, m⟩
  | .ret, s, Q, sl, ob, ρ, a, w, hc, h, m => by
    cases s <;> simp [S.chk] at hc
    exact wp_ret ⟨.ret, sl, ob, ρ, h, trivial, m⟩
  | .rangeFunc _ _ _ _, s, Q, sl, ob, ρ, a, w, hc, h, m => by cases s <;> simp [S.chk] at hc
  | .scope _, s, Q, sl, ob, ρ, a, w, hc, h, m => by cases s <;> simp [S.chk] at hc
  | .label _, s, Q, sl, ob, ρ, a, w, hc, h, m => by cases s <;> simp [S.chk] at hc
  | .goto _, s, Q, sl, ob, ρ, a, w, hc, h, m => by cases s <;> simp [S.chk] at hc
  | .refuse _, s, Q, sl, ob, ρ, a, w, hc, h, m => by cases s <;> simp [S.chk] at hc
end Go.Ab
/- Functions: what is shown of a body is a fact on the call. Over any program; no condition. -/
namespace Go.Ab
open Go

inductive RV where
  | t (k : Nat)
  | c (k n : Nat) (ag : Bool)

def RV.chk (P : Program) : ResultVar → RV → Bool
  | .tmp j, .t k => j == k
  | .cell a ty, .c k n ag => a == k && sizeT P ty == some n && (P.underlying ty).isSome && agT P ty == ag
  | _, _ => false
def chkRes (P : Program) : List ResultVar → List RV → Bool
  | [], [] => true
  | x :: r, y :: s => y.chk P x && chkRes P r s
  | _, _ => false

def RV.wp (sl : Slots) (ob : Objs) (K : V → Prop) : RV → Prop
  | .t k => K (look sl k)
  | .c k n ag => ldK ob n ag K (look sl k)
def resK (sl : Slots) (ob : Objs) : List RV → (List V → Prop) → Prop
  | [], K => K []
  | x :: r, K => x.wp sl ob fun v => resK sl ob r fun vs => K (v :: vs)

def retV : List V → V
  | [v] => v
  | vs => .tup vs

def givsK (K : List D → Objs → Prop) : Option (List D × Objs) → Prop
  | some (l, ob) => K l ob
  | none => False

def pureQ (rs : List RV) (K : V → Prop) : Post
  | .normal, sl, ob => resK sl ob rs fun vs => givsK (fun l _ => K (retV (l.map .d))) (V.givs ob vs)
  | .ret, sl, ob => resK sl ob rs fun vs => givsK (fun l _ => K (retV (l.map .d))) (V.givs ob vs)
  | .exit _, _, _ => False
  | .panic _, _, _ => False

def gvO (v : V) (ob : Objs) (K : V → Objs → Prop) : Option (D × Objs) → Prop
  | some (d, ob') => K (.d d) ob'
  | none => K v ob
def gvsK : List V → Objs → (List V → Objs → Prop) → Prop
  | [], ob, K => K [] ob
  | v :: r, ob, K => gvO v ob (fun v' ob' => gvsK r ob' fun vs ob'' => K (v' :: vs) ob'') (V.giv ob v)
def leaveK (n : Nat) (K : Objs → Prop) (vs : List V) (ob : Objs) : Prop :=
  ∃ kp : List Nat, V.mens (young n kp) vs = false ∧ noMenO (young n kp) (dropO (young n kp) ob) = true ∧ K (dropO (young n kp) ob)
def callQ (n : Nat) (rs : List RV) (K : Out → Objs → Prop) : Post
  | .normal, sl, ob => resK sl ob rs fun vs => gvsK vs ob fun vs ob => leaveK n (K (.ret (retV vs))) vs ob
  | .ret, sl, ob => resK sl ob rs fun vs => gvsK vs ob fun vs ob => leaveK n (K (.ret (retV vs))) vs ob
  | .panic v, _, ob => leaveK n (K (.panic v)) [v] ob
  | .exit _, _, _ => False

def argS (k : Nat) : List V → Slots
  | [] => []
  | v :: r => (k, v) :: argS (k + 1) r

def fnOk (P : Program) (f n : Nat) (s : S) (rs : List RV) : Bool := match P.funcs[f]? with
  | some fn => match fn.body with
    | some code => decide (n ≤ fn.ntmps) && S.chk P fn.ntmps code s && chkRes P fn.results.toList rs
    | none => false
  | none => false

section
variable {P : Program} {w : World} {ρ : Env}

def resOne (a : Act) (r : ResultVar) : Sem Value := match r with
  | .tmp t => pure (a.tmps.getD t undef)
  | .cell x t => do loadVar t (← asAddr (a.tmps.getD x undef))

theorem res_sound {a : Act} {sl : Slots} {ob : Objs} (hs : SM w ρ sl a) (hO : OM w ρ ob) : ∀ (xs : List ResultVar) (rs : List RV) (K : List V → Prop), chkRes P xs rs = true → resK sl ob rs K →
    ∃ vs us, K vs ∧ V.reps w ρ vs us ∧ (xs.mapM (resOne a)).run P w = .ok us w
  | [], [], K, _, h => ⟨[], [], h, by simp [V.reps], by simp⟩
  | x :: r, y :: s, K, hc, h => by
    simp only [chkRes, Bool.and_eq_true] at hc
    simp only [resK] at h
    have one : ∃ v u, resK sl ob s (fun vs => K (v :: vs)) ∧ v.rep w ρ u ∧ (resOne a x).run P w = .ok u w := by
      cases x with
      | tmp t =>
        cases y with
        | t k => simp [RV.chk] at hc; obtain ⟨rfl, _⟩ := hc; exact ⟨_, _, h, hs t, by simp [resOne]⟩
        | c k n ag => simp [RV.chk] at hc
      | cell z t =>
        cases y with
        | t k => simp [RV.chk] at hc
        | c k n ag =>
          simp only [RV.chk, Bool.and_eq_true, beq_iff_eq] at hc
          obtain ⟨⟨⟨⟨rfl, h1⟩, h2⟩, h3⟩, _⟩ := hc
          simp only [RV.wp] at h
          obtain ⟨v, y, hK, hr, hrun⟩ := sound_ld (P := P) (a := a) (n := n) (ag := ag) (x := .t z) (op := .load t (.tmp z)) hs hO (by simp [C.chk, h1, h2, h3, A.chk]) (by simpa [A.ev] using h)
          refine ⟨y, v, hK, hr, ?_⟩
          have := hrun ⟨none, .load t (.tmp z), 0, "", #[], none⟩ rfl w (fun _ => Ext.refl w)
          simp only [execOp, Act.eval, Sem.run_bind, Instr.loadAt] at this
          simp only [resOne, Sem.run_bind]
          generalize hv : a.tmps.getD z undef = pv at *
          cases pv with
          | pointer ad =>
            cases ad with
            | none => simp [Instr.sureAddr] at this
            | some ad =>
              simp only [Instr.sureAddr, Sem.run_pure, Result.andThen_ok] at this
              simp only [asAddr, Sem.run_pure, Result.andThen_ok]
              revert this
              generalize (loadVar t ad).run P w = res
              intro this
              cases res with
              | ok x w' => simp at this; obtain ⟨rfl, rfl⟩ := this; rfl
              | halt x w' => simp at this
          | _ => simp [Instr.sureAddr] at this
    obtain ⟨v, u, h1, h2, h3⟩ := one
    obtain ⟨vs, us, k, h4, h5⟩ := res_sound hs hO r s _ hc.2 h1
    refine ⟨v :: vs, u :: us, k, ?_, ?_⟩
    · simp only [V.reps]; exact ⟨u, us, rfl, h2, h4⟩
    · simp only [List.mapM_cons, Sem.run_bind, h3, Result.andThen_ok, h5, Sem.run_pure]
  | [], _ :: _, _, hc, _ => by simp [chkRes] at hc
  | _ :: _, [], _, hc, _ => by simp [chkRes] at hc

def retU : List Value → Value
  | [u] => u
  | us => .tuple us.toArray

theorem results_run {fn : Func} {a : Act} {sl : Slots} {ob : Objs} {rs : List RV} {K : List V → Prop} (hs : SM w ρ sl a) (hO : OM w ρ ob) (hc : chkRes P fn.results.toList rs = true) (h : resK sl ob rs K) :
    ∃ vs us, K vs ∧ V.reps w ρ vs us ∧ (results fn a.tmps).run P w = .ok (retU us) w := by
  obtain ⟨vs, us, k, h1, h2⟩ := res_sound (P := P) hs hO _ _ _ hc h
  refine ⟨vs, us, k, h1, ?_⟩
  have h3 : (fn.results.mapM (resOne a)).run P w = .ok us.toArray w := by
    rw [Array.mapM_eq_mapM_toList]
    simp only [Sem.run_map, h2, Result.andThen_ok]
  have h4 : results fn a.tmps = (fn.results.mapM (resOne a) >>= fun vs => pure (if h : vs.size = 1 then vs[0] else .tuple vs)) := rfl
  rw [h4, Sem.run_bind]
  simp only [h3, Result.andThen_ok, Sem.run_pure]
  congr 1
  cases us with
  | nil => simp [retU]
  | cons u r =>
    cases r with
    | nil => simp [retU]
    | cons u' r' => simp [retU]

theorem reps_retV {vs : List V} {us : List Value} (h : V.reps w ρ vs us) : (retV vs).rep w ρ (retU us) := by
  cases vs with
  | nil =>
    simp only [V.reps] at h; subst h
    rw [show retV [] = .tup [] from rfl, rep_tup]; exact ⟨[], rfl, by simp [V.reps]⟩
  | cons v r =>
    simp only [V.reps] at h
    obtain ⟨u, us', rfl, h1, h2⟩ := h
    cases r with
    | nil => simp only [V.reps] at h2; subst h2; exact h1
    | cons v' r' =>
      have h2' := h2
      simp only [V.reps] at h2
      obtain ⟨u', us'', rfl, h3, h4⟩ := h2
      show (V.tup _).rep w ρ _
      rw [rep_tup]
      refine ⟨_, rfl, ?_⟩
      simp only [V.reps]
      exact ⟨u, _, rfl, h1, u', us'', rfl, h3, h4⟩

theorem givs_temps : ∀ (vs : List V) (us : List Value) {ρ : Env} {ob ob' : Objs} {l : List D}, OM w ρ ob → V.reps w ρ vs us → V.givs ob vs = some (l, ob') → ∃ ρ', Tr w ρ w ρ' ∧ OM w ρ' ob' ∧ V.reps w ρ' (l.map .d) us
  | [], us, ρ, ob, ob', l, hO, h, e => by
    simp only [V.givs, Option.some.injEq, Prod.mk.injEq] at e
    obtain ⟨rfl, rfl⟩ := e
    exact ⟨ρ, Tr.refl _ _, hO, by simpa only [List.map_nil, V.reps] using h⟩
  | x :: r, us, ρ, ob, ob', l, hO, h, e => by
    simp only [V.givs] at e
    simp only [V.reps] at h
    obtain ⟨u, us', rfl, h1, h2⟩ := h
    split at e
    · rename_i dd ob1 hg
      obtain ⟨ρ1, t1, o1, hr⟩ := giv_temp hO (u := u) h1 hg
      cases hg2 : V.givs ob1 r with
      | none => simp [hg2, consO] at e
      | some q =>
        obtain ⟨l2, ob2⟩ := q
        simp only [hg2, consO, Option.some.injEq, Prod.mk.injEq] at e
        obtain ⟨rfl, rfl⟩ := e
        obtain ⟨ρ2, t2, o2, hr2⟩ := givs_temps r us' o1 (V.reps_tr t1 _ _ h2) hg2
        exact ⟨ρ2, t1.trans t2, o2, by simp only [List.map_cons, V.reps]; exact ⟨u, us', rfl, V.rep_tr t2 hr, hr2⟩⟩
    · cases e
theorem gvs_temps : ∀ (vs : List V) (us : List Value) {ρ : Env} {ob : Objs} {K : List V → Objs → Prop}, OM w ρ ob → V.reps w ρ vs us → gvsK vs ob K → ∃ vs' ob' ρ', K vs' ob' ∧ Tr w ρ w ρ' ∧ OM w ρ' ob' ∧ V.reps w ρ' vs' us
  | [], us, ρ, ob, K, hO, h, e => by
    simp only [gvsK] at e
    exact ⟨[], ob, ρ, e, Tr.refl _ _, hO, h⟩
  | x :: r, us, ρ, ob, K, hO, h, e => by
    simp only [gvsK] at e
    simp only [V.reps] at h
    obtain ⟨u, us', rfl, h1, h2⟩ := h
    cases hg : V.giv ob x with
    | none =>
      simp only [hg, gvO] at e
      obtain ⟨vs', ob', ρ', k, t, o, hr⟩ := gvs_temps r us' hO h2 e
      exact ⟨_, ob', ρ', k, t, o, by simp only [V.reps]; exact ⟨u, us', rfl, V.rep_tr (u := u) t h1, hr⟩⟩
    | some q =>
      obtain ⟨dd, ob1⟩ := q
      simp only [hg, gvO] at e
      obtain ⟨ρ1, t1, o1, hr⟩ := giv_temp hO (u := u) h1 hg
      obtain ⟨vs', ob', ρ', k, t, o, hr2⟩ := gvs_temps r us' o1 (V.reps_tr t1 _ _ h2) e
      exact ⟨_, ob', ρ', k, t1.trans t, o, by simp only [V.reps]; exact ⟨u, us', rfl, V.rep_tr t hr, hr2⟩⟩

theorem argS_rep {vs : List V} {us : List Value} (h : V.reps w ρ vs us) : ∀ (k : Nat) (t : Array Value), (∀ i (hi : i < us.length), t.getD (k + i) undef = us[i]) → ∀ j, (look (argS k vs) j).rep w ρ (t.getD j undef) := by
  induction vs generalizing us with
  | nil => intro k t _ j; exact rep_any
  | cons v r ih =>
    simp only [V.reps] at h
    obtain ⟨u, us', rfl, h1, h2⟩ := h
    intro k t ht j
    simp only [argS, look]
    split
    · rename_i e; subst e
      have := ht 0 (by simp)
      simp only [Nat.add_zero, List.getElem_cons_zero] at this
      rw [this]; exact h1
    · refine ih h2 (k + 1) t (fun i hi => ?_) j
      have := ht (i + 1) (by simpa using hi)
      simp only [List.getElem_cons_succ] at this
      rw [← this]; congr 1; omega

theorem allD_reps {ρ1 : Env} (mo : Mono w (own ρ) w (own ρ1)) : ∀ (vs : List V) (us : List Value) (ds : List D), vs = ds.map .d → V.reps w ρ vs us → V.reps w ρ1 vs us
  | [], us, ds, _, h => by simpa [V.reps] using h
  | v :: r, us, [], e, h => by simp at e
  | v :: r, us, d :: ds, e, h => by
    simp only [List.map_cons, List.cons.injEq] at e
    obtain ⟨rfl, e⟩ := e
    simp only [V.reps] at h ⊢
    obtain ⟨u, us', rfl, h1, h2⟩ := h
    refine ⟨u, us', rfl, ?_, allD_reps mo r us' ds e h2⟩
    rcases h1 with h1 | ⟨p, x, q, r⟩ | ⟨p, r⟩
    · cases h1
    · exact .inr (.inl ⟨p, x, q, by simp only [V.repC] at r ⊢; exact D.rep_mono mo d x r⟩)
    · exact .inr (.inr ⟨p, by simp only [V.repC] at r ⊢; exact D.rep_mono mo d _ r⟩)

theorem reps_length : ∀ {vs : List V} {us : List Value}, V.reps w ρ vs us → us.length = vs.length
  | [], us, h => by simp [V.reps] at h; simp [h]
  | v :: r, us, h => by
    simp only [V.reps] at h
    obtain ⟨u, us', rfl, _, h2⟩ := h
    simp [reps_length h2]

theorem pcall_pure {P : Prg} (hm : P.p.follows .mixedOrders = true) {f : Nat} {s : S} {rs : List RV} {ds : List D} {ob0 : Objs} {K : V → Prop} (hc : fnOk P.p f ds.length s rs = true)
    (h : cwp P s (pureQ rs K) (argS 0 (ds.map .d)) []) : PCall P f (ds.map .d) ob0 K := by
  unfold fnOk at hc
  split at hc
  · rename_i fn hf
    split at hc
    · rename_i code hb
      simp only [Bool.and_eq_true, decide_eq_true_eq] at hc
      obtain ⟨⟨hn, h1⟩, h2⟩ := hc
      refine ⟨fun w ρ args hO hg hr => calls_of_wp hf hb ?_⟩
      let ρ0 : Env := ⟨fun _ => none, own ρ, ρ.gl⟩
      let c : Ctx := ⟨w, fun _ => False, fn.ntmps, [], P.g, fun _ => none, []⟩
      have hnone : ∀ b, ¬ ownM ρ0 b := fun b ⟨_, _, h, _⟩ => by cases h
      have hlt : ∀ b, own ρ b → b < w.heap.size := fun b h => h.elim (fun ⟨_, _, h1, h2⟩ => own_lt hO h1 h2) (hO.xlt b)
      have mo : Mono w (own ρ) w (own ρ0) := fun b h1 _ => ⟨rfl, fun h2 => h2.elim (hnone b) h1⟩
      have hr0 := allD_reps mo _ _ ds rfl hr
      have hlen : args.length = ds.length := by simpa using reps_length hr
      have m : Mod c (own ρ) ρ0 (argS 0 (ds.map .d)) [] { tmps := args.toArray ++ Array.replicate (fn.ntmps - args.toArray.size) undef, defers := [] } w := by
        refine ⟨⟨Nat.le_refl _, fun _ _ _ => rfl, fun b h => absurd h (hnone b), rfl, rfl, rfl, (fun id o h => by cases h), (fun p hp => by cases hp)⟩, ⟨fun j x hx => (by simp [lookO] at hx), fun j o hj => (by cases hj), fun i j o p b hi => (by cases hi), fun b hb => hlt b hb, fun b o hb => ⟨(hO.glb b o hb).1, fun h => h.elim (hnone b) (hO.glb b o hb).2⟩, fun b hb => absurd hb (hnone b), trivial⟩, ?_, ?_, rfl, rfl, hg⟩
        · refine argS_rep hr0 0 _ (fun i hi => ?_)
          simp [Array.getElem?_append, hi]
        · simp [c]; omega
      refine wp_mono (cwp_sound hm rfl code s _ _ _ ρ0 _ w h1 h m) ?_
      rintro e a' w' ⟨ae, sl', ob', ρ', hq, he, m'⟩
      have hfin : resK sl' ob' rs (fun vs => givsK (fun l _ => K (retV (l.map .d))) (V.givs ob' vs)) → a'.defers = [] ∧ ∃ v, (results fn a'.tmps).run P.p w' = .ok v w' ∧ ∃ x u, K x ∧ Ending.returned v = .returned u ∧ x.rep w' ρ u ∧ Ext w w' := by
        intro hq
        obtain ⟨vs, us, hk, hrep, hrun⟩ := results_run (P := P.p) (fn := fn) m'.sm m'.om h2 hq
        cases hgv : V.givs ob' vs with
        | none => simp [hgv, givsK] at hk
        | some q =>
          obtain ⟨l, ob2⟩ := q
          simp only [hgv, givsK] at hk
          obtain ⟨ρ2, t2, o2, hr2⟩ := givs_temps vs us m'.om hrep hgv
          have mo2 : Mono w' (own ρ2) w' (own ρ) := fun b h1 _ => ⟨rfl, fun h2 => h1 (.inr (by rw [t2.xo, m'.xo]; exact h2))⟩
          have hrep' := allD_reps mo2 _ _ l rfl hr2
          have hext : Ext w w' := ⟨m'.base.size, fun b hb => m'.base.keep b hb (fun h => h), m'.base.tape, m'.base.os, m'.base.out⟩
          exact ⟨m'.df, retU us, hrun, retV (l.map .d), retU us, hk, rfl, reps_retV hrep', hext⟩
      cases ae with
      | normal =>
        cases e <;> simp only [exM] at he
        exact hfin hq
      | ret =>
        cases e <;> simp only [exM] at he
        exact hfin hq
      | exit n => exact hq.elim
      | panic v => exact hq.elim
    · simp at hc
  · simp at hc

theorem reps_del' {ids : Nat → Bool} {vs : List V} {us : List Value} (hm : V.mens ids vs = false) (h : V.reps w ρ vs us) : V.reps w (ρ.del ids) vs us := V.reps_del vs us hm h

def Ob.noMen (ids : Nat → Bool) : Ob → Prop
  | .box _ t => V.men ids t = false
  | .vec _ _ xs => V.mens ids xs = false
  | .map es => mensE ids es = false
  | _ => True
theorem noMenO_of {ids : Nat → Bool} : ∀ (ob : Objs), (∀ e ∈ ob, e.2.noMen ids) → noMenO ids ob = true
  | [], _ => rfl
  | (j, .box E t) :: r, h => by
    simp only [noMenO, Bool.and_eq_true, Bool.not_eq_true']
    exact ⟨h (j, .box E t) (by simp), noMenO_of r fun e he => h e (by simp [he])⟩
  | (j, .vec E z t) :: r, h => by
    simp only [noMenO, Bool.and_eq_true, Bool.not_eq_true']
    exact ⟨h (j, .vec E z t) (by simp), noMenO_of r fun e he => h e (by simp [he])⟩
  | (j, .map t) :: r, h => by
    simp only [noMenO, Bool.and_eq_true, Bool.not_eq_true']
    exact ⟨h (j, .map t) (by simp), noMenO_of r fun e he => h e (by simp [he])⟩
  | (j, .arr _ _ _) :: r, h => by simp only [noMenO]; exact noMenO_of r fun e he => h e (by simp [he])
  | (j, .gone) :: r, h => by simp only [noMenO]; exact noMenO_of r fun e he => h e (by simp [he])
theorem mensE_dom {ids : Nat → Bool} (hd : ∀ id o, ρ.m id = some o → ids id = false) : ∀ (l : List (D × V)) (es : List MapEntry), EntRep w ρ l es → mensE ids l = false
  | [], _, _ => rfl
  | (k, v) :: r, es, h => by
    obtain ⟨e, es', _, _, h3, h4⟩ := h
    simp only [mensE, V.men_temp hd h3, mensE_dom hd r es' h4, Bool.or_self]
theorem OneM.noMen {ids : Nat → Bool} (hd : ∀ id o, ρ.m id = some o → ids id = false) {j : Nat} {x : Ob} (h : OneM w ρ j x) : x.noMen ids := by
  cases x with
  | box E t => obtain ⟨b, cs, _, _, h3⟩ := h; exact V.men_dom hd _ _ h3
  | vec E sz xs =>
    rcases h with ⟨_, rfl⟩ | ⟨b, cap, cs, sp, _, _, h3, _⟩
    · rfl
    · exact V.menCs_dom hd _ _ h3
  | map es => obtain ⟨b, l, clk, _, _, h3⟩ := h; exact mensE_dom hd _ _ h3
  | arr E sz xs => trivial
  | gone => trivial
theorem acall_walk {P : Prg} (hm : P.p.follows .mixedOrders = true) {f : Nat} {s : S} {rs : List RV} {vs : List V} {ob : Objs} {K : Out → Objs → Prop} (hc : fnOk P.p f vs.length s rs = true)
    (h : cwp P s (callQ (fresh ob) rs K) (argS 0 vs) ob) : ACall P f vs ob K := by
  unfold fnOk at hc
  split at hc
  · rename_i fn hf
    split at hc
    · rename_i code hb
      simp only [Bool.and_eq_true, decide_eq_true_eq] at hc
      obtain ⟨⟨hn, h1⟩, h2⟩ := hc
      refine ⟨fun w ρ args hO hg hr => calls_of_wp hf hb ?_⟩
      let c : Ctx := ⟨w, ownM ρ, fn.ntmps, [], P.g, ρ.m, []⟩
      have hlen : args.length = vs.length := by simpa using reps_length hr
      have m : Mod c ρ.xo ρ (argS 0 vs) ob { tmps := args.toArray ++ Array.replicate (fn.ntmps - args.toArray.size) undef, defers := [] } w := by
        refine ⟨⟨Nat.le_refl _, fun _ _ _ => rfl, fun b h => .inr h, rfl, rfl, rfl, fun id o h => ⟨o, h, .refl o⟩, (fun p hp => by cases hp)⟩, hO, ?_, ?_, rfl, rfl, hg⟩
        · refine argS_rep hr 0 _ (fun i hi => ?_)
          simp [Array.getElem?_append, hi]
        · simp [c]; omega
      refine wp_mono (cwp_sound hm rfl code s _ _ _ ρ _ w h1 h m) ?_
      rintro e a' w' ⟨ae, sl', ob', ρ', hq, he, m'⟩
      have old : ∀ kp id o, ρ.m id = some o → young (fresh ob) kp id = false := fun kp id o h0 => by
        obtain ⟨x, hx⟩ := hO.dom id o h0
        have hlt : ¬ fresh ob ≤ id := fun hle => by rw [fresh_look _ _ hle] at hx; cases hx
        simp [young, hlt]
      have tr : ∀ {ρ2 : Env}, Tr w' ρ' w' ρ2 → ∀ kp, Tr w ρ w' (ρ2.del (young (fresh ob) kp)) := fun {ρ2} t kp => by
        have b2 := m'.base.tr t
        refine ⟨b2.size, fun b h1 h2 => b2.keep b h2 h1, fun b h1 => (b2.owns b (del_ownM h1)).symm, ?_, ?_, fun id o h1 => ?_, b2.tape, b2.os, b2.out⟩
        · show ρ2.xo = ρ.xo; rw [t.xo, m'.xo]
        · show ρ2.gl = ρ.gl; rw [t.gl, m'.gl, hg]
        · obtain ⟨o', h3, h4⟩ := b2.same id o h1
          exact ⟨o', by simp only [Env.del, old kp id o h1]; exact h3, h4⟩
      have hfin : resK sl' ob' rs (fun vs => gvsK vs ob' fun vs ob' => leaveK (fresh ob) (K (.ret (retV vs))) vs ob') → a'.defers = [] ∧ ∃ v, (results fn a'.tmps).run P.p w' = .ok v w' ∧ ∃ out ob2 ρ2, K out ob2 ∧ OutRep w' ρ2 (.returned v) out ∧ OM w' ρ2 ob2 ∧ Tr w ρ w' ρ2 := by
        intro hq
        obtain ⟨vs, us, hk, hrep, hrun⟩ := results_run (P := P.p) (fn := fn) m'.sm m'.om h2 hq
        obtain ⟨vs', ob2, ρ2, ⟨kp, k1, k2, k3⟩, t2, o2, hr2⟩ := gvs_temps vs us m'.om hrep hk
        exact ⟨m'.df, retU us, hrun, .ret (retV vs'), _, _, k3, reps_retV (reps_del' k1 hr2), o2.del k2, tr t2 kp⟩
      cases ae with
      | normal =>
        cases e <;> simp only [exM] at he
        exact hfin hq
      | ret =>
        cases e <;> simp only [exM] at he
        exact hfin hq
      | exit n => exact hq.elim
      | panic v =>
        cases e <;> simp only [exM] at he
        obtain ⟨u, rfl, hu⟩ := he
        obtain ⟨kp, k1, k2, k3⟩ := hq
        simp only [V.mens, Bool.or_false] at k1
        exact ⟨m'.df, .panic v, _, _, k3, ⟨u, rfl, V.rep_del k1 hu⟩, m'.om.del k2, tr (Tr.refl _ _) kp⟩
    · simp at hc
  · simp at hc

theorem ACall.of_wf {P : Prg} {f : Nat} {vs : List V} {ob : Objs} {K : Out → Objs → Prop} (h : (∀ kp, V.mens (young (fresh ob) kp) vs = false) → (∀ kp, noMenO (young (fresh ob) kp) ob = true) → ACall P f vs ob K) : ACall P f vs ob K := by
  refine ⟨fun w ρ args hO hg hr => ?_⟩
  have old : ∀ kp id o, ρ.m id = some o → young (fresh ob) kp id = false := fun kp id o h0 => by
    obtain ⟨x, hx⟩ := hO.dom id o h0
    have hlt : ¬ fresh ob ≤ id := fun hle => by rw [fresh_look _ _ hle] at hx; cases hx
    simp [young, hlt]
  exact (h (fun kp => V.mens_dom (old kp) _ _ hr) (fun kp => noMenO_of ob fun e he => (hO.one e.1 _ (hO.once.look e he)).noMen (old kp))).run w ρ args hO hg hr

theorem pcall_fn {P : Prg} {p : Program} (hP : P.p = p) (hm : p.follows .mixedOrders = true) {f : Nat} {s : S} {rs : List RV} {ds : List D} {ob0 : Objs} {K : V → Prop} (hc : fnOk p f ds.length s rs = true)
    (h : cwp P s (pureQ rs K) (argS 0 (ds.map .d)) []) : PCall P f (ds.map .d) ob0 K := by
  subst hP
  exact pcall_pure hm hc h
end
end Go.Ab
/- The equations by which an abstract state is walked. Over any program; no condition. -/
namespace Go.Ab
open Go
section
variable (P : Prg) (K : V → Prop) (KO : V → Objs → Prop) (Pn : V → Objs → Prop) (Q : Post) (next : Slots → Objs → Prop) (sl : Slots) (ob : Objs) (r : Slots) (ro : Objs) (v v' : V) (x y z : A) (k j n : Nat) (b c : Bool) (m m' : Int) (kd kd' : IntKind) (s s' : List UInt8) (xs : List D) (vs : List V) (d : D)
@[simp] theorem look_eq : look ((k, v) :: r) k = v := by simp [look]
@[simp] theorem look_ne (h : (j == k) = false) : look ((j, v) :: r) k = look r k := by simp at h; simp [look, h]
@[simp] theorem lookO_eq (o : Ob) : lookO ((k, o) :: ro) k = some o := by simp [lookO]
@[simp] theorem lookO_ne (o : Ob) (h : (j == k) = false) : lookO ((j, o) :: ro) k = lookO ro k := by simp at h; simp [lookO, h]
@[simp] theorem setO_eq (o o' : Ob) : setO ((k, o) :: ro) k o' = (k, o') :: ro := by simp [setO]
@[simp] theorem setO_ne (o o' : Ob) (h : (j == k) = false) : setO ((j, o) :: ro) k o' = (j, o) :: setO ro k o' := by simp at h; simp [setO, h]
@[simp] theorem put_some : put sl (some k) v = (k, v) :: sl := by simp only [put]
@[simp] theorem put_none : put sl none v = sl := by simp only [put]
@[simp] theorem ev_t : A.ev sl (.t k) = look sl k := by simp only [A.ev]
@[simp] theorem ev_int : A.ev sl (.int kd m) = .d (.int kd m) := by simp only [A.ev]
@[simp] theorem ev_bool : A.ev sl (.bool b) = .d (.bool b) := by simp only [A.ev]
@[simp] theorem ev_str : A.ev sl (.str s) = .d (.str s) := by simp only [A.ev]
@[simp] theorem ev_nils : A.ev sl .nils = .d .nils := by simp only [A.ev]
@[simp] theorem ev_nili : A.ev sl .nili = .d .nili := by simp only [A.ev]
@[simp] theorem ev_fn : A.ev sl (.fn k) = .fn k [] [] := by simp only [A.ev]
-- calm operations
@[simp] theorem wp_mv : C.wp sl ob K (.mv x) = K (x.ev sl) := by simp only [C.wp]
@[simp] theorem wp_pick : C.wp sl ob K (.pick x y z) = pickK K (x.ev sl) (y.ev sl) (z.ev sl) := by simp only [C.wp]
@[simp] theorem pickK_t : pickK K (.d (.bool true)) v v' = K v := by unfold pickK; split <;> simp_all
@[simp] theorem pickK_f : pickK K (.d (.bool false)) v v' = K v' := by unfold pickK; split <;> simp_all
@[simp] theorem wp_not : C.wp sl ob K (.not x) = notK K (x.ev sl) := by simp only [C.wp]
@[simp] theorem notK_b : notK K (.d (.bool b)) = K (.d (.bool (!b))) := by simp only [notK]
@[simp] theorem wp_neg : C.wp sl ob K (.neg x) = negK K (x.ev sl) := by simp only [C.wp]
@[simp] theorem negK_i : negK K (.d (.int kd m)) = K (.d (.int kd (kd.wrap (0 - m)))) := by simp only [negK]
@[simp] theorem wp_bin (op : BinOp) : C.wp sl ob K (.bin op x y) = binK op K (x.ev sl) (y.ev sl) := by simp only [C.wp]
@[simp] theorem binK_i (op : BinOp) : binK op K (.d (.int kd m)) (.d (.int kd' m')) = intK op kd kd' m m' K := by simp only [binK]
@[simp] theorem binK_s (op : BinOp) : binK op K (.d (.str s)) (.d (.str s')) = strK op s s' K := by simp only [binK]
@[simp] theorem strK_add : strK .add s s' K = (s.length + s'.length ≤ 9223372036854775807 ∧ K (.d (.str (s ++ s')))) := by simp [strK]
@[simp] theorem strK_eql : strK .eql s s' K = K (.d (.bool (s == s'))) := by simp [strK]
@[simp] theorem strK_neq : strK .neq s s' K = K (.d (.bool (s != s'))) := by simp [strK]
@[simp] theorem wp_isnil : C.wp sl ob K (.isnil b x) = isnilK b K (x.ev sl) := by simp only [C.wp]
@[simp] theorem isnilK_n : isnilK b K (.d .nili) = K (.d (.bool b)) := by simp only [isnilK]
@[simp] theorem isnilK_di : isnilK b K (.d (.iface k d)) = K (.d (.bool (!b))) := by simp only [isnilK]
@[simp] theorem wp_fnil : C.wp sl ob K (.fnil b x) = fnilK b K (x.ev sl) := by simp only [C.wp]
@[simp] theorem fnilK_n : fnilK b K (.d .nilf) = K (.d (.bool b)) := by simp only [fnilK]
@[simp] theorem fnilK_f (l1 l2 : List V) : fnilK b K (.fn k l1 l2) = K (.d (.bool (!b))) := by simp only [fnilK]
@[simp] theorem mkiV_d : mkiV k (.d d) = .d (.iface k d) := by simp only [mkiV]
@[simp] theorem mkfV_eq (l1 l2 : List V) : mkfV k l1 l2 = mkfO k l1 l2 (V.allD l1) (V.allD l2) := by simp only [mkfV]
@[simp] theorem mkfO_n1 (l1 l2 : List V) (o : Option (List D)) : mkfO k l1 l2 none o = .fn k l1 l2 := by cases o <;> simp only [mkfO]
@[simp] theorem mkfO_n2 (l1 l2 : List V) (o : Option (List D)) : mkfO k l1 l2 o none = .fn k l1 l2 := by cases o <;> simp only [mkfO]
@[simp] theorem wp_cvi : C.wp sl ob K (.cvi kd x) = cviK kd K (x.ev sl) := by simp only [C.wp]
@[simp] theorem cviK_i : cviK kd K (.d (.int kd' m)) = K (.d (.int kd (kd.wrap m))) := by simp only [cviK]
@[simp] theorem wp_idx : C.wp sl ob K (.idx x y) = idxK K (x.ev sl) (y.ev sl) := by simp only [C.wp]
@[simp] theorem idxK_s : idxK K (.d (.str s)) (.d (.int kd m)) = ((0 ≤ m ∧ m < s.length) ∧ K (.d (.int .u8 (s.getD m.toNat 0).toNat))) := by simp only [idxK]
@[simp] theorem wp_idxA : C.wp sl ob K (.idxA n x y) = idxAK n K (x.ev sl) (y.ev sl) := by simp only [C.wp]
@[simp] theorem idxAK_l : idxAK n K (.d (.list n xs)) (.d (.int kd m)) = ((0 ≤ m ∧ m < xs.length) ∧ K (.d (.ref (xs.getD m.toNat default)))) := by simp [idxAK]
@[simp] theorem wp_idxP : C.wp sl ob K (.idxP k n x y) = idxPK ob k n K (x.ev sl) (y.ev sl) := by simp only [C.wp]
@[simp] theorem idxPK_p (p : List Nat) : idxPK ob k n K (.ptr j p) (.d (.int kd m)) = ((0 ≤ m ∧ m < k) ∧ (∃ ks, kidsO (atO ob j p) = some ks ∧ ks.length = k ∧ ∀ k ∈ ks, k.size = n) ∧ K (.ptr j (p ++ [m.toNat]))) := by simp only [idxPK]
@[simp] theorem idxPK_c : idxPK ob k n K (.d (.ref (.agg xs))) (.d (.int kd m)) = ((0 ≤ m ∧ m < k) ∧ xs.length = k ∧ (∀ x ∈ xs, x.sz = n) ∧ K (.d (.ref (xs.getD m.toNat default)))) := by simp only [idxPK]
@[simp] theorem wp_fldA : C.wp sl ob K (.fldA k n x) = fldAK ob k n K (x.ev sl) := by simp only [C.wp]
@[simp] theorem fldAK_p (p : List Nat) : fldAK ob k n K (.ptr j p) = fldAKo j p k n K (kidsO (atO ob j p)) := by simp only [fldAK]
@[simp] theorem fldAKo_s (p : List Nat) : fldAKo j p k n K (some vs) = (k < vs.length ∧ Sh.sizes ((vs.take k).map V.shape) = n ∧ K (.ptr j (p ++ [k]))) := by simp only [fldAKo]
@[simp] theorem fldAK_c : fldAK ob k n K (.d (.ref (.agg xs))) = (k < xs.length ∧ D.szs (xs.take k) = n ∧ K (.d (.ref (xs.getD k default)))) := by simp only [fldAK]
@[simp] theorem wp_fld : C.wp sl ob K (.fld k j n b x) = fldK k j n b K (x.ev sl).kids := by simp only [C.wp]
@[simp] theorem wp_ld : C.wp sl ob K (.ld n b x) = ldK ob n b K (x.ev sl) := by simp only [C.wp]
@[simp] theorem ldK_p (p : List Nat) : ldK ob n b K (.ptr j p) = ldKo n b K (atO ob j p) := by simp only [ldK]
@[simp] theorem ldKo_s : ldKo n b K (some v) = (v.size = n ∧ v.isAgg = b ∧ K v) := by simp only [ldKo]
@[simp] theorem ldK_c : ldK ob n b K (.d (.ref d)) = (d.sz = n ∧ (V.d d).isAgg = b ∧ K (.d d)) := by simp only [ldK]
@[simp] theorem wp_nilc : C.wp sl ob K (.nilc x) = nilcK K (x.ev sl) := by simp only [C.wp]
@[simp] theorem nilcK_p (p : List Nat) : nilcK K (.ptr j p) = K (.ptr j p) := by simp only [nilcK]
@[simp] theorem nilcK_c : nilcK K (.d (.ref d)) = K (.d (.ref d)) := by simp only [nilcK]
@[simp] theorem wp_lenS : C.wp sl ob K (.lenS x) = lenSK K (x.ev sl) := by simp only [C.wp]
@[simp] theorem lenSK_s : lenSK K (.d (.str s)) = K (.d (.int .i64 s.length)) := by simp only [lenSK]
@[simp] theorem wp_lenL : C.wp sl ob K (.lenL x) = lenLK ob K (x.ev sl) := by simp only [C.wp]
@[simp] theorem lenLK_l : lenLK ob K (.d (.list n xs)) = K (.d (.int .i64 xs.length)) := by simp only [lenLK]
@[simp] theorem lenLK_n : lenLK ob K (.d .nils) = K (.d (.int .i64 0)) := by simp only [lenLK]
@[simp] theorem lenLK_o : lenLK ob K (.sl j n) = ((∃ E z xs, lookO ob j = some (.arr E z xs) ∧ n = xs.length) ∧ K (.d (.int .i64 n))) := by simp only [lenLK]
@[simp] theorem wp_slcS (lo hi : Option A) : C.wp sl ob K (.slcS x lo hi) = slcSK (lo.map (A.ev sl)) (hi.map (A.ev sl)) K (x.ev sl) := by simp only [C.wp]
@[simp] theorem slcSK_s (lo hi : Option V) : slcSK lo hi K (.d (.str s)) = bndK s.length (fun l h => K (.d (.str ((s.take h).drop l)))) lo hi := by simp only [slcSK]
@[simp] theorem wp_slcL (lo hi : Option A) : C.wp sl ob K (.slcL n x lo hi) = slcLK n (lo.map (A.ev sl)) (hi.map (A.ev sl)) K (x.ev sl) := by simp only [C.wp]
@[simp] theorem slcLK_l (lo hi : Option V) : slcLK n lo hi K (.d (.list n xs)) = bndK xs.length (fun l h => K (.d (.list n ((xs.take h).drop l)))) lo hi := by simp [slcLK]
@[simp] theorem bndK_sn (KK : Nat → Nat → Prop) : bndK n KK (some (.d (.int kd m))) none = ((0 ≤ m ∧ m ≤ n) ∧ KK m.toNat n) := by simp only [bndK]
@[simp] theorem bndK_ns (KK : Nat → Nat → Prop) : bndK n KK none (some (.d (.int kd m))) = ((0 ≤ m ∧ m ≤ n) ∧ KK 0 m.toNat) := by simp only [bndK]
@[simp] theorem bndK_ss (KK : Nat → Nat → Prop) : bndK n KK (some (.d (.int kd m))) (some (.d (.int kd' m'))) = ((0 ≤ m' ∧ m' ≤ n) ∧ (0 ≤ m ∧ m ≤ m') ∧ KK m.toNat m'.toNat) := by simp only [bndK]
@[simp] theorem wp_ext : C.wp sl ob K (.ext x n) = extK n K (x.ev sl) := by simp only [C.wp]
@[simp] theorem extK_t : extK n K (.tup vs) = (n < vs.length ∧ K (vs.getD n .any)) := by simp only [extK]
@[simp] theorem wp_bld (ps : List (Nat × A)) : C.wp sl ob K (.bld xs ps) = bldK (xs.map .d) (ps.map fun p => (p.1, p.2.ev sl)) fun ks => K (V.mk ks) := by simp only [C.wp]
@[simp] theorem bldK_n (KL : List V → Prop) : bldK vs [] KL = KL vs := by simp only [bldK]
@[simp] theorem bldK_c (KL : List V → Prop) (l : List (Nat × V)) : bldK vs ((k, v) :: l) KL = (k < vs.length ∧ v.shape = (vs.getD k .any).shape ∧ v ≠ .any ∧ bldK (vs.set k v) l KL) := by simp only [bldK]
@[simp] theorem wp_mkf (l l' : List A) : C.wp sl ob K (.mkf k l l') = K (mkfV k (l.map (A.ev sl)) (l'.map (A.ev sl))) := by simp only [C.wp]
@[simp] theorem wp_mki : C.wp sl ob K (.mki k x) = K (mkiV k (x.ev sl)) := by simp only [C.wp]
@[simp] theorem wp_tas : C.wp sl ob K (.tas k d x) = tasK k d K (x.ev sl) := by simp only [C.wp]
-- trees
@[simp] theorem kids_agg : V.kids (.agg vs) = some vs := by simp only [V.kids]
@[simp] theorem kids_d : V.kids (.d (.agg xs)) = some (xs.map .d) := by simp only [V.kids]
@[simp] theorem kidsO_s : kidsO (some v) = v.kids := by simp only [kidsO]
def atB (p : List Nat) : Option Ob → Option V
  | some (.box _ t) => t.at p
  | _ => none
@[simp] theorem atO_b (p : List Nat) : atO ob k p = atB p (lookO ob k) := by
  unfold atO atB
  cases lookO ob k with
  | none => rfl
  | some o => cases o <;> rfl
@[simp] theorem atB_s (p : List Nat) (E : Nat) : atB p (some (.box E v)) = v.at p := by simp only [atB]
@[simp] theorem at_nil : V.at v [] = some v := by simp [V.at]
def atKid (i : Nat) (p : List Nat) : Option (List V) → Option V
  | some ks => atKid' p ks[i]?
  | none => none
where atKid' (p : List Nat) : Option V → Option V
  | some k => V.at k p
  | none => none
@[simp] theorem at_cons (p : List Nat) : V.at v (k :: p) = atKid k p v.kids := by
  simp only [V.at, atKid]
  cases v.kids with
  | none => rfl
  | some ks => simp only [atKid.atKid']; cases ks[k]? <;> rfl
@[simp] theorem atKid_s (p : List Nat) : atKid k p (some vs) = atKid.atKid' p vs[k]? := by simp only [atKid]
@[simp] theorem atKid'_s (p : List Nat) : atKid.atKid' p (some v) = V.at v p := by simp only [atKid.atKid']
@[simp] theorem set_nil : V.set v [] v' = some v' := by simp [V.set]
def setKid (i : Nat) (p : List Nat) (x : V) : Option (List V) → Option V
  | some ks => setKid1 i p x ks ks[i]?
  | none => none
where
  setKid1 (i : Nat) (p : List Nat) (x : V) (ks : List V) : Option V → Option V
  | some k => setKid2 i ks (V.set k p x)
  | none => none
  setKid2 (i : Nat) (ks : List V) : Option V → Option V
  | some k' => some (V.mk (ks.set i k'))
  | none => none
@[simp] theorem set_cons (p : List Nat) : V.set v (k :: p) v' = setKid k p v' v.kids := by
  simp only [V.set, setKid]
  cases v.kids with
  | none => rfl
  | some ks =>
    simp only [setKid.setKid1]
    cases ks[k]? with
    | none => rfl
    | some y => simp only [setKid.setKid2]; cases V.set y p v' <;> rfl
@[simp] theorem setKid_s (p : List Nat) : setKid k p v (some vs) = setKid.setKid1 k p v vs vs[k]? := by simp only [setKid]
@[simp] theorem setKid1_s (p : List Nat) : setKid.setKid1 k p v vs (some v') = setKid.setKid2 k vs (V.set v' p v) := by simp only [setKid.setKid1]
@[simp] theorem setKid2_s : setKid.setKid2 k vs (some v) = some (V.mk (vs.set k v)) := by simp only [setKid.setKid2]
@[simp] theorem allD_nil : V.allD [] = some [] := by simp [V.allD]
def consD (x : D) : Option (List D) → Option (List D)
  | some l => some (x :: l)
  | none => none
@[simp] theorem allD_cons : V.allD (.d d :: vs) = consD d (V.allD vs) := by simp only [V.allD]; cases V.allD vs <;> rfl
@[simp] theorem consD_s : consD d (some xs) = some (d :: xs) := by simp only [consD]
@[simp] theorem consD_n : consD d none = none := by simp only [consD]
@[simp] theorem allD_map : V.allD (xs.map .d) = some xs := by induction xs with | nil => rfl | cons x r ih => simp [ih]
@[simp] theorem allD_fn (a1 a2 : List V) : V.allD (.fn k a1 a2 :: vs) = none := by simp only [V.allD]
@[simp] theorem allD_sl : V.allD (.sl k n :: vs) = none := by simp only [V.allD]
@[simp] theorem allD_agg (l : List V) : V.allD (.agg l :: vs) = none := by simp only [V.allD]
@[simp] theorem allD_ptr (p : List Nat) : V.allD (.ptr k p :: vs) = none := by simp only [V.allD]
def mkO (vs : List V) : Option (List D) → V
  | some l => .d (.agg l)
  | none => .agg vs
@[simp] theorem mk_eq : V.mk vs = mkO vs (V.allD vs) := by unfold V.mk mkO; cases V.allD vs <;> rfl
@[simp] theorem mkO_s : mkO vs (some xs) = .d (.agg xs) := by simp only [mkO]
@[simp] theorem mkO_n : mkO vs none = .agg vs := by simp only [mkO]
-- sizes, shapes
attribute [simp] D.sz D.szs Sh.size Sh.sizes D.shape D.shapes V.shape V.shapes V.isAgg V.sto V.stos V.size V.men V.mens
-- operations on memory
@[simp] theorem qw (e : C) : I.wp P sl ob KO Pn (.c e) = e.wp sl ob (fun v => KO v ob) := by simp only [I.wp]
@[simp] theorem qv : I.wp P sl ob KO Pn (.box k x) = boxK k ob KO (x.ev sl) := by simp only [I.wp]
@[simp] theorem qr : I.wp P sl ob KO Pn (.alloc k d) = boxK k ob KO (.d d) := by simp only [I.wp]
@[simp] theorem boxK_eq : boxK k ob KO v = (v.sto = true ∧ KO (.ptr (fresh ob) []) ((fresh ob, .box k v) :: ob)) := by simp only [boxK]
@[simp] theorem qu (ps : List (Nat × A)) : I.wp P sl ob KO Pn (.bls n xs ps) = bldK (xs.map .d) (ps.map fun p => (p.1, p.2.ev sl)) (fun ks => dK (fun l => KO (.d (.list n l)) ob) (V.allD ks)) := by simp only [I.wp]
@[simp] theorem dK_s (KD : List D → Prop) : dK KD (some xs) = KD xs := by simp only [dK]
@[simp] theorem qt (ps : List (Nat × A)) : I.wp P sl ob KO Pn (.blo j n xs ps) = bldK (xs.map .d) (ps.map fun p => (p.1, p.2.ev sl)) (fun ks => dK (fun l => KO (.sl (fresh ob) l.length) ((fresh ob, .arr j n l) :: ob)) (V.allD ks)) := by simp only [I.wp]
@[simp] theorem zh : I.wp P sl ob KO Pn (.st n x y) = stK ob n (y.ev sl) KO (x.ev sl) := by simp only [I.wp]
@[simp] theorem stK_p (p : List Nat) : stK ob n v KO (.ptr k p) = stKo ob k p n v KO (lookO ob k) := by simp only [stK]
@[simp] theorem stKo_s (p : List Nat) (t : V) (E : Nat) : stKo ob k p n v KO (some (.box E t)) = stKt ob k p n E v t KO (t.at p) := by simp only [stKo]
def stKs (ob : Objs) (id E : Nat) (K : V → Objs → Prop) : Option V → Prop
  | some t' => K .undef (setO ob id (.box E t'))
  | none => False
@[simp] theorem stKt_s (p : List Nat) (t : V) (E : Nat) : stKt ob k p n E v t KO (some v') = (v.shape = v'.shape ∧ v'.size = n ∧ v.sto = true ∧ stKs ob k E KO (t.set p v)) := by
  simp only [stKt]; cases t.set p v <;> simp [stKs]
@[simp] theorem stKs_s (E : Nat) : stKs ob k E KO (some v) = KO .undef (setO ob k (.box E v)) := by simp only [stKs]
@[simp] theorem qs (E sz B : Nat) : I.wp P sl ob KO Pn (.app E sz B x y) = srcK sz (fun ys => appK E sz B ob ys KO (x.ev sl)) (y.ev sl) := by simp only [I.wp]
@[simp] theorem srcK_l (KD : List D → Prop) : srcK n KD (.d (.list n xs)) = KD xs := by simp [srcK]
@[simp] theorem srcK_n (KD : List D → Prop) : srcK n KD (.d .nils) = KD [] := by simp only [srcK]
@[simp] theorem appK_s (E sz B : Nat) : appK E sz B ob xs KO (.sl k n) = appKo k E sz B n ob xs KO (lookO ob k) := by simp [appK]
@[simp] theorem appK_n (E sz B : Nat) : appK E sz B ob xs KO (.d .nils) = ((2 * xs.length + 192) * B ≤ 281474976710656 ∧ KO (.sl (fresh ob) xs.length) ((fresh ob, .arr E sz xs) :: ob)) := by simp only [appK]
@[simp] theorem appKo_s (E sz B : Nat) (ys : List D) : appKo k E sz B n ob xs KO (some (.arr E sz ys)) = (n = ys.length ∧ (2 * (ys.length + xs.length) + 192) * B ≤ 281474976710656 ∧ KO (.sl k (ys.length + xs.length)) (setO ob k (.arr E sz (ys ++ xs)))) := by simp [appKo]
@[simp] theorem iwp_appS (E B : Nat) : I.wp P sl ob KO Pn (.appS E B x y) = srcSK (fun ys => appK E 1 B ob ys KO (x.ev sl)) (y.ev sl) := by simp only [I.wp]
@[simp] theorem srcSK_s (KD : List D → Prop) : srcSK KD (.d (.str s)) = KD (bytesD s) := by simp only [srcSK]
@[simp] theorem zb : I.wp P sl ob KO Pn (.mvf x) = givK KO (V.giv ob (x.ev sl)) := by simp only [I.wp]
@[simp] theorem givK_s : givK KO (some (d, ob)) = KO (.d d) ob := by simp only [givK]
@[simp] theorem za : I.wp P sl ob KO Pn (.ldf n b x) = ldfK n b ob KO (x.ev sl) := by simp only [I.wp]
@[simp] theorem ldfK_p (p : List Nat) : ldfK n b ob KO (.ptr k p) = ldfKo n b ob KO (atO ob k p) := by simp only [ldfK]
@[simp] theorem ldfKo_s : ldfKo n b ob KO (some v) = (v.size = n ∧ v.isAgg = b ∧ givK KO (V.giv ob v)) := by simp only [ldfKo]
@[simp] theorem zd (E sz : Nat) (p : List Nat) : I.wp P sl ob KO Pn (.mvg E sz y x p) = mvgK ob E sz p (y.ev sl) KO (x.ev sl) := by simp only [I.wp]
@[simp] theorem ze (l : List (Nat × Nat × List Nat)) : I.wp P sl ob KO Pn (.mvn y x l) = mvnK (y.ev sl) KO (x.ev sl) l ob := by simp only [I.wp]
@[simp] theorem mvnK_n (v x : V) : mvnK v KO x [] ob = KO v ob := by simp only [mvnK]
@[simp] theorem mvnK_c (v x : V) (e : Nat × Nat × List Nat) (l : List (Nat × Nat × List Nat)) : mvnK v KO x (e :: l) ob = mvgK ob e.1 e.2.1 e.2.2 v (fun _ ob' => mvnK v KO x l ob') x := by simp only [mvnK]
@[simp] theorem mvgK_p (E sz : Nat) (p q : List Nat) : mvgK ob E sz p v KO (.ptr k q) = mvgKt ob k (q ++ p) E sz v KO (lookO ob k) := by simp only [mvgK]
@[simp] theorem mvgKt_s (E E0 sz : Nat) (p : List Nat) (t : V) : mvgKt ob k p E sz v KO (some (.box E0 t)) = (t.at p = some (.d .nils) ∧ mvgKs ob k E0 E sz v KO (t.set p (.sl (fresh ob) 0))) := by simp only [mvgKt]
@[simp] theorem mvgKs_s (E E0 sz : Nat) (t : V) : mvgKs ob k E0 E sz v KO (some t) = KO v ((fresh ob, .arr E sz []) :: setO ob k (.box E0 t)) := by simp only [mvgKs]
@[simp] theorem iwp_cvb : I.wp P sl ob KO Pn (.cvb x) = cvbK ob KO (x.ev sl) := by simp only [I.wp]
@[simp] theorem cvbK_s : cvbK ob KO (.sl k n) = cvbKo k n ob KO (lookO ob k) := by simp only [cvbK]
@[simp] theorem cvbKo_s (E sz : Nat) : cvbKo k n ob KO (some (.arr E sz xs)) = (sz ≠ 0 ∧ n = xs.length ∧ xs ≠ [] ∧ KO (.d (.list sz xs)) (setO ob k .gone)) := by simp only [cvbKo]
@[simp] theorem wp_usd : C.wp sl ob K (.usd x) = usdK ob K (x.ev sl) := by simp only [C.wp]
@[simp] theorem usdK_s : usdK ob K (.sl k n) = ((∃ E sz xs, lookO ob k = some (.arr E sz xs) ∧ sz ≠ 0 ∧ n = xs.length ∧ xs ≠ []) ∧ K (.sd k n)) := by simp only [usdK]
@[simp] theorem usdK_n : usdK ob K (.d .nils) = K (.d .nilp) := by simp only [usdK]
@[simp] theorem iwp_ustr (E : Nat) : I.wp P sl ob KO Pn (.ustr E x y) = ustrK E ob KO (x.ev sl) (y.ev sl) := by simp only [I.wp]
@[simp] theorem ustrK_s (E : Nat) : ustrK E ob KO (.sd k n) (.d (.int .i64 m)) = ustrKo k n m E ob KO (lookO ob k) := by simp only [ustrK]
@[simp] theorem ustrK_n (E : Nat) : ustrK E ob KO (.d .nilp) (.d (.int .i64 m)) = (m = 0 ∧ KO (.d (.str [])) ob) := by simp only [ustrK]
@[simp] theorem ustrKo_s (E E' sz : Nat) : ustrKo k n m E ob KO (some (.arr E' sz xs)) = (E' = E ∧ sz = 1 ∧ n = xs.length ∧ m = n ∧ n ≤ 9223372036854775807 ∧ xs ≠ [] ∧ ∃ s, xs = bytesD s ∧ KO (.d (.str s)) (setO ob k .gone)) := by simp only [ustrKo]
-- values given up
@[simp] theorem giv_d : V.giv ob (.d d) = some (d, ob) := by simp only [V.giv]
@[simp] theorem giv_sl : V.giv ob (.sl k n) = givO ob k n (lookO ob k) := by simp only [V.giv]
@[simp] theorem givO_s (E sz : Nat) : givO ob k n (some (.arr E sz xs)) = if sz ≠ 0 ∧ n = xs.length then some (.list sz xs, setO ob k .gone) else none := by simp only [givO]
@[simp] theorem giv_agg : V.giv ob (.agg vs) = aggO (V.givs ob vs) := by simp only [V.giv]
@[simp] theorem giv_fn (l1 l2 : List V) : V.giv ob (.fn k l1 l2) = none := by simp only [V.giv]
@[simp] theorem givs_nil : V.givs ob [] = some ([], ob) := by simp only [V.givs]
def bindO (r : List V) : Option (D × Objs) → Option (List D × Objs)
  | some (x, ob1) => consO x (V.givs ob1 r)
  | none => none
@[simp] theorem givs_cons : V.givs ob (v :: vs) = bindO vs (V.giv ob v) := by
  simp only [V.givs]; cases V.giv ob v with
  | none => rfl
  | some q => obtain ⟨y, ob1⟩ := q; rfl
@[simp] theorem bindO_s : bindO vs (some (d, ob)) = consO d (V.givs ob vs) := by simp only [bindO]
@[simp] theorem consO_s (l : List D) : consO d (some (l, ob)) = some (d :: l, ob) := by simp only [consO]
@[simp] theorem aggO_s (l : List D) : aggO (some (l, ob)) = some (.agg l, ob) := by simp only [aggO]
@[simp] theorem givsK_s (KD : List D → Objs → Prop) (l : List D) : givsK KD (some (l, ob)) = KD l ob := by simp only [givsK]
@[simp] theorem gvsK_nil (KL : List V → Objs → Prop) : gvsK [] ob KL = KL [] ob := by simp only [gvsK]
@[simp] theorem gvsK_cons (KL : List V → Objs → Prop) : gvsK (v :: vs) ob KL = gvO v ob (fun v' ob' => gvsK vs ob' fun vs ob'' => KL (v' :: vs) ob'') (V.giv ob v) := by simp only [gvsK]
@[simp] theorem gvO_s : gvO v ob KO (some (d, ro)) = KO (.d d) ro := by simp only [gvO]
@[simp] theorem gvO_n : gvO v ob KO none = KO v ob := by simp only [gvO]
-- names
@[simp] theorem fresh_nil : fresh [] = 0 := by simp only [fresh]
@[simp] theorem fresh_cons (o : Ob) : fresh ((k, o) :: ro) = if fresh ro ≤ k then k + 1 else fresh ro := by simp only [fresh]
@[simp] theorem fresh_set (o : Ob) : fresh (setO ob k o) = fresh ob := by
  induction ob with
  | nil => simp [setO]
  | cons e r ih => obtain ⟨i, y⟩ := e; simp only [setO]; split <;> simp [fresh, ih]
@[simp] theorem fresh_ne (h : (lookO ob k).isSome = true) : (fresh ob == k) = false := by
  rw [beq_eq_false_iff_ne]; intro e; rw [← e, fresh_none] at h; cases h
@[simp] theorem fresh_add_ne (h : (lookO ob k).isSome = true) : (fresh ob + n == k) = false := by
  rw [beq_eq_false_iff_ne]; intro e; rw [← e, fresh_look ob _ (by omega)] at h; cases h
@[simp] theorem lookO_set_eq (o : Ob) (h : (lookO ob k).isSome = true) : lookO (setO ob k o) k = some o := by
  rw [lookO_setO ob k k (Option.isSome_iff_exists.1 h)]; simp
@[simp] theorem lookO_set_ne (o : Ob) (h : (j == k) = false) : lookO (setO ob j o) k = lookO ob k := by
  by_cases hs : (lookO ob j).isSome = true
  · rw [lookO_setO ob j k (Option.isSome_iff_exists.1 hs)]; simp at h; rw [if_neg (fun e => h e.symm)]
  · have hn : lookO ob j = none := by simpa using hs
    have : ∀ (ob : Objs), lookO ob j = none → setO ob j o = ob := fun ob => by
      induction ob with
      | nil => intro _; rfl
      | cons e r ih => obtain ⟨i, y⟩ := e; intro h; simp only [lookO] at h; split at h; cases h; rename_i hne; simp [setO, hne, ih h]
    rw [this ob hn]
@[simp] theorem setO_set (o o' : Ob) : setO (setO ob k o) k o' = setO ob k o' := by
  induction ob with
  | nil => rfl
  | cons e r ih =>
    obtain ⟨i, y⟩ := e
    by_cases h : i = k
    · subst h; simp [setO]
    · simp [setO, h, ih]
-- young objects dropped
@[simp] theorem young_lt (l : List Nat) (h : k < n) : young n l k = false := by simp [young]; omega
@[simp] theorem young_old (l : List Nat) (h : (lookO ob k).isSome = true) : young (fresh ob) l k = false := by
  have : k < fresh ob := by
    rcases Nat.lt_or_ge k (fresh ob) with h1 | h1
    · exact h1
    · rw [fresh_look ob k h1] at h; cases h
  simp [young]; omega
@[simp] theorem young_self : young n [] n = true := by simp [young]
@[simp] theorem young_add : young n [] (n + k) = true := by simp [young]
theorem noMenO_set_box (ids : Nat → Bool) (E : Nat) (h : noMenO ids ob = true) (hv : V.men ids v = false) : noMenO ids (setO ob k (.box E v)) = true := by
  induction ob with
  | nil => rfl
  | cons e r ih =>
    obtain ⟨i, y⟩ := e
    simp only [setO]
    split
    · cases y <;> simp_all [noMenO]
    · cases y <;> simp_all [noMenO]
theorem noMenO_set_arr (ids : Nat → Bool) (E z : Nat) (h : noMenO ids ob = true) : noMenO ids (setO ob k (.arr E z xs)) = true := by
  induction ob with
  | nil => rfl
  | cons e r ih =>
    obtain ⟨i, y⟩ := e
    simp only [setO]
    split
    · cases y <;> simp_all [noMenO]
    · cases y <;> simp_all [noMenO]
theorem men_look (ids : Nat → Bool) (E : Nat) (h : noMenO ids ob = true) (hl : lookO ob k = some (.box E v)) : V.men ids v = false := noMenO_look ob k E v h hl
@[simp] theorem qx (l : List A) : I.wp P sl ob KO Pn (.call k l) = ACall P k (l.map (A.ev sl)) ob (outK KO Pn) := by simp only [I.wp]
@[simp] theorem qy (l : List A) : I.wp P sl ob KO Pn (.callv x l) = callvK P (l.map (A.ev sl)) ob KO Pn (x.ev sl) := by simp only [I.wp]
@[simp] theorem callvK_f (a1 a2 : List V) : callvK P vs ob KO Pn (.fn k a1 a2) = (callable P.p k = true ∧ ACall P k (a1 ++ vs ++ a2) ob (outK KO Pn)) := by simp only [callvK]
@[simp] theorem callvK_df (a1 a2 : List D) : callvK P vs ob KO Pn (.d (.fn k a1 a2)) = (callable P.p k = true ∧ ACall P k (a1.map .d ++ vs ++ a2.map .d) ob (outK KO Pn)) := by simp only [callvK]
@[simp] theorem zj : outK KO Pn (.ret v) ob = KO v ob := by simp only [outK]
@[simp] theorem zi : outK KO Pn (.panic v) ob = Pn v ob := by simp only [outK]
@[simp] theorem iwp_panic : I.wp P sl ob KO Pn (.panic x) = panicK ob Pn (x.ev sl) := by simp only [I.wp]
@[simp] theorem panicK_d : panicK ob Pn (.d (.iface k d)) = Pn (.d (.iface k d)) ob := by simp only [panicK]
@[simp] theorem zf (E sz : Nat) : I.wp P sl ob KO Pn (.nilo E sz x) = niloK E sz ob KO (x.ev sl) := by simp only [I.wp]
@[simp] theorem niloK_n (E sz : Nat) : niloK E sz ob KO (.d .nils) = KO (.sl (fresh ob) 0) ((fresh ob, .arr E sz []) :: ob) := by simp only [niloK]
-- regions and statements
@[simp] theorem gdK_ff (Y N : Slots → Prop) : gdK k false sl Y N (.d (.bool false)) = Y ((k, .d (.bool false)) :: sl) := by simp [gdK]
@[simp] theorem gdK_ft (Y N : Slots → Prop) : gdK k false sl Y N (.d (.bool true)) = N ((k, .d (.bool true)) :: sl) := by simp [gdK]
@[simp] theorem keepS_nil : keepS sl [] = [] := by simp only [keepS]
@[simp] theorem keepS_cons (l : List Nat) : keepS sl (k :: l) = (k, look sl k) :: keepS sl l := by simp only [keepS]
@[simp] theorem zg (l : List A) : I.wp P sl ob KO Pn (.pcall k l) = PCall P k (l.map (A.ev sl)) ob (fun v => KO v ob) := by simp only [I.wp]
@[simp] theorem condK_t (Y N : Prop) : condK Y N (.d (.bool true)) = Y := by simp [condK]
@[simp] theorem condK_f (Y N : Prop) : condK Y N (.d (.bool false)) = N := by simp [condK]
@[simp low] theorem condK_b (Y N : Prop) : condK Y N (.d (.bool b)) = ((b = true → Y) ∧ (b = false → N)) := by simp only [condK]
@[simp] theorem zw : thenK next Q .normal sl ob = next sl ob := by simp only [thenK]
@[simp] theorem zu : thenK next Q (.exit n) sl ob = Q (.exit n) sl ob := by simp only [thenK]
@[simp] theorem zy : thenK next Q .ret sl ob = Q .ret sl ob := by simp only [thenK]
@[simp] theorem zx : thenK next Q (.panic v) sl ob = Q (.panic v) sl ob := by simp only [thenK]
@[simp] theorem qb : blockK n Q .normal sl ob = Q .normal sl ob := by simp only [blockK]
@[simp] theorem qa : blockK n Q (.exit n) sl ob = Q .normal sl ob := by simp [blockK]
@[simp] theorem qd : blockK n Q .ret sl ob = Q .ret sl ob := by simp only [blockK]
@[simp] theorem qc : blockK n Q (.panic v) sl ob = Q (.panic v) sl ob := by simp only [blockK]
attribute [simp] noMenS noMenO dropO
-- results
@[simp] theorem pureQ_r (rs : List RV) : pureQ rs K .ret sl ob = resK sl ob rs fun vs => givsK (fun l _ => K (retV (l.map .d))) (V.givs ob vs) := by simp only [pureQ]
@[simp] theorem pureQ_p (rs : List RV) : pureQ rs K (.panic v) sl ob = False := by simp only [pureQ]
@[simp] theorem qe (rs : List RV) (KU : Out → Objs → Prop) : callQ n rs KU .normal sl ob = resK sl ob rs fun vs => gvsK vs ob fun vs ob => leaveK n (KU (.ret (retV vs))) vs ob := by simp only [callQ]
@[simp] theorem qg (rs : List RV) (KU : Out → Objs → Prop) : callQ n rs KU .ret sl ob = resK sl ob rs fun vs => gvsK vs ob fun vs ob => leaveK n (KU (.ret (retV vs))) vs ob := by simp only [callQ]
@[simp] theorem qf (rs : List RV) (KU : Out → Objs → Prop) : callQ n rs KU (.panic v) sl ob = leaveK n (KU (.panic v)) [v] ob := by simp only [callQ]
@[simp] theorem resK_nil (KL : List V → Prop) : resK sl ob [] KL = KL [] := by simp only [resK]
@[simp] theorem resK_t (KL : List V → Prop) (rs : List RV) : resK sl ob (.t k :: rs) KL = resK sl ob rs fun vs => KL (look sl k :: vs) := by simp only [resK, RV.wp]
@[simp] theorem resK_c (KL : List V → Prop) (rs : List RV) : resK sl ob (.c k n b :: rs) KL = ldK ob n b (fun v => resK sl ob rs fun vs => KL (v :: vs)) (look sl k) := by simp only [resK, RV.wp]
@[simp] theorem retV_1 : retV [v] = v := by simp only [retV]
@[simp] theorem retV_0 : retV [] = .tup [] := by simp only [retV]
@[simp] theorem retV_2 : retV (v :: v' :: vs) = .tup (v :: v' :: vs) := by simp only [retV]
@[simp] theorem argS_nil : argS k [] = [] := by simp only [argS]
@[simp] theorem argS_cons : argS k (v :: vs) = (k, v) :: argS (k + 1) vs := by simp only [argS]
end

@[congr] theorem I_wp_congr {P : Prg} {sl : Slots} {ob : Objs} {KO : V → Objs → Prop} {Pn : V → Objs → Prop} {i : I} : I.wp P sl ob KO Pn i = I.wp P sl ob KO Pn i := rfl
@[congr] theorem C_wp_congr {sl : Slots} {ob : Objs} {K : V → Prop} {e : C} : C.wp sl ob K e = C.wp sl ob K e := rfl
@[congr] theorem rwp_congr {P : Prg} {KS : Slots → Objs → Prop} {PS : V → Slots → Objs → Prop} {l : List It} {sl : Slots} {ob : Objs} : rwp P KS PS l sl ob = rwp P KS PS l sl ob := rfl
@[congr] theorem gdK_congr {k : Nat} {b : Bool} {sl : Slots} {Y N : Slots → Prop} {v v' : V} (h0 : v = v') : gdK k b sl Y N v = gdK k b sl Y N v' := by rw [h0]
@[congr] theorem condK_congr {Y N : Prop} {v v' : V} (h0 : v = v') : condK Y N v = condK Y N v' := by rw [h0]
@[congr] theorem pickK_congr {K : V → Prop} {u u' : V} {v v' : V} {w w' : V} (h0 : u = u') (h1 : v = v') (h2 : w = w') : pickK K u v w = pickK K u' v' w' := by rw [h0, h1, h2]
@[congr] theorem notK_congr {K : V → Prop} {v v' : V} (h0 : v = v') : notK K v = notK K v' := by rw [h0]
@[congr] theorem negK_congr {K : V → Prop} {v v' : V} (h0 : v = v') : negK K v = negK K v' := by rw [h0]
@[congr] theorem cvsK_congr {K : V → Prop} {v v' : V} (h0 : v = v') : cvsK K v = cvsK K v' := by rw [h0]
@[congr] theorem nilcK_congr {K : V → Prop} {v v' : V} (h0 : v = v') : nilcK K v = nilcK K v' := by rw [h0]
@[congr] theorem lenSK_congr {K : V → Prop} {v v' : V} (h0 : v = v') : lenSK K v = lenSK K v' := by rw [h0]
@[congr] theorem b2sK_congr {K : V → Prop} {v v' : V} (h0 : v = v') : b2sK K v = b2sK K v' := by rw [h0]
@[congr] theorem s2bK_congr {K : V → Prop} {v v' : V} (h0 : v = v') : s2bK K v = s2bK K v' := by rw [h0]
@[congr] theorem binK_congr {op : BinOp} {K : V → Prop} {u u' : V} {v v' : V} (h0 : u = u') (h1 : v = v') : binK op K u v = binK op K u' v' := by rw [h0, h1]
@[congr] theorem intK_congr {op : BinOp} {k j : IntKind} {K : V → Prop} {a a' : Int} {b b' : Int} (h0 : a = a') (h1 : b = b') : intK op k j a b K = intK op k j a' b' K := by rw [h0, h1]
@[congr] theorem strK_congr {op : BinOp} {K : V → Prop} {a a' : List UInt8} {b b' : List UInt8} (h0 : a = a') (h1 : b = b') : strK op a b K = strK op a' b' K := by rw [h0, h1]
@[congr] theorem beqK_congr {e : Bool} {K : V → Prop} {u u' : V} {v v' : V} (h0 : u = u') (h1 : v = v') : beqK e K u v = beqK e K u' v' := by rw [h0, h1]
@[congr] theorem isnilK_congr {e : Bool} {K : V → Prop} {v v' : V} (h0 : v = v') : isnilK e K v = isnilK e K v' := by rw [h0]
@[congr] theorem cviK_congr {k : IntKind} {K : V → Prop} {v v' : V} (h0 : v = v') : cviK k K v = cviK k K v' := by rw [h0]
@[congr] theorem idxK_congr {K : V → Prop} {u u' : V} {v v' : V} (h0 : u = u') (h1 : v = v') : idxK K u v = idxK K u' v' := by rw [h0, h1]
@[congr] theorem idxAK_congr {n : Nat} {K : V → Prop} {u u' : V} {v v' : V} (h0 : u = u') (h1 : v = v') : idxAK n K u v = idxAK n K u' v' := by rw [h0, h1]
@[congr] theorem idxPK_congr {ob : Objs} {k n : Nat} {K : V → Prop} {u u' : V} {v v' : V} (h0 : u = u') (h1 : v = v') : idxPK ob k n K u v = idxPK ob k n K u' v' := by rw [h0, h1]
@[congr] theorem fldAK_congr {ob : Objs} {k n : Nat} {K : V → Prop} {v v' : V} (h0 : v = v') : fldAK ob k n K v = fldAK ob k n K v' := by rw [h0]
@[congr] theorem fldAKo_congr {j : Nat} {p : List Nat} {k n : Nat} {K : V → Prop} {v v' : Option (List V)} (h0 : v = v') : fldAKo j p k n K v = fldAKo j p k n K v' := by rw [h0]
@[congr] theorem fldK_congr {k j n : Nat} {b : Bool} {K : V → Prop} {v v' : Option (List V)} (h0 : v = v') : fldK k j n b K v = fldK k j n b K v' := by rw [h0]
@[congr] theorem ldK_congr {ob : Objs} {n : Nat} {b : Bool} {K : V → Prop} {v v' : V} (h0 : v = v') : ldK ob n b K v = ldK ob n b K v' := by rw [h0]
@[congr] theorem ldKo_congr {n : Nat} {b : Bool} {K : V → Prop} {v v' : Option V} (h0 : v = v') : ldKo n b K v = ldKo n b K v' := by rw [h0]
@[congr] theorem lenLK_congr {ob : Objs} {K : V → Prop} {v v' : V} (h0 : v = v') : lenLK ob K v = lenLK ob K v' := by rw [h0]
@[congr] theorem bndK_congr {n : Nat} {KK : Nat → Nat → Prop} {u u' : Option V} {v v' : Option V} (h0 : u = u') (h1 : v = v') : bndK n KK u v = bndK n KK u' v' := by rw [h0, h1]
@[congr] theorem slcSK_congr {K : V → Prop} {l l' : Option V} {h h' : Option V} {v v' : V} (h0 : l = l') (h1 : h = h') (h2 : v = v') : slcSK l h K v = slcSK l' h' K v' := by rw [h0, h1, h2]
@[congr] theorem slcLK_congr {n : Nat} {K : V → Prop} {l l' : Option V} {h h' : Option V} {v v' : V} (h0 : l = l') (h1 : h = h') (h2 : v = v') : slcLK n l h K v = slcLK n l' h' K v' := by rw [h0, h1, h2]
@[congr] theorem extK_congr {n : Nat} {K : V → Prop} {v v' : V} (h0 : v = v') : extK n K v = extK n K v' := by rw [h0]
@[congr] theorem bldK_congr {KL : List V → Prop} {u u' : List V} {l l' : List (Nat × V)} (h0 : u = u') (h1 : l = l') : bldK u l KL = bldK u' l' KL := by rw [h0, h1]
@[congr] theorem tasK_congr {k : Nat} {d : D} {K : V → Prop} {v v' : V} (h0 : v = v') : tasK k d K v = tasK k d K v' := by rw [h0]
@[congr] theorem boxK_congr {k : Nat} {ob : Objs} {KO : V → Objs → Prop} {v v' : V} (h0 : v = v') : boxK k ob KO v = boxK k ob KO v' := by rw [h0]
@[congr] theorem stK_congr {ob : Objs} {n : Nat} {KO : V → Objs → Prop} {u u' : V} {v v' : V} (h0 : u = u') (h1 : v = v') : stK ob n u KO v = stK ob n u' KO v' := by rw [h0, h1]
@[congr] theorem stKo_congr {ob : Objs} {k : Nat} {p : List Nat} {n : Nat} {u : V} {KO : V → Objs → Prop} {v v' : Option Ob} (h0 : v = v') : stKo ob k p n u KO v = stKo ob k p n u KO v' := by rw [h0]
@[congr] theorem stKt_congr {ob : Objs} {k : Nat} {p : List Nat} {n E : Nat} {u t : V} {KO : V → Objs → Prop} {v v' : Option V} (h0 : v = v') : stKt ob k p n E u t KO v = stKt ob k p n E u t KO v' := by rw [h0]
@[congr] theorem stKs_congr {ob : Objs} {k E : Nat} {KO : V → Objs → Prop} {v v' : Option V} (h0 : v = v') : stKs ob k E KO v = stKs ob k E KO v' := by rw [h0]
@[congr] theorem dK_congr {KD : List D → Prop} {v v' : Option (List D)} (h0 : v = v') : dK KD v = dK KD v' := by rw [h0]
@[congr] theorem callvK_congr {P : Prg} {ob : Objs} {KO : V → Objs → Prop} {Pn : V → Objs → Prop} {u u' : List V} {v v' : V} (h0 : u = u') (h1 : v = v') : callvK P u ob KO Pn v = callvK P u' ob KO Pn v' := by rw [h0, h1]
@[congr] theorem panicK_congr {ob : Objs} {Pn : V → Objs → Prop} {v v' : V} (h0 : v = v') : panicK ob Pn v = panicK ob Pn v' := by rw [h0]
@[congr] theorem srcK_congr {n : Nat} {KD : List D → Prop} {v v' : V} (h0 : v = v') : srcK n KD v = srcK n KD v' := by rw [h0]
@[congr] theorem appK_congr {E sz B : Nat} {ob : Objs} {xs : List D} {KO : V → Objs → Prop} {v v' : V} (h0 : v = v') : appK E sz B ob xs KO v = appK E sz B ob xs KO v' := by rw [h0]
@[congr] theorem appKo_congr {k E sz B n : Nat} {ob : Objs} {xs : List D} {KO : V → Objs → Prop} {v v' : Option Ob} (h0 : v = v') : appKo k E sz B n ob xs KO v = appKo k E sz B n ob xs KO v' := by rw [h0]
@[congr] theorem niloK_congr {E sz : Nat} {ob : Objs} {KO : V → Objs → Prop} {v v' : V} (h0 : v = v') : niloK E sz ob KO v = niloK E sz ob KO v' := by rw [h0]
@[congr] theorem srcSK_congr {KD : List D → Prop} {v v' : V} (h0 : v = v') : srcSK KD v = srcSK KD v' := by rw [h0]
@[congr] theorem pnilK_congr {e : Bool} {K : V → Prop} {v v' : V} (h0 : v = v') : pnilK e K v = pnilK e K v' := by rw [h0]
@[congr] theorem fnilK_congr {e : Bool} {K : V → Prop} {v v' : V} (h0 : v = v') : fnilK e K v = fnilK e K v' := by rw [h0]
@[congr] theorem peqK_congr {ob : Objs} {e : Bool} {K : V → Prop} {u u' v v' : V} (h1 : u = u') (h0 : v = v') : peqK ob e K u v = peqK ob e K u' v' := by rw [h0, h1]
@[congr] theorem givK_congr {KO : V → Objs → Prop} {v v' : Option (D × Objs)} (h0 : v = v') : givK KO v = givK KO v' := by rw [h0]
@[congr] theorem givsK_congr {KO : List D → Objs → Prop} {v v' : Option (List D × Objs)} (h0 : v = v') : givsK KO v = givsK KO v' := by rw [h0]
@[congr] theorem gvO_congr {u : V} {ob : Objs} {KO : V → Objs → Prop} {v v' : Option (D × Objs)} (h0 : v = v') : gvO u ob KO v = gvO u ob KO v' := by rw [h0]
@[congr] theorem gvsK_congr {KL : List V → Objs → Prop} {u u' : List V} {ob ob' : Objs} (h0 : u = u') (h1 : ob = ob') : gvsK u ob KL = gvsK u' ob' KL := by rw [h0, h1]
@[congr] theorem leaveK_congr {n : Nat} {K : Objs → Prop} {u u' : List V} {ob ob' : Objs} (h0 : u = u') (h1 : ob = ob') : leaveK n K u ob = leaveK n K u' ob' := by rw [h0, h1]
@[congr] theorem ldfK_congr {n : Nat} {b : Bool} {ob : Objs} {KO : V → Objs → Prop} {v v' : V} (h0 : v = v') : ldfK n b ob KO v = ldfK n b ob KO v' := by rw [h0]
@[congr] theorem ldfKo_congr {n : Nat} {b : Bool} {ob : Objs} {KO : V → Objs → Prop} {v v' : Option V} (h0 : v = v') : ldfKo n b ob KO v = ldfKo n b ob KO v' := by rw [h0]
@[congr] theorem mvgK_congr {ob : Objs} {E sz : Nat} {p : List Nat} {KO : V → Objs → Prop} {u u' v v' : V} (h1 : u = u') (h0 : v = v') : mvgK ob E sz p u KO v = mvgK ob E sz p u' KO v' := by rw [h0, h1]
@[congr] theorem mvgKt_congr {ob : Objs} {k E sz : Nat} {p p' : List Nat} {KO : V → Objs → Prop} {u : V} {v v' : Option Ob} (h1 : p = p') (h0 : v = v') : mvgKt ob k p E sz u KO v = mvgKt ob k p' E sz u KO v' := by rw [h0, h1]
@[congr] theorem mvgKs_congr {ob : Objs} {k E0 E sz : Nat} {KO : V → Objs → Prop} {u : V} {v v' : Option V} (h0 : v = v') : mvgKs ob k E0 E sz u KO v = mvgKs ob k E0 E sz u KO v' := by rw [h0]
@[congr] theorem cvbK_congr {ob : Objs} {KO : V → Objs → Prop} {v v' : V} (h0 : v = v') : cvbK ob KO v = cvbK ob KO v' := by rw [h0]
@[congr] theorem cvbKo_congr {k n : Nat} {ob : Objs} {KO : V → Objs → Prop} {v v' : Option Ob} (h0 : v = v') : cvbKo k n ob KO v = cvbKo k n ob KO v' := by rw [h0]
@[congr] theorem usdK_congr {ob : Objs} {K : V → Prop} {v v' : V} (h0 : v = v') : usdK ob K v = usdK ob K v' := by rw [h0]
@[congr] theorem ustrK_congr {E : Nat} {ob : Objs} {KO : V → Objs → Prop} {u u' v v' : V} (h1 : u = u') (h0 : v = v') : ustrK E ob KO u v = ustrK E ob KO u' v' := by rw [h0, h1]
@[congr] theorem ustrKo_congr {k n : Nat} {m : Int} {E : Nat} {ob : Objs} {KO : V → Objs → Prop} {v v' : Option Ob} (h0 : v = v') : ustrKo k n m E ob KO v = ustrKo k n m E ob KO v' := by rw [h0]
@[congr] theorem resK_congr {sl : Slots} {ob : Objs} {rs : List RV} {KL : List V → Prop} : resK sl ob rs KL = resK sl ob rs KL := rfl
@[congr] theorem ACall_congr {P : Prg} {f : Nat} {vs vs' : List V} {ob ob' : Objs} {K : Out → Objs → Prop} (h : vs = vs') (h' : ob = ob') : ACall P f vs ob K = ACall P f vs' ob' K := by rw [h, h']
@[congr] theorem PCall_congr {P : Prg} {f : Nat} {vs vs' : List V} {ob ob' : Objs} {K : V → Prop} (h : vs = vs') (h' : ob = ob') : PCall P f vs ob K = PCall P f vs' ob' K := by rw [h, h']
@[congr] theorem ALoop_congr {keep : List Nat} {body : Post → Slots → Objs → Prop} {Q : Post} {sl sl' : Slots} {ob ob' : Objs} (h : sl = sl') (h' : ob = ob') : ALoop keep body Q sl ob = ALoop keep body Q sl' ob' := by rw [h, h']

theorem ALoop.of {keep : List Nat} {body : Post → Slots → Objs → Prop} {Q : Post} {sl : Slots} {ob : Objs} {ι : Type} (S : ι → Slots) (O : ι → Objs) (I : ι → Prop) (μ : ι → Nat) (i0 : ι) (h0 : I i0) (hs : keepS sl keep = S i0) (ho : ob = O i0)
    (step : ∀ i, I i → body (thenK (sub keep (fresh (O i)) fun sl' ob' => ∃ j, I j ∧ μ j < μ i ∧ sl' = S j ∧ ob' = O j) Q) (S i) (O i)) : ALoop keep body Q sl ob :=
  ⟨⟨ι, S, O, I, μ, i0, h0, hs, ho, step⟩⟩

theorem ALoop.go {keep : List Nat} {body : Post → Slots → Objs → Prop} {Q : Post} {sl : Slots} {ob : Objs} {ι : Type} (S : ι → Slots) (O : ι → Objs) (I : ι → Prop) (μ : ι → Nat) (i0 : ι) (h0 : I i0) (hs : keepS sl keep = S i0) (ho : ob = O i0)
    (step : ∀ i, I i → ∀ R : Post, (∀ kp j sl' ob', I j → μ j < μ i → keepS sl' keep = S j → dropO (young (fresh (O i)) kp) ob' = O j → noMenS (young (fresh (O i)) kp) (S j) = true → noMenO (young (fresh (O i)) kp) (O j) = true → R .normal sl' ob') →
      (∀ n sl' ob', Q (.exit n) sl' ob' → R (.exit n) sl' ob') → (∀ sl' ob', Q .ret sl' ob' → R .ret sl' ob') → (∀ v sl' ob', Q (.panic v) sl' ob' → R (.panic v) sl' ob') → body R (S i) (O i)) : ALoop keep body Q sl ob := by
  refine ALoop.of S O I μ i0 h0 hs ho fun i hi => step i hi _ (fun kp j sl' ob' h1 h2 h3 h4 h5 h6 => ?_) (fun _ _ _ h => h) (fun _ _ h => h) (fun _ _ _ h => h)
  simp only [thenK, sub]
  refine ⟨kp, ?_⟩
  rw [h3, h4]
  exact ⟨h5, h6, j, h1, h2, rfl, rfl⟩
@[congr] theorem cwp_congr {P : Prg} {s : S} {Q : Post} {sl sl' : Slots} {ob ob' : Objs} (h : sl = sl') (h' : ob = ob') : cwp P s Q sl ob = cwp P s Q sl' ob' := by rw [h, h']
end Go.Ab
/- Expressions: what an operation that only reads yields, as a value. Over any program; no condition. -/
namespace Go.Ab
open Go

def pickV : V → V → V → V
  | .d (.bool t), .d (.bool x), .d (.bool y) => .d (.bool (if t then x else y))
  | .d (.bool t), x, y => if t then x else y
  | _, _, _ => .any
def notV : V → V
  | .d (.bool b) => .d (.bool (!b))
  | _ => .any
def negV : V → V
  | .d (.int k n) => .d (.int k (k.wrap (0 - n)))
  | _ => .any
def intV (op : BinOp) (k : IntKind) (a b : Int) : V :=
  match op with
  | .add => .d (.int k (k.wrap (a + b)))
  | .sub => .d (.int k (k.wrap (a - b)))
  | .mul => .d (.int k (k.wrap (a * b)))
  | .quo => .d (.int k (k.wrap (a.tdiv b)))
  | .rem => .d (.int k (a.tmod b))
  | .and | .or | .xor | .andNot => .d (.int k (bitsI op k a b))
  | .shl => .d (.int k (k.wrap (a * 2 ^ (min b.toNat k.bits))))
  | .shr => .d (.int k (a.fdiv (2 ^ (min b.toNat k.bits))))
  | .eql => .d (.bool (a == b))
  | .neq => .d (.bool (a != b))
  | .lss => .d (.bool (decide (a < b)))
  | .leq => .d (.bool (decide (a ≤ b)))
  | .gtr => .d (.bool (decide (b < a)))
  | .geq => .d (.bool (decide (b ≤ a)))
def strV (op : BinOp) (x y : List UInt8) : V :=
  match op with
  | .add => .d (.str (x ++ y))
  | .eql => .d (.bool (x == y))
  | .neq => .d (.bool (x != y))
  | .lss => .d (.bool (Op.bytesLess x y))
  | .leq => .d (.bool (Op.bytesLess x y || x == y))
  | .gtr => .d (.bool (!(Op.bytesLess x y || x == y)))
  | .geq => .d (.bool (!Op.bytesLess x y))
  | _ => .any
def binV (op : BinOp) : V → V → V
  | .d (.int k a), .d (.int _ b) => intV op k a b
  | .d (.str x), .d (.str y) => strV op x y
  | _, _ => .any
def beqV (e : Bool) : V → V → V
  | .d (.bool x), .d (.bool y) => .d (.bool ((x == y) == e))
  | _, _ => .any
def isnilV (e : Bool) : V → V
  | .d .nili => .d (.bool e)
  | .iface _ _ => .d (.bool (!e))
  | .d (.iface _ _) => .d (.bool (!e))
  | _ => .any
def pnilV (e : Bool) : V → V
  | .d .nilp => .d (.bool e)
  | .d (.ref _) => .d (.bool (!e))
  | .ptr _ _ => .d (.bool (!e))
  | _ => .any
def fnilV (e : Bool) : V → V
  | .d .nilf => .d (.bool e)
  | .d (.fn _ _ _) => .d (.bool (!e))
  | .fn _ _ _ => .d (.bool (!e))
  | _ => .any
def usdV : V → V
  | .sl id n => .sd id n
  | .d .nils => .d .nilp
  | _ => .any
def cviV (k : IntKind) : V → V
  | .d (.int _ n) => .d (.int k (k.wrap n))
  | _ => .any
def cvsV : V → V
  | .d (.str s) => .d (.str s)
  | _ => .any
def idxV : V → V → V
  | .d (.str s), .d (.int _ n) => .d (.int .u8 (s.getD n.toNat 0).toNat)
  | _, _ => .any
def idxAV : V → V → V
  | .d (.list _ xs), .d (.int _ n) => .d (.ref (xs.getD n.toNat default))
  | _, _ => .any
def idxPV : V → V → V
  | .ptr id p, .d (.int _ n) => .ptr id (p ++ [n.toNat])
  | .d (.ref (.agg xs)), .d (.int _ n) => .d (.ref (xs.getD n.toNat default))
  | _, _ => .any
def fldAV (f : Nat) : V → V
  | .ptr id p => .ptr id (p ++ [f])
  | .d (.ref (.agg xs)) => .d (.ref (xs.getD f default))
  | _ => .any
def fldV (f : Nat) : Option (List V) → V
  | some ks => ks.getD f .any
  | none => .any
def ldVo : Option V → V
  | some v => v
  | none => .any
def ldV (ob : Objs) : V → V
  | .ptr id p => ldVo (atO ob id p)
  | .d (.ref x) => .d x
  | _ => .any
def lenSV : V → V
  | .d (.str s) => .d (.int .i64 s.length)
  | _ => .any
def lenLV : V → V
  | .d (.list _ xs) => .d (.int .i64 xs.length)
  | .d .nils => .d (.int .i64 0)
  | .sl _ n => .d (.int .i64 n)
  | _ => .any
def bndV (len : Nat) (K : Nat → Nat → V) : Option V → Option V → V
  | none, none => K 0 len
  | some (.d (.int _ l)), none => K l.toNat len
  | none, some (.d (.int _ h)) => K 0 h.toNat
  | some (.d (.int _ l)), some (.d (.int _ h)) => K l.toNat h.toNat
  | _, _ => .any
def slcSV (lo hi : Option V) : V → V
  | .d (.str s) => bndV s.length (fun l h => .d (.str ((s.take h).drop l))) lo hi
  | _ => .any
def slcLV (lo hi : Option V) : V → V
  | .d (.list sz xs) => bndV xs.length (fun l h => .d (.list sz ((xs.take h).drop l))) lo hi
  | _ => .any
def extV (i : Nat) : V → V
  | .tup xs => xs.getD i .any
  | _ => .any
def tasV (t : Nat) (z : D) : V → V
  | .iface t' v => if t' = t then .tup [v, .d (.bool true)] else .tup [.d z, .d (.bool false)]
  | .d (.iface t' x) => if t' = t then .tup [.d x, .d (.bool true)] else .tup [.d z, .d (.bool false)]
  | .d .nili => .tup [.d z, .d (.bool false)]
  | _ => .any

def eqDV (e : Bool) : V → V → V
  | .d x, .d y => .d (.bool (D.eqb x y == e))
  | _, _ => .any
def idxVV : V → V → V
  | .d (.agg xs), .d (.int _ n) => .d (xs.getD n.toNat default)
  | _, _ => .any

def C.val (sl : Slots) (ob : Objs) : C → V
  | .mv x => x.ev sl
  | .pick c a b => pickV (c.ev sl) (a.ev sl) (b.ev sl)
  | .not x => notV (x.ev sl)
  | .neg x => negV (x.ev sl)
  | .bin op x y => binV op (x.ev sl) (y.ev sl)
  | .beq e x y => beqV e (x.ev sl) (y.ev sl)
  | .isnil e x => isnilV e (x.ev sl)
  | .pnil e x => pnilV e (x.ev sl)
  | .fnil e x => fnilV e (x.ev sl)
  | .peq e _ _ => .d (.bool e)
  | .usd x => usdV (x.ev sl)
  | .cvi k x => cviV k (x.ev sl)
  | .cvs x => cvsV (x.ev sl)
  | .idx x i => idxV (x.ev sl) (i.ev sl)
  | .idxA _ x i => idxAV (x.ev sl) (i.ev sl)
  | .idxP _ _ x i => idxPV (x.ev sl) (i.ev sl)
  | .fldA f _ x => fldAV f (x.ev sl)
  | .fld f _ _ _ x => fldV f (x.ev sl).kids
  | .ld _ _ x => ldV ob (x.ev sl)
  | .nilc x => x.ev sl
  | .lenS x => lenSV (x.ev sl)
  | .lenL x => lenLV (x.ev sl)
  | .lenA n => .d (.int .i64 n)
  | .slcS x lo hi => slcSV (lo.map (A.ev sl)) (hi.map (A.ev sl)) (x.ev sl)
  | .slcL _ x lo hi => slcLV (lo.map (A.ev sl)) (hi.map (A.ev sl)) (x.ev sl)
  | .ext x i => extV i (x.ev sl)
  | .bld _ _ => .any
  | .mkf f first cap => mkfV f (first.map (A.ev sl)) (cap.map (A.ev sl))
  | .mki t x => mkiV t (x.ev sl)
  | .tas t z x => tasV t z (x.ev sl)
  | .eqD _ e x y => eqDV e (x.ev sl) (y.ev sl)
  | .aix _ _ _ x i => idxVV (x.ev sl) (i.ev sl)

def C.ok (sl : Slots) (ob : Objs) (c : C) : Prop := c.wp sl ob fun v => v = c.val sl ob

theorem intK_mono {op : BinOp} {k k' : IntKind} {a b : Int} {K K' : V → Prop} (hk : ∀ v, K v → K' v) (h : intK op k k' a b K) : intK op k k' a b K' := by
  cases op <;> simp only [intK] at h ⊢ <;> first | exact ⟨h.1, hk _ h.2⟩ | exact ⟨h.1, h.2.1, hk _ h.2.2⟩
theorem strK_mono {op : BinOp} {a b : List UInt8} {K K' : V → Prop} (hk : ∀ v, K v → K' v) (h : strK op a b K) : strK op a b K' := by
  cases op <;> simp only [strK] at h ⊢ <;> first | exact hk _ h | exact ⟨h.1, hk _ h.2⟩ | exact h.elim
theorem bndK_mono {n : Nat} {K K' : Nat → Nat → Prop} (hk : ∀ l h, K l h → K' l h) {lo hi : Option V} (h : bndK n K lo hi) : bndK n K' lo hi := by
  unfold bndK at h ⊢
  split <;> simp_all
theorem bldK_mono {K K' : List V → Prop} (hk : ∀ l, K l → K' l) : ∀ (ps : List (Nat × V)) (ks : List V), bldK ks ps K → bldK ks ps K'
  | [], _, h => hk _ h
  | (_, _) :: r, _, h => ⟨h.1, h.2.1, h.2.2.1, bldK_mono hk r _ h.2.2.2⟩
theorem C.wp_mono {sl : Slots} {ob : Objs} {K K' : V → Prop} (hk : ∀ v, K v → K' v) (c : C) (h : c.wp sl ob K) : c.wp sl ob K' := by
  cases c <;> simp only [C.wp] at h ⊢
  case mv => exact hk _ h
  case lenA => exact hk _ h
  case mkf => exact hk _ h
  case mki => exact hk _ h
  case bld => exact bldK_mono (fun _ => hk _) _ _ h
  case bin x y =>
    generalize A.ev sl x = v at h ⊢; generalize A.ev sl y = u at h ⊢
    unfold binK at h; split at h
    · exact intK_mono hk h
    · exact strK_mono hk h
    · exact h.elim
  case slcS x lo hi =>
    generalize A.ev sl x = v at h ⊢
    unfold slcSK at h; split at h
    · exact bndK_mono (fun _ _ => hk _) h
    · exact h.elim
  case slcL x lo hi =>
    generalize A.ev sl x = v at h ⊢
    unfold slcLK at h; split at h
    · exact ⟨h.1, bndK_mono (fun _ _ => hk _) h.2⟩
    · exact h.elim
  case pick x y z =>
    generalize A.ev sl x = v at h ⊢; generalize A.ev sl y = u at h ⊢; generalize A.ev sl z = t at h ⊢
    unfold pickK at h; split at h
    · exact hk _ h
    · rename_i hn; simp only [pickK]; exact ⟨fun e => hk _ (h.1 e), fun e => hk _ (h.2 e)⟩
    · exact h.elim
  case fld x =>
    generalize (A.ev sl x).kids = v at h ⊢
    unfold fldK at h; split at h
    · exact ⟨h.1, h.2.1, h.2.2.1, h.2.2.2.1, hk _ h.2.2.2.2⟩
    · exact h.elim
  case fldA x =>
    generalize A.ev sl x = v at h ⊢
    unfold fldAK at h; split at h
    · simp only [fldAK]
      generalize kidsO _ = v at h ⊢
      unfold fldAKo at h; split at h
      · exact ⟨h.1, h.2.1, hk _ h.2.2⟩
      · exact h.elim
    · exact ⟨h.1, h.2.1, hk _ h.2.2⟩
    · exact h.elim
  case ld x =>
    generalize A.ev sl x = v at h ⊢
    unfold ldK at h; split at h
    · simp only [ldK]
      generalize atO _ _ _ = v at h ⊢
      unfold ldKo at h; split at h
      · exact ⟨h.1, h.2.1, hk _ h.2.2⟩
      · exact h.elim
    · exact ⟨h.1, h.2.1, hk _ h.2.2⟩
    · exact h.elim
  case tas x =>
    generalize A.ev sl x = v at h ⊢
    unfold tasK at h; split at h
    · exact ⟨fun e => hk _ (h.1 e), fun e => hk _ (h.2 e)⟩
    · exact ⟨fun e => hk _ (h.1 e), fun e => hk _ (h.2 e)⟩
    · exact hk _ h
    · exact h.elim
  case pnil x => generalize A.ev sl x = v at h ⊢; unfold pnilK at h; split at h <;> first | exact hk _ h | exact h.elim
  case fnil x => generalize A.ev sl x = v at h ⊢; unfold fnilK at h; split at h <;> first | exact hk _ h | exact h.elim
  case usd x => generalize A.ev sl x = v at h ⊢; unfold usdK at h; split at h <;> first | exact ⟨h.1, hk _ h.2⟩ | exact hk _ h | exact h.elim
  case peq x y => generalize A.ev sl x = v at h ⊢; generalize A.ev sl y = u at h ⊢; unfold peqK at h; split at h <;> first | exact ⟨h.1, h.2.1, h.2.2.1, hk _ h.2.2.2⟩ | exact h.elim
  case not x => generalize A.ev sl x = v at h ⊢; unfold notK at h; split at h <;> first | exact hk _ h | exact h.elim
  case neg x => generalize A.ev sl x = v at h ⊢; unfold negK at h; split at h <;> first | exact hk _ h | exact h.elim
  case isnil x => generalize A.ev sl x = v at h ⊢; unfold isnilK at h; split at h <;> first | exact hk _ h | exact h.elim
  case cvi x => generalize A.ev sl x = v at h ⊢; unfold cviK at h; split at h <;> first | exact hk _ h | exact h.elim
  case cvs x => generalize A.ev sl x = v at h ⊢; unfold cvsK at h; split at h <;> first | exact hk _ h | exact h.elim
  case nilc x => generalize A.ev sl x = v at h ⊢; unfold nilcK at h; split at h <;> first | exact hk _ h | exact h.elim
  case lenS x => generalize A.ev sl x = v at h ⊢; unfold lenSK at h; split at h <;> first | exact hk _ h | exact h.elim
  case lenL x => generalize A.ev sl x = v at h ⊢; unfold lenLK at h; split at h <;> first | exact hk _ h | exact ⟨h.1, hk _ h.2⟩ | exact h.elim
  case ext x _ => generalize A.ev sl x = v at h ⊢; unfold extK at h; split at h <;> first | exact ⟨h.1, hk _ h.2⟩ | exact h.elim
  case eqD x y => generalize A.ev sl x = v at h ⊢; generalize A.ev sl y = u at h ⊢; unfold eqDK at h; split at h <;> first | exact ⟨h.1, h.2.1, hk _ h.2.2⟩ | exact h.elim
  case aix x y => generalize A.ev sl x = v at h ⊢; generalize A.ev sl y = u at h ⊢; unfold idxVK at h; split at h <;> first | exact ⟨h.1, h.2.1, h.2.2.1, hk _ h.2.2.2⟩ | exact h.elim
  case beq x y => generalize A.ev sl x = v at h ⊢; generalize A.ev sl y = u at h ⊢; unfold beqK at h; split at h <;> first | exact hk _ h | exact h.elim
  case idx x y => generalize A.ev sl x = v at h ⊢; generalize A.ev sl y = u at h ⊢; unfold idxK at h; split at h <;> first | exact ⟨h.1, hk _ h.2⟩ | exact h.elim
  case idxA x y => generalize A.ev sl x = v at h ⊢; generalize A.ev sl y = u at h ⊢; unfold idxAK at h; split at h <;> first | exact ⟨h.1, h.2.1, hk _ h.2.2⟩ | exact h.elim
  case idxP x y => generalize A.ev sl x = v at h ⊢; generalize A.ev sl y = u at h ⊢; unfold idxPK at h; split at h <;> first | exact ⟨h.1, h.2.1, hk _ h.2.2⟩ | exact ⟨h.1, h.2.1, h.2.2.1, hk _ h.2.2.2⟩ | exact h.elim
theorem C.wp_of {sl : Slots} {ob : Objs} {K : V → Prop} {c : C} (h : c.ok sl ob) (hK : K (c.val sl ob)) : c.wp sl ob K :=
  C.wp_mono (fun _ e => e ▸ hK) c h
end Go.Ab
/- Regions folded into expressions: the expressions, what they yield, and how a region is folded. Over any program; no condition. -/
namespace Go.Ab
open Go

inductive E where
  | a (x : A)
  | u (c : C) (x : E)
  | b (c : C) (x y : E)
  | t (c : C) (x y z : E)
  | ite (c x y : E)
  | call (f : Nat) (x : E)
  | nil
  | cons (x r : E)

structure Fn where
  pre : List V → Prop
  val : List V → V
abbrev Tab := List (Nat × Fn)
def lookT : Tab → Nat → Option Fn
  | [], _ => none
  | (j, x) :: r, k => if j = k then some x else lookT r k
def TOk (P : Prg) (T : Tab) : Prop := ∀ f F, lookT T f = some F → ∀ vs, F.pre vs → ∀ (ob : Objs) (K : V → Prop), K (F.val vs) → PCall P f vs ob K

def isB (pol : Bool) : V → Bool
  | .d (.bool b) => b == pol
  | _ => false
def boolV : V → Prop
  | .d (.bool _) => True
  | _ => False
def consV (x : V) : V → V
  | .tup xs => .tup (x :: xs)
  | _ => .any
def callV : Option Fn → V → V
  | some F, .tup vs => F.val vs
  | _, _ => .any
def callP : Option Fn → V → Prop
  | some F, .tup vs => F.pre vs
  | _, _ => False

def E.val (T : Tab) (sl : Slots) (ob : Objs) : E → V
  | .a x => x.ev sl
  | .u c x => c.val [(0, x.val T sl ob)] ob
  | .b c x y => c.val [(0, x.val T sl ob), (1, y.val T sl ob)] ob
  | .t c x y z => c.val [(0, x.val T sl ob), (1, y.val T sl ob), (2, z.val T sl ob)] ob
  | .ite c x y => pickV (c.val T sl ob) (x.val T sl ob) (y.val T sl ob)
  | .call f x => callV (lookT T f) (x.val T sl ob)
  | .nil => .tup []
  | .cons x r => consV (x.val T sl ob) (r.val T sl ob)
def E.ok (T : Tab) (sl : Slots) (ob : Objs) : E → Prop
  | .a _ => True
  | .u c x => x.ok T sl ob ∧ c.ok [(0, x.val T sl ob)] ob
  | .b c x y => x.ok T sl ob ∧ y.ok T sl ob ∧ c.ok [(0, x.val T sl ob), (1, y.val T sl ob)] ob
  | .t c x y z => x.ok T sl ob ∧ y.ok T sl ob ∧ z.ok T sl ob ∧ c.ok [(0, x.val T sl ob), (1, y.val T sl ob), (2, z.val T sl ob)] ob
  | .ite c x y => c.ok T sl ob ∧ boolV (c.val T sl ob) ∧ (isB true (c.val T sl ob) = true → x.ok T sl ob) ∧ (isB false (c.val T sl ob) = true → y.ok T sl ob)
  | .call f x => x.ok T sl ob ∧ callP (lookT T f) (x.val T sl ob)
  | .nil => True
  | .cons x r => x.ok T sl ob ∧ r.ok T sl ob

def A.men (k : Nat) : A → Bool
  | .t j => j == k
  | _ => false
def E.men (k : Nat) : E → Bool
  | .a x => x.men k
  | .u _ x => x.men k
  | .b _ x y => x.men k || y.men k
  | .t _ x y z => x.men k || y.men k || z.men k
  | .ite x y z => x.men k || y.men k || z.men k
  | .call _ x => x.men k
  | .nil => false
  | .cons x y => x.men k || y.men k
def C.rd : C → Bool
  | .ld _ _ _ => true
  | _ => false
def E.rd : E → Bool
  | .a _ => false
  | .u c x => c.rd || x.rd
  | .b c x y => c.rd || x.rd || y.rd
  | .t c x y z => c.rd || x.rd || y.rd || z.rd
  | .ite x y z => x.rd || y.rd || z.rd
  | .call _ x => x.rd
  | .nil => false
  | .cons x y => x.rd || y.rd
def E.isA : E → Bool
  | .a _ => true
  | _ => false

theorem E.val_sl {T : Tab} {sl : Slots} {ob : Objs} {k : Nat} {v : V} : ∀ {e : E}, e.men k = false → e.val T ((k, v) :: sl) ob = e.val T sl ob
  | .a x, h => by
    cases x <;> simp only [E.val, A.ev]
    rename_i j
    simp only [E.men, A.men, beq_eq_false_iff_ne, ne_eq] at h
    have h' : ¬ k = j := fun e => h e.symm
    simp [look, h']
  | .u c x, h => by simp only [E.men] at h; simp only [E.val, E.val_sl h]
  | .b c x y, h => by simp only [E.men, Bool.or_eq_false_iff] at h; simp only [E.val, E.val_sl h.1, E.val_sl h.2]
  | .t c x y z, h => by simp only [E.men, Bool.or_eq_false_iff] at h; simp only [E.val, E.val_sl h.1.1, E.val_sl h.1.2, E.val_sl h.2]
  | .ite x y z, h => by simp only [E.men, Bool.or_eq_false_iff] at h; simp only [E.val, E.val_sl h.1.1, E.val_sl h.1.2, E.val_sl h.2]
  | .call f x, h => by simp only [E.men] at h; simp only [E.val, E.val_sl h]
  | .nil, _ => rfl
  | .cons x y, h => by simp only [E.men, Bool.or_eq_false_iff] at h; simp only [E.val, E.val_sl h.1, E.val_sl h.2]
theorem C.val_ob {sl : Slots} {ob ob' : Objs} {c : C} (h : c.rd = false) : c.val sl ob = c.val sl ob' := by
  cases c <;> simp_all [C.rd, C.val]
theorem E.val_ob {T : Tab} {sl : Slots} {ob ob' : Objs} : ∀ {e : E}, e.rd = false → e.val T sl ob = e.val T sl ob'
  | .a x, h => rfl
  | .u c x, h => by simp only [E.rd, Bool.or_eq_false_iff] at h; simp only [E.val, E.val_ob (ob' := ob') h.2, C.val_ob (ob' := ob') h.1]
  | .b c x y, h => by simp only [E.rd, Bool.or_eq_false_iff] at h; simp only [E.val, E.val_ob (ob' := ob') h.1.2, E.val_ob (ob' := ob') h.2, C.val_ob (ob' := ob') h.1.1]
  | .t c x y z, h => by simp only [E.rd, Bool.or_eq_false_iff] at h; simp only [E.val, E.val_ob (ob' := ob') h.1.1.2, E.val_ob (ob' := ob') h.1.2, E.val_ob (ob' := ob') h.2, C.val_ob (ob' := ob') h.1.1.1]
  | .ite x y z, h => by simp only [E.rd, Bool.or_eq_false_iff] at h; simp only [E.val, E.val_ob (ob' := ob') h.1.1, E.val_ob (ob' := ob') h.1.2, E.val_ob (ob' := ob') h.2]
  | .call f x, h => by simp only [E.rd] at h; simp only [E.val, E.val_ob (ob' := ob') h]
  | .nil, _ => rfl
  | .cons x y, h => by simp only [E.rd, Bool.or_eq_false_iff] at h; simp only [E.val, E.val_ob (ob' := ob') h.1, E.val_ob (ob' := ob') h.2]


abbrev Path := List (Nat × Bool)
abbrev Sg := List (Nat × Option (Path × E))
def lookG : Sg → Nat → Option (Option (Path × E))
  | [], _ => none
  | (j, x) :: r, k => if j = k then some x else lookG r k
def ent (σ : Sg) (k : Nat) : Option (Path × E) := match lookG σ k with
  | none => some ([], .a (.t k))
  | some x => x
def holdsS (sl : Slots) (p : Path) : Bool := p.all fun g => isB g.2 (look sl g.1)
def holdsB (T : Tab) (sl : Slots) (ob : Objs) (p : List (E × Bool)) : Bool := p.all fun g => isB g.2 (g.1.val T sl ob)
def Inv (T : Tab) (σ : Sg) (sl sl0 : Slots) (ob : Objs) : Prop := ∀ k p e, ent σ k = some (p, e) →
  (holdsS sl p = true → look sl k = e.val T sl0 ob) ∧ (holdsS sl p = false → look sl k = .undef)

def opE (σ : Sg) (p : Path) : A → Option E
  | .t k => match ent σ k with
    | some (q, e) => if q.isPrefixOf p then some e else none
    | none => none
  | x => some (.a x)
def lift1 (σ : Sg) (p : Path) (c : C) (x : A) : Option E := match opE σ p x with
  | some x => some (.u c x)
  | none => none
def lift2 (σ : Sg) (p : Path) (c : C) (x y : A) : Option E := match opE σ p x, opE σ p y with
  | some x, some y => some (.b c x y)
  | _, _ => none
def lift3 (σ : Sg) (p : Path) (c : C) (x y z : A) : Option E := match opE σ p x, opE σ p y, opE σ p z with
  | some x, some y, some z => some (.t c x y z)
  | _, _, _ => none
def pickE (σ : Sg) (p : Path) (g : Nat) (x y : A) : Option E := match opE σ p (.t g), opE σ (p ++ [(g, true)]) x, opE σ (p ++ [(g, false)]) y with
  | some c, some x, some y => some (.ite c x y)
  | _, _, _ => none
def argsE (σ : Sg) (p : Path) : List A → Option E
  | [] => some .nil
  | x :: r => match opE σ p x, argsE σ p r with
    | some x, some r => some (.cons x r)
    | _, _ => none

def C.lift (σ : Sg) (p : Path) : C → Option E
  | .mv x => opE σ p x
  | .pick (.t g) x y => pickE σ p g x y
  | .pick _ _ _ => none
  | .not x => lift1 σ p (.not (.t 0)) x
  | .neg x => lift1 σ p (.neg (.t 0)) x
  | .bin o x y => lift2 σ p (.bin o (.t 0) (.t 1)) x y
  | .beq e x y => lift2 σ p (.beq e (.t 0) (.t 1)) x y
  | .isnil e x => lift1 σ p (.isnil e (.t 0)) x
  | .pnil e x => lift1 σ p (.pnil e (.t 0)) x
  | .fnil e x => lift1 σ p (.fnil e (.t 0)) x
  | .peq e x y => lift2 σ p (.peq e (.t 0) (.t 1)) x y
  | .usd x => lift1 σ p (.usd (.t 0)) x
  | .cvi k x => lift1 σ p (.cvi k (.t 0)) x
  | .cvs x => lift1 σ p (.cvs (.t 0)) x
  | .idx x i => lift2 σ p (.idx (.t 0) (.t 1)) x i
  | .idxA z x i => lift2 σ p (.idxA z (.t 0) (.t 1)) x i
  | .idxP n z x i => lift2 σ p (.idxP n z (.t 0) (.t 1)) x i
  | .fldA f fo x => lift1 σ p (.fldA f fo (.t 0)) x
  | .fld f fo n ag x => lift1 σ p (.fld f fo n ag (.t 0)) x
  | .ld n ag x => lift1 σ p (.ld n ag (.t 0)) x
  | .nilc x => lift1 σ p (.nilc (.t 0)) x
  | .lenS x => lift1 σ p (.lenS (.t 0)) x
  | .lenL x => lift1 σ p (.lenL (.t 0)) x
  | .lenA n => some (.a (.int .i64 n))
  | .slcS x none none => lift1 σ p (.slcS (.t 0) none none) x
  | .slcS x (some l) none => lift2 σ p (.slcS (.t 0) (some (.t 1)) none) x l
  | .slcS x none (some h) => lift2 σ p (.slcS (.t 0) none (some (.t 1))) x h
  | .slcS x (some l) (some h) => lift3 σ p (.slcS (.t 0) (some (.t 1)) (some (.t 2))) x l h
  | .slcL z x none none => lift1 σ p (.slcL z (.t 0) none none) x
  | .slcL z x (some l) none => lift2 σ p (.slcL z (.t 0) (some (.t 1)) none) x l
  | .slcL z x none (some h) => lift2 σ p (.slcL z (.t 0) none (some (.t 1))) x h
  | .slcL z x (some l) (some h) => lift3 σ p (.slcL z (.t 0) (some (.t 1)) (some (.t 2))) x l h
  | .ext x i => lift1 σ p (.ext (.t 0) i) x
  | .mki t x => lift1 σ p (.mki t (.t 0)) x
  | .tas t z x => lift1 σ p (.tas t z (.t 0)) x
  | .eqD ty e x y => lift2 σ p (.eqD ty e (.t 0) (.t 1)) x y
  | .aix n z ag x i => lift2 σ p (.aix n z ag (.t 0) (.t 1)) x i
  | .bld _ _ => none
  | .mkf _ _ _ => none
def I.lift (fs : List Nat) (σ : Sg) (p : Path) : I → Option E
  | .c x => x.lift σ p
  | .pcall f args => if fs.contains f then (match argsE σ p args with | some e => some (.call f e) | none => none) else none
  | _ => none

def use1 (σ : Sg) (p : Path) : A → List Nat
  | .t k => match ent σ k with
    | some (q, _) => if q == p then [k] else []
    | none => []
  | _ => []
def uses (σ : Sg) (p : Path) : List A → List Nat
  | [] => []
  | x :: r => use1 σ p x ++ uses σ p r
def C.cons (σ : Sg) (p : Path) : C → List Nat
  | .mv x | .not x | .neg x | .isnil _ x | .pnil _ x | .fnil _ x | .usd x | .cvi _ x | .cvs x | .fldA _ _ x | .fld _ _ _ _ x | .ld _ _ x | .nilc x | .lenS x | .lenL x | .ext x _ | .mki _ x | .tas _ _ x => use1 σ p x
  | .bin _ x y | .beq _ x y | .peq _ x y | .idx x y | .idxA _ x y | .idxP _ _ x y | .eqD _ _ x y | .aix _ _ _ x y => use1 σ p x ++ use1 σ p y
  | .slcS x none none | .slcL _ x none none => use1 σ p x
  | .slcS x (some y) none | .slcL _ x (some y) none | .slcS x none (some y) | .slcL _ x none (some y) => use1 σ p x ++ use1 σ p y
  | .slcS x (some y) (some z) | .slcL _ x (some y) (some z) => use1 σ p x ++ use1 σ p y ++ use1 σ p z
  | .pick (.t g) x y => use1 σ p (.t g) ++ use1 σ (p ++ [(g, true)]) x ++ use1 σ (p ++ [(g, false)]) y
  | _ => []
def I.cons (σ : Sg) (p : Path) : I → List Nat
  | .c x => x.cons σ p
  | .pcall _ args => uses σ p args
  | _ => []
def I.gcons (σ : Sg) (p : Path) : I → List Nat
  | .c (.pick (.t g) _ _) => use1 σ p (.t g)
  | _ => []

section
variable {P : Prg} {T : Tab} {σ : Sg} {sl sl0 : Slots} {ob : Objs} {p : Path}

theorem holds_prefix {q : Path} (h : q.isPrefixOf p = true) (hp : holdsS sl p = true) : holdsS sl q = true := by
  rw [List.isPrefixOf_iff_prefix] at h
  obtain ⟨t, rfl⟩ := h
  simp only [holdsS, List.all_append, Bool.and_eq_true] at hp ⊢
  exact hp.1
theorem opE_val (hI : Inv T σ sl sl0 ob) (hp : holdsS sl p = true) {x : A} {e : E} (h : opE σ p x = some e) : e.val T sl0 ob = x.ev sl := by
  cases x with
  | t k =>
    simp only [opE] at h
    split at h
    · rename_i q e' he
      split at h
      · rename_i hq
        cases h
        exact ((hI k q e he).1 (holds_prefix hq hp)).symm
      · cases h
    · cases h
  | _ => simp only [opE] at h; cases h; rfl
theorem lift1_of {c : C} {x : A} {e : E} (h : lift1 σ p c x = some e) : ∃ ex, e = .u c ex ∧ opE σ p x = some ex := by
  unfold lift1 at h; split at h
  · cases h; exact ⟨_, rfl, by assumption⟩
  · cases h
theorem lift2_of {c : C} {x y : A} {e : E} (h : lift2 σ p c x y = some e) : ∃ ex ey, e = .b c ex ey ∧ opE σ p x = some ex ∧ opE σ p y = some ey := by
  unfold lift2 at h; split at h
  · cases h; exact ⟨_, _, rfl, by assumption, by assumption⟩
  · cases h
theorem lift3_of {c : C} {x y z : A} {e : E} (h : lift3 σ p c x y z = some e) : ∃ ex ey ez, e = .t c ex ey ez ∧ opE σ p x = some ex ∧ opE σ p y = some ey ∧ opE σ p z = some ez := by
  unfold lift3 at h; split at h
  · cases h; exact ⟨_, _, _, rfl, by assumption, by assumption, by assumption⟩
  · cases h
theorem pickE_of {g : Nat} {x y : A} {e : E} (h : pickE σ p g x y = some e) : ∃ ec ex ey, e = .ite ec ex ey ∧ opE σ p (.t g) = some ec ∧ opE σ (p ++ [(g, true)]) x = some ex ∧ opE σ (p ++ [(g, false)]) y = some ey := by
  unfold pickE at h; split at h
  · cases h; exact ⟨_, _, _, rfl, by assumption, by assumption, by assumption⟩
  · cases h
theorem argsE_val (hI : Inv T σ sl sl0 ob) (hp : holdsS sl p = true) : ∀ {xs : List A} {e : E}, argsE σ p xs = some e → e.val T sl0 ob = .tup (xs.map (A.ev sl))
  | [], e, h => by simp only [argsE] at h; cases h; rfl
  | x :: r, e, h => by
    simp only [argsE] at h
    split at h
    · rename_i ex er hx hr
      cases h
      simp only [E.val, opE_val hI hp hx, argsE_val hI hp hr, consV, List.map_cons]
    · cases h
theorem pickV_t (x y : V) : pickV (.d (.bool true)) x y = x := by unfold pickV; split <;> simp_all
theorem pickV_f (x y : V) : pickV (.d (.bool false)) x y = y := by unfold pickV; split <;> simp_all
theorem pickV_n {v : V} (h : ¬ boolV v) (x y : V) : pickV v x y = .any := by unfold pickV; split <;> simp_all [boolV]
theorem boolV_of {v : V} (h : boolV v) : v = .d (.bool true) ∨ v = .d (.bool false) := by
  unfold boolV at h; split at h
  · rename_i b; cases b <;> simp
  · exact h.elim

theorem C.lift_sound (hI : Inv T σ sl sl0 ob) (hp : holdsS sl p = true) {c : C} {e : E} (h : c.lift σ p = some e) : e.val T sl0 ob = c.val sl ob ∧ (e.ok T sl0 ob → c.ok sl ob) := by
  have l1 : ∀ {c x}, lift1 σ p c x = some e → ∃ ex, e = .u c ex ∧ ex.val T sl0 ob = x.ev sl := fun h => by
    obtain ⟨ex, rfl, hx⟩ := lift1_of h; exact ⟨ex, rfl, opE_val hI hp hx⟩
  have l2 : ∀ {c x y}, lift2 σ p c x y = some e → ∃ ex ey, e = .b c ex ey ∧ ex.val T sl0 ob = x.ev sl ∧ ey.val T sl0 ob = y.ev sl := fun h => by
    obtain ⟨ex, ey, rfl, hx, hy⟩ := lift2_of h; exact ⟨ex, ey, rfl, opE_val hI hp hx, opE_val hI hp hy⟩
  have l3 : ∀ {c x y z}, lift3 σ p c x y z = some e → ∃ ex ey ez, e = .t c ex ey ez ∧ ex.val T sl0 ob = x.ev sl ∧ ey.val T sl0 ob = y.ev sl ∧ ez.val T sl0 ob = z.ev sl := fun h => by
    obtain ⟨ex, ey, ez, rfl, hx, hy, hz⟩ := lift3_of h; exact ⟨ex, ey, ez, rfl, opE_val hI hp hx, opE_val hI hp hy, opE_val hI hp hz⟩
  unfold C.lift at h
  split at h
  case h_1 => exact ⟨by rw [opE_val hI hp h]; rfl, fun _ => rfl⟩
  case h_2 g x y =>
    obtain ⟨ec, ex, ey, rfl, hc, hx, hy⟩ := pickE_of h
    have hcv := opE_val hI hp hc
    simp only [A.ev] at hcv
    have hpt : ∀ b, look sl g = .d (.bool b) → holdsS sl (p ++ [(g, b)]) = true := fun b hb => by
      simp only [holdsS, List.all_append, Bool.and_eq_true] at hp ⊢
      exact ⟨hp, by simp [hb, isB]⟩
    simp only [E.val, E.ok, C.val, C.ok, C.wp, ev_t, hcv]
    by_cases hb : boolV (look sl g)
    · rcases boolV_of hb with hb | hb
      · have := opE_val hI (hpt true hb) hx
        rw [hb]; simp only [pickV_t, pickK_t, this]; exact ⟨trivial, fun _ => trivial⟩
      · have := opE_val hI (hpt false hb) hy
        rw [hb]; simp only [pickV_f, pickK_f, this]; exact ⟨trivial, fun _ => trivial⟩
    · rw [pickV_n hb, pickV_n hb]; exact ⟨rfl, fun h => (hb h.2.1).elim⟩
  case h_24 => cases h; exact ⟨rfl, fun _ => rfl⟩
  all_goals first
    | (cases h; done)
    | (obtain ⟨ex, rfl, hx⟩ := l1 h; simp only [E.val, E.ok, C.val, C.ok, C.wp, ev_t, look_eq, hx, Option.map]; exact ⟨trivial, fun h => h.2⟩)
    | (obtain ⟨ex, ey, rfl, hx, hy⟩ := l2 h; simp only [E.val, E.ok, C.val, C.ok, C.wp, ev_t, look_eq, look_ne, Nat.reduceBEq, hx, hy, Option.map]; exact ⟨trivial, fun h => h.2.2⟩)
    | (obtain ⟨ex, ey, ez, rfl, hx, hy, hz⟩ := l3 h; simp only [E.val, E.ok, C.val, C.ok, C.wp, ev_t, look_eq, look_ne, Nat.reduceBEq, hx, hy, hz, Option.map]; exact ⟨trivial, fun h => h.2.2.2⟩)
end
end Go.Ab
/- Regions folded into expressions: that the fold keeps what is shown. Over any program; no condition. -/
namespace Go.Ab
open Go

section
variable {P : Prg} {T : Tab} {σ : Sg} {sl sl0 : Slots} {ob : Objs} {p : Path}

theorem use1_of {x : A} {k : Nat} {ex : E} (hk : k ∈ use1 σ p x) (h : opE σ p x = some ex) : ent σ k = some (p, ex) := by
  cases x with
  | t j =>
    simp only [use1] at hk
    simp only [opE] at h
    split at hk
    · rename_i q e he
      split at hk
      · rename_i hq
        simp at hk; subst hk
        simp at hq; subst hq
        rw [he] at h
        simp at h
        rw [he, h]
      · cases hk
    · cases hk
  | _ => simp [use1] at hk
theorem holds_snoc {g : Nat} {b : Bool} : holdsS sl (p ++ [(g, b)]) = (holdsS sl p && isB b (look sl g)) := by
  simp [holdsS, List.all_append]
theorem uses_cov : ∀ {xs : List A} {e : E}, argsE σ p xs = some e → ∀ {k q ek}, k ∈ uses σ p xs → ent σ k = some (q, ek) → q = p ∧ (e.ok T sl0 ob → ek.ok T sl0 ob)
  | [], _, _, k, _, _, hk, _ => by simp [uses] at hk
  | x :: r, e, h, k, q, ek, hk, he => by
    simp only [argsE] at h
    split at h
    · rename_i ex er hx hr
      cases h
      simp only [uses, List.mem_append] at hk
      rcases hk with hk | hk
      · have := use1_of hk hx
        rw [he] at this; cases this
        exact ⟨rfl, fun h => h.1⟩
      · obtain ⟨h1, h2⟩ := uses_cov hr hk he
        exact ⟨h1, fun h => h2 h.2⟩
    · cases h

theorem C.cov (hI : Inv T σ sl sl0 ob) {c : C} {e : E} (h : c.lift σ p = some e) {k : Nat} {q : Path} {ek : E} (hk : k ∈ c.cons σ p) (he : ent σ k = some (q, ek)) (hq : holdsS sl q = true) (ho : holdsS sl p = true → e.ok T sl0 ob) : ek.ok T sl0 ob := by
  have l1 : ∀ {c x}, lift1 σ p c x = some e → k ∈ use1 σ p x → ek.ok T sl0 ob := fun h hk => by
    obtain ⟨ex, rfl, hx⟩ := lift1_of h
    have := use1_of hk hx
    rw [he] at this; cases this
    exact (ho hq).1
  have l2 : ∀ {c x y}, lift2 σ p c x y = some e → k ∈ use1 σ p x ++ use1 σ p y → ek.ok T sl0 ob := fun h hk => by
    obtain ⟨ex, ey, rfl, hx, hy⟩ := lift2_of h
    rw [List.mem_append] at hk
    rcases hk with hk | hk
    · have := use1_of hk hx
      rw [he] at this; cases this
      exact (ho hq).1
    · have := use1_of hk hy
      rw [he] at this; cases this
      exact (ho hq).2.1
  have l3 : ∀ {c x y z}, lift3 σ p c x y z = some e → k ∈ use1 σ p x ++ use1 σ p y ++ use1 σ p z → ek.ok T sl0 ob := fun h hk => by
    obtain ⟨ex, ey, ez, rfl, hx, hy, hz⟩ := lift3_of h
    rw [List.mem_append, List.mem_append] at hk
    rcases hk with (hk | hk) | hk
    · have := use1_of hk hx
      rw [he] at this; cases this
      exact (ho hq).1
    · have := use1_of hk hy
      rw [he] at this; cases this
      exact (ho hq).2.1
    · have := use1_of hk hz
      rw [he] at this; cases this
      exact (ho hq).2.2.1
  unfold C.lift at h
  split at h <;> simp only [C.cons] at hk
  case h_1 =>
    have := use1_of hk h
    rw [he] at this; cases this
    exact ho hq
  case h_2 g x y =>
    obtain ⟨ec, ex, ey, rfl, hc, hx, hy⟩ := pickE_of h
    rw [List.mem_append, List.mem_append] at hk
    rcases hk with (hk | hk) | hk
    · have := use1_of hk hc
      rw [he] at this; cases this
      exact (ho hq).1
    · have := use1_of hk hx
      rw [he] at this; cases this
      rw [holds_snoc, Bool.and_eq_true] at hq
      have hv := opE_val hI hq.1 hc
      exact (ho hq.1).2.2.1 (by rw [hv]; exact hq.2)
    · have := use1_of hk hy
      rw [he] at this; cases this
      rw [holds_snoc, Bool.and_eq_true] at hq
      have hv := opE_val hI hq.1 hc
      exact (ho hq.1).2.2.2 (by rw [hv]; exact hq.2)
  all_goals first
    | (cases h; done)
    | exact l1 h hk
    | exact l2 h hk
    | exact l3 h hk
    | (cases hk; done)
theorem I.cov (hI : Inv T σ sl sl0 ob) {fs : List Nat} {i : I} {e : E} (h : i.lift fs σ p = some e) {k : Nat} {q : Path} {ek : E} (hk : k ∈ i.cons σ p) (he : ent σ k = some (q, ek)) (hq : holdsS sl q = true) (ho : holdsS sl p = true → e.ok T sl0 ob) : ek.ok T sl0 ob := by
  cases i <;> simp only [I.lift] at h <;> simp only [I.cons] at hk
  case c x => exact C.cov hI h hk he hq ho
  case pcall f args =>
    split at h
    · split at h
      · rename_i e' ha
        cases h
        obtain ⟨rfl, h2⟩ := uses_cov (T := T) (sl0 := sl0) (ob := ob) ha hk he
        exact h2 (ho hq).1
      · cases h
    · cases h
  all_goals cases h
theorem I.gcov {fs : List Nat} {i : I} {e : E} (h : i.lift fs σ p = some e) {k : Nat} {q : Path} {ek : E} (hk : k ∈ i.gcons σ p) (he : ent σ k = some (q, ek)) (hq : holdsS sl q = true) (ho : holdsS sl p = true → e.ok T sl0 ob) : boolV (ek.val T sl0 ob) := by
  unfold I.gcons at hk
  split at hk
  · rename_i g x y
    simp only [I.lift, C.lift] at h
    obtain ⟨ec, ex, ey, rfl, hc, hx, hy⟩ := pickE_of h
    have := use1_of hk hc
    rw [he] at this; cases this
    exact (ho hq).2.1
  · cases hk
theorem I.lift_sound (hT : TOk P T) (hI : Inv T σ sl sl0 ob) (hp : holdsS sl p = true) {fs : List Nat} {i : I} {e : E} (h : i.lift fs σ p = some e) (ho : e.ok T sl0 ob) {KO Pn : V → Objs → Prop} (hK : KO (e.val T sl0 ob) ob) : i.wp P sl ob KO Pn := by
  cases i <;> simp only [I.lift] at h
  case c x =>
    obtain ⟨h1, h2⟩ := C.lift_sound hI hp h
    simp only [I.wp]
    exact C.wp_of (h2 ho) (by rw [← h1]; exact hK)
  case pcall f args =>
    split at h
    · split at h
      · rename_i e' ha
        cases h
        have hv := argsE_val hI hp ha
        simp only [E.ok, E.val, hv] at ho hK
        simp only [I.wp]
        cases hf : lookT T f with
        | none => rw [hf] at ho; exact ho.2.elim
        | some F => rw [hf] at ho hK; exact hT f F hf _ ho.2 _ _ hK
      · cases h
    · cases h
  all_goals cases h

theorem Inv.congr {sl' : Slots} (hI : Inv T σ sl sl0 ob) (h : ∀ k, look sl' k = look sl k) : Inv T σ sl' sl0 ob := by
  intro k p e he
  have : holdsS sl' p = holdsS sl p := by simp only [holdsS, h]
  rw [this, h]
  exact hI k p e he

def noGuard (d : Nat) (p : Path) : Bool := p.all fun g => g.1 != d
def gfree (σ : Sg) (d : Nat) : Bool := σ.all fun x => match x.2 with
  | some (p, _) => noGuard d p
  | none => true
theorem holds_put {d : Nat} {v : V} (h : noGuard d p = true) : holdsS ((d, v) :: sl) p = holdsS sl p := by
  induction p with
  | nil => rfl
  | cons g r ih =>
    simp only [noGuard, List.all_cons, Bool.and_eq_true] at h
    simp only [holdsS, List.all_cons] at ih ⊢
    have : look ((d, v) :: sl) g.1 = look sl g.1 := by
      have := h.1; simp at this
      have h' : ¬ d = g.1 := fun e => this e.symm
      simp [look, h']
    rw [this, ih h.2]
theorem gfree_look : ∀ {σ : Sg} {d k : Nat} {p : Path} {e : E}, gfree σ d = true → lookG σ k = some (some (p, e)) → noGuard d p = true
  | [], _, _, _, _, _, h => by simp [lookG] at h
  | (j, x) :: r, d, k, p, e, hg, h => by
    simp only [gfree, List.all_cons, Bool.and_eq_true] at hg
    simp only [lookG] at h
    split at h
    · cases h; exact hg.1
    · exact gfree_look (σ := r) hg.2 h
theorem gfree_ent {d k : Nat} {q : Path} {e : E} (hg : gfree σ d = true) (h : ent σ k = some (q, e)) : noGuard d q = true := by
  unfold ent at h
  split at h
  · cases h; rfl
  · rename_i x hx; subst h; exact gfree_look hg hx

theorem ent_cons_eq {k : Nat} {x : Option (Path × E)} : ent ((k, x) :: σ) k = x := by simp [ent, lookG]
theorem ent_cons_ne {j k : Nat} {x : Option (Path × E)} (h : k ≠ j) : ent ((k, x) :: σ) j = ent σ j := by simp [ent, lookG, h]

end
end Go.Ab
/- Regions folded into expressions: the fold itself, and that it keeps what is shown. Over any program; no condition. -/
namespace Go.Ab
open Go

inductive It2 where
  | chk (p : List (E × Bool)) (e : E)
  | lt (k : Nat) (p : List (E × Bool)) (e : E)
  | op (d : Option Nat) (i : I)
  | gop (p : List (E × Bool)) (d : Option Nat) (i : I)

def whenV (b : Bool) (v : V) : V := if b then v else .undef

def rwp2 (P : Prg) (T : Tab) (K : Slots → Objs → Prop) (Pn : V → Slots → Objs → Prop) : List It2 → Slots → Objs → Prop
  | [], sl, ob => K sl ob
  | .chk p e :: r, sl, ob => (holdsB T sl ob p = true → e.ok T sl ob) ∧ rwp2 P T K Pn r sl ob
  | .lt k p e :: r, sl, ob => (holdsB T sl ob p = true → e.ok T sl ob) ∧ rwp2 P T K Pn r ((k, whenV (holdsB T sl ob p) (e.val T sl ob)) :: sl) ob
  | .op d i :: r, sl, ob => i.wp P sl ob (fun v ob' => rwp2 P T K Pn r (put sl d v) ob') (fun v ob' => Pn v sl ob')
  | .gop p d i :: r, sl, ob => (holdsB T sl ob p = true → i.wp P sl ob (fun v ob' => rwp2 P T K Pn r (put sl d v) ob') (fun v ob' => Pn v sl ob')) ∧
      (holdsB T sl ob p = false → rwp2 P T K Pn r (put sl d .undef) ob)

def keepE (T : Tab) (sl : Slots) (ob : Objs) : List (Nat × E) → Slots
  | [] => []
  | (k, e) :: r => (k, e.val T sl ob) :: keepE T sl ob r
def keepOk (T : Tab) (sl : Slots) (ob : Objs) : List (Nat × E) → Prop
  | [] => True
  | (_, e) :: r => e.ok T sl ob ∧ keepOk T sl ob r


def A.slots : A → List Nat
  | .t k => [k]
  | _ => []
def slotsL : List A → List Nat
  | [] => []
  | x :: r => x.slots ++ slotsL r
def slotsO : Option A → List Nat
  | some x => x.slots
  | none => []
def C.slots : C → List Nat
  | .mv x | .not x | .neg x | .isnil _ x | .pnil _ x | .fnil _ x | .usd x | .cvi _ x | .cvs x | .fldA _ _ x | .fld _ _ _ _ x | .ld _ _ x | .nilc x | .lenS x | .lenL x | .ext x _ | .mki _ x | .tas _ _ x => x.slots
  | .bin _ x y | .beq _ x y | .peq _ x y | .idx x y | .idxA _ x y | .idxP _ _ x y | .eqD _ _ x y | .aix _ _ _ x y => x.slots ++ y.slots
  | .pick x y z => x.slots ++ (y.slots ++ z.slots)
  | .slcS x l h | .slcL _ x l h => x.slots ++ (slotsO l ++ slotsO h)
  | .lenA _ => []
  | .bld _ ps => slotsL (ps.map (·.2))
  | .mkf _ a b => slotsL a ++ slotsL b
def I.slots : I → List Nat
  | .c x => x.slots
  | .box _ x => x.slots
  | .alloc _ _ => []
  | .bls _ _ ps => slotsL (ps.map (·.2))
  | .blo _ _ _ ps => slotsL (ps.map (·.2))
  | .st _ x y => x.slots ++ y.slots
  | .app _ _ _ x y => x.slots ++ y.slots
  | .appS _ _ x y => x.slots ++ y.slots
  | .call _ l => slotsL l
  | .pcall _ l => slotsL l
  | .callv x l => x.slots ++ slotsL l
  | .panic x => x.slots
  | .b2s x => x.slots
  | .s2b x => x.slots
  | .nilo _ _ x => x.slots
  | .mvf x => x.slots
  | .ldf _ _ x => x.slots
  | .mvg _ _ y x _ => y.slots ++ x.slots
  | .mvn y x _ => y.slots ++ x.slots
  | .cvb x => x.slots
  | .ustr _ x y => x.slots ++ y.slots
  | .mkm r => slotsO r
  | .lkp _ _ _ m k => m.slots ++ k.slots
  | .mset _ m k v => m.slots ++ (k.slots ++ v.slots)
  | .gld _ _ _ _ => []
  | .slg _ _ x => x.slots

section
variable {P : Prg} {sl sl' : Slots} {ob : Objs}
theorem A.ev_eq {x : A} (h : ∀ k ∈ x.slots, look sl k = look sl' k) : x.ev sl = x.ev sl' := by
  cases x <;> simp_all [A.ev, A.slots]
theorem evL_eq : ∀ {l : List A}, (∀ k ∈ slotsL l, look sl k = look sl' k) → l.map (A.ev sl) = l.map (A.ev sl')
  | [], _ => rfl
  | x :: r, h => by
    simp only [slotsL, List.mem_append] at h
    simp only [List.map_cons, A.ev_eq (fun k hk => h k (.inl hk)), evL_eq (fun k hk => h k (.inr hk))]
theorem evO_eq {l : Option A} (h : ∀ k ∈ slotsO l, look sl k = look sl' k) : l.map (A.ev sl) = l.map (A.ev sl') := by
  cases l with
  | none => rfl
  | some x => simp only [Option.map_some, A.ev_eq h]
theorem evP_eq : ∀ {l : List (Nat × A)}, (∀ k ∈ slotsL (l.map (·.2)), look sl k = look sl' k) → (l.map fun x => (x.1, A.ev sl x.2)) = l.map fun x => (x.1, A.ev sl' x.2)
  | [], _ => rfl
  | x :: r, h => by
    simp only [List.map_cons, slotsL, List.mem_append] at h
    simp only [List.map_cons, A.ev_eq (fun k hk => h k (.inl hk)), evP_eq (fun k hk => h k (.inr hk))]
theorem C.wp_eq {K : V → Prop} {c : C} (h : ∀ k ∈ c.slots, look sl k = look sl' k) : c.wp sl ob K = c.wp sl' ob K := by
  cases c <;> simp only [C.slots, List.mem_append] at h <;> simp only [C.wp]
  case bld => rw [evP_eq h]
  case mkf => rw [evL_eq (fun k hk => h k (.inl hk)), evL_eq (fun k hk => h k (.inr hk))]
  case pick => rw [A.ev_eq (fun k hk => h k (.inl hk)), A.ev_eq (fun k hk => h k (.inr (.inl hk))), A.ev_eq (fun k hk => h k (.inr (.inr hk)))]
  case slcS => rw [A.ev_eq (fun k hk => h k (.inl hk)), evO_eq (fun k hk => h k (.inr (.inl hk))), evO_eq (fun k hk => h k (.inr (.inr hk)))]
  case slcL => rw [A.ev_eq (fun k hk => h k (.inl hk)), evO_eq (fun k hk => h k (.inr (.inl hk))), evO_eq (fun k hk => h k (.inr (.inr hk)))]
  all_goals first
    | rw [A.ev_eq h]
    | rw [A.ev_eq (fun k hk => h k (.inl hk)), A.ev_eq (fun k hk => h k (.inr hk))]
theorem I.wp_eq {K Pn : V → Objs → Prop} {i : I} (h : ∀ k ∈ i.slots, look sl k = look sl' k) : i.wp P sl ob K Pn = i.wp P sl' ob K Pn := by
  cases i <;> simp only [I.slots, List.mem_append] at h <;> simp only [I.wp]
  case c => rw [C.wp_eq h]
  case bls => rw [evP_eq h]
  case blo => rw [evP_eq h]
  case call => rw [evL_eq h]
  case pcall => rw [evL_eq h]
  case callv => rw [A.ev_eq (fun k hk => h k (.inl hk)), evL_eq (fun k hk => h k (.inr hk))]
  case mset => rw [A.ev_eq (fun k hk => h k (.inl hk)), A.ev_eq (fun k hk => h k (.inr (.inl hk))), A.ev_eq (fun k hk => h k (.inr (.inr hk)))]
  case mkm r =>
    cases r with
    | none => rfl
    | some x => simp only [mkmK, A.ev_eq (x := x) h]
  all_goals first
    | rw [A.ev_eq h]
    | rw [A.ev_eq (fun k hk => h k (.inl hk)), A.ev_eq (fun k hk => h k (.inr hk))]
    | rfl

theorem mvgK_mono {K K' : V → Objs → Prop} {ob : Objs} {E sz : Nat} {p : List Nat} {y x : V} (hk : ∀ v b, K v b → K' v b) (h : mvgK ob E sz p y K x) : mvgK ob E sz p y K' x := by
  unfold mvgK at h; split at h
  · simp only [mvgK]
    generalize lookO _ _ = o at h ⊢
    unfold mvgKt at h; split at h
    · simp only [mvgKt]
      refine ⟨h.1, ?_⟩
      have h := h.2
      generalize V.set _ _ _ = o at h ⊢
      cases o with
      | none => exact h.elim
      | some t => exact hk _ _ h
    · exact h.elim
  · exact h.elim
theorem mvnK_mono {K K' : V → Objs → Prop} {y x : V} (hk : ∀ v b, K v b → K' v b) : ∀ {l : List (Nat × Nat × List Nat)} {ob : Objs}, mvnK y K x l ob → mvnK y K' x l ob
  | [], _, h => hk _ _ h
  | _ :: _, _, h => mvgK_mono (fun _ _ h => mvnK_mono hk h) h

theorem I.wp_mono {K K' Pn Pn' : V → Objs → Prop} (hk : ∀ v b, K v b → K' v b) (hp : ∀ v b, Pn v b → Pn' v b) {i : I} (h : i.wp P sl ob K Pn) : i.wp P sl ob K' Pn' := by
  have ho : ∀ o b, outK K Pn o b → outK K' Pn' o b := fun o b => by cases o with | ret v => exact hk v b | panic v => exact hp v b
  have bx : ∀ {E v}, boxK E ob K v → boxK E ob K' v := fun h => ⟨h.1, hk _ _ h.2⟩
  have dk : ∀ {KD KD' : List D → Prop}, (∀ l, KD l → KD' l) → ∀ o, dK KD o → dK KD' o := fun f o h => by cases o with | none => exact h.elim | some l => exact f l h
  have gv : ∀ (o : Option (D × Objs)), givK K o → givK K' o := fun o h => by
    cases o with
    | none => exact h.elim
    | some q => exact hk _ _ h
  have ap : ∀ {E sz B ys u}, appK E sz B ob ys K u → appK E sz B ob ys K' u := fun {E sz B ys u} h => by
    unfold appK at h; split at h
    · simp only [appK]
      generalize lookO _ _ = o at h ⊢
      unfold appKo at h; split at h
      · obtain ⟨h1, h2, h3, h4, h5⟩ := h
        exact ⟨h1, h2, h3, h4, hk _ _ h5⟩
      · exact h.elim
    · exact ⟨h.1, hk _ _ h.2⟩
    · exact h.elim
  cases i <;> simp only [I.wp] at h ⊢
  case c x => exact C.wp_mono (fun v => hk v ob) x h
  case box => exact bx h
  case alloc => exact bx h
  case bls => exact bldK_mono (fun _ => dk (fun _ => hk _ _) _) _ _ h
  case blo => exact bldK_mono (fun _ => dk (fun _ h => hk _ _ h) _) _ _ h
  case st x y =>
    generalize A.ev sl x = v at h ⊢
    unfold stK at h; split at h
    · simp only [stK]
      generalize lookO _ _ = o at h ⊢
      unfold stKo at h; split at h
      · simp only [stKo]
        generalize V.at _ _ = o at h ⊢
        unfold stKt at h; split at h
        · obtain ⟨h1, h2, h3, t, h4, h5⟩ := h
          exact ⟨h1, h2, h3, t, h4, hk _ _ h5⟩
        · exact h.elim
      · exact h.elim
    · exact h.elim
  case app x y =>
    generalize A.ev sl y = v at h ⊢
    unfold srcK at h; split at h
    · exact ⟨h.1, ap h.2⟩
    · exact ap h
    · exact h.elim
  case appS x y =>
    generalize A.ev sl y = v at h ⊢
    unfold srcSK at h; split at h
    · exact ap h
    · exact h.elim
  case mvf x =>
    generalize V.giv _ _ = v at h ⊢
    exact gv _ h
  case ldf x =>
    generalize A.ev sl x = v at h ⊢
    unfold ldfK at h; split at h
    · simp only [ldfK]
      generalize atO _ _ _ = o at h ⊢
      unfold ldfKo at h; split at h
      · exact ⟨h.1, h.2.1, gv _ h.2.2⟩
      · exact h.elim
    · exact h.elim
  case mvg => exact mvgK_mono hk h
  case mvn => exact mvnK_mono hk h
  case cvb x =>
    generalize A.ev sl x = v at h ⊢
    unfold cvbK at h; split at h
    · simp only [cvbK]
      generalize lookO _ _ = o at h ⊢
      unfold cvbKo at h; split at h
      · exact ⟨h.1, h.2.1, h.2.2.1, hk _ _ h.2.2.2⟩
      · exact h.elim
    · exact h.elim
  case ustr x y =>
    generalize A.ev sl x = v at h ⊢; generalize A.ev sl y = u at h ⊢
    unfold ustrK at h; split at h
    · simp only [ustrK]
      generalize lookO _ _ = o at h ⊢
      unfold ustrKo at h; split at h
      · obtain ⟨h1, h2, h3, h4, h5, h6, s, h7, h8⟩ := h
        exact ⟨h1, h2, h3, h4, h5, h6, s, h7, hk _ _ h8⟩
      · exact h.elim
    · exact ⟨h.1, hk _ _ h.2⟩
    · exact h.elim
  case call => exact h.mono ho
  case pcall => exact h.mono fun v => hk v ob
  case callv x l =>
    generalize A.ev sl x = v at h ⊢
    unfold callvK at h; split at h
    · exact ⟨h.1, h.2.mono ho⟩
    · exact ⟨h.1, h.2.mono ho⟩
    · exact h.elim
  case panic x =>
    generalize A.ev sl x = v at h ⊢
    unfold panicK at h; split at h
    · exact hp _ _ h
    · exact hp _ _ h
    · exact h.elim
  case b2s x =>
    generalize A.ev sl x = v at h ⊢
    unfold b2sK at h; split at h
    · obtain ⟨h1, s, h2, h3⟩ := h
      exact ⟨h1, s, h2, hk _ _ h3⟩
    · exact hk _ _ h
    · exact h.elim
  case s2b x =>
    generalize A.ev sl x = v at h ⊢
    unfold s2bK at h; split at h
    · exact hk _ _ h
    · exact h.elim
  case nilo x =>
    generalize A.ev sl x = v at h ⊢
    unfold niloK at h; split at h
    · exact hk _ _ h
    · exact h.elim
  case mkm r => exact ⟨h.1, hk _ _ h.2⟩
  case gld => exact ⟨h.1, h.2.1, h.2.2.1, hk _ _ h.2.2.2⟩
  case slg x =>
    generalize A.ev sl x = v at h ⊢
    unfold slgK at h; split at h
    · simp only [slgK]
      generalize atO _ _ _ = o at h ⊢
      unfold slgKv at h; split at h
      · exact ⟨h.1, h.2.1, hk _ _ h.2.2⟩
      · exact h.elim
    · exact h.elim
  case lkp x y =>
    generalize A.ev sl x = v at h ⊢; generalize A.ev sl y = u at h ⊢
    unfold lkpK at h; split at h
    · simp only [lkpK]
      generalize lookO _ _ = o at h ⊢
      unfold lkpKo at h; split at h
      · exact ⟨h.1, hk _ _ h.2⟩
      · exact h.elim
    · exact ⟨h.1, hk _ _ h.2⟩
    · exact h.elim
  case mset x y z =>
    generalize A.ev sl x = v at h ⊢; generalize A.ev sl y = u at h ⊢
    unfold msetK at h; split at h
    · simp only [msetK]
      generalize lookO _ _ = o at h ⊢
      unfold msetKo at h; split at h
      · exact ⟨h.1, h.2.1, hk _ _ h.2.2⟩
      · exact h.elim
    · exact h.elim
end
end Go.Ab
/- Regions folded into expressions: the fold of a whole region, and that it keeps what is shown. Over any program; no condition. -/
namespace Go.Ab
open Go

def pathE (σ : Sg) : Path → Path → Option (List (E × Bool))
  | _, [] => some []
  | dn, (g, b) :: r => match ent σ g with
    | some (q, e) => if q.isPrefixOf dn then (match pathE σ (dn ++ [(g, b)]) r with | some l => some ((e, b) :: l) | none => none) else none
    | none => none
def chk1 (σ : Sg) (f : E → E) (k : Nat) : Option It2 := match ent σ k with
  | some (p, e) => match pathE σ [] p with
    | some l => some (.chk l (f e))
    | none => none
  | none => none
def chks (σ : Sg) (f : E → E) : List Nat → Option (List It2)
  | [] => some []
  | k :: r => match chk1 σ f k, chks σ f r with
    | some c, some l => some (c :: l)
    | _, _ => none
def bw (e : E) : E := .ite e (.a (.bool true)) (.a (.bool true))
def delG (σ : Sg) (k : Nat) : Sg := σ.filter fun x => x.1 != k
def noMen (σ : Sg) (k : Nat) : Bool := σ.all fun x => match x.2 with
  | some (_, e) => !e.men k
  | none => true
def noRd (σ : Sg) : Bool := σ.all fun x => match x.2 with
  | some (_, e) => !e.rd
  | none => true
def mat1 (σ : Sg) (k : Nat) : Option (It2 × Sg) := match lookG σ k with
  | some (some (p, e)) => match pathE σ [] p with
    | some l => if noMen (delG σ k) k then some (.lt k l e, delG σ k) else none
    | none => none
  | _ => none
def mats : List Nat → Sg → Option (List It2 × Sg)
  | [], σ => some ([], σ)
  | k :: r, σ => match mat1 σ k with
    | some (i, σ') => match mats r σ' with
      | some (l, σ'') => some (i :: l, σ'')
      | none => none
    | none => none
def kill (lv : List Nat) : Sg → Sg
  | [] => []
  | (k, x) :: r => (if lv.contains k then (k, x) else (k, none)) :: kill lv r
def liveL : List It → List Nat
  | [] => []
  | .op _ i :: r => i.slots ++ liveL r
  | .gop g _ _ i :: r => g :: (i.slots ++ liveL r)
def needs (σ : Sg) (s : List Nat) (d : Option Nat) : List Nat := (σ.filter fun x => match x.2 with
  | some (_, e) => s.contains x.1 || e.rd || (match d with | some k => x.1 != k && e.men k | none => false)
  | none => false).map (·.1)
def It.d : It → Option Nat
  | .op d _ => d
  | .gop _ _ d _ => d
def It.i : It → I
  | .op _ i => i
  | .gop _ _ _ i => i
def It.path (σ : Sg) : It → Option (Path × List Nat)
  | .op _ _ => some ([], [])
  | .gop g b _ _ => match ent σ g with
    | some (q, _) => some (q ++ [(g, b)], [g])
    | none => none
def It.eff (l : List (E × Bool)) : It → It2
  | .op d i => .op d i
  | .gop _ _ d i => .gop l d i
def delO (σ : Sg) : Option Nat → Sg
  | some k => delG σ k
  | none => σ
def freeO (σ : Sg) (p : Path) : Option Nat → Bool
  | some k => noMen (delG σ k) k && gfree (delG σ k) k && noGuard k p
  | none => true
def keeps (σ : Sg) : List Nat → Option (List (Nat × E))
  | [] => some []
  | k :: r => match ent σ k, keeps σ r with
    | some ([], e), some l => some ((k, e) :: l)
    | _, _ => none
def addP (e : E) (k : Nat) (l : List Nat) : List Nat := if e.isA then l else k :: l

def liftR (fs keep pk : List Nat) : List It → Sg → List Nat → List Nat → Option (List It2 × List (Nat × E))
  | [], σ, pe, pg => match chks σ id (pe.filter fun k => !keep.contains k), chks σ bw pg, keeps σ keep with
    | some c1, some c2, some kp => some (c1 ++ c2, kp)
    | _, _, _ => none
  | it :: r, σ, pe, pg => match it.path σ with
    | none => none
    | some (p, gs) => match it.d, it.i.lift fs σ p with
      | some k, some e => if gfree (delG σ k) k && noGuard k p && !pe.contains k && !(gs ++ pg).contains k then
          liftR fs keep pk r ((k, some (p, e)) :: delG σ k) (addP e k (pe.filter fun j => !(it.i.cons σ p).contains j)) ((gs ++ pg).filter fun j => !(it.i.gcons σ p).contains j)
        else none
      | d, _ => match chks σ id pe, chks σ bw (gs ++ pg) with
        | some c1, some c2 => match mats (needs (kill (it.i.slots ++ (p.map (·.1) ++ (liveL r ++ keep))) σ) it.i.slots d) (kill (it.i.slots ++ (p.map (·.1) ++ (liveL r ++ keep))) σ) with
          | some (ms, σ2) => match pathE σ2 [] p with
            | some l => if (it.i.slots.all fun k => (lookG σ2 k).isNone) && freeO σ2 p d && noRd σ2 && (pk.all fun k => (lookG σ2 k).isNone) then
                match liftR fs keep pk r (delO σ2 d) [] [] with
                | some (t, kp) => some (c1 ++ (c2 ++ (ms ++ (it.eff l :: t))), kp)
                | none => none
              else none
            | none => none
          | none => none
        | _, _ => none

section
variable {P : Prg} {T : Tab} {σ : Sg} {sl sl0 : Slots} {ob : Objs} {p : Path} {K : Slots → Objs → Prop} {Pn : V → Slots → Objs → Prop}

theorem pathE_holds (hI : Inv T σ sl sl0 ob) : ∀ (r dn : Path) (l : List (E × Bool)), pathE σ dn r = some l → holdsS sl dn = true → holdsS sl r = holdsB T sl0 ob l
  | [], dn, l, h, _ => by simp only [pathE] at h; cases h; rfl
  | (g, b) :: r, dn, l, h, hd => by
    simp only [pathE] at h
    split at h
    · rename_i q e he
      split at h
      · rename_i hq
        split at h
        · rename_i l' hl
          cases h
          have hv := (hI g q e he).1 (holds_prefix hq hd)
          simp only [holdsS, holdsB, List.all_cons, hv]
          cases hb : isB b (e.val T sl0 ob) with
          | false => rfl
          | true =>
            have := pathE_holds hI r _ l' hl (by rw [holds_snoc, hd, hv, hb]; rfl)
            simpa [holdsS, holdsB] using this
        · cases h
      · cases h
    · cases h

theorem chks_sound (hI : Inv T σ sl sl0 ob) {f : E → E} : ∀ {ks : List Nat} {cs l : List It2}, chks σ f ks = some cs → rwp2 P T K Pn (cs ++ l) sl0 ob →
    (∀ k ∈ ks, ∀ p e, ent σ k = some (p, e) → holdsS sl p = true → (f e).ok T sl0 ob) ∧ rwp2 P T K Pn l sl0 ob
  | [], cs, l, h, hr => by simp only [chks] at h; cases h; exact ⟨fun _ h => (by cases h), hr⟩
  | k :: r, cs, l, h, hr => by
    simp only [chks] at h
    split at h
    · rename_i c l' hc hl
      cases h
      unfold chk1 at hc
      split at hc
      · rename_i p e he
        split at hc
        · rename_i lp hp
          cases hc
          simp only [List.cons_append, rwp2] at hr
          obtain ⟨h1, h2⟩ := chks_sound hI hl hr.2
          refine ⟨fun j hj q e' he' hq => ?_, h2⟩
          rcases List.mem_cons.mp hj with rfl | hj
          · rw [he] at he'; cases he'
            exact hr.1 (by rw [← pathE_holds hI _ _ _ hp rfl]; exact hq)
          · exact h1 j hj q e' he' hq
        · cases hc
      · cases hc
    · cases h

theorem lookG_del_eq : ∀ {σ : Sg} {k : Nat}, lookG (delG σ k) k = none
  | [], _ => rfl
  | (j, x) :: r, k => by
    have ih := lookG_del_eq (σ := r) (k := k)
    simp only [delG] at ih ⊢
    by_cases h : j = k
    · subst h; simp [ih]
    · simp [h, lookG, ih]
theorem lookG_del_ne {k j : Nat} (h : k ≠ j) : ∀ {σ : Sg}, lookG (delG σ k) j = lookG σ j
  | [] => rfl
  | (i, x) :: r => by
    have ih := lookG_del_ne h (σ := r)
    simp only [delG] at ih ⊢
    by_cases hi : i = k
    · subst hi; simp [ih, lookG, h]
    · simp [hi, lookG, ih]
theorem ent_del_eq {k : Nat} : ent (delG σ k) k = some ([], .a (.t k)) := by simp [ent, lookG_del_eq]
theorem ent_del_ne {k j : Nat} (h : k ≠ j) : ent (delG σ k) j = ent σ j := by simp [ent, lookG_del_ne h]
theorem noMen_look : ∀ {σ : Sg} {d k : Nat} {p : Path} {e : E}, noMen σ d = true → lookG σ k = some (some (p, e)) → e.men d = false
  | [], _, _, _, _, _, h => by simp [lookG] at h
  | (j, x) :: r, d, k, p, e, hg, h => by
    simp only [noMen, List.all_cons, Bool.and_eq_true] at hg
    simp only [lookG] at h
    split at h
    · cases h; simpa using hg.1
    · exact noMen_look (σ := r) hg.2 h
theorem noRd_look : ∀ {σ : Sg} {k : Nat} {p : Path} {e : E}, noRd σ = true → lookG σ k = some (some (p, e)) → e.rd = false
  | [], _, _, _, _, h => by simp [lookG] at h
  | (j, x) :: r, k, p, e, hg, h => by
    simp only [noRd, List.all_cons, Bool.and_eq_true] at hg
    simp only [lookG] at h
    split at h
    · cases h; simpa using hg.1
    · exact noRd_look (σ := r) hg.2 h
theorem noRd_ent {k : Nat} {e : E} (hg : noRd σ = true) (h : ent σ k = some (p, e)) : e.rd = false := by
  unfold ent at h
  split at h
  · cases h; rfl
  · rename_i x hx; subst h; exact noRd_look hg hx
theorem noMen_ent {d k : Nat} {e : E} (hg : noMen (delG σ d) d = true) (hd : d ≠ k) (h : ent σ k = some (p, e)) : e.men d = false := by
  rw [← ent_del_ne hd] at h
  unfold ent at h
  split at h
  · cases h; simp [E.men, A.men]; exact fun e => hd e.symm
  · rename_i x hx; subst h; exact noMen_look hg hx

theorem mats_sound : ∀ {ks : List Nat} {σ σ' : Sg} {sl0 : Slots} {ms l : List It2}, Inv T σ sl sl0 ob → mats ks σ = some (ms, σ') → rwp2 P T K Pn (ms ++ l) sl0 ob → ∃ sl0', Inv T σ' sl sl0' ob ∧ rwp2 P T K Pn l sl0' ob
  | [], σ, σ', sl0, ms, l, hI, h, hr => by simp only [mats] at h; cases h; exact ⟨sl0, hI, hr⟩
  | k :: r, σ, σ', sl0, ms, l, hI, h, hr => by
    simp only [mats] at h
    split at h
    · rename_i i σ1 h1
      split at h
      · rename_i l' σ2 h2
        cases h
        unfold mat1 at h1
        split at h1
        · rename_i p e he
          split at h1
          · rename_i lp hp
            split at h1
            · rename_i hm
              cases h1
              simp only [List.cons_append, rwp2] at hr
              refine mats_sound ?_ h2 hr.2
              have hk := hI k p e (by simp [ent, he])
              have hh := pathE_holds hI _ _ _ hp rfl
              intro j q e' he'
              by_cases hj : k = j
              · subst hj
                rw [ent_del_eq] at he'; cases he'
                simp only [holdsS, List.all_nil, E.val, A.ev, look, if_true]
                refine ⟨fun _ => ?_, fun h => (by cases h)⟩
                rw [← hh]
                cases hs : holdsS sl p with
                | true => rw [hk.1 hs]; rfl
                | false => rw [hk.2 hs]; rfl
              · rw [ent_del_ne hj] at he'
                rw [E.val_sl (noMen_ent hm hj he')]
                exact hI j q e' he'
            · cases h1
          · cases h1
        · cases h1
      · cases h
    · cases h

theorem kill_ent {lv : List Nat} : ∀ {σ : Sg} {k : Nat} {e : E}, ent (kill lv σ) k = some (p, e) → ent σ k = some (p, e)
  | [], _, _, h => h
  | (j, x) :: r, k, e, h => by
    by_cases hj : j = k
    · subst hj
      rw [ent_cons_eq]
      simp only [kill] at h
      split at h
      · rwa [ent_cons_eq] at h
      · rw [ent_cons_eq] at h; cases h
    · rw [ent_cons_ne hj]
      simp only [kill] at h
      refine kill_ent (lv := lv) (σ := r) ?_
      split at h
      · rwa [ent_cons_ne hj] at h
      · rwa [ent_cons_ne hj] at h
theorem Inv.kill {lv : List Nat} (hI : Inv T σ sl sl0 ob) : Inv T (kill lv σ) sl sl0 ob := fun k p e h => hI k p e (kill_ent h)

theorem Inv.fold' (hI : Inv T σ sl sl0 ob) {k : Nat} {e : E} (hg : gfree (delG σ k) k = true) (hp : noGuard k p = true) {v : V} (h1 : holdsS sl p = true → v = e.val T sl0 ob) (h2 : holdsS sl p = false → v = .undef) :
    Inv T ((k, some (p, e)) :: delG σ k) ((k, v) :: sl) sl0 ob := by
  intro j q e' he
  by_cases hj : k = j
  · subst hj
    rw [ent_cons_eq] at he; cases he
    rw [holds_put hp]
    simp only [look, if_true]
    exact ⟨h1, h2⟩
  · rw [ent_cons_ne hj] at he
    rw [holds_put (gfree_ent hg he)]
    rw [ent_del_ne hj] at he
    simp only [look, hj, if_false]
    exact hI j q e' he

theorem Inv.eff (hI : Inv T σ sl sl0 ob) {d : Option Nat} (hf : freeO σ p d = true) (hr : noRd σ = true) {v : V} {ob' : Objs} : Inv T (delO σ d) (put sl d v) (put sl0 d v) ob' := by
  cases d with
  | none =>
    intro j q e he
    rw [E.val_ob (ob' := ob) (noRd_ent hr he)]
    exact hI j q e he
  | some k =>
    simp only [freeO, Bool.and_eq_true] at hf
    intro j q e he
    simp only [put, delO] at he ⊢
    by_cases hj : k = j
    · subst hj
      rw [ent_del_eq] at he; cases he
      simp [holdsS, E.val, A.ev, look]
    · have he' := he
      rw [holds_put (gfree_ent hf.1.2 he')]
      rw [ent_del_ne hj] at he
      rw [E.val_sl (noMen_ent hf.1.1 hj he), E.val_ob (ob' := ob) (noRd_ent hr he)]
      simp only [look, hj, if_false]
      exact hI j q e he
theorem keeps_sound (hI : Inv T σ sl sl0 ob) : ∀ {keep : List Nat} {kp : List (Nat × E)}, keeps σ keep = some kp → keepE T sl0 ob kp = keepS sl keep ∧ (keepOk T sl0 ob kp → ∀ k ∈ keep, ∀ p e, ent σ k = some (p, e) → e.ok T sl0 ob)
  | [], kp, h => by simp only [keeps] at h; cases h; exact ⟨rfl, fun _ _ h => (by cases h)⟩
  | k :: r, kp, h => by
    simp only [keeps] at h
    split at h
    · rename_i e l he hl
      cases h
      obtain ⟨h1, h2⟩ := keeps_sound hI hl
      refine ⟨by simp only [keepE, keepS, h1, (hI k [] e he).1 rfl], fun ho j hj p e' he' => ?_⟩
      rcases List.mem_cons.mp hj with rfl | hj
      · rw [he] at he'; cases he'; exact ho.1
      · exact h2 ho.2 j hj p e' he'
    · cases h

def PendOk (T : Tab) (σ : Sg) (pe pg : List Nat) (sl sl0 : Slots) (ob : Objs) : Prop :=
  (∀ k ∈ pe, ∀ p e, ent σ k = some (p, e) → holdsS sl p = true → e.ok T sl0 ob) ∧
  (∀ k ∈ pg, ∀ p e, ent σ k = some (p, e) → holdsS sl p = true → boolV (e.val T sl0 ob))

theorem pend_step {fs : List Nat} {i : I} {k : Nat} {e : E} {pe pg : List Nat} {v : V} (hI : Inv T σ sl sl0 ob) (he : i.lift fs σ p = some e) (c1 : gfree (delG σ k) k = true) (c2 : noGuard k p = true) (c3 : k ∉ pe) (c4 : k ∉ pg)
    (h : PendOk T ((k, some (p, e)) :: delG σ k) (addP e k (pe.filter fun j => !(i.cons σ p).contains j)) (pg.filter fun j => !(i.gcons σ p).contains j) ((k, v) :: sl) sl0 ob) :
    PendOk T σ pe pg sl sl0 ob ∧ (holdsS sl p = true → e.ok T sl0 ob) := by
  obtain ⟨a1, a2⟩ := h
  have hok : holdsS sl p = true → e.ok T sl0 ob := fun hh => by
    cases hA : e.isA with
    | true => cases e <;> simp [E.isA] at hA; trivial
    | false => exact a1 k (by simp [addP, hA]) p e ent_cons_eq (by rw [holds_put c2]; exact hh)
  refine ⟨⟨fun j hj q e' he' hq => ?_, fun j hj q e' he' hq => ?_⟩, hok⟩
  · by_cases hm : j ∈ i.cons σ p
    · exact I.cov hI he hm he' hq hok
    · have hkj : k ≠ j := fun e => c3 (e ▸ hj)
      refine a1 j ?_ q e' (by rw [ent_cons_ne hkj, ent_del_ne hkj]; exact he') ?_
      · simp only [addP]; split <;> simp [hj, hm]
      · rw [holds_put]; exact hq
        exact gfree_ent c1 (by rw [ent_del_ne hkj]; exact he')
  · by_cases hm : j ∈ i.gcons σ p
    · exact I.gcov he hm he' hq hok
    · have hkj : k ≠ j := fun e => c4 (e ▸ hj)
      refine a2 j ?_ q e' (by rw [ent_cons_ne hkj, ent_del_ne hkj]; exact he') ?_
      · simp only [List.mem_filter]; exact ⟨hj, by simp [hm]⟩
      · rw [holds_put]; exact hq
        exact gfree_ent c1 (by rw [ent_del_ne hkj]; exact he')

theorem pend_ok {fs keep pk : List Nat} : ∀ (its : List It) {σ : Sg} {pe pg : List Nat} {sl sl0 : Slots} {ob : Objs} {l : List It2} {kp : List (Nat × E)}, Inv T σ sl sl0 ob → liftR fs keep pk its σ pe pg = some (l, kp) →
    rwp2 P T (fun sl ob => keepOk T sl ob kp ∧ K (keepE T sl ob kp) ob) Pn l sl0 ob → PendOk T σ pe pg sl sl0 ob
  | [], σ, pe, pg, sl, sl0, ob, l, kp, hI, h, hr => by
    simp only [liftR] at h
    split at h
    · rename_i c1 c2 kp' h1 h2 h3
      cases h
      obtain ⟨a1, hr⟩ := chks_sound hI h1 hr
      obtain ⟨a2, hr⟩ := chks_sound hI (l := []) h2 (by simpa using hr)
      simp only [rwp2] at hr
      obtain ⟨_, a3⟩ := keeps_sound hI h3
      refine ⟨fun k hk p e he hp => ?_, fun k hk p e he hp => (a2 k hk p e he hp).2.1⟩
      by_cases hm : k ∈ keep
      · exact a3 hr.1 k hm p e he
      · exact a1 k (by simp [hk, hm]) p e he hp
    · cases h
  | it :: r, σ, pe, pg, sl, sl0, ob, l, kp, hI, h, hr => by
    simp only [liftR] at h
    split at h
    · cases h
    · rename_i p gs hp
      split at h
      · rename_i k e hd he
        split at h
        · rename_i hc
          simp only [Bool.and_eq_true, Bool.not_eq_true', List.contains_eq_mem, decide_eq_false_iff_not] at hc
          obtain ⟨⟨⟨c1, c2⟩, c3⟩, c4⟩ := hc
          have hI' := hI.fold' (e := e) c1 c2 (v := whenV (holdsS sl p) (e.val T sl0 ob)) (fun h => by rw [h]; rfl) (fun h => by rw [h]; rfl)
          obtain ⟨a, _⟩ := pend_step hI he c1 c2 c3 c4 (pend_ok r hI' h hr)
          exact ⟨a.1, fun j hj => a.2 j (List.mem_append.mpr (.inr hj))⟩
        · cases h
      · split at h
        · rename_i c1 c2 h1 h2
          split at h
          · split at h
            · split at h
              · split at h
                · cases h
                  obtain ⟨a1, hr⟩ := chks_sound hI h1 hr
                  obtain ⟨a2, hr⟩ := chks_sound hI h2 hr
                  exact ⟨a1, fun k hk p e he hp => (a2 k (List.mem_append.mpr (.inr hk)) p e he hp).2.1⟩
                · cases h
              · cases h
            · cases h
          · cases h
        · cases h
end
end Go.Ab
/- Statements over folded regions. Over any program; no condition. -/
namespace Go.Ab
open Go

theorem keepS_eq {sl sl' : Slots} : ∀ {ks : List Nat}, (∀ k ∈ ks, look sl k = look sl' k) → keepS sl ks = keepS sl' ks
  | [], _ => rfl
  | k :: r, h => by simp only [keepS]; rw [h k (by simp), keepS_eq (fun j hj => h j (by simp [hj]))]

theorem liftR_sound {P : Prg} {T : Tab} (hT : TOk P T) {fs keep pk : List Nat} {K K' : Slots → Objs → Prop} {Pn Pn' : V → Slots → Objs → Prop} (hK : ∀ s o, K s o → K' s o) (hP : ∀ v s o, Pn v s o → Pn' v s o) :
    ∀ (its : List It) {σ : Sg} {pe pg : List Nat} {sl sl0 : Slots} {ob : Objs} {l : List It2} {kp : List (Nat × E)}, Inv T σ sl sl0 ob → liftR fs keep pk its σ pe pg = some (l, kp) →
    rwp2 P T (fun sl ob => keepOk T sl ob kp ∧ K (keepE T sl ob kp) ob) (fun v sl ob => Pn v (keepS sl pk) ob) l sl0 ob → rwp P (fun sl ob => K' (keepS sl keep) ob) (fun v sl ob => Pn' v (keepS sl pk) ob) its sl ob
  | [], σ, pe, pg, sl, sl0, ob, l, kp, hI, h, hr => by
    simp only [liftR] at h
    split at h
    · rename_i c1 c2 kp' h1 h2 h3
      cases h
      obtain ⟨_, hr⟩ := chks_sound hI h1 hr
      obtain ⟨_, hr⟩ := chks_sound hI (l := []) h2 (by simpa using hr)
      simp only [rwp2] at hr
      simp only [rwp]
      rw [← (keeps_sound hI h3).1]
      exact hK _ _ hr.2
    · cases h
  | it :: r, σ, pe, pg, sl, sl0, ob, l, kp, hI, h, hr => by
    simp only [liftR] at h
    split at h
    · cases h
    · rename_i p gs hp
      split at h
      · rename_i k e hd he
        split at h
        · rename_i hc
          simp only [Bool.and_eq_true, Bool.not_eq_true', List.contains_eq_mem, decide_eq_false_iff_not] at hc
          obtain ⟨⟨⟨c1, c2⟩, c3⟩, c4⟩ := hc
          have go : ∀ v, (holdsS sl p = true → v = e.val T sl0 ob) → (holdsS sl p = false → v = .undef) → rwp P (fun sl ob => K' (keepS sl keep) ob) (fun v sl ob => Pn' v (keepS sl pk) ob) r ((k, v) :: sl) ob :=
            fun v h1 h2 => liftR_sound hT hK hP r (hI.fold' (e := e) c1 c2 h1 h2) h hr
          have hI' := hI.fold' (e := e) c1 c2 (v := whenV (holdsS sl p) (e.val T sl0 ob)) (fun h => by rw [h]; rfl) (fun h => by rw [h]; rfl)
          obtain ⟨a, hok⟩ := pend_step hI he c1 c2 c3 c4 (pend_ok r hI' h hr)
          cases it with
          | op d i =>
            simp only [It.d] at hd; subst hd
            simp only [It.path] at hp; cases hp
            simp only [rwp]
            exact I.lift_sound hT hI rfl he (hok rfl) (go _ (fun _ => rfl) (fun h => by cases h))
          | gop g b d i =>
            simp only [It.d] at hd; subst hd
            simp only [It.path] at hp
            split at hp
            · rename_i q eg hg
              cases hp
              simp only [rwp]
              cases hq : holdsS sl q with
              | false =>
                rw [(hI g q eg hg).2 hq]
                simp only [gdK]
                exact go _ (fun h => by rw [holds_snoc, hq] at h; cases h) (fun _ => rfl)
              | true =>
                have hv := (hI g q eg hg).1 hq
                have hb := a.2 g (by simp) q eg hg hq
                have hcg : ∀ j, look ((g, look sl g) :: sl) j = look sl j := fun j => by
                  simp only [look]; split
                  · rename_i e; rw [e]
                  · rfl
                have main : ∀ t, look sl g = .d (.bool t) → gdK g b sl (fun sl => I.wp P sl ob (fun v ob' => rwp P (fun sl ob => K' (keepS sl keep) ob) (fun v sl ob => Pn' v (keepS sl pk) ob) r (put sl (some k) v) ob') (fun v ob' => Pn' v (keepS sl pk) ob') i) (fun sl => rwp P (fun sl ob => K' (keepS sl keep) ob) (fun v sl ob => Pn' v (keepS sl pk) ob) r (put sl (some k) .undef) ob) (look sl g) := by
                  intro t ht
                  rw [ht]
                  simp only [gdK]
                  have hh : ∀ u, t = u → Inv T σ ((g, .d (.bool u)) :: sl) sl0 ob := fun u e => by
                    subst e; rw [← ht]; exact hI.congr hcg
                  have hs : ∀ u, t = u → ∀ p, holdsS ((g, .d (.bool u)) :: sl) p = holdsS sl p := fun u e p => by
                    subst e; rw [← ht]; simp only [holdsS, hcg]
                  refine ⟨fun e1 => ?_, fun e1 => ?_⟩
                  · have hp1 : holdsS sl (q ++ [(g, b)]) = true := by rw [holds_snoc, hq, ht, e1]; simp [isB]
                    refine I.lift_sound hT (hh _ e1) (by rw [hs _ e1]; exact hp1) he (hok hp1) ?_
                    refine liftR_sound hT hK hP r ((hh _ e1).fold' (e := e) c1 c2 (fun _ => rfl) (fun h => ?_)) h hr
                    rw [hs _ e1, hp1] at h; cases h
                  · have hp1 : holdsS sl (q ++ [(g, b)]) = false := by rw [holds_snoc, hq, ht, e1]; cases b <;> simp [isB]
                    refine liftR_sound hT hK hP r ((hh _ e1).fold' (e := e) c1 c2 (fun h => ?_) (fun _ => rfl)) h hr
                    rw [hs _ e1, hp1] at h; cases h
                rcases boolV_of hb with hb | hb
                · exact main true (by rw [hv, hb])
                · exact main false (by rw [hv, hb])
            · cases hp
        · cases h
      · rename_i d x hd hx
        split at h
        · rename_i c1 c2 h1 h2
          split at h
          · rename_i ms σ2 hm
            split at h
            · rename_i lp hl
              split at h
              · rename_i hc
                simp only [Bool.and_eq_true, List.all_eq_true, Option.isNone_iff_eq_none] at hc
                obtain ⟨⟨⟨d1, d2⟩, d3⟩, d4⟩ := hc
                split at h
                · rename_i t kp' ht
                  cases h
                  obtain ⟨_, hr⟩ := chks_sound hI h1 hr
                  obtain ⟨a2, hr⟩ := chks_sound hI h2 hr
                  obtain ⟨sl1, hI1, hr⟩ := mats_sound hI.kill hm hr
                  have hlook : ∀ {s}, Inv T σ2 s sl1 ob → ∀ k, lookG σ2 k = none → look s k = look sl1 k := fun hI k hk => (hI k [] (.a (.t k)) (by simp [ent, hk])).1 rfl
                  have hkeep : ∀ {s}, Inv T σ2 s sl1 ob → keepS s pk = keepS sl1 pk := fun {s} hI => by
                    exact keepS_eq fun k hk => hlook hI k (d4 k hk)
                  have step : ∀ {s}, Inv T σ2 s sl1 ob → it.i.wp P sl1 ob (fun v ob' => rwp2 P T (fun sl ob => keepOk T sl ob kp ∧ K (keepE T sl ob kp) ob) (fun v sl ob => Pn v (keepS sl pk) ob) t (put sl1 it.d v) ob') (fun v ob' => Pn v (keepS sl1 pk) ob') →
                      it.i.wp P s ob (fun v ob' => rwp P (fun sl ob => K' (keepS sl keep) ob) (fun v sl ob => Pn' v (keepS sl pk) ob) r (put s it.d v) ob') (fun v ob' => Pn' v (keepS s pk) ob') := fun {s} hI h => by
                    rw [I.wp_eq (sl' := sl1) (fun k hk => hlook hI k (d1 k hk))]
                    refine I.wp_mono (fun v b hv => ?_) (fun v b hv => ?_) h
                    · exact liftR_sound hT hK hP r (hI.eff d2 d3) ht hv
                    · rw [hkeep hI]; exact hP _ _ _ hv
                  cases it with
                  | op d' i =>
                    simp only [It.eff, rwp2] at hr
                    simp only [rwp]
                    exact step hI1 hr
                  | gop g b d' i =>
                    simp only [It.eff, rwp2] at hr
                    simp only [It.path] at hp
                    split at hp
                    · rename_i q eg hg
                      cases hp
                      have hh := pathE_holds hI1 _ _ _ hl rfl
                      have none' : ∀ {s}, Inv T σ2 s sl1 ob → holdsS sl (q ++ [(g, b)]) = false → rwp P (fun sl ob => K' (keepS sl keep) ob) (fun v sl ob => Pn' v (keepS sl pk) ob) r (put s d' .undef) ob := fun {s} hI hf =>
                        liftR_sound hT hK hP r (hI.eff d2 d3) ht (hr.2 (by rw [← hh]; exact hf))
                      simp only [rwp]
                      cases hq : holdsS sl q with
                      | false =>
                        rw [(hI g q eg hg).2 hq]
                        simp only [gdK]
                        exact none' hI1 (by rw [holds_snoc, hq]; rfl)
                      | true =>
                        have hv := (hI g q eg hg).1 hq
                        have hb := (a2 g (by simp) q eg hg hq).2.1
                        have hcg : ∀ j, look ((g, look sl g) :: sl) j = look sl j := fun j => by
                          simp only [look]; split
                          · rename_i e; rw [e]
                          · rfl
                        have main : ∀ u, look sl g = .d (.bool u) → gdK g b sl (fun sl => I.wp P sl ob (fun v ob' => rwp P (fun sl ob => K' (keepS sl keep) ob) (fun v sl ob => Pn' v (keepS sl pk) ob) r (put sl d' v) ob') (fun v ob' => Pn' v (keepS sl pk) ob') i) (fun sl => rwp P (fun sl ob => K' (keepS sl keep) ob) (fun v sl ob => Pn' v (keepS sl pk) ob) r (put sl d' .undef) ob) (look sl g) := by
                          intro u hu
                          rw [hu]
                          simp only [gdK]
                          have hh2 : ∀ w, u = w → Inv T σ2 ((g, .d (.bool w)) :: sl) sl1 ob := fun w e => by
                            subst e; rw [← hu]; exact hI1.congr hcg
                          refine ⟨fun e1 => ?_, fun e1 => ?_⟩
                          · exact step (hh2 _ e1) (hr.1 (by rw [← hh, holds_snoc, hq, hu, e1]; simp [isB]))
                          · exact none' (hh2 _ e1) (by rw [holds_snoc, hq, hu, e1]; cases b <;> simp [isB])
                        rcases boolV_of hb with hb | hb
                        · exact main true (by rw [hv, hb])
                        · exact main false (by rw [hv, hb])
                    · cases hp
                · cases h
              · cases h
            · cases h
          · cases h
        · cases h

theorem itK_mono {P : Prg} {n n' : Slots → Objs → Prop} {Pn Pn' : V → Slots → Objs → Prop} (hn : ∀ sl ob, n sl ob → n' sl ob) (hp : ∀ v sl ob, Pn v sl ob → Pn' v sl ob) : ∀ (x : It) (sl : Slots) (ob : Objs), itK P n Pn x sl ob → itK P n' Pn' x sl ob
  | .op d i, sl, ob, h => by
    simp only [itK] at h ⊢
    exact I.wp_mono (fun _ _ h => hn _ _ h) (fun _ _ h => hp _ _ _ h) h
  | .gop s want d i, sl, ob, h => by
    simp only [itK] at h ⊢
    generalize look sl s = v at h ⊢
    unfold gdK at h; split at h
    · exact ⟨fun e => I.wp_mono (fun _ _ h => hn _ _ h) (fun _ _ h => hp _ _ _ h) (h.1 e), fun e => hn _ _ (h.2 e)⟩
    · exact hn _ _ h
    · exact h.elim
mutual
theorem owp_mono {P : Prg} {K K' : Slots → Objs → Prop} {Pn Pn' : V → Slots → Objs → Prop} (hk : ∀ sl ob, K sl ob → K' sl ob) (hp : ∀ v sl ob, Pn v sl ob → Pn' v sl ob) : ∀ (t : Ot) (sl : Slots) (ob : Objs), owp P K Pn t sl ob → owp P K' Pn' t sl ob
  | .done, sl, ob, h => by simp only [owp] at h ⊢; exact hk _ _ h
  | .one _ x r, sl, ob, h => by simp only [owp] at h ⊢; exact itK_mono (fun sl ob h => owp_mono hk hp r sl ob h) hp x sl ob h
  | .br l, sl, ob, h => by simp only [owp] at h ⊢; exact owps_mono hk hp l sl ob h
theorem owps_mono {P : Prg} {K K' : Slots → Objs → Prop} {Pn Pn' : V → Slots → Objs → Prop} (hk : ∀ sl ob, K sl ob → K' sl ob) (hp : ∀ v sl ob, Pn v sl ob → Pn' v sl ob) : ∀ (t : Ots) (sl : Slots) (ob : Objs), owps P K Pn t sl ob → owps P K' Pn' t sl ob
  | .nil, sl, ob, h => by simp only [owps]
  | .cons _ x r l, sl, ob, h => by
    simp only [owps] at h ⊢
    exact ⟨itK_mono (fun sl ob h => owp_mono hk hp r sl ob h) hp x sl ob h.1, owps_mono hk hp l sl ob h.2⟩
end

inductive S2 where
  | rg (l : List It2) (keep : List (Nat × E)) (pk : List Nat)
  | rgT (t : Ot) (keep pk : List Nat)
  | seq (a b : S2)
  | skip
  | cond (c : A) (a b : S2)
  | block (n : Nat) (a : S2)
  | loop (keep : List Nat) (a : S2)
  | exit (n : Nat)
  | ret

def cwp2 (P : Prg) (T : Tab) : S2 → Post → Slots → Objs → Prop
  | .rg l keep pk, Q, sl, ob => rwp2 P T (fun sl ob => keepOk T sl ob keep ∧ Q .normal (keepE T sl ob keep) ob) (fun v sl ob => Q (.panic v) (keepS sl pk) ob) l sl ob
  | .rgT t keep pk, Q, sl, ob => owp P (fun sl ob => Q .normal (keepS sl keep) ob) (fun v sl ob => Q (.panic v) (keepS sl pk) ob) t sl ob
  | .seq a b, Q, sl, ob => cwp2 P T a (thenK (cwp2 P T b Q) Q) sl ob
  | .skip, Q, sl, ob => Q .normal sl ob
  | .cond c a b, Q, sl, ob => condK (cwp2 P T a Q sl ob) (cwp2 P T b Q sl ob) (c.ev sl)
  | .block n a, Q, sl, ob => cwp2 P T a (blockK n Q) sl ob
  | .loop keep a, Q, sl, ob => ALoop keep (cwp2 P T a) Q sl ob
  | .exit n, Q, sl, ob => Q (.exit n) sl ob
  | .ret, Q, sl, ob => Q .ret sl ob

def S.lift (fs : List Nat) : S → Option S2
  | .rg _ l keep pk => match liftR fs keep pk l [] [] [] with
    | some (l, kp) => some (.rg l kp pk)
    | none => none
  | .rgT _ t keep pk => some (.rgT t keep pk)
  | .seq a b => match a.lift fs, b.lift fs with
    | some a, some b => some (.seq a b)
    | _, _ => none
  | .skip => some .skip
  | .cond c a b => match a.lift fs, b.lift fs with
    | some a, some b => some (.cond c a b)
    | _, _ => none
  | .block n a => match a.lift fs with
    | some a => some (.block n a)
    | none => none
  | .loop keep a => match a.lift fs with
    | some a => some (.loop keep a)
    | none => none
  | .exit n => some (.exit n)
  | .ret => some .ret

theorem S.lift_sound {P : Prg} {T : Tab} (hT : TOk P T) {fs : List Nat} : ∀ (s : S) {s2 : S2} {Q Q' : Post} {sl : Slots} {ob : Objs}, s.lift fs = some s2 → (∀ e sl ob, Q e sl ob → Q' e sl ob) → cwp2 P T s2 Q sl ob → cwp P s Q' sl ob
  | .rg o l keep pk, s2, Q, Q', sl, ob, h, hQ, hc => by
    simp only [S.lift] at h
    split at h
    · rename_i l' kp hl
      cases h
      simp only [cwp2] at hc
      simp only [cwp]
      exact liftR_sound hT (K := fun sl ob => Q .normal sl ob) (Pn := fun v sl ob => Q (.panic v) sl ob) (fun _ _ h => hQ _ _ _ h) (fun _ _ _ h => hQ _ _ _ h) l
        (fun k p e h => by simp [ent, lookG] at h; obtain ⟨rfl, rfl⟩ := h; exact ⟨fun _ => rfl, fun h => by cases h⟩) hl hc
    · cases h
  | .rgT n t keep pk, s2, Q, Q', sl, ob, h, hQ, hc => by
    simp only [S.lift] at h
    cases h
    simp only [cwp2] at hc
    simp only [cwp]
    exact owp_mono (fun _ _ h => hQ _ _ _ h) (fun _ _ _ h => hQ _ _ _ h) t sl ob hc
  | .seq a b, s2, Q, Q', sl, ob, h, hQ, hc => by
    simp only [S.lift] at h
    split at h
    · rename_i a' b' ha hb
      cases h
      simp only [cwp2] at hc
      simp only [cwp]
      refine S.lift_sound hT a ha (fun e sl ob h => ?_) hc
      cases e with
      | normal => exact S.lift_sound hT b hb hQ h
      | _ => exact hQ _ _ _ h
    · cases h
  | .skip, s2, Q, Q', sl, ob, h, hQ, hc => by simp only [S.lift] at h; cases h; exact hQ _ _ _ hc
  | .cond c a b, s2, Q, Q', sl, ob, h, hQ, hc => by
    simp only [S.lift] at h
    split at h
    · rename_i a' b' ha hb
      cases h
      simp only [cwp2] at hc
      simp only [cwp]
      generalize c.ev sl = v at hc ⊢
      unfold condK at hc; split at hc
      · exact ⟨fun e => S.lift_sound hT a ha hQ (hc.1 e), fun e => S.lift_sound hT b hb hQ (hc.2 e)⟩
      · exact hc.elim
    · cases h
  | .block n a, s2, Q, Q', sl, ob, h, hQ, hc => by
    simp only [S.lift] at h
    split at h
    · rename_i a' ha
      cases h
      simp only [cwp2] at hc
      simp only [cwp]
      refine S.lift_sound hT a ha (fun e sl ob h => ?_) hc
      cases e with
      | exit m =>
        simp only [blockK] at h ⊢
        split
        · rename_i e; rw [if_pos e] at h; exact hQ _ _ _ h
        · rename_i e; rw [if_neg e] at h; exact hQ _ _ _ h
      | _ => exact hQ _ _ _ h
    · cases h
  | .loop keep a, s2, Q, Q', sl, ob, h, hQ, hc => by
    simp only [S.lift] at h
    split at h
    · rename_i a' ha
      cases h
      simp only [cwp2] at hc
      simp only [cwp]
      obtain ⟨ι, S, O, I, μ, i0, h1, h2, h3, h4⟩ := hc.run
      refine ⟨⟨ι, S, O, I, μ, i0, h1, h2, h3, fun i hi => S.lift_sound hT a ha (fun e sl ob h => ?_) (h4 i hi)⟩⟩
      cases e with
      | normal => exact h
      | _ => exact hQ _ _ _ h
    · cases h
  | .exit n, s2, Q, Q', sl, ob, h, hQ, hc => by simp only [S.lift] at h; cases h; exact hQ _ _ _ hc
  | .ret, s2, Q, Q', sl, ob, h, hQ, hc => by simp only [S.lift] at h; cases h; exact hQ _ _ _ hc
end Go.Ab
