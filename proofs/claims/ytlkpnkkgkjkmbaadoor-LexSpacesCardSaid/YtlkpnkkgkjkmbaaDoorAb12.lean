/- That append does what Ab9 says of it. Over any program; no condition. -/
import Derived.Test.YtlkpnkkgkjkmbaaDoorAb11
namespace Go.Ab
open Go
section
variable {P : Program} {a : Act} {w : World} {ρ : Env} {sl : Slots} {ob : Objs} {K Pn : V → Objs → Prop}

theorem ins_self {id : Nat} {o : RO} : (ρ.ins id o).m id = some o := by simp [Env.ins]

theorem growBy_le (n : Nat) : ∀ (r c : Nat), c ≤ 2 * n + 192 → Builtin.growBy n r c ≤ 2 * n + 192
  | 0, c, h => by simpa [Builtin.growBy] using h
  | r + 1, c, h => by
    simp only [Builtin.growBy]
    split
    · exact h
    · exact growBy_le n r _ (by omega)

theorem nextcap_le {need cap : Nat} (h : cap < need) : Builtin.nextslicecap need cap ≤ 2 * need + 192 := by
  unfold Builtin.nextslicecap
  split
  · omega
  · split
    · omega
    · exact growBy_le need 4 cap (by omega)

/-- what is appended, read -/
theorem src_run {sz : Nat} {v : V} {x : Value} {K : List D → Prop} (hv : v.rep w ρ x) (h : srcK sz K v) :
    ∃ ys vs, K ys ∧ D.repL w (own ρ) ys vs ∧ (∀ y ∈ ys, y.sz = sz) ∧ (∀ w', (Builtin.lenOf x).run P w' = .ok ys.length w') ∧ ∀ w', w'.heap = w.heap → (Builtin.firstCells sz ys.length x).run P w' = .ok vs.toArray w' := by
  unfold srcK at h
  split at h
  · rename_i z ys
    obtain ⟨rfl, h⟩ := h
    rw [rep_list] at hv
    rcases hv with ⟨rfl, rfl⟩ | ⟨ad, cap, vs, rfl, hcap, hce, hre, hu⟩
    · exact ⟨[], [], h, by simp [D.repL], by simp, fun w' => by simp [Builtin.lenOf], fun w' _ => by simp [Builtin.firstCells]⟩
    · refine ⟨ys, vs, h, hre, hu, fun w' => by simp [Builtin.lenOf], fun w' hw => ?_⟩
      have hl : vs.length = ys.length * z := by rw [D.repL_len _ _ hre, D.szs_uniform _ hu]
      simp only [Builtin.firstCells, ← hl]
      exact run_loadCells_list w' ad vs (fun j u hj => by
        obtain ⟨hj', e⟩ := List.getElem?_eq_some_iff.1 hj
        rw [Addr.add_eq hce.1, cell?_congr (w := w) (w' := w') (by rw [hw]), ← e]
        exact hce.2.2 j hj')
  · rw [rep_nils] at hv
    subst hv
    exact ⟨[], [], h, by simp [D.repL], by simp, fun w' => by simp [Builtin.lenOf], fun w' _ => by simp [Builtin.firstCells]⟩
  · exact h.elim

structure AppT (P : Program) (t t2 E sz B : Nat) : Prop where
  u1 : P.underlying t = some (.slice E)
  u2 : (∃ e, P.underlying t2 = some (.slice e)) ∨ P.underlying t2 = some .string
  info : ∃ i z, P.info? E = some i ∧ i.size = sz ∧ i.bytes = B ∧ i.zero = some z ∧ z.cells.size = sz
  b0 : B ≠ 0
  s0 : sz ≠ 0

/-- an append that needs a new row -/
theorem app_grow {t t2 ty E sz B : Nat} (T : AppT P t t2 E sz B) {base : Option Addr} {sLen sCap n : Nat} {x : Value} {cs vs : List Value}
    (hx : ∀ w', (Builtin.lenOf x).run P w' = .ok n w') (hf : ∀ w', w'.heap = w.heap → (Builtin.firstCells sz n x).run P w' = .ok vs.toArray w')
    (ho : ∀ w', w'.heap = w.heap → (Builtin.firstCells sz sLen (.slice base sLen sCap)).run P w' = .ok cs.toArray w') (hneed : sCap < sLen + n) (hB : (2 * (sLen + n) + 192) * B ≤ 281474976710656) :
    ∃ newCap rest, sLen + n ≤ newCap ∧ rest.length = (newCap - (sLen + n)) * sz ∧
      (Builtin.append_ #[t, t2] ty #[.slice base sLen sCap, x]).run P w = .ok (.slice (some ⟨w.heap.size, 0, none⟩) (sLen + n) newCap) (addB { w with drawn := w.drawn + 1 } (.cells ((cs ++ vs) ++ rest).toArray E)) := by
  obtain ⟨i, z, hi, h1, h2, h3, h4⟩ := T.info
  have hsz : sizeT P E = some sz := by simp [sizeT, hi, h1]
  have hti : ∀ w', (typeInfo E).run P w' = .ok i w' := fun w' => by simp [typeInfo, hi]
  have hzv : ∀ w', (zeroValue E).run P w' = .ok z w' := fun w' => by simp [zeroValue, typeInfo, hi, h3]
  have hcap := nextcap_le hneed
  have hle : Builtin.nextslicecap (sLen + n) sCap * B ≤ 281474976710656 := Nat.le_trans (Nat.mul_le_mul_right B hcap) hB
  have hq : (Question.appendCap (sLen + n) sCap E).forced = false := rfl
  refine ⟨(Question.appendCap (sLen + n) sCap E).cut (w.tape w.drawn (.appendCap (sLen + n) sCap E)), (Builtin.zeroCells z.cells ((Question.appendCap (sLen + n) sCap E).cut (w.tape w.drawn (.appendCap (sLen + n) sCap E)) - (sLen + n))).toList, ?_, ?_, ?_⟩
  · simp [Question.cut]
  · simp [Builtin.zeroCells, h4]
  · generalize hc : (Question.appendCap (sLen + n) sCap E).cut (w.tape w.drawn (.appendCap (sLen + n) sCap E)) = newCap
    unfold Builtin.append_
    have e0 : (#[t, t2] : Array TypeId)[0]? = some t := rfl
    have e1 : (#[t, t2] : Array TypeId)[1]? = some t2 := rfl
    rcases T.u2 with ⟨e2, u2⟩ | u2
    all_goals
      simp only [e0, e1, List.getElem?_toArray, List.getElem?_cons_zero, List.getElem?_cons_succ, Sem.run_bind, underlying_run T.u1, underlying_run u2, Result.andThen_ok, info_size hsz, Sem.run_pure, hx, Bool.false_eq_true, if_false, Bool.not_false, if_true]
      rw [if_neg (by omega)]
      have hb : ¬ (Builtin.nextslicecap (sLen + n) sCap * B > 2 ^ 48) := by omega
      simp only [hb, T.b0, or_self, and_false, if_false, Sem.run_bind, run_choose, hq, Bool.false_eq_true, hc, Result.andThen_ok, run_askRoom, hti, h2, ho { w with drawn := w.drawn + 1 } rfl, hf { w with drawn := w.drawn + 1 } rfl, hzv, newRow, run_newObj, Sem.run_pure]
      have e3 : (cs.toArray ++ vs.toArray) ++ Builtin.zeroCells z.cells (newCap - (sLen + n)) = ((cs ++ vs) ++ (Builtin.zeroCells z.cells (newCap - (sLen + n))).toList).toArray := by apply Array.ext'; simp
      rw [e3]
      rfl

/-- an append that finds room -/
theorem app_room {t t2 ty E sz B : Nat} (T : AppT P t t2 E sz B) {b sLen sCap n : Nat} {x : Value} {cs sp vs : List Value}
    (hx : ∀ w', (Builtin.lenOf x).run P w' = .ok n w') (hf : ∀ w', w'.heap = w.heap → (Builtin.firstCells sz n x).run P w' = .ok vs.toArray w')
    (hb : w.heap[b]? = some (.cells (List.toArray (cs ++ sp)) E (0, 0))) (hcs : cs.length = sLen * sz) (hvs : vs.length = n * sz) (hlen : (cs ++ sp).length = sCap * sz) (hone : ∀ v ∈ vs, v.oneCell' = true) (hneed : sLen + n ≤ sCap) :
    (Builtin.append_ #[t, t2] ty #[.slice (some ⟨b, 0, none⟩) sLen sCap, x]).run P w = .ok (.slice (some ⟨b, 0, none⟩) (sLen + n) sCap) (w.setRow b ((cs ++ vs) ++ sp.drop vs.length).toArray) := by
  obtain ⟨i, z, hi, h1, h2, h3, h4⟩ := T.info
  have hsz : sizeT P E = some sz := by simp [sizeT, hi, h1]
  unfold Builtin.append_
  have e0 : (#[t, t2] : Array TypeId)[0]? = some t := rfl
  have e1 : (#[t, t2] : Array TypeId)[1]? = some t2 := rfl
  have hsum : sLen * sz + n * sz ≤ sCap * sz := by rw [← Nat.add_mul]; exact Nat.mul_le_mul_right sz hneed
  have hrun := run_storeCells_at (P := P) b (sLen * sz) E vs 0 (cs ++ sp).toArray w hb (by rw [hvs, List.size_toArray, hlen]; omega) hone
  have hadd : (⟨b, 0, none⟩ : Addr).add (sLen * sz) = ⟨b, sLen * sz, none⟩ := by rw [Addr.add_eq rfl]; simp
  rcases T.u2 with ⟨e2, u2⟩ | u2
  all_goals
    simp only [e0, e1, List.getElem?_toArray, List.getElem?_cons_zero, List.getElem?_cons_succ, Sem.run_bind, underlying_run T.u1, underlying_run u2, Result.andThen_ok, info_size hsz, Sem.run_pure, hx, Bool.false_eq_true, if_false, Bool.not_false, if_true]
    rw [if_pos hneed]
    simp only [Sem.run_bind, hf w rfl, Result.andThen_ok, hadd, hrun, Sem.run_pure]
    congr 3
    rw [Nat.add_zero, ← hcs]
    simp [List.drop_append]

theorem app_none {t t2 ty E sz B : Nat} (T : AppT P t t2 E sz B) {x : Value}
    (hx : ∀ w', (Builtin.lenOf x).run P w' = .ok 0 w') (hf : ∀ w', w'.heap = w.heap → (Builtin.firstCells sz 0 x).run P w' = .ok #[] w') :
    (Builtin.append_ #[t, t2] ty #[.slice none 0 0, x]).run P w = .ok (.slice none 0 0) w := by
  obtain ⟨i, z, hi, h1, h2, h3, h4⟩ := T.info
  have hsz : sizeT P E = some sz := by simp [sizeT, hi, h1]
  unfold Builtin.append_
  rcases T.u2 with ⟨e2, u2⟩ | u2 <;> simp [underlying_run T.u1, underlying_run u2, info_size hsz, hx, hf w rfl]

theorem app_core {t t2 ty E sz B : Nat} (T : AppT P t t2 E sz B) (hO : OM w ρ ob) {id : Nat} {xs ys : List D} {s x : Value} {vs : List Value} (hl : lookO ob id = some (.arr E sz xs))
    (hs : (V.sl id xs.length).rep w ρ s) (hre : D.repL w (own ρ) ys vs) (hu : ∀ y ∈ ys, y.sz = sz)
    (hx : ∀ w', (Builtin.lenOf x).run P w' = .ok ys.length w') (hf : ∀ w', w'.heap = w.heap → (Builtin.firstCells sz ys.length x).run P w' = .ok vs.toArray w')
    (hB : (2 * (xs.length + ys.length) + 192) * B ≤ 281474976710656) :
    ∃ v w' ρ', (Builtin.append_ #[t, t2] ty #[s, x]).run P w = .ok v w' ∧ Tr w ρ w' ρ' ∧ OM w' ρ' (setO ob id (.arr E sz (xs ++ ys))) ∧ (V.sl id (xs.length + ys.length)).rep w' ρ' v := by
  rw [rep_sl] at hs
  obtain ⟨o, hρ, hs⟩ := hs
  have h1 := hO.one id _ hl
  have hvl : vs.length = ys.length * sz := by rw [D.repL_len _ _ hre, D.szs_uniform _ hu]
  -- a new row, from whatever was there
  have grow : ∀ (base : Option Addr) (sCap : Nat) (cs : List Value), s = .slice base xs.length sCap → D.repL w (own ρ) xs cs → (∀ y ∈ xs, y.sz = sz) →
      (∀ w', w'.heap = w.heap → (Builtin.firstCells sz xs.length (.slice base xs.length sCap)).run P w' = .ok cs.toArray w') → sCap < xs.length + ys.length →
      (o = .virt ∧ xs.length = 0 ∨ ∃ b c, o = .arr b xs.length c) → xs.length ≤ sCap →
      ∃ v w' ρ', (Builtin.append_ #[t, t2] ty #[s, x]).run P w = .ok v w' ∧ Tr w ρ w' ρ' ∧ OM w' ρ' (setO ob id (.arr E sz (xs ++ ys))) ∧ (V.sl id (xs.length + ys.length)).rep w' ρ' v := by
    intro base sCap cs es hxs hux hold hneed ho hlc
    subst es
    obtain ⟨newCap, rest, g1, g2, g3⟩ := app_grow (ty := ty) T hx hf hold hneed hB
    have he : Ext w (addB { w with drawn := w.drawn + 1 } (.cells ((cs ++ vs) ++ rest).toArray E)) := (Ext.drew w _).trans (ext_add _ _)
    have t1 : Tr w ρ (addB { w with drawn := w.drawn + 1 } (.cells ((cs ++ vs) ++ rest).toArray E)) (ρ.ins id (.arr w.heap.size (xs.length + ys.length) newCap)) := by
      refine ⟨he.size, fun b _ h => he.keep b h, fun b h => ?_, rfl, rfl, fun j p hp => ?_, he.tape, he.os, he.out⟩
      · obtain ⟨j, p, q1, q2⟩ := h
        simp only [Env.ins] at q1
        split at q1
        · simp at q1; subst q1; simp [RO.blk?] at q2; exact .inr (by omega)
        · exact .inl ⟨j, p, q1, q2⟩
      · by_cases ej : j = id
        · subst ej
          refine ⟨_, ins_self, .grow (n := xs.length) (by omega) ?_⟩
          rw [hρ] at hp; simp at hp; subst hp
          exact ho
        · exact ⟨p, by simp [Env.ins, ej, hp], .refl p⟩
    refine ⟨_, _, _, g3, t1, grow_obj hO hl t1 (.inr ⟨w.heap.size, newCap, cs ++ vs, rest, by simp [Env.ins], add_new _ _, D.repL_append (D.repL_mono t1.mono _ _ hxs) (D.repL_mono t1.mono _ _ hre), ?_, ?_⟩) (fun b hb => ?_) (fun j p b hj h2 h3 => he.keep b (own_lt hO h2 h3)), ?_⟩
    · intro y hy
      rcases List.mem_append.1 hy with hy | hy
      · exact hux y hy
      · exact hu y hy
    · have hcl : cs.length = xs.length * sz := by rw [D.repL_len _ _ hxs, D.szs_uniform _ hux]
      rw [List.length_append, List.length_append, g2, hcl, hvl, ← Nat.add_mul, ← Nat.add_mul]
      congr 1; omega
    · simp [RO.blk?] at hb; exact .inl (by omega)
    · rw [rep_sl]
      refine ⟨_, ins_self, ?_⟩
      exact ⟨Nat.le_refl _, ⟨_, _, _, rfl⟩, fun _ => rfl⟩
  rcases h1 with ⟨h1, rfl⟩ | ⟨b, cap, cs, sp, h1, h2, h3, h4, h5⟩
  · -- nothing yet
    rw [hρ] at h1; simp at h1; subst h1
    simp only [RO.slice] at hs
    obtain ⟨_, rfl⟩ := hs
    by_cases hy : ys = []
    · subst hy
      have hv0 : vs = [] := by simpa using hvl
      subst hv0
      refine ⟨_, w, ρ, app_none T hx (fun w' hw => hf w' hw), Tr.refl _ _, ?_, ?_⟩
      · refine ⟨fun j y hy => ?_, fun j p hp => ?_, hO.inj, hO.xlt, hO.glb, hO.xdis, hO.once.set⟩
        · rw [lookO_setO ob id j ⟨_, hl⟩] at hy
          split at hy
          · rename_i e; subst e; simp at hy; subst hy; exact .inl ⟨hρ, rfl⟩
          · exact hO.one j y hy
        · rw [lookO_setO ob id j ⟨_, hl⟩]
          split
          · exact ⟨_, rfl⟩
          · exact hO.dom j p hp
      · rw [rep_sl]; exact ⟨_, hρ, rfl, rfl⟩
    · refine grow none 0 [] rfl (by simp [D.repL]) (by simp) (fun w' _ => by simp [Builtin.firstCells]) ?_ (.inl ⟨rfl, rfl⟩) (Nat.le_refl _)
      cases ys with
      | nil => exact absurd rfl hy
      | cons y r => simp
  · rw [hρ] at h1; simp at h1; subst h1
    obtain ⟨_, _, hs⟩ := hs
    have hs := hs rfl
    have hcl : cs.length = xs.length * sz := by rw [D.repL_len _ _ h3, D.szs_uniform _ h4]
    have hlc : xs.length ≤ cap := by
      have : xs.length * sz ≤ cap * sz := by rw [← h5, ← hcl]; simp
      exact Nat.le_of_mul_le_mul_right this (Nat.pos_of_ne_zero T.s0)
    by_cases hroom : xs.length + ys.length ≤ cap
    · subst hs
      have hrun := app_room (ty := ty) T hx hf h2 hcl hvl h5 (D.ones ys vs hre) hroom
      have t1 : Tr w ρ (w.setRow b ((cs ++ vs) ++ sp.drop vs.length).toArray) (ρ.ins id (.arr b (xs.length + ys.length) cap)) := by
        refine ⟨by simp, fun j hj _ => setRow_other w b j _ (fun e => hj ?_), fun j h => ?_, rfl, rfl, fun j p hp => ?_, rfl, rfl, rfl⟩
        · subst e; exact ⟨id, _, hρ, rfl⟩
        · obtain ⟨k, p, q1, q2⟩ := h
          simp only [Env.ins] at q1
          split at q1
          · simp at q1; subst q1; simp [RO.blk?] at q2; subst q2; exact .inl ⟨id, _, hρ, rfl⟩
          · exact .inl ⟨k, p, q1, q2⟩
        · by_cases ej : j = id
          · subst ej
            rw [hρ] at hp; simp at hp; subst hp
            refine ⟨_, ins_self, ?_⟩
            cases ys with
            | nil => exact .refl _
            | cons y r => exact .grow (n := xs.length) (by simp) (.inr ⟨_, _, rfl⟩)
          · exact ⟨p, by simp [Env.ins, ej, hp], .refl p⟩
      refine ⟨_, _, _, hrun, t1, grow_obj hO hl t1 (.inr ⟨b, cap, cs ++ vs, sp.drop vs.length, by simp [Env.ins], setRow_heap w b _ _ E _ h2, D.repL_append (D.repL_mono t1.mono _ _ h3) (D.repL_mono t1.mono _ _ hre), ?_, ?_⟩) (fun b' hb => ?_) (fun j p b' hj q1 q2 => setRow_other w b b' _ (fun e => hj ?_)), ?_⟩
      · intro y hy
        rcases List.mem_append.1 hy with hy | hy
        · exact h4 y hy
        · exact hu y hy
      · have hsum : xs.length * sz + ys.length * sz ≤ cap * sz := by rw [← Nat.add_mul]; exact Nat.mul_le_mul_right sz hroom
        simp only [List.length_append, List.length_drop] at h5 ⊢
        omega
      · simp [RO.blk?] at hb; subst hb; exact .inr ⟨_, hρ, rfl⟩
      · subst e; exact hO.inj j id _ _ _ q1 hρ q2 rfl
      · rw [rep_sl]
        refine ⟨_, ins_self, ?_⟩
        exact ⟨Nat.le_refl _, ⟨_, _, _, rfl⟩, fun _ => rfl⟩
    · refine grow (some ⟨b, 0, none⟩) cap cs hs h3 h4 (fun w' hw => ?_) (by omega) (.inr ⟨_, _, rfl⟩) hlc
      simp only [Builtin.firstCells, ← hcl]
      exact run_loadCells_list w' _ cs (fun j u hj => by
        obtain ⟨hj', e⟩ := List.getElem?_eq_some_iff.1 hj
        rw [Addr.add_eq rfl, cell?_congr (w := w) (w' := w') (by rw [hw])]
        simp [World.cell?, h2, List.getElem?_append, hj', e])

theorem app_fin {u v : Operand} {t t2 E sz B : Nat} {vx : V} {ys : List D} {vs : List Value} (T : AppT P t t2 E sz B) (r1 : vx.rep w ρ (a.eval u)) (hO : OM w ρ ob) (hK : appK E sz B ob ys K vx)
    (hre : D.repL w (own ρ) ys vs) (hu : ∀ y ∈ ys, y.sz = sz) (hx : ∀ w', (Builtin.lenOf (a.eval v)).run P w' = .ok ys.length w')
    (hf : ∀ w', w'.heap = w.heap → (Builtin.firstCells sz ys.length (a.eval v)).run P w' = .ok vs.toArray w') : Does P a w ρ (.call { callee := .builtin .append, args := #[u, v], argTypes := #[t, t2] }) K Pn := by
  have hrun : ∀ (w' : World) (val : Value) (o : Oper), o.op = .call { callee := .builtin .append, args := #[u, v], argTypes := #[t, t2] } → (Builtin.append_ #[t, t2] o.type #[a.eval u, a.eval v]).run P w = .ok val w' → (execOp a.eval o).run P w = .ok (.value val) w' := by
    intro w' val o ho hr
    simp only [execOp, ho, resolve, invoke, builtin, Sem.run_bind, Sem.run_pure, Result.andThen_ok, List.map_toArray, List.map_cons, List.map_nil, hr]
  unfold appK at hK
  split at hK
  · rename_i id n
    unfold appKo at hK
    split at hK
    · rename_i E' sz' xs hl
      obtain ⟨rfl, rfl, rfl, hB, hK⟩ := hK
      intro o ho next Q hn _
      obtain ⟨val, w', ρ', g1, g2, g3, g4⟩ := app_core (ty := o.type) T hO hl r1 hre hu hx hf hB
      unfold Oper.wp
      rw [hrun w' val o ho g1]
      exact hn val _ _ w' ρ' hK g4 g3 g2
    · exact hK.elim
  · obtain ⟨hB, hK⟩ := hK
    have hl := fresh_none ob
    rw [rep_nils] at r1
    have hbl : ∀ b, RO.virt.blk? = some b → w.heap.size ≤ b := fun b hb => by simp [RO.blk?] at hb
    have t1 := ins_tr w (Ext.refl w) (o := .virt) (hO.free hl) hbl
    have o1 : OM w (ρ.ins (fresh ob) .virt) ((fresh ob, .arr E sz []) :: ob) := hO.ins (Ext.refl w) hl hbl (.inl ⟨ins_self, rfl⟩)
    have q1 : (V.sl (fresh ob) ([] : List D).length).rep w (ρ.ins (fresh ob) .virt) (a.eval u) := by
      rw [rep_sl]; exact ⟨_, ins_self, rfl, r1⟩
    intro o ho next Q hn _
    obtain ⟨val, w', ρ', g1, g2, g3, g4⟩ := app_core (ty := o.type) (ys := ys) T o1 (by simp [lookO]) q1 (D.repL_mono t1.mono _ _ hre) hu hx hf (by simpa using hB)
    unfold Oper.wp
    rw [hrun w' val o ho g1]
    simp only [setO, if_true, List.nil_append, List.length_nil, Nat.zero_add] at g3 g4
    exact hn val _ _ w' ρ' hK g4 g3 (t1.trans g2)
  · exact hK.elim

theorem does_app (hs : SM w ρ sl a) (hO : OM w ρ ob) {op : Op} {E sz B : Nat} {x y : A} (hc : I.chk P op (.app E sz B x y) = true)
    (h : srcK sz (fun ys => appK E sz B ob ys K (x.ev sl)) (y.ev sl)) : Does P a w ρ op K Pn := by
  cases op <;> simp only [I.chk, Bool.false_eq_true] at hc
  rename_i c
  obtain ⟨ca, args, ts⟩ := c
  cases ca <;> (try simp only [Bool.false_eq_true] at hc)
  rename_i b
  cases b <;> (try simp only [Bool.false_eq_true] at hc)
  split at hc
  · rename_i u v t t2 e1 e2
    simp only [Bool.and_eq_true] at hc
    obtain ⟨⟨⟨⟨h0, h1⟩, h2⟩, h3⟩, h4⟩ := hc
    have ea : args = #[u, v] := by simpa using congrArg List.toArray e1
    have et : ts = #[t, t2] := by simpa using congrArg List.toArray e2
    subst ea et
    have T : AppT P t t2 E sz B := by
      cases hi : P.info? E with
      | none => simp [hi] at h1
      | some i =>
        simp only [hi, Bool.and_eq_true, beq_iff_eq, bne_iff_ne, ne_eq] at h1
        obtain ⟨⟨⟨⟨⟨g1, g2⟩, g3⟩, g4⟩, g5⟩, g6⟩ := h1
        obtain ⟨z, hz⟩ := Option.isSome_iff_exists.1 g5
        rw [hz] at g6
        simp at g6
        refine ⟨?_, ?_, ⟨i, z, hi, g1, g2, hz, g6⟩, by rw [← g2]; exact g3, by rw [← g1]; exact g4⟩
        · revert h0; split <;> simp_all
        · left; revert h2; split <;> simp_all
    have r1 := A.sound hs h3
    have r2 := A.sound hs h4
    obtain ⟨ys, vs, hK, hre, hu, hx, hf⟩ := src_run (P := P) r2 h
    exact app_fin T r1 hO hK hre hu hx hf
  · simp at hc

theorem bytesD_sz (s : List UInt8) : ∀ x ∈ bytesD s, x.sz = 1 := by
  induction s with
  | nil => simp [bytesD]
  | cons b r ih => simp only [bytesD, List.mem_cons]; rintro x (rfl | h); exact rfl; exact ih x h
theorem bytesD_length (s : List UInt8) : (bytesD s).length = s.length := by
  induction s with
  | nil => rfl
  | cons b r ih => simp [bytesD, ih]
theorem bytesD_rep {ow : Nat → Prop} : ∀ (s : List UInt8) (cs : List Value), D.repL w ow (bytesD s) cs ↔ cs = s.map fun b => .int .u8 b.toNat
  | [], cs => by simp [bytesD, D.repL]
  | b :: r, cs => by
    simp only [bytesD, D.repL, D.rep, List.map_cons, bytesD_rep r]
    constructor
    · rintro ⟨c1, c2, rfl, rfl, rfl⟩; rfl
    · rintro rfl; exact ⟨_, _, rfl, rfl, rfl⟩

theorem does_appS (hs : SM w ρ sl a) (hO : OM w ρ ob) {op : Op} {E B : Nat} {x y : A} (hc : I.chk P op (.appS E B x y) = true)
    (h : srcSK (fun ys => appK E 1 B ob ys K (x.ev sl)) (y.ev sl)) : Does P a w ρ op K Pn := by
  cases op <;> simp only [I.chk, Bool.false_eq_true] at hc
  rename_i c
  obtain ⟨ca, args, ts⟩ := c
  cases ca <;> (try simp only [Bool.false_eq_true] at hc)
  rename_i b
  cases b <;> (try simp only [Bool.false_eq_true] at hc)
  split at hc
  · rename_i u v t t2 e1 e2
    simp only [Bool.and_eq_true] at hc
    obtain ⟨⟨⟨⟨h0, h1⟩, h2⟩, h3⟩, h4⟩ := hc
    have ea : args = #[u, v] := by simpa using congrArg List.toArray e1
    have et : ts = #[t, t2] := by simpa using congrArg List.toArray e2
    subst ea et
    have T : AppT P t t2 E 1 B := by
      cases hi : P.info? E with
      | none => simp [hi] at h1
      | some i =>
        simp only [hi, Bool.and_eq_true, beq_iff_eq, bne_iff_ne, ne_eq] at h1
        obtain ⟨⟨⟨⟨g1, g2⟩, g3⟩, g5⟩, g6⟩ := h1
        obtain ⟨z, hz⟩ := Option.isSome_iff_exists.1 g5
        rw [hz] at g6
        simp at g6
        refine ⟨?_, ?_, ⟨i, z, hi, g1, g2, hz, g6⟩, by rw [← g2]; exact g3, by omega⟩
        · revert h0; split <;> simp_all
        · right; revert h2; split <;> simp_all
    have r1 := A.sound hs h3
    have r2 := A.sound hs h4
    unfold srcSK at h
    split at h
    · rename_i s e3
      rw [e3, rep_str] at r2
      have hlen : (bytesD s).length = s.length := bytesD_length s
      refine app_fin T r1 hO h ((bytesD_rep s _).2 rfl) (bytesD_sz s) (fun w' => ?_) (fun w' _ => ?_)
      · rw [r2, hlen]; simp [Builtin.lenOf, byteSize]
      · rw [r2, hlen]
        simp only [Builtin.firstCells, Sem.run_pure]
        congr 1
        apply Array.ext'
        simp [ByteArray.data_extract]
    · exact h.elim
  · simp at hc

theorem does_cvb (hs : SM w ρ sl a) (hO : OM w ρ ob) {op : Op} {x : A} (hc : I.chk P op (.cvb x) = true) (h : cvbK ob K (x.ev sl)) : Does P a w ρ op K Pn := by
  cases op <;> simp only [I.chk, Bool.false_eq_true] at hc
  rename_i s t y
  simp only [Bool.and_eq_true, beq_iff_eq] at hc
  obtain ⟨⟨rfl, h0⟩, h2⟩ := hc
  have r1 := A.sound hs h2
  obtain ⟨e, hs1, he⟩ : ∃ e, P.underlying s = some (.slice e) ∧ P.underlying e = some (.int .u8) := by
    cases hu : P.underlying s with
    | none => simp [hu] at h0
    | some d =>
      cases d <;> simp [hu] at h0
      rename_i e
      refine ⟨e, rfl, ?_⟩
      revert h0; split <;> simp_all
  unfold cvbK at h
  split at h
  · rename_i id n e1
    unfold cvbKo at h
    split at h
    · rename_i E sz xs hl
      obtain ⟨hsz, rfl, hne, hK⟩ := h
      rw [e1] at r1
      have r3 := give_arr hO hl hsz r1
      rw [rep_sl] at r1
      obtain ⟨o, hρ, hv⟩ := r1
      rcases hO.one id _ hl with ⟨h1, rfl⟩ | ⟨b, cap, cs, sp, h1, h2, h3, h4, h5⟩
      · exact absurd rfl hne
      · rw [hρ] at h1; simp at h1; subst h1
        have hu := hv.2.2 rfl
        have hw : ∃ w2, w2.heap.size = w.heap.size ∧ (∀ j, j ≠ b → w2.heap[j]? = w.heap[j]?) ∧ w2.heap[b]? = some (.cells (List.toArray (cs ++ sp)) E ((cs ++ sp).length, (cs ++ sp).length + 1)) ∧ w2.tape = w.tape ∧ w2.os = w.os ∧ w2.output = w.output ∧ (markStringish ⟨b, 0, none⟩).run P w = .ok () w2 := by
          have hsh : w.shape? b = some (E, (cs ++ sp).length) := by simp [World.shape?, h2]
          refine ⟨w.freeze ⟨b, (cs ++ sp).length, none⟩ 1, by simp [World.freeze], fun j hj => ?_, ?_, rfl, rfl, rfl, ?_⟩
          · simp only [World.freeze]
            simp [Array.getElem?_modify, Ne.symm hj]
          · simp only [World.freeze]
            simp [Array.getElem?_modify, h2]
          · simp only [markStringish, Sem.run_bind, run_shape, hsh, Result.andThen_ok, run_freeze]
        obtain ⟨w2, q1, q2, q3, q4, q5, q6, q7⟩ := hw
        obtain ⟨t1, o1, hno⟩ := give_upw hO (w2 := w2) ⟨_, hl⟩ q1 (fun j hj => q2 j (fun e => hj _ hρ (by rw [e]; rfl))) q4 q5 q6
        refine does_value (v := .slice (some ⟨b, 0, none⟩) xs.length cap) (fun o ho => ?_) hK ?_ o1 t1
        · simp only [execOp, ho, hu, convert, Sem.run_bind, underlying_run hs1, Result.andThen_ok, beq_self_eq_true, underlying_run he, q7, Sem.run_pure]
        · rw [rep_list]
          refine .inr ⟨_, cap, cs, rfl, ?_, ⟨rfl, fun _ => ⟨hno b _ hρ rfl, lt_of_some q3⟩, fun i hi => ?_⟩, D.repL_mono t1.mono _ _ h3, h4⟩
          · have hcl : cs.length = xs.length * sz := by rw [D.repL_len _ _ h3, D.szs_uniform _ h4]
            have : xs.length * sz ≤ cap * sz := by rw [← h5, ← hcl]; simp
            exact Nat.le_of_mul_le_mul_right this (Nat.pos_of_ne_zero hsz)
          · simp [World.cell?, q3, List.getElem?_append, hi]
    · exact h.elim
  · exact h.elim

theorem does_ustr (hs : SM w ρ sl a) (hO : OM w ρ ob) {op : Op} {E : Nat} {x y : A} (hc : I.chk P op (.ustr E x y) = true) (h : ustrK E ob K (x.ev sl) (y.ev sl)) : Does P a w ρ op K Pn := by
  cases op <;> simp only [I.chk, Bool.false_eq_true] at hc
  rename_i c
  obtain ⟨ca, args, ts⟩ := c
  cases ca <;> (try simp only [Bool.false_eq_true] at hc)
  rename_i b
  cases b <;> (try simp only [Bool.false_eq_true] at hc)
  split at hc
  · rename_i u v t t2 e1 e2
    have ea : args = #[u, v] := by simpa using congrArg List.toArray e1
    have et : ts = #[t, t2] := by simpa using congrArg List.toArray e2
    subst ea et
    simp only [Bool.and_eq_true] at hc
    obtain ⟨⟨h0, h1⟩, h2⟩ := hc
    have r1 := A.sound hs h1
    have r2 := A.sound hs h2
    obtain ⟨hp, hce⟩ : P.underlying t = some (.pointer E) ∧ P.cellsOf E = 1 := by
      split at h0
      · rename_i e he; simp only [Bool.and_eq_true, beq_iff_eq] at h0; obtain ⟨rfl, h0⟩ := h0; exact ⟨he, h0⟩
      · simp at h0
    have hrun : ∀ (w' : World) (val : Value) (o : Oper), o.op = .call { callee := .builtin .unsafeString, args := #[u, v], argTypes := #[t, t2] } → (Builtin.unsafeString_ #[t, t2] o.type #[a.eval u, a.eval v]).run P w = .ok val w' → (execOp a.eval o).run P w = .ok (.value val) w' := by
      intro w' val o ho hr
      simp only [execOp, ho, resolve, invoke, builtin, Sem.run_bind, Sem.run_pure, Result.andThen_ok, List.map_toArray, List.map_cons, List.map_nil, hr]
    unfold ustrK at h
    split at h
    · rename_i id n m e3 e4
      unfold ustrKo at h
      split at h
      · rename_i E' sz xs hl
        obtain ⟨rfl, rfl, rfl, rfl, h63, hne, s, rfl, hK⟩ := h
        rw [e3, rep_sd] at r1
        rw [e4, rep_int] at r2
        obtain ⟨o, hρ, hv⟩ := r1
        have hs0 : s ≠ [] := by intro e; subst e; exact hne rfl
        rcases hO.one id _ hl with ⟨h1, hx⟩ | ⟨b, cap, cs, sp, h1, h2, h3, h4, h5⟩
        · exact absurd hx hne
        · rw [hρ] at h1; simp at h1; subst h1
          have hu := hv.2.2 rfl (by simpa using hne)
          rw [bytesD_rep] at h3
          subst h3
          have hll : (bytesD s).length = s.length := bytesD_length s
          obtain ⟨t1, o1, hno⟩ := give_upw hO (w2 := w.freeze ⟨b, 0, none⟩ s.length) ⟨_, hl⟩ (by unfold World.freeze; split <;> simp) (fun j hj => by
            have : b ≠ j := fun e => hj _ hρ (by rw [e]; rfl)
            unfold World.freeze; split
            · rfl
            · simp [Array.getElem?_modify, this]) (by unfold World.freeze; split <;> rfl) (by unfold World.freeze; split <;> rfl) (by unfold World.freeze; split <;> rfl)
          refine does_value (v := .string ⟨s.toArray⟩) (fun o ho => hrun _ _ o ho ?_) hK (rep_str.2 rfl) o1 t1
          rw [hu, r2, hll]
          exact Lib.run_unsafeString_row (P := P) (w := w) t t2 _ E' hp hce b ((s.map fun b => Value.int .u8 b.toNat) ++ sp).length (by simp [World.shape?, h2]) s hs0 (by simp) (by omega) (fun j x hj => by
            obtain ⟨hj', e⟩ := List.getElem?_eq_some_iff.1 hj
            rw [Addr.add_eq rfl]
            simp [World.cell?, h2, List.getElem?_append, hj', e])
      · exact h.elim
    · rename_i m e3 e4
      obtain ⟨rfl, hK⟩ := h
      rw [e3, rep_nilp] at r1
      rw [e4, rep_int] at r2
      refine does_value (v := .string .empty) (fun o ho => hrun _ _ o ho ?_) hK (rep_str.2 rfl) hO (Tr.refl _ _)
      rw [r1, r2]
      exact Lib.run_unsafeString_none _ _ _ _ _
    · exact h.elim
  · simp at hc

theorem push_fold : ∀ (s : List UInt8) (l : List UInt8), (s.map fun b : UInt8 => ((b.toNat : Nat) : Int)).foldl (fun (r : ByteArray) (n : Int) => r.push (UInt8.ofNat n.toNat)) ⟨l.toArray⟩ = ⟨(l ++ s).toArray⟩
  | [], l => by simp
  | b :: r, l => by
    simp only [List.map_cons, List.foldl_cons]
    have : (ByteArray.mk l.toArray).push (UInt8.ofNat ((b.toNat : Nat) : Int).toNat) = ⟨(l ++ [b]).toArray⟩ := by
      apply ByteArray.ext; simp [ByteArray.push]
    rw [this, push_fold r (l ++ [b])]
    simp

theorem does_b2s (hs : SM w ρ sl a) (hO : OM w ρ ob) {op : Op} {x : A} (hc : I.chk P op (.b2s x) = true) (h : b2sK (fun v => K v ob) (x.ev sl)) : Does P a w ρ op K Pn := by
  cases op <;> simp [I.chk] at hc
  rename_i s t y
  obtain ⟨⟨h0, h1⟩, h2⟩ := hc
  have r1 := A.sound hs h2
  obtain ⟨e, hs1, he, hsz⟩ : ∃ e, P.underlying s = some (.slice e) ∧ P.underlying e = some (.int .u8) ∧ sizeT P e = some 1 := by
    cases hu : P.underlying s with
    | none => simp [hu] at h0
    | some d =>
      cases d <;> simp [hu] at h0
      rename_i e
      refine ⟨e, rfl, ?_, h0.2⟩
      have := h0.1
      revert this; split <;> simp_all
  have ht : P.underlying t = some .string := by revert h1; split <;> simp_all
  have hcv : ∀ (ad : Option Addr) (l c : Nat) (o : Oper), o.op = .convert s t y → a.eval y = .slice ad l c → (execOp a.eval o).run P w = ((Conv.bytesToString (.slice ad l c)).run P w).andThen fun v w' => .ok (.value v) w' := by
    intro ad l c o ho hy
    simp only [execOp, ho, hy, convert, Sem.run_bind, underlying_run hs1, underlying_run ht, Result.andThen_ok, underlying_run he]
    simp
  unfold b2sK at h
  split at h
  · rename_i sz xs e1
    obtain ⟨rfl, bs, rfl, hK⟩ := h
    rw [e1, rep_list] at r1
    rcases r1 with ⟨hx, r1⟩ | ⟨ad, cap, vs, r1, hcap, hce, hre, hu⟩
    · have : bs = [] := by have := congrArg List.length hx; rw [bytesD_length] at this; exact List.eq_nil_of_length_eq_zero this
      subst this
      refine does_value (fun o ho => ?_) hK (rep_str.2 rfl) hO (Tr.refl _ _)
      rw [hcv _ _ _ o ho r1]
      simp [Conv.bytesToString]
      rfl
    · rw [bytesD_rep] at hre
      refine does_value (fun o ho => ?_) hK (rep_str.2 rfl) hO (Tr.refl _ _)
      rw [hcv _ _ _ o ho r1, run_bytesToString w ad _ cap (bs.map fun b => ((b.toNat : Nat) : Int)) ?_]
      · have := push_fold bs []
        simp only [List.nil_append] at this
        simp only [Result.andThen_ok]
        rw [← this]
        rfl
      · have := run_loadCells_list (P := P) w ad vs (fun j u hj => by
          obtain ⟨hj', e⟩ := List.getElem?_eq_some_iff.1 hj
          rw [Addr.add_eq hce.1, ← e]; exact hce.2.2 j hj')
        rw [bytesD_length]
        rw [show vs.length = bs.length by rw [hre]; simp] at this
        rw [this, hre]
        simp
  · rename_i e1
    rw [e1, rep_nils] at r1
    refine does_value (fun o ho => ?_) h (rep_str.2 rfl) hO (Tr.refl _ _)
    rw [hcv _ _ _ o ho r1]
    simp [Conv.bytesToString]
    rfl
  · exact h.elim

theorem adds_s2b (hs : SM w ρ sl a) (hO : OM w ρ ob) {op : Op} {x : A} (hc : I.chk P op (.s2b x) = true) (h : s2bK (fun v => K v ob) (x.ev sl)) : Adds P a w ρ op ob K := by
  cases op <;> simp [I.chk] at hc
  rename_i s t y
  obtain ⟨⟨h0, h1⟩, h2⟩ := hc
  have r1 := A.sound hs h2
  have hs1 : P.underlying s = some .string := by revert h0; split <;> simp_all
  obtain ⟨e, ht, he⟩ : ∃ e, P.underlying t = some (.slice e) ∧ P.underlying e = some (.int .u8) := by
    cases hu : P.underlying t with
    | none => simp [hu] at h1
    | some d =>
      cases d <;> simp [hu] at h1
      rename_i e
      refine ⟨e, rfl, ?_⟩
      revert h1; split <;> simp_all
  unfold s2bK at h
  split at h
  · rename_i bs e1
    rw [e1, rep_str] at r1
    have hq : (Question.appendCap bs.length 0 e).forced = false := rfl
    generalize hcap : (Question.appendCap bs.length 0 e).cut (w.tape w.drawn (.appendCap bs.length 0 e)) = cap
    have hge : bs.length ≤ cap := by rw [← hcap]; simp [Question.cut]
    let cs : List Value := (bs.map fun b => Value.int .u8 b.toNat) ++ List.replicate (cap - bs.length) (.int .u8 0)
    let w1 : World := addB { w with drawn := w.drawn + 1 } (.cells cs.toArray e)
    have hlen : cs.length = cap := by simp [cs]; omega
    have he1 : Ext w w1 := (Ext.drew w _).trans (ext_add _ _)
    have hn : w1.heap[w.heap.size]? = some (.cells cs.toArray e (0, 0)) := add_new _ _
    let w2 : World := w1.freeze ⟨w.heap.size, cap, none⟩ 1
    have hn2 : w2.heap[w.heap.size]? = some (.cells cs.toArray e (cap, cap + 1)) := by
      simp only [w2, World.freeze]
      simp [Array.getElem?_modify, hn]
    have hsz2 : w2.heap.size = w1.heap.size := by simp [w2, World.freeze]
    have he2 : Ext w w2 := by
      refine ⟨by rw [hsz2]; exact he1.size, fun b hb => ?_, he1.tape, he1.os, he1.out⟩
      rw [← he1.keep b hb]
      simp only [w2, World.freeze]
      simp [Array.getElem?_modify, Nat.ne_of_gt hb]
    refine ⟨.slice (some ⟨w.heap.size, 0, none⟩) bs.length cap, _, w2, h, rep_list.2 (.inr ⟨⟨w.heap.size, 0, none⟩, cap, bs.map fun b => Value.int .u8 b.toNat, by rw [bytesD_length], by rw [bytesD_length]; exact hge, ⟨rfl, fun _ => ⟨?_, lt_of_some hn2⟩, fun i hi => ?_⟩, (bytesD_rep bs _).2 rfl, bytesD_sz bs⟩), he2, fun o ho => ?_⟩
    rotate_left 2
    · simp only [execOp, ho, r1, convert, Sem.run_bind, underlying_run hs1, underlying_run ht, Result.andThen_ok, underlying_run he, Conv.stringToBytes, byteSize, run_choose, hq, Bool.false_eq_true, if_false, hcap, newRow, run_newObj, Sem.run_pure]
      have e3 : Array.map (fun b : UInt8 => Value.int IntKind.u8 b.toNat) (ByteArray.mk bs.toArray).data ++ Array.replicate (cap - bs.length) (Value.int IntKind.u8 0) = cs.toArray := by
        apply Array.ext'; simp [cs]
      rw [e3]
      have hsh : w1.shape? w.heap.size = some (e, cap) := by simp [World.shape?, hn, hlen]
      have hm : (markStringish ⟨w.heap.size, 0, none⟩).run P w1 = .ok () w2 := by
        simp only [markStringish, Sem.run_bind, run_shape, hsh, Result.andThen_ok, run_freeze]
        rfl
      show ((Sem.run P (markStringish ⟨w.heap.size, 0, none⟩) w1).andThen _).andThen _ = _
      rw [hm]
      simp
    · rintro (⟨j, p, q1, q2⟩ | q)
      · have := own_lt hO q1 q2; simp at this
      · have := hO.xlt _ q; simp at this
    · have hi' : i < bs.length := by simpa using hi
      simp [World.cell?, hn2, cs, List.getElem?_append, hi']
  · exact h.elim

theorem does_nilo (hs : SM w ρ sl a) (hO : OM w ρ ob) {op : Op} {E sz : Nat} {x : A} (hc : I.chk P op (.nilo E sz x) = true) (h : niloK E sz ob K (x.ev sl)) : Does P a w ρ op K Pn := by
  unfold niloK at h
  split at h
  · rename_i e1
    have hf := fresh_none ob
    have hbl : ∀ b, RO.virt.blk? = some b → w.heap.size ≤ b := fun b hb => by simp [RO.blk?] at hb
    have t1 := ins_tr w (Ext.refl w) (o := .virt) (hO.free hf) hbl
    have o1 : OM w (ρ.ins (fresh ob) .virt) ((fresh ob, .arr E sz []) :: ob) := hO.ins (Ext.refl w) hf hbl (.inl ⟨ins_self, rfl⟩)
    cases op <;> simp [I.chk] at hc
    all_goals
      have r1 := A.sound hs hc
      rw [e1, rep_nils] at r1
      exact does_value (fun o ho => by simp [execOp, ho]) h (rep_sl.2 ⟨.virt, ins_self, ⟨rfl, r1⟩⟩) o1 t1
  · exact h.elim

theorem I.sound {P : Prg} (hg : ρ.gl = P.g) (hs : SM w ρ sl a) (hO : OM w ρ ob) {op : Op} : ∀ {i : I}, i.chk P.p op = true → i.wp P sl ob K Pn → Does P.p a w ρ op K Pn
  | .c _, hc, h => does_c hs hO hc h
  | .box _ _, hc, h => does_box hs hO hc h
  | .alloc _ _, hc, h => does_alloc hO hc h
  | .bls _ _ _, hc, h => (adds_bls hs hO hc h).does hO
  | .blo _ _ _ _, hc, h => does_blo hs hO hc h
  | .st _ _ _, hc, h => does_st hs hO hc h
  | .app _ _ _ _ _, hc, h => does_app hs hO hc h
  | .appS _ _ _ _, hc, h => does_appS hs hO hc h
  | .call _ _, hc, h => does_call hg hs hO hc h
  | .pcall _ _, hc, h => (doesE_pcall hg hs hO hc h).does hO
  | .callv _ _, hc, h => does_callv hg hs hO hc h
  | .panic _, hc, h => does_panic hs hO hc h
  | .b2s _, hc, h => does_b2s hs hO hc h
  | .s2b _, hc, h => (adds_s2b hs hO hc h).does hO
  | .nilo _ _ _, hc, h => does_nilo hs hO hc h
  | .mvf _, hc, h => does_mvf hs hO hc h
  | .ldf _ _ _, hc, h => does_ldf hs hO hc h
  | .mvg _ _ _ _ _, hc, h => does_mvg hs hO hc h
  | .cvb _, hc, h => does_cvb hs hO hc h
  | .ustr _ _ _, hc, h => does_ustr hs hO hc h

/-- 0: it looks at its operands alone; 1: it looks into memory; 2: it adds memory; 3: whatever else -/
def I.kind : I → Nat
  | .c cc => if cc.isLd then 1 else 0
  | .bls _ _ _ | .s2b _ | .pcall _ _ => 2
  | _ => 3

theorem I.soundE {P : Prg} (hg : ρ.gl = P.g) (hs : SM w ρ sl a) (hO : OM w ρ ob) {op : Op} : ∀ {i : I}, i.kind = 2 → i.chk P.p op = true → i.wp P sl ob K Pn → DoesE P.p a w ρ op ob K
  | .bls _ _ _, _, hc, h => (adds_bls hs hO hc h).doesE
  | .s2b _, _, hc, h => (adds_s2b hs hO hc h).doesE
  | .pcall _ _, _, hc, h => doesE_pcall hg hs hO hc h
  | .c cc, hk, _, _ => by simp only [I.kind] at hk; split at hk <;> cases hk
  | .box _ _, hk, _, _ | .alloc _ _, hk, _, _ | .blo _ _ _ _, hk, _, _ | .st _ _ _, hk, _, _ | .app _ _ _ _ _, hk, _, _ | .appS _ _ _ _, hk, _, _ | .call _ _, hk, _, _ | .callv _ _, hk, _, _ | .panic _, hk, _, _ | .b2s _, hk, _, _ | .nilo _ _ _, hk, _, _ | .mvf _, hk, _, _ | .ldf _ _ _, hk, _, _ | .mvg _ _ _ _ _, hk, _, _ | .cvb _, hk, _, _ | .ustr _ _ _, hk, _, _ => by simp [I.kind] at hk
end
end Go.Ab
