/- That the operations that make or write memory do what Ab9 says of them. Over any program; no condition. -/
import Derived.Test.YtlkpnkkgkjkmbaaDoorAb9
namespace Go.Ab
open Go

/-- carried out, the operation leaves what K allows, or panics as Pn allows -/
def Does (P : Program) (a : Act) (w : World) (ρ : Env) (op : Op) (K Pn : V → Objs → Prop) : Prop :=
  ∀ (o : Oper), o.op = op → ∀ (next : Act → World → Prop) (Q : Exit → Act → World → Prop),
    (∀ v x ob' w' ρ', K x ob' → x.rep w' ρ' v → OM w' ρ' ob' → Tr w ρ w' ρ' → next (a.put o.dst v) w') →
    (∀ u x ob' w' ρ', Pn x ob' → x.rep w' ρ' u → OM w' ρ' ob' → Tr w ρ w' ρ' → Q (.panic [{ v := u, recovered := false }]) a w') →
    o.wp P a w next Q

/-- the same of an operation that only adds memory -/
def Adds (P : Program) (a : Act) (w : World) (ρ : Env) (op : Op) (ob : Objs) (K : V → Objs → Prop) : Prop :=
  ∃ v x w', K x ob ∧ x.rep w' ρ v ∧ Ext w w' ∧ ∀ (o : Oper), o.op = op → (execOp a.eval o).run P w = .ok (.value v) w'

section
variable {P : Program} {a : Act} {w : World} {ρ : Env} {sl : Slots} {ob : Objs} {K Pn : V → Objs → Prop}

theorem does_value {op : Op} {v : Value} {x : V} {ob' : Objs} {w' : World} {ρ' : Env} (hr : ∀ o : Oper, o.op = op → (execOp a.eval o).run P w = .ok (.value v) w')
    (hK : K x ob') (h1 : x.rep w' ρ' v) (h2 : OM w' ρ' ob') (h3 : Tr w ρ w' ρ') : Does P a w ρ op K Pn := by
  intro o ho next Q hn _
  unfold Oper.wp
  rw [hr o ho]
  exact hn v x ob' w' ρ' hK h1 h2 h3

theorem Adds.does {op : Op} (h : Adds P a w ρ op ob K) (hO : OM w ρ ob) : Does P a w ρ op K Pn := by
  obtain ⟨v, x, w', hK, h1, h2, h3⟩ := h
  exact does_value h3 hK h1 (hO.ext h2) h2.tr

/-- carried out, the operation adds memory at most -/
def DoesE (P : Program) (a : Act) (w : World) (ρ : Env) (op : Op) (ob : Objs) (K : V → Objs → Prop) : Prop :=
  ∀ (o : Oper), o.op = op → ∀ (next : Act → World → Prop) (Q : Exit → Act → World → Prop),
    (∀ v x w', K x ob → x.rep w' ρ v → Ext w w' → next (a.put o.dst v) w') → o.wp P a w next Q

theorem Adds.doesE {op : Op} (h : Adds P a w ρ op ob K) : DoesE P a w ρ op ob K := by
  obtain ⟨v, x, w', hK, h1, h2, h3⟩ := h
  intro o ho next Q hn
  unfold Oper.wp
  rw [h3 o ho]
  exact hn v x w' hK h1 h2

theorem DoesE.does {op : Op} (h : DoesE P a w ρ op ob K) (hO : OM w ρ ob) : Does P a w ρ op K Pn := fun o ho next Q hn _ =>
  h o ho next Q fun v x w' hK h1 h2 => hn v x ob w' ρ hK h1 (hO.ext h2) h2.tr

theorem does_skip {op : Op} {ob' : Objs} {w' : World} {ρ' : Env} (hr : ∀ o : Oper, o.op = op → (execOp a.eval o).run P w = .ok .skip w')
    (hK : K .undef ob') (h2 : OM w' ρ' ob') (h3 : Tr w ρ w' ρ') : Does P a w ρ op K Pn := by
  intro o ho next Q hn _
  unfold Oper.wp
  rw [hr o ho]
  exact hn undef .undef ob' w' ρ' hK (rep_undef.2 rfl) h2 h3

theorem does_c (hs : SM w ρ sl a) (hO : OM w ρ ob) {op : Op} {x : C} (hc : x.chk P op = true) (h : x.wp sl ob (fun v => K v ob)) : Does P a w ρ op K Pn := by
  obtain ⟨v, y, hK, h1, h2⟩ := C.sound hs hO hc h
  exact does_value (fun o ho => h2 o ho w (fun _ => Ext.refl w)) hK h1 hO (Tr.refl _ _)

theorem does_box (hs : SM w ρ sl a) (hO : OM w ρ ob) {op : Op} {E : Nat} {x : A} (hc : I.chk P op (.box E x) = true) (h : boxK E ob K (x.ev sl)) : Does P a w ρ op K Pn := by
  cases op <;> simp [I.chk] at hc
  rename_i E' y
  obtain ⟨rfl, hc⟩ := hc
  obtain ⟨h2, hK⟩ := h
  have h1 := fresh_none ob
  have r1 := A.sound hs hc
  have hre := cells_of_rep (V.sto_any h2) r1
  obtain ⟨t1, o1, p1⟩ := lay_box hO h1 hre E'
  refine does_value (fun o ho => ?_) hK p1 o1 t1
  simp only [execOp, ho, Instr.box, newVar, newRow, Sem.run_bind, run_newObj, Result.andThen_ok, Sem.run_pure, Array.toArray_toList]
  rfl

theorem does_alloc (hO : OM w ρ ob) {op : Op} {E0 : Nat} {z : D} (hc : I.chk P op (.alloc E0 z) = true) (h : boxK E0 ob K (.d z)) : Does P a w ρ op K Pn := by
  cases op <;> simp only [I.chk, Bool.false_eq_true] at hc
  rename_i E
  simp only [Bool.and_eq_true, beq_iff_eq] at hc
  obtain ⟨rfl, hc⟩ := hc
  obtain ⟨h2, hK⟩ := h
  have h1 := fresh_none ob
  cases hz : zeroT P E with
  | none => simp [hz] at hc
  | some cs =>
    simp only [hz] at hc
    obtain ⟨v, e1, _, hzr⟩ := zero_run hz
    have hre : (V.d z).repC w ρ cs := by simp only [V.repC]; exact D.isC_rep z cs hc
    obtain ⟨t1, o1, p1⟩ := lay_box hO h1 hre E
    refine does_value (fun o ho => ?_) hK p1 o1 t1
    simp only [execOp, ho, Instr.alloc, newVar, newRow, Sem.run_bind, hzr, run_newObj, Result.andThen_ok, Sem.run_pure]
    rw [← e1, Array.toArray_toList]
    rfl

theorem does_st (hs : SM w ρ sl a) (hO : OM w ρ ob) {op : Op} {n : Nat} {x v : A} (hc : I.chk P op (.st n x v) = true) (h : stK ob n (v.ev sl) K (x.ev sl)) : Does P a w ρ op K Pn := by
  cases op <;> simp [I.chk] at hc
  rename_i t y u
  obtain ⟨⟨hn, h1⟩, h2⟩ := hc
  have r1 := A.sound hs h1
  have r2 := A.sound hs h2
  unfold stK at h
  split at h
  · rename_i id p e1
    rw [e1] at r1
    unfold stKo at h
    split at h
    · rename_i E t0 hl
      obtain ⟨b, sh, hρ, r1⟩ := rep_ptr_box hO hl r1
      cases hat : t0.at p with
      | none => simp [hat, stKt] at h
      | some old =>
        simp only [hat, stKt] at h
        obtain ⟨hsh, hsz, hst, t', hset, hK⟩ := h
        obtain ⟨b', cs, g1, g2, g3⟩ := hO.one id _ hl
        rw [hρ] at g1
        simp only [Option.some.injEq, RO.box.injEq] at g1
        obtain ⟨rfl, rfl⟩ := g1
        have hre := cells_of_rep (V.sto_any hst) r2
        obtain ⟨t'', e2, e3, h4⟩ := V.repC_set p t0 old _ cs _ g3 hat hre hsh
        rw [hset] at e2
        simp only [Option.some.injEq] at e2
        subst e2
        obtain ⟨t1, o1⟩ := write_box hO hl hρ g2 e3 h4
        obtain ⟨c1, c2, c3, q1, q2, q3⟩ := V.repC_at p t0 old cs g3 hat
        have hlen := V.repC_len _ _ hre
        have hl2 := V.repC_len _ _ q3
        refine does_skip (fun o ho => ?_) hK o1 t1
        have hsize : (a.eval u).cells.size = n := by
          rw [← hsz]; unfold V.size; rw [← hsh, ← hlen]; simp
        have hrun := run_storeCells_at (P := P) b (t0.shape.off p) E (a.eval u).cells.toList 0 cs.toArray w g2 (by
          rw [hlen, hsh, ← hl2, ← q2, q1]; simp) (V.one _ _ hst hre)
        simp only [execOp, ho, Instr.storeAt, Instr.sureAddr, storeVar, r1, Sem.run_bind, Sem.run_pure, Result.andThen_ok, info_size hn, hsize, ne_eq, not_true, if_false]
        rw [hrun]
        simp
    · exact h.elim
  · exact h.elim

theorem does_panic (hs : SM w ρ sl a) (hO : OM w ρ ob) {op : Op} {x : A} (hc : I.chk P op (.panic x) = true) (h : panicK ob Pn (x.ev sl)) : Does P a w ρ op K Pn := by
  cases op <;> simp [I.chk] at hc
  have r1 := A.sound hs hc
  unfold panicK at h
  split at h
  · rename_i t v e1
    rw [e1] at r1
    have r2 := r1
    rw [rep_leaf (by simp [V.isAgg]) (by simp)] at r2
    simp only [V.repC, List.cons.injEq, and_true] at r2
    obtain ⟨c, r2, _⟩ := r2
    intro o ho next Q _ hq
    unfold Oper.wp
    have : (execOp a.eval o).run P w = .halt (.panic (.iface t c)) w := by simp [execOp, ho, Instr.panic, r2]
    rw [this]
    rw [r2] at r1
    exact hq _ _ _ _ _ h r1 hO (Tr.refl _ _)
  · rename_i t v e1
    rw [e1] at r1
    have r2 := r1
    rw [rep_difc] at r2
    obtain ⟨c, r2, _⟩ := r2
    intro o ho next Q _ hq
    unfold Oper.wp
    have : (execOp a.eval o).run P w = .halt (.panic (.iface t c)) w := by simp [execOp, ho, Instr.panic, r2]
    rw [this]
    rw [r2] at r1
    exact hq _ _ _ _ _ h r1 hO (Tr.refl _ _)
  · exact h.elim

theorem reps_append {w : World} {ρ : Env} : ∀ {xs ys : List V} {us vs : List Value}, V.reps w ρ xs us → V.reps w ρ ys vs → V.reps w ρ (xs ++ ys) (us ++ vs)
  | [], ys, us, vs, h1, h2 => by simp only [V.reps] at h1; subst h1; simpa using h2
  | x :: r, ys, us, vs, h1, h2 => by
    simp only [V.reps] at h1
    obtain ⟨u, us', rfl, h3, h4⟩ := h1
    simp only [List.cons_append, V.reps]
    exact ⟨u, us' ++ vs, rfl, h3, reps_append h4 h2⟩

theorem does_enter {P : Prg} (hg : ρ.gl = P.g) {op : Op} {f : Nat} {vs : List V} {args : List Value} (hr : ∀ o : Oper, o.op = op → (execOp a.eval o).run P.p w = .ok (.enter f args.toArray) w)
    (h : ACall P f vs ob (outK K Pn)) (hO : OM w ρ ob) (h1 : V.reps w ρ vs args) : Does P.p a w ρ op K Pn := by
  intro o ho next Q hn hq
  unfold Oper.wp
  rw [hr o ho]
  simp only [Oper.upon]
  refine (h.run w ρ args hO hg h1).mono fun e w' ⟨out, ob', ρ', k, r, o1, t1⟩ => ?_
  cases e with
  | returned u =>
    cases out with
    | ret v => exact hn u v ob' w' ρ' k r o1 t1
    | panic v => exact r.elim
  | panicked ch =>
    cases out with
    | ret v => exact r.elim
    | panic v => obtain ⟨u, rfl, r⟩ := r; exact hq u v ob' w' ρ' k r o1 t1
  | outgrown => cases out <;> exact r.elim

theorem callFunc_run {f : Nat} (h : callable P f = true) (args : Array Value) (w : World) : (callFunc f args).run P w = .ok (.enter f args) w := by
  unfold callable at h
  split at h
  · rename_i fn hf
    simp only [Bool.and_eq_true, bne_iff_ne, ne_eq] at h
    obtain ⟨b, hb⟩ := Option.isSome_iff_exists.1 h.2
    simp [callFunc, hf, h.1, hb]
  · simp at h

theorem does_call {P : Prg} (hg : ρ.gl = P.g) (hs : SM w ρ sl a) (hO : OM w ρ ob) {op : Op} {f : Nat} {args : List A} (hc : I.chk P.p op (.call f args) = true) (h : ACall P f (args.map (A.ev sl)) ob (outK K Pn)) : Does P.p a w ρ op K Pn := by
  cases op <;> simp only [I.chk, Bool.false_eq_true] at hc
  rename_i c
  obtain ⟨ca, as, ts⟩ := c
  cases ca <;> (try simp only [Bool.false_eq_true] at hc)
  rename_i g
  cases g <;> (try simp only [Bool.false_eq_true] at hc)
  simp only [Bool.and_eq_true, beq_iff_eq] at hc
  obtain ⟨⟨rfl, h1⟩, h2⟩ := hc
  refine does_enter hg (args := as.toList.map a.eval) (fun o ho => ?_) h hO (reps_eval hs h2)
  have : a.eval (.func f) = .func (.func f) #[] #[] := rfl
  simp only [execOp, ho, resolve, this, Deferred.ofValue, Sem.run_bind, Sem.run_pure, Result.andThen_ok, invoke, callFunc_run h1, map_toArr]
  simp

theorem doesE_pcall {P : Prg} (hg : ρ.gl = P.g) (hs : SM w ρ sl a) (hO : OM w ρ ob) {op : Op} {f : Nat} {args : List A} (hc : I.chk P.p op (.pcall f args) = true) (h : PCall P f (args.map (A.ev sl)) ob fun v => K v ob) : DoesE P.p a w ρ op ob K := by
  cases op <;> simp only [I.chk, Bool.false_eq_true] at hc
  rename_i c
  obtain ⟨ca, as, ts⟩ := c
  cases ca <;> (try simp only [Bool.false_eq_true] at hc)
  rename_i g
  cases g <;> (try simp only [Bool.false_eq_true] at hc)
  simp only [Bool.and_eq_true, beq_iff_eq] at hc
  obtain ⟨⟨rfl, h1⟩, h2⟩ := hc
  intro o ho next Q hn
  have hrun : (execOp a.eval o).run P.p w = .ok (.enter f (as.toList.map a.eval).toArray) w := by
    have : a.eval (.func f) = .func (.func f) #[] #[] := rfl
    simp only [execOp, ho, resolve, this, Deferred.ofValue, Sem.run_bind, Sem.run_pure, Result.andThen_ok, invoke, callFunc_run h1, map_toArr]
    simp
  unfold Oper.wp
  rw [hrun]
  simp only [Oper.upon]
  refine (h.run w ρ _ hO hg (reps_eval hs h2)).mono fun e w' ⟨v, u, k, he, r, x⟩ => ?_
  subst he
  exact hn u v w' k r x

theorem does_callv {P : Prg} (hg : ρ.gl = P.g) (hs : SM w ρ sl a) (hO : OM w ρ ob) {op : Op} {x : A} {args : List A} (hc : I.chk P.p op (.callv x args) = true) (h : callvK P (args.map (A.ev sl)) ob K Pn (x.ev sl)) : Does P.p a w ρ op K Pn := by
  cases op <;> simp only [I.chk, Bool.false_eq_true] at hc
  rename_i c
  obtain ⟨ca, as, ts⟩ := c
  cases ca <;> (try simp only [Bool.false_eq_true] at hc)
  rename_i g
  simp only [Bool.and_eq_true] at hc
  obtain ⟨h1, h2⟩ := hc
  have r1 := A.sound hs h1
  unfold callvK at h
  split at h
  · rename_i f fi ca e1
    rw [e1, rep_fn] at r1
    obtain ⟨fs, gs, r1, r2, r3⟩ := r1
    refine does_enter hg (args := fs ++ as.toList.map a.eval ++ gs) (fun o ho => ?_) h.2 hO (reps_append (reps_append r2 (reps_eval hs h2)) r3)
    simp only [execOp, ho, resolve, r1, Deferred.ofValue, Sem.run_bind, Sem.run_pure, Result.andThen_ok, invoke, callFunc_run h.1, map_toArr]
    simp
  · rename_i f fi ca e1
    rw [e1, rep_dfn] at r1
    obtain ⟨fs, gs, r1, r2, r3⟩ := r1
    refine does_enter hg (args := fs ++ as.toList.map a.eval ++ gs) (fun o ho => ?_) h.2 hO (reps_append (reps_append r2 (reps_eval hs h2)) r3)
    simp only [execOp, ho, resolve, r1, Deferred.ofValue, Sem.run_bind, Sem.run_pure, Result.andThen_ok, invoke, callFunc_run h.1, map_toArr]
    simp
  · exact h.elim

theorem does_mvf (hs : SM w ρ sl a) (hO : OM w ρ ob) {op : Op} {x : A} (hc : I.chk P op (.mvf x) = true) (h : givK K (V.giv ob (x.ev sl))) : Does P a w ρ op K Pn := by
  cases hg : V.giv ob (x.ev sl) with
  | none => simp [hg, givK] at h
  | some q =>
    obtain ⟨d, ob'⟩ := q
    simp only [hg, givK] at h
    cases op <;> simp [I.chk] at hc
    all_goals
      have r1 := A.sound hs hc
      obtain ⟨ρ', t1, o1, r2⟩ := giv_temp hO r1 hg
      exact does_value (fun o ho => by simp [execOp, ho]) h r2 o1 t1

theorem does_ldf (hs : SM w ρ sl a) (hO : OM w ρ ob) {op : Op} {n : Nat} {ag : Bool} {x : A} (hc : I.chk P op (.ldf n ag x) = true) (h : ldfK n ag ob K (x.ev sl)) : Does P a w ρ op K Pn := by
  have hc' : C.chk P op (.ld n ag x) = true := hc
  unfold ldfK at h
  split at h
  · rename_i id p e1
    cases hat : atO ob id p with
    | none => simp [hat, ldfKo] at h
    | some v =>
      simp only [hat, ldfKo] at h
      obtain ⟨h1, h2, h⟩ := h
      cases hg : V.giv ob v with
      | none => simp [hg, givK] at h
      | some q =>
        obtain ⟨d, ob'⟩ := q
        simp only [hg, givK] at h
        obtain ⟨u, y, hy, hr, hrun⟩ := sound_ld (K := fun y => y = v) hs hO hc' (by rw [e1]; simp only [ldK, hat, ldKo]; exact ⟨h1, h2, trivial⟩)
        subst hy
        obtain ⟨ρ', t1, o1, r2⟩ := giv_temp hO hr hg
        exact does_value (fun o ho => hrun o ho w (fun _ => Ext.refl w)) h r2 o1 t1
  · exact h.elim

theorem does_mvg (hs : SM w ρ sl a) (hO : OM w ρ ob) {op : Op} {E sz : Nat} {y x : A} {p : List Nat} (hc : I.chk P op (.mvg E sz y x p) = true) (h : mvgK ob E sz p (y.ev sl) K (x.ev sl)) : Does P a w ρ op K Pn := by
  unfold mvgK at h
  split at h
  · rename_i id q e1
    unfold mvgKt at h
    split at h
    · rename_i E0 t hl
      obtain ⟨hat, h⟩ := h
      obtain ⟨b, cs, g1, g2, g3⟩ := hO.one id _ hl
      have hne : id ≠ fresh ob := by intro e; subst e; rw [fresh_none] at hl; cases hl
      have hbl : ∀ b, RO.virt.blk? = some b → w.heap.size ≤ b := fun b hb => by simp [RO.blk?] at hb
      have t1 := ins_tr w (Ext.refl w) (o := .virt) (hO.free (fresh_none ob)) hbl
      have o1 : OM w (ρ.ins (fresh ob) .virt) ((fresh ob, .arr E sz []) :: ob) := hO.ins (Ext.refl w) (fresh_none ob) hbl (.inl ⟨by simp [Env.ins], rfl⟩)
      have g3' := V.repC_tr t1 _ _ g3
      obtain ⟨c1, c2, c3, e2, e3, h4⟩ := V.repC_at (q ++ p) t (.d .nils) cs g3' hat
      simp only [V.repC, D.rep] at h4
      subst h4
      obtain ⟨t', e4, e5, h6⟩ := V.repC_set (q ++ p) t (.d .nils) (.sl (fresh ob) 0) cs [.slice none 0 0] g3' hat (by simp only [V.repC]; exact ⟨.virt, _, by simp [Env.ins], rfl, rfl, rfl⟩) (by simp [V.shape, D.shape])
      rw [e4] at h
      simp only [mvgKs] at h
      have e7 : cs.take (t.shape.off (q ++ p)) ++ ([Value.slice none 0 0] ++ cs.drop (t.shape.off (q ++ p) + [Value.slice none 0 0].length)) = cs := by
        rw [← e3, e2]; simp
      rw [e7] at h6
      have hl1 : lookO ((fresh ob, Ob.arr E sz []) :: ob) id = some (.box E0 t) := by simp [lookO, hne.symm, hl]
      obtain ⟨t2, o2⟩ := write_box o1 (t' := t') hl1 (by simp [Env.ins, hne, g1]) g2 e5 h6
      have hw : w.setRow b cs.toArray = w := by
        have : w.heap[b]? = some (.cells cs.toArray E0 (0, 0)) := g2
        obtain ⟨hb, hb'⟩ := Array.getElem?_eq_some_iff.1 this
        unfold World.setRow
        have hh : (w.heap.modify b fun o => match o with | .cells _ e f => .cells cs.toArray e f | o => o) = w.heap := by
          apply Array.ext_getElem?
          intro j
          rw [Array.getElem?_modify]
          split
          · rename_i e; subst e; rw [this]; simp
          · rfl
        cases w
        simp only [World.mk.injEq, and_true, true_and]
        exact hh
      rw [hw] at t2 o2
      simp only [setO, hne.symm, if_false] at o2
      cases op <;> simp [I.chk] at hc
      all_goals
        have r1 := A.sound hs hc
        exact does_value (fun o ho => by simp [execOp, ho]) h (V.rep_tr t1 r1) o2 t1
    · exact h.elim
  · exact h.elim
end
end Go.Ab
