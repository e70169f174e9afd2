/- That slice literals, appends and conversions between strings and bytes do what Ab9 says of them; and all operations together. Over any program; no condition. -/
import Derived.Test.YtlkpnkkgkjkmbaaDoorAb10
namespace Go.Ab
open Go
section
variable {P : Program} {a : Act} {w : World} {ρ : Env} {sl : Slots} {ob : Objs} {K Pn : V → Objs → Prop}

/-- a slice literal: the new row and what lies in it -/
theorem row_run (hs : SM w ρ sl a) {z : List D} {parts : List (Nat × A)} {t e : TypeId} {len sz : Nat} {ps : Array (Nat × Operand)} {K : List V → Prop} (hst : P.underlying t = some (.slice e)) (he : sizeT P e = some sz)
    (hp : chkParts ps.toList parts = true) (hl : z.length = len) (h24 : len * sz ≤ 2 ^ 24) (hu : ∀ x ∈ z, x.sz = sz) (hz : (match zeroRow P e len sz with | some cs => D.isCs z cs | none => false) = true)
    (h : bldK (z.map .d) (parts.map fun (i, x) => (i, x.ev sl)) K) :
    ∃ ks cs, K ks ∧ V.repCs w ρ ks cs ∧ ks.map V.shape = (z.map V.d).map V.shape ∧ ∀ o : Oper, o.op = .buildSlice t len ps → (execOp a.eval o).run P w = .ok (.value (.slice (some ⟨w.heap.size, 0, none⟩) len len)) (addB w (.cells cs.toArray e)) := by
  cases hzr : zeroRow P e len sz with
  | none => simp [hzr] at hz
  | some cs =>
    simp only [hzr] at hz
    have hrep : V.repCs w ρ (z.map .d) cs := (V.repCs_d z cs).2 (D.isCs_rep z cs hz)
    have hplace : ∀ i, i < ((z.map V.d).map V.shape).length → (fun i => some (i * sz, sz)) i = some (Sh.sizes (((z.map V.d).map V.shape).take i), (((z.map V.d).map V.shape).getD i .leaf).size) := by
      intro i hi
      have hi' : i < z.length := by simpa using hi
      have hx : z[i].shape.size = sz := by rw [D.size_shape]; exact hu _ (List.getElem_mem hi')
      rw [← szs_take, D.szs_uniform (sz := sz) _ (fun x hx => hu x (List.mem_of_mem_take hx)), List.length_take, Nat.min_eq_left (by omega)]
      simp [hi', V.shape, hx]
    have hkeep : ∀ (ks : List V) (ps : List (Nat × V)) (K : List V → Prop), bldK ks ps K → bldK ks ps (fun ks' => K ks' ∧ ks'.map V.shape = ks.map V.shape) := by
      intro ks ps
      induction ps generalizing ks with
      | nil => intro K h; exact ⟨h, rfl⟩
      | cons p r ih =>
        obtain ⟨i, v⟩ := p
        intro K h
        simp only [bldK] at h ⊢
        obtain ⟨h1, h2, h3, h4⟩ := h
        refine ⟨h1, h2, h3, ?_⟩
        have h5 := ih (ks.set i v) K h4
        have e : (ks.set i v).map V.shape = ks.map V.shape := by
          rw [List.map_set, h2]
          apply List.ext_getElem?
          intro j
          by_cases hj : i = j
          · subst hj; rw [List.getElem?_set]; simp [h1]
          · rw [List.getElem?_set]; simp [hj]
        rw [e] at h5
        exact h5
    obtain ⟨ks', cs', ⟨hK, hsh⟩, hR, hF⟩ := fill_run (sl := sl) hs (fun i => some (i * sz, sz)) ((z.map V.d).map V.shape) hplace ps.toList parts (z.map .d) cs _ hp hrep rfl (hkeep _ _ _ h)
    refine ⟨ks', cs', hK, hR, hsh, fun o ho => ?_⟩
    have hparts : ∀ ρ' : Operand → Value, (ps.map fun (i, x) => (i, ρ' x)).toList = ps.toList.map fun (i, x) => (i, ρ' x) := fun ρ' => by simp
    simp only [execOp, ho, Instr.buildSlice, Sem.run_bind, underlying_run hst, info_size he, Result.andThen_ok, hparts]
    rw [if_neg (by omega)]
    unfold zeroRow at hzr
    by_cases h0 : len * sz = 0
    · simp only [h0, if_true, Option.some.injEq] at hzr
      subst hzr
      simp only [h0, if_true, Sem.run_pure]
      have : (Array.map (fun x => (#[] : Array Value)[x % (#[] : Array Value).size]!) (Array.range 0)) = ([] : List Value).toArray := by simp
      simp only [this, hF, newRow, Sem.run_bind, run_newObj, Result.andThen_ok, Sem.run_pure]
      rfl
    · simp only [h0, if_false] at hzr ⊢
      cases hzt : zeroT P e with
      | none => simp [hzt] at hzr
      | some zc =>
        simp only [hzt, Option.map_some, Option.some.injEq] at hzr
        obtain ⟨zv, e1, _, hzrun⟩ := zero_run hzt
        have e2 : zv.cells = zc.toArray := by rw [← e1]
        have e3 : Array.map (fun x => zv.cells[x % zv.cells.size]!) (Array.range (len * sz)) = cs.toArray := by
          rw [e2, ← hzr, Array.toArray_toList]
        simp only [Sem.run_bind, hzrun, Result.andThen_ok, Sem.run_pure, e3, hF, newRow, run_newObj]
        rfl

theorem sz_of_shapes {l z : List D} {sz : Nat} (h : (l.map V.d).map V.shape = (z.map V.d).map V.shape) (hu : ∀ x ∈ z, x.sz = sz) : l.length = z.length ∧ ∀ x ∈ l, x.sz = sz := by
  have hlen : l.length = z.length := by simpa using congrArg List.length h
  refine ⟨hlen, fun x hx => ?_⟩
  obtain ⟨i, hi, rfl⟩ := List.getElem_of_mem hx
  have h1 := congrArg (fun s : List Sh => (s.getD i .leaf).size) h
  simp only [List.getD_eq_getElem?_getD, List.getElem?_map, List.getElem?_eq_getElem hi, List.getElem?_eq_getElem (hlen ▸ hi), Option.map_some, Option.getD_some, V.shape, D.size_shape] at h1
  rw [h1]; exact hu _ (List.getElem_mem _)

theorem chk_bls {z : List D} {parts : List (Nat × A)} {op : Op} {sz : Nat} {E? : Option Nat}
    (hc : chkRow P op E? sz z parts = true) :
    ∃ t len ps e, op = .buildSlice t len ps ∧ P.underlying t = some (.slice e) ∧ (∀ E, E? = some E → e = E) ∧ sizeT P e = some sz ∧ chkParts ps.toList parts = true ∧ z.length = len ∧ len * sz ≤ 2 ^ 24 ∧ (∀ x ∈ z, x.sz = sz) ∧ (match zeroRow P e len sz with | some cs => D.isCs z cs | none => false) = true := by
  cases op <;> simp only [chkRow, Bool.false_eq_true] at hc
  rename_i t len ps
  simp only [Bool.and_eq_true] at hc
  obtain ⟨hp, hc⟩ := hc
  split at hc
  · rename_i e hst
    simp only [Bool.and_eq_true, beq_iff_eq, decide_eq_true_eq, List.all_eq_true] at hc
    obtain ⟨⟨⟨⟨⟨h0, h1⟩, h2⟩, h3⟩, h4⟩, h5⟩ := hc
    refine ⟨t, len, ps, e, rfl, hst, fun E hE => ?_, h1, hp, h2, h3, h4, h5⟩
    subst hE; simpa using h0
  · simp at hc

theorem adds_bls (hs : SM w ρ sl a) (hO : OM w ρ ob) {op : Op} {sz : Nat} {z : List D} {parts : List (Nat × A)} (hc : I.chk P op (.bls sz z parts) = true)
    (h : bldK (z.map .d) (parts.map fun (i, x) => (i, x.ev sl)) fun ks => dK (fun l => K (.d (.list sz l)) ob) (V.allD ks)) : Adds P a w ρ op ob K := by
  obtain ⟨t, len, ps, e, rfl, hst, _, he, hp, hl, h24, hu, hz⟩ := chk_bls (P := P) (op := op) (z := z) (parts := parts) (sz := sz) (E? := none) hc
  obtain ⟨ks, cs, hK, hR, hsh, hrun⟩ := row_run hs hst he hp hl h24 hu hz h
  cases ha : V.allD ks with
  | none => simp [ha, dK] at hK
  | some l =>
    simp only [ha, dK] at hK
    have e1 := V.allD_map ha
    subst e1
    rw [V.repCs_d] at hR
    obtain ⟨g1, g2⟩ := sz_of_shapes hsh hu
    have he2 := ext_add w (.cells cs.toArray e)
    refine ⟨_, _, _, hK, rep_list.2 (.inr ⟨_, len, cs, by rw [g1, hl], by omega, ?_, D.repL_mono (he2.tr (ρ := ρ)).mono _ _ hR, g2⟩), he2, hrun⟩
    refine ⟨rfl, fun _ => ⟨?_, ?_⟩, fun i hi => ?_⟩
    · rintro (⟨id, o, h1, h2⟩ | h1)
      · have := own_lt hO h1 h2; simp at this
      · have := hO.xlt _ h1; simp at this
    · have := add_new w (.cells cs.toArray e); exact lt_of_some this
    · simp [World.cell?, add_new, hi]

theorem does_blo (hs : SM w ρ sl a) (hO : OM w ρ ob) {op : Op} {E sz : Nat} {z : List D} {parts : List (Nat × A)} (hc : I.chk P op (.blo E sz z parts) = true)
    (h : bldK (z.map .d) (parts.map fun (i, x) => (i, x.ev sl)) fun ks => dK (fun l => K (.sl (fresh ob) l.length) ((fresh ob, .arr E sz l) :: ob)) (V.allD ks)) : Does P a w ρ op K Pn := by
  have hfree := fresh_none ob
  obtain ⟨t, len, ps, e, rfl, hst, hE, he, hp, hl, h24, hu, hz⟩ := chk_bls (P := P) (op := op) (z := z) (parts := parts) (sz := sz) (E? := some E) hc
  obtain rfl := hE E rfl
  obtain ⟨ks, cs, hK, hR, hsh, hrun⟩ := row_run hs hst he hp hl h24 hu hz h
  cases ha : V.allD ks with
  | none => simp [ha, dK] at hK
  | some l =>
    simp only [ha, dK] at hK
    have e1 := V.allD_map ha
    subst e1
    rw [V.repCs_d] at hR
    obtain ⟨g1, g2⟩ := sz_of_shapes hsh hu
    have he2 := ext_add w (.cells cs.toArray e)
    have hbl : ∀ b, (RO.arr w.heap.size l.length l.length).blk? = some b → w.heap.size ≤ b := fun b hb => by simp [RO.blk?] at hb; omega
    have t1 := ins_tr _ he2 (o := .arr w.heap.size l.length l.length) (hO.free hfree) hbl
    refine does_value hrun hK (rep_sl.2 ⟨_, by simp [Env.ins]; rfl, ?_⟩) (hO.ins he2 hfree hbl ?_) t1
    · simp only [RO.slice]
      exact ⟨Nat.le_refl _, ⟨_, _, _, rfl⟩, fun _ => by rw [g1, hl]⟩
    · refine .inr ⟨w.heap.size, l.length, cs, [], by simp [Env.ins], by simpa using add_new w (.cells cs.toArray e), D.repL_mono t1.mono _ _ hR, g2, ?_⟩
      rw [List.append_nil, D.repL_len _ _ hR, D.szs_uniform _ g2]

/-- one growing object is written or moved -/
theorem grow_obj (hO : OM w ρ ob) {id : Nat} {x x' : Ob} {o : RO} {w' : World} (hl : lookO ob id = some x) (t : Tr w ρ w' (ρ.ins id o)) (hx : OneM w' (ρ.ins id o) id x')
    (hb : ∀ b, o.blk? = some b → w.heap.size ≤ b ∨ ∃ p, ρ.m id = some p ∧ p.blk? = some b) (hk : ∀ j p b, j ≠ id → ρ.m j = some p → p.blk? = some b → w'.heap[b]? = w.heap[b]?) : OM w' (ρ.ins id o) (setO ob id x') := by
  refine ⟨fun j y hy => ?_, fun j p hj => ?_, fun i j p q b h1 h2 h3 h4 => ?_, fun b hb => Nat.lt_of_lt_of_le (hO.xlt b hb) t.size, glb_tr t hO.glb, fun b h1 h2 => ?_, hO.once.set⟩
  · rw [lookO_setO ob id j ⟨_, hl⟩] at hy
    split at hy
    · rename_i e; subst e; simp at hy; subst hy; exact hx
    · rename_i e
      exact OneM.tr t (hO.one j y hy) (by simp [Env.ins, e]) (fun b p h1 h2 => hk j p b e h1 h2)
  · rw [lookO_setO ob id j ⟨_, hl⟩]
    split
    · exact ⟨_, rfl⟩
    · rename_i e; exact hO.dom j p (by simpa [Env.ins, e] using hj)
  · simp only [Env.ins] at h1 h2
    split at h1
    · rename_i e1
      split at h2
      · rename_i e2; exact e1.trans e2.symm
      · simp at h1; subst h1
        rcases hb b h3 with h5 | ⟨r, h5, h6⟩
        · have := own_lt hO h2 h4; omega
        · subst e1; exact hO.inj _ _ _ _ _ h5 h2 h6 h4
    · split at h2
      · rename_i e2
        simp at h2; subst h2
        rcases hb b h4 with h5 | ⟨r, h5, h6⟩
        · have := own_lt hO h1 h3; omega
        · subst e2; exact hO.inj _ _ _ _ _ h1 h5 h3 h6
      · exact hO.inj i j p q b h1 h2 h3 h4
  · obtain ⟨i, p, h3, h4⟩ := h1
    simp only [Env.ins] at h3 h2
    split at h3
    · simp at h3; subst h3
      rcases hb b h4 with h5 | ⟨r, h5, h6⟩
      · have := hO.xlt b h2; omega
      · exact hO.xdis b ⟨_, r, h5, h6⟩ h2
    · exact hO.xdis b ⟨i, p, h3, h4⟩ h2
end
end Go.Ab
