/- That the operations that only read do what Ab4 says of them: literals, type assertions; and all of them together. Over any program; no condition. -/
import Derived.Test.YtlkpnkkgkjkmbaaDoorAb6
import Derived.Lib.UnsafeStr
namespace Go.Ab
open Go
section
variable {P : Program} {a : Act} {w : World} {ρ : Env} {sl : Slots} {objs : Objs} {K : V → Prop}

theorem zero_run {t : TypeId} {cs : List Value} (h : zeroT P t = some cs) : ∃ v, v.cells.toList = cs ∧ (P.info? t).bind (·.zero) = some v ∧ ∀ w', (zeroValue t).run P w' = .ok v w' := by
  unfold zeroT at h
  cases hi : P.info? t with
  | none => simp [hi] at h
  | some i =>
    cases hz : i.zero with
    | none => simp [hi, hz] at h
    | some v =>
      simp [hi, hz] at h
      exact ⟨v, h, by simp [hz], fun w' => by simp [zeroValue, typeInfo, hi, hz]⟩

theorem mapM_places (fs : List Field) (hsz : fs.all (fun fl => (sizeT P fl.type).isSome) = true) (w' : World) :
    (fs.mapM (fun f => (do pure (f.offset, ← sizeOf f.type) : Sem (Nat × Nat)))).run P w' = .ok (fs.map fun fl => (fl.offset, (sizeT P fl.type).getD 0)) w' := by
  induction fs with
  | nil => simp
  | cons x r ih =>
    simp only [List.all_cons, Bool.and_eq_true] at hsz
    obtain ⟨n, hn⟩ := Option.isSome_iff_exists.1 hsz.1
    simp only [List.mapM_cons, Sem.run_bind, info_size hn, Result.andThen_ok, Sem.run_pure, ih hsz.2, List.map_cons, hn, Option.getD_some]

theorem szs_take (z : List D) (i : Nat) : D.szs (z.take i) = Sh.sizes (((z.map V.d).map V.shape).take i) := by
  rw [← List.map_take, ← List.map_take, ← D.sizes_shapes, D.shapes_eq]
  simp [V.shape, Function.comp_def]

theorem sound_bld (hs : SM w ρ sl a) {z : List D} {parts : List (Nat × A)} {op : Op} (hc : C.chk P op (.bld z parts) = true)
    (h : bldK (z.map .d) (parts.map fun (i, x) => (i, x.ev sl)) fun ks => K (V.mk ks)) : Yields P a w ρ op K := by
  cases op <;> simp only [C.chk, Bool.false_eq_true] at hc
  rename_i t ps
  simp only [Bool.and_eq_true] at hc
  obtain ⟨⟨hp, hz⟩, ht⟩ := hc
  cases hzt : zeroT P t with
  | none => simp [hzt] at hz
  | some cs =>
    simp only [hzt] at hz
    obtain ⟨zv, e1, e2, hzr⟩ := zero_run hzt
    have hrep : V.repCs w ρ (z.map .d) cs := (V.repCs_d z cs).2 (D.isCs_rep z cs hz)
    have ecs : zv.cells = cs.toArray := by rw [← e1]
    have key : ∀ place : Nat → Option (Nat × Nat), (∀ i, i < z.length → place i = some (D.szs (z.take i), (z.getD i default).sz)) →
        (∀ (o : Oper), o.op = .build t ps → ∀ w' cells, Instr.fill place cs.toArray (ps.toList.map fun (i, x) => (i, a.eval x)) = some cells → (execOp a.eval o).run P w' = .ok (.value (.agg cells)) w') →
        Yields P a w ρ (.build t ps) K := by
      intro place hpl hrun
      obtain ⟨ks', cs', hK, hR, hF⟩ := fill_run (sl := sl) hs place ((z.map V.d).map V.shape) (fun i hi => by
        rw [hpl i (by simpa using hi), szs_take]
        have hi' : i < z.length := by simpa using hi
        congr 2
        simp [hi', V.shape, D.size_shape]) ps.toList parts (z.map .d) cs _ hp hrep rfl h
      exact ⟨.agg cs'.toArray, V.mk ks', hK, (rep_kids (V.kids_mk ks')).2 ⟨cs', rfl, hR⟩, fun o ho w' _ => hrun o ho w' _ hF⟩
    have hparts : ∀ ρ' : Operand → Value, (ps.map fun (i, x) => (i, ρ' x)).toList = ps.toList.map fun (i, x) => (i, ρ' x) := fun ρ' => by simp
    split at ht
    · rename_i fs hst
      simp only [Bool.and_eq_true, beq_iff_eq] at ht
      obtain ⟨h1, h2⟩ := ht
      refine key (fun i => ((fs.toList.map fun fl => (fl.offset, (sizeT P fl.type).getD 0)).toArray)[i]?) (fun i hi => ?_) (fun o ho w' cells hF => ?_)
      · rw [h2]; simp [hi]
      · have hm := mapM_places (P := P) fs.toList h1 w'
        have hm2 : (fs.mapM (fun f => (do pure (f.offset, ← sizeOf f.type) : Sem (Nat × Nat)))).run P w' = .ok ((fs.toList.map fun fl => (fl.offset, (sizeT P fl.type).getD 0)).toArray) w' := by
          rw [Array.mapM_eq_mapM_toList]
          simp only [Sem.run_map, hm, Result.andThen_ok]
        simp only [execOp, ho, Instr.build, Sem.run_bind, hzr, Result.andThen_ok, underlying_run hst, hm2, hparts, ecs, hF, Sem.run_pure]
    · rename_i n e hst
      cases he : sizeT P e with
      | none => simp [he] at ht
      | some sz =>
        simp only [he, List.all_eq_true, beq_iff_eq] at ht
        refine key (fun i => some (i * sz, sz)) (fun i hi => ?_) (fun o ho w' cells hF => ?_)
        · rw [D.szs_uniform (sz := sz) _ (fun x hx => ht x (List.mem_of_mem_take hx)), List.length_take, Nat.min_eq_left (by omega)]
          simp [hi, ht _ (List.getElem_mem hi)]
        · simp only [execOp, ho, Instr.build, Sem.run_bind, hzr, Result.andThen_ok, underlying_run hst, info_size he, hparts, ecs, hF, Sem.run_pure]
    · simp at ht

theorem sound_tas (hs : SM w ρ sl a) {t : Nat} {z : D} {x : A} {op : Op} (hc : C.chk P op (.tas t z x) = true) (h : tasK t z K (x.ev sl)) : Yields P a w ρ op K := by
  cases op <;> simp only [C.chk, Bool.false_eq_true] at hc
  rename_i x1 xt u co
  cases co <;> simp only [Bool.false_eq_true] at hc
  simp only [Bool.and_eq_true, beq_iff_eq] at hc
  obtain ⟨⟨⟨rfl, h0⟩, hz⟩, h1⟩ := hc
  obtain ⟨d, hd, hni⟩ : ∃ d, P.underlying t = some d ∧ ∀ ms, d ≠ .interface ms := by
    revert h0; split <;> simp_all
  have r1 := A.sound hs h1
  cases hzt : zeroT P t with
  | none => simp [hzt] at hz
  | some cs =>
    simp only [hzt, Bool.and_eq_true, beq_iff_eq] at hz
    obtain ⟨hz1, hz2⟩ := hz
    obtain ⟨zv, e1, e2, hzr⟩ := zero_run hzt
    have hzrep : (V.d z).rep w ρ zv := by
      have hr : (V.d z).repC w ρ cs := by simp only [V.repC]; exact D.isC_rep z cs hz1
      rw [e2] at hz2
      simp only [Option.map_some, Option.some.injEq] at hz2
      cases zv with
      | agg cs' =>
        simp only at hz2
        refine .inr (.inl ⟨hz2.symm, cs, ?_, hr⟩)
        simp only [Value.cells] at e1
        rw [← e1]
      | _ =>
        simp only at hz2
        refine .inr (.inr ⟨hz2.symm, ?_⟩)
        simp only [Value.cells] at e1
        rw [← e1] at hr
        simpa using hr
    have tup : ∀ {v : V} {u : Value} (b : Bool), v.rep w ρ u → (V.tup [v, .d (.bool b)]).rep w ρ (.tuple #[u, .bool b]) := fun b hv => by
      rw [rep_tup]
      refine ⟨[_, .bool b], rfl, ?_⟩
      simp only [V.reps]
      exact ⟨_, _, rfl, hv, _, _, rfl, rep_bool.2 rfl, rfl⟩
    unfold tasK at h
    split at h
    · rename_i t' v e3
      rw [e3, rep_leaf (by simp [V.isAgg]) (by simp)] at r1
      simp only [V.repC, List.cons.injEq, and_true] at r1
      obtain ⟨c, r1, r2⟩ := r1
      by_cases htt : t' = t
      · refine ⟨_, _, h.1 htt, tup true r2, fun o ho w' _ => ?_⟩
        subst htt
        simp only [execOp, ho, Instr.typeAssert, Sem.run_bind, underlying_run hd, Result.andThen_ok, r1]
        cases d <;> simp_all
      · refine ⟨_, _, h.2 htt, tup false hzrep, fun o ho w' _ => ?_⟩
        simp only [execOp, ho, Instr.typeAssert, Sem.run_bind, underlying_run hd, Result.andThen_ok, r1]
        cases d <;> simp_all
    · rename_i t' v e3
      rw [e3, rep_difc] at r1
      obtain ⟨c, r1, r2⟩ := r1
      by_cases htt : t' = t
      · refine ⟨_, _, h.1 htt, tup true r2, fun o ho w' _ => ?_⟩
        subst htt
        simp only [execOp, ho, Instr.typeAssert, Sem.run_bind, underlying_run hd, Result.andThen_ok, r1]
        cases d <;> simp_all
      · refine ⟨_, _, h.2 htt, tup false hzrep, fun o ho w' _ => ?_⟩
        simp only [execOp, ho, Instr.typeAssert, Sem.run_bind, underlying_run hd, Result.andThen_ok, r1]
        cases d <;> simp_all
    · rename_i e3
      rw [e3, rep_nili] at r1
      refine ⟨_, _, h, tup false hzrep, fun o ho w' _ => ?_⟩
      simp only [execOp, ho, Instr.typeAssert, Sem.run_bind, underlying_run hd, Result.andThen_ok, r1]
      cases d <;> simp_all
    · exact h.elim

theorem sound_usd (hs : SM w ρ sl a) (hO : OM w ρ objs) {op : Op} {x : A} (hc : C.chk P op (.usd x) = true) (h : usdK objs K (x.ev sl)) : Yields P a w ρ op K := by
  cases op <;> simp only [C.chk, Bool.false_eq_true] at hc
  rename_i c
  obtain ⟨ca, args, ts⟩ := c
  cases ca <;> (try simp only [Bool.false_eq_true] at hc)
  rename_i b
  cases b <;> (try simp only [Bool.false_eq_true] at hc)
  split at hc
  · rename_i u e1
    have ea : args = #[u] := by simpa using congrArg List.toArray e1
    subst ea
    have r1 := A.sound hs hc
    have hrun : ∀ (val : Value) (o : Oper) (w' : World), o.op = .call { callee := .builtin .unsafeSliceData, args := #[u], argTypes := ts } → (Builtin.unsafeSliceData_ ts o.type #[a.eval u]).run P w' = .ok val w' → (execOp a.eval o).run P w' = .ok (.value val) w' := by
      intro val o w' ho hr
      simp only [execOp, ho, resolve, invoke, builtin, Sem.run_bind, Sem.run_pure, Result.andThen_ok, List.map_toArray, List.map_cons, List.map_nil, hr]
    unfold usdK at h
    split at h
    · rename_i id n e2
      obtain ⟨⟨E, sz, xs, hl, hsz, rfl, hne⟩, hK⟩ := h
      rw [e2, rep_sl] at r1
      obtain ⟨o, hρ, hv⟩ := r1
      rcases hO.one id _ hl with ⟨h1, rfl⟩ | ⟨b, cap, cs, sp, h1, h2, h3, h4, h5⟩
      · exact absurd rfl hne
      · rw [hρ] at h1; simp at h1; subst h1
        have hu := hv.2.2 rfl
        have hcap : cap ≠ 0 := by
          intro e; subst e
          have hcl : cs.length = xs.length * sz := by rw [D.repL_len _ _ h3, D.szs_uniform _ h4]
          have hx : xs.length ≠ 0 := by simpa using hne
          have : 0 < xs.length * sz := Nat.mul_pos (Nat.pos_of_ne_zero hx) (Nat.pos_of_ne_zero hsz)
          simp at h5; rw [h5.1] at hcl; simp at hcl; omega
        refine ⟨_, _, hK, rep_sd.2 ⟨_, hρ, Nat.le_refl _, ⟨_, rfl⟩, fun _ _ => rfl⟩, fun o ho w' _ => hrun _ o w' ho (by rw [hu]; exact Lib.run_unsafeSliceData_row _ _ _ _ _ _ hcap)⟩
    · rename_i e2
      rw [e2, rep_nils] at r1
      exact ⟨_, _, h, rep_nilp.2 rfl, fun o ho w' _ => hrun _ o w' ho (by rw [r1]; exact Lib.run_unsafeSliceData_nil _ _ _ _ _)⟩
    · exact h.elim
  · simp at hc

def C.isLd : C → Bool
  | .ld _ _ _ => true
  | _ => false

theorem C.sound (hs : SM w ρ sl a) (hO : OM w ρ objs) {op : Op} : ∀ {c : C}, c.chk P op = true → c.wp sl objs K → YieldsAt c.isLd P a w ρ op K
  | .mv _, hc, h => sound_mv hs hc h
  | .pick _ _ _, hc, h => sound_pick hs hc h
  | .not _, hc, h => sound_not hs hc h
  | .neg _, hc, h => sound_neg hs hc h
  | .bin _ _ _, hc, h => sound_bin hs hc h
  | .beq _ _ _, hc, h => sound_beq hs hc h
  | .isnil _ _, hc, h => sound_isnil hs hc h
  | .pnil _ _, hc, h => sound_pnil hs hc h
  | .fnil _ _, hc, h => sound_fnil hs hc h
  | .peq _ _ _, hc, h => sound_peq hs hO hc h
  | .usd _, hc, h => sound_usd hs hO hc h
  | .cvi _ _, hc, h => sound_cvi hs hc h
  | .cvs _, hc, h => sound_cvs hs hc h
  | .idx _ _, hc, h => sound_idx hs hc h
  | .idxA _ _ _, hc, h => sound_idxA hs hc h
  | .idxP _ _ _ _, hc, h => sound_idxP hs hO hc h
  | .fldA _ _ _, hc, h => sound_fldA hs hO hc h
  | .fld _ _ _ _ _, hc, h => sound_fld hs hc h
  | .ld _ _ _, hc, h => sound_ld hs hO hc h
  | .nilc _, hc, h => sound_nilc hs hc h
  | .lenS _, hc, h => sound_lenS hs hc h
  | .lenL _, hc, h => sound_lenL hs hO hc h
  | .lenA _, hc, h => sound_lenA hc h
  | .slcS _ _ _, hc, h => sound_slcS hs hc h
  | .slcL _ _ _ _, hc, h => sound_slcL hs hc h
  | .ext _ _, hc, h => sound_ext hs hc h
  | .bld _ _, hc, h => sound_bld hs hc h
  | .mkf _ _ _, hc, h => sound_mkf hs hc h
  | .mki _ _, hc, h => sound_mki hs hc h
  | .tas _ _ _, hc, h => sound_tas hs hc h
end
end Go.Ab
