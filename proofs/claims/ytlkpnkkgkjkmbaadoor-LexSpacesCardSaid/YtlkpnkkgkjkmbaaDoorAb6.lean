/- That the operations that only read do what Ab4 says of them: fields, loads, slices, literals, type assertions; and all of them together. Over any program; no condition. -/
import Derived.Test.YtlkpnkkgkjkmbaaDoorAb5
namespace Go.Ab
open Go
section
variable {P : Program} {a : Act} {w : World} {ρ : Env} {sl : Slots} {objs : Objs} {K : V → Prop}

theorem agT_false_size {v : V} (h : v.isAgg = false) : v.size = 1 := by
  cases v with
  | d x => cases x <;> simp_all [V.isAgg, V.size, V.shape, D.shape, Sh.size]
  | agg xs => simp [V.isAgg] at h
  | _ => simp [V.size, V.shape, Sh.size]

theorem sound_fld (hs : SM w ρ sl a) {f fo n : Nat} {ag : Bool} {x : A} {op : Op} (hc : C.chk P op (.fld f fo n ag x) = true) (h : fldK f fo n ag K (x.ev sl).kids) : Yields P a w ρ op K := by
  cases op <;> simp [C.chk] at hc
  rename_i t x1 g
  obtain ⟨⟨rfl, h0⟩, h1⟩ := hc
  have r1 := A.sound hs h1
  obtain ⟨fl, hf, hof, hn, hu, hag⟩ : ∃ fl, fieldT P t f = some fl ∧ fl.offset = fo ∧ sizeT P fl.type = some n ∧ (P.underlying fl.type).isSome = true ∧ agT P fl.type = ag := by
    cases h2 : fieldT P t f with
    | none => simp [h2] at h0
    | some fl => simp [h2] at h0; exact ⟨fl, rfl, h0.1.1.1, h0.1.1.2, h0.1.2, h0.2⟩
  obtain ⟨fs, hst, hfi⟩ : ∃ fs, P.underlying t = some (.struct fs) ∧ fs[f]? = some fl := by
    unfold fieldT at hf; revert hf; split <;> simp_all
  cases hk : (x.ev sl).kids with
  | none => simp [hk, fldK] at h
  | some ks =>
    simp only [hk, fldK] at h
    obtain ⟨hl, hsz, h2, h3, h⟩ := h
    rw [rep_kids hk] at r1
    obtain ⟨cs, r1, hre⟩ := r1
    have hi : ks[f]? = some (ks.getD f .any) := by simp [hl]
    obtain ⟨c1, c2, c3, e1, e2, _, h4, _⟩ := V.repCs_three hre hi
    generalize ks.getD f .any = v at *
    have hlen := V.repC_len _ _ h4
    refine ⟨_, v, h, rep_of_cells h4, fun o ho w' _ => ?_⟩
    have e3 : c1.length = fl.offset := by rw [e2, hof, ← hsz, List.map_take]
    have hx : cs.toArray.extract fl.offset (fl.offset + n) = c2.toArray := by
      rw [e1, ← e3, ← h2]; unfold V.size; rw [← hlen]
      simp
    simp only [execOp, ho, Instr.field, underlying_run hst, hfi, part, asAgg, r1, Sem.run_bind, Sem.run_pure, Result.andThen_ok, isAgg_run hu, hag, h3]
    cases ag with
    | true => simp only [if_true, Sem.run_bind, info_size hn, Result.andThen_ok, Sem.run_pure, hx]
    | false =>
      have h5 := agT_false_size h3
      unfold V.size at h5
      rw [h5] at hlen
      obtain ⟨c, rfl⟩ := List.length_eq_one_iff.1 hlen
      have : cs.toArray[fl.offset]? = some c := by rw [e1, ← e3]; simp
      simp [this]

theorem sound_ld (hs : SM w ρ sl a) (hO : OM w ρ objs) {n : Nat} {ag : Bool} {x : A} {op : Op} (hc : C.chk P op (.ld n ag x) = true) (h : ldK objs n ag K (x.ev sl)) : YieldsAt true P a w ρ op K := by
  cases op <;> simp [C.chk] at hc
  rename_i t x1
  obtain ⟨⟨⟨hn, hu⟩, hag⟩, h1⟩ := hc
  have r1 := A.sound hs h1
  have key : ∀ (b off : Nat) (cs : List Value) (v : V), a.eval x1 = .pointer (some ⟨b, off, none⟩) → (cs ≠ [] → b < w.heap.size) → (∀ i (h : i < cs.length), w.cell? ⟨b, off + i, none⟩ = some cs[i]) →
      v.repC w ρ cs → v.size = n → v.isAgg = ag → K v → YieldsAt true P a w ρ (.load t x1) K := by
    intro b off cs v e1 hb hce hre h2 h3 hK
    have hl := V.repC_len _ _ hre
    refine ⟨_, v, hK, rep_of_cells hre, fun o ho w' he => ?_⟩
    have := load_run (P := P) (t := t) (n := n) hn hu (b := b) (off := off) (cs := cs) (by rw [hl, ← h2]; rfl) (w' := w') (fun i hi => by
      rw [cell?_congr ((he rfl).keep b (hb (by intro e; subst e; simp at hi)))]; exact hce i hi) (fun h4 => by rw [hag] at h4; rw [h4] at h3; rw [← h2]; exact agT_false_size h3)
    simp only [execOp, ho, e1, Sem.run_bind, this, Result.andThen_ok, Sem.run_pure, hag, h3]
  unfold ldK at h
  split at h
  · rename_i id p e1
    rw [e1] at r1
    cases hat : atO objs id p with
    | none => simp [hat, ldKo] at h
    | some v =>
      simp only [hat, ldKo] at h
      obtain ⟨h2, h3, h⟩ := h
      obtain ⟨t0, b', cs, E, g1, g2, g3, g4, g5⟩ := box_of hO hat
      obtain ⟨b, sh, hρ, r1⟩ := rep_ptr_box hO g1 r1
      rw [hρ] at g3
      simp only [Option.some.injEq, RO.box.injEq] at g3
      obtain ⟨rfl, rfl⟩ := g3
      obtain ⟨c1, c2, c3, e2, e3, h4⟩ := V.repC_at p t0 v cs g5 g2
      refine key b _ c2 v r1 (fun _ => lt_of_some g4) (fun i hi => ?_) h4 h2 h3 h
      rw [← e3]
      simp [World.cell?, g4, e2, List.getElem?_append, hi]
  · rename_i y e1
    rw [e1, rep_cp] at r1
    obtain ⟨ad, vs, r1, hce, hre⟩ := r1
    obtain ⟨h2, h3, h⟩ := h
    obtain ⟨b, off, sp⟩ := ad
    obtain ⟨hsp, hb, hcell⟩ := hce
    simp only at hsp; subst hsp
    exact key b off vs (.d y) r1 (fun hne => (hb hne).2) hcell (by simpa [V.repC] using hre) (by simp [V.size, V.shape, D.size_shape, h2]) h3 h
  · exact h.elim

/-- the bounds of a slice expression, met -/
theorem bounds_run (hs : SM w ρ sl a) {len cap : Nat} {isS : Bool} {lo hi : Option Operand} {lo' hi' : Option A} {K : Nat → Nat → Prop} (hcap : len ≤ cap)
    (h1 : chkO lo lo' = true) (h2 : chkO hi hi' = true) (h : bndK len K (lo'.map (A.ev sl)) (hi'.map (A.ev sl))) :
    ∃ l h, K l h ∧ l ≤ h ∧ h ≤ len ∧ ∀ w', (Instr.sliceBounds isS len cap (lo.map a.eval) (hi.map a.eval) none).run P w' = .ok (l, h, cap) w' := by
  have hev : ∀ {x : Operand} {y : A}, A.chk x y = true → ∀ {k n}, y.ev sl = .d (.int k n) → a.eval x = .int k n := fun {x y} hc {k n} e => by
    have := A.sound hs hc; rw [e, rep_int] at this; exact this
  cases lo with
  | none =>
    cases lo' with
    | some _ => simp [chkO] at h1
    | none =>
      cases hi with
      | none =>
        cases hi' with
        | some _ => simp [chkO] at h2
        | none =>
          simp only [Option.map_none, bndK] at h
          exact ⟨0, len, h, Nat.zero_le _, Nat.le_refl _, fun w' => by simp [Instr.sliceBounds]⟩
      | some oh =>
        cases hi' with
        | none => simp [chkO] at h2
        | some ah =>
          simp only [chkO] at h2
          simp only [Option.map_none, Option.map_some] at h
          cases e : ah.ev sl with
          | d x =>
            cases x with
            | int k n =>
              simp only [e, bndK] at h
              obtain ⟨⟨g1, g2⟩, h⟩ := h
              refine ⟨0, n.toNat, h, Nat.zero_le _, by omega, fun w' => ?_⟩
              have : n ≤ (cap : Int) := by omega
              simp [Instr.sliceBounds, Instr.sliceBound, hev h2 e, asIntOf, g1, this]
            | _ => simp [e, bndK] at h
          | _ => simp [e, bndK] at h
  | some ol =>
    cases lo' with
    | none => simp [chkO] at h1
    | some al =>
      simp only [chkO] at h1
      simp only [Option.map_some] at h
      cases el : al.ev sl with
      | d x =>
        cases x with
        | int k n =>
          cases hi with
          | none =>
            cases hi' with
            | some _ => simp [chkO] at h2
            | none =>
              simp only [Option.map_none, el, bndK] at h
              obtain ⟨⟨g1, g2⟩, h⟩ := h
              refine ⟨n.toNat, len, h, by omega, Nat.le_refl _, fun w' => ?_⟩
              simp [Instr.sliceBounds, Instr.sliceBound, hev h1 el, asIntOf, g1, g2]
          | some oh =>
            cases hi' with
            | none => simp [chkO] at h2
            | some ah =>
              simp only [chkO] at h2
              simp only [Option.map_some, el] at h
              cases e : ah.ev sl with
              | d x =>
                cases x with
                | int k' m =>
                  simp only [e, bndK] at h
                  obtain ⟨⟨g1, g2⟩, ⟨g3, g4⟩, h⟩ := h
                  refine ⟨n.toNat, m.toNat, h, by omega, by omega, fun w' => ?_⟩
                  have q1 : m ≤ (cap : Int) := by omega
                  have q2 : n ≤ ((m.toNat : Nat) : Int) := by omega
                  have q3 : (max m 0 : Int) = m := by omega
                  simp [Instr.sliceBounds, Instr.sliceBound, hev h1 el, hev h2 e, asIntOf, g1, g3, q1, q3, g4]
                | _ => simp [e, bndK] at h
              | _ => simp [e, bndK] at h
        | _ => simp [el, bndK] at h
      | _ => simp [el, bndK] at h

theorem sound_slcS (hs : SM w ρ sl a) {x : A} {lo hi : Option A} {op : Op} (hc : C.chk P op (.slcS x lo hi) = true) (h : slcSK (lo.map (A.ev sl)) (hi.map (A.ev sl)) K (x.ev sl)) : Yields P a w ρ op K := by
  cases op <;> simp only [C.chk, Bool.false_eq_true] at hc
  rename_i t x1 l1 h1 m1
  cases m1 <;> simp only [Bool.false_eq_true] at hc
  simp only [Bool.and_eq_true] at hc
  obtain ⟨⟨⟨h0, hx⟩, hlo⟩, hhi⟩ := hc
  have r1 := A.sound hs hx
  have ht : P.underlying t = some .string := by revert h0; split <;> simp_all
  unfold slcSK at h
  split at h
  · rename_i s e1
    rw [e1, rep_str] at r1
    obtain ⟨l, h', hK, g1, g2, hr⟩ := bounds_run (P := P) (cap := s.length) (isS := false) hs (Nat.le_refl _) hlo hhi h
    refine ⟨_, _, hK, rep_str.2 rfl, fun o ho w' _ => ?_⟩
    simp only [execOp, ho, Instr.sliceAt, Instr.slice, r1, Sem.run_bind, underlying_run ht, Result.andThen_ok, Option.map_none, Option.isSome_none, Bool.false_eq_true, if_false, byteSize, hr, Sem.run_pure]
    congr 3
    apply ByteArray.ext
    simp [ByteArray.data_extract, List.extract_eq_take_drop, List.drop_take]
  · exact h.elim

theorem sound_slcL (hs : SM w ρ sl a) {z : Nat} {x : A} {lo hi : Option A} {op : Op} (hc : C.chk P op (.slcL z x lo hi) = true) (h : slcLK z (lo.map (A.ev sl)) (hi.map (A.ev sl)) K (x.ev sl)) : Yields P a w ρ op K := by
  cases op <;> simp only [C.chk, Bool.false_eq_true] at hc
  rename_i t x1 l1 h1 m1
  cases m1 <;> simp only [Bool.false_eq_true] at hc
  simp only [Bool.and_eq_true] at hc
  obtain ⟨⟨⟨h0, hx⟩, hlo⟩, hhi⟩ := hc
  have r1 := A.sound hs hx
  obtain ⟨e, ht, he⟩ : ∃ e, P.underlying t = some (.slice e) ∧ sizeT P e = some z := by
    revert h0; split <;> simp_all
  unfold slcLK at h
  split at h
  · rename_i sz xs e1
    rw [e1, rep_list] at r1
    obtain ⟨rfl, h⟩ := h
    rcases r1 with ⟨rfl, r1⟩ | ⟨ad, cap, vs, r1, hcap, hce, hre, hu⟩
    · obtain ⟨l, h', hK, g1, g2, hr⟩ := bounds_run (P := P) (cap := 0) (isS := true) hs (Nat.le_refl _) hlo hhi h
      simp at g2; subst g2; simp at g1; subst g1
      refine ⟨.slice none 0 0, _, hK, rep_list.2 (.inl ⟨by simp, rfl⟩), fun o ho w' _ => ?_⟩
      simp [execOp, ho, Instr.sliceAt, Instr.slice, r1, underlying_run ht, hr, info_size he]
    · obtain ⟨l, h', hK, g1, g2, hr⟩ := bounds_run (P := P) (cap := cap) (isS := true) hs hcap hlo hhi h
      have hlen : ((xs.take h').drop l).length = h' - l := by simp; omega
      by_cases hz : cap = l
      · subst hz
        refine ⟨.slice (some ad) (h' - cap) (cap - cap), _, hK, rep_list.2 (.inr ⟨ad, cap - cap, [], by rw [hlen], by omega, ⟨hce.1, by simp, by simp⟩, ?_, ?_⟩), fun o ho w' _ => ?_⟩
        · have : (xs.take h').drop cap = [] := List.eq_nil_of_length_eq_zero (by omega)
          rw [this]; simp [D.repL]
        · intro y hy; exact hu y (List.mem_of_mem_take (List.mem_of_mem_drop hy))
        · simp [execOp, ho, Instr.sliceAt, Instr.slice, r1, underlying_run ht, hr, info_size he]
      · refine ⟨.slice (some ⟨ad.block, ad.off + l * z, none⟩) (h' - l) (cap - l), _, hK, rep_list.2 (.inr ⟨_, cap - l, _, by rw [hlen], by omega, hce.sub (l * z) ((h' - l) * z), ?_, ?_⟩), fun o ho w' _ => ?_⟩
        · have s1 := (D.repL_split xs l vs hre).2
          have t1 : D.szs (xs.take l) = l * z := by
            rw [D.szs_uniform (sz := z) _ (fun y hy => hu y (List.mem_of_mem_take hy)), List.length_take, Nat.min_eq_left (by omega)]
          rw [t1] at s1
          have s2 := (D.repL_split (xs.drop l) (h' - l) _ s1).1
          have t2 : D.szs ((xs.drop l).take (h' - l)) = (h' - l) * z := by
            rw [D.szs_uniform (sz := z) _ (fun y hy => hu y (List.mem_of_mem_drop (List.mem_of_mem_take hy))), List.length_take, List.length_drop, Nat.min_eq_left (by omega)]
          rw [t2] at s2
          rwa [List.drop_take]
        · intro y hy; exact hu y (List.mem_of_mem_take (List.mem_of_mem_drop hy))
        · simp [execOp, ho, Instr.sliceAt, Instr.slice, r1, underlying_run ht, hr, info_size he, hz, Addr.add_eq hce.1]
  · exact h.elim

theorem foldl_splice : ∀ (ds : List Value) (arr : List Value) (off k : Nat), off + k + ds.length ≤ arr.length →
    (ds.zipIdx k).foldl (fun (cs : Array Value) (x : Value × Nat) => cs.setIfInBounds (off + x.2) x.1) arr.toArray = (arr.take (off + k) ++ (ds ++ arr.drop (off + k + ds.length))).toArray
  | [], arr, off, k, _ => by simp
  | d :: r, arr, off, k, h => by
    simp only [List.zipIdx_cons, List.foldl_cons]
    simp only [List.length_cons] at h
    have e : arr.toArray.setIfInBounds (off + k) d = (arr.set (off + k) d).toArray := by simp
    rw [e, foldl_splice r (arr.set (off + k) d) off (k + 1) (by simp; omega)]
    congr 1
    have hlt : off + k < arr.length := by omega
    have e1 : (arr.set (off + k) d).take (off + (k + 1)) = arr.take (off + k) ++ [d] := by
      rw [← Nat.add_assoc, List.take_succ_eq_append_getElem (by simpa using hlt)]
      simp [List.take_set_of_le]
    have e2 : (arr.set (off + k) d).drop (off + (k + 1) + r.length) = arr.drop (off + k + (d :: r).length) := by
      rw [List.drop_set_of_lt (by omega)]
      congr 1; simp; omega
    rw [e1, e2]; simp

theorem D.isCs_rep : ∀ (xs : List D) (cs : List Value), D.isCs xs cs = true → D.repL w (own ρ) xs cs := by
  have go : ∀ n, (∀ (x : D) (cs : List Value), SizeOf.sizeOf x < n → D.isC x cs = true → x.rep w (own ρ) cs) ∧ (∀ (xs : List D) (cs : List Value), SizeOf.sizeOf xs < n → D.isCs xs cs = true → D.repL w (own ρ) xs cs) := by
    intro n
    induction n with
    | zero => exact ⟨fun _ _ h => by omega, fun _ _ h => by omega⟩
    | succ n ih =>
      constructor
      · intro x cs hn h
        cases x with
        | agg xs =>
          simp only [D.isC] at h
          simp only [D.rep]
          refine ih.2 xs cs ?_ h
          simp at hn; omega
        | list sz ys => simp [D.isC] at h
        | ref y => simp [D.isC] at h
        | iface t y => simp [D.isC] at h
        | fn f fi ca => simp [D.isC] at h
        | str s =>
          unfold D.isC at h
          split at h <;> simp_all [D.rep]
          rename_i t h1
          subst h
          cases t; simp
        | _ =>
          unfold D.isC at h
          split at h <;> simp_all [D.rep]
      · intro xs cs hn h
        cases xs with
        | nil => cases cs <;> simp_all [D.isCs, D.repL]
        | cons x r =>
          simp only [D.isCs, Bool.and_eq_true] at h
          simp only [D.repL]
          simp at hn
          exact ⟨cs.take x.sz, cs.drop x.sz, by simp, ih.1 x _ (by omega) h.1, ih.2 r _ (by omega) h.2⟩
  intro xs cs h
  exact (go (SizeOf.sizeOf xs + 1)).2 xs cs (by omega) h

theorem D.isC_rep (x : D) (cs : List Value) (h : D.isC x cs = true) : x.rep w (own ρ) cs := by
  have := D.isCs_rep (w := w) (ρ := ρ) [x] cs
  cases hx : D.isCs [x] cs with
  | true =>
    have := this hx
    simp only [D.repL] at this
    obtain ⟨c1, c2, e, h1, h2⟩ := this
    subst h2; simpa [e] using h1
  | false =>
    exfalso
    have hl : cs.take x.sz = cs ∧ cs.drop x.sz = [] := by
      have : cs.length ≤ x.sz := by
        cases x with
        | agg xs =>
          simp only [D.isC] at h
          have := D.repL_len _ _ (D.isCs_rep (w := w) (ρ := ρ) xs cs h)
          simp [D.sz, this]
        | list sz ys => simp [D.isC] at h
        | ref y => simp [D.isC] at h
        | iface t y => simp [D.isC] at h
        | fn f fi ca => simp [D.isC] at h
        | _ =>
          unfold D.isC at h
          split at h <;> simp_all [D.sz]
      exact ⟨List.take_of_length_le this, List.drop_of_length_le this⟩
    simp [D.isCs, hl.1, hl.2, h] at hx

theorem fill_run (hs : SM w ρ sl a) (place : Nat → Option (Nat × Nat)) (shs : List Sh) (hp : ∀ i, i < shs.length → place i = some (Sh.sizes (shs.take i), (shs.getD i .leaf).size)) :
    ∀ (parts : List (Nat × Operand)) (ys : List (Nat × A)) (ks : List V) (cs : List Value) (K : List V → Prop), chkParts parts ys = true → V.repCs w ρ ks cs → ks.map V.shape = shs →
      bldK ks (ys.map fun (i, x) => (i, x.ev sl)) K → ∃ ks' cs', K ks' ∧ V.repCs w ρ ks' cs' ∧ Instr.fill place cs.toArray (parts.map fun (i, x) => (i, a.eval x)) = some cs'.toArray
  | [], [], ks, cs, K, _, h2, _, h4 => by
    simp only [List.map_nil, bldK] at h4
    exact ⟨ks, cs, h4, h2, by simp [Instr.fill]⟩
  | (i, x) :: r, (j, y) :: s, ks, cs, K, h1, h2, h3, h4 => by
    simp only [chkParts, Bool.and_eq_true, beq_iff_eq] at h1
    obtain ⟨⟨rfl, h1⟩, h5⟩ := h1
    simp only [List.map_cons, bldK] at h4
    obtain ⟨hi, hsh, hne, h4⟩ := h4
    have r1 := A.sound hs h1
    have hv := cells_of_rep hne r1
    have hlen := V.repC_len _ _ hv
    have hk : ks[i]? = some (ks.getD i .any) := by simp [hi]
    obtain ⟨c1, c2, c3, e1, e2, g1, g2, g3⟩ := V.repCs_three h2 hk
    have hl2 := V.repC_len _ _ g2
    have hil : i < shs.length := by rw [← h3]; simpa using hi
    have hsz : (shs.getD i .leaf).size = (ks.getD i .any).shape.size := by rw [← h3]; simp [hi]
    have hset : (ks.set i (y.ev sl)).map V.shape = shs := by
      rw [← h3, List.map_set, hsh]
      apply List.ext_getElem?
      intro j
      by_cases hj : i = j
      · subst hj; rw [List.getElem?_set]; simp [hi]
      · rw [List.getElem?_set]; simp [hj]
    have hrep : V.repCs w ρ (ks.set i (y.ev sl)) (c1 ++ ((a.eval x).cells.toList ++ c3)) := by
      rw [show ks.set i (y.ev sl) = ks.take i ++ (y.ev sl :: ks.drop (i + 1)) from List.set_eq_take_append_cons_drop.trans (by simp [hi])]
      refine V.repCs_append g1 ?_
      simp only [V.repCs]
      exact ⟨_, c3, rfl, hv, g3⟩
    obtain ⟨ks', cs', hK, hR, hF⟩ := fill_run hs place shs hp r s _ _ K h5 hrep hset h4
    refine ⟨ks', cs', hK, hR, ?_⟩
    have hsize : (a.eval x).cells.size = (shs.getD i .leaf).size := by
      have : (a.eval x).cells.toList.length = (a.eval x).cells.size := by simp
      rw [← this, hlen, hsh, hsz]
    have hoff : c1.length = Sh.sizes (shs.take i) := by rw [e2, ← h3]
    have hbnd : ¬ (Sh.sizes (shs.take i) + (a.eval x).cells.size > cs.toArray.size) := by
      rw [hsize, hsz, ← hl2, ← hoff, e1]; simp
    have hsp : (a.eval x).cells.zipIdx.foldl (fun (cs : Array Value) (x : Value × Nat) => cs.setIfInBounds (Sh.sizes (shs.take i) + x.2) x.1) cs.toArray = (c1 ++ ((a.eval x).cells.toList ++ c3)).toArray := by
      rw [← Array.foldl_toList, Array.toList_zipIdx]
      rw [foldl_splice _ cs _ 0 (by simp only [Nat.add_zero]; have := hbnd; simp at this ⊢; omega)]
      congr 1
      have e3 : (a.eval x).cells.toList.length = c2.length := by rw [hlen, hsh, hl2]
      rw [e3, ← hoff, e1]
      simp
    simp only [List.map_cons, Instr.fill, hp i hil]
    rw [if_neg (by simp only [hsize]; simpa [hsize] using hbnd)]
    rw [show (fun (cs : Array Value) (x : Value × Nat) => match x with | (c, j) => cs.setIfInBounds (Sh.sizes (shs.take i) + j) c) = (fun (cs : Array Value) (x : Value × Nat) => cs.setIfInBounds (Sh.sizes (shs.take i) + x.2) x.1) from rfl, hsp]
    exact hF
  | [], _ :: _, _, _, _, h, _, _, _ => by simp [chkParts] at h
  | _ :: _, [], _, _, _, h, _, _, _ => by simp [chkParts] at h
end
end Go.Ab
