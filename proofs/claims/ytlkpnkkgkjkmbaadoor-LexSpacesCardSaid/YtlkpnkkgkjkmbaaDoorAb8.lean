/- Memory that the call makes and writes: objects laid, written, grown. Over any program; no condition. -/
import Derived.Test.YtlkpnkkgkjkmbaaDoorAb7
import Derived.Laws.CopyRow
import Derived.Laws.BytesString
namespace Go.Ab
open Go
section
variable {P : Program} {w : World} {ρ : Env} {ob : Objs}

def Env.ins (ρ : Env) (id : Nat) (o : RO) : Env := ⟨fun j => if j = id then some o else ρ.m j, ρ.xo, ρ.gl⟩

theorem OM.free (h : OM w ρ ob) {id : Nat} (hl : lookO ob id = none) : ρ.m id = none := by
  cases hr : ρ.m id with
  | none => rfl
  | some o => obtain ⟨x, hx⟩ := h.dom id o hr; rw [hl] at hx; cases hx

def addB (w : World) (o : Obj) : World := { w with heap := w.heap.push o }

theorem add_new (w : World) (o : Obj) : (addB w o).heap[w.heap.size]? = some o := by
  show (w.heap.push o)[w.heap.size]? = some o
  simp
theorem add_old (w : World) (o : Obj) {b : Nat} (h : b < w.heap.size) : (addB w o).heap[b]? = w.heap[b]? := by
  show (w.heap.push o)[b]? = w.heap[b]?
  simp [Array.getElem?_push, Nat.ne_of_lt h]
theorem ext_add (w : World) (o : Obj) : Ext w (addB w o) := ⟨by show w.heap.size ≤ (w.heap.push o).size; simp, fun _ h => add_old w o h, rfl, rfl, rfl⟩

theorem own_lt (h : OM w ρ ob) {id : Nat} {o : RO} {b : Nat} (hr : ρ.m id = some o) (hb : o.blk? = some b) : b < w.heap.size := by
  obtain ⟨x, hx⟩ := h.dom id o hr
  have h1 := h.one id x hx
  cases x with
  | box E t =>
    obtain ⟨b', cs, h2, h3, _⟩ := h1
    rw [hr] at h2; simp at h2; subst h2; simp [RO.blk?] at hb; subst hb; exact lt_of_some h3
  | arr E sz xs =>
    rcases h1 with ⟨h2, _⟩ | ⟨b', cap, cs, sp, h2, h3, _⟩
    · rw [hr] at h2; simp at h2; subst h2; simp [RO.blk?] at hb
    · rw [hr] at h2; simp at h2; subst h2; simp [RO.blk?] at hb; subst hb; exact lt_of_some h3
  | gone =>
    have h2 : ρ.m id = some .gone := h1
    rw [hr] at h2; simp at h2; subst h2; simp [RO.blk?] at hb

/-- a new object -/
theorem ins_tr (w' : World) (he : Ext w w') {id : Nat} {o : RO} (hf : ρ.m id = none) (hb : ∀ b, o.blk? = some b → w.heap.size ≤ b) : Tr w ρ w' (ρ.ins id o) := by
  refine ⟨he.size, fun b _ h => he.keep b h, fun b h => ?_, rfl, rfl, fun j x hx => ⟨x, ?_, .refl x⟩, he.tape, he.os, he.out⟩
  · obtain ⟨j, x, h1, h2⟩ := h
    simp only [Env.ins] at h1
    split at h1
    · simp at h1; subst h1; exact .inr (hb b h2)
    · exact .inl ⟨j, x, h1, h2⟩
  · simp only [Env.ins]
    split
    · rename_i e; subst e; rw [hf] at hx; cases hx
    · exact hx

theorem OneM.tr {w' : World} {ρ' : Env} (t : Tr w ρ w' ρ') {id : Nat} {x : Ob} (h : OneM w ρ id x) (hr : ρ'.m id = ρ.m id) (hb : ∀ b o, ρ.m id = some o → o.blk? = some b → w'.heap[b]? = w.heap[b]?) : OneM w' ρ' id x := by
  cases x with
  | box E y =>
    obtain ⟨b, cs, h1, h2, h3⟩ := h
    exact ⟨b, cs, hr.trans h1, (hb b _ h1 rfl).trans h2, V.repC_tr t _ _ h3⟩
  | arr E sz xs =>
    rcases h with ⟨h1, h2⟩ | ⟨b, cap, cs, sp, h1, h2, h3, h4, h5⟩
    · exact .inl ⟨hr.trans h1, h2⟩
    · exact .inr ⟨b, cap, cs, sp, hr.trans h1, (hb b _ h1 rfl).trans h2, D.repL_mono t.mono _ _ h3, h4, h5⟩
  | gone => exact hr.trans h

theorem OM.ins {w' : World} (h : OM w ρ ob) (he : Ext w w') {id : Nat} {o : RO} {x : Ob} (hl : lookO ob id = none) (hb : ∀ b, o.blk? = some b → w.heap.size ≤ b)
    (hx : OneM w' (ρ.ins id o) id x) : OM w' (ρ.ins id o) ((id, x) :: ob) := by
  have hf := h.free hl
  have t := ins_tr w' he (o := o) hf hb
  refine ⟨fun j y hy => ?_, fun j y hy => ?_, fun i j p q b h1 h2 h3 h4 => ?_, fun b hb => Nat.lt_of_lt_of_le (h.xlt b hb) he.size, glb_tr t h.glb, fun b h1 h2 => ?_, ⟨hl, h.once⟩⟩
  · simp only [lookO] at hy
    split at hy
    · rename_i e; subst e; simp at hy; subst hy; exact hx
    · rename_i e
      refine OneM.tr t (h.one j y hy) (by simp [Env.ins, Ne.symm e]) (fun b z h1 h2 => he.keep b (own_lt h h1 h2))
  · simp only [lookO]
    split
    · exact ⟨x, rfl⟩
    · rename_i e; exact h.dom j y (by simpa [Env.ins, Ne.symm e] using hy)
  · simp only [Env.ins] at h1 h2
    split at h1
    · rename_i e1
      split at h2
      · rename_i e2; exact e1.trans e2.symm
      · simp at h1; subst h1
        have := own_lt h h2 h4
        have := hb b h3
        omega
    · split at h2
      · simp at h2; subst h2
        have := own_lt h h1 h3
        have := hb b h4
        omega
      · exact h.inj i j p q b h1 h2 h3 h4
  · obtain ⟨i, p, h3, h4⟩ := h1
    simp only [Env.ins] at h3
    split at h3
    · simp at h3; subst h3
      have := hb b h4
      have := h.xlt b h2
      omega
    · exact h.xdis b ⟨i, p, h3, h4⟩ h2

/-- a box laid -/
theorem lay_box (h : OM w ρ ob) {id : Nat} (hl : lookO ob id = none) {t : V} {cs : List Value} (hre : t.repC w ρ cs) (E : TypeId) :
    Tr w ρ (addB w (.cells cs.toArray E)) (ρ.ins id (.box w.heap.size t.shape)) ∧ OM (addB w (.cells cs.toArray E)) (ρ.ins id (.box w.heap.size t.shape)) ((id, .box E t) :: ob) ∧
      (V.ptr id []).rep (addB w (.cells cs.toArray E)) (ρ.ins id (.box w.heap.size t.shape)) (.pointer (some ⟨w.heap.size, 0, none⟩)) := by
  have he := ext_add w (.cells cs.toArray E)
  have t1 := ins_tr _ he (o := .box w.heap.size t.shape) (h.free hl) (fun b hb => by simp [RO.blk?] at hb; omega)
  refine ⟨t1, h.ins he hl (fun b hb => by simp [RO.blk?] at hb; omega) ?_, ?_⟩
  · exact ⟨w.heap.size, cs, by simp [Env.ins], add_new _ _, V.repC_tr t1 _ _ hre⟩
  · have : t.shape.off [] = 0 := by cases t.shape <;> simp [Sh.off]
    have h2 := rep_ptr_mk (w := addB w (.cells cs.toArray E)) (ρ := ρ.ins id (.box w.heap.size t.shape)) (id := id) (p := []) (b := w.heap.size) (sh := t.shape) (by simp [Env.ins])
    rw [this] at h2
    exact h2

mutual
/-- can it be stored? -/
def V.sto : V → Bool
  | .agg xs => V.stos xs
  | .tup _ | .undef | .any => false
  | _ => true
def V.stos : List V → Bool
  | [] => true
  | x :: r => x.sto && V.stos r
end

mutual
theorem D.one {ow : Nat → Prop} : ∀ (d : D) (cs : List Value), d.rep w ow cs → ∀ c ∈ cs, c.oneCell' = true
  | .int _ _, cs, h | .bool _, cs, h | .str _, cs, h | .nils, cs, h | .nili, cs, h | .nilp, cs, h | .nilf, cs, h => by simp [D.rep] at h; simp [h, Value.oneCell']
  | .list sz xs, cs, h => by
    simp only [D.rep] at h
    rcases h with ⟨_, h⟩ | ⟨a, cap, vs, h, _⟩ <;> simp [h, Value.oneCell']
  | .ref x, cs, h => by simp only [D.rep] at h; obtain ⟨a, vs, e, _⟩ := h; simp [e, Value.oneCell']
  | .iface t x, cs, h => by simp only [D.rep] at h; obtain ⟨u, e, _⟩ := h; simp [e, Value.oneCell']
  | .fn f fi ca, cs, h => by simp only [D.rep] at h; obtain ⟨fs, gs, e, _⟩ := h; simp [e, Value.oneCell']
  | .agg xs, cs, h => by simp only [D.rep] at h; exact D.ones xs cs h
theorem D.ones {ow : Nat → Prop} : ∀ (xs : List D) (cs : List Value), D.repL w ow xs cs → ∀ c ∈ cs, c.oneCell' = true
  | [], cs, h => by simp [D.repL] at h; simp [h]
  | x :: r, cs, h => by
    simp only [D.repL] at h
    obtain ⟨c1, c2, rfl, h1, h2⟩ := h
    intro c hc
    rcases List.mem_append.1 hc with hc | hc
    · exact D.one x c1 h1 c hc
    · exact D.ones r c2 h2 c hc
end

mutual
theorem V.one : ∀ (v : V) (cs : List Value), v.sto = true → v.repC w ρ cs → ∀ c ∈ cs, c.oneCell' = true
  | .d x, cs, _, h => by simp only [V.repC] at h; exact D.one x cs h
  | .ptr id p, cs, _, h => by simp only [V.repC] at h; rcases h with ⟨b, sh, _, e⟩ | ⟨_, a, e⟩ <;> simp [e, Value.oneCell']
  | .sl id n, cs, _, h => by
    simp only [V.repC] at h
    obtain ⟨o, u, _, e, h2⟩ := h
    cases o with
    | box b s => simp [RO.slice] at h2
    | arr b l c => simp only [RO.slice] at h2; obtain ⟨_, ⟨x, y, z, rfl⟩, _⟩ := h2; simp [e, Value.oneCell']
    | virt => simp only [RO.slice] at h2; obtain ⟨_, rfl⟩ := h2; simp [e, Value.oneCell']
    | gone => simp only [RO.slice] at h2; obtain ⟨x, y, z, rfl⟩ := h2; simp [e, Value.oneCell']
  | .sd id n, cs, _, h => by
    simp only [V.repC] at h
    obtain ⟨o, u, _, e, h2⟩ := h
    cases o with
    | box b s => simp [RO.sdata] at h2
    | arr b l c => simp only [RO.sdata] at h2; obtain ⟨_, ⟨x, rfl⟩, _⟩ := h2; simp [e, Value.oneCell']
    | virt => simp only [RO.sdata] at h2; obtain ⟨_, _, rfl⟩ := h2; simp [e, Value.oneCell']
    | gone => simp only [RO.sdata] at h2; obtain ⟨_, rfl⟩ := h2; simp [e, Value.oneCell']
  | .fn f fi ca, cs, _, h => by simp only [V.repC] at h; obtain ⟨fs, gs, e, _⟩ := h; simp [e, Value.oneCell']
  | .agg xs, cs, hs, h => by simp only [V.repC] at h; simp only [V.sto] at hs; exact V.onesV xs cs hs h
  | .iface t x, cs, _, h => by simp only [V.repC] at h; obtain ⟨u, e, _⟩ := h; simp [e, Value.oneCell']
  | .tup xs, cs, hs, h | .undef, cs, hs, h | .any, cs, hs, h => by simp [V.sto] at hs
theorem V.onesV : ∀ (xs : List V) (cs : List Value), V.stos xs = true → V.repCs w ρ xs cs → ∀ c ∈ cs, c.oneCell' = true
  | [], cs, _, h => by simp [V.repCs] at h; simp [h]
  | x :: r, cs, hs, h => by
    simp only [V.repCs] at h
    simp only [V.stos, Bool.and_eq_true] at hs
    obtain ⟨c1, c2, rfl, h1, h2⟩ := h
    intro c hc
    rcases List.mem_append.1 hc with hc | hc
    · exact V.one x c1 hs.1 h1 c hc
    · exact V.onesV r c2 hs.2 h2 c hc
end

theorem V.sto_any {v : V} (h : v.sto = true) : v ≠ .any := by intro e; subst e; simp [V.sto] at h

theorem lookO_setO {x : Ob} : ∀ (ob : Objs) (id j : Nat), (∃ y, lookO ob id = some y) → lookO (setO ob id x) j = if j = id then some x else lookO ob j
  | [], id, j, h => by simp [lookO] at h
  | (k, y) :: r, id, j, h => by
    simp only [setO]
    split
    · rename_i e; subst e
      simp only [lookO]
      by_cases hj : k = j
      · simp [hj]
      · simp [hj, Ne.symm hj]
    · rename_i e
      simp only [lookO] at h ⊢
      rw [if_neg e] at h
      rw [lookO_setO r id j h]
      by_cases hj : k = j
      · subst hj; simp [e]
      · simp [hj]

/-- an object is given up: nobody writes it any more (its own block may have been written once more) -/
theorem give_upw (h : OM w ρ ob) {id : Nat} {w2 : World} (hl : ∃ y, lookO ob id = some y) (hsz : w2.heap.size = w.heap.size) (hk : ∀ j, (∀ o, ρ.m id = some o → o.blk? ≠ some j) → w2.heap[j]? = w.heap[j]?)
    (htp : w2.tape = w.tape) (hos : w2.os = w.os) (hout : w2.output = w.output) : Tr w ρ w2 (ρ.ins id .gone) ∧ OM w2 (ρ.ins id .gone) (setO ob id .gone) ∧ ∀ b o, ρ.m id = some o → o.blk? = some b → ¬ own (ρ.ins id .gone) b := by
  have t1 : Tr w ρ w2 (ρ.ins id .gone) := by
    refine ⟨by omega, fun b hb _ => hk b (fun o h1 h2 => hb ⟨id, o, h1, h2⟩), fun b hb => .inl ?_, rfl, rfl, fun j o hj => ?_, htp, hos, hout⟩
    · obtain ⟨j, o, h1, h2⟩ := hb
      simp only [Env.ins] at h1
      split at h1
      · simp at h1; subst h1; simp [RO.blk?] at h2
      · exact ⟨j, o, h1, h2⟩
    · by_cases e : j = id
      · exact ⟨.gone, by simp [Env.ins, e], .gone o⟩
      · exact ⟨o, by simp [Env.ins, e, hj], .refl o⟩
  have hno : ∀ b o, ρ.m id = some o → o.blk? = some b → ¬ own (ρ.ins id .gone) b := by
    rintro b o h1 h2 (⟨j, p, h3, h4⟩ | h3)
    · simp only [Env.ins] at h3
      split at h3
      · simp at h3; subst h3; simp [RO.blk?] at h4
      · rename_i e; exact e (h.inj j id p o b h3 h1 h4 h2)
    · exact h.xdis b ⟨id, o, h1, h2⟩ h3
  refine ⟨t1, ⟨fun j y hy => ?_, fun j o hj => ?_, fun i j p q b h1 h2 h3 h4 => ?_, fun b hb => by rw [hsz]; exact h.xlt b hb, glb_tr t1 h.glb, fun b hb => ?_, h.once.set⟩, hno⟩
  · rw [lookO_setO ob id j hl] at hy
    split at hy
    · rename_i e; subst e; simp at hy; subst hy
      simp [OneM, Env.ins]
    · rename_i e
      exact OneM.tr t1 (h.one j y hy) (by simp [Env.ins, e]) (fun b p h1 h2 => hk b (fun o h3 h4 => e (h.inj j id p o b h1 h3 h2 h4)))
  · rw [lookO_setO ob id j hl]
    split
    · exact ⟨_, rfl⟩
    · rename_i e; exact h.dom j o (by simpa [Env.ins, e] using hj)
  · simp only [Env.ins] at h1 h2
    split at h1
    · simp at h1; subst h1; simp [RO.blk?] at h3
    · split at h2
      · simp at h2; subst h2; simp [RO.blk?] at h4
      · exact h.inj i j p q b h1 h2 h3 h4
  · obtain ⟨j, o, h1, h2⟩ := hb
    simp only [Env.ins] at h1
    split at h1
    · simp at h1; subst h1; simp [RO.blk?] at h2
    · exact h.xdis b ⟨j, o, h1, h2⟩
theorem give_up (h : OM w ρ ob) {id : Nat} (hl : ∃ y, lookO ob id = some y) : Tr w ρ w (ρ.ins id .gone) ∧ OM w (ρ.ins id .gone) (setO ob id .gone) ∧ ∀ b o, ρ.m id = some o → o.blk? = some b → ¬ own (ρ.ins id .gone) b :=
  give_upw h hl rfl (fun _ _ => rfl) rfl rfl rfl

/-- a growing slice, given up, is data -/
theorem give_arr (h : OM w ρ ob) {id E sz : Nat} {xs : List D} (hl : lookO ob id = some (.arr E sz xs)) (hsz : sz ≠ 0) {u : Value} (hv : (V.sl id xs.length).rep w ρ u) :
    (V.d (.list sz xs)).rep w (ρ.ins id .gone) u := by
  obtain ⟨t1, _, hno⟩ := give_up h ⟨_, hl⟩
  rw [rep_sl] at hv
  obtain ⟨o, hρ, hv⟩ := hv
  rw [rep_list]
  rcases h.one id _ hl with ⟨h1, rfl⟩ | ⟨b, cap, cs, sp, h1, h2, h3, h4, h5⟩
  · rw [hρ] at h1; simp at h1; subst h1
    exact .inl ⟨rfl, hv.2⟩
  · rw [hρ] at h1; simp at h1; subst h1
    have hu := hv.2.2 rfl
    refine .inr ⟨_, cap, cs, hu, ?_, ⟨rfl, fun _ => ⟨hno b _ hρ rfl, lt_of_some h2⟩, fun i hi => ?_⟩, D.repL_mono t1.mono _ _ h3, h4⟩
    · have hcl : cs.length = xs.length * sz := by rw [D.repL_len _ _ h3, D.szs_uniform _ h4]
      have : xs.length * sz ≤ cap * sz := by rw [← h5, ← hcl]; simp
      exact Nat.le_of_mul_le_mul_right this (Nat.pos_of_ne_zero hsz)
    · simp [World.cell?, h2, List.getElem?_append, hi]

/-- one object is written, its place and shape stay -/
theorem write_box (h : OM w ρ ob) {id : Nat} {t t' : V} {b : Nat} {cs cs' : List Value} {E : TypeId} (hl : lookO ob id = some (.box E t)) (hr : ρ.m id = some (.box b t.shape))
    (hb : w.heap[b]? = some (.cells (List.toArray cs) E (0, 0))) (hs : t'.shape = t.shape) (hre : t'.repC w ρ cs') :
    Tr w ρ (w.setRow b cs'.toArray) ρ ∧ OM (w.setRow b cs'.toArray) ρ (setO ob id (.box E t')) := by
  have t1 : Tr w ρ (w.setRow b cs'.toArray) ρ := by
    refine ⟨by simp, fun j hj _ => setRow_other w b j _ (fun e => hj ?_), fun _ h => .inl h, rfl, rfl, fun _ o h => ⟨o, h, .refl o⟩, rfl, rfl, rfl⟩
    subst e; exact ⟨id, _, hr, rfl⟩
  refine ⟨t1, fun j y hy => ?_, fun j o hj => ?_, h.inj, fun b' hb' => by simpa using h.xlt b' hb', glb_tr t1 h.glb, h.xdis, h.once.set⟩
  · rw [lookO_setO ob id j ⟨_, hl⟩] at hy
    split at hy
    · rename_i e; subst e
      simp at hy; subst hy
      exact ⟨b, cs', by rw [hs]; exact hr, setRow_heap w b _ _ E _ hb, V.repC_tr t1 _ _ hre⟩
    · rename_i e
      refine OneM.tr t1 (h.one j y hy) rfl (fun b' o h1 h2 => setRow_other w b b' _ (fun e2 => e ?_))
      subst e2
      exact h.inj j id _ _ _ h1 hr h2 rfl
  · rw [lookO_setO ob id j ⟨_, hl⟩]
    split
    · exact ⟨_, rfl⟩
    · exact h.dom j o hj

end
end Go.Ab
