/- Texts of this claim joined by a program, part 2 of 15; the last is: That slice literals, appends and conversions between strings and bytes do what Ab9 says of them; and all operations together. Over any program; no condition. -/
import Derived.Test.YtmapdjjigmkbfaaGreatDoorV1
import Derived.Laws.CopyRow
import Derived.Laws.BytesString
import Derived.Laws.StructEq
set_option linter.unusedSimpArgs false
set_option linter.unusedVariables false
set_option linter.unusedSectionVars false
set_option linter.defProp false
/- Memory that the call makes and writes: objects laid, written, grown. Over any program; no condition. -/
namespace Go.Ab
open Go
section
variable {P : Program} {w : World} {ρ : Env} {ob : Objs}

def Env.ins (ρ : Env) (id : Nat) (o : RO) : Env := ⟨fun j => if j = id then some o else ρ.m j,ρ.xo,ρ.gl⟩

theorem OM.free (h : OM w ρ ob) {id : Nat} (hl : lookO ob id = none) : ρ.m id = none := by
 cases hr : ρ.m id with
 | none => rfl
 | some o => obtain ⟨x,hx⟩ := h.dom id o hr; rw [hl] at hx; cases hx

def Xhu (w : World) (o : Obj) : World := { w with heap := w.heap.push o }

theorem V5 (w : World) (o : Obj) : (Xhu w o).heap[w.heap.size]? = some o := by
 show (w.heap.push o)[w.heap.size]? = some o
 simp
theorem X43 (w : World) (o : Obj) {b : Nat} (h : b < w.heap.size) : (Xhu w o).heap[b]? = w.heap[b]? := by
 show (w.heap.push o)[b]? = w.heap[b]?
 simp [Array.getElem?_push,Nat.ne_of_lt h]
theorem Vk (w : World) (o : Obj) : Ext w (Xhu w o) := ⟨by show w.heap.size ≤ (w.heap.push o).size; simp,fun _ h => X43 w o h,rfl,rfl,rfl⟩

theorem Qf (h : OM w ρ ob) {id : Nat} {o : RO} {b : Nat} (hr : ρ.m id = some o) (hb : o.blk? = some b) : b < w.heap.size := by
 obtain ⟨x,hx⟩ := h.dom id o hr
 have h1 := h.one id x hx
 cases x with
 | box E t =>
  obtain ⟨b',cs,h2,h3,_⟩ := h1
  rw [hr] at h2; simp at h2; subst h2; simp [RO.blk?] at hb; subst hb; exact Xl h3
 | arr E sz xs =>
  rcases h1 with ⟨h2,_⟩ | ⟨b',cap,cs,sp,h2,h3,_⟩
  ·rw [hr] at h2; simp at h2; subst h2; simp [RO.blk?] at hb
  ·rw [hr] at h2; simp at h2; subst h2; simp [RO.blk?] at hb; subst hb; exact Xl h3
 | vec E sz xs =>
  rcases h1 with ⟨h2,_⟩ | ⟨b',cap,cs,sp,h2,h3,_⟩
  ·rw [hr] at h2; simp at h2; subst h2; simp [RO.blk?] at hb
  ·rw [hr] at h2; simp at h2; subst h2; simp [RO.blk?] at hb; subst hb; exact Xl h3
 | map es =>
  obtain ⟨b',l,clk,h2,h3,_⟩ := h1
  rw [hr] at h2; simp at h2; subst h2; simp [RO.blk?] at hb; subst hb; exact Xl h3
 | gone =>
  have h2 : ρ.m id = some .gone := h1
  rw [hr] at h2; simp at h2; subst h2; simp [RO.blk?] at hb

theorem Jz (w' : World) (he : Ext w w') {id : Nat} {o : RO} (hf : ρ.m id = none) (hb : ∀ b,o.blk? = some b → w.heap.size ≤ b) : Tr w ρ w' (ρ.ins id o) := by
 refine ⟨he.size,fun b _ h => he.keep b h,fun b h => ?_,rfl,rfl,fun j x hx => ⟨x,?_,.refl x⟩,he.tape,he.os,he.out⟩
 ·obtain ⟨j,x,h1,h2⟩ := h
  simp only [Env.ins] at h1
  split at h1
  ·simp at h1; subst h1; exact .inr (hb b h2)
  ·exact .inl ⟨j,x,h1,h2⟩
 ·simp only [Env.ins]
  split
  ·rename_i e; subst e; rw [hf] at hx; cases hx
  ·exact hx

theorem Xch.tr {w' : World} {ρ' : Env} (t : Tr w ρ w' ρ') {id : Nat} {x : Ob} (h : Xch w ρ id x) (hr : ρ'.m id = ρ.m id) (hb : ∀ b o,ρ.m id = some o → o.blk? = some b → w'.heap[b]? = w.heap[b]?) : Xch w' ρ' id x := by
 cases x with
 | box E y =>
  obtain ⟨b,cs,h1,h2,h3⟩ := h
  exact ⟨b,cs,hr.trans h1,(hb b _ h1 rfl).trans h2,V.repC_tr t _ _ h3⟩
 | arr E sz xs =>
  rcases h with ⟨h1,h2⟩ | ⟨b,cap,cs,sp,h1,h2,h3,h4,h5⟩
  ·exact .inl ⟨hr.trans h1,h2⟩
  ·exact .inr ⟨b,cap,cs,sp,hr.trans h1,(hb b _ h1 rfl).trans h2,D.repL_mono t.mono _ _ h3,h4,h5⟩
 | vec E sz xs =>
  rcases h with ⟨h1,h2⟩ | ⟨b,cap,cs,sp,h1,h2,h3,h4,h5⟩
  ·exact .inl ⟨hr.trans h1,h2⟩
  ·exact .inr ⟨b,cap,cs,sp,hr.trans h1,(hb b _ h1 rfl).trans h2,V.repCs_tr t _ _ h3,h4,h5⟩
 | map es =>
  obtain ⟨b,l,clk,h1,h2,h3⟩ := h
  exact ⟨b,l,clk,hr.trans h1,(hb b _ h1 rfl).trans h2,Y7.tr t _ _ h3⟩
 | gone => exact hr.trans h

theorem OM.ins {w' : World} (h : OM w ρ ob) (he : Ext w w') {id : Nat} {o : RO} {x : Ob} (hl : lookO ob id = none) (hb : ∀ b,o.blk? = some b → w.heap.size ≤ b)
  (hx : Xch w' (ρ.ins id o) id x) : OM w' (ρ.ins id o) ((id,x) :: ob) := by
 have hf := h.free hl
 have t := Jz w' he (o := o) hf hb
 refine ⟨fun j y hy => ?_,fun j y hy => ?_,fun i j p q b h1 h2 h3 h4 => ?_,fun b hb => Nat.lt_of_lt_of_le (h.xlt b hb) he.size,Xcx t h.glb,fun b h1 h2 => ?_,⟨hl,h.once⟩⟩
 ·simp only [lookO] at hy
  split at hy
  ·rename_i e; subst e; simp at hy; subst hy; exact hx
  ·rename_i e
   refine Xch.tr t (h.one j y hy) (by simp [Env.ins,Ne.symm e]) (fun b z h1 h2 => he.keep b (Qf h h1 h2))
 ·simp only [lookO]
  split
  ·exact ⟨x,rfl⟩
  ·rename_i e; exact h.dom j y (by simpa [Env.ins,Ne.symm e] using hy)
 ·simp only [Env.ins] at h1 h2
  split at h1
  ·rename_i e1
   split at h2
   ·rename_i e2; exact e1.trans e2.symm
   ·simp at h1; subst h1
    have := Qf h h2 h4
    have := hb b h3
    omega
  ·split at h2
   ·simp at h2; subst h2
    have := Qf h h1 h3
    have := hb b h4
    omega
   ·exact h.inj i j p q b h1 h2 h3 h4
 ·obtain ⟨i,p,h3,h4⟩ := h1
  simp only [Env.ins] at h3
  split at h3
  ·simp at h3; subst h3
   have := hb b h4
   have := h.xlt b h2
   omega
  ·exact h.xdis b ⟨i,p,h3,h4⟩ h2

theorem Xtv (h : OM w ρ ob) {id : Nat} (hl : lookO ob id = none) {t : V} {cs : List Value} (hre : t.repC w ρ cs) (E : TypeId) :
  Tr w ρ (Xhu w (.cells cs.toArray E)) (ρ.ins id (.box w.heap.size t.shape)) ∧ OM (Xhu w (.cells cs.toArray E)) (ρ.ins id (.box w.heap.size t.shape)) ((id,.box E t) :: ob) ∧
   (V.ptr id []).rep (Xhu w (.cells cs.toArray E)) (ρ.ins id (.box w.heap.size t.shape)) (.pointer (some ⟨w.heap.size,0,none⟩)) := by
 have he := Vk w (.cells cs.toArray E)
 have t1 := Jz _ he (o := .box w.heap.size t.shape) (h.free hl) (fun b hb => by simp [RO.blk?] at hb; omega)
 refine ⟨t1,h.ins he hl (fun b hb => by simp [RO.blk?] at hb; omega) ?_,?_⟩
 ·exact ⟨w.heap.size,cs,by simp [Env.ins],V5 _ _,V.repC_tr t1 _ _ hre⟩
 ·have : t.shape.off [] = 0 := by cases t.shape <;> simp [Sh.off]
  have h2 := Qt (w := Xhu w (.cells cs.toArray E)) (ρ := ρ.ins id (.box w.heap.size t.shape)) (id := id) (p := []) (b := w.heap.size) (sh := t.shape) (by simp [Env.ins])
  rw [this] at h2
  exact h2

mutual
def V.sto : V → Bool
 | .agg xs => V.stos xs
 | .tup _ | .undef | .any => false
 | _ => true
def V.stos : List V → Bool
 | [] => true
 | x :: r => x.sto && V.stos r
end

mutual
theorem D.one {ow : Nat → Prop} : ∀ (d : D) (cs : List Value),d.rep w ow cs → ∀ c ∈ cs,c.oneCell' = true
 | .int _ _,cs,h | .bool _,cs,h | .str _,cs,h | .nils,cs,h | .nili,cs,h | .nilp,cs,h | .nilf,cs,h | .nilm,cs,h => by simp [D.rep] at h; simp [h,Value.oneCell']
 | .list sz xs,cs,h => by
  simp only [D.rep] at h
  rcases h with ⟨_,h⟩ | ⟨a,cap,vs,h,_⟩ <;> simp [h,Value.oneCell']
 | .ref x,cs,h => by simp only [D.rep] at h; obtain ⟨a,vs,e,_⟩ := h; simp [e,Value.oneCell']
 | .iface t x,cs,h => by simp only [D.rep] at h; obtain ⟨u,e,_⟩ := h; simp [e,Value.oneCell']
 | .fn f fi ca,cs,h => by simp only [D.rep] at h; obtain ⟨fs,gs,e,_⟩ := h; simp [e,Value.oneCell']
 | .agg xs,cs,h => by simp only [D.rep] at h; exact D.ones xs cs h
theorem D.ones {ow : Nat → Prop} : ∀ (xs : List D) (cs : List Value),D.repL w ow xs cs → ∀ c ∈ cs,c.oneCell' = true
 | [],cs,h => by simp [D.repL] at h; simp [h]
 | x :: r,cs,h => by
  simp only [D.repL] at h
  obtain ⟨c1,c2,rfl,h1,h2⟩ := h
  intro c hc
  rcases List.mem_append.1 hc with hc | hc
  ·exact D.one x c1 h1 c hc
  ·exact D.ones r c2 h2 c hc
end

mutual
theorem V.one : ∀ (v : V) (cs : List Value),v.sto = true → v.repC w ρ cs → ∀ c ∈ cs,c.oneCell' = true
 | .d x,cs,_,h => by simp only [V.repC] at h; exact D.one x cs h
 | .ptr id p,cs,_,h => by simp only [V.repC] at h; rcases h with ⟨b,sh,_,e⟩ | ⟨_,a,e⟩ <;> simp [e,Value.oneCell']
 | .sl id n,cs,_,h => by
  simp only [V.repC] at h
  obtain ⟨o,u,_,e,h2⟩ := h
  cases o with
  | box b s => simp [RO.slice] at h2
  | map b => simp [RO.slice] at h2
  | arr b l c => simp only [RO.slice] at h2; obtain ⟨_,⟨x,y,z,rfl⟩,_⟩ := h2; simp [e,Value.oneCell']
  | virt => simp only [RO.slice] at h2; obtain ⟨_,rfl⟩ := h2; simp [e,Value.oneCell']
  | gone => simp only [RO.slice] at h2; obtain ⟨x,y,z,rfl⟩ := h2; simp [e,Value.oneCell']
 | .sd id n,cs,_,h => by
  simp only [V.repC] at h
  obtain ⟨o,u,_,e,h2⟩ := h
  cases o with
  | box b s => simp [RO.sdata] at h2
  | map b => simp [RO.sdata] at h2
  | arr b l c => simp only [RO.sdata] at h2; obtain ⟨_,⟨x,rfl⟩,_⟩ := h2; simp [e,Value.oneCell']
  | virt => simp only [RO.sdata] at h2; obtain ⟨_,_,rfl⟩ := h2; simp [e,Value.oneCell']
  | gone => simp only [RO.sdata] at h2; obtain ⟨_,rfl⟩ := h2; simp [e,Value.oneCell']
 | .mp id,cs,_,h => by simp only [V.repC] at h; rcases h with ⟨_,_,e⟩ | ⟨_,_,e⟩ <;> simp [e,Value.oneCell']
 | .bs id p lo n,cs,_,h => by simp only [V.repC] at h; rcases h with ⟨_,_,_,_,_,_,e⟩ | ⟨_,_,_,_,e⟩ <;> simp [e,Value.oneCell']
 | .ep id n z i f p,cs,_,h => by
  simp only [V.repC] at h
  obtain ⟨o,u,_,e,h2⟩ := h
  cases o with
  | box b s => simp [RO.elem] at h2
  | map b => simp [RO.elem] at h2
  | arr b l c => simp only [RO.elem] at h2; obtain ⟨_,⟨x,rfl⟩,_⟩ := h2; simp [e,Value.oneCell']
  | virt => simp [RO.elem] at h2
  | gone => simp only [RO.elem] at h2; obtain ⟨_,rfl⟩ := h2; simp [e,Value.oneCell']
 | .fn f fi ca,cs,_,h => by simp only [V.repC] at h; obtain ⟨fs,gs,e,_⟩ := h; simp [e,Value.oneCell']
 | .agg xs,cs,hs,h => by simp only [V.repC] at h; simp only [V.sto] at hs; exact V.onesV xs cs hs h
 | .iface t x,cs,_,h => by simp only [V.repC] at h; obtain ⟨u,e,_⟩ := h; simp [e,Value.oneCell']
 | .tup xs,cs,hs,h | .undef,cs,hs,h | .any,cs,hs,h => by simp [V.sto] at hs
theorem V.onesV : ∀ (xs : List V) (cs : List Value),V.stos xs = true → V.repCs w ρ xs cs → ∀ c ∈ cs,c.oneCell' = true
 | [],cs,_,h => by simp [V.repCs] at h; simp [h]
 | x :: r,cs,hs,h => by
  simp only [V.repCs] at h
  simp only [V.stos,Bool.and_eq_true] at hs
  obtain ⟨c1,c2,rfl,h1,h2⟩ := h
  intro c hc
  rcases List.mem_append.1 hc with hc | hc
  ·exact V.one x c1 hs.1 h1 c hc
  ·exact V.onesV r c2 hs.2 h2 c hc
end

theorem V.sto_any {v : V} (h : v.sto = true) : v ≠ .any := by intro e; subst e; simp [V.sto] at h

theorem Xh {x : Ob} : ∀ (ob : Objs) (id j : Nat),(∃ y,lookO ob id = some y) → lookO (setO ob id x) j = if j = id then some x else lookO ob j
 | [],id,j,h => by simp [lookO] at h
 | (k,y) :: r,id,j,h => by
  simp only [setO]
  split
  ·rename_i e; subst e
   simp only [lookO]
   by_cases hj : k = j
   ·simp [hj]
   ·simp [hj,Ne.symm hj]
  ·rename_i e
   simp only [lookO] at h ⊢
   rw [if_neg e] at h
   rw [Xh r id j h]
   by_cases hj : k = j
   ·subst hj; simp [e]
   ·simp [hj]

theorem Xfs (h : OM w ρ ob) {id : Nat} {w2 : World} (hl : ∃ y,lookO ob id = some y) (hsz : w2.heap.size = w.heap.size) (hk : ∀ j,(∀ o,ρ.m id = some o → o.blk? ≠ some j) → w2.heap[j]? = w.heap[j]?)
  (htp : w2.tape = w.tape) (hos : w2.os = w.os) (hout : w2.output = w.output) : Tr w ρ w2 (ρ.ins id .gone) ∧ OM w2 (ρ.ins id .gone) (setO ob id .gone) ∧ ∀ b o,ρ.m id = some o → o.blk? = some b → ¬ own (ρ.ins id .gone) b := by
 have t1 : Tr w ρ w2 (ρ.ins id .gone) := by
  refine ⟨by omega,fun b hb _ => hk b (fun o h1 h2 => hb ⟨id,o,h1,h2⟩),fun b hb => .inl ?_,rfl,rfl,fun j o hj => ?_,htp,hos,hout⟩
  ·obtain ⟨j,o,h1,h2⟩ := hb
   simp only [Env.ins] at h1
   split at h1
   ·simp at h1; subst h1; simp [RO.blk?] at h2
   ·exact ⟨j,o,h1,h2⟩
  ·by_cases e : j = id
   ·exact ⟨.gone,by simp [Env.ins,e],.gone o⟩
   ·exact ⟨o,by simp [Env.ins,e,hj],.refl o⟩
 have hno : ∀ b o,ρ.m id = some o → o.blk? = some b → ¬ own (ρ.ins id .gone) b := by
  rintro b o h1 h2 (⟨j,p,h3,h4⟩ | h3)
  ·simp only [Env.ins] at h3
   split at h3
   ·simp at h3; subst h3; simp [RO.blk?] at h4
   ·rename_i e; exact e (h.inj j id p o b h3 h1 h4 h2)
  ·exact h.xdis b ⟨id,o,h1,h2⟩ h3
 refine ⟨t1,⟨fun j y hy => ?_,fun j o hj => ?_,fun i j p q b h1 h2 h3 h4 => ?_,fun b hb => by rw [hsz]; exact h.xlt b hb,Xcx t1 h.glb,fun b hb => ?_,h.once.set⟩,hno⟩
 ·rw [Xh ob id j hl] at hy
  split at hy
  ·rename_i e; subst e; simp at hy; subst hy
   simp [Xch,Env.ins]
  ·rename_i e
   exact Xch.tr t1 (h.one j y hy) (by simp [Env.ins,e]) (fun b p h1 h2 => hk b (fun o h3 h4 => e (h.inj j id p o b h1 h3 h2 h4)))
 ·rw [Xh ob id j hl]
  split
  ·exact ⟨_,rfl⟩
  ·rename_i e; exact h.dom j o (by simpa [Env.ins,e] using hj)
 ·simp only [Env.ins] at h1 h2
  split at h1
  ·simp at h1; subst h1; simp [RO.blk?] at h3
  ·split at h2
   ·simp at h2; subst h2; simp [RO.blk?] at h4
   ·exact h.inj i j p q b h1 h2 h3 h4
 ·obtain ⟨j,o,h1,h2⟩ := hb
  simp only [Env.ins] at h1
  split at h1
  ·simp at h1; subst h1; simp [RO.blk?] at h2
  ·exact h.xdis b ⟨j,o,h1,h2⟩
theorem Xcw (h : OM w ρ ob) {id : Nat} (hl : ∃ y,lookO ob id = some y) : Tr w ρ w (ρ.ins id .gone) ∧ OM w (ρ.ins id .gone) (setO ob id .gone) ∧ ∀ b o,ρ.m id = some o → o.blk? = some b → ¬ own (ρ.ins id .gone) b :=
 Xfs h hl rfl (fun _ _ => rfl) rfl rfl rfl

theorem Jv (h : OM w ρ ob) {id E sz : Nat} {xs : List D} (hl : lookO ob id = some (.arr E sz xs)) (hsz : sz ≠ 0) {u : Value} (hv : (V.sl id xs.length).rep w ρ u) :
  (V.d (.list sz xs)).rep w (ρ.ins id .gone) u := by
 obtain ⟨t1,_,hno⟩ := Xcw h ⟨_,hl⟩
 rw [Y2] at hv
 obtain ⟨o,hρ,hv⟩ := hv
 rw [Yw]
 rcases h.one id _ hl with ⟨h1,rfl⟩ | ⟨b,cap,cs,sp,h1,h2,h3,h4,h5⟩
 ·rw [hρ] at h1; simp at h1; subst h1
  exact .inl ⟨rfl,hv.2⟩
 ·rw [hρ] at h1; simp at h1; subst h1
  have hu := hv.2.2 rfl
  refine .inr ⟨_,cap,cs,hu,?_,⟨fun _ => ⟨rfl,hno b _ hρ rfl,Xl h2⟩,fun i hi => ?_⟩,D.repL_mono t1.mono _ _ h3,h4⟩
  ·have hcl : cs.length = xs.length * sz := by rw [D.repL_len _ _ h3,D.szs_uniform _ h4]
   have : xs.length * sz ≤ cap * sz := by rw [← h5,← hcl]; simp
   exact Nat.le_of_mul_le_mul_right this (Nat.pos_of_ne_zero hsz)
  ·simp [World.cell?,h2,List.getElem?_append,hi]

theorem write_box (h : OM w ρ ob) {id : Nat} {t t' : V} {b : Nat} {cs cs' : List Value} {E : TypeId} (hl : lookO ob id = some (.box E t)) (hr : ρ.m id = some (.box b t.shape))
  (hb : w.heap[b]? = some (.cells (List.toArray cs) E (0,0))) (hs : t'.shape = t.shape) (hre : t'.repC w ρ cs') :
  Tr w ρ (w.setRow b cs'.toArray) ρ ∧ OM (w.setRow b cs'.toArray) ρ (setO ob id (.box E t')) := by
 have t1 : Tr w ρ (w.setRow b cs'.toArray) ρ := by
  refine ⟨by simp,fun j hj _ => setRow_other w b j _ (fun e => hj ?_),fun _ h => .inl h,rfl,rfl,fun _ o h => ⟨o,h,.refl o⟩,rfl,rfl,rfl⟩
  subst e; exact ⟨id,_,hr,rfl⟩
 refine ⟨t1,fun j y hy => ?_,fun j o hj => ?_,h.inj,fun b' hb' => by simpa using h.xlt b' hb',Xcx t1 h.glb,h.xdis,h.once.set⟩
 ·rw [Xh ob id j ⟨_,hl⟩] at hy
  split at hy
  ·rename_i e; subst e
   simp at hy; subst hy
   exact ⟨b,cs',by rw [hs]; exact hr,setRow_heap w b _ _ E _ hb,V.repC_tr t1 _ _ hre⟩
  ·rename_i e
   refine Xch.tr t1 (h.one j y hy) rfl (fun b' o h1 h2 => setRow_other w b b' _ (fun e2 => e ?_))
   subst e2
   exact h.inj j id _ _ _ h1 hr h2 rfl
 ·rw [Xh ob id j ⟨_,hl⟩]
  split
  ·exact ⟨_,rfl⟩
  ·exact h.dom j o hj

theorem Xdl {x y : Ob} {id : Nat} : ∀ (ob : Objs),setO (setO ob id x) id y = setO ob id y
 | [] => rfl
 | (k,z) :: r => by
  simp only [setO]
  split
  ·rename_i e; simp [setO,e]
  ·rename_i e; simp [setO,e,Xdl r]
theorem OM.swap (h : OM w ρ ob) {id : Nat} {x x' : Ob} (hl : lookO ob id = some x) (hx : Xch w ρ id x') : OM w ρ (setO ob id x') := by
 refine ⟨fun j y hy => ?_,fun j o hj => ?_,h.inj,h.xlt,h.glb,h.xdis,h.once.set⟩
 ·rw [Xh ob id j ⟨_,hl⟩] at hy
  split at hy
  ·rename_i e; subst e; simp at hy; subst hy; exact hx
  ·exact h.one j y hy
 ·rw [Xh ob id j ⟨_,hl⟩]
  split
  ·exact ⟨_,rfl⟩
  ·exact h.dom j o hj
def Xbv : Ob → Nat → V → Ob
 | .vec E sz xs,i,t => .vec E sz (xs.set i t)
 | .arr E sz xs,i,.d x => .arr E sz (xs.set i x)
 | .arr E sz xs,i,t => .vec E sz ((xs.map .d).set i t)
 | o,_,_ => o
theorem Xq6 (h : OM w ρ ob) {id n i : Nat} {o : Ob} {v0 : V} (hl : lookO ob id = some o) (he : Wq n i (some o) = some v0) :
  ∃ b cap E c1 c2 c3,ρ.m id = some (.arr b n cap) ∧ w.heap[b]? = some (.cells (List.toArray (c1 ++ (c2 ++ c3))) E (0,0)) ∧ c1.length = i * v0.size ∧ v0.repC w ρ c2 ∧
   ∀ (t' : V) (c2' : List Value),t'.shape = v0.shape → t'.repC w ρ c2' → Tr w ρ (w.setRow b (c1 ++ (c2' ++ c3)).toArray) ρ ∧ OM (w.setRow b (c1 ++ (c2' ++ c3)).toArray) ρ (setO ob id (Xbv o i t')) := by
 have key : ∀ (E sz : Nat) (vs : List V) (b cap : Nat) (cs sp : List Value),ρ.m id = some (.arr b n cap) → w.heap[b]? = some (.cells (List.toArray (cs ++ sp)) E (0,0)) → V.repCs w ρ vs cs → (∀ x ∈ vs,x.size = sz) →
   (cs ++ sp).length = cap * sz → n = vs.length → vs[i]? = some v0 → (∀ w' t' cs',w'.heap[b]? = some (.cells (List.toArray (cs' ++ sp)) E (0,0)) → V.repCs w' ρ (vs.set i t') cs' → t'.size = sz → (cs' ++ sp).length = cap * sz → Xch w' ρ id (Xbv o i t')) →
   ∃ b cap E c1 c2 c3,ρ.m id = some (.arr b n cap) ∧ w.heap[b]? = some (.cells (List.toArray (c1 ++ (c2 ++ c3))) E (0,0)) ∧ c1.length = i * v0.size ∧ v0.repC w ρ c2 ∧
   ∀ (t' : V) (c2' : List Value),t'.shape = v0.shape → t'.repC w ρ c2' → Tr w ρ (w.setRow b (c1 ++ (c2' ++ c3)).toArray) ρ ∧ OM (w.setRow b (c1 ++ (c2' ++ c3)).toArray) ρ (setO ob id (Xbv o i t')) := by
  intro E sz vs b cap cs sp h1 h2 h3 h4 h5 h6 h7 hx
  obtain ⟨c1,c2,c3,e1,e2,g1,g2,g3⟩ := V.repCs_three h3 h7
  have hv : v0.size = sz := h4 v0 (List.mem_of_getElem? h7)
  have hlt : i < vs.length := (List.getElem?_eq_some_iff.1 h7).1
  refine ⟨b,cap,E,c1,c2,c3 ++ sp,h1,by rw [h2,e1]; simp,?_,g2,fun t' c2' hs hr => ?_⟩
  ·rw [e2,← List.map_take,X0 (z := sz) _ (fun x hx => h4 x (List.mem_of_mem_take hx)),List.length_take,Nat.min_eq_left (by omega),hv]
  have hlen : c2'.length = c2.length := by rw [V.repC_len _ _ hr,V.repC_len _ _ g2,hs]
  have t1 : Tr w ρ (w.setRow b (c1 ++ (c2' ++ (c3 ++ sp))).toArray) ρ := by
   refine ⟨by simp,fun j hj _ => setRow_other w b j _ (fun e => hj ?_),fun _ h => .inl h,rfl,rfl,fun _ o h => ⟨o,h,.refl o⟩,rfl,rfl,rfl⟩
   subst e; exact ⟨id,_,h1,rfl⟩
  refine ⟨t1,fun j y hy => ?_,fun j o hj => ?_,h.inj,fun b' hb' => by simpa using h.xlt b' hb',Xcx t1 h.glb,h.xdis,h.once.set⟩
  ·rw [Xh ob id j ⟨_,hl⟩] at hy
   split at hy
   ·rename_i e; subst e
    simp at hy; subst hy
    refine hx _ t' (c1 ++ (c2' ++ c3)) (by rw [setRow_heap w b _ _ E _ h2]; simp) ?_ (by unfold V.size; rw [hs]; exact hv) ?_
    ·refine V.repCs_tr t1 _ _ ?_
     have e8 : vs.set i t' = vs.take i ++ (t' :: vs.drop (i + 1)) := List.set_eq_take_append_cons_drop.trans (by simp [hlt])
     rw [e8]
     refine V.repCs_append g1 ?_
     simp only [V.repCs]
     exact ⟨_,c3,rfl,hr,g3⟩
    ·rw [← h5,e1]; simp [hlen]
   ·rename_i e
    refine Xch.tr t1 (h.one j y hy) rfl (fun b' o' q1 q2 => setRow_other w b b' _ (fun e2 => e ?_))
    subst e2
    exact h.inj j id _ _ _ q1 h1 q2 rfl
  ·rw [Xh ob id j ⟨_,hl⟩]
   split
   ·exact ⟨_,rfl⟩
   ·exact h.dom j o hj
 cases o with
 | vec E sz xs =>
  simp only [Wq] at he
  split at he
  ·rename_i hn
   rcases h.one id _ hl with ⟨_,rfl⟩ | ⟨b,cap,cs,sp,h1,h2,h3,h4,h5⟩
   ·simp at he
   ·refine key E sz xs b cap cs sp (by rw [hn]; exact h1) h2 h3 h4 h5 hn he (fun w' t' cs' q1 q2 q3 q4 => .inr ⟨b,cap,cs',sp,by simpa [Xbv] using h1,q1,q2,fun x hx => ?_,q4⟩)
    rcases List.mem_or_eq_of_mem_set hx with hx | rfl
    ·exact h4 x hx
    ·exact q3
  ·cases he
 | arr E sz xs =>
  simp only [Wq] at he
  split at he
  ·rename_i hn
   rcases h.one id _ hl with ⟨_,rfl⟩ | ⟨b,cap,cs,sp,h1,h2,h3,h4,h5⟩
   ·simp at he
   ·have h4' : ∀ x ∈ xs.map V.d,x.size = sz := fun x hx => by
     obtain ⟨y,hy,rfl⟩ := List.mem_map.1 hx
     simp [V.size,V.shape,D.size_shape,h4 y hy]
    refine key E sz (xs.map .d) b cap cs sp (by rw [hn]; exact h1) h2 ((V.repCs_d _ _).2 h3) h4' h5 (by simpa using hn) he (fun w' t' cs' q1 q2 q3 q4 => ?_)
    have gen : Xch w' ρ id (.vec E sz ((xs.map .d).set i t')) := .inr ⟨b,cap,cs',sp,by simpa using h1,q1,q2,fun x hx => by
     rcases List.mem_or_eq_of_mem_set hx with hx | rfl
     ·exact h4' x hx
     ·exact q3,q4⟩
    cases t' with
    | d x =>
     refine .inr ⟨b,cap,cs',sp,by simpa [Xbv] using h1,q1,?_,fun y hy => ?_,q4⟩
     ·rw [← List.map_set,V.repCs_d] at q2; exact q2
     ·rcases List.mem_or_eq_of_mem_set hy with hy | rfl
      ·exact h4 y hy
      ·simpa [V.size,V.shape,D.size_shape] using q3
    | _ => exact gen
  ·cases he
 | _ => simp [Wq] at he

theorem X7d (h : OM w ρ ob) {id : Nat} (hl : lookO ob id = none) :
  Tr w ρ (Xhu w (.map #[] 0)) (ρ.ins id (.map w.heap.size)) ∧ OM (Xhu w (.map #[] 0)) (ρ.ins id (.map w.heap.size)) ((id,.map []) :: ob) ∧
   (V.mp id).rep (Xhu w (.map #[] 0)) (ρ.ins id (.map w.heap.size)) (.map (some w.heap.size)) := by
 have he := Vk w (.map #[] 0)
 have t1 := Jz _ he (o := .map w.heap.size) (h.free hl) (fun b hb => by simp [RO.blk?] at hb; omega)
 refine ⟨t1,h.ins he hl (fun b hb => by simp [RO.blk?] at hb; omega) ?_,?_⟩
 ·exact ⟨w.heap.size,[],0,by simp [Env.ins],V5 _ _,rfl⟩
 ·exact Xv7.2 (.inl ⟨w.heap.size,by simp [Env.ins],rfl⟩)

def Xrd (w : World) (b : Nat) (o : Obj) : World := { w with heap := w.heap.setIfInBounds b o }
theorem Xwg (w : World) {b : Nat} (o : Obj) (h : b < w.heap.size) : (Xrd w b o).heap[b]? = some o := by
 show (w.heap.setIfInBounds b o)[b]? = some o
 simp [h]
theorem Xe8 (w : World) {b j : Nat} (o : Obj) (h : b ≠ j) : (Xrd w b o).heap[j]? = w.heap[j]? := by
 show (w.heap.setIfInBounds b o)[j]? = w.heap[j]?
 simp [Array.getElem?_setIfInBounds,h]
theorem Xjp (w : World) (b : Nat) (o : Obj) : (Xrd w b o).heap.size = w.heap.size := by
 show (w.heap.setIfInBounds b o).size = w.heap.size
 simp
theorem Xjy (h : OM w ρ ob) {id : Nat} {es es' : List (D × V)} {b : Nat} {l l' : List MapEntry} {clk clk' : Nat} (hl : lookO ob id = some (.map es)) (hr : ρ.m id = some (.map b))
  (hb : w.heap[b]? = some (.map l.toArray clk)) (hre : Y7 w ρ es' l') :
  Tr w ρ (Xrd w b (.map l'.toArray clk')) ρ ∧ OM (Xrd w b (.map l'.toArray clk')) ρ (setO ob id (.map es')) := by
 have t1 : Tr w ρ (Xrd w b (.map l'.toArray clk')) ρ := by
  refine ⟨by rw [Xjp]; exact Nat.le_refl _,fun j hj _ => Xe8 w _ (fun e => hj ?_),fun _ h => .inl h,rfl,rfl,fun _ o h => ⟨o,h,.refl o⟩,rfl,rfl,rfl⟩
  subst e; exact ⟨id,_,hr,rfl⟩
 refine ⟨t1,fun j y hy => ?_,fun j o hj => ?_,h.inj,fun b' hb' => by rw [Xjp]; exact h.xlt b' hb',Xcx t1 h.glb,h.xdis,h.once.set⟩
 ·rw [Xh ob id j ⟨_,hl⟩] at hy
  split at hy
  ·rename_i e; subst e
   simp at hy; subst hy
   exact ⟨b,l',clk',hr,Xwg w _ (Xl hb),Y7.tr t1 _ _ hre⟩
  ·rename_i e
   refine Xch.tr t1 (h.one j y hy) rfl (fun b' o h1 h2 => Xe8 w _ (fun e2 => e ?_))
   subst e2
   exact h.inj j id _ _ _ h1 hr h2 rfl
 ·rw [Xh ob id j ⟨_,hl⟩]
  split
  ·exact ⟨_,rfl⟩
  ·exact h.dom j o hj

end
end Go.Ab
/- Operations that make or write memory, on abstract values: their text, and that they do it. Over any program; no condition. -/
namespace Go.Ab
open Go

def fresh : Objs → Nat
 | [] => 0
 | (j,_) :: r => if fresh r ≤ j then j + 1 else fresh r
theorem Yj : ∀ (ob : Objs) (j : Nat),fresh ob ≤ j → lookO ob j = none
 | [],_,_ => rfl
 | (i,o) :: r,j,h => by
  simp only [fresh] at h
  simp only [lookO]
  split at h
  ·rw [if_neg (by omega)]; exact Yj r j (by omega)
  ·rw [if_neg (by omega)]; exact Yj r j h
theorem Yp (ob : Objs) : lookO ob (fresh ob) = none := Yj ob _ (Nat.le_refl _)

def Xxh (ob : Objs) (id n : Nat) : Option Ob → Option (D × Objs)
 | some (.arr _ sz xs) => if sz ≠ 0 ∧ n = xs.length then some (.list sz xs,setO ob id .gone) else none
 | _ => none
def Xhv : Option (List D × Objs) → Option (D × Objs)
 | some (l,ob) => some (.agg l,ob)
 | none => none
def X8i (t : Nat) : Option (D × Objs) → Option (D × Objs)
 | some (x,ob) => some (.iface t x,ob)
 | none => none
def fnG (f : Nat) (ob : Objs) : Option (List D) → Option (List D) → Option (D × Objs)
 | some l,some m => some (.fn f l m,ob)
 | _,_ => none
def Uw (x : D) : Option (List D × Objs) → Option (List D × Objs)
 | some (l,ob) => some (x :: l,ob)
 | none => none
mutual
def V.giv (ob : Objs) : V → Option (D × Objs)
 | .d x => some (x,ob)
 | .sl id n => Xxh ob id n (lookO ob id)
 | .agg xs => Xhv (V.givs ob xs)
 | .iface t x => X8i t (V.giv ob x)
 | .fn f a b => fnG f ob (V.allD a) (V.allD b)
 | _ => none
def V.givs (ob : Objs) : List V → Option (List D × Objs)
 | [] => some ([],ob)
 | x :: r => match V.giv ob x with
  | some (y,ob1) => Uw y (V.givs ob1 r)
  | none => none
end

section
variable {w : World}
theorem Xid {ρ : Env} {f : Nat} {a b : List V} {ob ob' : Objs} {d : D} {cs : List Value} (h : (V.fn f a b).repC w ρ cs) (e : fnG f ob (V.allD a) (V.allD b) = some (d,ob')) : ob' = ob ∧ d.rep w (own ρ) cs ∧ d.isAgg = false := by
 cases ha : V.allD a with
 | none => simp [ha,fnG] at e
 | some l =>
  cases hb : V.allD b with
  | none => simp [ha,hb,fnG] at e
  | some m =>
   simp only [ha,hb,fnG,Option.some.injEq,Prod.mk.injEq] at e
   obtain ⟨rfl,rfl⟩ := e
   have h1 := V.allD_map ha
   have h2 := V.allD_map hb
   subst h1; subst h2
   simp only [V.repC] at h
   obtain ⟨fs,gs,e1,h3,h4⟩ := h
   exact ⟨rfl,by simp only [D.rep]; exact ⟨fs,gs,e1,Xjh.1 h3,Xjh.1 h4⟩,rfl⟩
mutual
theorem V.giv_sound : ∀ (v : V) (ob : Objs) (ρ : Env) (cs : List Value) (d : D) (ob' : Objs),OM w ρ ob → v.repC w ρ cs → V.giv ob v = some (d,ob') →
  ∃ ρ',Tr w ρ w ρ' ∧ OM w ρ' ob' ∧ d.rep w (own ρ') cs ∧ d.isAgg = v.isAgg
 | .d x,ob,ρ,cs,dd,ob',hO,h,e => by
  simp only [V.giv,Option.some.injEq,Prod.mk.injEq] at e
  obtain ⟨rfl,rfl⟩ := e
  exact ⟨ρ,Tr.refl _ _,hO,by simpa only [V.repC] using h,by cases x <;> rfl⟩
 | .sl id n,ob,ρ,cs,dd,ob',hO,h,e => by
  simp only [V.giv] at e
  unfold Xxh at e
  split at e
  ·rename_i E sz xs hl
   split at e
   ·rename_i hc
    simp only [Option.some.injEq,Prod.mk.injEq] at e
    obtain ⟨rfl,rfl⟩ := e
    obtain ⟨hsz,rfl⟩ := hc
    obtain ⟨t1,o1,_⟩ := Xcw hO ⟨_,hl⟩
    have h0 := h
    simp only [V.repC] at h0
    obtain ⟨o,u,h1,rfl,h2⟩ := h0
    have := Jv hO hl hsz (u := u) (by rw [Y2]; exact ⟨o,h1,h2⟩)
    refine ⟨_,t1,o1,?_,rfl⟩
    rw [Wt (by simp [V.isAgg]) (by simp)] at this
    simpa only [V.repC] using this
   ·cases e
  ·cases e
 | .agg xs,ob,ρ,cs,dd,ob',hO,h,e => by
  simp only [V.giv] at e
  cases hg : V.givs ob xs with
  | none => simp [hg,Xhv] at e
  | some r =>
   obtain ⟨l,ob1⟩ := r
   simp only [hg,Xhv,Option.some.injEq,Prod.mk.injEq] at e
   obtain ⟨rfl,rfl⟩ := e
   simp only [V.repC] at h
   obtain ⟨ρ',t,o,hr⟩ := V.givs_sound xs ob ρ cs l ob1 hO h hg
   exact ⟨ρ',t,o,by simpa only [D.rep] using hr,rfl⟩
 | .iface t x,ob,ρ,cs,dd,ob',hO,h,e => by
  simp only [V.giv] at e
  cases hg : V.giv ob x with
  | none => simp [hg,X8i] at e
  | some r =>
   obtain ⟨y,ob1⟩ := r
   simp only [hg,X8i,Option.some.injEq,Prod.mk.injEq] at e
   obtain ⟨rfl,rfl⟩ := e
   simp only [V.repC] at h
   obtain ⟨u,e1,h1⟩ := h
   rcases h1 with h1 | ⟨p,ds,q,r⟩ | ⟨p,r⟩
   ·subst h1; simp [V.giv] at hg
   ·obtain ⟨ρ',t1,o,hr,ha⟩ := V.giv_sound x ob ρ ds y ob1 hO r hg
    exact ⟨ρ',t1,o,by simp only [D.rep]; exact ⟨u,e1,.inl ⟨by rw [ha]; exact p,ds,q,hr⟩⟩,rfl⟩
   ·obtain ⟨ρ',t1,o,hr,ha⟩ := V.giv_sound x ob ρ [u] y ob1 hO r hg
    exact ⟨ρ',t1,o,by simp only [D.rep]; exact ⟨u,e1,.inr ⟨by rw [ha]; exact p,hr⟩⟩,rfl⟩
 | .fn f a b,ob,ρ,cs,dd,ob',hO,h,e => by
  simp only [V.giv] at e
  obtain ⟨rfl,h1,h2⟩ := Xid h e
  exact ⟨ρ,Tr.refl _ _,hO,h1,by rw [h2]; rfl⟩
 | .ptr _ _,_,_,_,_,_,_,_,e | .sd _ _,_,_,_,_,_,_,_,e | .mp _,_,_,_,_,_,_,_,e | .ep _ _ _ _ _ _,_,_,_,_,_,_,_,e | .bs _ _ _ _,_,_,_,_,_,_,_,e | .tup _,_,_,_,_,_,_,_,e | .undef,_,_,_,_,_,_,_,e | .any,_,_,_,_,_,_,_,e => by simp [V.giv] at e
theorem V.givs_sound : ∀ (vs : List V) (ob : Objs) (ρ : Env) (cs : List Value) (l : List D) (ob' : Objs),OM w ρ ob → V.repCs w ρ vs cs → V.givs ob vs = some (l,ob') →
  ∃ ρ',Tr w ρ w ρ' ∧ OM w ρ' ob' ∧ D.repL w (own ρ') l cs
 | [],ob,ρ,cs,l,ob',hO,h,e => by
  simp only [V.givs,Option.some.injEq,Prod.mk.injEq] at e
  obtain ⟨rfl,rfl⟩ := e
  exact ⟨ρ,Tr.refl _ _,hO,by simpa only [V.repCs,D.repL] using h⟩
 | x :: r,ob,ρ,cs,l,ob',hO,h,e => by
  simp only [V.givs] at e
  simp only [V.repCs] at h
  obtain ⟨c1,c2,rfl,h1,h2⟩ := h
  split at e
  ·rename_i dd ob1 hg
   obtain ⟨ρ1,t1,o1,hr,_⟩ := V.giv_sound x ob ρ c1 dd ob1 hO h1 hg
   cases hg2 : V.givs ob1 r with
   | none => simp [hg2,Uw] at e
   | some q =>
    obtain ⟨l2,ob2⟩ := q
    simp only [hg2,Uw,Option.some.injEq,Prod.mk.injEq] at e
    obtain ⟨rfl,rfl⟩ := e
    obtain ⟨ρ2,t2,o2,hr2⟩ := V.givs_sound r ob1 ρ1 c2 l2 ob2 o1 (V.repCs_tr t1 _ _ h2) hg2
    exact ⟨ρ2,t1.trans t2,o2,by simp only [D.repL]; exact ⟨c1,c2,rfl,D.rep_mono t2.mono _ _ hr,hr2⟩⟩
  ·cases e
end
theorem Xb6 {ρ : Env} {ob ob' : Objs} {v : V} {d : D} {u : Value} (hO : OM w ρ ob) (h : v.rep w ρ u) (e : V.giv ob v = some (d,ob')) : ∃ ρ',Tr w ρ w ρ' ∧ OM w ρ' ob' ∧ (V.d d).rep w ρ' u := by
 rcases h with h | ⟨p,ds,q,r⟩ | ⟨p,r⟩
 ·subst h; simp [V.giv] at e
 ·obtain ⟨ρ',t1,o,hr,ha⟩ := V.giv_sound v ob ρ ds d ob' hO r e
  exact ⟨ρ',t1,o,Xa5.2 (.inl ⟨by rw [ha]; exact p,ds,q,hr⟩)⟩
 ·obtain ⟨ρ',t1,o,hr,ha⟩ := V.giv_sound v ob ρ [u] d ob' hO r e
  exact ⟨ρ',t1,o,Xa5.2 (.inr ⟨by rw [ha]; exact p,hr⟩)⟩
end

def gvL (g : Objs → V → Option (D × Objs)) : Objs → List V → Option (List D × Objs)
 | ob,[] => some ([],ob)
 | ob,x :: r => match g ob x with
  | some (y,ob1) => Uw y (gvL g ob1 r)
  | none => none
def gvT (id sz : Nat) (l : List D) (ob : Objs) : Option Ob → Option (D × Objs)
 | some (.vec _ _ _) => some (.list sz l,setO ob id .gone)
 | _ => none
def gvS (id sz : Nat) : Option (List D × Objs) → Option (D × Objs)
 | some (l,ob1) => gvT id sz l ob1 (lookO ob1 id)
 | none => none
def X8g (g : Objs → V → Option (D × Objs)) (ob : Objs) (id n : Nat) : Option Ob → Option (D × Objs)
 | some (.arr _ sz xs) => if sz ≠ 0 ∧ n = xs.length then some (.list sz xs,setO ob id .gone) else none
 | some (.vec _ sz xs) => if sz ≠ 0 ∧ n = xs.length then gvS id sz (gvL g ob xs) else none
 | _ => none
def V.gvF : Nat → Objs → V → Option (D × Objs)
 | 0,_,_ => none
 | k + 1,ob,v => match v with
  | .d x => some (x,ob)
  | .sl id n => X8g (V.gvF k) ob id n (lookO ob id)
  | .agg xs => Xhv (gvL (V.gvF k) ob xs)
  | .iface t x => X8i t (V.gvF k ob x)
  | .fn f a b => fnG f ob (V.allD a) (V.allD b)
  | _ => none
section
variable {w : World}
def Yid (g : Objs → V → Option (D × Objs)) (w : World) : Prop := ∀ (v : V) (ob : Objs) (ρ : Env) (cs : List Value) (d : D) (ob' : Objs),OM w ρ ob → v.repC w ρ cs → g ob v = some (d,ob') →
  (∃ ρ',Tr w ρ w ρ' ∧ OM w ρ' ob' ∧ d.rep w (own ρ') cs ∧ d.isAgg = v.isAgg) ∧ ∀ j,lookO ob' j = lookO ob j ∨ lookO ob' j = some .gone
theorem Xiv {ob : Objs} {id j : Nat} {x : Ob} (hl : lookO ob id = some x) : lookO (setO ob id .gone) j = lookO ob j ∨ lookO (setO ob id .gone) j = some .gone := by
 rw [Xh ob id j ⟨_,hl⟩]
 split
 ·exact .inr rfl
 ·exact .inl rfl
theorem Xcz {g : Objs → V → Option (D × Objs)} (hg : Yid g w) : ∀ (vs : List V) (ob : Objs) (ρ : Env) (cs : List Value) (l : List D) (ob' : Objs),OM w ρ ob → V.repCs w ρ vs cs → gvL g ob vs = some (l,ob') →
  (∃ ρ',Tr w ρ w ρ' ∧ OM w ρ' ob' ∧ D.repL w (own ρ') l cs ∧ l.map D.sz = vs.map V.size) ∧ ∀ j,lookO ob' j = lookO ob j ∨ lookO ob' j = some .gone
 | [],ob,ρ,cs,l,ob',hO,h,e => by
  simp only [gvL,Option.some.injEq,Prod.mk.injEq] at e
  obtain ⟨rfl,rfl⟩ := e
  exact ⟨⟨ρ,Tr.refl _ _,hO,by simpa only [V.repCs,D.repL] using h,rfl⟩,fun _ => .inl rfl⟩
 | x :: r,ob,ρ,cs,l,ob',hO,h,e => by
  simp only [gvL] at e
  simp only [V.repCs] at h
  obtain ⟨c1,c2,rfl,h1,h2⟩ := h
  split at e
  ·rename_i dd ob1 hq
   obtain ⟨⟨ρ1,t1,o1,hr,_⟩,k1⟩ := hg x ob ρ c1 dd ob1 hO h1 hq
   cases hg2 : gvL g ob1 r with
   | none => simp [hg2,Uw] at e
   | some q =>
    obtain ⟨l2,ob2⟩ := q
    simp only [hg2,Uw,Option.some.injEq,Prod.mk.injEq] at e
    obtain ⟨rfl,rfl⟩ := e
    obtain ⟨⟨ρ2,t2,o2,hr2,hs2⟩,k2⟩ := Xcz hg r ob1 ρ1 c2 l2 ob2 o1 (V.repCs_tr t1 _ _ h2) hg2
    refine ⟨⟨ρ2,t1.trans t2,o2,by simp only [D.repL]; exact ⟨c1,c2,rfl,D.rep_mono t2.mono _ _ hr,hr2⟩,?_⟩,fun j => ?_⟩
    ·simp only [List.map_cons,hs2,List.cons.injEq,and_true]
     rw [← D.rep_len _ _ hr,V.repC_len _ _ h1]; rfl
    ·rcases k2 j with k2 | k2
     ·rw [k2]; exact k1 j
     ·exact .inr k2
  ·cases e
theorem Xpb {ρ : Env} {id n : Nat} {cs : List Value} (h : (V.sl id n).repC w ρ cs) : ∃ o u,ρ.m id = some o ∧ cs = [u] ∧ o.slice n u := by
 simpa only [V.repC] using h
theorem Jy : ∀ (k : Nat),Yid (V.gvF k) w
 | 0 => fun v ob ρ cs d ob' _ _ e => by simp [V.gvF] at e
 | k + 1 => fun v ob ρ cs dd ob' hO h e => by
  have ih := Jy k
  cases v with
  | d x =>
   simp only [V.gvF,Option.some.injEq,Prod.mk.injEq] at e
   obtain ⟨rfl,rfl⟩ := e
   exact ⟨⟨ρ,Tr.refl _ _,hO,by simpa only [V.repC] using h,by cases x <;> rfl⟩,fun _ => .inl rfl⟩
  | agg xs =>
   simp only [V.gvF] at e
   cases hg : gvL (V.gvF k) ob xs with
   | none => simp [hg,Xhv] at e
   | some r =>
    obtain ⟨l,ob1⟩ := r
    simp only [hg,Xhv,Option.some.injEq,Prod.mk.injEq] at e
    obtain ⟨rfl,rfl⟩ := e
    simp only [V.repC] at h
    obtain ⟨⟨ρ',t,o,hr,_⟩,hk⟩ := Xcz ih xs ob ρ cs l ob1 hO h hg
    exact ⟨⟨ρ',t,o,by simpa only [D.rep] using hr,rfl⟩,hk⟩
  | iface t x =>
   simp only [V.gvF] at e
   cases hg : V.gvF k ob x with
   | none => simp [hg,X8i] at e
   | some r =>
    obtain ⟨y,ob1⟩ := r
    simp only [hg,X8i,Option.some.injEq,Prod.mk.injEq] at e
    obtain ⟨rfl,rfl⟩ := e
    simp only [V.repC] at h
    obtain ⟨u,e1,h1⟩ := h
    rcases h1 with h1 | ⟨p,ds,q,r⟩ | ⟨p,r⟩
    ·subst h1; cases k <;> simp [V.gvF] at hg
    ·obtain ⟨⟨ρ',t1,o,hr,ha⟩,hk⟩ := ih x ob ρ ds y ob1 hO r hg
     exact ⟨⟨ρ',t1,o,by simp only [D.rep]; exact ⟨u,e1,.inl ⟨by rw [ha]; exact p,ds,q,hr⟩⟩,rfl⟩,hk⟩
    ·obtain ⟨⟨ρ',t1,o,hr,ha⟩,hk⟩ := ih x ob ρ [u] y ob1 hO r hg
     exact ⟨⟨ρ',t1,o,by simp only [D.rep]; exact ⟨u,e1,.inr ⟨by rw [ha]; exact p,hr⟩⟩,rfl⟩,hk⟩
  | fn f a b =>
   simp only [V.gvF] at e
   obtain ⟨rfl,h1,h2⟩ := Xid h e
   exact ⟨⟨ρ,Tr.refl _ _,hO,h1,by rw [h2]; rfl⟩,fun _ => .inl rfl⟩
  | sl id n =>
   simp only [V.gvF] at e
   unfold X8g at e
   split at e
   ·rename_i E sz xs hl
    split at e
    ·rename_i hc
     simp only [Option.some.injEq,Prod.mk.injEq] at e
     obtain ⟨rfl,rfl⟩ := e
     obtain ⟨hsz,rfl⟩ := hc
     obtain ⟨t1,o1,_⟩ := Xcw hO ⟨_,hl⟩
     obtain ⟨o,u,h1,rfl,h2⟩ := Xpb h
     have := Jv hO hl hsz (u := u) (by rw [Y2]; exact ⟨o,h1,h2⟩)
     refine ⟨⟨_,t1,o1,?_,rfl⟩,fun j => Xiv hl⟩
     rw [Wt (by simp [V.isAgg]) (by simp)] at this
     simpa only [V.repC] using this
    ·cases e
   ·rename_i E sz xs hl
    split at e
    ·rename_i hc
     obtain ⟨hsz,rfl⟩ := hc
     cases hg : gvL (V.gvF k) ob xs with
     | none => simp [hg,gvS] at e
     | some r =>
      obtain ⟨l,ob1⟩ := r
      simp only [hg,gvS] at e
      unfold gvT at e
      split at e
      ·rename_i E' sz' xs' hl1
       simp only [Option.some.injEq,Prod.mk.injEq] at e
       obtain ⟨rfl,rfl⟩ := e
       obtain ⟨o,u,h1,rfl,h2⟩ := Xpb h
       have fin : ∀ (ρ1 : Env),Tr w ρ w ρ1 → OM w ρ1 ob1 → Xch w ρ1 id (.arr E sz l) → l.length = xs.length → (∀ j,lookO ob1 j = lookO ob j ∨ lookO ob1 j = some .gone) →
         (∃ ρ',Tr w ρ w ρ' ∧ OM w ρ' (setO ob1 id .gone) ∧ (D.list sz l).rep w (own ρ') [u] ∧ (D.list sz l).isAgg = (V.sl id xs.length).isAgg) ∧ ∀ j,lookO (setO ob1 id .gone) j = lookO ob j ∨ lookO (setO ob1 id .gone) j = some .gone := by
        intro ρ1 t1 o1 hm hlen hk
        have o2 := o1.swap hl1 hm
        have hl2 : lookO (setO ob1 id (.arr E sz l)) id = some (.arr E sz l) := by rw [Xh ob1 id id ⟨_,hl1⟩]; simp
        obtain ⟨t3,o3,_⟩ := Xcw o2 ⟨_,hl2⟩
        rw [Xdl] at o3
        have hv : (V.sl id l.length).rep w ρ1 u := V.rep_tr t1 (by rw [hlen,Y2]; exact ⟨o,h1,h2⟩)
        have h4 := Jv o2 hl2 hsz hv
        refine ⟨⟨_,t1.trans t3,o3,?_,rfl⟩,fun j => ?_⟩
        ·rw [Wt (by simp [V.isAgg]) (by simp)] at h4
         simpa only [V.repC] using h4
        ·rcases Xiv (j := j) hl1 with h5 | h5
         ·rw [h5]; exact hk j
         ·exact .inr h5
       rcases hO.one id _ hl with ⟨hvi,rfl⟩ | ⟨b,cap,cs,sp,g1,g2,g3,g4,g5⟩
       ·simp only [gvL,Option.some.injEq,Prod.mk.injEq] at hg
        obtain ⟨rfl,rfl⟩ := hg
        exact fin ρ (Tr.refl _ _) hO (.inl ⟨hvi,rfl⟩) rfl (fun _ => .inl rfl)
       ·obtain ⟨⟨ρ1,t1,o1,hr,hs⟩,hk⟩ := Xcz ih xs ob ρ cs l ob1 hO g3 hg
        have hlen : l.length = xs.length := by simpa using congrArg List.length hs
        have hx' : (Ob.vec E' sz' xs') = .vec E sz xs := by
         rcases hk id with h5 | h5
         ·rw [hl1,hl] at h5; exact Option.some.inj h5
         ·rw [hl1] at h5; cases h5
        cases hx'
        obtain ⟨o',p1,p2⟩ := t1.same id _ g1
        have hρ1 : ρ1.m id = some (.arr b xs.length cap) := by
         cases p2 with
         | refl => exact p1
         | gone => rcases o1.one id _ hl1 with ⟨q1,_⟩ | ⟨_,_,_,_,q1,_⟩ <;> (rw [p1] at q1; cases q1)
         | grow hlt hh =>
          rcases hh with ⟨hq,_⟩ | ⟨b2,c2,hq⟩
          ·cases hq
          ·simp only [RO.arr.injEq] at hq
           rcases o1.one id _ hl1 with ⟨q1,_⟩ | ⟨_,_,_,_,q1,_⟩
           ·rw [p1] at q1; cases q1
           ·rw [p1] at q1
            simp only [Option.some.injEq,RO.arr.injEq] at q1
            omega
        refine fin ρ1 t1 o1 (.inr ⟨b,cap,cs,sp,by rw [hlen]; exact hρ1,g2,hr,fun x hx => ?_,g5⟩) hlen hk
        have h6 : x.sz ∈ l.map D.sz := List.mem_map_of_mem hx
        rw [hs] at h6
        obtain ⟨y,hy,h7⟩ := List.mem_map.1 h6
        rw [← h7]; exact g4 y hy
      ·cases e
    ·cases e
   ·cases e
  | _ => simp [V.gvF] at e
theorem X58 {k : Nat} {ρ : Env} {ob ob' : Objs} {v : V} {d : D} {u : Value} (hO : OM w ρ ob) (h : v.rep w ρ u) (e : V.gvF k ob v = some (d,ob')) : ∃ ρ',Tr w ρ w ρ' ∧ OM w ρ' ob' ∧ (V.d d).rep w ρ' u := by
 rcases h with h | ⟨p,ds,q,r⟩ | ⟨p,r⟩
 ·subst h; cases k <;> simp [V.gvF] at e
 ·obtain ⟨⟨ρ',t1,o,hr,ha⟩,_⟩ := Jy k v ob ρ ds d ob' hO r e
  exact ⟨ρ',t1,o,Xa5.2 (.inl ⟨by rw [ha]; exact p,ds,q,hr⟩)⟩
 ·obtain ⟨⟨ρ',t1,o,hr,ha⟩,_⟩ := Jy k v ob ρ [u] d ob' hO r e
  exact ⟨ρ',t1,o,Xa5.2 (.inr ⟨by rw [ha]; exact p,hr⟩)⟩
end

inductive Out where
 | ret (v : V)
 | panic (v : V)

def Xr2 (w : World) (ρ : Env) : Ending → Out → Prop
 | .returned u,.ret v => v.rep w ρ u
 | .panicked ch,.panic v => ∃ u,ch = [{ v := u,recovered := false }] ∧ v.rep w ρ u
 | _,_ => False

structure Prg where
 p : Program
 g : Nat → Option Obj

structure ACall (P : Prg) (f : Nat) (vs : List V) (ob : Objs) (K : Out → Objs → Prop) : Prop where
 run : ∀ w ρ args,OM w ρ ob → ρ.gl = P.g → V.reps w ρ vs args → Calls P.p f args.toArray w (fun e w' => ∃ out ob' ρ',K out ob' ∧ Xr2 w' ρ' e out ∧ OM w' ρ' ob' ∧ Tr w ρ w' ρ')

theorem ACall.mono {P : Prg} {f : Nat} {vs : List V} {ob : Objs} {K K' : Out → Objs → Prop} (h : ACall P f vs ob K) (hk : ∀ o b,K o b → K' o b) : ACall P f vs ob K' :=
 ⟨fun w ρ args ho hg hr => (h.run w ρ args ho hg hr).mono fun _ _ ⟨out,ob',ρ',k,r⟩ => ⟨out,ob',ρ',hk _ _ k,r⟩⟩

structure PCall (P : Prg) (f : Nat) (vs : List V) (ob : Objs) (K : V → Prop) : Prop where
 run : ∀ w ρ args,OM w ρ ob → ρ.gl = P.g → V.reps w ρ vs args → Calls P.p f args.toArray w (fun e w' => ∃ v u,K v ∧ e = .returned u ∧ v.rep w' ρ u ∧ Ext w w')

theorem PCall.mono {P : Prg} {f : Nat} {vs : List V} {ob : Objs} {K K' : V → Prop} (h : PCall P f vs ob K) (hk : ∀ v,K v → K' v) : PCall P f vs ob K' :=
 ⟨fun w ρ args ho hg hr => (h.run w ρ args ho hg hr).mono fun _ _ ⟨v,u,k,r⟩ => ⟨v,u,hk v k,r⟩⟩

theorem PCall.acall {P : Prg} {f : Nat} {vs : List V} {ob : Objs} {K : Out → Objs → Prop} (h : PCall P f vs ob fun v => K (.ret v) ob) : ACall P f vs ob K :=
 ⟨fun w ρ args ho hg hr => (h.run w ρ args ho hg hr).mono fun e w' ⟨v,u,k,he,r,x⟩ => by subst he; exact ⟨.ret v,ob,ρ,k,r,ho.ext x,x.tr⟩⟩

def Xf (P : Program) (f : Nat) : Bool := match P.funcs[f]? with
 | some fn => fn.name != "runtime.NumGoroutine" && fn.body.isSome
 | none => false

def Xm5 (K Pn : V → Objs → Prop) : Out → Objs → Prop
 | .ret v,ob => K v ob
 | .panic v,ob => Pn v ob

def Xra (E : Nat) (ob : Objs) (K : V → Objs → Prop) (v : V) : Prop := v.sto = true ∧ K (.ptr (fresh ob) []) ((fresh ob,.box E v) :: ob)
def Xw1 (ob : Objs) (id : Nat) (p : List Nat) (n E : Nat) (v t : V) (K : V → Objs → Prop) : Option V → Prop
 | some old => v.shape = old.shape ∧ old.size = n ∧ v.sto = true ∧ ∃ t',t.set p v = some t' ∧ K .undef (setO ob id (.box E t'))
 | none => False
def stKo (ob : Objs) (id : Nat) (p : List Nat) (n : Nat) (v : V) (K : V → Objs → Prop) : Option Ob → Prop
 | some (.box E t) => Xw1 ob id p n E v t K (t.at p)
 | _ => False
def Xxo (ob : Objs) (id i n : Nat) (o : Ob) (v v0 : V) (p : List Nat) (K : V → Objs → Prop) : Option V → Prop
 | some old => v.shape = old.shape ∧ old.size = n ∧ v.sto = true ∧ ∃ t',v0.set p v = some t' ∧ K .undef (setO ob id (Xbv o i t'))
 | none => False
def X01 (ob : Objs) (id i n : Nat) (o : Ob) (v : V) (z f : Nat) (p : List Nat) (K : V → Objs → Prop) : Option V → Prop
 | some v0 => (z = v0.size ∧ f = v0.shape.off p) ∧ Xxo ob id i n o v v0 p K (v0.at p)
 | none => False
def Xxn (ob : Objs) (id m z i f : Nat) (p : List Nat) (n : Nat) (v : V) (K : V → Objs → Prop) : Option Ob → Prop
 | some o => X01 ob id i n o v z f p K (Wq m i (some o))
 | none => False
def stK (ob : Objs) (n : Nat) (v : V) (K : V → Objs → Prop) : V → Prop
 | .ptr id p => stKo ob id p n v K (lookO ob id)
 | .ep id m z i f p => Xxn ob id m z i f p n v K (lookO ob id)
 | _ => False
def dK (K : List D → Prop) : Option (List D) → Prop
 | some l => K l
 | none => False
def U5 (P : Prg) (args : List V) (ob : Objs) (K Pn : V → Objs → Prop) : V → Prop
 | .fn f fi ca => Xf P.p f = true ∧ ACall P f (fi ++ args ++ ca) ob (Xm5 K Pn)
 | .d (.fn f fi ca) => Xf P.p f = true ∧ ACall P f (fi.map .d ++ args ++ ca.map .d) ob (Xm5 K Pn)
 | _ => False
def J9 (ob : Objs) (Pn : V → Objs → Prop) : V → Prop
 | .iface t v => Pn (.iface t v) ob
 | .d (.iface t v) => Pn (.d (.iface t v)) ob
 | _ => False
def Xwz (sz : Nat) (K : List D → Prop) : V → Prop
 | .d (.list z ys) => z = sz ∧ K ys
 | .d .nils => K []
 | _ => False
def Xdx (id E sz B n : Nat) (ob : Objs) (ys : List D) (K : V → Objs → Prop) : Option Ob → Prop
 | some (.arr E' sz' xs) => E' = E ∧ sz' = sz ∧ n = xs.length ∧ (2 * (xs.length + ys.length) + 192) * B ≤ 281474976710656 ∧ K (.sl id (xs.length + ys.length)) (setO ob id (.arr E sz (xs ++ ys)))
 | _ => False
def Xdv (E sz B : Nat) (ob : Objs) (ys : List D) (K : V → Objs → Prop) : V → Prop
 | .sl id n => Xdx id E sz B n ob ys K (lookO ob id)
 | .d .nils => (2 * ys.length + 192) * B ≤ 281474976710656 ∧ K (.sl (fresh ob) ys.length) ((fresh ob,.arr E sz ys) :: ob)
 | _ => False
def bytesD : List UInt8 → List D
 | [] => []
 | b :: r => .int .u8 b.toNat :: bytesD r
def X79 (K : V → Prop) : V → Prop
 | .d (.list sz xs) => sz = 1 ∧ ∃ s,xs = bytesD s ∧ K (.d (.str s))
 | .d .nils => K (.d (.str []))
 | _ => False

inductive I where
 | c (x : C)
 | box (E : Nat) (x : A)
 | alloc (E : Nat) (z : D)
 | bls (sz : Nat) (z : List D) (Xs : List (Nat × A))
 | blo (E sz : Nat) (z : List D) (Xs : List (Nat × A))
 | st (n : Nat) (x v : A)
 | app (E sz B : Nat) (x y : A)
 | appS (E B : Nat) (x y : A)
 | call (f : Nat) (args : List A)
 | pcall (f : Nat) (args : List A)
 | callv (x : A) (args : List A)
 | panic (x : A)
 | b2s (x : A)
 | s2b (x : A)
 | nilo (E sz : Nat) (x : A)
  | mvf (x : A)
  | ldf (n : Nat) (ag : Bool) (x : A)
  | mvg (E sz : Nat) (y x : A) (p : List Nat)
  | mvn (y x : A) (l : List (Nat × Nat × List Nat))
  | cvb (x : A)
  | ustr (E : Nat) (x y : A)
  | mkm (r : Option A)
  | lkp (kd z : D) (ok : Bool) (m k : A)
  | mset (kd : D) (m k v : A)
  | gld (g n : Nat) (ag : Bool) (x : D)
  | slg (n z : Nat) (x : A)
  | blv (E sz : Nat) (z : List D) (Xs : List (Nat × A))
  | apv (E sz B : Nat) (x y : A)
  | gv (x : A)
  | ldg (n : Nat) (ag : Bool) (x : A)
  | slb (n z : Nat) (x : A) (lo hi : Option A)
  | cpy (z : Nat) (x y : A)
 | clr (z0 : D) (z : Nat) (x : A)
  | gix (g n z : Nat) (x : D) (i : A)

def Xg8 (E sz : Nat) (ob : Objs) (K : V → Objs → Prop) : V → Prop
 | .d .nils => K (.sl (fresh ob) 0) ((fresh ob,.arr E sz []) :: ob)
 | _ => False
def Xig (K : V → Objs → Prop) : Option (D × Objs) → Prop
 | some (d,ob) => K (.d d) ob
 | none => False
def Xky (n : Nat) (ag : Bool) (ob : Objs) (K : V → Objs → Prop) : Option V → Prop
 | some v => v.size = n ∧ v.isAgg = ag ∧ Xig K (V.giv ob v)
 | none => False
def X0a (n : Nat) (ag : Bool) (ob : Objs) (K : V → Objs → Prop) : V → Prop
 | .ptr id p => Xky n ag ob K (atO ob id p)
 | _ => False
def Xtx (ob : Objs) (id : Nat) (p : List Nat) (x : D) (K : V → Objs → Prop) : Option Ob → Prop
 | some (.box E t) => ∃ t',t.set p (.d x) = some t' ∧ K (.d x) (setO ob id (.box E t'))
 | _ => False
def Xqc (v : V) (id : Nat) (p : List Nat) (K : V → Objs → Prop) : Option (D × Objs) → Prop
 | some (x,ob) => x.shape = v.shape ∧ Xtx ob id p x K (lookO ob id)
 | none => False
def Xqd (n : Nat) (ag : Bool) (ob : Objs) (id : Nat) (p : List Nat) (K : V → Objs → Prop) : Option V → Prop
 | some v => v.size = n ∧ v.isAgg = ag ∧ Xqc v id p K (V.gvF 40000 ob v)
 | none => False
def X1u (n : Nat) (ag : Bool) (ob : Objs) (K : V → Objs → Prop) : V → Prop
 | .ptr id p => Xqd n ag ob id p K (atO ob id p)
 | _ => False
def Xiz (ob : Objs) (id E0 E sz : Nat) (y : V) (K : V → Objs → Prop) : Option V → Prop
 | some t => K y ((fresh ob,.arr E sz []) :: setO ob id (.box E0 t))
 | none => False
def Xd3 (ob : Objs) (id : Nat) (p : List Nat) (E sz : Nat) (y : V) (K : V → Objs → Prop) : Option Ob → Prop
 | some (.box E0 t) => (t.at p = some (.d .nils) ∧ Xiz ob id E0 E sz y K (t.set p (.sl (fresh ob) 0))) ∨ ((∃ i n,t.at p = some (.sl i n)) ∧ K y ob)
 | _ => False
def Xj2 (ob : Objs) (E sz : Nat) (p : List Nat) (y : V) (K : V → Objs → Prop) : V → Prop
 | .ptr id q => Xd3 ob id (q ++ p) E sz y K (lookO ob id)
 | _ => False
def X10 (y : V) (K : V → Objs → Prop) (x : V) : List (Nat × Nat × List Nat) → Objs → Prop
 | [],ob => K y ob
 | e :: l,ob => Xj2 ob e.1 e.2.1 e.2.2 y (fun _ ob' => X10 y K x l ob') x
def Xfl (id n : Nat) (ob : Objs) (K : V → Objs → Prop) : Option Ob → Prop
 | some (.arr _ sz xs) => sz ≠ 0 ∧ n = xs.length ∧ xs ≠ [] ∧ K (.d (.list sz xs)) (setO ob id .gone)
 | _ => False
def Xst (ob : Objs) (K : V → Objs → Prop) : V → Prop
 | .sl id n => Xfl id n ob K (lookO ob id)
 | _ => False
def Xag (id n : Nat) (m : Int) (E : Nat) (ob : Objs) (K : V → Objs → Prop) : Option Ob → Prop
 | some (.arr E' sz xs) => E' = E ∧ sz = 1 ∧ n = xs.length ∧ m = n ∧ n ≤ 9223372036854775807 ∧ xs ≠ [] ∧ ∃ s,xs = bytesD s ∧ K (.d (.str s)) (setO ob id .gone)
 | _ => False
def Xa6 (E : Nat) (ob : Objs) (K : V → Objs → Prop) : V → V → Prop
 | .sd id n,.d (.int .i64 m) => Xag id n m E ob K (lookO ob id)
 | .d .nilp,.d (.int .i64 m) => m = 0 ∧ K (.d (.str [])) ob
 | _,_ => False
def Xhe (K : List D → Prop) : V → Prop
 | .d (.str s) => K (bytesD s)
 | _ => False
def X8m (K : V → Prop) : V → Prop
 | .d (.str s) => K (.d (.list 1 (bytesD s)))
 | _ => False

def D.alike : D → D → Bool
 | .int k _,.int k' _ => decide (k = k')
 | .bool _,.bool _ => true
 | .str _,.str _ => true
 | _,_ => false
def D.sameKey : D → D → Bool
 | .int _ a,.int _ b => a == b
 | .bool a,.bool b => a == b
 | .str a,.str b => a == b
 | _,_ => false
def Q6 (k : D) : List (D × V) → Option V
 | [] => none
 | (j,v) :: r => if D.sameKey k j then some v else Q6 k r
def Xnf (k : D) (x : V) : List (D × V) → List (D × V)
 | [] => [(k,x)]
 | (j,v) :: r => if D.sameKey k j then (k,x) :: r else (j,v) :: Xnf k x r
def Qb (kd k : D) (es : List (D × V)) : Prop := D.alike kd k = true ∧ ∀ e ∈ es,D.alike k e.1 = true
def X0i (z : D) : Bool → Option V → V
 | true,some v => .tup [v,.d (.bool true)]
 | true,none => .tup [.d z,.d (.bool false)]
 | false,some v => v
 | false,none => .d z
def Xf0 (kd z : D) (ok : Bool) (k : D) (K : V → Prop) : Option Ob → Prop
 | some (.map es) => Qb kd k es ∧ K (X0i z ok (Q6 k es))
 | _ => False
def Xt3 (ob : Objs) (kd z : D) (ok : Bool) (K : V → Prop) : V → V → Prop
 | .mp id,.d k => Xf0 kd z ok k K (lookO ob id)
 | .d .nilm,.d k => D.alike kd k = true ∧ K (X0i z ok none)
 | _,_ => False
def J6 (ob : Objs) (id : Nat) (kd k : D) (v : V) (K : V → Objs → Prop) : Option Ob → Prop
 | some (.map es) => Qb kd k es ∧ v.sto = true ∧ K .undef (setO ob id (.map (Xnf k v es)))
 | _ => False
def Xc6 (ob : Objs) (kd : D) (v : V) (K : V → Objs → Prop) : V → V → Prop
 | .mp id,.d k => J6 ob id kd k v K (lookO ob id)
 | _,_ => False
def Xio : V → Prop
 | .d (.int _ _) => True
 | _ => False
def Xxk (sl : Xb) : Option A → Prop
 | none => True
 | some x => Xio (x.ev sl)
def Xql (n z : Nat) (K : D → Prop) : Option V → Prop
 | some (.d (.agg xs)) => xs.length = n ∧ (∀ x ∈ xs,x.sz = z) ∧ K (.list z xs)
 | _ => False
def X3j (ob : Objs) (n z : Nat) (K : V → Objs → Prop) : V → Prop
 | .ptr id p => Xql n z (fun x => K (.d x) (setO ob id .gone)) (atO ob id p)
 | _ => False
def Xqk (id : Nat) (p : List Nat) (n z : Nat) (lo hi : Option V) (K : V → Prop) : Option (List V) → Prop
 | some ks => ks.length = n ∧ (∀ k ∈ ks,k.size = z) ∧ Ji n (fun l h => K (.bs id p l (h - l))) lo hi
 | none => False
def X8n (ob : Objs) (n z : Nat) (lo hi : Option V) (K : V → Objs → Prop) : V → Prop
 | .ptr id p => Xqk id p n z lo hi (fun v => K v ob) (Zg (atO ob id p))
 | _ => False
def X3f (lo : Nat) (xs ys : List D) : List D := xs.take lo ++ (ys ++ xs.drop (lo + ys.length))
def Yds (ob : Objs) (id E : Nat) (t : V) (p : List Nat) (lo n z : Nat) (ys : List D) (r : V) (K : V → Objs → Prop) : Option V → Prop
 | some (.d (.agg xs)) => lo + n ≤ xs.length ∧ (∀ x ∈ xs,x.sz = z) ∧ (D.agg (X3f lo xs ys)).shape = (D.agg xs).shape ∧ ∃ t',t.set p (.d (.agg (X3f lo xs ys))) = some t' ∧ K r (setO ob id (.box E t'))
 | _ => False
def Xxf (ob : Objs) (id : Nat) (p : List Nat) (lo n z : Nat) (ys : List D) (r : V) (K : V → Objs → Prop) : Option Ob → Prop
 | some (.box E t) => Yds ob id E t p lo n z ys r K (t.at p)
 | _ => False
def Ydu (z : Nat) (ob : Objs) (K : V → Objs → Prop) : V → V → Prop
 | .bs id p lo n,.d (.list z' ys) => z' = z ∧ Xxf ob id p lo n z (ys.take n) (.d (.int .i64 (min ys.length n : Nat))) K (lookO ob id)
 | _,_ => False
def Ydt (z0 : D) (z : Nat) (ob : Objs) (K : V → Objs → Prop) : V → Prop
 | .bs id p lo n => (n = 0 → (∃ E t,lookO ob id = some (.box E t)) ∧ K (.tup []) ob) ∧ (n ≠ 0 → (z0.sz = z ∧ z = 1) ∧ Xxf ob id p lo n z (List.replicate n z0) (.tup []) K (lookO ob id))
 | _ => False
def Ydz (n z : Nat) (K : V → Prop) : D → V → Prop
 | .agg xs,.d (.int _ m) => (0 ≤ m ∧ m < n) ∧ xs.length = n ∧ (∀ x ∈ xs,x.sz = z) ∧ K (.d (.ref (xs.getD m.toNat default)))
 | _,_ => False
def X8o (sz : Nat) (K : List V → Prop) (ob : Objs) : V → Prop
 | .d (.list z ys) => z = sz ∧ K (ys.map .d)
 | .d .nils => K []
 | .sl id n => (∃ E ys,lookO ob id = some (.vec E sz ys) ∧ n = ys.length ∧ V.stos ys = true ∧ K ys) ∨ ∃ E ys,lookO ob id = some (.arr E sz ys) ∧ n = ys.length ∧ K (ys.map .d)
 | _ => False
def Xdy (id E sz B n : Nat) (ob : Objs) (ys : List V) (K : V → Objs → Prop) : Option Ob → Prop
 | some (.vec E' sz' xs) => E' = E ∧ sz' = sz ∧ n = xs.length ∧ (2 * (xs.length + ys.length) + 192) * B ≤ 281474976710656 ∧ K (.sl id (xs.length + ys.length)) (setO ob id (.vec E sz (xs ++ ys)))
 | some (.arr E' sz' xs) => E' = E ∧ sz' = sz ∧ n = xs.length ∧ (2 * (xs.length + ys.length) + 192) * B ≤ 281474976710656 ∧ K (.sl id (xs.length + ys.length)) (setO ob id (.vec E sz (xs.map .d ++ ys)))
 | _ => False
def Xn7 (E sz B : Nat) (ob : Objs) (ys : List V) (K : V → Objs → Prop) : V → Prop
 | .sl id n => Xdy id E sz B n ob ys K (lookO ob id)
 | .d .nils => (2 * ys.length + 192) * B ≤ 281474976710656 ∧ K (.sl (fresh ob) ys.length) ((fresh ob,.vec E sz ys) :: ob)
 | _ => False
def Xba (P : Prg) (g : Nat) (x : D) : Prop := ∃ cs T f,P.g g = some (.cells (List.toArray cs) T f) ∧ D.isC x cs = true

def I.wp (P : Prg) (sl : Xb) (ob : Objs) (K Pn : V → Objs → Prop) : I → Prop
 | .c x => x.wp sl ob (fun v => K v ob)
 | .box E x => Xra E ob K (x.ev sl)
 | .alloc E z => Xra E ob K (.d z)
 | .bls sz z Xs => Jf (z.map .d) (Xs.map fun (i,x) => (i,x.ev sl)) fun ks => dK (fun l => K (.d (.list sz l)) ob) (V.allD ks)
 | .blo E sz z Xs => Jf (z.map .d) (Xs.map fun (i,x) => (i,x.ev sl)) fun ks => dK (fun l => K (.sl (fresh ob) l.length) ((fresh ob,.arr E sz l) :: ob)) (V.allD ks)
 | .st n x v => stK ob n (v.ev sl) K (x.ev sl)
 | .app E sz B x y => Xwz sz (fun ys => Xdv E sz B ob ys K (x.ev sl)) (y.ev sl)
 | .appS E B x y => Xhe (fun ys => Xdv E 1 B ob ys K (x.ev sl)) (y.ev sl)
 | .call f args => ACall P f (args.map (A.ev sl)) ob (Xm5 K Pn)
 | .pcall f args => PCall P f (args.map (A.ev sl)) ob fun v => K v ob
 | .callv x args => U5 P (args.map (A.ev sl)) ob K Pn (x.ev sl)
 | .panic x => J9 ob Pn (x.ev sl)
 | .b2s x => X79 (fun v => K v ob) (x.ev sl)
 | .s2b x => X8m (fun v => K v ob) (x.ev sl)
 | .nilo E sz x => Xg8 E sz ob K (x.ev sl)
 | .mvf x => Xig K (V.giv ob (x.ev sl))
 | .ldf n ag x => X0a n ag ob K (x.ev sl)
 | .mvg E sz y x p => Xj2 ob E sz p (y.ev sl) K (x.ev sl)
 | .mvn y x l => X10 (y.ev sl) K (x.ev sl) l ob
 | .cvb x => Xst ob K (x.ev sl)
 | .ustr E x y => Xa6 E ob K (x.ev sl) (y.ev sl)
 | .mkm r => Xxk sl r ∧ K (.mp (fresh ob)) ((fresh ob,.map []) :: ob)
 | .lkp kd z ok m k => Xt3 ob kd z ok (fun v => K v ob) (m.ev sl) (k.ev sl)
 | .mset kd m k v => Xc6 ob kd (v.ev sl) K (m.ev sl) (k.ev sl)
 | .gld g n ag x => Xba P g x ∧ x.sz = n ∧ (V.d x).isAgg = ag ∧ K (.d x) ob
 | .slg n z x => X3j ob n z K (x.ev sl)
 | .blv E sz z Xs => Jf (z.map .d) (Xs.map fun (i,x) => (i,x.ev sl)) fun ks => K (.sl (fresh ob) ks.length) ((fresh ob,.vec E sz ks) :: ob)
 | .apv E sz B x y => X8o sz (fun ys => Xn7 E sz B ob ys K (x.ev sl)) ob (y.ev sl)
 | .gv x => Xig K (V.gvF 40000 ob (x.ev sl))
 | .ldg n ag x => X1u n ag ob K (x.ev sl)
 | .slb n z x lo hi => X8n ob n z (lo.map (A.ev sl)) (hi.map (A.ev sl)) K (x.ev sl)
 | .cpy z x y => Ydu z ob K (x.ev sl) (y.ev sl)
 | .clr z0 z x => Ydt z0 z ob K (x.ev sl)
 | .gix g n z x i => Xba P g x ∧ Ydz n z (fun v => K v ob) x (i.ev sl)

def Xdt (P : Program) (e : TypeId) (len size : Nat) : Option (List Value) :=
 if len * size = 0 then some [] else (Qk P e).map fun z => ((Array.range (len * size)).map (z.toArray[· % z.toArray.size]!)).toList

def Xh3 (P : Program) (op : Op) (E? : Option Nat) (sz : Nat) (z : List D) (Xs : List (Nat × A)) : Bool := match op with
 | .buildSlice t len ps => Wp ps.toList Xs && (match P.underlying t with
  | some (.slice e) => (match E? with | some E => e == E | none => true) && X9 P e == some sz && z.length == len && decide (len * sz ≤ 2 ^ 24) && z.all (fun x => x.sz == sz) && (match Xdt P e len sz with | some cs => D.isCs z cs | none => false)
  | _ => false)
 | _ => false

def Uq : TypeDesc → D → Bool
 | .int _,.int _ _ => true
 | .string,.str _ => true
 | .bool,.bool _ => true
 | _,_ => false
def Qa (P : Program) (t : TypeId) (kd : D) : Bool := match P.underlying t with
 | some d => Uq d kd
 | none => false

def I.chk (P : Program) (op : Op) : I → Bool
 | .c x => x.chk P op
 | .box E y => match op with
  | .box e x => e == E && A.chk x y
  | _ => false
 | .alloc E z => match op with
  | .alloc e => e == E && match Qk P e with
   | some cs => D.isC z cs
   | none => false
  | _ => false
 | .bls sz z Xs => Xh3 P op none sz z Xs
 | .blo E sz z Xs => Xh3 P op (some E) sz z Xs
 | .blv E sz z Xs => Xh3 P op (some E) sz z Xs
 | .st n x v => match op with
  | .store t y u => X9 P t == some n && A.chk y x && A.chk u v
  | _ => false
 | .app E sz B x y => match op with
  | .call { callee := .builtin .append,args := args,argTypes := ts } => match args.toList,ts.toList with
   | [u,v],[t,t2] => (match P.underlying t with | some (.slice e) => e == E | _ => false) && (match P.info? E with | some i => i.size == sz && i.bytes == B && i.bytes != 0 && i.size != 0 && i.zero.isSome && (i.zero.map (·.cells.size)) == some sz | none => false) &&
    (P.underlying t2 matches some (.slice _)) && A.chk u x && A.chk v y
   | _,_ => false
  | _ => false
 | .apv E sz B x y => match op with
  | .call { callee := .builtin .append,args := args,argTypes := ts } => match args.toList,ts.toList with
   | [u,v],[t,t2] => (match P.underlying t with | some (.slice e) => e == E | _ => false) && (match P.info? E with | some i => i.size == sz && i.bytes == B && i.bytes != 0 && i.size != 0 && i.zero.isSome && (i.zero.map (·.cells.size)) == some sz | none => false) &&
    (P.underlying t2 matches some (.slice _)) && A.chk u x && A.chk v y
   | _,_ => false
  | _ => false
 | .appS E B x y => match op with
  | .call { callee := .builtin .append,args := args,argTypes := ts } => match args.toList,ts.toList with
   | [u,v],[t,t2] => (match P.underlying t with | some (.slice e) => e == E | _ => false) && (match P.info? E with | some i => i.size == 1 && i.bytes == B && i.bytes != 0 && i.zero.isSome && (i.zero.map (·.cells.size)) == some 1 | none => false) &&
    (P.underlying t2 matches some .string) && A.chk u x && A.chk v y
   | _,_ => false
  | _ => false
 | .call f args => match op with
  | .call { callee := .value (.func g),args := as,.. } => f == g && Xf P f && Xdz as.toList args
  | _ => false
 | .pcall f args => match op with
  | .call { callee := .value (.func g),args := as,.. } => f == g && Xf P f && Xdz as.toList args
  | _ => false
 | .callv y args => match op with
  | .call { callee := .value x,args := as,.. } => A.chk x y && Xdz as.toList args
  | _ => false
 | .panic y => match op with
  | .panic x => A.chk x y
  | _ => false
 | .b2s y => match op with
  | .convert s t x => (match P.underlying s with | some (.slice e) => (P.underlying e matches some (.int .u8)) && X9 P e == some 1 | _ => false) && (P.underlying t matches some .string) && A.chk x y
  | _ => false
 | .s2b y => match op with
  | .convert s t x => (P.underlying s matches some .string) && (match P.underlying t with | some (.slice e) => (P.underlying e matches some (.int .u8)) | _ => false) && A.chk x y
  | _ => false
 | .nilo _ _ y => match op with
  | .move x | .assign x => A.chk x y
  | _ => false
 | .mvf y => match op with
  | .move x | .assign x => A.chk x y
  | _ => false
 | .gv y => match op with
  | .move x | .assign x => A.chk x y
  | _ => false
 | .ldf n ag y => match op with
  | .load t x => X9 P t == some n && (P.underlying t).isSome && agT P t == ag && A.chk x y
  | _ => false
 | .ldg n ag y => match op with
  | .load t x => X9 P t == some n && (P.underlying t).isSome && agT P t == ag && A.chk x y
  | _ => false
 | .mvg _ _ y _ _ => match op with
  | .move x | .assign x => A.chk x y
  | _ => false
 | .mvn y _ _ => match op with
  | .move x | .assign x => A.chk x y
  | _ => false
 | .cvb y => match op with
  | .convert s t x => s == t && (match P.underlying s with | some (.slice e) => (P.underlying e matches some (.int .u8)) | _ => false) && A.chk x y
  | _ => false
 | .ustr E y z => match op with
  | .call { callee := .builtin .unsafeString,args := args,argTypes := ts } => match args.toList,ts.toList with
   | [x,n],[t,_] => (match P.underlying t with | some (.pointer e) => e == E && P.cellsOf e == 1 | _ => false) && A.chk x y && A.chk n z
   | _,_ => false
  | _ => false
 | .mkm r => match op with
  | .makeMap t h => (P.underlying t matches some (.map _ _)) && Xee h r
  | _ => false
 | .lkp kd z ok m k => match op with
  | .lookup t x i o => o == ok && (match P.underlying t with
   | some (.map kt et) => Qa P kt kd && (match Qk P et with | some cs => D.isC z cs && (((P.info? et).bind (·.zero)).map fun v => match v with | .agg _ => true | _ => false) == some (V.d z).isAgg | none => false)
   | _ => false) && A.chk x m && A.chk i k
  | _ => false
 | .mset kd m k v => match op with
  | .mapUpdate t x i y => (match P.underlying t with | some (.map kt _) => Qa P kt kd | _ => false) && A.chk x m && A.chk i k && A.chk y v
  | .insert t x i y => (match P.underlying t with | some (.map kt _) => Qa P kt kd | _ => false) && A.chk x m && A.chk i k && A.chk y v
  | _ => false
 | .gld g n ag _ => match op with
  | .load t (.global h) => h == g && X9 P t == some n && (P.underlying t).isSome && agT P t == ag
  | _ => false
 | .slg n z y => match op with
  | .slice t x none none none => (match P.underlying t with | some (.array m e) => m == n && X9 P e == some z | _ => false) && A.chk x y
  | _ => false
 | .slb n z y lo hi => match op with
  | .slice t x l h none => (match P.underlying t with | some (.array m e) => m == n && X9 P e == some z | _ => false) && A.chk x y && Xee l lo && Xee h hi
  | _ => false
 | .cpy z y s => match op with
  | .call { callee := .builtin .copy,args := args,argTypes := ts } => match args.toList,ts.toList with
   | [u,v],[t,_] => (match P.underlying t with | some (.slice e) => X9 P e == some z && z != 0 | _ => false) && A.chk u y && A.chk v s
   | _,_ => false
  | _ => false
 | .clr z0 z y => match op with
  | .call { callee := .builtin .clear,args := args,argTypes := ts } => match args.toList,ts.toList with
   | [u],[t] => (match P.underlying t with | some (.slice e) => X9 P e == some z && z != 0 && (match Qk P e with | some cs => D.isC z0 cs | none => false) | _ => false) && A.chk u y
   | _,_ => false
  | _ => false
 | .gix g n z _ j => match op with
  | .indexAddr t (.global h) i => h == g && (match P.underlying t with | some (.array m e) => n == m && X9 P e == some z | _ => false) && A.chk i j
  | _ => false
end Go.Ab
/- That the operations that make or write memory do what Ab9 says of them. Over any program; no condition. -/
namespace Go.Ab
open Go

def U2 (P : Program) (a : Act) (w : World) (ρ : Env) (op : Op) (K Pn : V → Objs → Prop) : Prop :=
 ∀ (o : Oper),o.op = op → ∀ (next : Act → World → Prop) (Q : Exit → Act → World → Prop),
  (∀ v x ob' w' ρ',K x ob' → x.rep w' ρ' v → OM w' ρ' ob' → Tr w ρ w' ρ' → next (a.put o.dst v) w') →
  (∀ u x ob' w' ρ',Pn x ob' → x.rep w' ρ' u → OM w' ρ' ob' → Tr w ρ w' ρ' → Q (.panic [{ v := u,recovered := false }]) a w') →
  o.wp P a w next Q

def X3t (P : Program) (a : Act) (w : World) (ρ : Env) (op : Op) (ob : Objs) (K : V → Objs → Prop) : Prop :=
 ∃ v x w',K x ob ∧ x.rep w' ρ v ∧ Ext w w' ∧ ∀ (o : Oper),o.op = op → (execOp a.eval o).run P w = .ok (.value v) w'

section
variable {P : Program} {a : Act} {w : World} {ρ : Env} {sl : Xb} {ob : Objs} {K Pn : V → Objs → Prop}

theorem Xg {op : Op} {v : Value} {x : V} {ob' : Objs} {w' : World} {ρ' : Env} (hr : ∀ o : Oper,o.op = op → (execOp a.eval o).run P w = .ok (.value v) w')
  (hK : K x ob') (h1 : x.rep w' ρ' v) (h2 : OM w' ρ' ob') (h3 : Tr w ρ w' ρ') : U2 P a w ρ op K Pn := by
 intro o ho next Q hn _
 unfold Oper.wp
 rw [hr o ho]
 exact hn v x ob' w' ρ' hK h1 h2 h3

theorem X3t.does {op : Op} (h : X3t P a w ρ op ob K) (hO : OM w ρ ob) : U2 P a w ρ op K Pn := by
 obtain ⟨v,x,w',hK,h1,h2,h3⟩ := h
 exact Xg h3 hK h1 (hO.ext h2) h2.tr

def Xrf (P : Program) (a : Act) (w : World) (ρ : Env) (op : Op) (ob : Objs) (K : V → Objs → Prop) : Prop :=
 ∀ (o : Oper),o.op = op → ∀ (next : Act → World → Prop) (Q : Exit → Act → World → Prop),
  (∀ v x w',K x ob → x.rep w' ρ v → Ext w w' → next (a.put o.dst v) w') → o.wp P a w next Q

theorem X3t.doesE {op : Op} (h : X3t P a w ρ op ob K) : Xrf P a w ρ op ob K := by
 obtain ⟨v,x,w',hK,h1,h2,h3⟩ := h
 intro o ho next Q hn
 unfold Oper.wp
 rw [h3 o ho]
 exact hn v x w' hK h1 h2

theorem Xrf.does {op : Op} (h : Xrf P a w ρ op ob K) (hO : OM w ρ ob) : U2 P a w ρ op K Pn := fun o ho next Q hn _ =>
 h o ho next Q fun v x w' hK h1 h2 => hn v x ob w' ρ hK h1 (hO.ext h2) h2.tr

def Xhs (P : Program) (a : Act) (w : World) (ρ : Env) (op : Op) (K : V → Objs → Prop) : Prop :=
 ∀ (o : Oper),o.op = op → ∀ (next : Act → World → Prop) (Q : Exit → Act → World → Prop),
  (∀ v x ob' w' ρ',K x ob' → x.rep w' ρ' v → OM w' ρ' ob' → Tr w ρ w' ρ' → Ext w w' → next (a.put o.dst v) w') → o.wp P a w next Q
theorem Xhs.does {op : Op} (h : Xhs P a w ρ op K) : U2 P a w ρ op K Pn := fun o ho next Q hn _ =>
 h o ho next Q fun v x ob' w' ρ' h0 h1 h2 h3 _ => hn v x ob' w' ρ' h0 h1 h2 h3
theorem V8 {op : Op} {v : Value} {x : V} {ob' : Objs} {w' : World} {ρ' : Env} (hr : ∀ o : Oper,o.op = op → (execOp a.eval o).run P w = .ok (.value v) w')
  (hK : K x ob') (h1 : x.rep w' ρ' v) (h2 : OM w' ρ' ob') (h3 : Tr w ρ w' ρ') (h4 : Ext w w') : Xhs P a w ρ op K := by
 intro o ho next Q hn
 unfold Oper.wp
 rw [hr o ho]
 exact hn v x ob' w' ρ' hK h1 h2 h3 h4

theorem Jm {op : Op} {ob' : Objs} {w' : World} {ρ' : Env} (hr : ∀ o : Oper,o.op = op → (execOp a.eval o).run P w = .ok .skip w')
  (hK : K .undef ob') (h2 : OM w' ρ' ob') (h3 : Tr w ρ w' ρ') : U2 P a w ρ op K Pn := by
 intro o ho next Q hn _
 unfold Oper.wp
 rw [hr o ho]
 exact hn undef .undef ob' w' ρ' hK (Zw.2 rfl) h2 h3

theorem X9l (hs : SM w ρ sl a) (hO : OM w ρ ob) {op : Op} {x : C} (hc : x.chk P op = true) (h : x.wp sl ob (fun v => K v ob)) : U2 P a w ρ op K Pn := by
 obtain ⟨v,y,hK,h1,h2⟩ := C.sound hs hO hc h
 exact Xg (fun o ho => h2 o ho w (fun _ => Ext.refl w)) hK h1 hO (Tr.refl _ _)

theorem Xh6 (hs : SM w ρ sl a) (hO : OM w ρ ob) {op : Op} {E : Nat} {x : A} (hc : I.chk P op (.box E x) = true) (h : Xra E ob K (x.ev sl)) : Xhs P a w ρ op K := by
 cases op <;> simp [I.chk] at hc
 rename_i E' y
 obtain ⟨rfl,hc⟩ := hc
 obtain ⟨h2,hK⟩ := h
 have h1 := Yp ob
 have r1 := A.sound hs hc
 have hre := Vd (V.sto_any h2) r1
 obtain ⟨t1,o1,p1⟩ := Xtv hO h1 hre E'
 refine V8 (fun o ho => ?_) hK p1 o1 t1 (Vk w _)
 simp only [execOp,ho,Instr.box,newVar,newRow,Sem.run_bind,run_newObj,Result.andThen_ok,Sem.run_pure,Array.toArray_toList]
 rfl

theorem Xcs (hO : OM w ρ ob) {op : Op} {E0 : Nat} {z : D} (hc : I.chk P op (.alloc E0 z) = true) (h : Xra E0 ob K (.d z)) : Xhs P a w ρ op K := by
 cases op <;> simp only [I.chk,Bool.false_eq_true] at hc
 rename_i E
 simp only [Bool.and_eq_true,beq_iff_eq] at hc
 obtain ⟨rfl,hc⟩ := hc
 obtain ⟨h2,hK⟩ := h
 have h1 := Yp ob
 cases hz : Qk P E with
 | none => simp [hz] at hc
 | some cs =>
  simp only [hz] at hc
  obtain ⟨v,e1,_,hzr⟩ := Qw hz
  have hre : (V.d z).repC w ρ cs := by simp only [V.repC]; exact D.isC_rep z cs hc
  obtain ⟨t1,o1,p1⟩ := Xtv hO h1 hre E
  refine V8 (fun o ho => ?_) hK p1 o1 t1 (Vk w _)
  simp only [execOp,ho,Instr.alloc,newVar,newRow,Sem.run_bind,hzr,run_newObj,Result.andThen_ok,Sem.run_pure]
  rw [← e1,Array.toArray_toList]
  rfl

theorem X51 (hs : SM w ρ sl a) (hO : OM w ρ ob) {op : Op} {n : Nat} {x v : A} (hc : I.chk P op (.st n x v) = true) (h : stK ob n (v.ev sl) K (x.ev sl)) : U2 P a w ρ op K Pn := by
 cases op <;> simp [I.chk] at hc
 rename_i t y u
 obtain ⟨⟨hn,h1⟩,h2⟩ := hc
 have r1 := A.sound hs h1
 have r2 := A.sound hs h2
 unfold stK at h
 split at h
 ·rename_i id p e1
  rw [e1] at r1
  unfold stKo at h
  split at h
  ·rename_i E t0 hl
   obtain ⟨b,sh,hρ,r1⟩ := rep_ptr_box hO hl r1
   cases hat : t0.at p with
   | none => simp [hat,Xw1] at h
   | some old =>
    simp only [hat,Xw1] at h
    obtain ⟨hsh,hsz,hst,t',hset,hK⟩ := h
    obtain ⟨b',cs,g1,g2,g3⟩ := hO.one id _ hl
    rw [hρ] at g1
    simp only [Option.some.injEq,RO.box.injEq] at g1
    obtain ⟨rfl,rfl⟩ := g1
    have hre := Vd (V.sto_any hst) r2
    obtain ⟨t'',e2,e3,h4⟩ := V.repC_set p t0 old _ cs _ g3 hat hre hsh
    rw [hset] at e2
    simp only [Option.some.injEq] at e2
    subst e2
    obtain ⟨t1,o1⟩ := write_box hO hl hρ g2 e3 h4
    obtain ⟨c1,c2,c3,q1,q2,q3⟩ := V.repC_at p t0 old cs g3 hat
    have hlen := V.repC_len _ _ hre
    have hl2 := V.repC_len _ _ q3
    refine Jm (fun o ho => ?_) hK o1 t1
    have hsize : (a.eval u).cells.size = n := by
     rw [← hsz]; unfold V.size; rw [← hsh,← hlen]; simp
    have hrun := run_storeCells_at (P := P) b (t0.shape.off p) E (a.eval u).cells.toList 0 cs.toArray w g2 (by
     rw [hlen,hsh,← hl2,← q2,q1]; simp) (V.one _ _ hst hre)
    simp only [execOp,ho,Instr.storeAt,Instr.sureAddr,storeVar,r1,Sem.run_bind,Sem.run_pure,Result.andThen_ok,Xm hn,hsize,ne_eq,not_true,if_false]
    rw [hrun]
    simp
  ·exact h.elim
 ·rename_i id m z i f p e1
  rw [e1] at r1
  unfold Xxn at h
  split at h
  ·rename_i ox hl
   unfold X01 at h
   split at h
   ·rename_i v0 hel
    obtain ⟨⟨hs1,hs2⟩,h⟩ := h
    cases hat : v0.at p with
    | none => simp [hat,Xxo] at h
    | some old =>
     simp only [hat,Xxo] at h
     obtain ⟨hsh,hsz,hst,t',hset,hK⟩ := h
     obtain ⟨b,cap,E,c1,c2,c3,g1,g2,g3,g4,g5⟩ := Xq6 hO hl hel
     rw [Xjg] at r1
     obtain ⟨o,q1,q2⟩ := r1
     rw [g1] at q1
     simp only [Option.some.injEq] at q1
     subst q1
     have r1 := q2.2.2 rfl
     have hre := Vd (V.sto_any hst) r2
     obtain ⟨t'',e2,e3,h4⟩ := V.repC_set p v0 old _ c2 _ g4 hat hre hsh
     rw [hset] at e2
     simp only [Option.some.injEq] at e2
     subst e2
     obtain ⟨t1,o1⟩ := g5 t' _ e3 h4
     obtain ⟨d1,d2,d3,z1,z2,z3⟩ := V.repC_at p v0 old c2 g4 hat
     have hlen := V.repC_len _ _ hre
     have hl2 := V.repC_len _ _ z3
     refine Jm (fun o ho => ?_) hK o1 t1
     have hsize : (a.eval u).cells.size = n := by
      rw [← hsz]; unfold V.size; rw [← hsh,← hlen]; simp
     have eoff : i * z + f = c1.length + v0.shape.off p := by rw [hs1,hs2,g3]
     have hl3 : (a.eval u).cells.toList.length = d2.length := by rw [hlen,hsh,← hl2]
     have hrun := run_storeCells_at (P := P) b (c1.length + v0.shape.off p) E (a.eval u).cells.toList 0 (c1 ++ (c2 ++ c3)).toArray w g2 (by
      rw [hl3,← z2,z1]; simp; omega) (V.one _ _ hst hre)
     simp only [execOp,ho,Instr.storeAt,Instr.sureAddr,storeVar,r1,Sem.run_bind,Sem.run_pure,Result.andThen_ok,Xm hn,hsize,ne_eq,not_true,if_false,eoff]
     rw [hrun]
     have e7 : (c1 ++ (c2 ++ c3)).take (c1.length + v0.shape.off p) = c1 ++ c2.take (v0.shape.off p) := by
      rw [List.take_length_add_append,List.take_append_of_le_length (by rw [z1,← z2]; simp)]
     have e8 : (c1 ++ (c2 ++ c3)).drop (c1.length + v0.shape.off p + (a.eval u).cells.toList.length) = c2.drop (v0.shape.off p + (a.eval u).cells.toList.length) ++ c3 := by
      rw [Nat.add_assoc,List.drop_length_add_append,List.drop_append_of_le_length (by rw [z1,← z2,hl3]; simp)]
     simp only [Sem.run_pure,Result.andThen_ok]
     congr 2
     simp only [Nat.add_zero,List.toList_toArray] at e7 e8 ⊢
     rw [e7,e8]
     simp only [List.append_assoc]
   ·exact h.elim
  ·exact h.elim
 ·exact h.elim

theorem Xpw (hs : SM w ρ sl a) (hO : OM w ρ ob) {op : Op} {x : A} (hc : I.chk P op (.panic x) = true) (h : J9 ob Pn (x.ev sl)) : U2 P a w ρ op K Pn := by
 cases op <;> simp [I.chk] at hc
 have r1 := A.sound hs hc
 unfold J9 at h
 split at h
 ·rename_i t v e1
  rw [e1] at r1
  have r2 := r1
  rw [Wt (by simp [V.isAgg]) (by simp)] at r2
  simp only [V.repC,List.cons.injEq,and_true] at r2
  obtain ⟨c,r2,_⟩ := r2
  intro o ho next Q _ hq
  unfold Oper.wp
  have : (execOp a.eval o).run P w = .halt (.panic (.iface t c)) w := by simp [execOp,ho,Instr.panic,r2]
  rw [this]
  rw [r2] at r1
  exact hq _ _ _ _ _ h r1 hO (Tr.refl _ _)
 ·rename_i t v e1
  rw [e1] at r1
  have r2 := r1
  rw [Xac] at r2
  obtain ⟨c,r2,_⟩ := r2
  intro o ho next Q _ hq
  unfold Oper.wp
  have : (execOp a.eval o).run P w = .halt (.panic (.iface t c)) w := by simp [execOp,ho,Instr.panic,r2]
  rw [this]
  rw [r2] at r1
  exact hq _ _ _ _ _ h r1 hO (Tr.refl _ _)
 ·exact h.elim

theorem Z4 {w : World} {ρ : Env} : ∀ {xs ys : List V} {us vs : List Value},V.reps w ρ xs us → V.reps w ρ ys vs → V.reps w ρ (xs ++ ys) (us ++ vs)
 | [],ys,us,vs,h1,h2 => by simp only [V.reps] at h1; subst h1; simpa using h2
 | x :: r,ys,us,vs,h1,h2 => by
  simp only [V.reps] at h1
  obtain ⟨u,us',rfl,h3,h4⟩ := h1
  simp only [List.cons_append,V.reps]
  exact ⟨u,us' ++ vs,rfl,h3,Z4 h4 h2⟩

theorem Xas {P : Prg} (hg : ρ.gl = P.g) {op : Op} {f : Nat} {vs : List V} {args : List Value} (hr : ∀ o : Oper,o.op = op → (execOp a.eval o).run P.p w = .ok (.enter f args.toArray) w)
  (h : ACall P f vs ob (Xm5 K Pn)) (hO : OM w ρ ob) (h1 : V.reps w ρ vs args) : U2 P.p a w ρ op K Pn := by
 intro o ho next Q hn hq
 unfold Oper.wp
 rw [hr o ho]
 simp only [Oper.upon]
 refine (h.run w ρ args hO hg h1).mono fun e w' ⟨out,ob',ρ',k,r,o1,t1⟩ => ?_
 cases e with
 | returned u =>
  cases out with
  | ret v => exact hn u v ob' w' ρ' k r o1 t1
  | panic v => exact r.elim
 | panicked ch =>
  cases out with
  | ret v => exact r.elim
  | panic v => obtain ⟨u,rfl,r⟩ := r; exact hq u v ob' w' ρ' k r o1 t1
 | outgrown => cases out <;> exact r.elim

theorem Wb {f : Nat} (h : Xf P f = true) (args : Array Value) (w : World) : (callFunc f args).run P w = .ok (.enter f args) w := by
 unfold Xf at h
 split at h
 ·rename_i fn hf
  simp only [Bool.and_eq_true,bne_iff_ne,ne_eq] at h
  obtain ⟨b,hb⟩ := Option.isSome_iff_exists.1 h.2
  simp [callFunc,hf,h.1,hb]
 ·simp at h

theorem Xsy {P : Prg} (hg : ρ.gl = P.g) (hs : SM w ρ sl a) (hO : OM w ρ ob) {op : Op} {f : Nat} {args : List A} (hc : I.chk P.p op (.call f args) = true) (h : ACall P f (args.map (A.ev sl)) ob (Xm5 K Pn)) : U2 P.p a w ρ op K Pn := by
 cases op <;> simp only [I.chk,Bool.false_eq_true] at hc
 rename_i c
 obtain ⟨ca,as,ts⟩ := c
 cases ca <;> (try simp only [Bool.false_eq_true] at hc)
 rename_i g
 cases g <;> (try simp only [Bool.false_eq_true] at hc)
 simp only [Bool.and_eq_true,beq_iff_eq] at hc
 obtain ⟨⟨rfl,h1⟩,h2⟩ := hc
 refine Xas hg (args := as.toList.map a.eval) (fun o ho => ?_) h hO (W5 hs h2)
 have : a.eval (.func f) = .func (.func f) #[] #[] := rfl
 simp only [execOp,ho,resolve,this,Deferred.ofValue,Sem.run_bind,Sem.run_pure,Result.andThen_ok,invoke,Wb h1,Wh]
 simp

theorem Xcr {P : Prg} (hg : ρ.gl = P.g) (hs : SM w ρ sl a) (hO : OM w ρ ob) {op : Op} {f : Nat} {args : List A} (hc : I.chk P.p op (.pcall f args) = true) (h : PCall P f (args.map (A.ev sl)) ob fun v => K v ob) : Xrf P.p a w ρ op ob K := by
 cases op <;> simp only [I.chk,Bool.false_eq_true] at hc
 rename_i c
 obtain ⟨ca,as,ts⟩ := c
 cases ca <;> (try simp only [Bool.false_eq_true] at hc)
 rename_i g
 cases g <;> (try simp only [Bool.false_eq_true] at hc)
 simp only [Bool.and_eq_true,beq_iff_eq] at hc
 obtain ⟨⟨rfl,h1⟩,h2⟩ := hc
 intro o ho next Q hn
 have hrun : (execOp a.eval o).run P.p w = .ok (.enter f (as.toList.map a.eval).toArray) w := by
  have : a.eval (.func f) = .func (.func f) #[] #[] := rfl
  simp only [execOp,ho,resolve,this,Deferred.ofValue,Sem.run_bind,Sem.run_pure,Result.andThen_ok,invoke,Wb h1,Wh]
  simp
 unfold Oper.wp
 rw [hrun]
 simp only [Oper.upon]
 refine (h.run w ρ _ hO hg (W5 hs h2)).mono fun e w' ⟨v,u,k,he,r,x⟩ => ?_
 subst he
 exact hn u v w' k r x

theorem Xpv {P : Prg} (hg : ρ.gl = P.g) (hs : SM w ρ sl a) (hO : OM w ρ ob) {op : Op} {x : A} {args : List A} (hc : I.chk P.p op (.callv x args) = true) (h : U5 P (args.map (A.ev sl)) ob K Pn (x.ev sl)) : U2 P.p a w ρ op K Pn := by
 cases op <;> simp only [I.chk,Bool.false_eq_true] at hc
 rename_i c
 obtain ⟨ca,as,ts⟩ := c
 cases ca <;> (try simp only [Bool.false_eq_true] at hc)
 rename_i g
 simp only [Bool.and_eq_true] at hc
 obtain ⟨h1,h2⟩ := hc
 have r1 := A.sound hs h1
 unfold U5 at h
 split at h
 ·rename_i f fi ca e1
  rw [e1,Xdi] at r1
  obtain ⟨fs,gs,r1,r2,r3⟩ := r1
  refine Xas hg (args := fs ++ as.toList.map a.eval ++ gs) (fun o ho => ?_) h.2 hO (Z4 (Z4 r2 (W5 hs h2)) r3)
  simp only [execOp,ho,resolve,r1,Deferred.ofValue,Sem.run_bind,Sem.run_pure,Result.andThen_ok,invoke,Wb h.1,Wh]
  simp
 ·rename_i f fi ca e1
  rw [e1,Xhb] at r1
  obtain ⟨fs,gs,r1,r2,r3⟩ := r1
  refine Xas hg (args := fs ++ as.toList.map a.eval ++ gs) (fun o ho => ?_) h.2 hO (Z4 (Z4 r2 (W5 hs h2)) r3)
  simp only [execOp,ho,resolve,r1,Deferred.ofValue,Sem.run_bind,Sem.run_pure,Result.andThen_ok,invoke,Wb h.1,Wh]
  simp
 ·exact h.elim

theorem Xy6 (hs : SM w ρ sl a) (hO : OM w ρ ob) {op : Op} {x : A} (hc : I.chk P op (.mvf x) = true) (h : Xig K (V.giv ob (x.ev sl))) : U2 P a w ρ op K Pn := by
 cases hg : V.giv ob (x.ev sl) with
 | none => simp [hg,Xig] at h
 | some q =>
  obtain ⟨d,ob'⟩ := q
  simp only [hg,Xig] at h
  cases op <;> simp [I.chk] at hc
  all_goals
   have r1 := A.sound hs hc
   obtain ⟨ρ',t1,o1,r2⟩ := Xb6 hO r1 hg
   exact Xg (fun o ho => by simp [execOp,ho]) h r2 o1 t1

theorem X50 (hs : SM w ρ sl a) (hO : OM w ρ ob) {op : Op} {x : A} (hc : I.chk P op (.gv x) = true) (h : Xig K (V.gvF 40000 ob (x.ev sl))) : U2 P a w ρ op K Pn := by
 cases hg : V.gvF 40000 ob (x.ev sl) with
 | none => simp [hg,Xig] at h
 | some q =>
  obtain ⟨d,ob'⟩ := q
  simp only [hg,Xig] at h
  cases op <;> simp [I.chk] at hc
  all_goals
   have r1 := A.sound hs hc
   obtain ⟨ρ',t1,o1,r2⟩ := X58 hO r1 hg
   exact Xg (fun o ho => by simp [execOp,ho]) h r2 o1 t1

theorem Xy2 (hs : SM w ρ sl a) (hO : OM w ρ ob) {op : Op} {n : Nat} {ag : Bool} {x : A} (hc : I.chk P op (.ldf n ag x) = true) (h : X0a n ag ob K (x.ev sl)) : U2 P a w ρ op K Pn := by
 have hc' : C.chk P op (.ld n ag x) = true := hc
 unfold X0a at h
 split at h
 ·rename_i id p e1
  cases hat : atO ob id p with
  | none => simp [hat,Xky] at h
  | some v =>
   simp only [hat,Xky] at h
   obtain ⟨h1,h2,h⟩ := h
   cases hg : V.giv ob v with
   | none => simp [hg,Xig] at h
   | some q =>
    obtain ⟨d,ob'⟩ := q
    simp only [hg,Xig] at h
    obtain ⟨u,y,hy,hr,hrun⟩ := Xcg (K := fun y => y = v) hs hO hc' (by rw [e1]; simp only [ldK,hat,Xfx]; exact ⟨h1,h2,trivial⟩)
    subst hy
    obtain ⟨ρ',t1,o1,r2⟩ := Xb6 hO hr hg
    exact Xg (fun o ho => hrun o ho w (fun _ => Ext.refl w)) h r2 o1 t1
 ·exact h.elim

theorem Xy3 (hs : SM w ρ sl a) (hO : OM w ρ ob) {op : Op} {n : Nat} {ag : Bool} {x : A} (hc : I.chk P op (.ldg n ag x) = true) (h : X1u n ag ob K (x.ev sl)) : U2 P a w ρ op K Pn := by
 cases op <;> simp [I.chk] at hc
 rename_i t y
 obtain ⟨⟨⟨hn,hu⟩,hag⟩,h1⟩ := hc
 have r1 := A.sound hs h1
 unfold X1u at h
 split at h
 ·rename_i id p e1
  rw [e1] at r1
  cases hat : atO ob id p with
  | none => simp [hat,Xqd] at h
  | some v =>
   simp only [hat,Xqd] at h
   obtain ⟨h2,h3,h⟩ := h
   cases hg : V.gvF 40000 ob v with
   | none => simp [hg,Xqc] at h
   | some q =>
    obtain ⟨d,ob1⟩ := q
    simp only [hg,Xqc] at h
    obtain ⟨hsh,h⟩ := h
    obtain ⟨t0,b',cs,E,g1,g2,g3,g4,g5⟩ := Jj hO hat
    obtain ⟨b,sh,hρ,r1⟩ := rep_ptr_box hO g1 r1
    rw [hρ] at g3
    simp only [Option.some.injEq,RO.box.injEq] at g3
    obtain ⟨rfl,rfl⟩ := g3
    obtain ⟨c1,c2,c3,e2,e3,h4⟩ := V.repC_at p t0 v cs g5 g2
    obtain ⟨⟨ρ',t1,o1,hx,hxa⟩,hk⟩ := Jy 40000 v ob ρ c2 d ob1 hO h4 hg
    have hlk : lookO ob1 id = some (.box E t0) := by
     rcases hk id with h5 | h5
     ·rw [h5,g1]
     ·rw [h5] at h; exact h.elim
    rw [hlk] at h
    simp only [Xtx] at h
    obtain ⟨t',hset,hK⟩ := h
    have hρ' : ρ'.m id = some (.box b t0.shape) := by
     obtain ⟨o',p1,p2⟩ := t1.same id _ hρ
     obtain ⟨b2,cs2,q1,_⟩ := o1.one id _ hlk
     rw [p1] at q1
     cases p2 with
     | refl => exact p1
     | gone => cases q1
     | grow _ hh => rcases hh with ⟨hq,_⟩ | ⟨_,_,hq⟩ <;> cases hq
    have g5' := V.repC_tr t1 _ _ g5
    obtain ⟨t'',e4,e5,h6⟩ := V.repC_set p t0 v (.d d) cs c2 g5' g2 (by simpa only [V.repC] using hx) (by simpa only [V.shape] using hsh)
    rw [hset] at e4
    simp only [Option.some.injEq] at e4
    subst e4
    have e7 : cs.take (t0.shape.off p) ++ (c2 ++ cs.drop (t0.shape.off p + c2.length)) = cs := by
     rw [← e3,e2]; simp
    rw [e7] at h6
    have o2 := o1.swap hlk (x' := .box E t') ⟨b,cs,by rw [e5]; exact hρ',g4,h6⟩
    have hl : c2.length = n := by rw [V.repC_len _ _ h4,← h2]; rfl
    have hrun := Xor (P := P) (t := t) (n := n) hn hu (b := b) (off := t0.shape.off p) (cs := c2) hl (w' := w) (fun i hi => by
     rw [← e3]
     simp [World.cell?,g4,e2,List.getElem?_append,hi]) (fun h4 => by rw [hag] at h4; rw [h4] at h3; rw [← h2]; exact Vj h3)
    have hre := Qg (w := w) (ρ := ρ') (v := .d d) (cs := c2) (by simpa only [V.repC] using hx)
    have hda : (V.d d).isAgg = ag := by
     rw [← h3,← hxa]; cases d <;> rfl
    rw [hda] at hre
    refine Xg (fun o ho => ?_) hK hre o2 t1
    simp only [execOp,ho,r1,Sem.run_bind,hrun,Result.andThen_ok,Sem.run_pure,hag]
 ·exact h.elim

theorem Xoz (hO : OM w ρ ob) {E sz : Nat} {y x : V} {p : List Nat} (h : Xj2 ob E sz p y K x) : ∃ ρ' ob',Tr w ρ w ρ' ∧ OM w ρ' ob' ∧ K y ob' := by
 unfold Xj2 at h
 split at h
 ·rename_i id q
  unfold Xd3 at h
  split at h
  ·rename_i E0 t hl
   rcases h with ⟨hat,h⟩ | ⟨_,h⟩
   case inr => exact ⟨ρ,ob,Tr.refl w ρ,hO,h⟩
   obtain ⟨b,cs,g1,g2,g3⟩ := hO.one id _ hl
   have hne : id ≠ fresh ob := by intro e; subst e; rw [Yp] at hl; cases hl
   have hbl : ∀ b,RO.virt.blk? = some b → w.heap.size ≤ b := fun b hb => by simp [RO.blk?] at hb
   have t1 := Jz w (Ext.refl w) (o := .virt) (hO.free (Yp ob)) hbl
   have o1 : OM w (ρ.ins (fresh ob) .virt) ((fresh ob,.arr E sz []) :: ob) := hO.ins (Ext.refl w) (Yp ob) hbl (.inl ⟨by simp [Env.ins],rfl⟩)
   have g3' := V.repC_tr t1 _ _ g3
   obtain ⟨c1,c2,c3,e2,e3,h4⟩ := V.repC_at (q ++ p) t (.d .nils) cs g3' hat
   simp only [V.repC,D.rep] at h4
   subst h4
   obtain ⟨t',e4,e5,h6⟩ := V.repC_set (q ++ p) t (.d .nils) (.sl (fresh ob) 0) cs [.slice none 0 0] g3' hat (by simp only [V.repC]; exact ⟨.virt,_,by simp [Env.ins],rfl,rfl,rfl⟩) (by simp [V.shape,D.shape])
   rw [e4] at h
   simp only [Xiz] at h
   have e7 : cs.take (t.shape.off (q ++ p)) ++ ([Value.slice none 0 0] ++ cs.drop (t.shape.off (q ++ p) + [Value.slice none 0 0].length)) = cs := by
    rw [← e3,e2]; simp
   rw [e7] at h6
   have hl1 : lookO ((fresh ob,Ob.arr E sz []) :: ob) id = some (.box E0 t) := by simp [lookO,hne.symm,hl]
   obtain ⟨t2,o2⟩ := write_box o1 (t' := t') hl1 (by simp [Env.ins,hne,g1]) g2 e5 h6
   have hw : w.setRow b cs.toArray = w := by
    have : w.heap[b]? = some (.cells cs.toArray E0 (0,0)) := g2
    obtain ⟨hb,hb'⟩ := Array.getElem?_eq_some_iff.1 this
    unfold World.setRow
    have hh : (w.heap.modify b fun o => match o with | .cells _ e f => .cells cs.toArray e f | o => o) = w.heap := by
     apply Array.ext_getElem?
     intro j
     rw [Array.getElem?_modify]
     split
     ·rename_i e; subst e; rw [this]; simp
     ·rfl
    cases w
    simp only [World.mk.injEq,and_true,true_and]
    exact hh
   rw [hw] at t2 o2
   simp only [setO,hne.symm,if_false] at o2
   exact ⟨_,_,t1,o2,h⟩
  ·exact h.elim
 ·exact h.elim

theorem Xo0 {y x : V} : ∀ {l : List (Nat × Nat × List Nat)} {ρ ob},OM w ρ ob → X10 y K x l ob → ∃ ρ' ob',Tr w ρ w ρ' ∧ OM w ρ' ob' ∧ K y ob'
 | [],ρ,ob,hO,h => ⟨ρ,ob,Tr.refl w ρ,hO,h⟩
 | e :: l,ρ,ob,hO,h => by
  obtain ⟨ρ1,ob1,t1,o1,h1⟩ := Xoz hO h
  obtain ⟨ρ2,ob2,t2,o2,h2⟩ := Xo0 o1 h1
  exact ⟨ρ2,ob2,t1.trans t2,o2,h2⟩

theorem Xy7 (hs : SM w ρ sl a) (hO : OM w ρ ob) {op : Op} {E sz : Nat} {y x : A} {p : List Nat} (hc : I.chk P op (.mvg E sz y x p) = true) (h : Xj2 ob E sz p (y.ev sl) K (x.ev sl)) : U2 P a w ρ op K Pn := by
 obtain ⟨ρ',ob',t1,o1,h1⟩ := Xoz hO h
 cases op <;> simp [I.chk] at hc
 all_goals
  have r1 := A.sound hs hc
  exact Xg (fun o ho => by simp [execOp,ho]) h1 (V.rep_tr t1 r1) o1 t1

theorem Xy8 (hs : SM w ρ sl a) (hO : OM w ρ ob) {op : Op} {y x : A} {l : List (Nat × Nat × List Nat)} (hc : I.chk P op (.mvn y x l) = true) (h : X10 (y.ev sl) K (x.ev sl) l ob) : U2 P a w ρ op K Pn := by
 obtain ⟨ρ',ob',t1,o1,h1⟩ := Xo0 hO h
 cases op <;> simp [I.chk] at hc
 all_goals
  have r1 := A.sound hs hc
  exact Xg (fun o ho => by simp [execOp,ho]) h1 (V.rep_tr t1 r1) o1 t1
end
end Go.Ab
/- That slice literals, appends and conversions between strings and bytes do what Ab9 says of them; and all operations together. Over any program; no condition. -/
namespace Go.Ab
open Go
section
variable {P : Program} {a : Act} {w : World} {ρ : Env} {sl : Xb} {ob : Objs} {K Pn : V → Objs → Prop}

theorem Xnb (hs : SM w ρ sl a) {z : List D} {Xs : List (Nat × A)} {t e : TypeId} {len sz : Nat} {ps : Array (Nat × Operand)} {K : List V → Prop} (hst : P.underlying t = some (.slice e)) (he : X9 P e = some sz)
  (hp : Wp ps.toList Xs = true) (hl : z.length = len) (h24 : len * sz ≤ 2 ^ 24) (hu : ∀ x ∈ z,x.sz = sz) (hz : (match Xdt P e len sz with | some cs => D.isCs z cs | none => false) = true)
  (h : Jf (z.map .d) (Xs.map fun (i,x) => (i,x.ev sl)) K) :
  ∃ ks cs,K ks ∧ V.repCs w ρ ks cs ∧ ks.map V.shape = (z.map V.d).map V.shape ∧ ∀ o : Oper,o.op = .buildSlice t len ps → (execOp a.eval o).run P w = .ok (.value (.slice (some ⟨w.heap.size,0,none⟩) len len)) (Xhu w (.cells cs.toArray e)) := by
 cases hzr : Xdt P e len sz with
 | none => simp [hzr] at hz
 | some cs =>
  simp only [hzr] at hz
  have hrep : V.repCs w ρ (z.map .d) cs := (V.repCs_d z cs).2 (D.isCs_rep z cs hz)
  have hplace : ∀ i,i < ((z.map V.d).map V.shape).length → (fun i => some (i * sz,sz)) i = some (Sh.sizes (((z.map V.d).map V.shape).take i),(((z.map V.d).map V.shape).getD i .leaf).size) := by
   intro i hi
   have hi' : i < z.length := by simpa using hi
   have hx : z[i].shape.size = sz := by rw [D.size_shape]; exact hu _ (List.getElem_mem hi')
   rw [← Xpe,D.szs_uniform (sz := sz) _ (fun x hx => hu x (List.mem_of_mem_take hx)),List.length_take,Nat.min_eq_left (by omega)]
   simp [hi',V.shape,hx]
  have hkeep : ∀ (ks : List V) (ps : List (Nat × V)) (K : List V → Prop),Jf ks ps K → Jf ks ps (fun ks' => K ks' ∧ ks'.map V.shape = ks.map V.shape) := by
   intro ks ps
   induction ps generalizing ks with
   | nil => intro K h; exact ⟨h,rfl⟩
   | cons p r ih =>
    obtain ⟨i,v⟩ := p
    intro K h
    simp only [Jf] at h ⊢
    obtain ⟨h1,h2,h3,h4⟩ := h
    refine ⟨h1,h2,h3,?_⟩
    have h5 := ih (ks.set i v) K h4
    have e : (ks.set i v).map V.shape = ks.map V.shape := by
     rw [List.map_set,h2]
     apply List.ext_getElem?
     intro j
     by_cases hj : i = j
     ·subst hj; rw [List.getElem?_set]; simp [h1]
     ·rw [List.getElem?_set]; simp [hj]
    rw [e] at h5
    exact h5
  obtain ⟨ks',cs',⟨hK,hsh⟩,hR,hF⟩ := Xfp (sl := sl) hs (fun i => some (i * sz,sz)) ((z.map V.d).map V.shape) hplace ps.toList Xs (z.map .d) cs _ hp hrep rfl (hkeep _ _ _ h)
  refine ⟨ks',cs',hK,hR,hsh,fun o ho => ?_⟩
  have hparts : ∀ ρ' : Operand → Value,(ps.map fun (i,x) => (i,ρ' x)).toList = ps.toList.map fun (i,x) => (i,ρ' x) := fun ρ' => by simp
  simp only [execOp,ho,Instr.buildSlice,Sem.run_bind,Xa hst,Xm he,Result.andThen_ok,hparts]
  rw [if_neg (by omega)]
  unfold Xdt at hzr
  by_cases h0 : len * sz = 0
  ·simp only [h0,if_true,Option.some.injEq] at hzr
   subst hzr
   simp only [h0,if_true,Sem.run_pure]
   have : (Array.map (fun x => (#[] : Array Value)[x % (#[] : Array Value).size]!) (Array.range 0)) = ([] : List Value).toArray := by simp
   simp only [this,hF,newRow,Sem.run_bind,run_newObj,Result.andThen_ok,Sem.run_pure]
   rfl
  ·simp only [h0,if_false] at hzr ⊢
   cases hzt : Qk P e with
   | none => simp [hzt] at hzr
   | some zc =>
    simp only [hzt,Option.map_some,Option.some.injEq] at hzr
    obtain ⟨zv,e1,_,hzrun⟩ := Qw hzt
    have e2 : zv.cells = zc.toArray := by rw [← e1]
    have e3 : Array.map (fun x => zv.cells[x % zv.cells.size]!) (Array.range (len * sz)) = cs.toArray := by
     rw [e2,← hzr,Array.toArray_toList]
    simp only [Sem.run_bind,hzrun,Result.andThen_ok,Sem.run_pure,e3,hF,newRow,run_newObj]
    rfl

theorem Xbo {l z : List D} {sz : Nat} (h : (l.map V.d).map V.shape = (z.map V.d).map V.shape) (hu : ∀ x ∈ z,x.sz = sz) : l.length = z.length ∧ ∀ x ∈ l,x.sz = sz := by
 have hlen : l.length = z.length := by simpa using congrArg List.length h
 refine ⟨hlen,fun x hx => ?_⟩
 obtain ⟨i,hi,rfl⟩ := List.getElem_of_mem hx
 have h1 := congrArg (fun s : List Sh => (s.getD i .leaf).size) h
 simp only [List.getD_eq_getElem?_getD,List.getElem?_map,List.getElem?_eq_getElem hi,List.getElem?_eq_getElem (hlen ▸ hi),Option.map_some,Option.getD_some,V.shape,D.size_shape] at h1
 rw [h1]; exact hu _ (List.getElem_mem _)

theorem Xkj {z : List D} {Xs : List (Nat × A)} {op : Op} {sz : Nat} {E? : Option Nat}
  (hc : Xh3 P op E? sz z Xs = true) :
  ∃ t len ps e,op = .buildSlice t len ps ∧ P.underlying t = some (.slice e) ∧ (∀ E,E? = some E → e = E) ∧ X9 P e = some sz ∧ Wp ps.toList Xs = true ∧ z.length = len ∧ len * sz ≤ 2 ^ 24 ∧ (∀ x ∈ z,x.sz = sz) ∧ (match Xdt P e len sz with | some cs => D.isCs z cs | none => false) = true := by
 cases op <;> simp only [Xh3,Bool.false_eq_true] at hc
 rename_i t len ps
 simp only [Bool.and_eq_true] at hc
 obtain ⟨hp,hc⟩ := hc
 split at hc
 ·rename_i e hst
  simp only [Bool.and_eq_true,beq_iff_eq,decide_eq_true_eq,List.all_eq_true] at hc
  obtain ⟨⟨⟨⟨⟨h0,h1⟩,h2⟩,h3⟩,h4⟩,h5⟩ := hc
  refine ⟨t,len,ps,e,rfl,hst,fun E hE => ?_,h1,hp,h2,h3,h4,h5⟩
  subst hE; simpa using h0
 ·simp at hc

theorem Xn0 (hs : SM w ρ sl a) (hO : OM w ρ ob) {op : Op} {sz : Nat} {z : List D} {Xs : List (Nat × A)} (hc : I.chk P op (.bls sz z Xs) = true)
  (h : Jf (z.map .d) (Xs.map fun (i,x) => (i,x.ev sl)) fun ks => dK (fun l => K (.d (.list sz l)) ob) (V.allD ks)) : X3t P a w ρ op ob K := by
 obtain ⟨t,len,ps,e,rfl,hst,_,he,hp,hl,h24,hu,hz⟩ := Xkj (P := P) (op := op) (z := z) (Xs := Xs) (sz := sz) (E? := none) hc
 obtain ⟨ks,cs,hK,hR,hsh,hrun⟩ := Xnb hs hst he hp hl h24 hu hz h
 cases ha : V.allD ks with
 | none => simp [ha,dK] at hK
 | some l =>
  simp only [ha,dK] at hK
  have e1 := V.allD_map ha
  subst e1
  rw [V.repCs_d] at hR
  obtain ⟨g1,g2⟩ := Xbo hsh hu
  have he2 := Vk w (.cells cs.toArray e)
  refine ⟨_,_,_,hK,Yw.2 (.inr ⟨_,len,cs,by rw [g1,hl],by omega,?_,D.repL_mono (he2.tr (ρ := ρ)).mono _ _ hR,g2⟩),he2,hrun⟩
  refine ⟨fun _ => ⟨rfl,?_,?_⟩,fun i hi => ?_⟩
  ·rintro (⟨id,o,h1,h2⟩ | h1)
   ·have := Qf hO h1 h2; simp at this
   ·have := hO.xlt _ h1; simp at this
  ·have := V5 w (.cells cs.toArray e); exact Xl this
  ·simp [World.cell?,V5,hi]

theorem Xh4 (hs : SM w ρ sl a) (hO : OM w ρ ob) {op : Op} {E sz : Nat} {z : List D} {Xs : List (Nat × A)} (hc : I.chk P op (.blo E sz z Xs) = true)
  (h : Jf (z.map .d) (Xs.map fun (i,x) => (i,x.ev sl)) fun ks => dK (fun l => K (.sl (fresh ob) l.length) ((fresh ob,.arr E sz l) :: ob)) (V.allD ks)) : Xhs P a w ρ op K := by
 have hfree := Yp ob
 obtain ⟨t,len,ps,e,rfl,hst,hE,he,hp,hl,h24,hu,hz⟩ := Xkj (P := P) (op := op) (z := z) (Xs := Xs) (sz := sz) (E? := some E) hc
 obtain rfl := hE E rfl
 obtain ⟨ks,cs,hK,hR,hsh,hrun⟩ := Xnb hs hst he hp hl h24 hu hz h
 cases ha : V.allD ks with
 | none => simp [ha,dK] at hK
 | some l =>
  simp only [ha,dK] at hK
  have e1 := V.allD_map ha
  subst e1
  rw [V.repCs_d] at hR
  obtain ⟨g1,g2⟩ := Xbo hsh hu
  have he2 := Vk w (.cells cs.toArray e)
  have hbl : ∀ b,(RO.arr w.heap.size l.length l.length).blk? = some b → w.heap.size ≤ b := fun b hb => by simp [RO.blk?] at hb; omega
  have t1 := Jz _ he2 (o := .arr w.heap.size l.length l.length) (hO.free hfree) hbl
  refine V8 hrun hK (Y2.2 ⟨_,by simp [Env.ins]; rfl,?_⟩) (hO.ins he2 hfree hbl ?_) t1 he2
  ·simp only [RO.slice]
   exact ⟨Nat.le_refl _,⟨_,_,_,rfl⟩,fun _ => by rw [g1,hl]⟩
  ·refine .inr ⟨w.heap.size,l.length,cs,[],by simp [Env.ins],by simpa using V5 w (.cells cs.toArray e),D.repL_mono t1.mono _ _ hR,g2,?_⟩
   rw [List.append_nil,D.repL_len _ _ hR,D.szs_uniform _ g2]

theorem Xd7 {l : List V} {z : List D} {sz : Nat} (h : l.map V.shape = (z.map V.d).map V.shape) (hu : ∀ x ∈ z,x.sz = sz) : l.length = z.length ∧ ∀ x ∈ l,x.size = sz := by
 have hlen : l.length = z.length := by simpa using congrArg List.length h
 refine ⟨hlen,fun x hx => ?_⟩
 obtain ⟨i,hi,rfl⟩ := List.getElem_of_mem hx
 have h1 := congrArg (fun s : List Sh => (s.getD i .leaf).size) h
 simp only [List.getD_eq_getElem?_getD,List.getElem?_map,List.getElem?_eq_getElem hi,List.getElem?_eq_getElem (hlen ▸ hi),Option.map_some,Option.getD_some,V.shape,D.size_shape] at h1
 unfold V.size
 rw [h1]; exact hu _ (List.getElem_mem _)
theorem Xh5 (hs : SM w ρ sl a) (hO : OM w ρ ob) {op : Op} {E sz : Nat} {z : List D} {Xs : List (Nat × A)} (hc : I.chk P op (.blv E sz z Xs) = true)
  (h : Jf (z.map .d) (Xs.map fun (i,x) => (i,x.ev sl)) fun ks => K (.sl (fresh ob) ks.length) ((fresh ob,.vec E sz ks) :: ob)) : Xhs P a w ρ op K := by
 have hfree := Yp ob
 obtain ⟨t,len,ps,e,rfl,hst,hE,he,hp,hl,h24,hu,hz⟩ := Xkj (P := P) (op := op) (z := z) (Xs := Xs) (sz := sz) (E? := some E) hc
 obtain rfl := hE E rfl
 obtain ⟨ks,cs,hK,hR,hsh,hrun⟩ := Xnb hs hst he hp hl h24 hu hz h
 obtain ⟨g1,g2⟩ := Xd7 hsh hu
 have he2 := Vk w (.cells cs.toArray e)
 have hbl : ∀ b,(RO.arr w.heap.size ks.length ks.length).blk? = some b → w.heap.size ≤ b := fun b hb => by simp [RO.blk?] at hb; omega
 have t1 := Jz _ he2 (o := .arr w.heap.size ks.length ks.length) (hO.free hfree) hbl
 refine V8 hrun hK (Y2.2 ⟨_,by simp [Env.ins]; rfl,?_⟩) (hO.ins he2 hfree hbl ?_) t1 he2
 ·simp only [RO.slice]
  exact ⟨Nat.le_refl _,⟨_,_,_,rfl⟩,fun _ => by rw [g1,hl]⟩
 ·refine .inr ⟨w.heap.size,ks.length,cs,[],by simp [Env.ins],by simpa using V5 w (.cells cs.toArray e),V.repCs_tr t1 _ _ hR,g2,?_⟩
  rw [List.append_nil,V.repCs_len _ _ hR,V.shapes_eq,X0 (z := sz) _ g2]

theorem Xb7 (hO : OM w ρ ob) {id : Nat} {x x' : Ob} {o : RO} {w' : World} (hl : lookO ob id = some x) (t : Tr w ρ w' (ρ.ins id o)) (hx : Xch w' (ρ.ins id o) id x')
  (hb : ∀ b,o.blk? = some b → w.heap.size ≤ b ∨ ∃ p,ρ.m id = some p ∧ p.blk? = some b) (hk : ∀ j p b,j ≠ id → ρ.m j = some p → p.blk? = some b → w'.heap[b]? = w.heap[b]?) : OM w' (ρ.ins id o) (setO ob id x') := by
 refine ⟨fun j y hy => ?_,fun j p hj => ?_,fun i j p q b h1 h2 h3 h4 => ?_,fun b hb => Nat.lt_of_lt_of_le (hO.xlt b hb) t.size,Xcx t hO.glb,fun b h1 h2 => ?_,hO.once.set⟩
 ·rw [Xh ob id j ⟨_,hl⟩] at hy
  split at hy
  ·rename_i e; subst e; simp at hy; subst hy; exact hx
  ·rename_i e
   exact Xch.tr t (hO.one j y hy) (by simp [Env.ins,e]) (fun b p h1 h2 => hk j p b e h1 h2)
 ·rw [Xh ob id j ⟨_,hl⟩]
  split
  ·exact ⟨_,rfl⟩
  ·rename_i e; exact hO.dom j p (by simpa [Env.ins,e] using hj)
 ·simp only [Env.ins] at h1 h2
  split at h1
  ·rename_i e1
   split at h2
   ·rename_i e2; exact e1.trans e2.symm
   ·simp at h1; subst h1
    rcases hb b h3 with h5 | ⟨r,h5,h6⟩
    ·have := Qf hO h2 h4; omega
    ·subst e1; exact hO.inj _ _ _ _ _ h5 h2 h6 h4
  ·split at h2
   ·rename_i e2
    simp at h2; subst h2
    rcases hb b h4 with h5 | ⟨r,h5,h6⟩
    ·have := Qf hO h1 h3; omega
    ·subst e2; exact hO.inj _ _ _ _ _ h1 h5 h3 h6
   ·exact hO.inj i j p q b h1 h2 h3 h4
 ·obtain ⟨i,p,h3,h4⟩ := h1
  simp only [Env.ins] at h3 h2
  split at h3
  ·simp at h3; subst h3
   rcases hb b h4 with h5 | ⟨r,h5,h6⟩
   ·have := hO.xlt b h2; omega
   ·exact hO.xdis b ⟨_,r,h5,h6⟩ h2
  ·exact hO.xdis b ⟨i,p,h3,h4⟩ h2
end
end Go.Ab
