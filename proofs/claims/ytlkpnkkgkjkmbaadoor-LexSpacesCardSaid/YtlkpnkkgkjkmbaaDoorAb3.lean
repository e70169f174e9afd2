/- Operations that only read, on abstract values, and that the program's operations do just that. Over any program; no condition. -/
import Derived.Test.YtlkpnkkgkjkmbaaDoorAb2
import Derived.Laws.Sem
import Derived.Laws.World
import Derived.Laws.Cells
import Derived.Laws.Strings
namespace Go.Ab
open Go

inductive Ob where
  | box (E : Nat) (t : V)
  | arr (E sz : Nat) (xs : List D)
  | gone

def look : List (Nat × V) → Nat → V
  | [], _ => .any
  | (j, d) :: r, k => if j = k then d else look r k

def lookO : List (Nat × Ob) → Nat → Option Ob
  | [], _ => none
  | (j, d) :: r, k => if j = k then some d else lookO r k

def setO : List (Nat × Ob) → Nat → Ob → List (Nat × Ob)
  | [], _, _ => []
  | (j, d) :: r, k, x => if j = k then (j, x) :: r else (j, d) :: setO r k x

abbrev Slots := List (Nat × V)
abbrev Objs := List (Nat × Ob)

def OneM (w : World) (ρ : Env) (id : Nat) : Ob → Prop
  | .box E t => ∃ b cs, ρ.m id = some (.box b t.shape) ∧ w.heap[b]? = some (.cells (List.toArray cs) E (0, 0)) ∧ t.repC w ρ cs
  | .arr E sz xs => (ρ.m id = some .virt ∧ xs = []) ∨ ∃ b cap cs sp, ρ.m id = some (.arr b xs.length cap) ∧ w.heap[b]? = some (.cells (List.toArray (cs ++ sp)) E (0, 0)) ∧
      D.repL w (own ρ) xs cs ∧ (∀ x ∈ xs, x.sz = sz) ∧ (cs ++ sp).length = cap * sz
  | .gone => ρ.m id = some .gone

/-- each name once -/
def Once : Objs → Prop
  | [] => True
  | (j, _) :: r => lookO r j = none ∧ Once r
theorem Once.look : ∀ {ob : Objs}, Once ob → ∀ e ∈ ob, lookO ob e.1 = some e.2
  | [], _, e, h => by cases h
  | (j, o) :: r, h, e, he => by
    rcases List.mem_cons.mp he with rfl | he
    · simp [lookO]
    · have h1 := Once.look h.2 e he
      have : j ≠ e.1 := fun e' => by rw [e'] at h; rw [h.1] at h1; cases h1
      simp [lookO, this, h1]

theorem setO_none {x : Ob} {id : Nat} : ∀ (ob : Objs) (j : Nat), lookO ob j = none → lookO (setO ob id x) j = none
  | [], _, h => by simp [setO, lookO]
  | (k, y) :: r, j, h => by
    simp only [lookO] at h
    simp only [setO]
    split at h
    · cases h
    · rename_i e
      split
      · simp only [lookO, e, if_false]; exact h
      · simp only [lookO, e, if_false]; exact setO_none r j h
theorem Once.set {x : Ob} {id : Nat} : ∀ {ob : Objs}, Once ob → Once (setO ob id x)
  | [], h => h
  | (k, y) :: r, h => by
    simp only [setO]
    split
    · exact h
    · exact ⟨setO_none r k h.1, Once.set h.2⟩

structure OM (w : World) (ρ : Env) (objs : Objs) : Prop where
  one : ∀ id ob, lookO objs id = some ob → OneM w ρ id ob
  dom : ∀ id o, ρ.m id = some o → ∃ ob, lookO objs id = some ob
  inj : ∀ i j o p b, ρ.m i = some o → ρ.m j = some p → o.blk? = some b → p.blk? = some b → i = j
  xlt : ∀ b, ρ.xo b → b < w.heap.size
  glb : ∀ b o, ρ.gl b = some o → w.heap[b]? = some o ∧ ¬ own ρ b
  xdis : ∀ b, ownM ρ b → ¬ ρ.xo b
  once : Once objs

def SM (w : World) (ρ : Env) (sl : Slots) (a : Act) : Prop := ∀ k, (look sl k).rep w ρ (a.tmps.getD k undef)

/-- Blocks are added, none is touched. -/
structure Ext (w w' : World) : Prop where
  size : w.heap.size ≤ w'.heap.size
  keep : ∀ b, b < w.heap.size → w'.heap[b]? = w.heap[b]?
  tape : w'.tape = w.tape
  os : w'.os = w.os
  out : w'.output = w.output

theorem Ext.refl (w : World) : Ext w w := ⟨Nat.le_refl _, fun _ _ => rfl, rfl, rfl, rfl⟩
theorem Ext.trans {w w' w'' : World} (h : Ext w w') (h' : Ext w' w'') : Ext w w'' :=
  ⟨Nat.le_trans h.size h'.size, fun b hb => (h'.keep b (Nat.lt_of_lt_of_le hb h.size)).trans (h.keep b hb), h'.tape.trans h.tape, h'.os.trans h.os, h'.out.trans h.out⟩
theorem Ext.tr {w w' : World} (h : Ext w w') {ρ : Env} : Tr w ρ w' ρ :=
  ⟨h.size, fun b _ hb => h.keep b hb, fun _ h => .inl h, rfl, rfl, fun _ o h => ⟨o, h, .refl o⟩, h.tape, h.os, h.out⟩
theorem Ext.drew (w : World) (n : Nat) : Ext w { w with drawn := n } := ⟨Nat.le_refl _, fun _ _ => rfl, rfl, rfl, rfl⟩

theorem glb_tr {w w' : World} {ρ ρ' : Env} (t : Tr w ρ w' ρ') (h : ∀ b o, ρ.gl b = some o → w.heap[b]? = some o ∧ ¬ own ρ b) : ∀ b o, ρ'.gl b = some o → w'.heap[b]? = some o ∧ ¬ own ρ' b := by
  intro b o hb
  rw [t.gl] at hb
  obtain ⟨h1, h2⟩ := h b o hb
  obtain ⟨h3, h4⟩ := t.mono b h2 (lt_of_some h1)
  exact ⟨h3.trans h1, h4⟩

theorem OM.ext {w w' : World} {ρ : Env} {objs : Objs} (h : Ext w w') (m : OM w ρ objs) : OM w' ρ objs := by
  refine ⟨fun id ob hl => ?_, m.dom, m.inj, fun b hb => Nat.lt_of_lt_of_le (m.xlt b hb) h.size, glb_tr h.tr m.glb, m.xdis, m.once⟩
  have h1 := m.one id ob hl
  cases ob with
  | box E t =>
    obtain ⟨b, cs, h2, h3, h4⟩ := h1
    exact ⟨b, cs, h2, (h.keep b (lt_of_some h3)).trans h3, V.repC_tr h.tr _ _ h4⟩
  | arr E sz xs =>
    rcases h1 with h1 | ⟨b, cap, cs, sp, h2, h3, h4, h5, h6⟩
    · exact .inl h1
    · exact .inr ⟨b, cap, cs, sp, h2, (h.keep b (lt_of_some h3)).trans h3, D.repL_mono (h.tr (ρ := ρ)).mono _ _ h4, h5, h6⟩
  | gone => exact h1

theorem SM.tr {w w' : World} {ρ ρ' : Env} {sl : Slots} {a : Act} (t : Tr w ρ w' ρ') (h : SM w ρ sl a) : SM w' ρ' sl a := fun k => V.rep_tr t (h k)

/-! Operands -/

inductive A where
  | t (k : Nat)
  | int (k : IntKind) (n : Int)
  | bool (b : Bool)
  | str (s : List UInt8)
  | nils
  | nili
  | nilp
  | nilf
  | fn (f : Nat)

def A.chk : Operand → A → Bool
  | .tmp k, .t j => k == j
  | .const (.int k n), .int k' n' => decide (k = k') && n == n'
  | .const (.bool b), .bool b' => b == b'
  | .const (.string s), .str l => s.data.toList == l
  | .const (.slice none n m), .nils => n == 0 && m == 0
  | .const .nilIface, .nili => true
  | .const (.pointer none), .nilp => true
  | .const .nilFunc, .nilf => true
  | .func f, .fn g => f == g
  | _, _ => false

def A.ev (sl : Slots) : A → V
  | .t k => look sl k
  | .int k n => .d (.int k n)
  | .bool b => .d (.bool b)
  | .str s => .d (.str s)
  | .nils => .d .nils
  | .nili => .d .nili
  | .nilp => .d .nilp
  | .nilf => .d .nilf
  | .fn f => .fn f [] []

section reps
variable {w : World} {ρ : Env} {u : Value}
theorem rep_int {k : IntKind} {n : Int} : (V.d (.int k n)).rep w ρ u ↔ u = .int k n := by simp [V.rep, V.isAgg, V.repC, D.rep]
theorem rep_bool {b : Bool} : (V.d (.bool b)).rep w ρ u ↔ u = .bool b := by simp [V.rep, V.isAgg, V.repC, D.rep]
theorem rep_str {s : List UInt8} : (V.d (.str s)).rep w ρ u ↔ u = .string ⟨s.toArray⟩ := by simp [V.rep, V.isAgg, V.repC, D.rep]
theorem rep_nils : (V.d .nils).rep w ρ u ↔ u = .slice none 0 0 := by simp [V.rep, V.isAgg, V.repC, D.rep]
theorem rep_nili : (V.d .nili).rep w ρ u ↔ u = .nilIface := by simp [V.rep, V.isAgg, V.repC, D.rep]
theorem rep_nilp : (V.d .nilp).rep w ρ u ↔ u = .pointer none := by simp [V.rep, V.isAgg, V.repC, D.rep]
theorem rep_nilf : (V.d .nilf).rep w ρ u ↔ u = .nilFunc := by simp [V.rep, V.isAgg, V.repC, D.rep]
theorem rep_undef : V.undef.rep w ρ u ↔ u = undef := by simp [V.rep, V.isAgg, V.repC]
theorem rep_any : V.any.rep w ρ u := .inl rfl
theorem rep_list {sz : Nat} {xs : List D} : (V.d (.list sz xs)).rep w ρ u ↔ (xs = [] ∧ u = .slice none 0 0) ∨ ∃ a cap vs, u = .slice (some a) xs.length cap ∧ xs.length ≤ cap ∧ Cells w (own ρ) a vs ∧ D.repL w (own ρ) xs vs ∧ ∀ x ∈ xs, x.sz = sz := by
  simp [V.rep, V.isAgg, V.repC, D.rep]
theorem rep_cp {x : D} : (V.d (.ref x)).rep w ρ u ↔ ∃ a vs, u = .pointer (some a) ∧ Cells w (own ρ) a vs ∧ x.rep w (own ρ) vs := by
  simp [V.rep, V.isAgg, V.repC, D.rep]
theorem rep_ptr0 {id : Nat} {p : List Nat} : (V.ptr id p).rep w ρ u ↔ (∃ b sh, ρ.m id = some (.box b sh) ∧ u = .pointer (some ⟨b, sh.off p, none⟩)) ∨ (ρ.m id = some .gone ∧ ∃ a, u = .pointer (some a)) := by
  simp [V.rep, V.isAgg, V.repC]
theorem rep_ptr_some {id : Nat} {p : List Nat} (h : (V.ptr id p).rep w ρ u) : ∃ a, u = .pointer (some a) := by
  rw [rep_ptr0] at h
  rcases h with ⟨b, sh, _, h⟩ | ⟨_, h⟩
  · exact ⟨_, h⟩
  · exact h
theorem rep_ptr_box {id : Nat} {p : List Nat} {ob : Objs} {E : Nat} {t : V} (hO : OM w ρ ob) (hl : lookO ob id = some (.box E t)) (h : (V.ptr id p).rep w ρ u) : ∃ b sh, ρ.m id = some (.box b sh) ∧ u = .pointer (some ⟨b, sh.off p, none⟩) := by
  rw [rep_ptr0] at h
  rcases h with h | ⟨h, _⟩
  · exact h
  · obtain ⟨b, cs, h1, _⟩ := hO.one id _ hl
    rw [h] at h1; cases h1
theorem rep_ptr_mk {id : Nat} {p : List Nat} {b : Nat} {sh : Sh} (h : ρ.m id = some (.box b sh)) : (V.ptr id p).rep w ρ (.pointer (some ⟨b, sh.off p, none⟩)) := rep_ptr0.2 (.inl ⟨b, sh, h, rfl⟩)
theorem rep_sl {id n : Nat} : (V.sl id n).rep w ρ u ↔ ∃ o, ρ.m id = some o ∧ o.slice n u := by
  simp [V.rep, V.isAgg, V.repC]
theorem rep_sd {id n : Nat} : (V.sd id n).rep w ρ u ↔ ∃ o, ρ.m id = some o ∧ o.sdata n u := by
  simp [V.rep, V.isAgg, V.repC]
theorem rep_fn {f : Nat} {fi ca : List V} : (V.fn f fi ca).rep w ρ u ↔ ∃ fs gs, u = .func (.func f) fs.toArray gs.toArray ∧ V.reps w ρ fi fs ∧ V.reps w ρ ca gs := by
  simp [V.rep, V.isAgg, V.repC]
theorem rep_d {x : D} : (V.d x).rep w ρ u ↔ (x.isAgg = true ∧ ∃ ds, u = .agg ds.toArray ∧ x.rep w (own ρ) ds) ∨ (x.isAgg = false ∧ x.rep w (own ρ) [u]) := by
  have : (V.d x).isAgg = x.isAgg := by cases x <;> rfl
  simp [V.rep, V.repC, this]
theorem rep_difc {t : Nat} {x : D} : (V.d (.iface t x)).rep w ρ u ↔ ∃ c, u = .iface t c ∧ (V.d x).rep w ρ c := by
  simp [rep_d, D.isAgg, D.rep]
theorem reps_d : ∀ {l : List D} {us : List Value}, V.reps w ρ (l.map .d) us ↔ D.repT w (own ρ) l us
  | [], us => by simp [V.reps, D.repT]
  | x :: r, us => by
    have : ∀ u, ((V.d x) = V.any ∨ (V.d x).isAgg = true ∧ (∃ ds, u = Value.agg ds.toArray ∧ V.repC w ρ (V.d x) ds) ∨ (V.d x).isAgg = false ∧ V.repC w ρ (V.d x) [u]) ↔ (V.d x).rep w ρ u := fun u => Iff.rfl
    simp only [List.map_cons, V.reps, D.repT, reps_d (l := r), this, rep_d]
theorem rep_dfn {f : Nat} {fi ca : List D} : (V.d (.fn f fi ca)).rep w ρ u ↔ ∃ fs gs, u = .func (.func f) fs.toArray gs.toArray ∧ V.reps w ρ (fi.map .d) fs ∧ V.reps w ρ (ca.map .d) gs := by
  simp [rep_d, D.isAgg, D.rep, reps_d]
theorem rep_tup {xs : List V} : (V.tup xs).rep w ρ u ↔ ∃ vs, u = .tuple vs.toArray ∧ V.reps w ρ xs vs := by
  simp [V.rep, V.isAgg, V.repC]
theorem rep_kids {v : V} {ks : List V} (h : v.kids = some ks) : v.rep w ρ u ↔ ∃ cs, u = .agg cs.toArray ∧ V.repCs w ρ ks cs := by
  have h1 := V.isAgg_kids h
  have h2 : v ≠ .any := by intro e; subst e; simp [V.isAgg] at h1
  simp [V.rep, h1, h2, V.repC_kids h]
theorem rep_leaf {v : V} (h : v.isAgg = false) (h2 : v ≠ .any) : v.rep w ρ u ↔ v.repC w ρ [u] := by
  simp [V.rep, h, h2]
/-- a value in a temporary, and the cells that it would take -/
theorem rep_of_cells {v : V} {cs : List Value} (h : v.repC w ρ cs) : v.rep w ρ (if v.isAgg then .agg cs.toArray else cs.headD undef) := by
  cases ha : v.isAgg with
  | true => exact .inr (.inl ⟨ha, cs, by simp, h⟩)
  | false =>
    have h1 := V.repC_len _ _ h
    have h2 : v.shape.size = 1 := by
      cases v with
      | d x => cases x <;> simp_all [V.isAgg, V.shape, D.shape, Sh.size]
      | agg xs => simp [V.isAgg] at ha
      | _ => simp [V.shape, Sh.size]
    rw [h2] at h1
    obtain ⟨c, rfl⟩ := List.length_eq_one_iff.1 h1
    exact .inr (.inr ⟨ha, by simpa using h⟩)
theorem cells_of_rep {v : V} (hv : v ≠ .any) {u : Value} (h : v.rep w ρ u) : v.repC w ρ u.cells.toList := by
  rcases h with h | ⟨_, ds, rfl, h⟩ | ⟨ha, h⟩
  · exact absurd h hv
  · simpa [Value.cells] using h
  · have : u.cells = #[u] := by
      cases u with
      | agg cs =>
        cases v with
        | d x => cases x <;> simp_all [V.isAgg, V.repC, D.rep]
        | sl id n =>
          simp only [V.repC] at h
          obtain ⟨o, u, _, h2, h3⟩ := h
          simp only [List.cons.injEq, and_true] at h2
          subst h2
          cases o <;> simp [RO.slice] at h3
        | sd id n =>
          simp only [V.repC] at h
          obtain ⟨o, u, _, h2, h3⟩ := h
          simp only [List.cons.injEq, and_true] at h2
          subst h2
          cases o <;> simp [RO.sdata] at h3
        | ptr id p => simp only [V.repC] at h; rcases h with ⟨_, _, _, h⟩ | ⟨_, _, h⟩ <;> simp at h
        | _ => simp_all [V.isAgg, V.repC, Go.undef]
      | _ => rfl
    rw [this]; simpa using h
end reps

theorem A.sound {w : World} {ρ : Env} {sl : Slots} {a : Act} (hs : SM w ρ sl a) : ∀ {x : Operand} {y : A}, A.chk x y = true → (y.ev sl).rep w ρ (a.eval x)
  | .tmp k, .t j, h => by simp [A.chk] at h; subst h; exact hs k
  | .const (.int k n), .int k' n', h => by simp [A.chk] at h; obtain ⟨rfl, rfl⟩ := h; simp [A.ev, rep_int, Act.eval]
  | .const (.bool b), .bool b', h => by simp [A.chk] at h; subst h; simp [A.ev, rep_bool, Act.eval]
  | .const (.string s), .str l, h => by
    simp [A.chk] at h; subst h; simp [A.ev, rep_str, Act.eval]
  | .const (.slice none n m), .nils, h => by simp [A.chk] at h; obtain ⟨rfl, rfl⟩ := h; simp [A.ev, rep_nils, Act.eval]
  | .const .nilIface, .nili, h => by simp [A.ev, rep_nili, Act.eval]
  | .const (.pointer none), .nilp, h => by simp [A.ev, rep_nilp, Act.eval]
  | .const .nilFunc, .nilf, h => by simp [A.ev, rep_nilf, Act.eval]
  | .func f, .fn g, h => by
    simp [A.chk] at h; subst h
    simp only [A.ev, rep_fn, Act.eval, V.reps]
    exact ⟨[], [], rfl, rfl, rfl⟩
end Go.Ab
