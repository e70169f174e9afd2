/- Abstract values with memory of the call's own: objects, pointers into them, and what a world holds of them. Over any program; no condition. -/
import Derived.Test.YtlkpnkkgkjkmbaaDoorAb1
namespace Go.Ab
open Go

inductive Sh where
  | leaf
  | node (xs : List Sh)

mutual
def Sh.size : Sh → Nat
  | .leaf => 1
  | .node xs => Sh.sizes xs
def Sh.sizes : List Sh → Nat
  | [] => 0
  | x :: r => x.size + Sh.sizes r
end

/-- Where, in cells, a path leads. -/
def Sh.off : Sh → List Nat → Nat
  | .node xs, i :: p => Sh.sizes (xs.take i) + Sh.off (xs.getD i .leaf) p
  | _, _ => 0

mutual
def D.shape : D → Sh
  | .agg xs => .node (D.shapes xs)
  | _ => .leaf
def D.shapes : List D → List Sh
  | [] => []
  | x :: r => x.shape :: D.shapes r
end

mutual
theorem D.size_shape : ∀ d : D, d.shape.size = d.sz
  | .int _ _ | .bool _ | .str _ | .nils | .list _ _ | .nili | .nilp | .nilf | .ref _ | .iface _ _ | .fn _ _ _ => by simp [D.shape, Sh.size, D.sz]
  | .agg xs => by simp only [D.shape, Sh.size, D.sz]; exact D.sizes_shapes xs
theorem D.sizes_shapes : ∀ xs : List D, Sh.sizes (D.shapes xs) = D.szs xs
  | [] => by simp [D.shapes, Sh.sizes, D.szs]
  | x :: r => by simp [D.shapes, Sh.sizes, D.szs, D.size_shape x, D.sizes_shapes r]
end

/-- Abstract values. 'd': data; 'ptr': an address in an object of the call's own; 'sl': a slice over an object of the call's own, as long as it was; 'any': not known. -/
inductive V where
  | d (x : D)
  | ptr (id : Nat) (path : List Nat)
  | sl (id n : Nat)
  | sd (id n : Nat)
  | fn (f : Nat) (first captured : List V)
  | agg (xs : List V)
  | iface (t : Nat) (v : V)
  | tup (xs : List V)
  | undef
  | any
  deriving Inhabited

def V.isAgg : V → Bool
  | .d (.agg _) => true
  | .agg _ => true
  | _ => false

mutual
def V.shape : V → Sh
  | .d x => x.shape
  | .agg xs => .node (V.shapes xs)
  | _ => .leaf
def V.shapes : List V → List Sh
  | [] => []
  | x :: r => x.shape :: V.shapes r
end

def V.size (v : V) : Nat := v.shape.size

/-- What an object is in memory. -/
inductive RO where
  | box (b : Nat) (sh : Sh)
  | arr (b len cap : Nat)
  | virt
  | gone

def RO.blk? : RO → Option Nat
  | .box b _ => some b
  | .arr b _ _ => some b
  | .virt => none
  | .gone => none

structure Env where
  m : Nat → Option RO
  xo : Nat → Prop
  gl : Nat → Option Obj

def ownM (ρ : Env) (b : Nat) : Prop := ∃ id o, ρ.m id = some o ∧ o.blk? = some b
def own (ρ : Env) (b : Nat) : Prop := ownM ρ b ∨ ρ.xo b

def RO.slice (o : RO) (n : Nat) (u : Value) : Prop :=
  match o with
  | .box _ _ => False
  | .arr b len cap => n ≤ len ∧ (∃ a l c, u = .slice a l c) ∧ (n = len → u = .slice (some ⟨b, 0, none⟩) len cap)
  | .virt => n = 0 ∧ u = .slice none 0 0
  | .gone => ∃ a l c, u = .slice a l c

/-- the address of a growing slice's cells -/
def RO.sdata (o : RO) (n : Nat) (u : Value) : Prop :=
  match o with
  | .box _ _ => False
  | .arr b len _ => n ≤ len ∧ (∃ a, u = .pointer a) ∧ (n = len → n ≠ 0 → u = .pointer (some ⟨b, 0, none⟩))
  | .virt => n = 0 ∧ ∃ a, u = .pointer a
  | .gone => ∃ a, u = .pointer a

/-- what an object may become -/
inductive RO.le : RO → RO → Prop where
  | refl (o : RO) : RO.le o o
  | grow {o : RO} {n b m c : Nat} (h : n < m) (h1 : o = .virt ∧ n = 0 ∨ ∃ b c, o = .arr b n c) : RO.le o (.arr b m c)
  | gone (o : RO) : RO.le o .gone

theorem RO.le.trans {a b c : RO} (h : a.le b) (h' : b.le c) : a.le c := by
  cases h' with
  | refl => exact h
  | gone => exact .gone a
  | grow k h1 =>
    cases h with
    | refl => exact .grow k h1
    | gone => rcases h1 with ⟨h1, _⟩ | ⟨_, _, h1⟩ <;> cases h1
    | grow k2 h2 =>
      rcases h1 with ⟨h1, _⟩ | ⟨_, _, h1⟩
      · cases h1
      · cases h1; exact .grow (by omega) h2

mutual
def V.repC (w : World) (ρ : Env) : V → List Value → Prop
  | .d x, cs => x.rep w (own ρ) cs
  | .ptr id p, cs => (∃ b sh, ρ.m id = some (.box b sh) ∧ cs = [.pointer (some ⟨b, sh.off p, none⟩)]) ∨ (ρ.m id = some .gone ∧ ∃ a, cs = [.pointer (some a)])
  | .sl id n, cs => ∃ o u, ρ.m id = some o ∧ cs = [u] ∧ o.slice n u
  | .sd id n, cs => ∃ o u, ρ.m id = some o ∧ cs = [u] ∧ o.sdata n u
  | .fn f fi ca, cs => ∃ fs gs, cs = [.func (.func f) fs.toArray gs.toArray] ∧ V.reps w ρ fi fs ∧ V.reps w ρ ca gs
  | .agg xs, cs => V.repCs w ρ xs cs
  | .iface t x, cs => ∃ u, cs = [.iface t u] ∧ (x = .any ∨ (x.isAgg = true ∧ ∃ ds, u = .agg ds.toArray ∧ V.repC w ρ x ds) ∨ (x.isAgg = false ∧ V.repC w ρ x [u]))
  | .tup xs, cs => ∃ vs, cs = [.tuple vs.toArray] ∧ V.reps w ρ xs vs
  | .undef, cs => cs = [Go.undef]
  | .any, cs => ∃ u, cs = [u]
def V.repCs (w : World) (ρ : Env) : List V → List Value → Prop
  | [], cs => cs = []
  | x :: r, cs => ∃ c1 c2, cs = c1 ++ c2 ∧ V.repC w ρ x c1 ∧ V.repCs w ρ r c2
def V.reps (w : World) (ρ : Env) : List V → List Value → Prop
  | [], vs => vs = []
  | x :: r, vs => ∃ u us, vs = u :: us ∧ (x = .any ∨ (x.isAgg = true ∧ ∃ ds, u = .agg ds.toArray ∧ V.repC w ρ x ds) ∨ (x.isAgg = false ∧ V.repC w ρ x [u])) ∧ V.reps w ρ r us
end

/-- What a temporary holds. -/
def V.rep (w : World) (ρ : Env) (x : V) (u : Value) : Prop :=
  (x = .any) ∨ (x.isAgg = true ∧ ∃ ds, u = .agg ds.toArray ∧ x.repC w ρ ds) ∨ (x.isAgg = false ∧ x.repC w ρ [u])

/-- From one state of memory to a later one, as far as values that are held elsewhere can tell. -/
structure Tr (w : World) (ρ : Env) (w' : World) (ρ' : Env) : Prop where
  size : w.heap.size ≤ w'.heap.size
  keep : ∀ b, ¬ ownM ρ b → b < w.heap.size → w'.heap[b]? = w.heap[b]?
  owns : ∀ b, ownM ρ' b → ownM ρ b ∨ w.heap.size ≤ b
  xo : ρ'.xo = ρ.xo
  gl : ρ'.gl = ρ.gl
  same : ∀ id o, ρ.m id = some o → ∃ o', ρ'.m id = some o' ∧ o.le o'
  tape : w'.tape = w.tape
  os : w'.os = w.os
  out : w'.output = w.output

theorem Tr.mono {w w' : World} {ρ ρ' : Env} (t : Tr w ρ w' ρ') : Mono w (own ρ) w' (own ρ') := fun b h1 h2 =>
  ⟨t.keep b (fun h => h1 (.inl h)) h2, fun h => h.elim (fun h => (t.owns b h).elim (fun h => h1 (.inl h)) (fun h => by omega)) (fun h => h1 (.inr (t.xo ▸ h)))⟩

theorem Tr.refl (w : World) (ρ : Env) : Tr w ρ w ρ :=
  ⟨Nat.le_refl _, fun _ _ _ => rfl, fun _ h => .inl h, rfl, rfl, fun _ o h => ⟨o, h, .refl o⟩, rfl, rfl, rfl⟩

theorem Tr.trans {w w' w'' : World} {ρ ρ' ρ'' : Env} (t : Tr w ρ w' ρ') (u : Tr w' ρ' w'' ρ'') : Tr w ρ w'' ρ'' := by
  refine ⟨Nat.le_trans t.size u.size, fun b h1 h2 => ?_, fun b h => ?_, u.xo.trans t.xo, u.gl.trans t.gl, fun id o h => ?_, u.tape.trans t.tape, u.os.trans t.os, u.out.trans t.out⟩
  · have hn : ¬ ownM ρ' b := fun h => (t.owns b h).elim h1 (fun h => by omega)
    exact (u.keep b hn (by have := t.size; omega)).trans (t.keep b h1 h2)
  · rcases u.owns b h with h | h
    · exact t.owns b h
    · have := t.size; exact .inr (by omega)
  · obtain ⟨o', h1, h2⟩ := t.same id o h
    obtain ⟨o'', h3, h4⟩ := u.same id o' h1
    exact ⟨o'', h3, h2.trans h4⟩

theorem RO.slice_tr {o o' : RO} {n : Nat} {u : Value} (h : o.slice n u) (t : o.le o') : o'.slice n u := by
  cases t with
  | refl => exact h
  | gone =>
    cases o with
    | box b s => exact h.elim
    | arr b l c => exact h.2.1
    | virt => exact ⟨_, _, _, h.2⟩
    | gone => exact h
  | grow k h1 =>
    rcases h1 with ⟨rfl, rfl⟩ | ⟨b', c', rfl⟩
    · simp only [RO.slice] at h ⊢
      obtain ⟨rfl, rfl⟩ := h
      exact ⟨by omega, ⟨_, _, _, rfl⟩, fun h => by omega⟩
    · simp only [RO.slice] at h ⊢
      exact ⟨by omega, h.2.1, fun h1 => by omega⟩

theorem RO.sdata_tr {o o' : RO} {n : Nat} {u : Value} (h : o.sdata n u) (t : o.le o') : o'.sdata n u := by
  cases t with
  | refl => exact h
  | gone =>
    cases o with
    | box b s => exact h.elim
    | arr b l c => exact h.2.1
    | virt => exact h.2
    | gone => exact h
  | grow k h1 =>
    rcases h1 with ⟨rfl, rfl⟩ | ⟨b', c', rfl⟩
    · exact ⟨by have := h.1; omega, h.2, fun h1 => by have := h.1; omega⟩
    · exact ⟨by have := h.1; omega, h.2.1, fun h1 => by have := h.1; omega⟩

mutual
theorem V.repC_tr {w w' : World} {ρ ρ' : Env} (t : Tr w ρ w' ρ') : ∀ (x : V) (cs : List Value), x.repC w ρ cs → x.repC w' ρ' cs
  | .d x, cs, h => by
    simp only [V.repC] at h ⊢
    exact D.rep_mono t.mono x cs h
  | .ptr id p, cs, h => by
    simp only [V.repC] at h ⊢
    rcases h with ⟨b, sh, h1, h2⟩ | ⟨h1, h2⟩
    · obtain ⟨o', h3, h4⟩ := t.same id _ h1
      cases h4 with
      | refl => exact .inl ⟨b, sh, h3, h2⟩
      | gone => exact .inr ⟨h3, _, h2⟩
      | grow k h5 => rcases h5 with ⟨h5, _⟩ | ⟨_, _, h5⟩ <;> cases h5
    · obtain ⟨o', h3, h4⟩ := t.same id _ h1
      cases h4 with
      | refl => exact .inr ⟨h3, h2⟩
      | gone => exact .inr ⟨h3, h2⟩
      | grow k h5 => rcases h5 with ⟨h5, _⟩ | ⟨_, _, h5⟩ <;> cases h5
  | .sl id n, cs, h => by
    simp only [V.repC] at h ⊢
    obtain ⟨o, u, h1, h2, h3⟩ := h
    obtain ⟨o', h4, h5⟩ := t.same id _ h1
    exact ⟨o', u, h4, h2, RO.slice_tr h3 h5⟩
  | .sd id n, cs, h => by
    simp only [V.repC] at h ⊢
    obtain ⟨o, u, h1, h2, h3⟩ := h
    obtain ⟨o', h4, h5⟩ := t.same id _ h1
    exact ⟨o', u, h4, h2, RO.sdata_tr h3 h5⟩
  | .fn f fi ca, cs, h => by
    simp only [V.repC] at h ⊢
    obtain ⟨fs, gs, e, h1, h2⟩ := h
    exact ⟨fs, gs, e, V.reps_tr t fi fs h1, V.reps_tr t ca gs h2⟩
  | .agg xs, cs, h => by
    simp only [V.repC] at h ⊢
    exact V.repCs_tr t xs cs h
  | .iface ty x, cs, h => by
    simp only [V.repC] at h ⊢
    obtain ⟨u, e, h1⟩ := h
    refine ⟨u, e, ?_⟩
    rcases h1 with h1 | ⟨p, ds, q, r⟩ | ⟨p, r⟩
    · exact .inl h1
    · exact .inr (.inl ⟨p, ds, q, V.repC_tr t x ds r⟩)
    · exact .inr (.inr ⟨p, V.repC_tr t x _ r⟩)
  | .tup xs, cs, h => by
    simp only [V.repC] at h ⊢
    obtain ⟨vs, e, h1⟩ := h
    exact ⟨vs, e, V.reps_tr t xs vs h1⟩
  | .undef, cs, h => by simpa only [V.repC] using h
  | .any, cs, h => by simpa only [V.repC] using h
theorem V.repCs_tr {w w' : World} {ρ ρ' : Env} (t : Tr w ρ w' ρ') : ∀ (xs : List V) (cs : List Value), V.repCs w ρ xs cs → V.repCs w' ρ' xs cs
  | [], cs, h => by simpa only [V.repCs] using h
  | x :: r, cs, h => by
    simp only [V.repCs] at h ⊢
    obtain ⟨c1, c2, e, h1, h2⟩ := h
    exact ⟨c1, c2, e, V.repC_tr t x c1 h1, V.repCs_tr t r c2 h2⟩
theorem V.reps_tr {w w' : World} {ρ ρ' : Env} (t : Tr w ρ w' ρ') : ∀ (xs : List V) (vs : List Value), V.reps w ρ xs vs → V.reps w' ρ' xs vs
  | [], vs, h => by simpa only [V.reps] using h
  | x :: r, vs, h => by
    simp only [V.reps] at h ⊢
    obtain ⟨u, us, e, h1, h2⟩ := h
    refine ⟨u, us, e, ?_, V.reps_tr t r us h2⟩
    rcases h1 with h1 | ⟨p, ds, q, r⟩ | ⟨p, r⟩
    · exact .inl h1
    · exact .inr (.inl ⟨p, ds, q, V.repC_tr t x ds r⟩)
    · exact .inr (.inr ⟨p, V.repC_tr t x _ r⟩)
end

theorem V.rep_tr {w w' : World} {ρ ρ' : Env} (t : Tr w ρ w' ρ') {x : V} {u : Value} (h : x.rep w ρ u) : x.rep w' ρ' u := by
  rcases h with h | ⟨p, ds, q, r⟩ | ⟨p, r⟩
  · exact .inl h
  · exact .inr (.inl ⟨p, ds, q, V.repC_tr t x ds r⟩)
  · exact .inr (.inr ⟨p, V.repC_tr t x _ r⟩)

/-! Trees -/

def V.kids : V → Option (List V)
  | .agg xs => some xs
  | .d (.agg xs) => some (xs.map .d)
  | _ => none

theorem V.shapes_eq : ∀ xs : List V, V.shapes xs = xs.map V.shape
  | [] => by simp [V.shapes]
  | x :: r => by simp [V.shapes, V.shapes_eq r]

theorem D.shapes_eq : ∀ xs : List D, D.shapes xs = xs.map D.shape
  | [] => by simp [D.shapes]
  | x :: r => by simp [D.shapes, D.shapes_eq r]

theorem V.shape_kids {v : V} {ks : List V} (h : v.kids = some ks) : v.shape = .node (ks.map V.shape) := by
  cases v with
  | agg xs => simp [V.kids] at h; subst h; simp [V.shape, V.shapes_eq]
  | d x =>
    cases x with
    | agg xs => simp [V.kids] at h; subst h; simp [V.shape, D.shape, D.shapes_eq]
    | _ => simp [V.kids] at h
  | _ => simp [V.kids] at h

theorem V.repCs_d {w : World} {ρ : Env} : ∀ (xs : List D) (cs : List Value), V.repCs w ρ (xs.map .d) cs ↔ D.repL w (own ρ) xs cs
  | [], cs => by simp [V.repCs, D.repL]
  | x :: r, cs => by simp [V.repCs, D.repL, V.repC, V.repCs_d r]

theorem V.repC_kids {w : World} {ρ : Env} {v : V} {ks : List V} (h : v.kids = some ks) (cs : List Value) : v.repC w ρ cs ↔ V.repCs w ρ ks cs := by
  cases v with
  | agg xs => simp [V.kids] at h; subst h; simp [V.repC]
  | d x =>
    cases x with
    | agg xs => simp [V.kids] at h; subst h; rw [V.repCs_d]; simp [V.repC, D.rep]
    | _ => simp [V.kids] at h
  | _ => simp [V.kids] at h

mutual
theorem V.repC_len {w : World} {ρ : Env} : ∀ (x : V) (cs : List Value), x.repC w ρ cs → cs.length = x.shape.size
  | .d x, cs, h => by simp only [V.repC] at h; simp only [V.shape, D.size_shape]; exact D.rep_len x cs h
  | .ptr id p, cs, h => by simp only [V.repC] at h; rcases h with ⟨b, sh, _, e⟩ | ⟨_, a, e⟩ <;> simp [e, V.shape, Sh.size]
  | .sl id n, cs, h => by simp only [V.repC] at h; obtain ⟨o, u, _, e, _⟩ := h; simp [e, V.shape, Sh.size]
  | .sd id n, cs, h => by simp only [V.repC] at h; obtain ⟨o, u, _, e, _⟩ := h; simp [e, V.shape, Sh.size]
  | .fn f fi ca, cs, h => by simp only [V.repC] at h; obtain ⟨fs, gs, e, _⟩ := h; simp [e, V.shape, Sh.size]
  | .agg xs, cs, h => by simp only [V.repC] at h; simp only [V.shape, Sh.size]; exact V.repCs_len xs cs h
  | .iface t x, cs, h => by simp only [V.repC] at h; obtain ⟨u, e, _⟩ := h; simp [e, V.shape, Sh.size]
  | .tup xs, cs, h => by simp only [V.repC] at h; obtain ⟨u, e, _⟩ := h; simp [e, V.shape, Sh.size]
  | .undef, cs, h => by simp only [V.repC] at h; simp [h, V.shape, Sh.size]
  | .any, cs, h => by simp only [V.repC] at h; obtain ⟨u, e⟩ := h; simp [e, V.shape, Sh.size]
theorem V.repCs_len {w : World} {ρ : Env} : ∀ (xs : List V) (cs : List Value), V.repCs w ρ xs cs → cs.length = Sh.sizes (V.shapes xs)
  | [], cs, h => by simp only [V.repCs] at h; simp [h, V.shapes, Sh.sizes]
  | x :: r, cs, h => by
    simp only [V.repCs] at h
    obtain ⟨c1, c2, e, h1, h2⟩ := h
    simp [e, V.shapes, Sh.sizes, V.repC_len x c1 h1, V.repCs_len r c2 h2]
end

theorem V.repCs_split {w : World} {ρ : Env} : ∀ (xs : List V) (i : Nat) (cs : List Value), V.repCs w ρ xs cs →
    V.repCs w ρ (xs.take i) (cs.take (Sh.sizes ((xs.map V.shape).take i))) ∧ V.repCs w ρ (xs.drop i) (cs.drop (Sh.sizes ((xs.map V.shape).take i)))
  | xs, 0, cs, h => by simpa [V.repCs, Sh.sizes] using h
  | [], i + 1, cs, h => by simpa [V.repCs, Sh.sizes] using h
  | x :: r, i + 1, cs, h => by
    simp only [V.repCs] at h
    obtain ⟨c1, c2, rfl, h1, h2⟩ := h
    have hl := V.repC_len x c1 h1
    obtain ⟨p, q⟩ := V.repCs_split r i c2 h2
    simp only [List.map_cons, List.take_succ_cons, List.drop_succ_cons, Sh.sizes]
    constructor
    · rw [← hl, List.take_length_add_append]
      simp only [V.repCs]
      exact ⟨c1, _, rfl, h1, p⟩
    · rw [← hl, List.drop_length_add_append]
      exact q

theorem V.repCs_append {w : World} {ρ : Env} {xs ys : List V} {c1 c2 : List Value} (h1 : V.repCs w ρ xs c1) (h2 : V.repCs w ρ ys c2) : V.repCs w ρ (xs ++ ys) (c1 ++ c2) := by
  induction xs generalizing c1 with
  | nil => simp only [V.repCs] at h1; subst h1; simpa using h2
  | cons x r ih =>
    simp only [V.repCs] at h1
    obtain ⟨a1, a2, rfl, h3, h4⟩ := h1
    simp only [List.cons_append, V.repCs]
    exact ⟨a1, a2 ++ c2, by simp, h3, ih h4⟩

/-- The cells before, of and behind the i-th part. -/
theorem V.repCs_three {w : World} {ρ : Env} {xs : List V} {cs : List Value} (h : V.repCs w ρ xs cs) {i : Nat} {v : V} (hi : xs[i]? = some v) :
    ∃ c1 c2 c3, cs = c1 ++ (c2 ++ c3) ∧ c1.length = Sh.sizes ((xs.map V.shape).take i) ∧ V.repCs w ρ (xs.take i) c1 ∧ v.repC w ρ c2 ∧ V.repCs w ρ (xs.drop (i + 1)) c3 := by
  obtain ⟨hl, hv⟩ := List.getElem?_eq_some_iff.1 hi
  obtain ⟨h1, h2⟩ := V.repCs_split xs i cs h
  rw [List.drop_eq_getElem_cons hl, hv] at h2
  simp only [V.repCs] at h2
  obtain ⟨c2, c3, e, h3, h4⟩ := h2
  refine ⟨_, c2, c3, ?_, ?_, h1, h3, h4⟩
  · rw [← e, List.take_append_drop]
  · have h5 := V.repCs_len _ _ h1
    rw [V.shapes_eq, ← List.map_take] at *
    rw [h5]

def V.at : V → List Nat → Option V
  | v, [] => some v
  | v, i :: p => match v.kids with
    | some ks => match ks[i]? with
      | some k => V.at k p
      | none => none
    | none => none

def V.allD : List V → Option (List D)
  | [] => some []
  | .d x :: r => match V.allD r with
    | some l => some (x :: l)
    | none => none
  | _ :: _ => none

/-- A struct or an array out of its parts: data if they are. -/
def V.mk (xs : List V) : V := match V.allD xs with
  | some l => .d (.agg l)
  | none => .agg xs

theorem V.allD_map : ∀ {xs : List V} {l : List D}, V.allD xs = some l → xs = l.map .d
  | [], l, h => by simp [V.allD] at h; subst h; rfl
  | .d x :: r, l, h => by
    simp only [V.allD] at h
    cases h1 : V.allD r with
    | none => simp [h1] at h
    | some m => simp [h1] at h; subst h; simp [V.allD_map h1]
  | .ptr _ _ :: _, l, h | .sl _ _ :: _, l, h | .sd _ _ :: _, l, h | .fn _ _ _ :: _, l, h | .agg _ :: _, l, h | .iface _ _ :: _, l, h | .tup _ :: _, l, h | .undef :: _, l, h | .any :: _, l, h => by simp [V.allD] at h

theorem V.kids_mk (xs : List V) : (V.mk xs).kids = some xs := by
  unfold V.mk
  split
  · rename_i l h; simp [V.kids, V.allD_map h]
  · simp [V.kids]

theorem V.isAgg_mk (xs : List V) : (V.mk xs).isAgg = true := by
  unfold V.mk
  split <;> simp [V.isAgg]

theorem V.isAgg_kids {v : V} {ks : List V} (h : v.kids = some ks) : v.isAgg = true := by
  cases v with
  | agg xs => rfl
  | d x => cases x with
    | agg xs => rfl
    | _ => simp [V.kids] at h
  | _ => simp [V.kids] at h

def V.set : V → List Nat → V → Option V
  | _, [], x => some x
  | v, i :: p, x => match v.kids with
    | some ks => match ks[i]? with
      | some k => match V.set k p x with
        | some k' => some (V.mk (ks.set i k'))
        | none => none
      | none => none
    | none => none

theorem V.repC_at {w : World} {ρ : Env} : ∀ (p : List Nat) (t v : V) (cs : List Value), t.repC w ρ cs → t.at p = some v →
    ∃ c1 c2 c3, cs = c1 ++ (c2 ++ c3) ∧ c1.length = t.shape.off p ∧ v.repC w ρ c2
  | [], t, v, cs, h, e => by
    simp only [V.at, Option.some.injEq] at e; subst e
    exact ⟨[], cs, [], by simp, by cases t.shape <;> simp [Sh.off], h⟩
  | i :: p, t, v, cs, h, e => by
    simp only [V.at] at e
    split at e
    · rename_i ks hk
      split at e
      · rename_i k hi
        rw [V.repC_kids hk] at h
        obtain ⟨c1, c2, c3, e1, e2, _, h2, _⟩ := V.repCs_three h hi
        obtain ⟨d1, d2, d3, e3, e4, h4⟩ := V.repC_at p k v c2 h2 e
        refine ⟨c1 ++ d1, d2, d3 ++ c3, by simp [e1, e3], ?_, h4⟩
        rw [V.shape_kids hk]
        simp only [Sh.off, List.length_append, e2, e4]
        have : (List.map V.shape ks).getD i .leaf = k.shape := by simp [hi]
        rw [this]
      · simp at e
    · simp at e

theorem V.repC_set {w : World} {ρ : Env} : ∀ (p : List Nat) (t v x : V) (cs ds : List Value), t.repC w ρ cs → t.at p = some v → x.repC w ρ ds → x.shape = v.shape →
    ∃ t', t.set p x = some t' ∧ t'.shape = t.shape ∧ t'.repC w ρ (cs.take (t.shape.off p) ++ (ds ++ cs.drop (t.shape.off p + ds.length)))
  | [], t, v, x, cs, ds, h, e, hx, hs => by
    simp only [V.at, Option.some.injEq] at e; subst e
    refine ⟨x, rfl, hs, ?_⟩
    have h1 := V.repC_len _ _ h
    have h2 := V.repC_len _ _ hx
    have : t.shape.off [] = 0 := by cases t.shape <;> simp [Sh.off]
    rw [this]
    have h3 : ds.length = cs.length := by rw [h1, h2, hs]
    simp [h3, hx]
  | i :: p, t, v, x, cs, ds, h, e, hx, hs => by
    simp only [V.at] at e
    split at e
    · rename_i ks hk
      split at e
      · rename_i k hi
        rw [V.repC_kids hk] at h
        obtain ⟨c1, c2, c3, e1, e2, h1, h2, h3⟩ := V.repCs_three h hi
        obtain ⟨k', e3, e4, h4⟩ := V.repC_set p k v x c2 ds h2 e hx hs
        obtain ⟨d1, d2, d3, e5, e6, h5⟩ := V.repC_at p k v c2 h2 e
        have hl : ds.length = d2.length := by rw [V.repC_len _ _ hx, V.repC_len _ _ h5, hs]
        have hof : t.shape.off (i :: p) = c1.length + k.shape.off p := by
          rw [V.shape_kids hk]
          simp only [Sh.off, e2]
          have : (List.map V.shape ks).getD i .leaf = k.shape := by simp [hi]
          rw [this]
        refine ⟨V.mk (ks.set i k'), by simp [V.set, hk, hi, e3], ?_, ?_⟩
        · rw [V.shape_kids hk, V.shape_kids (V.kids_mk _), List.map_set, e4]
          congr 1
          apply List.ext_getElem?
          intro j
          by_cases hj : i = j
          · subst hj; rw [List.getElem?_set]; simp [hi]; obtain ⟨hl, _⟩ := List.getElem?_eq_some_iff.1 hi; omega
          · rw [List.getElem?_set]; simp [hj]
        · rw [V.repC_kids (V.kids_mk _), hof]
          have e7 : cs.take (c1.length + k.shape.off p) ++ (ds ++ cs.drop (c1.length + k.shape.off p + ds.length)) =
              c1 ++ ((c2.take (k.shape.off p) ++ (ds ++ c2.drop (k.shape.off p + ds.length))) ++ c3) := by
            subst e5
            rw [e1, ← e6]
            simp only [List.append_assoc, hl]
            rw [List.take_length_add_append, Nat.add_assoc, List.drop_length_add_append]
            simp [List.drop_append]
          rw [e7]
          have e8 : ks.set i k' = ks.take i ++ (k' :: ks.drop (i + 1)) := by
            obtain ⟨hl, _⟩ := List.getElem?_eq_some_iff.1 hi
            exact List.set_eq_take_append_cons_drop.trans (by simp [hl])
          rw [e8]
          refine V.repCs_append h1 ?_
          simp only [V.repCs]
          exact ⟨_, c3, rfl, h4, h3⟩
      · simp at e
    · simp at e

end Go.Ab
