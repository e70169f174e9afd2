/- Abstract values of Go data, and what it means that a world holds them. Over any program; no condition. -/
import Derived.Deep.Quiet
namespace Go.Ab
open Go

/-- Pure data: what a value reads as. 'list': a slice whose elements take 'sz' cells each. -/
inductive D where
  | int (k : IntKind) (n : Int)
  | bool (b : Bool)
  | str (s : List UInt8)
  | nils
  | list (sz : Nat) (xs : List D)
  | agg (xs : List D)
  | nili
  | nilp
  | nilf
  | ref (x : D)
  | iface (t : Nat) (x : D)
  | fn (f : Nat) (fi ca : List D)
  deriving Inhabited

def D.isAgg : D → Bool
  | .agg _ => true
  | _ => false

mutual
def D.sz : D → Nat
  | .agg xs => D.szs xs
  | _ => 1
def D.szs : List D → Nat
  | [] => 0
  | x :: r => x.sz + D.szs r
end

/-- The cells 'vs' lie at 'a', in a block that nobody owns. -/
def Cells (w : World) (ow : Nat → Prop) (a : Addr) (vs : List Value) : Prop :=
  a.spot = none ∧ (vs ≠ [] → ¬ ow a.block ∧ a.block < w.heap.size) ∧ ∀ i (h : i < vs.length), w.cell? ⟨a.block, a.off + i, none⟩ = some vs[i]

mutual
def D.rep (w : World) (ow : Nat → Prop) : D → List Value → Prop
  | .int k n, cs => cs = [.int k n]
  | .bool b, cs => cs = [.bool b]
  | .str s, cs => cs = [.string ⟨s.toArray⟩]
  | .nils, cs => cs = [.slice none 0 0]
  | .list sz xs, cs => (xs = [] ∧ cs = [.slice none 0 0]) ∨ ∃ a cap vs, cs = [.slice (some a) xs.length cap] ∧ xs.length ≤ cap ∧ Cells w ow a vs ∧ D.repL w ow xs vs ∧ ∀ x ∈ xs, x.sz = sz
  | .agg xs, cs => D.repL w ow xs cs
  | .nili, cs => cs = [.nilIface]
  | .nilp, cs => cs = [.pointer none]
  | .nilf, cs => cs = [.nilFunc]
  | .ref x, cs => ∃ a vs, cs = [.pointer (some a)] ∧ Cells w ow a vs ∧ D.rep w ow x vs
  | .iface t x, cs => ∃ u, cs = [.iface t u] ∧ ((x.isAgg = true ∧ ∃ ds, u = .agg ds.toArray ∧ D.rep w ow x ds) ∨ (x.isAgg = false ∧ D.rep w ow x [u]))
  | .fn f fi ca, cs => ∃ fs gs, cs = [.func (.func f) fs.toArray gs.toArray] ∧ D.repT w ow fi fs ∧ D.repT w ow ca gs
def D.repT (w : World) (ow : Nat → Prop) : List D → List Value → Prop
  | [], vs => vs = []
  | x :: r, vs => ∃ u us, vs = u :: us ∧ ((x.isAgg = true ∧ ∃ ds, u = .agg ds.toArray ∧ D.rep w ow x ds) ∨ (x.isAgg = false ∧ D.rep w ow x [u])) ∧ D.repT w ow r us
def D.repL (w : World) (ow : Nat → Prop) : List D → List Value → Prop
  | [], cs => cs = []
  | x :: r, cs => ∃ c1 c2, cs = c1 ++ c2 ∧ D.rep w ow x c1 ∧ D.repL w ow r c2
end

/-- What nobody owns stays, and stays unowned. -/
def Mono (w : World) (ow : Nat → Prop) (w' : World) (ow' : Nat → Prop) : Prop :=
  ∀ b, ¬ ow b → b < w.heap.size → w'.heap[b]? = w.heap[b]? ∧ ¬ ow' b

theorem cell?_congr {w w' : World} {b : Nat} (h : w'.heap[b]? = w.heap[b]?) (o : Nat) : w'.cell? ⟨b, o, none⟩ = w.cell? ⟨b, o, none⟩ := by
  simp [World.cell?, h]

theorem lt_of_some {w : World} {b : Nat} {o : Obj} (h : w.heap[b]? = some o) : b < w.heap.size := by
  rcases Nat.lt_or_ge b w.heap.size with h1 | h1
  · exact h1
  · simp [Array.getElem?_eq_none h1] at h

theorem Mono.refl (w : World) (ow : Nat → Prop) : Mono w ow w ow := fun _ h _ => ⟨rfl, h⟩

theorem Mono.trans {w w' w'' : World} {ow ow' ow'' : Nat → Prop} (h : Mono w ow w' ow') (h' : Mono w' ow' w'' ow'') : Mono w ow w'' ow'' := by
  intro b h1 h2
  obtain ⟨e, n⟩ := h b h1 h2
  have hb : b < w'.heap.size := by
    have : w.heap[b]? = some w.heap[b] := by simp [h2]
    exact lt_of_some (e.trans this)
  obtain ⟨e', n'⟩ := h' b n hb
  exact ⟨e'.trans e, n'⟩

theorem Cells.mono {w w' : World} {ow ow' : Nat → Prop} {a : Addr} {vs : List Value} (m : Mono w ow w' ow') (h : Cells w ow a vs) : Cells w' ow' a vs := by
  obtain ⟨h1, h2, h3⟩ := h
  refine ⟨h1, fun hne => ?_, fun i hi => ?_⟩
  · obtain ⟨p, q⟩ := h2 hne
    obtain ⟨e, n⟩ := m _ p q
    refine ⟨n, ?_⟩
    have : w.heap[a.block]? = some w.heap[a.block] := by simp [q]
    exact lt_of_some (e.trans this)
  · have hne : vs ≠ [] := by intro h; simp [h] at hi
    obtain ⟨p, q⟩ := h2 hne
    rw [cell?_congr (m _ p q).1]; exact h3 i hi

mutual
theorem D.rep_mono {w w' : World} {ow ow' : Nat → Prop} (m : Mono w ow w' ow') : ∀ (d : D) (cs : List Value), d.rep w ow cs → d.rep w' ow' cs
  | .int k n, cs, h => by simpa [D.rep] using h
  | .bool b, cs, h => by simpa [D.rep] using h
  | .str s, cs, h => by simpa [D.rep] using h
  | .nils, cs, h => by simpa [D.rep] using h
  | .nili, cs, h => by simpa [D.rep] using h
  | .nilp, cs, h => by simpa [D.rep] using h
  | .nilf, cs, h => by simpa [D.rep] using h
  | .ref x, cs, h => by
    simp only [D.rep] at h ⊢
    obtain ⟨a, vs, e, h1, h2⟩ := h
    exact ⟨a, vs, e, h1.mono m, D.rep_mono m x vs h2⟩
  | .iface t x, cs, h => by
    simp only [D.rep] at h ⊢
    obtain ⟨u, e, h1⟩ := h
    refine ⟨u, e, ?_⟩
    rcases h1 with ⟨p, ds, q, r⟩ | ⟨p, r⟩
    · exact .inl ⟨p, ds, q, D.rep_mono m x ds r⟩
    · exact .inr ⟨p, D.rep_mono m x _ r⟩
  | .fn f fi ca, cs, h => by
    simp only [D.rep] at h ⊢
    obtain ⟨fs, gs, e, h1, h2⟩ := h
    exact ⟨fs, gs, e, D.repT_mono m fi fs h1, D.repT_mono m ca gs h2⟩
  | .agg xs, cs, h => by
    simp only [D.rep] at h ⊢
    exact D.repL_mono m xs cs h
  | .list sz xs, cs, h => by
    simp only [D.rep] at h ⊢
    rcases h with h | ⟨a, cap, vs, h1, h2, h3, h4, h5⟩
    · exact .inl h
    · exact .inr ⟨a, cap, vs, h1, h2, h3.mono m, D.repL_mono m xs vs h4, h5⟩
theorem D.repT_mono {w w' : World} {ow ow' : Nat → Prop} (m : Mono w ow w' ow') : ∀ (xs : List D) (vs : List Value), D.repT w ow xs vs → D.repT w' ow' xs vs
  | [], vs, h => by simpa only [D.repT] using h
  | x :: r, vs, h => by
    simp only [D.repT] at h ⊢
    obtain ⟨u, us, e, h1, h2⟩ := h
    refine ⟨u, us, e, ?_, D.repT_mono m r us h2⟩
    rcases h1 with ⟨p, ds, q, r⟩ | ⟨p, r⟩
    · exact .inl ⟨p, ds, q, D.rep_mono m x ds r⟩
    · exact .inr ⟨p, D.rep_mono m x _ r⟩
theorem D.repL_mono {w w' : World} {ow ow' : Nat → Prop} (m : Mono w ow w' ow') : ∀ (xs : List D) (cs : List Value), D.repL w ow xs cs → D.repL w' ow' xs cs
  | [], cs, h => by simpa [D.repL] using h
  | x :: r, cs, h => by
    simp only [D.repL] at h ⊢
    obtain ⟨c1, c2, e, h1, h2⟩ := h
    exact ⟨c1, c2, e, D.rep_mono m x c1 h1, D.repL_mono m r c2 h2⟩
end

mutual
theorem D.rep_len {w : World} {ow : Nat → Prop} : ∀ (d : D) (cs : List Value), d.rep w ow cs → cs.length = d.sz
  | .int k n, cs, h => by simp [D.rep] at h; simp [h, D.sz]
  | .bool b, cs, h => by simp [D.rep] at h; simp [h, D.sz]
  | .str s, cs, h => by simp [D.rep] at h; simp [h, D.sz]
  | .nils, cs, h => by simp [D.rep] at h; simp [h, D.sz]
  | .nili, cs, h => by simp [D.rep] at h; simp [h, D.sz]
  | .nilp, cs, h => by simp [D.rep] at h; simp [h, D.sz]
  | .nilf, cs, h => by simp [D.rep] at h; simp [h, D.sz]
  | .ref x, cs, h => by simp only [D.rep] at h; obtain ⟨a, vs, e, _⟩ := h; simp [e, D.sz]
  | .iface t x, cs, h => by simp only [D.rep] at h; obtain ⟨u, e, _⟩ := h; simp [e, D.sz]
  | .fn f fi ca, cs, h => by simp only [D.rep] at h; obtain ⟨fs, gs, e, _⟩ := h; simp [e, D.sz]
  | .agg xs, cs, h => by
    simp only [D.rep] at h
    simp only [D.sz]
    exact D.repL_len xs cs h
  | .list sz xs, cs, h => by
    simp only [D.rep] at h
    rcases h with ⟨_, h⟩ | ⟨a, cap, vs, h1, _⟩
    · simp [h, D.sz]
    · simp [h1, D.sz]
theorem D.repL_len {w : World} {ow : Nat → Prop} : ∀ (xs : List D) (cs : List Value), D.repL w ow xs cs → cs.length = D.szs xs
  | [], cs, h => by simp [D.repL] at h; simp [h, D.szs]
  | x :: r, cs, h => by
    simp only [D.repL] at h
    obtain ⟨c1, c2, e, h1, h2⟩ := h
    simp [e, D.szs, D.rep_len x c1 h1, D.repL_len r c2 h2]
end

theorem D.repL_append {w : World} {ow : Nat → Prop} {xs ys : List D} {c1 c2 : List Value} (h1 : D.repL w ow xs c1) (h2 : D.repL w ow ys c2) : D.repL w ow (xs ++ ys) (c1 ++ c2) := by
  induction xs generalizing c1 with
  | nil => simp only [D.repL] at h1; subst h1; simpa using h2
  | cons x r ih =>
    simp only [D.repL] at h1
    obtain ⟨a1, a2, rfl, h3, h4⟩ := h1
    simp only [List.cons_append, D.repL]
    exact ⟨a1, a2 ++ c2, by simp, h3, ih h4⟩

theorem D.szs_append (xs ys : List D) : D.szs (xs ++ ys) = D.szs xs + D.szs ys := by
  induction xs with
  | nil => simp [D.szs]
  | cons x r ih => simp [D.szs, ih]; omega

theorem D.szs_uniform {sz : Nat} : ∀ (xs : List D), (∀ x ∈ xs, x.sz = sz) → D.szs xs = xs.length * sz
  | [], _ => by simp [D.szs]
  | x :: r, h => by
    have h1 := h x (by simp)
    have h2 := D.szs_uniform r (fun y hy => h y (by simp [hy]))
    simp [D.szs, h1, h2, Nat.add_mul]; omega

/-- Cut a reading in front of its i-th part. -/
theorem D.repL_split {w : World} {ow : Nat → Prop} : ∀ (xs : List D) (i : Nat) (cs : List Value), D.repL w ow xs cs →
    D.repL w ow (xs.take i) (cs.take (D.szs (xs.take i))) ∧ D.repL w ow (xs.drop i) (cs.drop (D.szs (xs.take i)))
  | xs, 0, cs, h => by simpa [D.repL, D.szs] using h
  | [], i + 1, cs, h => by simpa [D.repL, D.szs] using h
  | x :: r, i + 1, cs, h => by
    simp only [D.repL] at h
    obtain ⟨c1, c2, rfl, h1, h2⟩ := h
    have hl := D.rep_len x c1 h1
    obtain ⟨p, q⟩ := D.repL_split r i c2 h2
    simp only [List.take_succ_cons, List.drop_succ_cons, D.szs]
    constructor
    · rw [← hl, List.take_length_add_append]
      simp only [D.repL]
      exact ⟨c1, _, rfl, h1, p⟩
    · rw [← hl, List.drop_length_add_append]
      exact q

theorem D.repL_at {w : World} {ow : Nat → Prop} {xs : List D} {cs : List Value} (h : D.repL w ow xs cs) {i : Nat} (hi : i < xs.length) :
    xs[i].rep w ow ((cs.drop (D.szs (xs.take i))).take xs[i].sz) := by
  have h2 := (D.repL_split xs i cs h).2
  rw [List.drop_eq_getElem_cons hi] at h2
  simp only [D.repL] at h2
  obtain ⟨c1, c2, e, h3, _⟩ := h2
  have hl := D.rep_len _ c1 h3
  rw [e, ← hl]; simpa using h3

theorem Cells.sub {w : World} {ow : Nat → Prop} {a : Addr} {vs : List Value} (h : Cells w ow a vs) (k n : Nat) :
    Cells w ow ⟨a.block, a.off + k, none⟩ ((vs.drop k).take n) := by
  obtain ⟨h1, h2, h3⟩ := h
  refine ⟨rfl, fun hne => h2 ?_, fun i hi => ?_⟩
  · intro e; subst e; simp at hne
  · have hi' : k + i < vs.length := by simp at hi; omega
    have := h3 (k + i) hi'
    simp only [List.getElem_take, List.getElem_drop]
    rw [← this, Nat.add_assoc]

theorem Addr.add_eq {a : Addr} (h : a.spot = none) (n : Nat) : a.add n = ⟨a.block, a.off + n, none⟩ := by
  obtain ⟨b, o, s⟩ := a
  simp only at h
  subst h
  unfold Addr.add
  split
  · rename_i h; simp [h]
  · rfl

end Go.Ab
