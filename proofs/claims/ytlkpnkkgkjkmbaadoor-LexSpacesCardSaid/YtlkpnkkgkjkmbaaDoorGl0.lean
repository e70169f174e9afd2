/- From what an argument reads as to data: over any program; condition: nothing is owned. -/
import Derived.Test.YtlkpnkkgkjkmbaaDoorAb3
import Derived.ChangeArms
import Derived.Lib.LaidTab
namespace Go.Ab
open Go
/-- types of data -/
inductive Ty where
  | bool
  | int (k : IntKind)
  | str
  | sl (e : Ty) (sz : Nat)
  | st (fs : List Ty)
mutual
def Ty.cells : Ty → Nat
  | .st fs => Ty.cellss fs
  | _ => 1
def Ty.cellss : List Ty → Nat
  | [] => 0
  | t :: r => t.cells + Ty.cellss r
end
mutual
def Ty.fits : Ty → D → Prop
  | .bool, x => ∃ b, x = .bool b
  | .int k, x => ∃ n, x = .int k n ∧ (Lit.int k n).wf = true
  | .str, x => ∃ s, x = .str s ∧ s.length ≤ maxLen
  | .sl e sz, x => x = .nils ∨ ∃ xs, x = .list sz xs ∧ xs.length ≤ maxLen ∧ ∀ y ∈ xs, e.fits y
  | .st fs, x => ∃ xs, x = .agg xs ∧ Ty.fitss fs xs
def Ty.fitss : List Ty → List D → Prop
  | [], xs => xs = []
  | t :: r, xs => ∃ y ys, xs = y :: ys ∧ t.fits y ∧ Ty.fitss r ys
end
mutual
def Ty.chk (P : Program) : Ty → TypeId → Bool
  | .bool, t => match P.underlying t with | some .bool => true | _ => false
  | .int k, t => match P.underlying t with | some (.int k') => k' == k | _ => false
  | .str, t => match P.underlying t with | some .string => true | _ => false
  | .sl e sz, t => match P.underlying t with | some (.slice u) => e.chk P u && P.cellsOf u == sz && e.cells == sz && decide (0 < sz) | _ => false
  | .st fs, t => match P.underlying t with | some (.struct fds) => P.cellsOf t == Ty.cellss fs && Ty.chks P fs fds.toList 0 | _ => false
def Ty.chks (P : Program) : List Ty → List Field → Nat → Bool
  | [], [], _ => true
  | t :: r, f :: fs, o => f.offset == o && P.cellsOf f.type == t.cells && t.chk P f.type && Ty.chks P r fs (o + t.cells)
  | _, _, _ => false
end
section
variable {H : Type} {enc : TypeId × Value → H} {P : Program} {w : World} {base : Nat} {sp : Nat → Bool} {held : Bool} {ow : Nat → Prop}
theorem cell_add {a : Addr} {i : Nat} {v : Value} (h : w.cell? (a.add i) = some v) (hs : i = 0 ∨ a.spot = none) : a.spot = none ∧ a.block < w.heap.size ∧ w.cell? ⟨a.block, a.off + i, none⟩ = some v := by
  have hsp : a.spot = none := by
    rcases hs with rfl | hs
    · have : a.add 0 = a := by simp [Addr.add]
      rw [this] at h
      unfold World.cell? at h
      split at h
      · split at h
        · cases h
        · rename_i e; simpa using e
      · cases h
    · exact hs
  rw [Addr.add_eq hsp] at h
  refine ⟨hsp, ?_, h⟩
  unfold World.cell? at h
  cases hb : w.heap[a.block]? with
  | none => simp only [hb] at h; cases h
  | some o => exact lt_of_some hb
theorem cells_read {a : Addr} {n : Nat} {vs : List Value} (h : w.cells? base a n = some vs) : vs.length = n ∧ ∀ i, i < n → w.cell? (a.add i) = vs[i]? := by
  unfold World.cells? at h
  split at h
  · refine ⟨by simpa using Lib.mapM_length h, fun i hi => ?_⟩
    obtain ⟨b, hb, hf⟩ := Lib.mapM_at h i i (by simp [hi])
    rw [hf, hb]
  · cases h
/-- the elements of a slice, one after the other -/
theorem elems_read (e : Ty) (u : TypeId) (sz : Nat) (hsz : 0 < sz) (fuel : Nat) (a : Addr) (hP : P.cellsOf u = sz) (he : e.cells = sz)
    (ih : ∀ cs x, DataW.trod enc P w base sp held fuel u cs = some x → cs.length = e.cells → ∃ y : D, e.fits y ∧ y.rep w ow cs ∧ y.sz = e.cells) :
    ∀ n (hn : ∀ i, i < n → ∃ x, (w.cells? base (a.add (i * P.cellsOf u)) (P.cellsOf u)).bind (DataW.trod enc P w base sp held fuel u) = some x),
      ∃ (xs : List D) (vs : List Value), xs.length = n ∧ vs.length = n * sz ∧ (∀ y ∈ xs, e.fits y ∧ y.sz = sz) ∧ D.repL w ow xs vs ∧ (0 < n → a.spot = none ∧ a.block < w.heap.size) ∧ ∀ j (h : j < vs.length), w.cell? ⟨a.block, a.off + j, none⟩ = some vs[j]
  | 0, _ => ⟨[], [], rfl, by simp, by simp, rfl, by simp, by simp⟩
  | n + 1, hn => by
    obtain ⟨xs, vs, h1, h2, h3, h4, h5, h6⟩ := elems_read e u sz hsz fuel a hP he ih n (fun i hi => hn i (by omega))
    obtain ⟨x, hx⟩ := hn n (by omega)
    obtain ⟨cs, hc, hx⟩ := Option.bind_eq_some_iff.1 hx
    rw [hP] at hc
    obtain ⟨c1, c2⟩ := cells_read hc
    obtain ⟨y, y1, y2, y3⟩ := ih cs x hx (by omega)
    have hspot : a.spot = none ∧ a.block < w.heap.size := by
      rcases Nat.eq_zero_or_pos n with rfl | hp
      · have h0 := c2 0 hsz
        rw [List.getElem?_eq_getElem (by omega)] at h0
        have e0 : (a.add (0 * sz)).add 0 = a.add 0 := by simp [Addr.add]
        rw [e0] at h0
        have := cell_add h0 (.inl rfl)
        exact ⟨this.1, this.2.1⟩
      · exact h5 hp
    refine ⟨xs ++ [y], vs ++ cs, by simp [h1], by simp [h2, c1, Nat.add_mul], ?_, D.repL_append h4 ⟨cs, [], by simp, y2, rfl⟩, fun _ => hspot, fun j hj => ?_⟩
    · intro z hz
      rcases List.mem_append.1 hz with hz | hz
      · exact h3 z hz
      · rw [List.mem_singleton.1 hz]; exact ⟨y1, by omega⟩
    · rw [List.getElem_append]
      split
      · rename_i hj'; exact h6 j hj'
      · rename_i hj'
        simp at hj
        have hk : j - vs.length < sz := by omega
        have := c2 (j - vs.length) hk
        rw [List.getElem?_eq_getElem (by omega)] at this
        rw [Addr.add_eq hspot.1, Addr.add_eq rfl] at this
        have hoff : a.off + n * sz + (j - vs.length) = a.off + j := by omega
        simp only [hoff] at this
        exact this
mutual
def Ty.flat : Ty → Bool
  | .sl _ _ => false
  | .st fs => Ty.flats fs
  | _ => true
def Ty.flats : List Ty → Bool
  | [] => true
  | t :: r => t.flat && Ty.flats r
end
theorem mapM_cons_some {α β : Type} {f : α → Option β} {a : α} {l : List α} {r : List β} (h : (a :: l).mapM f = some r) : ∃ b r', r = b :: r' ∧ f a = some b ∧ l.mapM f = some r' := by
  simp only [List.mapM_cons, Option.bind_eq_bind, Option.bind_eq_some_iff, Option.pure_def, Option.some.injEq] at h
  obtain ⟨b, hb, r', hr', rfl⟩ := h
  exact ⟨b, r', rfl, hb, hr'⟩
mutual
theorem Ty.open : ∀ (T : Ty) (fuel : Nat) (t : TypeId) (cs : List Value) (x : DataW H × List MemPlace), T.flat = true → T.chk P t = true → DataW.trod enc P w base sp held fuel t cs = some x → ∃ y : D, T.fits y ∧ y.rep w ow cs ∧ y.sz = T.cells
  | .bool, fuel, t, cs, x, _, hc, h => by
    simp only [Ty.chk] at hc
    split at hc
    · rename_i hu
      obtain ⟨b, rfl, _⟩ := DataW.trod_bool hu h
      exact ⟨.bool b, ⟨b, rfl⟩, rfl, rfl⟩
    · cases hc
  | .int k, fuel, t, cs, x, _, hc, h => by
    simp only [Ty.chk] at hc
    split at hc
    · rename_i k' hu
      obtain rfl : k' = k := by simpa using hc
      obtain ⟨n, rfl, _, hw⟩ := DataW.trod_int hu h
      exact ⟨.int k' n, ⟨n, rfl, hw⟩, rfl, rfl⟩
    · cases hc
  | .str, fuel, t, cs, x, _, hc, h => by
    simp only [Ty.chk] at hc
    split at hc
    · rename_i hu
      obtain ⟨s, rfl, _, hs⟩ := DataW.trod_string hu h
      exact ⟨.str s.data.toList, ⟨_, rfl, by simpa using hs⟩, by simp [D.rep], rfl⟩
    · cases hc
  | .sl e sz, fuel, t, cs, x, hf, hc, h => by simp [Ty.flat] at hf
  | .st fs, fuel, t, cs, x, hf, hc, h => by
    simp only [Ty.chk] at hc
    split at hc
    · rename_i fds hu
      simp only [Bool.and_eq_true, beq_iff_eq] at hc
      cases fuel with
      | zero => simp [DataW.trod] at h
      | succ fuel =>
        unfold DataW.trod at h
        rw [hu] at h
        split at h <;> try (simp at *; done)
        rename_i fs' heq
        obtain rfl : fds = fs' := by simpa using heq
        split at h
        · rename_i hl
          obtain ⟨xs, hm, _⟩ := Option.map_eq_some_iff.1 h
          obtain ⟨ys, y1, y2, y3⟩ := Ty.opens fs fds.toList 0 fuel _ xs (by simpa [Ty.flat] using hf) hc.2 (by rw [hl, hc.1]; simp) hm
          exact ⟨.agg ys, ⟨ys, rfl, y1⟩, by simpa [D.rep] using y2, by simp [D.sz, y3, Ty.cells]⟩
        · cases h
    · cases hc
theorem Ty.opens : ∀ (Ts : List Ty) (fs : List Field) (o : Nat) (fuel : Nat) (cs : List Value) (xs : List (DataW H × List MemPlace)), Ty.flats Ts = true → Ty.chks P Ts fs o = true → cs.length = o + Ty.cellss Ts →
    fs.mapM (fun f => DataW.trod enc P w base sp held fuel f.type ((cs.drop f.offset).take (P.cellsOf f.type))) = some xs → ∃ ys : List D, Ty.fitss Ts ys ∧ D.repL w ow ys (cs.drop o) ∧ D.szs ys = Ty.cellss Ts
  | [], [], o, fuel, cs, xs, _, _, hl, h => by
    refine ⟨[], rfl, ?_, rfl⟩
    simp only [Ty.cellss] at hl
    simp only [D.repL]
    exact List.drop_of_length_le (by omega)
  | [], _ :: _, _, _, _, _, _, hc, _, _ => by simp [Ty.chks] at hc
  | _ :: _, [], _, _, _, _, _, hc, _, _ => by simp [Ty.chks] at hc
  | T :: Ts, f :: fs, o, fuel, cs, xs, hf, hc, hl, h => by
    simp only [Ty.chks, Bool.and_eq_true, beq_iff_eq] at hc
    obtain ⟨⟨⟨h1, h2⟩, h3⟩, h4⟩ := hc
    simp only [Ty.flats, Bool.and_eq_true] at hf
    simp only [Ty.cellss] at hl
    obtain ⟨x, xs', rfl, hx, hr⟩ := mapM_cons_some h
    rw [h1, h2] at hx
    obtain ⟨y, y1, y2, y3⟩ := Ty.open T fuel f.type _ x hf.1 h3 hx
    obtain ⟨ys, z1, z2, z3⟩ := Ty.opens Ts fs (o + T.cells) fuel cs xs' hf.2 h4 (by omega) hr
    refine ⟨y :: ys, ⟨y, ys, rfl, y1, z1⟩, ?_, by simp [D.szs, y3, z3, Ty.cellss]⟩
    simp only [D.repL]
    refine ⟨_, _, ?_, y2, z2⟩
    rw [← List.drop_drop]
    exact (List.take_append_drop _ _).symm
end
/-- an argument that is a slice of such data -/
theorem Ty.open_sl (hown : ∀ b, ¬ ow b) (e : Ty) (sz : Nat) (t : TypeId) (v : Value) (d : DataW H) (ps : List MemPlace) (hf : e.flat = true) (hc : (Ty.sl e sz).chk P t = true)
    (hsp : v = .slice none 0 0 ∨ ∃ a l c, v = .slice (some a) l c ∧ a.spot = none) (h : DataW.Trod enc P w base sp held t v d ps) : ∃ y : D, (Ty.sl e sz).fits y ∧ y.rep w ow [v] := by
  obtain ⟨fuel, h⟩ := h
  simp only [Ty.chk] at hc
  split at hc
  · rename_i u hu
    simp only [Bool.and_eq_true, beq_iff_eq, decide_eq_true_eq] at hc
    obtain ⟨⟨⟨h1, h2⟩, h3⟩, h4⟩ := hc
    cases fuel with
    | zero => simp [DataW.trod] at h
    | succ fuel =>
      unfold DataW.trod at h
      rw [hu] at h
      split at h <;> try (simp at *; done)
      · rename_i heq
        have hv : v = .slice none 0 0 := by
          rcases hsp with rfl | ⟨a, l, c, rfl, _⟩
          · rfl
          · simp [Value.cells] at heq
        exact ⟨.nils, .inl rfl, by rw [hv]; rfl⟩
      · rename_i e' a l c hu' heq
        obtain rfl : u = e' := by simpa using hu'
        have hv : v = .slice (some a) l c ∧ a.spot = none := by
          rcases hsp with rfl | ⟨a', l', c', rfl, hs⟩
          · simp [Value.cells] at heq
          · simp [Value.cells] at heq
            obtain ⟨rfl, rfl, rfl⟩ := heq
            exact ⟨rfl, hs⟩
        simp only at h
        split at h
        · rename_i hb
          obtain ⟨elems, he, h⟩ := Option.bind_eq_some_iff.1 h
          obtain ⟨xs, vs, q1, q2, q3, q4, q5, q6⟩ := elems_read (ow := ow) (enc := enc) (sp := sp) (held := held) e u sz h4 fuel a h2 h3 (fun cs x hx _ => Ty.open e fuel u cs x hf h1 hx) l (fun i hi => by
            obtain ⟨b, _, hb⟩ := Lib.mapM_at he i i (by simp [hi])
            exact ⟨b, hb⟩)
          refine ⟨.list sz xs, .inr ⟨xs, rfl, by omega, fun y hy => (q3 y hy).1⟩, .inr ⟨a, c, vs, by rw [hv.1, q1], by omega, ⟨hv.2, fun hne => ⟨hown _, (q5 ?_).2⟩, q6⟩, q4, fun x hx => (q3 x hx).2⟩⟩
          rcases Nat.eq_zero_or_pos l with rfl | hp
          · have : vs = [] := List.length_eq_zero_iff.1 (by simpa using q2)
            exact (hne this).elim
          · exact hp
        · cases h
  · cases hc
theorem okWide_slice {r : Reach} {b0 : Nat} {t u : TypeId} {v : Value} (hu : P.underlying t = some (.slice u)) (h : Value.okWide P w r b0 t v) : v = .slice none 0 0 ∨ ∃ a l c, v = .slice (some a) l c ∧ a.spot = none := by
  unfold Value.okWide at h
  rw [hu] at h
  simp only [Cell.okWide, hu, Cell.ok] at h
  split at h <;> simp_all
  exact h.2.2.2.1
end
end Go.Ab
