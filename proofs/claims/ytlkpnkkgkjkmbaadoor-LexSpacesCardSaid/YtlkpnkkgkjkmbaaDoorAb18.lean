/- Regions folded into expressions: that the fold keeps what is shown. Over any program; no condition. -/
import Derived.Test.YtlkpnkkgkjkmbaaDoorAb17
namespace Go.Ab
open Go

section
variable {P : Prg} {T : Tab} {σ : Sg} {sl sl0 : Slots} {ob : Objs} {p : Path}

theorem use1_of {x : A} {k : Nat} {ex : E} (hk : k ∈ use1 σ p x) (h : opE σ p x = some ex) : ent σ k = some (p, ex) := by
  cases x with
  | t j =>
    simp only [use1] at hk
    simp only [opE] at h
    split at hk
    · rename_i q e he
      split at hk
      · rename_i hq
        simp at hk; subst hk
        simp at hq; subst hq
        rw [he] at h
        simp at h
        rw [he, h]
      · cases hk
    · cases hk
  | _ => simp [use1] at hk
theorem holds_snoc {g : Nat} {b : Bool} : holdsS sl (p ++ [(g, b)]) = (holdsS sl p && isB b (look sl g)) := by
  simp [holdsS, List.all_append]
theorem uses_cov : ∀ {xs : List A} {e : E}, argsE σ p xs = some e → ∀ {k q ek}, k ∈ uses σ p xs → ent σ k = some (q, ek) → q = p ∧ (e.ok T sl0 ob → ek.ok T sl0 ob)
  | [], _, _, k, _, _, hk, _ => by simp [uses] at hk
  | x :: r, e, h, k, q, ek, hk, he => by
    simp only [argsE] at h
    split at h
    · rename_i ex er hx hr
      cases h
      simp only [uses, List.mem_append] at hk
      rcases hk with hk | hk
      · have := use1_of hk hx
        rw [he] at this; cases this
        exact ⟨rfl, fun h => h.1⟩
      · obtain ⟨h1, h2⟩ := uses_cov hr hk he
        exact ⟨h1, fun h => h2 h.2⟩
    · cases h

theorem C.cov (hI : Inv T σ sl sl0 ob) {c : C} {e : E} (h : c.lift σ p = some e) {k : Nat} {q : Path} {ek : E} (hk : k ∈ c.cons σ p) (he : ent σ k = some (q, ek)) (hq : holdsS sl q = true) (ho : holdsS sl p = true → e.ok T sl0 ob) : ek.ok T sl0 ob := by
  have l1 : ∀ {c x}, lift1 σ p c x = some e → k ∈ use1 σ p x → ek.ok T sl0 ob := fun h hk => by
    obtain ⟨ex, rfl, hx⟩ := lift1_of h
    have := use1_of hk hx
    rw [he] at this; cases this
    exact (ho hq).1
  have l2 : ∀ {c x y}, lift2 σ p c x y = some e → k ∈ use1 σ p x ++ use1 σ p y → ek.ok T sl0 ob := fun h hk => by
    obtain ⟨ex, ey, rfl, hx, hy⟩ := lift2_of h
    rw [List.mem_append] at hk
    rcases hk with hk | hk
    · have := use1_of hk hx
      rw [he] at this; cases this
      exact (ho hq).1
    · have := use1_of hk hy
      rw [he] at this; cases this
      exact (ho hq).2.1
  have l3 : ∀ {c x y z}, lift3 σ p c x y z = some e → k ∈ use1 σ p x ++ use1 σ p y ++ use1 σ p z → ek.ok T sl0 ob := fun h hk => by
    obtain ⟨ex, ey, ez, rfl, hx, hy, hz⟩ := lift3_of h
    rw [List.mem_append, List.mem_append] at hk
    rcases hk with (hk | hk) | hk
    · have := use1_of hk hx
      rw [he] at this; cases this
      exact (ho hq).1
    · have := use1_of hk hy
      rw [he] at this; cases this
      exact (ho hq).2.1
    · have := use1_of hk hz
      rw [he] at this; cases this
      exact (ho hq).2.2.1
  unfold C.lift at h
  split at h <;> simp only [C.cons] at hk
  case h_1 =>
    have := use1_of hk h
    rw [he] at this; cases this
    exact ho hq
  case h_2 g x y =>
    obtain ⟨ec, ex, ey, rfl, hc, hx, hy⟩ := pickE_of h
    rw [List.mem_append, List.mem_append] at hk
    rcases hk with (hk | hk) | hk
    · have := use1_of hk hc
      rw [he] at this; cases this
      exact (ho hq).1
    · have := use1_of hk hx
      rw [he] at this; cases this
      rw [holds_snoc, Bool.and_eq_true] at hq
      have hv := opE_val hI hq.1 hc
      exact (ho hq.1).2.2.1 (by rw [hv]; exact hq.2)
    · have := use1_of hk hy
      rw [he] at this; cases this
      rw [holds_snoc, Bool.and_eq_true] at hq
      have hv := opE_val hI hq.1 hc
      exact (ho hq.1).2.2.2 (by rw [hv]; exact hq.2)
  all_goals first
    | (cases h; done)
    | exact l1 h hk
    | exact l2 h hk
    | exact l3 h hk
    | (cases hk; done)
theorem I.cov (hI : Inv T σ sl sl0 ob) {fs : List Nat} {i : I} {e : E} (h : i.lift fs σ p = some e) {k : Nat} {q : Path} {ek : E} (hk : k ∈ i.cons σ p) (he : ent σ k = some (q, ek)) (hq : holdsS sl q = true) (ho : holdsS sl p = true → e.ok T sl0 ob) : ek.ok T sl0 ob := by
  cases i <;> simp only [I.lift] at h <;> simp only [I.cons] at hk
  case c x => exact C.cov hI h hk he hq ho
  case pcall f args =>
    split at h
    · split at h
      · rename_i e' ha
        cases h
        obtain ⟨rfl, h2⟩ := uses_cov (T := T) (sl0 := sl0) (ob := ob) ha hk he
        exact h2 (ho hq).1
      · cases h
    · cases h
  all_goals cases h
theorem I.gcov {fs : List Nat} {i : I} {e : E} (h : i.lift fs σ p = some e) {k : Nat} {q : Path} {ek : E} (hk : k ∈ i.gcons σ p) (he : ent σ k = some (q, ek)) (hq : holdsS sl q = true) (ho : holdsS sl p = true → e.ok T sl0 ob) : boolV (ek.val T sl0 ob) := by
  unfold I.gcons at hk
  split at hk
  · rename_i g x y
    simp only [I.lift, C.lift] at h
    obtain ⟨ec, ex, ey, rfl, hc, hx, hy⟩ := pickE_of h
    have := use1_of hk hc
    rw [he] at this; cases this
    exact (ho hq).2.1
  · cases hk
theorem I.lift_sound (hT : TOk P T) (hI : Inv T σ sl sl0 ob) (hp : holdsS sl p = true) {fs : List Nat} {i : I} {e : E} (h : i.lift fs σ p = some e) (ho : e.ok T sl0 ob) {KO Pn : V → Objs → Prop} (hK : KO (e.val T sl0 ob) ob) : i.wp P sl ob KO Pn := by
  cases i <;> simp only [I.lift] at h
  case c x =>
    obtain ⟨h1, h2⟩ := C.lift_sound hI hp h
    simp only [I.wp]
    exact C.wp_of (h2 ho) (by rw [← h1]; exact hK)
  case pcall f args =>
    split at h
    · split at h
      · rename_i e' ha
        cases h
        have hv := argsE_val hI hp ha
        simp only [E.ok, E.val, hv] at ho hK
        simp only [I.wp]
        cases hf : lookT T f with
        | none => rw [hf] at ho; exact ho.2.elim
        | some F => rw [hf] at ho hK; exact hT f F hf _ ho.2 _ _ hK
      · cases h
    · cases h
  all_goals cases h

theorem Inv.congr {sl' : Slots} (hI : Inv T σ sl sl0 ob) (h : ∀ k, look sl' k = look sl k) : Inv T σ sl' sl0 ob := by
  intro k p e he
  have : holdsS sl' p = holdsS sl p := by simp only [holdsS, h]
  rw [this, h]
  exact hI k p e he

/-- a slot is no guard of any path here -/
def noGuard (d : Nat) (p : Path) : Bool := p.all fun g => g.1 != d
def gfree (σ : Sg) (d : Nat) : Bool := σ.all fun x => match x.2 with
  | some (p, _) => noGuard d p
  | none => true
theorem holds_put {d : Nat} {v : V} (h : noGuard d p = true) : holdsS ((d, v) :: sl) p = holdsS sl p := by
  induction p with
  | nil => rfl
  | cons g r ih =>
    simp only [noGuard, List.all_cons, Bool.and_eq_true] at h
    simp only [holdsS, List.all_cons] at ih ⊢
    have : look ((d, v) :: sl) g.1 = look sl g.1 := by
      have := h.1; simp at this
      have h' : ¬ d = g.1 := fun e => this e.symm
      simp [look, h']
    rw [this, ih h.2]
theorem gfree_look : ∀ {σ : Sg} {d k : Nat} {p : Path} {e : E}, gfree σ d = true → lookG σ k = some (some (p, e)) → noGuard d p = true
  | [], _, _, _, _, _, h => by simp [lookG] at h
  | (j, x) :: r, d, k, p, e, hg, h => by
    simp only [gfree, List.all_cons, Bool.and_eq_true] at hg
    simp only [lookG] at h
    split at h
    · cases h; exact hg.1
    · exact gfree_look (σ := r) hg.2 h
theorem gfree_ent {d k : Nat} {q : Path} {e : E} (hg : gfree σ d = true) (h : ent σ k = some (q, e)) : noGuard d q = true := by
  unfold ent at h
  split at h
  · cases h; rfl
  · rename_i x hx; subst h; exact gfree_look hg hx

theorem ent_cons_eq {k : Nat} {x : Option (Path × E)} : ent ((k, x) :: σ) k = x := by simp [ent, lookG]
theorem ent_cons_ne {j k : Nat} {x : Option (Path × E)} (h : k ≠ j) : ent ((k, x) :: σ) j = ent σ j := by simp [ent, lookG, h]

/-- a slot takes an expression -/
theorem Inv.fold (hI : Inv T σ sl sl0 ob) {k : Nat} {e : E} (hg : gfree σ k = true) (hp : noGuard k p = true) {v : V} (h1 : holdsS sl p = true → v = e.val T sl0 ob) (h2 : holdsS sl p = false → v = .undef) :
    Inv T ((k, some (p, e)) :: σ) ((k, v) :: sl) sl0 ob := by
  intro j q e' he
  by_cases hj : k = j
  · subst hj
    rw [ent_cons_eq] at he; cases he
    rw [holds_put hp]
    simp only [look, if_true]
    exact ⟨h1, h2⟩
  · rw [ent_cons_ne hj] at he
    rw [holds_put (gfree_ent hg he)]
    simp only [look, hj, if_false]
    exact hI j q e' he
end
end Go.Ab
