/- Regions that draw their order: which operations may be taken first. Over any program; no condition. -/
import Derived.OrdersHeld
namespace Go.Ab
open Go
section
variable {P : Program} {ops : Array Oper} {Q : Exit → Act → World → Prop} {md : Region.Mode} {R : World → World → Prop} {tl : Nat → Bool}

/-- Whatever order is picked from here on; what is no tail operation goes by R. -/
def wpAnyG (P : Program) (md : Region.Mode) (ops : Array Oper) (Q : Exit → Act → World → Prop) (R : World → World → Prop) (tl : Nat → Bool) : Nat → Array Bool → Act → World → Prop
  | 0, listed, a, w => Region.ready md ops listed = [] ∧ Q .normal a w
  | fuel + 1, listed, a, w =>
    (Region.ready md ops listed = [] → Q .normal a w) ∧
    ∀ i ∈ Region.ready md ops listed, wpOp P ops Q i (fun a' w' => (tl i = false → R w w') ∧ wpAnyG P md ops Q R tl fuel (listed.setIfInBounds i true) a' w') a w

theorem wpAny_of_G : ∀ (fuel : Nat) (listed : Array Bool) (a : Act) (w : World), wpAnyG P md ops Q R tl fuel listed a w → wpAny P md ops Q fuel listed a w
  | 0, _, _, _, h => h
  | fuel + 1, _, _, _, h => ⟨h.1, fun i hi => wpOp_mono (fun a' w' h' => wpAny_of_G fuel _ a' w' h'.2) (h.2 i hi)⟩

/-- what has come up had all that it waits for come up before it -/
def Closed (md : Region.Mode) (ops : Array Oper) (listed : Array Bool) : Prop :=
  ∀ k o, ops[k]? = some o → listed.getD k false = true → ∀ e ∈ o.after, Region.binds md e = true → listed.getD e.on false = true

theorem Closed.step {listed : Array Bool} (h : Closed md ops listed) {j : Nat} (hj : j ∈ Region.ready md ops listed) : Closed md ops (listed.setIfInBounds j true) := by
  obtain ⟨_, oj, hoj, hall⟩ := mem_ready.1 hj
  intro k o hk hl e he hb
  by_cases hjk : j = k
  · subst hjk
    rw [hoj] at hk; simp at hk; subst hk
    exact getD_set_true (hall e he hb)
  · rw [getD_set_ne false hjk] at hl
    exact getD_set_true (h k o hk hl e he hb)

/-- does j wait, by however many steps, for i? -/
def waits (md : Region.Mode) (ops : Array Oper) (i : Nat) : Nat → Nat → Bool
  | 0, _ => false
  | fuel + 1, j => match ops[j]? with
    | some o => o.after.any fun e => Region.binds md e && (e.on == i || waits md ops i fuel e.on)
    | none => false

theorem waits_listed {listed : Array Bool} (hc : Closed md ops listed) {i : Nat} : ∀ (fuel k : Nat), waits md ops i fuel k = true → listed.getD k false = true → listed.getD i false = true
  | 0, k, h, _ => by simp [waits] at h
  | fuel + 1, k, h, hl => by
    simp only [waits] at h
    split at h
    · rename_i o ho
      rw [Array.any_eq_true'] at h
      obtain ⟨e, he, h⟩ := h
      simp only [Bool.and_eq_true, Bool.or_eq_true, beq_iff_eq] at h
      have h1 := hc k o ho hl e he h.1
      rcases h.2 with h2 | h2
      · rw [← h2]; exact h1
      · exact waits_listed hc fuel e.on h2 h1
    · simp at h

theorem not_ready_of_waits {listed : Array Bool} (hc : Closed md ops listed) {i j fuel : Nat} (hi : listed.getD i true = false) (h : waits md ops i fuel j = true) : j ∉ Region.ready md ops listed := by
  intro hj
  obtain ⟨_, o, ho, hall⟩ := mem_ready.1 hj
  cases fuel with
  | zero => simp [waits] at h
  | succ fuel =>
    simp only [waits, ho] at h
    rw [Array.any_eq_true'] at h
    obtain ⟨e, he, h⟩ := h
    simp only [Bool.and_eq_true, Bool.or_eq_true, beq_iff_eq] at h
    have h1 := hall e he h.1
    have hli : listed.getD i false = true := by
      rcases h.2 with h2 | h2
      · rw [← h2]; exact h1
      · exact waits_listed hc fuel e.on h2 h1
    rcases Nat.lt_or_ge i listed.size with h' | h'
    · simp [h'] at hi hli; rw [hi] at hli; cases hli
    · simp [Array.getElem?_eq_none h'] at hli

theorem yif_weaken {S S' : World → Prop} {o : Oper} {v : Value} {a : Act} (h : YieldsIf P ops S o v a) (hs : ∀ w, S' w → S w) : YieldsIf P ops S' o v a :=
  h.imp (fun ⟨h1, h2⟩ => ⟨h1, fun w hw => h2 w (hs w hw)⟩) id

/-- **An operation that may come up now may be taken first**: if it looks at its operands alone ('l' is false); or, if it yields its value in every world that is R-behind the one at hand, and every tail operation waits for it. -/
theorem wpAnyG_first (hrefl : ∀ w, R w w) (htrans : ∀ u v w, R u v → R v w → R u w) {l : Bool} {i : Nat} {oi : Oper} {v : Value} (hi : ops[i]? = some oi) (hsel : ∀ (j : Nat) (o : Oper) cs b, ops[j]? = some o → o.op ≠ .select cs b)
    (hQ : ∀ c a w, Q (.panic c) (a.put oi.dst v) w → Q (.panic c) a w) (hl : l = true → ∀ j, j < ops.size → tl j = true → j ≠ i → ∃ fuel, waits md ops i fuel j = true) :
    ∀ (fuel : Nat) (listed : Array Bool) (a : Act) (w : World), Closed md ops listed →
      (∀ j oj, ops[j]? = some oj → j ≠ i → listed.getD j true = false → (∀ e ∈ oj.after, Region.binds md e = true → e.on ≠ i) → oi.apart ops oj = true) →
      i ∈ Region.ready md ops listed → YieldsIf P ops (fun w' => l = true → R w w') oi v a →
      wpAnyG P md ops Q R tl fuel (listed.setIfInBounds i true) (a.put oi.dst v) w → wpAnyG P md ops Q R tl (fuel + 1) listed a w := by
  intro fuel
  induction fuel with
  | zero =>
    intro listed a w _ _ hr hy H
    refine ⟨fun h => (by rw [h] at hr; cases hr), fun j hj => ?_⟩
    by_cases hji : j = i
    · subst hji; exact hy.wpOp hi (fun _ => hrefl w) ⟨fun _ => hrefl w, H⟩
    · have := ready_mono hj hji
      rw [H.1] at this
      cases this
  | succ fuel ih =>
    intro listed a w hcl hfree hr hy H
    refine ⟨fun h => (by rw [h] at hr; cases hr), fun j hj => ?_⟩
    by_cases hji : j = i
    · subst hji; exact hy.wpOp hi (fun _ => hrefl w) ⟨fun _ => hrefl w, H⟩
    · have h1 := H.2 j (ready_mono hj hji)
      obtain ⟨hjun, oj, hoj, hall⟩ := mem_ready.1 hj
      have hiun := (mem_ready.1 hr).1
      have hnot : ∀ e ∈ oj.after, Region.binds md e = true → e.on ≠ i := fun e he hb heq => by
        have h1 := hall e he hb
        rw [heq] at h1
        rcases Nat.lt_or_ge i listed.size with h' | h'
        · simp [h'] at hiun h1; rw [hiun] at h1; cases h1
        · simp [Array.getElem?_eq_none h'] at h1
      have h2 := wpOp_putIf hoj (hfree j oj hoj hji hjun hnot) (fun cs b => hsel i oi cs b hi) (fun cs b => hsel j oj cs b hoj) hQ hy h1
      have hfree' : ∀ k ok, ops[k]? = some ok → k ≠ i → (listed.setIfInBounds j true).getD k true = false →
          (∀ e ∈ ok.after, Region.binds md e = true → e.on ≠ i) → oi.apart ops ok = true := fun k ok hk hki hun hno => by
        refine hfree k ok hk hki ?_ hno
        by_cases hjk : j = k
        · subst hjk; exact hjun
        · rw [getD_set_ne true hjk] at hun; exact hun
      refine wpOp_mono (fun a' w' h3 => ⟨h3.2.1, ih (listed.setIfInBounds j true) a' w' (hcl.step hj) hfree' (ready_mono hr (Ne.symm hji)) (yif_weaken h3.1 fun w'' h4 h5 => ?_) ?_⟩) h2
      · have hR : R w w' := by
          refine h3.2.1 ?_
          cases ht : tl j with
          | false => rfl
          | true =>
            obtain ⟨fl, hw⟩ := hl h5 j (Array.getElem?_eq_some_iff.1 hoj).1 ht hji
            exact absurd hj (not_ready_of_waits hcl hiun hw)
        exact htrans _ _ _ hR (h4 h5)
      · rw [Array.setIfInBounds_comm _ _ hji]
        exact h3.2.2
end
end Go.Ab
