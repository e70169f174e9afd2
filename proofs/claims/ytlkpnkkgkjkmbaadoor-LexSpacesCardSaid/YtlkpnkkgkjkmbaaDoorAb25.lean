/- More equations for states. Over any program; no condition. -/
import Derived.Test.YtlkpnkkgkjkmbaaDoorAb24
namespace Go.Ab
open Go
section
variable {ob : Objs} {n k : Nat} {l : List Nat}
theorem young_ge (h : k < n) : young n l k = false := by simp [young]; omega
@[simp] theorem drop_young_ge (h : fresh ob ≤ n) : dropO (young n l) ob = ob := by
  induction ob with
  | nil => rfl
  | cons e r ih =>
    obtain ⟨i, y⟩ := e
    simp only [fresh] at h
    have hi : i < n ∧ fresh r ≤ n := by split at h <;> omega
    simp only [dropO, young_ge hi.1, Bool.false_eq_true, if_false, ih hi.2]
@[simp] theorem young_old_add (m : Nat) (h : (lookO ob k).isSome = true) : young (fresh ob + m) l k = false := by
  have : k < fresh ob := by
    rcases Nat.lt_or_ge k (fresh ob) with h1 | h1
    · exact h1
    · rw [fresh_look ob k h1] at h; cases h
  simp [young]; omega
mutual
theorem V.men_mono {p q : Nat → Bool} (h : ∀ j, q j = false → p j = false) : ∀ v : V, V.men q v = false → V.men p v = false
  | .d _, _ => rfl
  | .ptr id _, e => h id e
  | .sl id _, e => h id e
  | .sd id _, e => h id e
  | .fn _ a b, e => by
    simp only [V.men, Bool.or_eq_false_iff] at e ⊢
    exact ⟨V.mens_mono h a e.1, V.mens_mono h b e.2⟩
  | .agg xs, e => by simp only [V.men] at e ⊢; exact V.mens_mono h xs e
  | .iface _ v, e => by simp only [V.men] at e ⊢; exact V.men_mono h v e
  | .tup xs, e => by simp only [V.men] at e ⊢; exact V.mens_mono h xs e
  | .undef, _ => rfl
  | .any, _ => rfl
theorem V.mens_mono {p q : Nat → Bool} (h : ∀ j, q j = false → p j = false) : ∀ xs : List V, V.mens q xs = false → V.mens p xs = false
  | [], _ => rfl
  | x :: r, e => by
    simp only [V.mens, Bool.or_eq_false_iff] at e ⊢
    exact ⟨V.men_mono h x e.1, V.mens_mono h r e.2⟩
end
theorem noMenO_mono {p q : Nat → Bool} (h : ∀ j, q j = false → p j = false) : ∀ ob : Objs, noMenO q ob = true → noMenO p ob = true
  | [], _ => rfl
  | (_, .box _ t) :: r, e => by
    simp only [noMenO, Bool.and_eq_true, Bool.not_eq_true'] at e ⊢
    exact ⟨V.men_mono h t e.1, noMenO_mono h r e.2⟩
  | (_, .arr _ _ _) :: r, e => by simp only [noMenO] at e ⊢; exact noMenO_mono h r e
  | (_, .gone) :: r, e => by simp only [noMenO] at e ⊢; exact noMenO_mono h r e
theorem noMenO_up (h : ∀ kp, noMenO (young (fresh ob) kp) ob = true) (hn : fresh ob ≤ n) : noMenO (young n l) ob = true :=
  noMenO_mono (fun j e => by simp [young] at e ⊢; intro hj; exact e (by omega)) ob (h l)
theorem noMenO_up_add (m : Nat) (h : ∀ kp, noMenO (young (fresh ob) kp) ob = true) : noMenO (young (fresh ob + m) l) ob = true := noMenO_up h (by omega)
/-- what one may lean on of the objects that a deferred call is handed -/
theorem DCall.of_wf {P : Prg} {f : Nat} {vs : List V} {ob : Objs} {rv : Option V} {K : Objs → Prop} (h : (∀ kp, V.mens (young (fresh ob) kp) vs = false) → (∀ kp, noMenO (young (fresh ob) kp) ob = true) → DCall P f vs ob rv K) : DCall P f vs ob rv K := by
  have key : ∀ w ρ args, OM w ρ ob → V.reps w ρ vs args → DCall P f vs ob rv K := fun w ρ args hO hr => by
    have old : ∀ kp id o, ρ.m id = some o → young (fresh ob) kp id = false := fun kp id o h0 => by
      obtain ⟨x, hx⟩ := hO.dom id o h0
      have hlt : ¬ fresh ob ≤ id := fun hle => by rw [fresh_look _ _ hle] at hx; cases hx
      simp [young, hlt]
    refine h (fun kp => V.mens_dom (old kp) _ _ hr) (fun kp => noMenO_of ob fun e he E t ht => ?_)
    have hx := hO.once.look e he
    rw [ht] at hx
    obtain ⟨b, cs, _, _, h3⟩ := hO.one e.1 _ hx
    exact V.men_dom (old kp) _ _ h3
  exact ⟨fun e w ρ args hO hg hr => (key w ρ args hO hr).ret e w ρ args hO hg hr, fun v e w ρ args x hO hg hr hv hi => (key w ρ args hO hr).pan v e w ρ args x hO hg hr hv hi⟩
end
end Go.Ab
