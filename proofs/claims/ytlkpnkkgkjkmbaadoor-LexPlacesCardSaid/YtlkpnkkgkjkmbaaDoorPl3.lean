/- Plain laws of the lexer: gaps between tokens. No program. -/
import Derived.Test.YtlkpnkkgkjkmbaaDoorPl2
namespace Go.Lx
open Go Go.Ab
/-- whether a comment goes on -/
def cmS (s : List UInt8) (to i : Nat) (cm : Bool) : Bool :=
  !decide (((s[i]?.getD 0).toNat : Int) = 10) && (cm || decide (((s[i]?.getD 0).toNat : Int) = 47) && decide ((i : Int) + 1 < to) && ((s[i + 1]?.getD 0).toNat : Int) == 47)
theorem cmS_false (s : List UInt8) (to i : Nat) (cm : Bool) : cmS s to i cm = false ↔ (((s[i]?.getD 0).toNat : Int) = 10 ∨ cm = false ∧ ((¬ ((s[i]?.getD 0).toNat : Int) = 47 ∨ (to : Int) ≤ (i : Int) + 1) ∨ ¬ ((s[i + 1]?.getD 0).toNat : Int) = 47)) := by
  simp only [cmS, Bool.and_eq_false_iff, Bool.or_eq_false_iff, Bool.not_eq_false', decide_eq_true_eq, decide_eq_false_iff_not, beq_eq_false_iff_ne, Int.not_lt, ne_eq]
/-- what the law's inner loop does with a gap -/
def autoGo (s : List UInt8) (to : Nat) : Nat → Nat → Bool → Option Bool
  | 0, _, cm => some cm
  | n + 1, i, cm => if cmS s to i cm = false ∧ spaceI (s[i]?.getD 0).toNat = false then none else autoGo s to n (i + 1) (cmS s to i cm)
theorem auto_run (s : List UInt8) (to : Nat) : ∀ (d m i : Nat), (∀ j, i ≤ j → j < i + d → s[j]?.getD 0 ≠ 10) → autoGo s to (m + d) i true = autoGo s to m (i + d) true
  | 0, m, i, _ => rfl
  | d + 1, m, i, h => by
    have hc : cmS s to i true = true := by
      have h1 := h i (Nat.le_refl _) (by omega)
      have h2 : ¬ (((s[i]?.getD 0).toNat : Int) = 10) := fun e => h1 (UInt8.toNat_inj.1 (by simp; omega))
      simp [cmS, h2]
    have e : m + (d + 1) = (m + d) + 1 := by omega
    rw [e, autoGo, hc, if_neg (by simp), auto_run s to d m (i + 1) (fun j h1 h2 => h j (by omega) (by omega))]
    congr 1; omega
theorem tw_get (p : UInt8 → Bool) : ∀ (r : List UInt8) (j : Nat), j < (r.takeWhile p).length → p (r[j]?.getD 0) = true
  | [], j, h => by simp at h
  | c :: r, j, h => by
    simp only [List.takeWhile_cons] at h
    split at h
    · rename_i hc
      cases j with
      | zero => simpa using hc
      | succ j => simpa using tw_get p r j (by simpa using h)
    · simp at h
theorem tw_end (p : UInt8 → Bool) : ∀ (r : List UInt8), (r.takeWhile p).length < r.length → p (r[(r.takeWhile p).length]?.getD 0) = false
  | [], h => by simp at h
  | c :: r, h => by
    simp only [List.takeWhile_cons] at h ⊢
    split
    · rename_i hc
      rw [hc] at h
      simp at h
      simpa using tw_end p r h
    · rename_i hc
      simpa using hc
theorem skip_cases {c : UInt8} {r : List UInt8} {n : Nat} (h : stp c r = .skip n) : (spaceB c = true ∧ n = 0) ∨ (comB c r ∧ n = (r.takeWhile lineB).length) := by
  unfold stp at h
  split at h
  · cases h; left; exact ⟨by assumption, rfl⟩
  · split at h
    · cases h; right; exact ⟨by assumption, rfl⟩
    · (repeat' split at h) <;> cases h
theorem auto_space {s : List UInt8} {i : Nat} {cm : Bool} (hsp : spaceB (s[i]?.getD 0) = true) (hcm : cm = true → s[i]?.getD 0 = 10) (to m : Nat) : autoGo s to (m + 1) i cm = autoGo s to m (i + 1) false := by
  have hc : cmS s to i cm = false := by
    rw [cmS_false]
    cases cm with
    | true => left; rw [hcm rfl]; rfl
    | false =>
      by_cases h10 : ((s[i]?.getD 0).toNat : Int) = 10
      · exact .inl h10
      · right
        refine ⟨rfl, .inl (.inl ?_)⟩
        simp only [spaceB, spaceI, decide_eq_true_eq] at hsp
        omega
  have h2 : spaceI (s[i]?.getD 0).toNat = true := hsp
  rw [autoGo, hc, if_neg (by simp [h2])]
theorem auto_com {s : List UInt8} {i n : Nat} (hlt : i < s.length) (hc : comB (s[i]?.getD 0) (s.drop (i + 1))) (hn : n = ((s.drop (i + 1)).takeWhile lineB).length) (to m : Nat) (hto : i + n + 1 ≤ to) : autoGo s to (m + n + 1) i false = autoGo s to m (i + 1 + n) true := by
  obtain ⟨h1, h2⟩ := hc
  have h2' : s[i + 1]?.getD 0 = 47 := by
    rw [List.head?_drop] at h2; simp [h2]
  have hn1 : 1 ≤ n := by
    cases hd : s.drop (i + 1) with
    | nil => rw [hd] at h2; simp at h2
    | cons x y =>
      rw [hd] at h2 hn
      have hx : x = 47 := by simpa using h2
      subst hx
      have : lineB 47 = true := by decide
      simp [List.takeWhile_cons, this] at hn
      omega
  have hcm : cmS s to i false = true := by
    unfold cmS
    rw [h1, h2']
    have : (i : Int) + 1 < to := by omega
    simp [this]
  have e : m + n + 1 = (m + n) + 1 := rfl
  rw [e, autoGo, hcm, if_neg (by simp), auto_run s to n m (i + 1)]
  intro j hj1 hj2 e10
  have := tw_get lineB (s.drop (i + 1)) (j - (i + 1)) (by omega)
  rw [List.getElem?_drop] at this
  have e3 : i + 1 + (j - (i + 1)) = j := by omega
  rw [e3, e10] at this
  revert this; decide
/-- from a place on, only white space and comments up to the next token, or to the end -/
theorem gap_law (s : List UInt8) : ∀ (N i : Nat) (cm : Bool) (l : List Tok), s.length - i ≤ N → i ≤ s.length → (cm = true → i = s.length ∨ s[i]?.getD 0 = 10) → lexR (s.drop i) i = .ok l →
    match l with
    | [] => ∃ cm', autoGo s s.length (s.length - i) i cm = some cm'
    | t :: l' => ∃ a c r k x m n, t = ⟨k, x, m, (a : Nat)⟩ ∧ i ≤ a ∧ a < s.length ∧ autoGo s a (a - i) i cm = some false ∧ s.drop a = c :: r ∧ stp c r = .tok k x m n ∧ lexR (s.drop (a + (n + 1))) (a + (n + 1)) = .ok l'
  | N, i, cm, l, hN, hi, hcm, h => by
    rcases Nat.lt_or_ge i s.length with hlt | hge
    · have hd : s.drop i = (s[i]?.getD 0) :: s.drop (i + 1) := drop_cons hlt
      cases N with
      | zero => omega
      | succ N =>
        rw [hd] at h
        cases hs : stp (s[i]?.getD 0) (s.drop (i + 1)) with
        | err => rw [lexR_err hs] at h; cases h
        | tok k x m n =>
          rw [lexR_tok hs] at h
          rw [List.drop_drop] at h
          cases hr : lexR (s.drop (i + 1 + n)) (i + n + 1) with
          | err e => rw [hr] at h; cases h
          | ok l' =>
            rw [hr] at h
            simp only [addT, Res.ok.injEq] at h
            subst h
            have hcf : cm = false := by
              cases cm with
              | false => rfl
              | true =>
                rcases hcm rfl with e | e
                · omega
                · rw [e] at hs
                  simp [stp, spaceB, spaceI] at hs
            refine ⟨i, _, _, k, x, m, n, rfl, Nat.le_refl _, hlt, ?_, hd, hs, ?_⟩
            · rw [Nat.sub_self, hcf]; rfl
            · have e : i + 1 + n = i + (n + 1) := by omega
              have e2 : i + n + 1 = i + (n + 1) := by omega
              rw [e, e2] at hr
              exact hr
        | skip n =>
          rw [lexR_skip hs, List.drop_drop] at h
          have e2 : i + n + 1 = i + 1 + n := by omega
          rw [e2] at h
          have hn : i + 1 + n ≤ s.length := by have := stp_skip hs; simp at this; omega
          rcases skip_cases hs with ⟨hsp, hn0⟩ | ⟨hc, hn0⟩
          · subst hn0
            have hst := auto_space (cm := cm) hsp (fun hc => (hcm hc).resolve_left (by omega))
            have ih := gap_law s N (i + 1) false l (by omega) (by omega) (by simp) h
            cases l with
            | nil =>
              obtain ⟨cm', ih⟩ := ih
              refine ⟨cm', ?_⟩
              have e : s.length - i = (s.length - (i + 1)) + 1 := by omega
              rw [e, hst]; exact ih
            | cons t l' =>
              obtain ⟨a, c, r, k, x, m, n, a1, a2, a3, a4, a5⟩ := ih
              refine ⟨a, c, r, k, x, m, n, a1, by omega, a3, ?_, a5⟩
              have e : a - i = (a - (i + 1)) + 1 := by omega
              rw [e, hst]; exact a4
          · have hcf : cm = false := by
              cases cm with
              | false => rfl
              | true =>
                have h10 := (hcm rfl).resolve_left (by omega)
                rw [hc.1] at h10; exact absurd h10 (by decide)
            subst hcf
            have hst := auto_com hlt hc hn0
            have ih := gap_law s N (i + 1 + n) true l (by omega) hn (fun _ => by
              rcases Nat.lt_or_ge (i + 1 + n) s.length with h1 | h1
              · right
                have := tw_end lineB (s.drop (i + 1)) (by rw [← hn0]; simp; omega)
                rw [← hn0, List.getElem?_drop] at this
                simpa [lineB] using this
              · left; omega) h
            cases l with
            | nil =>
              obtain ⟨cm', ih⟩ := ih
              refine ⟨cm', ?_⟩
              have e : s.length - i = (s.length - (i + 1 + n)) + n + 1 := by omega
              rw [e, hst _ _ (by omega)]; exact ih
            | cons t l' =>
              obtain ⟨a, c, r, k, x, m, n', a1, a2, a3, a4, a5⟩ := ih
              refine ⟨a, c, r, k, x, m, n', a1, by omega, a3, ?_, a5⟩
              have e : a - i = (a - (i + 1 + n)) + n + 1 := by omega
              rw [e, hst _ _ (by omega)]; exact a4
    · have hie : i = s.length := by omega
      subst hie
      rw [List.drop_length, lexR_nil'] at h
      cases h
      exact ⟨cm, by rw [Nat.sub_self]; rfl⟩
end Go.Lx
