/- Plain laws of the lexer: shifting, joining. No program. -/
import Derived.Test.YtlkpnkkgkjkmbaaDoorLx16
namespace Go.Lx
open Go Go.Ab
theorem tw_le_len (p : UInt8 → Bool) (r : List UInt8) : (r.takeWhile p).length ≤ r.length := (List.takeWhile_prefix p).length_le
theorem stp_skip {c : UInt8} {r : List UInt8} {n : Nat} (h : stp c r = .skip n) : n ≤ r.length := by
  unfold stp at h
  have := tw_le_len lineB r
  (repeat' split at h) <;> (first | (cases h; omega) | cases h)
theorem stp_tok {c : UInt8} {r : List UInt8} {k m : Int} {t : List UInt8} {n : Nat} (h : stp c r = .tok k t m n) : n ≤ r.length := by
  unfold stp at h
  have h1 := tw_le_len partB r
  have h2 := tw_le_len digitB r
  (repeat' split at h) <;> (first | (cases h; omega) | cases h)
theorem lexR_skip {c : UInt8} {r : List UInt8} {n off : Nat} (h : stp c r = .skip n) : lexR (c :: r) off = lexR (r.drop n) (off + n + 1) := by
  rw [lexR, h]
theorem lexR_tok {c : UInt8} {r : List UInt8} {k m : Int} {t : List UInt8} {n off : Nat} (h : stp c r = .tok k t m n) : lexR (c :: r) off = addT ⟨k, t, m, off⟩ (lexR (r.drop n) (off + n + 1)) := by
  rw [lexR, h]
theorem lexR_err {c : UInt8} {r : List UInt8} {off : Nat} (h : stp c r = .err) : lexR (c :: r) off = .err off := by
  rw [lexR, h]
theorem lexR_nil' (off : Nat) : lexR [] off = .ok [] := by rw [lexR]
/-- induction along the steps -/
theorem lex_ind {M : List UInt8 → Nat → Prop} (h0 : ∀ off, M [] off)
    (h1 : ∀ c r n off, stp c r = .skip n → n ≤ r.length → M (r.drop n) (off + n + 1) → M (c :: r) off)
    (h2 : ∀ c r k t m n off, stp c r = .tok k t m n → n ≤ r.length → M (r.drop n) (off + n + 1) → M (c :: r) off)
    (h3 : ∀ c r off, stp c r = .err → M (c :: r) off) : ∀ s off, M s off := by
  have key : ∀ N s off, s.length ≤ N → M s off := by
    intro N
    induction N with
    | zero =>
      intro s off h
      have : s = [] := List.length_eq_zero_iff.1 (by omega)
      subst this; exact h0 off
    | succ N ih =>
      intro s off h
      cases s with
      | nil => exact h0 off
      | cons c r =>
        simp at h
        have hd : ∀ n, (r.drop n).length ≤ N := fun n => by simp; omega
        cases hs : stp c r with
        | skip n => exact h1 c r n off hs (stp_skip hs) (ih _ _ (hd n))
        | tok k t m n => exact h2 c r k t m n off hs (stp_tok hs) (ih _ _ (hd n))
        | err => exact h3 c r off hs
  exact fun s off => key _ s off (Nat.le_refl _)
def shT (d : Nat) (t : Tok) : Tok := ⟨t.kind, t.text, t.n, t.at_ + d⟩
def shR (d : Nat) : Res → Res
  | .ok l => .ok (l.map (shT d))
  | .err e => .err (e + d)
theorem lexR_shift (d : Nat) : ∀ s off, lexR s (off + d) = shR d (lexR s off) := by
  apply lex_ind
  · intro off; simp [lexR_nil', shR]
  · intro c r n off h _ ih
    rw [lexR_skip h, lexR_skip h, ← ih]
    congr 1; omega
  · intro c r k t m n off h _ ih
    rw [lexR_tok h, lexR_tok h]
    have : off + d + n + 1 = off + n + 1 + d := by omega
    rw [this, ih]
    cases lexR (r.drop n) (off + n + 1) with
    | ok l => simp [shR, addT, shT]
    | err e => simp [shR, addT]
  · intro c r off h
    rw [lexR_err h, lexR_err h]; rfl
theorem takeWhile_stop (p : UInt8 → Bool) {z : UInt8} (hz : p z = false) : ∀ (r b : List UInt8), (r ++ z :: b).takeWhile p = r.takeWhile p
  | [], b => by simp [List.takeWhile, hz]
  | c :: r, b => by
    simp only [List.cons_append, List.takeWhile_cons, takeWhile_stop p hz r b]
theorem stp_nl (c : UInt8) (r b : List UInt8) : stp c (r ++ 10 :: b) = stp c r := by
  have h1 : (r ++ 10 :: b).takeWhile partB = r.takeWhile partB := takeWhile_stop _ (by decide) r b
  have h2 : (r ++ 10 :: b).takeWhile digitB = r.takeWhile digitB := takeWhile_stop _ (by decide) r b
  have h3 : (r ++ 10 :: b).takeWhile lineB = r.takeWhile lineB := takeWhile_stop _ (by decide) r b
  have h4 : ((r ++ 10 :: b).head? = some 47) = (r.head? = some 47) := by cases r <;> simp
  unfold stp
  rw [h1, h2, h3]
  simp only [h4]
theorem lexR_join (b : List UInt8) : ∀ a off, lexR (a ++ 10 :: b) off = match lexR a off with
    | .ok l => appT l (lexR b (off + a.length + 1))
    | .err e => .err e := by
  apply lex_ind
  · intro off
    have hs : stp 10 b = .skip 0 := by simp [stp, spaceB, spaceI]
    rw [lexR_nil', List.nil_append, lexR_skip hs]
    simp [appT_nil]
  · intro c r n off h hn ih
    rw [List.cons_append, lexR_skip h, lexR_skip ((stp_nl c r b).trans h)]
    rw [List.drop_append_of_le_length hn, ih]
    have : off + n + 1 + (r.drop n).length + 1 = off + (c :: r).length + 1 := by simp; omega
    rw [this]
  · intro c r k t m n off h hn ih
    rw [List.cons_append, lexR_tok h, lexR_tok ((stp_nl c r b).trans h)]
    rw [List.drop_append_of_le_length hn, ih]
    have : off + n + 1 + (r.drop n).length + 1 = off + (c :: r).length + 1 := by simp; omega
    rw [this]
    cases lexR (r.drop n) (off + n + 1) with
    | ok l => cases lexR b (off + (c :: r).length + 1) <;> simp [addT, appT]
    | err e => simp [addT]
  · intro c r off h
    rw [List.cons_append, lexR_err h, lexR_err ((stp_nl c r b).trans h)]
theorem takeWhile_lt (p : UInt8 → Bool) : ∀ (r x : List UInt8), (r.takeWhile p).length < r.length → (r ++ x).takeWhile p = r.takeWhile p
  | [], x, h => by simp at h
  | c :: r, x, h => by
    simp only [List.cons_append, List.takeWhile_cons] at h ⊢
    split
    · rename_i hc
      rw [hc] at h
      simp at h
      rw [takeWhile_lt p r x h]
    · rfl
theorem takeWhile_take' (p : UInt8 → Bool) : ∀ (r : List UInt8) (j : Nat), (r.takeWhile p).length ≤ j → (r.take j).takeWhile p = r.takeWhile p
  | [], j, _ => by simp
  | c :: r, 0, h => by
    simp only [List.takeWhile_cons] at h ⊢
    split at h
    · simp at h
    · rename_i hc; simp [hc]
  | c :: r, j + 1, h => by
    simp only [List.take_succ_cons, List.takeWhile_cons] at h ⊢
    split
    · rename_i hc
      rw [hc] at h
      simp at h
      rw [takeWhile_take' p r j h]
    · rfl
/-- a comment begins -/
def comB (c : UInt8) (r : List UInt8) : Prop := c = 47 ∧ r.head? = some 47
theorem stp_com {c : UInt8} {r : List UInt8} (h : comB c r) : stp c r = .skip (r.takeWhile lineB).length := by
  obtain ⟨rfl, h⟩ := h
  simp [stp, h, spaceB, spaceI]
theorem stp_sp {c : UInt8} {r more : List UInt8} (h : (r.takeWhile lineB).length < r.length ∨ ¬ comB c r) : stp c (r ++ 32 :: more) = stp c r := by
  have h1 : (r ++ 32 :: more).takeWhile partB = r.takeWhile partB := takeWhile_stop _ (by decide) r more
  have h2 : (r ++ 32 :: more).takeWhile digitB = r.takeWhile digitB := takeWhile_stop _ (by decide) r more
  have h4 : ((r ++ 32 :: more).head? = some 47) = (r.head? = some 47) := by cases r <;> simp
  unfold stp
  rw [h1, h2]
  simp only [h4]
  rcases h with h | h
  · rw [takeWhile_lt _ _ _ h]
  · have hf : ¬ (c = 47 ∧ r.head? = some 47) := h
    simp only [if_neg hf]
theorem lexR_more (more : List UInt8) : ∀ s off, ∀ e, lexR s off = .err e → lexR (s ++ 32 :: more) off = .err e := by
  apply lex_ind
  · intro off e h; rw [lexR_nil'] at h; cases h
  · intro c r n off h hn ih e he
    rw [lexR_skip h] at he
    have hs : stp c (r ++ 32 :: more) = .skip n := by
      rw [← h]
      apply stp_sp
      by_cases hc : comB c r
      · left
        rw [stp_com hc] at h
        cases h
        rcases Nat.lt_or_ge (r.takeWhile lineB).length r.length with h1 | h1
        · exact h1
        · rw [List.drop_of_length_le h1, lexR_nil'] at he; cases he
      · exact .inr hc
    rw [List.cons_append, lexR_skip hs, List.drop_append_of_le_length hn]
    exact ih e he
  · intro c r k t m n off h hn ih e he
    rw [lexR_tok h] at he
    have hs : stp c (r ++ 32 :: more) = .tok k t m n := by
      rw [← h]
      exact stp_sp (.inr fun hc => by rw [stp_com hc] at h; cases h)
    rw [List.cons_append, lexR_tok hs, List.drop_append_of_le_length hn]
    cases hr : lexR (r.drop n) (off + n + 1) with
    | ok l => rw [hr] at he; cases he
    | err e' =>
      rw [hr] at he
      rw [ih e' hr]; exact he
  · intro c r off h e he
    rw [lexR_err h] at he
    have hs : stp c (r ++ 32 :: more) = .err := by
      rw [← h]
      exact stp_sp (.inr fun hc => by rw [stp_com hc] at h; cases h)
    rw [List.cons_append, lexR_err hs]; exact he
theorem stp_cut {c : UInt8} {r : List UInt8} {j n : Nat} (hn : n ≤ j) (h : stp c r = .skip n ∨ ∃ k t m, stp c r = .tok k t m n) : stp c (r.take j) = stp c r := by
  have hh : ¬ comB c r → ¬ (c = 47 ∧ (r.take j).head? = some 47) := fun hc ⟨e1, e2⟩ => hc ⟨e1, by
    cases r with
    | nil => simp at e2
    | cons a r => cases j with
      | zero => simp at e2
      | succ j => simpa using e2⟩
  by_cases hc : comB c r
  · have hs := stp_com hc
    have hn' : (r.takeWhile lineB).length = n := by
      rcases h with h | ⟨_, _, _, h⟩
      · rw [hs] at h; cases h; rfl
      · rw [hs] at h; cases h
    have hc' : comB c (r.take j) := by
      refine ⟨hc.1, ?_⟩
      cases r with
      | nil => simpa using hc.2
      | cons a r =>
        have ha : a = 47 := by simpa using hc.2
        subst ha
        have : lineB 47 = true := by decide
        simp [List.takeWhile_cons, this] at hn'
        cases j with
        | zero => omega
        | succ j => simp
    rw [hs, stp_com hc', takeWhile_take' _ _ _ (by omega)]
  · have hf : ¬ (c = 47 ∧ r.head? = some 47) := hc
    unfold stp at h ⊢
    rw [if_neg (hh hc)]
    rw [if_neg hf] at h ⊢
    split
    · rfl
    · rename_i h1
      rw [if_neg h1] at h
      split
      · rename_i h2
        rw [if_pos h2] at h
        split at h
        · simp at h
          obtain ⟨_, _, _, _, _, _, h⟩ := h
          rw [takeWhile_take' _ _ _ (by omega)]
        · simp at h
      · rename_i h2
        rw [if_neg h2] at h
        split
        · rename_i h3
          rw [if_pos h3] at h
          split at h
          · simp at h
            obtain ⟨_, _, _, _, _, _, h⟩ := h
            rename_i h4
            rw [takeWhile_take' _ _ _ (by omega), h4]
          · simp at h
        · rfl
theorem lexR_wrong : ∀ s off, ∀ e, lexR s off = .err e → off ≤ e ∧ e - off < s.length ∧ (∃ l, lexR (s.take (e - off)) off = .ok l) ∧ ∀ o, lexR (s.drop (e - off)) o = .err o := by
  apply lex_ind
  · intro off e h; rw [lexR_nil'] at h; cases h
  · intro c r n off h hn ih e he
    rw [lexR_skip h] at he
    obtain ⟨h1, h2, ⟨l, h3⟩, h4⟩ := ih e he
    obtain ⟨m, hm⟩ : ∃ m, e = off + n + 1 + m := ⟨e - (off + n + 1), by omega⟩
    subst hm
    have e1 : off + n + 1 + m - off = m + n + 1 := by omega
    have e2 : off + n + 1 + m - (off + n + 1) = m := by omega
    rw [e2] at h2 h3 h4
    rw [e1]
    simp at h2
    refine ⟨by omega, by simp; omega, ⟨l, ?_⟩, fun o => ?_⟩
    · rw [List.take_succ_cons, lexR_skip ((stp_cut (by omega) (.inl h)).trans h), List.drop_take]
      simpa using h3
    · rw [List.drop_succ_cons, Nat.add_comm, ← List.drop_drop]; exact h4 o
  · intro c r k t m' n off h hn ih e he
    rw [lexR_tok h] at he
    cases hr : lexR (r.drop n) (off + n + 1) with
    | ok l => rw [hr] at he; cases he
    | err e' =>
      rw [hr] at he
      obtain rfl : e' = e := by simpa [addT] using he
      obtain ⟨h1, h2, ⟨l, h3⟩, h4⟩ := ih e' hr
      obtain ⟨m, hm⟩ : ∃ m, e' = off + n + 1 + m := ⟨e' - (off + n + 1), by omega⟩
      subst hm
      have e1 : off + n + 1 + m - off = m + n + 1 := by omega
      have e2 : off + n + 1 + m - (off + n + 1) = m := by omega
      rw [e2] at h2 h3 h4
      rw [e1]
      simp at h2
      refine ⟨by omega, by simp; omega, ⟨⟨k, t, m', off⟩ :: l, ?_⟩, fun o => ?_⟩
      · rw [List.take_succ_cons, lexR_tok ((stp_cut (by omega) (.inr ⟨_, _, _, h⟩)).trans h), List.drop_take]
        have : m + n - n = m := by omega
        rw [this, h3]; rfl
      · rw [List.drop_succ_cons, Nat.add_comm, ← List.drop_drop]; exact h4 o
  · intro c r off h e he
    rw [lexR_err h] at he
    cases he
    refine ⟨Nat.le_refl _, by simp, ⟨[], by simp [lexR_nil']⟩, fun o => ?_⟩
    simp only [Nat.sub_self, List.drop_zero]
    exact lexR_err h
end Go.Lx
