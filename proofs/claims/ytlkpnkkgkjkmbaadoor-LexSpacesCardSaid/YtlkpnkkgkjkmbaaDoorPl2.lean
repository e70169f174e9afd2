/- Plain laws of the lexer: words, numbers, what is printed is read again. No program. -/
import Derived.Test.YtlkpnkkgkjkmbaaDoorLx17
namespace Go.Lx
open Go Go.Ab
theorem digit_nat {c : UInt8} (h : digitB c = true) : 48 ≤ c.toNat ∧ c.toNat ≤ 57 := by
  simp only [digitB, digitI, decide_eq_true_eq] at h; omega
theorem digB_of {c : UInt8} {m : Nat} (h : digitB c = true) (hm : m % 10 = c.toNat - 48) : digB m = c := by
  have := digit_nat h
  apply UInt8.toNat_inj.1
  rw [digB_nat]; omega
theorem numGo_dig : ∀ (t : List UInt8) (m : Nat) (n : Int), (∀ c ∈ t, digitB c = true) → 0 < m → m ≤ 1099511627776 → numGo m t = some n → ∃ N : Nat, n = N ∧ N ≤ 1099511627776 ∧ Lib.decDigits N = Lib.decDigits m ++ t
  | [], m, n, _, _, h1, h => by
    simp only [numGo, Option.some.injEq] at h
    exact ⟨m, h.symm, h1, by simp⟩
  | c :: r, m, n, hd, h0, h1, h => by
    have hc := digit_nat (hd c (by simp))
    rw [numGo] at h
    split at h
    · cases h
    · rename_i hle
      have e : (10 * (m : Int) + ((c.toNat : Int) - 48)) = ((10 * m + (c.toNat - 48) : Nat) : Int) := by omega
      rw [e] at h hle
      obtain ⟨N, n1, n2, n3⟩ := numGo_dig r (10 * m + (c.toNat - 48)) n (fun x hx => hd x (by simp [hx])) (by omega) (by omega) h
      refine ⟨N, n1, n2, ?_⟩
      rw [n3, decDigits_eq (10 * m + (c.toNat - 48)), if_neg (by omega), digB_of (hd c (by simp)) (by omega)]
      have : (10 * m + (c.toNat - 48)) / 10 = m := by omega
      rw [this]; simp
theorem numOf_dig {c : UInt8} {r : List UInt8} {n : Int} (hc : digitB c = true) (hr : ∀ x ∈ r, digitB x = true) (h : numOf (c :: r) = some n) : 0 ≤ n ∧ n ≤ 1099511627776 ∧ Lib.itoa n = c :: r := by
  have hb := digit_nat hc
  unfold numOf at h
  split at h
  · cases h
  · rename_i n' hg
    split at h
    · rename_i hz
      simp only [Option.some.injEq] at h
      subst h
      rw [numGo] at hg
      split at hg
      · cases hg
      · have e : (10 * (0 : Int) + ((c.toNat : Int) - 48)) = ((c.toNat - 48 : Nat) : Int) := by omega
        rw [e] at hg
        by_cases h48 : c.toNat = 48
        · have hc48 : c = 48 := UInt8.toNat_inj.1 h48
          subst hc48
          simp at hz
          subst hz
          simp [numGo] at hg
          subst hg
          refine ⟨by simp, by simp, ?_⟩
          have := itoa_nat 0
          rw [decDigits_eq] at this
          exact this
        · obtain ⟨N, n1, n2, n3⟩ := numGo_dig r (c.toNat - 48) n' hr (by omega) (by omega) hg
          subst n1
          refine ⟨by omega, by omega, ?_⟩
          rw [itoa_nat, n3, decDigits_eq (c.toNat - 48), if_pos (by omega), digB_of hc (by omega)]; simp
    · cases h
theorem numGo_append : ∀ (s t : List UInt8) (m : Int), numGo m (s ++ t) = (numGo m s).bind fun k => numGo k t
  | [], t, m => rfl
  | c :: r, t, m => by
    simp only [List.cons_append, numGo]
    split
    · rfl
    · exact numGo_append r t _
theorem numGo_dec : ∀ N : Nat, N ≤ 1099511627776 → numGo 0 (Lib.decDigits N) = some (N : Int) := by
  intro N
  induction N using Nat.strongRecOn with
  | ind N ih =>
    intro h
    have hd := digB_nat N
    rw [decDigits_eq, numGo_append]
    by_cases h10 : N < 10
    · rw [if_pos h10]
      simp only [numGo, Option.bind_some, hd]
      rw [if_neg (by omega)]
      congr 1; omega
    · rw [if_neg h10, ih (N / 10) (by omega) (by omega)]
      simp only [numGo, Option.bind_some, hd]
      rw [if_neg (by omega)]
      congr 1; omega
theorem dec_digit : ∀ N : Nat, ∀ c ∈ Lib.decDigits N, digitB c = true := by
  intro N
  induction N using Nat.strongRecOn with
  | ind N ih =>
    intro c hc
    rw [decDigits_eq] at hc
    rcases List.mem_append.1 hc with hc | hc
    · split at hc
      · cases hc
      · exact ih (N / 10) (by omega) c hc
    · rw [List.mem_singleton.1 hc]
      have := digB_nat N
      simp only [digitB, digitI, decide_eq_true_eq]; omega
theorem dec_head : ∀ N : Nat, 0 < N → (Lib.decDigits N).headD 0 ≠ 48 := by
  intro N
  induction N using Nat.strongRecOn with
  | ind N ih =>
    intro h
    rw [decDigits_eq]
    split
    · simp
      intro e
      have := digB_nat N
      rw [e] at this
      have h48 : (48 : UInt8).toNat = 48 := rfl
      omega
    · have := ih (N / 10) (by omega) (by omega)
      have hne := (decDigits_len (N / 10)).2
      cases hx : Lib.decDigits (N / 10) with
      | nil => exact (hne hx).elim
      | cons c r => rw [hx] at this; simpa using this
theorem numOf_dec (N : Nat) (h : N ≤ 1099511627776) : numOf (Lib.decDigits N) = some (N : Int) := by
  unfold numOf
  rw [numGo_dec N h]
  simp only
  rw [if_pos]
  by_cases h0 : N = 0
  · subst h0; left; rw [decDigits_eq]; rfl
  · right; exact dec_head N (by omega)
theorem sign_not {c : UInt8} (h : signB c = true) : spaceB c = false ∧ letterB c = false ∧ digitB c = false := by
  simp only [signB, signI, signs, List.any_cons, List.any_nil, Bool.or_false, Bool.or_eq_true, decide_eq_true_eq] at h
  simp only [spaceB, spaceI, letterB, letterI, digitB, digitI, decide_eq_false_iff_not]
  have e : ∀ n : Nat, n < 256 → (UInt8.ofNat n).toNat = n := fun n hn => by simp [UInt8.toNat_ofNat']; omega
  refine ⟨?_, ?_, ?_⟩ <;> intro hx <;> (rcases h with h | h | h | h | h | h | h | h | h | h | h | h | h | h | h) <;> (simp at h; omega)
/-- a valid token's word is read as the token -/
theorem word_stp {t : Tok} (h : validB t = true) : ∃ c r, wordT t = c :: r ∧ stp c r = .tok t.kind t.text t.n r.length ∧ ¬ comB c r := by
  obtain ⟨k, s, n, i⟩ := t
  unfold validB at h
  simp only at h
  split at h
  · rename_i hk
    subst hk
    simp at h
    obtain ⟨h1, rfl⟩ := h
    obtain ⟨c, r, rfl, h2, h3, h4⟩ := nameB_iff.1 h1
    refine ⟨c, r, by simp [wordT], stp_name h2 h3 h4, ?_⟩
    rintro ⟨rfl, _⟩; revert h2; decide
  · split at h
    · rename_i hk
      subst hk
      simp at h
      obtain ⟨⟨rfl, h0⟩, h1⟩ := h
      obtain ⟨N, rfl⟩ := Int.eq_ofNat_of_zero_le h0
      have hN := numOf_dec N (by omega)
      have hD := dec_digit N
      simp only [wordT, if_true, itoa_nat]
      cases hx : Lib.decDigits N with
      | nil => exact ((decDigits_len N).2 hx).elim
      | cons c r =>
        rw [hx] at hN hD
        have hc := hD c (by simp)
        have hb := digit_nat hc
        have hnc : ¬ comB c r := by rintro ⟨rfl, _⟩; revert hc; decide
        refine ⟨c, r, rfl, ?_, hnc⟩
        have h2 : spaceB c = false := by simp only [spaceB, spaceI, decide_eq_false_iff_not]; omega
        have h3 : letterB c = false := by simp only [letterB, letterI, decide_eq_false_iff_not]; omega
        have hf : ¬ (c = 47 ∧ r.head? = some 47) := hnc
        have h4 : r.takeWhile digitB = r := takeWhile_all (fun x hx => hD x (by simp [hx]))
        unfold stp
        rw [h2, if_neg (by simp), if_neg hf, h3, if_neg (by simp), if_pos hc, h4, hN]
    · split at h
      · rename_i hk
        subst hk
        simp at h
        obtain ⟨⟨h1, h2⟩, rfl⟩ := h
        match s, h1 with
        | [c], _ =>
          simp at h2
          obtain ⟨s1, s2, s3⟩ := sign_not h2
          refine ⟨c, [], by simp [wordT], ?_, by rintro ⟨_, h⟩; simp at h⟩
          unfold stp
          simp [s1, s2, s3, h2]
      · cases h
/-- what is printed is read again -/
theorem lexR_joinW : ∀ (l : List Tok) (off : Nat), (∀ t ∈ l, validB t = true) → ∃ m, lexR (joinW l) off = .ok m ∧ sameB l m = true
  | [], off, _ => ⟨[], by simp [joinW, lexR_nil'], rfl⟩
  | [t], off, h => by
    obtain ⟨c, r, e1, e2, _⟩ := word_stp (h t (by simp))
    refine ⟨[⟨t.kind, t.text, t.n, off⟩], ?_, by simp [sameB, sameT]⟩
    simp only [joinW]
    rw [e1, lexR_tok e2]
    simp [lexR_nil', addT]
  | t :: u :: l, off, h => by
    obtain ⟨c, r, e1, e2, e3⟩ := word_stp (h t (by simp))
    obtain ⟨m, m1, m2⟩ := lexR_joinW (u :: l) (off + r.length + 1 + 1) (fun x hx => h x (by simp [hx]))
    refine ⟨⟨t.kind, t.text, t.n, off⟩ :: m, ?_, ?_⟩
    · have hs : stp 32 (joinW (u :: l)) = .skip 0 := by simp [stp, spaceB, spaceI]
      have hj : joinW (t :: u :: l) = wordT t ++ 32 :: joinW (u :: l) := rfl
      rw [hj, e1, List.cons_append, lexR_tok ((stp_sp (.inr e3)).trans e2)]
      simp only [List.drop_left]
      rw [lexR_skip hs]
      simp only [List.drop_zero, Nat.add_zero]
      rw [m1]; rfl
    · rw [sameB, m2]; simp [sameT]
theorem tok_valid {c : UInt8} {r t : List UInt8} {k m : Int} {n : Nat} (h : stp c r = .tok k t m n) (i : Int) : validB ⟨k, t, m, i⟩ = true ∧ wordT ⟨k, t, m, i⟩ = (c :: r).take (n + 1) := by
  unfold stp at h
  split at h
  · cases h
  · split at h
    · cases h
    · split at h
      · rename_i hc
        split at h
        · rename_i hl
          cases h
          refine ⟨?_, ?_⟩
          · have hN : nameB (c :: r.takeWhile partB) = true := nameB_iff.2 ⟨c, _, rfl, hc, fun x hx => mem_takeWhile hx, hl⟩
            simp [validB, hN]
          · simp [wordT]; exact takeWhile_take partB r
        · cases h
      · split at h
        · rename_i hc
          split at h
          · rename_i n' hn
            cases h
            obtain ⟨a1, a2, a3⟩ := numOf_dig hc (fun x hx => mem_takeWhile hx) hn
            refine ⟨by simp [validB, a1, a2], ?_⟩
            simp [wordT, a3]; exact takeWhile_take digitB r
          · cases h
        · split at h
          · rename_i hc
            cases h
            exact ⟨by simp [validB, hc], by simp [wordT]⟩
          · cases h
theorem joinW_cons_le (t : Tok) (l : List Tok) : (joinW (t :: l)).length ≤ (wordT t).length + 1 + (joinW l).length := by
  cases l with
  | nil => simp [joinW]
  | cons u l => simp only [joinW, List.length_append, List.length_cons]; omega
theorem lexR_valid : ∀ s off, ∀ l, lexR s off = .ok l → (∀ t ∈ l, validB t = true) ∧ (joinW l).length ≤ 2 * s.length := by
  apply lex_ind
  · intro off l h; rw [lexR_nil'] at h; cases h; simp [joinW]
  · intro c r n off h hn ih l hl
    rw [lexR_skip h] at hl
    obtain ⟨a, b⟩ := ih l hl
    refine ⟨a, ?_⟩
    simp at b ⊢; omega
  · intro c r k t m n off h hn ih l hl
    rw [lexR_tok h] at hl
    cases hr : lexR (r.drop n) (off + n + 1) with
    | err e => rw [hr] at hl; cases hl
    | ok l' =>
      rw [hr] at hl
      simp only [addT, Res.ok.injEq] at hl
      subst hl
      obtain ⟨a, b⟩ := ih l' hr
      obtain ⟨v1, v2⟩ := tok_valid h off
      refine ⟨fun u hu => ?_, ?_⟩
      · rcases List.mem_cons.1 hu with rfl | hu
        · exact v1
        · exact a u hu
      · have := joinW_cons_le ⟨k, t, m, off⟩ l'
        rw [v2] at this
        simp at this b ⊢; omega
  · intro c r off h l hl; rw [lexR_err h] at hl; cases hl
end Go.Lx
