/- The laws LexWrong and LexNames as calls. Condition: the program is the seat's; the powers of ten are laid. -/
import Derived.Test.YtlkpnkkgkjkmbaaDoorPl1
namespace Go.Lx
open Go Go.Ab
theorem lexV_ok {s : List UInt8} {l : List Tok} (hs : s.length ≤ 65536) (h : lexR s 0 = .ok l) : lexA s = toks l ∧ lexL s = l ∧ lexI s = 0 ∧ lexE s = 0 := by
  unfold lexA lexL lexI lexE
  rw [if_neg (by omega), if_neg (by omega), if_neg (by omega), if_neg (by omega), h]
  exact ⟨rfl, rfl, rfl, rfl⟩
theorem lexV_err {s : List UInt8} {e : Nat} (hs : s.length ≤ 65536) (h : lexR s 0 = .err e) : lexA s = .nils ∧ lexL s = [] ∧ lexI s = e ∧ lexE s = 90 := by
  unfold lexA lexL lexI lexE
  rw [if_neg (by omega), if_neg (by omega), if_neg (by omega), if_neg (by omega), h]
  exact ⟨rfl, rfl, rfl, rfl⟩
theorem at_ge : ∀ s off, ∀ l, lexR s off = .ok l → ∀ t ∈ l, (off : Int) ≤ t.at_ := by
  apply lex_ind
  · intro off l h t ht; rw [lexR_nil'] at h; cases h; cases ht
  · intro c r n off h hn ih l hl t ht
    rw [lexR_skip h] at hl
    have := ih l hl t ht
    omega
  · intro c r k t m n off h hn ih l hl u hu
    rw [lexR_tok h] at hl
    cases hr : lexR (r.drop n) (off + n + 1) with
    | err e => rw [hr] at hl; cases hl
    | ok l' =>
      rw [hr] at hl
      simp only [addT, Res.ok.injEq] at hl
      subst hl
      rcases List.mem_cons.1 hu with rfl | hu
      · exact Int.le_refl _
      · have := ih l' hr u hu
        omega
  · intro c r off h l hl; rw [lexR_err h] at hl; cases hl
theorem takeWhile_all {p : UInt8 → Bool} : ∀ {r : List UInt8}, (∀ x ∈ r, p x = true) → r.takeWhile p = r
  | [], _ => rfl
  | c :: r, h => by
    rw [List.takeWhile_cons, if_pos (h c (by simp)), takeWhile_all (fun x hx => h x (by simp [hx]))]
theorem textE_name (s : List UInt8) : textE [⟨1, s, 0, 0⟩] = if nameB s then 0 else 90 := by
  simp [textE, validB]
theorem stp_name {c : UInt8} {r : List UInt8} (hc : letterB c = true) (hr : ∀ x ∈ r, partB x = true) (hl : r.length + 1 ≤ 32) : stp c r = .tok 1 (c :: r) 0 r.length := by
  have h1 : r.takeWhile partB = r := by
    exact takeWhile_all hr
  have h2 : spaceB c = false := by
    simp only [letterB, spaceB, letterI, spaceI, decide_eq_true_eq, decide_eq_false_iff_not] at hc ⊢; omega
  have h3 : ¬ (c = 47 ∧ r.head? = some 47) := by
    rintro ⟨rfl, _⟩; revert hc; decide
  unfold stp
  rw [h2, if_neg (by simp), if_neg h3, if_pos hc, h1, if_pos hl]
theorem stp_kind1 {c : UInt8} {r t : List UInt8} {m : Int} {n : Nat} (h : stp c r = .tok 1 t m n) : t = c :: r.takeWhile partB ∧ letterB c = true ∧ (r.takeWhile partB).length + 1 ≤ 32 := by
  unfold stp at h
  (repeat' split at h) <;> (first | (cases h; done) | skip)
  all_goals (cases h; exact ⟨rfl, by assumption, by assumption⟩)
theorem mem_takeWhile {p : UInt8 → Bool} : ∀ {r : List UInt8} {x : UInt8}, x ∈ r.takeWhile p → p x = true
  | [], x, h => by simp at h
  | c :: r, x, h => by
    simp only [List.takeWhile_cons] at h
    split at h
    · rcases List.mem_cons.1 h with rfl | h
      · assumption
      · exact mem_takeWhile h
    · cases h
theorem nameB_iff {s : List UInt8} : nameB s = true ↔ ∃ c r, s = c :: r ∧ letterB c = true ∧ (∀ x ∈ r, partB x = true) ∧ r.length + 1 ≤ 32 := by
  cases s with
  | nil => simp [nameB]
  | cons c r =>
    have hp : letterB c = true → partB c = true := by
      intro h; simp only [letterB, partB, partI] at h ⊢; simp [h]
    simp only [nameB, List.length_cons, List.getD_cons_zero, Bool.and_eq_true, decide_eq_true_eq, List.all_cons, List.all_eq_true, List.cons.injEq, letterB] at *
    constructor
    · rintro ⟨⟨⟨_, h1⟩, h2⟩, h3, h4⟩
      exact ⟨c, r, ⟨rfl, rfl⟩, h2, h4, h1⟩
    · rintro ⟨c', r', ⟨rfl, rfl⟩, h2, h4, h1⟩
      exact ⟨⟨⟨by omega, h1⟩, h2⟩, hp h2, h4⟩
theorem name_lex {s : List UInt8} (h : nameB s = true) : lexR s 0 = .ok [⟨1, s, 0, 0⟩] := by
  obtain ⟨c, r, rfl, h1, h2, h3⟩ := nameB_iff.1 h
  rw [lexR_tok (stp_name h1 h2 h3)]
  simp [lexR_nil', addT]
theorem lex_name {s : List UInt8} {l : List Tok} {t : Tok} (h : lexR s 0 = .ok (t :: l)) (hk : t.kind = 1) (ht : t.text = s) (ha : t.at_ = 0) : nameB s = true := by
  cases s with
  | nil => rw [lexR_nil'] at h; cases h
  | cons c r =>
    cases hs : stp c r with
    | skip n =>
      rw [lexR_skip hs] at h
      have := at_ge _ _ _ h t (by simp)
      omega
    | tok k x m n =>
      rw [lexR_tok hs] at h
      cases hr : lexR (r.drop n) (0 + n + 1) with
      | err e => rw [hr] at h; cases h
      | ok l' =>
        rw [hr] at h
        simp only [addT, Res.ok.injEq, List.cons.injEq] at h
        obtain ⟨rfl, _⟩ := h
        simp only at hk ht
        subst hk
        obtain ⟨h1, h2, h3⟩ := stp_kind1 hs
        rw [ht] at h1
        have h4 : r = r.takeWhile partB := by simpa using h1
        refine nameB_iff.2 ⟨c, r, rfl, h2, fun x hx => ?_, by rw [h4]; exact h3⟩
        rw [h4] at hx
        exact mem_takeWhile hx
    | err => rw [lexR_err hs] at h; cases h
end Go.Lx
namespace Go.Proofs.YtlkpnkkgkjkmbaaDoor
open Go Go.Ab Go.Lx
set_option maxRecDepth 100000
section
variable {P : Prg} (hP : P.p = Tryd.prog) (hG : Lx.Pow P)
include hP hG
theorem p_LexWrong (s m : List UInt8) (hs : s.length ≤ 4611686018427387903) (hm : m.length ≤ 4611686018427387903) {ob : Objs} {K : V → Prop} (h : K (.d (.bool true))) : PCall P 9 [.d (.str s), .d (.str m)] ob K := by
  refine pcall_lift hP mixed (ds := [.str s, .str m]) ok9 lf9 TOk.nil ?_
  have hw : IntKind.i64.wrap ((s.length : Int) + m.length) = (s.length : Int) + m.length := IntWalk.i64_in _ (by omega)
  simp [lt9, hw]
  refine c_sane hP hG ?_
  simp
  refine ⟨fun _ => h, fun hsm => ?_⟩
  refine c_Lex hP s ?_
  rw [lexV_eq]
  cases hr : lexR s 0 with
  | ok l =>
    obtain ⟨_, _, e3, e4⟩ := lexV_ok (by omega) hr
    rw [e3, e4]
    simpa using h
  | err e =>
    obtain ⟨_, _, e3, e4⟩ := lexV_err (by omega) hr
    obtain ⟨_, w2, ⟨l, w3⟩, w4⟩ := lexR_wrong s 0 e hr
    simp only [Nat.sub_zero] at w2 w3 w4
    rw [e3, e4]
    simp
    refine ⟨fun hb => by omega, fun _ => ⟨by omega, ?_⟩⟩
    obtain ⟨_, _, a3, a4⟩ := lexV_ok (by simp; omega) w3
    refine c_Lex hP _ ?_
    rw [lexV_eq, a3, a4]
    simp
    refine ⟨⟨by omega, by omega⟩, ?_⟩
    obtain ⟨_, _, b3, b4⟩ := lexV_err (s := s ++ 32 :: m) (by simp; omega) (lexR_more m s 0 e hr)
    refine c_Lex hP _ ?_
    rw [lexV_eq, b3, b4]
    simp
    refine ⟨by omega, ?_⟩
    obtain ⟨_, _, d3, d4⟩ := lexV_err (s := s.drop e) (by simp; omega) (w4 0)
    refine c_Lex hP _ ?_
    rw [lexV_eq, d3, d4]
    simpa using h
theorem p_LexNames (s : List UInt8) {ob : Objs} {K : V → Prop} (h : K (.d (.bool true))) : PCall P 10 [.d (.str s)] ob K := by
  refine pcall_lift hP mixed (ds := [.str s]) ok10 lf10 (TOk.cons (c_Name hP) TOk.nil) ?_
  simp [lt10]
  refine c_sane hP hG ?_
  simp
  refine ⟨fun _ => h, fun hs => ?_⟩
  refine c_Lex hP s ?_
  rw [lexV_eq]
  have hs' : s.length ≤ 1000 := by omega
  cases hr : lexR s 0 with
  | err e =>
    obtain ⟨e1, _, e3, e4⟩ := lexV_err (by omega) hr
    have hN : nameB s = false := by
      cases hn : nameB s with
      | false => rfl
      | true => rw [name_lex hn] at hr; cases hr
    rw [e1, e3, e4]
    simp
    refine c_Text hP hG (TD.lit _ [⟨1, s, 0, 0⟩] rfl) (by simp) ?_
    rw [textV_eq, textE_name, hN]
    simpa using h
  | ok l =>
    obtain ⟨e1, _, e3, e4⟩ := lexV_ok (by omega) hr
    rw [e1, e3, e4]
    have hl := lexR_len _ s 0 l (Nat.le_refl _) hr
    match l, hr with
    | [t], hr =>
      have hN : nameB s = (decide (t.kind = 1) && decide (t.text = s) && decide (t.at_ = 0) && t.n == 0) := by
        cases hn : nameB s with
        | true =>
          rw [name_lex hn] at hr
          cases hr
          simp
        | false =>
          symm
          rw [Bool.eq_false_iff]
          intro hb
          simp at hb
          rw [lex_name hr hb.1.1.1 hb.1.1.2 hb.1.2] at hn; cases hn
      simp [toks, Tok.enc]
      refine c_Text hP hG (TD.lit _ [⟨1, s, 0, 0⟩] rfl) (by simp) ?_
      rw [textV_eq, textE_name]
      simp
      rw [← hN]
      cases nameB s <;> simpa using h
    | [], hr =>
      have hN : nameB s = false := by
        cases hn : nameB s with
        | false => rfl
        | true => rw [name_lex hn] at hr; cases hr
      simp [toks]
      refine c_Text hP hG (TD.lit _ [⟨1, s, 0, 0⟩] rfl) (by simp) ?_
      rw [textV_eq, textE_name, hN]
      simpa using h
    | t :: u :: l, hr =>
      have hN : nameB s = false := by
        cases hn : nameB s with
        | false => rfl
        | true => rw [name_lex hn] at hr; cases hr
      have h1 : ((l.length : Int) + 1 + 1 == 1) = false := by rw [beq_eq_false_iff_ne]; omega
      have h2 : ¬ ((l.length : Int) + 1 + 1 = 1) := by omega
      simp [toks, h1, h2]
      refine c_Text hP hG (TD.lit _ [⟨1, s, 0, 0⟩] rfl) (by simp) ?_
      rw [textV_eq, textE_name, hN]
      simpa using h
end
end Go.Proofs.YtlkpnkkgkjkmbaaDoor
