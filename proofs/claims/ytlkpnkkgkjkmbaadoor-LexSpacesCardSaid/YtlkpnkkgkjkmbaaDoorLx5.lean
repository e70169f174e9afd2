/- Contracts: Lex of the document. Condition: the program is the seat's. -/
import Derived.Test.YtlkpnkkgkjkmbaaDoorLx4
namespace Go.Lx
open Go Go.Ab
theorem wrap1 {i n : Nat} (h : i < n) (hn : n ≤ 1000000) : IntKind.i64.wrap ((i : Int) + 1) = (i : Int) + 1 := IntWalk.i64_in _ (by omega)
theorem nameB_run {c : UInt8} {r : List UInt8} (hc : letterB c = true) : nameB (c :: r.takeWhile partB) = decide ((r.takeWhile partB).length + 1 ≤ 32) := by
  have hp : ∀ x ∈ r.takeWhile partB, partI x.toNat = true := fun x hx => mem_tw hx
  have hcp : partI c.toNat = true := by simp only [letterB] at hc; simp [partI, hc]
  have h3 : ((c :: r.takeWhile partB).all fun c => partI c.toNat) = true := by
    rw [List.all_eq_true]; intro x hx
    rcases List.mem_cons.mp hx with rfl | hx
    · exact hcp
    · exact hp x hx
  have h2 : letterI ((c :: r.takeWhile partB).getD 0 0).toNat = true := hc
  simp only [nameB, h3, h2, Bool.and_true, List.length_cons]
  simp
theorem numV_run (t : List UInt8) (h : t ≠ []) : numV t = match numOf t with
    | some n => .tup [.d (.int .i64 n), .d (.bool true)]
    | none => match numGo 0 t with
      | some n => .tup [.d (.int .i64 n), .d (.bool false)]
      | none => .tup [.d (.int .i64 0), .d (.bool false)] := by
  cases t with
  | nil => exact absurd rfl h
  | cons c r =>
    unfold numV numOf
    cases hg : numGo 0 (c :: r) with
    | none => rfl
    | some n =>
      by_cases hc : (c :: r).length = 1 ∨ (c :: r).headD 0 ≠ 48
      · simp only [hc, if_true]
        have : (decide ((c :: r).length = 1) || !decide (((c :: r).getD 0 0).toNat = 48)) = true := by
          rcases hc with hc | hc
          · simp only [hc]; simp
          · simp only [List.headD_cons] at hc
            have : c.toNat ≠ 48 := fun e => hc (by rw [← UInt8.ofNat_toNat (x := c), e]; rfl)
            simp [this]
        rw [this]
      · simp only [hc, if_false]
        have : (decide ((c :: r).length = 1) || !decide (((c :: r).getD 0 0).toNat = 48)) = false := by
          simp only [not_or, Classical.not_not] at hc
          obtain ⟨h1, h2⟩ := hc
          simp only [List.headD_cons] at h2
          subst h2
          simp only [List.length_cons] at h1
          have : ¬ r.length + 1 = 1 := h1
          simp [this]
          intro e; subst e; simp at h1
        rw [this]
end Go.Lx
namespace Go.Proofs.YtlkpnkkgkjkmbaaDoor
open Go Go.Ab Go.Lx
set_option maxRecDepth 100000
section
variable {P : Prg} (hP : P.p = Tryd.prog)
include hP
theorem c_rLex (s : List UInt8) {ob : Objs} {K : V → Prop} (h : K (lexV s)) : PCall P 13 [.d (.str s)] ob K := by
  refine pcall_lift hP mixed (ds := [.str s]) ok13 lf13 (TOk.cons (c_Letter hP) (TOk.cons (c_Figure hP) (TOk.cons (c_Space hP) (TOk.cons (c_Sign hP) (TOk.cons (c_part hP) (TOk.cons (c_rName hP) TOk.nil)))))) ?_
  simp [lt13]
  refine ⟨fun hl => ?_, fun hl => ?_⟩
  · simpa [lexV, show 65536 < s.length by omega] using h
  · have hl' : ¬ 65536 < s.length := by omega
    simp only [lexV, gt_iff_lt, hl', if_false] at h
    refine ALoop.go (ι := Nat × List Tok) (fun k => [(0, .d (.str s)), (5, .sl 0 k.2.length), (6, .d (.int .i64 k.1))]) (fun k => [(0, .arr 35 4 (k.2.map Tok.enc))]) (fun k => k.1 ≤ s.length ∧ k.2.length ≤ k.1 ∧ lexR s 0 = appT k.2 (lexR (s.drop k.1) k.1)) (fun k => s.length - k.1) (0, []) ⟨by simp, by simp, by simp [appT_nil]⟩ (by simp) (by simp) ?_
    rintro ⟨i, out⟩ ⟨hi, ho, he⟩ R rn re rr _
    simp only at hi ho he
    have nx : ∀ j out' sl' ob', j ≤ s.length → out'.length ≤ j → lexR s 0 = appT out' (lexR (s.drop j) j) → i < j → keepS sl' [0, 5, 6] = [(0, V.d (D.str s)), (5, V.sl 0 out'.length), (6, V.d (D.int IntKind.i64 j))] → ob' = [(0, Ob.arr 35 4 (out'.map Tok.enc))] → R .normal sl' ob' := fun j out' sl' ob' h1 h2 h3 h4 h5 h6 =>
      rn [] (j, out') _ _ ⟨h1, h2, h3⟩ (by simp only; omega) h5 (by rw [h6]; simp) (by simp) (by simp)
    clear rn
    by_cases hlt : i < s.length
    · have hw := wrap1 hlt (by omega)
      have er : ∀ e, lexR s 0 = .err e → K (.tup [.d .nils, .d (.int .i64 e), .d (.int .i64 90)]) := fun e he => by rw [he] at h; exact h
      rw [lexR_at hlt] at he
      generalize hc : s[i]?.getD 0 = c at *
      have hc' : s[i] = c := by rw [← hc]; simp [hlt]
      by_cases h1 : spaceB c = true
      · have h1' : spaceI c.toNat = true := h1
        simp [lt13_l3, hlt, hw, hc', h1']
        simp only [stp, h1, if_true] at he
        refine nx (i + 1) out _ _ ?_ ?_ he ?_ ?_ ?_ <;> first | omega | simp
      have h1' : spaceI c.toNat = false := by simpa [spaceB] using h1
      by_cases h2 : c = 47 ∧ (s.drop (i + 1)).head? = some 47
      · obtain ⟨rfl, h3⟩ := h2
        simp only [stp, show (spaceB 47 = true) = False by simp [spaceB, spaceI], if_false, h3, and_self, if_true] at he
        rw [head_drop] at h3
        obtain ⟨hlt1, h3⟩ := List.getElem?_eq_some_iff.1 h3
        simp [lt13_l3, hlt, hw, hc', h1', show spaceI 47 = false from rfl, show ((i : Int) + 1 < s.length) by omega, show ((0 : Int) ≤ (i : Int) + 1) by omega, show ((i : Int) + 1).toNat = i + 1 by omega, hlt1, h3]
        refine ALoop.go (ι := Nat) (fun j => [(0, .d (.str s)), (5, .sl 0 out.length), (6, .d (.int .i64 j))]) (fun _ => [(0, .arr 35 4 (out.map Tok.enc))]) (fun j => i ≤ j ∧ j ≤ s.length ∧ j + tw lineB s j = i + tw lineB s i) (fun j => s.length - j) i ⟨by omega, by omega, rfl⟩ rfl rfl ?_
        rintro j ⟨hj0, hj1, hj2⟩ R' rn' re' _ _
        have hti := tw_text lineB hlt (by rw [hc]; rfl)
        have ex : tw lineB s j = 0 → ∀ x, R' (AExit.exit 2) [(0, V.d (D.str s)), (5, V.sl 0 out.length), (6, V.d (D.int IntKind.i64 j)), (52, x)] [(0, Ob.arr 35 4 (out.map Tok.enc))] := fun h0 x => by
          refine re' _ _ _ ?_
          simp
          have hj : j = i + ((s.drop (i + 1)).takeWhile lineB).length + 1 := by omega
          refine nx j out _ _ hj1 ?_ (by rw [hj]; exact he) ?_ ?_ ?_ <;> first | omega | simp
        simp [lt13_l2]
        by_cases hjl : j < s.length
        · have hwj := wrap1 hjl (by omega)
          by_cases hb : lineB (s[j]?.getD 0) = true
          · have hb' : ¬ ((s[j]?.getD 0).toNat : Int) = 10 := fun e => by
              have e2 : s[j]?.getD 0 = 10 := by rw [← UInt8.ofNat_toNat (x := s[j]?.getD 0), show (s[j]?.getD 0).toNat = 10 by omega]; rfl
              rw [e2] at hb; cases hb
            simp [hjl] at hb'
            simp [hjl, hwj, hb']
            refine rn' [] (j + 1) _ _ ⟨?_, ?_, ?_⟩ ?_ ?_ ?_ ?_ ?_
            · omega
            · omega
            · rw [← hj2, tw_yes hjl hb]; omega
            · omega
            · simp
            · simp
            · simp
            · simp
          · have hb1 : lineB (s[j]?.getD 0) = false := by simpa using hb
            have hb' : ((s[j]?.getD 0).toNat : Int) = 10 := by
              have e2 : s[j]?.getD 0 = 10 := by simpa [lineB] using hb1
              rw [e2]; rfl
            simp [hjl] at hb'
            simp [hjl, hb']
            exact ex (tw_no hjl hb1) _
        · simp [hjl]
          exact ex (tw_ge (by omega)) _
      have h2' : (c.toNat : Int) = 47 → ((i : Int) + 1 < s.length) → ¬ ((s[i + 1]?.getD 0).toNat : Int) = 47 := fun e1 e2 e3 => h2 ⟨by rw [← UInt8.ofNat_toNat (x := c), show c.toNat = 47 by omega]; rfl, by
        have h4 : i + 1 < s.length := by omega
        rw [head_drop, List.getElem?_eq_getElem h4]
        simp [h4] at e3
        rw [← UInt8.ofNat_toNat (x := s[i + 1]), show s[i + 1].toNat = 47 by omega]; rfl⟩
      have ti : ((i : Int) + 1).toNat = i + 1 := by omega
      have z1 : (0 : Int) ≤ (i : Int) + 1 := by omega
      by_cases h3 : letterB c = true
      · have h3' : letterI c.toNat = true := h3
        simp [lt13_l3, hlt, hw, hc', h1', h3', ti, z1]
        refine ⟨fun e1 e2 e3 => (h2' e1 e2 e3).elim, fun _ => ?_⟩
        refine ALoop.go (ι := Nat) (fun j => [(0, .d (.str s)), (5, .sl 0 out.length), (6, .d (.int .i64 j)), (7, .d (.int .i64 i))]) (fun _ => [(0, .arr 35 4 (out.map Tok.enc))]) (fun j => i ≤ j ∧ j ≤ s.length ∧ j + tw partB s j = i + tw partB s i) (fun j => s.length - j) i ⟨by omega, by omega, rfl⟩ rfl rfl ?_
        rintro j ⟨hj0, hj1, hj2⟩ R' rn' re' _ _
        have hpc : partB c = true := by simp [partB, partI, h3']
        obtain ⟨t1, t2⟩ := tw_text partB hlt (by rw [hc]; exact hpc)
        rw [hc] at t1
        have ex : tw partB s j = 0 → ∀ x, R' (AExit.exit 4) [(0, V.d (D.str s)), (5, V.sl 0 out.length), (6, V.d (D.int IntKind.i64 j)), (7, V.d (D.int IntKind.i64 i)), (68, x)] [(0, Ob.arr 35 4 (out.map Tok.enc))] := fun h0 x => by
          refine re' _ _ _ ?_
          have hj : j = i + tw partB s i := by omega
          rw [← hj] at t1
          simp [t1, nameB_run h3, hj0, hj1]
          simp only [stp, h1, h2, h3, Bool.false_eq_true, if_false, if_true] at he
          refine ⟨fun h5 => rr _ _ ?_, fun h5 => ⟨by omega, ?_⟩⟩
          · simp
            rw [if_neg (by omega)] at he
            exact er i he
          · rw [if_pos (by omega)] at he
            simp only [appT_add] at he
            have hjj : i + ((s.drop (i + 1)).takeWhile partB).length + 1 = j := by omega
            rw [hjj] at he
            refine nx j (out ++ [⟨1, c :: (s.drop (i + 1)).takeWhile partB, 0, i⟩]) _ _ hj1 ?_ he ?_ ?_ ?_
            · simp; omega
            · omega
            · simp
            · simp [Tok.enc]
        simp [lt13_l1]
        by_cases hjl : j < s.length
        · have hwj := wrap1 hjl (by omega)
          by_cases hb : partB (s[j]?.getD 0) = true
          · have hb' : partI (s[j]?.getD 0).toNat = true := hb
            simp [hjl] at hb'
            simp [hjl, hwj, hb']
            refine rn' [] (j + 1) _ _ ⟨?_, ?_, ?_⟩ ?_ ?_ ?_ ?_ ?_
            · omega
            · omega
            · rw [← hj2, tw_yes hjl hb]; omega
            · omega
            · simp
            · simp
            · simp
            · simp
          · have hb1 : partB (s[j]?.getD 0) = false := by simpa using hb
            have hb' : partI (s[j]?.getD 0).toNat = false := hb1
            simp [hjl] at hb'
            simp [hjl, hb']
            exact ex (tw_no hjl hb1) _
        · simp [hjl]
          exact ex (tw_ge (by omega)) _
      have h3' : letterI c.toNat = false := by simpa [letterB] using h3
      by_cases h4 : digitB c = true
      · have h4' : digitI c.toNat = true := h4
        simp [lt13_l3, hlt, hw, hc', h1', h3', h4', ti, z1]
        refine ⟨fun e1 e2 e3 => (h2' e1 e2 e3).elim, fun _ => ?_⟩
        refine ALoop.go (ι := Nat) (fun j => [(0, .d (.str s)), (5, .sl 0 out.length), (6, .d (.int .i64 j)), (7, .d (.int .i64 i))]) (fun _ => [(0, .arr 35 4 (out.map Tok.enc))]) (fun j => i ≤ j ∧ j ≤ s.length ∧ j + tw digitB s j = i + tw digitB s i) (fun j => s.length - j) i ⟨by omega, by omega, rfl⟩ rfl rfl ?_
        rintro j ⟨hj0, hj1, hj2⟩ R' rn' re' _ _
        obtain ⟨t1, t2⟩ := tw_text digitB hlt (by rw [hc]; exact h4)
        rw [hc] at t1
        have ex : tw digitB s j = 0 → ∀ x, R' (AExit.exit 6) [(0, V.d (D.str s)), (5, V.sl 0 out.length), (6, V.d (D.int IntKind.i64 j)), (7, V.d (D.int IntKind.i64 i)), (100, x)] [(0, Ob.arr 35 4 (out.map Tok.enc))] := fun h0 x => by
          refine re' _ _ _ ?_
          have hj : j = i + tw digitB s i := by omega
          rw [← hj] at t1
          simp [t1, hj0, hj1]
          simp only [stp, h1, h2, h3, h4, Bool.false_eq_true, if_false, if_true] at he
          generalize ht : c :: (s.drop (i + 1)).takeWhile digitB = t at *
          have htl : t.length = ((s.drop (i + 1)).takeWhile digitB).length + 1 := by rw [← ht]; rfl
          have hne : t ≠ [] := by intro e; rw [e] at htl; simp at htl
          have hdg : ∀ k, k < t.length → digitI (t[k]?.getD 0).toNat = true := fun k hk => by
            have : t[k] ∈ c :: (s.drop (i + 1)).takeWhile digitB := by rw [ht]; exact List.getElem_mem hk
            simp [hk]
            rcases List.mem_cons.mp this with e | e
            · rw [e]; exact h4'
            · exact mem_tw e
          refine c_number hP t hdg hne (by have := tw_le digitB s i (by omega); omega) ?_
          rw [numV_run t hne]
          cases hn : numOf t with
          | none =>
            rw [hn] at he
            simp only at he
            cases hg : numGo 0 t with
            | none => simp; exact rr _ _ (by simp; exact er i he)
            | some n => simp; exact rr _ _ (by simp; exact er i he)
          | some n =>
            rw [hn] at he
            simp only [appT_add] at he
            simp
            have hjj : i + ((s.drop (i + 1)).takeWhile digitB).length + 1 = j := by omega
            rw [hjj] at he
            refine ⟨by omega, nx j (out ++ [⟨2, [], n, i⟩]) _ _ hj1 ?_ he ?_ ?_ ?_⟩
            · simp; omega
            · omega
            · simp
            · simp [Tok.enc]
        simp [lt13_l0]
        by_cases hjl : j < s.length
        · have hwj := wrap1 hjl (by omega)
          by_cases hb : digitB (s[j]?.getD 0) = true
          · have hb' : digitI (s[j]?.getD 0).toNat = true := hb
            simp [hjl] at hb'
            simp [hjl, hwj, hb']
            refine rn' [] (j + 1) _ _ ⟨?_, ?_, ?_⟩ ?_ ?_ ?_ ?_ ?_
            · omega
            · omega
            · rw [← hj2, tw_yes hjl hb]; omega
            · omega
            · simp
            · simp
            · simp
            · simp
          · have hb1 : digitB (s[j]?.getD 0) = false := by simpa using hb
            have hb' : digitI (s[j]?.getD 0).toNat = false := hb1
            simp [hjl] at hb'
            simp [hjl, hb']
            exact ex (tw_no hjl hb1) _
        · simp [hjl]
          exact ex (tw_ge (by omega)) _
      have h4' : digitI c.toNat = false := by simpa [digitB] using h4
      by_cases h5 : signB c = true
      · have h5' : signI c.toNat = true := h5
        simp [lt13_l3, hlt, hw, hc', h1', h3', h4', h5', ti, z1]
        refine ⟨fun e1 e2 e3 => (h2' e1 e2 e3).elim, fun _ => ?_⟩
        simp only [stp, h1, h2, h3, h4, h5, Bool.false_eq_true, if_false, if_true, appT_add] at he
        have htx : (s.take (i + 1)).drop i = [c] := by
          rw [List.drop_take, Nat.add_sub_cancel_left, drop_cons hlt, hc]; rfl
        rw [htx]
        refine ⟨by omega, by omega, ?_⟩
        refine nx (i + 1) (out ++ [⟨3, [c], 0, i⟩]) _ _ ?_ ?_ he ?_ ?_ ?_
        · omega
        · simp; omega
        · omega
        · simp
        · simp [Tok.enc]
      · have h5' : signI c.toNat = false := by simpa [signB] using h5
        simp [lt13_l3, hlt, hw, hc', h1', h3', h4', h5', ti, z1]
        refine ⟨fun e1 e2 e3 => (h2' e1 e2 e3).elim, fun _ => rr _ _ ?_⟩
        simp only [stp, h1, h2, h3, h4, h5, Bool.false_eq_true, if_false, appT] at he
        simp
        exact er i he
    · have hi' : i = s.length := by omega
      subst hi'
      simp [lt13_l3]
      refine re _ _ _ ?_
      simp
      rw [lexR_nil (Nat.le_refl _)] at he
      rw [he] at h
      simpa [appT, resV, toks] using h
end
end Go.Proofs.YtlkpnkkgkjkmbaaDoor
