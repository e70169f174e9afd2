/- Contracts: lex.Text. Condition: the program is the seat's; the powers of ten are laid. -/
import Derived.Test.YtlkpnkkgkjkmbaaDoorLx13
namespace Go.Lx
open Go Go.Ab
/-- what the builder holds after so many tokens -/
def obT (l : List Tok) : Nat → Objs
  | 0 => [(0, .box 54 (.d (.agg [.nilp, .nils])))]
  | k + 1 => [(2, .arr 5 1 (bytesD (joinW (l.take (k + 1))))), (0, .box 54 (.agg [.ptr 0 [], .sl 2 (joinW (l.take (k + 1))).length]))]
end Go.Lx
namespace Go.Proofs.YtlkpnkkgkjkmbaaDoor
open Go Go.Ab Go.Lx
set_option maxRecDepth 100000
section
variable {P : Prg} (hP : P.p = Tryd.prog) (hG : Pow P)
include hP hG
theorem c_Text {a : D} {l : List Tok} (ha : TD a l) (hl : l.length ≤ 100000) {ob : Objs} {K : V → Prop} (h : K (textV l)) : PCall P 16 [.d a] ob K := by
  refine pcall_lift hP mixed (ds := [a]) ok16 lf16 TOk.nil ?_
  have h' : ∀ x, x = textV l → K x := fun b e => e ▸ h
  clear h
  simp [lt16, ha.len, ha.lenS]
  refine ALoop.go (ι := Nat) (fun k => [(4, .ptr 0 []), (7, .d a), (8, .d (.int .i64 l.length)), (9, .d (.int .i64 k))]) (obT l) (fun k => k ≤ l.length ∧ ∀ t ∈ l.take k, validB t = true) (fun k => l.length - k) 0 ⟨by omega, by simp⟩ (by simp) rfl ?_
  have hw1 : IntKind.i64.wrap 1 = 1 := IntWalk.i64_in _ (by omega)
  rintro k ⟨hk, hp⟩ R rn re rr _
  by_cases hlt : k < l.length
  · have hL := joinW_len _ hp
    have hT : (l.take k).length ≤ 100000 := by simp; omega
    have hne : k ≠ 0 → l.take k ≠ [] := fun h e => by
      rcases List.take_eq_nil_iff.1 e with h1 | h1
      · exact h h1
      · rw [h1] at hlt; simp at hlt
    have hi : IntKind.i64.wrap ((k : Int) + 1) = (k : Int) + 1 := IntWalk.i64_in _ (by omega)
    have hp' : validB l[k] = true → ∀ t ∈ l.take (k + 1), validB t = true := by
      intro hv t ht
      rw [take_snoc hlt] at ht
      rcases List.mem_append.1 ht with ht | ht
      · exact hp t ht
      · rw [List.mem_singleton.1 ht]; exact hv
    have hd : validB l[k] = true → l[k].kind = 2 → 0 ≤ l[k].n ∧ l[k].n ≤ 9223372036854775807 ∧ Lib.itoa l[k].n = wordT l[k] := by
      intro hv e
      unfold validB at hv
      rw [if_neg (by omega), if_pos e] at hv
      simp at hv
      exact ⟨hv.1.2, by omega, by rw [wordT, if_pos e]⟩
    have hx : l[k].kind ≠ 2 → l[k].text = wordT l[k] := fun e => by rw [wordT, if_neg e]
    have hj := joinW_snoc (l.take k) l[k]
    rw [← take_snoc hlt] at hj
    have hbad : validB l[k] = false → V.tup [.d (.str []), .d (.int .i64 90)] = textV l := by
      intro hv
      rw [textV, if_neg]
      rw [List.all_eq_true]
      intro hA
      have := hA l[k] (List.getElem_mem hlt)
      rw [hv] at this; cases this
    cases k with
    | zero =>
      rw [if_pos (by simp)] at hj
      have hidx := ha.idx (k := .i64) hlt
      simp only [Int.natCast_zero] at hidx
      simp [lt16_l2, ha.idxS, obT, hlt, hidx, Tok.enc]
      refine c_valid hP l[0] ?_
      simp
      refine ⟨fun hv => rr _ _ ?_, fun hv => ?_⟩
      · simp
        exact h' _ (hbad hv)
      · have hw := word_ok hv
        simp [lt16_s1]
        refine ⟨fun e => ?_, fun e => ?_⟩
        · obtain ⟨e1, e2, e3⟩ := hd hv e
          refine c_Itoa hP hG _ e1 e2 ?_
          rw [e3]
          refine c_ws0 hP (by simp) (by omega) ?_
          simp [lt16_s0, hi]
          rw [hw1]
          refine rn [2] 1 _ _ ⟨by omega, hp' hv⟩ (by omega) (by simp) ?_ (by simp [obT, young, fresh]) (by simp [obT, young, fresh])
          simp only [Nat.zero_add] at hj
          simp [obT, young, fresh, hj]
        · rw [hx e]
          refine c_ws0 hP (by simp) (by omega) ?_
          simp [lt16_s0, hi]
          rw [hw1]
          refine rn [2] 1 _ _ ⟨by omega, hp' hv⟩ (by omega) (by simp) ?_ (by simp [obT, young, fresh]) (by simp [obT, young, fresh])
          simp only [Nat.zero_add] at hj
          simp [obT, young, fresh, hj]
    | succ k =>
      rw [if_neg (hne (by omega))] at hj
      have hidx := ha.idx (k := .i64) hlt
      have hlt' : (k : Int) + 1 < l.length := by omega
      have h0k : (0 : Int) < (k : Int) + 1 := by omega
      have h0k' : (0 : Int) ≤ (k : Int) + 1 := by omega
      rw [show ((k + 1 : Nat) : Int) = (k : Int) + 1 from rfl] at hidx
      simp [lt16_l2, ha.idxS, obT, hlt, hlt', h0k, h0k', hidx, Tok.enc]
      refine c_valid hP l[k + 1] ?_
      simp
      refine ⟨fun hv => rr _ _ ?_, fun hv => ?_⟩
      · simp
        exact h' _ (hbad hv)
      · have hw := word_ok hv
        have hbl := bytesD_len (joinW (l.take (k + 1)))
        refine c_wb hP (x := 0) (y := 2) (l := bytesD (joinW (l.take (k + 1)))) (by simp [hbl]) (by simp) (by omega) ?_
        simp [lt16_s1]
        have e32 : bytesD (joinW (l.take (k + 1))) ++ [D.int .u8 32] = bytesD (joinW (l.take (k + 1)) ++ [32]) := by rw [bytesD_app]; rfl
        have hbl2 := bytesD_len (joinW (l.take (k + 1)) ++ [32])
        rw [List.length_append] at hbl2
        rw [e32, hbl]
        have hi2 : IntKind.i64.wrap ((k : Int) + 1 + 1) = (k : Int) + 1 + 1 := hi
        refine ⟨fun e => ?_, fun e => ?_⟩
        · obtain ⟨e1, e2, e3⟩ := hd hv e
          refine c_Itoa hP hG _ e1 e2 ?_
          rw [e3]
          refine c_ws hP (x := 0) (y := 2) (l := bytesD (joinW (l.take (k + 1)) ++ [32])) (by simp [hbl2]) (by simp) (by simp [hbl2]; omega) ?_
          simp [lt16_s0, hi2]
          refine rn [] (k + 2) _ _ ⟨by omega, hp' hv⟩ (by omega) ?_ ?_ (by simp [obT, young, fresh]) (by simp [obT, young, fresh])
          · simp; omega
          · simp [obT, young, fresh, hj, bytesD_app, bytesD, hbl]; omega
        · rw [hx e]
          refine c_ws hP (x := 0) (y := 2) (l := bytesD (joinW (l.take (k + 1)) ++ [32])) (by simp [hbl2]) (by simp) (by simp [hbl2]; omega) ?_
          simp [lt16_s0, hi2]
          refine rn [] (k + 2) _ _ ⟨by omega, hp' hv⟩ (by omega) ?_ ?_ (by simp [obT, young, fresh]) (by simp [obT, young, fresh])
          · simp; omega
          · simp [obT, young, fresh, hj, bytesD_app, bytesD, hbl]; omega
  · have hk' : k = l.length := by omega
    subst hk'
    simp at hp
    have ht : textV l = .tup [.d (.str (joinW l)), .d (.int .i64 0)] := by rw [textV, if_pos (List.all_eq_true.2 hp)]
    have hL := joinW_len _ hp
    simp [lt16_l2]
    refine re _ _ _ ?_
    simp
    cases hn : l.length with
    | zero =>
      have : l = [] := List.length_eq_zero_iff.1 hn
      subst this
      refine c_bs0 hP (by simp [obT]) ?_
      simp
      exact h' _ ht.symm
    | succ n =>
      refine c_bs hP (x := 0) (y := 2) (t := joinW l) (by simp [obT, ← hn]) (by simp [obT, ← hn]) (joinW_ne hp (fun e => by rw [e] at hn; cases hn)) (by omega) ?_
      simp
      exact h' _ ht.symm
end
end Go.Proofs.YtlkpnkkgkjkmbaaDoor
