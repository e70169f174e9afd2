/- The law LexBack as a call. Condition: the program is the seat's; the powers of ten are laid. -/
import Derived.Test.YtlkpnkkgkjkmbaaDoorPl2
namespace Go.Proofs.YtlkpnkkgkjkmbaaDoor
open Go Go.Ab Go.Lx
set_option maxRecDepth 100000
section
variable {P : Prg} (hP : P.p = Tryd.prog) (hG : Lx.Pow P)
include hP hG
theorem back_rest (s : List UInt8) (hs : s.length ≤ 3000) {K : V → Prop} (h : K (.d (.bool true))) {Q : Ab.Post} (hQ : Q = pureQ [RV.t 4] K) {sl : Ab.Slots} {ob : Ab.Objs} (h1 : Ab.look sl 1 = .d (.str s)) : cwp2 P [] lt5_s0 Q sl ob := by
  subst hQ
  simp [lt5_s0, h1]
  refine c_Lex hP s ?_
  rw [lexV_eq]
  cases hr : lexR s 0 with
  | err e =>
    obtain ⟨e1, _, e3, e4⟩ := lexV_err (by omega) hr
    rw [e1, e3, e4]
    simpa using h
  | ok l =>
    obtain ⟨e1, _, e3, e4⟩ := lexV_ok (by omega) hr
    obtain ⟨v1, v2⟩ := lexR_valid s 0 l hr
    have hl := lexR_len _ s 0 l (Nat.le_refl _) hr
    rw [e1, e3, e4]
    simp
    refine c_Text hP hG (TD.mk l) (by omega) ?_
    have ht : textV l = .tup [.d (.str (joinW l)), .d (.int .i64 0)] := by rw [textV, if_pos (List.all_eq_true.2 v1)]
    rw [ht]
    simp
    obtain ⟨m, m1, m2⟩ := lexR_joinW l 0 v1
    obtain ⟨f1, _, f3, f4⟩ := lexV_ok (by omega) m1
    refine c_Lex hP _ ?_
    rw [lexV_eq, f1, f3, f4]
    simp
    refine c_Same hP (TD.mk l) (TD.mk m) (by omega) ?_
    rw [m2]
    simpa using h
theorem p_LexBack {a : D} {l : List Tok} (ha : TD a l) (hl : l.length ≤ 9223372036854775807) (s : List UInt8) {ob : Objs} {K : V → Prop} (h : K (.d (.bool true))) : PCall P 5 [.d a, .d (.str s)] ob K := by
  refine pcall_lift hP mixed (ds := [a, .str s]) ok5 lf5 TOk.nil ?_
  simp [lt5]
  refine c_sane hP hG ?_
  simp
  refine c_Few hP ha hl fun b1 h1 => ?_
  cases b1 with
  | false => simpa using h
  | true =>
    simp
    refine ⟨fun _ => h, fun hs => ?_⟩
    have hl' : l.length ≤ 200 := h1 rfl
    refine c_Text hP hG ha (by omega) ?_
    by_cases hv : l.all validB = true
    · have ht : textV l = .tup [.d (.str (joinW l)), .d (.int .i64 0)] := by rw [textV, if_pos hv]
      rw [List.all_eq_true] at hv
      rw [ht]
      simp
      obtain ⟨m, m1, m2⟩ := lexR_joinW l 0 hv
      have hj := joinW_len l hv
      obtain ⟨f1, _, f3, f4⟩ := lexV_ok (by omega) m1
      refine c_Lex hP _ ?_
      rw [lexV_eq, f1, f3, f4]
      simp
      refine c_Same hP ha (TD.mk m) (by omega) ?_
      rw [m2]
      simp
      exact back_rest hP hG s (by omega) h rfl (by simp)
    · have ht : textV l = .tup [.d (.str []), .d (.int .i64 90)] := by rw [textV, if_neg hv]
      rw [ht]
      simp
      exact back_rest hP hG s (by omega) h rfl (by simp)
end
end Go.Proofs.YtlkpnkkgkjkmbaaDoor
