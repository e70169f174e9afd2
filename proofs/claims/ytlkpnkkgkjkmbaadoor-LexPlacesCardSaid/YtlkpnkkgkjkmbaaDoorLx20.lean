/- The law LexPlaces: its inner loop. Condition: the program is the seat's. -/
import Derived.Test.YtlkpnkkgkjkmbaaDoorPl3
namespace Go.Proofs.YtlkpnkkgkjkmbaaDoor
open Go Go.Ab Go.Lx
set_option maxRecDepth 100000
section
variable {P : Prg} {T : Tab} (hT : Ab.lookT T 22 = some (fnI spaceI))
include hT
theorem gap_loop (s : List UInt8) (A : D) (k : Int) (to i : Nat) (hi : i ≤ to) (hto : to ≤ s.length) (hs : s.length ≤ 3000) {Q : Ab.Post}
    (h : match autoGo s to (to - i) i false with
      | none => Q .ret [(2, .d (.bool false))] []
      | some cm => Q (.exit 2) [(0, .d (.str s)), (3, .d A), (6, .d (.int .i64 to)), (7, .d (.int .i64 k)), (8, .d (.int .i64 to)), (9, .d (.bool cm)), (55, .d (.bool false))] []) :
    ALoop [0, 3, 6, 7, 8, 9] (cwp2 P T lt6_l1) Q [(0, .d (.str s)), (3, .d A), (6, .d (.int .i64 i)), (7, .d (.int .i64 k)), (8, .d (.int .i64 to)), (9, .d (.bool false))] [] := by
  refine ALoop.go (ι := Nat × Bool) (fun x => [(0, .d (.str s)), (3, .d A), (6, .d (.int .i64 x.1)), (7, .d (.int .i64 k)), (8, .d (.int .i64 to)), (9, .d (.bool x.2))]) (fun _ => []) (fun x => x.1 ≤ to ∧ autoGo s to (to - x.1) x.1 x.2 = autoGo s to (to - i) i false) (fun x => to - x.1) (i, false) ⟨hi, rfl⟩ (by simp) rfl ?_
  rintro ⟨j, cm⟩ ⟨hj, hp⟩ R rn re rr _
  dsimp at hj hp
  have hw : IntKind.i64.wrap ((j : Int) + 1) = ((j + 1 : Nat) : Int) := by rw [IntWalk.i64_in _ (by omega)]; omega
  have hc : ∀ x : Int, ((j + 1 : Nat) : Int) < x ↔ (j : Int) + 1 < x := fun x => by omega
  have hF := cmS_false s to j cm
  have hD : cmS s to j cm = (!decide (((s[j]?.getD 0).toNat : Int) = 10) && (cm || decide (((s[j]?.getD 0).toNat : Int) = 47) && decide ((j : Int) + 1 < to) && ((s[j + 1]?.getD 0).toNat : Int) == 47)) := rfl
  simp only [lt6_l1]
  simp [hT, hw]
  rw [← hF, ← hD]
  refine ⟨fun hlt => ⟨⟨by omega, fun _ _ => ⟨by omega, fun _ h3 => ⟨by omega, by omega⟩⟩⟩, fun _ => by omega, fun h1 h2 => rr _ _ ?_, fun h1 => rn [] (j + 1, cmS s to j cm) _ [] ⟨by omega, ?_⟩ (by dsimp; omega) ?_ rfl rfl rfl⟩, fun hge => re _ _ _ ?_⟩
  · have e : to - j = (to - (j + 1)) + 1 := by omega
    rw [e, autoGo, if_pos ⟨h1, h2⟩] at hp
    rw [← hp] at h
    exact h
  · have e : to - j = (to - (j + 1)) + 1 := by omega
    rw [e, autoGo, if_neg (fun ⟨a, b⟩ => by rw [h1 a] at b; cases b)] at hp
    exact hp
  · simp
  · obtain rfl : j = to := by omega
    rw [Nat.sub_self, autoGo] at hp
    rw [← hp] at h
    simpa using h
end
section
variable {P : Prg} (hP : P.p = Tryd.prog) (hG : Lx.Pow P)
include hP hG
theorem p_LexPlaces (s : List UInt8) {ob : Objs} {K : V → Prop} (h : K (.d (.bool true))) : PCall P 6 [.d (.str s)] ob K := by
  refine pcall_lift hP mixed (ds := [.str s]) ok6 lf6 (TOk.cons (c_Space hP) TOk.nil) ?_
  simp [lt6]
  refine c_sane hP hG ?_
  simp
  refine ⟨fun _ => h, fun hs => ?_⟩
  have hs' : s.length ≤ 3000 := by omega
  refine c_Lex hP s ?_
  rw [lexV_eq]
  cases hr : lexR s 0 with
  | err e =>
    obtain ⟨e1, _, e3, e4⟩ := lexV_err (by omega) hr
    rw [e1, e3, e4]
    simpa using h
  | ok l =>
    obtain ⟨e1, _, e3, e4⟩ := lexV_ok (by omega) hr
    have hl := lexR_len _ s 0 l (Nat.le_refl _) hr
    have hv := (lexR_valid s 0 l hr).1
    rw [e1, e3, e4]
    simp
    have ht := TD.mk l
    refine ALoop.go (ι := Nat × Nat) (fun x => [(0, .d (.str s)), (3, .d (toks l)), (6, .d (.int .i64 x.2)), (7, .d (.int .i64 x.1))]) (fun _ => []) (fun x => x.1 ≤ l.length ∧ x.2 ≤ s.length ∧ lexR (s.drop x.2) x.2 = .ok (l.drop x.1)) (fun x => l.length - x.1) (0, 0) ⟨by simp, by simp, by simpa using hr⟩ (by simp) rfl ?_
    rintro ⟨k, i⟩ ⟨hk, hi, hp⟩ R rn re rr _
    dsimp at hk hi hp
    have hg := gap_law s (s.length - i) i false _ (Nat.le_refl _) hi (by simp) hp
    have hkl : ((k : Int) ≤ l.length) := by omega
    by_cases hlt : k < l.length
    · rw [List.drop_eq_getElem_cons hlt] at hg
      obtain ⟨a, c, r, kd, x, m, n, a1, a2, a3, a4, a5, a6, a7⟩ := hg
      have hat : l[k].at_ = a := by rw [a1]
      simp [lt6_l3, ht.len, ht.lenS, ht.idxS, ht.idx hlt, Tok.enc, hlt, hkl, hat]
      have hia : ¬ ((a : Int) < i) := by omega
      have has : ¬ ((s.length : Int) < a) := by omega
      simp [lt6_s2, hia, has]
      refine gap_loop (by simp [lookT]) s (toks l) k a i a2 (by omega) hs' ?_
      rw [a4]
      have hkn : ¬ ((k : Int) = l.length) := by omega
      simp [ht.len, ht.lenS, ht.idxS, ht.idx hlt, Tok.enc, hlt, hkn]
      have hvk := hv l[k] (List.getElem_mem hlt)
      obtain ⟨v1, v2⟩ := tok_valid a6 (l[k].at_)
      have hlk : l[k] = ⟨kd, x, m, l[k].at_⟩ := by rw [a1]
      rw [← hlk] at v2
      have hnr := stp_tok a6
      have hdl : s.length - a = r.length + 1 := by have := congrArg List.length a5; simpa using this
      have hwl : (wordT l[k]).length = n + 1 := by rw [v2]; simp; omega
      have hws : wordT l[k] = (s.drop a).take (n + 1) := by rw [v2, a5]
      have hb : (l[k].kind = 2 → 0 ≤ l[k].n) ∧ l[k].n ≤ 1099511627776 := by
        unfold validB at hvk
        split at hvk
        · simp at hvk; omega
        · split at hvk
          · simp at hvk; omega
          · split at hvk
            · simp at hvk; omega
            · cases hvk
      refine c_spelled hP l[k] hb.1 hb.2 ?_
      have hsp : (if l[k].kind = 2 then Lib.itoa l[k].n else l[k].text) = wordT l[k] := rfl
      rw [hsp]
      have hw : IntKind.i64.wrap ((a : Int) + (n + 1)) = (a : Int) + (n + 1) := IntWalk.i64_in _ (by omega)
      have h1 : ¬ ((n : Int) + 1 = 0) := by omega
      have h2 : ¬ ((s.length : Int) < (a : Int) + (n + 1)) := by omega
      have hwne : wordT l[k] ≠ [] := (word_ok hvk).1
      simp [hwl, hw, h1, h2, hwne]
      have hcut : List.drop a (List.take ((a : Int) + (n + 1)).toNat s) = wordT l[k] := by
        have e : ((a : Int) + (n + 1)).toNat = a + (n + 1) := by omega
        rw [e, hws, List.drop_take]
        congr 1; omega
      have hk1 : IntKind.i64.wrap ((k : Int) + 1) = (k : Int) + 1 := IntWalk.i64_in _ (by omega)
      refine ⟨⟨⟨by omega, by omega⟩, by omega⟩, fun hne => (hne hcut).elim, fun _ => ?_⟩
      simp [lt6_s0, hk1]
      refine rn [] (k + 1, a + (n + 1)) _ [] ⟨by dsimp; omega, by dsimp; omega, a7⟩ (by dsimp; omega) ?_ rfl rfl rfl
      simp
    · have hk' : k = l.length := by omega
      subst hk'
      rw [List.drop_length] at hg
      obtain ⟨cm', hg⟩ := hg
      simp [lt6_l3, ht.len, ht.lenS]
      have hia : ¬ ((s.length : Int) < i) := by omega
      have w1 : ¬ (s.length < i) := by omega
      simp [lt6_s2, hia, w1]
      refine gap_loop (by simp [lookT]) s (toks l) l.length s.length i hi (Nat.le_refl _) hs' ?_
      rw [hg]
      simp [ht.len, ht.lenS]
      refine re _ _ _ ?_
      simpa using h
end
end Go.Proofs.YtlkpnkkgkjkmbaaDoor
