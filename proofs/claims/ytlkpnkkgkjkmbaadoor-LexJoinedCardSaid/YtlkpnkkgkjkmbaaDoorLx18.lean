/- The law LexJoined as a call. Condition: the program is the seat's; the powers of ten are laid. -/
import Derived.Test.YtlkpnkkgkjkmbaaDoorLx17
namespace Go.Lx
open Go Go.Ab
theorem join_err {a b : List UInt8} {e : Nat} (h : lexR a 0 = .err e) : lexR (a ++ 10 :: b) 0 = .err e := by
  rw [lexR_join, h]
theorem join_err2 {a b : List UInt8} {l : List Tok} {e : Nat} (h : lexR a 0 = .ok l) (h2 : lexR b 0 = .err e) : lexR (a ++ 10 :: b) 0 = .err (e + (a.length + 1)) := by
  rw [lexR_join, h]
  have := lexR_shift (a.length + 1) b 0
  simp only [Nat.zero_add] at this ⊢
  rw [this, h2]; rfl
theorem join_ok {a b : List UInt8} {l m : List Tok} (h : lexR a 0 = .ok l) (h2 : lexR b 0 = .ok m) : lexR (a ++ 10 :: b) 0 = .ok (l ++ m.map (shT (a.length + 1))) := by
  rw [lexR_join, h]
  have := lexR_shift (a.length + 1) b 0
  simp only [Nat.zero_add] at this ⊢
  rw [this, h2]; rfl
theorem at_le : ∀ s off, ∀ l, lexR s off = .ok l → ∀ t ∈ l, t.at_ ≤ off + s.length := by
  apply lex_ind
  · intro off l h t ht; rw [lexR_nil'] at h; cases h; cases ht
  · intro c r n off h hn ih l hl t ht
    rw [lexR_skip h] at hl
    have := ih l hl t ht
    simp at this ⊢; omega
  · intro c r k t m n off h hn ih l hl u hu
    rw [lexR_tok h] at hl
    cases hr : lexR (r.drop n) (off + n + 1) with
    | err e => rw [hr] at hl; cases hl
    | ok l' =>
      rw [hr] at hl
      simp only [addT, Res.ok.injEq] at hl
      subst hl
      rcases List.mem_cons.1 hu with rfl | hu
      · simp; omega
      · have := ih l' hr u hu
        simp at this ⊢; omega
  · intro c r off h l hl; rw [lexR_err h] at hl; cases hl
end Go.Lx
namespace Go.Proofs.YtlkpnkkgkjkmbaaDoor
open Go Go.Ab Go.Lx
set_option maxRecDepth 100000
section
variable {P : Prg} (hP : P.p = Tryd.prog) (hG : Lx.Pow P)
include hP hG
theorem p_LexJoined (a b : List UInt8) (hs : a.length ≤ 4611686018427387903) (hm : b.length ≤ 4611686018427387903) {ob : Objs} {K : V → Prop} (h : K (.d (.bool true))) : PCall P 7 [.d (.str a), .d (.str b)] ob K := by
  refine pcall_lift hP mixed (ds := [.str a, .str b]) ok7 lf7 TOk.nil ?_
  have hw : IntKind.i64.wrap ((a.length : Int) + b.length) = (a.length : Int) + b.length := IntWalk.i64_in _ (by omega)
  simp [lt7, hw]
  refine c_sane hP hG ?_
  simp
  refine ⟨fun _ => h, fun hsm => ?_⟩
  have hz : (a ++ 10 :: b).length ≤ 65536 := by simp; omega
  refine c_Lex hP a ?_
  rw [lexV_eq]
  simp
  refine c_Lex hP b ?_
  rw [lexV_eq]
  simp
  refine ⟨⟨by omega, by omega⟩, ?_⟩
  refine c_Lex hP _ ?_
  rw [lexV_eq]
  cases ha : lexR a 0 with
  | err e =>
    obtain ⟨e1, _, e3, e4⟩ := lexV_err (by omega) ha
    obtain ⟨z1, _, z3, z4⟩ := lexV_err hz (join_err ha)
    rw [e3, e4, z1, z3, z4]
    simpa using h
  | ok l =>
    obtain ⟨e1, _, e3, e4⟩ := lexV_ok (by omega) ha
    cases hb : lexR b 0 with
    | err e =>
      obtain ⟨f1, _, f3, f4⟩ := lexV_err (by omega) hb
      obtain ⟨z1, _, z3, z4⟩ := lexV_err hz (join_err2 ha hb)
      obtain ⟨_, w2, _, _⟩ := lexR_wrong b 0 e hb
      rw [e3, e4, f3, f4, z1, z3, z4]
      simp
      have w1 : IntKind.i64.wrap ((e : Int) + a.length) = (e : Int) + a.length := IntWalk.i64_in _ (by omega)
      have w3 : IntKind.i64.wrap ((e : Int) + a.length + 1) = (e : Int) + (a.length + 1) := by rw [IntWalk.i64_in _ (by omega)]; omega
      rw [w1, w3]
      simpa using h
    | ok m =>
      obtain ⟨f1, _, f3, f4⟩ := lexV_ok (by omega) hb
      obtain ⟨z1, _, z3, z4⟩ := lexV_ok hz (join_ok ha hb)
      have hl := lexR_len _ a 0 l (Nat.le_refl _) ha
      have hml := lexR_len _ b 0 m (Nat.le_refl _) hb
      rw [e1, e3, e4, f1, f3, f4, z1, z3, z4]
      have htl : toks l = .list 4 (l.map Tok.enc) := rfl
      have htm := TD.mk m
      simp [htm.len, htm.lenS, htl]
      have hats := at_le b 0 m hb
      refine ⟨by omega, ?_⟩
      refine ALoop.go (ι := Nat) (fun j => [(0, .d (.str a)), (11, .d (toks (l ++ m.map (shT (a.length + 1))))), (12, .d (.int .i64 0)), (13, .d (.int .i64 0)), (14, .sl 0 (l.length + j)), (85, .d (toks m)), (86, .d (.int .i64 m.length)), (87, .d (.int .i64 j))]) (fun j => [(0, .arr 35 4 ((l ++ (m.take j).map (shT (a.length + 1))).map Tok.enc))]) (fun j => j ≤ m.length) (fun j => m.length - j) 0 (by simp) (by simp) (by simp) ?_
      intro j hj R rn re rr _
      by_cases hlt : j < m.length
      · have hn0 := at_ge b 0 m hb m[j] (List.getElem_mem hlt)
        have hn1 := hats m[j] (List.getElem_mem hlt)
        have w1 : IntKind.i64.wrap ((a.length : Int) + 1) = (a.length : Int) + 1 := IntWalk.i64_in _ (by omega)
        have w2 : IntKind.i64.wrap (m[j].at_ + ((a.length : Int) + 1)) = m[j].at_ + ((a.length : Int) + 1) := IntWalk.i64_in _ (by omega)
        have w3 : IntKind.i64.wrap ((j : Int) + 1) = (j : Int) + 1 := IntWalk.i64_in _ (by omega)
        simp [lt7_l0, htm.idxS, htm.idx hlt, hlt, Tok.enc, w1, w2, w3]
        have hmin : min j m.length = j := by omega
        rw [hmin]
        refine ⟨rfl, by omega, rn [] (j + 1) _ _ (by omega) (by omega) ?_ ?_ (by simp [young, fresh]) (by simp [young, fresh])⟩
        · simp; omega
        · simp [young, fresh]
          rw [List.take_add_one]
          simp [hlt, Tok.enc, shT]
      · obtain rfl : j = m.length := by omega
        simp [lt7_l0]
        refine re _ _ _ ?_
        simp
        refine PCall.borrow (n := 5) (ds := [toks (l ++ m.map (shT (a.length + 1))), .list 4 ((l ++ m.map (shT (a.length + 1))).map Tok.enc)]) (by simp) ?_
        refine c_Equal hP (TD.mk _) (TD.lit _ _ rfl) (by simp; omega) ?_
        simpa using h
end
end Go.Proofs.YtlkpnkkgkjkmbaaDoor
