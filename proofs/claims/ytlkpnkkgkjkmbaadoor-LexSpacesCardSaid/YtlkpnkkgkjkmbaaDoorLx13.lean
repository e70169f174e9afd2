/- Contracts: Text. Condition: the program is the seat's; the powers of ten are laid. -/
import Derived.Test.YtlkpnkkgkjkmbaaDoorLx12
namespace Go.Lx
open Go Go.Ab
def wordT (t : Tok) : List UInt8 := if t.kind = 2 then Lib.itoa t.n else t.text
def joinW : List Tok → List UInt8
  | [] => []
  | [t] => wordT t
  | t :: r => wordT t ++ 32 :: joinW r
def textV (l : List Tok) : V := if l.all validB then .tup [.d (.str (joinW l)), .d (.int .i64 0)] else .tup [.d (.str []), .d (.int .i64 90)]
theorem joinW_snoc : ∀ (l : List Tok) (t : Tok), joinW (l ++ [t]) = if l = [] then wordT t else joinW l ++ 32 :: wordT t
  | [], t => rfl
  | [a], t => by simp [joinW]
  | a :: b :: r, t => by
    have h := joinW_snoc (b :: r) t
    simp only [List.cons_append, joinW] at h ⊢
    rw [h]; simp
theorem decDigits_len (n : Nat) : (Lib.decDigits n).length ≤ n + 1 ∧ Lib.decDigits n ≠ [] := by
  refine ⟨?_, by rw [decDigits_eq]; simp⟩
  induction n using Nat.strongRecOn with
  | ind n ih =>
    rw [decDigits_eq]
    split
    · simp
    · have := ih (n / 10) (by omega)
      simp; omega
theorem digits_pow : ∀ (k n : Nat), n < 10 ^ (k + 1) → (Lib.decDigits n).length ≤ k + 1
  | 0, n, h => by rw [decDigits_eq, if_pos (by omega)]; simp
  | k + 1, n, h => by
    rw [decDigits_eq]
    split
    · simp
    · have := digits_pow k (n / 10) (by rw [Nat.pow_succ] at h; omega)
      simp; omega
theorem word_ok {t : Tok} (h : validB t = true) : wordT t ≠ [] ∧ (wordT t).length ≤ 32 := by
  unfold validB at h
  unfold wordT
  split at h
  · rename_i e
    rw [if_neg (by omega)]
    simp [nameB] at h
    refine ⟨fun e => ?_, by omega⟩
    simp [e] at h
  · split at h
    · rename_i e
      rw [if_pos e]
      simp at h
      obtain ⟨N, hN⟩ := Int.eq_ofNat_of_zero_le h.1.2
      rw [hN, itoa_nat]
      exact ⟨(decDigits_len N).2, Nat.le_trans (digits_pow 12 N (by omega)) (by decide)⟩
    · rename_i e
      rw [if_neg e]
      split at h
      · simp at h
        refine ⟨fun e => ?_, by omega⟩
        simp [e] at h
      · cases h
theorem joinW_len : ∀ (l : List Tok), (∀ t ∈ l, validB t = true) → (joinW l).length ≤ 33 * l.length
  | [], _ => by simp [joinW]
  | [t], h => by have := word_ok (h t (by simp)); simp [joinW]; omega
  | a :: b :: r, h => by
    have h1 := word_ok (h a (by simp))
    have h2 := joinW_len (b :: r) (fun t ht => h t (by simp [ht]))
    simp only [joinW, List.length_append, List.length_cons] at h2 ⊢
    omega
theorem joinW_ne {l : List Tok} (h : ∀ t ∈ l, validB t = true) (h0 : l ≠ []) : joinW l ≠ [] := by
  match l, h0 with
  | [t], _ => exact (word_ok (h t (by simp))).1
  | a :: b :: r, _ => simp [joinW]
theorem take_snoc {l : List Tok} {k : Nat} (hk : k < l.length) : l.take (k + 1) = l.take k ++ [l[k]] := (List.take_append_getElem hk).symm
end Go.Lx
namespace Go.Proofs.YtlkpnkkgkjkmbaaDoor
open Go Go.Ab Go.Lx
set_option maxRecDepth 100000
section
variable {P : Prg} (hP : P.p = Tryd.prog)
include hP
theorem c_rText {a : D} {l : List Tok} (ha : TD a l) (hl : l.length ≤ 100000) {ob : Objs} {K : V → Prop} (h : K (textV l)) : PCall P 17 [.d a] ob K := by
  refine pcall_lift hP mixed (ds := [a]) ok17 lf17 TOk.nil ?_
  have h' : ∀ x, x = textV l → K x := fun b e => e ▸ h
  clear h
  simp [lt17]
  refine ALoop.go (ι := Nat) (fun k => [(0, .d a), (4, .d (.str (joinW (l.take k)))), (5, .d (.int .i64 k))]) (fun _ => []) (fun k => k ≤ l.length ∧ ∀ t ∈ l.take k, validB t = true) (fun k => l.length - k) 0 ⟨by omega, by simp⟩ (by simp [joinW]) rfl ?_
  rintro k ⟨hk, hp⟩ R rn re rr _
  simp [lt17_l2, ha.idxS, ha.len, ha.lenS]
  refine ⟨fun hlt => ?_, fun hge => re _ _ _ ?_⟩
  · simp [ha.idx hlt, Tok.enc, hlt]
    have hL := joinW_len _ hp
    have hT : (l.take k).length ≤ 100000 := by simp; omega
    have hne : k ≠ 0 → l.take k ≠ [] := fun h e => by
      rcases List.take_eq_nil_iff.1 e with h1 | h1
      · exact h h1
      · rw [h1] at hlt; simp at hlt
    have hi : IntKind.i64.wrap ((k : Int) + 1) = (k : Int) + 1 := IntWalk.i64_in _ (by omega)
    refine c_rValid hP l[k] ?_
    simp
    refine ⟨fun hv => rr _ _ ?_, fun hv => ?_⟩
    · simp
      refine h' _ ?_
      rw [textV, if_neg]
      rw [List.all_eq_true]
      intro hA
      have := hA l[k] (List.getElem_mem hlt)
      rw [hv] at this; cases this
    have hw := word_ok hv
    have hp' : ∀ t ∈ l.take (k + 1), validB t = true := by
      intro t ht
      rw [take_snoc hlt] at ht
      rcases List.mem_append.1 ht with ht | ht
      · exact hp t ht
      · rw [List.mem_singleton.1 ht]; exact hv
    have hd : l[k].kind = 2 → ∃ N : Nat, l[k].n = N ∧ N ≤ 9223372036854775807 ∧ Lib.decDigits N = wordT l[k] := by
      intro e
      unfold validB at hv
      rw [if_neg (by omega), if_pos e] at hv
      simp at hv
      obtain ⟨N, hN⟩ := Int.eq_ofNat_of_zero_le hv.1.2
      exact ⟨N, hN, by omega, by rw [wordT, if_pos e, hN, itoa_nat]⟩
    have hx : l[k].kind ≠ 2 → l[k].text = wordT l[k] := fun e => by rw [wordT, if_neg e]
    have hj := joinW_snoc (l.take k) l[k]
    rw [← take_snoc hlt] at hj
    refine ⟨fun h0 => ⟨by omega, ?_⟩, fun h0 => ?_⟩
    · rw [if_neg (hne (by omega))] at hj
      simp [lt17_s1, ha.idxS, ha.idx hlt, Tok.enc, hlt]
      refine ⟨fun e => ?_, fun e => ?_⟩
      · obtain ⟨N, e1, e2, e3⟩ := hd e
        rw [e1]
        refine c_Decimal hP N e2 ?_
        rw [e3]
        simp [lt17_s0, hi]
        refine ⟨by omega, rn [] (k + 1) _ [] ⟨by omega, hp'⟩ (by omega) ?_ rfl rfl rfl⟩
        simp [hj]
      · rw [hx e]
        simp [lt17_s0, hi]
        refine ⟨by omega, rn [] (k + 1) _ [] ⟨by omega, hp'⟩ (by omega) ?_ rfl rfl rfl⟩
        simp [hj]
    · have hz : joinW (l.take k) = [] := by subst h0; rfl
      rw [if_pos (by subst h0; rfl)] at hj
      simp [lt17_s1, ha.idxS, ha.idx hlt, Tok.enc, hlt, hz]
      refine ⟨fun e => ?_, fun e => ?_⟩
      · obtain ⟨N, e1, e2, e3⟩ := hd e
        rw [e1]
        refine c_Decimal hP N e2 ?_
        rw [e3]
        simp [lt17_s0, hi]
        refine ⟨by omega, rn [] (k + 1) _ [] ⟨by omega, hp'⟩ (by omega) ?_ rfl rfl rfl⟩
        simp [hj]
      · rw [hx e]
        simp [lt17_s0, hi]
        refine ⟨by omega, rn [] (k + 1) _ [] ⟨by omega, hp'⟩ (by omega) ?_ rfl rfl rfl⟩
        simp [hj]
  · have hk' : k = l.length := by omega
    subst hk'
    simp at hp ⊢
    refine h' _ ?_
    rw [textV, if_pos (List.all_eq_true.2 hp)]
end
end Go.Proofs.YtlkpnkkgkjkmbaaDoor
