/- Contracts: decimal digits, Few, Equal. Condition: the program is the seat's. -/
import Derived.Test.YtlkpnkkgkjkmbaaDoorLx11
namespace Go.Lx
open Go Go.Ab
def digB (n : Nat) : UInt8 := UInt8.ofNat (48 + n % 10)
theorem decDigits_eq (n : Nat) : Lib.decDigits n = (if n < 10 then [] else Lib.decDigits (n / 10)) ++ [digB n] := by
  rw [Lib.decDigits]
  split
  · rename_i h; simp [digB, Nat.mod_eq_of_lt h]
  · simp [digB]
theorem digB_nat (n : Nat) : (digB n).toNat = 48 + n % 10 := by
  have : n % 10 < 10 := Nat.mod_lt _ (by decide)
  simp [digB, UInt8.toNat_ofNat']; omega
theorem wrap_dig (n : Nat) : IntKind.u8.wrap (48 + (n : Int) % 10) = (digB n).toNat := by
  rw [digB_nat]
  have h : 0 ≤ 48 + (n : Int) % 10 ∧ 48 + (n : Int) % 10 ≤ 255 := by omega
  rw [IntWalk.u8_in _ h]
  omega
theorem itoa_nat (n : Nat) : Lib.itoa n = Lib.decDigits n := by
  unfold Lib.itoa; rw [if_neg (by omega)]; rfl
theorem bytesD_one (n : Nat) : [D.int .u8 (digB n).toNat] = bytesD [digB n] := rfl
theorem eq_iff_same : ∀ {l m : List Tok}, l = m ↔ sameB l m = true ∧ ∀ i, i < l.length → (l[i]?.getD default).at_ = (m[i]?.getD default).at_
  | [], [] => by simp [sameB]
  | [], _ :: _ => by simp [sameB]
  | _ :: _, [] => by simp [sameB]
  | a :: l, b :: m => by
    rw [List.cons.injEq, @eq_iff_same l m]
    simp only [sameB, Bool.and_eq_true]
    constructor
    · rintro ⟨rfl, h1, h2⟩
      refine ⟨⟨by simp [sameT], h1⟩, fun i hi => ?_⟩
      cases i with
      | zero => rfl
      | succ i => simpa using h2 i (by simpa using hi)
    · rintro ⟨⟨h1, h2⟩, h3⟩
      refine ⟨?_, h2, fun i hi => by simpa using h3 (i + 1) (by simpa using hi)⟩
      have h4 := h3 0 (by simp)
      obtain ⟨k, s, n, i⟩ := a
      obtain ⟨k', s', n', i'⟩ := b
      simp [sameT] at h1 h4
      simp [h1, h4]
end Go.Lx
namespace Go.Proofs.YtlkpnkkgkjkmbaaDoor
open Go Go.Ab Go.Lx
set_option maxRecDepth 100000
section
variable {P : Prg} (hP : P.p = Tryd.prog)
include hP
theorem c_Decimal (n : Nat) (hn : n ≤ 9223372036854775807) {ob : Objs} {K : V → Prop} (h : K (.d (.str (Lib.decDigits n)))) : PCall P 42 [.d (.int .i64 n)] ob K := by
  refine pcall_lift hP mixed (ds := [.int .i64 n]) ok42 lf42 TOk.nil ?_
  have hw : ∀ m : Nat, IntKind.i64.wrap (48 + (m : Int) % 10) = 48 + (m : Int) % 10 := fun m => IntWalk.i64_in _ (by omega)
  have ht : ∀ m : Nat, ((m : Int).tmod 10) = (m : Int) % 10 := fun m => Int.tmod_eq_emod_of_nonneg (by omega)
  have hd : ∀ m : Nat, ((m : Int).tdiv 10) = (m : Int) / 10 := fun m => Int.tdiv_eq_ediv_of_nonneg (by omega)
  simp [lt42, hw, ht, wrap_dig]
  refine ⟨[digB n], rfl, ?_⟩
  refine ALoop.go (ι := Nat × List UInt8) (fun s => [(0, .d (.int .i64 s.1)), (3, .d (.str s.2))]) (fun _ => []) (fun s => s.2.length + s.1 ≤ n + 1 ∧ Lib.decDigits n = (if s.1 < 10 then [] else Lib.decDigits (s.1 / 10)) ++ s.2) (fun s => s.1) (n, [digB n]) ⟨by simp; omega, by simpa using decDigits_eq n⟩ (by simp) rfl ?_
  rintro ⟨m, t⟩ ⟨hm, hp⟩ R rn re rr _
  dsimp at hm hp
  have hq : IntKind.i64.wrap ((m : Int) / 10) = (m : Int) / 10 := IntWalk.i64_in _ (by omega)
  have e1 : ((m : Int) / 10).tmod 10 = (m : Int) / 10 % 10 := by simpa using ht (m / 10)
  have e2 : IntKind.i64.wrap (48 + (m : Int) / 10 % 10) = 48 + (m : Int) / 10 % 10 := by simpa using hw (m / 10)
  have e3 : IntKind.u8.wrap (48 + (m : Int) / 10 % 10) = (digB (m / 10)).toNat := by simpa using wrap_dig (m / 10)
  simp [lt42_l0, hd, hq, e1, e2, e3]
  refine ⟨fun h10 => ?_, fun h10 => re _ _ _ ?_⟩
  · refine ⟨[digB (m / 10)], rfl, ?_, rn [] (m / 10, digB (m / 10) :: t) _ [] ⟨?_, ?_⟩ ?_ ?_ rfl rfl rfl⟩
    · simp; omega
    · simp; omega
    · rw [hp, if_neg (by omega), decDigits_eq]; simp
    · dsimp; omega
    · simp
  · simp
    rw [if_pos (by omega)] at hp
    simpa [hp] using h
theorem c_spelled (t : Tok) (h0 : t.kind = 2 → 0 ≤ t.n) (hn : t.n ≤ 1099511627776) {ob : Objs} {K : V → Prop} (h : K (.d (.str (if t.kind = 2 then Lib.itoa t.n else t.text)))) : PCall P 23 [.d t.enc] ob K := by
  refine pcall_lift hP mixed (ds := [t.enc]) ok23 lf23 TOk.nil ?_
  obtain ⟨k, s, n, i⟩ := t
  have hw : ∀ m : Nat, IntKind.i64.wrap (48 + (m : Int) % 10) = 48 + (m : Int) % 10 := fun m => IntWalk.i64_in _ (by omega)
  have ht : ∀ m : Nat, ((m : Int).tmod 10) = (m : Int) % 10 := fun m => Int.tmod_eq_emod_of_nonneg (by omega)
  have hd : ∀ m : Nat, ((m : Int).tdiv 10) = (m : Int) / 10 := fun m => Int.tdiv_eq_ediv_of_nonneg (by omega)
  simp [lt23, Tok.enc]
  dsimp at h0 hn h
  refine ⟨fun hk => by simpa [hk] using h, fun hk => ?_⟩
  rw [if_pos hk] at h
  obtain ⟨N, rfl⟩ := Int.eq_ofNat_of_zero_le (h0 hk)
  rw [itoa_nat] at h
  refine ALoop.go (ι := Nat × List UInt8) (fun s => [(3, .d (.str s.2)), (4, .d (.int .i64 s.1))]) (fun _ => [(0, .box 35 (.d (.agg [.int .i64 k, .str s, .int .i64 (N : Int), .int .i64 i])))]) (fun s => s.2.length + s.1 ≤ N ∧ Lib.decDigits N = Lib.decDigits s.1 ++ s.2) (fun s => s.1) (N, []) ⟨by simp, by simp⟩ (by simp) rfl ?_
  rintro ⟨m, t⟩ ⟨hm, hp⟩ R rn re rr _
  dsimp at hm hp
  have hq : IntKind.i64.wrap ((m : Int) / 10) = (m : Int) / 10 := IntWalk.i64_in _ (by omega)
  simp [lt23_l0, hd, hq, hw, ht, wrap_dig]
  refine ⟨[digB m], rfl, ?_, fun h10 => rr _ _ ?_, fun h10 => rn [] (m / 10, digB m :: t) _ _ ⟨?_, ?_⟩ ?_ ?_ rfl rfl rfl⟩
  · simp; omega
  · simp
    rw [decDigits_eq m, if_pos (by omega)] at hp
    simpa [hp] using h
  · simp; omega
  · rw [hp, decDigits_eq m, if_neg (by omega)]; simp
  · dsimp; omega
  · simp
theorem c_Few {a : D} {l : List Tok} (ha : TD a l) (hl : l.length ≤ 9223372036854775807) {ob : Objs} {K : V → Prop} (h : ∀ b, (b = true → l.length ≤ 200) → K (.d (.bool b))) : PCall P 15 [.d a] ob K := by
  refine pcall_lift hP mixed (ds := [a]) ok15 lf15 TOk.nil ?_
  simp [lt15, ha.len, ha.lenS]
  refine ALoop.go (ι := Nat × Int) (fun s => [(0, .d a), (3, .d (.int .i64 s.2)), (4, .d (.int .i64 s.1))]) (fun _ => []) (fun s => s.1 ≤ l.length) (fun s => l.length - s.1) (0, 0) (by simp) (by simp) rfl ?_
  rintro ⟨k, n⟩ hk R rn re rr _
  dsimp at hk
  simp [lt15_l0, ha.idxS, ha.len, ha.lenS]
  refine ⟨fun hlt => ?_, fun hge => re _ _ _ ?_⟩
  · simp [ha.idx hlt, Tok.enc, hlt]
    refine rn [] (k + 1, IntKind.i64.wrap (n + (l[k]).text.length)) _ [] (by dsimp; omega) (by dsimp; omega) ?_ rfl rfl rfl
    simp; exact IntWalk.i64_in _ (by omega)
  · simp [ha.len, ha.lenS]
    refine h _ ?_
    simp; omega
theorem c_Equal {a b : D} {l m : List Tok} (ha : TD a l) (hb : TD b m) (hl : l.length ≤ 1000000) {ob : Objs} {K : V → Prop} (h : K (.d (.bool (decide (l = m))))) : PCall P 14 [.d a, .d b] ob K := by
  refine pcall_lift hP mixed (ds := [a, b]) ok14 lf14 TOk.nil ?_
  have h' : ∀ x, x = decide (l = m) → K (.d (.bool x)) := fun b e => e ▸ h
  clear h
  simp [lt14]
  refine c_rSame hP ha hb hl ?_
  simp
  refine ⟨fun hf => h' _ ?_, fun hs => ?_⟩
  · rw [eq_comm, decide_eq_false_iff_not]
    intro e
    rw [(eq_iff_same.1 e).1] at hf; cases hf
  have he' : l.length = m.length := by
    rcases Nat.decEq l.length m.length with h | h
    · rw [sameB_len h] at hs; cases hs
    · exact h
  refine ALoop.go (ι := Nat) (fun k => [(0, .d a), (1, .d b), (5, .d (.int .i64 k))]) (fun _ => []) (fun k => k ≤ l.length ∧ ∀ i, i < k → (l[i]?.getD default).at_ = (m[i]?.getD default).at_) (fun k => l.length - k) 0 ⟨by omega, by omega⟩ (by simp) rfl ?_
  rintro k ⟨hk, hp⟩ R rn re rr _
  simp [lt14_l0, ha.idxS, hb.idxS, ha.len, ha.lenS]
  refine ⟨fun hlt => ?_, fun hge => re _ _ _ ?_⟩
  · have hm : k < m.length := he' ▸ hlt
    simp [ha.idx hlt, hb.idx hm, Tok.enc, hlt, hm]
    refine ⟨fun e => rr _ _ ?_, fun e => rn [] (k + 1) _ [] ⟨by omega, fun i hi => ?_⟩ (by omega) ?_ rfl rfl rfl⟩
    · simp
      refine h' _ ?_
      rw [eq_comm, decide_eq_false_iff_not]
      intro e2
      exact e (by simpa [hlt, hm] using (eq_iff_same.1 e2).2 k hlt)
    · by_cases hi' : i = k
      · subst hi'; simp [hlt, hm, e]
      · exact hp i (by omega)
    · simp; exact IntWalk.i64_in _ (by omega)
  · have hk' : k = l.length := by omega
    subst hk'
    simp
    exact h' _ (decide_eq_true (eq_iff_same.2 ⟨hs, hp⟩)).symm
end
end Go.Proofs.YtlkpnkkgkjkmbaaDoor
