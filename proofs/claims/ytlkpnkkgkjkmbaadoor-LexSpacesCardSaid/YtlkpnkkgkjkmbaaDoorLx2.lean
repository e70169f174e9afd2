/- Contracts: names, signs and numbers of the document. Condition: the program is the seat's. -/
import Derived.Test.YtlkpnkkgkjkmbaaDoorLx1
namespace Go.Lx
open Go Go.Ab
/-- a number's digits read from the left: none if it grows beyond the greatest -/
def numGo : Int → List UInt8 → Option Int
  | n, [] => some n
  | n, c :: r => if 1099511627776 < 10 * n + (c.toNat - 48) then none else numGo (10 * n + (c.toNat - 48)) r
def numV (s : List UInt8) : V := match numGo 0 s with
  | none => .tup [.d (.int .i64 0), .d (.bool false)]
  | some n => .tup [.d (.int .i64 n), .d (.bool (decide (s.length = 1) || !decide ((s.getD 0 0).toNat = 48)))]
theorem numGo_drop {s : List UInt8} {k : Nat} {n : Int} (h : k < s.length) : numGo n (s.drop k) = if 1099511627776 < 10 * n + ((s[k]?.getD 0).toNat - 48) then none else numGo (10 * n + ((s[k]?.getD 0).toNat - 48)) (s.drop (k + 1)) := by
  rw [List.drop_eq_getElem_cons h]
  simp [numGo, h]
end Go.Lx
namespace Go.Proofs.YtlkpnkkgkjkmbaaDoor
open Go Go.Ab Go.Lx
set_option maxRecDepth 100000
section
variable {P : Prg} (hP : P.p = Tryd.prog)
include hP
theorem c_rName : PFn P 21 (fnS nameB) := fnS_of fun s ob K h => by
  refine pcall_lift hP mixed (ds := [.str s]) ok21 lf21 (TOk.cons (c_Letter hP) (TOk.cons (c_part hP) TOk.nil)) ?_
  have h' : ∀ b, b = nameB s → K (.d (.bool b)) := fun b e => e ▸ h
  clear h
  simp [lt21]
  refine ⟨fun h1 h2 => by omega, fun hne => h' _ ?_, fun h1 h2 h3 => ?_⟩
  · rcases hne with h1 | h1
    · simp [nameB]; omega
    · simp [nameB, h1]
  · refine ALoop.go (ι := Nat) (fun k => [(0, .d (.str s)), (3, .d (.int .i64 k))]) (fun _ => []) (fun k => k ≤ s.length ∧ ∀ i, i < k → partI (s[i]?.getD 0).toNat = true) (fun k => s.length - k) 0 ⟨by omega, by omega⟩ (by simp) rfl ?_
    rintro k ⟨hk, hp⟩ R rn re rr _
    simp [lt21_l0]
    refine ⟨fun hlt => ⟨hlt, fun e => rr _ _ ?_, fun e => rn [] (k + 1) _ _ ⟨by omega, fun i hi => ?_⟩ (by omega) ?_ rfl rfl rfl⟩, fun hge => re _ _ _ ?_⟩
    · simp
      refine h' _ (Eq.symm ?_)
      rw [Bool.eq_false_iff]
      intro hn
      simp only [nameB, Bool.and_eq_true, all_iff, List.getD_eq_getElem?_getD] at hn
      rw [hn.2 k hlt] at e; cases e
    · by_cases hi' : i = k
      · subst hi'; exact e
      · exact hp i (by omega)
    · simp; exact IntWalk.i64_in _ (by omega)
    · have hk' : k = s.length := by omega
      subst hk'
      simp
      refine h' _ (Eq.symm ?_)
      simp only [nameB, Bool.and_eq_true, all_iff, List.getD_eq_getElem?_getD]
      exact ⟨⟨by simp; omega, h3⟩, hp⟩
theorem c_Sign : PFn P 35 (fnI signI) := fnI_of fun n ob K h => by
  refine pcall_lift hP mixed (ds := [.int .u8 n]) ok35 lf35 TOk.nil ?_
  have h' : ∀ b, b = signI n → K (.d (.bool b)) := fun b e => e ▸ h
  clear h
  simp [lt35]
  show ALoop _ _ _ [_, (3, V.d (D.str signs)), _] _
  refine ALoop.go (ι := Nat) (fun k => [(0, .d (.int .u8 n)), (3, .d (.str signs)), (4, .d (.int .i64 k))]) (fun _ => []) (fun k => k ≤ signs.length ∧ ∀ i, i < k → ¬ ((signs[i]?.getD 0).toNat : Int) = n) (fun k => signs.length - k) 0 ⟨by simp, by omega⟩ (by simp) rfl ?_
  have hl : signs.length = 15 := rfl
  have hs : signI n = true ↔ ∃ i, i < signs.length ∧ ((signs[i]?.getD 0).toNat : Int) = n := by
    simp only [signI, List.any_eq_true, decide_eq_true_eq]
    constructor
    · rintro ⟨x, hx, e⟩
      obtain ⟨i, hi, rfl⟩ := List.getElem_of_mem hx
      exact ⟨i, hi, by simpa [hi] using e⟩
    · rintro ⟨i, hi, e⟩
      exact ⟨signs[i], List.getElem_mem hi, by simpa [hi] using e⟩
  generalize signs = s at *
  rintro k ⟨hk, hp⟩ R rn re rr _
  simp [lt35_l0]
  refine ⟨fun hlt => ⟨hlt, fun e => rr _ _ ?_, fun e => rn [] (k + 1) _ _ ⟨by omega, fun i hi => ?_⟩ (by omega) ?_ rfl rfl rfl⟩, fun hge => re _ _ _ ?_⟩
  · simp
    exact h' _ (hs.mpr ⟨k, hlt, e⟩).symm
  · by_cases hi' : i = k
    · subst hi'; exact e
    · exact hp i (by omega)
  · simp; exact IntWalk.i64_in _ (by omega)
  · simp
    refine h' _ (Eq.symm ?_)
    rw [Bool.eq_false_iff]
    intro hn
    obtain ⟨i, hi, e⟩ := hs.mp hn
    exact hp i (by omega) e
theorem c_number (s : List UInt8) (hd : ∀ i, i < s.length → digitI (s[i]?.getD 0).toNat = true) (hn : s ≠ []) (hs : s.length ≤ 1000000) {ob : Objs} {K : V → Prop} (h : K (numV s)) : PCall P 34 [.d (.str s)] ob K := by
  refine pcall_lift hP mixed (ds := [.str s]) ok34 lf34 TOk.nil ?_
  simp [lt34]
  refine ALoop.go (ι := Nat × Int) (fun k => [(0, .d (.str s)), (4, .d (.int .i64 k.2)), (5, .d (.int .i64 k.1))]) (fun _ => []) (fun k => k.1 ≤ s.length ∧ 0 ≤ k.2 ∧ k.2 ≤ 1099511627776 ∧ numGo 0 s = numGo k.2 (s.drop k.1)) (fun k => s.length - k.1) (0, 0) ⟨by simp, by simp, by simp, by simp⟩ (by simp) rfl ?_
  rintro ⟨k, n⟩ ⟨hk, h1, h2, h3⟩ R rn re rr _
  simp only at hk h1 h2 h3
  simp [lt34_l0]
  have hw : k < s.length → IntKind.i64.wrap (IntKind.i64.wrap (10 * n) + IntKind.i64.wrap (IntKind.u8.wrap ((s[k]?.getD 0).toNat - 48))) = 10 * n + ((s[k]?.getD 0).toNat - 48) ∧ (48 : Int) ≤ (s[k]?.getD 0).toNat := fun hlt => by
    have hc := hd k hlt
    simp [digitI] at hc
    rw [IntWalk.u8_in _ (by omega), IntWalk.i64_in (10 * n) (by omega), IntWalk.i64_in (_ - 48) (by omega), IntWalk.i64_in _ (by omega)]
    exact ⟨rfl, by omega⟩
  refine ⟨fun hlt => ⟨hlt, ?_⟩, fun hge => re _ _ _ ?_⟩
  · rw [numGo_drop hlt] at h3
    obtain ⟨hw, hc⟩ := hw hlt
    rw [hw]
    refine ⟨fun e => rr _ _ ?_, fun e => rn [] (k + 1, 10 * n + ((s[k]?.getD 0).toNat - 48)) _ _ ⟨by simp; omega, by simp; omega, by simp; omega, ?_⟩ (by simp; omega) ?_ rfl rfl rfl⟩
    · rw [if_pos e] at h3
      simp [numV, h3] at h
      simp; exact h
    · rw [if_neg (by omega)] at h3
      exact h3
    · simp; exact IntWalk.i64_in _ (by omega)
  · clear rn rr hw
    have hk' : k = s.length := by omega
    subst hk'
    simp [numGo] at h3
    simp [numV, h3] at h
    have hl : 0 < s.length := by cases s with | nil => exact absurd rfl hn | cons => simp
    simp
    refine ⟨fun _ => hl, ?_⟩
    refine (congrArg K ?_).mp h
    simp
    rw [Bool.eq_iff_iff]; simp; omega
end
end Go.Proofs.YtlkpnkkgkjkmbaaDoor
