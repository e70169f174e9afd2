/- Contracts: tokens compared. Condition: the program is the seat's. -/
import Derived.Test.YtlkpnkkgkjkmbaaDoorLx2
namespace Go.Lx
open Go Go.Ab
/-- a slice of tokens -/
def TD (a : D) (l : List Tok) : Prop := a = toks l ∨ a = .nils ∧ l = []
section
variable {a : D} {l : List Tok} (h : TD a l)
include h
theorem TD.len : lenLV (.d a) = .d (.int .i64 l.length) := by rcases h with rfl | ⟨rfl, rfl⟩ <;> simp [toks]
theorem TD.lenS (ob : Objs) : lenLS ob (.d a) = True := by rcases h with rfl | ⟨rfl, rfl⟩ <;> simp [toks]
theorem TD.idxS (k : IntKind) (i : Int) : idxAS 4 (.d a) (.d (.int k i)) = (0 ≤ i ∧ i < l.length) := by
  rcases h with rfl | ⟨rfl, rfl⟩
  · simp [toks]
  · simp [idxAS, idxAK]
theorem TD.idx {k : IntKind} {i : Nat} (hi : i < l.length) : idxAV (.d a) (.d (.int k i)) = .d (.ref (l[i]?.getD default).enc) := by
  rcases h with rfl | ⟨rfl, rfl⟩
  · simp [toks, hi]
  · simp at hi
end
def sameT (s t : Tok) : Bool := decide (s.kind = t.kind) && decide (s.text = t.text) && decide (s.n = t.n)
def sameB : List Tok → List Tok → Bool
  | [], [] => true
  | s :: l, t :: m => sameT s t && sameB l m
  | _, _ => false
theorem sameB_len {l m : List Tok} (h : l.length ≠ m.length) : sameB l m = false := by
  induction l generalizing m with
  | nil => cases m <;> simp_all [sameB]
  | cons s l ih => cases m <;> simp_all [sameB]
theorem sameB_iff {l m : List Tok} (h : l.length = m.length) : sameB l m = true ↔ ∀ i, i < l.length → sameT (l[i]?.getD default) (m[i]?.getD default) = true := by
  induction l generalizing m with
  | nil => cases m <;> simp_all [sameB]
  | cons s l ih =>
    cases m with
    | nil => simp at h
    | cons t m =>
      simp only [sameB, Bool.and_eq_true, ih (Nat.succ.inj h)]
      constructor
      · rintro ⟨h1, h2⟩ i hi
        cases i with
        | zero => simpa using h1
        | succ i => simpa using h2 i (by simpa using hi)
      · intro h1
        exact ⟨by simpa using h1 0 (by simp), fun i hi => by simpa using h1 (i + 1) (by simpa using hi)⟩
end Go.Lx
namespace Go.Proofs.YtlkpnkkgkjkmbaaDoor
open Go Go.Ab Go.Lx
set_option maxRecDepth 100000
section
variable {P : Prg} (hP : P.p = Tryd.prog)
include hP
theorem c_Same {a b : D} {l m : List Tok} (ha : TD a l) (hb : TD b m) (hl : l.length ≤ 1000000) {ob : Objs} {K : V → Prop} (h : K (.d (.bool (sameB l m)))) : PCall P 18 [.d a, .d b] ob K := by
  refine pcall_lift hP mixed (ds := [a, b]) ok18 lf18 TOk.nil ?_
  have h' : ∀ x, x = sameB l m → K (.d (.bool x)) := fun b e => e ▸ h
  clear h
  simp [lt18, ha.len, hb.len, ha.lenS, hb.lenS]
  refine ⟨fun hn => h' _ (sameB_len (by omega)).symm, fun he => ?_⟩
  have he' : l.length = m.length := by omega
  refine ALoop.go (ι := Nat) (fun k => [(0, .d a), (1, .d b), (12, .d (.int .i64 l.length)), (13, .d (.int .i64 k))]) (fun _ => []) (fun k => k ≤ l.length ∧ ∀ i, i < k → sameT (l[i]?.getD default) (m[i]?.getD default) = true) (fun k => l.length - k) 0 ⟨by omega, by omega⟩ (by simp) rfl ?_
  rintro k ⟨hk, hp⟩ R rn re rr _
  simp [lt18_l0, ha.idxS, hb.idxS]
  refine ⟨fun hlt => ?_, fun hge => re _ _ _ ?_⟩
  · have hm : k < m.length := he' ▸ hlt
    simp [ha.idx hlt, hb.idx hm, Tok.enc, hlt, hm]
    refine ⟨fun e => rr _ _ ?_, fun e1 e2 e3 => rn [] (k + 1) _ [] ⟨by omega, fun i hi => ?_⟩ (by omega) ?_ rfl rfl rfl⟩
    · simp
      refine h' _ (Eq.symm ?_)
      rw [Bool.eq_false_iff]
      intro hn
      have := (sameB_iff he').mp hn k hlt
      simp [sameT, hlt, hm] at this
      simp [this] at e
    · by_cases hi' : i = k
      · subst hi'; simp [sameT, hlt, hm, e1, e2, e3]
      · exact hp i (by omega)
    · simp; exact IntWalk.i64_in _ (by omega)
  · have hk' : k = l.length := by omega
    subst hk'
    simp
    exact h' _ ((sameB_iff he').mpr hp).symm
theorem c_rSame {a b : D} {l m : List Tok} (ha : TD a l) (hb : TD b m) (hl : l.length ≤ 1000000) {ob : Objs} {K : V → Prop} (h : K (.d (.bool (sameB l m)))) : PCall P 19 [.d a, .d b] ob K := by
  refine pcall_lift hP mixed (ds := [a, b]) ok19 lf19 TOk.nil ?_
  have h' : ∀ x, x = sameB l m → K (.d (.bool x)) := fun b e => e ▸ h
  clear h
  simp [lt19, ha.len, hb.len, ha.lenS, hb.lenS]
  refine ⟨fun hn => h' _ (sameB_len (by omega)).symm, fun he => ?_⟩
  have he' : l.length = m.length := by omega
  refine ALoop.go (ι := Nat) (fun k => [(0, .d a), (1, .d b), (5, .d (.int .i64 k))]) (fun _ => []) (fun k => k ≤ l.length ∧ ∀ i, i < k → sameT (l[i]?.getD default) (m[i]?.getD default) = true) (fun k => l.length - k) 0 ⟨by omega, by omega⟩ (by simp) rfl ?_
  rintro k ⟨hk, hp⟩ R rn re rr _
  simp [lt19_l0, ha.idxS, hb.idxS, ha.len, ha.lenS]
  refine ⟨fun hlt => ?_, fun hge => re _ _ _ ?_⟩
  · have hm : k < m.length := he' ▸ hlt
    simp [ha.idx hlt, hb.idx hm, Tok.enc, hlt, hm]
    refine ⟨fun e => rr _ _ ?_, fun e1 e2 e3 => rn [] (k + 1) _ [] ⟨by omega, fun i hi => ?_⟩ (by omega) ?_ rfl rfl rfl⟩
    · simp
      refine h' _ (Eq.symm ?_)
      rw [Bool.eq_false_iff]
      intro hn
      have := (sameB_iff he').mp hn k hlt
      simp [sameT, hlt, hm] at this
      simp [this] at e
    · by_cases hi' : i = k
      · subst hi'; simp [sameT, hlt, hm, e1, e2, e3]
      · exact hp i (by omega)
    · simp; exact IntWalk.i64_in _ (by omega)
  · have hk' : k = l.length := by omega
    subst hk'
    simp
    exact h' _ ((sameB_iff he').mpr hp).symm
end
end Go.Proofs.YtlkpnkkgkjkmbaaDoor
