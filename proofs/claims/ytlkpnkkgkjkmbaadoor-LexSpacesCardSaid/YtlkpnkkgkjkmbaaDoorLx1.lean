/- Contracts: classes of bytes and names, of the program and of the document. Condition: the program is the seat's. -/
import Derived.Test.YtlkpnkkgkjkmbaaDoorLt1
import Derived.Test.YtlkpnkkgkjkmbaaDoorLx0
namespace Go.Proofs.YtlkpnkkgkjkmbaaDoor
open Go Go.Ab Go.Lx
theorem mixed : Tryd.prog.follows .mixedOrders = true := by kernel_rfl
set_option maxRecDepth 100000

/-- a function of one number -/
def fnI (f : Int → Bool) : Ab.Fn := ⟨fun vs => match vs with | [.d (.int .u8 _)] => True | _ => False, fun vs => match vs with | [.d (.int .u8 n)] => .d (.bool (f n)) | _ => .any⟩
@[simp] theorem fnI_pre (f : Int → Bool) (n : Int) : (fnI f).pre [.d (.int .u8 n)] = True := by simp only [fnI]
@[simp] theorem fnI_val (f : Int → Bool) (n : Int) : (fnI f).val [.d (.int .u8 n)] = .d (.bool (f n)) := by simp only [fnI]
theorem fnI_of {P : Prg} {k : Nat} {f : Int → Bool} (h : ∀ n ob (K : V → Prop), K (.d (.bool (f n))) → PCall P k [.d (.int .u8 n)] ob K) : PFn P k (fnI f) := by
  intro vs hp ob K hK
  simp only [fnI] at hp hK
  split at hp
  · exact h _ _ _ hK
  · exact hp.elim
/-- a function of one text -/
def fnS (f : List UInt8 → Bool) : Ab.Fn := ⟨fun vs => match vs with | [.d (.str _)] => True | _ => False, fun vs => match vs with | [.d (.str s)] => .d (.bool (f s)) | _ => .any⟩
@[simp] theorem fnS_pre (f : List UInt8 → Bool) (s : List UInt8) : (fnS f).pre [.d (.str s)] = True := by simp only [fnS]
@[simp] theorem fnS_val (f : List UInt8 → Bool) (s : List UInt8) : (fnS f).val [.d (.str s)] = .d (.bool (f s)) := by simp only [fnS]
theorem fnS_of {P : Prg} {k : Nat} {f : List UInt8 → Bool} (h : ∀ s ob (K : V → Prop), K (.d (.bool (f s))) → PCall P k [.d (.str s)] ob K) : PFn P k (fnS f) := by
  intro vs hp ob K hK
  simp only [fnS] at hp hK
  split at hp
  · exact h _ _ _ hK
  · exact hp.elim

section
variable {P : Prg} (hP : P.p = Tryd.prog)
include hP
theorem c_Letter : PFn P 31 (fnI letterI) := fnI_of fun n ob K h => by
  refine pcall_lift hP mixed (ds := [.int .u8 n]) ok31 lf31 TOk.nil ?_
  have h' : ∀ b, b = letterI n → K (.d (.bool b)) := fun b e => e ▸ h
  simp [lt31]
  apply h'; rw [Bool.eq_iff_iff]; simp [letterI]; try omega
theorem c_Figure : PFn P 33 (fnI digitI) := fnI_of fun n ob K h => by
  refine pcall_lift hP mixed (ds := [.int .u8 n]) ok33 lf33 TOk.nil ?_
  have h' : ∀ b, b = digitI n → K (.d (.bool b)) := fun b e => e ▸ h
  simp [lt33]
  apply h'; rw [Bool.eq_iff_iff]; simp [digitI]; try omega
theorem c_Space : PFn P 22 (fnI spaceI) := fnI_of fun n ob K h => by
  refine pcall_lift hP mixed (ds := [.int .u8 n]) ok22 lf22 TOk.nil ?_
  have h' : ∀ b, b = spaceI n → K (.d (.bool b)) := fun b e => e ▸ h
  simp [lt22]
  apply h'; rw [Bool.eq_iff_iff]; simp [spaceI]; try omega
theorem c_part : PFn P 32 (fnI partI) := fnI_of fun n ob K h => by
  refine pcall_lift hP mixed (ds := [.int .u8 n]) ok32 lf32 (TOk.cons (c_Letter hP) (TOk.cons (c_Figure hP) TOk.nil)) ?_
  have h' : ∀ b, b = partI n → K (.d (.bool b)) := fun b e => e ▸ h
  simp [lt32]
  apply h'; rw [Bool.eq_iff_iff]; simp [partI]; try omega
theorem c_Name : PFn P 20 (fnS nameB) := fnS_of fun s ob K h => by
  refine pcall_lift hP mixed (ds := [.str s]) ok20 lf20 TOk.nil ?_
  have h' : ∀ b, b = nameB s → K (.d (.bool b)) := fun b e => e ▸ h
  clear h
  simp [lt20]
  refine ⟨fun hne => h' _ ?_, fun h0 h1 => ?_⟩
  · rcases hne with rfl | h1
    · simp [nameB]
    · simp [nameB]; omega
  · have h0' : 1 ≤ s.length := by cases s with | nil => exact absurd rfl h0 | cons => simp
    refine ALoop.go (ι := Nat) (fun k => [(0, .d (.str s)), (14, .d (.int .i64 s.length)), (15, .d (.int .i64 k))]) (fun _ => []) (fun k => k ≤ s.length ∧ (∀ i, i < k → partI (s.getD i 0).toNat = true) ∧ (0 < k → letterI (s.getD 0 0).toNat = true)) (fun k => s.length - k) 0 ⟨by omega, by omega, by omega⟩ (by simp) rfl ?_
    rintro k ⟨hk, hp, hl⟩ R rn re rr _
    simp [lt20_l0]
    simp only [List.getD_eq_getElem?_getD] at hp hl rn
    refine ⟨fun hlt => ⟨hlt, fun e1 e2 e3 => rr _ _ ?_, fun e => rn [] (k + 1) _ _ ⟨by omega, fun i hi => ?_, fun _ => ?_⟩ (by omega) ?_ rfl rfl rfl⟩, fun hge => re _ _ _ ?_⟩
    · simp
      refine h' _ (Eq.symm ?_)
      rw [Bool.eq_false_iff]
      intro hn
      simp only [nameB, Bool.and_eq_true, all_iff, List.getD_eq_getElem?_getD] at hn
      have := hn.2 k hlt
      have h2 := hn.1.2
      rcases e3 with rfl | e3
      · simp [letterI] at h2; omega
      · simp [partI, letterI, digitI] at this; omega
    · by_cases hi' : i = k
      · subst hi'; simp [partI, letterI, digitI]; omega
      · exact hp i (by omega)
    · by_cases h2 : k = 0
      · subst h2; simp [letterI]; omega
      · exact hl (by omega)
    · simp; exact IntWalk.i64_in _ (by omega)
    · have hk' : k = s.length := by omega
      subst hk'
      simp
      refine h' _ (Eq.symm ?_)
      simp only [nameB, Bool.and_eq_true, all_iff, List.getD_eq_getElem?_getD]
      exact ⟨⟨by simp; omega, hl h0'⟩, hp⟩
end
end Go.Proofs.YtlkpnkkgkjkmbaaDoor
