/- Contracts: strings.Contains at one byte, strconv.Itoa, which tokens are valid, decimal digits. Condition: the program is the seat's; the powers of ten are laid. -/
import Derived.Test.YtlkpnkkgkjkmbaaDoorLx10
import Derived.Test.YtlkpnkkgkjkmbaaDoorShl
namespace Go.Lx
open Go Go.Ab
/-- whether a byte is in a text -/
def hasB (s : List UInt8) (c : UInt8) : Bool := s.any fun b => b == c
def fnC : Ab.Fn := ⟨fun vs => match vs with | [.d (.str _), .d (.str t)] => t.length = 1 | _ => False, fun vs => match vs with | [.d (.str s), .d (.str t)] => .d (.bool (hasB s (t.headD 0))) | _ => .any⟩
@[simp] theorem fnC_pre (s t : List UInt8) : fnC.pre [.d (.str s), .d (.str t)] = (t.length = 1) := by simp only [fnC]
@[simp] theorem fnC_val (s t : List UInt8) : fnC.val [.d (.str s), .d (.str t)] = .d (.bool (hasB s (t.headD 0))) := by simp only [fnC]
def validB (t : Tok) : Bool :=
  if t.kind = 1 then nameB t.text && decide (t.n = 0)
  else if t.kind = 2 then decide (t.text = []) && decide (0 ≤ t.n) && decide (t.n ≤ 1099511627776)
  else if t.kind = 3 then decide (t.text.length = 1) && signB (t.text.headD 0) && decide (t.n = 0)
  else false
/-- the powers of ten are where the library looks for them -/
def Pow (P : Prg) : Prop := ∃ T f, P.g 1 = some (.cells (Lib.pow10Tab.map fun z => Value.int .u64 z).toArray T f)
theorem ext_grow (w : World) (k : Nat) (os : Array Obj) : Ext w (Go.Sort.grow (w.drewN k) os) := by
  refine ⟨by simp [Go.Sort.grow], fun b hb => ?_, rfl, rfl, rfl⟩
  simp [Go.Sort.grow, Array.getElem?_append, hb]
theorem any_index (s : List UInt8) (c : UInt8) : decide (0 ≤ Lib.indexByte s c) = hasB s c := by
  unfold hasB
  induction s with
  | nil => rfl
  | cons b r ih =>
    have hg := Lib.indexByte_ge r c
    simp only [Lib.indexByte, List.any_cons, ← ih]
    by_cases h : b == c
    · simp [h]
    · simp only [h]
      by_cases h2 : Lib.indexByte r c = -1
      · simp [h2]
      · have h3 : (Lib.indexByte r c == -1) = false := by simp [h2]
        simp only [h3, Bool.false_or]
        have : 0 ≤ Lib.indexByte r c := by omega
        simp [this]; omega
theorem hasB_signs (c : UInt8) : hasB [123, 125, 40, 41, 59, 44, 61, 35, 47, 60, 33, 45, 46, 58, 43] c = signB c := by
  unfold hasB signB signI signs
  congr 1
  funext b
  rw [Bool.eq_iff_iff]
  simp only [beq_iff_eq, decide_eq_true_eq, Int.natCast_inj]
  constructor
  · intro h; rw [h]
  · intro h; exact UInt8.toNat_inj.1 h
theorem len1 (s : List UInt8) : decide ((s.length : Int) = 1) = decide (s.length = 1) := by
  rw [Bool.eq_iff_iff]; simp only [decide_eq_true_eq]; omega
theorem head0 (s : List UInt8) : s[0]? = s.head? := by cases s <;> rfl
end Go.Lx
namespace Go.Proofs.YtlkpnkkgkjkmbaaDoor
open Go Go.Ab Go.Lx
set_option maxRecDepth 100000
section
variable {P : Prg} (hP : P.p = Tryd.prog)
include hP
theorem c_Contains : PFn P 49 fnC := by
  intro vs hp ob K hK
  simp only [fnC] at hp hK
  split at hp
  · rename_i s t
    simp only at hK
    match t, hp with
    | [c], _ =>
      refine ⟨fun w ρ args ho hg hr => ?_⟩
      simp only [V.reps, ↓reduceCtorEq, false_or, V.isAgg, Bool.false_eq_true, false_and, V.repC, D.rep, true_and, List.cons.injEq, and_true] at hr
      obtain ⟨u, us, rfl, hu, u2, us2, rfl, hu2, rfl⟩ := hr
      subst hu; subst hu2
      rw [hP]
      refine (Tryd.strings_Contains_one ⟨s.toArray⟩ c w).mono ?_
      rintro e w' ⟨rfl, rfl⟩
      refine ⟨_, _, hK, rfl, ?_, Ext.refl w'⟩
      rw [rep_bool, any_index]
      rfl
  · exact hp.elim
theorem c_Itoa (hT : Pow P) (n : Int) (h0 : 0 ≤ n) (h1 : n ≤ 9223372036854775807) {ob : Objs} {K : V → Prop} (h : K (.d (.str (Lib.itoa n)))) : PCall P 39 [.d (.int .i64 n)] ob K := by
  refine ⟨fun w ρ args ho hg hr => ?_⟩
  simp only [V.reps, ↓reduceCtorEq, false_or, V.isAgg, Bool.false_eq_true, false_and, V.repC, D.rep, true_and, List.cons.injEq, and_true] at hr
  obtain ⟨u, us, rfl, hu, rfl⟩ := hr
  subst hu
  rw [hP]
  obtain ⟨T, f, hT⟩ := hT
  have hb := (ho.glb 1 _ (by rw [hg, hT])).1
  have htab : Lib.TabIs Tryd.prog w "internal/strconv.uint64pow10" .u64 Lib.pow10Tab := by
    have hn : Tryd.prog.globalNamed "internal/strconv.uint64pow10" = some 1 := by kernel_rfl
    simp only [Lib.TabIs, World.var?, hn, Option.bind_some, hb]
  refine (Tryd.strconv_Itoa n (by omega) h1 w htab).mono ?_
  rintro e w' ⟨rfl, k, os, rfl⟩
  exact ⟨_, _, h, rfl, rep_str.2 rfl, ext_grow w k os⟩
theorem c_valid (t : Tok) {ob : Objs} {K : V → Prop} (h : K (.d (.bool (validB t)))) : PCall P 36 [.d t.enc] ob K := by
  refine pcall_lift hP mixed (ds := [t.enc]) ok36 lf36 (TOk.cons (c_Name hP) (TOk.cons (c_Contains hP) TOk.nil)) ?_
  have h' : ∀ x, x = validB t → K (.d (.bool x)) := fun b e => e ▸ h
  clear h
  obtain ⟨k, s, n, i⟩ := t
  simp [lt36, Tok.enc, hasB_signs]
  refine ⟨fun h1 => h' _ ?_, fun h1 => ⟨fun h2 => h' _ ?_, fun h2 => ⟨fun h3 => ⟨fun h4 => by omega, h' _ ?_⟩, fun h3 => h' _ ?_⟩⟩⟩
  · subst h1; simp [validB, Bool.beq_eq_decide_eq]
  · subst h2; simp [validB]
  · subst h3; simp [validB, Bool.beq_eq_decide_eq, len1, signB, head0]
  · simp [validB, h1, h2, h3]
theorem c_rValid (t : Tok) {ob : Objs} {K : V → Prop} (h : K (.d (.bool (validB t)))) : PCall P 41 [.d t.enc] ob K := by
  refine pcall_lift hP mixed (ds := [t.enc]) ok41 lf41 (TOk.cons (c_rName hP) (TOk.cons (c_Sign hP) TOk.nil)) ?_
  have h' : ∀ x, x = validB t → K (.d (.bool x)) := fun b e => e ▸ h
  clear h
  obtain ⟨k, s, n, i⟩ := t
  simp [lt41, Tok.enc]
  refine ⟨fun h1 => h' _ ?_, fun h1 => ⟨fun h2 => h' _ ?_, fun h2 => ⟨fun h3 => ⟨fun h4 => by omega, h' _ ?_⟩, fun h3 => h' _ ?_⟩⟩⟩
  · subst h1; simp [validB, Bool.beq_eq_decide_eq]
  · subst h2; simp [validB]
  · subst h3; simp [validB, Bool.beq_eq_decide_eq, len1, signB, head0]
  · simp [validB, h1, h2, h3]
end
end Go.Proofs.YtlkpnkkgkjkmbaaDoor
