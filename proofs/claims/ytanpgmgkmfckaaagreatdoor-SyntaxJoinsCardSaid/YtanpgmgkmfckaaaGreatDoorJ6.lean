/- Texts of this claim joined by a program, part 6 of 7; the last is: The law SyntaxJoins. Condition: the program is the seat's; its package variables are laid. -/
import Derived.Test.YtanpgmgkmfckaaaGreatDoorJ5
import Derived.Test.YtanpgmgkmfckaaaGreatDoorProg
import Derived.KernelRfl
set_option linter.unusedSimpArgs false
set_option linter.unusedVariables false
set_option linter.unusedSectionVars false
/- Contract: the reference's Same, at equal arguments. Condition: the program is the seat's. -/
namespace Go.Sx
open Go Go.Ab Go.Lx
def fnEq (ok : D → Prop) : Ab.Fn := ⟨fun vs => ∃ d, ok d ∧ vs = [.d d, .d d], fun _ => .d (.bool true)⟩
@[simp] theorem fnEq_val (ok : D → Prop) (vs : List V) : (fnEq ok).val vs = .d (.bool true) := rfl
@[simp] theorem fnEq_pre (ok : D → Prop) (a b : D) : (fnEq ok).pre [.d a, .d b] = (a = b ∧ ok a) := by
  rw [eq_iff_iff]
  constructor
  · rintro ⟨d, h, e⟩; cases e; exact ⟨rfl, h⟩
  · rintro ⟨rfl, h⟩; exact ⟨a, h, rfl⟩
def okNames (d : D) : Prop := ∃ l : List B, d = strsD l ∧ l.length ≤ 1152921504606846976
def okInts (d : D) : Prop := ∃ l : List Int, d = intsD l ∧ l.length ≤ 1152921504606846976
def okType (d : D) : Prop := ∃ t : RType, d = t.enc ∧ t.names.length ≤ 1152921504606846976
theorem okNames_of {l : List B} (h : l.length ≤ 1152921504606846976) : okNames (.list 1 (l.map .str)) := ⟨l, rfl, h⟩
theorem okInts_of {l : List Int} (h : l.length ≤ 1152921504606846976) : okInts (.list 1 (l.map iD)) := ⟨l, rfl, h⟩
theorem okType_of {t : RType} (h : t.names.length ≤ 1152921504606846976) : okType (.agg [iD t.kind, iD t.lo, iD t.hi, .str t.of_, iD t.unit, .list 1 (t.names.map .str)]) := ⟨t, rfl, h⟩
mutual
theorem eqb_self : ∀ x : D, D.eqb x x = true
  | .int .. | .bool .. | .str .. | .nils | .nili | .nilp | .nilf | .nilm => by simp [D.eqb]
  | .list z a => by simp [D.eqb, eqbs_self a]
  | .agg a => by simp only [D.eqb, eqbs_self a]
  | .ref a => by simp only [D.eqb, eqb_self a]
  | .iface t a => by simp [D.eqb, eqb_self a]
  | .fn f a b => by simp [D.eqb, eqbs_self a, eqbs_self b]
theorem eqbs_self : ∀ x : List D, D.eqbs x x = true
  | [] => by simp only [D.eqbs]
  | x :: r => by simp [D.eqbs, eqb_self x, eqbs_self r]
end
end Go.Sx
namespace Go.Proofs.YtanpgmgkmfckaaaGreatDoor
open Go Go.Ab Go.Lx Go.Sx
set_option maxRecDepth 100000
section
variable {P : Prg} (hP : P.p = Tryz.prog)
include hP
theorem c_SameNames {l : List B} (hl : l.length ≤ 1152921504606846976) {ob : Objs} {K : V → Prop} (h : K (.d (.bool true))) : PCall P 28 [.d (strsD l), .d (strsD l)] ob K := by
  refine pcall_lift hP mixed (ds := [strsD l, strsD l]) ok28 lf28 TOk.nil ?_
  simp [lt28, strsD]
  refine ALoop.go (ι := Nat) (fun k => [(0, .d (strsD l)), (1, .d (strsD l)), (5, .d (.int .i64 k))]) (fun _ => []) (fun k => k ≤ l.length) (fun k => l.length - k) 0 (by simp) (by simp [strsD]) (by simp) ?_
  intro k hk R rn re rr rp
  by_cases hlt : k < l.length
  · simp [lt28_l0, hlt, strsD]
    refine rn [] (k + 1) _ _ (by omega) (by omega) ?_ (by simp [young]) (by simp [young]) (by simp [young])
    simp [strsD]
    exact IntWalk.i64_in _ (by omega)
  · obtain rfl : k = l.length := by omega
    simp [lt28_l0, strsD]
    refine re _ _ _ ?_
    simp
    exact h
theorem c_SameInts {l : List Int} (hl : l.length ≤ 1152921504606846976) {ob : Objs} {K : V → Prop} (h : K (.d (.bool true))) : PCall P 98 [.d (intsD l), .d (intsD l)] ob K := by
  refine pcall_lift hP mixed (ds := [intsD l, intsD l]) ok98 lf98 TOk.nil ?_
  simp [lt98, intsD]
  refine ALoop.go (ι := Nat) (fun k => [(0, .d (intsD l)), (1, .d (intsD l)), (5, .d (.int .i64 k))]) (fun _ => []) (fun k => k ≤ l.length) (fun k => l.length - k) 0 (by simp) (by simp [intsD]) (by simp) ?_
  intro k hk R rn re rr rp
  by_cases hlt : k < l.length
  · simp [lt98_l0, hlt, intsD]
    refine rn [] (k + 1) _ _ (by omega) (by omega) ?_ (by simp [young]) (by simp [young]) (by simp [young])
    simp [intsD]
    exact IntWalk.i64_in _ (by omega)
  · obtain rfl : k = l.length := by omega
    simp [lt98_l0, intsD]
    refine re _ _ _ ?_
    simp
    exact h
theorem t_SameNames : PFn P 28 (fnEq okNames) := by
  rintro vs ⟨d, ⟨l, rfl, hl⟩, rfl⟩ ob K h
  exact c_SameNames hP hl h
theorem t_SameInts : PFn P 98 (fnEq okInts) := by
  rintro vs ⟨d, ⟨l, rfl, hl⟩, rfl⟩ ob K h
  exact c_SameInts hP hl h
theorem c_SameType {t : RType} (hl : t.names.length ≤ 1152921504606846976) {ob : Objs} {K : V → Prop} (h : K (.d (.bool true))) : PCall P 97 [.d t.enc, .d t.enc] ob K := by
  refine pcall_lift hP mixed (ds := [t.enc, t.enc]) ok97 lf97 (TOk.cons (t_SameNames hP) TOk.nil) ?_
  simp [lt97, RType.enc, strsD, okNames_of hl]
  exact h
theorem t_SameType : PFn P 97 (fnEq okType) := by
  rintro vs ⟨d, ⟨l, rfl, hl⟩, rfl⟩ ob K h
  exact c_SameType hP hl h
theorem c_SamePurpose {x : RPurpose} (hs : x.may.length ≤ 1152921504606846976) {ob : Objs} {K : V → Prop} (h : K (.d (.bool true))) : PCall P 32 [.d x.enc, .d x.enc] ob K := by
  refine pcall_lift hP mixed (ds := [x.enc, x.enc]) ok32 lf32 TOk.nil ?_
  simp [lt32, RPurpose.enc]
  refine ALoop.go (ι := Nat) (fun k => [(2, .ptr 0 []), (3, .ptr 1 []), (5, .d (.int .i64 k))]) (fun _ => [(1, .box 88 (.d x.enc)), (0, .box 88 (.d x.enc))]) (fun k => k ≤ x.may.length) (fun k => x.may.length - k) 0 (by simp) (by simp) (by simp [RPurpose.enc]) ?_
  intro k hk R rn re rr rp
  have hl := hs
  by_cases hlt : k < x.may.length
  · simp [lt32_l0, RPurpose.enc, hlt, RRef.enc, KT.fits, KT.fitss, eqb_self]
    refine rn [] (k + 1) _ _ (by omega) (by omega) ?_ (by simp [young, RPurpose.enc]) (by simp [young]) (by simp [young])
    simp
    exact IntWalk.i64_in _ (by omega)
  obtain rfl : k = x.may.length := by omega
  simp [lt32_l0, RPurpose.enc]
  refine re _ _ _ ?_
  clear rn re rr rp
  simp
  exact h
theorem c_SameConvert {x : RConvert} (hs : x.moves.length ≤ 1152921504606846976) {ob : Objs} {K : V → Prop} (h : K (.d (.bool true))) : PCall P 31 [.d x.enc, .d x.enc] ob K := by
  refine pcall_lift hP mixed (ds := [x.enc, x.enc]) ok31 lf31 TOk.nil ?_
  simp [lt31, RConvert.enc]
  refine ALoop.go (ι := Nat) (fun k => [(2, .ptr 0 []), (3, .ptr 1 []), (5, .d (.int .i64 k))]) (fun _ => [(1, .box 84 (.d x.enc)), (0, .box 84 (.d x.enc))]) (fun k => k ≤ x.moves.length) (fun k => x.moves.length - k) 0 (by simp) (by simp) (by simp [RConvert.enc]) ?_
  intro k hk R rn re rr rp
  have hl := hs
  by_cases hlt : k < x.moves.length
  · simp [lt31_l0, RConvert.enc, hlt, RMove.enc, KT.fits, KT.fitss, eqb_self]
    refine rn [] (k + 1) _ _ (by omega) (by omega) ?_ (by simp [young, RConvert.enc]) (by simp [young]) (by simp [young])
    simp
    exact IntWalk.i64_in _ (by omega)
  obtain rfl : k = x.moves.length := by omega
  simp [lt31_l0, RConvert.enc]
  refine re _ _ _ ?_
  clear rn re rr rp
  simp
  exact h
theorem c_SameRule {x : RRule} (hs : x.small) {ob : Objs} {K : V → Prop} (h : K (.d (.bool true))) : PCall P 30 [.d x.enc, .d x.enc] ob K := by
  refine pcall_lift hP mixed (ds := [x.enc, x.enc]) ok30 lf30 TOk.nil ?_
  simp [lt30, RRule.enc]
  refine ALoop.go (ι := Nat) (fun k => [(2, .ptr 0 []), (3, .ptr 1 []), (5, .d (.int .i64 k))]) (fun _ => [(1, .box 50 (.d x.enc)), (0, .box 50 (.d x.enc))]) (fun k => k ≤ x.froms.length) (fun k => x.froms.length - k) 0 (by simp) (by simp) (by simp [RRule.enc]) ?_
  intro k hk R rn re rr rp
  have hl := hs.froms
  by_cases hlt : k < x.froms.length
  · simp [lt30_l2, RRule.enc, hlt, RFrom.enc, RTerm.enc, KT.fits, KT.fitss, eqb_self]
    refine rn [] (k + 1) _ _ (by omega) (by omega) ?_ (by simp [young, RRule.enc]) (by simp [young]) (by simp [young])
    simp
    exact IntWalk.i64_in _ (by omega)
  obtain rfl : k = x.froms.length := by omega
  simp [lt30_l2, RRule.enc]
  refine re _ _ _ ?_
  clear rn re rr rp
  simp
  refine ALoop.go (ι := Nat) (fun k => [(2, .ptr 0 []), (3, .ptr 1 []), (6, .d (.int .i64 k))]) (fun _ => [(1, .box 50 (.d x.enc)), (0, .box 50 (.d x.enc))]) (fun k => k ≤ x.wheres.length) (fun k => x.wheres.length - k) 0 (by simp) (by simp) (by simp [RRule.enc]) ?_
  intro k hk R rn re rr rp
  have hl := hs.wheres
  by_cases hlt : k < x.wheres.length
  · simp [lt30_l1, RRule.enc, hlt, RAtom.enc, RTerm.enc, KT.fits, KT.fitss, eqb_self]
    refine rn [] (k + 1) _ _ (by omega) (by omega) ?_ (by simp [young, RRule.enc]) (by simp [young]) (by simp [young])
    simp
    exact IntWalk.i64_in _ (by omega)
  obtain rfl : k = x.wheres.length := by omega
  simp [lt30_l1, RRule.enc]
  refine re _ _ _ ?_
  clear rn re rr rp
  simp
  refine ALoop.go (ι := Nat) (fun k => [(2, .ptr 0 []), (3, .ptr 1 []), (7, .d (.int .i64 k))]) (fun _ => [(1, .box 50 (.d x.enc)), (0, .box 50 (.d x.enc))]) (fun k => k ≤ x.sets.length) (fun k => x.sets.length - k) 0 (by simp) (by simp) (by simp [RRule.enc]) ?_
  intro k hk R rn re rr rp
  have hl := hs.sets
  by_cases hlt : k < x.sets.length
  · simp [lt30_l0, RRule.enc, hlt, RSet.enc, RTerm.enc, KT.fits, KT.fitss, eqb_self]
    refine rn [] (k + 1) _ _ (by omega) (by omega) ?_ (by simp [young, RRule.enc]) (by simp [young]) (by simp [young])
    simp
    exact IntWalk.i64_in _ (by omega)
  obtain rfl : k = x.sets.length := by omega
  simp [lt30_l0, RRule.enc]
  refine re _ _ _ ?_
  clear rn re rr rp
  simp
  exact h
theorem c_SameSchema {x : RSchema} (hs : x.small) {ob : Objs} {K : V → Prop} (h : K (.d (.bool true))) : PCall P 29 [.d x.enc, .d x.enc] ob K := by
  refine pcall_lift hP mixed (ds := [x.enc, x.enc]) ok29 lf29 (TOk.cons (t_SameType hP) (TOk.cons (t_SameNames hP) (TOk.cons (t_SameInts hP) TOk.nil))) ?_
  simp [lt29, RSchema.enc]
  refine ALoop.go (ι := Nat) (fun k => [(2, .ptr 0 []), (3, .ptr 1 []), (5, .d (.int .i64 k))]) (fun _ => [(1, .box 79 (.d x.enc)), (0, .box 79 (.d x.enc))]) (fun k => k ≤ x.fields.length) (fun k => x.fields.length - k) 0 (by simp) (by simp) (by simp [RSchema.enc]) ?_
  intro k hk R rn re rr rp
  have hl := hs.fields
  by_cases hlt : k < x.fields.length
  · have hn := okType_of (hs.names _ (List.getElem_mem hlt))
    simp [lt29_l1, RSchema.enc, hlt, RField.enc, RType.enc, strsD, eqb_self, hn, KT.fits, KT.fitsA]
    refine rn [] (k + 1) _ _ (by omega) (by omega) ?_ (by simp [young, RSchema.enc]) (by simp [young]) (by simp [young])
    simp
    exact IntWalk.i64_in _ (by omega)
  obtain rfl : k = x.fields.length := by omega
  simp [lt29_l1, RSchema.enc]
  refine re _ _ _ ?_
  clear rn re rr rp
  simp
  refine ALoop.go (ι := Nat) (fun k => [(2, .ptr 0 []), (3, .ptr 1 []), (6, .d (.int .i64 k))]) (fun _ => [(1, .box 79 (.d x.enc)), (0, .box 79 (.d x.enc))]) (fun k => k ≤ x.depends.length) (fun k => x.depends.length - k) 0 (by simp) (by simp) (by simp [RSchema.enc]) ?_
  intro k hk R rn re rr rp
  have hl := hs.depends
  by_cases hlt : k < x.depends.length
  · have hd := hs.deps _ (List.getElem_mem hlt)
    have hn1 := okNames_of hd.names
    have hn2 := okInts_of hd.from_
    simp [lt29_l0, RSchema.enc, hlt, RDepend.enc, strsD, intsD, hn1, hn2]
    refine rn [] (k + 1) _ _ (by omega) (by omega) ?_ (by simp [young, RSchema.enc]) (by simp [young]) (by simp [young])
    simp
    exact IntWalk.i64_in _ (by omega)
  obtain rfl : k = x.depends.length := by omega
  simp [lt29_l0, RSchema.enc]
  refine re _ _ _ ?_
  clear rn re rr rp
  simp
  exact h
theorem c_Same {x : RSrc} (hs : x.small) {ob : Objs} {K : V → Prop} (h : K (.d (.bool true))) : PCall P 11 [.d x.enc, .d x.enc] ob K := by
  refine pcall_lift hP mixed (ds := [x.enc, x.enc]) ok11 lf11 (TOk.cons (t_SameNames hP) TOk.nil) ?_
  simp [lt11, RSrc.enc, strsD, okNames_of hs.issuers]
  refine ALoop.go (ι := Nat) (fun k => [(2, .ptr 0 []), (3, .ptr 1 []), (5, .d (.int .i64 k))]) (fun _ => [(1, .box 30 (.d x.enc)), (0, .box 30 (.d x.enc))]) (fun k => k ≤ x.units.length) (fun k => x.units.length - k) 0 (by simp) (by simp) (by simp [RSrc.enc, strsD]) ?_
  intro k hk R rn re rr rp
  have hl := hs.units
  by_cases hlt : k < x.units.length
  · simp [lt11_l4, RSrc.enc, strsD, hlt, RUnit.enc, KT.fits, KT.fitss, eqb_self]
    refine rn [] (k + 1) _ _ (by omega) (by omega) ?_ (by simp [young, RSrc.enc, strsD]) (by simp [young]) (by simp [young])
    simp
    exact IntWalk.i64_in _ (by omega)
  obtain rfl : k = x.units.length := by omega
  simp [lt11_l4, RSrc.enc, strsD]
  refine re _ _ _ ?_
  clear rn re rr rp
  simp
  refine ALoop.go (ι := Nat) (fun k => [(2, .ptr 0 []), (3, .ptr 1 []), (6, .d (.int .i64 k))]) (fun _ => [(1, .box 30 (.d x.enc)), (0, .box 30 (.d x.enc))]) (fun k => k ≤ x.schemas.length) (fun k => x.schemas.length - k) 0 (by simp) (by simp) (by simp [RSrc.enc, strsD]) ?_
  intro k hk R rn re rr rp
  have hl := hs.schemas
  by_cases hlt : k < x.schemas.length
  · simp [lt11_l3, RSrc.enc, strsD, hlt, RSchema.enc]
    refine c_SameSchema (x := x.schemas[k]) hP (hs.schema _ (List.getElem_mem hlt)) ?_
    simp
    refine rn [] (k + 1) _ _ (by omega) (by omega) ?_ (by simp [young, RSrc.enc, strsD]) (by simp [young]) (by simp [young])
    simp
    exact IntWalk.i64_in _ (by omega)
  obtain rfl : k = x.schemas.length := by omega
  simp [lt11_l3, RSrc.enc, strsD]
  refine re _ _ _ ?_
  clear rn re rr rp
  simp
  refine ALoop.go (ι := Nat) (fun k => [(2, .ptr 0 []), (3, .ptr 1 []), (7, .d (.int .i64 k))]) (fun _ => [(1, .box 30 (.d x.enc)), (0, .box 30 (.d x.enc))]) (fun k => k ≤ x.rules.length) (fun k => x.rules.length - k) 0 (by simp) (by simp) (by simp [RSrc.enc, strsD]) ?_
  intro k hk R rn re rr rp
  have hl := hs.rules
  by_cases hlt : k < x.rules.length
  · simp [lt11_l2, RSrc.enc, strsD, hlt, RRule.enc]
    refine c_SameRule (x := x.rules[k]) hP (hs.rule _ (List.getElem_mem hlt)) ?_
    simp
    refine rn [] (k + 1) _ _ (by omega) (by omega) ?_ (by simp [young, RSrc.enc, strsD]) (by simp [young]) (by simp [young])
    simp
    exact IntWalk.i64_in _ (by omega)
  obtain rfl : k = x.rules.length := by omega
  simp [lt11_l2, RSrc.enc, strsD]
  refine re _ _ _ ?_
  clear rn re rr rp
  simp
  refine ALoop.go (ι := Nat) (fun k => [(2, .ptr 0 []), (3, .ptr 1 []), (8, .d (.int .i64 k))]) (fun _ => [(1, .box 30 (.d x.enc)), (0, .box 30 (.d x.enc))]) (fun k => k ≤ x.converts.length) (fun k => x.converts.length - k) 0 (by simp) (by simp) (by simp [RSrc.enc, strsD]) ?_
  intro k hk R rn re rr rp
  have hl := hs.converts
  by_cases hlt : k < x.converts.length
  · simp [lt11_l1, RSrc.enc, strsD, hlt, RConvert.enc]
    refine c_SameConvert (x := x.converts[k]) hP (hs.moves _ (List.getElem_mem hlt)) ?_
    simp
    refine rn [] (k + 1) _ _ (by omega) (by omega) ?_ (by simp [young, RSrc.enc, strsD]) (by simp [young]) (by simp [young])
    simp
    exact IntWalk.i64_in _ (by omega)
  obtain rfl : k = x.converts.length := by omega
  simp [lt11_l1, RSrc.enc, strsD]
  refine re _ _ _ ?_
  clear rn re rr rp
  simp
  refine ALoop.go (ι := Nat) (fun k => [(2, .ptr 0 []), (3, .ptr 1 []), (9, .d (.int .i64 k))]) (fun _ => [(1, .box 30 (.d x.enc)), (0, .box 30 (.d x.enc))]) (fun k => k ≤ x.purposes.length) (fun k => x.purposes.length - k) 0 (by simp) (by simp) (by simp [RSrc.enc, strsD]) ?_
  intro k hk R rn re rr rp
  have hl := hs.purposes
  by_cases hlt : k < x.purposes.length
  · simp [lt11_l0, RSrc.enc, strsD, hlt, RPurpose.enc]
    refine c_SamePurpose (x := x.purposes[k]) hP (hs.may _ (List.getElem_mem hlt)) ?_
    simp
    refine rn [] (k + 1) _ _ (by omega) (by omega) ?_ (by simp [young, RSrc.enc, strsD]) (by simp [young]) (by simp [young])
    simp
    exact IntWalk.i64_in _ (by omega)
  obtain rfl : k = x.purposes.length := by omega
  simp [lt11_l0, RSrc.enc, strsD]
  refine re _ _ _ ?_
  clear rn re rr rp
  simp
  exact h
end
end Go.Proofs.YtanpgmgkmfckaaaGreatDoor
/- Plain laws of the lexer: places, names. No program. -/
namespace Go.Lx
open Go Go.Ab
theorem mem_takeWhile {p : UInt8 → Bool} : ∀ {r : List UInt8} {x : UInt8}, x ∈ r.takeWhile p → p x = true
  | [], x, h => by simp at h
  | c :: r, x, h => by
    simp only [List.takeWhile_cons] at h
    split at h
    · rcases List.mem_cons.1 h with rfl | h
      · assumption
      · exact mem_takeWhile h
    · cases h
theorem nameB_iff {s : List UInt8} : nameB s = true ↔ ∃ c r, s = c :: r ∧ letterB c = true ∧ (∀ x ∈ r, partB x = true) ∧ r.length + 1 ≤ 32 := by
  cases s with
  | nil => simp [nameB]
  | cons c r =>
    have hp : letterB c = true → partB c = true := by
      intro h; simp only [letterB, partB, partI] at h ⊢; simp [h]
    simp only [nameB, List.length_cons, List.getD_cons_zero, Bool.and_eq_true, decide_eq_true_eq, List.all_cons, List.all_eq_true, List.cons.injEq, letterB] at *
    constructor
    · rintro ⟨⟨⟨_, h1⟩, h2⟩, h3, h4⟩
      exact ⟨c, r, ⟨rfl, rfl⟩, h2, h4, h1⟩
    · rintro ⟨c', r', ⟨rfl, rfl⟩, h2, h4, h1⟩
      exact ⟨⟨⟨by omega, h1⟩, h2⟩, hp h2, h4⟩
end Go.Lx
/- Plain laws of the lexer: words, numbers, what is printed is read again. No program. -/
namespace Go.Lx
open Go Go.Ab
theorem digit_nat {c : UInt8} (h : digitB c = true) : 48 ≤ c.toNat ∧ c.toNat ≤ 57 := by
  simp only [digitB, digitI, decide_eq_true_eq] at h; omega
theorem digB_of {c : UInt8} {m : Nat} (h : digitB c = true) (hm : m % 10 = c.toNat - 48) : digB m = c := by
  have := digit_nat h
  apply UInt8.toNat_inj.1
  rw [digB_nat]; omega
theorem numGo_dig : ∀ (t : List UInt8) (m : Nat) (n : Int), (∀ c ∈ t, digitB c = true) → 0 < m → m ≤ 1099511627776 → numGo m t = some n → ∃ N : Nat, n = N ∧ N ≤ 1099511627776 ∧ Lib.decDigits N = Lib.decDigits m ++ t
  | [], m, n, _, _, h1, h => by
    simp only [numGo, Option.some.injEq] at h
    exact ⟨m, h.symm, h1, by simp⟩
  | c :: r, m, n, hd, h0, h1, h => by
    have hc := digit_nat (hd c (by simp))
    rw [numGo] at h
    split at h
    · cases h
    · rename_i hle
      have e : (10 * (m : Int) + ((c.toNat : Int) - 48)) = ((10 * m + (c.toNat - 48) : Nat) : Int) := by omega
      rw [e] at h hle
      obtain ⟨N, n1, n2, n3⟩ := numGo_dig r (10 * m + (c.toNat - 48)) n (fun x hx => hd x (by simp [hx])) (by omega) (by omega) h
      refine ⟨N, n1, n2, ?_⟩
      rw [n3, decDigits_eq (10 * m + (c.toNat - 48)), if_neg (by omega), digB_of (hd c (by simp)) (by omega)]
      have : (10 * m + (c.toNat - 48)) / 10 = m := by omega
      rw [this]; simp
theorem numOf_dig {c : UInt8} {r : List UInt8} {n : Int} (hc : digitB c = true) (hr : ∀ x ∈ r, digitB x = true) (h : numOf (c :: r) = some n) : 0 ≤ n ∧ n ≤ 1099511627776 ∧ Lib.itoa n = c :: r := by
  have hb := digit_nat hc
  unfold numOf at h
  split at h
  · cases h
  · rename_i n' hg
    split at h
    · rename_i hz
      simp only [Option.some.injEq] at h
      subst h
      rw [numGo] at hg
      split at hg
      · cases hg
      · have e : (10 * (0 : Int) + ((c.toNat : Int) - 48)) = ((c.toNat - 48 : Nat) : Int) := by omega
        rw [e] at hg
        by_cases h48 : c.toNat = 48
        · have hc48 : c = 48 := UInt8.toNat_inj.1 h48
          subst hc48
          simp at hz
          subst hz
          simp [numGo] at hg
          subst hg
          refine ⟨by simp, by simp, ?_⟩
          have := itoa_nat 0
          rw [decDigits_eq] at this
          exact this
        · obtain ⟨N, n1, n2, n3⟩ := numGo_dig r (c.toNat - 48) n' hr (by omega) (by omega) hg
          subst n1
          refine ⟨by omega, by omega, ?_⟩
          rw [itoa_nat, n3, decDigits_eq (c.toNat - 48), if_pos (by omega), digB_of hc (by omega)]; simp
    · cases h
theorem tok_valid {c : UInt8} {r t : List UInt8} {k m : Int} {n : Nat} (h : stp c r = .tok k t m n) (i : Int) : validB ⟨k, t, m, i⟩ = true ∧ wordT ⟨k, t, m, i⟩ = (c :: r).take (n + 1) := by
  unfold stp at h
  split at h
  · cases h
  · split at h
    · cases h
    · split at h
      · rename_i hc
        split at h
        · rename_i hl
          cases h
          refine ⟨?_, ?_⟩
          · have hN : nameB (c :: r.takeWhile partB) = true := nameB_iff.2 ⟨c, _, rfl, hc, fun x hx => mem_takeWhile hx, hl⟩
            simp [validB, hN]
          · simp [wordT]; exact takeWhile_take partB r
        · cases h
      · split at h
        · rename_i hc
          split at h
          · rename_i n' hn
            cases h
            obtain ⟨a1, a2, a3⟩ := numOf_dig hc (fun x hx => mem_takeWhile hx) hn
            refine ⟨by simp [validB, a1, a2], ?_⟩
            simp [wordT, a3]; exact takeWhile_take digitB r
          · cases h
        · split at h
          · rename_i hc
            cases h
            exact ⟨by simp [validB, hc], by simp [wordT]⟩
          · cases h
theorem joinW_cons_le (t : Tok) (l : List Tok) : (joinW (t :: l)).length ≤ (wordT t).length + 1 + (joinW l).length := by
  cases l with
  | nil => simp [joinW]
  | cons u l => simp only [joinW, List.length_append, List.length_cons]; omega
theorem lexR_valid : ∀ s off, ∀ l, lexR s off = .ok l → (∀ t ∈ l, validB t = true) ∧ (joinW l).length ≤ 2 * s.length := by
  apply lex_ind
  · intro off l h; rw [lexR_nil'] at h; cases h; simp [joinW]
  · intro c r n off h hn ih l hl
    rw [lexR_skip h] at hl
    obtain ⟨a, b⟩ := ih l hl
    refine ⟨a, ?_⟩
    simp at b ⊢; omega
  · intro c r k t m n off h hn ih l hl
    rw [lexR_tok h] at hl
    cases hr : lexR (r.drop n) (off + n + 1) with
    | err e => rw [hr] at hl; cases hl
    | ok l' =>
      rw [hr] at hl
      simp only [addT, Res.ok.injEq] at hl
      subst hl
      obtain ⟨a, b⟩ := ih l' hr
      obtain ⟨v1, v2⟩ := tok_valid h off
      refine ⟨fun u hu => ?_, ?_⟩
      · rcases List.mem_cons.1 hu with rfl | hu
        · exact v1
        · exact a u hu
      · have := joinW_cons_le ⟨k, t, m, off⟩ l'
        rw [v2] at this
        simp at this b ⊢; omega
  · intro c r off h l hl; rw [lexR_err h] at hl; cases hl
end Go.Lx
/- The abstract statements that stand for the code of these functions, written by a program from the translation; that they do is checked by the kernel. No condition. -/
namespace Go.Proofs.YtanpgmgkmfckaaaGreatDoor
open Go Go.Ab
set_option maxRecDepth 100000
def ir7_s0 : S := .seq (.rg [] [.op (some 109) (.c (.mv (.t 13))),
   .op (some 110) (.c (.bin .eql (.t 109) (.int .i64 0))),
   .op (some 111) (.c (.mv (.t 110))),
   .gop 111 true (some 112) (.c (.mv (.t 12))),
   .gop 111 true (some 113) (.c (.bin .eql (.t 112) (.int .i64 0))),
   .op (some 114) (.c (.pick (.t 111) (.t 113) (.bool false))),
   .op (some 115) (.c (.mv (.t 114))),
   .gop 115 true (some 116) (.c (.ld 6 true (.t 11))),
   .gop 115 true (some 117) (.c (.ld 6 true (.t 5))),
   .gop 115 true (some 118) (.pcall 11 [(.t 116), (.t 117)]),
   .op (some 119) (.c (.pick (.t 115) (.t 118) (.bool false))),
   .op (some 4) (.c (.mv (.t 119)))] [4] [])
 (.ret)
def ir7_s1 : S := .seq (.rgT 9 (.one 1 (.op (some 102) (.c (.fldA 5 5 (.t 5))))
  (.one 4 (.op (some 105) (.c (.fldA 5 5 (.t 8))))
  (.br (.cons 0 (.op (some 101) (.blo 88 3 [] [])) (.br (.cons 2 (.op (some 103) (.c (.ld 1 false (.t 102)))) (.br (.cons 3 (.op (some 104) (.app 88 3 48 (.t 101) (.t 103))) (.br (.cons 5 (.op (some 106) (.c (.ld 1 false (.t 105)))) (.one 6 (.op (some 107) (.app 88 3 48 (.t 104) (.t 106)))
  (.one 7 (.op (some 108) (.c (.fldA 5 5 (.t 5))))
  (.one 8 (.op none (.st 1 (.t 108) (.t 107)))
  (.done))))
  (.nil)))
  (.cons 5 (.op (some 106) (.c (.ld 1 false (.t 105)))) (.one 3 (.op (some 104) (.app 88 3 48 (.t 101) (.t 103)))
  (.one 6 (.op (some 107) (.app 88 3 48 (.t 104) (.t 106)))
  (.one 7 (.op (some 108) (.c (.fldA 5 5 (.t 5))))
  (.one 8 (.op none (.st 1 (.t 108) (.t 107)))
  (.done)))))
  (.nil))))
  (.cons 5 (.op (some 106) (.c (.ld 1 false (.t 105)))) (.br (.cons 2 (.op (some 103) (.c (.ld 1 false (.t 102)))) (.one 3 (.op (some 104) (.app 88 3 48 (.t 101) (.t 103)))
  (.one 6 (.op (some 107) (.app 88 3 48 (.t 104) (.t 106)))
  (.one 7 (.op (some 108) (.c (.fldA 5 5 (.t 5))))
  (.one 8 (.op none (.st 1 (.t 108) (.t 107)))
  (.done)))))
  (.nil)))
  (.nil))))
  (.cons 2 (.op (some 103) (.c (.ld 1 false (.t 102)))) (.br (.cons 0 (.op (some 101) (.blo 88 3 [] [])) (.br (.cons 3 (.op (some 104) (.app 88 3 48 (.t 101) (.t 103))) (.br (.cons 5 (.op (some 106) (.c (.ld 1 false (.t 105)))) (.one 6 (.op (some 107) (.app 88 3 48 (.t 104) (.t 106)))
  (.one 7 (.op (some 108) (.c (.fldA 5 5 (.t 5))))
  (.one 8 (.op none (.st 1 (.t 108) (.t 107)))
  (.done))))
  (.nil)))
  (.cons 5 (.op (some 106) (.c (.ld 1 false (.t 105)))) (.one 3 (.op (some 104) (.app 88 3 48 (.t 101) (.t 103)))
  (.one 6 (.op (some 107) (.app 88 3 48 (.t 104) (.t 106)))
  (.one 7 (.op (some 108) (.c (.fldA 5 5 (.t 5))))
  (.one 8 (.op none (.st 1 (.t 108) (.t 107)))
  (.done)))))
  (.nil))))
  (.cons 5 (.op (some 106) (.c (.ld 1 false (.t 105)))) (.one 0 (.op (some 101) (.blo 88 3 [] []))
  (.one 3 (.op (some 104) (.app 88 3 48 (.t 101) (.t 103)))
  (.one 6 (.op (some 107) (.app 88 3 48 (.t 104) (.t 106)))
  (.one 7 (.op (some 108) (.c (.fldA 5 5 (.t 5))))
  (.one 8 (.op none (.st 1 (.t 108) (.t 107)))
  (.done))))))
  (.nil))))
  (.cons 5 (.op (some 106) (.c (.ld 1 false (.t 105)))) (.br (.cons 0 (.op (some 101) (.blo 88 3 [] [])) (.br (.cons 2 (.op (some 103) (.c (.ld 1 false (.t 102)))) (.one 3 (.op (some 104) (.app 88 3 48 (.t 101) (.t 103)))
  (.one 6 (.op (some 107) (.app 88 3 48 (.t 104) (.t 106)))
  (.one 7 (.op (some 108) (.c (.fldA 5 5 (.t 5))))
  (.one 8 (.op none (.st 1 (.t 108) (.t 107)))
  (.done)))))
  (.nil)))
  (.cons 2 (.op (some 103) (.c (.ld 1 false (.t 102)))) (.one 0 (.op (some 101) (.blo 88 3 [] []))
  (.one 3 (.op (some 104) (.app 88 3 48 (.t 101) (.t 103)))
  (.one 6 (.op (some 107) (.app 88 3 48 (.t 104) (.t 106)))
  (.one 7 (.op (some 108) (.c (.fldA 5 5 (.t 5))))
  (.one 8 (.op none (.st 1 (.t 108) (.t 107)))
  (.done))))))
  (.nil))))
  (.nil))))))) [5, 11, 12, 13] [])
 (ir7_s0)
def ir7_s2 : S := .seq (.rgT 9 (.one 1 (.op (some 94) (.c (.fldA 4 4 (.t 5))))
  (.one 4 (.op (some 97) (.c (.fldA 4 4 (.t 8))))
  (.br (.cons 0 (.op (some 93) (.blo 84 5 [] [])) (.br (.cons 2 (.op (some 95) (.c (.ld 1 false (.t 94)))) (.br (.cons 3 (.op (some 96) (.app 84 5 72 (.t 93) (.t 95))) (.br (.cons 5 (.op (some 98) (.c (.ld 1 false (.t 97)))) (.one 6 (.op (some 99) (.app 84 5 72 (.t 96) (.t 98)))
  (.one 7 (.op (some 100) (.c (.fldA 4 4 (.t 5))))
  (.one 8 (.op none (.st 1 (.t 100) (.t 99)))
  (.done))))
  (.nil)))
  (.cons 5 (.op (some 98) (.c (.ld 1 false (.t 97)))) (.one 3 (.op (some 96) (.app 84 5 72 (.t 93) (.t 95)))
  (.one 6 (.op (some 99) (.app 84 5 72 (.t 96) (.t 98)))
  (.one 7 (.op (some 100) (.c (.fldA 4 4 (.t 5))))
  (.one 8 (.op none (.st 1 (.t 100) (.t 99)))
  (.done)))))
  (.nil))))
  (.cons 5 (.op (some 98) (.c (.ld 1 false (.t 97)))) (.br (.cons 2 (.op (some 95) (.c (.ld 1 false (.t 94)))) (.one 3 (.op (some 96) (.app 84 5 72 (.t 93) (.t 95)))
  (.one 6 (.op (some 99) (.app 84 5 72 (.t 96) (.t 98)))
  (.one 7 (.op (some 100) (.c (.fldA 4 4 (.t 5))))
  (.one 8 (.op none (.st 1 (.t 100) (.t 99)))
  (.done)))))
  (.nil)))
  (.nil))))
  (.cons 2 (.op (some 95) (.c (.ld 1 false (.t 94)))) (.br (.cons 0 (.op (some 93) (.blo 84 5 [] [])) (.br (.cons 3 (.op (some 96) (.app 84 5 72 (.t 93) (.t 95))) (.br (.cons 5 (.op (some 98) (.c (.ld 1 false (.t 97)))) (.one 6 (.op (some 99) (.app 84 5 72 (.t 96) (.t 98)))
  (.one 7 (.op (some 100) (.c (.fldA 4 4 (.t 5))))
  (.one 8 (.op none (.st 1 (.t 100) (.t 99)))
  (.done))))
  (.nil)))
  (.cons 5 (.op (some 98) (.c (.ld 1 false (.t 97)))) (.one 3 (.op (some 96) (.app 84 5 72 (.t 93) (.t 95)))
  (.one 6 (.op (some 99) (.app 84 5 72 (.t 96) (.t 98)))
  (.one 7 (.op (some 100) (.c (.fldA 4 4 (.t 5))))
  (.one 8 (.op none (.st 1 (.t 100) (.t 99)))
  (.done)))))
  (.nil))))
  (.cons 5 (.op (some 98) (.c (.ld 1 false (.t 97)))) (.one 0 (.op (some 93) (.blo 84 5 [] []))
  (.one 3 (.op (some 96) (.app 84 5 72 (.t 93) (.t 95)))
  (.one 6 (.op (some 99) (.app 84 5 72 (.t 96) (.t 98)))
  (.one 7 (.op (some 100) (.c (.fldA 4 4 (.t 5))))
  (.one 8 (.op none (.st 1 (.t 100) (.t 99)))
  (.done))))))
  (.nil))))
  (.cons 5 (.op (some 98) (.c (.ld 1 false (.t 97)))) (.br (.cons 0 (.op (some 93) (.blo 84 5 [] [])) (.br (.cons 2 (.op (some 95) (.c (.ld 1 false (.t 94)))) (.one 3 (.op (some 96) (.app 84 5 72 (.t 93) (.t 95)))
  (.one 6 (.op (some 99) (.app 84 5 72 (.t 96) (.t 98)))
  (.one 7 (.op (some 100) (.c (.fldA 4 4 (.t 5))))
  (.one 8 (.op none (.st 1 (.t 100) (.t 99)))
  (.done)))))
  (.nil)))
  (.cons 2 (.op (some 95) (.c (.ld 1 false (.t 94)))) (.one 0 (.op (some 93) (.blo 84 5 [] []))
  (.one 3 (.op (some 96) (.app 84 5 72 (.t 93) (.t 95)))
  (.one 6 (.op (some 99) (.app 84 5 72 (.t 96) (.t 98)))
  (.one 7 (.op (some 100) (.c (.fldA 4 4 (.t 5))))
  (.one 8 (.op none (.st 1 (.t 100) (.t 99)))
  (.done))))))
  (.nil))))
  (.nil))))))) [5, 8, 11, 12, 13] [])
 (ir7_s1)
def ir7_s3 : S := .seq (.rgT 9 (.one 1 (.op (some 86) (.c (.fldA 3 3 (.t 5))))
  (.one 4 (.op (some 89) (.c (.fldA 3 3 (.t 8))))
  (.br (.cons 0 (.op (some 85) (.blo 50 5 [] [])) (.br (.cons 2 (.op (some 87) (.c (.ld 1 false (.t 86)))) (.br (.cons 3 (.op (some 88) (.app 50 5 96 (.t 85) (.t 87))) (.br (.cons 5 (.op (some 90) (.c (.ld 1 false (.t 89)))) (.one 6 (.op (some 91) (.app 50 5 96 (.t 88) (.t 90)))
  (.one 7 (.op (some 92) (.c (.fldA 3 3 (.t 5))))
  (.one 8 (.op none (.st 1 (.t 92) (.t 91)))
  (.done))))
  (.nil)))
  (.cons 5 (.op (some 90) (.c (.ld 1 false (.t 89)))) (.one 3 (.op (some 88) (.app 50 5 96 (.t 85) (.t 87)))
  (.one 6 (.op (some 91) (.app 50 5 96 (.t 88) (.t 90)))
  (.one 7 (.op (some 92) (.c (.fldA 3 3 (.t 5))))
  (.one 8 (.op none (.st 1 (.t 92) (.t 91)))
  (.done)))))
  (.nil))))
  (.cons 5 (.op (some 90) (.c (.ld 1 false (.t 89)))) (.br (.cons 2 (.op (some 87) (.c (.ld 1 false (.t 86)))) (.one 3 (.op (some 88) (.app 50 5 96 (.t 85) (.t 87)))
  (.one 6 (.op (some 91) (.app 50 5 96 (.t 88) (.t 90)))
  (.one 7 (.op (some 92) (.c (.fldA 3 3 (.t 5))))
  (.one 8 (.op none (.st 1 (.t 92) (.t 91)))
  (.done)))))
  (.nil)))
  (.nil))))
  (.cons 2 (.op (some 87) (.c (.ld 1 false (.t 86)))) (.br (.cons 0 (.op (some 85) (.blo 50 5 [] [])) (.br (.cons 3 (.op (some 88) (.app 50 5 96 (.t 85) (.t 87))) (.br (.cons 5 (.op (some 90) (.c (.ld 1 false (.t 89)))) (.one 6 (.op (some 91) (.app 50 5 96 (.t 88) (.t 90)))
  (.one 7 (.op (some 92) (.c (.fldA 3 3 (.t 5))))
  (.one 8 (.op none (.st 1 (.t 92) (.t 91)))
  (.done))))
  (.nil)))
  (.cons 5 (.op (some 90) (.c (.ld 1 false (.t 89)))) (.one 3 (.op (some 88) (.app 50 5 96 (.t 85) (.t 87)))
  (.one 6 (.op (some 91) (.app 50 5 96 (.t 88) (.t 90)))
  (.one 7 (.op (some 92) (.c (.fldA 3 3 (.t 5))))
  (.one 8 (.op none (.st 1 (.t 92) (.t 91)))
  (.done)))))
  (.nil))))
  (.cons 5 (.op (some 90) (.c (.ld 1 false (.t 89)))) (.one 0 (.op (some 85) (.blo 50 5 [] []))
  (.one 3 (.op (some 88) (.app 50 5 96 (.t 85) (.t 87)))
  (.one 6 (.op (some 91) (.app 50 5 96 (.t 88) (.t 90)))
  (.one 7 (.op (some 92) (.c (.fldA 3 3 (.t 5))))
  (.one 8 (.op none (.st 1 (.t 92) (.t 91)))
  (.done))))))
  (.nil))))
  (.cons 5 (.op (some 90) (.c (.ld 1 false (.t 89)))) (.br (.cons 0 (.op (some 85) (.blo 50 5 [] [])) (.br (.cons 2 (.op (some 87) (.c (.ld 1 false (.t 86)))) (.one 3 (.op (some 88) (.app 50 5 96 (.t 85) (.t 87)))
  (.one 6 (.op (some 91) (.app 50 5 96 (.t 88) (.t 90)))
  (.one 7 (.op (some 92) (.c (.fldA 3 3 (.t 5))))
  (.one 8 (.op none (.st 1 (.t 92) (.t 91)))
  (.done)))))
  (.nil)))
  (.cons 2 (.op (some 87) (.c (.ld 1 false (.t 86)))) (.one 0 (.op (some 85) (.blo 50 5 [] []))
  (.one 3 (.op (some 88) (.app 50 5 96 (.t 85) (.t 87)))
  (.one 6 (.op (some 91) (.app 50 5 96 (.t 88) (.t 90)))
  (.one 7 (.op (some 92) (.c (.fldA 3 3 (.t 5))))
  (.one 8 (.op none (.st 1 (.t 92) (.t 91)))
  (.done))))))
  (.nil))))
  (.nil))))))) [5, 8, 11, 12, 13] [])
 (ir7_s2)
def ir7_s4 : S := .seq (.rgT 9 (.one 1 (.op (some 78) (.c (.fldA 2 2 (.t 5))))
  (.one 4 (.op (some 81) (.c (.fldA 2 2 (.t 8))))
  (.br (.cons 0 (.op (some 77) (.blo 79 6 [] [])) (.br (.cons 2 (.op (some 79) (.c (.ld 1 false (.t 78)))) (.br (.cons 3 (.op (some 80) (.app 79 6 96 (.t 77) (.t 79))) (.br (.cons 5 (.op (some 82) (.c (.ld 1 false (.t 81)))) (.one 6 (.op (some 83) (.app 79 6 96 (.t 80) (.t 82)))
  (.one 7 (.op (some 84) (.c (.fldA 2 2 (.t 5))))
  (.one 8 (.op none (.st 1 (.t 84) (.t 83)))
  (.done))))
  (.nil)))
  (.cons 5 (.op (some 82) (.c (.ld 1 false (.t 81)))) (.one 3 (.op (some 80) (.app 79 6 96 (.t 77) (.t 79)))
  (.one 6 (.op (some 83) (.app 79 6 96 (.t 80) (.t 82)))
  (.one 7 (.op (some 84) (.c (.fldA 2 2 (.t 5))))
  (.one 8 (.op none (.st 1 (.t 84) (.t 83)))
  (.done)))))
  (.nil))))
  (.cons 5 (.op (some 82) (.c (.ld 1 false (.t 81)))) (.br (.cons 2 (.op (some 79) (.c (.ld 1 false (.t 78)))) (.one 3 (.op (some 80) (.app 79 6 96 (.t 77) (.t 79)))
  (.one 6 (.op (some 83) (.app 79 6 96 (.t 80) (.t 82)))
  (.one 7 (.op (some 84) (.c (.fldA 2 2 (.t 5))))
  (.one 8 (.op none (.st 1 (.t 84) (.t 83)))
  (.done)))))
  (.nil)))
  (.nil))))
  (.cons 2 (.op (some 79) (.c (.ld 1 false (.t 78)))) (.br (.cons 0 (.op (some 77) (.blo 79 6 [] [])) (.br (.cons 3 (.op (some 80) (.app 79 6 96 (.t 77) (.t 79))) (.br (.cons 5 (.op (some 82) (.c (.ld 1 false (.t 81)))) (.one 6 (.op (some 83) (.app 79 6 96 (.t 80) (.t 82)))
  (.one 7 (.op (some 84) (.c (.fldA 2 2 (.t 5))))
  (.one 8 (.op none (.st 1 (.t 84) (.t 83)))
  (.done))))
  (.nil)))
  (.cons 5 (.op (some 82) (.c (.ld 1 false (.t 81)))) (.one 3 (.op (some 80) (.app 79 6 96 (.t 77) (.t 79)))
  (.one 6 (.op (some 83) (.app 79 6 96 (.t 80) (.t 82)))
  (.one 7 (.op (some 84) (.c (.fldA 2 2 (.t 5))))
  (.one 8 (.op none (.st 1 (.t 84) (.t 83)))
  (.done)))))
  (.nil))))
  (.cons 5 (.op (some 82) (.c (.ld 1 false (.t 81)))) (.one 0 (.op (some 77) (.blo 79 6 [] []))
  (.one 3 (.op (some 80) (.app 79 6 96 (.t 77) (.t 79)))
  (.one 6 (.op (some 83) (.app 79 6 96 (.t 80) (.t 82)))
  (.one 7 (.op (some 84) (.c (.fldA 2 2 (.t 5))))
  (.one 8 (.op none (.st 1 (.t 84) (.t 83)))
  (.done))))))
  (.nil))))
  (.cons 5 (.op (some 82) (.c (.ld 1 false (.t 81)))) (.br (.cons 0 (.op (some 77) (.blo 79 6 [] [])) (.br (.cons 2 (.op (some 79) (.c (.ld 1 false (.t 78)))) (.one 3 (.op (some 80) (.app 79 6 96 (.t 77) (.t 79)))
  (.one 6 (.op (some 83) (.app 79 6 96 (.t 80) (.t 82)))
  (.one 7 (.op (some 84) (.c (.fldA 2 2 (.t 5))))
  (.one 8 (.op none (.st 1 (.t 84) (.t 83)))
  (.done)))))
  (.nil)))
  (.cons 2 (.op (some 79) (.c (.ld 1 false (.t 78)))) (.one 0 (.op (some 77) (.blo 79 6 [] []))
  (.one 3 (.op (some 80) (.app 79 6 96 (.t 77) (.t 79)))
  (.one 6 (.op (some 83) (.app 79 6 96 (.t 80) (.t 82)))
  (.one 7 (.op (some 84) (.c (.fldA 2 2 (.t 5))))
  (.one 8 (.op none (.st 1 (.t 84) (.t 83)))
  (.done))))))
  (.nil))))
  (.nil))))))) [5, 8, 11, 12, 13] [])
 (ir7_s3)
def ir7_s5 : S := .seq (.rgT 9 (.one 1 (.op (some 70) (.c (.fldA 1 1 (.t 5))))
  (.one 4 (.op (some 73) (.c (.fldA 1 1 (.t 8))))
  (.br (.cons 0 (.op (some 69) (.blo 74 5 [] [])) (.br (.cons 2 (.op (some 71) (.c (.ld 1 false (.t 70)))) (.br (.cons 3 (.op (some 72) (.app 74 5 56 (.t 69) (.t 71))) (.br (.cons 5 (.op (some 74) (.c (.ld 1 false (.t 73)))) (.one 6 (.op (some 75) (.app 74 5 56 (.t 72) (.t 74)))
  (.one 7 (.op (some 76) (.c (.fldA 1 1 (.t 5))))
  (.one 8 (.op none (.st 1 (.t 76) (.t 75)))
  (.done))))
  (.nil)))
  (.cons 5 (.op (some 74) (.c (.ld 1 false (.t 73)))) (.one 3 (.op (some 72) (.app 74 5 56 (.t 69) (.t 71)))
  (.one 6 (.op (some 75) (.app 74 5 56 (.t 72) (.t 74)))
  (.one 7 (.op (some 76) (.c (.fldA 1 1 (.t 5))))
  (.one 8 (.op none (.st 1 (.t 76) (.t 75)))
  (.done)))))
  (.nil))))
  (.cons 5 (.op (some 74) (.c (.ld 1 false (.t 73)))) (.br (.cons 2 (.op (some 71) (.c (.ld 1 false (.t 70)))) (.one 3 (.op (some 72) (.app 74 5 56 (.t 69) (.t 71)))
  (.one 6 (.op (some 75) (.app 74 5 56 (.t 72) (.t 74)))
  (.one 7 (.op (some 76) (.c (.fldA 1 1 (.t 5))))
  (.one 8 (.op none (.st 1 (.t 76) (.t 75)))
  (.done)))))
  (.nil)))
  (.nil))))
  (.cons 2 (.op (some 71) (.c (.ld 1 false (.t 70)))) (.br (.cons 0 (.op (some 69) (.blo 74 5 [] [])) (.br (.cons 3 (.op (some 72) (.app 74 5 56 (.t 69) (.t 71))) (.br (.cons 5 (.op (some 74) (.c (.ld 1 false (.t 73)))) (.one 6 (.op (some 75) (.app 74 5 56 (.t 72) (.t 74)))
  (.one 7 (.op (some 76) (.c (.fldA 1 1 (.t 5))))
  (.one 8 (.op none (.st 1 (.t 76) (.t 75)))
  (.done))))
  (.nil)))
  (.cons 5 (.op (some 74) (.c (.ld 1 false (.t 73)))) (.one 3 (.op (some 72) (.app 74 5 56 (.t 69) (.t 71)))
  (.one 6 (.op (some 75) (.app 74 5 56 (.t 72) (.t 74)))
  (.one 7 (.op (some 76) (.c (.fldA 1 1 (.t 5))))
  (.one 8 (.op none (.st 1 (.t 76) (.t 75)))
  (.done)))))
  (.nil))))
  (.cons 5 (.op (some 74) (.c (.ld 1 false (.t 73)))) (.one 0 (.op (some 69) (.blo 74 5 [] []))
  (.one 3 (.op (some 72) (.app 74 5 56 (.t 69) (.t 71)))
  (.one 6 (.op (some 75) (.app 74 5 56 (.t 72) (.t 74)))
  (.one 7 (.op (some 76) (.c (.fldA 1 1 (.t 5))))
  (.one 8 (.op none (.st 1 (.t 76) (.t 75)))
  (.done))))))
  (.nil))))
  (.cons 5 (.op (some 74) (.c (.ld 1 false (.t 73)))) (.br (.cons 0 (.op (some 69) (.blo 74 5 [] [])) (.br (.cons 2 (.op (some 71) (.c (.ld 1 false (.t 70)))) (.one 3 (.op (some 72) (.app 74 5 56 (.t 69) (.t 71)))
  (.one 6 (.op (some 75) (.app 74 5 56 (.t 72) (.t 74)))
  (.one 7 (.op (some 76) (.c (.fldA 1 1 (.t 5))))
  (.one 8 (.op none (.st 1 (.t 76) (.t 75)))
  (.done)))))
  (.nil)))
  (.cons 2 (.op (some 71) (.c (.ld 1 false (.t 70)))) (.one 0 (.op (some 69) (.blo 74 5 [] []))
  (.one 3 (.op (some 72) (.app 74 5 56 (.t 69) (.t 71)))
  (.one 6 (.op (some 75) (.app 74 5 56 (.t 72) (.t 74)))
  (.one 7 (.op (some 76) (.c (.fldA 1 1 (.t 5))))
  (.one 8 (.op none (.st 1 (.t 76) (.t 75)))
  (.done))))))
  (.nil))))
  (.nil))))))) [5, 8, 11, 12, 13] [])
 (ir7_s4)
def ir7 : S := .seq (.rg [] [.op (some 4) (.c (.mv (.bool false)))] [0, 1] [])
 (.seq (.seq (.rg [] [.op (some 14) (.pcall 8 []),
   .op (some 15) (.c (.not (.t 14)))] [0, 1, 15] [])
 (.cond (.t 15) (.seq (.rg [] [.op (some 4) (.c (.mv (.bool false)))] [4] [])
 (.ret)) (.skip)))
 (.seq (.seq (.rg [] [.op (some 16) (.c (.mv (.t 0))),
   .op (some 17) (.c (.lenS (.t 16))),
   .op (some 18) (.c (.mv (.t 1))),
   .op (some 19) (.c (.lenS (.t 18))),
   .op (some 20) (.c (.bin .add (.t 17) (.t 19))),
   .op (some 21) (.c (.bin .gtr (.t 20) (.int .i64 4000)))] [0, 1, 21] [])
 (.cond (.t 21) (.seq (.rg [] [.op (some 4) (.c (.mv (.bool true)))] [4] [])
 (.ret)) (.skip)))
 (.seq (.rg [] [.op (some 23) (.c (.mv (.t 0))),
   .op (some 24) (.pcall 9 [(.t 23)]),
   .op (some 22) (.c (.mv (.t 24))),
   .op (some 25) (.c (.ext (.t 22) 0)),
   .op (some 26) (.c (.ext (.t 22) 1)),
   .op (some 27) (.c (.ext (.t 22) 2)),
   .op (some 5) (.alloc 30 (.agg [.nils, .nils, .nils, .nils, .nils, .nils])),
   .op none (.st 6 (.t 5) (.t 25)),
   .op (some 6) (.c (.mv (.t 26))),
   .op (some 7) (.c (.mv (.t 27)))] [0, 1, 5, 7] [])
 (.seq (.rg [] [.op (some 29) (.c (.mv (.t 1))),
   .op (some 30) (.pcall 9 [(.t 29)]),
   .op (some 28) (.c (.mv (.t 30))),
   .op (some 31) (.c (.ext (.t 28) 0)),
   .op (some 32) (.c (.ext (.t 28) 1)),
   .op (some 33) (.c (.ext (.t 28) 2)),
   .op (some 8) (.alloc 30 (.agg [.nils, .nils, .nils, .nils, .nils, .nils])),
   .op none (.st 6 (.t 8) (.t 31)),
   .op (some 9) (.c (.mv (.t 32))),
   .op (some 10) (.c (.mv (.t 33)))] [0, 1, 5, 7, 8, 10] [])
 (.seq (.rg [] [.op (some 35) (.c (.mv (.t 0))),
   .op (some 36) (.c (.bin .add (.t 35) (.str [10]))),
   .op (some 37) (.c (.mv (.t 1))),
   .op (some 38) (.c (.bin .add (.t 36) (.t 37))),
   .op (some 39) (.pcall 9 [(.t 38)]),
   .op (some 34) (.c (.mv (.t 39))),
   .op (some 40) (.c (.ext (.t 34) 0)),
   .op (some 41) (.c (.ext (.t 34) 1)),
   .op (some 42) (.c (.ext (.t 34) 2)),
   .op (some 11) (.alloc 30 (.agg [.nils, .nils, .nils, .nils, .nils, .nils])),
   .op none (.st 6 (.t 11) (.t 40)),
   .op (some 12) (.c (.mv (.t 41))),
   .op (some 13) (.c (.mv (.t 42)))] [0, 5, 7, 8, 10, 11, 12, 13] [])
 (.seq (.seq (.rg [] [.op (some 43) (.c (.mv (.t 7))),
   .op (some 44) (.c (.bin .neq (.t 43) (.int .i64 0))),
   .op (some 45) (.c (.mv (.t 44))),
   .gop 45 false (some 46) (.c (.mv (.t 10))),
   .gop 45 false (some 47) (.c (.bin .neq (.t 46) (.int .i64 0))),
   .op (some 48) (.c (.pick (.t 45) (.bool true) (.t 47)))] [0, 5, 8, 11, 12, 13, 48] [])
 (.cond (.t 48) (.seq (.rg [] [.op (some 4) (.c (.mv (.bool true)))] [4] [])
 (.ret)) (.skip)))
 (.seq (.seq (.rg [] [.op (some 49) (.c (.ld 6 true (.t 5))),
   .op (some 50) (.c (.ld 6 true (.t 8))),
   .op (some 51) (.pcall 16 [(.t 49), (.t 50)]),
   .op (some 52) (.c (.not (.t 51)))] [0, 5, 8, 11, 12, 13, 52] [])
 (.cond (.t 52) (.seq (.rg [] [.op (some 53) (.c (.mv (.t 13))),
   .op (some 54) (.c (.bin .eql (.t 53) (.int .i64 2))),
   .op (some 55) (.c (.mv (.t 54))),
   .gop 55 true (some 56) (.c (.mv (.t 12))),
   .gop 55 true (some 57) (.c (.mv (.t 0))),
   .gop 55 true (some 58) (.c (.lenS (.t 57))),
   .gop 55 true (some 59) (.c (.bin .gtr (.t 56) (.t 58))),
   .op (some 60) (.c (.pick (.t 55) (.t 59) (.bool false))),
   .op (some 4) (.c (.mv (.t 60)))] [4] [])
 (.ret)) (.skip)))
 (.seq (.rgT 9 (.one 1 (.op (some 62) (.c (.fldA 0 0 (.t 5))))
  (.one 4 (.op (some 65) (.c (.fldA 0 0 (.t 8))))
  (.br (.cons 0 (.op (some 61) (.blo 9 1 [] [])) (.br (.cons 2 (.op (some 63) (.c (.ld 1 false (.t 62)))) (.br (.cons 3 (.op (some 64) (.app 9 1 16 (.t 61) (.t 63))) (.br (.cons 5 (.op (some 66) (.c (.ld 1 false (.t 65)))) (.one 6 (.op (some 67) (.app 9 1 16 (.t 64) (.t 66)))
  (.one 7 (.op (some 68) (.c (.fldA 0 0 (.t 5))))
  (.one 8 (.op none (.st 1 (.t 68) (.t 67)))
  (.done))))
  (.nil)))
  (.cons 5 (.op (some 66) (.c (.ld 1 false (.t 65)))) (.one 3 (.op (some 64) (.app 9 1 16 (.t 61) (.t 63)))
  (.one 6 (.op (some 67) (.app 9 1 16 (.t 64) (.t 66)))
  (.one 7 (.op (some 68) (.c (.fldA 0 0 (.t 5))))
  (.one 8 (.op none (.st 1 (.t 68) (.t 67)))
  (.done)))))
  (.nil))))
  (.cons 5 (.op (some 66) (.c (.ld 1 false (.t 65)))) (.br (.cons 2 (.op (some 63) (.c (.ld 1 false (.t 62)))) (.one 3 (.op (some 64) (.app 9 1 16 (.t 61) (.t 63)))
  (.one 6 (.op (some 67) (.app 9 1 16 (.t 64) (.t 66)))
  (.one 7 (.op (some 68) (.c (.fldA 0 0 (.t 5))))
  (.one 8 (.op none (.st 1 (.t 68) (.t 67)))
  (.done)))))
  (.nil)))
  (.nil))))
  (.cons 2 (.op (some 63) (.c (.ld 1 false (.t 62)))) (.br (.cons 0 (.op (some 61) (.blo 9 1 [] [])) (.br (.cons 3 (.op (some 64) (.app 9 1 16 (.t 61) (.t 63))) (.br (.cons 5 (.op (some 66) (.c (.ld 1 false (.t 65)))) (.one 6 (.op (some 67) (.app 9 1 16 (.t 64) (.t 66)))
  (.one 7 (.op (some 68) (.c (.fldA 0 0 (.t 5))))
  (.one 8 (.op none (.st 1 (.t 68) (.t 67)))
  (.done))))
  (.nil)))
  (.cons 5 (.op (some 66) (.c (.ld 1 false (.t 65)))) (.one 3 (.op (some 64) (.app 9 1 16 (.t 61) (.t 63)))
  (.one 6 (.op (some 67) (.app 9 1 16 (.t 64) (.t 66)))
  (.one 7 (.op (some 68) (.c (.fldA 0 0 (.t 5))))
  (.one 8 (.op none (.st 1 (.t 68) (.t 67)))
  (.done)))))
  (.nil))))
  (.cons 5 (.op (some 66) (.c (.ld 1 false (.t 65)))) (.one 0 (.op (some 61) (.blo 9 1 [] []))
  (.one 3 (.op (some 64) (.app 9 1 16 (.t 61) (.t 63)))
  (.one 6 (.op (some 67) (.app 9 1 16 (.t 64) (.t 66)))
  (.one 7 (.op (some 68) (.c (.fldA 0 0 (.t 5))))
  (.one 8 (.op none (.st 1 (.t 68) (.t 67)))
  (.done))))))
  (.nil))))
  (.cons 5 (.op (some 66) (.c (.ld 1 false (.t 65)))) (.br (.cons 0 (.op (some 61) (.blo 9 1 [] [])) (.br (.cons 2 (.op (some 63) (.c (.ld 1 false (.t 62)))) (.one 3 (.op (some 64) (.app 9 1 16 (.t 61) (.t 63)))
  (.one 6 (.op (some 67) (.app 9 1 16 (.t 64) (.t 66)))
  (.one 7 (.op (some 68) (.c (.fldA 0 0 (.t 5))))
  (.one 8 (.op none (.st 1 (.t 68) (.t 67)))
  (.done)))))
  (.nil)))
  (.cons 2 (.op (some 63) (.c (.ld 1 false (.t 62)))) (.one 0 (.op (some 61) (.blo 9 1 [] []))
  (.one 3 (.op (some 64) (.app 9 1 16 (.t 61) (.t 63)))
  (.one 6 (.op (some 67) (.app 9 1 16 (.t 64) (.t 66)))
  (.one 7 (.op (some 68) (.c (.fldA 0 0 (.t 5))))
  (.one 8 (.op none (.st 1 (.t 68) (.t 67)))
  (.done))))))
  (.nil))))
  (.nil))))))) [5, 8, 11, 12, 13] [])
 (ir7_s5)))))))))
theorem ok7 : fnOk Tryz.prog 7 2 ir7 [.t 4] = true := by kernel_rfl
def ir16 : S := .seq (.rg [] [.op (some 2) (.box 30 (.t 0)),
   .op (some 3) (.box 30 (.t 1)),
   .op (some 4) (.c (.mv (.bool false)))] [2, 3] [])
 (.seq (.rg [] [.op (some 5) (.c (.fldA 0 0 (.t 2))),
   .op (some 6) (.c (.ld 1 false (.t 5))),
   .op (some 7) (.c (.lenL (.t 6))),
   .op (some 8) (.c (.fldA 0 0 (.t 3))),
   .op (some 9) (.c (.ld 1 false (.t 8))),
   .op (some 10) (.c (.lenL (.t 9))),
   .op (some 11) (.c (.bin .add (.t 7) (.t 10))),
   .op (some 12) (.c (.bin .leq (.t 11) (.int .i64 8))),
   .op (some 13) (.c (.mv (.t 12))),
   .gop 13 true (some 14) (.c (.fldA 1 1 (.t 2))),
   .gop 13 true (some 15) (.c (.ld 1 false (.t 14))),
   .gop 13 true (some 16) (.c (.lenL (.t 15))),
   .gop 13 true (some 17) (.c (.fldA 1 1 (.t 3))),
   .gop 13 true (some 18) (.c (.ld 1 false (.t 17))),
   .gop 13 true (some 19) (.c (.lenL (.t 18))),
   .gop 13 true (some 20) (.c (.bin .add (.t 16) (.t 19))),
   .gop 13 true (some 21) (.c (.bin .leq (.t 20) (.int .i64 16))),
   .op (some 22) (.c (.pick (.t 13) (.t 21) (.bool false))),
   .op (some 23) (.c (.mv (.t 22))),
   .gop 23 true (some 24) (.c (.fldA 2 2 (.t 2))),
   .gop 23 true (some 25) (.c (.ld 1 false (.t 24))),
   .gop 23 true (some 26) (.c (.lenL (.t 25))),
   .gop 23 true (some 27) (.c (.fldA 2 2 (.t 3))),
   .gop 23 true (some 28) (.c (.ld 1 false (.t 27))),
   .gop 23 true (some 29) (.c (.lenL (.t 28))),
   .gop 23 true (some 30) (.c (.bin .add (.t 26) (.t 29))),
   .gop 23 true (some 31) (.c (.bin .leq (.t 30) (.int .i64 16))),
   .op (some 32) (.c (.pick (.t 23) (.t 31) (.bool false))),
   .op (some 33) (.c (.mv (.t 32))),
   .gop 33 true (some 34) (.c (.fldA 3 3 (.t 2))),
   .gop 33 true (some 35) (.c (.ld 1 false (.t 34))),
   .gop 33 true (some 36) (.c (.lenL (.t 35))),
   .gop 33 true (some 37) (.c (.fldA 3 3 (.t 3))),
   .gop 33 true (some 38) (.c (.ld 1 false (.t 37))),
   .gop 33 true (some 39) (.c (.lenL (.t 38))),
   .gop 33 true (some 40) (.c (.bin .add (.t 36) (.t 39))),
   .gop 33 true (some 41) (.c (.bin .leq (.t 40) (.int .i64 16))),
   .op (some 42) (.c (.pick (.t 33) (.t 41) (.bool false))),
   .op (some 43) (.c (.mv (.t 42))),
   .gop 43 true (some 44) (.c (.fldA 4 4 (.t 2))),
   .gop 43 true (some 45) (.c (.ld 1 false (.t 44))),
   .gop 43 true (some 46) (.c (.lenL (.t 45))),
   .gop 43 true (some 47) (.c (.fldA 4 4 (.t 3))),
   .gop 43 true (some 48) (.c (.ld 1 false (.t 47))),
   .gop 43 true (some 49) (.c (.lenL (.t 48))),
   .gop 43 true (some 50) (.c (.bin .add (.t 46) (.t 49))),
   .gop 43 true (some 51) (.c (.bin .leq (.t 50) (.int .i64 16))),
   .op (some 52) (.c (.pick (.t 43) (.t 51) (.bool false))),
   .op (some 53) (.c (.mv (.t 52))),
   .gop 53 true (some 54) (.c (.fldA 5 5 (.t 2))),
   .gop 53 true (some 55) (.c (.ld 1 false (.t 54))),
   .gop 53 true (some 56) (.c (.lenL (.t 55))),
   .gop 53 true (some 57) (.c (.fldA 5 5 (.t 3))),
   .gop 53 true (some 58) (.c (.ld 1 false (.t 57))),
   .gop 53 true (some 59) (.c (.lenL (.t 58))),
   .gop 53 true (some 60) (.c (.bin .add (.t 56) (.t 59))),
   .gop 53 true (some 61) (.c (.bin .leq (.t 60) (.int .i64 8))),
   .op (some 62) (.c (.pick (.t 53) (.t 61) (.bool false))),
   .op (some 4) (.c (.mv (.t 62)))] [4] [])
 (.ret))
theorem ok16 : fnOk Tryz.prog 16 2 ir16 [.t 4] = true := by kernel_rfl
end Go.Proofs.YtanpgmgkmfckaaaGreatDoor
/- The same statements with their regions folded into expressions, printed by the fold itself; that they are that is checked by the kernel. No condition. -/
namespace Go.Proofs.YtanpgmgkmfckaaaGreatDoor
open Go Go.Ab
set_option maxRecDepth 100000
def lt7_s0 : S2 := .seq (.rg [.chk [((.ite (.b (.bin .eql (.t 0) (.t 1)) (.a (.t 13)) (.a (.int .i64 0))) (.b (.bin .eql (.t 0) (.t 1)) (.a (.t 12)) (.a (.int .i64 0))) (.a (.bool false))), true)] (.u (.ld 6 true (.t 0)) (.a (.t 5))), .chk [((.ite (.b (.bin .eql (.t 0) (.t 1)) (.a (.t 13)) (.a (.int .i64 0))) (.b (.bin .eql (.t 0) (.t 1)) (.a (.t 12)) (.a (.int .i64 0))) (.a (.bool false))), true)] (.u (.ld 6 true (.t 0)) (.a (.t 11))), .chk [] (.ite (.b (.bin .eql (.t 0) (.t 1)) (.a (.t 13)) (.a (.int .i64 0))) (.b (.bin .eql (.t 0) (.t 1)) (.a (.t 12)) (.a (.int .i64 0))) (.a (.bool false))), .chk [] (.ite (.ite (.b (.bin .eql (.t 0) (.t 1)) (.a (.t 13)) (.a (.int .i64 0))) (.b (.bin .eql (.t 0) (.t 1)) (.a (.t 12)) (.a (.int .i64 0))) (.a (.bool false))) (.a (.bool true)) (.a (.bool true))), .chk [] (.ite (.ite (.b (.bin .eql (.t 0) (.t 1)) (.a (.t 13)) (.a (.int .i64 0))) (.b (.bin .eql (.t 0) (.t 1)) (.a (.t 12)) (.a (.int .i64 0))) (.a (.bool false))) (.a (.bool true)) (.a (.bool true))), .chk [] (.ite (.ite (.b (.bin .eql (.t 0) (.t 1)) (.a (.t 13)) (.a (.int .i64 0))) (.b (.bin .eql (.t 0) (.t 1)) (.a (.t 12)) (.a (.int .i64 0))) (.a (.bool false))) (.a (.bool true)) (.a (.bool true))), .lt 117 [((.ite (.b (.bin .eql (.t 0) (.t 1)) (.a (.t 13)) (.a (.int .i64 0))) (.b (.bin .eql (.t 0) (.t 1)) (.a (.t 12)) (.a (.int .i64 0))) (.a (.bool false))), true)] (.u (.ld 6 true (.t 0)) (.a (.t 5))), .lt 116 [((.ite (.b (.bin .eql (.t 0) (.t 1)) (.a (.t 13)) (.a (.int .i64 0))) (.b (.bin .eql (.t 0) (.t 1)) (.a (.t 12)) (.a (.int .i64 0))) (.a (.bool false))), true)] (.u (.ld 6 true (.t 0)) (.a (.t 11))), .gop [((.ite (.b (.bin .eql (.t 0) (.t 1)) (.a (.t 13)) (.a (.int .i64 0))) (.b (.bin .eql (.t 0) (.t 1)) (.a (.t 12)) (.a (.int .i64 0))) (.a (.bool false))), true)] (some 118) (.pcall 11 [(.t 116), (.t 117)])] [(4, (.ite (.ite (.b (.bin .eql (.t 0) (.t 1)) (.a (.t 13)) (.a (.int .i64 0))) (.b (.bin .eql (.t 0) (.t 1)) (.a (.t 12)) (.a (.int .i64 0))) (.a (.bool false))) (.a (.t 118)) (.a (.bool false))))] [])
 (.ret)
def lt7_s1 : S2 := .seq (.rgT (.one 1 (.op (some 102) (.c (.fldA 5 5 (.t 5))))
  (.one 4 (.op (some 105) (.c (.fldA 5 5 (.t 8))))
  (.br (.cons 0 (.op (some 101) (.blo 88 3 [] [])) (.br (.cons 2 (.op (some 103) (.c (.ld 1 false (.t 102)))) (.br (.cons 3 (.op (some 104) (.app 88 3 48 (.t 101) (.t 103))) (.br (.cons 5 (.op (some 106) (.c (.ld 1 false (.t 105)))) (.one 6 (.op (some 107) (.app 88 3 48 (.t 104) (.t 106)))
  (.one 7 (.op (some 108) (.c (.fldA 5 5 (.t 5))))
  (.one 8 (.op none (.st 1 (.t 108) (.t 107)))
  (.done))))
  (.nil)))
  (.cons 5 (.op (some 106) (.c (.ld 1 false (.t 105)))) (.one 3 (.op (some 104) (.app 88 3 48 (.t 101) (.t 103)))
  (.one 6 (.op (some 107) (.app 88 3 48 (.t 104) (.t 106)))
  (.one 7 (.op (some 108) (.c (.fldA 5 5 (.t 5))))
  (.one 8 (.op none (.st 1 (.t 108) (.t 107)))
  (.done)))))
  (.nil))))
  (.cons 5 (.op (some 106) (.c (.ld 1 false (.t 105)))) (.br (.cons 2 (.op (some 103) (.c (.ld 1 false (.t 102)))) (.one 3 (.op (some 104) (.app 88 3 48 (.t 101) (.t 103)))
  (.one 6 (.op (some 107) (.app 88 3 48 (.t 104) (.t 106)))
  (.one 7 (.op (some 108) (.c (.fldA 5 5 (.t 5))))
  (.one 8 (.op none (.st 1 (.t 108) (.t 107)))
  (.done)))))
  (.nil)))
  (.nil))))
  (.cons 2 (.op (some 103) (.c (.ld 1 false (.t 102)))) (.br (.cons 0 (.op (some 101) (.blo 88 3 [] [])) (.br (.cons 3 (.op (some 104) (.app 88 3 48 (.t 101) (.t 103))) (.br (.cons 5 (.op (some 106) (.c (.ld 1 false (.t 105)))) (.one 6 (.op (some 107) (.app 88 3 48 (.t 104) (.t 106)))
  (.one 7 (.op (some 108) (.c (.fldA 5 5 (.t 5))))
  (.one 8 (.op none (.st 1 (.t 108) (.t 107)))
  (.done))))
  (.nil)))
  (.cons 5 (.op (some 106) (.c (.ld 1 false (.t 105)))) (.one 3 (.op (some 104) (.app 88 3 48 (.t 101) (.t 103)))
  (.one 6 (.op (some 107) (.app 88 3 48 (.t 104) (.t 106)))
  (.one 7 (.op (some 108) (.c (.fldA 5 5 (.t 5))))
  (.one 8 (.op none (.st 1 (.t 108) (.t 107)))
  (.done)))))
  (.nil))))
  (.cons 5 (.op (some 106) (.c (.ld 1 false (.t 105)))) (.one 0 (.op (some 101) (.blo 88 3 [] []))
  (.one 3 (.op (some 104) (.app 88 3 48 (.t 101) (.t 103)))
  (.one 6 (.op (some 107) (.app 88 3 48 (.t 104) (.t 106)))
  (.one 7 (.op (some 108) (.c (.fldA 5 5 (.t 5))))
  (.one 8 (.op none (.st 1 (.t 108) (.t 107)))
  (.done))))))
  (.nil))))
  (.cons 5 (.op (some 106) (.c (.ld 1 false (.t 105)))) (.br (.cons 0 (.op (some 101) (.blo 88 3 [] [])) (.br (.cons 2 (.op (some 103) (.c (.ld 1 false (.t 102)))) (.one 3 (.op (some 104) (.app 88 3 48 (.t 101) (.t 103)))
  (.one 6 (.op (some 107) (.app 88 3 48 (.t 104) (.t 106)))
  (.one 7 (.op (some 108) (.c (.fldA 5 5 (.t 5))))
  (.one 8 (.op none (.st 1 (.t 108) (.t 107)))
  (.done)))))
  (.nil)))
  (.cons 2 (.op (some 103) (.c (.ld 1 false (.t 102)))) (.one 0 (.op (some 101) (.blo 88 3 [] []))
  (.one 3 (.op (some 104) (.app 88 3 48 (.t 101) (.t 103)))
  (.one 6 (.op (some 107) (.app 88 3 48 (.t 104) (.t 106)))
  (.one 7 (.op (some 108) (.c (.fldA 5 5 (.t 5))))
  (.one 8 (.op none (.st 1 (.t 108) (.t 107)))
  (.done))))))
  (.nil))))
  (.nil))))))) [5, 11, 12, 13] [])
 (lt7_s0)
def lt7_s2 : S2 := .seq (.rgT (.one 1 (.op (some 94) (.c (.fldA 4 4 (.t 5))))
  (.one 4 (.op (some 97) (.c (.fldA 4 4 (.t 8))))
  (.br (.cons 0 (.op (some 93) (.blo 84 5 [] [])) (.br (.cons 2 (.op (some 95) (.c (.ld 1 false (.t 94)))) (.br (.cons 3 (.op (some 96) (.app 84 5 72 (.t 93) (.t 95))) (.br (.cons 5 (.op (some 98) (.c (.ld 1 false (.t 97)))) (.one 6 (.op (some 99) (.app 84 5 72 (.t 96) (.t 98)))
  (.one 7 (.op (some 100) (.c (.fldA 4 4 (.t 5))))
  (.one 8 (.op none (.st 1 (.t 100) (.t 99)))
  (.done))))
  (.nil)))
  (.cons 5 (.op (some 98) (.c (.ld 1 false (.t 97)))) (.one 3 (.op (some 96) (.app 84 5 72 (.t 93) (.t 95)))
  (.one 6 (.op (some 99) (.app 84 5 72 (.t 96) (.t 98)))
  (.one 7 (.op (some 100) (.c (.fldA 4 4 (.t 5))))
  (.one 8 (.op none (.st 1 (.t 100) (.t 99)))
  (.done)))))
  (.nil))))
  (.cons 5 (.op (some 98) (.c (.ld 1 false (.t 97)))) (.br (.cons 2 (.op (some 95) (.c (.ld 1 false (.t 94)))) (.one 3 (.op (some 96) (.app 84 5 72 (.t 93) (.t 95)))
  (.one 6 (.op (some 99) (.app 84 5 72 (.t 96) (.t 98)))
  (.one 7 (.op (some 100) (.c (.fldA 4 4 (.t 5))))
  (.one 8 (.op none (.st 1 (.t 100) (.t 99)))
  (.done)))))
  (.nil)))
  (.nil))))
  (.cons 2 (.op (some 95) (.c (.ld 1 false (.t 94)))) (.br (.cons 0 (.op (some 93) (.blo 84 5 [] [])) (.br (.cons 3 (.op (some 96) (.app 84 5 72 (.t 93) (.t 95))) (.br (.cons 5 (.op (some 98) (.c (.ld 1 false (.t 97)))) (.one 6 (.op (some 99) (.app 84 5 72 (.t 96) (.t 98)))
  (.one 7 (.op (some 100) (.c (.fldA 4 4 (.t 5))))
  (.one 8 (.op none (.st 1 (.t 100) (.t 99)))
  (.done))))
  (.nil)))
  (.cons 5 (.op (some 98) (.c (.ld 1 false (.t 97)))) (.one 3 (.op (some 96) (.app 84 5 72 (.t 93) (.t 95)))
  (.one 6 (.op (some 99) (.app 84 5 72 (.t 96) (.t 98)))
  (.one 7 (.op (some 100) (.c (.fldA 4 4 (.t 5))))
  (.one 8 (.op none (.st 1 (.t 100) (.t 99)))
  (.done)))))
  (.nil))))
  (.cons 5 (.op (some 98) (.c (.ld 1 false (.t 97)))) (.one 0 (.op (some 93) (.blo 84 5 [] []))
  (.one 3 (.op (some 96) (.app 84 5 72 (.t 93) (.t 95)))
  (.one 6 (.op (some 99) (.app 84 5 72 (.t 96) (.t 98)))
  (.one 7 (.op (some 100) (.c (.fldA 4 4 (.t 5))))
  (.one 8 (.op none (.st 1 (.t 100) (.t 99)))
  (.done))))))
  (.nil))))
  (.cons 5 (.op (some 98) (.c (.ld 1 false (.t 97)))) (.br (.cons 0 (.op (some 93) (.blo 84 5 [] [])) (.br (.cons 2 (.op (some 95) (.c (.ld 1 false (.t 94)))) (.one 3 (.op (some 96) (.app 84 5 72 (.t 93) (.t 95)))
  (.one 6 (.op (some 99) (.app 84 5 72 (.t 96) (.t 98)))
  (.one 7 (.op (some 100) (.c (.fldA 4 4 (.t 5))))
  (.one 8 (.op none (.st 1 (.t 100) (.t 99)))
  (.done)))))
  (.nil)))
  (.cons 2 (.op (some 95) (.c (.ld 1 false (.t 94)))) (.one 0 (.op (some 93) (.blo 84 5 [] []))
  (.one 3 (.op (some 96) (.app 84 5 72 (.t 93) (.t 95)))
  (.one 6 (.op (some 99) (.app 84 5 72 (.t 96) (.t 98)))
  (.one 7 (.op (some 100) (.c (.fldA 4 4 (.t 5))))
  (.one 8 (.op none (.st 1 (.t 100) (.t 99)))
  (.done))))))
  (.nil))))
  (.nil))))))) [5, 8, 11, 12, 13] [])
 (lt7_s1)
def lt7_s3 : S2 := .seq (.rgT (.one 1 (.op (some 86) (.c (.fldA 3 3 (.t 5))))
  (.one 4 (.op (some 89) (.c (.fldA 3 3 (.t 8))))
  (.br (.cons 0 (.op (some 85) (.blo 50 5 [] [])) (.br (.cons 2 (.op (some 87) (.c (.ld 1 false (.t 86)))) (.br (.cons 3 (.op (some 88) (.app 50 5 96 (.t 85) (.t 87))) (.br (.cons 5 (.op (some 90) (.c (.ld 1 false (.t 89)))) (.one 6 (.op (some 91) (.app 50 5 96 (.t 88) (.t 90)))
  (.one 7 (.op (some 92) (.c (.fldA 3 3 (.t 5))))
  (.one 8 (.op none (.st 1 (.t 92) (.t 91)))
  (.done))))
  (.nil)))
  (.cons 5 (.op (some 90) (.c (.ld 1 false (.t 89)))) (.one 3 (.op (some 88) (.app 50 5 96 (.t 85) (.t 87)))
  (.one 6 (.op (some 91) (.app 50 5 96 (.t 88) (.t 90)))
  (.one 7 (.op (some 92) (.c (.fldA 3 3 (.t 5))))
  (.one 8 (.op none (.st 1 (.t 92) (.t 91)))
  (.done)))))
  (.nil))))
  (.cons 5 (.op (some 90) (.c (.ld 1 false (.t 89)))) (.br (.cons 2 (.op (some 87) (.c (.ld 1 false (.t 86)))) (.one 3 (.op (some 88) (.app 50 5 96 (.t 85) (.t 87)))
  (.one 6 (.op (some 91) (.app 50 5 96 (.t 88) (.t 90)))
  (.one 7 (.op (some 92) (.c (.fldA 3 3 (.t 5))))
  (.one 8 (.op none (.st 1 (.t 92) (.t 91)))
  (.done)))))
  (.nil)))
  (.nil))))
  (.cons 2 (.op (some 87) (.c (.ld 1 false (.t 86)))) (.br (.cons 0 (.op (some 85) (.blo 50 5 [] [])) (.br (.cons 3 (.op (some 88) (.app 50 5 96 (.t 85) (.t 87))) (.br (.cons 5 (.op (some 90) (.c (.ld 1 false (.t 89)))) (.one 6 (.op (some 91) (.app 50 5 96 (.t 88) (.t 90)))
  (.one 7 (.op (some 92) (.c (.fldA 3 3 (.t 5))))
  (.one 8 (.op none (.st 1 (.t 92) (.t 91)))
  (.done))))
  (.nil)))
  (.cons 5 (.op (some 90) (.c (.ld 1 false (.t 89)))) (.one 3 (.op (some 88) (.app 50 5 96 (.t 85) (.t 87)))
  (.one 6 (.op (some 91) (.app 50 5 96 (.t 88) (.t 90)))
  (.one 7 (.op (some 92) (.c (.fldA 3 3 (.t 5))))
  (.one 8 (.op none (.st 1 (.t 92) (.t 91)))
  (.done)))))
  (.nil))))
  (.cons 5 (.op (some 90) (.c (.ld 1 false (.t 89)))) (.one 0 (.op (some 85) (.blo 50 5 [] []))
  (.one 3 (.op (some 88) (.app 50 5 96 (.t 85) (.t 87)))
  (.one 6 (.op (some 91) (.app 50 5 96 (.t 88) (.t 90)))
  (.one 7 (.op (some 92) (.c (.fldA 3 3 (.t 5))))
  (.one 8 (.op none (.st 1 (.t 92) (.t 91)))
  (.done))))))
  (.nil))))
  (.cons 5 (.op (some 90) (.c (.ld 1 false (.t 89)))) (.br (.cons 0 (.op (some 85) (.blo 50 5 [] [])) (.br (.cons 2 (.op (some 87) (.c (.ld 1 false (.t 86)))) (.one 3 (.op (some 88) (.app 50 5 96 (.t 85) (.t 87)))
  (.one 6 (.op (some 91) (.app 50 5 96 (.t 88) (.t 90)))
  (.one 7 (.op (some 92) (.c (.fldA 3 3 (.t 5))))
  (.one 8 (.op none (.st 1 (.t 92) (.t 91)))
  (.done)))))
  (.nil)))
  (.cons 2 (.op (some 87) (.c (.ld 1 false (.t 86)))) (.one 0 (.op (some 85) (.blo 50 5 [] []))
  (.one 3 (.op (some 88) (.app 50 5 96 (.t 85) (.t 87)))
  (.one 6 (.op (some 91) (.app 50 5 96 (.t 88) (.t 90)))
  (.one 7 (.op (some 92) (.c (.fldA 3 3 (.t 5))))
  (.one 8 (.op none (.st 1 (.t 92) (.t 91)))
  (.done))))))
  (.nil))))
  (.nil))))))) [5, 8, 11, 12, 13] [])
 (lt7_s2)
def lt7_s4 : S2 := .seq (.rgT (.one 1 (.op (some 78) (.c (.fldA 2 2 (.t 5))))
  (.one 4 (.op (some 81) (.c (.fldA 2 2 (.t 8))))
  (.br (.cons 0 (.op (some 77) (.blo 79 6 [] [])) (.br (.cons 2 (.op (some 79) (.c (.ld 1 false (.t 78)))) (.br (.cons 3 (.op (some 80) (.app 79 6 96 (.t 77) (.t 79))) (.br (.cons 5 (.op (some 82) (.c (.ld 1 false (.t 81)))) (.one 6 (.op (some 83) (.app 79 6 96 (.t 80) (.t 82)))
  (.one 7 (.op (some 84) (.c (.fldA 2 2 (.t 5))))
  (.one 8 (.op none (.st 1 (.t 84) (.t 83)))
  (.done))))
  (.nil)))
  (.cons 5 (.op (some 82) (.c (.ld 1 false (.t 81)))) (.one 3 (.op (some 80) (.app 79 6 96 (.t 77) (.t 79)))
  (.one 6 (.op (some 83) (.app 79 6 96 (.t 80) (.t 82)))
  (.one 7 (.op (some 84) (.c (.fldA 2 2 (.t 5))))
  (.one 8 (.op none (.st 1 (.t 84) (.t 83)))
  (.done)))))
  (.nil))))
  (.cons 5 (.op (some 82) (.c (.ld 1 false (.t 81)))) (.br (.cons 2 (.op (some 79) (.c (.ld 1 false (.t 78)))) (.one 3 (.op (some 80) (.app 79 6 96 (.t 77) (.t 79)))
  (.one 6 (.op (some 83) (.app 79 6 96 (.t 80) (.t 82)))
  (.one 7 (.op (some 84) (.c (.fldA 2 2 (.t 5))))
  (.one 8 (.op none (.st 1 (.t 84) (.t 83)))
  (.done)))))
  (.nil)))
  (.nil))))
  (.cons 2 (.op (some 79) (.c (.ld 1 false (.t 78)))) (.br (.cons 0 (.op (some 77) (.blo 79 6 [] [])) (.br (.cons 3 (.op (some 80) (.app 79 6 96 (.t 77) (.t 79))) (.br (.cons 5 (.op (some 82) (.c (.ld 1 false (.t 81)))) (.one 6 (.op (some 83) (.app 79 6 96 (.t 80) (.t 82)))
  (.one 7 (.op (some 84) (.c (.fldA 2 2 (.t 5))))
  (.one 8 (.op none (.st 1 (.t 84) (.t 83)))
  (.done))))
  (.nil)))
  (.cons 5 (.op (some 82) (.c (.ld 1 false (.t 81)))) (.one 3 (.op (some 80) (.app 79 6 96 (.t 77) (.t 79)))
  (.one 6 (.op (some 83) (.app 79 6 96 (.t 80) (.t 82)))
  (.one 7 (.op (some 84) (.c (.fldA 2 2 (.t 5))))
  (.one 8 (.op none (.st 1 (.t 84) (.t 83)))
  (.done)))))
  (.nil))))
  (.cons 5 (.op (some 82) (.c (.ld 1 false (.t 81)))) (.one 0 (.op (some 77) (.blo 79 6 [] []))
  (.one 3 (.op (some 80) (.app 79 6 96 (.t 77) (.t 79)))
  (.one 6 (.op (some 83) (.app 79 6 96 (.t 80) (.t 82)))
  (.one 7 (.op (some 84) (.c (.fldA 2 2 (.t 5))))
  (.one 8 (.op none (.st 1 (.t 84) (.t 83)))
  (.done))))))
  (.nil))))
  (.cons 5 (.op (some 82) (.c (.ld 1 false (.t 81)))) (.br (.cons 0 (.op (some 77) (.blo 79 6 [] [])) (.br (.cons 2 (.op (some 79) (.c (.ld 1 false (.t 78)))) (.one 3 (.op (some 80) (.app 79 6 96 (.t 77) (.t 79)))
  (.one 6 (.op (some 83) (.app 79 6 96 (.t 80) (.t 82)))
  (.one 7 (.op (some 84) (.c (.fldA 2 2 (.t 5))))
  (.one 8 (.op none (.st 1 (.t 84) (.t 83)))
  (.done)))))
  (.nil)))
  (.cons 2 (.op (some 79) (.c (.ld 1 false (.t 78)))) (.one 0 (.op (some 77) (.blo 79 6 [] []))
  (.one 3 (.op (some 80) (.app 79 6 96 (.t 77) (.t 79)))
  (.one 6 (.op (some 83) (.app 79 6 96 (.t 80) (.t 82)))
  (.one 7 (.op (some 84) (.c (.fldA 2 2 (.t 5))))
  (.one 8 (.op none (.st 1 (.t 84) (.t 83)))
  (.done))))))
  (.nil))))
  (.nil))))))) [5, 8, 11, 12, 13] [])
 (lt7_s3)
def lt7_s5 : S2 := .seq (.rgT (.one 1 (.op (some 70) (.c (.fldA 1 1 (.t 5))))
  (.one 4 (.op (some 73) (.c (.fldA 1 1 (.t 8))))
  (.br (.cons 0 (.op (some 69) (.blo 74 5 [] [])) (.br (.cons 2 (.op (some 71) (.c (.ld 1 false (.t 70)))) (.br (.cons 3 (.op (some 72) (.app 74 5 56 (.t 69) (.t 71))) (.br (.cons 5 (.op (some 74) (.c (.ld 1 false (.t 73)))) (.one 6 (.op (some 75) (.app 74 5 56 (.t 72) (.t 74)))
  (.one 7 (.op (some 76) (.c (.fldA 1 1 (.t 5))))
  (.one 8 (.op none (.st 1 (.t 76) (.t 75)))
  (.done))))
  (.nil)))
  (.cons 5 (.op (some 74) (.c (.ld 1 false (.t 73)))) (.one 3 (.op (some 72) (.app 74 5 56 (.t 69) (.t 71)))
  (.one 6 (.op (some 75) (.app 74 5 56 (.t 72) (.t 74)))
  (.one 7 (.op (some 76) (.c (.fldA 1 1 (.t 5))))
  (.one 8 (.op none (.st 1 (.t 76) (.t 75)))
  (.done)))))
  (.nil))))
  (.cons 5 (.op (some 74) (.c (.ld 1 false (.t 73)))) (.br (.cons 2 (.op (some 71) (.c (.ld 1 false (.t 70)))) (.one 3 (.op (some 72) (.app 74 5 56 (.t 69) (.t 71)))
  (.one 6 (.op (some 75) (.app 74 5 56 (.t 72) (.t 74)))
  (.one 7 (.op (some 76) (.c (.fldA 1 1 (.t 5))))
  (.one 8 (.op none (.st 1 (.t 76) (.t 75)))
  (.done)))))
  (.nil)))
  (.nil))))
  (.cons 2 (.op (some 71) (.c (.ld 1 false (.t 70)))) (.br (.cons 0 (.op (some 69) (.blo 74 5 [] [])) (.br (.cons 3 (.op (some 72) (.app 74 5 56 (.t 69) (.t 71))) (.br (.cons 5 (.op (some 74) (.c (.ld 1 false (.t 73)))) (.one 6 (.op (some 75) (.app 74 5 56 (.t 72) (.t 74)))
  (.one 7 (.op (some 76) (.c (.fldA 1 1 (.t 5))))
  (.one 8 (.op none (.st 1 (.t 76) (.t 75)))
  (.done))))
  (.nil)))
  (.cons 5 (.op (some 74) (.c (.ld 1 false (.t 73)))) (.one 3 (.op (some 72) (.app 74 5 56 (.t 69) (.t 71)))
  (.one 6 (.op (some 75) (.app 74 5 56 (.t 72) (.t 74)))
  (.one 7 (.op (some 76) (.c (.fldA 1 1 (.t 5))))
  (.one 8 (.op none (.st 1 (.t 76) (.t 75)))
  (.done)))))
  (.nil))))
  (.cons 5 (.op (some 74) (.c (.ld 1 false (.t 73)))) (.one 0 (.op (some 69) (.blo 74 5 [] []))
  (.one 3 (.op (some 72) (.app 74 5 56 (.t 69) (.t 71)))
  (.one 6 (.op (some 75) (.app 74 5 56 (.t 72) (.t 74)))
  (.one 7 (.op (some 76) (.c (.fldA 1 1 (.t 5))))
  (.one 8 (.op none (.st 1 (.t 76) (.t 75)))
  (.done))))))
  (.nil))))
  (.cons 5 (.op (some 74) (.c (.ld 1 false (.t 73)))) (.br (.cons 0 (.op (some 69) (.blo 74 5 [] [])) (.br (.cons 2 (.op (some 71) (.c (.ld 1 false (.t 70)))) (.one 3 (.op (some 72) (.app 74 5 56 (.t 69) (.t 71)))
  (.one 6 (.op (some 75) (.app 74 5 56 (.t 72) (.t 74)))
  (.one 7 (.op (some 76) (.c (.fldA 1 1 (.t 5))))
  (.one 8 (.op none (.st 1 (.t 76) (.t 75)))
  (.done)))))
  (.nil)))
  (.cons 2 (.op (some 71) (.c (.ld 1 false (.t 70)))) (.one 0 (.op (some 69) (.blo 74 5 [] []))
  (.one 3 (.op (some 72) (.app 74 5 56 (.t 69) (.t 71)))
  (.one 6 (.op (some 75) (.app 74 5 56 (.t 72) (.t 74)))
  (.one 7 (.op (some 76) (.c (.fldA 1 1 (.t 5))))
  (.one 8 (.op none (.st 1 (.t 76) (.t 75)))
  (.done))))))
  (.nil))))
  (.nil))))))) [5, 8, 11, 12, 13] [])
 (lt7_s4)
def lt7 : S2 := .seq (.rg [] [(0, (.a (.t 0))), (1, (.a (.t 1)))] [])
 (.seq (.seq (.rg [.op (some 14) (.pcall 8 [])] [(0, (.a (.t 0))), (1, (.a (.t 1))), (15, (.u (.not (.t 0)) (.a (.t 14))))] [])
 (.cond (.t 15) (.seq (.rg [] [(4, (.a (.bool false)))] [])
 (.ret)) (.skip)))
 (.seq (.seq (.rg [] [(0, (.a (.t 0))), (1, (.a (.t 1))), (21, (.b (.bin .gtr (.t 0) (.t 1)) (.b (.bin .add (.t 0) (.t 1)) (.u (.lenS (.t 0)) (.a (.t 0))) (.u (.lenS (.t 0)) (.a (.t 1)))) (.a (.int .i64 4000))))] [])
 (.cond (.t 21) (.seq (.rg [] [(4, (.a (.bool true)))] [])
 (.ret)) (.skip)))
 (.seq (.rg [.lt 23 [] (.a (.t 0)), .op (some 24) (.pcall 9 [(.t 23)]), .chk [] (.u (.ext (.t 0) 2) (.a (.t 24))), .chk [] (.u (.ext (.t 0) 1) (.a (.t 24))), .chk [] (.u (.ext (.t 0) 0) (.a (.t 24))), .op (some 5) (.alloc 30 (.agg [.nils, .nils, .nils, .nils, .nils, .nils])), .lt 25 [] (.u (.ext (.t 0) 0) (.a (.t 24))), .op none (.st 6 (.t 5) (.t 25)), .chk [] (.u (.ext (.t 0) 1) (.a (.t 24)))] [(0, (.a (.t 0))), (1, (.a (.t 1))), (5, (.a (.t 5))), (7, (.u (.ext (.t 0) 2) (.a (.t 24))))] [])
 (.seq (.rg [.lt 29 [] (.a (.t 1)), .op (some 30) (.pcall 9 [(.t 29)]), .chk [] (.u (.ext (.t 0) 2) (.a (.t 30))), .chk [] (.u (.ext (.t 0) 1) (.a (.t 30))), .chk [] (.u (.ext (.t 0) 0) (.a (.t 30))), .op (some 8) (.alloc 30 (.agg [.nils, .nils, .nils, .nils, .nils, .nils])), .lt 31 [] (.u (.ext (.t 0) 0) (.a (.t 30))), .op none (.st 6 (.t 8) (.t 31)), .chk [] (.u (.ext (.t 0) 1) (.a (.t 30)))] [(0, (.a (.t 0))), (1, (.a (.t 1))), (5, (.a (.t 5))), (7, (.a (.t 7))), (8, (.a (.t 8))), (10, (.u (.ext (.t 0) 2) (.a (.t 30))))] [])
 (.seq (.rg [.chk [] (.b (.bin .add (.t 0) (.t 1)) (.b (.bin .add (.t 0) (.t 1)) (.a (.t 0)) (.a (.str [10]))) (.a (.t 1))), .lt 38 [] (.b (.bin .add (.t 0) (.t 1)) (.b (.bin .add (.t 0) (.t 1)) (.a (.t 0)) (.a (.str [10]))) (.a (.t 1))), .op (some 39) (.pcall 9 [(.t 38)]), .chk [] (.u (.ext (.t 0) 2) (.a (.t 39))), .chk [] (.u (.ext (.t 0) 1) (.a (.t 39))), .chk [] (.u (.ext (.t 0) 0) (.a (.t 39))), .op (some 11) (.alloc 30 (.agg [.nils, .nils, .nils, .nils, .nils, .nils])), .lt 40 [] (.u (.ext (.t 0) 0) (.a (.t 39))), .op none (.st 6 (.t 11) (.t 40))] [(0, (.a (.t 0))), (5, (.a (.t 5))), (7, (.a (.t 7))), (8, (.a (.t 8))), (10, (.a (.t 10))), (11, (.a (.t 11))), (12, (.u (.ext (.t 0) 1) (.a (.t 39)))), (13, (.u (.ext (.t 0) 2) (.a (.t 39))))] [])
 (.seq (.seq (.rg [] [(0, (.a (.t 0))), (5, (.a (.t 5))), (8, (.a (.t 8))), (11, (.a (.t 11))), (12, (.a (.t 12))), (13, (.a (.t 13))), (48, (.ite (.b (.bin .neq (.t 0) (.t 1)) (.a (.t 7)) (.a (.int .i64 0))) (.a (.bool true)) (.b (.bin .neq (.t 0) (.t 1)) (.a (.t 10)) (.a (.int .i64 0)))))] [])
 (.cond (.t 48) (.seq (.rg [] [(4, (.a (.bool true)))] [])
 (.ret)) (.skip)))
 (.seq (.seq (.rg [.chk [] (.u (.ld 6 true (.t 0)) (.a (.t 8))), .chk [] (.u (.ld 6 true (.t 0)) (.a (.t 5))), .lt 50 [] (.u (.ld 6 true (.t 0)) (.a (.t 8))), .lt 49 [] (.u (.ld 6 true (.t 0)) (.a (.t 5))), .op (some 51) (.pcall 16 [(.t 49), (.t 50)])] [(0, (.a (.t 0))), (5, (.a (.t 5))), (8, (.a (.t 8))), (11, (.a (.t 11))), (12, (.a (.t 12))), (13, (.a (.t 13))), (52, (.u (.not (.t 0)) (.a (.t 51))))] [])
 (.cond (.t 52) (.seq (.rg [] [(4, (.ite (.b (.bin .eql (.t 0) (.t 1)) (.a (.t 13)) (.a (.int .i64 2))) (.b (.bin .gtr (.t 0) (.t 1)) (.a (.t 12)) (.u (.lenS (.t 0)) (.a (.t 0)))) (.a (.bool false))))] [])
 (.ret)) (.skip)))
 (.seq (.rgT (.one 1 (.op (some 62) (.c (.fldA 0 0 (.t 5))))
  (.one 4 (.op (some 65) (.c (.fldA 0 0 (.t 8))))
  (.br (.cons 0 (.op (some 61) (.blo 9 1 [] [])) (.br (.cons 2 (.op (some 63) (.c (.ld 1 false (.t 62)))) (.br (.cons 3 (.op (some 64) (.app 9 1 16 (.t 61) (.t 63))) (.br (.cons 5 (.op (some 66) (.c (.ld 1 false (.t 65)))) (.one 6 (.op (some 67) (.app 9 1 16 (.t 64) (.t 66)))
  (.one 7 (.op (some 68) (.c (.fldA 0 0 (.t 5))))
  (.one 8 (.op none (.st 1 (.t 68) (.t 67)))
  (.done))))
  (.nil)))
  (.cons 5 (.op (some 66) (.c (.ld 1 false (.t 65)))) (.one 3 (.op (some 64) (.app 9 1 16 (.t 61) (.t 63)))
  (.one 6 (.op (some 67) (.app 9 1 16 (.t 64) (.t 66)))
  (.one 7 (.op (some 68) (.c (.fldA 0 0 (.t 5))))
  (.one 8 (.op none (.st 1 (.t 68) (.t 67)))
  (.done)))))
  (.nil))))
  (.cons 5 (.op (some 66) (.c (.ld 1 false (.t 65)))) (.br (.cons 2 (.op (some 63) (.c (.ld 1 false (.t 62)))) (.one 3 (.op (some 64) (.app 9 1 16 (.t 61) (.t 63)))
  (.one 6 (.op (some 67) (.app 9 1 16 (.t 64) (.t 66)))
  (.one 7 (.op (some 68) (.c (.fldA 0 0 (.t 5))))
  (.one 8 (.op none (.st 1 (.t 68) (.t 67)))
  (.done)))))
  (.nil)))
  (.nil))))
  (.cons 2 (.op (some 63) (.c (.ld 1 false (.t 62)))) (.br (.cons 0 (.op (some 61) (.blo 9 1 [] [])) (.br (.cons 3 (.op (some 64) (.app 9 1 16 (.t 61) (.t 63))) (.br (.cons 5 (.op (some 66) (.c (.ld 1 false (.t 65)))) (.one 6 (.op (some 67) (.app 9 1 16 (.t 64) (.t 66)))
  (.one 7 (.op (some 68) (.c (.fldA 0 0 (.t 5))))
  (.one 8 (.op none (.st 1 (.t 68) (.t 67)))
  (.done))))
  (.nil)))
  (.cons 5 (.op (some 66) (.c (.ld 1 false (.t 65)))) (.one 3 (.op (some 64) (.app 9 1 16 (.t 61) (.t 63)))
  (.one 6 (.op (some 67) (.app 9 1 16 (.t 64) (.t 66)))
  (.one 7 (.op (some 68) (.c (.fldA 0 0 (.t 5))))
  (.one 8 (.op none (.st 1 (.t 68) (.t 67)))
  (.done)))))
  (.nil))))
  (.cons 5 (.op (some 66) (.c (.ld 1 false (.t 65)))) (.one 0 (.op (some 61) (.blo 9 1 [] []))
  (.one 3 (.op (some 64) (.app 9 1 16 (.t 61) (.t 63)))
  (.one 6 (.op (some 67) (.app 9 1 16 (.t 64) (.t 66)))
  (.one 7 (.op (some 68) (.c (.fldA 0 0 (.t 5))))
  (.one 8 (.op none (.st 1 (.t 68) (.t 67)))
  (.done))))))
  (.nil))))
  (.cons 5 (.op (some 66) (.c (.ld 1 false (.t 65)))) (.br (.cons 0 (.op (some 61) (.blo 9 1 [] [])) (.br (.cons 2 (.op (some 63) (.c (.ld 1 false (.t 62)))) (.one 3 (.op (some 64) (.app 9 1 16 (.t 61) (.t 63)))
  (.one 6 (.op (some 67) (.app 9 1 16 (.t 64) (.t 66)))
  (.one 7 (.op (some 68) (.c (.fldA 0 0 (.t 5))))
  (.one 8 (.op none (.st 1 (.t 68) (.t 67)))
  (.done)))))
  (.nil)))
  (.cons 2 (.op (some 63) (.c (.ld 1 false (.t 62)))) (.one 0 (.op (some 61) (.blo 9 1 [] []))
  (.one 3 (.op (some 64) (.app 9 1 16 (.t 61) (.t 63)))
  (.one 6 (.op (some 67) (.app 9 1 16 (.t 64) (.t 66)))
  (.one 7 (.op (some 68) (.c (.fldA 0 0 (.t 5))))
  (.one 8 (.op none (.st 1 (.t 68) (.t 67)))
  (.done))))))
  (.nil))))
  (.nil))))))) [5, 8, 11, 12, 13] [])
 (lt7_s5)))))))))
theorem lf7 : ir7.lift [] = some lt7 := by kernel_rfl
def lt16 : S2 := .seq (.rg [.op (some 2) (.box 30 (.t 0)), .op (some 3) (.box 30 (.t 1))] [(2, (.a (.t 2))), (3, (.a (.t 3)))] [])
 (.seq (.rg [] [(4, (.ite (.ite (.ite (.ite (.ite (.b (.bin .leq (.t 0) (.t 1)) (.b (.bin .add (.t 0) (.t 1)) (.u (.lenL (.t 0)) (.u (.ld 1 false (.t 0)) (.u (.fldA 0 0 (.t 0)) (.a (.t 2))))) (.u (.lenL (.t 0)) (.u (.ld 1 false (.t 0)) (.u (.fldA 0 0 (.t 0)) (.a (.t 3)))))) (.a (.int .i64 8))) (.b (.bin .leq (.t 0) (.t 1)) (.b (.bin .add (.t 0) (.t 1)) (.u (.lenL (.t 0)) (.u (.ld 1 false (.t 0)) (.u (.fldA 1 1 (.t 0)) (.a (.t 2))))) (.u (.lenL (.t 0)) (.u (.ld 1 false (.t 0)) (.u (.fldA 1 1 (.t 0)) (.a (.t 3)))))) (.a (.int .i64 16))) (.a (.bool false))) (.b (.bin .leq (.t 0) (.t 1)) (.b (.bin .add (.t 0) (.t 1)) (.u (.lenL (.t 0)) (.u (.ld 1 false (.t 0)) (.u (.fldA 2 2 (.t 0)) (.a (.t 2))))) (.u (.lenL (.t 0)) (.u (.ld 1 false (.t 0)) (.u (.fldA 2 2 (.t 0)) (.a (.t 3)))))) (.a (.int .i64 16))) (.a (.bool false))) (.b (.bin .leq (.t 0) (.t 1)) (.b (.bin .add (.t 0) (.t 1)) (.u (.lenL (.t 0)) (.u (.ld 1 false (.t 0)) (.u (.fldA 3 3 (.t 0)) (.a (.t 2))))) (.u (.lenL (.t 0)) (.u (.ld 1 false (.t 0)) (.u (.fldA 3 3 (.t 0)) (.a (.t 3)))))) (.a (.int .i64 16))) (.a (.bool false))) (.b (.bin .leq (.t 0) (.t 1)) (.b (.bin .add (.t 0) (.t 1)) (.u (.lenL (.t 0)) (.u (.ld 1 false (.t 0)) (.u (.fldA 4 4 (.t 0)) (.a (.t 2))))) (.u (.lenL (.t 0)) (.u (.ld 1 false (.t 0)) (.u (.fldA 4 4 (.t 0)) (.a (.t 3)))))) (.a (.int .i64 16))) (.a (.bool false))) (.b (.bin .leq (.t 0) (.t 1)) (.b (.bin .add (.t 0) (.t 1)) (.u (.lenL (.t 0)) (.u (.ld 1 false (.t 0)) (.u (.fldA 5 5 (.t 0)) (.a (.t 2))))) (.u (.lenL (.t 0)) (.u (.ld 1 false (.t 0)) (.u (.fldA 5 5 (.t 0)) (.a (.t 3)))))) (.a (.int .i64 8))) (.a (.bool false))))] [])
 (.ret))
theorem lf16 : ir16.lift [] = some lt16 := by kernel_rfl
end Go.Proofs.YtanpgmgkmfckaaaGreatDoor
/- The law SyntaxJoins. Condition: the program is the seat's; its package variables are laid. -/
namespace Go.Sx
open Go Go.Ab Go.Lx
theorem wf_small {x : Src} (h : x.wf) : x.raw.small := by
  have hf := h.few
  refine ⟨?_, ?_, ?_, ?_, ?_, ?_, ?_, ?_, ?_, ?_⟩
  · have := hf.issuers; simp only [Src.raw]; omega
  · have := hf.units; simp only [Src.raw, List.length_map]; omega
  · have := hf.schemas; simp only [Src.raw, List.length_map]; omega
  · have := hf.rules; simp only [Src.raw, List.length_map]; omega
  · have := hf.converts; simp only [Src.raw, List.length_map]; omega
  · have := hf.purposes; simp only [Src.raw, List.length_map]; omega
  · intro y hy
    simp only [Src.raw, List.mem_map] at hy
    obtain ⟨s, hs, rfl⟩ := hy
    have hw := h.schemas s hs
    refine ⟨?_, ?_, ?_, ?_⟩
    · have := hw.few; simp only [Schema.raw, List.length_map]; omega
    · have := hw.less; simp only [Schema.raw, List.length_map]; omega
    · intro f hf'
      simp only [Schema.raw, List.mem_map] at hf'
      obtain ⟨g, hg, rfl⟩ := hf'
      have ht := (hw.fields g hg).type
      obtain ⟨n, t, w⟩ := g
      cases t with
      | choice l =>
        have := ht.2.1
        simp only [Field.raw, TypeT.raw]; omega
      | _ => simp [Field.raw, TypeT.raw]
    · intro f hf'
      simp only [Schema.raw, List.mem_map] at hf'
      obtain ⟨g, hg, rfl⟩ := hf'
      have := (hw.depends g hg).names.2.1
      exact ⟨by simp only [Depend.raw]; omega, by simp [Depend.raw]⟩
  · intro y hy
    simp only [Src.raw, List.mem_map] at hy
    obtain ⟨s, hs, rfl⟩ := hy
    have hw := h.rules s hs
    refine ⟨?_, ?_, ?_⟩
    · have := hw.few; simp only [Rule.raw, List.length_map]; omega
    · have := hw.less; simp only [Rule.raw, List.length_map]; omega
    · have := hw.least; simp only [Rule.raw, List.length_map]; omega
  · intro y hy
    simp only [Src.raw, List.mem_map] at hy
    obtain ⟨s, hs, rfl⟩ := hy
    have := (h.converts s hs).few
    simp only [Convert.raw, List.length_map]; omega
  · intro y hy
    simp only [Src.raw, List.mem_map] at hy
    obtain ⟨s, hs, rfl⟩ := hy
    have := (h.purposes s hs).few
    simp only [Purpose.raw, List.length_map]; omega
theorem wf_le {x : Src} (h : x.wf) : D.le x.enc x.raw.enc := Src.raw_le fun s hs f hf => ((h.schemas s hs).fields f hf).four
theorem parseV_form (s : B) (hs : s.length ≤ 65536) : ∃ (d : D) (i e : Int), parseV s = .tup [.d d, .d (.int .i64 i), .d (.int .i64 e)] ∧ d.shape = .node [.leaf, .leaf, .leaf, .leaf, .leaf, .leaf] ∧
    ((e = 0 ∧ i = 0 ∧ ∃ l x, lexR s 0 = .ok l ∧ parseR l = .ok x [] ∧ d = x.enc ∧ x.wf) ∨ (e ≠ 0 ∧ d = zeroS)) := by
  unfold parseV
  rw [if_neg (by omega)]
  cases hl : lexR s 0 with
  | err e => exact ⟨_, _, _, rfl, by simp [D.shape, D.shapes], .inr ⟨by decide, rfl⟩⟩
  | ok l =>
    cases hp : parseR l with
    | ok x r =>
      obtain rfl := parse_ok_nil _ _ _ _ _ hp
      exact ⟨x.enc, 0, 0, by simp only [hp]; rfl, by simp [Src.enc, D.shape, D.shapes], .inl ⟨rfl, rfl, l, x, rfl, hp, rfl, parse_wf (lexR_valid _ _ _ hl).1 hp⟩⟩
    | err r e =>
      refine ⟨zeroS, atI s.length r, failE r e, by simp only [hp]; rfl, by simp [D.shape, D.shapes], .inr ⟨?_, rfl⟩⟩
      have he := (places hl hp).1
      cases r with
      | nil => simp [failE]
      | cons t p => simp only [failE]; rcases he with rfl | rfl <;> decide
end Go.Sx
namespace Go.Proofs.YtanpgmgkmfckaaaGreatDoor
open Go Go.Ab Go.Lx Go.Sx
set_option maxRecDepth 100000
section
variable {P : Prg} (hP : P.p = Tryz.prog)
include hP
theorem c_fits {x y : Src} (hx : Few x) (hy : Few y) {ob : Objs} {K : V → Prop} (h : ∀ b, (b = true ↔ Few (x.app y)) → K (.d (.bool b))) : PCall P 16 [.d x.enc, .d y.enc] ob K := by
  refine pcall_lift hP mixed (ds := [x.enc, y.enc]) ok16 lf16 TOk.nil ?_
  obtain ⟨a1, a2, a3, a4, a5, a6⟩ := hx
  obtain ⟨b1, b2, b3, b4, b5, b6⟩ := hy
  have w : ∀ {m n : Nat}, m ≤ 16 → n ≤ 16 → IntKind.i64.wrap ((m : Int) + n) = (m : Int) + n := fun h1 h2 => IntWalk.i64_in _ (by omega)
  simp [lt16, Src.enc, w (by omega : x.issuers.length ≤ 16) (by omega : y.issuers.length ≤ 16), w a2 b2, w a3 b3, w a4 b4, w a5 b5, w (by omega : x.purposes.length ≤ 16) (by omega : y.purposes.length ≤ 16)]
  refine h _ ?_
  simp only [Bool.and_eq_true, decide_eq_true_eq]
  constructor
  · rintro ⟨⟨⟨⟨⟨c1, c2⟩, c3⟩, c4⟩, c5⟩, c6⟩
    exact ⟨by simp [Src.app]; omega, by simp [Src.app]; omega, by simp [Src.app]; omega, by simp [Src.app]; omega, by simp [Src.app]; omega, by simp [Src.app]; omega⟩
  · rintro ⟨c1, c2, c3, c4, c5, c6⟩
    simp only [Src.app, List.length_append] at c1 c2 c3 c4 c5 c6
    omega
theorem c_same_src {x : Src} (hx : x.wf) {ob : Objs} {K : V → Prop} (h : K (.d (.bool true))) : PCall P 11 [.d x.enc, .d x.enc] ob K := by
  have hle := wf_le hx
  exact PCall.le (xs := [x.enc, x.enc]) (ys := [x.raw.enc, x.raw.enc]) (.cons hle (.cons hle .nil)) (c_Same hP (wf_small hx) h)
variable (hI : Ivl P) (hG : Pow P)
include hI hG
theorem p_SyntaxJoins (a b : B) (ha : a.length ≤ 4611686018427387903) (hb : b.length ≤ 4611686018427387903) {ob : Objs} {K : V → Prop} (h : K (.d (.bool true))) : PCall P 7 [.d (.str a), .d (.str b)] ob K := by
  refine pcall_lift hP mixed (ds := [.str a, .str b]) ok7 lf7 TOk.nil ?_
  have hw : IntKind.i64.wrap ((a.length : Int) + b.length) = (a.length : Int) + b.length := IntWalk.i64_in _ (by omega)
  simp [lt7]
  refine c_sane hP hI hG ?_
  simp [hw]
  refine ⟨fun _ => h, fun hsm => ?_⟩
  obtain ⟨d1, i1, e1, v1, s1, o1⟩ := parseV_form a (by omega)
  obtain ⟨d2, i2, e2, v2, s2, o2⟩ := parseV_form b (by omega)
  obtain ⟨d3, i3, e3, v3, s3, o3⟩ := parseV_form (a ++ 10 :: b) (by simp; omega)
  refine c_Parse hP hI a ?_
  rw [v1]
  rcases o1 with ⟨rfl, rfl, l1, x, hl1, hp1, rfl, wx⟩ | ⟨he1, rfl⟩
  · rcases o2 with ⟨rfl, rfl, l2, y, hl2, hp2, rfl, wy⟩ | ⟨he2, rfl⟩
    · simp [s1]
      refine c_Parse hP hI b ?_
      rw [v2]
      simp [s2]
      refine ⟨⟨by omega, by omega⟩, c_Parse hP hI _ ?_⟩
      obtain ⟨q, hq, hj⟩ := joins hl1 hl2 hp1 hp2
      have hagg : ∀ z : Src, ∃ xs, z.enc = .agg xs := fun z => ⟨_, rfl⟩
      rcases hj with ⟨hf, hj⟩ | ⟨hf, t, p, hj, hat⟩
      · have e3 : parseV (a ++ 10 :: b) = .tup [.d (x.app y).enc, .d (.int .i64 0), .d (.int .i64 0)] := by
          rw [parseV, if_neg (by simp; omega), hq]
          simp only [hj]
          rfl
        rw [e3]
        have s4 : (x.app y).enc.shape = .node [.leaf, .leaf, .leaf, .leaf, .leaf, .leaf] := by simp [Src.enc, D.shape, D.shapes]
        simp [s4]
        refine ⟨rfl, rfl, rfl, rfl, c_fits hP wx.few wy.few fun b hb => ?_⟩
        obtain rfl : b = true := hb.2 hf
        have l1 := hf.issuers
        have l2 := hf.units
        have l3 := hf.schemas
        have l4 := hf.rules
        have l5 := hf.converts
        have l6 := hf.purposes
        simp only [Src.app, List.length_append] at l1 l2 l3 l4 l5 l6
        simp [Src.enc]
        refine ⟨by omega, by omega, ?_⟩
        simp [lt7_s5]
        refine ⟨by omega, by omega, ?_⟩
        simp [lt7_s4]
        refine ⟨by omega, by omega, ?_⟩
        simp [lt7_s3]
        refine ⟨by omega, by omega, ?_⟩
        simp [lt7_s2]
        refine ⟨by omega, by omega, ?_⟩
        simp [lt7_s1]
        refine ⟨by omega, by omega, ?_⟩
        simp [lt7_s0]
        have wz : (x.app y).wf := parse_wf (lexR_valid _ _ _ hq).1 hj
        refine PCall.borrow (n := 5) (ds := [(x.app y).enc, (x.app y).enc]) (by simp [Src.enc, Src.app]) (c_same_src hP wz ?_)
        exact ⟨by simp [V.flatR], by simpa using h⟩
      · have e3 : parseV (a ++ 10 :: b) = .tup [.d zeroS, .d (.int .i64 t.at_), .d (.int .i64 2)] := by
          rw [parseV, if_neg (by simp; omega), hq]
          simp only [hj]
          rfl
        rw [e3]
        simp
        refine ⟨rfl, rfl, rfl, rfl, c_fits hP wx.few wy.few fun b hb => ?_⟩
        obtain rfl : b = false := by
          cases b with
          | false => rfl
          | true => exact (hf (hb.1 rfl)).elim
        simp [hat]
        exact h
    · simp [s1]
      refine c_Parse hP hI b ?_
      rw [v2]
      simp [s2]
      refine ⟨⟨by omega, by omega⟩, c_Parse hP hI _ ?_⟩
      rw [v3]
      simp [s3, he2]
      exact h
  · simp
    refine c_Parse hP hI b ?_
    rw [v2]
    simp [s2]
    refine ⟨⟨by omega, by omega⟩, c_Parse hP hI _ ?_⟩
    rw [v3]
    simp [s3, he1]
    exact h
end
end Go.Proofs.YtanpgmgkmfckaaaGreatDoor
