/- Texts of this claim joined by a program, part 8 of 9; the last is: The law SyntaxBack. Condition: the program is the seat's; its package variables are laid. -/
import Derived.Test.YtanpgmgkmfckaaaGreatDoorL7
import Derived.Test.YtanpgmgkmfckaaaGreatDoorProg
import Derived.KernelRfl
set_option linter.unusedSimpArgs false
set_option linter.unusedVariables false
set_option linter.unusedSectionVars false
set_option linter.defProp false
/- Contracts: what can be printed. Condition: the program is the seat's; its intervals are laid. -/
namespace Go.Proofs.YtanpgmgkmfckaaaGreatDoor
open Go Go.Ab Go.Lx Go.Sx
set_option maxRecDepth 100000
set_option maxHeartbeats 4000000
theorem Kb {K : V → Prop} {a b : Bool} (h : K (.d (.bool a))) (e : a = true ↔ b = true) : K (.d (.bool b)) := by
 have : a = b := by
  cases a <;> cases b <;> simp_all
 rw [← this]; exact h
theorem Xgi (n : Nat) : ((n : Int) + 1 = 0) ↔ False := ⟨fun h => by omega, False.elim⟩
section
variable {P : Prg} (hP : P.p = Tryz.prog)
include hP
theorem Xx1 : PFn P 134 X7k := by
 rintro vs ⟨lo, hi, n, rfl⟩ ob K h
 exact X8m hP lo hi n h
theorem Xz7 (s : B) {ob : Objs} {K : V → Prop} (h : K (.d (.bool (nameB s)))) : PCall P 100 [.d (.str s)] ob K := c_Name hP [.d (.str s)] (by simp) ob K (by simpa using h)
theorem Xbm (t : RTerm) {ob : Objs} {K : V → Prop} (h : K (.d (.bool (Sx.pathOK t)))) : PCall P 160 [.d t.enc] ob K := by
 refine pcall_lift hP mixed (ds := [t.enc]) Yjz Ykc (TOk.cons (c_Name hP) TOk.nil) ?_
 simp [Ygt, RTerm.enc]
 simpa [Sx.pathOK] using h
variable (hI : Ivl P)
include hI
theorem Xgf (t : RTerm) {ob : Objs} {K : V → Prop} (h : K (.d (.bool (Sx.termOK t)))) : PCall P 163 [.d t.enc] ob K := by
 refine pcall_lift hP mixed (ds := [t.enc]) Yjc Yix (TOk.cons (Xx1 hP) TOk.nil) ?_
 obtain ⟨nm, pa, va, fi, n⟩ := t
 cases nm with
 | nil =>
  cases pa with
  | nil =>
   cases h3 : inB 0 1048576 n with
   | true =>
    simp [X0s, RTerm.enc, hI.anyN, h3]
    simpa [Sx.termOK, h3] using h
   | false =>
    simp [X0s, RTerm.enc, hI.anyN, h3]
    refine Xbm hP ⟨[], [], va, fi, n⟩ ?_
    simp
    simpa [Sx.termOK, h3] using h
  | cons a r =>
   simp [X0s, RTerm.enc, hI.anyN]
   refine Xbm hP ⟨[], a :: r, va, fi, n⟩ ?_
   simp
   simpa [Sx.termOK] using h
 | cons a r =>
  simp [X0s, RTerm.enc, hI.anyN]
  refine Xbm hP ⟨a :: r, pa, va, fi, n⟩ ?_
  simp
  simpa [Sx.termOK] using h
theorem X2i (u : RUnit) {ob : Objs} {K : V → Prop} (h : K (.d (.bool (Sx.unitOK u)))) : PCall P 102 [.d u.enc] ob K := by
 refine pcall_lift hP mixed (ds := [u.enc]) Yja Ylf (TOk.cons (c_Name hP) (TOk.cons (Xx1 hP) TOk.nil)) ?_
 by_cases h1 : u.of_ = []
 ·simp [Ybq, RUnit.enc, hI.factors, h1]
  simpa [Sx.unitOK, h1] using h
 ·cases h2 : nameB u.name <;> cases h3 : nameB u.of_ <;> simp [Ybq, RUnit.enc, hI.factors, h1, h2, h3] <;> simpa [Sx.unitOK, h1, h2, h3] using h
theorem X1k (t : RType) (hn : t.names.length ≤ 9223372036854775807) {ob : Objs} {K : V → Prop} (h : K (.d (.bool (Sx.typeOK t)))) : PCall P 180 [.d t.enc] ob K := by
 refine pcall_lift hP mixed (ds := [t.enc]) Yha Yg9 (TOk.cons (c_Name hP) (TOk.cons (Xx1 hP) TOk.nil)) ?_
 obtain ⟨kd, lo, hi, of_, un, ns⟩ := t
 by_cases h1 : kd = 1
 ·cases h2 : inB 0 1048576 lo <;> cases of_ <;> cases ns <;> simp [Xh5, RType.enc, hI.anyN, Xf, h1, h2] <;> exact Kb h (by simp [Sx.typeOK, h1, h2, Xgi])
 ·by_cases h2 : lo = 0
  ·cases of_ with
   | nil =>
    by_cases k2 : kd = 2
    ·cases ns <;> simp [Xh5, RType.enc, hI.anyN, Xf, h1, h2, k2] <;> exact Kb h (by simp [Sx.typeOK, h1, h2, k2, Xgi])
    by_cases k3 : kd = 3
    ·cases ns <;> simp [Xh5, RType.enc, hI.anyN, Xf, h1, h2, k2, k3] <;> exact Kb h (by simp [Sx.typeOK, h1, h2, k2, k3, Xgi])
    by_cases k4 : kd = 4
    ·cases ns with
     | nil =>
      simp [Xh5, RType.enc, hI.anyN, Xf, h1, h2, k2, k3, k4]
      simpa [Sx.typeOK, h1, h2, k2, k3, k4] using h
     | cons a r =>
      simp [Xh5, RType.enc, hI.anyN, Xf, h1, h2, k2, k3, k4]
      refine Xkd hP (a :: r) 16 100 [] nameB (by rw [hP]; kernel_rfl) (fun x _ ob K h => (Xz7 hP x h).acall) hn ?_
      have hw : IntKind.i64.wrap (r.length : Int) = (r.length : Int) := IntWalk.i64_in _ (by simp at hn; omega)
      cases hA : Y0 16 nameB (a :: r) <;> simp [hw] <;> exact Kb h (by simp [Sx.typeOK, h1, h2, k2, k3, k4, hA, hw])
    ·simp [Xh5, X2r, RType.enc, hI.anyN, Xf, h1, h2, k2, k3, k4]
     simpa [Sx.typeOK, h1, h2, k2, k3, k4] using h
   | cons a r =>
    simp [Xh5, RType.enc, hI.anyN, Xf, h1, h2]
    simpa [Sx.typeOK, h1, h2] using h
  ·simp [Xh5, RType.enc, hI.anyN, Xf, h1, h2]
   simpa [Sx.typeOK, h1, h2] using h
theorem X7t (x : RRef) {ob : Objs} {K : V → Prop} (h : K (.d (.bool (Sx.mayOK x)))) : PCall P 169 [.d x.enc] ob K := by
 refine pcall_lift hP mixed (ds := [x.enc]) Yj8 Yjd (TOk.cons (c_Name hP) TOk.nil) ?_
 simp [Yjf, RRef.enc]
 simpa [Sx.mayOK] using h
theorem X1x (x : RMove) {ob : Objs} {K : V → Prop} (h : K (.d (.bool (Sx.moveOK x)))) : PCall P 167 [.d x.enc] ob K := by
 refine pcall_lift hP mixed (ds := [x.enc]) Ygn Yk3 (TOk.cons (c_Name hP) TOk.nil) ?_
 simp [Yjx, RMove.enc]
 exact Kb h (by simp [Sx.moveOK, inB, and_assoc])
theorem X9j (x : RSet) {ob : Objs} {K : V → Prop} (h : K (.d (.bool (Sx.setOK x)))) : PCall P 165 [.d x.enc] ob K := by
 refine pcall_lift hP mixed (ds := [x.enc]) Ykt Yip (TOk.cons (c_Name hP) TOk.nil) ?_
 cases h1 : nameB x.path with
 | false =>
  simp [Ydl, RSet.enc, RTerm.enc, h1]
  simpa [Sx.setOK, h1] using h
 | true =>
  simp [Ydl, RSet.enc, RTerm.enc, h1]
  refine Xgf hP hI x.term ?_
  simp
  simpa [Sx.setOK, h1] using h
theorem X22 (x : RAtom) {ob : Objs} {K : V → Prop} (h : K (.d (.bool (Sx.atomOK x)))) : PCall P 162 [.d x.enc] ob K := by
 refine pcall_lift hP mixed (ds := [x.enc]) Yhs Yj7 TOk.nil ?_
 by_cases h1 : 1 ≤ x.op ∧ x.op ≤ 4
 ·simp [X6q, RAtom.enc, RTerm.enc, h1]
  refine Xgf hP hI x.a ?_
  cases h2 : termOK x.a with
  | false =>
   simp
   simpa [Sx.atomOK, h2] using h
  | true =>
   simp [h1]
   refine Xgf hP hI x.b ?_
   simp
   exact Kb h (by simp [Sx.atomOK, h1, h2, inB])
 ·have h2 : inB 1 4 x.op = false := by simpa [inB] using h1
  have hf : Sx.atomOK x = false := by simp [Sx.atomOK, h2]
  rw [hf] at h
  by_cases h3 : 1 ≤ x.op
  ·have h4 : ¬ x.op ≤ 4 := fun h4 => h1 ⟨h3, h4⟩
   simp [X6q, RAtom.enc, RTerm.enc, h3, h4]
   simpa using h
  ·simp [X6q, RAtom.enc, RTerm.enc, h3]
   simpa using h
theorem X09 (x : RFrom) {ob : Objs} {K : V → Prop} (h : K (.d (.bool (Sx.fromOK x)))) : PCall P 159 [.d x.enc] ob K := by
 refine pcall_lift hP mixed (ds := [x.enc]) Ygy Yhw (TOk.cons (c_Name hP) TOk.nil) ?_
 obtain ⟨nm, kd, sc, ⟨a, b, v, f, n⟩⟩ := x
 have key : ∀ {ob : Objs} {K : V → Prop}, K (.d (.bool (Sx.pathOK ⟨a, b, v, f, n⟩))) → PCall P 160 [.d (.agg [.str a, .str b, iD v, iD f, iD n])] ob K := fun h => Xbm hP ⟨a, b, v, f, n⟩ h
 cases h1 : nameB nm with
 | false =>
  cases a <;> cases b <;> simp [Xrj, RFrom.enc, RTerm.enc, h1] <;> simpa [Sx.fromOK, h1] using h
 | true =>
  cases h2 : nameB kd with
  | false =>
   cases a <;> cases b <;> simp [Xrj, RFrom.enc, RTerm.enc, h1, h2] <;> simpa [Sx.fromOK, h1, h2] using h
  | true =>
   cases a with
   | nil =>
    cases b with
    | nil =>
     by_cases h3 : n = 0
     ·simp [Xrj, RFrom.enc, RTerm.enc, h1, h2, h3]
      simpa [Sx.fromOK, h1, h2, h3] using h
     ·have h3' : (n == 0) = false := by simpa using h3
      simp [Xrj, RFrom.enc, RTerm.enc, h1, h2, h3']
      refine key ?_
      simp
      simpa [Sx.fromOK, h1, h2, h3'] using h
    | cons b0 br =>
     simp [Xrj, RFrom.enc, RTerm.enc, h1, h2]
     refine key ?_
     simp
     simpa [Sx.fromOK, h1, h2] using h
   | cons a0 ar =>
    simp [Xrj, RFrom.enc, RTerm.enc, h1, h2]
    refine key ?_
    simp
    simpa [Sx.fromOK, h1, h2] using h
theorem Xq5 (x : RDepend) (hn : x.names.length ≤ 9223372036854775807) {ob : Objs} {K : V → Prop} (h : K (.d (.bool (Sx.dependOK x)))) : PCall P 157 [.d x.enc] ob K := by
 refine pcall_lift hP mixed (ds := [x.enc]) Ygo Yif (TOk.cons (c_Name hP) TOk.nil) ?_
 obtain ⟨ns, nm, fr, to⟩ := x
 cases ns with
 | nil =>
  simp [Ybm, RDepend.enc, Xf]
  simpa [Sx.dependOK] using h
 | cons a r =>
  simp [Ybm, RDepend.enc, Xf]
  refine Xkd hP (a :: r) 11 100 [] nameB (by rw [hP]; kernel_rfl) (fun x _ ob K h => (Xz7 hP x h).acall) hn ?_
  cases hA : Y0 11 nameB (a :: r) <;> simp <;> exact Kb h (by simp [Sx.dependOK, hA])
theorem Xmb (x : RConvert) (hn : x.moves.length ≤ 9223372036854775807) {ob : Objs} {K : V → Prop} (h : K (.d (.bool (Sx.convertOK x)))) : PCall P 108 [.d x.enc] ob K := by
 refine pcall_lift hP mixed (ds := [x.enc]) Yg7 Yg6 (TOk.cons (c_Name hP) TOk.nil) ?_
 cases h1 : nameB x.from_ with
 | false =>
  simp [X74, RConvert.enc, h1]
  simpa [Sx.convertOK, h1] using h
 | true =>
  cases h2 : nameB x.to_ with
  | false =>
   simp [X74, RConvert.enc, h1, h2]
   simpa [Sx.convertOK, h1, h2] using h
  | true =>
   simp [X74, RConvert.enc, h1, h2]
   refine Xrw hP x.moves 11 167 [] Sx.moveOK (by rw [hP]; kernel_rfl) (fun x _ ob K h => (X1x hP hI x h).acall) hn ?_
   simp
   simpa [Sx.convertOK, h1, h2] using h
theorem Xlv (x : RPurpose) (hn : x.may.length ≤ 9223372036854775807) {ob : Objs} {K : V → Prop} (h : K (.d (.bool (Sx.purposeOK x)))) : PCall P 110 [.d x.enc] ob K := by
 refine pcall_lift hP mixed (ds := [x.enc]) Yj9 Yi4 (TOk.cons (c_Name hP) (TOk.cons (Xx1 hP) TOk.nil)) ?_
 cases h1 : nameB x.name with
 | false =>
  simp [X89, RPurpose.enc, h1, hI.mosts]
  simpa [Sx.purposeOK, h1] using h
 | true =>
  cases h2 : inB 0 32 x.most with
  | false =>
   simp [X89, RPurpose.enc, h1, h2, hI.mosts]
   simpa [Sx.purposeOK, h1, h2] using h
  | true =>
   simp [X89, RPurpose.enc, h1, h2, hI.mosts]
   refine Xyu hP x.may 32 169 [] Sx.mayOK (by rw [hP]; kernel_rfl) (fun x _ ob K h => (X7t hP hI x h).acall) hn ?_
   simp
   simpa [Sx.purposeOK, h1, h2] using h
theorem Xyj (x : RField) (hn : x.type.names.length ≤ 9223372036854775807) {ob : Objs} {K : V → Prop} (h : K (.d (.bool (Sx.fieldOK x)))) : PCall P 155 [.d x.enc] ob K := by
 refine pcall_lift hP mixed (ds := [x.enc]) Ykg Ykw (TOk.cons (c_Name hP) TOk.nil) ?_
 have key : ∀ {ob : Objs} {K : V → Prop}, K (.d (.bool (Sx.typeOK x.type))) → PCall P 180 [.d (.agg [iD x.type.kind, iD x.type.lo, iD x.type.hi, .str x.type.of_, iD x.type.unit, Xf x.type.names])] ob K := fun h => X1k hP hI x.type hn h
 simp [Ygq, RField.enc, RType.enc]
 refine Xz7 hP x.name ?_
 cases h1 : nameB x.name with
 | false =>
  simp
  simpa [Sx.fieldOK, h1] using h
 | true =>
  simp
  refine key ?_
  cases h2 : typeOK x.type with
  | false =>
   simp
   simpa [Sx.fieldOK, h1, h2] using h
  | true =>
   simp [hI.weights]
   refine Xx4 hP [x.w0, x.w1, x.w2, x.w3] 4 134 [.agg [iD 0, iD 9]] (inB 0 9) (by rw [hP]; kernel_rfl) (fun n _ ob K h => (X8m hP 0 9 n h).acall) (by simp) ?_
   simp
   simpa [Sx.fieldOK, h1, h2] using h
theorem X1i (x : RRule) (hs : x.small) {ob : Objs} {K : V → Prop} (h : K (.d (.bool (Sx.ruleOK x)))) : PCall P 106 [.d x.enc] ob K := by
 refine pcall_lift hP mixed (ds := [x.enc]) Yde Yk5 (TOk.cons (c_Name hP) TOk.nil) ?_
 cases h1 : nameB x.head with
 | false =>
  simp [Yab, RRule.enc, h1]
  simpa [Sx.ruleOK, h1] using h
 | true =>
  by_cases h0 : 0 < x.froms.length
  ·simp [Yab, RRule.enc, h1, h0]
   refine Xrs hP x.froms 3 159 [] Sx.fromOK (by rw [hP]; kernel_rfl) (fun x _ ob K h => (X09 hP hI x h).acall) hs.froms ?_
   cases h2 : Y0 3 Sx.fromOK x.froms with
   | false =>
    simp
    simpa [Sx.ruleOK, h1, h2] using h
   | true =>
    simp
    refine Xqy hP x.wheres 8 162 [] Sx.atomOK (by rw [hP]; kernel_rfl) (fun x _ ob K h => (X22 hP hI x h).acall) hs.wheres ?_
    cases h3 : Y0 8 Sx.atomOK x.wheres with
    | false =>
     simp
     simpa [Sx.ruleOK, h1, h2, h3] using h
    | true =>
     simp
     refine Xvq hP x.sets 11 165 [] Sx.setOK (by rw [hP]; kernel_rfl) (fun x _ ob K h => (X9j hP hI x h).acall) hs.sets ?_
     simp
     simpa [Sx.ruleOK, h1, h2, h3, h0] using h
  ·simp [Yab, RRule.enc, h1, h0]
   simpa [Sx.ruleOK, h1, h0] using h
theorem Xqz (x : RSchema) (hs : x.small) {ob : Objs} {K : V → Prop} (h : K (.d (.bool (Sx.schemaOK x)))) : PCall P 104 [.d x.enc] ob K := by
 refine pcall_lift hP mixed (ds := [x.enc]) Yko Yjo (TOk.cons (c_Name hP) (TOk.cons (Xx1 hP) TOk.nil)) ?_
 obtain ⟨nm, bn, iss, ver, fs, ds⟩ := x
 cases h1 : nameB nm with
 | false =>
  simp [Xkz, RSchema.enc, h1, hI.editions]
  simpa [Sx.schemaOK, h1] using h
 | true =>
 cases h2 : nameB bn with
 | false =>
  simp [Xkz, RSchema.enc, h1, h2, hI.editions]
  simpa [Sx.schemaOK, h1, h2] using h
 | true =>
 cases h3 : inB 1 255 ver with
 | false =>
  simp [Xkz, RSchema.enc, h1, h2, h3, hI.editions]
  simpa [Sx.schemaOK, h1, h2, h3] using h
 | true =>
 cases fs with
 | nil =>
  simp [Xkz, RSchema.enc, h1, h2, h3, hI.editions]
  simpa [Sx.schemaOK, h1, h2, h3, Qy] using h
 | cons f0 fr =>
 obtain ⟨fnm, ⟨kd, tlo, thi, tof, tun, tns⟩, w0, w1, w2, w3⟩ := f0
 by_cases h4 : fnm = [115, 101, 108, 102]
 ·subst h4
  by_cases h5 : kd = 3
  ·subst h5
   simp [Xkz, RSchema.enc, h1, h2, h3, hI.editions, RField.enc, RType.enc]
   refine Xni hP (⟨[115, 101, 108, 102], ⟨3, tlo, thi, tof, tun, tns⟩, w0, w1, w2, w3⟩ :: fr) 12 155 [] Sx.fieldOK (by rw [hP]; kernel_rfl) (fun x hx ob K h => (Xyj hP hI x (hs.names x hx) h).acall) hs.fields ?_
   cases h6 : Y0 12 Sx.fieldOK (⟨[115, 101, 108, 102], ⟨3, tlo, thi, tof, tun, tns⟩, w0, w1, w2, w3⟩ :: fr) with
   | false =>
    simp
    simpa [Sx.schemaOK, h1, h2, h3, h6] using h
   | true =>
    simp
    refine Xhd hP ds 8 157 [] Sx.dependOK (by rw [hP]; kernel_rfl) (fun x hx ob K h => (Xq5 hP hI x (hs.deps x hx).names h).acall) hs.depends ?_
    simp
    simpa [Sx.schemaOK, h1, h2, h3, h6, Qy] using h
  ·have h5' : (kd == 3) = false := by simpa using h5
   simp [Xkz, RSchema.enc, h1, h2, h3, hI.editions, h5, h5', RField.enc, RType.enc]
   simpa [Sx.schemaOK, h1, h2, h3, h5', Qy] using h
 ·have h4' : (fnm == [115, 101, 108, 102]) = false := by simpa using h4
  simp [Xkz, RSchema.enc, h1, h2, h3, hI.editions, h4, h4', RField.enc, RType.enc]
  simpa [Sx.schemaOK, h1, h2, h3, h4', Qy] using h
theorem Xob (x : RSrc) (hs : x.small) {ob : Objs} {K : V → Prop} (h : K (.d (.bool (Sx.printable x)))) : PCall P 33 [.d x.enc] ob K := by
 refine pcall_lift hP mixed (ds := [x.enc]) Yo5 Ysp TOk.nil ?_
 simp [Yr9, RSrc.enc, Xf]
 refine Xkd hP x.issuers 8 100 [] nameB (by rw [hP]; kernel_rfl) (fun x _ ob K h => (Xz7 hP x h).acall) hs.issuers ?_
 cases h1 : Y0 8 nameB x.issuers with
 | false =>
  simp
  simpa [Sx.printable, h1] using h
 | true =>
 simp
 refine Xrf hP x.units 16 102 [] Sx.unitOK (by rw [hP]; kernel_rfl) (fun x _ ob K h => (X2i hP hI x h).acall) hs.units ?_
 cases h2 : Y0 16 Sx.unitOK x.units with
 | false =>
  simp
  simpa [Sx.printable, h1, h2] using h
 | true =>
 simp
 refine Xhw hP x.schemas 16 104 [] Sx.schemaOK (by rw [hP]; kernel_rfl) (fun x hx ob K h => (Xqz hP hI x (hs.schema x hx) h).acall) hs.schemas ?_
 cases h3 : Y0 16 Sx.schemaOK x.schemas with
 | false =>
  simp
  simpa [Sx.printable, h1, h2, h3] using h
 | true =>
 simp
 refine Xr6 hP x.rules 16 106 [] Sx.ruleOK (by rw [hP]; kernel_rfl) (fun x hx ob K h => (X1i hP hI x (hs.rule x hx) h).acall) hs.rules ?_
 cases h4 : Y0 16 Sx.ruleOK x.rules with
 | false =>
  simp
  simpa [Sx.printable, h1, h2, h3, h4] using h
 | true =>
 simp
 refine Xet hP x.converts 16 108 [] Sx.convertOK (by rw [hP]; kernel_rfl) (fun x hx ob K h => (Xmb hP hI x (hs.moves x hx) h).acall) hs.converts ?_
 cases h5 : Y0 16 Sx.convertOK x.converts with
 | false =>
  simp
  simpa [Sx.printable, h1, h2, h3, h4, h5] using h
 | true =>
 simp
 refine Xfl hP x.purposes 8 110 [] Sx.purposeOK (by rw [hP]; kernel_rfl) (fun x hx ob K h => (Xlv hP hI x (hs.may x hx) h).acall) hs.purposes ?_
 simp
 simpa [Sx.printable, h1, h2, h3, h4, h5] using h
end
end Go.Proofs.YtanpgmgkmfckaaaGreatDoor
/- The abstract statements that stand for the code of these functions, written by a program from the translation; that they do is checked by the kernel. No condition. -/
namespace Go.Proofs.YtanpgmgkmfckaaaGreatDoor
open Go Go.Ab
set_option maxRecDepth 100000
def Xwl : Nat := 0x400b9079039cf8cb8c78404212e6c0f97820ed0b9b004f9842000
def Xl1 : Nat := 0x402800b9079039cf8cb8c78404210e6c1b9b0288d3f9b043b9b032f9b022b9b011f9b00146186186140052ef006fbb82cde6c24b339b00041481042bb006fbb82c9e6c24b239b00041480002641343bede0b107e5e3000000b9079039cf8cb8c78490109179b121140030000c0002002100173e13b84e6c044042e6c039b0418400008d1423070c3e6c102003e42e41e40e73e32e31e10109079b02e6c344e61040002
def Xjy : Nat := 0x1033e32e31e0411ae6c4f9b0288d679b03639b025f9b01539b0010618618400149d06fbb82fbc01beee0b5b9b032d5e6c0010500820944cf344bede0b114e5e240000282e41e40e73e32e31e1010818c1400b9079039cf8cb8c784042000ed000e6c13fe2c001050041039804000082
def Xsj : Nat := 0x1033e32e31e0411ce6cd387820edcf8b00779842000
def Xj3 : Nat := 0x41280280cf8cb8c7840417de2cdf8b0288df38b02ef8b01e38b000c61860c00526c1beee0beb8b092f9e2c0010500000854cf4125501efb782c4e38788000080cf8cb8c78404176e2c4035000c00c008300583846ed78b010c1cf8b31e2c0c61000022c508a1c3d38b04080d38cf8cb8c78105cb8b33e2c375e21040002
def Xsv : Nat := 0x40a389f89b810116fe2ca787820eda38b00c38842000
def Xmz : Nat := 0x100a028e27e26e04045b78b2ce2c0a534e045044b78783000028e27e26e0e1011abe2c3855030030000c000200214015ce0fbaae2c045068e2c9b8b051840000891422070e9e2c102029e28e27e26e040469f8b28e2c36ae21040002
def Xvr : Nat := 0x407787386f8101164e2c7b87820ed778b00978842000
def Xok : Nat := 0x100a01de1ce1be040458b8b21e2c0a434c0450448b878300001de1ce1be0c1011a0e2c3055030c3003000085005c8db9fe2c04505de2c6f8b051840000871421870dee2c10201ee1de1ce1be04046738b1de2c35fe21040002
def Xtj : Nat := 0x404b8478438101159e2c4f87820ed4b8b006b8842000
def Xft : Nat := 0x402804b8478438101157e2c5b8b028cd281181117e1e0c00004b8478438284046578b0a1940c30030000c0002002180157e0bb94e2c046052e2c438b061840000851421070d3e2c102013e12e11e10e04046478b12e2c354e21040002
def Xox : Nat := 0x40aa9a040453b8b2b7820eda803f8842000
def Xoq : Nat := 0x102aa6810114ce2c2b8b0288d2f8b00046040052ef006fbb82c42f8784000
def Xe8 : Nat := 0x100a0c0aa9a04045238b00e2c0a2347e2c084e2c041e2c003186183001486e2c24b178b000412010420f8b032c2e2c0010480820bdc01beee0b100280037b04037aa9a081011c0bf6b0c0f5b00041201076803000082
def Xe4 : Nat := 0x41280280aa9a081011b3b2eb0288dcac06fb000861820014b1b092f0b0004120000250939512fb782c4bde1c000202aa68204046b6c2055000c00030000c0002002140152e09bacb01141aa81461000020c50821c3ac4080aeaa681011a9a8db21040002
def Xpu : Nat := 0x101b69910116671e083b5b027842000
def Xgu : Nat := 0x100a01b6991011647c288d8c28818000c61860c0052ef006fbb82e124b1804855534c91afb782c481e1c00006da64610119e1de7400416d90460c00020450801c370408071b69910119a6cd761040002
def Yke : Nat := 0x480030828f9b008b9b03781879b07021e6c1e0e6c06639fe6c00105ee6c00009de6c1447b97890000852b3e32e31e04106285033e32e31e041000ed031e2c130e2c001041145c7880400008210aa389f89b8101146205028e27e26e04045003b409b8b04978b00041044126e2010000208329de1ce1be040451861407787386f81011400ed01be2c11ae2c0010410c36f880400008208a4b8478438101146105012e11e10e04045003b40438b043f8b00041042090e201000020812aaa6810114608502aa681011400ed028127001041041a2010000208029b69910114600501b6991011400ed0191180010410006601000020801010800575c4b1017b5abe110030405e80c00020c800308243a0ed000bc378200009510054109425306138104651f0c0002080041003b4002f0007910c0002
def Yfa : S := zS [(zS [(zS [] Xpu)] Xgu), (zS [(zS [(zS [] Xoq)] Xe8), (zS [] Xox)] Xe4), (zS [(zS [] Xtj)] Xft), (zS [(zS [] Xvr)] Xok), (zS [(zS [] Xsv)] Xmz), (zS [(zS [(zS [(zS [] Xwl)] Xl1)] Xjy), (zS [] Xsj)] Xj3)] Yke
theorem Yio : Xv Tryz.prog 13 1 Yfa [.t 2, .t 3] = true := by kernel_rfl
end Go.Proofs.YtanpgmgkmfckaaaGreatDoor
/- The same statements with their regions folded into expressions, printed by the fold itself; that they are that is checked by the kernel. No condition. -/
namespace Go.Proofs.YtanpgmgkmfckaaaGreatDoor
open Go Go.Ab
set_option maxRecDepth 100000
def Xfy : S2 := zL [] [] Xwl
def X2e := by
 have h := Eq.refl Xfy
 conv at h => rhs; cbv
 exact h
def Xfs : S2 := zL [] [Xfy] Xl1
def Xp2 := by
 have h := fun (a : S2) => Eq.refl (zL [] [a] Xl1)
 conv at h => intro a; rhs; cbv
 have e : Xfs = _ := h Xfy
 exact e
def Xgk : S2 := zL [] [Xfs] Xjy
def X2v := by
 have h := fun (a : S2) => Eq.refl (zL [] [a] Xjy)
 conv at h => intro a; rhs; cbv
 have e : Xgk = _ := h Xfs
 exact e
def Xf7 : S2 := zL [] [] Xsj
def X2x := by
 have h := Eq.refl Xf7
 conv at h => rhs; cbv
 exact h
def Xf3 : S2 := zL [] [Xgk, Xf7] Xj3
def Xph := by
 have h := fun (a b : S2) => Eq.refl (zL [] [a, b] Xj3)
 conv at h => intro a b; rhs; cbv
 have e : Xf3 = _ := h Xgk Xf7
 exact e
def Xgv : S2 := zL [] [] Xsv
def X1z := by
 have h := Eq.refl Xgv
 conv at h => rhs; cbv
 exact h
def Xgs : S2 := zL [] [Xgv] Xmz
def Xp6 := by
 have h := fun (a : S2) => Eq.refl (zL [] [a] Xmz)
 conv at h => intro a; rhs; cbv
 have e : Xgs = _ := h Xgv
 exact e
def Xfu : S2 := zL [] [] Xvr
def X1c := by
 have h := Eq.refl Xfu
 conv at h => rhs; cbv
 exact h
def Xgb : S2 := zL [] [Xfu] Xok
def Xos := by
 have h := fun (a : S2) => Eq.refl (zL [] [a] Xok)
 conv at h => intro a; rhs; cbv
 have e : Xgb = _ := h Xfu
 exact e
def Xgx : S2 := zL [] [] Xtj
def X16 := by
 have h := Eq.refl Xgx
 conv at h => rhs; cbv
 exact h
def Xcq : S2 := zL [] [Xgx] Xft
def Xh0 := by
 have h := fun (a : S2) => Eq.refl (zL [] [a] Xft)
 conv at h => intro a; rhs; cbv
 have e : Xcq = _ := h Xgx
 exact e
def Xcj : S2 := zL [] [] Xox
def Xhu := by
 have h := Eq.refl Xcj
 conv at h => rhs; cbv
 exact h
def Xb9 : S2 := zL [] [] Xoq
def Xha := by
 have h := Eq.refl Xb9
 conv at h => rhs; cbv
 exact h
def Xcz : S2 := zL [] [Xb9] Xe8
def Xs3 := by
 have h := fun (a : S2) => Eq.refl (zL [] [a] Xe8)
 conv at h => intro a; rhs; cbv
 have e : Xcz = _ := h Xb9
 exact e
def Xb5 : S2 := zL [] [Xcz, Xcj] Xe4
def Xhe := by
 have h := fun (a b : S2) => Eq.refl (zL [] [a, b] Xe4)
 conv at h => intro a b; rhs; cbv
 have e : Xb5 = _ := h Xcz Xcj
 exact e
def Xc0 : S2 := zL [] [] Xpu
def Xvu := by
 have h := Eq.refl Xc0
 conv at h => rhs; cbv
 exact h
def Xc1 : S2 := zL [] [Xc0] Xgu
def Xi2 := by
 have h := fun (a : S2) => Eq.refl (zL [] [a] Xgu)
 conv at h => intro a; rhs; cbv
 have e : Xc1 = _ := h Xc0
 exact e
def Yfm : S2 := zL [] [Xc1, Xb5, Xcq, Xgb, Xgs, Xf3] Yke
def Yk9 := by
 have h := fun (a b c d e f : S2) => Eq.refl (zL [] [a, b, c, d, e, f] Yke)
 conv at h => intro a b c d e f; rhs; cbv
 have e : Yfm = _ := h Xc1 Xb5 Xcq Xgb Xgs Xf3
 exact e
theorem Yk6 : Yfa.lift [] = some Yfm := by kernel_rfl
end Go.Proofs.YtanpgmgkmfckaaaGreatDoor
/- Contract: Print. Condition: the program is the seat's; its package variables are laid. -/
namespace Go.Sx
open Go Go.Ab Go.Lx
def Un (x : RSrc) : V := if printable x then Xcg (Qr x) else .tup [.d (.str []), .d (.int .i64 100)]
structure Pb (x : RSrc) : Prop where
 issuers : x.issuers.length ≤ 8
 units : x.units.length ≤ 16
 schemas : x.schemas.length ≤ 16
 rules : x.rules.length ≤ 16
 converts : x.converts.length ≤ 16
 purposes : x.purposes.length ≤ 8
 schema : ∀ s ∈ x.schemas, s.fields ≠ [] ∧ s.fields.length ≤ 12 ∧ (∀ f ∈ s.fields, f.type.names.length ≤ 16) ∧ s.depends.length ≤ 8 ∧ ∀ d ∈ s.depends, d.names.length ≤ 11
 rule : ∀ r ∈ x.rules, r.froms.length ≤ 3 ∧ r.wheres.length ≤ 8 ∧ r.sets.length ≤ 11
 convert : ∀ c ∈ x.converts, c.moves.length ≤ 11 ∧ ∀ m ∈ c.moves, -1048576 ≤ m.shift ∧ m.shift ≤ 1048576
 purpose : ∀ p ∈ x.purposes, p.may.length ≤ 32
theorem Xit {t : RType} (h : typeOK t = true) : t.names.length ≤ 16 := by
 unfold typeOK at h
 split at h
 ·simp at h; simp [h]
 split at h
 ·cases h
 split at h
 ·simp at h; simp [h]
 split at h
 ·simp at h; simp [h]
 split at h
 ·simp [Y0] at h; omega
 ·cases h
theorem Yb4 {x : RSrc} (h : printable x = true) : Pb x := by
 simp only [printable, Bool.and_eq_true] at h
 obtain ⟨⟨⟨⟨⟨h1, h2⟩, h3⟩, h4⟩, h5⟩, h6⟩ := h
 rw [Yn] at h1 h2 h3 h4 h5 h6
 refine ⟨h1.1, h2.1, h3.1, h4.1, h5.1, h6.1, fun s hs => ?_, fun r hr => ?_, fun c hc => ?_, fun p hp => ?_⟩
 ·have := h3.2 s hs
  simp only [schemaOK, Bool.and_eq_true] at this
  obtain ⟨⟨⟨_, a1⟩, a2⟩, a3⟩ := this
  rw [Yn] at a2 a3
  refine ⟨fun e => (by rw [e] at a1; cases a1), a2.1, fun f hf => ?_, a3.1, fun d hd => ?_⟩
  ·have := a2.2 f hf
   simp only [fieldOK, Bool.and_eq_true] at this
   exact Xit this.1.2
  ·have := a3.2 d hd
   simp only [dependOK, Bool.and_eq_true, Yn] at this
   exact this.1.2.1
 ·have := h4.2 r hr
  simp only [ruleOK, Bool.and_eq_true, Yn] at this
  exact ⟨this.1.1.2.1, this.1.2.1, this.2.1⟩
 ·have := h5.2 c hc
  simp only [convertOK, Bool.and_eq_true, Yn] at this
  refine ⟨this.2.1, fun m hm => ?_⟩
  have := this.2.2 m hm
  simp [moveOK, inB] at this
  exact this.2
 ·have := h6.2 p hp
  simp only [purposeOK, Bool.and_eq_true, Yn] at this
  exact this.2.1
theorem Xb1 (s : B) : (Ye s).length ≤ 3 := by simp [Ye]
theorem Xix (u : RUnit) : (Zl u).length ≤ 6 := by unfold Zl; split <;> simp
theorem Xco {s : RSchema} (h : s.fields.length ≤ 12 ∧ (∀ f ∈ s.fields, f.type.names.length ≤ 16) ∧ s.depends.length ≤ 8 ∧ ∀ d ∈ s.depends, d.names.length ≤ 11) : (X1 s).length ≤ 1000 := by
 obtain ⟨h1, h2, h3, h4⟩ := h
 have l1 := X4 (f := fieldT) (c := 50) (l := s.fields.tail) (fun x hx => Xah (h2 x (List.mem_of_mem_tail hx)))
 have l2 := X4 (f := Yj) (c := 30) (l := s.depends) (fun x hx => Ql (h4 x hx))
 have l3 : (Xoi s.fields).length ≤ 4 := by cases s.fields <;> simp [Xoi]
 rw [List.length_tail] at l1
 simp only [X1, List.length_append, List.length_cons, List.length_nil]
 omega
theorem Xie {r : RRule} (h : r.froms.length ≤ 3 ∧ r.wheres.length ≤ 8 ∧ r.sets.length ≤ 11) : (Z0 r).length ≤ 300 := by
 have l1 := X4 (f := Zq) (c := 10) (l := r.froms) (fun x _ => Xcp x)
 have l2 := X4 (f := X9) (c := 10) (l := r.wheres) (fun x _ => J5 x)
 have l3 := X4 (f := Xak) (c := 10) (l := r.sets) (fun x _ => Xf8 x)
 simp only [Z0, List.length_append, List.length_cons, List.length_nil]
 omega
theorem Xa0 {c : RConvert} (h : c.moves.length ≤ 11) : (Xw c).length ≤ 200 := by
 have l1 := X4 (f := Zv) (c := 10) (l := c.moves) (fun x _ => Xb7 x)
 simp only [Xw, List.length_append, List.length_cons, List.length_nil]
 omega
theorem Xfe (r : RRef) : (Xg8 r).length ≤ 5 := by simp [Xg8]
theorem Xaz {u : RPurpose} (h : u.may.length ≤ 32) : (Xz u).length ≤ 200 := by
 have l1 := X4 (f := Xg8) (c := 5) (l := u.may) (fun x _ => Xfe x)
 simp only [Xz, List.length_append, List.length_cons, List.length_nil]
 omega
end Go.Sx
namespace Go.Proofs.YtanpgmgkmfckaaaGreatDoor
open Go Go.Ab Go.Lx Go.Sx
set_option maxRecDepth 100000
set_option maxHeartbeats 4000000
section
variable {P : Prg} (hP : P.p = Tryz.prog) (hI : Ivl P) (hG : Pow P)
include hP hI hG
theorem Xu2 (x : RSrc) (hs : x.small) {ob : Objs} {K : V → Prop} (h : K (Un x)) : PCall P 13 [.d x.enc] ob K := by
 refine pcall_lift hP mixed (ds := [x.enc]) Yio Yk6 TOk.nil ?_
 simp [Yk9, RSrc.enc, Xf]
 refine Xob hP hI x hs ?_
 cases hpr : printable x with
 | false =>
  simp
  simpa [Un, hpr] using h
 | true =>
 have hB := Yb4 hpr
 have hX : Pr [(2, .arr 44 4 []), (1, .box 99 (.agg [.sl 2 0])), (0, .box 30 (.d x.enc))] 1 2 [] := ⟨by decide, by simp, by simp⟩
 have hmX : ∀ kp, noMenO (young (fresh ([(2, .arr 44 4 []), (1, .box 99 (.agg [.sl 2 0])), (0, .box 30 (.d x.enc))] : Objs)) kp) [(2, .arr 44 4 []), (1, .box 99 (.agg [.sl 2 0])), (0, .box 30 (.d x.enc))] = true := fun kp => by simp [young]
 have l1 := X4 (f := Ye) (c := 3) (l := x.issuers) (fun y _ => Xb1 y)
 have l2 := X4 (f := Zl) (c := 6) (l := x.units) (fun y _ => Xix y)
 have l3 := X4 (f := X1) (c := 1000) (l := x.schemas) (fun y hy => Xco (hB.schema y hy).2)
 have l4 := X4 (f := Z0) (c := 300) (l := x.rules) (fun y hy => Xie (hB.rule y hy))
 have l5 := X4 (f := Xw) (c := 200) (l := x.converts) (fun y hy => Xa0 (hB.convert y hy).1)
 have l6 := X4 (f := Xz) (c := 200) (l := x.purposes) (fun y hy => Xaz (hB.purpose y hy))
 have b1 := hB.issuers
 have b2 := hB.units
 have b3 := hB.schemas
 have b4 := hB.rules
 have b5 := hB.converts
 have b6 := hB.purposes
 have hall : (x.issuers.flatMap Ye).length + (x.units.flatMap Zl).length + (x.schemas.flatMap X1).length + (x.rules.flatMap Z0).length + (x.converts.flatMap Xw).length + (x.purposes.flatMap Xz).length ≤ 26000 := by omega
 simp
 refine Yg x.issuers Ye 3 (fun y hy => Xb1 y) hX hmX (([] : List Tok)) (fun k => [(1, .ptr 0 []), (4, .ptr 1 []), (25, .d (.list 1 (x.issuers.map D.str))), (26, .d (.int .i64 x.issuers.length)), (27, .d (.int .i64 k))]) (by simp) (fun k => by simp [young]) (by simp [prO, RSrc.enc, Xf]) ?_ ?_
 ·intro k hk t1 R hb fin
  have hb' : t1.length ≤ 50000 := by simp at hb hall; omega
  have hi : IntKind.i64.wrap ((k : Int) + 1) = (k : Int) + 1 := IntWalk.i64_in _ (by omega)
  simp [Xi2, hk, Xf]
  refine V3 hP [.word [105, 115, 115, 117, 101, 114], .name x.issuers[k], .sign [59]] (by simp [Part.rank]) _ 1 2 (t1) ⟨by decide, by simp [prO], by simp [prO]⟩ (by simp) (by simp [Part.few]) (by simp [Xb, Part.toks]; omega) _ ?_
  simp [prO, Xvu, hi]
  refine fin _ _ (by simp [hi]) ?_
  rw [show t1 ++ Ye x.issuers[k] = t1 ++ Xb [.word [105, 115, 115, 117, 101, 114], .name x.issuers[k], .sign [59]] from by simp [Ye, Xb, Part.toks]]
  simp [young, prO]
 ·intro R re
  simp [Xi2]
  refine re _ _ _ ?_
  clear re
  simp [RSrc.enc, Xf]
  refine Yg x.units Zl 6 (fun y hy => Xix y) hX hmX (([] : List Tok) ++ x.issuers.flatMap Ye) (fun k => [(1, .ptr 0 []), (4, .ptr 1 []), (40, .d (.list 5 (x.units.map RUnit.enc))), (41, .d (.int .i64 x.units.length)), (42, .d (.int .i64 k))]) (by simp) (fun k => by simp [young]) (by simp [prO, RSrc.enc, Xf]) ?_ ?_
  ·intro k hk t1 R hb fin
   have hb' : t1.length ≤ 50000 := by simp at hb hall; omega
   have hi : IntKind.i64.wrap ((k : Int) + 1) = (k : Int) + 1 := IntWalk.i64_in _ (by omega)
   simp [Xhe, hk, RUnit.enc]
   refine V3 hP [.word [117, 110, 105, 116], .name x.units[k].name] (by simp [Part.rank]) _ 1 2 (t1) ⟨by decide, by simp [prO], by simp [prO]⟩ (by simp) (by simp [Part.few]) (by simp [Xb, Part.toks]; omega) _ ?_
   simp [prO, Xs3]
   refine ⟨fun h0 => ?_, fun h0 => ?_⟩
   ·skip
    refine V3 hP [.sign [61], .num x.units[k].factor, .name x.units[k].of_] (by simp [Part.rank]) _ 1 2 (t1 ++ Xb [.word [117, 110, 105, 116], .name x.units[k].name]) ⟨by decide, by simp [prO], by simp [prO]⟩ (by simp) (by simp [Part.few]) (by simp [Xb, Part.toks]; omega) _ ?_
    simp [prO, Xha]
    refine V3 hP [.sign [59]] (by simp [Part.rank]) _ 1 2 (t1 ++ Xb [.word [117, 110, 105, 116], .name x.units[k].name] ++ Xb [.sign [61], .num x.units[k].factor, .name x.units[k].of_]) ⟨by decide, by simp [prO], by simp [prO]⟩ (by simp) (by simp [Part.few]) (by simp [Xb, Part.toks]; omega) _ ?_
    simp [prO, Xhu, hi]
    refine fin _ _ (by simp [hi]) ?_
    rw [show t1 ++ Zl x.units[k] = t1 ++ Xb [.word [117, 110, 105, 116], .name x.units[k].name] ++ Xb [.sign [61], .num x.units[k].factor, .name x.units[k].of_] ++ Xb [.sign [59]] from by simp [Zl, Xb, Part.toks, h0]]
    simp [young, prO]
   ·simp [Xha]
    refine V3 hP [.sign [59]] (by simp [Part.rank]) _ 1 2 (t1 ++ Xb [.word [117, 110, 105, 116], .name x.units[k].name]) ⟨by decide, by simp [prO], by simp [prO]⟩ (by simp) (by simp [Part.few]) (by simp [Xb, Part.toks]; omega) _ ?_
    simp [prO, Xhu, hi]
    refine fin _ _ (by simp [hi]) ?_
    rw [show t1 ++ Zl x.units[k] = t1 ++ Xb [.word [117, 110, 105, 116], .name x.units[k].name] ++ Xb [.sign [59]] from by simp [Zl, Xb, Part.toks, h0]]
    simp [young, prO]
  ·intro R re
   simp [Xhe]
   refine re _ _ _ ?_
   clear re
   simp [RSrc.enc, Xf]
   refine Yg x.schemas X1 1000 (fun y hy => Xco (hB.schema y hy).2) hX hmX (([] : List Tok) ++ x.issuers.flatMap Ye ++ x.units.flatMap Zl) (fun k => [(1, .ptr 0 []), (4, .ptr 1 []), (72, .d (.list 6 (x.schemas.map RSchema.enc))), (73, .d (.int .i64 x.schemas.length)), (74, .d (.int .i64 k))]) (by simp) (fun k => by simp [young]) (by simp [prO, RSrc.enc, Xf]) ?_ ?_
   ·intro k hk t1 R hb fin
    have hb' : t1.length ≤ 50000 := by simp at hb hall; omega
    have hi : IntKind.i64.wrap ((k : Int) + 1) = (k : Int) + 1 := IntWalk.i64_in _ (by omega)
    simp [Xh0, hk, RSchema.enc]
    have hk3 := hB.schema x.schemas[k] (by simp)
    refine Xyv hP x.schemas[k] hk3.1 hk3.2.1 hk3.2.2.1 hk3.2.2.2.1 hk3.2.2.2.2 (ts := t1) (p := 1) (q := 2) ⟨by decide, by simp [prO], by simp [prO]⟩ (by omega) ?_
    simp [X16, hi, prO]
    refine fin _ _ (by simp [hi]) ?_
    simp [young, prO]
   ·intro R re
    simp [Xh0]
    refine re _ _ _ ?_
    clear re
    simp [RSrc.enc, Xf]
    refine Yg x.rules Z0 300 (fun y hy => Xie (hB.rule y hy)) hX hmX (([] : List Tok) ++ x.issuers.flatMap Ye ++ x.units.flatMap Zl ++ x.schemas.flatMap X1) (fun k => [(1, .ptr 0 []), (4, .ptr 1 []), (83, .d (.list 5 (x.rules.map RRule.enc))), (84, .d (.int .i64 x.rules.length)), (85, .d (.int .i64 k))]) (by simp) (fun k => by simp [young]) (by simp [prO, RSrc.enc, Xf]) ?_ ?_
    ·intro k hk t1 R hb fin
     have hb' : t1.length ≤ 50000 := by simp at hb hall; omega
     have hi : IntKind.i64.wrap ((k : Int) + 1) = (k : Int) + 1 := IntWalk.i64_in _ (by omega)
     simp [Xos, hk, RRule.enc]
     have hk3 := hB.rule x.rules[k] (by simp)
     refine X6k hP x.rules[k] hk3.1 hk3.2.1 hk3.2.2 (ts := t1) (p := 1) (q := 2) ⟨by decide, by simp [prO], by simp [prO]⟩ (by omega) ?_
     simp [X1c, hi, prO]
     refine fin _ _ (by simp [hi]) ?_
     simp [young, prO]
    ·intro R re
     simp [Xos]
     refine re _ _ _ ?_
     clear re
     simp [RSrc.enc, Xf]
     refine Yg x.converts Xw 200 (fun y hy => Xa0 (hB.convert y hy).1) hX hmX (([] : List Tok) ++ x.issuers.flatMap Ye ++ x.units.flatMap Zl ++ x.schemas.flatMap X1 ++ x.rules.flatMap Z0) (fun k => [(1, .ptr 0 []), (4, .ptr 1 []), (94, .d (.list 5 (x.converts.map RConvert.enc))), (95, .d (.int .i64 x.converts.length)), (96, .d (.int .i64 k))]) (by simp) (fun k => by simp [young]) (by simp [prO, RSrc.enc, Xf]) ?_ ?_
     ·intro k hk t1 R hb fin
      have hb' : t1.length ≤ 50000 := by simp at hb hall; omega
      have hi : IntKind.i64.wrap ((k : Int) + 1) = (k : Int) + 1 := IntWalk.i64_in _ (by omega)
      simp [Xp6, hk, RConvert.enc]
      have hk3 := hB.convert x.converts[k] (by simp)
      refine Xqx hP x.converts[k] hk3.1 hk3.2 (ts := t1) (p := 1) (q := 2) ⟨by decide, by simp [prO], by simp [prO]⟩ (by omega) ?_
      simp [X1z, hi, prO]
      refine fin _ _ (by simp [hi]) ?_
      simp [young, prO]
     ·intro R re
      simp [Xp6]
      refine re _ _ _ ?_
      clear re
      simp [RSrc.enc, Xf]
      refine Yg x.purposes Xz 200 (fun y hy => Xaz (hB.purpose y hy)) hX hmX (([] : List Tok) ++ x.issuers.flatMap Ye ++ x.units.flatMap Zl ++ x.schemas.flatMap X1 ++ x.rules.flatMap Z0 ++ x.converts.flatMap Xw) (fun k => [(4, .ptr 1 []), (105, .d (.list 3 (x.purposes.map RPurpose.enc))), (106, .d (.int .i64 x.purposes.length)), (107, .d (.int .i64 k))]) (by simp) (fun k => by simp [young]) (by simp [prO, RSrc.enc, Xf]) ?_ ?_
      ·intro k hk t1 R hb fin
       have hb' : t1.length ≤ 50000 := by simp at hb hall; omega
       have hi : IntKind.i64.wrap ((k : Int) + 1) = (k : Int) + 1 := IntWalk.i64_in _ (by omega)
       simp [Xph, hk, RPurpose.enc]
       have hk3 := hB.purpose x.purposes[k] (by simp)
       refine V3 hP [.word [112, 117, 114, 112, 111, 115, 101], .name x.purposes[k].name, .sign [123]] (by simp [Part.rank]) _ 1 2 (t1) ⟨by decide, by simp [prO], by simp [prO]⟩ (by simp) (by simp [Part.few]) (by simp [Xb, Part.toks]; omega) _ ?_
       simp [prO, X2v]
       have hX1 : Pr ((3, Ob.box 88 (.d x.purposes[k].enc)) :: [(2, .arr 44 4 []), (1, .box 99 (.agg [.sl 2 0])), (0, .box 30 (.d x.enc))]) 1 2 [] := ⟨by decide, by simp, by simp⟩
       have hmX1 : ∀ kp, noMenO (young (fresh ((3, Ob.box 88 (.d x.purposes[k].enc)) :: [(2, .arr 44 4 []), (1, .box 99 (.agg [.sl 2 0])), (0, .box 30 (.d x.enc))] : Objs)) kp) ((3, Ob.box 88 (.d x.purposes[k].enc)) :: [(2, .arr 44 4 []), (1, .box 99 (.agg [.sl 2 0])), (0, .box 30 (.d x.enc))]) = true := fun kp => by simp [young]
       refine Yg x.purposes[k].may Xg8 5 (fun y _ => Xfe y) hX1 hmX1 (t1 ++ Xb [.word [112, 117, 114, 112, 111, 115, 101], .name x.purposes[k].name, .sign [123]]) (fun j => [(4, .ptr 1 []), (16, .ptr 3 []), (105, .d (.list 3 (x.purposes.map RPurpose.enc))), (106, .d (.int .i64 x.purposes.length)), (107, .d (.int .i64 k)), (120, .d (.list 4 (x.purposes[k].may.map RRef.enc))), (121, .d (.int .i64 x.purposes[k].may.length)), (122, .d (.int .i64 j))]) (by simp) (fun k => by simp [young]) (by simp [prO, RPurpose.enc]) ?_ ?_
       ·intro j hj t2 R2 hb2 fin2
        have hb2' : t2.length ≤ 60000 := by simp [Xb, Part.toks] at hb2; omega
        have hi2 : IntKind.i64.wrap ((j : Int) + 1) = (j : Int) + 1 := IntWalk.i64_in _ (by omega)
        simp [Xp2, hj, RRef.enc]
        refine V3 hP [.word [109, 97, 121], .name x.purposes[k].may[j].name, .sign [46], .name x.purposes[k].may[j].path, .sign [59]] (by simp [Part.rank]) _ 1 2 (t2) ⟨by decide, by simp [prO], by simp [prO]⟩ (by simp) (by simp [Part.few]) (by simp [Xb, Part.toks]; omega) _ ?_
        simp [prO, X2e, hi2]
        refine fin2 _ _ (by simp [hi2]) ?_
        rw [show t2 ++ Xg8 x.purposes[k].may[j] = t2 ++ Xb [.word [109, 97, 121], .name x.purposes[k].may[j].name, .sign [46], .name x.purposes[k].may[j].path, .sign [59]] from by simp [Xg8, Xb, Part.toks]]
        simp [young, prO]
       ·intro R2 re2
        simp [Xp2]
        refine re2 _ _ _ ?_
        clear re2
        simp [RPurpose.enc]
        have lm := X4 (f := Xg8) (c := 5) (l := x.purposes[k].may) (fun y _ => Xfe y)
        have lm2 : (t1 ++ Xb [.word [112, 117, 114, 112, 111, 115, 101], .name x.purposes[k].name, .sign [123]] ++ x.purposes[k].may.flatMap Xg8).length ≤ 60000 := by simp [Xb, Part.toks] at lm ⊢; omega
        refine V3 hP [.word [109, 111, 115, 116], .num x.purposes[k].most, .sign [59], .sign [125]] (by simp [Part.rank]) _ 1 2 (t1 ++ Xb [.word [112, 117, 114, 112, 111, 115, 101], .name x.purposes[k].name, .sign [123]] ++ x.purposes[k].may.flatMap Xg8) ⟨by decide, by simp [prO], by simp [prO]⟩ (by simp) (by simp [Part.few]) (by rw [List.length_append]; simp [Xb, Part.toks] at lm2 ⊢; omega) _ ?_
        simp [prO, X2x, hi]
        refine fin _ _ (by simp [hi]) ?_
        rw [show t1 ++ Xz x.purposes[k] = t1 ++ Xb [.word [112, 117, 114, 112, 111, 115, 101], .name x.purposes[k].name, .sign [123]] ++ x.purposes[k].may.flatMap Xg8 ++ Xb [.word [109, 111, 115, 116], .num x.purposes[k].most, .sign [59], .sign [125]] from by simp [Xz, Xb, Part.toks]]
        simp [young, prO]
      ·intro R re
       simp [Xph]
       refine re _ _ _ ?_
       clear re
       simp [RSrc.enc, Xf]
       have hsrc : ([] : List Tok) ++ x.issuers.flatMap Ye ++ x.units.flatMap Zl ++ x.schemas.flatMap X1 ++ x.rules.flatMap Z0 ++ x.converts.flatMap Xw ++ x.purposes.flatMap Xz = Qr x := by simp [Qr]
       have hlen : (Qr x).length ≤ 100000 := by rw [← hsrc]; simp at hall ⊢; omega
       have hv : Un x = Xcg (Qr x) := by simp [Un, hpr]
       rw [hv] at h
       refine PCall.borrow (n := 3) (ds := [.list 4 ((Qr x).map Tok.enc)]) (by simp [prO, Qr]) (X45 hP hG (l := Qr x) (.inl rfl) hlen ?_)
       revert h
       unfold Xcg
       split
       ·intro h
        exact ⟨by simp [V.flatR, V.flat, D.flat], by simpa using h⟩
       ·intro h
        exact ⟨by simp [V.flatR, V.flat, D.flat], by simpa using h⟩
end
end Go.Proofs.YtanpgmgkmfckaaaGreatDoor
/- The abstract statements that stand for the code of these functions, written by a program from the translation; that they do is checked by the kernel. No condition. -/
namespace Go.Proofs.YtanpgmgkmfckaaaGreatDoor
open Go Go.Ab
set_option maxRecDepth 100000
def X3r : Nat := 0x4040f38d0c20477b9b117820ed779b000d07b97830000103ce3430811efe6cc39b0150f0410aee6c839b30133e0fb79b000400c0003000080084005040112b39b019b9b000800c000300008008400aaf9b00041ab9b01042a79b28e6c12be649f9b00069e5f979b00041939b000028f9b22e6c125e64879b00063e5f7f9b00061e5f42ae5e381068e60424e5e381062e603c1060e604d24503ce34c2c91c614304a2040804c034508c1c3739b0401ce503ce34308121be6c639b0d0dae6c119e6c00104e041090679785000082
def Xs5 : Nat := 0x100d0c2044379b0e7820ed339b000cd37978300000d0c2044d79b36e6c0540c5142d39b32e6cc038383f3e6c0010030030020c014100348f0433ddc79b000410c5172e601c00002903ce3430811c63050103ce3430811c1044cf804f003b5174100008200f38d0c20465f9b0f0d40030030020c0160e10b96e6c094e6c0020030030020c0295e6c00104e082093e6c00104e00053980700008038d0c20454b9b0e0d40030030020c0160e0fb91e6c043050e6c3f9b0318d00ee6c0010411453f980700008b1422870cbe6c1002f934308114ae6c1f9b0d0c9e6c108e6c00104114508d239785000082
def X5c : Nat := 0x402ca2480c2047bf8b0c7820edbb8b000cbbf878300000b2892030811ffe2c039b0150a1040bee2cdb8b00e05e383fde2c0010030000c0003000080085005040152f38b04eb8b01e38b000c00c00030000c00020021402bbe2c00104c1040b9e2c00104c0410b7e2c00104c0000b5e2c00104a104db880d00000c2ca2480c2048d38b0c1540030000c0003000080085005e3836ecf8b01141cb8b31e2c1462c0c38b00041244131e201c00022450881c3b78b0402de0b28920308122ce2ca78b0d0ebe2c12ae2c00104910408bab8785000082
def Xt8 : Nat := 0x4020308111ee2c25e083b5de2c00321ee1e0c0000203081105e6c1b9b01503104084e6c0b9b10e057383c3e6c0010c00c000300008008500504015228114f741e6c0010431040b980700000a2ca2480c20471881402ca2480c2047101178e012800ed45d0400020802892030811a8e2c2855030030000c000200214015ce0bba7e2c065e2c0020c00c000300008008500a9b8b00041241042938b00041240025e201c0002009203081163e2c2455030030000c000200214015ce0aba2e2c045061e2c838b0518801fe2c0010411048388070000871421870dce2c10073820308115be2c638b0d0dae2c119e2c001041104088678785000082
def X3h : Nat := 0x401c308110ce2c21e083b4be2c0031cce1e0c00001c3081116e2c5f8b015030c3095e2c3b8b28e05c8f538b000430c30030000850050401524f8b01a0e4b8b01141478b10e2c153e243f8b00051e1f378b0004fe1f1d2e1e0430d0e200c30cee2030b2892071850c110200c0051421070cae2c1002b81c3081149e2c1b8b0d0c8e2c107e2c0010410c30871f8785000082
def X47 : Nat := 0x40183081132b077820edc6c0031b27830000060c2044138b05e2c0540c20820f8b34b28e065f83c2e2c0010c30030000c0002002180141006481e2c067380e2c046077b36b06078935b000777f3b000757c6038781082da00c20b480c2ca2481c61430440803000c50821c3c2c100c060c2045becb2c343bac12db000410420821ad785000082
def X32 : Nat := 0x10040c20446857820ed6400c469e0c000010308112aac15030410a9840e054b83e80010030000c00030000800850050401529c29418c00c00c00030000c00020021402a60010450820a40010450410a20010450000a00010430418603400001440c20457c51540030000c00030000800850054b81ae78114175c1461006c004104105c8070000811420070d81006040c20455d4343584540041041042115785000082
def n14 : Nat := 0x48002077e6c0865030463f8e7b08000210a34308110628500d0c2044003b4e7810000820ca2030811061850080c2044003b400400020822870c20441841401c30811000ed00100008204a1830811060850060c2044003b4778100008200a1030811060050040c20441410e0e040457380c1172081197e010454b8143003b517410000820030810d30c65030c30c30c6005784b920010c30c30c31802910010410004a01400020020420c30c30c318015e400791080002
def Yoq : S := zS [(zS [] X32), (zS [] X47), (zS [] X3h), (zS [(zS [] X5c)] Xt8), (zS [(zS [] X3r)] Xs5)] n14
theorem Yup : Xv Tryz.prog 14 1 Yoq [.c 2 6 true] = true := by kernel_rfl
def X4i : Nat := 0x10060c2044a477820eda000c6a5e0c0000183081137b00e2c0540c5142dacc2c438128e0fd6c0010030030020c4005040112d2c072b000800c00c00831002b3b000411c1042c6c0010470000afb000410c517080b00000718308116eb071140030030020c4005a3822eb6c04406cb2b106180a8004104516b8070000831420870e71009c60c20459a33439449000410451421a4785000082
def X3c : Nat := 0x10040c20445457820ed5000c455e0c00001030811218815031040a0780e4b9783df0010030040450c00c00020030000c00030060050020c014100b48504b05d0010431040870000051030811400ed70151b1040850417200c000200510308115a14b5000c01011430030000800c00030000c01801400830059781ae6412c16172c61005800410441178070000811420070d31004c40c204548f343444400041044102110785000082
def n39 : Nat := 0x1200081078b021940c118f0b8ec20000812860c20441821401830811000ed1de0400020802840c2044180140103081105044a381012e5e020c00ed45d0400020800c20433831940c30030000c0002002180157e04b8d0cb0490030c30030000c000200218028c0010410c308a0010410410880010410002602400020020420c30030000c0002002180157e10017e11080002
def Yqp : S := zS [(zS [] X3c), (zS [] X4i)] n39
theorem Ytd : Xv Tryz.prog 39 1 Yqp [.c 2 6 true] = true := by kernel_rfl
def X3y : Nat := 0x10080c2044578b097820ed538b000c85787830000080c2044938b25e2c0540c41028f8b1ce2c6381c2e0f8b8b000400c00030000c00020021401400c00020c01410074a1e2c09ee2c0020030000c000300008008500500300008300a838b01f7839fe2c0458787dde2c0017f87dbe2c0017787c90828388090007b880310473880c2ca2481c614304408030000920308115ae2c2475000c00030000c00020021401400c00020c0142e0ab99e2c047058e2c5f8b07188016e2c0010411045f88070000851421070d3e2c1004f8203081152e2c3f8b0d0d1e2c110e2c001041104088438785000082
def X37 : Nat := 0x40183081133b077820edcac0031b37830000060c2044378b0ee2c0540c30c2338b02e2c0392c0e0f2f8b000400c00030000c00020021401400c00030000c00020021401400c00c014100b48ae2c087e2c044e2c0030030000c00030000800850050030000c000300008008500500300300a278b01f782f8b06e2c07de08e2c238b0114ae1f178b01147e1f0f8b00045e1f078b00043e1f1c6089e201c1046e201c0004e200c30c2e203ce34c2ca2462050c11c40803c0007183081140e2c1cb5000c00030000c00020021401400c00030000c00020021401400c00c0140e08bb7b012c1dacd6c2c6180d2c0010410c3d601c00020c50821c3c6c100c460c2045c2cb6c343bec12eb000410430c21ae785000082
def X5p : Nat := 0x10040c20444c57820ed4800c44de0c000010308112bb2c0540c2082a9aa382363e90010030000c0003000080085005003000080084005040212a037817000c00c00030000c00020021401400c00020021002a71240610030030000c000300008008500a9800419441021430c28c00418810421430c28000417c00021430c27400411410426c00411400026400410c209a8150000051030811581485000c00030000c00020021401400c00020021001761ae5c12015952061005000410420958070000811420070d11004440c204540d3433c438004104208210e785000082
def n40 : Nat := 0x48002066e2c0855030453e7e3b08000208a2030811061050080c2044003b4978100008204a1830811060850060c2044003b4778100008200a1030811060050040c20441011c2e0304b0380812360c3003b517410000820030810cc0c55030c3003000085005c84b8b0010c30c00c000214028a0010410002e01400020020420c30c00c0002140172400c91080002
def Yls : S := zS [(zS [] X5p), (zS [] X37), (zS [] X3y)] n40
theorem Yq9 : Xv Tryz.prog 40 1 Yls [.c 2 5 true] = true := by kernel_rfl
def Xxt : Nat := 0x4800205408550304555f080002
def Yh5 : Nat := 0x100a0c00c20810ed4c15030820820004840120c20c0b9138802f40b0c13bd3c004104ef410410813bd34002f30b0cb0010410003202000020800c20432831540030000c0003000080085005d04b891070450030030000c000300008008500a2000410441021800410410421000410400058090000800810800c00030000c0002002140174400d11080002
def Yef : S := zS [(zS [] Xxt)] Yh5
theorem Yh1 : Xv Tryz.prog 117 1 Yef [.c 2 5 true] = true := by kernel_rfl
end Go.Proofs.YtanpgmgkmfckaaaGreatDoor
/- The same statements with their regions folded into expressions, printed by the fold itself; that they are that is checked by the kernel. No condition. -/
namespace Go.Proofs.YtanpgmgkmfckaaaGreatDoor
open Go Go.Ab
set_option maxRecDepth 100000
def Xnj : S2 := zL [] [] X3r
def Xzl := by
 have h := Eq.refl Xnj
 conv at h => rhs; cbv
 exact h
def Xkf : S2 := zL [] [Xnj] Xs5
def Xza := by
 have h := fun (a : S2) => Eq.refl (zL [] [a] Xs5)
 conv at h => intro a; rhs; cbv
 have e : Xkf = _ := h Xnj
 exact e
def Xnm : S2 := zL [] [] X5c
def Xup := by
 have h := Eq.refl Xnm
 conv at h => rhs; cbv
 exact h
def Xj2 : S2 := zL [] [Xnm] Xt8
def Xxu := by
 have h := fun (a : S2) => Eq.refl (zL [] [a] Xt8)
 conv at h => intro a; rhs; cbv
 have e : Xj2 = _ := h Xnm
 exact e
def Xjp : S2 := zL [] [] X3h
def Xwz := by
 have h := Eq.refl Xjp
 conv at h => rhs; cbv
 exact h
def Xm3 : S2 := zL [] [] X47
def Xu5 := by
 have h := Eq.refl Xm3
 conv at h => rhs; cbv
 exact h
def Xog : S2 := zL [] [] X32
def Xzf := by
 have h := Eq.refl Xog
 conv at h => rhs; cbv
 exact h
def Yms : S2 := zL [] [Xog, Xm3, Xjp, Xj2, Xkf] n14
def Ysy := by
 have h := fun (a b c d e : S2) => Eq.refl (zL [] [a, b, c, d, e] n14)
 conv at h => intro a b c d e; rhs; cbv
 have e : Yms = _ := h Xog Xm3 Xjp Xj2 Xkf
 exact e
theorem Yrg : Yoq.lift [] = some Yms := by kernel_rfl
def Xmm : S2 := zL [] [] X4i
def Xso := by
 have h := Eq.refl Xmm
 conv at h => rhs; cbv
 exact h
def Xjq : S2 := zL [] [] X3c
def Xxn := by
 have h := Eq.refl Xjq
 conv at h => rhs; cbv
 exact h
def Yqj : S2 := zL [] [Xjq, Xmm] n39
def Yvi := by
 have h := fun (a b : S2) => Eq.refl (zL [] [a, b] n39)
 conv at h => intro a b; rhs; cbv
 have e : Yqj = _ := h Xjq Xmm
 exact e
theorem Yre : Yqp.lift [] = some Yqj := by kernel_rfl
def Xmf : S2 := zL [117] [] X3y
def Xya := by
 have h := Eq.refl Xmf
 conv at h => rhs; cbv
 exact h
def Xkx : S2 := zL [117] [] X37
def Xv7 := by
 have h := Eq.refl Xkx
 conv at h => rhs; cbv
 exact h
def Xl4 : S2 := zL [117] [] X5p
def Xs4 := by
 have h := Eq.refl Xl4
 conv at h => rhs; cbv
 exact h
def Yqa : S2 := zL [117] [Xl4, Xkx, Xmf] n40
def Yte := by
 have h := fun (a b c : S2) => Eq.refl (zL [117] [a, b, c] n40)
 conv at h => intro a b c; rhs; cbv
 have e : Yqa = _ := h Xl4 Xkx Xmf
 exact e
theorem Yu3 : Yls.lift [117] = some Yqa := by kernel_rfl
def Xfh : S2 := zL [] [] Xxt
def X10 := by
 have h := Eq.refl Xfh
 conv at h => rhs; cbv
 exact h
def Yar : S2 := zL [] [Xfh] Yh5
def Yii := by
 have h := fun (a : S2) => Eq.refl (zL [] [a] Yh5)
 conv at h => intro a; rhs; cbv
 have e : Yar = _ := h Xfh
 exact e
theorem Yje : Yef.lift [] = some Yar := by kernel_rfl
end Go.Proofs.YtanpgmgkmfckaaaGreatDoor
/- Contracts: the reference's Unnumbered. Condition: the program is the seat's. -/
namespace Go.Sx
open Go Go.Ab Go.Lx
theorem Zg {α β : Type} {g : α → β} {l : List α} {k : Nat} (h : k < l.length) : (l.take (k + 1)).map g = (l.take k).map g ++ [g l[k]] := by
 rw [← List.take_append_getElem h, List.map_append]; rfl
def RTerm.bare (t : RTerm) : RTerm := ⟨t.name, t.path, if t.name = [] ∧ t.path = [] then -1 else 0, 0, t.n⟩
def RFrom.bare (f : RFrom) : RFrom := ⟨f.name, f.kind, 0, ⟨f.of_.name, f.of_.path, 0, 0, f.of_.n⟩⟩
def RAtom.bare (a : RAtom) : RAtom := ⟨a.op, a.a.bare, a.b.bare⟩
def RSet.bare (s : RSet) : RSet := ⟨s.path, 0, s.term.bare⟩
def RRule.bare (r : RRule) : RRule := ⟨r.head, 0, r.froms.map RFrom.bare, r.wheres.map RAtom.bare, r.sets.map RSet.bare⟩
def RMove.bare (m : RMove) : RMove := ⟨m.to_, m.from_, 0, 0, m.shift⟩
def RConvert.bare (c : RConvert) : RConvert := ⟨c.from_, c.to_, 0, 0, c.moves.map RMove.bare⟩
def RRef.bare (r : RRef) : RRef := ⟨r.name, r.path, 0, 0⟩
def RPurpose.bare (p : RPurpose) : RPurpose := ⟨p.name, p.may.map RRef.bare, p.most⟩
def RUnit.bare (u : RUnit) : RUnit := ⟨u.name, u.of_, u.factor, 0, 0⟩
def RField.bare (f : RField) : RField := ⟨f.name, { f.type with unit := 0 }, f.w0, f.w1, f.w2, f.w3⟩
def RDepend.bare (d : RDepend) : RDepend := ⟨d.names, d.name, [], 0⟩
def RSchema.bare (s : RSchema) : RSchema := ⟨s.name, s.by_, 0, s.version, s.fields.map RField.bare, s.depends.map RDepend.bare⟩
def RSrc.bare (s : RSrc) : RSrc := ⟨s.issuers, s.units.map RUnit.bare, s.schemas.map RSchema.bare, s.rules.map RRule.bare, s.converts.map RConvert.bare, s.purposes.map RPurpose.bare⟩
def RDepend.bareD (d : RDepend) : D := .agg [Xf d.names, .str d.name, .nils, iD 0]
def RSchema.bareD (s : RSchema) : D := .agg [.str s.name, .str s.by_, iD 0, iD s.version, .list 11 (s.fields.map fun f => f.bare.enc), .list 4 (s.depends.map RDepend.bareD)]
def RUnit.bareD (u : RUnit) : D := u.bare.enc
def RRule.bareD (u : RRule) : D := u.bare.enc
def RMove.bareD (u : RMove) : D := u.bare.enc
def RConvert.bareD (u : RConvert) : D := .agg [.str u.from_, .str u.to_, iD 0, iD 0, .list 5 (u.moves.map RMove.bareD)]
def RRef.bareD (u : RRef) : D := u.bare.enc
def RPurpose.bareD (u : RPurpose) : D := .agg [.str u.name, .list 4 (u.may.map RRef.bareD), iD u.most]
@[simp] theorem RSchema.bareD_shape (s : RSchema) : s.bareD.shape = .node [.leaf, .leaf, .leaf, .leaf, .leaf, .leaf] := by simp [RSchema.bareD, D.shape]
@[simp] theorem RRule.bareD_shape (s : RRule) : s.bareD.shape = .node [.leaf, .leaf, .leaf, .leaf, .leaf] := by simp [RRule.bareD, RRule.enc, D.shape]
def RSrc.bareD (s : RSrc) : D := .agg [Xf s.issuers, .list 5 (s.units.map RUnit.bareD), .list 6 (s.schemas.map RSchema.bareD), .list 5 (s.rules.map RRule.bareD), .list 5 (s.converts.map RConvert.bareD), .list 3 (s.purposes.map RPurpose.bareD)]
theorem RDepend.bare_le (d : RDepend) : D.le d.bareD d.bare.enc := D.le.agg (.cons (D.le.refl _) (.cons (D.le.refl _) (.cons (D.le.nil _) (.cons (D.le.refl _) .nil))))
theorem Q8 {α β : Type} {f : α → β} {g : β → D} {k : α → D} {l : List α} (h : ∀ x ∈ l, D.le (k x) (g (f x))) : D.les (l.map k) ((l.map f).map g) := Uq h
theorem RSchema.bare_le (s : RSchema) : D.le s.bareD s.bare.enc :=
 D.le.agg (.cons (D.le.refl _) (.cons (D.le.refl _) (.cons (D.le.refl _) (.cons (D.le.refl _) (.cons (D.le.list (Q8 fun _ _ => D.le.refl _)) (.cons (D.le.list (Q8 fun d _ => d.bare_le)) .nil))))))
theorem RConvert.bare_le (s : RConvert) : D.le s.bareD s.bare.enc :=
 D.le.agg (.cons (D.le.refl _) (.cons (D.le.refl _) (.cons (D.le.refl _) (.cons (D.le.refl _) (.cons (D.le.list (Q8 fun _ _ => D.le.refl _)) .nil)))))
theorem RPurpose.bare_le (s : RPurpose) : D.le s.bareD s.bare.enc :=
 D.le.agg (.cons (D.le.refl _) (.cons (D.le.list (Q8 fun _ _ => D.le.refl _)) (.cons (D.le.refl _) .nil)))
theorem RSrc.bare_le (s : RSrc) : D.le s.bareD s.bare.enc :=
 D.le.agg (.cons (D.le.refl _) (.cons (D.le.list (Q8 fun _ _ => D.le.refl _)) (.cons (D.le.list (Q8 fun d _ => d.bare_le)) (.cons (D.le.list (Q8 fun _ _ => D.le.refl _)) (.cons (D.le.list (Q8 fun d _ => d.bare_le)) (.cons (D.le.list (Q8 fun d _ => d.bare_le)) .nil))))))
def Xvf : Ab.Fn := ⟨fun vs => ∃ t : RTerm, vs = [.d t.enc], fun vs => match vs with | [.d (.agg [.str a, .str b, _, _, .int _ n])] => .d (.agg [.str a, .str b, iD (if a = [] ∧ b = [] then -1 else 0), iD 0, iD n]) | _ => .any⟩
@[simp] theorem fnTerm_val (a b : B) (x y : D) (k : IntKind) (n : Int) : Xvf.val [.d (.agg [.str a, .str b, x, y, .int k n])] = .d (.agg [.str a, .str b, iD (if a = [] ∧ b = [] then -1 else 0), iD 0, iD n]) := rfl
@[simp] theorem fnTerm_pre (a b : B) (x y n : Int) : Xvf.pre [.d (.agg [.str a, .str b, iD x, iD y, iD n])] = True := by
 rw [eq_iff_iff]; exact ⟨fun _ => trivial, fun _ => ⟨⟨a, b, x, y, n⟩, rfl⟩⟩
end Go.Sx
namespace Go.Proofs.YtanpgmgkmfckaaaGreatDoor
open Go Go.Ab Go.Lx Go.Sx
set_option maxRecDepth 100000
set_option maxHeartbeats 4000000
section
variable {P : Prg} (hP : P.p = Tryz.prog)
include hP
theorem Xqu (t : RTerm) {ob : Objs} {K : V → Prop} (h : K (.d t.bare.enc)) : PCall P 117 [.d t.enc] ob K := by
 refine pcall_lift hP mixed (ds := [t.enc]) Yh1 Yje TOk.nil ?_
 obtain ⟨a, b, v, f, n⟩ := t
 cases a <;> cases b <;> simp [Yii, X10, RTerm.enc] <;> simpa [RTerm.bare, RTerm.enc] using h
theorem Xq3 : PFn P 117 Xvf := by
 rintro vs ⟨t, rfl⟩ ob K h
 exact Xqu hP t h
theorem Xin (x : RSchema) (hf : x.fields.length ≤ 100000) (hd : x.depends.length ≤ 100000) {ob : Objs} {K : V → Prop} (h : K (.d x.bareD)) : PCall P 39 [.d x.enc] ob K := by
 refine pcall_lift hP mixed (ds := [x.enc]) Ytd Yre TOk.nil ?_
 simp [Yvi, RSchema.enc]
 refine ALoop.upto x.fields.length (fun k => [(1, .ptr 0 []), (2, .ptr 1 []), (3, .ptr 2 []), (4, .d (.int .i64 k))]) (fun k => [(4, .arr 96 4 ([])), (3, .arr 93 11 ((x.fields.take k).map fun f => f.bare.enc)), (2, .box 79 (.agg [.d (.str x.name), .d (.str x.by_), .d (iD 0), .d (iD x.version), .sl 3 k, .sl 4 0])), (1, .box 79 (.d (.agg [.str [], .str [], iD 0, iD 0, .nils, .nils]))), (0, .box 79 (.d x.enc))]) (fun _ => True) trivial (by simp) (by simp [RSchema.enc, RField.enc, RField.bare, RType.enc, Xf]) ?_ ?_
 ·intro k hk _ R rn re rr rp
  have hi : IntKind.i64.wrap ((k : Int) + 1) = (k : Int) + 1 := IntWalk.i64_in _ (by omega)
  have hmn : min k x.fields.length = k := by omega
  simp [Xxn, hk, hmn, RSchema.enc, RField.enc, RField.bare, RType.enc, Xf]
  refine ⟨by omega, ?_⟩
  refine rn [] _ _ trivial (by simp [hi]) (by simp [young, Zg hk, RSchema.enc, RField.enc, RField.bare, RType.enc, Xf]) (by simp [young]) (by simp [young])
 ·intro _ R re rr rp
  simp [Xxn, RSchema.enc, RField.enc, RField.bare, RType.enc, Xf]
  refine re _ _ _ ?_
  clear re rr rp
  simp [RSchema.enc, RField.enc, RField.bare, RType.enc, Xf]
  refine ALoop.upto x.depends.length (fun k => [(1, .ptr 0 []), (2, .ptr 1 []), (3, .ptr 2 []), (6, .d (.int .i64 k))]) (fun k => [(4, .arr 96 4 ((x.depends.take k).map RDepend.bareD)), (3, .arr 93 11 (x.fields.map fun f => f.bare.enc)), (2, .box 79 (.agg [.d (.str x.name), .d (.str x.by_), .d (iD 0), .d (iD x.version), .sl 3 x.fields.length, .sl 4 k])), (1, .box 79 (.d (.agg [.str [], .str [], iD 0, iD 0, .nils, .nils]))), (0, .box 79 (.d x.enc))]) (fun _ => True) trivial (by simp) (by simp [RSchema.enc, RDepend.enc, RDepend.bareD, Xf, Yb, RField.enc, RField.bare, RType.enc]) ?_ ?_
  ·intro k hk _ R rn re rr rp
   have hi : IntKind.i64.wrap ((k : Int) + 1) = (k : Int) + 1 := IntWalk.i64_in _ (by omega)
   have hmn : min k x.depends.length = k := by omega
   simp [Xso, hk, hmn, RSchema.enc, RDepend.enc, RDepend.bareD, Xf, Yb, RField.enc, RField.bare, RType.enc]
   refine ⟨by omega, ?_⟩
   refine rn [] _ _ trivial (by simp [hi]) (by simp [young, Zg hk, RSchema.enc, RDepend.enc, RDepend.bareD, Xf, Yb, RField.enc, RField.bare, RType.enc]) (by simp [young]) (by simp [young])
  ·intro _ R re rr rp
   simp [Xso, RSchema.enc, RDepend.enc, RDepend.bareD, Xf, Yb, RField.enc, RField.bare, RType.enc]
   refine re _ _ _ ?_
   clear re rr rp
   simp [RSchema.enc, RDepend.enc, RDepend.bareD, Xf, Yb, RField.enc, RField.bare, RType.enc]
   simpa [RSchema.bareD, RDepend.bareD, Xf, RField.enc, RField.bare, RType.enc] using h
theorem Xrd (x : RRule) (hf : x.froms.length ≤ 100000) (hw : x.wheres.length ≤ 100000) (hs : x.sets.length ≤ 100000) {ob : Objs} {K : V → Prop} (h : K (.d x.bare.enc)) : PCall P 40 [.d x.enc] ob K := by
 refine pcall_lift hP mixed (ds := [x.enc]) Yq9 Yu3 (TOk.cons (Xq3 hP) TOk.nil) ?_
 simp [Yte, RRule.enc]
 refine ALoop.upto x.froms.length (fun k => [(1, .ptr 0 []), (2, .ptr 1 []), (3, .ptr 2 []), (4, .d (.int .i64 k))]) (fun k => [(5, .arr 58 7 ([])), (4, .arr 56 11 ([])), (3, .arr 54 8 ((x.froms.take k).map fun y => y.bare.enc)), (2, .box 50 (.agg [.d (.str x.head), .d (iD 0), .sl 3 k, .sl 4 0, .sl 5 0])), (1, .box 50 (.d (.agg [.str [], iD 0, .nils, .nils, .nils]))), (0, .box 50 (.d x.enc))]) (fun _ => True) trivial (by simp) (by simp [RRule.enc, RRule.bare, RFrom.enc, RFrom.bare, RAtom.enc, RAtom.bare, RSet.enc, RSet.bare, RTerm.enc, RTerm.bare]) ?_ ?_
 ·intro k hk _ R rn re rr rp
  have hi : IntKind.i64.wrap ((k : Int) + 1) = (k : Int) + 1 := IntWalk.i64_in _ (by omega)
  have hmn : min k x.froms.length = k := by omega
  simp [Xs4, hk, hmn, RRule.enc, RRule.bare, RFrom.enc, RFrom.bare, RAtom.enc, RAtom.bare, RSet.enc, RSet.bare, RTerm.enc, RTerm.bare]
  refine ⟨by omega, ?_⟩
  refine rn [] _ _ trivial (by simp [hi]) (by simp [young, Zg hk, RRule.enc, RRule.bare, RFrom.enc, RFrom.bare, RAtom.enc, RAtom.bare, RSet.enc, RSet.bare, RTerm.enc, RTerm.bare]) (by simp [young]) (by simp [young])
 ·intro _ R re rr rp
  simp [Xs4, RRule.enc, RRule.bare, RFrom.enc, RFrom.bare, RAtom.enc, RAtom.bare, RSet.enc, RSet.bare, RTerm.enc, RTerm.bare]
  refine re _ _ _ ?_
  clear re rr rp
  simp [RRule.enc, RRule.bare, RFrom.enc, RFrom.bare, RAtom.enc, RAtom.bare, RSet.enc, RSet.bare, RTerm.enc, RTerm.bare]
  refine ALoop.upto x.wheres.length (fun k => [(1, .ptr 0 []), (2, .ptr 1 []), (3, .ptr 2 []), (6, .d (.int .i64 k))]) (fun k => [(5, .arr 58 7 ([])), (4, .arr 56 11 ((x.wheres.take k).map fun y => y.bare.enc)), (3, .arr 54 8 (x.froms.map fun y => y.bare.enc)), (2, .box 50 (.agg [.d (.str x.head), .d (iD 0), .sl 3 x.froms.length, .sl 4 k, .sl 5 0])), (1, .box 50 (.d (.agg [.str [], iD 0, .nils, .nils, .nils]))), (0, .box 50 (.d x.enc))]) (fun _ => True) trivial (by simp) (by simp [RRule.enc, RRule.bare, RFrom.enc, RFrom.bare, RAtom.enc, RAtom.bare, RSet.enc, RSet.bare, RTerm.enc, RTerm.bare]) ?_ ?_
  ·intro k hk _ R rn re rr rp
   have hi : IntKind.i64.wrap ((k : Int) + 1) = (k : Int) + 1 := IntWalk.i64_in _ (by omega)
   have hmn : min k x.wheres.length = k := by omega
   simp [Xv7, hk, hmn, RRule.enc, RRule.bare, RFrom.enc, RFrom.bare, RAtom.enc, RAtom.bare, RSet.enc, RSet.bare, RTerm.enc, RTerm.bare]
   refine ⟨by omega, ?_⟩
   refine rn [] _ _ trivial (by simp [hi]) (by simp [young, Zg hk, RRule.enc, RRule.bare, RFrom.enc, RFrom.bare, RAtom.enc, RAtom.bare, RSet.enc, RSet.bare, RTerm.enc, RTerm.bare]) (by simp [young]) (by simp [young])
  ·intro _ R re rr rp
   simp [Xv7, RRule.enc, RRule.bare, RFrom.enc, RFrom.bare, RAtom.enc, RAtom.bare, RSet.enc, RSet.bare, RTerm.enc, RTerm.bare]
   refine re _ _ _ ?_
   clear re rr rp
   simp [RRule.enc, RRule.bare, RFrom.enc, RFrom.bare, RAtom.enc, RAtom.bare, RSet.enc, RSet.bare, RTerm.enc, RTerm.bare]
   refine ALoop.upto x.sets.length (fun k => [(1, .ptr 0 []), (2, .ptr 1 []), (3, .ptr 2 []), (8, .d (.int .i64 k))]) (fun k => [(5, .arr 58 7 ((x.sets.take k).map fun y => y.bare.enc)), (4, .arr 56 11 (x.wheres.map fun y => y.bare.enc)), (3, .arr 54 8 (x.froms.map fun y => y.bare.enc)), (2, .box 50 (.agg [.d (.str x.head), .d (iD 0), .sl 3 x.froms.length, .sl 4 x.wheres.length, .sl 5 k])), (1, .box 50 (.d (.agg [.str [], iD 0, .nils, .nils, .nils]))), (0, .box 50 (.d x.enc))]) (fun _ => True) trivial (by simp) (by simp [RRule.enc, RRule.bare, RFrom.enc, RFrom.bare, RAtom.enc, RAtom.bare, RSet.enc, RSet.bare, RTerm.enc, RTerm.bare]) ?_ ?_
   ·intro k hk _ R rn re rr rp
    have hi : IntKind.i64.wrap ((k : Int) + 1) = (k : Int) + 1 := IntWalk.i64_in _ (by omega)
    have hmn : min k x.sets.length = k := by omega
    simp [Xya, hk, hmn, RRule.enc, RRule.bare, RFrom.enc, RFrom.bare, RAtom.enc, RAtom.bare, RSet.enc, RSet.bare, RTerm.enc, RTerm.bare]
    refine ⟨by omega, ?_⟩
    refine rn [] _ _ trivial (by simp [hi]) (by simp [young, Zg hk, RRule.enc, RRule.bare, RFrom.enc, RFrom.bare, RAtom.enc, RAtom.bare, RSet.enc, RSet.bare, RTerm.enc, RTerm.bare]) (by simp [young]) (by simp [young])
   ·intro _ R re rr rp
    simp [Xya, RRule.enc, RRule.bare, RFrom.enc, RFrom.bare, RAtom.enc, RAtom.bare, RSet.enc, RSet.bare, RTerm.enc, RTerm.bare]
    refine re _ _ _ ?_
    clear re rr rp
    simp [RRule.enc, RRule.bare, RFrom.enc, RFrom.bare, RAtom.enc, RAtom.bare, RSet.enc, RSet.bare, RTerm.enc, RTerm.bare]
    simp only [RRule.enc, RRule.bare, List.map_map] at h
    exact h
theorem Xhi (x : RSrc) (b1 : x.units.length ≤ 100000) (b2 : x.schemas.length ≤ 100000) (b3 : x.rules.length ≤ 100000) (b4 : x.converts.length ≤ 100000) (b5 : x.purposes.length ≤ 100000)
  (hS : ∀ s ∈ x.schemas, s.fields.length ≤ 100000 ∧ s.depends.length ≤ 100000) (hR : ∀ s ∈ x.rules, s.froms.length ≤ 100000 ∧ s.wheres.length ≤ 100000 ∧ s.sets.length ≤ 100000) (hC : ∀ s ∈ x.converts, s.moves.length ≤ 100000) (hU : ∀ s ∈ x.purposes, s.may.length ≤ 100000)
  {ob : Objs} {K : V → Prop} (h : K (.d x.bareD)) : PCall P 14 [.d x.enc] ob K := by
 refine pcall_lift hP mixed (ds := [x.enc]) Yup Yrg TOk.nil ?_
 simp [Ysy, RSrc.enc, Xf]
 refine ALoop.upto x.units.length (fun k => [(1, .ptr 0 []), (2, .ptr 1 []), (3, .ptr 2 []), (4, .d (.int .i64 k))]) (fun k => [(7, .arr 88 3 ([])), (6, .arr 84 5 ([])), (5, .arr 50 5 ([])), (4, .arr 79 6 ([])), (3, .arr 74 5 ((x.units.take k).map RUnit.bareD)), (2, .box 30 (.agg [.d (Xf x.issuers), .sl 3 k, .sl 4 0, .sl 5 0, .sl 6 0, .sl 7 0])), (1, .box 30 (.d Qo)), (0, .box 30 (.d x.enc))]) (fun _ => True) trivial (by simp) (by simp [RSrc.enc, Xf]) ?_ ?_
 ·intro k hk _ R rn re rr rp
  have hi : IntKind.i64.wrap ((k : Int) + 1) = (k : Int) + 1 := IntWalk.i64_in _ (by omega)
  have hmn : min k x.units.length = k := by omega
  simp [Xzf, hk, hmn, RSrc.enc, Xf, RUnit.enc]
  refine ⟨by omega, ?_⟩
  refine rn [] _ _ trivial (by simp [hi]) (by simp [young, Zg hk, RSrc.enc, Xf, RUnit.bareD, RUnit.bare, RUnit.enc]) (by simp [young]) (by simp [young])
 ·intro _ R re rr rp
  simp [Xzf, RSrc.enc, Xf]
  refine re _ _ _ ?_
  clear re rr rp
  simp [RSrc.enc, Xf]
  refine ALoop.upto x.schemas.length (fun k => [(1, .ptr 0 []), (2, .ptr 1 []), (3, .ptr 2 []), (6, .d (.int .i64 k))]) (fun k => [(7, .arr 88 3 ([])), (6, .arr 84 5 ([])), (5, .arr 50 5 ([])), (4, .arr 79 6 ((x.schemas.take k).map RSchema.bareD)), (3, .arr 74 5 (x.units.map RUnit.bareD)), (2, .box 30 (.agg [.d (Xf x.issuers), .sl 3 x.units.length, .sl 4 k, .sl 5 0, .sl 6 0, .sl 7 0])), (1, .box 30 (.d Qo)), (0, .box 30 (.d x.enc))]) (fun _ => True) trivial (by simp) (by simp [RSrc.enc, Xf]) ?_ ?_
  ·intro k hk _ R rn re rr rp
   have hi : IntKind.i64.wrap ((k : Int) + 1) = (k : Int) + 1 := IntWalk.i64_in _ (by omega)
   have hmn : min k x.schemas.length = k := by omega
   simp [Xu5, hk, hmn, RSrc.enc, Xf, RSchema.enc]
   refine Xin hP x.schemas[k] (hS _ (by simp)).1 (hS _ (by simp)).2 ?_
   simp [hmn]
   refine ⟨by omega, ?_⟩
   refine rn [] _ _ trivial (by simp [hi]) (by simp [young, Zg hk, RSrc.enc, Xf]) (by simp [young]) (by simp [young])
  ·intro _ R re rr rp
   simp [Xu5, RSrc.enc, Xf]
   refine re _ _ _ ?_
   clear re rr rp
   simp [RSrc.enc, Xf]
   refine ALoop.upto x.rules.length (fun k => [(1, .ptr 0 []), (2, .ptr 1 []), (3, .ptr 2 []), (7, .d (.int .i64 k))]) (fun k => [(7, .arr 88 3 ([])), (6, .arr 84 5 ([])), (5, .arr 50 5 ((x.rules.take k).map RRule.bareD)), (4, .arr 79 6 (x.schemas.map RSchema.bareD)), (3, .arr 74 5 (x.units.map RUnit.bareD)), (2, .box 30 (.agg [.d (Xf x.issuers), .sl 3 x.units.length, .sl 4 x.schemas.length, .sl 5 k, .sl 6 0, .sl 7 0])), (1, .box 30 (.d Qo)), (0, .box 30 (.d x.enc))]) (fun _ => True) trivial (by simp) (by simp [RSrc.enc, Xf]) ?_ ?_
   ·intro k hk _ R rn re rr rp
    have hi : IntKind.i64.wrap ((k : Int) + 1) = (k : Int) + 1 := IntWalk.i64_in _ (by omega)
    have hmn : min k x.rules.length = k := by omega
    simp [Xwz, hk, hmn, RSrc.enc, Xf, RRule.enc]
    refine Xrd hP x.rules[k] (hR _ (by simp)).1 (hR _ (by simp)).2.1 (hR _ (by simp)).2.2 ?_
    rw [show x.rules[k].bare.enc = x.rules[k].bareD from rfl]
    simp [hmn]
    refine ⟨by omega, ?_⟩
    refine rn [] _ _ trivial (by simp [hi]) (by simp [young, Zg hk, RSrc.enc, Xf]) (by simp [young]) (by simp [young])
   ·intro _ R re rr rp
    simp [Xwz, RSrc.enc, Xf]
    refine re _ _ _ ?_
    clear re rr rp
    simp [RSrc.enc, Xf]
    refine ALoop.upto x.converts.length (fun k => [(1, .ptr 0 []), (2, .ptr 1 []), (3, .ptr 2 []), (8, .d (.int .i64 k))]) (fun k => [(7, .arr 88 3 ([])), (6, .arr 84 5 ((x.converts.take k).map RConvert.bareD)), (5, .arr 50 5 (x.rules.map RRule.bareD)), (4, .arr 79 6 (x.schemas.map RSchema.bareD)), (3, .arr 74 5 (x.units.map RUnit.bareD)), (2, .box 30 (.agg [.d (Xf x.issuers), .sl 3 x.units.length, .sl 4 x.schemas.length, .sl 5 x.rules.length, .sl 6 k, .sl 7 0])), (1, .box 30 (.d Qo)), (0, .box 30 (.d x.enc))]) (fun _ => True) trivial (by simp) (by simp [RSrc.enc, Xf]) ?_ ?_
    ·intro k hk _ R rn re rr rp
     have hi : IntKind.i64.wrap ((k : Int) + 1) = (k : Int) + 1 := IntWalk.i64_in _ (by omega)
     have hmn : min k x.converts.length = k := by omega
     simp [Xxu, hk, hmn, RSrc.enc, Xf, RConvert.enc]
     refine ALoop.upto x.converts[k].moves.length (fun j => [(1, .ptr 0 []), (2, .ptr 1 []), (3, .ptr 2 []), (8, .d (.int .i64 k)), (9, .ptr 8 []), (10, .ptr 9 []), (11, .d (.int .i64 j))]) (fun j => [(10, .arr 112 5 ((x.converts[k].moves.take j).map RMove.bareD)), (9, .box 84 (.agg [.d (.str x.converts[k].from_), .d (.str x.converts[k].to_), .d (iD 0), .d (iD 0), .sl 10 j])), (8, .box 84 (.d x.converts[k].enc)), (7, .arr 88 3 ([])), (6, .arr 84 5 ((x.converts.take k).map RConvert.bareD)), (5, .arr 50 5 (x.rules.map RRule.bareD)), (4, .arr 79 6 (x.schemas.map RSchema.bareD)), (3, .arr 74 5 (x.units.map RUnit.bareD)), (2, .box 30 (.agg [.d (Xf x.issuers), .sl 3 x.units.length, .sl 4 x.schemas.length, .sl 5 x.rules.length, .sl 6 k, .sl 7 0])), (1, .box 30 (.d Qo)), (0, .box 30 (.d x.enc))]) (fun _ => True) trivial (by simp) (by simp [RSrc.enc, Xf, RConvert.enc]) ?_ ?_
     ·intro j hj _ R' rn' re' rr' rp'
      have hl := hC _ (List.getElem_mem hk)
      have hi' : IntKind.i64.wrap ((j : Int) + 1) = (j : Int) + 1 := IntWalk.i64_in _ (by omega)
      have hmn' : min j x.converts[k].moves.length = j := by omega
      simp [Xup, hj, hmn', RSrc.enc, Xf, RConvert.enc, RMove.enc]
      refine ⟨by omega, ?_⟩
      refine rn' [] _ _ trivial (by simp [hi']) (by simp [young, Zg hj, RSrc.enc, Xf, RConvert.enc, RMove.bareD, RMove.bare, RMove.enc]) (by simp [young]) (by simp [young])
     ·intro _ R' re' rr' rp'
      simp [Xup, RSrc.enc, Xf, RConvert.enc]
      refine re' _ _ _ ?_
      clear re' rr' rp'
      simp [RSrc.enc, Xf, RConvert.enc, hmn]
      refine ⟨by omega, ?_⟩
      refine rn [] _ _ trivial (by simp [hi]) (by simp [young, Zg hk, RSrc.enc, Xf, RConvert.bareD]) (by simp [young]) (by simp [young])
    ·intro _ R re rr rp
     simp [Xxu, RSrc.enc, Xf]
     refine re _ _ _ ?_
     clear re rr rp
     simp [RSrc.enc, Xf]
     refine ALoop.upto x.purposes.length (fun k => [(1, .ptr 0 []), (2, .ptr 1 []), (3, .ptr 2 []), (13, .d (.int .i64 k))]) (fun k => [(7, .arr 88 3 ((x.purposes.take k).map RPurpose.bareD)), (6, .arr 84 5 (x.converts.map RConvert.bareD)), (5, .arr 50 5 (x.rules.map RRule.bareD)), (4, .arr 79 6 (x.schemas.map RSchema.bareD)), (3, .arr 74 5 (x.units.map RUnit.bareD)), (2, .box 30 (.agg [.d (Xf x.issuers), .sl 3 x.units.length, .sl 4 x.schemas.length, .sl 5 x.rules.length, .sl 6 x.converts.length, .sl 7 k])), (1, .box 30 (.d Qo)), (0, .box 30 (.d x.enc))]) (fun _ => True) trivial (by simp) (by simp [RSrc.enc, Xf]) ?_ ?_
     ·intro k hk _ R rn re rr rp
      have hi : IntKind.i64.wrap ((k : Int) + 1) = (k : Int) + 1 := IntWalk.i64_in _ (by omega)
      have hmn : min k x.purposes.length = k := by omega
      simp [Xza, hk, hmn, RSrc.enc, Xf, RPurpose.enc]
      refine ALoop.upto x.purposes[k].may.length (fun j => [(1, .ptr 0 []), (2, .ptr 1 []), (3, .ptr 2 []), (13, .d (.int .i64 k)), (14, .ptr 8 []), (15, .ptr 9 []), (16, .d (.int .i64 j))]) (fun j => [(10, .arr 107 4 ((x.purposes[k].may.take j).map RRef.bareD)), (9, .box 88 (.agg [.d (.str x.purposes[k].name), .sl 10 j, .d (iD x.purposes[k].most)])), (8, .box 88 (.d x.purposes[k].enc)), (7, .arr 88 3 ((x.purposes.take k).map RPurpose.bareD)), (6, .arr 84 5 (x.converts.map RConvert.bareD)), (5, .arr 50 5 (x.rules.map RRule.bareD)), (4, .arr 79 6 (x.schemas.map RSchema.bareD)), (3, .arr 74 5 (x.units.map RUnit.bareD)), (2, .box 30 (.agg [.d (Xf x.issuers), .sl 3 x.units.length, .sl 4 x.schemas.length, .sl 5 x.rules.length, .sl 6 x.converts.length, .sl 7 k])), (1, .box 30 (.d Qo)), (0, .box 30 (.d x.enc))]) (fun _ => True) trivial (by simp) (by simp [RSrc.enc, Xf, RPurpose.enc]) ?_ ?_
      ·intro j hj _ R' rn' re' rr' rp'
       have hl := hU _ (List.getElem_mem hk)
       have hi' : IntKind.i64.wrap ((j : Int) + 1) = (j : Int) + 1 := IntWalk.i64_in _ (by omega)
       have hmn' : min j x.purposes[k].may.length = j := by omega
       simp [Xzl, hj, hmn', RSrc.enc, Xf, RPurpose.enc, RRef.enc]
       refine ⟨by omega, ?_⟩
       refine rn' [] _ _ trivial (by simp [hi']) (by simp [young, Zg hj, RSrc.enc, Xf, RPurpose.enc, RRef.bareD, RRef.bare, RRef.enc]) (by simp [young]) (by simp [young])
      ·intro _ R' re' rr' rp'
       simp [Xzl, RSrc.enc, Xf, RPurpose.enc]
       refine re' _ _ _ ?_
       clear re' rr' rp'
       simp [RSrc.enc, Xf, RPurpose.enc, hmn]
       refine ⟨by omega, ?_⟩
       refine rn [] _ _ trivial (by simp [hi]) (by simp [young, Zg hk, RSrc.enc, Xf, RPurpose.bareD]) (by simp [young]) (by simp [young])
     ·intro _ R re rr rp
      simp [Xza, RSrc.enc, Xf]
      refine re _ _ _ ?_
      clear re rr rp
      simp [RSrc.enc, Xf]
      simpa [RSrc.bareD, Xf] using h
end
end Go.Proofs.YtanpgmgkmfckaaaGreatDoor
/- What is printed of well-formed definitions is parsed back. No program. -/
namespace Go.Sx
open Go Go.Ab Go.Lx
@[simp] theorem Yb1 (s : B) (p : List Tok) : X8 (nmT s :: p) = .ok s p := by simp [X8, Xe, Jv, Xh, nmT]
@[simp] theorem k_word (s : B) (p : List Tok) : Yp s (nmT s :: p) = .ok () p := by simp [Yp, Xe, Jv, Xh, nmT]
@[simp] theorem k_sign (s : B) (p : List Tok) : X3 s (sgT s :: p) = .ok () p := by simp [X3, Xe, Jv, Xh, sgT]
theorem Q3 {lo hi n : Int} (h : Zi lo hi n) (p : List Tok) : Xx lo hi (nuT n :: p) = .ok n p := by simp [Xx, Xh, nuT, h.1, h.2]
@[simp] theorem k_acc_s (s t : B) (p : List Tok) : Xr 3 s (sgT t :: p) = if s = [] ∨ t = s then .ok true p else .ok false (sgT t :: p) := by
 by_cases h : s = [] ∨ t = s <;> simp [Xr, Xh, sgT, h]
@[simp] theorem k_acc_w (s t : B) (p : List Tok) : Xr 1 s (nmT t :: p) = if s = [] ∨ t = s then .ok true p else .ok false (nmT t :: p) := by
 by_cases h : s = [] ∨ t = s <;> simp [Xr, Xh, nmT, h]
@[simp] theorem k_acc_sn (s t : B) (p : List Tok) : Xr 1 s (sgT t :: p) = .ok false (sgT t :: p) := by simp [Xr, Xh, sgT]
@[simp] theorem k_acc_sw (s t : B) (p : List Tok) : Xr 3 s (nmT t :: p) = .ok false (nmT t :: p) := by simp [Xr, Xh, nmT]
@[simp] theorem k_next_w (s t : B) (p : List Tok) : Xh 1 s (nmT t :: p) = decide (s = [] ∨ t = s) := by rw [Bool.eq_iff_iff]; simp [Xh, nmT]
@[simp] theorem k_next_ws (s t : B) (p : List Tok) : Xh 1 s (sgT t :: p) = false := by simp [Xh, sgT]
@[simp] theorem k_next_wn (s : B) (n : Int) (p : List Tok) : Xh 1 s (nuT n :: p) = false := by simp [Xh, nuT]
@[simp] theorem k_next_s (s t : B) (p : List Tok) : Xh 3 s (sgT t :: p) = decide (s = [] ∨ t = s) := by rw [Bool.eq_iff_iff]; simp [Xh, sgT]
@[simp] theorem k_next_sw (s t : B) (p : List Tok) : Xh 3 s (nmT t :: p) = false := by simp [Xh, nmT]
@[simp] theorem k_next_sn (s : B) (n : Int) (p : List Tok) : Xh 3 s (nuT n :: p) = false := by simp [Xh, nuT]
@[simp] theorem k_next_nw (s t : B) (p : List Tok) : Xh 2 s (nmT t :: p) = false := by simp [Xh, nmT]
@[simp] theorem k_next_nn (n : Int) (p : List Tok) : Xh 2 [] (nuT n :: p) = true := by simp [Xh, nuT]
theorem Xa8 {s : B} (h : nm s) : s ≠ [] := by
 rintro rfl
 revert h
 unfold nm
 decide
theorem Xvl (a b : B) (p : List Tok) : Xny (nmT a :: sgT [46] :: nmT b :: p) = .ok (a, b) p := by simp [Xny, Xe]
theorem Xuq {t : Term} (h : t.wf) (p : List Tok) : Xae (Ze t.raw ++ p) = .ok t p := by
 cases t with
 | num n =>
  have h1 : Zi 0 1048576 n := h
  simp [Ze, Term.raw, Xae, Xe, Q3 h1]
 | path a b =>
  have h1 : a ≠ [] := Xa8 h.1
  simp [Ze, Term.raw, h1, Xae, Xe, Xvl]
theorem Ydr {f : From} (h : f.wf) (p : List Tok) : Xb0 (Zq f.raw ++ p) = .ok f p := by
 obtain ⟨a, b, c⟩ := f
 cases c with
 | none => simp [Zq, From.raw, Xb0, Xe]
 | some x =>
  have h1 : x.1 ≠ [] := Xa8 h.of_.1
  simp [Zq, From.raw, h1, Ze, Xb0, Xe, Xvl]
theorem Yr4 {o : Int} (h : Zi 1 4 o) (t : Tok) (ht : ∀ p, Xh 3 [61] (t :: p) = false) (p : List Tok) : opM (opT o ++ t :: p) = .ok o (t :: p) := by
 have ha : Xr 3 [61] (t :: p) = .ok false (t :: p) := by simp [Xr, ht]
 have h4 : o = 1 ∨ o = 2 ∨ o = 3 ∨ o = 4 := by unfold Zi at h; omega
 rcases h4 with rfl | rfl | rfl | rfl <;> simp [opT, opM, Xe, ha]
theorem X72 {a : Atom} (h : a.wf) (p : List Tok) : U5 (X9 a.raw ++ p) = .ok a p := by
 obtain ⟨o, x, y⟩ := a
 have hx : ∀ q, Xae (Ze x.raw ++ q) = .ok x q := fun q => Xuq h.a q
 have hy : ∀ q, Xae (Ze y.raw ++ q) = .ok y q := fun q => Xuq h.b q
 obtain ⟨t, r, e, ht⟩ : ∃ t r, Ze y.raw = t :: r ∧ ∀ p, Xh 3 [61] (t :: p) = false := by
  cases y with
  | num n => exact ⟨nuT n, [], by simp [Ze, Term.raw], fun p => by simp⟩
  | path a b =>
   have : a ≠ [] := Xa8 h.b.1
   exact ⟨nmT a, [sgT [46], nmT b], by simp [Ze, Term.raw, this], fun p => by simp⟩
 have ho : ∀ q, opM (opT o ++ (Ze y.raw ++ q)) = .ok o (Ze y.raw ++ q) := fun q => by rw [e]; exact Yr4 h.op t ht _
 simp [X9, Atom.raw, U5, Xe, hx, hy, ho]
theorem Yiq {a : SetT} (h : a.wf) (p : List Tok) : Xzo (Xak a.raw ++ p) = .ok a p := by
 obtain ⟨x, y⟩ := a
 have hy : ∀ q, Xae (Ze y.raw ++ q) = .ok y q := fun q => Xuq h.term q
 simp [Xak, SetT.raw, Xzo, Xe, hy]
theorem Yct {a : Move} (h : a.wf) (p : List Tok) : Xbd (Zv a.raw ++ p) = .ok a p := by
 obtain ⟨x, y, n⟩ := a
 have hn := h.shift
 simp only [Zi] at hn
 by_cases h1 : 0 < n
 ·have : Zi 0 1048576 n := ⟨by omega, by omega⟩
  simp [Zv, Move.raw, h1, Xbd, Xei, Xe, Q3 this]
 ·by_cases h2 : n < 0
  ·have : Zi 0 1048576 (-n) := ⟨by omega, by omega⟩
   simp [Zv, Move.raw, h1, h2, Xbd, Xei, Xe, Q3 this]
  ·obtain rfl : n = 0 := by omega
   simp [Zv, Move.raw, Xbd, Xei, Xe]
theorem Yki (a : Ref) (p : List Tok) : Xzr (Xg8 a.raw ++ p) = .ok a p := by
 simp [Xg8, Ref.raw, Xzr, Xe, Xvl]
theorem Xbx {α : Type} {c : List Tok → Bool} {read : M α} {pr : α → List Tok} : ∀ {l : List α} {n : Nat} {p : List Tok}, (∀ x ∈ l, ∀ q, read (pr x ++ q) = .ok x q ∧ c (pr x ++ q) = true) → l.length ≤ n → c p = false → Xs c read n (l.flatMap pr ++ p) = .ok l p
 | [], 0, p, _, _, hc => by simp [Xs, hc]
 | [], n + 1, p, _, _, hc => by simp [Xs, hc]
 | x :: r, 0, p, _, hl, _ => by simp at hl
 | x :: r, n + 1, p, h, hl, hc => by
  have h1 := h x (by simp) (r.flatMap pr ++ p)
  have h2 := Xbx (l := r) (n := n) (p := p) (fun y hy => h y (by simp [hy])) (by simpa using hl) hc
  simp only [List.flatMap_cons, List.append_assoc, Xs, h1.2, if_true, Xe, h1.1, h2]
  rfl
theorem Xpc {l : List B} {most : Nat} (h : Xcy most l) {p : List Tok} (hc : Xh 3 [44] p = false) : Vm most (Vf l ++ p) = .ok l p := by
 obtain ⟨h1, h2, _⟩ := h
 cases l with
 | nil => exact absurd rfl h1
 | cons a r =>
  rw [← Qw]
  have := Xbx (c := Xh 3 [44]) (read := (do X3 [44]; X8)) (pr := fun x => [sgT [44], nmT x]) (l := r) (n := most - 1) (p := p) (fun x _ q => ⟨by simp [Xe], by simp⟩) (by simp at h2; omega) hc
  simp only [Zm, Vm, List.cons_append, Xe, Yb1, this]
  rfl
theorem Ydt {t : TypeT} (h : t.wf) {p : List Tok} (h1 : Xh 1 [105, 110] p = false) (h2 : Xh 3 [44] p = false) : Xdm (W8 t.raw ++ p) = .ok t p := by
 cases t with
 | num lo hi o =>
  obtain ⟨a, b, c⟩ := h
  have ha : Xr 1 [105, 110] p = .ok false p := by simp [Xr, h1]
  cases o with
  | none => simp [W8, TypeT.raw, Xdm, Xe, Q3 a, Q3 b, ha]
  | some s =>
   have : s ≠ [] := Xa8 c
   simp [W8, TypeT.raw, this, Xdm, Xe, Q3 a, Q3 b]
 | date => simp [W8, TypeT.raw, Xdm, Xe]
 | person => simp [W8, TypeT.raw, Xdm, Xe]
 | choice l => simp [W8, TypeT.raw, Xdm, Xe, Xpc h h2]
theorem Xht {a b c d : Int} (ha : Zi 0 9 a) (hb : Zi 0 9 b) (hc : Zi 0 9 c) (hd : Zi 0 9 d) (p : List Tok) : Wl (nuT a :: nuT b :: nuT c :: nuT d :: p) = .ok [a, b, c, d] p := by
 simp [Wl, Xg4, Xe, Q3 ha, Q3 hb, Q3 hc, Q3 hd]
theorem X9i {f : Field} (h : f.wf) (p : List Tok) : Jn (fieldT f.raw ++ p) = .ok f p := by
 obtain ⟨n, t, w⟩ := f
 match w, h.four, h.weights with
 | [a, b, c, d], _, hw =>
  have hk : ∀ q, Xdm (W8 t.raw ++ nuT a :: q) = .ok t (nuT a :: q) := fun q => Ydt h.type (by simp) (by simp)
  have := Xht (hw a (by simp)) (hw b (by simp)) (hw c (by simp)) (hw d (by simp))
  simp [fieldT, Field.raw, Jn, Xe, hk, this]
theorem X1n {d : Depend} (h : d.wf) (p : List Tok) : Xab (Yj d.raw ++ p) = .ok d p := by
 obtain ⟨l, n⟩ := d
 have hk : ∀ q, Vm 11 (Vf l ++ nmT [103, 105, 118, 101] :: q) = .ok l (nmT [103, 105, 118, 101] :: q) := fun q => Xpc h.names (by simp)
 simp [Yj, Depend.raw, Xab, Xe, hk]
theorem Xxf : ∀ (fs : List Field) (ds : List Depend) (n : Nat) (s : Schema) (p : List Tok), (∀ f ∈ fs, f.wf) → (∀ d ∈ ds, d.wf) → s.fields.length + fs.length ≤ 12 → s.depends.length + ds.length ≤ 8 → fs.length + ds.length < n →
  Xbh n s (fs.flatMap (fun f => fieldT f.raw) ++ (ds.flatMap (fun d => Yj d.raw) ++ sgT [125] :: p)) = .ok { s with fields := s.fields ++ fs, depends := s.depends ++ ds } p
 | [], [], n + 1, s, p, _, _, _, _, _ => by simp [Xbh, Xe]
 | [], d :: ds, n + 1, s, p, hf, hd, h1, h2, h3 => by
  have hk := X1n (hd d (by simp)) (ds.flatMap (fun d => Yj d.raw) ++ sgT [125] :: p)
  have ih := Xxf [] ds n { s with depends := s.depends ++ [d] } p hf (fun x hx => hd x (by simp [hx])) h1 (by simp at h2 ⊢; omega) (by simp at h3 ⊢; omega)
  simp only [List.flatMap_nil, List.nil_append] at ih
  have hne : s.depends.length ≠ 8 := by simp at h2; omega
  have hh : ∃ q, Yj d.raw ++ (ds.flatMap (fun d => Yj d.raw) ++ sgT [125] :: p) = nmT [100, 101, 112, 101, 110, 100] :: q := ⟨_, rfl⟩
  obtain ⟨q, hq⟩ := hh
  simp only [List.flatMap_nil, List.nil_append, List.flatMap_cons, List.append_assoc]
  rw [Xbh, Xe]
  rw [hq] at hk ⊢
  simp [ifM, Xe, Wz, hne, hk, ih]
 | f :: fs, ds, n + 1, s, p, hf, hd, h1, h2, h3 => by
  have hk := X9i (hf f (by simp)) (fs.flatMap (fun f => fieldT f.raw) ++ (ds.flatMap (fun d => Yj d.raw) ++ sgT [125] :: p))
  have ih := Xxf fs ds n { s with fields := s.fields ++ [f] } p (fun x hx => hf x (by simp [hx])) hd (by simp at h1 ⊢; omega) h2 (by simp at h3 ⊢; omega)
  have hne : s.fields.length ≠ 12 := by simp at h1; omega
  have hh : ∃ q, fieldT f.raw ++ (fs.flatMap (fun f => fieldT f.raw) ++ (ds.flatMap (fun d => Yj d.raw) ++ sgT [125] :: p)) = nmT [102, 105, 101, 108, 100] :: q := ⟨_, rfl⟩
  obtain ⟨q, hq⟩ := hh
  simp only [List.flatMap_cons, List.append_assoc]
  rw [Xbh, Xe]
  rw [hq] at hk ⊢
  simp [ifM, Xe, Wz, hne, hk, ih]
theorem X2b (s : B) (p : List Tok) : Xbz (Ye s ++ p) = .ok s p := by simp [Ye, Xbz, Xe]
theorem Ycc {u : UnitT} (h : u.wf) (p : List Tok) : Xr5 (Zl u.raw ++ p) = .ok u p := by
 obtain ⟨n, o⟩ := u
 cases o with
 | none => simp [Zl, UnitT.raw, Xr5, Xe]
 | some x =>
  have h1 : x.2 ≠ [] := Xa8 h.of_.2
  have h2 : Zi 2 1000 x.1 := h.of_.1
  simp [Zl, UnitT.raw, h1, Xr5, Xe, Q3 h2]
theorem Z8 {α β : Type} (f : α → β) (g : β → List Tok) (l : List α) : (l.map f).flatMap g = l.flatMap fun x => g (f x) := by simp [List.flatMap_map]
theorem X03 {s : Schema} (h : s.wf) (p : List Tok) : Xcf (X1 s.raw ++ p) = .ok s p := by
 obtain ⟨a, b, v, fs, ds⟩ := s
 obtain ⟨h1, h2, h3, ⟨w, r, h4⟩, h5, h6, h7, h8⟩ := h
 simp only at h1 h2 h3 h4 h5 h6 h7 h8
 subst h4
 have hs := h6 ⟨[115, 101, 108, 102], .person, w⟩ (by simp)
 match w, hs.four, hs.weights with
 | [w1, w2, w3, w4], _, hw =>
  have hk := Xht (hw w1 (by simp)) (hw w2 (by simp)) (hw w3 (by simp)) (hw w4 (by simp))
  have hb := Xxf r ds 21 ⟨a, b, v, [⟨[115, 101, 108, 102], .person, [w1, w2, w3, w4]⟩], []⟩ p (fun f hf => h6 f (by simp [hf])) h8 (by simp at h5 ⊢; omega) (by simpa using h7) (by simp at h5; omega)
  simp [X1, Schema.raw, Xoi, Field.raw, Xcf, Xe, Q3 h3, hk, Z8]
  simpa [Field.raw] using hb
theorem Yes {r : Rule} (h : r.wf) (p : List Tok) : Xt1 (Z0 r.raw ++ p) = .ok r p := by
 obtain ⟨hd, fs, ws, ss⟩ := r
 obtain ⟨h1, h2, h3, h4, h5, h6, h7, h8⟩ := h
 simp only at h1 h2 h3 h4 h5 h6 h7 h8
 have begin_ : ∀ (l : List SetT), Xh 1 [102, 114, 111, 109] (l.flatMap (fun x => Xak x.raw) ++ sgT [125] :: p) = false ∧ Xh 1 [119, 104, 101, 114, 101] (l.flatMap (fun x => Xak x.raw) ++ sgT [125] :: p) = false := by
  intro l
  cases l with
  | nil => simp
  | cons x r => simp [Xak]
 have begin2 : ∀ (l : List Atom), Xh 1 [102, 114, 111, 109] (l.flatMap (fun x => X9 x.raw) ++ (ss.flatMap (fun x => Xak x.raw) ++ sgT [125] :: p)) = false := by
  intro l
  cases l with
  | nil => exact (begin_ ss).1
  | cons x r => simp [X9]
 have k3 := Xbx (c := Xh 1 [115, 101, 116]) (read := Xzo) (pr := fun x => Xak x.raw) (l := ss) (n := 11) (p := sgT [125] :: p) (fun x hx q => ⟨Yiq (h8 x hx) q, by simp [Xak]⟩) h7 (by simp)
 have k2 := Xbx (c := Xh 1 [119, 104, 101, 114, 101]) (read := U5) (pr := fun x => X9 x.raw) (l := ws) (n := 8) (p := ss.flatMap (fun x => Xak x.raw) ++ sgT [125] :: p) (fun x hx q => ⟨X72 (h6 x hx) q, by simp [X9]⟩) h5 (begin_ ss).2
 have k1 := Xbx (c := Xh 1 [102, 114, 111, 109]) (read := Xb0) (pr := fun x => Zq x.raw) (l := fs) (n := 3) (p := ws.flatMap (fun x => X9 x.raw) ++ (ss.flatMap (fun x => Xak x.raw) ++ sgT [125] :: p)) (fun x hx q => ⟨Ydr (h4 x hx) q, by simp [Zq]⟩) h3 (begin2 ws)
 have hb : Xh 1 [102, 114, 111, 109] (fs.flatMap (fun x => Zq x.raw) ++ (ws.flatMap (fun x => X9 x.raw) ++ (ss.flatMap (fun x => Xak x.raw) ++ sgT [125] :: p))) = true := by
  cases fs with
  | nil => exact absurd rfl h2
  | cons x r => simp [Zq]
 simp [Z0, Rule.raw, Xt1, Xe, Z8, ifM, hb, k1, k2, k3]
theorem Xu1 {c : Convert} (h : c.wf) (p : List Tok) : Q1 (Xw c.raw ++ p) = .ok c p := by
 obtain ⟨a, b, l⟩ := c
 have k1 := Xbx (c := Xh 1 []) (read := Xbd) (pr := fun x => Zv x.raw) (l := l) (n := 11) (p := sgT [125] :: p) (fun x hx q => ⟨Yct (h.moves x hx) q, by simp [Zv]⟩) h.few (by simp)
 simp [Xw, Convert.raw, Q1, Xe, Z8, k1]
theorem Xtz {c : Purpose} (h : c.wf) (p : List Tok) : Qu (Xz c.raw ++ p) = .ok c p := by
 obtain ⟨a, l, n⟩ := c
 have k1 := Xbx (c := Xh 1 [109, 97, 121]) (read := Xzr) (pr := fun x => Xg8 x.raw) (l := l) (n := 32) (p := nmT [109, 111, 115, 116] :: nuT n :: sgT [59] :: sgT [125] :: p) (fun x hx q => ⟨Yki x q, by simp [Xg8]⟩) h.few (by simp)
 have hn : Zi 0 32 n := h.most
 simp [Xz, Purpose.raw, Qu, Xe, Z8, k1, Q3 hn]
theorem Xb2 {α : Type} {pr : α → List Tok} {put : Src → List α → Src} {cnt : Src → Nat} {most : Nat} {body : M α}
  (hcnt : ∀ s l, cnt (put s l) = cnt s + l.length) (hput : ∀ s a l, put (put s [a]) l = put s (a :: l)) (hnil : ∀ s, put s [] = s)
  (hdef : ∀ s a q, pr a ++ q ≠ [] ∧ U1 s (pr a ++ q) = Xi8 (cnt s) most body (fun a => put s [a]) (pr a ++ q)) :
  ∀ (l : List α) (s : Src) (q : List Tok), (∀ a ∈ l, ∀ q, body (pr a ++ q) = .ok a q) → cnt s + l.length ≤ most → Ym (l.flatMap pr ++ q).length s (l.flatMap pr ++ q) = Ym q.length (put s l) q
 | [], s, q, _, _ => by simp [hnil]
 | a :: l, s, q, hb, hc => by
  have h1 := hb a (by simp) (l.flatMap pr ++ q)
  obtain ⟨hne, hd⟩ := hdef s a (l.flatMap pr ++ q)
  have ih := Xb2 hcnt hput hnil hdef l (put s [a]) q (fun x hx => hb x (by simp [hx])) (by rw [hcnt]; simp at hc ⊢; omega)
  rw [hput] at ih
  rw [List.flatMap_cons, List.append_assoc]
  have hn : cnt s ≠ most := by simp at hc; omega
  have hd2 : U1 s (pr a ++ (l.flatMap pr ++ q)) = .ok (put s [a]) (l.flatMap pr ++ q) := by
   rw [hd]; simp [Xi8, Xe, Wz, hn, h1]
  cases hx : pr a ++ (l.flatMap pr ++ q) with
  | nil => exact absurd hx hne
  | cons t r =>
   rw [hx] at hd2
   rw [List.length_cons, Zh, Xe, hd2]
   simp only
   have hlt := Xbl _ _ _ _ hd2
   simp only [List.length_cons] at hlt
   rw [Xck _ _ _ (by omega), ih]
theorem Xp4 (s : Src) (a : B) (q : List Tok) : Ye a ++ q ≠ [] ∧ U1 s (Ye a ++ q) = Qf s (Ye a ++ q) := by
 obtain ⟨r, hr⟩ : ∃ r, Ye a ++ q = nmT [105, 115, 115, 117, 101, 114] :: r := ⟨_, rfl⟩
 rw [hr]
 refine ⟨by simp, ?_⟩
 simp [U1, nmT, Xhn]
theorem Xwf {x : Src} (h : x.wf) (q : List Tok) : Ym (x.issuers.flatMap (Ye) ++ q).length ⟨[], [], [], [], [], []⟩ (x.issuers.flatMap (Ye) ++ q) = Ym q.length ⟨x.issuers, [], [], [], [], []⟩ q := by
 obtain ⟨⟨f1, f2, f3, f4, f5, f6⟩, w1, w2, w3, w4, w5, w6⟩ := h
 exact Xb2 (α := B) (pr := Ye) (put := fun s l => { s with issuers := s.issuers ++ l }) (cnt := fun s => s.issuers.length) (most := 8) (body := Xbz) (fun s l => List.length_append) (fun s a l => by simp only [List.append_assoc, List.singleton_append]) (fun s => by simp only [List.append_nil]) (fun s a q => ⟨(Xp4 s a q).1, by rw [(Xp4 s a q).2, Xh7]⟩) x.issuers ⟨[], [], [], [], [], []⟩ q (fun a ha q => X2b a q) (by simpa using f1)
theorem X36 (s : Src) (a : RUnit) (q : List Tok) : Zl a ++ q ≠ [] ∧ U1 s (Zl a ++ q) = Xln s (Zl a ++ q) := by
 obtain ⟨r, hr⟩ : ∃ r, Zl a ++ q = nmT [117, 110, 105, 116] :: r := ⟨_, rfl⟩
 rw [hr]
 refine ⟨by simp, ?_⟩
 simp [U1, nmT, Xhn]
theorem X6g {x : Src} (h : x.wf) (q : List Tok) : Ym (x.units.flatMap (fun u : UnitT => Zl u.raw) ++ q).length ⟨x.issuers, [], [], [], [], []⟩ (x.units.flatMap (fun u : UnitT => Zl u.raw) ++ q) = Ym q.length ⟨x.issuers, x.units, [], [], [], []⟩ q := by
 obtain ⟨⟨f1, f2, f3, f4, f5, f6⟩, w1, w2, w3, w4, w5, w6⟩ := h
 exact Xb2 (α := UnitT) (pr := fun u : UnitT => Zl u.raw) (put := fun s l => { s with units := s.units ++ l }) (cnt := fun s => s.units.length) (most := 16) (body := Xr5) (fun s l => List.length_append) (fun s a l => by simp only [List.append_assoc, List.singleton_append]) (fun s => by simp only [List.append_nil]) (fun s a q => ⟨(X36 s a.raw q).1, by rw [(X36 s a.raw q).2, Xsx]⟩) x.units ⟨x.issuers, [], [], [], [], []⟩ q (fun a ha q => Ycc (w2 a ha) q) (by simpa using f2)
theorem Xo6 (s : Src) (a : RSchema) (q : List Tok) : X1 a ++ q ≠ [] ∧ U1 s (X1 a ++ q) = Qq s (X1 a ++ q) := by
 obtain ⟨r, hr⟩ : ∃ r, X1 a ++ q = nmT [115, 99, 104, 101, 109, 97] :: r := ⟨_, rfl⟩
 rw [hr]
 refine ⟨by simp, ?_⟩
 simp [U1, nmT, Xhn]
theorem Xtn {x : Src} (h : x.wf) (q : List Tok) : Ym (x.schemas.flatMap (fun u : Schema => X1 u.raw) ++ q).length ⟨x.issuers, x.units, [], [], [], []⟩ (x.schemas.flatMap (fun u : Schema => X1 u.raw) ++ q) = Ym q.length ⟨x.issuers, x.units, x.schemas, [], [], []⟩ q := by
 obtain ⟨⟨f1, f2, f3, f4, f5, f6⟩, w1, w2, w3, w4, w5, w6⟩ := h
 exact Xb2 (α := Schema) (pr := fun u : Schema => X1 u.raw) (put := fun s l => { s with schemas := s.schemas ++ l }) (cnt := fun s => s.schemas.length) (most := 16) (body := Xcf) (fun s l => List.length_append) (fun s a l => by simp only [List.append_assoc, List.singleton_append]) (fun s => by simp only [List.append_nil]) (fun s a q => ⟨(Xo6 s a.raw q).1, by rw [(Xo6 s a.raw q).2, Xik]⟩) x.schemas ⟨x.issuers, x.units, [], [], [], []⟩ q (fun a ha q => X03 (w3 a ha) q) (by simpa using f3)
theorem X3m (s : Src) (a : RRule) (q : List Tok) : Z0 a ++ q ≠ [] ∧ U1 s (Z0 a ++ q) = Xjc s (Z0 a ++ q) := by
 obtain ⟨r, hr⟩ : ∃ r, Z0 a ++ q = nmT [100, 101, 114, 105, 118, 101] :: r := ⟨_, rfl⟩
 rw [hr]
 refine ⟨by simp, ?_⟩
 simp [U1, nmT, Xhn]
theorem X68 {x : Src} (h : x.wf) (q : List Tok) : Ym (x.rules.flatMap (fun u : Rule => Z0 u.raw) ++ q).length ⟨x.issuers, x.units, x.schemas, [], [], []⟩ (x.rules.flatMap (fun u : Rule => Z0 u.raw) ++ q) = Ym q.length ⟨x.issuers, x.units, x.schemas, x.rules, [], []⟩ q := by
 obtain ⟨⟨f1, f2, f3, f4, f5, f6⟩, w1, w2, w3, w4, w5, w6⟩ := h
 exact Xb2 (α := Rule) (pr := fun u : Rule => Z0 u.raw) (put := fun s l => { s with rules := s.rules ++ l }) (cnt := fun s => s.rules.length) (most := 16) (body := Xt1) (fun s l => List.length_append) (fun s a l => by simp only [List.append_assoc, List.singleton_append]) (fun s => by simp only [List.append_nil]) (fun s a q => ⟨(X3m s a.raw q).1, by rw [(X3m s a.raw q).2, Xtb]⟩) x.rules ⟨x.issuers, x.units, x.schemas, [], [], []⟩ q (fun a ha q => Yes (w4 a ha) q) (by simpa using f4)
theorem Xij (s : Src) (a : RConvert) (q : List Tok) : Xw a ++ q ≠ [] ∧ U1 s (Xw a ++ q) = Vw s (Xw a ++ q) := by
 obtain ⟨r, hr⟩ : ∃ r, Xw a ++ q = nmT [99, 111, 110, 118, 101, 114, 116] :: r := ⟨_, rfl⟩
 rw [hr]
 refine ⟨by simp, ?_⟩
 simp [U1, nmT, Xhn]
theorem Xqp {x : Src} (h : x.wf) (q : List Tok) : Ym (x.converts.flatMap (fun u : Convert => Xw u.raw) ++ q).length ⟨x.issuers, x.units, x.schemas, x.rules, [], []⟩ (x.converts.flatMap (fun u : Convert => Xw u.raw) ++ q) = Ym q.length ⟨x.issuers, x.units, x.schemas, x.rules, x.converts, []⟩ q := by
 obtain ⟨⟨f1, f2, f3, f4, f5, f6⟩, w1, w2, w3, w4, w5, w6⟩ := h
 exact Xb2 (α := Convert) (pr := fun u : Convert => Xw u.raw) (put := fun s l => { s with converts := s.converts ++ l }) (cnt := fun s => s.converts.length) (most := 16) (body := Q1) (fun s l => List.length_append) (fun s a l => by simp only [List.append_assoc, List.singleton_append]) (fun s => by simp only [List.append_nil]) (fun s a q => ⟨(Xij s a.raw q).1, by rw [(Xij s a.raw q).2, Xeb]⟩) x.converts ⟨x.issuers, x.units, x.schemas, x.rules, [], []⟩ q (fun a ha q => Xu1 (w5 a ha) q) (by simpa using f5)
theorem Xil (s : Src) (a : RPurpose) (q : List Tok) : Xz a ++ q ≠ [] ∧ U1 s (Xz a ++ q) = Vp s (Xz a ++ q) := by
 obtain ⟨r, hr⟩ : ∃ r, Xz a ++ q = nmT [112, 117, 114, 112, 111, 115, 101] :: r := ⟨_, rfl⟩
 rw [hr]
 refine ⟨by simp, ?_⟩
 simp [U1, nmT, Xhn]
theorem Xrl {x : Src} (h : x.wf) (q : List Tok) : Ym (x.purposes.flatMap (fun u : Purpose => Xz u.raw) ++ q).length ⟨x.issuers, x.units, x.schemas, x.rules, x.converts, []⟩ (x.purposes.flatMap (fun u : Purpose => Xz u.raw) ++ q) = Ym q.length ⟨x.issuers, x.units, x.schemas, x.rules, x.converts, x.purposes⟩ q := by
 obtain ⟨⟨f1, f2, f3, f4, f5, f6⟩, w1, w2, w3, w4, w5, w6⟩ := h
 exact Xb2 (α := Purpose) (pr := fun u : Purpose => Xz u.raw) (put := fun s l => { s with purposes := s.purposes ++ l }) (cnt := fun s => s.purposes.length) (most := 8) (body := Qu) (fun s l => List.length_append) (fun s a l => by simp only [List.append_assoc, List.singleton_append]) (fun s => by simp only [List.append_nil]) (fun s a q => ⟨(Xil s a.raw q).1, by rw [(Xil s a.raw q).2, Xeq]⟩) x.purposes ⟨x.issuers, x.units, x.schemas, x.rules, x.converts, []⟩ q (fun a ha q => Xtz (w6 a ha) q) (by simpa using f6)
theorem Ykb {x : Src} (h : x.wf) : U7 (Qr x.raw) = .ok x [] := by
 have e1 := Xwf h
 have e2 := X6g h
 have e3 := Xtn h
 have e4 := X68 h
 have e5 := Xqp h
 have e6 := Xrl h []
 rw [List.append_nil, Xep] at e6
 have e : Qr x.raw = x.issuers.flatMap Ye ++ (x.units.flatMap (fun u => Zl u.raw) ++ (x.schemas.flatMap (fun u => X1 u.raw) ++ (x.rules.flatMap (fun u => Z0 u.raw) ++ (x.converts.flatMap (fun u => Xw u.raw) ++ x.purposes.flatMap fun u => Xz u.raw)))) := by
  simp only [Qr, Src.raw, Z8, List.append_assoc]
 rw [U7, e]
 exact (e1 _).trans ((e2 _).trans ((e3 _).trans ((e4 _).trans ((e5 _).trans e6))))
end Go.Sx
/- Well-formed definitions can be printed; their text is read as they are. No program. -/
namespace Go.Sx
open Go Go.Ab Go.Lx
theorem Yk {lo hi n : Int} : inB lo hi n = true ↔ Zi lo hi n := by simp [inB, Zi]
theorem Xvs {t : Term} (h : t.wf) : termOK t.raw = true := by
 cases t with
 | num n =>
  have h1 : Zi 0 1048576 n := h
  simp [termOK, Term.raw, Yk.2 h1]
 | path a b =>
  have h1 : nameB a = true := h.1
  have h2 : nameB b = true := h.2
  simp [termOK, Term.raw, pathOK, h1, h2]
theorem Ycv {f : From} (h : f.wf) : fromOK f.raw = true := by
 obtain ⟨a, b, c⟩ := f
 have h1 : nameB a = true := h.name
 have h2 : nameB b = true := h.kind
 cases c with
 | none => simp [fromOK, From.raw, h1, h2]
 | some x =>
  have h3 : nameB x.1 = true := h.of_.1
  have h4 : nameB x.2 = true := h.of_.2
  simp [fromOK, From.raw, h1, h2, pathOK, h3, h4]
theorem Ycd {a : Atom} (h : a.wf) : atomOK a.raw = true := by simp [atomOK, Atom.raw, Yk.2 h.op, Xvs h.a, Xvs h.b]
theorem Ygp {a : SetT} (h : a.wf) : setOK a.raw = true := by
 have h1 : nameB a.path = true := h.path
 simp [setOK, SetT.raw, h1, Xvs h.term]
theorem Yau {a : Move} (h : a.wf) : moveOK a.raw = true := by
 have h1 : nameB a.to_ = true := h.to_
 have h2 : nameB a.from_ = true := h.from_
 simp [moveOK, Move.raw, h1, h2, Yk.2 h.shift]
theorem Yj3 {a : Ref} (h : a.wf) : mayOK a.raw = true := by
 have h1 : nameB a.name = true := h.name
 have h2 : nameB a.path = true := h.path
 simp [mayOK, Ref.raw, h1, h2]
theorem Xbc {α β : Type} {f : α → β} {b : β → Bool} {l : List α} {n : Nat} (hn : l.length ≤ n) (h : ∀ x ∈ l, b (f x) = true) : Y0 n b (l.map f) = true := by
 rw [Yn]
 refine ⟨by simpa using hn, fun y hy => ?_⟩
 obtain ⟨x, hx, rfl⟩ := List.mem_map.1 hy
 exact h x hx
theorem Xzb {l : List B} {n : Nat} (h : Xcy n l) : Y0 n nameB l = true ∧ 0 < l.length := by
 obtain ⟨h1, h2, h3⟩ := h
 refine ⟨Yn.2 ⟨h2, h3⟩, ?_⟩
 cases l with
 | nil => exact absurd rfl h1
 | cons a r => simp
theorem Ydg {t : TypeT} (h : t.wf) : typeOK t.raw = true := by
 cases t with
 | num lo hi o =>
  obtain ⟨a, b, c⟩ := h
  cases o with
  | none => simp [typeOK, TypeT.raw, Yk.2 a, Yk.2 b]
  | some s =>
   have hs : nameB s = true := c
   simp [typeOK, TypeT.raw, Yk.2 a, Yk.2 b, hs]
 | date => simp [typeOK, TypeT.raw]
 | person => simp [typeOK, TypeT.raw]
 | choice l =>
  have := Xzb h
  simp [typeOK, TypeT.raw, this.1, this.2]
theorem X8y {f : Field} (h : f.wf) : fieldOK f.raw = true := by
 obtain ⟨n, t, w⟩ := f
 have hn : nameB n = true := h.name
 have ht : typeOK t.raw = true := Ydg h.type
 match w, h.four, h.weights with
 | [a, b, c, d], _, hw =>
  simp [fieldOK, Field.raw, hn, ht, Y0, Yk.2 (hw a (by simp)), Yk.2 (hw b (by simp)), Yk.2 (hw c (by simp)), Yk.2 (hw d (by simp))]
theorem X1q {d : Depend} (h : d.wf) : dependOK d.raw = true := by
 have hn : nameB d.name = true := h.name
 have := Xzb h.names
 simp [dependOK, Depend.raw, hn, this.1, this.2]
theorem Ydp {u : UnitT} (h : u.wf) : unitOK u.raw = true := by
 obtain ⟨n, o⟩ := u
 have hn : nameB n = true := h.name
 cases o with
 | none => simp [unitOK, UnitT.raw, hn]
 | some x =>
  have h1 : x.2 ≠ [] := Xa8 h.of_.2
  have h2 : nameB x.2 = true := h.of_.2
  simp [unitOK, UnitT.raw, hn, h1, h2, Yk.2 h.of_.1]
theorem X20 {s : Schema} (h : s.wf) : schemaOK s.raw = true := by
 obtain ⟨h1, h2, h3, ⟨w, r, h4⟩, h5, h6, h7, h8⟩ := h
 have a1 : nameB s.name = true := h1
 have a2 : nameB s.by_ = true := h2
 have a3 : Y0 12 fieldOK (s.fields.map Field.raw) = true := Xbc h5 fun x hx => X8y (h6 x hx)
 have a4 : Y0 8 dependOK (s.depends.map Depend.raw) = true := Xbc h7 fun x hx => X1q (h8 x hx)
 have a5 : Qy (s.fields.map Field.raw) = true := by rw [h4]; simp [Qy, Field.raw, TypeT.raw]
 simp only [schemaOK, Schema.raw, a1, a2, Yk.2 h3, a3, a4, a5, Bool.and_self]
theorem Ybe {s : Rule} (h : s.wf) : ruleOK s.raw = true := by
 obtain ⟨h1, h2, h3, h4, h5, h6, h7, h8⟩ := h
 have a1 : nameB s.head = true := h1
 have a2 : Y0 3 fromOK (s.froms.map From.raw) = true := Xbc h3 fun x hx => Ycv (h4 x hx)
 have a3 : Y0 8 atomOK (s.wheres.map Atom.raw) = true := Xbc h5 fun x hx => Ycd (h6 x hx)
 have a4 : Y0 11 setOK (s.sets.map SetT.raw) = true := Xbc h7 fun x hx => Ygp (h8 x hx)
 have a5 : 0 < (s.froms.map From.raw).length := by
  cases hf : s.froms with
  | nil => exact absurd hf h2
  | cons a r => simp
 simp only [ruleOK, Rule.raw, a1, a2, a3, a4, a5, decide_true, Bool.and_self]
theorem Xsr {s : Convert} (h : s.wf) : convertOK s.raw = true := by
 obtain ⟨h1, h2, h3, h4⟩ := h
 have a1 : nameB s.from_ = true := h1
 have a2 : nameB s.to_ = true := h2
 have a3 : Y0 11 moveOK (s.moves.map Move.raw) = true := Xbc h3 fun x hx => Yau (h4 x hx)
 simp only [convertOK, Convert.raw, a1, a2, a3, Bool.and_self]
theorem Xuo {s : Purpose} (h : s.wf) : purposeOK s.raw = true := by
 obtain ⟨h1, h2, h3, h4⟩ := h
 have a1 : nameB s.name = true := h1
 have a3 : Y0 32 mayOK (s.may.map Ref.raw) = true := Xbc h2 fun x hx => Yj3 (h3 x hx)
 simp only [purposeOK, Purpose.raw, a1, a3, Yk.2 h4, Bool.and_self]
theorem Xa4 {x : Src} (h : x.wf) : printable x.raw = true := by
 obtain ⟨hf, w1, w2, w3, w4, w5, w6⟩ := h
 have a1 : Y0 8 nameB x.issuers = true := Yn.2 ⟨hf.issuers, w1⟩
 have a2 : Y0 16 unitOK (x.units.map UnitT.raw) = true := Xbc hf.units fun y hy => Ydp (w2 y hy)
 have a3 : Y0 16 schemaOK (x.schemas.map Schema.raw) = true := Xbc hf.schemas fun y hy => X20 (w3 y hy)
 have a4 : Y0 16 ruleOK (x.rules.map Rule.raw) = true := Xbc hf.rules fun y hy => Ybe (w4 y hy)
 have a5 : Y0 16 convertOK (x.converts.map Convert.raw) = true := Xbc hf.converts fun y hy => Xsr (w5 y hy)
 have a6 : Y0 8 purposeOK (x.purposes.map Purpose.raw) = true := Xbc hf.purposes fun y hy => Xuo (w6 y hy)
 simp only [printable, Src.raw, a1, a2, a3, a4, a5, a6, Bool.and_self]
def Vd (l : List Tok) : Prop := ∀ t ∈ l, validB t = true
theorem Vd.nil : Vd [] := fun _ h => by cases h
theorem Vd.cons {t : Tok} {l : List Tok} (h : validB t = true) (h' : Vd l) : Vd (t :: l) := fun u hu => by
 rcases List.mem_cons.1 hu with rfl | hu
 ·exact h
 ·exact h' u hu
theorem Vd.app {a b : List Tok} (h : Vd a) (h' : Vd b) : Vd (a ++ b) := fun u hu => by
 rcases List.mem_append.1 hu with hu | hu
 ·exact h u hu
 ·exact h' u hu
theorem Vd.flat {α : Type} {f : α → List Tok} {l : List α} (h : ∀ x ∈ l, Vd (f x)) : Vd (l.flatMap f) := fun u hu => by
 obtain ⟨x, hx, hu⟩ := List.mem_flatMap.1 hu
 exact h x hx u hu
theorem U6 {s : B} (h : nm s) : validB (nmT s) = true := by
 have : nameB s = true := h
 simp [validB, nmT, this]
theorem Xg7 {lo hi n : Int} (h : Zi lo hi n) (h0 : 0 ≤ lo) (h1 : hi ≤ 1099511627776) : validB (nuT n) = true := by
 unfold Zi at h
 have h2 : 0 ≤ n := by omega
 have h3 : n ≤ 1099511627776 := by omega
 simp [validB, nuT, h2, h3]
theorem Xmk {t : Term} (h : t.wf) : Vd (Ze t.raw) := by
 cases t with
 | num n =>
  have h1 : Zi 0 1048576 n := h
  simp only [Ze, Term.raw, if_true]
  exact .cons (Xg7 h1 (by decide) (by decide)) .nil
 | path a b =>
  have h1 : a ≠ [] := Xa8 h.1
  simp only [Ze, Term.raw, h1, if_false]
  exact .cons (U6 h.1) (.cons (by decide) (.cons (U6 h.2) .nil))
theorem Xgw : ∀ {l : List B}, (∀ s ∈ l, nm s) → Vd (Vf l)
 | [], _ => .nil
 | [a], h => .cons (U6 (h a (by simp))) .nil
 | a :: b :: r, h => .cons (U6 (h a (by simp))) (.cons (by decide) (Xgw fun s hs => h s (by simp at hs ⊢; exact .inr hs)))
theorem X73 {t : TypeT} (h : t.wf) : Vd (W8 t.raw) := by
 cases t with
 | num lo hi o =>
  obtain ⟨a, b, c⟩ := h
  cases o with
  | none =>
   simp [W8, TypeT.raw]
   exact .cons (by decide) (.cons (Xg7 a (by decide) (by decide)) (.cons (by decide) (.cons (Xg7 b (by decide) (by decide)) .nil)))
  | some s =>
   have h1 : s ≠ [] := Xa8 c
   simp [W8, TypeT.raw, h1]
   exact .cons (by decide) (.cons (Xg7 a (by decide) (by decide)) (.cons (by decide) (.cons (Xg7 b (by decide) (by decide)) (.cons (by decide) (.cons (U6 c) .nil)))))
 | date => exact .cons (by decide) .nil
 | person => exact .cons (by decide) .nil
 | choice l => exact .cons (by decide) (Xgw h.2.2)
theorem X19 {f : Field} (h : f.wf) : Vd (fieldT f.raw) := by
 obtain ⟨n, t, w⟩ := f
 match w, h.four, h.weights with
 | [a, b, c, d], _, hw =>
  exact .app (.app (.cons (by decide) (.cons (U6 h.name) (.cons (by decide) .nil))) (X73 h.type)) (.cons (Xg7 (hw a (by simp)) (by decide) (by decide)) (.cons (Xg7 (hw b (by simp)) (by decide) (by decide)) (.cons (Xg7 (hw c (by simp)) (by decide) (by decide)) (.cons (Xg7 (hw d (by simp)) (by decide) (by decide)) (.cons (by decide) .nil)))))
theorem Xw9 {d : Depend} (h : d.wf) : Vd (Yj d.raw) := .app (.cons (by decide) (Xgw h.names.2.2)) (.cons (by decide) (.cons (U6 h.name) (.cons (by decide) .nil)))
theorem Ykj (o : Int) : Vd (opT o) := by
 unfold opT
 (repeat' split)
 ·exact .cons (by decide) .nil
 ·exact .cons (by decide) .nil
 ·exact .cons (by decide) (.cons (by decide) .nil)
 ·exact .cons (by decide) (.cons (by decide) .nil)
 ·exact .nil
theorem X9k {f : From} (h : f.wf) : Vd (Zq f.raw) := by
 obtain ⟨a, b, c⟩ := f
 cases c with
 | none =>
  simp [Zq, From.raw]
  exact .cons (by decide) (.cons (U6 h.name) (.cons (U6 h.kind) (.cons (by decide) .nil)))
 | some x =>
  have h1 : x.1 ≠ [] := Xa8 h.of_.1
  simp [Zq, From.raw, h1, Ze]
  exact .cons (by decide) (.cons (U6 h.name) (.cons (U6 h.kind) (.cons (by decide) (.cons (U6 h.of_.1) (.cons (by decide) (.cons (U6 h.of_.2) (.cons (by decide) .nil)))))))
theorem X8z {m : Move} (h : m.wf) : Vd (Zv m.raw) := by
 obtain ⟨a, b, n⟩ := m
 have hn := h.shift
 unfold Zi at hn
 simp only at hn
 by_cases h1 : 0 < n
 ·simp [Zv, Move.raw, h1]
  exact .cons (U6 h.to_) (.cons (by decide) (.cons (U6 h.from_) (.cons (by decide) (.cons (Xg7 (lo := 0) (hi := 1048576) ⟨by omega, by omega⟩ (by decide) (by decide)) (.cons (by decide) .nil)))))
 by_cases h2 : n < 0
 ·simp [Zv, Move.raw, h1, h2]
  exact .cons (U6 h.to_) (.cons (by decide) (.cons (U6 h.from_) (.cons (by decide) (.cons (Xg7 (lo := 0) (hi := 1048576) ⟨by omega, by omega⟩ (by decide) (by decide)) (.cons (by decide) .nil)))))
 ·simp [Zv, Move.raw, h1, h2]
  exact .cons (U6 h.to_) (.cons (by decide) (.cons (U6 h.from_) (.cons (by decide) .nil)))
theorem Xyq {s : Schema} (h : s.wf) : Vd (X1 s.raw) := by
 obtain ⟨h1, h2, h3, ⟨w, r, h4⟩, h5, h6, h7, h8⟩ := h
 have hs := h6 ⟨[115, 101, 108, 102], .person, w⟩ (by rw [h4]; simp)
 match w, hs.four, hs.weights, h4 with
 | [w1, w2, w3, w4], _, hw, h4 =>
  have e1 : Xoi (s.fields.map Field.raw) = [nuT w1, nuT w2, nuT w3, nuT w4] := by rw [h4]; rfl
  have e2 : (s.fields.map Field.raw).tail = r.map Field.raw := by rw [h4]; rfl
  simp only [X1, Schema.raw, e1, e2, Z8]
  refine .app (.app (.app (.app (.app ?_ ?_) (.cons (by decide) .nil)) (.flat fun f hf => X19 (h6 f (by rw [h4]; simp [hf])))) (.flat fun d hd => Xw9 (h8 d hd))) (.cons (by decide) .nil)
  ·exact .cons (by decide) (.cons (U6 h1) (.cons (by decide) (.cons (U6 h2) (.cons (by decide) (.cons (Xg7 h3 (by decide) (by decide)) (.cons (by decide) .nil))))))
  ·exact .cons (Xg7 (hw w1 (by simp)) (by decide) (by decide)) (.cons (Xg7 (hw w2 (by simp)) (by decide) (by decide)) (.cons (Xg7 (hw w3 (by simp)) (by decide) (by decide)) (.cons (Xg7 (hw w4 (by simp)) (by decide) (by decide)) .nil)))
theorem X4c {x : Src} (h : x.wf) : Vd (Qr x.raw) := by
 obtain ⟨hf, w1, w2, w3, w4, w5, w6⟩ := h
 simp only [Qr, Src.raw, Z8]
 refine .app (.app (.app (.app (.app (.flat fun s hs => ?_) (.flat fun u hu => ?_)) (.flat fun s hs => Xyq (w3 s hs))) (.flat fun r hr => ?_)) (.flat fun c hc => ?_)) (.flat fun u hu => ?_)
 ·exact .cons (by decide) (.cons (U6 (w1 s hs)) (.cons (by decide) .nil))
 ·obtain ⟨n, o⟩ := u
  have hw := w2 _ hu
  cases o with
  | none =>
   simp [Zl, UnitT.raw]
   exact .cons (by decide) (.cons (U6 hw.name) (.cons (by decide) .nil))
  | some y =>
   have h1 : y.2 ≠ [] := Xa8 hw.of_.2
   simp [Zl, UnitT.raw, h1]
   exact .cons (by decide) (.cons (U6 hw.name) (.cons (by decide) (.cons (Xg7 hw.of_.1 (by decide) (by decide)) (.cons (U6 hw.of_.2) (.cons (by decide) .nil)))))
 ·have hw := w4 r hr
  simp only [Z0, Rule.raw, Z8]
  refine .app (.app (.app (.app (.cons (by decide) (.cons (U6 hw.head) (.cons (by decide) .nil))) (.flat fun f hf => X9k (hw.froms f hf))) (.flat fun a ha => ?_)) (.flat fun s hs => ?_)) (.cons (by decide) .nil)
  ·have ha' := hw.wheres a ha
   exact .app (.app (.app (.cons (by decide) (Xmk ha'.a)) (Ykj _)) (Xmk ha'.b)) (.cons (by decide) .nil)
  ·have hs' := hw.sets s hs
   exact .app (.app (.cons (by decide) (.cons (U6 hs'.path) (.cons (by decide) .nil))) (Xmk hs'.term)) (.cons (by decide) .nil)
 ·have hw := w5 c hc
  simp only [Xw, Convert.raw, Z8]
  exact .app (.app (.cons (by decide) (.cons (U6 hw.from_) (.cons (by decide) (.cons (U6 hw.to_) (.cons (by decide) .nil))))) (.flat fun m hm => X8z (hw.moves m hm))) (.cons (by decide) .nil)
 ·have hw := w6 u hu
  simp only [Xz, Purpose.raw, Z8]
  refine .app (.app (.cons (by decide) (.cons (U6 hw.name) (.cons (by decide) .nil))) (.flat fun m hm => ?_)) (.cons (by decide) (.cons (Xg7 hw.most (by decide) (by decide)) (.cons (by decide) (.cons (by decide) .nil))))
  have hm' := hw.may m hm
  exact .cons (by decide) (.cons (U6 hm'.name) (.cons (by decide) (.cons (U6 hm'.path) (.cons (by decide) .nil))))
def at0 (t : Tok) : Tok := { t with at_ := 0 }
theorem X23 : Mv at0 := fun _ => ⟨rfl, rfl, rfl⟩
theorem Xpt : ∀ {l m : List Tok}, Xez l m = true → l.map at0 = m.map at0
 | [], [], _ => rfl
 | [], _ :: _, h => by simp [Xez] at h
 | _ :: _, [], h => by simp [Xez] at h
 | s :: l, t :: m, h => by
  simp only [Xez, Bool.and_eq_true] at h
  have h2 := Xpt h.2
  have h1 : at0 s = at0 t := by
   have := h.1
   simp [X1j] at this
   obtain ⟨k, tx, n, a⟩ := s
   obtain ⟨k', tx', n', a'⟩ := t
   simp [at0] at this ⊢
   simp_all
  rw [List.map_cons, List.map_cons, h1, h2]
theorem Xrr {l m : List Tok} {x : Src} (hs : Xez l m = true) (h : U7 l = .ok x []) : U7 m = .ok x [] := by
 have e := Xpt hs
 have hl : l.length = m.length := by have := congrArg List.length e; simpa using this
 have h1 := (Uu l.length Yad).mv at0 X23 l
 have h2 := (Uu l.length Yad).mv at0 X23 m
 rw [e] at h1
 rw [h1] at h2
 unfold U7 at h ⊢
 rw [← hl]
 rw [h] at h2
 simp only [R.map, List.map_nil] at h2
 cases hm : Ym l.length Yad m with
 | ok y r =>
  rw [hm] at h2
  simp only [R.map, R.ok.injEq] at h2
  obtain ⟨rfl, hr⟩ := h2
  have : r = [] := by simpa using hr.symm
  rw [this]
 | err r e => rw [hm] at h2; simp [R.map] at h2
theorem Yfp {x : Src} (h : x.wf) : ∃ m, Qk (Yu (Qr x.raw)) 0 = .ok m ∧ U7 m = .ok x [] := by
 obtain ⟨m, h1, h2⟩ := Xdq (Qr x.raw) 0 (X4c h)
 exact ⟨m, h1, Xrr h2 (Ykb h)⟩
end Go.Sx
/- The abstract statements that stand for the code of these functions, written by a program from the translation; that they do is checked by the kernel. No condition. -/
namespace Go.Proofs.YtanpgmgkmfckaaaGreatDoor
open Go Go.Ab
set_option maxRecDepth 100000
def n4 : Nat := 0x48002048e2c0de02e1f8b04e2c206e2c178b0b0c1138f43001138f48001138f43e2c000b82e2c038b08003b41e2c2c3040e3d240040e3ddec000bb6b32b08d6ccec08b381cbdd2c04e381cbd041181072f45046041cbdc6c000bb0b2eb08003b6fb0b0c1bbd18006ef6db00003b6cb0b0c7b5e59551349140f38d30b2892071851030810160020092071850c11eb02a25e0671c09eb969a1ea0134e1411a97c70000801c61430459809409051940c30c30c318015e1ae0a11c18470219658e27a20493838de2800020c80020600de7c1b9d200bde2c301df4300077d700003b5b2c31001c000268401a103044641b9620080003d0ed60f0c05bd5d87005bd0c0016f550000ed50c0c455e1c00020801030434c04847813c700f4e545079004d38104645f1c00020c8002041b8378100008e10038108d24c04c38104635f0c000208320008102e0de0400022c400b0422890082ec08000208004102e000791080002
def ir4 : S := zS [] n4
theorem ok4 : Xv Tryz.prog 4 1 ir4 [.t 2] = true := by kernel_rfl
end Go.Proofs.YtanpgmgkmfckaaaGreatDoor
/- The same statements with their regions folded into expressions, printed by the fold itself; that they are that is checked by the kernel. No condition. -/
namespace Go.Proofs.YtanpgmgkmfckaaaGreatDoor
open Go Go.Ab
set_option maxRecDepth 100000
def lt4 : S2 := zL [] [] n4
def Et4 := by
 have h := Eq.refl lt4
 conv at h => rhs; cbv
 exact h
theorem lf4 : ir4.lift [] = some lt4 := by kernel_rfl
end Go.Proofs.YtanpgmgkmfckaaaGreatDoor
/- The law SyntaxAgain. Condition: the program is the seat's; its package variables are laid. -/
namespace Go.Sx
open Go Go.Ab Go.Lx
def Yrp : RSrc := ⟨[], [], [], [], [], []⟩
theorem zero_le : D.le Qo Yrp.enc := D.le.agg (.cons (D.le.nil _) (.cons (D.le.nil _) (.cons (D.le.nil _) (.cons (D.le.nil _) (.cons (D.le.nil _) (.cons (D.le.nil _) .nil))))))
theorem Xp0 {x : Src} (h : x.wf) : Un x.raw = .tup [.d (.str (Yu (Qr x.raw))), .d (.int .i64 0)] := by
 have hv : (Qr x.raw).all validB = true := by rw [List.all_eq_true]; exact X4c h
 simp [Un, Xa4 h, Xcg, hv]
theorem Xkq {x : Src} (h : x.wf) (hl : (Yu (Qr x.raw)).length ≤ 65536) : Xcc (Yu (Qr x.raw)) = .tup [.d x.enc, .d (.int .i64 0), .d (.int .i64 0)] := by
 obtain ⟨m, h1, h2⟩ := Yfp h
 rw [Xcc, if_neg (by omega), h1]
 simp only [h2]
 rfl
end Go.Sx
namespace Go.Proofs.YtanpgmgkmfckaaaGreatDoor
open Go Go.Ab Go.Lx Go.Sx
set_option maxRecDepth 100000
set_option maxHeartbeats 1000000
section
variable {P : Prg} (hP : P.p = Tryz.prog)
include hP
theorem Xk5 {x : Src} (hx : x.wf) {y : RSrc} (hy : y.bare = x.raw) {ob : Objs} {K : V → Prop} (h : K (.d (.bool true))) : PCall P 11 [.d x.enc, .d y.bareD] ob K := by
 have hb := y.bare_le
 rw [hy] at hb
 exact PCall.le (xs := [x.enc, y.bareD]) (ys := [x.raw.enc, x.raw.enc]) (.cons (Yay hx) (.cons hb .nil)) (Ya5 hP (Xou hx) h)
variable (hI : Ivl P) (hG : Pow P)
include hI hG
theorem Xq1 {x : Src} (hx : x.wf) {ob : Objs} {K : V → Prop} (h : K (.tup [.d (.str (Yu (Qr x.raw))), .d (.int .i64 0)])) : PCall P 13 [.d x.enc] ob K :=
 PCall.le (xs := [x.enc]) (ys := [x.raw.enc]) (.cons (Yay hx) .nil) (Xu2 hP hI hG x.raw (Xou hx) (by rw [Xp0 hx]; exact h))
end
end Go.Proofs.YtanpgmgkmfckaaaGreatDoor
/- The abstract statements that stand for the code of these functions, written by a program from the translation; that they do is checked by the kernel. No condition. -/
namespace Go.Proofs.YtanpgmgkmfckaaaGreatDoor
open Go Go.Ab
set_option maxRecDepth 100000
def X4f : Nat := 0x10090c10e0e6c29e083b5fe6c003260e5e0c0000243043ab9b047a9e6c8b9b000e8e6c127e6c001066e6c0410a5e6c939b03189023e6c0010411450820ed879b000c38b978b0002c508a1c37b9b0401ee490c111de6c6b9b0d0dce6c11be6c0010411450896f9785000082
def X30 : Nat := 0x10080c10cfe6c25e083b4ee6c00320fe5e0c0000203043679b04798e6c479b000d7e6c116e6c001055e6c104094e6c4f9b05188012e6c0010411040820ed439b000c347978b0002450881c3379b0400de480c110ce6c279b0d0cbe6c10ae6c0010411040882b9785000082
def X5h : Nat := 0x401c3043bb8b087820edb78b000c7bb87830000070c10c8e6c11e1f9b00e6c0031b9b04179b00041139b041020f9b02e6c145e64079b00043e5fff8b38e2c003fb8b04f78b00041f38b030c2ef8b3ae2c17de24e78b0007be1fdf8b30e2c003db8b04d78b00041d38b02082cf8b32e2c175e24c78b00073e1f1c4e5e0430c2e601fce1e0430fae201f4e1e0430c2083b6fe2c0030f0e1e6da6585d65534503ce34b2481c614351230a1020406c01c50861c3b38b0402ce070c112be2ca38b0d0eae2c129e2c0010410c3087a78785000082
def X40 : Nat := 0x401840c110ee2c1de083b4de2c00318ee1e0c00001840c1127e2c11e9b8b1be2c003978b04938b000418f8b020828b8b21e2c124e24838b000417f8b051427b8b1de2c1a0e24738b0005ee1f6b8b0fe2c003678b04638b000415f8b000025b8b15e2c118e24538b000414f8b051424b8b11e2c194e24438b00052e1f1a3e1e11fe1e04209de20197e1e113e1e0420820d0e1e69961759551245038c2ca2481851024cf3470c101a0051421070cce2c1003381840c114be2c138b0d0cae2c109e2c001048e2c145087e2c1b8b06184005e2c001041082086178789000082
def X29 : Nat := 0x401440c112cb067820edac00c5b1e0c00001440c1103e2c11e0b8b2eb000c1e2c100e2c001077b05142dac0410b5b34b0b185033b00041cac1040b1b30b0618402fb00041042082083b6db000c3b9e4000031420870ea100a85103045a62343a049c00419841029641861008c0041042082163789000082
def Xt7 : Nat := 0x401030435c57820ed5800c45de0c00012861030441841401840c11000ed0010000802851030441821401440c11000ed19e0400020801030438447a06400df11e00105d14509c6c618401a0010410820820ed6000c365e2c00020450801c35440151030445113434c4480041042082112785000082
def n12 : Nat := 0x4800206ce6c0de140f03b6be6c3830ece5e0c00020ca24304318a140243043003b400400020822880c10c62050080c10c00ed00100008204a1c30431861401c3043003b4878100008200a103043180140103043003b400400020800c109011e3cc0033843400410410422c428004104000b80800008004102e000791080002
def Ynx : S := zS [(zS [(zS [] X29), (zS [] X40)] Xt7), (zS [] X5h), (zS [] X30), (zS [] X4f)] n12
theorem Yvm : Xv Tryz.prog 12 1 Ynx [.t 2] = true := by kernel_rfl
end Go.Proofs.YtanpgmgkmfckaaaGreatDoor
/- The same statements with their regions folded into expressions, printed by the fold itself; that they are that is checked by the kernel. No condition. -/
namespace Go.Proofs.YtanpgmgkmfckaaaGreatDoor
open Go Go.Ab
set_option maxRecDepth 100000
def Xkr : S2 := zL [] [] X4f
def Xx8 := by
 have h := Eq.refl Xkr
 conv at h => rhs; cbv
 exact h
def Xkt : S2 := zL [] [] X30
def Xyc := by
 have h := Eq.refl Xkt
 conv at h => rhs; cbv
 exact h
def Xnk : S2 := zL [] [] X5h
def Xtp := by
 have h := Eq.refl Xnk
 conv at h => rhs; cbv
 exact h
def Xmn : S2 := zL [] [] X40
def Xv8 := by
 have h := Eq.refl Xmn
 conv at h => rhs; cbv
 exact h
def Xmu : S2 := zL [] [] X29
def Xxv := by
 have h := Eq.refl Xmu
 conv at h => rhs; cbv
 exact h
def Xkg : S2 := zL [] [Xmu, Xmn] Xt7
def Xy9 := by
 have h := fun (a b : S2) => Eq.refl (zL [] [a, b] Xt7)
 conv at h => intro a b; rhs; cbv
 have e : Xkg = _ := h Xmu Xmn
 exact e
def Ypv : S2 := zL [] [Xkg, Xnk, Xkt, Xkr] n12
def Yry := by
 have h := fun (a b c d : S2) => Eq.refl (zL [] [a, b, c, d] n12)
 conv at h => intro a b c d; rhs; cbv
 have e : Ypv = _ := h Xkg Xnk Xkt Xkr
 exact e
theorem Yuf : Ynx.lift [] = some Ypv := by kernel_rfl
end Go.Proofs.YtanpgmgkmfckaaaGreatDoor
/- Contract: whether a source has few definitions: some answer. Condition: the program is the seat's. -/
namespace Go.Proofs.YtanpgmgkmfckaaaGreatDoor
open Go Go.Ab Go.Lx Go.Sx
set_option maxRecDepth 100000
section
variable {P : Prg} (hP : P.p = Tryz.prog)
include hP
theorem Yhg {y : RSrc} (hy : y.small) {ob : Objs} {K : V → Prop} (h : ∀ b, K (.d (.bool b))) : PCall P 12 [.d y.enc] ob K := by
 have wr : ∀ {k n : Nat}, k < n → n ≤ 9223372036854775807 → IntKind.i64.wrap ((k : Int) + 1) = (k : Int) + 1 := fun h1 h2 => IntWalk.i64_in _ (by omega)
 refine pcall_lift hP mixed (ds := [y.enc]) Yvm Yuf TOk.nil ?_
 simp [Yry, RSrc.enc, Xf]
 refine ALoop.go (ι := Nat × Int) (fun i => [(1, .ptr 0 []), (3, .d (.int .i64 i.2)), (4, .d (.int .i64 i.1))]) (fun _ => [(0, .box 30 (.d y.enc))]) (fun i => i.1 ≤ y.schemas.length) (fun i => y.schemas.length - i.1) (0, IntKind.i64.wrap (y.issuers.length + y.units.length)) (by simp) (by simp) (by simp [RSrc.enc, Xf]) ?_
 rintro ⟨k, n⟩ hk R rn re rr rp
 simp only at hk
 by_cases hlt : k < y.schemas.length
 ·have hs := hy.schema y.schemas[k] (by simp)
  simp [Xy9, hlt, RSrc.enc, Xf, RSchema.enc]
  refine ALoop.go (ι := Nat × Int) (fun i => [(1, .ptr 0 []), (3, .d (.int .i64 i.2)), (4, .d (.int .i64 k)), (5, .d (.int .i64 i.1))]) (fun _ => [(0, .box 30 (.d y.enc))]) (fun i => i.1 ≤ y.schemas[k].fields.length) (fun i => y.schemas[k].fields.length - i.1) (0, _) (by simp) (by simp; rfl) (by simp [RSrc.enc, Xf, RSchema.enc]) ?_
  rintro ⟨j, n⟩ hj R' rn' re' rr' rp'
  simp only at hj
  by_cases hlj : j < y.schemas[k].fields.length
  ·simp [Xxv, hlt, hlj, RSrc.enc, Xf, RSchema.enc, RField.enc, RType.enc]
   refine rn' [] (j + 1, _) _ _ (by simp only; omega) (by simp only; omega) (by simp [wr hlj hs.fields]; rfl) (by simp [young, RSrc.enc, Xf, RSchema.enc]) (by simp [young]) (by simp [young])
  ·have : j = y.schemas[k].fields.length := by omega
   subst this
   simp [Xxv, hlt, RSrc.enc, Xf, RSchema.enc]
   refine re' _ _ _ ?_
   clear re' rr' rp' rn'
   simp [RSrc.enc, Xf]
   refine ALoop.go (ι := Nat × Int) (fun i => [(1, .ptr 0 []), (3, .d (.int .i64 i.2)), (4, .d (.int .i64 k)), (6, .d (.int .i64 i.1))]) (fun _ => [(0, .box 30 (.d y.enc))]) (fun i => i.1 ≤ y.schemas[k].depends.length) (fun i => y.schemas[k].depends.length - i.1) (0, n) (by simp) (by simp) (by simp [RSrc.enc, Xf, RSchema.enc]) ?_
   rintro ⟨j, n⟩ hj R' rn' re' rr' rp'
   simp only at hj
   by_cases hlj : j < y.schemas[k].depends.length
   ·simp [Xv8, hlt, hlj, RSrc.enc, Xf, RSchema.enc, RDepend.enc, Yb]
    refine rn' [] (j + 1, _) _ _ (by simp only; omega) (by simp only; omega) (by simp [wr hlj hs.depends]; rfl) (by simp [young, RSrc.enc, Xf, RSchema.enc]) (by simp [young]) (by simp [young])
   ·have : j = y.schemas[k].depends.length := by omega
    subst this
    simp [Xv8, hlt, RSrc.enc, Xf, RSchema.enc]
    refine re' _ _ _ ?_
    clear re' rr' rp' rn'
    simp
    refine rn [] (k + 1, n) _ _ (by simp only; omega) (by simp only; omega) (by simp [wr hlt hy.schemas]) (by simp [young, RSrc.enc, Xf]) (by simp [young]) (by simp [young])
 obtain rfl : k = y.schemas.length := by omega
 simp [Xy9, RSrc.enc, Xf]
 refine re _ _ _ ?_
 clear re rr rp rn
 simp
 refine ALoop.go (ι := Nat × Int) (fun i => [(1, .ptr 0 []), (3, .d (.int .i64 i.2)), (7, .d (.int .i64 i.1))]) (fun _ => [(0, .box 30 (.d y.enc))]) (fun i => i.1 ≤ y.rules.length) (fun i => y.rules.length - i.1) (0, n) (by simp) (by simp) (by simp [RSrc.enc, Xf]) ?_
 rintro ⟨k, n⟩ hk R rn re rr rp
 simp only at hk
 by_cases hlt : k < y.rules.length
 ·simp [Xtp, hlt, RSrc.enc, Xf, RRule.enc]
  refine rn [] (k + 1, _) _ _ (by simp only; omega) (by simp only; omega) (by simp [wr hlt hy.rules]; rfl) (by simp [young, RSrc.enc, Xf]) (by simp [young]) (by simp [young])
 obtain rfl : k = y.rules.length := by omega
 simp [Xtp, RSrc.enc, Xf]
 refine re _ _ _ ?_
 clear re rr rp rn
 simp
 refine ALoop.go (ι := Nat × Int) (fun i => [(1, .ptr 0 []), (3, .d (.int .i64 i.2)), (8, .d (.int .i64 i.1))]) (fun _ => [(0, .box 30 (.d y.enc))]) (fun i => i.1 ≤ y.converts.length) (fun i => y.converts.length - i.1) (0, n) (by simp) (by simp) (by simp [RSrc.enc, Xf]) ?_
 rintro ⟨k, n⟩ hk R rn re rr rp
 simp only at hk
 by_cases hlt : k < y.converts.length
 ·simp [Xyc, hlt, RSrc.enc, Xf, RConvert.enc]
  refine rn [] (k + 1, _) _ _ (by simp only; omega) (by simp only; omega) (by simp [wr hlt hy.converts]; rfl) (by simp [young, RSrc.enc, Xf]) (by simp [young]) (by simp [young])
 obtain rfl : k = y.converts.length := by omega
 simp [Xyc, RSrc.enc, Xf]
 refine re _ _ _ ?_
 clear re rr rp rn
 simp
 refine ALoop.go (ι := Nat × Int) (fun i => [(1, .ptr 0 []), (3, .d (.int .i64 i.2)), (9, .d (.int .i64 i.1))]) (fun _ => [(0, .box 30 (.d y.enc))]) (fun i => i.1 ≤ y.purposes.length) (fun i => y.purposes.length - i.1) (0, n) (by simp) (by simp) (by simp [RSrc.enc, Xf]) ?_
 rintro ⟨k, n⟩ hk R rn re rr rp
 simp only at hk
 by_cases hlt : k < y.purposes.length
 ·simp [Xx8, hlt, RSrc.enc, Xf, RPurpose.enc]
  refine rn [] (k + 1, _) _ _ (by simp only; omega) (by simp only; omega) (by simp [wr hlt hy.purposes]; rfl) (by simp [young, RSrc.enc, Xf]) (by simp [young]) (by simp [young])
 obtain rfl : k = y.purposes.length := by omega
 simp [Xx8, RSrc.enc, Xf]
 refine re _ _ _ ?_
 simp
 exact h _
end
end Go.Proofs.YtanpgmgkmfckaaaGreatDoor
/- A source that can be printed is one that is parsed, apart from numbers of names. No program. -/
namespace Go.Sx
open Go Go.Ab Go.Lx
theorem Zb {α β : Type} {wf : α → Prop} {raw : α → β} {bare : β → β} {T : β → List Tok} : ∀ {l : List β}, (∀ y ∈ l, ∃ x, wf x ∧ bare y = raw x ∧ T y = T (raw x)) →
  ∃ xs : List α, (∀ x ∈ xs, wf x) ∧ xs.length = l.length ∧ l.map bare = xs.map raw ∧ l.flatMap T = (xs.map raw).flatMap T
 | [], _ => ⟨[], by simp⟩
 | y :: r, h => by
  obtain ⟨x, h1, h2, h3⟩ := h y (by simp)
  obtain ⟨xs, g1, g0, g2, g3⟩ := Zb (l := r) fun z hz => h z (by simp [hz])
  refine ⟨x :: xs, ?_, by simp [g0], by simp [h2, g2], by simp [h3, g3]⟩
  intro z hz
  rcases List.mem_cons.1 hz with rfl | hz
  ·exact h1
  ·exact g1 z hz
theorem Xxz {y : RTerm} (h : termOK y = true) : ∃ x : Term, x.wf ∧ y.bare = x.raw ∧ Ze y = Ze x.raw := by
 obtain ⟨a, b, c, d, n⟩ := y
 simp only [termOK, pathOK, Bool.or_eq_true, Bool.and_eq_true, beq_iff_eq, Yk] at h
 rcases h with ⟨⟨rfl, rfl⟩, h⟩ | ⟨⟨h1, h2⟩, rfl⟩
 ·exact ⟨.num n, h, by simp [RTerm.bare, Term.raw], by simp [Ze, Term.raw]⟩
 ·have ha : a ≠ [] := Xa8 h1
  exact ⟨.path a b, ⟨h1, h2⟩, by simp [RTerm.bare, Term.raw, ha], by simp [Ze, Term.raw, ha]⟩
theorem Ydq {y : RFrom} (h : fromOK y = true) : ∃ x : From, x.wf ∧ y.bare = x.raw ∧ Zq y = Zq x.raw := by
 obtain ⟨a, b, c, d1, d2, d3, d4, d5⟩ := y
 simp only [fromOK, pathOK, Bool.or_eq_true, Bool.and_eq_true, beq_iff_eq] at h
 obtain ⟨⟨h1, h2⟩, ⟨⟨rfl, rfl⟩, rfl⟩ | ⟨⟨h3, h4⟩, rfl⟩⟩ := h
 ·exact ⟨⟨a, b, none⟩, ⟨h1, h2, trivial⟩, rfl, rfl⟩
 ·exact ⟨⟨a, b, some (d1, d2)⟩, ⟨h1, h2, h3, h4⟩, rfl, by simp [Zq, From.raw, Ze, Xa8 h3]⟩
theorem Yav {y : RAtom} (h : atomOK y = true) : ∃ x : Atom, x.wf ∧ y.bare = x.raw ∧ X9 y = X9 x.raw := by
 simp only [atomOK, Bool.and_eq_true, Yk] at h
 obtain ⟨⟨h1, h2⟩, h3⟩ := h
 obtain ⟨a, a1, a2, a3⟩ := Xxz h2
 obtain ⟨b, b1, b2, b3⟩ := Xxz h3
 exact ⟨⟨y.op, a, b⟩, ⟨h1, a1, b1⟩, by simp [RAtom.bare, Atom.raw, a2, b2], by simp [X9, Atom.raw, a3, b3]⟩
theorem Yij {y : RSet} (h : setOK y = true) : ∃ x : SetT, x.wf ∧ y.bare = x.raw ∧ Xak y = Xak x.raw := by
 simp only [setOK, Bool.and_eq_true] at h
 obtain ⟨a, a1, a2, a3⟩ := Xxz h.2
 exact ⟨⟨y.path, a⟩, ⟨h.1, a1⟩, by simp [RSet.bare, SetT.raw, a2], by simp [Xak, SetT.raw, a3]⟩
theorem Ydc {y : RMove} (h : moveOK y = true) : ∃ x : Move, x.wf ∧ y.bare = x.raw ∧ Zv y = Zv x.raw := by
 simp only [moveOK, Bool.and_eq_true, Yk] at h
 exact ⟨⟨y.to_, y.from_, y.shift⟩, ⟨h.1.1, h.1.2, h.2⟩, rfl, rfl⟩
theorem Yle {y : RRef} (h : mayOK y = true) : ∃ x : Ref, x.wf ∧ y.bare = x.raw ∧ Xg8 y = Xg8 x.raw := by
 simp only [mayOK, Bool.and_eq_true] at h
 exact ⟨⟨y.name, y.path⟩, ⟨h.1, h.2⟩, rfl, rfl⟩
theorem Yb5 {y : RUnit} (h : unitOK y = true) : ∃ x : UnitT, x.wf ∧ y.bare = x.raw ∧ Zl y = Zl x.raw := by
 obtain ⟨a, b, c, d, e⟩ := y
 unfold unitOK at h
 split at h
 ·rename_i hb
  simp only at hb
  subst hb
  simp only [Bool.and_eq_true, beq_iff_eq] at h
  obtain ⟨h1, rfl⟩ := h
  exact ⟨⟨a, none⟩, ⟨h1, trivial⟩, rfl, rfl⟩
 ·simp only [Bool.and_eq_true, Yk] at h
  exact ⟨⟨a, some (c, b)⟩, ⟨h.1.1, h.2, h.1.2⟩, rfl, rfl⟩
theorem Yc2 {y : RType} (h : typeOK y = true) : ∃ x : TypeT, x.wf ∧ { y with unit := 0 } = x.raw ∧ W8 y = W8 x.raw ∧ (y.kind = 3 → x = .person) := by
 obtain ⟨k, lo, hi, o, u, l⟩ := y
 unfold typeOK at h
 simp only at h
 split at h
 ·rename_i hk
  subst hk
  simp only [Bool.and_eq_true, Bool.or_eq_true, Yk, beq_iff_eq, List.length_eq_zero_iff] at h
  obtain ⟨⟨⟨h1, h2⟩, h3⟩, rfl⟩ := h
  by_cases ho : o = []
  ·subst ho
   exact ⟨.num lo hi none, ⟨h1, h2, trivial⟩, rfl, rfl, by simp⟩
  ·exact ⟨.num lo hi (some o), ⟨h1, h2, h3.resolve_left ho⟩, rfl, rfl, by simp⟩
 split at h
 ·cases h
 rename_i hk hlo
 have h0 : lo = 0 ∧ o = [] := ⟨Classical.byContradiction fun e => hlo (.inl e), Classical.byContradiction fun e => hlo (.inr e)⟩
 obtain ⟨rfl, rfl⟩ := h0
 split at h
 ·rename_i hk
  subst hk
  simp only [Bool.and_eq_true, beq_iff_eq, List.length_eq_zero_iff] at h
  obtain ⟨rfl, rfl⟩ := h
  exact ⟨.date, trivial, rfl, rfl, by simp⟩
 split at h
 ·rename_i hk
  subst hk
  simp only [Bool.and_eq_true, beq_iff_eq, List.length_eq_zero_iff] at h
  obtain ⟨rfl, rfl⟩ := h
  exact ⟨.person, trivial, rfl, rfl, by simp⟩
 split at h
 ·rename_i hk
  subst hk
  simp only [Bool.and_eq_true, beq_iff_eq, decide_eq_true_eq, Yn] at h
  obtain ⟨⟨h1, h2, h3⟩, rfl⟩ := h
  exact ⟨.choice l, ⟨fun e => by simp [e] at h1, h2, h3⟩, rfl, rfl, by simp⟩
 ·cases h
theorem Xvo {y : RField} (h : fieldOK y = true) : ∃ x : Field, x.wf ∧ y.bare = x.raw ∧ fieldT y = fieldT x.raw ∧ (y.type.kind = 3 → x = ⟨y.name, .person, [y.w0, y.w1, y.w2, y.w3]⟩) := by
 simp only [fieldOK, Bool.and_eq_true, Yn, List.mem_cons, List.not_mem_nil, or_false, forall_eq_or_imp, forall_eq, Yk] at h
 obtain ⟨⟨h1, h2⟩, _, h3, h4, h5, h6⟩ := h
 obtain ⟨t, t1, t2, t3, t4⟩ := Yc2 h2
 refine ⟨⟨y.name, t, [y.w0, y.w1, y.w2, y.w3]⟩, ⟨h1, t1, rfl, ?_⟩, ?_, ?_, fun e => by rw [t4 e]⟩
 ·simp [h3, h4, h5, h6]
 ·simp [RField.bare, Field.raw, t2]
 ·simp [fieldT, Field.raw, t3]
theorem X9c {l : List B} {n : Nat} (h0 : 0 < l.length) (h : Y0 n nameB l = true) : Xcy n l := by
 obtain ⟨h1, h2⟩ := Yn.1 h
 exact ⟨fun e => by simp [e] at h0, h1, h2⟩
theorem X0h {y : RDepend} (h : dependOK y = true) : ∃ x : Depend, x.wf ∧ y.bare = x.raw ∧ Yj y = Yj x.raw := by
 simp only [dependOK, Bool.and_eq_true, decide_eq_true_eq] at h
 exact ⟨⟨y.names, y.name⟩, ⟨X9c h.1.1 h.1.2, h.2⟩, rfl, rfl⟩
theorem X01 {y : RSchema} (h : schemaOK y = true) : ∃ x : Schema, x.wf ∧ y.bare = x.raw ∧ X1 y = X1 x.raw := by
 obtain ⟨a, b, c, v, fs, ds⟩ := y
 simp only [schemaOK, Bool.and_eq_true, Yn, Yk] at h
 obtain ⟨⟨⟨⟨⟨h1, h2⟩, h3⟩, h4⟩, h5, h6⟩, h7, h8⟩ := h
 cases fs with
 | nil => simp [Qy] at h4
 | cons f r =>
  simp only [Qy, Bool.and_eq_true, beq_iff_eq] at h4
  obtain ⟨x0, w0, b0, t0, e0⟩ := Xvo (h6 f (by simp))
  have e0 := e0 h4.2
  obtain ⟨xs, g1, g0, g2, g3⟩ := Zb (wf := Field.wf) (raw := Field.raw) (bare := RField.bare) (T := fieldT) (l := r) fun z hz => by
   obtain ⟨x, a1, a2, a3, _⟩ := Xvo (h6 z (by simp [hz])); exact ⟨x, a1, a2, a3⟩
  obtain ⟨ys, k1, k0, k2, k3⟩ := Zb (wf := Depend.wf) (raw := Depend.raw) (bare := RDepend.bare) (T := Yj) (l := ds) fun z hz => X0h (h8 z hz)
  refine ⟨⟨a, b, v, x0 :: xs, ys⟩, ⟨h1, h2, h3, ⟨_, _, by rw [e0, h4.1]⟩, by simpa [g0] using h5, ?_, by simpa [k0] using h7, k1⟩, ?_, ?_⟩
  ·intro z hz
   rcases List.mem_cons.1 hz with rfl | hz
   ·exact w0
   ·exact g1 z hz
  ·simp [RSchema.bare, Schema.raw, b0, g2, k2]
  ·simp [X1, Schema.raw, Xoi, g3, k3, e0, Field.raw]
theorem Yfz {y : RRule} (h : ruleOK y = true) : ∃ x : Rule, x.wf ∧ y.bare = x.raw ∧ Z0 y = Z0 x.raw := by
 simp only [ruleOK, Bool.and_eq_true, Yn, decide_eq_true_eq] at h
 obtain ⟨⟨⟨⟨h1, h0⟩, h2, h3⟩, h4, h5⟩, h6, h7⟩ := h
 obtain ⟨fs, f1, f0, f2, f3⟩ := Zb (wf := From.wf) (raw := From.raw) (bare := RFrom.bare) (T := Zq) fun z hz => Ydq (h3 z hz)
 obtain ⟨ws, w1, w0, w2, w3⟩ := Zb (wf := Atom.wf) (raw := Atom.raw) (bare := RAtom.bare) (T := X9) fun z hz => Yav (h5 z hz)
 obtain ⟨ss, s1, s0, s2, s3⟩ := Zb (wf := SetT.wf) (raw := SetT.raw) (bare := RSet.bare) (T := Xak) fun z hz => Yij (h7 z hz)
 refine ⟨⟨y.head, fs, ws, ss⟩, ⟨h1, ?_, by simpa [f0] using h2, f1, by simpa [w0] using h4, w1, by simpa [s0] using h6, s1⟩, ?_, ?_⟩
 ·intro e; rw [← f0] at h0; simp only at e; simp [e] at h0
 ·simp [RRule.bare, Rule.raw, f2, w2, s2]
 ·simp [Z0, Rule.raw, f3, w3, s3]
theorem Xwr {y : RConvert} (h : convertOK y = true) : ∃ x : Convert, x.wf ∧ y.bare = x.raw ∧ Xw y = Xw x.raw := by
 simp only [convertOK, Bool.and_eq_true, Yn] at h
 obtain ⟨⟨h1, h2⟩, h3, h4⟩ := h
 obtain ⟨fs, f1, f0, f2, f3⟩ := Zb (wf := Move.wf) (raw := Move.raw) (bare := RMove.bare) (T := Zv) fun z hz => Ydc (h4 z hz)
 exact ⟨⟨y.from_, y.to_, fs⟩, ⟨h1, h2, by simpa [f0] using h3, f1⟩, by simp [RConvert.bare, Convert.raw, f2], by simp [Xw, Convert.raw, f3]⟩
theorem Xt9 {y : RPurpose} (h : purposeOK y = true) : ∃ x : Purpose, x.wf ∧ y.bare = x.raw ∧ Xz y = Xz x.raw := by
 simp only [purposeOK, Bool.and_eq_true, Yn, Yk] at h
 obtain ⟨⟨h1, h2⟩, h3, h4⟩ := h
 obtain ⟨fs, f1, f0, f2, f3⟩ := Zb (wf := Ref.wf) (raw := Ref.raw) (bare := RRef.bare) (T := Xg8) fun z hz => Yle (h4 z hz)
 exact ⟨⟨y.name, fs, y.most⟩, ⟨h1, by simpa [f0] using h3, f1, h2⟩, by simp [RPurpose.bare, Purpose.raw, f2], by simp [Xz, Purpose.raw, f3]⟩
theorem Yic {y : RSrc} (h : printable y = true) : ∃ x : Src, x.wf ∧ y.bare = x.raw ∧ Qr y = Qr x.raw := by
 simp only [printable, Bool.and_eq_true, Yn] at h
 obtain ⟨⟨⟨⟨⟨⟨a1, a2⟩, b1, b2⟩, c1, c2⟩, d1, d2⟩, e1, e2⟩, f1, f2⟩ := h
 obtain ⟨bs, b3, b4, b5, b6⟩ := Zb (wf := UnitT.wf) (raw := UnitT.raw) (bare := RUnit.bare) (T := Zl) fun z hz => Yb5 (b2 z hz)
 obtain ⟨cs, c3, c4, c5, c6⟩ := Zb (wf := Schema.wf) (raw := Schema.raw) (bare := RSchema.bare) (T := X1) fun z hz => X01 (c2 z hz)
 obtain ⟨ds, d3, d4, d5, d6⟩ := Zb (wf := Rule.wf) (raw := Rule.raw) (bare := RRule.bare) (T := Z0) fun z hz => Yfz (d2 z hz)
 obtain ⟨es, e3, e4, e5, e6⟩ := Zb (wf := Convert.wf) (raw := Convert.raw) (bare := RConvert.bare) (T := Xw) fun z hz => Xwr (e2 z hz)
 obtain ⟨fs, f3, f4, f5, f6⟩ := Zb (wf := Purpose.wf) (raw := Purpose.raw) (bare := RPurpose.bare) (T := Xz) fun z hz => Xt9 (f2 z hz)
 refine ⟨⟨y.issuers, bs, cs, ds, es, fs⟩, ⟨⟨?_, ?_, ?_, ?_, ?_, ?_⟩, a2, b3, c3, d3, e3, f3⟩, ?_, ?_⟩
 ·simpa using a1
 ·simpa [b4] using b1
 ·simpa [c4] using c1
 ·simpa [d4] using d1
 ·simpa [e4] using e1
 ·simpa [f4] using f1
 ·simp [RSrc.bare, Src.raw, b5, c5, d5, e5, f5]
 ·simp [Qr, Src.raw, b6, c6, d6, e6, f6]
end Go.Sx
/- The law SyntaxBack. Condition: the program is the seat's; its package variables are laid. -/
namespace Go.Sx
open Go Go.Ab Go.Lx
theorem Xqd {y : RSrc} {x : Src} (hp : printable y = true) (h : x.wf) (hT : Qr y = Qr x.raw) : Un y = .tup [.d (.str (Yu (Qr x.raw))), .d (.int .i64 0)] := by
 rw [← Xp0 h, Un, Un, hT, if_pos hp, if_pos (Xa4 h)]
end Go.Sx
namespace Go.Proofs.YtanpgmgkmfckaaaGreatDoor
open Go Go.Ab Go.Lx Go.Sx
set_option maxRecDepth 100000
set_option maxHeartbeats 1000000
section
variable {P : Prg} (hP : P.p = Tryz.prog)
include hP
theorem Xl5 {y : RSrc} (hp : printable y = true) {ob : Objs} {K : V → Prop} (h : K (.d y.bareD)) : PCall P 14 [.d y.enc] ob K := by
 have b := Yb4 hp
 exact Xhi hP y (by have := b.units; omega) (by have := b.schemas; omega) (by have := b.rules; omega) (by have := b.converts; omega) (by have := b.purposes; omega)
  (fun s hs => by have := b.schema s hs; omega) (fun s hs => by have := b.rule s hs; omega) (fun s hs => by have := (b.convert s hs).1; omega) (fun s hs => by have := b.purpose s hs; omega) h
variable (hI : Ivl P) (hG : Pow P)
include hI hG
theorem p_SyntaxBack {y : RSrc} (hy : y.small) {ob : Objs} {K : V → Prop} (h : K (.d (.bool true))) : PCall P 4 [.d y.enc] ob K := by
 obtain ⟨ys, hys⟩ : ∃ ys, y.enc = D.agg ys := ⟨_, rfl⟩
 have cF : ∀ {ob : Objs} {K : V → Prop}, (∀ b, K (.d (.bool b))) → PCall P 12 [.d (.agg ys)] ob K := by rw [← hys]; exact Yhg hP hy
 have cP : ∀ {ob : Objs} {K : V → Prop}, K (Un y) → PCall P 13 [.d (.agg ys)] ob K := by rw [← hys]; exact Xu2 hP hI hG y hy
 have s0 : D.shapes ys = [.leaf, .leaf, .leaf, .leaf, .leaf, .leaf] := by
  have : y.enc.shape = .node [.leaf, .leaf, .leaf, .leaf, .leaf, .leaf] := by simp [RSrc.enc, D.shape, D.shapes, Xf]
  rw [hys] at this
  simpa [D.shape] using this
 have cU : printable y = true → ∀ {ob : Objs} {K : V → Prop}, K (.d y.bareD) → PCall P 14 [.d (.agg ys)] ob K := fun hp => by rw [← hys]; exact Xl5 hP hp
 rw [hys]
 refine pcall_lift hP mixed (ds := [.agg ys]) ok4 lf4 TOk.nil ?_
 simp [Et4]
 refine Yfu hP hI hG ?_
 simp [s0]
 refine cF fun b => ?_
 cases b with
 | false => simp; exact h
 | true =>
 simp [s0]
 refine cP ?_
 by_cases hp : printable y = true
 ·obtain ⟨x, wx, hb, hT⟩ := Yic hp
  rw [Xqd hp wx hT]
  by_cases hlen : (Yu (Qr x.raw)).length ≤ 65536
  ·have hlen' : ¬ (65536 : Int) < ((Yu (Qr x.raw)).length : Int) := by omega
   simp [hlen', s0]
   refine Xvv hP hI _ ?_
   rw [Xkq wx hlen]
   have s1 : x.enc.shape = .node [.leaf, .leaf, .leaf, .leaf, .leaf, .leaf] := by simp [Src.enc, D.shape, D.shapes, Xf]
   obtain ⟨xs, hxs⟩ : ∃ xs, x.enc = D.agg xs := ⟨_, rfl⟩
   have c1 : ∀ {ob : Objs} {K : V → Prop}, K (.tup [.d (.str (Yu (Qr x.raw))), .d (.int .i64 0)]) → PCall P 13 [.d (.agg xs)] ob K := by rw [← hxs]; exact Xq1 hP hI hG wx
   have c3 : ∀ {ob : Objs} {K : V → Prop}, K (.d (.bool true)) → PCall P 11 [.d (.agg xs), .d y.bareD] ob K := by rw [← hxs]; exact Xk5 hP wx hb
   rw [hxs] at s1 ⊢
   have s2 : D.shapes xs = [.leaf, .leaf, .leaf, .leaf, .leaf, .leaf] := by simpa [D.shape] using s1
   simp [s2, s0]
   refine c1 ?_
   simp [s2, s0]
   refine cU hp ?_
   try simp [s2, s0]
   refine c3 ?_
   simp
   exact h
  ·have hlen2 : (65536 : Int) < ((Yu (Qr x.raw)).length : Int) := by omega
   simp [hlen2]
   exact h
 ·rw [Un, if_neg hp]
  simp
  exact h
end
end Go.Proofs.YtanpgmgkmfckaaaGreatDoor
