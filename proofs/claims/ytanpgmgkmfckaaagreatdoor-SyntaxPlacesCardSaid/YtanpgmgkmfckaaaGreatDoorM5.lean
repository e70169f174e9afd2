/- Texts of this claim joined by a program, part 5 of 7; the last is: An evaluator of statements and functions, and that what it yields holds. Over any program; no condition. -/
import Derived.Test.YtanpgmgkmfckaaaGreatDoorM4
import Derived.Shelf.Strings.Builder1
import Derived.Shelf.Strconv.Itoa0
import Derived.Shelf.Strconv.Itoa1
import Derived.Shelf.LaysM
import Derived.Shelf.Strconv.Itoa2
import Derived.Shelf.Strconv.Itoa3
import Derived.Shelf.Strings.Search1
import Derived.Shelf.Strings.Search2
import Derived.Shelf.Strings.Search3
import Derived.Shelf.Strings.Shaped
import Derived.Test.YtanpgmgkmfckaaaGreatDoorProg
import Derived.KernelRfl
set_option linter.unusedSimpArgs false
set_option linter.unusedVariables false
set_option linter.unusedSectionVars false
/- Contracts: the definitions. Condition: the program is the seat's, and its intervals are laid. -/
namespace Go.Proofs.YtanpgmgkmfckaaaGreatDoor
open Go Go.Ab Go.Lx Go.Sx
set_option maxRecDepth 100000
theorem ifM_t {α β : Type} {c : List Tok → Bool} {a b : M α} {g : α → M β} {ts : List Tok} (h : c ts = true) : (ifM c a b >>= g) ts = (a >>= g) ts := by simp only [bind_eq, ifM, h, if_true]
theorem ifM_f {α β : Type} {c : List Tok → Bool} {a b : M α} {g : α → M β} {ts : List Tok} (h : c ts = false) : (ifM c a b >>= g) ts = (b >>= g) ts := by simp only [bind_eq, ifM, h, if_false, Bool.false_eq_true]
theorem bind_ok {α β : Type} {m : M α} {f : α → M β} {ts ts' : List Tok} {b : β} (h : (m >>= f) ts = .ok b ts') : ∃ a t1, m ts = .ok a t1 ∧ f a t1 = .ok b ts' := by
  rw [bind_eq] at h
  cases hm : m ts with
  | ok a t1 => rw [hm] at h; exact ⟨a, t1, rfl, h⟩
  | err a b => rw [hm] at h; cases h
theorem field_four {f : Sx.Field} {ts ts' : List Tok} (h : fieldM ts = .ok f ts') : ∃ a b c d, f.weights = [a, b, c, d] := by
  simp only [fieldM] at h
  obtain ⟨_, _, _, h⟩ := bind_ok h
  obtain ⟨_, _, _, h⟩ := bind_ok h
  obtain ⟨_, _, _, h⟩ := bind_ok h
  obtain ⟨_, _, _, h⟩ := bind_ok h
  obtain ⟨w, _, hw, h⟩ := bind_ok h
  obtain ⟨_, _, _, h⟩ := bind_ok h
  cases h
  exact weights_four hw
theorem field_shape {f : Sx.Field} {ts ts' : List Tok} (h : fieldM ts = .ok f ts') : f.enc.shape = .node [.leaf, .node [.leaf, .leaf, .leaf, .leaf, .leaf, .leaf], .node [.leaf, .leaf, .leaf, .leaf]] := by
  obtain ⟨a, b, c, d, e⟩ := field_four h
  simp [Field.enc, e, D.shape]
theorem depend_shape (d : Sx.Depend) : d.enc.shape = .node [.leaf, .leaf, .leaf, .leaf] := by simp [Depend.enc, strsD, D.shape]
section
variable {P : Prg} (hP : P.p = Tryz.prog) (hI : Ivl P) {ts : List Tok} {en : Int} {s : Src} (hs : Few s) {K : Out → Objs → Prop}
include hP hI hs
theorem y_schema (h : PS K en (schemaM s ts)) : ACall P 21 [.ptr 4 []] (stO en ts s) K := by
  refine acall_lift hP mixed ok21 lf21 TOk.nil fun _ hm => ?_
  simp [lt21, hI.factors, hI.editions, hI.mosts, hI.weights, hI.anyN, ↓ql, ↓qn, ↓qo, ↓qi, ↓qh, ↓qj, ↓qk, ↓qm, ↓zs, ↓zp, ↓zr, ↓zt, ↓zq, ↓zl, ↓zm, ↓zk, ↓zo, ↓zn, ↓qq, ↓qp, ↓qw, ↓qx, ↓zg, ↓qy, ↓qv, ↓qr, ↓zh, ↓qu, ↓qt, ↓qs, ↓qz, ↓zb, ↓za, ↓zd, ↓ze, ↓zf, ↓zw, ↓zu, ↓zy, ↓zx, ↓qb, ↓qa, ↓qd, ↓qc, ↓qe, ↓qg, ↓qf, ↓zj, ↓zi]
  refine y_room hP (S := srcV s) (by simp) (by simp) _ 16 (PS.bind h (fun ts' e h => ?_) (fun a ts' ha h => ?_))
  · simp
    exact leave_s (h s) (by simp) (by simp [young])
  simp [↓ql, ↓qn, ↓qo, ↓qi, ↓qh, ↓qj, ↓qk, ↓qm, ↓zs, ↓zp, ↓zr, ↓zt, ↓zq, ↓zl, ↓zm, ↓zk, ↓zo, ↓zn, ↓qq, ↓qp, ↓qw, ↓qx, ↓zg, ↓qy, ↓qv, ↓qr, ↓zh, ↓qu, ↓qt, ↓qs, ↓qz, ↓zb, ↓za, ↓zd, ↓ze, ↓zf, ↓zw, ↓zu, ↓zy, ↓zx, ↓qb, ↓qa, ↓qd, ↓qc, ↓qe, ↓qg, ↓qf, ↓zj, ↓zi, hI.factors, hI.editions, hI.mosts, hI.weights, hI.anyN, lt21_s16]
  refine y_word hP (S := srcV s) (by simp) (by simp) _ (PS.bind h (fun ts' e h => ?_) (fun a ts' ha h => ?_))
  · simp
    exact leave_s (h s) (by simp) (by simp [young])
  simp [↓ql, ↓qn, ↓qo, ↓qi, ↓qh, ↓qj, ↓qk, ↓qm, ↓zs, ↓zp, ↓zr, ↓zt, ↓zq, ↓zl, ↓zm, ↓zk, ↓zo, ↓zn, ↓qq, ↓qp, ↓qw, ↓qx, ↓zg, ↓qy, ↓qv, ↓qr, ↓zh, ↓qu, ↓qt, ↓qs, ↓qz, ↓zb, ↓za, ↓zd, ↓ze, ↓zf, ↓zw, ↓zu, ↓zy, ↓zx, ↓qb, ↓qa, ↓qd, ↓qc, ↓qe, ↓qg, ↓qf, ↓zj, ↓zi, hI.factors, hI.editions, hI.mosts, hI.weights, hI.anyN, lt21_s15]
  refine y_name hP (S := srcV s) (by simp) (by simp) (PS.bind h (fun ts' e h => ?_) (fun a ts' ha h => ?_))
  · simp
    exact leave_s (h s) (by simp) (by simp [young])
  simp [↓ql, ↓qn, ↓qo, ↓qi, ↓qh, ↓qj, ↓qk, ↓qm, ↓zs, ↓zp, ↓zr, ↓zt, ↓zq, ↓zl, ↓zm, ↓zk, ↓zo, ↓zn, ↓qq, ↓qp, ↓qw, ↓qx, ↓zg, ↓qy, ↓qv, ↓qr, ↓zh, ↓qu, ↓qt, ↓qs, ↓qz, ↓zb, ↓za, ↓zd, ↓ze, ↓zf, ↓zw, ↓zu, ↓zy, ↓zx, ↓qb, ↓qa, ↓qd, ↓qc, ↓qe, ↓qg, ↓qf, ↓zj, ↓zi, hI.factors, hI.editions, hI.mosts, hI.weights, hI.anyN, lt21_s14]
  refine y_word hP (S := srcV s) (by simp) (by simp) _ (PS.bind h (fun ts' e h => ?_) (fun a ts' ha h => ?_))
  · simp
    exact leave_s (h s) (by simp) (by simp [young])
  simp [↓ql, ↓qn, ↓qo, ↓qi, ↓qh, ↓qj, ↓qk, ↓qm, ↓zs, ↓zp, ↓zr, ↓zt, ↓zq, ↓zl, ↓zm, ↓zk, ↓zo, ↓zn, ↓qq, ↓qp, ↓qw, ↓qx, ↓zg, ↓qy, ↓qv, ↓qr, ↓zh, ↓qu, ↓qt, ↓qs, ↓qz, ↓zb, ↓za, ↓zd, ↓ze, ↓zf, ↓zw, ↓zu, ↓zy, ↓zx, ↓qb, ↓qa, ↓qd, ↓qc, ↓qe, ↓qg, ↓qf, ↓zj, ↓zi, hI.factors, hI.editions, hI.mosts, hI.weights, hI.anyN, lt21_s13]
  refine y_name hP (S := srcV s) (by simp) (by simp) (PS.bind h (fun ts' e h => ?_) (fun a ts' ha h => ?_))
  · simp
    exact leave_s (h s) (by simp) (by simp [young])
  simp [↓ql, ↓qn, ↓qo, ↓qi, ↓qh, ↓qj, ↓qk, ↓qm, ↓zs, ↓zp, ↓zr, ↓zt, ↓zq, ↓zl, ↓zm, ↓zk, ↓zo, ↓zn, ↓qq, ↓qp, ↓qw, ↓qx, ↓zg, ↓qy, ↓qv, ↓qr, ↓zh, ↓qu, ↓qt, ↓qs, ↓qz, ↓zb, ↓za, ↓zd, ↓ze, ↓zf, ↓zw, ↓zu, ↓zy, ↓zx, ↓qb, ↓qa, ↓qd, ↓qc, ↓qe, ↓qg, ↓qf, ↓zj, ↓zi, hI.factors, hI.editions, hI.mosts, hI.weights, hI.anyN, lt21_s12]
  refine y_word hP (S := srcV s) (by simp) (by simp) _ (PS.bind h (fun ts' e h => ?_) (fun a ts' ha h => ?_))
  · simp
    exact leave_s (h s) (by simp) (by simp [young])
  simp [↓ql, ↓qn, ↓qo, ↓qi, ↓qh, ↓qj, ↓qk, ↓qm, ↓zs, ↓zp, ↓zr, ↓zt, ↓zq, ↓zl, ↓zm, ↓zk, ↓zo, ↓zn, ↓qq, ↓qp, ↓qw, ↓qx, ↓zg, ↓qy, ↓qv, ↓qr, ↓zh, ↓qu, ↓qt, ↓qs, ↓qz, ↓zb, ↓za, ↓zd, ↓ze, ↓zf, ↓zw, ↓zu, ↓zy, ↓zx, ↓qb, ↓qa, ↓qd, ↓qc, ↓qe, ↓qg, ↓qf, ↓zj, ↓zi, hI.factors, hI.editions, hI.mosts, hI.weights, hI.anyN, lt21_s11]
  refine y_number hP (S := srcV s) (by simp) (by simp) _ _ (PS.bind h (fun ts' e h => ?_) (fun a ts' ha h => ?_))
  · simp
    exact leave_s (h s) (by simp) (by simp [young])
  simp [↓ql, ↓qn, ↓qo, ↓qi, ↓qh, ↓qj, ↓qk, ↓qm, ↓zs, ↓zp, ↓zr, ↓zt, ↓zq, ↓zl, ↓zm, ↓zk, ↓zo, ↓zn, ↓qq, ↓qp, ↓qw, ↓qx, ↓zg, ↓qy, ↓qv, ↓qr, ↓zh, ↓qu, ↓qt, ↓qs, ↓qz, ↓zb, ↓za, ↓zd, ↓ze, ↓zf, ↓zw, ↓zu, ↓zy, ↓zx, ↓qb, ↓qa, ↓qd, ↓qc, ↓qe, ↓qg, ↓qf, ↓zj, ↓zi, hI.factors, hI.editions, hI.mosts, hI.weights, hI.anyN, lt21_s10]
  refine y_word hP (S := srcV s) (by simp) (by simp) _ (PS.bind h (fun ts' e h => ?_) (fun a ts' ha h => ?_))
  · simp
    exact leave_s (h s) (by simp) (by simp [young])
  simp [↓ql, ↓qn, ↓qo, ↓qi, ↓qh, ↓qj, ↓qk, ↓qm, ↓zs, ↓zp, ↓zr, ↓zt, ↓zq, ↓zl, ↓zm, ↓zk, ↓zo, ↓zn, ↓qq, ↓qp, ↓qw, ↓qx, ↓zg, ↓qy, ↓qv, ↓qr, ↓zh, ↓qu, ↓qt, ↓qs, ↓qz, ↓zb, ↓za, ↓zd, ↓ze, ↓zf, ↓zw, ↓zu, ↓zy, ↓zx, ↓qb, ↓qa, ↓qd, ↓qc, ↓qe, ↓qg, ↓qf, ↓zj, ↓zi, hI.factors, hI.editions, hI.mosts, hI.weights, hI.anyN, lt21_s9]
  refine y_weights hP (S := srcV s) (by simp) (by simp) hI (PS.bind h (fun ts' e h => ?_) (fun a ts' ha h => ?_))
  · simp
    exact leave_s (h s) (by simp) (by simp [young])
  obtain ⟨w1, w2, w3, w4, rfl⟩ := weights_four ha
  simp [↓ql, ↓qn, ↓qo, ↓qi, ↓qh, ↓qj, ↓qk, ↓qm, ↓zs, ↓zp, ↓zr, ↓zt, ↓zq, ↓zl, ↓zm, ↓zk, ↓zo, ↓zn, ↓qq, ↓qp, ↓qw, ↓qx, ↓zg, ↓qy, ↓qv, ↓qr, ↓zh, ↓qu, ↓qt, ↓qs, ↓qz, ↓zb, ↓za, ↓zd, ↓ze, ↓zf, ↓zw, ↓zu, ↓zy, ↓zx, ↓qb, ↓qa, ↓qd, ↓qc, ↓qe, ↓qg, ↓qf, ↓zj, ↓zi, lt21_s8]
  refine y_sign hP (S := srcV s) (by simp) (by simp) _ (PS.bind h (fun ts' e h => ?_) (fun a ts' ha h => ?_))
  · simp
    exact leave_s (h s) (by simp) (by simp [young])
  simp [↓ql, ↓qn, ↓qo, ↓qi, ↓qh, ↓qj, ↓qk, ↓qm, ↓zs, ↓zp, ↓zr, ↓zt, ↓zq, ↓zl, ↓zm, ↓zk, ↓zo, ↓zn, ↓qq, ↓qp, ↓qw, ↓qx, ↓zg, ↓qy, ↓qv, ↓qr, ↓zh, ↓qu, ↓qt, ↓qs, ↓qz, ↓zb, ↓za, ↓zd, ↓ze, ↓zf, ↓zw, ↓zu, ↓zy, ↓zx, ↓qb, ↓qa, ↓qd, ↓qc, ↓qe, ↓qg, ↓qf, ↓zj, ↓zi, hI.factors, hI.editions, hI.mosts, hI.weights, hI.anyN, lt21_s7]
  have fin : ∀ (ts' : List Tok) (e : Int), (∀ s, K (.panic (.d (failD en ts' e))) (stO en ts' s)) → ∀ (o1 o2 o3 o4 : Ob), leaveK 11 (K (.panic (.d (failD en ts' e)))) [.d (failD en ts' e)] ((14, o1) :: (13, o2) :: (12, o3) :: (11, o4) :: stO en ts' s) := fun ts' e h o1 o2 o3 o4 => leave_s (h s) (by simp) (by simp [young])
  refine ALoop.go (ι := Schema × List Tok) (fun _ => [(0, .ptr 4 []), (2, .ptr 11 [])])
    (fun j => (14, .arr 96 4 (j.1.depends.map Depend.enc)) :: (13, .arr 93 11 (j.1.fields.map Field.enc)) :: (12, .box 93 (.d (Field.enc ⟨[115, 101, 108, 102], .person, [w1, w2, w3, w4]⟩))) :: (11, .box 79 (.agg [.d (.str j.1.name), .d (.str j.1.by_), .d (iD 0), .d (iD j.1.version), .sl 13 j.1.fields.length, .sl 14 j.1.depends.length])) :: stO en j.2 s)
    (fun j => 1 ≤ j.1.fields.length ∧ j.1.fields.length ≤ 12 ∧ j.1.depends.length ≤ 8 ∧ PS K en ((bodyM (22 - (j.1.fields.length + j.1.depends.length)) j.1 >>= fun x => pure { s with schemas := s.schemas ++ [x] }) j.2)) (fun j => 20 - (j.1.fields.length + j.1.depends.length)) (⟨_, _, _, [⟨_, _, _⟩], []⟩, _) ⟨by simp, by simp, by simp, h⟩ (by simp) (by simp [Field.enc, TypeT.enc]) ?_
  clear h
  rintro ⟨x, ts1⟩ ⟨hf0, hf, hd, h⟩ R rn re rr rp
  dsimp only at hf0 hf hd h rn
  obtain ⟨n, hn⟩ : ∃ n, 22 - (x.fields.length + x.depends.length) = n + 1 := ⟨21 - (x.fields.length + x.depends.length), by omega⟩
  rw [hn, bodyM, massoc] at h
  simp [↓ql, ↓qn, ↓qo, ↓qi, ↓qh, ↓qj, ↓qk, ↓qm, ↓zs, ↓zp, ↓zr, ↓zt, ↓zq, ↓zl, ↓zm, ↓zk, ↓zo, ↓zn, ↓qq, ↓qp, ↓qw, ↓qx, ↓zg, ↓qy, ↓qv, ↓qr, ↓zh, ↓qu, ↓qt, ↓qs, ↓qz, ↓zb, ↓za, ↓zd, ↓ze, ↓zf, ↓zw, ↓zu, ↓zy, ↓zx, ↓qb, ↓qa, ↓qd, ↓qc, ↓qe, ↓qg, ↓qf, ↓zj, ↓zi, lt21_l6]
  refine y_accept hP (S := srcV s) (by simp) (by simp) _ _ (PS.bind h (fun ts' e h => ?_) (fun a ts' ha h => ?_))
  · simp
    refine rp _ _ _ ?_
    simp
    exact fin _ _ h _ _ _ _
  cases a with
  | true =>
    simp only [if_true, mpure] at h
    simp [↓ql, ↓qn, ↓qo, ↓qi, ↓qh, ↓qj, ↓qk, ↓qm, ↓zs, ↓zp, ↓zr, ↓zt, ↓zq, ↓zl, ↓zm, ↓zk, ↓zo, ↓zn, ↓qq, ↓qp, ↓qw, ↓qx, ↓zg, ↓qy, ↓qv, ↓qr, ↓zh, ↓qu, ↓qt, ↓qs, ↓qz, ↓zb, ↓za, ↓zd, ↓ze, ↓zf, ↓zw, ↓zu, ↓zy, ↓zx, ↓qb, ↓qa, ↓qd, ↓qc, ↓qe, ↓qg, ↓qf, ↓zj, ↓zi, lt21_s4]
    refine re _ _ _ ?_
    simp [↓ql, ↓qn, ↓qo, ↓qi, ↓qh, ↓qj, ↓qk, ↓qm, ↓zs, ↓zp, ↓zr, ↓zt, ↓zq, ↓zl, ↓zm, ↓zk, ↓zo, ↓zn, ↓qq, ↓qp, ↓qw, ↓qx, ↓zg, ↓qy, ↓qv, ↓qr, ↓zh, ↓qu, ↓qt, ↓qs, ↓qz, ↓zb, ↓za, ↓zd, ↓ze, ↓zf, ↓zw, ↓zu, ↓zy, ↓zx, ↓qb, ↓qa, ↓qd, ↓qc, ↓qe, ↓qg, ↓qf, ↓zj, ↓zi]
    exact ⟨by have := hs.schemas; omega, leave_s (s := { s with schemas := s.schemas ++ [x] }) h (by simp) (by simp [young]; rfl)⟩
  | false =>
    simp only [Bool.false_eq_true, if_false] at h
    simp [↓ql, ↓qn, ↓qo, ↓qi, ↓qh, ↓qj, ↓qk, ↓qm, ↓zs, ↓zp, ↓zr, ↓zt, ↓zq, ↓zl, ↓zm, ↓zk, ↓zo, ↓zn, ↓qq, ↓qp, ↓qw, ↓qx, ↓zg, ↓qy, ↓qv, ↓qr, ↓zh, ↓qu, ↓qt, ↓qs, ↓qz, ↓zb, ↓za, ↓zd, ↓ze, ↓zf, ↓zw, ↓zu, ↓zy, ↓zx, ↓qb, ↓qa, ↓qd, ↓qc, ↓qe, ↓qg, ↓qf, ↓zj, ↓zi, lt21_s4, lt21_s5]
    refine y_next hP (S := srcV s) (ts := ts') (en := en) (by simp) (by simp) _ _ ?_
    cases hn1 : nextB 1 [102, 105, 101, 108, 100] ts' with
    | true =>
      rw [ifM_t hn1, massoc] at h
      simp [↓ql, ↓qn, ↓qo, ↓qi, ↓qh, ↓qj, ↓qk, ↓qm, ↓zs, ↓zp, ↓zr, ↓zt, ↓zq, ↓zl, ↓zm, ↓zk, ↓zo, ↓zn, ↓qq, ↓qp, ↓qw, ↓qx, ↓zg, ↓qy, ↓qv, ↓qr, ↓zh, ↓qu, ↓qt, ↓qs, ↓qz, ↓zb, ↓za, ↓zd, ↓ze, ↓zf, ↓zw, ↓zu, ↓zy, ↓zx, ↓qb, ↓qa, ↓qd, ↓qc, ↓qe, ↓qg, ↓qf, ↓zj, ↓zi, lt21_s3]
      refine y_room hP (S := srcV s) (by simp) (by simp) _ 12 (PS.bind h (fun ts' e h => ?_) (fun a ts' ha h => ?_))
      · simp
        refine rp _ _ _ ?_
        simp
        exact fin _ _ h _ _ _ _
      have hlt : x.fields.length < 12 := by
        simp only [roomM] at ha
        split at ha
        · cases ha
        · omega
      rw [massoc] at h
      simp [↓ql, ↓qn, ↓qo, ↓qi, ↓qh, ↓qj, ↓qk, ↓qm, ↓zs, ↓zp, ↓zr, ↓zt, ↓zq, ↓zl, ↓zm, ↓zk, ↓zo, ↓zn, ↓qq, ↓qp, ↓qw, ↓qx, ↓zg, ↓qy, ↓qv, ↓qr, ↓zh, ↓qu, ↓qt, ↓qs, ↓qz, ↓zb, ↓za, ↓zd, ↓ze, ↓zf, ↓zw, ↓zu, ↓zy, ↓zx, ↓qb, ↓qa, ↓qd, ↓qc, ↓qe, ↓qg, ↓qf, ↓zj, ↓zi, lt21_s0]
      refine ⟨?_, ?_⟩
      all_goals
        refine y_field hP (S := srcV s) (by simp) (by simp) hI (PS.bind h (fun ts' e h => ?_) (fun a ts' ha h => ?_))
        · simp
          refine rp _ _ _ ?_
          simp
          exact fin _ _ h _ _ _ _
        have hsh := field_shape ha
        simp [↓ql, ↓qn, ↓qo, ↓qi, ↓qh, ↓qj, ↓qk, ↓qm, ↓zs, ↓zp, ↓zr, ↓zt, ↓zq, ↓zl, ↓zm, ↓zk, ↓zo, ↓zn, ↓qq, ↓qp, ↓qw, ↓qx, ↓zg, ↓qy, ↓qv, ↓qr, ↓zh, ↓qu, ↓qt, ↓qs, ↓qz, ↓zb, ↓za, ↓zd, ↓ze, ↓zf, ↓zw, ↓zu, ↓zy, ↓zx, ↓qb, ↓qa, ↓qd, ↓qc, ↓qe, ↓qg, ↓qf, ↓zj, ↓zi, hsh]
        refine ⟨by omega, ?_⟩
        refine rn [] ({ x with fields := x.fields ++ [a] }, ts') _ _ ⟨by first | exact hf0 | simp, by simp; omega, by simp; omega, ?_⟩ (by simp; omega) (by simp) (by simp [young]) (by simp [young]) (by simp [young, mensE])
        simp only [List.length_append, List.length_singleton]
        rw [show 22 - (x.fields.length + 1 + x.depends.length) = n by omega]
        exact h
    | false =>
      rw [ifM_f hn1] at h
      simp [↓ql, ↓qn, ↓qo, ↓qi, ↓qh, ↓qj, ↓qk, ↓qm, ↓zs, ↓zp, ↓zr, ↓zt, ↓zq, ↓zl, ↓zm, ↓zk, ↓zo, ↓zn, ↓qq, ↓qp, ↓qw, ↓qx, ↓zg, ↓qy, ↓qv, ↓qr, ↓zh, ↓qu, ↓qt, ↓qs, ↓qz, ↓zb, ↓za, ↓zd, ↓ze, ↓zf, ↓zw, ↓zu, ↓zy, ↓zx, ↓qb, ↓qa, ↓qd, ↓qc, ↓qe, ↓qg, ↓qf, ↓zj, ↓zi, lt21_s3]
      refine y_next hP (S := srcV s) (ts := ts') (en := en) (by simp) (by simp) _ _ ?_
      cases hn2 : nextB 1 [100, 101, 112, 101, 110, 100] ts' with
      | false =>
        rw [ifM_f hn2] at h
        simp [↓ql, ↓qn, ↓qo, ↓qi, ↓qh, ↓qj, ↓qk, ↓qm, ↓zs, ↓zp, ↓zr, ↓zt, ↓zq, ↓zl, ↓zm, ↓zk, ↓zo, ↓zn, ↓qq, ↓qp, ↓qw, ↓qx, ↓zg, ↓qy, ↓qv, ↓qr, ↓zh, ↓qu, ↓qt, ↓qs, ↓qz, ↓zb, ↓za, ↓zd, ↓ze, ↓zf, ↓zw, ↓zu, ↓zy, ↓zx, ↓qb, ↓qa, ↓qd, ↓qc, ↓qe, ↓qg, ↓qf, ↓zj, ↓zi, lt21_s2]
        refine y_fail hP (S := srcV s) (ts := ts') (en := en) (by simp) (by simp) _ ?_
        simp
        refine rp _ _ _ ?_
        simp
        exact fin _ _ h _ _ _ _
      | true =>
        rw [ifM_t hn2, massoc] at h
        simp [↓ql, ↓qn, ↓qo, ↓qi, ↓qh, ↓qj, ↓qk, ↓qm, ↓zs, ↓zp, ↓zr, ↓zt, ↓zq, ↓zl, ↓zm, ↓zk, ↓zo, ↓zn, ↓qq, ↓qp, ↓qw, ↓qx, ↓zg, ↓qy, ↓qv, ↓qr, ↓zh, ↓qu, ↓qt, ↓qs, ↓qz, ↓zb, ↓za, ↓zd, ↓ze, ↓zf, ↓zw, ↓zu, ↓zy, ↓zx, ↓qb, ↓qa, ↓qd, ↓qc, ↓qe, ↓qg, ↓qf, ↓zj, ↓zi, lt21_s2]
        refine y_room hP (S := srcV s) (by simp) (by simp) _ 8 (PS.bind h (fun ts' e h => ?_) (fun a ts' ha h => ?_))
        · simp
          refine rp _ _ _ ?_
          simp
          exact fin _ _ h _ _ _ _
        have hlt : x.depends.length < 8 := by
          simp only [roomM] at ha
          split at ha
          · cases ha
          · omega
        rw [massoc] at h
        simp [↓ql, ↓qn, ↓qo, ↓qi, ↓qh, ↓qj, ↓qk, ↓qm, ↓zs, ↓zp, ↓zr, ↓zt, ↓zq, ↓zl, ↓zm, ↓zk, ↓zo, ↓zn, ↓qq, ↓qp, ↓qw, ↓qx, ↓zg, ↓qy, ↓qv, ↓qr, ↓zh, ↓qu, ↓qt, ↓qs, ↓qz, ↓zb, ↓za, ↓zd, ↓ze, ↓zf, ↓zw, ↓zu, ↓zy, ↓zx, ↓qb, ↓qa, ↓qd, ↓qc, ↓qe, ↓qg, ↓qf, ↓zj, ↓zi, lt21_s1]
        refine ⟨?_, ?_⟩
        all_goals
          refine y_depend hP (S := srcV s) (by simp) (by simp) (PS.bind h (fun ts' e h => ?_) (fun a ts' ha h => ?_))
          · simp
            refine rp _ _ _ ?_
            simp
            exact fin _ _ h _ _ _ _
          have hsh := depend_shape a
          simp [↓ql, ↓qn, ↓qo, ↓qi, ↓qh, ↓qj, ↓qk, ↓qm, ↓zs, ↓zp, ↓zr, ↓zt, ↓zq, ↓zl, ↓zm, ↓zk, ↓zo, ↓zn, ↓qq, ↓qp, ↓qw, ↓qx, ↓zg, ↓qy, ↓qv, ↓qr, ↓zh, ↓qu, ↓qt, ↓qs, ↓qz, ↓zb, ↓za, ↓zd, ↓ze, ↓zf, ↓zw, ↓zu, ↓zy, ↓zx, ↓qb, ↓qa, ↓qd, ↓qc, ↓qe, ↓qg, ↓qf, ↓zj, ↓zi, hsh]
          refine ⟨by omega, ?_⟩
          refine rn [] ({ x with depends := x.depends ++ [a] }, ts') _ _ ⟨by first | exact hf0 | simp, by simp; omega, by simp; omega, ?_⟩ (by simp; omega) (by simp) (by simp [young]) (by simp [young]) (by simp [young, mensE])
          simp only [List.length_append, List.length_singleton]
          rw [show 22 - (x.fields.length + (x.depends.length + 1)) = n by omega]
          exact h
end
end Go.Proofs.YtanpgmgkmfckaaaGreatDoor
/- Plain laws of the parser of sources: what it reads is at the front; a source cut where it failed fails at its end alone. No program. -/
namespace Go.Sx
open Go Go.Ab Go.Lx
def R.rest {α : Type} : R α → List Tok
  | .ok _ r => r
  | .err r _ => r
def R.End {α : Type} : R α → Prop
  | .ok _ r => r = []
  | .err r _ => r = []
def R.map {α : Type} (g : Tok → Tok) : R α → R α
  | .ok a r => .ok a (r.map g)
  | .err r e => .err (r.map g) e
def LocAt {α : Type} (m : M α) (pre post : List Tok) : Prop := match m (pre ++ post) with
  | .ok a r => (∃ mid, r = mid ++ post ∧ m pre = .ok a mid) ∨ (r.length < post.length ∧ (m pre).End)
  | .err r e => (∃ mid, mid ≠ [] ∧ r = mid ++ post ∧ m pre = .err mid e) ∨ (r.length ≤ post.length ∧ (m pre).End)
def Mv (g : Tok → Tok) : Prop := ∀ t, (g t).kind = t.kind ∧ (g t).text = t.text ∧ (g t).n = t.n
structure Good {α : Type} (m : M α) : Prop where
  sfx : ∀ ts, (m ts).rest <:+ ts
  loc : ∀ pre post, LocAt m pre post
  mv : ∀ g, Mv g → ∀ ts, m (ts.map g) = (m ts).map g
def Eats {α : Type} (m : M α) : Prop := ∀ ts a r, m ts = .ok a r → r.length < ts.length
section
variable {α β : Type}
theorem Good.ok {m : M α} (h : Good m) {ts r : List Tok} {a : α} (e : m ts = .ok a r) : r <:+ ts := by have := h.sfx ts; rw [e] at this; exact this
theorem Good.er {m : M α} (h : Good m) {ts r : List Tok} {e' : Int} (e : m ts = .err r e') : r <:+ ts := by have := h.sfx ts; rw [e] at this; exact this
theorem Good.end_nil {m : M α} (h : Good m) : (m []).End := by
  have := h.sfx []
  cases e : m [] with
  | ok a r => rw [e] at this; exact List.suffix_nil.1 this
  | err r x => rw [e] at this; exact List.suffix_nil.1 this
theorem Good.pure (a : α) : Good (pure a : M α) := ⟨fun ts => List.suffix_rfl, fun pre post => .inl ⟨pre, rfl, rfl⟩, fun _ _ _ => rfl⟩
theorem Good.fail (e : Int) : Good (fail e : M α) := by
  refine ⟨fun ts => List.suffix_rfl, fun pre post => ?_, fun _ _ _ => rfl⟩
  simp only [LocAt, Sx.fail]
  cases pre with
  | nil => exact .inr ⟨by simp, rfl⟩
  | cons x p => exact .inl ⟨x :: p, by simp, rfl, rfl⟩
theorem Good.bind {m : M α} {f : α → M β} (hm : Good m) (hf : ∀ a, Good (f a)) : Good (m >>= f) := by
  refine ⟨fun ts => ?_, fun pre post => ?_, fun g hg ts => ?_⟩
  · rw [bind_eq]
    have h1 := hm.sfx ts
    cases e : m ts with
    | ok a r => rw [e] at h1; exact ((hf a).sfx r).trans h1
    | err r x => rw [e] at h1; exact h1
  · have h1 := hm.loc pre post
    unfold LocAt at h1 ⊢
    rw [bind_eq]
    cases e : m (pre ++ post) with
    | ok a r =>
      rw [e] at h1
      simp only at h1 ⊢
      rcases h1 with ⟨mid, rfl, h2⟩ | ⟨h2, h3⟩
      · have h4 := (hf a).loc mid post
        unfold LocAt at h4
        rw [bind_eq, h2]
        exact h4
      · have h6 : ((m >>= f) pre).End := by
          rw [bind_eq]
          cases e2 : m pre with
          | ok a' r' =>
            rw [e2] at h3
            simp only [R.End] at h3
            subst h3
            exact (hf a').end_nil
          | err r' x => rw [e2] at h3; exact h3
        cases e3 : f a r with
        | ok b r2 => exact .inr ⟨Nat.lt_of_le_of_lt ((hf a).ok e3).length_le h2, h6⟩
        | err r2 x => exact .inr ⟨Nat.le_of_lt (Nat.lt_of_le_of_lt ((hf a).er e3).length_le h2), h6⟩
    | err r x =>
      rw [e] at h1
      simp only at h1 ⊢
      rcases h1 with ⟨mid, h0, rfl, h2⟩ | ⟨h2, h3⟩
      · exact .inl ⟨mid, h0, rfl, by rw [bind_eq, h2]⟩
      · refine .inr ⟨h2, ?_⟩
        rw [bind_eq]
        cases e2 : m pre with
        | ok a' r' =>
          rw [e2] at h3
          simp only [R.End] at h3
          subst h3
          exact (hf a').end_nil
        | err r' x => rw [e2] at h3; exact h3
  · rw [bind_eq, bind_eq, hm.mv g hg ts]
    cases m ts with
    | ok a r => exact (hf a).mv g hg r
    | err r x => rfl
theorem Good.ite {c : Prop} [Decidable c] {a b : M α} (ha : Good a) (hb : Good b) : Good (if c then a else b) := by split <;> assumption
theorem nextB_mv {g : Tok → Tok} (hg : Mv g) (k : Int) (t : B) (ts : List Tok) : nextB k t (ts.map g) = nextB k t ts := by
  cases ts with
  | nil => rfl
  | cons x r => simp only [List.map_cons, nextB, (hg x).1, (hg x).2.1]
theorem Eats.bind {m : M α} {f : α → M β} (hm : Eats m) (hf : ∀ a, Good (f a)) : Eats (m >>= f) := fun ts b r h => by
  rw [bind_eq] at h
  cases e : m ts with
  | ok a r1 => rw [e] at h; exact Nat.lt_of_le_of_lt ((hf a).ok h).length_le (hm _ _ _ e)
  | err r1 x => rw [e] at h; cases h
theorem Eats.bind2 {m : M α} {f : α → M β} (hm : Good m) (hf : ∀ a, Eats (f a)) : Eats (m >>= f) := fun ts b r h => by
  rw [bind_eq] at h
  cases e : m ts with
  | ok a r1 => rw [e] at h; exact Nat.lt_of_lt_of_le (hf a _ _ _ h) (hm.ok e).length_le
  | err r1 x => rw [e] at h; cases h
theorem Good.ifN {k : Int} {t : B} {a b : M α} (ha : Good a) (he : Eats a) (hb : Good b) : Good (fun ts => if nextB k t ts then a ts else b ts) := by
  refine ⟨fun ts => ?_, fun pre post => ?_, fun g hg ts => ?_⟩
  · split
    · exact ha.sfx ts
    · exact hb.sfx ts
  · cases pre with
    | nil =>
      have hl := hb.loc [] post
      have hn : nextB k t [] = false := rfl
      simp only [LocAt, List.nil_append, hn, Bool.false_eq_true, if_false] at hl ⊢
      split
      · rename_i x y z hc
        split at hc
        · exact .inr ⟨he _ _ _ hc, hb.end_nil⟩
        · rw [hc] at hl; exact hl
      · rename_i x y z hc
        split at hc
        · exact .inr ⟨(ha.er hc).length_le, hb.end_nil⟩
        · rw [hc] at hl; exact hl
    | cons x p =>
      have hn : nextB k t (x :: p ++ post) = nextB k t (x :: p) := rfl
      have h1 := ha.loc (x :: p) post
      have h2 := hb.loc (x :: p) post
      cases hc : nextB k t (x :: p) with
      | true => simp only [LocAt, hn, hc, if_true] at h1 ⊢; exact h1
      | false => simp only [LocAt, hn, hc, Bool.false_eq_true, if_false] at h2 ⊢; exact h2
  · simp only [nextB_mv hg]
    split
    · exact ha.mv g hg ts
    · exact hb.mv g hg ts
theorem good_step {k : Int} {t : B} {f : Tok → α} (hf : ∀ g, Mv g → ∀ x, f (g x) = f x) : Good (fun ts => if nextB k t ts then .ok (f (ts.headD default)) ts.tail else .err ts 100 : M α) ∧ Eats (fun ts => if nextB k t ts then .ok (f (ts.headD default)) ts.tail else .err ts 100 : M α) := by
  have he : Eats (fun ts => if nextB k t ts then .ok (f (ts.headD default)) ts.tail else .err ts 100 : M α) := fun ts a r h => by
    cases ts with
    | nil => simp [nextB] at h
    | cons x p =>
      simp only at h
      split at h
      · cases h; simp
      · cases h
  refine ⟨⟨fun ts => ?_, fun pre post => ?_, fun g hg ts => ?_⟩, he⟩
  · split
    · exact List.tail_suffix _
    · exact List.suffix_rfl
  · cases pre with
    | nil =>
      cases hp : nextB k t post with
      | true =>
        have : post ≠ [] := by intro e; subst e; simp [nextB] at hp
        simp only [LocAt, List.nil_append, hp, if_true]
        exact .inr ⟨by have := List.length_pos_iff.2 this; simp; omega, by simp [nextB, R.End]⟩
      | false =>
        simp only [LocAt, List.nil_append, hp, Bool.false_eq_true, if_false]
        exact .inr ⟨Nat.le_refl _, by simp [nextB, R.End]⟩
    | cons x p =>
      have hn : nextB k t (x :: p ++ post) = nextB k t (x :: p) := rfl
      cases hp : nextB k t (x :: p) with
      | true =>
        simp only [LocAt, hn, hp, if_true]
        exact .inl ⟨p, by simp, by simp⟩
      | false =>
        simp only [LocAt, hn, hp, Bool.false_eq_true, if_false]
        exact .inl ⟨x :: p, by simp, by simp, rfl⟩
  · simp only [nextB_mv hg]
    cases ts with
    | nil => simp [nextB, R.map]
    | cons x p =>
      cases hp : nextB k t (x :: p) with
      | true => simp [R.map, hf g hg]
      | false => simp [R.map]
end
theorem name_eq : nameM = fun ts => if nextB 1 [] ts then .ok (ts.headD default).text ts.tail else .err ts 100 := by
  funext ts; simp only [nameM, bind_eq, takeM]; cases nextB 1 [] ts <;> rfl
theorem word_eq (t : B) : wordM t = fun ts => if nextB 1 t ts then .ok () ts.tail else .err ts 100 := by
  funext ts; simp only [wordM, bind_eq, takeM]; cases nextB 1 t ts <;> rfl
theorem sign_eq (t : B) : signM t = fun ts => if nextB 3 t ts then .ok () ts.tail else .err ts 100 := by
  funext ts; simp only [signM, bind_eq, takeM]; cases nextB 3 t ts <;> rfl
theorem good_name : Good nameM := by rw [name_eq]; exact (good_step (f := fun x => x.text) fun g hg x => (hg x).2.1).1
theorem eats_name : Eats nameM := by rw [name_eq]; exact (good_step (f := fun x => x.text) fun g hg x => (hg x).2.1).2
theorem good_word (t : B) : Good (wordM t) := by rw [word_eq]; exact (good_step (f := fun _ => ()) fun g hg x => rfl).1
theorem eats_word (t : B) : Eats (wordM t) := by rw [word_eq]; exact (good_step (f := fun _ => ()) fun g hg x => rfl).2
theorem good_sign (t : B) : Good (signM t) := by rw [sign_eq]; exact (good_step (f := fun _ => ()) fun g hg x => rfl).1
theorem eats_sign (t : B) : Eats (signM t) := by rw [sign_eq]; exact (good_step (f := fun _ => ()) fun g hg x => rfl).2
theorem good_accept (k : Int) (t : B) : Good (acceptM k t) := by
  refine ⟨fun ts => ?_, fun pre post => ?_, fun g hg ts => ?_⟩
  · simp only [acceptM]
    split
    · exact List.tail_suffix _
    · exact List.suffix_rfl
  · cases pre with
    | nil =>
      cases hp : nextB k t post with
      | true =>
        have : post ≠ [] := by intro e; subst e; simp [nextB] at hp
        simp only [LocAt, acceptM, List.nil_append, hp, if_true]
        exact .inr ⟨by have := List.length_pos_iff.2 this; simp; omega, by simp [nextB, R.End]⟩
      | false =>
        simp only [LocAt, acceptM, List.nil_append, hp, Bool.false_eq_true, if_false]
        exact .inl ⟨[], rfl, by simp [nextB]⟩
    | cons x p =>
      have hn : nextB k t (x :: p ++ post) = nextB k t (x :: p) := rfl
      cases hp : nextB k t (x :: p) with
      | true =>
        simp only [LocAt, acceptM, hn, hp, if_true]
        exact .inl ⟨p, by simp, by simp⟩
      | false =>
        simp only [LocAt, acceptM, hn, hp, Bool.false_eq_true, if_false]
        exact .inl ⟨x :: p, by simp, rfl⟩
  · simp only [acceptM, nextB_mv hg]
    cases ts with
    | nil => simp [nextB, R.map]
    | cons x p =>
      cases hp : nextB k t (x :: p) with
      | true => simp [R.map]
      | false => simp [R.map]
theorem number_nil (lo hi : Int) : numberM lo hi [] = .err [] 100 := by simp [numberM, nextB]
theorem number_cons (lo hi : Int) (x : Tok) (p : List Tok) : numberM lo hi (x :: p) = if nextB 2 [] [x] && decide (lo ≤ x.n) && decide (x.n ≤ hi) then .ok x.n p else .err (x :: p) 100 := by
  simp only [numberM, List.headD_cons, List.tail_cons]; rfl
theorem good_number (lo hi : Int) : Good (numberM lo hi) := by
  refine ⟨fun ts => ?_, fun pre post => ?_, fun g hg ts => ?_⟩
  · simp only [numberM]
    split
    · exact List.tail_suffix _
    · exact List.suffix_rfl
  · cases pre with
    | nil =>
      cases post with
      | nil => simp only [LocAt, List.append_nil, number_nil]; exact .inr ⟨Nat.le_refl _, rfl⟩
      | cons y q =>
        simp only [LocAt, List.nil_append, number_nil, number_cons]
        split
        · rename_i h; split at h
          · cases h; exact .inr ⟨by simp, rfl⟩
          · cases h
        · rename_i h; split at h
          · cases h
          · cases h; exact .inr ⟨Nat.le_refl _, rfl⟩
    | cons x p =>
      simp only [LocAt, List.cons_append, number_cons]
      split
      · rename_i h; split at h
        · rename_i hc; cases h; exact .inl ⟨p, rfl, by rw [if_pos hc]⟩
        · cases h
      · rename_i h; split at h
        · cases h
        · rename_i hc; cases h; exact .inl ⟨x :: p, by simp, rfl, by rw [if_neg hc]⟩
  · cases ts with
    | nil => simp [number_nil, R.map]
    | cons x p =>
      have := nextB_mv hg 2 [] [x]
      simp only [List.map_cons, List.map_nil] at this
      simp only [List.map_cons, number_cons, this, (hg x).2.2]
      split <;> simp [R.map]
theorem eats_number (lo hi : Int) : Eats (numberM lo hi) := fun ts a r h => by
  cases ts with
  | nil => rw [number_nil] at h; cases h
  | cons x p =>
    rw [number_cons] at h
    split at h
    · cases h; simp
    · cases h
theorem good_room (a b : Nat) : Good (roomM a b) := by
  by_cases h : a = b
  · have : roomM a b = fail 2 := by funext ts; simp [roomM, h, fail]
    rw [this]; exact .fail 2
  · have : roomM a b = pure () := by funext ts; simp [roomM, h]
    rw [this]; exact .pure ()
theorem Good.ifM {α : Type} {k : Int} {t : B} {a b : M α} (ha : Good a) (he : Eats a) (hb : Good b) : Good (ifM (nextB k t) a b) := Good.ifN ha he hb
theorem good_list {α : Type} {k : Int} {t : B} {read : M α} (hr : Good read) (he : Eats read) : ∀ n, Good (listM (nextB k t) read n)
  | 0 => by
    have : listM (nextB k t) read 0 = fun ts => if nextB k t ts then .err ts 2 else .ok [] ts := rfl
    rw [this]
    have := Good.ifN (k := k) (t := t) (a := (fail 2 : M (List α))) (b := pure []) (.fail 2) (fun _ _ _ h => by cases h) (.pure [])
    exact this
  | n + 1 => by
    have : listM (nextB k t) read (n + 1) = fun ts => if nextB k t ts then (read >>= fun a => listM (nextB k t) read n >>= fun l => pure (a :: l) : M (List α)) ts else (pure [] : M (List α)) ts := rfl
    rw [this]
    exact Good.ifN (hr.bind fun a => (good_list hr he n).bind fun l => .pure _) (he.bind fun a => (good_list hr he n).bind fun l => .pure _) (.pure _)
theorem good_path : Good pathM := good_name.bind fun _ => (good_sign _).bind fun _ => good_name.bind fun _ => .pure _
theorem eats_path : Eats pathM := eats_name.bind fun _ => (good_sign _).bind fun _ => good_name.bind fun _ => .pure _
theorem good_term : Good termM := Good.ifN ((good_number _ _).bind fun _ => .pure _) ((eats_number _ _).bind fun _ => .pure _) (good_path.bind fun _ => .pure _)
theorem good_from : Good fromM := (good_word _).bind fun _ => good_name.bind fun _ => good_name.bind fun _ => (good_accept _ _).bind fun _ => .ite (good_path.bind fun _ => (good_sign _).bind fun _ => .pure _) ((good_sign _).bind fun _ => .pure _)
theorem eats_from : Eats fromM := (eats_word _).bind fun _ => good_name.bind fun _ => good_name.bind fun _ => (good_accept _ _).bind fun _ => .ite (good_path.bind fun _ => (good_sign _).bind fun _ => .pure _) ((good_sign _).bind fun _ => .pure _)
theorem good_op : Good opM := (good_accept _ _).bind fun _ => .ite (.pure _) ((good_accept _ _).bind fun _ => .ite ((good_accept _ _).bind fun _ => .pure _) ((good_sign _).bind fun _ => (good_sign _).bind fun _ => .pure _))
theorem good_where : Good whereM := (good_word _).bind fun _ => good_term.bind fun _ => good_op.bind fun _ => good_term.bind fun _ => (good_sign _).bind fun _ => .pure _
theorem eats_where : Eats whereM := (eats_word _).bind fun _ => good_term.bind fun _ => good_op.bind fun _ => good_term.bind fun _ => (good_sign _).bind fun _ => .pure _
theorem good_set : Good setM := (good_word _).bind fun _ => good_name.bind fun _ => (good_sign _).bind fun _ => good_term.bind fun _ => (good_sign _).bind fun _ => .pure _
theorem eats_set : Eats setM := (eats_word _).bind fun _ => good_name.bind fun _ => (good_sign _).bind fun _ => good_term.bind fun _ => (good_sign _).bind fun _ => .pure _
theorem good_shift : Good shiftM := (good_accept _ _).bind fun _ => .ite (good_number _ _) ((good_accept _ _).bind fun _ => .ite ((good_number _ _).bind fun _ => .pure _) (.pure _))
theorem good_move : Good moveM := good_name.bind fun _ => (good_sign _).bind fun _ => good_name.bind fun _ => good_shift.bind fun _ => (good_sign _).bind fun _ => .pure _
theorem eats_move : Eats moveM := eats_name.bind fun _ => (good_sign _).bind fun _ => good_name.bind fun _ => good_shift.bind fun _ => (good_sign _).bind fun _ => .pure _
theorem good_may : Good mayM := (good_word _).bind fun _ => good_path.bind fun _ => (good_sign _).bind fun _ => .pure _
theorem eats_may : Eats mayM := (eats_word _).bind fun _ => good_path.bind fun _ => (good_sign _).bind fun _ => .pure _
theorem good_rep : ∀ n, Good (repM n)
  | 0 => .pure _
  | n + 1 => (good_number _ _).bind fun _ => (good_rep n).bind fun _ => .pure _
theorem good_listed (n : Nat) : Good (listedM n) := good_name.bind fun _ => (good_list ((good_sign _).bind fun _ => good_name) ((eats_sign _).bind fun _ => good_name) _).bind fun _ => .pure _
theorem good_kind : Good kindM := (good_accept _ _).bind fun _ => .ite ((good_number _ _).bind fun _ => (good_word _).bind fun _ => (good_number _ _).bind fun _ => (good_accept _ _).bind fun _ => .ite (good_name.bind fun _ => .pure _) (.pure _)) ((good_accept _ _).bind fun _ => .ite (.pure _) ((good_accept _ _).bind fun _ => .ite (.pure _) ((good_accept _ _).bind fun _ => .ite ((good_listed _).bind fun _ => .pure _) (.fail _))))
theorem good_field : Good fieldM := (good_word _).bind fun _ => good_name.bind fun _ => (good_sign _).bind fun _ => good_kind.bind fun _ => (good_rep 4).bind fun _ => (good_sign _).bind fun _ => .pure _
theorem eats_field : Eats fieldM := (eats_word _).bind fun _ => good_name.bind fun _ => (good_sign _).bind fun _ => good_kind.bind fun _ => (good_rep 4).bind fun _ => (good_sign _).bind fun _ => .pure _
theorem good_depend : Good dependM := (good_word _).bind fun _ => (good_listed _).bind fun _ => (good_word _).bind fun _ => good_name.bind fun _ => (good_sign _).bind fun _ => .pure _
theorem eats_depend : Eats dependM := (eats_word _).bind fun _ => (good_listed _).bind fun _ => (good_word _).bind fun _ => good_name.bind fun _ => (good_sign _).bind fun _ => .pure _
theorem good_body : ∀ n s, Good (bodyM n s)
  | 0, _ => .fail _
  | n + 1, s => (good_accept _ _).bind fun _ => .ite (.pure _) (Good.ifM ((good_room _ _).bind fun _ => good_field.bind fun _ => good_body n _) (Eats.bind2 (good_room _ _) fun _ => eats_field.bind fun _ => good_body n _)
    (Good.ifM ((good_room _ _).bind fun _ => good_depend.bind fun _ => good_body n _) (Eats.bind2 (good_room _ _) fun _ => eats_depend.bind fun _ => good_body n _) (.fail _)))
theorem ge_issuer (s : Src) : Good (issuerM s) ∧ Eats (issuerM s) := ⟨(good_room _ _).bind fun _ => (good_word _).bind fun _ => good_name.bind fun _ => (good_sign _).bind fun _ => .pure _, Eats.bind2 (good_room _ _) fun _ => (eats_word _).bind fun _ => good_name.bind fun _ => (good_sign _).bind fun _ => .pure _⟩
theorem good_unit1 (s : Src) : ∀ _ : Unit, Good (do let a ← nameM; let b ← acceptM 3 [61]; if b then do { let n ← numberM 2 1000; let o ← nameM; signM [59]; pure { s with units := s.units ++ [⟨a, some (n, o)⟩] } } else do { signM [59]; pure { s with units := s.units ++ [⟨a, none⟩] } } : M Src) := fun _ => good_name.bind fun _ => (good_accept _ _).bind fun _ => .ite ((good_number _ _).bind fun _ => good_name.bind fun _ => (good_sign _).bind fun _ => .pure _) ((good_sign _).bind fun _ => .pure _)
theorem ge_unit (s : Src) : Good (unitM s) ∧ Eats (unitM s) := ⟨(good_room _ _).bind fun _ => (good_word _).bind (good_unit1 s), Eats.bind2 (good_room _ _) fun _ => (eats_word _).bind (good_unit1 s)⟩
theorem good_schema1 (s : Src) : ∀ _ : Unit, Good (do let a ← nameM; wordM [98, 121]; let b ← nameM; wordM [118, 101, 114, 115, 105, 111, 110]; let v ← numberM 1 255; wordM [115, 101, 108, 102]; let w ← weightsM; signM [123]; let x ← bodyM 21 ⟨a, b, v, [⟨[115, 101, 108, 102], .person, w⟩], []⟩; pure { s with schemas := s.schemas ++ [x] } : M Src) := fun _ => good_name.bind fun _ => (good_word _).bind fun _ => good_name.bind fun _ => (good_word _).bind fun _ => (good_number _ _).bind fun _ => (good_word _).bind fun _ => (good_rep 4).bind fun _ => (good_sign _).bind fun _ => (good_body _ _).bind fun _ => .pure _
theorem ge_schema (s : Src) : Good (schemaM s) ∧ Eats (schemaM s) := ⟨(good_room _ _).bind fun _ => (good_word _).bind (good_schema1 s), Eats.bind2 (good_room _ _) fun _ => (eats_word _).bind (good_schema1 s)⟩
theorem good_rule1 (s : Src) : ∀ _ : Unit, Good (do let a ← nameM; signM [123]; ifM (nextB 1 [102, 114, 111, 109]) (do { let f ← listM (nextB 1 [102, 114, 111, 109]) fromM 3; let w ← listM (nextB 1 [119, 104, 101, 114, 101]) whereM 8; let t ← listM (nextB 1 [115, 101, 116]) setM 11; signM [125]; pure { s with rules := s.rules ++ [⟨a, f, w, t⟩] } }) (fail 100) : M Src) := fun _ => good_name.bind fun _ => (good_sign _).bind fun _ => by
  refine Good.ifM ?_ ?_ (.fail _)
  · exact (good_list good_from eats_from _).bind fun _ => (good_list good_where eats_where _).bind fun _ => (good_list good_set eats_set _).bind fun _ => (good_sign _).bind fun _ => .pure _
  · exact Eats.bind2 (good_list good_from eats_from _) fun _ => Eats.bind2 (good_list good_where eats_where _) fun _ => Eats.bind2 (good_list good_set eats_set _) fun _ => (eats_sign _).bind fun _ => .pure _
theorem ge_rule (s : Src) : Good (ruleM s) ∧ Eats (ruleM s) := ⟨(good_room _ _).bind fun _ => (good_word _).bind (good_rule1 s), Eats.bind2 (good_room _ _) fun _ => (eats_word _).bind (good_rule1 s)⟩
theorem good_convert1 (s : Src) : ∀ _ : Unit, Good (do let a ← nameM; wordM [116, 111]; let b ← nameM; signM [123]; let l ← listM (nextB 1 []) moveM 11; signM [125]; pure { s with converts := s.converts ++ [⟨a, b, l⟩] } : M Src) := fun _ => good_name.bind fun _ => (good_word _).bind fun _ => good_name.bind fun _ => (good_sign _).bind fun _ => (good_list good_move eats_move _).bind fun _ => (good_sign _).bind fun _ => .pure _
theorem ge_convert (s : Src) : Good (convertM s) ∧ Eats (convertM s) := ⟨(good_room _ _).bind fun _ => (good_word _).bind (good_convert1 s), Eats.bind2 (good_room _ _) fun _ => (eats_word _).bind (good_convert1 s)⟩
theorem good_purpose1 (s : Src) : ∀ _ : Unit, Good (do let a ← nameM; signM [123]; let l ← listM (nextB 1 [109, 97, 121]) mayM 32; wordM [109, 111, 115, 116]; let n ← numberM 0 32; signM [59]; signM [125]; pure { s with purposes := s.purposes ++ [⟨a, l, n⟩] } : M Src) := fun _ => good_name.bind fun _ => (good_sign _).bind fun _ => (good_list good_may eats_may _).bind fun _ => (good_word _).bind fun _ => (good_number _ _).bind fun _ => (good_sign _).bind fun _ => (good_sign _).bind fun _ => .pure _
theorem ge_purpose (s : Src) : Good (purposeM s) ∧ Eats (purposeM s) := ⟨(good_room _ _).bind fun _ => (good_word _).bind (good_purpose1 s), Eats.bind2 (good_room _ _) fun _ => (eats_word _).bind (good_purpose1 s)⟩
def defH (t : B) (s : Src) : M Src :=
  if t = [105, 115, 115, 117, 101, 114] then issuerM s
  else if t = [117, 110, 105, 116] then unitM s
  else if t = [115, 99, 104, 101, 109, 97] then schemaM s
  else if t = [100, 101, 114, 105, 118, 101] then ruleM s
  else if t = [99, 111, 110, 118, 101, 114, 116] then convertM s
  else if t = [112, 117, 114, 112, 111, 115, 101] then purposeM s
  else fail 100
theorem ge_defH (t : B) (s : Src) : Good (defH t s) ∧ Eats (defH t s) := by
  unfold defH
  split
  · exact ge_issuer s
  split
  · exact ge_unit s
  split
  · exact ge_schema s
  split
  · exact ge_rule s
  split
  · exact ge_convert s
  split
  · exact ge_purpose s
  · exact ⟨.fail _, fun _ _ _ h => by cases h⟩
def defM (s : Src) : M Src := fun ts => match ts with
  | [] => .err [] 100
  | x :: r => if x.kind = 1 then defH x.text s (x :: r) else .err (x :: r) 100
theorem eats_def (s : Src) : Eats (defM s) := fun ts a r h => by
  cases ts with
  | nil => cases h
  | cons x p =>
    simp only [defM] at h
    split at h
    · exact (ge_defH _ _).2 _ _ _ h
    · cases h
theorem good_def (s : Src) : Good (defM s) := by
  refine ⟨fun ts => ?_, fun pre post => ?_, fun g hg ts => ?_⟩
  · cases ts with
    | nil => exact List.suffix_rfl
    | cons x p =>
      simp only [defM]
      split
      · exact (ge_defH _ _).1.sfx _
      · exact List.suffix_rfl
  · cases pre with
    | nil =>
      have hs : (defM s post).rest <:+ post := by
        cases post with
        | nil => exact List.suffix_rfl
        | cons x p =>
          simp only [defM]
          split
          · exact (ge_defH _ _).1.sfx _
          · exact List.suffix_rfl
      simp only [LocAt, List.nil_append]
      cases e : defM s post with
      | ok a r => exact .inr ⟨eats_def s _ _ _ e, rfl⟩
      | err r x => rw [e] at hs; exact .inr ⟨hs.length_le, rfl⟩
    | cons x p =>
      by_cases hk : x.kind = 1
      · have := (ge_defH x.text s).1.loc (x :: p) post
        simpa only [LocAt, defM, List.cons_append, hk, if_true] using this
      · simp only [LocAt, defM, List.cons_append, hk, if_false]
        exact .inl ⟨x :: p, by simp, rfl, rfl⟩
  · cases ts with
    | nil => rfl
    | cons x p =>
      simp only [defM, List.map_cons, (hg x).1, (hg x).2.1]
      split
      · have := (ge_defH x.text s).1.mv g hg (x :: p)
        simpa using this
      · rfl
def parseL : Nat → Src → M Src
  | 0, s => fun ts => match ts with
    | [] => .ok s []
    | x :: r => .err (x :: r) 0
  | n + 1, s => fun ts => match ts with
    | [] => .ok s []
    | x :: r => (defM s >>= parseL n) (x :: r)
theorem parseL_nil (n : Nat) (s : Src) : parseL n s [] = .ok s [] := by cases n <;> rfl
theorem parseL_cons (n : Nat) (s : Src) (x : Tok) (r : List Tok) : parseL (n + 1) s (x :: r) = (defM s >>= parseL n) (x :: r) := rfl
theorem good_parse : ∀ n s, Good (parseL n s)
  | 0, s => by
    refine ⟨fun ts => ?_, fun pre post => ?_, fun g hg ts => ?_⟩
    · cases ts <;> exact List.suffix_rfl
    · cases pre with
      | nil =>
        cases post with
        | nil => exact .inl ⟨[], rfl, rfl⟩
        | cons x p => exact .inr ⟨Nat.le_refl _, rfl⟩
      | cons x p => exact .inl ⟨x :: p, by simp, rfl, rfl⟩
    · cases ts <;> rfl
  | n + 1, s => by
    have hb : Good (defM s >>= parseL n) := (good_def s).bind (good_parse n)
    have he : Eats (defM s >>= parseL n) := (eats_def s).bind (good_parse n)
    refine ⟨fun ts => ?_, fun pre post => ?_, fun g hg ts => ?_⟩
    · cases ts with
      | nil => exact List.suffix_rfl
      | cons x p => exact hb.sfx (x :: p)
    · cases pre with
      | nil =>
        cases post with
        | nil => exact .inl ⟨[], rfl, rfl⟩
        | cons x p =>
          simp only [LocAt, List.nil_append, parseL_cons]
          cases e : (defM s >>= parseL n) (x :: p) with
          | ok a r => exact .inr ⟨he _ _ _ e, rfl⟩
          | err r y => exact .inr ⟨(hb.er e).length_le, rfl⟩
      | cons x p =>
        have := hb.loc (x :: p) post
        simpa only [LocAt, List.cons_append, parseL_cons] using this
    · cases ts with
      | nil => rfl
      | cons x p =>
        have := hb.mv g hg (x :: p)
        simpa only [List.map_cons, parseL_cons] using this
theorem parseL_fuel : ∀ (n : Nat) (s : Src) (ts : List Tok), ts.length ≤ n → parseL n s ts = parseL ts.length s ts := by
  have key : ∀ (n : Nat) (s : Src) (ts : List Tok), ts.length ≤ n → parseL n s ts = parseL (n + 1) s ts := by
    intro n
    induction n with
    | zero => intro s ts h; cases ts with
      | nil => rfl
      | cons x r => simp at h
    | succ n ih =>
      intro s ts h
      cases ts with
      | nil => rfl
      | cons x r =>
        rw [parseL_cons, parseL_cons, bind_eq, bind_eq]
        cases e : defM s (x :: r) with
        | err a b => rfl
        | ok a r1 =>
          have := eats_def s _ _ _ e
          simp only [List.length_cons] at this h
          exact ih a r1 (by omega)
  intro n s ts h
  obtain ⟨d, rfl⟩ := Nat.exists_eq_add_of_le h
  clear h
  induction d with
  | zero => rfl
  | succ d ih => rw [← ih]; exact (key (ts.length + d) s ts (by omega)).symm
abbrev src0 : Src := ⟨[], [], [], [], [], []⟩
def parseR (ts : List Tok) : R Src := parseL ts.length src0 ts
theorem parse_cut {pre post : List Tok} {e : Int} (h : parseR (pre ++ post) = .err post e) : (parseR pre).End := by
  have h1 := (good_parse (pre ++ post).length src0).loc pre post
  unfold parseR at h
  simp only [LocAt, h] at h1
  have h2 : (parseL (pre ++ post).length src0 pre).End := by
    rcases h1 with ⟨mid, h0, h2, h3⟩ | ⟨_, h3⟩
    · have := congrArg List.length h2
      simp at this
      exact absurd this h0
    · exact h3
  unfold parseR
  rw [parseL_fuel _ _ _ (by simp)] at h2
  exact h2
theorem parse_sfx {ts r : List Tok} {e : Int} (h : parseR ts = .err r e) : r <:+ ts := (good_parse _ _).er h
end Go.Sx
/- Plain laws of the parser of sources: a definition is room for it, its text, and the addition of it. No program. -/
namespace Go.Sx
open Go Go.Ab Go.Lx
section
variable {α β : Type}
theorem mite {c : Prop} [Decidable c] (a b : M α) (f : α → M β) : ((if c then a else b) >>= f) = if c then a >>= f else b >>= f := by split <;> rfl
theorem mifM {c : List Tok → Bool} (a b : M α) (f : α → M β) : ((ifM c a b) >>= f) = ifM c (a >>= f) (b >>= f) := by
  funext ts; simp only [bind_eq, ifM]; cases c ts <;> rfl
theorem mfail (e : Int) (f : α → M β) : ((fail e : M α) >>= f) = fail e := rfl
theorem bind_ok' {m : M α} {f : α → M β} {ts ts' : List Tok} {b : β} (h : (m >>= f) ts = .ok b ts') : ∃ a t1, m ts = .ok a t1 ∧ f a t1 = .ok b ts' := by
  rw [bind_eq] at h
  cases hm : m ts with
  | ok a t1 => rw [hm] at h; exact ⟨a, t1, rfl, h⟩
  | err a b => rw [hm] at h; cases h
def oneM (n m : Nat) (body : M α) (g : α → Src) : M Src := roomM n m >>= fun _ => body >>= fun a => pure (g a)
theorem oneM_ok {n m : Nat} {body : M α} {g : α → Src} {ts r : List Tok} {s : Src} (h : oneM n m body g ts = .ok s r) : n ≠ m ∧ ∃ a, body ts = .ok a r ∧ s = g a := by
  simp only [oneM, bind_eq, roomM] at h
  by_cases he : n = m
  · simp [he] at h
  · simp only [he, if_false] at h
    cases hb : body ts with
    | ok a t1 => simp only [hb, pure_eq, R.ok.injEq] at h; exact ⟨he, a, by rw [h.2], h.1.symm⟩
    | err a b => simp [hb] at h
end
def issuerB : M B := do
  wordM [105, 115, 115, 117, 101, 114]
  let a ← nameM
  signM [59]
  pure a
theorem issuer_eq (s : Src) : issuerM s = oneM s.issuers.length 8 issuerB fun a => { s with issuers := s.issuers ++ [a] } := by
  simp only [issuerM, oneM, issuerB, massoc, mpure]
def unitB : M UnitT := do
  wordM [117, 110, 105, 116]
  let a ← nameM
  let b ← acceptM 3 [61]
  if b then do
    let n ← numberM 2 1000
    let o ← nameM
    signM [59]
    pure ⟨a, some (n, o)⟩
  else do
    signM [59]
    pure ⟨a, none⟩
theorem unit_eq (s : Src) : unitM s = oneM s.units.length 16 unitB fun a => { s with units := s.units ++ [a] } := by
  simp only [unitM, oneM, unitB, massoc, mpure, mite]
def schemaB : M Schema := do
  wordM [115, 99, 104, 101, 109, 97]
  let a ← nameM
  wordM [98, 121]
  let b ← nameM
  wordM [118, 101, 114, 115, 105, 111, 110]
  let v ← numberM 1 255
  wordM [115, 101, 108, 102]
  let w ← weightsM
  signM [123]
  bodyM 21 ⟨a, b, v, [⟨[115, 101, 108, 102], .person, w⟩], []⟩
theorem schema_eq (s : Src) : schemaM s = oneM s.schemas.length 16 schemaB fun a => { s with schemas := s.schemas ++ [a] } := by
  simp only [schemaM, oneM, schemaB, massoc, mpure]
def ruleB : M Rule := do
  wordM [100, 101, 114, 105, 118, 101]
  let a ← nameM
  signM [123]
  ifM (nextB 1 [102, 114, 111, 109]) (do
    let f ← listM (nextB 1 [102, 114, 111, 109]) fromM 3
    let w ← listM (nextB 1 [119, 104, 101, 114, 101]) whereM 8
    let t ← listM (nextB 1 [115, 101, 116]) setM 11
    signM [125]
    pure ⟨a, f, w, t⟩) (fail 100)
theorem rule_eq (s : Src) : ruleM s = oneM s.rules.length 16 ruleB fun a => { s with rules := s.rules ++ [a] } := by
  simp only [ruleM, oneM, ruleB, massoc, mpure, mifM, mfail]
def convertB : M Convert := do
  wordM [99, 111, 110, 118, 101, 114, 116]
  let a ← nameM
  wordM [116, 111]
  let b ← nameM
  signM [123]
  let l ← listM (nextB 1 []) moveM 11
  signM [125]
  pure ⟨a, b, l⟩
theorem convert_eq (s : Src) : convertM s = oneM s.converts.length 16 convertB fun a => { s with converts := s.converts ++ [a] } := by
  simp only [convertM, oneM, convertB, massoc, mpure]
def purposeB : M Purpose := do
  wordM [112, 117, 114, 112, 111, 115, 101]
  let a ← nameM
  signM [123]
  let l ← listM (nextB 1 [109, 97, 121]) mayM 32
  wordM [109, 111, 115, 116]
  let n ← numberM 0 32
  signM [59]
  signM [125]
  pure ⟨a, l, n⟩
theorem purpose_eq (s : Src) : purposeM s = oneM s.purposes.length 8 purposeB fun a => { s with purposes := s.purposes ++ [a] } := by
  simp only [purposeM, oneM, purposeB, massoc, mpure]
theorem defH_cases {t : B} {s s' : Src} {ts r : List Tok} (h : defH t s ts = .ok s' r) :
    (s.issuers.length ≠ 8 ∧ ∃ a, s' = { s with issuers := s.issuers ++ [a] }) ∨ (s.units.length ≠ 16 ∧ ∃ a, s' = { s with units := s.units ++ [a] }) ∨ (s.schemas.length ≠ 16 ∧ ∃ a, s' = { s with schemas := s.schemas ++ [a] }) ∨
    (s.rules.length ≠ 16 ∧ ∃ a, s' = { s with rules := s.rules ++ [a] }) ∨ (s.converts.length ≠ 16 ∧ ∃ a, s' = { s with converts := s.converts ++ [a] }) ∨ (s.purposes.length ≠ 8 ∧ ∃ a, s' = { s with purposes := s.purposes ++ [a] }) := by
  unfold defH at h
  split at h
  · rw [issuer_eq] at h; obtain ⟨h1, a, _, h2⟩ := oneM_ok h; exact .inl ⟨h1, a, h2⟩
  split at h
  · rw [unit_eq] at h; obtain ⟨h1, a, _, h2⟩ := oneM_ok h; exact .inr (.inl ⟨h1, a, h2⟩)
  split at h
  · rw [schema_eq] at h; obtain ⟨h1, a, _, h2⟩ := oneM_ok h; exact .inr (.inr (.inl ⟨h1, a, h2⟩))
  split at h
  · rw [rule_eq] at h; obtain ⟨h1, a, _, h2⟩ := oneM_ok h; exact .inr (.inr (.inr (.inl ⟨h1, a, h2⟩)))
  split at h
  · rw [convert_eq] at h; obtain ⟨h1, a, _, h2⟩ := oneM_ok h; exact .inr (.inr (.inr (.inr (.inl ⟨h1, a, h2⟩))))
  split at h
  · rw [purpose_eq] at h; obtain ⟨h1, a, _, h2⟩ := oneM_ok h; exact .inr (.inr (.inr (.inr (.inr ⟨h1, a, h2⟩))))
  · cases h
theorem defH_few {t : B} {s s' : Src} {ts r : List Tok} (hs : Few s) (h : defH t s ts = .ok s' r) : Few s' := by
  obtain ⟨f1, f2, f3, f4, f5, f6⟩ := hs
  rcases defH_cases h with ⟨h1, a, rfl⟩ | ⟨h1, a, rfl⟩ | ⟨h1, a, rfl⟩ | ⟨h1, a, rfl⟩ | ⟨h1, a, rfl⟩ | ⟨h1, a, rfl⟩ <;> refine ⟨?_, ?_, ?_, ?_, ?_, ?_⟩ <;> simp <;> omega
theorem few0 : Few src0 := ⟨by simp, by simp, by simp, by simp, by simp, by simp⟩
end Go.Sx
/- Plain facts on runs of bytes. No program. -/
namespace Go.Lx
open Go Go.Ab
theorem wrap1 {i n : Nat} (h : i < n) (hn : n ≤ 1000000) : IntKind.i64.wrap ((i : Int) + 1) = (i : Int) + 1 := IntWalk.i64_in _ (by omega)
theorem nameB_run {c : UInt8} {r : List UInt8} (hc : letterB c = true) : nameB (c :: r.takeWhile partB) = decide ((r.takeWhile partB).length + 1 ≤ 32) := by
  have hp : ∀ x ∈ r.takeWhile partB, partI x.toNat = true := fun x hx => mem_tw hx
  have hcp : partI c.toNat = true := by simp only [letterB] at hc; simp [partI, hc]
  have h3 : ((c :: r.takeWhile partB).all fun c => partI c.toNat) = true := by
    rw [List.all_eq_true]; intro x hx
    rcases List.mem_cons.mp hx with rfl | hx
    · exact hcp
    · exact hp x hx
  have h2 : letterI ((c :: r.takeWhile partB).getD 0 0).toNat = true := hc
  simp only [nameB, h3, h2, Bool.and_true, List.length_cons]
  simp
theorem numV_run (t : List UInt8) (h : t ≠ []) : numV t = match numOf t with
    | some n => .tup [.d (.int .i64 n), .d (.bool true)]
    | none => match numGo 0 t with
      | some n => .tup [.d (.int .i64 n), .d (.bool false)]
      | none => .tup [.d (.int .i64 0), .d (.bool false)] := by
  cases t with
  | nil => exact absurd rfl h
  | cons c r =>
    unfold numV numOf
    cases hg : numGo 0 (c :: r) with
    | none => rfl
    | some n =>
      by_cases hc : (c :: r).length = 1 ∨ (c :: r).headD 0 ≠ 48
      · simp only [hc, if_true]
        have : (decide ((c :: r).length = 1) || !decide (((c :: r).getD 0 0).toNat = 48)) = true := by
          rcases hc with hc | hc
          · simp only [hc]; simp
          · simp only [List.headD_cons] at hc
            have : c.toNat ≠ 48 := fun e => hc (by rw [← UInt8.ofNat_toNat (x := c), e]; rfl)
            simp [this]
        rw [this]
      · simp only [hc, if_false]
        have : (decide ((c :: r).length = 1) || !decide (((c :: r).getD 0 0).toNat = 48)) = false := by
          simp only [not_or, Classical.not_not] at hc
          obtain ⟨h1, h2⟩ := hc
          simp only [List.headD_cons] at h2
          subst h2
          simp only [List.length_cons] at h1
          have : ¬ r.length + 1 = 1 := h1
          simp [this]
          intro e; subst e; simp at h1
        rw [this]
end Go.Lx
/- Tables of numbers as data; the classes of bytes. Condition: the program is the seat's. -/
namespace Go.Lx
open Go Go.Ab
def tblL (f : Nat → Int) : List D := (List.range 256).map fun i => .int .i64 (f i)
def tblD (f : Nat → Int) : D := .agg (tblL f)
def upd (f : Nat → Int) (n : Nat) (v : Int) (i : Nat) : Int := if i = n then v else f i
theorem tblD_congr {f g : Nat → Int} (h : ∀ i, i < 256 → f i = g i) : tblD f = tblD g := by
  unfold tblD tblL
  congr 1
  exact List.map_congr_left fun i hi => by rw [h i (List.mem_range.mp hi)]
@[simp] theorem tbl_get (f : Nat → Int) {n : Nat} (h : n < 256) : (tblL f)[n]? = some (.int .i64 (f n)) := by simp [tblL, h]
@[simp] theorem tbl_kids (f : Nat → Int) : V.kids (.d (tblD f)) = some ((tblL f).map .d) := by simp only [tblD, V.kids]
@[simp] theorem tbl_getE (f : Nat → Int) {n : Nat} (h : n < (tblL f).length) : (tblL f)[n] = .int .i64 (f n) := by simp [tblL]
@[simp] theorem tblL_length (f : Nat → Int) : (tblL f).length = 256 := by simp [tblL]
@[simp] theorem allD_set (l : List D) (n : Nat) (x : D) : V.allD ((l.map V.d).set n (.d x)) = some (l.set n x) := by rw [← List.map_set, allD_map]
@[simp] theorem tblL_set (f : Nat → Int) (n : Nat) (v : Int) : (tblL f).set n (.int .i64 v) = tblL (upd f n v) := by
  unfold tblL
  apply List.ext_getElem?
  intro i
  by_cases hi : n = i
  · subst hi
    by_cases hl : n < 256
    · simp [List.getElem?_set, hl, upd]
    · simp [List.getElem?_set, hl]
  · by_cases hl : i < 256
    · simp [List.getElem?_set, hi, hl, upd, Ne.symm hi]
    · simp [List.getElem?_set, hi, hl]
@[simp] theorem agg_tbl (f : Nat → Int) : D.agg (tblL f) = tblD f := rfl
theorem szs_all {l : List D} {n : Nat} (h : ∀ x ∈ l, x.sz = n) : D.szs l = l.length * n := D.szs_uniform l h
theorem tblL_one (f : Nat → Int) : ∀ x ∈ tblL f, x.sz = 1 := by
  intro x hx
  simp only [tblL, List.mem_map] at hx
  obtain ⟨i, _, rfl⟩ := hx
  rfl
@[simp] theorem tbl_sz (f : Nat → Int) : (tblD f).sz = 256 := by simp only [tblD, D.sz, szs_all (tblL_one f), tblL_length]
theorem tbl_size (f : Nat → Int) : V.size (.d (tblD f)) = 256 := by
  unfold V.size; rw [show (V.d (tblD f)).shape = (tblD f).shape from rfl, D.size_shape, tbl_sz]
@[simp] theorem tbl_size' (f : Nat → Int) : (tblD f).shape.size = 256 := by rw [D.size_shape, tbl_sz]
@[simp] theorem tbl_agg (f : Nat → Int) : V.isAgg (.d (tblD f)) = true := rfl
@[simp] theorem tbl_dagg (f : Nat → Int) : (tblD f).isAgg = true := rfl
@[simp] theorem tbl_ok (f : Nat → Int) : (∀ a, a ∈ tblL f → a.shape.size = 1) = True :=
  eq_true fun x hx => by rw [D.size_shape]; exact tblL_one f x hx
theorem map_zero (n : Nat) (x : D) : List.replicate n x = (List.range n).map fun _ => x := by
  rw [List.map_const', List.length_range]
theorem bytesD_map : ∀ s : List UInt8, bytesD s = s.map fun b => .int .u8 b.toNat
  | [] => rfl
  | b :: r => by simp [bytesD, bytesD_map r]
theorem zeros_tbl : List.replicate 256 (D.int .i64 0) = tblL fun _ => 0 := map_zero 256 _

def cl1 (k i : Nat) : Int := if 65 ≤ i ∧ i < 65 + k ∨ 97 ≤ i ∧ i < 97 + k then 2 else 0
def cl2 (k i : Nat) : Int := if 48 ≤ i ∧ i < 48 + k then 3 else cl1 26 i
def spc : List UInt8 := [32, 9, 10, 13]
def cl3 (k i : Nat) : Int := if i ∈ (spc.take k).map UInt8.toNat then 1 else cl2 10 i
def cl4 (k i : Nat) : Int := if i ∈ (signs.take k).map UInt8.toNat then 4 else cl3 4 i
def clsF : Nat → Int := cl4 15
theorem mem_take {l : List UInt8} {k i : Nat} (h : k < l.length) : (i ∈ (l.take (k + 1)).map UInt8.toNat) ↔ (i = (l[k]?.getD 0).toNat ∨ i ∈ (l.take k).map UInt8.toNat) := by
  rw [List.take_add_one, List.map_append, List.mem_append, List.getElem?_eq_getElem h]
  simp only [Option.toList_some, List.map_cons, List.map_nil, List.mem_singleton, Option.getD_some]
  exact Or.comm
def clsD : D := tblD clsF
end Go.Lx
namespace Go.Proofs.YtanpgmgkmfckaaaGreatDoor
open Go Go.Ab Go.Lx
set_option maxRecDepth 100000
section
variable {P : Prg} (hP : P.p = Tryz.prog)
include hP
theorem c_classify {ob : Objs} {K : V → Prop} (h : K (.d clsD)) : PCall P 42 [] ob K := by
  refine pcall_lift hP mixed (ds := []) ok42 lf42 TOk.nil ?_
  simp only [lt42, zeros_tbl]
  rw [show D.agg (tblL fun _ => 0) = tblD fun _ => 0 from rfl, show tblD (fun _ => 0) = tblD (cl1 0) from tblD_congr fun i _ => by simp [cl1]]
  simp
  refine ALoop.go (ι := Nat) (fun k => [(0, .ptr 0 []), (7, .d (.int .i64 k))]) (fun k => [(0, .box 116 (.d (tblD (cl1 k))))]) (fun k => k ≤ 26) (fun k => 26 - k) 0 (by omega) (by simp) (by simp) ?_
  intro k hk R rn re _ _
  by_cases hlt : k < 26
  · have w1 : IntKind.i64.wrap (65 + (k : Int)) = 65 + (k : Int) := IntWalk.i64_in _ (by omega)
    have w2 : IntKind.i64.wrap (97 + (k : Int)) = 97 + (k : Int) := IntWalk.i64_in _ (by omega)
    have w3 := wrap1 hlt (by omega)
    simp [lt42_l3, w1, w2, w3, show (k : Int) < 26 by omega, show ¬ (26 : Int) ≤ k by omega, show (0 : Int) ≤ 65 + k by omega, show (0 : Int) ≤ 97 + k by omega, show 65 + (k : Int) < 256 by omega, show 97 + (k : Int) < 256 by omega, show (65 + (k : Int)).toNat = 65 + k by omega, show (97 + (k : Int)).toNat = 97 + k by omega, show 65 + k < 256 by omega, show 97 + k < 256 by omega]
    refine rn [] (k + 1) _ _ ?_ ?_ ?_ ?_ ?_ ?_
    · omega
    · omega
    · simp
    · simp
      refine tblD_congr fun i _ => ?_
      simp only [upd, cl1]
      repeat (first | split | omega)
      all_goals omega
    · simp
    · simp
  · have hk' : k = 26 := by omega
    subst hk'
    simp [lt42_l3]
    refine re _ _ _ ?_
    simp
    clear rn re
    rw [show tblD (cl1 26) = tblD (cl2 0) from tblD_congr fun i _ => by simp [cl2]; omega]
    refine ALoop.go (ι := Nat) (fun k => [(0, .ptr 0 []), (17, .d (.int .i64 k))]) (fun k => [(0, .box 116 (.d (tblD (cl2 k))))]) (fun k => k ≤ 10) (fun k => 10 - k) 0 (by omega) (by simp) (by simp) ?_
    intro k hk R rn re _ _
    by_cases hlt : k < 10
    · have w1 : IntKind.i64.wrap (48 + (k : Int)) = 48 + (k : Int) := IntWalk.i64_in _ (by omega)
      have w3 := wrap1 hlt (by omega)
      simp [lt42_l2, w1, w3, show (k : Int) < 10 by omega, show ¬ (10 : Int) ≤ k by omega, show (0 : Int) ≤ 48 + k by omega, show 48 + (k : Int) < 256 by omega, show (48 + (k : Int)).toNat = 48 + k by omega, show 48 + k < 256 by omega]
      refine rn [] (k + 1) _ _ ?_ ?_ ?_ ?_ ?_ ?_
      · omega
      · omega
      · simp
      · simp
        refine tblD_congr fun i _ => ?_
        simp only [upd, cl2]
        repeat (first | split | omega)
        all_goals omega
      · simp
      · simp
    · have hk' : k = 10 := by omega
      subst hk'
      simp [lt42_l2]
      refine re _ _ _ ?_
      simp
      clear rn re
      rw [show tblD (cl2 10) = tblD (cl3 0) from tblD_congr fun i _ => by simp [cl3]]
      show ALoop _ _ _ [_, (25, V.d (D.list 1 (bytesD spc))), _, _] _
      refine ALoop.go (ι := Nat) (fun k => [(0, .ptr 0 []), (25, .d (.list 1 (bytesD spc))), (26, .d (.int .i64 4)), (27, .d (.int .i64 k))]) (fun k => [(1, .gone), (0, .box 116 (.d (tblD (cl3 k))))]) (fun k => k ≤ 4) (fun k => 4 - k) 0 (by omega) (by simp [keepS]) (by simp) ?_
      intro k hk R rn re _ _
      by_cases hlt : k < 4
      · have w3 := wrap1 hlt (by omega)
        have hb : (bytesD spc)[k]?.getD default = .int .u8 (spc[k]?.getD 0).toNat := by
          rw [bytesD_map]; simp [show k < spc.length from hlt]
        have hlen : (bytesD spc).length = 4 := rfl
        have hc := (spc[k]?.getD 0).toNat_lt
        generalize hcc : spc[k]?.getD 0 = c at *
        simp [lt42_l1, w3, hb, hlen, show (k : Int) < 4 by omega, show ¬ (4 : Int) ≤ k by omega, hc, show ((c.toNat : Int) < 256) by omega]
        refine rn [] (k + 1) _ _ ?_ ?_ ?_ ?_ ?_ ?_
        · omega
        · omega
        · simp
        · simp
          refine tblD_congr fun i _ => ?_
          simp only [upd, cl3, mem_take (show k < spc.length from hlt), hcc]
          split
          · rename_i e; simp [e]
          · rename_i e; simp [e]
        · simp
        · simp
      · have hk' : k = 4 := by omega
        subst hk'
        simp [lt42_l1]
        refine re _ _ _ ?_
        simp
        clear rn re
        rw [show tblD (cl3 4) = tblD (cl4 0) from tblD_congr fun i _ => by simp [cl4]]
        show ALoop _ _ _ [_, (35, V.d (D.list 1 (bytesD signs))), _, _] _
        refine ALoop.go (ι := Nat) (fun k => [(0, .ptr 0 []), (35, .d (.list 1 (bytesD signs))), (36, .d (.int .i64 15)), (37, .d (.int .i64 k))]) (fun k => [(2, .gone), (1, .gone), (0, .box 116 (.d (tblD (cl4 k))))]) (fun k => k ≤ 15) (fun k => 15 - k) 0 (by omega) (by simp [keepS]) (by simp) ?_
        intro k hk R rn re _ _
        by_cases hlt : k < 15
        · have w3 := wrap1 hlt (by omega)
          have hb : (bytesD signs)[k]?.getD default = .int .u8 (signs[k]?.getD 0).toNat := by
            rw [bytesD_map]; simp [show k < signs.length from hlt]
          have hlen : (bytesD signs).length = 15 := rfl
          have hc := (signs[k]?.getD 0).toNat_lt
          generalize hcc : signs[k]?.getD 0 = c at *
          simp [lt42_l0, w3, hb, hlen, show (k : Int) < 15 by omega, show ¬ (15 : Int) ≤ k by omega, hc, show ((c.toNat : Int) < 256) by omega]
          refine rn [] (k + 1) _ _ ?_ ?_ ?_ ?_ ?_ ?_
          · omega
          · omega
          · simp
          · simp
            refine tblD_congr fun i _ => ?_
            simp only [upd, cl4, mem_take (show k < signs.length from hlt), hcc]
            split
            · rename_i e; simp [e]
            · rename_i e; simp [e]
          · simp
          · simp
        · have hk' : k = 15 := by omega
          subst hk'
          simp [lt42_l0]
          refine re _ _ _ ?_
          simp
          refine ⟨rfl, ?_⟩
          exact h
end
end Go.Proofs.YtanpgmgkmfckaaaGreatDoor
/- Contracts: what the scanner calls. Condition: the program is the seat's. -/
namespace Go.Lx
open Go Go.Ab
@[simp] theorem idxPV_tbl (f : Nat → Int) (kd : IntKind) (i : Int) : idxPV (.d (.ref (tblD f))) (.d (.int kd i)) = .d (.ref ((tblL f).getD i.toNat default)) := by simp only [tblD, idxPV]
@[simp] theorem idxPS_tbl (ob : Objs) (f : Nat → Int) (kd : IntKind) (i : Int) : idxPS ob 256 1 (.d (.ref (tblD f))) (.d (.int kd i)) = (0 ≤ i ∧ i < 256) := by
  simp only [tblD, idxPS_c, tblL_length]
  simp
  intro _ _ x hx; exact tblL_one f x hx
theorem cls_letter : ∀ n, n < 256 → (clsF n = 2 ↔ letterI n = true) := by decide +kernel
theorem cls_digit : ∀ n, n < 256 → (clsF n = 3 ↔ digitI n = true) := by decide +kernel
theorem cls_space : ∀ n, n < 256 → (clsF n = 1 ↔ spaceI n = true) := by decide +kernel
theorem cls_sign : ∀ n, n < 256 → (clsF n = 4 ↔ signI n = true) := by decide +kernel
theorem cls_range : ∀ n, n < 256 → 0 ≤ clsF n ∧ clsF n ≤ 4 := by decide +kernel
abbrev scD (s : List UInt8) (i : Int) (l : List D) : D := .agg [.str s, .int .i64 i, tblD clsF, .list 4 l]
abbrev scV (s : List UInt8) (i : Int) (y n : Nat) : V := .agg [.d (.str s), .d (.int .i64 i), .d (tblD clsF), .sl y n]
end Go.Lx
namespace Go.Proofs.YtanpgmgkmfckaaaGreatDoor
open Go Go.Ab Go.Lx
set_option maxRecDepth 100000
section
variable {P : Prg} (hP : P.p = Tryz.prog)
include hP
theorem c_name1 (c : UInt8) (s : List UInt8) (i : Int) (l : List D) {ob : Objs} {K : V → Prop} (h : K (.d (.bool (partB c)))) : PCall P 119 [.d (.int .u8 c.toNat), .d (.ref (.ref (scD s i l)))] ob K := by
  refine pcall_lift hP mixed (ds := [.int .u8 c.toNat, .ref (.ref (scD s i l))]) ok119 lf119 TOk.nil ?_
  have hc := c.toNat_lt
  simp [lt119, hc, show (c.toNat : Int) < 256 by omega]
  refine (congrArg K ?_).mp h
  congr 2
  rw [Bool.eq_iff_iff]
  have h2 := cls_letter c.toNat hc
  have h3 := cls_digit c.toNat hc
  simp [partB, partI, h2, h3]
theorem c_number1 (c : UInt8) (s : List UInt8) (i : Int) (l : List D) {ob : Objs} {K : V → Prop} (h : K (.d (.bool (digitB c)))) : PCall P 121 [.d (.int .u8 c.toNat), .d (.ref (.ref (scD s i l)))] ob K := by
  refine pcall_lift hP mixed (ds := [.int .u8 c.toNat, .ref (.ref (scD s i l))]) ok121 lf121 TOk.nil ?_
  have hc := c.toNat_lt
  simp [lt121, hc, show (c.toNat : Int) < 256 by omega]
  refine (congrArg K ?_).mp h
  congr 2
  rw [Bool.eq_iff_iff]
  have h3 := cls_digit c.toNat hc
  simp [digitB, h3]
theorem c_sign1 (c : UInt8) {ob : Objs} {K : V → Prop} (h : K (.d (.bool (lineB c)))) : PCall P 123 [.d (.int .u8 c.toNat)] ob K := by
  refine pcall_lift hP mixed (ds := [.int .u8 c.toNat]) ok123 lf123 TOk.nil ?_
  simp [lt123]
  refine (congrArg K ?_).mp h
  congr 2
  rw [Bool.eq_iff_iff]
  simp [lineB]
  constructor
  · intro h1 h2; exact h1 (by rw [← UInt8.ofNat_toNat (x := c), show c.toNat = 10 by omega]; rfl)
  · intro h1 h2; subst h2; exact h1 rfl
theorem c_prefix (s t : List UInt8) {ob : Objs} {K : V → Prop} (h : K (.d (.bool (t.isPrefixOf s)))) : PCall P 122 [.d (.str s), .d (.str t)] ob K := by
  have h0 : ∀ {K : V → Prop}, K (.d (.bool (t.isPrefixOf s))) → PCall P 173 [.d (.str s), .d (.str t)] [] K := fun {K} h => by
    refine pcall_lift hP mixed (ds := [.str s, .str t]) ok173 lf173 TOk.nil ?_
    simp [lt173]
    refine (congrArg K ?_).mp h
    congr 2
    rw [Bool.eq_iff_iff]
    simp only [List.isPrefixOf_iff_prefix, List.prefix_iff_eq_take]
    by_cases hl : t.length ≤ s.length
    · simp [hl]; exact eq_comm
    · simp [hl]
      intro e
      have := congrArg List.length e
      simp at this; omega
  refine pcall_lift hP mixed (ds := [.str s, .str t]) ok122 lf122 TOk.nil ?_
  simp [lt122]
  exact h0 (by simpa using h)
theorem c_run (s : List UInt8) (i : Nat) (hi : i ≤ s.length) (hs : s.length ≤ 1000000) (l : List D) (f : Nat) (fi ca : List D) (p : UInt8 → Bool) (hf : callable P.p f = true)
    (hp : ∀ (c : UInt8) (K : V → Prop), K (.d (.bool (p c))) → PCall P f (fi.map .d ++ .d (.int .u8 c.toNat) :: ca.map .d) [] K)
    {ob : Objs} {K : V → Prop} (h : K (.d (.str ((s.drop i).takeWhile p)))) : PCall P 118 [.d (.ref (scD s i l)), .d (.fn f fi ca)] ob K := by
  refine pcall_lift hP mixed (ds := [.ref (scD s i l), .fn f fi ca]) ok118 lf118 TOk.nil ?_
  simp [lt118]
  refine ALoop.go (ι := Nat) (fun j => [(0, .d (.ref (scD s i l))), (1, .d (.fn f fi ca)), (5, .d (.int .i64 j))]) (fun _ => []) (fun j => i ≤ j ∧ j ≤ s.length ∧ j + tw p s j = i + tw p s i) (fun j => s.length - j) i ⟨by omega, by omega, rfl⟩ rfl rfl ?_
  rintro j ⟨hj0, hj1, hj2⟩ R rn re _ _
  have ex : tw p s j = 0 → ∀ x, R (AExit.exit 0) [(0, .d (.ref (scD s i l))), (1, .d (.fn f fi ca)), (5, .d (.int .i64 j)), (26, x)] [] := fun h0 x => by
    refine re _ _ _ ?_
    simp [hj0, hj1]
    refine (congrArg K ?_).mp h
    congr 2
    rw [List.drop_take, takeWhile_take]
    congr 1
    simp only [tw] at hj2 h0 ⊢
    omega
  simp [lt118_l0]
  by_cases hjl : j < s.length
  · have hwj := wrap1 hjl hs
    simp [hjl, hwj, hf]
    refine ⟨PCall.acall (hp s[j] _ ?_), fun h => absurd h (by omega)⟩
    by_cases hb : p s[j] = true
    · simp [hb]
      refine rn [] (j + 1) _ _ ⟨?_, ?_, ?_⟩ ?_ ?_ ?_ ?_ ?_
      · omega
      · omega
      · rw [← hj2, tw_yes hjl (by simpa [hjl] using hb)]; omega
      · omega
      · simp
      · simp
      · simp
      · simp
    · simp [hb]
      exact ex (tw_no hjl (by simpa [hjl] using hb)) _
  · simp [hjl]
    exact fun _ => ex (tw_ge (by omega)) _
end
end Go.Proofs.YtanpgmgkmfckaaaGreatDoor
/- Contracts: the scanner's methods. Condition: the program is the seat's. -/
namespace Go.Proofs.YtanpgmgkmfckaaaGreatDoor
open Go Go.Ab Go.Lx
set_option maxRecDepth 100000
section
variable {P : Prg} (hP : P.p = Tryz.prog)
include hP
theorem c_add (s : List UInt8) (i n : Nat) (k m a0 : Int) (t : List UInt8) (ts : List D) (hn : i + n ≤ 1000000) (hts : ts.length ≤ 1000000) {ob : Objs} {x y : Nat} (hx : lookO ob x = some (.box 119 (scV s i y ts.length))) (hy : lookO ob y = some (.arr 44 4 ts))
    {K : Out → Objs → Prop} (h : K (.ret (.tup [])) (setO (setO ob y (.arr 44 4 (ts ++ [.agg [.int .i64 k, .str t, .int .i64 m, .int .i64 i]]))) x (.box 119 (scV s ((i + n : Nat) : Int) y (ts.length + 1))))) :
    ACall P 120 [.ptr x [], .d (.agg [.int .i64 k, .str t, .int .i64 m, .int .i64 a0]), .d (.int .i64 n)] ob K := by
  have hxy : (y == x) = false := by rw [beq_eq_false_iff_ne]; intro e; subst e; rw [hx] at hy; cases hy
  have hyx : (x == y) = false := by rw [beq_eq_false_iff_ne]; intro e; subst e; rw [hx] at hy; cases hy
  refine acall_lift hP mixed ok120 lf120 TOk.nil ?_
  intro _ hm
  have hw : IntKind.i64.wrap ((i : Int) + n) = (i : Int) + n := IntWalk.i64_in _ (by omega)
  simp [lt120, hx, hy, hxy, hyx, hw]
  refine ⟨by omega, ?_⟩
  refine ⟨[], by simp, ?_, ?_⟩
  · simp
    exact noMenO_set_box _ _ _ _ _ (noMenO_set_arr _ _ _ _ _ _ (hm _)) (by simp [hy])
  · simpa using h
abbrev added (ob : Objs) (x y : Nat) (s : List UInt8) (ts : List D) (k : Int) (t : List UInt8) (m : Int) (i n : Nat) : Objs :=
  setO (setO ob y (.arr 44 4 (ts ++ [.agg [.int .i64 k, .str t, .int .i64 m, .int .i64 i]]))) x (.box 119 (scV s ((i + n : Nat) : Int) y (ts.length + 1)))
theorem call_add : callable P.p 119 = true ∧ callable P.p 121 = true ∧ callable P.p 123 = true := by
  rw [hP]; exact ⟨by kernel_rfl, by kernel_rfl, by kernel_rfl⟩
section
variable (s : List UInt8) (i : Nat) (ts : List D) (hs : s.length ≤ 65536) (hi : i < s.length) (hts : ts.length ≤ 1000000) {ob : Objs} {x y : Nat} (hx : lookO ob x = some (.box 119 (scV s i y ts.length))) (hy : lookO ob y = some (.arr 44 4 ts)) {K : Out → Objs → Prop}
include hs hi hts hx hy
omit hs hi hts hy in
theorem c_other (h : K (.panic (.d (.iface 113 (.int .i64 i)))) ob) : ACall P 43 [.ptr x []] ob K := by
  refine acall_lift hP mixed ok43 lf43 TOk.nil ?_
  intro _ hm
  simp [lt43, hx]
  refine ⟨[], by simp, ?_, ?_⟩
  · simp [hm]
  · simpa using h
omit hts in
theorem c_space (h : K (.ret (.tup [])) (setO ob x (.box 119 (scV s ((i + 1 : Nat) : Int) y ts.length)))) : ACall P 44 [.ptr x []] ob K := by
  refine acall_lift hP mixed ok44 lf44 TOk.nil ?_
  intro _ hm
  have hw := wrap1 hi (by omega)
  simp [lt44, hx, hw]
  refine ⟨[], by simp, ?_, ?_⟩
  · simp
    exact noMenO_set_box _ _ _ _ _ (hm _) (by simp [hy])
  · simpa using h
theorem c_name (h1 : 32 < tw partB s i → K (.panic (.d (.iface 113 (.int .i64 i)))) ob) (h2 : tw partB s i ≤ 32 → K (.ret (.tup [])) (added ob x y s ts 1 ((s.drop i).takeWhile partB) 0 i (tw partB s i))) : ACall P 45 [.ptr x []] ob K := by
  refine acall_lift hP mixed ok45 lf45 TOk.nil ?_
  intro _ hm
  have hle := tw_le partB s i (by omega)
  simp [lt45, hx]
  refine PCall.borrow (n := 5) (ds := [.ref (scD s i ts), .fn 119 [] [.ref (.ref (scD s i ts))]]) (by simp [hx, hy]) ?_
  refine c_run hP s i (by omega) (by omega) ts _ [] _ partB (call_add hP).1 (fun c K h => by simpa using c_name1 hP c s i ts h) ?_
  simp
  have hl : ((s.drop i).takeWhile partB).length = tw partB s i := rfl
  simp [hl, hx]
  refine ⟨fun h3 => ?_, fun h3 => ?_⟩
  · refine ⟨[], by simp, ?_, ?_⟩
    · simp [hm]
    · simpa using h1 (by omega)
  · simp [lt45_s0, hl, hx]
    refine c_add hP (y := y) s i _ 1 0 0 _ ts (by omega) hts (by simp [hx]) (by simp [hy]) ?_
    simp [hx, hy]
    refine ⟨[], by simp, ?_, ?_⟩
    · simp
      exact noMenO_set_box _ _ _ _ _ (noMenO_set_arr _ _ _ _ _ _ (hm _)) (by simp [hy])
    · simpa [added] using h2 (by omega)
theorem c_numberM (hd : digitB (s[i]?.getD 0) = true) (h1 : numOf ((s.drop i).takeWhile digitB) = none → K (.panic (.d (.iface 113 (.int .i64 i)))) ob)
    (h2 : ∀ m, numOf ((s.drop i).takeWhile digitB) = some m → K (.ret (.tup [])) (added ob x y s ts 2 [] m i (tw digitB s i))) : ACall P 46 [.ptr x []] ob K := by
  refine acall_lift hP mixed ok46 lf46 TOk.nil ?_
  intro _ hm
  have hle := tw_le digitB s i (by omega)
  simp [lt46, hx]
  refine PCall.borrow (n := 5) (ds := [.ref (scD s i ts), .fn 121 [] [.ref (.ref (scD s i ts))]]) (by simp [hx, hy]) ?_
  refine c_run hP s i (by omega) (by omega) ts _ [] _ digitB (call_add hP).2.1 (fun c K h => by simpa using c_number1 hP c s i ts h) ?_
  have hl : ((s.drop i).takeWhile digitB).length = tw digitB s i := rfl
  have hdg : ∀ k, k < tw digitB s i → digitI (((s.drop i).takeWhile digitB)[k]?.getD 0).toNat = true := fun k hk => by
    have : ((s.drop i).takeWhile digitB)[k] ∈ (s.drop i).takeWhile digitB := List.getElem_mem hk
    rw [List.getElem?_eq_getElem hk]
    exact mem_tw this
  have hne : 0 < tw digitB s i := by have := tw_yes hi hd; omega
  generalize ht : (s.drop i).takeWhile digitB = t at *
  rw [← hl] at hdg hne
  simp
  refine ALoop.go (ι := Nat × Int) (fun k => [(1, .ptr (fresh ob) []), (2, .d (.str t)), (3, .d (.int .i64 k.2)), (9, .d (.int .i64 t.length)), (10, .d (.int .i64 k.1))]) (fun _ => (fresh ob, .box 115 (.ptr x [])) :: ob)
    (fun k => k.1 ≤ t.length ∧ 0 ≤ k.2 ∧ k.2 ≤ 1099511627776 ∧ numGo 0 t = numGo k.2 (t.drop k.1) ∧ (2 ≤ k.1 → t.headD 0 ≠ 48)) (fun k => t.length - k.1) (0, 0) ⟨by simp, by simp, by simp, by simp, by simp⟩ rfl rfl ?_
  rintro ⟨k, n⟩ ⟨hk, k1, k2, k3, k4⟩ R rn re _ rp
  simp only at hk k1 k2 k3 k4
  simp [lt46_l1]
  by_cases hlt : k < t.length
  · have hc := hdg k hlt
    rw [numGo_drop hlt] at k3
    generalize hcc : t[k]?.getD 0 = c at *
    have hcc' : t[k] = c := by rw [← hcc]; simp [hlt]
    simp [digitI] at hc
    have hcl := c.toNat_lt
    have hw : IntKind.i64.wrap (IntKind.i64.wrap (10 * n) + IntKind.i64.wrap (IntKind.u8.wrap (c.toNat - 48))) = 10 * n + (c.toNat - 48) := by
      rw [IntWalk.u8_in _ (by omega), IntWalk.i64_in (10 * n) (by omega), IntWalk.i64_in (_ - 48) (by omega), IntWalk.i64_in _ (by omega)]
    have hwk := wrap1 hlt (by omega)
    have hpan : numOf t = none → R (AExit.panic (V.d (D.iface 113 (D.int IntKind.i64 i)))) [] ((fresh ob, .box 115 (.ptr x [])) :: ob) := fun hno => by
      refine rp _ _ _ ?_
      simp
      refine ⟨[], by simp, ?_, ?_⟩
      · simp [hm]
      · simpa using h1 hno
    have h0 : (t[0]?.getD 0) = t.headD 0 := by cases t <;> rfl
    have hlead : 0 < k → t[0]?.getD 0 = 48 → numOf t = none := fun k0 e => by
      rw [h0] at e
      unfold numOf
      cases numGo 0 t with
      | none => rfl
      | some m => simp only; rw [if_neg]; simp only [not_or, Classical.not_not]; exact ⟨by omega, e⟩
    simp [hlt, hcc', hw, hwk, hx]
    refine ⟨⟨fun _ _ => hne, fun e => hpan ?_, fun e1 e2 => ?_⟩, fun e => absurd e (by omega)⟩
    · rcases e with e | ⟨e1, e2⟩
      · rw [if_pos e] at k3
        simp [numOf, k3]
      · refine hlead e1 ?_
        have e3 : (t[0]?.getD 0).toNat = 48 := by omega
        generalize t[0]?.getD 0 = z at e3
        rw [← UInt8.ofNat_toNat (x := z), e3]; rfl
    · rw [if_neg (by omega)] at k3
      simp [lt46_s0, hwk]
      refine rn [] (k + 1, 10 * n + (c.toNat - 48)) _ _ ⟨?_, ?_, ?_, ?_, ?_⟩ ?_ ?_ ?_ ?_ ?_
      · simp only; omega
      · simp only; omega
      · exact e1
      · exact k3
      · intro h2k e3
        have hk0 : 0 < k := by simp only at h2k; omega
        refine e2 hk0 ?_
        rw [h0, e3]; rfl
      · simp only; omega
      · simp
      · simp
      · simp [young]
      · simp [noMenO_up_add _ hm, hx]
  · have hk' : k = t.length := by omega
    subst hk'
    simp
    refine re _ _ _ ?_
    simp [hx]
    refine c_add hP (y := y) s i _ 2 n 0 _ ts (by omega) hts (by simp [hx]) (by simp [hy]) ?_
    simp [hx, hy]
    refine ⟨[], by simp, ?_, ?_⟩
    · simp
      exact noMenO_set_box _ _ _ _ _ (noMenO_set_arr _ _ _ _ _ _ (hm _)) (by simp [hy])
    · have hn : numOf t = some n := by
        simp [numGo] at k3
        simp only [numOf, k3]
        rw [if_pos]
        by_cases h2 : 2 ≤ t.length
        · exact .inr (k4 h2)
        · exact .inl (by omega)
      simpa [added, hl] using h2 n hn
theorem c_signM (hsg : signB (s[i]?.getD 0) = true) (h1 : s[i]?.getD 0 = 47 ∧ (s.drop (i + 1)).head? = some 47 → K (.ret (.tup [])) (setO ob x (.box 119 (scV s ((i + tw lineB s i : Nat) : Int) y ts.length))))
    (h2 : ¬ (s[i]?.getD 0 = 47 ∧ (s.drop (i + 1)).head? = some 47) → K (.ret (.tup [])) (added ob x y s ts 3 [s[i]?.getD 0] 0 i 1)) : ACall P 47 [.ptr x []] ob K := by
  refine acall_lift hP mixed ok47 lf47 TOk.nil ?_
  intro _ hm
  have hw := wrap1 hi (by omega)
  have hle := tw_le lineB s i (by omega)
  simp [lt47, hx, hw, show i ≤ s.length by omega]
  refine PCall.data (ds := [.str (s.drop i), .str [47, 47]]) rfl (c_prefix hP _ _ ?_)
  have hpre : ([47, 47] : List UInt8).isPrefixOf (s.drop i) = decide (s[i]?.getD 0 = 47 ∧ (s.drop (i + 1)).head? = some 47) := by
    rw [drop_cons hi]
    cases hd : s.drop (i + 1) with
    | nil => simp [List.isPrefixOf]
    | cons a r =>
      rw [Bool.eq_iff_iff]
      simp only [List.isPrefixOf, Bool.and_eq_true, beq_iff_eq, Bool.and_true, decide_eq_true_eq, List.head?_cons, Option.some.injEq]
      exact ⟨fun h => ⟨h.1.symm, h.2.symm⟩, fun h => ⟨h.1.symm, h.2.symm⟩⟩
  rw [hpre]
  simp [hx, hw]
  refine ⟨fun e1 e2 => ?_, fun e => ⟨by omega, ?_⟩⟩
  · refine PCall.borrow (n := 5) (ds := [.ref (scD s i ts), .fn 123 [] []]) (by simp [hx, hy]) ?_
    refine c_run hP s i (by omega) (by omega) ts _ [] [] lineB (call_add hP).2.2 (fun c K h => by simpa using c_sign1 hP c h) ?_
    have hl : ((s.drop i).takeWhile lineB).length = tw lineB s i := rfl
    have hw2 : IntKind.i64.wrap ((i : Int) + tw lineB s i) = (i : Int) + tw lineB s i := IntWalk.i64_in _ (by omega)
    simp [hl, hw2]
    refine ⟨[], by simp, ?_, ?_⟩
    · simp
      exact noMenO_set_box _ _ _ _ _ (hm _) (by simp [hy])
    · have := h1 ⟨e1, by rw [head_drop]; exact e2⟩
      simpa using this
  · have htx : (s.take (i + 1)).drop i = [s[i]?.getD 0] := by
      rw [List.drop_take, Nat.add_sub_cancel_left, drop_cons hi]; rfl
    rw [htx]
    refine c_add hP (y := y) s i 1 3 0 0 _ ts (by omega) hts hx hy ?_
    simp
    refine ⟨[], by simp, ?_, ?_⟩
    · simp
      exact noMenO_set_box _ _ _ _ _ (noMenO_set_arr _ _ _ _ _ _ (hm _)) (by simp [hy])
    · have := h2 (fun e1 => e e1.1 (by rw [← head_drop]; exact e1.2))
      simpa [added] using this
end
end
end Go.Proofs.YtanpgmgkmfckaaaGreatDoor
/- Contracts: Lex. Condition: the program is the seat's. -/
namespace Go.Proofs.YtanpgmgkmfckaaaGreatDoor
open Go Go.Ab Go.Lx
set_option maxRecDepth 100000
section
variable {P : Prg} (hP : P.p = Tryz.prog)
include hP
theorem c_rec0 {ob : Objs} {a b c : Nat} {K : Objs → Prop} (h : K ob) : DCall P 41 [.ptr a [], .ptr b [], .ptr c []] ob none K := by
  refine DCall.of_wf fun _ hm => ?_
  refine dcall_lift hP mixed ok41 lr41 lf41 TOk.nil ?_
  simp [lt41_r, lt41_k, lt41]
  refine ⟨[], by simp, ?_, ?_⟩
  · simp [hm]
  · simpa using h
theorem c_rec1 {ob : Objs} {a b c : Nat} {i : Int} {K : Objs → Prop} {va vb vc : V} {Ea Eb Ec : Nat} (ha : lookO ob a = some (.box Ea va)) (hb : lookO ob b = some (.box Eb vb)) (hc : lookO ob c = some (.box Ec vc)) (sa : va.shape = .leaf) (sb : vb.shape = .leaf) (sc : vc.shape = .leaf)
    (hab : (a == b) = false) (hac : (a == c) = false) (hbc : (b == c) = false) (h : K (setO (setO (setO ob a (.box Ea (.d .nils))) b (.box Eb (.d (.int .i64 i)))) c (.box Ec (.d (.int .i64 90))))) : DCall P 41 [.ptr a [], .ptr b [], .ptr c []] ob (some (.d (.iface 113 (.int .i64 i)))) K := by
  refine DCall.of_wf fun _ hm => ?_
  refine dcall_lift hP mixed ok41 lr41 lf41 TOk.nil ?_
  simp [lt41_r, lt41_k, lt41, lt41_s0, ha, hb, hc, hab, hac, hbc, sa, sb, sc]
  refine ⟨[], by simp, ?_, ?_⟩
  · rw [drop_young_ge (by simp)]
    exact noMenO_set_box _ _ _ _ _ (noMenO_set_box _ _ _ _ _ (noMenO_set_box _ _ _ _ _ (hm _) (by simp)) (by simp)) (by simp)
  · rw [drop_young_ge (by simp)]
    exact h
theorem call_lex : callable P.p 41 = true ∧ callable P.p 43 = true ∧ callable P.p 44 = true ∧ callable P.p 45 = true ∧ callable P.p 46 = true ∧ callable P.p 47 = true := by
  rw [hP]; exact ⟨by kernel_rfl, by kernel_rfl, by kernel_rfl, by kernel_rfl, by kernel_rfl, by kernel_rfl⟩
omit hP in
theorem tbl_shape (f g : Nat → Int) : (tblD f).shape = (tblD g).shape := by
  simp only [tblD, tblL, D.shape, D.shapes_eq, List.map_map, Function.comp_def]
theorem c_Lex (s : List UInt8) {ob : Objs} {K : V → Prop} (h : K (lexV s)) : PCall P 15 [.d (.str s)] ob K := by
  refine pcall_defer_lift hP mixed (ds := [.str s]) ok15 lf15 TOk.nil ?_
  obtain ⟨d0, d1, d2, d3, d4, d5⟩ := call_lex hP
  simp only [lt15, zeros_tbl, agg_tbl]
  simp [d0]
  refine ⟨fun hl => ?_, fun hl => ?_⟩
  · simpa [lexV, show 65536 < s.length by omega] using h
  · have hl' : ¬ 65536 < s.length := by omega
    simp only [lexV, gt_iff_lt, hl', if_false] at h
    refine c_classify hP ?_
    simp [clsD]
    refine ⟨tbl_shape _ _, ?_⟩
    refine ALoop.go (ι := Nat × List Tok) (fun _ => [(0, .d (.str s)), (2, .ptr 0 []), (3, .ptr 1 []), (4, .ptr 2 []), (5, .ptr 3 []), (6, .ptr 5 [])])
      (fun k => [(5, .box 120 (.agg [.fn 43 [.ptr 3 []] [], .fn 44 [.ptr 3 []] [], .fn 45 [.ptr 3 []] [], .fn 46 [.ptr 3 []] [], .fn 47 [.ptr 3 []] []])),
        (4, .arr 44 4 (k.2.map Tok.enc)), (3, .box 119 (scV s k.1 4 k.2.length)), (2, .box 31 (.d (.int .i64 0))), (1, .box 3 (.d (.int .i64 0))), (0, .box 40 (.d .nils))])
      (fun k => k.1 ≤ s.length ∧ k.2.length ≤ k.1 ∧ lexR s 0 = appT k.2 (lexR (s.drop k.1) k.1)) (fun k => s.length - k.1) (0, []) ⟨by simp, by simp, by simp [appT_nil]⟩ rfl (by simp) ?_
    rintro ⟨i, out⟩ ⟨hi, ho, he⟩ R rn re _ rp
    simp only at hi ho he
    have nx : ∀ j out' ob', j ≤ s.length → out'.length ≤ j → lexR s 0 = appT out' (lexR (s.drop j) j) → i < j → ob' = [(5, .box 120 (.agg [.fn 43 [.ptr 3 []] [], .fn 44 [.ptr 3 []] [], .fn 45 [.ptr 3 []] [], .fn 46 [.ptr 3 []] [], .fn 47 [.ptr 3 []] []])),
        (4, .arr 44 4 (out'.map Tok.enc)), (3, .box 119 (scV s j 4 out'.length)), (2, .box 31 (.d (.int .i64 0))), (1, .box 3 (.d (.int .i64 0))), (0, .box 40 (.d .nils))] → R .normal [(0, .d (.str s)), (2, .ptr 0 []), (3, .ptr 1 []), (4, .ptr 2 []), (5, .ptr 3 []), (6, .ptr 5 [])] ob' := fun j out' ob' h1 h2 h3 h4 h6 =>
      rn [] (j, out') _ _ ⟨h1, h2, h3⟩ (by simp only; omega) rfl (by rw [h6]; simp [young]) (by simp [young]) (by simp [young])
    clear rn
    by_cases hlt : i < s.length
    · rw [lexR_at hlt] at he
      generalize hc : s[i]?.getD 0 = c at *
      have hc' : s[i] = c := by rw [← hc]; simp [hlt]
      have hcl := c.toNat_lt
      have hout : (out.map Tok.enc).length ≤ 1000000 := by simp; omega
      have pan : lexR s 0 = .err i → R (.panic (.d (.iface 113 (.int .i64 i)))) [(2, .ptr 0 []), (3, .ptr 1 []), (4, .ptr 2 [])] [(5, .box 120 (.agg [.fn 43 [.ptr 3 []] [], .fn 44 [.ptr 3 []] [], .fn 45 [.ptr 3 []] [], .fn 46 [.ptr 3 []] [], .fn 47 [.ptr 3 []] []])),
        (4, .arr 44 4 (out.map Tok.enc)), (3, .box 119 (scV s i 4 out.length)), (2, .box 31 (.d (.int .i64 0))), (1, .box 3 (.d (.int .i64 0))), (0, .box 40 (.d .nils))] := fun hr => by
        refine rp _ _ _ ?_
        simp
        refine c_rec1 hP (Ea := 40) (Eb := 3) (Ec := 31) (va := .d .nils) (vb := .d (.int .i64 0)) (vc := .d (.int .i64 0)) (by simp) (by simp) (by simp) (by simp) (by simp) (by simp) rfl rfl rfl ?_
        simp
        rw [hr] at h
        exact h
      have hx : ∀ (o5 : Ob), lookO [(5, o5), (4, Ob.arr 44 4 (out.map Tok.enc)), (3, Ob.box 119 (scV s i 4 (out.map Tok.enc).length)), (2, .box 31 (.d (.int .i64 0))), (1, .box 3 (.d (.int .i64 0))), (0, .box 40 (.d .nils))] 3 = some (.box 119 (scV s i 4 (out.map Tok.enc).length)) := fun _ => by simp
      have hcr := cls_range c.toNat hcl
      have cls : ∀ m : Nat, clsF c.toNat = m → (clsF c.toNat).toNat = m := fun m e => by omega
      have g1 := cls_space c.toNat hcl
      have g2 := cls_letter c.toNat hcl
      have g3 := cls_digit c.toNat hcl
      have g4 := cls_sign c.toNat hcl
      have e47 : clsF c.toNat ≠ 4 → ¬ (c = 47 ∧ (s.drop (i + 1)).head? = some 47) := fun hne h => by
        obtain ⟨rfl, _⟩ := h; exact hne (by decide +kernel)
      have key : ∀ m : Int, clsF c.toNat = m → (spaceB c = decide (m = 1)) ∧ (letterB c = decide (m = 2)) ∧ (digitB c = decide (m = 3)) ∧ (signB c = decide (m = 4)) := fun m e => by
        rw [e] at g1 g2 g3 g4
        refine ⟨?_, ?_, ?_, ?_⟩ <;> rw [Bool.eq_iff_iff, decide_eq_true_eq]
        · exact g1.symm
        · exact g2.symm
        · exact g3.symm
        · exact g4.symm
      have htwt : ∀ p : UInt8 → Bool, p c = true → tw p s i = ((s.drop (i + 1)).takeWhile p).length + 1 ∧ (s.drop i).takeWhile p = c :: (s.drop (i + 1)).takeWhile p := fun p hp => by
        refine ⟨(tw_text p hlt (by rw [hc]; exact hp)).2, ?_⟩
        rw [drop_cons hlt, hc, List.takeWhile_cons, if_pos hp]
      rcases (by omega : clsF c.toNat = 0 ∨ clsF c.toNat = 1 ∨ clsF c.toNat = 2 ∨ clsF c.toNat = 3 ∨ clsF c.toNat = 4) with e | e | e | e | e
      · obtain ⟨k1, k2, k3, k4⟩ := key 0 e
        simp only [stp, k1, k2, k3, k4, e47 (by rw [e]; decide), if_false, appT] at he
        simp [lt15_l0, hlt, hc', hcl, show (c.toNat : Int) < 256 by omega, e, d1]
        refine c_other hP s i (out.map Tok.enc) (y := 4) (by simp) ?_
        simp
        exact pan (by simpa using he)
      · obtain ⟨k1, k2, k3, k4⟩ := key 1 e
        simp [stp, k1] at he
        simp [lt15_l0, hlt, hc', hcl, show (c.toNat : Int) < 256 by omega, e, d2]
        refine c_space hP s i (out.map Tok.enc) (by omega) hlt (y := 4) (by simp) (by simp) ?_
        simp
        refine nx (i + 1) out _ (by omega) (by omega) he (by omega) (by simp)
      · obtain ⟨k1, k2, k3, k4⟩ := key 2 e
        have hp : partB c = true := by
          have : letterI c.toNat = true := by simpa [letterB] using k2
          simp [partB, partI, this]
        obtain ⟨t1, t2⟩ := htwt partB hp
        have hle := tw_le partB s i (by omega)
        have k1 : spaceB c = false := by simpa using k1
        have k2 : letterB c = true := by simpa using k2
        simp only [stp, k1, k2, e47 (by rw [e]; decide), Bool.false_eq_true, if_false, if_true] at he
        simp [lt15_l0, hlt, hc', hcl, show (c.toNat : Int) < 256 by omega, e, d3]
        refine c_name hP s i (out.map Tok.enc) (by omega) hlt hout (y := 4) (by simp) (by simp) (fun h5 => ?_) (fun h5 => ?_)
        · simp
          rw [if_neg (by omega)] at he
          exact pan (by simpa [appT] using he)
        · simp [added]
          rw [if_pos (by omega)] at he
          simp only [appT_add] at he
          have hjj : i + ((s.drop (i + 1)).takeWhile partB).length + 1 = i + tw partB s i := by omega
          rw [hjj] at he
          refine nx (i + tw partB s i) (out ++ [⟨1, c :: (s.drop (i + 1)).takeWhile partB, 0, i⟩]) _ (by omega) (by simp; omega) he (by omega) ?_
          simp [Tok.enc, t2]
      · obtain ⟨k1, k2, k3, k4⟩ := key 3 e
        have hp : digitB c = true := by simpa using k3
        obtain ⟨t1, t2⟩ := htwt digitB hp
        have hle := tw_le digitB s i (by omega)
        have k1 : spaceB c = false := by simpa using k1
        have k2 : letterB c = false := by simpa using k2
        simp only [stp, k1, k2, hp, e47 (by rw [e]; decide), Bool.false_eq_true, if_false, if_true] at he
        simp [lt15_l0, hlt, hc', hcl, show (c.toNat : Int) < 256 by omega, e, d4]
        refine c_numberM hP s i (out.map Tok.enc) (by omega) hlt hout (y := 4) (by simp) (by simp) (by rw [hc]; exact hp) (fun h5 => ?_) (fun m h5 => ?_)
        · simp
          rw [t2] at h5
          rw [h5] at he
          exact pan (by simpa [appT] using he)
        · simp [added]
          rw [t2] at h5
          rw [h5] at he
          simp only [appT_add] at he
          have hjj : i + ((s.drop (i + 1)).takeWhile digitB).length + 1 = i + tw digitB s i := by omega
          rw [hjj] at he
          refine nx (i + tw digitB s i) (out ++ [⟨2, [], m, i⟩]) _ (by omega) (by simp; omega) he (by omega) ?_
          simp [Tok.enc]
      · obtain ⟨k1, k2, k3, k4⟩ := key 4 e
        simp [lt15_l0, hlt, hc', hcl, show (c.toNat : Int) < 256 by omega, e, d5]
        refine c_signM hP s i (out.map Tok.enc) (by omega) hlt hout (y := 4) (by simp) (by simp) (by rw [hc]; simpa using k4) (fun h5 => ?_) (fun h5 => ?_)
        · rw [hc] at h5
          obtain ⟨rfl, h6⟩ := h5
          obtain ⟨t1, t2⟩ := htwt lineB rfl
          have hle := tw_le lineB s i (by omega)
          simp only [stp, k1, h6, and_self, if_true, decide_eq_true_eq, show ¬ ((4 : Int) = 1) by decide, if_false] at he
          simp
          have hjj : i + ((s.drop (i + 1)).takeWhile lineB).length + 1 = i + tw lineB s i := by omega
          rw [hjj] at he
          refine nx (i + tw lineB s i) out _ (by omega) (by omega) he (by omega) ?_
          simp
        · rw [hc] at h5
          simp only [stp, k1, k2, k3, k4, h5, if_false, decide_eq_true_eq, show ¬ ((4 : Int) = 1) by decide, show ¬ ((4 : Int) = 2) by decide, show ¬ ((4 : Int) = 3) by decide, if_true, appT_add] at he
          simp [added]
          refine nx (i + 1) (out ++ [⟨3, [c], 0, i⟩]) _ (by omega) (by simp; omega) he (by omega) ?_
          simp [Tok.enc, hc]
    · have hi' : i = s.length := by omega
      subst hi'
      simp [lt15_l0]
      refine re _ _ _ ?_
      simp
      refine c_rec0 hP ?_
      simp
      rw [lexR_nil (Nat.le_refl _)] at he
      rw [he] at h
      simpa [appT, resV, toks] using h
end
end Go.Proofs.YtanpgmgkmfckaaaGreatDoor
/- Contract: Parse. Condition: the program is the seat's, and its intervals are laid. -/
namespace Go.Sx
open Go Go.Ab Go.Lx
def Src.enc (s : Src) : D := .agg [.list 1 (s.issuers.map D.str), .list 5 (s.units.map UnitT.enc), .list 6 (s.schemas.map Schema.enc), .list 5 (s.rules.map Rule.enc), .list 5 (s.converts.map Convert.enc), .list 3 (s.purposes.map Purpose.enc)]
def parseW (en : Int) : R Src → V
  | .ok s _ => .tup [.d s.enc, .d (.int .i64 0), .d (.int .i64 0)]
  | .err ts e => .tup [.d zeroS, .d (.int .i64 (atI en ts)), .d (.int .i64 (failE ts e))]
def parseV (s : B) : V := if s.length > 65536 then .tup [.d zeroS, .d (.int .i64 0), .d (.int .i64 2)] else match lexR s 0 with
  | .err e => .tup [.d zeroS, .d (.int .i64 e), .d (.int .i64 90)]
  | .ok l => parseW s.length (parseR l)
end Go.Sx
namespace Go.Proofs.YtanpgmgkmfckaaaGreatDoor
open Go Go.Ab Go.Lx Go.Sx
set_option maxRecDepth 100000
section
variable {P : Prg} (hP : P.p = Tryz.prog) (hI : Ivl P)
include hP
theorem d_rec0 {ob : Objs} {a b c : Nat} {K : Objs → Prop} (h : K ob) : DCall P 18 [.ptr a [], .ptr b [], .ptr c []] ob none K := by
  refine DCall.of_wf fun _ hm => ?_
  refine dcall_lift hP mixed ok18 lr18 lf18 TOk.nil ?_
  simp [lt18_r, lt18_k, lt18]
  refine ⟨[], by simp, ?_, ?_⟩
  · simp [hm]
  · simpa using h
theorem d_rec1 {en : Int} {ts : List Tok} {s : Src} {i e : Int} {K : Objs → Prop} (h : K (setO (setO (setO (stO en ts s) 0 (.box 30 (.d zeroS))) 1 (.box 3 (.d (.int .i64 i)))) 2 (.box 31 (.d (.int .i64 e))))) : DCall P 18 [.ptr 0 [], .ptr 1 [], .ptr 2 []] (stO en ts s) (some (.d (.iface 60 (.agg [.int .i64 i, .int .i64 e])))) K := by
  refine DCall.of_wf fun _ hm => ?_
  refine dcall_lift hP mixed ok18 lr18 lf18 TOk.nil ?_
  simp [lt18_r, lt18_k, lt18, lt18_s0]
  refine ⟨[], by simp, ?_, ?_⟩
  · simp [young, mensE]
  · simpa [young] using h
theorem call_p : callable P.p 18 = true ∧ callable P.p 19 = true ∧ callable P.p 20 = true ∧ callable P.p 21 = true ∧ callable P.p 22 = true ∧ callable P.p 23 = true ∧ callable P.p 24 = true := by
  rw [hP]; exact ⟨by kernel_rfl, by kernel_rfl, by kernel_rfl, by kernel_rfl, by kernel_rfl, by kernel_rfl, by kernel_rfl⟩
def fnLex : Ab.Fn := ⟨fun vs => match vs with | [.d (.str _)] => True | _ => False, fun vs => match vs with | [.d (.str s)] => lexV s | _ => .any⟩
omit hP in
@[simp] theorem fnLex_val (s : B) : fnLex.val [.d (.str s)] = lexV s := rfl
omit hP in
@[simp] theorem fnLex_pre (s : B) : fnLex.pre [.d (.str s)] = True := rfl
theorem t_Lex : PFn P 15 fnLex := fun vs h ob K hK => by
  match vs, h with
  | [.d (.str s)], _ => exact c_Lex hP s hK
include hI
theorem def_fn (t : B) {x : Src} (hf : Few x) (en : Int) (ts : List Tok) : ((if t = [105, 115, 115, 117, 101, 114] then some (V.fn 19 [] []) else if t = [117, 110, 105, 116] then some (V.fn 20 [] []) else if t = [115, 99, 104, 101, 109, 97] then some (V.fn 21 [] []) else if t = [100, 101, 114, 105, 118, 101] then some (V.fn 22 [] []) else if t = [99, 111, 110, 118, 101, 114, 116] then some (V.fn 23 [] []) else if t = [112, 117, 114, 112, 111, 115, 101] then some (V.fn 24 [] []) else none) = none ∧ defH t x = fail 100) ∨ ∃ f, (if t = [105, 115, 115, 117, 101, 114] then some (V.fn 19 [] []) else if t = [117, 110, 105, 116] then some (V.fn 20 [] []) else if t = [115, 99, 104, 101, 109, 97] then some (V.fn 21 [] []) else if t = [100, 101, 114, 105, 118, 101] then some (V.fn 22 [] []) else if t = [99, 111, 110, 118, 101, 114, 116] then some (V.fn 23 [] []) else if t = [112, 117, 114, 112, 111, 115, 101] then some (V.fn 24 [] []) else none) = some (V.fn f [] []) ∧ callable P.p f = true ∧ ∀ K, PS K en (defH t x ts) → ACall P f [.ptr 4 []] (stO en ts x) K := by
  obtain ⟨d0, d1, d2, d3, d4, d5, d6⟩ := call_p hP
  unfold defH
  by_cases h0 : t = [105, 115, 115, 117, 101, 114]
  · simp only [h0, if_true, if_false]
    refine .inr ⟨_, rfl, d1, fun K h => ?_⟩
    exact y_issuer hP hI hf h
  by_cases h1 : t = [117, 110, 105, 116]
  · simp only [h0, h1, if_true, if_false]
    refine .inr ⟨_, rfl, d2, fun K h => ?_⟩
    exact y_unit hP hI hf h
  by_cases h2 : t = [115, 99, 104, 101, 109, 97]
  · simp only [h0, h1, h2, if_true, if_false]
    refine .inr ⟨_, rfl, d3, fun K h => ?_⟩
    exact y_schema hP hI hf h
  by_cases h3 : t = [100, 101, 114, 105, 118, 101]
  · simp only [h0, h1, h2, h3, if_true, if_false]
    refine .inr ⟨_, rfl, d4, fun K h => ?_⟩
    exact y_rule hP hI hf h
  by_cases h4 : t = [99, 111, 110, 118, 101, 114, 116]
  · simp only [h0, h1, h2, h3, h4, if_true, if_false]
    refine .inr ⟨_, rfl, d5, fun K h => ?_⟩
    exact y_convert hP hI hf h
  by_cases h5 : t = [112, 117, 114, 112, 111, 115, 101]
  · simp only [h0, h1, h2, h3, h4, h5, if_true, if_false]
    refine .inr ⟨_, rfl, d6, fun K h => ?_⟩
    exact y_purpose hP hI hf h
  · simp only [h0, h1, h2, h3, h4, h5, if_false]
    exact .inl ⟨trivial, trivial⟩
theorem c_Parse (s : B) {ob : Objs} {K : V → Prop} (h : K (parseV s)) : PCall P 9 [.d (.str s)] ob K := by
  refine pcall_defer_lift hP mixed (ds := [.str s]) ok9 lf9 (TOk.cons (t_Lex hP) TOk.nil) ?_
  obtain ⟨d0, d1, d2, d3, d4, d5, d6⟩ := call_p hP
  by_cases hl : 65536 < s.length
  · simp only [parseV, gt_iff_lt, hl, if_true] at h
    simp [lt9, d0, lexV, hl]
    exact h
  · simp only [parseV, gt_iff_lt, hl, if_false] at h
    cases hr : lexR s 0 with
    | err e =>
      simp only [hr] at h
      simp [lt9, d0, lexV, hl, hr, resV]
      exact h
    | ok l =>
      simp only [hr] at h
      simp [lt9, d0, lexV, hl, hr, resV, toks]
      refine ALoop.go (ι := Src × List Tok) (fun _ => [(2, .ptr 0 []), (3, .ptr 1 []), (4, .ptr 2 []), (6, .mp 3), (7, .ptr 4 [])])
        (fun j => stO s.length j.2 j.1) (fun j => Few j.1 ∧ parseL j.2.length j.1 j.2 = parseR l) (fun j => j.2.length) (src0, l) ⟨few0, rfl⟩ (by simp) (by simp) ?_
      rintro ⟨x, ts⟩ ⟨hf, he⟩ R rn re rr rp
      dsimp only at hf he rn
      cases ts with
      | nil =>
        rw [parseL_nil] at he
        rw [← he] at h
        simp [lt9_l1]
        refine re _ _ _ ?_
        simp
        refine d_rec0 hP ?_
        simp
        exact h
      | cons t r =>
        have pan : ∀ (ts' : List Tok) (e : Int) (s' : Src), parseR l = .err ts' e → R (.panic (.d (failD s.length ts' e))) [(2, .ptr 0 []), (3, .ptr 1 []), (4, .ptr 2 [])] (stO s.length ts' s') := fun ts' e s' hr => by
          refine rp _ _ _ ?_
          simp
          refine d_rec1 hP ?_
          simp
          rw [hr] at h
          exact h
        rw [List.length_cons, parseL_cons, bind_eq] at he
        simp [lt9_l1, Tok.enc]
        have hd := def_fn hP hI t.text hf s.length (t :: r)
        generalize (if t.text = [105, 115, 115, 117, 101, 114] then _ else _ : Option V) = fo at hd ⊢
        rcases hd with ⟨rfl, hd⟩ | ⟨f, rfl, hc, hd⟩
        · simp
          refine y_fail hP (S := srcV x) (ts := t :: r) (en := s.length) (by simp) (by simp) _ ?_
          simp
          refine pan _ _ _ ?_
          rw [← he]
          simp only [defM, hd, fail, ite_self]
        · by_cases hk : t.kind = 1
          · simp [hk, lt9_s0, hc]
            refine hd _ ?_
            simp only [defM, hk, if_true] at he
            cases hx : defH t.text x (t :: r) with
            | err ts' e =>
              simp only [hx] at he
              intro s'
              exact pan _ _ _ he.symm
            | ok x' ts' =>
              simp only [hx] at he
              have hl := (ge_defH _ _).2 _ _ _ hx
              refine rn [] (x', ts') _ _ ⟨defH_few hf hx, ?_⟩ hl (by simp) (by simp [young]) (by simp [young]) (by simp [young, mensE])
              simp only [List.length_cons] at hl
              rw [← parseL_fuel r.length x' ts' (by omega)]
              exact he
          · simp [hk]
            refine y_fail hP (S := srcV x) (ts := t :: r) (en := s.length) (by simp) (by simp) _ ?_
            simp
            refine pan _ _ _ ?_
            rw [← he]
            simp only [defM, hk, if_false]
end
end Go.Proofs.YtanpgmgkmfckaaaGreatDoor
/- The lexer by fuel, to be computed. No program. -/
namespace Go.Lx
open Go Go.Ab
def lexF : Nat → List UInt8 → Nat → Res
  | 0, _, _ => .ok []
  | _, [], _ => .ok []
  | f + 1, c :: r, off => match stp c r with
    | .skip n => lexF f (r.drop n) (off + n + 1)
    | .tok k t m n => addT ⟨k, t, m, off⟩ (lexF f (r.drop n) (off + n + 1))
    | .err => .err off
theorem lexF_eq : ∀ (f : Nat) (s : List UInt8) (off : Nat), s.length ≤ f → lexF f s off = lexR s off
  | 0, s, off, h => by
    have : s = [] := List.length_eq_zero_iff.1 (by omega)
    subst this; simp [lexF, lexR]
  | f + 1, [], off, h => by simp [lexF, lexR]
  | f + 1, c :: r, off, h => by
    rw [lexF, lexR]
    have hl : ∀ n, (r.drop n).length ≤ f := fun n => by simp at h ⊢; omega
    split
    · rw [lexF_eq f _ _ (hl _)]; simp_all
    · rw [lexF_eq f _ _ (hl _)]; simp_all
    · simp_all
end Go.Lx
/- strings.Builder: copyCheck, walked (the shelf's body has a panic where this dump refuses). Condition: the program is the seat's. -/
namespace Go.Proofs.YtanpgmgkmfckaaaGreatDoor
open Go Go.Ab Go.Lx
set_option maxRecDepth 100000
open Go.RowKit in
set_option maxHeartbeats 1000000 in
theorem cc_used (b : Nat) (w : World) (h0 : w.cell? ⟨b, 0, none⟩ = some (.pointer (some ⟨b, 0, none⟩))) :
    Calls Tryz.prog 171 #[.pointer (some ⟨b, 0, none⟩)] w fun e w' => e = .returned (.tuple #[]) ∧ w' = w := by
  have hX : (Tryz.prog.info? 184).map (·.size) = some 2 := by kernel_rfl
  obtain ⟨j, hj, _⟩ := Option.map_eq_some_iff.1 hX
  go_enter Tryz.func171, Tryz.ntmps171
  go_wp2
  rw [Lib.run_neq_ptr_same w _ Tryz.underlying181 hj]
  go_wp2
  go_end0
  exact ⟨rfl, rfl⟩
open Go.RowKit in
set_option maxHeartbeats 1000000 in
theorem cc_fresh (b : Nat) (w : World) (h0 : w.cell? ⟨b, 0, none⟩ = some (.pointer none)) (hsh : w.shape? b = some (184, 2)) (hfz : w.frozen? ⟨b, 0, none⟩ = false) :
    Calls Tryz.prog 171 #[.pointer (some ⟨b, 0, none⟩)] w fun e w' => e = .returned (.tuple #[]) ∧ w' = w.setCell ⟨b, 0, none⟩ (.pointer (some ⟨b, 0, none⟩)) := by
  have hX : (Tryz.prog.info? 184).map (·.size) = some 2 := by kernel_rfl
  have hY : liesAt Tryz.prog Tryz.prog.depth 184 (2 / Tryz.prog.cellsOf 184) 0 184 1 = true := by kernel_rfl
  obtain ⟨j, hj, hjs⟩ := Option.map_eq_some_iff.1 hX
  go_enter Tryz.func171, Tryz.ntmps171
  go_wp2
  rw [Lib.run_to_unsafe w ⟨b, 0, none⟩ Tryz.underlying181 Tryz.underlying254 hj (by rw [hjs]; decide) hsh (Nat.zero_lt_succ 1)]
  simp only [Result.andThen]
  rw [Oper.upon_value]
  go_wp2
  rw [run_callFunc_extern Tryz.func183 (by kernel_rfl) (by kernel_rfl) (by kernel_rfl) (e := Extern.AbiNoEscape.same) (by kernel_rfl)]
  rw [Lib.run_noEscape]
  simp only [Result.andThen]
  rw [Oper.upon_value]
  go_wp2
  rw [Lib.run_from_unsafe w ⟨b, 0, none⟩ Tryz.underlying254 Tryz.underlying181 hj hsh hY]
  simp only [Result.andThen]
  rw [Oper.upon_value]
  go_wp2
  go_end0
  exact ⟨rfl, rfl⟩
theorem bytesD_len : ∀ t : List UInt8, (bytesD t).length = t.length
  | [] => rfl
  | _ :: r => by simp [bytesD, bytesD_len r]
theorem bytesD_app : ∀ s t : List UInt8, bytesD (s ++ t) = bytesD s ++ bytesD t
  | [], _ => rfl
  | _ :: r, t => by simp [bytesD, bytesD_app r t]
theorem noMenO_set_gone {ob : Objs} (ids : Nat → Bool) (k : Nat) (h : noMenO ids ob = true) : noMenO ids (setO ob k .gone) = true := by
  induction ob with
  | nil => rfl
  | cons e r ih =>
    obtain ⟨j, o⟩ := e
    simp only [setO]
    split
    · cases o <;> simp_all [noMenO]
    · cases o <;> simp_all [noMenO]
section
variable {P : Prg} (hP : P.p = Tryz.prog)
include hP
theorem c_cc0 {ob : Objs} {x : Nat} (hx : lookO ob x = some (.box 184 (.d (.agg [.nilp, .nils])))) {K : Out → Objs → Prop} (h : K (.ret (.tup [])) (setO ob x (.box 184 (.agg [.ptr x [], .d .nils])))) : ACall P 171 [.ptr x []] ob K := by
  refine ⟨fun w ρ args ho hg hr => ?_⟩
  obtain ⟨b, cs, h1, h2, h3⟩ := ho.one x _ hx
  simp only [V.repC, D.rep, D.repL] at h3
  obtain ⟨c1, c2, rfl, rfl, c3, c4, rfl, rfl, rfl⟩ := h3
  simp only [V.reps, ↓reduceCtorEq, false_or] at hr
  obtain ⟨u, us, rfl, hu, rfl⟩ := hr
  have hu' : (V.ptr x []).rep w ρ u := hu.elim (fun h => .inr (.inl h)) (fun h => .inr (.inr h))
  obtain ⟨b', sh, g1, g2⟩ := rep_ptr_box ho hx hu'
  rw [h1] at g1; simp only [Option.some.injEq, RO.box.injEq] at g1
  obtain ⟨rfl, rfl⟩ := g1
  have hoff : Sh.off (V.d (.agg [.nilp, .nils])).shape [] = 0 := rfl
  rw [hoff] at g2; subst g2
  rw [hP]
  have hre : (V.agg [.ptr x [], .d .nils]).repC w ρ [.pointer (some ⟨b, 0, none⟩), .slice none 0 0] := by
    simp only [V.repC, V.repCs, D.rep]
    exact ⟨[_], [_], rfl, .inl ⟨b, _, h1, rfl⟩, [_], [], rfl, rfl, rfl⟩
  obtain ⟨t1, o1⟩ := write_box (t' := .agg [.ptr x [], .d .nils]) ho hx h1 h2 rfl hre
  refine (cc_fresh b w (by simp [World.cell?, h2]) (by simp [World.shape?, h2]) (by simp [World.frozen?, h2])).mono ?_
  rintro e w' ⟨rfl, rfl⟩
  have hw : w.setCell ⟨b, 0, none⟩ (.pointer (some ⟨b, 0, none⟩)) = w.setRow b [.pointer (some ⟨b, 0, none⟩), .slice none 0 0].toArray := by
    simp only [World.setCell, World.setRow]
    congr 1
    apply Array.ext_getElem?
    intro i
    simp only [Array.getElem?_modify]
    split
    · rename_i e; subst e; rw [h2]; simp
    · rfl
  rw [hw]
  exact ⟨_, _, ρ, h, rep_tup.2 ⟨[], rfl, rfl⟩, o1, t1⟩
theorem c_cc1 {ob : Objs} {x : Nat} {v : V} (hx : lookO ob x = some (.box 184 (.agg [.ptr x [], v]))) {K : Out → Objs → Prop} (h : K (.ret (.tup [])) ob) : ACall P 171 [.ptr x []] ob K := by
  refine ⟨fun w ρ args ho hg hr => ?_⟩
  obtain ⟨b, cs, h1, h2, h3⟩ := ho.one x _ hx
  simp only [V.repC, V.repCs] at h3
  obtain ⟨c1, c2, rfl, h3, _⟩ := h3
  rcases h3 with ⟨b', sh, h4, rfl⟩ | ⟨h4, _⟩
  · rw [h1] at h4; simp only [Option.some.injEq, RO.box.injEq] at h4
    obtain ⟨rfl, rfl⟩ := h4
    simp only [V.reps, ↓reduceCtorEq, false_or] at hr
    obtain ⟨u, us, rfl, hu, rfl⟩ := hr
    have hu' : (V.ptr x []).rep w ρ u := hu.elim (fun h => .inr (.inl h)) (fun h => .inr (.inr h))
    obtain ⟨b', sh, g1, g2⟩ := rep_ptr_box ho hx hu'
    rw [h1] at g1; simp only [Option.some.injEq, RO.box.injEq] at g1
    obtain ⟨rfl, rfl⟩ := g1
    have hoff : Sh.off (V.agg [.ptr x [], v]).shape [] = 0 := rfl
    rw [hoff] at g2; subst g2
    rw [hP]
    refine (cc_used b w (by rw [hoff] at h2; simp [World.cell?, h2])).mono ?_
    rintro e w' ⟨rfl, rfl⟩
    exact ⟨_, _, ρ, h, rep_tup.2 ⟨[], rfl, rfl⟩, ho, .refl _ _⟩
  · rw [h1] at h4; cases h4
theorem c_wb {ob : Objs} {x y : Nat} {c : Int} {l : List D} (hx : lookO ob x = some (.box 184 (.agg [.ptr x [], .sl y l.length]))) (hy : lookO ob y = some (.arr 5 1 l)) (hl : l.length ≤ 100000000) {K : Out → Objs → Prop} (h : K (.ret (.d .nili)) (setO (setO ob y (.arr 5 1 (l ++ [.int .u8 c]))) x (.box 184 (.agg [.ptr x [], .sl y (l.length + 1)])))) : ACall P 113 [.ptr x [], .d (.int .u8 c)] ob K := by
  have hxy : (y == x) = false := by rw [beq_eq_false_iff_ne]; intro e; subst e; rw [hx] at hy; cases hy
  have hyx : (x == y) = false := by rw [beq_eq_false_iff_ne]; intro e; subst e; rw [hx] at hy; cases hy
  refine acall_lift hP mixed ok113 lf113 TOk.nil ?_
  intro _ hm
  simp [lt113, hx]
  refine c_cc1 hP hx ?_
  simp [hx, hy, hxy, hyx]
  refine ⟨by omega, [], by simp, ?_, ?_⟩
  · simp
    exact noMenO_set_box _ _ _ _ _ (noMenO_set_arr _ _ _ _ _ _ (hm _)) (by simp [hx, hy])
  · simpa using h
theorem c_ws {ob : Objs} {x y : Nat} {t : List UInt8} {l : List D} (hx : lookO ob x = some (.box 184 (.agg [.ptr x [], .sl y l.length]))) (hy : lookO ob y = some (.arr 5 1 l)) (hl : l.length + t.length ≤ 100000000) {K : Out → Objs → Prop} (h : K (.ret (.tup [.d (.int .i64 t.length), .d .nili])) (setO (setO ob y (.arr 5 1 (l ++ bytesD t))) x (.box 184 (.agg [.ptr x [], .sl y (l.length + t.length)])))) : ACall P 114 [.ptr x [], .d (.str t)] ob K := by
  have hxy : (y == x) = false := by rw [beq_eq_false_iff_ne]; intro e; subst e; rw [hx] at hy; cases hy
  have hyx : (x == y) = false := by rw [beq_eq_false_iff_ne]; intro e; subst e; rw [hx] at hy; cases hy
  refine acall_lift hP mixed ok114 lf114 TOk.nil ?_
  intro _ hm
  simp [lt114, hx]
  refine c_cc1 hP hx ?_
  simp [hx, hy, hxy, hyx, bytesD_len]
  refine ⟨by omega, [], by simp, ?_, ?_⟩
  · simp
    exact noMenO_set_box _ _ _ _ _ (noMenO_set_arr _ _ _ _ _ _ (hm _)) (by simp [hx, hy])
  · simpa using h
theorem c_ws0 {ob : Objs} {x : Nat} {t : List UInt8} (hx : lookO ob x = some (.box 184 (.d (.agg [.nilp, .nils])))) (hl : t.length ≤ 100000000) {K : Out → Objs → Prop} (h : K (.ret (.tup [.d (.int .i64 t.length), .d .nili])) ((fresh ob, .arr 5 1 (bytesD t)) :: (setO ob x (.box 184 (.agg [.ptr x [], .sl (fresh ob) t.length]))))) : ACall P 114 [.ptr x [], .d (.str t)] ob K := by
  refine acall_lift hP mixed ok114 lf114 TOk.nil ?_
  intro _ hm
  simp [lt114, hx]
  refine c_cc0 hP hx ?_
  simp [hx, bytesD_len]
  have hy : young (fresh ob) [fresh ob] (fresh ob) = false := by simp [young]
  refine ⟨by omega, [fresh ob], by simp, ?_, ?_⟩
  · simp [hy]
    exact noMenO_set_box _ _ _ _ _ (hm _) (by simp [hx, hy])
  · simpa [hy] using h
theorem c_bs0 {ob : Objs} {x : Nat} (hx : lookO ob x = some (.box 184 (.d (.agg [.nilp, .nils])))) {K : Out → Objs → Prop} (h : K (.ret (.d (.str []))) ob) : ACall P 116 [.ptr x []] ob K := by
  refine acall_lift hP mixed ok116 lf116 TOk.nil ?_
  intro _ hm
  simp [lt116, hx]
  refine ⟨[], by simp, ?_, ?_⟩
  · simp [hm]
  · simpa using h
theorem c_bs {ob : Objs} {x y : Nat} {t : List UInt8} (hx : lookO ob x = some (.box 184 (.agg [.ptr x [], .sl y t.length]))) (hy : lookO ob y = some (.arr 5 1 (bytesD t))) (h0 : t ≠ []) (hl : t.length ≤ 100000000) {K : Out → Objs → Prop} (h : K (.ret (.d (.str t))) (setO ob y .gone)) : ACall P 116 [.ptr x []] ob K := by
  refine acall_lift hP mixed ok116 lf116 TOk.nil ?_
  intro _ hm
  have hb : bytesD t ≠ [] := by cases t with
    | nil => exact (h0 rfl).elim
    | cons c r => simp [bytesD]
  simp [lt116, hx, hy, bytesD_len, hb]
  have e1 : ∃ E z xs, (5 = E ∧ 1 = z ∧ bytesD t = xs) ∧ t.length = xs.length := ⟨_, _, _, ⟨rfl, rfl, rfl⟩, (bytesD_len t).symm⟩
  have e2 : ∃ E sz xs, (5 = E ∧ 1 = sz ∧ bytesD t = xs) ∧ ¬sz = 0 ∧ t.length = xs.length ∧ ¬xs = [] := ⟨_, _, _, ⟨rfl, rfl, rfl⟩, by decide, (bytesD_len t).symm, hb⟩
  first | refine ⟨e1, e2, e1, e2, by omega, t, rfl, [], by simp, ?_, ?_⟩ | refine ⟨e2, by omega, t, rfl, [], by simp, ?_, ?_⟩
  · simp
    exact noMenO_set_gone _ _ (hm _)
  · simpa using h
end
end Go.Proofs.YtanpgmgkmfckaaaGreatDoor
/- Laid by the kit's lay-shelf.mjs and lay-plain.mjs (a tool's print), cut down by shl.py. -/
namespace Go.Proofs
open Go.Shelf
def Tryz.laysM171_ren : Go.Shelf.Ren := ⟨fun | 171 => 115 | 243 => 172 | 246 => 184 | 283 => 186 | 284 => 187 | 285 => 188 | 286 => 189 | 129 => 195 | 317 => 194 | 318 => 196 | 319 => 197 | 320 => 198 | 337 => 201 | 338 => 202 | n => n, fun | 3 => 3 | 9 => 9 | 2 => 2 | 4 => 4 | 171 => 257 | 0 => 0 | 53 => 258 | 37 => 182 | 5 => 5 | 173 => 261 | 212 => 267 | 51 => 268 | 20 => 20 | 213 => 269 | 46 => 265 | 232 => 274 | 233 => 275 | n => n, fun | 17 => 6 | 18 => 7 | 19 => 8 | n => n⟩
theorem Tryz.laysM171 : Go.Proofs.LaysM.n171 Tryz.prog Tryz.laysM171_ren := {
  mixed := by kernel_rfl
  f129 := Tryz.func195.trans (congrArg some (by kernel_rfl))
  f171 := Tryz.func115.trans (congrArg some (by kernel_rfl))
  f243 := Tryz.func172.trans (congrArg some (by kernel_rfl))
  f246 := Tryz.func184.trans (congrArg some (by kernel_rfl))
  f283 := Tryz.func186.trans (congrArg some (by kernel_rfl))
  f284 := Tryz.func187.trans (congrArg some (by kernel_rfl))
  f285 := Tryz.func188.trans (congrArg some (by kernel_rfl))
  f286 := Tryz.func189.trans (congrArg some (by kernel_rfl))
  f317 := Tryz.func194.trans (congrArg some (by kernel_rfl))
  f318 := Tryz.func196.trans (congrArg some (by kernel_rfl))
  f319 := Tryz.func197.trans (congrArg some (by kernel_rfl))
  f320 := Tryz.func198.trans (congrArg some (by kernel_rfl))
  f337 := Tryz.func201.trans (congrArg some (by kernel_rfl))
  f338 := Tryz.func202.trans (congrArg some (by kernel_rfl))
  t0 := Tryz.underlying0
  a0 := Tryz.isAgg0
  z0 := Tryz.sizeOf0
  v0 := Tryz.zeroValue0
  t2 := Tryz.underlying2
  a2 := Tryz.isAgg2
  z2 := Tryz.sizeOf2
  v2 := Tryz.zeroValue2
  t3 := Tryz.underlying3
  a3 := Tryz.isAgg3
  z3 := Tryz.sizeOf3
  v3 := Tryz.zeroValue3
  t4 := Tryz.underlying4
  a4 := Tryz.isAgg4
  z4 := Tryz.sizeOf4
  v4 := Tryz.zeroValue4
  t5 := Tryz.underlying5
  a5 := Tryz.isAgg5
  z5 := Tryz.sizeOf5
  v5 := Tryz.zeroValue5
  t9 := Tryz.underlying9
  a9 := Tryz.isAgg9
  z9 := Tryz.sizeOf9
  v9 := Tryz.zeroValue9
  t20 := Tryz.underlying20
  a20 := Tryz.isAgg20
  z20 := Tryz.sizeOf20
  v20 := Tryz.zeroValue20
  t37 := Tryz.underlying182
  a37 := Tryz.isAgg182
  z37 := Tryz.sizeOf182
  v37 := Tryz.zeroValue182
  t46 := Tryz.underlying265
  a46 := Tryz.isAgg265
  z46 := Tryz.sizeOf265
  v46 := Tryz.zeroValue265
  t51 := Tryz.underlying268
  a51 := Tryz.isAgg268
  z51 := Tryz.sizeOf268
  v51 := Tryz.zeroValue268
  t53 := Tryz.underlying258
  a53 := Tryz.isAgg258
  z53 := Tryz.sizeOf258
  v53 := Tryz.zeroValue258
  t171 := Tryz.underlying257
  a171 := Tryz.isAgg257
  z171 := Tryz.sizeOf257
  v171 := Tryz.zeroValue257
  t173 := Tryz.underlying261
  a173 := Tryz.isAgg261
  z173 := Tryz.sizeOf261
  v173 := Tryz.zeroValue261
  t212 := Tryz.underlying267
  a212 := Tryz.isAgg267
  z212 := Tryz.sizeOf267
  v212 := Tryz.zeroValue267
  t213 := Tryz.underlying269
  a213 := Tryz.isAgg269
  z213 := Tryz.sizeOf269
  t232 := Tryz.underlying274
  a232 := Tryz.isAgg274
  z232 := Tryz.sizeOf274
  v232 := Tryz.zeroValue274
  t233 := Tryz.underlying275
  a233 := Tryz.isAgg275
  z233 := Tryz.sizeOf275
  v233 := Tryz.zeroValue275
  g17 := by kernel_rfl
  g18 := by kernel_rfl
  g19 := by kernel_rfl
  i0 := by kernel_rfl
  i2 := by kernel_rfl
  i3 := by kernel_rfl
  i4 := by kernel_rfl
  i5 := by kernel_rfl
  i9 := by kernel_rfl
  i20 := by kernel_rfl
  i37 := by kernel_rfl
  i46 := by kernel_rfl
  i51 := by kernel_rfl
  i53 := by kernel_rfl
  i171 := by kernel_rfl
  i173 := by kernel_rfl
  i212 := by kernel_rfl
  i232 := by kernel_rfl
  i233 := by kernel_rfl
  m17 := by kernel_rfl
  m18 := by kernel_rfl
  m19 := by kernel_rfl }
open Go.RowKit Go.Sort Go.Lib in
theorem Tryz.strconv_Itoa (n : Int) (h0 : -9223372036854775808 ≤ n) (h1 : n ≤ 9223372036854775807) (w : World) (htab : Lib.TabIs Tryz.prog w "internal/strconv.uint64pow10" .u64 Lib.pow10Tab) :
    Calls Tryz.prog 115 #[.int .i64 n] w fun e w' => e = .returned (.string ⟨(Lib.itoa n).toArray⟩) ∧ ∃ k os, w' = grow (w.drewN k) os := Any.strconv_Itoa Tryz.laysM171 n h0 h1 w htab
def Tryz.lays144_ren : Go.Shelf.Ren := ⟨fun | 144 => 170 | 143 => 182 | 219 => 185 | 217 => 190 | 225 => 191 | 224 => 192 | 267 => 193 | 266 => 199 | 314 => 200 | n => n, fun | 9 => 9 | 4 => 4 | 3 => 3 | 5 => 5 | 46 => 265 | 146 => 271 | 51 => 268 | n => n, fun | 1 => 5 | n => n⟩
theorem Tryz.lays144 : Go.Proofs.Lays.n144 Tryz.prog Tryz.lays144_ren := {
  mixed := by kernel_rfl
  f143 := Tryz.func182.trans (congrArg some (by kernel_rfl))
  f144 := Tryz.func170.trans (congrArg some (by kernel_rfl))
  f217 := Tryz.func190.trans (congrArg some (by kernel_rfl))
  f219 := Tryz.func185.trans (congrArg some (by kernel_rfl))
  f224 := Tryz.func192.trans (congrArg some (by kernel_rfl))
  f225 := Tryz.func191.trans (congrArg some (by kernel_rfl))
  f266 := Tryz.func199.trans (congrArg some (by kernel_rfl))
  f267 := Tryz.func193.trans (congrArg some (by kernel_rfl))
  f314 := Tryz.func200.trans (congrArg some (by kernel_rfl))
  t3 := Tryz.underlying3
  a3 := Tryz.isAgg3
  z3 := Tryz.sizeOf3
  v3 := Tryz.zeroValue3
  t4 := Tryz.underlying4
  a4 := Tryz.isAgg4
  z4 := Tryz.sizeOf4
  v4 := Tryz.zeroValue4
  t5 := Tryz.underlying5
  a5 := Tryz.isAgg5
  z5 := Tryz.sizeOf5
  v5 := Tryz.zeroValue5
  t9 := Tryz.underlying9
  a9 := Tryz.isAgg9
  z9 := Tryz.sizeOf9
  v9 := Tryz.zeroValue9
  t46 := Tryz.underlying265
  a46 := Tryz.isAgg265
  z46 := Tryz.sizeOf265
  v46 := Tryz.zeroValue265
  t51 := Tryz.underlying268
  a51 := Tryz.isAgg268
  z51 := Tryz.sizeOf268
  v51 := Tryz.zeroValue268
  t146 := Tryz.underlying271
  a146 := Tryz.isAgg271
  z146 := Tryz.sizeOf271
  v146 := Tryz.zeroValue271
  g1 := by kernel_rfl }
open Go.RowKit Go.Lib in
theorem Tryz.strings_Contains_one (s : ByteArray) (c : UInt8) (w : World) :
    Calls Tryz.prog 170 #[.string s, .string ⟨#[c]⟩] w fun e w' => e = .returned (.bool (decide (0 ≤ Lib.indexByte s.data.toList c))) ∧ w' = w := Any.strings_Contains_one Tryz.lays144 s c w
end Go.Proofs
/- Contracts: strings.Contains at one byte, strconv.Itoa, which tokens are valid, decimal digits. Condition: the program is the seat's; the powers of ten are laid. -/
namespace Go.Lx
open Go Go.Ab
def hasB (s : List UInt8) (c : UInt8) : Bool := s.any fun b => b == c
def fnC : Ab.Fn := ⟨fun vs => match vs with | [.d (.str _), .d (.str t)] => t.length = 1 | _ => False, fun vs => match vs with | [.d (.str s), .d (.str t)] => .d (.bool (hasB s (t.headD 0))) | _ => .any⟩
@[simp] theorem fnC_pre (s t : List UInt8) : fnC.pre [.d (.str s), .d (.str t)] = (t.length = 1) := by simp only [fnC]
@[simp] theorem fnC_val (s t : List UInt8) : fnC.val [.d (.str s), .d (.str t)] = .d (.bool (hasB s (t.headD 0))) := by simp only [fnC]
def validB (t : Tok) : Bool :=
  if t.kind = 1 then nameB t.text && decide (t.n = 0)
  else if t.kind = 2 then decide (t.text = []) && decide (0 ≤ t.n) && decide (t.n ≤ 1099511627776)
  else if t.kind = 3 then decide (t.text.length = 1) && signB (t.text.headD 0) && decide (t.n = 0)
  else false
def Pow (P : Prg) : Prop := ∃ T f, P.g 6 = some (.cells (Lib.pow10Tab.map fun z => Value.int .u64 z).toArray T f)
theorem ext_grow (w : World) (k : Nat) (os : Array Obj) : Ext w (Go.Sort.grow (w.drewN k) os) := by
  refine ⟨by simp [Go.Sort.grow], fun b hb => ?_, rfl, rfl, rfl⟩
  simp [Go.Sort.grow, Array.getElem?_append, hb]
theorem any_index (s : List UInt8) (c : UInt8) : decide (0 ≤ Lib.indexByte s c) = hasB s c := by
  unfold hasB
  induction s with
  | nil => rfl
  | cons b r ih =>
    have hg := Lib.indexByte_ge r c
    simp only [Lib.indexByte, List.any_cons, ← ih]
    by_cases h : b == c
    · simp [h]
    · simp only [h]
      by_cases h2 : Lib.indexByte r c = -1
      · simp [h2]
      · have h3 : (Lib.indexByte r c == -1) = false := by simp [h2]
        simp only [h3, Bool.false_or]
        have : 0 ≤ Lib.indexByte r c := by omega
        simp [this]; omega
theorem hasB_signs (c : UInt8) : hasB [123, 125, 40, 41, 59, 44, 61, 35, 47, 60, 33, 45, 46, 58, 43] c = signB c := by
  unfold hasB signB signI signs
  congr 1
  funext b
  rw [Bool.eq_iff_iff]
  simp only [beq_iff_eq, decide_eq_true_eq, Int.natCast_inj]
  constructor
  · intro h; rw [h]
  · intro h; exact UInt8.toNat_inj.1 h
theorem len1 (s : List UInt8) : decide ((s.length : Int) = 1) = decide (s.length = 1) := by
  rw [Bool.eq_iff_iff]; simp only [decide_eq_true_eq]; omega
theorem head0 (s : List UInt8) : s[0]? = s.head? := by cases s <;> rfl
end Go.Lx
namespace Go.Proofs.YtanpgmgkmfckaaaGreatDoor
open Go Go.Ab Go.Lx
set_option maxRecDepth 100000
section
variable {P : Prg} (hP : P.p = Tryz.prog)
include hP
theorem c_Contains : PFn P 170 fnC := by
  intro vs hp ob K hK
  simp only [fnC] at hp hK
  split at hp
  · rename_i s t
    simp only at hK
    match t, hp with
    | [c], _ =>
      refine ⟨fun w ρ args ho hg hr => ?_⟩
      simp only [V.reps, ↓reduceCtorEq, false_or, V.isAgg, Bool.false_eq_true, false_and, V.repC, D.rep, true_and, List.cons.injEq, and_true] at hr
      obtain ⟨u, us, rfl, hu, u2, us2, rfl, hu2, rfl⟩ := hr
      subst hu; subst hu2
      rw [hP]
      refine (Tryz.strings_Contains_one ⟨s.toArray⟩ c w).mono ?_
      rintro e w' ⟨rfl, rfl⟩
      refine ⟨_, _, hK, rfl, ?_, Ext.refl w'⟩
      rw [rep_bool, any_index]
      rfl
  · exact hp.elim
theorem c_Itoa (hT : Pow P) (n : Int) (h0 : 0 ≤ n) (h1 : n ≤ 9223372036854775807) {ob : Objs} {K : V → Prop} (h : K (.d (.str (Lib.itoa n)))) : PCall P 115 [.d (.int .i64 n)] ob K := by
  refine ⟨fun w ρ args ho hg hr => ?_⟩
  simp only [V.reps, ↓reduceCtorEq, false_or, V.isAgg, Bool.false_eq_true, false_and, V.repC, D.rep, true_and, List.cons.injEq, and_true] at hr
  obtain ⟨u, us, rfl, hu, rfl⟩ := hr
  subst hu
  rw [hP]
  obtain ⟨T, f, hT⟩ := hT
  have hb := (ho.glb 6 _ (by rw [hg, hT])).1
  have htab : Lib.TabIs Tryz.prog w "internal/strconv.uint64pow10" .u64 Lib.pow10Tab := by
    have hn : Tryz.prog.globalNamed "internal/strconv.uint64pow10" = some 6 := by kernel_rfl
    simp only [Lib.TabIs, World.var?, hn, Option.bind_some, hb]
  refine (Tryz.strconv_Itoa n (by omega) h1 w htab).mono ?_
  rintro e w' ⟨rfl, k, os, rfl⟩
  exact ⟨_, _, h, rfl, rep_str.2 rfl, ext_grow w k os⟩
theorem c_valid (t : Tok) {ob : Objs} {K : V → Prop} (h : K (.d (.bool (validB t)))) : PCall P 112 [.d t.enc] ob K := by
  refine pcall_lift hP mixed (ds := [t.enc]) ok112 lf112 (TOk.cons (c_Name hP) (TOk.cons (c_Contains hP) TOk.nil)) ?_
  have h' : ∀ x, x = validB t → K (.d (.bool x)) := fun b e => e ▸ h
  clear h
  obtain ⟨k, s, n, i⟩ := t
  simp [lt112, Tok.enc, hasB_signs]
  refine ⟨fun h1 => h' _ ?_, fun h1 => ⟨fun h2 => h' _ ?_, fun h2 => ⟨fun h3 => ⟨fun h4 => by omega, h' _ ?_⟩, fun h3 => h' _ ?_⟩⟩⟩
  · subst h1; simp [validB, Bool.beq_eq_decide_eq]
  · subst h2; simp [validB]
  · subst h3; simp [validB, Bool.beq_eq_decide_eq, len1, signB, head0]
  · simp [validB, h1, h2, h3]
end
end Go.Proofs.YtanpgmgkmfckaaaGreatDoor
/- Plain facts on decimal digits and equal tokens. No program. -/
namespace Go.Lx
open Go Go.Ab
def digB (n : Nat) : UInt8 := UInt8.ofNat (48 + n % 10)
theorem decDigits_eq (n : Nat) : Lib.decDigits n = (if n < 10 then [] else Lib.decDigits (n / 10)) ++ [digB n] := by
  rw [Lib.decDigits]
  split
  · rename_i h; simp [digB, Nat.mod_eq_of_lt h]
  · simp [digB]
theorem digB_nat (n : Nat) : (digB n).toNat = 48 + n % 10 := by
  have : n % 10 < 10 := Nat.mod_lt _ (by decide)
  simp [digB, UInt8.toNat_ofNat']; omega
theorem wrap_dig (n : Nat) : IntKind.u8.wrap (48 + (n : Int) % 10) = (digB n).toNat := by
  rw [digB_nat]
  have h : 0 ≤ 48 + (n : Int) % 10 ∧ 48 + (n : Int) % 10 ≤ 255 := by omega
  rw [IntWalk.u8_in _ h]
  omega
theorem itoa_nat (n : Nat) : Lib.itoa n = Lib.decDigits n := by
  unfold Lib.itoa; rw [if_neg (by omega)]; rfl
theorem bytesD_one (n : Nat) : [D.int .u8 (digB n).toNat] = bytesD [digB n] := rfl
theorem eq_iff_same : ∀ {l m : List Tok}, l = m ↔ sameB l m = true ∧ ∀ i, i < l.length → (l[i]?.getD default).at_ = (m[i]?.getD default).at_
  | [], [] => by simp [sameB]
  | [], _ :: _ => by simp [sameB]
  | _ :: _, [] => by simp [sameB]
  | a :: l, b :: m => by
    rw [List.cons.injEq, @eq_iff_same l m]
    simp only [sameB, Bool.and_eq_true]
    constructor
    · rintro ⟨rfl, h1, h2⟩
      refine ⟨⟨by simp [sameT], h1⟩, fun i hi => ?_⟩
      cases i with
      | zero => rfl
      | succ i => simpa using h2 i (by simpa using hi)
    · rintro ⟨⟨h1, h2⟩, h3⟩
      refine ⟨?_, h2, fun i hi => by simpa using h3 (i + 1) (by simpa using hi)⟩
      have h4 := h3 0 (by simp)
      obtain ⟨k, s, n, i⟩ := a
      obtain ⟨k', s', n', i'⟩ := b
      simp [sameT] at h1 h4
      simp [h1, h4]
end Go.Lx
/- Plain facts on the text of tokens. No program. -/
namespace Go.Lx
open Go Go.Ab
def wordT (t : Tok) : List UInt8 := if t.kind = 2 then Lib.itoa t.n else t.text
def joinW : List Tok → List UInt8
  | [] => []
  | [t] => wordT t
  | t :: r => wordT t ++ 32 :: joinW r
def textV (l : List Tok) : V := if l.all validB then .tup [.d (.str (joinW l)), .d (.int .i64 0)] else .tup [.d (.str []), .d (.int .i64 90)]
theorem joinW_snoc : ∀ (l : List Tok) (t : Tok), joinW (l ++ [t]) = if l = [] then wordT t else joinW l ++ 32 :: wordT t
  | [], t => rfl
  | [a], t => by simp [joinW]
  | a :: b :: r, t => by
    have h := joinW_snoc (b :: r) t
    simp only [List.cons_append, joinW] at h ⊢
    rw [h]; simp
theorem decDigits_len (n : Nat) : (Lib.decDigits n).length ≤ n + 1 ∧ Lib.decDigits n ≠ [] := by
  refine ⟨?_, by rw [decDigits_eq]; simp⟩
  induction n using Nat.strongRecOn with
  | ind n ih =>
    rw [decDigits_eq]
    split
    · simp
    · have := ih (n / 10) (by omega)
      simp; omega
theorem digits_pow : ∀ (k n : Nat), n < 10 ^ (k + 1) → (Lib.decDigits n).length ≤ k + 1
  | 0, n, h => by rw [decDigits_eq, if_pos (by omega)]; simp
  | k + 1, n, h => by
    rw [decDigits_eq]
    split
    · simp
    · have := digits_pow k (n / 10) (by rw [Nat.pow_succ] at h; omega)
      simp; omega
theorem word_ok {t : Tok} (h : validB t = true) : wordT t ≠ [] ∧ (wordT t).length ≤ 32 := by
  unfold validB at h
  unfold wordT
  split at h
  · rename_i e
    rw [if_neg (by omega)]
    simp [nameB] at h
    refine ⟨fun e => ?_, by omega⟩
    simp [e] at h
  · split at h
    · rename_i e
      rw [if_pos e]
      simp at h
      obtain ⟨N, hN⟩ := Int.eq_ofNat_of_zero_le h.1.2
      rw [hN, itoa_nat]
      exact ⟨(decDigits_len N).2, Nat.le_trans (digits_pow 12 N (by omega)) (by decide)⟩
    · rename_i e
      rw [if_neg e]
      split at h
      · simp at h
        refine ⟨fun e => ?_, by omega⟩
        simp [e] at h
      · cases h
theorem joinW_len : ∀ (l : List Tok), (∀ t ∈ l, validB t = true) → (joinW l).length ≤ 33 * l.length
  | [], _ => by simp [joinW]
  | [t], h => by have := word_ok (h t (by simp)); simp [joinW]; omega
  | a :: b :: r, h => by
    have h1 := word_ok (h a (by simp))
    have h2 := joinW_len (b :: r) (fun t ht => h t (by simp [ht]))
    simp only [joinW, List.length_append, List.length_cons] at h2 ⊢
    omega
theorem joinW_ne {l : List Tok} (h : ∀ t ∈ l, validB t = true) (h0 : l ≠ []) : joinW l ≠ [] := by
  match l, h0 with
  | [t], _ => exact (word_ok (h t (by simp))).1
  | a :: b :: r, _ => simp [joinW]
theorem take_snoc {l : List Tok} {k : Nat} (hk : k < l.length) : l.take (k + 1) = l.take k ++ [l[k]] := (List.take_append_getElem hk).symm
end Go.Lx
/- Contracts: lex.Text. Condition: the program is the seat's; the powers of ten are laid. -/
namespace Go.Lx
open Go Go.Ab
def obT (l : List Tok) : Nat → Objs
  | 0 => [(0, .box 184 (.d (.agg [.nilp, .nils])))]
  | k + 1 => [(2, .arr 5 1 (bytesD (joinW (l.take (k + 1))))), (0, .box 184 (.agg [.ptr 0 [], .sl 2 (joinW (l.take (k + 1))).length]))]
end Go.Lx
namespace Go.Proofs.YtanpgmgkmfckaaaGreatDoor
open Go Go.Ab Go.Lx
set_option maxRecDepth 100000
section
variable {P : Prg} (hP : P.p = Tryz.prog) (hG : Pow P)
include hP hG
theorem c_Text {a : D} {l : List Tok} (ha : TD a l) (hl : l.length ≤ 100000) {ob : Objs} {K : V → Prop} (h : K (textV l)) : PCall P 38 [.d a] ob K := by
  refine pcall_lift hP mixed (ds := [a]) ok38 lf38 TOk.nil ?_
  have h' : ∀ x, x = textV l → K x := fun b e => e ▸ h
  clear h
  simp [lt38, ha.len, ha.lenS]
  refine ALoop.go (ι := Nat) (fun k => [(4, .ptr 0 []), (7, .d a), (8, .d (.int .i64 l.length)), (9, .d (.int .i64 k))]) (obT l) (fun k => k ≤ l.length ∧ ∀ t ∈ l.take k, validB t = true) (fun k => l.length - k) 0 ⟨by omega, by simp⟩ (by simp) rfl ?_
  have hw1 : IntKind.i64.wrap 1 = 1 := IntWalk.i64_in _ (by omega)
  rintro k ⟨hk, hp⟩ R rn re rr _
  by_cases hlt : k < l.length
  · have hL := joinW_len _ hp
    have hT : (l.take k).length ≤ 100000 := by simp; omega
    have hne : k ≠ 0 → l.take k ≠ [] := fun h e => by
      rcases List.take_eq_nil_iff.1 e with h1 | h1
      · exact h h1
      · rw [h1] at hlt; simp at hlt
    have hi : IntKind.i64.wrap ((k : Int) + 1) = (k : Int) + 1 := IntWalk.i64_in _ (by omega)
    have hp' : validB l[k] = true → ∀ t ∈ l.take (k + 1), validB t = true := by
      intro hv t ht
      rw [take_snoc hlt] at ht
      rcases List.mem_append.1 ht with ht | ht
      · exact hp t ht
      · rw [List.mem_singleton.1 ht]; exact hv
    have hd : validB l[k] = true → l[k].kind = 2 → 0 ≤ l[k].n ∧ l[k].n ≤ 9223372036854775807 ∧ Lib.itoa l[k].n = wordT l[k] := by
      intro hv e
      unfold validB at hv
      rw [if_neg (by omega), if_pos e] at hv
      simp at hv
      exact ⟨hv.1.2, by omega, by rw [wordT, if_pos e]⟩
    have hx : l[k].kind ≠ 2 → l[k].text = wordT l[k] := fun e => by rw [wordT, if_neg e]
    have hj := joinW_snoc (l.take k) l[k]
    rw [← take_snoc hlt] at hj
    have hbad : validB l[k] = false → V.tup [.d (.str []), .d (.int .i64 90)] = textV l := by
      intro hv
      rw [textV, if_neg]
      rw [List.all_eq_true]
      intro hA
      have := hA l[k] (List.getElem_mem hlt)
      rw [hv] at this; cases this
    cases k with
    | zero =>
      rw [if_pos (by simp)] at hj
      have hidx := ha.idx (k := .i64) hlt
      simp only [Int.natCast_zero] at hidx
      simp [lt38_l2, ha.idxS, obT, hlt, hidx, Tok.enc]
      refine c_valid hP l[0] ?_
      simp
      refine ⟨fun hv => rr _ _ ?_, fun hv => ?_⟩
      · simp
        exact h' _ (hbad hv)
      · have hw := word_ok hv
        simp [lt38_s1]
        refine ⟨fun e => ?_, fun e => ?_⟩
        · obtain ⟨e1, e2, e3⟩ := hd hv e
          refine c_Itoa hP hG _ e1 e2 ?_
          rw [e3]
          refine c_ws0 hP (by simp) (by omega) ?_
          simp [lt38_s0, hi]
          rw [hw1]
          refine rn [2] 1 _ _ ⟨by omega, hp' hv⟩ (by omega) (by simp) ?_ (by simp [obT, young, fresh]) (by simp [obT, young, fresh])
          simp only [Nat.zero_add] at hj
          simp [obT, young, fresh, hj]
        · rw [hx e]
          refine c_ws0 hP (by simp) (by omega) ?_
          simp [lt38_s0, hi]
          rw [hw1]
          refine rn [2] 1 _ _ ⟨by omega, hp' hv⟩ (by omega) (by simp) ?_ (by simp [obT, young, fresh]) (by simp [obT, young, fresh])
          simp only [Nat.zero_add] at hj
          simp [obT, young, fresh, hj]
    | succ k =>
      rw [if_neg (hne (by omega))] at hj
      have hidx := ha.idx (k := .i64) hlt
      have hlt' : (k : Int) + 1 < l.length := by omega
      have h0k : (0 : Int) < (k : Int) + 1 := by omega
      have h0k' : (0 : Int) ≤ (k : Int) + 1 := by omega
      rw [show ((k + 1 : Nat) : Int) = (k : Int) + 1 from rfl] at hidx
      simp [lt38_l2, ha.idxS, obT, hlt, hlt', h0k, h0k', hidx, Tok.enc]
      refine c_valid hP l[k + 1] ?_
      simp
      refine ⟨fun hv => rr _ _ ?_, fun hv => ?_⟩
      · simp
        exact h' _ (hbad hv)
      · have hw := word_ok hv
        have hbl := bytesD_len (joinW (l.take (k + 1)))
        refine c_wb hP (x := 0) (y := 2) (l := bytesD (joinW (l.take (k + 1)))) (by simp [hbl]) (by simp) (by omega) ?_
        simp [lt38_s1]
        have e32 : bytesD (joinW (l.take (k + 1))) ++ [D.int .u8 32] = bytesD (joinW (l.take (k + 1)) ++ [32]) := by rw [bytesD_app]; rfl
        have hbl2 := bytesD_len (joinW (l.take (k + 1)) ++ [32])
        rw [List.length_append] at hbl2
        rw [e32, hbl]
        have hi2 : IntKind.i64.wrap ((k : Int) + 1 + 1) = (k : Int) + 1 + 1 := hi
        refine ⟨fun e => ?_, fun e => ?_⟩
        · obtain ⟨e1, e2, e3⟩ := hd hv e
          refine c_Itoa hP hG _ e1 e2 ?_
          rw [e3]
          refine c_ws hP (x := 0) (y := 2) (l := bytesD (joinW (l.take (k + 1)) ++ [32])) (by simp [hbl2]) (by simp) (by simp [hbl2]; omega) ?_
          simp [lt38_s0, hi2]
          refine rn [] (k + 2) _ _ ⟨by omega, hp' hv⟩ (by omega) ?_ ?_ (by simp [obT, young, fresh]) (by simp [obT, young, fresh])
          · simp; omega
          · simp [obT, young, fresh, hj, bytesD_app, bytesD, hbl]; omega
        · rw [hx e]
          refine c_ws hP (x := 0) (y := 2) (l := bytesD (joinW (l.take (k + 1)) ++ [32])) (by simp [hbl2]) (by simp) (by simp [hbl2]; omega) ?_
          simp [lt38_s0, hi2]
          refine rn [] (k + 2) _ _ ⟨by omega, hp' hv⟩ (by omega) ?_ ?_ (by simp [obT, young, fresh]) (by simp [obT, young, fresh])
          · simp; omega
          · simp [obT, young, fresh, hj, bytesD_app, bytesD, hbl]; omega
  · have hk' : k = l.length := by omega
    subst hk'
    simp at hp
    have ht : textV l = .tup [.d (.str (joinW l)), .d (.int .i64 0)] := by rw [textV, if_pos (List.all_eq_true.2 hp)]
    have hL := joinW_len _ hp
    simp [lt38_l2]
    refine re _ _ _ ?_
    simp
    cases hn : l.length with
    | zero =>
      have : l = [] := List.length_eq_zero_iff.1 hn
      subst this
      refine c_bs0 hP (by simp [obT]) ?_
      simp
      exact h' _ ht.symm
    | succ n =>
      refine c_bs hP (x := 0) (y := 2) (t := joinW l) (by simp [obT, ← hn]) (by simp [obT, ← hn]) (joinW_ne hp (fun e => by rw [e] at hn; cases hn)) (by omega) ?_
      simp
      exact h' _ ht.symm
end
end Go.Proofs.YtanpgmgkmfckaaaGreatDoor
/- The abstract statements that stand for the code of these functions, written by a program from the translation; that they do is checked by the kernel. No condition. -/
namespace Go.Proofs.YtanpgmgkmfckaaaGreatDoor
open Go Go.Ab
set_option maxRecDepth 100000
def ir8 : S := .seq (.rg [] [.op (some 0) (.c (.mv (.bool false)))] [] [])
 (.seq (.rg [] [.op (some 23) (.pcall 9 [(.str [])]),
   .op (some 22) (.c (.mv (.t 23))),
   .op (some 24) (.c (.ext (.t 22) 0)),
   .op (some 25) (.c (.ext (.t 22) 1)),
   .op (some 26) (.c (.ext (.t 22) 2)),
   .op (some 1) (.alloc 30 (.agg [.nils, .nils, .nils, .nils, .nils, .nils])),
   .op none (.st 6 (.t 1) (.t 24)),
   .op (some 2) (.c (.mv (.t 25))),
   .op (some 3) (.c (.mv (.t 26)))] [1, 2, 3] [])
 (.seq (.rg [] [.op (some 28) (.pcall 9 [(.str [115, 99, 104, 101, 109, 97, 32, 97, 32, 98, 121, 32, 98, 32, 118, 101, 114, 115, 105, 111, 110, 32, 50, 53, 54])]),
   .op (some 27) (.c (.mv (.t 28))),
   .op (some 29) (.c (.ext (.t 27) 0)),
   .op (some 30) (.c (.ext (.t 27) 1)),
   .op (some 31) (.c (.ext (.t 27) 2)),
   .op (some 4) (.alloc 30 (.agg [.nils, .nils, .nils, .nils, .nils, .nils])),
   .op none (.st 6 (.t 4) (.t 29)),
   .op (some 5) (.c (.mv (.t 30))),
   .op (some 6) (.c (.mv (.t 31)))] [1, 2, 3, 5, 6] [])
 (.seq (.rg [] [.op (some 33) (.pcall 9 [(.str [105, 115, 115, 117, 101, 114])]),
   .op (some 32) (.c (.mv (.t 33))),
   .op (some 34) (.c (.ext (.t 32) 0)),
   .op (some 35) (.c (.ext (.t 32) 1)),
   .op (some 36) (.c (.ext (.t 32) 2)),
   .op (some 7) (.alloc 30 (.agg [.nils, .nils, .nils, .nils, .nils, .nils])),
   .op none (.st 6 (.t 7) (.t 34)),
   .op (some 8) (.c (.mv (.t 35))),
   .op (some 9) (.c (.mv (.t 36)))] [1, 2, 3, 5, 6, 8, 9] [])
 (.seq (.rg [] [.op (some 38) (.pcall 9 [(.str [117, 110, 105, 116, 32, 109, 32, 61, 32, 49, 32, 110, 59])]),
   .op (some 37) (.c (.mv (.t 38))),
   .op (some 39) (.c (.ext (.t 37) 0)),
   .op (some 40) (.c (.ext (.t 37) 1)),
   .op (some 41) (.c (.ext (.t 37) 2)),
   .op (some 10) (.alloc 30 (.agg [.nils, .nils, .nils, .nils, .nils, .nils])),
   .op none (.st 6 (.t 10) (.t 39)),
   .op (some 11) (.c (.mv (.t 40))),
   .op (some 12) (.c (.mv (.t 41)))] [1, 2, 3, 5, 6, 8, 9, 11, 12] [])
 (.seq (.rg [] [.op (some 43) (.bls 1 [.str []] [(0, (.str [99, 111, 117, 114, 116]))]),
   .op (some 44) (.c (.bld [.nils, .nils, .nils, .nils, .nils, .nils] [(0, (.t 43))])),
   .op (some 45) (.pcall 13 [(.t 44)]),
   .op (some 42) (.c (.mv (.t 45))),
   .op (some 46) (.c (.ext (.t 42) 0)),
   .op (some 47) (.c (.ext (.t 42) 1)),
   .op (some 13) (.c (.mv (.t 46))),
   .op (some 14) (.c (.mv (.t 47)))] [1, 2, 3, 5, 6, 8, 9, 11, 12, 13, 14] [])
 (.seq (.rg [] [.op (some 49) (.c (.bld [.str [], .int .i64 0, .nils, .nils, .nils] [(0, (.str [97]))])),
   .op (some 50) (.bls 5 [.agg [.str [], .int .i64 0, .nils, .nils, .nils]] [(0, (.t 49))]),
   .op (some 51) (.c (.bld [.nils, .nils, .nils, .nils, .nils, .nils] [(3, (.t 50))])),
   .op (some 52) (.pcall 13 [(.t 51)]),
   .op (some 48) (.c (.mv (.t 52))),
   .op (some 53) (.c (.ext (.t 48) 0)),
   .op (some 54) (.c (.ext (.t 48) 1)),
   .op (some 15) (.c (.mv (.t 53))),
   .op (some 16) (.c (.mv (.t 54)))] [1, 2, 3, 5, 6, 8, 9, 11, 12, 13, 14, 16] [])
 (.seq (.rg [] [.op (some 56) (.pcall 9 [(.str [100, 101, 114, 105, 118, 101, 32, 97, 100, 117, 108, 116, 32, 123, 32, 102, 114, 111, 109, 32, 98, 32, 98, 105, 114, 116, 104, 59, 32, 119, 104, 101, 114, 101, 32, 98, 46, 121, 101, 97, 114, 32, 60, 61, 32, 57, 59, 32, 115, 101, 116, 32, 115, 105, 110, 99, 101, 32, 61, 32, 98, 46, 121, 101, 97, 114, 59, 32, 125])]),
   .op (some 55) (.c (.mv (.t 56))),
   .op (some 57) (.c (.ext (.t 55) 0)),
   .op (some 58) (.c (.ext (.t 55) 1)),
   .op (some 59) (.c (.ext (.t 55) 2)),
   .op (some 17) (.alloc 30 (.agg [.nils, .nils, .nils, .nils, .nils, .nils])),
   .op none (.st 6 (.t 17) (.t 57)),
   .op (some 18) (.c (.mv (.t 58))),
   .op (some 19) (.c (.mv (.t 59)))] [1, 2, 3, 5, 6, 8, 9, 11, 12, 13, 14, 16, 17, 18, 19] [])
 (.seq (.rg [] [.op (some 60) (.c (.bld [.str [], .str [], .int .i64 0, .agg [.str [], .str [], .int .i64 0, .int .i64 0, .int .i64 0]] [(0, (.str [98])), (1, (.str [98, 105, 114, 116, 104]))])),
   .op (some 61) (.bls 8 [.agg [.str [], .str [], .int .i64 0, .agg [.str [], .str [], .int .i64 0, .int .i64 0, .int .i64 0]]] [(0, (.t 60))]),
   .op (some 62) (.c (.bld [.str [], .str [], .int .i64 0, .int .i64 0, .int .i64 0] [(0, (.str [98])), (1, (.str [121, 101, 97, 114]))])),
   .op (some 63) (.c (.bld [.str [], .str [], .int .i64 0, .int .i64 0, .int .i64 0] [(2, (.int .i64 (-1))), (4, (.int .i64 9))])),
   .op (some 64) (.c (.bld [.int .i64 0, .agg [.str [], .str [], .int .i64 0, .int .i64 0, .int .i64 0], .agg [.str [], .str [], .int .i64 0, .int .i64 0, .int .i64 0]] [(0, (.int .i64 3)), (1, (.t 62)), (2, (.t 63))])),
   .op (some 65) (.bls 11 [.agg [.int .i64 0, .agg [.str [], .str [], .int .i64 0, .int .i64 0, .int .i64 0], .agg [.str [], .str [], .int .i64 0, .int .i64 0, .int .i64 0]]] [(0, (.t 64))]),
   .op (some 66) (.c (.bld [.str [], .str [], .int .i64 0, .int .i64 0, .int .i64 0] [(0, (.str [98])), (1, (.str [121, 101, 97, 114]))])),
   .op (some 67) (.c (.bld [.str [], .int .i64 0, .agg [.str [], .str [], .int .i64 0, .int .i64 0, .int .i64 0]] [(0, (.str [115, 105, 110, 99, 101])), (2, (.t 66))])),
   .op (some 68) (.bls 7 [.agg [.str [], .int .i64 0, .agg [.str [], .str [], .int .i64 0, .int .i64 0, .int .i64 0]]] [(0, (.t 67))]),
   .op (some 69) (.c (.bld [.str [], .int .i64 0, .nils, .nils, .nils] [(0, (.str [97, 100, 117, 108, 116])), (2, (.t 61)), (3, (.t 65)), (4, (.t 68))])),
   .op (some 70) (.bls 5 [.agg [.str [], .int .i64 0, .nils, .nils, .nils]] [(0, (.t 69))]),
   .op (some 71) (.c (.bld [.nils, .nils, .nils, .nils, .nils, .nils] [(3, (.t 70))])),
   .op (some 20) (.alloc 30 (.agg [.nils, .nils, .nils, .nils, .nils, .nils])),
   .op none (.st 6 (.t 20) (.t 71))] [1, 2, 3, 5, 6, 8, 9, 11, 12, 13, 14, 16, 17, 18, 19, 20] [])
 (.seq (.rg [] [.op (some 72) (.c (.mv (.t 3))),
   .op (some 73) (.c (.bin .eql (.t 72) (.int .i64 0))),
   .op (some 74) (.c (.mv (.t 73))),
   .gop 74 true (some 75) (.c (.mv (.t 2))),
   .gop 74 true (some 76) (.c (.bin .eql (.t 75) (.int .i64 0))),
   .op (some 77) (.c (.pick (.t 74) (.t 76) (.bool false))),
   .op (some 78) (.c (.mv (.t 77))),
   .gop 78 true (some 79) (.c (.ld 6 true (.t 1))),
   .gop 78 true (some 80) (.c (.bld [.nils, .nils, .nils, .nils, .nils, .nils] [])),
   .gop 78 true (some 81) (.pcall 11 [(.t 79), (.t 80)]),
   .op (some 82) (.c (.pick (.t 78) (.t 81) (.bool false))),
   .op (some 83) (.c (.mv (.t 82))),
   .gop 83 true (some 84) (.c (.mv (.t 6))),
   .gop 83 true (some 85) (.c (.bin .eql (.t 84) (.int .i64 100))),
   .op (some 86) (.c (.pick (.t 83) (.t 85) (.bool false))),
   .op (some 87) (.c (.mv (.t 86))),
   .gop 87 true (some 88) (.c (.mv (.t 5))),
   .gop 87 true (some 89) (.c (.bin .eql (.t 88) (.int .i64 22))),
   .op (some 90) (.c (.pick (.t 87) (.t 89) (.bool false))),
   .op (some 91) (.c (.mv (.t 90))),
   .gop 91 true (some 92) (.c (.mv (.t 9))),
   .gop 91 true (some 93) (.c (.bin .eql (.t 92) (.int .i64 100))),
   .op (some 94) (.c (.pick (.t 91) (.t 93) (.bool false))),
   .op (some 95) (.c (.mv (.t 94))),
   .gop 95 true (some 96) (.c (.mv (.t 8))),
   .gop 95 true (some 97) (.c (.bin .eql (.t 96) (.int .i64 6))),
   .op (some 98) (.c (.pick (.t 95) (.t 97) (.bool false))),
   .op (some 99) (.c (.mv (.t 98))),
   .gop 99 true (some 100) (.c (.mv (.t 12))),
   .gop 99 true (some 101) (.c (.bin .eql (.t 100) (.int .i64 100))),
   .op (some 102) (.c (.pick (.t 99) (.t 101) (.bool false))),
   .op (some 103) (.c (.mv (.t 102))),
   .gop 103 true (some 104) (.c (.mv (.t 11))),
   .gop 103 true (some 105) (.c (.bin .eql (.t 104) (.int .i64 9))),
   .op (some 106) (.c (.pick (.t 103) (.t 105) (.bool false))),
   .op (some 21) (.c (.mv (.t 106)))] [1, 13, 14, 16, 17, 18, 19, 20, 21] [])
 (.seq (.rg [] [.op (some 107) (.c (.mv (.t 21))),
   .op (some 108) (.c (.mv (.t 107))),
   .gop 108 true (some 109) (.c (.mv (.t 14))),
   .gop 108 true (some 110) (.c (.bin .eql (.t 109) (.int .i64 0))),
   .op (some 111) (.c (.pick (.t 108) (.t 110) (.bool false))),
   .op (some 112) (.c (.mv (.t 111))),
   .gop 112 true (some 113) (.c (.mv (.t 13))),
   .gop 112 true (some 114) (.c (.bin .eql (.t 113) (.str [105, 115, 115, 117, 101, 114, 32, 99, 111, 117, 114, 116, 32, 59]))),
   .op (some 115) (.c (.pick (.t 112) (.t 114) (.bool false))),
   .op (some 116) (.c (.mv (.t 115))),
   .gop 116 true (some 117) (.c (.mv (.t 16))),
   .gop 116 true (some 118) (.c (.bin .eql (.t 117) (.int .i64 100))),
   .op (some 119) (.c (.pick (.t 116) (.t 118) (.bool false))),
   .op (some 120) (.c (.mv (.t 119))),
   .gop 120 true (some 121) (.c (.mv (.t 19))),
   .gop 120 true (some 122) (.c (.bin .eql (.t 121) (.int .i64 0))),
   .op (some 123) (.c (.pick (.t 120) (.t 122) (.bool false))),
   .op (some 124) (.c (.mv (.t 123))),
   .gop 124 true (some 125) (.c (.mv (.t 18))),
   .gop 124 true (some 126) (.c (.bin .eql (.t 125) (.int .i64 0))),
   .op (some 127) (.c (.pick (.t 124) (.t 126) (.bool false))),
   .op (some 128) (.c (.mv (.t 127))),
   .gop 128 true (some 129) (.c (.ld 6 true (.t 17))),
   .gop 128 true (some 130) (.c (.ld 6 true (.t 20))),
   .gop 128 true (some 131) (.pcall 11 [(.t 129), (.t 130)]),
   .op (some 132) (.c (.pick (.t 128) (.t 131) (.bool false))),
   .op (some 133) (.c (.mv (.t 132))),
   .gop 133 true (some 134) (.c (.ld 6 true (.t 17))),
   .gop 133 true (some 135) (.c (.ld 6 true (.t 20))),
   .gop 133 true (some 136) (.pcall 17 [(.t 134), (.t 135)]),
   .op (some 137) (.c (.pick (.t 133) (.t 136) (.bool false))),
   .op (some 138) (.c (.mv (.t 137))),
   .gop 138 true (some 139) (.c (.ld 6 true (.t 17))),
   .gop 138 true (some 140) (.c (.ld 6 true (.t 1))),
   .gop 138 true (some 141) (.pcall 17 [(.t 139), (.t 140)]),
   .gop 138 true (some 142) (.c (.not (.t 141))),
   .op (some 143) (.c (.pick (.t 138) (.t 142) (.bool false))),
   .op (some 0) (.c (.mv (.t 143)))] [0] [])
 (.ret)))))))))))
theorem ok8 : fnOk Tryz.prog 8 0 ir8 [.t 0] = true := by kernel_rfl
def ir11_l0 : S := .seq (.seq (.rg [] [.op (some 136) (.c (.mv (.t 9))),
   .op (some 137) (.c (.fldA 5 5 (.t 2))),
   .op (some 138) (.c (.ld 1 false (.t 137))),
   .op (some 139) (.c (.lenL (.t 138))),
   .op (some 140) (.c (.bin .lss (.t 136) (.t 139)))] [2, 3, 9, 140] [])
 (.cond (.t 140) (.skip) (.exit 8)))
 (.seq (.block 9 (.seq (.rg [0, 2, 5, 7, 1, 3, 4, 6, 8, 9, 10, 11] [.op (some 143) (.c (.fldA 5 5 (.t 2))),
   .op (some 145) (.c (.mv (.t 9))),
   .op (some 148) (.c (.fldA 5 5 (.t 3))),
   .op (some 150) (.c (.mv (.t 9))),
   .op (some 144) (.c (.ld 1 false (.t 143))),
   .op (some 146) (.c (.idxA 3 (.t 144) (.t 145))),
   .op (some 147) (.c (.ld 3 true (.t 146))),
   .op (some 149) (.c (.ld 1 false (.t 148))),
   .op (some 151) (.c (.idxA 3 (.t 149) (.t 150))),
   .op (some 152) (.c (.ld 3 true (.t 151))),
   .op (some 153) (.pcall 32 [(.t 147), (.t 152)]),
   .op (some 154) (.c (.not (.t 153)))] [2, 3, 9, 154] [])
 (.cond (.t 154) (.seq (.rg [] [.op (some 4) (.c (.mv (.bool false)))] [4] [])
 (.ret)) (.skip))))
 (.rg [] [.op (some 141) (.c (.mv (.t 9))),
   .op (some 142) (.c (.bin .add (.t 141) (.int .i64 1))),
   .op (some 9) (.c (.mv (.t 142)))] [2, 3, 9] []))
def ir11_l1 : S := .seq (.seq (.rg [] [.op (some 117) (.c (.mv (.t 8))),
   .op (some 118) (.c (.fldA 4 4 (.t 2))),
   .op (some 119) (.c (.ld 1 false (.t 118))),
   .op (some 120) (.c (.lenL (.t 119))),
   .op (some 121) (.c (.bin .lss (.t 117) (.t 120)))] [2, 3, 8, 121] [])
 (.cond (.t 121) (.skip) (.exit 6)))
 (.seq (.block 7 (.seq (.rg [0, 2, 5, 7, 1, 3, 4, 6, 8, 9, 10, 11] [.op (some 124) (.c (.fldA 4 4 (.t 2))),
   .op (some 126) (.c (.mv (.t 8))),
   .op (some 129) (.c (.fldA 4 4 (.t 3))),
   .op (some 131) (.c (.mv (.t 8))),
   .op (some 125) (.c (.ld 1 false (.t 124))),
   .op (some 127) (.c (.idxA 5 (.t 125) (.t 126))),
   .op (some 128) (.c (.ld 5 true (.t 127))),
   .op (some 130) (.c (.ld 1 false (.t 129))),
   .op (some 132) (.c (.idxA 5 (.t 130) (.t 131))),
   .op (some 133) (.c (.ld 5 true (.t 132))),
   .op (some 134) (.pcall 31 [(.t 128), (.t 133)]),
   .op (some 135) (.c (.not (.t 134)))] [2, 3, 8, 135] [])
 (.cond (.t 135) (.seq (.rg [] [.op (some 4) (.c (.mv (.bool false)))] [4] [])
 (.ret)) (.skip))))
 (.rg [] [.op (some 122) (.c (.mv (.t 8))),
   .op (some 123) (.c (.bin .add (.t 122) (.int .i64 1))),
   .op (some 8) (.c (.mv (.t 123)))] [2, 3, 8] []))
def ir11_l2 : S := .seq (.seq (.rg [] [.op (some 98) (.c (.mv (.t 7))),
   .op (some 99) (.c (.fldA 3 3 (.t 2))),
   .op (some 100) (.c (.ld 1 false (.t 99))),
   .op (some 101) (.c (.lenL (.t 100))),
   .op (some 102) (.c (.bin .lss (.t 98) (.t 101)))] [2, 3, 7, 102] [])
 (.cond (.t 102) (.skip) (.exit 4)))
 (.seq (.block 5 (.seq (.rg [0, 2, 5, 7, 1, 3, 4, 6, 8, 9, 10, 11] [.op (some 105) (.c (.fldA 3 3 (.t 2))),
   .op (some 107) (.c (.mv (.t 7))),
   .op (some 110) (.c (.fldA 3 3 (.t 3))),
   .op (some 112) (.c (.mv (.t 7))),
   .op (some 106) (.c (.ld 1 false (.t 105))),
   .op (some 108) (.c (.idxA 5 (.t 106) (.t 107))),
   .op (some 109) (.c (.ld 5 true (.t 108))),
   .op (some 111) (.c (.ld 1 false (.t 110))),
   .op (some 113) (.c (.idxA 5 (.t 111) (.t 112))),
   .op (some 114) (.c (.ld 5 true (.t 113))),
   .op (some 115) (.pcall 30 [(.t 109), (.t 114)]),
   .op (some 116) (.c (.not (.t 115)))] [2, 3, 7, 116] [])
 (.cond (.t 116) (.seq (.rg [] [.op (some 4) (.c (.mv (.bool false)))] [4] [])
 (.ret)) (.skip))))
 (.rg [] [.op (some 103) (.c (.mv (.t 7))),
   .op (some 104) (.c (.bin .add (.t 103) (.int .i64 1))),
   .op (some 7) (.c (.mv (.t 104)))] [2, 3, 7] []))
def ir11_l3 : S := .seq (.seq (.rg [] [.op (some 79) (.c (.mv (.t 6))),
   .op (some 80) (.c (.fldA 2 2 (.t 2))),
   .op (some 81) (.c (.ld 1 false (.t 80))),
   .op (some 82) (.c (.lenL (.t 81))),
   .op (some 83) (.c (.bin .lss (.t 79) (.t 82)))] [2, 3, 6, 83] [])
 (.cond (.t 83) (.skip) (.exit 2)))
 (.seq (.block 3 (.seq (.rg [0, 2, 5, 7, 1, 3, 4, 6, 8, 9, 10, 11] [.op (some 86) (.c (.fldA 2 2 (.t 2))),
   .op (some 88) (.c (.mv (.t 6))),
   .op (some 91) (.c (.fldA 2 2 (.t 3))),
   .op (some 93) (.c (.mv (.t 6))),
   .op (some 87) (.c (.ld 1 false (.t 86))),
   .op (some 89) (.c (.idxA 6 (.t 87) (.t 88))),
   .op (some 90) (.c (.ld 6 true (.t 89))),
   .op (some 92) (.c (.ld 1 false (.t 91))),
   .op (some 94) (.c (.idxA 6 (.t 92) (.t 93))),
   .op (some 95) (.c (.ld 6 true (.t 94))),
   .op (some 96) (.pcall 29 [(.t 90), (.t 95)]),
   .op (some 97) (.c (.not (.t 96)))] [2, 3, 6, 97] [])
 (.cond (.t 97) (.seq (.rg [] [.op (some 4) (.c (.mv (.bool false)))] [4] [])
 (.ret)) (.skip))))
 (.rg [] [.op (some 84) (.c (.mv (.t 6))),
   .op (some 85) (.c (.bin .add (.t 84) (.int .i64 1))),
   .op (some 6) (.c (.mv (.t 85)))] [2, 3, 6] []))
def ir11_l4 : S := .seq (.seq (.rg [] [.op (some 61) (.c (.mv (.t 5))),
   .op (some 62) (.c (.fldA 1 1 (.t 2))),
   .op (some 63) (.c (.ld 1 false (.t 62))),
   .op (some 64) (.c (.lenL (.t 63))),
   .op (some 65) (.c (.bin .lss (.t 61) (.t 64)))] [2, 3, 5, 65] [])
 (.cond (.t 65) (.skip) (.exit 0)))
 (.seq (.block 1 (.seq (.rg [0, 2, 5, 7, 1, 3, 4, 6, 8, 9, 10] [.op (some 68) (.c (.fldA 1 1 (.t 2))),
   .op (some 70) (.c (.mv (.t 5))),
   .op (some 73) (.c (.fldA 1 1 (.t 3))),
   .op (some 75) (.c (.mv (.t 5))),
   .op (some 69) (.c (.ld 1 false (.t 68))),
   .op (some 71) (.c (.idxA 5 (.t 69) (.t 70))),
   .op (some 72) (.c (.ld 5 true (.t 71))),
   .op (some 74) (.c (.ld 1 false (.t 73))),
   .op (some 76) (.c (.idxA 5 (.t 74) (.t 75))),
   .op (some 77) (.c (.ld 5 true (.t 76))),
   .op (some 78) (.c (.eqD (.st [.str, .str, .int .i64, .int .i64, .int .i64]) false (.t 72) (.t 77)))] [2, 3, 5, 78] [])
 (.cond (.t 78) (.seq (.rg [] [.op (some 4) (.c (.mv (.bool false)))] [4] [])
 (.ret)) (.skip))))
 (.rg [] [.op (some 66) (.c (.mv (.t 5))),
   .op (some 67) (.c (.bin .add (.t 66) (.int .i64 1))),
   .op (some 5) (.c (.mv (.t 67)))] [2, 3, 5] []))
def ir11 : S := .seq (.rg [] [.op (some 2) (.box 30 (.t 0)),
   .op (some 3) (.box 30 (.t 1)),
   .op (some 4) (.c (.mv (.bool false)))] [2, 3] [])
 (.seq (.seq (.rg [] [.op (some 10) (.c (.fldA 0 0 (.t 2))),
   .op (some 11) (.c (.ld 1 false (.t 10))),
   .op (some 12) (.c (.fldA 0 0 (.t 3))),
   .op (some 13) (.c (.ld 1 false (.t 12))),
   .op (some 14) (.pcall 28 [(.t 11), (.t 13)]),
   .op (some 15) (.c (.not (.t 14))),
   .op (some 16) (.c (.mv (.t 15))),
   .gop 16 false (some 17) (.c (.fldA 1 1 (.t 2))),
   .gop 16 false (some 18) (.c (.ld 1 false (.t 17))),
   .gop 16 false (some 19) (.c (.lenL (.t 18))),
   .gop 16 false (some 20) (.c (.fldA 1 1 (.t 3))),
   .gop 16 false (some 21) (.c (.ld 1 false (.t 20))),
   .gop 16 false (some 22) (.c (.lenL (.t 21))),
   .gop 16 false (some 23) (.c (.bin .neq (.t 19) (.t 22))),
   .op (some 24) (.c (.pick (.t 16) (.bool true) (.t 23))),
   .op (some 25) (.c (.mv (.t 24))),
   .gop 25 false (some 26) (.c (.fldA 2 2 (.t 2))),
   .gop 25 false (some 27) (.c (.ld 1 false (.t 26))),
   .gop 25 false (some 28) (.c (.lenL (.t 27))),
   .gop 25 false (some 29) (.c (.fldA 2 2 (.t 3))),
   .gop 25 false (some 30) (.c (.ld 1 false (.t 29))),
   .gop 25 false (some 31) (.c (.lenL (.t 30))),
   .gop 25 false (some 32) (.c (.bin .neq (.t 28) (.t 31))),
   .op (some 33) (.c (.pick (.t 25) (.bool true) (.t 32))),
   .op (some 34) (.c (.mv (.t 33))),
   .gop 34 false (some 35) (.c (.fldA 3 3 (.t 2))),
   .gop 34 false (some 36) (.c (.ld 1 false (.t 35))),
   .gop 34 false (some 37) (.c (.lenL (.t 36))),
   .gop 34 false (some 38) (.c (.fldA 3 3 (.t 3))),
   .gop 34 false (some 39) (.c (.ld 1 false (.t 38))),
   .gop 34 false (some 40) (.c (.lenL (.t 39))),
   .gop 34 false (some 41) (.c (.bin .neq (.t 37) (.t 40))),
   .op (some 42) (.c (.pick (.t 34) (.bool true) (.t 41))),
   .op (some 43) (.c (.mv (.t 42))),
   .gop 43 false (some 44) (.c (.fldA 4 4 (.t 2))),
   .gop 43 false (some 45) (.c (.ld 1 false (.t 44))),
   .gop 43 false (some 46) (.c (.lenL (.t 45))),
   .gop 43 false (some 47) (.c (.fldA 4 4 (.t 3))),
   .gop 43 false (some 48) (.c (.ld 1 false (.t 47))),
   .gop 43 false (some 49) (.c (.lenL (.t 48))),
   .gop 43 false (some 50) (.c (.bin .neq (.t 46) (.t 49))),
   .op (some 51) (.c (.pick (.t 43) (.bool true) (.t 50))),
   .op (some 52) (.c (.mv (.t 51))),
   .gop 52 false (some 53) (.c (.fldA 5 5 (.t 2))),
   .gop 52 false (some 54) (.c (.ld 1 false (.t 53))),
   .gop 52 false (some 55) (.c (.lenL (.t 54))),
   .gop 52 false (some 56) (.c (.fldA 5 5 (.t 3))),
   .gop 52 false (some 57) (.c (.ld 1 false (.t 56))),
   .gop 52 false (some 58) (.c (.lenL (.t 57))),
   .gop 52 false (some 59) (.c (.bin .neq (.t 55) (.t 58))),
   .op (some 60) (.c (.pick (.t 52) (.bool true) (.t 59)))] [2, 3, 60] [])
 (.cond (.t 60) (.seq (.rg [] [.op (some 4) (.c (.mv (.bool false)))] [4] [])
 (.ret)) (.skip)))
 (.seq (.seq (.rg [] [.op (some 5) (.c (.mv (.int .i64 0)))] [2, 3, 5] [])
 (.block 0 (.loop [2, 3, 5] ir11_l4)))
 (.seq (.seq (.rg [] [.op (some 6) (.c (.mv (.int .i64 0)))] [2, 3, 6] [])
 (.block 2 (.loop [2, 3, 6] ir11_l3)))
 (.seq (.seq (.rg [] [.op (some 7) (.c (.mv (.int .i64 0)))] [2, 3, 7] [])
 (.block 4 (.loop [2, 3, 7] ir11_l2)))
 (.seq (.seq (.rg [] [.op (some 8) (.c (.mv (.int .i64 0)))] [2, 3, 8] [])
 (.block 6 (.loop [2, 3, 8] ir11_l1)))
 (.seq (.seq (.rg [] [.op (some 9) (.c (.mv (.int .i64 0)))] [2, 3, 9] [])
 (.block 8 (.loop [2, 3, 9] ir11_l0)))
 (.seq (.rg [] [.op (some 4) (.c (.mv (.bool true)))] [4] [])
 (.ret))))))))
theorem ok11 : fnOk Tryz.prog 11 2 ir11 [.t 4] = true := by kernel_rfl
def ir13_l0 : S := .seq (.rg [] [.op (some 123) (.c (.bin .lss (.t 122) (.t 121)))] [4, 16, 105, 106, 107, 120, 121, 122, 123] [])
 (.seq (.cond (.t 123) (.skip) (.exit 12))
 (.seq (.block 13 (.seq (.rg [] [.op (some 124) (.c (.idxA 4 (.t 120) (.t 122))),
   .op (some 125) (.c (.ld 4 true (.t 124))),
   .op (some 18) (.alloc 107 (.agg [.str [], .str [], .int .i64 0, .int .i64 0])),
   .op none (.st 4 (.t 18) (.t 125))] [4, 16, 18, 105, 106, 107, 120, 121, 122] [])
 (.rg [] [.op (some 126) (.c (.mv (.t 4))),
   .op (some 127) (.c (.mki 101 (.str [109, 97, 121]))),
   .op (some 128) (.c (.fldA 0 0 (.t 18))),
   .op (some 129) (.c (.ld 1 false (.t 128))),
   .op (some 130) (.c (.mki 9 (.t 129))),
   .op (some 131) (.c (.mki 102 (.str [46]))),
   .op (some 132) (.c (.fldA 1 1 (.t 18))),
   .op (some 133) (.c (.ld 1 false (.t 132))),
   .op (some 134) (.c (.mki 9 (.t 133))),
   .op (some 135) (.c (.mki 102 (.str [59]))),
   .op (some 136) (.bls 1 [.nili, .nili, .nili, .nili, .nili] [(0, (.t 127)), (1, (.t 130)), (2, (.t 131)), (3, (.t 134)), (4, (.t 135))]),
   .op (some 137) (.call 34 [(.t 126), (.t 136)])] [4, 16, 105, 106, 107, 120, 121, 122] [])))
 (.rg [] [.op (some 138) (.c (.bin .add (.t 122) (.int .i64 1))),
   .op (some 122) (.c (.mv (.t 138)))] [4, 16, 105, 106, 107, 120, 121, 122] [])))
def ir13_l1 : S := .seq (.rg [] [.op (some 108) (.c (.bin .lss (.t 107) (.t 106)))] [4, 105, 106, 107, 108] [])
 (.seq (.cond (.t 108) (.skip) (.exit 10))
 (.seq (.block 11 (.seq (.rg [] [.op (some 109) (.c (.idxA 3 (.t 105) (.t 107))),
   .op (some 110) (.c (.ld 3 true (.t 109))),
   .op (some 16) (.alloc 88 (.agg [.str [], .nils, .int .i64 0])),
   .op none (.st 3 (.t 16) (.t 110))] [4, 16, 105, 106, 107] [])
 (.seq (.rg [] [.op (some 111) (.c (.mv (.t 4))),
   .op (some 112) (.c (.mki 101 (.str [112, 117, 114, 112, 111, 115, 101]))),
   .op (some 113) (.c (.fldA 0 0 (.t 16))),
   .op (some 114) (.c (.ld 1 false (.t 113))),
   .op (some 115) (.c (.mki 9 (.t 114))),
   .op (some 116) (.c (.mki 102 (.str [123]))),
   .op (some 117) (.bls 1 [.nili, .nili, .nili] [(0, (.t 112)), (1, (.t 115)), (2, (.t 116))]),
   .op (some 118) (.call 34 [(.t 111), (.t 117)])] [4, 16, 105, 106, 107] [])
 (.seq (.seq (.rg [] [.op (some 119) (.c (.fldA 1 1 (.t 16))),
   .op (some 120) (.c (.ld 1 false (.t 119))),
   .op (some 121) (.c (.lenL (.t 120))),
   .op (some 122) (.c (.mv (.int .i64 0)))] [4, 16, 105, 106, 107, 120, 121, 122] [])
 (.block 12 (.loop [4, 16, 105, 106, 107, 120, 121, 122] ir13_l0)))
 (.rg [] [.op (some 139) (.c (.mv (.t 4))),
   .op (some 140) (.c (.mki 101 (.str [109, 111, 115, 116]))),
   .op (some 141) (.c (.fldA 2 2 (.t 16))),
   .op (some 142) (.c (.ld 1 false (.t 141))),
   .op (some 143) (.c (.mki 3 (.t 142))),
   .op (some 144) (.c (.mki 102 (.str [59]))),
   .op (some 145) (.c (.mki 102 (.str [125]))),
   .op (some 146) (.bls 1 [.nili, .nili, .nili, .nili] [(0, (.t 140)), (1, (.t 143)), (2, (.t 144)), (3, (.t 145))]),
   .op (some 147) (.call 34 [(.t 139), (.t 146)])] [4, 105, 106, 107] [])))))
 (.rg [] [.op (some 148) (.c (.bin .add (.t 107) (.int .i64 1))),
   .op (some 107) (.c (.mv (.t 148)))] [4, 105, 106, 107] [])))
def ir13_l2 : S := .seq (.rg [] [.op (some 97) (.c (.bin .lss (.t 96) (.t 95)))] [1, 4, 94, 95, 96, 97] [])
 (.seq (.cond (.t 97) (.skip) (.exit 8))
 (.seq (.block 9 (.seq (.rg [] [.op (some 98) (.c (.idxA 5 (.t 94) (.t 96))),
   .op (some 99) (.c (.ld 5 true (.t 98))),
   .op (some 14) (.alloc 84 (.agg [.str [], .str [], .int .i64 0, .int .i64 0, .nils])),
   .op none (.st 5 (.t 14) (.t 99))] [1, 4, 14, 94, 95, 96] [])
 (.rg [] [.op (some 100) (.c (.mv (.t 4))),
   .op (some 101) (.c (.ld 5 true (.t 14))),
   .op (some 102) (.call 37 [(.t 100), (.t 101)])] [1, 4, 94, 95, 96] [])))
 (.rg [] [.op (some 103) (.c (.bin .add (.t 96) (.int .i64 1))),
   .op (some 96) (.c (.mv (.t 103)))] [1, 4, 94, 95, 96] [])))
def ir13_l3 : S := .seq (.rg [] [.op (some 86) (.c (.bin .lss (.t 85) (.t 84)))] [1, 4, 83, 84, 85, 86] [])
 (.seq (.cond (.t 86) (.skip) (.exit 6))
 (.seq (.block 7 (.seq (.rg [] [.op (some 87) (.c (.idxA 5 (.t 83) (.t 85))),
   .op (some 88) (.c (.ld 5 true (.t 87))),
   .op (some 12) (.alloc 50 (.agg [.str [], .int .i64 0, .nils, .nils, .nils])),
   .op none (.st 5 (.t 12) (.t 88))] [1, 4, 12, 83, 84, 85] [])
 (.rg [] [.op (some 89) (.c (.mv (.t 4))),
   .op (some 90) (.c (.ld 5 true (.t 12))),
   .op (some 91) (.call 36 [(.t 89), (.t 90)])] [1, 4, 83, 84, 85] [])))
 (.rg [] [.op (some 92) (.c (.bin .add (.t 85) (.int .i64 1))),
   .op (some 85) (.c (.mv (.t 92)))] [1, 4, 83, 84, 85] [])))
def ir13_l4 : S := .seq (.rg [] [.op (some 75) (.c (.bin .lss (.t 74) (.t 73)))] [1, 4, 72, 73, 74, 75] [])
 (.seq (.cond (.t 75) (.skip) (.exit 4))
 (.seq (.block 5 (.seq (.rg [] [.op (some 76) (.c (.idxA 6 (.t 72) (.t 74))),
   .op (some 77) (.c (.ld 6 true (.t 76))),
   .op (some 10) (.alloc 79 (.agg [.str [], .str [], .int .i64 0, .int .i64 0, .nils, .nils])),
   .op none (.st 6 (.t 10) (.t 77))] [1, 4, 10, 72, 73, 74] [])
 (.rg [] [.op (some 78) (.c (.mv (.t 4))),
   .op (some 79) (.c (.ld 6 true (.t 10))),
   .op (some 80) (.call 35 [(.t 78), (.t 79)])] [1, 4, 72, 73, 74] [])))
 (.rg [] [.op (some 81) (.c (.bin .add (.t 74) (.int .i64 1))),
   .op (some 74) (.c (.mv (.t 81)))] [1, 4, 72, 73, 74] [])))
def ir13_s5 : S := .rg [] [.op (some 70) (.c (.bin .add (.t 42) (.int .i64 1))),
   .op (some 42) (.c (.mv (.t 70)))] [1, 4, 40, 41, 42] []
def ir13_s6 : S := .rg [] [.op (some 66) (.c (.mv (.t 4))),
   .op (some 67) (.c (.mki 102 (.str [59]))),
   .op (some 68) (.bls 1 [.nili] [(0, (.t 67))]),
   .op (some 69) (.call 34 [(.t 66), (.t 68)])] [1, 4, 40, 41, 42] []
def ir13_l7 : S := .seq (.rg [] [.op (some 43) (.c (.bin .lss (.t 42) (.t 41)))] [1, 4, 40, 41, 42, 43] [])
 (.seq (.cond (.t 43) (.skip) (.exit 2))
 (.seq (.block 3 (.seq (.rg [] [.op (some 44) (.c (.idxA 5 (.t 40) (.t 42))),
   .op (some 45) (.c (.ld 5 true (.t 44))),
   .op (some 8) (.alloc 74 (.agg [.str [], .str [], .int .i64 0, .int .i64 0, .int .i64 0])),
   .op none (.st 5 (.t 8) (.t 45))] [1, 4, 8, 40, 41, 42] [])
 (.seq (.rg [] [.op (some 46) (.c (.mv (.t 4))),
   .op (some 47) (.c (.mki 101 (.str [117, 110, 105, 116]))),
   .op (some 48) (.c (.fldA 0 0 (.t 8))),
   .op (some 49) (.c (.ld 1 false (.t 48))),
   .op (some 50) (.c (.mki 9 (.t 49))),
   .op (some 51) (.bls 1 [.nili, .nili] [(0, (.t 47)), (1, (.t 50))]),
   .op (some 52) (.call 34 [(.t 46), (.t 51)])] [1, 4, 8, 40, 41, 42] [])
 (.seq (.seq (.rg [] [.op (some 53) (.c (.fldA 1 1 (.t 8))),
   .op (some 54) (.c (.ld 1 false (.t 53))),
   .op (some 55) (.c (.bin .neq (.t 54) (.str [])))] [1, 4, 8, 40, 41, 42, 55] [])
 (.cond (.t 55) (.rg [] [.op (some 56) (.c (.mv (.t 4))),
   .op (some 57) (.c (.mki 102 (.str [61]))),
   .op (some 58) (.c (.fldA 2 2 (.t 8))),
   .op (some 59) (.c (.ld 1 false (.t 58))),
   .op (some 60) (.c (.mki 3 (.t 59))),
   .op (some 61) (.c (.fldA 1 1 (.t 8))),
   .op (some 62) (.c (.ld 1 false (.t 61))),
   .op (some 63) (.c (.mki 9 (.t 62))),
   .op (some 64) (.bls 1 [.nili, .nili, .nili] [(0, (.t 57)), (1, (.t 60)), (2, (.t 63))]),
   .op (some 65) (.call 34 [(.t 56), (.t 64)])] [1, 4, 40, 41, 42] []) (.skip)))
 (ir13_s6)))))
 (ir13_s5)))
def ir13_l8 : S := .seq (.rg [] [.op (some 28) (.c (.bin .lss (.t 27) (.t 26)))] [1, 4, 25, 26, 27, 28] [])
 (.seq (.cond (.t 28) (.skip) (.exit 0))
 (.seq (.block 1 (.seq (.rg [] [.op (some 29) (.c (.idxA 1 (.t 25) (.t 27))),
   .op (some 30) (.c (.ld 1 false (.t 29))),
   .op (some 6) (.c (.mv (.t 30)))] [1, 4, 6, 25, 26, 27] [])
 (.rg [] [.op (some 31) (.c (.mv (.t 4))),
   .op (some 32) (.c (.mki 101 (.str [105, 115, 115, 117, 101, 114]))),
   .op (some 33) (.c (.mv (.t 6))),
   .op (some 34) (.c (.mki 9 (.t 33))),
   .op (some 35) (.c (.mki 102 (.str [59]))),
   .op (some 36) (.bls 1 [.nili, .nili, .nili] [(0, (.t 32)), (1, (.t 34)), (2, (.t 35))]),
   .op (some 37) (.call 34 [(.t 31), (.t 36)])] [1, 4, 25, 26, 27] [])))
 (.rg [] [.op (some 38) (.c (.bin .add (.t 27) (.int .i64 1))),
   .op (some 27) (.c (.mv (.t 38)))] [1, 4, 25, 26, 27] [])))
def ir13 : S := .seq (.rg [] [.op (some 1) (.box 30 (.t 0)),
   .op (some 2) (.c (.mv (.str []))),
   .op (some 3) (.c (.mv (.int .i64 0)))] [1] [])
 (.seq (.seq (.rg [] [.op (some 19) (.c (.ld 6 true (.t 1))),
   .op (some 20) (.pcall 33 [(.t 19)]),
   .op (some 21) (.c (.not (.t 20)))] [1, 21] [])
 (.cond (.t 21) (.seq (.rg [] [.op (some 2) (.c (.mv (.str []))),
   .op (some 3) (.c (.mv (.int .i64 100)))] [2, 3] [])
 (.ret)) (.skip)))
 (.seq (.rg [] [.op (some 22) (.c (.bld [.nils] [])),
   .op (some 23) (.box 99 (.t 22)),
   .op (some 4) (.c (.mv (.t 23)))] [1, 4] [])
 (.seq (.seq (.rg [] [.op (some 24) (.c (.fldA 0 0 (.t 1))),
   .op (some 25) (.c (.ld 1 false (.t 24))),
   .op (some 26) (.c (.lenL (.t 25))),
   .op (some 27) (.c (.mv (.int .i64 0)))] [1, 4, 25, 26, 27] [])
 (.block 0 (.loop [1, 4, 25, 26, 27] ir13_l8)))
 (.seq (.seq (.rg [] [.op (some 39) (.c (.fldA 1 1 (.t 1))),
   .op (some 40) (.c (.ld 1 false (.t 39))),
   .op (some 41) (.c (.lenL (.t 40))),
   .op (some 42) (.c (.mv (.int .i64 0)))] [1, 4, 40, 41, 42] [])
 (.block 2 (.loop [1, 4, 40, 41, 42] ir13_l7)))
 (.seq (.seq (.rg [] [.op (some 71) (.c (.fldA 2 2 (.t 1))),
   .op (some 72) (.c (.ld 1 false (.t 71))),
   .op (some 73) (.c (.lenL (.t 72))),
   .op (some 74) (.c (.mv (.int .i64 0)))] [1, 4, 72, 73, 74] [])
 (.block 4 (.loop [1, 4, 72, 73, 74] ir13_l4)))
 (.seq (.seq (.rg [] [.op (some 82) (.c (.fldA 3 3 (.t 1))),
   .op (some 83) (.c (.ld 1 false (.t 82))),
   .op (some 84) (.c (.lenL (.t 83))),
   .op (some 85) (.c (.mv (.int .i64 0)))] [1, 4, 83, 84, 85] [])
 (.block 6 (.loop [1, 4, 83, 84, 85] ir13_l3)))
 (.seq (.seq (.rg [] [.op (some 93) (.c (.fldA 4 4 (.t 1))),
   .op (some 94) (.c (.ld 1 false (.t 93))),
   .op (some 95) (.c (.lenL (.t 94))),
   .op (some 96) (.c (.mv (.int .i64 0)))] [1, 4, 94, 95, 96] [])
 (.block 8 (.loop [1, 4, 94, 95, 96] ir13_l2)))
 (.seq (.seq (.rg [] [.op (some 104) (.c (.fldA 5 5 (.t 1))),
   .op (some 105) (.c (.ld 1 false (.t 104))),
   .op (some 106) (.c (.lenL (.t 105))),
   .op (some 107) (.c (.mv (.int .i64 0)))] [4, 105, 106, 107] [])
 (.block 10 (.loop [4, 105, 106, 107] ir13_l1)))
 (.seq (.rg [] [.op (some 149) (.c (.mv (.t 4))),
   .op (some 150) (.c (.nilc (.t 149))),
   .op (some 151) (.c (.fldA 0 0 (.t 150))),
   .op (some 152) (.c (.ld 1 false (.t 151))),
   .op (some 153) (.pcall 38 [(.t 152)]),
   .op (some 154) (.c (.ext (.t 153) 0)),
   .op (some 155) (.c (.ext (.t 153) 1)),
   .op (some 2) (.c (.mv (.t 154))),
   .op (some 3) (.c (.mv (.t 155)))] [2, 3] [])
 (.ret))))))))))
theorem ok13 : fnOk Tryz.prog 13 1 ir13 [.t 2, .t 3] = true := by kernel_rfl
def ir17 : S := .seq (.rg [] [.op (some 2) (.box 30 (.t 0)),
   .op (some 3) (.box 30 (.t 1)),
   .op (some 4) (.c (.mv (.bool false)))] [2, 3] [])
 (.seq (.rg [] [.op (some 5) (.c (.fldA 0 0 (.t 2))),
   .op (some 6) (.c (.ld 1 false (.t 5))),
   .op (some 7) (.c (.fldA 0 0 (.t 3))),
   .op (some 8) (.c (.ld 1 false (.t 7))),
   .op (some 9) (.pcall 48 [(.t 6), (.t 8)]),
   .op (some 10) (.c (.mv (.t 9))),
   .gop 10 true (some 11) (.c (.fldA 1 1 (.t 2))),
   .gop 10 true (some 12) (.c (.ld 1 false (.t 11))),
   .gop 10 true (some 13) (.c (.fldA 1 1 (.t 3))),
   .gop 10 true (some 14) (.c (.ld 1 false (.t 13))),
   .gop 10 true (some 15) (.pcall 49 [(.t 12), (.t 14)]),
   .op (some 16) (.c (.pick (.t 10) (.t 15) (.bool false))),
   .op (some 17) (.c (.mv (.t 16))),
   .gop 17 true (some 18) (.c (.fldA 2 2 (.t 2))),
   .gop 17 true (some 19) (.c (.ld 1 false (.t 18))),
   .gop 17 true (some 20) (.c (.fldA 2 2 (.t 3))),
   .gop 17 true (some 21) (.c (.ld 1 false (.t 20))),
   .gop 17 true (some 22) (.call 50 [(.t 19), (.t 21), (.fn 51)]),
   .op (some 23) (.c (.pick (.t 17) (.t 22) (.bool false))),
   .op (some 24) (.c (.mv (.t 23))),
   .gop 24 true (some 25) (.c (.fldA 3 3 (.t 2))),
   .gop 24 true (some 26) (.c (.ld 1 false (.t 25))),
   .gop 24 true (some 27) (.c (.fldA 3 3 (.t 3))),
   .gop 24 true (some 28) (.c (.ld 1 false (.t 27))),
   .gop 24 true (some 29) (.call 52 [(.t 26), (.t 28), (.fn 53)]),
   .op (some 30) (.c (.pick (.t 24) (.t 29) (.bool false))),
   .op (some 31) (.c (.mv (.t 30))),
   .gop 31 true (some 32) (.c (.fldA 4 4 (.t 2))),
   .gop 31 true (some 33) (.c (.ld 1 false (.t 32))),
   .gop 31 true (some 34) (.c (.fldA 4 4 (.t 3))),
   .gop 31 true (some 35) (.c (.ld 1 false (.t 34))),
   .gop 31 true (some 36) (.call 54 [(.t 33), (.t 35), (.fn 55)]),
   .op (some 37) (.c (.pick (.t 31) (.t 36) (.bool false))),
   .op (some 38) (.c (.mv (.t 37))),
   .gop 38 true (some 39) (.c (.fldA 5 5 (.t 2))),
   .gop 38 true (some 40) (.c (.ld 1 false (.t 39))),
   .gop 38 true (some 41) (.c (.fldA 5 5 (.t 3))),
   .gop 38 true (some 42) (.c (.ld 1 false (.t 41))),
   .gop 38 true (some 43) (.call 56 [(.t 40), (.t 42), (.fn 57)]),
   .op (some 44) (.c (.pick (.t 38) (.t 43) (.bool false))),
   .op (some 4) (.c (.mv (.t 44)))] [4] [])
 (.ret))
theorem ok17 : fnOk Tryz.prog 17 2 ir17 [.t 4] = true := by kernel_rfl
def ir28_l0 : S := .seq (.seq (.rg [] [.op (some 11) (.c (.mv (.t 5))),
   .op (some 12) (.c (.mv (.t 0))),
   .op (some 13) (.c (.lenL (.t 12))),
   .op (some 14) (.c (.bin .lss (.t 11) (.t 13)))] [0, 1, 5, 14] [])
 (.cond (.t 14) (.skip) (.exit 0)))
 (.seq (.block 1 (.seq (.rg [0, 1, 2, 4, 5, 6, 3, 7, 8] [.op (some 17) (.c (.mv (.t 0))),
   .op (some 18) (.c (.mv (.t 5))),
   .op (some 19) (.c (.idxA 1 (.t 17) (.t 18))),
   .op (some 21) (.c (.mv (.t 1))),
   .op (some 22) (.c (.mv (.t 5))),
   .op (some 23) (.c (.idxA 1 (.t 21) (.t 22))),
   .op (some 20) (.c (.ld 1 false (.t 19))),
   .op (some 24) (.c (.ld 1 false (.t 23))),
   .op (some 25) (.c (.bin .neq (.t 20) (.t 24)))] [0, 1, 5, 25] [])
 (.cond (.t 25) (.seq (.rg [] [.op (some 4) (.c (.mv (.bool false)))] [4] [])
 (.ret)) (.skip))))
 (.rg [] [.op (some 15) (.c (.mv (.t 5))),
   .op (some 16) (.c (.bin .add (.t 15) (.int .i64 1))),
   .op (some 5) (.c (.mv (.t 16)))] [0, 1, 5] []))
def ir28 : S := .seq (.rg [] [.op (some 4) (.c (.mv (.bool false)))] [0, 1] [])
 (.seq (.seq (.rg [] [.op (some 6) (.c (.mv (.t 0))),
   .op (some 7) (.c (.lenL (.t 6))),
   .op (some 8) (.c (.mv (.t 1))),
   .op (some 9) (.c (.lenL (.t 8))),
   .op (some 10) (.c (.bin .neq (.t 7) (.t 9)))] [0, 1, 10] [])
 (.cond (.t 10) (.seq (.rg [] [.op (some 4) (.c (.mv (.bool false)))] [4] [])
 (.ret)) (.skip)))
 (.seq (.seq (.rg [] [.op (some 5) (.c (.mv (.int .i64 0)))] [0, 1, 5] [])
 (.block 0 (.loop [0, 1, 5] ir28_l0)))
 (.seq (.rg [] [.op (some 4) (.c (.mv (.bool true)))] [4] [])
 (.ret))))
theorem ok28 : fnOk Tryz.prog 28 2 ir28 [.t 4] = true := by kernel_rfl
def ir30_l0 : S := .seq (.seq (.rg [] [.op (some 83) (.c (.mv (.t 7))),
   .op (some 84) (.c (.fldA 4 4 (.t 2))),
   .op (some 85) (.c (.ld 1 false (.t 84))),
   .op (some 86) (.c (.lenL (.t 85))),
   .op (some 87) (.c (.bin .lss (.t 83) (.t 86)))] [2, 3, 7, 87] [])
 (.cond (.t 87) (.skip) (.exit 4)))
 (.seq (.block 5 (.seq (.rg [0, 2, 5, 7, 1, 3, 4, 6, 8, 9, 10] [.op (some 90) (.c (.fldA 4 4 (.t 2))),
   .op (some 92) (.c (.mv (.t 7))),
   .op (some 95) (.c (.fldA 4 4 (.t 3))),
   .op (some 97) (.c (.mv (.t 7))),
   .op (some 91) (.c (.ld 1 false (.t 90))),
   .op (some 93) (.c (.idxA 7 (.t 91) (.t 92))),
   .op (some 94) (.c (.ld 7 true (.t 93))),
   .op (some 96) (.c (.ld 1 false (.t 95))),
   .op (some 98) (.c (.idxA 7 (.t 96) (.t 97))),
   .op (some 99) (.c (.ld 7 true (.t 98))),
   .op (some 100) (.c (.eqD (.st [.str, .int .i64, .st [.str, .str, .int .i64, .int .i64, .int .i64]]) false (.t 94) (.t 99)))] [2, 3, 7, 100] [])
 (.cond (.t 100) (.seq (.rg [] [.op (some 4) (.c (.mv (.bool false)))] [4] [])
 (.ret)) (.skip))))
 (.rg [] [.op (some 88) (.c (.mv (.t 7))),
   .op (some 89) (.c (.bin .add (.t 88) (.int .i64 1))),
   .op (some 7) (.c (.mv (.t 89)))] [2, 3, 7] []))
def ir30_l1 : S := .seq (.seq (.rg [] [.op (some 65) (.c (.mv (.t 6))),
   .op (some 66) (.c (.fldA 3 3 (.t 2))),
   .op (some 67) (.c (.ld 1 false (.t 66))),
   .op (some 68) (.c (.lenL (.t 67))),
   .op (some 69) (.c (.bin .lss (.t 65) (.t 68)))] [2, 3, 6, 69] [])
 (.cond (.t 69) (.skip) (.exit 2)))
 (.seq (.block 3 (.seq (.rg [0, 2, 5, 7, 1, 3, 4, 6, 8, 9, 10] [.op (some 72) (.c (.fldA 3 3 (.t 2))),
   .op (some 74) (.c (.mv (.t 6))),
   .op (some 77) (.c (.fldA 3 3 (.t 3))),
   .op (some 79) (.c (.mv (.t 6))),
   .op (some 73) (.c (.ld 1 false (.t 72))),
   .op (some 75) (.c (.idxA 11 (.t 73) (.t 74))),
   .op (some 76) (.c (.ld 11 true (.t 75))),
   .op (some 78) (.c (.ld 1 false (.t 77))),
   .op (some 80) (.c (.idxA 11 (.t 78) (.t 79))),
   .op (some 81) (.c (.ld 11 true (.t 80))),
   .op (some 82) (.c (.eqD (.st [.int .i64, .st [.str, .str, .int .i64, .int .i64, .int .i64], .st [.str, .str, .int .i64, .int .i64, .int .i64]]) false (.t 76) (.t 81)))] [2, 3, 6, 82] [])
 (.cond (.t 82) (.seq (.rg [] [.op (some 4) (.c (.mv (.bool false)))] [4] [])
 (.ret)) (.skip))))
 (.rg [] [.op (some 70) (.c (.mv (.t 6))),
   .op (some 71) (.c (.bin .add (.t 70) (.int .i64 1))),
   .op (some 6) (.c (.mv (.t 71)))] [2, 3, 6] []))
def ir30_l2 : S := .seq (.seq (.rg [] [.op (some 47) (.c (.mv (.t 5))),
   .op (some 48) (.c (.fldA 2 2 (.t 2))),
   .op (some 49) (.c (.ld 1 false (.t 48))),
   .op (some 50) (.c (.lenL (.t 49))),
   .op (some 51) (.c (.bin .lss (.t 47) (.t 50)))] [2, 3, 5, 51] [])
 (.cond (.t 51) (.skip) (.exit 0)))
 (.seq (.block 1 (.seq (.rg [0, 2, 5, 7, 1, 3, 4, 6, 8, 9, 10] [.op (some 54) (.c (.fldA 2 2 (.t 2))),
   .op (some 56) (.c (.mv (.t 5))),
   .op (some 59) (.c (.fldA 2 2 (.t 3))),
   .op (some 61) (.c (.mv (.t 5))),
   .op (some 55) (.c (.ld 1 false (.t 54))),
   .op (some 57) (.c (.idxA 8 (.t 55) (.t 56))),
   .op (some 58) (.c (.ld 8 true (.t 57))),
   .op (some 60) (.c (.ld 1 false (.t 59))),
   .op (some 62) (.c (.idxA 8 (.t 60) (.t 61))),
   .op (some 63) (.c (.ld 8 true (.t 62))),
   .op (some 64) (.c (.eqD (.st [.str, .str, .int .i64, .st [.str, .str, .int .i64, .int .i64, .int .i64]]) false (.t 58) (.t 63)))] [2, 3, 5, 64] [])
 (.cond (.t 64) (.seq (.rg [] [.op (some 4) (.c (.mv (.bool false)))] [4] [])
 (.ret)) (.skip))))
 (.rg [] [.op (some 52) (.c (.mv (.t 5))),
   .op (some 53) (.c (.bin .add (.t 52) (.int .i64 1))),
   .op (some 5) (.c (.mv (.t 53)))] [2, 3, 5] []))
def ir30 : S := .seq (.rg [] [.op (some 2) (.box 50 (.t 0)),
   .op (some 3) (.box 50 (.t 1)),
   .op (some 4) (.c (.mv (.bool false)))] [2, 3] [])
 (.seq (.seq (.rg [] [.op (some 8) (.c (.fldA 0 0 (.t 2))),
   .op (some 9) (.c (.ld 1 false (.t 8))),
   .op (some 10) (.c (.fldA 0 0 (.t 3))),
   .op (some 11) (.c (.ld 1 false (.t 10))),
   .op (some 12) (.c (.bin .neq (.t 9) (.t 11))),
   .op (some 13) (.c (.mv (.t 12))),
   .gop 13 false (some 14) (.c (.fldA 1 1 (.t 2))),
   .gop 13 false (some 15) (.c (.ld 1 false (.t 14))),
   .gop 13 false (some 16) (.c (.fldA 1 1 (.t 3))),
   .gop 13 false (some 17) (.c (.ld 1 false (.t 16))),
   .gop 13 false (some 18) (.c (.bin .neq (.t 15) (.t 17))),
   .op (some 19) (.c (.pick (.t 13) (.bool true) (.t 18))),
   .op (some 20) (.c (.mv (.t 19))),
   .gop 20 false (some 21) (.c (.fldA 2 2 (.t 2))),
   .gop 20 false (some 22) (.c (.ld 1 false (.t 21))),
   .gop 20 false (some 23) (.c (.lenL (.t 22))),
   .gop 20 false (some 24) (.c (.fldA 2 2 (.t 3))),
   .gop 20 false (some 25) (.c (.ld 1 false (.t 24))),
   .gop 20 false (some 26) (.c (.lenL (.t 25))),
   .gop 20 false (some 27) (.c (.bin .neq (.t 23) (.t 26))),
   .op (some 28) (.c (.pick (.t 20) (.bool true) (.t 27))),
   .op (some 29) (.c (.mv (.t 28))),
   .gop 29 false (some 30) (.c (.fldA 3 3 (.t 2))),
   .gop 29 false (some 31) (.c (.ld 1 false (.t 30))),
   .gop 29 false (some 32) (.c (.lenL (.t 31))),
   .gop 29 false (some 33) (.c (.fldA 3 3 (.t 3))),
   .gop 29 false (some 34) (.c (.ld 1 false (.t 33))),
   .gop 29 false (some 35) (.c (.lenL (.t 34))),
   .gop 29 false (some 36) (.c (.bin .neq (.t 32) (.t 35))),
   .op (some 37) (.c (.pick (.t 29) (.bool true) (.t 36))),
   .op (some 38) (.c (.mv (.t 37))),
   .gop 38 false (some 39) (.c (.fldA 4 4 (.t 2))),
   .gop 38 false (some 40) (.c (.ld 1 false (.t 39))),
   .gop 38 false (some 41) (.c (.lenL (.t 40))),
   .gop 38 false (some 42) (.c (.fldA 4 4 (.t 3))),
   .gop 38 false (some 43) (.c (.ld 1 false (.t 42))),
   .gop 38 false (some 44) (.c (.lenL (.t 43))),
   .gop 38 false (some 45) (.c (.bin .neq (.t 41) (.t 44))),
   .op (some 46) (.c (.pick (.t 38) (.bool true) (.t 45)))] [2, 3, 46] [])
 (.cond (.t 46) (.seq (.rg [] [.op (some 4) (.c (.mv (.bool false)))] [4] [])
 (.ret)) (.skip)))
 (.seq (.seq (.rg [] [.op (some 5) (.c (.mv (.int .i64 0)))] [2, 3, 5] [])
 (.block 0 (.loop [2, 3, 5] ir30_l2)))
 (.seq (.seq (.rg [] [.op (some 6) (.c (.mv (.int .i64 0)))] [2, 3, 6] [])
 (.block 2 (.loop [2, 3, 6] ir30_l1)))
 (.seq (.seq (.rg [] [.op (some 7) (.c (.mv (.int .i64 0)))] [2, 3, 7] [])
 (.block 4 (.loop [2, 3, 7] ir30_l0)))
 (.seq (.rg [] [.op (some 4) (.c (.mv (.bool true)))] [4] [])
 (.ret))))))
theorem ok30 : fnOk Tryz.prog 30 2 ir30 [.t 4] = true := by kernel_rfl
def ir33 : S := .seq (.rg [] [.op (some 1) (.box 30 (.t 0)),
   .op (some 2) (.c (.mv (.bool false)))] [1] [])
 (.seq (.rg [] [.op (some 3) (.c (.fldA 0 0 (.t 1))),
   .op (some 4) (.c (.ld 1 false (.t 3))),
   .op (some 5) (.call 99 [(.t 4), (.int .i64 8), (.fn 100)]),
   .op (some 6) (.c (.mv (.t 5))),
   .gop 6 true (some 7) (.c (.fldA 1 1 (.t 1))),
   .gop 6 true (some 8) (.c (.ld 1 false (.t 7))),
   .gop 6 true (some 9) (.call 101 [(.t 8), (.int .i64 16), (.fn 102)]),
   .op (some 10) (.c (.pick (.t 6) (.t 9) (.bool false))),
   .op (some 11) (.c (.mv (.t 10))),
   .gop 11 true (some 12) (.c (.fldA 2 2 (.t 1))),
   .gop 11 true (some 13) (.c (.ld 1 false (.t 12))),
   .gop 11 true (some 14) (.call 103 [(.t 13), (.int .i64 16), (.fn 104)]),
   .op (some 15) (.c (.pick (.t 11) (.t 14) (.bool false))),
   .op (some 16) (.c (.mv (.t 15))),
   .gop 16 true (some 17) (.c (.fldA 3 3 (.t 1))),
   .gop 16 true (some 18) (.c (.ld 1 false (.t 17))),
   .gop 16 true (some 19) (.call 105 [(.t 18), (.int .i64 16), (.fn 106)]),
   .op (some 20) (.c (.pick (.t 16) (.t 19) (.bool false))),
   .op (some 21) (.c (.mv (.t 20))),
   .gop 21 true (some 22) (.c (.fldA 4 4 (.t 1))),
   .gop 21 true (some 23) (.c (.ld 1 false (.t 22))),
   .gop 21 true (some 24) (.call 107 [(.t 23), (.int .i64 16), (.fn 108)]),
   .op (some 25) (.c (.pick (.t 21) (.t 24) (.bool false))),
   .op (some 26) (.c (.mv (.t 25))),
   .gop 26 true (some 27) (.c (.fldA 5 5 (.t 1))),
   .gop 26 true (some 28) (.c (.ld 1 false (.t 27))),
   .gop 26 true (some 29) (.call 109 [(.t 28), (.int .i64 8), (.fn 110)]),
   .op (some 30) (.c (.pick (.t 26) (.t 29) (.bool false))),
   .op (some 2) (.c (.mv (.t 30)))] [2] [])
 (.ret))
theorem ok33 : fnOk Tryz.prog 33 1 ir33 [.t 2] = true := by kernel_rfl
def ir34_s0 : S := .rg [] [.op (some 144) (.c (.bin .add (.t 20) (.int .i64 1))),
   .op (some 20) (.c (.mv (.t 144)))] [0, 18, 19, 20] []
def ir34_s1 : S := .rg [] [.op (some 102) (.c (.bin .add (.t 86) (.int .i64 1))),
   .op (some 86) (.c (.mv (.t 102)))] [0, 18, 19, 20, 84, 85, 86] []
def ir34_s2 : S := .rg [] [.op (some 97) (.c (.mv (.t 0))),
   .op (some 98) (.c (.mv (.t 12))),
   .op (some 99) (.c (.mki 9 (.t 98))),
   .op (some 100) (.bls 1 [.nili] [(0, (.t 99))]),
   .op (some 101) (.call 34 [(.t 97), (.t 100)])] [0, 18, 19, 20, 84, 85, 86] []
def ir34_l3 : S := .seq (.rg [] [.op (some 87) (.c (.bin .lss (.t 86) (.t 85)))] [0, 18, 19, 20, 84, 85, 86, 87] [])
 (.seq (.cond (.t 87) (.skip) (.exit 3))
 (.seq (.block 4 (.seq (.rg [] [.op (some 88) (.c (.mv (.t 86))),
   .op (some 89) (.c (.idxA 1 (.t 84) (.t 86))),
   .op (some 90) (.c (.ld 1 false (.t 89))),
   .op (some 11) (.c (.mv (.t 88))),
   .op (some 12) (.c (.mv (.t 90)))] [0, 11, 12, 18, 19, 20, 84, 85, 86] [])
 (.seq (.seq (.rg [] [.op (some 91) (.c (.mv (.t 11))),
   .op (some 92) (.c (.bin .gtr (.t 91) (.int .i64 0)))] [0, 12, 18, 19, 20, 84, 85, 86, 92] [])
 (.cond (.t 92) (.rg [] [.op (some 93) (.c (.mv (.t 0))),
   .op (some 94) (.c (.mki 102 (.str [44]))),
   .op (some 95) (.bls 1 [.nili] [(0, (.t 94))]),
   .op (some 96) (.call 34 [(.t 93), (.t 95)])] [0, 12, 18, 19, 20, 84, 85, 86] []) (.skip)))
 (ir34_s2))))
 (ir34_s1)))
def ir34_l4 : S := .seq (.rg [] [.op (some 108) (.c (.bin .lss (.t 107) (.int .i64 4)))] [0, 18, 19, 20, 106, 107, 108] [])
 (.seq (.cond (.t 108) (.skip) (.exit 5))
 (.seq (.block 6 (.seq (.rg [] [.op (some 109) (.c (.aix 4 1 false (.t 106) (.t 107))),
   .op (some 15) (.c (.mv (.t 109)))] [0, 15, 18, 19, 20, 106, 107] [])
 (.rg [] [.op (some 110) (.c (.mv (.t 0))),
   .op (some 111) (.c (.mv (.t 15))),
   .op (some 112) (.c (.mki 3 (.t 111))),
   .op (some 113) (.bls 1 [.nili] [(0, (.t 112))]),
   .op (some 114) (.call 34 [(.t 110), (.t 113)])] [0, 18, 19, 20, 106, 107] [])))
 (.rg [] [.op (some 115) (.c (.bin .add (.t 107) (.int .i64 1))),
   .op (some 107) (.c (.mv (.t 115)))] [0, 18, 19, 20, 106, 107] [])))
def ir34_l5 : S := .seq (.rg [] [.op (some 21) (.c (.bin .lss (.t 20) (.t 19)))] [0, 18, 19, 20, 21] [])
 (.seq (.cond (.t 21) (.skip) (.exit 0))
 (.seq (.block 1 (.seq (.rg [] [.op (some 22) (.c (.idxA 1 (.t 18) (.t 20))),
   .op (some 23) (.c (.ld 1 false (.t 22))),
   .op (some 5) (.c (.mv (.t 23)))] [0, 5, 18, 19, 20] [])
 (.seq (.rg [] [.op (some 24) (.c (.mv (.t 5)))] [0, 18, 19, 20, 24] [])
 (.block 2 (.seq (.rg [] [.op (some 25) (.c (.tas 101 (.str []) (.t 24))),
   .op (some 26) (.c (.ext (.t 25) 1)),
   .op (some 27) (.c (.ext (.t 25) 0))] [0, 18, 19, 20, 24, 26, 27] [])
 (.cond (.t 26) (.seq (.rg [] [.op (some 6) (.c (.mv (.t 27)))] [0, 6, 18, 19, 20] [])
 (.rg [] [.op (some 28) (.c (.mv (.t 0))),
   .op (some 29) (.c (.mv (.t 0))),
   .op (some 30) (.c (.nilc (.t 29))),
   .op (some 31) (.c (.fldA 0 0 (.t 30))),
   .op (some 32) (.c (.ld 1 false (.t 31))),
   .op (some 33) (.c (.mv (.t 6))),
   .op (some 34) (.c (.bld [.int .i64 0, .str [], .int .i64 0, .int .i64 0] [(0, (.int .i64 1)), (1, (.t 33))])),
   .op (some 35) (.bls 4 [.agg [.int .i64 0, .str [], .int .i64 0, .int .i64 0]] [(0, (.t 34))]),
   .op (some 36) (.app 44 4 40 (.t 32) (.t 35)),
   .op (some 37) (.c (.nilc (.t 28))),
   .op (some 38) (.c (.fldA 0 0 (.t 37))),
   .op none (.st 1 (.t 38) (.t 36))] [0, 18, 19, 20] [])) (.seq (.rg [] [.op (some 39) (.c (.tas 9 (.str []) (.t 24))),
   .op (some 40) (.c (.ext (.t 39) 1)),
   .op (some 41) (.c (.ext (.t 39) 0))] [0, 18, 19, 20, 24, 40, 41] [])
 (.cond (.t 40) (.seq (.rg [] [.op (some 7) (.c (.mv (.t 41)))] [0, 7, 18, 19, 20] [])
 (.rg [] [.op (some 42) (.c (.mv (.t 0))),
   .op (some 43) (.c (.mv (.t 0))),
   .op (some 44) (.c (.nilc (.t 43))),
   .op (some 45) (.c (.fldA 0 0 (.t 44))),
   .op (some 46) (.c (.ld 1 false (.t 45))),
   .op (some 47) (.c (.mv (.t 7))),
   .op (some 48) (.c (.bld [.int .i64 0, .str [], .int .i64 0, .int .i64 0] [(0, (.int .i64 1)), (1, (.t 47))])),
   .op (some 49) (.bls 4 [.agg [.int .i64 0, .str [], .int .i64 0, .int .i64 0]] [(0, (.t 48))]),
   .op (some 50) (.app 44 4 40 (.t 46) (.t 49)),
   .op (some 51) (.c (.nilc (.t 42))),
   .op (some 52) (.c (.fldA 0 0 (.t 51))),
   .op none (.st 1 (.t 52) (.t 50))] [0, 18, 19, 20] [])) (.seq (.rg [] [.op (some 53) (.c (.tas 102 (.str []) (.t 24))),
   .op (some 54) (.c (.ext (.t 53) 1)),
   .op (some 55) (.c (.ext (.t 53) 0))] [0, 18, 19, 20, 24, 54, 55] [])
 (.cond (.t 54) (.seq (.rg [] [.op (some 8) (.c (.mv (.t 55)))] [0, 8, 18, 19, 20] [])
 (.rg [] [.op (some 56) (.c (.mv (.t 0))),
   .op (some 57) (.c (.mv (.t 0))),
   .op (some 58) (.c (.nilc (.t 57))),
   .op (some 59) (.c (.fldA 0 0 (.t 58))),
   .op (some 60) (.c (.ld 1 false (.t 59))),
   .op (some 61) (.c (.mv (.t 8))),
   .op (some 62) (.c (.bld [.int .i64 0, .str [], .int .i64 0, .int .i64 0] [(0, (.int .i64 3)), (1, (.t 61))])),
   .op (some 63) (.bls 4 [.agg [.int .i64 0, .str [], .int .i64 0, .int .i64 0]] [(0, (.t 62))]),
   .op (some 64) (.app 44 4 40 (.t 60) (.t 63)),
   .op (some 65) (.c (.nilc (.t 56))),
   .op (some 66) (.c (.fldA 0 0 (.t 65))),
   .op none (.st 1 (.t 66) (.t 64))] [0, 18, 19, 20] [])) (.seq (.rg [] [.op (some 67) (.c (.tas 3 (.int .i64 0) (.t 24))),
   .op (some 68) (.c (.ext (.t 67) 1)),
   .op (some 69) (.c (.ext (.t 67) 0))] [0, 18, 19, 20, 24, 68, 69] [])
 (.cond (.t 68) (.seq (.rg [] [.op (some 9) (.c (.mv (.t 69)))] [0, 9, 18, 19, 20] [])
 (.rg [] [.op (some 70) (.c (.mv (.t 0))),
   .op (some 71) (.c (.mv (.t 0))),
   .op (some 72) (.c (.nilc (.t 71))),
   .op (some 73) (.c (.fldA 0 0 (.t 72))),
   .op (some 74) (.c (.ld 1 false (.t 73))),
   .op (some 75) (.c (.mv (.t 9))),
   .op (some 76) (.c (.bld [.int .i64 0, .str [], .int .i64 0, .int .i64 0] [(0, (.int .i64 2)), (2, (.t 75))])),
   .op (some 77) (.bls 4 [.agg [.int .i64 0, .str [], .int .i64 0, .int .i64 0]] [(0, (.t 76))]),
   .op (some 78) (.app 44 4 40 (.t 74) (.t 77)),
   .op (some 79) (.c (.nilc (.t 70))),
   .op (some 80) (.c (.fldA 0 0 (.t 79))),
   .op none (.st 1 (.t 80) (.t 78))] [0, 18, 19, 20] [])) (.seq (.rg [] [.op (some 81) (.c (.tas 23 (.nils) (.t 24))),
   .op (some 82) (.c (.ext (.t 81) 1)),
   .op (some 83) (.c (.ext (.t 81) 0))] [0, 18, 19, 20, 24, 82, 83] [])
 (.cond (.t 82) (.seq (.rg [] [.op (some 10) (.c (.mv (.t 83)))] [0, 10, 18, 19, 20] [])
 (.seq (.rg [] [.op (some 84) (.c (.mv (.t 10))),
   .op (some 85) (.c (.lenL (.t 84))),
   .op (some 86) (.c (.mv (.int .i64 0)))] [0, 18, 19, 20, 84, 85, 86] [])
 (.block 3 (.loop [0, 18, 19, 20, 84, 85, 86] ir34_l3)))) (.seq (.rg [] [.op (some 103) (.c (.tas 91 (.agg (List.replicate 4 (.int .i64 0))) (.t 24))),
   .op (some 104) (.c (.ext (.t 103) 1)),
   .op (some 105) (.c (.ext (.t 103) 0))] [0, 18, 19, 20, 24, 104, 105] [])
 (.cond (.t 104) (.seq (.rg [] [.op (some 13) (.alloc 91 (.agg (List.replicate 4 (.int .i64 0)))),
   .op none (.st 4 (.t 13) (.t 105))] [0, 13, 18, 19, 20] [])
 (.seq (.rg [] [.op (some 106) (.c (.ld 4 true (.t 13))),
   .op (some 107) (.c (.mv (.int .i64 0)))] [0, 18, 19, 20, 106, 107] [])
 (.block 5 (.loop [0, 18, 19, 20, 106, 107] ir34_l4)))) (.seq (.rg [] [.op (some 116) (.c (.tas 90 (.agg [.int .i64 0, .int .i64 0, .int .i64 0, .str [], .int .i64 0, .nils]) (.t 24))),
   .op (some 117) (.c (.ext (.t 116) 1)),
   .op (some 118) (.c (.ext (.t 116) 0))] [0, 18, 19, 20, 24, 117, 118] [])
 (.cond (.t 117) (.seq (.rg [] [.op (some 16) (.alloc 90 (.agg [.int .i64 0, .int .i64 0, .int .i64 0, .str [], .int .i64 0, .nils])),
   .op none (.st 6 (.t 16) (.t 118))] [0, 16, 18, 19, 20] [])
 (.rg [] [.op (some 119) (.c (.mv (.t 0))),
   .op (some 120) (.c (.ld 6 true (.t 16))),
   .op (some 121) (.call 111 [(.t 119), (.t 120)])] [0, 18, 19, 20] [])) (.seq (.rg [] [.op (some 122) (.c (.tas 52 (.agg [.str [], .str [], .int .i64 0, .int .i64 0, .int .i64 0]) (.t 24))),
   .op (some 123) (.c (.ext (.t 122) 1)),
   .op (some 124) (.c (.ext (.t 122) 0))] [0, 18, 19, 20, 123, 124] [])
 (.cond (.t 123) (.seq (.rg [] [.op (some 17) (.alloc 52 (.agg [.str [], .str [], .int .i64 0, .int .i64 0, .int .i64 0])),
   .op none (.st 5 (.t 17) (.t 124))] [0, 17, 18, 19, 20] [])
 (.seq (.rg [] [.op (some 125) (.c (.fldA 0 0 (.t 17))),
   .op (some 126) (.c (.ld 1 false (.t 125))),
   .op (some 127) (.c (.bin .eql (.t 126) (.str [])))] [0, 17, 18, 19, 20, 127] [])
 (.cond (.t 127) (.rg [] [.op (some 128) (.c (.mv (.t 0))),
   .op (some 129) (.c (.fldA 4 4 (.t 17))),
   .op (some 130) (.c (.ld 1 false (.t 129))),
   .op (some 131) (.c (.mki 3 (.t 130))),
   .op (some 132) (.bls 1 [.nili] [(0, (.t 131))]),
   .op (some 133) (.call 34 [(.t 128), (.t 132)])] [0, 18, 19, 20] []) (.rg [] [.op (some 134) (.c (.mv (.t 0))),
   .op (some 135) (.c (.fldA 0 0 (.t 17))),
   .op (some 136) (.c (.ld 1 false (.t 135))),
   .op (some 137) (.c (.mki 9 (.t 136))),
   .op (some 138) (.c (.mki 102 (.str [46]))),
   .op (some 139) (.c (.fldA 1 1 (.t 17))),
   .op (some 140) (.c (.ld 1 false (.t 139))),
   .op (some 141) (.c (.mki 9 (.t 140))),
   .op (some 142) (.bls 1 [.nili, .nili, .nili] [(0, (.t 137)), (1, (.t 138)), (2, (.t 141))]),
   .op (some 143) (.call 34 [(.t 134), (.t 142)])] [0, 18, 19, 20] [])))) (.skip)))))))))))))))))))))
 (ir34_s0)))
def ir34 : S := .seq (.rg [] [.op (some 18) (.c (.mv (.t 1))),
   .op (some 19) (.c (.lenL (.t 18))),
   .op (some 20) (.c (.mv (.int .i64 0)))] [0, 18, 19, 20] [])
 (.block 0 (.loop [0, 18, 19, 20] ir34_l5))
theorem ok34 : fnOk Tryz.prog 34 2 ir34 [] = true := by kernel_rfl
def ir48_l0 : S := .seq (.rg [] [.op (some 14) (.c (.bin .lss (.t 13) (.t 12)))] [0, 1, 12, 13, 14] [])
 (.seq (.cond (.t 14) (.skip) (.exit 0))
 (.seq (.block 1 (.seq (.rg [] [.op (some 15) (.c (.mv (.t 13))),
   .op (some 5) (.c (.mv (.t 15)))] [0, 1, 5, 12, 13] [])
 (.seq (.rg [0, 1, 2, 4, 5, 6, 3, 7, 8] [.op (some 16) (.c (.mv (.t 0))),
   .op (some 17) (.c (.mv (.t 5))),
   .op (some 18) (.c (.idxA 1 (.t 16) (.t 17))),
   .op (some 20) (.c (.mv (.t 1))),
   .op (some 21) (.c (.mv (.t 5))),
   .op (some 22) (.c (.idxA 1 (.t 20) (.t 21))),
   .op (some 19) (.c (.ld 1 false (.t 18))),
   .op (some 23) (.c (.ld 1 false (.t 22))),
   .op (some 24) (.c (.bin .neq (.t 19) (.t 23)))] [0, 1, 12, 13, 24] [])
 (.cond (.t 24) (.seq (.rg [] [.op (some 4) (.c (.mv (.bool false)))] [4] [])
 (.ret)) (.skip)))))
 (.rg [] [.op (some 25) (.c (.bin .add (.t 13) (.int .i64 1))),
   .op (some 13) (.c (.mv (.t 25)))] [0, 1, 12, 13] [])))
def ir48 : S := .seq (.rg [] [.op (some 4) (.c (.mv (.bool false)))] [0, 1] [])
 (.seq (.seq (.rg [] [.op (some 6) (.c (.mv (.t 0))),
   .op (some 7) (.c (.lenL (.t 6))),
   .op (some 8) (.c (.mv (.t 1))),
   .op (some 9) (.c (.lenL (.t 8))),
   .op (some 10) (.c (.bin .neq (.t 7) (.t 9)))] [0, 1, 10] [])
 (.cond (.t 10) (.seq (.rg [] [.op (some 4) (.c (.mv (.bool false)))] [4] [])
 (.ret)) (.skip)))
 (.seq (.seq (.rg [] [.op (some 11) (.c (.mv (.t 0))),
   .op (some 12) (.c (.lenL (.t 11))),
   .op (some 13) (.c (.mv (.int .i64 0)))] [0, 1, 12, 13] [])
 (.block 0 (.loop [0, 1, 12, 13] ir48_l0)))
 (.seq (.rg [] [.op (some 4) (.c (.mv (.bool true)))] [4] [])
 (.ret))))
theorem ok48 : fnOk Tryz.prog 48 2 ir48 [.t 4] = true := by kernel_rfl
def ir49_l0 : S := .seq (.rg [] [.op (some 14) (.c (.bin .lss (.t 13) (.t 12)))] [0, 1, 12, 13, 14] [])
 (.seq (.cond (.t 14) (.skip) (.exit 0))
 (.seq (.block 1 (.seq (.rg [] [.op (some 15) (.c (.mv (.t 13))),
   .op (some 5) (.c (.mv (.t 15)))] [0, 1, 5, 12, 13] [])
 (.seq (.rg [0, 1, 2, 4, 5, 6, 3, 7, 8] [.op (some 16) (.c (.mv (.t 0))),
   .op (some 17) (.c (.mv (.t 5))),
   .op (some 18) (.c (.idxA 5 (.t 16) (.t 17))),
   .op (some 20) (.c (.mv (.t 1))),
   .op (some 21) (.c (.mv (.t 5))),
   .op (some 22) (.c (.idxA 5 (.t 20) (.t 21))),
   .op (some 19) (.c (.ld 5 true (.t 18))),
   .op (some 23) (.c (.ld 5 true (.t 22))),
   .op (some 24) (.c (.eqD (.st [.str, .str, .int .i64, .int .i64, .int .i64]) false (.t 19) (.t 23)))] [0, 1, 12, 13, 24] [])
 (.cond (.t 24) (.seq (.rg [] [.op (some 4) (.c (.mv (.bool false)))] [4] [])
 (.ret)) (.skip)))))
 (.rg [] [.op (some 25) (.c (.bin .add (.t 13) (.int .i64 1))),
   .op (some 13) (.c (.mv (.t 25)))] [0, 1, 12, 13] [])))
def ir49 : S := .seq (.rg [] [.op (some 4) (.c (.mv (.bool false)))] [0, 1] [])
 (.seq (.seq (.rg [] [.op (some 6) (.c (.mv (.t 0))),
   .op (some 7) (.c (.lenL (.t 6))),
   .op (some 8) (.c (.mv (.t 1))),
   .op (some 9) (.c (.lenL (.t 8))),
   .op (some 10) (.c (.bin .neq (.t 7) (.t 9)))] [0, 1, 10] [])
 (.cond (.t 10) (.seq (.rg [] [.op (some 4) (.c (.mv (.bool false)))] [4] [])
 (.ret)) (.skip)))
 (.seq (.seq (.rg [] [.op (some 11) (.c (.mv (.t 0))),
   .op (some 12) (.c (.lenL (.t 11))),
   .op (some 13) (.c (.mv (.int .i64 0)))] [0, 1, 12, 13] [])
 (.block 0 (.loop [0, 1, 12, 13] ir49_l0)))
 (.seq (.rg [] [.op (some 4) (.c (.mv (.bool true)))] [4] [])
 (.ret))))
theorem ok49 : fnOk Tryz.prog 49 2 ir49 [.t 4] = true := by kernel_rfl
def ir50_l0 : S := .seq (.rg [] [.op (some 18) (.c (.bin .lss (.t 17) (.t 16)))] [1, 2, 15, 16, 17, 18] [])
 (.seq (.cond (.t 18) (.skip) (.exit 0))
 (.seq (.block 1 (.seq (.rg [] [.op (some 19) (.c (.mv (.t 17))),
   .op (some 20) (.c (.idxA 6 (.t 15) (.t 17))),
   .op (some 21) (.c (.ld 6 true (.t 20))),
   .op (some 8) (.alloc 79 (.agg [.str [], .str [], .int .i64 0, .int .i64 0, .nils, .nils])),
   .op (some 7) (.c (.mv (.t 19))),
   .op none (.st 6 (.t 8) (.t 21))] [1, 2, 7, 8, 15, 16, 17] [])
 (.seq (.rg [] [.op (some 22) (.c (.mv (.t 1))),
   .op (some 23) (.c (.mv (.t 7))),
   .op (some 24) (.c (.idxA 6 (.t 22) (.t 23))),
   .op (some 25) (.c (.ld 6 true (.t 24))),
   .op (some 9) (.alloc 79 (.agg [.str [], .str [], .int .i64 0, .int .i64 0, .nils, .nils])),
   .op none (.st 6 (.t 9) (.t 25))] [1, 2, 8, 9, 15, 16, 17] [])
 (.seq (.rg [] [.op (some 26) (.c (.mv (.t 2))),
   .op (some 27) (.c (.ld 6 true (.t 8))),
   .op (some 28) (.c (.ld 6 true (.t 9))),
   .op (some 29) (.callv (.t 26) [(.t 27), (.t 28)]),
   .op (some 30) (.c (.not (.t 29)))] [1, 2, 15, 16, 17, 30] [])
 (.cond (.t 30) (.seq (.rg [] [.op (some 6) (.c (.mv (.bool false)))] [6] [])
 (.ret)) (.skip))))))
 (.rg [] [.op (some 31) (.c (.bin .add (.t 17) (.int .i64 1))),
   .op (some 17) (.c (.mv (.t 31)))] [1, 2, 15, 16, 17] [])))
def ir50 : S := .seq (.rg [] [.op (some 6) (.c (.mv (.bool false)))] [0, 1, 2] [])
 (.seq (.seq (.rg [] [.op (some 10) (.c (.mv (.t 0))),
   .op (some 11) (.c (.lenL (.t 10))),
   .op (some 12) (.c (.mv (.t 1))),
   .op (some 13) (.c (.lenL (.t 12))),
   .op (some 14) (.c (.bin .neq (.t 11) (.t 13)))] [0, 1, 2, 14] [])
 (.cond (.t 14) (.seq (.rg [] [.op (some 6) (.c (.mv (.bool false)))] [6] [])
 (.ret)) (.skip)))
 (.seq (.seq (.rg [] [.op (some 15) (.c (.mv (.t 0))),
   .op (some 16) (.c (.lenL (.t 15))),
   .op (some 17) (.c (.mv (.int .i64 0)))] [1, 2, 15, 16, 17] [])
 (.block 0 (.loop [1, 2, 15, 16, 17] ir50_l0)))
 (.seq (.rg [] [.op (some 6) (.c (.mv (.bool true)))] [6] [])
 (.ret))))
theorem ok50 : fnOk Tryz.prog 50 3 ir50 [.t 6] = true := by kernel_rfl
def ir52_l0 : S := .seq (.rg [] [.op (some 18) (.c (.bin .lss (.t 17) (.t 16)))] [1, 2, 15, 16, 17, 18] [])
 (.seq (.cond (.t 18) (.skip) (.exit 0))
 (.seq (.block 1 (.seq (.rg [] [.op (some 19) (.c (.mv (.t 17))),
   .op (some 20) (.c (.idxA 5 (.t 15) (.t 17))),
   .op (some 21) (.c (.ld 5 true (.t 20))),
   .op (some 8) (.alloc 50 (.agg [.str [], .int .i64 0, .nils, .nils, .nils])),
   .op (some 7) (.c (.mv (.t 19))),
   .op none (.st 5 (.t 8) (.t 21))] [1, 2, 7, 8, 15, 16, 17] [])
 (.seq (.rg [] [.op (some 22) (.c (.mv (.t 1))),
   .op (some 23) (.c (.mv (.t 7))),
   .op (some 24) (.c (.idxA 5 (.t 22) (.t 23))),
   .op (some 25) (.c (.ld 5 true (.t 24))),
   .op (some 9) (.alloc 50 (.agg [.str [], .int .i64 0, .nils, .nils, .nils])),
   .op none (.st 5 (.t 9) (.t 25))] [1, 2, 8, 9, 15, 16, 17] [])
 (.seq (.rg [] [.op (some 26) (.c (.mv (.t 2))),
   .op (some 27) (.c (.ld 5 true (.t 8))),
   .op (some 28) (.c (.ld 5 true (.t 9))),
   .op (some 29) (.callv (.t 26) [(.t 27), (.t 28)]),
   .op (some 30) (.c (.not (.t 29)))] [1, 2, 15, 16, 17, 30] [])
 (.cond (.t 30) (.seq (.rg [] [.op (some 6) (.c (.mv (.bool false)))] [6] [])
 (.ret)) (.skip))))))
 (.rg [] [.op (some 31) (.c (.bin .add (.t 17) (.int .i64 1))),
   .op (some 17) (.c (.mv (.t 31)))] [1, 2, 15, 16, 17] [])))
def ir52 : S := .seq (.rg [] [.op (some 6) (.c (.mv (.bool false)))] [0, 1, 2] [])
 (.seq (.seq (.rg [] [.op (some 10) (.c (.mv (.t 0))),
   .op (some 11) (.c (.lenL (.t 10))),
   .op (some 12) (.c (.mv (.t 1))),
   .op (some 13) (.c (.lenL (.t 12))),
   .op (some 14) (.c (.bin .neq (.t 11) (.t 13)))] [0, 1, 2, 14] [])
 (.cond (.t 14) (.seq (.rg [] [.op (some 6) (.c (.mv (.bool false)))] [6] [])
 (.ret)) (.skip)))
 (.seq (.seq (.rg [] [.op (some 15) (.c (.mv (.t 0))),
   .op (some 16) (.c (.lenL (.t 15))),
   .op (some 17) (.c (.mv (.int .i64 0)))] [1, 2, 15, 16, 17] [])
 (.block 0 (.loop [1, 2, 15, 16, 17] ir52_l0)))
 (.seq (.rg [] [.op (some 6) (.c (.mv (.bool true)))] [6] [])
 (.ret))))
theorem ok52 : fnOk Tryz.prog 52 3 ir52 [.t 6] = true := by kernel_rfl
def ir53 : S := .seq (.rg [] [.op (some 2) (.box 50 (.t 0)),
   .op (some 3) (.box 50 (.t 1)),
   .op (some 4) (.c (.mv (.bool false)))] [2, 3] [])
 (.seq (.rg [] [.op (some 5) (.c (.fldA 0 0 (.t 2))),
   .op (some 6) (.c (.ld 1 false (.t 5))),
   .op (some 7) (.c (.fldA 0 0 (.t 3))),
   .op (some 8) (.c (.ld 1 false (.t 7))),
   .op (some 9) (.c (.bin .eql (.t 6) (.t 8))),
   .op (some 10) (.c (.mv (.t 9))),
   .gop 10 true (some 11) (.c (.fldA 1 1 (.t 2))),
   .gop 10 true (some 12) (.c (.ld 1 false (.t 11))),
   .gop 10 true (some 13) (.c (.fldA 1 1 (.t 3))),
   .gop 10 true (some 14) (.c (.ld 1 false (.t 13))),
   .gop 10 true (some 15) (.c (.bin .eql (.t 12) (.t 14))),
   .op (some 16) (.c (.pick (.t 10) (.t 15) (.bool false))),
   .op (some 17) (.c (.mv (.t 16))),
   .gop 17 true (some 18) (.c (.fldA 2 2 (.t 2))),
   .gop 17 true (some 19) (.c (.ld 1 false (.t 18))),
   .gop 17 true (some 20) (.c (.fldA 2 2 (.t 3))),
   .gop 17 true (some 21) (.c (.ld 1 false (.t 20))),
   .gop 17 true (some 22) (.pcall 128 [(.t 19), (.t 21)]),
   .op (some 23) (.c (.pick (.t 17) (.t 22) (.bool false))),
   .op (some 24) (.c (.mv (.t 23))),
   .gop 24 true (some 25) (.c (.fldA 3 3 (.t 2))),
   .gop 24 true (some 26) (.c (.ld 1 false (.t 25))),
   .gop 24 true (some 27) (.c (.fldA 3 3 (.t 3))),
   .gop 24 true (some 28) (.c (.ld 1 false (.t 27))),
   .gop 24 true (some 29) (.pcall 129 [(.t 26), (.t 28)]),
   .op (some 30) (.c (.pick (.t 24) (.t 29) (.bool false))),
   .op (some 31) (.c (.mv (.t 30))),
   .gop 31 true (some 32) (.c (.fldA 4 4 (.t 2))),
   .gop 31 true (some 33) (.c (.ld 1 false (.t 32))),
   .gop 31 true (some 34) (.c (.fldA 4 4 (.t 3))),
   .gop 31 true (some 35) (.c (.ld 1 false (.t 34))),
   .gop 31 true (some 36) (.pcall 130 [(.t 33), (.t 35)]),
   .op (some 37) (.c (.pick (.t 31) (.t 36) (.bool false))),
   .op (some 4) (.c (.mv (.t 37)))] [4] [])
 (.ret))
theorem ok53 : fnOk Tryz.prog 53 2 ir53 [.t 4] = true := by kernel_rfl
def ir54_l0 : S := .seq (.rg [] [.op (some 18) (.c (.bin .lss (.t 17) (.t 16)))] [1, 2, 15, 16, 17, 18] [])
 (.seq (.cond (.t 18) (.skip) (.exit 0))
 (.seq (.block 1 (.seq (.rg [] [.op (some 19) (.c (.mv (.t 17))),
   .op (some 20) (.c (.idxA 5 (.t 15) (.t 17))),
   .op (some 21) (.c (.ld 5 true (.t 20))),
   .op (some 8) (.alloc 84 (.agg [.str [], .str [], .int .i64 0, .int .i64 0, .nils])),
   .op (some 7) (.c (.mv (.t 19))),
   .op none (.st 5 (.t 8) (.t 21))] [1, 2, 7, 8, 15, 16, 17] [])
 (.seq (.rg [] [.op (some 22) (.c (.mv (.t 1))),
   .op (some 23) (.c (.mv (.t 7))),
   .op (some 24) (.c (.idxA 5 (.t 22) (.t 23))),
   .op (some 25) (.c (.ld 5 true (.t 24))),
   .op (some 9) (.alloc 84 (.agg [.str [], .str [], .int .i64 0, .int .i64 0, .nils])),
   .op none (.st 5 (.t 9) (.t 25))] [1, 2, 8, 9, 15, 16, 17] [])
 (.seq (.rg [] [.op (some 26) (.c (.mv (.t 2))),
   .op (some 27) (.c (.ld 5 true (.t 8))),
   .op (some 28) (.c (.ld 5 true (.t 9))),
   .op (some 29) (.callv (.t 26) [(.t 27), (.t 28)]),
   .op (some 30) (.c (.not (.t 29)))] [1, 2, 15, 16, 17, 30] [])
 (.cond (.t 30) (.seq (.rg [] [.op (some 6) (.c (.mv (.bool false)))] [6] [])
 (.ret)) (.skip))))))
 (.rg [] [.op (some 31) (.c (.bin .add (.t 17) (.int .i64 1))),
   .op (some 17) (.c (.mv (.t 31)))] [1, 2, 15, 16, 17] [])))
def ir54 : S := .seq (.rg [] [.op (some 6) (.c (.mv (.bool false)))] [0, 1, 2] [])
 (.seq (.seq (.rg [] [.op (some 10) (.c (.mv (.t 0))),
   .op (some 11) (.c (.lenL (.t 10))),
   .op (some 12) (.c (.mv (.t 1))),
   .op (some 13) (.c (.lenL (.t 12))),
   .op (some 14) (.c (.bin .neq (.t 11) (.t 13)))] [0, 1, 2, 14] [])
 (.cond (.t 14) (.seq (.rg [] [.op (some 6) (.c (.mv (.bool false)))] [6] [])
 (.ret)) (.skip)))
 (.seq (.seq (.rg [] [.op (some 15) (.c (.mv (.t 0))),
   .op (some 16) (.c (.lenL (.t 15))),
   .op (some 17) (.c (.mv (.int .i64 0)))] [1, 2, 15, 16, 17] [])
 (.block 0 (.loop [1, 2, 15, 16, 17] ir54_l0)))
 (.seq (.rg [] [.op (some 6) (.c (.mv (.bool true)))] [6] [])
 (.ret))))
theorem ok54 : fnOk Tryz.prog 54 3 ir54 [.t 6] = true := by kernel_rfl
def ir56_l0 : S := .seq (.rg [] [.op (some 18) (.c (.bin .lss (.t 17) (.t 16)))] [1, 2, 15, 16, 17, 18] [])
 (.seq (.cond (.t 18) (.skip) (.exit 0))
 (.seq (.block 1 (.seq (.rg [] [.op (some 19) (.c (.mv (.t 17))),
   .op (some 20) (.c (.idxA 3 (.t 15) (.t 17))),
   .op (some 21) (.c (.ld 3 true (.t 20))),
   .op (some 8) (.alloc 88 (.agg [.str [], .nils, .int .i64 0])),
   .op (some 7) (.c (.mv (.t 19))),
   .op none (.st 3 (.t 8) (.t 21))] [1, 2, 7, 8, 15, 16, 17] [])
 (.seq (.rg [] [.op (some 22) (.c (.mv (.t 1))),
   .op (some 23) (.c (.mv (.t 7))),
   .op (some 24) (.c (.idxA 3 (.t 22) (.t 23))),
   .op (some 25) (.c (.ld 3 true (.t 24))),
   .op (some 9) (.alloc 88 (.agg [.str [], .nils, .int .i64 0])),
   .op none (.st 3 (.t 9) (.t 25))] [1, 2, 8, 9, 15, 16, 17] [])
 (.seq (.rg [] [.op (some 26) (.c (.mv (.t 2))),
   .op (some 27) (.c (.ld 3 true (.t 8))),
   .op (some 28) (.c (.ld 3 true (.t 9))),
   .op (some 29) (.callv (.t 26) [(.t 27), (.t 28)]),
   .op (some 30) (.c (.not (.t 29)))] [1, 2, 15, 16, 17, 30] [])
 (.cond (.t 30) (.seq (.rg [] [.op (some 6) (.c (.mv (.bool false)))] [6] [])
 (.ret)) (.skip))))))
 (.rg [] [.op (some 31) (.c (.bin .add (.t 17) (.int .i64 1))),
   .op (some 17) (.c (.mv (.t 31)))] [1, 2, 15, 16, 17] [])))
def ir56 : S := .seq (.rg [] [.op (some 6) (.c (.mv (.bool false)))] [0, 1, 2] [])
 (.seq (.seq (.rg [] [.op (some 10) (.c (.mv (.t 0))),
   .op (some 11) (.c (.lenL (.t 10))),
   .op (some 12) (.c (.mv (.t 1))),
   .op (some 13) (.c (.lenL (.t 12))),
   .op (some 14) (.c (.bin .neq (.t 11) (.t 13)))] [0, 1, 2, 14] [])
 (.cond (.t 14) (.seq (.rg [] [.op (some 6) (.c (.mv (.bool false)))] [6] [])
 (.ret)) (.skip)))
 (.seq (.seq (.rg [] [.op (some 15) (.c (.mv (.t 0))),
   .op (some 16) (.c (.lenL (.t 15))),
   .op (some 17) (.c (.mv (.int .i64 0)))] [1, 2, 15, 16, 17] [])
 (.block 0 (.loop [1, 2, 15, 16, 17] ir56_l0)))
 (.seq (.rg [] [.op (some 6) (.c (.mv (.bool true)))] [6] [])
 (.ret))))
theorem ok56 : fnOk Tryz.prog 56 3 ir56 [.t 6] = true := by kernel_rfl
def ir99_l0 : S := .seq (.rg [] [.op (some 16) (.c (.bin .lss (.t 15) (.t 14)))] [2, 13, 14, 15, 16] [])
 (.seq (.cond (.t 16) (.skip) (.exit 0))
 (.seq (.block 1 (.seq (.rg [] [.op (some 17) (.c (.idxA 1 (.t 13) (.t 15))),
   .op (some 18) (.c (.ld 1 false (.t 17))),
   .op (some 8) (.c (.mv (.t 18)))] [2, 8, 13, 14, 15] [])
 (.seq (.rg [] [.op (some 19) (.c (.mv (.t 2))),
   .op (some 20) (.c (.mv (.t 8))),
   .op (some 21) (.callv (.t 19) [(.t 20)]),
   .op (some 22) (.c (.not (.t 21)))] [2, 13, 14, 15, 22] [])
 (.cond (.t 22) (.seq (.rg [] [.op (some 6) (.c (.mv (.bool false)))] [6] [])
 (.ret)) (.skip)))))
 (.rg [] [.op (some 23) (.c (.bin .add (.t 15) (.int .i64 1))),
   .op (some 15) (.c (.mv (.t 23)))] [2, 13, 14, 15] [])))
def ir99 : S := .seq (.rg [] [.op (some 6) (.c (.mv (.bool false)))] [0, 1, 2] [])
 (.seq (.seq (.rg [] [.op (some 9) (.c (.mv (.t 0))),
   .op (some 10) (.c (.lenL (.t 9))),
   .op (some 11) (.c (.mv (.t 1))),
   .op (some 12) (.c (.bin .gtr (.t 10) (.t 11)))] [0, 2, 12] [])
 (.cond (.t 12) (.seq (.rg [] [.op (some 6) (.c (.mv (.bool false)))] [6] [])
 (.ret)) (.skip)))
 (.seq (.seq (.rg [] [.op (some 13) (.c (.mv (.t 0))),
   .op (some 14) (.c (.lenL (.t 13))),
   .op (some 15) (.c (.mv (.int .i64 0)))] [2, 13, 14, 15] [])
 (.block 0 (.loop [2, 13, 14, 15] ir99_l0)))
 (.seq (.rg [] [.op (some 6) (.c (.mv (.bool true)))] [6] [])
 (.ret))))
theorem ok99 : fnOk Tryz.prog 99 3 ir99 [.t 6] = true := by kernel_rfl
def ir101_l0 : S := .seq (.rg [] [.op (some 16) (.c (.bin .lss (.t 15) (.t 14)))] [2, 13, 14, 15, 16] [])
 (.seq (.cond (.t 16) (.skip) (.exit 0))
 (.seq (.block 1 (.seq (.rg [] [.op (some 17) (.c (.idxA 5 (.t 13) (.t 15))),
   .op (some 18) (.c (.ld 5 true (.t 17))),
   .op (some 8) (.alloc 74 (.agg [.str [], .str [], .int .i64 0, .int .i64 0, .int .i64 0])),
   .op none (.st 5 (.t 8) (.t 18))] [2, 8, 13, 14, 15] [])
 (.seq (.rg [] [.op (some 19) (.c (.mv (.t 2))),
   .op (some 20) (.c (.ld 5 true (.t 8))),
   .op (some 21) (.callv (.t 19) [(.t 20)]),
   .op (some 22) (.c (.not (.t 21)))] [2, 13, 14, 15, 22] [])
 (.cond (.t 22) (.seq (.rg [] [.op (some 6) (.c (.mv (.bool false)))] [6] [])
 (.ret)) (.skip)))))
 (.rg [] [.op (some 23) (.c (.bin .add (.t 15) (.int .i64 1))),
   .op (some 15) (.c (.mv (.t 23)))] [2, 13, 14, 15] [])))
def ir101 : S := .seq (.rg [] [.op (some 6) (.c (.mv (.bool false)))] [0, 1, 2] [])
 (.seq (.seq (.rg [] [.op (some 9) (.c (.mv (.t 0))),
   .op (some 10) (.c (.lenL (.t 9))),
   .op (some 11) (.c (.mv (.t 1))),
   .op (some 12) (.c (.bin .gtr (.t 10) (.t 11)))] [0, 2, 12] [])
 (.cond (.t 12) (.seq (.rg [] [.op (some 6) (.c (.mv (.bool false)))] [6] [])
 (.ret)) (.skip)))
 (.seq (.seq (.rg [] [.op (some 13) (.c (.mv (.t 0))),
   .op (some 14) (.c (.lenL (.t 13))),
   .op (some 15) (.c (.mv (.int .i64 0)))] [2, 13, 14, 15] [])
 (.block 0 (.loop [2, 13, 14, 15] ir101_l0)))
 (.seq (.rg [] [.op (some 6) (.c (.mv (.bool true)))] [6] [])
 (.ret))))
theorem ok101 : fnOk Tryz.prog 101 3 ir101 [.t 6] = true := by kernel_rfl
def ir103_l0 : S := .seq (.rg [] [.op (some 16) (.c (.bin .lss (.t 15) (.t 14)))] [2, 13, 14, 15, 16] [])
 (.seq (.cond (.t 16) (.skip) (.exit 0))
 (.seq (.block 1 (.seq (.rg [] [.op (some 17) (.c (.idxA 6 (.t 13) (.t 15))),
   .op (some 18) (.c (.ld 6 true (.t 17))),
   .op (some 8) (.alloc 79 (.agg [.str [], .str [], .int .i64 0, .int .i64 0, .nils, .nils])),
   .op none (.st 6 (.t 8) (.t 18))] [2, 8, 13, 14, 15] [])
 (.seq (.rg [] [.op (some 19) (.c (.mv (.t 2))),
   .op (some 20) (.c (.ld 6 true (.t 8))),
   .op (some 21) (.callv (.t 19) [(.t 20)]),
   .op (some 22) (.c (.not (.t 21)))] [2, 13, 14, 15, 22] [])
 (.cond (.t 22) (.seq (.rg [] [.op (some 6) (.c (.mv (.bool false)))] [6] [])
 (.ret)) (.skip)))))
 (.rg [] [.op (some 23) (.c (.bin .add (.t 15) (.int .i64 1))),
   .op (some 15) (.c (.mv (.t 23)))] [2, 13, 14, 15] [])))
def ir103 : S := .seq (.rg [] [.op (some 6) (.c (.mv (.bool false)))] [0, 1, 2] [])
 (.seq (.seq (.rg [] [.op (some 9) (.c (.mv (.t 0))),
   .op (some 10) (.c (.lenL (.t 9))),
   .op (some 11) (.c (.mv (.t 1))),
   .op (some 12) (.c (.bin .gtr (.t 10) (.t 11)))] [0, 2, 12] [])
 (.cond (.t 12) (.seq (.rg [] [.op (some 6) (.c (.mv (.bool false)))] [6] [])
 (.ret)) (.skip)))
 (.seq (.seq (.rg [] [.op (some 13) (.c (.mv (.t 0))),
   .op (some 14) (.c (.lenL (.t 13))),
   .op (some 15) (.c (.mv (.int .i64 0)))] [2, 13, 14, 15] [])
 (.block 0 (.loop [2, 13, 14, 15] ir103_l0)))
 (.seq (.rg [] [.op (some 6) (.c (.mv (.bool true)))] [6] [])
 (.ret))))
theorem ok103 : fnOk Tryz.prog 103 3 ir103 [.t 6] = true := by kernel_rfl
def ir105_l0 : S := .seq (.rg [] [.op (some 16) (.c (.bin .lss (.t 15) (.t 14)))] [2, 13, 14, 15, 16] [])
 (.seq (.cond (.t 16) (.skip) (.exit 0))
 (.seq (.block 1 (.seq (.rg [] [.op (some 17) (.c (.idxA 5 (.t 13) (.t 15))),
   .op (some 18) (.c (.ld 5 true (.t 17))),
   .op (some 8) (.alloc 50 (.agg [.str [], .int .i64 0, .nils, .nils, .nils])),
   .op none (.st 5 (.t 8) (.t 18))] [2, 8, 13, 14, 15] [])
 (.seq (.rg [] [.op (some 19) (.c (.mv (.t 2))),
   .op (some 20) (.c (.ld 5 true (.t 8))),
   .op (some 21) (.callv (.t 19) [(.t 20)]),
   .op (some 22) (.c (.not (.t 21)))] [2, 13, 14, 15, 22] [])
 (.cond (.t 22) (.seq (.rg [] [.op (some 6) (.c (.mv (.bool false)))] [6] [])
 (.ret)) (.skip)))))
 (.rg [] [.op (some 23) (.c (.bin .add (.t 15) (.int .i64 1))),
   .op (some 15) (.c (.mv (.t 23)))] [2, 13, 14, 15] [])))
def ir105 : S := .seq (.rg [] [.op (some 6) (.c (.mv (.bool false)))] [0, 1, 2] [])
 (.seq (.seq (.rg [] [.op (some 9) (.c (.mv (.t 0))),
   .op (some 10) (.c (.lenL (.t 9))),
   .op (some 11) (.c (.mv (.t 1))),
   .op (some 12) (.c (.bin .gtr (.t 10) (.t 11)))] [0, 2, 12] [])
 (.cond (.t 12) (.seq (.rg [] [.op (some 6) (.c (.mv (.bool false)))] [6] [])
 (.ret)) (.skip)))
 (.seq (.seq (.rg [] [.op (some 13) (.c (.mv (.t 0))),
   .op (some 14) (.c (.lenL (.t 13))),
   .op (some 15) (.c (.mv (.int .i64 0)))] [2, 13, 14, 15] [])
 (.block 0 (.loop [2, 13, 14, 15] ir105_l0)))
 (.seq (.rg [] [.op (some 6) (.c (.mv (.bool true)))] [6] [])
 (.ret))))
theorem ok105 : fnOk Tryz.prog 105 3 ir105 [.t 6] = true := by kernel_rfl
def ir106 : S := .seq (.rg [] [.op (some 1) (.box 50 (.t 0)),
   .op (some 2) (.c (.mv (.bool false)))] [1] [])
 (.seq (.rg [] [.op (some 3) (.c (.fldA 0 0 (.t 1))),
   .op (some 4) (.c (.ld 1 false (.t 3))),
   .op (some 5) (.pcall 100 [(.t 4)]),
   .op (some 6) (.c (.mv (.t 5))),
   .gop 6 true (some 7) (.c (.fldA 2 2 (.t 1))),
   .gop 6 true (some 8) (.c (.ld 1 false (.t 7))),
   .gop 6 true (some 9) (.c (.lenL (.t 8))),
   .gop 6 true (some 10) (.c (.bin .gtr (.t 9) (.int .i64 0))),
   .op (some 11) (.c (.pick (.t 6) (.t 10) (.bool false))),
   .op (some 12) (.c (.mv (.t 11))),
   .gop 12 true (some 13) (.c (.fldA 2 2 (.t 1))),
   .gop 12 true (some 14) (.c (.ld 1 false (.t 13))),
   .gop 12 true (some 15) (.call 158 [(.t 14), (.int .i64 3), (.fn 159)]),
   .op (some 16) (.c (.pick (.t 12) (.t 15) (.bool false))),
   .op (some 17) (.c (.mv (.t 16))),
   .gop 17 true (some 18) (.c (.fldA 3 3 (.t 1))),
   .gop 17 true (some 19) (.c (.ld 1 false (.t 18))),
   .gop 17 true (some 20) (.call 161 [(.t 19), (.int .i64 8), (.fn 162)]),
   .op (some 21) (.c (.pick (.t 17) (.t 20) (.bool false))),
   .op (some 22) (.c (.mv (.t 21))),
   .gop 22 true (some 23) (.c (.fldA 4 4 (.t 1))),
   .gop 22 true (some 24) (.c (.ld 1 false (.t 23))),
   .gop 22 true (some 25) (.call 164 [(.t 24), (.int .i64 11), (.fn 165)]),
   .op (some 26) (.c (.pick (.t 22) (.t 25) (.bool false))),
   .op (some 2) (.c (.mv (.t 26)))] [2] [])
 (.ret))
theorem ok106 : fnOk Tryz.prog 106 1 ir106 [.t 2] = true := by kernel_rfl
def ir107_l0 : S := .seq (.rg [] [.op (some 16) (.c (.bin .lss (.t 15) (.t 14)))] [2, 13, 14, 15, 16] [])
 (.seq (.cond (.t 16) (.skip) (.exit 0))
 (.seq (.block 1 (.seq (.rg [] [.op (some 17) (.c (.idxA 5 (.t 13) (.t 15))),
   .op (some 18) (.c (.ld 5 true (.t 17))),
   .op (some 8) (.alloc 84 (.agg [.str [], .str [], .int .i64 0, .int .i64 0, .nils])),
   .op none (.st 5 (.t 8) (.t 18))] [2, 8, 13, 14, 15] [])
 (.seq (.rg [] [.op (some 19) (.c (.mv (.t 2))),
   .op (some 20) (.c (.ld 5 true (.t 8))),
   .op (some 21) (.callv (.t 19) [(.t 20)]),
   .op (some 22) (.c (.not (.t 21)))] [2, 13, 14, 15, 22] [])
 (.cond (.t 22) (.seq (.rg [] [.op (some 6) (.c (.mv (.bool false)))] [6] [])
 (.ret)) (.skip)))))
 (.rg [] [.op (some 23) (.c (.bin .add (.t 15) (.int .i64 1))),
   .op (some 15) (.c (.mv (.t 23)))] [2, 13, 14, 15] [])))
def ir107 : S := .seq (.rg [] [.op (some 6) (.c (.mv (.bool false)))] [0, 1, 2] [])
 (.seq (.seq (.rg [] [.op (some 9) (.c (.mv (.t 0))),
   .op (some 10) (.c (.lenL (.t 9))),
   .op (some 11) (.c (.mv (.t 1))),
   .op (some 12) (.c (.bin .gtr (.t 10) (.t 11)))] [0, 2, 12] [])
 (.cond (.t 12) (.seq (.rg [] [.op (some 6) (.c (.mv (.bool false)))] [6] [])
 (.ret)) (.skip)))
 (.seq (.seq (.rg [] [.op (some 13) (.c (.mv (.t 0))),
   .op (some 14) (.c (.lenL (.t 13))),
   .op (some 15) (.c (.mv (.int .i64 0)))] [2, 13, 14, 15] [])
 (.block 0 (.loop [2, 13, 14, 15] ir107_l0)))
 (.seq (.rg [] [.op (some 6) (.c (.mv (.bool true)))] [6] [])
 (.ret))))
theorem ok107 : fnOk Tryz.prog 107 3 ir107 [.t 6] = true := by kernel_rfl
def ir109_l0 : S := .seq (.rg [] [.op (some 16) (.c (.bin .lss (.t 15) (.t 14)))] [2, 13, 14, 15, 16] [])
 (.seq (.cond (.t 16) (.skip) (.exit 0))
 (.seq (.block 1 (.seq (.rg [] [.op (some 17) (.c (.idxA 3 (.t 13) (.t 15))),
   .op (some 18) (.c (.ld 3 true (.t 17))),
   .op (some 8) (.alloc 88 (.agg [.str [], .nils, .int .i64 0])),
   .op none (.st 3 (.t 8) (.t 18))] [2, 8, 13, 14, 15] [])
 (.seq (.rg [] [.op (some 19) (.c (.mv (.t 2))),
   .op (some 20) (.c (.ld 3 true (.t 8))),
   .op (some 21) (.callv (.t 19) [(.t 20)]),
   .op (some 22) (.c (.not (.t 21)))] [2, 13, 14, 15, 22] [])
 (.cond (.t 22) (.seq (.rg [] [.op (some 6) (.c (.mv (.bool false)))] [6] [])
 (.ret)) (.skip)))))
 (.rg [] [.op (some 23) (.c (.bin .add (.t 15) (.int .i64 1))),
   .op (some 15) (.c (.mv (.t 23)))] [2, 13, 14, 15] [])))
def ir109 : S := .seq (.rg [] [.op (some 6) (.c (.mv (.bool false)))] [0, 1, 2] [])
 (.seq (.seq (.rg [] [.op (some 9) (.c (.mv (.t 0))),
   .op (some 10) (.c (.lenL (.t 9))),
   .op (some 11) (.c (.mv (.t 1))),
   .op (some 12) (.c (.bin .gtr (.t 10) (.t 11)))] [0, 2, 12] [])
 (.cond (.t 12) (.seq (.rg [] [.op (some 6) (.c (.mv (.bool false)))] [6] [])
 (.ret)) (.skip)))
 (.seq (.seq (.rg [] [.op (some 13) (.c (.mv (.t 0))),
   .op (some 14) (.c (.lenL (.t 13))),
   .op (some 15) (.c (.mv (.int .i64 0)))] [2, 13, 14, 15] [])
 (.block 0 (.loop [2, 13, 14, 15] ir109_l0)))
 (.seq (.rg [] [.op (some 6) (.c (.mv (.bool true)))] [6] [])
 (.ret))))
theorem ok109 : fnOk Tryz.prog 109 3 ir109 [.t 6] = true := by kernel_rfl
def ir128_l0 : S := .seq (.rg [] [.op (some 14) (.c (.bin .lss (.t 13) (.t 12)))] [0, 1, 12, 13, 14] [])
 (.seq (.cond (.t 14) (.skip) (.exit 0))
 (.seq (.block 1 (.seq (.rg [] [.op (some 15) (.c (.mv (.t 13))),
   .op (some 5) (.c (.mv (.t 15)))] [0, 1, 5, 12, 13] [])
 (.seq (.rg [0, 1, 2, 4, 5, 6, 3, 7, 8] [.op (some 16) (.c (.mv (.t 0))),
   .op (some 17) (.c (.mv (.t 5))),
   .op (some 18) (.c (.idxA 8 (.t 16) (.t 17))),
   .op (some 20) (.c (.mv (.t 1))),
   .op (some 21) (.c (.mv (.t 5))),
   .op (some 22) (.c (.idxA 8 (.t 20) (.t 21))),
   .op (some 19) (.c (.ld 8 true (.t 18))),
   .op (some 23) (.c (.ld 8 true (.t 22))),
   .op (some 24) (.c (.eqD (.st [.str, .str, .int .i64, .st [.str, .str, .int .i64, .int .i64, .int .i64]]) false (.t 19) (.t 23)))] [0, 1, 12, 13, 24] [])
 (.cond (.t 24) (.seq (.rg [] [.op (some 4) (.c (.mv (.bool false)))] [4] [])
 (.ret)) (.skip)))))
 (.rg [] [.op (some 25) (.c (.bin .add (.t 13) (.int .i64 1))),
   .op (some 13) (.c (.mv (.t 25)))] [0, 1, 12, 13] [])))
def ir128 : S := .seq (.rg [] [.op (some 4) (.c (.mv (.bool false)))] [0, 1] [])
 (.seq (.seq (.rg [] [.op (some 6) (.c (.mv (.t 0))),
   .op (some 7) (.c (.lenL (.t 6))),
   .op (some 8) (.c (.mv (.t 1))),
   .op (some 9) (.c (.lenL (.t 8))),
   .op (some 10) (.c (.bin .neq (.t 7) (.t 9)))] [0, 1, 10] [])
 (.cond (.t 10) (.seq (.rg [] [.op (some 4) (.c (.mv (.bool false)))] [4] [])
 (.ret)) (.skip)))
 (.seq (.seq (.rg [] [.op (some 11) (.c (.mv (.t 0))),
   .op (some 12) (.c (.lenL (.t 11))),
   .op (some 13) (.c (.mv (.int .i64 0)))] [0, 1, 12, 13] [])
 (.block 0 (.loop [0, 1, 12, 13] ir128_l0)))
 (.seq (.rg [] [.op (some 4) (.c (.mv (.bool true)))] [4] [])
 (.ret))))
theorem ok128 : fnOk Tryz.prog 128 2 ir128 [.t 4] = true := by kernel_rfl
def ir129_l0 : S := .seq (.rg [] [.op (some 14) (.c (.bin .lss (.t 13) (.t 12)))] [0, 1, 12, 13, 14] [])
 (.seq (.cond (.t 14) (.skip) (.exit 0))
 (.seq (.block 1 (.seq (.rg [] [.op (some 15) (.c (.mv (.t 13))),
   .op (some 5) (.c (.mv (.t 15)))] [0, 1, 5, 12, 13] [])
 (.seq (.rg [0, 1, 2, 4, 5, 6, 3, 7, 8] [.op (some 16) (.c (.mv (.t 0))),
   .op (some 17) (.c (.mv (.t 5))),
   .op (some 18) (.c (.idxA 11 (.t 16) (.t 17))),
   .op (some 20) (.c (.mv (.t 1))),
   .op (some 21) (.c (.mv (.t 5))),
   .op (some 22) (.c (.idxA 11 (.t 20) (.t 21))),
   .op (some 19) (.c (.ld 11 true (.t 18))),
   .op (some 23) (.c (.ld 11 true (.t 22))),
   .op (some 24) (.c (.eqD (.st [.int .i64, .st [.str, .str, .int .i64, .int .i64, .int .i64], .st [.str, .str, .int .i64, .int .i64, .int .i64]]) false (.t 19) (.t 23)))] [0, 1, 12, 13, 24] [])
 (.cond (.t 24) (.seq (.rg [] [.op (some 4) (.c (.mv (.bool false)))] [4] [])
 (.ret)) (.skip)))))
 (.rg [] [.op (some 25) (.c (.bin .add (.t 13) (.int .i64 1))),
   .op (some 13) (.c (.mv (.t 25)))] [0, 1, 12, 13] [])))
def ir129 : S := .seq (.rg [] [.op (some 4) (.c (.mv (.bool false)))] [0, 1] [])
 (.seq (.seq (.rg [] [.op (some 6) (.c (.mv (.t 0))),
   .op (some 7) (.c (.lenL (.t 6))),
   .op (some 8) (.c (.mv (.t 1))),
   .op (some 9) (.c (.lenL (.t 8))),
   .op (some 10) (.c (.bin .neq (.t 7) (.t 9)))] [0, 1, 10] [])
 (.cond (.t 10) (.seq (.rg [] [.op (some 4) (.c (.mv (.bool false)))] [4] [])
 (.ret)) (.skip)))
 (.seq (.seq (.rg [] [.op (some 11) (.c (.mv (.t 0))),
   .op (some 12) (.c (.lenL (.t 11))),
   .op (some 13) (.c (.mv (.int .i64 0)))] [0, 1, 12, 13] [])
 (.block 0 (.loop [0, 1, 12, 13] ir129_l0)))
 (.seq (.rg [] [.op (some 4) (.c (.mv (.bool true)))] [4] [])
 (.ret))))
theorem ok129 : fnOk Tryz.prog 129 2 ir129 [.t 4] = true := by kernel_rfl
def ir130_l0 : S := .seq (.rg [] [.op (some 14) (.c (.bin .lss (.t 13) (.t 12)))] [0, 1, 12, 13, 14] [])
 (.seq (.cond (.t 14) (.skip) (.exit 0))
 (.seq (.block 1 (.seq (.rg [] [.op (some 15) (.c (.mv (.t 13))),
   .op (some 5) (.c (.mv (.t 15)))] [0, 1, 5, 12, 13] [])
 (.seq (.rg [0, 1, 2, 4, 5, 6, 3, 7, 8] [.op (some 16) (.c (.mv (.t 0))),
   .op (some 17) (.c (.mv (.t 5))),
   .op (some 18) (.c (.idxA 7 (.t 16) (.t 17))),
   .op (some 20) (.c (.mv (.t 1))),
   .op (some 21) (.c (.mv (.t 5))),
   .op (some 22) (.c (.idxA 7 (.t 20) (.t 21))),
   .op (some 19) (.c (.ld 7 true (.t 18))),
   .op (some 23) (.c (.ld 7 true (.t 22))),
   .op (some 24) (.c (.eqD (.st [.str, .int .i64, .st [.str, .str, .int .i64, .int .i64, .int .i64]]) false (.t 19) (.t 23)))] [0, 1, 12, 13, 24] [])
 (.cond (.t 24) (.seq (.rg [] [.op (some 4) (.c (.mv (.bool false)))] [4] [])
 (.ret)) (.skip)))))
 (.rg [] [.op (some 25) (.c (.bin .add (.t 13) (.int .i64 1))),
   .op (some 13) (.c (.mv (.t 25)))] [0, 1, 12, 13] [])))
def ir130 : S := .seq (.rg [] [.op (some 4) (.c (.mv (.bool false)))] [0, 1] [])
 (.seq (.seq (.rg [] [.op (some 6) (.c (.mv (.t 0))),
   .op (some 7) (.c (.lenL (.t 6))),
   .op (some 8) (.c (.mv (.t 1))),
   .op (some 9) (.c (.lenL (.t 8))),
   .op (some 10) (.c (.bin .neq (.t 7) (.t 9)))] [0, 1, 10] [])
 (.cond (.t 10) (.seq (.rg [] [.op (some 4) (.c (.mv (.bool false)))] [4] [])
 (.ret)) (.skip)))
 (.seq (.seq (.rg [] [.op (some 11) (.c (.mv (.t 0))),
   .op (some 12) (.c (.lenL (.t 11))),
   .op (some 13) (.c (.mv (.int .i64 0)))] [0, 1, 12, 13] [])
 (.block 0 (.loop [0, 1, 12, 13] ir130_l0)))
 (.seq (.rg [] [.op (some 4) (.c (.mv (.bool true)))] [4] [])
 (.ret))))
theorem ok130 : fnOk Tryz.prog 130 2 ir130 [.t 4] = true := by kernel_rfl
end Go.Proofs.YtanpgmgkmfckaaaGreatDoor
/- An evaluator of operations on abstract values, and that what it yields holds. Over any program; no condition. -/
namespace Go.Ab
open Go

mutual
def Sh.beq : Sh → Sh → Bool
  | .leaf, .leaf => true
  | .node xs, .node ys => Sh.beqs xs ys
  | _, _ => false
def Sh.beqs : List Sh → List Sh → Bool
  | [], [] => true
  | x :: r, y :: s => Sh.beq x y && Sh.beqs r s
  | _, _ => false
end
mutual
theorem Sh.beq_eq : ∀ (a b : Sh), Sh.beq a b = true → a = b
  | .leaf, .leaf, _ => rfl
  | .node xs, .node ys, h => by simp only [Sh.beq] at h; rw [Sh.beqs_eq xs ys h]
  | .leaf, .node _, h => by simp [Sh.beq] at h
  | .node _, .leaf, h => by simp [Sh.beq] at h
theorem Sh.beqs_eq : ∀ (a b : List Sh), Sh.beqs a b = true → a = b
  | [], [], _ => rfl
  | x :: r, y :: s, h => by
    simp only [Sh.beqs, Bool.and_eq_true] at h
    rw [Sh.beq_eq x y h.1, Sh.beqs_eq r s h.2]
  | [], _ :: _, h => by simp [Sh.beqs] at h
  | _ :: _, [], h => by simp [Sh.beqs] at h
end
def V.isAny : V → Bool
  | .any => true
  | _ => false
def nz (v : V) : Option V := bif v.isAny then none else some v
def gdR (b : Bool) (v : V) : Option V := bif b then some v else none
def pickR : V → V → V → Option V
  | .d (.bool t), .d (.bool x), .d (.bool y) => some (.d (.bool (bif t then x else y)))
  | .d (.bool t), x, y => some (bif t then x else y)
  | _, _, _ => none
def intR (op : BinOp) (k k' : IntKind) (a b : Int) : Option V :=
  match op with
  | .shl => gdR (decide (0 ≤ b)) (intV op k a b)
  | .shr => gdR (decide (0 ≤ b)) (intV op k a b)
  | .quo => gdR (decide (k = k') && decide (b ≠ 0)) (intV op k a b)
  | .rem => gdR (decide (k = k') && decide (b ≠ 0)) (intV op k a b)
  | _ => gdR (decide (k = k')) (intV op k a b)
def strR (op : BinOp) (x y : List UInt8) : Option V :=
  match op with
  | .add => gdR (decide (x.length + y.length ≤ 9223372036854775807)) (strV op x y)
  | .eql | .neq | .lss | .leq | .gtr | .geq => some (strV op x y)
  | _ => none
def binR (op : BinOp) : V → V → Option V
  | .d (.int k a), .d (.int k' b) => intR op k k' a b
  | .d (.str x), .d (.str y) => strR op x y
  | _, _ => none
def peqR (ob : Objs) (e : Bool) : V → V → Option V
  | .ptr i p, .ptr j q => gdR (decide (i = j) && decide (p = q) && (atO ob i p).isSome) (.d (.bool e))
  | _, _ => none
def usdRo (id n : Nat) : Option Ob → Option V
  | some (.arr _ sz xs) => gdR (decide (sz ≠ 0) && decide (n = xs.length) && !xs.isEmpty) (.sd id n)
  | _ => none
def usdR (ob : Objs) : V → Option V
  | .sl id n => usdRo id n (lookO ob id)
  | .d .nils => some (.d .nilp)
  | _ => none
def idxR : V → V → Option V
  | .d (.str s), .d (.int _ n) => gdR (decide (0 ≤ n) && decide (n < s.length)) (.d (.int .u8 (s.getD n.toNat 0).toNat))
  | _, _ => none
def idxAR (z : Nat) : V → V → Option V
  | .d (.list sz xs), .d (.int _ n) => gdR (decide (z = sz) && decide (0 ≤ n) && decide (n < xs.length)) (.d (.ref (xs.getD n.toNat default)))
  | _, _ => none
def idxPRo (len z : Nat) (v : V) : Option (List V) → Option V
  | some ks => gdR (decide (ks.length = len) && ks.all (fun k => decide (k.size = z))) v
  | none => none
def idxPR (ob : Objs) (len z : Nat) : V → V → Option V
  | .ptr id p, .d (.int _ n) => bif decide (0 ≤ n) && decide (n < len) then idxPRo len z (.ptr id (p ++ [n.toNat])) (kidsO (atO ob id p)) else none
  | .d (.ref (.agg xs)), .d (.int _ n) => gdR (decide (0 ≤ n) && decide (n < len) && decide (xs.length = len) && xs.all (fun x => decide (x.sz = z))) (.d (.ref (xs.getD n.toNat default)))
  | _, _ => none
def fldARo (id : Nat) (p : List Nat) (f fo : Nat) : Option (List V) → Option V
  | some ks => gdR (decide (f < ks.length) && decide (Sh.sizes ((ks.take f).map V.shape) = fo)) (.ptr id (p ++ [f]))
  | none => none
def fldAR (ob : Objs) (f fo : Nat) : V → Option V
  | .ptr id p => fldARo id p f fo (kidsO (atO ob id p))
  | .d (.ref (.agg xs)) => gdR (decide (f < xs.length) && decide (D.szs (xs.take f) = fo)) (.d (.ref (xs.getD f default)))
  | _ => none
def fldR (f fo n : Nat) (ag : Bool) : Option (List V) → Option V
  | some ks => gdR (decide (f < ks.length) && decide (Sh.sizes ((ks.take f).map V.shape) = fo) && decide ((ks.getD f .any).size = n) && ((ks.getD f .any).isAgg == ag)) (ks.getD f .any)
  | none => none
def ldRo (n : Nat) (ag : Bool) : Option V → Option V
  | some v => gdR (decide (v.size = n) && (v.isAgg == ag)) v
  | none => none
def ldR (ob : Objs) (n : Nat) (ag : Bool) : V → Option V
  | .ptr id p => ldRo n ag (atO ob id p)
  | .d (.ref x) => gdR (decide (x.sz = n) && ((V.d x).isAgg == ag)) (.d x)
  | _ => none
def nilcR : V → Option V
  | .ptr id p => some (.ptr id p)
  | .d (.ref x) => some (.d (.ref x))
  | .fn f a b => some (.fn f a b)
  | .d (.fn f a b) => some (.d (.fn f a b))
  | _ => none
def lenLRo (n : Nat) : Option Ob → Option V
  | some (.arr _ _ xs) => gdR (decide (n = xs.length)) (.d (.int .i64 n))
  | _ => none
def lenLR (ob : Objs) : V → Option V
  | .d (.list _ xs) => some (.d (.int .i64 xs.length))
  | .d .nils => some (.d (.int .i64 0))
  | .sl id n => lenLRo n (lookO ob id)
  | _ => none
def bndR (len : Nat) : Option V → Option V → Option (Nat × Nat)
  | none, none => some (0, len)
  | some (.d (.int _ l)), none => bif decide (0 ≤ l) && decide (l ≤ len) then some (l.toNat, len) else none
  | none, some (.d (.int _ h)) => bif decide (0 ≤ h) && decide (h ≤ len) then some (0, h.toNat) else none
  | some (.d (.int _ l)), some (.d (.int _ h)) => bif decide (0 ≤ h) && decide (h ≤ len) && decide (0 ≤ l) && decide (l ≤ h) then some (l.toNat, h.toNat) else none
  | _, _ => none
def slcSR (lo hi : Option V) : V → Option V
  | .d (.str s) => (bndR s.length lo hi).map fun p => .d (.str ((s.take p.2).drop p.1))
  | _ => none
def slcLR (z : Nat) (lo hi : Option V) : V → Option V
  | .d (.list sz xs) => bif decide (z = sz) then (bndR xs.length lo hi).map fun p => .d (.list sz ((xs.take p.2).drop p.1)) else none
  | _ => none
def extR (i : Nat) : V → Option V
  | .tup xs => gdR (decide (i < xs.length)) (xs.getD i .any)
  | _ => none
def bldR : List V → List (Nat × V) → Option (List V)
  | ks, [] => some ks
  | ks, (i, v) :: r => bif decide (i < ks.length) && Sh.beq v.shape (ks.getD i .any).shape && !v.isAny then bldR (ks.set i v) r else none
def tasR (t : Nat) (z : D) : V → Option V
  | .iface t' v => some (bif decide (t' = t) then .tup [v, .d (.bool true)] else .tup [.d z, .d (.bool false)])
  | .d (.iface t' x) => some (bif decide (t' = t) then .tup [.d x, .d (.bool true)] else .tup [.d z, .d (.bool false)])
  | .d .nili => some (.tup [.d z, .d (.bool false)])
  | _ => none

def eqDR (ty : KT) (e : Bool) : V → V → Option V
  | .d x, .d y => gdR (ty.fits x && ty.fits y) (.d (.bool (D.eqb x y == e)))
  | _, _ => none
def idxVR (len z : Nat) (ag : Bool) : V → V → Option V
  | .d (.agg xs), .d (.int _ n) => gdR (decide (0 ≤ n) && decide (n < len) && decide (xs.length = len) && xs.all (fun x => decide (x.sz = z) && (x.isAgg == ag))) (.d (xs.getD n.toNat default))
  | _, _ => none

def C.run (sl : Slots) (ob : Objs) : C → Option V
  | .mv x => some (x.ev sl)
  | .pick c a b => pickR (c.ev sl) (a.ev sl) (b.ev sl)
  | .not x => nz (notV (x.ev sl))
  | .neg x => nz (negV (x.ev sl))
  | .bin op x y => binR op (x.ev sl) (y.ev sl)
  | .beq e x y => nz (beqV e (x.ev sl) (y.ev sl))
  | .isnil e x => nz (isnilV e (x.ev sl))
  | .pnil e x => nz (pnilV e (x.ev sl))
  | .fnil e x => nz (fnilV e (x.ev sl))
  | .peq e x y => peqR ob e (x.ev sl) (y.ev sl)
  | .usd x => usdR ob (x.ev sl)
  | .cvi k x => nz (cviV k (x.ev sl))
  | .cvs x => nz (cvsV (x.ev sl))
  | .idx x i => idxR (x.ev sl) (i.ev sl)
  | .idxA z x i => idxAR z (x.ev sl) (i.ev sl)
  | .idxP n z x i => idxPR ob n z (x.ev sl) (i.ev sl)
  | .fldA f fo x => fldAR ob f fo (x.ev sl)
  | .fld f fo n ag x => fldR f fo n ag (x.ev sl).kids
  | .ld n ag x => ldR ob n ag (x.ev sl)
  | .nilc x => nilcR (x.ev sl)
  | .lenS x => nz (lenSV (x.ev sl))
  | .lenL x => lenLR ob (x.ev sl)
  | .lenA n => some (.d (.int .i64 n))
  | .slcS x lo hi => slcSR (lo.map (A.ev sl)) (hi.map (A.ev sl)) (x.ev sl)
  | .slcL z x lo hi => slcLR z (lo.map (A.ev sl)) (hi.map (A.ev sl)) (x.ev sl)
  | .ext x i => extR i (x.ev sl)
  | .bld z parts => (bldR (z.map .d) (parts.map fun (i, x) => (i, x.ev sl))).map V.mk
  | .mkf f first cap => some (mkfV f (first.map (A.ev sl)) (cap.map (A.ev sl)))
  | .mki t x => some (mkiV t (x.ev sl))
  | .tas t z x => tasR t z (x.ev sl)
  | .eqD ty e x y => eqDR ty e (x.ev sl) (y.ev sl)
  | .aix n z ag x i => idxVR n z ag (x.ev sl) (i.ev sl)

theorem gdR_some {b : Bool} {v u : V} (h : gdR b v = some u) : b = true ∧ v = u := by
  cases b <;> simp [gdR] at h ⊢; exact h
theorem nz_some {v u : V} (h : nz v = some u) : v = u ∧ v ≠ .any := by
  cases v <;> simp [nz, V.isAny] at h <;> exact ⟨h, by simp⟩
theorem bndR_sound {len : Nat} {lo hi : Option V} {p : Nat × Nat} {K : Nat → Nat → Prop} (h : bndR len lo hi = some p) (hK : K p.1 p.2) : bndK len K lo hi := by
  unfold bndR at h
  split at h <;> simp only [bndK]
  · cases h; exact hK
  · rw [Bool.cond_eq_ite] at h; split at h
    · rename_i hc; cases h; simp at hc; exact ⟨hc, hK⟩
    · cases h
  · rw [Bool.cond_eq_ite] at h; split at h
    · rename_i hc; cases h; simp at hc; exact ⟨hc, hK⟩
    · cases h
  · rw [Bool.cond_eq_ite] at h; split at h
    · rename_i hc; cases h; simp at hc; exact ⟨⟨hc.1.1.1, hc.1.1.2⟩, ⟨hc.1.2, hc.2⟩, hK⟩
    · cases h
  · cases h
theorem bldR_sound {K : List V → Prop} : ∀ (ps : List (Nat × V)) (ks : List V) {l : List V}, bldR ks ps = some l → K l → bldK ks ps K
  | [], ks, l, h, hK => by simp only [bldR, Option.some.injEq] at h; subst h; exact hK
  | (i, v) :: r, ks, l, h, hK => by
    simp only [bldR] at h
    rw [Bool.cond_eq_ite] at h
    split at h
    · rename_i hc
      simp only [Bool.and_eq_true, decide_eq_true_eq, Bool.not_eq_true'] at hc
      refine ⟨hc.1.1, Sh.beq_eq _ _ hc.1.2, fun e => ?_, bldR_sound r _ h hK⟩
      subst e; simp [V.isAny] at hc
    · cases h
theorem C.run_sound {sl : Slots} {ob : Objs} {c : C} {v : V} {K : V → Prop} (h : c.run sl ob = some v) (hK : K v) : c.wp sl ob K := by
  cases c <;> simp only [C.run] at h <;> simp only [C.wp]
  case mv => cases h; exact hK
  case lenA => cases h; exact hK
  case mkf => cases h; exact hK
  case mki => cases h; exact hK
  case bld z parts =>
    rw [Option.map_eq_some_iff] at h
    obtain ⟨l, h1, rfl⟩ := h
    exact bldR_sound _ _ h1 hK
  case pick x y z =>
    generalize A.ev sl x = a at h ⊢; generalize A.ev sl y = b at h ⊢; generalize A.ev sl z = c at h ⊢
    unfold pickR at h
    split at h
    · cases h; rename_i t _ _; cases t <;> exact hK
    · cases h; rename_i t hn
      cases t
      · simp only [cond_false] at hK
        unfold pickK
        split <;> simp_all
      · simp only [cond_true] at hK
        unfold pickK
        split <;> simp_all
    · cases h
  case bin op x y =>
    generalize A.ev sl x = a at h ⊢; generalize A.ev sl y = b at h ⊢
    unfold binR at h; split at h
    · simp only [binK]
      cases op <;> simp only [intR] at h <;> obtain ⟨h1, rfl⟩ := gdR_some h <;> simp only [Bool.and_eq_true, decide_eq_true_eq] at h1 <;> simp only [intK] <;> first | exact ⟨h1, hK⟩ | exact ⟨h1.1, h1.2, hK⟩
    · simp only [binK]
      cases op <;> simp only [strR] at h <;> first | (obtain ⟨h1, rfl⟩ := gdR_some h; exact ⟨of_decide_eq_true h1, hK⟩) | (cases h; exact hK) | cases h
    · cases h
  case not x => obtain ⟨rfl, h1⟩ := nz_some h; generalize A.ev sl x = a at h1 hK ⊢; unfold notV at h1 hK; unfold notK; split <;> simp_all
  case neg x => obtain ⟨rfl, h1⟩ := nz_some h; generalize A.ev sl x = a at h1 hK ⊢; unfold negV at h1 hK; unfold negK; split <;> simp_all
  case isnil x => obtain ⟨rfl, h1⟩ := nz_some h; generalize A.ev sl x = a at h1 hK ⊢; unfold isnilV at h1 hK; unfold isnilK; split <;> simp_all
  case pnil x => obtain ⟨rfl, h1⟩ := nz_some h; generalize A.ev sl x = a at h1 hK ⊢; unfold pnilV at h1 hK; unfold pnilK; split <;> simp_all
  case fnil x => obtain ⟨rfl, h1⟩ := nz_some h; generalize A.ev sl x = a at h1 hK ⊢; unfold fnilV at h1 hK; unfold fnilK; split <;> simp_all
  case cvi x => obtain ⟨rfl, h1⟩ := nz_some h; generalize A.ev sl x = a at h1 hK ⊢; unfold cviV at h1 hK; unfold cviK; split <;> simp_all
  case cvs x => obtain ⟨rfl, h1⟩ := nz_some h; generalize A.ev sl x = a at h1 hK ⊢; unfold cvsV at h1 hK; unfold cvsK; split <;> simp_all
  case lenS x => obtain ⟨rfl, h1⟩ := nz_some h; generalize A.ev sl x = a at h1 hK ⊢; unfold lenSV at h1 hK; unfold lenSK; split <;> simp_all
  case beq x y => obtain ⟨rfl, h1⟩ := nz_some h; generalize A.ev sl x = a at h1 hK ⊢; generalize A.ev sl y = b at h1 hK ⊢; unfold beqV at h1 hK; unfold beqK; split <;> simp_all
  case peq x y =>
    generalize A.ev sl x = a at h ⊢; generalize A.ev sl y = b at h ⊢
    unfold peqR at h; split at h
    · obtain ⟨h1, rfl⟩ := gdR_some h
      simp only [Bool.and_eq_true, decide_eq_true_eq, Option.isSome_iff_exists] at h1
      exact ⟨h1.1.1, h1.1.2, h1.2, hK⟩
    · cases h
  case usd x =>
    generalize A.ev sl x = a at h ⊢
    unfold usdR at h; split at h
    · unfold usdRo at h
      simp only [usdK]
      split at h
      · rename_i E sz xs hl
        obtain ⟨h1, rfl⟩ := gdR_some h
        simp at h1
        exact ⟨⟨_, _, _, hl, h1.1.1, h1.1.2, h1.2⟩, hK⟩
      · cases h
    · cases h; exact hK
    · cases h
  case idx x y =>
    generalize A.ev sl x = a at h ⊢; generalize A.ev sl y = b at h ⊢
    unfold idxR at h; split at h
    · obtain ⟨h1, rfl⟩ := gdR_some h
      simp only [Bool.and_eq_true, decide_eq_true_eq] at h1
      exact ⟨h1, hK⟩
    · cases h
  case idxA x y =>
    generalize A.ev sl x = a at h ⊢; generalize A.ev sl y = b at h ⊢
    unfold idxAR at h; split at h
    · obtain ⟨h1, rfl⟩ := gdR_some h
      simp only [Bool.and_eq_true, decide_eq_true_eq] at h1
      exact ⟨h1.1.1, ⟨h1.1.2, h1.2⟩, hK⟩
    · cases h
  case eqD x y =>
    generalize A.ev sl x = a at h ⊢; generalize A.ev sl y = b at h ⊢
    unfold eqDR at h; split at h
    · obtain ⟨h1, rfl⟩ := gdR_some h
      simp only [Bool.and_eq_true] at h1
      exact ⟨h1.1, h1.2, hK⟩
    · cases h
  case aix x y =>
    generalize A.ev sl x = a at h ⊢; generalize A.ev sl y = b at h ⊢
    unfold idxVR at h; split at h
    · obtain ⟨h1, rfl⟩ := gdR_some h
      simp only [Bool.and_eq_true, decide_eq_true_eq, List.all_eq_true, beq_iff_eq] at h1
      exact ⟨⟨h1.1.1.1, h1.1.1.2⟩, h1.1.2, h1.2, hK⟩
    · cases h
  case idxP x y =>
    generalize A.ev sl x = a at h ⊢; generalize A.ev sl y = b at h ⊢
    unfold idxPR at h; split at h
    · rw [Bool.cond_eq_ite] at h; split at h
      · rename_i hc
        unfold idxPRo at h; split at h
        · rename_i ks hk
          obtain ⟨h1, rfl⟩ := gdR_some h
          simp only [Bool.and_eq_true, decide_eq_true_eq, List.all_eq_true] at h1 hc
          exact ⟨hc, ⟨ks, hk, h1.1, h1.2⟩, hK⟩
        · cases h
      · cases h
    · obtain ⟨h1, rfl⟩ := gdR_some h
      simp only [Bool.and_eq_true, decide_eq_true_eq, List.all_eq_true] at h1
      exact ⟨⟨h1.1.1.1, h1.1.1.2⟩, h1.1.2, h1.2, hK⟩
    · cases h
  case fldA x =>
    generalize A.ev sl x = a at h ⊢
    unfold fldAR at h; split at h
    · unfold fldARo at h; split at h
      · rename_i ks hk
        obtain ⟨h1, rfl⟩ := gdR_some h
        simp only [Bool.and_eq_true, decide_eq_true_eq] at h1
        simp only [fldAK, hk]
        exact ⟨h1.1, h1.2, hK⟩
      · cases h
    · obtain ⟨h1, rfl⟩ := gdR_some h
      simp only [Bool.and_eq_true, decide_eq_true_eq] at h1
      exact ⟨h1.1, h1.2, hK⟩
    · cases h
  case fld x =>
    generalize (A.ev sl x).kids = a at h ⊢
    unfold fldR at h; split at h
    · obtain ⟨h1, rfl⟩ := gdR_some h
      simp only [Bool.and_eq_true, decide_eq_true_eq, beq_iff_eq] at h1
      exact ⟨h1.1.1.1, h1.1.1.2, h1.1.2, h1.2, hK⟩
    · cases h
  case ld x =>
    generalize A.ev sl x = a at h ⊢
    unfold ldR at h; split at h
    · unfold ldRo at h; split at h
      · rename_i v hk
        obtain ⟨h1, rfl⟩ := gdR_some h
        simp only [Bool.and_eq_true, decide_eq_true_eq, beq_iff_eq] at h1
        simp only [ldK, hk]
        exact ⟨h1.1, h1.2, hK⟩
      · cases h
    · obtain ⟨h1, rfl⟩ := gdR_some h
      simp only [Bool.and_eq_true, decide_eq_true_eq, beq_iff_eq] at h1
      exact ⟨h1.1, h1.2, hK⟩
    · cases h
  case nilc x =>
    generalize A.ev sl x = a at h ⊢
    unfold nilcR at h; split at h <;> cases h <;> exact hK
  case lenL x =>
    generalize A.ev sl x = a at h ⊢
    unfold lenLR at h; split at h
    · cases h; exact hK
    · cases h; exact hK
    · unfold lenLRo at h; split at h
      · rename_i E z xs hl
        obtain ⟨h1, rfl⟩ := gdR_some h
        exact ⟨⟨_, _, _, hl, of_decide_eq_true h1⟩, hK⟩
      · cases h
    · cases h
  case slcS x lo hi =>
    generalize A.ev sl x = a at h ⊢
    unfold slcSR at h; split at h
    · rw [Option.map_eq_some_iff] at h
      obtain ⟨p, h1, rfl⟩ := h
      exact bndR_sound (K := fun l h => K (.d (.str ((List.take h _).drop l)))) h1 hK
    · cases h
  case slcL x lo hi =>
    generalize A.ev sl x = a at h ⊢
    unfold slcLR at h; split at h
    · rw [Bool.cond_eq_ite] at h; split at h
      · rename_i hc
        rw [Option.map_eq_some_iff] at h
        obtain ⟨p, h1, rfl⟩ := h
        exact ⟨of_decide_eq_true hc, bndR_sound (K := fun l h => K (.d (.list _ ((List.take h _).drop l)))) h1 hK⟩
      · cases h
    · cases h
  case ext x i =>
    generalize A.ev sl x = a at h ⊢
    unfold extR at h; split at h
    · obtain ⟨h1, rfl⟩ := gdR_some h
      exact ⟨of_decide_eq_true h1, hK⟩
    · cases h
  case tas t z x =>
    generalize A.ev sl x = a at h ⊢
    unfold tasR at h; split at h
    · cases h
      refine ⟨fun e => ?_, fun e => ?_⟩ <;> simp [e] at hK <;> exact hK
    · cases h
      refine ⟨fun e => ?_, fun e => ?_⟩ <;> simp [e] at hK <;> exact hK
    · cases h; exact hK
    · cases h
end Go.Ab
/- An evaluator of statements and functions, and that what it yields holds. Over any program; no condition. -/
namespace Go.Ab
open Go

inductive Rr where
  | ok (v : V) (ob : Objs)
  | pn (v : V) (ob : Objs)
  | no

def bytesOf : List D → Option (List UInt8)
  | [] => some []
  | .int .u8 n :: r => bif decide (0 ≤ n) && decide (n < 256) then (bytesOf r).map fun s => UInt8.ofNat n.toNat :: s else none
  | _ => none
theorem bytesOf_eq : ∀ {l : List D} {s : List UInt8}, bytesOf l = some s → l = bytesD s
  | [], s, h => by simp only [bytesOf, Option.some.injEq] at h; subst h; rfl
  | x :: r, s, h => by
    unfold bytesOf at h
    split at h
    · rename_i e; cases e
    · rename_i n r' e
      cases e
      rw [Bool.cond_eq_ite] at h
      split at h
      · rename_i hc
        simp only [Bool.and_eq_true, decide_eq_true_eq] at hc
        rw [Option.map_eq_some_iff] at h
        obtain ⟨t, h1, rfl⟩ := h
        rw [bytesOf_eq h1]
        have : ((UInt8.ofNat n.toNat).toNat : Int) = n := by rw [UInt8.toNat_ofNat']; omega
        simp only [bytesD, this]
      · cases h
    · cases h

def stRt (ob : Objs) (id : Nat) (p : List Nat) (n E : Nat) (v t : V) : Option V → Rr
  | some old => bif Sh.beq v.shape old.shape && decide (old.size = n) && v.sto then (match t.set p v with | some t' => .ok .undef (setO ob id (.box E t')) | none => .no) else .no
  | none => .no
def stRo (ob : Objs) (id : Nat) (p : List Nat) (n : Nat) (v : V) : Option Ob → Rr
  | some (.box E t) => stRt ob id p n E v t (t.at p)
  | _ => .no
def stR (ob : Objs) (n : Nat) (v : V) : V → Rr
  | .ptr id p => stRo ob id p n v (lookO ob id)
  | _ => .no
def srcR (sz : Nat) : V → Option (List D)
  | .d (.list z ys) => bif decide (z = sz) then some ys else none
  | .d .nils => some []
  | _ => none
def appRo (id E sz B n : Nat) (ob : Objs) (ys : List D) : Option Ob → Rr
  | some (.arr E' sz' xs) => bif decide (E' = E) && decide (sz' = sz) && decide (n = xs.length) && decide ((2 * (xs.length + ys.length) + 192) * B ≤ 281474976710656) then .ok (.sl id (xs.length + ys.length)) (setO ob id (.arr E sz (xs ++ ys))) else .no
  | _ => .no
def appR (E sz B : Nat) (ob : Objs) (ys : List D) : V → Rr
  | .sl id n => appRo id E sz B n ob ys (lookO ob id)
  | .d .nils => bif decide ((2 * ys.length + 192) * B ≤ 281474976710656) then .ok (.sl (fresh ob) ys.length) ((fresh ob, .arr E sz ys) :: ob) else .no
  | _ => .no
def optR (o : Option V) (ob : Objs) : Rr := match o with
  | some v => .ok v ob
  | none => .no
def b2sR : V → Option V
  | .d (.list sz xs) => bif decide (sz = 1) then (bytesOf xs).map fun s => .d (.str s) else none
  | .d .nils => some (.d (.str []))
  | _ => none
def s2bR : V → Option V
  | .d (.str s) => some (.d (.list 1 (bytesD s)))
  | _ => none
def srcSR : V → Option (List D)
  | .d (.str s) => some (bytesD s)
  | _ => none
def givR : Option (D × Objs) → Rr
  | some (d, ob) => .ok (.d d) ob
  | none => .no
def ldfRo (n : Nat) (ag : Bool) (ob : Objs) : Option V → Rr
  | some v => bif decide (v.size = n) && (v.isAgg == ag) then givR (V.giv ob v) else .no
  | none => .no
def ldfR (n : Nat) (ag : Bool) (ob : Objs) : V → Rr
  | .ptr id p => ldfRo n ag ob (atO ob id p)
  | _ => .no
def V.isNils : V → Bool
  | .d .nils => true
  | _ => false
def atNil : Option V → Bool
  | some v => v.isNils
  | none => false
def mvgRt (ob : Objs) (id : Nat) (p : List Nat) (E sz : Nat) (y : V) : Option Ob → Rr
  | some (.box E0 t) => bif atNil (t.at p) then (match t.set p (.sl (fresh ob) 0) with | some t' => .ok y ((fresh ob, .arr E sz []) :: setO ob id (.box E0 t')) | none => .no) else .no
  | _ => .no
def mvgR (ob : Objs) (E sz : Nat) (p : List Nat) (y : V) : V → Rr
  | .ptr id q => mvgRt ob id (q ++ p) E sz y (lookO ob id)
  | _ => .no
def mvnR (y x : V) : List (Nat × Nat × List Nat) → Objs → Rr
  | [], ob => .ok y ob
  | e :: l, ob => match mvgR ob e.1 e.2.1 e.2.2 y x with
    | .ok _ ob' => mvnR y x l ob'
    | _ => .no
def cvbRo (id n : Nat) (ob : Objs) : Option Ob → Rr
  | some (.arr _ sz xs) => bif decide (sz ≠ 0) && decide (n = xs.length) && !xs.isEmpty then .ok (.d (.list sz xs)) (setO ob id .gone) else .no
  | _ => .no
def cvbR (ob : Objs) : V → Rr
  | .sl id n => cvbRo id n ob (lookO ob id)
  | _ => .no
def ustrRo (id n : Nat) (m : Int) (E : Nat) (ob : Objs) : Option Ob → Rr
  | some (.arr E' sz xs) => bif decide (E' = E) && decide (sz = 1) && decide (n = xs.length) && decide (m = n) && decide (n ≤ 9223372036854775807) && !xs.isEmpty then (match bytesOf xs with | some s => .ok (.d (.str s)) (setO ob id .gone) | none => .no) else .no
  | _ => .no
def ustrR (E : Nat) (ob : Objs) : V → V → Rr
  | .sd id n, .d (.int .i64 m) => ustrRo id n m E ob (lookO ob id)
  | .d .nilp, .d (.int .i64 m) => bif decide (m = 0) then .ok (.d (.str [])) ob else .no
  | _, _ => .no
def panicR (ob : Objs) : V → Rr
  | .iface t v => .pn (.iface t v) ob
  | .d (.iface t v) => .pn (.d (.iface t v)) ob
  | _ => .no

structure Fns where
  call : Nat → List V → Objs → Option (Out × Objs)
  pc : Nat → List V → Objs → Option V
  ca : Nat → Bool
  gl : Nat → Option D
structure Fns.ok (P : Prg) (R : Fns) : Prop where
  call : ∀ f vs ob o b, R.call f vs ob = some (o, b) → ACall P f vs ob fun o' b' => o' = o ∧ b' = b
  pc : ∀ f vs ob v, R.pc f vs ob = some v → PCall P f vs ob fun v' => v' = v
  ca : ∀ f, R.ca f = true → callable P.p f = true
  gl : ∀ g x, R.gl g = some x → GlobIs P g x

def outR : Option (Out × Objs) → Rr
  | some (.ret v, ob) => .ok v ob
  | some (.panic v, ob) => .pn v ob
  | none => .no
def callvR (R : Fns) (args : List V) (ob : Objs) : V → Rr
  | .fn f fi ca => bif R.ca f then outR (R.call f (fi ++ args ++ ca) ob) else .no
  | .d (.fn f fi ca) => bif R.ca f then outR (R.call f (fi.map .d ++ args ++ ca.map .d) ob) else .no
  | _ => .no
def allDR (l : Option (List V)) : Option (List D) := match l with
  | some ks => V.allD ks
  | none => none

def keysB (kd k : D) (es : List (D × V)) : Bool := D.alike kd k && es.all fun e => D.alike k e.1
theorem keysB_ok {kd k : D} {es : List (D × V)} (h : keysB kd k es = true) : keysOk kd k es := by
  simp only [keysB, Bool.and_eq_true, List.all_eq_true] at h
  exact h
def lkpRo (kd z : D) (ok : Bool) (k : D) : Option Ob → Option V
  | some (.map es) => gdR (keysB kd k es) (lkpV z ok (findE k es))
  | _ => none
def lkpR (ob : Objs) (kd z : D) (ok : Bool) : V → V → Option V
  | .mp id, .d k => lkpRo kd z ok k (lookO ob id)
  | .d .nilm, .d k => gdR (D.alike kd k) (lkpV z ok none)
  | _, _ => none
def msetRo (ob : Objs) (id : Nat) (kd k : D) (v : V) : Option Ob → Rr
  | some (.map es) => bif keysB kd k es && v.sto then .ok .undef (setO ob id (.map (updE k v es))) else .no
  | _ => .no
def msetR (ob : Objs) (kd : D) (v : V) : V → V → Rr
  | .mp id, .d k => msetRo ob id kd k v (lookO ob id)
  | _, _ => .no
def slgRv (ob : Objs) (id n z : Nat) : Option V → Rr
  | some (.d (.agg xs)) => bif decide (xs.length = n) && xs.all (fun x => decide (x.sz = z)) then .ok (.d (.list z xs)) (setO ob id .gone) else .no
  | _ => .no
def slgR (ob : Objs) (n z : Nat) : V → Rr
  | .ptr id p => slgRv ob id n z (atO ob id p)
  | _ => .no
def isIntB : V → Bool
  | .d (.int _ _) => true
  | _ => false
def mkmB (sl : Slots) : Option A → Bool
  | none => true
  | some x => isIntB (x.ev sl)

def I.run (R : Fns) (sl : Slots) (ob : Objs) : I → Rr
  | .c x => optR (x.run sl ob) ob
  | .box E x => bif (x.ev sl).sto then .ok (.ptr (fresh ob) []) ((fresh ob, .box E (x.ev sl)) :: ob) else .no
  | .alloc E z => bif (V.d z).sto then .ok (.ptr (fresh ob) []) ((fresh ob, .box E (.d z)) :: ob) else .no
  | .bls sz z parts => match allDR (bldR (z.map .d) (parts.map fun (i, x) => (i, x.ev sl))) with
    | some l => .ok (.d (.list sz l)) ob
    | none => .no
  | .blo E sz z parts => match allDR (bldR (z.map .d) (parts.map fun (i, x) => (i, x.ev sl))) with
    | some l => .ok (.sl (fresh ob) l.length) ((fresh ob, .arr E sz l) :: ob)
    | none => .no
  | .st n x v => stR ob n (v.ev sl) (x.ev sl)
  | .app E sz B x y => match srcR sz (y.ev sl) with
    | some ys => appR E sz B ob ys (x.ev sl)
    | none => .no
  | .appS E B x y => match srcSR (y.ev sl) with
    | some ys => appR E 1 B ob ys (x.ev sl)
    | none => .no
  | .call f args => outR (R.call f (args.map (A.ev sl)) ob)
  | .pcall f args => optR (R.pc f (args.map (A.ev sl)) ob) ob
  | .callv x args => callvR R (args.map (A.ev sl)) ob (x.ev sl)
  | .panic x => panicR ob (x.ev sl)
  | .b2s x => optR (b2sR (x.ev sl)) ob
  | .s2b x => optR (s2bR (x.ev sl)) ob
  | .nilo E sz x => bif (x.ev sl).isNils then .ok (.sl (fresh ob) 0) ((fresh ob, .arr E sz []) :: ob) else .no
  | .mvf x => givR (V.giv ob (x.ev sl))
  | .ldf n ag x => ldfR n ag ob (x.ev sl)
  | .mvg E sz y x p => mvgR ob E sz p (y.ev sl) (x.ev sl)
  | .mvn y x l => mvnR (y.ev sl) (x.ev sl) l ob
  | .cvb x => cvbR ob (x.ev sl)
  | .ustr E x y => ustrR E ob (x.ev sl) (y.ev sl)
  | .mkm r => bif mkmB sl r then .ok (.mp (fresh ob)) ((fresh ob, .map []) :: ob) else .no
  | .lkp kd z ok m k => optR (lkpR ob kd z ok (m.ev sl) (k.ev sl)) ob
  | .mset kd m k v => msetR ob kd (v.ev sl) (m.ev sl) (k.ev sl)
  | .gld g n ag x => match R.gl g with
    | some y => bif decide (y.sz = n) && ((V.d y).isAgg == ag) && D.eqb x y then .ok (.d x) ob else .no
    | none => .no
  | .slg n z x => slgR ob n z (x.ev sl)

def Rr.to (K Pn : V → Objs → Prop) : Rr → Prop
  | .ok v ob => K v ob
  | .pn v ob => Pn v ob
  | .no => False

section
variable {P : Prg} {R : Fns} {sl : Slots} {ob : Objs} {K Pn : V → Objs → Prop}
theorem optR_to {o : Option V} (h : (optR o ob).to K Pn) : ∃ v, o = some v ∧ K v ob := by
  unfold optR at h; split at h
  · exact ⟨_, rfl, h⟩
  · exact h.elim
theorem isNils_eq {v : V} (h : v.isNils = true) : v = .d .nils := by
  unfold V.isNils at h; split at h
  · rfl
  · cases h
theorem outR_to (hR : R.ok P) {f : Nat} {vs : List V} (h : (outR (R.call f vs ob)).to K Pn) : ACall P f vs ob (outK K Pn) := by
  unfold outR at h
  split at h
  · rename_i v b hc
    exact (hR.call f vs ob _ _ hc).mono fun o b ⟨e1, e2⟩ => by subst e1; subst e2; exact h
  · rename_i v b hc
    exact (hR.call f vs ob _ _ hc).mono fun o b ⟨e1, e2⟩ => by subst e1; subst e2; exact h
  · exact h.elim
theorem givR_to {o : Option (D × Objs)} (h : (givR o).to K Pn) : givK K o := by
  unfold givR at h; split at h
  · exact h
  · exact h.elim
theorem cond_to {b : Bool} {x : Rr} (h : (bif b then x else .no).to K Pn) : b = true ∧ x.to K Pn := by
  cases b
  · exact h.elim
  · exact ⟨rfl, h⟩
theorem mvgR_to {E sz : Nat} {y a : V} {p : List Nat} (h : (mvgR ob E sz p y a).to K Pn) : mvgK ob E sz p y K a := by
  unfold mvgR at h; split at h
  · unfold mvgRt at h; split at h
    · rename_i E0 t hl
      obtain ⟨h1, h2⟩ := cond_to h
      split at h2
      · rename_i t' ht
        unfold atNil at h1
        split at h1
        · rename_i v hv
          simp only [mvgK, hl, mvgKt, ht, mvgKs]
          exact ⟨by rw [hv, isNils_eq h1], h2⟩
        · cases h1
      · exact h2.elim
    · exact h.elim
  · exact h.elim
theorem mvnR_to {y a : V} : ∀ {l : List (Nat × Nat × List Nat)} {ob : Objs}, (mvnR y a l ob).to K Pn → mvnK y K a l ob
  | [], _, h => h
  | e :: l, ob, h => by
    unfold mvnR at h
    split at h
    · rename_i v' ob' he
      exact mvgR_to (Pn := fun _ _ => False) (by rw [he]; exact mvnR_to h)
    · exact h.elim

theorem I.run_sound (hR : R.ok P) {i : I} (h : (i.run R sl ob).to K Pn) : i.wp P sl ob K Pn := by
  cases i <;> simp only [I.run] at h <;> simp only [I.wp]
  case c x =>
    obtain ⟨v, h1, h2⟩ := optR_to h
    exact C.run_sound (K := fun v => K v ob) h1 h2
  case box E x => obtain ⟨h1, h2⟩ := cond_to h; exact ⟨h1, h2⟩
  case alloc E z => obtain ⟨h1, h2⟩ := cond_to h; exact ⟨h1, h2⟩
  case bls sz z parts =>
    split at h
    · rename_i l hl
      unfold allDR at hl
      split at hl
      · rename_i ks hk
        refine bldR_sound _ _ hk ?_
        rw [hl]; exact h
      · cases hl
    · exact h.elim
  case blo E sz z parts =>
    split at h
    · rename_i l hl
      unfold allDR at hl
      split at hl
      · rename_i ks hk
        refine bldR_sound _ _ hk ?_
        rw [hl]; exact h
      · cases hl
    · exact h.elim
  case st n x v =>
    generalize A.ev sl x = a at h ⊢
    unfold stR at h; split at h
    · unfold stRo at h; split at h
      · rename_i E t hl
        unfold stRt at h; split at h
        · rename_i old ho
          obtain ⟨h1, h2⟩ := cond_to h
          simp only [Bool.and_eq_true, decide_eq_true_eq] at h1
          split at h2
          · rename_i t' ht
            simp only [stK, hl, stKo, ho, stKt]
            exact ⟨Sh.beq_eq _ _ h1.1.1, h1.1.2, h1.2, t', ht, h2⟩
          · exact h2.elim
        · exact h.elim
      · exact h.elim
    · exact h.elim
  case app E sz B x y =>
    split at h
    · rename_i ys hy
      have hx : appK E sz B ob ys K (A.ev sl x) := by
        generalize A.ev sl x = a at h ⊢
        unfold appR at h; split at h
        · unfold appRo at h; split at h
          · rename_i E' sz' xs hl
            obtain ⟨h1, h2⟩ := cond_to h
            simp only [Bool.and_eq_true, decide_eq_true_eq] at h1
            simp only [appK, hl, appKo]
            exact ⟨h1.1.1.1, h1.1.1.2, h1.1.2, h1.2, h2⟩
          · exact h.elim
        · obtain ⟨h1, h2⟩ := cond_to h
          exact ⟨of_decide_eq_true h1, h2⟩
        · exact h.elim
      generalize A.ev sl y = b at hy ⊢
      unfold srcR at hy; split at hy
      · rw [Bool.cond_eq_ite] at hy; split at hy
        · rename_i hc; cases hy; exact ⟨of_decide_eq_true hc, hx⟩
        · cases hy
      · cases hy; exact hx
      · cases hy
    · exact h.elim
  case appS E B x y =>
    split at h
    · rename_i ys hy
      have hx : appK E 1 B ob ys K (A.ev sl x) := by
        generalize A.ev sl x = a at h ⊢
        unfold appR at h; split at h
        · unfold appRo at h; split at h
          · rename_i E' sz' xs hl
            obtain ⟨h1, h2⟩ := cond_to h
            simp only [Bool.and_eq_true, decide_eq_true_eq] at h1
            simp only [appK, hl, appKo]
            exact ⟨h1.1.1.1, h1.1.1.2, h1.1.2, h1.2, h2⟩
          · exact h.elim
        · obtain ⟨h1, h2⟩ := cond_to h
          exact ⟨of_decide_eq_true h1, h2⟩
        · exact h.elim
      generalize A.ev sl y = b at hy ⊢
      unfold srcSR at hy; split at hy
      · cases hy; exact hx
      · cases hy
    · exact h.elim
  case call f args => exact outR_to hR h
  case pcall f args =>
    obtain ⟨v, h1, h2⟩ := optR_to h
    exact (hR.pc _ _ _ _ h1).mono fun v' e => by subst e; exact h2
  case callv x args =>
    generalize A.ev sl x = a at h ⊢
    unfold callvR at h; split at h
    · obtain ⟨h1, h2⟩ := cond_to h
      exact ⟨hR.ca _ h1, outR_to hR h2⟩
    · obtain ⟨h1, h2⟩ := cond_to h
      exact ⟨hR.ca _ h1, outR_to hR h2⟩
    · exact h.elim
  case panic x =>
    generalize A.ev sl x = a at h ⊢
    unfold panicR at h; split at h
    · exact h
    · exact h
    · exact h.elim
  case b2s x =>
    obtain ⟨v, h1, h2⟩ := optR_to h
    generalize A.ev sl x = a at h1 ⊢
    unfold b2sR at h1; split at h1
    · rw [Bool.cond_eq_ite] at h1; split at h1
      · rename_i hc
        rw [Option.map_eq_some_iff] at h1
        obtain ⟨s, h3, rfl⟩ := h1
        exact ⟨of_decide_eq_true hc, s, bytesOf_eq h3, h2⟩
      · cases h1
    · cases h1; exact h2
    · cases h1
  case s2b x =>
    obtain ⟨v, h1, h2⟩ := optR_to h
    generalize A.ev sl x = a at h1 ⊢
    unfold s2bR at h1; split at h1
    · cases h1; exact h2
    · cases h1
  case nilo E sz x => obtain ⟨h1, h2⟩ := cond_to h; rw [isNils_eq h1]; exact h2
  case mvf x => exact givR_to h
  case ldf n ag x =>
    generalize A.ev sl x = a at h ⊢
    unfold ldfR at h; split at h
    · unfold ldfRo at h; split at h
      · rename_i v hv
        obtain ⟨h1, h2⟩ := cond_to h
        simp only [Bool.and_eq_true, decide_eq_true_eq, beq_iff_eq] at h1
        simp only [ldfK, hv, ldfKo]
        exact ⟨h1.1, h1.2, givR_to h2⟩
      · exact h.elim
    · exact h.elim
  case mvg => exact mvgR_to h
  case mvn => exact mvnR_to h
  case cvb x =>
    generalize A.ev sl x = a at h ⊢
    unfold cvbR at h; split at h
    · unfold cvbRo at h; split at h
      · rename_i E' sz xs hl
        obtain ⟨h1, h2⟩ := cond_to h
        simp at h1
        simp only [cvbK, hl, cvbKo]
        exact ⟨h1.1.1, h1.1.2, h1.2, h2⟩
      · exact h.elim
    · exact h.elim
  case ustr E x y =>
    generalize A.ev sl x = a at h ⊢; generalize A.ev sl y = b at h ⊢
    unfold ustrR at h; split at h
    · unfold ustrRo at h; split at h
      · rename_i E' sz xs hl
        obtain ⟨h1, h2⟩ := cond_to h
        split at h2
        · rename_i s hs
          simp at h1
          simp only [ustrK, hl, ustrKo]
          exact ⟨h1.1.1.1.1.1, h1.1.1.1.1.2, h1.1.1.1.2, h1.1.1.2, h1.1.2, h1.2, s, bytesOf_eq hs, h2⟩
        · exact h2.elim
      · exact h.elim
    · obtain ⟨h1, h2⟩ := cond_to h
      exact ⟨of_decide_eq_true h1, h2⟩
    · exact h.elim
  case mkm r =>
    obtain ⟨h1, h2⟩ := cond_to h
    refine ⟨?_, h2⟩
    cases r with
    | none => trivial
    | some x =>
      simp only [mkmB] at h1
      simp only [mkmK]
      generalize A.ev sl x = a at h1 ⊢
      unfold isIntB at h1; split at h1
      · trivial
      · cases h1
  case lkp kd z ok m k =>
    obtain ⟨v, h1, h2⟩ := optR_to h
    generalize A.ev sl m = a at h1 ⊢; generalize A.ev sl k = b at h1 ⊢
    unfold lkpR at h1; split at h1
    · unfold lkpRo at h1; split at h1
      · rename_i es hl
        obtain ⟨h3, rfl⟩ := gdR_some h1
        simp only [lkpK, hl, lkpKo]
        exact ⟨keysB_ok h3, h2⟩
      · cases h1
    · obtain ⟨h3, rfl⟩ := gdR_some h1
      exact ⟨h3, h2⟩
    · cases h1
  case mset kd m k v =>
    generalize A.ev sl m = a at h ⊢; generalize A.ev sl k = b at h ⊢
    unfold msetR at h; split at h
    · unfold msetRo at h; split at h
      · rename_i es hl
        obtain ⟨h1, h2⟩ := cond_to h
        simp only [Bool.and_eq_true] at h1
        simp only [msetK, hl, msetKo]
        exact ⟨keysB_ok h1.1, h1.2, h2⟩
      · exact h.elim
    · exact h.elim
  case slg n z x =>
    generalize A.ev sl x = a at h ⊢
    unfold slgR at h; split at h
    · rename_i id p
      unfold slgRv at h; split at h
      · rename_i xs hat
        obtain ⟨h1, h2⟩ := cond_to h
        simp only [Bool.and_eq_true, decide_eq_true_eq, List.all_eq_true] at h1
        simp only [slgK, hat, slgKv]
        exact ⟨h1.1, h1.2, h2⟩
      · exact h.elim
    · exact h.elim
  case gld g n ag x =>
    split at h
    · rename_i y hy
      obtain ⟨h1, h2⟩ := cond_to h
      simp only [Bool.and_eq_true, decide_eq_true_eq, beq_iff_eq] at h1
      have e := D.eqb_eq _ _ h1.2
      subst e
      exact ⟨hR.gl g _ hy, h1.1.1, h1.1.2, h2⟩
    · exact h.elim
end

inductive Rq where
  | ok (sl : Slots) (ob : Objs)
  | pn (v : V) (sl : Slots) (ob : Objs)
  | no
def Rq.to (K : Slots → Objs → Prop) (Pn : V → Slots → Objs → Prop) : Rq → Prop
  | .ok sl ob => K sl ob
  | .pn v sl ob => Pn v sl ob
  | .no => False

mutual
def V.ids : V → List Nat
  | .ptr id _ => [id]
  | .sl id _ => [id]
  | .sd id _ => [id]
  | .mp id => [id]
  | .ep id _ _ _ _ => [id]
  | .fn _ a b => V.idss a ++ V.idss b
  | .agg xs => V.idss xs
  | .iface _ v => V.ids v
  | .tup xs => V.idss xs
  | _ => []
def V.idss : List V → List Nat
  | [] => []
  | x :: r => V.ids x ++ V.idss r
end
def idsS : Slots → List Nat
  | [] => []
  | (_, v) :: r => V.ids v ++ idsS r
def idsO : Objs → List Nat
  | [] => []
  | (_, .box _ t) :: r => V.ids t ++ idsO r
  | (_, .vec _ _ xs) :: r => V.idss xs ++ idsO r
  | (_, .map es) :: r => V.idss (es.map (·.2)) ++ idsO r
  | _ :: r => idsO r

def stepR (R : Fns) (sl : Slots) (ob : Objs) (d : Option Nat) (i : I) (k : Slots → Objs → Rq) : Rq := match i.run R sl ob with
  | .ok v ob' => k (put sl d v) ob'
  | .pn v ob' => .pn v sl ob'
  | .no => .no
def rrun (R : Fns) : List It → Slots → Objs → Rq
  | [], sl, ob => .ok sl ob
  | .op d i :: r, sl, ob => stepR R sl ob d i (rrun R r)
  | .gop s want d i :: r, sl, ob => match look sl s with
    | .d (.bool b) => bif b == want then stepR R ((s, .d (.bool want)) :: sl) ob d i (rrun R r) else rrun R r (put ((s, .d (.bool (!want))) :: sl) d .undef) ob
    | .undef => rrun R r (put sl d .undef) ob
    | _ => .no

theorem stepR_sound {P : Prg} {R : Fns} (hR : R.ok P) {sl : Slots} {ob : Objs} {d : Option Nat} {i : I} {k : Slots → Objs → Rq} {k' K : Slots → Objs → Prop} {Pn : V → Slots → Objs → Prop} (hk : ∀ sl ob, (k sl ob).to K Pn → k' sl ob) (h : (stepR R sl ob d i k).to K Pn) :
    i.wp P sl ob (fun v ob' => k' (put sl d v) ob') (fun v ob' => Pn v sl ob') := by
  refine I.run_sound hR ?_
  unfold stepR at h
  split at h
  · rename_i e; rw [e]; exact hk _ _ h
  · rename_i e; rw [e]; exact h
  · exact h.elim
theorem rrun_sound {P : Prg} {R : Fns} (hR : R.ok P) {K : Slots → Objs → Prop} {Pn : V → Slots → Objs → Prop} : ∀ (l : List It) (sl : Slots) (ob : Objs), (rrun R l sl ob).to K Pn → rwp P K Pn l sl ob
  | [], sl, ob, h => h
  | .op d i :: r, sl, ob, h => stepR_sound hR (fun sl ob h => rrun_sound hR r sl ob h) h
  | .gop s want d i :: r, sl, ob, h => by
    simp only [rrun] at h
    simp only [rwp]
    split at h
    · rename_i b hb
      rw [hb]
      simp only [gdK]
      rw [Bool.cond_eq_ite] at h
      split at h
      · rename_i e
        have e : b = want := by simpa using e
        refine ⟨fun _ => stepR_sound hR (fun sl ob h => rrun_sound hR r sl ob h) h, fun e2 => ?_⟩
        rw [e] at e2; cases want <;> cases e2
      · rename_i e
        have e : ¬ b = want := by simpa using e
        exact ⟨fun e2 => (e e2).elim, fun _ => rrun_sound hR r _ ob h⟩
    · rename_i hb
      rw [hb]
      exact rrun_sound hR r _ ob h
    · exact h.elim

mutual
def V.eqb : V → V → Bool
  | .d x, .d y => D.eqb x y
  | .ptr i p, .ptr j q => Nat.beq i j && decide (p = q)
  | .sl i n, .sl j m => Nat.beq i j && Nat.beq n m
  | .sd i n, .sd j m => Nat.beq i j && Nat.beq n m
  | .mp i, .mp j => Nat.beq i j
  | .ep i n s k p, .ep j m t l q => Nat.beq i j && Nat.beq n m && Sh.beq s t && Nat.beq k l && decide (p = q)
  | .fn f a b, .fn g a2 b2 => Nat.beq f g && V.eqbs a a2 && V.eqbs b b2
  | .agg a, .agg b => V.eqbs a b
  | .iface t a, .iface u b => Nat.beq t u && V.eqb a b
  | .tup a, .tup b => V.eqbs a b
  | .undef, .undef => true
  | .any, .any => true
  | _, _ => false
def V.eqbs : List V → List V → Bool
  | [], [] => true
  | x :: r, y :: s => V.eqb x y && V.eqbs r s
  | _, _ => false
end
mutual
theorem V.eqb_eq : ∀ (x y : V), V.eqb x y = true → x = y
  | .d a, y, h => by cases y <;> simp only [V.eqb, Bool.false_eq_true] at h; rw [D.eqb_eq _ _ h]
  | .ptr i p, y, h => by cases y <;> simp only [V.eqb, Bool.false_eq_true, Bool.and_eq_true, decide_eq_true_eq] at h; rw [Nat.eq_of_beq_eq_true h.1, h.2]
  | .sl i n, y, h => by cases y <;> simp only [V.eqb, Bool.false_eq_true, Bool.and_eq_true] at h; rw [Nat.eq_of_beq_eq_true h.1, Nat.eq_of_beq_eq_true h.2]
  | .sd i n, y, h => by cases y <;> simp only [V.eqb, Bool.false_eq_true, Bool.and_eq_true] at h; rw [Nat.eq_of_beq_eq_true h.1, Nat.eq_of_beq_eq_true h.2]
  | .mp i, y, h => by cases y <;> simp only [V.eqb, Bool.false_eq_true] at h; rw [Nat.eq_of_beq_eq_true h]
  | .ep i n s k p, y, h => by
    cases y <;> simp only [V.eqb, Bool.false_eq_true, Bool.and_eq_true, decide_eq_true_eq] at h
    rw [Nat.eq_of_beq_eq_true h.1.1.1.1, Nat.eq_of_beq_eq_true h.1.1.1.2, Sh.beq_eq _ _ h.1.1.2, Nat.eq_of_beq_eq_true h.1.2, h.2]
  | .fn f a b, y, h => by
    cases y <;> simp only [V.eqb, Bool.false_eq_true, Bool.and_eq_true] at h
    rw [Nat.eq_of_beq_eq_true h.1.1, V.eqbs_eq _ _ h.1.2, V.eqbs_eq _ _ h.2]
  | .agg a, y, h => by cases y <;> simp only [V.eqb, Bool.false_eq_true] at h; rw [V.eqbs_eq _ _ h]
  | .iface t a, y, h => by cases y <;> simp only [V.eqb, Bool.false_eq_true, Bool.and_eq_true] at h; rw [Nat.eq_of_beq_eq_true h.1, V.eqb_eq _ _ h.2]
  | .tup a, y, h => by cases y <;> simp only [V.eqb, Bool.false_eq_true] at h; rw [V.eqbs_eq _ _ h]
  | .undef, y, h => by cases y <;> simp [V.eqb] at h; rfl
  | .any, y, h => by cases y <;> simp [V.eqb] at h; rfl
theorem V.eqbs_eq : ∀ (x y : List V), V.eqbs x y = true → x = y
  | [], y, h => by cases y <;> simp [V.eqbs] at h; rfl
  | x :: r, y, h => by
    cases y <;> simp only [V.eqbs, Bool.false_eq_true, Bool.and_eq_true] at h
    rw [V.eqb_eq _ _ h.1, V.eqbs_eq _ _ h.2]
end
def eqbE : List (D × V) → List (D × V) → Bool
  | [], [] => true
  | (k, x) :: r, (j, y) :: s => D.eqb k j && V.eqb x y && eqbE r s
  | _, _ => false
theorem eqbE_eq : ∀ (x y : List (D × V)), eqbE x y = true → x = y
  | [], y, h => by cases y <;> simp [eqbE] at h; rfl
  | (k, x) :: r, y, h => by
    cases y <;> simp only [eqbE, Bool.false_eq_true, Bool.and_eq_true] at h
    rw [D.eqb_eq _ _ h.1.1, V.eqb_eq _ _ h.1.2, eqbE_eq _ _ h.2]
def Ob.eqb : Ob → Ob → Bool
  | .box E t, .box F u => Nat.beq E F && V.eqb t u
  | .arr E z a, .arr F y b => Nat.beq E F && Nat.beq z y && D.eqbs a b
  | .vec E z a, .vec F y b => Nat.beq E F && Nat.beq z y && V.eqbs a b
  | .map a, .map b => eqbE a b
  | .gone, .gone => true
  | _, _ => false
theorem Ob.eqb_eq (x y : Ob) (h : Ob.eqb x y = true) : x = y := by
  cases x <;> cases y <;> simp only [Ob.eqb, Bool.false_eq_true, Bool.and_eq_true] at h
  · rw [Nat.eq_of_beq_eq_true h.1, V.eqb_eq _ _ h.2]
  · rw [Nat.eq_of_beq_eq_true h.1.1, Nat.eq_of_beq_eq_true h.1.2, D.eqbs_eq _ _ h.2]
  · rw [Nat.eq_of_beq_eq_true h.1.1, Nat.eq_of_beq_eq_true h.1.2, V.eqbs_eq _ _ h.2]
  · rw [eqbE_eq _ _ h]
  · rfl
def eqbS : Slots → Slots → Bool
  | [], [] => true
  | (k, x) :: r, (j, y) :: s => Nat.beq k j && V.eqb x y && eqbS r s
  | _, _ => false
theorem eqbS_eq : ∀ (x y : Slots), eqbS x y = true → x = y
  | [], y, h => by cases y <;> simp [eqbS] at h; rfl
  | (k, x) :: r, y, h => by
    cases y <;> simp only [eqbS, Bool.false_eq_true, Bool.and_eq_true] at h
    rw [Nat.eq_of_beq_eq_true h.1.1, V.eqb_eq _ _ h.1.2, eqbS_eq _ _ h.2]
def eqbO : Objs → Objs → Bool
  | [], [] => true
  | (k, x) :: r, (j, y) :: s => Nat.beq k j && Ob.eqb x y && eqbO r s
  | _, _ => false
theorem eqbO_eq : ∀ (x y : Objs), eqbO x y = true → x = y
  | [], y, h => by cases y <;> simp [eqbO] at h; rfl
  | (k, x) :: r, y, h => by
    cases y <;> simp only [eqbO, Bool.false_eq_true, Bool.and_eq_true] at h
    rw [Nat.eq_of_beq_eq_true h.1.1, Ob.eqb_eq _ _ h.1.2, eqbO_eq _ _ h.2]
def Rq.eqb : Rq → Rq → Bool
  | .ok a b, .ok c d => eqbS a c && eqbO b d
  | .pn v a b, .pn u c d => V.eqb v u && eqbS a c && eqbO b d
  | _, _ => false
theorem Rq.eqb_eq (x y : Rq) (h : Rq.eqb x y = true) : x = y := by
  cases x <;> cases y <;> simp only [Rq.eqb, Bool.false_eq_true, Bool.and_eq_true] at h
  · rw [eqbS_eq _ _ h.1, eqbO_eq _ _ h.2]
  · rw [V.eqb_eq _ _ h.1.1, eqbS_eq _ _ h.1.2, eqbO_eq _ _ h.2]
def bothR (x y : Rq) : Rq := bif Rq.eqb x y then x else .no
theorem bothR_to {K : Slots → Objs → Prop} {Pn : V → Slots → Objs → Prop} {x y : Rq} (h : (bothR x y).to K Pn) : x.to K Pn ∧ y.to K Pn := by
  unfold bothR at h
  cases hb : Rq.eqb x y with
  | false => rw [hb] at h; exact h.elim
  | true =>
    rw [hb] at h
    have := Rq.eqb_eq x y hb
    subst this
    exact ⟨h, h⟩
def itR (R : Fns) (k : Slots → Objs → Rq) : It → Slots → Objs → Rq
  | .op d i, sl, ob => stepR R sl ob d i k
  | .gop s want d i, sl, ob => match look sl s with
    | .d (.bool b) => bif b == want then stepR R ((s, .d (.bool want)) :: sl) ob d i k else k (put ((s, .d (.bool (!want))) :: sl) d .undef) ob
    | .undef => k (put sl d .undef) ob
    | _ => .no
def keepQ (keep pk : List Nat) : Rq → Rq
  | .ok sl ob => .ok (keepS sl keep) ob
  | .pn v sl ob => .pn v (keepS sl pk) ob
  | .no => .no
mutual
def orun (R : Fns) (keep pk : List Nat) : Ot → Slots → Objs → Rq
  | .done, sl, ob => .ok sl ob
  | .one _ x r, sl, ob => itR R (orun R keep pk r) x sl ob
  | .br l, sl, ob => oruns R keep pk l sl ob
def oruns (R : Fns) (keep pk : List Nat) : Ots → Slots → Objs → Rq
  | .nil, _, _ => .no
  | .cons _ x r .nil, sl, ob => keepQ keep pk (itR R (orun R keep pk r) x sl ob)
  | .cons _ x r l, sl, ob => bothR (keepQ keep pk (itR R (orun R keep pk r) x sl ob)) (oruns R keep pk l sl ob)
end

abbrev Rs := Option (AExit × Slots × Objs)
def Rs.to (Q : Post) : Rs → Prop
  | some (e, sl, ob) => Q e sl ob
  | none => False
def subR (keep : List Nat) (n : Nat) (sl : Slots) (ob : Objs) : Option (Slots × Objs) :=
  let kp := idsS (keepS sl keep) ++ idsO ob
  bif noMenS (young n kp) (keepS sl keep) && noMenO (young n kp) (dropO (young n kp) ob) then some (keepS sl keep, dropO (young n kp) ob) else none
def loopR (keep : List Nat) (body : Slots → Objs → Rs) : Nat → Slots → Objs → Rs
  | 0, _, _ => none
  | n + 1, sl, ob => match body sl ob with
    | some (.normal, sl', ob') => match subR keep (fresh ob) sl' ob' with
      | some (sl2, ob2) => loopR keep body n sl2 ob2
      | none => none
    | r => r
theorem look_keepS {sl : Slots} : ∀ (l : List Nat) (k : Nat), k ∈ l → look (keepS sl l) k = look sl k
  | j :: r, k, h => by
    simp only [keepS, look]
    split
    · rename_i e; rw [e]
    · rename_i e
      exact look_keepS r k ((List.mem_cons.1 h).resolve_left (fun e2 => e e2.symm))
theorem keepS_sub {sl : Slots} {l : List Nat} : ∀ (m : List Nat), (∀ k ∈ m, k ∈ l) → keepS (keepS sl l) m = keepS sl m
  | [], _ => rfl
  | k :: r, h => by
    simp only [keepS, look_keepS l k (h k (by simp)), keepS_sub r (fun j hj => h j (by simp [hj]))]
theorem keepS_idem (sl : Slots) (l : List Nat) : keepS (keepS sl l) l = keepS sl l := keepS_sub l fun _ h => h
theorem keepQ_to {Q : Post} {keep pk : List Nat} {r : Rq} (h : (keepQ keep pk r).to (fun sl ob => Q .normal (keepS sl keep) ob) (fun v sl ob => Q (.panic v) (keepS sl pk) ob)) : r.to (fun sl ob => Q .normal (keepS sl keep) ob) (fun v sl ob => Q (.panic v) (keepS sl pk) ob) := by
  cases r with
  | ok sl ob => simp only [keepQ, Rq.to, keepS_idem] at h ⊢; exact h
  | pn v sl ob => simp only [keepQ, Rq.to, keepS_idem] at h ⊢; exact h
  | no => exact h.elim
theorem itR_sound {P : Prg} {R : Fns} (hR : R.ok P) {k : Slots → Objs → Rq} {k' K : Slots → Objs → Prop} {Pn : V → Slots → Objs → Prop} (hk : ∀ sl ob, (k sl ob).to K Pn → k' sl ob) : ∀ (x : It) (sl : Slots) (ob : Objs), (itR R k x sl ob).to K Pn → itK P k' Pn x sl ob
  | .op d i, sl, ob, h => stepR_sound hR hk h
  | .gop s want d i, sl, ob, h => by
    simp only [itR] at h
    simp only [itK]
    split at h
    · rename_i b hb
      rw [hb]
      simp only [gdK]
      rw [Bool.cond_eq_ite] at h
      split at h
      · rename_i e
        have e : b = want := by simpa using e
        refine ⟨fun _ => stepR_sound hR hk h, fun e2 => ?_⟩
        rw [e] at e2; cases want <;> cases e2
      · rename_i e
        have e : ¬ b = want := by simpa using e
        exact ⟨fun e2 => (e e2).elim, fun _ => hk _ _ h⟩
    · rename_i hb
      rw [hb]
      exact hk _ _ h
    · exact h.elim
mutual
theorem orun_sound {P : Prg} {R : Fns} (hR : R.ok P) {Q : Post} {keep pk : List Nat} : ∀ (t : Ot) (sl : Slots) (ob : Objs), (orun R keep pk t sl ob).to (fun sl ob => Q .normal (keepS sl keep) ob) (fun v sl ob => Q (.panic v) (keepS sl pk) ob) → owp P (fun sl ob => Q .normal (keepS sl keep) ob) (fun v sl ob => Q (.panic v) (keepS sl pk) ob) t sl ob
  | .done, sl, ob, h => by simp only [orun] at h; simp only [owp]; exact h
  | .one _ x r, sl, ob, h => by
    simp only [orun] at h
    simp only [owp]
    exact itR_sound hR (fun sl ob h => orun_sound hR r sl ob h) x sl ob h
  | .br l, sl, ob, h => by simp only [orun] at h; simp only [owp]; exact oruns_sound hR l sl ob h
theorem oruns_sound {P : Prg} {R : Fns} (hR : R.ok P) {Q : Post} {keep pk : List Nat} : ∀ (l : Ots) (sl : Slots) (ob : Objs), (oruns R keep pk l sl ob).to (fun sl ob => Q .normal (keepS sl keep) ob) (fun v sl ob => Q (.panic v) (keepS sl pk) ob) → owps P (fun sl ob => Q .normal (keepS sl keep) ob) (fun v sl ob => Q (.panic v) (keepS sl pk) ob) l sl ob
  | .nil, sl, ob, h => by simp only [owps]
  | .cons _ x r .nil, sl, ob, h => by
    simp only [oruns] at h
    simp only [owps, and_true]
    exact itR_sound hR (fun sl ob h => orun_sound hR r sl ob h) x sl ob (keepQ_to h)
  | .cons _ x r (.cons i y s l), sl, ob, h => by
    simp only [oruns] at h
    rw [owps]
    obtain ⟨h1, h2⟩ := bothR_to h
    exact ⟨itR_sound hR (fun sl ob h => orun_sound hR r sl ob h) x sl ob (keepQ_to h1), oruns_sound hR (.cons i y s l) sl ob h2⟩
end
def S.run (R : Fns) (L : Nat) : S → Slots → Objs → Rs
  | .rg _ l keep pk, sl, ob => match rrun R l sl ob with
    | .ok sl' ob' => some (.normal, keepS sl' keep, ob')
    | .pn v sl' ob' => some (.panic v, keepS sl' pk, ob')
    | .no => none
  | .rgT _ t keep pk, sl, ob => match orun R keep pk t sl ob with
    | .ok sl' ob' => some (.normal, keepS sl' keep, ob')
    | .pn v sl' ob' => some (.panic v, keepS sl' pk, ob')
    | .no => none
  | .seq a b, sl, ob => match S.run R L a sl ob with
    | some (.normal, sl', ob') => S.run R L b sl' ob'
    | r => r
  | .skip, sl, ob => some (.normal, sl, ob)
  | .cond c a b, sl, ob => match c.ev sl with
    | .d (.bool t) => bif t then S.run R L a sl ob else S.run R L b sl ob
    | _ => none
  | .block n a, sl, ob => match S.run R L a sl ob with
    | some (.exit m, sl', ob') => bif decide (m = n) then some (.normal, sl', ob') else some (.exit m, sl', ob')
    | r => r
  | .loop keep a, sl, ob => loopR keep (S.run R L a) L (keepS sl keep) ob
  | .exit n, sl, ob => some (.exit n, sl, ob)
  | .ret, sl, ob => some (.ret, sl, ob)

theorem S.run_sound {P : Prg} {R : Fns} (hR : R.ok P) {L : Nat} : ∀ (s : S) (Q : Post) (sl : Slots) (ob : Objs), (s.run R L sl ob).to Q → cwp P s Q sl ob
  | .rg _ l keep pk, Q, sl, ob, h => by
    simp only [S.run] at h
    simp only [cwp]
    refine rrun_sound hR _ _ _ ?_
    split at h
    · rename_i e; rw [e]; exact h
    · rename_i e; rw [e]; exact h
    · exact h.elim
  | .rgT _ t keep pk, Q, sl, ob, h => by
    simp only [S.run] at h
    simp only [cwp]
    refine orun_sound hR _ _ _ ?_
    split at h
    · rename_i e; rw [e]; exact h
    · rename_i e; rw [e]; exact h
    · exact h.elim
  | .seq a b, Q, sl, ob, h => by
    simp only [S.run] at h
    simp only [cwp]
    refine S.run_sound (L := L) hR a _ sl ob ?_
    split at h
    · rename_i e; rw [e]; exact S.run_sound (L := L) hR b Q _ _ h
    · rename_i hne
      revert h hne
      generalize S.run R L a sl ob = r
      intro hne h
      cases r with
      | none => exact h.elim
      | some x =>
        obtain ⟨e, sl', ob'⟩ := x
        cases e with
        | normal => exact (hne _ _ rfl).elim
        | exit n => exact h
        | ret => exact h
        | panic v => exact h
  | .skip, Q, sl, ob, h => h
  | .cond c a b, Q, sl, ob, h => by
    simp only [S.run] at h
    simp only [cwp]
    split at h
    · rename_i t ht
      rw [ht]
      cases t
      · exact ⟨fun e => (by cases e), fun _ => S.run_sound (L := L) hR b Q sl ob h⟩
      · exact ⟨fun _ => S.run_sound (L := L) hR a Q sl ob h, fun e => (by cases e)⟩
    · exact h.elim
  | .block n a, Q, sl, ob, h => by
    simp only [S.run] at h
    simp only [cwp]
    refine S.run_sound (L := L) hR a _ sl ob ?_
    split at h
    · rename_i m sl' ob' e
      rw [e]
      rw [Bool.cond_eq_ite] at h
      simp only [Rs.to, blockK]
      by_cases hm : m = n
      · simp only [hm, decide_true, if_true] at h ⊢; exact h
      · simp only [hm, decide_false, Bool.false_eq_true, if_false] at h ⊢; exact h
    · rename_i hne
      revert h hne
      generalize S.run R L a sl ob = r
      intro hne h
      cases r with
      | none => exact h.elim
      | some x =>
        obtain ⟨e, sl', ob'⟩ := x
        cases e with
        | normal => exact h
        | exit n => exact (hne _ _ _ rfl).elim
        | ret => exact h
        | panic v => exact h
  | .loop keep a, Q, sl, ob, h => by
    simp only [S.run] at h
    simp only [cwp]
    refine ALoop.of (ι := Nat × Slots × Objs) (fun x => x.2.1) (fun x => x.2.2) (fun x => (loopR keep (S.run R L a) x.1 x.2.1 x.2.2).to Q) (fun x => x.1) (L, keepS sl keep, ob) h rfl rfl ?_
    rintro ⟨n, sl1, ob1⟩ h1
    refine S.run_sound (L := L) hR a _ _ _ ?_
    simp only at h1 ⊢
    cases n with
    | zero => exact h1.elim
    | succ n =>
      simp only [loopR] at h1
      split at h1
      · rename_i sl' ob' e
        rw [e]
        split at h1
        · rename_i sl2 ob2 e2
          unfold subR at e2
          rw [Bool.cond_eq_ite] at e2
          split at e2
          · rename_i hc
            simp only [Bool.and_eq_true] at hc
            cases e2
            exact ⟨_, hc.1, hc.2, (n, _, _), h1, Nat.lt_succ_self n, rfl, rfl⟩
          · cases e2
        · exact h1.elim
      · rename_i hne
        revert h1 hne
        generalize S.run R L a sl1 ob1 = r
        intro hne h1
        cases r with
        | none => exact h1.elim
        | some x =>
          obtain ⟨e, sl', ob'⟩ := x
          cases e with
          | normal => exact (hne _ _ rfl).elim
          | exit n => exact h1
          | ret => exact h1
          | panic v => exact h1
  | .exit n, Q, sl, ob, h => h
  | .ret, Q, sl, ob, h => h
end Go.Ab
