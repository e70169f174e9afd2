/- Texts of this claim joined by a program, part 4 of 7; the last is: Contracts: lex.Text. Condition: the program is the seat's; the powers of ten are laid. -/
import Derived.Test.YtanpgmgkmfckaaaGreatDoorJ3
import Derived.Test.YtanpgmgkmfckaaaGreatDoorProg
import Derived.KernelRfl
import Derived.Shelf.Strings.Builder1
import Derived.Shelf.Strconv.Itoa0
import Derived.Shelf.Strconv.Itoa1
import Derived.Shelf.LaysM
import Derived.Shelf.Strconv.Itoa2
import Derived.Shelf.Strconv.Itoa3
import Derived.Shelf.Strings.Search1
import Derived.Shelf.Strings.Search2
import Derived.Shelf.Strings.Search3
import Derived.Shelf.Strings.Shaped
set_option linter.unusedSimpArgs false
set_option linter.unusedVariables false
set_option linter.unusedSectionVars false
/- Contracts: the parser's readers of parts. Condition: the program is the seat's, and its intervals are laid. -/
namespace Go.Proofs.YtanpgmgkmfckaaaGreatDoor
open Go Go.Ab Go.Lx Go.Sx
set_option maxRecDepth 100000
attribute [local simp ↓] ql qn qo qi qh qj qk qm zs zp zr zt zq zl zm zk zo zn qq qp qw qx zg qy qv qr zh qu qt qs qz zb za zd ze zf zw zu zy zx qb qa qd qc qe qg qf zj zi
structure Ivl (P : Prg) : Prop where
  factors : GlobIs P 0 (.agg [.int .i64 2, .int .i64 1000])
  editions : GlobIs P 1 (.agg [.int .i64 1, .int .i64 255])
  mosts : GlobIs P 2 (.agg [.int .i64 0, .int .i64 32])
  weights : GlobIs P 3 (.agg [.int .i64 0, .int .i64 9])
  anyN : GlobIs P 4 (.agg [.int .i64 0, .int .i64 1048576])
section
variable {P : Prg} (hP : P.p = Tryz.prog)
include hP
theorem y_has (lo hi n : Int) {ob : Objs} {K : V → Prop} (h : K (.d (.bool (decide (lo ≤ n) && decide (n ≤ hi))))) : PCall P 134 [.d (.agg [.int .i64 lo, .int .i64 hi]), .d (.int .i64 n)] ob K := by
  refine pcall_lift hP mixed (ds := [.agg [.int .i64 lo, .int .i64 hi], .int .i64 n]) ok134 lf134 TOk.nil ?_
  simp [lt134]
  simpa using h
variable {ob : Objs} {p : Nat} {ts : List Tok} {en : Int} {S : V} (hS : V.allD [S] = none) (hp : lookO ob p = some (pb ts en S)) {K : Out → Objs → Prop}
include hS hp
theorem y_number (lo hi : Int) (h : PK K ob p en S (fun n => .d (.int .i64 n)) (numberM lo hi ts)) : ACall P 63 [.ptr p [], .d (.agg [.int .i64 lo, .int .i64 hi])] ob K := by
  refine acall_lift hP mixed ok63 lf63 TOk.nil fun _ hm => ?_
  simp [lt63, hp, hS]
  refine y_next hP hS (ts := ts) (en := en) (S := S) (by simp [hp]) _ _ ?_
  cases hn : nextB 2 [] ts with
  | false =>
    simp [numberM, hn] at h
    simp [hp, hS]
    refine y_fail hP hS (ts := ts) (en := en) (S := S) (by simp [hp]) _ ?_
    simp [hp, hS]
    exact leave_p hp hm h (by simp) (by simp [hp])
  | true =>
    cases ts with
    | nil => simp [nextB] at hn
    | cons x ts =>
      simp [hp, hS, Tok.enc]
      refine y_has hP _ _ _ ?_
      by_cases hr : lo ≤ x.n ∧ x.n ≤ hi
      · simp [numberM, hn, hr] at h
        simp [hr, lt63_s0, hp, hS]
        refine y_take hP hS (ts := x :: ts) (en := en) (S := S) (by simp [hp, Tok.enc]) _ _ ?_
        simp [takeM, hn, hp, hS, Tok.enc]
        exact leave_p hp hm h (by simp) (by simp [hp])
      · have hr' : (decide (lo ≤ x.n) && decide (x.n ≤ hi)) = false := by simpa using hr
        simp [numberM, hn, Bool.and_assoc, hr'] at h
        simp only [hr']
        simp [hp, hS]
        refine y_fail hP hS (ts := x :: ts) (en := en) (S := S) (by simp [hp, Tok.enc]) _ ?_
        simp [hp, hS, Tok.enc]
        exact leave_p hp hm h (by simp) (by simp [hp, Tok.enc])
theorem y_path (h : PK K ob p en S (fun x => .tup [.d (.str x.1), .d (.str x.2)]) (pathM ts)) : ACall P 138 [.ptr p []] ob K := by
  refine acall_lift hP mixed ok138 lf138 TOk.nil fun _ hm => ?_
  simp [lt138, hp, hS]
  refine y_name hP hS (by simp [hp]) (PK.bind h (fun ts' e h => ?_) (fun a ts' ha h => ?_))
  · simp
    exact leave_p hp hm h (by simp) (by simp [hp])
  simp [hp, hS]
  refine y_sign hP hS (by simp [hp]) _ (PK.bind h (fun ts' e h => ?_) (fun a ts' ha h => ?_))
  · simp
    exact leave_p hp hm h (by simp) (by simp [hp])
  simp [hp, hS]
  refine y_name hP hS (by simp [hp]) (PK.bind h (fun ts' e h => ?_) (fun a ts' ha h => ?_))
  · simp
    exact leave_p hp hm h (by simp) (by simp [hp])
  simp [hp, hS]
  exact leave_p hp hm h (by simp) (by simp [hp])
theorem y_move (hI : Ivl P) (h : PK K ob p en S (fun x => .d x.enc) (moveM ts)) : ACall P 76 [.ptr p []] ob K := by
  refine acall_lift hP mixed ok76 lf76 TOk.nil fun _ hm => ?_
  simp [lt76, hp, hS, hI.factors, hI.editions, hI.mosts, hI.weights, hI.anyN]
  refine y_name hP hS (by simp [hp]) (PK.bind h (fun ts' e h => ?_) (fun a ts' ha h => ?_))
  · simp
    exact leave_p hp hm h (by simp) (by simp [hp])
  simp [hp, hS, hI.factors, hI.editions, hI.mosts, hI.weights, hI.anyN]
  refine y_sign hP hS (by simp [hp]) _ (PK.bind h (fun ts' e h => ?_) (fun a ts' ha h => ?_))
  · simp
    exact leave_p hp hm h (by simp) (by simp [hp])
  simp [hp, hS, hI.factors, hI.editions, hI.mosts, hI.weights, hI.anyN]
  refine y_name hP hS (by simp [hp]) (PK.bind h (fun ts' e h => ?_) (fun a ts' ha h => ?_))
  · simp
    exact leave_p hp hm h (by simp) (by simp [hp])
  simp [hp, hS, hI.factors, hI.editions, hI.mosts, hI.weights, hI.anyN]
  rw [shiftM, massoc] at h
  refine y_accept hP hS (by simp [hp]) _ _ (PK.bind h (fun ts' e h => ?_) (fun a ts' ha h => ?_))
  · simp
    exact leave_p hp hm h (by simp) (by simp [hp])
  cases a
  · skip
    simp only [Bool.false_eq_true, if_false, if_true, massoc, mpure] at h
    simp [hp, hS, hI.factors, hI.editions, hI.mosts, hI.weights, hI.anyN]
    refine y_accept hP hS (by simp [hp]) _ _ (PK.bind h (fun ts' e h => ?_) (fun a ts' ha h => ?_))
    · simp
      exact leave_p hp hm h (by simp) (by simp [hp])
    cases a
    · skip
      simp only [Bool.false_eq_true, if_false, if_true, massoc, mpure] at h
      simp [hp, hS, hI.factors, hI.editions, hI.mosts, hI.weights, hI.anyN, lt76_s0]
      refine y_sign hP hS (by simp [hp]) _ (PK.bind h (fun ts' e h => ?_) (fun a ts' ha h => ?_))
      · simp
        exact leave_p hp hm h (by simp) (by simp [hp])
      simp [hp, hS, hI.factors, hI.editions, hI.mosts, hI.weights, hI.anyN]
      exact leave_p hp hm h (by simp) (by simp [hp])
    · skip
      simp only [Bool.false_eq_true, if_false, if_true, massoc, mpure] at h
      simp [hp, hS, hI.factors, hI.editions, hI.mosts, hI.weights, hI.anyN]
      refine y_number hP hS (by simp [hp]) _ _ (PK.bind h (fun ts' e h => ?_) (fun a ts' ha h => ?_))
      · simp
        exact leave_p hp hm h (by simp) (by simp [hp])
      simp [hp, hS, hI.factors, hI.editions, hI.mosts, hI.weights, hI.anyN, lt76_s0]
      have hw : IntKind.i64.wrap (-a) = -a := by have := numberM_ok ha; exact IntWalk.i64_in _ (by omega)
      simp only [hw]
      refine y_sign hP hS (by simp [hp]) _ (PK.bind h (fun ts' e h => ?_) (fun a ts' ha h => ?_))
      · simp
        exact leave_p hp hm h (by simp) (by simp [hp])
      simp [hp, hS, hI.factors, hI.editions, hI.mosts, hI.weights, hI.anyN]
      exact leave_p hp hm h (by simp) (by simp [hp])
  · skip
    simp only [Bool.false_eq_true, if_false, if_true, massoc, mpure] at h
    simp [hp, hS, hI.factors, hI.editions, hI.mosts, hI.weights, hI.anyN]
    refine y_number hP hS (by simp [hp]) _ _ (PK.bind h (fun ts' e h => ?_) (fun a ts' ha h => ?_))
    · simp
      exact leave_p hp hm h (by simp) (by simp [hp])
    simp [hp, hS, hI.factors, hI.editions, hI.mosts, hI.weights, hI.anyN, lt76_s0]
    refine y_sign hP hS (by simp [hp]) _ (PK.bind h (fun ts' e h => ?_) (fun a ts' ha h => ?_))
    · simp
      exact leave_p hp hm h (by simp) (by simp [hp])
    simp [hp, hS, hI.factors, hI.editions, hI.mosts, hI.weights, hI.anyN]
    exact leave_p hp hm h (by simp) (by simp [hp])
theorem y_may (h : PK K ob p en S (fun x => .d x.enc) (mayM ts)) : ACall P 78 [.ptr p []] ob K := by
  refine acall_lift hP mixed ok78 lf78 TOk.nil fun _ hm => ?_
  simp [lt78, hp, hS]
  refine y_word hP hS (by simp [hp]) _ (PK.bind h (fun ts' e h => ?_) (fun a ts' ha h => ?_))
  · simp
    exact leave_p hp hm h (by simp) (by simp [hp])
  simp [hp, hS]
  refine y_path hP hS (by simp [hp]) (PK.bind h (fun ts' e h => ?_) (fun a ts' ha h => ?_))
  · simp
    exact leave_p hp hm h (by simp) (by simp [hp])
  simp [hp, hS]
  refine y_sign hP hS (by simp [hp]) _ (PK.bind h (fun ts' e h => ?_) (fun a ts' ha h => ?_))
  · simp
    exact leave_p hp hm h (by simp) (by simp [hp])
  simp [hp, hS]
  exact leave_p hp hm h (by simp) (by simp [hp])
theorem y_from (h : PK K ob p en S (fun x => .d x.enc) (fromM ts)) : ACall P 70 [.ptr p []] ob K := by
  refine acall_lift hP mixed ok70 lf70 TOk.nil fun _ hm => ?_
  simp [lt70, hp, hS]
  refine y_word hP hS (by simp [hp]) _ (PK.bind h (fun ts' e h => ?_) (fun a ts' ha h => ?_))
  · simp
    exact leave_p hp hm h (by simp) (by simp [hp])
  simp [hp, hS]
  refine y_name hP hS (by simp [hp]) (PK.bind h (fun ts' e h => ?_) (fun a ts' ha h => ?_))
  · simp
    exact leave_p hp hm h (by simp) (by simp [hp])
  simp [hp, hS]
  refine y_name hP hS (by simp [hp]) (PK.bind h (fun ts' e h => ?_) (fun a ts' ha h => ?_))
  · simp
    exact leave_p hp hm h (by simp) (by simp [hp])
  simp [hp, hS]
  refine y_accept hP hS (by simp [hp]) _ _ (PK.bind h (fun ts' e h => ?_) (fun a ts' ha h => ?_))
  · simp
    exact leave_p hp hm h (by simp) (by simp [hp])
  cases a
  · skip
    simp only [Bool.false_eq_true, if_false, if_true, massoc, mpure] at h
    simp [hp, hS, lt70_s0]
    refine y_sign hP hS (by simp [hp]) _ (PK.bind h (fun ts' e h => ?_) (fun a ts' ha h => ?_))
    · simp
      exact leave_p hp hm h (by simp) (by simp [hp])
    simp [hp, hS]
    exact leave_p hp hm h (by simp) (by simp [hp])
  · skip
    simp only [Bool.false_eq_true, if_false, if_true, massoc, mpure] at h
    simp [hp, hS]
    refine y_path hP hS (by simp [hp]) (PK.bind h (fun ts' e h => ?_) (fun a ts' ha h => ?_))
    · simp
      exact leave_p hp hm h (by simp) (by simp [hp])
    simp [hp, hS, lt70_s0]
    refine y_sign hP hS (by simp [hp]) _ (PK.bind h (fun ts' e h => ?_) (fun a ts' ha h => ?_))
    · simp
      exact leave_p hp hm h (by simp) (by simp [hp])
    simp [hp, hS]
    exact leave_p hp hm h (by simp) (by simp [hp])
end
end Go.Proofs.YtanpgmgkmfckaaaGreatDoor
/- Contracts: terms, comparisons, weights. Condition: the program is the seat's, and its intervals are laid. -/
namespace Go.Proofs.YtanpgmgkmfckaaaGreatDoor
open Go Go.Ab Go.Lx Go.Sx
set_option maxRecDepth 100000
attribute [local simp ↓] ql qn qo qi qh qj qk qm zs zp zr zt zq zl zm zk zo zn qq qp qw qx zg qy qv qr zh qu qt qs qz zb za zd ze zf zw zu zy zx qb qa qd qc qe qg qf zj zi
section
variable {P : Prg} (hP : P.p = Tryz.prog) {ob : Objs} {p : Nat} {ts : List Tok} {en : Int} {S : V} (hS : V.allD [S] = none) (hp : lookO ob p = some (pb ts en S)) {K : Out → Objs → Prop}
include hP hS hp
theorem y_term (hI : Ivl P) (h : PK K ob p en S (fun x => .d x.enc) (termM ts)) : ACall P 139 [.ptr p []] ob K := by
  refine acall_lift hP mixed ok139 lf139 TOk.nil fun _ hm => ?_
  simp [lt139, hp, hS, hI.factors, hI.editions, hI.mosts, hI.weights, hI.anyN]
  refine y_next hP hS (ts := ts) (en := en) (S := S) (by simp [hp]) _ _ ?_
  cases hn : nextB 2 [] ts with
  | false =>
    simp only [termM, hn, Bool.false_eq_true, if_false] at h
    simp [hp, hS, hI.anyN]
    refine y_path hP hS (by simp [hp]) (PK.bind h (fun ts' e h => ?_) (fun a ts' ha h => ?_))
    · simp
      exact leave_p hp hm h (by simp) (by simp [hp])
    simp [hp, hS, hI.factors, hI.editions, hI.mosts, hI.weights, hI.anyN]
    exact leave_p hp hm h (by simp) (by simp [hp])
  | true =>
    simp only [termM, hn, if_true] at h
    simp [hp, hS, hI.anyN]
    refine y_number hP hS (by simp [hp]) _ _ (PK.bind h (fun ts' e h => ?_) (fun a ts' ha h => ?_))
    · simp
      exact leave_p hp hm h (by simp) (by simp [hp])
    simp [hp, hS, hI.factors, hI.editions, hI.mosts, hI.weights, hI.anyN]
    exact leave_p hp hm h (by simp) (by simp [hp])
theorem y_where (hI : Ivl P) (h : PK K ob p en S (fun x => .d x.enc) (whereM ts)) : ACall P 72 [.ptr p []] ob K := by
  refine acall_lift hP mixed ok72 lf72 TOk.nil fun _ hm => ?_
  simp [lt72, hp, hS, hI.factors, hI.editions, hI.mosts, hI.weights, hI.anyN]
  refine y_word hP hS (by simp [hp]) _ (PK.bind h (fun ts' e h => ?_) (fun a ts' ha h => ?_))
  · simp
    exact leave_p hp hm h (by simp) (by simp [hp])
  simp [hp, hS, hI.factors, hI.editions, hI.mosts, hI.weights, hI.anyN]
  refine y_term hP hS (by simp [hp]) hI (PK.bind h (fun ts' e h => ?_) (fun a ts' ha h => ?_))
  · simp
    exact leave_p hp hm h (by simp) (by simp [hp])
  simp [hp, hS, hI.factors, hI.editions, hI.mosts, hI.weights, hI.anyN]
  rw [opM, massoc] at h
  refine y_accept hP hS (by simp [hp]) _ _ (PK.bind h (fun ts' e h => ?_) (fun a ts' ha h => ?_))
  · simp
    exact leave_p hp hm h (by simp) (by simp [hp])
  cases a
  · skip
    simp only [Bool.false_eq_true, if_false, if_true, massoc, mpure] at h
    simp [hp, hS, hI.factors, hI.editions, hI.mosts, hI.weights, hI.anyN]
    refine y_accept hP hS (by simp [hp]) _ _ (PK.bind h (fun ts' e h => ?_) (fun a ts' ha h => ?_))
    · simp
      exact leave_p hp hm h (by simp) (by simp [hp])
    cases a
    · skip
      simp only [Bool.false_eq_true, if_false, if_true, massoc, mpure] at h
      simp [hp, hS, hI.factors, hI.editions, hI.mosts, hI.weights, hI.anyN]
      refine y_sign hP hS (by simp [hp]) _ (PK.bind h (fun ts' e h => ?_) (fun a ts' ha h => ?_))
      · simp
        exact leave_p hp hm h (by simp) (by simp [hp])
      simp [hp, hS, hI.factors, hI.editions, hI.mosts, hI.weights, hI.anyN]
      refine y_sign hP hS (by simp [hp]) _ (PK.bind h (fun ts' e h => ?_) (fun a ts' ha h => ?_))
      · simp
        exact leave_p hp hm h (by simp) (by simp [hp])
      simp [hp, hS, hI.factors, hI.editions, hI.mosts, hI.weights, hI.anyN, lt72_s0]
      refine y_term hP hS (by simp [hp]) hI (PK.bind h (fun ts' e h => ?_) (fun a ts' ha h => ?_))
      · simp
        exact leave_p hp hm h (by simp) (by simp [hp])
      simp [hp, hS, hI.factors, hI.editions, hI.mosts, hI.weights, hI.anyN]
      refine y_sign hP hS (by simp [hp]) _ (PK.bind h (fun ts' e h => ?_) (fun a ts' ha h => ?_))
      · simp
        exact leave_p hp hm h (by simp) (by simp [hp])
      simp [hp, hS, hI.factors, hI.editions, hI.mosts, hI.weights, hI.anyN]
      exact leave_p hp hm h (by simp) (by simp [hp])
    · skip
      simp only [Bool.false_eq_true, if_false, if_true, massoc, mpure] at h
      simp [hp, hS, hI.factors, hI.editions, hI.mosts, hI.weights, hI.anyN]
      refine y_accept hP hS (by simp [hp]) _ _ (PK.bind h (fun ts' e h => ?_) (fun a ts' ha h => ?_))
      · simp
        exact leave_p hp hm h (by simp) (by simp [hp])
      cases a
      · skip
        simp only [Bool.false_eq_true, if_false, if_true, massoc, mpure] at h
        simp [hp, hS, hI.factors, hI.editions, hI.mosts, hI.weights, hI.anyN, lt72_s0]
        refine y_term hP hS (by simp [hp]) hI (PK.bind h (fun ts' e h => ?_) (fun a ts' ha h => ?_))
        · simp
          exact leave_p hp hm h (by simp) (by simp [hp])
        simp [hp, hS, hI.factors, hI.editions, hI.mosts, hI.weights, hI.anyN]
        refine y_sign hP hS (by simp [hp]) _ (PK.bind h (fun ts' e h => ?_) (fun a ts' ha h => ?_))
        · simp
          exact leave_p hp hm h (by simp) (by simp [hp])
        simp [hp, hS, hI.factors, hI.editions, hI.mosts, hI.weights, hI.anyN]
        exact leave_p hp hm h (by simp) (by simp [hp])
      · skip
        simp only [Bool.false_eq_true, if_false, if_true, massoc, mpure] at h
        simp [hp, hS, hI.factors, hI.editions, hI.mosts, hI.weights, hI.anyN, lt72_s0]
        refine y_term hP hS (by simp [hp]) hI (PK.bind h (fun ts' e h => ?_) (fun a ts' ha h => ?_))
        · simp
          exact leave_p hp hm h (by simp) (by simp [hp])
        simp [hp, hS, hI.factors, hI.editions, hI.mosts, hI.weights, hI.anyN]
        refine y_sign hP hS (by simp [hp]) _ (PK.bind h (fun ts' e h => ?_) (fun a ts' ha h => ?_))
        · simp
          exact leave_p hp hm h (by simp) (by simp [hp])
        simp [hp, hS, hI.factors, hI.editions, hI.mosts, hI.weights, hI.anyN]
        exact leave_p hp hm h (by simp) (by simp [hp])
  · skip
    simp only [Bool.false_eq_true, if_false, if_true, massoc, mpure] at h
    simp [hp, hS, hI.factors, hI.editions, hI.mosts, hI.weights, hI.anyN, lt72_s0]
    refine y_term hP hS (by simp [hp]) hI (PK.bind h (fun ts' e h => ?_) (fun a ts' ha h => ?_))
    · simp
      exact leave_p hp hm h (by simp) (by simp [hp])
    simp [hp, hS, hI.factors, hI.editions, hI.mosts, hI.weights, hI.anyN]
    refine y_sign hP hS (by simp [hp]) _ (PK.bind h (fun ts' e h => ?_) (fun a ts' ha h => ?_))
    · simp
      exact leave_p hp hm h (by simp) (by simp [hp])
    simp [hp, hS, hI.factors, hI.editions, hI.mosts, hI.weights, hI.anyN]
    exact leave_p hp hm h (by simp) (by simp [hp])
theorem y_set (hI : Ivl P) (h : PK K ob p en S (fun x => .d x.enc) (setM ts)) : ACall P 74 [.ptr p []] ob K := by
  refine acall_lift hP mixed ok74 lf74 TOk.nil fun _ hm => ?_
  simp [lt74, hp, hS, hI.factors, hI.editions, hI.mosts, hI.weights, hI.anyN]
  refine y_word hP hS (by simp [hp]) _ (PK.bind h (fun ts' e h => ?_) (fun a ts' ha h => ?_))
  · simp
    exact leave_p hp hm h (by simp) (by simp [hp])
  simp [hp, hS, hI.factors, hI.editions, hI.mosts, hI.weights, hI.anyN]
  refine y_name hP hS (by simp [hp]) (PK.bind h (fun ts' e h => ?_) (fun a ts' ha h => ?_))
  · simp
    exact leave_p hp hm h (by simp) (by simp [hp])
  simp [hp, hS, hI.factors, hI.editions, hI.mosts, hI.weights, hI.anyN]
  refine y_sign hP hS (by simp [hp]) _ (PK.bind h (fun ts' e h => ?_) (fun a ts' ha h => ?_))
  · simp
    exact leave_p hp hm h (by simp) (by simp [hp])
  simp [hp, hS, hI.factors, hI.editions, hI.mosts, hI.weights, hI.anyN]
  refine y_term hP hS (by simp [hp]) hI (PK.bind h (fun ts' e h => ?_) (fun a ts' ha h => ?_))
  · simp
    exact leave_p hp hm h (by simp) (by simp [hp])
  simp [hp, hS, hI.factors, hI.editions, hI.mosts, hI.weights, hI.anyN]
  refine y_sign hP hS (by simp [hp]) _ (PK.bind h (fun ts' e h => ?_) (fun a ts' ha h => ?_))
  · simp
    exact leave_p hp hm h (by simp) (by simp [hp])
  simp [hp, hS, hI.factors, hI.editions, hI.mosts, hI.weights, hI.anyN]
  exact leave_p hp hm h (by simp) (by simp [hp])
theorem y_weights (hI : Ivl P) (h : PK K ob p en S (fun l => .d (.agg (l.map iD))) (weightsM ts)) : ACall P 64 [.ptr p []] ob K := by
  refine acall_lift hP mixed ok64 lf64 TOk.nil fun _ hm => ?_
  simp [lt64, hp, hS]
  refine ALoop.go (ι := List Int × List Tok) (fun j => [(0, .ptr p []), (2, .ptr (fresh ob) []), (4, .d (.int .i64 j.1.length))])
    (fun j => (fresh ob, .box 91 (.d (.agg (j.1.map iD ++ List.replicate (4 - j.1.length) (iD 0))))) :: setO ob p (pb j.2 en S))
    (fun j => j.1.length ≤ 4 ∧ PK K ob p en S (fun l => .d (.agg (l.map iD))) ((repM (4 - j.1.length) >>= fun l => pure (j.1 ++ l)) j.2)) (fun j => 4 - j.1.length) ([], ts) ⟨by simp, ?_⟩ (by simp) (by simp [setO_self hp]) ?_
  · simp only [weightsM] at h
    simp only [List.length_nil, Nat.sub_zero, List.nil_append]
    rw [bind_eq]
    cases hr : repM 4 ts with
    | ok a ts' => rw [hr] at h; exact h
    | err ts' e => rw [hr] at h; exact h
  rintro ⟨l, ts1⟩ ⟨hl, h⟩ R rn re rr rp
  have w1 : IntKind.i64.wrap 1 = 1 := by decide
  have w2 : IntKind.i64.wrap 2 = 2 := by decide
  have w3 : IntKind.i64.wrap 3 = 3 := by decide
  have w4 : IntKind.i64.wrap 4 = 4 := by decide
  match l, hl with
  | [], _ =>
    simp [lt64_l0, hp, hS, hI.weights]
    simp [repM, massoc, mpure] at h
    refine y_number hP hS (by simp [hp]) _ _ (PK.bind h (fun ts' e h => ?_) (fun a ts' ha h => ?_))
    · simp
      refine rp _ _ _ ?_
      simp
      exact leave_p hp hm h (by simp) (by simp [hp])
    simp [hp, hS, w1, w2, w3, w4]
    refine rn [] ([a], ts') _ _ ⟨by simp, by simpa [repM, massoc, mpure] using h⟩ (by simp) (by simp) (by simp [hp]) (by simp [hp]) ?_
    simp
    refine noMenO_set_box _ _ _ _ _ (noMenO_up_add _ hm) ?_
    have := men_look (noMenO_up_add 1 (l := []) hm) hp
    simpa [pv] using this
  | [a0], _ =>
    simp [lt64_l0, hp, hS, hI.weights]
    simp [repM, massoc, mpure] at h
    refine y_number hP hS (by simp [hp]) _ _ (PK.bind h (fun ts' e h => ?_) (fun a ts' ha h => ?_))
    · simp
      refine rp _ _ _ ?_
      simp
      exact leave_p hp hm h (by simp) (by simp [hp])
    simp [hp, hS, w1, w2, w3, w4]
    refine rn [] ([a0, a], ts') _ _ ⟨by simp, by simpa [repM, massoc, mpure] using h⟩ (by simp) (by simp) (by simp [hp]) (by simp [hp]) ?_
    simp
    refine noMenO_set_box _ _ _ _ _ (noMenO_up_add _ hm) ?_
    have := men_look (noMenO_up_add 1 (l := []) hm) hp
    simpa [pv] using this
  | [a0, b0], _ =>
    simp [lt64_l0, hp, hS, hI.weights]
    simp [repM, massoc, mpure] at h
    refine y_number hP hS (by simp [hp]) _ _ (PK.bind h (fun ts' e h => ?_) (fun a ts' ha h => ?_))
    · simp
      refine rp _ _ _ ?_
      simp
      exact leave_p hp hm h (by simp) (by simp [hp])
    simp [hp, hS, w1, w2, w3, w4]
    refine rn [] ([a0, b0, a], ts') _ _ ⟨by simp, by simpa [repM, massoc, mpure] using h⟩ (by simp) (by simp) (by simp [hp]) (by simp [hp]) ?_
    simp
    refine noMenO_set_box _ _ _ _ _ (noMenO_up_add _ hm) ?_
    have := men_look (noMenO_up_add 1 (l := []) hm) hp
    simpa [pv] using this
  | [a0, b0, c0], _ =>
    simp [lt64_l0, hp, hS, hI.weights]
    simp [repM, massoc, mpure] at h
    refine y_number hP hS (by simp [hp]) _ _ (PK.bind h (fun ts' e h => ?_) (fun a ts' ha h => ?_))
    · simp
      refine rp _ _ _ ?_
      simp
      exact leave_p hp hm h (by simp) (by simp [hp])
    simp [hp, hS, w1, w2, w3, w4]
    refine rn [] ([a0, b0, c0, a], ts') _ _ ⟨by simp, by simpa [repM, massoc, mpure] using h⟩ (by simp) (by simp) (by simp [hp]) (by simp [hp]) ?_
    simp
    refine noMenO_set_box _ _ _ _ _ (noMenO_up_add _ hm) ?_
    have := men_look (noMenO_up_add 1 (l := []) hm) hp
    simpa [pv] using this
  | [a0, b0, c0, d0], _ =>
    simp [lt64_l0, hp, hS]
    simp [repM, massoc, mpure] at h
    refine re _ _ _ ?_
    simp [hp, hS]
    exact leave_p hp hm h (by simp) (by simp [hp])
  | _ :: _ :: _ :: _ :: _ :: _, hl => simp at hl
end
end Go.Proofs.YtanpgmgkmfckaaaGreatDoor
/- Contracts: the parser's lists. Condition: the program is the seat's. -/
namespace Go.Proofs.YtanpgmgkmfckaaaGreatDoor
open Go Go.Ab Go.Lx Go.Sx
set_option maxRecDepth 100000
attribute [local simp ↓] ql qn qo qi qh qj qk qm zs zp zr zt zq zl zm zk zo zn qq qp qw qx zg qy qv qr zh qu qt qs qz zb za zd ze zf zw zu zy zx qb qa qd qc qe qg qf zj zi
section
variable {P : Prg} (hP : P.p = Tryz.prog) {ob : Objs} {p : Nat} {ts : List Tok} {en : Int} {S : V} (hS : V.allD [S] = none) (hp : lookO ob p = some (pb ts en S)) {K : Out → Objs → Prop}
include hP hS hp
omit hS in
theorem y_begins (t : B) (x : Nat) (hx : fresh ob = x) (h : K (.ret (.fn 137 [] [.ptr x [], .ptr (x + 1) []])) ((x + 1, .box 9 (.d (.str t))) :: (x, .box 63 (.ptr p [])) :: ob)) : ACall P 69 [.ptr p [], .d (.str t)] ob K := by
  subst hx
  refine acall_lift hP mixed ok69 lf69 TOk.nil fun _ hm => ?_
  simp [lt69, hp]
  refine ⟨[fresh ob, fresh ob + 1], by simp [young], ?_, ?_⟩
  · have := look_lt hp
    simp [young, hp, hm, this]
  · simpa [young, hp] using h
theorem y_begins1 {t : B} {b1 b2 : Nat} (h1 : lookO ob b1 = some (.box 63 (.ptr p []))) (h2 : lookO ob b2 = some (.box 9 (.d (.str t)))) (h : K (.ret (.d (.bool (nextB 1 t ts)))) (setO ob p (pb ts en S))) : ACall P 137 [.ptr b1 [], .ptr b2 []] ob K := by
  refine acall_lift hP mixed ok137 lf137 TOk.nil fun _ hm => ?_
  simp [lt137, hp, h1, h2]
  refine y_next hP hS hp _ _ ?_
  simp [hp]
  exact leave_p hp hm h (by simp) (by simp [hp])
theorem y_listF {α : Type} {enc : α → D} (hsh : ∀ a, (enc a).shape = .node [.leaf, .leaf, .leaf, .node [.leaf, .leaf, .leaf, .leaf, .leaf]]) (begins : List Tok → Bool) (read : M α) (most : Nat) (hmost : most ≤ 1000) (bf rf : Nat) (bfi bca rfi rca : List V) (hbc : callable P.p bf = true) (hrc : callable P.p rf = true)
    (x : Nat) (hx : fresh ob = x) (hb : ∀ (ts : List Tok) (o : Ob) (K : Out → Objs → Prop), K (.ret (.d (.bool (begins ts)))) ((x, o) :: setO ob p (pb ts en S)) → ACall P bf (bfi ++ bca) ((x, o) :: setO ob p (pb ts en S)) K)
    (hr : ∀ (ts : List Tok) (o : Ob) (K : Out → Objs → Prop), PK K ((x, o) :: setO ob p (pb ts en S)) p en S (fun a => .d (enc a)) (read ts) → ACall P rf (rfi ++ rca) ((x, o) :: setO ob p (pb ts en S)) K)
    (h : PK K ob p en S (fun l => .d (.list 8 (l.map enc))) (listM begins read most ts)) : ACall P 68 [.ptr p [], .d (.int .i64 most), .fn bf bfi bca, .fn rf rfi rca] ob K := by
  subst hx
  refine acall_lift hP mixed ok68 lf68 TOk.nil fun hv hm => ?_
  have hv1 := V.mens_mono (p := young (fresh ob + 1) []) (q := young (fresh ob) []) (fun j e => by simp [young] at e ⊢; omega) _ (hv [])
  simp at hv1
  simp [lt68, hp, hS]
  refine ALoop.go (ι := List α × List Tok) (fun j => [(0, .ptr p []), (1, .d (.int .i64 most)), (2, .fn bf bfi bca), (3, .fn rf rfi rca), (8, .sl (fresh ob) j.1.length)])
    (fun j => (fresh ob, .arr 54 8 (j.1.map enc)) :: setO ob p (pb j.2 en S))
    (fun j => j.1.length ≤ most ∧ PK K ob p en S (fun l => .d (.list 8 (l.map enc))) ((listM begins read (most - j.1.length) >>= fun l => pure (j.1 ++ l)) j.2)) (fun j => most - j.1.length) ([], ts) ⟨by simp, ?_⟩ (by simp) (by simp [setO_self hp]) ?_
  · simp only [List.length_nil, Nat.sub_zero, List.nil_append]
    rw [bind_eq]
    cases hr : listM begins read most ts with
    | ok a ts' => rw [hr] at h; exact h
    | err ts' e => rw [hr] at h; exact h
  rintro ⟨l, ts1⟩ ⟨hl, h⟩ R rn re rr rp
  dsimp only at hl h rn
  simp [lt68_l1, hp, hS, hbc]
  refine hb _ _ _ ?_
  cases hbg : begins ts1 with
  | false =>
    simp [hp, hS]
    refine re _ _ _ ?_
    have h' : PK K ob p en S (fun l => .d (.list 8 (l.map enc))) (.ok l ts1) := by
      rw [bind_eq] at h
      cases hn : most - l.length <;> simpa [hn, listM, hbg] using h
    simp [hp, hS]
    exact leave_p hp hm h' (by simp) (by simp [hp])
  | true =>
    by_cases he : l.length = most
    · simp [he, listM, hbg, bind_eq] at h
      simp [hp, hS, he]
      refine y_fail hP hS (ts := ts1) (en := en) (S := S) (by simp [hp]) _ ?_
      simp [hp]
      refine rp _ _ _ ?_
      simp
      exact leave_p hp hm h (by simp) (by simp [hp])
    · have hne : ¬ ((l.length : Int) = most) := by omega
      obtain ⟨n, hn⟩ : ∃ n, most - l.length = n + 1 := ⟨most - l.length - 1, by omega⟩
      simp only [hn] at h
      simp only [bind_eq, listM, hbg, if_true] at h
      simp [hp, hS, hne, hrc, lt68_s0]
      refine hr _ _ _ ?_
      cases ha : read ts1 with
      | err ts' e =>
        simp only [ha] at h
        simp
        refine rp _ _ _ ?_
        simp
        exact leave_p hp hm h (by simp) (by simp [hp])
      | ok a ts' =>
        simp only [ha] at h
        simp [hp, hS, hsh]
        refine ⟨by omega, ?_⟩
        refine rn [] (l ++ [a], ts') _ _ ⟨by simp; omega, ?_⟩ (by simp; omega) (by simp) (by simp [hp]) (by simp [hp, hv1]) ?_
        · simp only [List.length_append, List.length_singleton, show most - (l.length + 1) = n by omega]
          rw [bind_eq]
          cases hl2 : listM begins read n ts' with
          | err ts2 e => simp only [hl2] at h; exact h
          | ok l2 ts2 => simp only [hl2] at h; simpa using h
        · simp
          refine noMenO_set_box _ _ _ _ _ (noMenO_up_add _ hm) ?_
          have := men_look (noMenO_up_add 1 (l := []) hm) hp
          simpa [pv] using this
theorem y_listA {α : Type} {enc : α → D} (hsh : ∀ a, (enc a).shape = .node [.leaf, .node [.leaf, .leaf, .leaf, .leaf, .leaf], .node [.leaf, .leaf, .leaf, .leaf, .leaf]]) (begins : List Tok → Bool) (read : M α) (most : Nat) (hmost : most ≤ 1000) (bf rf : Nat) (bfi bca rfi rca : List V) (hbc : callable P.p bf = true) (hrc : callable P.p rf = true)
    (x : Nat) (hx : fresh ob = x) (hb : ∀ (ts : List Tok) (o : Ob) (K : Out → Objs → Prop), K (.ret (.d (.bool (begins ts)))) ((x, o) :: setO ob p (pb ts en S)) → ACall P bf (bfi ++ bca) ((x, o) :: setO ob p (pb ts en S)) K)
    (hr : ∀ (ts : List Tok) (o : Ob) (K : Out → Objs → Prop), PK K ((x, o) :: setO ob p (pb ts en S)) p en S (fun a => .d (enc a)) (read ts) → ACall P rf (rfi ++ rca) ((x, o) :: setO ob p (pb ts en S)) K)
    (h : PK K ob p en S (fun l => .d (.list 11 (l.map enc))) (listM begins read most ts)) : ACall P 71 [.ptr p [], .d (.int .i64 most), .fn bf bfi bca, .fn rf rfi rca] ob K := by
  subst hx
  refine acall_lift hP mixed ok71 lf71 TOk.nil fun hv hm => ?_
  have hv1 := V.mens_mono (p := young (fresh ob + 1) []) (q := young (fresh ob) []) (fun j e => by simp [young] at e ⊢; omega) _ (hv [])
  simp at hv1
  simp [lt71, hp, hS]
  refine ALoop.go (ι := List α × List Tok) (fun j => [(0, .ptr p []), (1, .d (.int .i64 most)), (2, .fn bf bfi bca), (3, .fn rf rfi rca), (8, .sl (fresh ob) j.1.length)])
    (fun j => (fresh ob, .arr 56 11 (j.1.map enc)) :: setO ob p (pb j.2 en S))
    (fun j => j.1.length ≤ most ∧ PK K ob p en S (fun l => .d (.list 11 (l.map enc))) ((listM begins read (most - j.1.length) >>= fun l => pure (j.1 ++ l)) j.2)) (fun j => most - j.1.length) ([], ts) ⟨by simp, ?_⟩ (by simp) (by simp [setO_self hp]) ?_
  · simp only [List.length_nil, Nat.sub_zero, List.nil_append]
    rw [bind_eq]
    cases hr : listM begins read most ts with
    | ok a ts' => rw [hr] at h; exact h
    | err ts' e => rw [hr] at h; exact h
  rintro ⟨l, ts1⟩ ⟨hl, h⟩ R rn re rr rp
  dsimp only at hl h rn
  simp [lt71_l1, hp, hS, hbc]
  refine hb _ _ _ ?_
  cases hbg : begins ts1 with
  | false =>
    simp [hp, hS]
    refine re _ _ _ ?_
    have h' : PK K ob p en S (fun l => .d (.list 11 (l.map enc))) (.ok l ts1) := by
      rw [bind_eq] at h
      cases hn : most - l.length <;> simpa [hn, listM, hbg] using h
    simp [hp, hS]
    exact leave_p hp hm h' (by simp) (by simp [hp])
  | true =>
    by_cases he : l.length = most
    · simp [he, listM, hbg, bind_eq] at h
      simp [hp, hS, he]
      refine y_fail hP hS (ts := ts1) (en := en) (S := S) (by simp [hp]) _ ?_
      simp [hp]
      refine rp _ _ _ ?_
      simp
      exact leave_p hp hm h (by simp) (by simp [hp])
    · have hne : ¬ ((l.length : Int) = most) := by omega
      obtain ⟨n, hn⟩ : ∃ n, most - l.length = n + 1 := ⟨most - l.length - 1, by omega⟩
      simp only [hn] at h
      simp only [bind_eq, listM, hbg, if_true] at h
      simp [hp, hS, hne, hrc, lt71_s0]
      refine hr _ _ _ ?_
      cases ha : read ts1 with
      | err ts' e =>
        simp only [ha] at h
        simp
        refine rp _ _ _ ?_
        simp
        exact leave_p hp hm h (by simp) (by simp [hp])
      | ok a ts' =>
        simp only [ha] at h
        simp [hp, hS, hsh]
        refine ⟨by omega, ?_⟩
        refine rn [] (l ++ [a], ts') _ _ ⟨by simp; omega, ?_⟩ (by simp; omega) (by simp) (by simp [hp]) (by simp [hp, hv1]) ?_
        · simp only [List.length_append, List.length_singleton, show most - (l.length + 1) = n by omega]
          rw [bind_eq]
          cases hl2 : listM begins read n ts' with
          | err ts2 e => simp only [hl2] at h; exact h
          | ok l2 ts2 => simp only [hl2] at h; simpa using h
        · simp
          refine noMenO_set_box _ _ _ _ _ (noMenO_up_add _ hm) ?_
          have := men_look (noMenO_up_add 1 (l := []) hm) hp
          simpa [pv] using this
theorem y_listS {α : Type} {enc : α → D} (hsh : ∀ a, (enc a).shape = .node [.leaf, .leaf, .node [.leaf, .leaf, .leaf, .leaf, .leaf]]) (begins : List Tok → Bool) (read : M α) (most : Nat) (hmost : most ≤ 1000) (bf rf : Nat) (bfi bca rfi rca : List V) (hbc : callable P.p bf = true) (hrc : callable P.p rf = true)
    (x : Nat) (hx : fresh ob = x) (hb : ∀ (ts : List Tok) (o : Ob) (K : Out → Objs → Prop), K (.ret (.d (.bool (begins ts)))) ((x, o) :: setO ob p (pb ts en S)) → ACall P bf (bfi ++ bca) ((x, o) :: setO ob p (pb ts en S)) K)
    (hr : ∀ (ts : List Tok) (o : Ob) (K : Out → Objs → Prop), PK K ((x, o) :: setO ob p (pb ts en S)) p en S (fun a => .d (enc a)) (read ts) → ACall P rf (rfi ++ rca) ((x, o) :: setO ob p (pb ts en S)) K)
    (h : PK K ob p en S (fun l => .d (.list 7 (l.map enc))) (listM begins read most ts)) : ACall P 73 [.ptr p [], .d (.int .i64 most), .fn bf bfi bca, .fn rf rfi rca] ob K := by
  subst hx
  refine acall_lift hP mixed ok73 lf73 TOk.nil fun hv hm => ?_
  have hv1 := V.mens_mono (p := young (fresh ob + 1) []) (q := young (fresh ob) []) (fun j e => by simp [young] at e ⊢; omega) _ (hv [])
  simp at hv1
  simp [lt73, hp, hS]
  refine ALoop.go (ι := List α × List Tok) (fun j => [(0, .ptr p []), (1, .d (.int .i64 most)), (2, .fn bf bfi bca), (3, .fn rf rfi rca), (8, .sl (fresh ob) j.1.length)])
    (fun j => (fresh ob, .arr 58 7 (j.1.map enc)) :: setO ob p (pb j.2 en S))
    (fun j => j.1.length ≤ most ∧ PK K ob p en S (fun l => .d (.list 7 (l.map enc))) ((listM begins read (most - j.1.length) >>= fun l => pure (j.1 ++ l)) j.2)) (fun j => most - j.1.length) ([], ts) ⟨by simp, ?_⟩ (by simp) (by simp [setO_self hp]) ?_
  · simp only [List.length_nil, Nat.sub_zero, List.nil_append]
    rw [bind_eq]
    cases hr : listM begins read most ts with
    | ok a ts' => rw [hr] at h; exact h
    | err ts' e => rw [hr] at h; exact h
  rintro ⟨l, ts1⟩ ⟨hl, h⟩ R rn re rr rp
  dsimp only at hl h rn
  simp [lt73_l1, hp, hS, hbc]
  refine hb _ _ _ ?_
  cases hbg : begins ts1 with
  | false =>
    simp [hp, hS]
    refine re _ _ _ ?_
    have h' : PK K ob p en S (fun l => .d (.list 7 (l.map enc))) (.ok l ts1) := by
      rw [bind_eq] at h
      cases hn : most - l.length <;> simpa [hn, listM, hbg] using h
    simp [hp, hS]
    exact leave_p hp hm h' (by simp) (by simp [hp])
  | true =>
    by_cases he : l.length = most
    · simp [he, listM, hbg, bind_eq] at h
      simp [hp, hS, he]
      refine y_fail hP hS (ts := ts1) (en := en) (S := S) (by simp [hp]) _ ?_
      simp [hp]
      refine rp _ _ _ ?_
      simp
      exact leave_p hp hm h (by simp) (by simp [hp])
    · have hne : ¬ ((l.length : Int) = most) := by omega
      obtain ⟨n, hn⟩ : ∃ n, most - l.length = n + 1 := ⟨most - l.length - 1, by omega⟩
      simp only [hn] at h
      simp only [bind_eq, listM, hbg, if_true] at h
      simp [hp, hS, hne, hrc, lt73_s0]
      refine hr _ _ _ ?_
      cases ha : read ts1 with
      | err ts' e =>
        simp only [ha] at h
        simp
        refine rp _ _ _ ?_
        simp
        exact leave_p hp hm h (by simp) (by simp [hp])
      | ok a ts' =>
        simp only [ha] at h
        simp [hp, hS, hsh]
        refine ⟨by omega, ?_⟩
        refine rn [] (l ++ [a], ts') _ _ ⟨by simp; omega, ?_⟩ (by simp; omega) (by simp) (by simp [hp]) (by simp [hp, hv1]) ?_
        · simp only [List.length_append, List.length_singleton, show most - (l.length + 1) = n by omega]
          rw [bind_eq]
          cases hl2 : listM begins read n ts' with
          | err ts2 e => simp only [hl2] at h; exact h
          | ok l2 ts2 => simp only [hl2] at h; simpa using h
        · simp
          refine noMenO_set_box _ _ _ _ _ (noMenO_up_add _ hm) ?_
          have := men_look (noMenO_up_add 1 (l := []) hm) hp
          simpa [pv] using this
theorem y_listM {α : Type} {enc : α → D} (hsh : ∀ a, (enc a).shape = .node [.leaf, .leaf, .leaf, .leaf, .leaf]) (begins : List Tok → Bool) (read : M α) (most : Nat) (hmost : most ≤ 1000) (bf rf : Nat) (bfi bca rfi rca : List V) (hbc : callable P.p bf = true) (hrc : callable P.p rf = true)
    (x : Nat) (hx : fresh ob = x) (hb : ∀ (ts : List Tok) (o : Ob) (K : Out → Objs → Prop), K (.ret (.d (.bool (begins ts)))) ((x, o) :: setO ob p (pb ts en S)) → ACall P bf (bfi ++ bca) ((x, o) :: setO ob p (pb ts en S)) K)
    (hr : ∀ (ts : List Tok) (o : Ob) (K : Out → Objs → Prop), PK K ((x, o) :: setO ob p (pb ts en S)) p en S (fun a => .d (enc a)) (read ts) → ACall P rf (rfi ++ rca) ((x, o) :: setO ob p (pb ts en S)) K)
    (h : PK K ob p en S (fun l => .d (.list 5 (l.map enc))) (listM begins read most ts)) : ACall P 75 [.ptr p [], .d (.int .i64 most), .fn bf bfi bca, .fn rf rfi rca] ob K := by
  subst hx
  refine acall_lift hP mixed ok75 lf75 TOk.nil fun hv hm => ?_
  have hv1 := V.mens_mono (p := young (fresh ob + 1) []) (q := young (fresh ob) []) (fun j e => by simp [young] at e ⊢; omega) _ (hv [])
  simp at hv1
  simp [lt75, hp, hS]
  refine ALoop.go (ι := List α × List Tok) (fun j => [(0, .ptr p []), (1, .d (.int .i64 most)), (2, .fn bf bfi bca), (3, .fn rf rfi rca), (8, .sl (fresh ob) j.1.length)])
    (fun j => (fresh ob, .arr 112 5 (j.1.map enc)) :: setO ob p (pb j.2 en S))
    (fun j => j.1.length ≤ most ∧ PK K ob p en S (fun l => .d (.list 5 (l.map enc))) ((listM begins read (most - j.1.length) >>= fun l => pure (j.1 ++ l)) j.2)) (fun j => most - j.1.length) ([], ts) ⟨by simp, ?_⟩ (by simp) (by simp [setO_self hp]) ?_
  · simp only [List.length_nil, Nat.sub_zero, List.nil_append]
    rw [bind_eq]
    cases hr : listM begins read most ts with
    | ok a ts' => rw [hr] at h; exact h
    | err ts' e => rw [hr] at h; exact h
  rintro ⟨l, ts1⟩ ⟨hl, h⟩ R rn re rr rp
  dsimp only at hl h rn
  simp [lt75_l1, hp, hS, hbc]
  refine hb _ _ _ ?_
  cases hbg : begins ts1 with
  | false =>
    simp [hp, hS]
    refine re _ _ _ ?_
    have h' : PK K ob p en S (fun l => .d (.list 5 (l.map enc))) (.ok l ts1) := by
      rw [bind_eq] at h
      cases hn : most - l.length <;> simpa [hn, listM, hbg] using h
    simp [hp, hS]
    exact leave_p hp hm h' (by simp) (by simp [hp])
  | true =>
    by_cases he : l.length = most
    · simp [he, listM, hbg, bind_eq] at h
      simp [hp, hS, he]
      refine y_fail hP hS (ts := ts1) (en := en) (S := S) (by simp [hp]) _ ?_
      simp [hp]
      refine rp _ _ _ ?_
      simp
      exact leave_p hp hm h (by simp) (by simp [hp])
    · have hne : ¬ ((l.length : Int) = most) := by omega
      obtain ⟨n, hn⟩ : ∃ n, most - l.length = n + 1 := ⟨most - l.length - 1, by omega⟩
      simp only [hn] at h
      simp only [bind_eq, listM, hbg, if_true] at h
      simp [hp, hS, hne, hrc, lt75_s0]
      refine hr _ _ _ ?_
      cases ha : read ts1 with
      | err ts' e =>
        simp only [ha] at h
        simp
        refine rp _ _ _ ?_
        simp
        exact leave_p hp hm h (by simp) (by simp [hp])
      | ok a ts' =>
        simp only [ha] at h
        simp [hp, hS, hsh]
        refine ⟨by omega, ?_⟩
        refine rn [] (l ++ [a], ts') _ _ ⟨by simp; omega, ?_⟩ (by simp; omega) (by simp) (by simp [hp]) (by simp [hp, hv1]) ?_
        · simp only [List.length_append, List.length_singleton, show most - (l.length + 1) = n by omega]
          rw [bind_eq]
          cases hl2 : listM begins read n ts' with
          | err ts2 e => simp only [hl2] at h; exact h
          | ok l2 ts2 => simp only [hl2] at h; simpa using h
        · simp
          refine noMenO_set_box _ _ _ _ _ (noMenO_up_add _ hm) ?_
          have := men_look (noMenO_up_add 1 (l := []) hm) hp
          simpa [pv] using this
theorem y_listR {α : Type} {enc : α → D} (hsh : ∀ a, (enc a).shape = .node [.leaf, .leaf, .leaf, .leaf]) (begins : List Tok → Bool) (read : M α) (most : Nat) (hmost : most ≤ 1000) (bf rf : Nat) (bfi bca rfi rca : List V) (hbc : callable P.p bf = true) (hrc : callable P.p rf = true)
    (x : Nat) (hx : fresh ob = x) (hb : ∀ (ts : List Tok) (o : Ob) (K : Out → Objs → Prop), K (.ret (.d (.bool (begins ts)))) ((x, o) :: setO ob p (pb ts en S)) → ACall P bf (bfi ++ bca) ((x, o) :: setO ob p (pb ts en S)) K)
    (hr : ∀ (ts : List Tok) (o : Ob) (K : Out → Objs → Prop), PK K ((x, o) :: setO ob p (pb ts en S)) p en S (fun a => .d (enc a)) (read ts) → ACall P rf (rfi ++ rca) ((x, o) :: setO ob p (pb ts en S)) K)
    (h : PK K ob p en S (fun l => .d (.list 4 (l.map enc))) (listM begins read most ts)) : ACall P 77 [.ptr p [], .d (.int .i64 most), .fn bf bfi bca, .fn rf rfi rca] ob K := by
  subst hx
  refine acall_lift hP mixed ok77 lf77 TOk.nil fun hv hm => ?_
  have hv1 := V.mens_mono (p := young (fresh ob + 1) []) (q := young (fresh ob) []) (fun j e => by simp [young] at e ⊢; omega) _ (hv [])
  simp at hv1
  simp [lt77, hp, hS]
  refine ALoop.go (ι := List α × List Tok) (fun j => [(0, .ptr p []), (1, .d (.int .i64 most)), (2, .fn bf bfi bca), (3, .fn rf rfi rca), (8, .sl (fresh ob) j.1.length)])
    (fun j => (fresh ob, .arr 107 4 (j.1.map enc)) :: setO ob p (pb j.2 en S))
    (fun j => j.1.length ≤ most ∧ PK K ob p en S (fun l => .d (.list 4 (l.map enc))) ((listM begins read (most - j.1.length) >>= fun l => pure (j.1 ++ l)) j.2)) (fun j => most - j.1.length) ([], ts) ⟨by simp, ?_⟩ (by simp) (by simp [setO_self hp]) ?_
  · simp only [List.length_nil, Nat.sub_zero, List.nil_append]
    rw [bind_eq]
    cases hr : listM begins read most ts with
    | ok a ts' => rw [hr] at h; exact h
    | err ts' e => rw [hr] at h; exact h
  rintro ⟨l, ts1⟩ ⟨hl, h⟩ R rn re rr rp
  dsimp only at hl h rn
  simp [lt77_l1, hp, hS, hbc]
  refine hb _ _ _ ?_
  cases hbg : begins ts1 with
  | false =>
    simp [hp, hS]
    refine re _ _ _ ?_
    have h' : PK K ob p en S (fun l => .d (.list 4 (l.map enc))) (.ok l ts1) := by
      rw [bind_eq] at h
      cases hn : most - l.length <;> simpa [hn, listM, hbg] using h
    simp [hp, hS]
    exact leave_p hp hm h' (by simp) (by simp [hp])
  | true =>
    by_cases he : l.length = most
    · simp [he, listM, hbg, bind_eq] at h
      simp [hp, hS, he]
      refine y_fail hP hS (ts := ts1) (en := en) (S := S) (by simp [hp]) _ ?_
      simp [hp]
      refine rp _ _ _ ?_
      simp
      exact leave_p hp hm h (by simp) (by simp [hp])
    · have hne : ¬ ((l.length : Int) = most) := by omega
      obtain ⟨n, hn⟩ : ∃ n, most - l.length = n + 1 := ⟨most - l.length - 1, by omega⟩
      simp only [hn] at h
      simp only [bind_eq, listM, hbg, if_true] at h
      simp [hp, hS, hne, hrc, lt77_s0]
      refine hr _ _ _ ?_
      cases ha : read ts1 with
      | err ts' e =>
        simp only [ha] at h
        simp
        refine rp _ _ _ ?_
        simp
        exact leave_p hp hm h (by simp) (by simp [hp])
      | ok a ts' =>
        simp only [ha] at h
        simp [hp, hS, hsh]
        refine ⟨by omega, ?_⟩
        refine rn [] (l ++ [a], ts') _ _ ⟨by simp; omega, ?_⟩ (by simp; omega) (by simp) (by simp [hp]) (by simp [hp, hv1]) ?_
        · simp only [List.length_append, List.length_singleton, show most - (l.length + 1) = n by omega]
          rw [bind_eq]
          cases hl2 : listM begins read n ts' with
          | err ts2 e => simp only [hl2] at h; exact h
          | ok l2 ts2 => simp only [hl2] at h; simpa using h
        · simp
          refine noMenO_set_box _ _ _ _ _ (noMenO_up_add _ hm) ?_
          have := men_look (noMenO_up_add 1 (l := []) hm) hp
          simpa [pv] using this
theorem y_listN {α : Type} {enc : α → D} (hsh : ∀ a, (enc a).shape = .leaf) (begins : List Tok → Bool) (read : M α) (most : Nat) (hmost : most ≤ 1000) (bf rf : Nat) (bfi bca rfi rca : List V) (hbc : callable P.p bf = true) (hrc : callable P.p rf = true)
    (x : Nat) (hx : fresh ob = x) (hb : ∀ (ts : List Tok) (o : Ob) (K : Out → Objs → Prop), K (.ret (.d (.bool (begins ts)))) ((x, o) :: setO ob p (pb ts en S)) → ACall P bf (bfi ++ bca) ((x, o) :: setO ob p (pb ts en S)) K)
    (hr : ∀ (ts : List Tok) (o : Ob) (K : Out → Objs → Prop), PK K ((x, o) :: setO ob p (pb ts en S)) p en S (fun a => .d (enc a)) (read ts) → ACall P rf (rfi ++ rca) ((x, o) :: setO ob p (pb ts en S)) K)
    (h : PK K ob p en S (fun l => .d (.list 1 (l.map enc))) (listM begins read most ts)) : ACall P 176 [.ptr p [], .d (.int .i64 most), .fn bf bfi bca, .fn rf rfi rca] ob K := by
  subst hx
  refine acall_lift hP mixed ok176 lf176 TOk.nil fun hv hm => ?_
  have hv1 := V.mens_mono (p := young (fresh ob + 1) []) (q := young (fresh ob) []) (fun j e => by simp [young] at e ⊢; omega) _ (hv [])
  simp at hv1
  simp [lt176, hp, hS]
  refine ALoop.go (ι := List α × List Tok) (fun j => [(0, .ptr p []), (1, .d (.int .i64 most)), (2, .fn bf bfi bca), (3, .fn rf rfi rca), (8, .sl (fresh ob) j.1.length)])
    (fun j => (fresh ob, .arr 9 1 (j.1.map enc)) :: setO ob p (pb j.2 en S))
    (fun j => j.1.length ≤ most ∧ PK K ob p en S (fun l => .d (.list 1 (l.map enc))) ((listM begins read (most - j.1.length) >>= fun l => pure (j.1 ++ l)) j.2)) (fun j => most - j.1.length) ([], ts) ⟨by simp, ?_⟩ (by simp) (by simp [setO_self hp]) ?_
  · simp only [List.length_nil, Nat.sub_zero, List.nil_append]
    rw [bind_eq]
    cases hr : listM begins read most ts with
    | ok a ts' => rw [hr] at h; exact h
    | err ts' e => rw [hr] at h; exact h
  rintro ⟨l, ts1⟩ ⟨hl, h⟩ R rn re rr rp
  dsimp only at hl h rn
  simp [lt176_l1, hp, hS, hbc]
  refine hb _ _ _ ?_
  cases hbg : begins ts1 with
  | false =>
    simp [hp, hS]
    refine re _ _ _ ?_
    have h' : PK K ob p en S (fun l => .d (.list 1 (l.map enc))) (.ok l ts1) := by
      rw [bind_eq] at h
      cases hn : most - l.length <;> simpa [hn, listM, hbg] using h
    simp [hp, hS]
    exact leave_p hp hm h' (by simp) (by simp [hp])
  | true =>
    by_cases he : l.length = most
    · simp [he, listM, hbg, bind_eq] at h
      simp [hp, hS, he]
      refine y_fail hP hS (ts := ts1) (en := en) (S := S) (by simp [hp]) _ ?_
      simp [hp]
      refine rp _ _ _ ?_
      simp
      exact leave_p hp hm h (by simp) (by simp [hp])
    · have hne : ¬ ((l.length : Int) = most) := by omega
      obtain ⟨n, hn⟩ : ∃ n, most - l.length = n + 1 := ⟨most - l.length - 1, by omega⟩
      simp only [hn] at h
      simp only [bind_eq, listM, hbg, if_true] at h
      simp [hp, hS, hne, hrc, lt176_s0]
      refine hr _ _ _ ?_
      cases ha : read ts1 with
      | err ts' e =>
        simp only [ha] at h
        simp
        refine rp _ _ _ ?_
        simp
        exact leave_p hp hm h (by simp) (by simp [hp])
      | ok a ts' =>
        simp only [ha] at h
        simp [hp, hS, hsh]
        refine ⟨by omega, ?_⟩
        refine rn [] (l ++ [a], ts') _ _ ⟨by simp; omega, ?_⟩ (by simp; omega) (by simp) (by simp [hp]) (by simp [hp, hv1]) ?_
        · simp only [List.length_append, List.length_singleton, show most - (l.length + 1) = n by omega]
          rw [bind_eq]
          cases hl2 : listM begins read n ts' with
          | err ts2 e => simp only [hl2] at h; exact h
          | ok l2 ts2 => simp only [hl2] at h; simpa using h
        · simp
          refine noMenO_set_box _ _ _ _ _ (noMenO_up_add _ hm) ?_
          have := men_look (noMenO_up_add 1 (l := []) hm) hp
          simpa [pv] using this
end
end Go.Proofs.YtanpgmgkmfckaaaGreatDoor
/- Contracts: names with commas, types, fields, dependencies. Condition: the program is the seat's, and its intervals are laid. -/
namespace Go.Proofs.YtanpgmgkmfckaaaGreatDoor
open Go Go.Ab Go.Lx Go.Sx
set_option maxRecDepth 100000
attribute [local simp ↓] ql qn qo qi qh qj qk qm zs zp zr zt zq zl zm zk zo zn qq qp qw qx zg qy qv qr zh qu qt qs qz zb za zd ze zf zw zu zy zx qb qa qd qc qe qg qf zj zi
section
variable {P : Prg} (hP : P.p = Tryz.prog) {ob : Objs} {p : Nat} {ts : List Tok} {en : Int} {S : V} (hS : V.allD [S] = none) (hp : lookO ob p = some (pb ts en S)) {K : Out → Objs → Prop}
include hP
theorem call_y : callable P.p 175 = true ∧ callable P.p 177 = true ∧ callable P.p 137 = true ∧ callable P.p 70 = true ∧ callable P.p 72 = true ∧ callable P.p 74 = true ∧ callable P.p 76 = true ∧ callable P.p 78 = true := by
  rw [hP]; exact ⟨by kernel_rfl, by kernel_rfl, by kernel_rfl, by kernel_rfl, by kernel_rfl, by kernel_rfl, by kernel_rfl, by kernel_rfl⟩
include hS hp
theorem y_listed1 {b1 : Nat} (h1 : lookO ob b1 = some (.box 63 (.ptr p []))) (h : K (.ret (.d (.bool (nextB 3 [44] ts)))) (setO ob p (pb ts en S))) : ACall P 175 [.ptr b1 []] ob K := by
  refine acall_lift hP mixed ok175 lf175 TOk.nil fun _ hm => ?_
  simp [lt175, hp, h1]
  refine y_next hP hS hp _ _ ?_
  simp [hp]
  exact leave_p hp hm h (by simp) (by simp [hp])
theorem y_listed2 {b1 : Nat} (h1 : lookO ob b1 = some (.box 63 (.ptr p []))) (h : PK K ob p en S (fun a => .d (.str a)) ((do signM [44]; nameM : M B) ts)) : ACall P 177 [.ptr b1 []] ob K := by
  have hbp : (b1 == p) = false := by rw [beq_eq_false_iff_ne]; intro e; subst e; rw [h1] at hp; cases hp
  have hpb : (p == b1) = false := by rw [beq_eq_false_iff_ne]; intro e; subst e; rw [h1] at hp; cases hp
  refine acall_lift hP mixed ok177 lf177 TOk.nil fun _ hm => ?_
  simp [lt177, hp, h1]
  refine y_sign hP hS hp _ (PK.bind h (fun ts' e h => ?_) (fun a ts' ha h => ?_))
  · simp
    exact leave_p hp hm h (by simp) (by simp [hp])
  simp [hp, h1, hbp, hpb]
  refine y_name hP hS (by simp [hp]) (PK.tail h (fun ts' e h => ?_) (fun a ts' ha h => ?_))
  · simp
    exact leave_p hp hm h (by simp) (by simp [hp])
  simp [hp, h1]
  exact leave_p hp hm h (by simp) (by simp [hp])
theorem y_listed (most : Nat) (h0 : 1 ≤ most) (hmost : most ≤ 1000) (h : PK K ob p en S (fun l => .d (strsD l)) (listedM most ts)) : ACall P 136 [.ptr p [], .d (.int .i64 most)] ob K := by
  refine acall_lift hP mixed ok136 lf136 TOk.nil fun _ hm => ?_
  simp [lt136, hp, hS]
  refine y_name hP hS (by simp [hp]) (PK.bind h (fun ts' e h => ?_) (fun a ts' ha h => ?_))
  · simp
    exact leave_p hp hm h (by simp) (by simp [hp])
  simp [hp, hS]
  have hw : IntKind.i64.wrap ((most : Int) - 1) = ((most - 1 : Nat) : Int) := by rw [IntWalk.i64_in _ (by omega)]; omega
  rw [hw]
  refine y_listN hP hS (by simp [hp]) (enc := D.str) (fun _ => rfl) (nextB 3 [44]) (do signM [44]; nameM) (most - 1) (by omega) _ _ [] _ [] _ (call_y hP).1 (call_y hP).2.1 _ rfl (fun ts o K h => ?_) (fun ts o K h => ?_) (PK.bind h (fun ts' e h => ?_) (fun l ts' ha h => ?_))
  · exact y_listed1 hP hS (p := p) (ts := ts) (en := en) (by simp [hp]) (by simp [hp]) (by simpa [hp] using h)
  · exact y_listed2 hP hS (p := p) (ts := ts) (en := en) (by simp [hp]) (by simp [hp]) (by simpa [hp] using h)
  · simp [hp]
    exact leave_p hp hm h (by simp) (by simp [hp])
  have hl := listM_len ha
  simp [hp, show 1 + l.length = l.length + 1 by omega]
  refine ⟨by omega, ?_⟩
  exact leave_p hp hm h (by simp) (by simp [hp])
theorem y_kind (hI : Ivl P) (h : PK K ob p en S (fun x => .d x.enc) (kindM ts)) : ACall P 135 [.ptr p []] ob K := by
  refine acall_lift hP mixed ok135 lf135 TOk.nil fun _ hm => ?_
  simp [lt135, hp, hS, hI.factors, hI.editions, hI.mosts, hI.weights, hI.anyN]
  refine y_accept hP hS (by simp [hp]) _ _ (PK.bind h (fun ts' e h => ?_) (fun a ts' ha h => ?_))
  · simp
    exact leave_p hp hm h (by simp) (by simp [hp])
  cases a
  · skip
    simp only [Bool.false_eq_true, if_false, if_true, massoc, mpure] at h
    simp [hp, hS, hI.factors, hI.editions, hI.mosts, hI.weights, hI.anyN]
    refine y_accept hP hS (by simp [hp]) _ _ (PK.bind h (fun ts' e h => ?_) (fun a ts' ha h => ?_))
    · simp
      exact leave_p hp hm h (by simp) (by simp [hp])
    cases a
    · skip
      simp only [Bool.false_eq_true, if_false, if_true, massoc, mpure] at h
      simp [hp, hS, hI.factors, hI.editions, hI.mosts, hI.weights, hI.anyN]
      refine y_accept hP hS (by simp [hp]) _ _ (PK.bind h (fun ts' e h => ?_) (fun a ts' ha h => ?_))
      · simp
        exact leave_p hp hm h (by simp) (by simp [hp])
      cases a
      · skip
        simp only [Bool.false_eq_true, if_false, if_true, massoc, mpure] at h
        simp [hp, hS, hI.factors, hI.editions, hI.mosts, hI.weights, hI.anyN]
        refine y_accept hP hS (by simp [hp]) _ _ (PK.bind h (fun ts' e h => ?_) (fun a ts' ha h => ?_))
        · simp
          exact leave_p hp hm h (by simp) (by simp [hp])
        cases a
        · skip
          simp only [Bool.false_eq_true, if_false, if_true, massoc, mpure] at h
          simp [hp, hS, hI.factors, hI.editions, hI.mosts, hI.weights, hI.anyN]
          refine y_fail hP hS (ts := ts') (en := en) (S := S) (by simp [hp]) _ ?_
          simp [hp]
          exact leave_p hp hm h (by simp) (by simp [hp])
        · skip
          simp only [Bool.false_eq_true, if_false, if_true, massoc, mpure] at h
          simp [hp, hS, hI.factors, hI.editions, hI.mosts, hI.weights, hI.anyN]
          refine y_listed hP hS (by simp [hp]) 16 (by decide) (by decide) (PK.bind h (fun ts' e h => ?_) (fun l ts' ha h => ?_))
          · simp
            exact leave_p hp hm h (by simp) (by simp [hp])
          have hl := listedM_len ha
          have hw : IntKind.i64.wrap ((l.length : Int) - 1) = (l.length : Int) - 1 := IntWalk.i64_in _ (by omega)
          simp [hp, hS, strsD, hw, lt135_s0]
          exact leave_p hp hm h (by simp) (by simp [hp])
      · skip
        simp only [Bool.false_eq_true, if_false, if_true, massoc, mpure] at h
        simp [hp, hS, hI.factors, hI.editions, hI.mosts, hI.weights, hI.anyN, lt135_s0]
        exact leave_p hp hm h (by simp) (by simp [hp])
    · skip
      simp only [Bool.false_eq_true, if_false, if_true, massoc, mpure] at h
      simp [hp, hS, hI.factors, hI.editions, hI.mosts, hI.weights, hI.anyN, lt135_s0]
      exact leave_p hp hm h (by simp) (by simp [hp])
  · skip
    simp only [Bool.false_eq_true, if_false, if_true, massoc, mpure] at h
    simp [hp, hS, hI.factors, hI.editions, hI.mosts, hI.weights, hI.anyN]
    refine y_number hP hS (by simp [hp]) _ _ (PK.bind h (fun ts' e h => ?_) (fun a ts' ha h => ?_))
    · simp
      exact leave_p hp hm h (by simp) (by simp [hp])
    simp [hp, hS, hI.factors, hI.editions, hI.mosts, hI.weights, hI.anyN]
    refine y_word hP hS (by simp [hp]) _ (PK.bind h (fun ts' e h => ?_) (fun a ts' ha h => ?_))
    · simp
      exact leave_p hp hm h (by simp) (by simp [hp])
    simp [hp, hS, hI.factors, hI.editions, hI.mosts, hI.weights, hI.anyN]
    refine y_number hP hS (by simp [hp]) _ _ (PK.bind h (fun ts' e h => ?_) (fun a ts' ha h => ?_))
    · simp
      exact leave_p hp hm h (by simp) (by simp [hp])
    simp [hp, hS, hI.factors, hI.editions, hI.mosts, hI.weights, hI.anyN]
    refine y_accept hP hS (by simp [hp]) _ _ (PK.bind h (fun ts' e h => ?_) (fun a ts' ha h => ?_))
    · simp
      exact leave_p hp hm h (by simp) (by simp [hp])
    cases a
    · skip
      simp only [Bool.false_eq_true, if_false, if_true, massoc, mpure] at h
      simp [hp, hS, hI.factors, hI.editions, hI.mosts, hI.weights, hI.anyN, lt135_s0]
      exact leave_p hp hm h (by simp) (by simp [hp])
    · skip
      simp only [Bool.false_eq_true, if_false, if_true, massoc, mpure] at h
      simp [hp, hS, hI.factors, hI.editions, hI.mosts, hI.weights, hI.anyN]
      refine y_name hP hS (by simp [hp]) (PK.bind h (fun ts' e h => ?_) (fun a ts' ha h => ?_))
      · simp
        exact leave_p hp hm h (by simp) (by simp [hp])
      simp [hp, hS, hI.factors, hI.editions, hI.mosts, hI.weights, hI.anyN, lt135_s0]
      exact leave_p hp hm h (by simp) (by simp [hp])
theorem y_field (hI : Ivl P) (h : PK K ob p en S (fun x => .d x.enc) (fieldM ts)) : ACall P 66 [.ptr p []] ob K := by
  refine acall_lift hP mixed ok66 lf66 TOk.nil fun _ hm => ?_
  simp [lt66, hp, hS, hI.factors, hI.editions, hI.mosts, hI.weights, hI.anyN]
  refine y_word hP hS (by simp [hp]) _ (PK.bind h (fun ts' e h => ?_) (fun a ts' ha h => ?_))
  · simp
    exact leave_p hp hm h (by simp) (by simp [hp])
  simp [hp, hS, hI.factors, hI.editions, hI.mosts, hI.weights, hI.anyN]
  refine y_name hP hS (by simp [hp]) (PK.bind h (fun ts' e h => ?_) (fun a ts' ha h => ?_))
  · simp
    exact leave_p hp hm h (by simp) (by simp [hp])
  simp [hp, hS, hI.factors, hI.editions, hI.mosts, hI.weights, hI.anyN]
  refine y_sign hP hS (by simp [hp]) _ (PK.bind h (fun ts' e h => ?_) (fun a ts' ha h => ?_))
  · simp
    exact leave_p hp hm h (by simp) (by simp [hp])
  simp [hp, hS, hI.factors, hI.editions, hI.mosts, hI.weights, hI.anyN]
  refine y_kind hP hS (by simp [hp]) hI (PK.bind h (fun ts' e h => ?_) (fun a ts' ha h => ?_))
  · simp
    exact leave_p hp hm h (by simp) (by simp [hp])
  simp [hp, hS, hI.factors, hI.editions, hI.mosts, hI.weights, hI.anyN]
  refine y_weights hP hS (by simp [hp]) hI (PK.bind h (fun ts' e h => ?_) (fun l ts' ha h => ?_))
  · simp
    exact leave_p hp hm h (by simp) (by simp [hp])
  obtain ⟨a0, b0, c0, d0, rfl⟩ := weights_four ha
  simp [hp, hS]
  refine y_sign hP hS (by simp [hp]) _ (PK.bind h (fun ts' e h => ?_) (fun a ts' ha h => ?_))
  · simp
    exact leave_p hp hm h (by simp) (by simp [hp])
  simp [hp, hS, hI.factors, hI.editions, hI.mosts, hI.weights, hI.anyN]
  exact leave_p hp hm h (by simp) (by simp [hp])
theorem y_depend (h : PK K ob p en S (fun x => .d x.enc) (dependM ts)) : ACall P 67 [.ptr p []] ob K := by
  refine acall_lift hP mixed ok67 lf67 TOk.nil fun _ hm => ?_
  simp [lt67, hp, hS]
  refine y_word hP hS (by simp [hp]) _ (PK.bind h (fun ts' e h => ?_) (fun a ts' ha h => ?_))
  · simp
    exact leave_p hp hm h (by simp) (by simp [hp])
  simp [hp, hS]
  refine y_listed hP hS (by simp [hp]) 11 (by decide) (by decide) (PK.bind h (fun ts' e h => ?_) (fun l ts' ha h => ?_))
  · simp
    exact leave_p hp hm h (by simp) (by simp [hp])
  simp [hp, hS, strsD]
  refine y_word hP hS (by simp [hp]) _ (PK.bind h (fun ts' e h => ?_) (fun a ts' ha h => ?_))
  · simp
    exact leave_p hp hm h (by simp) (by simp [hp])
  simp [hp, hS]
  refine y_name hP hS (by simp [hp]) (PK.bind h (fun ts' e h => ?_) (fun a ts' ha h => ?_))
  · simp
    exact leave_p hp hm h (by simp) (by simp [hp])
  simp [hp, hS]
  refine y_sign hP hS (by simp [hp]) _ (PK.bind h (fun ts' e h => ?_) (fun a ts' ha h => ?_))
  · simp
    exact leave_p hp hm h (by simp) (by simp [hp])
  simp [hp, hS]
  exact leave_p hp hm h (by simp) (by simp [hp])
end
end Go.Proofs.YtanpgmgkmfckaaaGreatDoor
/- Contracts: the definitions. Condition: the program is the seat's, and its intervals are laid. -/
namespace Go.Proofs.YtanpgmgkmfckaaaGreatDoor
open Go Go.Ab Go.Lx Go.Sx
set_option maxRecDepth 100000
attribute [local simp ↓] ql qn qo qi qh qj qk qm zs zp zr zt zq zl zm zk zo zn qq qp qw qx zg qy qv qr zh qu qt qs qz zb za zd ze zf zw zu zy zx qb qa qd qc qe qg qf zj zi
section
variable {P : Prg} (hP : P.p = Tryz.prog) (hI : Ivl P) {ts : List Tok} {en : Int} {s : Src} (hs : Few s) {K : Out → Objs → Prop}
include hP hI hs
theorem y_issuer (h : PS K en (issuerM s ts)) : ACall P 19 [.ptr 4 []] (stO en ts s) K := by
  refine acall_lift hP mixed ok19 lf19 TOk.nil fun _ hm => ?_
  simp [lt19, hI.factors, hI.editions, hI.mosts, hI.weights, hI.anyN]
  refine y_room hP (S := srcV s) (by simp) (by simp) _ 8 (PS.bind h (fun ts' e h => ?_) (fun a ts' ha h => ?_))
  · simp
    exact leave_s (h s) (by simp) (by simp [young])
  simp [hI.factors, hI.editions, hI.mosts, hI.weights, hI.anyN]
  refine y_word hP (S := srcV s) (by simp) (by simp) _ (PS.bind h (fun ts' e h => ?_) (fun a ts' ha h => ?_))
  · simp
    exact leave_s (h s) (by simp) (by simp [young])
  simp [hI.factors, hI.editions, hI.mosts, hI.weights, hI.anyN]
  refine ⟨?_, ?_⟩
  · skip
    refine y_name hP (S := srcV s) (by simp) (by simp) (PS.bind h (fun ts' e h => ?_) (fun a ts' ha h => ?_))
    · simp
      exact leave_s (h s) (by simp) (by simp [young])
    simp [hI.factors, hI.editions, hI.mosts, hI.weights, hI.anyN]
    refine ⟨by have := hs.issuers; omega, ?_⟩
    refine y_sign hP (S := srcV { s with issuers := s.issuers ++ [a] }) (by simp) (by simp) _ (PS.bind h (fun ts' e h => ?_) (fun a ts' ha h => ?_))
    · simp
      exact leave_s (h { s with issuers := s.issuers ++ [a] }) (by simp) (by simp [young])
    simp [hI.factors, hI.editions, hI.mosts, hI.weights, hI.anyN]
    exact leave_s h (by simp) (by simp)
  · skip
    refine y_name hP (S := srcV s) (by simp) (by simp) (PS.bind h (fun ts' e h => ?_) (fun a ts' ha h => ?_))
    · simp
      exact leave_s (h s) (by simp) (by simp [young])
    simp [hI.factors, hI.editions, hI.mosts, hI.weights, hI.anyN]
    refine ⟨by have := hs.issuers; omega, ?_⟩
    refine y_sign hP (S := srcV { s with issuers := s.issuers ++ [a] }) (by simp) (by simp) _ (PS.bind h (fun ts' e h => ?_) (fun a ts' ha h => ?_))
    · simp
      exact leave_s (h { s with issuers := s.issuers ++ [a] }) (by simp) (by simp [young])
    simp [hI.factors, hI.editions, hI.mosts, hI.weights, hI.anyN]
    exact leave_s h (by simp) (by simp)
end
end Go.Proofs.YtanpgmgkmfckaaaGreatDoor
/- Contracts: the definitions. Condition: the program is the seat's, and its intervals are laid. -/
namespace Go.Proofs.YtanpgmgkmfckaaaGreatDoor
open Go Go.Ab Go.Lx Go.Sx
set_option maxRecDepth 100000
attribute [local simp ↓] ql qn qo qi qh qj qk qm zs zp zr zt zq zl zm zk zo zn qq qp qw qx zg qy qv qr zh qu qt qs qz zb za zd ze zf zw zu zy zx qb qa qd qc qe qg qf zj zi
section
variable {P : Prg} (hP : P.p = Tryz.prog) (hI : Ivl P) {ts : List Tok} {en : Int} {s : Src} (hs : Few s) {K : Out → Objs → Prop}
include hP hI hs
theorem y_unit (h : PS K en (unitM s ts)) : ACall P 20 [.ptr 4 []] (stO en ts s) K := by
  refine acall_lift hP mixed ok20 lf20 TOk.nil fun _ hm => ?_
  simp [lt20, hI.factors, hI.editions, hI.mosts, hI.weights, hI.anyN]
  refine y_room hP (S := srcV s) (by simp) (by simp) _ 16 (PS.bind h (fun ts' e h => ?_) (fun a ts' ha h => ?_))
  · simp
    exact leave_s (h s) (by simp) (by simp [young])
  simp [hI.factors, hI.editions, hI.mosts, hI.weights, hI.anyN]
  refine y_word hP (S := srcV s) (by simp) (by simp) _ (PS.bind h (fun ts' e h => ?_) (fun a ts' ha h => ?_))
  · simp
    exact leave_s (h s) (by simp) (by simp [young])
  simp [hI.factors, hI.editions, hI.mosts, hI.weights, hI.anyN]
  refine y_name hP (S := srcV s) (by simp) (by simp) (PS.bind h (fun ts' e h => ?_) (fun a ts' ha h => ?_))
  · simp
    exact leave_s (h s) (by simp) (by simp [young])
  simp [hI.factors, hI.editions, hI.mosts, hI.weights, hI.anyN]
  refine y_accept hP (S := srcV s) (by simp) (by simp) _ _ (PS.bind h (fun ts' e h => ?_) (fun a ts' ha h => ?_))
  · simp
    exact leave_s (h s) (by simp) (by simp [young])
  cases a
  · skip
    simp only [Bool.false_eq_true, if_false, if_true, massoc, mpure] at h
    simp [hI.factors, hI.editions, hI.mosts, hI.weights, hI.anyN, lt20_s0]
    refine y_sign hP (S := srcV s) (by simp) (by simp) _ (PS.bind h (fun ts' e h => ?_) (fun a ts' ha h => ?_))
    · simp
      exact leave_s (h s) (by simp) (by simp [young])
    simp [hI.factors, hI.editions, hI.mosts, hI.weights, hI.anyN]
    refine ⟨by have := hs.units; omega, ?_⟩
    exact leave_s h (by simp) (by simp [young, UnitT.enc])
  · skip
    simp only [Bool.false_eq_true, if_false, if_true, massoc, mpure] at h
    simp [hI.factors, hI.editions, hI.mosts, hI.weights, hI.anyN]
    refine y_number hP (S := srcV s) (by simp) (by simp) _ _ (PS.bind h (fun ts' e h => ?_) (fun a ts' ha h => ?_))
    · simp
      exact leave_s (h s) (by simp) (by simp [young])
    simp [hI.factors, hI.editions, hI.mosts, hI.weights, hI.anyN]
    refine y_name hP (S := srcV s) (by simp) (by simp) (PS.bind h (fun ts' e h => ?_) (fun a ts' ha h => ?_))
    · simp
      exact leave_s (h s) (by simp) (by simp [young])
    simp [hI.factors, hI.editions, hI.mosts, hI.weights, hI.anyN, lt20_s0]
    refine y_sign hP (S := srcV s) (by simp) (by simp) _ (PS.bind h (fun ts' e h => ?_) (fun a ts' ha h => ?_))
    · simp
      exact leave_s (h s) (by simp) (by simp [young])
    simp [hI.factors, hI.editions, hI.mosts, hI.weights, hI.anyN]
    refine ⟨by have := hs.units; omega, ?_⟩
    exact leave_s h (by simp) (by simp [young, UnitT.enc])
end
end Go.Proofs.YtanpgmgkmfckaaaGreatDoor
/- The abstract statements that stand for the code of these functions, written by a program from the translation; that they do is checked by the kernel. No condition. -/
namespace Go.Proofs.YtanpgmgkmfckaaaGreatDoor
open Go Go.Ab
set_option maxRecDepth 100000
def ir9_s0 : S := .rg [] [.op (some 57) (.c (.mv (.t 8))),
   .op (some 58) (.c (.mv (.t 7))),
   .op (some 59) (.callv (.t 57) [(.t 58)])] [2, 3, 4, 6, 7] [2, 3, 4]
def ir9_l1 : S := .seq (.seq (.rg [] [.op (some 28) (.c (.mv (.t 7))),
   .op (some 29) (.c (.nilc (.t 28))),
   .op (some 30) (.c (.fldA 0 0 (.t 29))),
   .op (some 31) (.c (.ld 1 false (.t 30))),
   .op (some 32) (.c (.lenL (.t 31))),
   .op (some 33) (.c (.bin .gtr (.t 32) (.int .i64 0)))] [2, 3, 4, 6, 7, 33] [2, 3, 4])
 (.cond (.t 33) (.skip) (.exit 0)))
 (.block 1 (.seq (.rg [] [.op (some 34) (.c (.mv (.t 6))),
   .op (some 35) (.c (.mv (.t 7))),
   .op (some 36) (.c (.nilc (.t 35))),
   .op (some 37) (.c (.fldA 0 0 (.t 36))),
   .op (some 38) (.c (.ld 1 false (.t 37))),
   .op (some 39) (.c (.idxA 4 (.t 38) (.int .i64 0))),
   .op (some 40) (.c (.fldA 1 1 (.t 39))),
   .op (some 41) (.c (.ld 1 false (.t 40))),
   .op (some 42) (.lkp (.str []) (.nilf) false (.t 34) (.t 41)),
   .op (some 8) (.c (.mv (.t 42)))] [2, 3, 4, 6, 7, 8] [2, 3, 4])
 (.seq (.seq (.rg [] [.op (some 43) (.c (.mv (.t 8))),
   .op (some 44) (.c (.fnil true (.t 43))),
   .op (some 45) (.c (.mv (.t 44))),
   .gop 45 false (some 46) (.c (.mv (.t 7))),
   .gop 45 false (some 47) (.c (.nilc (.t 46))),
   .gop 45 false (some 48) (.c (.fldA 0 0 (.t 47))),
   .gop 45 false (some 49) (.c (.ld 1 false (.t 48))),
   .gop 45 false (some 50) (.c (.idxA 4 (.t 49) (.int .i64 0))),
   .gop 45 false (some 51) (.c (.fldA 0 0 (.t 50))),
   .gop 45 false (some 52) (.c (.ld 1 false (.t 51))),
   .gop 45 false (some 53) (.c (.bin .neq (.t 52) (.int .i64 1))),
   .op (some 54) (.c (.pick (.t 45) (.bool true) (.t 53)))] [2, 3, 4, 6, 7, 8, 54] [2, 3, 4])
 (.cond (.t 54) (.rg [] [.op (some 55) (.c (.mv (.t 7))),
   .op (some 56) (.call 25 [(.t 55), (.int .i64 100)])] [2, 3, 4, 6, 7, 8] [2, 3, 4]) (.skip)))
 (ir9_s0))))
def ir9 : FSt := .pre (.rg [] [.op (some 2) (.alloc 30 (.agg [.nils, .nils, .nils, .nils, .nils, .nils])),
   .op (some 3) (.alloc 3 (.int .i64 0)),
   .op (some 4) (.alloc 31 (.int .i64 0))] [0, 2, 3, 4] [])
 (.pre (.rg [] [.op (some 10) (.c (.mv (.t 0))),
   .op (some 11) (.pcall 15 [(.t 10)]),
   .op (some 9) (.c (.mv (.t 11))),
   .op (some 12) (.c (.ext (.t 9) 0)),
   .op (some 13) (.c (.ext (.t 9) 1)),
   .op (some 14) (.c (.ext (.t 9) 2)),
   .op (some 5) (.c (.mv (.t 12))),
   .op none (.st 1 (.t 3) (.t 13)),
   .op none (.st 1 (.t 4) (.t 14))] [0, 2, 3, 4, 5] [])
 (.pre (.seq (.rg [] [.op (some 15) (.c (.ld 1 false (.t 4))),
   .op (some 16) (.c (.bin .neq (.t 15) (.int .i64 0)))] [0, 2, 3, 4, 5, 16] [])
 (.cond (.t 16) (.seq (.rgT 6 (.one 0 (.op (some 17) (.c (.ld 6 true (.t 2))))
  (.br (.cons 1 (.op (some 18) (.c (.ld 1 false (.t 3)))) (.br (.cons 2 (.op (some 19) (.c (.ld 1 false (.t 4)))) (.one 3 (.op none (.st 6 (.t 2) (.t 17)))
  (.one 4 (.op none (.st 1 (.t 3) (.t 18)))
  (.one 5 (.op none (.st 1 (.t 4) (.t 19)))
  (.done))))
  (.cons 3 (.op none (.st 6 (.t 2) (.t 17))) (.br (.cons 2 (.op (some 19) (.c (.ld 1 false (.t 4)))) (.one 4 (.op none (.st 1 (.t 3) (.t 18)))
  (.one 5 (.op none (.st 1 (.t 4) (.t 19)))
  (.done)))
  (.cons 4 (.op none (.st 1 (.t 3) (.t 18))) (.br (.cons 2 (.op (some 19) (.c (.ld 1 false (.t 4)))) (.one 5 (.op none (.st 1 (.t 4) (.t 19)))
  (.done))
  (.nil)))
  (.nil))))
  (.nil))))
  (.cons 2 (.op (some 19) (.c (.ld 1 false (.t 4)))) (.br (.cons 1 (.op (some 18) (.c (.ld 1 false (.t 3)))) (.one 3 (.op none (.st 6 (.t 2) (.t 17)))
  (.one 4 (.op none (.st 1 (.t 3) (.t 18)))
  (.one 5 (.op none (.st 1 (.t 4) (.t 19)))
  (.done))))
  (.cons 3 (.op none (.st 6 (.t 2) (.t 17))) (.br (.cons 1 (.op (some 18) (.c (.ld 1 false (.t 3)))) (.one 4 (.op none (.st 1 (.t 3) (.t 18)))
  (.one 5 (.op none (.st 1 (.t 4) (.t 19)))
  (.done)))
  (.nil)))
  (.nil))))
  (.cons 3 (.op none (.st 6 (.t 2) (.t 17))) (.br (.cons 1 (.op (some 18) (.c (.ld 1 false (.t 3)))) (.br (.cons 2 (.op (some 19) (.c (.ld 1 false (.t 4)))) (.one 4 (.op none (.st 1 (.t 3) (.t 18)))
  (.one 5 (.op none (.st 1 (.t 4) (.t 19)))
  (.done)))
  (.cons 4 (.op none (.st 1 (.t 3) (.t 18))) (.br (.cons 2 (.op (some 19) (.c (.ld 1 false (.t 4)))) (.one 5 (.op none (.st 1 (.t 4) (.t 19)))
  (.done))
  (.nil)))
  (.nil))))
  (.cons 2 (.op (some 19) (.c (.ld 1 false (.t 4)))) (.br (.cons 1 (.op (some 18) (.c (.ld 1 false (.t 3)))) (.one 4 (.op none (.st 1 (.t 3) (.t 18)))
  (.one 5 (.op none (.st 1 (.t 4) (.t 19)))
  (.done)))
  (.nil)))
  (.nil))))
  (.nil)))))) [2, 3, 4] [])
 (.ret)) (.skip)))
 (.dfr [.op (some 20) (.c (.mkf 18 [] [(.t 2), (.t 3), (.t 4)]))] [0, 2, 3, 4, 5, 20] 20
 (.seq (.rg [] [.op (some 21) (.mkm none),
   .op none (.mset (.str []) (.t 21) (.str [105, 115, 115, 117, 101, 114]) (.fn 19)),
   .op none (.mset (.str []) (.t 21) (.str [117, 110, 105, 116]) (.fn 20)),
   .op none (.mset (.str []) (.t 21) (.str [115, 99, 104, 101, 109, 97]) (.fn 21)),
   .op none (.mset (.str []) (.t 21) (.str [100, 101, 114, 105, 118, 101]) (.fn 22)),
   .op none (.mset (.str []) (.t 21) (.str [99, 111, 110, 118, 101, 114, 116]) (.fn 23)),
   .op none (.mset (.str []) (.t 21) (.str [112, 117, 114, 112, 111, 115, 101]) (.fn 24)),
   .op (some 22) (.c (.mv (.t 21))),
   .op (some 6) (.c (.mv (.t 22)))] [0, 2, 3, 4, 5, 6] [2, 3, 4])
 (.seq (.rg [] [.op (some 23) (.c (.mv (.t 5))),
   .op (some 24) (.c (.mv (.t 0))),
   .op (some 25) (.c (.lenS (.t 24))),
   .op (some 26) (.c (.bld [.nils, .int .i64 0, .agg [.nils, .nils, .nils, .nils, .nils, .nils]] [(0, (.t 23)), (1, (.t 25))])),
   .op (some 27) (.box 66 (.t 26)),
   .op (some 7) (.mvn (.t 27) (.t 27) [(9, 1, [2, 0]), (74, 5, [2, 1]), (79, 6, [2, 2]), (50, 5, [2, 3]), (84, 5, [2, 4]), (88, 3, [2, 5])])] [2, 3, 4, 6, 7] [2, 3, 4])
 (.seq (.block 0 (.loop [2, 3, 4, 6, 7] ir9_l1))
 (.seq (.rg [] [.op (some 60) (.c (.mv (.t 7))),
   .op (some 61) (.c (.nilc (.t 60))),
   .op (some 62) (.c (.fldA 2 2 (.t 61))),
   .op (some 63) (.ldf 6 true (.t 62)),
   .op none (.st 6 (.t 2) (.t 63)),
   .op none (.st 1 (.t 3) (.int .i64 0)),
   .op none (.st 1 (.t 4) (.int .i64 0))] [2, 3, 4] [2, 3, 4])
 (.ret))))))))
theorem ok9 : fnOkD Tryz.prog 9 1 ir9 [.c 2 6 true, .c 3 1 false, .c 4 1 false] = true := by kernel_rfl
def ir21_s0 : S := .rgT 8 (.one 0 (.op (some 53) (.c (.fldA 4 4 (.t 2))))
  (.one 2 (.op (some 55) (.c (.mv (.t 0))))
  (.br (.cons 1 (.op (some 54) (.c (.ld 1 false (.t 53)))) (.one 3 (.op (some 56) (.call 66 [(.t 55)]))
  (.one 4 (.op (some 57) (.bls 11 [.agg [.str [], .agg [.int .i64 0, .int .i64 0, .int .i64 0, .str [], .int .i64 0, .nils], .agg (List.replicate 4 (.int .i64 0))]] [(0, (.t 56))]))
  (.one 5 (.op (some 58) (.app 93 11 120 (.t 54) (.t 57)))
  (.one 6 (.op (some 59) (.c (.fldA 4 4 (.t 2))))
  (.one 7 (.op none (.st 1 (.t 59) (.t 58)))
  (.done))))))
  (.cons 3 (.op (some 56) (.call 66 [(.t 55)])) (.br (.cons 1 (.op (some 54) (.c (.ld 1 false (.t 53)))) (.one 4 (.op (some 57) (.bls 11 [.agg [.str [], .agg [.int .i64 0, .int .i64 0, .int .i64 0, .str [], .int .i64 0, .nils], .agg (List.replicate 4 (.int .i64 0))]] [(0, (.t 56))]))
  (.one 5 (.op (some 58) (.app 93 11 120 (.t 54) (.t 57)))
  (.one 6 (.op (some 59) (.c (.fldA 4 4 (.t 2))))
  (.one 7 (.op none (.st 1 (.t 59) (.t 58)))
  (.done)))))
  (.cons 4 (.op (some 57) (.bls 11 [.agg [.str [], .agg [.int .i64 0, .int .i64 0, .int .i64 0, .str [], .int .i64 0, .nils], .agg (List.replicate 4 (.int .i64 0))]] [(0, (.t 56))])) (.br (.cons 1 (.op (some 54) (.c (.ld 1 false (.t 53)))) (.one 5 (.op (some 58) (.app 93 11 120 (.t 54) (.t 57)))
  (.one 6 (.op (some 59) (.c (.fldA 4 4 (.t 2))))
  (.one 7 (.op none (.st 1 (.t 59) (.t 58)))
  (.done))))
  (.nil)))
  (.nil))))
  (.nil)))))) [0, 2] []
def ir21_s1 : S := .rgT 8 (.one 0 (.op (some 68) (.c (.fldA 5 5 (.t 2))))
  (.one 2 (.op (some 70) (.c (.mv (.t 0))))
  (.br (.cons 1 (.op (some 69) (.c (.ld 1 false (.t 68)))) (.one 3 (.op (some 71) (.call 67 [(.t 70)]))
  (.one 4 (.op (some 72) (.bls 4 [.agg [.nils, .str [], .nils, .int .i64 0]] [(0, (.t 71))]))
  (.one 5 (.op (some 73) (.app 96 4 72 (.t 69) (.t 72)))
  (.one 6 (.op (some 74) (.c (.fldA 5 5 (.t 2))))
  (.one 7 (.op none (.st 1 (.t 74) (.t 73)))
  (.done))))))
  (.cons 3 (.op (some 71) (.call 67 [(.t 70)])) (.br (.cons 1 (.op (some 69) (.c (.ld 1 false (.t 68)))) (.one 4 (.op (some 72) (.bls 4 [.agg [.nils, .str [], .nils, .int .i64 0]] [(0, (.t 71))]))
  (.one 5 (.op (some 73) (.app 96 4 72 (.t 69) (.t 72)))
  (.one 6 (.op (some 74) (.c (.fldA 5 5 (.t 2))))
  (.one 7 (.op none (.st 1 (.t 74) (.t 73)))
  (.done)))))
  (.cons 4 (.op (some 72) (.bls 4 [.agg [.nils, .str [], .nils, .int .i64 0]] [(0, (.t 71))])) (.br (.cons 1 (.op (some 69) (.c (.ld 1 false (.t 68)))) (.one 5 (.op (some 73) (.app 96 4 72 (.t 69) (.t 72)))
  (.one 6 (.op (some 74) (.c (.fldA 5 5 (.t 2))))
  (.one 7 (.op none (.st 1 (.t 74) (.t 73)))
  (.done))))
  (.nil)))
  (.nil))))
  (.nil)))))) [0, 2] []
def ir21_s2 : S := .cond (.t 60) (.seq (.rg [] [.op (some 63) (.c (.mv (.t 0))),
   .op (some 64) (.c (.fldA 5 5 (.t 2))),
   .op (some 65) (.c (.ld 1 false (.t 64))),
   .op (some 66) (.c (.lenL (.t 65))),
   .op (some 67) (.call 58 [(.t 63), (.t 66), (.int .i64 8)])] [0, 2] [])
 (ir21_s1)) (.rg [] [.op (some 43) (.c (.mv (.t 0))),
   .op (some 44) (.call 25 [(.t 43), (.int .i64 100)])] [0, 2] [])
def ir21_s3 : S := .cond (.t 45) (.seq (.rg [] [.op (some 48) (.c (.mv (.t 0))),
   .op (some 49) (.c (.fldA 4 4 (.t 2))),
   .op (some 50) (.c (.ld 1 false (.t 49))),
   .op (some 51) (.c (.lenL (.t 50))),
   .op (some 52) (.call 58 [(.t 48), (.t 51), (.int .i64 12)])] [0, 2] [])
 (ir21_s0)) (.seq (.rg [] [.op (some 61) (.c (.mv (.t 0))),
   .op (some 62) (.call 65 [(.t 61), (.int .i64 1), (.str [100, 101, 112, 101, 110, 100])]),
   .op (some 60) (.c (.mv (.t 62)))] [0, 2, 60] [])
 (ir21_s2))
def ir21_s4 : S := .cond (.t 42) (.skip) (.exit 0)
def ir21_s5 : S := .block 1 (.block 2 (.seq (.rg [] [.op (some 46) (.c (.mv (.t 0))),
   .op (some 47) (.call 65 [(.t 46), (.int .i64 1), (.str [102, 105, 101, 108, 100])]),
   .op (some 45) (.c (.mv (.t 47)))] [0, 2, 45] [])
 (ir21_s3)))
def ir21_l6 : S := .seq (.seq (.rg [] [.op (some 40) (.c (.mv (.t 0))),
   .op (some 41) (.call 62 [(.t 40), (.int .i64 3), (.str [125])]),
   .op (some 42) (.c (.not (.t 41)))] [0, 2, 42] [])
 (ir21_s4))
 (ir21_s5)
def ir21_s7 : S := .seq (.block 0 (.loop [0, 2] ir21_l6))
 (.rgT 13 (.one 0 (.op (some 75) (.c (.mv (.t 0))))
  (.one 1 (.op (some 76) (.c (.mv (.t 0))))
  (.one 2 (.op (some 77) (.c (.nilc (.t 76))))
  (.one 3 (.op (some 78) (.c (.fldA 2 2 (.t 77))))
  (.one 4 (.op (some 79) (.c (.fldA 2 2 (.t 78))))
  (.br (.cons 5 (.op (some 80) (.c (.ld 1 false (.t 79)))) (.one 6 (.op (some 81) (.ldf 6 true (.t 2)))
  (.one 7 (.op (some 82) (.bls 6 [.agg [.str [], .str [], .int .i64 0, .int .i64 0, .nils, .nils]] [(0, (.t 81))]))
  (.one 8 (.op (some 83) (.app 79 6 96 (.t 80) (.t 82)))
  (.one 9 (.op (some 84) (.c (.nilc (.t 75))))
  (.one 10 (.op (some 85) (.c (.fldA 2 2 (.t 84))))
  (.one 11 (.op (some 86) (.c (.fldA 2 2 (.t 85))))
  (.one 12 (.op none (.st 1 (.t 86) (.t 83)))
  (.done))))))))
  (.cons 6 (.op (some 81) (.ldf 6 true (.t 2))) (.br (.cons 5 (.op (some 80) (.c (.ld 1 false (.t 79)))) (.one 7 (.op (some 82) (.bls 6 [.agg [.str [], .str [], .int .i64 0, .int .i64 0, .nils, .nils]] [(0, (.t 81))]))
  (.one 8 (.op (some 83) (.app 79 6 96 (.t 80) (.t 82)))
  (.one 9 (.op (some 84) (.c (.nilc (.t 75))))
  (.one 10 (.op (some 85) (.c (.fldA 2 2 (.t 84))))
  (.one 11 (.op (some 86) (.c (.fldA 2 2 (.t 85))))
  (.one 12 (.op none (.st 1 (.t 86) (.t 83)))
  (.done)))))))
  (.cons 7 (.op (some 82) (.bls 6 [.agg [.str [], .str [], .int .i64 0, .int .i64 0, .nils, .nils]] [(0, (.t 81))])) (.br (.cons 5 (.op (some 80) (.c (.ld 1 false (.t 79)))) (.one 8 (.op (some 83) (.app 79 6 96 (.t 80) (.t 82)))
  (.one 9 (.op (some 84) (.c (.nilc (.t 75))))
  (.one 10 (.op (some 85) (.c (.fldA 2 2 (.t 84))))
  (.one 11 (.op (some 86) (.c (.fldA 2 2 (.t 85))))
  (.one 12 (.op none (.st 1 (.t 86) (.t 83)))
  (.done))))))
  (.nil)))
  (.nil))))
  (.nil))))))))) [] [])
def ir21_s8 : S := .seq (.rg [] [.op (some 35) (.c (.ld 11 true (.t 3))),
   .op (some 36) (.blo 93 11 [.agg [.str [], .agg [.int .i64 0, .int .i64 0, .int .i64 0, .str [], .int .i64 0, .nils], .agg (List.replicate 4 (.int .i64 0))]] [(0, (.t 35))]),
   .op (some 37) (.c (.fldA 4 4 (.t 2))),
   .op none (.st 1 (.t 37) (.t 36))] [0, 2] [])
 (.seq (.rg [] [.op (some 38) (.mvg 96 4 (.t 0) (.t 2) [5]),
   .op (some 39) (.call 61 [(.t 38), (.str [123])])] [0, 2] [])
 (ir21_s7))
def ir21_s9 : S := .seq (.rg [] [.op (some 30) (.c (.bld [.int .i64 0, .int .i64 0, .int .i64 0, .str [], .int .i64 0, .nils] [(0, (.int .i64 3)), (2, (.int .i64 4095))])),
   .op (some 31) (.c (.bld [.str [], .agg [.int .i64 0, .int .i64 0, .int .i64 0, .str [], .int .i64 0, .nils], .agg (List.replicate 4 (.int .i64 0))] [(0, (.str [115, 101, 108, 102])), (1, (.t 30))])),
   .op (some 3) (.alloc 93 (.agg [.str [], .agg [.int .i64 0, .int .i64 0, .int .i64 0, .str [], .int .i64 0, .nils], .agg (List.replicate 4 (.int .i64 0))])),
   .op none (.st 11 (.t 3) (.t 31))] [0, 2, 3] [])
 (.seq (.rg [] [.op (some 32) (.c (.mv (.t 0))),
   .op (some 33) (.call 64 [(.t 32)]),
   .op (some 34) (.c (.fldA 2 7 (.t 3))),
   .op none (.st 4 (.t 34) (.t 33))] [0, 2, 3] [])
 (ir21_s8))
def ir21_s10 : S := .seq (.rg [] [.op (some 28) (.c (.mv (.t 0))),
   .op (some 29) (.call 59 [(.t 28), (.str [115, 101, 108, 102])])] [0, 2] [])
 (ir21_s9)
def ir21_s11 : S := .seq (.rg [] [.op (some 24) (.c (.mv (.t 0))),
   .op (some 25) (.gld 1 2 true (.agg [.int .i64 1, .int .i64 255])),
   .op (some 26) (.call 63 [(.t 24), (.t 25)]),
   .op (some 27) (.c (.fldA 3 3 (.t 2))),
   .op none (.st 1 (.t 27) (.t 26))] [0, 2] [])
 (ir21_s10)
def ir21_s12 : S := .seq (.rg [] [.op (some 22) (.c (.mv (.t 0))),
   .op (some 23) (.call 59 [(.t 22), (.str [118, 101, 114, 115, 105, 111, 110])])] [0, 2] [])
 (ir21_s11)
def ir21_s13 : S := .seq (.rg [] [.op (some 19) (.c (.mv (.t 0))),
   .op (some 20) (.call 60 [(.t 19)]),
   .op (some 21) (.c (.fldA 1 1 (.t 2))),
   .op none (.st 1 (.t 21) (.t 20))] [0, 2] [])
 (ir21_s12)
def ir21_s14 : S := .seq (.rg [] [.op (some 17) (.c (.mv (.t 0))),
   .op (some 18) (.call 59 [(.t 17), (.str [98, 121])])] [0, 2] [])
 (ir21_s13)
def ir21_s15 : S := .seq (.rg [] [.op (some 14) (.c (.mv (.t 0))),
   .op (some 15) (.call 60 [(.t 14)]),
   .op (some 16) (.c (.bld [.str [], .str [], .int .i64 0, .int .i64 0, .nils, .nils] [(0, (.t 15))])),
   .op (some 2) (.alloc 79 (.agg [.str [], .str [], .int .i64 0, .int .i64 0, .nils, .nils])),
   .op none (.st 6 (.t 2) (.t 16))] [0, 2] [])
 (ir21_s14)
def ir21_s16 : S := .seq (.rg [] [.op (some 12) (.c (.mv (.t 0))),
   .op (some 13) (.call 59 [(.t 12), (.str [115, 99, 104, 101, 109, 97])])] [0] [])
 (ir21_s15)
def ir21 : S := .seq (.rg [] [.op (some 4) (.c (.mv (.t 0))),
   .op (some 5) (.c (.mv (.t 0))),
   .op (some 6) (.c (.nilc (.t 5))),
   .op (some 7) (.c (.fldA 2 2 (.t 6))),
   .op (some 8) (.c (.fldA 2 2 (.t 7))),
   .op (some 9) (.c (.ld 1 false (.t 8))),
   .op (some 10) (.c (.lenL (.t 9))),
   .op (some 11) (.call 58 [(.t 4), (.t 10), (.int .i64 16)])] [0] [])
 (ir21_s16)
theorem ok21 : fnOk Tryz.prog 21 1 ir21 [] = true := by kernel_rfl
def ir22_s0 : S := .rg [0, 1, 2, 3, 4, 5, 6, 7, 8, 9, 10, 11, 12] [.op (some 46) (.c (.mv (.t 0))),
   .op (some 47) (.c (.mv (.t 0))),
   .op (some 48) (.c (.nilc (.t 47))),
   .op (some 49) (.c (.fldA 2 2 (.t 48))),
   .op (some 50) (.c (.fldA 3 3 (.t 49))),
   .op (some 51) (.c (.ld 1 false (.t 50))),
   .op (some 52) (.c (.ld 5 true (.t 2))),
   .op (some 53) (.bls 5 [.agg [.str [], .int .i64 0, .nils, .nils, .nils]] [(0, (.t 52))]),
   .op (some 54) (.app 50 5 96 (.t 51) (.t 53)),
   .op (some 55) (.c (.nilc (.t 46))),
   .op (some 56) (.c (.fldA 2 2 (.t 55))),
   .op (some 57) (.c (.fldA 3 3 (.t 56))),
   .op none (.st 1 (.t 57) (.t 54))] [] []
def ir22_s1 : S := .seq (.rg [] [.op (some 44) (.c (.mv (.t 0))),
   .op (some 45) (.call 61 [(.t 44), (.str [125])])] [0, 2] [])
 (ir22_s0)
def ir22_s2 : S := .seq (.rg [] [.op (some 37) (.c (.mv (.t 0))),
   .op (some 38) (.c (.mv (.t 0))),
   .op (some 39) (.call 69 [(.t 38), (.str [115, 101, 116])]),
   .op (some 40) (.c (.mv (.t 0))),
   .op (some 41) (.c (.mkf 74 [(.t 40)] [])),
   .op (some 42) (.call 73 [(.t 37), (.int .i64 11), (.t 39), (.t 41)]),
   .op (some 43) (.c (.fldA 4 4 (.t 2))),
   .op none (.st 1 (.t 43) (.t 42))] [0, 2] [])
 (ir22_s1)
def ir22_s3 : S := .seq (.rg [] [.op (some 30) (.c (.mv (.t 0))),
   .op (some 31) (.c (.mv (.t 0))),
   .op (some 32) (.call 69 [(.t 31), (.str [119, 104, 101, 114, 101])]),
   .op (some 33) (.c (.mv (.t 0))),
   .op (some 34) (.c (.mkf 72 [(.t 33)] [])),
   .op (some 35) (.call 71 [(.t 30), (.int .i64 8), (.t 32), (.t 34)]),
   .op (some 36) (.c (.fldA 3 3 (.t 2))),
   .op none (.st 1 (.t 36) (.t 35))] [0, 2] [])
 (ir22_s2)
def ir22_s4 : S := .seq (.rg [] [.op (some 23) (.c (.mv (.t 0))),
   .op (some 24) (.c (.mv (.t 0))),
   .op (some 25) (.call 69 [(.t 24), (.str [102, 114, 111, 109])]),
   .op (some 26) (.c (.mv (.t 0))),
   .op (some 27) (.c (.mkf 70 [(.t 26)] [])),
   .op (some 28) (.call 68 [(.t 23), (.int .i64 3), (.t 25), (.t 27)]),
   .op (some 29) (.c (.fldA 2 2 (.t 2))),
   .op none (.st 1 (.t 29) (.t 28))] [0, 2] [])
 (ir22_s3)
def ir22_s5 : S := .cond (.t 20) (.rg [] [.op (some 21) (.c (.mv (.t 0))),
   .op (some 22) (.call 25 [(.t 21), (.int .i64 100)])] [0, 2] []) (.skip)
def ir22_s6 : S := .seq (.seq (.rg [] [.op (some 18) (.c (.mv (.t 0))),
   .op (some 19) (.call 65 [(.t 18), (.int .i64 1), (.str [102, 114, 111, 109])]),
   .op (some 20) (.c (.not (.t 19)))] [0, 2, 20] [])
 (ir22_s5))
 (ir22_s4)
def ir22_s7 : S := .seq (.rg [] [.op (some 16) (.c (.mv (.t 0))),
   .op (some 17) (.call 61 [(.t 16), (.str [123])])] [0, 2] [])
 (ir22_s6)
def ir22_s8 : S := .seq (.rg [] [.op (some 13) (.c (.mv (.t 0))),
   .op (some 14) (.call 60 [(.t 13)]),
   .op (some 15) (.c (.bld [.str [], .int .i64 0, .nils, .nils, .nils] [(0, (.t 14))])),
   .op (some 2) (.alloc 50 (.agg [.str [], .int .i64 0, .nils, .nils, .nils])),
   .op none (.st 5 (.t 2) (.t 15))] [0, 2] [])
 (ir22_s7)
def ir22_s9 : S := .seq (.rg [] [.op (some 11) (.c (.mv (.t 0))),
   .op (some 12) (.call 59 [(.t 11), (.str [100, 101, 114, 105, 118, 101])])] [0] [])
 (ir22_s8)
def ir22 : S := .seq (.rg [] [.op (some 3) (.c (.mv (.t 0))),
   .op (some 4) (.c (.mv (.t 0))),
   .op (some 5) (.c (.nilc (.t 4))),
   .op (some 6) (.c (.fldA 2 2 (.t 5))),
   .op (some 7) (.c (.fldA 3 3 (.t 6))),
   .op (some 8) (.c (.ld 1 false (.t 7))),
   .op (some 9) (.c (.lenL (.t 8))),
   .op (some 10) (.call 58 [(.t 3), (.t 9), (.int .i64 16)])] [0] [])
 (ir22_s9)
theorem ok22 : fnOk Tryz.prog 22 1 ir22 [] = true := by kernel_rfl
def ir23_s0 : S := .rg [0, 1, 2, 3, 4, 5, 6, 7, 8, 9, 10, 11, 12] [.op (some 32) (.c (.mv (.t 0))),
   .op (some 33) (.c (.mv (.t 0))),
   .op (some 34) (.c (.nilc (.t 33))),
   .op (some 35) (.c (.fldA 2 2 (.t 34))),
   .op (some 36) (.c (.fldA 4 4 (.t 35))),
   .op (some 37) (.c (.ld 1 false (.t 36))),
   .op (some 38) (.c (.ld 5 true (.t 2))),
   .op (some 39) (.bls 5 [.agg [.str [], .str [], .int .i64 0, .int .i64 0, .nils]] [(0, (.t 38))]),
   .op (some 40) (.app 84 5 72 (.t 37) (.t 39)),
   .op (some 41) (.c (.nilc (.t 32))),
   .op (some 42) (.c (.fldA 2 2 (.t 41))),
   .op (some 43) (.c (.fldA 4 4 (.t 42))),
   .op none (.st 1 (.t 43) (.t 40))] [] []
def ir23_s1 : S := .seq (.rg [] [.op (some 30) (.c (.mv (.t 0))),
   .op (some 31) (.call 61 [(.t 30), (.str [125])])] [0, 2] [])
 (ir23_s0)
def ir23_s2 : S := .seq (.rg [] [.op (some 23) (.c (.mv (.t 0))),
   .op (some 24) (.c (.mv (.t 0))),
   .op (some 25) (.call 69 [(.t 24), (.str [])]),
   .op (some 26) (.c (.mv (.t 0))),
   .op (some 27) (.c (.mkf 76 [(.t 26)] [])),
   .op (some 28) (.call 75 [(.t 23), (.int .i64 11), (.t 25), (.t 27)]),
   .op (some 29) (.c (.fldA 4 4 (.t 2))),
   .op none (.st 1 (.t 29) (.t 28))] [0, 2] [])
 (ir23_s1)
def ir23_s3 : S := .seq (.rg [] [.op (some 21) (.c (.mv (.t 0))),
   .op (some 22) (.call 61 [(.t 21), (.str [123])])] [0, 2] [])
 (ir23_s2)
def ir23_s4 : S := .seq (.rg [] [.op (some 18) (.c (.mv (.t 0))),
   .op (some 19) (.call 60 [(.t 18)]),
   .op (some 20) (.c (.fldA 1 1 (.t 2))),
   .op none (.st 1 (.t 20) (.t 19))] [0, 2] [])
 (ir23_s3)
def ir23_s5 : S := .seq (.rg [] [.op (some 16) (.c (.mv (.t 0))),
   .op (some 17) (.call 59 [(.t 16), (.str [116, 111])])] [0, 2] [])
 (ir23_s4)
def ir23_s6 : S := .seq (.rg [] [.op (some 13) (.c (.mv (.t 0))),
   .op (some 14) (.call 60 [(.t 13)]),
   .op (some 15) (.c (.bld [.str [], .str [], .int .i64 0, .int .i64 0, .nils] [(0, (.t 14))])),
   .op (some 2) (.alloc 84 (.agg [.str [], .str [], .int .i64 0, .int .i64 0, .nils])),
   .op none (.st 5 (.t 2) (.t 15))] [0, 2] [])
 (ir23_s5)
def ir23_s7 : S := .seq (.rg [] [.op (some 11) (.c (.mv (.t 0))),
   .op (some 12) (.call 59 [(.t 11), (.str [99, 111, 110, 118, 101, 114, 116])])] [0] [])
 (ir23_s6)
def ir23 : S := .seq (.rg [] [.op (some 3) (.c (.mv (.t 0))),
   .op (some 4) (.c (.mv (.t 0))),
   .op (some 5) (.c (.nilc (.t 4))),
   .op (some 6) (.c (.fldA 2 2 (.t 5))),
   .op (some 7) (.c (.fldA 4 4 (.t 6))),
   .op (some 8) (.c (.ld 1 false (.t 7))),
   .op (some 9) (.c (.lenL (.t 8))),
   .op (some 10) (.call 58 [(.t 3), (.t 9), (.int .i64 16)])] [0] [])
 (ir23_s7)
theorem ok23 : fnOk Tryz.prog 23 1 ir23 [] = true := by kernel_rfl
def ir24_s0 : S := .rg [0, 1, 2, 3, 4, 5, 6, 7, 8, 9, 10, 11, 12] [.op (some 35) (.c (.mv (.t 0))),
   .op (some 36) (.c (.mv (.t 0))),
   .op (some 37) (.c (.nilc (.t 36))),
   .op (some 38) (.c (.fldA 2 2 (.t 37))),
   .op (some 39) (.c (.fldA 5 5 (.t 38))),
   .op (some 40) (.c (.ld 1 false (.t 39))),
   .op (some 41) (.c (.ld 3 true (.t 2))),
   .op (some 42) (.bls 3 [.agg [.str [], .nils, .int .i64 0]] [(0, (.t 41))]),
   .op (some 43) (.app 88 3 48 (.t 40) (.t 42)),
   .op (some 44) (.c (.nilc (.t 35))),
   .op (some 45) (.c (.fldA 2 2 (.t 44))),
   .op (some 46) (.c (.fldA 5 5 (.t 45))),
   .op none (.st 1 (.t 46) (.t 43))] [] []
def ir24_s1 : S := .seq (.rg [] [.op (some 33) (.c (.mv (.t 0))),
   .op (some 34) (.call 61 [(.t 33), (.str [125])])] [0, 2] [])
 (ir24_s0)
def ir24_s2 : S := .seq (.rg [] [.op (some 31) (.c (.mv (.t 0))),
   .op (some 32) (.call 61 [(.t 31), (.str [59])])] [0, 2] [])
 (ir24_s1)
def ir24_s3 : S := .seq (.rg [] [.op (some 27) (.c (.mv (.t 0))),
   .op (some 28) (.gld 2 2 true (.agg [.int .i64 0, .int .i64 32])),
   .op (some 29) (.call 63 [(.t 27), (.t 28)]),
   .op (some 30) (.c (.fldA 2 2 (.t 2))),
   .op none (.st 1 (.t 30) (.t 29))] [0, 2] [])
 (ir24_s2)
def ir24_s4 : S := .seq (.rg [] [.op (some 25) (.c (.mv (.t 0))),
   .op (some 26) (.call 59 [(.t 25), (.str [109, 111, 115, 116])])] [0, 2] [])
 (ir24_s3)
def ir24_s5 : S := .seq (.rg [] [.op (some 18) (.c (.mv (.t 0))),
   .op (some 19) (.c (.mv (.t 0))),
   .op (some 20) (.call 69 [(.t 19), (.str [109, 97, 121])]),
   .op (some 21) (.c (.mv (.t 0))),
   .op (some 22) (.c (.mkf 78 [(.t 21)] [])),
   .op (some 23) (.call 77 [(.t 18), (.int .i64 32), (.t 20), (.t 22)]),
   .op (some 24) (.c (.fldA 1 1 (.t 2))),
   .op none (.st 1 (.t 24) (.t 23))] [0, 2] [])
 (ir24_s4)
def ir24_s6 : S := .seq (.rg [] [.op (some 16) (.c (.mv (.t 0))),
   .op (some 17) (.call 61 [(.t 16), (.str [123])])] [0, 2] [])
 (ir24_s5)
def ir24_s7 : S := .seq (.rg [] [.op (some 13) (.c (.mv (.t 0))),
   .op (some 14) (.call 60 [(.t 13)]),
   .op (some 15) (.c (.bld [.str [], .nils, .int .i64 0] [(0, (.t 14))])),
   .op (some 2) (.alloc 88 (.agg [.str [], .nils, .int .i64 0])),
   .op none (.st 3 (.t 2) (.t 15))] [0, 2] [])
 (ir24_s6)
def ir24_s8 : S := .seq (.rg [] [.op (some 11) (.c (.mv (.t 0))),
   .op (some 12) (.call 59 [(.t 11), (.str [112, 117, 114, 112, 111, 115, 101])])] [0] [])
 (ir24_s7)
def ir24 : S := .seq (.rg [] [.op (some 3) (.c (.mv (.t 0))),
   .op (some 4) (.c (.mv (.t 0))),
   .op (some 5) (.c (.nilc (.t 4))),
   .op (some 6) (.c (.fldA 2 2 (.t 5))),
   .op (some 7) (.c (.fldA 5 5 (.t 6))),
   .op (some 8) (.c (.ld 1 false (.t 7))),
   .op (some 9) (.c (.lenL (.t 8))),
   .op (some 10) (.call 58 [(.t 3), (.t 9), (.int .i64 8)])] [0] [])
 (ir24_s8)
theorem ok24 : fnOk Tryz.prog 24 1 ir24 [] = true := by kernel_rfl
end Go.Proofs.YtanpgmgkmfckaaaGreatDoor
/- The same statements with their regions folded into expressions, printed by the fold itself; that they are that is checked by the kernel. No condition. -/
namespace Go.Proofs.YtanpgmgkmfckaaaGreatDoor
open Go Go.Ab
set_option maxRecDepth 100000
def lt9_s0 : S2 := .rg [.lt 58 [] (.a (.t 7)), .lt 57 [] (.a (.t 8)), .op (some 59) (.callv (.t 57) [(.t 58)])] [(2, (.a (.t 2))), (3, (.a (.t 3))), (4, (.a (.t 4))), (6, (.a (.t 6))), (7, (.a (.t 7)))] [2, 3, 4]
def lt9_l1 : S2 := .seq (.seq (.rg [] [(2, (.a (.t 2))), (3, (.a (.t 3))), (4, (.a (.t 4))), (6, (.a (.t 6))), (7, (.a (.t 7))), (33, (.b (.bin .gtr (.t 0) (.t 1)) (.u (.lenL (.t 0)) (.u (.ld 1 false (.t 0)) (.u (.fldA 0 0 (.t 0)) (.u (.nilc (.t 0)) (.a (.t 7)))))) (.a (.int .i64 0))))] [2, 3, 4])
 (.cond (.t 33) (.skip) (.exit 0)))
 (.block 1 (.seq (.rg [.chk [] (.u (.ld 1 false (.t 0)) (.u (.fldA 1 1 (.t 0)) (.b (.idxA 4 (.t 0) (.t 1)) (.u (.ld 1 false (.t 0)) (.u (.fldA 0 0 (.t 0)) (.u (.nilc (.t 0)) (.a (.t 7))))) (.a (.int .i64 0))))), .lt 41 [] (.u (.ld 1 false (.t 0)) (.u (.fldA 1 1 (.t 0)) (.b (.idxA 4 (.t 0) (.t 1)) (.u (.ld 1 false (.t 0)) (.u (.fldA 0 0 (.t 0)) (.u (.nilc (.t 0)) (.a (.t 7))))) (.a (.int .i64 0))))), .lt 34 [] (.a (.t 6)), .op (some 42) (.lkp (.str []) .nilf false (.t 34) (.t 41))] [(2, (.a (.t 2))), (3, (.a (.t 3))), (4, (.a (.t 4))), (6, (.a (.t 6))), (7, (.a (.t 7))), (8, (.a (.t 42)))] [2, 3, 4])
 (.seq (.seq (.rg [] [(2, (.a (.t 2))), (3, (.a (.t 3))), (4, (.a (.t 4))), (6, (.a (.t 6))), (7, (.a (.t 7))), (8, (.a (.t 8))), (54, (.ite (.u (.fnil true (.t 0)) (.a (.t 8))) (.a (.bool true)) (.b (.bin .neq (.t 0) (.t 1)) (.u (.ld 1 false (.t 0)) (.u (.fldA 0 0 (.t 0)) (.b (.idxA 4 (.t 0) (.t 1)) (.u (.ld 1 false (.t 0)) (.u (.fldA 0 0 (.t 0)) (.u (.nilc (.t 0)) (.a (.t 7))))) (.a (.int .i64 0))))) (.a (.int .i64 1)))))] [2, 3, 4])
 (.cond (.t 54) (.rg [.lt 55 [] (.a (.t 7)), .op (some 56) (.call 25 [(.t 55), (.int .i64 100)])] [(2, (.a (.t 2))), (3, (.a (.t 3))), (4, (.a (.t 4))), (6, (.a (.t 6))), (7, (.a (.t 7))), (8, (.a (.t 8)))] [2, 3, 4]) (.skip)))
 (lt9_s0))))
def lt9 : FS2 := .pre (.rg [.op (some 2) (.alloc 30 (.agg [.nils, .nils, .nils, .nils, .nils, .nils])), .op (some 3) (.alloc 3 (.int .i64 0)), .op (some 4) (.alloc 31 (.int .i64 0))] [(0, (.a (.t 0))), (2, (.a (.t 2))), (3, (.a (.t 3))), (4, (.a (.t 4)))] [])
 (.pre (.rg [.chk [] (.u (.ext (.t 0) 0) (.call 15 (.cons (.a (.t 0)) .nil))), .chk [] (.u (.ext (.t 0) 2) (.call 15 (.cons (.a (.t 0)) .nil))), .chk [] (.u (.ext (.t 0) 1) (.call 15 (.cons (.a (.t 0)) .nil))), .lt 13 [] (.u (.ext (.t 0) 1) (.call 15 (.cons (.a (.t 0)) .nil))), .op none (.st 1 (.t 3) (.t 13)), .lt 14 [] (.u (.ext (.t 0) 2) (.call 15 (.cons (.a (.t 0)) .nil))), .op none (.st 1 (.t 4) (.t 14))] [(0, (.a (.t 0))), (2, (.a (.t 2))), (3, (.a (.t 3))), (4, (.a (.t 4))), (5, (.u (.ext (.t 0) 0) (.call 15 (.cons (.a (.t 0)) .nil))))] [])
 (.pre (.seq (.rg [] [(0, (.a (.t 0))), (2, (.a (.t 2))), (3, (.a (.t 3))), (4, (.a (.t 4))), (5, (.a (.t 5))), (16, (.b (.bin .neq (.t 0) (.t 1)) (.u (.ld 1 false (.t 0)) (.a (.t 4))) (.a (.int .i64 0))))] [])
 (.cond (.t 16) (.seq (.rgT (.one 0 (.op (some 17) (.c (.ld 6 true (.t 2))))
  (.br (.cons 1 (.op (some 18) (.c (.ld 1 false (.t 3)))) (.br (.cons 2 (.op (some 19) (.c (.ld 1 false (.t 4)))) (.one 3 (.op none (.st 6 (.t 2) (.t 17)))
  (.one 4 (.op none (.st 1 (.t 3) (.t 18)))
  (.one 5 (.op none (.st 1 (.t 4) (.t 19)))
  (.done))))
  (.cons 3 (.op none (.st 6 (.t 2) (.t 17))) (.br (.cons 2 (.op (some 19) (.c (.ld 1 false (.t 4)))) (.one 4 (.op none (.st 1 (.t 3) (.t 18)))
  (.one 5 (.op none (.st 1 (.t 4) (.t 19)))
  (.done)))
  (.cons 4 (.op none (.st 1 (.t 3) (.t 18))) (.br (.cons 2 (.op (some 19) (.c (.ld 1 false (.t 4)))) (.one 5 (.op none (.st 1 (.t 4) (.t 19)))
  (.done))
  (.nil)))
  (.nil))))
  (.nil))))
  (.cons 2 (.op (some 19) (.c (.ld 1 false (.t 4)))) (.br (.cons 1 (.op (some 18) (.c (.ld 1 false (.t 3)))) (.one 3 (.op none (.st 6 (.t 2) (.t 17)))
  (.one 4 (.op none (.st 1 (.t 3) (.t 18)))
  (.one 5 (.op none (.st 1 (.t 4) (.t 19)))
  (.done))))
  (.cons 3 (.op none (.st 6 (.t 2) (.t 17))) (.br (.cons 1 (.op (some 18) (.c (.ld 1 false (.t 3)))) (.one 4 (.op none (.st 1 (.t 3) (.t 18)))
  (.one 5 (.op none (.st 1 (.t 4) (.t 19)))
  (.done)))
  (.nil)))
  (.nil))))
  (.cons 3 (.op none (.st 6 (.t 2) (.t 17))) (.br (.cons 1 (.op (some 18) (.c (.ld 1 false (.t 3)))) (.br (.cons 2 (.op (some 19) (.c (.ld 1 false (.t 4)))) (.one 4 (.op none (.st 1 (.t 3) (.t 18)))
  (.one 5 (.op none (.st 1 (.t 4) (.t 19)))
  (.done)))
  (.cons 4 (.op none (.st 1 (.t 3) (.t 18))) (.br (.cons 2 (.op (some 19) (.c (.ld 1 false (.t 4)))) (.one 5 (.op none (.st 1 (.t 4) (.t 19)))
  (.done))
  (.nil)))
  (.nil))))
  (.cons 2 (.op (some 19) (.c (.ld 1 false (.t 4)))) (.br (.cons 1 (.op (some 18) (.c (.ld 1 false (.t 3)))) (.one 4 (.op none (.st 1 (.t 3) (.t 18)))
  (.one 5 (.op none (.st 1 (.t 4) (.t 19)))
  (.done)))
  (.nil)))
  (.nil))))
  (.nil)))))) [2, 3, 4] [])
 (.ret)) (.skip)))
 (.dfr [.op (some 20) (.c (.mkf 18 [] [(.t 2), (.t 3), (.t 4)]))] [(0, (.a (.t 0))), (2, (.a (.t 2))), (3, (.a (.t 3))), (4, (.a (.t 4))), (5, (.a (.t 5))), (20, (.a (.t 20)))] 20
 (.seq (.rg [.op (some 21) (.mkm none), .op none (.mset (.str []) (.t 21) (.str [105, 115, 115, 117, 101, 114]) (.fn 19)), .op none (.mset (.str []) (.t 21) (.str [117, 110, 105, 116]) (.fn 20)), .op none (.mset (.str []) (.t 21) (.str [115, 99, 104, 101, 109, 97]) (.fn 21)), .op none (.mset (.str []) (.t 21) (.str [100, 101, 114, 105, 118, 101]) (.fn 22)), .op none (.mset (.str []) (.t 21) (.str [99, 111, 110, 118, 101, 114, 116]) (.fn 23)), .op none (.mset (.str []) (.t 21) (.str [112, 117, 114, 112, 111, 115, 101]) (.fn 24))] [(0, (.a (.t 0))), (2, (.a (.t 2))), (3, (.a (.t 3))), (4, (.a (.t 4))), (5, (.a (.t 5))), (6, (.a (.t 21)))] [2, 3, 4])
 (.seq (.rg [.chk [] (.u (.lenS (.t 0)) (.a (.t 0))), .lt 25 [] (.u (.lenS (.t 0)) (.a (.t 0))), .lt 23 [] (.a (.t 5)), .op (some 26) (.c (.bld [.nils, (.int .i64 0), (.agg [.nils, .nils, .nils, .nils, .nils, .nils])] [(0, (.t 23)), (1, (.t 25))])), .op (some 27) (.box 66 (.t 26)), .op (some 7) (.mvn (.t 27) (.t 27) [(9, 1, [2, 0]), (74, 5, [2, 1]), (79, 6, [2, 2]), (50, 5, [2, 3]), (84, 5, [2, 4]), (88, 3, [2, 5])])] [(2, (.a (.t 2))), (3, (.a (.t 3))), (4, (.a (.t 4))), (6, (.a (.t 6))), (7, (.a (.t 7)))] [2, 3, 4])
 (.seq (.block 0 (.loop [2, 3, 4, 6, 7] lt9_l1))
 (.seq (.rg [.chk [] (.u (.fldA 2 2 (.t 0)) (.u (.nilc (.t 0)) (.a (.t 7)))), .lt 62 [] (.u (.fldA 2 2 (.t 0)) (.u (.nilc (.t 0)) (.a (.t 7)))), .op (some 63) (.ldf 6 true (.t 62)), .op none (.st 6 (.t 2) (.t 63)), .op none (.st 1 (.t 3) (.int .i64 0)), .op none (.st 1 (.t 4) (.int .i64 0))] [(2, (.a (.t 2))), (3, (.a (.t 3))), (4, (.a (.t 4)))] [2, 3, 4])
 (.ret))))))))
theorem lf9 : ir9.lift [15] = some lt9 := by kernel_rfl
def lt21_s0 : S2 := .rgT (.one 0 (.op (some 53) (.c (.fldA 4 4 (.t 2))))
  (.one 2 (.op (some 55) (.c (.mv (.t 0))))
  (.br (.cons 1 (.op (some 54) (.c (.ld 1 false (.t 53)))) (.one 3 (.op (some 56) (.call 66 [(.t 55)]))
  (.one 4 (.op (some 57) (.bls 11 [.agg [.str [], .agg [.int .i64 0, .int .i64 0, .int .i64 0, .str [], .int .i64 0, .nils], .agg (List.replicate 4 (.int .i64 0))]] [(0, (.t 56))]))
  (.one 5 (.op (some 58) (.app 93 11 120 (.t 54) (.t 57)))
  (.one 6 (.op (some 59) (.c (.fldA 4 4 (.t 2))))
  (.one 7 (.op none (.st 1 (.t 59) (.t 58)))
  (.done))))))
  (.cons 3 (.op (some 56) (.call 66 [(.t 55)])) (.br (.cons 1 (.op (some 54) (.c (.ld 1 false (.t 53)))) (.one 4 (.op (some 57) (.bls 11 [.agg [.str [], .agg [.int .i64 0, .int .i64 0, .int .i64 0, .str [], .int .i64 0, .nils], .agg (List.replicate 4 (.int .i64 0))]] [(0, (.t 56))]))
  (.one 5 (.op (some 58) (.app 93 11 120 (.t 54) (.t 57)))
  (.one 6 (.op (some 59) (.c (.fldA 4 4 (.t 2))))
  (.one 7 (.op none (.st 1 (.t 59) (.t 58)))
  (.done)))))
  (.cons 4 (.op (some 57) (.bls 11 [.agg [.str [], .agg [.int .i64 0, .int .i64 0, .int .i64 0, .str [], .int .i64 0, .nils], .agg (List.replicate 4 (.int .i64 0))]] [(0, (.t 56))])) (.br (.cons 1 (.op (some 54) (.c (.ld 1 false (.t 53)))) (.one 5 (.op (some 58) (.app 93 11 120 (.t 54) (.t 57)))
  (.one 6 (.op (some 59) (.c (.fldA 4 4 (.t 2))))
  (.one 7 (.op none (.st 1 (.t 59) (.t 58)))
  (.done))))
  (.nil)))
  (.nil))))
  (.nil)))))) [0, 2] []
def lt21_s1 : S2 := .rgT (.one 0 (.op (some 68) (.c (.fldA 5 5 (.t 2))))
  (.one 2 (.op (some 70) (.c (.mv (.t 0))))
  (.br (.cons 1 (.op (some 69) (.c (.ld 1 false (.t 68)))) (.one 3 (.op (some 71) (.call 67 [(.t 70)]))
  (.one 4 (.op (some 72) (.bls 4 [.agg [.nils, .str [], .nils, .int .i64 0]] [(0, (.t 71))]))
  (.one 5 (.op (some 73) (.app 96 4 72 (.t 69) (.t 72)))
  (.one 6 (.op (some 74) (.c (.fldA 5 5 (.t 2))))
  (.one 7 (.op none (.st 1 (.t 74) (.t 73)))
  (.done))))))
  (.cons 3 (.op (some 71) (.call 67 [(.t 70)])) (.br (.cons 1 (.op (some 69) (.c (.ld 1 false (.t 68)))) (.one 4 (.op (some 72) (.bls 4 [.agg [.nils, .str [], .nils, .int .i64 0]] [(0, (.t 71))]))
  (.one 5 (.op (some 73) (.app 96 4 72 (.t 69) (.t 72)))
  (.one 6 (.op (some 74) (.c (.fldA 5 5 (.t 2))))
  (.one 7 (.op none (.st 1 (.t 74) (.t 73)))
  (.done)))))
  (.cons 4 (.op (some 72) (.bls 4 [.agg [.nils, .str [], .nils, .int .i64 0]] [(0, (.t 71))])) (.br (.cons 1 (.op (some 69) (.c (.ld 1 false (.t 68)))) (.one 5 (.op (some 73) (.app 96 4 72 (.t 69) (.t 72)))
  (.one 6 (.op (some 74) (.c (.fldA 5 5 (.t 2))))
  (.one 7 (.op none (.st 1 (.t 74) (.t 73)))
  (.done))))
  (.nil)))
  (.nil))))
  (.nil)))))) [0, 2] []
def lt21_s2 : S2 := .cond (.t 60) (.seq (.rg [.chk [] (.u (.lenL (.t 0)) (.u (.ld 1 false (.t 0)) (.u (.fldA 5 5 (.t 0)) (.a (.t 2))))), .lt 66 [] (.u (.lenL (.t 0)) (.u (.ld 1 false (.t 0)) (.u (.fldA 5 5 (.t 0)) (.a (.t 2))))), .lt 63 [] (.a (.t 0)), .op (some 67) (.call 58 [(.t 63), (.t 66), (.int .i64 8)])] [(0, (.a (.t 0))), (2, (.a (.t 2)))] [])
 (lt21_s1)) (.rg [.lt 43 [] (.a (.t 0)), .op (some 44) (.call 25 [(.t 43), (.int .i64 100)])] [(0, (.a (.t 0))), (2, (.a (.t 2)))] [])
def lt21_s3 : S2 := .cond (.t 45) (.seq (.rg [.chk [] (.u (.lenL (.t 0)) (.u (.ld 1 false (.t 0)) (.u (.fldA 4 4 (.t 0)) (.a (.t 2))))), .lt 51 [] (.u (.lenL (.t 0)) (.u (.ld 1 false (.t 0)) (.u (.fldA 4 4 (.t 0)) (.a (.t 2))))), .lt 48 [] (.a (.t 0)), .op (some 52) (.call 58 [(.t 48), (.t 51), (.int .i64 12)])] [(0, (.a (.t 0))), (2, (.a (.t 2)))] [])
 (lt21_s0)) (.seq (.rg [.lt 61 [] (.a (.t 0)), .op (some 62) (.call 65 [(.t 61), (.int .i64 1), (.str [100, 101, 112, 101, 110, 100])])] [(0, (.a (.t 0))), (2, (.a (.t 2))), (60, (.a (.t 62)))] [])
 (lt21_s2))
def lt21_s4 : S2 := .cond (.t 42) (.skip) (.exit 0)
def lt21_s5 : S2 := .block 1 (.block 2 (.seq (.rg [.lt 46 [] (.a (.t 0)), .op (some 47) (.call 65 [(.t 46), (.int .i64 1), (.str [102, 105, 101, 108, 100])])] [(0, (.a (.t 0))), (2, (.a (.t 2))), (45, (.a (.t 47)))] [])
 (lt21_s3)))
def lt21_l6 : S2 := .seq (.seq (.rg [.lt 40 [] (.a (.t 0)), .op (some 41) (.call 62 [(.t 40), (.int .i64 3), (.str [125])])] [(0, (.a (.t 0))), (2, (.a (.t 2))), (42, (.u (.not (.t 0)) (.a (.t 41))))] [])
 (lt21_s4))
 (lt21_s5)
def lt21_s7 : S2 := .seq (.block 0 (.loop [0, 2] lt21_l6))
 (.rgT (.one 0 (.op (some 75) (.c (.mv (.t 0))))
  (.one 1 (.op (some 76) (.c (.mv (.t 0))))
  (.one 2 (.op (some 77) (.c (.nilc (.t 76))))
  (.one 3 (.op (some 78) (.c (.fldA 2 2 (.t 77))))
  (.one 4 (.op (some 79) (.c (.fldA 2 2 (.t 78))))
  (.br (.cons 5 (.op (some 80) (.c (.ld 1 false (.t 79)))) (.one 6 (.op (some 81) (.ldf 6 true (.t 2)))
  (.one 7 (.op (some 82) (.bls 6 [.agg [.str [], .str [], .int .i64 0, .int .i64 0, .nils, .nils]] [(0, (.t 81))]))
  (.one 8 (.op (some 83) (.app 79 6 96 (.t 80) (.t 82)))
  (.one 9 (.op (some 84) (.c (.nilc (.t 75))))
  (.one 10 (.op (some 85) (.c (.fldA 2 2 (.t 84))))
  (.one 11 (.op (some 86) (.c (.fldA 2 2 (.t 85))))
  (.one 12 (.op none (.st 1 (.t 86) (.t 83)))
  (.done))))))))
  (.cons 6 (.op (some 81) (.ldf 6 true (.t 2))) (.br (.cons 5 (.op (some 80) (.c (.ld 1 false (.t 79)))) (.one 7 (.op (some 82) (.bls 6 [.agg [.str [], .str [], .int .i64 0, .int .i64 0, .nils, .nils]] [(0, (.t 81))]))
  (.one 8 (.op (some 83) (.app 79 6 96 (.t 80) (.t 82)))
  (.one 9 (.op (some 84) (.c (.nilc (.t 75))))
  (.one 10 (.op (some 85) (.c (.fldA 2 2 (.t 84))))
  (.one 11 (.op (some 86) (.c (.fldA 2 2 (.t 85))))
  (.one 12 (.op none (.st 1 (.t 86) (.t 83)))
  (.done)))))))
  (.cons 7 (.op (some 82) (.bls 6 [.agg [.str [], .str [], .int .i64 0, .int .i64 0, .nils, .nils]] [(0, (.t 81))])) (.br (.cons 5 (.op (some 80) (.c (.ld 1 false (.t 79)))) (.one 8 (.op (some 83) (.app 79 6 96 (.t 80) (.t 82)))
  (.one 9 (.op (some 84) (.c (.nilc (.t 75))))
  (.one 10 (.op (some 85) (.c (.fldA 2 2 (.t 84))))
  (.one 11 (.op (some 86) (.c (.fldA 2 2 (.t 85))))
  (.one 12 (.op none (.st 1 (.t 86) (.t 83)))
  (.done))))))
  (.nil)))
  (.nil))))
  (.nil))))))))) [] [])
def lt21_s8 : S2 := .seq (.rg [.chk [] (.u (.ld 11 true (.t 0)) (.a (.t 3))), .lt 35 [] (.u (.ld 11 true (.t 0)) (.a (.t 3))), .op (some 36) (.blo 93 11 [(.agg [(.str []), (.agg [(.int .i64 0), (.int .i64 0), (.int .i64 0), (.str []), (.int .i64 0), .nils]), (.agg [(.int .i64 0), (.int .i64 0), (.int .i64 0), (.int .i64 0)])])] [(0, (.t 35))]), .chk [] (.u (.fldA 4 4 (.t 0)) (.a (.t 2))), .lt 37 [] (.u (.fldA 4 4 (.t 0)) (.a (.t 2))), .op none (.st 1 (.t 37) (.t 36))] [(0, (.a (.t 0))), (2, (.a (.t 2)))] [])
 (.seq (.rg [.op (some 38) (.mvg 96 4 (.t 0) (.t 2) [5]), .op (some 39) (.call 61 [(.t 38), (.str [123])])] [(0, (.a (.t 0))), (2, (.a (.t 2)))] [])
 (lt21_s7))
def lt21_s9 : S2 := .seq (.rg [.op (some 30) (.c (.bld [(.int .i64 0), (.int .i64 0), (.int .i64 0), (.str []), (.int .i64 0), .nils] [(0, (.int .i64 3)), (2, (.int .i64 4095))])), .op (some 31) (.c (.bld [(.str []), (.agg [(.int .i64 0), (.int .i64 0), (.int .i64 0), (.str []), (.int .i64 0), .nils]), (.agg [(.int .i64 0), (.int .i64 0), (.int .i64 0), (.int .i64 0)])] [(0, (.str [115, 101, 108, 102])), (1, (.t 30))])), .op (some 3) (.alloc 93 (.agg [(.str []), (.agg [(.int .i64 0), (.int .i64 0), (.int .i64 0), (.str []), (.int .i64 0), .nils]), (.agg [(.int .i64 0), (.int .i64 0), (.int .i64 0), (.int .i64 0)])])), .op none (.st 11 (.t 3) (.t 31))] [(0, (.a (.t 0))), (2, (.a (.t 2))), (3, (.a (.t 3)))] [])
 (.seq (.rg [.lt 32 [] (.a (.t 0)), .op (some 33) (.call 64 [(.t 32)]), .chk [] (.u (.fldA 2 7 (.t 0)) (.a (.t 3))), .lt 34 [] (.u (.fldA 2 7 (.t 0)) (.a (.t 3))), .op none (.st 4 (.t 34) (.t 33))] [(0, (.a (.t 0))), (2, (.a (.t 2))), (3, (.a (.t 3)))] [])
 (lt21_s8))
def lt21_s10 : S2 := .seq (.rg [.lt 28 [] (.a (.t 0)), .op (some 29) (.call 59 [(.t 28), (.str [115, 101, 108, 102])])] [(0, (.a (.t 0))), (2, (.a (.t 2)))] [])
 (lt21_s9)
def lt21_s11 : S2 := .seq (.rg [.op (some 25) (.gld 1 2 true (.agg [(.int .i64 1), (.int .i64 255)])), .lt 24 [] (.a (.t 0)), .op (some 26) (.call 63 [(.t 24), (.t 25)]), .chk [] (.u (.fldA 3 3 (.t 0)) (.a (.t 2))), .lt 27 [] (.u (.fldA 3 3 (.t 0)) (.a (.t 2))), .op none (.st 1 (.t 27) (.t 26))] [(0, (.a (.t 0))), (2, (.a (.t 2)))] [])
 (lt21_s10)
def lt21_s12 : S2 := .seq (.rg [.lt 22 [] (.a (.t 0)), .op (some 23) (.call 59 [(.t 22), (.str [118, 101, 114, 115, 105, 111, 110])])] [(0, (.a (.t 0))), (2, (.a (.t 2)))] [])
 (lt21_s11)
def lt21_s13 : S2 := .seq (.rg [.lt 19 [] (.a (.t 0)), .op (some 20) (.call 60 [(.t 19)]), .chk [] (.u (.fldA 1 1 (.t 0)) (.a (.t 2))), .lt 21 [] (.u (.fldA 1 1 (.t 0)) (.a (.t 2))), .op none (.st 1 (.t 21) (.t 20))] [(0, (.a (.t 0))), (2, (.a (.t 2)))] [])
 (lt21_s12)
def lt21_s14 : S2 := .seq (.rg [.lt 17 [] (.a (.t 0)), .op (some 18) (.call 59 [(.t 17), (.str [98, 121])])] [(0, (.a (.t 0))), (2, (.a (.t 2)))] [])
 (lt21_s13)
def lt21_s15 : S2 := .seq (.rg [.lt 14 [] (.a (.t 0)), .op (some 15) (.call 60 [(.t 14)]), .op (some 16) (.c (.bld [(.str []), (.str []), (.int .i64 0), (.int .i64 0), .nils, .nils] [(0, (.t 15))])), .op (some 2) (.alloc 79 (.agg [(.str []), (.str []), (.int .i64 0), (.int .i64 0), .nils, .nils])), .op none (.st 6 (.t 2) (.t 16))] [(0, (.a (.t 0))), (2, (.a (.t 2)))] [])
 (lt21_s14)
def lt21_s16 : S2 := .seq (.rg [.lt 12 [] (.a (.t 0)), .op (some 13) (.call 59 [(.t 12), (.str [115, 99, 104, 101, 109, 97])])] [(0, (.a (.t 0)))] [])
 (lt21_s15)
def lt21 : S2 := .seq (.rg [.chk [] (.u (.lenL (.t 0)) (.u (.ld 1 false (.t 0)) (.u (.fldA 2 2 (.t 0)) (.u (.fldA 2 2 (.t 0)) (.u (.nilc (.t 0)) (.a (.t 0))))))), .lt 10 [] (.u (.lenL (.t 0)) (.u (.ld 1 false (.t 0)) (.u (.fldA 2 2 (.t 0)) (.u (.fldA 2 2 (.t 0)) (.u (.nilc (.t 0)) (.a (.t 0))))))), .lt 4 [] (.a (.t 0)), .op (some 11) (.call 58 [(.t 4), (.t 10), (.int .i64 16)])] [(0, (.a (.t 0)))] [])
 (lt21_s16)
theorem lf21 : ir21.lift [] = some lt21 := by kernel_rfl
def lt22_s0 : S2 := .rg [.chk [] (.u (.ld 5 true (.t 0)) (.a (.t 2))), .chk [] (.u (.ld 1 false (.t 0)) (.u (.fldA 3 3 (.t 0)) (.u (.fldA 2 2 (.t 0)) (.u (.nilc (.t 0)) (.a (.t 0)))))), .lt 52 [] (.u (.ld 5 true (.t 0)) (.a (.t 2))), .lt 51 [] (.u (.ld 1 false (.t 0)) (.u (.fldA 3 3 (.t 0)) (.u (.fldA 2 2 (.t 0)) (.u (.nilc (.t 0)) (.a (.t 0)))))), .op (some 53) (.bls 5 [(.agg [(.str []), (.int .i64 0), .nils, .nils, .nils])] [(0, (.t 52))]), .op (some 54) (.app 50 5 96 (.t 51) (.t 53)), .chk [] (.u (.fldA 3 3 (.t 0)) (.u (.fldA 2 2 (.t 0)) (.u (.nilc (.t 0)) (.a (.t 0))))), .lt 57 [] (.u (.fldA 3 3 (.t 0)) (.u (.fldA 2 2 (.t 0)) (.u (.nilc (.t 0)) (.a (.t 0))))), .op none (.st 1 (.t 57) (.t 54))] [] []
def lt22_s1 : S2 := .seq (.rg [.lt 44 [] (.a (.t 0)), .op (some 45) (.call 61 [(.t 44), (.str [125])])] [(0, (.a (.t 0))), (2, (.a (.t 2)))] [])
 (lt22_s0)
def lt22_s2 : S2 := .seq (.rg [.lt 38 [] (.a (.t 0)), .op (some 39) (.call 69 [(.t 38), (.str [115, 101, 116])]), .lt 40 [] (.a (.t 0)), .op (some 41) (.c (.mkf 74 [(.t 40)] [])), .lt 37 [] (.a (.t 0)), .op (some 42) (.call 73 [(.t 37), (.int .i64 11), (.t 39), (.t 41)]), .chk [] (.u (.fldA 4 4 (.t 0)) (.a (.t 2))), .lt 43 [] (.u (.fldA 4 4 (.t 0)) (.a (.t 2))), .op none (.st 1 (.t 43) (.t 42))] [(0, (.a (.t 0))), (2, (.a (.t 2)))] [])
 (lt22_s1)
def lt22_s3 : S2 := .seq (.rg [.lt 31 [] (.a (.t 0)), .op (some 32) (.call 69 [(.t 31), (.str [119, 104, 101, 114, 101])]), .lt 33 [] (.a (.t 0)), .op (some 34) (.c (.mkf 72 [(.t 33)] [])), .lt 30 [] (.a (.t 0)), .op (some 35) (.call 71 [(.t 30), (.int .i64 8), (.t 32), (.t 34)]), .chk [] (.u (.fldA 3 3 (.t 0)) (.a (.t 2))), .lt 36 [] (.u (.fldA 3 3 (.t 0)) (.a (.t 2))), .op none (.st 1 (.t 36) (.t 35))] [(0, (.a (.t 0))), (2, (.a (.t 2)))] [])
 (lt22_s2)
def lt22_s4 : S2 := .seq (.rg [.lt 24 [] (.a (.t 0)), .op (some 25) (.call 69 [(.t 24), (.str [102, 114, 111, 109])]), .lt 26 [] (.a (.t 0)), .op (some 27) (.c (.mkf 70 [(.t 26)] [])), .lt 23 [] (.a (.t 0)), .op (some 28) (.call 68 [(.t 23), (.int .i64 3), (.t 25), (.t 27)]), .chk [] (.u (.fldA 2 2 (.t 0)) (.a (.t 2))), .lt 29 [] (.u (.fldA 2 2 (.t 0)) (.a (.t 2))), .op none (.st 1 (.t 29) (.t 28))] [(0, (.a (.t 0))), (2, (.a (.t 2)))] [])
 (lt22_s3)
def lt22_s5 : S2 := .cond (.t 20) (.rg [.lt 21 [] (.a (.t 0)), .op (some 22) (.call 25 [(.t 21), (.int .i64 100)])] [(0, (.a (.t 0))), (2, (.a (.t 2)))] []) (.skip)
def lt22_s6 : S2 := .seq (.seq (.rg [.lt 18 [] (.a (.t 0)), .op (some 19) (.call 65 [(.t 18), (.int .i64 1), (.str [102, 114, 111, 109])])] [(0, (.a (.t 0))), (2, (.a (.t 2))), (20, (.u (.not (.t 0)) (.a (.t 19))))] [])
 (lt22_s5))
 (lt22_s4)
def lt22_s7 : S2 := .seq (.rg [.lt 16 [] (.a (.t 0)), .op (some 17) (.call 61 [(.t 16), (.str [123])])] [(0, (.a (.t 0))), (2, (.a (.t 2)))] [])
 (lt22_s6)
def lt22_s8 : S2 := .seq (.rg [.lt 13 [] (.a (.t 0)), .op (some 14) (.call 60 [(.t 13)]), .op (some 15) (.c (.bld [(.str []), (.int .i64 0), .nils, .nils, .nils] [(0, (.t 14))])), .op (some 2) (.alloc 50 (.agg [(.str []), (.int .i64 0), .nils, .nils, .nils])), .op none (.st 5 (.t 2) (.t 15))] [(0, (.a (.t 0))), (2, (.a (.t 2)))] [])
 (lt22_s7)
def lt22_s9 : S2 := .seq (.rg [.lt 11 [] (.a (.t 0)), .op (some 12) (.call 59 [(.t 11), (.str [100, 101, 114, 105, 118, 101])])] [(0, (.a (.t 0)))] [])
 (lt22_s8)
def lt22 : S2 := .seq (.rg [.chk [] (.u (.lenL (.t 0)) (.u (.ld 1 false (.t 0)) (.u (.fldA 3 3 (.t 0)) (.u (.fldA 2 2 (.t 0)) (.u (.nilc (.t 0)) (.a (.t 0))))))), .lt 9 [] (.u (.lenL (.t 0)) (.u (.ld 1 false (.t 0)) (.u (.fldA 3 3 (.t 0)) (.u (.fldA 2 2 (.t 0)) (.u (.nilc (.t 0)) (.a (.t 0))))))), .lt 3 [] (.a (.t 0)), .op (some 10) (.call 58 [(.t 3), (.t 9), (.int .i64 16)])] [(0, (.a (.t 0)))] [])
 (lt22_s9)
theorem lf22 : ir22.lift [] = some lt22 := by kernel_rfl
def lt23_s0 : S2 := .rg [.chk [] (.u (.ld 5 true (.t 0)) (.a (.t 2))), .chk [] (.u (.ld 1 false (.t 0)) (.u (.fldA 4 4 (.t 0)) (.u (.fldA 2 2 (.t 0)) (.u (.nilc (.t 0)) (.a (.t 0)))))), .lt 38 [] (.u (.ld 5 true (.t 0)) (.a (.t 2))), .lt 37 [] (.u (.ld 1 false (.t 0)) (.u (.fldA 4 4 (.t 0)) (.u (.fldA 2 2 (.t 0)) (.u (.nilc (.t 0)) (.a (.t 0)))))), .op (some 39) (.bls 5 [(.agg [(.str []), (.str []), (.int .i64 0), (.int .i64 0), .nils])] [(0, (.t 38))]), .op (some 40) (.app 84 5 72 (.t 37) (.t 39)), .chk [] (.u (.fldA 4 4 (.t 0)) (.u (.fldA 2 2 (.t 0)) (.u (.nilc (.t 0)) (.a (.t 0))))), .lt 43 [] (.u (.fldA 4 4 (.t 0)) (.u (.fldA 2 2 (.t 0)) (.u (.nilc (.t 0)) (.a (.t 0))))), .op none (.st 1 (.t 43) (.t 40))] [] []
def lt23_s1 : S2 := .seq (.rg [.lt 30 [] (.a (.t 0)), .op (some 31) (.call 61 [(.t 30), (.str [125])])] [(0, (.a (.t 0))), (2, (.a (.t 2)))] [])
 (lt23_s0)
def lt23_s2 : S2 := .seq (.rg [.lt 24 [] (.a (.t 0)), .op (some 25) (.call 69 [(.t 24), (.str [])]), .lt 26 [] (.a (.t 0)), .op (some 27) (.c (.mkf 76 [(.t 26)] [])), .lt 23 [] (.a (.t 0)), .op (some 28) (.call 75 [(.t 23), (.int .i64 11), (.t 25), (.t 27)]), .chk [] (.u (.fldA 4 4 (.t 0)) (.a (.t 2))), .lt 29 [] (.u (.fldA 4 4 (.t 0)) (.a (.t 2))), .op none (.st 1 (.t 29) (.t 28))] [(0, (.a (.t 0))), (2, (.a (.t 2)))] [])
 (lt23_s1)
def lt23_s3 : S2 := .seq (.rg [.lt 21 [] (.a (.t 0)), .op (some 22) (.call 61 [(.t 21), (.str [123])])] [(0, (.a (.t 0))), (2, (.a (.t 2)))] [])
 (lt23_s2)
def lt23_s4 : S2 := .seq (.rg [.lt 18 [] (.a (.t 0)), .op (some 19) (.call 60 [(.t 18)]), .chk [] (.u (.fldA 1 1 (.t 0)) (.a (.t 2))), .lt 20 [] (.u (.fldA 1 1 (.t 0)) (.a (.t 2))), .op none (.st 1 (.t 20) (.t 19))] [(0, (.a (.t 0))), (2, (.a (.t 2)))] [])
 (lt23_s3)
def lt23_s5 : S2 := .seq (.rg [.lt 16 [] (.a (.t 0)), .op (some 17) (.call 59 [(.t 16), (.str [116, 111])])] [(0, (.a (.t 0))), (2, (.a (.t 2)))] [])
 (lt23_s4)
def lt23_s6 : S2 := .seq (.rg [.lt 13 [] (.a (.t 0)), .op (some 14) (.call 60 [(.t 13)]), .op (some 15) (.c (.bld [(.str []), (.str []), (.int .i64 0), (.int .i64 0), .nils] [(0, (.t 14))])), .op (some 2) (.alloc 84 (.agg [(.str []), (.str []), (.int .i64 0), (.int .i64 0), .nils])), .op none (.st 5 (.t 2) (.t 15))] [(0, (.a (.t 0))), (2, (.a (.t 2)))] [])
 (lt23_s5)
def lt23_s7 : S2 := .seq (.rg [.lt 11 [] (.a (.t 0)), .op (some 12) (.call 59 [(.t 11), (.str [99, 111, 110, 118, 101, 114, 116])])] [(0, (.a (.t 0)))] [])
 (lt23_s6)
def lt23 : S2 := .seq (.rg [.chk [] (.u (.lenL (.t 0)) (.u (.ld 1 false (.t 0)) (.u (.fldA 4 4 (.t 0)) (.u (.fldA 2 2 (.t 0)) (.u (.nilc (.t 0)) (.a (.t 0))))))), .lt 9 [] (.u (.lenL (.t 0)) (.u (.ld 1 false (.t 0)) (.u (.fldA 4 4 (.t 0)) (.u (.fldA 2 2 (.t 0)) (.u (.nilc (.t 0)) (.a (.t 0))))))), .lt 3 [] (.a (.t 0)), .op (some 10) (.call 58 [(.t 3), (.t 9), (.int .i64 16)])] [(0, (.a (.t 0)))] [])
 (lt23_s7)
theorem lf23 : ir23.lift [] = some lt23 := by kernel_rfl
def lt24_s0 : S2 := .rg [.chk [] (.u (.ld 3 true (.t 0)) (.a (.t 2))), .chk [] (.u (.ld 1 false (.t 0)) (.u (.fldA 5 5 (.t 0)) (.u (.fldA 2 2 (.t 0)) (.u (.nilc (.t 0)) (.a (.t 0)))))), .lt 41 [] (.u (.ld 3 true (.t 0)) (.a (.t 2))), .lt 40 [] (.u (.ld 1 false (.t 0)) (.u (.fldA 5 5 (.t 0)) (.u (.fldA 2 2 (.t 0)) (.u (.nilc (.t 0)) (.a (.t 0)))))), .op (some 42) (.bls 3 [(.agg [(.str []), .nils, (.int .i64 0)])] [(0, (.t 41))]), .op (some 43) (.app 88 3 48 (.t 40) (.t 42)), .chk [] (.u (.fldA 5 5 (.t 0)) (.u (.fldA 2 2 (.t 0)) (.u (.nilc (.t 0)) (.a (.t 0))))), .lt 46 [] (.u (.fldA 5 5 (.t 0)) (.u (.fldA 2 2 (.t 0)) (.u (.nilc (.t 0)) (.a (.t 0))))), .op none (.st 1 (.t 46) (.t 43))] [] []
def lt24_s1 : S2 := .seq (.rg [.lt 33 [] (.a (.t 0)), .op (some 34) (.call 61 [(.t 33), (.str [125])])] [(0, (.a (.t 0))), (2, (.a (.t 2)))] [])
 (lt24_s0)
def lt24_s2 : S2 := .seq (.rg [.lt 31 [] (.a (.t 0)), .op (some 32) (.call 61 [(.t 31), (.str [59])])] [(0, (.a (.t 0))), (2, (.a (.t 2)))] [])
 (lt24_s1)
def lt24_s3 : S2 := .seq (.rg [.op (some 28) (.gld 2 2 true (.agg [(.int .i64 0), (.int .i64 32)])), .lt 27 [] (.a (.t 0)), .op (some 29) (.call 63 [(.t 27), (.t 28)]), .chk [] (.u (.fldA 2 2 (.t 0)) (.a (.t 2))), .lt 30 [] (.u (.fldA 2 2 (.t 0)) (.a (.t 2))), .op none (.st 1 (.t 30) (.t 29))] [(0, (.a (.t 0))), (2, (.a (.t 2)))] [])
 (lt24_s2)
def lt24_s4 : S2 := .seq (.rg [.lt 25 [] (.a (.t 0)), .op (some 26) (.call 59 [(.t 25), (.str [109, 111, 115, 116])])] [(0, (.a (.t 0))), (2, (.a (.t 2)))] [])
 (lt24_s3)
def lt24_s5 : S2 := .seq (.rg [.lt 19 [] (.a (.t 0)), .op (some 20) (.call 69 [(.t 19), (.str [109, 97, 121])]), .lt 21 [] (.a (.t 0)), .op (some 22) (.c (.mkf 78 [(.t 21)] [])), .lt 18 [] (.a (.t 0)), .op (some 23) (.call 77 [(.t 18), (.int .i64 32), (.t 20), (.t 22)]), .chk [] (.u (.fldA 1 1 (.t 0)) (.a (.t 2))), .lt 24 [] (.u (.fldA 1 1 (.t 0)) (.a (.t 2))), .op none (.st 1 (.t 24) (.t 23))] [(0, (.a (.t 0))), (2, (.a (.t 2)))] [])
 (lt24_s4)
def lt24_s6 : S2 := .seq (.rg [.lt 16 [] (.a (.t 0)), .op (some 17) (.call 61 [(.t 16), (.str [123])])] [(0, (.a (.t 0))), (2, (.a (.t 2)))] [])
 (lt24_s5)
def lt24_s7 : S2 := .seq (.rg [.lt 13 [] (.a (.t 0)), .op (some 14) (.call 60 [(.t 13)]), .op (some 15) (.c (.bld [(.str []), .nils, (.int .i64 0)] [(0, (.t 14))])), .op (some 2) (.alloc 88 (.agg [(.str []), .nils, (.int .i64 0)])), .op none (.st 3 (.t 2) (.t 15))] [(0, (.a (.t 0))), (2, (.a (.t 2)))] [])
 (lt24_s6)
def lt24_s8 : S2 := .seq (.rg [.lt 11 [] (.a (.t 0)), .op (some 12) (.call 59 [(.t 11), (.str [112, 117, 114, 112, 111, 115, 101])])] [(0, (.a (.t 0)))] [])
 (lt24_s7)
def lt24 : S2 := .seq (.rg [.chk [] (.u (.lenL (.t 0)) (.u (.ld 1 false (.t 0)) (.u (.fldA 5 5 (.t 0)) (.u (.fldA 2 2 (.t 0)) (.u (.nilc (.t 0)) (.a (.t 0))))))), .lt 9 [] (.u (.lenL (.t 0)) (.u (.ld 1 false (.t 0)) (.u (.fldA 5 5 (.t 0)) (.u (.fldA 2 2 (.t 0)) (.u (.nilc (.t 0)) (.a (.t 0))))))), .lt 3 [] (.a (.t 0)), .op (some 10) (.call 58 [(.t 3), (.t 9), (.int .i64 8)])] [(0, (.a (.t 0)))] [])
 (lt24_s8)
theorem lf24 : ir24.lift [] = some lt24 := by kernel_rfl
end Go.Proofs.YtanpgmgkmfckaaaGreatDoor
/- Contracts: the definitions. Condition: the program is the seat's, and its intervals are laid. -/
namespace Go.Proofs.YtanpgmgkmfckaaaGreatDoor
open Go Go.Ab Go.Lx Go.Sx
set_option maxRecDepth 100000
attribute [local simp ↓] ql qn qo qi qh qj qk qm zs zp zr zt zq zl zm zk zo zn qq qp qw qx zg qy qv qr zh qu qt qs qz zb za zd ze zf zw zu zy zx qb qa qd qc qe qg qf zj zi
section
variable {P : Prg} (hP : P.p = Tryz.prog) (hI : Ivl P) {ts : List Tok} {en : Int} {s : Src} (hs : Few s) {K : Out → Objs → Prop}
include hP hI hs
theorem y_convert (h : PS K en (convertM s ts)) : ACall P 23 [.ptr 4 []] (stO en ts s) K := by
  refine acall_lift hP mixed ok23 lf23 TOk.nil fun _ hm => ?_
  simp [lt23, hI.factors, hI.editions, hI.mosts, hI.weights, hI.anyN]
  refine y_room hP (S := srcV s) (by simp) (by simp) _ 16 (PS.bind h (fun ts' e h => ?_) (fun a ts' ha h => ?_))
  · simp
    exact leave_s (h s) (by simp) (by simp [young])
  simp [hI.factors, hI.editions, hI.mosts, hI.weights, hI.anyN, lt23_s7]
  refine y_word hP (S := srcV s) (by simp) (by simp) _ (PS.bind h (fun ts' e h => ?_) (fun a ts' ha h => ?_))
  · simp
    exact leave_s (h s) (by simp) (by simp [young])
  simp [hI.factors, hI.editions, hI.mosts, hI.weights, hI.anyN, lt23_s6]
  refine y_name hP (S := srcV s) (by simp) (by simp) (PS.bind h (fun ts' e h => ?_) (fun a ts' ha h => ?_))
  · simp
    exact leave_s (h s) (by simp) (by simp [young])
  simp [hI.factors, hI.editions, hI.mosts, hI.weights, hI.anyN, lt23_s5]
  refine y_word hP (S := srcV s) (by simp) (by simp) _ (PS.bind h (fun ts' e h => ?_) (fun a ts' ha h => ?_))
  · simp
    exact leave_s (h s) (by simp) (by simp [young])
  simp [hI.factors, hI.editions, hI.mosts, hI.weights, hI.anyN, lt23_s4]
  refine y_name hP (S := srcV s) (by simp) (by simp) (PS.bind h (fun ts' e h => ?_) (fun a ts' ha h => ?_))
  · simp
    exact leave_s (h s) (by simp) (by simp [young])
  simp [hI.factors, hI.editions, hI.mosts, hI.weights, hI.anyN, lt23_s3]
  refine y_sign hP (S := srcV s) (by simp) (by simp) _ (PS.bind h (fun ts' e h => ?_) (fun a ts' ha h => ?_))
  · simp
    exact leave_s (h s) (by simp) (by simp [young])
  simp [hI.factors, hI.editions, hI.mosts, hI.weights, hI.anyN, lt23_s2]
  refine y_begins hP (ts := ts') (en := en) (S := srcV s) (by simp) _ 12 (by simp) ?_
  simp
  refine y_listM hP (S := srcV s) (by simp) (by simp) (enc := Move.enc) (by simp) (nextB 1 []) moveM 11 (by decide) _ _ [] _ [.ptr 4 []] [] (call_y hP).2.2.1 (call_y hP).2.2.2.2.2.2.1 14 (by simp) (fun ts o K h => ?_) (fun ts o K h => ?_) (PS.bind h (fun ts' e h => ?_) (fun a ts' ha h => ?_))
  · exact y_begins1 hP (S := srcV s) (p := 4) (ts := ts) (en := en) (t := []) (by simp) (by simp) (by simp) (by simp) (by simpa using h)
  · exact y_move hP (S := srcV s) (by simp) (p := 4) (ts := ts) (en := en) (by simp) hI h
  · simp
    exact leave_s (h s) (by simp) (by simp [young])
  simp [hI.factors, hI.editions, hI.mosts, hI.weights, hI.anyN, lt23_s1]
  refine y_sign hP (S := srcV s) (by simp) (by simp) _ (PS.bind h (fun ts' e h => ?_) (fun a ts' ha h => ?_))
  · simp
    exact leave_s (h s) (by simp) (by simp [young])
  simp [hI.factors, hI.editions, hI.mosts, hI.weights, hI.anyN, lt23_s0]
  refine ⟨by have := hs.converts; omega, ?_⟩
  exact leave_s (s := { s with converts := s.converts ++ [⟨_, _, _⟩] }) h (by simp) (by simp [young]; rfl)
end
end Go.Proofs.YtanpgmgkmfckaaaGreatDoor
/- Contracts: the definitions. Condition: the program is the seat's, and its intervals are laid. -/
namespace Go.Proofs.YtanpgmgkmfckaaaGreatDoor
open Go Go.Ab Go.Lx Go.Sx
set_option maxRecDepth 100000
attribute [local simp ↓] ql qn qo qi qh qj qk qm zs zp zr zt zq zl zm zk zo zn qq qp qw qx zg qy qv qr zh qu qt qs qz zb za zd ze zf zw zu zy zx qb qa qd qc qe qg qf zj zi
section
variable {P : Prg} (hP : P.p = Tryz.prog) (hI : Ivl P) {ts : List Tok} {en : Int} {s : Src} (hs : Few s) {K : Out → Objs → Prop}
include hP hI hs
theorem y_purpose (h : PS K en (purposeM s ts)) : ACall P 24 [.ptr 4 []] (stO en ts s) K := by
  refine acall_lift hP mixed ok24 lf24 TOk.nil fun _ hm => ?_
  simp [lt24, hI.factors, hI.editions, hI.mosts, hI.weights, hI.anyN]
  refine y_room hP (S := srcV s) (by simp) (by simp) _ 8 (PS.bind h (fun ts' e h => ?_) (fun a ts' ha h => ?_))
  · simp
    exact leave_s (h s) (by simp) (by simp [young])
  simp [hI.factors, hI.editions, hI.mosts, hI.weights, hI.anyN, lt24_s8]
  refine y_word hP (S := srcV s) (by simp) (by simp) _ (PS.bind h (fun ts' e h => ?_) (fun a ts' ha h => ?_))
  · simp
    exact leave_s (h s) (by simp) (by simp [young])
  simp [hI.factors, hI.editions, hI.mosts, hI.weights, hI.anyN, lt24_s7]
  refine y_name hP (S := srcV s) (by simp) (by simp) (PS.bind h (fun ts' e h => ?_) (fun a ts' ha h => ?_))
  · simp
    exact leave_s (h s) (by simp) (by simp [young])
  simp [hI.factors, hI.editions, hI.mosts, hI.weights, hI.anyN, lt24_s6]
  refine y_sign hP (S := srcV s) (by simp) (by simp) _ (PS.bind h (fun ts' e h => ?_) (fun a ts' ha h => ?_))
  · simp
    exact leave_s (h s) (by simp) (by simp [young])
  simp [hI.factors, hI.editions, hI.mosts, hI.weights, hI.anyN, lt24_s5]
  refine y_begins hP (ts := ts') (en := en) (S := srcV s) (by simp) _ 12 (by simp) ?_
  simp
  refine y_listR hP (S := srcV s) (by simp) (by simp) (enc := Ref.enc) (by simp) (nextB 1 [109, 97, 121]) mayM 32 (by decide) _ _ [] _ [.ptr 4 []] [] (call_y hP).2.2.1 (call_y hP).2.2.2.2.2.2.2 14 (by simp) (fun ts o K h => ?_) (fun ts o K h => ?_) (PS.bind h (fun ts' e h => ?_) (fun a ts' ha h => ?_))
  · exact y_begins1 hP (S := srcV s) (p := 4) (ts := ts) (en := en) (t := [109, 97, 121]) (by simp) (by simp) (by simp) (by simp) (by simpa using h)
  · exact y_may hP (S := srcV s) (by simp) (p := 4) (ts := ts) (en := en) (by simp) h
  · simp
    exact leave_s (h s) (by simp) (by simp [young])
  simp [hI.factors, hI.editions, hI.mosts, hI.weights, hI.anyN, lt24_s4]
  refine y_word hP (S := srcV s) (by simp) (by simp) _ (PS.bind h (fun ts' e h => ?_) (fun a ts' ha h => ?_))
  · simp
    exact leave_s (h s) (by simp) (by simp [young])
  simp [hI.factors, hI.editions, hI.mosts, hI.weights, hI.anyN, lt24_s3]
  refine y_number hP (S := srcV s) (by simp) (by simp) _ _ (PS.bind h (fun ts' e h => ?_) (fun a ts' ha h => ?_))
  · simp
    exact leave_s (h s) (by simp) (by simp [young])
  simp [hI.factors, hI.editions, hI.mosts, hI.weights, hI.anyN, lt24_s2]
  refine y_sign hP (S := srcV s) (by simp) (by simp) _ (PS.bind h (fun ts' e h => ?_) (fun a ts' ha h => ?_))
  · simp
    exact leave_s (h s) (by simp) (by simp [young])
  simp [hI.factors, hI.editions, hI.mosts, hI.weights, hI.anyN, lt24_s1]
  refine y_sign hP (S := srcV s) (by simp) (by simp) _ (PS.bind h (fun ts' e h => ?_) (fun a ts' ha h => ?_))
  · simp
    exact leave_s (h s) (by simp) (by simp [young])
  simp [hI.factors, hI.editions, hI.mosts, hI.weights, hI.anyN, lt24_s0]
  refine ⟨by have := hs.purposes; omega, ?_⟩
  exact leave_s (s := { s with purposes := s.purposes ++ [⟨_, _, _⟩] }) h (by simp) (by simp [young]; rfl)
end
end Go.Proofs.YtanpgmgkmfckaaaGreatDoor
/- Contracts: the definitions. Condition: the program is the seat's, and its intervals are laid. -/
namespace Go.Proofs.YtanpgmgkmfckaaaGreatDoor
open Go Go.Ab Go.Lx Go.Sx
set_option maxRecDepth 100000
attribute [local simp ↓] ql qn qo qi qh qj qk qm zs zp zr zt zq zl zm zk zo zn qq qp qw qx zg qy qv qr zh qu qt qs qz zb za zd ze zf zw zu zy zx qb qa qd qc qe qg qf zj zi
section
variable {P : Prg} (hP : P.p = Tryz.prog) (hI : Ivl P) {ts : List Tok} {en : Int} {s : Src} (hs : Few s) {K : Out → Objs → Prop}
include hP hI hs
theorem y_rule (h : PS K en (ruleM s ts)) : ACall P 22 [.ptr 4 []] (stO en ts s) K := by
  refine acall_lift hP mixed ok22 lf22 TOk.nil fun _ hm => ?_
  simp [lt22, hI.factors, hI.editions, hI.mosts, hI.weights, hI.anyN]
  refine y_room hP (S := srcV s) (by simp) (by simp) _ 16 (PS.bind h (fun ts' e h => ?_) (fun a ts' ha h => ?_))
  · simp
    exact leave_s (h s) (by simp) (by simp [young])
  simp [hI.factors, hI.editions, hI.mosts, hI.weights, hI.anyN, lt22_s9]
  refine y_word hP (S := srcV s) (by simp) (by simp) _ (PS.bind h (fun ts' e h => ?_) (fun a ts' ha h => ?_))
  · simp
    exact leave_s (h s) (by simp) (by simp [young])
  simp [hI.factors, hI.editions, hI.mosts, hI.weights, hI.anyN, lt22_s8]
  refine y_name hP (S := srcV s) (by simp) (by simp) (PS.bind h (fun ts' e h => ?_) (fun a ts' ha h => ?_))
  · simp
    exact leave_s (h s) (by simp) (by simp [young])
  simp [hI.factors, hI.editions, hI.mosts, hI.weights, hI.anyN, lt22_s7]
  refine y_sign hP (S := srcV s) (by simp) (by simp) _ (PS.bind h (fun ts' e h => ?_) (fun a ts' ha h => ?_))
  · simp
    exact leave_s (h s) (by simp) (by simp [young])
  simp [hI.factors, hI.editions, hI.mosts, hI.weights, hI.anyN, lt22_s6]
  refine y_next hP (S := srcV s) (ts := ts') (en := en) (by simp) (by simp) _ _ ?_
  cases hn : nextB 1 [102, 114, 111, 109] ts' with
  | false =>
    simp only [ifM, hn, Bool.false_eq_true, if_false] at h
    simp [lt22_s5]
    refine y_fail hP (S := srcV s) (ts := ts') (en := en) (by simp) (by simp) _ ?_
    simp
    exact leave_s (h s) (by simp) (by simp [young])
  | true =>
    simp only [ifM, hn, if_true] at h
    simp [lt22_s5, lt22_s4]
    refine y_begins hP (ts := ts') (en := en) (S := srcV s) (by simp) _ 12 (by simp) ?_
    simp
    refine y_listF hP (S := srcV s) (by simp) (by simp) (enc := From.enc) (by simp) (nextB 1 [102, 114, 111, 109]) fromM 3 (by decide) _ _ [] _ [.ptr 4 []] [] (call_y hP).2.2.1 (call_y hP).2.2.2.1 14 (by simp) (fun ts o K h => ?_) (fun ts o K h => ?_) (PS.bind h (fun ts' e h => ?_) (fun a ts' ha h => ?_))
    · exact y_begins1 hP (S := srcV s) (p := 4) (ts := ts) (en := en) (t := [102, 114, 111, 109]) (by simp) (by simp) (by simp) (by simp) (by simpa using h)
    · exact y_from hP (S := srcV s) (by simp) (p := 4) (ts := ts) (en := en) (by simp) h
    · simp
      exact leave_s (h s) (by simp) (by simp [young])
    simp [hI.factors, hI.editions, hI.mosts, hI.weights, hI.anyN, lt22_s3]
    refine y_begins hP (ts := ts') (en := en) (S := srcV s) (by simp) _ 14 (by simp) ?_
    simp
    refine y_listA hP (S := srcV s) (by simp) (by simp) (enc := Atom.enc) (by simp) (nextB 1 [119, 104, 101, 114, 101]) whereM 8 (by decide) _ _ [] _ [.ptr 4 []] [] (call_y hP).2.2.1 (call_y hP).2.2.2.2.1 16 (by simp) (fun ts o K h => ?_) (fun ts o K h => ?_) (PS.bind h (fun ts' e h => ?_) (fun a ts' ha h => ?_))
    · exact y_begins1 hP (S := srcV s) (p := 4) (ts := ts) (en := en) (t := [119, 104, 101, 114, 101]) (by simp) (by simp) (by simp) (by simp) (by simpa using h)
    · exact y_where hP (S := srcV s) (by simp) (p := 4) (ts := ts) (en := en) (by simp) hI h
    · simp
      exact leave_s (h s) (by simp) (by simp [young])
    simp [hI.factors, hI.editions, hI.mosts, hI.weights, hI.anyN, lt22_s2]
    refine y_begins hP (ts := ts') (en := en) (S := srcV s) (by simp) _ 16 (by simp) ?_
    simp
    refine y_listS hP (S := srcV s) (by simp) (by simp) (enc := SetT.enc) (by simp) (nextB 1 [115, 101, 116]) setM 11 (by decide) _ _ [] _ [.ptr 4 []] [] (call_y hP).2.2.1 (call_y hP).2.2.2.2.2.1 18 (by simp) (fun ts o K h => ?_) (fun ts o K h => ?_) (PS.bind h (fun ts' e h => ?_) (fun a ts' ha h => ?_))
    · exact y_begins1 hP (S := srcV s) (p := 4) (ts := ts) (en := en) (t := [115, 101, 116]) (by simp) (by simp) (by simp) (by simp) (by simpa using h)
    · exact y_set hP (S := srcV s) (by simp) (p := 4) (ts := ts) (en := en) (by simp) hI h
    · simp
      exact leave_s (h s) (by simp) (by simp [young])
    simp [hI.factors, hI.editions, hI.mosts, hI.weights, hI.anyN, lt22_s1]
    refine y_sign hP (S := srcV s) (by simp) (by simp) _ (PS.bind h (fun ts' e h => ?_) (fun a ts' ha h => ?_))
    · simp
      exact leave_s (h s) (by simp) (by simp [young])
    simp [hI.factors, hI.editions, hI.mosts, hI.weights, hI.anyN, lt22_s0]
    refine ⟨by have := hs.rules; omega, ?_⟩
    exact leave_s (s := { s with rules := s.rules ++ [⟨_, _, _, _⟩] }) h (by simp) (by simp [young]; rfl)
end
end Go.Proofs.YtanpgmgkmfckaaaGreatDoor
/- Contracts: the definitions. Condition: the program is the seat's, and its intervals are laid. -/
namespace Go.Proofs.YtanpgmgkmfckaaaGreatDoor
open Go Go.Ab Go.Lx Go.Sx
set_option maxRecDepth 100000
attribute [local simp ↓] ql qn qo qi qh qj qk qm zs zp zr zt zq zl zm zk zo zn qq qp qw qx zg qy qv qr zh qu qt qs qz zb za zd ze zf zw zu zy zx qb qa qd qc qe qg qf zj zi
theorem ifM_t {α β : Type} {c : List Tok → Bool} {a b : M α} {g : α → M β} {ts : List Tok} (h : c ts = true) : (ifM c a b >>= g) ts = (a >>= g) ts := by simp only [bind_eq, ifM, h, if_true]
theorem ifM_f {α β : Type} {c : List Tok → Bool} {a b : M α} {g : α → M β} {ts : List Tok} (h : c ts = false) : (ifM c a b >>= g) ts = (b >>= g) ts := by simp only [bind_eq, ifM, h, if_false, Bool.false_eq_true]
theorem bind_ok {α β : Type} {m : M α} {f : α → M β} {ts ts' : List Tok} {b : β} (h : (m >>= f) ts = .ok b ts') : ∃ a t1, m ts = .ok a t1 ∧ f a t1 = .ok b ts' := by
  rw [bind_eq] at h
  cases hm : m ts with
  | ok a t1 => rw [hm] at h; exact ⟨a, t1, rfl, h⟩
  | err a b => rw [hm] at h; cases h
theorem field_four {f : Sx.Field} {ts ts' : List Tok} (h : fieldM ts = .ok f ts') : ∃ a b c d, f.weights = [a, b, c, d] := by
  simp only [fieldM] at h
  obtain ⟨_, _, _, h⟩ := bind_ok h
  obtain ⟨_, _, _, h⟩ := bind_ok h
  obtain ⟨_, _, _, h⟩ := bind_ok h
  obtain ⟨_, _, _, h⟩ := bind_ok h
  obtain ⟨w, _, hw, h⟩ := bind_ok h
  obtain ⟨_, _, _, h⟩ := bind_ok h
  cases h
  exact weights_four hw
theorem field_shape {f : Sx.Field} {ts ts' : List Tok} (h : fieldM ts = .ok f ts') : f.enc.shape = .node [.leaf, .node [.leaf, .leaf, .leaf, .leaf, .leaf, .leaf], .node [.leaf, .leaf, .leaf, .leaf]] := by
  obtain ⟨a, b, c, d, e⟩ := field_four h
  simp [Field.enc, e, D.shape]
theorem depend_shape (d : Sx.Depend) : d.enc.shape = .node [.leaf, .leaf, .leaf, .leaf] := by simp [Depend.enc, strsD, D.shape]
section
variable {P : Prg} (hP : P.p = Tryz.prog) (hI : Ivl P) {ts : List Tok} {en : Int} {s : Src} (hs : Few s) {K : Out → Objs → Prop}
include hP hI hs
theorem y_schema (h : PS K en (schemaM s ts)) : ACall P 21 [.ptr 4 []] (stO en ts s) K := by
  refine acall_lift hP mixed ok21 lf21 TOk.nil fun _ hm => ?_
  simp [lt21, hI.factors, hI.editions, hI.mosts, hI.weights, hI.anyN]
  refine y_room hP (S := srcV s) (by simp) (by simp) _ 16 (PS.bind h (fun ts' e h => ?_) (fun a ts' ha h => ?_))
  · simp
    exact leave_s (h s) (by simp) (by simp [young])
  simp [hI.factors, hI.editions, hI.mosts, hI.weights, hI.anyN, lt21_s16]
  refine y_word hP (S := srcV s) (by simp) (by simp) _ (PS.bind h (fun ts' e h => ?_) (fun a ts' ha h => ?_))
  · simp
    exact leave_s (h s) (by simp) (by simp [young])
  simp [hI.factors, hI.editions, hI.mosts, hI.weights, hI.anyN, lt21_s15]
  refine y_name hP (S := srcV s) (by simp) (by simp) (PS.bind h (fun ts' e h => ?_) (fun a ts' ha h => ?_))
  · simp
    exact leave_s (h s) (by simp) (by simp [young])
  simp [hI.factors, hI.editions, hI.mosts, hI.weights, hI.anyN, lt21_s14]
  refine y_word hP (S := srcV s) (by simp) (by simp) _ (PS.bind h (fun ts' e h => ?_) (fun a ts' ha h => ?_))
  · simp
    exact leave_s (h s) (by simp) (by simp [young])
  simp [hI.factors, hI.editions, hI.mosts, hI.weights, hI.anyN, lt21_s13]
  refine y_name hP (S := srcV s) (by simp) (by simp) (PS.bind h (fun ts' e h => ?_) (fun a ts' ha h => ?_))
  · simp
    exact leave_s (h s) (by simp) (by simp [young])
  simp [hI.factors, hI.editions, hI.mosts, hI.weights, hI.anyN, lt21_s12]
  refine y_word hP (S := srcV s) (by simp) (by simp) _ (PS.bind h (fun ts' e h => ?_) (fun a ts' ha h => ?_))
  · simp
    exact leave_s (h s) (by simp) (by simp [young])
  simp [hI.factors, hI.editions, hI.mosts, hI.weights, hI.anyN, lt21_s11]
  refine y_number hP (S := srcV s) (by simp) (by simp) _ _ (PS.bind h (fun ts' e h => ?_) (fun a ts' ha h => ?_))
  · simp
    exact leave_s (h s) (by simp) (by simp [young])
  simp [hI.factors, hI.editions, hI.mosts, hI.weights, hI.anyN, lt21_s10]
  refine y_word hP (S := srcV s) (by simp) (by simp) _ (PS.bind h (fun ts' e h => ?_) (fun a ts' ha h => ?_))
  · simp
    exact leave_s (h s) (by simp) (by simp [young])
  simp [hI.factors, hI.editions, hI.mosts, hI.weights, hI.anyN, lt21_s9]
  refine y_weights hP (S := srcV s) (by simp) (by simp) hI (PS.bind h (fun ts' e h => ?_) (fun a ts' ha h => ?_))
  · simp
    exact leave_s (h s) (by simp) (by simp [young])
  obtain ⟨w1, w2, w3, w4, rfl⟩ := weights_four ha
  simp [lt21_s8]
  refine y_sign hP (S := srcV s) (by simp) (by simp) _ (PS.bind h (fun ts' e h => ?_) (fun a ts' ha h => ?_))
  · simp
    exact leave_s (h s) (by simp) (by simp [young])
  simp [hI.factors, hI.editions, hI.mosts, hI.weights, hI.anyN, lt21_s7]
  have fin : ∀ (ts' : List Tok) (e : Int), (∀ s, K (.panic (.d (failD en ts' e))) (stO en ts' s)) → ∀ (o1 o2 o3 o4 : Ob), leaveK 11 (K (.panic (.d (failD en ts' e)))) [.d (failD en ts' e)] ((14, o1) :: (13, o2) :: (12, o3) :: (11, o4) :: stO en ts' s) := fun ts' e h o1 o2 o3 o4 => leave_s (h s) (by simp) (by simp [young])
  refine ALoop.go (ι := Schema × List Tok) (fun _ => [(0, .ptr 4 []), (2, .ptr 11 [])])
    (fun j => (14, .arr 96 4 (j.1.depends.map Depend.enc)) :: (13, .arr 93 11 (j.1.fields.map Field.enc)) :: (12, .box 93 (.d (Field.enc ⟨[115, 101, 108, 102], .person, [w1, w2, w3, w4]⟩))) :: (11, .box 79 (.agg [.d (.str j.1.name), .d (.str j.1.by_), .d (iD 0), .d (iD j.1.version), .sl 13 j.1.fields.length, .sl 14 j.1.depends.length])) :: stO en j.2 s)
    (fun j => 1 ≤ j.1.fields.length ∧ j.1.fields.length ≤ 12 ∧ j.1.depends.length ≤ 8 ∧ PS K en ((bodyM (22 - (j.1.fields.length + j.1.depends.length)) j.1 >>= fun x => pure { s with schemas := s.schemas ++ [x] }) j.2)) (fun j => 20 - (j.1.fields.length + j.1.depends.length)) (⟨_, _, _, [⟨_, _, _⟩], []⟩, _) ⟨by simp, by simp, by simp, h⟩ (by simp) (by simp [Field.enc, TypeT.enc]) ?_
  clear h
  rintro ⟨x, ts1⟩ ⟨hf0, hf, hd, h⟩ R rn re rr rp
  dsimp only at hf0 hf hd h rn
  obtain ⟨n, hn⟩ : ∃ n, 22 - (x.fields.length + x.depends.length) = n + 1 := ⟨21 - (x.fields.length + x.depends.length), by omega⟩
  rw [hn, bodyM, massoc] at h
  simp [lt21_l6]
  refine y_accept hP (S := srcV s) (by simp) (by simp) _ _ (PS.bind h (fun ts' e h => ?_) (fun a ts' ha h => ?_))
  · simp
    refine rp _ _ _ ?_
    simp
    exact fin _ _ h _ _ _ _
  cases a with
  | true =>
    simp only [if_true, mpure] at h
    simp [lt21_s4]
    refine re _ _ _ ?_
    simp
    exact ⟨by have := hs.schemas; omega, leave_s (s := { s with schemas := s.schemas ++ [x] }) h (by simp) (by simp [young]; rfl)⟩
  | false =>
    simp only [Bool.false_eq_true, if_false] at h
    simp [lt21_s4, lt21_s5]
    refine y_next hP (S := srcV s) (ts := ts') (en := en) (by simp) (by simp) _ _ ?_
    cases hn1 : nextB 1 [102, 105, 101, 108, 100] ts' with
    | true =>
      rw [ifM_t hn1, massoc] at h
      simp [lt21_s3]
      refine y_room hP (S := srcV s) (by simp) (by simp) _ 12 (PS.bind h (fun ts' e h => ?_) (fun a ts' ha h => ?_))
      · simp
        refine rp _ _ _ ?_
        simp
        exact fin _ _ h _ _ _ _
      have hlt : x.fields.length < 12 := by
        simp only [roomM] at ha
        split at ha
        · cases ha
        · omega
      rw [massoc] at h
      simp [lt21_s0]
      refine ⟨?_, ?_⟩
      all_goals
        refine y_field hP (S := srcV s) (by simp) (by simp) hI (PS.bind h (fun ts' e h => ?_) (fun a ts' ha h => ?_))
        · simp
          refine rp _ _ _ ?_
          simp
          exact fin _ _ h _ _ _ _
        have hsh := field_shape ha
        simp [hsh]
        refine ⟨by omega, ?_⟩
        refine rn [] ({ x with fields := x.fields ++ [a] }, ts') _ _ ⟨by first | exact hf0 | simp, by simp; omega, by simp; omega, ?_⟩ (by simp; omega) (by simp) (by simp [young]) (by simp [young]) (by simp [young, mensE])
        simp only [List.length_append, List.length_singleton]
        rw [show 22 - (x.fields.length + 1 + x.depends.length) = n by omega]
        exact h
    | false =>
      rw [ifM_f hn1] at h
      simp [lt21_s3]
      refine y_next hP (S := srcV s) (ts := ts') (en := en) (by simp) (by simp) _ _ ?_
      cases hn2 : nextB 1 [100, 101, 112, 101, 110, 100] ts' with
      | false =>
        rw [ifM_f hn2] at h
        simp [lt21_s2]
        refine y_fail hP (S := srcV s) (ts := ts') (en := en) (by simp) (by simp) _ ?_
        simp
        refine rp _ _ _ ?_
        simp
        exact fin _ _ h _ _ _ _
      | true =>
        rw [ifM_t hn2, massoc] at h
        simp [lt21_s2]
        refine y_room hP (S := srcV s) (by simp) (by simp) _ 8 (PS.bind h (fun ts' e h => ?_) (fun a ts' ha h => ?_))
        · simp
          refine rp _ _ _ ?_
          simp
          exact fin _ _ h _ _ _ _
        have hlt : x.depends.length < 8 := by
          simp only [roomM] at ha
          split at ha
          · cases ha
          · omega
        rw [massoc] at h
        simp [lt21_s1]
        refine ⟨?_, ?_⟩
        all_goals
          refine y_depend hP (S := srcV s) (by simp) (by simp) (PS.bind h (fun ts' e h => ?_) (fun a ts' ha h => ?_))
          · simp
            refine rp _ _ _ ?_
            simp
            exact fin _ _ h _ _ _ _
          have hsh := depend_shape a
          simp [hsh]
          refine ⟨by omega, ?_⟩
          refine rn [] ({ x with depends := x.depends ++ [a] }, ts') _ _ ⟨by first | exact hf0 | simp, by simp; omega, by simp; omega, ?_⟩ (by simp; omega) (by simp) (by simp [young]) (by simp [young]) (by simp [young, mensE])
          simp only [List.length_append, List.length_singleton]
          rw [show 22 - (x.fields.length + (x.depends.length + 1)) = n by omega]
          exact h
end
end Go.Proofs.YtanpgmgkmfckaaaGreatDoor
/- Plain laws of the parser of sources: what it reads is at the front; a source cut where it failed fails at its end alone. No program. -/
namespace Go.Sx
open Go Go.Ab Go.Lx
def R.rest {α : Type} : R α → List Tok
  | .ok _ r => r
  | .err r _ => r
def R.End {α : Type} : R α → Prop
  | .ok _ r => r = []
  | .err r _ => r = []
def R.map {α : Type} (g : Tok → Tok) : R α → R α
  | .ok a r => .ok a (r.map g)
  | .err r e => .err (r.map g) e
def LocAt {α : Type} (m : M α) (pre post : List Tok) : Prop := match m (pre ++ post) with
  | .ok a r => (∃ mid, r = mid ++ post ∧ m pre = .ok a mid) ∨ (r.length < post.length ∧ (m pre).End)
  | .err r e => (∃ mid, mid ≠ [] ∧ r = mid ++ post ∧ m pre = .err mid e) ∨ (r.length ≤ post.length ∧ (m pre).End)
def Mv (g : Tok → Tok) : Prop := ∀ t, (g t).kind = t.kind ∧ (g t).text = t.text ∧ (g t).n = t.n
structure Good {α : Type} (m : M α) : Prop where
  sfx : ∀ ts, (m ts).rest <:+ ts
  loc : ∀ pre post, LocAt m pre post
  mv : ∀ g, Mv g → ∀ ts, m (ts.map g) = (m ts).map g
def Eats {α : Type} (m : M α) : Prop := ∀ ts a r, m ts = .ok a r → r.length < ts.length
section
variable {α β : Type}
theorem Good.ok {m : M α} (h : Good m) {ts r : List Tok} {a : α} (e : m ts = .ok a r) : r <:+ ts := by have := h.sfx ts; rw [e] at this; exact this
theorem Good.er {m : M α} (h : Good m) {ts r : List Tok} {e' : Int} (e : m ts = .err r e') : r <:+ ts := by have := h.sfx ts; rw [e] at this; exact this
theorem Good.end_nil {m : M α} (h : Good m) : (m []).End := by
  have := h.sfx []
  cases e : m [] with
  | ok a r => rw [e] at this; exact List.suffix_nil.1 this
  | err r x => rw [e] at this; exact List.suffix_nil.1 this
theorem Good.pure (a : α) : Good (pure a : M α) := ⟨fun ts => List.suffix_rfl, fun pre post => .inl ⟨pre, rfl, rfl⟩, fun _ _ _ => rfl⟩
theorem Good.fail (e : Int) : Good (fail e : M α) := by
  refine ⟨fun ts => List.suffix_rfl, fun pre post => ?_, fun _ _ _ => rfl⟩
  simp only [LocAt, Sx.fail]
  cases pre with
  | nil => exact .inr ⟨by simp, rfl⟩
  | cons x p => exact .inl ⟨x :: p, by simp, rfl, rfl⟩
theorem Good.bind {m : M α} {f : α → M β} (hm : Good m) (hf : ∀ a, Good (f a)) : Good (m >>= f) := by
  refine ⟨fun ts => ?_, fun pre post => ?_, fun g hg ts => ?_⟩
  · rw [bind_eq]
    have h1 := hm.sfx ts
    cases e : m ts with
    | ok a r => rw [e] at h1; exact ((hf a).sfx r).trans h1
    | err r x => rw [e] at h1; exact h1
  · have h1 := hm.loc pre post
    unfold LocAt at h1 ⊢
    rw [bind_eq]
    cases e : m (pre ++ post) with
    | ok a r =>
      rw [e] at h1
      simp only at h1 ⊢
      rcases h1 with ⟨mid, rfl, h2⟩ | ⟨h2, h3⟩
      · have h4 := (hf a).loc mid post
        unfold LocAt at h4
        rw [bind_eq, h2]
        exact h4
      · have h6 : ((m >>= f) pre).End := by
          rw [bind_eq]
          cases e2 : m pre with
          | ok a' r' =>
            rw [e2] at h3
            simp only [R.End] at h3
            subst h3
            exact (hf a').end_nil
          | err r' x => rw [e2] at h3; exact h3
        cases e3 : f a r with
        | ok b r2 => exact .inr ⟨Nat.lt_of_le_of_lt ((hf a).ok e3).length_le h2, h6⟩
        | err r2 x => exact .inr ⟨Nat.le_of_lt (Nat.lt_of_le_of_lt ((hf a).er e3).length_le h2), h6⟩
    | err r x =>
      rw [e] at h1
      simp only at h1 ⊢
      rcases h1 with ⟨mid, h0, rfl, h2⟩ | ⟨h2, h3⟩
      · exact .inl ⟨mid, h0, rfl, by rw [bind_eq, h2]⟩
      · refine .inr ⟨h2, ?_⟩
        rw [bind_eq]
        cases e2 : m pre with
        | ok a' r' =>
          rw [e2] at h3
          simp only [R.End] at h3
          subst h3
          exact (hf a').end_nil
        | err r' x => rw [e2] at h3; exact h3
  · rw [bind_eq, bind_eq, hm.mv g hg ts]
    cases m ts with
    | ok a r => exact (hf a).mv g hg r
    | err r x => rfl
theorem Good.ite {c : Prop} [Decidable c] {a b : M α} (ha : Good a) (hb : Good b) : Good (if c then a else b) := by split <;> assumption
theorem nextB_mv {g : Tok → Tok} (hg : Mv g) (k : Int) (t : B) (ts : List Tok) : nextB k t (ts.map g) = nextB k t ts := by
  cases ts with
  | nil => rfl
  | cons x r => simp only [List.map_cons, nextB, (hg x).1, (hg x).2.1]
theorem Eats.bind {m : M α} {f : α → M β} (hm : Eats m) (hf : ∀ a, Good (f a)) : Eats (m >>= f) := fun ts b r h => by
  rw [bind_eq] at h
  cases e : m ts with
  | ok a r1 => rw [e] at h; exact Nat.lt_of_le_of_lt ((hf a).ok h).length_le (hm _ _ _ e)
  | err r1 x => rw [e] at h; cases h
theorem Eats.bind2 {m : M α} {f : α → M β} (hm : Good m) (hf : ∀ a, Eats (f a)) : Eats (m >>= f) := fun ts b r h => by
  rw [bind_eq] at h
  cases e : m ts with
  | ok a r1 => rw [e] at h; exact Nat.lt_of_lt_of_le (hf a _ _ _ h) (hm.ok e).length_le
  | err r1 x => rw [e] at h; cases h
theorem Good.ifN {k : Int} {t : B} {a b : M α} (ha : Good a) (he : Eats a) (hb : Good b) : Good (fun ts => if nextB k t ts then a ts else b ts) := by
  refine ⟨fun ts => ?_, fun pre post => ?_, fun g hg ts => ?_⟩
  · split
    · exact ha.sfx ts
    · exact hb.sfx ts
  · cases pre with
    | nil =>
      have hl := hb.loc [] post
      have hn : nextB k t [] = false := rfl
      simp only [LocAt, List.nil_append, hn, Bool.false_eq_true, if_false] at hl ⊢
      split
      · rename_i x y z hc
        split at hc
        · exact .inr ⟨he _ _ _ hc, hb.end_nil⟩
        · rw [hc] at hl; exact hl
      · rename_i x y z hc
        split at hc
        · exact .inr ⟨(ha.er hc).length_le, hb.end_nil⟩
        · rw [hc] at hl; exact hl
    | cons x p =>
      have hn : nextB k t (x :: p ++ post) = nextB k t (x :: p) := rfl
      have h1 := ha.loc (x :: p) post
      have h2 := hb.loc (x :: p) post
      cases hc : nextB k t (x :: p) with
      | true => simp only [LocAt, hn, hc, if_true] at h1 ⊢; exact h1
      | false => simp only [LocAt, hn, hc, Bool.false_eq_true, if_false] at h2 ⊢; exact h2
  · simp only [nextB_mv hg]
    split
    · exact ha.mv g hg ts
    · exact hb.mv g hg ts
theorem good_step {k : Int} {t : B} {f : Tok → α} (hf : ∀ g, Mv g → ∀ x, f (g x) = f x) : Good (fun ts => if nextB k t ts then .ok (f (ts.headD default)) ts.tail else .err ts 100 : M α) ∧ Eats (fun ts => if nextB k t ts then .ok (f (ts.headD default)) ts.tail else .err ts 100 : M α) := by
  have he : Eats (fun ts => if nextB k t ts then .ok (f (ts.headD default)) ts.tail else .err ts 100 : M α) := fun ts a r h => by
    cases ts with
    | nil => simp [nextB] at h
    | cons x p =>
      simp only at h
      split at h
      · cases h; simp
      · cases h
  refine ⟨⟨fun ts => ?_, fun pre post => ?_, fun g hg ts => ?_⟩, he⟩
  · split
    · exact List.tail_suffix _
    · exact List.suffix_rfl
  · cases pre with
    | nil =>
      cases hp : nextB k t post with
      | true =>
        have : post ≠ [] := by intro e; subst e; simp [nextB] at hp
        simp only [LocAt, List.nil_append, hp, if_true]
        exact .inr ⟨by have := List.length_pos_iff.2 this; simp; omega, by simp [nextB, R.End]⟩
      | false =>
        simp only [LocAt, List.nil_append, hp, Bool.false_eq_true, if_false]
        exact .inr ⟨Nat.le_refl _, by simp [nextB, R.End]⟩
    | cons x p =>
      have hn : nextB k t (x :: p ++ post) = nextB k t (x :: p) := rfl
      cases hp : nextB k t (x :: p) with
      | true =>
        simp only [LocAt, hn, hp, if_true]
        exact .inl ⟨p, by simp, by simp⟩
      | false =>
        simp only [LocAt, hn, hp, Bool.false_eq_true, if_false]
        exact .inl ⟨x :: p, by simp, by simp, rfl⟩
  · simp only [nextB_mv hg]
    cases ts with
    | nil => simp [nextB, R.map]
    | cons x p =>
      cases hp : nextB k t (x :: p) with
      | true => simp [R.map, hf g hg]
      | false => simp [R.map]
end
theorem name_eq : nameM = fun ts => if nextB 1 [] ts then .ok (ts.headD default).text ts.tail else .err ts 100 := by
  funext ts; simp only [nameM, bind_eq, takeM]; cases nextB 1 [] ts <;> rfl
theorem word_eq (t : B) : wordM t = fun ts => if nextB 1 t ts then .ok () ts.tail else .err ts 100 := by
  funext ts; simp only [wordM, bind_eq, takeM]; cases nextB 1 t ts <;> rfl
theorem sign_eq (t : B) : signM t = fun ts => if nextB 3 t ts then .ok () ts.tail else .err ts 100 := by
  funext ts; simp only [signM, bind_eq, takeM]; cases nextB 3 t ts <;> rfl
theorem good_name : Good nameM := by rw [name_eq]; exact (good_step (f := fun x => x.text) fun g hg x => (hg x).2.1).1
theorem eats_name : Eats nameM := by rw [name_eq]; exact (good_step (f := fun x => x.text) fun g hg x => (hg x).2.1).2
theorem good_word (t : B) : Good (wordM t) := by rw [word_eq]; exact (good_step (f := fun _ => ()) fun g hg x => rfl).1
theorem eats_word (t : B) : Eats (wordM t) := by rw [word_eq]; exact (good_step (f := fun _ => ()) fun g hg x => rfl).2
theorem good_sign (t : B) : Good (signM t) := by rw [sign_eq]; exact (good_step (f := fun _ => ()) fun g hg x => rfl).1
theorem eats_sign (t : B) : Eats (signM t) := by rw [sign_eq]; exact (good_step (f := fun _ => ()) fun g hg x => rfl).2
theorem good_accept (k : Int) (t : B) : Good (acceptM k t) := by
  refine ⟨fun ts => ?_, fun pre post => ?_, fun g hg ts => ?_⟩
  · simp only [acceptM]
    split
    · exact List.tail_suffix _
    · exact List.suffix_rfl
  · cases pre with
    | nil =>
      cases hp : nextB k t post with
      | true =>
        have : post ≠ [] := by intro e; subst e; simp [nextB] at hp
        simp only [LocAt, acceptM, List.nil_append, hp, if_true]
        exact .inr ⟨by have := List.length_pos_iff.2 this; simp; omega, by simp [nextB, R.End]⟩
      | false =>
        simp only [LocAt, acceptM, List.nil_append, hp, Bool.false_eq_true, if_false]
        exact .inl ⟨[], rfl, by simp [nextB]⟩
    | cons x p =>
      have hn : nextB k t (x :: p ++ post) = nextB k t (x :: p) := rfl
      cases hp : nextB k t (x :: p) with
      | true =>
        simp only [LocAt, acceptM, hn, hp, if_true]
        exact .inl ⟨p, by simp, by simp⟩
      | false =>
        simp only [LocAt, acceptM, hn, hp, Bool.false_eq_true, if_false]
        exact .inl ⟨x :: p, by simp, rfl⟩
  · simp only [acceptM, nextB_mv hg]
    cases ts with
    | nil => simp [nextB, R.map]
    | cons x p =>
      cases hp : nextB k t (x :: p) with
      | true => simp [R.map]
      | false => simp [R.map]
theorem number_nil (lo hi : Int) : numberM lo hi [] = .err [] 100 := by simp [numberM, nextB]
theorem number_cons (lo hi : Int) (x : Tok) (p : List Tok) : numberM lo hi (x :: p) = if nextB 2 [] [x] && decide (lo ≤ x.n) && decide (x.n ≤ hi) then .ok x.n p else .err (x :: p) 100 := by
  simp only [numberM, List.headD_cons, List.tail_cons]; rfl
theorem good_number (lo hi : Int) : Good (numberM lo hi) := by
  refine ⟨fun ts => ?_, fun pre post => ?_, fun g hg ts => ?_⟩
  · simp only [numberM]
    split
    · exact List.tail_suffix _
    · exact List.suffix_rfl
  · cases pre with
    | nil =>
      cases post with
      | nil => simp only [LocAt, List.append_nil, number_nil]; exact .inr ⟨Nat.le_refl _, rfl⟩
      | cons y q =>
        simp only [LocAt, List.nil_append, number_nil, number_cons]
        split
        · rename_i h; split at h
          · cases h; exact .inr ⟨by simp, rfl⟩
          · cases h
        · rename_i h; split at h
          · cases h
          · cases h; exact .inr ⟨Nat.le_refl _, rfl⟩
    | cons x p =>
      simp only [LocAt, List.cons_append, number_cons]
      split
      · rename_i h; split at h
        · rename_i hc; cases h; exact .inl ⟨p, rfl, by rw [if_pos hc]⟩
        · cases h
      · rename_i h; split at h
        · cases h
        · rename_i hc; cases h; exact .inl ⟨x :: p, by simp, rfl, by rw [if_neg hc]⟩
  · cases ts with
    | nil => simp [number_nil, R.map]
    | cons x p =>
      have := nextB_mv hg 2 [] [x]
      simp only [List.map_cons, List.map_nil] at this
      simp only [List.map_cons, number_cons, this, (hg x).2.2]
      split <;> simp [R.map]
theorem eats_number (lo hi : Int) : Eats (numberM lo hi) := fun ts a r h => by
  cases ts with
  | nil => rw [number_nil] at h; cases h
  | cons x p =>
    rw [number_cons] at h
    split at h
    · cases h; simp
    · cases h
theorem good_room (a b : Nat) : Good (roomM a b) := by
  by_cases h : a = b
  · have : roomM a b = fail 2 := by funext ts; simp [roomM, h, fail]
    rw [this]; exact .fail 2
  · have : roomM a b = pure () := by funext ts; simp [roomM, h]
    rw [this]; exact .pure ()
theorem Good.ifM {α : Type} {k : Int} {t : B} {a b : M α} (ha : Good a) (he : Eats a) (hb : Good b) : Good (ifM (nextB k t) a b) := Good.ifN ha he hb
theorem good_list {α : Type} {k : Int} {t : B} {read : M α} (hr : Good read) (he : Eats read) : ∀ n, Good (listM (nextB k t) read n)
  | 0 => by
    have : listM (nextB k t) read 0 = fun ts => if nextB k t ts then .err ts 2 else .ok [] ts := rfl
    rw [this]
    have := Good.ifN (k := k) (t := t) (a := (fail 2 : M (List α))) (b := pure []) (.fail 2) (fun _ _ _ h => by cases h) (.pure [])
    exact this
  | n + 1 => by
    have : listM (nextB k t) read (n + 1) = fun ts => if nextB k t ts then (read >>= fun a => listM (nextB k t) read n >>= fun l => pure (a :: l) : M (List α)) ts else (pure [] : M (List α)) ts := rfl
    rw [this]
    exact Good.ifN (hr.bind fun a => (good_list hr he n).bind fun l => .pure _) (he.bind fun a => (good_list hr he n).bind fun l => .pure _) (.pure _)
theorem good_path : Good pathM := good_name.bind fun _ => (good_sign _).bind fun _ => good_name.bind fun _ => .pure _
theorem good_term : Good termM := Good.ifN ((good_number _ _).bind fun _ => .pure _) ((eats_number _ _).bind fun _ => .pure _) (good_path.bind fun _ => .pure _)
theorem good_from : Good fromM := (good_word _).bind fun _ => good_name.bind fun _ => good_name.bind fun _ => (good_accept _ _).bind fun _ => .ite (good_path.bind fun _ => (good_sign _).bind fun _ => .pure _) ((good_sign _).bind fun _ => .pure _)
theorem eats_from : Eats fromM := (eats_word _).bind fun _ => good_name.bind fun _ => good_name.bind fun _ => (good_accept _ _).bind fun _ => .ite (good_path.bind fun _ => (good_sign _).bind fun _ => .pure _) ((good_sign _).bind fun _ => .pure _)
theorem good_op : Good opM := (good_accept _ _).bind fun _ => .ite (.pure _) ((good_accept _ _).bind fun _ => .ite ((good_accept _ _).bind fun _ => .pure _) ((good_sign _).bind fun _ => (good_sign _).bind fun _ => .pure _))
theorem good_where : Good whereM := (good_word _).bind fun _ => good_term.bind fun _ => good_op.bind fun _ => good_term.bind fun _ => (good_sign _).bind fun _ => .pure _
theorem eats_where : Eats whereM := (eats_word _).bind fun _ => good_term.bind fun _ => good_op.bind fun _ => good_term.bind fun _ => (good_sign _).bind fun _ => .pure _
theorem good_set : Good setM := (good_word _).bind fun _ => good_name.bind fun _ => (good_sign _).bind fun _ => good_term.bind fun _ => (good_sign _).bind fun _ => .pure _
theorem eats_set : Eats setM := (eats_word _).bind fun _ => good_name.bind fun _ => (good_sign _).bind fun _ => good_term.bind fun _ => (good_sign _).bind fun _ => .pure _
theorem good_shift : Good shiftM := (good_accept _ _).bind fun _ => .ite (good_number _ _) ((good_accept _ _).bind fun _ => .ite ((good_number _ _).bind fun _ => .pure _) (.pure _))
theorem good_move : Good moveM := good_name.bind fun _ => (good_sign _).bind fun _ => good_name.bind fun _ => good_shift.bind fun _ => (good_sign _).bind fun _ => .pure _
theorem eats_move : Eats moveM := eats_name.bind fun _ => (good_sign _).bind fun _ => good_name.bind fun _ => good_shift.bind fun _ => (good_sign _).bind fun _ => .pure _
theorem good_may : Good mayM := (good_word _).bind fun _ => good_path.bind fun _ => (good_sign _).bind fun _ => .pure _
theorem eats_may : Eats mayM := (eats_word _).bind fun _ => good_path.bind fun _ => (good_sign _).bind fun _ => .pure _
theorem good_rep : ∀ n, Good (repM n)
  | 0 => .pure _
  | n + 1 => (good_number _ _).bind fun _ => (good_rep n).bind fun _ => .pure _
theorem good_listed (n : Nat) : Good (listedM n) := good_name.bind fun _ => (good_list ((good_sign _).bind fun _ => good_name) ((eats_sign _).bind fun _ => good_name) _).bind fun _ => .pure _
theorem good_kind : Good kindM := (good_accept _ _).bind fun _ => .ite ((good_number _ _).bind fun _ => (good_word _).bind fun _ => (good_number _ _).bind fun _ => (good_accept _ _).bind fun _ => .ite (good_name.bind fun _ => .pure _) (.pure _)) ((good_accept _ _).bind fun _ => .ite (.pure _) ((good_accept _ _).bind fun _ => .ite (.pure _) ((good_accept _ _).bind fun _ => .ite ((good_listed _).bind fun _ => .pure _) (.fail _))))
theorem good_field : Good fieldM := (good_word _).bind fun _ => good_name.bind fun _ => (good_sign _).bind fun _ => good_kind.bind fun _ => (good_rep 4).bind fun _ => (good_sign _).bind fun _ => .pure _
theorem eats_field : Eats fieldM := (eats_word _).bind fun _ => good_name.bind fun _ => (good_sign _).bind fun _ => good_kind.bind fun _ => (good_rep 4).bind fun _ => (good_sign _).bind fun _ => .pure _
theorem good_depend : Good dependM := (good_word _).bind fun _ => (good_listed _).bind fun _ => (good_word _).bind fun _ => good_name.bind fun _ => (good_sign _).bind fun _ => .pure _
theorem eats_depend : Eats dependM := (eats_word _).bind fun _ => (good_listed _).bind fun _ => (good_word _).bind fun _ => good_name.bind fun _ => (good_sign _).bind fun _ => .pure _
theorem good_body : ∀ n s, Good (bodyM n s)
  | 0, _ => .fail _
  | n + 1, s => (good_accept _ _).bind fun _ => .ite (.pure _) (Good.ifM ((good_room _ _).bind fun _ => good_field.bind fun _ => good_body n _) (Eats.bind2 (good_room _ _) fun _ => eats_field.bind fun _ => good_body n _)
    (Good.ifM ((good_room _ _).bind fun _ => good_depend.bind fun _ => good_body n _) (Eats.bind2 (good_room _ _) fun _ => eats_depend.bind fun _ => good_body n _) (.fail _)))
theorem ge_issuer (s : Src) : Good (issuerM s) ∧ Eats (issuerM s) := ⟨(good_room _ _).bind fun _ => (good_word _).bind fun _ => good_name.bind fun _ => (good_sign _).bind fun _ => .pure _, Eats.bind2 (good_room _ _) fun _ => (eats_word _).bind fun _ => good_name.bind fun _ => (good_sign _).bind fun _ => .pure _⟩
theorem good_unit1 (s : Src) : ∀ _ : Unit, Good (do let a ← nameM; let b ← acceptM 3 [61]; if b then do { let n ← numberM 2 1000; let o ← nameM; signM [59]; pure { s with units := s.units ++ [⟨a, some (n, o)⟩] } } else do { signM [59]; pure { s with units := s.units ++ [⟨a, none⟩] } } : M Src) := fun _ => good_name.bind fun _ => (good_accept _ _).bind fun _ => .ite ((good_number _ _).bind fun _ => good_name.bind fun _ => (good_sign _).bind fun _ => .pure _) ((good_sign _).bind fun _ => .pure _)
theorem ge_unit (s : Src) : Good (unitM s) ∧ Eats (unitM s) := ⟨(good_room _ _).bind fun _ => (good_word _).bind (good_unit1 s), Eats.bind2 (good_room _ _) fun _ => (eats_word _).bind (good_unit1 s)⟩
theorem good_schema1 (s : Src) : ∀ _ : Unit, Good (do let a ← nameM; wordM [98, 121]; let b ← nameM; wordM [118, 101, 114, 115, 105, 111, 110]; let v ← numberM 1 255; wordM [115, 101, 108, 102]; let w ← weightsM; signM [123]; let x ← bodyM 21 ⟨a, b, v, [⟨[115, 101, 108, 102], .person, w⟩], []⟩; pure { s with schemas := s.schemas ++ [x] } : M Src) := fun _ => good_name.bind fun _ => (good_word _).bind fun _ => good_name.bind fun _ => (good_word _).bind fun _ => (good_number _ _).bind fun _ => (good_word _).bind fun _ => (good_rep 4).bind fun _ => (good_sign _).bind fun _ => (good_body _ _).bind fun _ => .pure _
theorem ge_schema (s : Src) : Good (schemaM s) ∧ Eats (schemaM s) := ⟨(good_room _ _).bind fun _ => (good_word _).bind (good_schema1 s), Eats.bind2 (good_room _ _) fun _ => (eats_word _).bind (good_schema1 s)⟩
theorem good_rule1 (s : Src) : ∀ _ : Unit, Good (do let a ← nameM; signM [123]; ifM (nextB 1 [102, 114, 111, 109]) (do { let f ← listM (nextB 1 [102, 114, 111, 109]) fromM 3; let w ← listM (nextB 1 [119, 104, 101, 114, 101]) whereM 8; let t ← listM (nextB 1 [115, 101, 116]) setM 11; signM [125]; pure { s with rules := s.rules ++ [⟨a, f, w, t⟩] } }) (fail 100) : M Src) := fun _ => good_name.bind fun _ => (good_sign _).bind fun _ => by
  refine Good.ifM ?_ ?_ (.fail _)
  · exact (good_list good_from eats_from _).bind fun _ => (good_list good_where eats_where _).bind fun _ => (good_list good_set eats_set _).bind fun _ => (good_sign _).bind fun _ => .pure _
  · exact Eats.bind2 (good_list good_from eats_from _) fun _ => Eats.bind2 (good_list good_where eats_where _) fun _ => Eats.bind2 (good_list good_set eats_set _) fun _ => (eats_sign _).bind fun _ => .pure _
theorem ge_rule (s : Src) : Good (ruleM s) ∧ Eats (ruleM s) := ⟨(good_room _ _).bind fun _ => (good_word _).bind (good_rule1 s), Eats.bind2 (good_room _ _) fun _ => (eats_word _).bind (good_rule1 s)⟩
theorem good_convert1 (s : Src) : ∀ _ : Unit, Good (do let a ← nameM; wordM [116, 111]; let b ← nameM; signM [123]; let l ← listM (nextB 1 []) moveM 11; signM [125]; pure { s with converts := s.converts ++ [⟨a, b, l⟩] } : M Src) := fun _ => good_name.bind fun _ => (good_word _).bind fun _ => good_name.bind fun _ => (good_sign _).bind fun _ => (good_list good_move eats_move _).bind fun _ => (good_sign _).bind fun _ => .pure _
theorem ge_convert (s : Src) : Good (convertM s) ∧ Eats (convertM s) := ⟨(good_room _ _).bind fun _ => (good_word _).bind (good_convert1 s), Eats.bind2 (good_room _ _) fun _ => (eats_word _).bind (good_convert1 s)⟩
theorem good_purpose1 (s : Src) : ∀ _ : Unit, Good (do let a ← nameM; signM [123]; let l ← listM (nextB 1 [109, 97, 121]) mayM 32; wordM [109, 111, 115, 116]; let n ← numberM 0 32; signM [59]; signM [125]; pure { s with purposes := s.purposes ++ [⟨a, l, n⟩] } : M Src) := fun _ => good_name.bind fun _ => (good_sign _).bind fun _ => (good_list good_may eats_may _).bind fun _ => (good_word _).bind fun _ => (good_number _ _).bind fun _ => (good_sign _).bind fun _ => (good_sign _).bind fun _ => .pure _
theorem ge_purpose (s : Src) : Good (purposeM s) ∧ Eats (purposeM s) := ⟨(good_room _ _).bind fun _ => (good_word _).bind (good_purpose1 s), Eats.bind2 (good_room _ _) fun _ => (eats_word _).bind (good_purpose1 s)⟩
def defH (t : B) (s : Src) : M Src :=
  if t = [105, 115, 115, 117, 101, 114] then issuerM s
  else if t = [117, 110, 105, 116] then unitM s
  else if t = [115, 99, 104, 101, 109, 97] then schemaM s
  else if t = [100, 101, 114, 105, 118, 101] then ruleM s
  else if t = [99, 111, 110, 118, 101, 114, 116] then convertM s
  else if t = [112, 117, 114, 112, 111, 115, 101] then purposeM s
  else fail 100
theorem ge_defH (t : B) (s : Src) : Good (defH t s) ∧ Eats (defH t s) := by
  unfold defH
  split
  · exact ge_issuer s
  split
  · exact ge_unit s
  split
  · exact ge_schema s
  split
  · exact ge_rule s
  split
  · exact ge_convert s
  split
  · exact ge_purpose s
  · exact ⟨.fail _, fun _ _ _ h => by cases h⟩
def defM (s : Src) : M Src := fun ts => match ts with
  | [] => .err [] 100
  | x :: r => if x.kind = 1 then defH x.text s (x :: r) else .err (x :: r) 100
theorem eats_def (s : Src) : Eats (defM s) := fun ts a r h => by
  cases ts with
  | nil => cases h
  | cons x p =>
    simp only [defM] at h
    split at h
    · exact (ge_defH _ _).2 _ _ _ h
    · cases h
theorem good_def (s : Src) : Good (defM s) := by
  refine ⟨fun ts => ?_, fun pre post => ?_, fun g hg ts => ?_⟩
  · cases ts with
    | nil => exact List.suffix_rfl
    | cons x p =>
      simp only [defM]
      split
      · exact (ge_defH _ _).1.sfx _
      · exact List.suffix_rfl
  · cases pre with
    | nil =>
      have hs : (defM s post).rest <:+ post := by
        cases post with
        | nil => exact List.suffix_rfl
        | cons x p =>
          simp only [defM]
          split
          · exact (ge_defH _ _).1.sfx _
          · exact List.suffix_rfl
      simp only [LocAt, List.nil_append]
      cases e : defM s post with
      | ok a r => exact .inr ⟨eats_def s _ _ _ e, rfl⟩
      | err r x => rw [e] at hs; exact .inr ⟨hs.length_le, rfl⟩
    | cons x p =>
      by_cases hk : x.kind = 1
      · have := (ge_defH x.text s).1.loc (x :: p) post
        simpa only [LocAt, defM, List.cons_append, hk, if_true] using this
      · simp only [LocAt, defM, List.cons_append, hk, if_false]
        exact .inl ⟨x :: p, by simp, rfl, rfl⟩
  · cases ts with
    | nil => rfl
    | cons x p =>
      simp only [defM, List.map_cons, (hg x).1, (hg x).2.1]
      split
      · have := (ge_defH x.text s).1.mv g hg (x :: p)
        simpa using this
      · rfl
def parseL : Nat → Src → M Src
  | 0, s => fun ts => match ts with
    | [] => .ok s []
    | x :: r => .err (x :: r) 0
  | n + 1, s => fun ts => match ts with
    | [] => .ok s []
    | x :: r => (defM s >>= parseL n) (x :: r)
theorem parseL_nil (n : Nat) (s : Src) : parseL n s [] = .ok s [] := by cases n <;> rfl
theorem parseL_cons (n : Nat) (s : Src) (x : Tok) (r : List Tok) : parseL (n + 1) s (x :: r) = (defM s >>= parseL n) (x :: r) := rfl
theorem good_parse : ∀ n s, Good (parseL n s)
  | 0, s => by
    refine ⟨fun ts => ?_, fun pre post => ?_, fun g hg ts => ?_⟩
    · cases ts <;> exact List.suffix_rfl
    · cases pre with
      | nil =>
        cases post with
        | nil => exact .inl ⟨[], rfl, rfl⟩
        | cons x p => exact .inr ⟨Nat.le_refl _, rfl⟩
      | cons x p => exact .inl ⟨x :: p, by simp, rfl, rfl⟩
    · cases ts <;> rfl
  | n + 1, s => by
    have hb : Good (defM s >>= parseL n) := (good_def s).bind (good_parse n)
    have he : Eats (defM s >>= parseL n) := (eats_def s).bind (good_parse n)
    refine ⟨fun ts => ?_, fun pre post => ?_, fun g hg ts => ?_⟩
    · cases ts with
      | nil => exact List.suffix_rfl
      | cons x p => exact hb.sfx (x :: p)
    · cases pre with
      | nil =>
        cases post with
        | nil => exact .inl ⟨[], rfl, rfl⟩
        | cons x p =>
          simp only [LocAt, List.nil_append, parseL_cons]
          cases e : (defM s >>= parseL n) (x :: p) with
          | ok a r => exact .inr ⟨he _ _ _ e, rfl⟩
          | err r y => exact .inr ⟨(hb.er e).length_le, rfl⟩
      | cons x p =>
        have := hb.loc (x :: p) post
        simpa only [LocAt, List.cons_append, parseL_cons] using this
    · cases ts with
      | nil => rfl
      | cons x p =>
        have := hb.mv g hg (x :: p)
        simpa only [List.map_cons, parseL_cons] using this
theorem parseL_fuel : ∀ (n : Nat) (s : Src) (ts : List Tok), ts.length ≤ n → parseL n s ts = parseL ts.length s ts := by
  have key : ∀ (n : Nat) (s : Src) (ts : List Tok), ts.length ≤ n → parseL n s ts = parseL (n + 1) s ts := by
    intro n
    induction n with
    | zero => intro s ts h; cases ts with
      | nil => rfl
      | cons x r => simp at h
    | succ n ih =>
      intro s ts h
      cases ts with
      | nil => rfl
      | cons x r =>
        rw [parseL_cons, parseL_cons, bind_eq, bind_eq]
        cases e : defM s (x :: r) with
        | err a b => rfl
        | ok a r1 =>
          have := eats_def s _ _ _ e
          simp only [List.length_cons] at this h
          exact ih a r1 (by omega)
  intro n s ts h
  obtain ⟨d, rfl⟩ := Nat.exists_eq_add_of_le h
  clear h
  induction d with
  | zero => rfl
  | succ d ih => rw [← ih]; exact (key (ts.length + d) s ts (by omega)).symm
abbrev src0 : Src := ⟨[], [], [], [], [], []⟩
def parseR (ts : List Tok) : R Src := parseL ts.length src0 ts
theorem parse_cut {pre post : List Tok} {e : Int} (h : parseR (pre ++ post) = .err post e) : (parseR pre).End := by
  have h1 := (good_parse (pre ++ post).length src0).loc pre post
  unfold parseR at h
  simp only [LocAt, h] at h1
  have h2 : (parseL (pre ++ post).length src0 pre).End := by
    rcases h1 with ⟨mid, h0, h2, h3⟩ | ⟨_, h3⟩
    · have := congrArg List.length h2
      simp at this
      exact absurd this h0
    · exact h3
  unfold parseR
  rw [parseL_fuel _ _ _ (by simp)] at h2
  exact h2
theorem parse_sfx {ts r : List Tok} {e : Int} (h : parseR ts = .err r e) : r <:+ ts := (good_parse _ _).er h
end Go.Sx
/- Plain laws of the parser of sources: a definition is room for it, its text, and the addition of it. No program. -/
namespace Go.Sx
open Go Go.Ab Go.Lx
section
variable {α β : Type}
theorem mite {c : Prop} [Decidable c] (a b : M α) (f : α → M β) : ((if c then a else b) >>= f) = if c then a >>= f else b >>= f := by split <;> rfl
theorem mifM {c : List Tok → Bool} (a b : M α) (f : α → M β) : ((ifM c a b) >>= f) = ifM c (a >>= f) (b >>= f) := by
  funext ts; simp only [bind_eq, ifM]; cases c ts <;> rfl
theorem mfail (e : Int) (f : α → M β) : ((fail e : M α) >>= f) = fail e := rfl
def oneM (n m : Nat) (body : M α) (g : α → Src) : M Src := roomM n m >>= fun _ => body >>= fun a => pure (g a)
theorem oneM_ok {n m : Nat} {body : M α} {g : α → Src} {ts r : List Tok} {s : Src} (h : oneM n m body g ts = .ok s r) : n ≠ m ∧ ∃ a, body ts = .ok a r ∧ s = g a := by
  simp only [oneM, bind_eq, roomM] at h
  by_cases he : n = m
  · simp [he] at h
  · simp only [he, if_false] at h
    cases hb : body ts with
    | ok a t1 => simp only [hb, pure_eq, R.ok.injEq] at h; exact ⟨he, a, by rw [h.2], h.1.symm⟩
    | err a b => simp [hb] at h
end
def issuerB : M B := do
  wordM [105, 115, 115, 117, 101, 114]
  let a ← nameM
  signM [59]
  pure a
theorem issuer_eq (s : Src) : issuerM s = oneM s.issuers.length 8 issuerB fun a => { s with issuers := s.issuers ++ [a] } := by
  simp only [issuerM, oneM, issuerB, massoc, mpure]
def unitB : M UnitT := do
  wordM [117, 110, 105, 116]
  let a ← nameM
  let b ← acceptM 3 [61]
  if b then do
    let n ← numberM 2 1000
    let o ← nameM
    signM [59]
    pure ⟨a, some (n, o)⟩
  else do
    signM [59]
    pure ⟨a, none⟩
theorem unit_eq (s : Src) : unitM s = oneM s.units.length 16 unitB fun a => { s with units := s.units ++ [a] } := by
  simp only [unitM, oneM, unitB, massoc, mpure, mite]
def schemaB : M Schema := do
  wordM [115, 99, 104, 101, 109, 97]
  let a ← nameM
  wordM [98, 121]
  let b ← nameM
  wordM [118, 101, 114, 115, 105, 111, 110]
  let v ← numberM 1 255
  wordM [115, 101, 108, 102]
  let w ← weightsM
  signM [123]
  bodyM 21 ⟨a, b, v, [⟨[115, 101, 108, 102], .person, w⟩], []⟩
theorem schema_eq (s : Src) : schemaM s = oneM s.schemas.length 16 schemaB fun a => { s with schemas := s.schemas ++ [a] } := by
  simp only [schemaM, oneM, schemaB, massoc, mpure]
def ruleB : M Rule := do
  wordM [100, 101, 114, 105, 118, 101]
  let a ← nameM
  signM [123]
  ifM (nextB 1 [102, 114, 111, 109]) (do
    let f ← listM (nextB 1 [102, 114, 111, 109]) fromM 3
    let w ← listM (nextB 1 [119, 104, 101, 114, 101]) whereM 8
    let t ← listM (nextB 1 [115, 101, 116]) setM 11
    signM [125]
    pure ⟨a, f, w, t⟩) (fail 100)
theorem rule_eq (s : Src) : ruleM s = oneM s.rules.length 16 ruleB fun a => { s with rules := s.rules ++ [a] } := by
  simp only [ruleM, oneM, ruleB, massoc, mpure, mifM, mfail]
def convertB : M Convert := do
  wordM [99, 111, 110, 118, 101, 114, 116]
  let a ← nameM
  wordM [116, 111]
  let b ← nameM
  signM [123]
  let l ← listM (nextB 1 []) moveM 11
  signM [125]
  pure ⟨a, b, l⟩
theorem convert_eq (s : Src) : convertM s = oneM s.converts.length 16 convertB fun a => { s with converts := s.converts ++ [a] } := by
  simp only [convertM, oneM, convertB, massoc, mpure]
def purposeB : M Purpose := do
  wordM [112, 117, 114, 112, 111, 115, 101]
  let a ← nameM
  signM [123]
  let l ← listM (nextB 1 [109, 97, 121]) mayM 32
  wordM [109, 111, 115, 116]
  let n ← numberM 0 32
  signM [59]
  signM [125]
  pure ⟨a, l, n⟩
theorem purpose_eq (s : Src) : purposeM s = oneM s.purposes.length 8 purposeB fun a => { s with purposes := s.purposes ++ [a] } := by
  simp only [purposeM, oneM, purposeB, massoc, mpure]
theorem defH_cases {t : B} {s s' : Src} {ts r : List Tok} (h : defH t s ts = .ok s' r) :
    (s.issuers.length ≠ 8 ∧ ∃ a, s' = { s with issuers := s.issuers ++ [a] }) ∨ (s.units.length ≠ 16 ∧ ∃ a, s' = { s with units := s.units ++ [a] }) ∨ (s.schemas.length ≠ 16 ∧ ∃ a, s' = { s with schemas := s.schemas ++ [a] }) ∨
    (s.rules.length ≠ 16 ∧ ∃ a, s' = { s with rules := s.rules ++ [a] }) ∨ (s.converts.length ≠ 16 ∧ ∃ a, s' = { s with converts := s.converts ++ [a] }) ∨ (s.purposes.length ≠ 8 ∧ ∃ a, s' = { s with purposes := s.purposes ++ [a] }) := by
  unfold defH at h
  split at h
  · rw [issuer_eq] at h; obtain ⟨h1, a, _, h2⟩ := oneM_ok h; exact .inl ⟨h1, a, h2⟩
  split at h
  · rw [unit_eq] at h; obtain ⟨h1, a, _, h2⟩ := oneM_ok h; exact .inr (.inl ⟨h1, a, h2⟩)
  split at h
  · rw [schema_eq] at h; obtain ⟨h1, a, _, h2⟩ := oneM_ok h; exact .inr (.inr (.inl ⟨h1, a, h2⟩))
  split at h
  · rw [rule_eq] at h; obtain ⟨h1, a, _, h2⟩ := oneM_ok h; exact .inr (.inr (.inr (.inl ⟨h1, a, h2⟩)))
  split at h
  · rw [convert_eq] at h; obtain ⟨h1, a, _, h2⟩ := oneM_ok h; exact .inr (.inr (.inr (.inr (.inl ⟨h1, a, h2⟩))))
  split at h
  · rw [purpose_eq] at h; obtain ⟨h1, a, _, h2⟩ := oneM_ok h; exact .inr (.inr (.inr (.inr (.inr ⟨h1, a, h2⟩))))
  · cases h
theorem defH_few {t : B} {s s' : Src} {ts r : List Tok} (hs : Few s) (h : defH t s ts = .ok s' r) : Few s' := by
  obtain ⟨f1, f2, f3, f4, f5, f6⟩ := hs
  rcases defH_cases h with ⟨h1, a, rfl⟩ | ⟨h1, a, rfl⟩ | ⟨h1, a, rfl⟩ | ⟨h1, a, rfl⟩ | ⟨h1, a, rfl⟩ | ⟨h1, a, rfl⟩ <;> refine ⟨?_, ?_, ?_, ?_, ?_, ?_⟩ <;> simp <;> omega
theorem few0 : Few src0 := ⟨by simp, by simp, by simp, by simp, by simp, by simp⟩
end Go.Sx
/- Plain facts on runs of bytes. No program. -/
namespace Go.Lx
open Go Go.Ab
theorem wrap1 {i n : Nat} (h : i < n) (hn : n ≤ 1000000) : IntKind.i64.wrap ((i : Int) + 1) = (i : Int) + 1 := IntWalk.i64_in _ (by omega)
end Go.Lx
/- Tables of numbers as data; the classes of bytes. Condition: the program is the seat's. -/
namespace Go.Lx
open Go Go.Ab
def tblL (f : Nat → Int) : List D := (List.range 256).map fun i => .int .i64 (f i)
def tblD (f : Nat → Int) : D := .agg (tblL f)
def upd (f : Nat → Int) (n : Nat) (v : Int) (i : Nat) : Int := if i = n then v else f i
theorem tblD_congr {f g : Nat → Int} (h : ∀ i, i < 256 → f i = g i) : tblD f = tblD g := by
  unfold tblD tblL
  congr 1
  exact List.map_congr_left fun i hi => by rw [h i (List.mem_range.mp hi)]
@[simp] theorem tbl_kids (f : Nat → Int) : V.kids (.d (tblD f)) = some ((tblL f).map .d) := by simp only [tblD, V.kids]
@[simp] theorem tbl_getE (f : Nat → Int) {n : Nat} (h : n < (tblL f).length) : (tblL f)[n] = .int .i64 (f n) := by simp [tblL]
@[simp] theorem tblL_length (f : Nat → Int) : (tblL f).length = 256 := by simp [tblL]
@[simp] theorem allD_set (l : List D) (n : Nat) (x : D) : V.allD ((l.map V.d).set n (.d x)) = some (l.set n x) := by rw [← List.map_set, allD_map]
@[simp] theorem tblL_set (f : Nat → Int) (n : Nat) (v : Int) : (tblL f).set n (.int .i64 v) = tblL (upd f n v) := by
  unfold tblL
  apply List.ext_getElem?
  intro i
  by_cases hi : n = i
  · subst hi
    by_cases hl : n < 256
    · simp [List.getElem?_set, hl, upd]
    · simp [List.getElem?_set, hl]
  · by_cases hl : i < 256
    · simp [List.getElem?_set, hi, hl, upd, Ne.symm hi]
    · simp [List.getElem?_set, hi, hl]
@[simp] theorem agg_tbl (f : Nat → Int) : D.agg (tblL f) = tblD f := rfl
theorem szs_all {l : List D} {n : Nat} (h : ∀ x ∈ l, x.sz = n) : D.szs l = l.length * n := D.szs_uniform l h
theorem tblL_one (f : Nat → Int) : ∀ x ∈ tblL f, x.sz = 1 := by
  intro x hx
  simp only [tblL, List.mem_map] at hx
  obtain ⟨i, _, rfl⟩ := hx
  rfl
@[simp] theorem tbl_sz (f : Nat → Int) : (tblD f).sz = 256 := by simp only [tblD, D.sz, szs_all (tblL_one f), tblL_length]
@[simp] theorem tbl_size' (f : Nat → Int) : (tblD f).shape.size = 256 := by rw [D.size_shape, tbl_sz]
@[simp] theorem tbl_agg (f : Nat → Int) : V.isAgg (.d (tblD f)) = true := rfl
@[simp] theorem tbl_dagg (f : Nat → Int) : (tblD f).isAgg = true := rfl
@[simp] theorem tbl_ok (f : Nat → Int) : (∀ a, a ∈ tblL f → a.shape.size = 1) = True :=
  eq_true fun x hx => by rw [D.size_shape]; exact tblL_one f x hx
theorem map_zero (n : Nat) (x : D) : List.replicate n x = (List.range n).map fun _ => x := by
  rw [List.map_const', List.length_range]
theorem bytesD_map : ∀ s : List UInt8, bytesD s = s.map fun b => .int .u8 b.toNat
  | [] => rfl
  | b :: r => by simp [bytesD, bytesD_map r]
theorem zeros_tbl : List.replicate 256 (D.int .i64 0) = tblL fun _ => 0 := map_zero 256 _

def cl1 (k i : Nat) : Int := if 65 ≤ i ∧ i < 65 + k ∨ 97 ≤ i ∧ i < 97 + k then 2 else 0
def cl2 (k i : Nat) : Int := if 48 ≤ i ∧ i < 48 + k then 3 else cl1 26 i
def spc : List UInt8 := [32, 9, 10, 13]
def cl3 (k i : Nat) : Int := if i ∈ (spc.take k).map UInt8.toNat then 1 else cl2 10 i
def cl4 (k i : Nat) : Int := if i ∈ (signs.take k).map UInt8.toNat then 4 else cl3 4 i
def clsF : Nat → Int := cl4 15
theorem mem_take {l : List UInt8} {k i : Nat} (h : k < l.length) : (i ∈ (l.take (k + 1)).map UInt8.toNat) ↔ (i = (l[k]?.getD 0).toNat ∨ i ∈ (l.take k).map UInt8.toNat) := by
  rw [List.take_add_one, List.map_append, List.mem_append, List.getElem?_eq_getElem h]
  simp only [Option.toList_some, List.map_cons, List.map_nil, List.mem_singleton, Option.getD_some]
  exact Or.comm
def clsD : D := tblD clsF
end Go.Lx
namespace Go.Proofs.YtanpgmgkmfckaaaGreatDoor
open Go Go.Ab Go.Lx
set_option maxRecDepth 100000
section
variable {P : Prg} (hP : P.p = Tryz.prog)
include hP
theorem c_classify {ob : Objs} {K : V → Prop} (h : K (.d clsD)) : PCall P 42 [] ob K := by
  refine pcall_lift hP mixed (ds := []) ok42 lf42 TOk.nil ?_
  simp only [lt42, zeros_tbl]
  rw [show D.agg (tblL fun _ => 0) = tblD fun _ => 0 from rfl, show tblD (fun _ => 0) = tblD (cl1 0) from tblD_congr fun i _ => by simp [cl1]]
  simp
  refine ALoop.go (ι := Nat) (fun k => [(0, .ptr 0 []), (7, .d (.int .i64 k))]) (fun k => [(0, .box 116 (.d (tblD (cl1 k))))]) (fun k => k ≤ 26) (fun k => 26 - k) 0 (by omega) (by simp) (by simp) ?_
  intro k hk R rn re _ _
  by_cases hlt : k < 26
  · have w1 : IntKind.i64.wrap (65 + (k : Int)) = 65 + (k : Int) := IntWalk.i64_in _ (by omega)
    have w2 : IntKind.i64.wrap (97 + (k : Int)) = 97 + (k : Int) := IntWalk.i64_in _ (by omega)
    have w3 := wrap1 hlt (by omega)
    simp [lt42_l3, w1, w2, w3, show (k : Int) < 26 by omega, show ¬ (26 : Int) ≤ k by omega, show (0 : Int) ≤ 65 + k by omega, show (0 : Int) ≤ 97 + k by omega, show 65 + (k : Int) < 256 by omega, show 97 + (k : Int) < 256 by omega, show (65 + (k : Int)).toNat = 65 + k by omega, show (97 + (k : Int)).toNat = 97 + k by omega, show 65 + k < 256 by omega, show 97 + k < 256 by omega]
    refine rn [] (k + 1) _ _ ?_ ?_ ?_ ?_ ?_ ?_
    · omega
    · omega
    · simp
    · simp
      refine tblD_congr fun i _ => ?_
      simp only [upd, cl1]
      repeat (first | split | omega)
      all_goals omega
    · simp
    · simp
  · have hk' : k = 26 := by omega
    subst hk'
    simp [lt42_l3]
    refine re _ _ _ ?_
    simp
    clear rn re
    rw [show tblD (cl1 26) = tblD (cl2 0) from tblD_congr fun i _ => by simp [cl2]; omega]
    refine ALoop.go (ι := Nat) (fun k => [(0, .ptr 0 []), (17, .d (.int .i64 k))]) (fun k => [(0, .box 116 (.d (tblD (cl2 k))))]) (fun k => k ≤ 10) (fun k => 10 - k) 0 (by omega) (by simp) (by simp) ?_
    intro k hk R rn re _ _
    by_cases hlt : k < 10
    · have w1 : IntKind.i64.wrap (48 + (k : Int)) = 48 + (k : Int) := IntWalk.i64_in _ (by omega)
      have w3 := wrap1 hlt (by omega)
      simp [lt42_l2, w1, w3, show (k : Int) < 10 by omega, show ¬ (10 : Int) ≤ k by omega, show (0 : Int) ≤ 48 + k by omega, show 48 + (k : Int) < 256 by omega, show (48 + (k : Int)).toNat = 48 + k by omega, show 48 + k < 256 by omega]
      refine rn [] (k + 1) _ _ ?_ ?_ ?_ ?_ ?_ ?_
      · omega
      · omega
      · simp
      · simp
        refine tblD_congr fun i _ => ?_
        simp only [upd, cl2]
        repeat (first | split | omega)
        all_goals omega
      · simp
      · simp
    · have hk' : k = 10 := by omega
      subst hk'
      simp [lt42_l2]
      refine re _ _ _ ?_
      simp
      clear rn re
      rw [show tblD (cl2 10) = tblD (cl3 0) from tblD_congr fun i _ => by simp [cl3]]
      show ALoop _ _ _ [_, (25, V.d (D.list 1 (bytesD spc))), _, _] _
      refine ALoop.go (ι := Nat) (fun k => [(0, .ptr 0 []), (25, .d (.list 1 (bytesD spc))), (26, .d (.int .i64 4)), (27, .d (.int .i64 k))]) (fun k => [(1, .gone), (0, .box 116 (.d (tblD (cl3 k))))]) (fun k => k ≤ 4) (fun k => 4 - k) 0 (by omega) (by simp [keepS]) (by simp) ?_
      intro k hk R rn re _ _
      by_cases hlt : k < 4
      · have w3 := wrap1 hlt (by omega)
        have hb : (bytesD spc)[k]?.getD default = .int .u8 (spc[k]?.getD 0).toNat := by
          rw [bytesD_map]; simp [show k < spc.length from hlt]
        have hlen : (bytesD spc).length = 4 := rfl
        have hc := (spc[k]?.getD 0).toNat_lt
        generalize hcc : spc[k]?.getD 0 = c at *
        simp [lt42_l1, w3, hb, hlen, show (k : Int) < 4 by omega, show ¬ (4 : Int) ≤ k by omega, hc, show ((c.toNat : Int) < 256) by omega]
        refine rn [] (k + 1) _ _ ?_ ?_ ?_ ?_ ?_ ?_
        · omega
        · omega
        · simp
        · simp
          refine tblD_congr fun i _ => ?_
          simp only [upd, cl3, mem_take (show k < spc.length from hlt), hcc]
          split
          · rename_i e; simp [e]
          · rename_i e; simp [e]
        · simp
        · simp
      · have hk' : k = 4 := by omega
        subst hk'
        simp [lt42_l1]
        refine re _ _ _ ?_
        simp
        clear rn re
        rw [show tblD (cl3 4) = tblD (cl4 0) from tblD_congr fun i _ => by simp [cl4]]
        show ALoop _ _ _ [_, (35, V.d (D.list 1 (bytesD signs))), _, _] _
        refine ALoop.go (ι := Nat) (fun k => [(0, .ptr 0 []), (35, .d (.list 1 (bytesD signs))), (36, .d (.int .i64 15)), (37, .d (.int .i64 k))]) (fun k => [(2, .gone), (1, .gone), (0, .box 116 (.d (tblD (cl4 k))))]) (fun k => k ≤ 15) (fun k => 15 - k) 0 (by omega) (by simp [keepS]) (by simp) ?_
        intro k hk R rn re _ _
        by_cases hlt : k < 15
        · have w3 := wrap1 hlt (by omega)
          have hb : (bytesD signs)[k]?.getD default = .int .u8 (signs[k]?.getD 0).toNat := by
            rw [bytesD_map]; simp [show k < signs.length from hlt]
          have hlen : (bytesD signs).length = 15 := rfl
          have hc := (signs[k]?.getD 0).toNat_lt
          generalize hcc : signs[k]?.getD 0 = c at *
          simp [lt42_l0, w3, hb, hlen, show (k : Int) < 15 by omega, show ¬ (15 : Int) ≤ k by omega, hc, show ((c.toNat : Int) < 256) by omega]
          refine rn [] (k + 1) _ _ ?_ ?_ ?_ ?_ ?_ ?_
          · omega
          · omega
          · simp
          · simp
            refine tblD_congr fun i _ => ?_
            simp only [upd, cl4, mem_take (show k < signs.length from hlt), hcc]
            split
            · rename_i e; simp [e]
            · rename_i e; simp [e]
          · simp
          · simp
        · have hk' : k = 15 := by omega
          subst hk'
          simp [lt42_l0]
          refine re _ _ _ ?_
          simp
          refine ⟨rfl, ?_⟩
          exact h
end
end Go.Proofs.YtanpgmgkmfckaaaGreatDoor
/- Contracts: what the scanner calls. Condition: the program is the seat's. -/
namespace Go.Lx
open Go Go.Ab
@[simp] theorem idxPV_tbl (f : Nat → Int) (kd : IntKind) (i : Int) : idxPV (.d (.ref (tblD f))) (.d (.int kd i)) = .d (.ref ((tblL f).getD i.toNat default)) := by simp only [tblD, idxPV]
@[simp] theorem idxPS_tbl (ob : Objs) (f : Nat → Int) (kd : IntKind) (i : Int) : idxPS ob 256 1 (.d (.ref (tblD f))) (.d (.int kd i)) = (0 ≤ i ∧ i < 256) := by
  simp only [tblD, idxPS_c, tblL_length]
  simp
  intro _ _ x hx; exact tblL_one f x hx
theorem cls_letter : ∀ n, n < 256 → (clsF n = 2 ↔ letterI n = true) := by decide +kernel
theorem cls_digit : ∀ n, n < 256 → (clsF n = 3 ↔ digitI n = true) := by decide +kernel
theorem cls_space : ∀ n, n < 256 → (clsF n = 1 ↔ spaceI n = true) := by decide +kernel
theorem cls_sign : ∀ n, n < 256 → (clsF n = 4 ↔ signI n = true) := by decide +kernel
theorem cls_range : ∀ n, n < 256 → 0 ≤ clsF n ∧ clsF n ≤ 4 := by decide +kernel
abbrev scD (s : List UInt8) (i : Int) (l : List D) : D := .agg [.str s, .int .i64 i, tblD clsF, .list 4 l]
abbrev scV (s : List UInt8) (i : Int) (y n : Nat) : V := .agg [.d (.str s), .d (.int .i64 i), .d (tblD clsF), .sl y n]
end Go.Lx
namespace Go.Proofs.YtanpgmgkmfckaaaGreatDoor
open Go Go.Ab Go.Lx
set_option maxRecDepth 100000
section
variable {P : Prg} (hP : P.p = Tryz.prog)
include hP
theorem c_name1 (c : UInt8) (s : List UInt8) (i : Int) (l : List D) {ob : Objs} {K : V → Prop} (h : K (.d (.bool (partB c)))) : PCall P 119 [.d (.int .u8 c.toNat), .d (.ref (.ref (scD s i l)))] ob K := by
  refine pcall_lift hP mixed (ds := [.int .u8 c.toNat, .ref (.ref (scD s i l))]) ok119 lf119 TOk.nil ?_
  have hc := c.toNat_lt
  simp [lt119, hc, show (c.toNat : Int) < 256 by omega]
  refine (congrArg K ?_).mp h
  congr 2
  rw [Bool.eq_iff_iff]
  have h2 := cls_letter c.toNat hc
  have h3 := cls_digit c.toNat hc
  simp [partB, partI, h2, h3]
theorem c_number1 (c : UInt8) (s : List UInt8) (i : Int) (l : List D) {ob : Objs} {K : V → Prop} (h : K (.d (.bool (digitB c)))) : PCall P 121 [.d (.int .u8 c.toNat), .d (.ref (.ref (scD s i l)))] ob K := by
  refine pcall_lift hP mixed (ds := [.int .u8 c.toNat, .ref (.ref (scD s i l))]) ok121 lf121 TOk.nil ?_
  have hc := c.toNat_lt
  simp [lt121, hc, show (c.toNat : Int) < 256 by omega]
  refine (congrArg K ?_).mp h
  congr 2
  rw [Bool.eq_iff_iff]
  have h3 := cls_digit c.toNat hc
  simp [digitB, h3]
theorem c_sign1 (c : UInt8) {ob : Objs} {K : V → Prop} (h : K (.d (.bool (lineB c)))) : PCall P 123 [.d (.int .u8 c.toNat)] ob K := by
  refine pcall_lift hP mixed (ds := [.int .u8 c.toNat]) ok123 lf123 TOk.nil ?_
  simp [lt123]
  refine (congrArg K ?_).mp h
  congr 2
  rw [Bool.eq_iff_iff]
  simp [lineB]
  constructor
  · intro h1 h2; exact h1 (by rw [← UInt8.ofNat_toNat (x := c), show c.toNat = 10 by omega]; rfl)
  · intro h1 h2; subst h2; exact h1 rfl
theorem c_prefix (s t : List UInt8) {ob : Objs} {K : V → Prop} (h : K (.d (.bool (t.isPrefixOf s)))) : PCall P 122 [.d (.str s), .d (.str t)] ob K := by
  have h0 : ∀ {K : V → Prop}, K (.d (.bool (t.isPrefixOf s))) → PCall P 173 [.d (.str s), .d (.str t)] [] K := fun {K} h => by
    refine pcall_lift hP mixed (ds := [.str s, .str t]) ok173 lf173 TOk.nil ?_
    simp [lt173]
    refine (congrArg K ?_).mp h
    congr 2
    rw [Bool.eq_iff_iff]
    simp only [List.isPrefixOf_iff_prefix, List.prefix_iff_eq_take]
    by_cases hl : t.length ≤ s.length
    · simp [hl]; exact eq_comm
    · simp [hl]
      intro e
      have := congrArg List.length e
      simp at this; omega
  refine pcall_lift hP mixed (ds := [.str s, .str t]) ok122 lf122 TOk.nil ?_
  simp [lt122]
  exact h0 (by simpa using h)
theorem c_run (s : List UInt8) (i : Nat) (hi : i ≤ s.length) (hs : s.length ≤ 1000000) (l : List D) (f : Nat) (fi ca : List D) (p : UInt8 → Bool) (hf : callable P.p f = true)
    (hp : ∀ (c : UInt8) (K : V → Prop), K (.d (.bool (p c))) → PCall P f (fi.map .d ++ .d (.int .u8 c.toNat) :: ca.map .d) [] K)
    {ob : Objs} {K : V → Prop} (h : K (.d (.str ((s.drop i).takeWhile p)))) : PCall P 118 [.d (.ref (scD s i l)), .d (.fn f fi ca)] ob K := by
  refine pcall_lift hP mixed (ds := [.ref (scD s i l), .fn f fi ca]) ok118 lf118 TOk.nil ?_
  simp [lt118]
  refine ALoop.go (ι := Nat) (fun j => [(0, .d (.ref (scD s i l))), (1, .d (.fn f fi ca)), (5, .d (.int .i64 j))]) (fun _ => []) (fun j => i ≤ j ∧ j ≤ s.length ∧ j + tw p s j = i + tw p s i) (fun j => s.length - j) i ⟨by omega, by omega, rfl⟩ rfl rfl ?_
  rintro j ⟨hj0, hj1, hj2⟩ R rn re _ _
  have ex : tw p s j = 0 → ∀ x, R (AExit.exit 0) [(0, .d (.ref (scD s i l))), (1, .d (.fn f fi ca)), (5, .d (.int .i64 j)), (26, x)] [] := fun h0 x => by
    refine re _ _ _ ?_
    simp [hj0, hj1]
    refine (congrArg K ?_).mp h
    congr 2
    rw [List.drop_take, takeWhile_take]
    congr 1
    simp only [tw] at hj2 h0 ⊢
    omega
  simp [lt118_l0]
  by_cases hjl : j < s.length
  · have hwj := wrap1 hjl hs
    simp [hjl, hwj, hf]
    refine ⟨PCall.acall (hp s[j] _ ?_), fun h => absurd h (by omega)⟩
    by_cases hb : p s[j] = true
    · simp [hb]
      refine rn [] (j + 1) _ _ ⟨?_, ?_, ?_⟩ ?_ ?_ ?_ ?_ ?_
      · omega
      · omega
      · rw [← hj2, tw_yes hjl (by simpa [hjl] using hb)]; omega
      · omega
      · simp
      · simp
      · simp
      · simp
    · simp [hb]
      exact ex (tw_no hjl (by simpa [hjl] using hb)) _
  · simp [hjl]
    exact fun _ => ex (tw_ge (by omega)) _
end
end Go.Proofs.YtanpgmgkmfckaaaGreatDoor
/- Contracts: the scanner's methods. Condition: the program is the seat's. -/
namespace Go.Proofs.YtanpgmgkmfckaaaGreatDoor
open Go Go.Ab Go.Lx
set_option maxRecDepth 100000
section
variable {P : Prg} (hP : P.p = Tryz.prog)
include hP
theorem c_add (s : List UInt8) (i n : Nat) (k m a0 : Int) (t : List UInt8) (ts : List D) (hn : i + n ≤ 1000000) (hts : ts.length ≤ 1000000) {ob : Objs} {x y : Nat} (hx : lookO ob x = some (.box 119 (scV s i y ts.length))) (hy : lookO ob y = some (.arr 44 4 ts))
    {K : Out → Objs → Prop} (h : K (.ret (.tup [])) (setO (setO ob y (.arr 44 4 (ts ++ [.agg [.int .i64 k, .str t, .int .i64 m, .int .i64 i]]))) x (.box 119 (scV s ((i + n : Nat) : Int) y (ts.length + 1))))) :
    ACall P 120 [.ptr x [], .d (.agg [.int .i64 k, .str t, .int .i64 m, .int .i64 a0]), .d (.int .i64 n)] ob K := by
  have hxy : (y == x) = false := by rw [beq_eq_false_iff_ne]; intro e; subst e; rw [hx] at hy; cases hy
  have hyx : (x == y) = false := by rw [beq_eq_false_iff_ne]; intro e; subst e; rw [hx] at hy; cases hy
  refine acall_lift hP mixed ok120 lf120 TOk.nil ?_
  intro _ hm
  have hw : IntKind.i64.wrap ((i : Int) + n) = (i : Int) + n := IntWalk.i64_in _ (by omega)
  simp [lt120, hx, hy, hxy, hyx, hw]
  refine ⟨by omega, ?_⟩
  refine ⟨[], by simp, ?_, ?_⟩
  · simp
    exact noMenO_set_box _ _ _ _ _ (noMenO_set_arr _ _ _ _ _ _ (hm _)) (by simp [hy])
  · simpa using h
abbrev added (ob : Objs) (x y : Nat) (s : List UInt8) (ts : List D) (k : Int) (t : List UInt8) (m : Int) (i n : Nat) : Objs :=
  setO (setO ob y (.arr 44 4 (ts ++ [.agg [.int .i64 k, .str t, .int .i64 m, .int .i64 i]]))) x (.box 119 (scV s ((i + n : Nat) : Int) y (ts.length + 1)))
theorem call_add : callable P.p 119 = true ∧ callable P.p 121 = true ∧ callable P.p 123 = true := by
  rw [hP]; exact ⟨by kernel_rfl, by kernel_rfl, by kernel_rfl⟩
section
variable (s : List UInt8) (i : Nat) (ts : List D) (hs : s.length ≤ 65536) (hi : i < s.length) (hts : ts.length ≤ 1000000) {ob : Objs} {x y : Nat} (hx : lookO ob x = some (.box 119 (scV s i y ts.length))) (hy : lookO ob y = some (.arr 44 4 ts)) {K : Out → Objs → Prop}
include hs hi hts hx hy
omit hs hi hts hy in
theorem c_other (h : K (.panic (.d (.iface 113 (.int .i64 i)))) ob) : ACall P 43 [.ptr x []] ob K := by
  refine acall_lift hP mixed ok43 lf43 TOk.nil ?_
  intro _ hm
  simp [lt43, hx]
  refine ⟨[], by simp, ?_, ?_⟩
  · simp [hm]
  · simpa using h
omit hts in
theorem c_space (h : K (.ret (.tup [])) (setO ob x (.box 119 (scV s ((i + 1 : Nat) : Int) y ts.length)))) : ACall P 44 [.ptr x []] ob K := by
  refine acall_lift hP mixed ok44 lf44 TOk.nil ?_
  intro _ hm
  have hw := wrap1 hi (by omega)
  simp [lt44, hx, hw]
  refine ⟨[], by simp, ?_, ?_⟩
  · simp
    exact noMenO_set_box _ _ _ _ _ (hm _) (by simp [hy])
  · simpa using h
theorem c_name (h1 : 32 < tw partB s i → K (.panic (.d (.iface 113 (.int .i64 i)))) ob) (h2 : tw partB s i ≤ 32 → K (.ret (.tup [])) (added ob x y s ts 1 ((s.drop i).takeWhile partB) 0 i (tw partB s i))) : ACall P 45 [.ptr x []] ob K := by
  refine acall_lift hP mixed ok45 lf45 TOk.nil ?_
  intro _ hm
  have hle := tw_le partB s i (by omega)
  simp [lt45, hx]
  refine PCall.borrow (n := 5) (ds := [.ref (scD s i ts), .fn 119 [] [.ref (.ref (scD s i ts))]]) (by simp [hx, hy]) ?_
  refine c_run hP s i (by omega) (by omega) ts _ [] _ partB (call_add hP).1 (fun c K h => by simpa using c_name1 hP c s i ts h) ?_
  simp
  have hl : ((s.drop i).takeWhile partB).length = tw partB s i := rfl
  simp [hl, hx]
  refine ⟨fun h3 => ?_, fun h3 => ?_⟩
  · refine ⟨[], by simp, ?_, ?_⟩
    · simp [hm]
    · simpa using h1 (by omega)
  · simp [lt45_s0, hl, hx]
    refine c_add hP (y := y) s i _ 1 0 0 _ ts (by omega) hts (by simp [hx]) (by simp [hy]) ?_
    simp [hx, hy]
    refine ⟨[], by simp, ?_, ?_⟩
    · simp
      exact noMenO_set_box _ _ _ _ _ (noMenO_set_arr _ _ _ _ _ _ (hm _)) (by simp [hy])
    · simpa [added] using h2 (by omega)
theorem c_numberM (hd : digitB (s[i]?.getD 0) = true) (h1 : numOf ((s.drop i).takeWhile digitB) = none → K (.panic (.d (.iface 113 (.int .i64 i)))) ob)
    (h2 : ∀ m, numOf ((s.drop i).takeWhile digitB) = some m → K (.ret (.tup [])) (added ob x y s ts 2 [] m i (tw digitB s i))) : ACall P 46 [.ptr x []] ob K := by
  refine acall_lift hP mixed ok46 lf46 TOk.nil ?_
  intro _ hm
  have hle := tw_le digitB s i (by omega)
  simp [lt46, hx]
  refine PCall.borrow (n := 5) (ds := [.ref (scD s i ts), .fn 121 [] [.ref (.ref (scD s i ts))]]) (by simp [hx, hy]) ?_
  refine c_run hP s i (by omega) (by omega) ts _ [] _ digitB (call_add hP).2.1 (fun c K h => by simpa using c_number1 hP c s i ts h) ?_
  have hl : ((s.drop i).takeWhile digitB).length = tw digitB s i := rfl
  have hdg : ∀ k, k < tw digitB s i → digitI (((s.drop i).takeWhile digitB)[k]?.getD 0).toNat = true := fun k hk => by
    have : ((s.drop i).takeWhile digitB)[k] ∈ (s.drop i).takeWhile digitB := List.getElem_mem hk
    rw [List.getElem?_eq_getElem hk]
    exact mem_tw this
  have hne : 0 < tw digitB s i := by have := tw_yes hi hd; omega
  generalize ht : (s.drop i).takeWhile digitB = t at *
  rw [← hl] at hdg hne
  simp
  refine ALoop.go (ι := Nat × Int) (fun k => [(1, .ptr (fresh ob) []), (2, .d (.str t)), (3, .d (.int .i64 k.2)), (9, .d (.int .i64 t.length)), (10, .d (.int .i64 k.1))]) (fun _ => (fresh ob, .box 115 (.ptr x [])) :: ob)
    (fun k => k.1 ≤ t.length ∧ 0 ≤ k.2 ∧ k.2 ≤ 1099511627776 ∧ numGo 0 t = numGo k.2 (t.drop k.1) ∧ (2 ≤ k.1 → t.headD 0 ≠ 48)) (fun k => t.length - k.1) (0, 0) ⟨by simp, by simp, by simp, by simp, by simp⟩ rfl rfl ?_
  rintro ⟨k, n⟩ ⟨hk, k1, k2, k3, k4⟩ R rn re _ rp
  simp only at hk k1 k2 k3 k4
  simp [lt46_l1]
  by_cases hlt : k < t.length
  · have hc := hdg k hlt
    rw [numGo_drop hlt] at k3
    generalize hcc : t[k]?.getD 0 = c at *
    have hcc' : t[k] = c := by rw [← hcc]; simp [hlt]
    simp [digitI] at hc
    have hcl := c.toNat_lt
    have hw : IntKind.i64.wrap (IntKind.i64.wrap (10 * n) + IntKind.i64.wrap (IntKind.u8.wrap (c.toNat - 48))) = 10 * n + (c.toNat - 48) := by
      rw [IntWalk.u8_in _ (by omega), IntWalk.i64_in (10 * n) (by omega), IntWalk.i64_in (_ - 48) (by omega), IntWalk.i64_in _ (by omega)]
    have hwk := wrap1 hlt (by omega)
    have hpan : numOf t = none → R (AExit.panic (V.d (D.iface 113 (D.int IntKind.i64 i)))) [] ((fresh ob, .box 115 (.ptr x [])) :: ob) := fun hno => by
      refine rp _ _ _ ?_
      simp
      refine ⟨[], by simp, ?_, ?_⟩
      · simp [hm]
      · simpa using h1 hno
    have h0 : (t[0]?.getD 0) = t.headD 0 := by cases t <;> rfl
    have hlead : 0 < k → t[0]?.getD 0 = 48 → numOf t = none := fun k0 e => by
      rw [h0] at e
      unfold numOf
      cases numGo 0 t with
      | none => rfl
      | some m => simp only; rw [if_neg]; simp only [not_or, Classical.not_not]; exact ⟨by omega, e⟩
    simp [hlt, hcc', hw, hwk, hx]
    refine ⟨⟨fun _ _ => hne, fun e => hpan ?_, fun e1 e2 => ?_⟩, fun e => absurd e (by omega)⟩
    · rcases e with e | ⟨e1, e2⟩
      · rw [if_pos e] at k3
        simp [numOf, k3]
      · refine hlead e1 ?_
        have e3 : (t[0]?.getD 0).toNat = 48 := by omega
        generalize t[0]?.getD 0 = z at e3
        rw [← UInt8.ofNat_toNat (x := z), e3]; rfl
    · rw [if_neg (by omega)] at k3
      simp [lt46_s0, hwk]
      refine rn [] (k + 1, 10 * n + (c.toNat - 48)) _ _ ⟨?_, ?_, ?_, ?_, ?_⟩ ?_ ?_ ?_ ?_ ?_
      · simp only; omega
      · simp only; omega
      · exact e1
      · exact k3
      · intro h2k e3
        have hk0 : 0 < k := by simp only at h2k; omega
        refine e2 hk0 ?_
        rw [h0, e3]; rfl
      · simp only; omega
      · simp
      · simp
      · simp [young]
      · simp [noMenO_up_add _ hm, hx]
  · have hk' : k = t.length := by omega
    subst hk'
    simp
    refine re _ _ _ ?_
    simp [hx]
    refine c_add hP (y := y) s i _ 2 n 0 _ ts (by omega) hts (by simp [hx]) (by simp [hy]) ?_
    simp [hx, hy]
    refine ⟨[], by simp, ?_, ?_⟩
    · simp
      exact noMenO_set_box _ _ _ _ _ (noMenO_set_arr _ _ _ _ _ _ (hm _)) (by simp [hy])
    · have hn : numOf t = some n := by
        simp [numGo] at k3
        simp only [numOf, k3]
        rw [if_pos]
        by_cases h2 : 2 ≤ t.length
        · exact .inr (k4 h2)
        · exact .inl (by omega)
      simpa [added, hl] using h2 n hn
theorem c_signM (hsg : signB (s[i]?.getD 0) = true) (h1 : s[i]?.getD 0 = 47 ∧ (s.drop (i + 1)).head? = some 47 → K (.ret (.tup [])) (setO ob x (.box 119 (scV s ((i + tw lineB s i : Nat) : Int) y ts.length))))
    (h2 : ¬ (s[i]?.getD 0 = 47 ∧ (s.drop (i + 1)).head? = some 47) → K (.ret (.tup [])) (added ob x y s ts 3 [s[i]?.getD 0] 0 i 1)) : ACall P 47 [.ptr x []] ob K := by
  refine acall_lift hP mixed ok47 lf47 TOk.nil ?_
  intro _ hm
  have hw := wrap1 hi (by omega)
  have hle := tw_le lineB s i (by omega)
  simp [lt47, hx, hw, show i ≤ s.length by omega]
  refine PCall.data (ds := [.str (s.drop i), .str [47, 47]]) rfl (c_prefix hP _ _ ?_)
  have hpre : ([47, 47] : List UInt8).isPrefixOf (s.drop i) = decide (s[i]?.getD 0 = 47 ∧ (s.drop (i + 1)).head? = some 47) := by
    rw [drop_cons hi]
    cases hd : s.drop (i + 1) with
    | nil => simp [List.isPrefixOf]
    | cons a r =>
      rw [Bool.eq_iff_iff]
      simp only [List.isPrefixOf, Bool.and_eq_true, beq_iff_eq, Bool.and_true, decide_eq_true_eq, List.head?_cons, Option.some.injEq]
      exact ⟨fun h => ⟨h.1.symm, h.2.symm⟩, fun h => ⟨h.1.symm, h.2.symm⟩⟩
  rw [hpre]
  simp [hx, hw]
  refine ⟨fun e1 e2 => ?_, fun e => ⟨by omega, ?_⟩⟩
  · refine PCall.borrow (n := 5) (ds := [.ref (scD s i ts), .fn 123 [] []]) (by simp [hx, hy]) ?_
    refine c_run hP s i (by omega) (by omega) ts _ [] [] lineB (call_add hP).2.2 (fun c K h => by simpa using c_sign1 hP c h) ?_
    have hl : ((s.drop i).takeWhile lineB).length = tw lineB s i := rfl
    have hw2 : IntKind.i64.wrap ((i : Int) + tw lineB s i) = (i : Int) + tw lineB s i := IntWalk.i64_in _ (by omega)
    simp [hl, hw2]
    refine ⟨[], by simp, ?_, ?_⟩
    · simp
      exact noMenO_set_box _ _ _ _ _ (hm _) (by simp [hy])
    · have := h1 ⟨e1, by rw [head_drop]; exact e2⟩
      simpa using this
  · have htx : (s.take (i + 1)).drop i = [s[i]?.getD 0] := by
      rw [List.drop_take, Nat.add_sub_cancel_left, drop_cons hi]; rfl
    rw [htx]
    refine c_add hP (y := y) s i 1 3 0 0 _ ts (by omega) hts hx hy ?_
    simp
    refine ⟨[], by simp, ?_, ?_⟩
    · simp
      exact noMenO_set_box _ _ _ _ _ (noMenO_set_arr _ _ _ _ _ _ (hm _)) (by simp [hy])
    · have := h2 (fun e1 => e e1.1 (by rw [← head_drop]; exact e1.2))
      simpa [added] using this
end
end
end Go.Proofs.YtanpgmgkmfckaaaGreatDoor
/- Contracts: Lex. Condition: the program is the seat's. -/
namespace Go.Proofs.YtanpgmgkmfckaaaGreatDoor
open Go Go.Ab Go.Lx
set_option maxRecDepth 100000
section
variable {P : Prg} (hP : P.p = Tryz.prog)
include hP
theorem c_rec0 {ob : Objs} {a b c : Nat} {K : Objs → Prop} (h : K ob) : DCall P 41 [.ptr a [], .ptr b [], .ptr c []] ob none K := by
  refine DCall.of_wf fun _ hm => ?_
  refine dcall_lift hP mixed ok41 lr41 lf41 TOk.nil ?_
  simp [lt41_r, lt41_k, lt41]
  refine ⟨[], by simp, ?_, ?_⟩
  · simp [hm]
  · simpa using h
theorem c_rec1 {ob : Objs} {a b c : Nat} {i : Int} {K : Objs → Prop} {va vb vc : V} {Ea Eb Ec : Nat} (ha : lookO ob a = some (.box Ea va)) (hb : lookO ob b = some (.box Eb vb)) (hc : lookO ob c = some (.box Ec vc)) (sa : va.shape = .leaf) (sb : vb.shape = .leaf) (sc : vc.shape = .leaf)
    (hab : (a == b) = false) (hac : (a == c) = false) (hbc : (b == c) = false) (h : K (setO (setO (setO ob a (.box Ea (.d .nils))) b (.box Eb (.d (.int .i64 i)))) c (.box Ec (.d (.int .i64 90))))) : DCall P 41 [.ptr a [], .ptr b [], .ptr c []] ob (some (.d (.iface 113 (.int .i64 i)))) K := by
  refine DCall.of_wf fun _ hm => ?_
  refine dcall_lift hP mixed ok41 lr41 lf41 TOk.nil ?_
  simp [lt41_r, lt41_k, lt41, lt41_s0, ha, hb, hc, hab, hac, hbc, sa, sb, sc]
  refine ⟨[], by simp, ?_, ?_⟩
  · rw [drop_young_ge (by simp)]
    exact noMenO_set_box _ _ _ _ _ (noMenO_set_box _ _ _ _ _ (noMenO_set_box _ _ _ _ _ (hm _) (by simp)) (by simp)) (by simp)
  · rw [drop_young_ge (by simp)]
    exact h
theorem call_lex : callable P.p 41 = true ∧ callable P.p 43 = true ∧ callable P.p 44 = true ∧ callable P.p 45 = true ∧ callable P.p 46 = true ∧ callable P.p 47 = true := by
  rw [hP]; exact ⟨by kernel_rfl, by kernel_rfl, by kernel_rfl, by kernel_rfl, by kernel_rfl, by kernel_rfl⟩
omit hP in
theorem tbl_shape (f g : Nat → Int) : (tblD f).shape = (tblD g).shape := by
  simp only [tblD, tblL, D.shape, D.shapes_eq, List.map_map, Function.comp_def]
theorem c_Lex (s : List UInt8) {ob : Objs} {K : V → Prop} (h : K (lexV s)) : PCall P 15 [.d (.str s)] ob K := by
  refine pcall_defer_lift hP mixed (ds := [.str s]) ok15 lf15 TOk.nil ?_
  obtain ⟨d0, d1, d2, d3, d4, d5⟩ := call_lex hP
  simp only [lt15, zeros_tbl, agg_tbl]
  simp [d0]
  refine ⟨fun hl => ?_, fun hl => ?_⟩
  · simpa [lexV, show 65536 < s.length by omega] using h
  · have hl' : ¬ 65536 < s.length := by omega
    simp only [lexV, gt_iff_lt, hl', if_false] at h
    refine c_classify hP ?_
    simp [clsD]
    refine ⟨tbl_shape _ _, ?_⟩
    refine ALoop.go (ι := Nat × List Tok) (fun _ => [(0, .d (.str s)), (2, .ptr 0 []), (3, .ptr 1 []), (4, .ptr 2 []), (5, .ptr 3 []), (6, .ptr 5 [])])
      (fun k => [(5, .box 120 (.agg [.fn 43 [.ptr 3 []] [], .fn 44 [.ptr 3 []] [], .fn 45 [.ptr 3 []] [], .fn 46 [.ptr 3 []] [], .fn 47 [.ptr 3 []] []])),
        (4, .arr 44 4 (k.2.map Tok.enc)), (3, .box 119 (scV s k.1 4 k.2.length)), (2, .box 31 (.d (.int .i64 0))), (1, .box 3 (.d (.int .i64 0))), (0, .box 40 (.d .nils))])
      (fun k => k.1 ≤ s.length ∧ k.2.length ≤ k.1 ∧ lexR s 0 = appT k.2 (lexR (s.drop k.1) k.1)) (fun k => s.length - k.1) (0, []) ⟨by simp, by simp, by simp [appT_nil]⟩ rfl (by simp) ?_
    rintro ⟨i, out⟩ ⟨hi, ho, he⟩ R rn re _ rp
    simp only at hi ho he
    have nx : ∀ j out' ob', j ≤ s.length → out'.length ≤ j → lexR s 0 = appT out' (lexR (s.drop j) j) → i < j → ob' = [(5, .box 120 (.agg [.fn 43 [.ptr 3 []] [], .fn 44 [.ptr 3 []] [], .fn 45 [.ptr 3 []] [], .fn 46 [.ptr 3 []] [], .fn 47 [.ptr 3 []] []])),
        (4, .arr 44 4 (out'.map Tok.enc)), (3, .box 119 (scV s j 4 out'.length)), (2, .box 31 (.d (.int .i64 0))), (1, .box 3 (.d (.int .i64 0))), (0, .box 40 (.d .nils))] → R .normal [(0, .d (.str s)), (2, .ptr 0 []), (3, .ptr 1 []), (4, .ptr 2 []), (5, .ptr 3 []), (6, .ptr 5 [])] ob' := fun j out' ob' h1 h2 h3 h4 h6 =>
      rn [] (j, out') _ _ ⟨h1, h2, h3⟩ (by simp only; omega) rfl (by rw [h6]; simp [young]) (by simp [young]) (by simp [young])
    clear rn
    by_cases hlt : i < s.length
    · rw [lexR_at hlt] at he
      generalize hc : s[i]?.getD 0 = c at *
      have hc' : s[i] = c := by rw [← hc]; simp [hlt]
      have hcl := c.toNat_lt
      have hout : (out.map Tok.enc).length ≤ 1000000 := by simp; omega
      have pan : lexR s 0 = .err i → R (.panic (.d (.iface 113 (.int .i64 i)))) [(2, .ptr 0 []), (3, .ptr 1 []), (4, .ptr 2 [])] [(5, .box 120 (.agg [.fn 43 [.ptr 3 []] [], .fn 44 [.ptr 3 []] [], .fn 45 [.ptr 3 []] [], .fn 46 [.ptr 3 []] [], .fn 47 [.ptr 3 []] []])),
        (4, .arr 44 4 (out.map Tok.enc)), (3, .box 119 (scV s i 4 out.length)), (2, .box 31 (.d (.int .i64 0))), (1, .box 3 (.d (.int .i64 0))), (0, .box 40 (.d .nils))] := fun hr => by
        refine rp _ _ _ ?_
        simp
        refine c_rec1 hP (Ea := 40) (Eb := 3) (Ec := 31) (va := .d .nils) (vb := .d (.int .i64 0)) (vc := .d (.int .i64 0)) (by simp) (by simp) (by simp) (by simp) (by simp) (by simp) rfl rfl rfl ?_
        simp
        rw [hr] at h
        exact h
      have hx : ∀ (o5 : Ob), lookO [(5, o5), (4, Ob.arr 44 4 (out.map Tok.enc)), (3, Ob.box 119 (scV s i 4 (out.map Tok.enc).length)), (2, .box 31 (.d (.int .i64 0))), (1, .box 3 (.d (.int .i64 0))), (0, .box 40 (.d .nils))] 3 = some (.box 119 (scV s i 4 (out.map Tok.enc).length)) := fun _ => by simp
      have hcr := cls_range c.toNat hcl
      have cls : ∀ m : Nat, clsF c.toNat = m → (clsF c.toNat).toNat = m := fun m e => by omega
      have g1 := cls_space c.toNat hcl
      have g2 := cls_letter c.toNat hcl
      have g3 := cls_digit c.toNat hcl
      have g4 := cls_sign c.toNat hcl
      have e47 : clsF c.toNat ≠ 4 → ¬ (c = 47 ∧ (s.drop (i + 1)).head? = some 47) := fun hne h => by
        obtain ⟨rfl, _⟩ := h; exact hne (by decide +kernel)
      have key : ∀ m : Int, clsF c.toNat = m → (spaceB c = decide (m = 1)) ∧ (letterB c = decide (m = 2)) ∧ (digitB c = decide (m = 3)) ∧ (signB c = decide (m = 4)) := fun m e => by
        rw [e] at g1 g2 g3 g4
        refine ⟨?_, ?_, ?_, ?_⟩ <;> rw [Bool.eq_iff_iff, decide_eq_true_eq]
        · exact g1.symm
        · exact g2.symm
        · exact g3.symm
        · exact g4.symm
      have htwt : ∀ p : UInt8 → Bool, p c = true → tw p s i = ((s.drop (i + 1)).takeWhile p).length + 1 ∧ (s.drop i).takeWhile p = c :: (s.drop (i + 1)).takeWhile p := fun p hp => by
        refine ⟨(tw_text p hlt (by rw [hc]; exact hp)).2, ?_⟩
        rw [drop_cons hlt, hc, List.takeWhile_cons, if_pos hp]
      rcases (by omega : clsF c.toNat = 0 ∨ clsF c.toNat = 1 ∨ clsF c.toNat = 2 ∨ clsF c.toNat = 3 ∨ clsF c.toNat = 4) with e | e | e | e | e
      · obtain ⟨k1, k2, k3, k4⟩ := key 0 e
        simp only [stp, k1, k2, k3, k4, e47 (by rw [e]; decide), if_false, appT] at he
        simp [lt15_l0, hlt, hc', hcl, show (c.toNat : Int) < 256 by omega, e, d1]
        refine c_other hP s i (out.map Tok.enc) (y := 4) (by simp) ?_
        simp
        exact pan (by simpa using he)
      · obtain ⟨k1, k2, k3, k4⟩ := key 1 e
        simp [stp, k1] at he
        simp [lt15_l0, hlt, hc', hcl, show (c.toNat : Int) < 256 by omega, e, d2]
        refine c_space hP s i (out.map Tok.enc) (by omega) hlt (y := 4) (by simp) (by simp) ?_
        simp
        refine nx (i + 1) out _ (by omega) (by omega) he (by omega) (by simp)
      · obtain ⟨k1, k2, k3, k4⟩ := key 2 e
        have hp : partB c = true := by
          have : letterI c.toNat = true := by simpa [letterB] using k2
          simp [partB, partI, this]
        obtain ⟨t1, t2⟩ := htwt partB hp
        have hle := tw_le partB s i (by omega)
        have k1 : spaceB c = false := by simpa using k1
        have k2 : letterB c = true := by simpa using k2
        simp only [stp, k1, k2, e47 (by rw [e]; decide), Bool.false_eq_true, if_false, if_true] at he
        simp [lt15_l0, hlt, hc', hcl, show (c.toNat : Int) < 256 by omega, e, d3]
        refine c_name hP s i (out.map Tok.enc) (by omega) hlt hout (y := 4) (by simp) (by simp) (fun h5 => ?_) (fun h5 => ?_)
        · simp
          rw [if_neg (by omega)] at he
          exact pan (by simpa [appT] using he)
        · simp [added]
          rw [if_pos (by omega)] at he
          simp only [appT_add] at he
          have hjj : i + ((s.drop (i + 1)).takeWhile partB).length + 1 = i + tw partB s i := by omega
          rw [hjj] at he
          refine nx (i + tw partB s i) (out ++ [⟨1, c :: (s.drop (i + 1)).takeWhile partB, 0, i⟩]) _ (by omega) (by simp; omega) he (by omega) ?_
          simp [Tok.enc, t2]
      · obtain ⟨k1, k2, k3, k4⟩ := key 3 e
        have hp : digitB c = true := by simpa using k3
        obtain ⟨t1, t2⟩ := htwt digitB hp
        have hle := tw_le digitB s i (by omega)
        have k1 : spaceB c = false := by simpa using k1
        have k2 : letterB c = false := by simpa using k2
        simp only [stp, k1, k2, hp, e47 (by rw [e]; decide), Bool.false_eq_true, if_false, if_true] at he
        simp [lt15_l0, hlt, hc', hcl, show (c.toNat : Int) < 256 by omega, e, d4]
        refine c_numberM hP s i (out.map Tok.enc) (by omega) hlt hout (y := 4) (by simp) (by simp) (by rw [hc]; exact hp) (fun h5 => ?_) (fun m h5 => ?_)
        · simp
          rw [t2] at h5
          rw [h5] at he
          exact pan (by simpa [appT] using he)
        · simp [added]
          rw [t2] at h5
          rw [h5] at he
          simp only [appT_add] at he
          have hjj : i + ((s.drop (i + 1)).takeWhile digitB).length + 1 = i + tw digitB s i := by omega
          rw [hjj] at he
          refine nx (i + tw digitB s i) (out ++ [⟨2, [], m, i⟩]) _ (by omega) (by simp; omega) he (by omega) ?_
          simp [Tok.enc]
      · obtain ⟨k1, k2, k3, k4⟩ := key 4 e
        simp [lt15_l0, hlt, hc', hcl, show (c.toNat : Int) < 256 by omega, e, d5]
        refine c_signM hP s i (out.map Tok.enc) (by omega) hlt hout (y := 4) (by simp) (by simp) (by rw [hc]; simpa using k4) (fun h5 => ?_) (fun h5 => ?_)
        · rw [hc] at h5
          obtain ⟨rfl, h6⟩ := h5
          obtain ⟨t1, t2⟩ := htwt lineB rfl
          have hle := tw_le lineB s i (by omega)
          simp only [stp, k1, h6, and_self, if_true, decide_eq_true_eq, show ¬ ((4 : Int) = 1) by decide, if_false] at he
          simp
          have hjj : i + ((s.drop (i + 1)).takeWhile lineB).length + 1 = i + tw lineB s i := by omega
          rw [hjj] at he
          refine nx (i + tw lineB s i) out _ (by omega) (by omega) he (by omega) ?_
          simp
        · rw [hc] at h5
          simp only [stp, k1, k2, k3, k4, h5, if_false, decide_eq_true_eq, show ¬ ((4 : Int) = 1) by decide, show ¬ ((4 : Int) = 2) by decide, show ¬ ((4 : Int) = 3) by decide, if_true, appT_add] at he
          simp [added]
          refine nx (i + 1) (out ++ [⟨3, [c], 0, i⟩]) _ (by omega) (by simp; omega) he (by omega) ?_
          simp [Tok.enc, hc]
    · have hi' : i = s.length := by omega
      subst hi'
      simp [lt15_l0]
      refine re _ _ _ ?_
      simp
      refine c_rec0 hP ?_
      simp
      rw [lexR_nil (Nat.le_refl _)] at he
      rw [he] at h
      simpa [appT, resV, toks] using h
end
end Go.Proofs.YtanpgmgkmfckaaaGreatDoor
/- Contract: Parse. Condition: the program is the seat's, and its intervals are laid. -/
namespace Go.Sx
open Go Go.Ab Go.Lx
def Src.enc (s : Src) : D := .agg [.list 1 (s.issuers.map D.str), .list 5 (s.units.map UnitT.enc), .list 6 (s.schemas.map Schema.enc), .list 5 (s.rules.map Rule.enc), .list 5 (s.converts.map Convert.enc), .list 3 (s.purposes.map Purpose.enc)]
def parseW (en : Int) : R Src → V
  | .ok s _ => .tup [.d s.enc, .d (.int .i64 0), .d (.int .i64 0)]
  | .err ts e => .tup [.d zeroS, .d (.int .i64 (atI en ts)), .d (.int .i64 (failE ts e))]
def parseV (s : B) : V := if s.length > 65536 then .tup [.d zeroS, .d (.int .i64 0), .d (.int .i64 2)] else match lexR s 0 with
  | .err e => .tup [.d zeroS, .d (.int .i64 e), .d (.int .i64 90)]
  | .ok l => parseW s.length (parseR l)
end Go.Sx
namespace Go.Proofs.YtanpgmgkmfckaaaGreatDoor
open Go Go.Ab Go.Lx Go.Sx
set_option maxRecDepth 100000
section
variable {P : Prg} (hP : P.p = Tryz.prog) (hI : Ivl P)
include hP
theorem d_rec0 {ob : Objs} {a b c : Nat} {K : Objs → Prop} (h : K ob) : DCall P 18 [.ptr a [], .ptr b [], .ptr c []] ob none K := by
  refine DCall.of_wf fun _ hm => ?_
  refine dcall_lift hP mixed ok18 lr18 lf18 TOk.nil ?_
  simp [lt18_r, lt18_k, lt18]
  refine ⟨[], by simp, ?_, ?_⟩
  · simp [hm]
  · simpa using h
theorem d_rec1 {en : Int} {ts : List Tok} {s : Src} {i e : Int} {K : Objs → Prop} (h : K (setO (setO (setO (stO en ts s) 0 (.box 30 (.d zeroS))) 1 (.box 3 (.d (.int .i64 i)))) 2 (.box 31 (.d (.int .i64 e))))) : DCall P 18 [.ptr 0 [], .ptr 1 [], .ptr 2 []] (stO en ts s) (some (.d (.iface 60 (.agg [.int .i64 i, .int .i64 e])))) K := by
  refine DCall.of_wf fun _ hm => ?_
  refine dcall_lift hP mixed ok18 lr18 lf18 TOk.nil ?_
  simp [lt18_r, lt18_k, lt18, lt18_s0]
  refine ⟨[], by simp, ?_, ?_⟩
  · simp [young, mensE]
  · simpa [young] using h
theorem call_p : callable P.p 18 = true ∧ callable P.p 19 = true ∧ callable P.p 20 = true ∧ callable P.p 21 = true ∧ callable P.p 22 = true ∧ callable P.p 23 = true ∧ callable P.p 24 = true := by
  rw [hP]; exact ⟨by kernel_rfl, by kernel_rfl, by kernel_rfl, by kernel_rfl, by kernel_rfl, by kernel_rfl, by kernel_rfl⟩
def fnLex : Ab.Fn := ⟨fun vs => match vs with | [.d (.str _)] => True | _ => False, fun vs => match vs with | [.d (.str s)] => lexV s | _ => .any⟩
omit hP in
@[simp] theorem fnLex_val (s : B) : fnLex.val [.d (.str s)] = lexV s := rfl
omit hP in
@[simp] theorem fnLex_pre (s : B) : fnLex.pre [.d (.str s)] = True := rfl
theorem t_Lex : PFn P 15 fnLex := fun vs h ob K hK => by
  match vs, h with
  | [.d (.str s)], _ => exact c_Lex hP s hK
include hI
theorem def_fn (t : B) {x : Src} (hf : Few x) (en : Int) (ts : List Tok) : ((if t = [105, 115, 115, 117, 101, 114] then some (V.fn 19 [] []) else if t = [117, 110, 105, 116] then some (V.fn 20 [] []) else if t = [115, 99, 104, 101, 109, 97] then some (V.fn 21 [] []) else if t = [100, 101, 114, 105, 118, 101] then some (V.fn 22 [] []) else if t = [99, 111, 110, 118, 101, 114, 116] then some (V.fn 23 [] []) else if t = [112, 117, 114, 112, 111, 115, 101] then some (V.fn 24 [] []) else none) = none ∧ defH t x = fail 100) ∨ ∃ f, (if t = [105, 115, 115, 117, 101, 114] then some (V.fn 19 [] []) else if t = [117, 110, 105, 116] then some (V.fn 20 [] []) else if t = [115, 99, 104, 101, 109, 97] then some (V.fn 21 [] []) else if t = [100, 101, 114, 105, 118, 101] then some (V.fn 22 [] []) else if t = [99, 111, 110, 118, 101, 114, 116] then some (V.fn 23 [] []) else if t = [112, 117, 114, 112, 111, 115, 101] then some (V.fn 24 [] []) else none) = some (V.fn f [] []) ∧ callable P.p f = true ∧ ∀ K, PS K en (defH t x ts) → ACall P f [.ptr 4 []] (stO en ts x) K := by
  obtain ⟨d0, d1, d2, d3, d4, d5, d6⟩ := call_p hP
  unfold defH
  by_cases h0 : t = [105, 115, 115, 117, 101, 114]
  · simp only [h0, if_true, if_false]
    refine .inr ⟨_, rfl, d1, fun K h => ?_⟩
    exact y_issuer hP hI hf h
  by_cases h1 : t = [117, 110, 105, 116]
  · simp only [h0, h1, if_true, if_false]
    refine .inr ⟨_, rfl, d2, fun K h => ?_⟩
    exact y_unit hP hI hf h
  by_cases h2 : t = [115, 99, 104, 101, 109, 97]
  · simp only [h0, h1, h2, if_true, if_false]
    refine .inr ⟨_, rfl, d3, fun K h => ?_⟩
    exact y_schema hP hI hf h
  by_cases h3 : t = [100, 101, 114, 105, 118, 101]
  · simp only [h0, h1, h2, h3, if_true, if_false]
    refine .inr ⟨_, rfl, d4, fun K h => ?_⟩
    exact y_rule hP hI hf h
  by_cases h4 : t = [99, 111, 110, 118, 101, 114, 116]
  · simp only [h0, h1, h2, h3, h4, if_true, if_false]
    refine .inr ⟨_, rfl, d5, fun K h => ?_⟩
    exact y_convert hP hI hf h
  by_cases h5 : t = [112, 117, 114, 112, 111, 115, 101]
  · simp only [h0, h1, h2, h3, h4, h5, if_true, if_false]
    refine .inr ⟨_, rfl, d6, fun K h => ?_⟩
    exact y_purpose hP hI hf h
  · simp only [h0, h1, h2, h3, h4, h5, if_false]
    exact .inl ⟨trivial, trivial⟩
theorem c_Parse (s : B) {ob : Objs} {K : V → Prop} (h : K (parseV s)) : PCall P 9 [.d (.str s)] ob K := by
  refine pcall_defer_lift hP mixed (ds := [.str s]) ok9 lf9 (TOk.cons (t_Lex hP) TOk.nil) ?_
  obtain ⟨d0, d1, d2, d3, d4, d5, d6⟩ := call_p hP
  by_cases hl : 65536 < s.length
  · simp only [parseV, gt_iff_lt, hl, if_true] at h
    simp [lt9, d0, lexV, hl]
    exact h
  · simp only [parseV, gt_iff_lt, hl, if_false] at h
    cases hr : lexR s 0 with
    | err e =>
      simp only [hr] at h
      simp [lt9, d0, lexV, hl, hr, resV]
      exact h
    | ok l =>
      simp only [hr] at h
      simp [lt9, d0, lexV, hl, hr, resV, toks]
      refine ALoop.go (ι := Src × List Tok) (fun _ => [(2, .ptr 0 []), (3, .ptr 1 []), (4, .ptr 2 []), (6, .mp 3), (7, .ptr 4 [])])
        (fun j => stO s.length j.2 j.1) (fun j => Few j.1 ∧ parseL j.2.length j.1 j.2 = parseR l) (fun j => j.2.length) (src0, l) ⟨few0, rfl⟩ (by simp) (by simp) ?_
      rintro ⟨x, ts⟩ ⟨hf, he⟩ R rn re rr rp
      dsimp only at hf he rn
      cases ts with
      | nil =>
        rw [parseL_nil] at he
        rw [← he] at h
        simp [lt9_l1]
        refine re _ _ _ ?_
        simp
        refine d_rec0 hP ?_
        simp
        exact h
      | cons t r =>
        have pan : ∀ (ts' : List Tok) (e : Int) (s' : Src), parseR l = .err ts' e → R (.panic (.d (failD s.length ts' e))) [(2, .ptr 0 []), (3, .ptr 1 []), (4, .ptr 2 [])] (stO s.length ts' s') := fun ts' e s' hr => by
          refine rp _ _ _ ?_
          simp
          refine d_rec1 hP ?_
          simp
          rw [hr] at h
          exact h
        rw [List.length_cons, parseL_cons, bind_eq] at he
        simp [lt9_l1, Tok.enc]
        have hd := def_fn hP hI t.text hf s.length (t :: r)
        generalize (if t.text = [105, 115, 115, 117, 101, 114] then _ else _ : Option V) = fo at hd ⊢
        rcases hd with ⟨rfl, hd⟩ | ⟨f, rfl, hc, hd⟩
        · simp
          refine y_fail hP (S := srcV x) (ts := t :: r) (en := s.length) (by simp) (by simp) _ ?_
          simp
          refine pan _ _ _ ?_
          rw [← he]
          simp only [defM, hd, fail, ite_self]
        · by_cases hk : t.kind = 1
          · simp [hk, lt9_s0, hc]
            refine hd _ ?_
            simp only [defM, hk, if_true] at he
            cases hx : defH t.text x (t :: r) with
            | err ts' e =>
              simp only [hx] at he
              intro s'
              exact pan _ _ _ he.symm
            | ok x' ts' =>
              simp only [hx] at he
              have hl := (ge_defH _ _).2 _ _ _ hx
              refine rn [] (x', ts') _ _ ⟨defH_few hf hx, ?_⟩ hl (by simp) (by simp [young]) (by simp [young]) (by simp [young, mensE])
              simp only [List.length_cons] at hl
              rw [← parseL_fuel r.length x' ts' (by omega)]
              exact he
          · simp [hk]
            refine y_fail hP (S := srcV x) (ts := t :: r) (en := s.length) (by simp) (by simp) _ ?_
            simp
            refine pan _ _ _ ?_
            rw [← he]
            simp only [defM, hk, if_false]
end
end Go.Proofs.YtanpgmgkmfckaaaGreatDoor
/- The lexer by fuel, to be computed. No program. -/
namespace Go.Lx
open Go Go.Ab
def lexF : Nat → List UInt8 → Nat → Res
  | 0, _, _ => .ok []
  | _, [], _ => .ok []
  | f + 1, c :: r, off => match stp c r with
    | .skip n => lexF f (r.drop n) (off + n + 1)
    | .tok k t m n => addT ⟨k, t, m, off⟩ (lexF f (r.drop n) (off + n + 1))
    | .err => .err off
theorem lexF_eq : ∀ (f : Nat) (s : List UInt8) (off : Nat), s.length ≤ f → lexF f s off = lexR s off
  | 0, s, off, h => by
    have : s = [] := List.length_eq_zero_iff.1 (by omega)
    subst this; simp [lexF, lexR]
  | f + 1, [], off, h => by simp [lexF, lexR]
  | f + 1, c :: r, off, h => by
    rw [lexF, lexR]
    have hl : ∀ n, (r.drop n).length ≤ f := fun n => by simp at h ⊢; omega
    split
    · rw [lexF_eq f _ _ (hl _)]; simp_all
    · rw [lexF_eq f _ _ (hl _)]; simp_all
    · simp_all
end Go.Lx
/- strings.Builder: copyCheck, walked (the shelf's body has a panic where this dump refuses). Condition: the program is the seat's. -/
namespace Go.Proofs.YtanpgmgkmfckaaaGreatDoor
open Go Go.Ab Go.Lx
set_option maxRecDepth 100000
open Go.RowKit in
set_option maxHeartbeats 1000000 in
theorem cc_used (b : Nat) (w : World) (h0 : w.cell? ⟨b, 0, none⟩ = some (.pointer (some ⟨b, 0, none⟩))) :
    Calls Tryz.prog 171 #[.pointer (some ⟨b, 0, none⟩)] w fun e w' => e = .returned (.tuple #[]) ∧ w' = w := by
  have hX : (Tryz.prog.info? 184).map (·.size) = some 2 := by kernel_rfl
  obtain ⟨j, hj, _⟩ := Option.map_eq_some_iff.1 hX
  go_enter Tryz.func171, Tryz.ntmps171
  go_wp2
  rw [Lib.run_neq_ptr_same w _ Tryz.underlying181 hj]
  go_wp2
  go_end0
  exact ⟨rfl, rfl⟩
open Go.RowKit in
set_option maxHeartbeats 1000000 in
theorem cc_fresh (b : Nat) (w : World) (h0 : w.cell? ⟨b, 0, none⟩ = some (.pointer none)) (hsh : w.shape? b = some (184, 2)) (hfz : w.frozen? ⟨b, 0, none⟩ = false) :
    Calls Tryz.prog 171 #[.pointer (some ⟨b, 0, none⟩)] w fun e w' => e = .returned (.tuple #[]) ∧ w' = w.setCell ⟨b, 0, none⟩ (.pointer (some ⟨b, 0, none⟩)) := by
  have hX : (Tryz.prog.info? 184).map (·.size) = some 2 := by kernel_rfl
  have hY : liesAt Tryz.prog Tryz.prog.depth 184 (2 / Tryz.prog.cellsOf 184) 0 184 1 = true := by kernel_rfl
  obtain ⟨j, hj, hjs⟩ := Option.map_eq_some_iff.1 hX
  go_enter Tryz.func171, Tryz.ntmps171
  go_wp2
  rw [Lib.run_to_unsafe w ⟨b, 0, none⟩ Tryz.underlying181 Tryz.underlying254 hj (by rw [hjs]; decide) hsh (Nat.zero_lt_succ 1)]
  simp only [Result.andThen]
  rw [Oper.upon_value]
  go_wp2
  rw [run_callFunc_extern Tryz.func183 (by kernel_rfl) (by kernel_rfl) (by kernel_rfl) (e := Extern.AbiNoEscape.same) (by kernel_rfl)]
  rw [Lib.run_noEscape]
  simp only [Result.andThen]
  rw [Oper.upon_value]
  go_wp2
  rw [Lib.run_from_unsafe w ⟨b, 0, none⟩ Tryz.underlying254 Tryz.underlying181 hj hsh hY]
  simp only [Result.andThen]
  rw [Oper.upon_value]
  go_wp2
  go_end0
  exact ⟨rfl, rfl⟩
theorem bytesD_len : ∀ t : List UInt8, (bytesD t).length = t.length
  | [] => rfl
  | _ :: r => by simp [bytesD, bytesD_len r]
theorem bytesD_app : ∀ s t : List UInt8, bytesD (s ++ t) = bytesD s ++ bytesD t
  | [], _ => rfl
  | _ :: r, t => by simp [bytesD, bytesD_app r t]
theorem noMenO_set_gone {ob : Objs} (ids : Nat → Bool) (k : Nat) (h : noMenO ids ob = true) : noMenO ids (setO ob k .gone) = true := by
  induction ob with
  | nil => rfl
  | cons e r ih =>
    obtain ⟨j, o⟩ := e
    simp only [setO]
    split
    · cases o <;> simp_all [noMenO]
    · cases o <;> simp_all [noMenO]
section
variable {P : Prg} (hP : P.p = Tryz.prog)
include hP
theorem c_cc0 {ob : Objs} {x : Nat} (hx : lookO ob x = some (.box 184 (.d (.agg [.nilp, .nils])))) {K : Out → Objs → Prop} (h : K (.ret (.tup [])) (setO ob x (.box 184 (.agg [.ptr x [], .d .nils])))) : ACall P 171 [.ptr x []] ob K := by
  refine ⟨fun w ρ args ho hg hr => ?_⟩
  obtain ⟨b, cs, h1, h2, h3⟩ := ho.one x _ hx
  simp only [V.repC, D.rep, D.repL] at h3
  obtain ⟨c1, c2, rfl, rfl, c3, c4, rfl, rfl, rfl⟩ := h3
  simp only [V.reps, ↓reduceCtorEq, false_or] at hr
  obtain ⟨u, us, rfl, hu, rfl⟩ := hr
  have hu' : (V.ptr x []).rep w ρ u := hu.elim (fun h => .inr (.inl h)) (fun h => .inr (.inr h))
  obtain ⟨b', sh, g1, g2⟩ := rep_ptr_box ho hx hu'
  rw [h1] at g1; simp only [Option.some.injEq, RO.box.injEq] at g1
  obtain ⟨rfl, rfl⟩ := g1
  have hoff : Sh.off (V.d (.agg [.nilp, .nils])).shape [] = 0 := rfl
  rw [hoff] at g2; subst g2
  rw [hP]
  have hre : (V.agg [.ptr x [], .d .nils]).repC w ρ [.pointer (some ⟨b, 0, none⟩), .slice none 0 0] := by
    simp only [V.repC, V.repCs, D.rep]
    exact ⟨[_], [_], rfl, .inl ⟨b, _, h1, rfl⟩, [_], [], rfl, rfl, rfl⟩
  obtain ⟨t1, o1⟩ := write_box (t' := .agg [.ptr x [], .d .nils]) ho hx h1 h2 rfl hre
  refine (cc_fresh b w (by simp [World.cell?, h2]) (by simp [World.shape?, h2]) (by simp [World.frozen?, h2])).mono ?_
  rintro e w' ⟨rfl, rfl⟩
  have hw : w.setCell ⟨b, 0, none⟩ (.pointer (some ⟨b, 0, none⟩)) = w.setRow b [.pointer (some ⟨b, 0, none⟩), .slice none 0 0].toArray := by
    simp only [World.setCell, World.setRow]
    congr 1
    apply Array.ext_getElem?
    intro i
    simp only [Array.getElem?_modify]
    split
    · rename_i e; subst e; rw [h2]; simp
    · rfl
  rw [hw]
  exact ⟨_, _, ρ, h, rep_tup.2 ⟨[], rfl, rfl⟩, o1, t1⟩
theorem c_cc1 {ob : Objs} {x : Nat} {v : V} (hx : lookO ob x = some (.box 184 (.agg [.ptr x [], v]))) {K : Out → Objs → Prop} (h : K (.ret (.tup [])) ob) : ACall P 171 [.ptr x []] ob K := by
  refine ⟨fun w ρ args ho hg hr => ?_⟩
  obtain ⟨b, cs, h1, h2, h3⟩ := ho.one x _ hx
  simp only [V.repC, V.repCs] at h3
  obtain ⟨c1, c2, rfl, h3, _⟩ := h3
  rcases h3 with ⟨b', sh, h4, rfl⟩ | ⟨h4, _⟩
  · rw [h1] at h4; simp only [Option.some.injEq, RO.box.injEq] at h4
    obtain ⟨rfl, rfl⟩ := h4
    simp only [V.reps, ↓reduceCtorEq, false_or] at hr
    obtain ⟨u, us, rfl, hu, rfl⟩ := hr
    have hu' : (V.ptr x []).rep w ρ u := hu.elim (fun h => .inr (.inl h)) (fun h => .inr (.inr h))
    obtain ⟨b', sh, g1, g2⟩ := rep_ptr_box ho hx hu'
    rw [h1] at g1; simp only [Option.some.injEq, RO.box.injEq] at g1
    obtain ⟨rfl, rfl⟩ := g1
    have hoff : Sh.off (V.agg [.ptr x [], v]).shape [] = 0 := rfl
    rw [hoff] at g2; subst g2
    rw [hP]
    refine (cc_used b w (by rw [hoff] at h2; simp [World.cell?, h2])).mono ?_
    rintro e w' ⟨rfl, rfl⟩
    exact ⟨_, _, ρ, h, rep_tup.2 ⟨[], rfl, rfl⟩, ho, .refl _ _⟩
  · rw [h1] at h4; cases h4
theorem c_wb {ob : Objs} {x y : Nat} {c : Int} {l : List D} (hx : lookO ob x = some (.box 184 (.agg [.ptr x [], .sl y l.length]))) (hy : lookO ob y = some (.arr 5 1 l)) (hl : l.length ≤ 100000000) {K : Out → Objs → Prop} (h : K (.ret (.d .nili)) (setO (setO ob y (.arr 5 1 (l ++ [.int .u8 c]))) x (.box 184 (.agg [.ptr x [], .sl y (l.length + 1)])))) : ACall P 113 [.ptr x [], .d (.int .u8 c)] ob K := by
  have hxy : (y == x) = false := by rw [beq_eq_false_iff_ne]; intro e; subst e; rw [hx] at hy; cases hy
  have hyx : (x == y) = false := by rw [beq_eq_false_iff_ne]; intro e; subst e; rw [hx] at hy; cases hy
  refine acall_lift hP mixed ok113 lf113 TOk.nil ?_
  intro _ hm
  simp [lt113, hx]
  refine c_cc1 hP hx ?_
  simp [hx, hy, hxy, hyx]
  refine ⟨by omega, [], by simp, ?_, ?_⟩
  · simp
    exact noMenO_set_box _ _ _ _ _ (noMenO_set_arr _ _ _ _ _ _ (hm _)) (by simp [hx, hy])
  · simpa using h
theorem c_ws {ob : Objs} {x y : Nat} {t : List UInt8} {l : List D} (hx : lookO ob x = some (.box 184 (.agg [.ptr x [], .sl y l.length]))) (hy : lookO ob y = some (.arr 5 1 l)) (hl : l.length + t.length ≤ 100000000) {K : Out → Objs → Prop} (h : K (.ret (.tup [.d (.int .i64 t.length), .d .nili])) (setO (setO ob y (.arr 5 1 (l ++ bytesD t))) x (.box 184 (.agg [.ptr x [], .sl y (l.length + t.length)])))) : ACall P 114 [.ptr x [], .d (.str t)] ob K := by
  have hxy : (y == x) = false := by rw [beq_eq_false_iff_ne]; intro e; subst e; rw [hx] at hy; cases hy
  have hyx : (x == y) = false := by rw [beq_eq_false_iff_ne]; intro e; subst e; rw [hx] at hy; cases hy
  refine acall_lift hP mixed ok114 lf114 TOk.nil ?_
  intro _ hm
  simp [lt114, hx]
  refine c_cc1 hP hx ?_
  simp [hx, hy, hxy, hyx, bytesD_len]
  refine ⟨by omega, [], by simp, ?_, ?_⟩
  · simp
    exact noMenO_set_box _ _ _ _ _ (noMenO_set_arr _ _ _ _ _ _ (hm _)) (by simp [hx, hy])
  · simpa using h
theorem c_ws0 {ob : Objs} {x : Nat} {t : List UInt8} (hx : lookO ob x = some (.box 184 (.d (.agg [.nilp, .nils])))) (hl : t.length ≤ 100000000) {K : Out → Objs → Prop} (h : K (.ret (.tup [.d (.int .i64 t.length), .d .nili])) ((fresh ob, .arr 5 1 (bytesD t)) :: (setO ob x (.box 184 (.agg [.ptr x [], .sl (fresh ob) t.length]))))) : ACall P 114 [.ptr x [], .d (.str t)] ob K := by
  refine acall_lift hP mixed ok114 lf114 TOk.nil ?_
  intro _ hm
  simp [lt114, hx]
  refine c_cc0 hP hx ?_
  simp [hx, bytesD_len]
  have hy : young (fresh ob) [fresh ob] (fresh ob) = false := by simp [young]
  refine ⟨by omega, [fresh ob], by simp, ?_, ?_⟩
  · simp [hy]
    exact noMenO_set_box _ _ _ _ _ (hm _) (by simp [hx, hy])
  · simpa [hy] using h
theorem c_bs0 {ob : Objs} {x : Nat} (hx : lookO ob x = some (.box 184 (.d (.agg [.nilp, .nils])))) {K : Out → Objs → Prop} (h : K (.ret (.d (.str []))) ob) : ACall P 116 [.ptr x []] ob K := by
  refine acall_lift hP mixed ok116 lf116 TOk.nil ?_
  intro _ hm
  simp [lt116, hx]
  refine ⟨[], by simp, ?_, ?_⟩
  · simp [hm]
  · simpa using h
theorem c_bs {ob : Objs} {x y : Nat} {t : List UInt8} (hx : lookO ob x = some (.box 184 (.agg [.ptr x [], .sl y t.length]))) (hy : lookO ob y = some (.arr 5 1 (bytesD t))) (h0 : t ≠ []) (hl : t.length ≤ 100000000) {K : Out → Objs → Prop} (h : K (.ret (.d (.str t))) (setO ob y .gone)) : ACall P 116 [.ptr x []] ob K := by
  refine acall_lift hP mixed ok116 lf116 TOk.nil ?_
  intro _ hm
  have hb : bytesD t ≠ [] := by cases t with
    | nil => exact (h0 rfl).elim
    | cons c r => simp [bytesD]
  simp [lt116, hx, hy, bytesD_len, hb]
  have e1 : ∃ E z xs, (5 = E ∧ 1 = z ∧ bytesD t = xs) ∧ t.length = xs.length := ⟨_, _, _, ⟨rfl, rfl, rfl⟩, (bytesD_len t).symm⟩
  have e2 : ∃ E sz xs, (5 = E ∧ 1 = sz ∧ bytesD t = xs) ∧ ¬sz = 0 ∧ t.length = xs.length ∧ ¬xs = [] := ⟨_, _, _, ⟨rfl, rfl, rfl⟩, by decide, (bytesD_len t).symm, hb⟩
  first | refine ⟨e1, e2, e1, e2, by omega, t, rfl, [], by simp, ?_, ?_⟩ | refine ⟨e2, by omega, t, rfl, [], by simp, ?_, ?_⟩
  · simp
    exact noMenO_set_gone _ _ (hm _)
  · simpa using h
end
end Go.Proofs.YtanpgmgkmfckaaaGreatDoor
/- Laid by the kit's lay-shelf.mjs and lay-plain.mjs (a tool's print), cut down by shl.py. -/
namespace Go.Proofs
open Go.Shelf
def Tryz.laysM171_ren : Go.Shelf.Ren := ⟨fun | 171 => 115 | 243 => 172 | 246 => 184 | 283 => 186 | 284 => 187 | 285 => 188 | 286 => 189 | 129 => 195 | 317 => 194 | 318 => 196 | 319 => 197 | 320 => 198 | 337 => 201 | 338 => 202 | n => n, fun | 3 => 3 | 9 => 9 | 2 => 2 | 4 => 4 | 171 => 257 | 0 => 0 | 53 => 258 | 37 => 182 | 5 => 5 | 173 => 261 | 212 => 267 | 51 => 268 | 20 => 20 | 213 => 269 | 46 => 265 | 232 => 274 | 233 => 275 | n => n, fun | 17 => 6 | 18 => 7 | 19 => 8 | n => n⟩
theorem Tryz.laysM171 : Go.Proofs.LaysM.n171 Tryz.prog Tryz.laysM171_ren := {
  mixed := by kernel_rfl
  f129 := Tryz.func195.trans (congrArg some (by kernel_rfl))
  f171 := Tryz.func115.trans (congrArg some (by kernel_rfl))
  f243 := Tryz.func172.trans (congrArg some (by kernel_rfl))
  f246 := Tryz.func184.trans (congrArg some (by kernel_rfl))
  f283 := Tryz.func186.trans (congrArg some (by kernel_rfl))
  f284 := Tryz.func187.trans (congrArg some (by kernel_rfl))
  f285 := Tryz.func188.trans (congrArg some (by kernel_rfl))
  f286 := Tryz.func189.trans (congrArg some (by kernel_rfl))
  f317 := Tryz.func194.trans (congrArg some (by kernel_rfl))
  f318 := Tryz.func196.trans (congrArg some (by kernel_rfl))
  f319 := Tryz.func197.trans (congrArg some (by kernel_rfl))
  f320 := Tryz.func198.trans (congrArg some (by kernel_rfl))
  f337 := Tryz.func201.trans (congrArg some (by kernel_rfl))
  f338 := Tryz.func202.trans (congrArg some (by kernel_rfl))
  t0 := Tryz.underlying0
  a0 := Tryz.isAgg0
  z0 := Tryz.sizeOf0
  v0 := Tryz.zeroValue0
  t2 := Tryz.underlying2
  a2 := Tryz.isAgg2
  z2 := Tryz.sizeOf2
  v2 := Tryz.zeroValue2
  t3 := Tryz.underlying3
  a3 := Tryz.isAgg3
  z3 := Tryz.sizeOf3
  v3 := Tryz.zeroValue3
  t4 := Tryz.underlying4
  a4 := Tryz.isAgg4
  z4 := Tryz.sizeOf4
  v4 := Tryz.zeroValue4
  t5 := Tryz.underlying5
  a5 := Tryz.isAgg5
  z5 := Tryz.sizeOf5
  v5 := Tryz.zeroValue5
  t9 := Tryz.underlying9
  a9 := Tryz.isAgg9
  z9 := Tryz.sizeOf9
  v9 := Tryz.zeroValue9
  t20 := Tryz.underlying20
  a20 := Tryz.isAgg20
  z20 := Tryz.sizeOf20
  v20 := Tryz.zeroValue20
  t37 := Tryz.underlying182
  a37 := Tryz.isAgg182
  z37 := Tryz.sizeOf182
  v37 := Tryz.zeroValue182
  t46 := Tryz.underlying265
  a46 := Tryz.isAgg265
  z46 := Tryz.sizeOf265
  v46 := Tryz.zeroValue265
  t51 := Tryz.underlying268
  a51 := Tryz.isAgg268
  z51 := Tryz.sizeOf268
  v51 := Tryz.zeroValue268
  t53 := Tryz.underlying258
  a53 := Tryz.isAgg258
  z53 := Tryz.sizeOf258
  v53 := Tryz.zeroValue258
  t171 := Tryz.underlying257
  a171 := Tryz.isAgg257
  z171 := Tryz.sizeOf257
  v171 := Tryz.zeroValue257
  t173 := Tryz.underlying261
  a173 := Tryz.isAgg261
  z173 := Tryz.sizeOf261
  v173 := Tryz.zeroValue261
  t212 := Tryz.underlying267
  a212 := Tryz.isAgg267
  z212 := Tryz.sizeOf267
  v212 := Tryz.zeroValue267
  t213 := Tryz.underlying269
  a213 := Tryz.isAgg269
  z213 := Tryz.sizeOf269
  t232 := Tryz.underlying274
  a232 := Tryz.isAgg274
  z232 := Tryz.sizeOf274
  v232 := Tryz.zeroValue274
  t233 := Tryz.underlying275
  a233 := Tryz.isAgg275
  z233 := Tryz.sizeOf275
  v233 := Tryz.zeroValue275
  g17 := by kernel_rfl
  g18 := by kernel_rfl
  g19 := by kernel_rfl
  i0 := by kernel_rfl
  i2 := by kernel_rfl
  i3 := by kernel_rfl
  i4 := by kernel_rfl
  i5 := by kernel_rfl
  i9 := by kernel_rfl
  i20 := by kernel_rfl
  i37 := by kernel_rfl
  i46 := by kernel_rfl
  i51 := by kernel_rfl
  i53 := by kernel_rfl
  i171 := by kernel_rfl
  i173 := by kernel_rfl
  i212 := by kernel_rfl
  i232 := by kernel_rfl
  i233 := by kernel_rfl
  m17 := by kernel_rfl
  m18 := by kernel_rfl
  m19 := by kernel_rfl }
open Go.RowKit Go.Sort Go.Lib in
theorem Tryz.strconv_Itoa (n : Int) (h0 : -9223372036854775808 ≤ n) (h1 : n ≤ 9223372036854775807) (w : World) (htab : Lib.TabIs Tryz.prog w "internal/strconv.uint64pow10" .u64 Lib.pow10Tab) :
    Calls Tryz.prog 115 #[.int .i64 n] w fun e w' => e = .returned (.string ⟨(Lib.itoa n).toArray⟩) ∧ ∃ k os, w' = grow (w.drewN k) os := Any.strconv_Itoa Tryz.laysM171 n h0 h1 w htab
def Tryz.lays144_ren : Go.Shelf.Ren := ⟨fun | 144 => 170 | 143 => 182 | 219 => 185 | 217 => 190 | 225 => 191 | 224 => 192 | 267 => 193 | 266 => 199 | 314 => 200 | n => n, fun | 9 => 9 | 4 => 4 | 3 => 3 | 5 => 5 | 46 => 265 | 146 => 271 | 51 => 268 | n => n, fun | 1 => 5 | n => n⟩
theorem Tryz.lays144 : Go.Proofs.Lays.n144 Tryz.prog Tryz.lays144_ren := {
  mixed := by kernel_rfl
  f143 := Tryz.func182.trans (congrArg some (by kernel_rfl))
  f144 := Tryz.func170.trans (congrArg some (by kernel_rfl))
  f217 := Tryz.func190.trans (congrArg some (by kernel_rfl))
  f219 := Tryz.func185.trans (congrArg some (by kernel_rfl))
  f224 := Tryz.func192.trans (congrArg some (by kernel_rfl))
  f225 := Tryz.func191.trans (congrArg some (by kernel_rfl))
  f266 := Tryz.func199.trans (congrArg some (by kernel_rfl))
  f267 := Tryz.func193.trans (congrArg some (by kernel_rfl))
  f314 := Tryz.func200.trans (congrArg some (by kernel_rfl))
  t3 := Tryz.underlying3
  a3 := Tryz.isAgg3
  z3 := Tryz.sizeOf3
  v3 := Tryz.zeroValue3
  t4 := Tryz.underlying4
  a4 := Tryz.isAgg4
  z4 := Tryz.sizeOf4
  v4 := Tryz.zeroValue4
  t5 := Tryz.underlying5
  a5 := Tryz.isAgg5
  z5 := Tryz.sizeOf5
  v5 := Tryz.zeroValue5
  t9 := Tryz.underlying9
  a9 := Tryz.isAgg9
  z9 := Tryz.sizeOf9
  v9 := Tryz.zeroValue9
  t46 := Tryz.underlying265
  a46 := Tryz.isAgg265
  z46 := Tryz.sizeOf265
  v46 := Tryz.zeroValue265
  t51 := Tryz.underlying268
  a51 := Tryz.isAgg268
  z51 := Tryz.sizeOf268
  v51 := Tryz.zeroValue268
  t146 := Tryz.underlying271
  a146 := Tryz.isAgg271
  z146 := Tryz.sizeOf271
  v146 := Tryz.zeroValue271
  g1 := by kernel_rfl }
open Go.RowKit Go.Lib in
theorem Tryz.strings_Contains_one (s : ByteArray) (c : UInt8) (w : World) :
    Calls Tryz.prog 170 #[.string s, .string ⟨#[c]⟩] w fun e w' => e = .returned (.bool (decide (0 ≤ Lib.indexByte s.data.toList c))) ∧ w' = w := Any.strings_Contains_one Tryz.lays144 s c w
end Go.Proofs
/- Contracts: strings.Contains at one byte, strconv.Itoa, which tokens are valid, decimal digits. Condition: the program is the seat's; the powers of ten are laid. -/
namespace Go.Lx
open Go Go.Ab
def hasB (s : List UInt8) (c : UInt8) : Bool := s.any fun b => b == c
def fnC : Ab.Fn := ⟨fun vs => match vs with | [.d (.str _), .d (.str t)] => t.length = 1 | _ => False, fun vs => match vs with | [.d (.str s), .d (.str t)] => .d (.bool (hasB s (t.headD 0))) | _ => .any⟩
@[simp] theorem fnC_pre (s t : List UInt8) : fnC.pre [.d (.str s), .d (.str t)] = (t.length = 1) := by simp only [fnC]
@[simp] theorem fnC_val (s t : List UInt8) : fnC.val [.d (.str s), .d (.str t)] = .d (.bool (hasB s (t.headD 0))) := by simp only [fnC]
def validB (t : Tok) : Bool :=
  if t.kind = 1 then nameB t.text && decide (t.n = 0)
  else if t.kind = 2 then decide (t.text = []) && decide (0 ≤ t.n) && decide (t.n ≤ 1099511627776)
  else if t.kind = 3 then decide (t.text.length = 1) && signB (t.text.headD 0) && decide (t.n = 0)
  else false
def Pow (P : Prg) : Prop := ∃ T f, P.g 6 = some (.cells (Lib.pow10Tab.map fun z => Value.int .u64 z).toArray T f)
theorem ext_grow (w : World) (k : Nat) (os : Array Obj) : Ext w (Go.Sort.grow (w.drewN k) os) := by
  refine ⟨by simp [Go.Sort.grow], fun b hb => ?_, rfl, rfl, rfl⟩
  simp [Go.Sort.grow, Array.getElem?_append, hb]
theorem any_index (s : List UInt8) (c : UInt8) : decide (0 ≤ Lib.indexByte s c) = hasB s c := by
  unfold hasB
  induction s with
  | nil => rfl
  | cons b r ih =>
    have hg := Lib.indexByte_ge r c
    simp only [Lib.indexByte, List.any_cons, ← ih]
    by_cases h : b == c
    · simp [h]
    · simp only [h]
      by_cases h2 : Lib.indexByte r c = -1
      · simp [h2]
      · have h3 : (Lib.indexByte r c == -1) = false := by simp [h2]
        simp only [h3, Bool.false_or]
        have : 0 ≤ Lib.indexByte r c := by omega
        simp [this]; omega
theorem hasB_signs (c : UInt8) : hasB [123, 125, 40, 41, 59, 44, 61, 35, 47, 60, 33, 45, 46, 58, 43] c = signB c := by
  unfold hasB signB signI signs
  congr 1
  funext b
  rw [Bool.eq_iff_iff]
  simp only [beq_iff_eq, decide_eq_true_eq, Int.natCast_inj]
  constructor
  · intro h; rw [h]
  · intro h; exact UInt8.toNat_inj.1 h
theorem len1 (s : List UInt8) : decide ((s.length : Int) = 1) = decide (s.length = 1) := by
  rw [Bool.eq_iff_iff]; simp only [decide_eq_true_eq]; omega
theorem head0 (s : List UInt8) : s[0]? = s.head? := by cases s <;> rfl
end Go.Lx
namespace Go.Proofs.YtanpgmgkmfckaaaGreatDoor
open Go Go.Ab Go.Lx
set_option maxRecDepth 100000
section
variable {P : Prg} (hP : P.p = Tryz.prog)
include hP
theorem c_Contains : PFn P 170 fnC := by
  intro vs hp ob K hK
  simp only [fnC] at hp hK
  split at hp
  · rename_i s t
    simp only at hK
    match t, hp with
    | [c], _ =>
      refine ⟨fun w ρ args ho hg hr => ?_⟩
      simp only [V.reps, ↓reduceCtorEq, false_or, V.isAgg, Bool.false_eq_true, false_and, V.repC, D.rep, true_and, List.cons.injEq, and_true] at hr
      obtain ⟨u, us, rfl, hu, u2, us2, rfl, hu2, rfl⟩ := hr
      subst hu; subst hu2
      rw [hP]
      refine (Tryz.strings_Contains_one ⟨s.toArray⟩ c w).mono ?_
      rintro e w' ⟨rfl, rfl⟩
      refine ⟨_, _, hK, rfl, ?_, Ext.refl w'⟩
      rw [rep_bool, any_index]
      rfl
  · exact hp.elim
theorem c_Itoa (hT : Pow P) (n : Int) (h0 : 0 ≤ n) (h1 : n ≤ 9223372036854775807) {ob : Objs} {K : V → Prop} (h : K (.d (.str (Lib.itoa n)))) : PCall P 115 [.d (.int .i64 n)] ob K := by
  refine ⟨fun w ρ args ho hg hr => ?_⟩
  simp only [V.reps, ↓reduceCtorEq, false_or, V.isAgg, Bool.false_eq_true, false_and, V.repC, D.rep, true_and, List.cons.injEq, and_true] at hr
  obtain ⟨u, us, rfl, hu, rfl⟩ := hr
  subst hu
  rw [hP]
  obtain ⟨T, f, hT⟩ := hT
  have hb := (ho.glb 6 _ (by rw [hg, hT])).1
  have htab : Lib.TabIs Tryz.prog w "internal/strconv.uint64pow10" .u64 Lib.pow10Tab := by
    have hn : Tryz.prog.globalNamed "internal/strconv.uint64pow10" = some 6 := by kernel_rfl
    simp only [Lib.TabIs, World.var?, hn, Option.bind_some, hb]
  refine (Tryz.strconv_Itoa n (by omega) h1 w htab).mono ?_
  rintro e w' ⟨rfl, k, os, rfl⟩
  exact ⟨_, _, h, rfl, rep_str.2 rfl, ext_grow w k os⟩
theorem c_valid (t : Tok) {ob : Objs} {K : V → Prop} (h : K (.d (.bool (validB t)))) : PCall P 112 [.d t.enc] ob K := by
  refine pcall_lift hP mixed (ds := [t.enc]) ok112 lf112 (TOk.cons (c_Name hP) (TOk.cons (c_Contains hP) TOk.nil)) ?_
  have h' : ∀ x, x = validB t → K (.d (.bool x)) := fun b e => e ▸ h
  clear h
  obtain ⟨k, s, n, i⟩ := t
  simp [lt112, Tok.enc, hasB_signs]
  refine ⟨fun h1 => h' _ ?_, fun h1 => ⟨fun h2 => h' _ ?_, fun h2 => ⟨fun h3 => ⟨fun h4 => by omega, h' _ ?_⟩, fun h3 => h' _ ?_⟩⟩⟩
  · subst h1; simp [validB, Bool.beq_eq_decide_eq]
  · subst h2; simp [validB]
  · subst h3; simp [validB, Bool.beq_eq_decide_eq, len1, signB, head0]
  · simp [validB, h1, h2, h3]
end
end Go.Proofs.YtanpgmgkmfckaaaGreatDoor
/- Plain facts on decimal digits and equal tokens. No program. -/
namespace Go.Lx
open Go Go.Ab
def digB (n : Nat) : UInt8 := UInt8.ofNat (48 + n % 10)
theorem decDigits_eq (n : Nat) : Lib.decDigits n = (if n < 10 then [] else Lib.decDigits (n / 10)) ++ [digB n] := by
  rw [Lib.decDigits]
  split
  · rename_i h; simp [digB, Nat.mod_eq_of_lt h]
  · simp [digB]
theorem digB_nat (n : Nat) : (digB n).toNat = 48 + n % 10 := by
  have : n % 10 < 10 := Nat.mod_lt _ (by decide)
  simp [digB, UInt8.toNat_ofNat']; omega
theorem itoa_nat (n : Nat) : Lib.itoa n = Lib.decDigits n := by
  unfold Lib.itoa; rw [if_neg (by omega)]; rfl
end Go.Lx
/- Plain facts on the text of tokens. No program. -/
namespace Go.Lx
open Go Go.Ab
def wordT (t : Tok) : List UInt8 := if t.kind = 2 then Lib.itoa t.n else t.text
def joinW : List Tok → List UInt8
  | [] => []
  | [t] => wordT t
  | t :: r => wordT t ++ 32 :: joinW r
def textV (l : List Tok) : V := if l.all validB then .tup [.d (.str (joinW l)), .d (.int .i64 0)] else .tup [.d (.str []), .d (.int .i64 90)]
theorem joinW_snoc : ∀ (l : List Tok) (t : Tok), joinW (l ++ [t]) = if l = [] then wordT t else joinW l ++ 32 :: wordT t
  | [], t => rfl
  | [a], t => by simp [joinW]
  | a :: b :: r, t => by
    have h := joinW_snoc (b :: r) t
    simp only [List.cons_append, joinW] at h ⊢
    rw [h]; simp
theorem decDigits_len (n : Nat) : (Lib.decDigits n).length ≤ n + 1 ∧ Lib.decDigits n ≠ [] := by
  refine ⟨?_, by rw [decDigits_eq]; simp⟩
  induction n using Nat.strongRecOn with
  | ind n ih =>
    rw [decDigits_eq]
    split
    · simp
    · have := ih (n / 10) (by omega)
      simp; omega
theorem digits_pow : ∀ (k n : Nat), n < 10 ^ (k + 1) → (Lib.decDigits n).length ≤ k + 1
  | 0, n, h => by rw [decDigits_eq, if_pos (by omega)]; simp
  | k + 1, n, h => by
    rw [decDigits_eq]
    split
    · simp
    · have := digits_pow k (n / 10) (by rw [Nat.pow_succ] at h; omega)
      simp; omega
theorem word_ok {t : Tok} (h : validB t = true) : wordT t ≠ [] ∧ (wordT t).length ≤ 32 := by
  unfold validB at h
  unfold wordT
  split at h
  · rename_i e
    rw [if_neg (by omega)]
    simp [nameB] at h
    refine ⟨fun e => ?_, by omega⟩
    simp [e] at h
  · split at h
    · rename_i e
      rw [if_pos e]
      simp at h
      obtain ⟨N, hN⟩ := Int.eq_ofNat_of_zero_le h.1.2
      rw [hN, itoa_nat]
      exact ⟨(decDigits_len N).2, Nat.le_trans (digits_pow 12 N (by omega)) (by decide)⟩
    · rename_i e
      rw [if_neg e]
      split at h
      · simp at h
        refine ⟨fun e => ?_, by omega⟩
        simp [e] at h
      · cases h
theorem joinW_len : ∀ (l : List Tok), (∀ t ∈ l, validB t = true) → (joinW l).length ≤ 33 * l.length
  | [], _ => by simp [joinW]
  | [t], h => by have := word_ok (h t (by simp)); simp [joinW]; omega
  | a :: b :: r, h => by
    have h1 := word_ok (h a (by simp))
    have h2 := joinW_len (b :: r) (fun t ht => h t (by simp [ht]))
    simp only [joinW, List.length_append, List.length_cons] at h2 ⊢
    omega
theorem joinW_ne {l : List Tok} (h : ∀ t ∈ l, validB t = true) (h0 : l ≠ []) : joinW l ≠ [] := by
  match l, h0 with
  | [t], _ => exact (word_ok (h t (by simp))).1
  | a :: b :: r, _ => simp [joinW]
theorem take_snoc {l : List Tok} {k : Nat} (hk : k < l.length) : l.take (k + 1) = l.take k ++ [l[k]] := (List.take_append_getElem hk).symm
end Go.Lx
/- Contracts: lex.Text. Condition: the program is the seat's; the powers of ten are laid. -/
namespace Go.Lx
open Go Go.Ab
def obT (l : List Tok) : Nat → Objs
  | 0 => [(0, .box 184 (.d (.agg [.nilp, .nils])))]
  | k + 1 => [(2, .arr 5 1 (bytesD (joinW (l.take (k + 1))))), (0, .box 184 (.agg [.ptr 0 [], .sl 2 (joinW (l.take (k + 1))).length]))]
end Go.Lx
namespace Go.Proofs.YtanpgmgkmfckaaaGreatDoor
open Go Go.Ab Go.Lx
set_option maxRecDepth 100000
section
variable {P : Prg} (hP : P.p = Tryz.prog) (hG : Pow P)
include hP hG
theorem c_Text {a : D} {l : List Tok} (ha : TD a l) (hl : l.length ≤ 100000) {ob : Objs} {K : V → Prop} (h : K (textV l)) : PCall P 38 [.d a] ob K := by
  refine pcall_lift hP mixed (ds := [a]) ok38 lf38 TOk.nil ?_
  have h' : ∀ x, x = textV l → K x := fun b e => e ▸ h
  clear h
  simp [lt38, ha.len, ha.lenS]
  refine ALoop.go (ι := Nat) (fun k => [(4, .ptr 0 []), (7, .d a), (8, .d (.int .i64 l.length)), (9, .d (.int .i64 k))]) (obT l) (fun k => k ≤ l.length ∧ ∀ t ∈ l.take k, validB t = true) (fun k => l.length - k) 0 ⟨by omega, by simp⟩ (by simp) rfl ?_
  have hw1 : IntKind.i64.wrap 1 = 1 := IntWalk.i64_in _ (by omega)
  rintro k ⟨hk, hp⟩ R rn re rr _
  by_cases hlt : k < l.length
  · have hL := joinW_len _ hp
    have hT : (l.take k).length ≤ 100000 := by simp; omega
    have hne : k ≠ 0 → l.take k ≠ [] := fun h e => by
      rcases List.take_eq_nil_iff.1 e with h1 | h1
      · exact h h1
      · rw [h1] at hlt; simp at hlt
    have hi : IntKind.i64.wrap ((k : Int) + 1) = (k : Int) + 1 := IntWalk.i64_in _ (by omega)
    have hp' : validB l[k] = true → ∀ t ∈ l.take (k + 1), validB t = true := by
      intro hv t ht
      rw [take_snoc hlt] at ht
      rcases List.mem_append.1 ht with ht | ht
      · exact hp t ht
      · rw [List.mem_singleton.1 ht]; exact hv
    have hd : validB l[k] = true → l[k].kind = 2 → 0 ≤ l[k].n ∧ l[k].n ≤ 9223372036854775807 ∧ Lib.itoa l[k].n = wordT l[k] := by
      intro hv e
      unfold validB at hv
      rw [if_neg (by omega), if_pos e] at hv
      simp at hv
      exact ⟨hv.1.2, by omega, by rw [wordT, if_pos e]⟩
    have hx : l[k].kind ≠ 2 → l[k].text = wordT l[k] := fun e => by rw [wordT, if_neg e]
    have hj := joinW_snoc (l.take k) l[k]
    rw [← take_snoc hlt] at hj
    have hbad : validB l[k] = false → V.tup [.d (.str []), .d (.int .i64 90)] = textV l := by
      intro hv
      rw [textV, if_neg]
      rw [List.all_eq_true]
      intro hA
      have := hA l[k] (List.getElem_mem hlt)
      rw [hv] at this; cases this
    cases k with
    | zero =>
      rw [if_pos (by simp)] at hj
      have hidx := ha.idx (k := .i64) hlt
      simp only [Int.natCast_zero] at hidx
      simp [lt38_l2, ha.idxS, obT, hlt, hidx, Tok.enc]
      refine c_valid hP l[0] ?_
      simp
      refine ⟨fun hv => rr _ _ ?_, fun hv => ?_⟩
      · simp
        exact h' _ (hbad hv)
      · have hw := word_ok hv
        simp [lt38_s1]
        refine ⟨fun e => ?_, fun e => ?_⟩
        · obtain ⟨e1, e2, e3⟩ := hd hv e
          refine c_Itoa hP hG _ e1 e2 ?_
          rw [e3]
          refine c_ws0 hP (by simp) (by omega) ?_
          simp [lt38_s0, hi]
          rw [hw1]
          refine rn [2] 1 _ _ ⟨by omega, hp' hv⟩ (by omega) (by simp) ?_ (by simp [obT, young, fresh]) (by simp [obT, young, fresh])
          simp only [Nat.zero_add] at hj
          simp [obT, young, fresh, hj]
        · rw [hx e]
          refine c_ws0 hP (by simp) (by omega) ?_
          simp [lt38_s0, hi]
          rw [hw1]
          refine rn [2] 1 _ _ ⟨by omega, hp' hv⟩ (by omega) (by simp) ?_ (by simp [obT, young, fresh]) (by simp [obT, young, fresh])
          simp only [Nat.zero_add] at hj
          simp [obT, young, fresh, hj]
    | succ k =>
      rw [if_neg (hne (by omega))] at hj
      have hidx := ha.idx (k := .i64) hlt
      have hlt' : (k : Int) + 1 < l.length := by omega
      have h0k : (0 : Int) < (k : Int) + 1 := by omega
      have h0k' : (0 : Int) ≤ (k : Int) + 1 := by omega
      rw [show ((k + 1 : Nat) : Int) = (k : Int) + 1 from rfl] at hidx
      simp [lt38_l2, ha.idxS, obT, hlt, hlt', h0k, h0k', hidx, Tok.enc]
      refine c_valid hP l[k + 1] ?_
      simp
      refine ⟨fun hv => rr _ _ ?_, fun hv => ?_⟩
      · simp
        exact h' _ (hbad hv)
      · have hw := word_ok hv
        have hbl := bytesD_len (joinW (l.take (k + 1)))
        refine c_wb hP (x := 0) (y := 2) (l := bytesD (joinW (l.take (k + 1)))) (by simp [hbl]) (by simp) (by omega) ?_
        simp [lt38_s1]
        have e32 : bytesD (joinW (l.take (k + 1))) ++ [D.int .u8 32] = bytesD (joinW (l.take (k + 1)) ++ [32]) := by rw [bytesD_app]; rfl
        have hbl2 := bytesD_len (joinW (l.take (k + 1)) ++ [32])
        rw [List.length_append] at hbl2
        rw [e32, hbl]
        have hi2 : IntKind.i64.wrap ((k : Int) + 1 + 1) = (k : Int) + 1 + 1 := hi
        refine ⟨fun e => ?_, fun e => ?_⟩
        · obtain ⟨e1, e2, e3⟩ := hd hv e
          refine c_Itoa hP hG _ e1 e2 ?_
          rw [e3]
          refine c_ws hP (x := 0) (y := 2) (l := bytesD (joinW (l.take (k + 1)) ++ [32])) (by simp [hbl2]) (by simp) (by simp [hbl2]; omega) ?_
          simp [lt38_s0, hi2]
          refine rn [] (k + 2) _ _ ⟨by omega, hp' hv⟩ (by omega) ?_ ?_ (by simp [obT, young, fresh]) (by simp [obT, young, fresh])
          · simp; omega
          · simp [obT, young, fresh, hj, bytesD_app, bytesD, hbl]; omega
        · rw [hx e]
          refine c_ws hP (x := 0) (y := 2) (l := bytesD (joinW (l.take (k + 1)) ++ [32])) (by simp [hbl2]) (by simp) (by simp [hbl2]; omega) ?_
          simp [lt38_s0, hi2]
          refine rn [] (k + 2) _ _ ⟨by omega, hp' hv⟩ (by omega) ?_ ?_ (by simp [obT, young, fresh]) (by simp [obT, young, fresh])
          · simp; omega
          · simp [obT, young, fresh, hj, bytesD_app, bytesD, hbl]; omega
  · have hk' : k = l.length := by omega
    subst hk'
    simp at hp
    have ht : textV l = .tup [.d (.str (joinW l)), .d (.int .i64 0)] := by rw [textV, if_pos (List.all_eq_true.2 hp)]
    have hL := joinW_len _ hp
    simp [lt38_l2]
    refine re _ _ _ ?_
    simp
    cases hn : l.length with
    | zero =>
      have : l = [] := List.length_eq_zero_iff.1 hn
      subst this
      refine c_bs0 hP (by simp [obT]) ?_
      simp
      exact h' _ ht.symm
    | succ n =>
      refine c_bs hP (x := 0) (y := 2) (t := joinW l) (by simp [obT, ← hn]) (by simp [obT, ← hn]) (joinW_ne hp (fun e => by rw [e] at hn; cases hn)) (by omega) ?_
      simp
      exact h' _ ht.symm
end
end Go.Proofs.YtanpgmgkmfckaaaGreatDoor
