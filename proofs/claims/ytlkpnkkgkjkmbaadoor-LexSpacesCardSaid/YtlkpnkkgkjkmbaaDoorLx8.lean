/- Contracts: the scanner's methods. Condition: the program is the seat's. -/
import Derived.Test.YtlkpnkkgkjkmbaaDoorLx7
namespace Go.Proofs.YtlkpnkkgkjkmbaaDoor
open Go Go.Ab Go.Lx
set_option maxRecDepth 100000
section
variable {P : Prg} (hP : P.p = Tryd.prog)
include hP
theorem c_add (s : List UInt8) (i n : Nat) (k m a0 : Int) (t : List UInt8) (ts : List D) (hn : i + n ≤ 1000000) (hts : ts.length ≤ 1000000) {ob : Objs} {x y : Nat} (hx : lookO ob x = some (.box 48 (scV s i y ts.length))) (hy : lookO ob y = some (.arr 35 4 ts))
    {K : Out → Objs → Prop} (h : K (.ret (.tup [])) (setO (setO ob y (.arr 35 4 (ts ++ [.agg [.int .i64 k, .str t, .int .i64 m, .int .i64 i]]))) x (.box 48 (scV s ((i + n : Nat) : Int) y (ts.length + 1))))) :
    ACall P 45 [.ptr x [], .d (.agg [.int .i64 k, .str t, .int .i64 m, .int .i64 a0]), .d (.int .i64 n)] ob K := by
  have hxy : (y == x) = false := by rw [beq_eq_false_iff_ne]; intro e; subst e; rw [hx] at hy; cases hy
  have hyx : (x == y) = false := by rw [beq_eq_false_iff_ne]; intro e; subst e; rw [hx] at hy; cases hy
  refine acall_lift hP mixed ok45 lf45 TOk.nil ?_
  intro _ hm
  have hw : IntKind.i64.wrap ((i : Int) + n) = (i : Int) + n := IntWalk.i64_in _ (by omega)
  simp [lt45, hx, hy, hxy, hyx, hw]
  refine ⟨by omega, ?_⟩
  refine ⟨[], by simp, ?_, ?_⟩
  · simp
    exact noMenO_set_box _ _ _ _ _ (noMenO_set_arr _ _ _ _ _ _ (hm _)) (by simp [hy])
  · simpa using h
/-- what a token leaves -/
abbrev added (ob : Objs) (x y : Nat) (s : List UInt8) (ts : List D) (k : Int) (t : List UInt8) (m : Int) (i n : Nat) : Objs :=
  setO (setO ob y (.arr 35 4 (ts ++ [.agg [.int .i64 k, .str t, .int .i64 m, .int .i64 i]]))) x (.box 48 (scV s ((i + n : Nat) : Int) y (ts.length + 1)))
theorem call_add : callable P.p 44 = true ∧ callable P.p 46 = true ∧ callable P.p 48 = true := by
  rw [hP]; exact ⟨by kernel_rfl, by kernel_rfl, by kernel_rfl⟩
section
variable (s : List UInt8) (i : Nat) (ts : List D) (hs : s.length ≤ 65536) (hi : i < s.length) (hts : ts.length ≤ 1000000) {ob : Objs} {x y : Nat} (hx : lookO ob x = some (.box 48 (scV s i y ts.length))) (hy : lookO ob y = some (.arr 35 4 ts)) {K : Out → Objs → Prop}
include hs hi hts hx hy
omit hs hi hts hy in
theorem c_other (h : K (.panic (.d (.iface 42 (.int .i64 i)))) ob) : ACall P 26 [.ptr x []] ob K := by
  refine acall_lift hP mixed ok26 lf26 TOk.nil ?_
  intro _ hm
  simp [lt26, hx]
  refine ⟨[], by simp, ?_, ?_⟩
  · simp [hm]
  · simpa using h
omit hts in
theorem c_space (h : K (.ret (.tup [])) (setO ob x (.box 48 (scV s ((i + 1 : Nat) : Int) y ts.length)))) : ACall P 27 [.ptr x []] ob K := by
  refine acall_lift hP mixed ok27 lf27 TOk.nil ?_
  intro _ hm
  have hw := wrap1 hi (by omega)
  simp [lt27, hx, hw]
  refine ⟨[], by simp, ?_, ?_⟩
  · simp
    exact noMenO_set_box _ _ _ _ _ (hm _) (by simp [hy])
  · simpa using h
theorem c_name (h1 : 32 < tw partB s i → K (.panic (.d (.iface 42 (.int .i64 i)))) ob) (h2 : tw partB s i ≤ 32 → K (.ret (.tup [])) (added ob x y s ts 1 ((s.drop i).takeWhile partB) 0 i (tw partB s i))) : ACall P 28 [.ptr x []] ob K := by
  refine acall_lift hP mixed ok28 lf28 TOk.nil ?_
  intro _ hm
  have hle := tw_le partB s i (by omega)
  simp [lt28, hx]
  refine PCall.borrow (n := 5) (ds := [.ref (scD s i ts), .fn 44 [] [.ref (.ref (scD s i ts))]]) (by simp [hx, hy]) ?_
  refine c_run hP s i (by omega) (by omega) ts _ [] _ partB (call_add hP).1 (fun c K h => by simpa using c_name1 hP c s i ts h) ?_
  simp
  have hl : ((s.drop i).takeWhile partB).length = tw partB s i := rfl
  simp [hl, hx]
  refine ⟨fun h3 => ?_, fun h3 => ?_⟩
  · refine ⟨[], by simp, ?_, ?_⟩
    · simp [hm]
    · simpa using h1 (by omega)
  · simp [lt28_s0, hl, hx]
    refine c_add hP (y := y) s i _ 1 0 0 _ ts (by omega) hts (by simp [hx]) (by simp [hy]) ?_
    simp [hx, hy]
    refine ⟨[], by simp, ?_, ?_⟩
    · simp
      exact noMenO_set_box _ _ _ _ _ (noMenO_set_arr _ _ _ _ _ _ (hm _)) (by simp [hy])
    · simpa [added] using h2 (by omega)
theorem c_numberM (hd : digitB (s[i]?.getD 0) = true) (h1 : numOf ((s.drop i).takeWhile digitB) = none → K (.panic (.d (.iface 42 (.int .i64 i)))) ob)
    (h2 : ∀ m, numOf ((s.drop i).takeWhile digitB) = some m → K (.ret (.tup [])) (added ob x y s ts 2 [] m i (tw digitB s i))) : ACall P 29 [.ptr x []] ob K := by
  refine acall_lift hP mixed ok29 lf29 TOk.nil ?_
  intro _ hm
  have hle := tw_le digitB s i (by omega)
  simp [lt29, hx]
  refine PCall.borrow (n := 5) (ds := [.ref (scD s i ts), .fn 46 [] [.ref (.ref (scD s i ts))]]) (by simp [hx, hy]) ?_
  refine c_run hP s i (by omega) (by omega) ts _ [] _ digitB (call_add hP).2.1 (fun c K h => by simpa using c_number1 hP c s i ts h) ?_
  have hl : ((s.drop i).takeWhile digitB).length = tw digitB s i := rfl
  have hdg : ∀ k, k < tw digitB s i → digitI (((s.drop i).takeWhile digitB)[k]?.getD 0).toNat = true := fun k hk => by
    have : ((s.drop i).takeWhile digitB)[k] ∈ (s.drop i).takeWhile digitB := List.getElem_mem hk
    rw [List.getElem?_eq_getElem hk]
    exact mem_tw this
  have hne : 0 < tw digitB s i := by have := tw_yes hi hd; omega
  generalize ht : (s.drop i).takeWhile digitB = t at *
  rw [← hl] at hdg hne
  simp
  refine ALoop.go (ι := Nat × Int) (fun k => [(1, .ptr (fresh ob) []), (2, .d (.str t)), (3, .d (.int .i64 k.2)), (9, .d (.int .i64 t.length)), (10, .d (.int .i64 k.1))]) (fun _ => (fresh ob, .box 44 (.ptr x [])) :: ob)
    (fun k => k.1 ≤ t.length ∧ 0 ≤ k.2 ∧ k.2 ≤ 1099511627776 ∧ numGo 0 t = numGo k.2 (t.drop k.1) ∧ (2 ≤ k.1 → t.headD 0 ≠ 48)) (fun k => t.length - k.1) (0, 0) ⟨by simp, by simp, by simp, by simp, by simp⟩ rfl rfl ?_
  rintro ⟨k, n⟩ ⟨hk, k1, k2, k3, k4⟩ R rn re _ rp
  simp only at hk k1 k2 k3 k4
  simp [lt29_l1]
  by_cases hlt : k < t.length
  · have hc := hdg k hlt
    rw [numGo_drop hlt] at k3
    generalize hcc : t[k]?.getD 0 = c at *
    have hcc' : t[k] = c := by rw [← hcc]; simp [hlt]
    simp [digitI] at hc
    have hcl := c.toNat_lt
    have hw : IntKind.i64.wrap (IntKind.i64.wrap (10 * n) + IntKind.i64.wrap (IntKind.u8.wrap (c.toNat - 48))) = 10 * n + (c.toNat - 48) := by
      rw [IntWalk.u8_in _ (by omega), IntWalk.i64_in (10 * n) (by omega), IntWalk.i64_in (_ - 48) (by omega), IntWalk.i64_in _ (by omega)]
    have hwk := wrap1 hlt (by omega)
    have hpan : numOf t = none → R (AExit.panic (V.d (D.iface 42 (D.int IntKind.i64 i)))) [] ((fresh ob, .box 44 (.ptr x [])) :: ob) := fun hno => by
      refine rp _ _ _ ?_
      simp
      refine ⟨[], by simp, ?_, ?_⟩
      · simp [hm]
      · simpa using h1 hno
    have h0 : (t[0]?.getD 0) = t.headD 0 := by cases t <;> rfl
    have hlead : 0 < k → t[0]?.getD 0 = 48 → numOf t = none := fun k0 e => by
      rw [h0] at e
      unfold numOf
      cases numGo 0 t with
      | none => rfl
      | some m => simp only; rw [if_neg]; simp only [not_or, Classical.not_not]; exact ⟨by omega, e⟩
    simp [hlt, hcc', hw, hwk, hx]
    refine ⟨⟨fun _ _ => hne, fun e => hpan ?_, fun e1 e2 => ?_⟩, fun e => absurd e (by omega)⟩
    · rcases e with e | ⟨e1, e2⟩
      · rw [if_pos e] at k3
        simp [numOf, k3]
      · refine hlead e1 ?_
        have e3 : (t[0]?.getD 0).toNat = 48 := by omega
        generalize t[0]?.getD 0 = z at e3
        rw [← UInt8.ofNat_toNat (x := z), e3]; rfl
    · rw [if_neg (by omega)] at k3
      simp [lt29_s0, hwk]
      refine rn [] (k + 1, 10 * n + (c.toNat - 48)) _ _ ⟨?_, ?_, ?_, ?_, ?_⟩ ?_ ?_ ?_ ?_ ?_
      · simp only; omega
      · simp only; omega
      · exact e1
      · exact k3
      · intro h2k e3
        have hk0 : 0 < k := by simp only at h2k; omega
        refine e2 hk0 ?_
        rw [h0, e3]; rfl
      · simp only; omega
      · simp
      · simp
      · simp [young]
      · simp [noMenO_up_add _ hm, hx]
  · have hk' : k = t.length := by omega
    subst hk'
    simp
    refine re _ _ _ ?_
    simp [hx]
    refine c_add hP (y := y) s i _ 2 n 0 _ ts (by omega) hts (by simp [hx]) (by simp [hy]) ?_
    simp [hx, hy]
    refine ⟨[], by simp, ?_, ?_⟩
    · simp
      exact noMenO_set_box _ _ _ _ _ (noMenO_set_arr _ _ _ _ _ _ (hm _)) (by simp [hy])
    · have hn : numOf t = some n := by
        simp [numGo] at k3
        simp only [numOf, k3]
        rw [if_pos]
        by_cases h2 : 2 ≤ t.length
        · exact .inr (k4 h2)
        · exact .inl (by omega)
      simpa [added, hl] using h2 n hn
theorem c_signM (hsg : signB (s[i]?.getD 0) = true) (h1 : s[i]?.getD 0 = 47 ∧ (s.drop (i + 1)).head? = some 47 → K (.ret (.tup [])) (setO ob x (.box 48 (scV s ((i + tw lineB s i : Nat) : Int) y ts.length))))
    (h2 : ¬ (s[i]?.getD 0 = 47 ∧ (s.drop (i + 1)).head? = some 47) → K (.ret (.tup [])) (added ob x y s ts 3 [s[i]?.getD 0] 0 i 1)) : ACall P 30 [.ptr x []] ob K := by
  refine acall_lift hP mixed ok30 lf30 TOk.nil ?_
  intro _ hm
  have hw := wrap1 hi (by omega)
  have hle := tw_le lineB s i (by omega)
  simp [lt30, hx, hw, show i ≤ s.length by omega]
  refine PCall.data (ds := [.str (s.drop i), .str [47, 47]]) rfl (c_prefix hP _ _ ?_)
  have hpre : ([47, 47] : List UInt8).isPrefixOf (s.drop i) = decide (s[i]?.getD 0 = 47 ∧ (s.drop (i + 1)).head? = some 47) := by
    rw [drop_cons hi]
    cases hd : s.drop (i + 1) with
    | nil => simp [List.isPrefixOf]
    | cons a r =>
      rw [Bool.eq_iff_iff]
      simp only [List.isPrefixOf, Bool.and_eq_true, beq_iff_eq, Bool.and_true, decide_eq_true_eq, List.head?_cons, Option.some.injEq]
      exact ⟨fun h => ⟨h.1.symm, h.2.symm⟩, fun h => ⟨h.1.symm, h.2.symm⟩⟩
  rw [hpre]
  simp [hx, hw]
  refine ⟨fun e1 e2 => ?_, fun e => ⟨by omega, ?_⟩⟩
  · refine PCall.borrow (n := 5) (ds := [.ref (scD s i ts), .fn 48 [] []]) (by simp [hx, hy]) ?_
    refine c_run hP s i (by omega) (by omega) ts _ [] [] lineB (call_add hP).2.2 (fun c K h => by simpa using c_sign1 hP c h) ?_
    have hl : ((s.drop i).takeWhile lineB).length = tw lineB s i := rfl
    have hw2 : IntKind.i64.wrap ((i : Int) + tw lineB s i) = (i : Int) + tw lineB s i := IntWalk.i64_in _ (by omega)
    simp [hl, hw2]
    refine ⟨[], by simp, ?_, ?_⟩
    · simp
      exact noMenO_set_box _ _ _ _ _ (hm _) (by simp [hy])
    · have := h1 ⟨e1, by rw [head_drop]; exact e2⟩
      simpa using this
  · have htx : (s.take (i + 1)).drop i = [s[i]?.getD 0] := by
      rw [List.drop_take, Nat.add_sub_cancel_left, drop_cons hi]; rfl
    rw [htx]
    refine c_add hP (y := y) s i 1 3 0 0 _ ts (by omega) hts hx hy ?_
    simp
    refine ⟨[], by simp, ?_, ?_⟩
    · simp
      exact noMenO_set_box _ _ _ _ _ (noMenO_set_arr _ _ _ _ _ _ (hm _)) (by simp [hy])
    · have := h2 (fun e1 => e e1.1 (by rw [← head_drop]; exact e1.2))
      simpa [added] using this
end
end
end Go.Proofs.YtlkpnkkgkjkmbaaDoor
