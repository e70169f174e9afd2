/- strings.Builder: copyCheck, walked (the shelf's body has a panic where this dump refuses). Condition: the program is the seat's. -/
import Derived.Test.YtlkpnkkgkjkmbaaDoorLx9
import Derived.Shelf.Strings.Builder1
namespace Go.Proofs.YtlkpnkkgkjkmbaaDoor
open Go Go.Ab Go.Lx
set_option maxRecDepth 100000
open Go.RowKit in
set_option maxHeartbeats 1000000 in
theorem cc_used (b : Nat) (w : World) (h0 : w.cell? ⟨b, 0, none⟩ = some (.pointer (some ⟨b, 0, none⟩))) :
    Calls Tryd.prog 50 #[.pointer (some ⟨b, 0, none⟩)] w fun e w' => e = .returned (.tuple #[]) ∧ w' = w := by
  have hX : (Tryd.prog.info? 54).map (·.size) = some 2 := by kernel_rfl
  obtain ⟨j, hj, _⟩ := Option.map_eq_some_iff.1 hX
  go_enter Tryd.func50, Tryd.ntmps50
  go_wp2
  rw [Lib.run_neq_ptr_same w _ Tryd.underlying52 hj]
  go_wp2
  go_end0
  exact ⟨rfl, rfl⟩
open Go.RowKit in
set_option maxHeartbeats 1000000 in
theorem cc_fresh (b : Nat) (w : World) (h0 : w.cell? ⟨b, 0, none⟩ = some (.pointer none)) (hsh : w.shape? b = some (54, 2)) (hfz : w.frozen? ⟨b, 0, none⟩ = false) :
    Calls Tryd.prog 50 #[.pointer (some ⟨b, 0, none⟩)] w fun e w' => e = .returned (.tuple #[]) ∧ w' = w.setCell ⟨b, 0, none⟩ (.pointer (some ⟨b, 0, none⟩)) := by
  have hX : (Tryd.prog.info? 54).map (·.size) = some 2 := by kernel_rfl
  have hY : liesAt Tryd.prog Tryd.prog.depth 54 (2 / Tryd.prog.cellsOf 54) 0 54 1 = true := by kernel_rfl
  obtain ⟨j, hj, hjs⟩ := Option.map_eq_some_iff.1 hX
  go_enter Tryd.func50, Tryd.ntmps50
  go_wp2
  rw [Lib.run_to_unsafe w ⟨b, 0, none⟩ Tryd.underlying52 Tryd.underlying67 hj (by rw [hjs]; decide) hsh (Nat.zero_lt_succ 1)]
  simp only [Result.andThen]
  rw [Oper.upon_value]
  go_wp2
  rw [run_callFunc_extern Tryd.func54 (by kernel_rfl) (by kernel_rfl) (by kernel_rfl) (e := Extern.AbiNoEscape.same) (by kernel_rfl)]
  rw [Lib.run_noEscape]
  simp only [Result.andThen]
  rw [Oper.upon_value]
  go_wp2
  rw [Lib.run_from_unsafe w ⟨b, 0, none⟩ Tryd.underlying67 Tryd.underlying52 hj hsh hY]
  simp only [Result.andThen]
  rw [Oper.upon_value]
  go_wp2
  go_end0
  exact ⟨rfl, rfl⟩
theorem bytesD_len : ∀ t : List UInt8, (bytesD t).length = t.length
  | [] => rfl
  | _ :: r => by simp [bytesD, bytesD_len r]
theorem bytesD_app : ∀ s t : List UInt8, bytesD (s ++ t) = bytesD s ++ bytesD t
  | [], _ => rfl
  | _ :: r, t => by simp [bytesD, bytesD_app r t]
theorem noMenO_set_gone {ob : Objs} (ids : Nat → Bool) (k : Nat) (h : noMenO ids ob = true) : noMenO ids (setO ob k .gone) = true := by
  induction ob with
  | nil => rfl
  | cons e r ih =>
    obtain ⟨j, o⟩ := e
    simp only [setO]
    split
    · cases o <;> simp_all [noMenO]
    · cases o <;> simp_all [noMenO]
section
variable {P : Prg} (hP : P.p = Tryd.prog)
include hP
theorem c_cc0 {ob : Objs} {x : Nat} (hx : lookO ob x = some (.box 54 (.d (.agg [.nilp, .nils])))) {K : Out → Objs → Prop} (h : K (.ret (.tup [])) (setO ob x (.box 54 (.agg [.ptr x [], .d .nils])))) : ACall P 50 [.ptr x []] ob K := by
  refine ⟨fun w ρ args ho hg hr => ?_⟩
  obtain ⟨b, cs, h1, h2, h3⟩ := ho.one x _ hx
  simp only [V.repC, D.rep, D.repL] at h3
  obtain ⟨c1, c2, rfl, rfl, c3, c4, rfl, rfl, rfl⟩ := h3
  simp only [V.reps, ↓reduceCtorEq, false_or] at hr
  obtain ⟨u, us, rfl, hu, rfl⟩ := hr
  have hu' : (V.ptr x []).rep w ρ u := hu.elim (fun h => .inr (.inl h)) (fun h => .inr (.inr h))
  obtain ⟨b', sh, g1, g2⟩ := rep_ptr_box ho hx hu'
  rw [h1] at g1; simp only [Option.some.injEq, RO.box.injEq] at g1
  obtain ⟨rfl, rfl⟩ := g1
  have hoff : Sh.off (V.d (.agg [.nilp, .nils])).shape [] = 0 := rfl
  rw [hoff] at g2; subst g2
  rw [hP]
  have hre : (V.agg [.ptr x [], .d .nils]).repC w ρ [.pointer (some ⟨b, 0, none⟩), .slice none 0 0] := by
    simp only [V.repC, V.repCs, D.rep]
    exact ⟨[_], [_], rfl, .inl ⟨b, _, h1, rfl⟩, [_], [], rfl, rfl, rfl⟩
  obtain ⟨t1, o1⟩ := write_box (t' := .agg [.ptr x [], .d .nils]) ho hx h1 h2 rfl hre
  refine (cc_fresh b w (by simp [World.cell?, h2]) (by simp [World.shape?, h2]) (by simp [World.frozen?, h2])).mono ?_
  rintro e w' ⟨rfl, rfl⟩
  have hw : w.setCell ⟨b, 0, none⟩ (.pointer (some ⟨b, 0, none⟩)) = w.setRow b [.pointer (some ⟨b, 0, none⟩), .slice none 0 0].toArray := by
    simp only [World.setCell, World.setRow]
    congr 1
    apply Array.ext_getElem?
    intro i
    simp only [Array.getElem?_modify]
    split
    · rename_i e; subst e; rw [h2]; simp
    · rfl
  rw [hw]
  exact ⟨_, _, ρ, h, rep_tup.2 ⟨[], rfl, rfl⟩, o1, t1⟩
theorem c_cc1 {ob : Objs} {x : Nat} {v : V} (hx : lookO ob x = some (.box 54 (.agg [.ptr x [], v]))) {K : Out → Objs → Prop} (h : K (.ret (.tup [])) ob) : ACall P 50 [.ptr x []] ob K := by
  refine ⟨fun w ρ args ho hg hr => ?_⟩
  obtain ⟨b, cs, h1, h2, h3⟩ := ho.one x _ hx
  simp only [V.repC, V.repCs] at h3
  obtain ⟨c1, c2, rfl, h3, _⟩ := h3
  rcases h3 with ⟨b', sh, h4, rfl⟩ | ⟨h4, _⟩
  · rw [h1] at h4; simp only [Option.some.injEq, RO.box.injEq] at h4
    obtain ⟨rfl, rfl⟩ := h4
    simp only [V.reps, ↓reduceCtorEq, false_or] at hr
    obtain ⟨u, us, rfl, hu, rfl⟩ := hr
    have hu' : (V.ptr x []).rep w ρ u := hu.elim (fun h => .inr (.inl h)) (fun h => .inr (.inr h))
    obtain ⟨b', sh, g1, g2⟩ := rep_ptr_box ho hx hu'
    rw [h1] at g1; simp only [Option.some.injEq, RO.box.injEq] at g1
    obtain ⟨rfl, rfl⟩ := g1
    have hoff : Sh.off (V.agg [.ptr x [], v]).shape [] = 0 := rfl
    rw [hoff] at g2; subst g2
    rw [hP]
    refine (cc_used b w (by rw [hoff] at h2; simp [World.cell?, h2])).mono ?_
    rintro e w' ⟨rfl, rfl⟩
    exact ⟨_, _, ρ, h, rep_tup.2 ⟨[], rfl, rfl⟩, ho, .refl _ _⟩
  · rw [h1] at h4; cases h4
theorem c_wb {ob : Objs} {x y : Nat} {c : Int} {l : List D} (hx : lookO ob x = some (.box 54 (.agg [.ptr x [], .sl y l.length]))) (hy : lookO ob y = some (.arr 5 1 l)) (hl : l.length ≤ 100000000) {K : Out → Objs → Prop} (h : K (.ret (.d .nili)) (setO (setO ob y (.arr 5 1 (l ++ [.int .u8 c]))) x (.box 54 (.agg [.ptr x [], .sl y (l.length + 1)])))) : ACall P 37 [.ptr x [], .d (.int .u8 c)] ob K := by
  have hxy : (y == x) = false := by rw [beq_eq_false_iff_ne]; intro e; subst e; rw [hx] at hy; cases hy
  have hyx : (x == y) = false := by rw [beq_eq_false_iff_ne]; intro e; subst e; rw [hx] at hy; cases hy
  refine acall_lift hP mixed ok37 lf37 TOk.nil ?_
  intro _ hm
  simp [lt37, hx]
  refine c_cc1 hP hx ?_
  simp [hx, hy, hxy, hyx]
  refine ⟨by omega, [], by simp, ?_, ?_⟩
  · simp
    exact noMenO_set_box _ _ _ _ _ (noMenO_set_arr _ _ _ _ _ _ (hm _)) (by simp [hx, hy])
  · simpa using h
theorem c_ws {ob : Objs} {x y : Nat} {t : List UInt8} {l : List D} (hx : lookO ob x = some (.box 54 (.agg [.ptr x [], .sl y l.length]))) (hy : lookO ob y = some (.arr 5 1 l)) (hl : l.length + t.length ≤ 100000000) {K : Out → Objs → Prop} (h : K (.ret (.tup [.d (.int .i64 t.length), .d .nili])) (setO (setO ob y (.arr 5 1 (l ++ bytesD t))) x (.box 54 (.agg [.ptr x [], .sl y (l.length + t.length)])))) : ACall P 38 [.ptr x [], .d (.str t)] ob K := by
  have hxy : (y == x) = false := by rw [beq_eq_false_iff_ne]; intro e; subst e; rw [hx] at hy; cases hy
  have hyx : (x == y) = false := by rw [beq_eq_false_iff_ne]; intro e; subst e; rw [hx] at hy; cases hy
  refine acall_lift hP mixed ok38 lf38 TOk.nil ?_
  intro _ hm
  simp [lt38, hx]
  refine c_cc1 hP hx ?_
  simp [hx, hy, hxy, hyx, bytesD_len]
  refine ⟨by omega, [], by simp, ?_, ?_⟩
  · simp
    exact noMenO_set_box _ _ _ _ _ (noMenO_set_arr _ _ _ _ _ _ (hm _)) (by simp [hx, hy])
  · simpa using h
theorem c_ws0 {ob : Objs} {x : Nat} {t : List UInt8} (hx : lookO ob x = some (.box 54 (.d (.agg [.nilp, .nils])))) (hl : t.length ≤ 100000000) {K : Out → Objs → Prop} (h : K (.ret (.tup [.d (.int .i64 t.length), .d .nili])) ((fresh ob, .arr 5 1 (bytesD t)) :: (setO ob x (.box 54 (.agg [.ptr x [], .sl (fresh ob) t.length]))))) : ACall P 38 [.ptr x [], .d (.str t)] ob K := by
  refine acall_lift hP mixed ok38 lf38 TOk.nil ?_
  intro _ hm
  simp [lt38, hx]
  refine c_cc0 hP hx ?_
  simp [hx, bytesD_len]
  have hy : young (fresh ob) [fresh ob] (fresh ob) = false := by simp [young]
  refine ⟨by omega, [fresh ob], by simp, ?_, ?_⟩
  · simp [hy]
    exact noMenO_set_box _ _ _ _ _ (hm _) (by simp [hx, hy])
  · simpa [hy] using h
theorem c_bs0 {ob : Objs} {x : Nat} (hx : lookO ob x = some (.box 54 (.d (.agg [.nilp, .nils])))) {K : Out → Objs → Prop} (h : K (.ret (.d (.str []))) ob) : ACall P 40 [.ptr x []] ob K := by
  refine acall_lift hP mixed ok40 lf40 TOk.nil ?_
  intro _ hm
  simp [lt40, hx]
  refine ⟨[], by simp, ?_, ?_⟩
  · simp [hm]
  · simpa using h
theorem c_bs {ob : Objs} {x y : Nat} {t : List UInt8} (hx : lookO ob x = some (.box 54 (.agg [.ptr x [], .sl y t.length]))) (hy : lookO ob y = some (.arr 5 1 (bytesD t))) (h0 : t ≠ []) (hl : t.length ≤ 100000000) {K : Out → Objs → Prop} (h : K (.ret (.d (.str t))) (setO ob y .gone)) : ACall P 40 [.ptr x []] ob K := by
  refine acall_lift hP mixed ok40 lf40 TOk.nil ?_
  intro _ hm
  have hb : bytesD t ≠ [] := by cases t with
    | nil => exact (h0 rfl).elim
    | cons c r => simp [bytesD]
  simp [lt40, hx, hy, bytesD_len, hb]
  have e1 : ∃ E z xs, (5 = E ∧ 1 = z ∧ bytesD t = xs) ∧ t.length = xs.length := ⟨_, _, _, ⟨rfl, rfl, rfl⟩, (bytesD_len t).symm⟩
  have e2 : ∃ E sz xs, (5 = E ∧ 1 = sz ∧ bytesD t = xs) ∧ ¬sz = 0 ∧ t.length = xs.length ∧ ¬xs = [] := ⟨_, _, _, ⟨rfl, rfl, rfl⟩, by decide, (bytesD_len t).symm, hb⟩
  refine ⟨e1, e2, e1, e2, by omega, t, rfl, [], by simp, ?_, ?_⟩
  · simp
    exact noMenO_set_gone _ _ (hm _)
  · simpa using h
end
end Go.Proofs.YtlkpnkkgkjkmbaaDoor
