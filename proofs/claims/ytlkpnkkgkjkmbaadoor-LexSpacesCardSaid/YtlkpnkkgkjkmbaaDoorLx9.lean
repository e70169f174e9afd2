/- Contracts: Lex. Condition: the program is the seat's. -/
import Derived.Test.YtlkpnkkgkjkmbaaDoorLx8
namespace Go.Proofs.YtlkpnkkgkjkmbaaDoor
open Go Go.Ab Go.Lx
set_option maxRecDepth 100000
section
variable {P : Prg} (hP : P.p = Tryd.prog)
include hP
theorem c_rec0 {ob : Objs} {a b c : Nat} {K : Objs → Prop} (h : K ob) : DCall P 24 [.ptr a [], .ptr b [], .ptr c []] ob none K := by
  refine DCall.of_wf fun _ hm => ?_
  refine dcall_lift hP mixed ok24 lr24 lf24 TOk.nil ?_
  simp [lt24_r, lt24_k, lt24]
  refine ⟨[], by simp, ?_, ?_⟩
  · simp [hm]
  · simpa using h
theorem c_rec1 {ob : Objs} {a b c : Nat} {i : Int} {K : Objs → Prop} {va vb vc : V} {Ea Eb Ec : Nat} (ha : lookO ob a = some (.box Ea va)) (hb : lookO ob b = some (.box Eb vb)) (hc : lookO ob c = some (.box Ec vc)) (sa : va.shape = .leaf) (sb : vb.shape = .leaf) (sc : vc.shape = .leaf)
    (hab : (a == b) = false) (hac : (a == c) = false) (hbc : (b == c) = false) (h : K (setO (setO (setO ob a (.box Ea (.d .nils))) b (.box Eb (.d (.int .i64 i)))) c (.box Ec (.d (.int .i64 90))))) : DCall P 24 [.ptr a [], .ptr b [], .ptr c []] ob (some (.d (.iface 42 (.int .i64 i)))) K := by
  refine DCall.of_wf fun _ hm => ?_
  refine dcall_lift hP mixed ok24 lr24 lf24 TOk.nil ?_
  simp [lt24_r, lt24_k, lt24, lt24_s0, ha, hb, hc, hab, hac, hbc, sa, sb, sc]
  refine ⟨[], by simp, ?_, ?_⟩
  · rw [drop_young_ge (by simp)]
    exact noMenO_set_box _ _ _ _ _ (noMenO_set_box _ _ _ _ _ (noMenO_set_box _ _ _ _ _ (hm _) (by simp)) (by simp)) (by simp)
  · rw [drop_young_ge (by simp)]
    exact h
theorem call_lex : callable P.p 24 = true ∧ callable P.p 26 = true ∧ callable P.p 27 = true ∧ callable P.p 28 = true ∧ callable P.p 29 = true ∧ callable P.p 30 = true := by
  rw [hP]; exact ⟨by kernel_rfl, by kernel_rfl, by kernel_rfl, by kernel_rfl, by kernel_rfl, by kernel_rfl⟩
omit hP in
theorem tbl_shape (f g : Nat → Int) : (tblD f).shape = (tblD g).shape := by
  simp only [tblD, tblL, D.shape, D.shapes_eq, List.map_map, Function.comp_def]
theorem c_Lex (s : List UInt8) {ob : Objs} {K : V → Prop} (h : K (lexV s)) : PCall P 12 [.d (.str s)] ob K := by
  refine pcall_defer_lift hP mixed (ds := [.str s]) ok12 lf12 TOk.nil ?_
  obtain ⟨d0, d1, d2, d3, d4, d5⟩ := call_lex hP
  simp only [lt12, zeros_tbl, agg_tbl]
  simp [d0]
  refine ⟨fun hl => ?_, fun hl => ?_⟩
  · simpa [lexV, show 65536 < s.length by omega] using h
  · have hl' : ¬ 65536 < s.length := by omega
    simp only [lexV, gt_iff_lt, hl', if_false] at h
    refine c_classify hP ?_
    simp [clsD]
    refine ⟨tbl_shape _ _, ?_⟩
    refine ALoop.go (ι := Nat × List Tok) (fun _ => [(0, .d (.str s)), (2, .ptr 0 []), (3, .ptr 1 []), (4, .ptr 2 []), (5, .ptr 3 []), (6, .ptr 5 [])])
      (fun k => [(5, .box 49 (.agg [.fn 26 [.ptr 3 []] [], .fn 27 [.ptr 3 []] [], .fn 28 [.ptr 3 []] [], .fn 29 [.ptr 3 []] [], .fn 30 [.ptr 3 []] []])),
        (4, .arr 35 4 (k.2.map Tok.enc)), (3, .box 48 (scV s k.1 4 k.2.length)), (2, .box 24 (.d (.int .i64 0))), (1, .box 3 (.d (.int .i64 0))), (0, .box 23 (.d .nils))])
      (fun k => k.1 ≤ s.length ∧ k.2.length ≤ k.1 ∧ lexR s 0 = appT k.2 (lexR (s.drop k.1) k.1)) (fun k => s.length - k.1) (0, []) ⟨by simp, by simp, by simp [appT_nil]⟩ rfl (by simp) ?_
    rintro ⟨i, out⟩ ⟨hi, ho, he⟩ R rn re _ rp
    simp only at hi ho he
    have nx : ∀ j out' ob', j ≤ s.length → out'.length ≤ j → lexR s 0 = appT out' (lexR (s.drop j) j) → i < j → ob' = [(5, .box 49 (.agg [.fn 26 [.ptr 3 []] [], .fn 27 [.ptr 3 []] [], .fn 28 [.ptr 3 []] [], .fn 29 [.ptr 3 []] [], .fn 30 [.ptr 3 []] []])),
        (4, .arr 35 4 (out'.map Tok.enc)), (3, .box 48 (scV s j 4 out'.length)), (2, .box 24 (.d (.int .i64 0))), (1, .box 3 (.d (.int .i64 0))), (0, .box 23 (.d .nils))] → R .normal [(0, .d (.str s)), (2, .ptr 0 []), (3, .ptr 1 []), (4, .ptr 2 []), (5, .ptr 3 []), (6, .ptr 5 [])] ob' := fun j out' ob' h1 h2 h3 h4 h6 =>
      rn [] (j, out') _ _ ⟨h1, h2, h3⟩ (by simp only; omega) rfl (by rw [h6]; simp [young]) (by simp [young]) (by simp [young])
    clear rn
    by_cases hlt : i < s.length
    · rw [lexR_at hlt] at he
      generalize hc : s[i]?.getD 0 = c at *
      have hc' : s[i] = c := by rw [← hc]; simp [hlt]
      have hcl := c.toNat_lt
      have hout : (out.map Tok.enc).length ≤ 1000000 := by simp; omega
      have pan : lexR s 0 = .err i → R (.panic (.d (.iface 42 (.int .i64 i)))) [(2, .ptr 0 []), (3, .ptr 1 []), (4, .ptr 2 [])] [(5, .box 49 (.agg [.fn 26 [.ptr 3 []] [], .fn 27 [.ptr 3 []] [], .fn 28 [.ptr 3 []] [], .fn 29 [.ptr 3 []] [], .fn 30 [.ptr 3 []] []])),
        (4, .arr 35 4 (out.map Tok.enc)), (3, .box 48 (scV s i 4 out.length)), (2, .box 24 (.d (.int .i64 0))), (1, .box 3 (.d (.int .i64 0))), (0, .box 23 (.d .nils))] := fun hr => by
        refine rp _ _ _ ?_
        simp
        refine c_rec1 hP (Ea := 23) (Eb := 3) (Ec := 24) (va := .d .nils) (vb := .d (.int .i64 0)) (vc := .d (.int .i64 0)) (by simp) (by simp) (by simp) (by simp) (by simp) (by simp) rfl rfl rfl ?_
        simp
        rw [hr] at h
        exact h
      have hx : ∀ (o5 : Ob), lookO [(5, o5), (4, Ob.arr 35 4 (out.map Tok.enc)), (3, Ob.box 48 (scV s i 4 (out.map Tok.enc).length)), (2, .box 24 (.d (.int .i64 0))), (1, .box 3 (.d (.int .i64 0))), (0, .box 23 (.d .nils))] 3 = some (.box 48 (scV s i 4 (out.map Tok.enc).length)) := fun _ => by simp
      have hcr := cls_range c.toNat hcl
      have cls : ∀ m : Nat, clsF c.toNat = m → (clsF c.toNat).toNat = m := fun m e => by omega
      have g1 := cls_space c.toNat hcl
      have g2 := cls_letter c.toNat hcl
      have g3 := cls_digit c.toNat hcl
      have g4 := cls_sign c.toNat hcl
      have e47 : clsF c.toNat ≠ 4 → ¬ (c = 47 ∧ (s.drop (i + 1)).head? = some 47) := fun hne h => by
        obtain ⟨rfl, _⟩ := h; exact hne (by decide +kernel)
      have key : ∀ m : Int, clsF c.toNat = m → (spaceB c = decide (m = 1)) ∧ (letterB c = decide (m = 2)) ∧ (digitB c = decide (m = 3)) ∧ (signB c = decide (m = 4)) := fun m e => by
        rw [e] at g1 g2 g3 g4
        refine ⟨?_, ?_, ?_, ?_⟩ <;> rw [Bool.eq_iff_iff, decide_eq_true_eq]
        · exact g1.symm
        · exact g2.symm
        · exact g3.symm
        · exact g4.symm
      have htwt : ∀ p : UInt8 → Bool, p c = true → tw p s i = ((s.drop (i + 1)).takeWhile p).length + 1 ∧ (s.drop i).takeWhile p = c :: (s.drop (i + 1)).takeWhile p := fun p hp => by
        refine ⟨(tw_text p hlt (by rw [hc]; exact hp)).2, ?_⟩
        rw [drop_cons hlt, hc, List.takeWhile_cons, if_pos hp]
      rcases (by omega : clsF c.toNat = 0 ∨ clsF c.toNat = 1 ∨ clsF c.toNat = 2 ∨ clsF c.toNat = 3 ∨ clsF c.toNat = 4) with e | e | e | e | e
      · obtain ⟨k1, k2, k3, k4⟩ := key 0 e
        simp only [stp, k1, k2, k3, k4, e47 (by rw [e]; decide), if_false, appT] at he
        simp [lt12_l0, hlt, hc', hcl, show (c.toNat : Int) < 256 by omega, e, d1]
        refine c_other hP s i (out.map Tok.enc) (y := 4) (by simp) ?_
        simp
        exact pan (by simpa using he)
      · obtain ⟨k1, k2, k3, k4⟩ := key 1 e
        simp [stp, k1] at he
        simp [lt12_l0, hlt, hc', hcl, show (c.toNat : Int) < 256 by omega, e, d2]
        refine c_space hP s i (out.map Tok.enc) (by omega) hlt (y := 4) (by simp) (by simp) ?_
        simp
        refine nx (i + 1) out _ (by omega) (by omega) he (by omega) (by simp)
      · obtain ⟨k1, k2, k3, k4⟩ := key 2 e
        have hp : partB c = true := by
          have : letterI c.toNat = true := by simpa [letterB] using k2
          simp [partB, partI, this]
        obtain ⟨t1, t2⟩ := htwt partB hp
        have hle := tw_le partB s i (by omega)
        have k1 : spaceB c = false := by simpa using k1
        have k2 : letterB c = true := by simpa using k2
        simp only [stp, k1, k2, e47 (by rw [e]; decide), Bool.false_eq_true, if_false, if_true] at he
        simp [lt12_l0, hlt, hc', hcl, show (c.toNat : Int) < 256 by omega, e, d3]
        refine c_name hP s i (out.map Tok.enc) (by omega) hlt hout (y := 4) (by simp) (by simp) (fun h5 => ?_) (fun h5 => ?_)
        · simp
          rw [if_neg (by omega)] at he
          exact pan (by simpa [appT] using he)
        · simp [added]
          rw [if_pos (by omega)] at he
          simp only [appT_add] at he
          have hjj : i + ((s.drop (i + 1)).takeWhile partB).length + 1 = i + tw partB s i := by omega
          rw [hjj] at he
          refine nx (i + tw partB s i) (out ++ [⟨1, c :: (s.drop (i + 1)).takeWhile partB, 0, i⟩]) _ (by omega) (by simp; omega) he (by omega) ?_
          simp [Tok.enc, t2]
      · obtain ⟨k1, k2, k3, k4⟩ := key 3 e
        have hp : digitB c = true := by simpa using k3
        obtain ⟨t1, t2⟩ := htwt digitB hp
        have hle := tw_le digitB s i (by omega)
        have k1 : spaceB c = false := by simpa using k1
        have k2 : letterB c = false := by simpa using k2
        simp only [stp, k1, k2, hp, e47 (by rw [e]; decide), Bool.false_eq_true, if_false, if_true] at he
        simp [lt12_l0, hlt, hc', hcl, show (c.toNat : Int) < 256 by omega, e, d4]
        refine c_numberM hP s i (out.map Tok.enc) (by omega) hlt hout (y := 4) (by simp) (by simp) (by rw [hc]; exact hp) (fun h5 => ?_) (fun m h5 => ?_)
        · simp
          rw [t2] at h5
          rw [h5] at he
          exact pan (by simpa [appT] using he)
        · simp [added]
          rw [t2] at h5
          rw [h5] at he
          simp only [appT_add] at he
          have hjj : i + ((s.drop (i + 1)).takeWhile digitB).length + 1 = i + tw digitB s i := by omega
          rw [hjj] at he
          refine nx (i + tw digitB s i) (out ++ [⟨2, [], m, i⟩]) _ (by omega) (by simp; omega) he (by omega) ?_
          simp [Tok.enc]
      · obtain ⟨k1, k2, k3, k4⟩ := key 4 e
        simp [lt12_l0, hlt, hc', hcl, show (c.toNat : Int) < 256 by omega, e, d5]
        refine c_signM hP s i (out.map Tok.enc) (by omega) hlt hout (y := 4) (by simp) (by simp) (by rw [hc]; simpa using k4) (fun h5 => ?_) (fun h5 => ?_)
        · rw [hc] at h5
          obtain ⟨rfl, h6⟩ := h5
          obtain ⟨t1, t2⟩ := htwt lineB rfl
          have hle := tw_le lineB s i (by omega)
          simp only [stp, k1, h6, and_self, if_true, decide_eq_true_eq, show ¬ ((4 : Int) = 1) by decide, if_false] at he
          simp
          have hjj : i + ((s.drop (i + 1)).takeWhile lineB).length + 1 = i + tw lineB s i := by omega
          rw [hjj] at he
          refine nx (i + tw lineB s i) out _ (by omega) (by omega) he (by omega) ?_
          simp
        · rw [hc] at h5
          simp only [stp, k1, k2, k3, k4, h5, if_false, decide_eq_true_eq, show ¬ ((4 : Int) = 1) by decide, show ¬ ((4 : Int) = 2) by decide, show ¬ ((4 : Int) = 3) by decide, if_true, appT_add] at he
          simp [added]
          refine nx (i + 1) (out ++ [⟨3, [c], 0, i⟩]) _ (by omega) (by simp; omega) he (by omega) ?_
          simp [Tok.enc, hc]
    · have hi' : i = s.length := by omega
      subst hi'
      simp [lt12_l0]
      refine re _ _ _ ?_
      simp
      refine c_rec0 hP ?_
      simp
      rw [lexR_nil (Nat.le_refl _)] at he
      rw [he] at h
      simpa [appT, resV, toks] using h
end
end Go.Proofs.YtlkpnkkgkjkmbaaDoor
