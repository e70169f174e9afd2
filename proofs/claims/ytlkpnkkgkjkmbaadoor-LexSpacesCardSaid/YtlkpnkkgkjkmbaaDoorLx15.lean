/- Contracts: sane. Condition: the program is the seat's; the powers of ten are laid. -/
import Derived.Test.YtlkpnkkgkjkmbaaDoorLx14
namespace Go.Lx
open Go Go.Ab
/-- the same by fuel, to be computed -/
def lexF : Nat → List UInt8 → Nat → Res
  | 0, _, _ => .ok []
  | _, [], _ => .ok []
  | f + 1, c :: r, off => match stp c r with
    | .skip n => lexF f (r.drop n) (off + n + 1)
    | .tok k t m n => addT ⟨k, t, m, off⟩ (lexF f (r.drop n) (off + n + 1))
    | .err => .err off
theorem lexF_eq : ∀ (f : Nat) (s : List UInt8) (off : Nat), s.length ≤ f → lexF f s off = lexR s off
  | 0, s, off, h => by
    have : s = [] := List.length_eq_zero_iff.1 (by omega)
    subst this; simp [lexF, lexR]
  | f + 1, [], off, h => by simp [lexF, lexR]
  | f + 1, c :: r, off, h => by
    rw [lexF, lexR]
    have hl : ∀ n, (r.drop n).length ≤ f := fun n => by simp at h ⊢; omega
    split
    · rw [lexF_eq f _ _ (hl _)]; simp_all
    · rw [lexF_eq f _ _ (hl _)]; simp_all
    · simp_all
theorem lexV_of {s : List UInt8} {r : Res} (hs : s.length ≤ 65536) (h : lexF s.length s 0 = r) : lexV s = resV r := by
  rw [lexV, if_neg (by omega), ← h, lexF_eq _ _ _ (Nat.le_refl _)]
def tkA : List Tok := [⟨1, [101, 97, 114, 110], 0, 0⟩, ⟨2, [], 30, 5⟩, ⟨3, [59], 0, 7⟩]
def tkE : List Tok := [⟨1, [97], 0, 0⟩, ⟨3, [61], 0, 1⟩, ⟨2, [], 1, 2⟩]
theorem sane1 : lexV [101, 97, 114, 110, 32, 51, 48, 59] = .tup [.d (toks tkA), .d (.int .i64 0), .d (.int .i64 0)] := lexV_of (r := .ok tkA) (by decide) (by kernel_rfl)
theorem sane2 : lexV [48, 48, 55] = .tup [.d .nils, .d (.int .i64 0), .d (.int .i64 90)] := lexV_of (r := .err 0) (by decide) (by kernel_rfl)
theorem sane3 : lexV [49, 48, 57, 57, 53, 49, 49, 54, 50, 55, 55, 55, 54] = .tup [.d (toks [⟨2, [], 1099511627776, 0⟩]), .d (.int .i64 0), .d (.int .i64 0)] := lexV_of (r := .ok _) (by decide) (by kernel_rfl)
theorem sane4 : lexV [97, 32, 47, 47, 32, 98] = .tup [.d (toks [⟨1, [97], 0, 0⟩]), .d (.int .i64 0), .d (.int .i64 0)] := lexV_of (r := .ok _) (by decide) (by kernel_rfl)
theorem sane5 : lexV [97, 32, 36] = .tup [.d .nils, .d (.int .i64 2), .d (.int .i64 90)] := lexV_of (r := .err 2) (by decide) (by kernel_rfl)
theorem sane6 : lexV [97, 61, 49] = .tup [.d (toks tkE), .d (.int .i64 0), .d (.int .i64 0)] := lexV_of (r := .ok _) (by decide) (by kernel_rfl)
theorem sane7 : lexV [] = .tup [.d (toks []), .d (.int .i64 0), .d (.int .i64 0)] := lexV_of (r := .ok _) (by decide) (by kernel_rfl)
theorem itoa1 : Lib.itoa 1 = [49] := by
  have := itoa_nat 1
  rw [decDigits_eq] at this
  exact this
theorem sane8 : textV tkE = .tup [.d (.str [97, 32, 61, 32, 49]), .d (.int .i64 0)] := by
  have h : tkE.all validB = true := by kernel_rfl
  rw [textV, if_pos h]
  simp [tkE, joinW, wordT, itoa1]
theorem sane9 : textV [⟨0, [], 0, 0⟩] = .tup [.d (.str []), .d (.int .i64 90)] := by
  have h : ¬ (List.all [(⟨0, [], 0, 0⟩ : Tok)] validB) = true := by simp [validB]
  rw [textV, if_neg h]
theorem TD.mk (l : List Tok) : TD (toks l) l := .inl rfl
theorem TD.nil : TD .nils [] := .inr ⟨rfl, rfl⟩
theorem TD.lit (l : List D) (m : List Tok) (h : l = m.map Tok.enc) : TD (.list 4 l) m := .inl (by rw [h]; rfl)
end Go.Lx
namespace Go.Proofs.YtlkpnkkgkjkmbaaDoor
open Go Go.Ab Go.Lx
set_option maxRecDepth 100000
section
variable {P : Prg} (hP : P.p = Tryd.prog) (hG : Pow P)
include hP hG
theorem c_sane {ob : Objs} {K : V → Prop} (h : K (.d (.bool true))) : PCall P 11 [] ob K := by
  refine pcall_lift hP mixed (ds := []) ok11 lf11 (TOk.cons (c_Name hP) TOk.nil) ?_
  simp [lt11]
  refine c_Lex hP _ ?_
  rw [sane1]
  simp
  refine c_Lex hP _ ?_
  rw [sane2]
  simp
  refine c_Lex hP _ ?_
  rw [sane3]
  simp
  refine c_Lex hP _ ?_
  rw [sane4]
  simp
  refine c_Lex hP _ ?_
  rw [sane5]
  simp
  refine c_Lex hP _ ?_
  rw [sane6]
  simp
  refine c_Text hP hG (TD.mk tkE) (by simp [tkE]) ?_
  rw [sane8]
  simp
  refine c_Lex hP _ ?_
  rw [sane7]
  simp
  refine c_Text hP hG (TD.lit _ [⟨0, [], 0, 0⟩] rfl) (by simp) ?_
  rw [sane9]
  simp [toks]
  refine c_Equal hP (TD.mk tkA) (TD.lit _ tkA rfl) (by simp [tkA]) ?_
  have n1 : nameB [66, 95, 49, 50] = true := by kernel_rfl
  have n2 : nameB [95, 49, 50] = false := by kernel_rfl
  simp [Tok.enc, n1, n2]
  refine c_Same hP (TD.lit _ [⟨1, [97], 0, 0⟩] rfl) (TD.mk tkE) (by simp) ?_
  have s1 : sameB [⟨1, [97], 0, 0⟩] tkE = false := by kernel_rfl
  rw [s1]
  simp
  refine c_Same hP (TD.lit _ [⟨1, [97], 0, 0⟩] rfl) (TD.lit _ [⟨1, [97], 0, 9⟩] rfl) (by simp) ?_
  have s2 : sameB [⟨1, [97], 0, 0⟩] [⟨1, [97], 0, 9⟩] = true := by kernel_rfl
  rw [s2]
  simpa using h
end
end Go.Proofs.YtlkpnkkgkjkmbaaDoor
