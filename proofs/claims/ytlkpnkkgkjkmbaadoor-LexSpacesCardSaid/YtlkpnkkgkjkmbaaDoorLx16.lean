/- What Lex hands back, part by part; the laws LexSpec and LexTextSpec as calls. Condition: the program is the seat's; the powers of ten are laid. -/
import Derived.Test.YtlkpnkkgkjkmbaaDoorLx15
namespace Go.Lx
open Go Go.Ab
theorem lexR_len : ∀ (n : Nat) (s : List UInt8) (off : Nat) (l : List Tok), s.length ≤ n → lexR s off = .ok l → l.length ≤ s.length
  | 0, s, off, l, h, e => by
    have : s = [] := List.length_eq_zero_iff.1 (by omega)
    subst this
    simp [lexR] at e
    simp [← e]
  | n + 1, [], off, l, h, e => by simp [lexR] at e; simp [← e]
  | n + 1, c :: r, off, l, h, e => by
    rw [lexR] at e
    have hl : ∀ n, (r.drop n).length ≤ r.length := fun n => by simp
    simp at h
    split at e
    · have := lexR_len n _ _ _ (Nat.le_trans (hl _) h) e
      simp at this ⊢; omega
    · rename_i k t m j _
      cases hr : lexR (List.drop j r) (off + j + 1) with
      | err x => rw [hr] at e; cases e
      | ok l' =>
        rw [hr] at e
        have := lexR_len n _ _ _ (Nat.le_trans (hl _) h) hr
        simp only [addT, Res.ok.injEq] at e
        subst e
        simp at this ⊢; omega
    · cases e
def lexA (s : List UInt8) : D := if s.length > 65536 then .nils else match lexR s 0 with
  | .ok l => toks l
  | .err _ => .nils
def lexL (s : List UInt8) : List Tok := if s.length > 65536 then [] else match lexR s 0 with
  | .ok l => l
  | .err _ => []
def lexI (s : List UInt8) : Int := if s.length > 65536 then 0 else match lexR s 0 with
  | .ok _ => 0
  | .err e => e
def lexE (s : List UInt8) : Int := if s.length > 65536 then 2 else match lexR s 0 with
  | .ok _ => 0
  | .err _ => 90
theorem lexV_eq (s : List UInt8) : lexV s = .tup [.d (lexA s), .d (.int .i64 (lexI s)), .d (.int .i64 (lexE s))] := by
  unfold lexV lexA lexI lexE
  split
  · rfl
  · cases lexR s 0 <;> rfl
theorem lexA_td (s : List UInt8) : TD (lexA s) (lexL s) := by
  unfold lexA lexL
  split
  · exact TD.nil
  · cases lexR s 0
    · exact TD.mk _
    · exact TD.nil
theorem lexL_len (s : List UInt8) : (lexL s).length ≤ 65536 := by
  unfold lexL
  split
  · simp
  · rename_i h
    cases hr : lexR s 0 with
    | err _ => simp
    | ok l => have := lexR_len _ s 0 l (Nat.le_refl _) hr; simp only; omega
def textS (l : List Tok) : List UInt8 := if l.all validB then joinW l else []
def textE (l : List Tok) : Int := if l.all validB then 0 else 90
theorem textV_eq (l : List Tok) : textV l = .tup [.d (.str (textS l)), .d (.int .i64 (textE l))] := by
  unfold textV textS textE
  split <;> rfl
theorem sameB_self : ∀ l : List Tok, sameB l l = true
  | [] => rfl
  | t :: l => by simp [sameB, sameT, sameB_self l]
end Go.Lx
namespace Go.Proofs.YtlkpnkkgkjkmbaaDoor
open Go Go.Ab Go.Lx
set_option maxRecDepth 100000
section
variable {P : Prg} (hP : P.p = Tryd.prog) (hG : Pow P)
include hP hG
theorem p_LexSpec (s : List UInt8) {ob : Objs} {K : V → Prop} (h : K (.d (.bool true))) : PCall P 3 [.d (.str s)] ob K := by
  refine pcall_lift hP mixed (ds := [.str s]) ok3 lf3 TOk.nil ?_
  simp [lt3]
  refine c_sane hP hG ?_
  simp
  refine ⟨fun _ => h, fun hs => ?_⟩
  refine c_Lex hP s ?_
  rw [lexV_eq]
  simp
  refine c_rLex hP s ?_
  rw [lexV_eq]
  simp
  refine c_Equal hP (lexA_td s) (lexA_td s) (by have := lexL_len s; omega) ?_
  simpa using h
theorem p_LexTextSpec {a b : D} {l m : List Tok} (ha : TD a l) (hb : TD b m) (hl : l.length ≤ 9223372036854775807) (hm : m.length ≤ 9223372036854775807) (s : List UInt8) {ob : Objs} {K : V → Prop} (h : K (.d (.bool true))) : PCall P 4 [.d a, .d b, .d (.str s)] ob K := by
  refine pcall_lift hP mixed (ds := [a, b, .str s]) ok4 lf4 (TOk.cons (c_Name hP) (TOk.cons (c_rName hP) TOk.nil)) ?_
  simp [lt4]
  refine c_sane hP hG ?_
  simp
  refine c_Few hP ha hl fun b1 h1 => ?_
  cases b1 with
  | false => simpa using h
  | true =>
    simp
    refine c_Few hP hb hm fun b2 h2 => ?_
    cases b2 with
    | false => simpa using h
    | true =>
      simp
      refine ⟨fun _ => h, fun hs => ?_⟩
      have hl' : l.length ≤ 200 := h1 rfl
      refine c_Text hP hG ha (by omega) ?_
      rw [textV_eq]
      simp
      refine c_rText hP ha (by omega) ?_
      rw [textV_eq]
      simp
      refine c_Same hP ha hb (by omega) ?_
      refine c_rSame hP ha hb (by omega) ?_
      simp
      refine c_Same hP ha ha (by omega) ?_
      rw [sameB_self]
      simpa using h
end
end Go.Proofs.YtlkpnkkgkjkmbaaDoor
