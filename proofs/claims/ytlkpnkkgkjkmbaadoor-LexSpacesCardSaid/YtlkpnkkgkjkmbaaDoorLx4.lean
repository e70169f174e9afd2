/- The lexer as a plain function of bytes. No program. -/
import Derived.Test.YtlkpnkkgkjkmbaaDoorLx3
namespace Go.Lx
open Go Go.Ab

def letterB (c : UInt8) : Bool := letterI c.toNat
def digitB (c : UInt8) : Bool := digitI c.toNat
def spaceB (c : UInt8) : Bool := spaceI c.toNat
def partB (c : UInt8) : Bool := partI c.toNat
def signB (c : UInt8) : Bool := signI c.toNat
def lineB (c : UInt8) : Bool := c != 10

inductive St where
  | skip (n : Nat)
  | tok (k : Int) (t : List UInt8) (m : Int) (n : Nat)
  | err

/-- what a row of digits is worth, if it is a number -/
def numOf (t : List UInt8) : Option Int := match numGo 0 t with
  | none => none
  | some n => if t.length = 1 ∨ t.headD 0 ≠ 48 then some n else none

/-- what begins with the byte c, r behind it; n + 1 bytes of it -/
def stp (c : UInt8) (r : List UInt8) : St :=
  if spaceB c then .skip 0
  else if c = 47 ∧ r.head? = some 47 then .skip (r.takeWhile lineB).length
  else if letterB c then
    if (r.takeWhile partB).length + 1 ≤ 32 then .tok 1 (c :: r.takeWhile partB) 0 (r.takeWhile partB).length else .err
  else if digitB c then
    match numOf (c :: r.takeWhile digitB) with
    | some n => .tok 2 [] n (r.takeWhile digitB).length
    | none => .err
  else if signB c then .tok 3 [c] 0 0 else .err

inductive Res where
  | ok (l : List Tok)
  | err (at_ : Nat)

def addT (t : Tok) : Res → Res
  | .ok l => .ok (t :: l)
  | .err e => .err e
def appT (l : List Tok) : Res → Res
  | .ok l' => .ok (l ++ l')
  | .err e => .err e

def lexR : List UInt8 → Nat → Res
  | [], _ => .ok []
  | c :: r, off => match stp c r with
    | .skip n => lexR (r.drop n) (off + n + 1)
    | .tok k t m n => addT ⟨k, t, m, off⟩ (lexR (r.drop n) (off + n + 1))
    | .err => .err off
termination_by l => l.length
decreasing_by all_goals (simp only [List.length_drop, List.length_cons]; omega)

def resV : Res → V
  | .ok l => .tup [.d (toks l), .d (.int .i64 0), .d (.int .i64 0)]
  | .err e => .tup [.d .nils, .d (.int .i64 e), .d (.int .i64 90)]
def lexV (s : List UInt8) : V := if s.length > 65536 then .tup [.d .nils, .d (.int .i64 0), .d (.int .i64 2)] else resV (lexR s 0)

theorem appT_nil (r : Res) : appT [] r = r := by cases r <;> rfl
theorem appT_add (l : List Tok) (t : Tok) (r : Res) : appT l (addT t r) = appT (l ++ [t]) r := by cases r <;> simp [appT, addT]

/-- the length of what has a property, from a place on -/
def tw (p : UInt8 → Bool) (s : List UInt8) (j : Nat) : Nat := ((s.drop j).takeWhile p).length
theorem tw_ge {p : UInt8 → Bool} {s : List UInt8} {j : Nat} (h : s.length ≤ j) : tw p s j = 0 := by simp [tw, List.drop_of_length_le h]
theorem tw_yes {p : UInt8 → Bool} {s : List UInt8} {j : Nat} (h : j < s.length) (hp : p (s[j]?.getD 0) = true) : tw p s j = tw p s (j + 1) + 1 := by
  simp [h] at hp
  unfold tw
  rw [List.drop_eq_getElem_cons h, List.takeWhile_cons, if_pos hp]; rfl
theorem tw_no {p : UInt8 → Bool} {s : List UInt8} {j : Nat} (h : j < s.length) (hp : p (s[j]?.getD 0) = false) : tw p s j = 0 := by
  simp [h] at hp
  unfold tw
  rw [List.drop_eq_getElem_cons h, List.takeWhile_cons, hp]; rfl
theorem tw_le (p : UInt8 → Bool) (s : List UInt8) (j : Nat) (h : j ≤ s.length) : j + tw p s j ≤ s.length := by
  have := (List.takeWhile_sublist p (l := s.drop j)).length_le
  simp [tw] at this ⊢; omega
theorem takeWhile_take (p : UInt8 → Bool) : ∀ l : List UInt8, l.takeWhile p = l.take (l.takeWhile p).length
  | [] => rfl
  | c :: r => by
    simp only [List.takeWhile_cons]
    split
    · simp; exact takeWhile_take p r
    · rfl
theorem mem_tw {p : UInt8 → Bool} {x : UInt8} : ∀ {l : List UInt8}, x ∈ l.takeWhile p → p x = true
  | c :: r, h => by
    rw [List.takeWhile_cons] at h
    split at h
    · rename_i hc
      rcases List.mem_cons.mp h with rfl | h
      · exact hc
      · exact mem_tw h
    · cases h
theorem drop_cons {s : List UInt8} {i : Nat} (h : i < s.length) : s.drop i = (s[i]?.getD 0) :: s.drop (i + 1) := by
  rw [List.drop_eq_getElem_cons h]; simp [h]
/-- the text from i on whose bytes have a property -/
theorem tw_text (p : UInt8 → Bool) {s : List UInt8} {i : Nat} (h : i < s.length) (hp : p (s[i]?.getD 0) = true) :
    (s.take (i + tw p s i)).drop i = (s[i]?.getD 0) :: (s.drop (i + 1)).takeWhile p ∧ tw p s i = ((s.drop (i + 1)).takeWhile p).length + 1 := by
  have h1 : tw p s i = ((s.drop (i + 1)).takeWhile p).length + 1 := tw_yes h hp
  refine ⟨?_, h1⟩
  rw [List.drop_take, Nat.add_sub_cancel_left, h1, drop_cons h, List.take_succ_cons, ← takeWhile_take]

theorem lexR_nil {s : List UInt8} {i off : Nat} (h : s.length ≤ i) : lexR (s.drop i) off = .ok [] := by
  rw [List.drop_of_length_le h, lexR]
/-- one stp, at a place of the source -/
theorem lexR_at {s : List UInt8} {i : Nat} (h : i < s.length) : lexR (s.drop i) i = match stp (s[i]?.getD 0) (s.drop (i + 1)) with
    | .skip n => lexR (s.drop (i + n + 1)) (i + n + 1)
    | .tok k t m n => addT ⟨k, t, m, i⟩ (lexR (s.drop (i + n + 1)) (i + n + 1))
    | .err => .err i := by
  rw [drop_cons h, lexR]
  cases stp (s[i]?.getD 0) (s.drop (i + 1)) with
  | err => rfl
  | skip n => simp only [List.drop_drop]; congr 2; omega
  | tok k t m n => simp only [List.drop_drop]; congr 3; omega
theorem head_drop {s : List UInt8} {i : Nat} : (s.drop i).head? = s[i]? := by simp [List.head?_drop]
end Go.Lx
