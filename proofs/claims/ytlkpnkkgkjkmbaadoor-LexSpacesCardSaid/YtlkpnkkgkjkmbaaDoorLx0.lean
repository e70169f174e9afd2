/- Plain functions of the lexer: classes of bytes, names, numbers, tokens. No program. -/
import Derived.Test.YtlkpnkkgkjkmbaaDoorAb1
namespace Go.Lx
open Go Go.Ab

structure Tok where
  kind : Int
  text : List UInt8
  n : Int
  at_ : Int
  deriving DecidableEq, Inhabited

def Tok.enc (t : Tok) : D := .agg [.int .i64 t.kind, .str t.text, .int .i64 t.n, .int .i64 t.at_]
def toks (l : List Tok) : D := .list 4 (l.map Tok.enc)

def letterI (c : Int) : Bool := decide (97 ≤ c ∧ c ≤ 122 ∨ 65 ≤ c ∧ c ≤ 90)
def digitI (c : Int) : Bool := decide (48 ≤ c ∧ c ≤ 57)
def spaceI (c : Int) : Bool := decide (c = 32 ∨ c = 9 ∨ c = 10 ∨ c = 13)
def partI (c : Int) : Bool := letterI c || digitI c || decide (c = 95)
def signs : List UInt8 := [123, 125, 40, 41, 59, 44, 61, 35, 47, 60, 33, 45, 46, 58, 43]
def signI (c : Int) : Bool := signs.any fun b => decide ((b.toNat : Int) = c)

def nameB (s : List UInt8) : Bool := decide (1 ≤ s.length ∧ s.length ≤ 32) && letterI (s.getD 0 0).toNat && s.all fun c => partI c.toNat

theorem getD_map {l : List Tok} {i : Nat} (h : i < l.length) : (l.map Tok.enc).getD i default = (l.getD i default).enc := by simp [h]
theorem all_iff {s : List UInt8} {p : UInt8 → Bool} : s.all p = true ↔ ∀ i, i < s.length → p (s.getD i 0) = true := by
  rw [List.all_eq_true]
  constructor
  · intro h i hi; simp [hi]; exact h _ (List.getElem_mem hi)
  · intro h x hx
    obtain ⟨i, hi, rfl⟩ := List.getElem_of_mem hx
    have := h i hi
    simpa [hi] using this
end Go.Lx
