/- Arguments that are slices of tokens. No program. -/
import Derived.Test.YtlkpnkkgkjkmbaaDoorGl0
import Derived.Test.YtlkpnkkgkjkmbaaDoorLx16
namespace Go.Proofs.YtlkpnkkgkjkmbaaDoor
open Go Go.Ab Go.Lx
/-- tokens -/
abbrev tokT : Ty := .st [.int .i64, .str, .int .i64, .int .i64]
theorem tok_fit {y : D} (h : tokT.fits y) : ∃ t : Tok, y = t.enc := by
  simp only [Ty.fits, Ty.fitss] at h
  obtain ⟨_, rfl, _, _, rfl, ⟨k, rfl, _⟩, _, _, rfl, ⟨s, rfl, _⟩, _, _, rfl, ⟨n, rfl, _⟩, _, _, rfl, ⟨i, rfl, _⟩, rfl⟩ := h
  exact ⟨⟨k, s, n, i⟩, rfl⟩
theorem toks_fit : ∀ {xs : List D}, (∀ y ∈ xs, tokT.fits y) → ∃ l : List Tok, xs = l.map Tok.enc
  | [], _ => ⟨[], rfl⟩
  | y :: xs, h => by
    obtain ⟨t, rfl⟩ := tok_fit (h y (by simp))
    obtain ⟨l, rfl⟩ := toks_fit (xs := xs) (fun z hz => h z (by simp [hz]))
    exact ⟨t :: l, rfl⟩
theorem tok_fits {x : D} (h : (Ty.sl tokT 4).fits x) : ∃ l : List Tok, TD x l ∧ l.length ≤ 9223372036854775807 := by
  simp only [Ty.fits] at h
  rcases h with rfl | ⟨xs, rfl, hl, hf⟩
  · exact ⟨[], TD.nil, by simp⟩
  · obtain ⟨l, rfl⟩ := toks_fit hf
    exact ⟨l, TD.lit _ _ rfl, by simpa [maxLen] using hl⟩
theorem reps_sl {w : World} {ρ : Env} {x : D} {l : List Tok} {v : Value} {vs : List V} {us : List Value} (ht : TD x l) (h : x.rep w (own ρ) [v]) (hr : V.reps w ρ vs us) : V.reps w ρ (.d x :: vs) (v :: us) := by
  refine ⟨v, us, rfl, .inr (.inr ⟨?_, h⟩), hr⟩
  rcases ht with rfl | ⟨rfl, _⟩ <;> rfl
end Go.Proofs.YtlkpnkkgkjkmbaaDoor
