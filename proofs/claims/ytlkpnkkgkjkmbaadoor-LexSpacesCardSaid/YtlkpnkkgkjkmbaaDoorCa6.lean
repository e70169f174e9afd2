/- LexSpaces: the row, the card. Condition: none. -/
import Derived.Test.YtlkpnkkgkjkmbaaDoorGl1
import Derived.Test.YtlkpnkkgkjkmbaaDoorGl2
import Derived.Test.YtlkpnkkgkjkmbaaDoorLx21
import Derived.Test.YtlkpnkkgkjkmbaaDoorCards
import Derived.Test.YtlkpnkkgkjkmbaaDoorTie
import Derived.SevenTiedAt
namespace Go.Proofs.YtlkpnkkgkjkmbaaDoor
open Go Go.Ab Go.Lx Go.ChangeShapes Go.WideShapes Go.RowKit Go.ChangeMaps
set_option maxRecDepth 100000
theorem byte_fit {n : Int} (h : (Lit.int .u8 n).wf = true) : ∃ c : UInt8, n = c.toNat := by
  have h1 : 0 ≤ n ∧ n < 256 := by
    have e1 : IntKind.u8.min = 0 := rfl
    have e2 : IntKind.u8.max = 255 := rfl
    simp only [Lit.wf, e1, e2, Bool.and_eq_true, decide_eq_true_eq] at h
    omega
  refine ⟨UInt8.ofNat n.toNat, ?_⟩
  rw [UInt8.toNat_ofNat']; omega
theorem bytes_fit : ∀ {xs : List D}, (∀ y ∈ xs, (Ty.int .u8).fits y) → ∃ l : List UInt8, xs = bytesD l
  | [], _ => ⟨[], rfl⟩
  | y :: xs, h => by
    have h0 := h y (by simp)
    simp only [Ty.fits] at h0
    obtain ⟨n, rfl, hn⟩ := h0
    obtain ⟨c, rfl⟩ := byte_fit hn
    obtain ⟨l, rfl⟩ := bytes_fit (xs := xs) (fun z hz => h z (by simp [hz]))
    exact ⟨c :: l, rfl⟩
theorem byte_fits {x : D} (h : (Ty.sl (.int .u8) 1).fits x) : ∃ l : List UInt8, BD x l := by
  simp only [Ty.fits] at h
  rcases h with rfl | ⟨xs, rfl, hl, hf⟩
  · exact ⟨[], .inr ⟨rfl, rfl⟩⟩
  · obtain ⟨l, rfl⟩ := bytes_fit (by simpa only [Ty.fits] using hf)
    exact ⟨l, .inl rfl⟩
theorem reps_bl {w : World} {ρ : Env} {x : D} {l : List UInt8} {v : Value} {vs : List V} {us : List Value} (ht : BD x l) (h : x.rep w (own ρ) [v]) (hr : V.reps w ρ vs us) : V.reps w ρ (.d x :: vs) (v :: us) := by
  refine ⟨v, us, rfl, .inr (.inr ⟨?_, h⟩), hr⟩
  rcases ht with rfl | ⟨rfl, _⟩ <;> rfl
theorem lexSpaces_lifted (os : Os) (started : os.Started) (H : Type) (enc : TypeId × Value → H) :
    ReturnsInHanded {} Tryd.checked os 8 .any (fun w args => (Rows.lexSpacesSpec.pre enc Tryd.prog Tryd.f8 [] false w args ∧ laidMetH Tryd.prog laidL w) ∧ sizedMet enc Tryd.prog Tryd.f8 (OpenSpec.ofChange Rows.lexSpacesSpec) false w args)
      (Rows.lexSpacesSpec.post enc Tryd.prog Tryd.f8 false true false false) := by
  refine returnsInHanded_of_change_and (C := Tryd.checked) (X := fun w _ => laidMetH Tryd.prog laidL w) (fun _ _ _ hh h => h.of_heap hh) own_knob started (by kernel_rfl) Tryd.func8
    (ChangeSpec.witness_at (enc := enc) (C := Tryd.checked) (os := os) (X := fun w _ => laidMetH Tryd.prog laidL w) false (laidWorld os) #[.slice none 0 0, .slice none 0 0, .string ⟨#[]⟩] 8 rfl (by kernel_rfl) (by kernel_rfl) (by kernel_rfl) (by kernel_rfl) (by kernel_rfl) (laid_met os _)) ?_
  intro W base args ds gs before hval0 hW _ _ hL _
  have hval : ∀ (j : Nat) t v, Tryd.f8.params[j]? = some t → args[j]? = some v → Value.okWide Tryd.prog W .any base t v := hval0
  have hW' := hW
  obtain ⟨p, q, hA0, hV0, rfl, hfz, hnd⟩ := hW
  have hA : DataW.TrodAll enc Tryd.prog W 0 (fun _ => true) true Tryd.f8.params.toList args.toList ds p := hA0
  have hV : DataW.TrodVars enc Tryd.prog W (fun _ => true) [] gs q := hV0
  rw [Tryd.params8] at hA hval
  obtain ⟨v0, v1, v2, d0, d1, d2, p0, p1, p2, rfl, rfl, rfl, h0, h1, h2⟩ := trodAll_three hA
  obtain ⟨s, rfl, rfl, rfl, hs⟩ := open_string Tryd.underlying9 (hval 2 9 v2 rfl rfl) h2
  obtain ⟨x0, f0, r0⟩ := Ty.open_sl (ow := own (envOf W)) (not_own W) tokT 4 23 v0 d0 p0 rfl (by kernel_rfl) (okWide_slice Tryd.underlying23 (hval 0 23 v0 rfl rfl)) h0
  obtain ⟨x1, f1, r1⟩ := Ty.open_sl (ow := own (envOf W)) (not_own W) (.int .u8) 1 39 v1 d1 p1 rfl (by kernel_rfl) (okWide_slice Tryd.underlying39 (hval 1 39 v1 rfl rfl)) h1
  obtain ⟨l0, t0, n0⟩ := tok_fits f0
  obtain ⟨l1, t1⟩ := byte_fits f1
  have hlt := hA.lt
  obtain ⟨rfl, rfl⟩ : gs = [] ∧ q = [] := by
    cases gs with
    | nil => exact ⟨rfl, hV⟩
    | cons g r => exact absurd hV (by intro h; cases h)
  have e1 : Rows.lexSpacesSpec.fn H ([d0, d1, .lit (.string s.data.toList)] ++ []) = { results := [.lit (.bool true)], args := [d0, d1, .lit (.string s.data.toList)] } := by simp [Rows.lexSpacesSpec]
  refine (law_run (f := 8) (vs := [.d x0, .d x1, .d (.str s.data.toList)]) (args := [v0, v1, .string s]) hL (fun hP hG => p_LexSpaces hP hG t0 t1 n0 _ rfl) ?_).mono fun e W' ⟨he, hb⟩ => ?_
  · exact reps_sl t0 r0 (reps_bl t1 r1 (by simp [V.reps, V.isAgg, V.repC, D.rep]))
  · subst he
    refine ⟨_, rfl, _, _, _, [], p0 ++ (p1 ++ []), [], hW', ?_, ?_, ?_, hb.frame _, fun h => by cases h⟩
    · rw [e1]; exact trodAll_mk1 (shut_bool Tryd.underlying4 true)
    · rw [e1]; exact trodAll_mk3 (Below.trod laid_out (by kernel_rfl) (of_decide_eq_true (by kernel_rfl)) h0 hb (fun x hx => hlt x (by simp [hx]))) (Below.trod laid_out (by kernel_rfl) (of_decide_eq_true (by kernel_rfl)) h1 hb (fun x hx => hlt x (by simp [hx]))) (shut_string Tryd.underlying9 hs)
    · rw [e1]; rfl
theorem lexSpaces_row : Rows.LexSpacesSaid :=
  OpenClaim.holds_of_wide 8 Tryd.f8 rfl rfl rfl rfl rfl rfl rfl ⟨rfl, rfl, rfl, rfl, rfl⟩ rfl rfl rfl rfl rfl (by kernel_rfl) Tryd.func8 (by kernel_rfl)
    (of_decide_eq_true (by kernel_rfl)) (by unfold Func.isWrapper; rw [if_neg (of_decide_eq_false (by kernel_rfl))]; exact ⟨rfl, rfl⟩)
    (fun os started H enc _ => lexSpaces_lifted os started H enc)
theorem lexSpaces_holds : Rows.LexSpacesCardSaid :=
  Claim7.holds_tied_plain_at .later [] [.data, .data, .data] true (true, "a4a9031e91398d2f3fdcce17a901d1d6185167cf7bb7e5eedf3ccca5e3182c5f") true
    lexSpaces_row (fun _ h => by cases h) (by kernel_rfl) (fun _ h => by cases h) lexSpaces_row_tie rfl ⟨rfl, rfl⟩ (by kernel_rfl) rfl
    (fun f fn hf hfn => by
      obtain rfl : f = 8 := Option.some.inj ((show Tryd.prog.funcNamed "testamur/testamurlaw09.LexSpaces" = some 8 by kernel_rfl).symm.trans hf) |>.symm
      obtain rfl : fn = Tryd.f8 := (Option.some.inj (Tryd.func8.symm.trans hfn)).symm
      exact ⟨by kernel_rfl, fun j t ht => by
        rw [Tryd.params8] at ht
        have h3 : t = 23 ∨ t = 39 ∨ t = 9 := by
          rcases j with _ | _ | _ | j
          · exact .inl (by simpa using ht.symm)
          · exact .inr (.inl (by simpa using ht.symm))
          · exact .inr (.inr (by simpa using ht.symm))
          · simp at ht
        rcases h3 with rfl | rfl | rfl
        · exact (show Tryd.prog.wantsStandIn 23 = false by kernel_rfl)
        · exact (show Tryd.prog.wantsStandIn 39 = false by kernel_rfl)
        · exact (show Tryd.prog.wantsStandIn 9 = false by kernel_rfl)⟩)
    (by kernel_rfl)
end Go.Proofs.YtlkpnkkgkjkmbaaDoor
