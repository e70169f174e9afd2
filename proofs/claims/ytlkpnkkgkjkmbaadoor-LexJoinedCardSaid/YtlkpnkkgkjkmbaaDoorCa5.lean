/- LexJoined: the row, the card. Condition: none. -/
import Derived.Test.YtlkpnkkgkjkmbaaDoorGl1
import Derived.Test.YtlkpnkkgkjkmbaaDoorLx18
import Derived.Test.YtlkpnkkgkjkmbaaDoorCards
import Derived.Test.YtlkpnkkgkjkmbaaDoorTie
import Derived.SevenTiedAt
namespace Go.Proofs.YtlkpnkkgkjkmbaaDoor
open Go Go.Ab Go.Lx Go.ChangeShapes Go.WideShapes Go.RowKit Go.ChangeMaps
set_option maxRecDepth 100000
theorem lexJoined_lifted (os : Os) (started : os.Started) (H : Type) (enc : TypeId × Value → H) :
    ReturnsInHanded {} Tryd.checked os 7 .any (fun w args => (Rows.lexJoinedSpec.pre enc Tryd.prog Tryd.f7 [] false w args ∧ laidMetH Tryd.prog laidL w) ∧ sizedMet enc Tryd.prog Tryd.f7 (OpenSpec.ofChange Rows.lexJoinedSpec) false w args)
      (Rows.lexJoinedSpec.post enc Tryd.prog Tryd.f7 false true false false) := by
  refine returnsInHanded_of_change_and (C := Tryd.checked) (X := fun w _ => laidMetH Tryd.prog laidL w) (fun _ _ _ hh h => h.of_heap hh) own_knob started (by kernel_rfl) Tryd.func7
    (ChangeSpec.witness_at (enc := enc) (C := Tryd.checked) (os := os) (X := fun w _ => laidMetH Tryd.prog laidL w) false (laidWorld os) #[.string ⟨#[]⟩, .string ⟨#[]⟩] 8 rfl (by kernel_rfl) (by kernel_rfl) (by kernel_rfl) (by kernel_rfl) (by kernel_rfl) (laid_met os _)) ?_
  intro W base args ds gs before hval0 hW _ hwt hL _
  have hval : ∀ (j : Nat) t v, Tryd.f7.params[j]? = some t → args[j]? = some v → Value.okWide Tryd.prog W .any base t v := hval0
  have hW' := hW
  obtain ⟨p, q, hA0, hV0, rfl, hfz, hnd⟩ := hW
  have hA : DataW.TrodAll enc Tryd.prog W 0 (fun _ => true) true Tryd.f7.params.toList args.toList ds p := hA0
  have hV : DataW.TrodVars enc Tryd.prog W (fun _ => true) [] gs q := hV0
  rw [Tryd.params7] at hA hval
  obtain ⟨v0, v1, d0, d1, p0, p1, rfl, rfl, rfl, h0, h1⟩ := trodAll_two hA
  obtain ⟨s, rfl, rfl, rfl, hs⟩ := open_string Tryd.underlying9 (hval 0 9 v0 rfl rfl) h0
  obtain ⟨m, rfl, rfl, rfl, hm⟩ := open_string Tryd.underlying9 (hval 1 9 v1 rfl rfl) h1
  obtain ⟨rfl, rfl⟩ : gs = [] ∧ q = [] := by
    cases gs with
    | nil => exact ⟨rfl, hV⟩
    | cons g r => exact absurd hV (by intro h; cases h)
  have hwt' : s.data.toList.length ≤ reachBytes ∧ m.data.toList.length ≤ reachBytes := by
    have hwt2 : (DataW.weightsEach Tryd.prog (Tryd.f7.params.toList ++ []) ([.lit (.string s.data.toList), .lit (.string m.data.toList)] ++ [] : List (DataW H))).all (· ≤ reachBytes) = true := hwt
    rw [Tryd.params7] at hwt2
    simpa [DataW.weightsEach, DataW.weights] using hwt2
  unfold reachBytes at hwt'
  have e1 : Rows.lexJoinedSpec.fn H ([.lit (.string s.data.toList), .lit (.string m.data.toList)] ++ []) = { results := [.lit (.bool true)], args := [.lit (.string s.data.toList), .lit (.string m.data.toList)] } := by simp [Rows.lexJoinedSpec]
  refine (law_run (f := 7) (vs := [.d (.str s.data.toList), .d (.str m.data.toList)]) (args := [.string s, .string m]) hL (fun hP hG => p_LexJoined hP hG _ _ (by omega) (by omega) rfl) ?_).mono fun e W' ⟨he, hb⟩ => ?_
  · simp [V.reps, V.isAgg, V.repC, D.rep]
  · subst he
    refine ⟨_, rfl, _, _, _, [], [], [], hW', ?_, ?_, ?_, hb.frame _, fun h => by cases h⟩
    · rw [e1]; exact trodAll_mk1 (shut_bool Tryd.underlying4 true)
    · rw [e1]; exact trodAll_mk2 (shut_string Tryd.underlying9 hs) (shut_string Tryd.underlying9 hm)
    · rw [e1]; rfl
theorem lexJoined_row : Rows.LexJoinedSaid :=
  OpenClaim.holds_of_wide 7 Tryd.f7 rfl rfl rfl rfl rfl rfl rfl ⟨rfl, rfl, rfl, rfl, rfl⟩ rfl rfl rfl rfl rfl (by kernel_rfl) Tryd.func7 (by kernel_rfl)
    (of_decide_eq_true (by kernel_rfl)) (by unfold Func.isWrapper; rw [if_neg (of_decide_eq_false (by kernel_rfl))]; exact ⟨rfl, rfl⟩)
    (fun os started H enc _ => lexJoined_lifted os started H enc)
theorem lexJoined_holds : Rows.LexJoinedCardSaid :=
  Claim7.holds_tied_plain_at .later [] [.data, .data, .data] true (true, "a4a9031e91398d2f3fdcce17a901d1d6185167cf7bb7e5eedf3ccca5e3182c5f") true
    lexJoined_row (fun _ h => by cases h) (by kernel_rfl) (fun _ h => by cases h) lexJoined_row_tie rfl ⟨rfl, rfl⟩ (by kernel_rfl) rfl
    (fun f fn hf hfn => by
      obtain rfl : f = 7 := Option.some.inj ((show Tryd.prog.funcNamed "testamur/testamurlaw09.LexJoined" = some 7 by kernel_rfl).symm.trans hf) |>.symm
      obtain rfl : fn = Tryd.f7 := (Option.some.inj (Tryd.func7.symm.trans hfn)).symm
      exact ⟨by kernel_rfl, fun j t ht => by
        rw [Tryd.params7] at ht
        have h3 : t = 9 := by
          rcases j with _ | _ | j
          · simpa using ht.symm
          · simpa using ht.symm
          · simp at ht
        subst h3
        exact (show Tryd.prog.wantsStandIn 9 = false by kernel_rfl)⟩)
    (by kernel_rfl)
end Go.Proofs.YtlkpnkkgkjkmbaaDoor
