/- Joined texts, part 19 of 19. SchemasOnce, the second form: the card. Condition: none. -/
import Derived.Test.YtfedhegpmfkfoaaGreatDoorG17
import Derived.Test.YtfedhegpmfkfoaaGreatDoorG18
set_option maxRecDepth 100000
set_option linter.unusedSimpArgs false
set_option linter.unusedVariables false
namespace Go.Proofs.YtfedhegpmfkfoaaGreatDoor
open Go Go.Ab Go.ChangeShapes Go.WideShapes Go.RowKit Go.ChangeMaps
theorem schemasOnce_holds:Rows.SchemasOnceUptoCardSaid:=
 Claim7.holds_tied_plain_at .later [] [.data,.data,.data,.data,.wider,.wider,.wider,.wider,.wider] true (true, "9a4302bf89941c0d89de8b7105f8a0eebe1f7c23b3eac12eeb640a30162d0ed8") true
  EX (λ_ h=>by cases h) (by kernel_rfl) (λ_ h=>by cases h) schemasOnceUpto_row_tie rfl ⟨rfl,rfl⟩ (by kernel_rfl) rfl
  (λf fn hf hfn=>by
   obtain rfl:f=3:=FQ ((show Tryz.prog.funcNamed "testamur/testamurlaw16.SchemasOnce" = some 3 by kernel_rfl).symm.trans hf) |>.symm
   obtain rfl:fn=Tryz.f3:=(FQ (Tryz.func3.symm.trans hfn)).symm;exact⟨by kernel_rfl,λj t ht=>by
    rw[Tryz.params3]at ht;rcases j with _|j
    ·obtain rfl:t=29:=by simpa using ht.symm
     exact(show Tryz.prog.wantsStandIn 29=false by kernel_rfl)
    ·simp at ht⟩)
  EJ
end Go.Proofs.YtfedhegpmfkfoaaGreatDoor
