/- SchemasBack, the second form: the card. Condition: none. -/
import Derived.Test.YtfedhegpmfkfoaaGreatDoorH17
import Derived.Test.YtfedhegpmfkfoaaGreatDoorH18
set_option maxRecDepth 100000
set_option linter.unusedSimpArgs false
set_option linter.unusedVariables false
namespace Go.Proofs.YtfedhegpmfkfoaaGreatDoor
open Go Go.Ab Go.ChangeShapes Go.WideShapes Go.RowKit Go.ChangeMaps
theorem schemasBack_holds:Rows.SchemasBackUptoCardSaid:=
 Claim7.holds_tied_plain_at .later [] [.data,.data,.data,.data,.wider,.wider,.wider,.wider,.wider] true (true, "9a4302bf89941c0d89de8b7105f8a0eebe1f7c23b3eac12eeb640a30162d0ed8") true
  OJ (λ_ h=>by cases h) (by kernel_rfl) (λ_ h=>by cases h) schemasBackUpto_row_tie rfl ⟨rfl,rfl⟩ (by kernel_rfl) rfl
  (λf fn hf hfn=>by
   obtain rfl:f=4:=FQ ((show Tryz.prog.funcNamed "testamur/testamurlaw16.SchemasBack" = some 4 by kernel_rfl).symm.trans hf) |>.symm
   obtain rfl:fn=Tryz.f4:=(FQ (Tryz.func4.symm.trans hfn)).symm;exact⟨by kernel_rfl,λj t ht=>by
    rw[Tryz.params4]at ht;rcases j with _|_|_|j
    ·obtain rfl:t=34:=by simpa using ht.symm
     exact(show Tryz.prog.wantsStandIn 34=false by kernel_rfl)
    ·obtain rfl:t=5:=by simpa using ht.symm
     exact(show Tryz.prog.wantsStandIn 5=false by kernel_rfl)
    ·obtain rfl:t=57:=by simpa using ht.symm
     exact(show Tryz.prog.wantsStandIn 57=false by kernel_rfl)
    ·simp at ht⟩)
  Jz
end Go.Proofs.YtfedhegpmfkfoaaGreatDoor
