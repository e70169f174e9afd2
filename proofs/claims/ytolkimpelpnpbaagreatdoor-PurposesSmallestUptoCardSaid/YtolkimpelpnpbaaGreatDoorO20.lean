/- Texts of this claim joined by a program, part 20 of 20; the last is: PurposesSmallest, the second form: the card. Condition: none. -/
import Derived.Test.YtolkimpelpnpbaaGreatDoorO18
import Derived.Test.YtolkimpelpnpbaaGreatDoorO19
set_option maxRecDepth 100000
set_option linter.unusedSimpArgs false
set_option linter.unusedVariables false
set_option linter.unusedSectionVars false
set_option linter.defProp false
namespace Go.Proofs.YtolkimpelpnpbaaGreatDoor
open Go Go.Ab Go.Lx Go.Sx Go.ChangeShapes Go.WideShapes Go.RowKit Go.ChangeMaps
theorem purposesSmallest_holds:Rows.PurposesSmallestUptoCardSaid:=
 Claim7.holds_tied_plain_at .later [] [.wider,.wider,.wider,.wider,.wider] true (true, "a9db972ed01c161f88503db0916a02c090c74c5694e641e60f6ffaee9970ff32") true
  purposesSmallest_row (fun _ h=>by cases h) (by kernel_rfl) (fun _ h=>by cases h) purposesSmallestUpto_row_tie rfl ⟨rfl,rfl⟩ (by kernel_rfl) rfl
  (fun f fn hf hfn=>by
   obtain rfl:f=5:=Ub1 ((show Tryz.prog.funcNamed "testamur/testamurlaw26.PurposesSmallest" = some 5 by kernel_rfl).symm.trans hf) |>.symm
   obtain rfl:fn=Tryz.f5:=(Ub1 (Tryz.func5.symm.trans hfn)).symm;exact⟨by kernel_rfl,fun j t ht=>by
    rw[Tryz.params5]at ht;rcases j with _ | _ | j
    ·obtain rfl:t=32:=by simpa using ht.symm
     exact (show Tryz.prog.wantsStandIn 32=false by kernel_rfl)
    ·obtain rfl:t=42:=by simpa using ht.symm
     exact (show Tryz.prog.wantsStandIn 42=false by kernel_rfl)
    ·simp at ht⟩)
  purposesSmallest_goes
end Go.Proofs.YtolkimpelpnpbaaGreatDoor
