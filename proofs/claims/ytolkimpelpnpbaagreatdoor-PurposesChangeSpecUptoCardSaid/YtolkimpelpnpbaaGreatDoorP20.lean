/- Texts of this claim joined by a program, part 20 of 20; the last is: PurposesChangeSpec, the second form: the card. Condition: none. -/
import Derived.Test.YtolkimpelpnpbaaGreatDoorP18
import Derived.Test.YtolkimpelpnpbaaGreatDoorP19
set_option maxRecDepth 100000
set_option linter.unusedSimpArgs false
set_option linter.unusedVariables false
set_option linter.unusedSectionVars false
set_option linter.defProp false
namespace Go.Proofs.YtolkimpelpnpbaaGreatDoor
open Go Go.Ab Go.Lx Go.Sx Go.ChangeShapes Go.WideShapes Go.RowKit Go.ChangeMaps
theorem purposesChangeSpec_holds:Rows.PurposesChangeSpecUptoCardSaid:=
 Claim7.holds_tied_plain_at .later [] [.wider,.wider,.wider,.wider,.wider] true (true, "a9db972ed01c161f88503db0916a02c090c74c5694e641e60f6ffaee9970ff32") true
  purposesChangeSpec_row (fun _ h=>by cases h) (by kernel_rfl) (fun _ h=>by cases h) purposesChangeSpecUpto_row_tie rfl ⟨rfl,rfl⟩ (by kernel_rfl) rfl
  (fun f fn hf hfn=>by
   obtain rfl:f=4:=Ub1 ((show Tryz.prog.funcNamed "testamur/testamurlaw26.PurposesChangeSpec" = some 4 by kernel_rfl).symm.trans hf) |>.symm
   obtain rfl:fn=Tryz.f4:=(Ub1 (Tryz.func4.symm.trans hfn)).symm;exact⟨by kernel_rfl,fun j t ht=>by
    rw[Tryz.params4]at ht;rcases j with _ | _ | _ | j
    ·obtain rfl:t=32:=by simpa using ht.symm
     exact (show Tryz.prog.wantsStandIn 32=false by kernel_rfl)
    ·obtain rfl:t=42:=by simpa using ht.symm
     exact (show Tryz.prog.wantsStandIn 42=false by kernel_rfl)
    ·obtain rfl:t=45:=by simpa using ht.symm
     exact (show Tryz.prog.wantsStandIn 45=false by kernel_rfl)
    ·simp at ht⟩)
  purposesChangeSpec_goes
end Go.Proofs.YtolkimpelpnpbaaGreatDoor
