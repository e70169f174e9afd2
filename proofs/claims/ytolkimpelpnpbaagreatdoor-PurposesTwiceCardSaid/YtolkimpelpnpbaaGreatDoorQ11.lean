/- Texts of this claim joined by a program, part 11 of 16; the last is: One call of the purposes' examples, computed by the kernel. No condition. -/
import Derived.Test.YtolkimpelpnpbaaGreatDoorQ10
import Derived.KernelRfl
set_option maxRecDepth 100000
set_option linter.unusedSimpArgs false
set_option linter.unusedVariables false
set_option linter.unusedSectionVars false
set_option linter.defProp false
namespace Go.Proofs.YtolkimpelpnpbaaGreatDoor
open Go Go.Ab Go.Py
theorem X2w (ob:Xa):(fns 3000 Vs (xzE Xxb) 40).pc X9v.f (X9v.xs.map .d) ob=some X9v.v:=by kernel_rfl
end Go.Proofs.YtolkimpelpnpbaaGreatDoor
namespace Go.Proofs.YtolkimpelpnpbaaGreatDoor
open Go Go.Ab Go.Py
theorem X2x (ob:Xa):(fns 3000 Vs (xzE Xxd) 40).pc X9w.f (X9w.xs.map .d) ob=some X9w.v:=by kernel_rfl
end Go.Proofs.YtolkimpelpnpbaaGreatDoor
namespace Go.Proofs.YtolkimpelpnpbaaGreatDoor
open Go Go.Ab Go.Py
theorem X2y (ob:Xa):(fns 3000 Vs (xzE Xxf) 40).pc X9x.f (X9x.xs.map .d) ob=some X9x.v:=by kernel_rfl
end Go.Proofs.YtolkimpelpnpbaaGreatDoor
