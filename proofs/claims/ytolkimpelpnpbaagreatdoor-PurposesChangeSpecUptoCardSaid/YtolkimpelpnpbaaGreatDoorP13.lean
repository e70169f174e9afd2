/- Texts of this claim joined by a program, part 13 of 20; the last is: One call of the purposes' examples, computed by the kernel. No condition. -/
import Derived.Test.YtolkimpelpnpbaaGreatDoorP10
import Derived.KernelRfl
set_option maxRecDepth 100000
set_option linter.unusedSimpArgs false
set_option linter.unusedVariables false
set_option linter.unusedSectionVars false
set_option linter.defProp false
namespace Go.Proofs.YtolkimpelpnpbaaGreatDoor
open Go Go.Ab Go.Py
theorem X7t (ob:Xb):(fns 3000 W2 (xzE Xsa) 40).pc Xzj.f (Xzj.xs.map .d) ob=some Xzj.v:=by kernel_rfl
end Go.Proofs.YtolkimpelpnpbaaGreatDoor
