/- Texts of this claim joined by a program, part 13 of 16; the last is: One call of the purposes' examples, computed by the kernel. No condition. -/
import Derived.Test.YtolkimpelpnpbaaGreatDoorQ10
import Derived.KernelRfl
set_option maxRecDepth 100000
set_option linter.unusedSimpArgs false
set_option linter.unusedVariables false
set_option linter.unusedSectionVars false
set_option linter.defProp false
namespace Go.Proofs.YtolkimpelpnpbaaGreatDoor
open Go Go.Ab Go.Py
theorem Xw4 (ob:Xa):(fns 3000 Vs (xzE Xlp) 40).pc Xq8.f (Xq8.xs.map .d) ob=some Xq8.v:=by kernel_rfl
end Go.Proofs.YtolkimpelpnpbaaGreatDoor
