/- Texts of this claim joined by a program, part 11 of 20; the last is: One call of the purposes' examples, computed by the kernel. No condition. -/
import Derived.Test.YtolkimpelpnpbaaGreatDoorP10
import Derived.KernelRfl
set_option maxRecDepth 100000
set_option linter.unusedSimpArgs false
set_option linter.unusedVariables false
set_option linter.unusedSectionVars false
set_option linter.defProp false
namespace Go.Proofs.YtolkimpelpnpbaaGreatDoor
open Go Go.Ab Go.Py
theorem Yfq (ob:Xb):(fns 3000 W2 (xzE X8b) 40).pc Ym5.f (Ym5.xs.map .d) ob=some Ym5.v:=by kernel_rfl
end Go.Proofs.YtolkimpelpnpbaaGreatDoor
namespace Go.Proofs.YtolkimpelpnpbaaGreatDoor
open Go Go.Ab Go.Py
theorem Yfr (ob:Xb):(fns 3000 W2 (xzE X8d) 40).pc Ym6.f (Ym6.xs.map .d) ob=some Ym6.v:=by kernel_rfl
end Go.Proofs.YtolkimpelpnpbaaGreatDoor
namespace Go.Proofs.YtolkimpelpnpbaaGreatDoor
open Go Go.Ab Go.Py
theorem Yfs (ob:Xb):(fns 3000 W2 (xzE X8f) 40).pc Ym7.f (Ym7.xs.map .d) ob=some Ym7.v:=by kernel_rfl
end Go.Proofs.YtolkimpelpnpbaaGreatDoor
