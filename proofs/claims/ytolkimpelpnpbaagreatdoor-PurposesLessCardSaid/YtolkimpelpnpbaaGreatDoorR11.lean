/- Texts of this claim joined by a program, part 11 of 16; the last is: One call of the purposes' examples, computed by the kernel. No condition. -/
import Derived.Test.YtolkimpelpnpbaaGreatDoorR10
import Derived.KernelRfl
set_option maxRecDepth 100000
set_option linter.unusedSimpArgs false
set_option linter.unusedVariables false
set_option linter.unusedSectionVars false
set_option linter.defProp false
namespace Go.Proofs.YtolkimpelpnpbaaGreatDoor
open Go Go.Ab Go.Py
theorem X6h (ob:Xb):(fns 3000 Wf (xzE X0o) 40).pc Ydi.f (Ydi.xs.map .d) ob=some Ydi.v:=by kernel_rfl
end Go.Proofs.YtolkimpelpnpbaaGreatDoor
namespace Go.Proofs.YtolkimpelpnpbaaGreatDoor
open Go Go.Ab Go.Py
theorem X6i (ob:Xb):(fns 3000 Wf (xzE X0q) 40).pc Ydj.f (Ydj.xs.map .d) ob=some Ydj.v:=by kernel_rfl
end Go.Proofs.YtolkimpelpnpbaaGreatDoor
namespace Go.Proofs.YtolkimpelpnpbaaGreatDoor
open Go Go.Ab Go.Py
theorem X6j (ob:Xb):(fns 3000 Wf (xzE X0s) 40).pc Ydk.f (Ydk.xs.map .d) ob=some Ydk.v:=by kernel_rfl
end Go.Proofs.YtolkimpelpnpbaaGreatDoor
