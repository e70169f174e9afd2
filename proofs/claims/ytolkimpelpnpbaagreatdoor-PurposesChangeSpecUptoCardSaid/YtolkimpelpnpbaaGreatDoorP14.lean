/- Texts of this claim joined by a program, part 14 of 20; the last is: One call of the purposes' examples, computed by the kernel. No condition. -/
import Derived.Test.YtolkimpelpnpbaaGreatDoorP10
import Derived.Test.YtolkimpelpnpbaaGreatDoorP13
import Derived.KernelRfl
set_option maxRecDepth 100000
set_option linter.unusedSimpArgs false
set_option linter.unusedVariables false
set_option linter.unusedSectionVars false
set_option linter.defProp false
namespace Go.Proofs.YtolkimpelpnpbaaGreatDoor
open Go Go.Ab Go.Py
theorem X7u (ob:Xb):(fns 3000 W2 (xzE Xsb) 40).pc Xzk.f (Xzk.xs.map .d) ob=some Xzk.v:=by kernel_rfl
end Go.Proofs.YtolkimpelpnpbaaGreatDoor
namespace Go.Proofs.YtolkimpelpnpbaaGreatDoor
open Go Go.Ab Go.Py
theorem X7v (ob:Xb):(fns 3000 W2 (xzE Xsc) 40).pc Xzl.f (Xzl.xs.map .d) ob=some Xzl.v:=by kernel_rfl
end Go.Proofs.YtolkimpelpnpbaaGreatDoor
namespace Go.Proofs.YtolkimpelpnpbaaGreatDoor
open Go Go.Ab Go.Py
theorem X7w (ob:Xb):(fns 3000 W2 (xzE Xsd) 40).pc Xzm.f (Xzm.xs.map .d) ob=some Xzm.v:=by kernel_rfl
end Go.Proofs.YtolkimpelpnpbaaGreatDoor
namespace Go.Proofs.YtolkimpelpnpbaaGreatDoor
open Go Go.Ab Go.Py
theorem X7x (ob:Xb):(fns 3000 W2 (xzE Xse) 40).pc Xzn.f (Xzn.xs.map .d) ob=some Xzn.v:=by kernel_rfl
end Go.Proofs.YtolkimpelpnpbaaGreatDoor
namespace Go.Proofs.YtolkimpelpnpbaaGreatDoor
open Go Go.Ab Go.Py
theorem X7y (ob:Xb):(fns 3000 W2 (xzE Xsf) 40).pc Xzo.f (Xzo.xs.map .d) ob=some Xzo.v:=by kernel_rfl
end Go.Proofs.YtolkimpelpnpbaaGreatDoor
namespace Go.Proofs.YtolkimpelpnpbaaGreatDoor
open Go Go.Ab Go.Py
theorem X7z (ob:Xb):(fns 3000 W2 (xzE Xsg) 40).pc Xzp.f (Xzp.xs.map .d) ob=some Xzp.v:=by kernel_rfl
end Go.Proofs.YtolkimpelpnpbaaGreatDoor
