/- Texts of this claim joined by a program, part 11 of 20; the last is: One call of the purposes' examples, computed by the kernel. No condition. -/
import Derived.Test.YtolkimpelpnpbaaGreatDoorO10
import Derived.KernelRfl
set_option maxRecDepth 100000
set_option linter.unusedSimpArgs false
set_option linter.unusedVariables false
set_option linter.unusedSectionVars false
set_option linter.defProp false
namespace Go.Proofs.YtolkimpelpnpbaaGreatDoor
open Go Go.Ab Go.Py
theorem X99 (ob:Xb):(fns 3000 Wp (xzE X3l) 40).pc Yhd.f (Yhd.xs.map .d) ob=some Yhd.v:=by kernel_rfl
end Go.Proofs.YtolkimpelpnpbaaGreatDoor
namespace Go.Proofs.YtolkimpelpnpbaaGreatDoor
open Go Go.Ab Go.Py
theorem Yaa (ob:Xb):(fns 3000 Wp (xzE X3n) 40).pc Yhe.f (Yhe.xs.map .d) ob=some Yhe.v:=by kernel_rfl
end Go.Proofs.YtolkimpelpnpbaaGreatDoor
namespace Go.Proofs.YtolkimpelpnpbaaGreatDoor
open Go Go.Ab Go.Py
theorem Yab (ob:Xb):(fns 3000 Wp (xzE X3p) 40).pc Yhf.f (Yhf.xs.map .d) ob=some Yhf.v:=by kernel_rfl
end Go.Proofs.YtolkimpelpnpbaaGreatDoor
