/- Texts of this claim joined by a program, part 14 of 16; the last is: One call of the purposes' examples, computed by the kernel. No condition. -/
import Derived.Test.YtolkimpelpnpbaaGreatDoorR10
import Derived.Test.YtolkimpelpnpbaaGreatDoorR13
import Derived.KernelRfl
set_option maxRecDepth 100000
set_option linter.unusedSimpArgs false
set_option linter.unusedVariables false
set_option linter.unusedSectionVars false
set_option linter.defProp false
namespace Go.Proofs.YtolkimpelpnpbaaGreatDoor
open Go Go.Ab Go.Py
theorem Xz7 (ob:Xb):(fns 3000 Wf (xzE Xnd) 40).pc Xtg.f (Xtg.xs.map .d) ob=some Xtg.v:=by kernel_rfl
end Go.Proofs.YtolkimpelpnpbaaGreatDoor
namespace Go.Proofs.YtolkimpelpnpbaaGreatDoor
open Go Go.Ab Go.Py
theorem Xz8 (ob:Xb):(fns 3000 Wf (xzE Xne) 40).pc Xth.f (Xth.xs.map .d) ob=some Xth.v:=by kernel_rfl
end Go.Proofs.YtolkimpelpnpbaaGreatDoor
namespace Go.Proofs.YtolkimpelpnpbaaGreatDoor
open Go Go.Ab Go.Py
theorem Xz9 (ob:Xb):(fns 3000 Wf (xzE Xnf) 40).pc Xti.f (Xti.xs.map .d) ob=some Xti.v:=by kernel_rfl
end Go.Proofs.YtolkimpelpnpbaaGreatDoor
namespace Go.Proofs.YtolkimpelpnpbaaGreatDoor
open Go Go.Ab Go.Py
theorem X0a (ob:Xb):(fns 3000 Wf (xzE Xng) 40).pc Xtj.f (Xtj.xs.map .d) ob=some Xtj.v:=by kernel_rfl
end Go.Proofs.YtolkimpelpnpbaaGreatDoor
namespace Go.Proofs.YtolkimpelpnpbaaGreatDoor
open Go Go.Ab Go.Py
theorem X0b (ob:Xb):(fns 3000 Wf (xzE Xnh) 40).pc Xtk.f (Xtk.xs.map .d) ob=some Xtk.v:=by kernel_rfl
end Go.Proofs.YtolkimpelpnpbaaGreatDoor
namespace Go.Proofs.YtolkimpelpnpbaaGreatDoor
open Go Go.Ab Go.Py
theorem X0c (ob:Xb):(fns 3000 Wf (xzE Xni) 40).pc Xtl.f (Xtl.xs.map .d) ob=some Xtl.v:=by kernel_rfl
end Go.Proofs.YtolkimpelpnpbaaGreatDoor
