/- Texts of this claim joined by a program, part 11 of 20; the last is: One call of the purposes' examples, computed by the kernel. No condition. -/
import Derived.Test.YtolkimpelpnpbaaGreatDoorS10
import Derived.KernelRfl
set_option maxRecDepth 100000
set_option linter.unusedSimpArgs false
set_option linter.unusedVariables false
set_option linter.unusedSectionVars false
set_option linter.defProp false
namespace Go.Proofs.YtolkimpelpnpbaaGreatDoor
open Go Go.Ab Go.Py
theorem X9a (ob:Xa):(fns 3000 Wl (xzE X2z) 40).pc Ygj.f (Ygj.xs.map .d) ob=some Ygj.v:=by kernel_rfl
end Go.Proofs.YtolkimpelpnpbaaGreatDoor
namespace Go.Proofs.YtolkimpelpnpbaaGreatDoor
open Go Go.Ab Go.Py
theorem X9b (ob:Xa):(fns 3000 Wl (xzE X21) 40).pc Ygk.f (Ygk.xs.map .d) ob=some Ygk.v:=by kernel_rfl
end Go.Proofs.YtolkimpelpnpbaaGreatDoor
namespace Go.Proofs.YtolkimpelpnpbaaGreatDoor
open Go Go.Ab Go.Py
theorem X9c (ob:Xa):(fns 3000 Wl (xzE X23) 40).pc Ygl.f (Ygl.xs.map .d) ob=some Ygl.v:=by kernel_rfl
end Go.Proofs.YtolkimpelpnpbaaGreatDoor
