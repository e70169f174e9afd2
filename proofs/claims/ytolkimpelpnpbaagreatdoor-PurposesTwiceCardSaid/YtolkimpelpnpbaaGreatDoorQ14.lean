/- Texts of this claim joined by a program, part 14 of 16; the last is: One call of the purposes' examples, computed by the kernel. No condition. -/
import Derived.Test.YtolkimpelpnpbaaGreatDoorQ10
import Derived.Test.YtolkimpelpnpbaaGreatDoorQ13
import Derived.KernelRfl
set_option maxRecDepth 100000
set_option linter.unusedSimpArgs false
set_option linter.unusedVariables false
set_option linter.unusedSectionVars false
set_option linter.defProp false
namespace Go.Proofs.YtolkimpelpnpbaaGreatDoor
open Go Go.Ab Go.Py
theorem Xw5 (ob:Xa):(fns 3000 Vs (xzE Xlq) 40).pc Xq9.f (Xq9.xs.map .d) ob=some Xq9.v:=by kernel_rfl
end Go.Proofs.YtolkimpelpnpbaaGreatDoor
namespace Go.Proofs.YtolkimpelpnpbaaGreatDoor
open Go Go.Ab Go.Py
theorem Y5v (ob:Xa):(fns 3000 Vs (xzE Xzs) 40).pc Y49.f (Y49.xs.map .d) ob=some Y49.v:=by kernel_rfl
end Go.Proofs.YtolkimpelpnpbaaGreatDoor
namespace Go.Proofs.YtolkimpelpnpbaaGreatDoor
open Go Go.Ab Go.Py
theorem Y5w (ob:Xa):(fns 3000 Vs (xzE Y4z) 40).pc Y5a.f (Y5a.xs.map .d) ob=some Y5a.v:=by kernel_rfl
end Go.Proofs.YtolkimpelpnpbaaGreatDoor
namespace Go.Proofs.YtolkimpelpnpbaaGreatDoor
open Go Go.Ab Go.Py
theorem Y5x (ob:Xa):(fns 3000 Vs (xzE Y40) 40).pc Y5b.f (Y5b.xs.map .d) ob=some Y5b.v:=by kernel_rfl
end Go.Proofs.YtolkimpelpnpbaaGreatDoor
namespace Go.Proofs.YtolkimpelpnpbaaGreatDoor
open Go Go.Ab Go.Py
theorem Y5y (ob:Xa):(fns 3000 Vs (xzE Y41) 40).pc Y5c.f (Y5c.xs.map .d) ob=some Y5c.v:=by kernel_rfl
end Go.Proofs.YtolkimpelpnpbaaGreatDoor
namespace Go.Proofs.YtolkimpelpnpbaaGreatDoor
open Go Go.Ab Go.Py
theorem Y5z (ob:Xa):(fns 3000 Vs (xzE Y42) 40).pc Y5d.f (Y5d.xs.map .d) ob=some Y5d.v:=by kernel_rfl
end Go.Proofs.YtolkimpelpnpbaaGreatDoor
