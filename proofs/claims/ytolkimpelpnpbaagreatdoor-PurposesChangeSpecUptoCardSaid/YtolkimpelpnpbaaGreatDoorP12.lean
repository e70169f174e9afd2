/- Texts of this claim joined by a program, part 12 of 20; the last is: One call of the purposes' examples, computed by the kernel. No condition. -/
import Derived.Test.YtolkimpelpnpbaaGreatDoorP10
import Derived.Test.YtolkimpelpnpbaaGreatDoorP11
import Derived.KernelRfl
set_option maxRecDepth 100000
set_option linter.unusedSimpArgs false
set_option linter.unusedVariables false
set_option linter.unusedSectionVars false
set_option linter.defProp false
namespace Go.Proofs.YtolkimpelpnpbaaGreatDoor
open Go Go.Ab Go.Py
theorem Yft (ob:Xb):(fns 3000 W2 (xzE X8h) 40).pc Ym8.f (Ym8.xs.map .d) ob=some Ym8.v:=by kernel_rfl
end Go.Proofs.YtolkimpelpnpbaaGreatDoor
namespace Go.Proofs.YtolkimpelpnpbaaGreatDoor
open Go Go.Ab Go.Py
theorem Yfu (ob:Xb):(fns 3000 W2 (xzE X8j) 40).pc Ym9.f (Ym9.xs.map .d) ob=some Ym9.v:=by kernel_rfl
end Go.Proofs.YtolkimpelpnpbaaGreatDoor
namespace Go.Proofs.YtolkimpelpnpbaaGreatDoor
open Go Go.Ab Go.Py
theorem Yfv (ob:Xb):(fns 3000 W2 (xzE X8l) 40).pc Yna.f (Yna.xs.map .d) ob=some Yna.v:=by kernel_rfl
end Go.Proofs.YtolkimpelpnpbaaGreatDoor
namespace Go.Proofs.YtolkimpelpnpbaaGreatDoor
open Go Go.Ab Go.Py
theorem Yfw (ob:Xb):(fns 3000 W2 (xzE X8n) 40).pc Ynb.f (Ynb.xs.map .d) ob=some Ynb.v:=by kernel_rfl
end Go.Proofs.YtolkimpelpnpbaaGreatDoor
namespace Go.Proofs.YtolkimpelpnpbaaGreatDoor
open Go Go.Ab Go.Py
theorem Yfx (ob:Xb):(fns 3000 W2 (xzE X8p) 40).pc Ync.f (Ync.xs.map .d) ob=some Ync.v:=by kernel_rfl
end Go.Proofs.YtolkimpelpnpbaaGreatDoor
namespace Go.Proofs.YtolkimpelpnpbaaGreatDoor
open Go Go.Ab Go.Py
theorem X7k (ob:Xb):(fns 3000 W2 (xzE Xr1) 40).pc Xza.f (Xza.xs.map .d) ob=some Xza.v:=by kernel_rfl
end Go.Proofs.YtolkimpelpnpbaaGreatDoor
namespace Go.Proofs.YtolkimpelpnpbaaGreatDoor
open Go Go.Ab Go.Py
theorem X7l (ob:Xb):(fns 3000 W2 (xzE Xr2) 40).pc Xzb.f (Xzb.xs.map .d) ob=some Xzb.v:=by kernel_rfl
end Go.Proofs.YtolkimpelpnpbaaGreatDoor
namespace Go.Proofs.YtolkimpelpnpbaaGreatDoor
open Go Go.Ab Go.Py
theorem X7m (ob:Xb):(fns 3000 W2 (xzE Xr3) 40).pc Xzc.f (Xzc.xs.map .d) ob=some Xzc.v:=by kernel_rfl
end Go.Proofs.YtolkimpelpnpbaaGreatDoor
namespace Go.Proofs.YtolkimpelpnpbaaGreatDoor
open Go Go.Ab Go.Py
theorem X7n (ob:Xb):(fns 3000 W2 (xzE Xr4) 40).pc Xzd.f (Xzd.xs.map .d) ob=some Xzd.v:=by kernel_rfl
end Go.Proofs.YtolkimpelpnpbaaGreatDoor
namespace Go.Proofs.YtolkimpelpnpbaaGreatDoor
open Go Go.Ab Go.Py
theorem X7o (ob:Xb):(fns 3000 W2 (xzE Xr5) 40).pc Xze.f (Xze.xs.map .d) ob=some Xze.v:=by kernel_rfl
end Go.Proofs.YtolkimpelpnpbaaGreatDoor
namespace Go.Proofs.YtolkimpelpnpbaaGreatDoor
open Go Go.Ab Go.Py
theorem X7p (ob:Xb):(fns 3000 W2 (xzE Xr6) 40).pc Xzf.f (Xzf.xs.map .d) ob=some Xzf.v:=by kernel_rfl
end Go.Proofs.YtolkimpelpnpbaaGreatDoor
namespace Go.Proofs.YtolkimpelpnpbaaGreatDoor
open Go Go.Ab Go.Py
theorem X7q (ob:Xb):(fns 3000 W2 (xzE Xr7) 40).pc Xzg.f (Xzg.xs.map .d) ob=some Xzg.v:=by kernel_rfl
end Go.Proofs.YtolkimpelpnpbaaGreatDoor
namespace Go.Proofs.YtolkimpelpnpbaaGreatDoor
open Go Go.Ab Go.Py
theorem X7r (ob:Xb):(fns 3000 W2 (xzE Xr8) 40).pc Xzh.f (Xzh.xs.map .d) ob=some Xzh.v:=by kernel_rfl
end Go.Proofs.YtolkimpelpnpbaaGreatDoor
namespace Go.Proofs.YtolkimpelpnpbaaGreatDoor
open Go Go.Ab Go.Py
theorem X7s (ob:Xb):(fns 3000 W2 (xzE Xr9) 40).pc Xzi.f (Xzi.xs.map .d) ob=some Xzi.v:=by kernel_rfl
end Go.Proofs.YtolkimpelpnpbaaGreatDoor
