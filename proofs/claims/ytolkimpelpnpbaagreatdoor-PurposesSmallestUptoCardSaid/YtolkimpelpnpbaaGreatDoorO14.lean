/- Texts of this claim joined by a program, part 14 of 20; the last is: One call of the purposes' examples, computed by the kernel. No condition. -/
import Derived.Test.YtolkimpelpnpbaaGreatDoorO10
import Derived.Test.YtolkimpelpnpbaaGreatDoorO13
import Derived.KernelRfl
set_option maxRecDepth 100000
set_option linter.unusedSimpArgs false
set_option linter.unusedVariables false
set_option linter.unusedSectionVars false
set_option linter.defProp false
namespace Go.Proofs.YtolkimpelpnpbaaGreatDoor
open Go Go.Ab Go.Py
theorem X24 (ob:Xb):(fns 3000 Wp (xzE Xpj) 40).pc Xvv.f (Xvv.xs.map .d) ob=some Xvv.v:=by kernel_rfl
end Go.Proofs.YtolkimpelpnpbaaGreatDoor
namespace Go.Proofs.YtolkimpelpnpbaaGreatDoor
open Go Go.Ab Go.Py
theorem X25 (ob:Xb):(fns 3000 Wp (xzE Xpk) 40).pc Xvw.f (Xvw.xs.map .d) ob=some Xvw.v:=by kernel_rfl
end Go.Proofs.YtolkimpelpnpbaaGreatDoor
namespace Go.Proofs.YtolkimpelpnpbaaGreatDoor
open Go Go.Ab Go.Py
theorem X26 (ob:Xb):(fns 3000 Wp (xzE Xpl) 40).pc Xvx.f (Xvx.xs.map .d) ob=some Xvx.v:=by kernel_rfl
end Go.Proofs.YtolkimpelpnpbaaGreatDoor
namespace Go.Proofs.YtolkimpelpnpbaaGreatDoor
open Go Go.Ab Go.Py
theorem X27 (ob:Xb):(fns 3000 Wp (xzE Xpm) 40).pc Xvy.f (Xvy.xs.map .d) ob=some Xvy.v:=by kernel_rfl
end Go.Proofs.YtolkimpelpnpbaaGreatDoor
namespace Go.Proofs.YtolkimpelpnpbaaGreatDoor
open Go Go.Ab Go.Py
theorem X28 (ob:Xb):(fns 3000 Wp (xzE Xpn) 40).pc Xvz.f (Xvz.xs.map .d) ob=some Xvz.v:=by kernel_rfl
end Go.Proofs.YtolkimpelpnpbaaGreatDoor
namespace Go.Proofs.YtolkimpelpnpbaaGreatDoor
open Go Go.Ab Go.Py
theorem X29 (ob:Xb):(fns 3000 Wp (xzE Xpo) 40).pc Xv0.f (Xv0.xs.map .d) ob=some Xv0.v:=by kernel_rfl
end Go.Proofs.YtolkimpelpnpbaaGreatDoor
