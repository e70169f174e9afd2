/- Texts of this claim joined by a program, part 14 of 20; the last is: One call of the purposes' examples, computed by the kernel. No condition. -/
import Derived.Test.YtolkimpelpnpbaaGreatDoorS10
import Derived.Test.YtolkimpelpnpbaaGreatDoorS13
import Derived.KernelRfl
set_option maxRecDepth 100000
set_option linter.unusedSimpArgs false
set_option linter.unusedVariables false
set_option linter.unusedSectionVars false
set_option linter.defProp false
namespace Go.Proofs.YtolkimpelpnpbaaGreatDoor
open Go Go.Ab Go.Py
theorem X2i (ob:Xa):(fns 3000 Wl (xzE Xol) 40).pc Xus.f (Xus.xs.map .d) ob=some Xus.v:=by kernel_rfl
end Go.Proofs.YtolkimpelpnpbaaGreatDoor
namespace Go.Proofs.YtolkimpelpnpbaaGreatDoor
open Go Go.Ab Go.Py
theorem X2j (ob:Xa):(fns 3000 Wl (xzE Xom) 40).pc Xut.f (Xut.xs.map .d) ob=some Xut.v:=by kernel_rfl
end Go.Proofs.YtolkimpelpnpbaaGreatDoor
namespace Go.Proofs.YtolkimpelpnpbaaGreatDoor
open Go Go.Ab Go.Py
theorem X2k (ob:Xa):(fns 3000 Wl (xzE Xon) 40).pc Xuu.f (Xuu.xs.map .d) ob=some Xuu.v:=by kernel_rfl
end Go.Proofs.YtolkimpelpnpbaaGreatDoor
namespace Go.Proofs.YtolkimpelpnpbaaGreatDoor
open Go Go.Ab Go.Py
theorem X2l (ob:Xa):(fns 3000 Wl (xzE Xoo) 40).pc Xuv.f (Xuv.xs.map .d) ob=some Xuv.v:=by kernel_rfl
end Go.Proofs.YtolkimpelpnpbaaGreatDoor
namespace Go.Proofs.YtolkimpelpnpbaaGreatDoor
open Go Go.Ab Go.Py
theorem X2m (ob:Xa):(fns 3000 Wl (xzE Xop) 40).pc Xuw.f (Xuw.xs.map .d) ob=some Xuw.v:=by kernel_rfl
end Go.Proofs.YtolkimpelpnpbaaGreatDoor
namespace Go.Proofs.YtolkimpelpnpbaaGreatDoor
open Go Go.Ab Go.Py
theorem X2n (ob:Xa):(fns 3000 Wl (xzE Xoq) 40).pc Xux.f (Xux.xs.map .d) ob=some Xux.v:=by kernel_rfl
end Go.Proofs.YtolkimpelpnpbaaGreatDoor
