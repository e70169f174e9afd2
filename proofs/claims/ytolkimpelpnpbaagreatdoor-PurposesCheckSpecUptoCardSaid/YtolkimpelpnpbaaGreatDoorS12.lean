/- Texts of this claim joined by a program, part 12 of 20; the last is: One call of the purposes' examples, computed by the kernel. No condition. -/
import Derived.Test.YtolkimpelpnpbaaGreatDoorS10
import Derived.Test.YtolkimpelpnpbaaGreatDoorS11
import Derived.KernelRfl
set_option maxRecDepth 100000
set_option linter.unusedSimpArgs false
set_option linter.unusedVariables false
set_option linter.unusedSectionVars false
set_option linter.defProp false
namespace Go.Proofs.YtolkimpelpnpbaaGreatDoor
open Go Go.Ab Go.Py
theorem X9d (ob:Xa):(fns 3000 Wl (xzE X25) 40).pc Ygm.f (Ygm.xs.map .d) ob=some Ygm.v:=by kernel_rfl
end Go.Proofs.YtolkimpelpnpbaaGreatDoor
namespace Go.Proofs.YtolkimpelpnpbaaGreatDoor
open Go Go.Ab Go.Py
theorem X9e (ob:Xa):(fns 3000 Wl (xzE X27) 40).pc Ygn.f (Ygn.xs.map .d) ob=some Ygn.v:=by kernel_rfl
end Go.Proofs.YtolkimpelpnpbaaGreatDoor
namespace Go.Proofs.YtolkimpelpnpbaaGreatDoor
open Go Go.Ab Go.Py
theorem X9f (ob:Xa):(fns 3000 Wl (xzE X29) 40).pc Ygo.f (Ygo.xs.map .d) ob=some Ygo.v:=by kernel_rfl
end Go.Proofs.YtolkimpelpnpbaaGreatDoor
namespace Go.Proofs.YtolkimpelpnpbaaGreatDoor
open Go Go.Ab Go.Py
theorem X9g (ob:Xa):(fns 3000 Wl (xzE X3b) 40).pc Ygp.f (Ygp.xs.map .d) ob=some Ygp.v:=by kernel_rfl
end Go.Proofs.YtolkimpelpnpbaaGreatDoor
namespace Go.Proofs.YtolkimpelpnpbaaGreatDoor
open Go Go.Ab Go.Py
theorem X9h (ob:Xa):(fns 3000 Wl (xzE X3d) 40).pc Ygq.f (Ygq.xs.map .d) ob=some Ygq.v:=by kernel_rfl
end Go.Proofs.YtolkimpelpnpbaaGreatDoor
namespace Go.Proofs.YtolkimpelpnpbaaGreatDoor
open Go Go.Ab Go.Py
theorem X18 (ob:Xa):(fns 3000 Wl (xzE Xob) 40).pc Xui.f (Xui.xs.map .d) ob=some Xui.v:=by kernel_rfl
end Go.Proofs.YtolkimpelpnpbaaGreatDoor
namespace Go.Proofs.YtolkimpelpnpbaaGreatDoor
open Go Go.Ab Go.Py
theorem X19 (ob:Xa):(fns 3000 Wl (xzE Xoc) 40).pc Xuj.f (Xuj.xs.map .d) ob=some Xuj.v:=by kernel_rfl
end Go.Proofs.YtolkimpelpnpbaaGreatDoor
namespace Go.Proofs.YtolkimpelpnpbaaGreatDoor
open Go Go.Ab Go.Py
theorem X2a (ob:Xa):(fns 3000 Wl (xzE Xod) 40).pc Xuk.f (Xuk.xs.map .d) ob=some Xuk.v:=by kernel_rfl
end Go.Proofs.YtolkimpelpnpbaaGreatDoor
namespace Go.Proofs.YtolkimpelpnpbaaGreatDoor
open Go Go.Ab Go.Py
theorem X2b (ob:Xa):(fns 3000 Wl (xzE Xoe) 40).pc Xul.f (Xul.xs.map .d) ob=some Xul.v:=by kernel_rfl
end Go.Proofs.YtolkimpelpnpbaaGreatDoor
namespace Go.Proofs.YtolkimpelpnpbaaGreatDoor
open Go Go.Ab Go.Py
theorem X2c (ob:Xa):(fns 3000 Wl (xzE Xof) 40).pc Xum.f (Xum.xs.map .d) ob=some Xum.v:=by kernel_rfl
end Go.Proofs.YtolkimpelpnpbaaGreatDoor
namespace Go.Proofs.YtolkimpelpnpbaaGreatDoor
open Go Go.Ab Go.Py
theorem X2d (ob:Xa):(fns 3000 Wl (xzE Xog) 40).pc Xun.f (Xun.xs.map .d) ob=some Xun.v:=by kernel_rfl
end Go.Proofs.YtolkimpelpnpbaaGreatDoor
namespace Go.Proofs.YtolkimpelpnpbaaGreatDoor
open Go Go.Ab Go.Py
theorem X2e (ob:Xa):(fns 3000 Wl (xzE Xoh) 40).pc Xuo.f (Xuo.xs.map .d) ob=some Xuo.v:=by kernel_rfl
end Go.Proofs.YtolkimpelpnpbaaGreatDoor
namespace Go.Proofs.YtolkimpelpnpbaaGreatDoor
open Go Go.Ab Go.Py
theorem X2f (ob:Xa):(fns 3000 Wl (xzE Xoi) 40).pc Xup.f (Xup.xs.map .d) ob=some Xup.v:=by kernel_rfl
end Go.Proofs.YtolkimpelpnpbaaGreatDoor
namespace Go.Proofs.YtolkimpelpnpbaaGreatDoor
open Go Go.Ab Go.Py
theorem X2g (ob:Xa):(fns 3000 Wl (xzE Xoj) 40).pc Xuq.f (Xuq.xs.map .d) ob=some Xuq.v:=by kernel_rfl
end Go.Proofs.YtolkimpelpnpbaaGreatDoor
