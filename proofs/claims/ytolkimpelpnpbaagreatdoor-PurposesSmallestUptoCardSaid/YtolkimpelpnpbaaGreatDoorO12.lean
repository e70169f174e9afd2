/- Texts of this claim joined by a program, part 12 of 20; the last is: One call of the purposes' examples, computed by the kernel. No condition. -/
import Derived.Test.YtolkimpelpnpbaaGreatDoorO10
import Derived.Test.YtolkimpelpnpbaaGreatDoorO11
import Derived.KernelRfl
set_option maxRecDepth 100000
set_option linter.unusedSimpArgs false
set_option linter.unusedVariables false
set_option linter.unusedSectionVars false
set_option linter.defProp false
namespace Go.Proofs.YtolkimpelpnpbaaGreatDoor
open Go Go.Ab Go.Py
theorem Yac (ob:Xb):(fns 3000 Wp (xzE X3r) 40).pc Yhg.f (Yhg.xs.map .d) ob=some Yhg.v:=by kernel_rfl
end Go.Proofs.YtolkimpelpnpbaaGreatDoor
namespace Go.Proofs.YtolkimpelpnpbaaGreatDoor
open Go Go.Ab Go.Py
theorem Yad (ob:Xb):(fns 3000 Wp (xzE X3t) 40).pc Yhh.f (Yhh.xs.map .d) ob=some Yhh.v:=by kernel_rfl
end Go.Proofs.YtolkimpelpnpbaaGreatDoor
namespace Go.Proofs.YtolkimpelpnpbaaGreatDoor
open Go Go.Ab Go.Py
theorem Yae (ob:Xb):(fns 3000 Wp (xzE X3v) 40).pc Yhi.f (Yhi.xs.map .d) ob=some Yhi.v:=by kernel_rfl
end Go.Proofs.YtolkimpelpnpbaaGreatDoor
namespace Go.Proofs.YtolkimpelpnpbaaGreatDoor
open Go Go.Ab Go.Py
theorem Yaf (ob:Xb):(fns 3000 Wp (xzE X3x) 40).pc Yhj.f (Yhj.xs.map .d) ob=some Yhj.v:=by kernel_rfl
end Go.Proofs.YtolkimpelpnpbaaGreatDoor
namespace Go.Proofs.YtolkimpelpnpbaaGreatDoor
open Go Go.Ab Go.Py
theorem Yag (ob:Xb):(fns 3000 Wp (xzE X3z) 40).pc Yhk.f (Yhk.xs.map .d) ob=some Yhk.v:=by kernel_rfl
end Go.Proofs.YtolkimpelpnpbaaGreatDoor
namespace Go.Proofs.YtolkimpelpnpbaaGreatDoor
open Go Go.Ab Go.Py
theorem X2u (ob:Xb):(fns 3000 Wp (xzE Xo9) 40).pc Xvl.f (Xvl.xs.map .d) ob=some Xvl.v:=by kernel_rfl
end Go.Proofs.YtolkimpelpnpbaaGreatDoor
namespace Go.Proofs.YtolkimpelpnpbaaGreatDoor
open Go Go.Ab Go.Py
theorem X2v (ob:Xb):(fns 3000 Wp (xzE Xpa) 40).pc Xvm.f (Xvm.xs.map .d) ob=some Xvm.v:=by kernel_rfl
end Go.Proofs.YtolkimpelpnpbaaGreatDoor
namespace Go.Proofs.YtolkimpelpnpbaaGreatDoor
open Go Go.Ab Go.Py
theorem X2w (ob:Xb):(fns 3000 Wp (xzE Xpb) 40).pc Xvn.f (Xvn.xs.map .d) ob=some Xvn.v:=by kernel_rfl
end Go.Proofs.YtolkimpelpnpbaaGreatDoor
namespace Go.Proofs.YtolkimpelpnpbaaGreatDoor
open Go Go.Ab Go.Py
theorem X2x (ob:Xb):(fns 3000 Wp (xzE Xpc) 40).pc Xvo.f (Xvo.xs.map .d) ob=some Xvo.v:=by kernel_rfl
end Go.Proofs.YtolkimpelpnpbaaGreatDoor
namespace Go.Proofs.YtolkimpelpnpbaaGreatDoor
open Go Go.Ab Go.Py
theorem X2y (ob:Xb):(fns 3000 Wp (xzE Xpd) 40).pc Xvp.f (Xvp.xs.map .d) ob=some Xvp.v:=by kernel_rfl
end Go.Proofs.YtolkimpelpnpbaaGreatDoor
namespace Go.Proofs.YtolkimpelpnpbaaGreatDoor
open Go Go.Ab Go.Py
theorem X2z (ob:Xb):(fns 3000 Wp (xzE Xpe) 40).pc Xvq.f (Xvq.xs.map .d) ob=some Xvq.v:=by kernel_rfl
end Go.Proofs.YtolkimpelpnpbaaGreatDoor
namespace Go.Proofs.YtolkimpelpnpbaaGreatDoor
open Go Go.Ab Go.Py
theorem X20 (ob:Xb):(fns 3000 Wp (xzE Xpf) 40).pc Xvr.f (Xvr.xs.map .d) ob=some Xvr.v:=by kernel_rfl
end Go.Proofs.YtolkimpelpnpbaaGreatDoor
namespace Go.Proofs.YtolkimpelpnpbaaGreatDoor
open Go Go.Ab Go.Py
theorem X21 (ob:Xb):(fns 3000 Wp (xzE Xpg) 40).pc Xvs.f (Xvs.xs.map .d) ob=some Xvs.v:=by kernel_rfl
end Go.Proofs.YtolkimpelpnpbaaGreatDoor
namespace Go.Proofs.YtolkimpelpnpbaaGreatDoor
open Go Go.Ab Go.Py
theorem X22 (ob:Xb):(fns 3000 Wp (xzE Xph) 40).pc Xvt.f (Xvt.xs.map .d) ob=some Xvt.v:=by kernel_rfl
end Go.Proofs.YtolkimpelpnpbaaGreatDoor
