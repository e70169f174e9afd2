/- Texts of this claim joined by a program, part 12 of 16; the last is: One call of the purposes' examples, computed by the kernel. No condition. -/
import Derived.Test.YtolkimpelpnpbaaGreatDoorR10
import Derived.Test.YtolkimpelpnpbaaGreatDoorR11
import Derived.KernelRfl
set_option maxRecDepth 100000
set_option linter.unusedSimpArgs false
set_option linter.unusedVariables false
set_option linter.unusedSectionVars false
set_option linter.defProp false
namespace Go.Proofs.YtolkimpelpnpbaaGreatDoor
open Go Go.Ab Go.Py
theorem X6k (ob:Xb):(fns 3000 Wf (xzE X0u) 40).pc Ydl.f (Ydl.xs.map .d) ob=some Ydl.v:=by kernel_rfl
end Go.Proofs.YtolkimpelpnpbaaGreatDoor
namespace Go.Proofs.YtolkimpelpnpbaaGreatDoor
open Go Go.Ab Go.Py
theorem X6l (ob:Xb):(fns 3000 Wf (xzE X0w) 40).pc Ydm.f (Ydm.xs.map .d) ob=some Ydm.v:=by kernel_rfl
end Go.Proofs.YtolkimpelpnpbaaGreatDoor
namespace Go.Proofs.YtolkimpelpnpbaaGreatDoor
open Go Go.Ab Go.Py
theorem X6m (ob:Xb):(fns 3000 Wf (xzE X0y) 40).pc Ydn.f (Ydn.xs.map .d) ob=some Ydn.v:=by kernel_rfl
end Go.Proofs.YtolkimpelpnpbaaGreatDoor
namespace Go.Proofs.YtolkimpelpnpbaaGreatDoor
open Go Go.Ab Go.Py
theorem X6n (ob:Xb):(fns 3000 Wf (xzE X00) 40).pc Ydo.f (Ydo.xs.map .d) ob=some Ydo.v:=by kernel_rfl
end Go.Proofs.YtolkimpelpnpbaaGreatDoor
namespace Go.Proofs.YtolkimpelpnpbaaGreatDoor
open Go Go.Ab Go.Py
theorem X6o (ob:Xb):(fns 3000 Wf (xzE X02) 40).pc Ydp.f (Ydp.xs.map .d) ob=some Ydp.v:=by kernel_rfl
end Go.Proofs.YtolkimpelpnpbaaGreatDoor
namespace Go.Proofs.YtolkimpelpnpbaaGreatDoor
open Go Go.Ab Go.Py
theorem Xzx (ob:Xb):(fns 3000 Wf (xzE Xm3) 40).pc Xs6.f (Xs6.xs.map .d) ob=some Xs6.v:=by kernel_rfl
end Go.Proofs.YtolkimpelpnpbaaGreatDoor
namespace Go.Proofs.YtolkimpelpnpbaaGreatDoor
open Go Go.Ab Go.Py
theorem Xzy (ob:Xb):(fns 3000 Wf (xzE Xm4) 40).pc Xs7.f (Xs7.xs.map .d) ob=some Xs7.v:=by kernel_rfl
end Go.Proofs.YtolkimpelpnpbaaGreatDoor
namespace Go.Proofs.YtolkimpelpnpbaaGreatDoor
open Go Go.Ab Go.Py
theorem Xzz (ob:Xb):(fns 3000 Wf (xzE Xm5) 40).pc Xs8.f (Xs8.xs.map .d) ob=some Xs8.v:=by kernel_rfl
end Go.Proofs.YtolkimpelpnpbaaGreatDoor
namespace Go.Proofs.YtolkimpelpnpbaaGreatDoor
open Go Go.Ab Go.Py
theorem Xz0 (ob:Xb):(fns 3000 Wf (xzE Xm6) 40).pc Xs9.f (Xs9.xs.map .d) ob=some Xs9.v:=by kernel_rfl
end Go.Proofs.YtolkimpelpnpbaaGreatDoor
namespace Go.Proofs.YtolkimpelpnpbaaGreatDoor
open Go Go.Ab Go.Py
theorem Xz1 (ob:Xb):(fns 3000 Wf (xzE Xm7) 40).pc Xta.f (Xta.xs.map .d) ob=some Xta.v:=by kernel_rfl
end Go.Proofs.YtolkimpelpnpbaaGreatDoor
namespace Go.Proofs.YtolkimpelpnpbaaGreatDoor
open Go Go.Ab Go.Py
theorem Xz2 (ob:Xb):(fns 3000 Wf (xzE Xm8) 40).pc Xtb.f (Xtb.xs.map .d) ob=some Xtb.v:=by kernel_rfl
end Go.Proofs.YtolkimpelpnpbaaGreatDoor
namespace Go.Proofs.YtolkimpelpnpbaaGreatDoor
open Go Go.Ab Go.Py
theorem Xz3 (ob:Xb):(fns 3000 Wf (xzE Xm9) 40).pc Xtc.f (Xtc.xs.map .d) ob=some Xtc.v:=by kernel_rfl
end Go.Proofs.YtolkimpelpnpbaaGreatDoor
namespace Go.Proofs.YtolkimpelpnpbaaGreatDoor
open Go Go.Ab Go.Py
theorem Xz4 (ob:Xb):(fns 3000 Wf (xzE Xna) 40).pc Xtd.f (Xtd.xs.map .d) ob=some Xtd.v:=by kernel_rfl
end Go.Proofs.YtolkimpelpnpbaaGreatDoor
namespace Go.Proofs.YtolkimpelpnpbaaGreatDoor
open Go Go.Ab Go.Py
theorem Xz5 (ob:Xb):(fns 3000 Wf (xzE Xnb) 40).pc Xte.f (Xte.xs.map .d) ob=some Xte.v:=by kernel_rfl
end Go.Proofs.YtolkimpelpnpbaaGreatDoor
