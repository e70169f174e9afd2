/- Texts of this claim joined by a program, part 12 of 16; the last is: One call of the purposes' examples, computed by the kernel. No condition. -/
import Derived.Test.YtolkimpelpnpbaaGreatDoorQ10
import Derived.Test.YtolkimpelpnpbaaGreatDoorQ11
import Derived.KernelRfl
set_option maxRecDepth 100000
set_option linter.unusedSimpArgs false
set_option linter.unusedVariables false
set_option linter.unusedSectionVars false
set_option linter.defProp false
namespace Go.Proofs.YtolkimpelpnpbaaGreatDoor
open Go Go.Ab Go.Py
theorem X2z (ob:Xa):(fns 3000 Vs (xzE Xxh) 40).pc X9y.f (X9y.xs.map .d) ob=some X9y.v:=by kernel_rfl
end Go.Proofs.YtolkimpelpnpbaaGreatDoor
namespace Go.Proofs.YtolkimpelpnpbaaGreatDoor
open Go Go.Ab Go.Py
theorem X20 (ob:Xa):(fns 3000 Vs (xzE Xxj) 40).pc X9z.f (X9z.xs.map .d) ob=some X9z.v:=by kernel_rfl
end Go.Proofs.YtolkimpelpnpbaaGreatDoor
namespace Go.Proofs.YtolkimpelpnpbaaGreatDoor
open Go Go.Ab Go.Py
theorem X21 (ob:Xa):(fns 3000 Vs (xzE Xxl) 40).pc X90.f (X90.xs.map .d) ob=some X90.v:=by kernel_rfl
end Go.Proofs.YtolkimpelpnpbaaGreatDoor
namespace Go.Proofs.YtolkimpelpnpbaaGreatDoor
open Go Go.Ab Go.Py
theorem X22 (ob:Xa):(fns 3000 Vs (xzE Xxn) 40).pc X91.f (X91.xs.map .d) ob=some X91.v:=by kernel_rfl
end Go.Proofs.YtolkimpelpnpbaaGreatDoor
namespace Go.Proofs.YtolkimpelpnpbaaGreatDoor
open Go Go.Ab Go.Py
theorem X23 (ob:Xa):(fns 3000 Vs (xzE Xxp) 40).pc X92.f (X92.xs.map .d) ob=some X92.v:=by kernel_rfl
end Go.Proofs.YtolkimpelpnpbaaGreatDoor
namespace Go.Proofs.YtolkimpelpnpbaaGreatDoor
open Go Go.Ab Go.Py
theorem Xwv (ob:Xa):(fns 3000 Vs (xzE Xlg) 40).pc Xqz.f (Xqz.xs.map .d) ob=some Xqz.v:=by kernel_rfl
end Go.Proofs.YtolkimpelpnpbaaGreatDoor
namespace Go.Proofs.YtolkimpelpnpbaaGreatDoor
open Go Go.Ab Go.Py
theorem Xww (ob:Xa):(fns 3000 Vs (xzE Xlh) 40).pc Xq0.f (Xq0.xs.map .d) ob=some Xq0.v:=by kernel_rfl
end Go.Proofs.YtolkimpelpnpbaaGreatDoor
namespace Go.Proofs.YtolkimpelpnpbaaGreatDoor
open Go Go.Ab Go.Py
theorem Xwx (ob:Xa):(fns 3000 Vs (xzE Xli) 40).pc Xq1.f (Xq1.xs.map .d) ob=some Xq1.v:=by kernel_rfl
end Go.Proofs.YtolkimpelpnpbaaGreatDoor
namespace Go.Proofs.YtolkimpelpnpbaaGreatDoor
open Go Go.Ab Go.Py
theorem Xwy (ob:Xa):(fns 3000 Vs (xzE Xlj) 40).pc Xq2.f (Xq2.xs.map .d) ob=some Xq2.v:=by kernel_rfl
end Go.Proofs.YtolkimpelpnpbaaGreatDoor
namespace Go.Proofs.YtolkimpelpnpbaaGreatDoor
open Go Go.Ab Go.Py
theorem Xwz (ob:Xa):(fns 3000 Vs (xzE Xlk) 40).pc Xq3.f (Xq3.xs.map .d) ob=some Xq3.v:=by kernel_rfl
end Go.Proofs.YtolkimpelpnpbaaGreatDoor
namespace Go.Proofs.YtolkimpelpnpbaaGreatDoor
open Go Go.Ab Go.Py
theorem Xw0 (ob:Xa):(fns 3000 Vs (xzE Xll) 40).pc Xq4.f (Xq4.xs.map .d) ob=some Xq4.v:=by kernel_rfl
end Go.Proofs.YtolkimpelpnpbaaGreatDoor
namespace Go.Proofs.YtolkimpelpnpbaaGreatDoor
open Go Go.Ab Go.Py
theorem Xw1 (ob:Xa):(fns 3000 Vs (xzE Xlm) 40).pc Xq5.f (Xq5.xs.map .d) ob=some Xq5.v:=by kernel_rfl
end Go.Proofs.YtolkimpelpnpbaaGreatDoor
namespace Go.Proofs.YtolkimpelpnpbaaGreatDoor
open Go Go.Ab Go.Py
theorem Xw2 (ob:Xa):(fns 3000 Vs (xzE Xln) 40).pc Xq6.f (Xq6.xs.map .d) ob=some Xq6.v:=by kernel_rfl
end Go.Proofs.YtolkimpelpnpbaaGreatDoor
namespace Go.Proofs.YtolkimpelpnpbaaGreatDoor
open Go Go.Ab Go.Py
theorem Xw3 (ob:Xa):(fns 3000 Vs (xzE Xlo) 40).pc Xq7.f (Xq7.xs.map .d) ob=some Xq7.v:=by kernel_rfl
end Go.Proofs.YtolkimpelpnpbaaGreatDoor
