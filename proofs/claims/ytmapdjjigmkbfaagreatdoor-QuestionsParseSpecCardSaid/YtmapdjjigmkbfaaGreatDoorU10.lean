/- Texts of this claim joined by a program, part 10 of 15; the last is: The hash of the tag, computed by the kernel. No condition. -/
import Derived.Test.YtmapdjjigmkbfaaGreatDoorU9
set_option maxRecDepth 100000
set_option linter.unusedSimpArgs false
set_option linter.unusedVariables false
set_option linter.unusedSectionVars false
set_option linter.defProp false
namespace Go.Proofs.YtmapdjjigmkbfaaGreatDoor
open Go Go.Ab Go.Lx
theorem X4e (ob:Objs):(fns 3000 Xuy xh 40).pc 58 [.d (.list 1 [.list 1 (bytesD Yxz)])] ob=some (.d Yxx):=by kernel_rfl
end Go.Proofs.YtmapdjjigmkbfaaGreatDoor
