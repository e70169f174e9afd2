/- Texts of this claim joined by a program, part 11 of 16; the last is: The hash of the tag, computed by the kernel. No condition. -/
import Derived.Test.YtmapdjjigmkbfaaGreatDoorB10
set_option linter.unusedSimpArgs false
set_option linter.unusedVariables false
set_option linter.unusedSectionVars false
set_option linter.defProp false
/- The hash of the tag, computed by the kernel. No condition. -/
namespace Go.Proofs.YtmapdjjigmkbfaaGreatDoor
open Go Go.Ab Go.Lx
set_option maxRecDepth 100000
theorem X1x (ob : Objs) : (fns 3000 Xs6 xh 40).pc 58 [.d (.list 1 [.list 1 (bytesD Yp4)])] ob = some (.d Yp2) := by kernel_rfl
end Go.Proofs.YtmapdjjigmkbfaaGreatDoor
