/- Texts of this claim joined by a program, part 11 of 15; the last is: Block 1 of the example's source, absorbed: computed by the kernel. No condition. -/
import Derived.Test.YtmapdjjigmkbfaaGreatDoorV9
set_option linter.unusedSimpArgs false
set_option linter.unusedVariables false
set_option linter.unusedSectionVars false
set_option linter.defProp false
/- Block 1 of the example's source, absorbed: computed by the kernel. No condition. -/
namespace Go.Proofs.YtmapdjjigmkbfaaGreatDoor
open Go Go.Ab Go.Lx
set_option maxRecDepth 100000
theorem Yn9 : (fns 3000 Xre xh 20).call 110 [.ptr 1 [],.bs 2 [] 0 64] bo1 = some (.ret (.tup []),bp1) := by kernel_rfl
end Go.Proofs.YtmapdjjigmkbfaaGreatDoor
