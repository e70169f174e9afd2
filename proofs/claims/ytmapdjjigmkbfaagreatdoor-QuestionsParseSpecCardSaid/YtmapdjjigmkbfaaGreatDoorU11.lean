/- Texts of this claim joined by a program, part 11 of 15; the last is: Block 1 of the example's source, absorbed: computed by the kernel. No condition. -/
import Derived.Test.YtmapdjjigmkbfaaGreatDoorU9
set_option maxRecDepth 100000
set_option linter.unusedSimpArgs false
set_option linter.unusedVariables false
set_option linter.unusedSectionVars false
set_option linter.defProp false
namespace Go.Proofs.YtmapdjjigmkbfaaGreatDoor
open Go Go.Ab Go.Lx
theorem Yzr:(fns 3000 Xuy xh 20).call 110 [.ptr 1 [],.bs 2 [] 0 64] bo1=some (.ret (.tup []),bp1):=by kernel_rfl
end Go.Proofs.YtmapdjjigmkbfaaGreatDoor
