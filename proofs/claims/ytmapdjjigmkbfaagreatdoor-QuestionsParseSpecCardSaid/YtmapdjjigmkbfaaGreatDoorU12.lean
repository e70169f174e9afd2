/- Texts of this claim joined by a program, part 12 of 15; the last is: Block 2 of the example's source, absorbed: computed by the kernel. No condition. -/
import Derived.Test.YtmapdjjigmkbfaaGreatDoorU9
set_option maxRecDepth 100000
set_option linter.unusedSimpArgs false
set_option linter.unusedVariables false
set_option linter.unusedSectionVars false
set_option linter.defProp false
namespace Go.Proofs.YtmapdjjigmkbfaaGreatDoor
open Go Go.Ab Go.Lx
theorem Yzs:(fns 3000 Xuy xh 20).call 110 [.ptr 1 [],.bs 2 [] 0 64] bo2=some (.ret (.tup []),bp2):=by kernel_rfl
end Go.Proofs.YtmapdjjigmkbfaaGreatDoor
