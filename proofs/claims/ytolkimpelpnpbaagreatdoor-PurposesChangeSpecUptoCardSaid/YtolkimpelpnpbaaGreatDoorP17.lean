/- Texts of this claim joined by a program, part 17 of 20; the last is: PurposesChangeSpec: what the form asks of the program. Condition: none. -/
import Derived.Test.YtolkimpelpnpbaaGreatDoorP8
import Derived.Test.YtolkimpelpnpbaaGreatDoorP16
import Derived.Test.YtolkimpelpnpbaaGreatDoorCards
import Derived.Test.YtolkimpelpnpbaaGreatDoorTie
import Derived.SevenTiedAt
import Derived.Deep.DeepHandedRow
set_option maxRecDepth 100000
set_option linter.unusedSimpArgs false
set_option linter.unusedVariables false
set_option linter.unusedSectionVars false
set_option linter.defProp false
namespace Go.Proofs.YtolkimpelpnpbaaGreatDoor
open Go Go.Ab Go.Lx Go.Sx Go.ChangeShapes Go.WideShapes Go.RowKit Go.ChangeMaps
theorem Yee {a b:Bool}(h:a=true)(h':b=true):(a&&b)=true:=by rw[h,h']; rfl
set_option maxHeartbeats 20000000 in
theorem V5:joinedFacts Tryz.pinned.checked.prog 4 Tryz.f4 (Rows.OpenSpec.upto Rows.purposesChangeSpecSpec).bare Rows.purposesChangeSpecUptoRow=true:=by
 unfold joinedFacts
 repeat' with_reducible refine Yee ?_ ?_
 all_goals (as_aux_lemma=>kernel_rfl)
end Go.Proofs.YtolkimpelpnpbaaGreatDoor
