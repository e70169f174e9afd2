/- Texts of this claim joined by a program, part 19 of 20; the last is: PurposesChangeSpec, the second form: what the card asks of the program. Condition: none. -/
import Derived.Test.YtolkimpelpnpbaaGreatDoorP8
import Derived.Test.YtolkimpelpnpbaaGreatDoorP16
import Derived.Test.YtolkimpelpnpbaaGreatDoorCards
import Derived.Test.YtolkimpelpnpbaaGreatDoorTie
import Derived.SevenTiedAt
import Derived.Deep.DeepHandedRow
set_option maxRecDepth 100000
set_option linter.unusedSimpArgs false
set_option linter.unusedVariables false
set_option linter.unusedSectionVars false
set_option linter.defProp false
namespace Go.Proofs.YtolkimpelpnpbaaGreatDoor
open Go Go.Ab Go.Lx Go.Sx Go.ChangeShapes Go.WideShapes Go.RowKit Go.ChangeMaps
theorem purposesChangeSpec_goes:false=Rows.purposesChangeSpecUptoRow.goesBy Tryz.pinned.checked.prog:=by kernel_rfl
end Go.Proofs.YtolkimpelpnpbaaGreatDoor
