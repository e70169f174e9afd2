/- Joined texts, part 18 of 19. SchemasOnce, the second form: what the card asks of the program. Condition: none. -/
import Derived.Test.YtfedhegpmfkfoaaGreatDoorG8
import Derived.Test.YtfedhegpmfkfoaaGreatDoorG15
import Derived.Test.YtfedhegpmfkfoaaGreatDoorCards
import Derived.Test.YtfedhegpmfkfoaaGreatDoorTie
import Derived.SevenTiedAt
import Derived.Deep.DeepHandedRow
set_option maxRecDepth 100000
set_option linter.unusedSimpArgs false
set_option linter.unusedVariables false
namespace Go.Proofs.YtfedhegpmfkfoaaGreatDoor
open Go Go.Ab Go.ChangeShapes Go.WideShapes Go.RowKit Go.ChangeMaps
theorem EJ:false=Rows.schemasOnceUptoRow.goesBy Tryz.pinned.checked.prog:=by kernel_rfl
end Go.Proofs.YtfedhegpmfkfoaaGreatDoor
