/- SchemasBack, the second form: what the card asks of the program. Condition: none. -/
import Derived.Test.YtfedhegpmfkfoaaGreatDoorH15
import Derived.Test.YtfedhegpmfkfoaaGreatDoorCards
import Derived.Test.YtfedhegpmfkfoaaGreatDoorTie
import Derived.Deep.DeepHandedRow
set_option maxRecDepth 100000
namespace Go.Proofs.YtfedhegpmfkfoaaGreatDoor
open Go Go.Ab Go.ChangeShapes Go.WideShapes Go.RowKit Go.ChangeMaps
theorem Jz:false=Rows.schemasBackUptoRow.goesBy Tryz.pinned.checked.prog:=by kernel_rfl
end Go.Proofs.YtfedhegpmfkfoaaGreatDoor
