/- SchemasBack: what the form asks of the program. Condition: none. -/
import Derived.Test.YtfedhegpmfkfoaaGreatDoorH15
import Derived.Test.YtfedhegpmfkfoaaGreatDoorCards
import Derived.Test.YtfedhegpmfkfoaaGreatDoorTie
import Derived.Deep.DeepHandedRow
set_option maxRecDepth 100000
namespace Go.Proofs.YtfedhegpmfkfoaaGreatDoor
open Go Go.Ab Go.ChangeShapes Go.WideShapes Go.RowKit Go.ChangeMaps
theorem Yh5 {a b:Bool}(h:a=true)(h':b=true):(a&&b)=true:=by rw[h,h'];rfl
set_option maxHeartbeats 20000000 in
theorem Zo5:joinedFacts Tryz.pinned.checked.prog 4 Tryz.f4 (Rows.OpenSpec.upto Rows.schemasBackSpec).bare Rows.schemasBackUptoRow=true:=by
 unfold joinedFacts
 repeat' with_reducible refine Yh5 ?_ ?_
 all_goals (as_aux_lemma=>kernel_rfl)
end Go.Proofs.YtfedhegpmfkfoaaGreatDoor
