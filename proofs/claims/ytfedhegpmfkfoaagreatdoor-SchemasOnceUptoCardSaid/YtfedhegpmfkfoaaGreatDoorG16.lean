/- Joined texts, part 16 of 19. SchemasOnce: what the form asks of the program. Condition: none. -/
import Derived.Test.YtfedhegpmfkfoaaGreatDoorG8
import Derived.Test.YtfedhegpmfkfoaaGreatDoorG15
import Derived.Test.YtfedhegpmfkfoaaGreatDoorCards
import Derived.Test.YtfedhegpmfkfoaaGreatDoorTie
import Derived.SevenTiedAt
import Derived.Deep.DeepHandedRow
set_option maxRecDepth 100000
set_option linter.unusedSimpArgs false
set_option linter.unusedVariables false
namespace Go.Proofs.YtfedhegpmfkfoaaGreatDoor
open Go Go.Ab Go.ChangeShapes Go.WideShapes Go.RowKit Go.ChangeMaps
theorem Yh5 {a b:Bool}(h:a=true)(h':b=true):(a&&b)=true:=by rw[h,h'];rfl
set_option maxHeartbeats 20000000 in
theorem Xcm:joinedFacts Tryz.pinned.checked.prog 3 Tryz.f3 (Rows.OpenSpec.upto Rows.schemasOnceSpec).bare Rows.schemasOnceUptoRow=true:=by
 unfold joinedFacts
 repeat' with_reducible refine Yh5 ?_ ?_
 all_goals (as_aux_lemma=>kernel_rfl)
end Go.Proofs.YtfedhegpmfkfoaaGreatDoor
