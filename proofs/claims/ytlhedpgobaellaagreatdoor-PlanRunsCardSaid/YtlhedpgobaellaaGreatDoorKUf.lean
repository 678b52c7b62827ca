/-
The row and the tied card of PlanRuns. No conditions.
-/
import Derived.Test.YtlhedpgobaellaaGreatDoorKLaw
import Derived.Test.YtlhedpgobaellaaGreatDoorCards
import Derived.Test.YtlhedpgobaellaaGreatDoorTie
import Derived.SevenTiedAt
set_option linter.all false
set_option maxHeartbeats 8000000
namespace Go.Proofs.YtlhedpgobaellaaGreatDoor
open Go.ChangeShapes Go.WideShapes Go.ChangeAt Go.RowKit
theorem aj:joinedFacts Tryz.pinned.checked.prog 6 Tryz.f6 Rows.planRunsSpec Rows.planRunsRow=true:=Zz
end Go.Proofs.YtlhedpgobaellaaGreatDoor
