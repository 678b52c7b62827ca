/-
The row and the tied card of JoinMore. No conditions.
-/
import Derived.Test.YtlhedpgobaellaaGreatDoorKLaw
import Derived.Test.YtlhedpgobaellaaGreatDoorCards
import Derived.Test.YtlhedpgobaellaaGreatDoorTie
import Derived.SevenTiedAt
set_option linter.all false
set_option maxHeartbeats 8000000
namespace Go.Proofs.YtlhedpgobaellaaGreatDoor
open Go.ChangeShapes Go.WideShapes Go.ChangeAt Go.RowKit
theorem zF:joinedFacts Tryz.pinned.checked.prog 5 Tryz.f5 Rows.joinMoreSpec Rows.joinMoreRow=true:=Zz
end Go.Proofs.YtlhedpgobaellaaGreatDoor
