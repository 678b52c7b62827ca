/-
The row and the tied card of AggDerives. No conditions.
-/
import Derived.Test.YtjfdoohogiojcaaGreatDoorKo
import Derived.Test.YtjfdoohogiojcaaGreatDoorCards
import Derived.Test.YtjfdoohogiojcaaGreatDoorTie
import Derived.SevenTiedAt
set_option linter.unusedSimpArgs false
set_option linter.unusedVariables false
set_option linter.unusedSectionVars false
set_option maxHeartbeats 8000000
namespace Go.Proofs.YtjfdoohogiojcaaGreatDoor
open Go.ChangeShapes Go.WideShapes Go.ChangeAt Go.RowKit
theorem tB:joinedFacts Tryz.pinned.checked.prog 3 Tryz.f3 Rows.aggDerivesSpec Rows.aggDerivesRow=true:=Zz
end Go.Proofs.YtjfdoohogiojcaaGreatDoor
