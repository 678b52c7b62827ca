/-
The row and the tied card of PlanKeys. No conditions.
-/
import Derived.Test.YtgbiopfghdilnaaGreatDoorKq
import Derived.Test.YtgbiopfghdilnaaGreatDoorCards
import Derived.Test.YtgbiopfghdilnaaGreatDoorTie
import Derived.SevenTiedAt
set_option linter.unusedSimpArgs false
set_option linter.unusedVariables false
set_option linter.unusedSectionVars false
set_option maxHeartbeats 8000000
namespace Go.Proofs.YtgbiopfghdilnaaGreatDoor
open Go.ChangeShapes Go.WideShapes Go.ChangeAt Go.RowKit
theorem wA:joinedFacts Tryz.pinned.checked.prog 5 Tryz.f5 Rows.planKeysSpec Rows.planKeysRow=true:=Zz
end Go.Proofs.YtgbiopfghdilnaaGreatDoor
