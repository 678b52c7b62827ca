/-
The row and the tied card of PlanRows. No conditions.
-/
import Derived.Test.YtgbiopfghdilnaaGreatDoorKq
set_option linter.all false
set_option maxHeartbeats 8000000
namespace Go.Proofs.YtgbiopfghdilnaaGreatDoor
open Go.ChangeShapes Go.WideShapes Go.ChangeAt Go.RowKit
theorem av:joinedFacts Tryz.pinned.checked.prog 6 Tryz.f6 Rows.planRowsSpec Rows.planRowsRow=true:=Zz
end Go.Proofs.YtgbiopfghdilnaaGreatDoor
