/-
Antichains joined,and what paths make of a time. Plain laws. No conditions.
-/
import Derived.Test.YthikfnmcjipobaaGreatKl
namespace Go.Proofs.YthikfnmcjipobaaGreat
set_option linter.unusedSimpArgs false
set_option linter.unusedVariables false
set_option linter.unusedSectionVars false
end Go.Proofs.YthikfnmcjipobaaGreat
