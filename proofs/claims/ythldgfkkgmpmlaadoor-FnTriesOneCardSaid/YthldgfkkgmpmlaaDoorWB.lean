/- What is measured, copied, compared, marked and held: printed by program. Of no condition. -/
import Derived.Test.YthldgfkkgmpmlaaDoorWA
set_option linter.unusedVariables false
set_option linter.unusedSimpArgs false
set_option maxRecDepth 100000
namespace Go.Proofs.YthldgfkkgmpmlaaDoor
open Go.TV
end Go.Proofs.YthldgfkkgmpmlaaDoor
