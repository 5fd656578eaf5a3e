/- Checksums; numbers and texts read. Of no condition. -/
import Derived.Test.YthldgfkkgmpmlaaDoorSA
set_option linter.unusedVariables false
set_option linter.unusedSimpArgs false
set_option maxRecDepth 100000
namespace Go.Proofs.YthldgfkkgmpmlaaDoor
open Go.TV
end Go.Proofs.YthldgfkkgmpmlaaDoor
