/- Checksums; numbers and texts read. Of no condition. -/
import Derived.Test.YthldgfkkgmpmlaaGreatDoorSA
set_option linter.unusedVariables false
set_option linter.unusedSimpArgs false
set_option maxRecDepth 100000
namespace Go.Proofs.YthldgfkkgmpmlaaGreatDoor
open Go.TV
end Go.Proofs.YthldgfkkgmpmlaaGreatDoor
