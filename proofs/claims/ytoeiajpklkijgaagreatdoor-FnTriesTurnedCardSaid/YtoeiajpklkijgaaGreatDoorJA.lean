/- Checksums; numbers and texts read. Of no condition. -/
import Derived.Test.YtoeiajpklkijgaaGreatDoorSA
set_option linter.unusedVariables false
set_option linter.unusedSimpArgs false
set_option maxRecDepth 100000
namespace Go.Proofs.YtoeiajpklkijgaaGreatDoor
open Go.TV
end Go.Proofs.YtoeiajpklkijgaaGreatDoor
