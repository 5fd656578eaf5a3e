/- What is measured, copied, compared, marked and held: printed by program. Of no condition. -/
import Derived.Test.YtoeiajpklkijgaaGreatDoorWA
set_option linter.unusedVariables false
set_option linter.unusedSimpArgs false
set_option maxRecDepth 100000
namespace Go.Proofs.YtoeiajpklkijgaaGreatDoor
open Go.TV
end Go.Proofs.YtoeiajpklkijgaaGreatDoor
