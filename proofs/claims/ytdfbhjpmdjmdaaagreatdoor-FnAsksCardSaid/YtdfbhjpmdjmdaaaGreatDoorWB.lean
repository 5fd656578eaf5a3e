/- What is measured, copied, compared, marked and held: printed by program. Of no condition. -/
import Derived.Test.YtdfbhjpmdjmdaaaGreatDoorWA
set_option linter.unusedVariables false
set_option linter.unusedSimpArgs false
set_option maxRecDepth 100000
namespace Go.Proofs.YtdfbhjpmdjmdaaaGreatDoor
open Go.TV
end Go.Proofs.YtdfbhjpmdjmdaaaGreatDoor
