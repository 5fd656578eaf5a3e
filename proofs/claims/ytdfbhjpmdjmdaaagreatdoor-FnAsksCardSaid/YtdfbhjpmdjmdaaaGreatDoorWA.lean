/- What the laws' helpers come to: texts of marks; lists of texts, of numbers, of points, of pairs, of accounts. Of no condition. -/
import Derived.Test.YtdfbhjpmdjmdaaaGreatDoorAb
set_option linter.unusedVariables false
set_option linter.unusedSimpArgs false
set_option maxRecDepth 100000
namespace Go.Proofs.YtdfbhjpmdjmdaaaGreatDoor
open Go.TV
end Go.Proofs.YtdfbhjpmdjmdaaaGreatDoor
