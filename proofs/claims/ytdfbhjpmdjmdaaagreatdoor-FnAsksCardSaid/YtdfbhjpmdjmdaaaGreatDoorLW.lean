/- The law, of all bytes. Of no condition. -/
import Derived.Test.YtdfbhjpmdjmdaaaGreatDoorDG
namespace Go.Proofs.YtdfbhjpmdjmdaaaGreatDoor
open Go.TV
theorem RzB (x1:List Int) (g1:nz8 (.sl (.int .u8)) x1):xzT (x1,())=some ((true,()),()):=RzC x1
end Go.Proofs.YtdfbhjpmdjmdaaaGreatDoor
