/- The law, of all bytes. Of no condition. -/
import Derived.Test.YtdfbhjpmdjmdaaaGreatDoorDE
namespace Go.Proofs.YtdfbhjpmdjmdaaaGreatDoor
open Go.TV
theorem yzU (x1:List Int) (g1:nz8 (.sl (.int .u8)) x1):izR (x1,())=some ((true,()),()):=BzD x1
end Go.Proofs.YtdfbhjpmdjmdaaaGreatDoor
