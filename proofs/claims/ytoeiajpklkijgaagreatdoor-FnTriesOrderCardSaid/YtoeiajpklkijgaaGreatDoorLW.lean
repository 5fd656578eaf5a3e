/- The law, of all bytes. Of no condition. -/
import Derived.Test.YtoeiajpklkijgaaGreatDoorDC
namespace Go.Proofs.YtoeiajpklkijgaaGreatDoor
open Go.TV
theorem law_FnTriesOrder (x1:List Int) (g1:GoodV (.sl (.int .u8)) x1):wFnTriesOrder_d (x1,())=some ((true,()),()):=wFnTriesOrder_l x1
end Go.Proofs.YtoeiajpklkijgaaGreatDoor
