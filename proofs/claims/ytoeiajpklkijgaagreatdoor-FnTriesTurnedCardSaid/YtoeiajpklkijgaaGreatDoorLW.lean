/- The law, of all bytes. Of no condition. -/
import Derived.Test.YtoeiajpklkijgaaGreatDoorDF
namespace Go.Proofs.YtoeiajpklkijgaaGreatDoor
open Go.TV
theorem law_FnTriesTurned (x1:List Int) (g1:GoodV (.sl (.int .u8)) x1):wFnTriesTurned_d (x1,())=some ((true,()),()):=wFnTriesTurned_l x1
end Go.Proofs.YtoeiajpklkijgaaGreatDoor
