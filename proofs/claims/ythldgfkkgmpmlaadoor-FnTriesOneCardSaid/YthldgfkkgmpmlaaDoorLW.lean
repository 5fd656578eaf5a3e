/- The law, of all bytes. Of no condition. -/
import Derived.Test.YthldgfkkgmpmlaaDoorDB
namespace Go.Proofs.YthldgfkkgmpmlaaDoor
open Go.TV
theorem law_FnTriesOne (x1:List Int) (g1:GoodV (.sl (.int .u8)) x1):wFnTriesOne_d (x1,())=some ((true,()),()):=wFnTriesOne_l x1
end Go.Proofs.YthldgfkkgmpmlaaDoor
