/- Texts read, journals; what is shown of a bridge. Of no condition. -/
import Derived.Test.YthldgfkkgmpmlaaGreatDoorJA
set_option linter.unusedVariables false
set_option linter.unusedSimpArgs false
set_option maxRecDepth 100000
namespace Go.Proofs.YthldgfkkgmpmlaaGreatDoor
open Go.TV
theorem izF (s:ByteArray) (i j:Nat) (h:i≤j) (hj:j≤s.size):(ssub s (i:Int) (j:Int)).size=j-i:=by
 unfold ssub
 rw[ByteArray.size_extract,Int.toNat_natCast,Int.toNat_natCast];omega
theorem EzD (a b c:ByteArray):scat (scat a b) c=scat a (scat b c):=by
 apply yzX
 simp [scat,ByteArray.data_append]
theorem uzQ (s:ByteArray) (i j:Nat):(ssub s (i:Int) (j:Int)).data.toList=(s.data.toList.drop i).take (j-i):=by
 unfold ssub
 rw[Int.toNat_natCast,Int.toNat_natCast,ByteArray.data_extract,Array.toList_extract]
end Go.Proofs.YthldgfkkgmpmlaaGreatDoor
