/- Bounds; heads. Of no condition. -/
import Derived.Test.YtoeiajpklkijgaaGreatDoorLA
set_option linter.unusedVariables false
set_option linter.unusedSimpArgs false
set_option maxRecDepth 100000
namespace Go.Proofs.YtoeiajpklkijgaaGreatDoor
open Go.TV
theorem sIn_l (m a b:Int):sL01In_d (m,(a,(b,())))=some ((decide (a≤m∧m≤b),()),()):=by
 rw[sL01In_b,ige_d,cnd_d,ile_d]
 by_cases h:a≤m<;>simp [h]
theorem iIsDigest_l (s:ByteArray):iIsDigest_d (s,())=some ((decide (s.size=32),()),()):=by
 rw[iIsDigest_b,ieq_d,ssz_d]
 have:((s.size:Int)=32)↔s.size=32:=by omega
 simp only[this]
end Go.Proofs.YtoeiajpklkijgaaGreatDoor
