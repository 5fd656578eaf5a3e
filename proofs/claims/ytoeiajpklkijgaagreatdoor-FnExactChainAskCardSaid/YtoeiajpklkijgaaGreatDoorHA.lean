/- Bounds; heads. Of no condition. -/
import Derived.Test.YtoeiajpklkijgaaGreatDoorLB
set_option linter.unusedVariables false
set_option linter.unusedSimpArgs false
set_option maxRecDepth 100000
namespace Go.Proofs.YtoeiajpklkijgaaGreatDoor
open Go.TV
theorem sIn_l (m a b:Int):sL01In_d (m,(a,(b,())))=some ((decide (a≤m∧m≤b),()),()):=by
 rw[sL01In_b,ige_d,cnd_d,ile_d]
 by_cases h:a≤m<;>simp [h]
theorem iIsDigest_l (s:ByteArray):iIsDigest_d (s,())=some ((decide (s.size=32),()),()):=by
 rw[iIsDigest_b,ieq_d,ssz_d]
 have:((s.size:Int)=32)↔s.size=32:=by omega
 simp only[this]
def headOk (h:tHead):Bool:=decide (0≤h.1∧h.1≤10000)&&(decide (h.2.1.size=32)&&(decide (h.2.2.1.size=32)&&decide (h.2.2.2.1.size=32)))
theorem iHeadOk_l (h:tHead):iHeadOk_d (h,())=some ((headOk h,()),()):=by
 rw[iHeadOk_b,iIsSlot_l,bnd_s,iIsDigest_l,bnd_s,iIsDigest_l,bnd_s,iIsDigest_l,bnd_s]
 unfold headOk
 cases decide (0≤h.1∧h.1≤10000)<;>cases decide (h.2.1.size=32)<;>cases decide (h.2.2.1.size=32)<;>rfl
theorem sHeadOk_l (h:tHead):sHeadOk_d (h,())=some ((headOk h,()),()):=by
 rw[sHeadOk_b,sIn_l,bnd_s]
 simp only[ieq_d,ssz_d]
 have e1:((h.2.1.size:Int)=32)↔h.2.1.size=32:=by omega
 have e2:((h.2.2.1.size:Int)=32)↔h.2.2.1.size=32:=by omega
 have e3:((h.2.2.2.1.size:Int)=32)↔h.2.2.2.1.size=32:=by omega
 simp only[e1,e2,e3]
 unfold headOk
 cases decide (0≤h.1∧h.1≤10000)<;>cases decide (h.2.1.size=32)<;>cases decide (h.2.2.1.size=32)<;>rfl
end Go.Proofs.YtoeiajpklkijgaaGreatDoor
