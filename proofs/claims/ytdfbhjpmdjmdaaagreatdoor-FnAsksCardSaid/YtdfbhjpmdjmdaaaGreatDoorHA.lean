/- Bounds; heads. Of no condition. -/
import Derived.Test.YtdfbhjpmdjmdaaaGreatDoorLA
set_option linter.unusedVariables false
set_option linter.unusedSimpArgs false
set_option maxRecDepth 100000
namespace Go.Proofs.YtdfbhjpmdjmdaaaGreatDoor
open Go.TV
theorem tzD (m a b:Int):czl (m,(a,(b,())))=some ((decide (a≤m∧m≤b),()),()):=by
 rw[Ozw,czX,yzw,gzB]
 by_cases h:a≤m<;>simp [h]
theorem czG (s:ByteArray):czF (s,())=some ((decide (s.size=32),()),()):=by
 rw[Gzs,czd,azN]
 have:((s.size:Int)=32)↔s.size=32:=by omega
 simp only[this]
def ozj (h:czD):Bool:=decide (0≤h.1∧h.1≤10000)&&(decide (h.2.1.size=32)&&(decide (h.2.2.1.size=32)&&decide (h.2.2.2.1.size=32)))
theorem KzT (h:czD):tzc (h,())=some ((ozj h,()),()):=by
 rw[Lze,LzX,azd,czG,azd,czG,azd,czG,azd]
 unfold ozj
 cases decide (0≤h.1∧h.1≤10000)<;>cases decide (h.2.1.size=32)<;>cases decide (h.2.2.1.size=32)<;>rfl
theorem Mzh (h:czD):rzL (h,())=some ((ozj h,()),()):=by
 rw[KzW,tzD,azd]
 simp only[czd,azN]
 have e1:((h.2.1.size:Int)=32)↔h.2.1.size=32:=by omega
 have e2:((h.2.2.1.size:Int)=32)↔h.2.2.1.size=32:=by omega
 have e3:((h.2.2.2.1.size:Int)=32)↔h.2.2.2.1.size=32:=by omega
 simp only[e1,e2,e3]
 unfold ozj
 cases decide (0≤h.1∧h.1≤10000)<;>cases decide (h.2.1.size=32)<;>cases decide (h.2.2.1.size=32)<;>rfl
end Go.Proofs.YtdfbhjpmdjmdaaaGreatDoor
