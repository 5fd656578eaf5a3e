/- Bounds; heads. Of no condition. -/
import Derived.Test.YthldgfkkgmpmlaaGreatDoorLB
set_option linter.unusedVariables false
set_option linter.unusedSimpArgs false
set_option maxRecDepth 100000
namespace Go.Proofs.YthldgfkkgmpmlaaGreatDoor
open Go.TV
theorem tzP (m a b:Int):bzX (m,(a,(b,())))=some ((decide (a≤m∧m≤b),()),()):=by
 rw[Vzt,czK,uzV,ez3]
 by_cases h:a≤m<;>simp [h]
theorem dzT (s:ByteArray):czH (s,())=some ((decide (s.size=32),()),()):=by
 rw[Lzd,czl,azL]
 have:((s.size:Int)=32)↔s.size=32:=by omega
 simp only[this]
def pzF (h:azO):Bool:=decide (0≤h.1∧h.1≤10000)&&(decide (h.2.1.size=32)&&(decide (h.2.2.1.size=32)&&decide (h.2.2.2.1.size=32)))
theorem Qzs (h:azO):wze (h,())=some ((pzF h,()),()):=by
 rw[QzD,Szk,azb,dzT,azb,dzT,azb,dzT,azb]
 unfold pzF
 cases decide (0≤h.1∧h.1≤10000)<;>cases decide (h.2.1.size=32)<;>cases decide (h.2.2.1.size=32)<;>rfl
theorem RzF (h:azO):vzK (h,())=some ((pzF h,()),()):=by
 rw[Szw,tzP,azb]
 simp only[czl,azL]
 have e1:((h.2.1.size:Int)=32)↔h.2.1.size=32:=by omega
 have e2:((h.2.2.1.size:Int)=32)↔h.2.2.1.size=32:=by omega
 have e3:((h.2.2.2.1.size:Int)=32)↔h.2.2.2.1.size=32:=by omega
 simp only[e1,e2,e3]
 unfold pzF
 cases decide (0≤h.1∧h.1≤10000)<;>cases decide (h.2.1.size=32)<;>cases decide (h.2.2.1.size=32)<;>rfl
end Go.Proofs.YthldgfkkgmpmlaaGreatDoor
