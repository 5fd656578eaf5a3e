/- What is measured, copied, compared, marked and held: printed by program. Of no condition. -/
import Derived.Test.YtgbdombjahllcaaDoorWA
set_option linter.unusedVariables false
set_option linter.unusedSimpArgs false
set_option maxRecDepth 100000
namespace Go.Proofs.YtgbdombjahllcaaDoor
open Go.TV
theorem wToStringS_ok:ToOk (.sl .str) wToStringS_d:=(to_slice (t:= .str) (z:=(bs [])) (fe:=fun x=>some ((x.1,()),())) (fun x _=>rfl) (fun x=>wToStringS_q3 x.1 x.2.1 x.2.2.1) (q:=1) (by decide)).congr fun x=>wToStringS_b x
end Go.Proofs.YtgbdombjahllcaaDoor
