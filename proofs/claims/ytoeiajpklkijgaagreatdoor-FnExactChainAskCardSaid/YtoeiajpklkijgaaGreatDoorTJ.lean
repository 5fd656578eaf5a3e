/- Items that are read. Of no condition. -/
import Derived.Test.YtoeiajpklkijgaaGreatDoorTI
set_option linter.unusedVariables false
set_option linter.unusedSimpArgs false
set_option maxRecDepth 100000
namespace Go.Proofs.YtoeiajpklkijgaaGreatDoor
open Go.TV
theorem lenV_pos (low n:Nat) (hl:low≤192):0<(lenV low n).size:=by
 by_cases h:n≤55
 ·rw[lenV_1 low n hl h,size_scat,size_sof];simp only[List.length_cons];omega
 ·rw[lenV_2 low n hl h,size_scat,size_sof];simp only[List.length_cons];omega
theorem textF_pos: ∀ (d:Nat) (x:ItemT),0<(textF (d+1) x).size
 |d, .mk false s k=>by
  show 0<(if s.size=1∧sat s 0<128 then s else scat (lenV ((128:Nat):Int) s.size) s).size
  split
  ·omega
  ·have:=lenV_pos 128 s.size (by omega);rw[size_scat];omega
 |d, .mk true s k=>by
  show 0<(scat (lenV ((192:Nat):Int) ((k.map (textF d)).foldl scat (bs [])).size) ((k.map (textF d)).foldl scat (bs []))).size
  have:=lenV_pos 192 ((k.map (textF d)).foldl scat (bs [])).size (by omega)
  rw[size_scat];omega
end Go.Proofs.YtoeiajpklkijgaaGreatDoor
