/- Pairs: numbers of two parts, lines, pairings; roots, sums of points, signatures. Of no condition. -/
import Derived.Test.YthldgfkkgmpmlaaGreatDoorJB
set_option linter.unusedVariables false
set_option linter.unusedSimpArgs false
set_option maxRecDepth 100000
namespace Go.Proofs.YthldgfkkgmpmlaaGreatDoor
open Go.TV
def Both {α:Type} (i s:Option α):Prop:= ∃r,i=some r∧s=some r
theorem Both.ret {α:Type} {r:α}:Both (some r) (some r):=⟨r,rfl,rfl⟩
theorem Both.bnd {α β:Type} {i s:Option α} {f g:α→Option β} (h:Both i s) (k: ∀r,Both (f r) (g r)):Both (bnd i f) (bnd s g):=by
 obtain ⟨r,rfl,rfl⟩:=h;exact k r
theorem Both.cnd {α:Type} {c c':Bool} {i s i' s':Option α} (h:c=c') (k:Both i s) (k':Both i' s'):Both (cnd c i i') (cnd c' s s'):=by
 rw[h];cases c'
 ·exact k'
 ·exact k
end Go.Proofs.YthldgfkkgmpmlaaGreatDoor
