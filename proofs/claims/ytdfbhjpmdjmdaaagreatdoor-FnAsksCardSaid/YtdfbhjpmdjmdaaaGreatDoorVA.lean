/- Pairs: numbers of two parts, lines, pairings; roots, sums of points, signatures. Of no condition. -/
import Derived.Test.YtdfbhjpmdjmdaaaGreatDoorJB
set_option linter.unusedVariables false
set_option linter.unusedSimpArgs false
set_option maxRecDepth 100000
namespace Go.Proofs.YtdfbhjpmdjmdaaaGreatDoor
open Go.TV
def Both {α:Type} (i s:Option α):Prop:= ∃r,i=some r∧s=some r
theorem Both.ret {α:Type} {r:α}:Both (some r) (some r):=⟨r,rfl,rfl⟩
theorem Both.bnd {α β:Type} {i s:Option α} {f g:α→Option β} (h:Both i s) (k: ∀r,Both (f r) (g r)):Both (bnd i f) (bnd s g):=by
 obtain ⟨r,rfl,rfl⟩:=h;exact k r
theorem Both.tru {α:Type} {c c':Bool} {i s i' s':Option α} (h:c=true) (h':c'=true) (k:Both i s):Both (cnd c i i') (cnd c' s s'):=by rw[h,h'];exact k
theorem Both.fls {α:Type} {c c':Bool} {i s i' s':Option α} (h:c=false) (h':c'=false) (k:Both i' s'):Both (cnd c i i') (cnd c' s s'):=by rw[h,h'];exact k
theorem Both.cnd {α:Type} {c c':Bool} {i s i' s':Option α} (h:c=c') (k:Both i s) (k':Both i' s'):Both (cnd c i i') (cnd c' s s'):=by
 rw[h];cases c'
 ·exact k'
 ·exact k
def GzB (a:Int):Int×Bool:=if fmul (fpow a 3027) (fpow a 3027)=a % 12107 then (imin (fpow a 3027) (fsub 0 (fpow a 3027)),true) else (0,false)
theorem fsub_0 {r:Int} (h:fok r):(-r) % 12107=fsub 0 r:=by unfold fsub;rw[GzN h];simp
theorem Mzk (a:Int):sz3 (a,())=some (((GzB a).1,((GzB a).2,())),()):=by
 have h1:mzq (a,(3027,()))=some ((fpow a 3027,()),()):=HzR a 3027 (by decide)
 rw[MzA,h1,azd,izV,azd,kze,azd,czY]
 unfold GzB
 by_cases hc:fmul (fpow a 3027) (fpow a 3027)=a % 12107
 ·rw[decide_eq_true hc,if_pos hc]
  simp only[Bool.not_true,azc,Bzq,azd]
  unfold imin
  by_cases hl:fsub 0 (fpow a 3027)<fpow a 3027
  ·rw[bzW hl,aza]
   congr 3
   omega
  ·rw[az7 (by omega),azc]
   congr 3
   omega
 ·rw[decide_eq_false hc,if_neg hc];rfl
end Go.Proofs.YtdfbhjpmdjmdaaaGreatDoor
