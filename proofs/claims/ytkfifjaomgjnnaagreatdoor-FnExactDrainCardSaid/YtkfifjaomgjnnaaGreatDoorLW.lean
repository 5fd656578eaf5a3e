/- The laws. Of no condition. -/
import Derived.Test.YtkfifjaomgjnnaaGreatDoorUG
set_option linter.unusedVariables false
set_option linter.unusedSimpArgs false
set_option maxRecDepth 100000
namespace Go.Proofs.YtkfifjaomgjnnaaGreatDoor
open Go.TV
theorem law_Drain (x1:tBridge) (g1:GoodV TBridge x1):wFnExactDrain_d (x1,())=some ((true,()),()):=by
 rw[wFnExactDrain_b]
 obtain ⟨m1,e1,k1⟩:=wSzBridge_ok x1 1048576 g1 (by decide) (by decide)
 refine bnd_step e1 ?_
 by_cases cx1:m1<0
 ·exact cnd_stept (ilt_t cx1) rfl
 refine cnd_stepf (ilt_f (Int.not_lt.1 cx1)) ?_
 have hs1:Small TBridge x1:=(k1 (by omega)).2
 have hf1:Fine TBridge x1:=Bnd.le (by decide) hs1
 have t1:=wToBridge_ok x1 hf1
 have q1:=wEqBridge_ok x1 hf1
 obtain ⟨ma1,la1,_⟩:=wMarkBridge_mk x1 1 hf1 (by decide) (by decide)
 obtain ⟨y1,y2,s1,s2,f1⟩:=drain_same x1 hs1
 have z0:=wEqBridge_ok y1 f1
 obtain ⟨mr0,hb0,lr0,_⟩:=wMarkBridge_ok y1 1 f1 (by decide) (by decide)
 repeat first
  |with_reducible exact rfl
  |with_reducible refine bnd_step t1 ?_
  |with_reducible refine bnd_step q1 ?_
  |with_reducible refine bnd_step ma1 ?_
  |with_reducible refine bnd_step s1 ?_
  |with_reducible refine bnd_step s2 ?_
  |with_reducible refine bnd_step z0 ?_
  |with_reducible refine bnd_step mr0 ?_
  |with_reducible refine cnd_stepf (ine_self _) ?_
  |with_reducible refine cnd_stepf (bneB_self _) ?_
  |with_reducible refine cnd_stepf (sne_self _) ?_
  |refine cnd_stepf (show bnot true=false from rfl) ?_
  |refine cnd_stepf (ilt_f (show 0≤_ from Int.le_trans (by decide) la1)) ?_
  |refine cnd_stepf (ilt_f (show 0≤_ from Int.le_trans (by decide) lr0)) ?_
  |refine bnd_step hb0 ?_
end Go.Proofs.YtkfifjaomgjnnaaGreatDoor
