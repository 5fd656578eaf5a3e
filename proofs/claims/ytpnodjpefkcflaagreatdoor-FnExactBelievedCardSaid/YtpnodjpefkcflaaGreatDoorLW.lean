/- The laws. Of no condition. -/
import Derived.Test.YtpnodjpefkcflaaGreatDoorTH
set_option linter.unusedVariables false
set_option linter.unusedSimpArgs false
set_option maxRecDepth 100000
namespace Go.Proofs.YtpnodjpefkcflaaGreatDoor
open Go.TV
theorem agree_same {α:Type} {x y:Option α} {r:α} (h1:x=some r) (h2:y=some r):agree x y=some r:=by rw[h1,h2];unfold agree;rw[if_pos rfl]
theorem law_Believed (x1:tWorld) (g1:GoodV TWorld x1):wFnExactBelieved_d (x1,())=some ((true,()),()):=by
 rw[wFnExactBelieved_b]
 try simp only[agree_self]
 obtain ⟨m1,e1,k1⟩:=wSzWorld_ok x1 1048576 g1 (by decide) (by decide)
 refine bnd_step e1 ?_
 by_cases cx1:m1<0
 ·exact cnd_stept (ilt_t cx1) rfl
 refine cnd_stepf (ilt_f (Int.not_lt.1 cx1)) ?_
 have hs1:Small TWorld x1:=(k1 (by omega)).2
 have hf1:Fine TWorld x1:=Bnd.le (by decide) hs1
 have t1:=wToWorld_ok x1 hf1
 have q1:=wEqWorld_ok x1 hf1
 obtain ⟨y1,s1,s2⟩:=believed_same x1 hs1 g1
 repeat first
  |with_reducible exact rfl
  |with_reducible refine bnd_step t1 ?_
  |with_reducible refine bnd_step q1 ?_
  |with_reducible refine bnd_step s1 ?_
  |with_reducible refine bnd_step s2 ?_
  |with_reducible refine cnd_stepf (ine_self _) ?_
  |with_reducible refine cnd_stepf (bneB_self _) ?_
  |with_reducible refine cnd_stepf (sne_self _) ?_
  |refine cnd_stepf (show bnot true=false from rfl) ?_
  |refine agree_same ?_ ?_
end Go.Proofs.YtpnodjpefkcflaaGreatDoor
