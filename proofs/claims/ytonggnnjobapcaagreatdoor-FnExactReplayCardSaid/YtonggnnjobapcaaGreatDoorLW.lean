/- The laws. Of no condition. -/
import Derived.Test.YtonggnnjobapcaaGreatDoorUE
set_option linter.unusedVariables false
set_option linter.unusedSimpArgs false
set_option maxRecDepth 100000
namespace Go.Proofs.YtonggnnjobapcaaGreatDoor
open Go.TV
theorem law_Replay (x1:tClient) (x2:ByteArray) (g1:GoodV TClient x1) (g2:GoodV .str x2):wFnExactReplay_d (x1,(x2,()))=some ((true,()),()):=by
 rw[wFnExactReplay_b]
 by_cases cx2:(1048576:Int)<ssz x2
 ·exact cnd_stept (igt_t cx2) rfl
 refine cnd_stepf (igt_f (by omega)) ?_
 have hs2:x2.size≤1048576:=by rw[ssz_d] at cx2;omega
 obtain ⟨m1,e1,k1⟩:=wSzClient_ok x1 1048576 g1 (by decide) (by decide)
 refine bnd_step e1 ?_
 by_cases cx1:m1<0
 ·exact cnd_stept (ilt_t cx1) rfl
 refine cnd_stepf (ilt_f (Int.not_lt.1 cx1)) ?_
 have hs1:Small TClient x1:=(k1 (by omega)).2
 have hf1:Fine TClient x1:=Bnd.le (by decide) hs1
 have t1:=wToClient_ok x1 hf1
 have q1:=wEqClient_ok x1 hf1
 obtain ⟨ma1,la1,_⟩:=wMarkClient_mk x1 1 hf1 (by decide) (by decide)
 obtain ⟨y1,s1,s2,f1⟩:=replay_same x1 x2 hs1 hs2
 have z0:=wEqClient_ok y1 f1
 obtain ⟨mr0,hb0,lr0,_⟩:=wMarkClient_ok y1 1 f1 (by decide) (by decide)
 repeat first
  |with_reducible exact rfl
  |with_reducible refine bnd_step t1 ?_
  |with_reducible refine bnd_step q1 ?_
  |with_reducible refine bnd_step ma1 ?_
  |with_reducible refine bnd_step s1 ?_
  |with_reducible refine bnd_step s2 ?_
  |with_reducible refine bnd_step z0 ?_
  |with_reducible refine bnd_step mr0 ?_
  |with_reducible refine cnd_stepf (ine_self _) ?_
  |with_reducible refine cnd_stepf (bneB_self _) ?_
  |with_reducible refine cnd_stepf (sne_self _) ?_
  |refine cnd_stepf (show bnot true=false from rfl) ?_
  |refine cnd_stepf (ilt_f (show 0≤_ from Int.le_trans (by decide) la1)) ?_
  |refine cnd_stepf (ilt_f (show 0≤_ from Int.le_trans (by decide) lr0)) ?_
  |refine bnd_step hb0 ?_
end Go.Proofs.YtonggnnjobapcaaGreatDoor
