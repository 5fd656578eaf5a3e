/- The laws. Of no condition. -/
import Derived.Test.YtpnodjpefkcflaaGreatDoorTH
set_option linter.unusedVariables false
set_option linter.unusedSimpArgs false
set_option maxRecDepth 100000
namespace Go.Proofs.YtpnodjpefkcflaaGreatDoor
open Go.TV
theorem agree_same {α:Type} {x y:Option α} {r:α} (h1:x=some r) (h2:y=some r):agree x y=some r:=by rw[h1,h2];unfold agree;rw[if_pos rfl]
theorem law_OnChain (x1:tChain) (x2:tHead) (g1:GoodV TChain x1) (g2:GoodV THead x2):wFnExactOnChain_d (x1,(x2,()))=some ((true,()),()):=by
 rw[wFnExactOnChain_b]
 try simp only[agree_self]
 obtain ⟨m1,e1,k1⟩:=wSzChain_ok x1 1048576 g1 (by decide) (by decide)
 refine bnd_step e1 ?_
 by_cases cx1:m1<0
 ·exact cnd_stept (ilt_t cx1) rfl
 refine cnd_stepf (ilt_f (Int.not_lt.1 cx1)) ?_
 have hs1:Small TChain x1:=(k1 (by omega)).2
 have hf1:Fine TChain x1:=Bnd.le (by decide) hs1
 obtain ⟨m2,e2,k2⟩:=wSzHead_ok x2 m1 g2 (by omega) (by have:=(k1 (by omega)).1;omega)
 refine bnd_step e2 ?_
 by_cases cx2:m2<0
 ·exact cnd_stept (ilt_t cx2) rfl
 refine cnd_stepf (ilt_f (Int.not_lt.1 cx2)) ?_
 have hs2:Small THead x2:=(k2 (by omega)).2
 have hf2:Fine THead x2:=Bnd.le (by decide) hs2
 have t1:=wToChain_ok x1 hf1
 have q1:=wEqChain_ok x1 hf1
 have t2:=wToHead_ok x2 hf2
 obtain ⟨y1,s1,s2⟩:=onchain_same x1 x2 hs1 g1
 repeat first
  |with_reducible exact rfl
  |with_reducible refine bnd_step t1 ?_
  |with_reducible refine bnd_step q1 ?_
  |with_reducible refine bnd_step t2 ?_
  |with_reducible refine bnd_step s1 ?_
  |with_reducible refine bnd_step s2 ?_
  |with_reducible refine cnd_stepf (ine_self _) ?_
  |with_reducible refine cnd_stepf (bneB_self _) ?_
  |with_reducible refine cnd_stepf (sne_self _) ?_
  |refine cnd_stepf (show bnot true=false from rfl) ?_
  |refine agree_same ?_ ?_
end Go.Proofs.YtpnodjpefkcflaaGreatDoor
