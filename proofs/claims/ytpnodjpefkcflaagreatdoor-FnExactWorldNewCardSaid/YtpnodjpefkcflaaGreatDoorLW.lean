/- The laws. Of no condition. -/
import Derived.Test.YtpnodjpefkcflaaGreatDoorTH
set_option linter.unusedVariables false
set_option linter.unusedSimpArgs false
set_option maxRecDepth 100000
namespace Go.Proofs.YtpnodjpefkcflaaGreatDoor
open Go.TV
theorem agree_same {α:Type} {x y:Option α} {r:α} (h1:x=some r) (h2:y=some r):agree x y=some r:=by rw[h1,h2];unfold agree;rw[if_pos rfl]
theorem law_WorldNew (x1:tChain) (x2:tMaker) (g1:GoodV TChain x1) (g2:GoodV TMaker x2):wFnExactWorldNew_d (x1,(x2,()))=some ((true,()),()):=by
 rw[wFnExactWorldNew_b]
 try simp only[agree_self]
 obtain ⟨m1,e1,k1⟩:=wSzChain_ok x1 1048576 g1 (by decide) (by decide)
 refine bnd_step e1 ?_
 by_cases cx1:m1<0
 ·exact cnd_stept (ilt_t cx1) rfl
 refine cnd_stepf (ilt_f (Int.not_lt.1 cx1)) ?_
 have hs1:Small TChain x1:=(k1 (by omega)).2
 have hf1:Fine TChain x1:=Bnd.le (by decide) hs1
 obtain ⟨m2,e2,k2⟩:=wSzMaker_ok x2 m1 g2 (by omega) (by have:=(k1 (by omega)).1;omega)
 refine bnd_step e2 ?_
 by_cases cx2:m2<0
 ·exact cnd_stept (ilt_t cx2) rfl
 refine cnd_stepf (ilt_f (Int.not_lt.1 cx2)) ?_
 have hs2:Small TMaker x2:=(k2 (by omega)).2
 have hf2:Fine TMaker x2:=Bnd.le (by decide) hs2
 have t1:=wToChain_ok x1 hf1
 have q1:=wEqChain_ok x1 hf1
 obtain ⟨ma1,la1,ua1⟩:=wMarkChain_mk x1 1 hf1 (by decide) (by decide)
 have t2:=wToMaker_ok x2 hf2
 have q2:=wEqMaker_ok x2 hf2
 obtain ⟨ma2,lb2,ua2⟩:=wMarkMaker_mk x2 (mkChain x1 1).2 hf2 (Int.lt_of_lt_of_le (by decide) la1) (Int.le_trans (Int.add_le_add_right ua1 _) (by decide))
 have la2:1≤(mkMaker x2 (mkChain x1 1).2).2:=Int.le_trans la1 lb2
 obtain ⟨y1,y2,s1,s2,f1⟩:=worldnew_same x1 x2 hs1 hs2 g1
 have z0:=wEqWorld_ok y1 f1
 obtain ⟨mr0,hb0,lr0,_⟩:=wMarkWorld_ok y1 1 f1 (by decide) (by decide)
 repeat first
  |with_reducible exact rfl
  |with_reducible refine bnd_step t1 ?_
  |with_reducible refine bnd_step q1 ?_
  |with_reducible refine bnd_step ma1 ?_
  |with_reducible refine bnd_step t2 ?_
  |with_reducible refine bnd_step q2 ?_
  |with_reducible refine bnd_step ma2 ?_
  |with_reducible refine bnd_step s1 ?_
  |with_reducible refine bnd_step s2 ?_
  |with_reducible refine bnd_step z0 ?_
  |with_reducible refine bnd_step mr0 ?_
  |with_reducible refine cnd_stepf (ine_self _) ?_
  |with_reducible refine cnd_stepf (bneB_self _) ?_
  |with_reducible refine cnd_stepf (sne_self _) ?_
  |refine cnd_stepf (show bnot true=false from rfl) ?_
  |refine cnd_stepf (ilt_f (show 0≤_ from Int.le_trans (by decide) la1)) ?_
  |refine cnd_stepf (ilt_f (show 0≤_ from Int.le_trans (by decide) la2)) ?_
  |refine agree_same ?_ ?_
  |refine cnd_stepf (ilt_f (show 0≤_ from Int.le_trans (by decide) lr0)) ?_
  |refine bnd_step hb0 ?_
end Go.Proofs.YtpnodjpefkcflaaGreatDoor
