/- The laws. Of no condition. -/
import Derived.Test.YtoeiajpklkijgaaGreatDoorTS
set_option linter.unusedVariables false
set_option linter.unusedSimpArgs false
set_option maxRecDepth 100000
namespace Go.Proofs.YtoeiajpklkijgaaGreatDoor
open Go.TV
theorem agree_same {α:Type} {x y:Option α} {r:α} (h1:x=some r) (h2:y=some r):agree x y=some r:=by rw[h1,h2];unfold agree;rw[if_pos rfl]
theorem law_ChainAsk (x1:tChain) (x2:Int) (x3:ByteArray) (x4:ByteArray) (g1:GoodV TChain x1) (g2:GoodV (.int .i64) x2) (g3:GoodV .str x3) (g4:GoodV .str x4):wFnExactChainAsk_d (x1,(x2,(x3,(x4,()))))=some ((true,()),()):=by
 rw[wFnExactChainAsk_b]
 try simp only[agree_self]
 by_cases cx3:(1048576:Int)<ssz x3
 ·exact cnd_stept (igt_t cx3) rfl
 refine cnd_stepf (igt_f (by omega)) ?_
 have hs3:x3.size≤1048576:=by rw[ssz_d] at cx3;omega
 by_cases cx4:(1048576:Int)<ssz x4
 ·exact cnd_stept (igt_t cx4) rfl
 refine cnd_stepf (igt_f (by omega)) ?_
 have hs4:x4.size≤1048576:=by rw[ssz_d] at cx4;omega
 obtain ⟨m1,e1,k1⟩:=wSzChain_ok x1 1048576 g1 (by decide) (by decide)
 refine bnd_step e1 ?_
 by_cases cx1:m1<0
 ·exact cnd_stept (ilt_t cx1) rfl
 refine cnd_stepf (ilt_f (Int.not_lt.1 cx1)) ?_
 have hs1:Small TChain x1:=(k1 (by omega)).2
 have hf1:Fine TChain x1:=Bnd.le (by decide) hs1
 have t1:=wToChain_ok x1 hf1
 have q1:=wEqChain_ok x1 hf1
 obtain ⟨ma1,la1,ua1⟩:=wMarkChain_mk x1 1 hf1 (by decide) (by decide)
 obtain ⟨y1,s1,s2,f1⟩:=chainask_same x1 x2 x3 x4 hs1 hs3 hs4 g1
 have z0:=wEqAsk_ok y1 f1
 obtain ⟨mr0,hb0,lr0,_⟩:=wMarkAsk_ok y1 1 f1 (by decide) (by decide)
 repeat first
  |with_reducible exact rfl
  |with_reducible refine bnd_step t1 ?_
  |with_reducible refine bnd_step q1 ?_
  |with_reducible refine bnd_step ma1 ?_
  |with_reducible refine bnd_step s1 ?_
  |with_reducible refine bnd_step s2 ?_
  |with_reducible refine bnd_step z0 ?_
  |with_reducible refine bnd_step mr0 ?_
  |with_reducible refine cnd_stepf (ine_self _) ?_
  |with_reducible refine cnd_stepf (bneB_self _) ?_
  |with_reducible refine cnd_stepf (sne_self _) ?_
  |refine cnd_stepf (show bnot true=false from rfl) ?_
  |refine cnd_stepf (ilt_f (show 0≤_ from Int.le_trans (by decide) la1)) ?_
  |refine agree_same ?_ ?_
  |refine cnd_stepf (ilt_f (show 0≤_ from Int.le_trans (by decide) lr0)) ?_
  |refine bnd_step hb0 ?_
end Go.Proofs.YtoeiajpklkijgaaGreatDoor
