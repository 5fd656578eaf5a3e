/- The laws. Of no condition. -/
import Derived.Test.YtgbdombjahllcaaDoorTL
set_option linter.unusedVariables false
set_option linter.unusedSimpArgs false
set_option maxRecDepth 100000
namespace Go.Proofs.YtgbdombjahllcaaDoor
open Go.TV
theorem agree_same {α:Type} {x y:Option α} {r:α} (h1:x=some r) (h2:y=some r):agree x y=some r:=by rw[h1,h2];unfold agree;rw[if_pos rfl]
theorem law_VerifyTrie (x1:ByteArray) (x2:ByteArray) (x3:(List ByteArray)) (g1:GoodV .str x1) (g2:GoodV .str x2) (g3:GoodV (.sl .str) x3):wFnExactVerifyTrie_d (x1,(x2,(x3,())))=some ((true,()),()):=by
 rw[wFnExactVerifyTrie_b]
 try simp only[agree_self]
 by_cases cx1:(1048576:Int)<ssz x1
 ·exact cnd_stept (igt_t cx1) rfl
 refine cnd_stepf (igt_f (by omega)) ?_
 have hs1:x1.size≤1048576:=by rw[ssz_d] at cx1;omega
 by_cases cx2:(1048576:Int)<ssz x2
 ·exact cnd_stept (igt_t cx2) rfl
 refine cnd_stepf (igt_f (by omega)) ?_
 have hs2:x2.size≤1048576:=by rw[ssz_d] at cx2;omega
 obtain ⟨m3,e3,k3⟩:=wSzStringS_ok x3 1048576 g3 (by decide) (by decide)
 refine bnd_step e3 ?_
 by_cases cx3:m3<0
 ·exact cnd_stept (ilt_t cx3) rfl
 refine cnd_stepf (ilt_f (Int.not_lt.1 cx3)) ?_
 have hs3:Small (.sl .str) x3:=(k3 (by omega)).2
 have hf3:Fine (.sl .str) x3:=Bnd.le (by decide) hs3
 have t3:=wToStringS_ok x3 hf3
 have q3:=wEqStringS_ok x3 hf3
 obtain ⟨y1,y2,y3,s1,s2⟩:=verify_same x1 x2 x3
 repeat first
  |with_reducible exact rfl
  |with_reducible refine bnd_step t3 ?_
  |with_reducible refine bnd_step q3 ?_
  |with_reducible refine bnd_step s1 ?_
  |with_reducible refine bnd_step s2 ?_
  |with_reducible refine cnd_stepf (ine_self _) ?_
  |with_reducible refine cnd_stepf (bneB_self _) ?_
  |with_reducible refine cnd_stepf (sne_self _) ?_
  |refine cnd_stepf (show bnot true=false from rfl) ?_
  |refine agree_same ?_ ?_
end Go.Proofs.YtgbdombjahllcaaDoor
