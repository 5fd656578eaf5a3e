/- The laws. Of no condition. -/
import Derived.Test.YthldgfkkgmpmlaaGreatDoorSR
set_option linter.unusedVariables false
set_option linter.unusedSimpArgs false
set_option maxRecDepth 100000
namespace Go.Proofs.YthldgfkkgmpmlaaGreatDoor
open Go.TV
theorem PzL {α:Type} {x y:Option α} {r:α} (h1:x=some r) (h2:y=some r):agree x y=some r:=by rw[h1,h2];unfold agree;rw[if_pos rfl]
theorem Izb (x1:dzp) (x2:Int) (x3:ByteArray) (g1:mzu gzp x1) (g2:mzu (.int .i64) x2) (g3:mzu .str x3):gzT (x1,(x2,(x3,())))=some ((true,()),()):=by
 rw[uzT]
 try simp only[Ezi]
 by_cases cx3:(1048576:Int)<ssz x3
 ·exact Hzh (bzU cx3) rfl
 refine nzf (bzi (by omega)) ?_
 have hs3:x3.size≤1048576:=by rw[azL] at cx3;omega
 obtain ⟨m1,e1,k1⟩:=LzA x1 1048576 g1 (by decide) (by decide)
 refine uzq e1 ?_
 by_cases cx1:m1<0
 ·exact Hzh (bzT cx1) rfl
 refine nzf (az0 (Int.not_lt.1 cx1)) ?_
 have hs1:Lz2 gzp x1:=(k1 (by omega)).2
 have hf1:Fine gzp x1:=Bnd.le (by decide) hs1
 have t1:=KzR x1 hf1
 have q1:=KzX x1 hf1
 obtain ⟨y1,s1,s2⟩:=QzT x1 x2 x3 hs1 hs3 g1
 repeat first
  |with_reducible exact rfl
  |with_reducible refine uzq t1 ?_
  |with_reducible refine uzq q1 ?_
  |with_reducible refine uzq s1 ?_
  |with_reducible refine uzq s2 ?_
  |with_reducible refine nzf (ezu _) ?_
  |with_reducible refine nzf (dzo _) ?_
  |with_reducible refine nzf (ezl _) ?_
  |refine nzf (show bnot true=false from rfl) ?_
  |refine PzL ?_ ?_
end Go.Proofs.YthldgfkkgmpmlaaGreatDoor
