/- What the laws' helpers come to: texts of marks; lists of texts, of numbers, of points, of pairs, of accounts. Of no condition. -/
import Derived.Test.YthldgfkkgmpmlaaGreatDoorAc
set_option linter.unusedVariables false
set_option linter.unusedSimpArgs false
set_option maxRecDepth 100000
namespace Go.Proofs.YthldgfkkgmpmlaaGreatDoor
open Go.TV
theorem wzz:SzOk (.sl .str) izU:=(FzD (t:= .str) (z:=bs []) (fe:=fun x=>cnd (ilt (isub .i64 x.2.1 (ssz x.1)) 0) (some ((-1,()),())) (some (((isub .i64 x.2.1 (ssz x.1)),()),()))) (fun s n hg h0 hn=>pzD hg h0 hn fun m hm h0 _ _ hs=>hm▸qzZ (hm.symm▸h0) hs) (fun x=>by
 refine (GzB x.1 x.2.1 x.2.2.1).trans ?_
 by_cases h:isub .i64 x.2.1 (ssz (rd (bs []) x.1 x.2.2.1))<0
 ·simp only[ilt,h,decide_true,aza,azb,show decide ((-1:Int)<0)=true from rfl]
 ·simp only[ilt,h,decide_false,azc,azb])).congr fun x n=>JzL x n
theorem uzo:EqOk (.sl .str) izs:=(wzv (t:= .str) (z:=bs []) (fe:=fun x=>cnd (sne x.1 x.2.1) (some ((false,()),())) (some ((true,()),()))) (fun s _=>by simp only[ezl,azc]) (fun x=>by
 refine (Fzb x.1 x.2.1 x.2.2.1).trans ?_
 cases h:sne (rd (bs []) x.1 x.2.2.1) (rd (bs []) x.2.1 x.2.2.1)
 ·simp only[h,azc,azb,bnot,Bool.not_true]
 ·simp only[h,aza,azb,bnot,Bool.not_false])).congr fun x y=>HzF x y
theorem Pzr:SzOk (.sl (.int .i64)) vzl:=(VzE (t:= .int .i64) (fun x=>trivial)).congr fun x n=>Tzh x n
theorem Pzy:EqOk (.sl (.int .i64)) uzB:=(wzv (t:= .int .i64) (z:=(0:Int)) (fe:=fun x=>cnd (ine x.1 x.2.1) (some ((false,()),())) (some ((true,()),()))) (fun s _=>by simp only[ezu,azc]) (fun x=>by
 refine (Ozc x.1 x.2.1 x.2.2.1).trans ?_
 cases h:ine (rd (0:Int) x.1 x.2.2.1) (rd (0:Int) x.2.1 x.2.2.1)
 ·simp only[h,azc,azb,bnot,Bool.not_true]
 ·simp only[h,aza,azb,bnot,Bool.not_false])).congr fun x y=>Rz2 x y
end Go.Proofs.YthldgfkkgmpmlaaGreatDoor
