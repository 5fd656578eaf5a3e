/- What the laws' helpers come to: texts of marks; lists of texts, of numbers, of points, of pairs, of accounts. Of no condition. -/
import Derived.Test.YthldgfkkgmpmlaaDoorAb
set_option linter.unusedVariables false
set_option linter.unusedSimpArgs false
set_option maxRecDepth 100000
namespace Go.Proofs.YthldgfkkgmpmlaaDoor
open Go.TV
theorem wSzStringS_ok:SzOk (.sl .str) wSzStringS_d:=(sz_slice (t:= .str) (z:=bs []) (fe:=fun x=>cnd (ilt (isub .i64 x.2.1 (ssz x.1)) 0) (some ((-1,()),())) (some (((isub .i64 x.2.1 (ssz x.1)),()),()))) (fun s n hg h0 hn=>sz_str hg h0 hn fun m hm h0 _ _ hs=>hm▸sz_end (hm.symm▸h0) hs) (fun x=>by
 refine (wSzStringS_q5 x.1 x.2.1 x.2.2.1).trans ?_
 by_cases h:isub .i64 x.2.1 (ssz (rd (bs []) x.1 x.2.2.1))<0
 ·simp only[ilt,h,decide_true,cnd_t,bnd_s,show decide ((-1:Int)<0)=true from rfl]
 ·simp only[ilt,h,decide_false,cnd_f,bnd_s])).congr fun x n=>wSzStringS_b x n
theorem wEqStringS_ok:EqOk (.sl .str) wEqStringS_d:=(eq_slice (t:= .str) (z:=bs []) (fe:=fun x=>cnd (sne x.1 x.2.1) (some ((false,()),())) (some ((true,()),()))) (fun s _=>by simp only[sne_self,cnd_f]) (fun x=>by
 refine (wEqStringS_q4 x.1 x.2.1 x.2.2.1).trans ?_
 cases h:sne (rd (bs []) x.1 x.2.2.1) (rd (bs []) x.2.1 x.2.2.1)
 ·simp only[h,cnd_f,bnd_s,bnot,Bool.not_true]
 ·simp only[h,cnd_t,bnd_s,bnot,Bool.not_false])).congr fun x y=>wEqStringS_b x y
end Go.Proofs.YthldgfkkgmpmlaaDoor
