/- What is measured, copied, compared, marked and held: printed by program. Of no condition. -/
import Derived.Test.YtoeiajpklkijgaaGreatDoorWA
set_option linter.unusedVariables false
set_option linter.unusedSimpArgs false
set_option maxRecDepth 100000
namespace Go.Proofs.YtoeiajpklkijgaaGreatDoor
open Go.TV
theorem wSzPair_ok:SzOk TPair wSzPair_d:=by
 intro x n hg h0 hn
 rw[wSzPair_b]
 repeat' first
  |exact sz_end h0 (by repeat' (first|exact trivial|assumption|refine And.intro ?_ ?_))
  | (refine sz_str (by first|exact hg.1|exact hg.2.1|exact hg.2.2.1|exact hg.2.2.2.1|exact hg.2.2.2.2.1|exact hg.2.2.2.2.2.1|exact hg.2.2.2.2.2.2.1|exact hg.2.2.2.2.2.2.2.1|exact hg.2.2.2.2.2.2.2.2.1) h0 hn fun m hm h0 _ hn hs=>?_;subst hm;try dsimp only)
theorem wSzPairS_ok:SzOk (.sl TPair) wSzPairS_d:=(sz_slice (z:=zPair) wSzPair_ok (fun x=>wSzPairS_q5 x.1 x.2.1 x.2.2.1)).congr fun x n=>wSzPairS_b x n
theorem wSzAccount_ok:SzOk TAccount wSzAccount_d:=by
 intro x n hg h0 hn
 rw[wSzAccount_b]
 repeat' first
  |exact sz_end h0 (by repeat' (first|exact trivial|assumption|refine And.intro ?_ ?_))
  | (refine sz_str (by first|exact hg.1|exact hg.2.1|exact hg.2.2.1|exact hg.2.2.2.1|exact hg.2.2.2.2.1|exact hg.2.2.2.2.2.1|exact hg.2.2.2.2.2.2.1|exact hg.2.2.2.2.2.2.2.1|exact hg.2.2.2.2.2.2.2.2.1) h0 hn fun m hm h0 _ hn hs=>?_;subst hm;try dsimp only)
  | (refine sz_fn wSzPairS_ok (by first|exact hg.1|exact hg.2.1|exact hg.2.2.1|exact hg.2.2.2.1|exact hg.2.2.2.2.1|exact hg.2.2.2.2.2.1|exact hg.2.2.2.2.2.2.1|exact hg.2.2.2.2.2.2.2.1|exact hg.2.2.2.2.2.2.2.2.1) h0 hn fun m h0 _ hn hs=>?_;try dsimp only)
theorem wSzAccountS_ok:SzOk (.sl TAccount) wSzAccountS_d:=(sz_slice (z:=zAccount) wSzAccount_ok (fun x=>wSzAccountS_q5 x.1 x.2.1 x.2.2.1)).congr fun x n=>wSzAccountS_b x n
theorem wSzChain_ok:SzOk TChain wSzChain_d:=by
 intro x n hg h0 hn
 rw[wSzChain_b]
 repeat' first
  |exact sz_end h0 (by repeat' (first|exact trivial|assumption|refine And.intro ?_ ?_))
  | (refine sz_str (by first|exact hg.1|exact hg.2.1|exact hg.2.2.1|exact hg.2.2.2.1|exact hg.2.2.2.2.1|exact hg.2.2.2.2.2.1|exact hg.2.2.2.2.2.2.1|exact hg.2.2.2.2.2.2.2.1|exact hg.2.2.2.2.2.2.2.2.1) h0 hn fun m hm h0 _ hn hs=>?_;subst hm;try dsimp only)
  | (refine sz_fn wSzAccountS_ok (by first|exact hg.1|exact hg.2.1|exact hg.2.2.1|exact hg.2.2.2.1|exact hg.2.2.2.2.1|exact hg.2.2.2.2.2.1|exact hg.2.2.2.2.2.2.1|exact hg.2.2.2.2.2.2.2.1|exact hg.2.2.2.2.2.2.2.2.1) h0 hn fun m h0 _ hn hs=>?_;try dsimp only)
theorem wToPair_ok:ToOk TPair wToPair_d:=by
 intro x hg
 exact wToPair_b x
theorem wToPairS_ok:ToOk (.sl TPair) wToPairS_d:=(to_slice (z:=zPair) wToPair_ok (fun x=>wToPairS_q3 x.1 x.2.1 x.2.2.1) (q:=2) (by decide)).congr fun x=>wToPairS_b x
theorem wToAccount_ok:ToOk TAccount wToAccount_d:=by
 intro x hg
 have e0:=wToPairS_ok x.2.2.2.1 hg.2.2.2.1
 rw[wToAccount_b]
 simp only[bnd,Option.bind_some,e0]
 try rfl
theorem wToAccountS_ok:ToOk (.sl TAccount) wToAccountS_d:=(to_slice (z:=zAccount) wToAccount_ok (fun x=>wToAccountS_q3 x.1 x.2.1 x.2.2.1) (q:=4) (by decide)).congr fun x=>wToAccountS_b x
theorem wToChain_ok:ToOk TChain wToChain_d:=by
 intro x hg
 have e0:=wToAccountS_ok x.2.1 hg.2.1
 rw[wToChain_b]
 simp only[bnd,Option.bind_some,e0]
 try rfl
theorem wEqAsk_ok:EqOk TAsk wEqAsk_d:=by
 intro x hg
 have e0:=wEqStringS_ok x.2.2.2.1 hg.2.2.2.1
 have e1:=wEqStringS_ok x.2.2.2.2.1 hg.2.2.2.2.1
 have e2:=wEqStringS_ok x.2.2.2.2.2.1 hg.2.2.2.2.2.1
 rw[wEqAsk_b]
 simp only[bnd,Option.bind_some,cnd,cond_true,cond_false,sne_self,ine_self,bneB_self,bnot,Bool.not_true,e0,e1,e2]
theorem wEqPair_ok:EqOk TPair wEqPair_d:=by
 intro x hg
 rw[wEqPair_b]
 simp only[bnd,Option.bind_some,cnd,cond_true,cond_false,sne_self,ine_self,bneB_self,bnot,Bool.not_true]
theorem wEqPairS_ok:EqOk (.sl TPair) wEqPairS_d:=(eq_slice (z:=zPair) wEqPair_ok (fun x=>wEqPairS_q4 x.1 x.2.1 x.2.2.1)).congr fun x y=>wEqPairS_b x y
theorem wEqAccount_ok:EqOk TAccount wEqAccount_d:=by
 intro x hg
 have e0:=wEqPairS_ok x.2.2.2.1 hg.2.2.2.1
 rw[wEqAccount_b]
 simp only[bnd,Option.bind_some,cnd,cond_true,cond_false,sne_self,ine_self,bneB_self,bnot,Bool.not_true,e0]
theorem wEqAccountS_ok:EqOk (.sl TAccount) wEqAccountS_d:=(eq_slice (z:=zAccount) wEqAccount_ok (fun x=>wEqAccountS_q4 x.1 x.2.1 x.2.2.1)).congr fun x y=>wEqAccountS_b x y
theorem wEqChain_ok:EqOk TChain wEqChain_d:=by
 intro x hg
 have e0:=wEqAccountS_ok x.2.1 hg.2.1
 rw[wEqChain_b]
 simp only[bnd,Option.bind_some,cnd,cond_true,cond_false,sne_self,ine_self,bneB_self,bnot,Bool.not_true,e0]
noncomputable def mkChain (x:tChain) (k:Int):tChain×Int:=((x.1,((mkAccountS x.2.1 k).1,x.2.2)),(mkAccountS x.2.1 k).2)
abbrev mkBChain:Nat:=mkBAccountS
theorem wMarkChain_mk:Mk1 TChain wMarkChain_d mkBChain mkChain:=by
 intro x k hf h0 hk
 simp only[mkBChain] at hk
 obtain ⟨a0,l0,u0⟩:=wMarkAccountS_mk x.2.1 k hf.2.1 (by omega) (by omega)
 refine ⟨?_,?_,?_⟩
 ·rw[wMarkChain_b];simp only[bnd,Option.bind_some,a0];rfl
 ·show k≤(mkAccountS x.2.1 k).2;omega
 ·show (mkAccountS x.2.1 k).2≤_;simp only[mkBChain];omega
noncomputable def mkAsk (x:tAsk) (k:Int):tAsk×Int:=((x.1,(x.2.1,(x.2.2.1,((mkStringS x.2.2.2.1 k).1,((mkStringS x.2.2.2.2.1 (mkStringS x.2.2.2.1 k).2).1,((mkStringS x.2.2.2.2.2.1 (mkStringS x.2.2.2.2.1 (mkStringS x.2.2.2.1 k).2).2).1,x.2.2.2.2.2.2)))))),(mkStringS x.2.2.2.2.2.1 (mkStringS x.2.2.2.2.1 (mkStringS x.2.2.2.1 k).2).2).2)
abbrev mkBAsk:Nat:=mkBStringS+mkBStringS+mkBStringS
theorem wMarkAsk_ok:MkOk TAsk wMarkAsk_d wHeldAsk_d mkBAsk mkAsk:=by
 intro x k hf h0 hk
 simp only[mkBAsk] at hk
 obtain ⟨a0,b0,l0,u0⟩:=wMarkStringS_ok x.2.2.2.1 k hf.2.2.2.1 (by omega) (by omega)
 obtain ⟨a1,b1,l1,u1⟩:=wMarkStringS_ok x.2.2.2.2.1 (mkStringS x.2.2.2.1 k).2 hf.2.2.2.2.1 (by omega) (by omega)
 obtain ⟨a2,b2,l2,u2⟩:=wMarkStringS_ok x.2.2.2.2.2.1 (mkStringS x.2.2.2.2.1 (mkStringS x.2.2.2.1 k).2).2 hf.2.2.2.2.2.1 (by omega) (by omega)
 refine ⟨?_,?_,?_,?_⟩
 ·rw[wMarkAsk_b];simp only[bnd,Option.bind_some,a0,a1,a2];rfl
 ·rw[wHeldAsk_b];simp only[mkAsk,bnd,Option.bind_some,b0,b1,b2]
  simp only[ilt_f (x:=(mkStringS x.2.2.2.1 k).2) (y:=0) (by omega),ilt_f (x:=(mkStringS x.2.2.2.2.1 (mkStringS x.2.2.2.1 k).2).2) (y:=0) (by omega),ilt_f (x:=(mkStringS x.2.2.2.2.2.1 (mkStringS x.2.2.2.2.1 (mkStringS x.2.2.2.1 k).2).2).2) (y:=0) (by omega),cnd,cond_false]
 ·show k≤(mkStringS x.2.2.2.2.2.1 (mkStringS x.2.2.2.2.1 (mkStringS x.2.2.2.1 k).2).2).2;omega
 ·show (mkStringS x.2.2.2.2.2.1 (mkStringS x.2.2.2.2.1 (mkStringS x.2.2.2.1 k).2).2).2≤_;simp only[mkBAsk];omega
theorem wMarkAsk_mk:Mk1 TAsk wMarkAsk_d mkBAsk mkAsk:=wMarkAsk_ok.one
end Go.Proofs.YtoeiajpklkijgaaGreatDoor
