/- What is measured, copied, compared, marked and held: printed by program. Of no condition. -/
import Derived.Test.YtonggnnjobapcaaGreatDoorWA
set_option linter.unusedVariables false
set_option linter.unusedSimpArgs false
set_option maxRecDepth 100000
namespace Go.Proofs.YtonggnnjobapcaaGreatDoor
open Go.TV
theorem wSzPair_ok:SzOk TPair wSzPair_d:=by
 intro x n hg h0 hn
 rw[wSzPair_b]
 repeat' first
  |exact sz_end h0 (by repeat' (first|exact trivial|assumption|refine And.intro ?_ ?_))
  | (refine sz_str (by first|exact hg.1|exact hg.2.1|exact hg.2.2.1|exact hg.2.2.2.1|exact hg.2.2.2.2.1|exact hg.2.2.2.2.2.1|exact hg.2.2.2.2.2.2.1|exact hg.2.2.2.2.2.2.2.1|exact hg.2.2.2.2.2.2.2.2.1) h0 hn fun m hm h0 _ hn hs=>?_;subst hm;try dsimp only)
theorem wSzPairS_ok:SzOk (.sl TPair) wSzPairS_d:=(sz_slice (z:=zPair) wSzPair_ok (fun x=>wSzPairS_q5 x.1 x.2.1 x.2.2.1)).congr fun x n=>wSzPairS_b x n
theorem wSzAccount_ok:SzOk TAccount wSzAccount_d:=by
 intro x n hg h0 hn
 rw[wSzAccount_b]
 repeat' first
  |exact sz_end h0 (by repeat' (first|exact trivial|assumption|refine And.intro ?_ ?_))
  | (refine sz_str (by first|exact hg.1|exact hg.2.1|exact hg.2.2.1|exact hg.2.2.2.1|exact hg.2.2.2.2.1|exact hg.2.2.2.2.2.1|exact hg.2.2.2.2.2.2.1|exact hg.2.2.2.2.2.2.2.1|exact hg.2.2.2.2.2.2.2.2.1) h0 hn fun m hm h0 _ hn hs=>?_;subst hm;try dsimp only)
  | (refine sz_fn wSzPairS_ok (by first|exact hg.1|exact hg.2.1|exact hg.2.2.1|exact hg.2.2.2.1|exact hg.2.2.2.2.1|exact hg.2.2.2.2.2.1|exact hg.2.2.2.2.2.2.1|exact hg.2.2.2.2.2.2.2.1|exact hg.2.2.2.2.2.2.2.2.1) h0 hn fun m h0 _ hn hs=>?_;try dsimp only)
theorem wSzAccountS_ok:SzOk (.sl TAccount) wSzAccountS_d:=(sz_slice (z:=zAccount) wSzAccount_ok (fun x=>wSzAccountS_q5 x.1 x.2.1 x.2.2.1)).congr fun x n=>wSzAccountS_b x n
theorem wSzChain_ok:SzOk TChain wSzChain_d:=by
 intro x n hg h0 hn
 rw[wSzChain_b]
 repeat' first
  |exact sz_end h0 (by repeat' (first|exact trivial|assumption|refine And.intro ?_ ?_))
  | (refine sz_str (by first|exact hg.1|exact hg.2.1|exact hg.2.2.1|exact hg.2.2.2.1|exact hg.2.2.2.2.1|exact hg.2.2.2.2.2.1|exact hg.2.2.2.2.2.2.1|exact hg.2.2.2.2.2.2.2.1|exact hg.2.2.2.2.2.2.2.2.1) h0 hn fun m hm h0 _ hn hs=>?_;subst hm;try dsimp only)
  | (refine sz_fn wSzAccountS_ok (by first|exact hg.1|exact hg.2.1|exact hg.2.2.1|exact hg.2.2.2.1|exact hg.2.2.2.2.1|exact hg.2.2.2.2.2.1|exact hg.2.2.2.2.2.2.1|exact hg.2.2.2.2.2.2.2.1|exact hg.2.2.2.2.2.2.2.2.1) h0 hn fun m h0 _ hn hs=>?_;try dsimp only)
theorem wSzPointS_ok:SzOk (.sl TPoint) wSzPointS_d:=(sz_len (t:=TPoint) (fun x=>by repeat' first|exact trivial|constructor)).congr fun x n=>wSzPointS_b x n
theorem wSzKeys_ok:SzOk TKeys wSzKeys_d:=by
 intro x n hg h0 hn
 rw[wSzKeys_b]
 repeat' first
  |exact sz_end h0 (by repeat' (first|exact trivial|assumption|refine And.intro ?_ ?_))
  | (refine sz_str (by first|exact hg.1|exact hg.2.1|exact hg.2.2.1|exact hg.2.2.2.1|exact hg.2.2.2.2.1|exact hg.2.2.2.2.2.1|exact hg.2.2.2.2.2.2.1|exact hg.2.2.2.2.2.2.2.1|exact hg.2.2.2.2.2.2.2.2.1) h0 hn fun m hm h0 _ hn hs=>?_;subst hm;try dsimp only)
  | (refine sz_fn wSzPointS_ok (by first|exact hg.1|exact hg.2.1|exact hg.2.2.1|exact hg.2.2.2.1|exact hg.2.2.2.2.1|exact hg.2.2.2.2.2.1|exact hg.2.2.2.2.2.2.1|exact hg.2.2.2.2.2.2.2.1|exact hg.2.2.2.2.2.2.2.2.1) h0 hn fun m h0 _ hn hs=>?_;try dsimp only)
theorem wSzMaker_ok:SzOk TMaker wSzMaker_d:=by
 intro x n hg h0 hn
 rw[wSzMaker_b]
 repeat' first
  |exact sz_end h0 (by repeat' (first|exact trivial|assumption|refine And.intro ?_ ?_))
  | (refine sz_str (by first|exact hg.1|exact hg.2.1|exact hg.2.2.1|exact hg.2.2.2.1|exact hg.2.2.2.2.1|exact hg.2.2.2.2.2.1|exact hg.2.2.2.2.2.2.1|exact hg.2.2.2.2.2.2.2.1|exact hg.2.2.2.2.2.2.2.2.1) h0 hn fun m hm h0 _ hn hs=>?_;subst hm;try dsimp only)
  | (refine sz_fn wSzKeys_ok (by first|exact hg.1|exact hg.2.1|exact hg.2.2.1|exact hg.2.2.2.1|exact hg.2.2.2.2.1|exact hg.2.2.2.2.2.1|exact hg.2.2.2.2.2.2.1|exact hg.2.2.2.2.2.2.2.1|exact hg.2.2.2.2.2.2.2.2.1) h0 hn fun m h0 _ hn hs=>?_;try dsimp only)
  | (refine sz_fn wSzPointS_ok (by first|exact hg.1|exact hg.2.1|exact hg.2.2.1|exact hg.2.2.2.1|exact hg.2.2.2.2.1|exact hg.2.2.2.2.2.1|exact hg.2.2.2.2.2.2.1|exact hg.2.2.2.2.2.2.2.1|exact hg.2.2.2.2.2.2.2.2.1) h0 hn fun m h0 _ hn hs=>?_;try dsimp only)
theorem wSzHead_ok:SzOk THead wSzHead_d:=by
 intro x n hg h0 hn
 rw[wSzHead_b]
 repeat' first
  |exact sz_end h0 (by repeat' (first|exact trivial|assumption|refine And.intro ?_ ?_))
  | (refine sz_str (by first|exact hg.1|exact hg.2.1|exact hg.2.2.1|exact hg.2.2.2.1|exact hg.2.2.2.2.1|exact hg.2.2.2.2.2.1|exact hg.2.2.2.2.2.2.1|exact hg.2.2.2.2.2.2.2.1|exact hg.2.2.2.2.2.2.2.2.1) h0 hn fun m hm h0 _ hn hs=>?_;subst hm;try dsimp only)
theorem wSzCommittee_ok:SzOk TCommittee wSzCommittee_d:=by
 intro x n hg h0 hn
 rw[wSzCommittee_b]
 repeat' first
  |exact sz_end h0 (by repeat' (first|exact trivial|assumption|refine And.intro ?_ ?_))
  | (refine sz_str (by first|exact hg.1|exact hg.2.1|exact hg.2.2.1|exact hg.2.2.2.1|exact hg.2.2.2.2.1|exact hg.2.2.2.2.2.1|exact hg.2.2.2.2.2.2.1|exact hg.2.2.2.2.2.2.2.1|exact hg.2.2.2.2.2.2.2.2.1) h0 hn fun m hm h0 _ hn hs=>?_;subst hm;try dsimp only)
  | (refine sz_fn wSzPointS_ok (by first|exact hg.1|exact hg.2.1|exact hg.2.2.1|exact hg.2.2.2.1|exact hg.2.2.2.2.1|exact hg.2.2.2.2.2.1|exact hg.2.2.2.2.2.2.1|exact hg.2.2.2.2.2.2.2.1|exact hg.2.2.2.2.2.2.2.2.1) h0 hn fun m h0 _ hn hs=>?_;try dsimp only)
theorem wSzClient_ok:SzOk TClient wSzClient_d:=by
 intro x n hg h0 hn
 rw[wSzClient_b]
 repeat' first
  |exact sz_end h0 (by repeat' (first|exact trivial|assumption|refine And.intro ?_ ?_))
  | (refine sz_str (by first|exact hg.1|exact hg.2.1|exact hg.2.2.1|exact hg.2.2.2.1|exact hg.2.2.2.2.1|exact hg.2.2.2.2.2.1|exact hg.2.2.2.2.2.2.1|exact hg.2.2.2.2.2.2.2.1|exact hg.2.2.2.2.2.2.2.2.1) h0 hn fun m hm h0 _ hn hs=>?_;subst hm;try dsimp only)
  | (refine sz_fn wSzHead_ok (by first|exact hg.1|exact hg.2.1|exact hg.2.2.1|exact hg.2.2.2.1|exact hg.2.2.2.2.1|exact hg.2.2.2.2.2.1|exact hg.2.2.2.2.2.2.1|exact hg.2.2.2.2.2.2.2.1|exact hg.2.2.2.2.2.2.2.2.1) h0 hn fun m h0 _ hn hs=>?_;try dsimp only)
  | (refine sz_fn wSzCommittee_ok (by first|exact hg.1|exact hg.2.1|exact hg.2.2.1|exact hg.2.2.2.1|exact hg.2.2.2.2.1|exact hg.2.2.2.2.2.1|exact hg.2.2.2.2.2.2.1|exact hg.2.2.2.2.2.2.2.1|exact hg.2.2.2.2.2.2.2.2.1) h0 hn fun m h0 _ hn hs=>?_;try dsimp only)
  | (refine sz_fn wSzKeys_ok (by first|exact hg.1|exact hg.2.1|exact hg.2.2.1|exact hg.2.2.2.1|exact hg.2.2.2.2.1|exact hg.2.2.2.2.2.1|exact hg.2.2.2.2.2.2.1|exact hg.2.2.2.2.2.2.2.1|exact hg.2.2.2.2.2.2.2.2.1) h0 hn fun m h0 _ hn hs=>?_;try dsimp only)
theorem wSzBridge_ok:SzOk TBridge wSzBridge_d:=by
 intro x n hg h0 hn
 rw[wSzBridge_b]
 repeat' first
  |exact sz_end h0 (by repeat' (first|exact trivial|assumption|refine And.intro ?_ ?_))
  | (refine sz_str (by first|exact hg.1|exact hg.2.1|exact hg.2.2.1|exact hg.2.2.2.1|exact hg.2.2.2.2.1|exact hg.2.2.2.2.2.1|exact hg.2.2.2.2.2.2.1|exact hg.2.2.2.2.2.2.2.1|exact hg.2.2.2.2.2.2.2.2.1) h0 hn fun m hm h0 _ hn hs=>?_;subst hm;try dsimp only)
  | (refine sz_fn wSzClient_ok (by first|exact hg.1|exact hg.2.1|exact hg.2.2.1|exact hg.2.2.2.1|exact hg.2.2.2.2.1|exact hg.2.2.2.2.2.1|exact hg.2.2.2.2.2.2.1|exact hg.2.2.2.2.2.2.2.1|exact hg.2.2.2.2.2.2.2.2.1) h0 hn fun m h0 _ hn hs=>?_;try dsimp only)
  | (refine sz_fn wSzStringS_ok (by first|exact hg.1|exact hg.2.1|exact hg.2.2.1|exact hg.2.2.2.1|exact hg.2.2.2.2.1|exact hg.2.2.2.2.2.1|exact hg.2.2.2.2.2.2.1|exact hg.2.2.2.2.2.2.2.1|exact hg.2.2.2.2.2.2.2.2.1) h0 hn fun m h0 _ hn hs=>?_;try dsimp only)
theorem wSzWorld_ok:SzOk TWorld wSzWorld_d:=by
 intro x n hg h0 hn
 rw[wSzWorld_b]
 repeat' first
  |exact sz_end h0 (by repeat' (first|exact trivial|assumption|refine And.intro ?_ ?_))
  | (refine sz_str (by first|exact hg.1|exact hg.2.1|exact hg.2.2.1|exact hg.2.2.2.1|exact hg.2.2.2.2.1|exact hg.2.2.2.2.2.1|exact hg.2.2.2.2.2.2.1|exact hg.2.2.2.2.2.2.2.1|exact hg.2.2.2.2.2.2.2.2.1) h0 hn fun m hm h0 _ hn hs=>?_;subst hm;try dsimp only)
  | (refine sz_fn wSzChain_ok (by first|exact hg.1|exact hg.2.1|exact hg.2.2.1|exact hg.2.2.2.1|exact hg.2.2.2.2.1|exact hg.2.2.2.2.2.1|exact hg.2.2.2.2.2.2.1|exact hg.2.2.2.2.2.2.2.1|exact hg.2.2.2.2.2.2.2.2.1) h0 hn fun m h0 _ hn hs=>?_;try dsimp only)
  | (refine sz_fn wSzMaker_ok (by first|exact hg.1|exact hg.2.1|exact hg.2.2.1|exact hg.2.2.2.1|exact hg.2.2.2.2.1|exact hg.2.2.2.2.2.1|exact hg.2.2.2.2.2.2.1|exact hg.2.2.2.2.2.2.2.1|exact hg.2.2.2.2.2.2.2.2.1) h0 hn fun m h0 _ hn hs=>?_;try dsimp only)
  | (refine sz_fn wSzBridge_ok (by first|exact hg.1|exact hg.2.1|exact hg.2.2.1|exact hg.2.2.2.1|exact hg.2.2.2.2.1|exact hg.2.2.2.2.2.1|exact hg.2.2.2.2.2.2.1|exact hg.2.2.2.2.2.2.2.1|exact hg.2.2.2.2.2.2.2.2.1) h0 hn fun m h0 _ hn hs=>?_;try dsimp only)
  | (refine sz_fn wSzIntS_ok (by first|exact hg.1|exact hg.2.1|exact hg.2.2.1|exact hg.2.2.2.1|exact hg.2.2.2.2.1|exact hg.2.2.2.2.2.1|exact hg.2.2.2.2.2.2.1|exact hg.2.2.2.2.2.2.2.1|exact hg.2.2.2.2.2.2.2.2.1) h0 hn fun m h0 _ hn hs=>?_;try dsimp only)
  | (refine sz_fn wSzStringS_ok (by first|exact hg.1|exact hg.2.1|exact hg.2.2.1|exact hg.2.2.2.1|exact hg.2.2.2.2.1|exact hg.2.2.2.2.2.1|exact hg.2.2.2.2.2.2.1|exact hg.2.2.2.2.2.2.2.1|exact hg.2.2.2.2.2.2.2.2.1) h0 hn fun m h0 _ hn hs=>?_;try dsimp only)
theorem wToPair_ok:ToOk TPair wToPair_d:=by
 intro x hg
 exact wToPair_b x
theorem wToPairS_ok:ToOk (.sl TPair) wToPairS_d:=(to_slice (z:=zPair) wToPair_ok (fun x=>wToPairS_q3 x.1 x.2.1 x.2.2.1) (q:=2) (by decide)).congr fun x=>wToPairS_b x
theorem wToAccount_ok:ToOk TAccount wToAccount_d:=by
 intro x hg
 have e0:=wToPairS_ok x.2.2.2.1 hg.2.2.2.1
 rw[wToAccount_b]
 simp only[bnd,Option.bind_some,e0]
 try rfl
theorem wToAccountS_ok:ToOk (.sl TAccount) wToAccountS_d:=(to_slice (z:=zAccount) wToAccount_ok (fun x=>wToAccountS_q3 x.1 x.2.1 x.2.2.1) (q:=4) (by decide)).congr fun x=>wToAccountS_b x
theorem wToChain_ok:ToOk TChain wToChain_d:=by
 intro x hg
 have e0:=wToAccountS_ok x.2.1 hg.2.1
 rw[wToChain_b]
 simp only[bnd,Option.bind_some,e0]
 try rfl
theorem wToPoint_ok:ToOk TPoint wToPoint_d:=by
 intro x hg
 exact wToPoint_b x
theorem wToPointS_ok:ToOk (.sl TPoint) wToPointS_d:=(to_slice (z:=zPoint) wToPoint_ok (fun x=>wToPointS_q3 x.1 x.2.1 x.2.2.1) (q:=3) (by decide)).congr fun x=>wToPointS_b x
theorem wToKeys_ok:ToOk TKeys wToKeys_d:=by
 intro x hg
 have e0:=wToPoint_ok x.1 hg.1
 have e1:=wToPoint_ok x.2.1 hg.2.1
 have e2:=wToPoint_ok x.2.2.1 hg.2.2.1
 have e3:=wToPoint_ok x.2.2.2.1 hg.2.2.2.1
 have e4:=wToPointS_ok x.2.2.2.2.1 hg.2.2.2.2.1
 rw[wToKeys_b]
 simp only[bnd,Option.bind_some,e0,e1,e2,e3,e4]
 try rfl
theorem wToMaker_ok:ToOk TMaker wToMaker_d:=by
 intro x hg
 have e0:=wToKeys_ok x.1 hg.1
 have e1:=wToPointS_ok x.2.1 hg.2.1
 have e2:=wToPointS_ok x.2.2.1 hg.2.2.1
 have e3:=wToPointS_ok x.2.2.2.1 hg.2.2.2.1
 have e4:=wToPointS_ok x.2.2.2.2.1 hg.2.2.2.2.1
 rw[wToMaker_b]
 simp only[bnd,Option.bind_some,e0,e1,e2,e3,e4]
 try rfl
theorem wToHead_ok:ToOk THead wToHead_d:=by
 intro x hg
 exact wToHead_b x
theorem wToCommittee_ok:ToOk TCommittee wToCommittee_d:=by
 intro x hg
 have e0:=wToPointS_ok x.1 hg.1
 rw[wToCommittee_b]
 simp only[bnd,Option.bind_some,e0]
 try rfl
theorem wToClient_ok:ToOk TClient wToClient_d:=by
 intro x hg
 have e0:=wToHead_ok x.1 hg.1
 have e1:=wToCommittee_ok x.2.1 hg.2.1
 have e2:=wToCommittee_ok x.2.2.1 hg.2.2.1
 have e3:=wToKeys_ok x.2.2.2.2.1 hg.2.2.2.2.1
 rw[wToClient_b]
 simp only[bnd,Option.bind_some,e0,e1,e2,e3]
 try rfl
theorem wToStringS_ok:ToOk (.sl .str) wToStringS_d:=(to_slice (t:= .str) (z:=(bs [])) (fe:=fun x=>some ((x.1,()),())) (fun x _=>rfl) (fun x=>wToStringS_q3 x.1 x.2.1 x.2.2.1) (q:=1) (by decide)).congr fun x=>wToStringS_b x
theorem wToBridge_ok:ToOk TBridge wToBridge_d:=by
 intro x hg
 have e0:=wToClient_ok x.1 hg.1
 have e1:=wToClient_ok x.2.1 hg.2.1
 have e2:=wToStringS_ok x.2.2.2.2.1 hg.2.2.2.2.1
 rw[wToBridge_b]
 simp only[bnd,Option.bind_some,e0,e1,e2]
 try rfl
theorem wToIntS_ok:ToOk (.sl (.int .i64)) wToIntS_d:=(to_slice (t:=(.int .i64)) (z:=(0:Int)) (fe:=fun x=>some ((x.1,()),())) (fun x _=>rfl) (fun x=>wToIntS_q3 x.1 x.2.1 x.2.2.1) (q:=1) (by decide)).congr fun x=>wToIntS_b x
theorem wToWorld_ok:ToOk TWorld wToWorld_d:=by
 intro x hg
 have e0:=wToChain_ok x.1 hg.1
 have e1:=wToMaker_ok x.2.1 hg.2.1
 have e2:=wToBridge_ok x.2.2.1 hg.2.2.1
 have e3:=wToIntS_ok x.2.2.2.1 hg.2.2.2.1
 have e4:=wToStringS_ok x.2.2.2.2.1 hg.2.2.2.2.1
 rw[wToWorld_b]
 simp only[bnd,Option.bind_some,e0,e1,e2,e3,e4]
 try rfl
theorem wEqPair_ok:EqOk TPair wEqPair_d:=by
 intro x hg
 rw[wEqPair_b]
 simp only[bnd,Option.bind_some,cnd,cond_true,cond_false,sne_self,ine_self,bneB_self,bnot,Bool.not_true]
theorem wEqPairS_ok:EqOk (.sl TPair) wEqPairS_d:=(eq_slice (z:=zPair) wEqPair_ok (fun x=>wEqPairS_q4 x.1 x.2.1 x.2.2.1)).congr fun x y=>wEqPairS_b x y
theorem wEqAccount_ok:EqOk TAccount wEqAccount_d:=by
 intro x hg
 have e0:=wEqPairS_ok x.2.2.2.1 hg.2.2.2.1
 rw[wEqAccount_b]
 simp only[bnd,Option.bind_some,cnd,cond_true,cond_false,sne_self,ine_self,bneB_self,bnot,Bool.not_true,e0]
theorem wEqAccountS_ok:EqOk (.sl TAccount) wEqAccountS_d:=(eq_slice (z:=zAccount) wEqAccount_ok (fun x=>wEqAccountS_q4 x.1 x.2.1 x.2.2.1)).congr fun x y=>wEqAccountS_b x y
theorem wEqChain_ok:EqOk TChain wEqChain_d:=by
 intro x hg
 have e0:=wEqAccountS_ok x.2.1 hg.2.1
 rw[wEqChain_b]
 simp only[bnd,Option.bind_some,cnd,cond_true,cond_false,sne_self,ine_self,bneB_self,bnot,Bool.not_true,e0]
theorem wEqPoint_ok:EqOk TPoint wEqPoint_d:=by
 intro x hg
 rw[wEqPoint_b]
 simp only[bnd,Option.bind_some,cnd,cond_true,cond_false,sne_self,ine_self,bneB_self,bnot,Bool.not_true]
theorem wEqPointS_ok:EqOk (.sl TPoint) wEqPointS_d:=(eq_slice (z:=zPoint) wEqPoint_ok (fun x=>wEqPointS_q4 x.1 x.2.1 x.2.2.1)).congr fun x y=>wEqPointS_b x y
theorem wEqKeys_ok:EqOk TKeys wEqKeys_d:=by
 intro x hg
 have e0:=wEqPoint_ok x.1 hg.1
 have e1:=wEqPoint_ok x.2.1 hg.2.1
 have e2:=wEqPoint_ok x.2.2.1 hg.2.2.1
 have e3:=wEqPoint_ok x.2.2.2.1 hg.2.2.2.1
 have e4:=wEqPointS_ok x.2.2.2.2.1 hg.2.2.2.2.1
 rw[wEqKeys_b]
 simp only[bnd,Option.bind_some,cnd,cond_true,cond_false,sne_self,ine_self,bneB_self,bnot,Bool.not_true,e0,e1,e2,e3,e4]
theorem wEqMaker_ok:EqOk TMaker wEqMaker_d:=by
 intro x hg
 have e0:=wEqKeys_ok x.1 hg.1
 have e1:=wEqPointS_ok x.2.1 hg.2.1
 have e2:=wEqPointS_ok x.2.2.1 hg.2.2.1
 have e3:=wEqPointS_ok x.2.2.2.1 hg.2.2.2.1
 have e4:=wEqPointS_ok x.2.2.2.2.1 hg.2.2.2.2.1
 rw[wEqMaker_b]
 simp only[bnd,Option.bind_some,cnd,cond_true,cond_false,sne_self,ine_self,bneB_self,bnot,Bool.not_true,e0,e1,e2,e3,e4]
theorem wEqHead_ok:EqOk THead wEqHead_d:=by
 intro x hg
 rw[wEqHead_b]
 simp only[bnd,Option.bind_some,cnd,cond_true,cond_false,sne_self,ine_self,bneB_self,bnot,Bool.not_true]
theorem wEqCommittee_ok:EqOk TCommittee wEqCommittee_d:=by
 intro x hg
 have e0:=wEqPointS_ok x.1 hg.1
 rw[wEqCommittee_b]
 simp only[bnd,Option.bind_some,cnd,cond_true,cond_false,sne_self,ine_self,bneB_self,bnot,Bool.not_true,e0]
theorem wEqClient_ok:EqOk TClient wEqClient_d:=by
 intro x hg
 have e0:=wEqHead_ok x.1 hg.1
 have e1:=wEqCommittee_ok x.2.1 hg.2.1
 have e2:=wEqCommittee_ok x.2.2.1 hg.2.2.1
 have e3:=wEqKeys_ok x.2.2.2.2.1 hg.2.2.2.2.1
 rw[wEqClient_b]
 simp only[bnd,Option.bind_some,cnd,cond_true,cond_false,sne_self,ine_self,bneB_self,bnot,Bool.not_true,e0,e1,e2,e3]
theorem wEqBridge_ok:EqOk TBridge wEqBridge_d:=by
 intro x hg
 have e0:=wEqClient_ok x.1 hg.1
 have e1:=wEqClient_ok x.2.1 hg.2.1
 have e2:=wEqStringS_ok x.2.2.2.2.1 hg.2.2.2.2.1
 rw[wEqBridge_b]
 simp only[bnd,Option.bind_some,cnd,cond_true,cond_false,sne_self,ine_self,bneB_self,bnot,Bool.not_true,e0,e1,e2]
theorem wEqWorld_ok:EqOk TWorld wEqWorld_d:=by
 intro x hg
 have e0:=wEqChain_ok x.1 hg.1
 have e1:=wEqMaker_ok x.2.1 hg.2.1
 have e2:=wEqBridge_ok x.2.2.1 hg.2.2.1
 have e3:=wEqIntS_ok x.2.2.2.1 hg.2.2.2.1
 have e4:=wEqStringS_ok x.2.2.2.2.1 hg.2.2.2.2.1
 rw[wEqWorld_b]
 simp only[bnd,Option.bind_some,cnd,cond_true,cond_false,sne_self,ine_self,bneB_self,bnot,Bool.not_true,e0,e1,e2,e3,e4]
end Go.Proofs.YtonggnnjobapcaaGreatDoor
