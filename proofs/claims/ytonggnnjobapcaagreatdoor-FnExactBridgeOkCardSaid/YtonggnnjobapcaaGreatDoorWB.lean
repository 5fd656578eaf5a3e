/- What is measured, copied, compared, marked and held: printed by program. Of no condition. -/
import Derived.Test.YtonggnnjobapcaaGreatDoorWA
set_option linter.unusedVariables false
set_option linter.unusedSimpArgs false
set_option maxRecDepth 100000
namespace Go.Proofs.YtonggnnjobapcaaGreatDoor
open Go.TV
theorem wSzHead_ok:SzOk THead wSzHead_d:=by
 intro x n hg h0 hn
 rw[wSzHead_b]
 repeat' first
  |exact sz_end h0 (by repeat' (first|exact trivial|assumption|refine And.intro ?_ ?_))
  | (refine sz_str (by first|exact hg.1|exact hg.2.1|exact hg.2.2.1|exact hg.2.2.2.1|exact hg.2.2.2.2.1|exact hg.2.2.2.2.2.1|exact hg.2.2.2.2.2.2.1|exact hg.2.2.2.2.2.2.2.1|exact hg.2.2.2.2.2.2.2.2.1) h0 hn fun m hm h0 _ hn hs=>?_;subst hm;try dsimp only)
theorem wSzPointS_ok:SzOk (.sl TPoint) wSzPointS_d:=(sz_len (t:=TPoint) (fun x=>by repeat' first|exact trivial|constructor)).congr fun x n=>wSzPointS_b x n
theorem wSzCommittee_ok:SzOk TCommittee wSzCommittee_d:=by
 intro x n hg h0 hn
 rw[wSzCommittee_b]
 repeat' first
  |exact sz_end h0 (by repeat' (first|exact trivial|assumption|refine And.intro ?_ ?_))
  | (refine sz_str (by first|exact hg.1|exact hg.2.1|exact hg.2.2.1|exact hg.2.2.2.1|exact hg.2.2.2.2.1|exact hg.2.2.2.2.2.1|exact hg.2.2.2.2.2.2.1|exact hg.2.2.2.2.2.2.2.1|exact hg.2.2.2.2.2.2.2.2.1) h0 hn fun m hm h0 _ hn hs=>?_;subst hm;try dsimp only)
  | (refine sz_fn wSzPointS_ok (by first|exact hg.1|exact hg.2.1|exact hg.2.2.1|exact hg.2.2.2.1|exact hg.2.2.2.2.1|exact hg.2.2.2.2.2.1|exact hg.2.2.2.2.2.2.1|exact hg.2.2.2.2.2.2.2.1|exact hg.2.2.2.2.2.2.2.2.1) h0 hn fun m h0 _ hn hs=>?_;try dsimp only)
theorem wSzKeys_ok:SzOk TKeys wSzKeys_d:=by
 intro x n hg h0 hn
 rw[wSzKeys_b]
 repeat' first
  |exact sz_end h0 (by repeat' (first|exact trivial|assumption|refine And.intro ?_ ?_))
  | (refine sz_str (by first|exact hg.1|exact hg.2.1|exact hg.2.2.1|exact hg.2.2.2.1|exact hg.2.2.2.2.1|exact hg.2.2.2.2.2.1|exact hg.2.2.2.2.2.2.1|exact hg.2.2.2.2.2.2.2.1|exact hg.2.2.2.2.2.2.2.2.1) h0 hn fun m hm h0 _ hn hs=>?_;subst hm;try dsimp only)
  | (refine sz_fn wSzPointS_ok (by first|exact hg.1|exact hg.2.1|exact hg.2.2.1|exact hg.2.2.2.1|exact hg.2.2.2.2.1|exact hg.2.2.2.2.2.1|exact hg.2.2.2.2.2.2.1|exact hg.2.2.2.2.2.2.2.1|exact hg.2.2.2.2.2.2.2.2.1) h0 hn fun m h0 _ hn hs=>?_;try dsimp only)
theorem wSzClient_ok:SzOk TClient wSzClient_d:=by
 intro x n hg h0 hn
 rw[wSzClient_b]
 repeat' first
  |exact sz_end h0 (by repeat' (first|exact trivial|assumption|refine And.intro ?_ ?_))
  | (refine sz_str (by first|exact hg.1|exact hg.2.1|exact hg.2.2.1|exact hg.2.2.2.1|exact hg.2.2.2.2.1|exact hg.2.2.2.2.2.1|exact hg.2.2.2.2.2.2.1|exact hg.2.2.2.2.2.2.2.1|exact hg.2.2.2.2.2.2.2.2.1) h0 hn fun m hm h0 _ hn hs=>?_;subst hm;try dsimp only)
  | (refine sz_fn wSzHead_ok (by first|exact hg.1|exact hg.2.1|exact hg.2.2.1|exact hg.2.2.2.1|exact hg.2.2.2.2.1|exact hg.2.2.2.2.2.1|exact hg.2.2.2.2.2.2.1|exact hg.2.2.2.2.2.2.2.1|exact hg.2.2.2.2.2.2.2.2.1) h0 hn fun m h0 _ hn hs=>?_;try dsimp only)
  | (refine sz_fn wSzCommittee_ok (by first|exact hg.1|exact hg.2.1|exact hg.2.2.1|exact hg.2.2.2.1|exact hg.2.2.2.2.1|exact hg.2.2.2.2.2.1|exact hg.2.2.2.2.2.2.1|exact hg.2.2.2.2.2.2.2.1|exact hg.2.2.2.2.2.2.2.2.1) h0 hn fun m h0 _ hn hs=>?_;try dsimp only)
  | (refine sz_fn wSzKeys_ok (by first|exact hg.1|exact hg.2.1|exact hg.2.2.1|exact hg.2.2.2.1|exact hg.2.2.2.2.1|exact hg.2.2.2.2.2.1|exact hg.2.2.2.2.2.2.1|exact hg.2.2.2.2.2.2.2.1|exact hg.2.2.2.2.2.2.2.2.1) h0 hn fun m h0 _ hn hs=>?_;try dsimp only)
theorem wSzBridge_ok:SzOk TBridge wSzBridge_d:=by
 intro x n hg h0 hn
 rw[wSzBridge_b]
 repeat' first
  |exact sz_end h0 (by repeat' (first|exact trivial|assumption|refine And.intro ?_ ?_))
  | (refine sz_str (by first|exact hg.1|exact hg.2.1|exact hg.2.2.1|exact hg.2.2.2.1|exact hg.2.2.2.2.1|exact hg.2.2.2.2.2.1|exact hg.2.2.2.2.2.2.1|exact hg.2.2.2.2.2.2.2.1|exact hg.2.2.2.2.2.2.2.2.1) h0 hn fun m hm h0 _ hn hs=>?_;subst hm;try dsimp only)
  | (refine sz_fn wSzClient_ok (by first|exact hg.1|exact hg.2.1|exact hg.2.2.1|exact hg.2.2.2.1|exact hg.2.2.2.2.1|exact hg.2.2.2.2.2.1|exact hg.2.2.2.2.2.2.1|exact hg.2.2.2.2.2.2.2.1|exact hg.2.2.2.2.2.2.2.2.1) h0 hn fun m h0 _ hn hs=>?_;try dsimp only)
  | (refine sz_fn wSzStringS_ok (by first|exact hg.1|exact hg.2.1|exact hg.2.2.1|exact hg.2.2.2.1|exact hg.2.2.2.2.1|exact hg.2.2.2.2.2.1|exact hg.2.2.2.2.2.2.1|exact hg.2.2.2.2.2.2.2.1|exact hg.2.2.2.2.2.2.2.2.1) h0 hn fun m h0 _ hn hs=>?_;try dsimp only)
theorem wToHead_ok:ToOk THead wToHead_d:=by
 intro x hg
 exact wToHead_b x
theorem wToPoint_ok:ToOk TPoint wToPoint_d:=by
 intro x hg
 exact wToPoint_b x
theorem wToPointS_ok:ToOk (.sl TPoint) wToPointS_d:=(to_slice (z:=zPoint) wToPoint_ok (fun x=>wToPointS_q3 x.1 x.2.1 x.2.2.1) (q:=3) (by decide)).congr fun x=>wToPointS_b x
theorem wToCommittee_ok:ToOk TCommittee wToCommittee_d:=by
 intro x hg
 have e0:=wToPointS_ok x.1 hg.1
 rw[wToCommittee_b]
 simp only[bnd,Option.bind_some,e0]
 try rfl
theorem wToKeys_ok:ToOk TKeys wToKeys_d:=by
 intro x hg
 have e0:=wToPoint_ok x.1 hg.1
 have e1:=wToPoint_ok x.2.1 hg.2.1
 have e2:=wToPoint_ok x.2.2.1 hg.2.2.1
 have e3:=wToPoint_ok x.2.2.2.1 hg.2.2.2.1
 have e4:=wToPointS_ok x.2.2.2.2.1 hg.2.2.2.2.1
 rw[wToKeys_b]
 simp only[bnd,Option.bind_some,e0,e1,e2,e3,e4]
 try rfl
theorem wToClient_ok:ToOk TClient wToClient_d:=by
 intro x hg
 have e0:=wToHead_ok x.1 hg.1
 have e1:=wToCommittee_ok x.2.1 hg.2.1
 have e2:=wToCommittee_ok x.2.2.1 hg.2.2.1
 have e3:=wToKeys_ok x.2.2.2.2.1 hg.2.2.2.2.1
 rw[wToClient_b]
 simp only[bnd,Option.bind_some,e0,e1,e2,e3]
 try rfl
theorem wToStringS_ok:ToOk (.sl .str) wToStringS_d:=(to_slice (t:= .str) (z:=(bs [])) (fe:=fun x=>some ((x.1,()),())) (fun x _=>rfl) (fun x=>wToStringS_q3 x.1 x.2.1 x.2.2.1) (q:=1) (by decide)).congr fun x=>wToStringS_b x
theorem wToBridge_ok:ToOk TBridge wToBridge_d:=by
 intro x hg
 have e0:=wToClient_ok x.1 hg.1
 have e1:=wToClient_ok x.2.1 hg.2.1
 have e2:=wToStringS_ok x.2.2.2.2.1 hg.2.2.2.2.1
 rw[wToBridge_b]
 simp only[bnd,Option.bind_some,e0,e1,e2]
 try rfl
theorem wEqHead_ok:EqOk THead wEqHead_d:=by
 intro x hg
 rw[wEqHead_b]
 simp only[bnd,Option.bind_some,cnd,cond_true,cond_false,sne_self,ine_self,bneB_self,bnot,Bool.not_true]
theorem wEqPoint_ok:EqOk TPoint wEqPoint_d:=by
 intro x hg
 rw[wEqPoint_b]
 simp only[bnd,Option.bind_some,cnd,cond_true,cond_false,sne_self,ine_self,bneB_self,bnot,Bool.not_true]
theorem wEqPointS_ok:EqOk (.sl TPoint) wEqPointS_d:=(eq_slice (z:=zPoint) wEqPoint_ok (fun x=>wEqPointS_q4 x.1 x.2.1 x.2.2.1)).congr fun x y=>wEqPointS_b x y
theorem wEqCommittee_ok:EqOk TCommittee wEqCommittee_d:=by
 intro x hg
 have e0:=wEqPointS_ok x.1 hg.1
 rw[wEqCommittee_b]
 simp only[bnd,Option.bind_some,cnd,cond_true,cond_false,sne_self,ine_self,bneB_self,bnot,Bool.not_true,e0]
theorem wEqKeys_ok:EqOk TKeys wEqKeys_d:=by
 intro x hg
 have e0:=wEqPoint_ok x.1 hg.1
 have e1:=wEqPoint_ok x.2.1 hg.2.1
 have e2:=wEqPoint_ok x.2.2.1 hg.2.2.1
 have e3:=wEqPoint_ok x.2.2.2.1 hg.2.2.2.1
 have e4:=wEqPointS_ok x.2.2.2.2.1 hg.2.2.2.2.1
 rw[wEqKeys_b]
 simp only[bnd,Option.bind_some,cnd,cond_true,cond_false,sne_self,ine_self,bneB_self,bnot,Bool.not_true,e0,e1,e2,e3,e4]
theorem wEqClient_ok:EqOk TClient wEqClient_d:=by
 intro x hg
 have e0:=wEqHead_ok x.1 hg.1
 have e1:=wEqCommittee_ok x.2.1 hg.2.1
 have e2:=wEqCommittee_ok x.2.2.1 hg.2.2.1
 have e3:=wEqKeys_ok x.2.2.2.2.1 hg.2.2.2.2.1
 rw[wEqClient_b]
 simp only[bnd,Option.bind_some,cnd,cond_true,cond_false,sne_self,ine_self,bneB_self,bnot,Bool.not_true,e0,e1,e2,e3]
theorem wEqBridge_ok:EqOk TBridge wEqBridge_d:=by
 intro x hg
 have e0:=wEqClient_ok x.1 hg.1
 have e1:=wEqClient_ok x.2.1 hg.2.1
 have e2:=wEqStringS_ok x.2.2.2.2.1 hg.2.2.2.2.1
 rw[wEqBridge_b]
 simp only[bnd,Option.bind_some,cnd,cond_true,cond_false,sne_self,ine_self,bneB_self,bnot,Bool.not_true,e0,e1,e2]
end Go.Proofs.YtonggnnjobapcaaGreatDoor
