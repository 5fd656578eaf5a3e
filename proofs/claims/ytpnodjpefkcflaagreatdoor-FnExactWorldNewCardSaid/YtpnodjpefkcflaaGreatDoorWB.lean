/- What is measured, copied, compared, marked and held: printed by program. Of no condition. -/
import Derived.Test.YtpnodjpefkcflaaGreatDoorWA
set_option linter.unusedVariables false
set_option linter.unusedSimpArgs false
set_option maxRecDepth 100000
namespace Go.Proofs.YtpnodjpefkcflaaGreatDoor
open Go.TV
theorem wSzPair_ok:SzOk TPair wSzPair_d:=by
 intro x n hg h0 hn
 rw[wSzPair_b]
 repeat' first
  |exact sz_end h0 (by repeat' (first|exact trivial|assumption|refine And.intro ?_ ?_))
  | (refine sz_str (by first|exact hg.1|exact hg.2.1|exact hg.2.2.1|exact hg.2.2.2.1|exact hg.2.2.2.2.1|exact hg.2.2.2.2.2.1|exact hg.2.2.2.2.2.2.1|exact hg.2.2.2.2.2.2.2.1|exact hg.2.2.2.2.2.2.2.2.1) h0 hn fun m hm h0 _ hn hs=>?_;subst hm;try dsimp only)
theorem wSzPairS_ok:SzOk (.sl TPair) wSzPairS_d:=(sz_slice (z:=zPair) wSzPair_ok (fun x=>wSzPairS_q5 x.1 x.2.1 x.2.2.1)).congr fun x n=>wSzPairS_b x n
theorem wSzAccount_ok:SzOk TAccount wSzAccount_d:=by
 intro x n hg h0 hn
 rw[wSzAccount_b]
 repeat' first
  |exact sz_end h0 (by repeat' (first|exact trivial|assumption|refine And.intro ?_ ?_))
  | (refine sz_str (by first|exact hg.1|exact hg.2.1|exact hg.2.2.1|exact hg.2.2.2.1|exact hg.2.2.2.2.1|exact hg.2.2.2.2.2.1|exact hg.2.2.2.2.2.2.1|exact hg.2.2.2.2.2.2.2.1|exact hg.2.2.2.2.2.2.2.2.1) h0 hn fun m hm h0 _ hn hs=>?_;subst hm;try dsimp only)
  | (refine sz_fn wSzPairS_ok (by first|exact hg.1|exact hg.2.1|exact hg.2.2.1|exact hg.2.2.2.1|exact hg.2.2.2.2.1|exact hg.2.2.2.2.2.1|exact hg.2.2.2.2.2.2.1|exact hg.2.2.2.2.2.2.2.1|exact hg.2.2.2.2.2.2.2.2.1) h0 hn fun m h0 _ hn hs=>?_;try dsimp only)
theorem wSzAccountS_ok:SzOk (.sl TAccount) wSzAccountS_d:=(sz_slice (z:=zAccount) wSzAccount_ok (fun x=>wSzAccountS_q5 x.1 x.2.1 x.2.2.1)).congr fun x n=>wSzAccountS_b x n
theorem wSzChain_ok:SzOk TChain wSzChain_d:=by
 intro x n hg h0 hn
 rw[wSzChain_b]
 repeat' first
  |exact sz_end h0 (by repeat' (first|exact trivial|assumption|refine And.intro ?_ ?_))
  | (refine sz_str (by first|exact hg.1|exact hg.2.1|exact hg.2.2.1|exact hg.2.2.2.1|exact hg.2.2.2.2.1|exact hg.2.2.2.2.2.1|exact hg.2.2.2.2.2.2.1|exact hg.2.2.2.2.2.2.2.1|exact hg.2.2.2.2.2.2.2.2.1) h0 hn fun m hm h0 _ hn hs=>?_;subst hm;try dsimp only)
  | (refine sz_fn wSzAccountS_ok (by first|exact hg.1|exact hg.2.1|exact hg.2.2.1|exact hg.2.2.2.1|exact hg.2.2.2.2.1|exact hg.2.2.2.2.2.1|exact hg.2.2.2.2.2.2.1|exact hg.2.2.2.2.2.2.2.1|exact hg.2.2.2.2.2.2.2.2.1) h0 hn fun m h0 _ hn hs=>?_;try dsimp only)
theorem wToPair_ok:ToOk TPair wToPair_d:=by
 intro x hg
 exact wToPair_b x
theorem wToPairS_ok:ToOk (.sl TPair) wToPairS_d:=(to_slice (z:=zPair) wToPair_ok (fun x=>wToPairS_q3 x.1 x.2.1 x.2.2.1) (q:=2) (by decide)).congr fun x=>wToPairS_b x
theorem wToAccount_ok:ToOk TAccount wToAccount_d:=by
 intro x hg
 have e0:=wToPairS_ok x.2.2.2.1 hg.2.2.2.1
 rw[wToAccount_b]
 simp only[bnd,Option.bind_some,e0]
 try rfl
theorem wToAccountS_ok:ToOk (.sl TAccount) wToAccountS_d:=(to_slice (z:=zAccount) wToAccount_ok (fun x=>wToAccountS_q3 x.1 x.2.1 x.2.2.1) (q:=4) (by decide)).congr fun x=>wToAccountS_b x
theorem wToChain_ok:ToOk TChain wToChain_d:=by
 intro x hg
 have e0:=wToAccountS_ok x.2.1 hg.2.1
 rw[wToChain_b]
 simp only[bnd,Option.bind_some,e0]
 try rfl
theorem wEqHead_ok:EqOk THead wEqHead_d:=by
 intro x hg
 rw[wEqHead_b]
 simp only[bnd,Option.bind_some,cnd,cond_true,cond_false,sne_self,ine_self,bneB_self,bnot,Bool.not_true]
theorem wEqPair_ok:EqOk TPair wEqPair_d:=by
 intro x hg
 rw[wEqPair_b]
 simp only[bnd,Option.bind_some,cnd,cond_true,cond_false,sne_self,ine_self,bneB_self,bnot,Bool.not_true]
theorem wEqPairS_ok:EqOk (.sl TPair) wEqPairS_d:=(eq_slice (z:=zPair) wEqPair_ok (fun x=>wEqPairS_q4 x.1 x.2.1 x.2.2.1)).congr fun x y=>wEqPairS_b x y
theorem wEqAccount_ok:EqOk TAccount wEqAccount_d:=by
 intro x hg
 have e0:=wEqPairS_ok x.2.2.2.1 hg.2.2.2.1
 rw[wEqAccount_b]
 simp only[bnd,Option.bind_some,cnd,cond_true,cond_false,sne_self,ine_self,bneB_self,bnot,Bool.not_true,e0]
theorem wEqAccountS_ok:EqOk (.sl TAccount) wEqAccountS_d:=(eq_slice (z:=zAccount) wEqAccount_ok (fun x=>wEqAccountS_q4 x.1 x.2.1 x.2.2.1)).congr fun x y=>wEqAccountS_b x y
theorem wEqChain_ok:EqOk TChain wEqChain_d:=by
 intro x hg
 have e0:=wEqAccountS_ok x.2.1 hg.2.1
 rw[wEqChain_b]
 simp only[bnd,Option.bind_some,cnd,cond_true,cond_false,sne_self,ine_self,bneB_self,bnot,Bool.not_true,e0]
theorem wSzHead_ok:SzOk THead wSzHead_d:=by
 intro x n hg h0 hn
 rw[wSzHead_b]
 repeat' first
  |exact sz_end h0 (by repeat' (first|exact trivial|assumption|refine And.intro ?_ ?_))
  | (refine sz_str (by first|exact hg.1|exact hg.2.1|exact hg.2.2.1|exact hg.2.2.2.1|exact hg.2.2.2.2.1|exact hg.2.2.2.2.2.1|exact hg.2.2.2.2.2.2.1|exact hg.2.2.2.2.2.2.2.1|exact hg.2.2.2.2.2.2.2.2.1) h0 hn fun m hm h0 _ hn hs=>?_;subst hm;try dsimp only)
theorem wToHead_ok:ToOk THead wToHead_d:=by
 intro x hg
 exact wToHead_b x
theorem wSzPointS_ok:SzOk (.sl TPoint) wSzPointS_d:=(sz_len (t:=TPoint) (fun x=>by repeat' first|exact trivial|constructor)).congr fun x n=>wSzPointS_b x n
theorem wSzKeys_ok:SzOk TKeys wSzKeys_d:=by
 intro x n hg h0 hn
 rw[wSzKeys_b]
 repeat' first
  |exact sz_end h0 (by repeat' (first|exact trivial|assumption|refine And.intro ?_ ?_))
  | (refine sz_str (by first|exact hg.1|exact hg.2.1|exact hg.2.2.1|exact hg.2.2.2.1|exact hg.2.2.2.2.1|exact hg.2.2.2.2.2.1|exact hg.2.2.2.2.2.2.1|exact hg.2.2.2.2.2.2.2.1|exact hg.2.2.2.2.2.2.2.2.1) h0 hn fun m hm h0 _ hn hs=>?_;subst hm;try dsimp only)
  | (refine sz_fn wSzPointS_ok (by first|exact hg.1|exact hg.2.1|exact hg.2.2.1|exact hg.2.2.2.1|exact hg.2.2.2.2.1|exact hg.2.2.2.2.2.1|exact hg.2.2.2.2.2.2.1|exact hg.2.2.2.2.2.2.2.1|exact hg.2.2.2.2.2.2.2.2.1) h0 hn fun m h0 _ hn hs=>?_;try dsimp only)
theorem wSzMaker_ok:SzOk TMaker wSzMaker_d:=by
 intro x n hg h0 hn
 rw[wSzMaker_b]
 repeat' first
  |exact sz_end h0 (by repeat' (first|exact trivial|assumption|refine And.intro ?_ ?_))
  | (refine sz_str (by first|exact hg.1|exact hg.2.1|exact hg.2.2.1|exact hg.2.2.2.1|exact hg.2.2.2.2.1|exact hg.2.2.2.2.2.1|exact hg.2.2.2.2.2.2.1|exact hg.2.2.2.2.2.2.2.1|exact hg.2.2.2.2.2.2.2.2.1) h0 hn fun m hm h0 _ hn hs=>?_;subst hm;try dsimp only)
  | (refine sz_fn wSzKeys_ok (by first|exact hg.1|exact hg.2.1|exact hg.2.2.1|exact hg.2.2.2.1|exact hg.2.2.2.2.1|exact hg.2.2.2.2.2.1|exact hg.2.2.2.2.2.2.1|exact hg.2.2.2.2.2.2.2.1|exact hg.2.2.2.2.2.2.2.2.1) h0 hn fun m h0 _ hn hs=>?_;try dsimp only)
  | (refine sz_fn wSzPointS_ok (by first|exact hg.1|exact hg.2.1|exact hg.2.2.1|exact hg.2.2.2.1|exact hg.2.2.2.2.1|exact hg.2.2.2.2.2.1|exact hg.2.2.2.2.2.2.1|exact hg.2.2.2.2.2.2.2.1|exact hg.2.2.2.2.2.2.2.2.1) h0 hn fun m h0 _ hn hs=>?_;try dsimp only)
theorem wToPoint_ok:ToOk TPoint wToPoint_d:=by
 intro x hg
 exact wToPoint_b x
theorem wToPointS_ok:ToOk (.sl TPoint) wToPointS_d:=(to_slice (z:=zPoint) wToPoint_ok (fun x=>wToPointS_q3 x.1 x.2.1 x.2.2.1) (q:=3) (by decide)).congr fun x=>wToPointS_b x
theorem wToKeys_ok:ToOk TKeys wToKeys_d:=by
 intro x hg
 have e0:=wToPoint_ok x.1 hg.1
 have e1:=wToPoint_ok x.2.1 hg.2.1
 have e2:=wToPoint_ok x.2.2.1 hg.2.2.1
 have e3:=wToPoint_ok x.2.2.2.1 hg.2.2.2.1
 have e4:=wToPointS_ok x.2.2.2.2.1 hg.2.2.2.2.1
 rw[wToKeys_b]
 simp only[bnd,Option.bind_some,e0,e1,e2,e3,e4]
 try rfl
theorem wToMaker_ok:ToOk TMaker wToMaker_d:=by
 intro x hg
 have e0:=wToKeys_ok x.1 hg.1
 have e1:=wToPointS_ok x.2.1 hg.2.1
 have e2:=wToPointS_ok x.2.2.1 hg.2.2.1
 have e3:=wToPointS_ok x.2.2.2.1 hg.2.2.2.1
 have e4:=wToPointS_ok x.2.2.2.2.1 hg.2.2.2.2.1
 rw[wToMaker_b]
 simp only[bnd,Option.bind_some,e0,e1,e2,e3,e4]
 try rfl
theorem wEqPoint_ok:EqOk TPoint wEqPoint_d:=by
 intro x hg
 rw[wEqPoint_b]
 simp only[bnd,Option.bind_some,cnd,cond_true,cond_false,sne_self,ine_self,bneB_self,bnot,Bool.not_true]
theorem wEqPointS_ok:EqOk (.sl TPoint) wEqPointS_d:=(eq_slice (z:=zPoint) wEqPoint_ok (fun x=>wEqPointS_q4 x.1 x.2.1 x.2.2.1)).congr fun x y=>wEqPointS_b x y
theorem wEqCommittee_ok:EqOk TCommittee wEqCommittee_d:=by
 intro x hg
 have e0:=wEqPointS_ok x.1 hg.1
 rw[wEqCommittee_b]
 simp only[bnd,Option.bind_some,cnd,cond_true,cond_false,sne_self,ine_self,bneB_self,bnot,Bool.not_true,e0]
theorem wEqKeys_ok:EqOk TKeys wEqKeys_d:=by
 intro x hg
 have e0:=wEqPoint_ok x.1 hg.1
 have e1:=wEqPoint_ok x.2.1 hg.2.1
 have e2:=wEqPoint_ok x.2.2.1 hg.2.2.1
 have e3:=wEqPoint_ok x.2.2.2.1 hg.2.2.2.1
 have e4:=wEqPointS_ok x.2.2.2.2.1 hg.2.2.2.2.1
 rw[wEqKeys_b]
 simp only[bnd,Option.bind_some,cnd,cond_true,cond_false,sne_self,ine_self,bneB_self,bnot,Bool.not_true,e0,e1,e2,e3,e4]
theorem wEqClient_ok:EqOk TClient wEqClient_d:=by
 intro x hg
 have e0:=wEqHead_ok x.1 hg.1
 have e1:=wEqCommittee_ok x.2.1 hg.2.1
 have e2:=wEqCommittee_ok x.2.2.1 hg.2.2.1
 have e3:=wEqKeys_ok x.2.2.2.2.1 hg.2.2.2.2.1
 rw[wEqClient_b]
 simp only[bnd,Option.bind_some,cnd,cond_true,cond_false,sne_self,ine_self,bneB_self,bnot,Bool.not_true,e0,e1,e2,e3]
theorem wEqMaker_ok:EqOk TMaker wEqMaker_d:=by
 intro x hg
 have e0:=wEqKeys_ok x.1 hg.1
 have e1:=wEqPointS_ok x.2.1 hg.2.1
 have e2:=wEqPointS_ok x.2.2.1 hg.2.2.1
 have e3:=wEqPointS_ok x.2.2.2.1 hg.2.2.2.1
 have e4:=wEqPointS_ok x.2.2.2.2.1 hg.2.2.2.2.1
 rw[wEqMaker_b]
 simp only[bnd,Option.bind_some,cnd,cond_true,cond_false,sne_self,ine_self,bneB_self,bnot,Bool.not_true,e0,e1,e2,e3,e4]
noncomputable def mkCommittee (x:tCommittee) (k:Int):tCommittee×Int:=(((mkPointS x.1 k).1,x.2),(mkPointS x.1 k).2)
abbrev mkBCommittee:Nat:=mkBPointS
theorem wMarkCommittee_ok:MkOk TCommittee wMarkCommittee_d wHeldCommittee_d mkBCommittee mkCommittee:=by
 intro x k hf h0 hk
 simp only[mkBCommittee] at hk
 obtain ⟨a0,b0,l0,u0⟩:=wMarkPointS_ok x.1 k hf.1 (by omega) (by omega)
 refine ⟨?_,?_,?_,?_⟩
 ·rw[wMarkCommittee_b];simp only[bnd,Option.bind_some,a0];rfl
 ·rw[wHeldCommittee_b];simp only[mkCommittee,bnd,Option.bind_some,b0]
  simp only[ilt_f (x:=(mkPointS x.1 k).2) (y:=0) (by omega),cnd,cond_false]
 ·show k≤(mkPointS x.1 k).2;omega
 ·show (mkPointS x.1 k).2≤_;simp only[mkBCommittee];omega
theorem wMarkCommittee_mk:Mk1 TCommittee wMarkCommittee_d mkBCommittee mkCommittee:=wMarkCommittee_ok.one
noncomputable def mkKeys (x:tKeys) (k:Int):tKeys×Int:=((x.1,(x.2.1,(x.2.2.1,(x.2.2.2.1,((mkPointS x.2.2.2.2.1 k).1,x.2.2.2.2.2))))),(mkPointS x.2.2.2.2.1 k).2)
abbrev mkBKeys:Nat:=mkBPointS
theorem wMarkKeys_ok:MkOk TKeys wMarkKeys_d wHeldKeys_d mkBKeys mkKeys:=by
 intro x k hf h0 hk
 simp only[mkBKeys] at hk
 obtain ⟨a0,b0,l0,u0⟩:=wMarkPointS_ok x.2.2.2.2.1 k hf.2.2.2.2.1 (by omega) (by omega)
 refine ⟨?_,?_,?_,?_⟩
 ·rw[wMarkKeys_b];simp only[bnd,Option.bind_some,a0];rfl
 ·rw[wHeldKeys_b];simp only[mkKeys,bnd,Option.bind_some,b0]
  simp only[ilt_f (x:=(mkPointS x.2.2.2.2.1 k).2) (y:=0) (by omega),cnd,cond_false]
 ·show k≤(mkPointS x.2.2.2.2.1 k).2;omega
 ·show (mkPointS x.2.2.2.2.1 k).2≤_;simp only[mkBKeys];omega
theorem wMarkKeys_mk:Mk1 TKeys wMarkKeys_d mkBKeys mkKeys:=wMarkKeys_ok.one
noncomputable def mkClient (x:tClient) (k:Int):tClient×Int:=((x.1,((mkCommittee x.2.1 k).1,((mkCommittee x.2.2.1 (mkCommittee x.2.1 k).2).1,(x.2.2.2.1,((mkKeys x.2.2.2.2.1 (mkCommittee x.2.2.1 (mkCommittee x.2.1 k).2).2).1,x.2.2.2.2.2))))),(mkKeys x.2.2.2.2.1 (mkCommittee x.2.2.1 (mkCommittee x.2.1 k).2).2).2)
abbrev mkBClient:Nat:=mkBCommittee+mkBCommittee+mkBKeys
theorem wMarkClient_ok:MkOk TClient wMarkClient_d wHeldClient_d mkBClient mkClient:=by
 intro x k hf h0 hk
 simp only[mkBClient] at hk
 obtain ⟨a0,b0,l0,u0⟩:=wMarkCommittee_ok x.2.1 k hf.2.1 (by omega) (by omega)
 obtain ⟨a1,b1,l1,u1⟩:=wMarkCommittee_ok x.2.2.1 (mkCommittee x.2.1 k).2 hf.2.2.1 (by omega) (by omega)
 obtain ⟨a2,b2,l2,u2⟩:=wMarkKeys_ok x.2.2.2.2.1 (mkCommittee x.2.2.1 (mkCommittee x.2.1 k).2).2 hf.2.2.2.2.1 (by omega) (by omega)
 refine ⟨?_,?_,?_,?_⟩
 ·rw[wMarkClient_b];simp only[bnd,Option.bind_some,a0,a1,a2];rfl
 ·rw[wHeldClient_b];simp only[mkClient,bnd,Option.bind_some,b0,b1,b2]
  simp only[ilt_f (x:=(mkCommittee x.2.1 k).2) (y:=0) (by omega),ilt_f (x:=(mkCommittee x.2.2.1 (mkCommittee x.2.1 k).2).2) (y:=0) (by omega),ilt_f (x:=(mkKeys x.2.2.2.2.1 (mkCommittee x.2.2.1 (mkCommittee x.2.1 k).2).2).2) (y:=0) (by omega),cnd,cond_false]
 ·show k≤(mkKeys x.2.2.2.2.1 (mkCommittee x.2.2.1 (mkCommittee x.2.1 k).2).2).2;omega
 ·show (mkKeys x.2.2.2.2.1 (mkCommittee x.2.2.1 (mkCommittee x.2.1 k).2).2).2≤_;simp only[mkBClient];omega
theorem wMarkClient_mk:Mk1 TClient wMarkClient_d mkBClient mkClient:=wMarkClient_ok.one
theorem wSzCommittee_ok:SzOk TCommittee wSzCommittee_d:=by
 intro x n hg h0 hn
 rw[wSzCommittee_b]
 repeat' first
  |exact sz_end h0 (by repeat' (first|exact trivial|assumption|refine And.intro ?_ ?_))
  | (refine sz_str (by first|exact hg.1|exact hg.2.1|exact hg.2.2.1|exact hg.2.2.2.1|exact hg.2.2.2.2.1|exact hg.2.2.2.2.2.1|exact hg.2.2.2.2.2.2.1|exact hg.2.2.2.2.2.2.2.1|exact hg.2.2.2.2.2.2.2.2.1) h0 hn fun m hm h0 _ hn hs=>?_;subst hm;try dsimp only)
  | (refine sz_fn wSzPointS_ok (by first|exact hg.1|exact hg.2.1|exact hg.2.2.1|exact hg.2.2.2.1|exact hg.2.2.2.2.1|exact hg.2.2.2.2.2.1|exact hg.2.2.2.2.2.2.1|exact hg.2.2.2.2.2.2.2.1|exact hg.2.2.2.2.2.2.2.2.1) h0 hn fun m h0 _ hn hs=>?_;try dsimp only)
theorem wSzClient_ok:SzOk TClient wSzClient_d:=by
 intro x n hg h0 hn
 rw[wSzClient_b]
 repeat' first
  |exact sz_end h0 (by repeat' (first|exact trivial|assumption|refine And.intro ?_ ?_))
  | (refine sz_str (by first|exact hg.1|exact hg.2.1|exact hg.2.2.1|exact hg.2.2.2.1|exact hg.2.2.2.2.1|exact hg.2.2.2.2.2.1|exact hg.2.2.2.2.2.2.1|exact hg.2.2.2.2.2.2.2.1|exact hg.2.2.2.2.2.2.2.2.1) h0 hn fun m hm h0 _ hn hs=>?_;subst hm;try dsimp only)
  | (refine sz_fn wSzHead_ok (by first|exact hg.1|exact hg.2.1|exact hg.2.2.1|exact hg.2.2.2.1|exact hg.2.2.2.2.1|exact hg.2.2.2.2.2.1|exact hg.2.2.2.2.2.2.1|exact hg.2.2.2.2.2.2.2.1|exact hg.2.2.2.2.2.2.2.2.1) h0 hn fun m h0 _ hn hs=>?_;try dsimp only)
  | (refine sz_fn wSzCommittee_ok (by first|exact hg.1|exact hg.2.1|exact hg.2.2.1|exact hg.2.2.2.1|exact hg.2.2.2.2.1|exact hg.2.2.2.2.2.1|exact hg.2.2.2.2.2.2.1|exact hg.2.2.2.2.2.2.2.1|exact hg.2.2.2.2.2.2.2.2.1) h0 hn fun m h0 _ hn hs=>?_;try dsimp only)
  | (refine sz_fn wSzKeys_ok (by first|exact hg.1|exact hg.2.1|exact hg.2.2.1|exact hg.2.2.2.1|exact hg.2.2.2.2.1|exact hg.2.2.2.2.2.1|exact hg.2.2.2.2.2.2.1|exact hg.2.2.2.2.2.2.2.1|exact hg.2.2.2.2.2.2.2.2.1) h0 hn fun m h0 _ hn hs=>?_;try dsimp only)
theorem wSzBridge_ok:SzOk TBridge wSzBridge_d:=by
 intro x n hg h0 hn
 rw[wSzBridge_b]
 repeat' first
  |exact sz_end h0 (by repeat' (first|exact trivial|assumption|refine And.intro ?_ ?_))
  | (refine sz_str (by first|exact hg.1|exact hg.2.1|exact hg.2.2.1|exact hg.2.2.2.1|exact hg.2.2.2.2.1|exact hg.2.2.2.2.2.1|exact hg.2.2.2.2.2.2.1|exact hg.2.2.2.2.2.2.2.1|exact hg.2.2.2.2.2.2.2.2.1) h0 hn fun m hm h0 _ hn hs=>?_;subst hm;try dsimp only)
  | (refine sz_fn wSzClient_ok (by first|exact hg.1|exact hg.2.1|exact hg.2.2.1|exact hg.2.2.2.1|exact hg.2.2.2.2.1|exact hg.2.2.2.2.2.1|exact hg.2.2.2.2.2.2.1|exact hg.2.2.2.2.2.2.2.1|exact hg.2.2.2.2.2.2.2.2.1) h0 hn fun m h0 _ hn hs=>?_;try dsimp only)
  | (refine sz_fn wSzStringS_ok (by first|exact hg.1|exact hg.2.1|exact hg.2.2.1|exact hg.2.2.2.1|exact hg.2.2.2.2.1|exact hg.2.2.2.2.2.1|exact hg.2.2.2.2.2.2.1|exact hg.2.2.2.2.2.2.2.1|exact hg.2.2.2.2.2.2.2.2.1) h0 hn fun m h0 _ hn hs=>?_;try dsimp only)
theorem wSzWorld_ok:SzOk TWorld wSzWorld_d:=by
 intro x n hg h0 hn
 rw[wSzWorld_b]
 repeat' first
  |exact sz_end h0 (by repeat' (first|exact trivial|assumption|refine And.intro ?_ ?_))
  | (refine sz_str (by first|exact hg.1|exact hg.2.1|exact hg.2.2.1|exact hg.2.2.2.1|exact hg.2.2.2.2.1|exact hg.2.2.2.2.2.1|exact hg.2.2.2.2.2.2.1|exact hg.2.2.2.2.2.2.2.1|exact hg.2.2.2.2.2.2.2.2.1) h0 hn fun m hm h0 _ hn hs=>?_;subst hm;try dsimp only)
  | (refine sz_fn wSzChain_ok (by first|exact hg.1|exact hg.2.1|exact hg.2.2.1|exact hg.2.2.2.1|exact hg.2.2.2.2.1|exact hg.2.2.2.2.2.1|exact hg.2.2.2.2.2.2.1|exact hg.2.2.2.2.2.2.2.1|exact hg.2.2.2.2.2.2.2.2.1) h0 hn fun m h0 _ hn hs=>?_;try dsimp only)
  | (refine sz_fn wSzMaker_ok (by first|exact hg.1|exact hg.2.1|exact hg.2.2.1|exact hg.2.2.2.1|exact hg.2.2.2.2.1|exact hg.2.2.2.2.2.1|exact hg.2.2.2.2.2.2.1|exact hg.2.2.2.2.2.2.2.1|exact hg.2.2.2.2.2.2.2.2.1) h0 hn fun m h0 _ hn hs=>?_;try dsimp only)
  | (refine sz_fn wSzBridge_ok (by first|exact hg.1|exact hg.2.1|exact hg.2.2.1|exact hg.2.2.2.1|exact hg.2.2.2.2.1|exact hg.2.2.2.2.2.1|exact hg.2.2.2.2.2.2.1|exact hg.2.2.2.2.2.2.2.1|exact hg.2.2.2.2.2.2.2.2.1) h0 hn fun m h0 _ hn hs=>?_;try dsimp only)
  | (refine sz_fn wSzIntS_ok (by first|exact hg.1|exact hg.2.1|exact hg.2.2.1|exact hg.2.2.2.1|exact hg.2.2.2.2.1|exact hg.2.2.2.2.2.1|exact hg.2.2.2.2.2.2.1|exact hg.2.2.2.2.2.2.2.1|exact hg.2.2.2.2.2.2.2.2.1) h0 hn fun m h0 _ hn hs=>?_;try dsimp only)
  | (refine sz_fn wSzStringS_ok (by first|exact hg.1|exact hg.2.1|exact hg.2.2.1|exact hg.2.2.2.1|exact hg.2.2.2.2.1|exact hg.2.2.2.2.2.1|exact hg.2.2.2.2.2.2.1|exact hg.2.2.2.2.2.2.2.1|exact hg.2.2.2.2.2.2.2.2.1) h0 hn fun m h0 _ hn hs=>?_;try dsimp only)
theorem wToCommittee_ok:ToOk TCommittee wToCommittee_d:=by
 intro x hg
 have e0:=wToPointS_ok x.1 hg.1
 rw[wToCommittee_b]
 simp only[bnd,Option.bind_some,e0]
 try rfl
theorem wToClient_ok:ToOk TClient wToClient_d:=by
 intro x hg
 have e0:=wToHead_ok x.1 hg.1
 have e1:=wToCommittee_ok x.2.1 hg.2.1
 have e2:=wToCommittee_ok x.2.2.1 hg.2.2.1
 have e3:=wToKeys_ok x.2.2.2.2.1 hg.2.2.2.2.1
 rw[wToClient_b]
 simp only[bnd,Option.bind_some,e0,e1,e2,e3]
 try rfl
theorem wToStringS_ok:ToOk (.sl .str) wToStringS_d:=(to_slice (t:= .str) (z:=(bs [])) (fe:=fun x=>some ((x.1,()),())) (fun x _=>rfl) (fun x=>wToStringS_q3 x.1 x.2.1 x.2.2.1) (q:=1) (by decide)).congr fun x=>wToStringS_b x
theorem wToBridge_ok:ToOk TBridge wToBridge_d:=by
 intro x hg
 have e0:=wToClient_ok x.1 hg.1
 have e1:=wToClient_ok x.2.1 hg.2.1
 have e2:=wToStringS_ok x.2.2.2.2.1 hg.2.2.2.2.1
 rw[wToBridge_b]
 simp only[bnd,Option.bind_some,e0,e1,e2]
 try rfl
theorem wToIntS_ok:ToOk (.sl (.int .i64)) wToIntS_d:=(to_slice (t:=(.int .i64)) (z:=(0:Int)) (fe:=fun x=>some ((x.1,()),())) (fun x _=>rfl) (fun x=>wToIntS_q3 x.1 x.2.1 x.2.2.1) (q:=1) (by decide)).congr fun x=>wToIntS_b x
theorem wToWorld_ok:ToOk TWorld wToWorld_d:=by
 intro x hg
 have e0:=wToChain_ok x.1 hg.1
 have e1:=wToMaker_ok x.2.1 hg.2.1
 have e2:=wToBridge_ok x.2.2.1 hg.2.2.1
 have e3:=wToIntS_ok x.2.2.2.1 hg.2.2.2.1
 have e4:=wToStringS_ok x.2.2.2.2.1 hg.2.2.2.2.1
 rw[wToWorld_b]
 simp only[bnd,Option.bind_some,e0,e1,e2,e3,e4]
 try rfl
theorem wEqBridge_ok:EqOk TBridge wEqBridge_d:=by
 intro x hg
 have e0:=wEqClient_ok x.1 hg.1
 have e1:=wEqClient_ok x.2.1 hg.2.1
 have e2:=wEqStringS_ok x.2.2.2.2.1 hg.2.2.2.2.1
 rw[wEqBridge_b]
 simp only[bnd,Option.bind_some,cnd,cond_true,cond_false,sne_self,ine_self,bneB_self,bnot,Bool.not_true,e0,e1,e2]
theorem wEqWorld_ok:EqOk TWorld wEqWorld_d:=by
 intro x hg
 have e0:=wEqChain_ok x.1 hg.1
 have e1:=wEqMaker_ok x.2.1 hg.2.1
 have e2:=wEqBridge_ok x.2.2.1 hg.2.2.1
 have e3:=wEqIntS_ok x.2.2.2.1 hg.2.2.2.1
 have e4:=wEqStringS_ok x.2.2.2.2.1 hg.2.2.2.2.1
 rw[wEqWorld_b]
 simp only[bnd,Option.bind_some,cnd,cond_true,cond_false,sne_self,ine_self,bneB_self,bnot,Bool.not_true,e0,e1,e2,e3,e4]
noncomputable def mkChain (x:tChain) (k:Int):tChain×Int:=((x.1,((mkAccountS x.2.1 k).1,x.2.2)),(mkAccountS x.2.1 k).2)
abbrev mkBChain:Nat:=mkBAccountS
theorem wMarkChain_ok:MkOk TChain wMarkChain_d wHeldChain_d mkBChain mkChain:=by
 intro x k hf h0 hk
 simp only[mkBChain] at hk
 obtain ⟨a0,b0,l0,u0⟩:=wMarkAccountS_ok x.2.1 k hf.2.1 (by omega) (by omega)
 refine ⟨?_,?_,?_,?_⟩
 ·rw[wMarkChain_b];simp only[bnd,Option.bind_some,a0];rfl
 ·rw[wHeldChain_b];simp only[mkChain,bnd,Option.bind_some,b0]
  simp only[ilt_f (x:=(mkAccountS x.2.1 k).2) (y:=0) (by omega),cnd,cond_false]
 ·show k≤(mkAccountS x.2.1 k).2;omega
 ·show (mkAccountS x.2.1 k).2≤_;simp only[mkBChain];omega
theorem wMarkChain_mk:Mk1 TChain wMarkChain_d mkBChain mkChain:=wMarkChain_ok.one
noncomputable def mkMaker (x:tMaker) (k:Int):tMaker×Int:=(((mkKeys x.1 k).1,((mkPointS x.2.1 (mkKeys x.1 k).2).1,((mkPointS x.2.2.1 (mkPointS x.2.1 (mkKeys x.1 k).2).2).1,((mkPointS x.2.2.2.1 (mkPointS x.2.2.1 (mkPointS x.2.1 (mkKeys x.1 k).2).2).2).1,((mkPointS x.2.2.2.2.1 (mkPointS x.2.2.2.1 (mkPointS x.2.2.1 (mkPointS x.2.1 (mkKeys x.1 k).2).2).2).2).1,x.2.2.2.2.2))))),(mkPointS x.2.2.2.2.1 (mkPointS x.2.2.2.1 (mkPointS x.2.2.1 (mkPointS x.2.1 (mkKeys x.1 k).2).2).2).2).2)
abbrev mkBMaker:Nat:=mkBKeys+mkBPointS+mkBPointS+mkBPointS+mkBPointS
theorem wMarkMaker_ok:MkOk TMaker wMarkMaker_d wHeldMaker_d mkBMaker mkMaker:=by
 intro x k hf h0 hk
 simp only[mkBMaker] at hk
 obtain ⟨a0,b0,l0,u0⟩:=wMarkKeys_ok x.1 k hf.1 (by omega) (by omega)
 obtain ⟨a1,b1,l1,u1⟩:=wMarkPointS_ok x.2.1 (mkKeys x.1 k).2 hf.2.1 (by omega) (by omega)
 obtain ⟨a2,b2,l2,u2⟩:=wMarkPointS_ok x.2.2.1 (mkPointS x.2.1 (mkKeys x.1 k).2).2 hf.2.2.1 (by omega) (by omega)
 obtain ⟨a3,b3,l3,u3⟩:=wMarkPointS_ok x.2.2.2.1 (mkPointS x.2.2.1 (mkPointS x.2.1 (mkKeys x.1 k).2).2).2 hf.2.2.2.1 (by omega) (by omega)
 obtain ⟨a4,b4,l4,u4⟩:=wMarkPointS_ok x.2.2.2.2.1 (mkPointS x.2.2.2.1 (mkPointS x.2.2.1 (mkPointS x.2.1 (mkKeys x.1 k).2).2).2).2 hf.2.2.2.2.1 (by omega) (by omega)
 refine ⟨?_,?_,?_,?_⟩
 ·rw[wMarkMaker_b];simp only[bnd,Option.bind_some,a0,a1,a2,a3,a4];rfl
 ·rw[wHeldMaker_b];simp only[mkMaker,bnd,Option.bind_some,b0,b1,b2,b3,b4]
  simp only[ilt_f (x:=(mkKeys x.1 k).2) (y:=0) (by omega),ilt_f (x:=(mkPointS x.2.1 (mkKeys x.1 k).2).2) (y:=0) (by omega),ilt_f (x:=(mkPointS x.2.2.1 (mkPointS x.2.1 (mkKeys x.1 k).2).2).2) (y:=0) (by omega),ilt_f (x:=(mkPointS x.2.2.2.1 (mkPointS x.2.2.1 (mkPointS x.2.1 (mkKeys x.1 k).2).2).2).2) (y:=0) (by omega),ilt_f (x:=(mkPointS x.2.2.2.2.1 (mkPointS x.2.2.2.1 (mkPointS x.2.2.1 (mkPointS x.2.1 (mkKeys x.1 k).2).2).2).2).2) (y:=0) (by omega),cnd,cond_false]
 ·show k≤(mkPointS x.2.2.2.2.1 (mkPointS x.2.2.2.1 (mkPointS x.2.2.1 (mkPointS x.2.1 (mkKeys x.1 k).2).2).2).2).2;omega
 ·show (mkPointS x.2.2.2.2.1 (mkPointS x.2.2.2.1 (mkPointS x.2.2.1 (mkPointS x.2.1 (mkKeys x.1 k).2).2).2).2).2≤_;simp only[mkBMaker];omega
theorem wMarkMaker_mk:Mk1 TMaker wMarkMaker_d mkBMaker mkMaker:=wMarkMaker_ok.one
noncomputable def mkBridge (x:tBridge) (k:Int):tBridge×Int:=(((mkClient x.1 k).1,((mkClient x.2.1 (mkClient x.1 k).2).1,(x.2.2.1,(x.2.2.2.1,((mkStringS x.2.2.2.2.1 (mkClient x.2.1 (mkClient x.1 k).2).2).1,x.2.2.2.2.2))))),(mkStringS x.2.2.2.2.1 (mkClient x.2.1 (mkClient x.1 k).2).2).2)
abbrev mkBBridge:Nat:=mkBClient+mkBClient+mkBStringS
theorem wMarkBridge_ok:MkOk TBridge wMarkBridge_d wHeldBridge_d mkBBridge mkBridge:=by
 intro x k hf h0 hk
 simp only[mkBBridge] at hk
 obtain ⟨a0,b0,l0,u0⟩:=wMarkClient_ok x.1 k hf.1 (by omega) (by omega)
 obtain ⟨a1,b1,l1,u1⟩:=wMarkClient_ok x.2.1 (mkClient x.1 k).2 hf.2.1 (by omega) (by omega)
 obtain ⟨a2,b2,l2,u2⟩:=wMarkStringS_ok x.2.2.2.2.1 (mkClient x.2.1 (mkClient x.1 k).2).2 hf.2.2.2.2.1 (by omega) (by omega)
 refine ⟨?_,?_,?_,?_⟩
 ·rw[wMarkBridge_b];simp only[bnd,Option.bind_some,a0,a1,a2];rfl
 ·rw[wHeldBridge_b];simp only[mkBridge,bnd,Option.bind_some,b0,b1,b2]
  simp only[ilt_f (x:=(mkClient x.1 k).2) (y:=0) (by omega),ilt_f (x:=(mkClient x.2.1 (mkClient x.1 k).2).2) (y:=0) (by omega),ilt_f (x:=(mkStringS x.2.2.2.2.1 (mkClient x.2.1 (mkClient x.1 k).2).2).2) (y:=0) (by omega),cnd,cond_false]
 ·show k≤(mkStringS x.2.2.2.2.1 (mkClient x.2.1 (mkClient x.1 k).2).2).2;omega
 ·show (mkStringS x.2.2.2.2.1 (mkClient x.2.1 (mkClient x.1 k).2).2).2≤_;simp only[mkBBridge];omega
theorem wMarkBridge_mk:Mk1 TBridge wMarkBridge_d mkBBridge mkBridge:=wMarkBridge_ok.one
noncomputable def mkWorld (x:tWorld) (k:Int):tWorld×Int:=(((mkChain x.1 k).1,((mkMaker x.2.1 (mkChain x.1 k).2).1,((mkBridge x.2.2.1 (mkMaker x.2.1 (mkChain x.1 k).2).2).1,((mkIntS x.2.2.2.1 (mkBridge x.2.2.1 (mkMaker x.2.1 (mkChain x.1 k).2).2).2).1,((mkStringS x.2.2.2.2.1 (mkIntS x.2.2.2.1 (mkBridge x.2.2.1 (mkMaker x.2.1 (mkChain x.1 k).2).2).2).2).1,x.2.2.2.2.2))))),(mkStringS x.2.2.2.2.1 (mkIntS x.2.2.2.1 (mkBridge x.2.2.1 (mkMaker x.2.1 (mkChain x.1 k).2).2).2).2).2)
abbrev mkBWorld:Nat:=mkBChain+mkBMaker+mkBBridge+mkBIntS+mkBStringS
theorem wMarkWorld_ok:MkOk TWorld wMarkWorld_d wHeldWorld_d mkBWorld mkWorld:=by
 intro x k hf h0 hk
 simp only[mkBWorld] at hk
 obtain ⟨a0,b0,l0,u0⟩:=wMarkChain_ok x.1 k hf.1 (by omega) (by omega)
 obtain ⟨a1,b1,l1,u1⟩:=wMarkMaker_ok x.2.1 (mkChain x.1 k).2 hf.2.1 (by omega) (by omega)
 obtain ⟨a2,b2,l2,u2⟩:=wMarkBridge_ok x.2.2.1 (mkMaker x.2.1 (mkChain x.1 k).2).2 hf.2.2.1 (by omega) (by omega)
 obtain ⟨a3,b3,l3,u3⟩:=wMarkIntS_ok x.2.2.2.1 (mkBridge x.2.2.1 (mkMaker x.2.1 (mkChain x.1 k).2).2).2 hf.2.2.2.1 (by omega) (by omega)
 obtain ⟨a4,b4,l4,u4⟩:=wMarkStringS_ok x.2.2.2.2.1 (mkIntS x.2.2.2.1 (mkBridge x.2.2.1 (mkMaker x.2.1 (mkChain x.1 k).2).2).2).2 hf.2.2.2.2.1 (by omega) (by omega)
 refine ⟨?_,?_,?_,?_⟩
 ·rw[wMarkWorld_b];simp only[bnd,Option.bind_some,a0,a1,a2,a3,a4];rfl
 ·rw[wHeldWorld_b];simp only[mkWorld,bnd,Option.bind_some,b0,b1,b2,b3,b4]
  simp only[ilt_f (x:=(mkChain x.1 k).2) (y:=0) (by omega),ilt_f (x:=(mkMaker x.2.1 (mkChain x.1 k).2).2) (y:=0) (by omega),ilt_f (x:=(mkBridge x.2.2.1 (mkMaker x.2.1 (mkChain x.1 k).2).2).2) (y:=0) (by omega),ilt_f (x:=(mkIntS x.2.2.2.1 (mkBridge x.2.2.1 (mkMaker x.2.1 (mkChain x.1 k).2).2).2).2) (y:=0) (by omega),ilt_f (x:=(mkStringS x.2.2.2.2.1 (mkIntS x.2.2.2.1 (mkBridge x.2.2.1 (mkMaker x.2.1 (mkChain x.1 k).2).2).2).2).2) (y:=0) (by omega),cnd,cond_false]
 ·show k≤(mkStringS x.2.2.2.2.1 (mkIntS x.2.2.2.1 (mkBridge x.2.2.1 (mkMaker x.2.1 (mkChain x.1 k).2).2).2).2).2;omega
 ·show (mkStringS x.2.2.2.2.1 (mkIntS x.2.2.2.1 (mkBridge x.2.2.1 (mkMaker x.2.1 (mkChain x.1 k).2).2).2).2).2≤_;simp only[mkBWorld];omega
theorem wMarkWorld_mk:Mk1 TWorld wMarkWorld_d mkBWorld mkWorld:=wMarkWorld_ok.one
end Go.Proofs.YtpnodjpefkcflaaGreatDoor
