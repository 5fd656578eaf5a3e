/- What is measured, copied, compared, marked and held: printed by program. Of no condition. -/
import Derived.Test.YtkfifjaomgjnnaaGreatDoorWA
set_option linter.unusedVariables false
set_option linter.unusedSimpArgs false
set_option maxRecDepth 100000
namespace Go.Proofs.YtkfifjaomgjnnaaGreatDoor
open Go.TV
theorem wSzHead_ok:SzOk THead wSzHead_d:=by
 intro x n hg h0 hn
 rw[wSzHead_b]
 repeat' first
  |exact sz_end h0 (by repeat' (first|exact trivial|assumption|refine And.intro ?_ ?_))
  | (refine sz_str (by first|exact hg.1|exact hg.2.1|exact hg.2.2.1|exact hg.2.2.2.1|exact hg.2.2.2.2.1|exact hg.2.2.2.2.2.1|exact hg.2.2.2.2.2.2.1|exact hg.2.2.2.2.2.2.2.1|exact hg.2.2.2.2.2.2.2.2.1) h0 hn fun m hm h0 _ hn hs=>?_;subst hm;try dsimp only)
theorem wSzPointS_ok:SzOk (.sl TPoint) wSzPointS_d:=(sz_len (t:=TPoint) (fun x=>by repeat' first|exact trivial|constructor)).congr fun x n=>wSzPointS_b x n
theorem wSzCommittee_ok:SzOk TCommittee wSzCommittee_d:=by
 intro x n hg h0 hn
 rw[wSzCommittee_b]
 repeat' first
  |exact sz_end h0 (by repeat' (first|exact trivial|assumption|refine And.intro ?_ ?_))
  | (refine sz_str (by first|exact hg.1|exact hg.2.1|exact hg.2.2.1|exact hg.2.2.2.1|exact hg.2.2.2.2.1|exact hg.2.2.2.2.2.1|exact hg.2.2.2.2.2.2.1|exact hg.2.2.2.2.2.2.2.1|exact hg.2.2.2.2.2.2.2.2.1) h0 hn fun m hm h0 _ hn hs=>?_;subst hm;try dsimp only)
  | (refine sz_fn wSzPointS_ok (by first|exact hg.1|exact hg.2.1|exact hg.2.2.1|exact hg.2.2.2.1|exact hg.2.2.2.2.1|exact hg.2.2.2.2.2.1|exact hg.2.2.2.2.2.2.1|exact hg.2.2.2.2.2.2.2.1|exact hg.2.2.2.2.2.2.2.2.1) h0 hn fun m h0 _ hn hs=>?_;try dsimp only)
theorem wSzKeys_ok:SzOk TKeys wSzKeys_d:=by
 intro x n hg h0 hn
 rw[wSzKeys_b]
 repeat' first
  |exact sz_end h0 (by repeat' (first|exact trivial|assumption|refine And.intro ?_ ?_))
  | (refine sz_str (by first|exact hg.1|exact hg.2.1|exact hg.2.2.1|exact hg.2.2.2.1|exact hg.2.2.2.2.1|exact hg.2.2.2.2.2.1|exact hg.2.2.2.2.2.2.1|exact hg.2.2.2.2.2.2.2.1|exact hg.2.2.2.2.2.2.2.2.1) h0 hn fun m hm h0 _ hn hs=>?_;subst hm;try dsimp only)
  | (refine sz_fn wSzPointS_ok (by first|exact hg.1|exact hg.2.1|exact hg.2.2.1|exact hg.2.2.2.1|exact hg.2.2.2.2.1|exact hg.2.2.2.2.2.1|exact hg.2.2.2.2.2.2.1|exact hg.2.2.2.2.2.2.2.1|exact hg.2.2.2.2.2.2.2.2.1) h0 hn fun m h0 _ hn hs=>?_;try dsimp only)
theorem wSzClient_ok:SzOk TClient wSzClient_d:=by
 intro x n hg h0 hn
 rw[wSzClient_b]
 repeat' first
  |exact sz_end h0 (by repeat' (first|exact trivial|assumption|refine And.intro ?_ ?_))
  | (refine sz_str (by first|exact hg.1|exact hg.2.1|exact hg.2.2.1|exact hg.2.2.2.1|exact hg.2.2.2.2.1|exact hg.2.2.2.2.2.1|exact hg.2.2.2.2.2.2.1|exact hg.2.2.2.2.2.2.2.1|exact hg.2.2.2.2.2.2.2.2.1) h0 hn fun m hm h0 _ hn hs=>?_;subst hm;try dsimp only)
  | (refine sz_fn wSzHead_ok (by first|exact hg.1|exact hg.2.1|exact hg.2.2.1|exact hg.2.2.2.1|exact hg.2.2.2.2.1|exact hg.2.2.2.2.2.1|exact hg.2.2.2.2.2.2.1|exact hg.2.2.2.2.2.2.2.1|exact hg.2.2.2.2.2.2.2.2.1) h0 hn fun m h0 _ hn hs=>?_;try dsimp only)
  | (refine sz_fn wSzCommittee_ok (by first|exact hg.1|exact hg.2.1|exact hg.2.2.1|exact hg.2.2.2.1|exact hg.2.2.2.2.1|exact hg.2.2.2.2.2.1|exact hg.2.2.2.2.2.2.1|exact hg.2.2.2.2.2.2.2.1|exact hg.2.2.2.2.2.2.2.2.1) h0 hn fun m h0 _ hn hs=>?_;try dsimp only)
  | (refine sz_fn wSzKeys_ok (by first|exact hg.1|exact hg.2.1|exact hg.2.2.1|exact hg.2.2.2.1|exact hg.2.2.2.2.1|exact hg.2.2.2.2.2.1|exact hg.2.2.2.2.2.2.1|exact hg.2.2.2.2.2.2.2.1|exact hg.2.2.2.2.2.2.2.2.1) h0 hn fun m h0 _ hn hs=>?_;try dsimp only)
theorem wSzBridge_ok:SzOk TBridge wSzBridge_d:=by
 intro x n hg h0 hn
 rw[wSzBridge_b]
 repeat' first
  |exact sz_end h0 (by repeat' (first|exact trivial|assumption|refine And.intro ?_ ?_))
  | (refine sz_str (by first|exact hg.1|exact hg.2.1|exact hg.2.2.1|exact hg.2.2.2.1|exact hg.2.2.2.2.1|exact hg.2.2.2.2.2.1|exact hg.2.2.2.2.2.2.1|exact hg.2.2.2.2.2.2.2.1|exact hg.2.2.2.2.2.2.2.2.1) h0 hn fun m hm h0 _ hn hs=>?_;subst hm;try dsimp only)
  | (refine sz_fn wSzClient_ok (by first|exact hg.1|exact hg.2.1|exact hg.2.2.1|exact hg.2.2.2.1|exact hg.2.2.2.2.1|exact hg.2.2.2.2.2.1|exact hg.2.2.2.2.2.2.1|exact hg.2.2.2.2.2.2.2.1|exact hg.2.2.2.2.2.2.2.2.1) h0 hn fun m h0 _ hn hs=>?_;try dsimp only)
  | (refine sz_fn wSzStringS_ok (by first|exact hg.1|exact hg.2.1|exact hg.2.2.1|exact hg.2.2.2.1|exact hg.2.2.2.2.1|exact hg.2.2.2.2.2.1|exact hg.2.2.2.2.2.2.1|exact hg.2.2.2.2.2.2.2.1|exact hg.2.2.2.2.2.2.2.2.1) h0 hn fun m h0 _ hn hs=>?_;try dsimp only)
theorem wToHead_ok:ToOk THead wToHead_d:=by
 intro x hg
 exact wToHead_b x
theorem wToPoint_ok:ToOk TPoint wToPoint_d:=by
 intro x hg
 exact wToPoint_b x
theorem wToPointS_ok:ToOk (.sl TPoint) wToPointS_d:=(to_slice (z:=zPoint) wToPoint_ok (fun x=>wToPointS_q3 x.1 x.2.1 x.2.2.1) (q:=3) (by decide)).congr fun x=>wToPointS_b x
theorem wToCommittee_ok:ToOk TCommittee wToCommittee_d:=by
 intro x hg
 have e0:=wToPointS_ok x.1 hg.1
 rw[wToCommittee_b]
 simp only[bnd,Option.bind_some,e0]
 try rfl
theorem wToKeys_ok:ToOk TKeys wToKeys_d:=by
 intro x hg
 have e0:=wToPoint_ok x.1 hg.1
 have e1:=wToPoint_ok x.2.1 hg.2.1
 have e2:=wToPoint_ok x.2.2.1 hg.2.2.1
 have e3:=wToPoint_ok x.2.2.2.1 hg.2.2.2.1
 have e4:=wToPointS_ok x.2.2.2.2.1 hg.2.2.2.2.1
 rw[wToKeys_b]
 simp only[bnd,Option.bind_some,e0,e1,e2,e3,e4]
 try rfl
theorem wToClient_ok:ToOk TClient wToClient_d:=by
 intro x hg
 have e0:=wToHead_ok x.1 hg.1
 have e1:=wToCommittee_ok x.2.1 hg.2.1
 have e2:=wToCommittee_ok x.2.2.1 hg.2.2.1
 have e3:=wToKeys_ok x.2.2.2.2.1 hg.2.2.2.2.1
 rw[wToClient_b]
 simp only[bnd,Option.bind_some,e0,e1,e2,e3]
 try rfl
theorem wToStringS_ok:ToOk (.sl .str) wToStringS_d:=(to_slice (t:= .str) (z:=(bs [])) (fe:=fun x=>some ((x.1,()),())) (fun x _=>rfl) (fun x=>wToStringS_q3 x.1 x.2.1 x.2.2.1) (q:=1) (by decide)).congr fun x=>wToStringS_b x
theorem wToBridge_ok:ToOk TBridge wToBridge_d:=by
 intro x hg
 have e0:=wToClient_ok x.1 hg.1
 have e1:=wToClient_ok x.2.1 hg.2.1
 have e2:=wToStringS_ok x.2.2.2.2.1 hg.2.2.2.2.1
 rw[wToBridge_b]
 simp only[bnd,Option.bind_some,e0,e1,e2]
 try rfl
theorem wEqHead_ok:EqOk THead wEqHead_d:=by
 intro x hg
 rw[wEqHead_b]
 simp only[bnd,Option.bind_some,cnd,cond_true,cond_false,sne_self,ine_self,bneB_self,bnot,Bool.not_true]
theorem wEqPoint_ok:EqOk TPoint wEqPoint_d:=by
 intro x hg
 rw[wEqPoint_b]
 simp only[bnd,Option.bind_some,cnd,cond_true,cond_false,sne_self,ine_self,bneB_self,bnot,Bool.not_true]
theorem wEqPointS_ok:EqOk (.sl TPoint) wEqPointS_d:=(eq_slice (z:=zPoint) wEqPoint_ok (fun x=>wEqPointS_q4 x.1 x.2.1 x.2.2.1)).congr fun x y=>wEqPointS_b x y
theorem wEqCommittee_ok:EqOk TCommittee wEqCommittee_d:=by
 intro x hg
 have e0:=wEqPointS_ok x.1 hg.1
 rw[wEqCommittee_b]
 simp only[bnd,Option.bind_some,cnd,cond_true,cond_false,sne_self,ine_self,bneB_self,bnot,Bool.not_true,e0]
theorem wEqKeys_ok:EqOk TKeys wEqKeys_d:=by
 intro x hg
 have e0:=wEqPoint_ok x.1 hg.1
 have e1:=wEqPoint_ok x.2.1 hg.2.1
 have e2:=wEqPoint_ok x.2.2.1 hg.2.2.1
 have e3:=wEqPoint_ok x.2.2.2.1 hg.2.2.2.1
 have e4:=wEqPointS_ok x.2.2.2.2.1 hg.2.2.2.2.1
 rw[wEqKeys_b]
 simp only[bnd,Option.bind_some,cnd,cond_true,cond_false,sne_self,ine_self,bneB_self,bnot,Bool.not_true,e0,e1,e2,e3,e4]
theorem wEqClient_ok:EqOk TClient wEqClient_d:=by
 intro x hg
 have e0:=wEqHead_ok x.1 hg.1
 have e1:=wEqCommittee_ok x.2.1 hg.2.1
 have e2:=wEqCommittee_ok x.2.2.1 hg.2.2.1
 have e3:=wEqKeys_ok x.2.2.2.2.1 hg.2.2.2.2.1
 rw[wEqClient_b]
 simp only[bnd,Option.bind_some,cnd,cond_true,cond_false,sne_self,ine_self,bneB_self,bnot,Bool.not_true,e0,e1,e2,e3]
theorem wEqBridge_ok:EqOk TBridge wEqBridge_d:=by
 intro x hg
 have e0:=wEqClient_ok x.1 hg.1
 have e1:=wEqClient_ok x.2.1 hg.2.1
 have e2:=wEqStringS_ok x.2.2.2.2.1 hg.2.2.2.2.1
 rw[wEqBridge_b]
 simp only[bnd,Option.bind_some,cnd,cond_true,cond_false,sne_self,ine_self,bneB_self,bnot,Bool.not_true,e0,e1,e2]
noncomputable def mkCommittee (x:tCommittee) (k:Int):tCommittee×Int:=(((mkPointS x.1 k).1,x.2),(mkPointS x.1 k).2)
abbrev mkBCommittee:Nat:=mkBPointS
theorem wMarkCommittee_ok:MkOk TCommittee wMarkCommittee_d wHeldCommittee_d mkBCommittee mkCommittee:=by
 intro x k hf h0 hk
 simp only[mkBCommittee] at hk
 obtain ⟨a0,b0,l0,u0⟩:=wMarkPointS_ok x.1 k hf.1 (by omega) (by omega)
 refine ⟨?_,?_,?_,?_⟩
 ·rw[wMarkCommittee_b];simp only[bnd,Option.bind_some,a0];rfl
 ·rw[wHeldCommittee_b];simp only[mkCommittee,bnd,Option.bind_some,b0]
  simp only[ilt_f (x:=(mkPointS x.1 k).2) (y:=0) (by omega),cnd,cond_false]
 ·show k≤(mkPointS x.1 k).2;omega
 ·show (mkPointS x.1 k).2≤_;simp only[mkBCommittee];omega
theorem wMarkCommittee_mk:Mk1 TCommittee wMarkCommittee_d mkBCommittee mkCommittee:=wMarkCommittee_ok.one
noncomputable def mkKeys (x:tKeys) (k:Int):tKeys×Int:=((x.1,(x.2.1,(x.2.2.1,(x.2.2.2.1,((mkPointS x.2.2.2.2.1 k).1,x.2.2.2.2.2))))),(mkPointS x.2.2.2.2.1 k).2)
abbrev mkBKeys:Nat:=mkBPointS
theorem wMarkKeys_ok:MkOk TKeys wMarkKeys_d wHeldKeys_d mkBKeys mkKeys:=by
 intro x k hf h0 hk
 simp only[mkBKeys] at hk
 obtain ⟨a0,b0,l0,u0⟩:=wMarkPointS_ok x.2.2.2.2.1 k hf.2.2.2.2.1 (by omega) (by omega)
 refine ⟨?_,?_,?_,?_⟩
 ·rw[wMarkKeys_b];simp only[bnd,Option.bind_some,a0];rfl
 ·rw[wHeldKeys_b];simp only[mkKeys,bnd,Option.bind_some,b0]
  simp only[ilt_f (x:=(mkPointS x.2.2.2.2.1 k).2) (y:=0) (by omega),cnd,cond_false]
 ·show k≤(mkPointS x.2.2.2.2.1 k).2;omega
 ·show (mkPointS x.2.2.2.2.1 k).2≤_;simp only[mkBKeys];omega
theorem wMarkKeys_mk:Mk1 TKeys wMarkKeys_d mkBKeys mkKeys:=wMarkKeys_ok.one
noncomputable def mkClient (x:tClient) (k:Int):tClient×Int:=((x.1,((mkCommittee x.2.1 k).1,((mkCommittee x.2.2.1 (mkCommittee x.2.1 k).2).1,(x.2.2.2.1,((mkKeys x.2.2.2.2.1 (mkCommittee x.2.2.1 (mkCommittee x.2.1 k).2).2).1,x.2.2.2.2.2))))),(mkKeys x.2.2.2.2.1 (mkCommittee x.2.2.1 (mkCommittee x.2.1 k).2).2).2)
abbrev mkBClient:Nat:=mkBCommittee+mkBCommittee+mkBKeys
theorem wMarkClient_ok:MkOk TClient wMarkClient_d wHeldClient_d mkBClient mkClient:=by
 intro x k hf h0 hk
 simp only[mkBClient] at hk
 obtain ⟨a0,b0,l0,u0⟩:=wMarkCommittee_ok x.2.1 k hf.2.1 (by omega) (by omega)
 obtain ⟨a1,b1,l1,u1⟩:=wMarkCommittee_ok x.2.2.1 (mkCommittee x.2.1 k).2 hf.2.2.1 (by omega) (by omega)
 obtain ⟨a2,b2,l2,u2⟩:=wMarkKeys_ok x.2.2.2.2.1 (mkCommittee x.2.2.1 (mkCommittee x.2.1 k).2).2 hf.2.2.2.2.1 (by omega) (by omega)
 refine ⟨?_,?_,?_,?_⟩
 ·rw[wMarkClient_b];simp only[bnd,Option.bind_some,a0,a1,a2];rfl
 ·rw[wHeldClient_b];simp only[mkClient,bnd,Option.bind_some,b0,b1,b2]
  simp only[ilt_f (x:=(mkCommittee x.2.1 k).2) (y:=0) (by omega),ilt_f (x:=(mkCommittee x.2.2.1 (mkCommittee x.2.1 k).2).2) (y:=0) (by omega),ilt_f (x:=(mkKeys x.2.2.2.2.1 (mkCommittee x.2.2.1 (mkCommittee x.2.1 k).2).2).2) (y:=0) (by omega),cnd,cond_false]
 ·show k≤(mkKeys x.2.2.2.2.1 (mkCommittee x.2.2.1 (mkCommittee x.2.1 k).2).2).2;omega
 ·show (mkKeys x.2.2.2.2.1 (mkCommittee x.2.2.1 (mkCommittee x.2.1 k).2).2).2≤_;simp only[mkBClient];omega
theorem wMarkClient_mk:Mk1 TClient wMarkClient_d mkBClient mkClient:=wMarkClient_ok.one
noncomputable def mkBridge (x:tBridge) (k:Int):tBridge×Int:=(((mkClient x.1 k).1,((mkClient x.2.1 (mkClient x.1 k).2).1,(x.2.2.1,(x.2.2.2.1,((mkStringS x.2.2.2.2.1 (mkClient x.2.1 (mkClient x.1 k).2).2).1,x.2.2.2.2.2))))),(mkStringS x.2.2.2.2.1 (mkClient x.2.1 (mkClient x.1 k).2).2).2)
abbrev mkBBridge:Nat:=mkBClient+mkBClient+mkBStringS
theorem wMarkBridge_ok:MkOk TBridge wMarkBridge_d wHeldBridge_d mkBBridge mkBridge:=by
 intro x k hf h0 hk
 simp only[mkBBridge] at hk
 obtain ⟨a0,b0,l0,u0⟩:=wMarkClient_ok x.1 k hf.1 (by omega) (by omega)
 obtain ⟨a1,b1,l1,u1⟩:=wMarkClient_ok x.2.1 (mkClient x.1 k).2 hf.2.1 (by omega) (by omega)
 obtain ⟨a2,b2,l2,u2⟩:=wMarkStringS_ok x.2.2.2.2.1 (mkClient x.2.1 (mkClient x.1 k).2).2 hf.2.2.2.2.1 (by omega) (by omega)
 refine ⟨?_,?_,?_,?_⟩
 ·rw[wMarkBridge_b];simp only[bnd,Option.bind_some,a0,a1,a2];rfl
 ·rw[wHeldBridge_b];simp only[mkBridge,bnd,Option.bind_some,b0,b1,b2]
  simp only[ilt_f (x:=(mkClient x.1 k).2) (y:=0) (by omega),ilt_f (x:=(mkClient x.2.1 (mkClient x.1 k).2).2) (y:=0) (by omega),ilt_f (x:=(mkStringS x.2.2.2.2.1 (mkClient x.2.1 (mkClient x.1 k).2).2).2) (y:=0) (by omega),cnd,cond_false]
 ·show k≤(mkStringS x.2.2.2.2.1 (mkClient x.2.1 (mkClient x.1 k).2).2).2;omega
 ·show (mkStringS x.2.2.2.2.1 (mkClient x.2.1 (mkClient x.1 k).2).2).2≤_;simp only[mkBBridge];omega
theorem wMarkBridge_mk:Mk1 TBridge wMarkBridge_d mkBBridge mkBridge:=wMarkBridge_ok.one
end Go.Proofs.YtkfifjaomgjnnaaGreatDoor
