/- What the functions come to: printed by program. Of no condition. -/
import Derived.Test.YtoeiajpklkijgaaGreatDoorX0
set_option linter.unusedVariables false
set_option maxRecDepth 100000
namespace Go.Proofs.YtoeiajpklkijgaaGreatDoor
open Go.TV
noncomputable def wSzPair_F:FnD:={f:=188,fn:=Tryz.f188,ps:=[pa TPair,pa (.int .i64)],rs:=[rt (.int .i64)]}
noncomputable def wSzPair_c:List (Nat×Sig):=[]
noncomputable def wSzPair_d:tPair×Int×Unit→Option ((Int×Unit)×Unit):=wSzPair_F.d V wSzPair_c
noncomputable abbrev wSzPair_g:Sig:=wSzPair_F.t.sig wSzPair_d
theorem wSzPair_b (x1:tPair) (x2:Int):wSzPair_d (x1,(x2,()))=cnd (ilt (isub .i64 x2 (ssz x1.1)) 0) (some (((-1),()),())) (cnd (ilt (isub .i64 (isub .i64 x2 (ssz x1.1)) (ssz x1.2.1)) 0) (some (((-1),()),())) (some (((isub .i64 (isub .i64 x2 (ssz x1.1)) (ssz x1.2.1)),()),()))):=(FnD.eq V wSzPair_c wSzPair_F (x1,(x2,()))).trans (by kernel_rfl)
theorem wSzPair_k:CallsOk Tryz.prog gls gvs 188 wSzPair_g:=FnD.ok (F:=wSzPair_F) (cs:=wSzPair_c) V_ok kN Tryz.func188 (by decide) (by kernel_rfl)
noncomputable def wSzPairS_F:FnD:={f:=155,fn:=Tryz.f155,ps:=[pa (.sl TPair),pa (.int .i64)],rs:=[rt (.int .i64)],cuts:=[(5,[.val 0 (.sl TPair) .sh, .val 1 (.int .i64) .sh, .val 5 (.int .i64) .sh])]}
noncomputable def wSzPairS_c:List (Nat×Sig):=[(188,wSzPair_g)]
noncomputable def wSzPairS_d:(List tPair)×Int×Unit→Option ((Int×Unit)×Unit):=wSzPairS_F.d V wSzPairS_c
noncomputable abbrev wSzPairS_g:Sig:=wSzPairS_F.t.sig wSzPairS_d
noncomputable def wSzPairS_D5:(List tPair)×Int×Int×Unit→Option ((Int×Unit)×Unit):=wSzPairS_F.D V wSzPairS_c 5
theorem wSzPairS_b (x1:(List tPair)) (x2:Int):wSzPairS_d (x1,(x2,()))=cnd (ilt (isub .i64 x2 (len x1)) 0) (some (((-1),()),())) (wSzPairS_D5 (x1,((isub .i64 x2 (len x1)),(0,())))):=(FnD.eq V wSzPairS_c wSzPairS_F (x1,(x2,()))).trans (by kernel_rfl)
theorem wSzPairS_q5 (x1:(List tPair)) (x2:Int) (x3:Int):wSzPairS_D5 (x1,(x2,(x3,())))=cnd (ilt x3 (len x1)) (cnd (inb x3 (len x1)) (bnd (wSzPair_d ((rd zPair x1 x3),(x2,()))) (fun r3=>(cnd (ilt r3.1.1 0) (some (((-1),()),())) (wSzPairS_D5 (x1,(r3.1.1,((iadd .i64 x3 1),()))))))) none) (some ((x2,()),())):=(FnD.eqC V wSzPairS_c wSzPairS_F 5 (x1,(x2,(x3,())))).trans (by kernel_rfl)
theorem wSzPairS_k:CallsOk Tryz.prog gls gvs 155 wSzPairS_g:=FnD.ok (F:=wSzPairS_F) (cs:=wSzPairS_c) V_ok (kC wSzPair_k kN) Tryz.func155 (by decide) (by kernel_rfl)
noncomputable def wSzAccount_F:FnD:={f:=112,fn:=Tryz.f112,ps:=[pa TAccount,pa (.int .i64)],rs:=[rt (.int .i64)]}
noncomputable def wSzAccount_c:List (Nat×Sig):=[(155,wSzPairS_g)]
noncomputable def wSzAccount_d:tAccount×Int×Unit→Option ((Int×Unit)×Unit):=wSzAccount_F.d V wSzAccount_c
noncomputable abbrev wSzAccount_g:Sig:=wSzAccount_F.t.sig wSzAccount_d
theorem wSzAccount_b (x1:tAccount) (x2:Int):wSzAccount_d (x1,(x2,()))=cnd (ilt (isub .i64 x2 (ssz x1.1)) 0) (some (((-1),()),())) (bnd (wSzPairS_d (x1.2.2.2.1,((isub .i64 x2 (ssz x1.1)),()))) (fun r2=>(cnd (ilt r2.1.1 0) (some (((-1),()),())) (some ((r2.1.1,()),()))))):=(FnD.eq V wSzAccount_c wSzAccount_F (x1,(x2,()))).trans (by kernel_rfl)
theorem wSzAccount_k:CallsOk Tryz.prog gls gvs 112 wSzAccount_g:=FnD.ok (F:=wSzAccount_F) (cs:=wSzAccount_c) V_ok (kC wSzPairS_k kN) Tryz.func112 (by decide) (by kernel_rfl)
noncomputable def wSzAccountS_F:FnD:={f:=65,fn:=Tryz.f65,ps:=[pa (.sl TAccount),pa (.int .i64)],rs:=[rt (.int .i64)],cuts:=[(5,[.val 0 (.sl TAccount) .sh, .val 1 (.int .i64) .sh, .val 5 (.int .i64) .sh])]}
noncomputable def wSzAccountS_c:List (Nat×Sig):=[(112,wSzAccount_g)]
noncomputable def wSzAccountS_d:(List tAccount)×Int×Unit→Option ((Int×Unit)×Unit):=wSzAccountS_F.d V wSzAccountS_c
noncomputable abbrev wSzAccountS_g:Sig:=wSzAccountS_F.t.sig wSzAccountS_d
noncomputable def wSzAccountS_D5:(List tAccount)×Int×Int×Unit→Option ((Int×Unit)×Unit):=wSzAccountS_F.D V wSzAccountS_c 5
theorem wSzAccountS_b (x1:(List tAccount)) (x2:Int):wSzAccountS_d (x1,(x2,()))=cnd (ilt (isub .i64 x2 (len x1)) 0) (some (((-1),()),())) (wSzAccountS_D5 (x1,((isub .i64 x2 (len x1)),(0,())))):=(FnD.eq V wSzAccountS_c wSzAccountS_F (x1,(x2,()))).trans (by kernel_rfl)
theorem wSzAccountS_q5 (x1:(List tAccount)) (x2:Int) (x3:Int):wSzAccountS_D5 (x1,(x2,(x3,())))=cnd (ilt x3 (len x1)) (cnd (inb x3 (len x1)) (bnd (wSzAccount_d ((rd zAccount x1 x3),(x2,()))) (fun r3=>(cnd (ilt r3.1.1 0) (some (((-1),()),())) (wSzAccountS_D5 (x1,(r3.1.1,((iadd .i64 x3 1),()))))))) none) (some ((x2,()),())):=(FnD.eqC V wSzAccountS_c wSzAccountS_F 5 (x1,(x2,(x3,())))).trans (by kernel_rfl)
theorem wSzAccountS_k:CallsOk Tryz.prog gls gvs 65 wSzAccountS_g:=FnD.ok (F:=wSzAccountS_F) (cs:=wSzAccountS_c) V_ok (kC wSzAccount_k kN) Tryz.func65 (by decide) (by kernel_rfl)
noncomputable def wSzChain_F:FnD:={f:=25,fn:=Tryz.f25,ps:=[pa TChain,pa (.int .i64)],rs:=[rt (.int .i64)]}
noncomputable def wSzChain_c:List (Nat×Sig):=[(65,wSzAccountS_g)]
noncomputable def wSzChain_d:tChain×Int×Unit→Option ((Int×Unit)×Unit):=wSzChain_F.d V wSzChain_c
noncomputable abbrev wSzChain_g:Sig:=wSzChain_F.t.sig wSzChain_d
theorem wSzChain_b (x1:tChain) (x2:Int):wSzChain_d (x1,(x2,()))=bnd (wSzAccountS_d (x1.2.1,(x2,()))) (fun r2=>(cnd (ilt r2.1.1 0) (some (((-1),()),())) (some ((r2.1.1,()),())))):=(FnD.eq V wSzChain_c wSzChain_F (x1,(x2,()))).trans (by kernel_rfl)
theorem wSzChain_k:CallsOk Tryz.prog gls gvs 25 wSzChain_g:=FnD.ok (F:=wSzChain_F) (cs:=wSzChain_c) V_ok (kC wSzAccountS_k kN) Tryz.func25 (by decide) (by kernel_rfl)
noncomputable def wToPair_F:FnD:={f:=197,fn:=Tryz.f197,ps:=[pa TPair],rs:=[rt TPair]}
noncomputable def wToPair_c:List (Nat×Sig):=[]
noncomputable def wToPair_d:tPair×Unit→Option ((tPair×Unit)×Unit):=wToPair_F.d V wToPair_c
noncomputable abbrev wToPair_g:Sig:=wToPair_F.t.sig wToPair_d
theorem wToPair_b (x1:tPair):wToPair_d (x1,())=some (((x1.1,(x1.2.1,())),()),()):=(FnD.eq V wToPair_c wToPair_F (x1,())).trans (by kernel_rfl)
theorem wToPair_k:CallsOk Tryz.prog gls gvs 197 wToPair_g:=FnD.ok (F:=wToPair_F) (cs:=wToPair_c) V_ok kN Tryz.func197 (by decide) (by kernel_rfl)
noncomputable def wToPairS_F:FnD:={f:=165,fn:=Tryz.f165,ps:=[pa (.sl TPair)],rs:=[⟨(.sl TPair),(.own 0 .sh),false⟩],cuts:=[(3,[.val 0 (.sl TPair) .sh, .val 3 (.sl TPair) (.own 0 .sh), .val 4 (.int .i64) .sh])]}
noncomputable def wToPairS_c:List (Nat×Sig):=[(197,wToPair_g)]
noncomputable def wToPairS_d:(List tPair)×Unit→Option (((List tPair)×Unit)×Unit):=wToPairS_F.d V wToPairS_c
noncomputable abbrev wToPairS_g:Sig:=wToPairS_F.t.sig wToPairS_d
noncomputable def wToPairS_D3:(List tPair)× (List tPair)×Int×Unit→Option (((List tPair)×Unit)×Unit):=wToPairS_F.D V wToPairS_c 3
theorem wToPairS_b (x1:(List tPair)):wToPairS_d (x1,())=cnd (both (inb2 0 (len x1) (len x1)) (fits (len x1) 2)) (wToPairS_D3 (x1,((rep (len x1) zPair),(0,())))) none:=(FnD.eq V wToPairS_c wToPairS_F (x1,())).trans (by kernel_rfl)
theorem wToPairS_q3 (x1:(List tPair)) (x2:(List tPair)) (x3:Int):wToPairS_D3 (x1,(x2,(x3,())))=cnd (ilt x3 (len x1)) (cnd (inb x3 (len x1)) (bnd (wToPair_d ((rd zPair x1 x3),())) (fun r3=>(cnd (inb x3 (len x2)) (wToPairS_D3 (x1,((upd x2 x3 r3.1.1),((iadd .i64 x3 1),())))) none))) none) (some ((x2,()),())):=(FnD.eqC V wToPairS_c wToPairS_F 3 (x1,(x2,(x3,())))).trans (by kernel_rfl)
theorem wToPairS_k:CallsOk Tryz.prog gls gvs 165 wToPairS_g:=FnD.ok (F:=wToPairS_F) (cs:=wToPairS_c) V_ok (kC wToPair_k kN) Tryz.func165 (by decide) (by kernel_rfl)
noncomputable def wToAccount_F:FnD:={f:=123,fn:=Tryz.f123,ps:=[pa TAccount],rs:=[⟨TAccount,(.pr .sh (.pr .sh (.pr .sh (.pr (.own 0 .sh) .sh)))),false⟩]}
noncomputable def wToAccount_c:List (Nat×Sig):=[(165,wToPairS_g)]
noncomputable def wToAccount_d:tAccount×Unit→Option ((tAccount×Unit)×Unit):=wToAccount_F.d V wToAccount_c
noncomputable abbrev wToAccount_g:Sig:=wToAccount_F.t.sig wToAccount_d
theorem wToAccount_b (x1:tAccount):wToAccount_d (x1,())=bnd (wToPairS_d (x1.2.2.2.1,())) (fun r1=>(some (((x1.1,(x1.2.1,(x1.2.2.1,(r1.1.1,())))),()),()))):=(FnD.eq V wToAccount_c wToAccount_F (x1,())).trans (by kernel_rfl)
theorem wToAccount_k:CallsOk Tryz.prog gls gvs 123 wToAccount_g:=FnD.ok (F:=wToAccount_F) (cs:=wToAccount_c) V_ok (kC wToPairS_k kN) Tryz.func123 (by decide) (by kernel_rfl)
noncomputable def wToAccountS_F:FnD:={f:=72,fn:=Tryz.f72,ps:=[pa (.sl TAccount)],rs:=[⟨(.sl TAccount),(.own 0 (.pr .sh (.pr .sh (.pr .sh (.pr (.own 0 .sh) .sh))))),false⟩],cuts:=[(3,[.val 0 (.sl TAccount) .sh, .val 3 (.sl TAccount) (.own 0 (.pr .sh (.pr .sh (.pr .sh (.pr (.own 0 .sh) .sh))))), .val 4 (.int .i64) .sh])]}
noncomputable def wToAccountS_c:List (Nat×Sig):=[(123,wToAccount_g)]
noncomputable def wToAccountS_d:(List tAccount)×Unit→Option (((List tAccount)×Unit)×Unit):=wToAccountS_F.d V wToAccountS_c
noncomputable abbrev wToAccountS_g:Sig:=wToAccountS_F.t.sig wToAccountS_d
noncomputable def wToAccountS_D3:(List tAccount)× (List tAccount)×Int×Unit→Option (((List tAccount)×Unit)×Unit):=wToAccountS_F.D V wToAccountS_c 3
theorem wToAccountS_b (x1:(List tAccount)):wToAccountS_d (x1,())=cnd (both (inb2 0 (len x1) (len x1)) (fits (len x1) 4)) (wToAccountS_D3 (x1,((rep (len x1) zAccount),(0,())))) none:=(FnD.eq V wToAccountS_c wToAccountS_F (x1,())).trans (by kernel_rfl)
theorem wToAccountS_q3 (x1:(List tAccount)) (x2:(List tAccount)) (x3:Int):wToAccountS_D3 (x1,(x2,(x3,())))=cnd (ilt x3 (len x1)) (cnd (inb x3 (len x1)) (bnd (wToAccount_d ((rd zAccount x1 x3),())) (fun r3=>(cnd (inb x3 (len x2)) (wToAccountS_D3 (x1,((upd x2 x3 r3.1.1),((iadd .i64 x3 1),())))) none))) none) (some ((x2,()),())):=(FnD.eqC V wToAccountS_c wToAccountS_F 3 (x1,(x2,(x3,())))).trans (by kernel_rfl)
theorem wToAccountS_k:CallsOk Tryz.prog gls gvs 72 wToAccountS_g:=FnD.ok (F:=wToAccountS_F) (cs:=wToAccountS_c) V_ok (kC wToAccount_k kN) Tryz.func72 (by decide) (by kernel_rfl)
noncomputable def wToChain_F:FnD:={f:=27,fn:=Tryz.f27,ps:=[pa TChain],rs:=[⟨TChain,(.pr .sh (.pr (.own 0 (.pr .sh (.pr .sh (.pr .sh (.pr (.own 0 .sh) .sh))))) .sh)),false⟩]}
noncomputable def wToChain_c:List (Nat×Sig):=[(72,wToAccountS_g)]
noncomputable def wToChain_d:tChain×Unit→Option ((tChain×Unit)×Unit):=wToChain_F.d V wToChain_c
noncomputable abbrev wToChain_g:Sig:=wToChain_F.t.sig wToChain_d
theorem wToChain_b (x1:tChain):wToChain_d (x1,())=bnd (wToAccountS_d (x1.2.1,())) (fun r1=>(some (((x1.1,(r1.1.1,())),()),()))):=(FnD.eq V wToChain_c wToChain_F (x1,())).trans (by kernel_rfl)
theorem wToChain_k:CallsOk Tryz.prog gls gvs 27 wToChain_g:=FnD.ok (F:=wToChain_F) (cs:=wToChain_c) V_ok (kC wToAccountS_k kN) Tryz.func27 (by decide) (by kernel_rfl)
noncomputable def sL01In_F:FnD:={f:=51,fn:=Tryz.f51,ps:=[pa (.int .i64),pa (.int .i64),pa (.int .i64)],rs:=[rt .bool]}
noncomputable def sL01In_c:List (Nat×Sig):=[]
noncomputable def sL01In_d:Int×Int×Int×Unit→Option ((Bool×Unit)×Unit):=sL01In_F.d V sL01In_c
noncomputable abbrev sL01In_g:Sig:=sL01In_F.t.sig sL01In_d
theorem sL01In_b (x1:Int) (x2:Int) (x3:Int):sL01In_d (x1,(x2,(x3,())))=cnd (ige x1 x2) (some (((ile x1 x3),()),())) (some ((false,()),())):=(FnD.eq V sL01In_c sL01In_F (x1,(x2,(x3,())))).trans (by kernel_rfl)
theorem sL01In_k:CallsOk Tryz.prog gls gvs 51 sL01In_g:=FnD.ok (F:=sL01In_F) (cs:=sL01In_c) V_ok kN Tryz.func51 (by decide) (by kernel_rfl)
noncomputable def sPairsOk_F:FnD:={f:=50,fn:=Tryz.f50,ps:=[pa (.sl TPair)],rs:=[rt .bool],cuts:=[(2,[.val 0 (.sl TPair) .sh, .val 3 (.int .i64) .sh])]}
noncomputable def sPairsOk_c:List (Nat×Sig):=[(51,sL01In_g)]
noncomputable def sPairsOk_d:(List tPair)×Unit→Option ((Bool×Unit)×Unit):=sPairsOk_F.d V sPairsOk_c
noncomputable abbrev sPairsOk_g:Sig:=sPairsOk_F.t.sig sPairsOk_d
noncomputable def sPairsOk_D2:(List tPair)×Int×Unit→Option ((Bool×Unit)×Unit):=sPairsOk_F.D V sPairsOk_c 2
theorem sPairsOk_b (x1:(List tPair)):sPairsOk_d (x1,())=sPairsOk_D2 (x1,(0,())):=(FnD.eq V sPairsOk_c sPairsOk_F (x1,())).trans (by kernel_rfl)
theorem sPairsOk_q2 (x1:(List tPair)) (x2:Int):sPairsOk_D2 (x1,(x2,()))=cnd (ilt x2 (len x1)) (cnd (inb x2 (len x1)) (cnd (ine (ssz (rd zPair x1 x2).1) 4) (some ((false,()),())) (cnd (inb x2 (len x1)) (bnd (sL01In_d ((ssz (rd zPair x1 x2).2.1),(1,(60,())))) (fun r2=>(cnd (bnot r2.1.1) (some ((false,()),())) (cnd (igt x2 0) (cnd (inb (isub .i64 x2 1) (len x1)) (cnd (inb x2 (len x1)) (cnd (sge (rd zPair x1 (isub .i64 x2 1)).1 (rd zPair x1 x2).1) (some ((false,()),())) (sPairsOk_D2 (x1,((iadd .i64 x2 1),())))) none) none) (sPairsOk_D2 (x1,((iadd .i64 x2 1),()))))))) none)) none) (some (((ile (len x1) 12),()),())):=(FnD.eqC V sPairsOk_c sPairsOk_F 2 (x1,(x2,()))).trans (by kernel_rfl)
theorem sPairsOk_k:CallsOk Tryz.prog gls gvs 50 sPairsOk_g:=FnD.ok (F:=sPairsOk_F) (cs:=sPairsOk_c) V_ok (kC sL01In_k kN) Tryz.func50 (by decide) (by kernel_rfl)
noncomputable def sAccountsOk_F:FnD:={f:=113,fn:=Tryz.f113,ps:=[pa (.sl TAccount)],rs:=[rt .bool],cuts:=[(2,[.val 0 (.sl TAccount) .sh, .val 3 (.int .i64) .sh])]}
noncomputable def sAccountsOk_c:List (Nat×Sig):=[(51,sL01In_g),(50,sPairsOk_g)]
noncomputable def sAccountsOk_d:(List tAccount)×Unit→Option ((Bool×Unit)×Unit):=sAccountsOk_F.d V sAccountsOk_c
noncomputable abbrev sAccountsOk_g:Sig:=sAccountsOk_F.t.sig sAccountsOk_d
noncomputable def sAccountsOk_D2:(List tAccount)×Int×Unit→Option ((Bool×Unit)×Unit):=sAccountsOk_F.D V sAccountsOk_c 2
theorem sAccountsOk_b (x1:(List tAccount)):sAccountsOk_d (x1,())=sAccountsOk_D2 (x1,(0,())):=(FnD.eq V sAccountsOk_c sAccountsOk_F (x1,())).trans (by kernel_rfl)
theorem sAccountsOk_q2 (x1:(List tAccount)) (x2:Int):sAccountsOk_D2 (x1,(x2,()))=cnd (ilt x2 (len x1)) (cnd (inb x2 (len x1)) (cnd (ine (ssz (rd zAccount x1 x2).1) 4) (some ((false,()),())) (cnd (igt x2 0) (cnd (inb (isub .i64 x2 1) (len x1)) (cnd (sge (rd zAccount x1 (isub .i64 x2 1)).1 (rd zAccount x1 x2).1) (some ((false,()),())) (bnd (sL01In_d ((rd zAccount x1 x2).2.1,(0,(1000,())))) (fun r2=>(cnd (bnot r2.1.1) (some ((false,()),())) (bnd (sL01In_d ((rd zAccount x1 x2).2.2.1,(0,(1000000000,())))) (fun r3=>(cnd (bnot r3.1.1) (some ((false,()),())) (bnd (sPairsOk_d ((rd zAccount x1 x2).2.2.2.1,())) (fun r4=>(cnd (bnot r4.1.1) (some ((false,()),())) (sAccountsOk_D2 (x1,((iadd .i64 x2 1),()))))))))))))) none) (bnd (sL01In_d ((rd zAccount x1 x2).2.1,(0,(1000,())))) (fun r2=>(cnd (bnot r2.1.1) (some ((false,()),())) (bnd (sL01In_d ((rd zAccount x1 x2).2.2.1,(0,(1000000000,())))) (fun r3=>(cnd (bnot r3.1.1) (some ((false,()),())) (bnd (sPairsOk_d ((rd zAccount x1 x2).2.2.2.1,())) (fun r4=>(cnd (bnot r4.1.1) (some ((false,()),())) (sAccountsOk_D2 (x1,((iadd .i64 x2 1),())))))))))))))) none) (some (((ile (len x1) 12),()),())):=(FnD.eqC V sAccountsOk_c sAccountsOk_F 2 (x1,(x2,()))).trans (by kernel_rfl)
theorem sAccountsOk_k:CallsOk Tryz.prog gls gvs 113 sAccountsOk_g:=FnD.ok (F:=sAccountsOk_F) (cs:=sAccountsOk_c) V_ok (kC sL01In_k (kC sPairsOk_k kN)) Tryz.func113 (by decide) (by kernel_rfl)
noncomputable def sChainOk_F:FnD:={f:=66,fn:=Tryz.f66,ps:=[pa TChain],rs:=[rt .bool]}
noncomputable def sChainOk_c:List (Nat×Sig):=[(51,sL01In_g),(113,sAccountsOk_g)]
noncomputable def sChainOk_d:tChain×Unit→Option ((Bool×Unit)×Unit):=sChainOk_F.d V sChainOk_c
noncomputable abbrev sChainOk_g:Sig:=sChainOk_F.t.sig sChainOk_d
theorem sChainOk_b (x1:tChain):sChainOk_d (x1,())=bnd (sL01In_d (x1.1,(0,(99,())))) (fun r1=>(cnd r1.1.1 (bnd (sAccountsOk_d (x1.2.1,())) (fun r2=>(some ((r2.1.1,()),())))) (some ((false,()),())))):=(FnD.eq V sChainOk_c sChainOk_F (x1,())).trans (by kernel_rfl)
theorem sChainOk_k:CallsOk Tryz.prog gls gvs 66 sChainOk_g:=FnD.ok (F:=sChainOk_F) (cs:=sChainOk_c) V_ok (kC sL01In_k (kC sAccountsOk_k kN)) Tryz.func66 (by decide) (by kernel_rfl)
noncomputable def sPeriodOf_F:FnD:={f:=67,fn:=Tryz.f67,ps:=[pa (.int .i64)],rs:=[rt (.int .i64)]}
noncomputable def sPeriodOf_c:List (Nat×Sig):=[]
noncomputable def sPeriodOf_d:Int×Unit→Option ((Int×Unit)×Unit):=sPeriodOf_F.d V sPeriodOf_c
noncomputable abbrev sPeriodOf_g:Sig:=sPeriodOf_F.t.sig sPeriodOf_d
theorem sPeriodOf_b (x1:Int):sPeriodOf_d (x1,())=cnd (ilt x1 0) (some ((0,()),())) (cnd (nz 8) (some (((iquo .i64 x1 8),()),())) none):=(FnD.eq V sPeriodOf_c sPeriodOf_F (x1,())).trans (by kernel_rfl)
theorem sPeriodOf_k:CallsOk Tryz.prog gls gvs 67 sPeriodOf_g:=FnD.ok (F:=sPeriodOf_F) (cs:=sPeriodOf_c) V_ok kN Tryz.func67 (by decide) (by kernel_rfl)
noncomputable def sChainAccounts_F:FnD:={f:=69,fn:=Tryz.f69,ps:=[pa TChain,pa (.int .i64)],rs:=[⟨(.sl TAccount),(.own 0 (.pr .sh (.pr .sh (.pr .sh (.pr (.own 0 .sh) .sh))))),false⟩],cuts:=[(3,[.val 1 (.int .i64) .sh, .val 5 (.sl TAccount) (.own 0 (.pr .sh (.pr .sh (.pr .sh (.pr (.own 0 .sh) .sh))))), .val 6 (.int .i64) .sh, .box 2 TChain .sh, .ptr 2 2 0])]}
noncomputable def sChainAccounts_c:List (Nat×Sig):=[]
noncomputable def sChainAccounts_d:tChain×Int×Unit→Option (((List tAccount)×Unit)×Unit):=sChainAccounts_F.d V sChainAccounts_c
noncomputable abbrev sChainAccounts_g:Sig:=sChainAccounts_F.t.sig sChainAccounts_d
noncomputable def sChainAccounts_D3:Int× (List tAccount)×Int×tChain×Unit→Option (((List tAccount)×Unit)×Unit):=sChainAccounts_F.D V sChainAccounts_c 3
theorem sChainAccounts_b (x1:tChain) (x2:Int):sChainAccounts_d (x1,(x2,()))=sChainAccounts_D3 (x2,(([]:List tAccount),(0,(x1,())))):=(FnD.eq V sChainAccounts_c sChainAccounts_F (x1,(x2,()))).trans (by kernel_rfl)
theorem sChainAccounts_q3 (x1:Int) (x2:(List tAccount)) (x3:Int) (x4:tChain):sChainAccounts_D3 (x1,(x2,(x3,(x4,()))))=cnd (ilt x3 (len x4.2.1)) (cnd (inb x3 (len x4.2.1)) (cnd (fits ((len ([]:List tPair))+(len (rd zAccount x4.2.1 x3).2.2.2.1)) 2) (cnd (igt x1 0) (cnd (igt (rd zAccount x4.2.1 x3).2.1 0) (cnd (igt x1 (isub .i64 1000 (rd zAccount x4.2.1 x3).2.1)) (cnd (fits ((len x2)+(len (((rd zAccount x4.2.1 x3).1,(1000,((rd zAccount x4.2.1 x3).2.2.1,((app ([]:List tPair) (rd zAccount x4.2.1 x3).2.2.2.1),(rd zAccount x4.2.1 x3).2.2.2.2))))::([]:List tAccount)))) 4) (sChainAccounts_D3 (x1,((app x2 (((rd zAccount x4.2.1 x3).1,(1000,((rd zAccount x4.2.1 x3).2.2.1,((app ([]:List tPair) (rd zAccount x4.2.1 x3).2.2.2.1),(rd zAccount x4.2.1 x3).2.2.2.2))))::([]:List tAccount))),((iadd .i64 x3 1),(x4,()))))) none) (cnd (fits ((len x2)+(len (((rd zAccount x4.2.1 x3).1,((imin (iadd .i64 (rd zAccount x4.2.1 x3).2.1 x1) 1000),((rd zAccount x4.2.1 x3).2.2.1,((app ([]:List tPair) (rd zAccount x4.2.1 x3).2.2.2.1),(rd zAccount x4.2.1 x3).2.2.2.2))))::([]:List tAccount)))) 4) (sChainAccounts_D3 (x1,((app x2 (((rd zAccount x4.2.1 x3).1,((imin (iadd .i64 (rd zAccount x4.2.1 x3).2.1 x1) 1000),((rd zAccount x4.2.1 x3).2.2.1,((app ([]:List tPair) (rd zAccount x4.2.1 x3).2.2.2.1),(rd zAccount x4.2.1 x3).2.2.2.2))))::([]:List tAccount))),((iadd .i64 x3 1),(x4,()))))) none)) (cnd (fits ((len x2)+(len (((rd zAccount x4.2.1 x3).1,((imin (iadd .i64 (rd zAccount x4.2.1 x3).2.1 x1) 1000),((rd zAccount x4.2.1 x3).2.2.1,((app ([]:List tPair) (rd zAccount x4.2.1 x3).2.2.2.1),(rd zAccount x4.2.1 x3).2.2.2.2))))::([]:List tAccount)))) 4) (sChainAccounts_D3 (x1,((app x2 (((rd zAccount x4.2.1 x3).1,((imin (iadd .i64 (rd zAccount x4.2.1 x3).2.1 x1) 1000),((rd zAccount x4.2.1 x3).2.2.1,((app ([]:List tPair) (rd zAccount x4.2.1 x3).2.2.2.1),(rd zAccount x4.2.1 x3).2.2.2.2))))::([]:List tAccount))),((iadd .i64 x3 1),(x4,()))))) none)) (cnd (fits ((len x2)+(len (((rd zAccount x4.2.1 x3).1,((rd zAccount x4.2.1 x3).2.1,((rd zAccount x4.2.1 x3).2.2.1,((app ([]:List tPair) (rd zAccount x4.2.1 x3).2.2.2.1),(rd zAccount x4.2.1 x3).2.2.2.2))))::([]:List tAccount)))) 4) (sChainAccounts_D3 (x1,((app x2 (((rd zAccount x4.2.1 x3).1,((rd zAccount x4.2.1 x3).2.1,((rd zAccount x4.2.1 x3).2.2.1,((app ([]:List tPair) (rd zAccount x4.2.1 x3).2.2.2.1),(rd zAccount x4.2.1 x3).2.2.2.2))))::([]:List tAccount))),((iadd .i64 x3 1),(x4,()))))) none)) none) none) (some ((x2,()),())):=(FnD.eqC V sChainAccounts_c sChainAccounts_F 3 (x1,(x2,(x3,(x4,()))))).trans (by kernel_rfl)
theorem sChainAccounts_k:CallsOk Tryz.prog gls gvs 69 sChainAccounts_g:=FnD.ok (F:=sChainAccounts_F) (cs:=sChainAccounts_c) V_ok kN Tryz.func69 (by decide) (by kernel_rfl)
noncomputable def sSecretsOf_F:FnD:={f:=160,fn:=Tryz.f160,ps:=[pa (.int .i64)],rs:=[⟨(.sl (.int .i64)),(.own 0 .sh),false⟩],joins:=[4],cuts:=[(4,[.val 3 (.int .i64) .sh]),(6,[.val 3 (.int .i64) .sh, .val 4 (.sl (.int .i64)) (.own 0 .sh), .val 5 (.int .i64) .sh])]}
noncomputable def sSecretsOf_c:List (Nat×Sig):=[]
noncomputable def sSecretsOf_d:Int×Unit→Option (((List Int)×Unit)×Unit):=sSecretsOf_F.d V sSecretsOf_c
noncomputable abbrev sSecretsOf_g:Sig:=sSecretsOf_F.t.sig sSecretsOf_d
noncomputable def sSecretsOf_D4:Int×Unit→Option (((List Int)×Unit)×Unit):=sSecretsOf_F.D V sSecretsOf_c 4
noncomputable def sSecretsOf_D6:Int× (List Int)×Int×Unit→Option (((List Int)×Unit)×Unit):=sSecretsOf_F.D V sSecretsOf_c 6
theorem sSecretsOf_b (x1:Int):sSecretsOf_d (x1,())=cnd (nz 1000) (cnd (ilt (irem x1 1000) 0) (sSecretsOf_D4 ((iadd .i64 (irem x1 1000) 1000),())) (sSecretsOf_D4 ((irem x1 1000),()))) none:=(FnD.eq V sSecretsOf_c sSecretsOf_F (x1,())).trans (by kernel_rfl)
theorem sSecretsOf_q4 (x1:Int):sSecretsOf_D4 (x1,())=sSecretsOf_D6 (x1,(([]:List Int),(0,()))):=(FnD.eqC V sSecretsOf_c sSecretsOf_F 4 (x1,())).trans (by kernel_rfl)
theorem sSecretsOf_q6 (x1:Int) (x2:(List Int)) (x3:Int):sSecretsOf_D6 (x1,(x2,(x3,())))=cnd (ilt x3 8) (cnd (nz 1007) (cnd (fits ((len x2)+(len ((iadd .i64 1 (irem (iadd .i64 (iadd .i64 (imul .i64 x1 31) (imul .i64 x3 57)) 7) 1007))::([]:List Int)))) 1) (sSecretsOf_D6 (x1,((app x2 ((iadd .i64 1 (irem (iadd .i64 (iadd .i64 (imul .i64 x1 31) (imul .i64 x3 57)) 7) 1007))::([]:List Int))),((iadd .i64 x3 1),())))) none) none) (some ((x2,()),())):=(FnD.eqC V sSecretsOf_c sSecretsOf_F 6 (x1,(x2,(x3,())))).trans (by kernel_rfl)
theorem sSecretsOf_k:CallsOk Tryz.prog gls gvs 160 sSecretsOf_g:=FnD.ok (F:=sSecretsOf_F) (cs:=sSecretsOf_c) V_ok kN Tryz.func160 (by decide) (by kernel_rfl)
noncomputable def sScOf_F:FnD:={f:=195,fn:=Tryz.f195,ps:=[pa (.int .i64)],rs:=[rt (.int .i64)]}
noncomputable def sScOf_c:List (Nat×Sig):=[]
noncomputable def sScOf_d:Int×Unit→Option ((Int×Unit)×Unit):=sScOf_F.d V sScOf_c
noncomputable abbrev sScOf_g:Sig:=sScOf_F.t.sig sScOf_d
theorem sScOf_b (x1:Int):sScOf_d (x1,())=cnd (nz 1009) (cnd (ilt (irem x1 1009) 0) (some (((iadd .i64 (irem x1 1009) 1009),()),())) (some (((irem x1 1009),()),()))) none:=(FnD.eq V sScOf_c sScOf_F (x1,())).trans (by kernel_rfl)
theorem sScOf_k:CallsOk Tryz.prog gls gvs 195 sScOf_g:=FnD.ok (F:=sScOf_F) (cs:=sScOf_c) V_ok kN Tryz.func195 (by decide) (by kernel_rfl)
noncomputable def sBase_F:FnD:={f:=196,fn:=Tryz.f196,ps:=[],rs:=[rt TPoint]}
noncomputable def sBase_c:List (Nat×Sig):=[]
noncomputable def sBase_d:Unit→Option ((tPoint×Unit)×Unit):=sBase_F.d V sBase_c
noncomputable abbrev sBase_g:Sig:=sBase_F.t.sig sBase_d
theorem sBase_b:sBase_d ()=some (((8445,(859,(false,()))),()),()):=(FnD.eq V sBase_c sBase_F ()).trans (by kernel_rfl)
theorem sBase_k:CallsOk Tryz.prog gls gvs 196 sBase_g:=FnD.ok (F:=sBase_F) (cs:=sBase_c) V_ok kN Tryz.func196 (by decide) (by kernel_rfl)
noncomputable def sFpOk_F:FnD:={f:=229,fn:=Tryz.f229,ps:=[pa (.int .i64)],rs:=[rt .bool]}
noncomputable def sFpOk_c:List (Nat×Sig):=[(51,sL01In_g)]
noncomputable def sFpOk_d:Int×Unit→Option ((Bool×Unit)×Unit):=sFpOk_F.d V sFpOk_c
noncomputable abbrev sFpOk_g:Sig:=sFpOk_F.t.sig sFpOk_d
theorem sFpOk_b (x1:Int):sFpOk_d (x1,())=bnd (sL01In_d (x1,(0,(12106,())))) (fun r1=>(some ((r1.1.1,()),()))):=(FnD.eq V sFpOk_c sFpOk_F (x1,())).trans (by kernel_rfl)
theorem sFpOk_k:CallsOk Tryz.prog gls gvs 229 sFpOk_g:=FnD.ok (F:=sFpOk_F) (cs:=sFpOk_c) V_ok (kC sL01In_k kN) Tryz.func229 (by decide) (by kernel_rfl)
noncomputable def sFpOf_F:FnD:={f:=240,fn:=Tryz.f240,ps:=[pa (.int .i64)],rs:=[rt (.int .i64)]}
noncomputable def sFpOf_c:List (Nat×Sig):=[]
noncomputable def sFpOf_d:Int×Unit→Option ((Int×Unit)×Unit):=sFpOf_F.d V sFpOf_c
noncomputable abbrev sFpOf_g:Sig:=sFpOf_F.t.sig sFpOf_d
theorem sFpOf_b (x1:Int):sFpOf_d (x1,())=cnd (nz 12107) (cnd (ilt (irem x1 12107) 0) (some (((iadd .i64 (irem x1 12107) 12107),()),())) (some (((irem x1 12107),()),()))) none:=(FnD.eq V sFpOf_c sFpOf_F (x1,())).trans (by kernel_rfl)
theorem sFpOf_k:CallsOk Tryz.prog gls gvs 240 sFpOf_g:=FnD.ok (F:=sFpOf_F) (cs:=sFpOf_c) V_ok kN Tryz.func240 (by decide) (by kernel_rfl)
noncomputable def sFpMul_F:FnD:={f:=230,fn:=Tryz.f230,ps:=[pa (.int .i64),pa (.int .i64)],rs:=[rt (.int .i64)]}
noncomputable def sFpMul_c:List (Nat×Sig):=[(240,sFpOf_g)]
noncomputable def sFpMul_d:Int×Int×Unit→Option ((Int×Unit)×Unit):=sFpMul_F.d V sFpMul_c
noncomputable abbrev sFpMul_g:Sig:=sFpMul_F.t.sig sFpMul_d
theorem sFpMul_b (x1:Int) (x2:Int):sFpMul_d (x1,(x2,()))=bnd (sFpOf_d (x1,())) (fun r2=>(bnd (sFpOf_d (x2,())) (fun r3=>(bnd (sFpOf_d ((imul .i64 r2.1.1 r3.1.1),())) (fun r4=>(some ((r4.1.1,()),()))))))):=(FnD.eq V sFpMul_c sFpMul_F (x1,(x2,()))).trans (by kernel_rfl)
theorem sFpMul_k:CallsOk Tryz.prog gls gvs 230 sFpMul_g:=FnD.ok (F:=sFpMul_F) (cs:=sFpMul_c) V_ok (kC sFpOf_k kN) Tryz.func230 (by decide) (by kernel_rfl)
noncomputable def sFpAdd_F:FnD:={f:=241,fn:=Tryz.f241,ps:=[pa (.int .i64),pa (.int .i64)],rs:=[rt (.int .i64)]}
noncomputable def sFpAdd_c:List (Nat×Sig):=[(240,sFpOf_g)]
noncomputable def sFpAdd_d:Int×Int×Unit→Option ((Int×Unit)×Unit):=sFpAdd_F.d V sFpAdd_c
noncomputable abbrev sFpAdd_g:Sig:=sFpAdd_F.t.sig sFpAdd_d
theorem sFpAdd_b (x1:Int) (x2:Int):sFpAdd_d (x1,(x2,()))=bnd (sFpOf_d (x1,())) (fun r2=>(bnd (sFpOf_d (x2,())) (fun r3=>(bnd (sFpOf_d ((iadd .i64 r2.1.1 r3.1.1),())) (fun r4=>(some ((r4.1.1,()),()))))))):=(FnD.eq V sFpAdd_c sFpAdd_F (x1,(x2,()))).trans (by kernel_rfl)
theorem sFpAdd_k:CallsOk Tryz.prog gls gvs 241 sFpAdd_g:=FnD.ok (F:=sFpAdd_F) (cs:=sFpAdd_c) V_ok (kC sFpOf_k kN) Tryz.func241 (by decide) (by kernel_rfl)
noncomputable def sL07Right_F:FnD:={f:=231,fn:=Tryz.f231,ps:=[pa (.int .i64)],rs:=[rt (.int .i64)]}
noncomputable def sL07Right_c:List (Nat×Sig):=[(230,sFpMul_g),(241,sFpAdd_g)]
noncomputable def sL07Right_d:Int×Unit→Option ((Int×Unit)×Unit):=sL07Right_F.d V sL07Right_c
noncomputable abbrev sL07Right_g:Sig:=sL07Right_F.t.sig sL07Right_d
theorem sL07Right_b (x1:Int):sL07Right_d (x1,())=bnd (sFpMul_d (x1,(x1,()))) (fun r1=>(bnd (sFpMul_d (r1.1.1,(x1,()))) (fun r2=>(bnd (sFpAdd_d (r2.1.1,(x1,()))) (fun r3=>(some ((r3.1.1,()),()))))))):=(FnD.eq V sL07Right_c sL07Right_F (x1,())).trans (by kernel_rfl)
theorem sL07Right_k:CallsOk Tryz.prog gls gvs 231 sL07Right_g:=FnD.ok (F:=sL07Right_F) (cs:=sL07Right_c) V_ok (kC sFpMul_k (kC sFpAdd_k kN)) Tryz.func231 (by decide) (by kernel_rfl)
noncomputable def sPointOk_F:FnD:={f:=217,fn:=Tryz.f217,ps:=[pa TPoint],rs:=[rt .bool]}
noncomputable def sPointOk_c:List (Nat×Sig):=[(229,sFpOk_g),(230,sFpMul_g),(231,sL07Right_g)]
noncomputable def sPointOk_d:tPoint×Unit→Option ((Bool×Unit)×Unit):=sPointOk_F.d V sPointOk_c
noncomputable abbrev sPointOk_g:Sig:=sPointOk_F.t.sig sPointOk_d
theorem sPointOk_b (x1:tPoint):sPointOk_d (x1,())=cnd x1.2.2.1 (cnd (ieq x1.1 0) (some (((ieq x1.2.1 0),()),())) (some ((false,()),()))) (bnd (sFpOk_d (x1.1,())) (fun r1=>(cnd r1.1.1 (bnd (sFpOk_d (x1.2.1,())) (fun r2=>(cnd r2.1.1 (bnd (sFpMul_d (x1.2.1,(x1.2.1,()))) (fun r3=>(bnd (sL07Right_d (x1.1,())) (fun r4=>(some (((ieq r3.1.1 r4.1.1),()),())))))) (some ((false,()),()))))) (some ((false,()),()))))):=(FnD.eq V sPointOk_c sPointOk_F (x1,())).trans (by kernel_rfl)
theorem sPointOk_k:CallsOk Tryz.prog gls gvs 217 sPointOk_g:=FnD.ok (F:=sPointOk_F) (cs:=sPointOk_c) V_ok (kC sFpOk_k (kC sFpMul_k (kC sL07Right_k kN))) Tryz.func217 (by decide) (by kernel_rfl)
noncomputable def sL07Zero_F:FnD:={f:=218,fn:=Tryz.f218,ps:=[],rs:=[rt TPoint]}
noncomputable def sL07Zero_c:List (Nat×Sig):=[]
noncomputable def sL07Zero_d:Unit→Option ((tPoint×Unit)×Unit):=sL07Zero_F.d V sL07Zero_c
noncomputable abbrev sL07Zero_g:Sig:=sL07Zero_F.t.sig sL07Zero_d
theorem sL07Zero_b:sL07Zero_d ()=some (((0,(0,(true,()))),()),()):=(FnD.eq V sL07Zero_c sL07Zero_F ()).trans (by kernel_rfl)
theorem sL07Zero_k:CallsOk Tryz.prog gls gvs 218 sL07Zero_g:=FnD.ok (F:=sL07Zero_F) (cs:=sL07Zero_c) V_ok kN Tryz.func218 (by decide) (by kernel_rfl)
noncomputable def sFpSub_F:FnD:={f:=232,fn:=Tryz.f232,ps:=[pa (.int .i64),pa (.int .i64)],rs:=[rt (.int .i64)]}
noncomputable def sFpSub_c:List (Nat×Sig):=[(240,sFpOf_g)]
noncomputable def sFpSub_d:Int×Int×Unit→Option ((Int×Unit)×Unit):=sFpSub_F.d V sFpSub_c
noncomputable abbrev sFpSub_g:Sig:=sFpSub_F.t.sig sFpSub_d
theorem sFpSub_b (x1:Int) (x2:Int):sFpSub_d (x1,(x2,()))=bnd (sFpOf_d (x1,())) (fun r2=>(bnd (sFpOf_d (x2,())) (fun r3=>(bnd (sFpOf_d ((isub .i64 r2.1.1 r3.1.1),())) (fun r4=>(some ((r4.1.1,()),()))))))):=(FnD.eq V sFpSub_c sFpSub_F (x1,(x2,()))).trans (by kernel_rfl)
theorem sFpSub_k:CallsOk Tryz.prog gls gvs 232 sFpSub_g:=FnD.ok (F:=sFpSub_F) (cs:=sFpSub_c) V_ok (kC sFpOf_k kN) Tryz.func232 (by decide) (by kernel_rfl)
noncomputable def sPointNeg_F:FnD:={f:=219,fn:=Tryz.f219,ps:=[pa TPoint],rs:=[rt TPoint]}
noncomputable def sPointNeg_c:List (Nat×Sig):=[(218,sL07Zero_g),(232,sFpSub_g)]
noncomputable def sPointNeg_d:tPoint×Unit→Option ((tPoint×Unit)×Unit):=sPointNeg_F.d V sPointNeg_c
noncomputable abbrev sPointNeg_g:Sig:=sPointNeg_F.t.sig sPointNeg_d
theorem sPointNeg_b (x1:tPoint):sPointNeg_d (x1,())=cnd x1.2.2.1 (bnd (sL07Zero_d ()) (fun r1=>(some ((r1.1.1,()),())))) (bnd (sFpSub_d (0,(x1.2.1,()))) (fun r1=>(some (((x1.1,(r1.1.1,(false,()))),()),())))):=(FnD.eq V sPointNeg_c sPointNeg_F (x1,())).trans (by kernel_rfl)
theorem sPointNeg_k:CallsOk Tryz.prog gls gvs 219 sPointNeg_g:=FnD.ok (F:=sPointNeg_F) (cs:=sPointNeg_c) V_ok (kC sL07Zero_k (kC sFpSub_k kN)) Tryz.func219 (by decide) (by kernel_rfl)
noncomputable def sFpPow_F:FnD:={f:=250,fn:=Tryz.f250,ps:=[pa (.int .i64),pa (.int .i64)],rs:=[rt (.int .i64)],joins:=[8],cuts:=[(8,[.val 1 (.int .i64) .sh, .val 5 (.int .i64) .sh, .val 6 (.int .i64) .sh]),(5,[.val 1 (.int .i64) .sh, .val 5 (.int .i64) .sh, .val 6 (.int .i64) .sh])]}
noncomputable def sFpPow_c:List (Nat×Sig):=[(240,sFpOf_g),(230,sFpMul_g)]
noncomputable def sFpPow_d:Int×Int×Unit→Option ((Int×Unit)×Unit):=sFpPow_F.d V sFpPow_c
noncomputable abbrev sFpPow_g:Sig:=sFpPow_F.t.sig sFpPow_d
noncomputable def sFpPow_D8:Int×Int×Int×Unit→Option ((Int×Unit)×Unit):=sFpPow_F.D V sFpPow_c 8
noncomputable def sFpPow_D5:Int×Int×Int×Unit→Option ((Int×Unit)×Unit):=sFpPow_F.D V sFpPow_c 5
theorem sFpPow_b (x1:Int) (x2:Int):sFpPow_d (x1,(x2,()))=cnd (ilt x2 0) (some ((0,()),())) (bnd (sFpOf_d (x1,())) (fun r2=>(sFpPow_D5 (x2,(1,(r2.1.1,())))))):=(FnD.eq V sFpPow_c sFpPow_F (x1,(x2,()))).trans (by kernel_rfl)
theorem sFpPow_q8 (x1:Int) (x2:Int) (x3:Int):sFpPow_D8 (x1,(x2,(x3,())))=bnd (sFpMul_d (x3,(x3,()))) (fun r3=>(cnd (nz 2) (sFpPow_D5 ((iquo .i64 x1 2),(x2,(r3.1.1,())))) none)):=(FnD.eqC V sFpPow_c sFpPow_F 8 (x1,(x2,(x3,())))).trans (by kernel_rfl)
theorem sFpPow_q5 (x1:Int) (x2:Int) (x3:Int):sFpPow_D5 (x1,(x2,(x3,())))=cnd (igt x1 0) (cnd (nz 2) (cnd (ieq (irem x1 2) 1) (bnd (sFpMul_d (x2,(x3,()))) (fun r3=>(sFpPow_D8 (x1,(r3.1.1,(x3,())))))) (sFpPow_D8 (x1,(x2,(x3,()))))) none) (some ((x2,()),())):=(FnD.eqC V sFpPow_c sFpPow_F 5 (x1,(x2,(x3,())))).trans (by kernel_rfl)
theorem sFpPow_k:CallsOk Tryz.prog gls gvs 250 sFpPow_g:=FnD.ok (F:=sFpPow_F) (cs:=sFpPow_c) V_ok (kC sFpOf_k (kC sFpMul_k kN)) Tryz.func250 (by decide) (by kernel_rfl)
noncomputable def sFpInv_F:FnD:={f:=242,fn:=Tryz.f242,ps:=[pa (.int .i64)],rs:=[rt (.int .i64)]}
noncomputable def sFpInv_c:List (Nat×Sig):=[(250,sFpPow_g)]
noncomputable def sFpInv_d:Int×Unit→Option ((Int×Unit)×Unit):=sFpInv_F.d V sFpInv_c
noncomputable abbrev sFpInv_g:Sig:=sFpInv_F.t.sig sFpInv_d
theorem sFpInv_b (x1:Int):sFpInv_d (x1,())=bnd (sFpPow_d (x1,(12105,()))) (fun r1=>(some ((r1.1.1,()),()))):=(FnD.eq V sFpInv_c sFpInv_F (x1,())).trans (by kernel_rfl)
theorem sFpInv_k:CallsOk Tryz.prog gls gvs 242 sFpInv_g:=FnD.ok (F:=sFpInv_F) (cs:=sFpInv_c) V_ok (kC sFpPow_k kN) Tryz.func242 (by decide) (by kernel_rfl)
noncomputable def sL07Slope_F:FnD:={f:=233,fn:=Tryz.f233,ps:=[pa TPoint,pa TPoint],rs:=[rt (.int .i64),rt .bool]}
noncomputable def sL07Slope_c:List (Nat×Sig):=[(232,sFpSub_g),(242,sFpInv_g),(230,sFpMul_g),(241,sFpAdd_g)]
noncomputable def sL07Slope_d:tPoint×tPoint×Unit→Option ((Int×Bool×Unit)×Unit):=sL07Slope_F.d V sL07Slope_c
noncomputable abbrev sL07Slope_g:Sig:=sL07Slope_F.t.sig sL07Slope_d
theorem sL07Slope_b (x1:tPoint) (x2:tPoint):sL07Slope_d (x1,(x2,()))=cnd (ine x1.1 x2.1) (bnd (sFpSub_d (x2.2.1,(x1.2.1,()))) (fun r2=>(bnd (sFpSub_d (x2.1,(x1.1,()))) (fun r3=>(bnd (sFpInv_d (r3.1.1,())) (fun r4=>(bnd (sFpMul_d (r2.1.1,(r4.1.1,()))) (fun r5=>(some ((r5.1.1,(true,())),())))))))))) (bnd (sFpAdd_d (x1.2.1,(x2.2.1,()))) (fun r2=>(cnd (ieq r2.1.1 0) (some ((0,(false,())),())) (bnd (sFpMul_d (x1.1,(x1.1,()))) (fun r3=>(bnd (sFpMul_d (3,(r3.1.1,()))) (fun r4=>(bnd (sFpAdd_d (r4.1.1,(1,()))) (fun r5=>(bnd (sFpMul_d (2,(x1.2.1,()))) (fun r6=>(bnd (sFpInv_d (r6.1.1,())) (fun r7=>(bnd (sFpMul_d (r5.1.1,(r7.1.1,()))) (fun r8=>(some ((r8.1.1,(true,())),()))))))))))))))))):=(FnD.eq V sL07Slope_c sL07Slope_F (x1,(x2,()))).trans (by kernel_rfl)
theorem sL07Slope_k:CallsOk Tryz.prog gls gvs 233 sL07Slope_g:=FnD.ok (F:=sL07Slope_F) (cs:=sL07Slope_c) V_ok (kC sFpSub_k (kC sFpInv_k (kC sFpMul_k (kC sFpAdd_k kN)))) Tryz.func233 (by decide) (by kernel_rfl)
noncomputable def sL07Add_F:FnD:={f:=220,fn:=Tryz.f220,ps:=[pa TPoint,pa TPoint],rs:=[rt TPoint]}
noncomputable def sL07Add_c:List (Nat×Sig):=[(233,sL07Slope_g),(218,sL07Zero_g),(230,sFpMul_g),(232,sFpSub_g)]
noncomputable def sL07Add_d:tPoint×tPoint×Unit→Option ((tPoint×Unit)×Unit):=sL07Add_F.d V sL07Add_c
noncomputable abbrev sL07Add_g:Sig:=sL07Add_F.t.sig sL07Add_d
theorem sL07Add_b (x1:tPoint) (x2:tPoint):sL07Add_d (x1,(x2,()))=cnd x1.2.2.1 (some ((x2,()),())) (cnd x2.2.2.1 (some ((x1,()),())) (bnd (sL07Slope_d (x1,(x2,()))) (fun r2=>(cnd (bnot r2.1.2.1) (bnd (sL07Zero_d ()) (fun r3=>(some ((r3.1.1,()),())))) (bnd (sFpMul_d (r2.1.1,(r2.1.1,()))) (fun r3=>(bnd (sFpSub_d (r3.1.1,(x1.1,()))) (fun r4=>(bnd (sFpSub_d (r4.1.1,(x2.1,()))) (fun r5=>(bnd (sFpSub_d (x1.1,(r5.1.1,()))) (fun r6=>(bnd (sFpMul_d (r2.1.1,(r6.1.1,()))) (fun r7=>(bnd (sFpSub_d (r7.1.1,(x1.2.1,()))) (fun r8=>(some (((r5.1.1,(r8.1.1,(false,()))),()),())))))))))))))))))):=(FnD.eq V sL07Add_c sL07Add_F (x1,(x2,()))).trans (by kernel_rfl)
theorem sL07Add_k:CallsOk Tryz.prog gls gvs 220 sL07Add_g:=FnD.ok (F:=sL07Add_F) (cs:=sL07Add_c) V_ok (kC sL07Slope_k (kC sL07Zero_k (kC sFpMul_k (kC sFpSub_k kN)))) Tryz.func220 (by decide) (by kernel_rfl)
noncomputable def sPointTimes_F:FnD:={f:=194,fn:=Tryz.f194,ps:=[pa (.int .i64),pa TPoint],rs:=[rt TPoint],joins:=[8,12],cuts:=[(8,[.val 5 (.int .i64) .sh, .box 4 TPoint .sh, .box 6 TPoint .sh, .ptr 4 4 0, .ptr 6 6 0]),(12,[.val 5 (.int .i64) .sh, .box 4 TPoint .sh, .box 6 TPoint .sh, .box 7 TPoint .sh, .ptr 4 4 0, .ptr 6 6 0, .ptr 7 7 0]),(9,[.val 5 (.int .i64) .sh, .box 4 TPoint .sh, .box 6 TPoint .sh, .box 7 TPoint .sh, .ptr 4 4 0, .ptr 6 6 0, .ptr 7 7 0])]}
noncomputable def sPointTimes_c:List (Nat×Sig):=[(217,sPointOk_g),(218,sL07Zero_g),(219,sPointNeg_g),(220,sL07Add_g)]
noncomputable def sPointTimes_d:Int×tPoint×Unit→Option ((tPoint×Unit)×Unit):=sPointTimes_F.d V sPointTimes_c
noncomputable abbrev sPointTimes_g:Sig:=sPointTimes_F.t.sig sPointTimes_d
noncomputable def sPointTimes_D8:Int×tPoint×tPoint×Unit→Option ((tPoint×Unit)×Unit):=sPointTimes_F.D V sPointTimes_c 8
noncomputable def sPointTimes_D12:Int×tPoint×tPoint×tPoint×Unit→Option ((tPoint×Unit)×Unit):=sPointTimes_F.D V sPointTimes_c 12
noncomputable def sPointTimes_D9:Int×tPoint×tPoint×tPoint×Unit→Option ((tPoint×Unit)×Unit):=sPointTimes_F.D V sPointTimes_c 9
theorem sPointTimes_b (x1:Int) (x2:tPoint):sPointTimes_d (x1,(x2,()))=bnd (sPointOk_d (x2,())) (fun r2=>(cnd (bnot r2.1.1) (bnd (sL07Zero_d ()) (fun r3=>(some ((r3.1.1,()),())))) (cnd (nz 12108) (cnd (ilt (irem x1 12108) 0) (bnd (sPointNeg_d (x2,())) (fun r3=>(sPointTimes_D8 ((ineg .i64 (irem x1 12108)),(zPoint,(r3.1.1,())))))) (sPointTimes_D8 ((irem x1 12108),(zPoint,(x2,()))))) none))):=(FnD.eq V sPointTimes_c sPointTimes_F (x1,(x2,()))).trans (by kernel_rfl)
theorem sPointTimes_q8 (x1:Int) (x2:tPoint) (x3:tPoint):sPointTimes_D8 (x1,(x2,(x3,())))=bnd (sL07Zero_d ()) (fun r3=>(sPointTimes_D9 (x1,(x2,(x3,(r3.1.1,())))))):=(FnD.eqC V sPointTimes_c sPointTimes_F 8 (x1,(x2,(x3,())))).trans (by kernel_rfl)
theorem sPointTimes_q12 (x1:Int) (x2:tPoint) (x3:tPoint) (x4:tPoint):sPointTimes_D12 (x1,(x2,(x3,(x4,()))))=bnd (sL07Add_d (x3,(x3,()))) (fun r4=>(cnd (nz 2) (sPointTimes_D9 ((iquo .i64 x1 2),(x2,(r4.1.1,(x4,()))))) none)):=(FnD.eqC V sPointTimes_c sPointTimes_F 12 (x1,(x2,(x3,(x4,()))))).trans (by kernel_rfl)
theorem sPointTimes_q9 (x1:Int) (x2:tPoint) (x3:tPoint) (x4:tPoint):sPointTimes_D9 (x1,(x2,(x3,(x4,()))))=cnd (igt x1 0) (cnd (nz 2) (cnd (ieq (irem x1 2) 1) (bnd (sL07Add_d (x4,(x3,()))) (fun r4=>(sPointTimes_D12 (x1,(x2,(x3,(r4.1.1,()))))))) (sPointTimes_D12 (x1,(x2,(x3,(x4,())))))) none) (some ((x4,()),())):=(FnD.eqC V sPointTimes_c sPointTimes_F 9 (x1,(x2,(x3,(x4,()))))).trans (by kernel_rfl)
theorem sPointTimes_k:CallsOk Tryz.prog gls gvs 194 sPointTimes_g:=FnD.ok (F:=sPointTimes_F) (cs:=sPointTimes_c) V_ok (kC sPointOk_k (kC sL07Zero_k (kC sPointNeg_k (kC sL07Add_k kN)))) Tryz.func194 (by decide) (by kernel_rfl)
noncomputable def sKeyOf_F:FnD:={f:=161,fn:=Tryz.f161,ps:=[pa (.int .i64)],rs:=[rt TPoint]}
noncomputable def sKeyOf_c:List (Nat×Sig):=[(195,sScOf_g),(196,sBase_g),(194,sPointTimes_g)]
noncomputable def sKeyOf_d:Int×Unit→Option ((tPoint×Unit)×Unit):=sKeyOf_F.d V sKeyOf_c
noncomputable abbrev sKeyOf_g:Sig:=sKeyOf_F.t.sig sKeyOf_d
theorem sKeyOf_b (x1:Int):sKeyOf_d (x1,())=bnd (sScOf_d (x1,())) (fun r1=>(bnd (sBase_d ()) (fun r2=>(bnd (sPointTimes_d (r1.1.1,(r2.1.1,()))) (fun r3=>(some ((r3.1.1,()),()))))))):=(FnD.eq V sKeyOf_c sKeyOf_F (x1,())).trans (by kernel_rfl)
theorem sKeyOf_k:CallsOk Tryz.prog gls gvs 161 sKeyOf_g:=FnD.ok (F:=sKeyOf_F) (cs:=sKeyOf_c) V_ok (kC sScOf_k (kC sBase_k (kC sPointTimes_k kN))) Tryz.func161 (by decide) (by kernel_rfl)
noncomputable def sCommitteeOf_F:FnD:={f:=117,fn:=Tryz.f117,ps:=[pa (.int .i64)],rs:=[⟨TCommittee,(.pr (.own 0 .sh) .sh),false⟩],cuts:=[(4,[.val 3 (.sl (.int .i64)) (.own 0 .sh), .val 5 (.int .i64) .sh, .box 2 TCommittee (.pr (.own 0 .sh) .sh), .box 4 TCommittee (.pr (.own 0 .sh) .sh), .ptr 2 2 0, .ptr 4 4 0])]}
noncomputable def sCommitteeOf_c:List (Nat×Sig):=[(160,sSecretsOf_g),(161,sKeyOf_g)]
noncomputable def sCommitteeOf_d:Int×Unit→Option ((tCommittee×Unit)×Unit):=sCommitteeOf_F.d V sCommitteeOf_c
noncomputable abbrev sCommitteeOf_g:Sig:=sCommitteeOf_F.t.sig sCommitteeOf_d
noncomputable def sCommitteeOf_D4:(List Int)×Int×tCommittee×tCommittee×Unit→Option ((tCommittee×Unit)×Unit):=sCommitteeOf_F.D V sCommitteeOf_c 4
theorem sCommitteeOf_b (x1:Int):sCommitteeOf_d (x1,())=bnd (sSecretsOf_d (x1,())) (fun r1=>(sCommitteeOf_D4 (r1.1.1,(0,(zCommittee,(zCommittee,())))))):=(FnD.eq V sCommitteeOf_c sCommitteeOf_F (x1,())).trans (by kernel_rfl)
theorem sCommitteeOf_q4 (x1:(List Int)) (x2:Int) (x3:tCommittee) (x4:tCommittee):sCommitteeOf_D4 (x1,(x2,(x3,(x4,()))))=cnd (ilt x2 (len x1)) (cnd (inb x2 (len x1)) (bnd (sKeyOf_d ((rd 0 x1 x2),())) (fun r4=>(cnd (fits ((len x4.1)+(len (r4.1.1::([]:List tPoint)))) 3) (sCommitteeOf_D4 (x1,((iadd .i64 x2 1),(x3,(((app x4.1 (r4.1.1::([]:List tPoint))),x4.2),()))))) none))) none) (some ((x4,()),())):=(FnD.eqC V sCommitteeOf_c sCommitteeOf_F 4 (x1,(x2,(x3,(x4,()))))).trans (by kernel_rfl)
theorem sCommitteeOf_k:CallsOk Tryz.prog gls gvs 117 sCommitteeOf_g:=FnD.ok (F:=sCommitteeOf_F) (cs:=sCommitteeOf_c) V_ok (kC sSecretsOf_k (kC sKeyOf_k kN)) Tryz.func117 (by decide) (by kernel_rfl)
noncomputable def sChainCommittee_F:FnD:={f:=70,fn:=Tryz.f70,ps:=[pa TChain,pa (.int .i64)],rs:=[⟨TCommittee,(.pr (.own 0 .sh) .sh),false⟩]}
noncomputable def sChainCommittee_c:List (Nat×Sig):=[(117,sCommitteeOf_g)]
noncomputable def sChainCommittee_d:tChain×Int×Unit→Option ((tCommittee×Unit)×Unit):=sChainCommittee_F.d V sChainCommittee_c
noncomputable abbrev sChainCommittee_g:Sig:=sChainCommittee_F.t.sig sChainCommittee_d
theorem sChainCommittee_b (x1:tChain) (x2:Int):sChainCommittee_d (x1,(x2,()))=cnd (nz 1000) (cnd (nz 1000) (bnd (sCommitteeOf_d ((iadd .i64 (irem x1.1 1000) (imul .i64 (irem x2 1000) 13)),())) (fun r2=>(some ((r2.1.1,()),())))) none) none:=(FnD.eq V sChainCommittee_c sChainCommittee_F (x1,(x2,()))).trans (by kernel_rfl)
theorem sChainCommittee_k:CallsOk Tryz.prog gls gvs 70 sChainCommittee_g:=FnD.ok (F:=sChainCommittee_F) (cs:=sChainCommittee_c) V_ok (kC sCommitteeOf_k kN) Tryz.func70 (by decide) (by kernel_rfl)
noncomputable def sKeccakPad_F:FnD:={f:=106,fn:=Tryz.f106,ps:=[pa .str],rs:=[rt .str],cuts:=[(3,[.val 3 (.sl (.int .u8)) (.own 0 .sh)])]}
noncomputable def sKeccakPad_c:List (Nat×Sig):=[]
noncomputable def sKeccakPad_d:ByteArray×Unit→Option ((ByteArray×Unit)×Unit):=sKeccakPad_F.d V sKeccakPad_c
noncomputable abbrev sKeccakPad_g:Sig:=sKeccakPad_F.t.sig sKeccakPad_d
noncomputable def sKeccakPad_D3:(List Int)×Unit→Option ((ByteArray×Unit)×Unit):=sKeccakPad_F.D V sKeccakPad_c 3
theorem sKeccakPad_b (x1:ByteArray):sKeccakPad_d (x1,())=cnd (fits ((len (sbytes x1))+(len (1::([]:List Int)))) 1) (sKeccakPad_D3 ((app (sbytes x1) (1::([]:List Int))),())) none:=(FnD.eq V sKeccakPad_c sKeccakPad_F (x1,())).trans (by kernel_rfl)
theorem sKeccakPad_q3 (x1:(List Int)):sKeccakPad_D3 (x1,())=cnd (nz 136) (cnd (ine (irem (len x1) 136) 0) (cnd (fits ((len x1)+(len (0::([]:List Int)))) 1) (sKeccakPad_D3 ((app x1 (0::([]:List Int))),())) none) (cnd (inb (isub .i64 (len x1) 1) (len x1)) (cnd (inb (isub .i64 (len x1) 1) (len x1)) (some (((sof (upd x1 (isub .i64 (len x1) 1) (ior .u8 (rd 0 x1 (isub .i64 (len x1) 1)) 128))),()),())) none) none)) none:=(FnD.eqC V sKeccakPad_c sKeccakPad_F 3 (x1,())).trans (by kernel_rfl)
theorem sKeccakPad_k:CallsOk Tryz.prog gls gvs 106 sKeccakPad_g:=FnD.ok (F:=sKeccakPad_F) (cs:=sKeccakPad_c) V_ok kN Tryz.func106 (by decide) (by kernel_rfl)
noncomputable def sL03Word_F:FnD:={f:=107,fn:=Tryz.f107,ps:=[pa .str,pa (.int .i64)],rs:=[rt (.int .u64)],cuts:=[(3,[.val 0 .str .sh, .val 1 (.int .i64) .sh, .val 5 (.int .u64) .sh, .val 6 (.int .i64) .sh])]}
noncomputable def sL03Word_c:List (Nat×Sig):=[]
noncomputable def sL03Word_d:ByteArray×Int×Unit→Option ((Int×Unit)×Unit):=sL03Word_F.d V sL03Word_c
noncomputable abbrev sL03Word_g:Sig:=sL03Word_F.t.sig sL03Word_d
noncomputable def sL03Word_D3:ByteArray×Int×Int×Int×Unit→Option ((Int×Unit)×Unit):=sL03Word_F.D V sL03Word_c 3
theorem sL03Word_b (x1:ByteArray) (x2:Int):sL03Word_d (x1,(x2,()))=sL03Word_D3 (x1,(x2,(0,(7,())))):=(FnD.eq V sL03Word_c sL03Word_F (x1,(x2,()))).trans (by kernel_rfl)
theorem sL03Word_q3 (x1:ByteArray) (x2:Int) (x3:Int) (x4:Int):sL03Word_D3 (x1,(x2,(x3,(x4,()))))=cnd (ige x4 0) (cnd (nn 8) (cnd (inb (iadd .i64 x2 x4) (ssz x1)) (sL03Word_D3 (x1,(x2,((ior .u64 (ishl .u64 x3 8) (iconv .u64 (sat x1 (iadd .i64 x2 x4)))),((isub .i64 x4 1),()))))) none) none) (some ((x3,()),())):=(FnD.eqC V sL03Word_c sL03Word_F 3 (x1,(x2,(x3,(x4,()))))).trans (by kernel_rfl)
theorem sL03Word_k:CallsOk Tryz.prog gls gvs 107 sL03Word_g:=FnD.ok (F:=sL03Word_F) (cs:=sL03Word_c) V_ok kN Tryz.func107 (by decide) (by kernel_rfl)
noncomputable def sL03Offsets_F:FnD:={f:=151,fn:=Tryz.f151,ps:=[],rs:=[rt (.arr 25 (.int .u64))]}
noncomputable def sL03Offsets_c:List (Nat×Sig):=[]
noncomputable def sL03Offsets_d:Unit→Option (((List Int)×Unit)×Unit):=sL03Offsets_F.d V sL03Offsets_c
noncomputable abbrev sL03Offsets_g:Sig:=sL03Offsets_F.t.sig sL03Offsets_d
theorem sL03Offsets_b:sL03Offsets_d ()=some (((0::(1::(62::(28::(27::(36::(44::(6::(55::(20::(3::(10::(43::(25::(39::(41::(45::(15::(21::(8::(18::(2::(61::(56::(14::([]:List Int)))))))))))))))))))))))))),()),()):=(FnD.eq V sL03Offsets_c sL03Offsets_F ()).trans (by kernel_rfl)
theorem sL03Offsets_k:CallsOk Tryz.prog gls gvs 151 sL03Offsets_g:=FnD.ok (F:=sL03Offsets_F) (cs:=sL03Offsets_c) V_ok kN Tryz.func151 (by decide) (by kernel_rfl)
noncomputable def sL03Rounds_F:FnD:={f:=152,fn:=Tryz.f152,ps:=[],rs:=[rt (.arr 24 (.int .u64))]}
noncomputable def sL03Rounds_c:List (Nat×Sig):=[]
noncomputable def sL03Rounds_d:Unit→Option (((List Int)×Unit)×Unit):=sL03Rounds_F.d V sL03Rounds_c
noncomputable abbrev sL03Rounds_g:Sig:=sL03Rounds_F.t.sig sL03Rounds_d
theorem sL03Rounds_b:sL03Rounds_d ()=some (((1::(32898::(9223372036854808714::(9223372039002292224::(32907::(2147483649::(9223372039002292353::(9223372036854808585::(138::(136::(2147516425::(2147483658::(2147516555::(9223372036854775947::(9223372036854808713::(9223372036854808579::(9223372036854808578::(9223372036854775936::(32778::(9223372039002259466::(9223372039002292353::(9223372036854808704::(2147483649::(9223372039002292232::([]:List Int))))))))))))))))))))))))),()),()):=(FnD.eq V sL03Rounds_c sL03Rounds_F ()).trans (by kernel_rfl)
theorem sL03Rounds_k:CallsOk Tryz.prog gls gvs 152 sL03Rounds_g:=FnD.ok (F:=sL03Rounds_F) (cs:=sL03Rounds_c) V_ok kN Tryz.func152 (by decide) (by kernel_rfl)
noncomputable def sL03Turn_F:FnD:={f:=186,fn:=Tryz.f186,ps:=[pa (.int .u64),pa (.int .u64)],rs:=[rt (.int .u64)]}
noncomputable def sL03Turn_c:List (Nat×Sig):=[]
noncomputable def sL03Turn_d:Int×Int×Unit→Option ((Int×Unit)×Unit):=sL03Turn_F.d V sL03Turn_c
noncomputable abbrev sL03Turn_g:Sig:=sL03Turn_F.t.sig sL03Turn_d
theorem sL03Turn_b (x1:Int) (x2:Int):sL03Turn_d (x1,(x2,()))=cnd (nn x2) (cnd (nn (isub .u64 64 x2)) (some (((ior .u64 (ishl .u64 x1 x2) (ishr .u64 x1 (isub .u64 64 x2))),()),())) none) none:=(FnD.eq V sL03Turn_c sL03Turn_F (x1,(x2,()))).trans (by kernel_rfl)
theorem sL03Turn_k:CallsOk Tryz.prog gls gvs 186 sL03Turn_g:=FnD.ok (F:=sL03Turn_F) (cs:=sL03Turn_c) V_ok kN Tryz.func186 (by decide) (by kernel_rfl)
noncomputable def sL03Round_F:FnD:={f:=153,fn:=Tryz.f153,ps:=[pa (.arr 25 (.int .u64)),pa (.arr 25 (.int .u64)),pa (.int .u64)],rs:=[rt (.arr 25 (.int .u64))],joins:=[18],cuts:=[(3,[.val 2 (.int .u64) .sh, .val 8 (.int .i64) .sh, .box 3 (.arr 25 (.int .u64)) .sh, .box 4 (.arr 25 (.int .u64)) .sh, .box 6 (.arr 25 (.int .u64)) .sh, .box 7 (.arr 5 (.int .u64)) .sh, .ptr 3 3 0, .ptr 4 4 0, .ptr 6 6 0, .ptr 7 7 0]),(18,[.val 2 (.int .u64) .sh, .val 10 (.int .i64) .sh, .val 11 (.int .u64) .sh, .val 12 (.int .i64) .sh, .val 13 (.int .u64) .sh, .box 3 (.arr 25 (.int .u64)) .sh, .box 4 (.arr 25 (.int .u64)) .sh, .box 6 (.arr 25 (.int .u64)) .sh, .box 7 (.arr 5 (.int .u64)) .sh, .box 9 (.arr 25 (.int .u64)) .sh, .ptr 3 3 0, .ptr 4 4 0, .ptr 6 6 0, .ptr 7 7 0, .ptr 9 9 0]),(12,[.val 2 (.int .u64) .sh, .val 10 (.int .i64) .sh, .val 11 (.int .u64) .sh, .val 12 (.int .i64) .sh, .box 3 (.arr 25 (.int .u64)) .sh, .box 4 (.arr 25 (.int .u64)) .sh, .box 6 (.arr 25 (.int .u64)) .sh, .box 7 (.arr 5 (.int .u64)) .sh, .box 9 (.arr 25 (.int .u64)) .sh, .ptr 3 3 0, .ptr 4 4 0, .ptr 6 6 0, .ptr 7 7 0, .ptr 9 9 0]),(8,[.val 2 (.int .u64) .sh, .val 10 (.int .i64) .sh, .box 3 (.arr 25 (.int .u64)) .sh, .box 4 (.arr 25 (.int .u64)) .sh, .box 6 (.arr 25 (.int .u64)) .sh, .box 7 (.arr 5 (.int .u64)) .sh, .box 9 (.arr 25 (.int .u64)) .sh, .ptr 3 3 0, .ptr 4 4 0, .ptr 6 6 0, .ptr 7 7 0, .ptr 9 9 0]),(23,[.val 2 (.int .u64) .sh, .val 15 (.int .i64) .sh, .val 16 (.int .i64) .sh, .box 3 (.arr 25 (.int .u64)) .sh, .box 6 (.arr 25 (.int .u64)) .sh, .box 9 (.arr 25 (.int .u64)) .sh, .ptr 3 3 0, .ptr 6 6 0, .ptr 9 9 0]),(20,[.val 2 (.int .u64) .sh, .val 15 (.int .i64) .sh, .box 3 (.arr 25 (.int .u64)) .sh, .box 6 (.arr 25 (.int .u64)) .sh, .box 9 (.arr 25 (.int .u64)) .sh, .ptr 3 3 0, .ptr 6 6 0, .ptr 9 9 0])]}
noncomputable def sL03Round_c:List (Nat×Sig):=[(186,sL03Turn_g)]
noncomputable def sL03Round_d:(List Int)× (List Int)×Int×Unit→Option (((List Int)×Unit)×Unit):=sL03Round_F.d V sL03Round_c
noncomputable abbrev sL03Round_g:Sig:=sL03Round_F.t.sig sL03Round_d
noncomputable def sL03Round_D3:Int×Int× (List Int)× (List Int)× (List Int)× (List Int)×Unit→Option (((List Int)×Unit)×Unit):=sL03Round_F.D V sL03Round_c 3
noncomputable def sL03Round_D18:Int×Int×Int×Int×Int× (List Int)× (List Int)× (List Int)× (List Int)× (List Int)×Unit→Option (((List Int)×Unit)×Unit):=sL03Round_F.D V sL03Round_c 18
noncomputable def sL03Round_D12:Int×Int×Int×Int× (List Int)× (List Int)× (List Int)× (List Int)× (List Int)×Unit→Option (((List Int)×Unit)×Unit):=sL03Round_F.D V sL03Round_c 12
noncomputable def sL03Round_D8:Int×Int× (List Int)× (List Int)× (List Int)× (List Int)× (List Int)×Unit→Option (((List Int)×Unit)×Unit):=sL03Round_F.D V sL03Round_c 8
noncomputable def sL03Round_D23:Int×Int×Int× (List Int)× (List Int)× (List Int)×Unit→Option (((List Int)×Unit)×Unit):=sL03Round_F.D V sL03Round_c 23
noncomputable def sL03Round_D20:Int×Int× (List Int)× (List Int)× (List Int)×Unit→Option (((List Int)×Unit)×Unit):=sL03Round_F.D V sL03Round_c 20
theorem sL03Round_b (x1:(List Int)) (x2:(List Int)) (x3:Int):sL03Round_d (x1,(x2,(x3,())))=sL03Round_D3 (x3,(0,(x1,(x2,((0::(0::(0::(0::(0::(0::(0::(0::(0::(0::(0::(0::(0::(0::(0::(0::(0::(0::(0::(0::(0::(0::(0::(0::(0::([]:List Int)))))))))))))))))))))))))),((0::(0::(0::(0::(0::([]:List Int)))))),())))))):=(FnD.eq V sL03Round_c sL03Round_F (x1,(x2,(x3,())))).trans (by kernel_rfl)
theorem sL03Round_q3 (x1:Int) (x2:Int) (x3:(List Int)) (x4:(List Int)) (x5:(List Int)) (x6:(List Int)):sL03Round_D3 (x1,(x2,(x3,(x4,(x5,(x6,()))))))=cnd (ilt x2 5) (cnd (inb x2 25) (cnd (inb (iadd .i64 x2 5) 25) (cnd (inb (iadd .i64 x2 10) 25) (cnd (inb (iadd .i64 x2 15) 25) (cnd (inb (iadd .i64 x2 20) 25) (cnd (inb x2 5) (sL03Round_D3 (x1,((iadd .i64 x2 1),(x3,(x4,(x5,((upd x6 x2 (ixor .u64 (ixor .u64 (ixor .u64 (ixor .u64 (rd 0 x3 x2) (rd 0 x3 (iadd .i64 x2 5))) (rd 0 x3 (iadd .i64 x2 10))) (rd 0 x3 (iadd .i64 x2 15))) (rd 0 x3 (iadd .i64 x2 20)))),()))))))) none) none) none) none) none) none) (sL03Round_D8 (x1,(0,(x3,(x4,(x5,(x6,((0::(0::(0::(0::(0::(0::(0::(0::(0::(0::(0::(0::(0::(0::(0::(0::(0::(0::(0::(0::(0::(0::(0::(0::(0::([]:List Int)))))))))))))))))))))))))),())))))))):=(FnD.eqC V sL03Round_c sL03Round_F 3 (x1,(x2,(x3,(x4,(x5,(x6,()))))))).trans (by kernel_rfl)
theorem sL03Round_q18 (x1:Int) (x2:Int) (x3:Int) (x4:Int) (x5:Int) (x6:(List Int)) (x7:(List Int)) (x8:(List Int)) (x9:(List Int)) (x10:(List Int)):sL03Round_D18 (x1,(x2,(x3,(x4,(x5,(x6,(x7,(x8,(x9,(x10,()))))))))))=cnd (nz 5) (cnd (inb (iadd .i64 x4 (imul .i64 5 (irem (iadd .i64 (imul .i64 2 x2) (imul .i64 3 x4)) 5))) 25) (sL03Round_D12 (x1,(x2,(x3,((iadd .i64 x4 1),(x6,(x7,(x8,(x9,((upd x10 (iadd .i64 x4 (imul .i64 5 (irem (iadd .i64 (imul .i64 2 x2) (imul .i64 3 x4)) 5))) x5),())))))))))) none) none:=(FnD.eqC V sL03Round_c sL03Round_F 18 (x1,(x2,(x3,(x4,(x5,(x6,(x7,(x8,(x9,(x10,()))))))))))).trans (by kernel_rfl)
theorem sL03Round_q12 (x1:Int) (x2:Int) (x3:Int) (x4:Int) (x5:(List Int)) (x6:(List Int)) (x7:(List Int)) (x8:(List Int)) (x9:(List Int)):sL03Round_D12 (x1,(x2,(x3,(x4,(x5,(x6,(x7,(x8,(x9,())))))))))=cnd (ilt x4 5) (cnd (inb (iadd .i64 x2 (imul .i64 5 x4)) 25) (cnd (inb (iadd .i64 x2 (imul .i64 5 x4)) 25) (cnd (igt (rd 0 x6 (iadd .i64 x2 (imul .i64 5 x4))) 0) (bnd (sL03Turn_d ((ixor .u64 (rd 0 x5 (iadd .i64 x2 (imul .i64 5 x4))) x3),((rd 0 x6 (iadd .i64 x2 (imul .i64 5 x4))),()))) (fun r9=>(sL03Round_D18 (x1,(x2,(x3,(x4,(r9.1.1,(x5,(x6,(x7,(x8,(x9,()))))))))))))) (sL03Round_D18 (x1,(x2,(x3,(x4,((ixor .u64 (rd 0 x5 (iadd .i64 x2 (imul .i64 5 x4))) x3),(x5,(x6,(x7,(x8,(x9,())))))))))))) none) none) (sL03Round_D8 (x1,((iadd .i64 x2 1),(x5,(x6,(x7,(x8,(x9,())))))))):=(FnD.eqC V sL03Round_c sL03Round_F 12 (x1,(x2,(x3,(x4,(x5,(x6,(x7,(x8,(x9,())))))))))).trans (by kernel_rfl)
theorem sL03Round_q8 (x1:Int) (x2:Int) (x3:(List Int)) (x4:(List Int)) (x5:(List Int)) (x6:(List Int)) (x7:(List Int)):sL03Round_D8 (x1,(x2,(x3,(x4,(x5,(x6,(x7,())))))))=cnd (ilt x2 5) (cnd (nz 5) (cnd (inb (irem (iadd .i64 x2 4) 5) 5) (cnd (nz 5) (cnd (inb (irem (iadd .i64 x2 1) 5) 5) (bnd (sL03Turn_d ((rd 0 x6 (irem (iadd .i64 x2 1) 5)),(1,()))) (fun r7=>(sL03Round_D12 (x1,(x2,((ixor .u64 (rd 0 x6 (irem (iadd .i64 x2 4) 5)) r7.1.1),(0,(x3,(x4,(x5,(x6,(x7,())))))))))))) none) none) none) none) (sL03Round_D20 (x1,(0,(x3,(x5,(x7,())))))):=(FnD.eqC V sL03Round_c sL03Round_F 8 (x1,(x2,(x3,(x4,(x5,(x6,(x7,())))))))).trans (by kernel_rfl)
theorem sL03Round_q23 (x1:Int) (x2:Int) (x3:Int) (x4:(List Int)) (x5:(List Int)) (x6:(List Int)):sL03Round_D23 (x1,(x2,(x3,(x4,(x5,(x6,()))))))=cnd (ilt x3 5) (cnd (inb (iadd .i64 x3 (imul .i64 5 x2)) 25) (cnd (nz 5) (cnd (inb (iadd .i64 (irem (iadd .i64 x3 1) 5) (imul .i64 5 x2)) 25) (cnd (nz 5) (cnd (inb (iadd .i64 (irem (iadd .i64 x3 2) 5) (imul .i64 5 x2)) 25) (cnd (inb (iadd .i64 x3 (imul .i64 5 x2)) 25) (sL03Round_D23 (x1,(x2,((iadd .i64 x3 1),((upd x4 (iadd .i64 x3 (imul .i64 5 x2)) (ixor .u64 (rd 0 x6 (iadd .i64 x3 (imul .i64 5 x2))) (iand .u64 (ixor .u64 (rd 0 x6 (iadd .i64 (irem (iadd .i64 x3 1) 5) (imul .i64 5 x2))) 18446744073709551615) (rd 0 x6 (iadd .i64 (irem (iadd .i64 x3 2) 5) (imul .i64 5 x2)))))),(x5,(x6,()))))))) none) none) none) none) none) none) (sL03Round_D20 (x1,((iadd .i64 x2 1),(x4,(x5,(x6,())))))):=(FnD.eqC V sL03Round_c sL03Round_F 23 (x1,(x2,(x3,(x4,(x5,(x6,()))))))).trans (by kernel_rfl)
theorem sL03Round_q20 (x1:Int) (x2:Int) (x3:(List Int)) (x4:(List Int)) (x5:(List Int)):sL03Round_D20 (x1,(x2,(x3,(x4,(x5,())))))=cnd (ilt x2 5) (sL03Round_D23 (x1,(x2,(0,(x3,(x4,(x5,()))))))) (cnd (inb 0 25) (cnd (inb 0 25) (some (((upd x3 0 (ixor .u64 (rd 0 x3 0) x1)),()),())) none) none):=(FnD.eqC V sL03Round_c sL03Round_F 20 (x1,(x2,(x3,(x4,(x5,())))))).trans (by kernel_rfl)
theorem sL03Round_k:CallsOk Tryz.prog gls gvs 153 sL03Round_g:=FnD.ok (F:=sL03Round_F) (cs:=sL03Round_c) V_ok (kC sL03Turn_k kN) Tryz.func153 (by decide) (by kernel_rfl)
noncomputable def sL03All_F:FnD:={f:=108,fn:=Tryz.f108,ps:=[pa (.arr 25 (.int .u64))],rs:=[rt (.arr 25 (.int .u64))],cuts:=[(4,[.val 5 (.int .i64) .sh, .box 1 (.arr 25 (.int .u64)) .sh, .box 2 (.arr 25 (.int .u64)) .sh, .box 3 (.arr 25 (.int .u64)) .sh, .box 4 (.arr 24 (.int .u64)) .sh, .ptr 1 1 0, .ptr 2 2 0, .ptr 3 3 0, .ptr 4 4 0])]}
noncomputable def sL03All_c:List (Nat×Sig):=[(151,sL03Offsets_g),(152,sL03Rounds_g),(153,sL03Round_g)]
noncomputable def sL03All_d:(List Int)×Unit→Option (((List Int)×Unit)×Unit):=sL03All_F.d V sL03All_c
noncomputable abbrev sL03All_g:Sig:=sL03All_F.t.sig sL03All_d
noncomputable def sL03All_D4:Int× (List Int)× (List Int)× (List Int)× (List Int)×Unit→Option (((List Int)×Unit)×Unit):=sL03All_F.D V sL03All_c 4
theorem sL03All_b (x1:(List Int)):sL03All_d (x1,())=bnd (sL03Offsets_d ()) (fun r1=>(bnd (sL03Rounds_d ()) (fun r2=>(sL03All_D4 (0,(x1,((0::(0::(0::(0::(0::(0::(0::(0::(0::(0::(0::(0::(0::(0::(0::(0::(0::(0::(0::(0::(0::(0::(0::(0::(0::([]:List Int)))))))))))))))))))))))))),(r1.1.1,(r2.1.1,()))))))))):=(FnD.eq V sL03All_c sL03All_F (x1,())).trans (by kernel_rfl)
theorem sL03All_q4 (x1:Int) (x2:(List Int)) (x3:(List Int)) (x4:(List Int)) (x5:(List Int)):sL03All_D4 (x1,(x2,(x3,(x4,(x5,())))))=cnd (ilt x1 24) (cnd (inb x1 24) (bnd (sL03Round_d (x2,(x4,((rd 0 x5 x1),())))) (fun r5=>(sL03All_D4 ((iadd .i64 x1 1),(r5.1.1,(x3,(x4,(x5,())))))))) none) (some ((x2,()),())):=(FnD.eqC V sL03All_c sL03All_F 4 (x1,(x2,(x3,(x4,(x5,())))))).trans (by kernel_rfl)
theorem sL03All_k:CallsOk Tryz.prog gls gvs 108 sL03All_g:=FnD.ok (F:=sL03All_F) (cs:=sL03All_c) V_ok (kC sL03Offsets_k (kC sL03Rounds_k (kC sL03Round_k kN))) Tryz.func108 (by decide) (by kernel_rfl)
noncomputable def sL03Text_F:FnD:={f:=109,fn:=Tryz.f109,ps:=[pa (.arr 25 (.int .u64))],rs:=[rt .str],cuts:=[(3,[.val 3 (.sl (.int .u8)) (.own 0 .sh), .val 4 (.int .i64) .sh, .box 1 (.arr 25 (.int .u64)) .sh, .ptr 1 1 0])]}
noncomputable def sL03Text_c:List (Nat×Sig):=[]
noncomputable def sL03Text_d:(List Int)×Unit→Option ((ByteArray×Unit)×Unit):=sL03Text_F.d V sL03Text_c
noncomputable abbrev sL03Text_g:Sig:=sL03Text_F.t.sig sL03Text_d
noncomputable def sL03Text_D3:(List Int)×Int× (List Int)×Unit→Option ((ByteArray×Unit)×Unit):=sL03Text_F.D V sL03Text_c 3
theorem sL03Text_b (x1:(List Int)):sL03Text_d (x1,())=cnd (both (inb2 0 200 200) (fits 200 1)) (sL03Text_D3 ((rep 200 0),(0,(x1,())))) none:=(FnD.eq V sL03Text_c sL03Text_F (x1,())).trans (by kernel_rfl)
theorem sL03Text_q3 (x1:(List Int)) (x2:Int) (x3:(List Int)):sL03Text_D3 (x1,(x2,(x3,())))=cnd (ilt x2 200) (cnd (nz 8) (cnd (inb (iquo .i64 x2 8) 25) (cnd (nz 8) (cnd (nn (imul .u64 8 (iconv .u64 (irem x2 8)))) (cnd (inb x2 (len x1)) (sL03Text_D3 ((upd x1 x2 (iconv .u8 (ishr .u64 (rd 0 x3 (iquo .i64 x2 8)) (imul .u64 8 (iconv .u64 (irem x2 8)))))),((iadd .i64 x2 1),(x3,())))) none) none) none) none) none) (some (((sof x1),()),())):=(FnD.eqC V sL03Text_c sL03Text_F 3 (x1,(x2,(x3,())))).trans (by kernel_rfl)
theorem sL03Text_k:CallsOk Tryz.prog gls gvs 109 sL03Text_g:=FnD.ok (F:=sL03Text_F) (cs:=sL03Text_c) V_ok kN Tryz.func109 (by decide) (by kernel_rfl)
noncomputable def sDigest_F:FnD:={f:=57,fn:=Tryz.f57,ps:=[pa .str],rs:=[rt .str],cuts:=[(7,[.val 3 .str .sh, .val 5 (.int .i64) .sh, .val 6 (.int .i64) .sh, .box 4 (.arr 25 (.int .u64)) .sh, .ptr 4 4 0]),(4,[.val 3 .str .sh, .val 5 (.int .i64) .sh, .box 4 (.arr 25 (.int .u64)) .sh, .ptr 4 4 0])]}
noncomputable def sDigest_c:List (Nat×Sig):=[(106,sKeccakPad_g),(107,sL03Word_g),(108,sL03All_g),(109,sL03Text_g)]
noncomputable def sDigest_d:ByteArray×Unit→Option ((ByteArray×Unit)×Unit):=sDigest_F.d V sDigest_c
noncomputable abbrev sDigest_g:Sig:=sDigest_F.t.sig sDigest_d
noncomputable def sDigest_D7:ByteArray×Int×Int× (List Int)×Unit→Option ((ByteArray×Unit)×Unit):=sDigest_F.D V sDigest_c 7
noncomputable def sDigest_D4:ByteArray×Int× (List Int)×Unit→Option ((ByteArray×Unit)×Unit):=sDigest_F.D V sDigest_c 4
theorem sDigest_b (x1:ByteArray):sDigest_d (x1,())=bnd (sKeccakPad_d (x1,())) (fun r1=>(sDigest_D4 (r1.1.1,(0,((0::(0::(0::(0::(0::(0::(0::(0::(0::(0::(0::(0::(0::(0::(0::(0::(0::(0::(0::(0::(0::(0::(0::(0::(0::([]:List Int)))))))))))))))))))))))))),()))))):=(FnD.eq V sDigest_c sDigest_F (x1,())).trans (by kernel_rfl)
theorem sDigest_q7 (x1:ByteArray) (x2:Int) (x3:Int) (x4:(List Int)):sDigest_D7 (x1,(x2,(x3,(x4,()))))=cnd (ilt x3 17) (cnd (inb x3 25) (bnd (sL03Word_d (x1,((iadd .i64 x2 (imul .i64 8 x3)),()))) (fun r4=>(cnd (inb x3 25) (sDigest_D7 (x1,(x2,((iadd .i64 x3 1),((upd x4 x3 (ixor .u64 (rd 0 x4 x3) r4.1.1)),()))))) none))) none) (bnd (sL03All_d (x4,())) (fun r4=>(sDigest_D4 (x1,((iadd .i64 x2 136),(r4.1.1,())))))):=(FnD.eqC V sDigest_c sDigest_F 7 (x1,(x2,(x3,(x4,()))))).trans (by kernel_rfl)
theorem sDigest_q4 (x1:ByteArray) (x2:Int) (x3:(List Int)):sDigest_D4 (x1,(x2,(x3,())))=cnd (ilt x2 (ssz x1)) (sDigest_D7 (x1,(x2,(0,(x3,()))))) (bnd (sL03Text_d (x3,())) (fun r3=>(cnd (inb2 0 32 (ssz r3.1.1)) (some (((ssub r3.1.1 0 32),()),())) none))):=(FnD.eqC V sDigest_c sDigest_F 4 (x1,(x2,(x3,())))).trans (by kernel_rfl)
theorem sDigest_k:CallsOk Tryz.prog gls gvs 57 sDigest_g:=FnD.ok (F:=sDigest_F) (cs:=sDigest_c) V_ok (kC sKeccakPad_k (kC sL03Word_k (kC sL03All_k (kC sL03Text_k kN)))) Tryz.func57 (by decide) (by kernel_rfl)
noncomputable def sL25Start_F:FnD:={f:=118,fn:=Tryz.f118,ps:=[],rs:=[rt THead]}
noncomputable def sL25Start_c:List (Nat×Sig):=[(57,sDigest_g)]
noncomputable def sL25Start_d:Unit→Option ((tHead×Unit)×Unit):=sL25Start_F.d V sL25Start_c
noncomputable abbrev sL25Start_g:Sig:=sL25Start_F.t.sig sL25Start_d
theorem sL25Start_b:sL25Start_d ()=bnd (sDigest_d ((bs []),())) (fun r0=>(some (((0,(r0.1.1,(r0.1.1,(r0.1.1,())))),()),()))):=(FnD.eq V sL25Start_c sL25Start_F ()).trans (by kernel_rfl)
theorem sL25Start_k:CallsOk Tryz.prog gls gvs 118 sL25Start_g:=FnD.ok (F:=sL25Start_F) (cs:=sL25Start_c) V_ok (kC sDigest_k kN) Tryz.func118 (by decide) (by kernel_rfl)
noncomputable def sL01Figure_F:FnD:={f:=162,fn:=Tryz.f162,ps:=[pa (.int .i64)],rs:=[rt (.int .u8)]}
noncomputable def sL01Figure_c:List (Nat×Sig):=[]
noncomputable def sL01Figure_d:Int×Unit→Option ((Int×Unit)×Unit):=sL01Figure_F.d V sL01Figure_c
noncomputable abbrev sL01Figure_g:Sig:=sL01Figure_F.t.sig sL01Figure_d
theorem sL01Figure_b (x1:Int):sL01Figure_d (x1,())=cnd (ilt x1 10) (some (((iconv .u8 (iadd .i64 48 x1)),()),())) (some (((iconv .u8 (isub .i64 (iadd .i64 97 x1) 10)),()),())):=(FnD.eq V sL01Figure_c sL01Figure_F (x1,())).trans (by kernel_rfl)
theorem sL01Figure_k:CallsOk Tryz.prog gls gvs 162 sL01Figure_g:=FnD.ok (F:=sL01Figure_F) (cs:=sL01Figure_c) V_ok kN Tryz.func162 (by decide) (by kernel_rfl)
noncomputable def sDecimal_F:FnD:={f:=119,fn:=Tryz.f119,ps:=[pa (.int .i64)],rs:=[rt .str],joins:=[9],cuts:=[(9,[.val 0 (.int .i64) .sh, .val 3 .bool .sh, .val 4 .str .sh, .val 5 (.int .i64) .sh]),(5,[.val 0 (.int .i64) .sh, .val 3 .bool .sh, .val 4 .str .sh])]}
noncomputable def sDecimal_c:List (Nat×Sig):=[(162,sL01Figure_g)]
noncomputable def sDecimal_d:Int×Unit→Option ((ByteArray×Unit)×Unit):=sDecimal_F.d V sDecimal_c
noncomputable abbrev sDecimal_g:Sig:=sDecimal_F.t.sig sDecimal_d
noncomputable def sDecimal_D9:Int×Bool×ByteArray×Int×Unit→Option ((ByteArray×Unit)×Unit):=sDecimal_F.D V sDecimal_c 9
noncomputable def sDecimal_D5:Int×Bool×ByteArray×Unit→Option ((ByteArray×Unit)×Unit):=sDecimal_F.D V sDecimal_c 5
theorem sDecimal_b (x1:Int):sDecimal_d (x1,())=cnd (ieq x1 0) (some (((bs [48]),()),())) (sDecimal_D5 (x1,((ilt x1 0),((bs []),())))):=(FnD.eq V sDecimal_c sDecimal_F (x1,())).trans (by kernel_rfl)
theorem sDecimal_q9 (x1:Int) (x2:Bool) (x3:ByteArray) (x4:Int):sDecimal_D9 (x1,(x2,(x3,(x4,()))))=bnd (sL01Figure_d (x4,())) (fun r4=>(cnd (fits ((ssz (sof (r4.1.1::([]:List Int))))+(ssz x3)) 1) (cnd (nz 10) (sDecimal_D5 ((iquo .i64 x1 10),(x2,((scat (sof (r4.1.1::([]:List Int))) x3),())))) none) none)):=(FnD.eqC V sDecimal_c sDecimal_F 9 (x1,(x2,(x3,(x4,()))))).trans (by kernel_rfl)
theorem sDecimal_q5 (x1:Int) (x2:Bool) (x3:ByteArray):sDecimal_D5 (x1,(x2,(x3,())))=cnd (ine x1 0) (cnd (nz 10) (cnd (ilt (irem x1 10) 0) (sDecimal_D9 (x1,(x2,(x3,((ineg .i64 (irem x1 10)),()))))) (sDecimal_D9 (x1,(x2,(x3,((irem x1 10),())))))) none) (cnd x2 (cnd (fits ((ssz (bs [45]))+(ssz x3)) 1) (some (((scat (bs [45]) x3),()),())) none) (some ((x3,()),()))):=(FnD.eqC V sDecimal_c sDecimal_F 5 (x1,(x2,(x3,())))).trans (by kernel_rfl)
theorem sDecimal_k:CallsOk Tryz.prog gls gvs 119 sDecimal_g:=FnD.ok (F:=sDecimal_F) (cs:=sDecimal_c) V_ok (kC sL01Figure_k kN) Tryz.func119 (by decide) (by kernel_rfl)
noncomputable def sHeadOk_F:FnD:={f:=163,fn:=Tryz.f163,ps:=[pa THead],rs:=[rt .bool]}
noncomputable def sHeadOk_c:List (Nat×Sig):=[(51,sL01In_g)]
noncomputable def sHeadOk_d:tHead×Unit→Option ((Bool×Unit)×Unit):=sHeadOk_F.d V sHeadOk_c
noncomputable abbrev sHeadOk_g:Sig:=sHeadOk_F.t.sig sHeadOk_d
theorem sHeadOk_b (x1:tHead):sHeadOk_d (x1,())=bnd (sL01In_d (x1.1,(0,(10000,())))) (fun r1=>(cnd r1.1.1 (cnd (ieq (ssz x1.2.1) 32) (cnd (ieq (ssz x1.2.2.1) 32) (some (((ieq (ssz x1.2.2.2.1) 32),()),())) (some ((false,()),()))) (some ((false,()),()))) (some ((false,()),())))):=(FnD.eq V sHeadOk_c sHeadOk_F (x1,())).trans (by kernel_rfl)
theorem sHeadOk_k:CallsOk Tryz.prog gls gvs 163 sHeadOk_g:=FnD.ok (F:=sHeadOk_F) (cs:=sHeadOk_c) V_ok (kC sL01In_k kN) Tryz.func163 (by decide) (by kernel_rfl)
noncomputable def sL01Var_F:FnD:={f:=164,fn:=Tryz.f164,ps:=[pa (.int .i64)],rs:=[rt .str],cuts:=[(2,[.val 0 (.int .i64) .sh, .val 3 (.sl (.int .u8)) (.own 0 .sh)])]}
noncomputable def sL01Var_c:List (Nat×Sig):=[]
noncomputable def sL01Var_d:Int×Unit→Option ((ByteArray×Unit)×Unit):=sL01Var_F.d V sL01Var_c
noncomputable abbrev sL01Var_g:Sig:=sL01Var_F.t.sig sL01Var_d
noncomputable def sL01Var_D2:Int× (List Int)×Unit→Option ((ByteArray×Unit)×Unit):=sL01Var_F.D V sL01Var_c 2
theorem sL01Var_b (x1:Int):sL01Var_d (x1,())=sL01Var_D2 (x1,(([]:List Int),())):=(FnD.eq V sL01Var_c sL01Var_F (x1,())).trans (by kernel_rfl)
theorem sL01Var_q2 (x1:Int) (x2:(List Int)):sL01Var_D2 (x1,(x2,()))=cnd (igt x1 127) (cnd (nz 128) (cnd (fits ((len x2)+(len ((iconv .u8 (iadd .i64 (irem x1 128) 128))::([]:List Int)))) 1) (cnd (nz 128) (sL01Var_D2 ((iquo .i64 x1 128),((app x2 ((iconv .u8 (iadd .i64 (irem x1 128) 128))::([]:List Int))),()))) none) none) none) (cnd (fits ((len x2)+(len ((iconv .u8 x1)::([]:List Int)))) 1) (some (((sof (app x2 ((iconv .u8 x1)::([]:List Int)))),()),())) none):=(FnD.eqC V sL01Var_c sL01Var_F 2 (x1,(x2,()))).trans (by kernel_rfl)
theorem sL01Var_k:CallsOk Tryz.prog gls gvs 164 sL01Var_g:=FnD.ok (F:=sL01Var_F) (cs:=sL01Var_c) V_ok kN Tryz.func164 (by decide) (by kernel_rfl)
noncomputable def sLevelsOf_F:FnD:={f:=190,fn:=Tryz.f190,ps:=[pa (.int .i64)],rs:=[rt (.int .i64)],cuts:=[(4,[.val 0 (.int .i64) .sh, .val 3 (.int .i64) .sh])]}
noncomputable def sLevelsOf_c:List (Nat×Sig):=[(51,sL01In_g)]
noncomputable def sLevelsOf_d:Int×Unit→Option ((Int×Unit)×Unit):=sLevelsOf_F.d V sLevelsOf_c
noncomputable abbrev sLevelsOf_g:Sig:=sLevelsOf_F.t.sig sLevelsOf_d
noncomputable def sLevelsOf_D4:Int×Int×Unit→Option ((Int×Unit)×Unit):=sLevelsOf_F.D V sLevelsOf_c 4
theorem sLevelsOf_b (x1:Int):sLevelsOf_d (x1,())=bnd (sL01In_d (x1,(0,(32,())))) (fun r1=>(cnd (bnot r1.1.1) (some (((-1),()),())) (sLevelsOf_D4 (x1,(0,()))))):=(FnD.eq V sLevelsOf_c sLevelsOf_F (x1,())).trans (by kernel_rfl)
theorem sLevelsOf_q4 (x1:Int) (x2:Int):sLevelsOf_D4 (x1,(x2,()))=cnd (nn (iconv .u64 x2)) (cnd (ilt (ishl .i64 1 (iconv .u64 x2)) x1) (sLevelsOf_D4 (x1,((iadd .i64 x2 1),()))) (some ((x2,()),()))) none:=(FnD.eqC V sLevelsOf_c sLevelsOf_F 4 (x1,(x2,()))).trans (by kernel_rfl)
theorem sLevelsOf_k:CallsOk Tryz.prog gls gvs 190 sLevelsOf_g:=FnD.ok (F:=sLevelsOf_F) (cs:=sLevelsOf_c) V_ok (kC sL01In_k kN) Tryz.func190 (by decide) (by kernel_rfl)
noncomputable def sL10Hashes_F:FnD:={f:=157,fn:=Tryz.f157,ps:=[pa (.sl .str)],rs:=[⟨(.sl .str),(.own 0 .sh),false⟩],cuts:=[(3,[.val 0 (.sl .str) .sh, .val 3 (.sl .str) (.own 0 .sh), .val 4 (.int .i64) .sh]),(7,[.val 0 (.sl .str) .sh, .val 3 (.sl .str) (.own 0 .sh), .val 5 .str .sh])]}
noncomputable def sL10Hashes_c:List (Nat×Sig):=[(57,sDigest_g),(190,sLevelsOf_g)]
noncomputable def sL10Hashes_d:(List ByteArray)×Unit→Option (((List ByteArray)×Unit)×Unit):=sL10Hashes_F.d V sL10Hashes_c
noncomputable abbrev sL10Hashes_g:Sig:=sL10Hashes_F.t.sig sL10Hashes_d
noncomputable def sL10Hashes_D3:(List ByteArray)× (List ByteArray)×Int×Unit→Option (((List ByteArray)×Unit)×Unit):=sL10Hashes_F.D V sL10Hashes_c 3
noncomputable def sL10Hashes_D7:(List ByteArray)× (List ByteArray)×ByteArray×Unit→Option (((List ByteArray)×Unit)×Unit):=sL10Hashes_F.D V sL10Hashes_c 7
theorem sL10Hashes_b (x1:(List ByteArray)):sL10Hashes_d (x1,())=sL10Hashes_D3 (x1,(([]:List ByteArray),(0,()))):=(FnD.eq V sL10Hashes_c sL10Hashes_F (x1,())).trans (by kernel_rfl)
theorem sL10Hashes_q3 (x1:(List ByteArray)) (x2:(List ByteArray)) (x3:Int):sL10Hashes_D3 (x1,(x2,(x3,())))=cnd (ilt x3 (len x1)) (cnd (inb x3 (len x1)) (bnd (sDigest_d ((rd (bs []) x1 x3),())) (fun r3=>(cnd (fits ((len x2)+(len (r3.1.1::([]:List ByteArray)))) 1) (sL10Hashes_D3 (x1,((app x2 (r3.1.1::([]:List ByteArray))),((iadd .i64 x3 1),())))) none))) none) (bnd (sDigest_d ((bs []),())) (fun r3=>(sL10Hashes_D7 (x1,(x2,(r3.1.1,())))))):=(FnD.eqC V sL10Hashes_c sL10Hashes_F 3 (x1,(x2,(x3,())))).trans (by kernel_rfl)
theorem sL10Hashes_q7 (x1:(List ByteArray)) (x2:(List ByteArray)) (x3:ByteArray):sL10Hashes_D7 (x1,(x2,(x3,())))=bnd (sLevelsOf_d ((len x1),())) (fun r3=>(cnd (nn (iconv .u64 r3.1.1)) (cnd (ilt (len x2) (ishl .i64 1 (iconv .u64 r3.1.1))) (cnd (fits ((len x2)+(len (x3::([]:List ByteArray)))) 1) (sL10Hashes_D7 (x1,((app x2 (x3::([]:List ByteArray))),(x3,())))) none) (some ((x2,()),()))) none)):=(FnD.eqC V sL10Hashes_c sL10Hashes_F 7 (x1,(x2,(x3,())))).trans (by kernel_rfl)
theorem sL10Hashes_k:CallsOk Tryz.prog gls gvs 157 sL10Hashes_g:=FnD.ok (F:=sL10Hashes_F) (cs:=sL10Hashes_c) V_ok (kC sDigest_k (kC sLevelsOf_k kN)) Tryz.func157 (by decide) (by kernel_rfl)
noncomputable def sDigestPair_F:FnD:={f:=191,fn:=Tryz.f191,ps:=[pa .str,pa .str],rs:=[rt .str]}
noncomputable def sDigestPair_c:List (Nat×Sig):=[(57,sDigest_g)]
noncomputable def sDigestPair_d:ByteArray×ByteArray×Unit→Option ((ByteArray×Unit)×Unit):=sDigestPair_F.d V sDigestPair_c
noncomputable abbrev sDigestPair_g:Sig:=sDigestPair_F.t.sig sDigestPair_d
theorem sDigestPair_b (x1:ByteArray) (x2:ByteArray):sDigestPair_d (x1,(x2,()))=cnd (fits ((ssz x1)+(ssz x2)) 1) (bnd (sDigest_d ((scat x1 x2),())) (fun r2=>(some ((r2.1.1,()),())))) none:=(FnD.eq V sDigestPair_c sDigestPair_F (x1,(x2,()))).trans (by kernel_rfl)
theorem sDigestPair_k:CallsOk Tryz.prog gls gvs 191 sDigestPair_g:=FnD.ok (F:=sDigestPair_F) (cs:=sDigestPair_c) V_ok (kC sDigest_k kN) Tryz.func191 (by decide) (by kernel_rfl)
noncomputable def sL10Up_F:FnD:={f:=158,fn:=Tryz.f158,ps:=[pa (.sl .str)],rs:=[⟨(.sl .str),(.own 0 .sh),false⟩],cuts:=[(3,[.val 0 (.sl .str) .sh, .val 3 (.sl .str) (.own 0 .sh), .val 4 (.int .i64) .sh])]}
noncomputable def sL10Up_c:List (Nat×Sig):=[(191,sDigestPair_g)]
noncomputable def sL10Up_d:(List ByteArray)×Unit→Option (((List ByteArray)×Unit)×Unit):=sL10Up_F.d V sL10Up_c
noncomputable abbrev sL10Up_g:Sig:=sL10Up_F.t.sig sL10Up_d
noncomputable def sL10Up_D3:(List ByteArray)× (List ByteArray)×Int×Unit→Option (((List ByteArray)×Unit)×Unit):=sL10Up_F.D V sL10Up_c 3
theorem sL10Up_b (x1:(List ByteArray)):sL10Up_d (x1,())=sL10Up_D3 (x1,(([]:List ByteArray),(0,()))):=(FnD.eq V sL10Up_c sL10Up_F (x1,())).trans (by kernel_rfl)
theorem sL10Up_q3 (x1:(List ByteArray)) (x2:(List ByteArray)) (x3:Int):sL10Up_D3 (x1,(x2,(x3,())))=cnd (ilt (iadd .i64 x3 1) (len x1)) (cnd (inb x3 (len x1)) (cnd (inb (iadd .i64 x3 1) (len x1)) (bnd (sDigestPair_d ((rd (bs []) x1 x3),((rd (bs []) x1 (iadd .i64 x3 1)),()))) (fun r3=>(cnd (fits ((len x2)+(len (r3.1.1::([]:List ByteArray)))) 1) (sL10Up_D3 (x1,((app x2 (r3.1.1::([]:List ByteArray))),((iadd .i64 x3 2),())))) none))) none) none) (some ((x2,()),())):=(FnD.eqC V sL10Up_c sL10Up_F 3 (x1,(x2,(x3,())))).trans (by kernel_rfl)
theorem sL10Up_k:CallsOk Tryz.prog gls gvs 158 sL10Up_g:=FnD.ok (F:=sL10Up_F) (cs:=sL10Up_c) V_ok (kC sDigestPair_k kN) Tryz.func158 (by decide) (by kernel_rfl)
noncomputable def sRootOf_F:FnD:={f:=121,fn:=Tryz.f121,ps:=[pa (.sl .str)],rs:=[rt .str],cuts:=[(4,[.val 3 (.sl .str) (.own 0 .sh)])]}
noncomputable def sRootOf_c:List (Nat×Sig):=[(157,sL10Hashes_g),(158,sL10Up_g)]
noncomputable def sRootOf_d:(List ByteArray)×Unit→Option ((ByteArray×Unit)×Unit):=sRootOf_F.d V sRootOf_c
noncomputable abbrev sRootOf_g:Sig:=sRootOf_F.t.sig sRootOf_d
noncomputable def sRootOf_D4:(List ByteArray)×Unit→Option ((ByteArray×Unit)×Unit):=sRootOf_F.D V sRootOf_c 4
theorem sRootOf_b (x1:(List ByteArray)):sRootOf_d (x1,())=cnd (igt (len x1) 32) (some (((bs []),()),())) (bnd (sL10Hashes_d (x1,())) (fun r1=>(sRootOf_D4 (r1.1.1,())))):=(FnD.eq V sRootOf_c sRootOf_F (x1,())).trans (by kernel_rfl)
theorem sRootOf_q4 (x1:(List ByteArray)):sRootOf_D4 (x1,())=cnd (igt (len x1) 1) (bnd (sL10Up_d (x1,())) (fun r1=>(sRootOf_D4 (r1.1.1,())))) (cnd (inb 0 (len x1)) (some (((rd (bs []) x1 0),()),())) none):=(FnD.eqC V sRootOf_c sRootOf_F 4 (x1,())).trans (by kernel_rfl)
theorem sRootOf_k:CallsOk Tryz.prog gls gvs 121 sRootOf_g:=FnD.ok (F:=sRootOf_F) (cs:=sRootOf_c) V_ok (kC sL10Hashes_k (kC sL10Up_k kN)) Tryz.func121 (by decide) (by kernel_rfl)
noncomputable def sHeadRoot_F:FnD:={f:=120,fn:=Tryz.f120,ps:=[pa THead],rs:=[rt .str]}
noncomputable def sHeadRoot_c:List (Nat×Sig):=[(163,sHeadOk_g),(164,sL01Var_g),(121,sRootOf_g)]
noncomputable def sHeadRoot_d:tHead×Unit→Option ((ByteArray×Unit)×Unit):=sHeadRoot_F.d V sHeadRoot_c
noncomputable abbrev sHeadRoot_g:Sig:=sHeadRoot_F.t.sig sHeadRoot_d
theorem sHeadRoot_b (x1:tHead):sHeadRoot_d (x1,())=bnd (sHeadOk_d (x1,())) (fun r1=>(cnd (bnot r1.1.1) (some (((bs []),()),())) (bnd (sL01Var_d (x1.1,())) (fun r2=>(bnd (sRootOf_d ((r2.1.1::(x1.2.1::(x1.2.2.1::(x1.2.2.2.1::([]:List ByteArray))))),())) (fun r3=>(some ((r3.1.1,()),())))))))):=(FnD.eq V sHeadRoot_c sHeadRoot_F (x1,())).trans (by kernel_rfl)
theorem sHeadRoot_k:CallsOk Tryz.prog gls gvs 120 sHeadRoot_g:=FnD.ok (F:=sHeadRoot_F) (cs:=sHeadRoot_c) V_ok (kC sHeadOk_k (kC sL01Var_k (kC sRootOf_k kN))) Tryz.func120 (by decide) (by kernel_rfl)
noncomputable def sL19Text_F:FnD:={f:=53,fn:=Tryz.f53,ps:=[pa .str],rs:=[⟨.item,(.own 0 .sh),false⟩],al:=true}
noncomputable def sL19Text_c:List (Nat×Sig):=[]
noncomputable def sL19Text_d:ByteArray×Unit→Option ((ItemT×Unit)×Unit):=sL19Text_F.d V sL19Text_c
noncomputable abbrev sL19Text_g:Sig:=sL19Text_F.t.sig sL19Text_d
theorem sL19Text_b (x1:ByteArray):sL19Text_d (x1,())=some (((ItemT.mk false x1 ([]:List ItemT)),()),()):=(FnD.eq V sL19Text_c sL19Text_F (x1,())).trans (by kernel_rfl)
theorem sL19Text_k:CallsOk Tryz.prog gls gvs 53 sL19Text_g:=FnD.ok (F:=sL19Text_F) (cs:=sL19Text_c) V_ok kN Tryz.func53 (by decide) (by kernel_rfl)
noncomputable def sNibblesOf_F:FnD:={f:=62,fn:=Tryz.f62,ps:=[pa .str],rs:=[⟨(.sl (.int .i64)),(.own 0 .sh),false⟩],cuts:=[(3,[.val 0 .str .sh, .val 3 (.sl (.int .i64)) (.own 0 .sh), .val 4 (.int .i64) .sh])]}
noncomputable def sNibblesOf_c:List (Nat×Sig):=[]
noncomputable def sNibblesOf_d:ByteArray×Unit→Option (((List Int)×Unit)×Unit):=sNibblesOf_F.d V sNibblesOf_c
noncomputable abbrev sNibblesOf_g:Sig:=sNibblesOf_F.t.sig sNibblesOf_d
noncomputable def sNibblesOf_D3:ByteArray× (List Int)×Int×Unit→Option (((List Int)×Unit)×Unit):=sNibblesOf_F.D V sNibblesOf_c 3
theorem sNibblesOf_b (x1:ByteArray):sNibblesOf_d (x1,())=sNibblesOf_D3 (x1,(([]:List Int),(0,()))):=(FnD.eq V sNibblesOf_c sNibblesOf_F (x1,())).trans (by kernel_rfl)
theorem sNibblesOf_q3 (x1:ByteArray) (x2:(List Int)) (x3:Int):sNibblesOf_D3 (x1,(x2,(x3,())))=cnd (ilt x3 (ssz x1)) (cnd (inb x3 (ssz x1)) (cnd (nz 16) (cnd (inb x3 (ssz x1)) (cnd (nz 16) (cnd (fits ((len x2)+(len ((iquo .i64 (iconv .i64 (sat x1 x3)) 16)::((irem (iconv .i64 (sat x1 x3)) 16)::([]:List Int))))) 1) (sNibblesOf_D3 (x1,((app x2 ((iquo .i64 (iconv .i64 (sat x1 x3)) 16)::((irem (iconv .i64 (sat x1 x3)) 16)::([]:List Int)))),((iadd .i64 x3 1),())))) none) none) none) none) none) (some ((x2,()),())):=(FnD.eqC V sNibblesOf_c sNibblesOf_F 3 (x1,(x2,(x3,())))).trans (by kernel_rfl)
theorem sNibblesOf_k:CallsOk Tryz.prog gls gvs 62 sNibblesOf_g:=FnD.ok (F:=sNibblesOf_F) (cs:=sNibblesOf_c) V_ok kN Tryz.func62 (by decide) (by kernel_rfl)
noncomputable def sNibblesOk_F:FnD:={f:=148,fn:=Tryz.f148,ps:=[pa (.sl (.int .i64))],rs:=[rt .bool],cuts:=[(2,[.val 0 (.sl (.int .i64)) .sh, .val 3 (.int .i64) .sh])]}
noncomputable def sNibblesOk_c:List (Nat×Sig):=[(51,sL01In_g)]
noncomputable def sNibblesOk_d:(List Int)×Unit→Option ((Bool×Unit)×Unit):=sNibblesOk_F.d V sNibblesOk_c
noncomputable abbrev sNibblesOk_g:Sig:=sNibblesOk_F.t.sig sNibblesOk_d
noncomputable def sNibblesOk_D2:(List Int)×Int×Unit→Option ((Bool×Unit)×Unit):=sNibblesOk_F.D V sNibblesOk_c 2
theorem sNibblesOk_b (x1:(List Int)):sNibblesOk_d (x1,())=sNibblesOk_D2 (x1,(0,())):=(FnD.eq V sNibblesOk_c sNibblesOk_F (x1,())).trans (by kernel_rfl)
theorem sNibblesOk_q2 (x1:(List Int)) (x2:Int):sNibblesOk_D2 (x1,(x2,()))=cnd (ilt x2 (len x1)) (cnd (inb x2 (len x1)) (bnd (sL01In_d ((rd 0 x1 x2),(0,(15,())))) (fun r2=>(cnd (bnot r2.1.1) (some ((false,()),())) (sNibblesOk_D2 (x1,((iadd .i64 x2 1),())))))) none) (some (((ile (len x1) 64),()),())):=(FnD.eqC V sNibblesOk_c sNibblesOk_F 2 (x1,(x2,()))).trans (by kernel_rfl)
theorem sNibblesOk_k:CallsOk Tryz.prog gls gvs 148 sNibblesOk_g:=FnD.ok (F:=sNibblesOk_F) (cs:=sNibblesOk_c) V_ok (kC sL01In_k kN) Tryz.func148 (by decide) (by kernel_rfl)
noncomputable def sPrefixText_F:FnD:={f:=102,fn:=Tryz.f102,ps:=[pa (.sl (.int .i64)),pa .bool],rs:=[rt .str,rt .bool],joins:=[6,10],cuts:=[(6,[.val 0 (.sl (.int .i64)) .sh, .val 6 (.int .i64) .sh]),(10,[.val 0 (.sl (.int .i64)) .sh, .val 6 (.int .i64) .sh, .val 7 (.int .i64) .sh]),(12,[.val 0 (.sl (.int .i64)) .sh, .val 8 .str .sh, .val 9 (.int .i64) .sh])]}
noncomputable def sPrefixText_c:List (Nat×Sig):=[(148,sNibblesOk_g)]
noncomputable def sPrefixText_d:(List Int)×Bool×Unit→Option ((ByteArray×Bool×Unit)×Unit):=sPrefixText_F.d V sPrefixText_c
noncomputable abbrev sPrefixText_g:Sig:=sPrefixText_F.t.sig sPrefixText_d
noncomputable def sPrefixText_D6:(List Int)×Int×Unit→Option ((ByteArray×Bool×Unit)×Unit):=sPrefixText_F.D V sPrefixText_c 6
noncomputable def sPrefixText_D10:(List Int)×Int×Int×Unit→Option ((ByteArray×Bool×Unit)×Unit):=sPrefixText_F.D V sPrefixText_c 10
noncomputable def sPrefixText_D12:(List Int)×ByteArray×Int×Unit→Option ((ByteArray×Bool×Unit)×Unit):=sPrefixText_F.D V sPrefixText_c 12
theorem sPrefixText_b (x1:(List Int)) (x2:Bool):sPrefixText_d (x1,(x2,()))=bnd (sNibblesOk_d (x1,())) (fun r2=>(cnd (bnot r2.1.1) (some (zL21Cur,())) (cnd x2 (sPrefixText_D6 (x1,(32,()))) (sPrefixText_D6 (x1,(0,())))))):=(FnD.eq V sPrefixText_c sPrefixText_F (x1,(x2,()))).trans (by kernel_rfl)
theorem sPrefixText_q6 (x1:(List Int)) (x2:Int):sPrefixText_D6 (x1,(x2,()))=cnd (nz 2) (cnd (ieq (irem (len x1) 2) 1) (cnd (inb 0 (len x1)) (sPrefixText_D10 (x1,((iadd .i64 (iadd .i64 x2 16) (rd 0 x1 0)),(1,())))) none) (sPrefixText_D10 (x1,(x2,(0,()))))) none:=(FnD.eqC V sPrefixText_c sPrefixText_F 6 (x1,(x2,()))).trans (by kernel_rfl)
theorem sPrefixText_q10 (x1:(List Int)) (x2:Int) (x3:Int):sPrefixText_D10 (x1,(x2,(x3,())))=sPrefixText_D12 (x1,((sof ((iconv .u8 x2)::([]:List Int))),(x3,()))):=(FnD.eqC V sPrefixText_c sPrefixText_F 10 (x1,(x2,(x3,())))).trans (by kernel_rfl)
theorem sPrefixText_q12 (x1:(List Int)) (x2:ByteArray) (x3:Int):sPrefixText_D12 (x1,(x2,(x3,())))=cnd (ilt (iadd .i64 x3 1) (len x1)) (cnd (inb x3 (len x1)) (cnd (inb (iadd .i64 x3 1) (len x1)) (cnd (fits ((ssz x2)+(ssz (sof ((iconv .u8 (iadd .i64 (imul .i64 16 (rd 0 x1 x3)) (rd 0 x1 (iadd .i64 x3 1))))::([]:List Int))))) 1) (sPrefixText_D12 (x1,((scat x2 (sof ((iconv .u8 (iadd .i64 (imul .i64 16 (rd 0 x1 x3)) (rd 0 x1 (iadd .i64 x3 1))))::([]:List Int)))),((iadd .i64 x3 2),())))) none) none) none) (some ((x2,(true,())),())):=(FnD.eqC V sPrefixText_c sPrefixText_F 12 (x1,(x2,(x3,())))).trans (by kernel_rfl)
theorem sPrefixText_k:CallsOk Tryz.prog gls gvs 102 sPrefixText_g:=FnD.ok (F:=sPrefixText_F) (cs:=sPrefixText_c) V_ok (kC sNibblesOk_k kN) Tryz.func102 (by decide) (by kernel_rfl)
noncomputable def sCommon_F:FnD:={f:=101,fn:=Tryz.f101,ps:=[pa (.sl (.int .i64)),pa (.sl (.int .i64))],rs:=[rt (.int .i64)],cuts:=[(2,[.val 0 (.sl (.int .i64)) .sh, .val 1 (.sl (.int .i64)) .sh, .val 5 (.int .i64) .sh])]}
noncomputable def sCommon_c:List (Nat×Sig):=[]
noncomputable def sCommon_d:(List Int)× (List Int)×Unit→Option ((Int×Unit)×Unit):=sCommon_F.d V sCommon_c
noncomputable abbrev sCommon_g:Sig:=sCommon_F.t.sig sCommon_d
noncomputable def sCommon_D2:(List Int)× (List Int)×Int×Unit→Option ((Int×Unit)×Unit):=sCommon_F.D V sCommon_c 2
theorem sCommon_b (x1:(List Int)) (x2:(List Int)):sCommon_d (x1,(x2,()))=sCommon_D2 (x1,(x2,(0,()))):=(FnD.eq V sCommon_c sCommon_F (x1,(x2,()))).trans (by kernel_rfl)
theorem sCommon_q2 (x1:(List Int)) (x2:(List Int)) (x3:Int):sCommon_D2 (x1,(x2,(x3,())))=cnd (ilt x3 (len x1)) (cnd (ilt x3 (len x2)) (cnd (inb x3 (len x1)) (cnd (inb x3 (len x2)) (cnd (ieq (rd 0 x1 x3) (rd 0 x2 x3)) (sCommon_D2 (x1,(x2,((iadd .i64 x3 1),())))) (some ((x3,()),()))) none) none) (some ((x3,()),()))) (some ((x3,()),())):=(FnD.eqC V sCommon_c sCommon_F 2 (x1,(x2,(x3,())))).trans (by kernel_rfl)
theorem sCommon_k:CallsOk Tryz.prog gls gvs 101 sCommon_g:=FnD.ok (F:=sCommon_F) (cs:=sCommon_c) V_ok kN Tryz.func101 (by decide) (by kernel_rfl)
noncomputable def sL19Shared_F:FnD:={f:=103,fn:=Tryz.f103,ps:=[pa (.sl TPair),pa (.int .i64)],rs:=[rt (.int .i64)],cuts:=[(4,[.val 0 (.sl TPair) .sh, .val 1 (.int .i64) .sh, .val 5 (.int .i64) .sh, .val 6 (.sl (.int .i64)) .sh, .val 7 (.int .i64) .sh])]}
noncomputable def sL19Shared_c:List (Nat×Sig):=[(62,sNibblesOf_g),(101,sCommon_g)]
noncomputable def sL19Shared_d:(List tPair)×Int×Unit→Option ((Int×Unit)×Unit):=sL19Shared_F.d V sL19Shared_c
noncomputable abbrev sL19Shared_g:Sig:=sL19Shared_F.t.sig sL19Shared_d
noncomputable def sL19Shared_D4:(List tPair)×Int×Int× (List Int)×Int×Unit→Option ((Int×Unit)×Unit):=sL19Shared_F.D V sL19Shared_c 4
theorem sL19Shared_b (x1:(List tPair)) (x2:Int):sL19Shared_d (x1,(x2,()))=cnd (inb 0 (len x1)) (bnd (sNibblesOf_d ((rd zPair x1 0).1,())) (fun r2=>(cnd (inb2 x2 (len r2.1.1) (len r2.1.1)) (sL19Shared_D4 (x1,(x2,((isub .i64 8 x2),((sub r2.1.1 x2 (len r2.1.1)),(1,())))))) none))) none:=(FnD.eq V sL19Shared_c sL19Shared_F (x1,(x2,()))).trans (by kernel_rfl)
theorem sL19Shared_q4 (x1:(List tPair)) (x2:Int) (x3:Int) (x4:(List Int)) (x5:Int):sL19Shared_D4 (x1,(x2,(x3,(x4,(x5,())))))=cnd (ilt x5 (len x1)) (cnd (inb x5 (len x1)) (bnd (sNibblesOf_d ((rd zPair x1 x5).1,())) (fun r5=>(cnd (inb2 x2 (len r5.1.1) (len r5.1.1)) (bnd (sCommon_d (x4,((sub r5.1.1 x2 (len r5.1.1)),()))) (fun r6=>(cnd (ilt r6.1.1 x3) (sL19Shared_D4 (x1,(x2,(r6.1.1,(x4,((iadd .i64 x5 1),())))))) (sL19Shared_D4 (x1,(x2,(x3,(x4,((iadd .i64 x5 1),()))))))))) none))) none) (some ((x3,()),())):=(FnD.eqC V sL19Shared_c sL19Shared_F 4 (x1,(x2,(x3,(x4,(x5,())))))).trans (by kernel_rfl)
theorem sL19Shared_k:CallsOk Tryz.prog gls gvs 103 sL19Shared_g:=FnD.ok (F:=sL19Shared_F) (cs:=sL19Shared_c) V_ok (kC sNibblesOf_k (kC sCommon_k kN)) Tryz.func103 (by decide) (by kernel_rfl)
noncomputable def sL17Deep_F:FnD:={f:=149,fn:=Tryz.f149,ps:=[pa .item,pa (.int .i64)],rs:=[rt .bool],cuts:=[(6,[.val 1 (.int .i64) .sh, .val 5 (.int .i64) .sh, .box 2 .item .sh, .ptr 2 2 0])]}
noncomputable def sL17Deep_c:List (Nat×Sig):=[]
noncomputable def sL17Deep_d:ItemT×Int×Unit→Option ((Bool×Unit)×Unit):=sL17Deep_F.d V sL17Deep_c
noncomputable abbrev sL17Deep_g:Sig:=sL17Deep_F.t.sig sL17Deep_d
noncomputable def sL17Deep_D6:Int×Int×ItemT×Unit→Option ((Bool×Unit)×Unit):=sL17Deep_F.D V sL17Deep_c 6
theorem sL17Deep_b (x1:ItemT) (x2:Int):sL17Deep_d (x1,(x2,()))=cnd (bnot x1.l) (cnd (ieq (len x1.k) 0) (some (((ile (ssz x1.s) 600),()),())) (some ((false,()),()))) (cnd (sne x1.s (bs [])) (some ((false,()),())) (cnd (igt (len x1.k) 17) (some ((false,()),())) (cnd (ige x2 4) (some ((false,()),())) (sL17Deep_D6 (x2,(0,(x1,()))))))):=(FnD.eq V sL17Deep_c sL17Deep_F (x1,(x2,()))).trans (by kernel_rfl)
theorem sL17Deep_q6 (x1:Int) (x2:Int) (x3:ItemT):sL17Deep_D6 (x1,(x2,(x3,())))=cnd (ilt x2 (len x3.k)) (cnd (inb x2 (len x3.k)) (bnd (sL17Deep_d ((rd (ItemT.mk false (bs []) ([]:List ItemT)) x3.k x2),((iadd .i64 x1 1),()))) (fun r3=>(cnd (bnot r3.1.1) (some ((false,()),())) (sL17Deep_D6 (x1,((iadd .i64 x2 1),(x3,()))))))) none) (some ((true,()),())):=(FnD.eqC V sL17Deep_c sL17Deep_F 6 (x1,(x2,(x3,())))).trans (by kernel_rfl)
theorem sL17Deep_k:CallsOk Tryz.prog gls gvs 149 sL17Deep_g:=FnD.ok (F:=sL17Deep_F) (cs:=sL17Deep_c) V_ok kN Tryz.func149 (by decide) (by kernel_rfl)
noncomputable def sItemOk_F:FnD:={f:=104,fn:=Tryz.f104,ps:=[pa .item],rs:=[rt .bool]}
noncomputable def sItemOk_c:List (Nat×Sig):=[(149,sL17Deep_g)]
noncomputable def sItemOk_d:ItemT×Unit→Option ((Bool×Unit)×Unit):=sItemOk_F.d V sItemOk_c
noncomputable abbrev sItemOk_g:Sig:=sItemOk_F.t.sig sItemOk_d
theorem sItemOk_b (x1:ItemT):sItemOk_d (x1,())=bnd (sL17Deep_d (x1,(0,()))) (fun r1=>(some ((r1.1.1,()),()))):=(FnD.eq V sItemOk_c sItemOk_F (x1,())).trans (by kernel_rfl)
theorem sItemOk_k:CallsOk Tryz.prog gls gvs 104 sItemOk_g:=FnD.ok (F:=sItemOk_F) (cs:=sItemOk_c) V_ok (kC sL17Deep_k kN) Tryz.func104 (by decide) (by kernel_rfl)
noncomputable def sNumText_F:FnD:={f:=185,fn:=Tryz.f185,ps:=[pa (.int .i64)],rs:=[rt .str],cuts:=[(2,[.val 0 (.int .i64) .sh, .val 3 .str .sh])]}
noncomputable def sNumText_c:List (Nat×Sig):=[]
noncomputable def sNumText_d:Int×Unit→Option ((ByteArray×Unit)×Unit):=sNumText_F.d V sNumText_c
noncomputable abbrev sNumText_g:Sig:=sNumText_F.t.sig sNumText_d
noncomputable def sNumText_D2:Int×ByteArray×Unit→Option ((ByteArray×Unit)×Unit):=sNumText_F.D V sNumText_c 2
theorem sNumText_b (x1:Int):sNumText_d (x1,())=sNumText_D2 (x1,((bs []),())):=(FnD.eq V sNumText_c sNumText_F (x1,())).trans (by kernel_rfl)
theorem sNumText_q2 (x1:Int) (x2:ByteArray):sNumText_D2 (x1,(x2,()))=cnd (igt x1 0) (cnd (nz 256) (cnd (fits ((ssz (sof ((iconv .u8 (irem x1 256))::([]:List Int))))+(ssz x2)) 1) (cnd (nz 256) (sNumText_D2 ((iquo .i64 x1 256),((scat (sof ((iconv .u8 (irem x1 256))::([]:List Int))) x2),()))) none) none) none) (some ((x2,()),())):=(FnD.eqC V sNumText_c sNumText_F 2 (x1,(x2,()))).trans (by kernel_rfl)
theorem sNumText_k:CallsOk Tryz.prog gls gvs 185 sNumText_g:=FnD.ok (F:=sNumText_F) (cs:=sNumText_c) V_ok kN Tryz.func185 (by decide) (by kernel_rfl)
noncomputable def sL17Head_F:FnD:={f:=150,fn:=Tryz.f150,ps:=[pa (.int .i64),pa (.int .i64)],rs:=[rt .str]}
noncomputable def sL17Head_c:List (Nat×Sig):=[(185,sNumText_g)]
noncomputable def sL17Head_d:Int×Int×Unit→Option ((ByteArray×Unit)×Unit):=sL17Head_F.d V sL17Head_c
noncomputable abbrev sL17Head_g:Sig:=sL17Head_F.t.sig sL17Head_d
theorem sL17Head_b (x1:Int) (x2:Int):sL17Head_d (x1,(x2,()))=cnd (ile x1 55) (some (((sof ((iconv .u8 (iadd .i64 x2 x1))::([]:List Int))),()),())) (bnd (sNumText_d (x1,())) (fun r2=>(cnd (fits ((ssz (sof ((iconv .u8 (iadd .i64 (iadd .i64 x2 55) (ssz r2.1.1)))::([]:List Int))))+(ssz r2.1.1)) 1) (some (((scat (sof ((iconv .u8 (iadd .i64 (iadd .i64 x2 55) (ssz r2.1.1)))::([]:List Int))) r2.1.1),()),())) none))):=(FnD.eq V sL17Head_c sL17Head_F (x1,(x2,()))).trans (by kernel_rfl)
theorem sL17Head_k:CallsOk Tryz.prog gls gvs 150 sL17Head_g:=FnD.ok (F:=sL17Head_F) (cs:=sL17Head_c) V_ok (kC sNumText_k kN) Tryz.func150 (by decide) (by kernel_rfl)
noncomputable def sL17Text_F:FnD:={f:=105,fn:=Tryz.f105,ps:=[pa .item],rs:=[rt .str],joins:=[4],cuts:=[(4,[.box 1 .item .sh, .ptr 1 1 0]),(7,[.val 3 .str .sh, .val 4 (.int .i64) .sh, .box 1 .item .sh, .ptr 1 1 0])]}
noncomputable def sL17Text_c:List (Nat×Sig):=[(150,sL17Head_g)]
noncomputable def sL17Text_d:ItemT×Unit→Option ((ByteArray×Unit)×Unit):=sL17Text_F.d V sL17Text_c
noncomputable abbrev sL17Text_g:Sig:=sL17Text_F.t.sig sL17Text_d
noncomputable def sL17Text_D4:ItemT×Unit→Option ((ByteArray×Unit)×Unit):=sL17Text_F.D V sL17Text_c 4
noncomputable def sL17Text_D7:ByteArray×Int×ItemT×Unit→Option ((ByteArray×Unit)×Unit):=sL17Text_F.D V sL17Text_c 7
theorem sL17Text_b (x1:ItemT):sL17Text_d (x1,())=cnd (bnot x1.l) (cnd (ieq (ssz x1.s) 1) (cnd (inb 0 (ssz x1.s)) (cnd (ilt (sat x1.s 0) 128) (some ((x1.s,()),())) (sL17Text_D4 (x1,()))) none) (sL17Text_D4 (x1,()))) (sL17Text_D7 ((bs []),(0,(x1,())))):=(FnD.eq V sL17Text_c sL17Text_F (x1,())).trans (by kernel_rfl)
theorem sL17Text_q4 (x1:ItemT):sL17Text_D4 (x1,())=bnd (sL17Head_d ((ssz x1.s),(128,()))) (fun r1=>(cnd (fits ((ssz r1.1.1)+(ssz x1.s)) 1) (some (((scat r1.1.1 x1.s),()),())) none)):=(FnD.eqC V sL17Text_c sL17Text_F 4 (x1,())).trans (by kernel_rfl)
theorem sL17Text_q7 (x1:ByteArray) (x2:Int) (x3:ItemT):sL17Text_D7 (x1,(x2,(x3,())))=cnd (ilt x2 (len x3.k)) (cnd (inb x2 (len x3.k)) (bnd (sL17Text_d ((rd (ItemT.mk false (bs []) ([]:List ItemT)) x3.k x2),())) (fun r3=>(cnd (fits ((ssz x1)+(ssz r3.1.1)) 1) (sL17Text_D7 ((scat x1 r3.1.1),((iadd .i64 x2 1),(x3,())))) none))) none) (bnd (sL17Head_d ((ssz x1),(192,()))) (fun r3=>(cnd (fits ((ssz r3.1.1)+(ssz x1)) 1) (some (((scat r3.1.1 x1),()),())) none))):=(FnD.eqC V sL17Text_c sL17Text_F 7 (x1,(x2,(x3,())))).trans (by kernel_rfl)
theorem sL17Text_k:CallsOk Tryz.prog gls gvs 105 sL17Text_g:=FnD.ok (F:=sL17Text_F) (cs:=sL17Text_c) V_ok (kC sL17Head_k kN) Tryz.func105 (by decide) (by kernel_rfl)
noncomputable def sItemText_F:FnD:={f:=55,fn:=Tryz.f55,ps:=[pa .item],rs:=[rt .str,rt .bool]}
noncomputable def sItemText_c:List (Nat×Sig):=[(104,sItemOk_g),(105,sL17Text_g)]
noncomputable def sItemText_d:ItemT×Unit→Option ((ByteArray×Bool×Unit)×Unit):=sItemText_F.d V sItemText_c
noncomputable abbrev sItemText_g:Sig:=sItemText_F.t.sig sItemText_d
theorem sItemText_b (x1:ItemT):sItemText_d (x1,())=bnd (sItemOk_d (x1,())) (fun r1=>(cnd (bnot r1.1.1) (some (zL21Cur,())) (bnd (sL17Text_d (x1,())) (fun r2=>(cnd (igt (ssz r2.1.1) 900) (some (zL21Cur,())) (some ((r2.1.1,(true,())),()))))))):=(FnD.eq V sItemText_c sItemText_F (x1,())).trans (by kernel_rfl)
theorem sItemText_k:CallsOk Tryz.prog gls gvs 55 sItemText_g:=FnD.ok (F:=sItemText_F) (cs:=sItemText_c) V_ok (kC sItemOk_k (kC sL17Text_k kN)) Tryz.func55 (by decide) (by kernel_rfl)
noncomputable def sL19Copy_F:FnD:={f:=56,fn:=Tryz.f56,ps:=[pa .item],rs:=[⟨.item,(.own 0 .sh),false⟩],al:=true,cuts:=[(3,[.val 4 (.int .i64) .sh, .box 1 .item .sh, .box 2 .item (.own 0 .sh), .box 3 .item (.own 0 .sh), .ptr 1 1 0, .ptr 2 2 0, .ptr 3 3 0])]}
noncomputable def sL19Copy_c:List (Nat×Sig):=[]
noncomputable def sL19Copy_d:ItemT×Unit→Option ((ItemT×Unit)×Unit):=sL19Copy_F.d V sL19Copy_c
noncomputable abbrev sL19Copy_g:Sig:=sL19Copy_F.t.sig sL19Copy_d
noncomputable def sL19Copy_D3:Int×ItemT×ItemT×ItemT×Unit→Option ((ItemT×Unit)×Unit):=sL19Copy_F.D V sL19Copy_c 3
theorem sL19Copy_b (x1:ItemT):sL19Copy_d (x1,())=sL19Copy_D3 (0,(x1,((ItemT.mk false (bs []) ([]:List ItemT)),((ItemT.mk x1.l x1.s ([]:List ItemT)),())))):=(FnD.eq V sL19Copy_c sL19Copy_F (x1,())).trans (by kernel_rfl)
theorem sL19Copy_q3 (x1:Int) (x2:ItemT) (x3:ItemT) (x4:ItemT):sL19Copy_D3 (x1,(x2,(x3,(x4,()))))=cnd (ilt x1 (len x2.k)) (cnd (inb x1 (len x2.k)) (bnd (sL19Copy_d ((rd (ItemT.mk false (bs []) ([]:List ItemT)) x2.k x1),())) (fun r4=>(cnd (fits ((len x4.k)+(len (r4.1.1::([]:List ItemT)))) 3) (sL19Copy_D3 ((iadd .i64 x1 1),(x2,(x3,((ItemT.mk x4.l x4.s (app x4.k (r4.1.1::([]:List ItemT)))),()))))) none))) none) (some ((x4,()),())):=(FnD.eqC V sL19Copy_c sL19Copy_F 3 (x1,(x2,(x3,(x4,()))))).trans (by kernel_rfl)
theorem sL19Copy_k:CallsOk Tryz.prog gls gvs 56 sL19Copy_g:=FnD.ok (F:=sL19Copy_F) (cs:=sL19Copy_c) V_ok kN Tryz.func56 (by decide) (by kernel_rfl)
noncomputable def sTrieRef_F:FnD:={f:=17,fn:=Tryz.f17,ps:=[pa .item],rs:=[⟨.item,(.own 0 .sh),false⟩],al:=true}
noncomputable def sTrieRef_c:List (Nat×Sig):=[(55,sItemText_g),(56,sL19Copy_g),(57,sDigest_g),(53,sL19Text_g)]
noncomputable def sTrieRef_d:ItemT×Unit→Option ((ItemT×Unit)×Unit):=sTrieRef_F.d V sTrieRef_c
noncomputable abbrev sTrieRef_g:Sig:=sTrieRef_F.t.sig sTrieRef_d
theorem sTrieRef_b (x1:ItemT):sTrieRef_d (x1,())=bnd (sItemText_d (x1,())) (fun r1=>(cnd r1.1.2.1 (cnd (ilt (ssz r1.1.1) 32) (bnd (sL19Copy_d (x1,())) (fun r2=>(some ((r2.1.1,()),())))) (bnd (sDigest_d (r1.1.1,())) (fun r2=>(bnd (sL19Text_d (r2.1.1,())) (fun r3=>(some ((r3.1.1,()),()))))))) (bnd (sDigest_d (r1.1.1,())) (fun r2=>(bnd (sL19Text_d (r2.1.1,())) (fun r3=>(some ((r3.1.1,()),())))))))):=(FnD.eq V sTrieRef_c sTrieRef_F (x1,())).trans (by kernel_rfl)
theorem sTrieRef_k:CallsOk Tryz.prog gls gvs 17 sTrieRef_g:=FnD.ok (F:=sTrieRef_F) (cs:=sTrieRef_c) V_ok (kC sItemText_k (kC sL19Copy_k (kC sDigest_k (kC sL19Text_k kN)))) Tryz.func17 (by decide) (by kernel_rfl)
noncomputable def sL19Item_F:FnD:={f:=54,fn:=Tryz.f54,ps:=[pa (.sl TPair),pa (.int .i64)],rs:=[⟨.item,(.own 0 .sh),false⟩],al:=true,fz:=[1000112,1000106,1000105,22000012],cuts:=[(16,[.val 0 (.sl TPair) .sh, .val 1 (.int .i64) .sh, .val 11 (.int .i64) .sh, .val 12 (.sl TPair) (.own 0 .sh), .val 13 (.int .i64) .sh, .box 4 .item (.own 0 .sh), .box 10 .item (.own 0 .sh), .ptr 4 4 0, .ptr 10 10 0]),(12,[.val 0 (.sl TPair) .sh, .val 1 (.int .i64) .sh, .val 11 (.int .i64) .sh, .box 4 .item (.own 0 .sh), .box 10 .item (.own 0 .sh), .ptr 4 4 0, .ptr 10 10 0])]}
noncomputable def sL19Item_c:List (Nat×Sig):=[(53,sL19Text_g),(62,sNibblesOf_g),(102,sPrefixText_g),(103,sL19Shared_g),(17,sTrieRef_g)]
noncomputable def sL19Item_d:(List tPair)×Int×Unit→Option ((ItemT×Unit)×Unit):=sL19Item_F.d V sL19Item_c
noncomputable abbrev sL19Item_g:Sig:=sL19Item_F.t.sig sL19Item_d
noncomputable def sL19Item_D16:(List tPair)×Int×Int× (List tPair)×Int×ItemT×ItemT×Unit→Option ((ItemT×Unit)×Unit):=sL19Item_F.D V sL19Item_c 16
noncomputable def sL19Item_D12:(List tPair)×Int×Int×ItemT×ItemT×Unit→Option ((ItemT×Unit)×Unit):=sL19Item_F.D V sL19Item_c 12
theorem sL19Item_b (x1:(List tPair)) (x2:Int):sL19Item_d (x1,(x2,()))=cnd (ieq (len x1) 0) (bnd (sL19Text_d ((bs []),())) (fun r2=>(some ((r2.1.1,()),())))) (cnd (ieq (len x1) 1) (cnd (inb 0 (len x1)) (bnd (sNibblesOf_d ((rd zPair x1 0).1,())) (fun r2=>(cnd (inb2 x2 (len r2.1.1) (len r2.1.1)) (bnd (sPrefixText_d ((sub r2.1.1 x2 (len r2.1.1)),(true,()))) (fun r3=>(bnd (sL19Text_d (r3.1.1,())) (fun r4=>(cnd (inb 0 (len x1)) (bnd (sL19Text_d ((rd zPair x1 0).2.1,())) (fun r5=>(some (((ItemT.mk true (bs []) (r4.1.1::(r5.1.1::([]:List ItemT)))),()),())))) none))))) none))) none) (bnd (sL19Shared_d (x1,(x2,()))) (fun r2=>(cnd (igt r2.1.1 0) (cnd (inb 0 (len x1)) (bnd (sNibblesOf_d ((rd zPair x1 0).1,())) (fun r3=>(cnd (inb2 x2 (iadd .i64 x2 r2.1.1) (len r3.1.1)) (bnd (sPrefixText_d ((sub r3.1.1 x2 (iadd .i64 x2 r2.1.1)),(false,()))) (fun r4=>(bnd (sL19Text_d (r4.1.1,())) (fun r5=>(bnd (sL19Item_d (x1,((iadd .i64 x2 r2.1.1),()))) (fun r6=>(bnd (sTrieRef_d (r6.1.1,())) (fun r7=>(some (((ItemT.mk true (bs []) (r5.1.1::(r7.1.1::([]:List ItemT)))),()),())))))))))) none))) none) (sL19Item_D12 (x1,(x2,(0,((ItemT.mk false (bs []) ([]:List ItemT)),((ItemT.mk true (bs []) ([]:List ItemT)),())))))))))):=(FnD.eq V sL19Item_c sL19Item_F (x1,(x2,()))).trans (by kernel_rfl)
theorem sL19Item_q16 (x1:(List tPair)) (x2:Int) (x3:Int) (x4:(List tPair)) (x5:Int) (x6:ItemT) (x7:ItemT):sL19Item_D16 (x1,(x2,(x3,(x4,(x5,(x6,(x7,())))))))=cnd (ilt x5 (len x1)) (cnd (inb x5 (len x1)) (bnd (sNibblesOf_d ((rd zPair x1 x5).1,())) (fun r7=>(cnd (inb x2 (len r7.1.1)) (cnd (ieq (rd 0 r7.1.1 x2) x3) (cnd (inb x5 (len x1)) (cnd (fits ((len x4)+(len ((rd zPair x1 x5)::([]:List tPair)))) 2) (sL19Item_D16 (x1,(x2,(x3,((app x4 ((rd zPair x1 x5)::([]:List tPair))),((iadd .i64 x5 1),(x6,(x7,())))))))) none) none) (sL19Item_D16 (x1,(x2,(x3,(x4,((iadd .i64 x5 1),(x6,(x7,()))))))))) none))) none) (bnd (sL19Item_d (x4,((iadd .i64 x2 1),()))) (fun r7=>(bnd (sTrieRef_d (r7.1.1,())) (fun r8=>(cnd (fits ((len x7.k)+(len (r8.1.1::([]:List ItemT)))) 3) (sL19Item_D12 (x1,(x2,((iadd .i64 x3 1),(x6,((ItemT.mk x7.l x7.s (app x7.k (r8.1.1::([]:List ItemT)))),())))))) none))))):=(FnD.eqC V sL19Item_c sL19Item_F 16 (x1,(x2,(x3,(x4,(x5,(x6,(x7,())))))))).trans (by kernel_rfl)
theorem sL19Item_q12 (x1:(List tPair)) (x2:Int) (x3:Int) (x4:ItemT) (x5:ItemT):sL19Item_D12 (x1,(x2,(x3,(x4,(x5,())))))=cnd (ilt x3 16) (sL19Item_D16 (x1,(x2,(x3,(([]:List tPair),(0,(x4,(x5,())))))))) (bnd (sL19Text_d ((bs []),())) (fun r5=>(cnd (fits ((len x5.k)+(len (r5.1.1::([]:List ItemT)))) 3) (some (((ItemT.mk x5.l x5.s (app x5.k (r5.1.1::([]:List ItemT)))),()),())) none))):=(FnD.eqC V sL19Item_c sL19Item_F 12 (x1,(x2,(x3,(x4,(x5,())))))).trans (by kernel_rfl)
theorem sL19Item_k:CallsOk Tryz.prog gls gvs 54 sL19Item_g:=FnD.ok (F:=sL19Item_F) (cs:=sL19Item_c) V_ok (kC sL19Text_k (kC sNibblesOf_k (kC sPrefixText_k (kC sL19Shared_k (kC sTrieRef_k kN))))) Tryz.func54 (by decide) (by kernel_rfl)
noncomputable def sTrieRoot_F:FnD:={f:=18,fn:=Tryz.f18,ps:=[pa (.sl TPair)],rs:=[rt .str]}
noncomputable def sTrieRoot_c:List (Nat×Sig):=[(50,sPairsOk_g),(54,sL19Item_g),(55,sItemText_g),(57,sDigest_g)]
noncomputable def sTrieRoot_d:(List tPair)×Unit→Option ((ByteArray×Unit)×Unit):=sTrieRoot_F.d V sTrieRoot_c
noncomputable abbrev sTrieRoot_g:Sig:=sTrieRoot_F.t.sig sTrieRoot_d
theorem sTrieRoot_b (x1:(List tPair)):sTrieRoot_d (x1,())=bnd (sPairsOk_d (x1,())) (fun r1=>(cnd (bnot r1.1.1) (some (((bs []),()),())) (bnd (sL19Item_d (x1,(0,()))) (fun r2=>(bnd (sItemText_d (r2.1.1,())) (fun r3=>(bnd (sDigest_d (r3.1.1,())) (fun r4=>(some ((r4.1.1,()),())))))))))):=(FnD.eq V sTrieRoot_c sTrieRoot_F (x1,())).trans (by kernel_rfl)
theorem sTrieRoot_k:CallsOk Tryz.prog gls gvs 18 sTrieRoot_g:=FnD.ok (F:=sTrieRoot_F) (cs:=sTrieRoot_c) V_ok (kC sPairsOk_k (kC sL19Item_k (kC sItemText_k (kC sDigest_k kN)))) Tryz.func18 (by decide) (by kernel_rfl)
noncomputable def sL20Text_F:FnD:={f:=189,fn:=Tryz.f189,ps:=[pa (.int .i64),pa (.int .i64),pa .str],rs:=[rt .str]}
noncomputable def sL20Text_c:List (Nat×Sig):=[(185,sNumText_g),(53,sL19Text_g),(55,sItemText_g)]
noncomputable def sL20Text_d:Int×Int×ByteArray×Unit→Option ((ByteArray×Unit)×Unit):=sL20Text_F.d V sL20Text_c
noncomputable abbrev sL20Text_g:Sig:=sL20Text_F.t.sig sL20Text_d
theorem sL20Text_b (x1:Int) (x2:Int) (x3:ByteArray):sL20Text_d (x1,(x2,(x3,())))=bnd (sNumText_d (x1,())) (fun r3=>(bnd (sL19Text_d (r3.1.1,())) (fun r4=>(bnd (sNumText_d (x2,())) (fun r5=>(bnd (sL19Text_d (r5.1.1,())) (fun r6=>(bnd (sL19Text_d (x3,())) (fun r7=>(bnd (sItemText_d ((ItemT.mk true (bs []) (r4.1.1::(r6.1.1::(r7.1.1::([]:List ItemT))))),())) (fun r8=>(some ((r8.1.1,()),()))))))))))))):=(FnD.eq V sL20Text_c sL20Text_F (x1,(x2,(x3,())))).trans (by kernel_rfl)
theorem sL20Text_k:CallsOk Tryz.prog gls gvs 189 sL20Text_g:=FnD.ok (F:=sL20Text_F) (cs:=sL20Text_c) V_ok (kC sNumText_k (kC sL19Text_k (kC sItemText_k kN))) Tryz.func189 (by decide) (by kernel_rfl)
noncomputable def sAccountText_F:FnD:={f:=156,fn:=Tryz.f156,ps:=[pa TAccount],rs:=[rt .str]}
noncomputable def sAccountText_c:List (Nat×Sig):=[(18,sTrieRoot_g),(189,sL20Text_g)]
noncomputable def sAccountText_d:tAccount×Unit→Option ((ByteArray×Unit)×Unit):=sAccountText_F.d V sAccountText_c
noncomputable abbrev sAccountText_g:Sig:=sAccountText_F.t.sig sAccountText_d
theorem sAccountText_b (x1:tAccount):sAccountText_d (x1,())=bnd (sTrieRoot_d (x1.2.2.2.1,())) (fun r1=>(bnd (sL20Text_d (x1.2.1,(x1.2.2.1,(r1.1.1,())))) (fun r2=>(some ((r2.1.1,()),()))))):=(FnD.eq V sAccountText_c sAccountText_F (x1,())).trans (by kernel_rfl)
theorem sAccountText_k:CallsOk Tryz.prog gls gvs 156 sAccountText_g:=FnD.ok (F:=sAccountText_F) (cs:=sAccountText_c) V_ok (kC sTrieRoot_k (kC sL20Text_k kN)) Tryz.func156 (by decide) (by kernel_rfl)
noncomputable def sStateTrie_F:FnD:={f:=114,fn:=Tryz.f114,ps:=[pa (.sl TAccount)],rs:=[⟨(.sl TPair),(.own 0 .sh),false⟩],cuts:=[(5,[.val 0 (.sl TAccount) .sh, .val 3 (.sl TPair) (.own 0 .sh), .val 4 (.int .i64) .sh])]}
noncomputable def sStateTrie_c:List (Nat×Sig):=[(113,sAccountsOk_g),(156,sAccountText_g)]
noncomputable def sStateTrie_d:(List tAccount)×Unit→Option (((List tPair)×Unit)×Unit):=sStateTrie_F.d V sStateTrie_c
noncomputable abbrev sStateTrie_g:Sig:=sStateTrie_F.t.sig sStateTrie_d
noncomputable def sStateTrie_D5:(List tAccount)× (List tPair)×Int×Unit→Option (((List tPair)×Unit)×Unit):=sStateTrie_F.D V sStateTrie_c 5
theorem sStateTrie_b (x1:(List tAccount)):sStateTrie_d (x1,())=bnd (sAccountsOk_d (x1,())) (fun r1=>(cnd (bnot r1.1.1) (some ((([]:List tPair),()),())) (sStateTrie_D5 (x1,(([]:List tPair),(0,())))))):=(FnD.eq V sStateTrie_c sStateTrie_F (x1,())).trans (by kernel_rfl)
theorem sStateTrie_q5 (x1:(List tAccount)) (x2:(List tPair)) (x3:Int):sStateTrie_D5 (x1,(x2,(x3,())))=cnd (ilt x3 (len x1)) (cnd (inb x3 (len x1)) (cnd (inb x3 (len x1)) (bnd (sAccountText_d ((rd zAccount x1 x3),())) (fun r3=>(cnd (fits ((len x2)+(len (((rd zAccount x1 x3).1,(r3.1.1,()))::([]:List tPair)))) 2) (sStateTrie_D5 (x1,((app x2 (((rd zAccount x1 x3).1,(r3.1.1,()))::([]:List tPair))),((iadd .i64 x3 1),())))) none))) none) none) (some ((x2,()),())):=(FnD.eqC V sStateTrie_c sStateTrie_F 5 (x1,(x2,(x3,())))).trans (by kernel_rfl)
theorem sStateTrie_k:CallsOk Tryz.prog gls gvs 114 sStateTrie_g:=FnD.ok (F:=sStateTrie_F) (cs:=sStateTrie_c) V_ok (kC sAccountsOk_k (kC sAccountText_k kN)) Tryz.func114 (by decide) (by kernel_rfl)
noncomputable def sInGroup_F:FnD:={f:=216,fn:=Tryz.f216,ps:=[pa TPoint],rs:=[rt .bool]}
noncomputable def sInGroup_c:List (Nat×Sig):=[(217,sPointOk_g),(194,sPointTimes_g)]
noncomputable def sInGroup_d:tPoint×Unit→Option ((Bool×Unit)×Unit):=sInGroup_F.d V sInGroup_c
noncomputable abbrev sInGroup_g:Sig:=sInGroup_F.t.sig sInGroup_d
theorem sInGroup_b (x1:tPoint):sInGroup_d (x1,())=bnd (sPointOk_d (x1,())) (fun r1=>(cnd r1.1.1 (bnd (sPointTimes_d (1009,(x1,()))) (fun r2=>(some ((r2.1.1.2.2.1,()),())))) (some ((false,()),())))):=(FnD.eq V sInGroup_c sInGroup_F (x1,())).trans (by kernel_rfl)
theorem sInGroup_k:CallsOk Tryz.prog gls gvs 216 sInGroup_g:=FnD.ok (F:=sInGroup_F) (cs:=sInGroup_c) V_ok (kC sPointOk_k (kC sPointTimes_k kN)) Tryz.func216 (by decide) (by kernel_rfl)
noncomputable def sCommitteeOk_F:FnD:={f:=192,fn:=Tryz.f192,ps:=[pa TCommittee],rs:=[rt .bool],cuts:=[(2,[.val 3 (.int .i64) .sh, .box 1 TCommittee .sh, .ptr 1 1 0])]}
noncomputable def sCommitteeOk_c:List (Nat×Sig):=[(216,sInGroup_g)]
noncomputable def sCommitteeOk_d:tCommittee×Unit→Option ((Bool×Unit)×Unit):=sCommitteeOk_F.d V sCommitteeOk_c
noncomputable abbrev sCommitteeOk_g:Sig:=sCommitteeOk_F.t.sig sCommitteeOk_d
noncomputable def sCommitteeOk_D2:Int×tCommittee×Unit→Option ((Bool×Unit)×Unit):=sCommitteeOk_F.D V sCommitteeOk_c 2
theorem sCommitteeOk_b (x1:tCommittee):sCommitteeOk_d (x1,())=sCommitteeOk_D2 (0,(x1,())):=(FnD.eq V sCommitteeOk_c sCommitteeOk_F (x1,())).trans (by kernel_rfl)
theorem sCommitteeOk_q2 (x1:Int) (x2:tCommittee):sCommitteeOk_D2 (x1,(x2,()))=cnd (ilt x1 (len x2.1)) (cnd (inb x1 (len x2.1)) (bnd (sInGroup_d ((rd zPoint x2.1 x1),())) (fun r2=>(cnd (bnot r2.1.1) (some ((false,()),())) (cnd (inb x1 (len x2.1)) (cnd (rd zPoint x2.1 x1).2.2.1 (some ((false,()),())) (sCommitteeOk_D2 ((iadd .i64 x1 1),(x2,())))) none)))) none) (some (((ieq (len x2.1) 8),()),())):=(FnD.eqC V sCommitteeOk_c sCommitteeOk_F 2 (x1,(x2,()))).trans (by kernel_rfl)
theorem sCommitteeOk_k:CallsOk Tryz.prog gls gvs 192 sCommitteeOk_g:=FnD.ok (F:=sCommitteeOk_F) (cs:=sCommitteeOk_c) V_ok (kC sInGroup_k kN) Tryz.func192 (by decide) (by kernel_rfl)
noncomputable def sPointText_F:FnD:={f:=193,fn:=Tryz.f193,ps:=[pa TPoint],rs:=[rt .str]}
noncomputable def sPointText_c:List (Nat×Sig):=[(217,sPointOk_g)]
noncomputable def sPointText_d:tPoint×Unit→Option ((ByteArray×Unit)×Unit):=sPointText_F.d V sPointText_c
noncomputable abbrev sPointText_g:Sig:=sPointText_F.t.sig sPointText_d
theorem sPointText_b (x1:tPoint):sPointText_d (x1,())=bnd (sPointOk_d (x1,())) (fun r1=>(cnd (bnot r1.1.1) (some (((bs []),()),())) (cnd x1.2.2.1 (some (((bs [0,0,0]),()),())) (cnd (nn 8) (cnd (nz 2) (some (((sof ((iconv .u8 (ishr .i64 (iadd .i64 x1.1 1) 8))::((iconv .u8 (iadd .i64 x1.1 1))::((iconv .u8 (irem x1.2.1 2))::([]:List Int))))),()),())) none) none)))):=(FnD.eq V sPointText_c sPointText_F (x1,())).trans (by kernel_rfl)
theorem sPointText_k:CallsOk Tryz.prog gls gvs 193 sPointText_g:=FnD.ok (F:=sPointText_F) (cs:=sPointText_c) V_ok (kC sPointOk_k kN) Tryz.func193 (by decide) (by kernel_rfl)
noncomputable def sCommitteeRoot_F:FnD:={f:=159,fn:=Tryz.f159,ps:=[pa TCommittee],rs:=[rt .str],cuts:=[(5,[.val 3 (.sl .str) (.own 0 .sh), .val 4 (.int .i64) .sh, .box 1 TCommittee .sh, .ptr 1 1 0])]}
noncomputable def sCommitteeRoot_c:List (Nat×Sig):=[(192,sCommitteeOk_g),(193,sPointText_g),(121,sRootOf_g)]
noncomputable def sCommitteeRoot_d:tCommittee×Unit→Option ((ByteArray×Unit)×Unit):=sCommitteeRoot_F.d V sCommitteeRoot_c
noncomputable abbrev sCommitteeRoot_g:Sig:=sCommitteeRoot_F.t.sig sCommitteeRoot_d
noncomputable def sCommitteeRoot_D5:(List ByteArray)×Int×tCommittee×Unit→Option ((ByteArray×Unit)×Unit):=sCommitteeRoot_F.D V sCommitteeRoot_c 5
theorem sCommitteeRoot_b (x1:tCommittee):sCommitteeRoot_d (x1,())=bnd (sCommitteeOk_d (x1,())) (fun r1=>(cnd (bnot r1.1.1) (some (((bs []),()),())) (sCommitteeRoot_D5 (([]:List ByteArray),(0,(x1,())))))):=(FnD.eq V sCommitteeRoot_c sCommitteeRoot_F (x1,())).trans (by kernel_rfl)
theorem sCommitteeRoot_q5 (x1:(List ByteArray)) (x2:Int) (x3:tCommittee):sCommitteeRoot_D5 (x1,(x2,(x3,())))=cnd (ilt x2 (len x3.1)) (cnd (inb x2 (len x3.1)) (bnd (sPointText_d ((rd zPoint x3.1 x2),())) (fun r3=>(cnd (fits ((len x1)+(len (r3.1.1::([]:List ByteArray)))) 1) (sCommitteeRoot_D5 ((app x1 (r3.1.1::([]:List ByteArray))),((iadd .i64 x2 1),(x3,())))) none))) none) (bnd (sRootOf_d (x1,())) (fun r3=>(some ((r3.1.1,()),())))):=(FnD.eqC V sCommitteeRoot_c sCommitteeRoot_F 5 (x1,(x2,(x3,())))).trans (by kernel_rfl)
theorem sCommitteeRoot_k:CallsOk Tryz.prog gls gvs 159 sCommitteeRoot_g:=FnD.ok (F:=sCommitteeRoot_F) (cs:=sCommitteeRoot_c) V_ok (kC sCommitteeOk_k (kC sPointText_k (kC sRootOf_k kN))) Tryz.func159 (by decide) (by kernel_rfl)
noncomputable def sStateLeaves_F:FnD:={f:=116,fn:=Tryz.f116,ps:=[pa (.sl TAccount),pa TCommittee,pa TCommittee,pa THead],rs:=[⟨(.sl .str),(.own 0 .sh),false⟩]}
noncomputable def sStateLeaves_c:List (Nat×Sig):=[(114,sStateTrie_g),(18,sTrieRoot_g),(159,sCommitteeRoot_g),(120,sHeadRoot_g)]
noncomputable def sStateLeaves_d:(List tAccount)×tCommittee×tCommittee×tHead×Unit→Option (((List ByteArray)×Unit)×Unit):=sStateLeaves_F.d V sStateLeaves_c
noncomputable abbrev sStateLeaves_g:Sig:=sStateLeaves_F.t.sig sStateLeaves_d
theorem sStateLeaves_b (x1:(List tAccount)) (x2:tCommittee) (x3:tCommittee) (x4:tHead):sStateLeaves_d (x1,(x2,(x3,(x4,()))))=bnd (sStateTrie_d (x1,())) (fun r4=>(bnd (sTrieRoot_d (r4.1.1,())) (fun r5=>(bnd (sCommitteeRoot_d (x2,())) (fun r6=>(bnd (sCommitteeRoot_d (x3,())) (fun r7=>(bnd (sHeadRoot_d (x4,())) (fun r8=>(some (((r5.1.1::(r6.1.1::(r7.1.1::(r8.1.1::([]:List ByteArray))))),()),()))))))))))):=(FnD.eq V sStateLeaves_c sStateLeaves_F (x1,(x2,(x3,(x4,()))))).trans (by kernel_rfl)
theorem sStateLeaves_k:CallsOk Tryz.prog gls gvs 116 sStateLeaves_g:=FnD.ok (F:=sStateLeaves_F) (cs:=sStateLeaves_c) V_ok (kC sStateTrie_k (kC sTrieRoot_k (kC sCommitteeRoot_k (kC sHeadRoot_k kN)))) Tryz.func116 (by decide) (by kernel_rfl)
noncomputable def sL25Leaves_F:FnD:={f:=122,fn:=Tryz.f122,ps:=[pa TChain,pa (.int .i64),pa THead],rs:=[⟨(.sl .str),(.own 0 .sh),false⟩]}
noncomputable def sL25Leaves_c:List (Nat×Sig):=[(67,sPeriodOf_g),(69,sChainAccounts_g),(70,sChainCommittee_g),(116,sStateLeaves_g)]
noncomputable def sL25Leaves_d:tChain×Int×tHead×Unit→Option (((List ByteArray)×Unit)×Unit):=sL25Leaves_F.d V sL25Leaves_c
noncomputable abbrev sL25Leaves_g:Sig:=sL25Leaves_F.t.sig sL25Leaves_d
theorem sL25Leaves_b (x1:tChain) (x2:Int) (x3:tHead):sL25Leaves_d (x1,(x2,(x3,())))=bnd (sPeriodOf_d ((iadd .i64 (imul .i64 4 x2) 1),())) (fun r3=>(bnd (sChainAccounts_d (x1,(x2,()))) (fun r4=>(bnd (sChainCommittee_d (x1,(r3.1.1,()))) (fun r5=>(bnd (sChainCommittee_d (x1,((iadd .i64 r3.1.1 1),()))) (fun r6=>(bnd (sStateLeaves_d (r4.1.1,(r5.1.1,(r6.1.1,(x3,()))))) (fun r7=>(some ((r7.1.1,()),()))))))))))):=(FnD.eq V sL25Leaves_c sL25Leaves_F (x1,(x2,(x3,())))).trans (by kernel_rfl)
theorem sL25Leaves_k:CallsOk Tryz.prog gls gvs 122 sL25Leaves_g:=FnD.ok (F:=sL25Leaves_F) (cs:=sL25Leaves_c) V_ok (kC sPeriodOf_k (kC sChainAccounts_k (kC sChainCommittee_k (kC sStateLeaves_k kN)))) Tryz.func122 (by decide) (by kernel_rfl)
noncomputable def sL25Heads_F:FnD:={f:=71,fn:=Tryz.f71,ps:=[pa TChain,pa (.int .i64)],rs:=[⟨(.sl THead),(.own 0 .sh),false⟩],joins:=[9],cuts:=[(9,[.val 1 (.int .i64) .sh, .val 5 (.sl THead) (.own 0 .sh), .val 6 (.int .i64) .sh, .box 2 TChain .sh, .box 7 THead .sh, .box 8 THead .sh, .ptr 2 2 0, .ptr 7 7 0, .ptr 8 8 0]),(3,[.val 1 (.int .i64) .sh, .val 5 (.sl THead) (.own 0 .sh), .val 6 (.int .i64) .sh, .box 2 TChain .sh, .ptr 2 2 0])]}
noncomputable def sL25Heads_c:List (Nat×Sig):=[(118,sL25Start_g),(57,sDigest_g),(119,sDecimal_g),(120,sHeadRoot_g),(122,sL25Leaves_g),(121,sRootOf_g)]
noncomputable def sL25Heads_d:tChain×Int×Unit→Option (((List tHead)×Unit)×Unit):=sL25Heads_F.d V sL25Heads_c
noncomputable abbrev sL25Heads_g:Sig:=sL25Heads_F.t.sig sL25Heads_d
noncomputable def sL25Heads_D9:Int× (List tHead)×Int×tChain×tHead×tHead×Unit→Option (((List tHead)×Unit)×Unit):=sL25Heads_F.D V sL25Heads_c 9
noncomputable def sL25Heads_D3:Int× (List tHead)×Int×tChain×Unit→Option (((List tHead)×Unit)×Unit):=sL25Heads_F.D V sL25Heads_c 3
theorem sL25Heads_b (x1:tChain) (x2:Int):sL25Heads_d (x1,(x2,()))=bnd (sL25Start_d ()) (fun r2=>(sL25Heads_D3 (x2,((r2.1.1::([]:List tHead)),(0,(x1,())))))):=(FnD.eq V sL25Heads_c sL25Heads_F (x1,(x2,()))).trans (by kernel_rfl)
theorem sL25Heads_q9 (x1:Int) (x2:(List tHead)) (x3:Int) (x4:tChain) (x5:tHead) (x6:tHead):sL25Heads_D9 (x1,(x2,(x3,(x4,(x5,(x6,()))))))=bnd (sL25Leaves_d (x4,(x3,(x5,())))) (fun r6=>(bnd (sRootOf_d (r6.1.1,())) (fun r7=>(cnd (fits ((len x2)+(len ((x6.1,(x6.2.1,(r7.1.1,x6.2.2.2)))::([]:List tHead)))) 4) (sL25Heads_D3 (x1,((app x2 ((x6.1,(x6.2.1,(r7.1.1,x6.2.2.2)))::([]:List tHead))),((iadd .i64 x3 1),(x4,()))))) none)))):=(FnD.eqC V sL25Heads_c sL25Heads_F 9 (x1,(x2,(x3,(x4,(x5,(x6,()))))))).trans (by kernel_rfl)
theorem sL25Heads_q3 (x1:Int) (x2:(List tHead)) (x3:Int) (x4:tChain):sL25Heads_D3 (x1,(x2,(x3,(x4,()))))=cnd (ile x3 x1) (cnd (inb x3 (len x2)) (bnd (sDigest_d ((bs []),())) (fun r4=>(bnd (sDecimal_d (x3,())) (fun r5=>(bnd (sDigest_d (r5.1.1,())) (fun r6=>(cnd (igt x3 0) (bnd (sHeadRoot_d ((rd zHead x2 x3),())) (fun r7=>(sL25Heads_D9 (x1,(x2,(x3,(x4,((rd zHead x2 x3),(((iadd .i64 (imul .i64 4 x3) 1),(r7.1.1,((bs []),(r6.1.1,())))),()))))))))) (sL25Heads_D9 (x1,(x2,(x3,(x4,((rd zHead x2 x3),(((iadd .i64 (imul .i64 4 x3) 1),(r4.1.1,((bs []),(r6.1.1,())))),())))))))))))))) none) (some ((x2,()),())):=(FnD.eqC V sL25Heads_c sL25Heads_F 3 (x1,(x2,(x3,(x4,()))))).trans (by kernel_rfl)
theorem sL25Heads_k:CallsOk Tryz.prog gls gvs 71 sL25Heads_g:=FnD.ok (F:=sL25Heads_F) (cs:=sL25Heads_c) V_ok (kC sL25Start_k (kC sDigest_k (kC sDecimal_k (kC sHeadRoot_k (kC sL25Leaves_k (kC sRootOf_k kN)))))) Tryz.func71 (by decide) (by kernel_rfl)
noncomputable def sBranchOf_F:FnD:={f:=115,fn:=Tryz.f115,ps:=[pa (.sl .str),pa (.int .i64)],rs:=[⟨(.sl .str),(.own 0 .sh),false⟩],cuts:=[(5,[.val 1 (.int .i64) .sh, .val 5 (.sl .str) (.own 0 .sh), .val 6 (.sl .str) (.own 0 .sh)])]}
noncomputable def sBranchOf_c:List (Nat×Sig):=[(51,sL01In_g),(157,sL10Hashes_g),(158,sL10Up_g)]
noncomputable def sBranchOf_d:(List ByteArray)×Int×Unit→Option (((List ByteArray)×Unit)×Unit):=sBranchOf_F.d V sBranchOf_c
noncomputable abbrev sBranchOf_g:Sig:=sBranchOf_F.t.sig sBranchOf_d
noncomputable def sBranchOf_D5:Int× (List ByteArray)× (List ByteArray)×Unit→Option (((List ByteArray)×Unit)×Unit):=sBranchOf_F.D V sBranchOf_c 5
theorem sBranchOf_b (x1:(List ByteArray)) (x2:Int):sBranchOf_d (x1,(x2,()))=cnd (igt (len x1) 32) (some ((([]:List ByteArray),()),())) (bnd (sL01In_d (x2,(0,((isub .i64 (len x1) 1),())))) (fun r2=>(cnd (bnot r2.1.1) (some ((([]:List ByteArray),()),())) (bnd (sL10Hashes_d (x1,())) (fun r3=>(sBranchOf_D5 (x2,(([]:List ByteArray),(r3.1.1,()))))))))):=(FnD.eq V sBranchOf_c sBranchOf_F (x1,(x2,()))).trans (by kernel_rfl)
theorem sBranchOf_q5 (x1:Int) (x2:(List ByteArray)) (x3:(List ByteArray)):sBranchOf_D5 (x1,(x2,(x3,())))=cnd (igt (len x3) 1) (cnd (inb (ixor .i64 x1 1) (len x3)) (cnd (fits ((len x2)+(len ((rd (bs []) x3 (ixor .i64 x1 1))::([]:List ByteArray)))) 1) (bnd (sL10Up_d (x3,())) (fun r3=>(cnd (nz 2) (sBranchOf_D5 ((iquo .i64 x1 2),((app x2 ((rd (bs []) x3 (ixor .i64 x1 1))::([]:List ByteArray))),(r3.1.1,())))) none))) none) none) (some ((x2,()),())):=(FnD.eqC V sBranchOf_c sBranchOf_F 5 (x1,(x2,(x3,())))).trans (by kernel_rfl)
theorem sBranchOf_k:CallsOk Tryz.prog gls gvs 115 sBranchOf_g:=FnD.ok (F:=sBranchOf_F) (cs:=sBranchOf_c) V_ok (kC sL01In_k (kC sL10Hashes_k (kC sL10Up_k kN))) Tryz.func115 (by decide) (by kernel_rfl)
noncomputable def sReadPrefix_F:FnD:={f:=111,fn:=Tryz.f111,ps:=[pa .str],rs:=[⟨(.sl (.int .i64)),(.own 0 .sh),false⟩,rt .bool,rt .bool],joins:=[8],cuts:=[(8,[.val 0 .str .sh, .val 5 (.sl (.int .i64)) (.own 0 .sh), .val 6 .bool .sh, .val 7 (.sl (.int .i64)) (.own 0 .sh)])]}
noncomputable def sReadPrefix_c:List (Nat×Sig):=[(62,sNibblesOf_g),(102,sPrefixText_g)]
noncomputable def sReadPrefix_d:ByteArray×Unit→Option (((List Int)×Bool×Bool×Unit)×Unit):=sReadPrefix_F.d V sReadPrefix_c
noncomputable abbrev sReadPrefix_g:Sig:=sReadPrefix_F.t.sig sReadPrefix_d
noncomputable def sReadPrefix_D8:ByteArray× (List Int)×Bool× (List Int)×Unit→Option (((List Int)×Bool×Bool×Unit)×Unit):=sReadPrefix_F.D V sReadPrefix_c 8
theorem sReadPrefix_b (x1:ByteArray):sReadPrefix_d (x1,())=cnd (seq x1 (bs [])) (some ((([]:List Int),(false,(false,()))),())) (cnd (inb 0 (ssz x1)) (cnd (ige (sat x1 0) 64) (some ((([]:List Int),(false,(false,()))),())) (cnd (igt (ssz x1) 40) (some ((([]:List Int),(false,(false,()))),())) (cnd (inb 0 (ssz x1)) (cnd (inb 0 (ssz x1)) (cnd (nz 16) (cnd (nz 2) (cnd (ieq (irem (iquo .u8 (sat x1 0) 16) 2) 1) (cnd (inb 0 (ssz x1)) (cnd (nz 16) (cnd (fits ((len ([]:List Int))+(len ((irem (iconv .i64 (sat x1 0)) 16)::([]:List Int)))) 1) (sReadPrefix_D8 (x1,(([]:List Int),((ige (sat x1 0) 32),((app ([]:List Int) ((irem (iconv .i64 (sat x1 0)) 16)::([]:List Int))),()))))) none) none) none) (sReadPrefix_D8 (x1,(([]:List Int),((ige (sat x1 0) 32),(([]:List Int),())))))) none) none) none) none))) none):=(FnD.eq V sReadPrefix_c sReadPrefix_F (x1,())).trans (by kernel_rfl)
theorem sReadPrefix_q8 (x1:ByteArray) (x2:(List Int)) (x3:Bool) (x4:(List Int)):sReadPrefix_D8 (x1,(x2,(x3,(x4,()))))=cnd (inb2 1 (ssz x1) (ssz x1)) (bnd (sNibblesOf_d ((ssub x1 1 (ssz x1)),())) (fun r4=>(cnd (fits ((len x4)+(len r4.1.1)) 1) (bnd (sPrefixText_d ((app x4 r4.1.1),(x3,()))) (fun r5=>(cnd (bnot r5.1.2.1) (some ((x2,(false,(false,()))),())) (cnd (sne r5.1.1 x1) (some ((x2,(false,(false,()))),())) (some (((app x4 r4.1.1),(x3,(true,()))),())))))) none))) none:=(FnD.eqC V sReadPrefix_c sReadPrefix_F 8 (x1,(x2,(x3,(x4,()))))).trans (by kernel_rfl)
theorem sReadPrefix_k:CallsOk Tryz.prog gls gvs 111 sReadPrefix_g:=FnD.ok (F:=sReadPrefix_F) (cs:=sReadPrefix_c) V_ok (kC sNibblesOf_k (kC sPrefixText_k kN)) Tryz.func111 (by decide) (by kernel_rfl)
noncomputable def sL19Next_F:FnD:={f:=64,fn:=Tryz.f64,ps:=[pa .item,pa (.sl (.int .i64))],rs:=[rt .item,rt (.int .i64),rt (.int .i64)],al:=true,joins:=[18],cuts:=[(18,[.val 9 .bool .sh, .val 11 (.int .i64) .sh, .box 2 .item .sh, .box 4 .item (.own 0 .sh), .ptr 2 2 0, .ptr 4 4 0])]}
noncomputable def sL19Next_c:List (Nat×Sig):=[(111,sReadPrefix_g),(101,sCommon_g)]
noncomputable def sL19Next_d:ItemT× (List Int)×Unit→Option ((ItemT×Int×Int×Unit)×Unit):=sL19Next_F.d V sL19Next_c
noncomputable abbrev sL19Next_g:Sig:=sL19Next_F.t.sig sL19Next_d
noncomputable def sL19Next_D18:Bool×Int×ItemT×ItemT×Unit→Option ((ItemT×Int×Int×Unit)×Unit):=sL19Next_F.D V sL19Next_c 18
theorem sL19Next_b (x1:ItemT) (x2:(List Int)):sL19Next_d (x1,(x2,()))=cnd (bnot x1.l) (some ((x1,(0,(3,()))),())) (cnd (ieq (len x1.k) 17) (cnd (ieq (len x2) 0) (some ((x1,(0,(1,()))),())) (cnd (inb 0 (len x2)) (cnd (inb (rd 0 x2 0) (len x1.k)) (cnd (bnot (rd (ItemT.mk false (bs []) ([]:List ItemT)) x1.k (rd 0 x2 0)).l) (cnd (seq (rd (ItemT.mk false (bs []) ([]:List ItemT)) x1.k (rd 0 x2 0)).s (bs [])) (some (((rd (ItemT.mk false (bs []) ([]:List ItemT)) x1.k (rd 0 x2 0)),(1,(1,()))),())) (some (((rd (ItemT.mk false (bs []) ([]:List ItemT)) x1.k (rd 0 x2 0)),(1,(0,()))),()))) (some (((rd (ItemT.mk false (bs []) ([]:List ItemT)) x1.k (rd 0 x2 0)),(1,(0,()))),()))) none) none)) (cnd (ine (len x1.k) 2) (some ((x1,(0,(3,()))),())) (cnd (inb 0 (len x1.k)) (cnd (rd (ItemT.mk false (bs []) ([]:List ItemT)) x1.k 0).l (some ((x1,(0,(3,()))),())) (cnd (inb 0 (len x1.k)) (bnd (sReadPrefix_d ((rd (ItemT.mk false (bs []) ([]:List ItemT)) x1.k 0).s,())) (fun r2=>(cnd (bnot r2.1.2.2.1) (some ((x1,(0,(3,()))),())) (bnd (sCommon_d (r2.1.1,(x2,()))) (fun r3=>(cnd (ilt r3.1.1 (len r2.1.1)) (some ((x1,(r3.1.1,(1,()))),())) (cnd r2.1.2.1 (cnd (igt (len x2) r3.1.1) (some ((x1,(r3.1.1,(1,()))),())) (sL19Next_D18 (r2.1.2.1,(r3.1.1,(x1,((ItemT.mk false (bs []) ([]:List ItemT)),())))))) (sL19Next_D18 (r2.1.2.1,(r3.1.1,(x1,((ItemT.mk false (bs []) ([]:List ItemT)),())))))))))))) none)) none))):=(FnD.eq V sL19Next_c sL19Next_F (x1,(x2,()))).trans (by kernel_rfl)
theorem sL19Next_q18 (x1:Bool) (x2:Int) (x3:ItemT) (x4:ItemT):sL19Next_D18 (x1,(x2,(x3,(x4,()))))=cnd x1 (cnd (inb 1 (len x3.k)) (cnd (rd (ItemT.mk false (bs []) ([]:List ItemT)) x3.k 1).l (some ((x3,(x2,(3,()))),())) (cnd (inb 1 (len x3.k)) (some (((rd (ItemT.mk false (bs []) ([]:List ItemT)) x3.k 1),(x2,(2,()))),())) none)) none) (cnd (inb 1 (len x3.k)) (some (((rd (ItemT.mk false (bs []) ([]:List ItemT)) x3.k 1),(x2,(0,()))),())) none):=(FnD.eqC V sL19Next_c sL19Next_F 18 (x1,(x2,(x3,(x4,()))))).trans (by kernel_rfl)
theorem sL19Next_k:CallsOk Tryz.prog gls gvs 64 sL19Next_g:=FnD.ok (F:=sL19Next_F) (cs:=sL19Next_c) V_ok (kC sReadPrefix_k (kC sCommon_k kN)) Tryz.func64 (by decide) (by kernel_rfl)
noncomputable def sProveTrie_F:FnD:={f:=60,fn:=Tryz.f60,ps:=[pa (.sl TPair),pa .str],rs:=[⟨(.sl .str),(.own 0 .sh),false⟩],joins:=[12],fz:=[1000000013007010,1000000013008010,1000000013008011,1000054,15500010],cuts:=[(12,[.val 5 (.sl .str) (.own 0 .sh), .val 6 (.sl TPair) .sh, .val 7 (.int .i64) .sh, .val 8 (.sl (.int .i64)) .sh, .box 10 .item (.own 0 .sh), .ptr 10 10 0]),(18,[.val 5 (.sl .str) (.own 0 .sh), .val 6 (.sl TPair) .sh, .val 7 (.int .i64) .sh, .val 8 (.sl (.int .i64)) .sh, .val 9 .bool .sh, .val 14 (.int .i64) .sh, .val 16 (.sl TPair) (.own 0 .sh), .val 17 (.int .i64) .sh]),(8,[.val 5 (.sl .str) (.own 0 .sh), .val 6 (.sl TPair) .sh, .val 7 (.int .i64) .sh, .val 8 (.sl (.int .i64)) .sh, .val 9 .bool .sh])]}
noncomputable def sProveTrie_c:List (Nat×Sig):=[(50,sPairsOk_g),(62,sNibblesOf_g),(54,sL19Item_g),(55,sItemText_g),(64,sL19Next_g),(101,sCommon_g)]
noncomputable def sProveTrie_d:(List tPair)×ByteArray×Unit→Option (((List ByteArray)×Unit)×Unit):=sProveTrie_F.d V sProveTrie_c
noncomputable abbrev sProveTrie_g:Sig:=sProveTrie_F.t.sig sProveTrie_d
noncomputable def sProveTrie_D12:(List ByteArray)× (List tPair)×Int× (List Int)×ItemT×Unit→Option (((List ByteArray)×Unit)×Unit):=sProveTrie_F.D V sProveTrie_c 12
noncomputable def sProveTrie_D18:(List ByteArray)× (List tPair)×Int× (List Int)×Bool×Int× (List tPair)×Int×Unit→Option (((List ByteArray)×Unit)×Unit):=sProveTrie_F.D V sProveTrie_c 18
noncomputable def sProveTrie_D8:(List ByteArray)× (List tPair)×Int× (List Int)×Bool×Unit→Option (((List ByteArray)×Unit)×Unit):=sProveTrie_F.D V sProveTrie_c 8
theorem sProveTrie_b (x1:(List tPair)) (x2:ByteArray):sProveTrie_d (x1,(x2,()))=bnd (sPairsOk_d (x1,())) (fun r2=>(cnd (bnot r2.1.1) (some ((([]:List ByteArray),()),())) (cnd (ine (ssz x2) 4) (some ((([]:List ByteArray),()),())) (bnd (sNibblesOf_d (x2,())) (fun r3=>(sProveTrie_D8 (([]:List ByteArray),(x1,(0,(r3.1.1,(true,()))))))))))):=(FnD.eq V sProveTrie_c sProveTrie_F (x1,(x2,()))).trans (by kernel_rfl)
theorem sProveTrie_q12 (x1:(List ByteArray)) (x2:(List tPair)) (x3:Int) (x4:(List Int)) (x5:ItemT):sProveTrie_D12 (x1,(x2,(x3,(x4,(x5,())))))=cnd (inb2 x3 (len x4) (len x4)) (bnd (sL19Next_d (x5,((sub x4 x3 (len x4)),()))) (fun r5=>(cnd (ine r5.1.2.2.1 0) (some ((x1,()),())) (sProveTrie_D18 (x1,(x2,(x3,(x4,(false,(r5.1.2.1,(([]:List tPair),(0,())))))))))))) none:=(FnD.eqC V sProveTrie_c sProveTrie_F 12 (x1,(x2,(x3,(x4,(x5,())))))).trans (by kernel_rfl)
theorem sProveTrie_q18 (x1:(List ByteArray)) (x2:(List tPair)) (x3:Int) (x4:(List Int)) (x5:Bool) (x6:Int) (x7:(List tPair)) (x8:Int):sProveTrie_D18 (x1,(x2,(x3,(x4,(x5,(x6,(x7,(x8,()))))))))=cnd (ilt x8 (len x2)) (cnd (inb x8 (len x2)) (bnd (sNibblesOf_d ((rd zPair x2 x8).1,())) (fun r8=>(bnd (sCommon_d (r8.1.1,(x4,()))) (fun r9=>(cnd (ige r9.1.1 (iadd .i64 x3 x6)) (cnd (inb x8 (len x2)) (cnd (fits ((len x7)+(len ((rd zPair x2 x8)::([]:List tPair)))) 2) (sProveTrie_D18 (x1,(x2,(x3,(x4,(x5,(x6,((app x7 ((rd zPair x2 x8)::([]:List tPair))),((iadd .i64 x8 1),()))))))))) none) none) (sProveTrie_D18 (x1,(x2,(x3,(x4,(x5,(x6,(x7,((iadd .i64 x8 1),())))))))))))))) none) (sProveTrie_D8 (x1,(x7,((iadd .i64 x3 x6),(x4,(x5,())))))):=(FnD.eqC V sProveTrie_c sProveTrie_F 18 (x1,(x2,(x3,(x4,(x5,(x6,(x7,(x8,()))))))))).trans (by kernel_rfl)
theorem sProveTrie_q8 (x1:(List ByteArray)) (x2:(List tPair)) (x3:Int) (x4:(List Int)) (x5:Bool):sProveTrie_D8 (x1,(x2,(x3,(x4,(x5,())))))=bnd (sL19Item_d (x2,(x3,()))) (fun r5=>(bnd (sItemText_d (r5.1.1,())) (fun r6=>(cnd x5 (cnd (fits ((len x1)+(len (r6.1.1::([]:List ByteArray)))) 1) (sProveTrie_D12 ((app x1 (r6.1.1::([]:List ByteArray))),(x2,(x3,(x4,(r5.1.1,())))))) none) (cnd (ige (ssz r6.1.1) 32) (cnd (fits ((len x1)+(len (r6.1.1::([]:List ByteArray)))) 1) (sProveTrie_D12 ((app x1 (r6.1.1::([]:List ByteArray))),(x2,(x3,(x4,(r5.1.1,())))))) none) (sProveTrie_D12 (x1,(x2,(x3,(x4,(r5.1.1,()))))))))))):=(FnD.eqC V sProveTrie_c sProveTrie_F 8 (x1,(x2,(x3,(x4,(x5,())))))).trans (by kernel_rfl)
theorem sProveTrie_k:CallsOk Tryz.prog gls gvs 60 sProveTrie_g:=FnD.ok (F:=sProveTrie_F) (cs:=sProveTrie_c) V_ok (kC sPairsOk_k (kC sNibblesOf_k (kC sL19Item_k (kC sItemText_k (kC sL19Next_k (kC sCommon_k kN)))))) Tryz.func60 (by decide) (by kernel_rfl)
noncomputable def sMakeAsk_F:FnD:={f:=68,fn:=Tryz.f68,ps:=[pa (.sl TAccount),pa TCommittee,pa TCommittee,pa THead,pa .str,pa .str],rs:=[⟨TAsk,(.pr .sh (.pr .sh (.pr .sh (.pr .sh (.pr .sh (.pr (.own 0 .sh) .sh)))))),false⟩],al:=true,fz:=[1000030,1000027],cuts:=[(4,[.val 0 (.sl TAccount) .sh, .val 4 .str .sh, .val 5 .str .sh, .val 15 (.int .i64) .sh, .box 12 TAsk (.pr .sh (.pr .sh (.pr .sh (.pr (.own 0 .sh) (.pr (.own 0 .sh) (.pr (.own 0 .sh) .sh)))))), .box 14 TAsk (.pr .sh (.pr .sh (.pr .sh (.pr .sh (.pr .sh (.pr (.own 0 .sh) .sh)))))), .ptr 12 12 0, .ptr 14 14 0])]}
noncomputable def sMakeAsk_c:List (Nat×Sig):=[(114,sStateTrie_g),(18,sTrieRoot_g),(116,sStateLeaves_g),(115,sBranchOf_g),(60,sProveTrie_g)]
noncomputable def sMakeAsk_d:(List tAccount)×tCommittee×tCommittee×tHead×ByteArray×ByteArray×Unit→Option ((tAsk×Unit)×Unit):=sMakeAsk_F.d V sMakeAsk_c
noncomputable abbrev sMakeAsk_g:Sig:=sMakeAsk_F.t.sig sMakeAsk_d
noncomputable def sMakeAsk_D4:(List tAccount)×ByteArray×ByteArray×Int×tAsk×tAsk×Unit→Option ((tAsk×Unit)×Unit):=sMakeAsk_F.D V sMakeAsk_c 4
theorem sMakeAsk_b (x1:(List tAccount)) (x2:tCommittee) (x3:tCommittee) (x4:tHead) (x5:ByteArray) (x6:ByteArray):sMakeAsk_d (x1,(x2,(x3,(x4,(x5,(x6,()))))))=bnd (sStateTrie_d (x1,())) (fun r6=>(bnd (sTrieRoot_d (r6.1.1,())) (fun r7=>(bnd (sStateLeaves_d (x1,(x2,(x3,(x4,()))))) (fun r8=>(bnd (sBranchOf_d (r8.1.1,(0,()))) (fun r9=>(bnd (sProveTrie_d (r6.1.1,(x5,()))) (fun r10=>(sMakeAsk_D4 (x1,(x5,(x6,(0,(zAsk,((x5,(x6,(r7.1.1,(r9.1.1,(r10.1.1,(([]:List ByteArray),())))))),())))))))))))))))):=(FnD.eq V sMakeAsk_c sMakeAsk_F (x1,(x2,(x3,(x4,(x5,(x6,()))))))).trans (by kernel_rfl)
theorem sMakeAsk_q4 (x1:(List tAccount)) (x2:ByteArray) (x3:ByteArray) (x4:Int) (x5:tAsk) (x6:tAsk):sMakeAsk_D4 (x1,(x2,(x3,(x4,(x5,(x6,()))))))=cnd (ilt x4 (len x1)) (cnd (inb x4 (len x1)) (cnd (seq (rd zAccount x1 x4).1 x2) (cnd (inb x4 (len x1)) (bnd (sProveTrie_d ((rd zAccount x1 x4).2.2.2.1,(x3,()))) (fun r6=>(some (((x6.1,(x6.2.1,(x6.2.2.1,(x6.2.2.2.1,(x6.2.2.2.2.1,(r6.1.1,x6.2.2.2.2.2.2)))))),()),())))) none) (sMakeAsk_D4 (x1,(x2,(x3,((iadd .i64 x4 1),(x5,(x6,())))))))) none) (some ((x6,()),())):=(FnD.eqC V sMakeAsk_c sMakeAsk_F 4 (x1,(x2,(x3,(x4,(x5,(x6,()))))))).trans (by kernel_rfl)
theorem sMakeAsk_k:CallsOk Tryz.prog gls gvs 68 sMakeAsk_g:=FnD.ok (F:=sMakeAsk_F) (cs:=sMakeAsk_c) V_ok (kC sStateTrie_k (kC sTrieRoot_k (kC sStateLeaves_k (kC sBranchOf_k (kC sProveTrie_k kN))))) Tryz.func68 (by decide) (by kernel_rfl)
noncomputable def sChainAsk_F:FnD:={f:=26,fn:=Tryz.f26,ps:=[pa TChain,pa (.int .i64),pa .str,pa .str],rs:=[⟨TAsk,(.pr .sh (.pr .sh (.pr .sh (.pr .sh (.pr .sh (.pr (.own 0 .sh) .sh)))))),false⟩],al:=true}
noncomputable def sChainAsk_c:List (Nat×Sig):=[(66,sChainOk_g),(51,sL01In_g),(67,sPeriodOf_g),(69,sChainAccounts_g),(70,sChainCommittee_g),(71,sL25Heads_g),(68,sMakeAsk_g)]
noncomputable def sChainAsk_d:tChain×Int×ByteArray×ByteArray×Unit→Option ((tAsk×Unit)×Unit):=sChainAsk_F.d V sChainAsk_c
noncomputable abbrev sChainAsk_g:Sig:=sChainAsk_F.t.sig sChainAsk_d
theorem sChainAsk_b (x1:tChain) (x2:Int) (x3:ByteArray) (x4:ByteArray):sChainAsk_d (x1,(x2,(x3,(x4,()))))=bnd (sChainOk_d (x1,())) (fun r4=>(cnd (bnot r4.1.1) (some ((zAsk,()),())) (bnd (sL01In_d (x2,(0,(6,())))) (fun r5=>(cnd (bnot r5.1.1) (some ((zAsk,()),())) (bnd (sPeriodOf_d ((iadd .i64 (imul .i64 4 x2) 1),())) (fun r6=>(bnd (sChainAccounts_d (x1,(x2,()))) (fun r7=>(bnd (sChainCommittee_d (x1,(r6.1.1,()))) (fun r8=>(bnd (sChainCommittee_d (x1,((iadd .i64 r6.1.1 1),()))) (fun r9=>(bnd (sL25Heads_d (x1,(x2,()))) (fun r10=>(cnd (inb x2 (len r10.1.1)) (bnd (sMakeAsk_d (r7.1.1,(r8.1.1,(r9.1.1,((rd zHead r10.1.1 x2),(x3,(x4,()))))))) (fun r11=>(some ((r11.1.1,()),())))) none)))))))))))))))):=(FnD.eq V sChainAsk_c sChainAsk_F (x1,(x2,(x3,(x4,()))))).trans (by kernel_rfl)
theorem sChainAsk_k:CallsOk Tryz.prog gls gvs 26 sChainAsk_g:=FnD.ok (F:=sChainAsk_F) (cs:=sChainAsk_c) V_ok (kC sChainOk_k (kC sL01In_k (kC sPeriodOf_k (kC sChainAccounts_k (kC sChainCommittee_k (kC sL25Heads_k (kC sMakeAsk_k kN))))))) Tryz.func26 (by decide) (by kernel_rfl)
noncomputable def iIsLink_F:FnD:={f:=73,fn:=Tryz.f73,ps:=[pa (.int .i64)],rs:=[rt .bool]}
noncomputable def iIsLink_c:List (Nat×Sig):=[]
noncomputable def iIsLink_d:Int×Unit→Option ((Bool×Unit)×Unit):=iIsLink_F.d V iIsLink_c
noncomputable abbrev iIsLink_g:Sig:=iIsLink_F.t.sig iIsLink_d
theorem iIsLink_b (x1:Int):iIsLink_d (x1,())=cnd (ige x1 0) (some (((ile x1 6),()),())) (some ((false,()),())):=(FnD.eq V iIsLink_c iIsLink_F (x1,())).trans (by kernel_rfl)
theorem iIsLink_k:CallsOk Tryz.prog gls gvs 73 iIsLink_g:=FnD.ok (F:=iIsLink_F) (cs:=iIsLink_c) V_ok kN Tryz.func73 (by decide) (by kernel_rfl)
noncomputable def iPairsOk_F:FnD:={f:=37,fn:=Tryz.f37,ps:=[pa (.sl TPair)],rs:=[rt .bool],cuts:=[(4,[.val 0 (.sl TPair) .sh, .val 8 (.sl TPair) .sh, .val 9 (.int .i64) .sh, .val 10 (.int .i64) .sh])]}
noncomputable def iPairsOk_c:List (Nat×Sig):=[]
noncomputable def iPairsOk_d:(List tPair)×Unit→Option ((Bool×Unit)×Unit):=iPairsOk_F.d V iPairsOk_c
noncomputable abbrev iPairsOk_g:Sig:=iPairsOk_F.t.sig iPairsOk_d
noncomputable def iPairsOk_D4:(List tPair)× (List tPair)×Int×Int×Unit→Option ((Bool×Unit)×Unit):=iPairsOk_F.D V iPairsOk_c 4
theorem iPairsOk_b (x1:(List tPair)):iPairsOk_d (x1,())=cnd (igt (len x1) 12) (some ((false,()),())) (iPairsOk_D4 (x1,(x1,((len x1),(0,()))))):=(FnD.eq V iPairsOk_c iPairsOk_F (x1,())).trans (by kernel_rfl)
theorem iPairsOk_q4 (x1:(List tPair)) (x2:(List tPair)) (x3:Int) (x4:Int):iPairsOk_D4 (x1,(x2,(x3,(x4,()))))=cnd (ilt x4 x3) (cnd (inb x4 (len x2)) (cnd (ine (ssz (rd zPair x2 x4).1) 4) (some ((false,()),())) (cnd (ilt (ssz (rd zPair x2 x4).2.1) 1) (some ((false,()),())) (cnd (igt (ssz (rd zPair x2 x4).2.1) 60) (some ((false,()),())) (cnd (igt x4 0) (cnd (inb (isub .i64 x4 1) (len x1)) (cnd (sge (rd zPair x1 (isub .i64 x4 1)).1 (rd zPair x2 x4).1) (some ((false,()),())) (iPairsOk_D4 (x1,(x2,(x3,((iadd .i64 x4 1),())))))) none) (iPairsOk_D4 (x1,(x2,(x3,((iadd .i64 x4 1),()))))))))) none) (some ((true,()),())):=(FnD.eqC V iPairsOk_c iPairsOk_F 4 (x1,(x2,(x3,(x4,()))))).trans (by kernel_rfl)
theorem iPairsOk_k:CallsOk Tryz.prog gls gvs 37 iPairsOk_g:=FnD.ok (F:=iPairsOk_F) (cs:=iPairsOk_c) V_ok kN Tryz.func37 (by decide) (by kernel_rfl)
noncomputable def iAccountsOk_F:FnD:={f:=124,fn:=Tryz.f124,ps:=[pa (.sl TAccount)],rs:=[rt .bool],joins:=[8],cuts:=[(8,[.val 0 (.sl TAccount) .sh, .val 8 (.sl TAccount) .sh, .val 9 (.int .i64) .sh, .val 10 (.int .i64) .sh, .val 20 (.int .i64) .sh, .val 21 .bool .sh, .val 22 .bool .sh, .val 32 .bool .sh, .box 4 TAccount .sh, .ptr 4 4 0]),(4,[.val 0 (.sl TAccount) .sh, .val 8 (.sl TAccount) .sh, .val 9 (.int .i64) .sh, .val 10 (.int .i64) .sh])]}
noncomputable def iAccountsOk_c:List (Nat×Sig):=[(37,iPairsOk_g)]
noncomputable def iAccountsOk_d:(List tAccount)×Unit→Option ((Bool×Unit)×Unit):=iAccountsOk_F.d V iAccountsOk_c
noncomputable abbrev iAccountsOk_g:Sig:=iAccountsOk_F.t.sig iAccountsOk_d
noncomputable def iAccountsOk_D8:(List tAccount)× (List tAccount)×Int×Int×Int×Bool×Bool×Bool×tAccount×Unit→Option ((Bool×Unit)×Unit):=iAccountsOk_F.D V iAccountsOk_c 8
noncomputable def iAccountsOk_D4:(List tAccount)× (List tAccount)×Int×Int×Unit→Option ((Bool×Unit)×Unit):=iAccountsOk_F.D V iAccountsOk_c 4
theorem iAccountsOk_b (x1:(List tAccount)):iAccountsOk_d (x1,())=cnd (igt (len x1) 12) (some ((false,()),())) (iAccountsOk_D4 (x1,(x1,((len x1),(0,()))))):=(FnD.eq V iAccountsOk_c iAccountsOk_F (x1,())).trans (by kernel_rfl)
theorem iAccountsOk_q8 (x1:(List tAccount)) (x2:(List tAccount)) (x3:Int) (x4:Int) (x5:Int) (x6:Bool) (x7:Bool) (x8:Bool) (x9:tAccount):iAccountsOk_D8 (x1,(x2,(x3,(x4,(x5,(x6,(x7,(x8,(x9,())))))))))=cnd (ilt x9.2.1 0) (some ((false,()),())) (cnd (igt x9.2.1 1000) (some ((false,()),())) (cnd (ilt x9.2.2.1 0) (some ((false,()),())) (cnd (igt x9.2.2.1 1000000000) (some ((false,()),())) (bnd (iPairsOk_d (x9.2.2.2.1,())) (fun r9=>(cnd (bnot r9.1.1) (some ((false,()),())) (iAccountsOk_D4 (x1,(x2,(x3,((iadd .i64 x4 1),()))))))))))):=(FnD.eqC V iAccountsOk_c iAccountsOk_F 8 (x1,(x2,(x3,(x4,(x5,(x6,(x7,(x8,(x9,())))))))))).trans (by kernel_rfl)
theorem iAccountsOk_q4 (x1:(List tAccount)) (x2:(List tAccount)) (x3:Int) (x4:Int):iAccountsOk_D4 (x1,(x2,(x3,(x4,()))))=cnd (ilt x4 x3) (cnd (inb x4 (len x2)) (cnd (ine (ssz (rd zAccount x2 x4).1) 4) (some ((false,()),())) (cnd (igt x4 0) (cnd (inb (isub .i64 x4 1) (len x1)) (cnd (sge (rd zAccount x1 (isub .i64 x4 1)).1 (rd zAccount x2 x4).1) (some ((false,()),())) (iAccountsOk_D8 (x1,(x2,(x3,(x4,(x4,((igt x4 0),(true,((sge (rd zAccount x1 (isub .i64 x4 1)).1 (rd zAccount x2 x4).1),((rd zAccount x2 x4),()))))))))))) none) (iAccountsOk_D8 (x1,(x2,(x3,(x4,(x4,((igt x4 0),(false,(false,((rd zAccount x2 x4),())))))))))))) none) (some ((true,()),())):=(FnD.eqC V iAccountsOk_c iAccountsOk_F 4 (x1,(x2,(x3,(x4,()))))).trans (by kernel_rfl)
theorem iAccountsOk_k:CallsOk Tryz.prog gls gvs 124 iAccountsOk_g:=FnD.ok (F:=iAccountsOk_F) (cs:=iAccountsOk_c) V_ok (kC iPairsOk_k kN) Tryz.func124 (by decide) (by kernel_rfl)
noncomputable def iChainOk_F:FnD:={f:=74,fn:=Tryz.f74,ps:=[pa TChain],rs:=[rt .bool]}
noncomputable def iChainOk_c:List (Nat×Sig):=[(124,iAccountsOk_g)]
noncomputable def iChainOk_d:tChain×Unit→Option ((Bool×Unit)×Unit):=iChainOk_F.d V iChainOk_c
noncomputable abbrev iChainOk_g:Sig:=iChainOk_F.t.sig iChainOk_d
theorem iChainOk_b (x1:tChain):iChainOk_d (x1,())=cnd (ige x1.1 0) (cnd (ile x1.1 99) (bnd (iAccountsOk_d (x1.2.1,())) (fun r1=>(some ((r1.1.1,()),())))) (some ((false,()),()))) (some ((false,()),())):=(FnD.eq V iChainOk_c iChainOk_F (x1,())).trans (by kernel_rfl)
theorem iChainOk_k:CallsOk Tryz.prog gls gvs 74 iChainOk_g:=FnD.ok (F:=iChainOk_F) (cs:=iChainOk_c) V_ok (kC iAccountsOk_k kN) Tryz.func74 (by decide) (by kernel_rfl)
noncomputable def iKeccakPad_F:FnD:={f:=95,fn:=Tryz.f95,ps:=[pa .str],rs:=[rt .str]}
noncomputable def iKeccakPad_c:List (Nat×Sig):=[(144,g_strings_Repeat_g)]
noncomputable def iKeccakPad_d:ByteArray×Unit→Option ((ByteArray×Unit)×Unit):=iKeccakPad_F.d V iKeccakPad_c
noncomputable abbrev iKeccakPad_g:Sig:=iKeccakPad_F.t.sig iKeccakPad_d
theorem iKeccakPad_b (x1:ByteArray):iKeccakPad_d (x1,())=cnd (nz 136) (cnd (fits ((ssz x1)+(ssz (bs [1]))) 1) (bnd (g_strings_Repeat_d ((bs [0]),((isub .i64 135 (irem (ssz x1) 136)),()))) (fun r1=>(cnd (fits ((ssz (scat x1 (bs [1])))+(ssz r1.1.1)) 1) (cnd (inb (isub .i64 (len (sbytes (scat (scat x1 (bs [1])) r1.1.1))) 1) (len (sbytes (scat (scat x1 (bs [1])) r1.1.1)))) (cnd (inb (isub .i64 (len (sbytes (scat (scat x1 (bs [1])) r1.1.1))) 1) (len (sbytes (scat (scat x1 (bs [1])) r1.1.1)))) (some (((sof (upd (sbytes (scat (scat x1 (bs [1])) r1.1.1)) (isub .i64 (len (sbytes (scat (scat x1 (bs [1])) r1.1.1))) 1) (ior .u8 (rd 0 (sbytes (scat (scat x1 (bs [1])) r1.1.1)) (isub .i64 (len (sbytes (scat (scat x1 (bs [1])) r1.1.1))) 1)) 128))),()),())) none) none) none))) none) none:=(FnD.eq V iKeccakPad_c iKeccakPad_F (x1,())).trans (by kernel_rfl)
theorem iKeccakPad_k:CallsOk Tryz.prog gls gvs 95 iKeccakPad_g:=FnD.ok (F:=iKeccakPad_F) (cs:=iKeccakPad_c) V_ok (kC g_strings_Repeat_k kN) Tryz.func95 (by decide) (by kernel_rfl)
noncomputable def iWordAt_F:FnD:={f:=96,fn:=Tryz.f96,ps:=[pa .str,pa (.int .i64)],rs:=[rt (.int .u64)],cuts:=[(3,[.val 0 .str .sh, .val 1 (.int .i64) .sh, .val 5 (.int .u64) .sh, .val 6 (.int .i64) .sh])]}
noncomputable def iWordAt_c:List (Nat×Sig):=[]
noncomputable def iWordAt_d:ByteArray×Int×Unit→Option ((Int×Unit)×Unit):=iWordAt_F.d V iWordAt_c
noncomputable abbrev iWordAt_g:Sig:=iWordAt_F.t.sig iWordAt_d
noncomputable def iWordAt_D3:ByteArray×Int×Int×Int×Unit→Option ((Int×Unit)×Unit):=iWordAt_F.D V iWordAt_c 3
theorem iWordAt_b (x1:ByteArray) (x2:Int):iWordAt_d (x1,(x2,()))=iWordAt_D3 (x1,(x2,(0,(7,())))):=(FnD.eq V iWordAt_c iWordAt_F (x1,(x2,()))).trans (by kernel_rfl)
theorem iWordAt_q3 (x1:ByteArray) (x2:Int) (x3:Int) (x4:Int):iWordAt_D3 (x1,(x2,(x3,(x4,()))))=cnd (ige x4 0) (cnd (nn 8) (cnd (inb (iadd .i64 x2 x4) (ssz x1)) (iWordAt_D3 (x1,(x2,((ior .u64 (ishl .u64 x3 8) (iconv .u64 (sat x1 (iadd .i64 x2 x4)))),((isub .i64 x4 1),()))))) none) none) (some ((x3,()),())):=(FnD.eqC V iWordAt_c iWordAt_F 3 (x1,(x2,(x3,(x4,()))))).trans (by kernel_rfl)
theorem iWordAt_k:CallsOk Tryz.prog gls gvs 96 iWordAt_g:=FnD.ok (F:=iWordAt_F) (cs:=iWordAt_c) V_ok kN Tryz.func96 (by decide) (by kernel_rfl)
noncomputable def g_math_bits_RotateLeft64_F:FnD:={f:=184,fn:=Tryz.f184,ps:=[pa (.int .u64),pa (.int .i64)],rs:=[rt (.int .u64)]}
noncomputable def g_math_bits_RotateLeft64_c:List (Nat×Sig):=[]
noncomputable def g_math_bits_RotateLeft64_d:Int×Int×Unit→Option ((Int×Unit)×Unit):=g_math_bits_RotateLeft64_F.d V g_math_bits_RotateLeft64_c
noncomputable abbrev g_math_bits_RotateLeft64_g:Sig:=g_math_bits_RotateLeft64_F.t.sig g_math_bits_RotateLeft64_d
theorem g_math_bits_RotateLeft64_b (x1:Int) (x2:Int):g_math_bits_RotateLeft64_d (x1,(x2,()))=cnd (nn (iand .u64 (iconv .u64 x2) 63)) (cnd (nn (isub .u64 64 (iand .u64 (iconv .u64 x2) 63))) (some (((ior .u64 (ishl .u64 x1 (iand .u64 (iconv .u64 x2) 63)) (ishr .u64 x1 (isub .u64 64 (iand .u64 (iconv .u64 x2) 63)))),()),())) none) none:=(FnD.eq V g_math_bits_RotateLeft64_c g_math_bits_RotateLeft64_F (x1,(x2,()))).trans (by kernel_rfl)
theorem g_math_bits_RotateLeft64_k:CallsOk Tryz.prog gls gvs 184 g_math_bits_RotateLeft64_g:=FnD.ok (F:=g_math_bits_RotateLeft64_F) (cs:=g_math_bits_RotateLeft64_c) V_ok kN Tryz.func184 (by decide) (by kernel_rfl)
noncomputable def iSponge_round_F:FnD:={f:=145,fn:=Tryz.f145,ps:=[⟨(.arr 25 (.int .u64)), .sh,true,true,none⟩,pa (.int .i64)],rs:=[],cuts:=[(2,[.val 1 (.int .i64) .sh, .val 12 (.int .i64) .sh, .box 0 (.arr 25 (.int .u64)) .sh, .box 4 (.arr 5 (.int .u64)) .sh, .ptr 0 0 0, .ptr 4 4 0]),(11,[.val 1 (.int .i64) .sh, .val 7 (.int .i64) .sh, .val 51 (.int .i64) .sh, .val 54 (.int .i64) .sh, .box 0 (.arr 25 (.int .u64)) .sh, .box 4 (.arr 5 (.int .u64)) .sh, .box 6 (.arr 25 (.int .u64)) .sh, .ptr 0 0 0, .ptr 4 4 0, .ptr 6 6 0]),(8,[.val 1 (.int .i64) .sh, .val 51 (.int .i64) .sh, .box 0 (.arr 25 (.int .u64)) .sh, .box 4 (.arr 5 (.int .u64)) .sh, .box 6 (.arr 25 (.int .u64)) .sh, .ptr 0 0 0, .ptr 4 4 0, .ptr 6 6 0]),(21,[.val 1 (.int .i64) .sh, .val 10 (.int .i64) .sh, .val 98 (.int .i64) .sh, .val 101 (.int .i64) .sh, .box 0 (.arr 25 (.int .u64)) .sh, .box 6 (.arr 25 (.int .u64)) .sh, .ptr 0 0 0, .ptr 6 6 0]),(18,[.val 1 (.int .i64) .sh, .val 98 (.int .i64) .sh, .box 0 (.arr 25 (.int .u64)) .sh, .box 6 (.arr 25 (.int .u64)) .sh, .ptr 0 0 0, .ptr 6 6 0])]}
noncomputable def iSponge_round_c:List (Nat×Sig):=[(184,g_math_bits_RotateLeft64_g)]
noncomputable def iSponge_round_d:(List Int)×Int×Unit→Option ((Unit)× (List Int)×Unit):=iSponge_round_F.d V iSponge_round_c
noncomputable abbrev iSponge_round_g:Sig:=iSponge_round_F.t.sig iSponge_round_d
noncomputable def iSponge_round_D2:Int×Int× (List Int)× (List Int)×Unit→Option ((Unit)× (List Int)×Unit):=iSponge_round_F.D V iSponge_round_c 2
noncomputable def iSponge_round_D11:Int×Int×Int×Int× (List Int)× (List Int)× (List Int)×Unit→Option ((Unit)× (List Int)×Unit):=iSponge_round_F.D V iSponge_round_c 11
noncomputable def iSponge_round_D8:Int×Int× (List Int)× (List Int)× (List Int)×Unit→Option ((Unit)× (List Int)×Unit):=iSponge_round_F.D V iSponge_round_c 8
noncomputable def iSponge_round_D21:Int×Int×Int×Int× (List Int)× (List Int)×Unit→Option ((Unit)× (List Int)×Unit):=iSponge_round_F.D V iSponge_round_c 21
noncomputable def iSponge_round_D18:Int×Int× (List Int)× (List Int)×Unit→Option ((Unit)× (List Int)×Unit):=iSponge_round_F.D V iSponge_round_c 18
theorem iSponge_round_b (x1:(List Int)) (x2:Int):iSponge_round_d (x1,(x2,()))=iSponge_round_D2 (x2,(0,(x1,((0::(0::(0::(0::(0::([]:List Int)))))),())))):=(FnD.eq V iSponge_round_c iSponge_round_F (x1,(x2,()))).trans (by kernel_rfl)
theorem iSponge_round_q2 (x1:Int) (x2:Int) (x3:(List Int)) (x4:(List Int)):iSponge_round_D2 (x1,(x2,(x3,(x4,()))))=cnd (ilt x2 5) (cnd (inb x2 25) (cnd (inb (iadd .i64 x2 5) 25) (cnd (inb (iadd .i64 x2 10) 25) (cnd (inb (iadd .i64 x2 15) 25) (cnd (inb (iadd .i64 x2 20) 25) (cnd (inb x2 5) (iSponge_round_D2 (x1,((iadd .i64 x2 1),(x3,((upd x4 x2 (ixor .u64 (ixor .u64 (ixor .u64 (ixor .u64 (rd 0 x3 x2) (rd 0 x3 (iadd .i64 x2 5))) (rd 0 x3 (iadd .i64 x2 10))) (rd 0 x3 (iadd .i64 x2 15))) (rd 0 x3 (iadd .i64 x2 20)))),()))))) none) none) none) none) none) none) (iSponge_round_D8 (x1,(0,(x3,(x4,((0::(0::(0::(0::(0::(0::(0::(0::(0::(0::(0::(0::(0::(0::(0::(0::(0::(0::(0::(0::(0::(0::(0::(0::(0::([]:List Int)))))))))))))))))))))))))),())))))):=(FnD.eqC V iSponge_round_c iSponge_round_F 2 (x1,(x2,(x3,(x4,()))))).trans (by kernel_rfl)
theorem iSponge_round_q11 (x1:Int) (x2:Int) (x3:Int) (x4:Int) (x5:(List Int)) (x6:(List Int)) (x7:(List Int)):iSponge_round_D11 (x1,(x2,(x3,(x4,(x5,(x6,(x7,())))))))=cnd (ilt x4 5) (cnd (nz 5) (cnd (inb (irem (iadd .i64 x4 4) 5) 5) (cnd (nz 5) (cnd (inb (irem (iadd .i64 x4 1) 5) 5) (bnd (g_math_bits_RotateLeft64_d ((rd 0 x6 (irem (iadd .i64 x4 1) 5)),(1,()))) (fun r7=>(cnd (nz 5) (cnd (inb (iadd .i64 x4 (imul .i64 5 x2)) 25) (cnd (inb (iadd .i64 x4 (imul .i64 5 x2)) 25) (bnd (g_math_bits_RotateLeft64_d ((ixor .u64 (rd 0 x5 (iadd .i64 x4 (imul .i64 5 x2))) (ixor .u64 (rd 0 x6 (irem (iadd .i64 x4 4) 5)) r7.1.1)),((rd 0 G_impl_turns (iadd .i64 x4 (imul .i64 5 x2))),()))) (fun r8=>(cnd (inb (iadd .i64 x2 (imul .i64 5 (irem (iadd .i64 (imul .i64 2 x4) (imul .i64 3 x2)) 5))) 25) (iSponge_round_D11 (x1,(x2,(x3,((iadd .i64 x4 1),(x5,(x6,((upd x7 (iadd .i64 x2 (imul .i64 5 (irem (iadd .i64 (imul .i64 2 x4) (imul .i64 3 x2)) 5))) r8.1.1),())))))))) none))) none) none) none))) none) none) none) none) (iSponge_round_D8 (x1,((iadd .i64 x3 1),(x5,(x6,(x7,())))))):=(FnD.eqC V iSponge_round_c iSponge_round_F 11 (x1,(x2,(x3,(x4,(x5,(x6,(x7,())))))))).trans (by kernel_rfl)
theorem iSponge_round_q8 (x1:Int) (x2:Int) (x3:(List Int)) (x4:(List Int)) (x5:(List Int)):iSponge_round_D8 (x1,(x2,(x3,(x4,(x5,())))))=cnd (ilt x2 5) (iSponge_round_D11 (x1,(x2,(x2,(0,(x3,(x4,(x5,())))))))) (iSponge_round_D18 (x1,(0,(x3,(x5,()))))):=(FnD.eqC V iSponge_round_c iSponge_round_F 8 (x1,(x2,(x3,(x4,(x5,())))))).trans (by kernel_rfl)
theorem iSponge_round_q21 (x1:Int) (x2:Int) (x3:Int) (x4:Int) (x5:(List Int)) (x6:(List Int)):iSponge_round_D21 (x1,(x2,(x3,(x4,(x5,(x6,()))))))=cnd (ilt x4 5) (cnd (inb (iadd .i64 x4 (imul .i64 5 x2)) 25) (cnd (nz 5) (cnd (inb (iadd .i64 (irem (iadd .i64 x4 1) 5) (imul .i64 5 x2)) 25) (cnd (nz 5) (cnd (inb (iadd .i64 (irem (iadd .i64 x4 2) 5) (imul .i64 5 x2)) 25) (cnd (inb (iadd .i64 x4 (imul .i64 5 x2)) 25) (iSponge_round_D21 (x1,(x2,(x3,((iadd .i64 x4 1),((upd x5 (iadd .i64 x4 (imul .i64 5 x2)) (ixor .u64 (rd 0 x6 (iadd .i64 x4 (imul .i64 5 x2))) (iand .u64 (inot .u64 (rd 0 x6 (iadd .i64 (irem (iadd .i64 x4 1) 5) (imul .i64 5 x2)))) (rd 0 x6 (iadd .i64 (irem (iadd .i64 x4 2) 5) (imul .i64 5 x2)))))),(x6,()))))))) none) none) none) none) none) none) (iSponge_round_D18 (x1,((iadd .i64 x3 1),(x5,(x6,()))))):=(FnD.eqC V iSponge_round_c iSponge_round_F 21 (x1,(x2,(x3,(x4,(x5,(x6,()))))))).trans (by kernel_rfl)
theorem iSponge_round_q18 (x1:Int) (x2:Int) (x3:(List Int)) (x4:(List Int)):iSponge_round_D18 (x1,(x2,(x3,(x4,()))))=cnd (ilt x2 5) (iSponge_round_D21 (x1,(x2,(x2,(0,(x3,(x4,()))))))) (cnd (inb 0 25) (cnd (inb x1 24) (cnd (inb 0 25) (some ((),((upd x3 0 (ixor .u64 (rd 0 x3 0) (rd 0 G_impl_roundConstants x1))),()))) none) none) none):=(FnD.eqC V iSponge_round_c iSponge_round_F 18 (x1,(x2,(x3,(x4,()))))).trans (by kernel_rfl)
theorem iSponge_round_k:CallsOk Tryz.prog gls gvs 145 iSponge_round_g:=FnD.ok (F:=iSponge_round_F) (cs:=iSponge_round_c) V_ok (kC g_math_bits_RotateLeft64_k kN) Tryz.func145 (by decide) (by kernel_rfl)
noncomputable def iSponge_rounds_F:FnD:={f:=97,fn:=Tryz.f97,ps:=[⟨(.arr 25 (.int .u64)), .sh,true,true,none⟩],rs:=[],cuts:=[(1,[.val 3 (.int .i64) .sh, .box 0 (.arr 25 (.int .u64)) .sh, .ptr 0 0 0])]}
noncomputable def iSponge_rounds_c:List (Nat×Sig):=[(145,iSponge_round_g)]
noncomputable def iSponge_rounds_d:(List Int)×Unit→Option ((Unit)× (List Int)×Unit):=iSponge_rounds_F.d V iSponge_rounds_c
noncomputable abbrev iSponge_rounds_g:Sig:=iSponge_rounds_F.t.sig iSponge_rounds_d
noncomputable def iSponge_rounds_D1:Int× (List Int)×Unit→Option ((Unit)× (List Int)×Unit):=iSponge_rounds_F.D V iSponge_rounds_c 1
theorem iSponge_rounds_b (x1:(List Int)):iSponge_rounds_d (x1,())=iSponge_rounds_D1 (0,(x1,())):=(FnD.eq V iSponge_rounds_c iSponge_rounds_F (x1,())).trans (by kernel_rfl)
theorem iSponge_rounds_q1 (x1:Int) (x2:(List Int)):iSponge_rounds_D1 (x1,(x2,()))=cnd (ilt x1 24) (bnd (iSponge_round_d (x2,(x1,()))) (fun r2=>(iSponge_rounds_D1 ((iadd .i64 x1 1),(r2.2.1,()))))) (some ((),(x2,()))):=(FnD.eqC V iSponge_rounds_c iSponge_rounds_F 1 (x1,(x2,()))).trans (by kernel_rfl)
theorem iSponge_rounds_k:CallsOk Tryz.prog gls gvs 97 iSponge_rounds_g:=FnD.ok (F:=iSponge_rounds_F) (cs:=iSponge_rounds_c) V_ok (kC iSponge_round_k kN) Tryz.func97 (by decide) (by kernel_rfl)
noncomputable def iWordBytes_F:FnD:={f:=146,fn:=Tryz.f146,ps:=[⟨(.sl (.int .u8)),(.own 0 .sh),false,false,none⟩,pa (.int .u64)],rs:=[⟨(.sl (.int .u8)),(.own 0 .sh),false⟩],cuts:=[(2,[.val 0 (.sl (.int .u8)) (.own 0 .sh), .val 1 (.int .u64) .sh, .val 5 (.int .i64) .sh])]}
noncomputable def iWordBytes_c:List (Nat×Sig):=[]
noncomputable def iWordBytes_d:(List Int)×Int×Unit→Option (((List Int)×Unit)×Unit):=iWordBytes_F.d V iWordBytes_c
noncomputable abbrev iWordBytes_g:Sig:=iWordBytes_F.t.sig iWordBytes_d
noncomputable def iWordBytes_D2:(List Int)×Int×Int×Unit→Option (((List Int)×Unit)×Unit):=iWordBytes_F.D V iWordBytes_c 2
theorem iWordBytes_b (x1:(List Int)) (x2:Int):iWordBytes_d (x1,(x2,()))=iWordBytes_D2 (x1,(x2,(0,()))):=(FnD.eq V iWordBytes_c iWordBytes_F (x1,(x2,()))).trans (by kernel_rfl)
theorem iWordBytes_q2 (x1:(List Int)) (x2:Int) (x3:Int):iWordBytes_D2 (x1,(x2,(x3,())))=cnd (ilt x3 8) (cnd (fits ((len x1)+(len ((iconv .u8 x2)::([]:List Int)))) 1) (cnd (nn 8) (iWordBytes_D2 ((app x1 ((iconv .u8 x2)::([]:List Int))),((ishr .u64 x2 8),((iadd .i64 x3 1),())))) none) none) (some ((x1,()),())):=(FnD.eqC V iWordBytes_c iWordBytes_F 2 (x1,(x2,(x3,())))).trans (by kernel_rfl)
theorem iWordBytes_k:CallsOk Tryz.prog gls gvs 146 iWordBytes_g:=FnD.ok (F:=iWordBytes_F) (cs:=iWordBytes_c) V_ok kN Tryz.func146 (by decide) (by kernel_rfl)
noncomputable def iSponge_text_F:FnD:={f:=98,fn:=Tryz.f98,ps:=[⟨(.arr 25 (.int .u64)), .sh,true,true,none⟩],rs:=[rt .str],cuts:=[(3,[.val 3 (.sl (.int .u8)) (.own 0 .sh), .val 8 (.int .i64) .sh, .box 0 (.arr 25 (.int .u64)) .sh, .ptr 0 0 0, .ptr 7 0 0])]}
noncomputable def iSponge_text_c:List (Nat×Sig):=[(146,iWordBytes_g)]
noncomputable def iSponge_text_d:(List Int)×Unit→Option ((ByteArray×Unit)× (List Int)×Unit):=iSponge_text_F.d V iSponge_text_c
noncomputable abbrev iSponge_text_g:Sig:=iSponge_text_F.t.sig iSponge_text_d
noncomputable def iSponge_text_D3:(List Int)×Int× (List Int)×Unit→Option ((ByteArray×Unit)× (List Int)×Unit):=iSponge_text_F.D V iSponge_text_c 3
theorem iSponge_text_b (x1:(List Int)):iSponge_text_d (x1,())=cnd (both (inb2 0 0 200) (fits 200 1)) (iSponge_text_D3 ((rep 0 0),(0,(x1,())))) none:=(FnD.eq V iSponge_text_c iSponge_text_F (x1,())).trans (by kernel_rfl)
theorem iSponge_text_q3 (x1:(List Int)) (x2:Int) (x3:(List Int)):iSponge_text_D3 (x1,(x2,(x3,())))=cnd (ilt x2 25) (cnd (inb x2 25) (bnd (iWordBytes_d (x1,((rd 0 x3 x2),()))) (fun r3=>(iSponge_text_D3 (r3.1.1,((iadd .i64 x2 1),(x3,())))))) none) (some (((sof x1),()),(x3,()))):=(FnD.eqC V iSponge_text_c iSponge_text_F 3 (x1,(x2,(x3,())))).trans (by kernel_rfl)
theorem iSponge_text_k:CallsOk Tryz.prog gls gvs 98 iSponge_text_g:=FnD.ok (F:=iSponge_text_F) (cs:=iSponge_text_c) V_ok (kC iWordBytes_k kN) Tryz.func98 (by decide) (by kernel_rfl)
noncomputable def iDigest_F:FnD:={f:=44,fn:=Tryz.f44,ps:=[pa .str],rs:=[rt .str],cuts:=[(7,[.val 3 .str .sh, .val 5 (.int .i64) .sh, .val 15 (.int .i64) .sh, .box 4 (.arr 25 (.int .u64)) .sh, .ptr 4 4 0]),(4,[.val 3 .str .sh, .val 5 (.int .i64) .sh, .box 4 (.arr 25 (.int .u64)) .sh, .ptr 4 4 0])]}
noncomputable def iDigest_c:List (Nat×Sig):=[(95,iKeccakPad_g),(96,iWordAt_g),(97,iSponge_rounds_g),(98,iSponge_text_g)]
noncomputable def iDigest_d:ByteArray×Unit→Option ((ByteArray×Unit)×Unit):=iDigest_F.d V iDigest_c
noncomputable abbrev iDigest_g:Sig:=iDigest_F.t.sig iDigest_d
noncomputable def iDigest_D7:ByteArray×Int×Int× (List Int)×Unit→Option ((ByteArray×Unit)×Unit):=iDigest_F.D V iDigest_c 7
noncomputable def iDigest_D4:ByteArray×Int× (List Int)×Unit→Option ((ByteArray×Unit)×Unit):=iDigest_F.D V iDigest_c 4
theorem iDigest_b (x1:ByteArray):iDigest_d (x1,())=bnd (iKeccakPad_d (x1,())) (fun r1=>(iDigest_D4 (r1.1.1,(0,((0::(0::(0::(0::(0::(0::(0::(0::(0::(0::(0::(0::(0::(0::(0::(0::(0::(0::(0::(0::(0::(0::(0::(0::(0::([]:List Int)))))))))))))))))))))))))),()))))):=(FnD.eq V iDigest_c iDigest_F (x1,())).trans (by kernel_rfl)
theorem iDigest_q7 (x1:ByteArray) (x2:Int) (x3:Int) (x4:(List Int)):iDigest_D7 (x1,(x2,(x3,(x4,()))))=cnd (ilt x3 17) (cnd (inb x3 25) (bnd (iWordAt_d (x1,((iadd .i64 x2 (imul .i64 8 x3)),()))) (fun r4=>(cnd (inb x3 25) (iDigest_D7 (x1,(x2,((iadd .i64 x3 1),((upd x4 x3 (ixor .u64 (rd 0 x4 x3) r4.1.1)),()))))) none))) none) (bnd (iSponge_rounds_d (x4,())) (fun r4=>(iDigest_D4 (x1,((iadd .i64 x2 136),(r4.2.1,())))))):=(FnD.eqC V iDigest_c iDigest_F 7 (x1,(x2,(x3,(x4,()))))).trans (by kernel_rfl)
theorem iDigest_q4 (x1:ByteArray) (x2:Int) (x3:(List Int)):iDigest_D4 (x1,(x2,(x3,())))=cnd (ilt x2 (ssz x1)) (iDigest_D7 (x1,(x2,(0,(x3,()))))) (bnd (iSponge_text_d (x3,())) (fun r3=>(cnd (inb2 0 32 (ssz r3.1.1)) (some (((ssub r3.1.1 0 32),()),())) none))):=(FnD.eqC V iDigest_c iDigest_F 4 (x1,(x2,(x3,())))).trans (by kernel_rfl)
theorem iDigest_k:CallsOk Tryz.prog gls gvs 44 iDigest_g:=FnD.ok (F:=iDigest_F) (cs:=iDigest_c) V_ok (kC iKeccakPad_k (kC iWordAt_k (kC iSponge_rounds_k (kC iSponge_text_k kN)))) Tryz.func44 (by decide) (by kernel_rfl)
noncomputable def iFirstHead_F:FnD:={f:=75,fn:=Tryz.f75,ps:=[],rs:=[rt THead]}
noncomputable def iFirstHead_c:List (Nat×Sig):=[(44,iDigest_g)]
noncomputable def iFirstHead_d:Unit→Option ((tHead×Unit)×Unit):=iFirstHead_F.d V iFirstHead_c
noncomputable abbrev iFirstHead_g:Sig:=iFirstHead_F.t.sig iFirstHead_d
theorem iFirstHead_b:iFirstHead_d ()=bnd (iDigest_d ((bs []),())) (fun r0=>(some (((0,(r0.1.1,(r0.1.1,(r0.1.1,())))),()),()))):=(FnD.eq V iFirstHead_c iFirstHead_F ()).trans (by kernel_rfl)
theorem iFirstHead_k:CallsOk Tryz.prog gls gvs 75 iFirstHead_g:=FnD.ok (F:=iFirstHead_F) (cs:=iFirstHead_c) V_ok (kC iDigest_k kN) Tryz.func75 (by decide) (by kernel_rfl)
noncomputable def iDecimal_F:FnD:={f:=166,fn:=Tryz.f166,ps:=[pa (.int .i64)],rs:=[rt .str]}
noncomputable def iDecimal_c:List (Nat×Sig):=[(198,g_strconv_Itoa_g)]
noncomputable def iDecimal_d:Int×Unit→Option ((ByteArray×Unit)×Unit):=iDecimal_F.d V iDecimal_c
noncomputable abbrev iDecimal_g:Sig:=iDecimal_F.t.sig iDecimal_d
theorem iDecimal_b (x1:Int):iDecimal_d (x1,())=bnd (g_strconv_Itoa_d (x1,())) (fun r1=>(some ((r1.1.1,()),()))):=(FnD.eq V iDecimal_c iDecimal_F (x1,())).trans (by kernel_rfl)
theorem iDecimal_k:CallsOk Tryz.prog gls gvs 166 iDecimal_g:=FnD.ok (F:=iDecimal_F) (cs:=iDecimal_c) V_ok (kC g_strconv_Itoa_k kN) Tryz.func166 (by decide) (by kernel_rfl)
noncomputable def iIsSlot_F:FnD:={f:=222,fn:=Tryz.f222,ps:=[pa (.int .i64)],rs:=[rt .bool]}
noncomputable def iIsSlot_c:List (Nat×Sig):=[]
noncomputable def iIsSlot_d:Int×Unit→Option ((Bool×Unit)×Unit):=iIsSlot_F.d V iIsSlot_c
noncomputable abbrev iIsSlot_g:Sig:=iIsSlot_F.t.sig iIsSlot_d
theorem iIsSlot_b (x1:Int):iIsSlot_d (x1,())=cnd (ige x1 0) (some (((ile x1 10000),()),())) (some ((false,()),())):=(FnD.eq V iIsSlot_c iIsSlot_F (x1,())).trans (by kernel_rfl)
theorem iIsSlot_k:CallsOk Tryz.prog gls gvs 222 iIsSlot_g:=FnD.ok (F:=iIsSlot_F) (cs:=iIsSlot_c) V_ok kN Tryz.func222 (by decide) (by kernel_rfl)
noncomputable def iIsDigest_F:FnD:={f:=40,fn:=Tryz.f40,ps:=[pa .str],rs:=[rt .bool]}
noncomputable def iIsDigest_c:List (Nat×Sig):=[]
noncomputable def iIsDigest_d:ByteArray×Unit→Option ((Bool×Unit)×Unit):=iIsDigest_F.d V iIsDigest_c
noncomputable abbrev iIsDigest_g:Sig:=iIsDigest_F.t.sig iIsDigest_d
theorem iIsDigest_b (x1:ByteArray):iIsDigest_d (x1,())=some (((ieq (ssz x1) 32),()),()):=(FnD.eq V iIsDigest_c iIsDigest_F (x1,())).trans (by kernel_rfl)
theorem iIsDigest_k:CallsOk Tryz.prog gls gvs 40 iIsDigest_g:=FnD.ok (F:=iIsDigest_F) (cs:=iIsDigest_c) V_ok kN Tryz.func40 (by decide) (by kernel_rfl)
noncomputable def iHeadOk_F:FnD:={f:=199,fn:=Tryz.f199,ps:=[pa THead],rs:=[rt .bool]}
noncomputable def iHeadOk_c:List (Nat×Sig):=[(222,iIsSlot_g),(40,iIsDigest_g)]
noncomputable def iHeadOk_d:tHead×Unit→Option ((Bool×Unit)×Unit):=iHeadOk_F.d V iHeadOk_c
noncomputable abbrev iHeadOk_g:Sig:=iHeadOk_F.t.sig iHeadOk_d
theorem iHeadOk_b (x1:tHead):iHeadOk_d (x1,())=bnd (iIsSlot_d (x1.1,())) (fun r1=>(cnd r1.1.1 (bnd (iIsDigest_d (x1.2.1,())) (fun r2=>(cnd r2.1.1 (bnd (iIsDigest_d (x1.2.2.1,())) (fun r3=>(cnd r3.1.1 (bnd (iIsDigest_d (x1.2.2.2.1,())) (fun r4=>(some ((r4.1.1,()),())))) (some ((false,()),()))))) (some ((false,()),()))))) (some ((false,()),())))):=(FnD.eq V iHeadOk_c iHeadOk_F (x1,())).trans (by kernel_rfl)
theorem iHeadOk_k:CallsOk Tryz.prog gls gvs 199 iHeadOk_g:=FnD.ok (F:=iHeadOk_F) (cs:=iHeadOk_c) V_ok (kC iIsSlot_k (kC iIsDigest_k kN)) Tryz.func199 (by decide) (by kernel_rfl)
noncomputable def iVarText_F:FnD:={f:=200,fn:=Tryz.f200,ps:=[pa (.int .i64)],rs:=[rt .str],cuts:=[(2,[.val 0 (.int .i64) .sh, .val 3 (.sl (.int .u8)) (.own 0 .sh)])]}
noncomputable def iVarText_c:List (Nat×Sig):=[]
noncomputable def iVarText_d:Int×Unit→Option ((ByteArray×Unit)×Unit):=iVarText_F.d V iVarText_c
noncomputable abbrev iVarText_g:Sig:=iVarText_F.t.sig iVarText_d
noncomputable def iVarText_D2:Int× (List Int)×Unit→Option ((ByteArray×Unit)×Unit):=iVarText_F.D V iVarText_c 2
theorem iVarText_b (x1:Int):iVarText_d (x1,())=iVarText_D2 (x1,(([]:List Int),())):=(FnD.eq V iVarText_c iVarText_F (x1,())).trans (by kernel_rfl)
theorem iVarText_q2 (x1:Int) (x2:(List Int)):iVarText_D2 (x1,(x2,()))=cnd (igt x1 127) (cnd (nz 128) (cnd (fits ((len x2)+(len ((iconv .u8 (iadd .i64 128 (irem x1 128)))::([]:List Int)))) 1) (cnd (nz 128) (iVarText_D2 ((iquo .i64 x1 128),((app x2 ((iconv .u8 (iadd .i64 128 (irem x1 128)))::([]:List Int))),()))) none) none) none) (cnd (fits ((len x2)+(len ((iconv .u8 x1)::([]:List Int)))) 1) (some (((sof (app x2 ((iconv .u8 x1)::([]:List Int)))),()),())) none):=(FnD.eqC V iVarText_c iVarText_F 2 (x1,(x2,()))).trans (by kernel_rfl)
theorem iVarText_k:CallsOk Tryz.prog gls gvs 200 iVarText_g:=FnD.ok (F:=iVarText_F) (cs:=iVarText_c) V_ok kN Tryz.func200 (by decide) (by kernel_rfl)
noncomputable def iDigestPair_F:FnD:={f:=205,fn:=Tryz.f205,ps:=[pa .str,pa .str],rs:=[rt .str]}
noncomputable def iDigestPair_c:List (Nat×Sig):=[(44,iDigest_g)]
noncomputable def iDigestPair_d:ByteArray×ByteArray×Unit→Option ((ByteArray×Unit)×Unit):=iDigestPair_F.d V iDigestPair_c
noncomputable abbrev iDigestPair_g:Sig:=iDigestPair_F.t.sig iDigestPair_d
theorem iDigestPair_b (x1:ByteArray) (x2:ByteArray):iDigestPair_d (x1,(x2,()))=cnd (fits ((ssz x1)+(ssz x2)) 1) (bnd (iDigest_d ((scat x1 x2),())) (fun r2=>(some ((r2.1.1,()),())))) none:=(FnD.eq V iDigestPair_c iDigestPair_F (x1,(x2,()))).trans (by kernel_rfl)
theorem iDigestPair_k:CallsOk Tryz.prog gls gvs 205 iDigestPair_g:=FnD.ok (F:=iDigestPair_F) (cs:=iDigestPair_c) V_ok (kC iDigest_k kN) Tryz.func205 (by decide) (by kernel_rfl)
noncomputable def iLevelsOfTree_F:FnD:={f:=173,fn:=Tryz.f173,ps:=[pa (.sl .str)],rs:=[⟨(.sl (.sl .str)),(.own 0 .sh),false⟩],al:=true,fz:=[37,62],cuts:=[(3,[.val 3 (.sl .str) (.own 0 .sh), .val 9 (.sl .str) .sh, .val 10 (.int .i64) .sh, .val 11 (.int .i64) .sh]),(7,[.val 3 (.sl .str) (.own 0 .sh)]),(13,[.val 3 (.sl .str) .sh, .val 6 (.sl (.sl .str)) (.own 0 .sh), .val 7 (.sl .str) (.own 0 .sh), .val 8 (.int .i64) .sh]),(10,[.val 3 (.sl .str) .sh, .val 6 (.sl (.sl .str)) (.own 0 .sh)])]}
noncomputable def iLevelsOfTree_c:List (Nat×Sig):=[(44,iDigest_g),(205,iDigestPair_g)]
noncomputable def iLevelsOfTree_d:(List ByteArray)×Unit→Option (((List (List ByteArray))×Unit)×Unit):=iLevelsOfTree_F.d V iLevelsOfTree_c
noncomputable abbrev iLevelsOfTree_g:Sig:=iLevelsOfTree_F.t.sig iLevelsOfTree_d
noncomputable def iLevelsOfTree_D3:(List ByteArray)× (List ByteArray)×Int×Int×Unit→Option (((List (List ByteArray))×Unit)×Unit):=iLevelsOfTree_F.D V iLevelsOfTree_c 3
noncomputable def iLevelsOfTree_D7:(List ByteArray)×Unit→Option (((List (List ByteArray))×Unit)×Unit):=iLevelsOfTree_F.D V iLevelsOfTree_c 7
noncomputable def iLevelsOfTree_D13:(List ByteArray)× (List (List ByteArray))× (List ByteArray)×Int×Unit→Option (((List (List ByteArray))×Unit)×Unit):=iLevelsOfTree_F.D V iLevelsOfTree_c 13
noncomputable def iLevelsOfTree_D10:(List ByteArray)× (List (List ByteArray))×Unit→Option (((List (List ByteArray))×Unit)×Unit):=iLevelsOfTree_F.D V iLevelsOfTree_c 10
theorem iLevelsOfTree_b (x1:(List ByteArray)):iLevelsOfTree_d (x1,())=iLevelsOfTree_D3 (([]:List ByteArray),(x1,((len x1),(0,())))):=(FnD.eq V iLevelsOfTree_c iLevelsOfTree_F (x1,())).trans (by kernel_rfl)
theorem iLevelsOfTree_q3 (x1:(List ByteArray)) (x2:(List ByteArray)) (x3:Int) (x4:Int):iLevelsOfTree_D3 (x1,(x2,(x3,(x4,()))))=cnd (ilt x4 x3) (cnd (inb x4 (len x2)) (bnd (iDigest_d ((rd (bs []) x2 x4),())) (fun r4=>(cnd (fits ((len x1)+(len (r4.1.1::([]:List ByteArray)))) 1) (iLevelsOfTree_D3 ((app x1 (r4.1.1::([]:List ByteArray))),(x2,(x3,((iadd .i64 x4 1),()))))) none))) none) (iLevelsOfTree_D7 (x1,())):=(FnD.eqC V iLevelsOfTree_c iLevelsOfTree_F 3 (x1,(x2,(x3,(x4,()))))).trans (by kernel_rfl)
theorem iLevelsOfTree_q7 (x1:(List ByteArray)):iLevelsOfTree_D7 (x1,())=cnd (ieq (len x1) 0) (bnd (iDigest_d ((bs []),())) (fun r1=>(cnd (fits ((len x1)+(len (r1.1.1::([]:List ByteArray)))) 1) (iLevelsOfTree_D7 ((app x1 (r1.1.1::([]:List ByteArray))),())) none))) (cnd (ine (iand .i64 (len x1) (isub .i64 (len x1) 1)) 0) (bnd (iDigest_d ((bs []),())) (fun r1=>(cnd (fits ((len x1)+(len (r1.1.1::([]:List ByteArray)))) 1) (iLevelsOfTree_D7 ((app x1 (r1.1.1::([]:List ByteArray))),())) none))) (iLevelsOfTree_D10 (x1,((x1::([]:List (List ByteArray))),())))):=(FnD.eqC V iLevelsOfTree_c iLevelsOfTree_F 7 (x1,())).trans (by kernel_rfl)
theorem iLevelsOfTree_q13 (x1:(List ByteArray)) (x2:(List (List ByteArray))) (x3:(List ByteArray)) (x4:Int):iLevelsOfTree_D13 (x1,(x2,(x3,(x4,()))))=cnd (ilt x4 (len x1)) (cnd (inb x4 (len x1)) (cnd (inb (iadd .i64 x4 1) (len x1)) (bnd (iDigestPair_d ((rd (bs []) x1 x4),((rd (bs []) x1 (iadd .i64 x4 1)),()))) (fun r4=>(cnd (fits ((len x3)+(len (r4.1.1::([]:List ByteArray)))) 1) (iLevelsOfTree_D13 (x1,(x2,((app x3 (r4.1.1::([]:List ByteArray))),((iadd .i64 x4 2),()))))) none))) none) none) (cnd (fits ((len x2)+(len (x3::([]:List (List ByteArray))))) 1) (iLevelsOfTree_D10 (x3,((app x2 (x3::([]:List (List ByteArray)))),()))) none):=(FnD.eqC V iLevelsOfTree_c iLevelsOfTree_F 13 (x1,(x2,(x3,(x4,()))))).trans (by kernel_rfl)
theorem iLevelsOfTree_q10 (x1:(List ByteArray)) (x2:(List (List ByteArray))):iLevelsOfTree_D10 (x1,(x2,()))=cnd (igt (len x1) 1) (iLevelsOfTree_D13 (x1,(x2,(([]:List ByteArray),(0,()))))) (some ((x2,()),())):=(FnD.eqC V iLevelsOfTree_c iLevelsOfTree_F 10 (x1,(x2,()))).trans (by kernel_rfl)
theorem iLevelsOfTree_k:CallsOk Tryz.prog gls gvs 173 iLevelsOfTree_g:=FnD.ok (F:=iLevelsOfTree_F) (cs:=iLevelsOfTree_c) V_ok (kC iDigest_k (kC iDigestPair_k kN)) Tryz.func173 (by decide) (by kernel_rfl)
noncomputable def iRootOf_F:FnD:={f:=168,fn:=Tryz.f168,ps:=[pa (.sl .str)],rs:=[rt .str]}
noncomputable def iRootOf_c:List (Nat×Sig):=[(173,iLevelsOfTree_g)]
noncomputable def iRootOf_d:(List ByteArray)×Unit→Option ((ByteArray×Unit)×Unit):=iRootOf_F.d V iRootOf_c
noncomputable abbrev iRootOf_g:Sig:=iRootOf_F.t.sig iRootOf_d
theorem iRootOf_b (x1:(List ByteArray)):iRootOf_d (x1,())=cnd (igt (len x1) 32) (some (((bs []),()),())) (bnd (iLevelsOfTree_d (x1,())) (fun r1=>(cnd (inb (isub .i64 (len r1.1.1) 1) (len r1.1.1)) (cnd (inb 0 (len (rd ([]:List ByteArray) r1.1.1 (isub .i64 (len r1.1.1) 1)))) (some (((rd (bs []) (rd ([]:List ByteArray) r1.1.1 (isub .i64 (len r1.1.1) 1)) 0),()),())) none) none))):=(FnD.eq V iRootOf_c iRootOf_F (x1,())).trans (by kernel_rfl)
theorem iRootOf_k:CallsOk Tryz.prog gls gvs 168 iRootOf_g:=FnD.ok (F:=iRootOf_F) (cs:=iRootOf_c) V_ok (kC iLevelsOfTree_k kN) Tryz.func168 (by decide) (by kernel_rfl)
noncomputable def iHeadRoot_F:FnD:={f:=167,fn:=Tryz.f167,ps:=[pa THead],rs:=[rt .str]}
noncomputable def iHeadRoot_c:List (Nat×Sig):=[(199,iHeadOk_g),(200,iVarText_g),(168,iRootOf_g)]
noncomputable def iHeadRoot_d:tHead×Unit→Option ((ByteArray×Unit)×Unit):=iHeadRoot_F.d V iHeadRoot_c
noncomputable abbrev iHeadRoot_g:Sig:=iHeadRoot_F.t.sig iHeadRoot_d
theorem iHeadRoot_b (x1:tHead):iHeadRoot_d (x1,())=bnd (iHeadOk_d (x1,())) (fun r1=>(cnd (bnot r1.1.1) (some (((bs []),()),())) (bnd (iVarText_d (x1.1,())) (fun r2=>(bnd (iRootOf_d ((r2.1.1::(x1.2.1::(x1.2.2.1::(x1.2.2.2.1::([]:List ByteArray))))),())) (fun r3=>(some ((r3.1.1,()),())))))))):=(FnD.eq V iHeadRoot_c iHeadRoot_F (x1,())).trans (by kernel_rfl)
theorem iHeadRoot_k:CallsOk Tryz.prog gls gvs 167 iHeadRoot_g:=FnD.ok (F:=iHeadRoot_F) (cs:=iHeadRoot_c) V_ok (kC iHeadOk_k (kC iVarText_k (kC iRootOf_k kN))) Tryz.func167 (by decide) (by kernel_rfl)
noncomputable def iPeriodOf_F:FnD:={f:=77,fn:=Tryz.f77,ps:=[pa (.int .i64)],rs:=[rt (.int .i64)]}
noncomputable def iPeriodOf_c:List (Nat×Sig):=[]
noncomputable def iPeriodOf_d:Int×Unit→Option ((Int×Unit)×Unit):=iPeriodOf_F.d V iPeriodOf_c
noncomputable abbrev iPeriodOf_g:Sig:=iPeriodOf_F.t.sig iPeriodOf_d
theorem iPeriodOf_b (x1:Int):iPeriodOf_d (x1,())=cnd (nz 8) (some (((iquo .i64 (imax x1 0) 8),()),())) none:=(FnD.eq V iPeriodOf_c iPeriodOf_F (x1,())).trans (by kernel_rfl)
theorem iPeriodOf_k:CallsOk Tryz.prog gls gvs 77 iPeriodOf_g:=FnD.ok (F:=iPeriodOf_F) (cs:=iPeriodOf_c) V_ok kN Tryz.func77 (by decide) (by kernel_rfl)
noncomputable def g_slices_Clone_impl_Pair_impl_Pair_F:FnD:={f:=175,fn:=Tryz.f175,ps:=[pa (.sl TPair)],rs:=[⟨(.sl TPair),(.own 0 .sh),false⟩]}
noncomputable def g_slices_Clone_impl_Pair_impl_Pair_c:List (Nat×Sig):=[]
noncomputable def g_slices_Clone_impl_Pair_impl_Pair_d:(List tPair)×Unit→Option (((List tPair)×Unit)×Unit):=g_slices_Clone_impl_Pair_impl_Pair_F.d V g_slices_Clone_impl_Pair_impl_Pair_c
noncomputable abbrev g_slices_Clone_impl_Pair_impl_Pair_g:Sig:=g_slices_Clone_impl_Pair_impl_Pair_F.t.sig g_slices_Clone_impl_Pair_impl_Pair_d
theorem g_slices_Clone_impl_Pair_impl_Pair_b (x1:(List tPair)):g_slices_Clone_impl_Pair_impl_Pair_d (x1,())=cnd (ieq (len x1) 0) (agree (some ((([]:List tPair),()),())) (cnd (fits ((len ([]:List tPair))+(len x1)) 2) (some (((app ([]:List tPair) x1),()),())) none)) (cnd (fits ((len ([]:List tPair))+(len x1)) 2) (some (((app ([]:List tPair) x1),()),())) none):=(FnD.eq V g_slices_Clone_impl_Pair_impl_Pair_c g_slices_Clone_impl_Pair_impl_Pair_F (x1,())).trans (by kernel_rfl)
theorem g_slices_Clone_impl_Pair_impl_Pair_k:CallsOk Tryz.prog gls gvs 175 g_slices_Clone_impl_Pair_impl_Pair_g:=FnD.ok (F:=g_slices_Clone_impl_Pair_impl_Pair_F) (cs:=g_slices_Clone_impl_Pair_impl_Pair_c) V_ok kN Tryz.func175 (by decide) (by kernel_rfl)
noncomputable def iCopyAccounts_F:FnD:={f:=132,fn:=Tryz.f132,ps:=[pa (.sl TAccount)],rs:=[⟨(.sl TAccount),(.own 0 (.pr .sh (.pr .sh (.pr .sh (.pr (.own 0 .sh) .sh))))),false⟩],cuts:=[(3,[.val 3 (.sl TAccount) (.own 0 (.pr .sh (.pr .sh (.pr .sh (.pr (.own 0 .sh) .sh))))), .val 6 (.sl TAccount) .sh, .val 7 (.int .i64) .sh, .val 8 (.int .i64) .sh])]}
noncomputable def iCopyAccounts_c:List (Nat×Sig):=[(175,g_slices_Clone_impl_Pair_impl_Pair_g)]
noncomputable def iCopyAccounts_d:(List tAccount)×Unit→Option (((List tAccount)×Unit)×Unit):=iCopyAccounts_F.d V iCopyAccounts_c
noncomputable abbrev iCopyAccounts_g:Sig:=iCopyAccounts_F.t.sig iCopyAccounts_d
noncomputable def iCopyAccounts_D3:(List tAccount)× (List tAccount)×Int×Int×Unit→Option (((List tAccount)×Unit)×Unit):=iCopyAccounts_F.D V iCopyAccounts_c 3
theorem iCopyAccounts_b (x1:(List tAccount)):iCopyAccounts_d (x1,())=iCopyAccounts_D3 (([]:List tAccount),(x1,((len x1),(0,())))):=(FnD.eq V iCopyAccounts_c iCopyAccounts_F (x1,())).trans (by kernel_rfl)
theorem iCopyAccounts_q3 (x1:(List tAccount)) (x2:(List tAccount)) (x3:Int) (x4:Int):iCopyAccounts_D3 (x1,(x2,(x3,(x4,()))))=cnd (ilt x4 x3) (cnd (inb x4 (len x2)) (bnd (g_slices_Clone_impl_Pair_impl_Pair_d ((rd zAccount x2 x4).2.2.2.1,())) (fun r4=>(cnd (fits ((len x1)+(len (((rd zAccount x2 x4).1,((rd zAccount x2 x4).2.1,((rd zAccount x2 x4).2.2.1,(r4.1.1,(rd zAccount x2 x4).2.2.2.2))))::([]:List tAccount)))) 4) (iCopyAccounts_D3 ((app x1 (((rd zAccount x2 x4).1,((rd zAccount x2 x4).2.1,((rd zAccount x2 x4).2.2.1,(r4.1.1,(rd zAccount x2 x4).2.2.2.2))))::([]:List tAccount))),(x2,(x3,((iadd .i64 x4 1),()))))) none))) none) (some ((x1,()),())):=(FnD.eqC V iCopyAccounts_c iCopyAccounts_F 3 (x1,(x2,(x3,(x4,()))))).trans (by kernel_rfl)
theorem iCopyAccounts_k:CallsOk Tryz.prog gls gvs 132 iCopyAccounts_g:=FnD.ok (F:=iCopyAccounts_F) (cs:=iCopyAccounts_c) V_ok (kC g_slices_Clone_impl_Pair_impl_Pair_k kN) Tryz.func132 (by decide) (by kernel_rfl)
noncomputable def iChainAccounts_F:FnD:={f:=80,fn:=Tryz.f80,ps:=[pa TChain,pa (.int .i64)],rs:=[⟨(.sl TAccount),(.own 0 (.pr .sh (.pr .sh (.pr .sh (.pr (.own 0 .sh) .sh))))),false⟩],cuts:=[(5,[.val 1 (.int .i64) .sh, .val 5 (.sl TAccount) (.own 0 (.pr .sh (.pr .sh (.pr .sh (.pr (.own 0 .sh) .sh))))), .val 15 (.int .i64) .sh, .val 16 (.int .i64) .sh])]}
noncomputable def iChainAccounts_c:List (Nat×Sig):=[(132,iCopyAccounts_g)]
noncomputable def iChainAccounts_d:tChain×Int×Unit→Option (((List tAccount)×Unit)×Unit):=iChainAccounts_F.d V iChainAccounts_c
noncomputable abbrev iChainAccounts_g:Sig:=iChainAccounts_F.t.sig iChainAccounts_d
noncomputable def iChainAccounts_D5:Int× (List tAccount)×Int×Int×Unit→Option (((List tAccount)×Unit)×Unit):=iChainAccounts_F.D V iChainAccounts_c 5
theorem iChainAccounts_b (x1:tChain) (x2:Int):iChainAccounts_d (x1,(x2,()))=bnd (iCopyAccounts_d (x1.2.1,())) (fun r2=>(cnd (ilt x2 1) (some ((r2.1.1,()),())) (iChainAccounts_D5 (x2,(r2.1.1,((len r2.1.1),(0,()))))))):=(FnD.eq V iChainAccounts_c iChainAccounts_F (x1,(x2,()))).trans (by kernel_rfl)
theorem iChainAccounts_q5 (x1:Int) (x2:(List tAccount)) (x3:Int) (x4:Int):iChainAccounts_D5 (x1,(x2,(x3,(x4,()))))=cnd (ilt x4 x3) (cnd (inb x4 (len x2)) (cnd (ige (rd zAccount x2 x4).2.1 0) (cnd (igt x1 (isub .i64 1000 (imin (rd zAccount x2 x4).2.1 1000))) (iChainAccounts_D5 (x1,((upd x2 x4 ((rd zAccount x2 x4).1,(1000,(rd zAccount x2 x4).2.2))),(x3,((iadd .i64 x4 1),()))))) (iChainAccounts_D5 (x1,((upd x2 x4 ((rd zAccount x2 x4).1,((imin (iadd .i64 (rd zAccount x2 x4).2.1 x1) 1000),(rd zAccount x2 x4).2.2))),(x3,((iadd .i64 x4 1),())))))) (iChainAccounts_D5 (x1,((upd x2 x4 ((rd zAccount x2 x4).1,((imin (iadd .i64 (rd zAccount x2 x4).2.1 x1) 1000),(rd zAccount x2 x4).2.2))),(x3,((iadd .i64 x4 1),())))))) none) (some ((x2,()),())):=(FnD.eqC V iChainAccounts_c iChainAccounts_F 5 (x1,(x2,(x3,(x4,()))))).trans (by kernel_rfl)
theorem iChainAccounts_k:CallsOk Tryz.prog gls gvs 80 iChainAccounts_g:=FnD.ok (F:=iChainAccounts_F) (cs:=iChainAccounts_c) V_ok (kC iCopyAccounts_k kN) Tryz.func80 (by decide) (by kernel_rfl)
noncomputable def iSeedOf_F:FnD:={f:=127,fn:=Tryz.f127,ps:=[pa TChain,pa (.int .i64)],rs:=[rt (.int .i64)]}
noncomputable def iSeedOf_c:List (Nat×Sig):=[]
noncomputable def iSeedOf_d:tChain×Int×Unit→Option ((Int×Unit)×Unit):=iSeedOf_F.d V iSeedOf_c
noncomputable abbrev iSeedOf_g:Sig:=iSeedOf_F.t.sig iSeedOf_d
theorem iSeedOf_b (x1:tChain) (x2:Int):iSeedOf_d (x1,(x2,()))=cnd (nz 1000) (cnd (nz 1000) (some (((iadd .i64 (irem x1.1 1000) (imul .i64 13 (irem x2 1000))),()),())) none) none:=(FnD.eq V iSeedOf_c iSeedOf_F (x1,(x2,()))).trans (by kernel_rfl)
theorem iSeedOf_k:CallsOk Tryz.prog gls gvs 127 iSeedOf_g:=FnD.ok (F:=iSeedOf_F) (cs:=iSeedOf_c) V_ok kN Tryz.func127 (by decide) (by kernel_rfl)
noncomputable def iRemainder_F:FnD:={f:=201,fn:=Tryz.f201,ps:=[pa (.int .i64),pa (.int .i64)],rs:=[rt (.int .i64)]}
noncomputable def iRemainder_c:List (Nat×Sig):=[]
noncomputable def iRemainder_d:Int×Int×Unit→Option ((Int×Unit)×Unit):=iRemainder_F.d V iRemainder_c
noncomputable abbrev iRemainder_g:Sig:=iRemainder_F.t.sig iRemainder_d
theorem iRemainder_b (x1:Int) (x2:Int):iRemainder_d (x1,(x2,()))=cnd (nz x2) (cnd (ilt (irem x1 x2) 0) (some (((iadd .i64 (irem x1 x2) x2),()),())) (some (((irem x1 x2),()),()))) none:=(FnD.eq V iRemainder_c iRemainder_F (x1,(x2,()))).trans (by kernel_rfl)
theorem iRemainder_k:CallsOk Tryz.prog gls gvs 201 iRemainder_g:=FnD.ok (F:=iRemainder_F) (cs:=iRemainder_c) V_ok kN Tryz.func201 (by decide) (by kernel_rfl)
noncomputable def iSecretsOf_F:FnD:={f:=170,fn:=Tryz.f170,ps:=[pa (.int .i64)],rs:=[⟨(.sl (.int .i64)),(.own 0 .sh),false⟩],cuts:=[(4,[.val 0 (.int .i64) .sh, .val 3 (.sl (.int .i64)) (.own 0 .sh), .val 7 (.int .i64) .sh])]}
noncomputable def iSecretsOf_c:List (Nat×Sig):=[(201,iRemainder_g)]
noncomputable def iSecretsOf_d:Int×Unit→Option (((List Int)×Unit)×Unit):=iSecretsOf_F.d V iSecretsOf_c
noncomputable abbrev iSecretsOf_g:Sig:=iSecretsOf_F.t.sig iSecretsOf_d
noncomputable def iSecretsOf_D4:Int× (List Int)×Int×Unit→Option (((List Int)×Unit)×Unit):=iSecretsOf_F.D V iSecretsOf_c 4
theorem iSecretsOf_b (x1:Int):iSecretsOf_d (x1,())=bnd (iRemainder_d (x1,(1000,()))) (fun r1=>(iSecretsOf_D4 (r1.1.1,(([]:List Int),(0,()))))):=(FnD.eq V iSecretsOf_c iSecretsOf_F (x1,())).trans (by kernel_rfl)
theorem iSecretsOf_q4 (x1:Int) (x2:(List Int)) (x3:Int):iSecretsOf_D4 (x1,(x2,(x3,())))=cnd (ilt x3 8) (cnd (nz 1007) (cnd (fits ((len x2)+(len ((iadd .i64 1 (irem (iadd .i64 (iadd .i64 (imul .i64 x1 31) (imul .i64 x3 57)) 7) 1007))::([]:List Int)))) 1) (iSecretsOf_D4 (x1,((app x2 ((iadd .i64 1 (irem (iadd .i64 (iadd .i64 (imul .i64 x1 31) (imul .i64 x3 57)) 7) 1007))::([]:List Int))),((iadd .i64 x3 1),())))) none) none) (some ((x2,()),())):=(FnD.eqC V iSecretsOf_c iSecretsOf_F 4 (x1,(x2,(x3,())))).trans (by kernel_rfl)
theorem iSecretsOf_k:CallsOk Tryz.prog gls gvs 170 iSecretsOf_g:=FnD.ok (F:=iSecretsOf_F) (cs:=iSecretsOf_c) V_ok (kC iRemainder_k kN) Tryz.func170 (by decide) (by kernel_rfl)
noncomputable def iScOf_F:FnD:={f:=203,fn:=Tryz.f203,ps:=[pa (.int .i64)],rs:=[rt (.int .i64)]}
noncomputable def iScOf_c:List (Nat×Sig):=[(201,iRemainder_g)]
noncomputable def iScOf_d:Int×Unit→Option ((Int×Unit)×Unit):=iScOf_F.d V iScOf_c
noncomputable abbrev iScOf_g:Sig:=iScOf_F.t.sig iScOf_d
theorem iScOf_b (x1:Int):iScOf_d (x1,())=bnd (iRemainder_d (x1,(1009,()))) (fun r1=>(some ((r1.1.1,()),()))):=(FnD.eq V iScOf_c iScOf_F (x1,())).trans (by kernel_rfl)
theorem iScOf_k:CallsOk Tryz.prog gls gvs 203 iScOf_g:=FnD.ok (F:=iScOf_F) (cs:=iScOf_c) V_ok (kC iRemainder_k kN) Tryz.func203 (by decide) (by kernel_rfl)
noncomputable def iBase_F:FnD:={f:=204,fn:=Tryz.f204,ps:=[],rs:=[rt TPoint]}
noncomputable def iBase_c:List (Nat×Sig):=[]
noncomputable def iBase_d:Unit→Option ((tPoint×Unit)×Unit):=iBase_F.d V iBase_c
noncomputable abbrev iBase_g:Sig:=iBase_F.t.sig iBase_d
theorem iBase_b:iBase_d ()=some (((8445,(859,(false,()))),()),()):=(FnD.eq V iBase_c iBase_F ()).trans (by kernel_rfl)
theorem iBase_k:CallsOk Tryz.prog gls gvs 204 iBase_g:=FnD.ok (F:=iBase_F) (cs:=iBase_c) V_ok kN Tryz.func204 (by decide) (by kernel_rfl)
noncomputable def iFpOk_F:FnD:={f:=235,fn:=Tryz.f235,ps:=[pa (.int .i64)],rs:=[rt .bool]}
noncomputable def iFpOk_c:List (Nat×Sig):=[]
noncomputable def iFpOk_d:Int×Unit→Option ((Bool×Unit)×Unit):=iFpOk_F.d V iFpOk_c
noncomputable abbrev iFpOk_g:Sig:=iFpOk_F.t.sig iFpOk_d
theorem iFpOk_b (x1:Int):iFpOk_d (x1,())=cnd (ige x1 0) (some (((ilt x1 12107),()),())) (some ((false,()),())):=(FnD.eq V iFpOk_c iFpOk_F (x1,())).trans (by kernel_rfl)
theorem iFpOk_k:CallsOk Tryz.prog gls gvs 235 iFpOk_g:=FnD.ok (F:=iFpOk_F) (cs:=iFpOk_c) V_ok kN Tryz.func235 (by decide) (by kernel_rfl)
noncomputable def iFpOf_F:FnD:={f:=247,fn:=Tryz.f247,ps:=[pa (.int .i64)],rs:=[rt (.int .i64)]}
noncomputable def iFpOf_c:List (Nat×Sig):=[(201,iRemainder_g)]
noncomputable def iFpOf_d:Int×Unit→Option ((Int×Unit)×Unit):=iFpOf_F.d V iFpOf_c
noncomputable abbrev iFpOf_g:Sig:=iFpOf_F.t.sig iFpOf_d
theorem iFpOf_b (x1:Int):iFpOf_d (x1,())=bnd (iRemainder_d (x1,(12107,()))) (fun r1=>(some ((r1.1.1,()),()))):=(FnD.eq V iFpOf_c iFpOf_F (x1,())).trans (by kernel_rfl)
theorem iFpOf_k:CallsOk Tryz.prog gls gvs 247 iFpOf_g:=FnD.ok (F:=iFpOf_F) (cs:=iFpOf_c) V_ok (kC iRemainder_k kN) Tryz.func247 (by decide) (by kernel_rfl)
noncomputable def iFpMul_F:FnD:={f:=236,fn:=Tryz.f236,ps:=[pa (.int .i64),pa (.int .i64)],rs:=[rt (.int .i64)]}
noncomputable def iFpMul_c:List (Nat×Sig):=[(247,iFpOf_g)]
noncomputable def iFpMul_d:Int×Int×Unit→Option ((Int×Unit)×Unit):=iFpMul_F.d V iFpMul_c
noncomputable abbrev iFpMul_g:Sig:=iFpMul_F.t.sig iFpMul_d
theorem iFpMul_b (x1:Int) (x2:Int):iFpMul_d (x1,(x2,()))=bnd (iFpOf_d (x1,())) (fun r2=>(bnd (iFpOf_d (x2,())) (fun r3=>(bnd (iFpOf_d ((imul .i64 r2.1.1 r3.1.1),())) (fun r4=>(some ((r4.1.1,()),()))))))):=(FnD.eq V iFpMul_c iFpMul_F (x1,(x2,()))).trans (by kernel_rfl)
theorem iFpMul_k:CallsOk Tryz.prog gls gvs 236 iFpMul_g:=FnD.ok (F:=iFpMul_F) (cs:=iFpMul_c) V_ok (kC iFpOf_k kN) Tryz.func236 (by decide) (by kernel_rfl)
noncomputable def iFpAdd_F:FnD:={f:=248,fn:=Tryz.f248,ps:=[pa (.int .i64),pa (.int .i64)],rs:=[rt (.int .i64)]}
noncomputable def iFpAdd_c:List (Nat×Sig):=[(247,iFpOf_g)]
noncomputable def iFpAdd_d:Int×Int×Unit→Option ((Int×Unit)×Unit):=iFpAdd_F.d V iFpAdd_c
noncomputable abbrev iFpAdd_g:Sig:=iFpAdd_F.t.sig iFpAdd_d
theorem iFpAdd_b (x1:Int) (x2:Int):iFpAdd_d (x1,(x2,()))=bnd (iFpOf_d (x1,())) (fun r2=>(bnd (iFpOf_d (x2,())) (fun r3=>(bnd (iFpOf_d ((iadd .i64 r2.1.1 r3.1.1),())) (fun r4=>(some ((r4.1.1,()),()))))))):=(FnD.eq V iFpAdd_c iFpAdd_F (x1,(x2,()))).trans (by kernel_rfl)
theorem iFpAdd_k:CallsOk Tryz.prog gls gvs 248 iFpAdd_g:=FnD.ok (F:=iFpAdd_F) (cs:=iFpAdd_c) V_ok (kC iFpOf_k kN) Tryz.func248 (by decide) (by kernel_rfl)
noncomputable def iCurveAt_F:FnD:={f:=237,fn:=Tryz.f237,ps:=[pa (.int .i64)],rs:=[rt (.int .i64)]}
noncomputable def iCurveAt_c:List (Nat×Sig):=[(236,iFpMul_g),(248,iFpAdd_g)]
noncomputable def iCurveAt_d:Int×Unit→Option ((Int×Unit)×Unit):=iCurveAt_F.d V iCurveAt_c
noncomputable abbrev iCurveAt_g:Sig:=iCurveAt_F.t.sig iCurveAt_d
theorem iCurveAt_b (x1:Int):iCurveAt_d (x1,())=bnd (iFpMul_d (x1,(x1,()))) (fun r1=>(bnd (iFpMul_d (r1.1.1,(x1,()))) (fun r2=>(bnd (iFpAdd_d (r2.1.1,(x1,()))) (fun r3=>(some ((r3.1.1,()),()))))))):=(FnD.eq V iCurveAt_c iCurveAt_F (x1,())).trans (by kernel_rfl)
theorem iCurveAt_k:CallsOk Tryz.prog gls gvs 237 iCurveAt_g:=FnD.ok (F:=iCurveAt_F) (cs:=iCurveAt_c) V_ok (kC iFpMul_k (kC iFpAdd_k kN)) Tryz.func237 (by decide) (by kernel_rfl)
noncomputable def iPointOk_F:FnD:={f:=223,fn:=Tryz.f223,ps:=[pa TPoint],rs:=[rt .bool]}
noncomputable def iPointOk_c:List (Nat×Sig):=[(235,iFpOk_g),(236,iFpMul_g),(237,iCurveAt_g)]
noncomputable def iPointOk_d:tPoint×Unit→Option ((Bool×Unit)×Unit):=iPointOk_F.d V iPointOk_c
noncomputable abbrev iPointOk_g:Sig:=iPointOk_F.t.sig iPointOk_d
theorem iPointOk_b (x1:tPoint):iPointOk_d (x1,())=cnd x1.2.2.1 (cnd (ieq x1.1 0) (some (((ieq x1.2.1 0),()),())) (some ((false,()),()))) (bnd (iFpOk_d (x1.1,())) (fun r1=>(cnd r1.1.1 (bnd (iFpOk_d (x1.2.1,())) (fun r2=>(cnd r2.1.1 (bnd (iFpMul_d (x1.2.1,(x1.2.1,()))) (fun r3=>(bnd (iCurveAt_d (x1.1,())) (fun r4=>(some (((ieq r3.1.1 r4.1.1),()),())))))) (some ((false,()),()))))) (some ((false,()),()))))):=(FnD.eq V iPointOk_c iPointOk_F (x1,())).trans (by kernel_rfl)
theorem iPointOk_k:CallsOk Tryz.prog gls gvs 223 iPointOk_g:=FnD.ok (F:=iPointOk_F) (cs:=iPointOk_c) V_ok (kC iFpOk_k (kC iFpMul_k (kC iCurveAt_k kN))) Tryz.func223 (by decide) (by kernel_rfl)
noncomputable def iFpSub_F:FnD:={f:=239,fn:=Tryz.f239,ps:=[pa (.int .i64),pa (.int .i64)],rs:=[rt (.int .i64)]}
noncomputable def iFpSub_c:List (Nat×Sig):=[(247,iFpOf_g)]
noncomputable def iFpSub_d:Int×Int×Unit→Option ((Int×Unit)×Unit):=iFpSub_F.d V iFpSub_c
noncomputable abbrev iFpSub_g:Sig:=iFpSub_F.t.sig iFpSub_d
theorem iFpSub_b (x1:Int) (x2:Int):iFpSub_d (x1,(x2,()))=bnd (iFpOf_d (x1,())) (fun r2=>(bnd (iFpOf_d (x2,())) (fun r3=>(bnd (iFpOf_d ((isub .i64 r2.1.1 r3.1.1),())) (fun r4=>(some ((r4.1.1,()),()))))))):=(FnD.eq V iFpSub_c iFpSub_F (x1,(x2,()))).trans (by kernel_rfl)
theorem iFpSub_k:CallsOk Tryz.prog gls gvs 239 iFpSub_g:=FnD.ok (F:=iFpSub_F) (cs:=iFpSub_c) V_ok (kC iFpOf_k kN) Tryz.func239 (by decide) (by kernel_rfl)
noncomputable def iPowerMod_F:FnD:={f:=256,fn:=Tryz.f256,ps:=[pa (.int .i64),pa (.int .i64),pa (.int .i64)],rs:=[rt (.int .i64)],joins:=[6],cuts:=[(6,[.val 0 (.int .i64) .sh, .val 1 (.int .i64) .sh, .val 2 (.int .i64) .sh, .val 7 (.int .i64) .sh]),(3,[.val 0 (.int .i64) .sh, .val 1 (.int .i64) .sh, .val 2 (.int .i64) .sh, .val 7 (.int .i64) .sh])]}
noncomputable def iPowerMod_c:List (Nat×Sig):=[(201,iRemainder_g)]
noncomputable def iPowerMod_d:Int×Int×Int×Unit→Option ((Int×Unit)×Unit):=iPowerMod_F.d V iPowerMod_c
noncomputable abbrev iPowerMod_g:Sig:=iPowerMod_F.t.sig iPowerMod_d
noncomputable def iPowerMod_D6:Int×Int×Int×Int×Unit→Option ((Int×Unit)×Unit):=iPowerMod_F.D V iPowerMod_c 6
noncomputable def iPowerMod_D3:Int×Int×Int×Int×Unit→Option ((Int×Unit)×Unit):=iPowerMod_F.D V iPowerMod_c 3
theorem iPowerMod_b (x1:Int) (x2:Int) (x3:Int):iPowerMod_d (x1,(x2,(x3,())))=bnd (iRemainder_d (x1,(x3,()))) (fun r3=>(iPowerMod_D3 (r3.1.1,(x2,(x3,(1,())))))):=(FnD.eq V iPowerMod_c iPowerMod_F (x1,(x2,(x3,())))).trans (by kernel_rfl)
theorem iPowerMod_q6 (x1:Int) (x2:Int) (x3:Int) (x4:Int):iPowerMod_D6 (x1,(x2,(x3,(x4,()))))=cnd (nz x3) (cnd (nz 2) (iPowerMod_D3 ((irem (imul .i64 x1 x1) x3),((iquo .i64 x2 2),(x3,(x4,()))))) none) none:=(FnD.eqC V iPowerMod_c iPowerMod_F 6 (x1,(x2,(x3,(x4,()))))).trans (by kernel_rfl)
theorem iPowerMod_q3 (x1:Int) (x2:Int) (x3:Int) (x4:Int):iPowerMod_D3 (x1,(x2,(x3,(x4,()))))=cnd (igt x2 0) (cnd (nz 2) (cnd (ieq (irem x2 2) 1) (cnd (nz x3) (iPowerMod_D6 (x1,(x2,(x3,((irem (imul .i64 x4 x1) x3),()))))) none) (iPowerMod_D6 (x1,(x2,(x3,(x4,())))))) none) (some ((x4,()),())):=(FnD.eqC V iPowerMod_c iPowerMod_F 3 (x1,(x2,(x3,(x4,()))))).trans (by kernel_rfl)
theorem iPowerMod_k:CallsOk Tryz.prog gls gvs 256 iPowerMod_g:=FnD.ok (F:=iPowerMod_F) (cs:=iPowerMod_c) V_ok (kC iRemainder_k kN) Tryz.func256 (by decide) (by kernel_rfl)
noncomputable def iFpInv_F:FnD:={f:=249,fn:=Tryz.f249,ps:=[pa (.int .i64)],rs:=[rt (.int .i64)]}
noncomputable def iFpInv_c:List (Nat×Sig):=[(256,iPowerMod_g)]
noncomputable def iFpInv_d:Int×Unit→Option ((Int×Unit)×Unit):=iFpInv_F.d V iFpInv_c
noncomputable abbrev iFpInv_g:Sig:=iFpInv_F.t.sig iFpInv_d
theorem iFpInv_b (x1:Int):iFpInv_d (x1,())=bnd (iPowerMod_d (x1,(12105,(12107,())))) (fun r1=>(some ((r1.1.1,()),()))):=(FnD.eq V iFpInv_c iFpInv_F (x1,())).trans (by kernel_rfl)
theorem iFpInv_k:CallsOk Tryz.prog gls gvs 249 iFpInv_g:=FnD.ok (F:=iFpInv_F) (cs:=iFpInv_c) V_ok (kC iPowerMod_k kN) Tryz.func249 (by decide) (by kernel_rfl)
noncomputable def iSlopeOf_F:FnD:={f:=238,fn:=Tryz.f238,ps:=[pa TPoint,pa TPoint],rs:=[rt (.int .i64),rt .bool]}
noncomputable def iSlopeOf_c:List (Nat×Sig):=[(239,iFpSub_g),(249,iFpInv_g),(236,iFpMul_g),(248,iFpAdd_g)]
noncomputable def iSlopeOf_d:tPoint×tPoint×Unit→Option ((Int×Bool×Unit)×Unit):=iSlopeOf_F.d V iSlopeOf_c
noncomputable abbrev iSlopeOf_g:Sig:=iSlopeOf_F.t.sig iSlopeOf_d
theorem iSlopeOf_b (x1:tPoint) (x2:tPoint):iSlopeOf_d (x1,(x2,()))=cnd (ine x1.1 x2.1) (bnd (iFpSub_d (x2.2.1,(x1.2.1,()))) (fun r2=>(bnd (iFpSub_d (x2.1,(x1.1,()))) (fun r3=>(bnd (iFpInv_d (r3.1.1,())) (fun r4=>(bnd (iFpMul_d (r2.1.1,(r4.1.1,()))) (fun r5=>(some ((r5.1.1,(true,())),())))))))))) (cnd (ine x1.2.1 x2.2.1) (some ((0,(false,())),())) (cnd (ieq x1.2.1 0) (some ((0,(false,())),())) (bnd (iFpMul_d (x1.1,(x1.1,()))) (fun r2=>(bnd (iFpMul_d (3,(r2.1.1,()))) (fun r3=>(bnd (iFpAdd_d (r3.1.1,(1,()))) (fun r4=>(bnd (iFpMul_d (2,(x1.2.1,()))) (fun r5=>(bnd (iFpInv_d (r5.1.1,())) (fun r6=>(bnd (iFpMul_d (r4.1.1,(r6.1.1,()))) (fun r7=>(some ((r7.1.1,(true,())),())))))))))))))))):=(FnD.eq V iSlopeOf_c iSlopeOf_F (x1,(x2,()))).trans (by kernel_rfl)
theorem iSlopeOf_k:CallsOk Tryz.prog gls gvs 238 iSlopeOf_g:=FnD.ok (F:=iSlopeOf_F) (cs:=iSlopeOf_c) V_ok (kC iFpSub_k (kC iFpInv_k (kC iFpMul_k (kC iFpAdd_k kN)))) Tryz.func238 (by decide) (by kernel_rfl)
noncomputable def iAdd_F:FnD:={f:=224,fn:=Tryz.f224,ps:=[pa TPoint,pa TPoint],rs:=[rt TPoint]}
noncomputable def iAdd_c:List (Nat×Sig):=[(238,iSlopeOf_g),(236,iFpMul_g),(239,iFpSub_g)]
noncomputable def iAdd_d:tPoint×tPoint×Unit→Option ((tPoint×Unit)×Unit):=iAdd_F.d V iAdd_c
noncomputable abbrev iAdd_g:Sig:=iAdd_F.t.sig iAdd_d
theorem iAdd_b (x1:tPoint) (x2:tPoint):iAdd_d (x1,(x2,()))=cnd x1.2.2.1 (some ((x2,()),())) (cnd x2.2.2.1 (some ((x1,()),())) (bnd (iSlopeOf_d (x1,(x2,()))) (fun r2=>(cnd (bnot r2.1.2.1) (some (((0,(0,(true,()))),()),())) (bnd (iFpMul_d (r2.1.1,(r2.1.1,()))) (fun r3=>(bnd (iFpSub_d (r3.1.1,(x1.1,()))) (fun r4=>(bnd (iFpSub_d (r4.1.1,(x2.1,()))) (fun r5=>(bnd (iFpSub_d (x1.1,(r5.1.1,()))) (fun r6=>(bnd (iFpMul_d (r2.1.1,(r6.1.1,()))) (fun r7=>(bnd (iFpSub_d (r7.1.1,(x1.2.1,()))) (fun r8=>(some (((r5.1.1,(r8.1.1,(false,()))),()),())))))))))))))))))):=(FnD.eq V iAdd_c iAdd_F (x1,(x2,()))).trans (by kernel_rfl)
theorem iAdd_k:CallsOk Tryz.prog gls gvs 224 iAdd_g:=FnD.ok (F:=iAdd_F) (cs:=iAdd_c) V_ok (kC iSlopeOf_k (kC iFpMul_k (kC iFpSub_k kN))) Tryz.func224 (by decide) (by kernel_rfl)
noncomputable def iPointTimes_F:FnD:={f:=202,fn:=Tryz.f202,ps:=[pa (.int .i64),pa TPoint],rs:=[rt TPoint],cuts:=[(5,[.val 0 (.int .i64) .sh, .box 3 TPoint .sh, .box 4 TPoint .sh, .box 5 TPoint .sh, .ptr 3 3 0, .ptr 4 4 0, .ptr 5 5 0])]}
noncomputable def iPointTimes_c:List (Nat×Sig):=[(223,iPointOk_g),(201,iRemainder_g),(224,iAdd_g)]
noncomputable def iPointTimes_d:Int×tPoint×Unit→Option ((tPoint×Unit)×Unit):=iPointTimes_F.d V iPointTimes_c
noncomputable abbrev iPointTimes_g:Sig:=iPointTimes_F.t.sig iPointTimes_d
noncomputable def iPointTimes_D5:Int×tPoint×tPoint×tPoint×Unit→Option ((tPoint×Unit)×Unit):=iPointTimes_F.D V iPointTimes_c 5
theorem iPointTimes_b (x1:Int) (x2:tPoint):iPointTimes_d (x1,(x2,()))=bnd (iPointOk_d (x2,())) (fun r2=>(cnd (bnot r2.1.1) (some (((0,(0,(true,()))),()),())) (bnd (iRemainder_d (x1,(12108,()))) (fun r3=>(iPointTimes_D5 (r3.1.1,(x2,(zPoint,((0,(0,(true,()))),()))))))))):=(FnD.eq V iPointTimes_c iPointTimes_F (x1,(x2,()))).trans (by kernel_rfl)
theorem iPointTimes_q5 (x1:Int) (x2:tPoint) (x3:tPoint) (x4:tPoint):iPointTimes_D5 (x1,(x2,(x3,(x4,()))))=cnd (igt x1 0) (cnd (nz 2) (cnd (ieq (irem x1 2) 1) (bnd (iAdd_d (x4,(x2,()))) (fun r4=>(bnd (iAdd_d (x2,(x2,()))) (fun r5=>(cnd (nz 2) (iPointTimes_D5 ((iquo .i64 x1 2),(r5.1.1,(x3,(r4.1.1,()))))) none))))) (bnd (iAdd_d (x2,(x2,()))) (fun r4=>(cnd (nz 2) (iPointTimes_D5 ((iquo .i64 x1 2),(r4.1.1,(x3,(x4,()))))) none)))) none) (some ((x4,()),())):=(FnD.eqC V iPointTimes_c iPointTimes_F 5 (x1,(x2,(x3,(x4,()))))).trans (by kernel_rfl)
theorem iPointTimes_k:CallsOk Tryz.prog gls gvs 202 iPointTimes_g:=FnD.ok (F:=iPointTimes_F) (cs:=iPointTimes_c) V_ok (kC iPointOk_k (kC iRemainder_k (kC iAdd_k kN))) Tryz.func202 (by decide) (by kernel_rfl)
noncomputable def iKeyOf_F:FnD:={f:=171,fn:=Tryz.f171,ps:=[pa (.int .i64)],rs:=[rt TPoint]}
noncomputable def iKeyOf_c:List (Nat×Sig):=[(203,iScOf_g),(204,iBase_g),(202,iPointTimes_g)]
noncomputable def iKeyOf_d:Int×Unit→Option ((tPoint×Unit)×Unit):=iKeyOf_F.d V iKeyOf_c
noncomputable abbrev iKeyOf_g:Sig:=iKeyOf_F.t.sig iKeyOf_d
theorem iKeyOf_b (x1:Int):iKeyOf_d (x1,())=bnd (iScOf_d (x1,())) (fun r1=>(bnd (iBase_d ()) (fun r2=>(bnd (iPointTimes_d (r1.1.1,(r2.1.1,()))) (fun r3=>(some ((r3.1.1,()),()))))))):=(FnD.eq V iKeyOf_c iKeyOf_F (x1,())).trans (by kernel_rfl)
theorem iKeyOf_k:CallsOk Tryz.prog gls gvs 171 iKeyOf_g:=FnD.ok (F:=iKeyOf_F) (cs:=iKeyOf_c) V_ok (kC iScOf_k (kC iBase_k (kC iPointTimes_k kN))) Tryz.func171 (by decide) (by kernel_rfl)
noncomputable def iCommitteeOf_F:FnD:={f:=126,fn:=Tryz.f126,ps:=[pa (.int .i64)],rs:=[⟨TCommittee,(.pr (.own 0 .sh) .sh),false⟩],cuts:=[(3,[.val 7 (.sl (.int .i64)) (.own 0 .sh), .val 8 (.int .i64) .sh, .val 9 (.int .i64) .sh, .box 2 TCommittee (.pr (.own 0 .sh) .sh), .box 3 TCommittee (.pr (.own 0 .sh) .sh), .ptr 2 2 0, .ptr 3 3 0])]}
noncomputable def iCommitteeOf_c:List (Nat×Sig):=[(170,iSecretsOf_g),(171,iKeyOf_g)]
noncomputable def iCommitteeOf_d:Int×Unit→Option ((tCommittee×Unit)×Unit):=iCommitteeOf_F.d V iCommitteeOf_c
noncomputable abbrev iCommitteeOf_g:Sig:=iCommitteeOf_F.t.sig iCommitteeOf_d
noncomputable def iCommitteeOf_D3:(List Int)×Int×Int×tCommittee×tCommittee×Unit→Option ((tCommittee×Unit)×Unit):=iCommitteeOf_F.D V iCommitteeOf_c 3
theorem iCommitteeOf_b (x1:Int):iCommitteeOf_d (x1,())=bnd (iSecretsOf_d (x1,())) (fun r1=>(iCommitteeOf_D3 (r1.1.1,((len r1.1.1),(0,(zCommittee,(zCommittee,()))))))):=(FnD.eq V iCommitteeOf_c iCommitteeOf_F (x1,())).trans (by kernel_rfl)
theorem iCommitteeOf_q3 (x1:(List Int)) (x2:Int) (x3:Int) (x4:tCommittee) (x5:tCommittee):iCommitteeOf_D3 (x1,(x2,(x3,(x4,(x5,())))))=cnd (ilt x3 x2) (cnd (inb x3 (len x1)) (bnd (iKeyOf_d ((rd 0 x1 x3),())) (fun r5=>(cnd (fits ((len x5.1)+(len (r5.1.1::([]:List tPoint)))) 3) (iCommitteeOf_D3 (x1,(x2,((iadd .i64 x3 1),(x4,(((app x5.1 (r5.1.1::([]:List tPoint))),x5.2),())))))) none))) none) (some ((x5,()),())):=(FnD.eqC V iCommitteeOf_c iCommitteeOf_F 3 (x1,(x2,(x3,(x4,(x5,())))))).trans (by kernel_rfl)
theorem iCommitteeOf_k:CallsOk Tryz.prog gls gvs 126 iCommitteeOf_g:=FnD.ok (F:=iCommitteeOf_F) (cs:=iCommitteeOf_c) V_ok (kC iSecretsOf_k (kC iKeyOf_k kN)) Tryz.func126 (by decide) (by kernel_rfl)
noncomputable def iChainCommittee_F:FnD:={f:=78,fn:=Tryz.f78,ps:=[pa TChain,pa (.int .i64)],rs:=[⟨TCommittee,(.pr (.own 0 .sh) .sh),false⟩]}
noncomputable def iChainCommittee_c:List (Nat×Sig):=[(127,iSeedOf_g),(126,iCommitteeOf_g)]
noncomputable def iChainCommittee_d:tChain×Int×Unit→Option ((tCommittee×Unit)×Unit):=iChainCommittee_F.d V iChainCommittee_c
noncomputable abbrev iChainCommittee_g:Sig:=iChainCommittee_F.t.sig iChainCommittee_d
theorem iChainCommittee_b (x1:tChain) (x2:Int):iChainCommittee_d (x1,(x2,()))=bnd (iSeedOf_d (x1,(x2,()))) (fun r2=>(bnd (iCommitteeOf_d (r2.1.1,())) (fun r3=>(some ((r3.1.1,()),()))))):=(FnD.eq V iChainCommittee_c iChainCommittee_F (x1,(x2,()))).trans (by kernel_rfl)
theorem iChainCommittee_k:CallsOk Tryz.prog gls gvs 78 iChainCommittee_g:=FnD.ok (F:=iChainCommittee_F) (cs:=iChainCommittee_c) V_ok (kC iSeedOf_k (kC iCommitteeOf_k kN)) Tryz.func78 (by decide) (by kernel_rfl)
noncomputable def g_slices_Reverse_byte_byte_F:FnD:={f:=210,fn:=Tryz.f210,ps:=[⟨(.sl (.int .u8)),(.own 1 .sh),true,false,none⟩],rs:=[],fz:=[1000000003002012,1000000003003012],cuts:=[(1,[.val 0 (.sl (.int .u8)) (.own 1 .sh), .val 2 (.int .i64) .sh, .val 3 (.int .i64) .sh])]}
noncomputable def g_slices_Reverse_byte_byte_c:List (Nat×Sig):=[]
noncomputable def g_slices_Reverse_byte_byte_d:(List Int)×Unit→Option ((Unit)× (List Int)×Unit):=g_slices_Reverse_byte_byte_F.d V g_slices_Reverse_byte_byte_c
noncomputable abbrev g_slices_Reverse_byte_byte_g:Sig:=g_slices_Reverse_byte_byte_F.t.sig g_slices_Reverse_byte_byte_d
noncomputable def g_slices_Reverse_byte_byte_D1:(List Int)×Int×Int×Unit→Option ((Unit)× (List Int)×Unit):=g_slices_Reverse_byte_byte_F.D V g_slices_Reverse_byte_byte_c 1
theorem g_slices_Reverse_byte_byte_b (x1:(List Int)):g_slices_Reverse_byte_byte_d (x1,())=g_slices_Reverse_byte_byte_D1 (x1,(0,((isub .i64 (len x1) 1),()))):=(FnD.eq V g_slices_Reverse_byte_byte_c g_slices_Reverse_byte_byte_F (x1,())).trans (by kernel_rfl)
theorem g_slices_Reverse_byte_byte_q1 (x1:(List Int)) (x2:Int) (x3:Int):g_slices_Reverse_byte_byte_D1 (x1,(x2,(x3,())))=cnd (ilt x2 x3) (cnd (inb x3 (len x1)) (cnd (inb x2 (len x1)) (cnd (inb x2 (len x1)) (cnd (inb x3 (len (upd x1 x2 (rd 0 x1 x3)))) (g_slices_Reverse_byte_byte_D1 ((upd (upd x1 x2 (rd 0 x1 x3)) x3 (rd 0 x1 x2)),((iadd .i64 x2 1),((isub .i64 x3 1),())))) none) none) none) none) (some ((),(x1,()))):=(FnD.eqC V g_slices_Reverse_byte_byte_c g_slices_Reverse_byte_byte_F 1 (x1,(x2,(x3,())))).trans (by kernel_rfl)
theorem g_slices_Reverse_byte_byte_k:CallsOk Tryz.prog gls gvs 210 g_slices_Reverse_byte_byte_g:=FnD.ok (F:=g_slices_Reverse_byte_byte_F) (cs:=g_slices_Reverse_byte_byte_c) V_ok kN Tryz.func210 (by decide) (by kernel_rfl)
noncomputable def iNumText_F:FnD:={f:=179,fn:=Tryz.f179,ps:=[pa (.int .i64)],rs:=[rt .str],cuts:=[(2,[.val 0 (.int .i64) .sh, .val 3 (.sl (.int .u8)) (.own 0 .sh)])]}
noncomputable def iNumText_c:List (Nat×Sig):=[(210,g_slices_Reverse_byte_byte_g)]
noncomputable def iNumText_d:Int×Unit→Option ((ByteArray×Unit)×Unit):=iNumText_F.d V iNumText_c
noncomputable abbrev iNumText_g:Sig:=iNumText_F.t.sig iNumText_d
noncomputable def iNumText_D2:Int× (List Int)×Unit→Option ((ByteArray×Unit)×Unit):=iNumText_F.D V iNumText_c 2
theorem iNumText_b (x1:Int):iNumText_d (x1,())=iNumText_D2 (x1,(([]:List Int),())):=(FnD.eq V iNumText_c iNumText_F (x1,())).trans (by kernel_rfl)
theorem iNumText_q2 (x1:Int) (x2:(List Int)):iNumText_D2 (x1,(x2,()))=cnd (igt x1 0) (cnd (fits ((len x2)+(len ((iconv .u8 x1)::([]:List Int)))) 1) (cnd (nn 8) (iNumText_D2 ((ishr .i64 x1 8),((app x2 ((iconv .u8 x1)::([]:List Int))),()))) none) none) (bnd (g_slices_Reverse_byte_byte_d (x2,())) (fun r2=>(some (((sof r2.2.1),()),())))):=(FnD.eqC V iNumText_c iNumText_F 2 (x1,(x2,()))).trans (by kernel_rfl)
theorem iNumText_k:CallsOk Tryz.prog gls gvs 179 iNumText_g:=FnD.ok (F:=iNumText_F) (cs:=iNumText_c) V_ok (kC g_slices_Reverse_byte_byte_k kN) Tryz.func179 (by decide) (by kernel_rfl)
noncomputable def iNibblesOf_F:FnD:={f:=39,fn:=Tryz.f39,ps:=[pa .str],rs:=[⟨(.sl (.int .i64)),(.own 0 .sh),false⟩],cuts:=[(3,[.val 0 .str .sh, .val 3 (.sl (.int .i64)) (.own 0 .sh), .val 4 (.int .i64) .sh])]}
noncomputable def iNibblesOf_c:List (Nat×Sig):=[]
noncomputable def iNibblesOf_d:ByteArray×Unit→Option (((List Int)×Unit)×Unit):=iNibblesOf_F.d V iNibblesOf_c
noncomputable abbrev iNibblesOf_g:Sig:=iNibblesOf_F.t.sig iNibblesOf_d
noncomputable def iNibblesOf_D3:ByteArray× (List Int)×Int×Unit→Option (((List Int)×Unit)×Unit):=iNibblesOf_F.D V iNibblesOf_c 3
theorem iNibblesOf_b (x1:ByteArray):iNibblesOf_d (x1,())=iNibblesOf_D3 (x1,(([]:List Int),(0,()))):=(FnD.eq V iNibblesOf_c iNibblesOf_F (x1,())).trans (by kernel_rfl)
theorem iNibblesOf_q3 (x1:ByteArray) (x2:(List Int)) (x3:Int):iNibblesOf_D3 (x1,(x2,(x3,())))=cnd (ilt x3 (ssz x1)) (cnd (inb x3 (ssz x1)) (cnd (nn 4) (cnd (inb x3 (ssz x1)) (cnd (fits ((len x2)+(len ((iconv .i64 (ishr .u8 (sat x1 x3) 4))::((iconv .i64 (iand .u8 (sat x1 x3) 15))::([]:List Int))))) 1) (iNibblesOf_D3 (x1,((app x2 ((iconv .i64 (ishr .u8 (sat x1 x3) 4))::((iconv .i64 (iand .u8 (sat x1 x3) 15))::([]:List Int)))),((iadd .i64 x3 1),())))) none) none) none) none) (some ((x2,()),())):=(FnD.eqC V iNibblesOf_c iNibblesOf_F 3 (x1,(x2,(x3,())))).trans (by kernel_rfl)
theorem iNibblesOf_k:CallsOk Tryz.prog gls gvs 39 iNibblesOf_g:=FnD.ok (F:=iNibblesOf_F) (cs:=iNibblesOf_c) V_ok kN Tryz.func39 (by decide) (by kernel_rfl)
noncomputable def iNibblesOk_F:FnD:={f:=143,fn:=Tryz.f143,ps:=[pa (.sl (.int .i64))],rs:=[rt .bool],cuts:=[(2,[.val 0 (.sl (.int .i64)) .sh, .val 5 (.sl (.int .i64)) .sh, .val 6 (.int .i64) .sh, .val 7 (.int .i64) .sh])]}
noncomputable def iNibblesOk_c:List (Nat×Sig):=[]
noncomputable def iNibblesOk_d:(List Int)×Unit→Option ((Bool×Unit)×Unit):=iNibblesOk_F.d V iNibblesOk_c
noncomputable abbrev iNibblesOk_g:Sig:=iNibblesOk_F.t.sig iNibblesOk_d
noncomputable def iNibblesOk_D2:(List Int)× (List Int)×Int×Int×Unit→Option ((Bool×Unit)×Unit):=iNibblesOk_F.D V iNibblesOk_c 2
theorem iNibblesOk_b (x1:(List Int)):iNibblesOk_d (x1,())=iNibblesOk_D2 (x1,(x1,((len x1),(0,())))):=(FnD.eq V iNibblesOk_c iNibblesOk_F (x1,())).trans (by kernel_rfl)
theorem iNibblesOk_q2 (x1:(List Int)) (x2:(List Int)) (x3:Int) (x4:Int):iNibblesOk_D2 (x1,(x2,(x3,(x4,()))))=cnd (ilt x4 x3) (cnd (inb x4 (len x2)) (cnd (ilt (rd 0 x2 x4) 0) (some ((false,()),())) (cnd (igt (rd 0 x2 x4) 15) (some ((false,()),())) (iNibblesOk_D2 (x1,(x2,(x3,((iadd .i64 x4 1),()))))))) none) (some (((ile (len x1) 64),()),())):=(FnD.eqC V iNibblesOk_c iNibblesOk_F 2 (x1,(x2,(x3,(x4,()))))).trans (by kernel_rfl)
theorem iNibblesOk_k:CallsOk Tryz.prog gls gvs 143 iNibblesOk_g:=FnD.ok (F:=iNibblesOk_F) (cs:=iNibblesOk_c) V_ok kN Tryz.func143 (by decide) (by kernel_rfl)
noncomputable def iPrefixText_F:FnD:={f:=94,fn:=Tryz.f94,ps:=[pa (.sl (.int .i64)),pa .bool],rs:=[rt .str,rt .bool],joins:=[6,9],cuts:=[(6,[.val 0 (.sl (.int .i64)) .sh, .val 6 (.int .i64) .sh]),(9,[.val 0 (.sl (.int .i64)) .sh, .val 6 (.int .i64) .sh]),(11,[.val 0 (.sl (.int .i64)) .sh, .val 7 (.sl (.int .u8)) (.own 0 .sh), .val 8 (.int .i64) .sh])]}
noncomputable def iPrefixText_c:List (Nat×Sig):=[(143,iNibblesOk_g)]
noncomputable def iPrefixText_d:(List Int)×Bool×Unit→Option ((ByteArray×Bool×Unit)×Unit):=iPrefixText_F.d V iPrefixText_c
noncomputable abbrev iPrefixText_g:Sig:=iPrefixText_F.t.sig iPrefixText_d
noncomputable def iPrefixText_D6:(List Int)×Int×Unit→Option ((ByteArray×Bool×Unit)×Unit):=iPrefixText_F.D V iPrefixText_c 6
noncomputable def iPrefixText_D9:(List Int)×Int×Unit→Option ((ByteArray×Bool×Unit)×Unit):=iPrefixText_F.D V iPrefixText_c 9
noncomputable def iPrefixText_D11:(List Int)× (List Int)×Int×Unit→Option ((ByteArray×Bool×Unit)×Unit):=iPrefixText_F.D V iPrefixText_c 11
theorem iPrefixText_b (x1:(List Int)) (x2:Bool):iPrefixText_d (x1,(x2,()))=bnd (iNibblesOk_d (x1,())) (fun r2=>(cnd (bnot r2.1.1) (some (zL21Cur,())) (cnd x2 (iPrefixText_D6 (x1,(32,()))) (iPrefixText_D6 (x1,(0,())))))):=(FnD.eq V iPrefixText_c iPrefixText_F (x1,(x2,()))).trans (by kernel_rfl)
theorem iPrefixText_q6 (x1:(List Int)) (x2:Int):iPrefixText_D6 (x1,(x2,()))=cnd (nz 2) (cnd (ieq (irem (len x1) 2) 1) (cnd (inb 0 (len x1)) (cnd (inb2 1 (len x1) (len x1)) (iPrefixText_D9 ((sub x1 1 (len x1)),((iadd .i64 x2 (iadd .i64 16 (rd 0 x1 0))),()))) none) none) (iPrefixText_D9 (x1,(x2,())))) none:=(FnD.eqC V iPrefixText_c iPrefixText_F 6 (x1,(x2,()))).trans (by kernel_rfl)
theorem iPrefixText_q9 (x1:(List Int)) (x2:Int):iPrefixText_D9 (x1,(x2,()))=iPrefixText_D11 (x1,(((iconv .u8 x2)::([]:List Int)),(0,()))):=(FnD.eqC V iPrefixText_c iPrefixText_F 9 (x1,(x2,()))).trans (by kernel_rfl)
theorem iPrefixText_q11 (x1:(List Int)) (x2:(List Int)) (x3:Int):iPrefixText_D11 (x1,(x2,(x3,())))=cnd (ilt x3 (len x1)) (cnd (inb x3 (len x1)) (cnd (nn 4) (cnd (inb (iadd .i64 x3 1) (len x1)) (cnd (fits ((len x2)+(len ((iconv .u8 (ior .i64 (ishl .i64 (rd 0 x1 x3) 4) (rd 0 x1 (iadd .i64 x3 1))))::([]:List Int)))) 1) (iPrefixText_D11 (x1,((app x2 ((iconv .u8 (ior .i64 (ishl .i64 (rd 0 x1 x3) 4) (rd 0 x1 (iadd .i64 x3 1))))::([]:List Int))),((iadd .i64 x3 2),())))) none) none) none) none) (some (((sof x2),(true,())),())):=(FnD.eqC V iPrefixText_c iPrefixText_F 11 (x1,(x2,(x3,())))).trans (by kernel_rfl)
theorem iPrefixText_k:CallsOk Tryz.prog gls gvs 94 iPrefixText_g:=FnD.ok (F:=iPrefixText_F) (cs:=iPrefixText_c) V_ok (kC iNibblesOk_k kN) Tryz.func94 (by decide) (by kernel_rfl)
noncomputable def iCommon_F:FnD:={f:=89,fn:=Tryz.f89,ps:=[pa (.sl (.int .i64)),pa (.sl (.int .i64))],rs:=[rt (.int .i64)],cuts:=[(2,[.val 0 (.sl (.int .i64)) .sh, .val 1 (.sl (.int .i64)) .sh, .val 5 (.int .i64) .sh])]}
noncomputable def iCommon_c:List (Nat×Sig):=[]
noncomputable def iCommon_d:(List Int)× (List Int)×Unit→Option ((Int×Unit)×Unit):=iCommon_F.d V iCommon_c
noncomputable abbrev iCommon_g:Sig:=iCommon_F.t.sig iCommon_d
noncomputable def iCommon_D2:(List Int)× (List Int)×Int×Unit→Option ((Int×Unit)×Unit):=iCommon_F.D V iCommon_c 2
theorem iCommon_b (x1:(List Int)) (x2:(List Int)):iCommon_d (x1,(x2,()))=iCommon_D2 (x1,(x2,(0,()))):=(FnD.eq V iCommon_c iCommon_F (x1,(x2,()))).trans (by kernel_rfl)
theorem iCommon_q2 (x1:(List Int)) (x2:(List Int)) (x3:Int):iCommon_D2 (x1,(x2,(x3,())))=cnd (ilt x3 (len x1)) (cnd (ilt x3 (len x2)) (cnd (inb x3 (len x1)) (cnd (inb x3 (len x2)) (cnd (ieq (rd 0 x1 x3) (rd 0 x2 x3)) (iCommon_D2 (x1,(x2,((iadd .i64 x3 1),())))) (some ((x3,()),()))) none) none) (some ((x3,()),()))) (some ((x3,()),())):=(FnD.eqC V iCommon_c iCommon_F 2 (x1,(x2,(x3,())))).trans (by kernel_rfl)
theorem iCommon_k:CallsOk Tryz.prog gls gvs 89 iCommon_g:=FnD.ok (F:=iCommon_F) (cs:=iCommon_c) V_ok kN Tryz.func89 (by decide) (by kernel_rfl)
noncomputable def iSharedFrom_F:FnD:={f:=48,fn:=Tryz.f48,ps:=[pa (.sl TPair),pa (.int .i64)],rs:=[rt (.int .i64)],cuts:=[(4,[.val 1 (.int .i64) .sh, .val 5 (.sl (.int .i64)) .sh, .val 6 (.int .i64) .sh, .val 19 (.sl TPair) .sh, .val 20 (.int .i64) .sh, .val 21 (.int .i64) .sh])]}
noncomputable def iSharedFrom_c:List (Nat×Sig):=[(39,iNibblesOf_g),(89,iCommon_g)]
noncomputable def iSharedFrom_d:(List tPair)×Int×Unit→Option ((Int×Unit)×Unit):=iSharedFrom_F.d V iSharedFrom_c
noncomputable abbrev iSharedFrom_g:Sig:=iSharedFrom_F.t.sig iSharedFrom_d
noncomputable def iSharedFrom_D4:Int× (List Int)×Int× (List tPair)×Int×Int×Unit→Option ((Int×Unit)×Unit):=iSharedFrom_F.D V iSharedFrom_c 4
theorem iSharedFrom_b (x1:(List tPair)) (x2:Int):iSharedFrom_d (x1,(x2,()))=cnd (inb 0 (len x1)) (bnd (iNibblesOf_d ((rd zPair x1 0).1,())) (fun r2=>(cnd (inb2 x2 (len r2.1.1) (len r2.1.1)) (cnd (inb2 1 (len x1) (len x1)) (iSharedFrom_D4 (x2,((sub r2.1.1 x2 (len r2.1.1)),((len (sub r2.1.1 x2 (len r2.1.1))),((sub x1 1 (len x1)),((len (sub x1 1 (len x1))),(0,()))))))) none) none))) none:=(FnD.eq V iSharedFrom_c iSharedFrom_F (x1,(x2,()))).trans (by kernel_rfl)
theorem iSharedFrom_q4 (x1:Int) (x2:(List Int)) (x3:Int) (x4:(List tPair)) (x5:Int) (x6:Int):iSharedFrom_D4 (x1,(x2,(x3,(x4,(x5,(x6,()))))))=cnd (ilt x6 x5) (cnd (inb x6 (len x4)) (bnd (iNibblesOf_d ((rd zPair x4 x6).1,())) (fun r6=>(cnd (inb2 x1 (len r6.1.1) (len r6.1.1)) (bnd (iCommon_d (x2,((sub r6.1.1 x1 (len r6.1.1)),()))) (fun r7=>(iSharedFrom_D4 (x1,(x2,((imin x3 r7.1.1),(x4,(x5,((iadd .i64 x6 1),()))))))))) none))) none) (some ((x3,()),())):=(FnD.eqC V iSharedFrom_c iSharedFrom_F 4 (x1,(x2,(x3,(x4,(x5,(x6,()))))))).trans (by kernel_rfl)
theorem iSharedFrom_k:CallsOk Tryz.prog gls gvs 48 iSharedFrom_g:=FnD.ok (F:=iSharedFrom_F) (cs:=iSharedFrom_c) V_ok (kC iNibblesOf_k (kC iCommon_k kN)) Tryz.func48 (by decide) (by kernel_rfl)
noncomputable def iItemFits_F:FnD:={f:=138,fn:=Tryz.f138,ps:=[pa .item,pa (.int .i64)],rs:=[rt .bool],cuts:=[(6,[.val 1 (.int .i64) .sh, .val 34 (.sl .item) .sh, .val 35 (.int .i64) .sh, .val 36 (.int .i64) .sh])]}
noncomputable def iItemFits_c:List (Nat×Sig):=[]
noncomputable def iItemFits_d:ItemT×Int×Unit→Option ((Bool×Unit)×Unit):=iItemFits_F.d V iItemFits_c
noncomputable abbrev iItemFits_g:Sig:=iItemFits_F.t.sig iItemFits_d
noncomputable def iItemFits_D6:Int× (List ItemT)×Int×Int×Unit→Option ((Bool×Unit)×Unit):=iItemFits_F.D V iItemFits_c 6
theorem iItemFits_b (x1:ItemT) (x2:Int):iItemFits_d (x1,(x2,()))=cnd (bnot x1.l) (cnd (ile (ssz x1.s) 600) (some (((ieq (len x1.k) 0),()),())) (some ((false,()),()))) (cnd (sne x1.s (bs [])) (some ((false,()),())) (cnd (igt (len x1.k) 17) (some ((false,()),())) (cnd (ieq x2 0) (some ((false,()),())) (iItemFits_D6 (x2,(x1.k,((len x1.k),(0,())))))))):=(FnD.eq V iItemFits_c iItemFits_F (x1,(x2,()))).trans (by kernel_rfl)
theorem iItemFits_q6 (x1:Int) (x2:(List ItemT)) (x3:Int) (x4:Int):iItemFits_D6 (x1,(x2,(x3,(x4,()))))=cnd (ilt x4 x3) (cnd (inb x4 (len x2)) (bnd (iItemFits_d ((rd (ItemT.mk false (bs []) ([]:List ItemT)) x2 x4),((isub .i64 x1 1),()))) (fun r4=>(cnd (bnot r4.1.1) (some ((false,()),())) (iItemFits_D6 (x1,(x2,(x3,((iadd .i64 x4 1),())))))))) none) (some ((true,()),())):=(FnD.eqC V iItemFits_c iItemFits_F 6 (x1,(x2,(x3,(x4,()))))).trans (by kernel_rfl)
theorem iItemFits_k:CallsOk Tryz.prog gls gvs 138 iItemFits_g:=FnD.ok (F:=iItemFits_F) (cs:=iItemFits_c) V_ok kN Tryz.func138 (by decide) (by kernel_rfl)
noncomputable def iItemOk_F:FnD:={f:=92,fn:=Tryz.f92,ps:=[pa .item],rs:=[rt .bool]}
noncomputable def iItemOk_c:List (Nat×Sig):=[(138,iItemFits_g)]
noncomputable def iItemOk_d:ItemT×Unit→Option ((Bool×Unit)×Unit):=iItemOk_F.d V iItemOk_c
noncomputable abbrev iItemOk_g:Sig:=iItemOk_F.t.sig iItemOk_d
theorem iItemOk_b (x1:ItemT):iItemOk_d (x1,())=bnd (iItemFits_d (x1,(4,()))) (fun r1=>(some ((r1.1.1,()),()))):=(FnD.eq V iItemOk_c iItemOk_F (x1,())).trans (by kernel_rfl)
theorem iItemOk_k:CallsOk Tryz.prog gls gvs 92 iItemOk_g:=FnD.ok (F:=iItemOk_F) (cs:=iItemOk_c) V_ok (kC iItemFits_k kN) Tryz.func92 (by decide) (by kernel_rfl)
noncomputable def iLengthText_F:FnD:={f:=139,fn:=Tryz.f139,ps:=[pa (.int .i64),pa (.int .i64)],rs:=[rt .str]}
noncomputable def iLengthText_c:List (Nat×Sig):=[(179,iNumText_g)]
noncomputable def iLengthText_d:Int×Int×Unit→Option ((ByteArray×Unit)×Unit):=iLengthText_F.d V iLengthText_c
noncomputable abbrev iLengthText_g:Sig:=iLengthText_F.t.sig iLengthText_d
theorem iLengthText_b (x1:Int) (x2:Int):iLengthText_d (x1,(x2,()))=cnd (ile x2 55) (some (((sof ((iconv .u8 (iadd .i64 x1 x2))::([]:List Int))),()),())) (bnd (iNumText_d (x2,())) (fun r2=>(cnd (fits ((ssz (sof ((iconv .u8 (iadd .i64 (iadd .i64 x1 55) (ssz r2.1.1)))::([]:List Int))))+(ssz r2.1.1)) 1) (some (((scat (sof ((iconv .u8 (iadd .i64 (iadd .i64 x1 55) (ssz r2.1.1)))::([]:List Int))) r2.1.1),()),())) none))):=(FnD.eq V iLengthText_c iLengthText_F (x1,(x2,()))).trans (by kernel_rfl)
theorem iLengthText_k:CallsOk Tryz.prog gls gvs 139 iLengthText_g:=FnD.ok (F:=iLengthText_F) (cs:=iLengthText_c) V_ok (kC iNumText_k kN) Tryz.func139 (by decide) (by kernel_rfl)
noncomputable def ixItemText0_F:FnD:={f:=93,fn:=Tryz.f93,ps:=[pa .item],rs:=[rt .str,rt .bool],joins:=[4],cuts:=[(4,[.box 1 .item .sh, .ptr 1 1 0])]}
noncomputable def ixItemText0_c:List (Nat×Sig):=[(139,iLengthText_g)]
noncomputable def ixItemText0_d:ItemT×Unit→Option ((ByteArray×Bool×Unit)×Unit):=ixItemText0_F.d V ixItemText0_c
noncomputable abbrev ixItemText0_g:Sig:=ixItemText0_F.t.sig ixItemText0_d
noncomputable def ixItemText0_D4:ItemT×Unit→Option ((ByteArray×Bool×Unit)×Unit):=ixItemText0_F.D V ixItemText0_c 4
theorem ixItemText0_b (x1:ItemT):ixItemText0_d (x1,())=cnd (bnot x1.l) (cnd (ieq (ssz x1.s) 1) (cnd (inb 0 (ssz x1.s)) (cnd (ilt (sat x1.s 0) 128) (some ((x1.s,(true,())),())) (ixItemText0_D4 (x1,()))) none) (ixItemText0_D4 (x1,()))) none:=(FnD.eq V ixItemText0_c ixItemText0_F (x1,())).trans (by kernel_rfl)
theorem ixItemText0_q4 (x1:ItemT):ixItemText0_D4 (x1,())=bnd (iLengthText_d (128,((ssz x1.s),()))) (fun r1=>(cnd (fits ((ssz r1.1.1)+(ssz x1.s)) 1) (some (((scat r1.1.1 x1.s),(true,())),())) none)):=(FnD.eqC V ixItemText0_c ixItemText0_F 4 (x1,())).trans (by kernel_rfl)
theorem ixItemText0_k:CallsOk Tryz.prog gls gvs 93 ixItemText0_g:=FnD.ok (F:=ixItemText0_F) (cs:=ixItemText0_c) V_ok (kC iLengthText_k kN) Tryz.func93 (by decide) (by kernel_rfl)
end Go.Proofs.YtoeiajpklkijgaaGreatDoor
