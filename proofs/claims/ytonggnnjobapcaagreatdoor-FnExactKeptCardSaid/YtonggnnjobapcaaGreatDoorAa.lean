/- What the functions come to: printed by program. Of no condition. -/
import Derived.Test.YtonggnnjobapcaaGreatDoorX0
set_option linter.unusedVariables false
set_option maxRecDepth 100000
namespace Go.Proofs.YtonggnnjobapcaaGreatDoor
open Go.TV
noncomputable def wSzPair_F:FnD:={f:=285,fn:=Tryz.f285,ps:=[pa TPair,pa (.int .i64)],rs:=[rt (.int .i64)]}
noncomputable def wSzPair_c:List (Nat×Sig):=[]
noncomputable def wSzPair_d:tPair×Int×Unit→Option ((Int×Unit)×Unit):=wSzPair_F.d V wSzPair_c
noncomputable abbrev wSzPair_g:Sig:=wSzPair_F.t.sig wSzPair_d
theorem wSzPair_b (x1:tPair) (x2:Int):wSzPair_d (x1,(x2,()))=cnd (ilt (isub .i64 x2 (ssz x1.1)) 0) (some (((-1),()),())) (cnd (ilt (isub .i64 (isub .i64 x2 (ssz x1.1)) (ssz x1.2.1)) 0) (some (((-1),()),())) (some (((isub .i64 (isub .i64 x2 (ssz x1.1)) (ssz x1.2.1)),()),()))):=(FnD.eq V wSzPair_c wSzPair_F (x1,(x2,()))).trans (by kernel_rfl)
theorem wSzPair_k:CallsOk Tryz.prog gls gvs 285 wSzPair_g:=FnD.ok (F:=wSzPair_F) (cs:=wSzPair_c) V_ok kN Tryz.func285 (by decide) (by kernel_rfl)
noncomputable def wSzPairS_F:FnD:={f:=245,fn:=Tryz.f245,ps:=[pa (.sl TPair),pa (.int .i64)],rs:=[rt (.int .i64)],cuts:=[(5,[.val 0 (.sl TPair) .sh, .val 1 (.int .i64) .sh, .val 5 (.int .i64) .sh])]}
noncomputable def wSzPairS_c:List (Nat×Sig):=[(285,wSzPair_g)]
noncomputable def wSzPairS_d:(List tPair)×Int×Unit→Option ((Int×Unit)×Unit):=wSzPairS_F.d V wSzPairS_c
noncomputable abbrev wSzPairS_g:Sig:=wSzPairS_F.t.sig wSzPairS_d
noncomputable def wSzPairS_D5:(List tPair)×Int×Int×Unit→Option ((Int×Unit)×Unit):=wSzPairS_F.D V wSzPairS_c 5
theorem wSzPairS_b (x1:(List tPair)) (x2:Int):wSzPairS_d (x1,(x2,()))=cnd (ilt (isub .i64 x2 (len x1)) 0) (some (((-1),()),())) (wSzPairS_D5 (x1,((isub .i64 x2 (len x1)),(0,())))):=(FnD.eq V wSzPairS_c wSzPairS_F (x1,(x2,()))).trans (by kernel_rfl)
theorem wSzPairS_q5 (x1:(List tPair)) (x2:Int) (x3:Int):wSzPairS_D5 (x1,(x2,(x3,())))=cnd (ilt x3 (len x1)) (cnd (inb x3 (len x1)) (bnd (wSzPair_d ((rd zPair x1 x3),(x2,()))) (fun r3=>(cnd (ilt r3.1.1 0) (some (((-1),()),())) (wSzPairS_D5 (x1,(r3.1.1,((iadd .i64 x3 1),()))))))) none) (some ((x2,()),())):=(FnD.eqC V wSzPairS_c wSzPairS_F 5 (x1,(x2,(x3,())))).trans (by kernel_rfl)
theorem wSzPairS_k:CallsOk Tryz.prog gls gvs 245 wSzPairS_g:=FnD.ok (F:=wSzPairS_F) (cs:=wSzPairS_c) V_ok (kC wSzPair_k kN) Tryz.func245 (by decide) (by kernel_rfl)
noncomputable def wSzAccount_F:FnD:={f:=205,fn:=Tryz.f205,ps:=[pa TAccount,pa (.int .i64)],rs:=[rt (.int .i64)]}
noncomputable def wSzAccount_c:List (Nat×Sig):=[(245,wSzPairS_g)]
noncomputable def wSzAccount_d:tAccount×Int×Unit→Option ((Int×Unit)×Unit):=wSzAccount_F.d V wSzAccount_c
noncomputable abbrev wSzAccount_g:Sig:=wSzAccount_F.t.sig wSzAccount_d
theorem wSzAccount_b (x1:tAccount) (x2:Int):wSzAccount_d (x1,(x2,()))=cnd (ilt (isub .i64 x2 (ssz x1.1)) 0) (some (((-1),()),())) (bnd (wSzPairS_d (x1.2.2.2.1,((isub .i64 x2 (ssz x1.1)),()))) (fun r2=>(cnd (ilt r2.1.1 0) (some (((-1),()),())) (some ((r2.1.1,()),()))))):=(FnD.eq V wSzAccount_c wSzAccount_F (x1,(x2,()))).trans (by kernel_rfl)
theorem wSzAccount_k:CallsOk Tryz.prog gls gvs 205 wSzAccount_g:=FnD.ok (F:=wSzAccount_F) (cs:=wSzAccount_c) V_ok (kC wSzPairS_k kN) Tryz.func205 (by decide) (by kernel_rfl)
noncomputable def wSzAccountS_F:FnD:={f:=144,fn:=Tryz.f144,ps:=[pa (.sl TAccount),pa (.int .i64)],rs:=[rt (.int .i64)],cuts:=[(5,[.val 0 (.sl TAccount) .sh, .val 1 (.int .i64) .sh, .val 5 (.int .i64) .sh])]}
noncomputable def wSzAccountS_c:List (Nat×Sig):=[(205,wSzAccount_g)]
noncomputable def wSzAccountS_d:(List tAccount)×Int×Unit→Option ((Int×Unit)×Unit):=wSzAccountS_F.d V wSzAccountS_c
noncomputable abbrev wSzAccountS_g:Sig:=wSzAccountS_F.t.sig wSzAccountS_d
noncomputable def wSzAccountS_D5:(List tAccount)×Int×Int×Unit→Option ((Int×Unit)×Unit):=wSzAccountS_F.D V wSzAccountS_c 5
theorem wSzAccountS_b (x1:(List tAccount)) (x2:Int):wSzAccountS_d (x1,(x2,()))=cnd (ilt (isub .i64 x2 (len x1)) 0) (some (((-1),()),())) (wSzAccountS_D5 (x1,((isub .i64 x2 (len x1)),(0,())))):=(FnD.eq V wSzAccountS_c wSzAccountS_F (x1,(x2,()))).trans (by kernel_rfl)
theorem wSzAccountS_q5 (x1:(List tAccount)) (x2:Int) (x3:Int):wSzAccountS_D5 (x1,(x2,(x3,())))=cnd (ilt x3 (len x1)) (cnd (inb x3 (len x1)) (bnd (wSzAccount_d ((rd zAccount x1 x3),(x2,()))) (fun r3=>(cnd (ilt r3.1.1 0) (some (((-1),()),())) (wSzAccountS_D5 (x1,(r3.1.1,((iadd .i64 x3 1),()))))))) none) (some ((x2,()),())):=(FnD.eqC V wSzAccountS_c wSzAccountS_F 5 (x1,(x2,(x3,())))).trans (by kernel_rfl)
theorem wSzAccountS_k:CallsOk Tryz.prog gls gvs 144 wSzAccountS_g:=FnD.ok (F:=wSzAccountS_F) (cs:=wSzAccountS_c) V_ok (kC wSzAccount_k kN) Tryz.func144 (by decide) (by kernel_rfl)
noncomputable def wSzChain_F:FnD:={f:=82,fn:=Tryz.f82,ps:=[pa TChain,pa (.int .i64)],rs:=[rt (.int .i64)]}
noncomputable def wSzChain_c:List (Nat×Sig):=[(144,wSzAccountS_g)]
noncomputable def wSzChain_d:tChain×Int×Unit→Option ((Int×Unit)×Unit):=wSzChain_F.d V wSzChain_c
noncomputable abbrev wSzChain_g:Sig:=wSzChain_F.t.sig wSzChain_d
theorem wSzChain_b (x1:tChain) (x2:Int):wSzChain_d (x1,(x2,()))=bnd (wSzAccountS_d (x1.2.1,(x2,()))) (fun r2=>(cnd (ilt r2.1.1 0) (some (((-1),()),())) (some ((r2.1.1,()),())))):=(FnD.eq V wSzChain_c wSzChain_F (x1,(x2,()))).trans (by kernel_rfl)
theorem wSzChain_k:CallsOk Tryz.prog gls gvs 82 wSzChain_g:=FnD.ok (F:=wSzChain_F) (cs:=wSzChain_c) V_ok (kC wSzAccountS_k kN) Tryz.func82 (by decide) (by kernel_rfl)
noncomputable def wSzPointS_F:FnD:={f:=99,fn:=Tryz.f99,ps:=[pa (.sl TPoint),pa (.int .i64)],rs:=[rt (.int .i64)]}
noncomputable def wSzPointS_c:List (Nat×Sig):=[]
noncomputable def wSzPointS_d:(List tPoint)×Int×Unit→Option ((Int×Unit)×Unit):=wSzPointS_F.d V wSzPointS_c
noncomputable abbrev wSzPointS_g:Sig:=wSzPointS_F.t.sig wSzPointS_d
theorem wSzPointS_b (x1:(List tPoint)) (x2:Int):wSzPointS_d (x1,(x2,()))=cnd (ilt (isub .i64 x2 (len x1)) 0) (some (((-1),()),())) (some (((isub .i64 x2 (len x1)),()),())):=(FnD.eq V wSzPointS_c wSzPointS_F (x1,(x2,()))).trans (by kernel_rfl)
theorem wSzPointS_k:CallsOk Tryz.prog gls gvs 99 wSzPointS_g:=FnD.ok (F:=wSzPointS_F) (cs:=wSzPointS_c) V_ok kN Tryz.func99 (by decide) (by kernel_rfl)
noncomputable def wSzKeys_F:FnD:={f:=46,fn:=Tryz.f46,ps:=[pa TKeys,pa (.int .i64)],rs:=[rt (.int .i64)]}
noncomputable def wSzKeys_c:List (Nat×Sig):=[(99,wSzPointS_g)]
noncomputable def wSzKeys_d:tKeys×Int×Unit→Option ((Int×Unit)×Unit):=wSzKeys_F.d V wSzKeys_c
noncomputable abbrev wSzKeys_g:Sig:=wSzKeys_F.t.sig wSzKeys_d
theorem wSzKeys_b (x1:tKeys) (x2:Int):wSzKeys_d (x1,(x2,()))=bnd (wSzPointS_d (x1.2.2.2.2.1,(x2,()))) (fun r2=>(cnd (ilt r2.1.1 0) (some (((-1),()),())) (some ((r2.1.1,()),())))):=(FnD.eq V wSzKeys_c wSzKeys_F (x1,(x2,()))).trans (by kernel_rfl)
theorem wSzKeys_k:CallsOk Tryz.prog gls gvs 46 wSzKeys_g:=FnD.ok (F:=wSzKeys_F) (cs:=wSzKeys_c) V_ok (kC wSzPointS_k kN) Tryz.func46 (by decide) (by kernel_rfl)
noncomputable def wSzMaker_F:FnD:={f:=83,fn:=Tryz.f83,ps:=[pa TMaker,pa (.int .i64)],rs:=[rt (.int .i64)]}
noncomputable def wSzMaker_c:List (Nat×Sig):=[(46,wSzKeys_g),(99,wSzPointS_g)]
noncomputable def wSzMaker_d:tMaker×Int×Unit→Option ((Int×Unit)×Unit):=wSzMaker_F.d V wSzMaker_c
noncomputable abbrev wSzMaker_g:Sig:=wSzMaker_F.t.sig wSzMaker_d
theorem wSzMaker_b (x1:tMaker) (x2:Int):wSzMaker_d (x1,(x2,()))=bnd (wSzKeys_d (x1.1,(x2,()))) (fun r2=>(cnd (ilt r2.1.1 0) (some (((-1),()),())) (bnd (wSzPointS_d (x1.2.1,(r2.1.1,()))) (fun r3=>(cnd (ilt r3.1.1 0) (some (((-1),()),())) (bnd (wSzPointS_d (x1.2.2.1,(r3.1.1,()))) (fun r4=>(cnd (ilt r4.1.1 0) (some (((-1),()),())) (bnd (wSzPointS_d (x1.2.2.2.1,(r4.1.1,()))) (fun r5=>(cnd (ilt r5.1.1 0) (some (((-1),()),())) (bnd (wSzPointS_d (x1.2.2.2.2.1,(r5.1.1,()))) (fun r6=>(cnd (ilt r6.1.1 0) (some (((-1),()),())) (some ((r6.1.1,()),())))))))))))))))):=(FnD.eq V wSzMaker_c wSzMaker_F (x1,(x2,()))).trans (by kernel_rfl)
theorem wSzMaker_k:CallsOk Tryz.prog gls gvs 83 wSzMaker_g:=FnD.ok (F:=wSzMaker_F) (cs:=wSzMaker_c) V_ok (kC wSzKeys_k (kC wSzPointS_k kN)) Tryz.func83 (by decide) (by kernel_rfl)
noncomputable def wSzHead_F:FnD:={f:=44,fn:=Tryz.f44,ps:=[pa THead,pa (.int .i64)],rs:=[rt (.int .i64)]}
noncomputable def wSzHead_c:List (Nat×Sig):=[]
noncomputable def wSzHead_d:tHead×Int×Unit→Option ((Int×Unit)×Unit):=wSzHead_F.d V wSzHead_c
noncomputable abbrev wSzHead_g:Sig:=wSzHead_F.t.sig wSzHead_d
theorem wSzHead_b (x1:tHead) (x2:Int):wSzHead_d (x1,(x2,()))=cnd (ilt (isub .i64 x2 (ssz x1.2.1)) 0) (some (((-1),()),())) (cnd (ilt (isub .i64 (isub .i64 x2 (ssz x1.2.1)) (ssz x1.2.2.1)) 0) (some (((-1),()),())) (cnd (ilt (isub .i64 (isub .i64 (isub .i64 x2 (ssz x1.2.1)) (ssz x1.2.2.1)) (ssz x1.2.2.2.1)) 0) (some (((-1),()),())) (some (((isub .i64 (isub .i64 (isub .i64 x2 (ssz x1.2.1)) (ssz x1.2.2.1)) (ssz x1.2.2.2.1)),()),())))):=(FnD.eq V wSzHead_c wSzHead_F (x1,(x2,()))).trans (by kernel_rfl)
theorem wSzHead_k:CallsOk Tryz.prog gls gvs 44 wSzHead_g:=FnD.ok (F:=wSzHead_F) (cs:=wSzHead_c) V_ok kN Tryz.func44 (by decide) (by kernel_rfl)
noncomputable def wSzCommittee_F:FnD:={f:=45,fn:=Tryz.f45,ps:=[pa TCommittee,pa (.int .i64)],rs:=[rt (.int .i64)]}
noncomputable def wSzCommittee_c:List (Nat×Sig):=[(99,wSzPointS_g)]
noncomputable def wSzCommittee_d:tCommittee×Int×Unit→Option ((Int×Unit)×Unit):=wSzCommittee_F.d V wSzCommittee_c
noncomputable abbrev wSzCommittee_g:Sig:=wSzCommittee_F.t.sig wSzCommittee_d
theorem wSzCommittee_b (x1:tCommittee) (x2:Int):wSzCommittee_d (x1,(x2,()))=bnd (wSzPointS_d (x1.1,(x2,()))) (fun r2=>(cnd (ilt r2.1.1 0) (some (((-1),()),())) (some ((r2.1.1,()),())))):=(FnD.eq V wSzCommittee_c wSzCommittee_F (x1,(x2,()))).trans (by kernel_rfl)
theorem wSzCommittee_k:CallsOk Tryz.prog gls gvs 45 wSzCommittee_g:=FnD.ok (F:=wSzCommittee_F) (cs:=wSzCommittee_c) V_ok (kC wSzPointS_k kN) Tryz.func45 (by decide) (by kernel_rfl)
noncomputable def wSzClient_F:FnD:={f:=14,fn:=Tryz.f14,ps:=[pa TClient,pa (.int .i64)],rs:=[rt (.int .i64)]}
noncomputable def wSzClient_c:List (Nat×Sig):=[(44,wSzHead_g),(45,wSzCommittee_g),(46,wSzKeys_g)]
noncomputable def wSzClient_d:tClient×Int×Unit→Option ((Int×Unit)×Unit):=wSzClient_F.d V wSzClient_c
noncomputable abbrev wSzClient_g:Sig:=wSzClient_F.t.sig wSzClient_d
theorem wSzClient_b (x1:tClient) (x2:Int):wSzClient_d (x1,(x2,()))=bnd (wSzHead_d (x1.1,(x2,()))) (fun r2=>(cnd (ilt r2.1.1 0) (some (((-1),()),())) (bnd (wSzCommittee_d (x1.2.1,(r2.1.1,()))) (fun r3=>(cnd (ilt r3.1.1 0) (some (((-1),()),())) (bnd (wSzCommittee_d (x1.2.2.1,(r3.1.1,()))) (fun r4=>(cnd (ilt r4.1.1 0) (some (((-1),()),())) (bnd (wSzKeys_d (x1.2.2.2.2.1,(r4.1.1,()))) (fun r5=>(cnd (ilt r5.1.1 0) (some (((-1),()),())) (some ((r5.1.1,()),()))))))))))))):=(FnD.eq V wSzClient_c wSzClient_F (x1,(x2,()))).trans (by kernel_rfl)
theorem wSzClient_k:CallsOk Tryz.prog gls gvs 14 wSzClient_g:=FnD.ok (F:=wSzClient_F) (cs:=wSzClient_c) V_ok (kC wSzHead_k (kC wSzCommittee_k (kC wSzKeys_k kN))) Tryz.func14 (by decide) (by kernel_rfl)
noncomputable def wSzStringS_F:FnD:={f:=34,fn:=Tryz.f34,ps:=[pa (.sl .str),pa (.int .i64)],rs:=[rt (.int .i64)],cuts:=[(5,[.val 0 (.sl .str) .sh, .val 1 (.int .i64) .sh, .val 5 (.int .i64) .sh])]}
noncomputable def wSzStringS_c:List (Nat×Sig):=[]
noncomputable def wSzStringS_d:(List ByteArray)×Int×Unit→Option ((Int×Unit)×Unit):=wSzStringS_F.d V wSzStringS_c
noncomputable abbrev wSzStringS_g:Sig:=wSzStringS_F.t.sig wSzStringS_d
noncomputable def wSzStringS_D5:(List ByteArray)×Int×Int×Unit→Option ((Int×Unit)×Unit):=wSzStringS_F.D V wSzStringS_c 5
theorem wSzStringS_b (x1:(List ByteArray)) (x2:Int):wSzStringS_d (x1,(x2,()))=cnd (ilt (isub .i64 x2 (len x1)) 0) (some (((-1),()),())) (wSzStringS_D5 (x1,((isub .i64 x2 (len x1)),(0,())))):=(FnD.eq V wSzStringS_c wSzStringS_F (x1,(x2,()))).trans (by kernel_rfl)
theorem wSzStringS_q5 (x1:(List ByteArray)) (x2:Int) (x3:Int):wSzStringS_D5 (x1,(x2,(x3,())))=cnd (ilt x3 (len x1)) (cnd (inb x3 (len x1)) (cnd (ilt (isub .i64 x2 (ssz (rd (bs []) x1 x3))) 0) (some (((-1),()),())) (wSzStringS_D5 (x1,((isub .i64 x2 (ssz (rd (bs []) x1 x3))),((iadd .i64 x3 1),()))))) none) (some ((x2,()),())):=(FnD.eqC V wSzStringS_c wSzStringS_F 5 (x1,(x2,(x3,())))).trans (by kernel_rfl)
theorem wSzStringS_k:CallsOk Tryz.prog gls gvs 34 wSzStringS_g:=FnD.ok (F:=wSzStringS_F) (cs:=wSzStringS_c) V_ok kN Tryz.func34 (by decide) (by kernel_rfl)
noncomputable def wSzBridge_F:FnD:={f:=9,fn:=Tryz.f9,ps:=[pa TBridge,pa (.int .i64)],rs:=[rt (.int .i64)]}
noncomputable def wSzBridge_c:List (Nat×Sig):=[(14,wSzClient_g),(34,wSzStringS_g)]
noncomputable def wSzBridge_d:tBridge×Int×Unit→Option ((Int×Unit)×Unit):=wSzBridge_F.d V wSzBridge_c
noncomputable abbrev wSzBridge_g:Sig:=wSzBridge_F.t.sig wSzBridge_d
theorem wSzBridge_b (x1:tBridge) (x2:Int):wSzBridge_d (x1,(x2,()))=bnd (wSzClient_d (x1.1,(x2,()))) (fun r2=>(cnd (ilt r2.1.1 0) (some (((-1),()),())) (bnd (wSzClient_d (x1.2.1,(r2.1.1,()))) (fun r3=>(cnd (ilt r3.1.1 0) (some (((-1),()),())) (cnd (ilt (isub .i64 r3.1.1 (ssz x1.2.2.1)) 0) (some (((-1),()),())) (bnd (wSzStringS_d (x1.2.2.2.2.1,((isub .i64 r3.1.1 (ssz x1.2.2.1)),()))) (fun r4=>(cnd (ilt r4.1.1 0) (some (((-1),()),())) (some ((r4.1.1,()),()))))))))))):=(FnD.eq V wSzBridge_c wSzBridge_F (x1,(x2,()))).trans (by kernel_rfl)
theorem wSzBridge_k:CallsOk Tryz.prog gls gvs 9 wSzBridge_g:=FnD.ok (F:=wSzBridge_F) (cs:=wSzBridge_c) V_ok (kC wSzClient_k (kC wSzStringS_k kN)) Tryz.func9 (by decide) (by kernel_rfl)
noncomputable def wSzIntS_F:FnD:={f:=84,fn:=Tryz.f84,ps:=[pa (.sl (.int .i64)),pa (.int .i64)],rs:=[rt (.int .i64)]}
noncomputable def wSzIntS_c:List (Nat×Sig):=[]
noncomputable def wSzIntS_d:(List Int)×Int×Unit→Option ((Int×Unit)×Unit):=wSzIntS_F.d V wSzIntS_c
noncomputable abbrev wSzIntS_g:Sig:=wSzIntS_F.t.sig wSzIntS_d
theorem wSzIntS_b (x1:(List Int)) (x2:Int):wSzIntS_d (x1,(x2,()))=cnd (ilt (isub .i64 x2 (len x1)) 0) (some (((-1),()),())) (some (((isub .i64 x2 (len x1)),()),())):=(FnD.eq V wSzIntS_c wSzIntS_F (x1,(x2,()))).trans (by kernel_rfl)
theorem wSzIntS_k:CallsOk Tryz.prog gls gvs 84 wSzIntS_g:=FnD.ok (F:=wSzIntS_F) (cs:=wSzIntS_c) V_ok kN Tryz.func84 (by decide) (by kernel_rfl)
noncomputable def wSzWorld_F:FnD:={f:=29,fn:=Tryz.f29,ps:=[pa TWorld,pa (.int .i64)],rs:=[rt (.int .i64)]}
noncomputable def wSzWorld_c:List (Nat×Sig):=[(82,wSzChain_g),(83,wSzMaker_g),(9,wSzBridge_g),(84,wSzIntS_g),(34,wSzStringS_g)]
noncomputable def wSzWorld_d:tWorld×Int×Unit→Option ((Int×Unit)×Unit):=wSzWorld_F.d V wSzWorld_c
noncomputable abbrev wSzWorld_g:Sig:=wSzWorld_F.t.sig wSzWorld_d
theorem wSzWorld_b (x1:tWorld) (x2:Int):wSzWorld_d (x1,(x2,()))=bnd (wSzChain_d (x1.1,(x2,()))) (fun r2=>(cnd (ilt r2.1.1 0) (some (((-1),()),())) (bnd (wSzMaker_d (x1.2.1,(r2.1.1,()))) (fun r3=>(cnd (ilt r3.1.1 0) (some (((-1),()),())) (bnd (wSzBridge_d (x1.2.2.1,(r3.1.1,()))) (fun r4=>(cnd (ilt r4.1.1 0) (some (((-1),()),())) (bnd (wSzIntS_d (x1.2.2.2.1,(r4.1.1,()))) (fun r5=>(cnd (ilt r5.1.1 0) (some (((-1),()),())) (bnd (wSzStringS_d (x1.2.2.2.2.1,(r5.1.1,()))) (fun r6=>(cnd (ilt r6.1.1 0) (some (((-1),()),())) (some ((r6.1.1,()),())))))))))))))))):=(FnD.eq V wSzWorld_c wSzWorld_F (x1,(x2,()))).trans (by kernel_rfl)
theorem wSzWorld_k:CallsOk Tryz.prog gls gvs 29 wSzWorld_g:=FnD.ok (F:=wSzWorld_F) (cs:=wSzWorld_c) V_ok (kC wSzChain_k (kC wSzMaker_k (kC wSzBridge_k (kC wSzIntS_k (kC wSzStringS_k kN))))) Tryz.func29 (by decide) (by kernel_rfl)
noncomputable def wToPair_F:FnD:={f:=286,fn:=Tryz.f286,ps:=[pa TPair],rs:=[rt TPair]}
noncomputable def wToPair_c:List (Nat×Sig):=[]
noncomputable def wToPair_d:tPair×Unit→Option ((tPair×Unit)×Unit):=wToPair_F.d V wToPair_c
noncomputable abbrev wToPair_g:Sig:=wToPair_F.t.sig wToPair_d
theorem wToPair_b (x1:tPair):wToPair_d (x1,())=some (((x1.1,(x1.2.1,())),()),()):=(FnD.eq V wToPair_c wToPair_F (x1,())).trans (by kernel_rfl)
theorem wToPair_k:CallsOk Tryz.prog gls gvs 286 wToPair_g:=FnD.ok (F:=wToPair_F) (cs:=wToPair_c) V_ok kN Tryz.func286 (by decide) (by kernel_rfl)
noncomputable def wToPairS_F:FnD:={f:=246,fn:=Tryz.f246,ps:=[pa (.sl TPair)],rs:=[⟨(.sl TPair),(.own 0 .sh),false⟩],cuts:=[(3,[.val 0 (.sl TPair) .sh, .val 3 (.sl TPair) (.own 0 .sh), .val 4 (.int .i64) .sh])]}
noncomputable def wToPairS_c:List (Nat×Sig):=[(286,wToPair_g)]
noncomputable def wToPairS_d:(List tPair)×Unit→Option (((List tPair)×Unit)×Unit):=wToPairS_F.d V wToPairS_c
noncomputable abbrev wToPairS_g:Sig:=wToPairS_F.t.sig wToPairS_d
noncomputable def wToPairS_D3:(List tPair)× (List tPair)×Int×Unit→Option (((List tPair)×Unit)×Unit):=wToPairS_F.D V wToPairS_c 3
theorem wToPairS_b (x1:(List tPair)):wToPairS_d (x1,())=cnd (both (inb2 0 (len x1) (len x1)) (fits (len x1) 2)) (wToPairS_D3 (x1,((rep (len x1) zPair),(0,())))) none:=(FnD.eq V wToPairS_c wToPairS_F (x1,())).trans (by kernel_rfl)
theorem wToPairS_q3 (x1:(List tPair)) (x2:(List tPair)) (x3:Int):wToPairS_D3 (x1,(x2,(x3,())))=cnd (ilt x3 (len x1)) (cnd (inb x3 (len x1)) (bnd (wToPair_d ((rd zPair x1 x3),())) (fun r3=>(cnd (inb x3 (len x2)) (wToPairS_D3 (x1,((upd x2 x3 r3.1.1),((iadd .i64 x3 1),())))) none))) none) (some ((x2,()),())):=(FnD.eqC V wToPairS_c wToPairS_F 3 (x1,(x2,(x3,())))).trans (by kernel_rfl)
theorem wToPairS_k:CallsOk Tryz.prog gls gvs 246 wToPairS_g:=FnD.ok (F:=wToPairS_F) (cs:=wToPairS_c) V_ok (kC wToPair_k kN) Tryz.func246 (by decide) (by kernel_rfl)
noncomputable def wToAccount_F:FnD:={f:=206,fn:=Tryz.f206,ps:=[pa TAccount],rs:=[⟨TAccount,(.pr .sh (.pr .sh (.pr .sh (.pr (.own 0 .sh) .sh)))),false⟩]}
noncomputable def wToAccount_c:List (Nat×Sig):=[(246,wToPairS_g)]
noncomputable def wToAccount_d:tAccount×Unit→Option ((tAccount×Unit)×Unit):=wToAccount_F.d V wToAccount_c
noncomputable abbrev wToAccount_g:Sig:=wToAccount_F.t.sig wToAccount_d
theorem wToAccount_b (x1:tAccount):wToAccount_d (x1,())=bnd (wToPairS_d (x1.2.2.2.1,())) (fun r1=>(some (((x1.1,(x1.2.1,(x1.2.2.1,(r1.1.1,())))),()),()))):=(FnD.eq V wToAccount_c wToAccount_F (x1,())).trans (by kernel_rfl)
theorem wToAccount_k:CallsOk Tryz.prog gls gvs 206 wToAccount_g:=FnD.ok (F:=wToAccount_F) (cs:=wToAccount_c) V_ok (kC wToPairS_k kN) Tryz.func206 (by decide) (by kernel_rfl)
noncomputable def wToAccountS_F:FnD:={f:=145,fn:=Tryz.f145,ps:=[pa (.sl TAccount)],rs:=[⟨(.sl TAccount),(.own 0 (.pr .sh (.pr .sh (.pr .sh (.pr (.own 0 .sh) .sh))))),false⟩],cuts:=[(3,[.val 0 (.sl TAccount) .sh, .val 3 (.sl TAccount) (.own 0 (.pr .sh (.pr .sh (.pr .sh (.pr (.own 0 .sh) .sh))))), .val 4 (.int .i64) .sh])]}
noncomputable def wToAccountS_c:List (Nat×Sig):=[(206,wToAccount_g)]
noncomputable def wToAccountS_d:(List tAccount)×Unit→Option (((List tAccount)×Unit)×Unit):=wToAccountS_F.d V wToAccountS_c
noncomputable abbrev wToAccountS_g:Sig:=wToAccountS_F.t.sig wToAccountS_d
noncomputable def wToAccountS_D3:(List tAccount)× (List tAccount)×Int×Unit→Option (((List tAccount)×Unit)×Unit):=wToAccountS_F.D V wToAccountS_c 3
theorem wToAccountS_b (x1:(List tAccount)):wToAccountS_d (x1,())=cnd (both (inb2 0 (len x1) (len x1)) (fits (len x1) 4)) (wToAccountS_D3 (x1,((rep (len x1) zAccount),(0,())))) none:=(FnD.eq V wToAccountS_c wToAccountS_F (x1,())).trans (by kernel_rfl)
theorem wToAccountS_q3 (x1:(List tAccount)) (x2:(List tAccount)) (x3:Int):wToAccountS_D3 (x1,(x2,(x3,())))=cnd (ilt x3 (len x1)) (cnd (inb x3 (len x1)) (bnd (wToAccount_d ((rd zAccount x1 x3),())) (fun r3=>(cnd (inb x3 (len x2)) (wToAccountS_D3 (x1,((upd x2 x3 r3.1.1),((iadd .i64 x3 1),())))) none))) none) (some ((x2,()),())):=(FnD.eqC V wToAccountS_c wToAccountS_F 3 (x1,(x2,(x3,())))).trans (by kernel_rfl)
theorem wToAccountS_k:CallsOk Tryz.prog gls gvs 145 wToAccountS_g:=FnD.ok (F:=wToAccountS_F) (cs:=wToAccountS_c) V_ok (kC wToAccount_k kN) Tryz.func145 (by decide) (by kernel_rfl)
noncomputable def wToChain_F:FnD:={f:=85,fn:=Tryz.f85,ps:=[pa TChain],rs:=[⟨TChain,(.pr .sh (.pr (.own 0 (.pr .sh (.pr .sh (.pr .sh (.pr (.own 0 .sh) .sh))))) .sh)),false⟩]}
noncomputable def wToChain_c:List (Nat×Sig):=[(145,wToAccountS_g)]
noncomputable def wToChain_d:tChain×Unit→Option ((tChain×Unit)×Unit):=wToChain_F.d V wToChain_c
noncomputable abbrev wToChain_g:Sig:=wToChain_F.t.sig wToChain_d
theorem wToChain_b (x1:tChain):wToChain_d (x1,())=bnd (wToAccountS_d (x1.2.1,())) (fun r1=>(some (((x1.1,(r1.1.1,())),()),()))):=(FnD.eq V wToChain_c wToChain_F (x1,())).trans (by kernel_rfl)
theorem wToChain_k:CallsOk Tryz.prog gls gvs 85 wToChain_g:=FnD.ok (F:=wToChain_F) (cs:=wToChain_c) V_ok (kC wToAccountS_k kN) Tryz.func85 (by decide) (by kernel_rfl)
noncomputable def wToPoint_F:FnD:={f:=113,fn:=Tryz.f113,ps:=[pa TPoint],rs:=[rt TPoint]}
noncomputable def wToPoint_c:List (Nat×Sig):=[]
noncomputable def wToPoint_d:tPoint×Unit→Option ((tPoint×Unit)×Unit):=wToPoint_F.d V wToPoint_c
noncomputable abbrev wToPoint_g:Sig:=wToPoint_F.t.sig wToPoint_d
theorem wToPoint_b (x1:tPoint):wToPoint_d (x1,())=some (((x1.1,(x1.2.1,(x1.2.2.1,()))),()),()):=(FnD.eq V wToPoint_c wToPoint_F (x1,())).trans (by kernel_rfl)
theorem wToPoint_k:CallsOk Tryz.prog gls gvs 113 wToPoint_g:=FnD.ok (F:=wToPoint_F) (cs:=wToPoint_c) V_ok kN Tryz.func113 (by decide) (by kernel_rfl)
noncomputable def wToPointS_F:FnD:={f:=112,fn:=Tryz.f112,ps:=[pa (.sl TPoint)],rs:=[⟨(.sl TPoint),(.own 0 .sh),false⟩],cuts:=[(3,[.val 0 (.sl TPoint) .sh, .val 3 (.sl TPoint) (.own 0 .sh), .val 4 (.int .i64) .sh])]}
noncomputable def wToPointS_c:List (Nat×Sig):=[(113,wToPoint_g)]
noncomputable def wToPointS_d:(List tPoint)×Unit→Option (((List tPoint)×Unit)×Unit):=wToPointS_F.d V wToPointS_c
noncomputable abbrev wToPointS_g:Sig:=wToPointS_F.t.sig wToPointS_d
noncomputable def wToPointS_D3:(List tPoint)× (List tPoint)×Int×Unit→Option (((List tPoint)×Unit)×Unit):=wToPointS_F.D V wToPointS_c 3
theorem wToPointS_b (x1:(List tPoint)):wToPointS_d (x1,())=cnd (both (inb2 0 (len x1) (len x1)) (fits (len x1) 3)) (wToPointS_D3 (x1,((rep (len x1) zPoint),(0,())))) none:=(FnD.eq V wToPointS_c wToPointS_F (x1,())).trans (by kernel_rfl)
theorem wToPointS_q3 (x1:(List tPoint)) (x2:(List tPoint)) (x3:Int):wToPointS_D3 (x1,(x2,(x3,())))=cnd (ilt x3 (len x1)) (cnd (inb x3 (len x1)) (bnd (wToPoint_d ((rd zPoint x1 x3),())) (fun r3=>(cnd (inb x3 (len x2)) (wToPointS_D3 (x1,((upd x2 x3 r3.1.1),((iadd .i64 x3 1),())))) none))) none) (some ((x2,()),())):=(FnD.eqC V wToPointS_c wToPointS_F 3 (x1,(x2,(x3,())))).trans (by kernel_rfl)
theorem wToPointS_k:CallsOk Tryz.prog gls gvs 112 wToPointS_g:=FnD.ok (F:=wToPointS_F) (cs:=wToPointS_c) V_ok (kC wToPoint_k kN) Tryz.func112 (by decide) (by kernel_rfl)
noncomputable def wToKeys_F:FnD:={f:=52,fn:=Tryz.f52,ps:=[pa TKeys],rs:=[⟨TKeys,(.pr .sh (.pr .sh (.pr .sh (.pr .sh (.pr (.own 0 .sh) .sh))))),false⟩]}
noncomputable def wToKeys_c:List (Nat×Sig):=[(113,wToPoint_g),(112,wToPointS_g)]
noncomputable def wToKeys_d:tKeys×Unit→Option ((tKeys×Unit)×Unit):=wToKeys_F.d V wToKeys_c
noncomputable abbrev wToKeys_g:Sig:=wToKeys_F.t.sig wToKeys_d
theorem wToKeys_b (x1:tKeys):wToKeys_d (x1,())=bnd (wToPoint_d (x1.1,())) (fun r1=>(bnd (wToPoint_d (x1.2.1,())) (fun r2=>(bnd (wToPoint_d (x1.2.2.1,())) (fun r3=>(bnd (wToPoint_d (x1.2.2.2.1,())) (fun r4=>(bnd (wToPointS_d (x1.2.2.2.2.1,())) (fun r5=>(some (((r1.1.1,(r2.1.1,(r3.1.1,(r4.1.1,(r5.1.1,()))))),()),()))))))))))):=(FnD.eq V wToKeys_c wToKeys_F (x1,())).trans (by kernel_rfl)
theorem wToKeys_k:CallsOk Tryz.prog gls gvs 52 wToKeys_g:=FnD.ok (F:=wToKeys_F) (cs:=wToKeys_c) V_ok (kC wToPoint_k (kC wToPointS_k kN)) Tryz.func52 (by decide) (by kernel_rfl)
noncomputable def wToMaker_F:FnD:={f:=86,fn:=Tryz.f86,ps:=[pa TMaker],rs:=[⟨TMaker,(.pr (.pr .sh (.pr .sh (.pr .sh (.pr .sh (.pr (.own 0 .sh) .sh))))) (.pr (.own 0 .sh) (.pr (.own 0 .sh) (.pr (.own 0 .sh) (.pr (.own 0 .sh) .sh))))),false⟩]}
noncomputable def wToMaker_c:List (Nat×Sig):=[(52,wToKeys_g),(112,wToPointS_g)]
noncomputable def wToMaker_d:tMaker×Unit→Option ((tMaker×Unit)×Unit):=wToMaker_F.d V wToMaker_c
noncomputable abbrev wToMaker_g:Sig:=wToMaker_F.t.sig wToMaker_d
theorem wToMaker_b (x1:tMaker):wToMaker_d (x1,())=bnd (wToKeys_d (x1.1,())) (fun r1=>(bnd (wToPointS_d (x1.2.1,())) (fun r2=>(bnd (wToPointS_d (x1.2.2.1,())) (fun r3=>(bnd (wToPointS_d (x1.2.2.2.1,())) (fun r4=>(bnd (wToPointS_d (x1.2.2.2.2.1,())) (fun r5=>(some (((r1.1.1,(r2.1.1,(r3.1.1,(r4.1.1,(r5.1.1,()))))),()),()))))))))))):=(FnD.eq V wToMaker_c wToMaker_F (x1,())).trans (by kernel_rfl)
theorem wToMaker_k:CallsOk Tryz.prog gls gvs 86 wToMaker_g:=FnD.ok (F:=wToMaker_F) (cs:=wToMaker_c) V_ok (kC wToKeys_k (kC wToPointS_k kN)) Tryz.func86 (by decide) (by kernel_rfl)
noncomputable def wToHead_F:FnD:={f:=50,fn:=Tryz.f50,ps:=[pa THead],rs:=[rt THead]}
noncomputable def wToHead_c:List (Nat×Sig):=[]
noncomputable def wToHead_d:tHead×Unit→Option ((tHead×Unit)×Unit):=wToHead_F.d V wToHead_c
noncomputable abbrev wToHead_g:Sig:=wToHead_F.t.sig wToHead_d
theorem wToHead_b (x1:tHead):wToHead_d (x1,())=some (((x1.1,(x1.2.1,(x1.2.2.1,(x1.2.2.2.1,())))),()),()):=(FnD.eq V wToHead_c wToHead_F (x1,())).trans (by kernel_rfl)
theorem wToHead_k:CallsOk Tryz.prog gls gvs 50 wToHead_g:=FnD.ok (F:=wToHead_F) (cs:=wToHead_c) V_ok kN Tryz.func50 (by decide) (by kernel_rfl)
noncomputable def wToCommittee_F:FnD:={f:=51,fn:=Tryz.f51,ps:=[pa TCommittee],rs:=[⟨TCommittee,(.pr (.own 0 .sh) .sh),false⟩]}
noncomputable def wToCommittee_c:List (Nat×Sig):=[(112,wToPointS_g)]
noncomputable def wToCommittee_d:tCommittee×Unit→Option ((tCommittee×Unit)×Unit):=wToCommittee_F.d V wToCommittee_c
noncomputable abbrev wToCommittee_g:Sig:=wToCommittee_F.t.sig wToCommittee_d
theorem wToCommittee_b (x1:tCommittee):wToCommittee_d (x1,())=bnd (wToPointS_d (x1.1,())) (fun r1=>(some (((r1.1.1,()),()),()))):=(FnD.eq V wToCommittee_c wToCommittee_F (x1,())).trans (by kernel_rfl)
theorem wToCommittee_k:CallsOk Tryz.prog gls gvs 51 wToCommittee_g:=FnD.ok (F:=wToCommittee_F) (cs:=wToCommittee_c) V_ok (kC wToPointS_k kN) Tryz.func51 (by decide) (by kernel_rfl)
noncomputable def wToClient_F:FnD:={f:=16,fn:=Tryz.f16,ps:=[pa TClient],rs:=[⟨TClient,(.pr .sh (.pr (.pr (.own 0 .sh) .sh) (.pr (.pr (.own 0 .sh) .sh) (.pr .sh (.pr (.pr .sh (.pr .sh (.pr .sh (.pr .sh (.pr (.own 0 .sh) .sh))))) .sh))))),false⟩]}
noncomputable def wToClient_c:List (Nat×Sig):=[(50,wToHead_g),(51,wToCommittee_g),(52,wToKeys_g)]
noncomputable def wToClient_d:tClient×Unit→Option ((tClient×Unit)×Unit):=wToClient_F.d V wToClient_c
noncomputable abbrev wToClient_g:Sig:=wToClient_F.t.sig wToClient_d
theorem wToClient_b (x1:tClient):wToClient_d (x1,())=bnd (wToHead_d (x1.1,())) (fun r1=>(bnd (wToCommittee_d (x1.2.1,())) (fun r2=>(bnd (wToCommittee_d (x1.2.2.1,())) (fun r3=>(bnd (wToKeys_d (x1.2.2.2.2.1,())) (fun r4=>(some (((r1.1.1,(r2.1.1,(r3.1.1,(x1.2.2.2.1,(r4.1.1,()))))),()),()))))))))):=(FnD.eq V wToClient_c wToClient_F (x1,())).trans (by kernel_rfl)
theorem wToClient_k:CallsOk Tryz.prog gls gvs 16 wToClient_g:=FnD.ok (F:=wToClient_F) (cs:=wToClient_c) V_ok (kC wToHead_k (kC wToCommittee_k (kC wToKeys_k kN))) Tryz.func16 (by decide) (by kernel_rfl)
noncomputable def wToStringS_F:FnD:={f:=39,fn:=Tryz.f39,ps:=[pa (.sl .str)],rs:=[⟨(.sl .str),(.own 0 .sh),false⟩],cuts:=[(3,[.val 0 (.sl .str) .sh, .val 3 (.sl .str) (.own 0 .sh), .val 4 (.int .i64) .sh])]}
noncomputable def wToStringS_c:List (Nat×Sig):=[]
noncomputable def wToStringS_d:(List ByteArray)×Unit→Option (((List ByteArray)×Unit)×Unit):=wToStringS_F.d V wToStringS_c
noncomputable abbrev wToStringS_g:Sig:=wToStringS_F.t.sig wToStringS_d
noncomputable def wToStringS_D3:(List ByteArray)× (List ByteArray)×Int×Unit→Option (((List ByteArray)×Unit)×Unit):=wToStringS_F.D V wToStringS_c 3
theorem wToStringS_b (x1:(List ByteArray)):wToStringS_d (x1,())=cnd (both (inb2 0 (len x1) (len x1)) (fits (len x1) 1)) (wToStringS_D3 (x1,((rep (len x1) (bs [])),(0,())))) none:=(FnD.eq V wToStringS_c wToStringS_F (x1,())).trans (by kernel_rfl)
theorem wToStringS_q3 (x1:(List ByteArray)) (x2:(List ByteArray)) (x3:Int):wToStringS_D3 (x1,(x2,(x3,())))=cnd (ilt x3 (len x1)) (cnd (inb x3 (len x1)) (cnd (inb x3 (len x2)) (wToStringS_D3 (x1,((upd x2 x3 (rd (bs []) x1 x3)),((iadd .i64 x3 1),())))) none) none) (some ((x2,()),())):=(FnD.eqC V wToStringS_c wToStringS_F 3 (x1,(x2,(x3,())))).trans (by kernel_rfl)
theorem wToStringS_k:CallsOk Tryz.prog gls gvs 39 wToStringS_g:=FnD.ok (F:=wToStringS_F) (cs:=wToStringS_c) V_ok kN Tryz.func39 (by decide) (by kernel_rfl)
noncomputable def wToBridge_F:FnD:={f:=11,fn:=Tryz.f11,ps:=[pa TBridge],rs:=[⟨TBridge,(.pr (.pr .sh (.pr (.pr (.own 0 .sh) .sh) (.pr (.pr (.own 0 .sh) .sh) (.pr .sh (.pr (.pr .sh (.pr .sh (.pr .sh (.pr .sh (.pr (.own 0 .sh) .sh))))) .sh))))) (.pr (.pr .sh (.pr (.pr (.own 0 .sh) .sh) (.pr (.pr (.own 0 .sh) .sh) (.pr .sh (.pr (.pr .sh (.pr .sh (.pr .sh (.pr .sh (.pr (.own 0 .sh) .sh))))) .sh))))) (.pr .sh (.pr .sh (.pr (.own 0 .sh) .sh))))),false⟩]}
noncomputable def wToBridge_c:List (Nat×Sig):=[(16,wToClient_g),(39,wToStringS_g)]
noncomputable def wToBridge_d:tBridge×Unit→Option ((tBridge×Unit)×Unit):=wToBridge_F.d V wToBridge_c
noncomputable abbrev wToBridge_g:Sig:=wToBridge_F.t.sig wToBridge_d
theorem wToBridge_b (x1:tBridge):wToBridge_d (x1,())=bnd (wToClient_d (x1.1,())) (fun r1=>(bnd (wToClient_d (x1.2.1,())) (fun r2=>(bnd (wToStringS_d (x1.2.2.2.2.1,())) (fun r3=>(some (((r1.1.1,(r2.1.1,(x1.2.2.1,(x1.2.2.2.1,(r3.1.1,(x1.2.2.2.2.2.1,())))))),()),()))))))):=(FnD.eq V wToBridge_c wToBridge_F (x1,())).trans (by kernel_rfl)
theorem wToBridge_k:CallsOk Tryz.prog gls gvs 11 wToBridge_g:=FnD.ok (F:=wToBridge_F) (cs:=wToBridge_c) V_ok (kC wToClient_k (kC wToStringS_k kN)) Tryz.func11 (by decide) (by kernel_rfl)
noncomputable def wToIntS_F:FnD:={f:=87,fn:=Tryz.f87,ps:=[pa (.sl (.int .i64))],rs:=[⟨(.sl (.int .i64)),(.own 0 .sh),false⟩],cuts:=[(3,[.val 0 (.sl (.int .i64)) .sh, .val 3 (.sl (.int .i64)) (.own 0 .sh), .val 4 (.int .i64) .sh])]}
noncomputable def wToIntS_c:List (Nat×Sig):=[]
noncomputable def wToIntS_d:(List Int)×Unit→Option (((List Int)×Unit)×Unit):=wToIntS_F.d V wToIntS_c
noncomputable abbrev wToIntS_g:Sig:=wToIntS_F.t.sig wToIntS_d
noncomputable def wToIntS_D3:(List Int)× (List Int)×Int×Unit→Option (((List Int)×Unit)×Unit):=wToIntS_F.D V wToIntS_c 3
theorem wToIntS_b (x1:(List Int)):wToIntS_d (x1,())=cnd (both (inb2 0 (len x1) (len x1)) (fits (len x1) 1)) (wToIntS_D3 (x1,((rep (len x1) 0),(0,())))) none:=(FnD.eq V wToIntS_c wToIntS_F (x1,())).trans (by kernel_rfl)
theorem wToIntS_q3 (x1:(List Int)) (x2:(List Int)) (x3:Int):wToIntS_D3 (x1,(x2,(x3,())))=cnd (ilt x3 (len x1)) (cnd (inb x3 (len x1)) (cnd (inb x3 (len x2)) (wToIntS_D3 (x1,((upd x2 x3 (rd 0 x1 x3)),((iadd .i64 x3 1),())))) none) none) (some ((x2,()),())):=(FnD.eqC V wToIntS_c wToIntS_F 3 (x1,(x2,(x3,())))).trans (by kernel_rfl)
theorem wToIntS_k:CallsOk Tryz.prog gls gvs 87 wToIntS_g:=FnD.ok (F:=wToIntS_F) (cs:=wToIntS_c) V_ok kN Tryz.func87 (by decide) (by kernel_rfl)
noncomputable def wToWorld_F:FnD:={f:=31,fn:=Tryz.f31,ps:=[pa TWorld],rs:=[⟨TWorld,(.pr (.pr .sh (.pr (.own 0 (.pr .sh (.pr .sh (.pr .sh (.pr (.own 0 .sh) .sh))))) .sh)) (.pr (.pr (.pr .sh (.pr .sh (.pr .sh (.pr .sh (.pr (.own 0 .sh) .sh))))) (.pr (.own 0 .sh) (.pr (.own 0 .sh) (.pr (.own 0 .sh) (.pr (.own 0 .sh) .sh))))) (.pr (.pr (.pr .sh (.pr (.pr (.own 0 .sh) .sh) (.pr (.pr (.own 0 .sh) .sh) (.pr .sh (.pr (.pr .sh (.pr .sh (.pr .sh (.pr .sh (.pr (.own 0 .sh) .sh))))) .sh))))) (.pr (.pr .sh (.pr (.pr (.own 0 .sh) .sh) (.pr (.pr (.own 0 .sh) .sh) (.pr .sh (.pr (.pr .sh (.pr .sh (.pr .sh (.pr .sh (.pr (.own 0 .sh) .sh))))) .sh))))) (.pr .sh (.pr .sh (.pr (.own 0 .sh) .sh))))) (.pr (.own 0 .sh) (.pr (.own 0 .sh) .sh))))),false⟩]}
noncomputable def wToWorld_c:List (Nat×Sig):=[(85,wToChain_g),(86,wToMaker_g),(11,wToBridge_g),(87,wToIntS_g),(39,wToStringS_g)]
noncomputable def wToWorld_d:tWorld×Unit→Option ((tWorld×Unit)×Unit):=wToWorld_F.d V wToWorld_c
noncomputable abbrev wToWorld_g:Sig:=wToWorld_F.t.sig wToWorld_d
theorem wToWorld_b (x1:tWorld):wToWorld_d (x1,())=bnd (wToChain_d (x1.1,())) (fun r1=>(bnd (wToMaker_d (x1.2.1,())) (fun r2=>(bnd (wToBridge_d (x1.2.2.1,())) (fun r3=>(bnd (wToIntS_d (x1.2.2.2.1,())) (fun r4=>(bnd (wToStringS_d (x1.2.2.2.2.1,())) (fun r5=>(some (((r1.1.1,(r2.1.1,(r3.1.1,(r4.1.1,(r5.1.1,()))))),()),()))))))))))):=(FnD.eq V wToWorld_c wToWorld_F (x1,())).trans (by kernel_rfl)
theorem wToWorld_k:CallsOk Tryz.prog gls gvs 31 wToWorld_g:=FnD.ok (F:=wToWorld_F) (cs:=wToWorld_c) V_ok (kC wToChain_k (kC wToMaker_k (kC wToBridge_k (kC wToIntS_k (kC wToStringS_k kN))))) Tryz.func31 (by decide) (by kernel_rfl)
noncomputable def sL01In_F:FnD:={f:=65,fn:=Tryz.f65,ps:=[pa (.int .i64),pa (.int .i64),pa (.int .i64)],rs:=[rt .bool]}
noncomputable def sL01In_c:List (Nat×Sig):=[]
noncomputable def sL01In_d:Int×Int×Int×Unit→Option ((Bool×Unit)×Unit):=sL01In_F.d V sL01In_c
noncomputable abbrev sL01In_g:Sig:=sL01In_F.t.sig sL01In_d
theorem sL01In_b (x1:Int) (x2:Int) (x3:Int):sL01In_d (x1,(x2,(x3,())))=cnd (ige x1 x2) (some (((ile x1 x3),()),())) (some ((false,()),())):=(FnD.eq V sL01In_c sL01In_F (x1,(x2,(x3,())))).trans (by kernel_rfl)
theorem sL01In_k:CallsOk Tryz.prog gls gvs 65 sL01In_g:=FnD.ok (F:=sL01In_F) (cs:=sL01In_c) V_ok kN Tryz.func65 (by decide) (by kernel_rfl)
noncomputable def sHeadOk_F:FnD:={f:=132,fn:=Tryz.f132,ps:=[pa THead],rs:=[rt .bool]}
noncomputable def sHeadOk_c:List (Nat×Sig):=[(65,sL01In_g)]
noncomputable def sHeadOk_d:tHead×Unit→Option ((Bool×Unit)×Unit):=sHeadOk_F.d V sHeadOk_c
noncomputable abbrev sHeadOk_g:Sig:=sHeadOk_F.t.sig sHeadOk_d
theorem sHeadOk_b (x1:tHead):sHeadOk_d (x1,())=bnd (sL01In_d (x1.1,(0,(10000,())))) (fun r1=>(cnd r1.1.1 (cnd (ieq (ssz x1.2.1) 32) (cnd (ieq (ssz x1.2.2.1) 32) (some (((ieq (ssz x1.2.2.2.1) 32),()),())) (some ((false,()),()))) (some ((false,()),()))) (some ((false,()),())))):=(FnD.eq V sHeadOk_c sHeadOk_F (x1,())).trans (by kernel_rfl)
theorem sHeadOk_k:CallsOk Tryz.prog gls gvs 132 sHeadOk_g:=FnD.ok (F:=sHeadOk_F) (cs:=sHeadOk_c) V_ok (kC sL01In_k kN) Tryz.func132 (by decide) (by kernel_rfl)
noncomputable def sFpOk_F:FnD:={f:=160,fn:=Tryz.f160,ps:=[pa (.int .i64)],rs:=[rt .bool]}
noncomputable def sFpOk_c:List (Nat×Sig):=[(65,sL01In_g)]
noncomputable def sFpOk_d:Int×Unit→Option ((Bool×Unit)×Unit):=sFpOk_F.d V sFpOk_c
noncomputable abbrev sFpOk_g:Sig:=sFpOk_F.t.sig sFpOk_d
theorem sFpOk_b (x1:Int):sFpOk_d (x1,())=bnd (sL01In_d (x1,(0,(12106,())))) (fun r1=>(some ((r1.1.1,()),()))):=(FnD.eq V sFpOk_c sFpOk_F (x1,())).trans (by kernel_rfl)
theorem sFpOk_k:CallsOk Tryz.prog gls gvs 160 sFpOk_g:=FnD.ok (F:=sFpOk_F) (cs:=sFpOk_c) V_ok (kC sL01In_k kN) Tryz.func160 (by decide) (by kernel_rfl)
noncomputable def sFpOf_F:FnD:={f:=216,fn:=Tryz.f216,ps:=[pa (.int .i64)],rs:=[rt (.int .i64)]}
noncomputable def sFpOf_c:List (Nat×Sig):=[]
noncomputable def sFpOf_d:Int×Unit→Option ((Int×Unit)×Unit):=sFpOf_F.d V sFpOf_c
noncomputable abbrev sFpOf_g:Sig:=sFpOf_F.t.sig sFpOf_d
theorem sFpOf_b (x1:Int):sFpOf_d (x1,())=cnd (nz 12107) (cnd (ilt (irem x1 12107) 0) (some (((iadd .i64 (irem x1 12107) 12107),()),())) (some (((irem x1 12107),()),()))) none:=(FnD.eq V sFpOf_c sFpOf_F (x1,())).trans (by kernel_rfl)
theorem sFpOf_k:CallsOk Tryz.prog gls gvs 216 sFpOf_g:=FnD.ok (F:=sFpOf_F) (cs:=sFpOf_c) V_ok kN Tryz.func216 (by decide) (by kernel_rfl)
noncomputable def sFpMul_F:FnD:={f:=215,fn:=Tryz.f215,ps:=[pa (.int .i64),pa (.int .i64)],rs:=[rt (.int .i64)]}
noncomputable def sFpMul_c:List (Nat×Sig):=[(216,sFpOf_g)]
noncomputable def sFpMul_d:Int×Int×Unit→Option ((Int×Unit)×Unit):=sFpMul_F.d V sFpMul_c
noncomputable abbrev sFpMul_g:Sig:=sFpMul_F.t.sig sFpMul_d
theorem sFpMul_b (x1:Int) (x2:Int):sFpMul_d (x1,(x2,()))=bnd (sFpOf_d (x1,())) (fun r2=>(bnd (sFpOf_d (x2,())) (fun r3=>(bnd (sFpOf_d ((imul .i64 r2.1.1 r3.1.1),())) (fun r4=>(some ((r4.1.1,()),()))))))):=(FnD.eq V sFpMul_c sFpMul_F (x1,(x2,()))).trans (by kernel_rfl)
theorem sFpMul_k:CallsOk Tryz.prog gls gvs 215 sFpMul_g:=FnD.ok (F:=sFpMul_F) (cs:=sFpMul_c) V_ok (kC sFpOf_k kN) Tryz.func215 (by decide) (by kernel_rfl)
noncomputable def sFpAdd_F:FnD:={f:=217,fn:=Tryz.f217,ps:=[pa (.int .i64),pa (.int .i64)],rs:=[rt (.int .i64)]}
noncomputable def sFpAdd_c:List (Nat×Sig):=[(216,sFpOf_g)]
noncomputable def sFpAdd_d:Int×Int×Unit→Option ((Int×Unit)×Unit):=sFpAdd_F.d V sFpAdd_c
noncomputable abbrev sFpAdd_g:Sig:=sFpAdd_F.t.sig sFpAdd_d
theorem sFpAdd_b (x1:Int) (x2:Int):sFpAdd_d (x1,(x2,()))=bnd (sFpOf_d (x1,())) (fun r2=>(bnd (sFpOf_d (x2,())) (fun r3=>(bnd (sFpOf_d ((iadd .i64 r2.1.1 r3.1.1),())) (fun r4=>(some ((r4.1.1,()),()))))))):=(FnD.eq V sFpAdd_c sFpAdd_F (x1,(x2,()))).trans (by kernel_rfl)
theorem sFpAdd_k:CallsOk Tryz.prog gls gvs 217 sFpAdd_g:=FnD.ok (F:=sFpAdd_F) (cs:=sFpAdd_c) V_ok (kC sFpOf_k kN) Tryz.func217 (by decide) (by kernel_rfl)
noncomputable def sL07Right_F:FnD:={f:=162,fn:=Tryz.f162,ps:=[pa (.int .i64)],rs:=[rt (.int .i64)]}
noncomputable def sL07Right_c:List (Nat×Sig):=[(215,sFpMul_g),(217,sFpAdd_g)]
noncomputable def sL07Right_d:Int×Unit→Option ((Int×Unit)×Unit):=sL07Right_F.d V sL07Right_c
noncomputable abbrev sL07Right_g:Sig:=sL07Right_F.t.sig sL07Right_d
theorem sL07Right_b (x1:Int):sL07Right_d (x1,())=bnd (sFpMul_d (x1,(x1,()))) (fun r1=>(bnd (sFpMul_d (r1.1.1,(x1,()))) (fun r2=>(bnd (sFpAdd_d (r2.1.1,(x1,()))) (fun r3=>(some ((r3.1.1,()),()))))))):=(FnD.eq V sL07Right_c sL07Right_F (x1,())).trans (by kernel_rfl)
theorem sL07Right_k:CallsOk Tryz.prog gls gvs 162 sL07Right_g:=FnD.ok (F:=sL07Right_F) (cs:=sL07Right_c) V_ok (kC sFpMul_k (kC sFpAdd_k kN)) Tryz.func162 (by decide) (by kernel_rfl)
noncomputable def sPointOk_F:FnD:={f:=218,fn:=Tryz.f218,ps:=[pa TPoint],rs:=[rt .bool]}
noncomputable def sPointOk_c:List (Nat×Sig):=[(160,sFpOk_g),(215,sFpMul_g),(162,sL07Right_g)]
noncomputable def sPointOk_d:tPoint×Unit→Option ((Bool×Unit)×Unit):=sPointOk_F.d V sPointOk_c
noncomputable abbrev sPointOk_g:Sig:=sPointOk_F.t.sig sPointOk_d
theorem sPointOk_b (x1:tPoint):sPointOk_d (x1,())=cnd x1.2.2.1 (cnd (ieq x1.1 0) (some (((ieq x1.2.1 0),()),())) (some ((false,()),()))) (bnd (sFpOk_d (x1.1,())) (fun r1=>(cnd r1.1.1 (bnd (sFpOk_d (x1.2.1,())) (fun r2=>(cnd r2.1.1 (bnd (sFpMul_d (x1.2.1,(x1.2.1,()))) (fun r3=>(bnd (sL07Right_d (x1.1,())) (fun r4=>(some (((ieq r3.1.1 r4.1.1),()),())))))) (some ((false,()),()))))) (some ((false,()),()))))):=(FnD.eq V sPointOk_c sPointOk_F (x1,())).trans (by kernel_rfl)
theorem sPointOk_k:CallsOk Tryz.prog gls gvs 218 sPointOk_g:=FnD.ok (F:=sPointOk_F) (cs:=sPointOk_c) V_ok (kC sFpOk_k (kC sFpMul_k (kC sL07Right_k kN))) Tryz.func218 (by decide) (by kernel_rfl)
noncomputable def sL07Zero_F:FnD:={f:=159,fn:=Tryz.f159,ps:=[],rs:=[rt TPoint]}
noncomputable def sL07Zero_c:List (Nat×Sig):=[]
noncomputable def sL07Zero_d:Unit→Option ((tPoint×Unit)×Unit):=sL07Zero_F.d V sL07Zero_c
noncomputable abbrev sL07Zero_g:Sig:=sL07Zero_F.t.sig sL07Zero_d
theorem sL07Zero_b:sL07Zero_d ()=some (((0,(0,(true,()))),()),()):=(FnD.eq V sL07Zero_c sL07Zero_F ()).trans (by kernel_rfl)
theorem sL07Zero_k:CallsOk Tryz.prog gls gvs 159 sL07Zero_g:=FnD.ok (F:=sL07Zero_F) (cs:=sL07Zero_c) V_ok kN Tryz.func159 (by decide) (by kernel_rfl)
noncomputable def sFpSub_F:FnD:={f:=163,fn:=Tryz.f163,ps:=[pa (.int .i64),pa (.int .i64)],rs:=[rt (.int .i64)]}
noncomputable def sFpSub_c:List (Nat×Sig):=[(216,sFpOf_g)]
noncomputable def sFpSub_d:Int×Int×Unit→Option ((Int×Unit)×Unit):=sFpSub_F.d V sFpSub_c
noncomputable abbrev sFpSub_g:Sig:=sFpSub_F.t.sig sFpSub_d
theorem sFpSub_b (x1:Int) (x2:Int):sFpSub_d (x1,(x2,()))=bnd (sFpOf_d (x1,())) (fun r2=>(bnd (sFpOf_d (x2,())) (fun r3=>(bnd (sFpOf_d ((isub .i64 r2.1.1 r3.1.1),())) (fun r4=>(some ((r4.1.1,()),()))))))):=(FnD.eq V sFpSub_c sFpSub_F (x1,(x2,()))).trans (by kernel_rfl)
theorem sFpSub_k:CallsOk Tryz.prog gls gvs 163 sFpSub_g:=FnD.ok (F:=sFpSub_F) (cs:=sFpSub_c) V_ok (kC sFpOf_k kN) Tryz.func163 (by decide) (by kernel_rfl)
noncomputable def sPointNeg_F:FnD:={f:=283,fn:=Tryz.f283,ps:=[pa TPoint],rs:=[rt TPoint]}
noncomputable def sPointNeg_c:List (Nat×Sig):=[(159,sL07Zero_g),(163,sFpSub_g)]
noncomputable def sPointNeg_d:tPoint×Unit→Option ((tPoint×Unit)×Unit):=sPointNeg_F.d V sPointNeg_c
noncomputable abbrev sPointNeg_g:Sig:=sPointNeg_F.t.sig sPointNeg_d
theorem sPointNeg_b (x1:tPoint):sPointNeg_d (x1,())=cnd x1.2.2.1 (bnd (sL07Zero_d ()) (fun r1=>(some ((r1.1.1,()),())))) (bnd (sFpSub_d (0,(x1.2.1,()))) (fun r1=>(some (((x1.1,(r1.1.1,(false,()))),()),())))):=(FnD.eq V sPointNeg_c sPointNeg_F (x1,())).trans (by kernel_rfl)
theorem sPointNeg_k:CallsOk Tryz.prog gls gvs 283 sPointNeg_g:=FnD.ok (F:=sPointNeg_F) (cs:=sPointNeg_c) V_ok (kC sL07Zero_k (kC sFpSub_k kN)) Tryz.func283 (by decide) (by kernel_rfl)
noncomputable def sFpPow_F:FnD:={f:=214,fn:=Tryz.f214,ps:=[pa (.int .i64),pa (.int .i64)],rs:=[rt (.int .i64)],joins:=[8],cuts:=[(8,[.val 1 (.int .i64) .sh, .val 5 (.int .i64) .sh, .val 6 (.int .i64) .sh]),(5,[.val 1 (.int .i64) .sh, .val 5 (.int .i64) .sh, .val 6 (.int .i64) .sh])]}
noncomputable def sFpPow_c:List (Nat×Sig):=[(216,sFpOf_g),(215,sFpMul_g)]
noncomputable def sFpPow_d:Int×Int×Unit→Option ((Int×Unit)×Unit):=sFpPow_F.d V sFpPow_c
noncomputable abbrev sFpPow_g:Sig:=sFpPow_F.t.sig sFpPow_d
noncomputable def sFpPow_D8:Int×Int×Int×Unit→Option ((Int×Unit)×Unit):=sFpPow_F.D V sFpPow_c 8
noncomputable def sFpPow_D5:Int×Int×Int×Unit→Option ((Int×Unit)×Unit):=sFpPow_F.D V sFpPow_c 5
theorem sFpPow_b (x1:Int) (x2:Int):sFpPow_d (x1,(x2,()))=cnd (ilt x2 0) (some ((0,()),())) (bnd (sFpOf_d (x1,())) (fun r2=>(sFpPow_D5 (x2,(1,(r2.1.1,())))))):=(FnD.eq V sFpPow_c sFpPow_F (x1,(x2,()))).trans (by kernel_rfl)
theorem sFpPow_q8 (x1:Int) (x2:Int) (x3:Int):sFpPow_D8 (x1,(x2,(x3,())))=bnd (sFpMul_d (x3,(x3,()))) (fun r3=>(cnd (nz 2) (sFpPow_D5 ((iquo .i64 x1 2),(x2,(r3.1.1,())))) none)):=(FnD.eqC V sFpPow_c sFpPow_F 8 (x1,(x2,(x3,())))).trans (by kernel_rfl)
theorem sFpPow_q5 (x1:Int) (x2:Int) (x3:Int):sFpPow_D5 (x1,(x2,(x3,())))=cnd (igt x1 0) (cnd (nz 2) (cnd (ieq (irem x1 2) 1) (bnd (sFpMul_d (x2,(x3,()))) (fun r3=>(sFpPow_D8 (x1,(r3.1.1,(x3,())))))) (sFpPow_D8 (x1,(x2,(x3,()))))) none) (some ((x2,()),())):=(FnD.eqC V sFpPow_c sFpPow_F 5 (x1,(x2,(x3,())))).trans (by kernel_rfl)
theorem sFpPow_k:CallsOk Tryz.prog gls gvs 214 sFpPow_g:=FnD.ok (F:=sFpPow_F) (cs:=sFpPow_c) V_ok (kC sFpOf_k (kC sFpMul_k kN)) Tryz.func214 (by decide) (by kernel_rfl)
noncomputable def sFpInv_F:FnD:={f:=297,fn:=Tryz.f297,ps:=[pa (.int .i64)],rs:=[rt (.int .i64)]}
noncomputable def sFpInv_c:List (Nat×Sig):=[(214,sFpPow_g)]
noncomputable def sFpInv_d:Int×Unit→Option ((Int×Unit)×Unit):=sFpInv_F.d V sFpInv_c
noncomputable abbrev sFpInv_g:Sig:=sFpInv_F.t.sig sFpInv_d
theorem sFpInv_b (x1:Int):sFpInv_d (x1,())=bnd (sFpPow_d (x1,(12105,()))) (fun r1=>(some ((r1.1.1,()),()))):=(FnD.eq V sFpInv_c sFpInv_F (x1,())).trans (by kernel_rfl)
theorem sFpInv_k:CallsOk Tryz.prog gls gvs 297 sFpInv_g:=FnD.ok (F:=sFpInv_F) (cs:=sFpInv_c) V_ok (kC sFpPow_k kN) Tryz.func297 (by decide) (by kernel_rfl)
noncomputable def sL07Slope_F:FnD:={f:=305,fn:=Tryz.f305,ps:=[pa TPoint,pa TPoint],rs:=[rt (.int .i64),rt .bool]}
noncomputable def sL07Slope_c:List (Nat×Sig):=[(163,sFpSub_g),(297,sFpInv_g),(215,sFpMul_g),(217,sFpAdd_g)]
noncomputable def sL07Slope_d:tPoint×tPoint×Unit→Option ((Int×Bool×Unit)×Unit):=sL07Slope_F.d V sL07Slope_c
noncomputable abbrev sL07Slope_g:Sig:=sL07Slope_F.t.sig sL07Slope_d
theorem sL07Slope_b (x1:tPoint) (x2:tPoint):sL07Slope_d (x1,(x2,()))=cnd (ine x1.1 x2.1) (bnd (sFpSub_d (x2.2.1,(x1.2.1,()))) (fun r2=>(bnd (sFpSub_d (x2.1,(x1.1,()))) (fun r3=>(bnd (sFpInv_d (r3.1.1,())) (fun r4=>(bnd (sFpMul_d (r2.1.1,(r4.1.1,()))) (fun r5=>(some ((r5.1.1,(true,())),())))))))))) (bnd (sFpAdd_d (x1.2.1,(x2.2.1,()))) (fun r2=>(cnd (ieq r2.1.1 0) (some ((0,(false,())),())) (bnd (sFpMul_d (x1.1,(x1.1,()))) (fun r3=>(bnd (sFpMul_d (3,(r3.1.1,()))) (fun r4=>(bnd (sFpAdd_d (r4.1.1,(1,()))) (fun r5=>(bnd (sFpMul_d (2,(x1.2.1,()))) (fun r6=>(bnd (sFpInv_d (r6.1.1,())) (fun r7=>(bnd (sFpMul_d (r5.1.1,(r7.1.1,()))) (fun r8=>(some ((r8.1.1,(true,())),()))))))))))))))))):=(FnD.eq V sL07Slope_c sL07Slope_F (x1,(x2,()))).trans (by kernel_rfl)
theorem sL07Slope_k:CallsOk Tryz.prog gls gvs 305 sL07Slope_g:=FnD.ok (F:=sL07Slope_F) (cs:=sL07Slope_c) V_ok (kC sFpSub_k (kC sFpInv_k (kC sFpMul_k (kC sFpAdd_k kN)))) Tryz.func305 (by decide) (by kernel_rfl)
noncomputable def sL07Add_F:FnD:={f:=284,fn:=Tryz.f284,ps:=[pa TPoint,pa TPoint],rs:=[rt TPoint]}
noncomputable def sL07Add_c:List (Nat×Sig):=[(305,sL07Slope_g),(159,sL07Zero_g),(215,sFpMul_g),(163,sFpSub_g)]
noncomputable def sL07Add_d:tPoint×tPoint×Unit→Option ((tPoint×Unit)×Unit):=sL07Add_F.d V sL07Add_c
noncomputable abbrev sL07Add_g:Sig:=sL07Add_F.t.sig sL07Add_d
theorem sL07Add_b (x1:tPoint) (x2:tPoint):sL07Add_d (x1,(x2,()))=cnd x1.2.2.1 (some ((x2,()),())) (cnd x2.2.2.1 (some ((x1,()),())) (bnd (sL07Slope_d (x1,(x2,()))) (fun r2=>(cnd (bnot r2.1.2.1) (bnd (sL07Zero_d ()) (fun r3=>(some ((r3.1.1,()),())))) (bnd (sFpMul_d (r2.1.1,(r2.1.1,()))) (fun r3=>(bnd (sFpSub_d (r3.1.1,(x1.1,()))) (fun r4=>(bnd (sFpSub_d (r4.1.1,(x2.1,()))) (fun r5=>(bnd (sFpSub_d (x1.1,(r5.1.1,()))) (fun r6=>(bnd (sFpMul_d (r2.1.1,(r6.1.1,()))) (fun r7=>(bnd (sFpSub_d (r7.1.1,(x1.2.1,()))) (fun r8=>(some (((r5.1.1,(r8.1.1,(false,()))),()),())))))))))))))))))):=(FnD.eq V sL07Add_c sL07Add_F (x1,(x2,()))).trans (by kernel_rfl)
theorem sL07Add_k:CallsOk Tryz.prog gls gvs 284 sL07Add_g:=FnD.ok (F:=sL07Add_F) (cs:=sL07Add_c) V_ok (kC sL07Slope_k (kC sL07Zero_k (kC sFpMul_k (kC sFpSub_k kN)))) Tryz.func284 (by decide) (by kernel_rfl)
noncomputable def sPointTimes_F:FnD:={f:=244,fn:=Tryz.f244,ps:=[pa (.int .i64),pa TPoint],rs:=[rt TPoint],joins:=[8,12],cuts:=[(8,[.val 5 (.int .i64) .sh, .box 4 TPoint .sh, .box 6 TPoint .sh, .ptr 4 4 0, .ptr 6 6 0]),(12,[.val 5 (.int .i64) .sh, .box 4 TPoint .sh, .box 6 TPoint .sh, .box 7 TPoint .sh, .ptr 4 4 0, .ptr 6 6 0, .ptr 7 7 0]),(9,[.val 5 (.int .i64) .sh, .box 4 TPoint .sh, .box 6 TPoint .sh, .box 7 TPoint .sh, .ptr 4 4 0, .ptr 6 6 0, .ptr 7 7 0])]}
noncomputable def sPointTimes_c:List (Nat×Sig):=[(218,sPointOk_g),(159,sL07Zero_g),(283,sPointNeg_g),(284,sL07Add_g)]
noncomputable def sPointTimes_d:Int×tPoint×Unit→Option ((tPoint×Unit)×Unit):=sPointTimes_F.d V sPointTimes_c
noncomputable abbrev sPointTimes_g:Sig:=sPointTimes_F.t.sig sPointTimes_d
noncomputable def sPointTimes_D8:Int×tPoint×tPoint×Unit→Option ((tPoint×Unit)×Unit):=sPointTimes_F.D V sPointTimes_c 8
noncomputable def sPointTimes_D12:Int×tPoint×tPoint×tPoint×Unit→Option ((tPoint×Unit)×Unit):=sPointTimes_F.D V sPointTimes_c 12
noncomputable def sPointTimes_D9:Int×tPoint×tPoint×tPoint×Unit→Option ((tPoint×Unit)×Unit):=sPointTimes_F.D V sPointTimes_c 9
theorem sPointTimes_b (x1:Int) (x2:tPoint):sPointTimes_d (x1,(x2,()))=bnd (sPointOk_d (x2,())) (fun r2=>(cnd (bnot r2.1.1) (bnd (sL07Zero_d ()) (fun r3=>(some ((r3.1.1,()),())))) (cnd (nz 12108) (cnd (ilt (irem x1 12108) 0) (bnd (sPointNeg_d (x2,())) (fun r3=>(sPointTimes_D8 ((ineg .i64 (irem x1 12108)),(zPoint,(r3.1.1,())))))) (sPointTimes_D8 ((irem x1 12108),(zPoint,(x2,()))))) none))):=(FnD.eq V sPointTimes_c sPointTimes_F (x1,(x2,()))).trans (by kernel_rfl)
theorem sPointTimes_q8 (x1:Int) (x2:tPoint) (x3:tPoint):sPointTimes_D8 (x1,(x2,(x3,())))=bnd (sL07Zero_d ()) (fun r3=>(sPointTimes_D9 (x1,(x2,(x3,(r3.1.1,())))))):=(FnD.eqC V sPointTimes_c sPointTimes_F 8 (x1,(x2,(x3,())))).trans (by kernel_rfl)
theorem sPointTimes_q12 (x1:Int) (x2:tPoint) (x3:tPoint) (x4:tPoint):sPointTimes_D12 (x1,(x2,(x3,(x4,()))))=bnd (sL07Add_d (x3,(x3,()))) (fun r4=>(cnd (nz 2) (sPointTimes_D9 ((iquo .i64 x1 2),(x2,(r4.1.1,(x4,()))))) none)):=(FnD.eqC V sPointTimes_c sPointTimes_F 12 (x1,(x2,(x3,(x4,()))))).trans (by kernel_rfl)
theorem sPointTimes_q9 (x1:Int) (x2:tPoint) (x3:tPoint) (x4:tPoint):sPointTimes_D9 (x1,(x2,(x3,(x4,()))))=cnd (igt x1 0) (cnd (nz 2) (cnd (ieq (irem x1 2) 1) (bnd (sL07Add_d (x4,(x3,()))) (fun r4=>(sPointTimes_D12 (x1,(x2,(x3,(r4.1.1,()))))))) (sPointTimes_D12 (x1,(x2,(x3,(x4,())))))) none) (some ((x4,()),())):=(FnD.eqC V sPointTimes_c sPointTimes_F 9 (x1,(x2,(x3,(x4,()))))).trans (by kernel_rfl)
theorem sPointTimes_k:CallsOk Tryz.prog gls gvs 244 sPointTimes_g:=FnD.ok (F:=sPointTimes_F) (cs:=sPointTimes_c) V_ok (kC sPointOk_k (kC sL07Zero_k (kC sPointNeg_k (kC sL07Add_k kN)))) Tryz.func244 (by decide) (by kernel_rfl)
noncomputable def sInGroup_F:FnD:={f:=200,fn:=Tryz.f200,ps:=[pa TPoint],rs:=[rt .bool]}
noncomputable def sInGroup_c:List (Nat×Sig):=[(218,sPointOk_g),(244,sPointTimes_g)]
noncomputable def sInGroup_d:tPoint×Unit→Option ((Bool×Unit)×Unit):=sInGroup_F.d V sInGroup_c
noncomputable abbrev sInGroup_g:Sig:=sInGroup_F.t.sig sInGroup_d
theorem sInGroup_b (x1:tPoint):sInGroup_d (x1,())=bnd (sPointOk_d (x1,())) (fun r1=>(cnd r1.1.1 (bnd (sPointTimes_d (1009,(x1,()))) (fun r2=>(some ((r2.1.1.2.2.1,()),())))) (some ((false,()),())))):=(FnD.eq V sInGroup_c sInGroup_F (x1,())).trans (by kernel_rfl)
theorem sInGroup_k:CallsOk Tryz.prog gls gvs 200 sInGroup_g:=FnD.ok (F:=sInGroup_F) (cs:=sInGroup_c) V_ok (kC sPointOk_k (kC sPointTimes_k kN)) Tryz.func200 (by decide) (by kernel_rfl)
noncomputable def sCommitteeOk_F:FnD:={f:=133,fn:=Tryz.f133,ps:=[pa TCommittee],rs:=[rt .bool],cuts:=[(2,[.val 3 (.int .i64) .sh, .box 1 TCommittee .sh, .ptr 1 1 0])]}
noncomputable def sCommitteeOk_c:List (Nat×Sig):=[(200,sInGroup_g)]
noncomputable def sCommitteeOk_d:tCommittee×Unit→Option ((Bool×Unit)×Unit):=sCommitteeOk_F.d V sCommitteeOk_c
noncomputable abbrev sCommitteeOk_g:Sig:=sCommitteeOk_F.t.sig sCommitteeOk_d
noncomputable def sCommitteeOk_D2:Int×tCommittee×Unit→Option ((Bool×Unit)×Unit):=sCommitteeOk_F.D V sCommitteeOk_c 2
theorem sCommitteeOk_b (x1:tCommittee):sCommitteeOk_d (x1,())=sCommitteeOk_D2 (0,(x1,())):=(FnD.eq V sCommitteeOk_c sCommitteeOk_F (x1,())).trans (by kernel_rfl)
theorem sCommitteeOk_q2 (x1:Int) (x2:tCommittee):sCommitteeOk_D2 (x1,(x2,()))=cnd (ilt x1 (len x2.1)) (cnd (inb x1 (len x2.1)) (bnd (sInGroup_d ((rd zPoint x2.1 x1),())) (fun r2=>(cnd (bnot r2.1.1) (some ((false,()),())) (cnd (inb x1 (len x2.1)) (cnd (rd zPoint x2.1 x1).2.2.1 (some ((false,()),())) (sCommitteeOk_D2 ((iadd .i64 x1 1),(x2,())))) none)))) none) (some (((ieq (len x2.1) 8),()),())):=(FnD.eqC V sCommitteeOk_c sCommitteeOk_F 2 (x1,(x2,()))).trans (by kernel_rfl)
theorem sCommitteeOk_k:CallsOk Tryz.prog gls gvs 133 sCommitteeOk_g:=FnD.ok (F:=sCommitteeOk_F) (cs:=sCommitteeOk_c) V_ok (kC sInGroup_k kN) Tryz.func133 (by decide) (by kernel_rfl)
noncomputable def sClientOk_F:FnD:={f:=63,fn:=Tryz.f63,ps:=[pa TClient],rs:=[rt .bool]}
noncomputable def sClientOk_c:List (Nat×Sig):=[(132,sHeadOk_g),(133,sCommitteeOk_g)]
noncomputable def sClientOk_d:tClient×Unit→Option ((Bool×Unit)×Unit):=sClientOk_F.d V sClientOk_c
noncomputable abbrev sClientOk_g:Sig:=sClientOk_F.t.sig sClientOk_d
theorem sClientOk_b (x1:tClient):sClientOk_d (x1,())=bnd (sHeadOk_d (x1.1,())) (fun r1=>(cnd (bnot r1.1.1) (some ((false,()),())) (bnd (sCommitteeOk_d (x1.2.1,())) (fun r2=>(cnd (bnot r2.1.1) (some ((false,()),())) (cnd x1.2.2.2.1 (bnd (sCommitteeOk_d (x1.2.2.1,())) (fun r3=>(some ((r3.1.1,()),())))) (some (((ieq (len x1.2.2.1.1) 0),()),())))))))):=(FnD.eq V sClientOk_c sClientOk_F (x1,())).trans (by kernel_rfl)
theorem sClientOk_k:CallsOk Tryz.prog gls gvs 63 sClientOk_g:=FnD.ok (F:=sClientOk_F) (cs:=sClientOk_c) V_ok (kC sHeadOk_k (kC sCommitteeOk_k kN)) Tryz.func63 (by decide) (by kernel_rfl)
noncomputable def sL24Keys_F:FnD:={f:=64,fn:=Tryz.f64,ps:=[pa TKeys,pa TKeys],rs:=[rt .bool],cuts:=[(4,[.val 5 (.int .i64) .sh, .box 2 TKeys .sh, .box 3 TKeys .sh, .ptr 2 2 0, .ptr 3 3 0])]}
noncomputable def sL24Keys_c:List (Nat×Sig):=[]
noncomputable def sL24Keys_d:tKeys×tKeys×Unit→Option ((Bool×Unit)×Unit):=sL24Keys_F.d V sL24Keys_c
noncomputable abbrev sL24Keys_g:Sig:=sL24Keys_F.t.sig sL24Keys_d
noncomputable def sL24Keys_D4:Int×tKeys×tKeys×Unit→Option ((Bool×Unit)×Unit):=sL24Keys_F.D V sL24Keys_c 4
theorem sL24Keys_b (x1:tKeys) (x2:tKeys):sL24Keys_d (x1,(x2,()))=cnd (bnot (both (ieq x1.1.1 x2.1.1) (both (ieq x1.1.2.1 x2.1.2.1) (both (beqB x1.1.2.2.1 x2.1.2.2.1) true)))) (some ((false,()),())) (cnd (bnot (both (ieq x1.2.1.1 x2.2.1.1) (both (ieq x1.2.1.2.1 x2.2.1.2.1) (both (beqB x1.2.1.2.2.1 x2.2.1.2.2.1) true)))) (some ((false,()),())) (cnd (bnot (both (ieq x1.2.2.1.1 x2.2.2.1.1) (both (ieq x1.2.2.1.2.1 x2.2.2.1.2.1) (both (beqB x1.2.2.1.2.2.1 x2.2.2.1.2.2.1) true)))) (some ((false,()),())) (cnd (bnot (both (ieq x1.2.2.2.1.1 x2.2.2.2.1.1) (both (ieq x1.2.2.2.1.2.1 x2.2.2.2.1.2.1) (both (beqB x1.2.2.2.1.2.2.1 x2.2.2.2.1.2.2.1) true)))) (some ((false,()),())) (cnd (ine (len x1.2.2.2.2.1) (len x2.2.2.2.2.1)) (some ((false,()),())) (sL24Keys_D4 (0,(x1,(x2,())))))))):=(FnD.eq V sL24Keys_c sL24Keys_F (x1,(x2,()))).trans (by kernel_rfl)
theorem sL24Keys_q4 (x1:Int) (x2:tKeys) (x3:tKeys):sL24Keys_D4 (x1,(x2,(x3,())))=cnd (ilt x1 (len x2.2.2.2.2.1)) (cnd (inb x1 (len x2.2.2.2.2.1)) (cnd (inb x1 (len x3.2.2.2.2.1)) (cnd (bnot (both (ieq (rd zPoint x2.2.2.2.2.1 x1).1 (rd zPoint x3.2.2.2.2.1 x1).1) (both (ieq (rd zPoint x2.2.2.2.2.1 x1).2.1 (rd zPoint x3.2.2.2.2.1 x1).2.1) (both (beqB (rd zPoint x2.2.2.2.2.1 x1).2.2.1 (rd zPoint x3.2.2.2.2.1 x1).2.2.1) true)))) (some ((false,()),())) (sL24Keys_D4 ((iadd .i64 x1 1),(x2,(x3,()))))) none) none) (some ((true,()),())):=(FnD.eqC V sL24Keys_c sL24Keys_F 4 (x1,(x2,(x3,())))).trans (by kernel_rfl)
theorem sL24Keys_k:CallsOk Tryz.prog gls gvs 64 sL24Keys_g:=FnD.ok (F:=sL24Keys_F) (cs:=sL24Keys_c) V_ok kN Tryz.func64 (by decide) (by kernel_rfl)
noncomputable def sL01Var_F:FnD:={f:=150,fn:=Tryz.f150,ps:=[pa (.int .i64)],rs:=[rt .str],cuts:=[(2,[.val 0 (.int .i64) .sh, .val 3 (.sl (.int .u8)) (.own 0 .sh)])]}
noncomputable def sL01Var_c:List (Nat×Sig):=[]
noncomputable def sL01Var_d:Int×Unit→Option ((ByteArray×Unit)×Unit):=sL01Var_F.d V sL01Var_c
noncomputable abbrev sL01Var_g:Sig:=sL01Var_F.t.sig sL01Var_d
noncomputable def sL01Var_D2:Int× (List Int)×Unit→Option ((ByteArray×Unit)×Unit):=sL01Var_F.D V sL01Var_c 2
theorem sL01Var_b (x1:Int):sL01Var_d (x1,())=sL01Var_D2 (x1,(([]:List Int),())):=(FnD.eq V sL01Var_c sL01Var_F (x1,())).trans (by kernel_rfl)
theorem sL01Var_q2 (x1:Int) (x2:(List Int)):sL01Var_D2 (x1,(x2,()))=cnd (igt x1 127) (cnd (nz 128) (cnd (fits ((len x2)+(len ((iconv .u8 (iadd .i64 (irem x1 128) 128))::([]:List Int)))) 1) (cnd (nz 128) (sL01Var_D2 ((iquo .i64 x1 128),((app x2 ((iconv .u8 (iadd .i64 (irem x1 128) 128))::([]:List Int))),()))) none) none) none) (cnd (fits ((len x2)+(len ((iconv .u8 x1)::([]:List Int)))) 1) (some (((sof (app x2 ((iconv .u8 x1)::([]:List Int)))),()),())) none):=(FnD.eqC V sL01Var_c sL01Var_F 2 (x1,(x2,()))).trans (by kernel_rfl)
theorem sL01Var_k:CallsOk Tryz.prog gls gvs 150 sL01Var_g:=FnD.ok (F:=sL01Var_F) (cs:=sL01Var_c) V_ok kN Tryz.func150 (by decide) (by kernel_rfl)
noncomputable def sReadVar_F:FnD:={f:=108,fn:=Tryz.f108,ps:=[pa .str,pa (.int .i64)],rs:=[rt (.int .i64),rt (.int .i64),rt .bool],cuts:=[(6,[.val 0 .str .sh, .val 1 (.int .i64) .sh, .val 7 (.int .i64) .sh, .val 8 (.int .i64) .sh, .val 9 (.int .i64) .sh])]}
noncomputable def sReadVar_c:List (Nat×Sig):=[(65,sL01In_g),(150,sL01Var_g)]
noncomputable def sReadVar_d:ByteArray×Int×Unit→Option ((Int×Int×Bool×Unit)×Unit):=sReadVar_F.d V sReadVar_c
noncomputable abbrev sReadVar_g:Sig:=sReadVar_F.t.sig sReadVar_d
noncomputable def sReadVar_D6:ByteArray×Int×Int×Int×Int×Unit→Option ((Int×Int×Bool×Unit)×Unit):=sReadVar_F.D V sReadVar_c 6
theorem sReadVar_b (x1:ByteArray) (x2:Int):sReadVar_d (x1,(x2,()))=bnd (sL01In_d (x2,(0,((ssz x1),())))) (fun r2=>(cnd (bnot r2.1.1) (some (zPoint,())) (sReadVar_D6 (x1,(x2,(0,(1,(x2,())))))))):=(FnD.eq V sReadVar_c sReadVar_F (x1,(x2,()))).trans (by kernel_rfl)
theorem sReadVar_q6 (x1:ByteArray) (x2:Int) (x3:Int) (x4:Int) (x5:Int):sReadVar_D6 (x1,(x2,(x3,(x4,(x5,())))))=cnd (ilt x5 (ssz x1)) (cnd (ilt x5 (iadd .i64 x2 5)) (cnd (inb x5 (ssz x1)) (cnd (nz 128) (cnd (inb x5 (ssz x1)) (cnd (ilt (sat x1 x5) 128) (cnd (igt (iadd .i64 x3 (imul .i64 (irem (iconv .i64 (sat x1 x5)) 128) x4)) 1000000000) (some (zPoint,())) (bnd (sL01Var_d ((iadd .i64 x3 (imul .i64 (irem (iconv .i64 (sat x1 x5)) 128) x4)),())) (fun r5=>(cnd (inb2 x2 (iadd .i64 x5 1) (ssz x1)) (cnd (sne r5.1.1 (ssub x1 x2 (iadd .i64 x5 1))) (some (zPoint,())) (some (((iadd .i64 x3 (imul .i64 (irem (iconv .i64 (sat x1 x5)) 128) x4)),((iadd .i64 x5 1),(true,()))),()))) none)))) (sReadVar_D6 (x1,(x2,((iadd .i64 x3 (imul .i64 (irem (iconv .i64 (sat x1 x5)) 128) x4)),((imul .i64 x4 128),((iadd .i64 x5 1),()))))))) none) none) none) (some (zPoint,()))) (some (zPoint,())):=(FnD.eqC V sReadVar_c sReadVar_F 6 (x1,(x2,(x3,(x4,(x5,())))))).trans (by kernel_rfl)
theorem sReadVar_k:CallsOk Tryz.prog gls gvs 108 sReadVar_g:=FnD.ok (F:=sReadVar_F) (cs:=sReadVar_c) V_ok (kC sL01In_k (kC sL01Var_k kN)) Tryz.func108 (by decide) (by kernel_rfl)
noncomputable def sReadShort_F:FnD:={f:=147,fn:=Tryz.f147,ps:=[pa .str,pa (.int .i64)],rs:=[rt .str,rt (.int .i64),rt .bool]}
noncomputable def sReadShort_c:List (Nat×Sig):=[(108,sReadVar_g)]
noncomputable def sReadShort_d:ByteArray×Int×Unit→Option ((ByteArray×Int×Bool×Unit)×Unit):=sReadShort_F.d V sReadShort_c
noncomputable abbrev sReadShort_g:Sig:=sReadShort_F.t.sig sReadShort_d
theorem sReadShort_b (x1:ByteArray) (x2:Int):sReadShort_d (x1,(x2,()))=bnd (sReadVar_d (x1,(x2,()))) (fun r2=>(cnd (bnot r2.1.2.2.1) (some (zScanner,())) (cnd (igt r2.1.1 20000) (some (zScanner,())) (cnd (igt r2.1.1 (isub .i64 (ssz x1) r2.1.2.1)) (some (zScanner,())) (cnd (inb2 r2.1.2.1 (iadd .i64 r2.1.2.1 r2.1.1) (ssz x1)) (some (((ssub x1 r2.1.2.1 (iadd .i64 r2.1.2.1 r2.1.1)),((iadd .i64 r2.1.2.1 r2.1.1),(true,()))),())) none))))):=(FnD.eq V sReadShort_c sReadShort_F (x1,(x2,()))).trans (by kernel_rfl)
theorem sReadShort_k:CallsOk Tryz.prog gls gvs 147 sReadShort_g:=FnD.ok (F:=sReadShort_F) (cs:=sReadShort_c) V_ok (kC sReadVar_k kN) Tryz.func147 (by decide) (by kernel_rfl)
noncomputable def sSumMore_F:FnD:={f:=212,fn:=Tryz.f212,ps:=[pa (.int .u32),pa .str],rs:=[rt (.int .u32)],cuts:=[(6,[.val 0 (.int .u32) .sh, .val 1 .str .sh, .val 5 (.int .i64) .sh, .val 6 (.int .i64) .sh]),(2,[.val 0 (.int .u32) .sh, .val 1 .str .sh, .val 5 (.int .i64) .sh])]}
noncomputable def sSumMore_c:List (Nat×Sig):=[]
noncomputable def sSumMore_d:Int×ByteArray×Unit→Option ((Int×Unit)×Unit):=sSumMore_F.d V sSumMore_c
noncomputable abbrev sSumMore_g:Sig:=sSumMore_F.t.sig sSumMore_d
noncomputable def sSumMore_D6:Int×ByteArray×Int×Int×Unit→Option ((Int×Unit)×Unit):=sSumMore_F.D V sSumMore_c 6
noncomputable def sSumMore_D2:Int×ByteArray×Int×Unit→Option ((Int×Unit)×Unit):=sSumMore_F.D V sSumMore_c 2
theorem sSumMore_b (x1:Int) (x2:ByteArray):sSumMore_d (x1,(x2,()))=sSumMore_D2 (x1,(x2,(0,()))):=(FnD.eq V sSumMore_c sSumMore_F (x1,(x2,()))).trans (by kernel_rfl)
theorem sSumMore_q6 (x1:Int) (x2:ByteArray) (x3:Int) (x4:Int):sSumMore_D6 (x1,(x2,(x3,(x4,()))))=cnd (ilt x4 8) (cnd (nz 2) (cnd (nz 2) (cnd (ieq (irem x1 2) 1) (sSumMore_D6 ((ixor .u32 (iquo .u32 x1 2) 3558460437),(x2,(x3,((iadd .i64 x4 1),()))))) (sSumMore_D6 ((iquo .u32 x1 2),(x2,(x3,((iadd .i64 x4 1),())))))) none) none) (sSumMore_D2 (x1,(x2,((iadd .i64 x3 1),())))):=(FnD.eqC V sSumMore_c sSumMore_F 6 (x1,(x2,(x3,(x4,()))))).trans (by kernel_rfl)
theorem sSumMore_q2 (x1:Int) (x2:ByteArray) (x3:Int):sSumMore_D2 (x1,(x2,(x3,())))=cnd (ilt x3 (ssz x2)) (cnd (inb x3 (ssz x2)) (sSumMore_D6 ((ixor .u32 x1 (iconv .u32 (sat x2 x3))),(x2,(x3,(0,()))))) none) (some ((x1,()),())):=(FnD.eqC V sSumMore_c sSumMore_F 2 (x1,(x2,(x3,())))).trans (by kernel_rfl)
theorem sSumMore_k:CallsOk Tryz.prog gls gvs 212 sSumMore_g:=FnD.ok (F:=sSumMore_F) (cs:=sSumMore_c) V_ok kN Tryz.func212 (by decide) (by kernel_rfl)
noncomputable def sSumOf_F:FnD:={f:=156,fn:=Tryz.f156,ps:=[pa .str],rs:=[rt (.int .u32)]}
noncomputable def sSumOf_c:List (Nat×Sig):=[(212,sSumMore_g)]
noncomputable def sSumOf_d:ByteArray×Unit→Option ((Int×Unit)×Unit):=sSumOf_F.d V sSumOf_c
noncomputable abbrev sSumOf_g:Sig:=sSumOf_F.t.sig sSumOf_d
theorem sSumOf_b (x1:ByteArray):sSumOf_d (x1,())=bnd (sSumMore_d (4294967295,(x1,()))) (fun r1=>(some ((r1.1.1,()),()))):=(FnD.eq V sSumOf_c sSumOf_F (x1,())).trans (by kernel_rfl)
theorem sSumOf_k:CallsOk Tryz.prog gls gvs 156 sSumOf_g:=FnD.ok (F:=sSumOf_F) (cs:=sSumOf_c) V_ok (kC sSumMore_k kN) Tryz.func156 (by decide) (by kernel_rfl)
noncomputable def sL02Four_F:FnD:={f:=155,fn:=Tryz.f155,ps:=[pa (.int .u32)],rs:=[rt .str]}
noncomputable def sL02Four_c:List (Nat×Sig):=[]
noncomputable def sL02Four_d:Int×Unit→Option ((ByteArray×Unit)×Unit):=sL02Four_F.d V sL02Four_c
noncomputable abbrev sL02Four_g:Sig:=sL02Four_F.t.sig sL02Four_d
theorem sL02Four_b (x1:Int):sL02Four_d (x1,())=cnd (nn 24) (cnd (nn 16) (cnd (nn 8) (some (((sof ((iconv .u8 (ishr .u32 x1 24))::((iconv .u8 (ishr .u32 x1 16))::((iconv .u8 (ishr .u32 x1 8))::((iconv .u8 x1)::([]:List Int)))))),()),())) none) none) none:=(FnD.eq V sL02Four_c sL02Four_F (x1,())).trans (by kernel_rfl)
theorem sL02Four_k:CallsOk Tryz.prog gls gvs 155 sL02Four_g:=FnD.ok (F:=sL02Four_F) (cs:=sL02Four_c) V_ok kN Tryz.func155 (by decide) (by kernel_rfl)
noncomputable def sSealed_F:FnD:={f:=168,fn:=Tryz.f168,ps:=[pa .str],rs:=[rt .str,rt .bool]}
noncomputable def sSealed_c:List (Nat×Sig):=[(156,sSumOf_g),(155,sL02Four_g)]
noncomputable def sSealed_d:ByteArray×Unit→Option ((ByteArray×Bool×Unit)×Unit):=sSealed_F.d V sSealed_c
noncomputable abbrev sSealed_g:Sig:=sSealed_F.t.sig sSealed_d
theorem sSealed_b (x1:ByteArray):sSealed_d (x1,())=cnd (igt (ssz x1) 20000) (some (zL21Cur,())) (bnd (sSumOf_d (x1,())) (fun r1=>(bnd (sL02Four_d (r1.1.1,())) (fun r2=>(cnd (fits ((ssz x1)+(ssz r2.1.1)) 1) (some (((scat x1 r2.1.1),(true,())),())) none))))):=(FnD.eq V sSealed_c sSealed_F (x1,())).trans (by kernel_rfl)
theorem sSealed_k:CallsOk Tryz.prog gls gvs 168 sSealed_g:=FnD.ok (F:=sSealed_F) (cs:=sSealed_c) V_ok (kC sSumOf_k (kC sL02Four_k kN)) Tryz.func168 (by decide) (by kernel_rfl)
noncomputable def sRecordText_F:FnD:={f:=148,fn:=Tryz.f148,ps:=[pa .str],rs:=[rt .str,rt .bool]}
noncomputable def sRecordText_c:List (Nat×Sig):=[(65,sL01In_g),(150,sL01Var_g),(168,sSealed_g)]
noncomputable def sRecordText_d:ByteArray×Unit→Option ((ByteArray×Bool×Unit)×Unit):=sRecordText_F.d V sRecordText_c
noncomputable abbrev sRecordText_g:Sig:=sRecordText_F.t.sig sRecordText_d
theorem sRecordText_b (x1:ByteArray):sRecordText_d (x1,())=bnd (sL01In_d ((ssz x1),(1,(700,())))) (fun r1=>(cnd (bnot r1.1.1) (some (zL21Cur,())) (bnd (sL01Var_d ((ssz x1),())) (fun r2=>(cnd (fits ((ssz r2.1.1)+(ssz x1)) 1) (bnd (sSealed_d ((scat r2.1.1 x1),())) (fun r3=>(some ((r3.1.1,(r3.1.2.1,())),())))) none))))):=(FnD.eq V sRecordText_c sRecordText_F (x1,())).trans (by kernel_rfl)
theorem sRecordText_k:CallsOk Tryz.prog gls gvs 148 sRecordText_g:=FnD.ok (F:=sRecordText_F) (cs:=sRecordText_c) V_ok (kC sL01In_k (kC sL01Var_k (kC sSealed_k kN))) Tryz.func148 (by decide) (by kernel_rfl)
noncomputable def sL23Read_F:FnD:={f:=91,fn:=Tryz.f91,ps:=[pa .str,pa (.int .i64)],rs:=[rt .str,rt (.int .i64),rt .bool]}
noncomputable def sL23Read_c:List (Nat×Sig):=[(147,sReadShort_g),(148,sRecordText_g)]
noncomputable def sL23Read_d:ByteArray×Int×Unit→Option ((ByteArray×Int×Bool×Unit)×Unit):=sL23Read_F.d V sL23Read_c
noncomputable abbrev sL23Read_g:Sig:=sL23Read_F.t.sig sL23Read_d
theorem sL23Read_b (x1:ByteArray) (x2:Int):sL23Read_d (x1,(x2,()))=bnd (sReadShort_d (x1,(x2,()))) (fun r2=>(cnd (bnot r2.1.2.2.1) (some (zScanner,())) (cnd (igt r2.1.2.1 (isub .i64 (ssz x1) 4)) (some (zScanner,())) (bnd (sRecordText_d (r2.1.1,())) (fun r3=>(cnd (bnot r3.1.2.1) (some (zScanner,())) (cnd (inb2 x2 (iadd .i64 r2.1.2.1 4) (ssz x1)) (cnd (sne r3.1.1 (ssub x1 x2 (iadd .i64 r2.1.2.1 4))) (some (zScanner,())) (some ((r2.1.1,((iadd .i64 r2.1.2.1 4),(true,()))),()))) none))))))):=(FnD.eq V sL23Read_c sL23Read_F (x1,(x2,()))).trans (by kernel_rfl)
theorem sL23Read_k:CallsOk Tryz.prog gls gvs 91 sL23Read_g:=FnD.ok (F:=sL23Read_F) (cs:=sL23Read_c) V_ok (kC sReadShort_k (kC sRecordText_k kN)) Tryz.func91 (by decide) (by kernel_rfl)
noncomputable def sReadJournal_F:FnD:={f:=35,fn:=Tryz.f35,ps:=[pa .str],rs:=[⟨(.sl .str),(.own 0 .sh),false⟩,rt (.int .i64)],cuts:=[(3,[.val 0 .str .sh, .val 4 (.sl .str) (.own 0 .sh), .val 5 (.int .i64) .sh])]}
noncomputable def sReadJournal_c:List (Nat×Sig):=[(91,sL23Read_g)]
noncomputable def sReadJournal_d:ByteArray×Unit→Option (((List ByteArray)×Int×Unit)×Unit):=sReadJournal_F.d V sReadJournal_c
noncomputable abbrev sReadJournal_g:Sig:=sReadJournal_F.t.sig sReadJournal_d
noncomputable def sReadJournal_D3:ByteArray× (List ByteArray)×Int×Unit→Option (((List ByteArray)×Int×Unit)×Unit):=sReadJournal_F.D V sReadJournal_c 3
theorem sReadJournal_b (x1:ByteArray):sReadJournal_d (x1,())=sReadJournal_D3 (x1,(([]:List ByteArray),(0,()))):=(FnD.eq V sReadJournal_c sReadJournal_F (x1,())).trans (by kernel_rfl)
theorem sReadJournal_q3 (x1:ByteArray) (x2:(List ByteArray)) (x3:Int):sReadJournal_D3 (x1,(x2,(x3,())))=bnd (sL23Read_d (x1,(x3,()))) (fun r3=>(cnd (bnot r3.1.2.2.1) (some ((x2,(x3,())),())) (cnd (fits ((len x2)+(len (r3.1.1::([]:List ByteArray)))) 1) (sReadJournal_D3 (x1,((app x2 (r3.1.1::([]:List ByteArray))),(r3.1.2.1,())))) none))):=(FnD.eqC V sReadJournal_c sReadJournal_F 3 (x1,(x2,(x3,())))).trans (by kernel_rfl)
theorem sReadJournal_k:CallsOk Tryz.prog gls gvs 35 sReadJournal_g:=FnD.ok (F:=sReadJournal_F) (cs:=sReadJournal_c) V_ok (kC sL23Read_k kN) Tryz.func35 (by decide) (by kernel_rfl)
noncomputable def sUnsealed_F:FnD:={f:=101,fn:=Tryz.f101,ps:=[pa .str],rs:=[rt .str,rt .bool]}
noncomputable def sUnsealed_c:List (Nat×Sig):=[(156,sSumOf_g),(155,sL02Four_g)]
noncomputable def sUnsealed_d:ByteArray×Unit→Option ((ByteArray×Bool×Unit)×Unit):=sUnsealed_F.d V sUnsealed_c
noncomputable abbrev sUnsealed_g:Sig:=sUnsealed_F.t.sig sUnsealed_d
theorem sUnsealed_b (x1:ByteArray):sUnsealed_d (x1,())=cnd (ilt (isub .i64 (ssz x1) 4) 0) (some (zL21Cur,())) (cnd (igt (isub .i64 (ssz x1) 4) 20000) (some (zL21Cur,())) (cnd (inb2 (isub .i64 (ssz x1) 4) (ssz x1) (ssz x1)) (cnd (inb2 0 (isub .i64 (ssz x1) 4) (ssz x1)) (bnd (sSumOf_d ((ssub x1 0 (isub .i64 (ssz x1) 4)),())) (fun r1=>(bnd (sL02Four_d (r1.1.1,())) (fun r2=>(cnd (sne (ssub x1 (isub .i64 (ssz x1) 4) (ssz x1)) r2.1.1) (some (zL21Cur,())) (cnd (inb2 0 (isub .i64 (ssz x1) 4) (ssz x1)) (some (((ssub x1 0 (isub .i64 (ssz x1) 4)),(true,())),())) none)))))) none) none)):=(FnD.eq V sUnsealed_c sUnsealed_F (x1,())).trans (by kernel_rfl)
theorem sUnsealed_k:CallsOk Tryz.prog gls gvs 101 sUnsealed_g:=FnD.ok (F:=sUnsealed_F) (cs:=sUnsealed_c) V_ok (kC sSumOf_k (kC sL02Four_k kN)) Tryz.func101 (by decide) (by kernel_rfl)
noncomputable def sL21Take_F:FnD:={f:=104,fn:=Tryz.f104,ps:=[⟨TL21Cur, .sh,true,true,none⟩,pa (.int .i64)],rs:=[rt .str]}
noncomputable def sL21Take_c:List (Nat×Sig):=[]
noncomputable def sL21Take_d:tL21Cur×Int×Unit→Option ((ByteArray×Unit)×tL21Cur×Unit):=sL21Take_F.d V sL21Take_c
noncomputable abbrev sL21Take_g:Sig:=sL21Take_F.t.sig sL21Take_d
theorem sL21Take_b (x1:tL21Cur) (x2:Int):sL21Take_d (x1,(x2,()))=cnd (igt x2 (ssz x1.1)) (some (((bs []),()),((x1.1,(true,x1.2.2)),()))) (cnd (inb2 0 x2 (ssz x1.1)) (cnd (inb2 x2 (ssz x1.1) (ssz x1.1)) (some (((ssub x1.1 0 x2),()),(((ssub x1.1 x2 (ssz x1.1)),x1.2),()))) none) none):=(FnD.eq V sL21Take_c sL21Take_F (x1,(x2,()))).trans (by kernel_rfl)
theorem sL21Take_k:CallsOk Tryz.prog gls gvs 104 sL21Take_g:=FnD.ok (F:=sL21Take_F) (cs:=sL21Take_c) V_ok kN Tryz.func104 (by decide) (by kernel_rfl)
noncomputable def sReadHead_F:FnD:={f:=157,fn:=Tryz.f157,ps:=[pa .str],rs:=[rt THead,rt .bool]}
noncomputable def sReadHead_c:List (Nat×Sig):=[(108,sReadVar_g),(132,sHeadOk_g)]
noncomputable def sReadHead_d:ByteArray×Unit→Option ((tHead×Bool×Unit)×Unit):=sReadHead_F.d V sReadHead_c
noncomputable abbrev sReadHead_g:Sig:=sReadHead_F.t.sig sReadHead_d
theorem sReadHead_b (x1:ByteArray):sReadHead_d (x1,())=bnd (sReadVar_d (x1,(0,()))) (fun r1=>(cnd (bnot r1.1.2.2.1) (some ((zHead,(false,())),())) (cnd (ine (ssz x1) (iadd .i64 r1.1.2.1 96)) (some ((zHead,(false,())),())) (cnd (inb2 r1.1.2.1 (iadd .i64 r1.1.2.1 32) (ssz x1)) (cnd (inb2 (iadd .i64 r1.1.2.1 32) (iadd .i64 r1.1.2.1 64) (ssz x1)) (cnd (inb2 (iadd .i64 r1.1.2.1 64) (ssz x1) (ssz x1)) (bnd (sHeadOk_d ((r1.1.1,((ssub x1 r1.1.2.1 (iadd .i64 r1.1.2.1 32)),((ssub x1 (iadd .i64 r1.1.2.1 32) (iadd .i64 r1.1.2.1 64)),((ssub x1 (iadd .i64 r1.1.2.1 64) (ssz x1)),())))),())) (fun r2=>(cnd (bnot r2.1.1) (some ((zHead,(false,())),())) (some (((r1.1.1,((ssub x1 r1.1.2.1 (iadd .i64 r1.1.2.1 32)),((ssub x1 (iadd .i64 r1.1.2.1 32) (iadd .i64 r1.1.2.1 64)),((ssub x1 (iadd .i64 r1.1.2.1 64) (ssz x1)),())))),(true,())),()))))) none) none) none)))):=(FnD.eq V sReadHead_c sReadHead_F (x1,())).trans (by kernel_rfl)
theorem sReadHead_k:CallsOk Tryz.prog gls gvs 157 sReadHead_g:=FnD.ok (F:=sReadHead_F) (cs:=sReadHead_c) V_ok (kC sReadVar_k (kC sHeadOk_k kN)) Tryz.func157 (by decide) (by kernel_rfl)
noncomputable def sL21Head_F:FnD:={f:=102,fn:=Tryz.f102,ps:=[⟨TL21Cur, .sh,true,true,none⟩],rs:=[rt THead]}
noncomputable def sL21Head_c:List (Nat×Sig):=[(108,sReadVar_g),(104,sL21Take_g),(157,sReadHead_g)]
noncomputable def sL21Head_d:tL21Cur×Unit→Option ((tHead×Unit)×tL21Cur×Unit):=sL21Head_F.d V sL21Head_c
noncomputable abbrev sL21Head_g:Sig:=sL21Head_F.t.sig sL21Head_d
theorem sL21Head_b (x1:tL21Cur):sL21Head_d (x1,())=bnd (sReadVar_d (x1.1,(0,()))) (fun r1=>(cnd (bnot r1.1.2.2.1) (some ((zHead,()),((x1.1,(true,x1.2.2)),()))) (bnd (sL21Take_d (x1,((iadd .i64 r1.1.2.1 96),()))) (fun r2=>(bnd (sReadHead_d (r2.1.1,())) (fun r3=>(cnd (bnot r3.1.2.1) (some ((r3.1.1,()),((r2.2.1.1,(true,r2.2.1.2.2)),()))) (some ((r3.1.1,()),(r2.2.1,())))))))))):=(FnD.eq V sL21Head_c sL21Head_F (x1,())).trans (by kernel_rfl)
theorem sL21Head_k:CallsOk Tryz.prog gls gvs 102 sL21Head_g:=FnD.ok (F:=sL21Head_F) (cs:=sL21Head_c) V_ok (kC sReadVar_k (kC sL21Take_k (kC sReadHead_k kN))) Tryz.func102 (by decide) (by kernel_rfl)
noncomputable def sFpRoot_F:FnD:={f:=161,fn:=Tryz.f161,ps:=[pa (.int .i64)],rs:=[rt (.int .i64),rt .bool]}
noncomputable def sFpRoot_c:List (Nat×Sig):=[(214,sFpPow_g),(215,sFpMul_g),(216,sFpOf_g),(163,sFpSub_g)]
noncomputable def sFpRoot_d:Int×Unit→Option ((Int×Bool×Unit)×Unit):=sFpRoot_F.d V sFpRoot_c
noncomputable abbrev sFpRoot_g:Sig:=sFpRoot_F.t.sig sFpRoot_d
theorem sFpRoot_b (x1:Int):sFpRoot_d (x1,())=bnd (sFpPow_d (x1,(3027,()))) (fun r1=>(bnd (sFpMul_d (r1.1.1,(r1.1.1,()))) (fun r2=>(bnd (sFpOf_d (x1,())) (fun r3=>(cnd (ine r2.1.1 r3.1.1) (some ((0,(false,())),())) (bnd (sFpSub_d (0,(r1.1.1,()))) (fun r4=>(cnd (ilt r4.1.1 r1.1.1) (bnd (sFpSub_d (0,(r1.1.1,()))) (fun r5=>(some ((r5.1.1,(true,())),())))) (some ((r1.1.1,(true,())),()))))))))))):=(FnD.eq V sFpRoot_c sFpRoot_F (x1,())).trans (by kernel_rfl)
theorem sFpRoot_k:CallsOk Tryz.prog gls gvs 161 sFpRoot_g:=FnD.ok (F:=sFpRoot_F) (cs:=sFpRoot_c) V_ok (kC sFpPow_k (kC sFpMul_k (kC sFpOf_k (kC sFpSub_k kN)))) Tryz.func161 (by decide) (by kernel_rfl)
noncomputable def sPointText_F:FnD:={f:=164,fn:=Tryz.f164,ps:=[pa TPoint],rs:=[rt .str]}
noncomputable def sPointText_c:List (Nat×Sig):=[(218,sPointOk_g)]
noncomputable def sPointText_d:tPoint×Unit→Option ((ByteArray×Unit)×Unit):=sPointText_F.d V sPointText_c
noncomputable abbrev sPointText_g:Sig:=sPointText_F.t.sig sPointText_d
theorem sPointText_b (x1:tPoint):sPointText_d (x1,())=bnd (sPointOk_d (x1,())) (fun r1=>(cnd (bnot r1.1.1) (some (((bs []),()),())) (cnd x1.2.2.1 (some (((bs [0,0,0]),()),())) (cnd (nn 8) (cnd (nz 2) (some (((sof ((iconv .u8 (ishr .i64 (iadd .i64 x1.1 1) 8))::((iconv .u8 (iadd .i64 x1.1 1))::((iconv .u8 (irem x1.2.1 2))::([]:List Int))))),()),())) none) none)))):=(FnD.eq V sPointText_c sPointText_F (x1,())).trans (by kernel_rfl)
theorem sPointText_k:CallsOk Tryz.prog gls gvs 164 sPointText_g:=FnD.ok (F:=sPointText_F) (cs:=sPointText_c) V_ok (kC sPointOk_k kN) Tryz.func164 (by decide) (by kernel_rfl)
noncomputable def sReadPoint_F:FnD:={f:=106,fn:=Tryz.f106,ps:=[pa .str],rs:=[rt TPoint,rt .bool],joins:=[13],cuts:=[(13,[.val 0 .str .sh, .val 4 (.int .i64) .sh, .val 5 (.int .i64) .sh, .box 2 TPoint .sh, .ptr 2 2 0])]}
noncomputable def sReadPoint_c:List (Nat×Sig):=[(159,sL07Zero_g),(160,sFpOk_g),(162,sL07Right_g),(161,sFpRoot_g),(163,sFpSub_g),(164,sPointText_g)]
noncomputable def sReadPoint_d:ByteArray×Unit→Option ((tPoint×Bool×Unit)×Unit):=sReadPoint_F.d V sReadPoint_c
noncomputable abbrev sReadPoint_g:Sig:=sReadPoint_F.t.sig sReadPoint_d
noncomputable def sReadPoint_D13:ByteArray×Int×Int×tPoint×Unit→Option ((tPoint×Bool×Unit)×Unit):=sReadPoint_F.D V sReadPoint_c 13
theorem sReadPoint_b (x1:ByteArray):sReadPoint_d (x1,())=cnd (ine (ssz x1) 3) (some ((zPoint,(false,())),())) (cnd (seq x1 (bs [0,0,0])) (bnd (sL07Zero_d ()) (fun r1=>(some ((r1.1.1,(true,())),())))) (cnd (inb 0 (ssz x1)) (cnd (inb 1 (ssz x1)) (bnd (sFpOk_d ((isub .i64 (iadd .i64 (imul .i64 (iconv .i64 (sat x1 0)) 256) (iconv .i64 (sat x1 1))) 1),())) (fun r1=>(cnd (bnot r1.1.1) (some ((zPoint,(false,())),())) (cnd (inb 2 (ssz x1)) (cnd (igt (sat x1 2) 1) (some ((zPoint,(false,())),())) (bnd (sL07Right_d ((isub .i64 (iadd .i64 (imul .i64 (iconv .i64 (sat x1 0)) 256) (iconv .i64 (sat x1 1))) 1),())) (fun r2=>(bnd (sFpRoot_d (r2.1.1,())) (fun r3=>(cnd (bnot r3.1.2.1) (some ((zPoint,(false,())),())) (cnd (nz 2) (cnd (inb 2 (ssz x1)) (cnd (ine (irem r3.1.1 2) (iconv .i64 (sat x1 2))) (bnd (sFpSub_d (0,(r3.1.1,()))) (fun r4=>(sReadPoint_D13 (x1,((isub .i64 (iadd .i64 (imul .i64 (iconv .i64 (sat x1 0)) 256) (iconv .i64 (sat x1 1))) 1),(r4.1.1,(zPoint,()))))))) (sReadPoint_D13 (x1,((isub .i64 (iadd .i64 (imul .i64 (iconv .i64 (sat x1 0)) 256) (iconv .i64 (sat x1 1))) 1),(r3.1.1,(zPoint,())))))) none) none))))))) none)))) none) none)):=(FnD.eq V sReadPoint_c sReadPoint_F (x1,())).trans (by kernel_rfl)
theorem sReadPoint_q13 (x1:ByteArray) (x2:Int) (x3:Int) (x4:tPoint):sReadPoint_D13 (x1,(x2,(x3,(x4,()))))=bnd (sPointText_d ((x2,(x3,(false,()))),())) (fun r4=>(cnd (sne r4.1.1 x1) (some ((zPoint,(false,())),())) (some (((x2,(x3,(false,()))),(true,())),())))):=(FnD.eqC V sReadPoint_c sReadPoint_F 13 (x1,(x2,(x3,(x4,()))))).trans (by kernel_rfl)
theorem sReadPoint_k:CallsOk Tryz.prog gls gvs 106 sReadPoint_g:=FnD.ok (F:=sReadPoint_F) (cs:=sReadPoint_c) V_ok (kC sL07Zero_k (kC sFpOk_k (kC sL07Right_k (kC sFpRoot_k (kC sFpSub_k (kC sPointText_k kN)))))) Tryz.func106 (by decide) (by kernel_rfl)
noncomputable def sPointAdd_F:FnD:={f:=253,fn:=Tryz.f253,ps:=[pa TPoint,pa TPoint],rs:=[rt TPoint]}
noncomputable def sPointAdd_c:List (Nat×Sig):=[(218,sPointOk_g),(159,sL07Zero_g),(284,sL07Add_g)]
noncomputable def sPointAdd_d:tPoint×tPoint×Unit→Option ((tPoint×Unit)×Unit):=sPointAdd_F.d V sPointAdd_c
noncomputable abbrev sPointAdd_g:Sig:=sPointAdd_F.t.sig sPointAdd_d
theorem sPointAdd_b (x1:tPoint) (x2:tPoint):sPointAdd_d (x1,(x2,()))=bnd (sPointOk_d (x1,())) (fun r2=>(cnd (bnot r2.1.1) (bnd (sL07Zero_d ()) (fun r3=>(some ((r3.1.1,()),())))) (bnd (sPointOk_d (x2,())) (fun r3=>(cnd (bnot r3.1.1) (bnd (sL07Zero_d ()) (fun r4=>(some ((r4.1.1,()),())))) (bnd (sL07Add_d (x1,(x2,()))) (fun r4=>(some ((r4.1.1,()),()))))))))):=(FnD.eq V sPointAdd_c sPointAdd_F (x1,(x2,()))).trans (by kernel_rfl)
theorem sPointAdd_k:CallsOk Tryz.prog gls gvs 253 sPointAdd_g:=FnD.ok (F:=sPointAdd_F) (cs:=sPointAdd_c) V_ok (kC sPointOk_k (kC sL07Zero_k (kC sL07Add_k kN))) Tryz.func253 (by decide) (by kernel_rfl)
noncomputable def sSumPoints_F:FnD:={f:=213,fn:=Tryz.f213,ps:=[pa (.sl TPoint)],rs:=[rt TPoint],cuts:=[(3,[.val 0 (.sl TPoint) .sh, .val 4 (.int .i64) .sh, .box 2 TPoint .sh, .box 3 TPoint .sh, .ptr 2 2 0, .ptr 3 3 0])]}
noncomputable def sSumPoints_c:List (Nat×Sig):=[(159,sL07Zero_g),(253,sPointAdd_g)]
noncomputable def sSumPoints_d:(List tPoint)×Unit→Option ((tPoint×Unit)×Unit):=sSumPoints_F.d V sSumPoints_c
noncomputable abbrev sSumPoints_g:Sig:=sSumPoints_F.t.sig sSumPoints_d
noncomputable def sSumPoints_D3:(List tPoint)×Int×tPoint×tPoint×Unit→Option ((tPoint×Unit)×Unit):=sSumPoints_F.D V sSumPoints_c 3
theorem sSumPoints_b (x1:(List tPoint)):sSumPoints_d (x1,())=bnd (sL07Zero_d ()) (fun r1=>(sSumPoints_D3 (x1,(0,(zPoint,(r1.1.1,())))))):=(FnD.eq V sSumPoints_c sSumPoints_F (x1,())).trans (by kernel_rfl)
theorem sSumPoints_q3 (x1:(List tPoint)) (x2:Int) (x3:tPoint) (x4:tPoint):sSumPoints_D3 (x1,(x2,(x3,(x4,()))))=cnd (ilt x2 (len x1)) (cnd (inb x2 (len x1)) (bnd (sPointAdd_d (x4,((rd zPoint x1 x2),()))) (fun r4=>(sSumPoints_D3 (x1,((iadd .i64 x2 1),(x3,(r4.1.1,()))))))) none) (some ((x4,()),())):=(FnD.eqC V sSumPoints_c sSumPoints_F 3 (x1,(x2,(x3,(x4,()))))).trans (by kernel_rfl)
theorem sSumPoints_k:CallsOk Tryz.prog gls gvs 213 sSumPoints_g:=FnD.ok (F:=sSumPoints_F) (cs:=sSumPoints_c) V_ok (kC sL07Zero_k (kC sPointAdd_k kN)) Tryz.func213 (by decide) (by kernel_rfl)
noncomputable def sCommitteeText_F:FnD:={f:=158,fn:=Tryz.f158,ps:=[pa TCommittee],rs:=[rt .str,rt .bool],cuts:=[(5,[.val 4 .str .sh, .val 5 (.int .i64) .sh, .box 1 TCommittee .sh, .ptr 1 1 0])]}
noncomputable def sCommitteeText_c:List (Nat×Sig):=[(133,sCommitteeOk_g),(164,sPointText_g),(213,sSumPoints_g)]
noncomputable def sCommitteeText_d:tCommittee×Unit→Option ((ByteArray×Bool×Unit)×Unit):=sCommitteeText_F.d V sCommitteeText_c
noncomputable abbrev sCommitteeText_g:Sig:=sCommitteeText_F.t.sig sCommitteeText_d
noncomputable def sCommitteeText_D5:ByteArray×Int×tCommittee×Unit→Option ((ByteArray×Bool×Unit)×Unit):=sCommitteeText_F.D V sCommitteeText_c 5
theorem sCommitteeText_b (x1:tCommittee):sCommitteeText_d (x1,())=bnd (sCommitteeOk_d (x1,())) (fun r1=>(cnd (bnot r1.1.1) (some (zL21Cur,())) (sCommitteeText_D5 ((bs []),(0,(x1,())))))):=(FnD.eq V sCommitteeText_c sCommitteeText_F (x1,())).trans (by kernel_rfl)
theorem sCommitteeText_q5 (x1:ByteArray) (x2:Int) (x3:tCommittee):sCommitteeText_D5 (x1,(x2,(x3,())))=cnd (ilt x2 (len x3.1)) (cnd (inb x2 (len x3.1)) (bnd (sPointText_d ((rd zPoint x3.1 x2),())) (fun r3=>(cnd (fits ((ssz x1)+(ssz r3.1.1)) 1) (sCommitteeText_D5 ((scat x1 r3.1.1),((iadd .i64 x2 1),(x3,())))) none))) none) (bnd (sSumPoints_d (x3.1,())) (fun r3=>(bnd (sPointText_d (r3.1.1,())) (fun r4=>(cnd (fits ((ssz x1)+(ssz r4.1.1)) 1) (some (((scat x1 r4.1.1),(true,())),())) none))))):=(FnD.eqC V sCommitteeText_c sCommitteeText_F 5 (x1,(x2,(x3,())))).trans (by kernel_rfl)
theorem sCommitteeText_k:CallsOk Tryz.prog gls gvs 158 sCommitteeText_g:=FnD.ok (F:=sCommitteeText_F) (cs:=sCommitteeText_c) V_ok (kC sCommitteeOk_k (kC sPointText_k (kC sSumPoints_k kN))) Tryz.func158 (by decide) (by kernel_rfl)
noncomputable def sReadCommittee_F:FnD:={f:=103,fn:=Tryz.f103,ps:=[pa .str],rs:=[⟨TCommittee,(.pr (.own 0 .sh) .sh),false⟩,rt .bool],cuts:=[(5,[.val 0 .str .sh, .val 5 (.int .i64) .sh, .box 2 TCommittee (.pr (.own 0 .sh) .sh), .box 4 TCommittee (.pr (.own 0 .sh) .sh), .ptr 2 2 0, .ptr 4 4 0])]}
noncomputable def sReadCommittee_c:List (Nat×Sig):=[(106,sReadPoint_g),(158,sCommitteeText_g)]
noncomputable def sReadCommittee_d:ByteArray×Unit→Option ((tCommittee×Bool×Unit)×Unit):=sReadCommittee_F.d V sReadCommittee_c
noncomputable abbrev sReadCommittee_g:Sig:=sReadCommittee_F.t.sig sReadCommittee_d
noncomputable def sReadCommittee_D5:ByteArray×Int×tCommittee×tCommittee×Unit→Option ((tCommittee×Bool×Unit)×Unit):=sReadCommittee_F.D V sReadCommittee_c 5
theorem sReadCommittee_b (x1:ByteArray):sReadCommittee_d (x1,())=cnd (ine (ssz x1) 27) (some ((zCommittee,(false,())),())) (sReadCommittee_D5 (x1,(0,(zCommittee,(zCommittee,()))))):=(FnD.eq V sReadCommittee_c sReadCommittee_F (x1,())).trans (by kernel_rfl)
theorem sReadCommittee_q5 (x1:ByteArray) (x2:Int) (x3:tCommittee) (x4:tCommittee):sReadCommittee_D5 (x1,(x2,(x3,(x4,()))))=cnd (ilt x2 8) (cnd (inb2 (imul .i64 3 x2) (iadd .i64 (imul .i64 3 x2) 3) (ssz x1)) (bnd (sReadPoint_d ((ssub x1 (imul .i64 3 x2) (iadd .i64 (imul .i64 3 x2) 3)),())) (fun r4=>(cnd (bnot r4.1.2.1) (some ((zCommittee,(false,())),())) (cnd (fits ((len x4.1)+(len (r4.1.1::([]:List tPoint)))) 3) (sReadCommittee_D5 (x1,((iadd .i64 x2 1),(x3,(((app x4.1 (r4.1.1::([]:List tPoint))),x4.2),()))))) none)))) none) (bnd (sCommitteeText_d (x4,())) (fun r4=>(cnd (bnot r4.1.2.1) (some ((zCommittee,(false,())),())) (cnd (sne r4.1.1 x1) (some ((zCommittee,(false,())),())) (some ((x4,(true,())),())))))):=(FnD.eqC V sReadCommittee_c sReadCommittee_F 5 (x1,(x2,(x3,(x4,()))))).trans (by kernel_rfl)
theorem sReadCommittee_k:CallsOk Tryz.prog gls gvs 103 sReadCommittee_g:=FnD.ok (F:=sReadCommittee_F) (cs:=sReadCommittee_c) V_ok (kC sReadPoint_k (kC sCommitteeText_k kN)) Tryz.func103 (by decide) (by kernel_rfl)
noncomputable def sL21Branch_F:FnD:={f:=105,fn:=Tryz.f105,ps:=[⟨TL21Cur, .sh,true,true,none⟩],rs:=[⟨(.sl .str),(.own 0 .sh),false⟩]}
noncomputable def sL21Branch_c:List (Nat×Sig):=[(104,sL21Take_g)]
noncomputable def sL21Branch_d:tL21Cur×Unit→Option (((List ByteArray)×Unit)×tL21Cur×Unit):=sL21Branch_F.d V sL21Branch_c
noncomputable abbrev sL21Branch_g:Sig:=sL21Branch_F.t.sig sL21Branch_d
theorem sL21Branch_b (x1:tL21Cur):sL21Branch_d (x1,())=bnd (sL21Take_d (x1,(32,()))) (fun r1=>(bnd (sL21Take_d (r1.2.1,(32,()))) (fun r2=>(some (((r1.1.1::(r2.1.1::([]:List ByteArray))),()),(r2.2.1,())))))):=(FnD.eq V sL21Branch_c sL21Branch_F (x1,())).trans (by kernel_rfl)
theorem sL21Branch_k:CallsOk Tryz.prog gls gvs 105 sL21Branch_g:=FnD.ok (F:=sL21Branch_F) (cs:=sL21Branch_c) V_ok (kC sL21Take_k kN) Tryz.func105 (by decide) (by kernel_rfl)
noncomputable def sProofText_F:FnD:={f:=165,fn:=Tryz.f165,ps:=[pa TProof],rs:=[rt .str,rt .bool]}
noncomputable def sProofText_c:List (Nat×Sig):=[(200,sInGroup_g),(164,sPointText_g)]
noncomputable def sProofText_d:tProof×Unit→Option ((ByteArray×Bool×Unit)×Unit):=sProofText_F.d V sProofText_c
noncomputable abbrev sProofText_g:Sig:=sProofText_F.t.sig sProofText_d
theorem sProofText_b (x1:tProof):sProofText_d (x1,())=bnd (sInGroup_d (x1.1,())) (fun r1=>(cnd (bnot r1.1.1) (some (zL21Cur,())) (bnd (sInGroup_d (x1.2.1,())) (fun r2=>(cnd (bnot r2.1.1) (some (zL21Cur,())) (bnd (sInGroup_d (x1.2.2.1,())) (fun r3=>(cnd (bnot r3.1.1) (some (zL21Cur,())) (bnd (sPointText_d (x1.1,())) (fun r4=>(bnd (sPointText_d (x1.2.1,())) (fun r5=>(cnd (fits ((ssz r4.1.1)+(ssz r5.1.1)) 1) (bnd (sPointText_d (x1.2.2.1,())) (fun r6=>(cnd (fits ((ssz (scat r4.1.1 r5.1.1))+(ssz r6.1.1)) 1) (some (((scat (scat r4.1.1 r5.1.1) r6.1.1),(true,())),())) none))) none))))))))))))):=(FnD.eq V sProofText_c sProofText_F (x1,())).trans (by kernel_rfl)
theorem sProofText_k:CallsOk Tryz.prog gls gvs 165 sProofText_g:=FnD.ok (F:=sProofText_F) (cs:=sProofText_c) V_ok (kC sInGroup_k (kC sPointText_k kN)) Tryz.func165 (by decide) (by kernel_rfl)
noncomputable def sReadProof_F:FnD:={f:=107,fn:=Tryz.f107,ps:=[pa .str],rs:=[rt TProof,rt .bool]}
noncomputable def sReadProof_c:List (Nat×Sig):=[(106,sReadPoint_g),(165,sProofText_g)]
noncomputable def sReadProof_d:ByteArray×Unit→Option ((tProof×Bool×Unit)×Unit):=sReadProof_F.d V sReadProof_c
noncomputable abbrev sReadProof_g:Sig:=sReadProof_F.t.sig sReadProof_d
theorem sReadProof_b (x1:ByteArray):sReadProof_d (x1,())=cnd (ine (ssz x1) 9) (some ((zProof,(false,())),())) (cnd (inb2 0 3 (ssz x1)) (bnd (sReadPoint_d ((ssub x1 0 3),())) (fun r1=>(cnd (inb2 3 6 (ssz x1)) (bnd (sReadPoint_d ((ssub x1 3 6),())) (fun r2=>(cnd (inb2 6 (ssz x1) (ssz x1)) (bnd (sReadPoint_d ((ssub x1 6 (ssz x1)),())) (fun r3=>(bnd (sProofText_d ((r1.1.1,(r2.1.1,(r3.1.1,()))),())) (fun r4=>(cnd (bnot r1.1.2.1) (some ((zProof,(false,())),())) (cnd (bnot r2.1.2.1) (some ((zProof,(false,())),())) (cnd (bnot r3.1.2.1) (some ((zProof,(false,())),())) (cnd (bnot r4.1.2.1) (some ((zProof,(false,())),())) (some (((r1.1.1,(r2.1.1,(r3.1.1,()))),(true,())),())))))))))) none))) none))) none):=(FnD.eq V sReadProof_c sReadProof_F (x1,())).trans (by kernel_rfl)
theorem sReadProof_k:CallsOk Tryz.prog gls gvs 107 sReadProof_g:=FnD.ok (F:=sReadProof_F) (cs:=sReadProof_c) V_ok (kC sReadPoint_k (kC sProofText_k kN)) Tryz.func107 (by decide) (by kernel_rfl)
noncomputable def sBranchOk_F:FnD:={f:=219,fn:=Tryz.f219,ps:=[pa (.sl .str)],rs:=[rt .bool],cuts:=[(2,[.val 0 (.sl .str) .sh, .val 3 (.int .i64) .sh])]}
noncomputable def sBranchOk_c:List (Nat×Sig):=[]
noncomputable def sBranchOk_d:(List ByteArray)×Unit→Option ((Bool×Unit)×Unit):=sBranchOk_F.d V sBranchOk_c
noncomputable abbrev sBranchOk_g:Sig:=sBranchOk_F.t.sig sBranchOk_d
noncomputable def sBranchOk_D2:(List ByteArray)×Int×Unit→Option ((Bool×Unit)×Unit):=sBranchOk_F.D V sBranchOk_c 2
theorem sBranchOk_b (x1:(List ByteArray)):sBranchOk_d (x1,())=sBranchOk_D2 (x1,(0,())):=(FnD.eq V sBranchOk_c sBranchOk_F (x1,())).trans (by kernel_rfl)
theorem sBranchOk_q2 (x1:(List ByteArray)) (x2:Int):sBranchOk_D2 (x1,(x2,()))=cnd (ilt x2 (len x1)) (cnd (inb x2 (len x1)) (cnd (ine (ssz (rd (bs []) x1 x2)) 32) (some ((false,()),())) (sBranchOk_D2 (x1,((iadd .i64 x2 1),())))) none) (some (((ieq (len x1) 2),()),())):=(FnD.eqC V sBranchOk_c sBranchOk_F 2 (x1,(x2,()))).trans (by kernel_rfl)
theorem sBranchOk_k:CallsOk Tryz.prog gls gvs 219 sBranchOk_g:=FnD.ok (F:=sBranchOk_F) (cs:=sBranchOk_c) V_ok kN Tryz.func219 (by decide) (by kernel_rfl)
noncomputable def sUpdateOk_F:FnD:={f:=166,fn:=Tryz.f166,ps:=[pa TUpdate],rs:=[rt .bool]}
noncomputable def sUpdateOk_c:List (Nat×Sig):=[(132,sHeadOk_g),(133,sCommitteeOk_g),(219,sBranchOk_g),(65,sL01In_g),(200,sInGroup_g)]
noncomputable def sUpdateOk_d:tUpdate×Unit→Option ((Bool×Unit)×Unit):=sUpdateOk_F.d V sUpdateOk_c
noncomputable abbrev sUpdateOk_g:Sig:=sUpdateOk_F.t.sig sUpdateOk_d
theorem sUpdateOk_b (x1:tUpdate):sUpdateOk_d (x1,())=bnd (sHeadOk_d (x1.1,())) (fun r1=>(cnd (bnot r1.1.1) (some ((false,()),())) (bnd (sHeadOk_d (x1.2.2.2.1,())) (fun r2=>(cnd (bnot r2.1.1) (some ((false,()),())) (bnd (sCommitteeOk_d (x1.2.1,())) (fun r3=>(cnd (bnot r3.1.1) (some ((false,()),())) (bnd (sBranchOk_d (x1.2.2.1,())) (fun r4=>(cnd (bnot r4.1.1) (some ((false,()),())) (bnd (sBranchOk_d (x1.2.2.2.2.1,())) (fun r5=>(cnd (bnot r5.1.1) (some ((false,()),())) (bnd (sL01In_d (x1.2.2.2.2.2.1,(0,(255,())))) (fun r6=>(cnd r6.1.1 (bnd (sInGroup_d (x1.2.2.2.2.2.2.1,())) (fun r7=>(cnd r7.1.1 (bnd (sInGroup_d (x1.2.2.2.2.2.2.2.1.1,())) (fun r8=>(cnd r8.1.1 (bnd (sInGroup_d (x1.2.2.2.2.2.2.2.1.2.1,())) (fun r9=>(cnd r9.1.1 (bnd (sInGroup_d (x1.2.2.2.2.2.2.2.1.2.2.1,())) (fun r10=>(cnd r10.1.1 (bnd (sL01In_d (x1.2.2.2.2.2.2.2.2.1,(0,(10000,())))) (fun r11=>(some ((r11.1.1,()),())))) (some ((false,()),()))))) (some ((false,()),()))))) (some ((false,()),()))))) (some ((false,()),()))))) (some ((false,()),()))))))))))))))))))):=(FnD.eq V sUpdateOk_c sUpdateOk_F (x1,())).trans (by kernel_rfl)
theorem sUpdateOk_k:CallsOk Tryz.prog gls gvs 166 sUpdateOk_g:=FnD.ok (F:=sUpdateOk_F) (cs:=sUpdateOk_c) V_ok (kC sHeadOk_k (kC sCommitteeOk_k (kC sBranchOk_k (kC sL01In_k (kC sInGroup_k kN))))) Tryz.func166 (by decide) (by kernel_rfl)
noncomputable def sHeadText_F:FnD:={f:=167,fn:=Tryz.f167,ps:=[pa THead],rs:=[rt .str,rt .bool]}
noncomputable def sHeadText_c:List (Nat×Sig):=[(132,sHeadOk_g),(150,sL01Var_g)]
noncomputable def sHeadText_d:tHead×Unit→Option ((ByteArray×Bool×Unit)×Unit):=sHeadText_F.d V sHeadText_c
noncomputable abbrev sHeadText_g:Sig:=sHeadText_F.t.sig sHeadText_d
theorem sHeadText_b (x1:tHead):sHeadText_d (x1,())=bnd (sHeadOk_d (x1,())) (fun r1=>(cnd (bnot r1.1.1) (some (zL21Cur,())) (bnd (sL01Var_d (x1.1,())) (fun r2=>(cnd (fits ((ssz r2.1.1)+(ssz x1.2.1)) 1) (cnd (fits ((ssz (scat r2.1.1 x1.2.1))+(ssz x1.2.2.1)) 1) (cnd (fits ((ssz (scat (scat r2.1.1 x1.2.1) x1.2.2.1))+(ssz x1.2.2.2.1)) 1) (some (((scat (scat (scat r2.1.1 x1.2.1) x1.2.2.1) x1.2.2.2.1),(true,())),())) none) none) none))))):=(FnD.eq V sHeadText_c sHeadText_F (x1,())).trans (by kernel_rfl)
theorem sHeadText_k:CallsOk Tryz.prog gls gvs 167 sHeadText_g:=FnD.ok (F:=sHeadText_F) (cs:=sHeadText_c) V_ok (kC sHeadOk_k (kC sL01Var_k kN)) Tryz.func167 (by decide) (by kernel_rfl)
noncomputable def sUpdateText_F:FnD:={f:=109,fn:=Tryz.f109,ps:=[pa TUpdate],rs:=[rt .str,rt .bool]}
noncomputable def sUpdateText_c:List (Nat×Sig):=[(166,sUpdateOk_g),(167,sHeadText_g),(158,sCommitteeText_g),(165,sProofText_g),(164,sPointText_g),(150,sL01Var_g),(168,sSealed_g)]
noncomputable def sUpdateText_d:tUpdate×Unit→Option ((ByteArray×Bool×Unit)×Unit):=sUpdateText_F.d V sUpdateText_c
noncomputable abbrev sUpdateText_g:Sig:=sUpdateText_F.t.sig sUpdateText_d
theorem sUpdateText_b (x1:tUpdate):sUpdateText_d (x1,())=bnd (sUpdateOk_d (x1,())) (fun r1=>(cnd (bnot r1.1.1) (some (zL21Cur,())) (bnd (sHeadText_d (x1.1,())) (fun r2=>(bnd (sCommitteeText_d (x1.2.1,())) (fun r3=>(bnd (sHeadText_d (x1.2.2.2.1,())) (fun r4=>(bnd (sProofText_d (x1.2.2.2.2.2.2.2.1,())) (fun r5=>(cnd (fits ((ssz r2.1.1)+(ssz r3.1.1)) 1) (cnd (inb 0 (len x1.2.2.1)) (cnd (fits ((ssz (scat r2.1.1 r3.1.1))+(ssz (rd (bs []) x1.2.2.1 0))) 1) (cnd (inb 1 (len x1.2.2.1)) (cnd (fits ((ssz (scat (scat r2.1.1 r3.1.1) (rd (bs []) x1.2.2.1 0)))+(ssz (rd (bs []) x1.2.2.1 1))) 1) (cnd (fits ((ssz (scat (scat (scat r2.1.1 r3.1.1) (rd (bs []) x1.2.2.1 0)) (rd (bs []) x1.2.2.1 1)))+(ssz r4.1.1)) 1) (cnd (inb 0 (len x1.2.2.2.2.1)) (cnd (fits ((ssz (scat (scat (scat (scat r2.1.1 r3.1.1) (rd (bs []) x1.2.2.1 0)) (rd (bs []) x1.2.2.1 1)) r4.1.1))+(ssz (rd (bs []) x1.2.2.2.2.1 0))) 1) (cnd (inb 1 (len x1.2.2.2.2.1)) (cnd (fits ((ssz (scat (scat (scat (scat (scat r2.1.1 r3.1.1) (rd (bs []) x1.2.2.1 0)) (rd (bs []) x1.2.2.1 1)) r4.1.1) (rd (bs []) x1.2.2.2.2.1 0)))+(ssz (rd (bs []) x1.2.2.2.2.1 1))) 1) (cnd (fits ((ssz (scat (scat (scat (scat (scat (scat r2.1.1 r3.1.1) (rd (bs []) x1.2.2.1 0)) (rd (bs []) x1.2.2.1 1)) r4.1.1) (rd (bs []) x1.2.2.2.2.1 0)) (rd (bs []) x1.2.2.2.2.1 1)))+(ssz (sof ((iconv .u8 x1.2.2.2.2.2.1)::([]:List Int))))) 1) (bnd (sPointText_d (x1.2.2.2.2.2.2.1,())) (fun r6=>(cnd (fits ((ssz (scat (scat (scat (scat (scat (scat (scat r2.1.1 r3.1.1) (rd (bs []) x1.2.2.1 0)) (rd (bs []) x1.2.2.1 1)) r4.1.1) (rd (bs []) x1.2.2.2.2.1 0)) (rd (bs []) x1.2.2.2.2.1 1)) (sof ((iconv .u8 x1.2.2.2.2.2.1)::([]:List Int)))))+(ssz r6.1.1)) 1) (cnd (fits ((ssz (scat (scat (scat (scat (scat (scat (scat (scat r2.1.1 r3.1.1) (rd (bs []) x1.2.2.1 0)) (rd (bs []) x1.2.2.1 1)) r4.1.1) (rd (bs []) x1.2.2.2.2.1 0)) (rd (bs []) x1.2.2.2.2.1 1)) (sof ((iconv .u8 x1.2.2.2.2.2.1)::([]:List Int)))) r6.1.1))+(ssz r5.1.1)) 1) (bnd (sL01Var_d (x1.2.2.2.2.2.2.2.2.1,())) (fun r7=>(cnd (fits ((ssz (scat (scat (scat (scat (scat (scat (scat (scat (scat r2.1.1 r3.1.1) (rd (bs []) x1.2.2.1 0)) (rd (bs []) x1.2.2.1 1)) r4.1.1) (rd (bs []) x1.2.2.2.2.1 0)) (rd (bs []) x1.2.2.2.2.1 1)) (sof ((iconv .u8 x1.2.2.2.2.2.1)::([]:List Int)))) r6.1.1) r5.1.1))+(ssz r7.1.1)) 1) (bnd (sSealed_d ((scat (scat (scat (scat (scat (scat (scat (scat (scat (scat r2.1.1 r3.1.1) (rd (bs []) x1.2.2.1 0)) (rd (bs []) x1.2.2.1 1)) r4.1.1) (rd (bs []) x1.2.2.2.2.1 0)) (rd (bs []) x1.2.2.2.2.1 1)) (sof ((iconv .u8 x1.2.2.2.2.2.1)::([]:List Int)))) r6.1.1) r5.1.1) r7.1.1),())) (fun r8=>(some ((r8.1.1,(r8.1.2.1,())),())))) none))) none) none))) none) none) none) none) none) none) none) none) none) none) none))))))))))):=(FnD.eq V sUpdateText_c sUpdateText_F (x1,())).trans (by kernel_rfl)
theorem sUpdateText_k:CallsOk Tryz.prog gls gvs 109 sUpdateText_g:=FnD.ok (F:=sUpdateText_F) (cs:=sUpdateText_c) V_ok (kC sUpdateOk_k (kC sHeadText_k (kC sCommitteeText_k (kC sProofText_k (kC sPointText_k (kC sL01Var_k (kC sSealed_k kN))))))) Tryz.func109 (by decide) (by kernel_rfl)
noncomputable def sReadUpdate_F:FnD:={f:=48,fn:=Tryz.f48,ps:=[pa .str],rs:=[rt TUpdate,rt .bool],al:=true,joins:=[14],cuts:=[(14,[.val 0 .str .sh, .val 9 .bool .sh, .box 2 TUpdate (.pr .sh (.pr (.pr (.own 0 .sh) .sh) (.pr (.own 0 .sh) (.pr .sh (.pr (.own 0 .sh) .sh))))), .box 7 TUpdate (.pr .sh (.pr (.pr (.own 0 .sh) .sh) (.pr (.own 0 .sh) (.pr .sh (.pr (.own 0 .sh) .sh))))), .box 30 TL21Cur .sh, .ptr 2 2 0, .ptr 6 30 0, .ptr 7 7 0])]}
noncomputable def sReadUpdate_c:List (Nat×Sig):=[(101,sUnsealed_g),(102,sL21Head_g),(104,sL21Take_g),(103,sReadCommittee_g),(105,sL21Branch_g),(106,sReadPoint_g),(107,sReadProof_g),(108,sReadVar_g),(109,sUpdateText_g)]
noncomputable def sReadUpdate_d:ByteArray×Unit→Option ((tUpdate×Bool×Unit)×Unit):=sReadUpdate_F.d V sReadUpdate_c
noncomputable abbrev sReadUpdate_g:Sig:=sReadUpdate_F.t.sig sReadUpdate_d
noncomputable def sReadUpdate_D14:ByteArray×Bool×tUpdate×tUpdate×tL21Cur×Unit→Option ((tUpdate×Bool×Unit)×Unit):=sReadUpdate_F.D V sReadUpdate_c 14
theorem sReadUpdate_b (x1:ByteArray):sReadUpdate_d (x1,())=bnd (sUnsealed_d (x1,())) (fun r1=>(cnd (bnot r1.1.2.1) (some ((zUpdate,(false,())),())) (bnd (sL21Head_d ((r1.1.1,(false,())),())) (fun r2=>(bnd (sL21Take_d (r2.2.1,(27,()))) (fun r3=>(bnd (sReadCommittee_d (r3.1.1,())) (fun r4=>(bnd (sL21Branch_d (r3.2.1,())) (fun r5=>(bnd (sL21Head_d (r5.2.1,())) (fun r6=>(bnd (sL21Branch_d (r6.2.1,())) (fun r7=>(bnd (sL21Take_d (r7.2.1,(1,()))) (fun r8=>(cnd (sne r8.1.1 (bs [])) (cnd (inb 0 (ssz r8.1.1)) (sReadUpdate_D14 (x1,(r4.1.2.1,(zUpdate,((r2.1.1,(r4.1.1,(r5.1.1,(r6.1.1,(r7.1.1,((iconv .i64 (sat r8.1.1 0)),(zPoint,(zProof,(0,()))))))))),(r8.2.1,())))))) none) (sReadUpdate_D14 (x1,(r4.1.2.1,(zUpdate,((r2.1.1,(r4.1.1,(r5.1.1,(r6.1.1,(r7.1.1,(0,(zPoint,(zProof,(0,()))))))))),(r8.2.1,()))))))))))))))))))))))):=(FnD.eq V sReadUpdate_c sReadUpdate_F (x1,())).trans (by kernel_rfl)
theorem sReadUpdate_q14 (x1:ByteArray) (x2:Bool) (x3:tUpdate) (x4:tUpdate) (x5:tL21Cur):sReadUpdate_D14 (x1,(x2,(x3,(x4,(x5,())))))=bnd (sL21Take_d (x5,(3,()))) (fun r5=>(bnd (sReadPoint_d (r5.1.1,())) (fun r6=>(bnd (sL21Take_d (r5.2.1,(9,()))) (fun r7=>(bnd (sReadProof_d (r7.1.1,())) (fun r8=>(bnd (sReadVar_d (r7.2.1.1,(0,()))) (fun r9=>(cnd r7.2.1.2.1 (some ((zUpdate,(false,())),())) (cnd (bnot x2) (some ((zUpdate,(false,())),())) (cnd (bnot r6.1.2.1) (some ((zUpdate,(false,())),())) (cnd (bnot r8.1.2.1) (some ((zUpdate,(false,())),())) (cnd (bnot r9.1.2.2.1) (some ((zUpdate,(false,())),())) (cnd (ine r9.1.2.1 (ssz r7.2.1.1)) (some ((zUpdate,(false,())),())) (bnd (sUpdateText_d ((x4.1,(x4.2.1,(x4.2.2.1,(x4.2.2.2.1,(x4.2.2.2.2.1,(x4.2.2.2.2.2.1,(r6.1.1,(r8.1.1,(r9.1.1,x4.2.2.2.2.2.2.2.2.2))))))))),())) (fun r10=>(cnd (bnot r10.1.2.1) (some ((zUpdate,(false,())),())) (cnd (sne r10.1.1 x1) (some ((zUpdate,(false,())),())) (some (((x4.1,(x4.2.1,(x4.2.2.1,(x4.2.2.2.1,(x4.2.2.2.2.1,(x4.2.2.2.2.2.1,(r6.1.1,(r8.1.1,(r9.1.1,x4.2.2.2.2.2.2.2.2.2))))))))),(true,())),()))))))))))))))))))))):=(FnD.eqC V sReadUpdate_c sReadUpdate_F 14 (x1,(x2,(x3,(x4,(x5,())))))).trans (by kernel_rfl)
theorem sReadUpdate_k:CallsOk Tryz.prog gls gvs 48 sReadUpdate_g:=FnD.ok (F:=sReadUpdate_F) (cs:=sReadUpdate_c) V_ok (kC sUnsealed_k (kC sL21Head_k (kC sL21Take_k (kC sReadCommittee_k (kC sL21Branch_k (kC sReadPoint_k (kC sReadProof_k (kC sReadVar_k (kC sUpdateText_k kN))))))))) Tryz.func48 (by decide) (by kernel_rfl)
noncomputable def sL22Committee_F:FnD:={f:=100,fn:=Tryz.f100,ps:=[pa TCommittee],rs:=[⟨TCommittee,(.pr (.own 0 .sh) .sh),false⟩]}
noncomputable def sL22Committee_c:List (Nat×Sig):=[]
noncomputable def sL22Committee_d:tCommittee×Unit→Option ((tCommittee×Unit)×Unit):=sL22Committee_F.d V sL22Committee_c
noncomputable abbrev sL22Committee_g:Sig:=sL22Committee_F.t.sig sL22Committee_d
theorem sL22Committee_b (x1:tCommittee):sL22Committee_d (x1,())=cnd (fits ((len ([]:List tPoint))+(len x1.1)) 3) (some ((((app ([]:List tPoint) x1.1),()),()),())) none:=(FnD.eq V sL22Committee_c sL22Committee_F (x1,())).trans (by kernel_rfl)
theorem sL22Committee_k:CallsOk Tryz.prog gls gvs 100 sL22Committee_g:=FnD.ok (F:=sL22Committee_F) (cs:=sL22Committee_c) V_ok kN Tryz.func100 (by decide) (by kernel_rfl)
noncomputable def sL22Copy_F:FnD:={f:=47,fn:=Tryz.f47,ps:=[pa TClient],rs:=[⟨TClient,(.pr .sh (.pr (.pr (.own 0 .sh) .sh) (.pr (.pr (.own 0 .sh) .sh) (.pr .sh (.pr (.pr .sh (.pr .sh (.pr .sh (.pr .sh (.pr (.own 0 .sh) .sh))))) .sh))))),false⟩]}
noncomputable def sL22Copy_c:List (Nat×Sig):=[(100,sL22Committee_g)]
noncomputable def sL22Copy_d:tClient×Unit→Option ((tClient×Unit)×Unit):=sL22Copy_F.d V sL22Copy_c
noncomputable abbrev sL22Copy_g:Sig:=sL22Copy_F.t.sig sL22Copy_d
theorem sL22Copy_b (x1:tClient):sL22Copy_d (x1,())=bnd (sL22Committee_d (x1.2.1,())) (fun r1=>(bnd (sL22Committee_d (x1.2.2.1,())) (fun r2=>(cnd (fits ((len ([]:List tPoint))+(len x1.2.2.2.2.1.2.2.2.2.1)) 3) (some (((x1.1,(r1.1.1,(r2.1.1,(x1.2.2.2.1,((x1.2.2.2.2.1.1,(x1.2.2.2.2.1.2.1,(x1.2.2.2.2.1.2.2.1,(x1.2.2.2.2.1.2.2.2.1,((app ([]:List tPoint) x1.2.2.2.2.1.2.2.2.2.1),x1.2.2.2.2.1.2.2.2.2.2))))),x1.2.2.2.2.2))))),()),())) none)))):=(FnD.eq V sL22Copy_c sL22Copy_F (x1,())).trans (by kernel_rfl)
theorem sL22Copy_k:CallsOk Tryz.prog gls gvs 47 sL22Copy_g:=FnD.ok (F:=sL22Copy_F) (cs:=sL22Copy_c) V_ok (kC sL22Committee_k kN) Tryz.func47 (by decide) (by kernel_rfl)
noncomputable def sPeriodOf_F:FnD:={f:=178,fn:=Tryz.f178,ps:=[pa (.int .i64)],rs:=[rt (.int .i64)]}
noncomputable def sPeriodOf_c:List (Nat×Sig):=[]
noncomputable def sPeriodOf_d:Int×Unit→Option ((Int×Unit)×Unit):=sPeriodOf_F.d V sPeriodOf_c
noncomputable abbrev sPeriodOf_g:Sig:=sPeriodOf_F.t.sig sPeriodOf_d
theorem sPeriodOf_b (x1:Int):sPeriodOf_d (x1,())=cnd (ilt x1 0) (some ((0,()),())) (cnd (nz 8) (some (((iquo .i64 x1 8),()),())) none):=(FnD.eq V sPeriodOf_c sPeriodOf_F (x1,())).trans (by kernel_rfl)
theorem sPeriodOf_k:CallsOk Tryz.prog gls gvs 178 sPeriodOf_g:=FnD.ok (F:=sPeriodOf_F) (cs:=sPeriodOf_c) V_ok kN Tryz.func178 (by decide) (by kernel_rfl)
noncomputable def sSigners_F:FnD:={f:=174,fn:=Tryz.f174,ps:=[pa TClient,pa (.int .i64)],rs:=[⟨TCommittee,(.pr (.own 0 .sh) .sh),false⟩,rt .bool]}
noncomputable def sSigners_c:List (Nat×Sig):=[(178,sPeriodOf_g),(100,sL22Committee_g)]
noncomputable def sSigners_d:tClient×Int×Unit→Option ((tCommittee×Bool×Unit)×Unit):=sSigners_F.d V sSigners_c
noncomputable abbrev sSigners_g:Sig:=sSigners_F.t.sig sSigners_d
theorem sSigners_b (x1:tClient) (x2:Int):sSigners_d (x1,(x2,()))=bnd (sPeriodOf_d (x2,())) (fun r2=>(bnd (sPeriodOf_d (x1.1.1,())) (fun r3=>(cnd (ieq r2.1.1 r3.1.1) (bnd (sL22Committee_d (x1.2.1,())) (fun r4=>(some ((r4.1.1,(true,())),())))) (cnd (ieq r2.1.1 (iadd .i64 r3.1.1 1)) (cnd x1.2.2.2.1 (bnd (sL22Committee_d (x1.2.2.1,())) (fun r4=>(some ((r4.1.1,(true,())),())))) (some ((zCommittee,(false,())),()))) (some ((zCommittee,(false,())),()))))))):=(FnD.eq V sSigners_c sSigners_F (x1,(x2,()))).trans (by kernel_rfl)
theorem sSigners_k:CallsOk Tryz.prog gls gvs 174 sSigners_g:=FnD.ok (F:=sSigners_F) (cs:=sSigners_c) V_ok (kC sPeriodOf_k (kC sL22Committee_k kN)) Tryz.func174 (by decide) (by kernel_rfl)
noncomputable def sL22Slots_F:FnD:={f:=169,fn:=Tryz.f169,ps:=[pa TClient,pa TUpdate,pa (.int .i64)],rs:=[rt (.int .i64)]}
noncomputable def sL22Slots_c:List (Nat×Sig):=[(174,sSigners_g),(178,sPeriodOf_g)]
noncomputable def sL22Slots_d:tClient×tUpdate×Int×Unit→Option ((Int×Unit)×Unit):=sL22Slots_F.d V sL22Slots_c
noncomputable abbrev sL22Slots_g:Sig:=sL22Slots_F.t.sig sL22Slots_d
theorem sL22Slots_b (x1:tClient) (x2:tUpdate) (x3:Int):sL22Slots_d (x1,(x2,(x3,())))=cnd (igt x2.2.2.2.1.1 x2.1.1) (some ((2,()),())) (cnd (ige x2.1.1 x2.2.2.2.2.2.2.2.2.1) (some ((2,()),())) (cnd (igt x2.2.2.2.2.2.2.2.2.1 x3) (some ((2,()),())) (bnd (sSigners_d (x1,(x2.2.2.2.2.2.2.2.2.1,()))) (fun r3=>(cnd (bnot r3.1.2.1) (some ((3,()),())) (bnd (sPeriodOf_d (x2.1.1,())) (fun r4=>(bnd (sPeriodOf_d (x2.2.2.2.2.2.2.2.2.1,())) (fun r5=>(cnd (ine r4.1.1 r5.1.1) (some ((3,()),())) (cnd (ile x2.2.2.2.1.1 x1.1.1) (cnd x1.2.2.2.1 (some ((4,()),())) (bnd (sPeriodOf_d (x2.1.1,())) (fun r6=>(bnd (sPeriodOf_d (x1.1.1,())) (fun r7=>(cnd (ine r6.1.1 r7.1.1) (some ((4,()),())) (some ((0,()),())))))))) (some ((0,()),()))))))))))))):=(FnD.eq V sL22Slots_c sL22Slots_F (x1,(x2,(x3,())))).trans (by kernel_rfl)
theorem sL22Slots_k:CallsOk Tryz.prog gls gvs 169 sL22Slots_g:=FnD.ok (F:=sL22Slots_F) (cs:=sL22Slots_c) V_ok (kC sSigners_k (kC sPeriodOf_k kN)) Tryz.func169 (by decide) (by kernel_rfl)
noncomputable def sKeccakPad_F:FnD:={f:=254,fn:=Tryz.f254,ps:=[pa .str],rs:=[rt .str],cuts:=[(3,[.val 3 (.sl (.int .u8)) (.own 0 .sh)])]}
noncomputable def sKeccakPad_c:List (Nat×Sig):=[]
noncomputable def sKeccakPad_d:ByteArray×Unit→Option ((ByteArray×Unit)×Unit):=sKeccakPad_F.d V sKeccakPad_c
noncomputable abbrev sKeccakPad_g:Sig:=sKeccakPad_F.t.sig sKeccakPad_d
noncomputable def sKeccakPad_D3:(List Int)×Unit→Option ((ByteArray×Unit)×Unit):=sKeccakPad_F.D V sKeccakPad_c 3
theorem sKeccakPad_b (x1:ByteArray):sKeccakPad_d (x1,())=cnd (fits ((len (sbytes x1))+(len (1::([]:List Int)))) 1) (sKeccakPad_D3 ((app (sbytes x1) (1::([]:List Int))),())) none:=(FnD.eq V sKeccakPad_c sKeccakPad_F (x1,())).trans (by kernel_rfl)
theorem sKeccakPad_q3 (x1:(List Int)):sKeccakPad_D3 (x1,())=cnd (nz 136) (cnd (ine (irem (len x1) 136) 0) (cnd (fits ((len x1)+(len (0::([]:List Int)))) 1) (sKeccakPad_D3 ((app x1 (0::([]:List Int))),())) none) (cnd (inb (isub .i64 (len x1) 1) (len x1)) (cnd (inb (isub .i64 (len x1) 1) (len x1)) (some (((sof (upd x1 (isub .i64 (len x1) 1) (ior .u8 (rd 0 x1 (isub .i64 (len x1) 1)) 128))),()),())) none) none)) none:=(FnD.eqC V sKeccakPad_c sKeccakPad_F 3 (x1,())).trans (by kernel_rfl)
theorem sKeccakPad_k:CallsOk Tryz.prog gls gvs 254 sKeccakPad_g:=FnD.ok (F:=sKeccakPad_F) (cs:=sKeccakPad_c) V_ok kN Tryz.func254 (by decide) (by kernel_rfl)
noncomputable def sL03Word_F:FnD:={f:=255,fn:=Tryz.f255,ps:=[pa .str,pa (.int .i64)],rs:=[rt (.int .u64)],cuts:=[(3,[.val 0 .str .sh, .val 1 (.int .i64) .sh, .val 5 (.int .u64) .sh, .val 6 (.int .i64) .sh])]}
noncomputable def sL03Word_c:List (Nat×Sig):=[]
noncomputable def sL03Word_d:ByteArray×Int×Unit→Option ((Int×Unit)×Unit):=sL03Word_F.d V sL03Word_c
noncomputable abbrev sL03Word_g:Sig:=sL03Word_F.t.sig sL03Word_d
noncomputable def sL03Word_D3:ByteArray×Int×Int×Int×Unit→Option ((Int×Unit)×Unit):=sL03Word_F.D V sL03Word_c 3
theorem sL03Word_b (x1:ByteArray) (x2:Int):sL03Word_d (x1,(x2,()))=sL03Word_D3 (x1,(x2,(0,(7,())))):=(FnD.eq V sL03Word_c sL03Word_F (x1,(x2,()))).trans (by kernel_rfl)
theorem sL03Word_q3 (x1:ByteArray) (x2:Int) (x3:Int) (x4:Int):sL03Word_D3 (x1,(x2,(x3,(x4,()))))=cnd (ige x4 0) (cnd (nn 8) (cnd (inb (iadd .i64 x2 x4) (ssz x1)) (sL03Word_D3 (x1,(x2,((ior .u64 (ishl .u64 x3 8) (iconv .u64 (sat x1 (iadd .i64 x2 x4)))),((isub .i64 x4 1),()))))) none) none) (some ((x3,()),())):=(FnD.eqC V sL03Word_c sL03Word_F 3 (x1,(x2,(x3,(x4,()))))).trans (by kernel_rfl)
theorem sL03Word_k:CallsOk Tryz.prog gls gvs 255 sL03Word_g:=FnD.ok (F:=sL03Word_F) (cs:=sL03Word_c) V_ok kN Tryz.func255 (by decide) (by kernel_rfl)
noncomputable def sL03Offsets_F:FnD:={f:=293,fn:=Tryz.f293,ps:=[],rs:=[rt (.arr 25 (.int .u64))]}
noncomputable def sL03Offsets_c:List (Nat×Sig):=[]
noncomputable def sL03Offsets_d:Unit→Option (((List Int)×Unit)×Unit):=sL03Offsets_F.d V sL03Offsets_c
noncomputable abbrev sL03Offsets_g:Sig:=sL03Offsets_F.t.sig sL03Offsets_d
theorem sL03Offsets_b:sL03Offsets_d ()=some (((0::(1::(62::(28::(27::(36::(44::(6::(55::(20::(3::(10::(43::(25::(39::(41::(45::(15::(21::(8::(18::(2::(61::(56::(14::([]:List Int)))))))))))))))))))))))))),()),()):=(FnD.eq V sL03Offsets_c sL03Offsets_F ()).trans (by kernel_rfl)
theorem sL03Offsets_k:CallsOk Tryz.prog gls gvs 293 sL03Offsets_g:=FnD.ok (F:=sL03Offsets_F) (cs:=sL03Offsets_c) V_ok kN Tryz.func293 (by decide) (by kernel_rfl)
noncomputable def sL03Rounds_F:FnD:={f:=294,fn:=Tryz.f294,ps:=[],rs:=[rt (.arr 24 (.int .u64))]}
noncomputable def sL03Rounds_c:List (Nat×Sig):=[]
noncomputable def sL03Rounds_d:Unit→Option (((List Int)×Unit)×Unit):=sL03Rounds_F.d V sL03Rounds_c
noncomputable abbrev sL03Rounds_g:Sig:=sL03Rounds_F.t.sig sL03Rounds_d
theorem sL03Rounds_b:sL03Rounds_d ()=some (((1::(32898::(9223372036854808714::(9223372039002292224::(32907::(2147483649::(9223372039002292353::(9223372036854808585::(138::(136::(2147516425::(2147483658::(2147516555::(9223372036854775947::(9223372036854808713::(9223372036854808579::(9223372036854808578::(9223372036854775936::(32778::(9223372039002259466::(9223372039002292353::(9223372036854808704::(2147483649::(9223372039002292232::([]:List Int))))))))))))))))))))))))),()),()):=(FnD.eq V sL03Rounds_c sL03Rounds_F ()).trans (by kernel_rfl)
theorem sL03Rounds_k:CallsOk Tryz.prog gls gvs 294 sL03Rounds_g:=FnD.ok (F:=sL03Rounds_F) (cs:=sL03Rounds_c) V_ok kN Tryz.func294 (by decide) (by kernel_rfl)
noncomputable def sL03Turn_F:FnD:={f:=308,fn:=Tryz.f308,ps:=[pa (.int .u64),pa (.int .u64)],rs:=[rt (.int .u64)]}
noncomputable def sL03Turn_c:List (Nat×Sig):=[]
noncomputable def sL03Turn_d:Int×Int×Unit→Option ((Int×Unit)×Unit):=sL03Turn_F.d V sL03Turn_c
noncomputable abbrev sL03Turn_g:Sig:=sL03Turn_F.t.sig sL03Turn_d
theorem sL03Turn_b (x1:Int) (x2:Int):sL03Turn_d (x1,(x2,()))=cnd (nn x2) (cnd (nn (isub .u64 64 x2)) (some (((ior .u64 (ishl .u64 x1 x2) (ishr .u64 x1 (isub .u64 64 x2))),()),())) none) none:=(FnD.eq V sL03Turn_c sL03Turn_F (x1,(x2,()))).trans (by kernel_rfl)
theorem sL03Turn_k:CallsOk Tryz.prog gls gvs 308 sL03Turn_g:=FnD.ok (F:=sL03Turn_F) (cs:=sL03Turn_c) V_ok kN Tryz.func308 (by decide) (by kernel_rfl)
noncomputable def sL03Round_F:FnD:={f:=295,fn:=Tryz.f295,ps:=[pa (.arr 25 (.int .u64)),pa (.arr 25 (.int .u64)),pa (.int .u64)],rs:=[rt (.arr 25 (.int .u64))],joins:=[18],cuts:=[(3,[.val 2 (.int .u64) .sh, .val 8 (.int .i64) .sh, .box 3 (.arr 25 (.int .u64)) .sh, .box 4 (.arr 25 (.int .u64)) .sh, .box 6 (.arr 25 (.int .u64)) .sh, .box 7 (.arr 5 (.int .u64)) .sh, .ptr 3 3 0, .ptr 4 4 0, .ptr 6 6 0, .ptr 7 7 0]),(18,[.val 2 (.int .u64) .sh, .val 10 (.int .i64) .sh, .val 11 (.int .u64) .sh, .val 12 (.int .i64) .sh, .val 13 (.int .u64) .sh, .box 3 (.arr 25 (.int .u64)) .sh, .box 4 (.arr 25 (.int .u64)) .sh, .box 6 (.arr 25 (.int .u64)) .sh, .box 7 (.arr 5 (.int .u64)) .sh, .box 9 (.arr 25 (.int .u64)) .sh, .ptr 3 3 0, .ptr 4 4 0, .ptr 6 6 0, .ptr 7 7 0, .ptr 9 9 0]),(12,[.val 2 (.int .u64) .sh, .val 10 (.int .i64) .sh, .val 11 (.int .u64) .sh, .val 12 (.int .i64) .sh, .box 3 (.arr 25 (.int .u64)) .sh, .box 4 (.arr 25 (.int .u64)) .sh, .box 6 (.arr 25 (.int .u64)) .sh, .box 7 (.arr 5 (.int .u64)) .sh, .box 9 (.arr 25 (.int .u64)) .sh, .ptr 3 3 0, .ptr 4 4 0, .ptr 6 6 0, .ptr 7 7 0, .ptr 9 9 0]),(8,[.val 2 (.int .u64) .sh, .val 10 (.int .i64) .sh, .box 3 (.arr 25 (.int .u64)) .sh, .box 4 (.arr 25 (.int .u64)) .sh, .box 6 (.arr 25 (.int .u64)) .sh, .box 7 (.arr 5 (.int .u64)) .sh, .box 9 (.arr 25 (.int .u64)) .sh, .ptr 3 3 0, .ptr 4 4 0, .ptr 6 6 0, .ptr 7 7 0, .ptr 9 9 0]),(23,[.val 2 (.int .u64) .sh, .val 15 (.int .i64) .sh, .val 16 (.int .i64) .sh, .box 3 (.arr 25 (.int .u64)) .sh, .box 6 (.arr 25 (.int .u64)) .sh, .box 9 (.arr 25 (.int .u64)) .sh, .ptr 3 3 0, .ptr 6 6 0, .ptr 9 9 0]),(20,[.val 2 (.int .u64) .sh, .val 15 (.int .i64) .sh, .box 3 (.arr 25 (.int .u64)) .sh, .box 6 (.arr 25 (.int .u64)) .sh, .box 9 (.arr 25 (.int .u64)) .sh, .ptr 3 3 0, .ptr 6 6 0, .ptr 9 9 0])]}
noncomputable def sL03Round_c:List (Nat×Sig):=[(308,sL03Turn_g)]
noncomputable def sL03Round_d:(List Int)× (List Int)×Int×Unit→Option (((List Int)×Unit)×Unit):=sL03Round_F.d V sL03Round_c
noncomputable abbrev sL03Round_g:Sig:=sL03Round_F.t.sig sL03Round_d
noncomputable def sL03Round_D3:Int×Int× (List Int)× (List Int)× (List Int)× (List Int)×Unit→Option (((List Int)×Unit)×Unit):=sL03Round_F.D V sL03Round_c 3
noncomputable def sL03Round_D18:Int×Int×Int×Int×Int× (List Int)× (List Int)× (List Int)× (List Int)× (List Int)×Unit→Option (((List Int)×Unit)×Unit):=sL03Round_F.D V sL03Round_c 18
noncomputable def sL03Round_D12:Int×Int×Int×Int× (List Int)× (List Int)× (List Int)× (List Int)× (List Int)×Unit→Option (((List Int)×Unit)×Unit):=sL03Round_F.D V sL03Round_c 12
noncomputable def sL03Round_D8:Int×Int× (List Int)× (List Int)× (List Int)× (List Int)× (List Int)×Unit→Option (((List Int)×Unit)×Unit):=sL03Round_F.D V sL03Round_c 8
noncomputable def sL03Round_D23:Int×Int×Int× (List Int)× (List Int)× (List Int)×Unit→Option (((List Int)×Unit)×Unit):=sL03Round_F.D V sL03Round_c 23
noncomputable def sL03Round_D20:Int×Int× (List Int)× (List Int)× (List Int)×Unit→Option (((List Int)×Unit)×Unit):=sL03Round_F.D V sL03Round_c 20
theorem sL03Round_b (x1:(List Int)) (x2:(List Int)) (x3:Int):sL03Round_d (x1,(x2,(x3,())))=sL03Round_D3 (x3,(0,(x1,(x2,((0::(0::(0::(0::(0::(0::(0::(0::(0::(0::(0::(0::(0::(0::(0::(0::(0::(0::(0::(0::(0::(0::(0::(0::(0::([]:List Int)))))))))))))))))))))))))),((0::(0::(0::(0::(0::([]:List Int)))))),())))))):=(FnD.eq V sL03Round_c sL03Round_F (x1,(x2,(x3,())))).trans (by kernel_rfl)
theorem sL03Round_q3 (x1:Int) (x2:Int) (x3:(List Int)) (x4:(List Int)) (x5:(List Int)) (x6:(List Int)):sL03Round_D3 (x1,(x2,(x3,(x4,(x5,(x6,()))))))=cnd (ilt x2 5) (cnd (inb x2 25) (cnd (inb (iadd .i64 x2 5) 25) (cnd (inb (iadd .i64 x2 10) 25) (cnd (inb (iadd .i64 x2 15) 25) (cnd (inb (iadd .i64 x2 20) 25) (cnd (inb x2 5) (sL03Round_D3 (x1,((iadd .i64 x2 1),(x3,(x4,(x5,((upd x6 x2 (ixor .u64 (ixor .u64 (ixor .u64 (ixor .u64 (rd 0 x3 x2) (rd 0 x3 (iadd .i64 x2 5))) (rd 0 x3 (iadd .i64 x2 10))) (rd 0 x3 (iadd .i64 x2 15))) (rd 0 x3 (iadd .i64 x2 20)))),()))))))) none) none) none) none) none) none) (sL03Round_D8 (x1,(0,(x3,(x4,(x5,(x6,((0::(0::(0::(0::(0::(0::(0::(0::(0::(0::(0::(0::(0::(0::(0::(0::(0::(0::(0::(0::(0::(0::(0::(0::(0::([]:List Int)))))))))))))))))))))))))),())))))))):=(FnD.eqC V sL03Round_c sL03Round_F 3 (x1,(x2,(x3,(x4,(x5,(x6,()))))))).trans (by kernel_rfl)
theorem sL03Round_q18 (x1:Int) (x2:Int) (x3:Int) (x4:Int) (x5:Int) (x6:(List Int)) (x7:(List Int)) (x8:(List Int)) (x9:(List Int)) (x10:(List Int)):sL03Round_D18 (x1,(x2,(x3,(x4,(x5,(x6,(x7,(x8,(x9,(x10,()))))))))))=cnd (nz 5) (cnd (inb (iadd .i64 x4 (imul .i64 5 (irem (iadd .i64 (imul .i64 2 x2) (imul .i64 3 x4)) 5))) 25) (sL03Round_D12 (x1,(x2,(x3,((iadd .i64 x4 1),(x6,(x7,(x8,(x9,((upd x10 (iadd .i64 x4 (imul .i64 5 (irem (iadd .i64 (imul .i64 2 x2) (imul .i64 3 x4)) 5))) x5),())))))))))) none) none:=(FnD.eqC V sL03Round_c sL03Round_F 18 (x1,(x2,(x3,(x4,(x5,(x6,(x7,(x8,(x9,(x10,()))))))))))).trans (by kernel_rfl)
theorem sL03Round_q12 (x1:Int) (x2:Int) (x3:Int) (x4:Int) (x5:(List Int)) (x6:(List Int)) (x7:(List Int)) (x8:(List Int)) (x9:(List Int)):sL03Round_D12 (x1,(x2,(x3,(x4,(x5,(x6,(x7,(x8,(x9,())))))))))=cnd (ilt x4 5) (cnd (inb (iadd .i64 x2 (imul .i64 5 x4)) 25) (cnd (inb (iadd .i64 x2 (imul .i64 5 x4)) 25) (cnd (igt (rd 0 x6 (iadd .i64 x2 (imul .i64 5 x4))) 0) (bnd (sL03Turn_d ((ixor .u64 (rd 0 x5 (iadd .i64 x2 (imul .i64 5 x4))) x3),((rd 0 x6 (iadd .i64 x2 (imul .i64 5 x4))),()))) (fun r9=>(sL03Round_D18 (x1,(x2,(x3,(x4,(r9.1.1,(x5,(x6,(x7,(x8,(x9,()))))))))))))) (sL03Round_D18 (x1,(x2,(x3,(x4,((ixor .u64 (rd 0 x5 (iadd .i64 x2 (imul .i64 5 x4))) x3),(x5,(x6,(x7,(x8,(x9,())))))))))))) none) none) (sL03Round_D8 (x1,((iadd .i64 x2 1),(x5,(x6,(x7,(x8,(x9,())))))))):=(FnD.eqC V sL03Round_c sL03Round_F 12 (x1,(x2,(x3,(x4,(x5,(x6,(x7,(x8,(x9,())))))))))).trans (by kernel_rfl)
theorem sL03Round_q8 (x1:Int) (x2:Int) (x3:(List Int)) (x4:(List Int)) (x5:(List Int)) (x6:(List Int)) (x7:(List Int)):sL03Round_D8 (x1,(x2,(x3,(x4,(x5,(x6,(x7,())))))))=cnd (ilt x2 5) (cnd (nz 5) (cnd (inb (irem (iadd .i64 x2 4) 5) 5) (cnd (nz 5) (cnd (inb (irem (iadd .i64 x2 1) 5) 5) (bnd (sL03Turn_d ((rd 0 x6 (irem (iadd .i64 x2 1) 5)),(1,()))) (fun r7=>(sL03Round_D12 (x1,(x2,((ixor .u64 (rd 0 x6 (irem (iadd .i64 x2 4) 5)) r7.1.1),(0,(x3,(x4,(x5,(x6,(x7,())))))))))))) none) none) none) none) (sL03Round_D20 (x1,(0,(x3,(x5,(x7,())))))):=(FnD.eqC V sL03Round_c sL03Round_F 8 (x1,(x2,(x3,(x4,(x5,(x6,(x7,())))))))).trans (by kernel_rfl)
theorem sL03Round_q23 (x1:Int) (x2:Int) (x3:Int) (x4:(List Int)) (x5:(List Int)) (x6:(List Int)):sL03Round_D23 (x1,(x2,(x3,(x4,(x5,(x6,()))))))=cnd (ilt x3 5) (cnd (inb (iadd .i64 x3 (imul .i64 5 x2)) 25) (cnd (nz 5) (cnd (inb (iadd .i64 (irem (iadd .i64 x3 1) 5) (imul .i64 5 x2)) 25) (cnd (nz 5) (cnd (inb (iadd .i64 (irem (iadd .i64 x3 2) 5) (imul .i64 5 x2)) 25) (cnd (inb (iadd .i64 x3 (imul .i64 5 x2)) 25) (sL03Round_D23 (x1,(x2,((iadd .i64 x3 1),((upd x4 (iadd .i64 x3 (imul .i64 5 x2)) (ixor .u64 (rd 0 x6 (iadd .i64 x3 (imul .i64 5 x2))) (iand .u64 (ixor .u64 (rd 0 x6 (iadd .i64 (irem (iadd .i64 x3 1) 5) (imul .i64 5 x2))) 18446744073709551615) (rd 0 x6 (iadd .i64 (irem (iadd .i64 x3 2) 5) (imul .i64 5 x2)))))),(x5,(x6,()))))))) none) none) none) none) none) none) (sL03Round_D20 (x1,((iadd .i64 x2 1),(x4,(x5,(x6,())))))):=(FnD.eqC V sL03Round_c sL03Round_F 23 (x1,(x2,(x3,(x4,(x5,(x6,()))))))).trans (by kernel_rfl)
theorem sL03Round_q20 (x1:Int) (x2:Int) (x3:(List Int)) (x4:(List Int)) (x5:(List Int)):sL03Round_D20 (x1,(x2,(x3,(x4,(x5,())))))=cnd (ilt x2 5) (sL03Round_D23 (x1,(x2,(0,(x3,(x4,(x5,()))))))) (cnd (inb 0 25) (cnd (inb 0 25) (some (((upd x3 0 (ixor .u64 (rd 0 x3 0) x1)),()),())) none) none):=(FnD.eqC V sL03Round_c sL03Round_F 20 (x1,(x2,(x3,(x4,(x5,())))))).trans (by kernel_rfl)
theorem sL03Round_k:CallsOk Tryz.prog gls gvs 295 sL03Round_g:=FnD.ok (F:=sL03Round_F) (cs:=sL03Round_c) V_ok (kC sL03Turn_k kN) Tryz.func295 (by decide) (by kernel_rfl)
noncomputable def sL03All_F:FnD:={f:=256,fn:=Tryz.f256,ps:=[pa (.arr 25 (.int .u64))],rs:=[rt (.arr 25 (.int .u64))],cuts:=[(4,[.val 5 (.int .i64) .sh, .box 1 (.arr 25 (.int .u64)) .sh, .box 2 (.arr 25 (.int .u64)) .sh, .box 3 (.arr 25 (.int .u64)) .sh, .box 4 (.arr 24 (.int .u64)) .sh, .ptr 1 1 0, .ptr 2 2 0, .ptr 3 3 0, .ptr 4 4 0])]}
noncomputable def sL03All_c:List (Nat×Sig):=[(293,sL03Offsets_g),(294,sL03Rounds_g),(295,sL03Round_g)]
noncomputable def sL03All_d:(List Int)×Unit→Option (((List Int)×Unit)×Unit):=sL03All_F.d V sL03All_c
noncomputable abbrev sL03All_g:Sig:=sL03All_F.t.sig sL03All_d
noncomputable def sL03All_D4:Int× (List Int)× (List Int)× (List Int)× (List Int)×Unit→Option (((List Int)×Unit)×Unit):=sL03All_F.D V sL03All_c 4
theorem sL03All_b (x1:(List Int)):sL03All_d (x1,())=bnd (sL03Offsets_d ()) (fun r1=>(bnd (sL03Rounds_d ()) (fun r2=>(sL03All_D4 (0,(x1,((0::(0::(0::(0::(0::(0::(0::(0::(0::(0::(0::(0::(0::(0::(0::(0::(0::(0::(0::(0::(0::(0::(0::(0::(0::([]:List Int)))))))))))))))))))))))))),(r1.1.1,(r2.1.1,()))))))))):=(FnD.eq V sL03All_c sL03All_F (x1,())).trans (by kernel_rfl)
theorem sL03All_q4 (x1:Int) (x2:(List Int)) (x3:(List Int)) (x4:(List Int)) (x5:(List Int)):sL03All_D4 (x1,(x2,(x3,(x4,(x5,())))))=cnd (ilt x1 24) (cnd (inb x1 24) (bnd (sL03Round_d (x2,(x4,((rd 0 x5 x1),())))) (fun r5=>(sL03All_D4 ((iadd .i64 x1 1),(r5.1.1,(x3,(x4,(x5,())))))))) none) (some ((x2,()),())):=(FnD.eqC V sL03All_c sL03All_F 4 (x1,(x2,(x3,(x4,(x5,())))))).trans (by kernel_rfl)
theorem sL03All_k:CallsOk Tryz.prog gls gvs 256 sL03All_g:=FnD.ok (F:=sL03All_F) (cs:=sL03All_c) V_ok (kC sL03Offsets_k (kC sL03Rounds_k (kC sL03Round_k kN))) Tryz.func256 (by decide) (by kernel_rfl)
noncomputable def sL03Text_F:FnD:={f:=257,fn:=Tryz.f257,ps:=[pa (.arr 25 (.int .u64))],rs:=[rt .str],cuts:=[(3,[.val 3 (.sl (.int .u8)) (.own 0 .sh), .val 4 (.int .i64) .sh, .box 1 (.arr 25 (.int .u64)) .sh, .ptr 1 1 0])]}
noncomputable def sL03Text_c:List (Nat×Sig):=[]
noncomputable def sL03Text_d:(List Int)×Unit→Option ((ByteArray×Unit)×Unit):=sL03Text_F.d V sL03Text_c
noncomputable abbrev sL03Text_g:Sig:=sL03Text_F.t.sig sL03Text_d
noncomputable def sL03Text_D3:(List Int)×Int× (List Int)×Unit→Option ((ByteArray×Unit)×Unit):=sL03Text_F.D V sL03Text_c 3
theorem sL03Text_b (x1:(List Int)):sL03Text_d (x1,())=cnd (both (inb2 0 200 200) (fits 200 1)) (sL03Text_D3 ((rep 200 0),(0,(x1,())))) none:=(FnD.eq V sL03Text_c sL03Text_F (x1,())).trans (by kernel_rfl)
theorem sL03Text_q3 (x1:(List Int)) (x2:Int) (x3:(List Int)):sL03Text_D3 (x1,(x2,(x3,())))=cnd (ilt x2 200) (cnd (nz 8) (cnd (inb (iquo .i64 x2 8) 25) (cnd (nz 8) (cnd (nn (imul .u64 8 (iconv .u64 (irem x2 8)))) (cnd (inb x2 (len x1)) (sL03Text_D3 ((upd x1 x2 (iconv .u8 (ishr .u64 (rd 0 x3 (iquo .i64 x2 8)) (imul .u64 8 (iconv .u64 (irem x2 8)))))),((iadd .i64 x2 1),(x3,())))) none) none) none) none) none) (some (((sof x1),()),())):=(FnD.eqC V sL03Text_c sL03Text_F 3 (x1,(x2,(x3,())))).trans (by kernel_rfl)
theorem sL03Text_k:CallsOk Tryz.prog gls gvs 257 sL03Text_g:=FnD.ok (F:=sL03Text_F) (cs:=sL03Text_c) V_ok kN Tryz.func257 (by decide) (by kernel_rfl)
noncomputable def sDigest_F:FnD:={f:=220,fn:=Tryz.f220,ps:=[pa .str],rs:=[rt .str],cuts:=[(7,[.val 3 .str .sh, .val 5 (.int .i64) .sh, .val 6 (.int .i64) .sh, .box 4 (.arr 25 (.int .u64)) .sh, .ptr 4 4 0]),(4,[.val 3 .str .sh, .val 5 (.int .i64) .sh, .box 4 (.arr 25 (.int .u64)) .sh, .ptr 4 4 0])]}
noncomputable def sDigest_c:List (Nat×Sig):=[(254,sKeccakPad_g),(255,sL03Word_g),(256,sL03All_g),(257,sL03Text_g)]
noncomputable def sDigest_d:ByteArray×Unit→Option ((ByteArray×Unit)×Unit):=sDigest_F.d V sDigest_c
noncomputable abbrev sDigest_g:Sig:=sDigest_F.t.sig sDigest_d
noncomputable def sDigest_D7:ByteArray×Int×Int× (List Int)×Unit→Option ((ByteArray×Unit)×Unit):=sDigest_F.D V sDigest_c 7
noncomputable def sDigest_D4:ByteArray×Int× (List Int)×Unit→Option ((ByteArray×Unit)×Unit):=sDigest_F.D V sDigest_c 4
theorem sDigest_b (x1:ByteArray):sDigest_d (x1,())=bnd (sKeccakPad_d (x1,())) (fun r1=>(sDigest_D4 (r1.1.1,(0,((0::(0::(0::(0::(0::(0::(0::(0::(0::(0::(0::(0::(0::(0::(0::(0::(0::(0::(0::(0::(0::(0::(0::(0::(0::([]:List Int)))))))))))))))))))))))))),()))))):=(FnD.eq V sDigest_c sDigest_F (x1,())).trans (by kernel_rfl)
theorem sDigest_q7 (x1:ByteArray) (x2:Int) (x3:Int) (x4:(List Int)):sDigest_D7 (x1,(x2,(x3,(x4,()))))=cnd (ilt x3 17) (cnd (inb x3 25) (bnd (sL03Word_d (x1,((iadd .i64 x2 (imul .i64 8 x3)),()))) (fun r4=>(cnd (inb x3 25) (sDigest_D7 (x1,(x2,((iadd .i64 x3 1),((upd x4 x3 (ixor .u64 (rd 0 x4 x3) r4.1.1)),()))))) none))) none) (bnd (sL03All_d (x4,())) (fun r4=>(sDigest_D4 (x1,((iadd .i64 x2 136),(r4.1.1,())))))):=(FnD.eqC V sDigest_c sDigest_F 7 (x1,(x2,(x3,(x4,()))))).trans (by kernel_rfl)
theorem sDigest_q4 (x1:ByteArray) (x2:Int) (x3:(List Int)):sDigest_D4 (x1,(x2,(x3,())))=cnd (ilt x2 (ssz x1)) (sDigest_D7 (x1,(x2,(0,(x3,()))))) (bnd (sL03Text_d (x3,())) (fun r3=>(cnd (inb2 0 32 (ssz r3.1.1)) (some (((ssub r3.1.1 0 32),()),())) none))):=(FnD.eqC V sDigest_c sDigest_F 4 (x1,(x2,(x3,())))).trans (by kernel_rfl)
theorem sDigest_k:CallsOk Tryz.prog gls gvs 220 sDigest_g:=FnD.ok (F:=sDigest_F) (cs:=sDigest_c) V_ok (kC sKeccakPad_k (kC sL03Word_k (kC sL03All_k (kC sL03Text_k kN)))) Tryz.func220 (by decide) (by kernel_rfl)
noncomputable def sLevelsOf_F:FnD:={f:=248,fn:=Tryz.f248,ps:=[pa (.int .i64)],rs:=[rt (.int .i64)],cuts:=[(4,[.val 0 (.int .i64) .sh, .val 3 (.int .i64) .sh])]}
noncomputable def sLevelsOf_c:List (Nat×Sig):=[(65,sL01In_g)]
noncomputable def sLevelsOf_d:Int×Unit→Option ((Int×Unit)×Unit):=sLevelsOf_F.d V sLevelsOf_c
noncomputable abbrev sLevelsOf_g:Sig:=sLevelsOf_F.t.sig sLevelsOf_d
noncomputable def sLevelsOf_D4:Int×Int×Unit→Option ((Int×Unit)×Unit):=sLevelsOf_F.D V sLevelsOf_c 4
theorem sLevelsOf_b (x1:Int):sLevelsOf_d (x1,())=bnd (sL01In_d (x1,(0,(32,())))) (fun r1=>(cnd (bnot r1.1.1) (some (((-1),()),())) (sLevelsOf_D4 (x1,(0,()))))):=(FnD.eq V sLevelsOf_c sLevelsOf_F (x1,())).trans (by kernel_rfl)
theorem sLevelsOf_q4 (x1:Int) (x2:Int):sLevelsOf_D4 (x1,(x2,()))=cnd (nn (iconv .u64 x2)) (cnd (ilt (ishl .i64 1 (iconv .u64 x2)) x1) (sLevelsOf_D4 (x1,((iadd .i64 x2 1),()))) (some ((x2,()),()))) none:=(FnD.eqC V sLevelsOf_c sLevelsOf_F 4 (x1,(x2,()))).trans (by kernel_rfl)
theorem sLevelsOf_k:CallsOk Tryz.prog gls gvs 248 sLevelsOf_g:=FnD.ok (F:=sLevelsOf_F) (cs:=sLevelsOf_c) V_ok (kC sL01In_k kN) Tryz.func248 (by decide) (by kernel_rfl)
noncomputable def sL10Hashes_F:FnD:={f:=208,fn:=Tryz.f208,ps:=[pa (.sl .str)],rs:=[⟨(.sl .str),(.own 0 .sh),false⟩],cuts:=[(3,[.val 0 (.sl .str) .sh, .val 3 (.sl .str) (.own 0 .sh), .val 4 (.int .i64) .sh]),(7,[.val 0 (.sl .str) .sh, .val 3 (.sl .str) (.own 0 .sh), .val 5 .str .sh])]}
noncomputable def sL10Hashes_c:List (Nat×Sig):=[(220,sDigest_g),(248,sLevelsOf_g)]
noncomputable def sL10Hashes_d:(List ByteArray)×Unit→Option (((List ByteArray)×Unit)×Unit):=sL10Hashes_F.d V sL10Hashes_c
noncomputable abbrev sL10Hashes_g:Sig:=sL10Hashes_F.t.sig sL10Hashes_d
noncomputable def sL10Hashes_D3:(List ByteArray)× (List ByteArray)×Int×Unit→Option (((List ByteArray)×Unit)×Unit):=sL10Hashes_F.D V sL10Hashes_c 3
noncomputable def sL10Hashes_D7:(List ByteArray)× (List ByteArray)×ByteArray×Unit→Option (((List ByteArray)×Unit)×Unit):=sL10Hashes_F.D V sL10Hashes_c 7
theorem sL10Hashes_b (x1:(List ByteArray)):sL10Hashes_d (x1,())=sL10Hashes_D3 (x1,(([]:List ByteArray),(0,()))):=(FnD.eq V sL10Hashes_c sL10Hashes_F (x1,())).trans (by kernel_rfl)
theorem sL10Hashes_q3 (x1:(List ByteArray)) (x2:(List ByteArray)) (x3:Int):sL10Hashes_D3 (x1,(x2,(x3,())))=cnd (ilt x3 (len x1)) (cnd (inb x3 (len x1)) (bnd (sDigest_d ((rd (bs []) x1 x3),())) (fun r3=>(cnd (fits ((len x2)+(len (r3.1.1::([]:List ByteArray)))) 1) (sL10Hashes_D3 (x1,((app x2 (r3.1.1::([]:List ByteArray))),((iadd .i64 x3 1),())))) none))) none) (bnd (sDigest_d ((bs []),())) (fun r3=>(sL10Hashes_D7 (x1,(x2,(r3.1.1,())))))):=(FnD.eqC V sL10Hashes_c sL10Hashes_F 3 (x1,(x2,(x3,())))).trans (by kernel_rfl)
theorem sL10Hashes_q7 (x1:(List ByteArray)) (x2:(List ByteArray)) (x3:ByteArray):sL10Hashes_D7 (x1,(x2,(x3,())))=bnd (sLevelsOf_d ((len x1),())) (fun r3=>(cnd (nn (iconv .u64 r3.1.1)) (cnd (ilt (len x2) (ishl .i64 1 (iconv .u64 r3.1.1))) (cnd (fits ((len x2)+(len (x3::([]:List ByteArray)))) 1) (sL10Hashes_D7 (x1,((app x2 (x3::([]:List ByteArray))),(x3,())))) none) (some ((x2,()),()))) none)):=(FnD.eqC V sL10Hashes_c sL10Hashes_F 7 (x1,(x2,(x3,())))).trans (by kernel_rfl)
theorem sL10Hashes_k:CallsOk Tryz.prog gls gvs 208 sL10Hashes_g:=FnD.ok (F:=sL10Hashes_F) (cs:=sL10Hashes_c) V_ok (kC sDigest_k (kC sLevelsOf_k kN)) Tryz.func208 (by decide) (by kernel_rfl)
noncomputable def sDigestPair_F:FnD:={f:=221,fn:=Tryz.f221,ps:=[pa .str,pa .str],rs:=[rt .str]}
noncomputable def sDigestPair_c:List (Nat×Sig):=[(220,sDigest_g)]
noncomputable def sDigestPair_d:ByteArray×ByteArray×Unit→Option ((ByteArray×Unit)×Unit):=sDigestPair_F.d V sDigestPair_c
noncomputable abbrev sDigestPair_g:Sig:=sDigestPair_F.t.sig sDigestPair_d
theorem sDigestPair_b (x1:ByteArray) (x2:ByteArray):sDigestPair_d (x1,(x2,()))=cnd (fits ((ssz x1)+(ssz x2)) 1) (bnd (sDigest_d ((scat x1 x2),())) (fun r2=>(some ((r2.1.1,()),())))) none:=(FnD.eq V sDigestPair_c sDigestPair_F (x1,(x2,()))).trans (by kernel_rfl)
theorem sDigestPair_k:CallsOk Tryz.prog gls gvs 221 sDigestPair_g:=FnD.ok (F:=sDigestPair_F) (cs:=sDigestPair_c) V_ok (kC sDigest_k kN) Tryz.func221 (by decide) (by kernel_rfl)
noncomputable def sL10Up_F:FnD:={f:=209,fn:=Tryz.f209,ps:=[pa (.sl .str)],rs:=[⟨(.sl .str),(.own 0 .sh),false⟩],cuts:=[(3,[.val 0 (.sl .str) .sh, .val 3 (.sl .str) (.own 0 .sh), .val 4 (.int .i64) .sh])]}
noncomputable def sL10Up_c:List (Nat×Sig):=[(221,sDigestPair_g)]
noncomputable def sL10Up_d:(List ByteArray)×Unit→Option (((List ByteArray)×Unit)×Unit):=sL10Up_F.d V sL10Up_c
noncomputable abbrev sL10Up_g:Sig:=sL10Up_F.t.sig sL10Up_d
noncomputable def sL10Up_D3:(List ByteArray)× (List ByteArray)×Int×Unit→Option (((List ByteArray)×Unit)×Unit):=sL10Up_F.D V sL10Up_c 3
theorem sL10Up_b (x1:(List ByteArray)):sL10Up_d (x1,())=sL10Up_D3 (x1,(([]:List ByteArray),(0,()))):=(FnD.eq V sL10Up_c sL10Up_F (x1,())).trans (by kernel_rfl)
theorem sL10Up_q3 (x1:(List ByteArray)) (x2:(List ByteArray)) (x3:Int):sL10Up_D3 (x1,(x2,(x3,())))=cnd (ilt (iadd .i64 x3 1) (len x1)) (cnd (inb x3 (len x1)) (cnd (inb (iadd .i64 x3 1) (len x1)) (bnd (sDigestPair_d ((rd (bs []) x1 x3),((rd (bs []) x1 (iadd .i64 x3 1)),()))) (fun r3=>(cnd (fits ((len x2)+(len (r3.1.1::([]:List ByteArray)))) 1) (sL10Up_D3 (x1,((app x2 (r3.1.1::([]:List ByteArray))),((iadd .i64 x3 2),())))) none))) none) none) (some ((x2,()),())):=(FnD.eqC V sL10Up_c sL10Up_F 3 (x1,(x2,(x3,())))).trans (by kernel_rfl)
theorem sL10Up_k:CallsOk Tryz.prog gls gvs 209 sL10Up_g:=FnD.ok (F:=sL10Up_F) (cs:=sL10Up_c) V_ok (kC sDigestPair_k kN) Tryz.func209 (by decide) (by kernel_rfl)
noncomputable def sRootOf_F:FnD:={f:=149,fn:=Tryz.f149,ps:=[pa (.sl .str)],rs:=[rt .str],cuts:=[(4,[.val 3 (.sl .str) (.own 0 .sh)])]}
noncomputable def sRootOf_c:List (Nat×Sig):=[(208,sL10Hashes_g),(209,sL10Up_g)]
noncomputable def sRootOf_d:(List ByteArray)×Unit→Option ((ByteArray×Unit)×Unit):=sRootOf_F.d V sRootOf_c
noncomputable abbrev sRootOf_g:Sig:=sRootOf_F.t.sig sRootOf_d
noncomputable def sRootOf_D4:(List ByteArray)×Unit→Option ((ByteArray×Unit)×Unit):=sRootOf_F.D V sRootOf_c 4
theorem sRootOf_b (x1:(List ByteArray)):sRootOf_d (x1,())=cnd (igt (len x1) 32) (some (((bs []),()),())) (bnd (sL10Hashes_d (x1,())) (fun r1=>(sRootOf_D4 (r1.1.1,())))):=(FnD.eq V sRootOf_c sRootOf_F (x1,())).trans (by kernel_rfl)
theorem sRootOf_q4 (x1:(List ByteArray)):sRootOf_D4 (x1,())=cnd (igt (len x1) 1) (bnd (sL10Up_d (x1,())) (fun r1=>(sRootOf_D4 (r1.1.1,())))) (cnd (inb 0 (len x1)) (some (((rd (bs []) x1 0),()),())) none):=(FnD.eqC V sRootOf_c sRootOf_F 4 (x1,())).trans (by kernel_rfl)
theorem sRootOf_k:CallsOk Tryz.prog gls gvs 149 sRootOf_g:=FnD.ok (F:=sRootOf_F) (cs:=sRootOf_c) V_ok (kC sL10Hashes_k (kC sL10Up_k kN)) Tryz.func149 (by decide) (by kernel_rfl)
noncomputable def sHeadRoot_F:FnD:={f:=93,fn:=Tryz.f93,ps:=[pa THead],rs:=[rt .str]}
noncomputable def sHeadRoot_c:List (Nat×Sig):=[(132,sHeadOk_g),(150,sL01Var_g),(149,sRootOf_g)]
noncomputable def sHeadRoot_d:tHead×Unit→Option ((ByteArray×Unit)×Unit):=sHeadRoot_F.d V sHeadRoot_c
noncomputable abbrev sHeadRoot_g:Sig:=sHeadRoot_F.t.sig sHeadRoot_d
theorem sHeadRoot_b (x1:tHead):sHeadRoot_d (x1,())=bnd (sHeadOk_d (x1,())) (fun r1=>(cnd (bnot r1.1.1) (some (((bs []),()),())) (bnd (sL01Var_d (x1.1,())) (fun r2=>(bnd (sRootOf_d ((r2.1.1::(x1.2.1::(x1.2.2.1::(x1.2.2.2.1::([]:List ByteArray))))),())) (fun r3=>(some ((r3.1.1,()),())))))))):=(FnD.eq V sHeadRoot_c sHeadRoot_F (x1,())).trans (by kernel_rfl)
theorem sHeadRoot_k:CallsOk Tryz.prog gls gvs 93 sHeadRoot_g:=FnD.ok (F:=sHeadRoot_F) (cs:=sHeadRoot_c) V_ok (kC sHeadOk_k (kC sL01Var_k (kC sRootOf_k kN))) Tryz.func93 (by decide) (by kernel_rfl)
noncomputable def sFoldBranch_F:FnD:={f:=170,fn:=Tryz.f170,ps:=[pa .str,pa (.int .i64),pa (.sl .str)],rs:=[rt .str],cuts:=[(5,[.val 1 (.int .i64) .sh, .val 2 (.sl .str) .sh, .val 7 .str .sh, .val 8 (.int .i64) .sh])]}
noncomputable def sFoldBranch_c:List (Nat×Sig):=[(65,sL01In_g),(220,sDigest_g),(221,sDigestPair_g)]
noncomputable def sFoldBranch_d:ByteArray×Int× (List ByteArray)×Unit→Option ((ByteArray×Unit)×Unit):=sFoldBranch_F.d V sFoldBranch_c
noncomputable abbrev sFoldBranch_g:Sig:=sFoldBranch_F.t.sig sFoldBranch_d
noncomputable def sFoldBranch_D5:Int× (List ByteArray)×ByteArray×Int×Unit→Option ((ByteArray×Unit)×Unit):=sFoldBranch_F.D V sFoldBranch_c 5
theorem sFoldBranch_b (x1:ByteArray) (x2:Int) (x3:(List ByteArray)):sFoldBranch_d (x1,(x2,(x3,())))=cnd (igt (len x3) 5) (some (((bs []),()),())) (cnd (nn (iconv .u64 (len x3))) (bnd (sL01In_d (x2,(0,((isub .i64 (ishl .i64 1 (iconv .u64 (len x3))) 1),())))) (fun r3=>(cnd (bnot r3.1.1) (some (((bs []),()),())) (bnd (sDigest_d (x1,())) (fun r4=>(sFoldBranch_D5 (x2,(x3,(r4.1.1,(0,())))))))))) none):=(FnD.eq V sFoldBranch_c sFoldBranch_F (x1,(x2,(x3,())))).trans (by kernel_rfl)
theorem sFoldBranch_q5 (x1:Int) (x2:(List ByteArray)) (x3:ByteArray) (x4:Int):sFoldBranch_D5 (x1,(x2,(x3,(x4,()))))=cnd (ilt x4 (len x2)) (cnd (nn (iconv .u64 x4)) (cnd (nz 2) (cnd (ieq (irem (ishr .i64 x1 (iconv .u64 x4)) 2) 1) (cnd (inb x4 (len x2)) (bnd (sDigestPair_d ((rd (bs []) x2 x4),(x3,()))) (fun r4=>(sFoldBranch_D5 (x1,(x2,(r4.1.1,((iadd .i64 x4 1),()))))))) none) (cnd (inb x4 (len x2)) (bnd (sDigestPair_d (x3,((rd (bs []) x2 x4),()))) (fun r4=>(sFoldBranch_D5 (x1,(x2,(r4.1.1,((iadd .i64 x4 1),()))))))) none)) none) none) (some ((x3,()),())):=(FnD.eqC V sFoldBranch_c sFoldBranch_F 5 (x1,(x2,(x3,(x4,()))))).trans (by kernel_rfl)
theorem sFoldBranch_k:CallsOk Tryz.prog gls gvs 170 sFoldBranch_g:=FnD.ok (F:=sFoldBranch_F) (cs:=sFoldBranch_c) V_ok (kC sL01In_k (kC sDigest_k (kC sDigestPair_k kN))) Tryz.func170 (by decide) (by kernel_rfl)
noncomputable def sCommitteeRoot_F:FnD:={f:=134,fn:=Tryz.f134,ps:=[pa TCommittee],rs:=[rt .str],cuts:=[(5,[.val 3 (.sl .str) (.own 0 .sh), .val 4 (.int .i64) .sh, .box 1 TCommittee .sh, .ptr 1 1 0])]}
noncomputable def sCommitteeRoot_c:List (Nat×Sig):=[(133,sCommitteeOk_g),(164,sPointText_g),(149,sRootOf_g)]
noncomputable def sCommitteeRoot_d:tCommittee×Unit→Option ((ByteArray×Unit)×Unit):=sCommitteeRoot_F.d V sCommitteeRoot_c
noncomputable abbrev sCommitteeRoot_g:Sig:=sCommitteeRoot_F.t.sig sCommitteeRoot_d
noncomputable def sCommitteeRoot_D5:(List ByteArray)×Int×tCommittee×Unit→Option ((ByteArray×Unit)×Unit):=sCommitteeRoot_F.D V sCommitteeRoot_c 5
theorem sCommitteeRoot_b (x1:tCommittee):sCommitteeRoot_d (x1,())=bnd (sCommitteeOk_d (x1,())) (fun r1=>(cnd (bnot r1.1.1) (some (((bs []),()),())) (sCommitteeRoot_D5 (([]:List ByteArray),(0,(x1,())))))):=(FnD.eq V sCommitteeRoot_c sCommitteeRoot_F (x1,())).trans (by kernel_rfl)
theorem sCommitteeRoot_q5 (x1:(List ByteArray)) (x2:Int) (x3:tCommittee):sCommitteeRoot_D5 (x1,(x2,(x3,())))=cnd (ilt x2 (len x3.1)) (cnd (inb x2 (len x3.1)) (bnd (sPointText_d ((rd zPoint x3.1 x2),())) (fun r3=>(cnd (fits ((len x1)+(len (r3.1.1::([]:List ByteArray)))) 1) (sCommitteeRoot_D5 ((app x1 (r3.1.1::([]:List ByteArray))),((iadd .i64 x2 1),(x3,())))) none))) none) (bnd (sRootOf_d (x1,())) (fun r3=>(some ((r3.1.1,()),())))):=(FnD.eqC V sCommitteeRoot_c sCommitteeRoot_F 5 (x1,(x2,(x3,())))).trans (by kernel_rfl)
theorem sCommitteeRoot_k:CallsOk Tryz.prog gls gvs 134 sCommitteeRoot_g:=FnD.ok (F:=sCommitteeRoot_F) (cs:=sCommitteeRoot_c) V_ok (kC sCommitteeOk_k (kC sPointText_k (kC sRootOf_k kN))) Tryz.func134 (by decide) (by kernel_rfl)
noncomputable def sCountBits_F:FnD:={f:=171,fn:=Tryz.f171,ps:=[pa (.int .i64)],rs:=[rt (.int .i64)],cuts:=[(5,[.val 0 (.int .i64) .sh, .val 3 (.int .i64) .sh, .val 4 (.int .i64) .sh])]}
noncomputable def sCountBits_c:List (Nat×Sig):=[(65,sL01In_g)]
noncomputable def sCountBits_d:Int×Unit→Option ((Int×Unit)×Unit):=sCountBits_F.d V sCountBits_c
noncomputable abbrev sCountBits_g:Sig:=sCountBits_F.t.sig sCountBits_d
noncomputable def sCountBits_D5:Int×Int×Int×Unit→Option ((Int×Unit)×Unit):=sCountBits_F.D V sCountBits_c 5
theorem sCountBits_b (x1:Int):sCountBits_d (x1,())=bnd (sL01In_d (x1,(0,(255,())))) (fun r1=>(cnd (bnot r1.1.1) (some ((0,()),())) (sCountBits_D5 (x1,zTwo)))):=(FnD.eq V sCountBits_c sCountBits_F (x1,())).trans (by kernel_rfl)
theorem sCountBits_q5 (x1:Int) (x2:Int) (x3:Int):sCountBits_D5 (x1,(x2,(x3,())))=cnd (ilt x3 8) (cnd (nn (iconv .u64 x3)) (cnd (nz 2) (sCountBits_D5 (x1,((iadd .i64 x2 (irem (ishr .i64 x1 (iconv .u64 x3)) 2)),((iadd .i64 x3 1),())))) none) none) (some ((x2,()),())):=(FnD.eqC V sCountBits_c sCountBits_F 5 (x1,(x2,(x3,())))).trans (by kernel_rfl)
theorem sCountBits_k:CallsOk Tryz.prog gls gvs 171 sCountBits_g:=FnD.ok (F:=sCountBits_F) (cs:=sCountBits_c) V_ok (kC sL01In_k kN) Tryz.func171 (by decide) (by kernel_rfl)
noncomputable def sPublicOf_F:FnD:={f:=173,fn:=Tryz.f173,ps:=[pa (.int .i64)],rs:=[⟨(.sl (.int .i64)),(.own 0 .sh),false⟩]}
noncomputable def sPublicOf_c:List (Nat×Sig):=[(171,sCountBits_g)]
noncomputable def sPublicOf_d:Int×Unit→Option (((List Int)×Unit)×Unit):=sPublicOf_F.d V sPublicOf_c
noncomputable abbrev sPublicOf_g:Sig:=sPublicOf_F.t.sig sPublicOf_d
theorem sPublicOf_b (x1:Int):sPublicOf_d (x1,())=bnd (sCountBits_d (x1,())) (fun r1=>(some (((x1::(r1.1.1::([]:List Int))),()),()))):=(FnD.eq V sPublicOf_c sPublicOf_F (x1,())).trans (by kernel_rfl)
theorem sPublicOf_k:CallsOk Tryz.prog gls gvs 173 sPublicOf_g:=FnD.ok (F:=sPublicOf_F) (cs:=sPublicOf_c) V_ok (kC sCountBits_k kN) Tryz.func173 (by decide) (by kernel_rfl)
noncomputable def sL13Wide_F:FnD:={f:=222,fn:=Tryz.f222,ps:=[pa (.sl (.int .i64)),pa (.int .i64)],rs:=[rt .bool],cuts:=[(2,[.val 0 (.sl (.int .i64)) .sh, .val 1 (.int .i64) .sh, .val 5 (.int .i64) .sh])]}
noncomputable def sL13Wide_c:List (Nat×Sig):=[(65,sL01In_g)]
noncomputable def sL13Wide_d:(List Int)×Int×Unit→Option ((Bool×Unit)×Unit):=sL13Wide_F.d V sL13Wide_c
noncomputable abbrev sL13Wide_g:Sig:=sL13Wide_F.t.sig sL13Wide_d
noncomputable def sL13Wide_D2:(List Int)×Int×Int×Unit→Option ((Bool×Unit)×Unit):=sL13Wide_F.D V sL13Wide_c 2
theorem sL13Wide_b (x1:(List Int)) (x2:Int):sL13Wide_d (x1,(x2,()))=sL13Wide_D2 (x1,(x2,(0,()))):=(FnD.eq V sL13Wide_c sL13Wide_F (x1,(x2,()))).trans (by kernel_rfl)
theorem sL13Wide_q2 (x1:(List Int)) (x2:Int) (x3:Int):sL13Wide_D2 (x1,(x2,(x3,())))=cnd (ilt x3 (len x1)) (cnd (inb x3 (len x1)) (bnd (sL01In_d ((rd 0 x1 x3),(0,(1008,())))) (fun r3=>(cnd (bnot r3.1.1) (some ((false,()),())) (sL13Wide_D2 (x1,(x2,((iadd .i64 x3 1),()))))))) none) (some (((ieq (len x1) x2),()),())):=(FnD.eqC V sL13Wide_c sL13Wide_F 2 (x1,(x2,(x3,())))).trans (by kernel_rfl)
theorem sL13Wide_k:CallsOk Tryz.prog gls gvs 222 sL13Wide_g:=FnD.ok (F:=sL13Wide_F) (cs:=sL13Wide_c) V_ok (kC sL01In_k kN) Tryz.func222 (by decide) (by kernel_rfl)
noncomputable def sTwoMul_F:FnD:={f:=223,fn:=Tryz.f223,ps:=[pa TTwo,pa TTwo],rs:=[rt TTwo]}
noncomputable def sTwoMul_c:List (Nat×Sig):=[(215,sFpMul_g),(163,sFpSub_g),(217,sFpAdd_g)]
noncomputable def sTwoMul_d:tTwo×tTwo×Unit→Option ((tTwo×Unit)×Unit):=sTwoMul_F.d V sTwoMul_c
noncomputable abbrev sTwoMul_g:Sig:=sTwoMul_F.t.sig sTwoMul_d
theorem sTwoMul_b (x1:tTwo) (x2:tTwo):sTwoMul_d (x1,(x2,()))=bnd (sFpMul_d (x1.1,(x2.1,()))) (fun r2=>(bnd (sFpMul_d (x1.2.1,(x2.2.1,()))) (fun r3=>(bnd (sFpSub_d (r2.1.1,(r3.1.1,()))) (fun r4=>(bnd (sFpMul_d (x1.1,(x2.2.1,()))) (fun r5=>(bnd (sFpMul_d (x1.2.1,(x2.1,()))) (fun r6=>(bnd (sFpAdd_d (r5.1.1,(r6.1.1,()))) (fun r7=>(some (((r4.1.1,(r7.1.1,())),()),()))))))))))))):=(FnD.eq V sTwoMul_c sTwoMul_F (x1,(x2,()))).trans (by kernel_rfl)
theorem sTwoMul_k:CallsOk Tryz.prog gls gvs 223 sTwoMul_g:=FnD.ok (F:=sTwoMul_F) (cs:=sTwoMul_c) V_ok (kC sFpMul_k (kC sFpSub_k (kC sFpAdd_k kN))) Tryz.func223 (by decide) (by kernel_rfl)
noncomputable def sPairLine_F:FnD:={f:=296,fn:=Tryz.f296,ps:=[pa TPoint,pa TPoint,pa TPoint],rs:=[rt TTwo]}
noncomputable def sPairLine_c:List (Nat×Sig):=[(218,sPointOk_g),(305,sL07Slope_g),(163,sFpSub_g),(215,sFpMul_g)]
noncomputable def sPairLine_d:tPoint×tPoint×tPoint×Unit→Option ((tTwo×Unit)×Unit):=sPairLine_F.d V sPairLine_c
noncomputable abbrev sPairLine_g:Sig:=sPairLine_F.t.sig sPairLine_d
theorem sPairLine_b (x1:tPoint) (x2:tPoint) (x3:tPoint):sPairLine_d (x1,(x2,(x3,())))=cnd x1.2.2.1 (some (((1,(0,())),()),())) (cnd x2.2.2.1 (some (((1,(0,())),()),())) (cnd x3.2.2.1 (some (((1,(0,())),()),())) (bnd (sPointOk_d (x1,())) (fun r3=>(cnd (bnot r3.1.1) (some (((1,(0,())),()),())) (bnd (sPointOk_d (x2,())) (fun r4=>(cnd (bnot r4.1.1) (some (((1,(0,())),()),())) (bnd (sPointOk_d (x3,())) (fun r5=>(cnd (bnot r5.1.1) (some (((1,(0,())),()),())) (bnd (sL07Slope_d (x1,(x2,()))) (fun r6=>(cnd (bnot r6.1.2.1) (some (((1,(0,())),()),())) (bnd (sFpSub_d (0,(x3.1,()))) (fun r7=>(bnd (sFpSub_d (r7.1.1,(x1.1,()))) (fun r8=>(bnd (sFpSub_d (0,(x1.2.1,()))) (fun r9=>(bnd (sFpMul_d (r6.1.1,(r8.1.1,()))) (fun r10=>(bnd (sFpSub_d (r9.1.1,(r10.1.1,()))) (fun r11=>(some (((r11.1.1,(x3.2.1,())),()),())))))))))))))))))))))))))):=(FnD.eq V sPairLine_c sPairLine_F (x1,(x2,(x3,())))).trans (by kernel_rfl)
theorem sPairLine_k:CallsOk Tryz.prog gls gvs 296 sPairLine_g:=FnD.ok (F:=sPairLine_F) (cs:=sPairLine_c) V_ok (kC sPointOk_k (kC sL07Slope_k (kC sFpSub_k (kC sFpMul_k kN)))) Tryz.func296 (by decide) (by kernel_rfl)
noncomputable def sMiller_F:FnD:={f:=258,fn:=Tryz.f258,ps:=[pa TPoint,pa TPoint],rs:=[rt TTwo],cuts:=[(4,[.val 7 (.int .i64) .sh, .box 2 TPoint .sh, .box 3 TPoint .sh, .box 4 TTwo .sh, .box 5 TTwo .sh, .box 6 TPoint .sh, .ptr 2 2 0, .ptr 3 3 0, .ptr 4 4 0, .ptr 5 5 0, .ptr 6 6 0])]}
noncomputable def sMiller_c:List (Nat×Sig):=[(223,sTwoMul_g),(296,sPairLine_g),(253,sPointAdd_g)]
noncomputable def sMiller_d:tPoint×tPoint×Unit→Option ((tTwo×Unit)×Unit):=sMiller_F.d V sMiller_c
noncomputable abbrev sMiller_g:Sig:=sMiller_F.t.sig sMiller_d
noncomputable def sMiller_D4:Int×tPoint×tPoint×tTwo×tTwo×tPoint×Unit→Option ((tTwo×Unit)×Unit):=sMiller_F.D V sMiller_c 4
theorem sMiller_b (x1:tPoint) (x2:tPoint):sMiller_d (x1,(x2,()))=sMiller_D4 (8,(x1,(x2,(zTwo,((1,(0,())),(x1,())))))):=(FnD.eq V sMiller_c sMiller_F (x1,(x2,()))).trans (by kernel_rfl)
theorem sMiller_q4 (x1:Int) (x2:tPoint) (x3:tPoint) (x4:tTwo) (x5:tTwo) (x6:tPoint):sMiller_D4 (x1,(x2,(x3,(x4,(x5,(x6,()))))))=cnd (ige x1 0) (bnd (sTwoMul_d (x5,(x5,()))) (fun r6=>(bnd (sPairLine_d (x6,(x6,(x3,())))) (fun r7=>(bnd (sTwoMul_d (r6.1.1,(r7.1.1,()))) (fun r8=>(bnd (sPointAdd_d (x6,(x6,()))) (fun r9=>(cnd (nn (iconv .u64 x1)) (cnd (nz 2) (cnd (ieq (irem (ishr .i64 1009 (iconv .u64 x1)) 2) 1) (bnd (sPairLine_d (r9.1.1,(x2,(x3,())))) (fun r10=>(bnd (sTwoMul_d (r8.1.1,(r10.1.1,()))) (fun r11=>(bnd (sPointAdd_d (r9.1.1,(x2,()))) (fun r12=>(sMiller_D4 ((isub .i64 x1 1),(x2,(x3,(x4,(r11.1.1,(r12.1.1,()))))))))))))) (sMiller_D4 ((isub .i64 x1 1),(x2,(x3,(x4,(r8.1.1,(r9.1.1,())))))))) none) none))))))))) (some ((x5,()),())):=(FnD.eqC V sMiller_c sMiller_F 4 (x1,(x2,(x3,(x4,(x5,(x6,()))))))).trans (by kernel_rfl)
theorem sMiller_k:CallsOk Tryz.prog gls gvs 258 sMiller_g:=FnD.ok (F:=sMiller_F) (cs:=sMiller_c) V_ok (kC sTwoMul_k (kC sPairLine_k (kC sPointAdd_k kN))) Tryz.func258 (by decide) (by kernel_rfl)
noncomputable def sTwoTurn_F:FnD:={f:=260,fn:=Tryz.f260,ps:=[pa TTwo],rs:=[rt TTwo]}
noncomputable def sTwoTurn_c:List (Nat×Sig):=[(216,sFpOf_g),(163,sFpSub_g)]
noncomputable def sTwoTurn_d:tTwo×Unit→Option ((tTwo×Unit)×Unit):=sTwoTurn_F.d V sTwoTurn_c
noncomputable abbrev sTwoTurn_g:Sig:=sTwoTurn_F.t.sig sTwoTurn_d
theorem sTwoTurn_b (x1:tTwo):sTwoTurn_d (x1,())=bnd (sFpOf_d (x1.1,())) (fun r1=>(bnd (sFpSub_d (0,(x1.2.1,()))) (fun r2=>(some (((r1.1.1,(r2.1.1,())),()),()))))):=(FnD.eq V sTwoTurn_c sTwoTurn_F (x1,())).trans (by kernel_rfl)
theorem sTwoTurn_k:CallsOk Tryz.prog gls gvs 260 sTwoTurn_g:=FnD.ok (F:=sTwoTurn_F) (cs:=sTwoTurn_c) V_ok (kC sFpOf_k (kC sFpSub_k kN)) Tryz.func260 (by decide) (by kernel_rfl)
noncomputable def sTwoInv_F:FnD:={f:=261,fn:=Tryz.f261,ps:=[pa TTwo],rs:=[rt TTwo]}
noncomputable def sTwoInv_c:List (Nat×Sig):=[(215,sFpMul_g),(217,sFpAdd_g),(297,sFpInv_g),(163,sFpSub_g)]
noncomputable def sTwoInv_d:tTwo×Unit→Option ((tTwo×Unit)×Unit):=sTwoInv_F.d V sTwoInv_c
noncomputable abbrev sTwoInv_g:Sig:=sTwoInv_F.t.sig sTwoInv_d
theorem sTwoInv_b (x1:tTwo):sTwoInv_d (x1,())=bnd (sFpMul_d (x1.1,(x1.1,()))) (fun r1=>(bnd (sFpMul_d (x1.2.1,(x1.2.1,()))) (fun r2=>(bnd (sFpAdd_d (r1.1.1,(r2.1.1,()))) (fun r3=>(bnd (sFpInv_d (r3.1.1,())) (fun r4=>(bnd (sFpMul_d (x1.1,(r4.1.1,()))) (fun r5=>(bnd (sFpSub_d (0,(x1.2.1,()))) (fun r6=>(bnd (sFpMul_d (r6.1.1,(r4.1.1,()))) (fun r7=>(some (((r5.1.1,(r7.1.1,())),()),()))))))))))))))):=(FnD.eq V sTwoInv_c sTwoInv_F (x1,())).trans (by kernel_rfl)
theorem sTwoInv_k:CallsOk Tryz.prog gls gvs 261 sTwoInv_g:=FnD.ok (F:=sTwoInv_F) (cs:=sTwoInv_c) V_ok (kC sFpMul_k (kC sFpAdd_k (kC sFpInv_k (kC sFpSub_k kN)))) Tryz.func261 (by decide) (by kernel_rfl)
noncomputable def sTwoPow_F:FnD:={f:=259,fn:=Tryz.f259,ps:=[pa TTwo,pa (.int .i64)],rs:=[rt TTwo],joins:=[8],cuts:=[(8,[.val 1 (.int .i64) .sh, .box 4 TTwo .sh, .box 5 TTwo .sh, .box 6 TTwo .sh, .ptr 4 4 0, .ptr 5 5 0, .ptr 6 6 0]),(5,[.val 1 (.int .i64) .sh, .box 4 TTwo .sh, .box 5 TTwo .sh, .box 6 TTwo .sh, .ptr 4 4 0, .ptr 5 5 0, .ptr 6 6 0])]}
noncomputable def sTwoPow_c:List (Nat×Sig):=[(216,sFpOf_g),(223,sTwoMul_g)]
noncomputable def sTwoPow_d:tTwo×Int×Unit→Option ((tTwo×Unit)×Unit):=sTwoPow_F.d V sTwoPow_c
noncomputable abbrev sTwoPow_g:Sig:=sTwoPow_F.t.sig sTwoPow_d
noncomputable def sTwoPow_D8:Int×tTwo×tTwo×tTwo×Unit→Option ((tTwo×Unit)×Unit):=sTwoPow_F.D V sTwoPow_c 8
noncomputable def sTwoPow_D5:Int×tTwo×tTwo×tTwo×Unit→Option ((tTwo×Unit)×Unit):=sTwoPow_F.D V sTwoPow_c 5
theorem sTwoPow_b (x1:tTwo) (x2:Int):sTwoPow_d (x1,(x2,()))=cnd (ilt x2 0) (some ((zTwo,()),())) (bnd (sFpOf_d (x1.1,())) (fun r2=>(bnd (sFpOf_d (x1.2.1,())) (fun r3=>(sTwoPow_D5 (x2,(zTwo,((1,(0,())),((r2.1.1,(r3.1.1,())),()))))))))):=(FnD.eq V sTwoPow_c sTwoPow_F (x1,(x2,()))).trans (by kernel_rfl)
theorem sTwoPow_q8 (x1:Int) (x2:tTwo) (x3:tTwo) (x4:tTwo):sTwoPow_D8 (x1,(x2,(x3,(x4,()))))=bnd (sTwoMul_d (x4,(x4,()))) (fun r4=>(cnd (nz 2) (sTwoPow_D5 ((iquo .i64 x1 2),(x2,(x3,(r4.1.1,()))))) none)):=(FnD.eqC V sTwoPow_c sTwoPow_F 8 (x1,(x2,(x3,(x4,()))))).trans (by kernel_rfl)
theorem sTwoPow_q5 (x1:Int) (x2:tTwo) (x3:tTwo) (x4:tTwo):sTwoPow_D5 (x1,(x2,(x3,(x4,()))))=cnd (igt x1 0) (cnd (nz 2) (cnd (ieq (irem x1 2) 1) (bnd (sTwoMul_d (x3,(x4,()))) (fun r4=>(sTwoPow_D8 (x1,(x2,(r4.1.1,(x4,()))))))) (sTwoPow_D8 (x1,(x2,(x3,(x4,())))))) none) (some ((x3,()),())):=(FnD.eqC V sTwoPow_c sTwoPow_F 5 (x1,(x2,(x3,(x4,()))))).trans (by kernel_rfl)
theorem sTwoPow_k:CallsOk Tryz.prog gls gvs 259 sTwoPow_g:=FnD.ok (F:=sTwoPow_F) (cs:=sTwoPow_c) V_ok (kC sFpOf_k (kC sTwoMul_k kN)) Tryz.func259 (by decide) (by kernel_rfl)
noncomputable def sPairing_F:FnD:={f:=224,fn:=Tryz.f224,ps:=[pa TPoint,pa TPoint],rs:=[rt TTwo]}
noncomputable def sPairing_c:List (Nat×Sig):=[(200,sInGroup_g),(258,sMiller_g),(260,sTwoTurn_g),(261,sTwoInv_g),(223,sTwoMul_g),(259,sTwoPow_g)]
noncomputable def sPairing_d:tPoint×tPoint×Unit→Option ((tTwo×Unit)×Unit):=sPairing_F.d V sPairing_c
noncomputable abbrev sPairing_g:Sig:=sPairing_F.t.sig sPairing_d
theorem sPairing_b (x1:tPoint) (x2:tPoint):sPairing_d (x1,(x2,()))=bnd (sInGroup_d (x1,())) (fun r2=>(cnd (bnot r2.1.1) (some (((1,(0,())),()),())) (bnd (sInGroup_d (x2,())) (fun r3=>(cnd (bnot r3.1.1) (some (((1,(0,())),()),())) (cnd x1.2.2.1 (some (((1,(0,())),()),())) (cnd x2.2.2.1 (some (((1,(0,())),()),())) (bnd (sMiller_d (x1,(x2,()))) (fun r4=>(bnd (sTwoTurn_d (r4.1.1,())) (fun r5=>(bnd (sTwoInv_d (r4.1.1,())) (fun r6=>(bnd (sTwoMul_d (r5.1.1,(r6.1.1,()))) (fun r7=>(bnd (sTwoPow_d (r7.1.1,(12,()))) (fun r8=>(some ((r8.1.1,()),()))))))))))))))))))):=(FnD.eq V sPairing_c sPairing_F (x1,(x2,()))).trans (by kernel_rfl)
theorem sPairing_k:CallsOk Tryz.prog gls gvs 224 sPairing_g:=FnD.ok (F:=sPairing_F) (cs:=sPairing_c) V_ok (kC sInGroup_k (kC sMiller_k (kC sTwoTurn_k (kC sTwoInv_k (kC sTwoMul_k (kC sTwoPow_k kN)))))) Tryz.func224 (by decide) (by kernel_rfl)
noncomputable def sInputSum_F:FnD:={f:=225,fn:=Tryz.f225,ps:=[pa TKeys,pa (.sl (.int .i64))],rs:=[rt TPoint],cuts:=[(5,[.val 1 (.sl (.int .i64)) .sh, .val 6 (.int .i64) .sh, .box 2 TKeys .sh, .box 4 TPoint .sh, .box 5 TPoint .sh, .ptr 2 2 0, .ptr 4 4 0, .ptr 5 5 0])]}
noncomputable def sInputSum_c:List (Nat×Sig):=[(159,sL07Zero_g),(253,sPointAdd_g),(244,sPointTimes_g)]
noncomputable def sInputSum_d:tKeys× (List Int)×Unit→Option ((tPoint×Unit)×Unit):=sInputSum_F.d V sInputSum_c
noncomputable abbrev sInputSum_g:Sig:=sInputSum_F.t.sig sInputSum_d
noncomputable def sInputSum_D5:(List Int)×Int×tKeys×tPoint×tPoint×Unit→Option ((tPoint×Unit)×Unit):=sInputSum_F.D V sInputSum_c 5
theorem sInputSum_b (x1:tKeys) (x2:(List Int)):sInputSum_d (x1,(x2,()))=cnd (ine (len x1.2.2.2.2.1) (iadd .i64 (len x2) 1)) (bnd (sL07Zero_d ()) (fun r2=>(some ((r2.1.1,()),())))) (bnd (sL07Zero_d ()) (fun r2=>(cnd (inb 0 (len x1.2.2.2.2.1)) (bnd (sPointAdd_d (r2.1.1,((rd zPoint x1.2.2.2.2.1 0),()))) (fun r3=>(sInputSum_D5 (x2,(0,(x1,(zPoint,(r3.1.1,())))))))) none))):=(FnD.eq V sInputSum_c sInputSum_F (x1,(x2,()))).trans (by kernel_rfl)
theorem sInputSum_q5 (x1:(List Int)) (x2:Int) (x3:tKeys) (x4:tPoint) (x5:tPoint):sInputSum_D5 (x1,(x2,(x3,(x4,(x5,())))))=cnd (ilt x2 (len x1)) (cnd (inb x2 (len x1)) (cnd (inb (iadd .i64 x2 1) (len x3.2.2.2.2.1)) (bnd (sPointTimes_d ((rd 0 x1 x2),((rd zPoint x3.2.2.2.2.1 (iadd .i64 x2 1)),()))) (fun r5=>(bnd (sPointAdd_d (x5,(r5.1.1,()))) (fun r6=>(sInputSum_D5 (x1,((iadd .i64 x2 1),(x3,(x4,(r6.1.1,())))))))))) none) none) (some ((x5,()),())):=(FnD.eqC V sInputSum_c sInputSum_F 5 (x1,(x2,(x3,(x4,(x5,())))))).trans (by kernel_rfl)
theorem sInputSum_k:CallsOk Tryz.prog gls gvs 225 sInputSum_g:=FnD.ok (F:=sInputSum_F) (cs:=sInputSum_c) V_ok (kC sL07Zero_k (kC sPointAdd_k (kC sPointTimes_k kN))) Tryz.func225 (by decide) (by kernel_rfl)
noncomputable def sProofOk_F:FnD:={f:=172,fn:=Tryz.f172,ps:=[pa TKeys,pa (.sl (.int .i64)),pa TProof],rs:=[rt .bool]}
noncomputable def sProofOk_c:List (Nat×Sig):=[(200,sInGroup_g),(222,sL13Wide_g),(224,sPairing_g),(225,sInputSum_g),(223,sTwoMul_g)]
noncomputable def sProofOk_d:tKeys× (List Int)×tProof×Unit→Option ((Bool×Unit)×Unit):=sProofOk_F.d V sProofOk_c
noncomputable abbrev sProofOk_g:Sig:=sProofOk_F.t.sig sProofOk_d
theorem sProofOk_b (x1:tKeys) (x2:(List Int)) (x3:tProof):sProofOk_d (x1,(x2,(x3,())))=bnd (sInGroup_d (x3.1,())) (fun r3=>(cnd (bnot r3.1.1) (some ((false,()),())) (bnd (sInGroup_d (x3.2.1,())) (fun r4=>(cnd (bnot r4.1.1) (some ((false,()),())) (bnd (sInGroup_d (x3.2.2.1,())) (fun r5=>(cnd (bnot r5.1.1) (some ((false,()),())) (cnd x3.1.2.2.1 (some ((false,()),())) (cnd x3.2.1.2.2.1 (some ((false,()),())) (cnd (ine (len x1.2.2.2.2.1) (iadd .i64 (len x2) 1)) (some ((false,()),())) (bnd (sL13Wide_d (x2,((len x2),()))) (fun r6=>(cnd (bnot r6.1.1) (some ((false,()),())) (bnd (sPairing_d (x1.1,(x1.2.1,()))) (fun r7=>(bnd (sInputSum_d (x1,(x2,()))) (fun r8=>(bnd (sPairing_d (r8.1.1,(x1.2.2.1,()))) (fun r9=>(bnd (sTwoMul_d (r7.1.1,(r9.1.1,()))) (fun r10=>(bnd (sPairing_d (x3.2.2.1,(x1.2.2.2.1,()))) (fun r11=>(bnd (sTwoMul_d (r10.1.1,(r11.1.1,()))) (fun r12=>(bnd (sPairing_d (x3.1,(x3.2.1,()))) (fun r13=>(some (((both (ieq r13.1.1.1 r12.1.1.1) (both (ieq r13.1.1.2.1 r12.1.1.2.1) true)),()),())))))))))))))))))))))))))))))):=(FnD.eq V sProofOk_c sProofOk_F (x1,(x2,(x3,())))).trans (by kernel_rfl)
theorem sProofOk_k:CallsOk Tryz.prog gls gvs 172 sProofOk_g:=FnD.ok (F:=sProofOk_F) (cs:=sProofOk_c) V_ok (kC sInGroup_k (kC sL13Wide_k (kC sPairing_k (kC sInputSum_k (kC sTwoMul_k kN))))) Tryz.func172 (by decide) (by kernel_rfl)
noncomputable def sJoined_F:FnD:={f:=176,fn:=Tryz.f176,ps:=[pa TCommittee,pa (.int .i64)],rs:=[⟨(.sl TPoint),(.own 0 .sh),false⟩],cuts:=[(5,[.val 1 (.int .i64) .sh, .val 5 (.sl TPoint) (.own 0 .sh), .val 6 (.int .i64) .sh, .box 2 TCommittee .sh, .ptr 2 2 0])]}
noncomputable def sJoined_c:List (Nat×Sig):=[(133,sCommitteeOk_g),(65,sL01In_g)]
noncomputable def sJoined_d:tCommittee×Int×Unit→Option (((List tPoint)×Unit)×Unit):=sJoined_F.d V sJoined_c
noncomputable abbrev sJoined_g:Sig:=sJoined_F.t.sig sJoined_d
noncomputable def sJoined_D5:Int× (List tPoint)×Int×tCommittee×Unit→Option (((List tPoint)×Unit)×Unit):=sJoined_F.D V sJoined_c 5
theorem sJoined_b (x1:tCommittee) (x2:Int):sJoined_d (x1,(x2,()))=bnd (sCommitteeOk_d (x1,())) (fun r2=>(cnd (bnot r2.1.1) (some (zCommittee,())) (bnd (sL01In_d (x2,(0,(255,())))) (fun r3=>(cnd (bnot r3.1.1) (some (zCommittee,())) (sJoined_D5 (x2,(([]:List tPoint),(0,(x1,())))))))))):=(FnD.eq V sJoined_c sJoined_F (x1,(x2,()))).trans (by kernel_rfl)
theorem sJoined_q5 (x1:Int) (x2:(List tPoint)) (x3:Int) (x4:tCommittee):sJoined_D5 (x1,(x2,(x3,(x4,()))))=cnd (ilt x3 8) (cnd (nn (iconv .u64 x3)) (cnd (nz 2) (cnd (ieq (irem (ishr .i64 x1 (iconv .u64 x3)) 2) 1) (cnd (inb x3 (len x4.1)) (cnd (fits ((len x2)+(len ((rd zPoint x4.1 x3)::([]:List tPoint)))) 3) (sJoined_D5 (x1,((app x2 ((rd zPoint x4.1 x3)::([]:List tPoint))),((iadd .i64 x3 1),(x4,()))))) none) none) (sJoined_D5 (x1,(x2,((iadd .i64 x3 1),(x4,())))))) none) none) (some ((x2,()),())):=(FnD.eqC V sJoined_c sJoined_F 5 (x1,(x2,(x3,(x4,()))))).trans (by kernel_rfl)
theorem sJoined_k:CallsOk Tryz.prog gls gvs 176 sJoined_g:=FnD.ok (F:=sJoined_F) (cs:=sJoined_c) V_ok (kC sCommitteeOk_k (kC sL01In_k kN)) Tryz.func176 (by decide) (by kernel_rfl)
noncomputable def sSigText_F:FnD:={f:=177,fn:=Tryz.f177,ps:=[pa THead,pa (.int .i64)],rs:=[rt .str]}
noncomputable def sSigText_c:List (Nat×Sig):=[(132,sHeadOk_g),(65,sL01In_g),(93,sHeadRoot_g)]
noncomputable def sSigText_d:tHead×Int×Unit→Option ((ByteArray×Unit)×Unit):=sSigText_F.d V sSigText_c
noncomputable abbrev sSigText_g:Sig:=sSigText_F.t.sig sSigText_d
theorem sSigText_b (x1:tHead) (x2:Int):sSigText_d (x1,(x2,()))=bnd (sHeadOk_d (x1,())) (fun r2=>(cnd (bnot r2.1.1) (some (((bs []),()),())) (bnd (sL01In_d (x2,(0,(255,())))) (fun r3=>(cnd (bnot r3.1.1) (some (((bs []),()),())) (bnd (sHeadRoot_d (x1,())) (fun r4=>(cnd (fits ((ssz (sof ((iconv .u8 x2)::([]:List Int))))+(ssz r4.1.1)) 1) (some (((scat (sof ((iconv .u8 x2)::([]:List Int))) r4.1.1),()),())) none)))))))):=(FnD.eq V sSigText_c sSigText_F (x1,(x2,()))).trans (by kernel_rfl)
theorem sSigText_k:CallsOk Tryz.prog gls gvs 177 sSigText_g:=FnD.ok (F:=sSigText_F) (cs:=sSigText_c) V_ok (kC sHeadOk_k (kC sL01In_k (kC sHeadRoot_k kN))) Tryz.func177 (by decide) (by kernel_rfl)
noncomputable def sBase_F:FnD:={f:=262,fn:=Tryz.f262,ps:=[],rs:=[rt TPoint]}
noncomputable def sBase_c:List (Nat×Sig):=[]
noncomputable def sBase_d:Unit→Option ((tPoint×Unit)×Unit):=sBase_F.d V sBase_c
noncomputable abbrev sBase_g:Sig:=sBase_F.t.sig sBase_d
theorem sBase_b:sBase_d ()=some (((8445,(859,(false,()))),()),()):=(FnD.eq V sBase_c sBase_F ()).trans (by kernel_rfl)
theorem sBase_k:CallsOk Tryz.prog gls gvs 262 sBase_g:=FnD.ok (F:=sBase_F) (cs:=sBase_c) V_ok kN Tryz.func262 (by decide) (by kernel_rfl)
noncomputable def sHashPoint_F:FnD:={f:=263,fn:=Tryz.f263,ps:=[pa .str],rs:=[rt TPoint],cuts:=[(2,[.val 0 .str .sh, .val 3 (.int .i64) .sh, .box 2 TPoint .sh, .ptr 2 2 0])]}
noncomputable def sHashPoint_c:List (Nat×Sig):=[(220,sDigest_g),(216,sFpOf_g),(162,sL07Right_g),(161,sFpRoot_g),(244,sPointTimes_g),(262,sBase_g)]
noncomputable def sHashPoint_d:ByteArray×Unit→Option ((tPoint×Unit)×Unit):=sHashPoint_F.d V sHashPoint_c
noncomputable abbrev sHashPoint_g:Sig:=sHashPoint_F.t.sig sHashPoint_d
noncomputable def sHashPoint_D2:ByteArray×Int×tPoint×Unit→Option ((tPoint×Unit)×Unit):=sHashPoint_F.D V sHashPoint_c 2
theorem sHashPoint_b (x1:ByteArray):sHashPoint_d (x1,())=sHashPoint_D2 (x1,(0,(zPoint,()))):=(FnD.eq V sHashPoint_c sHashPoint_F (x1,())).trans (by kernel_rfl)
theorem sHashPoint_q2 (x1:ByteArray) (x2:Int) (x3:tPoint):sHashPoint_D2 (x1,(x2,(x3,())))=cnd (ilt x2 64) (cnd (fits ((ssz (sof ((iconv .u8 x2)::([]:List Int))))+(ssz x1)) 1) (bnd (sDigest_d ((scat (sof ((iconv .u8 x2)::([]:List Int))) x1),())) (fun r3=>(cnd (inb 0 (ssz r3.1.1)) (cnd (nn 24) (cnd (inb 1 (ssz r3.1.1)) (cnd (nn 16) (cnd (inb 2 (ssz r3.1.1)) (cnd (nn 8) (cnd (inb 3 (ssz r3.1.1)) (bnd (sFpOf_d ((ior .i64 (ior .i64 (ior .i64 (ishl .i64 (iconv .i64 (sat r3.1.1 0)) 24) (ishl .i64 (iconv .i64 (sat r3.1.1 1)) 16)) (ishl .i64 (iconv .i64 (sat r3.1.1 2)) 8)) (iconv .i64 (sat r3.1.1 3))),())) (fun r4=>(bnd (sL07Right_d (r4.1.1,())) (fun r5=>(bnd (sFpRoot_d (r5.1.1,())) (fun r6=>(bnd (sPointTimes_d (12,((r4.1.1,(r6.1.1,(false,()))),()))) (fun r7=>(cnd r6.1.2.1 (cnd (bnot r7.1.1.2.2.1) (some ((r7.1.1,()),())) (sHashPoint_D2 (x1,((iadd .i64 x2 1),(x3,()))))) (sHashPoint_D2 (x1,((iadd .i64 x2 1),(x3,()))))))))))))) none) none) none) none) none) none) none))) none) (bnd (sBase_d ()) (fun r3=>(some ((r3.1.1,()),())))):=(FnD.eqC V sHashPoint_c sHashPoint_F 2 (x1,(x2,(x3,())))).trans (by kernel_rfl)
theorem sHashPoint_k:CallsOk Tryz.prog gls gvs 263 sHashPoint_g:=FnD.ok (F:=sHashPoint_F) (cs:=sHashPoint_c) V_ok (kC sDigest_k (kC sFpOf_k (kC sL07Right_k (kC sFpRoot_k (kC sPointTimes_k (kC sBase_k kN)))))) Tryz.func263 (by decide) (by kernel_rfl)
noncomputable def sSigOk_F:FnD:={f:=226,fn:=Tryz.f226,ps:=[pa TPoint,pa .str,pa TPoint],rs:=[rt .bool]}
noncomputable def sSigOk_c:List (Nat×Sig):=[(200,sInGroup_g),(262,sBase_g),(224,sPairing_g),(263,sHashPoint_g)]
noncomputable def sSigOk_d:tPoint×ByteArray×tPoint×Unit→Option ((Bool×Unit)×Unit):=sSigOk_F.d V sSigOk_c
noncomputable abbrev sSigOk_g:Sig:=sSigOk_F.t.sig sSigOk_d
theorem sSigOk_b (x1:tPoint) (x2:ByteArray) (x3:tPoint):sSigOk_d (x1,(x2,(x3,())))=bnd (sInGroup_d (x1,())) (fun r3=>(cnd (bnot r3.1.1) (some ((false,()),())) (bnd (sInGroup_d (x3,())) (fun r4=>(cnd (bnot r4.1.1) (some ((false,()),())) (cnd x1.2.2.1 (some ((false,()),())) (cnd x3.2.2.1 (some ((false,()),())) (bnd (sBase_d ()) (fun r5=>(bnd (sPairing_d (x3,(r5.1.1,()))) (fun r6=>(bnd (sHashPoint_d (x2,())) (fun r7=>(bnd (sPairing_d (r7.1.1,(x1,()))) (fun r8=>(some (((both (ieq r6.1.1.1 r8.1.1.1) (both (ieq r6.1.1.2.1 r8.1.1.2.1) true)),()),()))))))))))))))))):=(FnD.eq V sSigOk_c sSigOk_F (x1,(x2,(x3,())))).trans (by kernel_rfl)
theorem sSigOk_k:CallsOk Tryz.prog gls gvs 226 sSigOk_g:=FnD.ok (F:=sSigOk_F) (cs:=sSigOk_c) V_ok (kC sInGroup_k (kC sBase_k (kC sPairing_k (kC sHashPoint_k kN)))) Tryz.func226 (by decide) (by kernel_rfl)
noncomputable def sAllSigOk_F:FnD:={f:=175,fn:=Tryz.f175,ps:=[pa (.sl TPoint),pa .str,pa TPoint],rs:=[rt .bool]}
noncomputable def sAllSigOk_c:List (Nat×Sig):=[(213,sSumPoints_g),(226,sSigOk_g)]
noncomputable def sAllSigOk_d:(List tPoint)×ByteArray×tPoint×Unit→Option ((Bool×Unit)×Unit):=sAllSigOk_F.d V sAllSigOk_c
noncomputable abbrev sAllSigOk_g:Sig:=sAllSigOk_F.t.sig sAllSigOk_d
theorem sAllSigOk_b (x1:(List tPoint)) (x2:ByteArray) (x3:tPoint):sAllSigOk_d (x1,(x2,(x3,())))=cnd (igt (len x1) 0) (bnd (sSumPoints_d (x1,())) (fun r3=>(bnd (sSigOk_d (r3.1.1,(x2,(x3,())))) (fun r4=>(some ((r4.1.1,()),())))))) (some ((false,()),())):=(FnD.eq V sAllSigOk_c sAllSigOk_F (x1,(x2,(x3,())))).trans (by kernel_rfl)
theorem sAllSigOk_k:CallsOk Tryz.prog gls gvs 175 sAllSigOk_g:=FnD.ok (F:=sAllSigOk_F) (cs:=sAllSigOk_c) V_ok (kC sSumPoints_k (kC sSigOk_k kN)) Tryz.func175 (by decide) (by kernel_rfl)
noncomputable def sCheckUpdate_F:FnD:={f:=110,fn:=Tryz.f110,ps:=[pa TClient,pa TUpdate,pa (.int .i64)],rs:=[rt (.int .i64)]}
noncomputable def sCheckUpdate_c:List (Nat×Sig):=[(63,sClientOk_g),(166,sUpdateOk_g),(169,sL22Slots_g),(93,sHeadRoot_g),(170,sFoldBranch_g),(134,sCommitteeRoot_g),(171,sCountBits_g),(173,sPublicOf_g),(172,sProofOk_g),(174,sSigners_g),(176,sJoined_g),(177,sSigText_g),(175,sAllSigOk_g)]
noncomputable def sCheckUpdate_d:tClient×tUpdate×Int×Unit→Option ((Int×Unit)×Unit):=sCheckUpdate_F.d V sCheckUpdate_c
noncomputable abbrev sCheckUpdate_g:Sig:=sCheckUpdate_F.t.sig sCheckUpdate_d
theorem sCheckUpdate_b (x1:tClient) (x2:tUpdate) (x3:Int):sCheckUpdate_d (x1,(x2,(x3,())))=bnd (sClientOk_d (x1,())) (fun r3=>(cnd (bnot r3.1.1) (some ((1,()),())) (bnd (sUpdateOk_d (x2,())) (fun r4=>(cnd (bnot r4.1.1) (some ((1,()),())) (bnd (sL22Slots_d (x1,(x2,(x3,())))) (fun r5=>(cnd (ine r5.1.1 0) (some ((r5.1.1,()),())) (bnd (sHeadRoot_d (x2.2.2.2.1,())) (fun r6=>(bnd (sFoldBranch_d (r6.1.1,(3,(x2.2.2.2.2.1,())))) (fun r7=>(cnd (sne r7.1.1 x2.1.2.2.1) (some ((5,()),())) (bnd (sCommitteeRoot_d (x2.2.1,())) (fun r8=>(bnd (sFoldBranch_d (r8.1.1,(2,(x2.2.2.1,())))) (fun r9=>(cnd (sne r9.1.1 x2.1.2.2.1) (some ((6,()),())) (bnd (sCountBits_d (x2.2.2.2.2.2.1,())) (fun r10=>(cnd (ilt r10.1.1 6) (some ((7,()),())) (bnd (sPublicOf_d (x2.2.2.2.2.2.1,())) (fun r11=>(bnd (sProofOk_d (x1.2.2.2.2.1,(r11.1.1,(x2.2.2.2.2.2.2.2.1,())))) (fun r12=>(cnd (bnot r12.1.1) (some ((8,()),())) (bnd (sSigners_d (x1,(x2.2.2.2.2.2.2.2.2.1,()))) (fun r13=>(bnd (sJoined_d (r13.1.1,(x2.2.2.2.2.2.1,()))) (fun r14=>(bnd (sSigText_d (x2.1,(7,()))) (fun r15=>(bnd (sAllSigOk_d (r14.1.1,(r15.1.1,(x2.2.2.2.2.2.2.1,())))) (fun r16=>(cnd (bnot r16.1.1) (some ((9,()),())) (some ((0,()),()))))))))))))))))))))))))))))))))))))):=(FnD.eq V sCheckUpdate_c sCheckUpdate_F (x1,(x2,(x3,())))).trans (by kernel_rfl)
theorem sCheckUpdate_k:CallsOk Tryz.prog gls gvs 110 sCheckUpdate_g:=FnD.ok (F:=sCheckUpdate_F) (cs:=sCheckUpdate_c) V_ok (kC sClientOk_k (kC sUpdateOk_k (kC sL22Slots_k (kC sHeadRoot_k (kC sFoldBranch_k (kC sCommitteeRoot_k (kC sCountBits_k (kC sPublicOf_k (kC sProofOk_k (kC sSigners_k (kC sJoined_k (kC sSigText_k (kC sAllSigOk_k kN))))))))))))) Tryz.func110 (by decide) (by kernel_rfl)
noncomputable def sL22Take_F:FnD:={f:=111,fn:=Tryz.f111,ps:=[⟨TClient,(.pr .sh (.pr (.pr (.own 0 .sh) .sh) (.pr (.pr (.own 0 .sh) .sh) (.pr .sh (.pr (.pr .sh (.pr .sh (.pr .sh (.pr .sh (.pr (.own 0 .sh) .sh))))) .sh))))),true,true,none⟩,pa TUpdate],rs:=[],joins:=[7,10],cuts:=[(7,[.val 4 (.int .i64) .sh, .box 0 TClient (.pr .sh (.pr (.pr (.own 0 .sh) .sh) (.pr (.pr (.own 0 .sh) .sh) (.pr .sh (.pr (.pr .sh (.pr .sh (.pr .sh (.pr .sh (.pr (.own 0 .sh) .sh))))) .sh))))), .box 3 TUpdate .sh, .ptr 0 0 0, .ptr 3 3 0]),(10,[.box 0 TClient (.pr .sh (.pr (.pr (.own 0 .sh) .sh) (.pr (.pr (.own 0 .sh) .sh) (.pr .sh (.pr (.pr .sh (.pr .sh (.pr .sh (.pr .sh (.pr (.own 0 .sh) .sh))))) .sh))))), .box 3 TUpdate .sh, .ptr 0 0 0, .ptr 3 3 0])]}
noncomputable def sL22Take_c:List (Nat×Sig):=[(178,sPeriodOf_g),(100,sL22Committee_g)]
noncomputable def sL22Take_d:tClient×tUpdate×Unit→Option ((Unit)×tClient×Unit):=sL22Take_F.d V sL22Take_c
noncomputable abbrev sL22Take_g:Sig:=sL22Take_F.t.sig sL22Take_d
noncomputable def sL22Take_D7:Int×tClient×tUpdate×Unit→Option ((Unit)×tClient×Unit):=sL22Take_F.D V sL22Take_c 7
noncomputable def sL22Take_D10:tClient×tUpdate×Unit→Option ((Unit)×tClient×Unit):=sL22Take_F.D V sL22Take_c 10
theorem sL22Take_b (x1:tClient) (x2:tUpdate):sL22Take_d (x1,(x2,()))=bnd (sPeriodOf_d (x1.1.1,())) (fun r2=>(bnd (sPeriodOf_d (x2.2.2.2.1.1,())) (fun r3=>(cnd (ieq r3.1.1 (iadd .i64 r2.1.1 1)) (bnd (sL22Committee_d (x1.2.2.1,())) (fun r4=>(sL22Take_D7 ((iadd .i64 r2.1.1 1),((x1.1,(r4.1.1,(zCommittee,(false,x1.2.2.2.2)))),(x2,())))))) (sL22Take_D7 (r2.1.1,(x1,(x2,())))))))):=(FnD.eq V sL22Take_c sL22Take_F (x1,(x2,()))).trans (by kernel_rfl)
theorem sL22Take_q7 (x1:Int) (x2:tClient) (x3:tUpdate):sL22Take_D7 (x1,(x2,(x3,())))=cnd (bnot x2.2.2.2.1) (bnd (sPeriodOf_d (x3.1.1,())) (fun r3=>(cnd (ieq r3.1.1 x1) (bnd (sL22Committee_d (x3.2.1,())) (fun r4=>(sL22Take_D10 ((x2.1,(x2.2.1,(r4.1.1,(true,x2.2.2.2.2)))),(x3,()))))) (sL22Take_D10 (x2,(x3,())))))) (sL22Take_D10 (x2,(x3,()))):=(FnD.eqC V sL22Take_c sL22Take_F 7 (x1,(x2,(x3,())))).trans (by kernel_rfl)
theorem sL22Take_q10 (x1:tClient) (x2:tUpdate):sL22Take_D10 (x1,(x2,()))=cnd (igt x2.2.2.2.1.1 x1.1.1) (some ((),((x2.2.2.2.1,x1.2),()))) (some ((),(x1,()))):=(FnD.eqC V sL22Take_c sL22Take_F 10 (x1,(x2,()))).trans (by kernel_rfl)
theorem sL22Take_k:CallsOk Tryz.prog gls gvs 111 sL22Take_g:=FnD.ok (F:=sL22Take_F) (cs:=sL22Take_c) V_ok (kC sPeriodOf_k (kC sL22Committee_k kN)) Tryz.func111 (by decide) (by kernel_rfl)
noncomputable def sTakeUpdate_F:FnD:={f:=49,fn:=Tryz.f49,ps:=[pa TClient,pa TUpdate,pa (.int .i64)],rs:=[rt TClient,rt (.int .i64)],al:=true}
noncomputable def sTakeUpdate_c:List (Nat×Sig):=[(47,sL22Copy_g),(110,sCheckUpdate_g),(111,sL22Take_g)]
noncomputable def sTakeUpdate_d:tClient×tUpdate×Int×Unit→Option ((tClient×Int×Unit)×Unit):=sTakeUpdate_F.d V sTakeUpdate_c
noncomputable abbrev sTakeUpdate_g:Sig:=sTakeUpdate_F.t.sig sTakeUpdate_d
theorem sTakeUpdate_b (x1:tClient) (x2:tUpdate) (x3:Int):sTakeUpdate_d (x1,(x2,(x3,())))=bnd (sL22Copy_d (x1,())) (fun r3=>(bnd (sCheckUpdate_d (x1,(x2,(x3,())))) (fun r4=>(cnd (ieq r4.1.1 0) (bnd (sL22Take_d (r3.1.1,(x2,()))) (fun r5=>(some ((r5.2.1,(r4.1.1,())),())))) (some ((r3.1.1,(r4.1.1,())),())))))):=(FnD.eq V sTakeUpdate_c sTakeUpdate_F (x1,(x2,(x3,())))).trans (by kernel_rfl)
theorem sTakeUpdate_k:CallsOk Tryz.prog gls gvs 49 sTakeUpdate_g:=FnD.ok (F:=sTakeUpdate_F) (cs:=sTakeUpdate_c) V_ok (kC sL22Copy_k (kC sCheckUpdate_k (kC sL22Take_k kN))) Tryz.func49 (by decide) (by kernel_rfl)
noncomputable def sReplay_F:FnD:={f:=15,fn:=Tryz.f15,ps:=[pa TClient,pa .str],rs:=[rt TClient],al:=true,cuts:=[(4,[.val 6 (.sl .str) (.own 0 .sh), .val 8 (.int .i64) .sh, .box 4 TClient (.pr .sh (.pr (.pr (.own 0 .sh) .sh) (.pr (.pr (.own 0 .sh) .sh) (.pr .sh (.pr (.pr .sh (.pr .sh (.pr .sh (.pr .sh (.pr (.own 0 .sh) .sh))))) .sh))))), .box 5 TClient .sh, .ptr 4 4 0, .ptr 5 5 0])]}
noncomputable def sReplay_c:List (Nat×Sig):=[(47,sL22Copy_g),(35,sReadJournal_g),(48,sReadUpdate_g),(49,sTakeUpdate_g)]
noncomputable def sReplay_d:tClient×ByteArray×Unit→Option ((tClient×Unit)×Unit):=sReplay_F.d V sReplay_c
noncomputable abbrev sReplay_g:Sig:=sReplay_F.t.sig sReplay_d
noncomputable def sReplay_D4:(List ByteArray)×Int×tClient×tClient×Unit→Option ((tClient×Unit)×Unit):=sReplay_F.D V sReplay_c 4
theorem sReplay_b (x1:tClient) (x2:ByteArray):sReplay_d (x1,(x2,()))=bnd (sL22Copy_d (x1,())) (fun r2=>(bnd (sReadJournal_d (x2,())) (fun r3=>(sReplay_D4 (r3.1.1,(0,(zClient,(r2.1.1,())))))))):=(FnD.eq V sReplay_c sReplay_F (x1,(x2,()))).trans (by kernel_rfl)
theorem sReplay_q4 (x1:(List ByteArray)) (x2:Int) (x3:tClient) (x4:tClient):sReplay_D4 (x1,(x2,(x3,(x4,()))))=cnd (ilt x2 (len x1)) (cnd (inb x2 (len x1)) (bnd (sReadUpdate_d ((rd (bs []) x1 x2),())) (fun r4=>(cnd r4.1.2.1 (bnd (sTakeUpdate_d (x4,(r4.1.1,(10000,())))) (fun r5=>(sReplay_D4 (x1,((iadd .i64 x2 1),(x3,(r5.1.1,()))))))) (sReplay_D4 (x1,((iadd .i64 x2 1),(x3,(x4,())))))))) none) (some ((x4,()),())):=(FnD.eqC V sReplay_c sReplay_F 4 (x1,(x2,(x3,(x4,()))))).trans (by kernel_rfl)
theorem sReplay_k:CallsOk Tryz.prog gls gvs 15 sReplay_g:=FnD.ok (F:=sReplay_F) (cs:=sReplay_c) V_ok (kC sL22Copy_k (kC sReadJournal_k (kC sReadUpdate_k (kC sTakeUpdate_k kN)))) Tryz.func15 (by decide) (by kernel_rfl)
noncomputable def sSameClient_F:FnD:={f:=66,fn:=Tryz.f66,ps:=[pa TClient,pa TClient],rs:=[rt .bool]}
noncomputable def sSameClient_c:List (Nat×Sig):=[(134,sCommitteeRoot_g)]
noncomputable def sSameClient_d:tClient×tClient×Unit→Option ((Bool×Unit)×Unit):=sSameClient_F.d V sSameClient_c
noncomputable abbrev sSameClient_g:Sig:=sSameClient_F.t.sig sSameClient_d
theorem sSameClient_b (x1:tClient) (x2:tClient):sSameClient_d (x1,(x2,()))=cnd (both (ieq x1.1.1 x2.1.1) (both (seq x1.1.2.1 x2.1.2.1) (both (seq x1.1.2.2.1 x2.1.2.2.1) (both (seq x1.1.2.2.2.1 x2.1.2.2.2.1) true)))) (bnd (sCommitteeRoot_d (x1.2.1,())) (fun r2=>(bnd (sCommitteeRoot_d (x2.2.1,())) (fun r3=>(cnd (seq r2.1.1 r3.1.1) (cnd (beqB x1.2.2.2.1 x2.2.2.2.1) (bnd (sCommitteeRoot_d (x1.2.2.1,())) (fun r4=>(bnd (sCommitteeRoot_d (x2.2.2.1,())) (fun r5=>(some (((seq r4.1.1 r5.1.1),()),())))))) (some ((false,()),()))) (some ((false,()),()))))))) (some ((false,()),())):=(FnD.eq V sSameClient_c sSameClient_F (x1,(x2,()))).trans (by kernel_rfl)
theorem sSameClient_k:CallsOk Tryz.prog gls gvs 66 sSameClient_g:=FnD.ok (F:=sSameClient_F) (cs:=sSameClient_c) V_ok (kC sCommitteeRoot_k kN) Tryz.func66 (by decide) (by kernel_rfl)
noncomputable def sBridgeOk_F:FnD:={f:=21,fn:=Tryz.f21,ps:=[pa TBridge],rs:=[rt .bool],cuts:=[(7,[.val 3 (.int .i64) .sh, .val 4 (.int .i64) .sh, .box 1 TBridge .sh, .ptr 1 1 0]),(4,[.val 3 (.int .i64) .sh, .box 1 TBridge .sh, .ptr 1 1 0]),(17,[.val 5 (.sl .str) (.own 0 .sh), .val 7 (.int .i64) .sh, .box 1 TBridge .sh, .ptr 1 1 0])]}
noncomputable def sBridgeOk_c:List (Nat×Sig):=[(63,sClientOk_g),(64,sL24Keys_g),(65,sL01In_g),(35,sReadJournal_g),(48,sReadUpdate_g),(15,sReplay_g),(66,sSameClient_g)]
noncomputable def sBridgeOk_d:tBridge×Unit→Option ((Bool×Unit)×Unit):=sBridgeOk_F.d V sBridgeOk_c
noncomputable abbrev sBridgeOk_g:Sig:=sBridgeOk_F.t.sig sBridgeOk_d
noncomputable def sBridgeOk_D7:Int×Int×tBridge×Unit→Option ((Bool×Unit)×Unit):=sBridgeOk_F.D V sBridgeOk_c 7
noncomputable def sBridgeOk_D4:Int×tBridge×Unit→Option ((Bool×Unit)×Unit):=sBridgeOk_F.D V sBridgeOk_c 4
noncomputable def sBridgeOk_D17:(List ByteArray)×Int×tBridge×Unit→Option ((Bool×Unit)×Unit):=sBridgeOk_F.D V sBridgeOk_c 17
theorem sBridgeOk_b (x1:tBridge):sBridgeOk_d (x1,())=bnd (sClientOk_d (x1.1,())) (fun r1=>(cnd (bnot r1.1.1) (some ((false,()),())) (bnd (sClientOk_d (x1.2.1,())) (fun r2=>(cnd (bnot r2.1.1) (some ((false,()),())) (bnd (sL24Keys_d (x1.1.2.2.2.2.1,(x1.2.1.2.2.2.2.1,()))) (fun r3=>(cnd (bnot r3.1.1) (some ((false,()),())) (bnd (sL01In_d (x1.2.2.2.2.2.1,(0,(10000,())))) (fun r4=>(cnd (bnot r4.1.1) (some ((false,()),())) (cnd (igt (len x1.2.2.2.2.1) 3) (some ((false,()),())) (bnd (sL01In_d (x1.2.2.2.1,(0,((ssz x1.2.2.1),())))) (fun r5=>(cnd (bnot r5.1.1) (some ((false,()),())) (sBridgeOk_D4 (0,(x1,())))))))))))))))))):=(FnD.eq V sBridgeOk_c sBridgeOk_F (x1,())).trans (by kernel_rfl)
theorem sBridgeOk_q7 (x1:Int) (x2:Int) (x3:tBridge):sBridgeOk_D7 (x1,(x2,(x3,())))=cnd (ilt x2 x1) (cnd (inb x2 (len x3.2.2.2.2.1)) (cnd (inb x1 (len x3.2.2.2.2.1)) (cnd (seq (rd (bs []) x3.2.2.2.2.1 x2) (rd (bs []) x3.2.2.2.2.1 x1)) (some ((false,()),())) (sBridgeOk_D7 (x1,((iadd .i64 x2 1),(x3,()))))) none) none) (cnd (inb x1 (len x3.2.2.2.2.1)) (cnd (igt (ssz (rd (bs []) x3.2.2.2.2.1 x1)) 600) (some ((false,()),())) (sBridgeOk_D4 ((iadd .i64 x1 1),(x3,())))) none):=(FnD.eqC V sBridgeOk_c sBridgeOk_F 7 (x1,(x2,(x3,())))).trans (by kernel_rfl)
theorem sBridgeOk_q4 (x1:Int) (x2:tBridge):sBridgeOk_D4 (x1,(x2,()))=cnd (ilt x1 (len x2.2.2.2.2.1)) (sBridgeOk_D7 (x1,(0,(x2,())))) (bnd (sReadJournal_d (x2.2.2.1,())) (fun r2=>(cnd (ine r2.1.2.1 (ssz x2.2.2.1)) (some ((false,()),())) (sBridgeOk_D17 (r2.1.1,(0,(x2,()))))))):=(FnD.eqC V sBridgeOk_c sBridgeOk_F 4 (x1,(x2,()))).trans (by kernel_rfl)
theorem sBridgeOk_q17 (x1:(List ByteArray)) (x2:Int) (x3:tBridge):sBridgeOk_D17 (x1,(x2,(x3,())))=cnd (ilt x2 (len x1)) (cnd (inb x2 (len x1)) (bnd (sReadUpdate_d ((rd (bs []) x1 x2),())) (fun r3=>(cnd (bnot r3.1.2.1) (some ((false,()),())) (sBridgeOk_D17 (x1,((iadd .i64 x2 1),(x3,()))))))) none) (bnd (sReplay_d (x3.1,(x3.2.2.1,()))) (fun r3=>(bnd (sSameClient_d (r3.1.1,(x3.2.1,()))) (fun r4=>(some ((r4.1.1,()),())))))):=(FnD.eqC V sBridgeOk_c sBridgeOk_F 17 (x1,(x2,(x3,())))).trans (by kernel_rfl)
theorem sBridgeOk_k:CallsOk Tryz.prog gls gvs 21 sBridgeOk_g:=FnD.ok (F:=sBridgeOk_F) (cs:=sBridgeOk_c) V_ok (kC sClientOk_k (kC sL24Keys_k (kC sL01In_k (kC sReadJournal_k (kC sReadUpdate_k (kC sReplay_k (kC sSameClient_k kN))))))) Tryz.func21 (by decide) (by kernel_rfl)
noncomputable def sL24Copy_F:FnD:={f:=73,fn:=Tryz.f73,ps:=[pa TBridge],rs:=[⟨TBridge,(.pr (.pr .sh (.pr (.pr (.own 0 .sh) .sh) (.pr (.pr (.own 0 .sh) .sh) (.pr .sh (.pr (.pr .sh (.pr .sh (.pr .sh (.pr .sh (.pr (.own 0 .sh) .sh))))) .sh))))) (.pr (.pr .sh (.pr (.pr (.own 0 .sh) .sh) (.pr (.pr (.own 0 .sh) .sh) (.pr .sh (.pr (.pr .sh (.pr .sh (.pr .sh (.pr .sh (.pr (.own 0 .sh) .sh))))) .sh))))) (.pr .sh (.pr .sh (.pr (.own 0 .sh) .sh))))),false⟩]}
noncomputable def sL24Copy_c:List (Nat×Sig):=[(47,sL22Copy_g)]
noncomputable def sL24Copy_d:tBridge×Unit→Option ((tBridge×Unit)×Unit):=sL24Copy_F.d V sL24Copy_c
noncomputable abbrev sL24Copy_g:Sig:=sL24Copy_F.t.sig sL24Copy_d
theorem sL24Copy_b (x1:tBridge):sL24Copy_d (x1,())=bnd (sL22Copy_d (x1.1,())) (fun r1=>(bnd (sL22Copy_d (x1.2.1,())) (fun r2=>(cnd (fits ((len ([]:List ByteArray))+(len x1.2.2.2.2.1)) 1) (some (((r1.1.1,(r2.1.1,(x1.2.2.1,(x1.2.2.2.1,((app ([]:List ByteArray) x1.2.2.2.2.1),x1.2.2.2.2.2))))),()),())) none)))):=(FnD.eq V sL24Copy_c sL24Copy_F (x1,())).trans (by kernel_rfl)
theorem sL24Copy_k:CallsOk Tryz.prog gls gvs 73 sL24Copy_g:=FnD.ok (F:=sL24Copy_F) (cs:=sL24Copy_c) V_ok (kC sL22Copy_k kN) Tryz.func73 (by decide) (by kernel_rfl)
noncomputable def sCutJournal_F:FnD:={f:=80,fn:=Tryz.f80,ps:=[pa .str,pa (.int .i64)],rs:=[rt .str]}
noncomputable def sCutJournal_c:List (Nat×Sig):=[]
noncomputable def sCutJournal_d:ByteArray×Int×Unit→Option ((ByteArray×Unit)×Unit):=sCutJournal_F.d V sCutJournal_c
noncomputable abbrev sCutJournal_g:Sig:=sCutJournal_F.t.sig sCutJournal_d
theorem sCutJournal_b (x1:ByteArray) (x2:Int):sCutJournal_d (x1,(x2,()))=cnd (ilt x2 0) (some (((bs []),()),())) (cnd (igt x2 (ssz x1)) (some ((x1,()),())) (cnd (inb2 0 x2 (ssz x1)) (some (((ssub x1 0 x2),()),())) none)):=(FnD.eq V sCutJournal_c sCutJournal_F (x1,(x2,()))).trans (by kernel_rfl)
theorem sCutJournal_k:CallsOk Tryz.prog gls gvs 80 sCutJournal_g:=FnD.ok (F:=sCutJournal_F) (cs:=sCutJournal_c) V_ok kN Tryz.func80 (by decide) (by kernel_rfl)
noncomputable def sCrash_F:FnD:={f:=27,fn:=Tryz.f27,ps:=[pa TBridge,pa (.int .i64)],rs:=[⟨TBridge,(.pr (.pr .sh (.pr (.pr (.own 0 .sh) .sh) (.pr (.pr (.own 0 .sh) .sh) (.pr .sh (.pr (.pr .sh (.pr .sh (.pr .sh (.pr .sh (.pr (.own 0 .sh) .sh))))) .sh))))) (.pr .sh (.pr .sh (.pr .sh (.pr (.own 0 .sh) .sh))))),false⟩],al:=true,joins:=[5],cuts:=[(5,[.val 1 (.int .i64) .sh, .val 6 (.int .i64) .sh, .box 2 TBridge .sh, .box 4 TBridge (.pr (.pr .sh (.pr (.pr (.own 0 .sh) .sh) (.pr (.pr (.own 0 .sh) .sh) (.pr .sh (.pr (.pr .sh (.pr .sh (.pr .sh (.pr .sh (.pr (.own 0 .sh) .sh))))) .sh))))) (.pr (.pr .sh (.pr (.pr (.own 0 .sh) .sh) (.pr (.pr (.own 0 .sh) .sh) (.pr .sh (.pr (.pr .sh (.pr .sh (.pr .sh (.pr .sh (.pr (.own 0 .sh) .sh))))) .sh))))) (.pr .sh (.pr .sh (.pr (.own 0 .sh) .sh))))), .box 5 TBridge (.pr (.pr .sh (.pr (.pr (.own 0 .sh) .sh) (.pr (.pr (.own 0 .sh) .sh) (.pr .sh (.pr (.pr .sh (.pr .sh (.pr .sh (.pr .sh (.pr (.own 0 .sh) .sh))))) .sh))))) (.pr (.pr .sh (.pr (.pr (.own 0 .sh) .sh) (.pr (.pr (.own 0 .sh) .sh) (.pr .sh (.pr (.pr .sh (.pr .sh (.pr .sh (.pr .sh (.pr (.own 0 .sh) .sh))))) .sh))))) (.pr .sh (.pr .sh (.pr (.own 0 .sh) .sh))))), .ptr 2 2 0, .ptr 4 4 0, .ptr 5 5 0])]}
noncomputable def sCrash_c:List (Nat×Sig):=[(73,sL24Copy_g),(65,sL01In_g),(80,sCutJournal_g),(35,sReadJournal_g),(15,sReplay_g)]
noncomputable def sCrash_d:tBridge×Int×Unit→Option ((tBridge×Unit)×Unit):=sCrash_F.d V sCrash_c
noncomputable abbrev sCrash_g:Sig:=sCrash_F.t.sig sCrash_d
noncomputable def sCrash_D5:Int×Int×tBridge×tBridge×tBridge×Unit→Option ((tBridge×Unit)×Unit):=sCrash_F.D V sCrash_c 5
theorem sCrash_b (x1:tBridge) (x2:Int):sCrash_d (x1,(x2,()))=bnd (sL24Copy_d (x1,())) (fun r2=>(bnd (sL01In_d (x1.2.2.2.1,(0,((ssz x1.2.2.1),())))) (fun r3=>(cnd (bnot r3.1.1) (sCrash_D5 (x2,(0,(x1,(zBridge,(r2.1.1,())))))) (sCrash_D5 (x2,(x1.2.2.2.1,(x1,(zBridge,(r2.1.1,())))))))))):=(FnD.eq V sCrash_c sCrash_F (x1,(x2,()))).trans (by kernel_rfl)
theorem sCrash_q5 (x1:Int) (x2:Int) (x3:tBridge) (x4:tBridge) (x5:tBridge):sCrash_D5 (x1,(x2,(x3,(x4,(x5,())))))=cnd (inb2 0 x2 (ssz x3.2.2.1)) (cnd (inb2 x2 (ssz x3.2.2.1) (ssz x3.2.2.1)) (bnd (sCutJournal_d ((ssub x3.2.2.1 x2 (ssz x3.2.2.1)),(x1,()))) (fun r5=>(cnd (fits ((ssz (ssub x3.2.2.1 0 x2))+(ssz r5.1.1)) 1) (bnd (sReadJournal_d ((scat (ssub x3.2.2.1 0 x2) r5.1.1),())) (fun r6=>(cnd (inb2 0 r6.1.2.1 (ssz (scat (ssub x3.2.2.1 0 x2) r5.1.1))) (bnd (sReplay_d (x3.1,((ssub (scat (ssub x3.2.2.1 0 x2) r5.1.1) 0 r6.1.2.1),()))) (fun r7=>(some (((x5.1,(r7.1.1,((ssub (scat (ssub x3.2.2.1 0 x2) r5.1.1) 0 r6.1.2.1),(r6.1.2.1,(([]:List ByteArray),x5.2.2.2.2.2))))),()),())))) none))) none))) none) none:=(FnD.eqC V sCrash_c sCrash_F 5 (x1,(x2,(x3,(x4,(x5,())))))).trans (by kernel_rfl)
theorem sCrash_k:CallsOk Tryz.prog gls gvs 27 sCrash_g:=FnD.ok (F:=sCrash_F) (cs:=sCrash_c) V_ok (kC sL24Copy_k (kC sL01In_k (kC sCutJournal_k (kC sReadJournal_k (kC sReplay_k kN))))) Tryz.func27 (by decide) (by kernel_rfl)
noncomputable def sKept_F:FnD:={f:=30,fn:=Tryz.f30,ps:=[pa TWorld],rs:=[rt .bool]}
noncomputable def sKept_c:List (Nat×Sig):=[(21,sBridgeOk_g),(27,sCrash_g)]
noncomputable def sKept_d:tWorld×Unit→Option ((Bool×Unit)×Unit):=sKept_F.d V sKept_c
noncomputable abbrev sKept_g:Sig:=sKept_F.t.sig sKept_d
theorem sKept_b (x1:tWorld):sKept_d (x1,())=bnd (sBridgeOk_d (x1.2.2.1,())) (fun r1=>(cnd (bnot r1.1.1) (some ((false,()),())) (bnd (sCrash_d (x1.2.2.1,(0,()))) (fun r2=>(bnd (sBridgeOk_d (r2.1.1,())) (fun r3=>(cnd r3.1.1 (some (((ile r2.1.1.2.1.1.1 x1.2.2.1.2.1.1.1),()),())) (some ((false,()),()))))))))):=(FnD.eq V sKept_c sKept_F (x1,())).trans (by kernel_rfl)
theorem sKept_k:CallsOk Tryz.prog gls gvs 30 sKept_g:=FnD.ok (F:=sKept_F) (cs:=sKept_c) V_ok (kC sBridgeOk_k (kC sCrash_k kN)) Tryz.func30 (by decide) (by kernel_rfl)
noncomputable def g_slices_Clone_impl_Point_impl_Point_F:FnD:={f:=179,fn:=Tryz.f179,ps:=[pa (.sl TPoint)],rs:=[⟨(.sl TPoint),(.own 0 .sh),false⟩]}
noncomputable def g_slices_Clone_impl_Point_impl_Point_c:List (Nat×Sig):=[]
noncomputable def g_slices_Clone_impl_Point_impl_Point_d:(List tPoint)×Unit→Option (((List tPoint)×Unit)×Unit):=g_slices_Clone_impl_Point_impl_Point_F.d V g_slices_Clone_impl_Point_impl_Point_c
noncomputable abbrev g_slices_Clone_impl_Point_impl_Point_g:Sig:=g_slices_Clone_impl_Point_impl_Point_F.t.sig g_slices_Clone_impl_Point_impl_Point_d
theorem g_slices_Clone_impl_Point_impl_Point_b (x1:(List tPoint)):g_slices_Clone_impl_Point_impl_Point_d (x1,())=cnd (ieq (len x1) 0) (agree (some (zCommittee,())) (cnd (fits ((len ([]:List tPoint))+(len x1)) 3) (some (((app ([]:List tPoint) x1),()),())) none)) (cnd (fits ((len ([]:List tPoint))+(len x1)) 3) (some (((app ([]:List tPoint) x1),()),())) none):=(FnD.eq V g_slices_Clone_impl_Point_impl_Point_c g_slices_Clone_impl_Point_impl_Point_F (x1,())).trans (by kernel_rfl)
theorem g_slices_Clone_impl_Point_impl_Point_k:CallsOk Tryz.prog gls gvs 179 g_slices_Clone_impl_Point_impl_Point_g:=FnD.ok (F:=g_slices_Clone_impl_Point_impl_Point_F) (cs:=g_slices_Clone_impl_Point_impl_Point_c) V_ok kN Tryz.func179 (by decide) (by kernel_rfl)
noncomputable def iCopyCommittee_F:FnD:={f:=114,fn:=Tryz.f114,ps:=[pa TCommittee],rs:=[⟨TCommittee,(.pr (.own 0 .sh) .sh),false⟩]}
noncomputable def iCopyCommittee_c:List (Nat×Sig):=[(179,g_slices_Clone_impl_Point_impl_Point_g)]
noncomputable def iCopyCommittee_d:tCommittee×Unit→Option ((tCommittee×Unit)×Unit):=iCopyCommittee_F.d V iCopyCommittee_c
noncomputable abbrev iCopyCommittee_g:Sig:=iCopyCommittee_F.t.sig iCopyCommittee_d
theorem iCopyCommittee_b (x1:tCommittee):iCopyCommittee_d (x1,())=bnd (g_slices_Clone_impl_Point_impl_Point_d (x1.1,())) (fun r1=>(some (((r1.1.1,()),()),()))):=(FnD.eq V iCopyCommittee_c iCopyCommittee_F (x1,())).trans (by kernel_rfl)
theorem iCopyCommittee_k:CallsOk Tryz.prog gls gvs 114 iCopyCommittee_g:=FnD.ok (F:=iCopyCommittee_F) (cs:=iCopyCommittee_c) V_ok (kC g_slices_Clone_impl_Point_impl_Point_k kN) Tryz.func114 (by decide) (by kernel_rfl)
noncomputable def iCopyKeys_F:FnD:={f:=115,fn:=Tryz.f115,ps:=[pa TKeys],rs:=[⟨TKeys,(.pr .sh (.pr .sh (.pr .sh (.pr .sh (.pr (.own 0 .sh) .sh))))),false⟩]}
noncomputable def iCopyKeys_c:List (Nat×Sig):=[(179,g_slices_Clone_impl_Point_impl_Point_g)]
noncomputable def iCopyKeys_d:tKeys×Unit→Option ((tKeys×Unit)×Unit):=iCopyKeys_F.d V iCopyKeys_c
noncomputable abbrev iCopyKeys_g:Sig:=iCopyKeys_F.t.sig iCopyKeys_d
theorem iCopyKeys_b (x1:tKeys):iCopyKeys_d (x1,())=bnd (g_slices_Clone_impl_Point_impl_Point_d (x1.2.2.2.2.1,())) (fun r1=>(some (((x1.1,(x1.2.1,(x1.2.2.1,(x1.2.2.2.1,(r1.1.1,x1.2.2.2.2.2))))),()),()))):=(FnD.eq V iCopyKeys_c iCopyKeys_F (x1,())).trans (by kernel_rfl)
theorem iCopyKeys_k:CallsOk Tryz.prog gls gvs 115 iCopyKeys_g:=FnD.ok (F:=iCopyKeys_F) (cs:=iCopyKeys_c) V_ok (kC g_slices_Clone_impl_Point_impl_Point_k kN) Tryz.func115 (by decide) (by kernel_rfl)
noncomputable def iCopyClient_F:FnD:={f:=53,fn:=Tryz.f53,ps:=[pa TClient],rs:=[⟨TClient,(.pr .sh (.pr (.pr (.own 0 .sh) .sh) (.pr (.pr (.own 0 .sh) .sh) (.pr .sh (.pr (.pr .sh (.pr .sh (.pr .sh (.pr .sh (.pr (.own 0 .sh) .sh))))) .sh))))),false⟩]}
noncomputable def iCopyClient_c:List (Nat×Sig):=[(114,iCopyCommittee_g),(115,iCopyKeys_g)]
noncomputable def iCopyClient_d:tClient×Unit→Option ((tClient×Unit)×Unit):=iCopyClient_F.d V iCopyClient_c
noncomputable abbrev iCopyClient_g:Sig:=iCopyClient_F.t.sig iCopyClient_d
theorem iCopyClient_b (x1:tClient):iCopyClient_d (x1,())=bnd (iCopyCommittee_d (x1.2.1,())) (fun r1=>(bnd (iCopyCommittee_d (x1.2.2.1,())) (fun r2=>(bnd (iCopyKeys_d (x1.2.2.2.2.1,())) (fun r3=>(some (((x1.1,(r1.1.1,(r2.1.1,(x1.2.2.2.1,(r3.1.1,x1.2.2.2.2.2))))),()),()))))))):=(FnD.eq V iCopyClient_c iCopyClient_F (x1,())).trans (by kernel_rfl)
theorem iCopyClient_k:CallsOk Tryz.prog gls gvs 53 iCopyClient_g:=FnD.ok (F:=iCopyClient_F) (cs:=iCopyClient_c) V_ok (kC iCopyCommittee_k (kC iCopyKeys_k kN)) Tryz.func53 (by decide) (by kernel_rfl)
noncomputable def g_slices_Clone_string_string_F:FnD:={f:=141,fn:=Tryz.f141,ps:=[pa (.sl .str)],rs:=[⟨(.sl .str),(.own 0 .sh),false⟩]}
noncomputable def g_slices_Clone_string_string_c:List (Nat×Sig):=[]
noncomputable def g_slices_Clone_string_string_d:(List ByteArray)×Unit→Option (((List ByteArray)×Unit)×Unit):=g_slices_Clone_string_string_F.d V g_slices_Clone_string_string_c
noncomputable abbrev g_slices_Clone_string_string_g:Sig:=g_slices_Clone_string_string_F.t.sig g_slices_Clone_string_string_d
theorem g_slices_Clone_string_string_b (x1:(List ByteArray)):g_slices_Clone_string_string_d (x1,())=cnd (ieq (len x1) 0) (agree (some ((([]:List ByteArray),()),())) (cnd (fits ((len ([]:List ByteArray))+(len x1)) 1) (some (((app ([]:List ByteArray) x1),()),())) none)) (cnd (fits ((len ([]:List ByteArray))+(len x1)) 1) (some (((app ([]:List ByteArray) x1),()),())) none):=(FnD.eq V g_slices_Clone_string_string_c g_slices_Clone_string_string_F (x1,())).trans (by kernel_rfl)
theorem g_slices_Clone_string_string_k:CallsOk Tryz.prog gls gvs 141 g_slices_Clone_string_string_g:=FnD.ok (F:=g_slices_Clone_string_string_F) (cs:=g_slices_Clone_string_string_c) V_ok kN Tryz.func141 (by decide) (by kernel_rfl)
noncomputable def iCopyBridge_F:FnD:={f:=75,fn:=Tryz.f75,ps:=[pa TBridge],rs:=[⟨TBridge,(.pr (.pr .sh (.pr (.pr (.own 0 .sh) .sh) (.pr (.pr (.own 0 .sh) .sh) (.pr .sh (.pr (.pr .sh (.pr .sh (.pr .sh (.pr .sh (.pr (.own 0 .sh) .sh))))) .sh))))) (.pr (.pr .sh (.pr (.pr (.own 0 .sh) .sh) (.pr (.pr (.own 0 .sh) .sh) (.pr .sh (.pr (.pr .sh (.pr .sh (.pr .sh (.pr .sh (.pr (.own 0 .sh) .sh))))) .sh))))) (.pr .sh (.pr .sh (.pr (.own 0 .sh) .sh))))),false⟩]}
noncomputable def iCopyBridge_c:List (Nat×Sig):=[(53,iCopyClient_g),(141,g_slices_Clone_string_string_g)]
noncomputable def iCopyBridge_d:tBridge×Unit→Option ((tBridge×Unit)×Unit):=iCopyBridge_F.d V iCopyBridge_c
noncomputable abbrev iCopyBridge_g:Sig:=iCopyBridge_F.t.sig iCopyBridge_d
theorem iCopyBridge_b (x1:tBridge):iCopyBridge_d (x1,())=bnd (iCopyClient_d (x1.1,())) (fun r1=>(bnd (iCopyClient_d (x1.2.1,())) (fun r2=>(bnd (g_slices_Clone_string_string_d (x1.2.2.2.2.1,())) (fun r3=>(some (((r1.1.1,(r2.1.1,(x1.2.2.1,(x1.2.2.2.1,(r3.1.1,x1.2.2.2.2.2))))),()),()))))))):=(FnD.eq V iCopyBridge_c iCopyBridge_F (x1,())).trans (by kernel_rfl)
theorem iCopyBridge_k:CallsOk Tryz.prog gls gvs 75 iCopyBridge_g:=FnD.ok (F:=iCopyBridge_F) (cs:=iCopyBridge_c) V_ok (kC iCopyClient_k (kC g_slices_Clone_string_string_k kN)) Tryz.func75 (by decide) (by kernel_rfl)
noncomputable def iCutJournal_F:FnD:={f:=81,fn:=Tryz.f81,ps:=[pa .str,pa (.int .i64)],rs:=[rt .str]}
noncomputable def iCutJournal_c:List (Nat×Sig):=[]
noncomputable def iCutJournal_d:ByteArray×Int×Unit→Option ((ByteArray×Unit)×Unit):=iCutJournal_F.d V iCutJournal_c
noncomputable abbrev iCutJournal_g:Sig:=iCutJournal_F.t.sig iCutJournal_d
theorem iCutJournal_b (x1:ByteArray) (x2:Int):iCutJournal_d (x1,(x2,()))=cnd (inb2 0 (imax 0 (imin x2 (ssz x1))) (ssz x1)) (some (((ssub x1 0 (imax 0 (imin x2 (ssz x1)))),()),())) none:=(FnD.eq V iCutJournal_c iCutJournal_F (x1,(x2,()))).trans (by kernel_rfl)
theorem iCutJournal_k:CallsOk Tryz.prog gls gvs 81 iCutJournal_g:=FnD.ok (F:=iCutJournal_F) (cs:=iCutJournal_c) V_ok kN Tryz.func81 (by decide) (by kernel_rfl)
noncomputable def iReadVar_F:FnD:={f:=181,fn:=Tryz.f181,ps:=[pa .str,pa (.int .i64)],rs:=[rt (.int .i64),rt (.int .i64),rt .bool],joins:=[13],cuts:=[(13,[.val 1 (.int .i64) .sh, .val 7 (.int .i64) .sh, .val 9 (.int .i64) .sh]),(5,[.val 0 .str .sh, .val 1 (.int .i64) .sh, .val 7 (.int .i64) .sh, .val 8 (.int .i64) .sh, .val 9 (.int .i64) .sh])]}
noncomputable def iReadVar_c:List (Nat×Sig):=[]
noncomputable def iReadVar_d:ByteArray×Int×Unit→Option ((Int×Int×Bool×Unit)×Unit):=iReadVar_F.d V iReadVar_c
noncomputable abbrev iReadVar_g:Sig:=iReadVar_F.t.sig iReadVar_d
noncomputable def iReadVar_D13:Int×Int×Int×Unit→Option ((Int×Int×Bool×Unit)×Unit):=iReadVar_F.D V iReadVar_c 13
noncomputable def iReadVar_D5:ByteArray×Int×Int×Int×Int×Unit→Option ((Int×Int×Bool×Unit)×Unit):=iReadVar_F.D V iReadVar_c 5
theorem iReadVar_b (x1:ByteArray) (x2:Int):iReadVar_d (x1,(x2,()))=cnd (ilt x2 0) (some (zPoint,())) (cnd (igt x2 (ssz x1)) (some (zPoint,())) (iReadVar_D5 (x1,(x2,(0,(1,(0,()))))))):=(FnD.eq V iReadVar_c iReadVar_F (x1,(x2,()))).trans (by kernel_rfl)
theorem iReadVar_q13 (x1:Int) (x2:Int) (x3:Int):iReadVar_D13 (x1,(x2,(x3,())))=some ((x2,((iadd .i64 (iadd .i64 x1 x3) 1),(true,()))),()):=(FnD.eqC V iReadVar_c iReadVar_F 13 (x1,(x2,(x3,())))).trans (by kernel_rfl)
theorem iReadVar_q5 (x1:ByteArray) (x2:Int) (x3:Int) (x4:Int) (x5:Int):iReadVar_D5 (x1,(x2,(x3,(x4,(x5,())))))=cnd (ilt x5 5) (cnd (ilt (iadd .i64 x2 x5) (ssz x1)) (cnd (inb (iadd .i64 x2 x5) (ssz x1)) (cnd (nz 128) (cnd (ige (iconv .i64 (sat x1 (iadd .i64 x2 x5))) 128) (iReadVar_D5 (x1,(x2,((iadd .i64 x3 (imul .i64 (irem (iconv .i64 (sat x1 (iadd .i64 x2 x5))) 128) x4)),((imul .i64 x4 128),((iadd .i64 x5 1),())))))) (cnd (ieq (iconv .i64 (sat x1 (iadd .i64 x2 x5))) 0) (cnd (igt x5 0) (some (zPoint,())) (cnd (igt (iadd .i64 x3 (imul .i64 (irem (iconv .i64 (sat x1 (iadd .i64 x2 x5))) 128) x4)) 1000000000) (some (zPoint,())) (iReadVar_D13 (x2,((iadd .i64 x3 (imul .i64 (irem (iconv .i64 (sat x1 (iadd .i64 x2 x5))) 128) x4)),(x5,())))))) (cnd (igt (iadd .i64 x3 (imul .i64 (irem (iconv .i64 (sat x1 (iadd .i64 x2 x5))) 128) x4)) 1000000000) (some (zPoint,())) (iReadVar_D13 (x2,((iadd .i64 x3 (imul .i64 (irem (iconv .i64 (sat x1 (iadd .i64 x2 x5))) 128) x4)),(x5,()))))))) none) none) (some (zPoint,()))) (some (zPoint,())):=(FnD.eqC V iReadVar_c iReadVar_F 5 (x1,(x2,(x3,(x4,(x5,())))))).trans (by kernel_rfl)
theorem iReadVar_k:CallsOk Tryz.prog gls gvs 181 iReadVar_g:=FnD.ok (F:=iReadVar_F) (cs:=iReadVar_c) V_ok kN Tryz.func181 (by decide) (by kernel_rfl)
noncomputable def iReadShort_F:FnD:={f:=151,fn:=Tryz.f151,ps:=[pa .str,pa (.int .i64)],rs:=[rt .str,rt (.int .i64),rt .bool]}
noncomputable def iReadShort_c:List (Nat×Sig):=[(181,iReadVar_g)]
noncomputable def iReadShort_d:ByteArray×Int×Unit→Option ((ByteArray×Int×Bool×Unit)×Unit):=iReadShort_F.d V iReadShort_c
noncomputable abbrev iReadShort_g:Sig:=iReadShort_F.t.sig iReadShort_d
theorem iReadShort_b (x1:ByteArray) (x2:Int):iReadShort_d (x1,(x2,()))=bnd (iReadVar_d (x1,(x2,()))) (fun r2=>(cnd (bnot r2.1.2.2.1) (some (zScanner,())) (cnd (igt r2.1.1 20000) (some (zScanner,())) (cnd (igt r2.1.1 (isub .i64 (ssz x1) r2.1.2.1)) (some (zScanner,())) (cnd (inb2 r2.1.2.1 (iadd .i64 r2.1.2.1 r2.1.1) (ssz x1)) (some (((ssub x1 r2.1.2.1 (iadd .i64 r2.1.2.1 r2.1.1)),((iadd .i64 r2.1.2.1 r2.1.1),(true,()))),())) none))))):=(FnD.eq V iReadShort_c iReadShort_F (x1,(x2,()))).trans (by kernel_rfl)
theorem iReadShort_k:CallsOk Tryz.prog gls gvs 151 iReadShort_g:=FnD.ok (F:=iReadShort_F) (cs:=iReadShort_c) V_ok (kC iReadVar_k kN) Tryz.func151 (by decide) (by kernel_rfl)
noncomputable def iSumMore_F:FnD:={f:=264,fn:=Tryz.f264,ps:=[pa (.int .u32),pa .str],rs:=[rt (.int .u32)],cuts:=[(6,[.val 0 (.int .u32) .sh, .val 1 .str .sh, .val 5 (.int .i64) .sh, .val 19 (.int .i64) .sh]),(2,[.val 0 (.int .u32) .sh, .val 1 .str .sh, .val 5 (.int .i64) .sh])]}
noncomputable def iSumMore_c:List (Nat×Sig):=[]
noncomputable def iSumMore_d:Int×ByteArray×Unit→Option ((Int×Unit)×Unit):=iSumMore_F.d V iSumMore_c
noncomputable abbrev iSumMore_g:Sig:=iSumMore_F.t.sig iSumMore_d
noncomputable def iSumMore_D6:Int×ByteArray×Int×Int×Unit→Option ((Int×Unit)×Unit):=iSumMore_F.D V iSumMore_c 6
noncomputable def iSumMore_D2:Int×ByteArray×Int×Unit→Option ((Int×Unit)×Unit):=iSumMore_F.D V iSumMore_c 2
theorem iSumMore_b (x1:Int) (x2:ByteArray):iSumMore_d (x1,(x2,()))=iSumMore_D2 (x1,(x2,(0,()))):=(FnD.eq V iSumMore_c iSumMore_F (x1,(x2,()))).trans (by kernel_rfl)
theorem iSumMore_q6 (x1:Int) (x2:ByteArray) (x3:Int) (x4:Int):iSumMore_D6 (x1,(x2,(x3,(x4,()))))=cnd (ilt x4 8) (cnd (nn 1) (cnd (ieq (iand .u32 x1 1) 1) (iSumMore_D6 ((ixor .u32 (ishr .u32 x1 1) 3558460437),(x2,(x3,((iadd .i64 x4 1),()))))) (iSumMore_D6 ((ishr .u32 x1 1),(x2,(x3,((iadd .i64 x4 1),())))))) none) (iSumMore_D2 (x1,(x2,((iadd .i64 x3 1),())))):=(FnD.eqC V iSumMore_c iSumMore_F 6 (x1,(x2,(x3,(x4,()))))).trans (by kernel_rfl)
theorem iSumMore_q2 (x1:Int) (x2:ByteArray) (x3:Int):iSumMore_D2 (x1,(x2,(x3,())))=cnd (ilt x3 (ssz x2)) (cnd (inb x3 (ssz x2)) (iSumMore_D6 ((ixor .u32 x1 (iconv .u32 (sat x2 x3))),(x2,(x3,(0,()))))) none) (some ((x1,()),())):=(FnD.eqC V iSumMore_c iSumMore_F 2 (x1,(x2,(x3,())))).trans (by kernel_rfl)
theorem iSumMore_k:CallsOk Tryz.prog gls gvs 264 iSumMore_g:=FnD.ok (F:=iSumMore_F) (cs:=iSumMore_c) V_ok kN Tryz.func264 (by decide) (by kernel_rfl)
noncomputable def iSumOf_F:FnD:={f:=227,fn:=Tryz.f227,ps:=[pa .str],rs:=[rt (.int .u32)]}
noncomputable def iSumOf_c:List (Nat×Sig):=[(264,iSumMore_g)]
noncomputable def iSumOf_d:ByteArray×Unit→Option ((Int×Unit)×Unit):=iSumOf_F.d V iSumOf_c
noncomputable abbrev iSumOf_g:Sig:=iSumOf_F.t.sig iSumOf_d
theorem iSumOf_b (x1:ByteArray):iSumOf_d (x1,())=bnd (iSumMore_d (4294967295,(x1,()))) (fun r1=>(some ((r1.1.1,()),()))):=(FnD.eq V iSumOf_c iSumOf_F (x1,())).trans (by kernel_rfl)
theorem iSumOf_k:CallsOk Tryz.prog gls gvs 227 iSumOf_g:=FnD.ok (F:=iSumOf_F) (cs:=iSumOf_c) V_ok (kC iSumMore_k kN) Tryz.func227 (by decide) (by kernel_rfl)
noncomputable def iSumText_F:FnD:={f:=180,fn:=Tryz.f180,ps:=[pa .str],rs:=[rt .str]}
noncomputable def iSumText_c:List (Nat×Sig):=[(227,iSumOf_g)]
noncomputable def iSumText_d:ByteArray×Unit→Option ((ByteArray×Unit)×Unit):=iSumText_F.d V iSumText_c
noncomputable abbrev iSumText_g:Sig:=iSumText_F.t.sig iSumText_d
theorem iSumText_b (x1:ByteArray):iSumText_d (x1,())=bnd (iSumOf_d (x1,())) (fun r1=>(cnd (nn 24) (cnd (nn 16) (cnd (nn 8) (some (((sof ((iconv .u8 (ishr .u32 r1.1.1 24))::((iconv .u8 (ishr .u32 r1.1.1 16))::((iconv .u8 (ishr .u32 r1.1.1 8))::((iconv .u8 r1.1.1)::([]:List Int)))))),()),())) none) none) none)):=(FnD.eq V iSumText_c iSumText_F (x1,())).trans (by kernel_rfl)
theorem iSumText_k:CallsOk Tryz.prog gls gvs 180 iSumText_g:=FnD.ok (F:=iSumText_F) (cs:=iSumText_c) V_ok (kC iSumOf_k kN) Tryz.func180 (by decide) (by kernel_rfl)
noncomputable def iUnsealed_F:FnD:={f:=116,fn:=Tryz.f116,ps:=[pa .str],rs:=[rt .str,rt .bool]}
noncomputable def iUnsealed_c:List (Nat×Sig):=[(180,iSumText_g)]
noncomputable def iUnsealed_d:ByteArray×Unit→Option ((ByteArray×Bool×Unit)×Unit):=iUnsealed_F.d V iUnsealed_c
noncomputable abbrev iUnsealed_g:Sig:=iUnsealed_F.t.sig iUnsealed_d
theorem iUnsealed_b (x1:ByteArray):iUnsealed_d (x1,())=cnd (ilt (isub .i64 (ssz x1) 4) 0) (some (zL21Cur,())) (cnd (igt (isub .i64 (ssz x1) 4) 20000) (some (zL21Cur,())) (cnd (inb2 0 (isub .i64 (ssz x1) 4) (ssz x1)) (bnd (iSumText_d ((ssub x1 0 (isub .i64 (ssz x1) 4)),())) (fun r1=>(cnd (inb2 (isub .i64 (ssz x1) 4) (ssz x1) (ssz x1)) (cnd (sne r1.1.1 (ssub x1 (isub .i64 (ssz x1) 4) (ssz x1))) (some (zL21Cur,())) (cnd (inb2 0 (isub .i64 (ssz x1) 4) (ssz x1)) (some (((ssub x1 0 (isub .i64 (ssz x1) 4)),(true,())),())) none)) none))) none)):=(FnD.eq V iUnsealed_c iUnsealed_F (x1,())).trans (by kernel_rfl)
theorem iUnsealed_k:CallsOk Tryz.prog gls gvs 116 iUnsealed_g:=FnD.ok (F:=iUnsealed_F) (cs:=iUnsealed_c) V_ok (kC iSumText_k kN) Tryz.func116 (by decide) (by kernel_rfl)
noncomputable def iRecordAt_F:FnD:={f:=95,fn:=Tryz.f95,ps:=[pa .str,pa (.int .i64)],rs:=[rt .str,rt (.int .i64),rt .bool]}
noncomputable def iRecordAt_c:List (Nat×Sig):=[(151,iReadShort_g),(116,iUnsealed_g)]
noncomputable def iRecordAt_d:ByteArray×Int×Unit→Option ((ByteArray×Int×Bool×Unit)×Unit):=iRecordAt_F.d V iRecordAt_c
noncomputable abbrev iRecordAt_g:Sig:=iRecordAt_F.t.sig iRecordAt_d
theorem iRecordAt_b (x1:ByteArray) (x2:Int):iRecordAt_d (x1,(x2,()))=bnd (iReadShort_d (x1,(x2,()))) (fun r2=>(cnd (bnot r2.1.2.2.1) (some (zScanner,())) (cnd (seq r2.1.1 (bs [])) (some (zScanner,())) (cnd (igt (ssz r2.1.1) 700) (some (zScanner,())) (cnd (ilt (isub .i64 (ssz x1) r2.1.2.1) 4) (some (zScanner,())) (cnd (inb2 x2 (iadd .i64 r2.1.2.1 4) (ssz x1)) (bnd (iUnsealed_d ((ssub x1 x2 (iadd .i64 r2.1.2.1 4)),())) (fun r3=>(cnd (bnot r3.1.2.1) (some (zScanner,())) (some ((r2.1.1,((iadd .i64 r2.1.2.1 4),(true,()))),()))))) none)))))):=(FnD.eq V iRecordAt_c iRecordAt_F (x1,(x2,()))).trans (by kernel_rfl)
theorem iRecordAt_k:CallsOk Tryz.prog gls gvs 95 iRecordAt_g:=FnD.ok (F:=iRecordAt_F) (cs:=iRecordAt_c) V_ok (kC iReadShort_k (kC iUnsealed_k kN)) Tryz.func95 (by decide) (by kernel_rfl)
noncomputable def iReadJournal_F:FnD:={f:=40,fn:=Tryz.f40,ps:=[pa .str],rs:=[⟨(.sl .str),(.own 0 .sh),false⟩,rt (.int .i64)],cuts:=[(3,[.val 0 .str .sh, .val 4 (.sl .str) (.own 0 .sh), .val 5 (.int .i64) .sh])]}
noncomputable def iReadJournal_c:List (Nat×Sig):=[(95,iRecordAt_g)]
noncomputable def iReadJournal_d:ByteArray×Unit→Option (((List ByteArray)×Int×Unit)×Unit):=iReadJournal_F.d V iReadJournal_c
noncomputable abbrev iReadJournal_g:Sig:=iReadJournal_F.t.sig iReadJournal_d
noncomputable def iReadJournal_D3:ByteArray× (List ByteArray)×Int×Unit→Option (((List ByteArray)×Int×Unit)×Unit):=iReadJournal_F.D V iReadJournal_c 3
theorem iReadJournal_b (x1:ByteArray):iReadJournal_d (x1,())=iReadJournal_D3 (x1,(([]:List ByteArray),(0,()))):=(FnD.eq V iReadJournal_c iReadJournal_F (x1,())).trans (by kernel_rfl)
theorem iReadJournal_q3 (x1:ByteArray) (x2:(List ByteArray)) (x3:Int):iReadJournal_D3 (x1,(x2,(x3,())))=bnd (iRecordAt_d (x1,(x3,()))) (fun r3=>(cnd (bnot r3.1.2.2.1) (some ((x2,(x3,())),())) (cnd (fits ((len x2)+(len (r3.1.1::([]:List ByteArray)))) 1) (iReadJournal_D3 (x1,((app x2 (r3.1.1::([]:List ByteArray))),(r3.1.2.1,())))) none))):=(FnD.eqC V iReadJournal_c iReadJournal_F 3 (x1,(x2,(x3,())))).trans (by kernel_rfl)
theorem iReadJournal_k:CallsOk Tryz.prog gls gvs 40 iReadJournal_g:=FnD.ok (F:=iReadJournal_F) (cs:=iReadJournal_c) V_ok (kC iRecordAt_k kN) Tryz.func40 (by decide) (by kernel_rfl)
noncomputable def iScanner_number_F:FnD:={f:=120,fn:=Tryz.f120,ps:=[⟨TScanner, .sh,true,true,none⟩],rs:=[rt (.int .i64)]}
noncomputable def iScanner_number_c:List (Nat×Sig):=[(181,iReadVar_g)]
noncomputable def iScanner_number_d:tScanner×Unit→Option ((Int×Unit)×tScanner×Unit):=iScanner_number_F.d V iScanner_number_c
noncomputable abbrev iScanner_number_g:Sig:=iScanner_number_F.t.sig iScanner_number_d
theorem iScanner_number_b (x1:tScanner):iScanner_number_d (x1,())=bnd (iReadVar_d (x1.1,(x1.2.1,()))) (fun r1=>(cnd x1.2.2.1 (some ((0,()),((x1.1,(x1.2.1,(true,x1.2.2.2))),()))) (cnd (bnot r1.1.2.2.1) (some ((0,()),((x1.1,(x1.2.1,(true,x1.2.2.2))),()))) (some ((r1.1.1,()),((x1.1,(r1.1.2.1,x1.2.2)),())))))):=(FnD.eq V iScanner_number_c iScanner_number_F (x1,())).trans (by kernel_rfl)
theorem iScanner_number_k:CallsOk Tryz.prog gls gvs 120 iScanner_number_g:=FnD.ok (F:=iScanner_number_F) (cs:=iScanner_number_c) V_ok (kC iReadVar_k kN) Tryz.func120 (by decide) (by kernel_rfl)
noncomputable def iScanner_take_F:FnD:={f:=118,fn:=Tryz.f118,ps:=[⟨TScanner, .sh,true,true,none⟩,pa (.int .i64)],rs:=[rt .str]}
noncomputable def iScanner_take_c:List (Nat×Sig):=[]
noncomputable def iScanner_take_d:tScanner×Int×Unit→Option ((ByteArray×Unit)×tScanner×Unit):=iScanner_take_F.d V iScanner_take_c
noncomputable abbrev iScanner_take_g:Sig:=iScanner_take_F.t.sig iScanner_take_d
theorem iScanner_take_b (x1:tScanner) (x2:Int):iScanner_take_d (x1,(x2,()))=cnd x1.2.2.1 (some (((bs []),()),((x1.1,(x1.2.1,(true,x1.2.2.2))),()))) (cnd (igt x2 (isub .i64 (ssz x1.1) x1.2.1)) (some (((bs []),()),((x1.1,(x1.2.1,(true,x1.2.2.2))),()))) (cnd (inb2 (isub .i64 (iadd .i64 x1.2.1 x2) x2) (iadd .i64 x1.2.1 x2) (ssz x1.1)) (some (((ssub x1.1 (isub .i64 (iadd .i64 x1.2.1 x2) x2) (iadd .i64 x1.2.1 x2)),()),((x1.1,((iadd .i64 x1.2.1 x2),x1.2.2)),()))) none)):=(FnD.eq V iScanner_take_c iScanner_take_F (x1,(x2,()))).trans (by kernel_rfl)
theorem iScanner_take_k:CallsOk Tryz.prog gls gvs 118 iScanner_take_g:=FnD.ok (F:=iScanner_take_F) (cs:=iScanner_take_c) V_ok kN Tryz.func118 (by decide) (by kernel_rfl)
noncomputable def iScanner_head_F:FnD:={f:=117,fn:=Tryz.f117,ps:=[⟨TScanner, .sh,true,true,none⟩],rs:=[rt THead]}
noncomputable def iScanner_head_c:List (Nat×Sig):=[(120,iScanner_number_g),(118,iScanner_take_g)]
noncomputable def iScanner_head_d:tScanner×Unit→Option ((tHead×Unit)×tScanner×Unit):=iScanner_head_F.d V iScanner_head_c
noncomputable abbrev iScanner_head_g:Sig:=iScanner_head_F.t.sig iScanner_head_d
theorem iScanner_head_b (x1:tScanner):iScanner_head_d (x1,())=bnd (iScanner_number_d (x1,())) (fun r1=>(bnd (iScanner_take_d (r1.2.1,(32,()))) (fun r2=>(bnd (iScanner_take_d (r2.2.1,(32,()))) (fun r3=>(bnd (iScanner_take_d (r3.2.1,(32,()))) (fun r4=>(some (((r1.1.1,(r2.1.1,(r3.1.1,(r4.1.1,())))),()),(r4.2.1,())))))))))):=(FnD.eq V iScanner_head_c iScanner_head_F (x1,())).trans (by kernel_rfl)
theorem iScanner_head_k:CallsOk Tryz.prog gls gvs 117 iScanner_head_g:=FnD.ok (F:=iScanner_head_F) (cs:=iScanner_head_c) V_ok (kC iScanner_number_k (kC iScanner_take_k kN)) Tryz.func117 (by decide) (by kernel_rfl)
noncomputable def iScanner_branch_F:FnD:={f:=119,fn:=Tryz.f119,ps:=[⟨TScanner, .sh,true,true,none⟩],rs:=[⟨(.sl .str),(.own 0 .sh),false⟩]}
noncomputable def iScanner_branch_c:List (Nat×Sig):=[(118,iScanner_take_g)]
noncomputable def iScanner_branch_d:tScanner×Unit→Option (((List ByteArray)×Unit)×tScanner×Unit):=iScanner_branch_F.d V iScanner_branch_c
noncomputable abbrev iScanner_branch_g:Sig:=iScanner_branch_F.t.sig iScanner_branch_d
theorem iScanner_branch_b (x1:tScanner):iScanner_branch_d (x1,())=bnd (iScanner_take_d (x1,(32,()))) (fun r1=>(bnd (iScanner_take_d (r1.2.1,(32,()))) (fun r2=>(some (((r1.1.1::(r2.1.1::([]:List ByteArray))),()),(r2.2.1,())))))):=(FnD.eq V iScanner_branch_c iScanner_branch_F (x1,())).trans (by kernel_rfl)
theorem iScanner_branch_k:CallsOk Tryz.prog gls gvs 119 iScanner_branch_g:=FnD.ok (F:=iScanner_branch_F) (cs:=iScanner_branch_c) V_ok (kC iScanner_take_k kN) Tryz.func119 (by decide) (by kernel_rfl)
noncomputable def iScanner_done_F:FnD:={f:=121,fn:=Tryz.f121,ps:=[⟨TScanner, .sh,true,true,none⟩],rs:=[rt .bool]}
noncomputable def iScanner_done_c:List (Nat×Sig):=[]
noncomputable def iScanner_done_d:tScanner×Unit→Option ((Bool×Unit)×tScanner×Unit):=iScanner_done_F.d V iScanner_done_c
noncomputable abbrev iScanner_done_g:Sig:=iScanner_done_F.t.sig iScanner_done_d
theorem iScanner_done_b (x1:tScanner):iScanner_done_d (x1,())=cnd (bnot x1.2.2.1) (some (((ieq x1.2.1 (ssz x1.1)),()),(x1,()))) (some ((false,()),(x1,()))):=(FnD.eq V iScanner_done_c iScanner_done_F (x1,())).trans (by kernel_rfl)
theorem iScanner_done_k:CallsOk Tryz.prog gls gvs 121 iScanner_done_g:=FnD.ok (F:=iScanner_done_F) (cs:=iScanner_done_c) V_ok kN Tryz.func121 (by decide) (by kernel_rfl)
noncomputable def iRemainder_F:FnD:={f:=266,fn:=Tryz.f266,ps:=[pa (.int .i64),pa (.int .i64)],rs:=[rt (.int .i64)]}
noncomputable def iRemainder_c:List (Nat×Sig):=[]
noncomputable def iRemainder_d:Int×Int×Unit→Option ((Int×Unit)×Unit):=iRemainder_F.d V iRemainder_c
noncomputable abbrev iRemainder_g:Sig:=iRemainder_F.t.sig iRemainder_d
theorem iRemainder_b (x1:Int) (x2:Int):iRemainder_d (x1,(x2,()))=cnd (nz x2) (cnd (ilt (irem x1 x2) 0) (some (((iadd .i64 (irem x1 x2) x2),()),())) (some (((irem x1 x2),()),()))) none:=(FnD.eq V iRemainder_c iRemainder_F (x1,(x2,()))).trans (by kernel_rfl)
theorem iRemainder_k:CallsOk Tryz.prog gls gvs 266 iRemainder_g:=FnD.ok (F:=iRemainder_F) (cs:=iRemainder_c) V_ok kN Tryz.func266 (by decide) (by kernel_rfl)
noncomputable def iFpOf_F:FnD:={f:=231,fn:=Tryz.f231,ps:=[pa (.int .i64)],rs:=[rt (.int .i64)]}
noncomputable def iFpOf_c:List (Nat×Sig):=[(266,iRemainder_g)]
noncomputable def iFpOf_d:Int×Unit→Option ((Int×Unit)×Unit):=iFpOf_F.d V iFpOf_c
noncomputable abbrev iFpOf_g:Sig:=iFpOf_F.t.sig iFpOf_d
theorem iFpOf_b (x1:Int):iFpOf_d (x1,())=bnd (iRemainder_d (x1,(12107,()))) (fun r1=>(some ((r1.1.1,()),()))):=(FnD.eq V iFpOf_c iFpOf_F (x1,())).trans (by kernel_rfl)
theorem iFpOf_k:CallsOk Tryz.prog gls gvs 231 iFpOf_g:=FnD.ok (F:=iFpOf_F) (cs:=iFpOf_c) V_ok (kC iRemainder_k kN) Tryz.func231 (by decide) (by kernel_rfl)
noncomputable def iFpMul_F:FnD:={f:=230,fn:=Tryz.f230,ps:=[pa (.int .i64),pa (.int .i64)],rs:=[rt (.int .i64)]}
noncomputable def iFpMul_c:List (Nat×Sig):=[(231,iFpOf_g)]
noncomputable def iFpMul_d:Int×Int×Unit→Option ((Int×Unit)×Unit):=iFpMul_F.d V iFpMul_c
noncomputable abbrev iFpMul_g:Sig:=iFpMul_F.t.sig iFpMul_d
theorem iFpMul_b (x1:Int) (x2:Int):iFpMul_d (x1,(x2,()))=bnd (iFpOf_d (x1,())) (fun r2=>(bnd (iFpOf_d (x2,())) (fun r3=>(bnd (iFpOf_d ((imul .i64 r2.1.1 r3.1.1),())) (fun r4=>(some ((r4.1.1,()),()))))))):=(FnD.eq V iFpMul_c iFpMul_F (x1,(x2,()))).trans (by kernel_rfl)
theorem iFpMul_k:CallsOk Tryz.prog gls gvs 230 iFpMul_g:=FnD.ok (F:=iFpMul_F) (cs:=iFpMul_c) V_ok (kC iFpOf_k kN) Tryz.func230 (by decide) (by kernel_rfl)
noncomputable def iFpAdd_F:FnD:={f:=232,fn:=Tryz.f232,ps:=[pa (.int .i64),pa (.int .i64)],rs:=[rt (.int .i64)]}
noncomputable def iFpAdd_c:List (Nat×Sig):=[(231,iFpOf_g)]
noncomputable def iFpAdd_d:Int×Int×Unit→Option ((Int×Unit)×Unit):=iFpAdd_F.d V iFpAdd_c
noncomputable abbrev iFpAdd_g:Sig:=iFpAdd_F.t.sig iFpAdd_d
theorem iFpAdd_b (x1:Int) (x2:Int):iFpAdd_d (x1,(x2,()))=bnd (iFpOf_d (x1,())) (fun r2=>(bnd (iFpOf_d (x2,())) (fun r3=>(bnd (iFpOf_d ((iadd .i64 r2.1.1 r3.1.1),())) (fun r4=>(some ((r4.1.1,()),()))))))):=(FnD.eq V iFpAdd_c iFpAdd_F (x1,(x2,()))).trans (by kernel_rfl)
theorem iFpAdd_k:CallsOk Tryz.prog gls gvs 232 iFpAdd_g:=FnD.ok (F:=iFpAdd_F) (cs:=iFpAdd_c) V_ok (kC iFpOf_k kN) Tryz.func232 (by decide) (by kernel_rfl)
noncomputable def iCurveAt_F:FnD:={f:=184,fn:=Tryz.f184,ps:=[pa (.int .i64)],rs:=[rt (.int .i64)]}
noncomputable def iCurveAt_c:List (Nat×Sig):=[(230,iFpMul_g),(232,iFpAdd_g)]
noncomputable def iCurveAt_d:Int×Unit→Option ((Int×Unit)×Unit):=iCurveAt_F.d V iCurveAt_c
noncomputable abbrev iCurveAt_g:Sig:=iCurveAt_F.t.sig iCurveAt_d
theorem iCurveAt_b (x1:Int):iCurveAt_d (x1,())=bnd (iFpMul_d (x1,(x1,()))) (fun r1=>(bnd (iFpMul_d (r1.1.1,(x1,()))) (fun r2=>(bnd (iFpAdd_d (r2.1.1,(x1,()))) (fun r3=>(some ((r3.1.1,()),()))))))):=(FnD.eq V iCurveAt_c iCurveAt_F (x1,())).trans (by kernel_rfl)
theorem iCurveAt_k:CallsOk Tryz.prog gls gvs 184 iCurveAt_g:=FnD.ok (F:=iCurveAt_F) (cs:=iCurveAt_c) V_ok (kC iFpMul_k (kC iFpAdd_k kN)) Tryz.func184 (by decide) (by kernel_rfl)
noncomputable def iPowerMod_F:FnD:={f:=229,fn:=Tryz.f229,ps:=[pa (.int .i64),pa (.int .i64),pa (.int .i64)],rs:=[rt (.int .i64)],joins:=[6],cuts:=[(6,[.val 0 (.int .i64) .sh, .val 1 (.int .i64) .sh, .val 2 (.int .i64) .sh, .val 7 (.int .i64) .sh]),(3,[.val 0 (.int .i64) .sh, .val 1 (.int .i64) .sh, .val 2 (.int .i64) .sh, .val 7 (.int .i64) .sh])]}
noncomputable def iPowerMod_c:List (Nat×Sig):=[(266,iRemainder_g)]
noncomputable def iPowerMod_d:Int×Int×Int×Unit→Option ((Int×Unit)×Unit):=iPowerMod_F.d V iPowerMod_c
noncomputable abbrev iPowerMod_g:Sig:=iPowerMod_F.t.sig iPowerMod_d
noncomputable def iPowerMod_D6:Int×Int×Int×Int×Unit→Option ((Int×Unit)×Unit):=iPowerMod_F.D V iPowerMod_c 6
noncomputable def iPowerMod_D3:Int×Int×Int×Int×Unit→Option ((Int×Unit)×Unit):=iPowerMod_F.D V iPowerMod_c 3
theorem iPowerMod_b (x1:Int) (x2:Int) (x3:Int):iPowerMod_d (x1,(x2,(x3,())))=bnd (iRemainder_d (x1,(x3,()))) (fun r3=>(iPowerMod_D3 (r3.1.1,(x2,(x3,(1,())))))):=(FnD.eq V iPowerMod_c iPowerMod_F (x1,(x2,(x3,())))).trans (by kernel_rfl)
theorem iPowerMod_q6 (x1:Int) (x2:Int) (x3:Int) (x4:Int):iPowerMod_D6 (x1,(x2,(x3,(x4,()))))=cnd (nz x3) (cnd (nz 2) (iPowerMod_D3 ((irem (imul .i64 x1 x1) x3),((iquo .i64 x2 2),(x3,(x4,()))))) none) none:=(FnD.eqC V iPowerMod_c iPowerMod_F 6 (x1,(x2,(x3,(x4,()))))).trans (by kernel_rfl)
theorem iPowerMod_q3 (x1:Int) (x2:Int) (x3:Int) (x4:Int):iPowerMod_D3 (x1,(x2,(x3,(x4,()))))=cnd (igt x2 0) (cnd (nz 2) (cnd (ieq (irem x2 2) 1) (cnd (nz x3) (iPowerMod_D6 (x1,(x2,(x3,((irem (imul .i64 x4 x1) x3),()))))) none) (iPowerMod_D6 (x1,(x2,(x3,(x4,())))))) none) (some ((x4,()),())):=(FnD.eqC V iPowerMod_c iPowerMod_F 3 (x1,(x2,(x3,(x4,()))))).trans (by kernel_rfl)
theorem iPowerMod_k:CallsOk Tryz.prog gls gvs 229 iPowerMod_g:=FnD.ok (F:=iPowerMod_F) (cs:=iPowerMod_c) V_ok (kC iRemainder_k kN) Tryz.func229 (by decide) (by kernel_rfl)
noncomputable def iFpRoot_F:FnD:={f:=183,fn:=Tryz.f183,ps:=[pa (.int .i64)],rs:=[rt (.int .i64),rt .bool]}
noncomputable def iFpRoot_c:List (Nat×Sig):=[(229,iPowerMod_g),(230,iFpMul_g),(231,iFpOf_g)]
noncomputable def iFpRoot_d:Int×Unit→Option ((Int×Bool×Unit)×Unit):=iFpRoot_F.d V iFpRoot_c
noncomputable abbrev iFpRoot_g:Sig:=iFpRoot_F.t.sig iFpRoot_d
theorem iFpRoot_b (x1:Int):iFpRoot_d (x1,())=bnd (iPowerMod_d (x1,(3027,(12107,())))) (fun r1=>(bnd (iFpMul_d (r1.1.1,(r1.1.1,()))) (fun r2=>(bnd (iFpOf_d (x1,())) (fun r3=>(cnd (ine r2.1.1 r3.1.1) (some ((0,(false,())),())) (bnd (iFpOf_d ((ineg .i64 r1.1.1),())) (fun r4=>(some (((imin r1.1.1 r4.1.1),(true,())),())))))))))):=(FnD.eq V iFpRoot_c iFpRoot_F (x1,())).trans (by kernel_rfl)
theorem iFpRoot_k:CallsOk Tryz.prog gls gvs 183 iFpRoot_g:=FnD.ok (F:=iFpRoot_F) (cs:=iFpRoot_c) V_ok (kC iPowerMod_k (kC iFpMul_k (kC iFpOf_k kN))) Tryz.func183 (by decide) (by kernel_rfl)
noncomputable def iFpSub_F:FnD:={f:=233,fn:=Tryz.f233,ps:=[pa (.int .i64),pa (.int .i64)],rs:=[rt (.int .i64)]}
noncomputable def iFpSub_c:List (Nat×Sig):=[(231,iFpOf_g)]
noncomputable def iFpSub_d:Int×Int×Unit→Option ((Int×Unit)×Unit):=iFpSub_F.d V iFpSub_c
noncomputable abbrev iFpSub_g:Sig:=iFpSub_F.t.sig iFpSub_d
theorem iFpSub_b (x1:Int) (x2:Int):iFpSub_d (x1,(x2,()))=bnd (iFpOf_d (x1,())) (fun r2=>(bnd (iFpOf_d (x2,())) (fun r3=>(bnd (iFpOf_d ((isub .i64 r2.1.1 r3.1.1),())) (fun r4=>(some ((r4.1.1,()),()))))))):=(FnD.eq V iFpSub_c iFpSub_F (x1,(x2,()))).trans (by kernel_rfl)
theorem iFpSub_k:CallsOk Tryz.prog gls gvs 233 iFpSub_g:=FnD.ok (F:=iFpSub_F) (cs:=iFpSub_c) V_ok (kC iFpOf_k kN) Tryz.func233 (by decide) (by kernel_rfl)
noncomputable def iPointNeg_F:FnD:={f:=185,fn:=Tryz.f185,ps:=[pa TPoint],rs:=[rt TPoint]}
noncomputable def iPointNeg_c:List (Nat×Sig):=[(233,iFpSub_g)]
noncomputable def iPointNeg_d:tPoint×Unit→Option ((tPoint×Unit)×Unit):=iPointNeg_F.d V iPointNeg_c
noncomputable abbrev iPointNeg_g:Sig:=iPointNeg_F.t.sig iPointNeg_d
theorem iPointNeg_b (x1:tPoint):iPointNeg_d (x1,())=cnd x1.2.2.1 (some (((0,(0,(true,()))),()),())) (bnd (iFpSub_d (0,(x1.2.1,()))) (fun r1=>(some (((x1.1,(r1.1.1,(false,()))),()),())))):=(FnD.eq V iPointNeg_c iPointNeg_F (x1,())).trans (by kernel_rfl)
theorem iPointNeg_k:CallsOk Tryz.prog gls gvs 185 iPointNeg_g:=FnD.ok (F:=iPointNeg_F) (cs:=iPointNeg_c) V_ok (kC iFpSub_k kN) Tryz.func185 (by decide) (by kernel_rfl)
noncomputable def iFpOk_F:FnD:={f:=267,fn:=Tryz.f267,ps:=[pa (.int .i64)],rs:=[rt .bool]}
noncomputable def iFpOk_c:List (Nat×Sig):=[]
noncomputable def iFpOk_d:Int×Unit→Option ((Bool×Unit)×Unit):=iFpOk_F.d V iFpOk_c
noncomputable abbrev iFpOk_g:Sig:=iFpOk_F.t.sig iFpOk_d
theorem iFpOk_b (x1:Int):iFpOk_d (x1,())=cnd (ige x1 0) (some (((ilt x1 12107),()),())) (some ((false,()),())):=(FnD.eq V iFpOk_c iFpOk_F (x1,())).trans (by kernel_rfl)
theorem iFpOk_k:CallsOk Tryz.prog gls gvs 267 iFpOk_g:=FnD.ok (F:=iFpOk_F) (cs:=iFpOk_c) V_ok kN Tryz.func267 (by decide) (by kernel_rfl)
noncomputable def iPointOk_F:FnD:={f:=234,fn:=Tryz.f234,ps:=[pa TPoint],rs:=[rt .bool]}
noncomputable def iPointOk_c:List (Nat×Sig):=[(267,iFpOk_g),(230,iFpMul_g),(184,iCurveAt_g)]
noncomputable def iPointOk_d:tPoint×Unit→Option ((Bool×Unit)×Unit):=iPointOk_F.d V iPointOk_c
noncomputable abbrev iPointOk_g:Sig:=iPointOk_F.t.sig iPointOk_d
theorem iPointOk_b (x1:tPoint):iPointOk_d (x1,())=cnd x1.2.2.1 (cnd (ieq x1.1 0) (some (((ieq x1.2.1 0),()),())) (some ((false,()),()))) (bnd (iFpOk_d (x1.1,())) (fun r1=>(cnd r1.1.1 (bnd (iFpOk_d (x1.2.1,())) (fun r2=>(cnd r2.1.1 (bnd (iFpMul_d (x1.2.1,(x1.2.1,()))) (fun r3=>(bnd (iCurveAt_d (x1.1,())) (fun r4=>(some (((ieq r3.1.1 r4.1.1),()),())))))) (some ((false,()),()))))) (some ((false,()),()))))):=(FnD.eq V iPointOk_c iPointOk_F (x1,())).trans (by kernel_rfl)
theorem iPointOk_k:CallsOk Tryz.prog gls gvs 234 iPointOk_g:=FnD.ok (F:=iPointOk_F) (cs:=iPointOk_c) V_ok (kC iFpOk_k (kC iFpMul_k (kC iCurveAt_k kN))) Tryz.func234 (by decide) (by kernel_rfl)
noncomputable def iPointText_F:FnD:={f:=186,fn:=Tryz.f186,ps:=[pa TPoint],rs:=[rt .str]}
noncomputable def iPointText_c:List (Nat×Sig):=[(234,iPointOk_g)]
noncomputable def iPointText_d:tPoint×Unit→Option ((ByteArray×Unit)×Unit):=iPointText_F.d V iPointText_c
noncomputable abbrev iPointText_g:Sig:=iPointText_F.t.sig iPointText_d
theorem iPointText_b (x1:tPoint):iPointText_d (x1,())=bnd (iPointOk_d (x1,())) (fun r1=>(cnd (bnot r1.1.1) (some (((bs []),()),())) (cnd x1.2.2.1 (some (((bs [0,0,0]),()),())) (cnd (nn 8) (cnd (nz 2) (some (((sof ((iconv .u8 (ishr .i64 (iadd .i64 x1.1 1) 8))::((iconv .u8 (iadd .i64 x1.1 1))::((iconv .u8 (irem x1.2.1 2))::([]:List Int))))),()),())) none) none)))):=(FnD.eq V iPointText_c iPointText_F (x1,())).trans (by kernel_rfl)
theorem iPointText_k:CallsOk Tryz.prog gls gvs 186 iPointText_g:=FnD.ok (F:=iPointText_F) (cs:=iPointText_c) V_ok (kC iPointOk_k kN) Tryz.func186 (by decide) (by kernel_rfl)
noncomputable def iReadPoint_F:FnD:={f:=123,fn:=Tryz.f123,ps:=[pa .str],rs:=[rt TPoint,rt .bool],joins:=[9],cuts:=[(9,[.val 0 .str .sh, .box 2 TPoint .sh, .box 4 TPoint .sh, .ptr 2 2 0, .ptr 4 4 0])]}
noncomputable def iReadPoint_c:List (Nat×Sig):=[(184,iCurveAt_g),(183,iFpRoot_g),(185,iPointNeg_g),(186,iPointText_g)]
noncomputable def iReadPoint_d:ByteArray×Unit→Option ((tPoint×Bool×Unit)×Unit):=iReadPoint_F.d V iReadPoint_c
noncomputable abbrev iReadPoint_g:Sig:=iReadPoint_F.t.sig iReadPoint_d
noncomputable def iReadPoint_D9:ByteArray×tPoint×tPoint×Unit→Option ((tPoint×Bool×Unit)×Unit):=iReadPoint_F.D V iReadPoint_c 9
theorem iReadPoint_b (x1:ByteArray):iReadPoint_d (x1,())=cnd (ine (ssz x1) 3) (some ((zPoint,(false,())),())) (cnd (inb 0 (ssz x1)) (cnd (nn 8) (cnd (inb 1 (ssz x1)) (cnd (ilt (isub .i64 (iadd .i64 (ishl .i64 (iconv .i64 (sat x1 0)) 8) (iconv .i64 (sat x1 1))) 1) 0) (iReadPoint_D9 (x1,(zPoint,((0,(0,(true,()))),())))) (bnd (iCurveAt_d ((isub .i64 (iadd .i64 (ishl .i64 (iconv .i64 (sat x1 0)) 8) (iconv .i64 (sat x1 1))) 1),())) (fun r1=>(bnd (iFpRoot_d (r1.1.1,())) (fun r2=>(cnd (nz 2) (cnd (inb 2 (ssz x1)) (cnd (ine (irem r2.1.1 2) (iconv .i64 (sat x1 2))) (bnd (iPointNeg_d (((isub .i64 (iadd .i64 (ishl .i64 (iconv .i64 (sat x1 0)) 8) (iconv .i64 (sat x1 1))) 1),(r2.1.1,(false,()))),())) (fun r3=>(iReadPoint_D9 (x1,(zPoint,(r3.1.1,())))))) (iReadPoint_D9 (x1,(zPoint,(((isub .i64 (iadd .i64 (ishl .i64 (iconv .i64 (sat x1 0)) 8) (iconv .i64 (sat x1 1))) 1),(r2.1.1,(false,()))),()))))) none) none)))))) none) none) none):=(FnD.eq V iReadPoint_c iReadPoint_F (x1,())).trans (by kernel_rfl)
theorem iReadPoint_q9 (x1:ByteArray) (x2:tPoint) (x3:tPoint):iReadPoint_D9 (x1,(x2,(x3,())))=bnd (iPointText_d (x3,())) (fun r3=>(cnd (sne r3.1.1 x1) (some ((zPoint,(false,())),())) (some ((x3,(true,())),())))):=(FnD.eqC V iReadPoint_c iReadPoint_F 9 (x1,(x2,(x3,())))).trans (by kernel_rfl)
theorem iReadPoint_k:CallsOk Tryz.prog gls gvs 123 iReadPoint_g:=FnD.ok (F:=iReadPoint_F) (cs:=iReadPoint_c) V_ok (kC iCurveAt_k (kC iFpRoot_k (kC iPointNeg_k (kC iPointText_k kN)))) Tryz.func123 (by decide) (by kernel_rfl)
noncomputable def iFpInv_F:FnD:={f:=304,fn:=Tryz.f304,ps:=[pa (.int .i64)],rs:=[rt (.int .i64)]}
noncomputable def iFpInv_c:List (Nat×Sig):=[(229,iPowerMod_g)]
noncomputable def iFpInv_d:Int×Unit→Option ((Int×Unit)×Unit):=iFpInv_F.d V iFpInv_c
noncomputable abbrev iFpInv_g:Sig:=iFpInv_F.t.sig iFpInv_d
theorem iFpInv_b (x1:Int):iFpInv_d (x1,())=bnd (iPowerMod_d (x1,(12105,(12107,())))) (fun r1=>(some ((r1.1.1,()),()))):=(FnD.eq V iFpInv_c iFpInv_F (x1,())).trans (by kernel_rfl)
theorem iFpInv_k:CallsOk Tryz.prog gls gvs 304 iFpInv_g:=FnD.ok (F:=iFpInv_F) (cs:=iFpInv_c) V_ok (kC iPowerMod_k kN) Tryz.func304 (by decide) (by kernel_rfl)
noncomputable def iSlopeOf_F:FnD:={f:=298,fn:=Tryz.f298,ps:=[pa TPoint,pa TPoint],rs:=[rt (.int .i64),rt .bool]}
noncomputable def iSlopeOf_c:List (Nat×Sig):=[(233,iFpSub_g),(304,iFpInv_g),(230,iFpMul_g),(232,iFpAdd_g)]
noncomputable def iSlopeOf_d:tPoint×tPoint×Unit→Option ((Int×Bool×Unit)×Unit):=iSlopeOf_F.d V iSlopeOf_c
noncomputable abbrev iSlopeOf_g:Sig:=iSlopeOf_F.t.sig iSlopeOf_d
theorem iSlopeOf_b (x1:tPoint) (x2:tPoint):iSlopeOf_d (x1,(x2,()))=cnd (ine x1.1 x2.1) (bnd (iFpSub_d (x2.2.1,(x1.2.1,()))) (fun r2=>(bnd (iFpSub_d (x2.1,(x1.1,()))) (fun r3=>(bnd (iFpInv_d (r3.1.1,())) (fun r4=>(bnd (iFpMul_d (r2.1.1,(r4.1.1,()))) (fun r5=>(some ((r5.1.1,(true,())),())))))))))) (cnd (ine x1.2.1 x2.2.1) (some ((0,(false,())),())) (cnd (ieq x1.2.1 0) (some ((0,(false,())),())) (bnd (iFpMul_d (x1.1,(x1.1,()))) (fun r2=>(bnd (iFpMul_d (3,(r2.1.1,()))) (fun r3=>(bnd (iFpAdd_d (r3.1.1,(1,()))) (fun r4=>(bnd (iFpMul_d (2,(x1.2.1,()))) (fun r5=>(bnd (iFpInv_d (r5.1.1,())) (fun r6=>(bnd (iFpMul_d (r4.1.1,(r6.1.1,()))) (fun r7=>(some ((r7.1.1,(true,())),())))))))))))))))):=(FnD.eq V iSlopeOf_c iSlopeOf_F (x1,(x2,()))).trans (by kernel_rfl)
theorem iSlopeOf_k:CallsOk Tryz.prog gls gvs 298 iSlopeOf_g:=FnD.ok (F:=iSlopeOf_F) (cs:=iSlopeOf_c) V_ok (kC iFpSub_k (kC iFpInv_k (kC iFpMul_k (kC iFpAdd_k kN)))) Tryz.func298 (by decide) (by kernel_rfl)
noncomputable def iAdd_F:FnD:={f:=268,fn:=Tryz.f268,ps:=[pa TPoint,pa TPoint],rs:=[rt TPoint]}
noncomputable def iAdd_c:List (Nat×Sig):=[(298,iSlopeOf_g),(230,iFpMul_g),(233,iFpSub_g)]
noncomputable def iAdd_d:tPoint×tPoint×Unit→Option ((tPoint×Unit)×Unit):=iAdd_F.d V iAdd_c
noncomputable abbrev iAdd_g:Sig:=iAdd_F.t.sig iAdd_d
theorem iAdd_b (x1:tPoint) (x2:tPoint):iAdd_d (x1,(x2,()))=cnd x1.2.2.1 (some ((x2,()),())) (cnd x2.2.2.1 (some ((x1,()),())) (bnd (iSlopeOf_d (x1,(x2,()))) (fun r2=>(cnd (bnot r2.1.2.1) (some (((0,(0,(true,()))),()),())) (bnd (iFpMul_d (r2.1.1,(r2.1.1,()))) (fun r3=>(bnd (iFpSub_d (r3.1.1,(x1.1,()))) (fun r4=>(bnd (iFpSub_d (r4.1.1,(x2.1,()))) (fun r5=>(bnd (iFpSub_d (x1.1,(r5.1.1,()))) (fun r6=>(bnd (iFpMul_d (r2.1.1,(r6.1.1,()))) (fun r7=>(bnd (iFpSub_d (r7.1.1,(x1.2.1,()))) (fun r8=>(some (((r5.1.1,(r8.1.1,(false,()))),()),())))))))))))))))))):=(FnD.eq V iAdd_c iAdd_F (x1,(x2,()))).trans (by kernel_rfl)
theorem iAdd_k:CallsOk Tryz.prog gls gvs 268 iAdd_g:=FnD.ok (F:=iAdd_F) (cs:=iAdd_c) V_ok (kC iSlopeOf_k (kC iFpMul_k (kC iFpSub_k kN))) Tryz.func268 (by decide) (by kernel_rfl)
end Go.Proofs.YtonggnnjobapcaaGreatDoor
