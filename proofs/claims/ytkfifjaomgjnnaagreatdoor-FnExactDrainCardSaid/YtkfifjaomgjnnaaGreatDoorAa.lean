/- What the functions come to: printed by program. Of no condition. -/
import Derived.Test.YtkfifjaomgjnnaaGreatDoorX0
set_option linter.unusedVariables false
set_option maxRecDepth 100000
namespace Go.Proofs.YtkfifjaomgjnnaaGreatDoor
open Go.TV
noncomputable def wSzHead_F:FnD:={f:=28,fn:=Tryz.f28,ps:=[pa THead,pa (.int .i64)],rs:=[rt (.int .i64)]}
noncomputable def wSzHead_c:List (Nat×Sig):=[]
noncomputable def wSzHead_d:tHead×Int×Unit→Option ((Int×Unit)×Unit):=wSzHead_F.d V wSzHead_c
noncomputable abbrev wSzHead_g:Sig:=wSzHead_F.t.sig wSzHead_d
theorem wSzHead_b (x1:tHead) (x2:Int):wSzHead_d (x1,(x2,()))=cnd (ilt (isub .i64 x2 (ssz x1.2.1)) 0) (some (((-1),()),())) (cnd (ilt (isub .i64 (isub .i64 x2 (ssz x1.2.1)) (ssz x1.2.2.1)) 0) (some (((-1),()),())) (cnd (ilt (isub .i64 (isub .i64 (isub .i64 x2 (ssz x1.2.1)) (ssz x1.2.2.1)) (ssz x1.2.2.2.1)) 0) (some (((-1),()),())) (some (((isub .i64 (isub .i64 (isub .i64 x2 (ssz x1.2.1)) (ssz x1.2.2.1)) (ssz x1.2.2.2.1)),()),())))):=(FnD.eq V wSzHead_c wSzHead_F (x1,(x2,()))).trans (by kernel_rfl)
theorem wSzHead_k:CallsOk Tryz.prog gls gvs 28 wSzHead_g:=FnD.ok (F:=wSzHead_F) (cs:=wSzHead_c) V_ok kN Tryz.func28 (by decide) (by kernel_rfl)
noncomputable def wSzPointS_F:FnD:={f:=62,fn:=Tryz.f62,ps:=[pa (.sl TPoint),pa (.int .i64)],rs:=[rt (.int .i64)]}
noncomputable def wSzPointS_c:List (Nat×Sig):=[]
noncomputable def wSzPointS_d:(List tPoint)×Int×Unit→Option ((Int×Unit)×Unit):=wSzPointS_F.d V wSzPointS_c
noncomputable abbrev wSzPointS_g:Sig:=wSzPointS_F.t.sig wSzPointS_d
theorem wSzPointS_b (x1:(List tPoint)) (x2:Int):wSzPointS_d (x1,(x2,()))=cnd (ilt (isub .i64 x2 (len x1)) 0) (some (((-1),()),())) (some (((isub .i64 x2 (len x1)),()),())):=(FnD.eq V wSzPointS_c wSzPointS_F (x1,(x2,()))).trans (by kernel_rfl)
theorem wSzPointS_k:CallsOk Tryz.prog gls gvs 62 wSzPointS_g:=FnD.ok (F:=wSzPointS_F) (cs:=wSzPointS_c) V_ok kN Tryz.func62 (by decide) (by kernel_rfl)
noncomputable def wSzCommittee_F:FnD:={f:=29,fn:=Tryz.f29,ps:=[pa TCommittee,pa (.int .i64)],rs:=[rt (.int .i64)]}
noncomputable def wSzCommittee_c:List (Nat×Sig):=[(62,wSzPointS_g)]
noncomputable def wSzCommittee_d:tCommittee×Int×Unit→Option ((Int×Unit)×Unit):=wSzCommittee_F.d V wSzCommittee_c
noncomputable abbrev wSzCommittee_g:Sig:=wSzCommittee_F.t.sig wSzCommittee_d
theorem wSzCommittee_b (x1:tCommittee) (x2:Int):wSzCommittee_d (x1,(x2,()))=bnd (wSzPointS_d (x1.1,(x2,()))) (fun r2=>(cnd (ilt r2.1.1 0) (some (((-1),()),())) (some ((r2.1.1,()),())))):=(FnD.eq V wSzCommittee_c wSzCommittee_F (x1,(x2,()))).trans (by kernel_rfl)
theorem wSzCommittee_k:CallsOk Tryz.prog gls gvs 29 wSzCommittee_g:=FnD.ok (F:=wSzCommittee_F) (cs:=wSzCommittee_c) V_ok (kC wSzPointS_k kN) Tryz.func29 (by decide) (by kernel_rfl)
noncomputable def wSzKeys_F:FnD:={f:=30,fn:=Tryz.f30,ps:=[pa TKeys,pa (.int .i64)],rs:=[rt (.int .i64)]}
noncomputable def wSzKeys_c:List (Nat×Sig):=[(62,wSzPointS_g)]
noncomputable def wSzKeys_d:tKeys×Int×Unit→Option ((Int×Unit)×Unit):=wSzKeys_F.d V wSzKeys_c
noncomputable abbrev wSzKeys_g:Sig:=wSzKeys_F.t.sig wSzKeys_d
theorem wSzKeys_b (x1:tKeys) (x2:Int):wSzKeys_d (x1,(x2,()))=bnd (wSzPointS_d (x1.2.2.2.2.1,(x2,()))) (fun r2=>(cnd (ilt r2.1.1 0) (some (((-1),()),())) (some ((r2.1.1,()),())))):=(FnD.eq V wSzKeys_c wSzKeys_F (x1,(x2,()))).trans (by kernel_rfl)
theorem wSzKeys_k:CallsOk Tryz.prog gls gvs 30 wSzKeys_g:=FnD.ok (F:=wSzKeys_F) (cs:=wSzKeys_c) V_ok (kC wSzPointS_k kN) Tryz.func30 (by decide) (by kernel_rfl)
noncomputable def wSzClient_F:FnD:={f:=11,fn:=Tryz.f11,ps:=[pa TClient,pa (.int .i64)],rs:=[rt (.int .i64)]}
noncomputable def wSzClient_c:List (Nat×Sig):=[(28,wSzHead_g),(29,wSzCommittee_g),(30,wSzKeys_g)]
noncomputable def wSzClient_d:tClient×Int×Unit→Option ((Int×Unit)×Unit):=wSzClient_F.d V wSzClient_c
noncomputable abbrev wSzClient_g:Sig:=wSzClient_F.t.sig wSzClient_d
theorem wSzClient_b (x1:tClient) (x2:Int):wSzClient_d (x1,(x2,()))=bnd (wSzHead_d (x1.1,(x2,()))) (fun r2=>(cnd (ilt r2.1.1 0) (some (((-1),()),())) (bnd (wSzCommittee_d (x1.2.1,(r2.1.1,()))) (fun r3=>(cnd (ilt r3.1.1 0) (some (((-1),()),())) (bnd (wSzCommittee_d (x1.2.2.1,(r3.1.1,()))) (fun r4=>(cnd (ilt r4.1.1 0) (some (((-1),()),())) (bnd (wSzKeys_d (x1.2.2.2.2.1,(r4.1.1,()))) (fun r5=>(cnd (ilt r5.1.1 0) (some (((-1),()),())) (some ((r5.1.1,()),()))))))))))))):=(FnD.eq V wSzClient_c wSzClient_F (x1,(x2,()))).trans (by kernel_rfl)
theorem wSzClient_k:CallsOk Tryz.prog gls gvs 11 wSzClient_g:=FnD.ok (F:=wSzClient_F) (cs:=wSzClient_c) V_ok (kC wSzHead_k (kC wSzCommittee_k (kC wSzKeys_k kN))) Tryz.func11 (by decide) (by kernel_rfl)
noncomputable def wSzStringS_F:FnD:={f:=12,fn:=Tryz.f12,ps:=[pa (.sl .str),pa (.int .i64)],rs:=[rt (.int .i64)],cuts:=[(5,[.val 0 (.sl .str) .sh, .val 1 (.int .i64) .sh, .val 5 (.int .i64) .sh])]}
noncomputable def wSzStringS_c:List (Nat×Sig):=[]
noncomputable def wSzStringS_d:(List ByteArray)×Int×Unit→Option ((Int×Unit)×Unit):=wSzStringS_F.d V wSzStringS_c
noncomputable abbrev wSzStringS_g:Sig:=wSzStringS_F.t.sig wSzStringS_d
noncomputable def wSzStringS_D5:(List ByteArray)×Int×Int×Unit→Option ((Int×Unit)×Unit):=wSzStringS_F.D V wSzStringS_c 5
theorem wSzStringS_b (x1:(List ByteArray)) (x2:Int):wSzStringS_d (x1,(x2,()))=cnd (ilt (isub .i64 x2 (len x1)) 0) (some (((-1),()),())) (wSzStringS_D5 (x1,((isub .i64 x2 (len x1)),(0,())))):=(FnD.eq V wSzStringS_c wSzStringS_F (x1,(x2,()))).trans (by kernel_rfl)
theorem wSzStringS_q5 (x1:(List ByteArray)) (x2:Int) (x3:Int):wSzStringS_D5 (x1,(x2,(x3,())))=cnd (ilt x3 (len x1)) (cnd (inb x3 (len x1)) (cnd (ilt (isub .i64 x2 (ssz (rd (bs []) x1 x3))) 0) (some (((-1),()),())) (wSzStringS_D5 (x1,((isub .i64 x2 (ssz (rd (bs []) x1 x3))),((iadd .i64 x3 1),()))))) none) (some ((x2,()),())):=(FnD.eqC V wSzStringS_c wSzStringS_F 5 (x1,(x2,(x3,())))).trans (by kernel_rfl)
theorem wSzStringS_k:CallsOk Tryz.prog gls gvs 12 wSzStringS_g:=FnD.ok (F:=wSzStringS_F) (cs:=wSzStringS_c) V_ok kN Tryz.func12 (by decide) (by kernel_rfl)
noncomputable def wSzBridge_F:FnD:={f:=4,fn:=Tryz.f4,ps:=[pa TBridge,pa (.int .i64)],rs:=[rt (.int .i64)]}
noncomputable def wSzBridge_c:List (Nat×Sig):=[(11,wSzClient_g),(12,wSzStringS_g)]
noncomputable def wSzBridge_d:tBridge×Int×Unit→Option ((Int×Unit)×Unit):=wSzBridge_F.d V wSzBridge_c
noncomputable abbrev wSzBridge_g:Sig:=wSzBridge_F.t.sig wSzBridge_d
theorem wSzBridge_b (x1:tBridge) (x2:Int):wSzBridge_d (x1,(x2,()))=bnd (wSzClient_d (x1.1,(x2,()))) (fun r2=>(cnd (ilt r2.1.1 0) (some (((-1),()),())) (bnd (wSzClient_d (x1.2.1,(r2.1.1,()))) (fun r3=>(cnd (ilt r3.1.1 0) (some (((-1),()),())) (cnd (ilt (isub .i64 r3.1.1 (ssz x1.2.2.1)) 0) (some (((-1),()),())) (bnd (wSzStringS_d (x1.2.2.2.2.1,((isub .i64 r3.1.1 (ssz x1.2.2.1)),()))) (fun r4=>(cnd (ilt r4.1.1 0) (some (((-1),()),())) (some ((r4.1.1,()),()))))))))))):=(FnD.eq V wSzBridge_c wSzBridge_F (x1,(x2,()))).trans (by kernel_rfl)
theorem wSzBridge_k:CallsOk Tryz.prog gls gvs 4 wSzBridge_g:=FnD.ok (F:=wSzBridge_F) (cs:=wSzBridge_c) V_ok (kC wSzClient_k (kC wSzStringS_k kN)) Tryz.func4 (by decide) (by kernel_rfl)
noncomputable def wToHead_F:FnD:={f:=35,fn:=Tryz.f35,ps:=[pa THead],rs:=[rt THead]}
noncomputable def wToHead_c:List (Nat×Sig):=[]
noncomputable def wToHead_d:tHead×Unit→Option ((tHead×Unit)×Unit):=wToHead_F.d V wToHead_c
noncomputable abbrev wToHead_g:Sig:=wToHead_F.t.sig wToHead_d
theorem wToHead_b (x1:tHead):wToHead_d (x1,())=some (((x1.1,(x1.2.1,(x1.2.2.1,(x1.2.2.2.1,())))),()),()):=(FnD.eq V wToHead_c wToHead_F (x1,())).trans (by kernel_rfl)
theorem wToHead_k:CallsOk Tryz.prog gls gvs 35 wToHead_g:=FnD.ok (F:=wToHead_F) (cs:=wToHead_c) V_ok kN Tryz.func35 (by decide) (by kernel_rfl)
noncomputable def wToPoint_F:FnD:={f:=77,fn:=Tryz.f77,ps:=[pa TPoint],rs:=[rt TPoint]}
noncomputable def wToPoint_c:List (Nat×Sig):=[]
noncomputable def wToPoint_d:tPoint×Unit→Option ((tPoint×Unit)×Unit):=wToPoint_F.d V wToPoint_c
noncomputable abbrev wToPoint_g:Sig:=wToPoint_F.t.sig wToPoint_d
theorem wToPoint_b (x1:tPoint):wToPoint_d (x1,())=some (((x1.1,(x1.2.1,(x1.2.2.1,()))),()),()):=(FnD.eq V wToPoint_c wToPoint_F (x1,())).trans (by kernel_rfl)
theorem wToPoint_k:CallsOk Tryz.prog gls gvs 77 wToPoint_g:=FnD.ok (F:=wToPoint_F) (cs:=wToPoint_c) V_ok kN Tryz.func77 (by decide) (by kernel_rfl)
noncomputable def wToPointS_F:FnD:={f:=76,fn:=Tryz.f76,ps:=[pa (.sl TPoint)],rs:=[⟨(.sl TPoint),(.own 0 .sh),false⟩],cuts:=[(3,[.val 0 (.sl TPoint) .sh, .val 3 (.sl TPoint) (.own 0 .sh), .val 4 (.int .i64) .sh])]}
noncomputable def wToPointS_c:List (Nat×Sig):=[(77,wToPoint_g)]
noncomputable def wToPointS_d:(List tPoint)×Unit→Option (((List tPoint)×Unit)×Unit):=wToPointS_F.d V wToPointS_c
noncomputable abbrev wToPointS_g:Sig:=wToPointS_F.t.sig wToPointS_d
noncomputable def wToPointS_D3:(List tPoint)× (List tPoint)×Int×Unit→Option (((List tPoint)×Unit)×Unit):=wToPointS_F.D V wToPointS_c 3
theorem wToPointS_b (x1:(List tPoint)):wToPointS_d (x1,())=cnd (both (inb2 0 (len x1) (len x1)) (fits (len x1) 3)) (wToPointS_D3 (x1,((rep (len x1) zPoint),(0,())))) none:=(FnD.eq V wToPointS_c wToPointS_F (x1,())).trans (by kernel_rfl)
theorem wToPointS_q3 (x1:(List tPoint)) (x2:(List tPoint)) (x3:Int):wToPointS_D3 (x1,(x2,(x3,())))=cnd (ilt x3 (len x1)) (cnd (inb x3 (len x1)) (bnd (wToPoint_d ((rd zPoint x1 x3),())) (fun r3=>(cnd (inb x3 (len x2)) (wToPointS_D3 (x1,((upd x2 x3 r3.1.1),((iadd .i64 x3 1),())))) none))) none) (some ((x2,()),())):=(FnD.eqC V wToPointS_c wToPointS_F 3 (x1,(x2,(x3,())))).trans (by kernel_rfl)
theorem wToPointS_k:CallsOk Tryz.prog gls gvs 76 wToPointS_g:=FnD.ok (F:=wToPointS_F) (cs:=wToPointS_c) V_ok (kC wToPoint_k kN) Tryz.func76 (by decide) (by kernel_rfl)
noncomputable def wToCommittee_F:FnD:={f:=36,fn:=Tryz.f36,ps:=[pa TCommittee],rs:=[⟨TCommittee,(.pr (.own 0 .sh) .sh),false⟩]}
noncomputable def wToCommittee_c:List (Nat×Sig):=[(76,wToPointS_g)]
noncomputable def wToCommittee_d:tCommittee×Unit→Option ((tCommittee×Unit)×Unit):=wToCommittee_F.d V wToCommittee_c
noncomputable abbrev wToCommittee_g:Sig:=wToCommittee_F.t.sig wToCommittee_d
theorem wToCommittee_b (x1:tCommittee):wToCommittee_d (x1,())=bnd (wToPointS_d (x1.1,())) (fun r1=>(some (((r1.1.1,()),()),()))):=(FnD.eq V wToCommittee_c wToCommittee_F (x1,())).trans (by kernel_rfl)
theorem wToCommittee_k:CallsOk Tryz.prog gls gvs 36 wToCommittee_g:=FnD.ok (F:=wToCommittee_F) (cs:=wToCommittee_c) V_ok (kC wToPointS_k kN) Tryz.func36 (by decide) (by kernel_rfl)
noncomputable def wToKeys_F:FnD:={f:=37,fn:=Tryz.f37,ps:=[pa TKeys],rs:=[⟨TKeys,(.pr .sh (.pr .sh (.pr .sh (.pr .sh (.pr (.own 0 .sh) .sh))))),false⟩]}
noncomputable def wToKeys_c:List (Nat×Sig):=[(77,wToPoint_g),(76,wToPointS_g)]
noncomputable def wToKeys_d:tKeys×Unit→Option ((tKeys×Unit)×Unit):=wToKeys_F.d V wToKeys_c
noncomputable abbrev wToKeys_g:Sig:=wToKeys_F.t.sig wToKeys_d
theorem wToKeys_b (x1:tKeys):wToKeys_d (x1,())=bnd (wToPoint_d (x1.1,())) (fun r1=>(bnd (wToPoint_d (x1.2.1,())) (fun r2=>(bnd (wToPoint_d (x1.2.2.1,())) (fun r3=>(bnd (wToPoint_d (x1.2.2.2.1,())) (fun r4=>(bnd (wToPointS_d (x1.2.2.2.2.1,())) (fun r5=>(some (((r1.1.1,(r2.1.1,(r3.1.1,(r4.1.1,(r5.1.1,()))))),()),()))))))))))):=(FnD.eq V wToKeys_c wToKeys_F (x1,())).trans (by kernel_rfl)
theorem wToKeys_k:CallsOk Tryz.prog gls gvs 37 wToKeys_g:=FnD.ok (F:=wToKeys_F) (cs:=wToKeys_c) V_ok (kC wToPoint_k (kC wToPointS_k kN)) Tryz.func37 (by decide) (by kernel_rfl)
noncomputable def wToClient_F:FnD:={f:=15,fn:=Tryz.f15,ps:=[pa TClient],rs:=[⟨TClient,(.pr .sh (.pr (.pr (.own 0 .sh) .sh) (.pr (.pr (.own 0 .sh) .sh) (.pr .sh (.pr (.pr .sh (.pr .sh (.pr .sh (.pr .sh (.pr (.own 0 .sh) .sh))))) .sh))))),false⟩]}
noncomputable def wToClient_c:List (Nat×Sig):=[(35,wToHead_g),(36,wToCommittee_g),(37,wToKeys_g)]
noncomputable def wToClient_d:tClient×Unit→Option ((tClient×Unit)×Unit):=wToClient_F.d V wToClient_c
noncomputable abbrev wToClient_g:Sig:=wToClient_F.t.sig wToClient_d
theorem wToClient_b (x1:tClient):wToClient_d (x1,())=bnd (wToHead_d (x1.1,())) (fun r1=>(bnd (wToCommittee_d (x1.2.1,())) (fun r2=>(bnd (wToCommittee_d (x1.2.2.1,())) (fun r3=>(bnd (wToKeys_d (x1.2.2.2.2.1,())) (fun r4=>(some (((r1.1.1,(r2.1.1,(r3.1.1,(x1.2.2.2.1,(r4.1.1,()))))),()),()))))))))):=(FnD.eq V wToClient_c wToClient_F (x1,())).trans (by kernel_rfl)
theorem wToClient_k:CallsOk Tryz.prog gls gvs 15 wToClient_g:=FnD.ok (F:=wToClient_F) (cs:=wToClient_c) V_ok (kC wToHead_k (kC wToCommittee_k (kC wToKeys_k kN))) Tryz.func15 (by decide) (by kernel_rfl)
noncomputable def wToStringS_F:FnD:={f:=16,fn:=Tryz.f16,ps:=[pa (.sl .str)],rs:=[⟨(.sl .str),(.own 0 .sh),false⟩],cuts:=[(3,[.val 0 (.sl .str) .sh, .val 3 (.sl .str) (.own 0 .sh), .val 4 (.int .i64) .sh])]}
noncomputable def wToStringS_c:List (Nat×Sig):=[]
noncomputable def wToStringS_d:(List ByteArray)×Unit→Option (((List ByteArray)×Unit)×Unit):=wToStringS_F.d V wToStringS_c
noncomputable abbrev wToStringS_g:Sig:=wToStringS_F.t.sig wToStringS_d
noncomputable def wToStringS_D3:(List ByteArray)× (List ByteArray)×Int×Unit→Option (((List ByteArray)×Unit)×Unit):=wToStringS_F.D V wToStringS_c 3
theorem wToStringS_b (x1:(List ByteArray)):wToStringS_d (x1,())=cnd (both (inb2 0 (len x1) (len x1)) (fits (len x1) 1)) (wToStringS_D3 (x1,((rep (len x1) (bs [])),(0,())))) none:=(FnD.eq V wToStringS_c wToStringS_F (x1,())).trans (by kernel_rfl)
theorem wToStringS_q3 (x1:(List ByteArray)) (x2:(List ByteArray)) (x3:Int):wToStringS_D3 (x1,(x2,(x3,())))=cnd (ilt x3 (len x1)) (cnd (inb x3 (len x1)) (cnd (inb x3 (len x2)) (wToStringS_D3 (x1,((upd x2 x3 (rd (bs []) x1 x3)),((iadd .i64 x3 1),())))) none) none) (some ((x2,()),())):=(FnD.eqC V wToStringS_c wToStringS_F 3 (x1,(x2,(x3,())))).trans (by kernel_rfl)
theorem wToStringS_k:CallsOk Tryz.prog gls gvs 16 wToStringS_g:=FnD.ok (F:=wToStringS_F) (cs:=wToStringS_c) V_ok kN Tryz.func16 (by decide) (by kernel_rfl)
noncomputable def wToBridge_F:FnD:={f:=6,fn:=Tryz.f6,ps:=[pa TBridge],rs:=[⟨TBridge,(.pr (.pr .sh (.pr (.pr (.own 0 .sh) .sh) (.pr (.pr (.own 0 .sh) .sh) (.pr .sh (.pr (.pr .sh (.pr .sh (.pr .sh (.pr .sh (.pr (.own 0 .sh) .sh))))) .sh))))) (.pr (.pr .sh (.pr (.pr (.own 0 .sh) .sh) (.pr (.pr (.own 0 .sh) .sh) (.pr .sh (.pr (.pr .sh (.pr .sh (.pr .sh (.pr .sh (.pr (.own 0 .sh) .sh))))) .sh))))) (.pr .sh (.pr .sh (.pr (.own 0 .sh) .sh))))),false⟩]}
noncomputable def wToBridge_c:List (Nat×Sig):=[(15,wToClient_g),(16,wToStringS_g)]
noncomputable def wToBridge_d:tBridge×Unit→Option ((tBridge×Unit)×Unit):=wToBridge_F.d V wToBridge_c
noncomputable abbrev wToBridge_g:Sig:=wToBridge_F.t.sig wToBridge_d
theorem wToBridge_b (x1:tBridge):wToBridge_d (x1,())=bnd (wToClient_d (x1.1,())) (fun r1=>(bnd (wToClient_d (x1.2.1,())) (fun r2=>(bnd (wToStringS_d (x1.2.2.2.2.1,())) (fun r3=>(some (((r1.1.1,(r2.1.1,(x1.2.2.1,(x1.2.2.2.1,(r3.1.1,(x1.2.2.2.2.2.1,())))))),()),()))))))):=(FnD.eq V wToBridge_c wToBridge_F (x1,())).trans (by kernel_rfl)
theorem wToBridge_k:CallsOk Tryz.prog gls gvs 6 wToBridge_g:=FnD.ok (F:=wToBridge_F) (cs:=wToBridge_c) V_ok (kC wToClient_k (kC wToStringS_k kN)) Tryz.func6 (by decide) (by kernel_rfl)
noncomputable def sL22Committee_F:FnD:={f:=63,fn:=Tryz.f63,ps:=[pa TCommittee],rs:=[⟨TCommittee,(.pr (.own 0 .sh) .sh),false⟩]}
noncomputable def sL22Committee_c:List (Nat×Sig):=[]
noncomputable def sL22Committee_d:tCommittee×Unit→Option ((tCommittee×Unit)×Unit):=sL22Committee_F.d V sL22Committee_c
noncomputable abbrev sL22Committee_g:Sig:=sL22Committee_F.t.sig sL22Committee_d
theorem sL22Committee_b (x1:tCommittee):sL22Committee_d (x1,())=cnd (fits ((len ([]:List tPoint))+(len x1.1)) 3) (some ((((app ([]:List tPoint) x1.1),()),()),())) none:=(FnD.eq V sL22Committee_c sL22Committee_F (x1,())).trans (by kernel_rfl)
theorem sL22Committee_k:CallsOk Tryz.prog gls gvs 63 sL22Committee_g:=FnD.ok (F:=sL22Committee_F) (cs:=sL22Committee_c) V_ok kN Tryz.func63 (by decide) (by kernel_rfl)
noncomputable def sL22Copy_F:FnD:={f:=31,fn:=Tryz.f31,ps:=[pa TClient],rs:=[⟨TClient,(.pr .sh (.pr (.pr (.own 0 .sh) .sh) (.pr (.pr (.own 0 .sh) .sh) (.pr .sh (.pr (.pr .sh (.pr .sh (.pr .sh (.pr .sh (.pr (.own 0 .sh) .sh))))) .sh))))),false⟩]}
noncomputable def sL22Copy_c:List (Nat×Sig):=[(63,sL22Committee_g)]
noncomputable def sL22Copy_d:tClient×Unit→Option ((tClient×Unit)×Unit):=sL22Copy_F.d V sL22Copy_c
noncomputable abbrev sL22Copy_g:Sig:=sL22Copy_F.t.sig sL22Copy_d
theorem sL22Copy_b (x1:tClient):sL22Copy_d (x1,())=bnd (sL22Committee_d (x1.2.1,())) (fun r1=>(bnd (sL22Committee_d (x1.2.2.1,())) (fun r2=>(cnd (fits ((len ([]:List tPoint))+(len x1.2.2.2.2.1.2.2.2.2.1)) 3) (some (((x1.1,(r1.1.1,(r2.1.1,(x1.2.2.2.1,((x1.2.2.2.2.1.1,(x1.2.2.2.2.1.2.1,(x1.2.2.2.2.1.2.2.1,(x1.2.2.2.2.1.2.2.2.1,((app ([]:List tPoint) x1.2.2.2.2.1.2.2.2.2.1),x1.2.2.2.2.1.2.2.2.2.2))))),x1.2.2.2.2.2))))),()),())) none)))):=(FnD.eq V sL22Copy_c sL22Copy_F (x1,())).trans (by kernel_rfl)
theorem sL22Copy_k:CallsOk Tryz.prog gls gvs 31 sL22Copy_g:=FnD.ok (F:=sL22Copy_F) (cs:=sL22Copy_c) V_ok (kC sL22Committee_k kN) Tryz.func31 (by decide) (by kernel_rfl)
noncomputable def sL24Copy_F:FnD:={f:=13,fn:=Tryz.f13,ps:=[pa TBridge],rs:=[⟨TBridge,(.pr (.pr .sh (.pr (.pr (.own 0 .sh) .sh) (.pr (.pr (.own 0 .sh) .sh) (.pr .sh (.pr (.pr .sh (.pr .sh (.pr .sh (.pr .sh (.pr (.own 0 .sh) .sh))))) .sh))))) (.pr (.pr .sh (.pr (.pr (.own 0 .sh) .sh) (.pr (.pr (.own 0 .sh) .sh) (.pr .sh (.pr (.pr .sh (.pr .sh (.pr .sh (.pr .sh (.pr (.own 0 .sh) .sh))))) .sh))))) (.pr .sh (.pr .sh (.pr (.own 0 .sh) .sh))))),false⟩]}
noncomputable def sL24Copy_c:List (Nat×Sig):=[(31,sL22Copy_g)]
noncomputable def sL24Copy_d:tBridge×Unit→Option ((tBridge×Unit)×Unit):=sL24Copy_F.d V sL24Copy_c
noncomputable abbrev sL24Copy_g:Sig:=sL24Copy_F.t.sig sL24Copy_d
theorem sL24Copy_b (x1:tBridge):sL24Copy_d (x1,())=bnd (sL22Copy_d (x1.1,())) (fun r1=>(bnd (sL22Copy_d (x1.2.1,())) (fun r2=>(cnd (fits ((len ([]:List ByteArray))+(len x1.2.2.2.2.1)) 1) (some (((r1.1.1,(r2.1.1,(x1.2.2.1,(x1.2.2.2.1,((app ([]:List ByteArray) x1.2.2.2.2.1),x1.2.2.2.2.2))))),()),())) none)))):=(FnD.eq V sL24Copy_c sL24Copy_F (x1,())).trans (by kernel_rfl)
theorem sL24Copy_k:CallsOk Tryz.prog gls gvs 13 sL24Copy_g:=FnD.ok (F:=sL24Copy_F) (cs:=sL24Copy_c) V_ok (kC sL22Copy_k kN) Tryz.func13 (by decide) (by kernel_rfl)
noncomputable def sSumMore_F:FnD:={f:=161,fn:=Tryz.f161,ps:=[pa (.int .u32),pa .str],rs:=[rt (.int .u32)],cuts:=[(6,[.val 0 (.int .u32) .sh, .val 1 .str .sh, .val 5 (.int .i64) .sh, .val 6 (.int .i64) .sh]),(2,[.val 0 (.int .u32) .sh, .val 1 .str .sh, .val 5 (.int .i64) .sh])]}
noncomputable def sSumMore_c:List (Nat×Sig):=[]
noncomputable def sSumMore_d:Int×ByteArray×Unit→Option ((Int×Unit)×Unit):=sSumMore_F.d V sSumMore_c
noncomputable abbrev sSumMore_g:Sig:=sSumMore_F.t.sig sSumMore_d
noncomputable def sSumMore_D6:Int×ByteArray×Int×Int×Unit→Option ((Int×Unit)×Unit):=sSumMore_F.D V sSumMore_c 6
noncomputable def sSumMore_D2:Int×ByteArray×Int×Unit→Option ((Int×Unit)×Unit):=sSumMore_F.D V sSumMore_c 2
theorem sSumMore_b (x1:Int) (x2:ByteArray):sSumMore_d (x1,(x2,()))=sSumMore_D2 (x1,(x2,(0,()))):=(FnD.eq V sSumMore_c sSumMore_F (x1,(x2,()))).trans (by kernel_rfl)
theorem sSumMore_q6 (x1:Int) (x2:ByteArray) (x3:Int) (x4:Int):sSumMore_D6 (x1,(x2,(x3,(x4,()))))=cnd (ilt x4 8) (cnd (nz 2) (cnd (nz 2) (cnd (ieq (irem x1 2) 1) (sSumMore_D6 ((ixor .u32 (iquo .u32 x1 2) 3558460437),(x2,(x3,((iadd .i64 x4 1),()))))) (sSumMore_D6 ((iquo .u32 x1 2),(x2,(x3,((iadd .i64 x4 1),())))))) none) none) (sSumMore_D2 (x1,(x2,((iadd .i64 x3 1),())))):=(FnD.eqC V sSumMore_c sSumMore_F 6 (x1,(x2,(x3,(x4,()))))).trans (by kernel_rfl)
theorem sSumMore_q2 (x1:Int) (x2:ByteArray) (x3:Int):sSumMore_D2 (x1,(x2,(x3,())))=cnd (ilt x3 (ssz x2)) (cnd (inb x3 (ssz x2)) (sSumMore_D6 ((ixor .u32 x1 (iconv .u32 (sat x2 x3))),(x2,(x3,(0,()))))) none) (some ((x1,()),())):=(FnD.eqC V sSumMore_c sSumMore_F 2 (x1,(x2,(x3,())))).trans (by kernel_rfl)
theorem sSumMore_k:CallsOk Tryz.prog gls gvs 161 sSumMore_g:=FnD.ok (F:=sSumMore_F) (cs:=sSumMore_c) V_ok kN Tryz.func161 (by decide) (by kernel_rfl)
noncomputable def sSumOf_F:FnD:={f:=113,fn:=Tryz.f113,ps:=[pa .str],rs:=[rt (.int .u32)]}
noncomputable def sSumOf_c:List (Nat×Sig):=[(161,sSumMore_g)]
noncomputable def sSumOf_d:ByteArray×Unit→Option ((Int×Unit)×Unit):=sSumOf_F.d V sSumOf_c
noncomputable abbrev sSumOf_g:Sig:=sSumOf_F.t.sig sSumOf_d
theorem sSumOf_b (x1:ByteArray):sSumOf_d (x1,())=bnd (sSumMore_d (4294967295,(x1,()))) (fun r1=>(some ((r1.1.1,()),()))):=(FnD.eq V sSumOf_c sSumOf_F (x1,())).trans (by kernel_rfl)
theorem sSumOf_k:CallsOk Tryz.prog gls gvs 113 sSumOf_g:=FnD.ok (F:=sSumOf_F) (cs:=sSumOf_c) V_ok (kC sSumMore_k kN) Tryz.func113 (by decide) (by kernel_rfl)
noncomputable def sL02Four_F:FnD:={f:=112,fn:=Tryz.f112,ps:=[pa (.int .u32)],rs:=[rt .str]}
noncomputable def sL02Four_c:List (Nat×Sig):=[]
noncomputable def sL02Four_d:Int×Unit→Option ((ByteArray×Unit)×Unit):=sL02Four_F.d V sL02Four_c
noncomputable abbrev sL02Four_g:Sig:=sL02Four_F.t.sig sL02Four_d
theorem sL02Four_b (x1:Int):sL02Four_d (x1,())=cnd (nn 24) (cnd (nn 16) (cnd (nn 8) (some (((sof ((iconv .u8 (ishr .u32 x1 24))::((iconv .u8 (ishr .u32 x1 16))::((iconv .u8 (ishr .u32 x1 8))::((iconv .u8 x1)::([]:List Int)))))),()),())) none) none) none:=(FnD.eq V sL02Four_c sL02Four_F (x1,())).trans (by kernel_rfl)
theorem sL02Four_k:CallsOk Tryz.prog gls gvs 112 sL02Four_g:=FnD.ok (F:=sL02Four_F) (cs:=sL02Four_c) V_ok kN Tryz.func112 (by decide) (by kernel_rfl)
noncomputable def sUnsealed_F:FnD:={f:=64,fn:=Tryz.f64,ps:=[pa .str],rs:=[rt .str,rt .bool]}
noncomputable def sUnsealed_c:List (Nat×Sig):=[(113,sSumOf_g),(112,sL02Four_g)]
noncomputable def sUnsealed_d:ByteArray×Unit→Option ((ByteArray×Bool×Unit)×Unit):=sUnsealed_F.d V sUnsealed_c
noncomputable abbrev sUnsealed_g:Sig:=sUnsealed_F.t.sig sUnsealed_d
theorem sUnsealed_b (x1:ByteArray):sUnsealed_d (x1,())=cnd (ilt (isub .i64 (ssz x1) 4) 0) (some (zL21Cur,())) (cnd (igt (isub .i64 (ssz x1) 4) 20000) (some (zL21Cur,())) (cnd (inb2 (isub .i64 (ssz x1) 4) (ssz x1) (ssz x1)) (cnd (inb2 0 (isub .i64 (ssz x1) 4) (ssz x1)) (bnd (sSumOf_d ((ssub x1 0 (isub .i64 (ssz x1) 4)),())) (fun r1=>(bnd (sL02Four_d (r1.1.1,())) (fun r2=>(cnd (sne (ssub x1 (isub .i64 (ssz x1) 4) (ssz x1)) r2.1.1) (some (zL21Cur,())) (cnd (inb2 0 (isub .i64 (ssz x1) 4) (ssz x1)) (some (((ssub x1 0 (isub .i64 (ssz x1) 4)),(true,())),())) none)))))) none) none)):=(FnD.eq V sUnsealed_c sUnsealed_F (x1,())).trans (by kernel_rfl)
theorem sUnsealed_k:CallsOk Tryz.prog gls gvs 64 sUnsealed_g:=FnD.ok (F:=sUnsealed_F) (cs:=sUnsealed_c) V_ok (kC sSumOf_k (kC sL02Four_k kN)) Tryz.func64 (by decide) (by kernel_rfl)
noncomputable def sL01In_F:FnD:={f:=123,fn:=Tryz.f123,ps:=[pa (.int .i64),pa (.int .i64),pa (.int .i64)],rs:=[rt .bool]}
noncomputable def sL01In_c:List (Nat×Sig):=[]
noncomputable def sL01In_d:Int×Int×Int×Unit→Option ((Bool×Unit)×Unit):=sL01In_F.d V sL01In_c
noncomputable abbrev sL01In_g:Sig:=sL01In_F.t.sig sL01In_d
theorem sL01In_b (x1:Int) (x2:Int) (x3:Int):sL01In_d (x1,(x2,(x3,())))=cnd (ige x1 x2) (some (((ile x1 x3),()),())) (some ((false,()),())):=(FnD.eq V sL01In_c sL01In_F (x1,(x2,(x3,())))).trans (by kernel_rfl)
theorem sL01In_k:CallsOk Tryz.prog gls gvs 123 sL01In_g:=FnD.ok (F:=sL01In_F) (cs:=sL01In_c) V_ok kN Tryz.func123 (by decide) (by kernel_rfl)
noncomputable def sL01Var_F:FnD:={f:=124,fn:=Tryz.f124,ps:=[pa (.int .i64)],rs:=[rt .str],cuts:=[(2,[.val 0 (.int .i64) .sh, .val 3 (.sl (.int .u8)) (.own 0 .sh)])]}
noncomputable def sL01Var_c:List (Nat×Sig):=[]
noncomputable def sL01Var_d:Int×Unit→Option ((ByteArray×Unit)×Unit):=sL01Var_F.d V sL01Var_c
noncomputable abbrev sL01Var_g:Sig:=sL01Var_F.t.sig sL01Var_d
noncomputable def sL01Var_D2:Int× (List Int)×Unit→Option ((ByteArray×Unit)×Unit):=sL01Var_F.D V sL01Var_c 2
theorem sL01Var_b (x1:Int):sL01Var_d (x1,())=sL01Var_D2 (x1,(([]:List Int),())):=(FnD.eq V sL01Var_c sL01Var_F (x1,())).trans (by kernel_rfl)
theorem sL01Var_q2 (x1:Int) (x2:(List Int)):sL01Var_D2 (x1,(x2,()))=cnd (igt x1 127) (cnd (nz 128) (cnd (fits ((len x2)+(len ((iconv .u8 (iadd .i64 (irem x1 128) 128))::([]:List Int)))) 1) (cnd (nz 128) (sL01Var_D2 ((iquo .i64 x1 128),((app x2 ((iconv .u8 (iadd .i64 (irem x1 128) 128))::([]:List Int))),()))) none) none) none) (cnd (fits ((len x2)+(len ((iconv .u8 x1)::([]:List Int)))) 1) (some (((sof (app x2 ((iconv .u8 x1)::([]:List Int)))),()),())) none):=(FnD.eqC V sL01Var_c sL01Var_F 2 (x1,(x2,()))).trans (by kernel_rfl)
theorem sL01Var_k:CallsOk Tryz.prog gls gvs 124 sL01Var_g:=FnD.ok (F:=sL01Var_F) (cs:=sL01Var_c) V_ok kN Tryz.func124 (by decide) (by kernel_rfl)
noncomputable def sReadVar_F:FnD:={f:=71,fn:=Tryz.f71,ps:=[pa .str,pa (.int .i64)],rs:=[rt (.int .i64),rt (.int .i64),rt .bool],cuts:=[(6,[.val 0 .str .sh, .val 1 (.int .i64) .sh, .val 7 (.int .i64) .sh, .val 8 (.int .i64) .sh, .val 9 (.int .i64) .sh])]}
noncomputable def sReadVar_c:List (Nat×Sig):=[(123,sL01In_g),(124,sL01Var_g)]
noncomputable def sReadVar_d:ByteArray×Int×Unit→Option ((Int×Int×Bool×Unit)×Unit):=sReadVar_F.d V sReadVar_c
noncomputable abbrev sReadVar_g:Sig:=sReadVar_F.t.sig sReadVar_d
noncomputable def sReadVar_D6:ByteArray×Int×Int×Int×Int×Unit→Option ((Int×Int×Bool×Unit)×Unit):=sReadVar_F.D V sReadVar_c 6
theorem sReadVar_b (x1:ByteArray) (x2:Int):sReadVar_d (x1,(x2,()))=bnd (sL01In_d (x2,(0,((ssz x1),())))) (fun r2=>(cnd (bnot r2.1.1) (some (zPoint,())) (sReadVar_D6 (x1,(x2,(0,(1,(x2,())))))))):=(FnD.eq V sReadVar_c sReadVar_F (x1,(x2,()))).trans (by kernel_rfl)
theorem sReadVar_q6 (x1:ByteArray) (x2:Int) (x3:Int) (x4:Int) (x5:Int):sReadVar_D6 (x1,(x2,(x3,(x4,(x5,())))))=cnd (ilt x5 (ssz x1)) (cnd (ilt x5 (iadd .i64 x2 5)) (cnd (inb x5 (ssz x1)) (cnd (nz 128) (cnd (inb x5 (ssz x1)) (cnd (ilt (sat x1 x5) 128) (cnd (igt (iadd .i64 x3 (imul .i64 (irem (iconv .i64 (sat x1 x5)) 128) x4)) 1000000000) (some (zPoint,())) (bnd (sL01Var_d ((iadd .i64 x3 (imul .i64 (irem (iconv .i64 (sat x1 x5)) 128) x4)),())) (fun r5=>(cnd (inb2 x2 (iadd .i64 x5 1) (ssz x1)) (cnd (sne r5.1.1 (ssub x1 x2 (iadd .i64 x5 1))) (some (zPoint,())) (some (((iadd .i64 x3 (imul .i64 (irem (iconv .i64 (sat x1 x5)) 128) x4)),((iadd .i64 x5 1),(true,()))),()))) none)))) (sReadVar_D6 (x1,(x2,((iadd .i64 x3 (imul .i64 (irem (iconv .i64 (sat x1 x5)) 128) x4)),((imul .i64 x4 128),((iadd .i64 x5 1),()))))))) none) none) none) (some (zPoint,()))) (some (zPoint,())):=(FnD.eqC V sReadVar_c sReadVar_F 6 (x1,(x2,(x3,(x4,(x5,())))))).trans (by kernel_rfl)
theorem sReadVar_k:CallsOk Tryz.prog gls gvs 71 sReadVar_g:=FnD.ok (F:=sReadVar_F) (cs:=sReadVar_c) V_ok (kC sL01In_k (kC sL01Var_k kN)) Tryz.func71 (by decide) (by kernel_rfl)
noncomputable def sL21Take_F:FnD:={f:=67,fn:=Tryz.f67,ps:=[⟨TL21Cur, .sh,true,true,none⟩,pa (.int .i64)],rs:=[rt .str]}
noncomputable def sL21Take_c:List (Nat×Sig):=[]
noncomputable def sL21Take_d:tL21Cur×Int×Unit→Option ((ByteArray×Unit)×tL21Cur×Unit):=sL21Take_F.d V sL21Take_c
noncomputable abbrev sL21Take_g:Sig:=sL21Take_F.t.sig sL21Take_d
theorem sL21Take_b (x1:tL21Cur) (x2:Int):sL21Take_d (x1,(x2,()))=cnd (igt x2 (ssz x1.1)) (some (((bs []),()),((x1.1,(true,x1.2.2)),()))) (cnd (inb2 0 x2 (ssz x1.1)) (cnd (inb2 x2 (ssz x1.1) (ssz x1.1)) (some (((ssub x1.1 0 x2),()),(((ssub x1.1 x2 (ssz x1.1)),x1.2),()))) none) none):=(FnD.eq V sL21Take_c sL21Take_F (x1,(x2,()))).trans (by kernel_rfl)
theorem sL21Take_k:CallsOk Tryz.prog gls gvs 67 sL21Take_g:=FnD.ok (F:=sL21Take_F) (cs:=sL21Take_c) V_ok kN Tryz.func67 (by decide) (by kernel_rfl)
noncomputable def sHeadOk_F:FnD:={f:=162,fn:=Tryz.f162,ps:=[pa THead],rs:=[rt .bool]}
noncomputable def sHeadOk_c:List (Nat×Sig):=[(123,sL01In_g)]
noncomputable def sHeadOk_d:tHead×Unit→Option ((Bool×Unit)×Unit):=sHeadOk_F.d V sHeadOk_c
noncomputable abbrev sHeadOk_g:Sig:=sHeadOk_F.t.sig sHeadOk_d
theorem sHeadOk_b (x1:tHead):sHeadOk_d (x1,())=bnd (sL01In_d (x1.1,(0,(10000,())))) (fun r1=>(cnd r1.1.1 (cnd (ieq (ssz x1.2.1) 32) (cnd (ieq (ssz x1.2.2.1) 32) (some (((ieq (ssz x1.2.2.2.1) 32),()),())) (some ((false,()),()))) (some ((false,()),()))) (some ((false,()),())))):=(FnD.eq V sHeadOk_c sHeadOk_F (x1,())).trans (by kernel_rfl)
theorem sHeadOk_k:CallsOk Tryz.prog gls gvs 162 sHeadOk_g:=FnD.ok (F:=sHeadOk_F) (cs:=sHeadOk_c) V_ok (kC sL01In_k kN) Tryz.func162 (by decide) (by kernel_rfl)
noncomputable def sReadHead_F:FnD:={f:=114,fn:=Tryz.f114,ps:=[pa .str],rs:=[rt THead,rt .bool]}
noncomputable def sReadHead_c:List (Nat×Sig):=[(71,sReadVar_g),(162,sHeadOk_g)]
noncomputable def sReadHead_d:ByteArray×Unit→Option ((tHead×Bool×Unit)×Unit):=sReadHead_F.d V sReadHead_c
noncomputable abbrev sReadHead_g:Sig:=sReadHead_F.t.sig sReadHead_d
theorem sReadHead_b (x1:ByteArray):sReadHead_d (x1,())=bnd (sReadVar_d (x1,(0,()))) (fun r1=>(cnd (bnot r1.1.2.2.1) (some ((zHead,(false,())),())) (cnd (ine (ssz x1) (iadd .i64 r1.1.2.1 96)) (some ((zHead,(false,())),())) (cnd (inb2 r1.1.2.1 (iadd .i64 r1.1.2.1 32) (ssz x1)) (cnd (inb2 (iadd .i64 r1.1.2.1 32) (iadd .i64 r1.1.2.1 64) (ssz x1)) (cnd (inb2 (iadd .i64 r1.1.2.1 64) (ssz x1) (ssz x1)) (bnd (sHeadOk_d ((r1.1.1,((ssub x1 r1.1.2.1 (iadd .i64 r1.1.2.1 32)),((ssub x1 (iadd .i64 r1.1.2.1 32) (iadd .i64 r1.1.2.1 64)),((ssub x1 (iadd .i64 r1.1.2.1 64) (ssz x1)),())))),())) (fun r2=>(cnd (bnot r2.1.1) (some ((zHead,(false,())),())) (some (((r1.1.1,((ssub x1 r1.1.2.1 (iadd .i64 r1.1.2.1 32)),((ssub x1 (iadd .i64 r1.1.2.1 32) (iadd .i64 r1.1.2.1 64)),((ssub x1 (iadd .i64 r1.1.2.1 64) (ssz x1)),())))),(true,())),()))))) none) none) none)))):=(FnD.eq V sReadHead_c sReadHead_F (x1,())).trans (by kernel_rfl)
theorem sReadHead_k:CallsOk Tryz.prog gls gvs 114 sReadHead_g:=FnD.ok (F:=sReadHead_F) (cs:=sReadHead_c) V_ok (kC sReadVar_k (kC sHeadOk_k kN)) Tryz.func114 (by decide) (by kernel_rfl)
noncomputable def sL21Head_F:FnD:={f:=65,fn:=Tryz.f65,ps:=[⟨TL21Cur, .sh,true,true,none⟩],rs:=[rt THead]}
noncomputable def sL21Head_c:List (Nat×Sig):=[(71,sReadVar_g),(67,sL21Take_g),(114,sReadHead_g)]
noncomputable def sL21Head_d:tL21Cur×Unit→Option ((tHead×Unit)×tL21Cur×Unit):=sL21Head_F.d V sL21Head_c
noncomputable abbrev sL21Head_g:Sig:=sL21Head_F.t.sig sL21Head_d
theorem sL21Head_b (x1:tL21Cur):sL21Head_d (x1,())=bnd (sReadVar_d (x1.1,(0,()))) (fun r1=>(cnd (bnot r1.1.2.2.1) (some ((zHead,()),((x1.1,(true,x1.2.2)),()))) (bnd (sL21Take_d (x1,((iadd .i64 r1.1.2.1 96),()))) (fun r2=>(bnd (sReadHead_d (r2.1.1,())) (fun r3=>(cnd (bnot r3.1.2.1) (some ((r3.1.1,()),((r2.2.1.1,(true,r2.2.1.2.2)),()))) (some ((r3.1.1,()),(r2.2.1,())))))))))):=(FnD.eq V sL21Head_c sL21Head_F (x1,())).trans (by kernel_rfl)
theorem sL21Head_k:CallsOk Tryz.prog gls gvs 65 sL21Head_g:=FnD.ok (F:=sL21Head_F) (cs:=sL21Head_c) V_ok (kC sReadVar_k (kC sL21Take_k (kC sReadHead_k kN))) Tryz.func65 (by decide) (by kernel_rfl)
noncomputable def sL07Zero_F:FnD:={f:=116,fn:=Tryz.f116,ps:=[],rs:=[rt TPoint]}
noncomputable def sL07Zero_c:List (Nat×Sig):=[]
noncomputable def sL07Zero_d:Unit→Option ((tPoint×Unit)×Unit):=sL07Zero_F.d V sL07Zero_c
noncomputable abbrev sL07Zero_g:Sig:=sL07Zero_F.t.sig sL07Zero_d
theorem sL07Zero_b:sL07Zero_d ()=some (((0,(0,(true,()))),()),()):=(FnD.eq V sL07Zero_c sL07Zero_F ()).trans (by kernel_rfl)
theorem sL07Zero_k:CallsOk Tryz.prog gls gvs 116 sL07Zero_g:=FnD.ok (F:=sL07Zero_F) (cs:=sL07Zero_c) V_ok kN Tryz.func116 (by decide) (by kernel_rfl)
noncomputable def sFpOk_F:FnD:={f:=117,fn:=Tryz.f117,ps:=[pa (.int .i64)],rs:=[rt .bool]}
noncomputable def sFpOk_c:List (Nat×Sig):=[(123,sL01In_g)]
noncomputable def sFpOk_d:Int×Unit→Option ((Bool×Unit)×Unit):=sFpOk_F.d V sFpOk_c
noncomputable abbrev sFpOk_g:Sig:=sFpOk_F.t.sig sFpOk_d
theorem sFpOk_b (x1:Int):sFpOk_d (x1,())=bnd (sL01In_d (x1,(0,(12106,())))) (fun r1=>(some ((r1.1.1,()),()))):=(FnD.eq V sFpOk_c sFpOk_F (x1,())).trans (by kernel_rfl)
theorem sFpOk_k:CallsOk Tryz.prog gls gvs 117 sFpOk_g:=FnD.ok (F:=sFpOk_F) (cs:=sFpOk_c) V_ok (kC sL01In_k kN) Tryz.func117 (by decide) (by kernel_rfl)
noncomputable def sFpOf_F:FnD:={f:=167,fn:=Tryz.f167,ps:=[pa (.int .i64)],rs:=[rt (.int .i64)]}
noncomputable def sFpOf_c:List (Nat×Sig):=[]
noncomputable def sFpOf_d:Int×Unit→Option ((Int×Unit)×Unit):=sFpOf_F.d V sFpOf_c
noncomputable abbrev sFpOf_g:Sig:=sFpOf_F.t.sig sFpOf_d
theorem sFpOf_b (x1:Int):sFpOf_d (x1,())=cnd (nz 12107) (cnd (ilt (irem x1 12107) 0) (some (((iadd .i64 (irem x1 12107) 12107),()),())) (some (((irem x1 12107),()),()))) none:=(FnD.eq V sFpOf_c sFpOf_F (x1,())).trans (by kernel_rfl)
theorem sFpOf_k:CallsOk Tryz.prog gls gvs 167 sFpOf_g:=FnD.ok (F:=sFpOf_F) (cs:=sFpOf_c) V_ok kN Tryz.func167 (by decide) (by kernel_rfl)
noncomputable def sFpMul_F:FnD:={f:=166,fn:=Tryz.f166,ps:=[pa (.int .i64),pa (.int .i64)],rs:=[rt (.int .i64)]}
noncomputable def sFpMul_c:List (Nat×Sig):=[(167,sFpOf_g)]
noncomputable def sFpMul_d:Int×Int×Unit→Option ((Int×Unit)×Unit):=sFpMul_F.d V sFpMul_c
noncomputable abbrev sFpMul_g:Sig:=sFpMul_F.t.sig sFpMul_d
theorem sFpMul_b (x1:Int) (x2:Int):sFpMul_d (x1,(x2,()))=bnd (sFpOf_d (x1,())) (fun r2=>(bnd (sFpOf_d (x2,())) (fun r3=>(bnd (sFpOf_d ((imul .i64 r2.1.1 r3.1.1),())) (fun r4=>(some ((r4.1.1,()),()))))))):=(FnD.eq V sFpMul_c sFpMul_F (x1,(x2,()))).trans (by kernel_rfl)
theorem sFpMul_k:CallsOk Tryz.prog gls gvs 166 sFpMul_g:=FnD.ok (F:=sFpMul_F) (cs:=sFpMul_c) V_ok (kC sFpOf_k kN) Tryz.func166 (by decide) (by kernel_rfl)
noncomputable def sFpAdd_F:FnD:={f:=168,fn:=Tryz.f168,ps:=[pa (.int .i64),pa (.int .i64)],rs:=[rt (.int .i64)]}
noncomputable def sFpAdd_c:List (Nat×Sig):=[(167,sFpOf_g)]
noncomputable def sFpAdd_d:Int×Int×Unit→Option ((Int×Unit)×Unit):=sFpAdd_F.d V sFpAdd_c
noncomputable abbrev sFpAdd_g:Sig:=sFpAdd_F.t.sig sFpAdd_d
theorem sFpAdd_b (x1:Int) (x2:Int):sFpAdd_d (x1,(x2,()))=bnd (sFpOf_d (x1,())) (fun r2=>(bnd (sFpOf_d (x2,())) (fun r3=>(bnd (sFpOf_d ((iadd .i64 r2.1.1 r3.1.1),())) (fun r4=>(some ((r4.1.1,()),()))))))):=(FnD.eq V sFpAdd_c sFpAdd_F (x1,(x2,()))).trans (by kernel_rfl)
theorem sFpAdd_k:CallsOk Tryz.prog gls gvs 168 sFpAdd_g:=FnD.ok (F:=sFpAdd_F) (cs:=sFpAdd_c) V_ok (kC sFpOf_k kN) Tryz.func168 (by decide) (by kernel_rfl)
noncomputable def sL07Right_F:FnD:={f:=119,fn:=Tryz.f119,ps:=[pa (.int .i64)],rs:=[rt (.int .i64)]}
noncomputable def sL07Right_c:List (Nat×Sig):=[(166,sFpMul_g),(168,sFpAdd_g)]
noncomputable def sL07Right_d:Int×Unit→Option ((Int×Unit)×Unit):=sL07Right_F.d V sL07Right_c
noncomputable abbrev sL07Right_g:Sig:=sL07Right_F.t.sig sL07Right_d
theorem sL07Right_b (x1:Int):sL07Right_d (x1,())=bnd (sFpMul_d (x1,(x1,()))) (fun r1=>(bnd (sFpMul_d (r1.1.1,(x1,()))) (fun r2=>(bnd (sFpAdd_d (r2.1.1,(x1,()))) (fun r3=>(some ((r3.1.1,()),()))))))):=(FnD.eq V sL07Right_c sL07Right_F (x1,())).trans (by kernel_rfl)
theorem sL07Right_k:CallsOk Tryz.prog gls gvs 119 sL07Right_g:=FnD.ok (F:=sL07Right_F) (cs:=sL07Right_c) V_ok (kC sFpMul_k (kC sFpAdd_k kN)) Tryz.func119 (by decide) (by kernel_rfl)
noncomputable def sFpPow_F:FnD:={f:=165,fn:=Tryz.f165,ps:=[pa (.int .i64),pa (.int .i64)],rs:=[rt (.int .i64)],joins:=[8],cuts:=[(8,[.val 1 (.int .i64) .sh, .val 5 (.int .i64) .sh, .val 6 (.int .i64) .sh]),(5,[.val 1 (.int .i64) .sh, .val 5 (.int .i64) .sh, .val 6 (.int .i64) .sh])]}
noncomputable def sFpPow_c:List (Nat×Sig):=[(167,sFpOf_g),(166,sFpMul_g)]
noncomputable def sFpPow_d:Int×Int×Unit→Option ((Int×Unit)×Unit):=sFpPow_F.d V sFpPow_c
noncomputable abbrev sFpPow_g:Sig:=sFpPow_F.t.sig sFpPow_d
noncomputable def sFpPow_D8:Int×Int×Int×Unit→Option ((Int×Unit)×Unit):=sFpPow_F.D V sFpPow_c 8
noncomputable def sFpPow_D5:Int×Int×Int×Unit→Option ((Int×Unit)×Unit):=sFpPow_F.D V sFpPow_c 5
theorem sFpPow_b (x1:Int) (x2:Int):sFpPow_d (x1,(x2,()))=cnd (ilt x2 0) (some ((0,()),())) (bnd (sFpOf_d (x1,())) (fun r2=>(sFpPow_D5 (x2,(1,(r2.1.1,())))))):=(FnD.eq V sFpPow_c sFpPow_F (x1,(x2,()))).trans (by kernel_rfl)
theorem sFpPow_q8 (x1:Int) (x2:Int) (x3:Int):sFpPow_D8 (x1,(x2,(x3,())))=bnd (sFpMul_d (x3,(x3,()))) (fun r3=>(cnd (nz 2) (sFpPow_D5 ((iquo .i64 x1 2),(x2,(r3.1.1,())))) none)):=(FnD.eqC V sFpPow_c sFpPow_F 8 (x1,(x2,(x3,())))).trans (by kernel_rfl)
theorem sFpPow_q5 (x1:Int) (x2:Int) (x3:Int):sFpPow_D5 (x1,(x2,(x3,())))=cnd (igt x1 0) (cnd (nz 2) (cnd (ieq (irem x1 2) 1) (bnd (sFpMul_d (x2,(x3,()))) (fun r3=>(sFpPow_D8 (x1,(r3.1.1,(x3,())))))) (sFpPow_D8 (x1,(x2,(x3,()))))) none) (some ((x2,()),())):=(FnD.eqC V sFpPow_c sFpPow_F 5 (x1,(x2,(x3,())))).trans (by kernel_rfl)
theorem sFpPow_k:CallsOk Tryz.prog gls gvs 165 sFpPow_g:=FnD.ok (F:=sFpPow_F) (cs:=sFpPow_c) V_ok (kC sFpOf_k (kC sFpMul_k kN)) Tryz.func165 (by decide) (by kernel_rfl)
noncomputable def sFpSub_F:FnD:={f:=120,fn:=Tryz.f120,ps:=[pa (.int .i64),pa (.int .i64)],rs:=[rt (.int .i64)]}
noncomputable def sFpSub_c:List (Nat×Sig):=[(167,sFpOf_g)]
noncomputable def sFpSub_d:Int×Int×Unit→Option ((Int×Unit)×Unit):=sFpSub_F.d V sFpSub_c
noncomputable abbrev sFpSub_g:Sig:=sFpSub_F.t.sig sFpSub_d
theorem sFpSub_b (x1:Int) (x2:Int):sFpSub_d (x1,(x2,()))=bnd (sFpOf_d (x1,())) (fun r2=>(bnd (sFpOf_d (x2,())) (fun r3=>(bnd (sFpOf_d ((isub .i64 r2.1.1 r3.1.1),())) (fun r4=>(some ((r4.1.1,()),()))))))):=(FnD.eq V sFpSub_c sFpSub_F (x1,(x2,()))).trans (by kernel_rfl)
theorem sFpSub_k:CallsOk Tryz.prog gls gvs 120 sFpSub_g:=FnD.ok (F:=sFpSub_F) (cs:=sFpSub_c) V_ok (kC sFpOf_k kN) Tryz.func120 (by decide) (by kernel_rfl)
noncomputable def sFpRoot_F:FnD:={f:=118,fn:=Tryz.f118,ps:=[pa (.int .i64)],rs:=[rt (.int .i64),rt .bool]}
noncomputable def sFpRoot_c:List (Nat×Sig):=[(165,sFpPow_g),(166,sFpMul_g),(167,sFpOf_g),(120,sFpSub_g)]
noncomputable def sFpRoot_d:Int×Unit→Option ((Int×Bool×Unit)×Unit):=sFpRoot_F.d V sFpRoot_c
noncomputable abbrev sFpRoot_g:Sig:=sFpRoot_F.t.sig sFpRoot_d
theorem sFpRoot_b (x1:Int):sFpRoot_d (x1,())=bnd (sFpPow_d (x1,(3027,()))) (fun r1=>(bnd (sFpMul_d (r1.1.1,(r1.1.1,()))) (fun r2=>(bnd (sFpOf_d (x1,())) (fun r3=>(cnd (ine r2.1.1 r3.1.1) (some ((0,(false,())),())) (bnd (sFpSub_d (0,(r1.1.1,()))) (fun r4=>(cnd (ilt r4.1.1 r1.1.1) (bnd (sFpSub_d (0,(r1.1.1,()))) (fun r5=>(some ((r5.1.1,(true,())),())))) (some ((r1.1.1,(true,())),()))))))))))):=(FnD.eq V sFpRoot_c sFpRoot_F (x1,())).trans (by kernel_rfl)
theorem sFpRoot_k:CallsOk Tryz.prog gls gvs 118 sFpRoot_g:=FnD.ok (F:=sFpRoot_F) (cs:=sFpRoot_c) V_ok (kC sFpPow_k (kC sFpMul_k (kC sFpOf_k (kC sFpSub_k kN)))) Tryz.func118 (by decide) (by kernel_rfl)
noncomputable def sPointOk_F:FnD:={f:=169,fn:=Tryz.f169,ps:=[pa TPoint],rs:=[rt .bool]}
noncomputable def sPointOk_c:List (Nat×Sig):=[(117,sFpOk_g),(166,sFpMul_g),(119,sL07Right_g)]
noncomputable def sPointOk_d:tPoint×Unit→Option ((Bool×Unit)×Unit):=sPointOk_F.d V sPointOk_c
noncomputable abbrev sPointOk_g:Sig:=sPointOk_F.t.sig sPointOk_d
theorem sPointOk_b (x1:tPoint):sPointOk_d (x1,())=cnd x1.2.2.1 (cnd (ieq x1.1 0) (some (((ieq x1.2.1 0),()),())) (some ((false,()),()))) (bnd (sFpOk_d (x1.1,())) (fun r1=>(cnd r1.1.1 (bnd (sFpOk_d (x1.2.1,())) (fun r2=>(cnd r2.1.1 (bnd (sFpMul_d (x1.2.1,(x1.2.1,()))) (fun r3=>(bnd (sL07Right_d (x1.1,())) (fun r4=>(some (((ieq r3.1.1 r4.1.1),()),())))))) (some ((false,()),()))))) (some ((false,()),()))))):=(FnD.eq V sPointOk_c sPointOk_F (x1,())).trans (by kernel_rfl)
theorem sPointOk_k:CallsOk Tryz.prog gls gvs 169 sPointOk_g:=FnD.ok (F:=sPointOk_F) (cs:=sPointOk_c) V_ok (kC sFpOk_k (kC sFpMul_k (kC sL07Right_k kN))) Tryz.func169 (by decide) (by kernel_rfl)
noncomputable def sPointText_F:FnD:={f:=121,fn:=Tryz.f121,ps:=[pa TPoint],rs:=[rt .str]}
noncomputable def sPointText_c:List (Nat×Sig):=[(169,sPointOk_g)]
noncomputable def sPointText_d:tPoint×Unit→Option ((ByteArray×Unit)×Unit):=sPointText_F.d V sPointText_c
noncomputable abbrev sPointText_g:Sig:=sPointText_F.t.sig sPointText_d
theorem sPointText_b (x1:tPoint):sPointText_d (x1,())=bnd (sPointOk_d (x1,())) (fun r1=>(cnd (bnot r1.1.1) (some (((bs []),()),())) (cnd x1.2.2.1 (some (((bs [0,0,0]),()),())) (cnd (nn 8) (cnd (nz 2) (some (((sof ((iconv .u8 (ishr .i64 (iadd .i64 x1.1 1) 8))::((iconv .u8 (iadd .i64 x1.1 1))::((iconv .u8 (irem x1.2.1 2))::([]:List Int))))),()),())) none) none)))):=(FnD.eq V sPointText_c sPointText_F (x1,())).trans (by kernel_rfl)
theorem sPointText_k:CallsOk Tryz.prog gls gvs 121 sPointText_g:=FnD.ok (F:=sPointText_F) (cs:=sPointText_c) V_ok (kC sPointOk_k kN) Tryz.func121 (by decide) (by kernel_rfl)
noncomputable def sReadPoint_F:FnD:={f:=69,fn:=Tryz.f69,ps:=[pa .str],rs:=[rt TPoint,rt .bool],joins:=[13],cuts:=[(13,[.val 0 .str .sh, .val 4 (.int .i64) .sh, .val 5 (.int .i64) .sh, .box 2 TPoint .sh, .ptr 2 2 0])]}
noncomputable def sReadPoint_c:List (Nat×Sig):=[(116,sL07Zero_g),(117,sFpOk_g),(119,sL07Right_g),(118,sFpRoot_g),(120,sFpSub_g),(121,sPointText_g)]
noncomputable def sReadPoint_d:ByteArray×Unit→Option ((tPoint×Bool×Unit)×Unit):=sReadPoint_F.d V sReadPoint_c
noncomputable abbrev sReadPoint_g:Sig:=sReadPoint_F.t.sig sReadPoint_d
noncomputable def sReadPoint_D13:ByteArray×Int×Int×tPoint×Unit→Option ((tPoint×Bool×Unit)×Unit):=sReadPoint_F.D V sReadPoint_c 13
theorem sReadPoint_b (x1:ByteArray):sReadPoint_d (x1,())=cnd (ine (ssz x1) 3) (some ((zPoint,(false,())),())) (cnd (seq x1 (bs [0,0,0])) (bnd (sL07Zero_d ()) (fun r1=>(some ((r1.1.1,(true,())),())))) (cnd (inb 0 (ssz x1)) (cnd (inb 1 (ssz x1)) (bnd (sFpOk_d ((isub .i64 (iadd .i64 (imul .i64 (iconv .i64 (sat x1 0)) 256) (iconv .i64 (sat x1 1))) 1),())) (fun r1=>(cnd (bnot r1.1.1) (some ((zPoint,(false,())),())) (cnd (inb 2 (ssz x1)) (cnd (igt (sat x1 2) 1) (some ((zPoint,(false,())),())) (bnd (sL07Right_d ((isub .i64 (iadd .i64 (imul .i64 (iconv .i64 (sat x1 0)) 256) (iconv .i64 (sat x1 1))) 1),())) (fun r2=>(bnd (sFpRoot_d (r2.1.1,())) (fun r3=>(cnd (bnot r3.1.2.1) (some ((zPoint,(false,())),())) (cnd (nz 2) (cnd (inb 2 (ssz x1)) (cnd (ine (irem r3.1.1 2) (iconv .i64 (sat x1 2))) (bnd (sFpSub_d (0,(r3.1.1,()))) (fun r4=>(sReadPoint_D13 (x1,((isub .i64 (iadd .i64 (imul .i64 (iconv .i64 (sat x1 0)) 256) (iconv .i64 (sat x1 1))) 1),(r4.1.1,(zPoint,()))))))) (sReadPoint_D13 (x1,((isub .i64 (iadd .i64 (imul .i64 (iconv .i64 (sat x1 0)) 256) (iconv .i64 (sat x1 1))) 1),(r3.1.1,(zPoint,())))))) none) none))))))) none)))) none) none)):=(FnD.eq V sReadPoint_c sReadPoint_F (x1,())).trans (by kernel_rfl)
theorem sReadPoint_q13 (x1:ByteArray) (x2:Int) (x3:Int) (x4:tPoint):sReadPoint_D13 (x1,(x2,(x3,(x4,()))))=bnd (sPointText_d ((x2,(x3,(false,()))),())) (fun r4=>(cnd (sne r4.1.1 x1) (some ((zPoint,(false,())),())) (some (((x2,(x3,(false,()))),(true,())),())))):=(FnD.eqC V sReadPoint_c sReadPoint_F 13 (x1,(x2,(x3,(x4,()))))).trans (by kernel_rfl)
theorem sReadPoint_k:CallsOk Tryz.prog gls gvs 69 sReadPoint_g:=FnD.ok (F:=sReadPoint_F) (cs:=sReadPoint_c) V_ok (kC sL07Zero_k (kC sFpOk_k (kC sL07Right_k (kC sFpRoot_k (kC sFpSub_k (kC sPointText_k kN)))))) Tryz.func69 (by decide) (by kernel_rfl)
noncomputable def sPointNeg_F:FnD:={f:=222,fn:=Tryz.f222,ps:=[pa TPoint],rs:=[rt TPoint]}
noncomputable def sPointNeg_c:List (Nat×Sig):=[(116,sL07Zero_g),(120,sFpSub_g)]
noncomputable def sPointNeg_d:tPoint×Unit→Option ((tPoint×Unit)×Unit):=sPointNeg_F.d V sPointNeg_c
noncomputable abbrev sPointNeg_g:Sig:=sPointNeg_F.t.sig sPointNeg_d
theorem sPointNeg_b (x1:tPoint):sPointNeg_d (x1,())=cnd x1.2.2.1 (bnd (sL07Zero_d ()) (fun r1=>(some ((r1.1.1,()),())))) (bnd (sFpSub_d (0,(x1.2.1,()))) (fun r1=>(some (((x1.1,(r1.1.1,(false,()))),()),())))):=(FnD.eq V sPointNeg_c sPointNeg_F (x1,())).trans (by kernel_rfl)
theorem sPointNeg_k:CallsOk Tryz.prog gls gvs 222 sPointNeg_g:=FnD.ok (F:=sPointNeg_F) (cs:=sPointNeg_c) V_ok (kC sL07Zero_k (kC sFpSub_k kN)) Tryz.func222 (by decide) (by kernel_rfl)
noncomputable def sFpInv_F:FnD:={f:=228,fn:=Tryz.f228,ps:=[pa (.int .i64)],rs:=[rt (.int .i64)]}
noncomputable def sFpInv_c:List (Nat×Sig):=[(165,sFpPow_g)]
noncomputable def sFpInv_d:Int×Unit→Option ((Int×Unit)×Unit):=sFpInv_F.d V sFpInv_c
noncomputable abbrev sFpInv_g:Sig:=sFpInv_F.t.sig sFpInv_d
theorem sFpInv_b (x1:Int):sFpInv_d (x1,())=bnd (sFpPow_d (x1,(12105,()))) (fun r1=>(some ((r1.1.1,()),()))):=(FnD.eq V sFpInv_c sFpInv_F (x1,())).trans (by kernel_rfl)
theorem sFpInv_k:CallsOk Tryz.prog gls gvs 228 sFpInv_g:=FnD.ok (F:=sFpInv_F) (cs:=sFpInv_c) V_ok (kC sFpPow_k kN) Tryz.func228 (by decide) (by kernel_rfl)
noncomputable def sL07Slope_F:FnD:={f:=238,fn:=Tryz.f238,ps:=[pa TPoint,pa TPoint],rs:=[rt (.int .i64),rt .bool]}
noncomputable def sL07Slope_c:List (Nat×Sig):=[(120,sFpSub_g),(228,sFpInv_g),(166,sFpMul_g),(168,sFpAdd_g)]
noncomputable def sL07Slope_d:tPoint×tPoint×Unit→Option ((Int×Bool×Unit)×Unit):=sL07Slope_F.d V sL07Slope_c
noncomputable abbrev sL07Slope_g:Sig:=sL07Slope_F.t.sig sL07Slope_d
theorem sL07Slope_b (x1:tPoint) (x2:tPoint):sL07Slope_d (x1,(x2,()))=cnd (ine x1.1 x2.1) (bnd (sFpSub_d (x2.2.1,(x1.2.1,()))) (fun r2=>(bnd (sFpSub_d (x2.1,(x1.1,()))) (fun r3=>(bnd (sFpInv_d (r3.1.1,())) (fun r4=>(bnd (sFpMul_d (r2.1.1,(r4.1.1,()))) (fun r5=>(some ((r5.1.1,(true,())),())))))))))) (bnd (sFpAdd_d (x1.2.1,(x2.2.1,()))) (fun r2=>(cnd (ieq r2.1.1 0) (some ((0,(false,())),())) (bnd (sFpMul_d (x1.1,(x1.1,()))) (fun r3=>(bnd (sFpMul_d (3,(r3.1.1,()))) (fun r4=>(bnd (sFpAdd_d (r4.1.1,(1,()))) (fun r5=>(bnd (sFpMul_d (2,(x1.2.1,()))) (fun r6=>(bnd (sFpInv_d (r6.1.1,())) (fun r7=>(bnd (sFpMul_d (r5.1.1,(r7.1.1,()))) (fun r8=>(some ((r8.1.1,(true,())),()))))))))))))))))):=(FnD.eq V sL07Slope_c sL07Slope_F (x1,(x2,()))).trans (by kernel_rfl)
theorem sL07Slope_k:CallsOk Tryz.prog gls gvs 238 sL07Slope_g:=FnD.ok (F:=sL07Slope_F) (cs:=sL07Slope_c) V_ok (kC sFpSub_k (kC sFpInv_k (kC sFpMul_k (kC sFpAdd_k kN)))) Tryz.func238 (by decide) (by kernel_rfl)
noncomputable def sL07Add_F:FnD:={f:=221,fn:=Tryz.f221,ps:=[pa TPoint,pa TPoint],rs:=[rt TPoint]}
noncomputable def sL07Add_c:List (Nat×Sig):=[(238,sL07Slope_g),(116,sL07Zero_g),(166,sFpMul_g),(120,sFpSub_g)]
noncomputable def sL07Add_d:tPoint×tPoint×Unit→Option ((tPoint×Unit)×Unit):=sL07Add_F.d V sL07Add_c
noncomputable abbrev sL07Add_g:Sig:=sL07Add_F.t.sig sL07Add_d
theorem sL07Add_b (x1:tPoint) (x2:tPoint):sL07Add_d (x1,(x2,()))=cnd x1.2.2.1 (some ((x2,()),())) (cnd x2.2.2.1 (some ((x1,()),())) (bnd (sL07Slope_d (x1,(x2,()))) (fun r2=>(cnd (bnot r2.1.2.1) (bnd (sL07Zero_d ()) (fun r3=>(some ((r3.1.1,()),())))) (bnd (sFpMul_d (r2.1.1,(r2.1.1,()))) (fun r3=>(bnd (sFpSub_d (r3.1.1,(x1.1,()))) (fun r4=>(bnd (sFpSub_d (r4.1.1,(x2.1,()))) (fun r5=>(bnd (sFpSub_d (x1.1,(r5.1.1,()))) (fun r6=>(bnd (sFpMul_d (r2.1.1,(r6.1.1,()))) (fun r7=>(bnd (sFpSub_d (r7.1.1,(x1.2.1,()))) (fun r8=>(some (((r5.1.1,(r8.1.1,(false,()))),()),())))))))))))))))))):=(FnD.eq V sL07Add_c sL07Add_F (x1,(x2,()))).trans (by kernel_rfl)
theorem sL07Add_k:CallsOk Tryz.prog gls gvs 221 sL07Add_g:=FnD.ok (F:=sL07Add_F) (cs:=sL07Add_c) V_ok (kC sL07Slope_k (kC sL07Zero_k (kC sFpMul_k (kC sFpSub_k kN)))) Tryz.func221 (by decide) (by kernel_rfl)
noncomputable def sPointTimes_F:FnD:={f:=201,fn:=Tryz.f201,ps:=[pa (.int .i64),pa TPoint],rs:=[rt TPoint],joins:=[8,12],cuts:=[(8,[.val 5 (.int .i64) .sh, .box 4 TPoint .sh, .box 6 TPoint .sh, .ptr 4 4 0, .ptr 6 6 0]),(12,[.val 5 (.int .i64) .sh, .box 4 TPoint .sh, .box 6 TPoint .sh, .box 7 TPoint .sh, .ptr 4 4 0, .ptr 6 6 0, .ptr 7 7 0]),(9,[.val 5 (.int .i64) .sh, .box 4 TPoint .sh, .box 6 TPoint .sh, .box 7 TPoint .sh, .ptr 4 4 0, .ptr 6 6 0, .ptr 7 7 0])]}
noncomputable def sPointTimes_c:List (Nat×Sig):=[(169,sPointOk_g),(116,sL07Zero_g),(222,sPointNeg_g),(221,sL07Add_g)]
noncomputable def sPointTimes_d:Int×tPoint×Unit→Option ((tPoint×Unit)×Unit):=sPointTimes_F.d V sPointTimes_c
noncomputable abbrev sPointTimes_g:Sig:=sPointTimes_F.t.sig sPointTimes_d
noncomputable def sPointTimes_D8:Int×tPoint×tPoint×Unit→Option ((tPoint×Unit)×Unit):=sPointTimes_F.D V sPointTimes_c 8
noncomputable def sPointTimes_D12:Int×tPoint×tPoint×tPoint×Unit→Option ((tPoint×Unit)×Unit):=sPointTimes_F.D V sPointTimes_c 12
noncomputable def sPointTimes_D9:Int×tPoint×tPoint×tPoint×Unit→Option ((tPoint×Unit)×Unit):=sPointTimes_F.D V sPointTimes_c 9
theorem sPointTimes_b (x1:Int) (x2:tPoint):sPointTimes_d (x1,(x2,()))=bnd (sPointOk_d (x2,())) (fun r2=>(cnd (bnot r2.1.1) (bnd (sL07Zero_d ()) (fun r3=>(some ((r3.1.1,()),())))) (cnd (nz 12108) (cnd (ilt (irem x1 12108) 0) (bnd (sPointNeg_d (x2,())) (fun r3=>(sPointTimes_D8 ((ineg .i64 (irem x1 12108)),(zPoint,(r3.1.1,())))))) (sPointTimes_D8 ((irem x1 12108),(zPoint,(x2,()))))) none))):=(FnD.eq V sPointTimes_c sPointTimes_F (x1,(x2,()))).trans (by kernel_rfl)
theorem sPointTimes_q8 (x1:Int) (x2:tPoint) (x3:tPoint):sPointTimes_D8 (x1,(x2,(x3,())))=bnd (sL07Zero_d ()) (fun r3=>(sPointTimes_D9 (x1,(x2,(x3,(r3.1.1,())))))):=(FnD.eqC V sPointTimes_c sPointTimes_F 8 (x1,(x2,(x3,())))).trans (by kernel_rfl)
theorem sPointTimes_q12 (x1:Int) (x2:tPoint) (x3:tPoint) (x4:tPoint):sPointTimes_D12 (x1,(x2,(x3,(x4,()))))=bnd (sL07Add_d (x3,(x3,()))) (fun r4=>(cnd (nz 2) (sPointTimes_D9 ((iquo .i64 x1 2),(x2,(r4.1.1,(x4,()))))) none)):=(FnD.eqC V sPointTimes_c sPointTimes_F 12 (x1,(x2,(x3,(x4,()))))).trans (by kernel_rfl)
theorem sPointTimes_q9 (x1:Int) (x2:tPoint) (x3:tPoint) (x4:tPoint):sPointTimes_D9 (x1,(x2,(x3,(x4,()))))=cnd (igt x1 0) (cnd (nz 2) (cnd (ieq (irem x1 2) 1) (bnd (sL07Add_d (x4,(x3,()))) (fun r4=>(sPointTimes_D12 (x1,(x2,(x3,(r4.1.1,()))))))) (sPointTimes_D12 (x1,(x2,(x3,(x4,())))))) none) (some ((x4,()),())):=(FnD.eqC V sPointTimes_c sPointTimes_F 9 (x1,(x2,(x3,(x4,()))))).trans (by kernel_rfl)
theorem sPointTimes_k:CallsOk Tryz.prog gls gvs 201 sPointTimes_g:=FnD.ok (F:=sPointTimes_F) (cs:=sPointTimes_c) V_ok (kC sPointOk_k (kC sL07Zero_k (kC sPointNeg_k (kC sL07Add_k kN)))) Tryz.func201 (by decide) (by kernel_rfl)
noncomputable def sInGroup_F:FnD:={f:=170,fn:=Tryz.f170,ps:=[pa TPoint],rs:=[rt .bool]}
noncomputable def sInGroup_c:List (Nat×Sig):=[(169,sPointOk_g),(201,sPointTimes_g)]
noncomputable def sInGroup_d:tPoint×Unit→Option ((Bool×Unit)×Unit):=sInGroup_F.d V sInGroup_c
noncomputable abbrev sInGroup_g:Sig:=sInGroup_F.t.sig sInGroup_d
theorem sInGroup_b (x1:tPoint):sInGroup_d (x1,())=bnd (sPointOk_d (x1,())) (fun r1=>(cnd r1.1.1 (bnd (sPointTimes_d (1009,(x1,()))) (fun r2=>(some ((r2.1.1.2.2.1,()),())))) (some ((false,()),())))):=(FnD.eq V sInGroup_c sInGroup_F (x1,())).trans (by kernel_rfl)
theorem sInGroup_k:CallsOk Tryz.prog gls gvs 170 sInGroup_g:=FnD.ok (F:=sInGroup_F) (cs:=sInGroup_c) V_ok (kC sPointOk_k (kC sPointTimes_k kN)) Tryz.func170 (by decide) (by kernel_rfl)
noncomputable def sCommitteeOk_F:FnD:={f:=163,fn:=Tryz.f163,ps:=[pa TCommittee],rs:=[rt .bool],cuts:=[(2,[.val 3 (.int .i64) .sh, .box 1 TCommittee .sh, .ptr 1 1 0])]}
noncomputable def sCommitteeOk_c:List (Nat×Sig):=[(170,sInGroup_g)]
noncomputable def sCommitteeOk_d:tCommittee×Unit→Option ((Bool×Unit)×Unit):=sCommitteeOk_F.d V sCommitteeOk_c
noncomputable abbrev sCommitteeOk_g:Sig:=sCommitteeOk_F.t.sig sCommitteeOk_d
noncomputable def sCommitteeOk_D2:Int×tCommittee×Unit→Option ((Bool×Unit)×Unit):=sCommitteeOk_F.D V sCommitteeOk_c 2
theorem sCommitteeOk_b (x1:tCommittee):sCommitteeOk_d (x1,())=sCommitteeOk_D2 (0,(x1,())):=(FnD.eq V sCommitteeOk_c sCommitteeOk_F (x1,())).trans (by kernel_rfl)
theorem sCommitteeOk_q2 (x1:Int) (x2:tCommittee):sCommitteeOk_D2 (x1,(x2,()))=cnd (ilt x1 (len x2.1)) (cnd (inb x1 (len x2.1)) (bnd (sInGroup_d ((rd zPoint x2.1 x1),())) (fun r2=>(cnd (bnot r2.1.1) (some ((false,()),())) (cnd (inb x1 (len x2.1)) (cnd (rd zPoint x2.1 x1).2.2.1 (some ((false,()),())) (sCommitteeOk_D2 ((iadd .i64 x1 1),(x2,())))) none)))) none) (some (((ieq (len x2.1) 8),()),())):=(FnD.eqC V sCommitteeOk_c sCommitteeOk_F 2 (x1,(x2,()))).trans (by kernel_rfl)
theorem sCommitteeOk_k:CallsOk Tryz.prog gls gvs 163 sCommitteeOk_g:=FnD.ok (F:=sCommitteeOk_F) (cs:=sCommitteeOk_c) V_ok (kC sInGroup_k kN) Tryz.func163 (by decide) (by kernel_rfl)
noncomputable def sPointAdd_F:FnD:={f:=200,fn:=Tryz.f200,ps:=[pa TPoint,pa TPoint],rs:=[rt TPoint]}
noncomputable def sPointAdd_c:List (Nat×Sig):=[(169,sPointOk_g),(116,sL07Zero_g),(221,sL07Add_g)]
noncomputable def sPointAdd_d:tPoint×tPoint×Unit→Option ((tPoint×Unit)×Unit):=sPointAdd_F.d V sPointAdd_c
noncomputable abbrev sPointAdd_g:Sig:=sPointAdd_F.t.sig sPointAdd_d
theorem sPointAdd_b (x1:tPoint) (x2:tPoint):sPointAdd_d (x1,(x2,()))=bnd (sPointOk_d (x1,())) (fun r2=>(cnd (bnot r2.1.1) (bnd (sL07Zero_d ()) (fun r3=>(some ((r3.1.1,()),())))) (bnd (sPointOk_d (x2,())) (fun r3=>(cnd (bnot r3.1.1) (bnd (sL07Zero_d ()) (fun r4=>(some ((r4.1.1,()),())))) (bnd (sL07Add_d (x1,(x2,()))) (fun r4=>(some ((r4.1.1,()),()))))))))):=(FnD.eq V sPointAdd_c sPointAdd_F (x1,(x2,()))).trans (by kernel_rfl)
theorem sPointAdd_k:CallsOk Tryz.prog gls gvs 200 sPointAdd_g:=FnD.ok (F:=sPointAdd_F) (cs:=sPointAdd_c) V_ok (kC sPointOk_k (kC sL07Zero_k (kC sL07Add_k kN))) Tryz.func200 (by decide) (by kernel_rfl)
noncomputable def sSumPoints_F:FnD:={f:=164,fn:=Tryz.f164,ps:=[pa (.sl TPoint)],rs:=[rt TPoint],cuts:=[(3,[.val 0 (.sl TPoint) .sh, .val 4 (.int .i64) .sh, .box 2 TPoint .sh, .box 3 TPoint .sh, .ptr 2 2 0, .ptr 3 3 0])]}
noncomputable def sSumPoints_c:List (Nat×Sig):=[(116,sL07Zero_g),(200,sPointAdd_g)]
noncomputable def sSumPoints_d:(List tPoint)×Unit→Option ((tPoint×Unit)×Unit):=sSumPoints_F.d V sSumPoints_c
noncomputable abbrev sSumPoints_g:Sig:=sSumPoints_F.t.sig sSumPoints_d
noncomputable def sSumPoints_D3:(List tPoint)×Int×tPoint×tPoint×Unit→Option ((tPoint×Unit)×Unit):=sSumPoints_F.D V sSumPoints_c 3
theorem sSumPoints_b (x1:(List tPoint)):sSumPoints_d (x1,())=bnd (sL07Zero_d ()) (fun r1=>(sSumPoints_D3 (x1,(0,(zPoint,(r1.1.1,())))))):=(FnD.eq V sSumPoints_c sSumPoints_F (x1,())).trans (by kernel_rfl)
theorem sSumPoints_q3 (x1:(List tPoint)) (x2:Int) (x3:tPoint) (x4:tPoint):sSumPoints_D3 (x1,(x2,(x3,(x4,()))))=cnd (ilt x2 (len x1)) (cnd (inb x2 (len x1)) (bnd (sPointAdd_d (x4,((rd zPoint x1 x2),()))) (fun r4=>(sSumPoints_D3 (x1,((iadd .i64 x2 1),(x3,(r4.1.1,()))))))) none) (some ((x4,()),())):=(FnD.eqC V sSumPoints_c sSumPoints_F 3 (x1,(x2,(x3,(x4,()))))).trans (by kernel_rfl)
theorem sSumPoints_k:CallsOk Tryz.prog gls gvs 164 sSumPoints_g:=FnD.ok (F:=sSumPoints_F) (cs:=sSumPoints_c) V_ok (kC sL07Zero_k (kC sPointAdd_k kN)) Tryz.func164 (by decide) (by kernel_rfl)
noncomputable def sCommitteeText_F:FnD:={f:=115,fn:=Tryz.f115,ps:=[pa TCommittee],rs:=[rt .str,rt .bool],cuts:=[(5,[.val 4 .str .sh, .val 5 (.int .i64) .sh, .box 1 TCommittee .sh, .ptr 1 1 0])]}
noncomputable def sCommitteeText_c:List (Nat×Sig):=[(163,sCommitteeOk_g),(121,sPointText_g),(164,sSumPoints_g)]
noncomputable def sCommitteeText_d:tCommittee×Unit→Option ((ByteArray×Bool×Unit)×Unit):=sCommitteeText_F.d V sCommitteeText_c
noncomputable abbrev sCommitteeText_g:Sig:=sCommitteeText_F.t.sig sCommitteeText_d
noncomputable def sCommitteeText_D5:ByteArray×Int×tCommittee×Unit→Option ((ByteArray×Bool×Unit)×Unit):=sCommitteeText_F.D V sCommitteeText_c 5
theorem sCommitteeText_b (x1:tCommittee):sCommitteeText_d (x1,())=bnd (sCommitteeOk_d (x1,())) (fun r1=>(cnd (bnot r1.1.1) (some (zL21Cur,())) (sCommitteeText_D5 ((bs []),(0,(x1,())))))):=(FnD.eq V sCommitteeText_c sCommitteeText_F (x1,())).trans (by kernel_rfl)
theorem sCommitteeText_q5 (x1:ByteArray) (x2:Int) (x3:tCommittee):sCommitteeText_D5 (x1,(x2,(x3,())))=cnd (ilt x2 (len x3.1)) (cnd (inb x2 (len x3.1)) (bnd (sPointText_d ((rd zPoint x3.1 x2),())) (fun r3=>(cnd (fits ((ssz x1)+(ssz r3.1.1)) 1) (sCommitteeText_D5 ((scat x1 r3.1.1),((iadd .i64 x2 1),(x3,())))) none))) none) (bnd (sSumPoints_d (x3.1,())) (fun r3=>(bnd (sPointText_d (r3.1.1,())) (fun r4=>(cnd (fits ((ssz x1)+(ssz r4.1.1)) 1) (some (((scat x1 r4.1.1),(true,())),())) none))))):=(FnD.eqC V sCommitteeText_c sCommitteeText_F 5 (x1,(x2,(x3,())))).trans (by kernel_rfl)
theorem sCommitteeText_k:CallsOk Tryz.prog gls gvs 115 sCommitteeText_g:=FnD.ok (F:=sCommitteeText_F) (cs:=sCommitteeText_c) V_ok (kC sCommitteeOk_k (kC sPointText_k (kC sSumPoints_k kN))) Tryz.func115 (by decide) (by kernel_rfl)
noncomputable def sReadCommittee_F:FnD:={f:=66,fn:=Tryz.f66,ps:=[pa .str],rs:=[⟨TCommittee,(.pr (.own 0 .sh) .sh),false⟩,rt .bool],cuts:=[(5,[.val 0 .str .sh, .val 5 (.int .i64) .sh, .box 2 TCommittee (.pr (.own 0 .sh) .sh), .box 4 TCommittee (.pr (.own 0 .sh) .sh), .ptr 2 2 0, .ptr 4 4 0])]}
noncomputable def sReadCommittee_c:List (Nat×Sig):=[(69,sReadPoint_g),(115,sCommitteeText_g)]
noncomputable def sReadCommittee_d:ByteArray×Unit→Option ((tCommittee×Bool×Unit)×Unit):=sReadCommittee_F.d V sReadCommittee_c
noncomputable abbrev sReadCommittee_g:Sig:=sReadCommittee_F.t.sig sReadCommittee_d
noncomputable def sReadCommittee_D5:ByteArray×Int×tCommittee×tCommittee×Unit→Option ((tCommittee×Bool×Unit)×Unit):=sReadCommittee_F.D V sReadCommittee_c 5
theorem sReadCommittee_b (x1:ByteArray):sReadCommittee_d (x1,())=cnd (ine (ssz x1) 27) (some ((zCommittee,(false,())),())) (sReadCommittee_D5 (x1,(0,(zCommittee,(zCommittee,()))))):=(FnD.eq V sReadCommittee_c sReadCommittee_F (x1,())).trans (by kernel_rfl)
theorem sReadCommittee_q5 (x1:ByteArray) (x2:Int) (x3:tCommittee) (x4:tCommittee):sReadCommittee_D5 (x1,(x2,(x3,(x4,()))))=cnd (ilt x2 8) (cnd (inb2 (imul .i64 3 x2) (iadd .i64 (imul .i64 3 x2) 3) (ssz x1)) (bnd (sReadPoint_d ((ssub x1 (imul .i64 3 x2) (iadd .i64 (imul .i64 3 x2) 3)),())) (fun r4=>(cnd (bnot r4.1.2.1) (some ((zCommittee,(false,())),())) (cnd (fits ((len x4.1)+(len (r4.1.1::([]:List tPoint)))) 3) (sReadCommittee_D5 (x1,((iadd .i64 x2 1),(x3,(((app x4.1 (r4.1.1::([]:List tPoint))),x4.2),()))))) none)))) none) (bnd (sCommitteeText_d (x4,())) (fun r4=>(cnd (bnot r4.1.2.1) (some ((zCommittee,(false,())),())) (cnd (sne r4.1.1 x1) (some ((zCommittee,(false,())),())) (some ((x4,(true,())),())))))):=(FnD.eqC V sReadCommittee_c sReadCommittee_F 5 (x1,(x2,(x3,(x4,()))))).trans (by kernel_rfl)
theorem sReadCommittee_k:CallsOk Tryz.prog gls gvs 66 sReadCommittee_g:=FnD.ok (F:=sReadCommittee_F) (cs:=sReadCommittee_c) V_ok (kC sReadPoint_k (kC sCommitteeText_k kN)) Tryz.func66 (by decide) (by kernel_rfl)
noncomputable def sL21Branch_F:FnD:={f:=68,fn:=Tryz.f68,ps:=[⟨TL21Cur, .sh,true,true,none⟩],rs:=[⟨(.sl .str),(.own 0 .sh),false⟩]}
noncomputable def sL21Branch_c:List (Nat×Sig):=[(67,sL21Take_g)]
noncomputable def sL21Branch_d:tL21Cur×Unit→Option (((List ByteArray)×Unit)×tL21Cur×Unit):=sL21Branch_F.d V sL21Branch_c
noncomputable abbrev sL21Branch_g:Sig:=sL21Branch_F.t.sig sL21Branch_d
theorem sL21Branch_b (x1:tL21Cur):sL21Branch_d (x1,())=bnd (sL21Take_d (x1,(32,()))) (fun r1=>(bnd (sL21Take_d (r1.2.1,(32,()))) (fun r2=>(some (((r1.1.1::(r2.1.1::([]:List ByteArray))),()),(r2.2.1,())))))):=(FnD.eq V sL21Branch_c sL21Branch_F (x1,())).trans (by kernel_rfl)
theorem sL21Branch_k:CallsOk Tryz.prog gls gvs 68 sL21Branch_g:=FnD.ok (F:=sL21Branch_F) (cs:=sL21Branch_c) V_ok (kC sL21Take_k kN) Tryz.func68 (by decide) (by kernel_rfl)
noncomputable def sProofText_F:FnD:={f:=122,fn:=Tryz.f122,ps:=[pa TProof],rs:=[rt .str,rt .bool]}
noncomputable def sProofText_c:List (Nat×Sig):=[(170,sInGroup_g),(121,sPointText_g)]
noncomputable def sProofText_d:tProof×Unit→Option ((ByteArray×Bool×Unit)×Unit):=sProofText_F.d V sProofText_c
noncomputable abbrev sProofText_g:Sig:=sProofText_F.t.sig sProofText_d
theorem sProofText_b (x1:tProof):sProofText_d (x1,())=bnd (sInGroup_d (x1.1,())) (fun r1=>(cnd (bnot r1.1.1) (some (zL21Cur,())) (bnd (sInGroup_d (x1.2.1,())) (fun r2=>(cnd (bnot r2.1.1) (some (zL21Cur,())) (bnd (sInGroup_d (x1.2.2.1,())) (fun r3=>(cnd (bnot r3.1.1) (some (zL21Cur,())) (bnd (sPointText_d (x1.1,())) (fun r4=>(bnd (sPointText_d (x1.2.1,())) (fun r5=>(cnd (fits ((ssz r4.1.1)+(ssz r5.1.1)) 1) (bnd (sPointText_d (x1.2.2.1,())) (fun r6=>(cnd (fits ((ssz (scat r4.1.1 r5.1.1))+(ssz r6.1.1)) 1) (some (((scat (scat r4.1.1 r5.1.1) r6.1.1),(true,())),())) none))) none))))))))))))):=(FnD.eq V sProofText_c sProofText_F (x1,())).trans (by kernel_rfl)
theorem sProofText_k:CallsOk Tryz.prog gls gvs 122 sProofText_g:=FnD.ok (F:=sProofText_F) (cs:=sProofText_c) V_ok (kC sInGroup_k (kC sPointText_k kN)) Tryz.func122 (by decide) (by kernel_rfl)
noncomputable def sReadProof_F:FnD:={f:=70,fn:=Tryz.f70,ps:=[pa .str],rs:=[rt TProof,rt .bool]}
noncomputable def sReadProof_c:List (Nat×Sig):=[(69,sReadPoint_g),(122,sProofText_g)]
noncomputable def sReadProof_d:ByteArray×Unit→Option ((tProof×Bool×Unit)×Unit):=sReadProof_F.d V sReadProof_c
noncomputable abbrev sReadProof_g:Sig:=sReadProof_F.t.sig sReadProof_d
theorem sReadProof_b (x1:ByteArray):sReadProof_d (x1,())=cnd (ine (ssz x1) 9) (some ((zProof,(false,())),())) (cnd (inb2 0 3 (ssz x1)) (bnd (sReadPoint_d ((ssub x1 0 3),())) (fun r1=>(cnd (inb2 3 6 (ssz x1)) (bnd (sReadPoint_d ((ssub x1 3 6),())) (fun r2=>(cnd (inb2 6 (ssz x1) (ssz x1)) (bnd (sReadPoint_d ((ssub x1 6 (ssz x1)),())) (fun r3=>(bnd (sProofText_d ((r1.1.1,(r2.1.1,(r3.1.1,()))),())) (fun r4=>(cnd (bnot r1.1.2.1) (some ((zProof,(false,())),())) (cnd (bnot r2.1.2.1) (some ((zProof,(false,())),())) (cnd (bnot r3.1.2.1) (some ((zProof,(false,())),())) (cnd (bnot r4.1.2.1) (some ((zProof,(false,())),())) (some (((r1.1.1,(r2.1.1,(r3.1.1,()))),(true,())),())))))))))) none))) none))) none):=(FnD.eq V sReadProof_c sReadProof_F (x1,())).trans (by kernel_rfl)
theorem sReadProof_k:CallsOk Tryz.prog gls gvs 70 sReadProof_g:=FnD.ok (F:=sReadProof_F) (cs:=sReadProof_c) V_ok (kC sReadPoint_k (kC sProofText_k kN)) Tryz.func70 (by decide) (by kernel_rfl)
noncomputable def sBranchOk_F:FnD:={f:=171,fn:=Tryz.f171,ps:=[pa (.sl .str)],rs:=[rt .bool],cuts:=[(2,[.val 0 (.sl .str) .sh, .val 3 (.int .i64) .sh])]}
noncomputable def sBranchOk_c:List (Nat×Sig):=[]
noncomputable def sBranchOk_d:(List ByteArray)×Unit→Option ((Bool×Unit)×Unit):=sBranchOk_F.d V sBranchOk_c
noncomputable abbrev sBranchOk_g:Sig:=sBranchOk_F.t.sig sBranchOk_d
noncomputable def sBranchOk_D2:(List ByteArray)×Int×Unit→Option ((Bool×Unit)×Unit):=sBranchOk_F.D V sBranchOk_c 2
theorem sBranchOk_b (x1:(List ByteArray)):sBranchOk_d (x1,())=sBranchOk_D2 (x1,(0,())):=(FnD.eq V sBranchOk_c sBranchOk_F (x1,())).trans (by kernel_rfl)
theorem sBranchOk_q2 (x1:(List ByteArray)) (x2:Int):sBranchOk_D2 (x1,(x2,()))=cnd (ilt x2 (len x1)) (cnd (inb x2 (len x1)) (cnd (ine (ssz (rd (bs []) x1 x2)) 32) (some ((false,()),())) (sBranchOk_D2 (x1,((iadd .i64 x2 1),())))) none) (some (((ieq (len x1) 2),()),())):=(FnD.eqC V sBranchOk_c sBranchOk_F 2 (x1,(x2,()))).trans (by kernel_rfl)
theorem sBranchOk_k:CallsOk Tryz.prog gls gvs 171 sBranchOk_g:=FnD.ok (F:=sBranchOk_F) (cs:=sBranchOk_c) V_ok kN Tryz.func171 (by decide) (by kernel_rfl)
noncomputable def sUpdateOk_F:FnD:={f:=125,fn:=Tryz.f125,ps:=[pa TUpdate],rs:=[rt .bool]}
noncomputable def sUpdateOk_c:List (Nat×Sig):=[(162,sHeadOk_g),(163,sCommitteeOk_g),(171,sBranchOk_g),(123,sL01In_g),(170,sInGroup_g)]
noncomputable def sUpdateOk_d:tUpdate×Unit→Option ((Bool×Unit)×Unit):=sUpdateOk_F.d V sUpdateOk_c
noncomputable abbrev sUpdateOk_g:Sig:=sUpdateOk_F.t.sig sUpdateOk_d
theorem sUpdateOk_b (x1:tUpdate):sUpdateOk_d (x1,())=bnd (sHeadOk_d (x1.1,())) (fun r1=>(cnd (bnot r1.1.1) (some ((false,()),())) (bnd (sHeadOk_d (x1.2.2.2.1,())) (fun r2=>(cnd (bnot r2.1.1) (some ((false,()),())) (bnd (sCommitteeOk_d (x1.2.1,())) (fun r3=>(cnd (bnot r3.1.1) (some ((false,()),())) (bnd (sBranchOk_d (x1.2.2.1,())) (fun r4=>(cnd (bnot r4.1.1) (some ((false,()),())) (bnd (sBranchOk_d (x1.2.2.2.2.1,())) (fun r5=>(cnd (bnot r5.1.1) (some ((false,()),())) (bnd (sL01In_d (x1.2.2.2.2.2.1,(0,(255,())))) (fun r6=>(cnd r6.1.1 (bnd (sInGroup_d (x1.2.2.2.2.2.2.1,())) (fun r7=>(cnd r7.1.1 (bnd (sInGroup_d (x1.2.2.2.2.2.2.2.1.1,())) (fun r8=>(cnd r8.1.1 (bnd (sInGroup_d (x1.2.2.2.2.2.2.2.1.2.1,())) (fun r9=>(cnd r9.1.1 (bnd (sInGroup_d (x1.2.2.2.2.2.2.2.1.2.2.1,())) (fun r10=>(cnd r10.1.1 (bnd (sL01In_d (x1.2.2.2.2.2.2.2.2.1,(0,(10000,())))) (fun r11=>(some ((r11.1.1,()),())))) (some ((false,()),()))))) (some ((false,()),()))))) (some ((false,()),()))))) (some ((false,()),()))))) (some ((false,()),()))))))))))))))))))):=(FnD.eq V sUpdateOk_c sUpdateOk_F (x1,())).trans (by kernel_rfl)
theorem sUpdateOk_k:CallsOk Tryz.prog gls gvs 125 sUpdateOk_g:=FnD.ok (F:=sUpdateOk_F) (cs:=sUpdateOk_c) V_ok (kC sHeadOk_k (kC sCommitteeOk_k (kC sBranchOk_k (kC sL01In_k (kC sInGroup_k kN))))) Tryz.func125 (by decide) (by kernel_rfl)
noncomputable def sHeadText_F:FnD:={f:=126,fn:=Tryz.f126,ps:=[pa THead],rs:=[rt .str,rt .bool]}
noncomputable def sHeadText_c:List (Nat×Sig):=[(162,sHeadOk_g),(124,sL01Var_g)]
noncomputable def sHeadText_d:tHead×Unit→Option ((ByteArray×Bool×Unit)×Unit):=sHeadText_F.d V sHeadText_c
noncomputable abbrev sHeadText_g:Sig:=sHeadText_F.t.sig sHeadText_d
theorem sHeadText_b (x1:tHead):sHeadText_d (x1,())=bnd (sHeadOk_d (x1,())) (fun r1=>(cnd (bnot r1.1.1) (some (zL21Cur,())) (bnd (sL01Var_d (x1.1,())) (fun r2=>(cnd (fits ((ssz r2.1.1)+(ssz x1.2.1)) 1) (cnd (fits ((ssz (scat r2.1.1 x1.2.1))+(ssz x1.2.2.1)) 1) (cnd (fits ((ssz (scat (scat r2.1.1 x1.2.1) x1.2.2.1))+(ssz x1.2.2.2.1)) 1) (some (((scat (scat (scat r2.1.1 x1.2.1) x1.2.2.1) x1.2.2.2.1),(true,())),())) none) none) none))))):=(FnD.eq V sHeadText_c sHeadText_F (x1,())).trans (by kernel_rfl)
theorem sHeadText_k:CallsOk Tryz.prog gls gvs 126 sHeadText_g:=FnD.ok (F:=sHeadText_F) (cs:=sHeadText_c) V_ok (kC sHeadOk_k (kC sL01Var_k kN)) Tryz.func126 (by decide) (by kernel_rfl)
noncomputable def sSealed_F:FnD:={f:=127,fn:=Tryz.f127,ps:=[pa .str],rs:=[rt .str,rt .bool]}
noncomputable def sSealed_c:List (Nat×Sig):=[(113,sSumOf_g),(112,sL02Four_g)]
noncomputable def sSealed_d:ByteArray×Unit→Option ((ByteArray×Bool×Unit)×Unit):=sSealed_F.d V sSealed_c
noncomputable abbrev sSealed_g:Sig:=sSealed_F.t.sig sSealed_d
theorem sSealed_b (x1:ByteArray):sSealed_d (x1,())=cnd (igt (ssz x1) 20000) (some (zL21Cur,())) (bnd (sSumOf_d (x1,())) (fun r1=>(bnd (sL02Four_d (r1.1.1,())) (fun r2=>(cnd (fits ((ssz x1)+(ssz r2.1.1)) 1) (some (((scat x1 r2.1.1),(true,())),())) none))))):=(FnD.eq V sSealed_c sSealed_F (x1,())).trans (by kernel_rfl)
theorem sSealed_k:CallsOk Tryz.prog gls gvs 127 sSealed_g:=FnD.ok (F:=sSealed_F) (cs:=sSealed_c) V_ok (kC sSumOf_k (kC sL02Four_k kN)) Tryz.func127 (by decide) (by kernel_rfl)
noncomputable def sUpdateText_F:FnD:={f:=72,fn:=Tryz.f72,ps:=[pa TUpdate],rs:=[rt .str,rt .bool]}
noncomputable def sUpdateText_c:List (Nat×Sig):=[(125,sUpdateOk_g),(126,sHeadText_g),(115,sCommitteeText_g),(122,sProofText_g),(121,sPointText_g),(124,sL01Var_g),(127,sSealed_g)]
noncomputable def sUpdateText_d:tUpdate×Unit→Option ((ByteArray×Bool×Unit)×Unit):=sUpdateText_F.d V sUpdateText_c
noncomputable abbrev sUpdateText_g:Sig:=sUpdateText_F.t.sig sUpdateText_d
theorem sUpdateText_b (x1:tUpdate):sUpdateText_d (x1,())=bnd (sUpdateOk_d (x1,())) (fun r1=>(cnd (bnot r1.1.1) (some (zL21Cur,())) (bnd (sHeadText_d (x1.1,())) (fun r2=>(bnd (sCommitteeText_d (x1.2.1,())) (fun r3=>(bnd (sHeadText_d (x1.2.2.2.1,())) (fun r4=>(bnd (sProofText_d (x1.2.2.2.2.2.2.2.1,())) (fun r5=>(cnd (fits ((ssz r2.1.1)+(ssz r3.1.1)) 1) (cnd (inb 0 (len x1.2.2.1)) (cnd (fits ((ssz (scat r2.1.1 r3.1.1))+(ssz (rd (bs []) x1.2.2.1 0))) 1) (cnd (inb 1 (len x1.2.2.1)) (cnd (fits ((ssz (scat (scat r2.1.1 r3.1.1) (rd (bs []) x1.2.2.1 0)))+(ssz (rd (bs []) x1.2.2.1 1))) 1) (cnd (fits ((ssz (scat (scat (scat r2.1.1 r3.1.1) (rd (bs []) x1.2.2.1 0)) (rd (bs []) x1.2.2.1 1)))+(ssz r4.1.1)) 1) (cnd (inb 0 (len x1.2.2.2.2.1)) (cnd (fits ((ssz (scat (scat (scat (scat r2.1.1 r3.1.1) (rd (bs []) x1.2.2.1 0)) (rd (bs []) x1.2.2.1 1)) r4.1.1))+(ssz (rd (bs []) x1.2.2.2.2.1 0))) 1) (cnd (inb 1 (len x1.2.2.2.2.1)) (cnd (fits ((ssz (scat (scat (scat (scat (scat r2.1.1 r3.1.1) (rd (bs []) x1.2.2.1 0)) (rd (bs []) x1.2.2.1 1)) r4.1.1) (rd (bs []) x1.2.2.2.2.1 0)))+(ssz (rd (bs []) x1.2.2.2.2.1 1))) 1) (cnd (fits ((ssz (scat (scat (scat (scat (scat (scat r2.1.1 r3.1.1) (rd (bs []) x1.2.2.1 0)) (rd (bs []) x1.2.2.1 1)) r4.1.1) (rd (bs []) x1.2.2.2.2.1 0)) (rd (bs []) x1.2.2.2.2.1 1)))+(ssz (sof ((iconv .u8 x1.2.2.2.2.2.1)::([]:List Int))))) 1) (bnd (sPointText_d (x1.2.2.2.2.2.2.1,())) (fun r6=>(cnd (fits ((ssz (scat (scat (scat (scat (scat (scat (scat r2.1.1 r3.1.1) (rd (bs []) x1.2.2.1 0)) (rd (bs []) x1.2.2.1 1)) r4.1.1) (rd (bs []) x1.2.2.2.2.1 0)) (rd (bs []) x1.2.2.2.2.1 1)) (sof ((iconv .u8 x1.2.2.2.2.2.1)::([]:List Int)))))+(ssz r6.1.1)) 1) (cnd (fits ((ssz (scat (scat (scat (scat (scat (scat (scat (scat r2.1.1 r3.1.1) (rd (bs []) x1.2.2.1 0)) (rd (bs []) x1.2.2.1 1)) r4.1.1) (rd (bs []) x1.2.2.2.2.1 0)) (rd (bs []) x1.2.2.2.2.1 1)) (sof ((iconv .u8 x1.2.2.2.2.2.1)::([]:List Int)))) r6.1.1))+(ssz r5.1.1)) 1) (bnd (sL01Var_d (x1.2.2.2.2.2.2.2.2.1,())) (fun r7=>(cnd (fits ((ssz (scat (scat (scat (scat (scat (scat (scat (scat (scat r2.1.1 r3.1.1) (rd (bs []) x1.2.2.1 0)) (rd (bs []) x1.2.2.1 1)) r4.1.1) (rd (bs []) x1.2.2.2.2.1 0)) (rd (bs []) x1.2.2.2.2.1 1)) (sof ((iconv .u8 x1.2.2.2.2.2.1)::([]:List Int)))) r6.1.1) r5.1.1))+(ssz r7.1.1)) 1) (bnd (sSealed_d ((scat (scat (scat (scat (scat (scat (scat (scat (scat (scat r2.1.1 r3.1.1) (rd (bs []) x1.2.2.1 0)) (rd (bs []) x1.2.2.1 1)) r4.1.1) (rd (bs []) x1.2.2.2.2.1 0)) (rd (bs []) x1.2.2.2.2.1 1)) (sof ((iconv .u8 x1.2.2.2.2.2.1)::([]:List Int)))) r6.1.1) r5.1.1) r7.1.1),())) (fun r8=>(some ((r8.1.1,(r8.1.2.1,())),())))) none))) none) none))) none) none) none) none) none) none) none) none) none) none) none))))))))))):=(FnD.eq V sUpdateText_c sUpdateText_F (x1,())).trans (by kernel_rfl)
theorem sUpdateText_k:CallsOk Tryz.prog gls gvs 72 sUpdateText_g:=FnD.ok (F:=sUpdateText_F) (cs:=sUpdateText_c) V_ok (kC sUpdateOk_k (kC sHeadText_k (kC sCommitteeText_k (kC sProofText_k (kC sPointText_k (kC sL01Var_k (kC sSealed_k kN))))))) Tryz.func72 (by decide) (by kernel_rfl)
noncomputable def sReadUpdate_F:FnD:={f:=32,fn:=Tryz.f32,ps:=[pa .str],rs:=[rt TUpdate,rt .bool],al:=true,joins:=[14],cuts:=[(14,[.val 0 .str .sh, .val 9 .bool .sh, .box 2 TUpdate (.pr .sh (.pr (.pr (.own 0 .sh) .sh) (.pr (.own 0 .sh) (.pr .sh (.pr (.own 0 .sh) .sh))))), .box 7 TUpdate (.pr .sh (.pr (.pr (.own 0 .sh) .sh) (.pr (.own 0 .sh) (.pr .sh (.pr (.own 0 .sh) .sh))))), .box 30 TL21Cur .sh, .ptr 2 2 0, .ptr 6 30 0, .ptr 7 7 0])]}
noncomputable def sReadUpdate_c:List (Nat×Sig):=[(64,sUnsealed_g),(65,sL21Head_g),(67,sL21Take_g),(66,sReadCommittee_g),(68,sL21Branch_g),(69,sReadPoint_g),(70,sReadProof_g),(71,sReadVar_g),(72,sUpdateText_g)]
noncomputable def sReadUpdate_d:ByteArray×Unit→Option ((tUpdate×Bool×Unit)×Unit):=sReadUpdate_F.d V sReadUpdate_c
noncomputable abbrev sReadUpdate_g:Sig:=sReadUpdate_F.t.sig sReadUpdate_d
noncomputable def sReadUpdate_D14:ByteArray×Bool×tUpdate×tUpdate×tL21Cur×Unit→Option ((tUpdate×Bool×Unit)×Unit):=sReadUpdate_F.D V sReadUpdate_c 14
theorem sReadUpdate_b (x1:ByteArray):sReadUpdate_d (x1,())=bnd (sUnsealed_d (x1,())) (fun r1=>(cnd (bnot r1.1.2.1) (some ((zUpdate,(false,())),())) (bnd (sL21Head_d ((r1.1.1,(false,())),())) (fun r2=>(bnd (sL21Take_d (r2.2.1,(27,()))) (fun r3=>(bnd (sReadCommittee_d (r3.1.1,())) (fun r4=>(bnd (sL21Branch_d (r3.2.1,())) (fun r5=>(bnd (sL21Head_d (r5.2.1,())) (fun r6=>(bnd (sL21Branch_d (r6.2.1,())) (fun r7=>(bnd (sL21Take_d (r7.2.1,(1,()))) (fun r8=>(cnd (sne r8.1.1 (bs [])) (cnd (inb 0 (ssz r8.1.1)) (sReadUpdate_D14 (x1,(r4.1.2.1,(zUpdate,((r2.1.1,(r4.1.1,(r5.1.1,(r6.1.1,(r7.1.1,((iconv .i64 (sat r8.1.1 0)),(zPoint,(zProof,(0,()))))))))),(r8.2.1,())))))) none) (sReadUpdate_D14 (x1,(r4.1.2.1,(zUpdate,((r2.1.1,(r4.1.1,(r5.1.1,(r6.1.1,(r7.1.1,(0,(zPoint,(zProof,(0,()))))))))),(r8.2.1,()))))))))))))))))))))))):=(FnD.eq V sReadUpdate_c sReadUpdate_F (x1,())).trans (by kernel_rfl)
theorem sReadUpdate_q14 (x1:ByteArray) (x2:Bool) (x3:tUpdate) (x4:tUpdate) (x5:tL21Cur):sReadUpdate_D14 (x1,(x2,(x3,(x4,(x5,())))))=bnd (sL21Take_d (x5,(3,()))) (fun r5=>(bnd (sReadPoint_d (r5.1.1,())) (fun r6=>(bnd (sL21Take_d (r5.2.1,(9,()))) (fun r7=>(bnd (sReadProof_d (r7.1.1,())) (fun r8=>(bnd (sReadVar_d (r7.2.1.1,(0,()))) (fun r9=>(cnd r7.2.1.2.1 (some ((zUpdate,(false,())),())) (cnd (bnot x2) (some ((zUpdate,(false,())),())) (cnd (bnot r6.1.2.1) (some ((zUpdate,(false,())),())) (cnd (bnot r8.1.2.1) (some ((zUpdate,(false,())),())) (cnd (bnot r9.1.2.2.1) (some ((zUpdate,(false,())),())) (cnd (ine r9.1.2.1 (ssz r7.2.1.1)) (some ((zUpdate,(false,())),())) (bnd (sUpdateText_d ((x4.1,(x4.2.1,(x4.2.2.1,(x4.2.2.2.1,(x4.2.2.2.2.1,(x4.2.2.2.2.2.1,(r6.1.1,(r8.1.1,(r9.1.1,x4.2.2.2.2.2.2.2.2.2))))))))),())) (fun r10=>(cnd (bnot r10.1.2.1) (some ((zUpdate,(false,())),())) (cnd (sne r10.1.1 x1) (some ((zUpdate,(false,())),())) (some (((x4.1,(x4.2.1,(x4.2.2.1,(x4.2.2.2.1,(x4.2.2.2.2.1,(x4.2.2.2.2.2.1,(r6.1.1,(r8.1.1,(r9.1.1,x4.2.2.2.2.2.2.2.2.2))))))))),(true,())),()))))))))))))))))))))):=(FnD.eqC V sReadUpdate_c sReadUpdate_F 14 (x1,(x2,(x3,(x4,(x5,())))))).trans (by kernel_rfl)
theorem sReadUpdate_k:CallsOk Tryz.prog gls gvs 32 sReadUpdate_g:=FnD.ok (F:=sReadUpdate_F) (cs:=sReadUpdate_c) V_ok (kC sUnsealed_k (kC sL21Head_k (kC sL21Take_k (kC sReadCommittee_k (kC sL21Branch_k (kC sReadPoint_k (kC sReadProof_k (kC sReadVar_k (kC sUpdateText_k kN))))))))) Tryz.func32 (by decide) (by kernel_rfl)
noncomputable def sClientOk_F:FnD:={f:=128,fn:=Tryz.f128,ps:=[pa TClient],rs:=[rt .bool]}
noncomputable def sClientOk_c:List (Nat×Sig):=[(162,sHeadOk_g),(163,sCommitteeOk_g)]
noncomputable def sClientOk_d:tClient×Unit→Option ((Bool×Unit)×Unit):=sClientOk_F.d V sClientOk_c
noncomputable abbrev sClientOk_g:Sig:=sClientOk_F.t.sig sClientOk_d
theorem sClientOk_b (x1:tClient):sClientOk_d (x1,())=bnd (sHeadOk_d (x1.1,())) (fun r1=>(cnd (bnot r1.1.1) (some ((false,()),())) (bnd (sCommitteeOk_d (x1.2.1,())) (fun r2=>(cnd (bnot r2.1.1) (some ((false,()),())) (cnd x1.2.2.2.1 (bnd (sCommitteeOk_d (x1.2.2.1,())) (fun r3=>(some ((r3.1.1,()),())))) (some (((ieq (len x1.2.2.1.1) 0),()),())))))))):=(FnD.eq V sClientOk_c sClientOk_F (x1,())).trans (by kernel_rfl)
theorem sClientOk_k:CallsOk Tryz.prog gls gvs 128 sClientOk_g:=FnD.ok (F:=sClientOk_F) (cs:=sClientOk_c) V_ok (kC sHeadOk_k (kC sCommitteeOk_k kN)) Tryz.func128 (by decide) (by kernel_rfl)
noncomputable def sPeriodOf_F:FnD:={f:=140,fn:=Tryz.f140,ps:=[pa (.int .i64)],rs:=[rt (.int .i64)]}
noncomputable def sPeriodOf_c:List (Nat×Sig):=[]
noncomputable def sPeriodOf_d:Int×Unit→Option ((Int×Unit)×Unit):=sPeriodOf_F.d V sPeriodOf_c
noncomputable abbrev sPeriodOf_g:Sig:=sPeriodOf_F.t.sig sPeriodOf_d
theorem sPeriodOf_b (x1:Int):sPeriodOf_d (x1,())=cnd (ilt x1 0) (some ((0,()),())) (cnd (nz 8) (some (((iquo .i64 x1 8),()),())) none):=(FnD.eq V sPeriodOf_c sPeriodOf_F (x1,())).trans (by kernel_rfl)
theorem sPeriodOf_k:CallsOk Tryz.prog gls gvs 140 sPeriodOf_g:=FnD.ok (F:=sPeriodOf_F) (cs:=sPeriodOf_c) V_ok kN Tryz.func140 (by decide) (by kernel_rfl)
noncomputable def sSigners_F:FnD:={f:=136,fn:=Tryz.f136,ps:=[pa TClient,pa (.int .i64)],rs:=[⟨TCommittee,(.pr (.own 0 .sh) .sh),false⟩,rt .bool]}
noncomputable def sSigners_c:List (Nat×Sig):=[(140,sPeriodOf_g),(63,sL22Committee_g)]
noncomputable def sSigners_d:tClient×Int×Unit→Option ((tCommittee×Bool×Unit)×Unit):=sSigners_F.d V sSigners_c
noncomputable abbrev sSigners_g:Sig:=sSigners_F.t.sig sSigners_d
theorem sSigners_b (x1:tClient) (x2:Int):sSigners_d (x1,(x2,()))=bnd (sPeriodOf_d (x2,())) (fun r2=>(bnd (sPeriodOf_d (x1.1.1,())) (fun r3=>(cnd (ieq r2.1.1 r3.1.1) (bnd (sL22Committee_d (x1.2.1,())) (fun r4=>(some ((r4.1.1,(true,())),())))) (cnd (ieq r2.1.1 (iadd .i64 r3.1.1 1)) (cnd x1.2.2.2.1 (bnd (sL22Committee_d (x1.2.2.1,())) (fun r4=>(some ((r4.1.1,(true,())),())))) (some ((zCommittee,(false,())),()))) (some ((zCommittee,(false,())),()))))))):=(FnD.eq V sSigners_c sSigners_F (x1,(x2,()))).trans (by kernel_rfl)
theorem sSigners_k:CallsOk Tryz.prog gls gvs 136 sSigners_g:=FnD.ok (F:=sSigners_F) (cs:=sSigners_c) V_ok (kC sPeriodOf_k (kC sL22Committee_k kN)) Tryz.func136 (by decide) (by kernel_rfl)
noncomputable def sL22Slots_F:FnD:={f:=129,fn:=Tryz.f129,ps:=[pa TClient,pa TUpdate,pa (.int .i64)],rs:=[rt (.int .i64)]}
noncomputable def sL22Slots_c:List (Nat×Sig):=[(136,sSigners_g),(140,sPeriodOf_g)]
noncomputable def sL22Slots_d:tClient×tUpdate×Int×Unit→Option ((Int×Unit)×Unit):=sL22Slots_F.d V sL22Slots_c
noncomputable abbrev sL22Slots_g:Sig:=sL22Slots_F.t.sig sL22Slots_d
theorem sL22Slots_b (x1:tClient) (x2:tUpdate) (x3:Int):sL22Slots_d (x1,(x2,(x3,())))=cnd (igt x2.2.2.2.1.1 x2.1.1) (some ((2,()),())) (cnd (ige x2.1.1 x2.2.2.2.2.2.2.2.2.1) (some ((2,()),())) (cnd (igt x2.2.2.2.2.2.2.2.2.1 x3) (some ((2,()),())) (bnd (sSigners_d (x1,(x2.2.2.2.2.2.2.2.2.1,()))) (fun r3=>(cnd (bnot r3.1.2.1) (some ((3,()),())) (bnd (sPeriodOf_d (x2.1.1,())) (fun r4=>(bnd (sPeriodOf_d (x2.2.2.2.2.2.2.2.2.1,())) (fun r5=>(cnd (ine r4.1.1 r5.1.1) (some ((3,()),())) (cnd (ile x2.2.2.2.1.1 x1.1.1) (cnd x1.2.2.2.1 (some ((4,()),())) (bnd (sPeriodOf_d (x2.1.1,())) (fun r6=>(bnd (sPeriodOf_d (x1.1.1,())) (fun r7=>(cnd (ine r6.1.1 r7.1.1) (some ((4,()),())) (some ((0,()),())))))))) (some ((0,()),()))))))))))))):=(FnD.eq V sL22Slots_c sL22Slots_F (x1,(x2,(x3,())))).trans (by kernel_rfl)
theorem sL22Slots_k:CallsOk Tryz.prog gls gvs 129 sL22Slots_g:=FnD.ok (F:=sL22Slots_F) (cs:=sL22Slots_c) V_ok (kC sSigners_k (kC sPeriodOf_k kN)) Tryz.func129 (by decide) (by kernel_rfl)
noncomputable def sKeccakPad_F:FnD:={f:=202,fn:=Tryz.f202,ps:=[pa .str],rs:=[rt .str],cuts:=[(3,[.val 3 (.sl (.int .u8)) (.own 0 .sh)])]}
noncomputable def sKeccakPad_c:List (Nat×Sig):=[]
noncomputable def sKeccakPad_d:ByteArray×Unit→Option ((ByteArray×Unit)×Unit):=sKeccakPad_F.d V sKeccakPad_c
noncomputable abbrev sKeccakPad_g:Sig:=sKeccakPad_F.t.sig sKeccakPad_d
noncomputable def sKeccakPad_D3:(List Int)×Unit→Option ((ByteArray×Unit)×Unit):=sKeccakPad_F.D V sKeccakPad_c 3
theorem sKeccakPad_b (x1:ByteArray):sKeccakPad_d (x1,())=cnd (fits ((len (sbytes x1))+(len (1::([]:List Int)))) 1) (sKeccakPad_D3 ((app (sbytes x1) (1::([]:List Int))),())) none:=(FnD.eq V sKeccakPad_c sKeccakPad_F (x1,())).trans (by kernel_rfl)
theorem sKeccakPad_q3 (x1:(List Int)):sKeccakPad_D3 (x1,())=cnd (nz 136) (cnd (ine (irem (len x1) 136) 0) (cnd (fits ((len x1)+(len (0::([]:List Int)))) 1) (sKeccakPad_D3 ((app x1 (0::([]:List Int))),())) none) (cnd (inb (isub .i64 (len x1) 1) (len x1)) (cnd (inb (isub .i64 (len x1) 1) (len x1)) (some (((sof (upd x1 (isub .i64 (len x1) 1) (ior .u8 (rd 0 x1 (isub .i64 (len x1) 1)) 128))),()),())) none) none)) none:=(FnD.eqC V sKeccakPad_c sKeccakPad_F 3 (x1,())).trans (by kernel_rfl)
theorem sKeccakPad_k:CallsOk Tryz.prog gls gvs 202 sKeccakPad_g:=FnD.ok (F:=sKeccakPad_F) (cs:=sKeccakPad_c) V_ok kN Tryz.func202 (by decide) (by kernel_rfl)
noncomputable def sL03Word_F:FnD:={f:=203,fn:=Tryz.f203,ps:=[pa .str,pa (.int .i64)],rs:=[rt (.int .u64)],cuts:=[(3,[.val 0 .str .sh, .val 1 (.int .i64) .sh, .val 5 (.int .u64) .sh, .val 6 (.int .i64) .sh])]}
noncomputable def sL03Word_c:List (Nat×Sig):=[]
noncomputable def sL03Word_d:ByteArray×Int×Unit→Option ((Int×Unit)×Unit):=sL03Word_F.d V sL03Word_c
noncomputable abbrev sL03Word_g:Sig:=sL03Word_F.t.sig sL03Word_d
noncomputable def sL03Word_D3:ByteArray×Int×Int×Int×Unit→Option ((Int×Unit)×Unit):=sL03Word_F.D V sL03Word_c 3
theorem sL03Word_b (x1:ByteArray) (x2:Int):sL03Word_d (x1,(x2,()))=sL03Word_D3 (x1,(x2,(0,(7,())))):=(FnD.eq V sL03Word_c sL03Word_F (x1,(x2,()))).trans (by kernel_rfl)
theorem sL03Word_q3 (x1:ByteArray) (x2:Int) (x3:Int) (x4:Int):sL03Word_D3 (x1,(x2,(x3,(x4,()))))=cnd (ige x4 0) (cnd (nn 8) (cnd (inb (iadd .i64 x2 x4) (ssz x1)) (sL03Word_D3 (x1,(x2,((ior .u64 (ishl .u64 x3 8) (iconv .u64 (sat x1 (iadd .i64 x2 x4)))),((isub .i64 x4 1),()))))) none) none) (some ((x3,()),())):=(FnD.eqC V sL03Word_c sL03Word_F 3 (x1,(x2,(x3,(x4,()))))).trans (by kernel_rfl)
theorem sL03Word_k:CallsOk Tryz.prog gls gvs 203 sL03Word_g:=FnD.ok (F:=sL03Word_F) (cs:=sL03Word_c) V_ok kN Tryz.func203 (by decide) (by kernel_rfl)
noncomputable def sL03Offsets_F:FnD:={f:=223,fn:=Tryz.f223,ps:=[],rs:=[rt (.arr 25 (.int .u64))]}
noncomputable def sL03Offsets_c:List (Nat×Sig):=[]
noncomputable def sL03Offsets_d:Unit→Option (((List Int)×Unit)×Unit):=sL03Offsets_F.d V sL03Offsets_c
noncomputable abbrev sL03Offsets_g:Sig:=sL03Offsets_F.t.sig sL03Offsets_d
theorem sL03Offsets_b:sL03Offsets_d ()=some (((0::(1::(62::(28::(27::(36::(44::(6::(55::(20::(3::(10::(43::(25::(39::(41::(45::(15::(21::(8::(18::(2::(61::(56::(14::([]:List Int)))))))))))))))))))))))))),()),()):=(FnD.eq V sL03Offsets_c sL03Offsets_F ()).trans (by kernel_rfl)
theorem sL03Offsets_k:CallsOk Tryz.prog gls gvs 223 sL03Offsets_g:=FnD.ok (F:=sL03Offsets_F) (cs:=sL03Offsets_c) V_ok kN Tryz.func223 (by decide) (by kernel_rfl)
noncomputable def sL03Rounds_F:FnD:={f:=224,fn:=Tryz.f224,ps:=[],rs:=[rt (.arr 24 (.int .u64))]}
noncomputable def sL03Rounds_c:List (Nat×Sig):=[]
noncomputable def sL03Rounds_d:Unit→Option (((List Int)×Unit)×Unit):=sL03Rounds_F.d V sL03Rounds_c
noncomputable abbrev sL03Rounds_g:Sig:=sL03Rounds_F.t.sig sL03Rounds_d
theorem sL03Rounds_b:sL03Rounds_d ()=some (((1::(32898::(9223372036854808714::(9223372039002292224::(32907::(2147483649::(9223372039002292353::(9223372036854808585::(138::(136::(2147516425::(2147483658::(2147516555::(9223372036854775947::(9223372036854808713::(9223372036854808579::(9223372036854808578::(9223372036854775936::(32778::(9223372039002259466::(9223372039002292353::(9223372036854808704::(2147483649::(9223372039002292232::([]:List Int))))))))))))))))))))))))),()),()):=(FnD.eq V sL03Rounds_c sL03Rounds_F ()).trans (by kernel_rfl)
theorem sL03Rounds_k:CallsOk Tryz.prog gls gvs 224 sL03Rounds_g:=FnD.ok (F:=sL03Rounds_F) (cs:=sL03Rounds_c) V_ok kN Tryz.func224 (by decide) (by kernel_rfl)
noncomputable def sL03Turn_F:FnD:={f:=239,fn:=Tryz.f239,ps:=[pa (.int .u64),pa (.int .u64)],rs:=[rt (.int .u64)]}
noncomputable def sL03Turn_c:List (Nat×Sig):=[]
noncomputable def sL03Turn_d:Int×Int×Unit→Option ((Int×Unit)×Unit):=sL03Turn_F.d V sL03Turn_c
noncomputable abbrev sL03Turn_g:Sig:=sL03Turn_F.t.sig sL03Turn_d
theorem sL03Turn_b (x1:Int) (x2:Int):sL03Turn_d (x1,(x2,()))=cnd (nn x2) (cnd (nn (isub .u64 64 x2)) (some (((ior .u64 (ishl .u64 x1 x2) (ishr .u64 x1 (isub .u64 64 x2))),()),())) none) none:=(FnD.eq V sL03Turn_c sL03Turn_F (x1,(x2,()))).trans (by kernel_rfl)
theorem sL03Turn_k:CallsOk Tryz.prog gls gvs 239 sL03Turn_g:=FnD.ok (F:=sL03Turn_F) (cs:=sL03Turn_c) V_ok kN Tryz.func239 (by decide) (by kernel_rfl)
noncomputable def sL03Round_F:FnD:={f:=225,fn:=Tryz.f225,ps:=[pa (.arr 25 (.int .u64)),pa (.arr 25 (.int .u64)),pa (.int .u64)],rs:=[rt (.arr 25 (.int .u64))],joins:=[18],cuts:=[(3,[.val 2 (.int .u64) .sh, .val 8 (.int .i64) .sh, .box 3 (.arr 25 (.int .u64)) .sh, .box 4 (.arr 25 (.int .u64)) .sh, .box 6 (.arr 25 (.int .u64)) .sh, .box 7 (.arr 5 (.int .u64)) .sh, .ptr 3 3 0, .ptr 4 4 0, .ptr 6 6 0, .ptr 7 7 0]),(18,[.val 2 (.int .u64) .sh, .val 10 (.int .i64) .sh, .val 11 (.int .u64) .sh, .val 12 (.int .i64) .sh, .val 13 (.int .u64) .sh, .box 3 (.arr 25 (.int .u64)) .sh, .box 4 (.arr 25 (.int .u64)) .sh, .box 6 (.arr 25 (.int .u64)) .sh, .box 7 (.arr 5 (.int .u64)) .sh, .box 9 (.arr 25 (.int .u64)) .sh, .ptr 3 3 0, .ptr 4 4 0, .ptr 6 6 0, .ptr 7 7 0, .ptr 9 9 0]),(12,[.val 2 (.int .u64) .sh, .val 10 (.int .i64) .sh, .val 11 (.int .u64) .sh, .val 12 (.int .i64) .sh, .box 3 (.arr 25 (.int .u64)) .sh, .box 4 (.arr 25 (.int .u64)) .sh, .box 6 (.arr 25 (.int .u64)) .sh, .box 7 (.arr 5 (.int .u64)) .sh, .box 9 (.arr 25 (.int .u64)) .sh, .ptr 3 3 0, .ptr 4 4 0, .ptr 6 6 0, .ptr 7 7 0, .ptr 9 9 0]),(8,[.val 2 (.int .u64) .sh, .val 10 (.int .i64) .sh, .box 3 (.arr 25 (.int .u64)) .sh, .box 4 (.arr 25 (.int .u64)) .sh, .box 6 (.arr 25 (.int .u64)) .sh, .box 7 (.arr 5 (.int .u64)) .sh, .box 9 (.arr 25 (.int .u64)) .sh, .ptr 3 3 0, .ptr 4 4 0, .ptr 6 6 0, .ptr 7 7 0, .ptr 9 9 0]),(23,[.val 2 (.int .u64) .sh, .val 15 (.int .i64) .sh, .val 16 (.int .i64) .sh, .box 3 (.arr 25 (.int .u64)) .sh, .box 6 (.arr 25 (.int .u64)) .sh, .box 9 (.arr 25 (.int .u64)) .sh, .ptr 3 3 0, .ptr 6 6 0, .ptr 9 9 0]),(20,[.val 2 (.int .u64) .sh, .val 15 (.int .i64) .sh, .box 3 (.arr 25 (.int .u64)) .sh, .box 6 (.arr 25 (.int .u64)) .sh, .box 9 (.arr 25 (.int .u64)) .sh, .ptr 3 3 0, .ptr 6 6 0, .ptr 9 9 0])]}
noncomputable def sL03Round_c:List (Nat×Sig):=[(239,sL03Turn_g)]
noncomputable def sL03Round_d:(List Int)× (List Int)×Int×Unit→Option (((List Int)×Unit)×Unit):=sL03Round_F.d V sL03Round_c
noncomputable abbrev sL03Round_g:Sig:=sL03Round_F.t.sig sL03Round_d
noncomputable def sL03Round_D3:Int×Int× (List Int)× (List Int)× (List Int)× (List Int)×Unit→Option (((List Int)×Unit)×Unit):=sL03Round_F.D V sL03Round_c 3
noncomputable def sL03Round_D18:Int×Int×Int×Int×Int× (List Int)× (List Int)× (List Int)× (List Int)× (List Int)×Unit→Option (((List Int)×Unit)×Unit):=sL03Round_F.D V sL03Round_c 18
noncomputable def sL03Round_D12:Int×Int×Int×Int× (List Int)× (List Int)× (List Int)× (List Int)× (List Int)×Unit→Option (((List Int)×Unit)×Unit):=sL03Round_F.D V sL03Round_c 12
noncomputable def sL03Round_D8:Int×Int× (List Int)× (List Int)× (List Int)× (List Int)× (List Int)×Unit→Option (((List Int)×Unit)×Unit):=sL03Round_F.D V sL03Round_c 8
noncomputable def sL03Round_D23:Int×Int×Int× (List Int)× (List Int)× (List Int)×Unit→Option (((List Int)×Unit)×Unit):=sL03Round_F.D V sL03Round_c 23
noncomputable def sL03Round_D20:Int×Int× (List Int)× (List Int)× (List Int)×Unit→Option (((List Int)×Unit)×Unit):=sL03Round_F.D V sL03Round_c 20
theorem sL03Round_b (x1:(List Int)) (x2:(List Int)) (x3:Int):sL03Round_d (x1,(x2,(x3,())))=sL03Round_D3 (x3,(0,(x1,(x2,((0::(0::(0::(0::(0::(0::(0::(0::(0::(0::(0::(0::(0::(0::(0::(0::(0::(0::(0::(0::(0::(0::(0::(0::(0::([]:List Int)))))))))))))))))))))))))),((0::(0::(0::(0::(0::([]:List Int)))))),())))))):=(FnD.eq V sL03Round_c sL03Round_F (x1,(x2,(x3,())))).trans (by kernel_rfl)
theorem sL03Round_q3 (x1:Int) (x2:Int) (x3:(List Int)) (x4:(List Int)) (x5:(List Int)) (x6:(List Int)):sL03Round_D3 (x1,(x2,(x3,(x4,(x5,(x6,()))))))=cnd (ilt x2 5) (cnd (inb x2 25) (cnd (inb (iadd .i64 x2 5) 25) (cnd (inb (iadd .i64 x2 10) 25) (cnd (inb (iadd .i64 x2 15) 25) (cnd (inb (iadd .i64 x2 20) 25) (cnd (inb x2 5) (sL03Round_D3 (x1,((iadd .i64 x2 1),(x3,(x4,(x5,((upd x6 x2 (ixor .u64 (ixor .u64 (ixor .u64 (ixor .u64 (rd 0 x3 x2) (rd 0 x3 (iadd .i64 x2 5))) (rd 0 x3 (iadd .i64 x2 10))) (rd 0 x3 (iadd .i64 x2 15))) (rd 0 x3 (iadd .i64 x2 20)))),()))))))) none) none) none) none) none) none) (sL03Round_D8 (x1,(0,(x3,(x4,(x5,(x6,((0::(0::(0::(0::(0::(0::(0::(0::(0::(0::(0::(0::(0::(0::(0::(0::(0::(0::(0::(0::(0::(0::(0::(0::(0::([]:List Int)))))))))))))))))))))))))),())))))))):=(FnD.eqC V sL03Round_c sL03Round_F 3 (x1,(x2,(x3,(x4,(x5,(x6,()))))))).trans (by kernel_rfl)
theorem sL03Round_q18 (x1:Int) (x2:Int) (x3:Int) (x4:Int) (x5:Int) (x6:(List Int)) (x7:(List Int)) (x8:(List Int)) (x9:(List Int)) (x10:(List Int)):sL03Round_D18 (x1,(x2,(x3,(x4,(x5,(x6,(x7,(x8,(x9,(x10,()))))))))))=cnd (nz 5) (cnd (inb (iadd .i64 x4 (imul .i64 5 (irem (iadd .i64 (imul .i64 2 x2) (imul .i64 3 x4)) 5))) 25) (sL03Round_D12 (x1,(x2,(x3,((iadd .i64 x4 1),(x6,(x7,(x8,(x9,((upd x10 (iadd .i64 x4 (imul .i64 5 (irem (iadd .i64 (imul .i64 2 x2) (imul .i64 3 x4)) 5))) x5),())))))))))) none) none:=(FnD.eqC V sL03Round_c sL03Round_F 18 (x1,(x2,(x3,(x4,(x5,(x6,(x7,(x8,(x9,(x10,()))))))))))).trans (by kernel_rfl)
theorem sL03Round_q12 (x1:Int) (x2:Int) (x3:Int) (x4:Int) (x5:(List Int)) (x6:(List Int)) (x7:(List Int)) (x8:(List Int)) (x9:(List Int)):sL03Round_D12 (x1,(x2,(x3,(x4,(x5,(x6,(x7,(x8,(x9,())))))))))=cnd (ilt x4 5) (cnd (inb (iadd .i64 x2 (imul .i64 5 x4)) 25) (cnd (inb (iadd .i64 x2 (imul .i64 5 x4)) 25) (cnd (igt (rd 0 x6 (iadd .i64 x2 (imul .i64 5 x4))) 0) (bnd (sL03Turn_d ((ixor .u64 (rd 0 x5 (iadd .i64 x2 (imul .i64 5 x4))) x3),((rd 0 x6 (iadd .i64 x2 (imul .i64 5 x4))),()))) (fun r9=>(sL03Round_D18 (x1,(x2,(x3,(x4,(r9.1.1,(x5,(x6,(x7,(x8,(x9,()))))))))))))) (sL03Round_D18 (x1,(x2,(x3,(x4,((ixor .u64 (rd 0 x5 (iadd .i64 x2 (imul .i64 5 x4))) x3),(x5,(x6,(x7,(x8,(x9,())))))))))))) none) none) (sL03Round_D8 (x1,((iadd .i64 x2 1),(x5,(x6,(x7,(x8,(x9,())))))))):=(FnD.eqC V sL03Round_c sL03Round_F 12 (x1,(x2,(x3,(x4,(x5,(x6,(x7,(x8,(x9,())))))))))).trans (by kernel_rfl)
theorem sL03Round_q8 (x1:Int) (x2:Int) (x3:(List Int)) (x4:(List Int)) (x5:(List Int)) (x6:(List Int)) (x7:(List Int)):sL03Round_D8 (x1,(x2,(x3,(x4,(x5,(x6,(x7,())))))))=cnd (ilt x2 5) (cnd (nz 5) (cnd (inb (irem (iadd .i64 x2 4) 5) 5) (cnd (nz 5) (cnd (inb (irem (iadd .i64 x2 1) 5) 5) (bnd (sL03Turn_d ((rd 0 x6 (irem (iadd .i64 x2 1) 5)),(1,()))) (fun r7=>(sL03Round_D12 (x1,(x2,((ixor .u64 (rd 0 x6 (irem (iadd .i64 x2 4) 5)) r7.1.1),(0,(x3,(x4,(x5,(x6,(x7,())))))))))))) none) none) none) none) (sL03Round_D20 (x1,(0,(x3,(x5,(x7,())))))):=(FnD.eqC V sL03Round_c sL03Round_F 8 (x1,(x2,(x3,(x4,(x5,(x6,(x7,())))))))).trans (by kernel_rfl)
theorem sL03Round_q23 (x1:Int) (x2:Int) (x3:Int) (x4:(List Int)) (x5:(List Int)) (x6:(List Int)):sL03Round_D23 (x1,(x2,(x3,(x4,(x5,(x6,()))))))=cnd (ilt x3 5) (cnd (inb (iadd .i64 x3 (imul .i64 5 x2)) 25) (cnd (nz 5) (cnd (inb (iadd .i64 (irem (iadd .i64 x3 1) 5) (imul .i64 5 x2)) 25) (cnd (nz 5) (cnd (inb (iadd .i64 (irem (iadd .i64 x3 2) 5) (imul .i64 5 x2)) 25) (cnd (inb (iadd .i64 x3 (imul .i64 5 x2)) 25) (sL03Round_D23 (x1,(x2,((iadd .i64 x3 1),((upd x4 (iadd .i64 x3 (imul .i64 5 x2)) (ixor .u64 (rd 0 x6 (iadd .i64 x3 (imul .i64 5 x2))) (iand .u64 (ixor .u64 (rd 0 x6 (iadd .i64 (irem (iadd .i64 x3 1) 5) (imul .i64 5 x2))) 18446744073709551615) (rd 0 x6 (iadd .i64 (irem (iadd .i64 x3 2) 5) (imul .i64 5 x2)))))),(x5,(x6,()))))))) none) none) none) none) none) none) (sL03Round_D20 (x1,((iadd .i64 x2 1),(x4,(x5,(x6,())))))):=(FnD.eqC V sL03Round_c sL03Round_F 23 (x1,(x2,(x3,(x4,(x5,(x6,()))))))).trans (by kernel_rfl)
theorem sL03Round_q20 (x1:Int) (x2:Int) (x3:(List Int)) (x4:(List Int)) (x5:(List Int)):sL03Round_D20 (x1,(x2,(x3,(x4,(x5,())))))=cnd (ilt x2 5) (sL03Round_D23 (x1,(x2,(0,(x3,(x4,(x5,()))))))) (cnd (inb 0 25) (cnd (inb 0 25) (some (((upd x3 0 (ixor .u64 (rd 0 x3 0) x1)),()),())) none) none):=(FnD.eqC V sL03Round_c sL03Round_F 20 (x1,(x2,(x3,(x4,(x5,())))))).trans (by kernel_rfl)
theorem sL03Round_k:CallsOk Tryz.prog gls gvs 225 sL03Round_g:=FnD.ok (F:=sL03Round_F) (cs:=sL03Round_c) V_ok (kC sL03Turn_k kN) Tryz.func225 (by decide) (by kernel_rfl)
noncomputable def sL03All_F:FnD:={f:=204,fn:=Tryz.f204,ps:=[pa (.arr 25 (.int .u64))],rs:=[rt (.arr 25 (.int .u64))],cuts:=[(4,[.val 5 (.int .i64) .sh, .box 1 (.arr 25 (.int .u64)) .sh, .box 2 (.arr 25 (.int .u64)) .sh, .box 3 (.arr 25 (.int .u64)) .sh, .box 4 (.arr 24 (.int .u64)) .sh, .ptr 1 1 0, .ptr 2 2 0, .ptr 3 3 0, .ptr 4 4 0])]}
noncomputable def sL03All_c:List (Nat×Sig):=[(223,sL03Offsets_g),(224,sL03Rounds_g),(225,sL03Round_g)]
noncomputable def sL03All_d:(List Int)×Unit→Option (((List Int)×Unit)×Unit):=sL03All_F.d V sL03All_c
noncomputable abbrev sL03All_g:Sig:=sL03All_F.t.sig sL03All_d
noncomputable def sL03All_D4:Int× (List Int)× (List Int)× (List Int)× (List Int)×Unit→Option (((List Int)×Unit)×Unit):=sL03All_F.D V sL03All_c 4
theorem sL03All_b (x1:(List Int)):sL03All_d (x1,())=bnd (sL03Offsets_d ()) (fun r1=>(bnd (sL03Rounds_d ()) (fun r2=>(sL03All_D4 (0,(x1,((0::(0::(0::(0::(0::(0::(0::(0::(0::(0::(0::(0::(0::(0::(0::(0::(0::(0::(0::(0::(0::(0::(0::(0::(0::([]:List Int)))))))))))))))))))))))))),(r1.1.1,(r2.1.1,()))))))))):=(FnD.eq V sL03All_c sL03All_F (x1,())).trans (by kernel_rfl)
theorem sL03All_q4 (x1:Int) (x2:(List Int)) (x3:(List Int)) (x4:(List Int)) (x5:(List Int)):sL03All_D4 (x1,(x2,(x3,(x4,(x5,())))))=cnd (ilt x1 24) (cnd (inb x1 24) (bnd (sL03Round_d (x2,(x4,((rd 0 x5 x1),())))) (fun r5=>(sL03All_D4 ((iadd .i64 x1 1),(r5.1.1,(x3,(x4,(x5,())))))))) none) (some ((x2,()),())):=(FnD.eqC V sL03All_c sL03All_F 4 (x1,(x2,(x3,(x4,(x5,())))))).trans (by kernel_rfl)
theorem sL03All_k:CallsOk Tryz.prog gls gvs 204 sL03All_g:=FnD.ok (F:=sL03All_F) (cs:=sL03All_c) V_ok (kC sL03Offsets_k (kC sL03Rounds_k (kC sL03Round_k kN))) Tryz.func204 (by decide) (by kernel_rfl)
noncomputable def sL03Text_F:FnD:={f:=205,fn:=Tryz.f205,ps:=[pa (.arr 25 (.int .u64))],rs:=[rt .str],cuts:=[(3,[.val 3 (.sl (.int .u8)) (.own 0 .sh), .val 4 (.int .i64) .sh, .box 1 (.arr 25 (.int .u64)) .sh, .ptr 1 1 0])]}
noncomputable def sL03Text_c:List (Nat×Sig):=[]
noncomputable def sL03Text_d:(List Int)×Unit→Option ((ByteArray×Unit)×Unit):=sL03Text_F.d V sL03Text_c
noncomputable abbrev sL03Text_g:Sig:=sL03Text_F.t.sig sL03Text_d
noncomputable def sL03Text_D3:(List Int)×Int× (List Int)×Unit→Option ((ByteArray×Unit)×Unit):=sL03Text_F.D V sL03Text_c 3
theorem sL03Text_b (x1:(List Int)):sL03Text_d (x1,())=cnd (both (inb2 0 200 200) (fits 200 1)) (sL03Text_D3 ((rep 200 0),(0,(x1,())))) none:=(FnD.eq V sL03Text_c sL03Text_F (x1,())).trans (by kernel_rfl)
theorem sL03Text_q3 (x1:(List Int)) (x2:Int) (x3:(List Int)):sL03Text_D3 (x1,(x2,(x3,())))=cnd (ilt x2 200) (cnd (nz 8) (cnd (inb (iquo .i64 x2 8) 25) (cnd (nz 8) (cnd (nn (imul .u64 8 (iconv .u64 (irem x2 8)))) (cnd (inb x2 (len x1)) (sL03Text_D3 ((upd x1 x2 (iconv .u8 (ishr .u64 (rd 0 x3 (iquo .i64 x2 8)) (imul .u64 8 (iconv .u64 (irem x2 8)))))),((iadd .i64 x2 1),(x3,())))) none) none) none) none) none) (some (((sof x1),()),())):=(FnD.eqC V sL03Text_c sL03Text_F 3 (x1,(x2,(x3,())))).trans (by kernel_rfl)
theorem sL03Text_k:CallsOk Tryz.prog gls gvs 205 sL03Text_g:=FnD.ok (F:=sL03Text_F) (cs:=sL03Text_c) V_ok kN Tryz.func205 (by decide) (by kernel_rfl)
noncomputable def sDigest_F:FnD:={f:=172,fn:=Tryz.f172,ps:=[pa .str],rs:=[rt .str],cuts:=[(7,[.val 3 .str .sh, .val 5 (.int .i64) .sh, .val 6 (.int .i64) .sh, .box 4 (.arr 25 (.int .u64)) .sh, .ptr 4 4 0]),(4,[.val 3 .str .sh, .val 5 (.int .i64) .sh, .box 4 (.arr 25 (.int .u64)) .sh, .ptr 4 4 0])]}
noncomputable def sDigest_c:List (Nat×Sig):=[(202,sKeccakPad_g),(203,sL03Word_g),(204,sL03All_g),(205,sL03Text_g)]
noncomputable def sDigest_d:ByteArray×Unit→Option ((ByteArray×Unit)×Unit):=sDigest_F.d V sDigest_c
noncomputable abbrev sDigest_g:Sig:=sDigest_F.t.sig sDigest_d
noncomputable def sDigest_D7:ByteArray×Int×Int× (List Int)×Unit→Option ((ByteArray×Unit)×Unit):=sDigest_F.D V sDigest_c 7
noncomputable def sDigest_D4:ByteArray×Int× (List Int)×Unit→Option ((ByteArray×Unit)×Unit):=sDigest_F.D V sDigest_c 4
theorem sDigest_b (x1:ByteArray):sDigest_d (x1,())=bnd (sKeccakPad_d (x1,())) (fun r1=>(sDigest_D4 (r1.1.1,(0,((0::(0::(0::(0::(0::(0::(0::(0::(0::(0::(0::(0::(0::(0::(0::(0::(0::(0::(0::(0::(0::(0::(0::(0::(0::([]:List Int)))))))))))))))))))))))))),()))))):=(FnD.eq V sDigest_c sDigest_F (x1,())).trans (by kernel_rfl)
theorem sDigest_q7 (x1:ByteArray) (x2:Int) (x3:Int) (x4:(List Int)):sDigest_D7 (x1,(x2,(x3,(x4,()))))=cnd (ilt x3 17) (cnd (inb x3 25) (bnd (sL03Word_d (x1,((iadd .i64 x2 (imul .i64 8 x3)),()))) (fun r4=>(cnd (inb x3 25) (sDigest_D7 (x1,(x2,((iadd .i64 x3 1),((upd x4 x3 (ixor .u64 (rd 0 x4 x3) r4.1.1)),()))))) none))) none) (bnd (sL03All_d (x4,())) (fun r4=>(sDigest_D4 (x1,((iadd .i64 x2 136),(r4.1.1,())))))):=(FnD.eqC V sDigest_c sDigest_F 7 (x1,(x2,(x3,(x4,()))))).trans (by kernel_rfl)
theorem sDigest_q4 (x1:ByteArray) (x2:Int) (x3:(List Int)):sDigest_D4 (x1,(x2,(x3,())))=cnd (ilt x2 (ssz x1)) (sDigest_D7 (x1,(x2,(0,(x3,()))))) (bnd (sL03Text_d (x3,())) (fun r3=>(cnd (inb2 0 32 (ssz r3.1.1)) (some (((ssub r3.1.1 0 32),()),())) none))):=(FnD.eqC V sDigest_c sDigest_F 4 (x1,(x2,(x3,())))).trans (by kernel_rfl)
theorem sDigest_k:CallsOk Tryz.prog gls gvs 172 sDigest_g:=FnD.ok (F:=sDigest_F) (cs:=sDigest_c) V_ok (kC sKeccakPad_k (kC sL03Word_k (kC sL03All_k (kC sL03Text_k kN)))) Tryz.func172 (by decide) (by kernel_rfl)
noncomputable def sLevelsOf_F:FnD:={f:=226,fn:=Tryz.f226,ps:=[pa (.int .i64)],rs:=[rt (.int .i64)],cuts:=[(4,[.val 0 (.int .i64) .sh, .val 3 (.int .i64) .sh])]}
noncomputable def sLevelsOf_c:List (Nat×Sig):=[(123,sL01In_g)]
noncomputable def sLevelsOf_d:Int×Unit→Option ((Int×Unit)×Unit):=sLevelsOf_F.d V sLevelsOf_c
noncomputable abbrev sLevelsOf_g:Sig:=sLevelsOf_F.t.sig sLevelsOf_d
noncomputable def sLevelsOf_D4:Int×Int×Unit→Option ((Int×Unit)×Unit):=sLevelsOf_F.D V sLevelsOf_c 4
theorem sLevelsOf_b (x1:Int):sLevelsOf_d (x1,())=bnd (sL01In_d (x1,(0,(32,())))) (fun r1=>(cnd (bnot r1.1.1) (some (((-1),()),())) (sLevelsOf_D4 (x1,(0,()))))):=(FnD.eq V sLevelsOf_c sLevelsOf_F (x1,())).trans (by kernel_rfl)
theorem sLevelsOf_q4 (x1:Int) (x2:Int):sLevelsOf_D4 (x1,(x2,()))=cnd (nn (iconv .u64 x2)) (cnd (ilt (ishl .i64 1 (iconv .u64 x2)) x1) (sLevelsOf_D4 (x1,((iadd .i64 x2 1),()))) (some ((x2,()),()))) none:=(FnD.eqC V sLevelsOf_c sLevelsOf_F 4 (x1,(x2,()))).trans (by kernel_rfl)
theorem sLevelsOf_k:CallsOk Tryz.prog gls gvs 226 sLevelsOf_g:=FnD.ok (F:=sLevelsOf_F) (cs:=sLevelsOf_c) V_ok (kC sL01In_k kN) Tryz.func226 (by decide) (by kernel_rfl)
noncomputable def sL10Hashes_F:FnD:={f:=206,fn:=Tryz.f206,ps:=[pa (.sl .str)],rs:=[⟨(.sl .str),(.own 0 .sh),false⟩],cuts:=[(3,[.val 0 (.sl .str) .sh, .val 3 (.sl .str) (.own 0 .sh), .val 4 (.int .i64) .sh]),(7,[.val 0 (.sl .str) .sh, .val 3 (.sl .str) (.own 0 .sh), .val 5 .str .sh])]}
noncomputable def sL10Hashes_c:List (Nat×Sig):=[(172,sDigest_g),(226,sLevelsOf_g)]
noncomputable def sL10Hashes_d:(List ByteArray)×Unit→Option (((List ByteArray)×Unit)×Unit):=sL10Hashes_F.d V sL10Hashes_c
noncomputable abbrev sL10Hashes_g:Sig:=sL10Hashes_F.t.sig sL10Hashes_d
noncomputable def sL10Hashes_D3:(List ByteArray)× (List ByteArray)×Int×Unit→Option (((List ByteArray)×Unit)×Unit):=sL10Hashes_F.D V sL10Hashes_c 3
noncomputable def sL10Hashes_D7:(List ByteArray)× (List ByteArray)×ByteArray×Unit→Option (((List ByteArray)×Unit)×Unit):=sL10Hashes_F.D V sL10Hashes_c 7
theorem sL10Hashes_b (x1:(List ByteArray)):sL10Hashes_d (x1,())=sL10Hashes_D3 (x1,(([]:List ByteArray),(0,()))):=(FnD.eq V sL10Hashes_c sL10Hashes_F (x1,())).trans (by kernel_rfl)
theorem sL10Hashes_q3 (x1:(List ByteArray)) (x2:(List ByteArray)) (x3:Int):sL10Hashes_D3 (x1,(x2,(x3,())))=cnd (ilt x3 (len x1)) (cnd (inb x3 (len x1)) (bnd (sDigest_d ((rd (bs []) x1 x3),())) (fun r3=>(cnd (fits ((len x2)+(len (r3.1.1::([]:List ByteArray)))) 1) (sL10Hashes_D3 (x1,((app x2 (r3.1.1::([]:List ByteArray))),((iadd .i64 x3 1),())))) none))) none) (bnd (sDigest_d ((bs []),())) (fun r3=>(sL10Hashes_D7 (x1,(x2,(r3.1.1,())))))):=(FnD.eqC V sL10Hashes_c sL10Hashes_F 3 (x1,(x2,(x3,())))).trans (by kernel_rfl)
theorem sL10Hashes_q7 (x1:(List ByteArray)) (x2:(List ByteArray)) (x3:ByteArray):sL10Hashes_D7 (x1,(x2,(x3,())))=bnd (sLevelsOf_d ((len x1),())) (fun r3=>(cnd (nn (iconv .u64 r3.1.1)) (cnd (ilt (len x2) (ishl .i64 1 (iconv .u64 r3.1.1))) (cnd (fits ((len x2)+(len (x3::([]:List ByteArray)))) 1) (sL10Hashes_D7 (x1,((app x2 (x3::([]:List ByteArray))),(x3,())))) none) (some ((x2,()),()))) none)):=(FnD.eqC V sL10Hashes_c sL10Hashes_F 7 (x1,(x2,(x3,())))).trans (by kernel_rfl)
theorem sL10Hashes_k:CallsOk Tryz.prog gls gvs 206 sL10Hashes_g:=FnD.ok (F:=sL10Hashes_F) (cs:=sL10Hashes_c) V_ok (kC sDigest_k (kC sLevelsOf_k kN)) Tryz.func206 (by decide) (by kernel_rfl)
noncomputable def sDigestPair_F:FnD:={f:=173,fn:=Tryz.f173,ps:=[pa .str,pa .str],rs:=[rt .str]}
noncomputable def sDigestPair_c:List (Nat×Sig):=[(172,sDigest_g)]
noncomputable def sDigestPair_d:ByteArray×ByteArray×Unit→Option ((ByteArray×Unit)×Unit):=sDigestPair_F.d V sDigestPair_c
noncomputable abbrev sDigestPair_g:Sig:=sDigestPair_F.t.sig sDigestPair_d
theorem sDigestPair_b (x1:ByteArray) (x2:ByteArray):sDigestPair_d (x1,(x2,()))=cnd (fits ((ssz x1)+(ssz x2)) 1) (bnd (sDigest_d ((scat x1 x2),())) (fun r2=>(some ((r2.1.1,()),())))) none:=(FnD.eq V sDigestPair_c sDigestPair_F (x1,(x2,()))).trans (by kernel_rfl)
theorem sDigestPair_k:CallsOk Tryz.prog gls gvs 173 sDigestPair_g:=FnD.ok (F:=sDigestPair_F) (cs:=sDigestPair_c) V_ok (kC sDigest_k kN) Tryz.func173 (by decide) (by kernel_rfl)
noncomputable def sL10Up_F:FnD:={f:=207,fn:=Tryz.f207,ps:=[pa (.sl .str)],rs:=[⟨(.sl .str),(.own 0 .sh),false⟩],cuts:=[(3,[.val 0 (.sl .str) .sh, .val 3 (.sl .str) (.own 0 .sh), .val 4 (.int .i64) .sh])]}
noncomputable def sL10Up_c:List (Nat×Sig):=[(173,sDigestPair_g)]
noncomputable def sL10Up_d:(List ByteArray)×Unit→Option (((List ByteArray)×Unit)×Unit):=sL10Up_F.d V sL10Up_c
noncomputable abbrev sL10Up_g:Sig:=sL10Up_F.t.sig sL10Up_d
noncomputable def sL10Up_D3:(List ByteArray)× (List ByteArray)×Int×Unit→Option (((List ByteArray)×Unit)×Unit):=sL10Up_F.D V sL10Up_c 3
theorem sL10Up_b (x1:(List ByteArray)):sL10Up_d (x1,())=sL10Up_D3 (x1,(([]:List ByteArray),(0,()))):=(FnD.eq V sL10Up_c sL10Up_F (x1,())).trans (by kernel_rfl)
theorem sL10Up_q3 (x1:(List ByteArray)) (x2:(List ByteArray)) (x3:Int):sL10Up_D3 (x1,(x2,(x3,())))=cnd (ilt (iadd .i64 x3 1) (len x1)) (cnd (inb x3 (len x1)) (cnd (inb (iadd .i64 x3 1) (len x1)) (bnd (sDigestPair_d ((rd (bs []) x1 x3),((rd (bs []) x1 (iadd .i64 x3 1)),()))) (fun r3=>(cnd (fits ((len x2)+(len (r3.1.1::([]:List ByteArray)))) 1) (sL10Up_D3 (x1,((app x2 (r3.1.1::([]:List ByteArray))),((iadd .i64 x3 2),())))) none))) none) none) (some ((x2,()),())):=(FnD.eqC V sL10Up_c sL10Up_F 3 (x1,(x2,(x3,())))).trans (by kernel_rfl)
theorem sL10Up_k:CallsOk Tryz.prog gls gvs 207 sL10Up_g:=FnD.ok (F:=sL10Up_F) (cs:=sL10Up_c) V_ok (kC sDigestPair_k kN) Tryz.func207 (by decide) (by kernel_rfl)
noncomputable def sRootOf_F:FnD:={f:=174,fn:=Tryz.f174,ps:=[pa (.sl .str)],rs:=[rt .str],cuts:=[(4,[.val 3 (.sl .str) (.own 0 .sh)])]}
noncomputable def sRootOf_c:List (Nat×Sig):=[(206,sL10Hashes_g),(207,sL10Up_g)]
noncomputable def sRootOf_d:(List ByteArray)×Unit→Option ((ByteArray×Unit)×Unit):=sRootOf_F.d V sRootOf_c
noncomputable abbrev sRootOf_g:Sig:=sRootOf_F.t.sig sRootOf_d
noncomputable def sRootOf_D4:(List ByteArray)×Unit→Option ((ByteArray×Unit)×Unit):=sRootOf_F.D V sRootOf_c 4
theorem sRootOf_b (x1:(List ByteArray)):sRootOf_d (x1,())=cnd (igt (len x1) 32) (some (((bs []),()),())) (bnd (sL10Hashes_d (x1,())) (fun r1=>(sRootOf_D4 (r1.1.1,())))):=(FnD.eq V sRootOf_c sRootOf_F (x1,())).trans (by kernel_rfl)
theorem sRootOf_q4 (x1:(List ByteArray)):sRootOf_D4 (x1,())=cnd (igt (len x1) 1) (bnd (sL10Up_d (x1,())) (fun r1=>(sRootOf_D4 (r1.1.1,())))) (cnd (inb 0 (len x1)) (some (((rd (bs []) x1 0),()),())) none):=(FnD.eqC V sRootOf_c sRootOf_F 4 (x1,())).trans (by kernel_rfl)
theorem sRootOf_k:CallsOk Tryz.prog gls gvs 174 sRootOf_g:=FnD.ok (F:=sRootOf_F) (cs:=sRootOf_c) V_ok (kC sL10Hashes_k (kC sL10Up_k kN)) Tryz.func174 (by decide) (by kernel_rfl)
noncomputable def sHeadRoot_F:FnD:={f:=131,fn:=Tryz.f131,ps:=[pa THead],rs:=[rt .str]}
noncomputable def sHeadRoot_c:List (Nat×Sig):=[(162,sHeadOk_g),(124,sL01Var_g),(174,sRootOf_g)]
noncomputable def sHeadRoot_d:tHead×Unit→Option ((ByteArray×Unit)×Unit):=sHeadRoot_F.d V sHeadRoot_c
noncomputable abbrev sHeadRoot_g:Sig:=sHeadRoot_F.t.sig sHeadRoot_d
theorem sHeadRoot_b (x1:tHead):sHeadRoot_d (x1,())=bnd (sHeadOk_d (x1,())) (fun r1=>(cnd (bnot r1.1.1) (some (((bs []),()),())) (bnd (sL01Var_d (x1.1,())) (fun r2=>(bnd (sRootOf_d ((r2.1.1::(x1.2.1::(x1.2.2.1::(x1.2.2.2.1::([]:List ByteArray))))),())) (fun r3=>(some ((r3.1.1,()),())))))))):=(FnD.eq V sHeadRoot_c sHeadRoot_F (x1,())).trans (by kernel_rfl)
theorem sHeadRoot_k:CallsOk Tryz.prog gls gvs 131 sHeadRoot_g:=FnD.ok (F:=sHeadRoot_F) (cs:=sHeadRoot_c) V_ok (kC sHeadOk_k (kC sL01Var_k (kC sRootOf_k kN))) Tryz.func131 (by decide) (by kernel_rfl)
noncomputable def sFoldBranch_F:FnD:={f:=130,fn:=Tryz.f130,ps:=[pa .str,pa (.int .i64),pa (.sl .str)],rs:=[rt .str],cuts:=[(5,[.val 1 (.int .i64) .sh, .val 2 (.sl .str) .sh, .val 7 .str .sh, .val 8 (.int .i64) .sh])]}
noncomputable def sFoldBranch_c:List (Nat×Sig):=[(123,sL01In_g),(172,sDigest_g),(173,sDigestPair_g)]
noncomputable def sFoldBranch_d:ByteArray×Int× (List ByteArray)×Unit→Option ((ByteArray×Unit)×Unit):=sFoldBranch_F.d V sFoldBranch_c
noncomputable abbrev sFoldBranch_g:Sig:=sFoldBranch_F.t.sig sFoldBranch_d
noncomputable def sFoldBranch_D5:Int× (List ByteArray)×ByteArray×Int×Unit→Option ((ByteArray×Unit)×Unit):=sFoldBranch_F.D V sFoldBranch_c 5
theorem sFoldBranch_b (x1:ByteArray) (x2:Int) (x3:(List ByteArray)):sFoldBranch_d (x1,(x2,(x3,())))=cnd (igt (len x3) 5) (some (((bs []),()),())) (cnd (nn (iconv .u64 (len x3))) (bnd (sL01In_d (x2,(0,((isub .i64 (ishl .i64 1 (iconv .u64 (len x3))) 1),())))) (fun r3=>(cnd (bnot r3.1.1) (some (((bs []),()),())) (bnd (sDigest_d (x1,())) (fun r4=>(sFoldBranch_D5 (x2,(x3,(r4.1.1,(0,())))))))))) none):=(FnD.eq V sFoldBranch_c sFoldBranch_F (x1,(x2,(x3,())))).trans (by kernel_rfl)
theorem sFoldBranch_q5 (x1:Int) (x2:(List ByteArray)) (x3:ByteArray) (x4:Int):sFoldBranch_D5 (x1,(x2,(x3,(x4,()))))=cnd (ilt x4 (len x2)) (cnd (nn (iconv .u64 x4)) (cnd (nz 2) (cnd (ieq (irem (ishr .i64 x1 (iconv .u64 x4)) 2) 1) (cnd (inb x4 (len x2)) (bnd (sDigestPair_d ((rd (bs []) x2 x4),(x3,()))) (fun r4=>(sFoldBranch_D5 (x1,(x2,(r4.1.1,((iadd .i64 x4 1),()))))))) none) (cnd (inb x4 (len x2)) (bnd (sDigestPair_d (x3,((rd (bs []) x2 x4),()))) (fun r4=>(sFoldBranch_D5 (x1,(x2,(r4.1.1,((iadd .i64 x4 1),()))))))) none)) none) none) (some ((x3,()),())):=(FnD.eqC V sFoldBranch_c sFoldBranch_F 5 (x1,(x2,(x3,(x4,()))))).trans (by kernel_rfl)
theorem sFoldBranch_k:CallsOk Tryz.prog gls gvs 130 sFoldBranch_g:=FnD.ok (F:=sFoldBranch_F) (cs:=sFoldBranch_c) V_ok (kC sL01In_k (kC sDigest_k (kC sDigestPair_k kN))) Tryz.func130 (by decide) (by kernel_rfl)
noncomputable def sCommitteeRoot_F:FnD:={f:=132,fn:=Tryz.f132,ps:=[pa TCommittee],rs:=[rt .str],cuts:=[(5,[.val 3 (.sl .str) (.own 0 .sh), .val 4 (.int .i64) .sh, .box 1 TCommittee .sh, .ptr 1 1 0])]}
noncomputable def sCommitteeRoot_c:List (Nat×Sig):=[(163,sCommitteeOk_g),(121,sPointText_g),(174,sRootOf_g)]
noncomputable def sCommitteeRoot_d:tCommittee×Unit→Option ((ByteArray×Unit)×Unit):=sCommitteeRoot_F.d V sCommitteeRoot_c
noncomputable abbrev sCommitteeRoot_g:Sig:=sCommitteeRoot_F.t.sig sCommitteeRoot_d
noncomputable def sCommitteeRoot_D5:(List ByteArray)×Int×tCommittee×Unit→Option ((ByteArray×Unit)×Unit):=sCommitteeRoot_F.D V sCommitteeRoot_c 5
theorem sCommitteeRoot_b (x1:tCommittee):sCommitteeRoot_d (x1,())=bnd (sCommitteeOk_d (x1,())) (fun r1=>(cnd (bnot r1.1.1) (some (((bs []),()),())) (sCommitteeRoot_D5 (([]:List ByteArray),(0,(x1,())))))):=(FnD.eq V sCommitteeRoot_c sCommitteeRoot_F (x1,())).trans (by kernel_rfl)
theorem sCommitteeRoot_q5 (x1:(List ByteArray)) (x2:Int) (x3:tCommittee):sCommitteeRoot_D5 (x1,(x2,(x3,())))=cnd (ilt x2 (len x3.1)) (cnd (inb x2 (len x3.1)) (bnd (sPointText_d ((rd zPoint x3.1 x2),())) (fun r3=>(cnd (fits ((len x1)+(len (r3.1.1::([]:List ByteArray)))) 1) (sCommitteeRoot_D5 ((app x1 (r3.1.1::([]:List ByteArray))),((iadd .i64 x2 1),(x3,())))) none))) none) (bnd (sRootOf_d (x1,())) (fun r3=>(some ((r3.1.1,()),())))):=(FnD.eqC V sCommitteeRoot_c sCommitteeRoot_F 5 (x1,(x2,(x3,())))).trans (by kernel_rfl)
theorem sCommitteeRoot_k:CallsOk Tryz.prog gls gvs 132 sCommitteeRoot_g:=FnD.ok (F:=sCommitteeRoot_F) (cs:=sCommitteeRoot_c) V_ok (kC sCommitteeOk_k (kC sPointText_k (kC sRootOf_k kN))) Tryz.func132 (by decide) (by kernel_rfl)
noncomputable def sCountBits_F:FnD:={f:=133,fn:=Tryz.f133,ps:=[pa (.int .i64)],rs:=[rt (.int .i64)],cuts:=[(5,[.val 0 (.int .i64) .sh, .val 3 (.int .i64) .sh, .val 4 (.int .i64) .sh])]}
noncomputable def sCountBits_c:List (Nat×Sig):=[(123,sL01In_g)]
noncomputable def sCountBits_d:Int×Unit→Option ((Int×Unit)×Unit):=sCountBits_F.d V sCountBits_c
noncomputable abbrev sCountBits_g:Sig:=sCountBits_F.t.sig sCountBits_d
noncomputable def sCountBits_D5:Int×Int×Int×Unit→Option ((Int×Unit)×Unit):=sCountBits_F.D V sCountBits_c 5
theorem sCountBits_b (x1:Int):sCountBits_d (x1,())=bnd (sL01In_d (x1,(0,(255,())))) (fun r1=>(cnd (bnot r1.1.1) (some ((0,()),())) (sCountBits_D5 (x1,zTwo)))):=(FnD.eq V sCountBits_c sCountBits_F (x1,())).trans (by kernel_rfl)
theorem sCountBits_q5 (x1:Int) (x2:Int) (x3:Int):sCountBits_D5 (x1,(x2,(x3,())))=cnd (ilt x3 8) (cnd (nn (iconv .u64 x3)) (cnd (nz 2) (sCountBits_D5 (x1,((iadd .i64 x2 (irem (ishr .i64 x1 (iconv .u64 x3)) 2)),((iadd .i64 x3 1),())))) none) none) (some ((x2,()),())):=(FnD.eqC V sCountBits_c sCountBits_F 5 (x1,(x2,(x3,())))).trans (by kernel_rfl)
theorem sCountBits_k:CallsOk Tryz.prog gls gvs 133 sCountBits_g:=FnD.ok (F:=sCountBits_F) (cs:=sCountBits_c) V_ok (kC sL01In_k kN) Tryz.func133 (by decide) (by kernel_rfl)
noncomputable def sPublicOf_F:FnD:={f:=135,fn:=Tryz.f135,ps:=[pa (.int .i64)],rs:=[⟨(.sl (.int .i64)),(.own 0 .sh),false⟩]}
noncomputable def sPublicOf_c:List (Nat×Sig):=[(133,sCountBits_g)]
noncomputable def sPublicOf_d:Int×Unit→Option (((List Int)×Unit)×Unit):=sPublicOf_F.d V sPublicOf_c
noncomputable abbrev sPublicOf_g:Sig:=sPublicOf_F.t.sig sPublicOf_d
theorem sPublicOf_b (x1:Int):sPublicOf_d (x1,())=bnd (sCountBits_d (x1,())) (fun r1=>(some (((x1::(r1.1.1::([]:List Int))),()),()))):=(FnD.eq V sPublicOf_c sPublicOf_F (x1,())).trans (by kernel_rfl)
theorem sPublicOf_k:CallsOk Tryz.prog gls gvs 135 sPublicOf_g:=FnD.ok (F:=sPublicOf_F) (cs:=sPublicOf_c) V_ok (kC sCountBits_k kN) Tryz.func135 (by decide) (by kernel_rfl)
noncomputable def sL13Wide_F:FnD:={f:=175,fn:=Tryz.f175,ps:=[pa (.sl (.int .i64)),pa (.int .i64)],rs:=[rt .bool],cuts:=[(2,[.val 0 (.sl (.int .i64)) .sh, .val 1 (.int .i64) .sh, .val 5 (.int .i64) .sh])]}
noncomputable def sL13Wide_c:List (Nat×Sig):=[(123,sL01In_g)]
noncomputable def sL13Wide_d:(List Int)×Int×Unit→Option ((Bool×Unit)×Unit):=sL13Wide_F.d V sL13Wide_c
noncomputable abbrev sL13Wide_g:Sig:=sL13Wide_F.t.sig sL13Wide_d
noncomputable def sL13Wide_D2:(List Int)×Int×Int×Unit→Option ((Bool×Unit)×Unit):=sL13Wide_F.D V sL13Wide_c 2
theorem sL13Wide_b (x1:(List Int)) (x2:Int):sL13Wide_d (x1,(x2,()))=sL13Wide_D2 (x1,(x2,(0,()))):=(FnD.eq V sL13Wide_c sL13Wide_F (x1,(x2,()))).trans (by kernel_rfl)
theorem sL13Wide_q2 (x1:(List Int)) (x2:Int) (x3:Int):sL13Wide_D2 (x1,(x2,(x3,())))=cnd (ilt x3 (len x1)) (cnd (inb x3 (len x1)) (bnd (sL01In_d ((rd 0 x1 x3),(0,(1008,())))) (fun r3=>(cnd (bnot r3.1.1) (some ((false,()),())) (sL13Wide_D2 (x1,(x2,((iadd .i64 x3 1),()))))))) none) (some (((ieq (len x1) x2),()),())):=(FnD.eqC V sL13Wide_c sL13Wide_F 2 (x1,(x2,(x3,())))).trans (by kernel_rfl)
theorem sL13Wide_k:CallsOk Tryz.prog gls gvs 175 sL13Wide_g:=FnD.ok (F:=sL13Wide_F) (cs:=sL13Wide_c) V_ok (kC sL01In_k kN) Tryz.func175 (by decide) (by kernel_rfl)
noncomputable def sTwoMul_F:FnD:={f:=176,fn:=Tryz.f176,ps:=[pa TTwo,pa TTwo],rs:=[rt TTwo]}
noncomputable def sTwoMul_c:List (Nat×Sig):=[(166,sFpMul_g),(120,sFpSub_g),(168,sFpAdd_g)]
noncomputable def sTwoMul_d:tTwo×tTwo×Unit→Option ((tTwo×Unit)×Unit):=sTwoMul_F.d V sTwoMul_c
noncomputable abbrev sTwoMul_g:Sig:=sTwoMul_F.t.sig sTwoMul_d
theorem sTwoMul_b (x1:tTwo) (x2:tTwo):sTwoMul_d (x1,(x2,()))=bnd (sFpMul_d (x1.1,(x2.1,()))) (fun r2=>(bnd (sFpMul_d (x1.2.1,(x2.2.1,()))) (fun r3=>(bnd (sFpSub_d (r2.1.1,(r3.1.1,()))) (fun r4=>(bnd (sFpMul_d (x1.1,(x2.2.1,()))) (fun r5=>(bnd (sFpMul_d (x1.2.1,(x2.1,()))) (fun r6=>(bnd (sFpAdd_d (r5.1.1,(r6.1.1,()))) (fun r7=>(some (((r4.1.1,(r7.1.1,())),()),()))))))))))))):=(FnD.eq V sTwoMul_c sTwoMul_F (x1,(x2,()))).trans (by kernel_rfl)
theorem sTwoMul_k:CallsOk Tryz.prog gls gvs 176 sTwoMul_g:=FnD.ok (F:=sTwoMul_F) (cs:=sTwoMul_c) V_ok (kC sFpMul_k (kC sFpSub_k (kC sFpAdd_k kN))) Tryz.func176 (by decide) (by kernel_rfl)
noncomputable def sPairLine_F:FnD:={f:=227,fn:=Tryz.f227,ps:=[pa TPoint,pa TPoint,pa TPoint],rs:=[rt TTwo]}
noncomputable def sPairLine_c:List (Nat×Sig):=[(169,sPointOk_g),(238,sL07Slope_g),(120,sFpSub_g),(166,sFpMul_g)]
noncomputable def sPairLine_d:tPoint×tPoint×tPoint×Unit→Option ((tTwo×Unit)×Unit):=sPairLine_F.d V sPairLine_c
noncomputable abbrev sPairLine_g:Sig:=sPairLine_F.t.sig sPairLine_d
theorem sPairLine_b (x1:tPoint) (x2:tPoint) (x3:tPoint):sPairLine_d (x1,(x2,(x3,())))=cnd x1.2.2.1 (some (((1,(0,())),()),())) (cnd x2.2.2.1 (some (((1,(0,())),()),())) (cnd x3.2.2.1 (some (((1,(0,())),()),())) (bnd (sPointOk_d (x1,())) (fun r3=>(cnd (bnot r3.1.1) (some (((1,(0,())),()),())) (bnd (sPointOk_d (x2,())) (fun r4=>(cnd (bnot r4.1.1) (some (((1,(0,())),()),())) (bnd (sPointOk_d (x3,())) (fun r5=>(cnd (bnot r5.1.1) (some (((1,(0,())),()),())) (bnd (sL07Slope_d (x1,(x2,()))) (fun r6=>(cnd (bnot r6.1.2.1) (some (((1,(0,())),()),())) (bnd (sFpSub_d (0,(x3.1,()))) (fun r7=>(bnd (sFpSub_d (r7.1.1,(x1.1,()))) (fun r8=>(bnd (sFpSub_d (0,(x1.2.1,()))) (fun r9=>(bnd (sFpMul_d (r6.1.1,(r8.1.1,()))) (fun r10=>(bnd (sFpSub_d (r9.1.1,(r10.1.1,()))) (fun r11=>(some (((r11.1.1,(x3.2.1,())),()),())))))))))))))))))))))))))):=(FnD.eq V sPairLine_c sPairLine_F (x1,(x2,(x3,())))).trans (by kernel_rfl)
theorem sPairLine_k:CallsOk Tryz.prog gls gvs 227 sPairLine_g:=FnD.ok (F:=sPairLine_F) (cs:=sPairLine_c) V_ok (kC sPointOk_k (kC sL07Slope_k (kC sFpSub_k (kC sFpMul_k kN)))) Tryz.func227 (by decide) (by kernel_rfl)
noncomputable def sMiller_F:FnD:={f:=208,fn:=Tryz.f208,ps:=[pa TPoint,pa TPoint],rs:=[rt TTwo],cuts:=[(4,[.val 7 (.int .i64) .sh, .box 2 TPoint .sh, .box 3 TPoint .sh, .box 4 TTwo .sh, .box 5 TTwo .sh, .box 6 TPoint .sh, .ptr 2 2 0, .ptr 3 3 0, .ptr 4 4 0, .ptr 5 5 0, .ptr 6 6 0])]}
noncomputable def sMiller_c:List (Nat×Sig):=[(176,sTwoMul_g),(227,sPairLine_g),(200,sPointAdd_g)]
noncomputable def sMiller_d:tPoint×tPoint×Unit→Option ((tTwo×Unit)×Unit):=sMiller_F.d V sMiller_c
noncomputable abbrev sMiller_g:Sig:=sMiller_F.t.sig sMiller_d
noncomputable def sMiller_D4:Int×tPoint×tPoint×tTwo×tTwo×tPoint×Unit→Option ((tTwo×Unit)×Unit):=sMiller_F.D V sMiller_c 4
theorem sMiller_b (x1:tPoint) (x2:tPoint):sMiller_d (x1,(x2,()))=sMiller_D4 (8,(x1,(x2,(zTwo,((1,(0,())),(x1,())))))):=(FnD.eq V sMiller_c sMiller_F (x1,(x2,()))).trans (by kernel_rfl)
theorem sMiller_q4 (x1:Int) (x2:tPoint) (x3:tPoint) (x4:tTwo) (x5:tTwo) (x6:tPoint):sMiller_D4 (x1,(x2,(x3,(x4,(x5,(x6,()))))))=cnd (ige x1 0) (bnd (sTwoMul_d (x5,(x5,()))) (fun r6=>(bnd (sPairLine_d (x6,(x6,(x3,())))) (fun r7=>(bnd (sTwoMul_d (r6.1.1,(r7.1.1,()))) (fun r8=>(bnd (sPointAdd_d (x6,(x6,()))) (fun r9=>(cnd (nn (iconv .u64 x1)) (cnd (nz 2) (cnd (ieq (irem (ishr .i64 1009 (iconv .u64 x1)) 2) 1) (bnd (sPairLine_d (r9.1.1,(x2,(x3,())))) (fun r10=>(bnd (sTwoMul_d (r8.1.1,(r10.1.1,()))) (fun r11=>(bnd (sPointAdd_d (r9.1.1,(x2,()))) (fun r12=>(sMiller_D4 ((isub .i64 x1 1),(x2,(x3,(x4,(r11.1.1,(r12.1.1,()))))))))))))) (sMiller_D4 ((isub .i64 x1 1),(x2,(x3,(x4,(r8.1.1,(r9.1.1,())))))))) none) none))))))))) (some ((x5,()),())):=(FnD.eqC V sMiller_c sMiller_F 4 (x1,(x2,(x3,(x4,(x5,(x6,()))))))).trans (by kernel_rfl)
theorem sMiller_k:CallsOk Tryz.prog gls gvs 208 sMiller_g:=FnD.ok (F:=sMiller_F) (cs:=sMiller_c) V_ok (kC sTwoMul_k (kC sPairLine_k (kC sPointAdd_k kN))) Tryz.func208 (by decide) (by kernel_rfl)
noncomputable def sTwoTurn_F:FnD:={f:=210,fn:=Tryz.f210,ps:=[pa TTwo],rs:=[rt TTwo]}
noncomputable def sTwoTurn_c:List (Nat×Sig):=[(167,sFpOf_g),(120,sFpSub_g)]
noncomputable def sTwoTurn_d:tTwo×Unit→Option ((tTwo×Unit)×Unit):=sTwoTurn_F.d V sTwoTurn_c
noncomputable abbrev sTwoTurn_g:Sig:=sTwoTurn_F.t.sig sTwoTurn_d
theorem sTwoTurn_b (x1:tTwo):sTwoTurn_d (x1,())=bnd (sFpOf_d (x1.1,())) (fun r1=>(bnd (sFpSub_d (0,(x1.2.1,()))) (fun r2=>(some (((r1.1.1,(r2.1.1,())),()),()))))):=(FnD.eq V sTwoTurn_c sTwoTurn_F (x1,())).trans (by kernel_rfl)
theorem sTwoTurn_k:CallsOk Tryz.prog gls gvs 210 sTwoTurn_g:=FnD.ok (F:=sTwoTurn_F) (cs:=sTwoTurn_c) V_ok (kC sFpOf_k (kC sFpSub_k kN)) Tryz.func210 (by decide) (by kernel_rfl)
noncomputable def sTwoInv_F:FnD:={f:=211,fn:=Tryz.f211,ps:=[pa TTwo],rs:=[rt TTwo]}
noncomputable def sTwoInv_c:List (Nat×Sig):=[(166,sFpMul_g),(168,sFpAdd_g),(228,sFpInv_g),(120,sFpSub_g)]
noncomputable def sTwoInv_d:tTwo×Unit→Option ((tTwo×Unit)×Unit):=sTwoInv_F.d V sTwoInv_c
noncomputable abbrev sTwoInv_g:Sig:=sTwoInv_F.t.sig sTwoInv_d
theorem sTwoInv_b (x1:tTwo):sTwoInv_d (x1,())=bnd (sFpMul_d (x1.1,(x1.1,()))) (fun r1=>(bnd (sFpMul_d (x1.2.1,(x1.2.1,()))) (fun r2=>(bnd (sFpAdd_d (r1.1.1,(r2.1.1,()))) (fun r3=>(bnd (sFpInv_d (r3.1.1,())) (fun r4=>(bnd (sFpMul_d (x1.1,(r4.1.1,()))) (fun r5=>(bnd (sFpSub_d (0,(x1.2.1,()))) (fun r6=>(bnd (sFpMul_d (r6.1.1,(r4.1.1,()))) (fun r7=>(some (((r5.1.1,(r7.1.1,())),()),()))))))))))))))):=(FnD.eq V sTwoInv_c sTwoInv_F (x1,())).trans (by kernel_rfl)
theorem sTwoInv_k:CallsOk Tryz.prog gls gvs 211 sTwoInv_g:=FnD.ok (F:=sTwoInv_F) (cs:=sTwoInv_c) V_ok (kC sFpMul_k (kC sFpAdd_k (kC sFpInv_k (kC sFpSub_k kN)))) Tryz.func211 (by decide) (by kernel_rfl)
noncomputable def sTwoPow_F:FnD:={f:=209,fn:=Tryz.f209,ps:=[pa TTwo,pa (.int .i64)],rs:=[rt TTwo],joins:=[8],cuts:=[(8,[.val 1 (.int .i64) .sh, .box 4 TTwo .sh, .box 5 TTwo .sh, .box 6 TTwo .sh, .ptr 4 4 0, .ptr 5 5 0, .ptr 6 6 0]),(5,[.val 1 (.int .i64) .sh, .box 4 TTwo .sh, .box 5 TTwo .sh, .box 6 TTwo .sh, .ptr 4 4 0, .ptr 5 5 0, .ptr 6 6 0])]}
noncomputable def sTwoPow_c:List (Nat×Sig):=[(167,sFpOf_g),(176,sTwoMul_g)]
noncomputable def sTwoPow_d:tTwo×Int×Unit→Option ((tTwo×Unit)×Unit):=sTwoPow_F.d V sTwoPow_c
noncomputable abbrev sTwoPow_g:Sig:=sTwoPow_F.t.sig sTwoPow_d
noncomputable def sTwoPow_D8:Int×tTwo×tTwo×tTwo×Unit→Option ((tTwo×Unit)×Unit):=sTwoPow_F.D V sTwoPow_c 8
noncomputable def sTwoPow_D5:Int×tTwo×tTwo×tTwo×Unit→Option ((tTwo×Unit)×Unit):=sTwoPow_F.D V sTwoPow_c 5
theorem sTwoPow_b (x1:tTwo) (x2:Int):sTwoPow_d (x1,(x2,()))=cnd (ilt x2 0) (some ((zTwo,()),())) (bnd (sFpOf_d (x1.1,())) (fun r2=>(bnd (sFpOf_d (x1.2.1,())) (fun r3=>(sTwoPow_D5 (x2,(zTwo,((1,(0,())),((r2.1.1,(r3.1.1,())),()))))))))):=(FnD.eq V sTwoPow_c sTwoPow_F (x1,(x2,()))).trans (by kernel_rfl)
theorem sTwoPow_q8 (x1:Int) (x2:tTwo) (x3:tTwo) (x4:tTwo):sTwoPow_D8 (x1,(x2,(x3,(x4,()))))=bnd (sTwoMul_d (x4,(x4,()))) (fun r4=>(cnd (nz 2) (sTwoPow_D5 ((iquo .i64 x1 2),(x2,(x3,(r4.1.1,()))))) none)):=(FnD.eqC V sTwoPow_c sTwoPow_F 8 (x1,(x2,(x3,(x4,()))))).trans (by kernel_rfl)
theorem sTwoPow_q5 (x1:Int) (x2:tTwo) (x3:tTwo) (x4:tTwo):sTwoPow_D5 (x1,(x2,(x3,(x4,()))))=cnd (igt x1 0) (cnd (nz 2) (cnd (ieq (irem x1 2) 1) (bnd (sTwoMul_d (x3,(x4,()))) (fun r4=>(sTwoPow_D8 (x1,(x2,(r4.1.1,(x4,()))))))) (sTwoPow_D8 (x1,(x2,(x3,(x4,())))))) none) (some ((x3,()),())):=(FnD.eqC V sTwoPow_c sTwoPow_F 5 (x1,(x2,(x3,(x4,()))))).trans (by kernel_rfl)
theorem sTwoPow_k:CallsOk Tryz.prog gls gvs 209 sTwoPow_g:=FnD.ok (F:=sTwoPow_F) (cs:=sTwoPow_c) V_ok (kC sFpOf_k (kC sTwoMul_k kN)) Tryz.func209 (by decide) (by kernel_rfl)
noncomputable def sPairing_F:FnD:={f:=177,fn:=Tryz.f177,ps:=[pa TPoint,pa TPoint],rs:=[rt TTwo]}
noncomputable def sPairing_c:List (Nat×Sig):=[(170,sInGroup_g),(208,sMiller_g),(210,sTwoTurn_g),(211,sTwoInv_g),(176,sTwoMul_g),(209,sTwoPow_g)]
noncomputable def sPairing_d:tPoint×tPoint×Unit→Option ((tTwo×Unit)×Unit):=sPairing_F.d V sPairing_c
noncomputable abbrev sPairing_g:Sig:=sPairing_F.t.sig sPairing_d
theorem sPairing_b (x1:tPoint) (x2:tPoint):sPairing_d (x1,(x2,()))=bnd (sInGroup_d (x1,())) (fun r2=>(cnd (bnot r2.1.1) (some (((1,(0,())),()),())) (bnd (sInGroup_d (x2,())) (fun r3=>(cnd (bnot r3.1.1) (some (((1,(0,())),()),())) (cnd x1.2.2.1 (some (((1,(0,())),()),())) (cnd x2.2.2.1 (some (((1,(0,())),()),())) (bnd (sMiller_d (x1,(x2,()))) (fun r4=>(bnd (sTwoTurn_d (r4.1.1,())) (fun r5=>(bnd (sTwoInv_d (r4.1.1,())) (fun r6=>(bnd (sTwoMul_d (r5.1.1,(r6.1.1,()))) (fun r7=>(bnd (sTwoPow_d (r7.1.1,(12,()))) (fun r8=>(some ((r8.1.1,()),()))))))))))))))))))):=(FnD.eq V sPairing_c sPairing_F (x1,(x2,()))).trans (by kernel_rfl)
theorem sPairing_k:CallsOk Tryz.prog gls gvs 177 sPairing_g:=FnD.ok (F:=sPairing_F) (cs:=sPairing_c) V_ok (kC sInGroup_k (kC sMiller_k (kC sTwoTurn_k (kC sTwoInv_k (kC sTwoMul_k (kC sTwoPow_k kN)))))) Tryz.func177 (by decide) (by kernel_rfl)
noncomputable def sInputSum_F:FnD:={f:=178,fn:=Tryz.f178,ps:=[pa TKeys,pa (.sl (.int .i64))],rs:=[rt TPoint],cuts:=[(5,[.val 1 (.sl (.int .i64)) .sh, .val 6 (.int .i64) .sh, .box 2 TKeys .sh, .box 4 TPoint .sh, .box 5 TPoint .sh, .ptr 2 2 0, .ptr 4 4 0, .ptr 5 5 0])]}
noncomputable def sInputSum_c:List (Nat×Sig):=[(116,sL07Zero_g),(200,sPointAdd_g),(201,sPointTimes_g)]
noncomputable def sInputSum_d:tKeys× (List Int)×Unit→Option ((tPoint×Unit)×Unit):=sInputSum_F.d V sInputSum_c
noncomputable abbrev sInputSum_g:Sig:=sInputSum_F.t.sig sInputSum_d
noncomputable def sInputSum_D5:(List Int)×Int×tKeys×tPoint×tPoint×Unit→Option ((tPoint×Unit)×Unit):=sInputSum_F.D V sInputSum_c 5
theorem sInputSum_b (x1:tKeys) (x2:(List Int)):sInputSum_d (x1,(x2,()))=cnd (ine (len x1.2.2.2.2.1) (iadd .i64 (len x2) 1)) (bnd (sL07Zero_d ()) (fun r2=>(some ((r2.1.1,()),())))) (bnd (sL07Zero_d ()) (fun r2=>(cnd (inb 0 (len x1.2.2.2.2.1)) (bnd (sPointAdd_d (r2.1.1,((rd zPoint x1.2.2.2.2.1 0),()))) (fun r3=>(sInputSum_D5 (x2,(0,(x1,(zPoint,(r3.1.1,())))))))) none))):=(FnD.eq V sInputSum_c sInputSum_F (x1,(x2,()))).trans (by kernel_rfl)
theorem sInputSum_q5 (x1:(List Int)) (x2:Int) (x3:tKeys) (x4:tPoint) (x5:tPoint):sInputSum_D5 (x1,(x2,(x3,(x4,(x5,())))))=cnd (ilt x2 (len x1)) (cnd (inb x2 (len x1)) (cnd (inb (iadd .i64 x2 1) (len x3.2.2.2.2.1)) (bnd (sPointTimes_d ((rd 0 x1 x2),((rd zPoint x3.2.2.2.2.1 (iadd .i64 x2 1)),()))) (fun r5=>(bnd (sPointAdd_d (x5,(r5.1.1,()))) (fun r6=>(sInputSum_D5 (x1,((iadd .i64 x2 1),(x3,(x4,(r6.1.1,())))))))))) none) none) (some ((x5,()),())):=(FnD.eqC V sInputSum_c sInputSum_F 5 (x1,(x2,(x3,(x4,(x5,())))))).trans (by kernel_rfl)
theorem sInputSum_k:CallsOk Tryz.prog gls gvs 178 sInputSum_g:=FnD.ok (F:=sInputSum_F) (cs:=sInputSum_c) V_ok (kC sL07Zero_k (kC sPointAdd_k (kC sPointTimes_k kN))) Tryz.func178 (by decide) (by kernel_rfl)
noncomputable def sProofOk_F:FnD:={f:=134,fn:=Tryz.f134,ps:=[pa TKeys,pa (.sl (.int .i64)),pa TProof],rs:=[rt .bool]}
noncomputable def sProofOk_c:List (Nat×Sig):=[(170,sInGroup_g),(175,sL13Wide_g),(177,sPairing_g),(178,sInputSum_g),(176,sTwoMul_g)]
noncomputable def sProofOk_d:tKeys× (List Int)×tProof×Unit→Option ((Bool×Unit)×Unit):=sProofOk_F.d V sProofOk_c
noncomputable abbrev sProofOk_g:Sig:=sProofOk_F.t.sig sProofOk_d
theorem sProofOk_b (x1:tKeys) (x2:(List Int)) (x3:tProof):sProofOk_d (x1,(x2,(x3,())))=bnd (sInGroup_d (x3.1,())) (fun r3=>(cnd (bnot r3.1.1) (some ((false,()),())) (bnd (sInGroup_d (x3.2.1,())) (fun r4=>(cnd (bnot r4.1.1) (some ((false,()),())) (bnd (sInGroup_d (x3.2.2.1,())) (fun r5=>(cnd (bnot r5.1.1) (some ((false,()),())) (cnd x3.1.2.2.1 (some ((false,()),())) (cnd x3.2.1.2.2.1 (some ((false,()),())) (cnd (ine (len x1.2.2.2.2.1) (iadd .i64 (len x2) 1)) (some ((false,()),())) (bnd (sL13Wide_d (x2,((len x2),()))) (fun r6=>(cnd (bnot r6.1.1) (some ((false,()),())) (bnd (sPairing_d (x1.1,(x1.2.1,()))) (fun r7=>(bnd (sInputSum_d (x1,(x2,()))) (fun r8=>(bnd (sPairing_d (r8.1.1,(x1.2.2.1,()))) (fun r9=>(bnd (sTwoMul_d (r7.1.1,(r9.1.1,()))) (fun r10=>(bnd (sPairing_d (x3.2.2.1,(x1.2.2.2.1,()))) (fun r11=>(bnd (sTwoMul_d (r10.1.1,(r11.1.1,()))) (fun r12=>(bnd (sPairing_d (x3.1,(x3.2.1,()))) (fun r13=>(some (((both (ieq r13.1.1.1 r12.1.1.1) (both (ieq r13.1.1.2.1 r12.1.1.2.1) true)),()),())))))))))))))))))))))))))))))):=(FnD.eq V sProofOk_c sProofOk_F (x1,(x2,(x3,())))).trans (by kernel_rfl)
theorem sProofOk_k:CallsOk Tryz.prog gls gvs 134 sProofOk_g:=FnD.ok (F:=sProofOk_F) (cs:=sProofOk_c) V_ok (kC sInGroup_k (kC sL13Wide_k (kC sPairing_k (kC sInputSum_k (kC sTwoMul_k kN))))) Tryz.func134 (by decide) (by kernel_rfl)
noncomputable def sJoined_F:FnD:={f:=138,fn:=Tryz.f138,ps:=[pa TCommittee,pa (.int .i64)],rs:=[⟨(.sl TPoint),(.own 0 .sh),false⟩],cuts:=[(5,[.val 1 (.int .i64) .sh, .val 5 (.sl TPoint) (.own 0 .sh), .val 6 (.int .i64) .sh, .box 2 TCommittee .sh, .ptr 2 2 0])]}
noncomputable def sJoined_c:List (Nat×Sig):=[(163,sCommitteeOk_g),(123,sL01In_g)]
noncomputable def sJoined_d:tCommittee×Int×Unit→Option (((List tPoint)×Unit)×Unit):=sJoined_F.d V sJoined_c
noncomputable abbrev sJoined_g:Sig:=sJoined_F.t.sig sJoined_d
noncomputable def sJoined_D5:Int× (List tPoint)×Int×tCommittee×Unit→Option (((List tPoint)×Unit)×Unit):=sJoined_F.D V sJoined_c 5
theorem sJoined_b (x1:tCommittee) (x2:Int):sJoined_d (x1,(x2,()))=bnd (sCommitteeOk_d (x1,())) (fun r2=>(cnd (bnot r2.1.1) (some (zCommittee,())) (bnd (sL01In_d (x2,(0,(255,())))) (fun r3=>(cnd (bnot r3.1.1) (some (zCommittee,())) (sJoined_D5 (x2,(([]:List tPoint),(0,(x1,())))))))))):=(FnD.eq V sJoined_c sJoined_F (x1,(x2,()))).trans (by kernel_rfl)
theorem sJoined_q5 (x1:Int) (x2:(List tPoint)) (x3:Int) (x4:tCommittee):sJoined_D5 (x1,(x2,(x3,(x4,()))))=cnd (ilt x3 8) (cnd (nn (iconv .u64 x3)) (cnd (nz 2) (cnd (ieq (irem (ishr .i64 x1 (iconv .u64 x3)) 2) 1) (cnd (inb x3 (len x4.1)) (cnd (fits ((len x2)+(len ((rd zPoint x4.1 x3)::([]:List tPoint)))) 3) (sJoined_D5 (x1,((app x2 ((rd zPoint x4.1 x3)::([]:List tPoint))),((iadd .i64 x3 1),(x4,()))))) none) none) (sJoined_D5 (x1,(x2,((iadd .i64 x3 1),(x4,())))))) none) none) (some ((x2,()),())):=(FnD.eqC V sJoined_c sJoined_F 5 (x1,(x2,(x3,(x4,()))))).trans (by kernel_rfl)
theorem sJoined_k:CallsOk Tryz.prog gls gvs 138 sJoined_g:=FnD.ok (F:=sJoined_F) (cs:=sJoined_c) V_ok (kC sCommitteeOk_k (kC sL01In_k kN)) Tryz.func138 (by decide) (by kernel_rfl)
noncomputable def sSigText_F:FnD:={f:=139,fn:=Tryz.f139,ps:=[pa THead,pa (.int .i64)],rs:=[rt .str]}
noncomputable def sSigText_c:List (Nat×Sig):=[(162,sHeadOk_g),(123,sL01In_g),(131,sHeadRoot_g)]
noncomputable def sSigText_d:tHead×Int×Unit→Option ((ByteArray×Unit)×Unit):=sSigText_F.d V sSigText_c
noncomputable abbrev sSigText_g:Sig:=sSigText_F.t.sig sSigText_d
theorem sSigText_b (x1:tHead) (x2:Int):sSigText_d (x1,(x2,()))=bnd (sHeadOk_d (x1,())) (fun r2=>(cnd (bnot r2.1.1) (some (((bs []),()),())) (bnd (sL01In_d (x2,(0,(255,())))) (fun r3=>(cnd (bnot r3.1.1) (some (((bs []),()),())) (bnd (sHeadRoot_d (x1,())) (fun r4=>(cnd (fits ((ssz (sof ((iconv .u8 x2)::([]:List Int))))+(ssz r4.1.1)) 1) (some (((scat (sof ((iconv .u8 x2)::([]:List Int))) r4.1.1),()),())) none)))))))):=(FnD.eq V sSigText_c sSigText_F (x1,(x2,()))).trans (by kernel_rfl)
theorem sSigText_k:CallsOk Tryz.prog gls gvs 139 sSigText_g:=FnD.ok (F:=sSigText_F) (cs:=sSigText_c) V_ok (kC sHeadOk_k (kC sL01In_k (kC sHeadRoot_k kN))) Tryz.func139 (by decide) (by kernel_rfl)
noncomputable def sBase_F:FnD:={f:=212,fn:=Tryz.f212,ps:=[],rs:=[rt TPoint]}
noncomputable def sBase_c:List (Nat×Sig):=[]
noncomputable def sBase_d:Unit→Option ((tPoint×Unit)×Unit):=sBase_F.d V sBase_c
noncomputable abbrev sBase_g:Sig:=sBase_F.t.sig sBase_d
theorem sBase_b:sBase_d ()=some (((8445,(859,(false,()))),()),()):=(FnD.eq V sBase_c sBase_F ()).trans (by kernel_rfl)
theorem sBase_k:CallsOk Tryz.prog gls gvs 212 sBase_g:=FnD.ok (F:=sBase_F) (cs:=sBase_c) V_ok kN Tryz.func212 (by decide) (by kernel_rfl)
noncomputable def sHashPoint_F:FnD:={f:=213,fn:=Tryz.f213,ps:=[pa .str],rs:=[rt TPoint],cuts:=[(2,[.val 0 .str .sh, .val 3 (.int .i64) .sh, .box 2 TPoint .sh, .ptr 2 2 0])]}
noncomputable def sHashPoint_c:List (Nat×Sig):=[(172,sDigest_g),(167,sFpOf_g),(119,sL07Right_g),(118,sFpRoot_g),(201,sPointTimes_g),(212,sBase_g)]
noncomputable def sHashPoint_d:ByteArray×Unit→Option ((tPoint×Unit)×Unit):=sHashPoint_F.d V sHashPoint_c
noncomputable abbrev sHashPoint_g:Sig:=sHashPoint_F.t.sig sHashPoint_d
noncomputable def sHashPoint_D2:ByteArray×Int×tPoint×Unit→Option ((tPoint×Unit)×Unit):=sHashPoint_F.D V sHashPoint_c 2
theorem sHashPoint_b (x1:ByteArray):sHashPoint_d (x1,())=sHashPoint_D2 (x1,(0,(zPoint,()))):=(FnD.eq V sHashPoint_c sHashPoint_F (x1,())).trans (by kernel_rfl)
theorem sHashPoint_q2 (x1:ByteArray) (x2:Int) (x3:tPoint):sHashPoint_D2 (x1,(x2,(x3,())))=cnd (ilt x2 64) (cnd (fits ((ssz (sof ((iconv .u8 x2)::([]:List Int))))+(ssz x1)) 1) (bnd (sDigest_d ((scat (sof ((iconv .u8 x2)::([]:List Int))) x1),())) (fun r3=>(cnd (inb 0 (ssz r3.1.1)) (cnd (nn 24) (cnd (inb 1 (ssz r3.1.1)) (cnd (nn 16) (cnd (inb 2 (ssz r3.1.1)) (cnd (nn 8) (cnd (inb 3 (ssz r3.1.1)) (bnd (sFpOf_d ((ior .i64 (ior .i64 (ior .i64 (ishl .i64 (iconv .i64 (sat r3.1.1 0)) 24) (ishl .i64 (iconv .i64 (sat r3.1.1 1)) 16)) (ishl .i64 (iconv .i64 (sat r3.1.1 2)) 8)) (iconv .i64 (sat r3.1.1 3))),())) (fun r4=>(bnd (sL07Right_d (r4.1.1,())) (fun r5=>(bnd (sFpRoot_d (r5.1.1,())) (fun r6=>(bnd (sPointTimes_d (12,((r4.1.1,(r6.1.1,(false,()))),()))) (fun r7=>(cnd r6.1.2.1 (cnd (bnot r7.1.1.2.2.1) (some ((r7.1.1,()),())) (sHashPoint_D2 (x1,((iadd .i64 x2 1),(x3,()))))) (sHashPoint_D2 (x1,((iadd .i64 x2 1),(x3,()))))))))))))) none) none) none) none) none) none) none))) none) (bnd (sBase_d ()) (fun r3=>(some ((r3.1.1,()),())))):=(FnD.eqC V sHashPoint_c sHashPoint_F 2 (x1,(x2,(x3,())))).trans (by kernel_rfl)
theorem sHashPoint_k:CallsOk Tryz.prog gls gvs 213 sHashPoint_g:=FnD.ok (F:=sHashPoint_F) (cs:=sHashPoint_c) V_ok (kC sDigest_k (kC sFpOf_k (kC sL07Right_k (kC sFpRoot_k (kC sPointTimes_k (kC sBase_k kN)))))) Tryz.func213 (by decide) (by kernel_rfl)
noncomputable def sSigOk_F:FnD:={f:=179,fn:=Tryz.f179,ps:=[pa TPoint,pa .str,pa TPoint],rs:=[rt .bool]}
noncomputable def sSigOk_c:List (Nat×Sig):=[(170,sInGroup_g),(212,sBase_g),(177,sPairing_g),(213,sHashPoint_g)]
noncomputable def sSigOk_d:tPoint×ByteArray×tPoint×Unit→Option ((Bool×Unit)×Unit):=sSigOk_F.d V sSigOk_c
noncomputable abbrev sSigOk_g:Sig:=sSigOk_F.t.sig sSigOk_d
theorem sSigOk_b (x1:tPoint) (x2:ByteArray) (x3:tPoint):sSigOk_d (x1,(x2,(x3,())))=bnd (sInGroup_d (x1,())) (fun r3=>(cnd (bnot r3.1.1) (some ((false,()),())) (bnd (sInGroup_d (x3,())) (fun r4=>(cnd (bnot r4.1.1) (some ((false,()),())) (cnd x1.2.2.1 (some ((false,()),())) (cnd x3.2.2.1 (some ((false,()),())) (bnd (sBase_d ()) (fun r5=>(bnd (sPairing_d (x3,(r5.1.1,()))) (fun r6=>(bnd (sHashPoint_d (x2,())) (fun r7=>(bnd (sPairing_d (r7.1.1,(x1,()))) (fun r8=>(some (((both (ieq r6.1.1.1 r8.1.1.1) (both (ieq r6.1.1.2.1 r8.1.1.2.1) true)),()),()))))))))))))))))):=(FnD.eq V sSigOk_c sSigOk_F (x1,(x2,(x3,())))).trans (by kernel_rfl)
theorem sSigOk_k:CallsOk Tryz.prog gls gvs 179 sSigOk_g:=FnD.ok (F:=sSigOk_F) (cs:=sSigOk_c) V_ok (kC sInGroup_k (kC sBase_k (kC sPairing_k (kC sHashPoint_k kN)))) Tryz.func179 (by decide) (by kernel_rfl)
noncomputable def sAllSigOk_F:FnD:={f:=137,fn:=Tryz.f137,ps:=[pa (.sl TPoint),pa .str,pa TPoint],rs:=[rt .bool]}
noncomputable def sAllSigOk_c:List (Nat×Sig):=[(164,sSumPoints_g),(179,sSigOk_g)]
noncomputable def sAllSigOk_d:(List tPoint)×ByteArray×tPoint×Unit→Option ((Bool×Unit)×Unit):=sAllSigOk_F.d V sAllSigOk_c
noncomputable abbrev sAllSigOk_g:Sig:=sAllSigOk_F.t.sig sAllSigOk_d
theorem sAllSigOk_b (x1:(List tPoint)) (x2:ByteArray) (x3:tPoint):sAllSigOk_d (x1,(x2,(x3,())))=cnd (igt (len x1) 0) (bnd (sSumPoints_d (x1,())) (fun r3=>(bnd (sSigOk_d (r3.1.1,(x2,(x3,())))) (fun r4=>(some ((r4.1.1,()),())))))) (some ((false,()),())):=(FnD.eq V sAllSigOk_c sAllSigOk_F (x1,(x2,(x3,())))).trans (by kernel_rfl)
theorem sAllSigOk_k:CallsOk Tryz.prog gls gvs 137 sAllSigOk_g:=FnD.ok (F:=sAllSigOk_F) (cs:=sAllSigOk_c) V_ok (kC sSumPoints_k (kC sSigOk_k kN)) Tryz.func137 (by decide) (by kernel_rfl)
noncomputable def sCheckUpdate_F:FnD:={f:=73,fn:=Tryz.f73,ps:=[pa TClient,pa TUpdate,pa (.int .i64)],rs:=[rt (.int .i64)]}
noncomputable def sCheckUpdate_c:List (Nat×Sig):=[(128,sClientOk_g),(125,sUpdateOk_g),(129,sL22Slots_g),(131,sHeadRoot_g),(130,sFoldBranch_g),(132,sCommitteeRoot_g),(133,sCountBits_g),(135,sPublicOf_g),(134,sProofOk_g),(136,sSigners_g),(138,sJoined_g),(139,sSigText_g),(137,sAllSigOk_g)]
noncomputable def sCheckUpdate_d:tClient×tUpdate×Int×Unit→Option ((Int×Unit)×Unit):=sCheckUpdate_F.d V sCheckUpdate_c
noncomputable abbrev sCheckUpdate_g:Sig:=sCheckUpdate_F.t.sig sCheckUpdate_d
theorem sCheckUpdate_b (x1:tClient) (x2:tUpdate) (x3:Int):sCheckUpdate_d (x1,(x2,(x3,())))=bnd (sClientOk_d (x1,())) (fun r3=>(cnd (bnot r3.1.1) (some ((1,()),())) (bnd (sUpdateOk_d (x2,())) (fun r4=>(cnd (bnot r4.1.1) (some ((1,()),())) (bnd (sL22Slots_d (x1,(x2,(x3,())))) (fun r5=>(cnd (ine r5.1.1 0) (some ((r5.1.1,()),())) (bnd (sHeadRoot_d (x2.2.2.2.1,())) (fun r6=>(bnd (sFoldBranch_d (r6.1.1,(3,(x2.2.2.2.2.1,())))) (fun r7=>(cnd (sne r7.1.1 x2.1.2.2.1) (some ((5,()),())) (bnd (sCommitteeRoot_d (x2.2.1,())) (fun r8=>(bnd (sFoldBranch_d (r8.1.1,(2,(x2.2.2.1,())))) (fun r9=>(cnd (sne r9.1.1 x2.1.2.2.1) (some ((6,()),())) (bnd (sCountBits_d (x2.2.2.2.2.2.1,())) (fun r10=>(cnd (ilt r10.1.1 6) (some ((7,()),())) (bnd (sPublicOf_d (x2.2.2.2.2.2.1,())) (fun r11=>(bnd (sProofOk_d (x1.2.2.2.2.1,(r11.1.1,(x2.2.2.2.2.2.2.2.1,())))) (fun r12=>(cnd (bnot r12.1.1) (some ((8,()),())) (bnd (sSigners_d (x1,(x2.2.2.2.2.2.2.2.2.1,()))) (fun r13=>(bnd (sJoined_d (r13.1.1,(x2.2.2.2.2.2.1,()))) (fun r14=>(bnd (sSigText_d (x2.1,(7,()))) (fun r15=>(bnd (sAllSigOk_d (r14.1.1,(r15.1.1,(x2.2.2.2.2.2.2.1,())))) (fun r16=>(cnd (bnot r16.1.1) (some ((9,()),())) (some ((0,()),()))))))))))))))))))))))))))))))))))))):=(FnD.eq V sCheckUpdate_c sCheckUpdate_F (x1,(x2,(x3,())))).trans (by kernel_rfl)
theorem sCheckUpdate_k:CallsOk Tryz.prog gls gvs 73 sCheckUpdate_g:=FnD.ok (F:=sCheckUpdate_F) (cs:=sCheckUpdate_c) V_ok (kC sClientOk_k (kC sUpdateOk_k (kC sL22Slots_k (kC sHeadRoot_k (kC sFoldBranch_k (kC sCommitteeRoot_k (kC sCountBits_k (kC sPublicOf_k (kC sProofOk_k (kC sSigners_k (kC sJoined_k (kC sSigText_k (kC sAllSigOk_k kN))))))))))))) Tryz.func73 (by decide) (by kernel_rfl)
noncomputable def sL22Take_F:FnD:={f:=74,fn:=Tryz.f74,ps:=[⟨TClient,(.pr .sh (.pr (.pr (.own 0 .sh) .sh) (.pr (.pr (.own 0 .sh) .sh) (.pr .sh (.pr (.pr .sh (.pr .sh (.pr .sh (.pr .sh (.pr (.own 0 .sh) .sh))))) .sh))))),true,true,none⟩,pa TUpdate],rs:=[],joins:=[7,10],cuts:=[(7,[.val 4 (.int .i64) .sh, .box 0 TClient (.pr .sh (.pr (.pr (.own 0 .sh) .sh) (.pr (.pr (.own 0 .sh) .sh) (.pr .sh (.pr (.pr .sh (.pr .sh (.pr .sh (.pr .sh (.pr (.own 0 .sh) .sh))))) .sh))))), .box 3 TUpdate .sh, .ptr 0 0 0, .ptr 3 3 0]),(10,[.box 0 TClient (.pr .sh (.pr (.pr (.own 0 .sh) .sh) (.pr (.pr (.own 0 .sh) .sh) (.pr .sh (.pr (.pr .sh (.pr .sh (.pr .sh (.pr .sh (.pr (.own 0 .sh) .sh))))) .sh))))), .box 3 TUpdate .sh, .ptr 0 0 0, .ptr 3 3 0])]}
noncomputable def sL22Take_c:List (Nat×Sig):=[(140,sPeriodOf_g),(63,sL22Committee_g)]
noncomputable def sL22Take_d:tClient×tUpdate×Unit→Option ((Unit)×tClient×Unit):=sL22Take_F.d V sL22Take_c
noncomputable abbrev sL22Take_g:Sig:=sL22Take_F.t.sig sL22Take_d
noncomputable def sL22Take_D7:Int×tClient×tUpdate×Unit→Option ((Unit)×tClient×Unit):=sL22Take_F.D V sL22Take_c 7
noncomputable def sL22Take_D10:tClient×tUpdate×Unit→Option ((Unit)×tClient×Unit):=sL22Take_F.D V sL22Take_c 10
theorem sL22Take_b (x1:tClient) (x2:tUpdate):sL22Take_d (x1,(x2,()))=bnd (sPeriodOf_d (x1.1.1,())) (fun r2=>(bnd (sPeriodOf_d (x2.2.2.2.1.1,())) (fun r3=>(cnd (ieq r3.1.1 (iadd .i64 r2.1.1 1)) (bnd (sL22Committee_d (x1.2.2.1,())) (fun r4=>(sL22Take_D7 ((iadd .i64 r2.1.1 1),((x1.1,(r4.1.1,(zCommittee,(false,x1.2.2.2.2)))),(x2,())))))) (sL22Take_D7 (r2.1.1,(x1,(x2,())))))))):=(FnD.eq V sL22Take_c sL22Take_F (x1,(x2,()))).trans (by kernel_rfl)
theorem sL22Take_q7 (x1:Int) (x2:tClient) (x3:tUpdate):sL22Take_D7 (x1,(x2,(x3,())))=cnd (bnot x2.2.2.2.1) (bnd (sPeriodOf_d (x3.1.1,())) (fun r3=>(cnd (ieq r3.1.1 x1) (bnd (sL22Committee_d (x3.2.1,())) (fun r4=>(sL22Take_D10 ((x2.1,(x2.2.1,(r4.1.1,(true,x2.2.2.2.2)))),(x3,()))))) (sL22Take_D10 (x2,(x3,())))))) (sL22Take_D10 (x2,(x3,()))):=(FnD.eqC V sL22Take_c sL22Take_F 7 (x1,(x2,(x3,())))).trans (by kernel_rfl)
theorem sL22Take_q10 (x1:tClient) (x2:tUpdate):sL22Take_D10 (x1,(x2,()))=cnd (igt x2.2.2.2.1.1 x1.1.1) (some ((),((x2.2.2.2.1,x1.2),()))) (some ((),(x1,()))):=(FnD.eqC V sL22Take_c sL22Take_F 10 (x1,(x2,()))).trans (by kernel_rfl)
theorem sL22Take_k:CallsOk Tryz.prog gls gvs 74 sL22Take_g:=FnD.ok (F:=sL22Take_F) (cs:=sL22Take_c) V_ok (kC sPeriodOf_k (kC sL22Committee_k kN)) Tryz.func74 (by decide) (by kernel_rfl)
noncomputable def sTakeUpdate_F:FnD:={f:=33,fn:=Tryz.f33,ps:=[pa TClient,pa TUpdate,pa (.int .i64)],rs:=[rt TClient,rt (.int .i64)],al:=true}
noncomputable def sTakeUpdate_c:List (Nat×Sig):=[(31,sL22Copy_g),(73,sCheckUpdate_g),(74,sL22Take_g)]
noncomputable def sTakeUpdate_d:tClient×tUpdate×Int×Unit→Option ((tClient×Int×Unit)×Unit):=sTakeUpdate_F.d V sTakeUpdate_c
noncomputable abbrev sTakeUpdate_g:Sig:=sTakeUpdate_F.t.sig sTakeUpdate_d
theorem sTakeUpdate_b (x1:tClient) (x2:tUpdate) (x3:Int):sTakeUpdate_d (x1,(x2,(x3,())))=bnd (sL22Copy_d (x1,())) (fun r3=>(bnd (sCheckUpdate_d (x1,(x2,(x3,())))) (fun r4=>(cnd (ieq r4.1.1 0) (bnd (sL22Take_d (r3.1.1,(x2,()))) (fun r5=>(some ((r5.2.1,(r4.1.1,())),())))) (some ((r3.1.1,(r4.1.1,())),())))))):=(FnD.eq V sTakeUpdate_c sTakeUpdate_F (x1,(x2,(x3,())))).trans (by kernel_rfl)
theorem sTakeUpdate_k:CallsOk Tryz.prog gls gvs 33 sTakeUpdate_g:=FnD.ok (F:=sTakeUpdate_F) (cs:=sTakeUpdate_c) V_ok (kC sL22Copy_k (kC sCheckUpdate_k (kC sL22Take_k kN))) Tryz.func33 (by decide) (by kernel_rfl)
noncomputable def sRecordText_F:FnD:={f:=75,fn:=Tryz.f75,ps:=[pa .str],rs:=[rt .str,rt .bool]}
noncomputable def sRecordText_c:List (Nat×Sig):=[(123,sL01In_g),(124,sL01Var_g),(127,sSealed_g)]
noncomputable def sRecordText_d:ByteArray×Unit→Option ((ByteArray×Bool×Unit)×Unit):=sRecordText_F.d V sRecordText_c
noncomputable abbrev sRecordText_g:Sig:=sRecordText_F.t.sig sRecordText_d
theorem sRecordText_b (x1:ByteArray):sRecordText_d (x1,())=bnd (sL01In_d ((ssz x1),(1,(700,())))) (fun r1=>(cnd (bnot r1.1.1) (some (zL21Cur,())) (bnd (sL01Var_d ((ssz x1),())) (fun r2=>(cnd (fits ((ssz r2.1.1)+(ssz x1)) 1) (bnd (sSealed_d ((scat r2.1.1 x1),())) (fun r3=>(some ((r3.1.1,(r3.1.2.1,())),())))) none))))):=(FnD.eq V sRecordText_c sRecordText_F (x1,())).trans (by kernel_rfl)
theorem sRecordText_k:CallsOk Tryz.prog gls gvs 75 sRecordText_g:=FnD.ok (F:=sRecordText_F) (cs:=sRecordText_c) V_ok (kC sL01In_k (kC sL01Var_k (kC sSealed_k kN))) Tryz.func75 (by decide) (by kernel_rfl)
noncomputable def sAddRecord_F:FnD:={f:=34,fn:=Tryz.f34,ps:=[pa .str,pa .str],rs:=[rt .str,rt .bool]}
noncomputable def sAddRecord_c:List (Nat×Sig):=[(75,sRecordText_g)]
noncomputable def sAddRecord_d:ByteArray×ByteArray×Unit→Option ((ByteArray×Bool×Unit)×Unit):=sAddRecord_F.d V sAddRecord_c
noncomputable abbrev sAddRecord_g:Sig:=sAddRecord_F.t.sig sAddRecord_d
theorem sAddRecord_b (x1:ByteArray) (x2:ByteArray):sAddRecord_d (x1,(x2,()))=bnd (sRecordText_d (x2,())) (fun r2=>(cnd (bnot r2.1.2.1) (some ((x1,(false,())),())) (cnd (igt (ssz r2.1.1) (isub .i64 20000 (ssz x1))) (some ((x1,(false,())),())) (cnd (fits ((ssz x1)+(ssz r2.1.1)) 1) (some (((scat x1 r2.1.1),(true,())),())) none)))):=(FnD.eq V sAddRecord_c sAddRecord_F (x1,(x2,()))).trans (by kernel_rfl)
theorem sAddRecord_k:CallsOk Tryz.prog gls gvs 34 sAddRecord_g:=FnD.ok (F:=sAddRecord_F) (cs:=sAddRecord_c) V_ok (kC sRecordText_k kN) Tryz.func34 (by decide) (by kernel_rfl)
noncomputable def sL24Drain_F:FnD:={f:=14,fn:=Tryz.f14,ps:=[⟨TBridge, .sh,true,true,none⟩],rs:=[rt (.int .i64)],al:=true}
noncomputable def sL24Drain_c:List (Nat×Sig):=[(32,sReadUpdate_g),(33,sTakeUpdate_g),(34,sAddRecord_g)]
noncomputable def sL24Drain_d:tBridge×Unit→Option ((Int×Unit)×tBridge×Unit):=sL24Drain_F.d V sL24Drain_c
noncomputable abbrev sL24Drain_g:Sig:=sL24Drain_F.t.sig sL24Drain_d
theorem sL24Drain_b (x1:tBridge):sL24Drain_d (x1,())=cnd (ieq (len x1.2.2.2.2.1) 0) (some ((10,()),(x1,()))) (cnd (inb 0 (len x1.2.2.2.2.1)) (cnd (inb2 1 (len x1.2.2.2.2.1) (len x1.2.2.2.2.1)) (cnd (fits ((len ([]:List ByteArray))+(len (sub x1.2.2.2.2.1 1 (len x1.2.2.2.2.1)))) 1) (bnd (sReadUpdate_d ((rd (bs []) x1.2.2.2.2.1 0),())) (fun r1=>(cnd (bnot r1.1.2.1) (some ((1,()),((x1.1,(x1.2.1,(x1.2.2.1,(x1.2.2.2.1,((app ([]:List ByteArray) (sub x1.2.2.2.2.1 1 (len x1.2.2.2.2.1))),x1.2.2.2.2.2))))),()))) (bnd (sTakeUpdate_d (x1.2.1,(r1.1.1,(x1.2.2.2.2.2.1,())))) (fun r2=>(agree (cnd (ine r2.1.2.1 0) (some ((r2.1.2.1,()),((x1.1,(x1.2.1,(x1.2.2.1,(x1.2.2.2.1,((app ([]:List ByteArray) (sub x1.2.2.2.2.1 1 (len x1.2.2.2.2.1))),x1.2.2.2.2.2))))),()))) (bnd (sAddRecord_d (x1.2.2.1,((rd (bs []) x1.2.2.2.2.1 0),()))) (fun r3=>(cnd (bnot r3.1.2.1) (some ((11,()),((x1.1,(x1.2.1,(x1.2.2.1,(x1.2.2.2.1,((app ([]:List ByteArray) (sub x1.2.2.2.2.1 1 (len x1.2.2.2.2.1))),x1.2.2.2.2.2))))),()))) (some ((0,()),((x1.1,(r2.1.1,(r3.1.1,(x1.2.2.2.1,((app ([]:List ByteArray) (sub x1.2.2.2.2.1 1 (len x1.2.2.2.2.1))),x1.2.2.2.2.2))))),()))))))) (cnd (ine r2.1.2.1 0) (some ((r2.1.2.1,()),((x1.1,(x1.2.1,(x1.2.2.1,(x1.2.2.2.1,((app ([]:List ByteArray) (sub x1.2.2.2.2.1 1 (len x1.2.2.2.2.1))),x1.2.2.2.2.2))))),()))) (bnd (sAddRecord_d (x1.2.2.1,((rd (bs []) x1.2.2.2.2.1 0),()))) (fun r3=>(cnd (bnot r3.1.2.1) (some ((11,()),((x1.1,(x1.2.1,(x1.2.2.1,(x1.2.2.2.1,((app ([]:List ByteArray) (sub x1.2.2.2.2.1 1 (len x1.2.2.2.2.1))),x1.2.2.2.2.2))))),()))) (some ((0,()),((x1.1,(r2.1.1,(r3.1.1,(x1.2.2.2.1,((app ([]:List ByteArray) (sub x1.2.2.2.2.1 1 (len x1.2.2.2.2.1))),x1.2.2.2.2.2))))),()))))))))))))) none) none) none):=(FnD.eq V sL24Drain_c sL24Drain_F (x1,())).trans (by kernel_rfl)
theorem sL24Drain_k:CallsOk Tryz.prog gls gvs 14 sL24Drain_g:=FnD.ok (F:=sL24Drain_F) (cs:=sL24Drain_c) V_ok (kC sReadUpdate_k (kC sTakeUpdate_k (kC sAddRecord_k kN))) Tryz.func14 (by decide) (by kernel_rfl)
noncomputable def sDrain_F:FnD:={f:=5,fn:=Tryz.f5,ps:=[pa TBridge],rs:=[rt TBridge,rt (.int .i64)],al:=true}
noncomputable def sDrain_c:List (Nat×Sig):=[(13,sL24Copy_g),(14,sL24Drain_g)]
noncomputable def sDrain_d:tBridge×Unit→Option ((tBridge×Int×Unit)×Unit):=sDrain_F.d V sDrain_c
noncomputable abbrev sDrain_g:Sig:=sDrain_F.t.sig sDrain_d
theorem sDrain_b (x1:tBridge):sDrain_d (x1,())=bnd (sL24Copy_d (x1,())) (fun r1=>(bnd (sL24Drain_d (r1.1.1,())) (fun r2=>(some ((r2.2.1,(r2.1.1,())),()))))):=(FnD.eq V sDrain_c sDrain_F (x1,())).trans (by kernel_rfl)
theorem sDrain_k:CallsOk Tryz.prog gls gvs 5 sDrain_g:=FnD.ok (F:=sDrain_F) (cs:=sDrain_c) V_ok (kC sL24Copy_k (kC sL24Drain_k kN)) Tryz.func5 (by decide) (by kernel_rfl)
noncomputable def g_slices_Clone_impl_Point_impl_Point_F:FnD:={f:=105,fn:=Tryz.f105,ps:=[pa (.sl TPoint)],rs:=[⟨(.sl TPoint),(.own 0 .sh),false⟩]}
noncomputable def g_slices_Clone_impl_Point_impl_Point_c:List (Nat×Sig):=[]
noncomputable def g_slices_Clone_impl_Point_impl_Point_d:(List tPoint)×Unit→Option (((List tPoint)×Unit)×Unit):=g_slices_Clone_impl_Point_impl_Point_F.d V g_slices_Clone_impl_Point_impl_Point_c
noncomputable abbrev g_slices_Clone_impl_Point_impl_Point_g:Sig:=g_slices_Clone_impl_Point_impl_Point_F.t.sig g_slices_Clone_impl_Point_impl_Point_d
theorem g_slices_Clone_impl_Point_impl_Point_b (x1:(List tPoint)):g_slices_Clone_impl_Point_impl_Point_d (x1,())=cnd (ieq (len x1) 0) (agree (some (zCommittee,())) (cnd (fits ((len ([]:List tPoint))+(len x1)) 3) (some (((app ([]:List tPoint) x1),()),())) none)) (cnd (fits ((len ([]:List tPoint))+(len x1)) 3) (some (((app ([]:List tPoint) x1),()),())) none):=(FnD.eq V g_slices_Clone_impl_Point_impl_Point_c g_slices_Clone_impl_Point_impl_Point_F (x1,())).trans (by kernel_rfl)
theorem g_slices_Clone_impl_Point_impl_Point_k:CallsOk Tryz.prog gls gvs 105 g_slices_Clone_impl_Point_impl_Point_g:=FnD.ok (F:=g_slices_Clone_impl_Point_impl_Point_F) (cs:=g_slices_Clone_impl_Point_impl_Point_c) V_ok kN Tryz.func105 (by decide) (by kernel_rfl)
noncomputable def iCopyCommittee_F:FnD:={f:=52,fn:=Tryz.f52,ps:=[pa TCommittee],rs:=[⟨TCommittee,(.pr (.own 0 .sh) .sh),false⟩]}
noncomputable def iCopyCommittee_c:List (Nat×Sig):=[(105,g_slices_Clone_impl_Point_impl_Point_g)]
noncomputable def iCopyCommittee_d:tCommittee×Unit→Option ((tCommittee×Unit)×Unit):=iCopyCommittee_F.d V iCopyCommittee_c
noncomputable abbrev iCopyCommittee_g:Sig:=iCopyCommittee_F.t.sig iCopyCommittee_d
theorem iCopyCommittee_b (x1:tCommittee):iCopyCommittee_d (x1,())=bnd (g_slices_Clone_impl_Point_impl_Point_d (x1.1,())) (fun r1=>(some (((r1.1.1,()),()),()))):=(FnD.eq V iCopyCommittee_c iCopyCommittee_F (x1,())).trans (by kernel_rfl)
theorem iCopyCommittee_k:CallsOk Tryz.prog gls gvs 52 iCopyCommittee_g:=FnD.ok (F:=iCopyCommittee_F) (cs:=iCopyCommittee_c) V_ok (kC g_slices_Clone_impl_Point_impl_Point_k kN) Tryz.func52 (by decide) (by kernel_rfl)
noncomputable def iCopyKeys_F:FnD:={f:=78,fn:=Tryz.f78,ps:=[pa TKeys],rs:=[⟨TKeys,(.pr .sh (.pr .sh (.pr .sh (.pr .sh (.pr (.own 0 .sh) .sh))))),false⟩]}
noncomputable def iCopyKeys_c:List (Nat×Sig):=[(105,g_slices_Clone_impl_Point_impl_Point_g)]
noncomputable def iCopyKeys_d:tKeys×Unit→Option ((tKeys×Unit)×Unit):=iCopyKeys_F.d V iCopyKeys_c
noncomputable abbrev iCopyKeys_g:Sig:=iCopyKeys_F.t.sig iCopyKeys_d
theorem iCopyKeys_b (x1:tKeys):iCopyKeys_d (x1,())=bnd (g_slices_Clone_impl_Point_impl_Point_d (x1.2.2.2.2.1,())) (fun r1=>(some (((x1.1,(x1.2.1,(x1.2.2.1,(x1.2.2.2.1,(r1.1.1,x1.2.2.2.2.2))))),()),()))):=(FnD.eq V iCopyKeys_c iCopyKeys_F (x1,())).trans (by kernel_rfl)
theorem iCopyKeys_k:CallsOk Tryz.prog gls gvs 78 iCopyKeys_g:=FnD.ok (F:=iCopyKeys_F) (cs:=iCopyKeys_c) V_ok (kC g_slices_Clone_impl_Point_impl_Point_k kN) Tryz.func78 (by decide) (by kernel_rfl)
noncomputable def iCopyClient_F:FnD:={f:=38,fn:=Tryz.f38,ps:=[pa TClient],rs:=[⟨TClient,(.pr .sh (.pr (.pr (.own 0 .sh) .sh) (.pr (.pr (.own 0 .sh) .sh) (.pr .sh (.pr (.pr .sh (.pr .sh (.pr .sh (.pr .sh (.pr (.own 0 .sh) .sh))))) .sh))))),false⟩]}
noncomputable def iCopyClient_c:List (Nat×Sig):=[(52,iCopyCommittee_g),(78,iCopyKeys_g)]
noncomputable def iCopyClient_d:tClient×Unit→Option ((tClient×Unit)×Unit):=iCopyClient_F.d V iCopyClient_c
noncomputable abbrev iCopyClient_g:Sig:=iCopyClient_F.t.sig iCopyClient_d
theorem iCopyClient_b (x1:tClient):iCopyClient_d (x1,())=bnd (iCopyCommittee_d (x1.2.1,())) (fun r1=>(bnd (iCopyCommittee_d (x1.2.2.1,())) (fun r2=>(bnd (iCopyKeys_d (x1.2.2.2.2.1,())) (fun r3=>(some (((x1.1,(r1.1.1,(r2.1.1,(x1.2.2.2.1,(r3.1.1,x1.2.2.2.2.2))))),()),()))))))):=(FnD.eq V iCopyClient_c iCopyClient_F (x1,())).trans (by kernel_rfl)
theorem iCopyClient_k:CallsOk Tryz.prog gls gvs 38 iCopyClient_g:=FnD.ok (F:=iCopyClient_F) (cs:=iCopyClient_c) V_ok (kC iCopyCommittee_k (kC iCopyKeys_k kN)) Tryz.func38 (by decide) (by kernel_rfl)
noncomputable def g_slices_Clone_string_string_F:FnD:={f:=39,fn:=Tryz.f39,ps:=[pa (.sl .str)],rs:=[⟨(.sl .str),(.own 0 .sh),false⟩]}
noncomputable def g_slices_Clone_string_string_c:List (Nat×Sig):=[]
noncomputable def g_slices_Clone_string_string_d:(List ByteArray)×Unit→Option (((List ByteArray)×Unit)×Unit):=g_slices_Clone_string_string_F.d V g_slices_Clone_string_string_c
noncomputable abbrev g_slices_Clone_string_string_g:Sig:=g_slices_Clone_string_string_F.t.sig g_slices_Clone_string_string_d
theorem g_slices_Clone_string_string_b (x1:(List ByteArray)):g_slices_Clone_string_string_d (x1,())=cnd (ieq (len x1) 0) (agree (some ((([]:List ByteArray),()),())) (cnd (fits ((len ([]:List ByteArray))+(len x1)) 1) (some (((app ([]:List ByteArray) x1),()),())) none)) (cnd (fits ((len ([]:List ByteArray))+(len x1)) 1) (some (((app ([]:List ByteArray) x1),()),())) none):=(FnD.eq V g_slices_Clone_string_string_c g_slices_Clone_string_string_F (x1,())).trans (by kernel_rfl)
theorem g_slices_Clone_string_string_k:CallsOk Tryz.prog gls gvs 39 g_slices_Clone_string_string_g:=FnD.ok (F:=g_slices_Clone_string_string_F) (cs:=g_slices_Clone_string_string_c) V_ok kN Tryz.func39 (by decide) (by kernel_rfl)
noncomputable def iCopyBridge_F:FnD:={f:=17,fn:=Tryz.f17,ps:=[pa TBridge],rs:=[⟨TBridge,(.pr (.pr .sh (.pr (.pr (.own 0 .sh) .sh) (.pr (.pr (.own 0 .sh) .sh) (.pr .sh (.pr (.pr .sh (.pr .sh (.pr .sh (.pr .sh (.pr (.own 0 .sh) .sh))))) .sh))))) (.pr (.pr .sh (.pr (.pr (.own 0 .sh) .sh) (.pr (.pr (.own 0 .sh) .sh) (.pr .sh (.pr (.pr .sh (.pr .sh (.pr .sh (.pr .sh (.pr (.own 0 .sh) .sh))))) .sh))))) (.pr .sh (.pr .sh (.pr (.own 0 .sh) .sh))))),false⟩]}
noncomputable def iCopyBridge_c:List (Nat×Sig):=[(38,iCopyClient_g),(39,g_slices_Clone_string_string_g)]
noncomputable def iCopyBridge_d:tBridge×Unit→Option ((tBridge×Unit)×Unit):=iCopyBridge_F.d V iCopyBridge_c
noncomputable abbrev iCopyBridge_g:Sig:=iCopyBridge_F.t.sig iCopyBridge_d
theorem iCopyBridge_b (x1:tBridge):iCopyBridge_d (x1,())=bnd (iCopyClient_d (x1.1,())) (fun r1=>(bnd (iCopyClient_d (x1.2.1,())) (fun r2=>(bnd (g_slices_Clone_string_string_d (x1.2.2.2.2.1,())) (fun r3=>(some (((r1.1.1,(r2.1.1,(x1.2.2.1,(x1.2.2.2.1,(r3.1.1,x1.2.2.2.2.2))))),()),()))))))):=(FnD.eq V iCopyBridge_c iCopyBridge_F (x1,())).trans (by kernel_rfl)
theorem iCopyBridge_k:CallsOk Tryz.prog gls gvs 17 iCopyBridge_g:=FnD.ok (F:=iCopyBridge_F) (cs:=iCopyBridge_c) V_ok (kC iCopyClient_k (kC g_slices_Clone_string_string_k kN)) Tryz.func17 (by decide) (by kernel_rfl)
noncomputable def iSumMore_F:FnD:={f:=180,fn:=Tryz.f180,ps:=[pa (.int .u32),pa .str],rs:=[rt (.int .u32)],cuts:=[(6,[.val 0 (.int .u32) .sh, .val 1 .str .sh, .val 5 (.int .i64) .sh, .val 19 (.int .i64) .sh]),(2,[.val 0 (.int .u32) .sh, .val 1 .str .sh, .val 5 (.int .i64) .sh])]}
noncomputable def iSumMore_c:List (Nat×Sig):=[]
noncomputable def iSumMore_d:Int×ByteArray×Unit→Option ((Int×Unit)×Unit):=iSumMore_F.d V iSumMore_c
noncomputable abbrev iSumMore_g:Sig:=iSumMore_F.t.sig iSumMore_d
noncomputable def iSumMore_D6:Int×ByteArray×Int×Int×Unit→Option ((Int×Unit)×Unit):=iSumMore_F.D V iSumMore_c 6
noncomputable def iSumMore_D2:Int×ByteArray×Int×Unit→Option ((Int×Unit)×Unit):=iSumMore_F.D V iSumMore_c 2
theorem iSumMore_b (x1:Int) (x2:ByteArray):iSumMore_d (x1,(x2,()))=iSumMore_D2 (x1,(x2,(0,()))):=(FnD.eq V iSumMore_c iSumMore_F (x1,(x2,()))).trans (by kernel_rfl)
theorem iSumMore_q6 (x1:Int) (x2:ByteArray) (x3:Int) (x4:Int):iSumMore_D6 (x1,(x2,(x3,(x4,()))))=cnd (ilt x4 8) (cnd (nn 1) (cnd (ieq (iand .u32 x1 1) 1) (iSumMore_D6 ((ixor .u32 (ishr .u32 x1 1) 3558460437),(x2,(x3,((iadd .i64 x4 1),()))))) (iSumMore_D6 ((ishr .u32 x1 1),(x2,(x3,((iadd .i64 x4 1),())))))) none) (iSumMore_D2 (x1,(x2,((iadd .i64 x3 1),())))):=(FnD.eqC V iSumMore_c iSumMore_F 6 (x1,(x2,(x3,(x4,()))))).trans (by kernel_rfl)
theorem iSumMore_q2 (x1:Int) (x2:ByteArray) (x3:Int):iSumMore_D2 (x1,(x2,(x3,())))=cnd (ilt x3 (ssz x2)) (cnd (inb x3 (ssz x2)) (iSumMore_D6 ((ixor .u32 x1 (iconv .u32 (sat x2 x3))),(x2,(x3,(0,()))))) none) (some ((x1,()),())):=(FnD.eqC V iSumMore_c iSumMore_F 2 (x1,(x2,(x3,())))).trans (by kernel_rfl)
theorem iSumMore_k:CallsOk Tryz.prog gls gvs 180 iSumMore_g:=FnD.ok (F:=iSumMore_F) (cs:=iSumMore_c) V_ok kN Tryz.func180 (by decide) (by kernel_rfl)
noncomputable def iSumOf_F:FnD:={f:=141,fn:=Tryz.f141,ps:=[pa .str],rs:=[rt (.int .u32)]}
noncomputable def iSumOf_c:List (Nat×Sig):=[(180,iSumMore_g)]
noncomputable def iSumOf_d:ByteArray×Unit→Option ((Int×Unit)×Unit):=iSumOf_F.d V iSumOf_c
noncomputable abbrev iSumOf_g:Sig:=iSumOf_F.t.sig iSumOf_d
theorem iSumOf_b (x1:ByteArray):iSumOf_d (x1,())=bnd (iSumMore_d (4294967295,(x1,()))) (fun r1=>(some ((r1.1.1,()),()))):=(FnD.eq V iSumOf_c iSumOf_F (x1,())).trans (by kernel_rfl)
theorem iSumOf_k:CallsOk Tryz.prog gls gvs 141 iSumOf_g:=FnD.ok (F:=iSumOf_F) (cs:=iSumOf_c) V_ok (kC iSumMore_k kN) Tryz.func141 (by decide) (by kernel_rfl)
noncomputable def iSumText_F:FnD:={f:=79,fn:=Tryz.f79,ps:=[pa .str],rs:=[rt .str]}
noncomputable def iSumText_c:List (Nat×Sig):=[(141,iSumOf_g)]
noncomputable def iSumText_d:ByteArray×Unit→Option ((ByteArray×Unit)×Unit):=iSumText_F.d V iSumText_c
noncomputable abbrev iSumText_g:Sig:=iSumText_F.t.sig iSumText_d
theorem iSumText_b (x1:ByteArray):iSumText_d (x1,())=bnd (iSumOf_d (x1,())) (fun r1=>(cnd (nn 24) (cnd (nn 16) (cnd (nn 8) (some (((sof ((iconv .u8 (ishr .u32 r1.1.1 24))::((iconv .u8 (ishr .u32 r1.1.1 16))::((iconv .u8 (ishr .u32 r1.1.1 8))::((iconv .u8 r1.1.1)::([]:List Int)))))),()),())) none) none) none)):=(FnD.eq V iSumText_c iSumText_F (x1,())).trans (by kernel_rfl)
theorem iSumText_k:CallsOk Tryz.prog gls gvs 79 iSumText_g:=FnD.ok (F:=iSumText_F) (cs:=iSumText_c) V_ok (kC iSumOf_k kN) Tryz.func79 (by decide) (by kernel_rfl)
noncomputable def iUnsealed_F:FnD:={f:=40,fn:=Tryz.f40,ps:=[pa .str],rs:=[rt .str,rt .bool]}
noncomputable def iUnsealed_c:List (Nat×Sig):=[(79,iSumText_g)]
noncomputable def iUnsealed_d:ByteArray×Unit→Option ((ByteArray×Bool×Unit)×Unit):=iUnsealed_F.d V iUnsealed_c
noncomputable abbrev iUnsealed_g:Sig:=iUnsealed_F.t.sig iUnsealed_d
theorem iUnsealed_b (x1:ByteArray):iUnsealed_d (x1,())=cnd (ilt (isub .i64 (ssz x1) 4) 0) (some (zL21Cur,())) (cnd (igt (isub .i64 (ssz x1) 4) 20000) (some (zL21Cur,())) (cnd (inb2 0 (isub .i64 (ssz x1) 4) (ssz x1)) (bnd (iSumText_d ((ssub x1 0 (isub .i64 (ssz x1) 4)),())) (fun r1=>(cnd (inb2 (isub .i64 (ssz x1) 4) (ssz x1) (ssz x1)) (cnd (sne r1.1.1 (ssub x1 (isub .i64 (ssz x1) 4) (ssz x1))) (some (zL21Cur,())) (cnd (inb2 0 (isub .i64 (ssz x1) 4) (ssz x1)) (some (((ssub x1 0 (isub .i64 (ssz x1) 4)),(true,())),())) none)) none))) none)):=(FnD.eq V iUnsealed_c iUnsealed_F (x1,())).trans (by kernel_rfl)
theorem iUnsealed_k:CallsOk Tryz.prog gls gvs 40 iUnsealed_g:=FnD.ok (F:=iUnsealed_F) (cs:=iUnsealed_c) V_ok (kC iSumText_k kN) Tryz.func40 (by decide) (by kernel_rfl)
noncomputable def iReadVar_F:FnD:={f:=80,fn:=Tryz.f80,ps:=[pa .str,pa (.int .i64)],rs:=[rt (.int .i64),rt (.int .i64),rt .bool],joins:=[13],cuts:=[(13,[.val 1 (.int .i64) .sh, .val 7 (.int .i64) .sh, .val 9 (.int .i64) .sh]),(5,[.val 0 .str .sh, .val 1 (.int .i64) .sh, .val 7 (.int .i64) .sh, .val 8 (.int .i64) .sh, .val 9 (.int .i64) .sh])]}
noncomputable def iReadVar_c:List (Nat×Sig):=[]
noncomputable def iReadVar_d:ByteArray×Int×Unit→Option ((Int×Int×Bool×Unit)×Unit):=iReadVar_F.d V iReadVar_c
noncomputable abbrev iReadVar_g:Sig:=iReadVar_F.t.sig iReadVar_d
noncomputable def iReadVar_D13:Int×Int×Int×Unit→Option ((Int×Int×Bool×Unit)×Unit):=iReadVar_F.D V iReadVar_c 13
noncomputable def iReadVar_D5:ByteArray×Int×Int×Int×Int×Unit→Option ((Int×Int×Bool×Unit)×Unit):=iReadVar_F.D V iReadVar_c 5
theorem iReadVar_b (x1:ByteArray) (x2:Int):iReadVar_d (x1,(x2,()))=cnd (ilt x2 0) (some (zPoint,())) (cnd (igt x2 (ssz x1)) (some (zPoint,())) (iReadVar_D5 (x1,(x2,(0,(1,(0,()))))))):=(FnD.eq V iReadVar_c iReadVar_F (x1,(x2,()))).trans (by kernel_rfl)
theorem iReadVar_q13 (x1:Int) (x2:Int) (x3:Int):iReadVar_D13 (x1,(x2,(x3,())))=some ((x2,((iadd .i64 (iadd .i64 x1 x3) 1),(true,()))),()):=(FnD.eqC V iReadVar_c iReadVar_F 13 (x1,(x2,(x3,())))).trans (by kernel_rfl)
theorem iReadVar_q5 (x1:ByteArray) (x2:Int) (x3:Int) (x4:Int) (x5:Int):iReadVar_D5 (x1,(x2,(x3,(x4,(x5,())))))=cnd (ilt x5 5) (cnd (ilt (iadd .i64 x2 x5) (ssz x1)) (cnd (inb (iadd .i64 x2 x5) (ssz x1)) (cnd (nz 128) (cnd (ige (iconv .i64 (sat x1 (iadd .i64 x2 x5))) 128) (iReadVar_D5 (x1,(x2,((iadd .i64 x3 (imul .i64 (irem (iconv .i64 (sat x1 (iadd .i64 x2 x5))) 128) x4)),((imul .i64 x4 128),((iadd .i64 x5 1),())))))) (cnd (ieq (iconv .i64 (sat x1 (iadd .i64 x2 x5))) 0) (cnd (igt x5 0) (some (zPoint,())) (cnd (igt (iadd .i64 x3 (imul .i64 (irem (iconv .i64 (sat x1 (iadd .i64 x2 x5))) 128) x4)) 1000000000) (some (zPoint,())) (iReadVar_D13 (x2,((iadd .i64 x3 (imul .i64 (irem (iconv .i64 (sat x1 (iadd .i64 x2 x5))) 128) x4)),(x5,())))))) (cnd (igt (iadd .i64 x3 (imul .i64 (irem (iconv .i64 (sat x1 (iadd .i64 x2 x5))) 128) x4)) 1000000000) (some (zPoint,())) (iReadVar_D13 (x2,((iadd .i64 x3 (imul .i64 (irem (iconv .i64 (sat x1 (iadd .i64 x2 x5))) 128) x4)),(x5,()))))))) none) none) (some (zPoint,()))) (some (zPoint,())):=(FnD.eqC V iReadVar_c iReadVar_F 5 (x1,(x2,(x3,(x4,(x5,())))))).trans (by kernel_rfl)
theorem iReadVar_k:CallsOk Tryz.prog gls gvs 80 iReadVar_g:=FnD.ok (F:=iReadVar_F) (cs:=iReadVar_c) V_ok kN Tryz.func80 (by decide) (by kernel_rfl)
noncomputable def iScanner_number_F:FnD:={f:=44,fn:=Tryz.f44,ps:=[⟨TScanner, .sh,true,true,none⟩],rs:=[rt (.int .i64)]}
noncomputable def iScanner_number_c:List (Nat×Sig):=[(80,iReadVar_g)]
noncomputable def iScanner_number_d:tScanner×Unit→Option ((Int×Unit)×tScanner×Unit):=iScanner_number_F.d V iScanner_number_c
noncomputable abbrev iScanner_number_g:Sig:=iScanner_number_F.t.sig iScanner_number_d
theorem iScanner_number_b (x1:tScanner):iScanner_number_d (x1,())=bnd (iReadVar_d (x1.1,(x1.2.1,()))) (fun r1=>(cnd x1.2.2.1 (some ((0,()),((x1.1,(x1.2.1,(true,x1.2.2.2))),()))) (cnd (bnot r1.1.2.2.1) (some ((0,()),((x1.1,(x1.2.1,(true,x1.2.2.2))),()))) (some ((r1.1.1,()),((x1.1,(r1.1.2.1,x1.2.2)),())))))):=(FnD.eq V iScanner_number_c iScanner_number_F (x1,())).trans (by kernel_rfl)
theorem iScanner_number_k:CallsOk Tryz.prog gls gvs 44 iScanner_number_g:=FnD.ok (F:=iScanner_number_F) (cs:=iScanner_number_c) V_ok (kC iReadVar_k kN) Tryz.func44 (by decide) (by kernel_rfl)
noncomputable def iScanner_take_F:FnD:={f:=42,fn:=Tryz.f42,ps:=[⟨TScanner, .sh,true,true,none⟩,pa (.int .i64)],rs:=[rt .str]}
noncomputable def iScanner_take_c:List (Nat×Sig):=[]
noncomputable def iScanner_take_d:tScanner×Int×Unit→Option ((ByteArray×Unit)×tScanner×Unit):=iScanner_take_F.d V iScanner_take_c
noncomputable abbrev iScanner_take_g:Sig:=iScanner_take_F.t.sig iScanner_take_d
theorem iScanner_take_b (x1:tScanner) (x2:Int):iScanner_take_d (x1,(x2,()))=cnd x1.2.2.1 (some (((bs []),()),((x1.1,(x1.2.1,(true,x1.2.2.2))),()))) (cnd (igt x2 (isub .i64 (ssz x1.1) x1.2.1)) (some (((bs []),()),((x1.1,(x1.2.1,(true,x1.2.2.2))),()))) (cnd (inb2 (isub .i64 (iadd .i64 x1.2.1 x2) x2) (iadd .i64 x1.2.1 x2) (ssz x1.1)) (some (((ssub x1.1 (isub .i64 (iadd .i64 x1.2.1 x2) x2) (iadd .i64 x1.2.1 x2)),()),((x1.1,((iadd .i64 x1.2.1 x2),x1.2.2)),()))) none)):=(FnD.eq V iScanner_take_c iScanner_take_F (x1,(x2,()))).trans (by kernel_rfl)
theorem iScanner_take_k:CallsOk Tryz.prog gls gvs 42 iScanner_take_g:=FnD.ok (F:=iScanner_take_F) (cs:=iScanner_take_c) V_ok kN Tryz.func42 (by decide) (by kernel_rfl)
noncomputable def iScanner_head_F:FnD:={f:=41,fn:=Tryz.f41,ps:=[⟨TScanner, .sh,true,true,none⟩],rs:=[rt THead]}
noncomputable def iScanner_head_c:List (Nat×Sig):=[(44,iScanner_number_g),(42,iScanner_take_g)]
noncomputable def iScanner_head_d:tScanner×Unit→Option ((tHead×Unit)×tScanner×Unit):=iScanner_head_F.d V iScanner_head_c
noncomputable abbrev iScanner_head_g:Sig:=iScanner_head_F.t.sig iScanner_head_d
theorem iScanner_head_b (x1:tScanner):iScanner_head_d (x1,())=bnd (iScanner_number_d (x1,())) (fun r1=>(bnd (iScanner_take_d (r1.2.1,(32,()))) (fun r2=>(bnd (iScanner_take_d (r2.2.1,(32,()))) (fun r3=>(bnd (iScanner_take_d (r3.2.1,(32,()))) (fun r4=>(some (((r1.1.1,(r2.1.1,(r3.1.1,(r4.1.1,())))),()),(r4.2.1,())))))))))):=(FnD.eq V iScanner_head_c iScanner_head_F (x1,())).trans (by kernel_rfl)
theorem iScanner_head_k:CallsOk Tryz.prog gls gvs 41 iScanner_head_g:=FnD.ok (F:=iScanner_head_F) (cs:=iScanner_head_c) V_ok (kC iScanner_number_k (kC iScanner_take_k kN)) Tryz.func41 (by decide) (by kernel_rfl)
noncomputable def iScanner_branch_F:FnD:={f:=43,fn:=Tryz.f43,ps:=[⟨TScanner, .sh,true,true,none⟩],rs:=[⟨(.sl .str),(.own 0 .sh),false⟩]}
noncomputable def iScanner_branch_c:List (Nat×Sig):=[(42,iScanner_take_g)]
noncomputable def iScanner_branch_d:tScanner×Unit→Option (((List ByteArray)×Unit)×tScanner×Unit):=iScanner_branch_F.d V iScanner_branch_c
noncomputable abbrev iScanner_branch_g:Sig:=iScanner_branch_F.t.sig iScanner_branch_d
theorem iScanner_branch_b (x1:tScanner):iScanner_branch_d (x1,())=bnd (iScanner_take_d (x1,(32,()))) (fun r1=>(bnd (iScanner_take_d (r1.2.1,(32,()))) (fun r2=>(some (((r1.1.1::(r2.1.1::([]:List ByteArray))),()),(r2.2.1,())))))):=(FnD.eq V iScanner_branch_c iScanner_branch_F (x1,())).trans (by kernel_rfl)
theorem iScanner_branch_k:CallsOk Tryz.prog gls gvs 43 iScanner_branch_g:=FnD.ok (F:=iScanner_branch_F) (cs:=iScanner_branch_c) V_ok (kC iScanner_take_k kN) Tryz.func43 (by decide) (by kernel_rfl)
noncomputable def iScanner_done_F:FnD:={f:=45,fn:=Tryz.f45,ps:=[⟨TScanner, .sh,true,true,none⟩],rs:=[rt .bool]}
noncomputable def iScanner_done_c:List (Nat×Sig):=[]
noncomputable def iScanner_done_d:tScanner×Unit→Option ((Bool×Unit)×tScanner×Unit):=iScanner_done_F.d V iScanner_done_c
noncomputable abbrev iScanner_done_g:Sig:=iScanner_done_F.t.sig iScanner_done_d
theorem iScanner_done_b (x1:tScanner):iScanner_done_d (x1,())=cnd (bnot x1.2.2.1) (some (((ieq x1.2.1 (ssz x1.1)),()),(x1,()))) (some ((false,()),(x1,()))):=(FnD.eq V iScanner_done_c iScanner_done_F (x1,())).trans (by kernel_rfl)
theorem iScanner_done_k:CallsOk Tryz.prog gls gvs 45 iScanner_done_g:=FnD.ok (F:=iScanner_done_F) (cs:=iScanner_done_c) V_ok kN Tryz.func45 (by decide) (by kernel_rfl)
noncomputable def iRemainder_F:FnD:={f:=182,fn:=Tryz.f182,ps:=[pa (.int .i64),pa (.int .i64)],rs:=[rt (.int .i64)]}
noncomputable def iRemainder_c:List (Nat×Sig):=[]
noncomputable def iRemainder_d:Int×Int×Unit→Option ((Int×Unit)×Unit):=iRemainder_F.d V iRemainder_c
noncomputable abbrev iRemainder_g:Sig:=iRemainder_F.t.sig iRemainder_d
theorem iRemainder_b (x1:Int) (x2:Int):iRemainder_d (x1,(x2,()))=cnd (nz x2) (cnd (ilt (irem x1 x2) 0) (some (((iadd .i64 (irem x1 x2) x2),()),())) (some (((irem x1 x2),()),()))) none:=(FnD.eq V iRemainder_c iRemainder_F (x1,(x2,()))).trans (by kernel_rfl)
theorem iRemainder_k:CallsOk Tryz.prog gls gvs 182 iRemainder_g:=FnD.ok (F:=iRemainder_F) (cs:=iRemainder_c) V_ok kN Tryz.func182 (by decide) (by kernel_rfl)
noncomputable def iFpOf_F:FnD:={f:=146,fn:=Tryz.f146,ps:=[pa (.int .i64)],rs:=[rt (.int .i64)]}
noncomputable def iFpOf_c:List (Nat×Sig):=[(182,iRemainder_g)]
noncomputable def iFpOf_d:Int×Unit→Option ((Int×Unit)×Unit):=iFpOf_F.d V iFpOf_c
noncomputable abbrev iFpOf_g:Sig:=iFpOf_F.t.sig iFpOf_d
theorem iFpOf_b (x1:Int):iFpOf_d (x1,())=bnd (iRemainder_d (x1,(12107,()))) (fun r1=>(some ((r1.1.1,()),()))):=(FnD.eq V iFpOf_c iFpOf_F (x1,())).trans (by kernel_rfl)
theorem iFpOf_k:CallsOk Tryz.prog gls gvs 146 iFpOf_g:=FnD.ok (F:=iFpOf_F) (cs:=iFpOf_c) V_ok (kC iRemainder_k kN) Tryz.func146 (by decide) (by kernel_rfl)
noncomputable def iFpMul_F:FnD:={f:=145,fn:=Tryz.f145,ps:=[pa (.int .i64),pa (.int .i64)],rs:=[rt (.int .i64)]}
noncomputable def iFpMul_c:List (Nat×Sig):=[(146,iFpOf_g)]
noncomputable def iFpMul_d:Int×Int×Unit→Option ((Int×Unit)×Unit):=iFpMul_F.d V iFpMul_c
noncomputable abbrev iFpMul_g:Sig:=iFpMul_F.t.sig iFpMul_d
theorem iFpMul_b (x1:Int) (x2:Int):iFpMul_d (x1,(x2,()))=bnd (iFpOf_d (x1,())) (fun r2=>(bnd (iFpOf_d (x2,())) (fun r3=>(bnd (iFpOf_d ((imul .i64 r2.1.1 r3.1.1),())) (fun r4=>(some ((r4.1.1,()),()))))))):=(FnD.eq V iFpMul_c iFpMul_F (x1,(x2,()))).trans (by kernel_rfl)
theorem iFpMul_k:CallsOk Tryz.prog gls gvs 145 iFpMul_g:=FnD.ok (F:=iFpMul_F) (cs:=iFpMul_c) V_ok (kC iFpOf_k kN) Tryz.func145 (by decide) (by kernel_rfl)
noncomputable def iFpAdd_F:FnD:={f:=147,fn:=Tryz.f147,ps:=[pa (.int .i64),pa (.int .i64)],rs:=[rt (.int .i64)]}
noncomputable def iFpAdd_c:List (Nat×Sig):=[(146,iFpOf_g)]
noncomputable def iFpAdd_d:Int×Int×Unit→Option ((Int×Unit)×Unit):=iFpAdd_F.d V iFpAdd_c
noncomputable abbrev iFpAdd_g:Sig:=iFpAdd_F.t.sig iFpAdd_d
theorem iFpAdd_b (x1:Int) (x2:Int):iFpAdd_d (x1,(x2,()))=bnd (iFpOf_d (x1,())) (fun r2=>(bnd (iFpOf_d (x2,())) (fun r3=>(bnd (iFpOf_d ((iadd .i64 r2.1.1 r3.1.1),())) (fun r4=>(some ((r4.1.1,()),()))))))):=(FnD.eq V iFpAdd_c iFpAdd_F (x1,(x2,()))).trans (by kernel_rfl)
theorem iFpAdd_k:CallsOk Tryz.prog gls gvs 147 iFpAdd_g:=FnD.ok (F:=iFpAdd_F) (cs:=iFpAdd_c) V_ok (kC iFpOf_k kN) Tryz.func147 (by decide) (by kernel_rfl)
noncomputable def iCurveAt_F:FnD:={f:=83,fn:=Tryz.f83,ps:=[pa (.int .i64)],rs:=[rt (.int .i64)]}
noncomputable def iCurveAt_c:List (Nat×Sig):=[(145,iFpMul_g),(147,iFpAdd_g)]
noncomputable def iCurveAt_d:Int×Unit→Option ((Int×Unit)×Unit):=iCurveAt_F.d V iCurveAt_c
noncomputable abbrev iCurveAt_g:Sig:=iCurveAt_F.t.sig iCurveAt_d
theorem iCurveAt_b (x1:Int):iCurveAt_d (x1,())=bnd (iFpMul_d (x1,(x1,()))) (fun r1=>(bnd (iFpMul_d (r1.1.1,(x1,()))) (fun r2=>(bnd (iFpAdd_d (r2.1.1,(x1,()))) (fun r3=>(some ((r3.1.1,()),()))))))):=(FnD.eq V iCurveAt_c iCurveAt_F (x1,())).trans (by kernel_rfl)
theorem iCurveAt_k:CallsOk Tryz.prog gls gvs 83 iCurveAt_g:=FnD.ok (F:=iCurveAt_F) (cs:=iCurveAt_c) V_ok (kC iFpMul_k (kC iFpAdd_k kN)) Tryz.func83 (by decide) (by kernel_rfl)
noncomputable def iPowerMod_F:FnD:={f:=144,fn:=Tryz.f144,ps:=[pa (.int .i64),pa (.int .i64),pa (.int .i64)],rs:=[rt (.int .i64)],joins:=[6],cuts:=[(6,[.val 0 (.int .i64) .sh, .val 1 (.int .i64) .sh, .val 2 (.int .i64) .sh, .val 7 (.int .i64) .sh]),(3,[.val 0 (.int .i64) .sh, .val 1 (.int .i64) .sh, .val 2 (.int .i64) .sh, .val 7 (.int .i64) .sh])]}
noncomputable def iPowerMod_c:List (Nat×Sig):=[(182,iRemainder_g)]
noncomputable def iPowerMod_d:Int×Int×Int×Unit→Option ((Int×Unit)×Unit):=iPowerMod_F.d V iPowerMod_c
noncomputable abbrev iPowerMod_g:Sig:=iPowerMod_F.t.sig iPowerMod_d
noncomputable def iPowerMod_D6:Int×Int×Int×Int×Unit→Option ((Int×Unit)×Unit):=iPowerMod_F.D V iPowerMod_c 6
noncomputable def iPowerMod_D3:Int×Int×Int×Int×Unit→Option ((Int×Unit)×Unit):=iPowerMod_F.D V iPowerMod_c 3
theorem iPowerMod_b (x1:Int) (x2:Int) (x3:Int):iPowerMod_d (x1,(x2,(x3,())))=bnd (iRemainder_d (x1,(x3,()))) (fun r3=>(iPowerMod_D3 (r3.1.1,(x2,(x3,(1,())))))):=(FnD.eq V iPowerMod_c iPowerMod_F (x1,(x2,(x3,())))).trans (by kernel_rfl)
theorem iPowerMod_q6 (x1:Int) (x2:Int) (x3:Int) (x4:Int):iPowerMod_D6 (x1,(x2,(x3,(x4,()))))=cnd (nz x3) (cnd (nz 2) (iPowerMod_D3 ((irem (imul .i64 x1 x1) x3),((iquo .i64 x2 2),(x3,(x4,()))))) none) none:=(FnD.eqC V iPowerMod_c iPowerMod_F 6 (x1,(x2,(x3,(x4,()))))).trans (by kernel_rfl)
theorem iPowerMod_q3 (x1:Int) (x2:Int) (x3:Int) (x4:Int):iPowerMod_D3 (x1,(x2,(x3,(x4,()))))=cnd (igt x2 0) (cnd (nz 2) (cnd (ieq (irem x2 2) 1) (cnd (nz x3) (iPowerMod_D6 (x1,(x2,(x3,((irem (imul .i64 x4 x1) x3),()))))) none) (iPowerMod_D6 (x1,(x2,(x3,(x4,())))))) none) (some ((x4,()),())):=(FnD.eqC V iPowerMod_c iPowerMod_F 3 (x1,(x2,(x3,(x4,()))))).trans (by kernel_rfl)
theorem iPowerMod_k:CallsOk Tryz.prog gls gvs 144 iPowerMod_g:=FnD.ok (F:=iPowerMod_F) (cs:=iPowerMod_c) V_ok (kC iRemainder_k kN) Tryz.func144 (by decide) (by kernel_rfl)
noncomputable def iFpRoot_F:FnD:={f:=82,fn:=Tryz.f82,ps:=[pa (.int .i64)],rs:=[rt (.int .i64),rt .bool]}
noncomputable def iFpRoot_c:List (Nat×Sig):=[(144,iPowerMod_g),(145,iFpMul_g),(146,iFpOf_g)]
noncomputable def iFpRoot_d:Int×Unit→Option ((Int×Bool×Unit)×Unit):=iFpRoot_F.d V iFpRoot_c
noncomputable abbrev iFpRoot_g:Sig:=iFpRoot_F.t.sig iFpRoot_d
theorem iFpRoot_b (x1:Int):iFpRoot_d (x1,())=bnd (iPowerMod_d (x1,(3027,(12107,())))) (fun r1=>(bnd (iFpMul_d (r1.1.1,(r1.1.1,()))) (fun r2=>(bnd (iFpOf_d (x1,())) (fun r3=>(cnd (ine r2.1.1 r3.1.1) (some ((0,(false,())),())) (bnd (iFpOf_d ((ineg .i64 r1.1.1),())) (fun r4=>(some (((imin r1.1.1 r4.1.1),(true,())),())))))))))):=(FnD.eq V iFpRoot_c iFpRoot_F (x1,())).trans (by kernel_rfl)
theorem iFpRoot_k:CallsOk Tryz.prog gls gvs 82 iFpRoot_g:=FnD.ok (F:=iFpRoot_F) (cs:=iFpRoot_c) V_ok (kC iPowerMod_k (kC iFpMul_k (kC iFpOf_k kN))) Tryz.func82 (by decide) (by kernel_rfl)
noncomputable def iFpSub_F:FnD:={f:=148,fn:=Tryz.f148,ps:=[pa (.int .i64),pa (.int .i64)],rs:=[rt (.int .i64)]}
noncomputable def iFpSub_c:List (Nat×Sig):=[(146,iFpOf_g)]
noncomputable def iFpSub_d:Int×Int×Unit→Option ((Int×Unit)×Unit):=iFpSub_F.d V iFpSub_c
noncomputable abbrev iFpSub_g:Sig:=iFpSub_F.t.sig iFpSub_d
theorem iFpSub_b (x1:Int) (x2:Int):iFpSub_d (x1,(x2,()))=bnd (iFpOf_d (x1,())) (fun r2=>(bnd (iFpOf_d (x2,())) (fun r3=>(bnd (iFpOf_d ((isub .i64 r2.1.1 r3.1.1),())) (fun r4=>(some ((r4.1.1,()),()))))))):=(FnD.eq V iFpSub_c iFpSub_F (x1,(x2,()))).trans (by kernel_rfl)
theorem iFpSub_k:CallsOk Tryz.prog gls gvs 148 iFpSub_g:=FnD.ok (F:=iFpSub_F) (cs:=iFpSub_c) V_ok (kC iFpOf_k kN) Tryz.func148 (by decide) (by kernel_rfl)
noncomputable def iPointNeg_F:FnD:={f:=84,fn:=Tryz.f84,ps:=[pa TPoint],rs:=[rt TPoint]}
noncomputable def iPointNeg_c:List (Nat×Sig):=[(148,iFpSub_g)]
noncomputable def iPointNeg_d:tPoint×Unit→Option ((tPoint×Unit)×Unit):=iPointNeg_F.d V iPointNeg_c
noncomputable abbrev iPointNeg_g:Sig:=iPointNeg_F.t.sig iPointNeg_d
theorem iPointNeg_b (x1:tPoint):iPointNeg_d (x1,())=cnd x1.2.2.1 (some (((0,(0,(true,()))),()),())) (bnd (iFpSub_d (0,(x1.2.1,()))) (fun r1=>(some (((x1.1,(r1.1.1,(false,()))),()),())))):=(FnD.eq V iPointNeg_c iPointNeg_F (x1,())).trans (by kernel_rfl)
theorem iPointNeg_k:CallsOk Tryz.prog gls gvs 84 iPointNeg_g:=FnD.ok (F:=iPointNeg_F) (cs:=iPointNeg_c) V_ok (kC iFpSub_k kN) Tryz.func84 (by decide) (by kernel_rfl)
noncomputable def iFpOk_F:FnD:={f:=183,fn:=Tryz.f183,ps:=[pa (.int .i64)],rs:=[rt .bool]}
noncomputable def iFpOk_c:List (Nat×Sig):=[]
noncomputable def iFpOk_d:Int×Unit→Option ((Bool×Unit)×Unit):=iFpOk_F.d V iFpOk_c
noncomputable abbrev iFpOk_g:Sig:=iFpOk_F.t.sig iFpOk_d
theorem iFpOk_b (x1:Int):iFpOk_d (x1,())=cnd (ige x1 0) (some (((ilt x1 12107),()),())) (some ((false,()),())):=(FnD.eq V iFpOk_c iFpOk_F (x1,())).trans (by kernel_rfl)
theorem iFpOk_k:CallsOk Tryz.prog gls gvs 183 iFpOk_g:=FnD.ok (F:=iFpOk_F) (cs:=iFpOk_c) V_ok kN Tryz.func183 (by decide) (by kernel_rfl)
noncomputable def iPointOk_F:FnD:={f:=149,fn:=Tryz.f149,ps:=[pa TPoint],rs:=[rt .bool]}
noncomputable def iPointOk_c:List (Nat×Sig):=[(183,iFpOk_g),(145,iFpMul_g),(83,iCurveAt_g)]
noncomputable def iPointOk_d:tPoint×Unit→Option ((Bool×Unit)×Unit):=iPointOk_F.d V iPointOk_c
noncomputable abbrev iPointOk_g:Sig:=iPointOk_F.t.sig iPointOk_d
theorem iPointOk_b (x1:tPoint):iPointOk_d (x1,())=cnd x1.2.2.1 (cnd (ieq x1.1 0) (some (((ieq x1.2.1 0),()),())) (some ((false,()),()))) (bnd (iFpOk_d (x1.1,())) (fun r1=>(cnd r1.1.1 (bnd (iFpOk_d (x1.2.1,())) (fun r2=>(cnd r2.1.1 (bnd (iFpMul_d (x1.2.1,(x1.2.1,()))) (fun r3=>(bnd (iCurveAt_d (x1.1,())) (fun r4=>(some (((ieq r3.1.1 r4.1.1),()),())))))) (some ((false,()),()))))) (some ((false,()),()))))):=(FnD.eq V iPointOk_c iPointOk_F (x1,())).trans (by kernel_rfl)
theorem iPointOk_k:CallsOk Tryz.prog gls gvs 149 iPointOk_g:=FnD.ok (F:=iPointOk_F) (cs:=iPointOk_c) V_ok (kC iFpOk_k (kC iFpMul_k (kC iCurveAt_k kN))) Tryz.func149 (by decide) (by kernel_rfl)
noncomputable def iPointText_F:FnD:={f:=85,fn:=Tryz.f85,ps:=[pa TPoint],rs:=[rt .str]}
noncomputable def iPointText_c:List (Nat×Sig):=[(149,iPointOk_g)]
noncomputable def iPointText_d:tPoint×Unit→Option ((ByteArray×Unit)×Unit):=iPointText_F.d V iPointText_c
noncomputable abbrev iPointText_g:Sig:=iPointText_F.t.sig iPointText_d
theorem iPointText_b (x1:tPoint):iPointText_d (x1,())=bnd (iPointOk_d (x1,())) (fun r1=>(cnd (bnot r1.1.1) (some (((bs []),()),())) (cnd x1.2.2.1 (some (((bs [0,0,0]),()),())) (cnd (nn 8) (cnd (nz 2) (some (((sof ((iconv .u8 (ishr .i64 (iadd .i64 x1.1 1) 8))::((iconv .u8 (iadd .i64 x1.1 1))::((iconv .u8 (irem x1.2.1 2))::([]:List Int))))),()),())) none) none)))):=(FnD.eq V iPointText_c iPointText_F (x1,())).trans (by kernel_rfl)
theorem iPointText_k:CallsOk Tryz.prog gls gvs 85 iPointText_g:=FnD.ok (F:=iPointText_F) (cs:=iPointText_c) V_ok (kC iPointOk_k kN) Tryz.func85 (by decide) (by kernel_rfl)
noncomputable def iReadPoint_F:FnD:={f:=47,fn:=Tryz.f47,ps:=[pa .str],rs:=[rt TPoint,rt .bool],joins:=[9],cuts:=[(9,[.val 0 .str .sh, .box 2 TPoint .sh, .box 4 TPoint .sh, .ptr 2 2 0, .ptr 4 4 0])]}
noncomputable def iReadPoint_c:List (Nat×Sig):=[(83,iCurveAt_g),(82,iFpRoot_g),(84,iPointNeg_g),(85,iPointText_g)]
noncomputable def iReadPoint_d:ByteArray×Unit→Option ((tPoint×Bool×Unit)×Unit):=iReadPoint_F.d V iReadPoint_c
noncomputable abbrev iReadPoint_g:Sig:=iReadPoint_F.t.sig iReadPoint_d
noncomputable def iReadPoint_D9:ByteArray×tPoint×tPoint×Unit→Option ((tPoint×Bool×Unit)×Unit):=iReadPoint_F.D V iReadPoint_c 9
theorem iReadPoint_b (x1:ByteArray):iReadPoint_d (x1,())=cnd (ine (ssz x1) 3) (some ((zPoint,(false,())),())) (cnd (inb 0 (ssz x1)) (cnd (nn 8) (cnd (inb 1 (ssz x1)) (cnd (ilt (isub .i64 (iadd .i64 (ishl .i64 (iconv .i64 (sat x1 0)) 8) (iconv .i64 (sat x1 1))) 1) 0) (iReadPoint_D9 (x1,(zPoint,((0,(0,(true,()))),())))) (bnd (iCurveAt_d ((isub .i64 (iadd .i64 (ishl .i64 (iconv .i64 (sat x1 0)) 8) (iconv .i64 (sat x1 1))) 1),())) (fun r1=>(bnd (iFpRoot_d (r1.1.1,())) (fun r2=>(cnd (nz 2) (cnd (inb 2 (ssz x1)) (cnd (ine (irem r2.1.1 2) (iconv .i64 (sat x1 2))) (bnd (iPointNeg_d (((isub .i64 (iadd .i64 (ishl .i64 (iconv .i64 (sat x1 0)) 8) (iconv .i64 (sat x1 1))) 1),(r2.1.1,(false,()))),())) (fun r3=>(iReadPoint_D9 (x1,(zPoint,(r3.1.1,())))))) (iReadPoint_D9 (x1,(zPoint,(((isub .i64 (iadd .i64 (ishl .i64 (iconv .i64 (sat x1 0)) 8) (iconv .i64 (sat x1 1))) 1),(r2.1.1,(false,()))),()))))) none) none)))))) none) none) none):=(FnD.eq V iReadPoint_c iReadPoint_F (x1,())).trans (by kernel_rfl)
theorem iReadPoint_q9 (x1:ByteArray) (x2:tPoint) (x3:tPoint):iReadPoint_D9 (x1,(x2,(x3,())))=bnd (iPointText_d (x3,())) (fun r3=>(cnd (sne r3.1.1 x1) (some ((zPoint,(false,())),())) (some ((x3,(true,())),())))):=(FnD.eqC V iReadPoint_c iReadPoint_F 9 (x1,(x2,(x3,())))).trans (by kernel_rfl)
theorem iReadPoint_k:CallsOk Tryz.prog gls gvs 47 iReadPoint_g:=FnD.ok (F:=iReadPoint_F) (cs:=iReadPoint_c) V_ok (kC iCurveAt_k (kC iFpRoot_k (kC iPointNeg_k (kC iPointText_k kN)))) Tryz.func47 (by decide) (by kernel_rfl)
noncomputable def iFpInv_F:FnD:={f:=220,fn:=Tryz.f220,ps:=[pa (.int .i64)],rs:=[rt (.int .i64)]}
noncomputable def iFpInv_c:List (Nat×Sig):=[(144,iPowerMod_g)]
noncomputable def iFpInv_d:Int×Unit→Option ((Int×Unit)×Unit):=iFpInv_F.d V iFpInv_c
noncomputable abbrev iFpInv_g:Sig:=iFpInv_F.t.sig iFpInv_d
theorem iFpInv_b (x1:Int):iFpInv_d (x1,())=bnd (iPowerMod_d (x1,(12105,(12107,())))) (fun r1=>(some ((r1.1.1,()),()))):=(FnD.eq V iFpInv_c iFpInv_F (x1,())).trans (by kernel_rfl)
theorem iFpInv_k:CallsOk Tryz.prog gls gvs 220 iFpInv_g:=FnD.ok (F:=iFpInv_F) (cs:=iFpInv_c) V_ok (kC iPowerMod_k kN) Tryz.func220 (by decide) (by kernel_rfl)
noncomputable def iSlopeOf_F:FnD:={f:=214,fn:=Tryz.f214,ps:=[pa TPoint,pa TPoint],rs:=[rt (.int .i64),rt .bool]}
noncomputable def iSlopeOf_c:List (Nat×Sig):=[(148,iFpSub_g),(220,iFpInv_g),(145,iFpMul_g),(147,iFpAdd_g)]
noncomputable def iSlopeOf_d:tPoint×tPoint×Unit→Option ((Int×Bool×Unit)×Unit):=iSlopeOf_F.d V iSlopeOf_c
noncomputable abbrev iSlopeOf_g:Sig:=iSlopeOf_F.t.sig iSlopeOf_d
theorem iSlopeOf_b (x1:tPoint) (x2:tPoint):iSlopeOf_d (x1,(x2,()))=cnd (ine x1.1 x2.1) (bnd (iFpSub_d (x2.2.1,(x1.2.1,()))) (fun r2=>(bnd (iFpSub_d (x2.1,(x1.1,()))) (fun r3=>(bnd (iFpInv_d (r3.1.1,())) (fun r4=>(bnd (iFpMul_d (r2.1.1,(r4.1.1,()))) (fun r5=>(some ((r5.1.1,(true,())),())))))))))) (cnd (ine x1.2.1 x2.2.1) (some ((0,(false,())),())) (cnd (ieq x1.2.1 0) (some ((0,(false,())),())) (bnd (iFpMul_d (x1.1,(x1.1,()))) (fun r2=>(bnd (iFpMul_d (3,(r2.1.1,()))) (fun r3=>(bnd (iFpAdd_d (r3.1.1,(1,()))) (fun r4=>(bnd (iFpMul_d (2,(x1.2.1,()))) (fun r5=>(bnd (iFpInv_d (r5.1.1,())) (fun r6=>(bnd (iFpMul_d (r4.1.1,(r6.1.1,()))) (fun r7=>(some ((r7.1.1,(true,())),())))))))))))))))):=(FnD.eq V iSlopeOf_c iSlopeOf_F (x1,(x2,()))).trans (by kernel_rfl)
theorem iSlopeOf_k:CallsOk Tryz.prog gls gvs 214 iSlopeOf_g:=FnD.ok (F:=iSlopeOf_F) (cs:=iSlopeOf_c) V_ok (kC iFpSub_k (kC iFpInv_k (kC iFpMul_k (kC iFpAdd_k kN)))) Tryz.func214 (by decide) (by kernel_rfl)
noncomputable def iAdd_F:FnD:={f:=184,fn:=Tryz.f184,ps:=[pa TPoint,pa TPoint],rs:=[rt TPoint]}
noncomputable def iAdd_c:List (Nat×Sig):=[(214,iSlopeOf_g),(145,iFpMul_g),(148,iFpSub_g)]
noncomputable def iAdd_d:tPoint×tPoint×Unit→Option ((tPoint×Unit)×Unit):=iAdd_F.d V iAdd_c
noncomputable abbrev iAdd_g:Sig:=iAdd_F.t.sig iAdd_d
theorem iAdd_b (x1:tPoint) (x2:tPoint):iAdd_d (x1,(x2,()))=cnd x1.2.2.1 (some ((x2,()),())) (cnd x2.2.2.1 (some ((x1,()),())) (bnd (iSlopeOf_d (x1,(x2,()))) (fun r2=>(cnd (bnot r2.1.2.1) (some (((0,(0,(true,()))),()),())) (bnd (iFpMul_d (r2.1.1,(r2.1.1,()))) (fun r3=>(bnd (iFpSub_d (r3.1.1,(x1.1,()))) (fun r4=>(bnd (iFpSub_d (r4.1.1,(x2.1,()))) (fun r5=>(bnd (iFpSub_d (x1.1,(r5.1.1,()))) (fun r6=>(bnd (iFpMul_d (r2.1.1,(r6.1.1,()))) (fun r7=>(bnd (iFpSub_d (r7.1.1,(x1.2.1,()))) (fun r8=>(some (((r5.1.1,(r8.1.1,(false,()))),()),())))))))))))))))))):=(FnD.eq V iAdd_c iAdd_F (x1,(x2,()))).trans (by kernel_rfl)
theorem iAdd_k:CallsOk Tryz.prog gls gvs 184 iAdd_g:=FnD.ok (F:=iAdd_F) (cs:=iAdd_c) V_ok (kC iSlopeOf_k (kC iFpMul_k (kC iFpSub_k kN))) Tryz.func184 (by decide) (by kernel_rfl)
noncomputable def iPointTimes_F:FnD:={f:=151,fn:=Tryz.f151,ps:=[pa (.int .i64),pa TPoint],rs:=[rt TPoint],cuts:=[(5,[.val 0 (.int .i64) .sh, .box 3 TPoint .sh, .box 4 TPoint .sh, .box 5 TPoint .sh, .ptr 3 3 0, .ptr 4 4 0, .ptr 5 5 0])]}
noncomputable def iPointTimes_c:List (Nat×Sig):=[(149,iPointOk_g),(182,iRemainder_g),(184,iAdd_g)]
noncomputable def iPointTimes_d:Int×tPoint×Unit→Option ((tPoint×Unit)×Unit):=iPointTimes_F.d V iPointTimes_c
noncomputable abbrev iPointTimes_g:Sig:=iPointTimes_F.t.sig iPointTimes_d
noncomputable def iPointTimes_D5:Int×tPoint×tPoint×tPoint×Unit→Option ((tPoint×Unit)×Unit):=iPointTimes_F.D V iPointTimes_c 5
theorem iPointTimes_b (x1:Int) (x2:tPoint):iPointTimes_d (x1,(x2,()))=bnd (iPointOk_d (x2,())) (fun r2=>(cnd (bnot r2.1.1) (some (((0,(0,(true,()))),()),())) (bnd (iRemainder_d (x1,(12108,()))) (fun r3=>(iPointTimes_D5 (r3.1.1,(x2,(zPoint,((0,(0,(true,()))),()))))))))):=(FnD.eq V iPointTimes_c iPointTimes_F (x1,(x2,()))).trans (by kernel_rfl)
theorem iPointTimes_q5 (x1:Int) (x2:tPoint) (x3:tPoint) (x4:tPoint):iPointTimes_D5 (x1,(x2,(x3,(x4,()))))=cnd (igt x1 0) (cnd (nz 2) (cnd (ieq (irem x1 2) 1) (bnd (iAdd_d (x4,(x2,()))) (fun r4=>(bnd (iAdd_d (x2,(x2,()))) (fun r5=>(cnd (nz 2) (iPointTimes_D5 ((iquo .i64 x1 2),(r5.1.1,(x3,(r4.1.1,()))))) none))))) (bnd (iAdd_d (x2,(x2,()))) (fun r4=>(cnd (nz 2) (iPointTimes_D5 ((iquo .i64 x1 2),(r4.1.1,(x3,(x4,()))))) none)))) none) (some ((x4,()),())):=(FnD.eqC V iPointTimes_c iPointTimes_F 5 (x1,(x2,(x3,(x4,()))))).trans (by kernel_rfl)
theorem iPointTimes_k:CallsOk Tryz.prog gls gvs 151 iPointTimes_g:=FnD.ok (F:=iPointTimes_F) (cs:=iPointTimes_c) V_ok (kC iPointOk_k (kC iRemainder_k (kC iAdd_k kN))) Tryz.func151 (by decide) (by kernel_rfl)
noncomputable def iInGroup_F:FnD:={f:=91,fn:=Tryz.f91,ps:=[pa TPoint],rs:=[rt .bool]}
noncomputable def iInGroup_c:List (Nat×Sig):=[(149,iPointOk_g),(151,iPointTimes_g)]
noncomputable def iInGroup_d:tPoint×Unit→Option ((Bool×Unit)×Unit):=iInGroup_F.d V iInGroup_c
noncomputable abbrev iInGroup_g:Sig:=iInGroup_F.t.sig iInGroup_d
theorem iInGroup_b (x1:tPoint):iInGroup_d (x1,())=bnd (iPointOk_d (x1,())) (fun r1=>(cnd r1.1.1 (bnd (iPointTimes_d (1009,(x1,()))) (fun r2=>(some ((r2.1.1.2.2.1,()),())))) (some ((false,()),())))):=(FnD.eq V iInGroup_c iInGroup_F (x1,())).trans (by kernel_rfl)
theorem iInGroup_k:CallsOk Tryz.prog gls gvs 91 iInGroup_g:=FnD.ok (F:=iInGroup_F) (cs:=iInGroup_c) V_ok (kC iPointOk_k (kC iPointTimes_k kN)) Tryz.func91 (by decide) (by kernel_rfl)
noncomputable def iCommitteeOk_F:FnD:={f:=92,fn:=Tryz.f92,ps:=[pa TCommittee],rs:=[rt .bool],cuts:=[(4,[.val 10 (.sl TPoint) .sh, .val 11 (.int .i64) .sh, .val 12 (.int .i64) .sh])]}
noncomputable def iCommitteeOk_c:List (Nat×Sig):=[(91,iInGroup_g)]
noncomputable def iCommitteeOk_d:tCommittee×Unit→Option ((Bool×Unit)×Unit):=iCommitteeOk_F.d V iCommitteeOk_c
noncomputable abbrev iCommitteeOk_g:Sig:=iCommitteeOk_F.t.sig iCommitteeOk_d
noncomputable def iCommitteeOk_D4:(List tPoint)×Int×Int×Unit→Option ((Bool×Unit)×Unit):=iCommitteeOk_F.D V iCommitteeOk_c 4
theorem iCommitteeOk_b (x1:tCommittee):iCommitteeOk_d (x1,())=cnd (ine (len x1.1) 8) (some ((false,()),())) (iCommitteeOk_D4 (x1.1,((len x1.1),(0,())))):=(FnD.eq V iCommitteeOk_c iCommitteeOk_F (x1,())).trans (by kernel_rfl)
theorem iCommitteeOk_q4 (x1:(List tPoint)) (x2:Int) (x3:Int):iCommitteeOk_D4 (x1,(x2,(x3,())))=cnd (ilt x3 x2) (cnd (inb x3 (len x1)) (cnd (rd zPoint x1 x3).2.2.1 (some ((false,()),())) (bnd (iInGroup_d ((rd zPoint x1 x3),())) (fun r3=>(cnd (bnot r3.1.1) (some ((false,()),())) (iCommitteeOk_D4 (x1,(x2,((iadd .i64 x3 1),())))))))) none) (some ((true,()),())):=(FnD.eqC V iCommitteeOk_c iCommitteeOk_F 4 (x1,(x2,(x3,())))).trans (by kernel_rfl)
theorem iCommitteeOk_k:CallsOk Tryz.prog gls gvs 92 iCommitteeOk_g:=FnD.ok (F:=iCommitteeOk_F) (cs:=iCommitteeOk_c) V_ok (kC iInGroup_k kN) Tryz.func92 (by decide) (by kernel_rfl)
noncomputable def iKeyTexts_F:FnD:={f:=142,fn:=Tryz.f142,ps:=[pa TCommittee],rs:=[⟨(.sl .str),(.own 0 .sh),false⟩],cuts:=[(3,[.val 3 (.sl .str) (.own 0 .sh), .val 7 (.sl TPoint) .sh, .val 8 (.int .i64) .sh, .val 9 (.int .i64) .sh])]}
noncomputable def iKeyTexts_c:List (Nat×Sig):=[(85,iPointText_g)]
noncomputable def iKeyTexts_d:tCommittee×Unit→Option (((List ByteArray)×Unit)×Unit):=iKeyTexts_F.d V iKeyTexts_c
noncomputable abbrev iKeyTexts_g:Sig:=iKeyTexts_F.t.sig iKeyTexts_d
noncomputable def iKeyTexts_D3:(List ByteArray)× (List tPoint)×Int×Int×Unit→Option (((List ByteArray)×Unit)×Unit):=iKeyTexts_F.D V iKeyTexts_c 3
theorem iKeyTexts_b (x1:tCommittee):iKeyTexts_d (x1,())=iKeyTexts_D3 (([]:List ByteArray),(x1.1,((len x1.1),(0,())))):=(FnD.eq V iKeyTexts_c iKeyTexts_F (x1,())).trans (by kernel_rfl)
theorem iKeyTexts_q3 (x1:(List ByteArray)) (x2:(List tPoint)) (x3:Int) (x4:Int):iKeyTexts_D3 (x1,(x2,(x3,(x4,()))))=cnd (ilt x4 x3) (cnd (inb x4 (len x2)) (bnd (iPointText_d ((rd zPoint x2 x4),())) (fun r4=>(cnd (fits ((len x1)+(len (r4.1.1::([]:List ByteArray)))) 1) (iKeyTexts_D3 ((app x1 (r4.1.1::([]:List ByteArray))),(x2,(x3,((iadd .i64 x4 1),()))))) none))) none) (some ((x1,()),())):=(FnD.eqC V iKeyTexts_c iKeyTexts_F 3 (x1,(x2,(x3,(x4,()))))).trans (by kernel_rfl)
theorem iKeyTexts_k:CallsOk Tryz.prog gls gvs 142 iKeyTexts_g:=FnD.ok (F:=iKeyTexts_F) (cs:=iKeyTexts_c) V_ok (kC iPointText_k kN) Tryz.func142 (by decide) (by kernel_rfl)
noncomputable def iPointAdd_F:FnD:={f:=181,fn:=Tryz.f181,ps:=[pa TPoint,pa TPoint],rs:=[rt TPoint]}
noncomputable def iPointAdd_c:List (Nat×Sig):=[(149,iPointOk_g),(184,iAdd_g)]
noncomputable def iPointAdd_d:tPoint×tPoint×Unit→Option ((tPoint×Unit)×Unit):=iPointAdd_F.d V iPointAdd_c
noncomputable abbrev iPointAdd_g:Sig:=iPointAdd_F.t.sig iPointAdd_d
theorem iPointAdd_b (x1:tPoint) (x2:tPoint):iPointAdd_d (x1,(x2,()))=bnd (iPointOk_d (x1,())) (fun r2=>(cnd (bnot r2.1.1) (some (((0,(0,(true,()))),()),())) (bnd (iPointOk_d (x2,())) (fun r3=>(cnd (bnot r3.1.1) (some (((0,(0,(true,()))),()),())) (bnd (iAdd_d (x1,(x2,()))) (fun r4=>(some ((r4.1.1,()),()))))))))):=(FnD.eq V iPointAdd_c iPointAdd_F (x1,(x2,()))).trans (by kernel_rfl)
theorem iPointAdd_k:CallsOk Tryz.prog gls gvs 181 iPointAdd_g:=FnD.ok (F:=iPointAdd_F) (cs:=iPointAdd_c) V_ok (kC iPointOk_k (kC iAdd_k kN)) Tryz.func181 (by decide) (by kernel_rfl)
noncomputable def iSumPoints_F:FnD:={f:=143,fn:=Tryz.f143,ps:=[pa (.sl TPoint)],rs:=[rt TPoint],cuts:=[(3,[.val 7 (.sl TPoint) .sh, .val 8 (.int .i64) .sh, .val 9 (.int .i64) .sh, .box 2 TPoint .sh, .box 3 TPoint .sh, .ptr 2 2 0, .ptr 3 3 0])]}
noncomputable def iSumPoints_c:List (Nat×Sig):=[(181,iPointAdd_g)]
noncomputable def iSumPoints_d:(List tPoint)×Unit→Option ((tPoint×Unit)×Unit):=iSumPoints_F.d V iSumPoints_c
noncomputable abbrev iSumPoints_g:Sig:=iSumPoints_F.t.sig iSumPoints_d
noncomputable def iSumPoints_D3:(List tPoint)×Int×Int×tPoint×tPoint×Unit→Option ((tPoint×Unit)×Unit):=iSumPoints_F.D V iSumPoints_c 3
theorem iSumPoints_b (x1:(List tPoint)):iSumPoints_d (x1,())=iSumPoints_D3 (x1,((len x1),(0,(zPoint,((0,(0,(true,()))),()))))):=(FnD.eq V iSumPoints_c iSumPoints_F (x1,())).trans (by kernel_rfl)
theorem iSumPoints_q3 (x1:(List tPoint)) (x2:Int) (x3:Int) (x4:tPoint) (x5:tPoint):iSumPoints_D3 (x1,(x2,(x3,(x4,(x5,())))))=cnd (ilt x3 x2) (cnd (inb x3 (len x1)) (bnd (iPointAdd_d (x5,((rd zPoint x1 x3),()))) (fun r5=>(iSumPoints_D3 (x1,(x2,((iadd .i64 x3 1),(x4,(r5.1.1,())))))))) none) (some ((x5,()),())):=(FnD.eqC V iSumPoints_c iSumPoints_F 3 (x1,(x2,(x3,(x4,(x5,())))))).trans (by kernel_rfl)
theorem iSumPoints_k:CallsOk Tryz.prog gls gvs 143 iSumPoints_g:=FnD.ok (F:=iSumPoints_F) (cs:=iSumPoints_c) V_ok (kC iPointAdd_k kN) Tryz.func143 (by decide) (by kernel_rfl)
noncomputable def iCommitteeText_F:FnD:={f:=81,fn:=Tryz.f81,ps:=[pa TCommittee],rs:=[rt .str,rt .bool],cuts:=[(5,[.val 4 .str .sh, .val 11 (.sl .str) (.own 0 .sh), .val 12 (.int .i64) .sh, .val 13 (.int .i64) .sh, .box 1 TCommittee .sh, .ptr 1 1 0])]}
noncomputable def iCommitteeText_c:List (Nat×Sig):=[(92,iCommitteeOk_g),(142,iKeyTexts_g),(143,iSumPoints_g),(85,iPointText_g)]
noncomputable def iCommitteeText_d:tCommittee×Unit→Option ((ByteArray×Bool×Unit)×Unit):=iCommitteeText_F.d V iCommitteeText_c
noncomputable abbrev iCommitteeText_g:Sig:=iCommitteeText_F.t.sig iCommitteeText_d
noncomputable def iCommitteeText_D5:ByteArray× (List ByteArray)×Int×Int×tCommittee×Unit→Option ((ByteArray×Bool×Unit)×Unit):=iCommitteeText_F.D V iCommitteeText_c 5
theorem iCommitteeText_b (x1:tCommittee):iCommitteeText_d (x1,())=bnd (iCommitteeOk_d (x1,())) (fun r1=>(cnd (bnot r1.1.1) (some (zL21Cur,())) (bnd (iKeyTexts_d (x1,())) (fun r2=>(iCommitteeText_D5 ((bs []),(r2.1.1,((len r2.1.1),(0,(x1,())))))))))):=(FnD.eq V iCommitteeText_c iCommitteeText_F (x1,())).trans (by kernel_rfl)
theorem iCommitteeText_q5 (x1:ByteArray) (x2:(List ByteArray)) (x3:Int) (x4:Int) (x5:tCommittee):iCommitteeText_D5 (x1,(x2,(x3,(x4,(x5,())))))=cnd (ilt x4 x3) (cnd (inb x4 (len x2)) (cnd (fits ((ssz x1)+(ssz (rd (bs []) x2 x4))) 1) (iCommitteeText_D5 ((scat x1 (rd (bs []) x2 x4)),(x2,(x3,((iadd .i64 x4 1),(x5,())))))) none) none) (bnd (iSumPoints_d (x5.1,())) (fun r5=>(bnd (iPointText_d (r5.1.1,())) (fun r6=>(cnd (fits ((ssz x1)+(ssz r6.1.1)) 1) (some (((scat x1 r6.1.1),(true,())),())) none))))):=(FnD.eqC V iCommitteeText_c iCommitteeText_F 5 (x1,(x2,(x3,(x4,(x5,())))))).trans (by kernel_rfl)
theorem iCommitteeText_k:CallsOk Tryz.prog gls gvs 81 iCommitteeText_g:=FnD.ok (F:=iCommitteeText_F) (cs:=iCommitteeText_c) V_ok (kC iCommitteeOk_k (kC iKeyTexts_k (kC iSumPoints_k (kC iPointText_k kN)))) Tryz.func81 (by decide) (by kernel_rfl)
noncomputable def iReadCommittee_F:FnD:={f:=46,fn:=Tryz.f46,ps:=[pa .str],rs:=[⟨TCommittee,(.pr (.own 0 .sh) .sh),false⟩,rt .bool],cuts:=[(5,[.val 0 .str .sh, .val 14 (.int .i64) .sh, .box 2 TCommittee (.pr (.own 0 .sh) .sh), .box 4 TCommittee (.pr (.own 0 .sh) .sh), .ptr 2 2 0, .ptr 4 4 0])]}
noncomputable def iReadCommittee_c:List (Nat×Sig):=[(47,iReadPoint_g),(81,iCommitteeText_g)]
noncomputable def iReadCommittee_d:ByteArray×Unit→Option ((tCommittee×Bool×Unit)×Unit):=iReadCommittee_F.d V iReadCommittee_c
noncomputable abbrev iReadCommittee_g:Sig:=iReadCommittee_F.t.sig iReadCommittee_d
noncomputable def iReadCommittee_D5:ByteArray×Int×tCommittee×tCommittee×Unit→Option ((tCommittee×Bool×Unit)×Unit):=iReadCommittee_F.D V iReadCommittee_c 5
theorem iReadCommittee_b (x1:ByteArray):iReadCommittee_d (x1,())=cnd (ine (ssz x1) 27) (some ((zCommittee,(false,())),())) (iReadCommittee_D5 (x1,(0,(zCommittee,(zCommittee,()))))):=(FnD.eq V iReadCommittee_c iReadCommittee_F (x1,())).trans (by kernel_rfl)
theorem iReadCommittee_q5 (x1:ByteArray) (x2:Int) (x3:tCommittee) (x4:tCommittee):iReadCommittee_D5 (x1,(x2,(x3,(x4,()))))=cnd (ilt x2 8) (cnd (inb2 (imul .i64 3 x2) (iadd .i64 (imul .i64 3 x2) 3) (ssz x1)) (bnd (iReadPoint_d ((ssub x1 (imul .i64 3 x2) (iadd .i64 (imul .i64 3 x2) 3)),())) (fun r4=>(cnd (bnot r4.1.2.1) (some ((zCommittee,(false,())),())) (cnd (fits ((len x4.1)+(len (r4.1.1::([]:List tPoint)))) 3) (iReadCommittee_D5 (x1,((iadd .i64 x2 1),(x3,(((app x4.1 (r4.1.1::([]:List tPoint))),x4.2),()))))) none)))) none) (bnd (iCommitteeText_d (x4,())) (fun r4=>(cnd (bnot r4.1.2.1) (some ((zCommittee,(false,())),())) (cnd (sne r4.1.1 x1) (some ((zCommittee,(false,())),())) (some ((x4,(true,())),())))))):=(FnD.eqC V iReadCommittee_c iReadCommittee_F 5 (x1,(x2,(x3,(x4,()))))).trans (by kernel_rfl)
theorem iReadCommittee_k:CallsOk Tryz.prog gls gvs 46 iReadCommittee_g:=FnD.ok (F:=iReadCommittee_F) (cs:=iReadCommittee_c) V_ok (kC iReadPoint_k (kC iCommitteeText_k kN)) Tryz.func46 (by decide) (by kernel_rfl)
noncomputable def iProofText_F:FnD:={f:=86,fn:=Tryz.f86,ps:=[pa TProof],rs:=[rt .str,rt .bool]}
noncomputable def iProofText_c:List (Nat×Sig):=[(91,iInGroup_g),(85,iPointText_g)]
noncomputable def iProofText_d:tProof×Unit→Option ((ByteArray×Bool×Unit)×Unit):=iProofText_F.d V iProofText_c
noncomputable abbrev iProofText_g:Sig:=iProofText_F.t.sig iProofText_d
theorem iProofText_b (x1:tProof):iProofText_d (x1,())=bnd (iInGroup_d (x1.1,())) (fun r1=>(cnd (bnot r1.1.1) (some (zL21Cur,())) (bnd (iInGroup_d (x1.2.1,())) (fun r2=>(cnd (bnot r2.1.1) (some (zL21Cur,())) (bnd (iInGroup_d (x1.2.2.1,())) (fun r3=>(cnd (bnot r3.1.1) (some (zL21Cur,())) (bnd (iPointText_d (x1.1,())) (fun r4=>(bnd (iPointText_d (x1.2.1,())) (fun r5=>(cnd (fits ((ssz r4.1.1)+(ssz r5.1.1)) 1) (bnd (iPointText_d (x1.2.2.1,())) (fun r6=>(cnd (fits ((ssz (scat r4.1.1 r5.1.1))+(ssz r6.1.1)) 1) (some (((scat (scat r4.1.1 r5.1.1) r6.1.1),(true,())),())) none))) none))))))))))))):=(FnD.eq V iProofText_c iProofText_F (x1,())).trans (by kernel_rfl)
theorem iProofText_k:CallsOk Tryz.prog gls gvs 86 iProofText_g:=FnD.ok (F:=iProofText_F) (cs:=iProofText_c) V_ok (kC iInGroup_k (kC iPointText_k kN)) Tryz.func86 (by decide) (by kernel_rfl)
noncomputable def iReadProof_F:FnD:={f:=48,fn:=Tryz.f48,ps:=[pa .str],rs:=[rt TProof,rt .bool]}
noncomputable def iReadProof_c:List (Nat×Sig):=[(47,iReadPoint_g),(86,iProofText_g)]
noncomputable def iReadProof_d:ByteArray×Unit→Option ((tProof×Bool×Unit)×Unit):=iReadProof_F.d V iReadProof_c
noncomputable abbrev iReadProof_g:Sig:=iReadProof_F.t.sig iReadProof_d
theorem iReadProof_b (x1:ByteArray):iReadProof_d (x1,())=cnd (ine (ssz x1) 9) (some ((zProof,(false,())),())) (cnd (inb2 0 3 (ssz x1)) (bnd (iReadPoint_d ((ssub x1 0 3),())) (fun r1=>(cnd (inb2 3 6 (ssz x1)) (bnd (iReadPoint_d ((ssub x1 3 6),())) (fun r2=>(cnd (inb2 6 (ssz x1) (ssz x1)) (bnd (iReadPoint_d ((ssub x1 6 (ssz x1)),())) (fun r3=>(bnd (iProofText_d ((r1.1.1,(r2.1.1,(r3.1.1,()))),())) (fun r4=>(cnd (bnot r1.1.2.1) (some ((zProof,(false,())),())) (cnd (bnot r2.1.2.1) (some ((zProof,(false,())),())) (cnd (bnot r3.1.2.1) (some ((zProof,(false,())),())) (cnd (bnot r4.1.2.1) (some ((zProof,(false,())),())) (some (((r1.1.1,(r2.1.1,(r3.1.1,()))),(true,())),())))))))))) none))) none))) none):=(FnD.eq V iReadProof_c iReadProof_F (x1,())).trans (by kernel_rfl)
theorem iReadProof_k:CallsOk Tryz.prog gls gvs 48 iReadProof_g:=FnD.ok (F:=iReadProof_F) (cs:=iReadProof_c) V_ok (kC iReadPoint_k (kC iProofText_k kN)) Tryz.func48 (by decide) (by kernel_rfl)
noncomputable def iIsSlot_F:FnD:={f:=90,fn:=Tryz.f90,ps:=[pa (.int .i64)],rs:=[rt .bool]}
noncomputable def iIsSlot_c:List (Nat×Sig):=[]
noncomputable def iIsSlot_d:Int×Unit→Option ((Bool×Unit)×Unit):=iIsSlot_F.d V iIsSlot_c
noncomputable abbrev iIsSlot_g:Sig:=iIsSlot_F.t.sig iIsSlot_d
theorem iIsSlot_b (x1:Int):iIsSlot_d (x1,())=cnd (ige x1 0) (some (((ile x1 10000),()),())) (some ((false,()),())):=(FnD.eq V iIsSlot_c iIsSlot_F (x1,())).trans (by kernel_rfl)
theorem iIsSlot_k:CallsOk Tryz.prog gls gvs 90 iIsSlot_g:=FnD.ok (F:=iIsSlot_F) (cs:=iIsSlot_c) V_ok kN Tryz.func90 (by decide) (by kernel_rfl)
noncomputable def iIsDigest_F:FnD:={f:=150,fn:=Tryz.f150,ps:=[pa .str],rs:=[rt .bool]}
noncomputable def iIsDigest_c:List (Nat×Sig):=[]
noncomputable def iIsDigest_d:ByteArray×Unit→Option ((Bool×Unit)×Unit):=iIsDigest_F.d V iIsDigest_c
noncomputable abbrev iIsDigest_g:Sig:=iIsDigest_F.t.sig iIsDigest_d
theorem iIsDigest_b (x1:ByteArray):iIsDigest_d (x1,())=some (((ieq (ssz x1) 32),()),()):=(FnD.eq V iIsDigest_c iIsDigest_F (x1,())).trans (by kernel_rfl)
theorem iIsDigest_k:CallsOk Tryz.prog gls gvs 150 iIsDigest_g:=FnD.ok (F:=iIsDigest_F) (cs:=iIsDigest_c) V_ok kN Tryz.func150 (by decide) (by kernel_rfl)
noncomputable def iHeadOk_F:FnD:={f:=87,fn:=Tryz.f87,ps:=[pa THead],rs:=[rt .bool]}
noncomputable def iHeadOk_c:List (Nat×Sig):=[(90,iIsSlot_g),(150,iIsDigest_g)]
noncomputable def iHeadOk_d:tHead×Unit→Option ((Bool×Unit)×Unit):=iHeadOk_F.d V iHeadOk_c
noncomputable abbrev iHeadOk_g:Sig:=iHeadOk_F.t.sig iHeadOk_d
theorem iHeadOk_b (x1:tHead):iHeadOk_d (x1,())=bnd (iIsSlot_d (x1.1,())) (fun r1=>(cnd r1.1.1 (bnd (iIsDigest_d (x1.2.1,())) (fun r2=>(cnd r2.1.1 (bnd (iIsDigest_d (x1.2.2.1,())) (fun r3=>(cnd r3.1.1 (bnd (iIsDigest_d (x1.2.2.2.1,())) (fun r4=>(some ((r4.1.1,()),())))) (some ((false,()),()))))) (some ((false,()),()))))) (some ((false,()),())))):=(FnD.eq V iHeadOk_c iHeadOk_F (x1,())).trans (by kernel_rfl)
theorem iHeadOk_k:CallsOk Tryz.prog gls gvs 87 iHeadOk_g:=FnD.ok (F:=iHeadOk_F) (cs:=iHeadOk_c) V_ok (kC iIsSlot_k (kC iIsDigest_k kN)) Tryz.func87 (by decide) (by kernel_rfl)
noncomputable def iBranchOk_F:FnD:={f:=88,fn:=Tryz.f88,ps:=[pa (.sl .str)],rs:=[rt .bool]}
noncomputable def iBranchOk_c:List (Nat×Sig):=[(150,iIsDigest_g)]
noncomputable def iBranchOk_d:(List ByteArray)×Unit→Option ((Bool×Unit)×Unit):=iBranchOk_F.d V iBranchOk_c
noncomputable abbrev iBranchOk_g:Sig:=iBranchOk_F.t.sig iBranchOk_d
theorem iBranchOk_b (x1:(List ByteArray)):iBranchOk_d (x1,())=cnd (ieq (len x1) 2) (cnd (inb 0 (len x1)) (bnd (iIsDigest_d ((rd (bs []) x1 0),())) (fun r1=>(cnd r1.1.1 (cnd (inb 1 (len x1)) (bnd (iIsDigest_d ((rd (bs []) x1 1),())) (fun r2=>(some ((r2.1.1,()),())))) none) (some ((false,()),()))))) none) (some ((false,()),())):=(FnD.eq V iBranchOk_c iBranchOk_F (x1,())).trans (by kernel_rfl)
theorem iBranchOk_k:CallsOk Tryz.prog gls gvs 88 iBranchOk_g:=FnD.ok (F:=iBranchOk_F) (cs:=iBranchOk_c) V_ok (kC iIsDigest_k kN) Tryz.func88 (by decide) (by kernel_rfl)
noncomputable def iIsBits_F:FnD:={f:=89,fn:=Tryz.f89,ps:=[pa (.int .i64)],rs:=[rt .bool]}
noncomputable def iIsBits_c:List (Nat×Sig):=[]
noncomputable def iIsBits_d:Int×Unit→Option ((Bool×Unit)×Unit):=iIsBits_F.d V iIsBits_c
noncomputable abbrev iIsBits_g:Sig:=iIsBits_F.t.sig iIsBits_d
theorem iIsBits_b (x1:Int):iIsBits_d (x1,())=cnd (ige x1 0) (some (((ile x1 255),()),())) (some ((false,()),())):=(FnD.eq V iIsBits_c iIsBits_F (x1,())).trans (by kernel_rfl)
theorem iIsBits_k:CallsOk Tryz.prog gls gvs 89 iIsBits_g:=FnD.ok (F:=iIsBits_F) (cs:=iIsBits_c) V_ok kN Tryz.func89 (by decide) (by kernel_rfl)
noncomputable def iUpdateOk_F:FnD:={f:=49,fn:=Tryz.f49,ps:=[pa TUpdate],rs:=[rt .bool]}
noncomputable def iUpdateOk_c:List (Nat×Sig):=[(87,iHeadOk_g),(88,iBranchOk_g),(89,iIsBits_g),(90,iIsSlot_g),(91,iInGroup_g),(92,iCommitteeOk_g),(86,iProofText_g)]
noncomputable def iUpdateOk_d:tUpdate×Unit→Option ((Bool×Unit)×Unit):=iUpdateOk_F.d V iUpdateOk_c
noncomputable abbrev iUpdateOk_g:Sig:=iUpdateOk_F.t.sig iUpdateOk_d
theorem iUpdateOk_b (x1:tUpdate):iUpdateOk_d (x1,())=bnd (iHeadOk_d (x1.1,())) (fun r1=>(cnd (bnot r1.1.1) (some ((false,()),())) (bnd (iHeadOk_d (x1.2.2.2.1,())) (fun r2=>(cnd (bnot r2.1.1) (some ((false,()),())) (bnd (iBranchOk_d (x1.2.2.1,())) (fun r3=>(cnd (bnot r3.1.1) (some ((false,()),())) (bnd (iBranchOk_d (x1.2.2.2.2.1,())) (fun r4=>(cnd (bnot r4.1.1) (some ((false,()),())) (bnd (iIsBits_d (x1.2.2.2.2.2.1,())) (fun r5=>(cnd (bnot r5.1.1) (some ((false,()),())) (bnd (iIsSlot_d (x1.2.2.2.2.2.2.2.2.1,())) (fun r6=>(cnd (bnot r6.1.1) (some ((false,()),())) (bnd (iInGroup_d (x1.2.2.2.2.2.2.1,())) (fun r7=>(cnd (bnot r7.1.1) (some ((false,()),())) (bnd (iCommitteeOk_d (x1.2.1,())) (fun r8=>(cnd (bnot r8.1.1) (some ((false,()),())) (bnd (iProofText_d (x1.2.2.2.2.2.2.2.1,())) (fun r9=>(some ((r9.1.2.1,()),()))))))))))))))))))))))))))):=(FnD.eq V iUpdateOk_c iUpdateOk_F (x1,())).trans (by kernel_rfl)
theorem iUpdateOk_k:CallsOk Tryz.prog gls gvs 49 iUpdateOk_g:=FnD.ok (F:=iUpdateOk_F) (cs:=iUpdateOk_c) V_ok (kC iHeadOk_k (kC iBranchOk_k (kC iIsBits_k (kC iIsSlot_k (kC iInGroup_k (kC iCommitteeOk_k (kC iProofText_k kN))))))) Tryz.func49 (by decide) (by kernel_rfl)
noncomputable def iReadUpdate_F:FnD:={f:=19,fn:=Tryz.f19,ps:=[pa .str],rs:=[⟨TUpdate,(.pr .sh (.pr (.pr (.own 0 .sh) .sh) (.pr (.own 0 .sh) (.pr .sh (.pr (.own 0 .sh) .sh))))),false⟩,rt .bool]}
noncomputable def iReadUpdate_c:List (Nat×Sig):=[(40,iUnsealed_g),(41,iScanner_head_g),(42,iScanner_take_g),(43,iScanner_branch_g),(44,iScanner_number_g),(45,iScanner_done_g),(46,iReadCommittee_g),(47,iReadPoint_g),(48,iReadProof_g),(49,iUpdateOk_g)]
noncomputable def iReadUpdate_d:ByteArray×Unit→Option ((tUpdate×Bool×Unit)×Unit):=iReadUpdate_F.d V iReadUpdate_c
noncomputable abbrev iReadUpdate_g:Sig:=iReadUpdate_F.t.sig iReadUpdate_d
theorem iReadUpdate_b (x1:ByteArray):iReadUpdate_d (x1,())=bnd (iUnsealed_d (x1,())) (fun r1=>(cnd (bnot r1.1.2.1) (some ((zUpdate,(false,())),())) (bnd (iScanner_head_d ((r1.1.1,(0,(false,()))),())) (fun r2=>(bnd (iScanner_take_d (r2.2.1,(27,()))) (fun r3=>(bnd (iScanner_branch_d (r3.2.1,())) (fun r4=>(bnd (iScanner_head_d (r4.2.1,())) (fun r5=>(bnd (iScanner_branch_d (r5.2.1,())) (fun r6=>(bnd (iScanner_take_d (r6.2.1,(1,()))) (fun r7=>(bnd (iScanner_take_d (r7.2.1,(3,()))) (fun r8=>(bnd (iScanner_take_d (r8.2.1,(9,()))) (fun r9=>(bnd (iScanner_number_d (r9.2.1,())) (fun r10=>(bnd (iScanner_done_d (r10.2.1,())) (fun r11=>(cnd (bnot r11.1.1) (some ((zUpdate,(false,())),())) (cnd (inb 0 (ssz r7.1.1)) (bnd (iReadCommittee_d (r3.1.1,())) (fun r12=>(cnd (bnot r12.1.2.1) (some ((zUpdate,(false,())),())) (bnd (iReadPoint_d (r8.1.1,())) (fun r13=>(cnd (bnot r13.1.2.1) (some ((zUpdate,(false,())),())) (bnd (iReadProof_d (r9.1.1,())) (fun r14=>(cnd (bnot r14.1.2.1) (some ((zUpdate,(false,())),())) (bnd (iUpdateOk_d ((r2.1.1,(r12.1.1,(r4.1.1,(r5.1.1,(r6.1.1,((iconv .i64 (sat r7.1.1 0)),(r13.1.1,(r14.1.1,(r10.1.1,()))))))))),())) (fun r15=>(cnd (bnot r15.1.1) (some ((zUpdate,(false,())),())) (some (((r2.1.1,(r12.1.1,(r4.1.1,(r5.1.1,(r6.1.1,((iconv .i64 (sat r7.1.1 0)),(r13.1.1,(r14.1.1,(r10.1.1,()))))))))),(true,())),())))))))))))))) none)))))))))))))))))))))))):=(FnD.eq V iReadUpdate_c iReadUpdate_F (x1,())).trans (by kernel_rfl)
theorem iReadUpdate_k:CallsOk Tryz.prog gls gvs 19 iReadUpdate_g:=FnD.ok (F:=iReadUpdate_F) (cs:=iReadUpdate_c) V_ok (kC iUnsealed_k (kC iScanner_head_k (kC iScanner_take_k (kC iScanner_branch_k (kC iScanner_number_k (kC iScanner_done_k (kC iReadCommittee_k (kC iReadPoint_k (kC iReadProof_k (kC iUpdateOk_k kN)))))))))) Tryz.func19 (by decide) (by kernel_rfl)
noncomputable def iClientOk_F:FnD:={f:=93,fn:=Tryz.f93,ps:=[pa TClient],rs:=[rt .bool]}
noncomputable def iClientOk_c:List (Nat×Sig):=[(87,iHeadOk_g),(92,iCommitteeOk_g)]
noncomputable def iClientOk_d:tClient×Unit→Option ((Bool×Unit)×Unit):=iClientOk_F.d V iClientOk_c
noncomputable abbrev iClientOk_g:Sig:=iClientOk_F.t.sig iClientOk_d
theorem iClientOk_b (x1:tClient):iClientOk_d (x1,())=bnd (iHeadOk_d (x1.1,())) (fun r1=>(cnd (bnot r1.1.1) (some ((false,()),())) (bnd (iCommitteeOk_d (x1.2.1,())) (fun r2=>(cnd (bnot r2.1.1) (some ((false,()),())) (cnd x1.2.2.2.1 (bnd (iCommitteeOk_d (x1.2.2.1,())) (fun r3=>(some ((r3.1.1,()),())))) (some (((ieq (len x1.2.2.1.1) 0),()),())))))))):=(FnD.eq V iClientOk_c iClientOk_F (x1,())).trans (by kernel_rfl)
theorem iClientOk_k:CallsOk Tryz.prog gls gvs 93 iClientOk_g:=FnD.ok (F:=iClientOk_F) (cs:=iClientOk_c) V_ok (kC iHeadOk_k (kC iCommitteeOk_k kN)) Tryz.func93 (by decide) (by kernel_rfl)
noncomputable def iPeriodOf_F:FnD:={f:=51,fn:=Tryz.f51,ps:=[pa (.int .i64)],rs:=[rt (.int .i64)]}
noncomputable def iPeriodOf_c:List (Nat×Sig):=[]
noncomputable def iPeriodOf_d:Int×Unit→Option ((Int×Unit)×Unit):=iPeriodOf_F.d V iPeriodOf_c
noncomputable abbrev iPeriodOf_g:Sig:=iPeriodOf_F.t.sig iPeriodOf_d
theorem iPeriodOf_b (x1:Int):iPeriodOf_d (x1,())=cnd (nz 8) (some (((iquo .i64 (imax x1 0) 8),()),())) none:=(FnD.eq V iPeriodOf_c iPeriodOf_F (x1,())).trans (by kernel_rfl)
theorem iPeriodOf_k:CallsOk Tryz.prog gls gvs 51 iPeriodOf_g:=FnD.ok (F:=iPeriodOf_F) (cs:=iPeriodOf_c) V_ok kN Tryz.func51 (by decide) (by kernel_rfl)
noncomputable def iSigners_F:FnD:={f:=95,fn:=Tryz.f95,ps:=[pa TClient,pa (.int .i64)],rs:=[⟨TCommittee,(.pr (.own 0 .sh) .sh),false⟩,rt .bool]}
noncomputable def iSigners_c:List (Nat×Sig):=[(51,iPeriodOf_g),(52,iCopyCommittee_g)]
noncomputable def iSigners_d:tClient×Int×Unit→Option ((tCommittee×Bool×Unit)×Unit):=iSigners_F.d V iSigners_c
noncomputable abbrev iSigners_g:Sig:=iSigners_F.t.sig iSigners_d
theorem iSigners_b (x1:tClient) (x2:Int):iSigners_d (x1,(x2,()))=bnd (iPeriodOf_d (x1.1.1,())) (fun r2=>(bnd (iPeriodOf_d (x2,())) (fun r3=>(cnd (ieq r3.1.1 r2.1.1) (bnd (iCopyCommittee_d (x1.2.1,())) (fun r4=>(some ((r4.1.1,(true,())),())))) (bnd (iPeriodOf_d (x2,())) (fun r4=>(cnd (ieq r4.1.1 (iadd .i64 r2.1.1 1)) (cnd x1.2.2.2.1 (bnd (iCopyCommittee_d (x1.2.2.1,())) (fun r5=>(some ((r5.1.1,(true,())),())))) (some ((zCommittee,(false,())),()))) (some ((zCommittee,(false,())),()))))))))):=(FnD.eq V iSigners_c iSigners_F (x1,(x2,()))).trans (by kernel_rfl)
theorem iSigners_k:CallsOk Tryz.prog gls gvs 95 iSigners_g:=FnD.ok (F:=iSigners_F) (cs:=iSigners_c) V_ok (kC iPeriodOf_k (kC iCopyCommittee_k kN)) Tryz.func95 (by decide) (by kernel_rfl)
noncomputable def iCheckSlots_F:FnD:={f:=94,fn:=Tryz.f94,ps:=[pa TClient,pa TUpdate,pa (.int .i64)],rs:=[rt (.int .i64)]}
noncomputable def iCheckSlots_c:List (Nat×Sig):=[(95,iSigners_g),(51,iPeriodOf_g)]
noncomputable def iCheckSlots_d:tClient×tUpdate×Int×Unit→Option ((Int×Unit)×Unit):=iCheckSlots_F.d V iCheckSlots_c
noncomputable abbrev iCheckSlots_g:Sig:=iCheckSlots_F.t.sig iCheckSlots_d
theorem iCheckSlots_b (x1:tClient) (x2:tUpdate) (x3:Int):iCheckSlots_d (x1,(x2,(x3,())))=cnd (igt x2.2.2.2.1.1 x2.1.1) (some ((2,()),())) (cnd (ige x2.1.1 x2.2.2.2.2.2.2.2.2.1) (some ((2,()),())) (cnd (igt x2.2.2.2.2.2.2.2.2.1 x3) (some ((2,()),())) (bnd (iSigners_d (x1,(x2.2.2.2.2.2.2.2.2.1,()))) (fun r3=>(cnd (bnot r3.1.2.1) (some ((3,()),())) (bnd (iPeriodOf_d (x2.1.1,())) (fun r4=>(bnd (iPeriodOf_d (x2.2.2.2.2.2.2.2.2.1,())) (fun r5=>(cnd (ine r4.1.1 r5.1.1) (some ((3,()),())) (bnd (iPeriodOf_d (x2.1.1,())) (fun r6=>(bnd (iPeriodOf_d (x1.1.1,())) (fun r7=>(cnd (ile x2.2.2.2.1.1 x1.1.1) (cnd x1.2.2.2.1 (some ((4,()),())) (cnd (ine r6.1.1 r7.1.1) (some ((4,()),())) (some ((0,()),())))) (some ((0,()),()))))))))))))))))):=(FnD.eq V iCheckSlots_c iCheckSlots_F (x1,(x2,(x3,())))).trans (by kernel_rfl)
theorem iCheckSlots_k:CallsOk Tryz.prog gls gvs 94 iCheckSlots_g:=FnD.ok (F:=iCheckSlots_F) (cs:=iCheckSlots_c) V_ok (kC iSigners_k (kC iPeriodOf_k kN)) Tryz.func94 (by decide) (by kernel_rfl)
noncomputable def iVarText_F:FnD:={f:=107,fn:=Tryz.f107,ps:=[pa (.int .i64)],rs:=[rt .str],cuts:=[(2,[.val 0 (.int .i64) .sh, .val 3 (.sl (.int .u8)) (.own 0 .sh)])]}
noncomputable def iVarText_c:List (Nat×Sig):=[]
noncomputable def iVarText_d:Int×Unit→Option ((ByteArray×Unit)×Unit):=iVarText_F.d V iVarText_c
noncomputable abbrev iVarText_g:Sig:=iVarText_F.t.sig iVarText_d
noncomputable def iVarText_D2:Int× (List Int)×Unit→Option ((ByteArray×Unit)×Unit):=iVarText_F.D V iVarText_c 2
theorem iVarText_b (x1:Int):iVarText_d (x1,())=iVarText_D2 (x1,(([]:List Int),())):=(FnD.eq V iVarText_c iVarText_F (x1,())).trans (by kernel_rfl)
theorem iVarText_q2 (x1:Int) (x2:(List Int)):iVarText_D2 (x1,(x2,()))=cnd (igt x1 127) (cnd (nz 128) (cnd (fits ((len x2)+(len ((iconv .u8 (iadd .i64 128 (irem x1 128)))::([]:List Int)))) 1) (cnd (nz 128) (iVarText_D2 ((iquo .i64 x1 128),((app x2 ((iconv .u8 (iadd .i64 128 (irem x1 128)))::([]:List Int))),()))) none) none) none) (cnd (fits ((len x2)+(len ((iconv .u8 x1)::([]:List Int)))) 1) (some (((sof (app x2 ((iconv .u8 x1)::([]:List Int)))),()),())) none):=(FnD.eqC V iVarText_c iVarText_F 2 (x1,(x2,()))).trans (by kernel_rfl)
theorem iVarText_k:CallsOk Tryz.prog gls gvs 107 iVarText_g:=FnD.ok (F:=iVarText_F) (cs:=iVarText_c) V_ok kN Tryz.func107 (by decide) (by kernel_rfl)
noncomputable def iKeccakPad_F:FnD:={f:=185,fn:=Tryz.f185,ps:=[pa .str],rs:=[rt .str]}
noncomputable def iKeccakPad_c:List (Nat×Sig):=[(215,g_strings_Repeat_g)]
noncomputable def iKeccakPad_d:ByteArray×Unit→Option ((ByteArray×Unit)×Unit):=iKeccakPad_F.d V iKeccakPad_c
noncomputable abbrev iKeccakPad_g:Sig:=iKeccakPad_F.t.sig iKeccakPad_d
theorem iKeccakPad_b (x1:ByteArray):iKeccakPad_d (x1,())=cnd (nz 136) (cnd (fits ((ssz x1)+(ssz (bs [1]))) 1) (bnd (g_strings_Repeat_d ((bs [0]),((isub .i64 135 (irem (ssz x1) 136)),()))) (fun r1=>(cnd (fits ((ssz (scat x1 (bs [1])))+(ssz r1.1.1)) 1) (cnd (inb (isub .i64 (len (sbytes (scat (scat x1 (bs [1])) r1.1.1))) 1) (len (sbytes (scat (scat x1 (bs [1])) r1.1.1)))) (cnd (inb (isub .i64 (len (sbytes (scat (scat x1 (bs [1])) r1.1.1))) 1) (len (sbytes (scat (scat x1 (bs [1])) r1.1.1)))) (some (((sof (upd (sbytes (scat (scat x1 (bs [1])) r1.1.1)) (isub .i64 (len (sbytes (scat (scat x1 (bs [1])) r1.1.1))) 1) (ior .u8 (rd 0 (sbytes (scat (scat x1 (bs [1])) r1.1.1)) (isub .i64 (len (sbytes (scat (scat x1 (bs [1])) r1.1.1))) 1)) 128))),()),())) none) none) none))) none) none:=(FnD.eq V iKeccakPad_c iKeccakPad_F (x1,())).trans (by kernel_rfl)
theorem iKeccakPad_k:CallsOk Tryz.prog gls gvs 185 iKeccakPad_g:=FnD.ok (F:=iKeccakPad_F) (cs:=iKeccakPad_c) V_ok (kC g_strings_Repeat_k kN) Tryz.func185 (by decide) (by kernel_rfl)
noncomputable def iWordAt_F:FnD:={f:=186,fn:=Tryz.f186,ps:=[pa .str,pa (.int .i64)],rs:=[rt (.int .u64)],cuts:=[(3,[.val 0 .str .sh, .val 1 (.int .i64) .sh, .val 5 (.int .u64) .sh, .val 6 (.int .i64) .sh])]}
noncomputable def iWordAt_c:List (Nat×Sig):=[]
noncomputable def iWordAt_d:ByteArray×Int×Unit→Option ((Int×Unit)×Unit):=iWordAt_F.d V iWordAt_c
noncomputable abbrev iWordAt_g:Sig:=iWordAt_F.t.sig iWordAt_d
noncomputable def iWordAt_D3:ByteArray×Int×Int×Int×Unit→Option ((Int×Unit)×Unit):=iWordAt_F.D V iWordAt_c 3
theorem iWordAt_b (x1:ByteArray) (x2:Int):iWordAt_d (x1,(x2,()))=iWordAt_D3 (x1,(x2,(0,(7,())))):=(FnD.eq V iWordAt_c iWordAt_F (x1,(x2,()))).trans (by kernel_rfl)
theorem iWordAt_q3 (x1:ByteArray) (x2:Int) (x3:Int) (x4:Int):iWordAt_D3 (x1,(x2,(x3,(x4,()))))=cnd (ige x4 0) (cnd (nn 8) (cnd (inb (iadd .i64 x2 x4) (ssz x1)) (iWordAt_D3 (x1,(x2,((ior .u64 (ishl .u64 x3 8) (iconv .u64 (sat x1 (iadd .i64 x2 x4)))),((isub .i64 x4 1),()))))) none) none) (some ((x3,()),())):=(FnD.eqC V iWordAt_c iWordAt_F 3 (x1,(x2,(x3,(x4,()))))).trans (by kernel_rfl)
theorem iWordAt_k:CallsOk Tryz.prog gls gvs 186 iWordAt_g:=FnD.ok (F:=iWordAt_F) (cs:=iWordAt_c) V_ok kN Tryz.func186 (by decide) (by kernel_rfl)
noncomputable def g_math_bits_RotateLeft64_F:FnD:={f:=235,fn:=Tryz.f235,ps:=[pa (.int .u64),pa (.int .i64)],rs:=[rt (.int .u64)]}
noncomputable def g_math_bits_RotateLeft64_c:List (Nat×Sig):=[]
noncomputable def g_math_bits_RotateLeft64_d:Int×Int×Unit→Option ((Int×Unit)×Unit):=g_math_bits_RotateLeft64_F.d V g_math_bits_RotateLeft64_c
noncomputable abbrev g_math_bits_RotateLeft64_g:Sig:=g_math_bits_RotateLeft64_F.t.sig g_math_bits_RotateLeft64_d
theorem g_math_bits_RotateLeft64_b (x1:Int) (x2:Int):g_math_bits_RotateLeft64_d (x1,(x2,()))=cnd (nn (iand .u64 (iconv .u64 x2) 63)) (cnd (nn (isub .u64 64 (iand .u64 (iconv .u64 x2) 63))) (some (((ior .u64 (ishl .u64 x1 (iand .u64 (iconv .u64 x2) 63)) (ishr .u64 x1 (isub .u64 64 (iand .u64 (iconv .u64 x2) 63)))),()),())) none) none:=(FnD.eq V g_math_bits_RotateLeft64_c g_math_bits_RotateLeft64_F (x1,(x2,()))).trans (by kernel_rfl)
theorem g_math_bits_RotateLeft64_k:CallsOk Tryz.prog gls gvs 235 g_math_bits_RotateLeft64_g:=FnD.ok (F:=g_math_bits_RotateLeft64_F) (cs:=g_math_bits_RotateLeft64_c) V_ok kN Tryz.func235 (by decide) (by kernel_rfl)
end Go.Proofs.YtkfifjaomgjnnaaGreatDoor
