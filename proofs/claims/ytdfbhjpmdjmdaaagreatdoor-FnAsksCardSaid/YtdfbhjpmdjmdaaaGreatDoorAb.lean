/- What the functions come to: printed by program. Of no condition. -/
import Derived.Test.YtdfbhjpmdjmdaaaGreatDoorX1
set_option linter.unusedVariables false
set_option maxRecDepth 100000
namespace Go.Proofs.YtdfbhjpmdjmdaaaGreatDoor
open Go.TV
noncomputable def nzq:FnD:={f:=75,fn:=Tryz.f75,ps:=[pa .item],rs:=[rt .str,rt .bool]}
noncomputable def rzA:List (Nat×Sig):=[(114,Ezr),(115,uzN)]
noncomputable def dzM:ItemT×Unit→Option ((ByteArray×Bool×Unit)×Unit):=nzq.d V rzA
noncomputable abbrev gzx:Sig:=nzq.t.sig dzM
theorem Fze (x1:ItemT):dzM (x1,())=bnd (rz9 (x1,())) (fun r1=>(cnd (bnot r1.1.1) (some (czQ,())) (bnd (kzx (x1,())) (fun r2=>(cnd (bnot r2.1.2.1) (some (czQ,())) (cnd (igt (ssz r2.1.1) 900) (some (czQ,())) (some ((r2.1.1,(true,())),())))))))):=(FnD.eq V rzA nzq (x1,())).trans (by kernel_rfl)
theorem jz9:CallsOk Tryz.prog gls gvs 75 gzx:=FnD.ok (F:=nzq) (cs:=rzA) V_ok (kC KzP (kC DzQ kN)) Tryz.func75 (by decide) (by kernel_rfl)
noncomputable def nze:FnD:={f:=62,fn:=Tryz.f62,ps:=[pa .str],rs:=[⟨.item,(.own 0 .sh),false⟩,rt .bool],al:=true}
noncomputable def rzk:List (Nat×Sig):=[(109,EzI),(75,gzx)]
noncomputable def jzU:ByteArray×Unit→Option ((ItemT×Bool×Unit)×Unit):=nze.d V rzk
noncomputable abbrev qzU:Sig:=nze.t.sig jzU
theorem FzC (x1:ByteArray):jzU (x1,())=cnd (igt (ssz x1) 900) (some (((ItemT.mk false (bs []) ([]:List ItemT)),(false,())),())) (bnd (hz3 (x1,(0,(4,())))) (fun r1=>(cnd (bnot r1.1.2.2.1) (some (((ItemT.mk false (bs []) ([]:List ItemT)),(false,())),())) (cnd (ine r1.1.2.1 (ssz x1)) (some (((ItemT.mk false (bs []) ([]:List ItemT)),(false,())),())) (bnd (dzM (r1.1.1,())) (fun r2=>(cnd (bnot r2.1.2.1) (some (((ItemT.mk false (bs []) ([]:List ItemT)),(false,())),())) (cnd (sne r2.1.1 x1) (some (((ItemT.mk false (bs []) ([]:List ItemT)),(false,())),())) (some ((r1.1.1,(true,())),())))))))))):=(FnD.eq V rzk nze (x1,())).trans (by kernel_rfl)
theorem wzh:CallsOk Tryz.prog gls gvs 62 qzU:=FnD.ok (F:=nze) (cs:=rzk) V_ok (kC KzO (kC jz9 kN)) Tryz.func62 (by decide) (by kernel_rfl)
noncomputable def ezY:FnD:={f:=107,fn:=Tryz.f107,ps:=[⟨jzH, .sh,true,true,none⟩,pa .str],rs:=[⟨.item,(.own 0 .sh),false⟩,rt (.int .i64)],al:=true}
noncomputable def izk:List (Nat×Sig):=[(62,qzU),(58,jz5)]
noncomputable def dzc:bze×ByteArray×Unit→Option ((ItemT×Int×Unit)×bze×Unit):=ezY.d V izk
noncomputable abbrev nzI:Sig:=ezY.t.sig dzc
theorem vzB (x1:bze) (x2:ByteArray):dzc (x1,(x2,()))=cnd (ieq x1.2.1 (len x1.1)) (some (((ItemT.mk false (bs []) ([]:List ItemT)),(3,())),(x1,()))) (cnd (inb x1.2.1 (len x1.1)) (bnd (jzU ((rd (bs []) x1.1 x1.2.1),())) (fun r2=>(cnd (bnot r2.1.2.1) (some (((ItemT.mk false (bs []) ([]:List ItemT)),(2,())),((x1.1,((iadd .i64 x1.2.1 1),x1.2.2)),()))) (bnd (dzg ((rd (bs []) x1.1 x1.2.1),())) (fun r3=>(cnd (sne r3.1.1 x2) (some (((ItemT.mk false (bs []) ([]:List ItemT)),(2,())),((x1.1,((iadd .i64 x1.2.1 1),x1.2.2)),()))) (some ((r2.1.1,(0,())),((x1.1,((iadd .i64 x1.2.1 1),x1.2.2)),()))))))))) none):=(FnD.eq V izk ezY (x1,(x2,()))).trans (by kernel_rfl)
theorem vzH:CallsOk Tryz.prog gls gvs 107 nzI:=FnD.ok (F:=ezY) (cs:=izk) V_ok (kC wzh (kC lz9 kN)) Tryz.func107 (by decide) (by kernel_rfl)
noncomputable def fzB:FnD:={f:=150,fn:=Tryz.f150,ps:=[pa (.sl (.int .i64))],rs:=[rt .bool],cuts:=[(2,[.val 0 (.sl (.int .i64)) .sh, .val 5 (.sl (.int .i64)) .sh, .val 6 (.int .i64) .sh, .val 7 (.int .i64) .sh])]}
noncomputable def hzR:List (Nat×Sig):=[]
noncomputable def hzN:(List Int)×Unit→Option ((Bool×Unit)×Unit):=fzB.d V hzR
noncomputable abbrev uzT:Sig:=fzB.t.sig hzN
noncomputable def fz1:(List Int)× (List Int)×Int×Int×Unit→Option ((Bool×Unit)×Unit):=fzB.D V hzR 2
theorem vzj (x1:(List Int)):hzN (x1,())=fz1 (x1,(x1,((len x1),(0,())))):=(FnD.eq V hzR fzB (x1,())).trans (by kernel_rfl)
theorem izU (x1:(List Int)) (x2:(List Int)) (x3:Int) (x4:Int):fz1 (x1,(x2,(x3,(x4,()))))=cnd (ilt x4 x3) (cnd (inb x4 (len x2)) (cnd (ilt (rd 0 x2 x4) 0) (some ((false,()),())) (cnd (igt (rd 0 x2 x4) 15) (some ((false,()),())) (fz1 (x1,(x2,(x3,((iadd .i64 x4 1),()))))))) none) (some (((ile (len x1) 64),()),())):=(FnD.eqC V hzR fzB 2 (x1,(x2,(x3,(x4,()))))).trans (by kernel_rfl)
theorem CzB:CallsOk Tryz.prog gls gvs 150 uzT:=FnD.ok (F:=fzB) (cs:=hzR) V_ok kN Tryz.func150 (by decide) (by kernel_rfl)
noncomputable def bzO:FnD:={f:=116,fn:=Tryz.f116,ps:=[pa (.sl (.int .i64)),pa .bool],rs:=[rt .str,rt .bool],joins:=[6,9],cuts:=[(6,[.val 0 (.sl (.int .i64)) .sh, .val 6 (.int .i64) .sh]),(9,[.val 0 (.sl (.int .i64)) .sh, .val 6 (.int .i64) .sh]),(11,[.val 0 (.sl (.int .i64)) .sh, .val 7 (.sl (.int .u8)) (.own 0 .sh), .val 8 (.int .i64) .sh])]}
noncomputable def bz5:List (Nat×Sig):=[(150,uzT)]
noncomputable def cz3:(List Int)×Bool×Unit→Option ((ByteArray×Bool×Unit)×Unit):=bzO.d V bz5
noncomputable abbrev nzg:Sig:=bzO.t.sig cz3
noncomputable def hzx:(List Int)×Int×Unit→Option ((ByteArray×Bool×Unit)×Unit):=bzO.D V bz5 6
noncomputable def lzh:(List Int)×Int×Unit→Option ((ByteArray×Bool×Unit)×Unit):=bzO.D V bz5 9
noncomputable def dzJ:(List Int)× (List Int)×Int×Unit→Option ((ByteArray×Bool×Unit)×Unit):=bzO.D V bz5 11
theorem rzR (x1:(List Int)) (x2:Bool):cz3 (x1,(x2,()))=bnd (hzN (x1,())) (fun r2=>(cnd (bnot r2.1.1) (some (czQ,())) (cnd x2 (hzx (x1,(32,()))) (hzx (x1,(0,())))))):=(FnD.eq V bz5 bzO (x1,(x2,()))).trans (by kernel_rfl)
theorem yzD (x1:(List Int)) (x2:Int):hzx (x1,(x2,()))=cnd (nz 2) (cnd (ieq (irem (len x1) 2) 1) (cnd (inb 0 (len x1)) (cnd (inb2 1 (len x1) (len x1)) (lzh ((sub x1 1 (len x1)),((iadd .i64 x2 (iadd .i64 16 (rd 0 x1 0))),()))) none) none) (lzh (x1,(x2,())))) none:=(FnD.eqC V bz5 bzO 6 (x1,(x2,()))).trans (by kernel_rfl)
theorem qzf (x1:(List Int)) (x2:Int):lzh (x1,(x2,()))=dzJ (x1,(((azx .u8 x2)::([]:List Int)),(0,()))):=(FnD.eqC V bz5 bzO 9 (x1,(x2,()))).trans (by kernel_rfl)
theorem ozH (x1:(List Int)) (x2:(List Int)) (x3:Int):dzJ (x1,(x2,(x3,())))=cnd (ilt x3 (len x1)) (cnd (inb x3 (len x1)) (cnd (nn 4) (cnd (inb (iadd .i64 x3 1) (len x1)) (cnd (fits ((len x2)+(len ((azx .u8 (ior .i64 (ishl .i64 (rd 0 x1 x3) 4) (rd 0 x1 (iadd .i64 x3 1))))::([]:List Int)))) 1) (dzJ (x1,((app x2 ((azx .u8 (ior .i64 (ishl .i64 (rd 0 x1 x3) 4) (rd 0 x1 (iadd .i64 x3 1))))::([]:List Int))),((iadd .i64 x3 2),())))) none) none) none) none) (some (((sof x2),(true,())),())):=(FnD.eqC V bz5 bzO 11 (x1,(x2,(x3,())))).trans (by kernel_rfl)
theorem szd:CallsOk Tryz.prog gls gvs 116 nzg:=FnD.ok (F:=bzO) (cs:=bz5) V_ok (kC CzB kN) Tryz.func116 (by decide) (by kernel_rfl)
noncomputable def ezl:FnD:={f:=171,fn:=Tryz.f171,ps:=[pa .str],rs:=[⟨(.sl (.int .i64)),(.own 0 .sh),false⟩,rt .bool,rt .bool],joins:=[8],cuts:=[(8,[.val 0 .str .sh, .val 5 (.sl (.int .i64)) .sh, .val 6 .bool .sh])]}
noncomputable def fzJ:List (Nat×Sig):=[(60,cz1),(116,nzg)]
noncomputable def izG:ByteArray×Unit→Option (((List Int)×Bool×Bool×Unit)×Unit):=ezl.d V fzJ
noncomputable abbrev szm:Sig:=ezl.t.sig izG
noncomputable def hzw:ByteArray× (List Int)×Bool×Unit→Option (((List Int)×Bool×Bool×Unit)×Unit):=ezl.D V fzJ 8
theorem Bzi (x1:ByteArray):izG (x1,())=cnd (seq x1 (bs [])) (some ((([]:List Int),(false,(false,()))),())) (cnd (inb 0 (ssz x1)) (cnd (igt (sat x1 0) 63) (some ((([]:List Int),(false,(false,()))),())) (bnd (bzV (x1,())) (fun r1=>(cnd (inb 0 (len r1.1.1)) (cnd (inb 0 (len r1.1.1)) (cnd (ieq (iand .i64 (rd 0 r1.1.1 0) 1) 1) (cnd (inb2 1 (len r1.1.1) (len r1.1.1)) (hzw (x1,((sub r1.1.1 1 (len r1.1.1)),((ine (iand .i64 (rd 0 r1.1.1 0) 2) 0),())))) none) (cnd (inb2 2 (len r1.1.1) (len r1.1.1)) (hzw (x1,((sub r1.1.1 2 (len r1.1.1)),((ine (iand .i64 (rd 0 r1.1.1 0) 2) 0),())))) none)) none) none)))) none):=(FnD.eq V fzJ ezl (x1,())).trans (by kernel_rfl)
theorem yzJ (x1:ByteArray) (x2:(List Int)) (x3:Bool):hzw (x1,(x2,(x3,())))=bnd (cz3 (x2,(x3,()))) (fun r3=>(cnd (bnot r3.1.2.1) (some ((([]:List Int),(false,(false,()))),())) (cnd (sne r3.1.1 x1) (some ((([]:List Int),(false,(false,()))),())) (cnd (fits ((len ([]:List Int))+(len x2)) 1) (some (((app ([]:List Int) x2),(x3,(true,()))),())) none)))):=(FnD.eqC V fzJ ezl 8 (x1,(x2,(x3,())))).trans (by kernel_rfl)
theorem Bzp:CallsOk Tryz.prog gls gvs 171 szm:=FnD.ok (F:=ezl) (cs:=fzJ) V_ok (kC dzY (kC szd kN)) Tryz.func171 (by decide) (by kernel_rfl)
noncomputable def lzr:FnD:={f:=123,fn:=Tryz.f123,ps:=[pa (.sl (.int .i64)),pa (.sl (.int .i64))],rs:=[rt (.int .i64)],cuts:=[(2,[.val 0 (.sl (.int .i64)) .sh, .val 1 (.sl (.int .i64)) .sh, .val 5 (.int .i64) .sh])]}
noncomputable def ozD:List (Nat×Sig):=[]
noncomputable def mzc:(List Int)× (List Int)×Unit→Option ((Int×Unit)×Unit):=lzr.d V ozD
noncomputable abbrev tzn:Sig:=lzr.t.sig mzc
noncomputable def pze:(List Int)× (List Int)×Int×Unit→Option ((Int×Unit)×Unit):=lzr.D V ozD 2
theorem Mz6 (x1:(List Int)) (x2:(List Int)):mzc (x1,(x2,()))=pze (x1,(x2,(0,()))):=(FnD.eq V ozD lzr (x1,(x2,()))).trans (by kernel_rfl)
theorem zzw (x1:(List Int)) (x2:(List Int)) (x3:Int):pze (x1,(x2,(x3,())))=cnd (ilt x3 (len x1)) (cnd (ilt x3 (len x2)) (cnd (inb x3 (len x1)) (cnd (inb x3 (len x2)) (cnd (ieq (rd 0 x1 x3) (rd 0 x2 x3)) (pze (x1,(x2,((iadd .i64 x3 1),())))) (some ((x3,()),()))) none) none) (some ((x3,()),()))) (some ((x3,()),())):=(FnD.eqC V ozD lzr 2 (x1,(x2,(x3,())))).trans (by kernel_rfl)
theorem wzW:CallsOk Tryz.prog gls gvs 123 tzn:=FnD.ok (F:=lzr) (cs:=ozD) V_ok kN Tryz.func123 (by decide) (by kernel_rfl)
noncomputable def bzF:FnD:={f:=141,fn:=Tryz.f141,ps:=[⟨jzH, .sh,true,true,none⟩,pa .item],rs:=[rt Izi],al:=true,joins:=[6],cuts:=[(6,[.val 5 (.sl (.int .i64)) (.own 0 .sh), .val 6 .bool .sh, .box 0 jzH .sh, .box 3 .item .sh, .box 4 Izi (.pr .sh (.pr .sh (.pr .sh (.pr (.own 0 .sh) .sh)))), .ptr 0 0 0, .ptr 3 3 0, .ptr 4 4 0])]}
noncomputable def bz1:List (Nat×Sig):=[(171,szm),(123,tzn)]
noncomputable def czM:bze×ItemT×Unit→Option ((pz9×Unit)×bze×Unit):=bzF.d V bz1
noncomputable abbrev izv:Sig:=bzF.t.sig czM
noncomputable def dzO:(List Int)×Bool×bze×ItemT×pz9×Unit→Option ((pz9×Unit)×bze×Unit):=bzF.D V bz1 6
theorem qze (x1:bze) (x2:ItemT):czM (x1,(x2,()))=cnd (inb 0 (len x2.k)) (bnd (izG ((rd (ItemT.mk false (bs []) ([]:List ItemT)) x2.k 0).s,())) (fun r2=>(cnd (inb 0 (len x2.k)) (cnd (rd (ItemT.mk false (bs []) ([]:List ItemT)) x2.k 0).l (some (((false,(false,((bs []),((ItemT.mk false (bs []) ([]:List ItemT)),(3,()))))),()),(x1,()))) (cnd (bnot r2.1.2.2.1) (some (((false,(false,((bs []),((ItemT.mk false (bs []) ([]:List ItemT)),(3,()))))),()),(x1,()))) (bnd (mzc (x1.2.2.1,(r2.1.1,()))) (fun r3=>(cnd (ilt r3.1.1 (len r2.1.1)) (some (((true,(false,((bs []),((ItemT.mk false (bs []) ([]:List ItemT)),(0,()))))),()),(x1,()))) (cnd r2.1.2.1 (cnd (ine (len x1.2.2.1) (len r2.1.1)) (some (((true,(false,((bs []),((ItemT.mk false (bs []) ([]:List ItemT)),(0,()))))),()),(x1,()))) (dzO (r2.1.1,(r2.1.2.1,(x1,(x2,(Dzk,()))))))) (dzO (r2.1.1,(r2.1.2.1,(x1,(x2,(Dzk,())))))))))))) none))) none:=(FnD.eq V bz1 bzF (x1,(x2,()))).trans (by kernel_rfl)
theorem hzS (x1:(List Int)) (x2:Bool) (x3:bze) (x4:ItemT) (x5:pz9):dzO (x1,(x2,(x3,(x4,(x5,())))))=cnd (bnot x2) (cnd (inb2 (len x1) (len x3.2.2.1) (len x3.2.2.1)) (cnd (inb 1 (len x4.k)) (some (((false,(false,((bs []),((rd (ItemT.mk false (bs []) ([]:List ItemT)) x4.k 1),(0,()))))),()),((x3.1,(x3.2.1,((sub x3.2.2.1 (len x1) (len x3.2.2.1)),x3.2.2.2))),()))) none) none) (cnd (inb 1 (len x4.k)) (cnd (rd (ItemT.mk false (bs []) ([]:List ItemT)) x4.k 1).l (some (((false,(false,((bs []),((ItemT.mk false (bs []) ([]:List ItemT)),(3,()))))),()),(x3,()))) (cnd (inb 1 (len x4.k)) (some (((true,(true,((rd (ItemT.mk false (bs []) ([]:List ItemT)) x4.k 1).s,((ItemT.mk false (bs []) ([]:List ItemT)),(0,()))))),()),(x3,()))) none)) none):=(FnD.eqC V bz1 bzF 6 (x1,(x2,(x3,(x4,(x5,())))))).trans (by kernel_rfl)
theorem qzd:CallsOk Tryz.prog gls gvs 141 izv:=FnD.ok (F:=bzF) (cs:=bz1) V_ok (kC Bzp (kC wzW kN)) Tryz.func141 (by decide) (by kernel_rfl)
noncomputable def czr:FnD:={f:=108,fn:=Tryz.f108,ps:=[⟨jzH, .sh,true,true,none⟩,pa .item],rs:=[rt Izi],al:=true,joins:=[3],cuts:=[(3,[.box 0 jzH .sh, .box 3 .item .sh, .box 4 Izi (.pr .sh (.pr .sh (.pr .sh (.pr (.own 0 .sh) .sh)))), .ptr 0 0 0, .ptr 3 3 0, .ptr 4 4 0])]}
noncomputable def dzb:List (Nat×Sig):=[(141,izv)]
noncomputable def ezX:bze×ItemT×Unit→Option ((pz9×Unit)×bze×Unit):=czr.d V dzb
noncomputable abbrev nzE:Sig:=czr.t.sig ezX
noncomputable def gzu:bze×ItemT×pz9×Unit→Option ((pz9×Unit)×bze×Unit):=czr.D V dzb 3
theorem vzE (x1:bze) (x2:ItemT):ezX (x1,(x2,()))=cnd x2.l (cnd (ieq (len x2.k) 2) (bnd (czM (x1,(x2,()))) (fun r2=>(some ((r2.1.1,()),(r2.2.1,()))))) (gzu (x1,(x2,(Dzk,()))))) (gzu (x1,(x2,(Dzk,())))):=(FnD.eq V dzb czr (x1,(x2,()))).trans (by kernel_rfl)
theorem lzu (x1:bze) (x2:ItemT) (x3:pz9):gzu (x1,(x2,(x3,())))=cnd (bnot x2.l) (some (((false,(false,((bs []),((ItemT.mk false (bs []) ([]:List ItemT)),(3,()))))),()),(x1,()))) (cnd (ine (len x2.k) 17) (some (((false,(false,((bs []),((ItemT.mk false (bs []) ([]:List ItemT)),(3,()))))),()),(x1,()))) (cnd (ieq (len x1.2.2.1) 0) (some (((true,(false,((bs []),((ItemT.mk false (bs []) ([]:List ItemT)),(0,()))))),()),(x1,()))) (cnd (inb 0 (len x1.2.2.1)) (cnd (inb (rd 0 x1.2.2.1 0) (len x2.k)) (cnd (inb2 1 (len x1.2.2.1) (len x1.2.2.1)) (cnd (bnot (rd (ItemT.mk false (bs []) ([]:List ItemT)) x2.k (rd 0 x1.2.2.1 0)).l) (cnd (seq (rd (ItemT.mk false (bs []) ([]:List ItemT)) x2.k (rd 0 x1.2.2.1 0)).s (bs [])) (some (((true,(false,((bs []),((ItemT.mk false (bs []) ([]:List ItemT)),(0,()))))),()),((x1.1,(x1.2.1,((sub x1.2.2.1 1 (len x1.2.2.1)),x1.2.2.2))),()))) (some (((false,(false,((bs []),((rd (ItemT.mk false (bs []) ([]:List ItemT)) x2.k (rd 0 x1.2.2.1 0)),(0,()))))),()),((x1.1,(x1.2.1,((sub x1.2.2.1 1 (len x1.2.2.1)),x1.2.2.2))),())))) (some (((false,(false,((bs []),((rd (ItemT.mk false (bs []) ([]:List ItemT)) x2.k (rd 0 x1.2.2.1 0)),(0,()))))),()),((x1.1,(x1.2.1,((sub x1.2.2.1 1 (len x1.2.2.1)),x1.2.2.2))),())))) none) none) none))):=(FnD.eqC V dzb czr 3 (x1,(x2,(x3,())))).trans (by kernel_rfl)
theorem vzL:CallsOk Tryz.prog gls gvs 108 nzE:=FnD.ok (F:=czr) (cs:=dzb) V_ok (kC qzd kN) Tryz.func108 (by decide) (by kernel_rfl)
noncomputable def czt:FnD:={f:=61,fn:=Tryz.f61,ps:=[⟨jzH, .sh,true,true,none⟩,pa .str],rs:=[rt Izi],al:=true,cuts:=[(6,[.box 0 jzH .sh, .box 4 Izi (.pr .sh (.pr .sh (.pr .sh (.pr (.own 0 .sh) .sh)))), .box 5 .item .sh, .ptr 0 0 0, .ptr 4 4 0, .ptr 5 5 0])]}
noncomputable def dzk:List (Nat×Sig):=[(107,nzI),(108,nzE),(27,gzP)]
noncomputable def izo:bze×ByteArray×Unit→Option ((pz9×Unit)×bze×Unit):=czt.d V dzk
noncomputable abbrev nzK:Sig:=czt.t.sig izo
noncomputable def bzN:bze×pz9×ItemT×Unit→Option ((pz9×Unit)×bze×Unit):=czt.D V dzk 6
theorem vzM (x1:bze) (x2:ByteArray):izo (x1,(x2,()))=bnd (dzc (x1,(x2,()))) (fun r2=>(cnd (ine r2.1.2.1 0) (some (((false,(false,((bs []),((ItemT.mk false (bs []) ([]:List ItemT)),(r2.1.2.1,()))))),()),(r2.2.1,()))) (cnd (bnot r2.1.1.l) (cnd (seq r2.1.1.s (bs [])) (some (((true,(false,((bs []),((ItemT.mk false (bs []) ([]:List ItemT)),(0,()))))),()),(r2.2.1,()))) (bzN (r2.2.1,(Dzk,(r2.1.1,()))))) (bzN (r2.2.1,(Dzk,(r2.1.1,()))))))):=(FnD.eq V dzk czt (x1,(x2,()))).trans (by kernel_rfl)
theorem uzr (x1:bze) (x2:pz9) (x3:ItemT):bzN (x1,(x2,(x3,())))=bnd (ezX (x1,(x3,()))) (fun r3=>(cnd r3.1.1.1 (some ((r3.1.1,()),(r3.2.1,()))) (cnd (ine r3.1.1.2.2.2.2.1 0) (some ((r3.1.1,()),(r3.2.1,()))) (cnd r3.1.1.2.2.2.1.l (bzN (r3.2.1,(x2,(r3.1.1.2.2.2.1,())))) (bnd (czF (r3.1.1.2.2.2.1.s,())) (fun r4=>(cnd (bnot r4.1.1) (some (((false,(false,((bs []),((ItemT.mk false (bs []) ([]:List ItemT)),(3,()))))),()),(r3.2.1,()))) (bnd (dzc (r3.2.1,(r3.1.1.2.2.2.1.s,()))) (fun r5=>(cnd (ine r5.1.2.1 0) (some (((false,(false,((bs []),((ItemT.mk false (bs []) ([]:List ItemT)),(r5.1.2.1,()))))),()),(r5.2.1,()))) (bzN (r5.2.1,(x2,(r5.1.1,())))))))))))))):=(FnD.eqC V dzk czt 6 (x1,(x2,(x3,())))).trans (by kernel_rfl)
theorem vzK:CallsOk Tryz.prog gls gvs 61 nzK:=FnD.ok (F:=czt) (cs:=dzk) V_ok (kC vzH (kC vzL (kC jzL kN))) Tryz.func61 (by decide) (by kernel_rfl)
noncomputable def izT:FnD:={f:=29,fn:=Tryz.f29,ps:=[pa .str,pa .str,pa (.sl .str)],rs:=[rt .str,rt .bool,rt (.int .i64)]}
noncomputable def mz6:List (Nat×Sig):=[(27,gzP),(60,cz1),(61,nzK)]
noncomputable def ezt:ByteArray×ByteArray× (List ByteArray)×Unit→Option ((ByteArray×Bool×Int×Unit)×Unit):=izT.d V mz6
noncomputable abbrev szi:Sig:=izT.t.sig ezt
theorem AzI (x1:ByteArray) (x2:ByteArray) (x3:(List ByteArray)):ezt (x1,(x2,(x3,())))=bnd (czF (x1,())) (fun r3=>(cnd (bnot r3.1.1) (some (((bs []),(false,(1,()))),())) (cnd (ine (ssz x2) 4) (some (((bs []),(false,(1,()))),())) (cnd (ilt (len x3) 1) (some (((bs []),(false,(1,()))),())) (cnd (igt (len x3) 12) (some (((bs []),(false,(1,()))),())) (bnd (bzV (x2,())) (fun r4=>(bnd (izo ((x3,(0,(r4.1.1,()))),(x1,()))) (fun r5=>(cnd (ine r5.1.1.2.2.2.2.1 0) (some (((bs []),(false,(r5.1.1.2.2.2.2.1,()))),())) (cnd (ilt r5.2.1.2.1 (len x3)) (some (((bs []),(false,(4,()))),())) (some ((r5.1.1.2.2.1,(r5.1.1.2.1,(0,()))),()))))))))))))):=(FnD.eq V mz6 izT (x1,(x2,(x3,())))).trans (by kernel_rfl)
theorem Czg:CallsOk Tryz.prog gls gvs 29 szi:=FnD.ok (F:=izT) (cs:=mz6) V_ok (kC jzL (kC dzY (kC vzK kN))) Tryz.func29 (by decide) (by kernel_rfl)
noncomputable def dzs:FnD:={f:=30,fn:=Tryz.f30,ps:=[pa .str],rs:=[rt (.int .i64),rt (.int .i64),rt .str,rt .bool],cuts:=[(5,[.val 34 (.int .i64) .sh, .val 35 (.int .i64) .sh, .box 6 .item (.own 0 .sh), .ptr 6 6 0, .ref 33 ⟨true,6,2,(.sl .item)⟩])]}
noncomputable def ezM:List (Nat×Sig):=[(62,qzU),(63,uzc),(27,gzP)]
noncomputable def gz8:ByteArray×Unit→Option ((Int×Int×ByteArray×Bool×Unit)×Unit):=dzs.d V ezM
noncomputable abbrev qzA:Sig:=dzs.t.sig gz8
noncomputable def jzV:Int×Int×ItemT×Unit→Option ((Int×Int×ByteArray×Bool×Unit)×Unit):=dzs.D V ezM 5
theorem yzS (x1:ByteArray):gz8 (x1,())=bnd (jzU (x1,())) (fun r1=>(cnd (bnot r1.1.2.1) (some ((0,(0,czQ)),())) (cnd (bnot r1.1.1.l) (some ((0,(0,czQ)),())) (cnd (ine (len r1.1.1.k) 3) (some ((0,(0,czQ)),())) (jzV ((len r1.1.1.k),(0,(r1.1.1,())))))))):=(FnD.eq V ezM dzs (x1,())).trans (by kernel_rfl)
theorem gzd (x1:Int) (x2:Int) (x3:ItemT):jzV (x1,(x2,(x3,())))=cnd (ilt x2 x1) (cnd (inb x2 (len x3.k)) (cnd (rd (ItemT.mk false (bs []) ([]:List ItemT)) x3.k x2).l (some ((0,(0,czQ)),())) (jzV (x1,((iadd .i64 x2 1),(x3,()))))) none) (cnd (inb 0 (len x3.k)) (bnd (jzu ((rd (ItemT.mk false (bs []) ([]:List ItemT)) x3.k 0).s,())) (fun r3=>(cnd (inb 1 (len x3.k)) (bnd (jzu ((rd (ItemT.mk false (bs []) ([]:List ItemT)) x3.k 1).s,())) (fun r4=>(cnd (inb 2 (len x3.k)) (cnd (bnot r3.1.2.1) (some ((0,(0,czQ)),())) (cnd (bnot r4.1.2.1) (some ((0,(0,czQ)),())) (bnd (czF ((rd (ItemT.mk false (bs []) ([]:List ItemT)) x3.k 2).s,())) (fun r5=>(cnd (bnot r5.1.1) (some ((0,(0,czQ)),())) (some ((r3.1.1,(r4.1.1,((rd (ItemT.mk false (bs []) ([]:List ItemT)) x3.k 2).s,(true,())))),()))))))) none))) none))) none):=(FnD.eqC V ezM dzs 5 (x1,(x2,(x3,())))).trans (by kernel_rfl)
theorem yzv:CallsOk Tryz.prog gls gvs 30 qzA:=FnD.ok (F:=dzs) (cs:=ezM) V_ok (kC wzh (kC zz8 (kC jzL kN))) Tryz.func30 (by decide) (by kernel_rfl)
noncomputable def kzD:FnD:={f:=7,fn:=Tryz.f7,ps:=[pa .str,pa TAsk],rs:=[rt .str,rt .bool,rt (.int .i64)]}
noncomputable def ozI:List (Nat×Sig):=[(27,gzP),(28,szq),(29,szi),(30,qzA)]
noncomputable def czy:ByteArray×tAsk×Unit→Option ((ByteArray×Bool×Int×Unit)×Unit):=kzD.d V ozI
noncomputable abbrev oz3:Sig:=kzD.t.sig czy
theorem kzN (x1:ByteArray) (x2:tAsk):czy (x1,(x2,()))=bnd (czF (x2.2.2.1,())) (fun r2=>(cnd (bnot r2.1.1) (some (((bs []),(false,(1,()))),())) (cnd (ine (len x2.2.2.2.1) 2) (some (((bs []),(false,(1,()))),())) (bnd (izy (x2.2.2.1,(0,(x2.2.2.2.1,())))) (fun r3=>(cnd (sne r3.1.1 x1) (some (((bs []),(false,(2,()))),())) (bnd (ezt (x2.2.2.1,(x2.1,(x2.2.2.2.2.1,())))) (fun r4=>(cnd (ine r4.1.2.2.1 0) (some (((bs []),(false,((iadd .i64 10 r4.1.2.2.1),()))),())) (cnd (bnot r4.1.2.1) (cnd (igt (len x2.2.2.2.2.2.1) 0) (some (((bs []),(false,(4,()))),())) (some (((bs []),(false,(0,()))),()))) (bnd (gz8 (r4.1.1,())) (fun r5=>(cnd (bnot r5.1.2.2.2.1) (some (((bs []),(false,(3,()))),())) (bnd (ezt (r5.1.2.2.1,(x2.2.1,(x2.2.2.2.2.2.1,())))) (fun r6=>(cnd (ine r6.1.2.2.1 0) (some (((bs []),(false,((iadd .i64 20 r6.1.2.2.1),()))),())) (some ((r6.1.1,(r6.1.2.1,(0,()))),())))))))))))))))))):=(FnD.eq V ozI kzD (x1,(x2,()))).trans (by kernel_rfl)
theorem uzV:CallsOk Tryz.prog gls gvs 7 oz3:=FnD.ok (F:=kzD) (cs:=ozI) V_ok (kC jzL (kC BzL (kC Czg (kC yzv kN)))) Tryz.func7 (by decide) (by kernel_rfl)
noncomputable def ezr:FnD:={f:=31,fn:=Tryz.f31,ps:=[pa .str,pa (.int .i64),pa (.sl .str)],rs:=[rt .str],cuts:=[(5,[.val 1 (.int .i64) .sh, .val 2 (.sl .str) .sh, .val 7 .str .sh, .val 8 (.int .i64) .sh])]}
noncomputable def gzh:List (Nat×Sig):=[(64,fzG),(24,fz5),(65,nzt)]
noncomputable def izP:ByteArray×Int× (List ByteArray)×Unit→Option ((ByteArray×Unit)×Unit):=ezr.d V gzh
noncomputable abbrev szM:Sig:=ezr.t.sig izP
noncomputable def hzv:Int× (List ByteArray)×ByteArray×Int×Unit→Option ((ByteArray×Unit)×Unit):=ezr.D V gzh 5
theorem Bzo (x1:ByteArray) (x2:Int) (x3:(List ByteArray)):izP (x1,(x2,(x3,())))=cnd (igt (len x3) 5) (some (((bs []),()),())) (cnd (nn (azx .u64 (len x3))) (bnd (czl (x2,(0,((isub .i64 (ishl .i64 1 (azx .u64 (len x3))) 1),())))) (fun r3=>(cnd (bnot r3.1.1) (some (((bs []),()),())) (bnd (czT (x1,())) (fun r4=>(hzv (x2,(x3,(r4.1.1,(0,())))))))))) none):=(FnD.eq V gzh ezr (x1,(x2,(x3,())))).trans (by kernel_rfl)
theorem kz8 (x1:Int) (x2:(List ByteArray)) (x3:ByteArray) (x4:Int):hzv (x1,(x2,(x3,(x4,()))))=cnd (ilt x4 (len x2)) (cnd (nn (azx .u64 x4)) (cnd (nz 2) (cnd (ieq (irem (ishr .i64 x1 (azx .u64 x4)) 2) 1) (cnd (inb x4 (len x2)) (bnd (eza ((rd (bs []) x2 x4),(x3,()))) (fun r4=>(hzv (x1,(x2,(r4.1.1,((iadd .i64 x4 1),()))))))) none) (cnd (inb x4 (len x2)) (bnd (eza (x3,((rd (bs []) x2 x4),()))) (fun r4=>(hzv (x1,(x2,(r4.1.1,((iadd .i64 x4 1),()))))))) none)) none) none) (some ((x3,()),())):=(FnD.eqC V gzh ezr 5 (x1,(x2,(x3,(x4,()))))).trans (by kernel_rfl)
theorem BzI:CallsOk Tryz.prog gls gvs 31 szM:=FnD.ok (F:=ezr) (cs:=gzh) V_ok (kC hzm (kC izb (kC rzH kN))) Tryz.func31 (by decide) (by kernel_rfl)
noncomputable def iz2:FnD:={f:=69,fn:=Tryz.f69,ps:=[pa .str],rs:=[rt (.int .i64),rt .bool],cuts:=[(5,[.val 0 .str .sh, .val 4 (.int .i64) .sh, .val 5 (.int .i64) .sh])]}
noncomputable def lzy:List (Nat×Sig):=[(113,pzz)]
noncomputable def iz5:ByteArray×Unit→Option ((Int×Bool×Unit)×Unit):=iz2.d V lzy
noncomputable abbrev uzw:Sig:=iz2.t.sig iz5
noncomputable def gzv:ByteArray×Int×Int×Unit→Option ((Int×Bool×Unit)×Unit):=iz2.D V lzy 5
theorem IzG (x1:ByteArray):iz5 (x1,())=cnd (igt (ssz x1) 4) (some ((0,(false,())),())) (gzv (x1,zTwo)):=(FnD.eq V lzy iz2 (x1,())).trans (by kernel_rfl)
theorem wzZ (x1:ByteArray) (x2:Int) (x3:Int):gzv (x1,(x2,(x3,())))=cnd (ilt x3 (ssz x1)) (cnd (inb x3 (ssz x1)) (gzv (x1,((iadd .i64 (imul .i64 256 x2) (azx .i64 (sat x1 x3))),((iadd .i64 x3 1),())))) none) (bnd (gz0 (x2,())) (fun r3=>(cnd (sne r3.1.1 x1) (some ((0,(false,())),())) (cnd (igt x2 1000000000) (some ((0,(false,())),())) (some ((x2,(true,())),())))))):=(FnD.eqC V lzy iz2 5 (x1,(x2,(x3,())))).trans (by kernel_rfl)
theorem Azt:CallsOk Tryz.prog gls gvs 69 uzw:=FnD.ok (F:=iz2) (cs:=lzy) V_ok (kC tzy kN) Tryz.func69 (by decide) (by kernel_rfl)
noncomputable def pzw:FnD:={f:=144,fn:=Tryz.f144,ps:=[pa .str,pa (.int .i64),pa (.int .i64)],rs:=[rt (.int .i64),rt (.int .i64),rt .bool]}
noncomputable def uzz:List (Nat×Sig):=[(69,uzw)]
noncomputable def lzo:ByteArray×Int×Int×Unit→Option ((Int×Int×Bool×Unit)×Unit):=pzw.d V uzz
noncomputable abbrev zzK:Sig:=pzw.t.sig lzo
theorem zzR (x1:ByteArray) (x2:Int) (x3:Int):lzo (x1,(x2,(x3,())))=cnd (inb x2 (ssz x1)) (cnd (ile (isub .i64 (azx .i64 (sat x1 x2)) x3) 55) (some (((iadd .i64 x2 1),((isub .i64 (azx .i64 (sat x1 x2)) x3),(true,()))),())) (cnd (igt (isub .i64 (isub .i64 (azx .i64 (sat x1 x2)) x3) 55) 2) (some (czS,())) (cnd (igt (isub .i64 (isub .i64 (azx .i64 (sat x1 x2)) x3) 55) (isub .i64 (isub .i64 (ssz x1) x2) 1)) (some (czS,())) (cnd (inb2 (iadd .i64 x2 1) (iadd .i64 (iadd .i64 x2 1) (isub .i64 (isub .i64 (azx .i64 (sat x1 x2)) x3) 55)) (ssz x1)) (bnd (iz5 ((ssub x1 (iadd .i64 x2 1) (iadd .i64 (iadd .i64 x2 1) (isub .i64 (isub .i64 (azx .i64 (sat x1 x2)) x3) 55))),())) (fun r3=>(cnd r3.1.2.1 (some (((iadd .i64 (iadd .i64 x2 1) (isub .i64 (isub .i64 (azx .i64 (sat x1 x2)) x3) 55)),(r3.1.1,((igt r3.1.1 55),()))),())) (some (((iadd .i64 (iadd .i64 x2 1) (isub .i64 (isub .i64 (azx .i64 (sat x1 x2)) x3) 55)),(r3.1.1,(false,()))),()))))) none)))) none:=(FnD.eq V uzz pzw (x1,(x2,(x3,())))).trans (by kernel_rfl)
theorem Izf:CallsOk Tryz.prog gls gvs 144 zzK:=FnD.ok (F:=pzw) (cs:=uzz) V_ok (kC Azt kN) Tryz.func144 (by decide) (by kernel_rfl)
noncomputable def fzm:FnD:={f:=111,fn:=Tryz.f111,ps:=[pa .str,pa (.int .i64),pa (.int .i64)],rs:=[⟨.item,(.own 0 .sh),false⟩,rt (.int .i64),rt .bool],al:=true,joins:=[9],cuts:=[(9,[.val 0 .str .sh, .val 1 (.int .i64) .sh, .val 2 (.int .i64) .sh, .val 9 .bool .sh, .val 10 (.int .i64) .sh, .box 6 .item (.own 0 .sh), .ptr 6 6 0]),(16,[.val 0 .str .sh, .val 2 (.int .i64) .sh, .val 11 (.int .i64) .sh, .val 12 (.int .i64) .sh, .val 15 (.int .i64) .sh, .box 6 .item (.own 0 .sh), .box 14 .item (.own 0 .sh), .ptr 6 6 0, .ptr 14 14 0])]}
noncomputable def gz3:List (Nat×Sig):=[(144,zzK)]
noncomputable def ezk:ByteArray×Int×Int×Unit→Option ((ItemT×Int×Bool×Unit)×Unit):=fzm.d V gz3
noncomputable abbrev Azx:Sig:=fzm.t.sig ezk
noncomputable def gzr:ByteArray×Int×Int×Bool×Int×ItemT×Unit→Option ((ItemT×Int×Bool×Unit)×Unit):=fzm.D V gz3 9
noncomputable def fzx:ByteArray×Int×Int×Int×Int×ItemT×ItemT×Unit→Option ((ItemT×Int×Bool×Unit)×Unit):=fzm.D V gz3 16
theorem pzP (x1:ByteArray) (x2:Int) (x3:Int):ezk (x1,(x2,(x3,())))=cnd (ige x2 (ssz x1)) (some (((ItemT.mk false (bs []) ([]:List ItemT)),(0,(false,()))),())) (cnd (igt x3 4) (some (((ItemT.mk false (bs []) ([]:List ItemT)),(0,(false,()))),())) (cnd (inb x2 (ssz x1)) (cnd (ilt (sat x1 x2) 128) (cnd (inb2 x2 (iadd .i64 x2 1) (ssz x1)) (some (((ItemT.mk false (ssub x1 x2 (iadd .i64 x2 1)) ([]:List ItemT)),((iadd .i64 x2 1),(true,()))),())) none) (cnd (inb x2 (ssz x1)) (cnd (ige (sat x1 x2) 192) (gzr (x1,(x2,(x3,((ige (sat x1 x2) 192),(192,((ItemT.mk false (bs []) ([]:List ItemT)),()))))))) (gzr (x1,(x2,(x3,((ige (sat x1 x2) 192),(128,((ItemT.mk false (bs []) ([]:List ItemT)),())))))))) none)) none)):=(FnD.eq V gz3 fzm (x1,(x2,(x3,())))).trans (by kernel_rfl)
theorem rzv (x1:ByteArray) (x2:Int) (x3:Int) (x4:Bool) (x5:Int) (x6:ItemT):gzr (x1,(x2,(x3,(x4,(x5,(x6,()))))))=bnd (lzo (x1,(x2,(x5,())))) (fun r6=>(cnd (bnot r6.1.2.2.1) (some (((ItemT.mk false (bs []) ([]:List ItemT)),(0,(false,()))),())) (cnd (igt r6.1.2.1 (isub .i64 (ssz x1) r6.1.1)) (some (((ItemT.mk false (bs []) ([]:List ItemT)),(0,(false,()))),())) (cnd (bnot x4) (cnd (inb2 r6.1.1 (iadd .i64 r6.1.1 r6.1.2.1) (ssz x1)) (some (((ItemT.mk false (ssub x1 r6.1.1 (iadd .i64 r6.1.1 r6.1.2.1)) ([]:List ItemT)),((iadd .i64 r6.1.1 r6.1.2.1),(true,()))),())) none) (fzx (x1,(x3,(r6.1.1,(r6.1.2.1,(r6.1.1,(x6,((ItemT.mk true (bs []) ([]:List ItemT)),())))))))))))):=(FnD.eqC V gz3 fzm 9 (x1,(x2,(x3,(x4,(x5,(x6,()))))))).trans (by kernel_rfl)
theorem kzT (x1:ByteArray) (x2:Int) (x3:Int) (x4:Int) (x5:Int) (x6:ItemT) (x7:ItemT):fzx (x1,(x2,(x3,(x4,(x5,(x6,(x7,())))))))=cnd (ilt x5 (iadd .i64 x3 x4)) (cnd (inb2 0 (iadd .i64 x3 x4) (ssz x1)) (bnd (ezk ((ssub x1 0 (iadd .i64 x3 x4)),(x5,((iadd .i64 x2 1),())))) (fun r7=>(cnd (bnot r7.1.2.2.1) (some (((ItemT.mk false (bs []) ([]:List ItemT)),(0,(false,()))),())) (cnd (ige (len x7.k) 17) (some (((ItemT.mk false (bs []) ([]:List ItemT)),(0,(false,()))),())) (cnd (fits ((len x7.k)+(len (r7.1.1::([]:List ItemT)))) 3) (fzx (x1,(x2,(x3,(x4,(r7.1.2.1,(x6,((ItemT.mk x7.l x7.s (app x7.k (r7.1.1::([]:List ItemT)))),())))))))) none))))) none) (some ((x7,((iadd .i64 x3 x4),(true,()))),())):=(FnD.eqC V gz3 fzm 16 (x1,(x2,(x3,(x4,(x5,(x6,(x7,())))))))).trans (by kernel_rfl)
theorem Izp:CallsOk Tryz.prog gls gvs 111 Azx:=FnD.ok (F:=fzm) (cs:=gz3) V_ok (kC Izf kN) Tryz.func111 (by decide) (by kernel_rfl)
noncomputable def mzm:FnD:={f:=67,fn:=Tryz.f67,ps:=[pa .str],rs:=[⟨.item,(.own 0 .sh),false⟩,rt .bool],al:=true}
noncomputable def qzQ:List (Nat×Sig):=[(111,Azx),(91,gzY)]
noncomputable def jzS:ByteArray×Unit→Option ((ItemT×Bool×Unit)×Unit):=mzm.d V qzQ
noncomputable abbrev rzm:Sig:=mzm.t.sig jzS
theorem FzE (x1:ByteArray):jzS (x1,())=cnd (igt (ssz x1) 900) (some (((ItemT.mk false (bs []) ([]:List ItemT)),(false,())),())) (bnd (ezk (x1,zTwo)) (fun r1=>(bnd (dzW (r1.1.1,())) (fun r2=>(cnd (bnot r1.1.2.2.1) (some (((ItemT.mk false (bs []) ([]:List ItemT)),(false,())),())) (cnd (ine r1.1.2.1 (ssz x1)) (some (((ItemT.mk false (bs []) ([]:List ItemT)),(false,())),())) (cnd (bnot r2.1.2.1) (some (((ItemT.mk false (bs []) ([]:List ItemT)),(false,())),())) (cnd (sne r2.1.1 x1) (some (((ItemT.mk false (bs []) ([]:List ItemT)),(false,())),())) (some ((r1.1.1,(true,())),())))))))))):=(FnD.eq V qzQ mzm (x1,())).trans (by kernel_rfl)
theorem wzO:CallsOk Tryz.prog gls gvs 67 rzm:=FnD.ok (F:=mzm) (cs:=qzQ) V_ok (kC Izp (kC jzP kN)) Tryz.func67 (by decide) (by kernel_rfl)
noncomputable def bzQ:FnD:={f:=32,fn:=Tryz.f32,ps:=[pa .str,pa .str,pa (.sl .str)],rs:=[rt .str,rt .bool,rt (.int .i64)],joins:=[16,19],cuts:=[(16,[.val 2 (.sl .str) .sh, .val 9 (.sl (.int .i64)) .sh, .val 10 .str .sh, .val 11 (.int .i64) .sh, .val 13 .bool .sh, .box 12 .item .sh, .ptr 12 12 0]),(19,[.val 2 (.sl .str) .sh, .val 9 (.sl (.int .i64)) .sh, .val 10 .str .sh, .val 11 (.int .i64) .sh, .val 17 (.int .i64) .sh, .val 18 (.int .i64) .sh, .box 12 .item .sh, .box 16 .item .sh, .ptr 12 12 0, .ptr 16 16 0]),(8,[.val 2 (.sl .str) .sh, .val 9 (.sl (.int .i64)) .sh, .val 10 .str .sh, .val 11 (.int .i64) .sh, .val 13 .bool .sh, .box 12 .item .sh, .ptr 12 12 0])]}
noncomputable def bz7:List (Nat×Sig):=[(64,fzG),(66,ez9),(67,rzm),(24,fz5),(68,tz9)]
noncomputable def ezb:ByteArray×ByteArray× (List ByteArray)×Unit→Option ((ByteArray×Bool×Int×Unit)×Unit):=bzQ.d V bz7
noncomputable abbrev sz7:Sig:=bzQ.t.sig ezb
noncomputable def dz1:(List ByteArray)× (List Int)×ByteArray×Int×Bool×ItemT×Unit→Option ((ByteArray×Bool×Int×Unit)×Unit):=bzQ.D V bz7 16
noncomputable def czf:(List ByteArray)× (List Int)×ByteArray×Int×Int×Int×ItemT×ItemT×Unit→Option ((ByteArray×Bool×Int×Unit)×Unit):=bzQ.D V bz7 19
noncomputable def dzx:(List ByteArray)× (List Int)×ByteArray×Int×Bool×ItemT×Unit→Option ((ByteArray×Bool×Int×Unit)×Unit):=bzQ.D V bz7 8
theorem Czi (x1:ByteArray) (x2:ByteArray) (x3:(List ByteArray)):ezb (x1,(x2,(x3,())))=cnd (ine (ssz x1) 32) (some (((bs []),(false,(1,()))),())) (cnd (ine (ssz x2) 4) (some (((bs []),(false,(1,()))),())) (bnd (czl ((len x3),(1,(12,())))) (fun r3=>(cnd (bnot r3.1.1) (some (((bs []),(false,(1,()))),())) (bnd (bzH (x2,())) (fun r4=>(dzx (x3,(r4.1.1,(x1,(0,(false,((ItemT.mk false (bs []) ([]:List ItemT)),()))))))))))))):=(FnD.eq V bz7 bzQ (x1,(x2,(x3,())))).trans (by kernel_rfl)
theorem ozJ (x1:(List ByteArray)) (x2:(List Int)) (x3:ByteArray) (x4:Int) (x5:Bool) (x6:ItemT):dz1 (x1,(x2,(x3,(x4,(x5,(x6,()))))))=bnd (mzf (x6,(x2,()))) (fun r6=>(cnd (bnot x6.l) (cnd (seq x6.s (bs [])) (cnd (ieq x4 1) (cnd (bnot x5) (czf (x1,(x2,(x3,(x4,(r6.1.2.1,(1,(x6,(r6.1.1,()))))))))) (czf (x1,(x2,(x3,(x4,(r6.1.2.1,(r6.1.2.2.1,(x6,(r6.1.1,())))))))))) (czf (x1,(x2,(x3,(x4,(r6.1.2.1,(r6.1.2.2.1,(x6,(r6.1.1,())))))))))) (czf (x1,(x2,(x3,(x4,(r6.1.2.1,(r6.1.2.2.1,(x6,(r6.1.1,())))))))))) (czf (x1,(x2,(x3,(x4,(r6.1.2.1,(r6.1.2.2.1,(x6,(r6.1.1,()))))))))))):=(FnD.eqC V bz7 bzQ 16 (x1,(x2,(x3,(x4,(x5,(x6,()))))))).trans (by kernel_rfl)
theorem ozX (x1:(List ByteArray)) (x2:(List Int)) (x3:ByteArray) (x4:Int) (x5:Int) (x6:Int) (x7:ItemT) (x8:ItemT):czf (x1,(x2,(x3,(x4,(x5,(x6,(x7,(x8,()))))))))=cnd (ieq x6 3) (some (((bs []),(false,(3,()))),())) (cnd (ine x6 0) (cnd (ilt x4 (len x1)) (some (((bs []),(false,(4,()))),())) (cnd (ieq x6 2) (some ((x8.s,(true,(0,()))),())) (some (((bs []),(false,(0,()))),())))) (cnd (inb2 x5 (len x2) (len x2)) (cnd (bnot x8.l) (cnd (ine (ssz x8.s) 32) (some (((bs []),(false,(3,()))),())) (dzx (x1,((sub x2 x5 (len x2)),(x8.s,(x4,(x8.l,(x8,())))))))) (dzx (x1,((sub x2 x5 (len x2)),(x3,(x4,(x8.l,(x8,())))))))) none)):=(FnD.eqC V bz7 bzQ 19 (x1,(x2,(x3,(x4,(x5,(x6,(x7,(x8,()))))))))).trans (by kernel_rfl)
theorem qzH (x1:(List ByteArray)) (x2:(List Int)) (x3:ByteArray) (x4:Int) (x5:Bool) (x6:ItemT):dzx (x1,(x2,(x3,(x4,(x5,(x6,()))))))=cnd (bnot x5) (cnd (ige x4 (len x1)) (some (((bs []),(false,(3,()))),())) (cnd (inb x4 (len x1)) (bnd (jzS ((rd (bs []) x1 x4),())) (fun r6=>(cnd (bnot r6.1.2.1) (some (((bs []),(false,(2,()))),())) (cnd (inb x4 (len x1)) (bnd (czT ((rd (bs []) x1 x4),())) (fun r7=>(cnd (sne r7.1.1 x3) (some (((bs []),(false,(2,()))),())) (dz1 (x1,(x2,(x3,((iadd .i64 x4 1),(x5,(r6.1.1,())))))))))) none)))) none)) (dz1 (x1,(x2,(x3,(x4,(x5,(x6,()))))))):=(FnD.eqC V bz7 bzQ 8 (x1,(x2,(x3,(x4,(x5,(x6,()))))))).trans (by kernel_rfl)
theorem Cze:CallsOk Tryz.prog gls gvs 32 sz7:=FnD.ok (F:=bzQ) (cs:=bz7) V_ok (kC hzm (kC hz6 (kC wzO (kC izb (kC Azy kN))))) Tryz.func32 (by decide) (by kernel_rfl)
noncomputable def dzA:FnD:={f:=33,fn:=Tryz.f33,ps:=[pa .str],rs:=[rt (.int .i64),rt (.int .i64),rt .str,rt .bool],joins:=[3],cuts:=[(3,[.val 51 .bool .sh, .box 6 .item (.own 0 .sh), .ptr 6 6 0])]}
noncomputable def ezH:List (Nat×Sig):=[(67,rzm),(69,uzw),(64,fzG)]
noncomputable def gz9:ByteArray×Unit→Option ((Int×Int×ByteArray×Bool×Unit)×Unit):=dzA.d V ezH
noncomputable abbrev qzl:Sig:=dzA.t.sig gz9
noncomputable def czi:Bool×ItemT×Unit→Option ((Int×Int×ByteArray×Bool×Unit)×Unit):=dzA.D V ezH 3
theorem yzu (x1:ByteArray):gz9 (x1,())=bnd (jzS (x1,())) (fun r1=>(cnd (bnot r1.1.2.1) (czi (true,(r1.1.1,()))) (cnd (bnot r1.1.1.l) (czi (true,(r1.1.1,()))) (cnd (ine (len r1.1.1.k) 3) (czi (true,(r1.1.1,()))) (cnd (inb 0 (len r1.1.1.k)) (cnd (rd (ItemT.mk false (bs []) ([]:List ItemT)) r1.1.1.k 0).l (czi (true,(r1.1.1,()))) (cnd (inb 1 (len r1.1.1.k)) (cnd (rd (ItemT.mk false (bs []) ([]:List ItemT)) r1.1.1.k 1).l (czi (true,(r1.1.1,()))) (cnd (inb 2 (len r1.1.1.k)) (czi ((rd (ItemT.mk false (bs []) ([]:List ItemT)) r1.1.1.k 2).l,(r1.1.1,()))) none)) none)) none))))):=(FnD.eq V ezH dzA (x1,())).trans (by kernel_rfl)
theorem xzt (x1:Bool) (x2:ItemT):czi (x1,(x2,()))=cnd x1 (some ((0,(0,czQ)),())) (cnd (inb 0 (len x2.k)) (bnd (iz5 ((rd (ItemT.mk false (bs []) ([]:List ItemT)) x2.k 0).s,())) (fun r2=>(cnd (inb 1 (len x2.k)) (bnd (iz5 ((rd (ItemT.mk false (bs []) ([]:List ItemT)) x2.k 1).s,())) (fun r3=>(cnd (inb 2 (len x2.k)) (cnd (bnot r2.1.2.1) (some ((0,(0,czQ)),())) (cnd (bnot r3.1.2.1) (some ((0,(0,czQ)),())) (bnd (czl (r2.1.1,(0,(1000,())))) (fun r4=>(cnd (bnot r4.1.1) (some ((0,(0,czQ)),())) (cnd (ine (ssz (rd (ItemT.mk false (bs []) ([]:List ItemT)) x2.k 2).s) 32) (some ((0,(0,czQ)),())) (some ((r2.1.1,(r3.1.1,((rd (ItemT.mk false (bs []) ([]:List ItemT)) x2.k 2).s,(true,())))),())))))))) none))) none))) none):=(FnD.eqC V ezH dzA 3 (x1,(x2,()))).trans (by kernel_rfl)
theorem yzW:CallsOk Tryz.prog gls gvs 33 qzl:=FnD.ok (F:=dzA) (cs:=ezH) V_ok (kC wzO (kC Azt (kC hzm kN))) Tryz.func33 (by decide) (by kernel_rfl)
noncomputable def kzH:FnD:={f:=8,fn:=Tryz.f8,ps:=[pa .str,pa TAsk],rs:=[rt .str,rt .bool,rt (.int .i64)]}
noncomputable def ozc:List (Nat×Sig):=[(31,szM),(32,sz7),(33,qzl)]
noncomputable def izg:ByteArray×tAsk×Unit→Option ((ByteArray×Bool×Int×Unit)×Unit):=kzH.d V ozc
noncomputable abbrev vza:Sig:=kzH.t.sig izg
theorem uzL (x1:ByteArray) (x2:tAsk):izg (x1,(x2,()))=cnd (ine (ssz x2.2.2.1) 32) (some (((bs []),(false,(1,()))),())) (cnd (ine (len x2.2.2.2.1) 2) (some (((bs []),(false,(1,()))),())) (bnd (izP (x2.2.2.1,(0,(x2.2.2.2.1,())))) (fun r2=>(cnd (sne r2.1.1 x1) (some (((bs []),(false,(2,()))),())) (bnd (ezb (x2.2.2.1,(x2.1,(x2.2.2.2.2.1,())))) (fun r3=>(cnd (ine r3.1.2.2.1 0) (some (((bs []),(false,((iadd .i64 10 r3.1.2.2.1),()))),())) (cnd (bnot r3.1.2.1) (cnd (igt (len x2.2.2.2.2.2.1) 0) (some (((bs []),(false,(4,()))),())) (some (((bs []),(false,(0,()))),()))) (bnd (gz9 (r3.1.1,())) (fun r4=>(cnd (bnot r4.1.2.2.2.1) (some (((bs []),(false,(3,()))),())) (bnd (ezb (r4.1.2.2.1,(x2.2.1,(x2.2.2.2.2.2.1,())))) (fun r5=>(cnd (ine r5.1.2.2.1 0) (some (((bs []),(false,((iadd .i64 20 r5.1.2.2.1),()))),())) (some ((r5.1.1,(r5.1.2.1,(0,()))),())))))))))))))))):=(FnD.eq V ozc kzH (x1,(x2,()))).trans (by kernel_rfl)
theorem Czy:CallsOk Tryz.prog gls gvs 8 vza:=FnD.ok (F:=kzH) (cs:=ozc) V_ok (kC BzI (kC Cze (kC yzW kN))) Tryz.func8 (by decide) (by kernel_rfl)
noncomputable def izK:FnD:={f:=3,fn:=Tryz.f3,ps:=[pa (.sl (.int .u8))],rs:=[rt .bool]}
noncomputable def mzH:List (Nat×Sig):=[(5,Mz0),(6,nzM),(7,oz3),(8,vza)]
noncomputable def izR:(List Int)×Unit→Option ((Bool×Unit)×Unit):=izK.d V mzH
noncomputable abbrev Bz5:Sig:=izK.t.sig izR
theorem Az1 (x1:(List Int)):izR (x1,())=bnd (CzW (x1,())) (fun r1=>(cnd r1.1.1 (some ((true,()),())) (bnd (ezT (x1,())) (fun r2=>(bnd (czy (r2.1.1,(r2.1.2.1,()))) (fun r3=>(bnd (izg (r2.1.1,(r2.1.2.1,()))) (fun r4=>(bnd (czy (r2.1.1,((r2.1.2.1.1,(r2.1.2.1.2.1,((bs []),r2.1.2.1.2.2.2))),()))) (fun r5=>(cnd (seq r3.1.1 r4.1.1) (cnd (beqB r3.1.2.1 r4.1.2.1) (cnd (ieq r3.1.2.2.1 r4.1.2.2.1) (cnd (ieq r5.1.2.2.1 1) (cnd (ieq r3.1.2.2.1 0) (some ((true,()),())) (cnd (seq r3.1.1 (bs [])) (some (((bnot r3.1.2.1),()),())) (some ((false,()),())))) (some ((false,()),()))) (some ((false,()),()))) (some ((false,()),()))) (some ((false,()),()))))))))))))):=(FnD.eq V mzH izK (x1,())).trans (by kernel_rfl)
theorem AzT:CallsOk Tryz.prog gls gvs 3 Bz5:=FnD.ok (F:=izK) (cs:=mzH) V_ok (kC PzG (kC vzI (kC uzV (kC Czy kN)))) Tryz.func3 (by decide) (by kernel_rfl)
noncomputable def fzH:FnD:={f:=9,fn:=Tryz.f9,ps:=[pa (.sl (.int .u8))],rs:=[⟨(.sl bzc),(.own 0 (.pr .sh (.pr .sh (.pr .sh (.pr (.own 0 .sh) .sh))))),false⟩,rt .str]}
noncomputable def jzQ:List (Nat×Sig):=[(21,hz7),(25,jzh),(34,hzn)]
noncomputable def gzk:(List Int)×Unit→Option (((List azb)×ByteArray×Unit)×Unit):=fzH.d V jzQ
noncomputable abbrev ozF:Sig:=fzH.t.sig gzk
theorem xz6 (x1:(List Int)):gzk (x1,())=bnd (ezQ (x1,())) (fun r1=>(bnd (fza (r1.1.1,(((bs [97,97,97,97])::((bs [97,97,97,98])::((bs [98,111,98,98])::((bs [110,111,110,101])::([]:List ByteArray))))),()))) (fun r2=>(bnd (czJ (r2.2.1,())) (fun r3=>(some ((r3.1.1,(r2.1.1,())),()))))))):=(FnD.eq V jzQ fzH (x1,())).trans (by kernel_rfl)
theorem wzV:CallsOk Tryz.prog gls gvs 9 ozF:=FnD.ok (F:=fzH) (cs:=jzQ) V_ok (kC jz6 (kC mzg (kC lzf kN))) Tryz.func9 (by decide) (by kernel_rfl)
noncomputable def kzB:FnD:={f:=10,fn:=Tryz.f10,ps:=[pa (.sl (.int .u8))],rs:=[⟨(.sl czh),(.own 0 .sh),false⟩,rt .str]}
noncomputable def ozY:List (Nat×Sig):=[(21,hz7),(26,lzV),(35,rzj)]
noncomputable def kzp:(List Int)×Unit→Option (((List azh)×ByteArray×Unit)×Unit):=kzB.d V ozY
noncomputable abbrev vzy:Sig:=kzB.t.sig kzp
theorem Ezc (x1:(List Int)):kzp (x1,())=bnd (ezQ (x1,())) (fun r1=>(bnd (hzP (r1.1.1,())) (fun r2=>(bnd (azz (r2.2.1,())) (fun r3=>(some ((r3.1.1,(r2.1.1,())),()))))))):=(FnD.eq V ozY kzB (x1,())).trans (by kernel_rfl)
theorem Ezx:CallsOk Tryz.prog gls gvs 10 vzy:=FnD.ok (F:=kzB) (cs:=ozY) V_ok (kC jz6 (kC nz2 (kC yzd kN))) Tryz.func10 (by decide) (by kernel_rfl)
noncomputable def pzQ:FnD:={f:=73,fn:=Tryz.f73,ps:=[⟨bzU, .sh,true,true,none⟩],rs:=[rt .str],al:=true}
noncomputable def tzu:List (Nat×Sig):=[(72,tzx),(24,fz5)]
noncomputable def iz3:azi×Unit→Option ((ByteArray×Unit)×azi×Unit):=pzQ.d V tzu
noncomputable abbrev zz1:Sig:=pzQ.t.sig iz3
theorem Izc (x1:azi):iz3 (x1,())=bnd (lzN (x1,(2,()))) (fun r1=>(bnd (czT (r1.1.1,())) (fun r2=>(some ((r2.1.1,()),(r1.2.1,())))))):=(FnD.eq V tzu pzQ (x1,())).trans (by kernel_rfl)
theorem Jzo:CallsOk Tryz.prog gls gvs 73 zz1:=FnD.ok (F:=pzQ) (cs:=tzu) V_ok (kC zzy (kC izb kN)) Tryz.func73 (by decide) (by kernel_rfl)
noncomputable def pza:FnD:={f:=36,fn:=Tryz.f36,ps:=[⟨bzU, .sh,true,true,none⟩],rs:=[rt pz7],al:=true}
noncomputable def tz5:List (Nat×Sig):=[(22,bzo),(73,zz1)]
noncomputable def lzk:azi×Unit→Option ((czD×Unit)×azi×Unit):=pza.d V tz5
noncomputable abbrev tzH:Sig:=pza.t.sig lzk
theorem Jzv (x1:azi):lzk (x1,())=bnd (azy (x1,(90,()))) (fun r1=>(bnd (iz3 (r1.2.1,())) (fun r2=>(bnd (iz3 (r2.2.1,())) (fun r3=>(bnd (iz3 (r3.2.1,())) (fun r4=>(some (((r1.1.1,(r2.1.1,(r3.1.1,(r4.1.1,())))),()),(r4.2.1,())))))))))):=(FnD.eq V tz5 pza (x1,())).trans (by kernel_rfl)
theorem Azd:CallsOk Tryz.prog gls gvs 36 tzH:=FnD.ok (F:=pza) (cs:=tz5) V_ok (kC bzw (kC Jzo kN)) Tryz.func36 (by decide) (by kernel_rfl)
noncomputable def mzy:FnD:={f:=11,fn:=Tryz.f11,ps:=[pa (.sl (.int .u8))],rs:=[rt pz7]}
noncomputable def rzr:List (Nat×Sig):=[(21,hz7),(36,tzH)]
noncomputable def nzf:(List Int)×Unit→Option ((czD×Unit)×Unit):=mzy.d V rzr
noncomputable abbrev xz7:Sig:=mzy.t.sig nzf
theorem FzK (x1:(List Int)):nzf (x1,())=bnd (ezQ (x1,())) (fun r1=>(bnd (lzk (r1.1.1,())) (fun r2=>(some ((r2.1.1,()),()))))):=(FnD.eq V rzr mzy (x1,())).trans (by kernel_rfl)
theorem Gze:CallsOk Tryz.prog gls gvs 11 xz7:=FnD.ok (F:=mzy) (cs:=rzr) V_ok (kC jz6 (kC Azd kN)) Tryz.func11 (by decide) (by kernel_rfl)
noncomputable def jzm:FnD:={f:=74,fn:=Tryz.f74,ps:=[pa (.sl czh)],rs:=[rt .bool],cuts:=[(4,[.val 0 (.sl czh) .sh, .val 8 (.sl czh) .sh, .val 9 (.int .i64) .sh, .val 10 (.int .i64) .sh])]}
noncomputable def lzm:List (Nat×Sig):=[]
noncomputable def jzf:(List azh)×Unit→Option ((Bool×Unit)×Unit):=jzm.d V lzm
noncomputable abbrev pzB:Sig:=jzm.t.sig jzf
noncomputable def kzc:(List azh)× (List azh)×Int×Int×Unit→Option ((Bool×Unit)×Unit):=jzm.D V lzm 4
theorem IzS (x1:(List azh)):jzf (x1,())=cnd (igt (len x1) 12) (some ((false,()),())) (kzc (x1,(x1,((len x1),(0,()))))):=(FnD.eq V lzm jzm (x1,())).trans (by kernel_rfl)
theorem xzO (x1:(List azh)) (x2:(List azh)) (x3:Int) (x4:Int):kzc (x1,(x2,(x3,(x4,()))))=cnd (ilt x4 x3) (cnd (inb x4 (len x2)) (cnd (ine (ssz (rd bzr x2 x4).1) 4) (some ((false,()),())) (cnd (ilt (ssz (rd bzr x2 x4).2.1) 1) (some ((false,()),())) (cnd (igt (ssz (rd bzr x2 x4).2.1) 60) (some ((false,()),())) (cnd (igt x4 0) (cnd (inb (isub .i64 x4 1) (len x1)) (cnd (sge (rd bzr x1 (isub .i64 x4 1)).1 (rd bzr x2 x4).1) (some ((false,()),())) (kzc (x1,(x2,(x3,((iadd .i64 x4 1),())))))) none) (kzc (x1,(x2,(x3,((iadd .i64 x4 1),()))))))))) none) (some ((true,()),())):=(FnD.eqC V lzm jzm 4 (x1,(x2,(x3,(x4,()))))).trans (by kernel_rfl)
theorem tzA:CallsOk Tryz.prog gls gvs 74 pzB:=FnD.ok (F:=jzm) (cs:=lzm) V_ok kN Tryz.func74 (by decide) (by kernel_rfl)
noncomputable def czA:FnD:={f:=77,fn:=Tryz.f77,ps:=[pa (.sl bzc)],rs:=[rt .bool],joins:=[8],cuts:=[(8,[.val 0 (.sl bzc) .sh, .val 8 (.sl bzc) .sh, .val 9 (.int .i64) .sh, .val 10 (.int .i64) .sh, .val 20 (.int .i64) .sh, .val 21 .bool .sh, .val 22 .bool .sh, .val 32 .bool .sh, .box 4 bzc .sh, .ptr 4 4 0]),(4,[.val 0 (.sl bzc) .sh, .val 8 (.sl bzc) .sh, .val 9 (.int .i64) .sh, .val 10 (.int .i64) .sh])]}
noncomputable def cz8:List (Nat×Sig):=[(74,pzB)]
noncomputable def iz1:(List azb)×Unit→Option ((Bool×Unit)×Unit):=czA.d V cz8
noncomputable abbrev szg:Sig:=czA.t.sig iz1
noncomputable def gz7:(List azb)× (List azb)×Int×Int×Int×Bool×Bool×Bool×azb×Unit→Option ((Bool×Unit)×Unit):=czA.D V cz8 8
noncomputable def dzt:(List azb)× (List azb)×Int×Int×Unit→Option ((Bool×Unit)×Unit):=czA.D V cz8 4
theorem AzS (x1:(List azb)):iz1 (x1,())=cnd (igt (len x1) 12) (some ((false,()),())) (dzt (x1,(x1,((len x1),(0,()))))):=(FnD.eq V cz8 czA (x1,())).trans (by kernel_rfl)
theorem yzB (x1:(List azb)) (x2:(List azb)) (x3:Int) (x4:Int) (x5:Int) (x6:Bool) (x7:Bool) (x8:Bool) (x9:azb):gz7 (x1,(x2,(x3,(x4,(x5,(x6,(x7,(x8,(x9,())))))))))=cnd (ilt x9.2.1 0) (some ((false,()),())) (cnd (igt x9.2.1 1000) (some ((false,()),())) (cnd (ilt x9.2.2.1 0) (some ((false,()),())) (cnd (igt x9.2.2.1 1000000000) (some ((false,()),())) (bnd (jzf (x9.2.2.2.1,())) (fun r9=>(cnd (bnot r9.1.1) (some ((false,()),())) (dzt (x1,(x2,(x3,((iadd .i64 x4 1),()))))))))))):=(FnD.eqC V cz8 czA 8 (x1,(x2,(x3,(x4,(x5,(x6,(x7,(x8,(x9,())))))))))).trans (by kernel_rfl)
theorem qzy (x1:(List azb)) (x2:(List azb)) (x3:Int) (x4:Int):dzt (x1,(x2,(x3,(x4,()))))=cnd (ilt x4 x3) (cnd (inb x4 (len x2)) (cnd (ine (ssz (rd azL x2 x4).1) 4) (some ((false,()),())) (cnd (igt x4 0) (cnd (inb (isub .i64 x4 1) (len x1)) (cnd (sge (rd azL x1 (isub .i64 x4 1)).1 (rd azL x2 x4).1) (some ((false,()),())) (gz7 (x1,(x2,(x3,(x4,(x4,((igt x4 0),(true,((sge (rd azL x1 (isub .i64 x4 1)).1 (rd azL x2 x4).1),((rd azL x2 x4),()))))))))))) none) (gz7 (x1,(x2,(x3,(x4,(x4,((igt x4 0),(false,(false,((rd azL x2 x4),())))))))))))) none) (some ((true,()),())):=(FnD.eqC V cz8 czA 4 (x1,(x2,(x3,(x4,()))))).trans (by kernel_rfl)
theorem Bzs:CallsOk Tryz.prog gls gvs 77 szg:=FnD.ok (F:=czA) (cs:=cz8) V_ok (kC tzA kN) Tryz.func77 (by decide) (by kernel_rfl)
noncomputable def dz4:FnD:={f:=117,fn:=Tryz.f117,ps:=[pa (.sl czh),pa (.int .i64)],rs:=[rt (.int .i64)],cuts:=[(4,[.val 1 (.int .i64) .sh, .val 5 (.sl (.int .i64)) .sh, .val 6 (.int .i64) .sh, .val 19 (.sl czh) .sh, .val 20 (.int .i64) .sh, .val 21 (.int .i64) .sh])]}
noncomputable def fzU:List (Nat×Sig):=[(60,cz1),(123,tzn)]
noncomputable def fz6:(List azh)×Int×Unit→Option ((Int×Unit)×Unit):=dz4.d V fzU
noncomputable abbrev nzv:Sig:=dz4.t.sig fz6
noncomputable def hze:Int× (List Int)×Int× (List azh)×Int×Int×Unit→Option ((Int×Unit)×Unit):=dz4.D V fzU 4
theorem Bz7 (x1:(List azh)) (x2:Int):fz6 (x1,(x2,()))=cnd (inb 0 (len x1)) (bnd (bzV ((rd bzr x1 0).1,())) (fun r2=>(cnd (inb2 x2 (len r2.1.1) (len r2.1.1)) (cnd (inb2 1 (len x1) (len x1)) (hze (x2,((sub r2.1.1 x2 (len r2.1.1)),((len (sub r2.1.1 x2 (len r2.1.1))),((sub x1 1 (len x1)),((len (sub x1 1 (len x1))),(0,()))))))) none) none))) none:=(FnD.eq V fzU dz4 (x1,(x2,()))).trans (by kernel_rfl)
theorem qzw (x1:Int) (x2:(List Int)) (x3:Int) (x4:(List azh)) (x5:Int) (x6:Int):hze (x1,(x2,(x3,(x4,(x5,(x6,()))))))=cnd (ilt x6 x5) (cnd (inb x6 (len x4)) (bnd (bzV ((rd bzr x4 x6).1,())) (fun r6=>(cnd (inb2 x1 (len r6.1.1) (len r6.1.1)) (bnd (mzc (x2,((sub r6.1.1 x1 (len r6.1.1)),()))) (fun r7=>(hze (x1,(x2,((imin x3 r7.1.1),(x4,(x5,((iadd .i64 x6 1),()))))))))) none))) none) (some ((x3,()),())):=(FnD.eqC V fzU dz4 4 (x1,(x2,(x3,(x4,(x5,(x6,()))))))).trans (by kernel_rfl)
theorem sz2:CallsOk Tryz.prog gls gvs 117 nzv:=FnD.ok (F:=dz4) (cs:=fzU) V_ok (kC dzY (kC wzW kN)) Tryz.func117 (by decide) (by kernel_rfl)
noncomputable def gzI:FnD:={f:=151,fn:=Tryz.f151,ps:=[pa .item],rs:=[⟨.item,(.own 0 .sh),false⟩],al:=true,fz:=[1000021],cuts:=[(3,[.val 12 (.sl .item) .sh, .val 13 (.int .i64) .sh, .val 14 (.int .i64) .sh, .box 2 .item (.own 0 .sh), .box 3 .item (.own 0 .sh), .ptr 2 2 0, .ptr 3 3 0])]}
noncomputable def jzX:List (Nat×Sig):=[]
noncomputable def jzx:ItemT×Unit→Option ((ItemT×Unit)×Unit):=gzI.d V jzX
noncomputable abbrev wzs:Sig:=gzI.t.sig jzx
noncomputable def hz4:(List ItemT)×Int×Int×ItemT×ItemT×Unit→Option ((ItemT×Unit)×Unit):=gzI.D V jzX 3
theorem Gzp (x1:ItemT):jzx (x1,())=hz4 (x1.k,((len x1.k),(0,((ItemT.mk false (bs []) ([]:List ItemT)),((ItemT.mk x1.l x1.s ([]:List ItemT)),()))))):=(FnD.eq V jzX gzI (x1,())).trans (by kernel_rfl)
theorem uzE (x1:(List ItemT)) (x2:Int) (x3:Int) (x4:ItemT) (x5:ItemT):hz4 (x1,(x2,(x3,(x4,(x5,())))))=cnd (ilt x3 x2) (cnd (inb x3 (len x1)) (bnd (jzx ((rd (ItemT.mk false (bs []) ([]:List ItemT)) x1 x3),())) (fun r5=>(cnd (fits ((len x5.k)+(len (r5.1.1::([]:List ItemT)))) 3) (hz4 (x1,(x2,((iadd .i64 x3 1),(x4,((ItemT.mk x5.l x5.s (app x5.k (r5.1.1::([]:List ItemT)))),())))))) none))) none) (some ((x5,()),())):=(FnD.eqC V jzX gzI 3 (x1,(x2,(x3,(x4,(x5,())))))).trans (by kernel_rfl)
theorem Ez5:CallsOk Tryz.prog gls gvs 151 wzs:=FnD.ok (F:=gzI) (cs:=jzX) V_ok kN Tryz.func151 (by decide) (by kernel_rfl)
noncomputable def pz6:FnD:={f:=118,fn:=Tryz.f118,ps:=[pa .item],rs:=[⟨.item,(.own 0 .sh),false⟩],al:=true}
noncomputable def tzB:List (Nat×Sig):=[(75,gzx),(151,wzs),(58,jz5)]
noncomputable def lzi:ItemT×Unit→Option ((ItemT×Unit)×Unit):=pz6.d V tzB
noncomputable abbrev Azi:Sig:=pz6.t.sig lzi
theorem JzL (x1:ItemT):lzi (x1,())=bnd (dzM (x1,())) (fun r1=>(cnd r1.1.2.1 (cnd (ile (ssz r1.1.1) 31) (bnd (jzx (x1,())) (fun r2=>(some ((r2.1.1,()),())))) (bnd (dzg (r1.1.1,())) (fun r2=>(some (((ItemT.mk false r2.1.1 ([]:List ItemT)),()),()))))) (bnd (dzg (r1.1.1,())) (fun r2=>(some (((ItemT.mk false r2.1.1 ([]:List ItemT)),()),())))))):=(FnD.eq V tzB pz6 (x1,())).trans (by kernel_rfl)
theorem Jzw:CallsOk Tryz.prog gls gvs 118 Azi:=FnD.ok (F:=pz6) (cs:=tzB) V_ok (kC jz9 (kC Ez5 (kC lz9 kN))) Tryz.func118 (by decide) (by kernel_rfl)
noncomputable def gzK:FnD:={f:=119,fn:=Tryz.f119,ps:=[pa (.sl czh),pa (.int .i64),pa (.int .i64)],rs:=[⟨(.sl czh),(.own 0 .sh),false⟩],cuts:=[(3,[.val 1 (.int .i64) .sh, .val 2 (.int .i64) .sh, .val 7 (.sl czh) (.own 0 .sh), .val 10 (.sl czh) .sh, .val 11 (.int .i64) .sh, .val 12 (.int .i64) .sh])]}
noncomputable def kzl:List (Nat×Sig):=[(60,cz1)]
noncomputable def kzf:(List azh)×Int×Int×Unit→Option (((List azh)×Unit)×Unit):=gzK.d V kzl
noncomputable abbrev qz0:Sig:=gzK.t.sig kzf
noncomputable def fzn:Int×Int× (List azh)× (List azh)×Int×Int×Unit→Option (((List azh)×Unit)×Unit):=gzK.D V kzl 3
theorem Gzk (x1:(List azh)) (x2:Int) (x3:Int):kzf (x1,(x2,(x3,())))=fzn (x2,(x3,(([]:List azh),(x1,((len x1),(0,())))))):=(FnD.eq V kzl gzK (x1,(x2,(x3,())))).trans (by kernel_rfl)
theorem uzU (x1:Int) (x2:Int) (x3:(List azh)) (x4:(List azh)) (x5:Int) (x6:Int):fzn (x1,(x2,(x3,(x4,(x5,(x6,()))))))=cnd (ilt x6 x5) (cnd (inb x6 (len x4)) (bnd (bzV ((rd bzr x4 x6).1,())) (fun r6=>(cnd (inb x1 (len r6.1.1)) (cnd (ieq (rd 0 r6.1.1 x1) x2) (cnd (fits ((len x3)+(len ((rd bzr x4 x6)::([]:List azh)))) 2) (fzn (x1,(x2,((app x3 ((rd bzr x4 x6)::([]:List azh))),(x4,(x5,((iadd .i64 x6 1),()))))))) none) (fzn (x1,(x2,(x3,(x4,(x5,((iadd .i64 x6 1),())))))))) none))) none) (some ((x3,()),())):=(FnD.eqC V kzl gzK 3 (x1,(x2,(x3,(x4,(x5,(x6,()))))))).trans (by kernel_rfl)
theorem xzS:CallsOk Tryz.prog gls gvs 119 qz0:=FnD.ok (F:=gzK) (cs:=kzl) V_ok (kC dzY kN) Tryz.func119 (by decide) (by kernel_rfl)
noncomputable def fzp:FnD:={f:=76,fn:=Tryz.f76,ps:=[pa (.sl czh),pa (.int .i64)],rs:=[⟨.item,(.own 0 .sh),false⟩],al:=true,fz:=[1000076,1000075,1000072],cuts:=[(13,[.val 0 (.sl czh) .sh, .val 1 (.int .i64) .sh, .val 64 (.int .i64) .sh, .box 4 .item (.own 0 .sh), .box 11 .item (.own 0 .sh), .ptr 4 4 0, .ptr 11 11 0])]}
noncomputable def hz8:List (Nat×Sig):=[(60,cz1),(116,nzg),(117,nzv),(118,Azi),(119,qz0)]
noncomputable def bz9:(List azh)×Int×Unit→Option ((ItemT×Unit)×Unit):=fzp.d V hz8
noncomputable abbrev ozW:Sig:=fzp.t.sig bz9
noncomputable def ezG:(List azh)×Int×Int×ItemT×ItemT×Unit→Option ((ItemT×Unit)×Unit):=fzp.D V hz8 13
theorem ozN (x1:(List azh)) (x2:Int):bz9 (x1,(x2,()))=cnd (ieq (len x1) 0) (some (((ItemT.mk false (bs []) ([]:List ItemT)),()),())) (cnd (inb 0 (len x1)) (bnd (bzV ((rd bzr x1 0).1,())) (fun r2=>(cnd (inb2 x2 (len r2.1.1) (len r2.1.1)) (cnd (ieq (len x1) 1) (bnd (cz3 ((sub r2.1.1 x2 (len r2.1.1)),(true,()))) (fun r3=>(cnd (inb 0 (len x1)) (some (((ItemT.mk true (bs []) ((ItemT.mk false r3.1.1 ([]:List ItemT))::((ItemT.mk false (rd bzr x1 0).2.1 ([]:List ItemT))::([]:List ItemT)))),()),())) none))) (bnd (fz6 (x1,(x2,()))) (fun r3=>(cnd (igt r3.1.1 0) (cnd (inb2 0 r3.1.1 (len (sub r2.1.1 x2 (len r2.1.1)))) (bnd (cz3 ((sub (sub r2.1.1 x2 (len r2.1.1)) 0 r3.1.1),(false,()))) (fun r4=>(bnd (bz9 (x1,((iadd .i64 x2 r3.1.1),()))) (fun r5=>(bnd (lzi (r5.1.1,())) (fun r6=>(some (((ItemT.mk true (bs []) ((ItemT.mk false r4.1.1 ([]:List ItemT))::(r6.1.1::([]:List ItemT)))),()),())))))))) none) (ezG (x1,(x2,(0,((ItemT.mk false (bs []) ([]:List ItemT)),((ItemT.mk true (bs []) ([]:List ItemT)),())))))))))) none))) none):=(FnD.eq V hz8 fzp (x1,(x2,()))).trans (by kernel_rfl)
theorem qzg (x1:(List azh)) (x2:Int) (x3:Int) (x4:ItemT) (x5:ItemT):ezG (x1,(x2,(x3,(x4,(x5,())))))=cnd (ilt x3 16) (bnd (kzf (x1,(x2,(x3,())))) (fun r5=>(bnd (bz9 (r5.1.1,((iadd .i64 x2 1),()))) (fun r6=>(bnd (lzi (r6.1.1,())) (fun r7=>(cnd (fits ((len x5.k)+(len (r7.1.1::([]:List ItemT)))) 3) (ezG (x1,(x2,((iadd .i64 x3 1),(x4,((ItemT.mk x5.l x5.s (app x5.k (r7.1.1::([]:List ItemT)))),())))))) none))))))) (cnd (fits ((len x5.k)+(len ((ItemT.mk false (bs []) ([]:List ItemT))::([]:List ItemT)))) 3) (some (((ItemT.mk x5.l x5.s (app x5.k ((ItemT.mk false (bs []) ([]:List ItemT))::([]:List ItemT)))),()),())) none):=(FnD.eqC V hz8 fzp 13 (x1,(x2,(x3,(x4,(x5,())))))).trans (by kernel_rfl)
theorem uzM:CallsOk Tryz.prog gls gvs 76 ozW:=FnD.ok (F:=fzp) (cs:=hz8) V_ok (kC dzY (kC szd (kC sz2 (kC Jzw (kC xzS kN))))) Tryz.func76 (by decide) (by kernel_rfl)
noncomputable def nzy:FnD:={f:=38,fn:=Tryz.f38,ps:=[pa (.sl czh)],rs:=[rt .str]}
noncomputable def rze:List (Nat×Sig):=[(74,pzB),(76,ozW),(75,gzx),(58,jz5)]
noncomputable def ez7:(List azh)×Unit→Option ((ByteArray×Unit)×Unit):=nzy.d V rze
noncomputable abbrev nzs:Sig:=nzy.t.sig ez7
theorem Fzn (x1:(List azh)):ez7 (x1,())=bnd (jzf (x1,())) (fun r1=>(cnd (bnot r1.1.1) (some (((bs []),()),())) (bnd (bz9 (x1,(0,()))) (fun r2=>(bnd (dzM (r2.1.1,())) (fun r3=>(bnd (dzg (r3.1.1,())) (fun r4=>(some ((r4.1.1,()),())))))))))):=(FnD.eq V rze nzy (x1,())).trans (by kernel_rfl)
theorem rzq:CallsOk Tryz.prog gls gvs 38 nzs:=FnD.ok (F:=nzy) (cs:=rze) V_ok (kC tzA (kC uzM (kC jz9 (kC lz9 kN)))) Tryz.func38 (by decide) (by kernel_rfl)
noncomputable def hzp:FnD:={f:=78,fn:=Tryz.f78,ps:=[pa bzc],rs:=[rt .str]}
noncomputable def lzd:List (Nat×Sig):=[(110,pzl),(38,nzs),(75,gzx)]
noncomputable def ezx:azb×Unit→Option ((ByteArray×Unit)×Unit):=hzp.d V lzd
noncomputable abbrev qzI:Sig:=hzp.t.sig ezx
theorem qzu (x1:azb):ezx (x1,())=bnd (gzJ (x1.2.1,())) (fun r1=>(bnd (gzJ (x1.2.2.1,())) (fun r2=>(bnd (ez7 (x1.2.2.2.1,())) (fun r3=>(bnd (dzM ((ItemT.mk true (bs []) ((ItemT.mk false r1.1.1 ([]:List ItemT))::((ItemT.mk false r2.1.1 ([]:List ItemT))::((ItemT.mk false r3.1.1 ([]:List ItemT))::([]:List ItemT))))),())) (fun r4=>(some ((r4.1.1,()),()))))))))):=(FnD.eq V lzd hzp (x1,())).trans (by kernel_rfl)
theorem yzE:CallsOk Tryz.prog gls gvs 78 qzI:=FnD.ok (F:=hzp) (cs:=lzd) V_ok (kC uzx (kC rzq (kC jz9 kN))) Tryz.func78 (by decide) (by kernel_rfl)
noncomputable def fzh:FnD:={f:=39,fn:=Tryz.f39,ps:=[pa (.sl bzc)],rs:=[⟨(.sl czh),(.own 0 .sh),false⟩],cuts:=[(5,[.val 3 (.sl czh) (.own 0 .sh), .val 9 (.sl bzc) .sh, .val 10 (.int .i64) .sh, .val 11 (.int .i64) .sh])]}
noncomputable def hz5:List (Nat×Sig):=[(77,szg),(78,qzI)]
noncomputable def dzL:(List azb)×Unit→Option (((List azh)×Unit)×Unit):=fzh.d V hz5
noncomputable abbrev nz1:Sig:=fzh.t.sig dzL
noncomputable def gzm:(List azh)× (List azb)×Int×Int×Unit→Option (((List azh)×Unit)×Unit):=fzh.D V hz5 5
theorem vzs (x1:(List azb)):dzL (x1,())=bnd (iz1 (x1,())) (fun r1=>(cnd (bnot r1.1.1) (some ((([]:List azh),()),())) (gzm (([]:List azh),(x1,((len x1),(0,()))))))):=(FnD.eq V hz5 fzh (x1,())).trans (by kernel_rfl)
theorem izQ (x1:(List azh)) (x2:(List azb)) (x3:Int) (x4:Int):gzm (x1,(x2,(x3,(x4,()))))=cnd (ilt x4 x3) (cnd (inb x4 (len x2)) (bnd (ezx ((rd azL x2 x4),())) (fun r4=>(cnd (fits ((len x1)+(len (((rd azL x2 x4).1,(r4.1.1,()))::([]:List azh)))) 2) (gzm ((app x1 (((rd azL x2 x4).1,(r4.1.1,()))::([]:List azh))),(x2,(x3,((iadd .i64 x4 1),()))))) none))) none) (some ((x1,()),())):=(FnD.eqC V hz5 fzh 5 (x1,(x2,(x3,(x4,()))))).trans (by kernel_rfl)
theorem vzu:CallsOk Tryz.prog gls gvs 39 nz1:=FnD.ok (F:=fzh) (cs:=hz5) V_ok (kC Bzs (kC yzE kN)) Tryz.func39 (by decide) (by kernel_rfl)
noncomputable def BzA:FnD:={f:=173,fn:=Tryz.f173,ps:=[pa (.int .i64)],rs:=[rt .bool]}
noncomputable def Fzv:List (Nat×Sig):=[]
noncomputable def xz1:Int×Unit→Option ((Bool×Unit)×Unit):=BzA.d V Fzv
noncomputable abbrev LzB:Sig:=BzA.t.sig xz1
theorem Qzd (x1:Int):xz1 (x1,())=cnd (ige x1 0) (some (((ilt x1 12107),()),())) (some ((false,()),())):=(FnD.eq V Fzv BzA (x1,())).trans (by kernel_rfl)
theorem Pz5:CallsOk Tryz.prog gls gvs 173 LzB:=FnD.ok (F:=BzA) (cs:=Fzv) V_ok kN Tryz.func173 (by decide) (by kernel_rfl)
noncomputable def kzt:FnD:={f:=176,fn:=Tryz.f176,ps:=[pa (.int .i64),pa (.int .i64)],rs:=[rt (.int .i64)]}
noncomputable def ozO:List (Nat×Sig):=[]
noncomputable def fzF:Int×Int×Unit→Option ((Int×Unit)×Unit):=kzt.d V ozO
noncomputable abbrev kzz:Sig:=kzt.t.sig fzF
theorem Ezo (x1:Int) (x2:Int):fzF (x1,(x2,()))=cnd (nz x2) (cnd (ilt (irem x1 x2) 0) (some (((iadd .i64 (irem x1 x2) x2),()),())) (some (((irem x1 x2),()),()))) none:=(FnD.eq V ozO kzt (x1,(x2,()))).trans (by kernel_rfl)
theorem ozi:CallsOk Tryz.prog gls gvs 176 kzz:=FnD.ok (F:=kzt) (cs:=ozO) V_ok kN Tryz.func176 (by decide) (by kernel_rfl)
noncomputable def BzK:FnD:={f:=189,fn:=Tryz.f189,ps:=[pa (.int .i64)],rs:=[rt (.int .i64)]}
noncomputable def Gzz:List (Nat×Sig):=[(176,kzz)]
noncomputable def izj:Int×Unit→Option ((Int×Unit)×Unit):=BzK.d V Gzz
noncomputable abbrev BzV:Sig:=BzK.t.sig izj
theorem QzT (x1:Int):izj (x1,())=bnd (fzF (x1,(12107,()))) (fun r1=>(some ((r1.1.1,()),()))):=(FnD.eq V Gzz BzK (x1,())).trans (by kernel_rfl)
theorem FzY:CallsOk Tryz.prog gls gvs 189 BzV:=FnD.ok (F:=BzK) (cs:=Gzz) V_ok (kC ozi kN) Tryz.func189 (by decide) (by kernel_rfl)
noncomputable def vzT:FnD:={f:=174,fn:=Tryz.f174,ps:=[pa (.int .i64),pa (.int .i64)],rs:=[rt (.int .i64)]}
noncomputable def Czr:List (Nat×Sig):=[(189,BzV)]
noncomputable def eze:Int×Int×Unit→Option ((Int×Unit)×Unit):=vzT.d V Czr
noncomputable abbrev tzm:Sig:=vzT.t.sig eze
theorem OzH (x1:Int) (x2:Int):eze (x1,(x2,()))=bnd (izj (x1,())) (fun r2=>(bnd (izj (x2,())) (fun r3=>(bnd (izj ((imul .i64 r2.1.1 r3.1.1),())) (fun r4=>(some ((r4.1.1,()),()))))))):=(FnD.eq V Czr vzT (x1,(x2,()))).trans (by kernel_rfl)
theorem vzV:CallsOk Tryz.prog gls gvs 174 tzm:=FnD.ok (F:=vzT) (cs:=Czr) V_ok (kC FzY kN) Tryz.func174 (by decide) (by kernel_rfl)
noncomputable def vzW:FnD:={f:=190,fn:=Tryz.f190,ps:=[pa (.int .i64),pa (.int .i64)],rs:=[rt (.int .i64)]}
noncomputable def BzE:List (Nat×Sig):=[(189,BzV)]
noncomputable def sz6:Int×Int×Unit→Option ((Int×Unit)×Unit):=vzW.d V BzE
noncomputable abbrev Az7:Sig:=vzW.t.sig sz6
theorem Oz2 (x1:Int) (x2:Int):sz6 (x1,(x2,()))=bnd (izj (x1,())) (fun r2=>(bnd (izj (x2,())) (fun r3=>(bnd (izj ((iadd .i64 r2.1.1 r3.1.1),())) (fun r4=>(some ((r4.1.1,()),()))))))):=(FnD.eq V BzE vzW (x1,(x2,()))).trans (by kernel_rfl)
theorem GzW:CallsOk Tryz.prog gls gvs 190 Az7:=FnD.ok (F:=vzW) (cs:=BzE) V_ok (kC FzY kN) Tryz.func190 (by decide) (by kernel_rfl)
noncomputable def pzs:FnD:={f:=175,fn:=Tryz.f175,ps:=[pa (.int .i64)],rs:=[rt (.int .i64)]}
noncomputable def tzL:List (Nat×Sig):=[(174,tzm),(190,Az7)]
noncomputable def pzb:Int×Unit→Option ((Int×Unit)×Unit):=pzs.d V tzL
noncomputable abbrev Azb:Sig:=pzs.t.sig pzb
theorem IzF (x1:Int):pzb (x1,())=bnd (eze (x1,(x1,()))) (fun r1=>(bnd (eze (r1.1.1,(x1,()))) (fun r2=>(bnd (sz6 (r2.1.1,(x1,()))) (fun r3=>(some ((r3.1.1,()),()))))))):=(FnD.eq V tzL pzs (x1,())).trans (by kernel_rfl)
theorem IzT:CallsOk Tryz.prog gls gvs 175 Azb:=FnD.ok (F:=pzs) (cs:=tzL) V_ok (kC vzV (kC GzW kN)) Tryz.func175 (by decide) (by kernel_rfl)
noncomputable def pzc:FnD:={f:=152,fn:=Tryz.f152,ps:=[pa az4],rs:=[rt .bool]}
noncomputable def uze:List (Nat×Sig):=[(173,LzB),(174,tzm),(175,Azb)]
noncomputable def jzn:azm×Unit→Option ((Bool×Unit)×Unit):=pzc.d V uze
noncomputable abbrev pzE:Sig:=pzc.t.sig jzn
theorem IzQ (x1:azm):jzn (x1,())=cnd x1.2.2.1 (cnd (ieq x1.1 0) (some (((ieq x1.2.1 0),()),())) (some ((false,()),()))) (bnd (xz1 (x1.1,())) (fun r1=>(cnd r1.1.1 (bnd (xz1 (x1.2.1,())) (fun r2=>(cnd r2.1.1 (bnd (eze (x1.2.1,(x1.2.1,()))) (fun r3=>(bnd (pzb (x1.1,())) (fun r4=>(some (((ieq r3.1.1 r4.1.1),()),())))))) (some ((false,()),()))))) (some ((false,()),()))))):=(FnD.eq V uze pzc (x1,())).trans (by kernel_rfl)
theorem tzE:CallsOk Tryz.prog gls gvs 152 pzE:=FnD.ok (F:=pzc) (cs:=uze) V_ok (kC Pz5 (kC vzV (kC IzT kN))) Tryz.func152 (by decide) (by kernel_rfl)
noncomputable def vz7:FnD:={f:=192,fn:=Tryz.f192,ps:=[pa (.int .i64),pa (.int .i64)],rs:=[rt (.int .i64)]}
noncomputable def BzF:List (Nat×Sig):=[(189,BzV)]
noncomputable def izW:Int×Int×Unit→Option ((Int×Unit)×Unit):=vz7.d V BzF
noncomputable abbrev Bzc:Sig:=vz7.t.sig izW
theorem OzG (x1:Int) (x2:Int):izW (x1,(x2,()))=bnd (izj (x1,())) (fun r2=>(bnd (izj (x2,())) (fun r3=>(bnd (izj ((isub .i64 r2.1.1 r3.1.1),())) (fun r4=>(some ((r4.1.1,()),()))))))):=(FnD.eq V BzF vz7 (x1,(x2,()))).trans (by kernel_rfl)
theorem HzN:CallsOk Tryz.prog gls gvs 192 Bzc:=FnD.ok (F:=vz7) (cs:=BzF) V_ok (kC FzY kN) Tryz.func192 (by decide) (by kernel_rfl)
noncomputable def dzS:FnD:={f:=199,fn:=Tryz.f199,ps:=[pa (.int .i64),pa (.int .i64),pa (.int .i64)],rs:=[rt (.int .i64)],joins:=[6],cuts:=[(6,[.val 0 (.int .i64) .sh, .val 1 (.int .i64) .sh, .val 2 (.int .i64) .sh, .val 7 (.int .i64) .sh]),(3,[.val 0 (.int .i64) .sh, .val 1 (.int .i64) .sh, .val 2 (.int .i64) .sh, .val 7 (.int .i64) .sh])]}
noncomputable def ez2:List (Nat×Sig):=[(176,kzz)]
noncomputable def jzT:Int×Int×Int×Unit→Option ((Int×Unit)×Unit):=dzS.d V ez2
noncomputable abbrev xzJ:Sig:=dzS.t.sig jzT
noncomputable def ozb:Int×Int×Int×Int×Unit→Option ((Int×Unit)×Unit):=dzS.D V ez2 6
noncomputable def kzQ:Int×Int×Int×Int×Unit→Option ((Int×Unit)×Unit):=dzS.D V ez2 3
theorem FzI (x1:Int) (x2:Int) (x3:Int):jzT (x1,(x2,(x3,())))=bnd (fzF (x1,(x3,()))) (fun r3=>(kzQ (r3.1.1,(x2,(x3,(1,())))))):=(FnD.eq V ez2 dzS (x1,(x2,(x3,())))).trans (by kernel_rfl)
theorem uz3 (x1:Int) (x2:Int) (x3:Int) (x4:Int):ozb (x1,(x2,(x3,(x4,()))))=cnd (nz x3) (cnd (nz 2) (kzQ ((irem (imul .i64 x1 x1) x3),((iquo .i64 x2 2),(x3,(x4,()))))) none) none:=(FnD.eqC V ez2 dzS 6 (x1,(x2,(x3,(x4,()))))).trans (by kernel_rfl)
theorem Dzr (x1:Int) (x2:Int) (x3:Int) (x4:Int):kzQ (x1,(x2,(x3,(x4,()))))=cnd (igt x2 0) (cnd (nz 2) (cnd (ieq (irem x2 2) 1) (cnd (nz x3) (ozb (x1,(x2,(x3,((irem (imul .i64 x4 x1) x3),()))))) none) (ozb (x1,(x2,(x3,(x4,())))))) none) (some ((x4,()),())):=(FnD.eqC V ez2 dzS 3 (x1,(x2,(x3,(x4,()))))).trans (by kernel_rfl)
theorem Fzj:CallsOk Tryz.prog gls gvs 199 xzJ:=FnD.ok (F:=dzS) (cs:=ez2) V_ok (kC ozi kN) Tryz.func199 (by decide) (by kernel_rfl)
noncomputable def wza:FnD:={f:=197,fn:=Tryz.f197,ps:=[pa (.int .i64)],rs:=[rt (.int .i64)]}
noncomputable def AzU:List (Nat×Sig):=[(199,xzJ)]
noncomputable def szo:Int×Unit→Option ((Int×Unit)×Unit):=wza.d V AzU
noncomputable abbrev Hze:Sig:=wza.t.sig szo
theorem OzN (x1:Int):szo (x1,())=bnd (jzT (x1,(12105,(12107,())))) (fun r1=>(some ((r1.1.1,()),()))):=(FnD.eq V AzU wza (x1,())).trans (by kernel_rfl)
theorem NzO:CallsOk Tryz.prog gls gvs 197 Hze:=FnD.ok (F:=wza) (cs:=AzU) V_ok (kC Fzj kN) Tryz.func197 (by decide) (by kernel_rfl)
noncomputable def pz2:FnD:={f:=191,fn:=Tryz.f191,ps:=[pa az4,pa az4],rs:=[rt (.int .i64),rt .bool]}
noncomputable def tzz:List (Nat×Sig):=[(192,Bzc),(197,Hze),(174,tzm),(190,Az7)]
noncomputable def pzT:azm×azm×Unit→Option ((Int×Bool×Unit)×Unit):=pz2.d V tzz
noncomputable abbrev zzS:Sig:=pz2.t.sig pzT
theorem JzD (x1:azm) (x2:azm):pzT (x1,(x2,()))=cnd (ine x1.1 x2.1) (bnd (izW (x2.2.1,(x1.2.1,()))) (fun r2=>(bnd (izW (x2.1,(x1.1,()))) (fun r3=>(bnd (szo (r3.1.1,())) (fun r4=>(bnd (eze (r2.1.1,(r4.1.1,()))) (fun r5=>(some ((r5.1.1,(true,())),())))))))))) (cnd (ine x1.2.1 x2.2.1) (some ((0,(false,())),())) (cnd (ieq x1.2.1 0) (some ((0,(false,())),())) (bnd (eze (x1.1,(x1.1,()))) (fun r2=>(bnd (eze (3,(r2.1.1,()))) (fun r3=>(bnd (sz6 (r3.1.1,(1,()))) (fun r4=>(bnd (eze (2,(x1.2.1,()))) (fun r5=>(bnd (szo (r5.1.1,())) (fun r6=>(bnd (eze (r4.1.1,(r6.1.1,()))) (fun r7=>(some ((r7.1.1,(true,())),())))))))))))))))):=(FnD.eq V tzz pz2 (x1,(x2,()))).trans (by kernel_rfl)
theorem Jzp:CallsOk Tryz.prog gls gvs 191 zzS:=FnD.ok (F:=pz2) (cs:=tzz) V_ok (kC HzN (kC NzO (kC vzV (kC GzW kN)))) Tryz.func191 (by decide) (by kernel_rfl)
noncomputable def HzA:FnD:={f:=177,fn:=Tryz.f177,ps:=[pa az4,pa az4],rs:=[rt az4]}
noncomputable def MzJ:List (Nat×Sig):=[(191,zzS),(174,tzm),(192,Bzc)]
noncomputable def zz7:azm×azm×Unit→Option ((azm×Unit)×Unit):=HzA.d V MzJ
noncomputable abbrev PzE:Sig:=HzA.t.sig zz7
theorem iAdd_b (x1:azm) (x2:azm):zz7 (x1,(x2,()))=cnd x1.2.2.1 (some ((x2,()),())) (cnd x2.2.2.1 (some ((x1,()),())) (bnd (pzT (x1,(x2,()))) (fun r2=>(cnd (bnot r2.1.2.1) (some (((0,(0,(true,()))),()),())) (bnd (eze (r2.1.1,(r2.1.1,()))) (fun r3=>(bnd (izW (r3.1.1,(x1.1,()))) (fun r4=>(bnd (izW (r4.1.1,(x2.1,()))) (fun r5=>(bnd (izW (x1.1,(r5.1.1,()))) (fun r6=>(bnd (eze (r2.1.1,(r6.1.1,()))) (fun r7=>(bnd (izW (r7.1.1,(x1.2.1,()))) (fun r8=>(some (((r5.1.1,(r8.1.1,(false,()))),()),())))))))))))))))))):=(FnD.eq V MzJ HzA (x1,(x2,()))).trans (by kernel_rfl)
theorem iAdd_k:CallsOk Tryz.prog gls gvs 177 PzE:=FnD.ok (F:=HzA) (cs:=MzJ) V_ok (kC Jzp (kC vzV (kC HzN kN))) Tryz.func177 (by decide) (by kernel_rfl)
noncomputable def ezh:FnD:={f:=153,fn:=Tryz.f153,ps:=[pa (.int .i64),pa az4],rs:=[rt az4],cuts:=[(5,[.val 0 (.int .i64) .sh, .box 3 az4 .sh, .box 4 az4 .sh, .box 5 az4 .sh, .ptr 3 3 0, .ptr 4 4 0, .ptr 5 5 0])]}
noncomputable def gzl:List (Nat×Sig):=[(152,pzE),(176,kzz),(177,PzE)]
noncomputable def izN:Int×azm×Unit→Option ((azm×Unit)×Unit):=ezh.d V gzl
noncomputable abbrev szx:Sig:=ezh.t.sig izN
noncomputable def ezD:Int×azm×azm×azm×Unit→Option ((azm×Unit)×Unit):=ezh.D V gzl 5
theorem BzT (x1:Int) (x2:azm):izN (x1,(x2,()))=bnd (jzn (x2,())) (fun r2=>(cnd (bnot r2.1.1) (some (((0,(0,(true,()))),()),())) (bnd (fzF (x1,(12108,()))) (fun r3=>(ezD (r3.1.1,(x2,(czS,((0,(0,(true,()))),()))))))))):=(FnD.eq V gzl ezh (x1,(x2,()))).trans (by kernel_rfl)
theorem qzv (x1:Int) (x2:azm) (x3:azm) (x4:azm):ezD (x1,(x2,(x3,(x4,()))))=cnd (igt x1 0) (cnd (nz 2) (cnd (ieq (irem x1 2) 1) (bnd (zz7 (x4,(x2,()))) (fun r4=>(bnd (zz7 (x2,(x2,()))) (fun r5=>(cnd (nz 2) (ezD ((iquo .i64 x1 2),(r5.1.1,(x3,(r4.1.1,()))))) none))))) (bnd (zz7 (x2,(x2,()))) (fun r4=>(cnd (nz 2) (ezD ((iquo .i64 x1 2),(r4.1.1,(x3,(x4,()))))) none)))) none) (some ((x4,()),())):=(FnD.eqC V gzl ezh 5 (x1,(x2,(x3,(x4,()))))).trans (by kernel_rfl)
theorem Bzm:CallsOk Tryz.prog gls gvs 153 szx:=FnD.ok (F:=ezh) (cs:=gzl) V_ok (kC tzE (kC ozi (kC iAdd_k kN))) Tryz.func153 (by decide) (by kernel_rfl)
noncomputable def pzv:FnD:={f:=120,fn:=Tryz.f120,ps:=[pa az4],rs:=[rt .bool]}
noncomputable def tzQ:List (Nat×Sig):=[(152,pzE),(153,szx)]
noncomputable def pzD:azm×Unit→Option ((Bool×Unit)×Unit):=pzv.d V tzQ
noncomputable abbrev zzN:Sig:=pzv.t.sig pzD
theorem Iz4 (x1:azm):pzD (x1,())=bnd (jzn (x1,())) (fun r1=>(cnd r1.1.1 (bnd (izN (1009,(x1,()))) (fun r2=>(some ((r2.1.1.2.2.1,()),())))) (some ((false,()),())))):=(FnD.eq V tzQ pzv (x1,())).trans (by kernel_rfl)
theorem Izk:CallsOk Tryz.prog gls gvs 120 zzN:=FnD.ok (F:=pzv) (cs:=tzQ) V_ok (kC tzE (kC Bzm kN)) Tryz.func120 (by decide) (by kernel_rfl)
noncomputable def dzu:FnD:={f:=79,fn:=Tryz.f79,ps:=[pa azr],rs:=[rt .bool],cuts:=[(4,[.val 10 (.sl az4) .sh, .val 11 (.int .i64) .sh, .val 12 (.int .i64) .sh])]}
noncomputable def ezO:List (Nat×Sig):=[(120,zzN)]
noncomputable def hzz:azl×Unit→Option ((Bool×Unit)×Unit):=dzu.d V ezO
noncomputable abbrev qzP:Sig:=dzu.t.sig hzz
noncomputable def dzN:(List azm)×Int×Int×Unit→Option ((Bool×Unit)×Unit):=dzu.D V ezO 4
theorem yzK (x1:azl):hzz (x1,())=cnd (ine (len x1.1) 8) (some ((false,()),())) (dzN (x1.1,((len x1.1),(0,())))):=(FnD.eq V ezO dzu (x1,())).trans (by kernel_rfl)
theorem ozT (x1:(List azm)) (x2:Int) (x3:Int):dzN (x1,(x2,(x3,())))=cnd (ilt x3 x2) (cnd (inb x3 (len x1)) (cnd (rd czS x1 x3).2.2.1 (some ((false,()),())) (bnd (pzD ((rd czS x1 x3),())) (fun r3=>(cnd (bnot r3.1.1) (some ((false,()),())) (dzN (x1,(x2,((iadd .i64 x3 1),())))))))) none) (some ((true,()),())):=(FnD.eqC V ezO dzu 4 (x1,(x2,(x3,())))).trans (by kernel_rfl)
theorem yzC:CallsOk Tryz.prog gls gvs 79 qzP:=FnD.ok (F:=dzu) (cs:=ezO) V_ok (kC Izk kN) Tryz.func79 (by decide) (by kernel_rfl)
noncomputable def kzr:FnD:={f:=121,fn:=Tryz.f121,ps:=[pa az4],rs:=[rt .str]}
noncomputable def ozo:List (Nat×Sig):=[(152,pzE)]
noncomputable def kzu:azm×Unit→Option ((ByteArray×Unit)×Unit):=kzr.d V ozo
noncomputable abbrev vzq:Sig:=kzr.t.sig kzu
theorem Dzo (x1:azm):kzu (x1,())=bnd (jzn (x1,())) (fun r1=>(cnd (bnot r1.1.1) (some (((bs []),()),())) (cnd x1.2.2.1 (some (((bs [0,0,0]),()),())) (cnd (nn 8) (cnd (nz 2) (some (((sof ((azx .u8 (ishr .i64 (iadd .i64 x1.1 1) 8))::((azx .u8 (iadd .i64 x1.1 1))::((azx .u8 (irem x1.2.1 2))::([]:List Int))))),()),())) none) none)))):=(FnD.eq V ozo kzr (x1,())).trans (by kernel_rfl)
theorem DzS:CallsOk Tryz.prog gls gvs 121 vzq:=FnD.ok (F:=kzr) (cs:=ozo) V_ok (kC tzE kN) Tryz.func121 (by decide) (by kernel_rfl)
noncomputable def gzQ:FnD:={f:=80,fn:=Tryz.f80,ps:=[pa azr],rs:=[⟨(.sl .str),(.own 0 .sh),false⟩],cuts:=[(3,[.val 3 (.sl .str) (.own 0 .sh), .val 7 (.sl az4) .sh, .val 8 (.int .i64) .sh, .val 9 (.int .i64) .sh])]}
noncomputable def jz4:List (Nat×Sig):=[(121,vzq)]
noncomputable def mzp:azl×Unit→Option (((List ByteArray)×Unit)×Unit):=gzQ.d V jz4
noncomputable abbrev xza:Sig:=gzQ.t.sig mzp
noncomputable def kzP:(List ByteArray)× (List azm)×Int×Int×Unit→Option (((List ByteArray)×Unit)×Unit):=gzQ.D V jz4 3
theorem Gzr (x1:azl):mzp (x1,())=kzP (([]:List ByteArray),(x1.1,((len x1.1),(0,())))):=(FnD.eq V jz4 gzQ (x1,())).trans (by kernel_rfl)
theorem vzo (x1:(List ByteArray)) (x2:(List azm)) (x3:Int) (x4:Int):kzP (x1,(x2,(x3,(x4,()))))=cnd (ilt x4 x3) (cnd (inb x4 (len x2)) (bnd (kzu ((rd czS x2 x4),())) (fun r4=>(cnd (fits ((len x1)+(len (r4.1.1::([]:List ByteArray)))) 1) (kzP ((app x1 (r4.1.1::([]:List ByteArray))),(x2,(x3,((iadd .i64 x4 1),()))))) none))) none) (some ((x1,()),())):=(FnD.eqC V jz4 gzQ 3 (x1,(x2,(x3,(x4,()))))).trans (by kernel_rfl)
theorem Gza:CallsOk Tryz.prog gls gvs 80 xza:=FnD.ok (F:=gzQ) (cs:=jz4) V_ok (kC DzS kN) Tryz.func80 (by decide) (by kernel_rfl)
noncomputable def bza:FnD:={f:=37,fn:=Tryz.f37,ps:=[pa (.sl .str)],rs:=[⟨(.sl (.sl .str)),(.own 0 .sh),false⟩],al:=true,fz:=[37,62],cuts:=[(3,[.val 3 (.sl .str) (.own 0 .sh), .val 9 (.sl .str) .sh, .val 10 (.int .i64) .sh, .val 11 (.int .i64) .sh]),(7,[.val 3 (.sl .str) (.own 0 .sh)]),(13,[.val 3 (.sl .str) .sh, .val 6 (.sl (.sl .str)) (.own 0 .sh), .val 7 (.sl .str) (.own 0 .sh), .val 8 (.int .i64) .sh]),(10,[.val 3 (.sl .str) .sh, .val 6 (.sl (.sl .str)) (.own 0 .sh)])]}
noncomputable def bzh:List (Nat×Sig):=[(58,jz5),(59,mzN)]
noncomputable def dzT:(List ByteArray)×Unit→Option (((List (List ByteArray))×Unit)×Unit):=bza.d V bzh
noncomputable abbrev jzR:Sig:=bza.t.sig dzT
noncomputable def dzh:(List ByteArray)× (List ByteArray)×Int×Int×Unit→Option (((List (List ByteArray))×Unit)×Unit):=bza.D V bzh 3
noncomputable def bzG:(List ByteArray)×Unit→Option (((List (List ByteArray))×Unit)×Unit):=bza.D V bzh 7
noncomputable def czU:(List ByteArray)× (List (List ByteArray))× (List ByteArray)×Int×Unit→Option (((List (List ByteArray))×Unit)×Unit):=bza.D V bzh 13
noncomputable def bzz:(List ByteArray)× (List (List ByteArray))×Unit→Option (((List (List ByteArray))×Unit)×Unit):=bza.D V bzh 10
theorem yzm (x1:(List ByteArray)):dzT (x1,())=dzh (([]:List ByteArray),(x1,((len x1),(0,())))):=(FnD.eq V bzh bza (x1,())).trans (by kernel_rfl)
theorem nzH (x1:(List ByteArray)) (x2:(List ByteArray)) (x3:Int) (x4:Int):dzh (x1,(x2,(x3,(x4,()))))=cnd (ilt x4 x3) (cnd (inb x4 (len x2)) (bnd (dzg ((rd (bs []) x2 x4),())) (fun r4=>(cnd (fits ((len x1)+(len (r4.1.1::([]:List ByteArray)))) 1) (dzh ((app x1 (r4.1.1::([]:List ByteArray))),(x2,(x3,((iadd .i64 x4 1),()))))) none))) none) (bzG (x1,())):=(FnD.eqC V bzh bza 3 (x1,(x2,(x3,(x4,()))))).trans (by kernel_rfl)
theorem nzN (x1:(List ByteArray)):bzG (x1,())=cnd (ieq (len x1) 0) (bnd (dzg ((bs []),())) (fun r1=>(cnd (fits ((len x1)+(len (r1.1.1::([]:List ByteArray)))) 1) (bzG ((app x1 (r1.1.1::([]:List ByteArray))),())) none))) (cnd (ine (iand .i64 (len x1) (isub .i64 (len x1) 1)) 0) (bnd (dzg ((bs []),())) (fun r1=>(cnd (fits ((len x1)+(len (r1.1.1::([]:List ByteArray)))) 1) (bzG ((app x1 (r1.1.1::([]:List ByteArray))),())) none))) (bzz (x1,((x1::([]:List (List ByteArray))),())))):=(FnD.eqC V bzh bza 7 (x1,())).trans (by kernel_rfl)
theorem mzl (x1:(List ByteArray)) (x2:(List (List ByteArray))) (x3:(List ByteArray)) (x4:Int):czU (x1,(x2,(x3,(x4,()))))=cnd (ilt x4 (len x1)) (cnd (inb x4 (len x1)) (cnd (inb (iadd .i64 x4 1) (len x1)) (bnd (ezc ((rd (bs []) x1 x4),((rd (bs []) x1 (iadd .i64 x4 1)),()))) (fun r4=>(cnd (fits ((len x3)+(len (r4.1.1::([]:List ByteArray)))) 1) (czU (x1,(x2,((app x3 (r4.1.1::([]:List ByteArray))),((iadd .i64 x4 2),()))))) none))) none) none) (cnd (fits ((len x2)+(len (x3::([]:List (List ByteArray))))) 1) (bzz (x3,((app x2 (x3::([]:List (List ByteArray)))),()))) none):=(FnD.eqC V bzh bza 13 (x1,(x2,(x3,(x4,()))))).trans (by kernel_rfl)
theorem lzU (x1:(List ByteArray)) (x2:(List (List ByteArray))):bzz (x1,(x2,()))=cnd (igt (len x1) 1) (czU (x1,(x2,(([]:List ByteArray),(0,()))))) (some ((x2,()),())):=(FnD.eqC V bzh bza 10 (x1,(x2,()))).trans (by kernel_rfl)
theorem oz5:CallsOk Tryz.prog gls gvs 37 jzR:=FnD.ok (F:=bza) (cs:=bzh) V_ok (kC lz9 (kC rzK kN)) Tryz.func37 (by decide) (by kernel_rfl)
noncomputable def szY:FnD:={f:=12,fn:=Tryz.f12,ps:=[pa (.sl .str)],rs:=[rt .str]}
noncomputable def xzX:List (Nat×Sig):=[(37,jzR)]
noncomputable def lz1:(List ByteArray)×Unit→Option ((ByteArray×Unit)×Unit):=szY.d V xzX
noncomputable abbrev tzo:Sig:=szY.t.sig lz1
theorem JzW (x1:(List ByteArray)):lz1 (x1,())=cnd (igt (len x1) 32) (some (((bs []),()),())) (bnd (dzT (x1,())) (fun r1=>(cnd (inb (isub .i64 (len r1.1.1) 1) (len r1.1.1)) (cnd (inb 0 (len (rd ([]:List ByteArray) r1.1.1 (isub .i64 (len r1.1.1) 1)))) (some (((rd (bs []) (rd ([]:List ByteArray) r1.1.1 (isub .i64 (len r1.1.1) 1)) 0),()),())) none) none))):=(FnD.eq V xzX szY (x1,())).trans (by kernel_rfl)
theorem xzn:CallsOk Tryz.prog gls gvs 12 tzo:=FnD.ok (F:=szY) (cs:=xzX) V_ok (kC oz5 kN) Tryz.func12 (by decide) (by kernel_rfl)
noncomputable def ezU:FnD:={f:=40,fn:=Tryz.f40,ps:=[pa azr],rs:=[rt .str]}
noncomputable def izl:List (Nat×Sig):=[(79,qzP),(80,xza),(12,tzo)]
noncomputable def dzd:azl×Unit→Option ((ByteArray×Unit)×Unit):=ezU.d V izl
noncomputable abbrev nzJ:Sig:=ezU.t.sig dzd
theorem vzC (x1:azl):dzd (x1,())=bnd (hzz (x1,())) (fun r1=>(cnd (bnot r1.1.1) (some (((bs []),()),())) (bnd (mzp (x1,())) (fun r2=>(bnd (lz1 (r2.1.1,())) (fun r3=>(some ((r3.1.1,()),())))))))):=(FnD.eq V izl ezU (x1,())).trans (by kernel_rfl)
theorem vzJ:CallsOk Tryz.prog gls gvs 40 nzJ:=FnD.ok (F:=ezU) (cs:=izl) V_ok (kC yzC (kC Gza (kC xzn kN))) Tryz.func40 (by decide) (by kernel_rfl)
noncomputable def szf:FnD:={f:=122,fn:=Tryz.f122,ps:=[pa (.int .i64)],rs:=[rt .bool]}
noncomputable def yzq:List (Nat×Sig):=[]
noncomputable def tzg:Int×Unit→Option ((Bool×Unit)×Unit):=szf.d V yzq
noncomputable abbrev CzQ:Sig:=szf.t.sig tzg
theorem Mzz (x1:Int):tzg (x1,())=cnd (ige x1 0) (some (((ile x1 10000),()),())) (some ((false,()),())):=(FnD.eq V yzq szf (x1,())).trans (by kernel_rfl)
theorem KzD:CallsOk Tryz.prog gls gvs 122 CzQ:=FnD.ok (F:=szf) (cs:=yzq) V_ok kN Tryz.func122 (by decide) (by kernel_rfl)
noncomputable def sz0:FnD:={f:=81,fn:=Tryz.f81,ps:=[pa pz7],rs:=[rt .bool]}
noncomputable def wzf:List (Nat×Sig):=[(122,CzQ),(27,gzP)]
noncomputable def tzc:czD×Unit→Option ((Bool×Unit)×Unit):=sz0.d V wzf
noncomputable abbrev DzL:Sig:=sz0.t.sig tzc
theorem Lze (x1:czD):tzc (x1,())=bnd (tzg (x1.1,())) (fun r1=>(cnd r1.1.1 (bnd (czF (x1.2.1,())) (fun r2=>(cnd r2.1.1 (bnd (czF (x1.2.2.1,())) (fun r3=>(cnd r3.1.1 (bnd (czF (x1.2.2.2.1,())) (fun r4=>(some ((r4.1.1,()),())))) (some ((false,()),()))))) (some ((false,()),()))))) (some ((false,()),())))):=(FnD.eq V wzf sz0 (x1,())).trans (by kernel_rfl)
theorem MzX:CallsOk Tryz.prog gls gvs 81 DzL:=FnD.ok (F:=sz0) (cs:=wzf) V_ok (kC KzD (kC jzL kN)) Tryz.func81 (by decide) (by kernel_rfl)
noncomputable def jzw:FnD:={f:=82,fn:=Tryz.f82,ps:=[pa (.int .i64)],rs:=[rt .str],cuts:=[(2,[.val 0 (.int .i64) .sh, .val 3 (.sl (.int .u8)) (.own 0 .sh)])]}
noncomputable def lzO:List (Nat×Sig):=[]
noncomputable def pzX:Int×Unit→Option ((ByteArray×Unit)×Unit):=jzw.d V lzO
noncomputable abbrev zzz:Sig:=jzw.t.sig pzX
noncomputable def kzk:Int× (List Int)×Unit→Option ((ByteArray×Unit)×Unit):=jzw.D V lzO 2
theorem Jzd (x1:Int):pzX (x1,())=kzk (x1,(([]:List Int),())):=(FnD.eq V lzO jzw (x1,())).trans (by kernel_rfl)
theorem wzd (x1:Int) (x2:(List Int)):kzk (x1,(x2,()))=cnd (igt x1 127) (cnd (nz 128) (cnd (fits ((len x2)+(len ((azx .u8 (iadd .i64 128 (irem x1 128)))::([]:List Int)))) 1) (cnd (nz 128) (kzk ((iquo .i64 x1 128),((app x2 ((azx .u8 (iadd .i64 128 (irem x1 128)))::([]:List Int))),()))) none) none) none) (cnd (fits ((len x2)+(len ((azx .u8 x1)::([]:List Int)))) 1) (some (((sof (app x2 ((azx .u8 x1)::([]:List Int)))),()),())) none):=(FnD.eqC V lzO jzw 2 (x1,(x2,()))).trans (by kernel_rfl)
theorem Izg:CallsOk Tryz.prog gls gvs 82 zzz:=FnD.ok (F:=jzw) (cs:=lzO) V_ok kN Tryz.func82 (by decide) (by kernel_rfl)
noncomputable def nzc:FnD:={f:=41,fn:=Tryz.f41,ps:=[pa pz7],rs:=[rt .str]}
noncomputable def rzb:List (Nat×Sig):=[(81,DzL),(82,zzz),(12,tzo)]
noncomputable def mzK:czD×Unit→Option ((ByteArray×Unit)×Unit):=nzc.d V rzb
noncomputable abbrev wzQ:Sig:=nzc.t.sig mzK
theorem Gzv (x1:czD):mzK (x1,())=bnd (tzc (x1,())) (fun r1=>(cnd (bnot r1.1.1) (some (((bs []),()),())) (bnd (pzX (x1.1,())) (fun r2=>(bnd (lz1 ((r2.1.1::(x1.2.1::(x1.2.2.1::(x1.2.2.2.1::([]:List ByteArray))))),())) (fun r3=>(some ((r3.1.1,()),())))))))):=(FnD.eq V rzb nzc (x1,())).trans (by kernel_rfl)
theorem FzB:CallsOk Tryz.prog gls gvs 41 wzQ:=FnD.ok (F:=nzc) (cs:=rzb) V_ok (kC MzX (kC Izg (kC xzn kN))) Tryz.func41 (by decide) (by kernel_rfl)
noncomputable def hzf:FnD:={f:=13,fn:=Tryz.f13,ps:=[pa (.sl bzc),pa azr,pa azr,pa pz7],rs:=[⟨(.sl .str),(.own 0 .sh),false⟩]}
noncomputable def kz4:List (Nat×Sig):=[(39,nz1),(38,nzs),(40,nzJ),(41,wzQ)]
noncomputable def czK:(List azb)×azl×azl×czD×Unit→Option (((List ByteArray)×Unit)×Unit):=hzf.d V kz4
noncomputable abbrev lzb:Sig:=hzf.t.sig czK
theorem qzt (x1:(List azb)) (x2:azl) (x3:azl) (x4:czD):czK (x1,(x2,(x3,(x4,()))))=bnd (dzL (x1,())) (fun r4=>(bnd (ez7 (r4.1.1,())) (fun r5=>(bnd (dzd (x2,())) (fun r6=>(bnd (dzd (x3,())) (fun r7=>(bnd (mzK (x4,())) (fun r8=>(some (((r5.1.1::(r6.1.1::(r7.1.1::(r8.1.1::([]:List ByteArray))))),()),()))))))))))):=(FnD.eq V kz4 hzf (x1,(x2,(x3,(x4,()))))).trans (by kernel_rfl)
theorem qzh:CallsOk Tryz.prog gls gvs 13 lzb:=FnD.ok (F:=hzf) (cs:=kz4) V_ok (kC vzu (kC rzq (kC vzJ (kC FzB kN)))) Tryz.func13 (by decide) (by kernel_rfl)
noncomputable def gzT:FnD:={f:=42,fn:=Tryz.f42,ps:=[pa (.sl .str),pa (.int .i64)],rs:=[⟨(.sl .str),(.own 0 .sh),false⟩],cuts:=[(6,[.val 1 (.int .i64) .sh, .val 5 (.sl .str) (.own 0 .sh), .val 28 (.sl (.sl .str)) (.own 0 .sh), .val 29 (.int .i64) .sh, .val 30 (.int .i64) .sh])]}
noncomputable def jz2:List (Nat×Sig):=[(37,jzR)]
noncomputable def jzI:(List ByteArray)×Int×Unit→Option (((List ByteArray)×Unit)×Unit):=gzT.d V jz2
noncomputable abbrev xzA:Sig:=gzT.t.sig jzI
noncomputable def oz0:Int× (List ByteArray)× (List (List ByteArray))×Int×Int×Unit→Option (((List ByteArray)×Unit)×Unit):=gzT.D V jz2 6
theorem Fzo (x1:(List ByteArray)) (x2:Int):jzI (x1,(x2,()))=cnd (igt (len x1) 32) (some ((([]:List ByteArray),()),())) (cnd (ilt x2 0) (some ((([]:List ByteArray),()),())) (cnd (ige x2 (len x1)) (some ((([]:List ByteArray),()),())) (bnd (dzT (x1,())) (fun r2=>(cnd (inb2 0 (isub .i64 (len r2.1.1) 1) (len r2.1.1)) (oz0 (x2,(([]:List ByteArray),((sub r2.1.1 0 (isub .i64 (len r2.1.1) 1)),((len (sub r2.1.1 0 (isub .i64 (len r2.1.1) 1))),(0,())))))) none))))):=(FnD.eq V jz2 gzT (x1,(x2,()))).trans (by kernel_rfl)
theorem ozS (x1:Int) (x2:(List ByteArray)) (x3:(List (List ByteArray))) (x4:Int) (x5:Int):oz0 (x1,(x2,(x3,(x4,(x5,())))))=cnd (ilt x5 x4) (cnd (inb x5 (len x3)) (cnd (inb (ixor .i64 x1 1) (len (rd ([]:List ByteArray) x3 x5))) (cnd (fits ((len x2)+(len ((rd (bs []) (rd ([]:List ByteArray) x3 x5) (ixor .i64 x1 1))::([]:List ByteArray)))) 1) (cnd (nz 2) (oz0 ((iquo .i64 x1 2),((app x2 ((rd (bs []) (rd ([]:List ByteArray) x3 x5) (ixor .i64 x1 1))::([]:List ByteArray))),(x3,(x4,((iadd .i64 x5 1),())))))) none) none) none) none) (some ((x2,()),())):=(FnD.eqC V jz2 gzT 6 (x1,(x2,(x3,(x4,(x5,())))))).trans (by kernel_rfl)
theorem Fzb:CallsOk Tryz.prog gls gvs 42 xzA:=FnD.ok (F:=gzT) (cs:=jz2) V_ok (kC oz5 kN) Tryz.func42 (by decide) (by kernel_rfl)
noncomputable def fzr:FnD:={f:=83,fn:=Tryz.f83,ps:=[⟨(.sl .str),(.own 0 .sh),false,false,none⟩,pa (.sl czh),pa (.sl (.int .i64)),pa (.int .i64),pa .bool],rs:=[⟨(.sl .str),(.own 0 .sh),false⟩],joins:=[4],fz:=[1000059],cuts:=[(4,[.val 0 (.sl .str) (.own 0 .sh), .val 1 (.sl czh) .sh, .val 2 (.sl (.int .i64)) .sh, .val 3 (.int .i64) .sh])]}
noncomputable def hzJ:List (Nat×Sig):=[(76,ozW),(75,gzx),(117,nzv),(119,qz0),(60,cz1),(123,tzn)]
noncomputable def dzU:(List ByteArray)× (List azh)× (List Int)×Int×Bool×Unit→Option (((List ByteArray)×Unit)×Unit):=fzr.d V hzJ
noncomputable abbrev uz8:Sig:=fzr.t.sig dzU
noncomputable def cz6:(List ByteArray)× (List azh)× (List Int)×Int×Unit→Option (((List ByteArray)×Unit)×Unit):=fzr.D V hzJ 4
theorem CzK (x1:(List ByteArray)) (x2:(List azh)) (x3:(List Int)) (x4:Int) (x5:Bool):dzU (x1,(x2,(x3,(x4,(x5,())))))=bnd (bz9 (x2,(x4,()))) (fun r5=>(bnd (dzM (r5.1.1,())) (fun r6=>(cnd x5 (cnd (fits ((len x1)+(len (r6.1.1::([]:List ByteArray)))) 1) (cz6 ((app x1 (r6.1.1::([]:List ByteArray))),(x2,(x3,(x4,()))))) none) (cnd (igt (ssz r6.1.1) 31) (cnd (fits ((len x1)+(len (r6.1.1::([]:List ByteArray)))) 1) (cz6 ((app x1 (r6.1.1::([]:List ByteArray))),(x2,(x3,(x4,()))))) none) (cz6 (x1,(x2,(x3,(x4,())))))))))):=(FnD.eq V hzJ fzr (x1,(x2,(x3,(x4,(x5,())))))).trans (by kernel_rfl)
theorem Bzr (x1:(List ByteArray)) (x2:(List azh)) (x3:(List Int)) (x4:Int):cz6 (x1,(x2,(x3,(x4,()))))=cnd (ilt (len x2) 2) (some ((x1,()),())) (bnd (fz6 (x2,(x4,()))) (fun r4=>(cnd (ieq r4.1.1 0) (cnd (inb x4 (len x3)) (bnd (kzf (x2,(x4,((rd 0 x3 x4),())))) (fun r5=>(bnd (dzU (x1,(r5.1.1,(x3,((iadd .i64 x4 1),(false,())))))) (fun r6=>(some ((r6.1.1,()),())))))) none) (cnd (inb2 x4 (len x3) (len x3)) (cnd (inb 0 (len x2)) (bnd (bzV ((rd bzr x2 0).1,())) (fun r5=>(cnd (inb2 x4 (len r5.1.1) (len r5.1.1)) (bnd (mzc ((sub x3 x4 (len x3)),((sub r5.1.1 x4 (len r5.1.1)),()))) (fun r6=>(cnd (ilt r6.1.1 r4.1.1) (some ((x1,()),())) (bnd (dzU (x1,(x2,(x3,((iadd .i64 x4 r4.1.1),(false,())))))) (fun r7=>(some ((r7.1.1,()),()))))))) none))) none) none)))):=(FnD.eqC V hzJ fzr 4 (x1,(x2,(x3,(x4,()))))).trans (by kernel_rfl)
theorem DzF:CallsOk Tryz.prog gls gvs 83 uz8:=FnD.ok (F:=fzr) (cs:=hzJ) V_ok (kC uzM (kC jz9 (kC sz2 (kC xzS (kC dzY (kC wzW kN)))))) Tryz.func83 (by decide) (by kernel_rfl)
noncomputable def kzK:FnD:={f:=43,fn:=Tryz.f43,ps:=[pa (.sl czh),pa .str],rs:=[⟨(.sl .str),(.own 0 .sh),false⟩]}
noncomputable def oz4:List (Nat×Sig):=[(74,pzB),(60,cz1),(83,uz8)]
noncomputable def hzO:(List azh)×ByteArray×Unit→Option (((List ByteArray)×Unit)×Unit):=kzK.d V oz4
noncomputable abbrev vzb:Sig:=kzK.t.sig hzO
theorem Ezm (x1:(List azh)) (x2:ByteArray):hzO (x1,(x2,()))=cnd (ine (ssz x2) 4) (some ((([]:List ByteArray),()),())) (bnd (jzf (x1,())) (fun r2=>(cnd (bnot r2.1.1) (some ((([]:List ByteArray),()),())) (bnd (bzV (x2,())) (fun r3=>(bnd (dzU (([]:List ByteArray),(x1,(r3.1.1,(0,(true,())))))) (fun r4=>(some ((r4.1.1,()),()))))))))):=(FnD.eq V oz4 kzK (x1,(x2,()))).trans (by kernel_rfl)
theorem Dzf:CallsOk Tryz.prog gls gvs 43 vzb:=FnD.ok (F:=kzK) (cs:=oz4) V_ok (kC tzA (kC dzY (kC DzF kN))) Tryz.func43 (by decide) (by kernel_rfl)
noncomputable def iz8:FnD:={f:=44,fn:=Tryz.f44,ps:=[pa (.sl bzc),pa .str],rs:=[rt (.sl czh),rt .bool],al:=true,cuts:=[(2,[.val 1 .str .sh, .val 8 (.sl bzc) .sh, .val 9 (.int .i64) .sh, .val 10 (.int .i64) .sh])]}
noncomputable def lzJ:List (Nat×Sig):=[]
noncomputable def pzm:(List azb)×ByteArray×Unit→Option (((List azh)×Bool×Unit)×Unit):=iz8.d V lzJ
noncomputable abbrev zzk:Sig:=iz8.t.sig pzm
noncomputable def nzi:ByteArray× (List azb)×Int×Int×Unit→Option (((List azh)×Bool×Unit)×Unit):=iz8.D V lzJ 2
theorem Izu (x1:(List azb)) (x2:ByteArray):pzm (x1,(x2,()))=nzi (x2,(x1,((len x1),(0,())))):=(FnD.eq V lzJ iz8 (x1,(x2,()))).trans (by kernel_rfl)
theorem yzo (x1:ByteArray) (x2:(List azb)) (x3:Int) (x4:Int):nzi (x1,(x2,(x3,(x4,()))))=cnd (ilt x4 x3) (cnd (inb x4 (len x2)) (cnd (seq (rd azL x2 x4).1 x1) (some (((rd azL x2 x4).2.2.2.1,(true,())),())) (nzi (x1,(x2,(x3,((iadd .i64 x4 1),())))))) none) (some ((([]:List azh),(false,())),())):=(FnD.eqC V lzJ iz8 2 (x1,(x2,(x3,(x4,()))))).trans (by kernel_rfl)
theorem IzP:CallsOk Tryz.prog gls gvs 44 zzk:=FnD.ok (F:=iz8) (cs:=lzJ) V_ok kN Tryz.func44 (by decide) (by kernel_rfl)
noncomputable def pzJ:FnD:={f:=14,fn:=Tryz.f14,ps:=[pa (.sl bzc),pa azr,pa azr,pa pz7,pa .str,pa .str],rs:=[⟨TAsk,(.pr .sh (.pr .sh (.pr .sh (.pr (.own 0 .sh) (.pr (.own 0 .sh) (.pr (.own 0 .sh) .sh)))))),false⟩]}
noncomputable def uzl:List (Nat×Sig):=[(39,nz1),(38,nzs),(13,lzb),(42,xzA),(43,vzb),(44,zzk)]
noncomputable def jzp:(List azb)×azl×azl×czD×ByteArray×ByteArray×Unit→Option ((tAsk×Unit)×Unit):=pzJ.d V uzl
noncomputable abbrev zzs:Sig:=pzJ.t.sig jzp
theorem zza (x1:(List azb)) (x2:azl) (x3:azl) (x4:czD) (x5:ByteArray) (x6:ByteArray):jzp (x1,(x2,(x3,(x4,(x5,(x6,()))))))=bnd (dzL (x1,())) (fun r6=>(bnd (ez7 (r6.1.1,())) (fun r7=>(bnd (czK (x1,(x2,(x3,(x4,()))))) (fun r8=>(bnd (jzI (r8.1.1,(0,()))) (fun r9=>(bnd (dzL (x1,())) (fun r10=>(bnd (hzO (r10.1.1,(x5,()))) (fun r11=>(bnd (pzm (x1,(x5,()))) (fun r12=>(cnd r12.1.2.1 (bnd (hzO (r12.1.1,(x6,()))) (fun r13=>(some (((x5,(x6,(r7.1.1,(r9.1.1,(r11.1.1,(r13.1.1,())))))),()),())))) (some (((x5,(x6,(r7.1.1,(r9.1.1,(r11.1.1,(([]:List ByteArray),())))))),()),())))))))))))))))):=(FnD.eq V uzl pzJ (x1,(x2,(x3,(x4,(x5,(x6,()))))))).trans (by kernel_rfl)
theorem IzV:CallsOk Tryz.prog gls gvs 14 zzs:=FnD.ok (F:=pzJ) (cs:=uzl) V_ok (kC vzu (kC rzq (kC qzh (kC Fzb (kC Dzf (kC IzP kN)))))) Tryz.func14 (by decide) (by kernel_rfl)
noncomputable def zzg:FnD:={f:=15,fn:=Tryz.f15,ps:=[pa (.sl czh),pa .str],rs:=[rt .str,rt .bool],cuts:=[(2,[.val 0 (.sl czh) .sh, .val 1 .str .sh, .val 6 (.int .i64) .sh])]}
noncomputable def CzP:List (Nat×Sig):=[]
noncomputable def Hzb:(List azh)×ByteArray×Unit→Option ((ByteArray×Bool×Unit)×Unit):=zzg.d V CzP
noncomputable abbrev PzW:Sig:=zzg.t.sig Hzb
noncomputable def Bzd:(List azh)×ByteArray×Int×Unit→Option ((ByteArray×Bool×Unit)×Unit):=zzg.D V CzP 2
theorem wGot_b (x1:(List azh)) (x2:ByteArray):Hzb (x1,(x2,()))=Bzd (x1,(x2,(0,()))):=(FnD.eq V CzP zzg (x1,(x2,()))).trans (by kernel_rfl)
theorem Kz6 (x1:(List azh)) (x2:ByteArray) (x3:Int):Bzd (x1,(x2,(x3,())))=cnd (ilt x3 (len x1)) (cnd (inb x3 (len x1)) (cnd (seq (rd bzr x1 x3).1 x2) (cnd (inb x3 (len x1)) (some (((rd bzr x1 x3).2.1,(true,())),())) none) (Bzd (x1,(x2,((iadd .i64 x3 1),()))))) none) (some (czQ,())):=(FnD.eqC V CzP zzg 2 (x1,(x2,(x3,())))).trans (by kernel_rfl)
theorem wGot_k:CallsOk Tryz.prog gls gvs 15 PzW:=FnD.ok (F:=zzg) (cs:=CzP) V_ok kN Tryz.func15 (by decide) (by kernel_rfl)
noncomputable def cz0:FnD:={f:=125,fn:=Tryz.f125,ps:=[pa (.int .i64)],rs:=[⟨(.sl (.int .i64)),(.own 0 .sh),false⟩],joins:=[4],cuts:=[(4,[.val 3 (.int .i64) .sh]),(6,[.val 3 (.int .i64) .sh, .val 4 (.sl (.int .i64)) (.own 0 .sh), .val 5 (.int .i64) .sh])]}
noncomputable def dzR:List (Nat×Sig):=[]
noncomputable def ozk:Int×Unit→Option (((List Int)×Unit)×Unit):=cz0.d V dzR
noncomputable abbrev uzK:Sig:=cz0.t.sig ozk
noncomputable def nzd:Int×Unit→Option (((List Int)×Unit)×Unit):=cz0.D V dzR 4
noncomputable def mzB:Int× (List Int)×Int×Unit→Option (((List Int)×Unit)×Unit):=cz0.D V dzR 6
theorem Pzt (x1:Int):ozk (x1,())=cnd (nz 1000) (cnd (ilt (irem x1 1000) 0) (nzd ((iadd .i64 (irem x1 1000) 1000),())) (nzd ((irem x1 1000),()))) none:=(FnD.eq V dzR cz0 (x1,())).trans (by kernel_rfl)
theorem Ozp (x1:Int):nzd (x1,())=mzB (x1,(([]:List Int),(0,()))):=(FnD.eqC V dzR cz0 4 (x1,())).trans (by kernel_rfl)
theorem Pza (x1:Int) (x2:(List Int)) (x3:Int):mzB (x1,(x2,(x3,())))=cnd (ilt x3 8) (cnd (nz 1007) (cnd (fits ((len x2)+(len ((iadd .i64 1 (irem (iadd .i64 (iadd .i64 (imul .i64 x1 31) (imul .i64 x3 57)) 7) 1007))::([]:List Int)))) 1) (mzB (x1,((app x2 ((iadd .i64 1 (irem (iadd .i64 (iadd .i64 (imul .i64 x1 31) (imul .i64 x3 57)) 7) 1007))::([]:List Int))),((iadd .i64 x3 1),())))) none) none) (some ((x2,()),())):=(FnD.eqC V dzR cz0 6 (x1,(x2,(x3,())))).trans (by kernel_rfl)
theorem EzU:CallsOk Tryz.prog gls gvs 125 uzK:=FnD.ok (F:=cz0) (cs:=dzR) V_ok kN Tryz.func125 (by decide) (by kernel_rfl)
noncomputable def Bzv:FnD:={f:=158,fn:=Tryz.f158,ps:=[pa (.int .i64)],rs:=[rt (.int .i64)]}
noncomputable def EzY:List (Nat×Sig):=[]
noncomputable def FzF:Int×Unit→Option ((Int×Unit)×Unit):=Bzv.d V EzY
noncomputable abbrev Kzg:Sig:=Bzv.t.sig FzF
theorem RzA (x1:Int):FzF (x1,())=cnd (nz 1009) (cnd (ilt (irem x1 1009) 0) (some (((iadd .i64 (irem x1 1009) 1009),()),())) (some (((irem x1 1009),()),()))) none:=(FnD.eq V EzY Bzv (x1,())).trans (by kernel_rfl)
theorem Qz0:CallsOk Tryz.prog gls gvs 158 Kzg:=FnD.ok (F:=Bzv) (cs:=EzY) V_ok kN Tryz.func158 (by decide) (by kernel_rfl)
noncomputable def Bzf:FnD:={f:=159,fn:=Tryz.f159,ps:=[],rs:=[rt az4]}
noncomputable def FzN:List (Nat×Sig):=[]
noncomputable def wz2:Unit→Option ((azm×Unit)×Unit):=Bzf.d V FzN
noncomputable abbrev BzY:Sig:=Bzf.t.sig wz2
theorem MzV:wz2 ()=some (((8445,(859,(false,()))),()),()):=(FnD.eq V FzN Bzf ()).trans (by kernel_rfl)
theorem Gzf:CallsOk Tryz.prog gls gvs 159 BzY:=FnD.ok (F:=Bzf) (cs:=FzN) V_ok kN Tryz.func159 (by decide) (by kernel_rfl)
noncomputable def vz9:FnD:={f:=126,fn:=Tryz.f126,ps:=[pa (.int .i64)],rs:=[rt az4]}
noncomputable def BzM:List (Nat×Sig):=[(158,Kzg),(159,BzY),(157,izD)]
noncomputable def Az0:Int×Unit→Option ((azm×Unit)×Unit):=vz9.d V BzM
noncomputable abbrev Hzs:Sig:=vz9.t.sig Az0
theorem Rzw (x1:Int):Az0 (x1,())=bnd (FzF (x1,())) (fun r1=>(bnd (wz2 ()) (fun r2=>(bnd (dz3 (r1.1.1,(r2.1.1,()))) (fun r3=>(some ((r3.1.1,()),()))))))):=(FnD.eq V BzM vz9 (x1,())).trans (by kernel_rfl)
theorem Nz0:CallsOk Tryz.prog gls gvs 126 Hzs:=FnD.ok (F:=vz9) (cs:=BzM) V_ok (kC Qz0 (kC Gzf (kC mzY kN))) Tryz.func126 (by decide) (by kernel_rfl)
noncomputable def dzp:FnD:={f:=86,fn:=Tryz.f86,ps:=[pa (.int .i64)],rs:=[⟨azr,(.pr (.own 0 .sh) .sh),false⟩],cuts:=[(4,[.val 3 (.sl (.int .i64)) (.own 0 .sh), .val 5 (.int .i64) .sh, .box 2 azr (.pr (.own 0 .sh) .sh), .box 4 azr (.pr (.own 0 .sh) .sh), .ptr 2 2 0, .ptr 4 4 0])]}
noncomputable def ezz:List (Nat×Sig):=[(125,uzK),(126,Hzs)]
noncomputable def hzc:Int×Unit→Option ((azl×Unit)×Unit):=dzp.d V ezz
noncomputable abbrev kz3:Sig:=dzp.t.sig hzc
noncomputable def kzi:(List Int)×Int×azl×azl×Unit→Option ((azl×Unit)×Unit):=dzp.D V ezz 4
theorem Nzw (x1:Int):hzc (x1,())=bnd (ozk (x1,())) (fun r1=>(kzi (r1.1.1,(0,(azG,(azG,())))))):=(FnD.eq V ezz dzp (x1,())).trans (by kernel_rfl)
theorem Kz3 (x1:(List Int)) (x2:Int) (x3:azl) (x4:azl):kzi (x1,(x2,(x3,(x4,()))))=cnd (ilt x2 (len x1)) (cnd (inb x2 (len x1)) (bnd (Az0 ((rd 0 x1 x2),())) (fun r4=>(cnd (fits ((len x4.1)+(len (r4.1.1::([]:List azm)))) 3) (kzi (x1,((iadd .i64 x2 1),(x3,(((app x4.1 (r4.1.1::([]:List azm))),x4.2),()))))) none))) none) (some ((x4,()),())):=(FnD.eqC V ezz dzp 4 (x1,(x2,(x3,(x4,()))))).trans (by kernel_rfl)
theorem qzL:CallsOk Tryz.prog gls gvs 86 kz3:=FnD.ok (F:=dzp) (cs:=ezz) V_ok (kC EzU (kC Nz0 kN)) Tryz.func86 (by decide) (by kernel_rfl)
noncomputable def szl:FnD:={f:=178,fn:=Tryz.f178,ps:=[pa (.int .i64)],rs:=[rt (.int .i64),rt .bool]}
noncomputable def wzv:List (Nat×Sig):=[(193,Czk),(165,nza),(182,uzk),(194,szV)]
noncomputable def sz3:Int×Unit→Option ((Int×Bool×Unit)×Unit):=szl.d V wzv
noncomputable abbrev Dzi:Sig:=szl.t.sig sz3
theorem MzA (x1:Int):sz3 (x1,())=bnd (mzq (x1,(3027,()))) (fun r1=>(bnd (czO (r1.1.1,(r1.1.1,()))) (fun r2=>(bnd (fzQ (x1,())) (fun r3=>(cnd (ine r2.1.1 r3.1.1) (some ((0,(false,())),())) (bnd (ez1 (0,(r1.1.1,()))) (fun r4=>(cnd (ilt r4.1.1 r1.1.1) (bnd (ez1 (0,(r1.1.1,()))) (fun r5=>(some ((r5.1.1,(true,())),())))) (some ((r1.1.1,(true,())),()))))))))))):=(FnD.eq V wzv szl (x1,())).trans (by kernel_rfl)
theorem MzN:CallsOk Tryz.prog gls gvs 178 Dzi:=FnD.ok (F:=szl) (cs:=wzv) V_ok (kC HzU (kC pzW (kC wzr (kC vzX kN)))) Tryz.func178 (by decide) (by kernel_rfl)
noncomputable def gz4:FnD:={f:=154,fn:=Tryz.f154,ps:=[⟨bzU, .sh,true,true,none⟩],rs:=[rt az4],al:=true,cuts:=[(3,[.val 3 (.int .i64) .sh, .val 4 (.int .i64) .sh, .box 0 bzU .sh, .box 2 az4 .sh, .ptr 0 0 0, .ptr 2 2 0])]}
noncomputable def jzz:List (Nat×Sig):=[(22,bzo),(166,rzh),(178,Dzi),(159,BzY)]
noncomputable def gz2:azi×Unit→Option ((azm×Unit)×azi×Unit):=gz4.d V jzz
noncomputable abbrev wzG:Sig:=gz4.t.sig gz2
noncomputable def kzF:Int×Int×azi×azm×Unit→Option ((azm×Unit)×azi×Unit):=gz4.D V jzz 3
theorem Fza (x1:azi):gz2 (x1,())=bnd (azy (x1,(250,()))) (fun r1=>(kzF (r1.1.1,(0,(r1.2.1,(czS,())))))):=(FnD.eq V jzz gz4 (x1,())).trans (by kernel_rfl)
theorem vzv (x1:Int) (x2:Int) (x3:azi) (x4:azm):kzF (x1,(x2,(x3,(x4,()))))=cnd (ilt x2 60) (bnd (jzW ((iadd .i64 x1 x2),())) (fun r4=>(bnd (sz3 (r4.1.1,())) (fun r5=>(cnd r5.1.2.1 (some ((((iadd .i64 x1 x2),(r5.1.1,(false,()))),()),(x3,()))) (kzF (x1,((iadd .i64 x2 1),(x3,(x4,())))))))))) (bnd (wz2 ()) (fun r4=>(some ((r4.1.1,()),(x3,()))))):=(FnD.eqC V jzz gz4 3 (x1,(x2,(x3,(x4,()))))).trans (by kernel_rfl)
theorem Fzk:CallsOk Tryz.prog gls gvs 154 wzG:=FnD.ok (F:=gz4) (cs:=jzz) V_ok (kC bzw (kC wzN (kC MzN (kC Gzf kN)))) Tryz.func154 (by decide) (by kernel_rfl)
noncomputable def tzd:FnD:={f:=155,fn:=Tryz.f155,ps:=[⟨bzU, .sh,true,true,none⟩],rs:=[rt (.int .i64)],al:=true}
noncomputable def wzu:List (Nat×Sig):=[(22,bzo),(71,fz2)]
noncomputable def fzL:azi×Unit→Option ((Int×Unit)×azi×Unit):=tzd.d V wzu
noncomputable abbrev CzT:Sig:=tzd.t.sig fzL
theorem MzZ (x1:azi):fzL (x1,())=bnd (azy (x1,(256,()))) (fun r1=>(bnd (azy (r1.2.1,(256,()))) (fun r2=>(bnd (azB (r2.2.1,((0::(1::(2::(3::(12106::(12107::(12108::((-1)::((iadd .i64 5000 r1.1.1)::((imul .i64 r2.1.1 47)::((-9223372036854775808)::(9223372036854775807::([]:List Int))))))))))))),()))) (fun r3=>(some ((r3.1.1,()),(r3.2.1,())))))))):=(FnD.eq V wzu tzd (x1,())).trans (by kernel_rfl)
theorem MzP:CallsOk Tryz.prog gls gvs 155 CzT:=FnD.ok (F:=tzd) (cs:=wzu) V_ok (kC bzw (kC izZ kN)) Tryz.func155 (by decide) (by kernel_rfl)
noncomputable def nzo:FnD:={f:=156,fn:=Tryz.f156,ps:=[⟨bzU, .sh,true,true,none⟩],rs:=[rt az4],al:=true}
noncomputable def qzY:List (Nat×Sig):=[(22,bzo),(71,fz2),(159,BzY),(157,izD)]
noncomputable def gzS:azi×Unit→Option ((azm×Unit)×azi×Unit):=nzo.d V qzY
noncomputable abbrev xzD:Sig:=nzo.t.sig gzS
theorem Fzr (x1:azi):gzS (x1,())=bnd (azy (x1,(256,()))) (fun r1=>(bnd (azB (r1.2.1,((1::(2::(3::(0::(500::(1008::(r1.1.1::([]:List Int)))))))),()))) (fun r2=>(bnd (wz2 ()) (fun r3=>(bnd (dz3 (r2.1.1,(r3.1.1,()))) (fun r4=>(some ((r4.1.1,()),(r2.2.1,())))))))))):=(FnD.eq V qzY nzo (x1,())).trans (by kernel_rfl)
theorem Fzd:CallsOk Tryz.prog gls gvs 156 xzD:=FnD.ok (F:=nzo) (cs:=qzY) V_ok (kC bzw (kC izZ (kC Gzf (kC mzY kN)))) Tryz.func156 (by decide) (by kernel_rfl)
noncomputable def sza:FnD:={f:=124,fn:=Tryz.f124,ps:=[⟨bzU, .sh,true,true,none⟩],rs:=[rt az4],al:=true}
noncomputable def wz6:List (Nat×Sig):=[(22,bzo),(154,wzG),(155,CzT),(156,xzD)]
noncomputable def lzL:azi×Unit→Option ((azm×Unit)×azi×Unit):=sza.d V wz6
noncomputable abbrev Ezu:Sig:=sza.t.sig lzL
theorem Nzk (x1:azi):lzL (x1,())=bnd (azy (x1,(10,()))) (fun r1=>(cnd (ieq r1.1.1 0) (cnd (ieq r1.1.1 0) (bnd (gz2 (r1.2.1,())) (fun r2=>(some ((r2.1.1,()),(r2.2.1,()))))) (cnd (ieq r1.1.1 3) (bnd (fzL (r1.2.1,())) (fun r2=>(bnd (fzL (r2.2.1,())) (fun r3=>(some (((r2.1.1,(r3.1.1,(false,()))),()),(r3.2.1,()))))))) (cnd (ieq r1.1.1 4) (bnd (azy (r1.2.1,(3,()))) (fun r2=>(some (((r2.1.1,(0,(true,()))),()),(r2.2.1,()))))) (cnd (ieq r1.1.1 5) (some ((czS,()),(r1.2.1,()))) (bnd (gzS (r1.2.1,())) (fun r2=>(some ((r2.1.1,()),(r2.2.1,()))))))))) (cnd (ieq r1.1.1 1) (cnd (ieq r1.1.1 1) (bnd (gz2 (r1.2.1,())) (fun r2=>(some ((r2.1.1,()),(r2.2.1,()))))) (cnd (ieq r1.1.1 3) (bnd (fzL (r1.2.1,())) (fun r2=>(bnd (fzL (r2.2.1,())) (fun r3=>(some (((r2.1.1,(r3.1.1,(false,()))),()),(r3.2.1,()))))))) (cnd (ieq r1.1.1 4) (bnd (azy (r1.2.1,(3,()))) (fun r2=>(some (((r2.1.1,(0,(true,()))),()),(r2.2.1,()))))) (cnd (ieq r1.1.1 5) (some ((czS,()),(r1.2.1,()))) (bnd (gzS (r1.2.1,())) (fun r2=>(some ((r2.1.1,()),(r2.2.1,()))))))))) (cnd (ieq r1.1.1 2) (bnd (gz2 (r1.2.1,())) (fun r2=>(some ((r2.1.1,()),(r2.2.1,()))))) (cnd (ieq r1.1.1 3) (bnd (fzL (r1.2.1,())) (fun r2=>(bnd (fzL (r2.2.1,())) (fun r3=>(some (((r2.1.1,(r3.1.1,(false,()))),()),(r3.2.1,()))))))) (cnd (ieq r1.1.1 4) (bnd (azy (r1.2.1,(3,()))) (fun r2=>(some (((r2.1.1,(0,(true,()))),()),(r2.2.1,()))))) (cnd (ieq r1.1.1 5) (some ((czS,()),(r1.2.1,()))) (bnd (gzS (r1.2.1,())) (fun r2=>(some ((r2.1.1,()),(r2.2.1,())))))))))))):=(FnD.eq V wz6 sza (x1,())).trans (by kernel_rfl)
theorem MzK:CallsOk Tryz.prog gls gvs 124 Ezu:=FnD.ok (F:=sza) (cs:=wz6) V_ok (kC bzw (kC Fzk (kC MzP (kC Fzd kN)))) Tryz.func124 (by decide) (by kernel_rfl)
noncomputable def rzQ:FnD:={f:=84,fn:=Tryz.f84,ps:=[⟨bzU, .sh,true,true,none⟩],rs:=[rt azr],al:=true,fz:=[1000000000000000006]}
noncomputable def xzz:List (Nat×Sig):=[(22,bzo),(86,kz3),(124,Ezu)]
noncomputable def tza:azi×Unit→Option ((azl×Unit)×azi×Unit):=rzQ.d V xzz
noncomputable abbrev CzL:Sig:=rzQ.t.sig tza
theorem Kzn (x1:azi):tza (x1,())=bnd (azy (x1,(8,()))) (fun r1=>(bnd (azy (r1.2.1,(50,()))) (fun r2=>(bnd (hzc (r2.1.1,())) (fun r3=>(cnd (fits ((len ([]:List azm))+(len r3.1.1.1)) 3) (cnd (ieq r1.1.1 0) (agree (bnd (azy (r2.2.1,(8,()))) (fun r4=>(bnd (lzL (r4.2.1,())) (fun r5=>(cnd (inb r4.1.1 (len (app ([]:List azm) r3.1.1.1))) (some ((((upd (app ([]:List azm) r3.1.1.1) r4.1.1 r5.1.1),()),()),(r5.2.1,()))) none))))) (bnd (azy (r2.2.1,(8,()))) (fun r4=>(agree (bnd (lzL (r4.2.1,())) (fun r5=>(cnd (inb r4.1.1 (len (app ([]:List azm) r3.1.1.1))) (some ((((upd (app ([]:List azm) r3.1.1.1) r4.1.1 r5.1.1),()),()),(r5.2.1,()))) none))) (bnd (lzL (r4.2.1,())) (fun r5=>(cnd (inb r4.1.1 (len (app ([]:List azm) r3.1.1.1))) (some ((((upd (app ([]:List azm) r3.1.1.1) r4.1.1 r5.1.1),()),()),(r5.2.1,()))) none))))))) (cnd (ieq r1.1.1 1) (cnd (inb2 1 (len (app ([]:List azm) r3.1.1.1)) (len (app ([]:List azm) r3.1.1.1))) (some ((((sub (app ([]:List azm) r3.1.1.1) 1 (len (app ([]:List azm) r3.1.1.1))),()),()),(r2.2.1,()))) none) (some ((((app ([]:List azm) r3.1.1.1),()),()),(r2.2.1,()))))) none)))))):=(FnD.eq V xzz rzQ (x1,())).trans (by kernel_rfl)
theorem MzB:CallsOk Tryz.prog gls gvs 84 CzL:=FnD.ok (F:=rzQ) (cs:=xzz) V_ok (kC bzw (kC qzL (kC MzK kN))) Tryz.func84 (by decide) (by kernel_rfl)
noncomputable def szN:FnD:={f:=85,fn:=Tryz.f85,ps:=[⟨bzU, .sh,true,true,none⟩],rs:=[rt pz7],al:=true}
noncomputable def yzr:List (Nat×Sig):=[(22,bzo),(36,tzH)]
noncomputable def szn:azi×Unit→Option ((czD×Unit)×azi×Unit):=szN.d V yzr
noncomputable abbrev Dzw:Sig:=szN.t.sig szn
theorem Kzq (x1:azi):szn (x1,())=bnd (azy (x1,(10,()))) (fun r1=>(bnd (azy (r1.2.1,(60,()))) (fun r2=>(bnd (lzk (r2.2.1,())) (fun r3=>(cnd (ieq r1.1.1 0) (cnd (nz 4) (cnd (inb (irem r2.1.1 4) (len ((-1)::(0::(10000::(10001::([]:List Int))))))) (some ((((rd 0 ((-1)::(0::(10000::(10001::([]:List Int))))) (irem r2.1.1 4)),r3.1.1.2),()),(r3.2.1,()))) none) none) (cnd (ieq r1.1.1 1) (cnd (inb2 1 (ssz r3.1.1.2.1) (ssz r3.1.1.2.1)) (some (((r3.1.1.1,((ssub r3.1.1.2.1 1 (ssz r3.1.1.2.1)),r3.1.1.2.2)),()),(r3.2.1,()))) none) (cnd (ieq r1.1.1 2) (some (((r3.1.1.1,(r3.1.1.2.1,((bs []),r3.1.1.2.2.2))),()),(r3.2.1,()))) (cnd (ieq r1.1.1 3) (cnd (fits ((ssz r3.1.1.2.2.2.1)+(ssz (bs [120]))) 1) (some (((r3.1.1.1,(r3.1.1.2.1,(r3.1.1.2.2.1,((scat r3.1.1.2.2.2.1 (bs [120])),r3.1.1.2.2.2.2)))),()),(r3.2.1,()))) none) (some ((r3.1.1,()),(r3.2.1,())))))))))))):=(FnD.eq V yzr szN (x1,())).trans (by kernel_rfl)
theorem JzZ:CallsOk Tryz.prog gls gvs 85 Dzw:=FnD.ok (F:=szN) (cs:=yzr) V_ok (kC bzw (kC Azd kN)) Tryz.func85 (by decide) (by kernel_rfl)
noncomputable def sz4:FnD:={f:=87,fn:=Tryz.f87,ps:=[⟨bzU, .sh,true,true,none⟩],rs:=[⟨(.sl bzc),(.own 0 (.pr .sh (.pr .sh (.pr .sh (.pr (.own 0 .sh) .sh))))),false⟩],al:=true}
noncomputable def xzx:List (Nat×Sig):=[(22,bzo),(34,hzn)]
noncomputable def bzE:azi×Unit→Option (((List azb)×Unit)×azi×Unit):=sz4.d V xzx
noncomputable abbrev Ezd:Sig:=sz4.t.sig bzE
theorem MzL (x1:azi):bzE (x1,())=bnd (azy (x1,(10,()))) (fun r1=>(bnd (czJ (r1.2.1,())) (fun r2=>(cnd (fits ((len ([]:List azb))+(len r2.1.1)) 4) (cnd (ieq r1.1.1 0) (cnd (fits ((len (app ([]:List azb) r2.1.1))+(len (((bs [97,97,97,97]),(0,(0,(([]:List azh),()))))::([]:List azb)))) 4) (some (((app (app ([]:List azb) r2.1.1) (((bs [97,97,97,97]),(0,(0,(([]:List azh),()))))::([]:List azb))),()),(r2.2.1,()))) none) (cnd (ieq r1.1.1 1) (cnd (fits ((len (app ([]:List azb) r2.1.1))+(len (((bs [122,122,122,122,122]),(0,(0,(([]:List azh),()))))::([]:List azb)))) 4) (some (((app (app ([]:List azb) r2.1.1) (((bs [122,122,122,122,122]),(0,(0,(([]:List azh),()))))::([]:List azb))),()),(r2.2.1,()))) none) (cnd (ieq r1.1.1 2) (cnd (fits ((len (app ([]:List azb) r2.1.1))+(len (((bs [122,122,122,122]),(1001,(0,(([]:List azh),()))))::([]:List azb)))) 4) (some (((app (app ([]:List azb) r2.1.1) (((bs [122,122,122,122]),(1001,(0,(([]:List azh),()))))::([]:List azb))),()),(r2.2.1,()))) none) (some (((app ([]:List azb) r2.1.1),()),(r2.2.1,())))))) none)))):=(FnD.eq V xzx sz4 (x1,())).trans (by kernel_rfl)
theorem Mze:CallsOk Tryz.prog gls gvs 87 Ezd:=FnD.ok (F:=sz4) (cs:=xzx) V_ok (kC bzw (kC lzf kN)) Tryz.func87 (by decide) (by kernel_rfl)
noncomputable def dzE:FnD:={f:=45,fn:=Tryz.f45,ps:=[pa (.sl (.int .u8))],rs:=[⟨(.sl bzc),(.own 0 (.pr .sh (.pr .sh (.pr .sh (.pr (.own 0 .sh) .sh))))),false⟩,rt azr,⟨azr,(.pr (.own 0 .sh) .sh),false⟩,rt pz7],al:=true,fz:=[1000000000000000005]}
noncomputable def fzK:List (Nat×Sig):=[(21,hz7),(84,CzL),(85,Dzw),(22,bzo),(86,kz3),(87,Ezd)]
noncomputable def dzG:(List Int)×Unit→Option (((List azb)×azl×azl×czD×Unit)×Unit):=dzE.d V fzK
noncomputable abbrev kzo:Sig:=dzE.t.sig dzG
theorem rzY (x1:(List Int)):dzG (x1,())=bnd (ezQ (x1,())) (fun r1=>(bnd (tza (r1.1.1,())) (fun r2=>(bnd (szn (r2.2.1,())) (fun r3=>(bnd (azy (r3.2.1,(40,()))) (fun r4=>(bnd (hzc (r4.1.1,())) (fun r5=>(agree (bnd (bzE (r4.2.1,())) (fun r6=>(agree (agree (agree (some ((r6.1.1,(r2.1.1,(r5.1.1,(r3.1.1,())))),())) (agree (some ((r6.1.1,(r2.1.1,(r5.1.1,(r3.1.1,())))),())) (agree (some ((r6.1.1,(r2.1.1,(r5.1.1,(r3.1.1,())))),())) (some ((r6.1.1,(r2.1.1,(r5.1.1,(r3.1.1,())))),()))))) (agree (agree (some ((r6.1.1,(r2.1.1,(r5.1.1,(r3.1.1,())))),())) (agree (some ((r6.1.1,(r2.1.1,(r5.1.1,(r3.1.1,())))),())) (some ((r6.1.1,(r2.1.1,(r5.1.1,(r3.1.1,())))),())))) (agree (agree (some ((r6.1.1,(r2.1.1,(r5.1.1,(r3.1.1,())))),())) (agree (some ((r6.1.1,(r2.1.1,(r5.1.1,(r3.1.1,())))),())) (some ((r6.1.1,(r2.1.1,(r5.1.1,(r3.1.1,())))),())))) (agree (agree (some ((r6.1.1,(r2.1.1,(r5.1.1,(r3.1.1,())))),())) (some ((r6.1.1,(r2.1.1,(r5.1.1,(r3.1.1,())))),()))) (agree (agree (some ((r6.1.1,(r2.1.1,(r5.1.1,(r3.1.1,())))),())) (some ((r6.1.1,(r2.1.1,(r5.1.1,(r3.1.1,())))),()))) (some ((r6.1.1,(r2.1.1,(r5.1.1,(r3.1.1,())))),()))))))) (agree (agree (agree (some ((r6.1.1,(r2.1.1,(r5.1.1,(r3.1.1,())))),())) (agree (some ((r6.1.1,(r2.1.1,(r5.1.1,(r3.1.1,())))),())) (agree (some ((r6.1.1,(r2.1.1,(r5.1.1,(r3.1.1,())))),())) (some ((r6.1.1,(r2.1.1,(r5.1.1,(r3.1.1,())))),()))))) (agree (agree (some ((r6.1.1,(r2.1.1,(r5.1.1,(r3.1.1,())))),())) (some ((r6.1.1,(r2.1.1,(r5.1.1,(r3.1.1,())))),()))) (agree (agree (some ((r6.1.1,(r2.1.1,(r5.1.1,(r3.1.1,())))),())) (agree (some ((r6.1.1,(r2.1.1,(r5.1.1,(r3.1.1,())))),())) (some ((r6.1.1,(r2.1.1,(r5.1.1,(r3.1.1,())))),())))) (some ((r6.1.1,(r2.1.1,(r5.1.1,(r3.1.1,())))),()))))) (agree (agree (agree (some ((r6.1.1,(r2.1.1,(r5.1.1,(r3.1.1,())))),())) (agree (some ((r6.1.1,(r2.1.1,(r5.1.1,(r3.1.1,())))),())) (some ((r6.1.1,(r2.1.1,(r5.1.1,(r3.1.1,())))),())))) (agree (agree (some ((r6.1.1,(r2.1.1,(r5.1.1,(r3.1.1,())))),())) (some ((r6.1.1,(r2.1.1,(r5.1.1,(r3.1.1,())))),()))) (agree (agree (some ((r6.1.1,(r2.1.1,(r5.1.1,(r3.1.1,())))),())) (some ((r6.1.1,(r2.1.1,(r5.1.1,(r3.1.1,())))),()))) (some ((r6.1.1,(r2.1.1,(r5.1.1,(r3.1.1,())))),()))))) (agree (agree (agree (some ((r6.1.1,(r2.1.1,(r5.1.1,(r3.1.1,())))),())) (agree (some ((r6.1.1,(r2.1.1,(r5.1.1,(r3.1.1,())))),())) (some ((r6.1.1,(r2.1.1,(r5.1.1,(r3.1.1,())))),())))) (agree (agree (some ((r6.1.1,(r2.1.1,(r5.1.1,(r3.1.1,())))),())) (some ((r6.1.1,(r2.1.1,(r5.1.1,(r3.1.1,())))),()))) (agree (agree (some ((r6.1.1,(r2.1.1,(r5.1.1,(r3.1.1,())))),())) (some ((r6.1.1,(r2.1.1,(r5.1.1,(r3.1.1,())))),()))) (some ((r6.1.1,(r2.1.1,(r5.1.1,(r3.1.1,())))),()))))) (agree (agree (agree (some ((r6.1.1,(r2.1.1,(r5.1.1,(r3.1.1,())))),())) (agree (some ((r6.1.1,(r2.1.1,(r5.1.1,(r3.1.1,())))),())) (some ((r6.1.1,(r2.1.1,(r5.1.1,(r3.1.1,())))),())))) (some ((r6.1.1,(r2.1.1,(r5.1.1,(r3.1.1,())))),()))) (agree (agree (some ((r6.1.1,(r2.1.1,(r5.1.1,(r3.1.1,())))),())) (some ((r6.1.1,(r2.1.1,(r5.1.1,(r3.1.1,())))),()))) (some ((r6.1.1,(r2.1.1,(r5.1.1,(r3.1.1,())))),())))))))))) (agree (agree (bnd (bzE (r4.2.1,())) (fun r6=>(agree (agree (some ((r6.1.1,(r2.1.1,(r5.1.1,(r3.1.1,())))),())) (agree (some ((r6.1.1,(r2.1.1,(r5.1.1,(r3.1.1,())))),())) (agree (some ((r6.1.1,(r2.1.1,(r5.1.1,(r3.1.1,())))),())) (some ((r6.1.1,(r2.1.1,(r5.1.1,(r3.1.1,())))),()))))) (agree (agree (some ((r6.1.1,(r2.1.1,(r5.1.1,(r3.1.1,())))),())) (agree (some ((r6.1.1,(r2.1.1,(r5.1.1,(r3.1.1,())))),())) (some ((r6.1.1,(r2.1.1,(r5.1.1,(r3.1.1,())))),())))) (agree (agree (some ((r6.1.1,(r2.1.1,(r5.1.1,(r3.1.1,())))),())) (agree (some ((r6.1.1,(r2.1.1,(r5.1.1,(r3.1.1,())))),())) (some ((r6.1.1,(r2.1.1,(r5.1.1,(r3.1.1,())))),())))) (agree (agree (some ((r6.1.1,(r2.1.1,(r5.1.1,(r3.1.1,())))),())) (some ((r6.1.1,(r2.1.1,(r5.1.1,(r3.1.1,())))),()))) (agree (agree (some ((r6.1.1,(r2.1.1,(r5.1.1,(r3.1.1,())))),())) (some ((r6.1.1,(r2.1.1,(r5.1.1,(r3.1.1,())))),()))) (some ((r6.1.1,(r2.1.1,(r5.1.1,(r3.1.1,())))),()))))))))) (agree (agree (bnd (bzE (r4.2.1,())) (fun r6=>(agree (some ((r6.1.1,(r2.1.1,(r5.1.1,(r3.1.1,())))),())) (agree (some ((r6.1.1,(r2.1.1,(r5.1.1,(r3.1.1,())))),())) (agree (some ((r6.1.1,(r2.1.1,(r5.1.1,(r3.1.1,())))),())) (some ((r6.1.1,(r2.1.1,(r5.1.1,(r3.1.1,())))),()))))))) (bnd (bzE (r4.2.1,())) (fun r6=>(some ((r6.1.1,(r2.1.1,(r5.1.1,(r3.1.1,())))),()))))) (agree (bnd (bzE (r4.2.1,())) (fun r6=>(agree (some ((r6.1.1,(r2.1.1,(r5.1.1,(r3.1.1,())))),())) (agree (some ((r6.1.1,(r2.1.1,(r5.1.1,(r3.1.1,())))),())) (some ((r6.1.1,(r2.1.1,(r5.1.1,(r3.1.1,())))),())))))) (bnd (bzE (r4.2.1,())) (fun r6=>(some ((r6.1.1,(r2.1.1,(r5.1.1,(r3.1.1,())))),()))))))) (agree (agree (bnd (bzE (r4.2.1,())) (fun r6=>(agree (agree (some ((r6.1.1,(r2.1.1,(r5.1.1,(r3.1.1,())))),())) (agree (some ((r6.1.1,(r2.1.1,(r5.1.1,(r3.1.1,())))),())) (agree (some ((r6.1.1,(r2.1.1,(r5.1.1,(r3.1.1,())))),())) (some ((r6.1.1,(r2.1.1,(r5.1.1,(r3.1.1,())))),()))))) (agree (agree (some ((r6.1.1,(r2.1.1,(r5.1.1,(r3.1.1,())))),())) (some ((r6.1.1,(r2.1.1,(r5.1.1,(r3.1.1,())))),()))) (agree (agree (some ((r6.1.1,(r2.1.1,(r5.1.1,(r3.1.1,())))),())) (agree (some ((r6.1.1,(r2.1.1,(r5.1.1,(r3.1.1,())))),())) (some ((r6.1.1,(r2.1.1,(r5.1.1,(r3.1.1,())))),())))) (some ((r6.1.1,(r2.1.1,(r5.1.1,(r3.1.1,())))),()))))))) (agree (agree (bnd (bzE (r4.2.1,())) (fun r6=>(agree (some ((r6.1.1,(r2.1.1,(r5.1.1,(r3.1.1,())))),())) (agree (some ((r6.1.1,(r2.1.1,(r5.1.1,(r3.1.1,())))),())) (agree (some ((r6.1.1,(r2.1.1,(r5.1.1,(r3.1.1,())))),())) (some ((r6.1.1,(r2.1.1,(r5.1.1,(r3.1.1,())))),()))))))) (bnd (bzE (r4.2.1,())) (fun r6=>(some ((r6.1.1,(r2.1.1,(r5.1.1,(r3.1.1,())))),()))))) (agree (bnd (bzE (r4.2.1,())) (fun r6=>(agree (some ((r6.1.1,(r2.1.1,(r5.1.1,(r3.1.1,())))),())) (some ((r6.1.1,(r2.1.1,(r5.1.1,(r3.1.1,())))),()))))) (bnd (bzE (r4.2.1,())) (fun r6=>(some ((r6.1.1,(r2.1.1,(r5.1.1,(r3.1.1,())))),()))))))) (agree (bnd (bzE (r4.2.1,())) (fun r6=>(agree (agree (some ((r6.1.1,(r2.1.1,(r5.1.1,(r3.1.1,())))),())) (agree (some ((r6.1.1,(r2.1.1,(r5.1.1,(r3.1.1,())))),())) (some ((r6.1.1,(r2.1.1,(r5.1.1,(r3.1.1,())))),())))) (agree (agree (some ((r6.1.1,(r2.1.1,(r5.1.1,(r3.1.1,())))),())) (some ((r6.1.1,(r2.1.1,(r5.1.1,(r3.1.1,())))),()))) (agree (agree (some ((r6.1.1,(r2.1.1,(r5.1.1,(r3.1.1,())))),())) (some ((r6.1.1,(r2.1.1,(r5.1.1,(r3.1.1,())))),()))) (some ((r6.1.1,(r2.1.1,(r5.1.1,(r3.1.1,())))),()))))))) (agree (agree (bnd (bzE (r4.2.1,())) (fun r6=>(agree (some ((r6.1.1,(r2.1.1,(r5.1.1,(r3.1.1,())))),())) (agree (some ((r6.1.1,(r2.1.1,(r5.1.1,(r3.1.1,())))),())) (some ((r6.1.1,(r2.1.1,(r5.1.1,(r3.1.1,())))),())))))) (bnd (bzE (r4.2.1,())) (fun r6=>(some ((r6.1.1,(r2.1.1,(r5.1.1,(r3.1.1,())))),()))))) (agree (bnd (bzE (r4.2.1,())) (fun r6=>(agree (some ((r6.1.1,(r2.1.1,(r5.1.1,(r3.1.1,())))),())) (some ((r6.1.1,(r2.1.1,(r5.1.1,(r3.1.1,())))),()))))) (bnd (bzE (r4.2.1,())) (fun r6=>(some ((r6.1.1,(r2.1.1,(r5.1.1,(r3.1.1,())))),()))))))))))))))))))):=(FnD.eq V fzK dzE (x1,())).trans (by kernel_rfl)
theorem szJ:CallsOk Tryz.prog gls gvs 45 kzo:=FnD.ok (F:=dzE) (cs:=fzK) V_ok (kC jz6 (kC MzB (kC JzZ (kC bzw (kC qzL (kC Mze kN)))))) Tryz.func45 (by decide) (by kernel_rfl)
noncomputable def hzd:FnD:={f:=16,fn:=Tryz.f16,ps:=[pa (.sl (.int .u8))],rs:=[⟨(.sl bzc),(.own 0 (.pr .sh (.pr .sh (.pr .sh (.pr (.own 0 .sh) .sh))))),false⟩,rt azr,⟨azr,(.pr (.own 0 .sh) .sh),false⟩,rt pz7,rt .str,rt .str],al:=true,fz:=[1000000000000000005]}
noncomputable def lze:List (Nat×Sig):=[(21,hz7),(25,jzh),(26,lzV),(45,kzo)]
noncomputable def hzh:(List Int)×Unit→Option (((List azb)×azl×azl×czD×ByteArray×ByteArray×Unit)×Unit):=hzd.d V lze
noncomputable abbrev qzj:Sig:=hzd.t.sig hzh
theorem yzF (x1:(List Int)):hzh (x1,())=bnd (ezQ (x1,())) (fun r1=>(bnd (fza (r1.1.1,(((bs [97,97,97,97])::((bs [97,97,97,98])::((bs [98,111,98,98])::((bs [110,111,110,101])::([]:List ByteArray))))),()))) (fun r2=>(bnd (hzP (r2.2.1,())) (fun r3=>(bnd (dzG (x1,())) (fun r4=>(agree (agree (agree (some ((r4.1.1,(r4.1.2.1,(r4.1.2.2.1,(r4.1.2.2.2.1,(r2.1.1,(r3.1.1,())))))),())) (agree (some ((r4.1.1,(r4.1.2.1,(r4.1.2.2.1,(r4.1.2.2.2.1,(r2.1.1,(r3.1.1,())))))),())) (agree (some ((r4.1.1,(r4.1.2.1,(r4.1.2.2.1,(r4.1.2.2.2.1,(r2.1.1,(r3.1.1,())))))),())) (some ((r4.1.1,(r4.1.2.1,(r4.1.2.2.1,(r4.1.2.2.2.1,(r2.1.1,(r3.1.1,())))))),()))))) (agree (agree (some ((r4.1.1,(r4.1.2.1,(r4.1.2.2.1,(r4.1.2.2.2.1,(r2.1.1,(r3.1.1,())))))),())) (agree (some ((r4.1.1,(r4.1.2.1,(r4.1.2.2.1,(r4.1.2.2.2.1,(r2.1.1,(r3.1.1,())))))),())) (some ((r4.1.1,(r4.1.2.1,(r4.1.2.2.1,(r4.1.2.2.2.1,(r2.1.1,(r3.1.1,())))))),())))) (agree (agree (some ((r4.1.1,(r4.1.2.1,(r4.1.2.2.1,(r4.1.2.2.2.1,(r2.1.1,(r3.1.1,())))))),())) (agree (some ((r4.1.1,(r4.1.2.1,(r4.1.2.2.1,(r4.1.2.2.2.1,(r2.1.1,(r3.1.1,())))))),())) (some ((r4.1.1,(r4.1.2.1,(r4.1.2.2.1,(r4.1.2.2.2.1,(r2.1.1,(r3.1.1,())))))),())))) (agree (agree (some ((r4.1.1,(r4.1.2.1,(r4.1.2.2.1,(r4.1.2.2.2.1,(r2.1.1,(r3.1.1,())))))),())) (some ((r4.1.1,(r4.1.2.1,(r4.1.2.2.1,(r4.1.2.2.2.1,(r2.1.1,(r3.1.1,())))))),()))) (agree (agree (some ((r4.1.1,(r4.1.2.1,(r4.1.2.2.1,(r4.1.2.2.2.1,(r2.1.1,(r3.1.1,())))))),())) (some ((r4.1.1,(r4.1.2.1,(r4.1.2.2.1,(r4.1.2.2.2.1,(r2.1.1,(r3.1.1,())))))),()))) (some ((r4.1.1,(r4.1.2.1,(r4.1.2.2.1,(r4.1.2.2.2.1,(r2.1.1,(r3.1.1,())))))),()))))))) (agree (agree (agree (some ((r4.1.1,(r4.1.2.1,(r4.1.2.2.1,(r4.1.2.2.2.1,(r2.1.1,(r3.1.1,())))))),())) (agree (some ((r4.1.1,(r4.1.2.1,(r4.1.2.2.1,(r4.1.2.2.2.1,(r2.1.1,(r3.1.1,())))))),())) (agree (some ((r4.1.1,(r4.1.2.1,(r4.1.2.2.1,(r4.1.2.2.2.1,(r2.1.1,(r3.1.1,())))))),())) (some ((r4.1.1,(r4.1.2.1,(r4.1.2.2.1,(r4.1.2.2.2.1,(r2.1.1,(r3.1.1,())))))),()))))) (agree (agree (some ((r4.1.1,(r4.1.2.1,(r4.1.2.2.1,(r4.1.2.2.2.1,(r2.1.1,(r3.1.1,())))))),())) (some ((r4.1.1,(r4.1.2.1,(r4.1.2.2.1,(r4.1.2.2.2.1,(r2.1.1,(r3.1.1,())))))),()))) (agree (agree (some ((r4.1.1,(r4.1.2.1,(r4.1.2.2.1,(r4.1.2.2.2.1,(r2.1.1,(r3.1.1,())))))),())) (agree (some ((r4.1.1,(r4.1.2.1,(r4.1.2.2.1,(r4.1.2.2.2.1,(r2.1.1,(r3.1.1,())))))),())) (some ((r4.1.1,(r4.1.2.1,(r4.1.2.2.1,(r4.1.2.2.2.1,(r2.1.1,(r3.1.1,())))))),())))) (some ((r4.1.1,(r4.1.2.1,(r4.1.2.2.1,(r4.1.2.2.2.1,(r2.1.1,(r3.1.1,())))))),()))))) (agree (agree (agree (some ((r4.1.1,(r4.1.2.1,(r4.1.2.2.1,(r4.1.2.2.2.1,(r2.1.1,(r3.1.1,())))))),())) (agree (some ((r4.1.1,(r4.1.2.1,(r4.1.2.2.1,(r4.1.2.2.2.1,(r2.1.1,(r3.1.1,())))))),())) (some ((r4.1.1,(r4.1.2.1,(r4.1.2.2.1,(r4.1.2.2.2.1,(r2.1.1,(r3.1.1,())))))),())))) (agree (agree (some ((r4.1.1,(r4.1.2.1,(r4.1.2.2.1,(r4.1.2.2.2.1,(r2.1.1,(r3.1.1,())))))),())) (some ((r4.1.1,(r4.1.2.1,(r4.1.2.2.1,(r4.1.2.2.2.1,(r2.1.1,(r3.1.1,())))))),()))) (agree (agree (some ((r4.1.1,(r4.1.2.1,(r4.1.2.2.1,(r4.1.2.2.2.1,(r2.1.1,(r3.1.1,())))))),())) (some ((r4.1.1,(r4.1.2.1,(r4.1.2.2.1,(r4.1.2.2.2.1,(r2.1.1,(r3.1.1,())))))),()))) (some ((r4.1.1,(r4.1.2.1,(r4.1.2.2.1,(r4.1.2.2.2.1,(r2.1.1,(r3.1.1,())))))),()))))) (agree (agree (agree (some ((r4.1.1,(r4.1.2.1,(r4.1.2.2.1,(r4.1.2.2.2.1,(r2.1.1,(r3.1.1,())))))),())) (agree (some ((r4.1.1,(r4.1.2.1,(r4.1.2.2.1,(r4.1.2.2.2.1,(r2.1.1,(r3.1.1,())))))),())) (some ((r4.1.1,(r4.1.2.1,(r4.1.2.2.1,(r4.1.2.2.2.1,(r2.1.1,(r3.1.1,())))))),())))) (agree (agree (some ((r4.1.1,(r4.1.2.1,(r4.1.2.2.1,(r4.1.2.2.2.1,(r2.1.1,(r3.1.1,())))))),())) (some ((r4.1.1,(r4.1.2.1,(r4.1.2.2.1,(r4.1.2.2.2.1,(r2.1.1,(r3.1.1,())))))),()))) (agree (agree (some ((r4.1.1,(r4.1.2.1,(r4.1.2.2.1,(r4.1.2.2.2.1,(r2.1.1,(r3.1.1,())))))),())) (some ((r4.1.1,(r4.1.2.1,(r4.1.2.2.1,(r4.1.2.2.2.1,(r2.1.1,(r3.1.1,())))))),()))) (some ((r4.1.1,(r4.1.2.1,(r4.1.2.2.1,(r4.1.2.2.2.1,(r2.1.1,(r3.1.1,())))))),()))))) (agree (agree (agree (some ((r4.1.1,(r4.1.2.1,(r4.1.2.2.1,(r4.1.2.2.2.1,(r2.1.1,(r3.1.1,())))))),())) (agree (some ((r4.1.1,(r4.1.2.1,(r4.1.2.2.1,(r4.1.2.2.2.1,(r2.1.1,(r3.1.1,())))))),())) (some ((r4.1.1,(r4.1.2.1,(r4.1.2.2.1,(r4.1.2.2.2.1,(r2.1.1,(r3.1.1,())))))),())))) (some ((r4.1.1,(r4.1.2.1,(r4.1.2.2.1,(r4.1.2.2.2.1,(r2.1.1,(r3.1.1,())))))),()))) (agree (agree (some ((r4.1.1,(r4.1.2.1,(r4.1.2.2.1,(r4.1.2.2.2.1,(r2.1.1,(r3.1.1,())))))),())) (some ((r4.1.1,(r4.1.2.1,(r4.1.2.2.1,(r4.1.2.2.2.1,(r2.1.1,(r3.1.1,())))))),()))) (some ((r4.1.1,(r4.1.2.1,(r4.1.2.2.1,(r4.1.2.2.2.1,(r2.1.1,(r3.1.1,())))))),()))))))))))))))):=(FnD.eq V lze hzd (x1,())).trans (by kernel_rfl)
theorem yzT:CallsOk Tryz.prog gls gvs 16 qzj:=FnD.ok (F:=hzd) (cs:=lze) V_ok (kC jz6 (kC mzg (kC nz2 (kC szJ kN)))) Tryz.func16 (by decide) (by kernel_rfl)
noncomputable def fze:FnD:={f:=19,fn:=Tryz.f19,ps:=[pa (.sl .str),pa (.sl .str)],rs:=[rt .bool],cuts:=[(4,[.val 0 (.sl .str) .sh, .val 1 (.sl .str) .sh, .val 5 (.int .i64) .sh])]}
noncomputable def hzL:List (Nat×Sig):=[]
noncomputable def dzV:(List ByteArray)× (List ByteArray)×Unit→Option ((Bool×Unit)×Unit):=fze.d V hzL
noncomputable abbrev nz0:Sig:=fze.t.sig dzV
noncomputable def izC:(List ByteArray)× (List ByteArray)×Int×Unit→Option ((Bool×Unit)×Unit):=fze.D V hzL 4
theorem CzN (x1:(List ByteArray)) (x2:(List ByteArray)):dzV (x1,(x2,()))=cnd (ine (len x1) (len x2)) (some ((false,()),())) (izC (x1,(x2,(0,())))):=(FnD.eq V hzL fze (x1,(x2,()))).trans (by kernel_rfl)
theorem rzX (x1:(List ByteArray)) (x2:(List ByteArray)) (x3:Int):izC (x1,(x2,(x3,())))=cnd (ilt x3 (len x1)) (cnd (inb x3 (len x1)) (cnd (inb x3 (len x2)) (cnd (sne (rd (bs []) x1 x3) (rd (bs []) x2 x3)) (some ((false,()),())) (izC (x1,(x2,((iadd .i64 x3 1),()))))) none) none) (some ((true,()),())):=(FnD.eqC V hzL fze 4 (x1,(x2,(x3,())))).trans (by kernel_rfl)
theorem uz7:CallsOk Tryz.prog gls gvs 19 nz0:=FnD.ok (F:=fze) (cs:=hzL) V_ok kN Tryz.func19 (by decide) (by kernel_rfl)
noncomputable def pzk:FnD:={f:=17,fn:=Tryz.f17,ps:=[pa TAsk,pa TAsk],rs:=[rt .bool]}
noncomputable def tzr:List (Nat×Sig):=[(19,nz0)]
noncomputable def pzO:tAsk×tAsk×Unit→Option ((Bool×Unit)×Unit):=pzk.d V tzr
noncomputable abbrev Azp:Sig:=pzk.t.sig pzO
theorem IzU (x1:tAsk) (x2:tAsk):pzO (x1,(x2,()))=cnd (seq x1.1 x2.1) (cnd (seq x1.2.1 x2.2.1) (cnd (seq x1.2.2.1 x2.2.2.1) (bnd (dzV (x1.2.2.2.1,(x2.2.2.2.1,()))) (fun r2=>(cnd r2.1.1 (bnd (dzV (x1.2.2.2.2.1,(x2.2.2.2.2.1,()))) (fun r3=>(cnd r3.1.1 (bnd (dzV (x1.2.2.2.2.2.1,(x2.2.2.2.2.2.1,()))) (fun r4=>(some ((r4.1.1,()),())))) (some ((false,()),()))))) (some ((false,()),()))))) (some ((false,()),()))) (some ((false,()),()))) (some ((false,()),())):=(FnD.eq V tzr pzk (x1,(x2,()))).trans (by kernel_rfl)
theorem JzJ:CallsOk Tryz.prog gls gvs 17 Azp:=FnD.ok (F:=pzk) (cs:=tzr) V_ok (kC uz7 kN) Tryz.func17 (by decide) (by kernel_rfl)
noncomputable def lzv:FnD:={f:=4,fn:=Tryz.f4,ps:=[pa (.sl (.int .u8))],rs:=[rt .bool],cuts:=[(13,[.val 0 (.sl (.int .u8)) .sh, .val 3 (.sl bzc) (.own 0 (.pr .sh (.pr .sh (.pr .sh (.pr (.own 0 .sh) .sh))))), .val 4 .str .sh, .val 6 .str .sh, .val 11 .str .sh, .val 12 .bool .sh, .val 13 (.int .i64) .sh, .val 14 .str .sh, .val 15 .bool .sh, .val 16 (.int .i64) .sh, .box 10 TAsk (.pr .sh (.pr .sh (.pr .sh (.pr (.own 0 .sh) (.pr (.own 0 .sh) (.pr (.own 0 .sh) .sh)))))), .ptr 10 10 0])]}
noncomputable def ozR:List (Nat×Sig):=[(5,Mz0),(9,ozF),(10,vzy),(11,xz7),(13,lzb),(12,tzo),(14,zzs),(7,oz3),(15,PzW),(16,qzj),(18,uzh),(17,Azp),(20,hzg),(19,nz0)]
noncomputable def xzT:(List Int)×Unit→Option ((Bool×Unit)×Unit):=lzv.d V ozR
noncomputable abbrev JzS:Sig:=lzv.t.sig xzT
noncomputable def gzM:(List Int)× (List azb)×ByteArray×ByteArray×ByteArray×Bool×Int×ByteArray×Bool×Int×tAsk×Unit→Option ((Bool×Unit)×Unit):=lzv.D V ozR 13
theorem Lz3 (x1:(List Int)):xzT (x1,())=bnd (CzW (x1,())) (fun r1=>(cnd r1.1.1 (some ((true,()),())) (bnd (gzk (x1,())) (fun r2=>(bnd (kzp (x1,())) (fun r3=>(bnd (nzf (x1,())) (fun r4=>(bnd (czK (r2.1.1,(azG,(azG,(r4.1.1,()))))) (fun r5=>(bnd (lz1 (r5.1.1,())) (fun r6=>(bnd (jzp (r2.1.1,(azG,(azG,(r4.1.1,(r2.1.2.1,(r3.1.2.1,()))))))) (fun r7=>(bnd (czy (r6.1.1,(r7.1.1,()))) (fun r8=>(gzM (x1,(r2.1.1,(r2.1.2.1,(r3.1.2.1,(r8.1.1,(r8.1.2.1,(r8.1.2.2.1,((bs []),(false,(0,(r7.1.1,())))))))))))))))))))))))))))):=(FnD.eq V ozR lzv (x1,())).trans (by kernel_rfl)
theorem xzB (x1:(List Int)) (x2:(List azb)) (x3:ByteArray) (x4:ByteArray) (x5:ByteArray) (x6:Bool) (x7:Int) (x8:ByteArray) (x9:Bool) (x10:Int) (x11:tAsk):gzM (x1,(x2,(x3,(x4,(x5,(x6,(x7,(x8,(x9,(x10,(x11,())))))))))))=cnd (ilt x10 (len x2)) (cnd (inb x10 (len x2)) (cnd (seq (rd azL x2 x10).1 x3) (cnd (inb x10 (len x2)) (bnd (Hzb ((rd azL x2 x10).2.2.2.1,(x4,()))) (fun r11=>(gzM (x1,(x2,(x3,(x4,(x5,(x6,(x7,(r11.1.1,(r11.1.2.1,((iadd .i64 x10 1),(x11,())))))))))))))) none) (gzM (x1,(x2,(x3,(x4,(x5,(x6,(x7,(x8,(x9,((iadd .i64 x10 1),(x11,()))))))))))))) none) (bnd (hzh (x1,())) (fun r11=>(cnd (ieq x7 0) (cnd (seq x5 x8) (cnd (beqB x6 x9) (bnd (jzp (r11.1.1,(r11.1.2.1,(r11.1.2.2.1,(r11.1.2.2.2.1,(r11.1.2.2.2.2.1,(r11.1.2.2.2.2.2.1,()))))))) (fun r12=>(bnd (lz5 (r11.1.1,(r11.1.2.1,(r11.1.2.2.1,(r11.1.2.2.2.1,(r11.1.2.2.2.2.1,(r11.1.2.2.2.2.2.1,()))))))) (fun r13=>(bnd (pzO (r12.1.1,(r13.1.1,()))) (fun r14=>(cnd r14.1.1 (bnd (czK (r11.1.1,(r11.1.2.1,(r11.1.2.2.1,(r11.1.2.2.2.1,()))))) (fun r15=>(bnd (dzv (r11.1.1,(r11.1.2.1,(r11.1.2.2.1,(r11.1.2.2.2.1,()))))) (fun r16=>(bnd (dzV (r15.1.1,(r16.1.1,()))) (fun r17=>(cnd r17.1.1 (some (((ieq (len x11.2.2.2.1) 2),()),())) (some ((false,()),()))))))))) (some ((false,()),()))))))))) (some ((false,()),()))) (some ((false,()),()))) (some ((false,()),()))))):=(FnD.eqC V ozR lzv 13 (x1,(x2,(x3,(x4,(x5,(x6,(x7,(x8,(x9,(x10,(x11,())))))))))))).trans (by kernel_rfl)
theorem RzD:CallsOk Tryz.prog gls gvs 4 JzS:=FnD.ok (F:=lzv) (cs:=ozR) V_ok (kC PzG (kC wzV (kC Ezx (kC Gze (kC qzh (kC xzn (kC IzV (kC uzV (kC wGot_k (kC yzT (kC zzL (kC JzJ (kC kz7 (kC uz7 kN)))))))))))))) Tryz.func4 (by decide) (by kernel_rfl)
end Go.Proofs.YtdfbhjpmdjmdaaaGreatDoor
