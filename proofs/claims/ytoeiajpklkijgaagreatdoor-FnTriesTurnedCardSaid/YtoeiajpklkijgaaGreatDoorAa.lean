/- What the functions come to: printed by program. Of no condition. -/
import Derived.Test.YtoeiajpklkijgaaGreatDoorX0
set_option linter.unusedVariables false
set_option maxRecDepth 100000
namespace Go.Proofs.YtoeiajpklkijgaaGreatDoor
open Go.TV
noncomputable def wBig_F:FnD:={f:=6,fn:=Tryz.f6,ps:=[pa (.sl (.int .u8))],rs:=[rt .bool]}
noncomputable def wBig_c:List (Nat×Sig):=[]
noncomputable def wBig_d:(List Int)×Unit→Option ((Bool×Unit)×Unit):=wBig_F.d V wBig_c
noncomputable abbrev wBig_g:Sig:=wBig_F.t.sig wBig_d
theorem wBig_b (x1:(List Int)):wBig_d (x1,())=some (((igt (len x1) 1048576),()),()):=(FnD.eq V wBig_c wBig_F (x1,())).trans (by kernel_rfl)
theorem wBig_k:CallsOk Tryz.prog gls gvs 6 wBig_g:=FnD.ok (F:=wBig_F) (cs:=wBig_c) V_ok kN Tryz.func6 (by decide) (by kernel_rfl)
noncomputable def sL01New_F:FnD:={f:=34,fn:=Tryz.f34,ps:=[pa (.sl (.int .u8))],rs:=[⟨TL01Cur, .sh,true⟩],al:=true,cuts:=[(3,[.val 0 (.sl (.int .u8)) .sh, .val 3 (.int .i64) .sh, .val 4 (.int .i64) .sh])]}
noncomputable def sL01New_c:List (Nat×Sig):=[]
noncomputable def sL01New_d:(List Int)×Unit→Option ((tL01Cur×Unit)×Unit):=sL01New_F.d V sL01New_c
noncomputable abbrev sL01New_g:Sig:=sL01New_F.t.sig sL01New_d
noncomputable def sL01New_D3:(List Int)×Int×Int×Unit→Option ((tL01Cur×Unit)×Unit):=sL01New_F.D V sL01New_c 3
theorem sL01New_b (x1:(List Int)):sL01New_d (x1,())=sL01New_D3 (x1,((iadd .i64 76801 (len x1)),(0,()))):=(FnD.eq V sL01New_c sL01New_F (x1,())).trans (by kernel_rfl)
theorem sL01New_q3 (x1:(List Int)) (x2:Int) (x3:Int):sL01New_D3 (x1,(x2,(x3,())))=cnd (ilt x3 (len x1)) (cnd (ilt x3 4000) (cnd (inb x3 (len x1)) (sL01New_D3 (x1,((iand .i64 (iadd .i64 (iadd .i64 (imul .i64 x2 131) (iconv .i64 (rd 0 x1 x3))) 7) 1073741823),((iadd .i64 x3 1),())))) none) (some (((x1,(0,(x2,()))),()),()))) (some (((x1,(0,(x2,()))),()),())):=(FnD.eqC V sL01New_c sL01New_F 3 (x1,(x2,(x3,())))).trans (by kernel_rfl)
theorem sL01New_k:CallsOk Tryz.prog gls gvs 34 sL01New_g:=FnD.ok (F:=sL01New_F) (cs:=sL01New_c) V_ok kN Tryz.func34 (by decide) (by kernel_rfl)
noncomputable def sL01Byte_F:FnD:={f:=58,fn:=Tryz.f58,ps:=[⟨TL01Cur, .sh,true,true,none⟩],rs:=[rt (.int .i64)],al:=true}
noncomputable def sL01Byte_c:List (Nat×Sig):=[]
noncomputable def sL01Byte_d:tL01Cur×Unit→Option ((Int×Unit)×tL01Cur×Unit):=sL01Byte_F.d V sL01Byte_c
noncomputable abbrev sL01Byte_g:Sig:=sL01Byte_F.t.sig sL01Byte_d
theorem sL01Byte_b (x1:tL01Cur):sL01Byte_d (x1,())=cnd (nn 33) (cnd (nn 45) (cnd (ilt x1.2.1 (len x1.1)) (cnd (inb x1.2.1 (len x1.1)) (some (((iand .i64 (iadd .i64 (iand .i64 (ixor .i64 (ishr .i64 (iadd .i64 (imul .i64 x1.2.2.1 6364136223846793005) 1442695040888963407) 33) (ishr .i64 (iadd .i64 (imul .i64 x1.2.2.1 6364136223846793005) 1442695040888963407) 45)) 255) (iconv .i64 (rd 0 x1.1 x1.2.1))) 255),()),((x1.1,((iadd .i64 x1.2.1 1),((iadd .i64 (imul .i64 x1.2.2.1 6364136223846793005) 1442695040888963407),x1.2.2.2))),()))) none) (some (((iand .i64 (ixor .i64 (ishr .i64 (iadd .i64 (imul .i64 x1.2.2.1 6364136223846793005) 1442695040888963407) 33) (ishr .i64 (iadd .i64 (imul .i64 x1.2.2.1 6364136223846793005) 1442695040888963407) 45)) 255),()),((x1.1,(x1.2.1,((iadd .i64 (imul .i64 x1.2.2.1 6364136223846793005) 1442695040888963407),x1.2.2.2))),())))) none) none:=(FnD.eq V sL01Byte_c sL01Byte_F (x1,())).trans (by kernel_rfl)
theorem sL01Byte_k:CallsOk Tryz.prog gls gvs 58 sL01Byte_g:=FnD.ok (F:=sL01Byte_F) (cs:=sL01Byte_c) V_ok kN Tryz.func58 (by decide) (by kernel_rfl)
noncomputable def sL01Below_F:FnD:={f:=59,fn:=Tryz.f59,ps:=[⟨TL01Cur, .sh,true,true,none⟩,pa (.int .i64)],rs:=[rt (.int .i64)],al:=true}
noncomputable def sL01Below_c:List (Nat×Sig):=[(58,sL01Byte_g)]
noncomputable def sL01Below_d:tL01Cur×Int×Unit→Option ((Int×Unit)×tL01Cur×Unit):=sL01Below_F.d V sL01Below_c
noncomputable abbrev sL01Below_g:Sig:=sL01Below_F.t.sig sL01Below_d
theorem sL01Below_b (x1:tL01Cur) (x2:Int):sL01Below_d (x1,(x2,()))=cnd (ile x2 0) (some ((0,()),(x1,()))) (cnd (ile x2 256) (bnd (sL01Byte_d (x1,())) (fun r2=>(cnd (nz x2) (some (((irem r2.1.1 x2),()),(r2.2.1,()))) none))) (bnd (sL01Byte_d (x1,())) (fun r2=>(bnd (sL01Byte_d (r2.2.1,())) (fun r3=>(bnd (sL01Byte_d (r3.2.1,())) (fun r4=>(bnd (sL01Byte_d (r4.2.1,())) (fun r5=>(cnd (nz x2) (some (((irem (iadd .i64 (iadd .i64 (iadd .i64 (imul .i64 r2.1.1 16777216) (imul .i64 r3.1.1 65536)) (imul .i64 r4.1.1 256)) r5.1.1) x2),()),(r5.2.1,()))) none)))))))))):=(FnD.eq V sL01Below_c sL01Below_F (x1,(x2,()))).trans (by kernel_rfl)
theorem sL01Below_k:CallsOk Tryz.prog gls gvs 59 sL01Below_g:=FnD.ok (F:=sL01Below_F) (cs:=sL01Below_c) V_ok (kC sL01Byte_k kN) Tryz.func59 (by decide) (by kernel_rfl)
noncomputable def sL01Pick_F:FnD:={f:=86,fn:=Tryz.f86,ps:=[⟨TL01Cur, .sh,true,true,none⟩,pa (.sl .str)],rs:=[rt .str],al:=true}
noncomputable def sL01Pick_c:List (Nat×Sig):=[(59,sL01Below_g)]
noncomputable def sL01Pick_d:tL01Cur× (List ByteArray)×Unit→Option ((ByteArray×Unit)×tL01Cur×Unit):=sL01Pick_F.d V sL01Pick_c
noncomputable abbrev sL01Pick_g:Sig:=sL01Pick_F.t.sig sL01Pick_d
theorem sL01Pick_b (x1:tL01Cur) (x2:(List ByteArray)):sL01Pick_d (x1,(x2,()))=bnd (sL01Below_d (x1,((len x2),()))) (fun r2=>(cnd (inb r2.1.1 (len x2)) (some (((rd (bs []) x2 r2.1.1),()),(r2.2.1,()))) none)):=(FnD.eq V sL01Pick_c sL01Pick_F (x1,(x2,()))).trans (by kernel_rfl)
theorem sL01Pick_k:CallsOk Tryz.prog gls gvs 86 sL01Pick_g:=FnD.ok (F:=sL01Pick_F) (cs:=sL01Pick_c) V_ok (kC sL01Below_k kN) Tryz.func86 (by decide) (by kernel_rfl)
noncomputable def sL19Key_F:FnD:={f:=35,fn:=Tryz.f35,ps:=[⟨TL01Cur, .sh,true,true,none⟩],rs:=[rt .str],al:=true}
noncomputable def sL19Key_c:List (Nat×Sig):=[(86,sL01Pick_g)]
noncomputable def sL19Key_d:tL01Cur×Unit→Option ((ByteArray×Unit)×tL01Cur×Unit):=sL19Key_F.d V sL19Key_c
noncomputable abbrev sL19Key_g:Sig:=sL19Key_F.t.sig sL19Key_d
theorem sL19Key_b (x1:tL01Cur):sL19Key_d (x1,())=bnd (sL01Pick_d (x1,(((bs [97,97,97,97])::((bs [97,97,97,98])::((bs [97,97,98,98])::((bs [97,98,99,100])::((bs [98,98,98,98])::((bs [98,0,1,99])::((bs [122,122,122,122])::((bs [122,122,122,97])::((bs [99,99,99,99])::([]:List ByteArray)))))))))),()))) (fun r1=>(some ((r1.1.1,()),(r1.2.1,())))):=(FnD.eq V sL19Key_c sL19Key_F (x1,())).trans (by kernel_rfl)
theorem sL19Key_k:CallsOk Tryz.prog gls gvs 35 sL19Key_g:=FnD.ok (F:=sL19Key_F) (cs:=sL19Key_c) V_ok (kC sL01Pick_k kN) Tryz.func35 (by decide) (by kernel_rfl)
noncomputable def sL01PickInt_F:FnD:={f:=45,fn:=Tryz.f45,ps:=[⟨TL01Cur, .sh,true,true,none⟩,pa (.sl (.int .i64))],rs:=[rt (.int .i64)],al:=true}
noncomputable def sL01PickInt_c:List (Nat×Sig):=[(59,sL01Below_g)]
noncomputable def sL01PickInt_d:tL01Cur× (List Int)×Unit→Option ((Int×Unit)×tL01Cur×Unit):=sL01PickInt_F.d V sL01PickInt_c
noncomputable abbrev sL01PickInt_g:Sig:=sL01PickInt_F.t.sig sL01PickInt_d
theorem sL01PickInt_b (x1:tL01Cur) (x2:(List Int)):sL01PickInt_d (x1,(x2,()))=bnd (sL01Below_d (x1,((len x2),()))) (fun r2=>(cnd (inb r2.1.1 (len x2)) (some (((rd 0 x2 r2.1.1),()),(r2.2.1,()))) none)):=(FnD.eq V sL01PickInt_c sL01PickInt_F (x1,(x2,()))).trans (by kernel_rfl)
theorem sL01PickInt_k:CallsOk Tryz.prog gls gvs 45 sL01PickInt_g:=FnD.ok (F:=sL01PickInt_F) (cs:=sL01PickInt_c) V_ok (kC sL01Below_k kN) Tryz.func45 (by decide) (by kernel_rfl)
noncomputable def sL01Text_F:FnD:={f:=87,fn:=Tryz.f87,ps:=[⟨TL01Cur, .sh,true,true,none⟩,pa (.int .i64)],rs:=[rt .str],al:=true,joins:=[3],cuts:=[(3,[.val 1 (.int .i64) .sh, .box 0 TL01Cur .sh, .ptr 0 0 0]),(5,[.val 1 (.int .i64) .sh, .val 5 (.sl (.int .u8)) (.own 0 .sh), .val 6 (.int .i64) .sh, .box 0 TL01Cur .sh, .ptr 0 0 0])]}
noncomputable def sL01Text_c:List (Nat×Sig):=[(58,sL01Byte_g)]
noncomputable def sL01Text_d:tL01Cur×Int×Unit→Option ((ByteArray×Unit)×tL01Cur×Unit):=sL01Text_F.d V sL01Text_c
noncomputable abbrev sL01Text_g:Sig:=sL01Text_F.t.sig sL01Text_d
noncomputable def sL01Text_D3:Int×tL01Cur×Unit→Option ((ByteArray×Unit)×tL01Cur×Unit):=sL01Text_F.D V sL01Text_c 3
noncomputable def sL01Text_D5:Int× (List Int)×Int×tL01Cur×Unit→Option ((ByteArray×Unit)×tL01Cur×Unit):=sL01Text_F.D V sL01Text_c 5
theorem sL01Text_b (x1:tL01Cur) (x2:Int):sL01Text_d (x1,(x2,()))=cnd (igt x2 5000) (sL01Text_D3 (5000,(x1,()))) (sL01Text_D3 (x2,(x1,()))):=(FnD.eq V sL01Text_c sL01Text_F (x1,(x2,()))).trans (by kernel_rfl)
theorem sL01Text_q3 (x1:Int) (x2:tL01Cur):sL01Text_D3 (x1,(x2,()))=sL01Text_D5 (x1,(([]:List Int),(0,(x2,())))):=(FnD.eqC V sL01Text_c sL01Text_F 3 (x1,(x2,()))).trans (by kernel_rfl)
theorem sL01Text_q5 (x1:Int) (x2:(List Int)) (x3:Int) (x4:tL01Cur):sL01Text_D5 (x1,(x2,(x3,(x4,()))))=cnd (ilt x3 x1) (bnd (sL01Byte_d (x4,())) (fun r4=>(cnd (fits ((len x2)+(len ((iconv .u8 r4.1.1)::([]:List Int)))) 1) (sL01Text_D5 (x1,((app x2 ((iconv .u8 r4.1.1)::([]:List Int))),((iadd .i64 x3 1),(r4.2.1,()))))) none))) (some (((sof x2),()),(x4,()))):=(FnD.eqC V sL01Text_c sL01Text_F 5 (x1,(x2,(x3,(x4,()))))).trans (by kernel_rfl)
theorem sL01Text_k:CallsOk Tryz.prog gls gvs 87 sL01Text_g:=FnD.ok (F:=sL01Text_F) (cs:=sL01Text_c) V_ok (kC sL01Byte_k kN) Tryz.func87 (by decide) (by kernel_rfl)
noncomputable def sL19Pairs_F:FnD:={f:=36,fn:=Tryz.f36,ps:=[⟨TL01Cur, .sh,true,true,none⟩],rs:=[⟨(.sl TPair),(.own 0 .sh),false⟩],al:=true,cuts:=[(8,[.val 3 (.sl TPair) (.own 0 .sh), .val 4 (.int .i64) .sh, .val 6 (.sl TPair) (.own 0 .sh), .val 7 (.int .i64) .sh, .box 0 TL01Cur .sh, .box 5 TPair .sh, .ptr 0 0 0, .ptr 5 5 0]),(14,[.val 3 (.sl TPair) (.own 0 .sh), .val 4 (.int .i64) .sh, .val 6 (.sl TPair) (.own 0 .sh), .val 8 (.int .i64) .sh, .box 0 TL01Cur .sh, .box 5 TPair .sh, .ptr 0 0 0, .ptr 5 5 0]),(3,[.val 3 (.sl TPair) (.own 0 .sh), .val 4 (.int .i64) .sh, .box 0 TL01Cur .sh, .ptr 0 0 0])]}
noncomputable def sL19Pairs_c:List (Nat×Sig):=[(59,sL01Below_g),(35,sL19Key_g),(45,sL01PickInt_g),(87,sL01Text_g)]
noncomputable def sL19Pairs_d:tL01Cur×Unit→Option (((List tPair)×Unit)×tL01Cur×Unit):=sL19Pairs_F.d V sL19Pairs_c
noncomputable abbrev sL19Pairs_g:Sig:=sL19Pairs_F.t.sig sL19Pairs_d
noncomputable def sL19Pairs_D8:(List tPair)×Int× (List tPair)×Int×tL01Cur×tPair×Unit→Option (((List tPair)×Unit)×tL01Cur×Unit):=sL19Pairs_F.D V sL19Pairs_c 8
noncomputable def sL19Pairs_D14:(List tPair)×Int× (List tPair)×Int×tL01Cur×tPair×Unit→Option (((List tPair)×Unit)×tL01Cur×Unit):=sL19Pairs_F.D V sL19Pairs_c 14
noncomputable def sL19Pairs_D3:(List tPair)×Int×tL01Cur×Unit→Option (((List tPair)×Unit)×tL01Cur×Unit):=sL19Pairs_F.D V sL19Pairs_c 3
theorem sL19Pairs_b (x1:tL01Cur):sL19Pairs_d (x1,())=sL19Pairs_D3 (([]:List tPair),(0,(x1,()))):=(FnD.eq V sL19Pairs_c sL19Pairs_F (x1,())).trans (by kernel_rfl)
theorem sL19Pairs_q8 (x1:(List tPair)) (x2:Int) (x3:(List tPair)) (x4:Int) (x5:tL01Cur) (x6:tPair):sL19Pairs_D8 (x1,(x2,(x3,(x4,(x5,(x6,()))))))=cnd (ilt x4 (len x1)) (cnd (inb x4 (len x1)) (cnd (slt (rd zPair x1 x4).1 x6.1) (cnd (inb x4 (len x1)) (cnd (fits ((len x3)+(len ((rd zPair x1 x4)::([]:List tPair)))) 2) (sL19Pairs_D8 (x1,(x2,((app x3 ((rd zPair x1 x4)::([]:List tPair))),((iadd .i64 x4 1),(x5,(x6,()))))))) none) none) (sL19Pairs_D8 (x1,(x2,(x3,((iadd .i64 x4 1),(x5,(x6,())))))))) none) (cnd (fits ((len x3)+(len (x6::([]:List tPair)))) 2) (sL19Pairs_D14 (x1,(x2,((app x3 (x6::([]:List tPair))),(0,(x5,(x6,()))))))) none):=(FnD.eqC V sL19Pairs_c sL19Pairs_F 8 (x1,(x2,(x3,(x4,(x5,(x6,()))))))).trans (by kernel_rfl)
theorem sL19Pairs_q14 (x1:(List tPair)) (x2:Int) (x3:(List tPair)) (x4:Int) (x5:tL01Cur) (x6:tPair):sL19Pairs_D14 (x1,(x2,(x3,(x4,(x5,(x6,()))))))=cnd (ilt x4 (len x1)) (cnd (inb x4 (len x1)) (cnd (sgt (rd zPair x1 x4).1 x6.1) (cnd (inb x4 (len x1)) (cnd (fits ((len x3)+(len ((rd zPair x1 x4)::([]:List tPair)))) 2) (sL19Pairs_D14 (x1,(x2,((app x3 ((rd zPair x1 x4)::([]:List tPair))),((iadd .i64 x4 1),(x5,(x6,()))))))) none) none) (sL19Pairs_D14 (x1,(x2,(x3,((iadd .i64 x4 1),(x5,(x6,())))))))) none) (sL19Pairs_D3 (x3,((iadd .i64 x2 1),(x5,())))):=(FnD.eqC V sL19Pairs_c sL19Pairs_F 14 (x1,(x2,(x3,(x4,(x5,(x6,()))))))).trans (by kernel_rfl)
theorem sL19Pairs_q3 (x1:(List tPair)) (x2:Int) (x3:tL01Cur):sL19Pairs_D3 (x1,(x2,(x3,())))=bnd (sL01Below_d (x3,(8,()))) (fun r3=>(cnd (ilt x2 r3.1.1) (bnd (sL19Key_d (r3.2.1,())) (fun r4=>(bnd (sL01PickInt_d (r4.2.1,((1::(3::(40::(2::(33::([]:List Int)))))),()))) (fun r5=>(bnd (sL01Text_d (r5.2.1,(r5.1.1,()))) (fun r6=>(sL19Pairs_D8 (x1,(x2,(([]:List tPair),(0,(r6.2.1,((r4.1.1,(r6.1.1,())),()))))))))))))) (some ((x1,()),(r3.2.1,()))))):=(FnD.eqC V sL19Pairs_c sL19Pairs_F 3 (x1,(x2,(x3,())))).trans (by kernel_rfl)
theorem sL19Pairs_k:CallsOk Tryz.prog gls gvs 36 sL19Pairs_g:=FnD.ok (F:=sL19Pairs_F) (cs:=sL19Pairs_c) V_ok (kC sL01Below_k (kC sL19Key_k (kC sL01PickInt_k (kC sL01Text_k kN)))) Tryz.func36 (by decide) (by kernel_rfl)
noncomputable def sDrawPairs_F:FnD:={f:=7,fn:=Tryz.f7,ps:=[pa (.sl (.int .u8))],rs:=[⟨(.sl TPair),(.own 0 .sh),false⟩,rt .str]}
noncomputable def sDrawPairs_c:List (Nat×Sig):=[(34,sL01New_g),(35,sL19Key_g),(36,sL19Pairs_g)]
noncomputable def sDrawPairs_d:(List Int)×Unit→Option (((List tPair)×ByteArray×Unit)×Unit):=sDrawPairs_F.d V sDrawPairs_c
noncomputable abbrev sDrawPairs_g:Sig:=sDrawPairs_F.t.sig sDrawPairs_d
theorem sDrawPairs_b (x1:(List Int)):sDrawPairs_d (x1,())=bnd (sL01New_d (x1,())) (fun r1=>(bnd (sL19Key_d (r1.1.1,())) (fun r2=>(bnd (sL19Pairs_d (r2.2.1,())) (fun r3=>(some ((r3.1.1,(r2.1.1,())),()))))))):=(FnD.eq V sDrawPairs_c sDrawPairs_F (x1,())).trans (by kernel_rfl)
theorem sDrawPairs_k:CallsOk Tryz.prog gls gvs 7 sDrawPairs_g:=FnD.ok (F:=sDrawPairs_F) (cs:=sDrawPairs_c) V_ok (kC sL01New_k (kC sL19Key_k (kC sL19Pairs_k kN))) Tryz.func7 (by decide) (by kernel_rfl)
noncomputable def iPairsOk_F:FnD:={f:=37,fn:=Tryz.f37,ps:=[pa (.sl TPair)],rs:=[rt .bool],cuts:=[(4,[.val 0 (.sl TPair) .sh, .val 8 (.sl TPair) .sh, .val 9 (.int .i64) .sh, .val 10 (.int .i64) .sh])]}
noncomputable def iPairsOk_c:List (Nat×Sig):=[]
noncomputable def iPairsOk_d:(List tPair)×Unit→Option ((Bool×Unit)×Unit):=iPairsOk_F.d V iPairsOk_c
noncomputable abbrev iPairsOk_g:Sig:=iPairsOk_F.t.sig iPairsOk_d
noncomputable def iPairsOk_D4:(List tPair)× (List tPair)×Int×Int×Unit→Option ((Bool×Unit)×Unit):=iPairsOk_F.D V iPairsOk_c 4
theorem iPairsOk_b (x1:(List tPair)):iPairsOk_d (x1,())=cnd (igt (len x1) 12) (some ((false,()),())) (iPairsOk_D4 (x1,(x1,((len x1),(0,()))))):=(FnD.eq V iPairsOk_c iPairsOk_F (x1,())).trans (by kernel_rfl)
theorem iPairsOk_q4 (x1:(List tPair)) (x2:(List tPair)) (x3:Int) (x4:Int):iPairsOk_D4 (x1,(x2,(x3,(x4,()))))=cnd (ilt x4 x3) (cnd (inb x4 (len x2)) (cnd (ine (ssz (rd zPair x2 x4).1) 4) (some ((false,()),())) (cnd (ilt (ssz (rd zPair x2 x4).2.1) 1) (some ((false,()),())) (cnd (igt (ssz (rd zPair x2 x4).2.1) 60) (some ((false,()),())) (cnd (igt x4 0) (cnd (inb (isub .i64 x4 1) (len x1)) (cnd (sge (rd zPair x1 (isub .i64 x4 1)).1 (rd zPair x2 x4).1) (some ((false,()),())) (iPairsOk_D4 (x1,(x2,(x3,((iadd .i64 x4 1),())))))) none) (iPairsOk_D4 (x1,(x2,(x3,((iadd .i64 x4 1),()))))))))) none) (some ((true,()),())):=(FnD.eqC V iPairsOk_c iPairsOk_F 4 (x1,(x2,(x3,(x4,()))))).trans (by kernel_rfl)
theorem iPairsOk_k:CallsOk Tryz.prog gls gvs 37 iPairsOk_g:=FnD.ok (F:=iPairsOk_F) (cs:=iPairsOk_c) V_ok kN Tryz.func37 (by decide) (by kernel_rfl)
noncomputable def iNibblesOf_F:FnD:={f:=39,fn:=Tryz.f39,ps:=[pa .str],rs:=[⟨(.sl (.int .i64)),(.own 0 .sh),false⟩],cuts:=[(3,[.val 0 .str .sh, .val 3 (.sl (.int .i64)) (.own 0 .sh), .val 4 (.int .i64) .sh])]}
noncomputable def iNibblesOf_c:List (Nat×Sig):=[]
noncomputable def iNibblesOf_d:ByteArray×Unit→Option (((List Int)×Unit)×Unit):=iNibblesOf_F.d V iNibblesOf_c
noncomputable abbrev iNibblesOf_g:Sig:=iNibblesOf_F.t.sig iNibblesOf_d
noncomputable def iNibblesOf_D3:ByteArray× (List Int)×Int×Unit→Option (((List Int)×Unit)×Unit):=iNibblesOf_F.D V iNibblesOf_c 3
theorem iNibblesOf_b (x1:ByteArray):iNibblesOf_d (x1,())=iNibblesOf_D3 (x1,(([]:List Int),(0,()))):=(FnD.eq V iNibblesOf_c iNibblesOf_F (x1,())).trans (by kernel_rfl)
theorem iNibblesOf_q3 (x1:ByteArray) (x2:(List Int)) (x3:Int):iNibblesOf_D3 (x1,(x2,(x3,())))=cnd (ilt x3 (ssz x1)) (cnd (inb x3 (ssz x1)) (cnd (nn 4) (cnd (inb x3 (ssz x1)) (cnd (fits ((len x2)+(len ((iconv .i64 (ishr .u8 (sat x1 x3) 4))::((iconv .i64 (iand .u8 (sat x1 x3) 15))::([]:List Int))))) 1) (iNibblesOf_D3 (x1,((app x2 ((iconv .i64 (ishr .u8 (sat x1 x3) 4))::((iconv .i64 (iand .u8 (sat x1 x3) 15))::([]:List Int)))),((iadd .i64 x3 1),())))) none) none) none) none) (some ((x2,()),())):=(FnD.eqC V iNibblesOf_c iNibblesOf_F 3 (x1,(x2,(x3,())))).trans (by kernel_rfl)
theorem iNibblesOf_k:CallsOk Tryz.prog gls gvs 39 iNibblesOf_g:=FnD.ok (F:=iNibblesOf_F) (cs:=iNibblesOf_c) V_ok kN Tryz.func39 (by decide) (by kernel_rfl)
noncomputable def iNibblesOk_F:FnD:={f:=143,fn:=Tryz.f143,ps:=[pa (.sl (.int .i64))],rs:=[rt .bool],cuts:=[(2,[.val 0 (.sl (.int .i64)) .sh, .val 5 (.sl (.int .i64)) .sh, .val 6 (.int .i64) .sh, .val 7 (.int .i64) .sh])]}
noncomputable def iNibblesOk_c:List (Nat×Sig):=[]
noncomputable def iNibblesOk_d:(List Int)×Unit→Option ((Bool×Unit)×Unit):=iNibblesOk_F.d V iNibblesOk_c
noncomputable abbrev iNibblesOk_g:Sig:=iNibblesOk_F.t.sig iNibblesOk_d
noncomputable def iNibblesOk_D2:(List Int)× (List Int)×Int×Int×Unit→Option ((Bool×Unit)×Unit):=iNibblesOk_F.D V iNibblesOk_c 2
theorem iNibblesOk_b (x1:(List Int)):iNibblesOk_d (x1,())=iNibblesOk_D2 (x1,(x1,((len x1),(0,())))):=(FnD.eq V iNibblesOk_c iNibblesOk_F (x1,())).trans (by kernel_rfl)
theorem iNibblesOk_q2 (x1:(List Int)) (x2:(List Int)) (x3:Int) (x4:Int):iNibblesOk_D2 (x1,(x2,(x3,(x4,()))))=cnd (ilt x4 x3) (cnd (inb x4 (len x2)) (cnd (ilt (rd 0 x2 x4) 0) (some ((false,()),())) (cnd (igt (rd 0 x2 x4) 15) (some ((false,()),())) (iNibblesOk_D2 (x1,(x2,(x3,((iadd .i64 x4 1),()))))))) none) (some (((ile (len x1) 64),()),())):=(FnD.eqC V iNibblesOk_c iNibblesOk_F 2 (x1,(x2,(x3,(x4,()))))).trans (by kernel_rfl)
theorem iNibblesOk_k:CallsOk Tryz.prog gls gvs 143 iNibblesOk_g:=FnD.ok (F:=iNibblesOk_F) (cs:=iNibblesOk_c) V_ok kN Tryz.func143 (by decide) (by kernel_rfl)
noncomputable def iPrefixText_F:FnD:={f:=94,fn:=Tryz.f94,ps:=[pa (.sl (.int .i64)),pa .bool],rs:=[rt .str,rt .bool],joins:=[6,9],cuts:=[(6,[.val 0 (.sl (.int .i64)) .sh, .val 6 (.int .i64) .sh]),(9,[.val 0 (.sl (.int .i64)) .sh, .val 6 (.int .i64) .sh]),(11,[.val 0 (.sl (.int .i64)) .sh, .val 7 (.sl (.int .u8)) (.own 0 .sh), .val 8 (.int .i64) .sh])]}
noncomputable def iPrefixText_c:List (Nat×Sig):=[(143,iNibblesOk_g)]
noncomputable def iPrefixText_d:(List Int)×Bool×Unit→Option ((ByteArray×Bool×Unit)×Unit):=iPrefixText_F.d V iPrefixText_c
noncomputable abbrev iPrefixText_g:Sig:=iPrefixText_F.t.sig iPrefixText_d
noncomputable def iPrefixText_D6:(List Int)×Int×Unit→Option ((ByteArray×Bool×Unit)×Unit):=iPrefixText_F.D V iPrefixText_c 6
noncomputable def iPrefixText_D9:(List Int)×Int×Unit→Option ((ByteArray×Bool×Unit)×Unit):=iPrefixText_F.D V iPrefixText_c 9
noncomputable def iPrefixText_D11:(List Int)× (List Int)×Int×Unit→Option ((ByteArray×Bool×Unit)×Unit):=iPrefixText_F.D V iPrefixText_c 11
theorem iPrefixText_b (x1:(List Int)) (x2:Bool):iPrefixText_d (x1,(x2,()))=bnd (iNibblesOk_d (x1,())) (fun r2=>(cnd (bnot r2.1.1) (some (zL21Cur,())) (cnd x2 (iPrefixText_D6 (x1,(32,()))) (iPrefixText_D6 (x1,(0,())))))):=(FnD.eq V iPrefixText_c iPrefixText_F (x1,(x2,()))).trans (by kernel_rfl)
theorem iPrefixText_q6 (x1:(List Int)) (x2:Int):iPrefixText_D6 (x1,(x2,()))=cnd (nz 2) (cnd (ieq (irem (len x1) 2) 1) (cnd (inb 0 (len x1)) (cnd (inb2 1 (len x1) (len x1)) (iPrefixText_D9 ((sub x1 1 (len x1)),((iadd .i64 x2 (iadd .i64 16 (rd 0 x1 0))),()))) none) none) (iPrefixText_D9 (x1,(x2,())))) none:=(FnD.eqC V iPrefixText_c iPrefixText_F 6 (x1,(x2,()))).trans (by kernel_rfl)
theorem iPrefixText_q9 (x1:(List Int)) (x2:Int):iPrefixText_D9 (x1,(x2,()))=iPrefixText_D11 (x1,(((iconv .u8 x2)::([]:List Int)),(0,()))):=(FnD.eqC V iPrefixText_c iPrefixText_F 9 (x1,(x2,()))).trans (by kernel_rfl)
theorem iPrefixText_q11 (x1:(List Int)) (x2:(List Int)) (x3:Int):iPrefixText_D11 (x1,(x2,(x3,())))=cnd (ilt x3 (len x1)) (cnd (inb x3 (len x1)) (cnd (nn 4) (cnd (inb (iadd .i64 x3 1) (len x1)) (cnd (fits ((len x2)+(len ((iconv .u8 (ior .i64 (ishl .i64 (rd 0 x1 x3) 4) (rd 0 x1 (iadd .i64 x3 1))))::([]:List Int)))) 1) (iPrefixText_D11 (x1,((app x2 ((iconv .u8 (ior .i64 (ishl .i64 (rd 0 x1 x3) 4) (rd 0 x1 (iadd .i64 x3 1))))::([]:List Int))),((iadd .i64 x3 2),())))) none) none) none) none) (some (((sof x2),(true,())),())):=(FnD.eqC V iPrefixText_c iPrefixText_F 11 (x1,(x2,(x3,())))).trans (by kernel_rfl)
theorem iPrefixText_k:CallsOk Tryz.prog gls gvs 94 iPrefixText_g:=FnD.ok (F:=iPrefixText_F) (cs:=iPrefixText_c) V_ok (kC iNibblesOk_k kN) Tryz.func94 (by decide) (by kernel_rfl)
noncomputable def iCommon_F:FnD:={f:=89,fn:=Tryz.f89,ps:=[pa (.sl (.int .i64)),pa (.sl (.int .i64))],rs:=[rt (.int .i64)],cuts:=[(2,[.val 0 (.sl (.int .i64)) .sh, .val 1 (.sl (.int .i64)) .sh, .val 5 (.int .i64) .sh])]}
noncomputable def iCommon_c:List (Nat×Sig):=[]
noncomputable def iCommon_d:(List Int)× (List Int)×Unit→Option ((Int×Unit)×Unit):=iCommon_F.d V iCommon_c
noncomputable abbrev iCommon_g:Sig:=iCommon_F.t.sig iCommon_d
noncomputable def iCommon_D2:(List Int)× (List Int)×Int×Unit→Option ((Int×Unit)×Unit):=iCommon_F.D V iCommon_c 2
theorem iCommon_b (x1:(List Int)) (x2:(List Int)):iCommon_d (x1,(x2,()))=iCommon_D2 (x1,(x2,(0,()))):=(FnD.eq V iCommon_c iCommon_F (x1,(x2,()))).trans (by kernel_rfl)
theorem iCommon_q2 (x1:(List Int)) (x2:(List Int)) (x3:Int):iCommon_D2 (x1,(x2,(x3,())))=cnd (ilt x3 (len x1)) (cnd (ilt x3 (len x2)) (cnd (inb x3 (len x1)) (cnd (inb x3 (len x2)) (cnd (ieq (rd 0 x1 x3) (rd 0 x2 x3)) (iCommon_D2 (x1,(x2,((iadd .i64 x3 1),())))) (some ((x3,()),()))) none) none) (some ((x3,()),()))) (some ((x3,()),())):=(FnD.eqC V iCommon_c iCommon_F 2 (x1,(x2,(x3,())))).trans (by kernel_rfl)
theorem iCommon_k:CallsOk Tryz.prog gls gvs 89 iCommon_g:=FnD.ok (F:=iCommon_F) (cs:=iCommon_c) V_ok kN Tryz.func89 (by decide) (by kernel_rfl)
noncomputable def iSharedFrom_F:FnD:={f:=48,fn:=Tryz.f48,ps:=[pa (.sl TPair),pa (.int .i64)],rs:=[rt (.int .i64)],cuts:=[(4,[.val 1 (.int .i64) .sh, .val 5 (.sl (.int .i64)) .sh, .val 6 (.int .i64) .sh, .val 19 (.sl TPair) .sh, .val 20 (.int .i64) .sh, .val 21 (.int .i64) .sh])]}
noncomputable def iSharedFrom_c:List (Nat×Sig):=[(39,iNibblesOf_g),(89,iCommon_g)]
noncomputable def iSharedFrom_d:(List tPair)×Int×Unit→Option ((Int×Unit)×Unit):=iSharedFrom_F.d V iSharedFrom_c
noncomputable abbrev iSharedFrom_g:Sig:=iSharedFrom_F.t.sig iSharedFrom_d
noncomputable def iSharedFrom_D4:Int× (List Int)×Int× (List tPair)×Int×Int×Unit→Option ((Int×Unit)×Unit):=iSharedFrom_F.D V iSharedFrom_c 4
theorem iSharedFrom_b (x1:(List tPair)) (x2:Int):iSharedFrom_d (x1,(x2,()))=cnd (inb 0 (len x1)) (bnd (iNibblesOf_d ((rd zPair x1 0).1,())) (fun r2=>(cnd (inb2 x2 (len r2.1.1) (len r2.1.1)) (cnd (inb2 1 (len x1) (len x1)) (iSharedFrom_D4 (x2,((sub r2.1.1 x2 (len r2.1.1)),((len (sub r2.1.1 x2 (len r2.1.1))),((sub x1 1 (len x1)),((len (sub x1 1 (len x1))),(0,()))))))) none) none))) none:=(FnD.eq V iSharedFrom_c iSharedFrom_F (x1,(x2,()))).trans (by kernel_rfl)
theorem iSharedFrom_q4 (x1:Int) (x2:(List Int)) (x3:Int) (x4:(List tPair)) (x5:Int) (x6:Int):iSharedFrom_D4 (x1,(x2,(x3,(x4,(x5,(x6,()))))))=cnd (ilt x6 x5) (cnd (inb x6 (len x4)) (bnd (iNibblesOf_d ((rd zPair x4 x6).1,())) (fun r6=>(cnd (inb2 x1 (len r6.1.1) (len r6.1.1)) (bnd (iCommon_d (x2,((sub r6.1.1 x1 (len r6.1.1)),()))) (fun r7=>(iSharedFrom_D4 (x1,(x2,((imin x3 r7.1.1),(x4,(x5,((iadd .i64 x6 1),()))))))))) none))) none) (some ((x3,()),())):=(FnD.eqC V iSharedFrom_c iSharedFrom_F 4 (x1,(x2,(x3,(x4,(x5,(x6,()))))))).trans (by kernel_rfl)
theorem iSharedFrom_k:CallsOk Tryz.prog gls gvs 48 iSharedFrom_g:=FnD.ok (F:=iSharedFrom_F) (cs:=iSharedFrom_c) V_ok (kC iNibblesOf_k (kC iCommon_k kN)) Tryz.func48 (by decide) (by kernel_rfl)
noncomputable def iItemFits_F:FnD:={f:=138,fn:=Tryz.f138,ps:=[pa .item,pa (.int .i64)],rs:=[rt .bool],cuts:=[(6,[.val 1 (.int .i64) .sh, .val 34 (.sl .item) .sh, .val 35 (.int .i64) .sh, .val 36 (.int .i64) .sh])]}
noncomputable def iItemFits_c:List (Nat×Sig):=[]
noncomputable def iItemFits_d:ItemT×Int×Unit→Option ((Bool×Unit)×Unit):=iItemFits_F.d V iItemFits_c
noncomputable abbrev iItemFits_g:Sig:=iItemFits_F.t.sig iItemFits_d
noncomputable def iItemFits_D6:Int× (List ItemT)×Int×Int×Unit→Option ((Bool×Unit)×Unit):=iItemFits_F.D V iItemFits_c 6
theorem iItemFits_b (x1:ItemT) (x2:Int):iItemFits_d (x1,(x2,()))=cnd (bnot x1.l) (cnd (ile (ssz x1.s) 600) (some (((ieq (len x1.k) 0),()),())) (some ((false,()),()))) (cnd (sne x1.s (bs [])) (some ((false,()),())) (cnd (igt (len x1.k) 17) (some ((false,()),())) (cnd (ieq x2 0) (some ((false,()),())) (iItemFits_D6 (x2,(x1.k,((len x1.k),(0,())))))))):=(FnD.eq V iItemFits_c iItemFits_F (x1,(x2,()))).trans (by kernel_rfl)
theorem iItemFits_q6 (x1:Int) (x2:(List ItemT)) (x3:Int) (x4:Int):iItemFits_D6 (x1,(x2,(x3,(x4,()))))=cnd (ilt x4 x3) (cnd (inb x4 (len x2)) (bnd (iItemFits_d ((rd (ItemT.mk false (bs []) ([]:List ItemT)) x2 x4),((isub .i64 x1 1),()))) (fun r4=>(cnd (bnot r4.1.1) (some ((false,()),())) (iItemFits_D6 (x1,(x2,(x3,((iadd .i64 x4 1),())))))))) none) (some ((true,()),())):=(FnD.eqC V iItemFits_c iItemFits_F 6 (x1,(x2,(x3,(x4,()))))).trans (by kernel_rfl)
theorem iItemFits_k:CallsOk Tryz.prog gls gvs 138 iItemFits_g:=FnD.ok (F:=iItemFits_F) (cs:=iItemFits_c) V_ok kN Tryz.func138 (by decide) (by kernel_rfl)
noncomputable def iItemOk_F:FnD:={f:=92,fn:=Tryz.f92,ps:=[pa .item],rs:=[rt .bool]}
noncomputable def iItemOk_c:List (Nat×Sig):=[(138,iItemFits_g)]
noncomputable def iItemOk_d:ItemT×Unit→Option ((Bool×Unit)×Unit):=iItemOk_F.d V iItemOk_c
noncomputable abbrev iItemOk_g:Sig:=iItemOk_F.t.sig iItemOk_d
theorem iItemOk_b (x1:ItemT):iItemOk_d (x1,())=bnd (iItemFits_d (x1,(4,()))) (fun r1=>(some ((r1.1.1,()),()))):=(FnD.eq V iItemOk_c iItemOk_F (x1,())).trans (by kernel_rfl)
theorem iItemOk_k:CallsOk Tryz.prog gls gvs 92 iItemOk_g:=FnD.ok (F:=iItemOk_F) (cs:=iItemOk_c) V_ok (kC iItemFits_k kN) Tryz.func92 (by decide) (by kernel_rfl)
noncomputable def g_slices_Reverse_byte_byte_F:FnD:={f:=210,fn:=Tryz.f210,ps:=[⟨(.sl (.int .u8)),(.own 1 .sh),true,false,none⟩],rs:=[],fz:=[1000000003002012,1000000003003012],cuts:=[(1,[.val 0 (.sl (.int .u8)) (.own 1 .sh), .val 2 (.int .i64) .sh, .val 3 (.int .i64) .sh])]}
noncomputable def g_slices_Reverse_byte_byte_c:List (Nat×Sig):=[]
noncomputable def g_slices_Reverse_byte_byte_d:(List Int)×Unit→Option ((Unit)× (List Int)×Unit):=g_slices_Reverse_byte_byte_F.d V g_slices_Reverse_byte_byte_c
noncomputable abbrev g_slices_Reverse_byte_byte_g:Sig:=g_slices_Reverse_byte_byte_F.t.sig g_slices_Reverse_byte_byte_d
noncomputable def g_slices_Reverse_byte_byte_D1:(List Int)×Int×Int×Unit→Option ((Unit)× (List Int)×Unit):=g_slices_Reverse_byte_byte_F.D V g_slices_Reverse_byte_byte_c 1
theorem g_slices_Reverse_byte_byte_b (x1:(List Int)):g_slices_Reverse_byte_byte_d (x1,())=g_slices_Reverse_byte_byte_D1 (x1,(0,((isub .i64 (len x1) 1),()))):=(FnD.eq V g_slices_Reverse_byte_byte_c g_slices_Reverse_byte_byte_F (x1,())).trans (by kernel_rfl)
theorem g_slices_Reverse_byte_byte_q1 (x1:(List Int)) (x2:Int) (x3:Int):g_slices_Reverse_byte_byte_D1 (x1,(x2,(x3,())))=cnd (ilt x2 x3) (cnd (inb x3 (len x1)) (cnd (inb x2 (len x1)) (cnd (inb x2 (len x1)) (cnd (inb x3 (len (upd x1 x2 (rd 0 x1 x3)))) (g_slices_Reverse_byte_byte_D1 ((upd (upd x1 x2 (rd 0 x1 x3)) x3 (rd 0 x1 x2)),((iadd .i64 x2 1),((isub .i64 x3 1),())))) none) none) none) none) (some ((),(x1,()))):=(FnD.eqC V g_slices_Reverse_byte_byte_c g_slices_Reverse_byte_byte_F 1 (x1,(x2,(x3,())))).trans (by kernel_rfl)
theorem g_slices_Reverse_byte_byte_k:CallsOk Tryz.prog gls gvs 210 g_slices_Reverse_byte_byte_g:=FnD.ok (F:=g_slices_Reverse_byte_byte_F) (cs:=g_slices_Reverse_byte_byte_c) V_ok kN Tryz.func210 (by decide) (by kernel_rfl)
noncomputable def iNumText_F:FnD:={f:=179,fn:=Tryz.f179,ps:=[pa (.int .i64)],rs:=[rt .str],cuts:=[(2,[.val 0 (.int .i64) .sh, .val 3 (.sl (.int .u8)) (.own 0 .sh)])]}
noncomputable def iNumText_c:List (Nat×Sig):=[(210,g_slices_Reverse_byte_byte_g)]
noncomputable def iNumText_d:Int×Unit→Option ((ByteArray×Unit)×Unit):=iNumText_F.d V iNumText_c
noncomputable abbrev iNumText_g:Sig:=iNumText_F.t.sig iNumText_d
noncomputable def iNumText_D2:Int× (List Int)×Unit→Option ((ByteArray×Unit)×Unit):=iNumText_F.D V iNumText_c 2
theorem iNumText_b (x1:Int):iNumText_d (x1,())=iNumText_D2 (x1,(([]:List Int),())):=(FnD.eq V iNumText_c iNumText_F (x1,())).trans (by kernel_rfl)
theorem iNumText_q2 (x1:Int) (x2:(List Int)):iNumText_D2 (x1,(x2,()))=cnd (igt x1 0) (cnd (fits ((len x2)+(len ((iconv .u8 x1)::([]:List Int)))) 1) (cnd (nn 8) (iNumText_D2 ((ishr .i64 x1 8),((app x2 ((iconv .u8 x1)::([]:List Int))),()))) none) none) (bnd (g_slices_Reverse_byte_byte_d (x2,())) (fun r2=>(some (((sof r2.2.1),()),())))):=(FnD.eqC V iNumText_c iNumText_F 2 (x1,(x2,()))).trans (by kernel_rfl)
theorem iNumText_k:CallsOk Tryz.prog gls gvs 179 iNumText_g:=FnD.ok (F:=iNumText_F) (cs:=iNumText_c) V_ok (kC g_slices_Reverse_byte_byte_k kN) Tryz.func179 (by decide) (by kernel_rfl)
noncomputable def iLengthText_F:FnD:={f:=139,fn:=Tryz.f139,ps:=[pa (.int .i64),pa (.int .i64)],rs:=[rt .str]}
noncomputable def iLengthText_c:List (Nat×Sig):=[(179,iNumText_g)]
noncomputable def iLengthText_d:Int×Int×Unit→Option ((ByteArray×Unit)×Unit):=iLengthText_F.d V iLengthText_c
noncomputable abbrev iLengthText_g:Sig:=iLengthText_F.t.sig iLengthText_d
theorem iLengthText_b (x1:Int) (x2:Int):iLengthText_d (x1,(x2,()))=cnd (ile x2 55) (some (((sof ((iconv .u8 (iadd .i64 x1 x2))::([]:List Int))),()),())) (bnd (iNumText_d (x2,())) (fun r2=>(cnd (fits ((ssz (sof ((iconv .u8 (iadd .i64 (iadd .i64 x1 55) (ssz r2.1.1)))::([]:List Int))))+(ssz r2.1.1)) 1) (some (((scat (sof ((iconv .u8 (iadd .i64 (iadd .i64 x1 55) (ssz r2.1.1)))::([]:List Int))) r2.1.1),()),())) none))):=(FnD.eq V iLengthText_c iLengthText_F (x1,(x2,()))).trans (by kernel_rfl)
theorem iLengthText_k:CallsOk Tryz.prog gls gvs 139 iLengthText_g:=FnD.ok (F:=iLengthText_F) (cs:=iLengthText_c) V_ok (kC iNumText_k kN) Tryz.func139 (by decide) (by kernel_rfl)
noncomputable def ixItemText0_F:FnD:={f:=93,fn:=Tryz.f93,ps:=[pa .item],rs:=[rt .str,rt .bool],joins:=[4],cuts:=[(4,[.box 1 .item .sh, .ptr 1 1 0])]}
noncomputable def ixItemText0_c:List (Nat×Sig):=[(139,iLengthText_g)]
noncomputable def ixItemText0_d:ItemT×Unit→Option ((ByteArray×Bool×Unit)×Unit):=ixItemText0_F.d V ixItemText0_c
noncomputable abbrev ixItemText0_g:Sig:=ixItemText0_F.t.sig ixItemText0_d
noncomputable def ixItemText0_D4:ItemT×Unit→Option ((ByteArray×Bool×Unit)×Unit):=ixItemText0_F.D V ixItemText0_c 4
theorem ixItemText0_b (x1:ItemT):ixItemText0_d (x1,())=cnd (bnot x1.l) (cnd (ieq (ssz x1.s) 1) (cnd (inb 0 (ssz x1.s)) (cnd (ilt (sat x1.s 0) 128) (some ((x1.s,(true,())),())) (ixItemText0_D4 (x1,()))) none) (ixItemText0_D4 (x1,()))) none:=(FnD.eq V ixItemText0_c ixItemText0_F (x1,())).trans (by kernel_rfl)
theorem ixItemText0_q4 (x1:ItemT):ixItemText0_D4 (x1,())=bnd (iLengthText_d (128,((ssz x1.s),()))) (fun r1=>(cnd (fits ((ssz r1.1.1)+(ssz x1.s)) 1) (some (((scat r1.1.1 x1.s),(true,())),())) none)):=(FnD.eqC V ixItemText0_c ixItemText0_F 4 (x1,())).trans (by kernel_rfl)
theorem ixItemText0_k:CallsOk Tryz.prog gls gvs 93 ixItemText0_g:=FnD.ok (F:=ixItemText0_F) (cs:=ixItemText0_c) V_ok (kC iLengthText_k kN) Tryz.func93 (by decide) (by kernel_rfl)
end Go.Proofs.YtoeiajpklkijgaaGreatDoor
