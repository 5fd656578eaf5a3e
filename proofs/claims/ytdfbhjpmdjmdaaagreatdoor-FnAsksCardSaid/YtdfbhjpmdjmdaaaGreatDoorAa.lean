/- What the functions come to: printed by program. Of no condition. -/
import Derived.Test.YtdfbhjpmdjmdaaaGreatDoorX0
set_option linter.unusedVariables false
set_option maxRecDepth 100000
namespace Go.Proofs.YtdfbhjpmdjmdaaaGreatDoor
open Go.TV
noncomputable def HzO:FnD:={f:=5,fn:=Tryz.f5,ps:=[pa (.sl (.int .u8))],rs:=[rt .bool]}
noncomputable def LzG:List (Nat×Sig):=[]
noncomputable def CzW:(List Int)×Unit→Option ((Bool×Unit)×Unit):=HzO.d V LzG
noncomputable abbrev Mz0:Sig:=HzO.t.sig CzW
theorem wBig_b (x1:(List Int)):CzW (x1,())=some (((igt (len x1) 1048576),()),()):=(FnD.eq V LzG HzO (x1,())).trans (by kernel_rfl)
theorem PzG:CallsOk Tryz.prog gls gvs 5 Mz0:=FnD.ok (F:=HzO) (cs:=LzG) V_ok kN Tryz.func5 (by decide) (by kernel_rfl)
noncomputable def lzX:FnD:={f:=21,fn:=Tryz.f21,ps:=[pa (.sl (.int .u8))],rs:=[⟨bzU, .sh,true⟩],al:=true,cuts:=[(3,[.val 0 (.sl (.int .u8)) .sh, .val 3 (.int .i64) .sh, .val 4 (.int .i64) .sh])]}
noncomputable def nz6:List (Nat×Sig):=[]
noncomputable def ezQ:(List Int)×Unit→Option ((azi×Unit)×Unit):=lzX.d V nz6
noncomputable abbrev hz7:Sig:=lzX.t.sig ezQ
noncomputable def pz1:(List Int)×Int×Int×Unit→Option ((azi×Unit)×Unit):=lzX.D V nz6 3
theorem Kza (x1:(List Int)):ezQ (x1,())=pz1 (x1,((iadd .i64 76801 (len x1)),(0,()))):=(FnD.eq V nz6 lzX (x1,())).trans (by kernel_rfl)
theorem zzc (x1:(List Int)) (x2:Int) (x3:Int):pz1 (x1,(x2,(x3,())))=cnd (ilt x3 (len x1)) (cnd (ilt x3 4000) (cnd (inb x3 (len x1)) (pz1 (x1,((iand .i64 (iadd .i64 (iadd .i64 (imul .i64 x2 131) (azx .i64 (rd 0 x1 x3))) 7) 1073741823),((iadd .i64 x3 1),())))) none) (some (((x1,(0,(x2,()))),()),()))) (some (((x1,(0,(x2,()))),()),())):=(FnD.eqC V nz6 lzX 3 (x1,(x2,(x3,())))).trans (by kernel_rfl)
theorem jz6:CallsOk Tryz.prog gls gvs 21 hz7:=FnD.ok (F:=lzX) (cs:=nz6) V_ok kN Tryz.func21 (by decide) (by kernel_rfl)
noncomputable def pzM:FnD:={f:=52,fn:=Tryz.f52,ps:=[⟨bzU, .sh,true,true,none⟩],rs:=[rt (.int .i64)],al:=true}
noncomputable def tzG:List (Nat×Sig):=[]
noncomputable def dz5:azi×Unit→Option ((Int×Unit)×azi×Unit):=pzM.d V tzG
noncomputable abbrev tz8:Sig:=pzM.t.sig dz5
theorem JzC (x1:azi):dz5 (x1,())=cnd (nn 33) (cnd (nn 45) (cnd (ilt x1.2.1 (len x1.1)) (cnd (inb x1.2.1 (len x1.1)) (some (((iand .i64 (iadd .i64 (iand .i64 (ixor .i64 (ishr .i64 (iadd .i64 (imul .i64 x1.2.2.1 6364136223846793005) 1442695040888963407) 33) (ishr .i64 (iadd .i64 (imul .i64 x1.2.2.1 6364136223846793005) 1442695040888963407) 45)) 255) (azx .i64 (rd 0 x1.1 x1.2.1))) 255),()),((x1.1,((iadd .i64 x1.2.1 1),((iadd .i64 (imul .i64 x1.2.2.1 6364136223846793005) 1442695040888963407),x1.2.2.2))),()))) none) (some (((iand .i64 (ixor .i64 (ishr .i64 (iadd .i64 (imul .i64 x1.2.2.1 6364136223846793005) 1442695040888963407) 33) (ishr .i64 (iadd .i64 (imul .i64 x1.2.2.1 6364136223846793005) 1442695040888963407) 45)) 255),()),((x1.1,(x1.2.1,((iadd .i64 (imul .i64 x1.2.2.1 6364136223846793005) 1442695040888963407),x1.2.2.2))),())))) none) none:=(FnD.eq V tzG pzM (x1,())).trans (by kernel_rfl)
theorem zzj:CallsOk Tryz.prog gls gvs 52 tz8:=FnD.ok (F:=pzM) (cs:=tzG) V_ok kN Tryz.func52 (by decide) (by kernel_rfl)
noncomputable def mz8:FnD:={f:=22,fn:=Tryz.f22,ps:=[⟨bzU, .sh,true,true,none⟩,pa (.int .i64)],rs:=[rt (.int .i64)],al:=true}
noncomputable def qzV:List (Nat×Sig):=[(52,tz8)]
noncomputable def azy:azi×Int×Unit→Option ((Int×Unit)×azi×Unit):=mz8.d V qzV
noncomputable abbrev bzo:Sig:=mz8.t.sig azy
theorem Ez9 (x1:azi) (x2:Int):azy (x1,(x2,()))=cnd (ile x2 0) (some ((0,()),(x1,()))) (cnd (ile x2 256) (bnd (dz5 (x1,())) (fun r2=>(cnd (nz x2) (some (((irem r2.1.1 x2),()),(r2.2.1,()))) none))) (bnd (dz5 (x1,())) (fun r2=>(bnd (dz5 (r2.2.1,())) (fun r3=>(bnd (dz5 (r3.2.1,())) (fun r4=>(bnd (dz5 (r4.2.1,())) (fun r5=>(cnd (nz x2) (some (((irem (iadd .i64 (iadd .i64 (iadd .i64 (imul .i64 r2.1.1 16777216) (imul .i64 r3.1.1 65536)) (imul .i64 r4.1.1 256)) r5.1.1) x2),()),(r5.2.1,()))) none)))))))))):=(FnD.eq V qzV mz8 (x1,(x2,()))).trans (by kernel_rfl)
theorem bzw:CallsOk Tryz.prog gls gvs 22 bzo:=FnD.ok (F:=mz8) (cs:=qzV) V_ok (kC zzj kN) Tryz.func22 (by decide) (by kernel_rfl)
noncomputable def pzp:FnD:={f:=25,fn:=Tryz.f25,ps:=[⟨bzU, .sh,true,true,none⟩,pa (.sl .str)],rs:=[rt .str],al:=true}
noncomputable def uzC:List (Nat×Sig):=[(22,bzo)]
noncomputable def fza:azi× (List ByteArray)×Unit→Option ((ByteArray×Unit)×azi×Unit):=pzp.d V uzC
noncomputable abbrev jzh:Sig:=pzp.t.sig fza
theorem Iz6 (x1:azi) (x2:(List ByteArray)):fza (x1,(x2,()))=bnd (azy (x1,((len x2),()))) (fun r2=>(cnd (inb r2.1.1 (len x2)) (some (((rd (bs []) x2 r2.1.1),()),(r2.2.1,()))) none)):=(FnD.eq V uzC pzp (x1,(x2,()))).trans (by kernel_rfl)
theorem mzg:CallsOk Tryz.prog gls gvs 25 jzh:=FnD.ok (F:=pzp) (cs:=uzC) V_ok (kC bzw kN) Tryz.func25 (by decide) (by kernel_rfl)
noncomputable def szw:FnD:={f:=26,fn:=Tryz.f26,ps:=[⟨bzU, .sh,true,true,none⟩],rs:=[rt .str],al:=true}
noncomputable def wzI:List (Nat×Sig):=[(25,jzh)]
noncomputable def hzP:azi×Unit→Option ((ByteArray×Unit)×azi×Unit):=szw.d V wzI
noncomputable abbrev lzV:Sig:=szw.t.sig hzP
theorem Lzo (x1:azi):hzP (x1,())=bnd (fza (x1,(((bs [97,97,97,97])::((bs [97,97,97,98])::((bs [97,97,98,98])::((bs [97,98,99,100])::((bs [98,98,98,98])::((bs [98,0,1,99])::((bs [122,122,122,122])::((bs [122,122,122,97])::((bs [99,99,99,99])::([]:List ByteArray)))))))))),()))) (fun r1=>(some ((r1.1.1,()),(r1.2.1,())))):=(FnD.eq V wzI szw (x1,())).trans (by kernel_rfl)
theorem nz2:CallsOk Tryz.prog gls gvs 26 lzV:=FnD.ok (F:=szw) (cs:=wzI) V_ok (kC mzg kN) Tryz.func26 (by decide) (by kernel_rfl)
noncomputable def pzg:FnD:={f:=70,fn:=Tryz.f70,ps:=[⟨bzU, .sh,true,true,none⟩,pa (.int .i64)],rs:=[rt .bool],al:=true}
noncomputable def tz0:List (Nat×Sig):=[(22,bzo)]
noncomputable def pz5:azi×Int×Unit→Option ((Bool×Unit)×azi×Unit):=pzg.d V tz0
noncomputable abbrev Azh:Sig:=pzg.t.sig pz5
theorem Izl (x1:azi) (x2:Int):pz5 (x1,(x2,()))=bnd (azy (x1,(x2,()))) (fun r2=>(some (((ieq r2.1.1 0),()),(r2.2.1,())))):=(FnD.eq V tz0 pzg (x1,(x2,()))).trans (by kernel_rfl)
theorem Jzh:CallsOk Tryz.prog gls gvs 70 Azh:=FnD.ok (F:=pzg) (cs:=tz0) V_ok (kC bzw kN) Tryz.func70 (by decide) (by kernel_rfl)
noncomputable def iz0:FnD:={f:=71,fn:=Tryz.f71,ps:=[⟨bzU, .sh,true,true,none⟩,pa (.sl (.int .i64))],rs:=[rt (.int .i64)],al:=true}
noncomputable def mzQ:List (Nat×Sig):=[(22,bzo)]
noncomputable def azB:azi× (List Int)×Unit→Option ((Int×Unit)×azi×Unit):=iz0.d V mzQ
noncomputable abbrev fz2:Sig:=iz0.t.sig azB
theorem Az5 (x1:azi) (x2:(List Int)):azB (x1,(x2,()))=bnd (azy (x1,((len x2),()))) (fun r2=>(cnd (inb r2.1.1 (len x2)) (some (((rd 0 x2 r2.1.1),()),(r2.2.1,()))) none)):=(FnD.eq V mzQ iz0 (x1,(x2,()))).trans (by kernel_rfl)
theorem izZ:CallsOk Tryz.prog gls gvs 71 fz2:=FnD.ok (F:=iz0) (cs:=mzQ) V_ok (kC bzw kN) Tryz.func71 (by decide) (by kernel_rfl)
noncomputable def fzg:FnD:={f:=72,fn:=Tryz.f72,ps:=[⟨bzU, .sh,true,true,none⟩,pa (.int .i64)],rs:=[rt .str],al:=true,joins:=[3],cuts:=[(3,[.val 1 (.int .i64) .sh, .box 0 bzU .sh, .ptr 0 0 0]),(5,[.val 1 (.int .i64) .sh, .val 5 (.sl (.int .u8)) (.own 0 .sh), .val 6 (.int .i64) .sh, .box 0 bzU .sh, .ptr 0 0 0])]}
noncomputable def gzR:List (Nat×Sig):=[(52,tz8)]
noncomputable def lzN:azi×Int×Unit→Option ((ByteArray×Unit)×azi×Unit):=fzg.d V gzR
noncomputable abbrev tzx:Sig:=fzg.t.sig lzN
noncomputable def qzT:Int×azi×Unit→Option ((ByteArray×Unit)×azi×Unit):=fzg.D V gzR 3
noncomputable def mzz:Int× (List Int)×Int×azi×Unit→Option ((ByteArray×Unit)×azi×Unit):=fzg.D V gzR 5
theorem Jzy (x1:azi) (x2:Int):lzN (x1,(x2,()))=cnd (igt x2 5000) (qzT (5000,(x1,()))) (qzT (x2,(x1,()))):=(FnD.eq V gzR fzg (x1,(x2,()))).trans (by kernel_rfl)
theorem Gzj (x1:Int) (x2:azi):qzT (x1,(x2,()))=mzz (x1,(([]:List Int),(0,(x2,())))):=(FnD.eqC V gzR fzg 3 (x1,(x2,()))).trans (by kernel_rfl)
theorem yza (x1:Int) (x2:(List Int)) (x3:Int) (x4:azi):mzz (x1,(x2,(x3,(x4,()))))=cnd (ilt x3 x1) (bnd (dz5 (x4,())) (fun r4=>(cnd (fits ((len x2)+(len ((azx .u8 r4.1.1)::([]:List Int)))) 1) (mzz (x1,((app x2 ((azx .u8 r4.1.1)::([]:List Int))),((iadd .i64 x3 1),(r4.2.1,()))))) none))) (some (((sof x2),()),(x4,()))):=(FnD.eqC V gzR fzg 5 (x1,(x2,(x3,(x4,()))))).trans (by kernel_rfl)
theorem zzy:CallsOk Tryz.prog gls gvs 72 tzx:=FnD.ok (F:=fzg) (cs:=gzR) V_ok (kC zzj kN) Tryz.func72 (by decide) (by kernel_rfl)
noncomputable def czH:FnD:={f:=35,fn:=Tryz.f35,ps:=[⟨bzU, .sh,true,true,none⟩],rs:=[⟨(.sl czh),(.own 0 .sh),false⟩],al:=true,cuts:=[(8,[.val 3 (.sl czh) (.own 0 .sh), .val 4 (.int .i64) .sh, .val 6 (.sl czh) (.own 0 .sh), .val 7 (.int .i64) .sh, .box 0 bzU .sh, .box 5 czh .sh, .ptr 0 0 0, .ptr 5 5 0]),(14,[.val 3 (.sl czh) (.own 0 .sh), .val 4 (.int .i64) .sh, .val 6 (.sl czh) (.own 0 .sh), .val 8 (.int .i64) .sh, .box 0 bzU .sh, .box 5 czh .sh, .ptr 0 0 0, .ptr 5 5 0]),(3,[.val 3 (.sl czh) (.own 0 .sh), .val 4 (.int .i64) .sh, .box 0 bzU .sh, .ptr 0 0 0])]}
noncomputable def dza:List (Nat×Sig):=[(22,bzo),(26,lzV),(71,fz2),(72,tzx)]
noncomputable def azz:azi×Unit→Option (((List azh)×Unit)×azi×Unit):=czH.d V dza
noncomputable abbrev rzj:Sig:=czH.t.sig azz
noncomputable def hzK:(List azh)×Int× (List azh)×Int×azi×azh×Unit→Option (((List azh)×Unit)×azi×Unit):=czH.D V dza 8
noncomputable def ezm:(List azh)×Int× (List azh)×Int×azi×azh×Unit→Option (((List azh)×Unit)×azi×Unit):=czH.D V dza 14
noncomputable def izc:(List azh)×Int×azi×Unit→Option (((List azh)×Unit)×azi×Unit):=czH.D V dza 3
theorem Fzh (x1:azi):azz (x1,())=izc (([]:List azh),(0,(x1,()))):=(FnD.eq V dza czH (x1,())).trans (by kernel_rfl)
theorem vzt (x1:(List azh)) (x2:Int) (x3:(List azh)) (x4:Int) (x5:azi) (x6:azh):hzK (x1,(x2,(x3,(x4,(x5,(x6,()))))))=cnd (ilt x4 (len x1)) (cnd (inb x4 (len x1)) (cnd (slt (rd bzr x1 x4).1 x6.1) (cnd (inb x4 (len x1)) (cnd (fits ((len x3)+(len ((rd bzr x1 x4)::([]:List azh)))) 2) (hzK (x1,(x2,((app x3 ((rd bzr x1 x4)::([]:List azh))),((iadd .i64 x4 1),(x5,(x6,()))))))) none) none) (hzK (x1,(x2,(x3,((iadd .i64 x4 1),(x5,(x6,())))))))) none) (cnd (fits ((len x3)+(len (x6::([]:List azh)))) 2) (ezm (x1,(x2,((app x3 (x6::([]:List azh))),(0,(x5,(x6,()))))))) none):=(FnD.eqC V dza czH 8 (x1,(x2,(x3,(x4,(x5,(x6,()))))))).trans (by kernel_rfl)
theorem szG (x1:(List azh)) (x2:Int) (x3:(List azh)) (x4:Int) (x5:azi) (x6:azh):ezm (x1,(x2,(x3,(x4,(x5,(x6,()))))))=cnd (ilt x4 (len x1)) (cnd (inb x4 (len x1)) (cnd (sgt (rd bzr x1 x4).1 x6.1) (cnd (inb x4 (len x1)) (cnd (fits ((len x3)+(len ((rd bzr x1 x4)::([]:List azh)))) 2) (ezm (x1,(x2,((app x3 ((rd bzr x1 x4)::([]:List azh))),((iadd .i64 x4 1),(x5,(x6,()))))))) none) none) (ezm (x1,(x2,(x3,((iadd .i64 x4 1),(x5,(x6,())))))))) none) (izc (x3,((iadd .i64 x2 1),(x5,())))):=(FnD.eqC V dza czH 14 (x1,(x2,(x3,(x4,(x5,(x6,()))))))).trans (by kernel_rfl)
theorem vzn (x1:(List azh)) (x2:Int) (x3:azi):izc (x1,(x2,(x3,())))=bnd (azy (x3,(8,()))) (fun r3=>(cnd (ilt x2 r3.1.1) (bnd (hzP (r3.2.1,())) (fun r4=>(bnd (azB (r4.2.1,((1::(3::(40::(2::(33::([]:List Int)))))),()))) (fun r5=>(bnd (lzN (r5.2.1,(r5.1.1,()))) (fun r6=>(hzK (x1,(x2,(([]:List azh),(0,(r6.2.1,((r4.1.1,(r6.1.1,())),()))))))))))))) (some ((x1,()),(r3.2.1,()))))):=(FnD.eqC V dza czH 3 (x1,(x2,(x3,())))).trans (by kernel_rfl)
theorem yzd:CallsOk Tryz.prog gls gvs 35 rzj:=FnD.ok (F:=czH) (cs:=dza) V_ok (kC bzw (kC nz2 (kC izZ (kC zzy kN)))) Tryz.func35 (by decide) (by kernel_rfl)
noncomputable def dzy:FnD:={f:=34,fn:=Tryz.f34,ps:=[⟨bzU, .sh,true,true,none⟩],rs:=[⟨(.sl bzc),(.own 0 (.pr .sh (.pr .sh (.pr .sh (.pr (.own 0 .sh) .sh))))),false⟩],al:=true,fz:=[1000000000000000007],cuts:=[(4,[.val 3 (.sl bzc) (.own 0 (.pr .sh (.pr .sh (.pr .sh (.pr (.own 0 .sh) .sh))))), .val 4 (.sl .str) (.own 0 .sh), .val 5 (.int .i64) .sh, .box 0 bzU .sh, .ptr 0 0 0])]}
noncomputable def ezL:List (Nat×Sig):=[(70,Azh),(22,bzo),(71,fz2),(35,rzj)]
noncomputable def czJ:azi×Unit→Option (((List azb)×Unit)×azi×Unit):=dzy.d V ezL
noncomputable abbrev hzn:Sig:=dzy.t.sig czJ
noncomputable def azn:(List azb)× (List ByteArray)×Int×azi×Unit→Option (((List azb)×Unit)×azi×Unit):=dzy.D V ezL 4
theorem yzP (x1:azi):czJ (x1,())=azn (([]:List azb),(((bs [97,97,97,97])::((bs [97,97,97,98])::((bs [98,111,98,98])::((bs [122,122,122,122])::([]:List ByteArray))))),(0,(x1,())))):=(FnD.eq V ezL dzy (x1,())).trans (by kernel_rfl)
theorem ozQ (x1:(List azb)) (x2:(List ByteArray)) (x3:Int) (x4:azi):azn (x1,(x2,(x3,(x4,()))))=cnd (ilt x3 4) (bnd (pz5 (x4,(2,()))) (fun r4=>(cnd r4.1.1 (agree (cnd (inb x3 (len x2)) (agree (agree (bnd (azy (r4.2.1,(5,()))) (fun r5=>(bnd (azB (r5.2.1,((0::(100::(70000::(1000000000::([]:List Int))))),()))) (fun r6=>(bnd (azz (r6.2.1,())) (fun r7=>(cnd (fits ((len x1)+(len (((rd (bs []) x2 x3),(r5.1.1,(r6.1.1,(r7.1.1,()))))::([]:List azb)))) 4) (azn ((app x1 (((rd (bs []) x2 x3),(r5.1.1,(r6.1.1,(r7.1.1,()))))::([]:List azb))),(x2,((iadd .i64 x3 1),(r7.2.1,()))))) none))))))) (bnd (azy (r4.2.1,(5,()))) (fun r5=>(bnd (azB (r5.2.1,((0::(100::(70000::(1000000000::([]:List Int))))),()))) (fun r6=>(bnd (azz (r6.2.1,())) (fun r7=>(cnd (fits ((len x1)+(len (((rd (bs []) x2 x3),(r5.1.1,(r6.1.1,(r7.1.1,()))))::([]:List azb)))) 4) (azn ((app x1 (((rd (bs []) x2 x3),(r5.1.1,(r6.1.1,(r7.1.1,()))))::([]:List azb))),(x2,((iadd .i64 x3 1),(r7.2.1,()))))) none)))))))) (agree (bnd (azy (r4.2.1,(5,()))) (fun r5=>(agree (bnd (azB (r5.2.1,((0::(100::(70000::(1000000000::([]:List Int))))),()))) (fun r6=>(bnd (azz (r6.2.1,())) (fun r7=>(cnd (fits ((len x1)+(len (((rd (bs []) x2 x3),(r5.1.1,(r6.1.1,(r7.1.1,()))))::([]:List azb)))) 4) (azn ((app x1 (((rd (bs []) x2 x3),(r5.1.1,(r6.1.1,(r7.1.1,()))))::([]:List azb))),(x2,((iadd .i64 x3 1),(r7.2.1,()))))) none))))) (agree (bnd (azB (r5.2.1,((0::(100::(70000::(1000000000::([]:List Int))))),()))) (fun r6=>(bnd (azz (r6.2.1,())) (fun r7=>(cnd (fits ((len x1)+(len (((rd (bs []) x2 x3),(r5.1.1,(r6.1.1,(r7.1.1,()))))::([]:List azb)))) 4) (azn ((app x1 (((rd (bs []) x2 x3),(r5.1.1,(r6.1.1,(r7.1.1,()))))::([]:List azb))),(x2,((iadd .i64 x3 1),(r7.2.1,()))))) none))))) (bnd (azB (r5.2.1,((0::(100::(70000::(1000000000::([]:List Int))))),()))) (fun r6=>(agree (bnd (azz (r6.2.1,())) (fun r7=>(cnd (fits ((len x1)+(len (((rd (bs []) x2 x3),(r5.1.1,(r6.1.1,(r7.1.1,()))))::([]:List azb)))) 4) (azn ((app x1 (((rd (bs []) x2 x3),(r5.1.1,(r6.1.1,(r7.1.1,()))))::([]:List azb))),(x2,((iadd .i64 x3 1),(r7.2.1,()))))) none))) (bnd (azz (r6.2.1,())) (fun r7=>(cnd (fits ((len x1)+(len (((rd (bs []) x2 x3),(r5.1.1,(r6.1.1,(r7.1.1,()))))::([]:List azb)))) 4) (azn ((app x1 (((rd (bs []) x2 x3),(r5.1.1,(r6.1.1,(r7.1.1,()))))::([]:List azb))),(x2,((iadd .i64 x3 1),(r7.2.1,()))))) none)))))))))) (agree (bnd (azy (r4.2.1,(5,()))) (fun r5=>(bnd (azB (r5.2.1,((0::(100::(70000::(1000000000::([]:List Int))))),()))) (fun r6=>(bnd (azz (r6.2.1,())) (fun r7=>(cnd (fits ((len x1)+(len (((rd (bs []) x2 x3),(r5.1.1,(r6.1.1,(r7.1.1,()))))::([]:List azb)))) 4) (azn ((app x1 (((rd (bs []) x2 x3),(r5.1.1,(r6.1.1,(r7.1.1,()))))::([]:List azb))),(x2,((iadd .i64 x3 1),(r7.2.1,()))))) none))))))) (bnd (azy (r4.2.1,(5,()))) (fun r5=>(agree (bnd (azB (r5.2.1,((0::(100::(70000::(1000000000::([]:List Int))))),()))) (fun r6=>(bnd (azz (r6.2.1,())) (fun r7=>(cnd (fits ((len x1)+(len (((rd (bs []) x2 x3),(r5.1.1,(r6.1.1,(r7.1.1,()))))::([]:List azb)))) 4) (azn ((app x1 (((rd (bs []) x2 x3),(r5.1.1,(r6.1.1,(r7.1.1,()))))::([]:List azb))),(x2,((iadd .i64 x3 1),(r7.2.1,()))))) none))))) (bnd (azB (r5.2.1,((0::(100::(70000::(1000000000::([]:List Int))))),()))) (fun r6=>(agree (bnd (azz (r6.2.1,())) (fun r7=>(cnd (fits ((len x1)+(len (((rd (bs []) x2 x3),(r5.1.1,(r6.1.1,(r7.1.1,()))))::([]:List azb)))) 4) (azn ((app x1 (((rd (bs []) x2 x3),(r5.1.1,(r6.1.1,(r7.1.1,()))))::([]:List azb))),(x2,((iadd .i64 x3 1),(r7.2.1,()))))) none))) (bnd (azz (r6.2.1,())) (fun r7=>(cnd (fits ((len x1)+(len (((rd (bs []) x2 x3),(r5.1.1,(r6.1.1,(r7.1.1,()))))::([]:List azb)))) 4) (azn ((app x1 (((rd (bs []) x2 x3),(r5.1.1,(r6.1.1,(r7.1.1,()))))::([]:List azb))),(x2,((iadd .i64 x3 1),(r7.2.1,()))))) none)))))))))))) none) (agree (bnd (azy (r4.2.1,(5,()))) (fun r5=>(agree (cnd (inb x3 (len x2)) (agree (bnd (azB (r5.2.1,((0::(100::(70000::(1000000000::([]:List Int))))),()))) (fun r6=>(bnd (azz (r6.2.1,())) (fun r7=>(cnd (fits ((len x1)+(len (((rd (bs []) x2 x3),(r5.1.1,(r6.1.1,(r7.1.1,()))))::([]:List azb)))) 4) (azn ((app x1 (((rd (bs []) x2 x3),(r5.1.1,(r6.1.1,(r7.1.1,()))))::([]:List azb))),(x2,((iadd .i64 x3 1),(r7.2.1,()))))) none))))) (agree (bnd (azB (r5.2.1,((0::(100::(70000::(1000000000::([]:List Int))))),()))) (fun r6=>(bnd (azz (r6.2.1,())) (fun r7=>(cnd (fits ((len x1)+(len (((rd (bs []) x2 x3),(r5.1.1,(r6.1.1,(r7.1.1,()))))::([]:List azb)))) 4) (azn ((app x1 (((rd (bs []) x2 x3),(r5.1.1,(r6.1.1,(r7.1.1,()))))::([]:List azb))),(x2,((iadd .i64 x3 1),(r7.2.1,()))))) none))))) (bnd (azB (r5.2.1,((0::(100::(70000::(1000000000::([]:List Int))))),()))) (fun r6=>(agree (bnd (azz (r6.2.1,())) (fun r7=>(cnd (fits ((len x1)+(len (((rd (bs []) x2 x3),(r5.1.1,(r6.1.1,(r7.1.1,()))))::([]:List azb)))) 4) (azn ((app x1 (((rd (bs []) x2 x3),(r5.1.1,(r6.1.1,(r7.1.1,()))))::([]:List azb))),(x2,((iadd .i64 x3 1),(r7.2.1,()))))) none))) (bnd (azz (r6.2.1,())) (fun r7=>(cnd (fits ((len x1)+(len (((rd (bs []) x2 x3),(r5.1.1,(r6.1.1,(r7.1.1,()))))::([]:List azb)))) 4) (azn ((app x1 (((rd (bs []) x2 x3),(r5.1.1,(r6.1.1,(r7.1.1,()))))::([]:List azb))),(x2,((iadd .i64 x3 1),(r7.2.1,()))))) none)))))))) none) (agree (cnd (inb x3 (len x2)) (agree (bnd (azB (r5.2.1,((0::(100::(70000::(1000000000::([]:List Int))))),()))) (fun r6=>(bnd (azz (r6.2.1,())) (fun r7=>(cnd (fits ((len x1)+(len (((rd (bs []) x2 x3),(r5.1.1,(r6.1.1,(r7.1.1,()))))::([]:List azb)))) 4) (azn ((app x1 (((rd (bs []) x2 x3),(r5.1.1,(r6.1.1,(r7.1.1,()))))::([]:List azb))),(x2,((iadd .i64 x3 1),(r7.2.1,()))))) none))))) (bnd (azB (r5.2.1,((0::(100::(70000::(1000000000::([]:List Int))))),()))) (fun r6=>(agree (bnd (azz (r6.2.1,())) (fun r7=>(cnd (fits ((len x1)+(len (((rd (bs []) x2 x3),(r5.1.1,(r6.1.1,(r7.1.1,()))))::([]:List azb)))) 4) (azn ((app x1 (((rd (bs []) x2 x3),(r5.1.1,(r6.1.1,(r7.1.1,()))))::([]:List azb))),(x2,((iadd .i64 x3 1),(r7.2.1,()))))) none))) (bnd (azz (r6.2.1,())) (fun r7=>(cnd (fits ((len x1)+(len (((rd (bs []) x2 x3),(r5.1.1,(r6.1.1,(r7.1.1,()))))::([]:List azb)))) 4) (azn ((app x1 (((rd (bs []) x2 x3),(r5.1.1,(r6.1.1,(r7.1.1,()))))::([]:List azb))),(x2,((iadd .i64 x3 1),(r7.2.1,()))))) none))))))) none) (bnd (azB (r5.2.1,((0::(100::(70000::(1000000000::([]:List Int))))),()))) (fun r6=>(agree (cnd (inb x3 (len x2)) (agree (bnd (azz (r6.2.1,())) (fun r7=>(cnd (fits ((len x1)+(len (((rd (bs []) x2 x3),(r5.1.1,(r6.1.1,(r7.1.1,()))))::([]:List azb)))) 4) (azn ((app x1 (((rd (bs []) x2 x3),(r5.1.1,(r6.1.1,(r7.1.1,()))))::([]:List azb))),(x2,((iadd .i64 x3 1),(r7.2.1,()))))) none))) (bnd (azz (r6.2.1,())) (fun r7=>(cnd (fits ((len x1)+(len (((rd (bs []) x2 x3),(r5.1.1,(r6.1.1,(r7.1.1,()))))::([]:List azb)))) 4) (azn ((app x1 (((rd (bs []) x2 x3),(r5.1.1,(r6.1.1,(r7.1.1,()))))::([]:List azb))),(x2,((iadd .i64 x3 1),(r7.2.1,()))))) none)))) none) (bnd (azz (r6.2.1,())) (fun r7=>(cnd (inb x3 (len x2)) (cnd (fits ((len x1)+(len (((rd (bs []) x2 x3),(r5.1.1,(r6.1.1,(r7.1.1,()))))::([]:List azb)))) 4) (azn ((app x1 (((rd (bs []) x2 x3),(r5.1.1,(r6.1.1,(r7.1.1,()))))::([]:List azb))),(x2,((iadd .i64 x3 1),(r7.2.1,()))))) none) none)))))))))) (agree (cnd (inb x3 (len x2)) (agree (bnd (azy (r4.2.1,(5,()))) (fun r5=>(bnd (azB (r5.2.1,((0::(100::(70000::(1000000000::([]:List Int))))),()))) (fun r6=>(bnd (azz (r6.2.1,())) (fun r7=>(cnd (fits ((len x1)+(len (((rd (bs []) x2 x3),(r5.1.1,(r6.1.1,(r7.1.1,()))))::([]:List azb)))) 4) (azn ((app x1 (((rd (bs []) x2 x3),(r5.1.1,(r6.1.1,(r7.1.1,()))))::([]:List azb))),(x2,((iadd .i64 x3 1),(r7.2.1,()))))) none))))))) (bnd (azy (r4.2.1,(5,()))) (fun r5=>(agree (bnd (azB (r5.2.1,((0::(100::(70000::(1000000000::([]:List Int))))),()))) (fun r6=>(bnd (azz (r6.2.1,())) (fun r7=>(cnd (fits ((len x1)+(len (((rd (bs []) x2 x3),(r5.1.1,(r6.1.1,(r7.1.1,()))))::([]:List azb)))) 4) (azn ((app x1 (((rd (bs []) x2 x3),(r5.1.1,(r6.1.1,(r7.1.1,()))))::([]:List azb))),(x2,((iadd .i64 x3 1),(r7.2.1,()))))) none))))) (bnd (azB (r5.2.1,((0::(100::(70000::(1000000000::([]:List Int))))),()))) (fun r6=>(agree (bnd (azz (r6.2.1,())) (fun r7=>(cnd (fits ((len x1)+(len (((rd (bs []) x2 x3),(r5.1.1,(r6.1.1,(r7.1.1,()))))::([]:List azb)))) 4) (azn ((app x1 (((rd (bs []) x2 x3),(r5.1.1,(r6.1.1,(r7.1.1,()))))::([]:List azb))),(x2,((iadd .i64 x3 1),(r7.2.1,()))))) none))) (bnd (azz (r6.2.1,())) (fun r7=>(cnd (fits ((len x1)+(len (((rd (bs []) x2 x3),(r5.1.1,(r6.1.1,(r7.1.1,()))))::([]:List azb)))) 4) (azn ((app x1 (((rd (bs []) x2 x3),(r5.1.1,(r6.1.1,(r7.1.1,()))))::([]:List azb))),(x2,((iadd .i64 x3 1),(r7.2.1,()))))) none)))))))))) none) (bnd (azy (r4.2.1,(5,()))) (fun r5=>(agree (cnd (inb x3 (len x2)) (agree (bnd (azB (r5.2.1,((0::(100::(70000::(1000000000::([]:List Int))))),()))) (fun r6=>(bnd (azz (r6.2.1,())) (fun r7=>(cnd (fits ((len x1)+(len (((rd (bs []) x2 x3),(r5.1.1,(r6.1.1,(r7.1.1,()))))::([]:List azb)))) 4) (azn ((app x1 (((rd (bs []) x2 x3),(r5.1.1,(r6.1.1,(r7.1.1,()))))::([]:List azb))),(x2,((iadd .i64 x3 1),(r7.2.1,()))))) none))))) (bnd (azB (r5.2.1,((0::(100::(70000::(1000000000::([]:List Int))))),()))) (fun r6=>(agree (bnd (azz (r6.2.1,())) (fun r7=>(cnd (fits ((len x1)+(len (((rd (bs []) x2 x3),(r5.1.1,(r6.1.1,(r7.1.1,()))))::([]:List azb)))) 4) (azn ((app x1 (((rd (bs []) x2 x3),(r5.1.1,(r6.1.1,(r7.1.1,()))))::([]:List azb))),(x2,((iadd .i64 x3 1),(r7.2.1,()))))) none))) (bnd (azz (r6.2.1,())) (fun r7=>(cnd (fits ((len x1)+(len (((rd (bs []) x2 x3),(r5.1.1,(r6.1.1,(r7.1.1,()))))::([]:List azb)))) 4) (azn ((app x1 (((rd (bs []) x2 x3),(r5.1.1,(r6.1.1,(r7.1.1,()))))::([]:List azb))),(x2,((iadd .i64 x3 1),(r7.2.1,()))))) none))))))) none) (bnd (azB (r5.2.1,((0::(100::(70000::(1000000000::([]:List Int))))),()))) (fun r6=>(agree (cnd (inb x3 (len x2)) (agree (bnd (azz (r6.2.1,())) (fun r7=>(cnd (fits ((len x1)+(len (((rd (bs []) x2 x3),(r5.1.1,(r6.1.1,(r7.1.1,()))))::([]:List azb)))) 4) (azn ((app x1 (((rd (bs []) x2 x3),(r5.1.1,(r6.1.1,(r7.1.1,()))))::([]:List azb))),(x2,((iadd .i64 x3 1),(r7.2.1,()))))) none))) (bnd (azz (r6.2.1,())) (fun r7=>(cnd (fits ((len x1)+(len (((rd (bs []) x2 x3),(r5.1.1,(r6.1.1,(r7.1.1,()))))::([]:List azb)))) 4) (azn ((app x1 (((rd (bs []) x2 x3),(r5.1.1,(r6.1.1,(r7.1.1,()))))::([]:List azb))),(x2,((iadd .i64 x3 1),(r7.2.1,()))))) none)))) none) (bnd (azz (r6.2.1,())) (fun r7=>(cnd (inb x3 (len x2)) (cnd (fits ((len x1)+(len (((rd (bs []) x2 x3),(r5.1.1,(r6.1.1,(r7.1.1,()))))::([]:List azb)))) 4) (azn ((app x1 (((rd (bs []) x2 x3),(r5.1.1,(r6.1.1,(r7.1.1,()))))::([]:List azb))),(x2,((iadd .i64 x3 1),(r7.2.1,()))))) none) none)))))))))))) (azn (x1,(x2,((iadd .i64 x3 1),(r4.2.1,())))))))) (some ((x1,()),(x4,()))):=(FnD.eqC V ezL dzy 4 (x1,(x2,(x3,(x4,()))))).trans (by kernel_rfl)
theorem lzf:CallsOk Tryz.prog gls gvs 34 hzn:=FnD.ok (F:=dzy) (cs:=ezL) V_ok (kC Jzh (kC bzw (kC izZ (kC yzd kN)))) Tryz.func34 (by decide) (by kernel_rfl)
noncomputable def vz2:FnD:={f:=64,fn:=Tryz.f64,ps:=[pa (.int .i64),pa (.int .i64),pa (.int .i64)],rs:=[rt .bool]}
noncomputable def Bzh:List (Nat×Sig):=[]
noncomputable def czl:Int×Int×Int×Unit→Option ((Bool×Unit)×Unit):=vz2.d V Bzh
noncomputable abbrev fzG:Sig:=vz2.t.sig czl
theorem Ozw (x1:Int) (x2:Int) (x3:Int):czl (x1,(x2,(x3,())))=cnd (ige x1 x2) (some (((ile x1 x3),()),())) (some ((false,()),())):=(FnD.eq V Bzh vz2 (x1,(x2,(x3,())))).trans (by kernel_rfl)
theorem hzm:CallsOk Tryz.prog gls gvs 64 fzG:=FnD.ok (F:=vz2) (cs:=Bzh) V_ok kN Tryz.func64 (by decide) (by kernel_rfl)
noncomputable def jzt:FnD:={f:=90,fn:=Tryz.f90,ps:=[pa (.sl czh)],rs:=[rt .bool],cuts:=[(2,[.val 0 (.sl czh) .sh, .val 3 (.int .i64) .sh])]}
noncomputable def mzd:List (Nat×Sig):=[(64,fzG)]
noncomputable def fzi:(List azh)×Unit→Option ((Bool×Unit)×Unit):=jzt.d V mzd
noncomputable abbrev pzL:Sig:=jzt.t.sig fzi
noncomputable def jzB:(List azh)×Int×Unit→Option ((Bool×Unit)×Unit):=jzt.D V mzd 2
theorem JzP (x1:(List azh)):fzi (x1,())=jzB (x1,(0,())):=(FnD.eq V mzd jzt (x1,())).trans (by kernel_rfl)
theorem xze (x1:(List azh)) (x2:Int):jzB (x1,(x2,()))=cnd (ilt x2 (len x1)) (cnd (inb x2 (len x1)) (cnd (ine (ssz (rd bzr x1 x2).1) 4) (some ((false,()),())) (cnd (inb x2 (len x1)) (bnd (czl ((ssz (rd bzr x1 x2).2.1),(1,(60,())))) (fun r2=>(cnd (bnot r2.1.1) (some ((false,()),())) (cnd (igt x2 0) (cnd (inb (isub .i64 x2 1) (len x1)) (cnd (inb x2 (len x1)) (cnd (sge (rd bzr x1 (isub .i64 x2 1)).1 (rd bzr x1 x2).1) (some ((false,()),())) (jzB (x1,((iadd .i64 x2 1),())))) none) none) (jzB (x1,((iadd .i64 x2 1),()))))))) none)) none) (some (((ile (len x1) 12),()),())):=(FnD.eqC V mzd jzt 2 (x1,(x2,()))).trans (by kernel_rfl)
theorem tzq:CallsOk Tryz.prog gls gvs 90 pzL:=FnD.ok (F:=jzt) (cs:=mzd) V_ok (kC hzm kN) Tryz.func90 (by decide) (by kernel_rfl)
noncomputable def ezq:FnD:={f:=88,fn:=Tryz.f88,ps:=[pa (.sl bzc)],rs:=[rt .bool],cuts:=[(2,[.val 0 (.sl bzc) .sh, .val 3 (.int .i64) .sh])]}
noncomputable def gzn:List (Nat×Sig):=[(64,fzG),(90,pzL)]
noncomputable def izF:(List azb)×Unit→Option ((Bool×Unit)×Unit):=ezq.d V gzn
noncomputable abbrev rz1:Sig:=ezq.t.sig izF
noncomputable def dzz:(List azb)×Int×Unit→Option ((Bool×Unit)×Unit):=ezq.D V gzn 2
theorem Czo (x1:(List azb)):izF (x1,())=dzz (x1,(0,())):=(FnD.eq V gzn ezq (x1,())).trans (by kernel_rfl)
theorem qzB (x1:(List azb)) (x2:Int):dzz (x1,(x2,()))=cnd (ilt x2 (len x1)) (cnd (inb x2 (len x1)) (cnd (ine (ssz (rd azL x1 x2).1) 4) (some ((false,()),())) (cnd (igt x2 0) (cnd (inb (isub .i64 x2 1) (len x1)) (cnd (sge (rd azL x1 (isub .i64 x2 1)).1 (rd azL x1 x2).1) (some ((false,()),())) (bnd (czl ((rd azL x1 x2).2.1,(0,(1000,())))) (fun r2=>(cnd (bnot r2.1.1) (some ((false,()),())) (bnd (czl ((rd azL x1 x2).2.2.1,(0,(1000000000,())))) (fun r3=>(cnd (bnot r3.1.1) (some ((false,()),())) (bnd (fzi ((rd azL x1 x2).2.2.2.1,())) (fun r4=>(cnd (bnot r4.1.1) (some ((false,()),())) (dzz (x1,((iadd .i64 x2 1),()))))))))))))) none) (bnd (czl ((rd azL x1 x2).2.1,(0,(1000,())))) (fun r2=>(cnd (bnot r2.1.1) (some ((false,()),())) (bnd (czl ((rd azL x1 x2).2.2.1,(0,(1000000000,())))) (fun r3=>(cnd (bnot r3.1.1) (some ((false,()),())) (bnd (fzi ((rd azL x1 x2).2.2.2.1,())) (fun r4=>(cnd (bnot r4.1.1) (some ((false,()),())) (dzz (x1,((iadd .i64 x2 1),())))))))))))))) none) (some (((ile (len x1) 12),()),())):=(FnD.eqC V gzn ezq 2 (x1,(x2,()))).trans (by kernel_rfl)
theorem Bzw:CallsOk Tryz.prog gls gvs 88 rz1:=FnD.ok (F:=ezq) (cs:=gzn) V_ok (kC hzm (kC tzq kN)) Tryz.func88 (by decide) (by kernel_rfl)
noncomputable def pz4:FnD:={f:=130,fn:=Tryz.f130,ps:=[pa .str],rs:=[⟨.item,(.own 0 .sh),false⟩],al:=true}
noncomputable def uzs:List (Nat×Sig):=[]
noncomputable def czu:ByteArray×Unit→Option ((ItemT×Unit)×Unit):=pz4.d V uzs
noncomputable abbrev pzn:Sig:=pz4.t.sig czu
theorem czb (x1:ByteArray):czu (x1,())=some (((ItemT.mk false x1 ([]:List ItemT)),()),()):=(FnD.eq V uzs pz4 (x1,())).trans (by kernel_rfl)
theorem uzf:CallsOk Tryz.prog gls gvs 130 pzn:=FnD.ok (F:=pz4) (cs:=uzs) V_ok kN Tryz.func130 (by decide) (by kernel_rfl)
noncomputable def fzk:FnD:={f:=66,fn:=Tryz.f66,ps:=[pa .str],rs:=[⟨(.sl (.int .i64)),(.own 0 .sh),false⟩],cuts:=[(3,[.val 0 .str .sh, .val 3 (.sl (.int .i64)) (.own 0 .sh), .val 4 (.int .i64) .sh])]}
noncomputable def hzY:List (Nat×Sig):=[]
noncomputable def bzH:ByteArray×Unit→Option (((List Int)×Unit)×Unit):=fzk.d V hzY
noncomputable abbrev ez9:Sig:=fzk.t.sig bzH
noncomputable def fzV:ByteArray× (List Int)×Int×Unit→Option (((List Int)×Unit)×Unit):=fzk.D V hzY 3
theorem DzD (x1:ByteArray):bzH (x1,())=fzV (x1,(([]:List Int),(0,()))):=(FnD.eq V hzY fzk (x1,())).trans (by kernel_rfl)
theorem rzE (x1:ByteArray) (x2:(List Int)) (x3:Int):fzV (x1,(x2,(x3,())))=cnd (ilt x3 (ssz x1)) (cnd (inb x3 (ssz x1)) (cnd (nz 16) (cnd (inb x3 (ssz x1)) (cnd (nz 16) (cnd (fits ((len x2)+(len ((iquo .i64 (azx .i64 (sat x1 x3)) 16)::((irem (azx .i64 (sat x1 x3)) 16)::([]:List Int))))) 1) (fzV (x1,((app x2 ((iquo .i64 (azx .i64 (sat x1 x3)) 16)::((irem (azx .i64 (sat x1 x3)) 16)::([]:List Int)))),((iadd .i64 x3 1),())))) none) none) none) none) none) (some ((x2,()),())):=(FnD.eqC V hzY fzk 3 (x1,(x2,(x3,())))).trans (by kernel_rfl)
theorem hz6:CallsOk Tryz.prog gls gvs 66 ez9:=FnD.ok (F:=fzk) (cs:=hzY) V_ok kN Tryz.func66 (by decide) (by kernel_rfl)
noncomputable def fzc:FnD:={f:=162,fn:=Tryz.f162,ps:=[pa (.sl (.int .i64))],rs:=[rt .bool],cuts:=[(2,[.val 0 (.sl (.int .i64)) .sh, .val 3 (.int .i64) .sh])]}
noncomputable def hzZ:List (Nat×Sig):=[(64,fzG)]
noncomputable def hzF:(List Int)×Unit→Option ((Bool×Unit)×Unit):=fzc.d V hzZ
noncomputable abbrev uzR:Sig:=fzc.t.sig hzF
noncomputable def gzg:(List Int)×Int×Unit→Option ((Bool×Unit)×Unit):=fzc.D V hzZ 2
theorem vzp (x1:(List Int)):hzF (x1,())=gzg (x1,(0,())):=(FnD.eq V hzZ fzc (x1,())).trans (by kernel_rfl)
theorem izH (x1:(List Int)) (x2:Int):gzg (x1,(x2,()))=cnd (ilt x2 (len x1)) (cnd (inb x2 (len x1)) (bnd (czl ((rd 0 x1 x2),(0,(15,())))) (fun r2=>(cnd (bnot r2.1.1) (some ((false,()),())) (gzg (x1,((iadd .i64 x2 1),())))))) none) (some (((ile (len x1) 64),()),())):=(FnD.eqC V hzZ fzc 2 (x1,(x2,()))).trans (by kernel_rfl)
theorem DzZ:CallsOk Tryz.prog gls gvs 162 uzR:=FnD.ok (F:=fzc) (cs:=hzZ) V_ok (kC hzm kN) Tryz.func162 (by decide) (by kernel_rfl)
noncomputable def bzS:FnD:={f:=131,fn:=Tryz.f131,ps:=[pa (.sl (.int .i64)),pa .bool],rs:=[rt .str,rt .bool],joins:=[6,10],cuts:=[(6,[.val 0 (.sl (.int .i64)) .sh, .val 6 (.int .i64) .sh]),(10,[.val 0 (.sl (.int .i64)) .sh, .val 6 (.int .i64) .sh, .val 7 (.int .i64) .sh]),(12,[.val 0 (.sl (.int .i64)) .sh, .val 8 .str .sh, .val 9 (.int .i64) .sh])]}
noncomputable def bz2:List (Nat×Sig):=[(162,uzR)]
noncomputable def czx:(List Int)×Bool×Unit→Option ((ByteArray×Bool×Unit)×Unit):=bzS.d V bz2
noncomputable abbrev mzL:Sig:=bzS.t.sig czx
noncomputable def hzo:(List Int)×Int×Unit→Option ((ByteArray×Bool×Unit)×Unit):=bzS.D V bz2 6
noncomputable def jzO:(List Int)×Int×Int×Unit→Option ((ByteArray×Bool×Unit)×Unit):=bzS.D V bz2 10
noncomputable def fzR:(List Int)×ByteArray×Int×Unit→Option ((ByteArray×Bool×Unit)×Unit):=bzS.D V bz2 12
theorem szF (x1:(List Int)) (x2:Bool):czx (x1,(x2,()))=bnd (hzF (x1,())) (fun r2=>(cnd (bnot r2.1.1) (some (czQ,())) (cnd x2 (hzo (x1,(32,()))) (hzo (x1,(0,())))))):=(FnD.eq V bz2 bzS (x1,(x2,()))).trans (by kernel_rfl)
theorem yzN (x1:(List Int)) (x2:Int):hzo (x1,(x2,()))=cnd (nz 2) (cnd (ieq (irem (len x1) 2) 1) (cnd (inb 0 (len x1)) (jzO (x1,((iadd .i64 (iadd .i64 x2 16) (rd 0 x1 0)),(1,())))) none) (jzO (x1,(x2,(0,()))))) none:=(FnD.eqC V bz2 bzS 6 (x1,(x2,()))).trans (by kernel_rfl)
theorem ozf (x1:(List Int)) (x2:Int) (x3:Int):jzO (x1,(x2,(x3,())))=fzR (x1,((sof ((azx .u8 x2)::([]:List Int))),(x3,()))):=(FnD.eqC V bz2 bzS 10 (x1,(x2,(x3,())))).trans (by kernel_rfl)
theorem nzZ (x1:(List Int)) (x2:ByteArray) (x3:Int):fzR (x1,(x2,(x3,())))=cnd (ilt (iadd .i64 x3 1) (len x1)) (cnd (inb x3 (len x1)) (cnd (inb (iadd .i64 x3 1) (len x1)) (cnd (fits ((ssz x2)+(ssz (sof ((azx .u8 (iadd .i64 (imul .i64 16 (rd 0 x1 x3)) (rd 0 x1 (iadd .i64 x3 1))))::([]:List Int))))) 1) (fzR (x1,((scat x2 (sof ((azx .u8 (iadd .i64 (imul .i64 16 (rd 0 x1 x3)) (rd 0 x1 (iadd .i64 x3 1))))::([]:List Int)))),((iadd .i64 x3 2),())))) none) none) none) (some ((x2,(true,())),())):=(FnD.eqC V bz2 bzS 12 (x1,(x2,(x3,())))).trans (by kernel_rfl)
theorem tze:CallsOk Tryz.prog gls gvs 131 mzL:=FnD.ok (F:=bzS) (cs:=bz2) V_ok (kC DzZ kN) Tryz.func131 (by decide) (by kernel_rfl)
noncomputable def lzp:FnD:={f:=95,fn:=Tryz.f95,ps:=[pa (.sl (.int .i64)),pa (.sl (.int .i64))],rs:=[rt (.int .i64)],cuts:=[(2,[.val 0 (.sl (.int .i64)) .sh, .val 1 (.sl (.int .i64)) .sh, .val 5 (.int .i64) .sh])]}
noncomputable def nz9:List (Nat×Sig):=[]
noncomputable def mzj:(List Int)× (List Int)×Unit→Option ((Int×Unit)×Unit):=lzp.d V nz9
noncomputable abbrev szK:Sig:=lzp.t.sig mzj
noncomputable def pzF:(List Int)× (List Int)×Int×Unit→Option ((Int×Unit)×Unit):=lzp.D V nz9 2
theorem LzQ (x1:(List Int)) (x2:(List Int)):mzj (x1,(x2,()))=pzF (x1,(x2,(0,()))):=(FnD.eq V nz9 lzp (x1,(x2,()))).trans (by kernel_rfl)
theorem zzU (x1:(List Int)) (x2:(List Int)) (x3:Int):pzF (x1,(x2,(x3,())))=cnd (ilt x3 (len x1)) (cnd (ilt x3 (len x2)) (cnd (inb x3 (len x1)) (cnd (inb x3 (len x2)) (cnd (ieq (rd 0 x1 x3) (rd 0 x2 x3)) (pzF (x1,(x2,((iadd .i64 x3 1),())))) (some ((x3,()),()))) none) none) (some ((x3,()),()))) (some ((x3,()),())):=(FnD.eqC V nz9 lzp 2 (x1,(x2,(x3,())))).trans (by kernel_rfl)
theorem wzk:CallsOk Tryz.prog gls gvs 95 szK:=FnD.ok (F:=lzp) (cs:=nz9) V_ok kN Tryz.func95 (by decide) (by kernel_rfl)
noncomputable def fzC:FnD:={f:=132,fn:=Tryz.f132,ps:=[pa (.sl czh),pa (.int .i64)],rs:=[rt (.int .i64)],cuts:=[(4,[.val 0 (.sl czh) .sh, .val 1 (.int .i64) .sh, .val 5 (.int .i64) .sh, .val 6 (.sl (.int .i64)) .sh, .val 7 (.int .i64) .sh])]}
noncomputable def hzQ:List (Nat×Sig):=[(66,ez9),(95,szK)]
noncomputable def kzX:(List azh)×Int×Unit→Option ((Int×Unit)×Unit):=fzC.d V hzQ
noncomputable abbrev vzl:Sig:=fzC.t.sig kzX
noncomputable def fzX:(List azh)×Int×Int× (List Int)×Int×Unit→Option ((Int×Unit)×Unit):=fzC.D V hzQ 4
theorem CzR (x1:(List azh)) (x2:Int):kzX (x1,(x2,()))=cnd (inb 0 (len x1)) (bnd (bzH ((rd bzr x1 0).1,())) (fun r2=>(cnd (inb2 x2 (len r2.1.1) (len r2.1.1)) (fzX (x1,(x2,((isub .i64 8 x2),((sub r2.1.1 x2 (len r2.1.1)),(1,())))))) none))) none:=(FnD.eq V hzQ fzC (x1,(x2,()))).trans (by kernel_rfl)
theorem szs (x1:(List azh)) (x2:Int) (x3:Int) (x4:(List Int)) (x5:Int):fzX (x1,(x2,(x3,(x4,(x5,())))))=cnd (ilt x5 (len x1)) (cnd (inb x5 (len x1)) (bnd (bzH ((rd bzr x1 x5).1,())) (fun r5=>(cnd (inb2 x2 (len r5.1.1) (len r5.1.1)) (bnd (mzj (x4,((sub r5.1.1 x2 (len r5.1.1)),()))) (fun r6=>(cnd (ilt r6.1.1 x3) (fzX (x1,(x2,(r6.1.1,(x4,((iadd .i64 x5 1),())))))) (fzX (x1,(x2,(x3,(x4,((iadd .i64 x5 1),()))))))))) none))) none) (some ((x3,()),())):=(FnD.eqC V hzQ fzC 4 (x1,(x2,(x3,(x4,(x5,())))))).trans (by kernel_rfl)
theorem CzA:CallsOk Tryz.prog gls gvs 132 vzl:=FnD.ok (F:=fzC) (cs:=hzQ) V_ok (kC hz6 (kC wzk kN)) Tryz.func132 (by decide) (by kernel_rfl)
noncomputable def jzb:FnD:={f:=160,fn:=Tryz.f160,ps:=[pa .item,pa (.int .i64)],rs:=[rt .bool],cuts:=[(6,[.val 1 (.int .i64) .sh, .val 5 (.int .i64) .sh, .box 2 .item .sh, .ptr 2 2 0])]}
noncomputable def lzG:List (Nat×Sig):=[]
noncomputable def gzG:ItemT×Int×Unit→Option ((Bool×Unit)×Unit):=jzb.d V lzG
noncomputable abbrev Azg:Sig:=jzb.t.sig gzG
noncomputable def gzA:Int×Int×ItemT×Unit→Option ((Bool×Unit)×Unit):=jzb.D V lzG 6
theorem Azk (x1:ItemT) (x2:Int):gzG (x1,(x2,()))=cnd (bnot x1.l) (cnd (ieq (len x1.k) 0) (some (((ile (ssz x1.s) 600),()),())) (some ((false,()),()))) (cnd (sne x1.s (bs [])) (some ((false,()),())) (cnd (igt (len x1.k) 17) (some ((false,()),())) (cnd (ige x2 4) (some ((false,()),())) (gzA (x2,(0,(x1,()))))))):=(FnD.eq V lzG jzb (x1,(x2,()))).trans (by kernel_rfl)
theorem wzp (x1:Int) (x2:Int) (x3:ItemT):gzA (x1,(x2,(x3,())))=cnd (ilt x2 (len x3.k)) (cnd (inb x2 (len x3.k)) (bnd (gzG ((rd (ItemT.mk false (bs []) ([]:List ItemT)) x3.k x2),((iadd .i64 x1 1),()))) (fun r3=>(cnd (bnot r3.1.1) (some ((false,()),())) (gzA (x1,((iadd .i64 x2 1),(x3,()))))))) none) (some ((true,()),())):=(FnD.eqC V lzG jzb 6 (x1,(x2,(x3,())))).trans (by kernel_rfl)
theorem Jzi:CallsOk Tryz.prog gls gvs 160 Azg:=FnD.ok (F:=jzb) (cs:=lzG) V_ok kN Tryz.func160 (by decide) (by kernel_rfl)
noncomputable def szh:FnD:={f:=128,fn:=Tryz.f128,ps:=[pa .item],rs:=[rt .bool]}
noncomputable def xzq:List (Nat×Sig):=[(160,Azg)]
noncomputable def szr:ItemT×Unit→Option ((Bool×Unit)×Unit):=szh.d V xzq
noncomputable abbrev Dz4:Sig:=szh.t.sig szr
theorem Lzw (x1:ItemT):szr (x1,())=bnd (gzG (x1,(0,()))) (fun r1=>(some ((r1.1.1,()),()))):=(FnD.eq V xzq szh (x1,())).trans (by kernel_rfl)
theorem Jz8:CallsOk Tryz.prog gls gvs 128 Dz4:=FnD.ok (F:=szh) (cs:=xzq) V_ok (kC Jzi kN) Tryz.func128 (by decide) (by kernel_rfl)
noncomputable def iz9:FnD:={f:=113,fn:=Tryz.f113,ps:=[pa (.int .i64)],rs:=[rt .str],cuts:=[(2,[.val 0 (.int .i64) .sh, .val 3 .str .sh])]}
noncomputable def lzQ:List (Nat×Sig):=[]
noncomputable def gz0:Int×Unit→Option ((ByteArray×Unit)×Unit):=iz9.d V lzQ
noncomputable abbrev pzz:Sig:=iz9.t.sig gz0
noncomputable def jzF:Int×ByteArray×Unit→Option ((ByteArray×Unit)×Unit):=iz9.D V lzQ 2
theorem IzR (x1:Int):gz0 (x1,())=jzF (x1,((bs []),())):=(FnD.eq V lzQ iz9 (x1,())).trans (by kernel_rfl)
theorem yzn (x1:Int) (x2:ByteArray):jzF (x1,(x2,()))=cnd (igt x1 0) (cnd (nz 256) (cnd (fits ((ssz (sof ((azx .u8 (irem x1 256))::([]:List Int))))+(ssz x2)) 1) (cnd (nz 256) (jzF ((iquo .i64 x1 256),((scat (sof ((azx .u8 (irem x1 256))::([]:List Int))) x2),()))) none) none) none) (some ((x2,()),())):=(FnD.eqC V lzQ iz9 2 (x1,(x2,()))).trans (by kernel_rfl)
theorem tzy:CallsOk Tryz.prog gls gvs 113 pzz:=FnD.ok (F:=iz9) (cs:=lzQ) V_ok kN Tryz.func113 (by decide) (by kernel_rfl)
noncomputable def pzU:FnD:={f:=161,fn:=Tryz.f161,ps:=[pa (.int .i64),pa (.int .i64)],rs:=[rt .str]}
noncomputable def tzF:List (Nat×Sig):=[(113,pzz)]
noncomputable def jzq:Int×Int×Unit→Option ((ByteArray×Unit)×Unit):=pzU.d V tzF
noncomputable abbrev zzu:Sig:=pzU.t.sig jzq
theorem Izo (x1:Int) (x2:Int):jzq (x1,(x2,()))=cnd (ile x1 55) (some (((sof ((azx .u8 (iadd .i64 x2 x1))::([]:List Int))),()),())) (bnd (gz0 (x1,())) (fun r2=>(cnd (fits ((ssz (sof ((azx .u8 (iadd .i64 (iadd .i64 x2 55) (ssz r2.1.1)))::([]:List Int))))+(ssz r2.1.1)) 1) (some (((scat (sof ((azx .u8 (iadd .i64 (iadd .i64 x2 55) (ssz r2.1.1)))::([]:List Int))) r2.1.1),()),())) none))):=(FnD.eq V tzF pzU (x1,(x2,()))).trans (by kernel_rfl)
theorem IzJ:CallsOk Tryz.prog gls gvs 161 zzu:=FnD.ok (F:=pzU) (cs:=tzF) V_ok (kC tzy kN) Tryz.func161 (by decide) (by kernel_rfl)
noncomputable def fzb:FnD:={f:=129,fn:=Tryz.f129,ps:=[pa .item],rs:=[rt .str],joins:=[4],cuts:=[(4,[.box 1 .item .sh, .ptr 1 1 0]),(7,[.val 3 .str .sh, .val 4 (.int .i64) .sh, .box 1 .item .sh, .ptr 1 1 0])]}
noncomputable def gzs:List (Nat×Sig):=[(161,zzu)]
noncomputable def gzz:ItemT×Unit→Option ((ByteArray×Unit)×Unit):=fzb.d V gzs
noncomputable abbrev AzD:Sig:=fzb.t.sig gzz
noncomputable def nzx:ItemT×Unit→Option ((ByteArray×Unit)×Unit):=fzb.D V gzs 4
noncomputable def gzE:ByteArray×Int×ItemT×Unit→Option ((ByteArray×Unit)×Unit):=fzb.D V gzs 7
theorem zz2 (x1:ItemT):gzz (x1,())=cnd (bnot x1.l) (cnd (ieq (ssz x1.s) 1) (cnd (inb 0 (ssz x1.s)) (cnd (ilt (sat x1.s 0) 128) (some ((x1.s,()),())) (nzx (x1,()))) none) (nzx (x1,()))) (gzE ((bs []),(0,(x1,())))):=(FnD.eq V gzs fzb (x1,())).trans (by kernel_rfl)
theorem FzM (x1:ItemT):nzx (x1,())=bnd (jzq ((ssz x1.s),(128,()))) (fun r1=>(cnd (fits ((ssz r1.1.1)+(ssz x1.s)) 1) (some (((scat r1.1.1 x1.s),()),())) none)):=(FnD.eqC V gzs fzb 4 (x1,())).trans (by kernel_rfl)
theorem xzb (x1:ByteArray) (x2:Int) (x3:ItemT):gzE (x1,(x2,(x3,())))=cnd (ilt x2 (len x3.k)) (cnd (inb x2 (len x3.k)) (bnd (gzz ((rd (ItemT.mk false (bs []) ([]:List ItemT)) x3.k x2),())) (fun r3=>(cnd (fits ((ssz x1)+(ssz r3.1.1)) 1) (gzE ((scat x1 r3.1.1),((iadd .i64 x2 1),(x3,())))) none))) none) (bnd (jzq ((ssz x1),(192,()))) (fun r3=>(cnd (fits ((ssz r3.1.1)+(ssz x1)) 1) (some (((scat r3.1.1 x1),()),())) none))):=(FnD.eqC V gzs fzb 7 (x1,(x2,(x3,())))).trans (by kernel_rfl)
theorem Hz7:CallsOk Tryz.prog gls gvs 129 AzD:=FnD.ok (F:=fzb) (cs:=gzs) V_ok (kC IzJ kN) Tryz.func129 (by decide) (by kernel_rfl)
noncomputable def mz3:FnD:={f:=91,fn:=Tryz.f91,ps:=[pa .item],rs:=[rt .str,rt .bool]}
noncomputable def qzX:List (Nat×Sig):=[(128,Dz4),(129,AzD)]
noncomputable def dzW:ItemT×Unit→Option ((ByteArray×Bool×Unit)×Unit):=mz3.d V qzX
noncomputable abbrev gzY:Sig:=mz3.t.sig dzW
theorem Fzy (x1:ItemT):dzW (x1,())=bnd (szr (x1,())) (fun r1=>(cnd (bnot r1.1.1) (some (czQ,())) (bnd (gzz (x1,())) (fun r2=>(cnd (igt (ssz r2.1.1) 900) (some (czQ,())) (some ((r2.1.1,(true,())),()))))))):=(FnD.eq V qzX mz3 (x1,())).trans (by kernel_rfl)
theorem jzP:CallsOk Tryz.prog gls gvs 91 gzY:=FnD.ok (F:=mz3) (cs:=qzX) V_ok (kC Jz8 (kC Hz7 kN)) Tryz.func91 (by decide) (by kernel_rfl)
noncomputable def jzc:FnD:={f:=163,fn:=Tryz.f163,ps:=[pa .item],rs:=[⟨.item,(.own 0 .sh),false⟩],al:=true,cuts:=[(3,[.val 4 (.int .i64) .sh, .box 1 .item .sh, .box 2 .item (.own 0 .sh), .box 3 .item (.own 0 .sh), .ptr 1 1 0, .ptr 2 2 0, .ptr 3 3 0])]}
noncomputable def lz8:List (Nat×Sig):=[]
noncomputable def iz7:ItemT×Unit→Option ((ItemT×Unit)×Unit):=jzc.d V lz8
noncomputable abbrev zzq:Sig:=jzc.t.sig iz7
noncomputable def jz7:Int×ItemT×ItemT×ItemT×Unit→Option ((ItemT×Unit)×Unit):=jzc.D V lz8 3
theorem IzX (x1:ItemT):iz7 (x1,())=jz7 (0,(x1,((ItemT.mk false (bs []) ([]:List ItemT)),((ItemT.mk x1.l x1.s ([]:List ItemT)),())))):=(FnD.eq V lz8 jzc (x1,())).trans (by kernel_rfl)
theorem yzb (x1:Int) (x2:ItemT) (x3:ItemT) (x4:ItemT):jz7 (x1,(x2,(x3,(x4,()))))=cnd (ilt x1 (len x2.k)) (cnd (inb x1 (len x2.k)) (bnd (iz7 ((rd (ItemT.mk false (bs []) ([]:List ItemT)) x2.k x1),())) (fun r4=>(cnd (fits ((len x4.k)+(len (r4.1.1::([]:List ItemT)))) 3) (jz7 ((iadd .i64 x1 1),(x2,(x3,((ItemT.mk x4.l x4.s (app x4.k (r4.1.1::([]:List ItemT)))),()))))) none))) none) (some ((x4,()),())):=(FnD.eqC V lz8 jzc 3 (x1,(x2,(x3,(x4,()))))).trans (by kernel_rfl)
theorem IzM:CallsOk Tryz.prog gls gvs 163 zzq:=FnD.ok (F:=jzc) (cs:=lz8) V_ok kN Tryz.func163 (by decide) (by kernel_rfl)
noncomputable def fzD:FnD:={f:=54,fn:=Tryz.f54,ps:=[pa .str],rs:=[rt .str],cuts:=[(3,[.val 3 (.sl (.int .u8)) (.own 0 .sh)])]}
noncomputable def hzD:List (Nat×Sig):=[]
noncomputable def kzO:ByteArray×Unit→Option ((ByteArray×Unit)×Unit):=fzD.d V hzD
noncomputable abbrev uzI:Sig:=fzD.t.sig kzO
noncomputable def cz7:(List Int)×Unit→Option ((ByteArray×Unit)×Unit):=fzD.D V hzD 3
theorem Eza (x1:ByteArray):kzO (x1,())=cnd (fits ((len (bzv x1))+(len (1::([]:List Int)))) 1) (cz7 ((app (bzv x1) (1::([]:List Int))),())) none:=(FnD.eq V hzD fzD (x1,())).trans (by kernel_rfl)
theorem tzf (x1:(List Int)):cz7 (x1,())=cnd (nz 136) (cnd (ine (irem (len x1) 136) 0) (cnd (fits ((len x1)+(len (0::([]:List Int)))) 1) (cz7 ((app x1 (0::([]:List Int))),())) none) (cnd (inb (isub .i64 (len x1) 1) (len x1)) (cnd (inb (isub .i64 (len x1) 1) (len x1)) (some (((sof (upd x1 (isub .i64 (len x1) 1) (ior .u8 (rd 0 x1 (isub .i64 (len x1) 1)) 128))),()),())) none) none)) none:=(FnD.eqC V hzD fzD 3 (x1,())).trans (by kernel_rfl)
theorem DzJ:CallsOk Tryz.prog gls gvs 54 uzI:=FnD.ok (F:=fzD) (cs:=hzD) V_ok kN Tryz.func54 (by decide) (by kernel_rfl)
noncomputable def iz6:FnD:={f:=55,fn:=Tryz.f55,ps:=[pa .str,pa (.int .i64)],rs:=[rt (.int .u64)],cuts:=[(3,[.val 0 .str .sh, .val 1 (.int .i64) .sh, .val 5 (.int .u64) .sh, .val 6 (.int .i64) .sh])]}
noncomputable def mza:List (Nat×Sig):=[]
noncomputable def pzH:ByteArray×Int×Unit→Option ((Int×Unit)×Unit):=iz6.d V mza
noncomputable abbrev zzT:Sig:=iz6.t.sig pzH
noncomputable def mzG:ByteArray×Int×Int×Int×Unit→Option ((Int×Unit)×Unit):=iz6.D V mza 3
theorem JzO (x1:ByteArray) (x2:Int):pzH (x1,(x2,()))=mzG (x1,(x2,(0,(7,())))):=(FnD.eq V mza iz6 (x1,(x2,()))).trans (by kernel_rfl)
theorem wzE (x1:ByteArray) (x2:Int) (x3:Int) (x4:Int):mzG (x1,(x2,(x3,(x4,()))))=cnd (ige x4 0) (cnd (nn 8) (cnd (inb (iadd .i64 x2 x4) (ssz x1)) (mzG (x1,(x2,((ior .u64 (ishl .u64 x3 8) (azx .u64 (sat x1 (iadd .i64 x2 x4)))),((isub .i64 x4 1),()))))) none) none) (some ((x3,()),())):=(FnD.eqC V mza iz6 3 (x1,(x2,(x3,(x4,()))))).trans (by kernel_rfl)
theorem Izh:CallsOk Tryz.prog gls gvs 55 zzT:=FnD.ok (F:=iz6) (cs:=mza) V_ok kN Tryz.func55 (by decide) (by kernel_rfl)
noncomputable def izS:FnD:={f:=100,fn:=Tryz.f100,ps:=[],rs:=[rt (.arr 25 (.int .u64))]}
noncomputable def mzA:List (Nat×Sig):=[]
noncomputable def izB:Unit→Option (((List Int)×Unit)×Unit):=izS.d V mzA
noncomputable abbrev rzB:Sig:=izS.t.sig izB
theorem BzC:izB ()=some (((0::(1::(62::(28::(27::(36::(44::(6::(55::(20::(3::(10::(43::(25::(39::(41::(45::(15::(21::(8::(18::(2::(61::(56::(14::([]:List Int)))))))))))))))))))))))))),()),()):=(FnD.eq V mzA izS ()).trans (by kernel_rfl)
theorem AzW:CallsOk Tryz.prog gls gvs 100 rzB:=FnD.ok (F:=izS) (cs:=mzA) V_ok kN Tryz.func100 (by decide) (by kernel_rfl)
noncomputable def kzs:FnD:={f:=101,fn:=Tryz.f101,ps:=[],rs:=[rt (.arr 24 (.int .u64))]}
noncomputable def ozw:List (Nat×Sig):=[]
noncomputable def kzA:Unit→Option (((List Int)×Unit)×Unit):=kzs.d V ozw
noncomputable abbrev uzF:Sig:=kzs.t.sig kzA
theorem Cz5:kzA ()=some (((1::(32898::(9223372036854808714::(9223372039002292224::(32907::(2147483649::(9223372039002292353::(9223372036854808585::(138::(136::(2147516425::(2147483658::(2147516555::(9223372036854775947::(9223372036854808713::(9223372036854808579::(9223372036854808578::(9223372036854775936::(32778::(9223372039002259466::(9223372039002292353::(9223372036854808704::(2147483649::(9223372039002292232::([]:List Int))))))))))))))))))))))))),()),()):=(FnD.eq V ozw kzs ()).trans (by kernel_rfl)
theorem EzR:CallsOk Tryz.prog gls gvs 101 uzF:=FnD.ok (F:=kzs) (cs:=ozw) V_ok kN Tryz.func101 (by decide) (by kernel_rfl)
noncomputable def pzR:FnD:={f:=137,fn:=Tryz.f137,ps:=[pa (.int .u64),pa (.int .u64)],rs:=[rt (.int .u64)]}
noncomputable def tzW:List (Nat×Sig):=[]
noncomputable def lzM:Int×Int×Unit→Option ((Int×Unit)×Unit):=pzR.d V tzW
noncomputable abbrev Azj:Sig:=pzR.t.sig lzM
theorem Iza (x1:Int) (x2:Int):lzM (x1,(x2,()))=cnd (nn x2) (cnd (nn (isub .u64 64 x2)) (some (((ior .u64 (ishl .u64 x1 x2) (ishr .u64 x1 (isub .u64 64 x2))),()),())) none) none:=(FnD.eq V tzW pzR (x1,(x2,()))).trans (by kernel_rfl)
theorem Ize:CallsOk Tryz.prog gls gvs 137 Azj:=FnD.ok (F:=pzR) (cs:=tzW) V_ok kN Tryz.func137 (by decide) (by kernel_rfl)
noncomputable def bzm:FnD:={f:=102,fn:=Tryz.f102,ps:=[pa (.arr 25 (.int .u64)),pa (.arr 25 (.int .u64)),pa (.int .u64)],rs:=[rt (.arr 25 (.int .u64))],joins:=[18],cuts:=[(3,[.val 2 (.int .u64) .sh, .val 8 (.int .i64) .sh, .box 3 (.arr 25 (.int .u64)) .sh, .box 4 (.arr 25 (.int .u64)) .sh, .box 6 (.arr 25 (.int .u64)) .sh, .box 7 (.arr 5 (.int .u64)) .sh, .ptr 3 3 0, .ptr 4 4 0, .ptr 6 6 0, .ptr 7 7 0]),(18,[.val 2 (.int .u64) .sh, .val 10 (.int .i64) .sh, .val 11 (.int .u64) .sh, .val 12 (.int .i64) .sh, .val 13 (.int .u64) .sh, .box 3 (.arr 25 (.int .u64)) .sh, .box 4 (.arr 25 (.int .u64)) .sh, .box 6 (.arr 25 (.int .u64)) .sh, .box 7 (.arr 5 (.int .u64)) .sh, .box 9 (.arr 25 (.int .u64)) .sh, .ptr 3 3 0, .ptr 4 4 0, .ptr 6 6 0, .ptr 7 7 0, .ptr 9 9 0]),(12,[.val 2 (.int .u64) .sh, .val 10 (.int .i64) .sh, .val 11 (.int .u64) .sh, .val 12 (.int .i64) .sh, .box 3 (.arr 25 (.int .u64)) .sh, .box 4 (.arr 25 (.int .u64)) .sh, .box 6 (.arr 25 (.int .u64)) .sh, .box 7 (.arr 5 (.int .u64)) .sh, .box 9 (.arr 25 (.int .u64)) .sh, .ptr 3 3 0, .ptr 4 4 0, .ptr 6 6 0, .ptr 7 7 0, .ptr 9 9 0]),(8,[.val 2 (.int .u64) .sh, .val 10 (.int .i64) .sh, .box 3 (.arr 25 (.int .u64)) .sh, .box 4 (.arr 25 (.int .u64)) .sh, .box 6 (.arr 25 (.int .u64)) .sh, .box 7 (.arr 5 (.int .u64)) .sh, .box 9 (.arr 25 (.int .u64)) .sh, .ptr 3 3 0, .ptr 4 4 0, .ptr 6 6 0, .ptr 7 7 0, .ptr 9 9 0]),(23,[.val 2 (.int .u64) .sh, .val 15 (.int .i64) .sh, .val 16 (.int .i64) .sh, .box 3 (.arr 25 (.int .u64)) .sh, .box 6 (.arr 25 (.int .u64)) .sh, .box 9 (.arr 25 (.int .u64)) .sh, .ptr 3 3 0, .ptr 6 6 0, .ptr 9 9 0]),(20,[.val 2 (.int .u64) .sh, .val 15 (.int .i64) .sh, .box 3 (.arr 25 (.int .u64)) .sh, .box 6 (.arr 25 (.int .u64)) .sh, .box 9 (.arr 25 (.int .u64)) .sh, .ptr 3 3 0, .ptr 6 6 0, .ptr 9 9 0])]}
noncomputable def bzx:List (Nat×Sig):=[(137,Azj)]
noncomputable def mzJ:(List Int)× (List Int)×Int×Unit→Option (((List Int)×Unit)×Unit):=bzm.d V bzx
noncomputable abbrev wzc:Sig:=bzm.t.sig mzJ
noncomputable def fzq:Int×Int× (List Int)× (List Int)× (List Int)× (List Int)×Unit→Option (((List Int)×Unit)×Unit):=bzm.D V bzx 3
noncomputable def nzk:Int×Int×Int×Int×Int× (List Int)× (List Int)× (List Int)× (List Int)× (List Int)×Unit→Option (((List Int)×Unit)×Unit):=bzm.D V bzx 18
noncomputable def gzi:Int×Int×Int×Int× (List Int)× (List Int)× (List Int)× (List Int)× (List Int)×Unit→Option (((List Int)×Unit)×Unit):=bzm.D V bzx 12
noncomputable def fzw:Int×Int× (List Int)× (List Int)× (List Int)× (List Int)× (List Int)×Unit→Option (((List Int)×Unit)×Unit):=bzm.D V bzx 8
noncomputable def izA:Int×Int×Int× (List Int)× (List Int)× (List Int)×Unit→Option (((List Int)×Unit)×Unit):=bzm.D V bzx 23
noncomputable def dz8:Int×Int× (List Int)× (List Int)× (List Int)×Unit→Option (((List Int)×Unit)×Unit):=bzm.D V bzx 20
theorem Ez1 (x1:(List Int)) (x2:(List Int)) (x3:Int):mzJ (x1,(x2,(x3,())))=fzq (x3,(0,(x1,(x2,((0::(0::(0::(0::(0::(0::(0::(0::(0::(0::(0::(0::(0::(0::(0::(0::(0::(0::(0::(0::(0::(0::(0::(0::(0::([]:List Int)))))))))))))))))))))))))),((0::(0::(0::(0::(0::([]:List Int)))))),())))))):=(FnD.eq V bzx bzm (x1,(x2,(x3,())))).trans (by kernel_rfl)
theorem uz9 (x1:Int) (x2:Int) (x3:(List Int)) (x4:(List Int)) (x5:(List Int)) (x6:(List Int)):fzq (x1,(x2,(x3,(x4,(x5,(x6,()))))))=cnd (ilt x2 5) (cnd (inb x2 25) (cnd (inb (iadd .i64 x2 5) 25) (cnd (inb (iadd .i64 x2 10) 25) (cnd (inb (iadd .i64 x2 15) 25) (cnd (inb (iadd .i64 x2 20) 25) (cnd (inb x2 5) (fzq (x1,((iadd .i64 x2 1),(x3,(x4,(x5,((upd x6 x2 (ixor .u64 (ixor .u64 (ixor .u64 (ixor .u64 (rd 0 x3 x2) (rd 0 x3 (iadd .i64 x2 5))) (rd 0 x3 (iadd .i64 x2 10))) (rd 0 x3 (iadd .i64 x2 15))) (rd 0 x3 (iadd .i64 x2 20)))),()))))))) none) none) none) none) none) none) (fzw (x1,(0,(x3,(x4,(x5,(x6,((0::(0::(0::(0::(0::(0::(0::(0::(0::(0::(0::(0::(0::(0::(0::(0::(0::(0::(0::(0::(0::(0::(0::(0::(0::([]:List Int)))))))))))))))))))))))))),())))))))):=(FnD.eqC V bzx bzm 3 (x1,(x2,(x3,(x4,(x5,(x6,()))))))).trans (by kernel_rfl)
theorem rz3 (x1:Int) (x2:Int) (x3:Int) (x4:Int) (x5:Int) (x6:(List Int)) (x7:(List Int)) (x8:(List Int)) (x9:(List Int)) (x10:(List Int)):nzk (x1,(x2,(x3,(x4,(x5,(x6,(x7,(x8,(x9,(x10,()))))))))))=cnd (nz 5) (cnd (inb (iadd .i64 x4 (imul .i64 5 (irem (iadd .i64 (imul .i64 2 x2) (imul .i64 3 x4)) 5))) 25) (gzi (x1,(x2,(x3,((iadd .i64 x4 1),(x6,(x7,(x8,(x9,((upd x10 (iadd .i64 x4 (imul .i64 5 (irem (iadd .i64 (imul .i64 2 x2) (imul .i64 3 x4)) 5))) x5),())))))))))) none) none:=(FnD.eqC V bzx bzm 18 (x1,(x2,(x3,(x4,(x5,(x6,(x7,(x8,(x9,(x10,()))))))))))).trans (by kernel_rfl)
theorem rzC (x1:Int) (x2:Int) (x3:Int) (x4:Int) (x5:(List Int)) (x6:(List Int)) (x7:(List Int)) (x8:(List Int)) (x9:(List Int)):gzi (x1,(x2,(x3,(x4,(x5,(x6,(x7,(x8,(x9,())))))))))=cnd (ilt x4 5) (cnd (inb (iadd .i64 x2 (imul .i64 5 x4)) 25) (cnd (inb (iadd .i64 x2 (imul .i64 5 x4)) 25) (cnd (igt (rd 0 x6 (iadd .i64 x2 (imul .i64 5 x4))) 0) (bnd (lzM ((ixor .u64 (rd 0 x5 (iadd .i64 x2 (imul .i64 5 x4))) x3),((rd 0 x6 (iadd .i64 x2 (imul .i64 5 x4))),()))) (fun r9=>(nzk (x1,(x2,(x3,(x4,(r9.1.1,(x5,(x6,(x7,(x8,(x9,()))))))))))))) (nzk (x1,(x2,(x3,(x4,((ixor .u64 (rd 0 x5 (iadd .i64 x2 (imul .i64 5 x4))) x3),(x5,(x6,(x7,(x8,(x9,())))))))))))) none) none) (fzw (x1,((iadd .i64 x2 1),(x5,(x6,(x7,(x8,(x9,())))))))):=(FnD.eqC V bzx bzm 12 (x1,(x2,(x3,(x4,(x5,(x6,(x7,(x8,(x9,())))))))))).trans (by kernel_rfl)
theorem uzX (x1:Int) (x2:Int) (x3:(List Int)) (x4:(List Int)) (x5:(List Int)) (x6:(List Int)) (x7:(List Int)):fzw (x1,(x2,(x3,(x4,(x5,(x6,(x7,())))))))=cnd (ilt x2 5) (cnd (nz 5) (cnd (inb (irem (iadd .i64 x2 4) 5) 5) (cnd (nz 5) (cnd (inb (irem (iadd .i64 x2 1) 5) 5) (bnd (lzM ((rd 0 x6 (irem (iadd .i64 x2 1) 5)),(1,()))) (fun r7=>(gzi (x1,(x2,((ixor .u64 (rd 0 x6 (irem (iadd .i64 x2 4) 5)) r7.1.1),(0,(x3,(x4,(x5,(x6,(x7,())))))))))))) none) none) none) none) (dz8 (x1,(0,(x3,(x5,(x7,())))))):=(FnD.eqC V bzx bzm 8 (x1,(x2,(x3,(x4,(x5,(x6,(x7,())))))))).trans (by kernel_rfl)
theorem szX (x1:Int) (x2:Int) (x3:Int) (x4:(List Int)) (x5:(List Int)) (x6:(List Int)):izA (x1,(x2,(x3,(x4,(x5,(x6,()))))))=cnd (ilt x3 5) (cnd (inb (iadd .i64 x3 (imul .i64 5 x2)) 25) (cnd (nz 5) (cnd (inb (iadd .i64 (irem (iadd .i64 x3 1) 5) (imul .i64 5 x2)) 25) (cnd (nz 5) (cnd (inb (iadd .i64 (irem (iadd .i64 x3 2) 5) (imul .i64 5 x2)) 25) (cnd (inb (iadd .i64 x3 (imul .i64 5 x2)) 25) (izA (x1,(x2,((iadd .i64 x3 1),((upd x4 (iadd .i64 x3 (imul .i64 5 x2)) (ixor .u64 (rd 0 x6 (iadd .i64 x3 (imul .i64 5 x2))) (iand .u64 (ixor .u64 (rd 0 x6 (iadd .i64 (irem (iadd .i64 x3 1) 5) (imul .i64 5 x2))) 18446744073709551615) (rd 0 x6 (iadd .i64 (irem (iadd .i64 x3 2) 5) (imul .i64 5 x2)))))),(x5,(x6,()))))))) none) none) none) none) none) none) (dz8 (x1,((iadd .i64 x2 1),(x4,(x5,(x6,())))))):=(FnD.eqC V bzx bzm 23 (x1,(x2,(x3,(x4,(x5,(x6,()))))))).trans (by kernel_rfl)
theorem rzT (x1:Int) (x2:Int) (x3:(List Int)) (x4:(List Int)) (x5:(List Int)):dz8 (x1,(x2,(x3,(x4,(x5,())))))=cnd (ilt x2 5) (izA (x1,(x2,(0,(x3,(x4,(x5,()))))))) (cnd (inb 0 25) (cnd (inb 0 25) (some (((upd x3 0 (ixor .u64 (rd 0 x3 0) x1)),()),())) none) none):=(FnD.eqC V bzx bzm 20 (x1,(x2,(x3,(x4,(x5,())))))).trans (by kernel_rfl)
theorem Gzt:CallsOk Tryz.prog gls gvs 102 wzc:=FnD.ok (F:=bzm) (cs:=bzx) V_ok (kC Ize kN) Tryz.func102 (by decide) (by kernel_rfl)
noncomputable def lzx:FnD:={f:=56,fn:=Tryz.f56,ps:=[pa (.arr 25 (.int .u64))],rs:=[rt (.arr 25 (.int .u64))],cuts:=[(4,[.val 5 (.int .i64) .sh, .box 1 (.arr 25 (.int .u64)) .sh, .box 2 (.arr 25 (.int .u64)) .sh, .box 3 (.arr 25 (.int .u64)) .sh, .box 4 (.arr 24 (.int .u64)) .sh, .ptr 1 1 0, .ptr 2 2 0, .ptr 3 3 0, .ptr 4 4 0])]}
noncomputable def ozM:List (Nat×Sig):=[(100,rzB),(101,uzF),(102,wzc)]
noncomputable def szv:(List Int)×Unit→Option (((List Int)×Unit)×Unit):=lzx.d V ozM
noncomputable abbrev EzA:Sig:=lzx.t.sig szv
noncomputable def pzG:Int× (List Int)× (List Int)× (List Int)× (List Int)×Unit→Option (((List Int)×Unit)×Unit):=lzx.D V ozM 4
theorem Kzo (x1:(List Int)):szv (x1,())=bnd (izB ()) (fun r1=>(bnd (kzA ()) (fun r2=>(pzG (0,(x1,((0::(0::(0::(0::(0::(0::(0::(0::(0::(0::(0::(0::(0::(0::(0::(0::(0::(0::(0::(0::(0::(0::(0::(0::(0::([]:List Int)))))))))))))))))))))))))),(r1.1.1,(r2.1.1,()))))))))):=(FnD.eq V ozM lzx (x1,())).trans (by kernel_rfl)
theorem zzC (x1:Int) (x2:(List Int)) (x3:(List Int)) (x4:(List Int)) (x5:(List Int)):pzG (x1,(x2,(x3,(x4,(x5,())))))=cnd (ilt x1 24) (cnd (inb x1 24) (bnd (mzJ (x2,(x4,((rd 0 x5 x1),())))) (fun r5=>(pzG ((iadd .i64 x1 1),(r5.1.1,(x3,(x4,(x5,())))))))) none) (some ((x2,()),())):=(FnD.eqC V ozM lzx 4 (x1,(x2,(x3,(x4,(x5,())))))).trans (by kernel_rfl)
theorem KzN:CallsOk Tryz.prog gls gvs 56 EzA:=FnD.ok (F:=lzx) (cs:=ozM) V_ok (kC AzW (kC EzR (kC Gzt kN))) Tryz.func56 (by decide) (by kernel_rfl)
noncomputable def jzr:FnD:={f:=57,fn:=Tryz.f57,ps:=[pa (.arr 25 (.int .u64))],rs:=[rt .str],cuts:=[(3,[.val 3 (.sl (.int .u8)) (.own 0 .sh), .val 4 (.int .i64) .sh, .box 1 (.arr 25 (.int .u64)) .sh, .ptr 1 1 0])]}
noncomputable def lzS:List (Nat×Sig):=[]
noncomputable def pzx:(List Int)×Unit→Option ((ByteArray×Unit)×Unit):=jzr.d V lzS
noncomputable abbrev AzC:Sig:=jzr.t.sig pzx
noncomputable def jzE:(List Int)×Int× (List Int)×Unit→Option ((ByteArray×Unit)×Unit):=jzr.D V lzS 3
theorem Jze (x1:(List Int)):pzx (x1,())=cnd (both (inb2 0 200 200) (fits 200 1)) (jzE ((rep 200 0),(0,(x1,())))) none:=(FnD.eq V lzS jzr (x1,())).trans (by kernel_rfl)
theorem xzZ (x1:(List Int)) (x2:Int) (x3:(List Int)):jzE (x1,(x2,(x3,())))=cnd (ilt x2 200) (cnd (nz 8) (cnd (inb (iquo .i64 x2 8) 25) (cnd (nz 8) (cnd (nn (imul .u64 8 (azx .u64 (irem x2 8)))) (cnd (inb x2 (len x1)) (jzE ((upd x1 x2 (azx .u8 (ishr .u64 (rd 0 x3 (iquo .i64 x2 8)) (imul .u64 8 (azx .u64 (irem x2 8)))))),((iadd .i64 x2 1),(x3,())))) none) none) none) none) none) (some (((sof x1),()),())):=(FnD.eqC V lzS jzr 3 (x1,(x2,(x3,())))).trans (by kernel_rfl)
theorem Iz1:CallsOk Tryz.prog gls gvs 57 AzC:=FnD.ok (F:=jzr) (cs:=lzS) V_ok kN Tryz.func57 (by decide) (by kernel_rfl)
noncomputable def izd:FnD:={f:=24,fn:=Tryz.f24,ps:=[pa .str],rs:=[rt .str],cuts:=[(7,[.val 3 .str .sh, .val 5 (.int .i64) .sh, .val 6 (.int .i64) .sh, .box 4 (.arr 25 (.int .u64)) .sh, .ptr 4 4 0]),(4,[.val 3 .str .sh, .val 5 (.int .i64) .sh, .box 4 (.arr 25 (.int .u64)) .sh, .ptr 4 4 0])]}
noncomputable def jzY:List (Nat×Sig):=[(54,uzI),(55,zzT),(56,EzA),(57,AzC)]
noncomputable def czT:ByteArray×Unit→Option ((ByteArray×Unit)×Unit):=izd.d V jzY
noncomputable abbrev fz5:Sig:=izd.t.sig czT
noncomputable def lzt:ByteArray×Int×Int× (List Int)×Unit→Option ((ByteArray×Unit)×Unit):=izd.D V jzY 7
noncomputable def lzP:ByteArray×Int× (List Int)×Unit→Option ((ByteArray×Unit)×Unit):=izd.D V jzY 4
theorem Lzu (x1:ByteArray):czT (x1,())=bnd (kzO (x1,())) (fun r1=>(lzP (r1.1.1,(0,((0::(0::(0::(0::(0::(0::(0::(0::(0::(0::(0::(0::(0::(0::(0::(0::(0::(0::(0::(0::(0::(0::(0::(0::(0::([]:List Int)))))))))))))))))))))))))),()))))):=(FnD.eq V jzY izd (x1,())).trans (by kernel_rfl)
theorem Azu (x1:ByteArray) (x2:Int) (x3:Int) (x4:(List Int)):lzt (x1,(x2,(x3,(x4,()))))=cnd (ilt x3 17) (cnd (inb x3 25) (bnd (pzH (x1,((iadd .i64 x2 (imul .i64 8 x3)),()))) (fun r4=>(cnd (inb x3 25) (lzt (x1,(x2,((iadd .i64 x3 1),((upd x4 x3 (ixor .u64 (rd 0 x4 x3) r4.1.1)),()))))) none))) none) (bnd (szv (x4,())) (fun r4=>(lzP (x1,((iadd .i64 x2 136),(r4.1.1,())))))):=(FnD.eqC V jzY izd 7 (x1,(x2,(x3,(x4,()))))).trans (by kernel_rfl)
theorem Azv (x1:ByteArray) (x2:Int) (x3:(List Int)):lzP (x1,(x2,(x3,())))=cnd (ilt x2 (ssz x1)) (lzt (x1,(x2,(0,(x3,()))))) (bnd (pzx (x3,())) (fun r3=>(cnd (inb2 0 32 (ssz r3.1.1)) (some (((ssub r3.1.1 0 32),()),())) none))):=(FnD.eqC V jzY izd 4 (x1,(x2,(x3,())))).trans (by kernel_rfl)
theorem izb:CallsOk Tryz.prog gls gvs 24 fz5:=FnD.ok (F:=izd) (cs:=jzY) V_ok (kC DzJ (kC Izh (kC KzN (kC Iz1 kN)))) Tryz.func24 (by decide) (by kernel_rfl)
noncomputable def pzV:FnD:={f:=133,fn:=Tryz.f133,ps:=[pa .item],rs:=[⟨.item,(.own 0 .sh),false⟩],al:=true}
noncomputable def tzw:List (Nat×Sig):=[(91,gzY),(163,zzq),(24,fz5),(130,pzn)]
noncomputable def lz3:ItemT×Unit→Option ((ItemT×Unit)×Unit):=pzV.d V tzw
noncomputable abbrev Azz:Sig:=pzV.t.sig lz3
theorem Jzf (x1:ItemT):lz3 (x1,())=bnd (dzW (x1,())) (fun r1=>(cnd r1.1.2.1 (cnd (ilt (ssz r1.1.1) 32) (bnd (iz7 (x1,())) (fun r2=>(some ((r2.1.1,()),())))) (bnd (czT (r1.1.1,())) (fun r2=>(bnd (czu (r2.1.1,())) (fun r3=>(some ((r3.1.1,()),()))))))) (bnd (czT (r1.1.1,())) (fun r2=>(bnd (czu (r2.1.1,())) (fun r3=>(some ((r3.1.1,()),())))))))):=(FnD.eq V tzw pzV (x1,())).trans (by kernel_rfl)
theorem JzH:CallsOk Tryz.prog gls gvs 133 Azz:=FnD.ok (F:=pzV) (cs:=tzw) V_ok (kC jzP (kC IzM (kC izb (kC uzf kN)))) Tryz.func133 (by decide) (by kernel_rfl)
noncomputable def fzj:FnD:={f:=92,fn:=Tryz.f92,ps:=[pa (.sl czh),pa (.int .i64)],rs:=[⟨.item,(.own 0 .sh),false⟩],al:=true,fz:=[1000112,1000106,1000105,22000012],cuts:=[(16,[.val 0 (.sl czh) .sh, .val 1 (.int .i64) .sh, .val 11 (.int .i64) .sh, .val 12 (.sl czh) (.own 0 .sh), .val 13 (.int .i64) .sh, .box 4 .item (.own 0 .sh), .box 10 .item (.own 0 .sh), .ptr 4 4 0, .ptr 10 10 0]),(12,[.val 0 (.sl czh) .sh, .val 1 (.int .i64) .sh, .val 11 (.int .i64) .sh, .box 4 .item (.own 0 .sh), .box 10 .item (.own 0 .sh), .ptr 4 4 0, .ptr 10 10 0])]}
noncomputable def gzL:List (Nat×Sig):=[(130,pzn),(66,ez9),(131,mzL),(132,vzl),(133,Azz)]
noncomputable def czW:(List azh)×Int×Unit→Option ((ItemT×Unit)×Unit):=fzj.d V gzL
noncomputable abbrev tz1:Sig:=fzj.t.sig czW
noncomputable def fzo:(List azh)×Int×Int× (List azh)×Int×ItemT×ItemT×Unit→Option ((ItemT×Unit)×Unit):=fzj.D V gzL 16
noncomputable def hzW:(List azh)×Int×Int×ItemT×ItemT×Unit→Option ((ItemT×Unit)×Unit):=fzj.D V gzL 12
theorem tzP (x1:(List azh)) (x2:Int):czW (x1,(x2,()))=cnd (ieq (len x1) 0) (bnd (czu ((bs []),())) (fun r2=>(some ((r2.1.1,()),())))) (cnd (ieq (len x1) 1) (cnd (inb 0 (len x1)) (bnd (bzH ((rd bzr x1 0).1,())) (fun r2=>(cnd (inb2 x2 (len r2.1.1) (len r2.1.1)) (bnd (czx ((sub r2.1.1 x2 (len r2.1.1)),(true,()))) (fun r3=>(bnd (czu (r3.1.1,())) (fun r4=>(cnd (inb 0 (len x1)) (bnd (czu ((rd bzr x1 0).2.1,())) (fun r5=>(some (((ItemT.mk true (bs []) (r4.1.1::(r5.1.1::([]:List ItemT)))),()),())))) none))))) none))) none) (bnd (kzX (x1,(x2,()))) (fun r2=>(cnd (igt r2.1.1 0) (cnd (inb 0 (len x1)) (bnd (bzH ((rd bzr x1 0).1,())) (fun r3=>(cnd (inb2 x2 (iadd .i64 x2 r2.1.1) (len r3.1.1)) (bnd (czx ((sub r3.1.1 x2 (iadd .i64 x2 r2.1.1)),(false,()))) (fun r4=>(bnd (czu (r4.1.1,())) (fun r5=>(bnd (czW (x1,((iadd .i64 x2 r2.1.1),()))) (fun r6=>(bnd (lz3 (r6.1.1,())) (fun r7=>(some (((ItemT.mk true (bs []) (r5.1.1::(r7.1.1::([]:List ItemT)))),()),())))))))))) none))) none) (hzW (x1,(x2,(0,((ItemT.mk false (bs []) ([]:List ItemT)),((ItemT.mk true (bs []) ([]:List ItemT)),())))))))))):=(FnD.eq V gzL fzj (x1,(x2,()))).trans (by kernel_rfl)
theorem uzW (x1:(List azh)) (x2:Int) (x3:Int) (x4:(List azh)) (x5:Int) (x6:ItemT) (x7:ItemT):fzo (x1,(x2,(x3,(x4,(x5,(x6,(x7,())))))))=cnd (ilt x5 (len x1)) (cnd (inb x5 (len x1)) (bnd (bzH ((rd bzr x1 x5).1,())) (fun r7=>(cnd (inb x2 (len r7.1.1)) (cnd (ieq (rd 0 r7.1.1 x2) x3) (cnd (inb x5 (len x1)) (cnd (fits ((len x4)+(len ((rd bzr x1 x5)::([]:List azh)))) 2) (fzo (x1,(x2,(x3,((app x4 ((rd bzr x1 x5)::([]:List azh))),((iadd .i64 x5 1),(x6,(x7,())))))))) none) none) (fzo (x1,(x2,(x3,(x4,((iadd .i64 x5 1),(x6,(x7,()))))))))) none))) none) (bnd (czW (x4,((iadd .i64 x2 1),()))) (fun r7=>(bnd (lz3 (r7.1.1,())) (fun r8=>(cnd (fits ((len x7.k)+(len (r8.1.1::([]:List ItemT)))) 3) (hzW (x1,(x2,((iadd .i64 x3 1),(x6,((ItemT.mk x7.l x7.s (app x7.k (r8.1.1::([]:List ItemT)))),())))))) none))))):=(FnD.eqC V gzL fzj 16 (x1,(x2,(x3,(x4,(x5,(x6,(x7,())))))))).trans (by kernel_rfl)
theorem vzm (x1:(List azh)) (x2:Int) (x3:Int) (x4:ItemT) (x5:ItemT):hzW (x1,(x2,(x3,(x4,(x5,())))))=cnd (ilt x3 16) (fzo (x1,(x2,(x3,(([]:List azh),(0,(x4,(x5,())))))))) (bnd (czu ((bs []),())) (fun r5=>(cnd (fits ((len x5.k)+(len (r5.1.1::([]:List ItemT)))) 3) (some (((ItemT.mk x5.l x5.s (app x5.k (r5.1.1::([]:List ItemT)))),()),())) none))):=(FnD.eqC V gzL fzj 12 (x1,(x2,(x3,(x4,(x5,())))))).trans (by kernel_rfl)
theorem zzo:CallsOk Tryz.prog gls gvs 92 tz1:=FnD.ok (F:=fzj) (cs:=gzL) V_ok (kC uzf (kC hz6 (kC tze (kC CzA (kC JzH kN))))) Tryz.func92 (by decide) (by kernel_rfl)
noncomputable def mzt:FnD:={f:=47,fn:=Tryz.f47,ps:=[pa (.sl czh)],rs:=[rt .str]}
noncomputable def qz6:List (Nat×Sig):=[(90,pzL),(92,tz1),(91,gzY),(24,fz5)]
noncomputable def ez3:(List azh)×Unit→Option ((ByteArray×Unit)×Unit):=mzt.d V qz6
noncomputable abbrev nzb:Sig:=mzt.t.sig ez3
theorem Ez4 (x1:(List azh)):ez3 (x1,())=bnd (fzi (x1,())) (fun r1=>(cnd (bnot r1.1.1) (some (((bs []),()),())) (bnd (czW (x1,(0,()))) (fun r2=>(bnd (dzW (r2.1.1,())) (fun r3=>(bnd (czT (r3.1.1,())) (fun r4=>(some ((r4.1.1,()),())))))))))):=(FnD.eq V qz6 mzt (x1,())).trans (by kernel_rfl)
theorem rzt:CallsOk Tryz.prog gls gvs 47 nzb:=FnD.ok (F:=mzt) (cs:=qz6) V_ok (kC tzq (kC zzo (kC jzP (kC izb kN)))) Tryz.func47 (by decide) (by kernel_rfl)
noncomputable def pzh:FnD:={f:=127,fn:=Tryz.f127,ps:=[pa (.int .i64),pa (.int .i64),pa .str],rs:=[rt .str]}
noncomputable def tzY:List (Nat×Sig):=[(113,pzz),(130,pzn),(91,gzY)]
noncomputable def tzs:Int×Int×ByteArray×Unit→Option ((ByteArray×Unit)×Unit):=pzh.d V tzY
noncomputable abbrev Azs:Sig:=pzh.t.sig tzs
theorem Azm (x1:Int) (x2:Int) (x3:ByteArray):tzs (x1,(x2,(x3,())))=bnd (gz0 (x1,())) (fun r3=>(bnd (czu (r3.1.1,())) (fun r4=>(bnd (gz0 (x2,())) (fun r5=>(bnd (czu (r5.1.1,())) (fun r6=>(bnd (czu (x3,())) (fun r7=>(bnd (dzW ((ItemT.mk true (bs []) (r4.1.1::(r6.1.1::(r7.1.1::([]:List ItemT))))),())) (fun r8=>(some ((r8.1.1,()),()))))))))))))):=(FnD.eq V tzY pzh (x1,(x2,(x3,())))).trans (by kernel_rfl)
theorem Jzn:CallsOk Tryz.prog gls gvs 127 Azs:=FnD.ok (F:=pzh) (cs:=tzY) V_ok (kC tzy (kC uzf (kC jzP kN))) Tryz.func127 (by decide) (by kernel_rfl)
noncomputable def hzs:FnD:={f:=89,fn:=Tryz.f89,ps:=[pa bzc],rs:=[rt .str]}
noncomputable def kz5:List (Nat×Sig):=[(47,nzb),(127,Azs)]
noncomputable def ezJ:azb×Unit→Option ((ByteArray×Unit)×Unit):=hzs.d V kz5
noncomputable abbrev qzO:Sig:=hzs.t.sig ezJ
theorem qzF (x1:azb):ezJ (x1,())=bnd (ez3 (x1.2.2.2.1,())) (fun r1=>(bnd (tzs (x1.2.1,(x1.2.2.1,(r1.1.1,())))) (fun r2=>(some ((r2.1.1,()),()))))):=(FnD.eq V kz5 hzs (x1,())).trans (by kernel_rfl)
theorem yzV:CallsOk Tryz.prog gls gvs 89 qzO:=FnD.ok (F:=hzs) (cs:=kz5) V_ok (kC rzt (kC Jzn kN)) Tryz.func89 (by decide) (by kernel_rfl)
noncomputable def fzf:FnD:={f:=46,fn:=Tryz.f46,ps:=[pa (.sl bzc)],rs:=[⟨(.sl czh),(.own 0 .sh),false⟩],cuts:=[(5,[.val 0 (.sl bzc) .sh, .val 3 (.sl czh) (.own 0 .sh), .val 4 (.int .i64) .sh])]}
noncomputable def hzV:List (Nat×Sig):=[(88,rz1),(89,qzO)]
noncomputable def fzA:(List azb)×Unit→Option (((List azh)×Unit)×Unit):=fzf.d V hzV
noncomputable abbrev ozh:Sig:=fzf.t.sig fzA
noncomputable def fzP:(List azb)× (List azh)×Int×Unit→Option (((List azh)×Unit)×Unit):=fzf.D V hzV 5
theorem vzk (x1:(List azb)):fzA (x1,())=bnd (izF (x1,())) (fun r1=>(cnd (bnot r1.1.1) (some ((([]:List azh),()),())) (fzP (x1,(([]:List azh),(0,())))))):=(FnD.eq V hzV fzf (x1,())).trans (by kernel_rfl)
theorem izJ (x1:(List azb)) (x2:(List azh)) (x3:Int):fzP (x1,(x2,(x3,())))=cnd (ilt x3 (len x1)) (cnd (inb x3 (len x1)) (cnd (inb x3 (len x1)) (bnd (ezJ ((rd azL x1 x3),())) (fun r3=>(cnd (fits ((len x2)+(len (((rd azL x1 x3).1,(r3.1.1,()))::([]:List azh)))) 2) (fzP (x1,((app x2 (((rd azL x1 x3).1,(r3.1.1,()))::([]:List azh))),((iadd .i64 x3 1),())))) none))) none) none) (some ((x2,()),())):=(FnD.eqC V hzV fzf 5 (x1,(x2,(x3,())))).trans (by kernel_rfl)
theorem vzh:CallsOk Tryz.prog gls gvs 46 ozh:=FnD.ok (F:=fzf) (cs:=hzV) V_ok (kC Bzw (kC yzV kN)) Tryz.func46 (by decide) (by kernel_rfl)
noncomputable def Bza:FnD:={f:=164,fn:=Tryz.f164,ps:=[pa (.int .i64)],rs:=[rt .bool]}
noncomputable def Gzg:List (Nat×Sig):=[(64,fzG)]
noncomputable def xzk:Int×Unit→Option ((Bool×Unit)×Unit):=Bza.d V Gzg
noncomputable abbrev LzA:Sig:=Bza.t.sig xzk
theorem QzZ (x1:Int):xzk (x1,())=bnd (czl (x1,(0,(12106,())))) (fun r1=>(some ((r1.1.1,()),()))):=(FnD.eq V Gzg Bza (x1,())).trans (by kernel_rfl)
theorem QzN:CallsOk Tryz.prog gls gvs 164 LzA:=FnD.ok (F:=Bza) (cs:=Gzg) V_ok (kC hzm kN) Tryz.func164 (by decide) (by kernel_rfl)
noncomputable def Czb:FnD:={f:=182,fn:=Tryz.f182,ps:=[pa (.int .i64)],rs:=[rt (.int .i64)]}
noncomputable def Fz7:List (Nat×Sig):=[]
noncomputable def fzQ:Int×Unit→Option ((Int×Unit)×Unit):=Czb.d V Fz7
noncomputable abbrev uzk:Sig:=Czb.t.sig fzQ
theorem QzY (x1:Int):fzQ (x1,())=cnd (nz 12107) (cnd (ilt (irem x1 12107) 0) (some (((iadd .i64 (irem x1 12107) 12107),()),())) (some (((irem x1 12107),()),()))) none:=(FnD.eq V Fz7 Czb (x1,())).trans (by kernel_rfl)
theorem wzr:CallsOk Tryz.prog gls gvs 182 uzk:=FnD.ok (F:=Czb) (cs:=Fz7) V_ok kN Tryz.func182 (by decide) (by kernel_rfl)
noncomputable def vzQ:FnD:={f:=165,fn:=Tryz.f165,ps:=[pa (.int .i64),pa (.int .i64)],rs:=[rt (.int .i64)]}
noncomputable def AzH:List (Nat×Sig):=[(182,uzk)]
noncomputable def czO:Int×Int×Unit→Option ((Int×Unit)×Unit):=vzQ.d V AzH
noncomputable abbrev nza:Sig:=vzQ.t.sig czO
theorem Ozq (x1:Int) (x2:Int):czO (x1,(x2,()))=bnd (fzQ (x1,())) (fun r2=>(bnd (fzQ (x2,())) (fun r3=>(bnd (fzQ ((imul .i64 r2.1.1 r3.1.1),())) (fun r4=>(some ((r4.1.1,()),()))))))):=(FnD.eq V AzH vzQ (x1,(x2,()))).trans (by kernel_rfl)
theorem pzW:CallsOk Tryz.prog gls gvs 165 nza:=FnD.ok (F:=vzQ) (cs:=AzH) V_ok (kC wzr kN) Tryz.func165 (by decide) (by kernel_rfl)
noncomputable def vzS:FnD:={f:=183,fn:=Tryz.f183,ps:=[pa (.int .i64),pa (.int .i64)],rs:=[rt (.int .i64)]}
noncomputable def AzO:List (Nat×Sig):=[(182,uzk)]
noncomputable def pzd:Int×Int×Unit→Option ((Int×Unit)×Unit):=vzS.d V AzO
noncomputable abbrev Az8:Sig:=vzS.t.sig pzd
theorem NzG (x1:Int) (x2:Int):pzd (x1,(x2,()))=bnd (fzQ (x1,())) (fun r2=>(bnd (fzQ (x2,())) (fun r3=>(bnd (fzQ ((iadd .i64 r2.1.1 r3.1.1),())) (fun r4=>(some ((r4.1.1,()),()))))))):=(FnD.eq V AzO vzS (x1,(x2,()))).trans (by kernel_rfl)
theorem Hzj:CallsOk Tryz.prog gls gvs 183 Az8:=FnD.ok (F:=vzS) (cs:=AzO) V_ok (kC wzr kN) Tryz.func183 (by decide) (by kernel_rfl)
noncomputable def mzW:FnD:={f:=166,fn:=Tryz.f166,ps:=[pa (.int .i64)],rs:=[rt (.int .i64)]}
noncomputable def rzo:List (Nat×Sig):=[(165,nza),(183,Az8)]
noncomputable def jzW:Int×Unit→Option ((Int×Unit)×Unit):=mzW.d V rzo
noncomputable abbrev rzh:Sig:=mzW.t.sig jzW
theorem Fzm (x1:Int):jzW (x1,())=bnd (czO (x1,(x1,()))) (fun r1=>(bnd (czO (r1.1.1,(x1,()))) (fun r2=>(bnd (pzd (r2.1.1,(x1,()))) (fun r3=>(some ((r3.1.1,()),()))))))):=(FnD.eq V rzo mzW (x1,())).trans (by kernel_rfl)
theorem wzN:CallsOk Tryz.prog gls gvs 166 rzh:=FnD.ok (F:=mzW) (cs:=rzo) V_ok (kC pzW (kC Hzj kN)) Tryz.func166 (by decide) (by kernel_rfl)
noncomputable def pzS:FnD:={f:=136,fn:=Tryz.f136,ps:=[pa az4],rs:=[rt .bool]}
noncomputable def tzZ:List (Nat×Sig):=[(164,LzA),(165,nza),(166,rzh)]
noncomputable def jze:azm×Unit→Option ((Bool×Unit)×Unit):=pzS.d V tzZ
noncomputable abbrev pzY:Sig:=pzS.t.sig jze
theorem Izb (x1:azm):jze (x1,())=cnd x1.2.2.1 (cnd (ieq x1.1 0) (some (((ieq x1.2.1 0),()),())) (some ((false,()),()))) (bnd (xzk (x1.1,())) (fun r1=>(cnd r1.1.1 (bnd (xzk (x1.2.1,())) (fun r2=>(cnd r2.1.1 (bnd (czO (x1.2.1,(x1.2.1,()))) (fun r3=>(bnd (jzW (x1.1,())) (fun r4=>(some (((ieq r3.1.1 r4.1.1),()),())))))) (some ((false,()),()))))) (some ((false,()),()))))):=(FnD.eq V tzZ pzS (x1,())).trans (by kernel_rfl)
theorem tzU:CallsOk Tryz.prog gls gvs 136 pzY:=FnD.ok (F:=pzS) (cs:=tzZ) V_ok (kC QzN (kC pzW (kC wzN kN))) Tryz.func136 (by decide) (by kernel_rfl)
noncomputable def pzq:FnD:={f:=179,fn:=Tryz.f179,ps:=[],rs:=[rt az4]}
noncomputable def tz7:List (Nat×Sig):=[]
noncomputable def jzg:Unit→Option ((azm×Unit)×Unit):=pzq.d V tz7
noncomputable abbrev pzt:Sig:=pzq.t.sig jzg
theorem tzv:jzg ()=some (((0,(0,(true,()))),()),()):=(FnD.eq V tz7 pzq ()).trans (by kernel_rfl)
theorem uzb:CallsOk Tryz.prog gls gvs 179 pzt:=FnD.ok (F:=pzq) (cs:=tz7) V_ok kN Tryz.func179 (by decide) (by kernel_rfl)
noncomputable def vz8:FnD:={f:=194,fn:=Tryz.f194,ps:=[pa (.int .i64),pa (.int .i64)],rs:=[rt (.int .i64)]}
noncomputable def BzJ:List (Nat×Sig):=[(182,uzk)]
noncomputable def ez1:Int×Int×Unit→Option ((Int×Unit)×Unit):=vz8.d V BzJ
noncomputable abbrev szV:Sig:=vz8.t.sig ez1
theorem OzL (x1:Int) (x2:Int):ez1 (x1,(x2,()))=bnd (fzQ (x1,())) (fun r2=>(bnd (fzQ (x2,())) (fun r3=>(bnd (fzQ ((isub .i64 r2.1.1 r3.1.1),())) (fun r4=>(some ((r4.1.1,()),()))))))):=(FnD.eq V BzJ vz8 (x1,(x2,()))).trans (by kernel_rfl)
theorem vzX:CallsOk Tryz.prog gls gvs 194 szV:=FnD.ok (F:=vz8) (cs:=BzJ) V_ok (kC wzr kN) Tryz.func194 (by decide) (by kernel_rfl)
noncomputable def mzn:FnD:={f:=180,fn:=Tryz.f180,ps:=[pa az4],rs:=[rt az4]}
noncomputable def qz3:List (Nat×Sig):=[(179,pzt),(194,szV)]
noncomputable def qz9:azm×Unit→Option ((azm×Unit)×Unit):=mzn.d V qz3
noncomputable abbrev xzC:Sig:=mzn.t.sig qz9
theorem Rzi (x1:azm):qz9 (x1,())=cnd x1.2.2.1 (bnd (jzg ()) (fun r1=>(some ((r1.1.1,()),())))) (bnd (ez1 (0,(x1.2.1,()))) (fun r1=>(some (((x1.1,(r1.1.1,(false,()))),()),())))):=(FnD.eq V qz3 mzn (x1,())).trans (by kernel_rfl)
theorem FzW:CallsOk Tryz.prog gls gvs 180 xzC:=FnD.ok (F:=mzn) (cs:=qz3) V_ok (kC uzb (kC vzX kN)) Tryz.func180 (by decide) (by kernel_rfl)
noncomputable def kzy:FnD:={f:=193,fn:=Tryz.f193,ps:=[pa (.int .i64),pa (.int .i64)],rs:=[rt (.int .i64)],joins:=[8],cuts:=[(8,[.val 1 (.int .i64) .sh, .val 5 (.int .i64) .sh, .val 6 (.int .i64) .sh]),(5,[.val 1 (.int .i64) .sh, .val 5 (.int .i64) .sh, .val 6 (.int .i64) .sh])]}
noncomputable def mzv:List (Nat×Sig):=[(182,uzk),(165,nza)]
noncomputable def mzq:Int×Int×Unit→Option ((Int×Unit)×Unit):=kzy.d V mzv
noncomputable abbrev Czk:Sig:=kzy.t.sig mzq
noncomputable def xzK:Int×Int×Int×Unit→Option ((Int×Unit)×Unit):=kzy.D V mzv 8
noncomputable def szt:Int×Int×Int×Unit→Option ((Int×Unit)×Unit):=kzy.D V mzv 5
theorem OzI (x1:Int) (x2:Int):mzq (x1,(x2,()))=cnd (ilt x2 0) (some ((0,()),())) (bnd (fzQ (x1,())) (fun r2=>(szt (x2,(1,(r2.1.1,())))))):=(FnD.eq V mzv kzy (x1,(x2,()))).trans (by kernel_rfl)
theorem DzE (x1:Int) (x2:Int) (x3:Int):xzK (x1,(x2,(x3,())))=bnd (czO (x3,(x3,()))) (fun r3=>(cnd (nz 2) (szt ((iquo .i64 x1 2),(x2,(r3.1.1,())))) none)):=(FnD.eqC V mzv kzy 8 (x1,(x2,(x3,())))).trans (by kernel_rfl)
theorem MzR (x1:Int) (x2:Int) (x3:Int):szt (x1,(x2,(x3,())))=cnd (igt x1 0) (cnd (nz 2) (cnd (ieq (irem x1 2) 1) (bnd (czO (x2,(x3,()))) (fun r3=>(xzK (x1,(r3.1.1,(x3,())))))) (xzK (x1,(x2,(x3,()))))) none) (some ((x2,()),())):=(FnD.eqC V mzv kzy 5 (x1,(x2,(x3,())))).trans (by kernel_rfl)
theorem HzU:CallsOk Tryz.prog gls gvs 193 Czk:=FnD.ok (F:=kzy) (cs:=mzv) V_ok (kC wzr (kC pzW kN)) Tryz.func193 (by decide) (by kernel_rfl)
noncomputable def vzR:FnD:={f:=198,fn:=Tryz.f198,ps:=[pa (.int .i64)],rs:=[rt (.int .i64)]}
noncomputable def Bz6:List (Nat×Sig):=[(193,Czk)]
noncomputable def tzb:Int×Unit→Option ((Int×Unit)×Unit):=vzR.d V Bz6
noncomputable abbrev Gz6:Sig:=vzR.t.sig tzb
theorem NzA (x1:Int):tzb (x1,())=bnd (mzq (x1,(12105,()))) (fun r1=>(some ((r1.1.1,()),()))):=(FnD.eq V Bz6 vzR (x1,())).trans (by kernel_rfl)
theorem Ozn:CallsOk Tryz.prog gls gvs 198 Gz6:=FnD.ok (F:=vzR) (cs:=Bz6) V_ok (kC HzU kN) Tryz.func198 (by decide) (by kernel_rfl)
noncomputable def mzu:FnD:={f:=195,fn:=Tryz.f195,ps:=[pa az4,pa az4],rs:=[rt (.int .i64),rt .bool]}
noncomputable def rzw:List (Nat×Sig):=[(194,szV),(198,Gz6),(165,nza),(183,Az8)]
noncomputable def mzZ:azm×azm×Unit→Option ((Int×Bool×Unit)×Unit):=mzu.d V rzw
noncomputable abbrev xzg:Sig:=mzu.t.sig mzZ
theorem Fzg (x1:azm) (x2:azm):mzZ (x1,(x2,()))=cnd (ine x1.1 x2.1) (bnd (ez1 (x2.2.1,(x1.2.1,()))) (fun r2=>(bnd (ez1 (x2.1,(x1.1,()))) (fun r3=>(bnd (tzb (r3.1.1,())) (fun r4=>(bnd (czO (r2.1.1,(r4.1.1,()))) (fun r5=>(some ((r5.1.1,(true,())),())))))))))) (bnd (pzd (x1.2.1,(x2.2.1,()))) (fun r2=>(cnd (ieq r2.1.1 0) (some ((0,(false,())),())) (bnd (czO (x1.1,(x1.1,()))) (fun r3=>(bnd (czO (3,(r3.1.1,()))) (fun r4=>(bnd (pzd (r4.1.1,(1,()))) (fun r5=>(bnd (czO (2,(x1.2.1,()))) (fun r6=>(bnd (tzb (r6.1.1,())) (fun r7=>(bnd (czO (r5.1.1,(r7.1.1,()))) (fun r8=>(some ((r8.1.1,(true,())),()))))))))))))))))):=(FnD.eq V rzw mzu (x1,(x2,()))).trans (by kernel_rfl)
theorem Fzt:CallsOk Tryz.prog gls gvs 195 xzg:=FnD.ok (F:=mzu) (cs:=rzw) V_ok (kC vzX (kC Ozn (kC pzW (kC Hzj kN)))) Tryz.func195 (by decide) (by kernel_rfl)
noncomputable def rzO:FnD:={f:=181,fn:=Tryz.f181,ps:=[pa az4,pa az4],rs:=[rt az4]}
noncomputable def wz9:List (Nat×Sig):=[(195,xzg),(179,pzt),(165,nza),(194,szV)]
noncomputable def oz2:azm×azm×Unit→Option ((azm×Unit)×Unit):=rzO.d V wz9
noncomputable abbrev DzG:Sig:=rzO.t.sig oz2
theorem KzG (x1:azm) (x2:azm):oz2 (x1,(x2,()))=cnd x1.2.2.1 (some ((x2,()),())) (cnd x2.2.2.1 (some ((x1,()),())) (bnd (mzZ (x1,(x2,()))) (fun r2=>(cnd (bnot r2.1.2.1) (bnd (jzg ()) (fun r3=>(some ((r3.1.1,()),())))) (bnd (czO (r2.1.1,(r2.1.1,()))) (fun r3=>(bnd (ez1 (r3.1.1,(x1.1,()))) (fun r4=>(bnd (ez1 (r4.1.1,(x2.1,()))) (fun r5=>(bnd (ez1 (x1.1,(r5.1.1,()))) (fun r6=>(bnd (czO (r2.1.1,(r6.1.1,()))) (fun r7=>(bnd (ez1 (r7.1.1,(x1.2.1,()))) (fun r8=>(some (((r5.1.1,(r8.1.1,(false,()))),()),())))))))))))))))))):=(FnD.eq V wz9 rzO (x1,(x2,()))).trans (by kernel_rfl)
theorem Mzq:CallsOk Tryz.prog gls gvs 181 DzG:=FnD.ok (F:=rzO) (cs:=wz9) V_ok (kC Fzt (kC uzb (kC pzW (kC vzX kN)))) Tryz.func181 (by decide) (by kernel_rfl)
noncomputable def bzP:FnD:={f:=157,fn:=Tryz.f157,ps:=[pa (.int .i64),pa az4],rs:=[rt az4],joins:=[8,12],cuts:=[(8,[.val 5 (.int .i64) .sh, .box 4 az4 .sh, .box 6 az4 .sh, .ptr 4 4 0, .ptr 6 6 0]),(12,[.val 5 (.int .i64) .sh, .box 4 az4 .sh, .box 6 az4 .sh, .box 7 az4 .sh, .ptr 4 4 0, .ptr 6 6 0, .ptr 7 7 0]),(9,[.val 5 (.int .i64) .sh, .box 4 az4 .sh, .box 6 az4 .sh, .box 7 az4 .sh, .ptr 4 4 0, .ptr 6 6 0, .ptr 7 7 0])]}
noncomputable def bz4:List (Nat×Sig):=[(136,pzY),(179,pzt),(180,xzC),(181,DzG)]
noncomputable def dz3:Int×azm×Unit→Option ((azm×Unit)×Unit):=bzP.d V bz4
noncomputable abbrev izD:Sig:=bzP.t.sig dz3
noncomputable def lza:Int×azm×azm×Unit→Option ((azm×Unit)×Unit):=bzP.D V bz4 8
noncomputable def jzC:Int×azm×azm×azm×Unit→Option ((azm×Unit)×Unit):=bzP.D V bz4 12
noncomputable def hzA:Int×azm×azm×azm×Unit→Option ((azm×Unit)×Unit):=bzP.D V bz4 9
theorem AzY (x1:Int) (x2:azm):dz3 (x1,(x2,()))=bnd (jze (x2,())) (fun r2=>(cnd (bnot r2.1.1) (bnd (jzg ()) (fun r3=>(some ((r3.1.1,()),())))) (cnd (nz 12108) (cnd (ilt (irem x1 12108) 0) (bnd (qz9 (x2,())) (fun r3=>(lza ((ineg .i64 (irem x1 12108)),(czS,(r3.1.1,())))))) (lza ((irem x1 12108),(czS,(x2,()))))) none))):=(FnD.eq V bz4 bzP (x1,(x2,()))).trans (by kernel_rfl)
theorem yz4 (x1:Int) (x2:azm) (x3:azm):lza (x1,(x2,(x3,())))=bnd (jzg ()) (fun r3=>(hzA (x1,(x2,(x3,(r3.1.1,())))))):=(FnD.eqC V bz4 bzP 8 (x1,(x2,(x3,())))).trans (by kernel_rfl)
theorem nz4 (x1:Int) (x2:azm) (x3:azm) (x4:azm):jzC (x1,(x2,(x3,(x4,()))))=bnd (oz2 (x3,(x3,()))) (fun r4=>(cnd (nz 2) (hzA ((iquo .i64 x1 2),(x2,(r4.1.1,(x4,()))))) none)):=(FnD.eqC V bz4 bzP 12 (x1,(x2,(x3,(x4,()))))).trans (by kernel_rfl)
theorem qzi (x1:Int) (x2:azm) (x3:azm) (x4:azm):hzA (x1,(x2,(x3,(x4,()))))=cnd (igt x1 0) (cnd (nz 2) (cnd (ieq (irem x1 2) 1) (bnd (oz2 (x4,(x3,()))) (fun r4=>(jzC (x1,(x2,(x3,(r4.1.1,()))))))) (jzC (x1,(x2,(x3,(x4,())))))) none) (some ((x4,()),())):=(FnD.eqC V bz4 bzP 9 (x1,(x2,(x3,(x4,()))))).trans (by kernel_rfl)
theorem mzY:CallsOk Tryz.prog gls gvs 157 izD:=FnD.ok (F:=bzP) (cs:=bz4) V_ok (kC tzU (kC uzb (kC FzW (kC Mzq kN)))) Tryz.func157 (by decide) (by kernel_rfl)
noncomputable def pz0:FnD:={f:=135,fn:=Tryz.f135,ps:=[pa az4],rs:=[rt .bool]}
noncomputable def tzT:List (Nat×Sig):=[(136,pzY),(157,izD)]
noncomputable def pzj:azm×Unit→Option ((Bool×Unit)×Unit):=pz0.d V tzT
noncomputable abbrev zzO:Sig:=pz0.t.sig pzj
theorem Izw (x1:azm):pzj (x1,())=bnd (jze (x1,())) (fun r1=>(cnd r1.1.1 (bnd (dz3 (1009,(x1,()))) (fun r2=>(some ((r2.1.1.2.2.1,()),())))) (some ((false,()),())))):=(FnD.eq V tzT pz0 (x1,())).trans (by kernel_rfl)
theorem JzG:CallsOk Tryz.prog gls gvs 135 zzO:=FnD.ok (F:=pz0) (cs:=tzT) V_ok (kC tzU (kC mzY kN)) Tryz.func135 (by decide) (by kernel_rfl)
noncomputable def dzq:FnD:={f:=96,fn:=Tryz.f96,ps:=[pa azr],rs:=[rt .bool],cuts:=[(2,[.val 3 (.int .i64) .sh, .box 1 azr .sh, .ptr 1 1 0])]}
noncomputable def ezB:List (Nat×Sig):=[(135,zzO)]
noncomputable def hzt:azl×Unit→Option ((Bool×Unit)×Unit):=dzq.d V ezB
noncomputable abbrev qzo:Sig:=dzq.t.sig hzt
noncomputable def dzZ:Int×azl×Unit→Option ((Bool×Unit)×Unit):=dzq.D V ezB 2
theorem yzL (x1:azl):hzt (x1,())=dzZ (0,(x1,())):=(FnD.eq V ezB dzq (x1,())).trans (by kernel_rfl)
theorem ozl (x1:Int) (x2:azl):dzZ (x1,(x2,()))=cnd (ilt x1 (len x2.1)) (cnd (inb x1 (len x2.1)) (bnd (pzj ((rd czS x2.1 x1),())) (fun r2=>(cnd (bnot r2.1.1) (some ((false,()),())) (cnd (inb x1 (len x2.1)) (cnd (rd czS x2.1 x1).2.2.1 (some ((false,()),())) (dzZ ((iadd .i64 x1 1),(x2,())))) none)))) none) (some (((ieq (len x2.1) 8),()),())):=(FnD.eqC V ezB dzq 2 (x1,(x2,()))).trans (by kernel_rfl)
theorem yzt:CallsOk Tryz.prog gls gvs 96 qzo:=FnD.ok (F:=dzq) (cs:=ezB) V_ok (kC JzG kN) Tryz.func96 (by decide) (by kernel_rfl)
noncomputable def kzw:FnD:={f:=97,fn:=Tryz.f97,ps:=[pa az4],rs:=[rt .str]}
noncomputable def oze:List (Nat×Sig):=[(136,pzY)]
noncomputable def kzE:azm×Unit→Option ((ByteArray×Unit)×Unit):=kzw.d V oze
noncomputable abbrev vzd:Sig:=kzw.t.sig kzE
theorem EzJ (x1:azm):kzE (x1,())=bnd (jze (x1,())) (fun r1=>(cnd (bnot r1.1.1) (some (((bs []),()),())) (cnd x1.2.2.1 (some (((bs [0,0,0]),()),())) (cnd (nn 8) (cnd (nz 2) (some (((sof ((azx .u8 (ishr .i64 (iadd .i64 x1.1 1) 8))::((azx .u8 (iadd .i64 x1.1 1))::((azx .u8 (irem x1.2.1 2))::([]:List Int))))),()),())) none) none)))):=(FnD.eq V oze kzw (x1,())).trans (by kernel_rfl)
theorem Dz5:CallsOk Tryz.prog gls gvs 97 vzd:=FnD.ok (F:=kzw) (cs:=oze) V_ok (kC tzU kN) Tryz.func97 (by decide) (by kernel_rfl)
noncomputable def gz1:FnD:={f:=134,fn:=Tryz.f134,ps:=[pa (.int .i64)],rs:=[rt (.int .i64)],cuts:=[(4,[.val 0 (.int .i64) .sh, .val 3 (.int .i64) .sh])]}
noncomputable def jzZ:List (Nat×Sig):=[(64,fzG)]
noncomputable def jzy:Int×Unit→Option ((Int×Unit)×Unit):=gz1.d V jzZ
noncomputable abbrev xzc:Sig:=gz1.t.sig jzy
noncomputable def izi:Int×Int×Unit→Option ((Int×Unit)×Unit):=gz1.D V jzZ 4
theorem EzX (x1:Int):jzy (x1,())=bnd (czl (x1,(0,(32,())))) (fun r1=>(cnd (bnot r1.1.1) (some (((-1),()),())) (izi (x1,(0,()))))):=(FnD.eq V jzZ gz1 (x1,())).trans (by kernel_rfl)
theorem Dzj (x1:Int) (x2:Int):izi (x1,(x2,()))=cnd (nn (azx .u64 x2)) (cnd (ilt (ishl .i64 1 (azx .u64 x2)) x1) (izi (x1,((iadd .i64 x2 1),()))) (some ((x2,()),()))) none:=(FnD.eqC V jzZ gz1 4 (x1,(x2,()))).trans (by kernel_rfl)
theorem FzV:CallsOk Tryz.prog gls gvs 134 xzc:=FnD.ok (F:=gz1) (cs:=jzZ) V_ok (kC hzm kN) Tryz.func134 (by decide) (by kernel_rfl)
noncomputable def cz2:FnD:={f:=93,fn:=Tryz.f93,ps:=[pa (.sl .str)],rs:=[⟨(.sl .str),(.own 0 .sh),false⟩],cuts:=[(3,[.val 0 (.sl .str) .sh, .val 3 (.sl .str) (.own 0 .sh), .val 4 (.int .i64) .sh]),(7,[.val 0 (.sl .str) .sh, .val 3 (.sl .str) (.own 0 .sh), .val 5 .str .sh])]}
noncomputable def dzK:List (Nat×Sig):=[(24,fz5),(134,xzc)]
noncomputable def hzG:(List ByteArray)×Unit→Option (((List ByteArray)×Unit)×Unit):=cz2.d V dzK
noncomputable abbrev ozE:Sig:=cz2.t.sig hzG
noncomputable def izI:(List ByteArray)× (List ByteArray)×Int×Unit→Option (((List ByteArray)×Unit)×Unit):=cz2.D V dzK 3
noncomputable def fzO:(List ByteArray)× (List ByteArray)×ByteArray×Unit→Option (((List ByteArray)×Unit)×Unit):=cz2.D V dzK 7
theorem Dzh (x1:(List ByteArray)):hzG (x1,())=izI (x1,(([]:List ByteArray),(0,()))):=(FnD.eq V dzK cz2 (x1,())).trans (by kernel_rfl)
theorem rzP (x1:(List ByteArray)) (x2:(List ByteArray)) (x3:Int):izI (x1,(x2,(x3,())))=cnd (ilt x3 (len x1)) (cnd (inb x3 (len x1)) (bnd (czT ((rd (bs []) x1 x3),())) (fun r3=>(cnd (fits ((len x2)+(len (r3.1.1::([]:List ByteArray)))) 1) (izI (x1,((app x2 (r3.1.1::([]:List ByteArray))),((iadd .i64 x3 1),())))) none))) none) (bnd (czT ((bs []),())) (fun r3=>(fzO (x1,(x2,(r3.1.1,())))))):=(FnD.eqC V dzK cz2 3 (x1,(x2,(x3,())))).trans (by kernel_rfl)
theorem Az4 (x1:(List ByteArray)) (x2:(List ByteArray)) (x3:ByteArray):fzO (x1,(x2,(x3,())))=bnd (jzy ((len x1),())) (fun r3=>(cnd (nn (azx .u64 r3.1.1)) (cnd (ilt (len x2) (ishl .i64 1 (azx .u64 r3.1.1))) (cnd (fits ((len x2)+(len (x3::([]:List ByteArray)))) 1) (fzO (x1,((app x2 (x3::([]:List ByteArray))),(x3,())))) none) (some ((x2,()),()))) none)):=(FnD.eqC V dzK cz2 7 (x1,(x2,(x3,())))).trans (by kernel_rfl)
theorem vzc:CallsOk Tryz.prog gls gvs 93 ozE:=FnD.ok (F:=cz2) (cs:=dzK) V_ok (kC izb (kC FzV kN)) Tryz.func93 (by decide) (by kernel_rfl)
noncomputable def izE:FnD:={f:=65,fn:=Tryz.f65,ps:=[pa .str,pa .str],rs:=[rt .str]}
noncomputable def mzF:List (Nat×Sig):=[(24,fz5)]
noncomputable def eza:ByteArray×ByteArray×Unit→Option ((ByteArray×Unit)×Unit):=izE.d V mzF
noncomputable abbrev nzt:Sig:=izE.t.sig eza
theorem BzP (x1:ByteArray) (x2:ByteArray):eza (x1,(x2,()))=cnd (fits ((ssz x1)+(ssz x2)) 1) (bnd (czT ((scat x1 x2),())) (fun r2=>(some ((r2.1.1,()),())))) none:=(FnD.eq V mzF izE (x1,(x2,()))).trans (by kernel_rfl)
theorem rzH:CallsOk Tryz.prog gls gvs 65 nzt:=FnD.ok (F:=izE) (cs:=mzF) V_ok (kC izb kN) Tryz.func65 (by decide) (by kernel_rfl)
noncomputable def pzZ:FnD:={f:=94,fn:=Tryz.f94,ps:=[pa (.sl .str)],rs:=[⟨(.sl .str),(.own 0 .sh),false⟩],cuts:=[(3,[.val 0 (.sl .str) .sh, .val 3 (.sl .str) (.own 0 .sh), .val 4 (.int .i64) .sh])]}
noncomputable def sz8:List (Nat×Sig):=[(65,nzt)]
noncomputable def rz8:(List ByteArray)×Unit→Option (((List ByteArray)×Unit)×Unit):=pzZ.d V sz8
noncomputable abbrev BzZ:Sig:=pzZ.t.sig rz8
noncomputable def ozu:(List ByteArray)× (List ByteArray)×Int×Unit→Option (((List ByteArray)×Unit)×Unit):=pzZ.D V sz8 3
theorem NzR (x1:(List ByteArray)):rz8 (x1,())=ozu (x1,(([]:List ByteArray),(0,()))):=(FnD.eq V sz8 pzZ (x1,())).trans (by kernel_rfl)
theorem Cz0 (x1:(List ByteArray)) (x2:(List ByteArray)) (x3:Int):ozu (x1,(x2,(x3,())))=cnd (ilt (iadd .i64 x3 1) (len x1)) (cnd (inb x3 (len x1)) (cnd (inb (iadd .i64 x3 1) (len x1)) (bnd (eza ((rd (bs []) x1 x3),((rd (bs []) x1 (iadd .i64 x3 1)),()))) (fun r3=>(cnd (fits ((len x2)+(len (r3.1.1::([]:List ByteArray)))) 1) (ozu (x1,((app x2 (r3.1.1::([]:List ByteArray))),((iadd .i64 x3 2),())))) none))) none) none) (some ((x2,()),())):=(FnD.eqC V sz8 pzZ 3 (x1,(x2,(x3,())))).trans (by kernel_rfl)
theorem Hza:CallsOk Tryz.prog gls gvs 94 BzZ:=FnD.ok (F:=pzZ) (cs:=sz8) V_ok (kC rzH kN) Tryz.func94 (by decide) (by kernel_rfl)
noncomputable def lzW:FnD:={f:=53,fn:=Tryz.f53,ps:=[pa (.sl .str)],rs:=[rt .str],cuts:=[(4,[.val 3 (.sl .str) (.own 0 .sh)])]}
noncomputable def ozK:List (Nat×Sig):=[(93,ozE),(94,BzZ)]
noncomputable def lzs:(List ByteArray)×Unit→Option ((ByteArray×Unit)×Unit):=lzW.d V ozK
noncomputable abbrev rz0:Sig:=lzW.t.sig lzs
noncomputable def pzy:(List ByteArray)×Unit→Option ((ByteArray×Unit)×Unit):=lzW.D V ozK 4
theorem Lzd (x1:(List ByteArray)):lzs (x1,())=cnd (igt (len x1) 32) (some (((bs []),()),())) (bnd (hzG (x1,())) (fun r1=>(pzy (r1.1.1,())))):=(FnD.eq V ozK lzW (x1,())).trans (by kernel_rfl)
theorem zzf (x1:(List ByteArray)):pzy (x1,())=cnd (igt (len x1) 1) (bnd (rz8 (x1,())) (fun r1=>(pzy (r1.1.1,())))) (cnd (inb 0 (len x1)) (some (((rd (bs []) x1 0),()),())) none):=(FnD.eqC V ozK lzW 4 (x1,())).trans (by kernel_rfl)
theorem xzE:CallsOk Tryz.prog gls gvs 53 rz0:=FnD.ok (F:=lzW) (cs:=ozK) V_ok (kC vzc (kC Hza kN)) Tryz.func53 (by decide) (by kernel_rfl)
noncomputable def czv:FnD:={f:=50,fn:=Tryz.f50,ps:=[pa azr],rs:=[rt .str],cuts:=[(5,[.val 3 (.sl .str) (.own 0 .sh), .val 4 (.int .i64) .sh, .box 1 azr .sh, .ptr 1 1 0])]}
noncomputable def dzm:List (Nat×Sig):=[(96,qzo),(97,vzd),(53,rz0)]
noncomputable def dzf:azl×Unit→Option ((ByteArray×Unit)×Unit):=czv.d V dzm
noncomputable abbrev nzR:Sig:=czv.t.sig dzf
noncomputable def ezi:(List ByteArray)×Int×azl×Unit→Option ((ByteArray×Unit)×Unit):=czv.D V dzm 5
theorem vzz (x1:azl):dzf (x1,())=bnd (hzt (x1,())) (fun r1=>(cnd (bnot r1.1.1) (some (((bs []),()),())) (ezi (([]:List ByteArray),(0,(x1,())))))):=(FnD.eq V dzm czv (x1,())).trans (by kernel_rfl)
theorem lzE (x1:(List ByteArray)) (x2:Int) (x3:azl):ezi (x1,(x2,(x3,())))=cnd (ilt x2 (len x3.1)) (cnd (inb x2 (len x3.1)) (bnd (kzE ((rd czS x3.1 x2),())) (fun r3=>(cnd (fits ((len x1)+(len (r3.1.1::([]:List ByteArray)))) 1) (ezi ((app x1 (r3.1.1::([]:List ByteArray))),((iadd .i64 x2 1),(x3,())))) none))) none) (bnd (lzs (x1,())) (fun r3=>(some ((r3.1.1,()),())))):=(FnD.eqC V dzm czv 5 (x1,(x2,(x3,())))).trans (by kernel_rfl)
theorem vzD:CallsOk Tryz.prog gls gvs 50 nzR:=FnD.ok (F:=czv) (cs:=dzm) V_ok (kC yzt (kC Dz5 (kC xzE kN))) Tryz.func50 (by decide) (by kernel_rfl)
noncomputable def rzS:FnD:={f:=98,fn:=Tryz.f98,ps:=[pa pz7],rs:=[rt .bool]}
noncomputable def yzh:List (Nat×Sig):=[(64,fzG)]
noncomputable def rzL:czD×Unit→Option ((Bool×Unit)×Unit):=rzS.d V yzh
noncomputable abbrev EzB:Sig:=rzS.t.sig rzL
theorem KzW (x1:czD):rzL (x1,())=bnd (czl (x1.1,(0,(10000,())))) (fun r1=>(cnd r1.1.1 (cnd (ieq (ssz x1.2.1) 32) (cnd (ieq (ssz x1.2.2.1) 32) (some (((ieq (ssz x1.2.2.2.1) 32),()),())) (some ((false,()),()))) (some ((false,()),()))) (some ((false,()),())))):=(FnD.eq V yzh rzS (x1,())).trans (by kernel_rfl)
theorem Nzb:CallsOk Tryz.prog gls gvs 98 EzB:=FnD.ok (F:=rzS) (cs:=yzh) V_ok (kC hzm kN) Tryz.func98 (by decide) (by kernel_rfl)
noncomputable def lz2:FnD:={f:=99,fn:=Tryz.f99,ps:=[pa (.int .i64)],rs:=[rt .str],cuts:=[(2,[.val 0 (.int .i64) .sh, .val 3 (.sl (.int .u8)) (.own 0 .sh)])]}
noncomputable def ozg:List (Nat×Sig):=[]
noncomputable def szE:Int×Unit→Option ((ByteArray×Unit)×Unit):=lz2.d V ozg
noncomputable abbrev CzE:Sig:=lz2.t.sig szE
noncomputable def mzk:Int× (List Int)×Unit→Option ((ByteArray×Unit)×Unit):=lz2.D V ozg 2
theorem Lzt (x1:Int):szE (x1,())=mzk (x1,(([]:List Int),())):=(FnD.eq V ozg lz2 (x1,())).trans (by kernel_rfl)
theorem zzA (x1:Int) (x2:(List Int)):mzk (x1,(x2,()))=cnd (igt x1 127) (cnd (nz 128) (cnd (fits ((len x2)+(len ((azx .u8 (iadd .i64 (irem x1 128) 128))::([]:List Int)))) 1) (cnd (nz 128) (mzk ((iquo .i64 x1 128),((app x2 ((azx .u8 (iadd .i64 (irem x1 128) 128))::([]:List Int))),()))) none) none) none) (cnd (fits ((len x2)+(len ((azx .u8 x1)::([]:List Int)))) 1) (some (((sof (app x2 ((azx .u8 x1)::([]:List Int)))),()),())) none):=(FnD.eqC V ozg lz2 2 (x1,(x2,()))).trans (by kernel_rfl)
theorem Nzf:CallsOk Tryz.prog gls gvs 99 CzE:=FnD.ok (F:=lz2) (cs:=ozg) V_ok kN Tryz.func99 (by decide) (by kernel_rfl)
noncomputable def mz2:FnD:={f:=51,fn:=Tryz.f51,ps:=[pa pz7],rs:=[rt .str]}
noncomputable def rzn:List (Nat×Sig):=[(98,EzB),(99,CzE),(53,rz0)]
noncomputable def mzD:czD×Unit→Option ((ByteArray×Unit)×Unit):=mz2.d V rzn
noncomputable abbrev xzM:Sig:=mz2.t.sig mzD
theorem Fz9 (x1:czD):mzD (x1,())=bnd (rzL (x1,())) (fun r1=>(cnd (bnot r1.1.1) (some (((bs []),()),())) (bnd (szE (x1.1,())) (fun r2=>(bnd (lzs ((r2.1.1::(x1.2.1::(x1.2.2.1::(x1.2.2.2.1::([]:List ByteArray))))),())) (fun r3=>(some ((r3.1.1,()),())))))))):=(FnD.eq V rzn mz2 (x1,())).trans (by kernel_rfl)
theorem FzP:CallsOk Tryz.prog gls gvs 51 xzM:=FnD.ok (F:=mz2) (cs:=rzn) V_ok (kC Nzb (kC Nzf (kC xzE kN))) Tryz.func51 (by decide) (by kernel_rfl)
noncomputable def hza:FnD:={f:=20,fn:=Tryz.f20,ps:=[pa (.sl bzc),pa azr,pa azr,pa pz7],rs:=[⟨(.sl .str),(.own 0 .sh),false⟩]}
noncomputable def kz9:List (Nat×Sig):=[(46,ozh),(47,nzb),(50,nzR),(51,xzM)]
noncomputable def dzv:(List azb)×azl×azl×czD×Unit→Option (((List ByteArray)×Unit)×Unit):=hza.d V kz9
noncomputable abbrev hzg:Sig:=hza.t.sig dzv
theorem yzR (x1:(List azb)) (x2:azl) (x3:azl) (x4:czD):dzv (x1,(x2,(x3,(x4,()))))=bnd (fzA (x1,())) (fun r4=>(bnd (ez3 (r4.1.1,())) (fun r5=>(bnd (dzf (x2,())) (fun r6=>(bnd (dzf (x3,())) (fun r7=>(bnd (mzD (x4,())) (fun r8=>(some (((r5.1.1::(r6.1.1::(r7.1.1::(r8.1.1::([]:List ByteArray))))),()),()))))))))))):=(FnD.eq V kz9 hza (x1,(x2,(x3,(x4,()))))).trans (by kernel_rfl)
theorem kz7:CallsOk Tryz.prog gls gvs 20 hzg:=FnD.ok (F:=hza) (cs:=kz9) V_ok (kC vzh (kC rzt (kC vzD (kC FzP kN)))) Tryz.func20 (by decide) (by kernel_rfl)
noncomputable def gzw:FnD:={f:=48,fn:=Tryz.f48,ps:=[pa (.sl .str),pa (.int .i64)],rs:=[⟨(.sl .str),(.own 0 .sh),false⟩],cuts:=[(5,[.val 1 (.int .i64) .sh, .val 5 (.sl .str) (.own 0 .sh), .val 6 (.sl .str) (.own 0 .sh)])]}
noncomputable def jzG:List (Nat×Sig):=[(64,fzG),(93,ozE),(94,BzZ)]
noncomputable def kzj:(List ByteArray)×Int×Unit→Option (((List ByteArray)×Unit)×Unit):=gzw.d V jzG
noncomputable abbrev wzo:Sig:=gzw.t.sig kzj
noncomputable def oz6:Int× (List ByteArray)× (List ByteArray)×Unit→Option (((List ByteArray)×Unit)×Unit):=gzw.D V jzG 5
theorem FzT (x1:(List ByteArray)) (x2:Int):kzj (x1,(x2,()))=cnd (igt (len x1) 32) (some ((([]:List ByteArray),()),())) (bnd (czl (x2,(0,((isub .i64 (len x1) 1),())))) (fun r2=>(cnd (bnot r2.1.1) (some ((([]:List ByteArray),()),())) (bnd (hzG (x1,())) (fun r3=>(oz6 (x2,(([]:List ByteArray),(r3.1.1,()))))))))):=(FnD.eq V jzG gzw (x1,(x2,()))).trans (by kernel_rfl)
theorem ozq (x1:Int) (x2:(List ByteArray)) (x3:(List ByteArray)):oz6 (x1,(x2,(x3,())))=cnd (igt (len x3) 1) (cnd (inb (ixor .i64 x1 1) (len x3)) (cnd (fits ((len x2)+(len ((rd (bs []) x3 (ixor .i64 x1 1))::([]:List ByteArray)))) 1) (bnd (rz8 (x3,())) (fun r3=>(cnd (nz 2) (oz6 ((iquo .i64 x1 2),((app x2 ((rd (bs []) x3 (ixor .i64 x1 1))::([]:List ByteArray))),(r3.1.1,())))) none))) none) none) (some ((x2,()),())):=(FnD.eqC V jzG gzw 5 (x1,(x2,(x3,())))).trans (by kernel_rfl)
theorem Gzy:CallsOk Tryz.prog gls gvs 48 wzo:=FnD.ok (F:=gzw) (cs:=jzG) V_ok (kC hzm (kC vzc (kC Hza kN))) Tryz.func48 (by decide) (by kernel_rfl)
noncomputable def ezp:FnD:={f:=112,fn:=Tryz.f112,ps:=[pa .str],rs:=[⟨(.sl (.int .i64)),(.own 0 .sh),false⟩,rt .bool,rt .bool],joins:=[8],cuts:=[(8,[.val 0 .str .sh, .val 5 (.sl (.int .i64)) (.own 0 .sh), .val 6 .bool .sh, .val 7 (.sl (.int .i64)) (.own 0 .sh)])]}
noncomputable def fz0:List (Nat×Sig):=[(66,ez9),(131,mzL)]
noncomputable def izO:ByteArray×Unit→Option (((List Int)×Bool×Bool×Unit)×Unit):=ezp.d V fz0
noncomputable abbrev szS:Sig:=ezp.t.sig izO
noncomputable def dzo:ByteArray× (List Int)×Bool× (List Int)×Unit→Option (((List Int)×Bool×Bool×Unit)×Unit):=ezp.D V fz0 8
theorem Az3 (x1:ByteArray):izO (x1,())=cnd (seq x1 (bs [])) (some ((([]:List Int),(false,(false,()))),())) (cnd (inb 0 (ssz x1)) (cnd (ige (sat x1 0) 64) (some ((([]:List Int),(false,(false,()))),())) (cnd (igt (ssz x1) 40) (some ((([]:List Int),(false,(false,()))),())) (cnd (inb 0 (ssz x1)) (cnd (inb 0 (ssz x1)) (cnd (nz 16) (cnd (nz 2) (cnd (ieq (irem (iquo .u8 (sat x1 0) 16) 2) 1) (cnd (inb 0 (ssz x1)) (cnd (nz 16) (cnd (fits ((len ([]:List Int))+(len ((irem (azx .i64 (sat x1 0)) 16)::([]:List Int)))) 1) (dzo (x1,(([]:List Int),((ige (sat x1 0) 32),((app ([]:List Int) ((irem (azx .i64 (sat x1 0)) 16)::([]:List Int))),()))))) none) none) none) (dzo (x1,(([]:List Int),((ige (sat x1 0) 32),(([]:List Int),())))))) none) none) none) none))) none):=(FnD.eq V fz0 ezp (x1,())).trans (by kernel_rfl)
theorem yz6 (x1:ByteArray) (x2:(List Int)) (x3:Bool) (x4:(List Int)):dzo (x1,(x2,(x3,(x4,()))))=cnd (inb2 1 (ssz x1) (ssz x1)) (bnd (bzH ((ssub x1 1 (ssz x1)),())) (fun r4=>(cnd (fits ((len x4)+(len r4.1.1)) 1) (bnd (czx ((app x4 r4.1.1),(x3,()))) (fun r5=>(cnd (bnot r5.1.2.1) (some ((x2,(false,(false,()))),())) (cnd (sne r5.1.1 x1) (some ((x2,(false,(false,()))),())) (some (((app x4 r4.1.1),(x3,(true,()))),())))))) none))) none:=(FnD.eqC V fz0 ezp 8 (x1,(x2,(x3,(x4,()))))).trans (by kernel_rfl)
theorem Cza:CallsOk Tryz.prog gls gvs 112 szS:=FnD.ok (F:=ezp) (cs:=fz0) V_ok (kC hz6 (kC tze kN)) Tryz.func112 (by decide) (by kernel_rfl)
noncomputable def jzv:FnD:={f:=68,fn:=Tryz.f68,ps:=[pa .item,pa (.sl (.int .i64))],rs:=[rt .item,rt (.int .i64),rt (.int .i64)],al:=true,joins:=[18],cuts:=[(18,[.val 9 .bool .sh, .val 11 (.int .i64) .sh, .box 2 .item .sh, .box 4 .item (.own 0 .sh), .ptr 2 2 0, .ptr 4 4 0])]}
noncomputable def lzj:List (Nat×Sig):=[(112,szS),(95,szK)]
noncomputable def mzf:ItemT× (List Int)×Unit→Option ((ItemT×Int×Int×Unit)×Unit):=jzv.d V lzj
noncomputable abbrev tz9:Sig:=jzv.t.sig mzf
noncomputable def kzq:Bool×Int×ItemT×ItemT×Unit→Option ((ItemT×Int×Int×Unit)×Unit):=jzv.D V lzj 18
theorem JzE (x1:ItemT) (x2:(List Int)):mzf (x1,(x2,()))=cnd (bnot x1.l) (some ((x1,(0,(3,()))),())) (cnd (ieq (len x1.k) 17) (cnd (ieq (len x2) 0) (some ((x1,(0,(1,()))),())) (cnd (inb 0 (len x2)) (cnd (inb (rd 0 x2 0) (len x1.k)) (cnd (bnot (rd (ItemT.mk false (bs []) ([]:List ItemT)) x1.k (rd 0 x2 0)).l) (cnd (seq (rd (ItemT.mk false (bs []) ([]:List ItemT)) x1.k (rd 0 x2 0)).s (bs [])) (some (((rd (ItemT.mk false (bs []) ([]:List ItemT)) x1.k (rd 0 x2 0)),(1,(1,()))),())) (some (((rd (ItemT.mk false (bs []) ([]:List ItemT)) x1.k (rd 0 x2 0)),(1,(0,()))),()))) (some (((rd (ItemT.mk false (bs []) ([]:List ItemT)) x1.k (rd 0 x2 0)),(1,(0,()))),()))) none) none)) (cnd (ine (len x1.k) 2) (some ((x1,(0,(3,()))),())) (cnd (inb 0 (len x1.k)) (cnd (rd (ItemT.mk false (bs []) ([]:List ItemT)) x1.k 0).l (some ((x1,(0,(3,()))),())) (cnd (inb 0 (len x1.k)) (bnd (izO ((rd (ItemT.mk false (bs []) ([]:List ItemT)) x1.k 0).s,())) (fun r2=>(cnd (bnot r2.1.2.2.1) (some ((x1,(0,(3,()))),())) (bnd (mzj (r2.1.1,(x2,()))) (fun r3=>(cnd (ilt r3.1.1 (len r2.1.1)) (some ((x1,(r3.1.1,(1,()))),())) (cnd r2.1.2.1 (cnd (igt (len x2) r3.1.1) (some ((x1,(r3.1.1,(1,()))),())) (kzq (r2.1.2.1,(r3.1.1,(x1,((ItemT.mk false (bs []) ([]:List ItemT)),())))))) (kzq (r2.1.2.1,(r3.1.1,(x1,((ItemT.mk false (bs []) ([]:List ItemT)),())))))))))))) none)) none))):=(FnD.eq V lzj jzv (x1,(x2,()))).trans (by kernel_rfl)
theorem CzO (x1:Bool) (x2:Int) (x3:ItemT) (x4:ItemT):kzq (x1,(x2,(x3,(x4,()))))=cnd x1 (cnd (inb 1 (len x3.k)) (cnd (rd (ItemT.mk false (bs []) ([]:List ItemT)) x3.k 1).l (some ((x3,(x2,(3,()))),())) (cnd (inb 1 (len x3.k)) (some (((rd (ItemT.mk false (bs []) ([]:List ItemT)) x3.k 1),(x2,(2,()))),())) none)) none) (cnd (inb 1 (len x3.k)) (some (((rd (ItemT.mk false (bs []) ([]:List ItemT)) x3.k 1),(x2,(0,()))),())) none):=(FnD.eqC V lzj jzv 18 (x1,(x2,(x3,(x4,()))))).trans (by kernel_rfl)
theorem Azy:CallsOk Tryz.prog gls gvs 68 tz9:=FnD.ok (F:=jzv) (cs:=lzj) V_ok (kC Cza (kC wzk kN)) Tryz.func68 (by decide) (by kernel_rfl)
noncomputable def cza:FnD:={f:=49,fn:=Tryz.f49,ps:=[pa (.sl czh),pa .str],rs:=[⟨(.sl .str),(.own 0 .sh),false⟩],joins:=[12],fz:=[1000000013007010,1000000013008010,1000000013008011,1000054,15500010],cuts:=[(12,[.val 5 (.sl .str) (.own 0 .sh), .val 6 (.sl czh) .sh, .val 7 (.int .i64) .sh, .val 8 (.sl (.int .i64)) .sh, .box 10 .item (.own 0 .sh), .ptr 10 10 0]),(18,[.val 5 (.sl .str) (.own 0 .sh), .val 6 (.sl czh) .sh, .val 7 (.int .i64) .sh, .val 8 (.sl (.int .i64)) .sh, .val 9 .bool .sh, .val 14 (.int .i64) .sh, .val 16 (.sl czh) (.own 0 .sh), .val 17 (.int .i64) .sh]),(8,[.val 5 (.sl .str) (.own 0 .sh), .val 6 (.sl czh) .sh, .val 7 (.int .i64) .sh, .val 8 (.sl (.int .i64)) .sh, .val 9 .bool .sh])]}
noncomputable def czB:List (Nat×Sig):=[(90,pzL),(66,ez9),(92,tz1),(91,gzY),(68,tz9),(95,szK)]
noncomputable def hzI:(List azh)×ByteArray×Unit→Option (((List ByteArray)×Unit)×Unit):=cza.d V czB
noncomputable abbrev vzi:Sig:=cza.t.sig hzI
noncomputable def czL:(List ByteArray)× (List azh)×Int× (List Int)×ItemT×Unit→Option (((List ByteArray)×Unit)×Unit):=cza.D V czB 12
noncomputable def czI:(List ByteArray)× (List azh)×Int× (List Int)×Bool×Int× (List azh)×Int×Unit→Option (((List ByteArray)×Unit)×Unit):=cza.D V czB 18
noncomputable def fzY:(List ByteArray)× (List azh)×Int× (List Int)×Bool×Unit→Option (((List ByteArray)×Unit)×Unit):=cza.D V czB 8
theorem DzK (x1:(List azh)) (x2:ByteArray):hzI (x1,(x2,()))=bnd (fzi (x1,())) (fun r2=>(cnd (bnot r2.1.1) (some ((([]:List ByteArray),()),())) (cnd (ine (ssz x2) 4) (some ((([]:List ByteArray),()),())) (bnd (bzH (x2,())) (fun r3=>(fzY (([]:List ByteArray),(x1,(0,(r3.1.1,(true,()))))))))))):=(FnD.eq V czB cza (x1,(x2,()))).trans (by kernel_rfl)
theorem yz7 (x1:(List ByteArray)) (x2:(List azh)) (x3:Int) (x4:(List Int)) (x5:ItemT):czL (x1,(x2,(x3,(x4,(x5,())))))=cnd (inb2 x3 (len x4) (len x4)) (bnd (mzf (x5,((sub x4 x3 (len x4)),()))) (fun r5=>(cnd (ine r5.1.2.2.1 0) (some ((x1,()),())) (czI (x1,(x2,(x3,(x4,(false,(r5.1.2.1,(([]:List azh),(0,())))))))))))) none:=(FnD.eqC V czB cza 12 (x1,(x2,(x3,(x4,(x5,())))))).trans (by kernel_rfl)
theorem qzs (x1:(List ByteArray)) (x2:(List azh)) (x3:Int) (x4:(List Int)) (x5:Bool) (x6:Int) (x7:(List azh)) (x8:Int):czI (x1,(x2,(x3,(x4,(x5,(x6,(x7,(x8,()))))))))=cnd (ilt x8 (len x2)) (cnd (inb x8 (len x2)) (bnd (bzH ((rd bzr x2 x8).1,())) (fun r8=>(bnd (mzj (r8.1.1,(x4,()))) (fun r9=>(cnd (ige r9.1.1 (iadd .i64 x3 x6)) (cnd (inb x8 (len x2)) (cnd (fits ((len x7)+(len ((rd bzr x2 x8)::([]:List azh)))) 2) (czI (x1,(x2,(x3,(x4,(x5,(x6,((app x7 ((rd bzr x2 x8)::([]:List azh))),((iadd .i64 x8 1),()))))))))) none) none) (czI (x1,(x2,(x3,(x4,(x5,(x6,(x7,((iadd .i64 x8 1),())))))))))))))) none) (fzY (x1,(x7,((iadd .i64 x3 x6),(x4,(x5,())))))):=(FnD.eqC V czB cza 18 (x1,(x2,(x3,(x4,(x5,(x6,(x7,(x8,()))))))))).trans (by kernel_rfl)
theorem Bz9 (x1:(List ByteArray)) (x2:(List azh)) (x3:Int) (x4:(List Int)) (x5:Bool):fzY (x1,(x2,(x3,(x4,(x5,())))))=bnd (czW (x2,(x3,()))) (fun r5=>(bnd (dzW (r5.1.1,())) (fun r6=>(cnd x5 (cnd (fits ((len x1)+(len (r6.1.1::([]:List ByteArray)))) 1) (czL ((app x1 (r6.1.1::([]:List ByteArray))),(x2,(x3,(x4,(r5.1.1,())))))) none) (cnd (ige (ssz r6.1.1) 32) (cnd (fits ((len x1)+(len (r6.1.1::([]:List ByteArray)))) 1) (czL ((app x1 (r6.1.1::([]:List ByteArray))),(x2,(x3,(x4,(r5.1.1,())))))) none) (czL (x1,(x2,(x3,(x4,(r5.1.1,()))))))))))):=(FnD.eqC V czB cza 8 (x1,(x2,(x3,(x4,(x5,())))))).trans (by kernel_rfl)
theorem Ezz:CallsOk Tryz.prog gls gvs 49 vzi:=FnD.ok (F:=cza) (cs:=czB) V_ok (kC tzq (kC hz6 (kC zzo (kC jzP (kC Azy (kC wzk kN)))))) Tryz.func49 (by decide) (by kernel_rfl)
noncomputable def jzj:FnD:={f:=18,fn:=Tryz.f18,ps:=[pa (.sl bzc),pa azr,pa azr,pa pz7,pa .str,pa .str],rs:=[⟨TAsk,(.pr .sh (.pr .sh (.pr .sh (.pr .sh (.pr .sh (.pr (.own 0 .sh) .sh)))))),false⟩],al:=true,fz:=[1000030,1000027],cuts:=[(4,[.val 0 (.sl bzc) .sh, .val 4 .str .sh, .val 5 .str .sh, .val 15 (.int .i64) .sh, .box 12 TAsk (.pr .sh (.pr .sh (.pr .sh (.pr (.own 0 .sh) (.pr (.own 0 .sh) (.pr (.own 0 .sh) .sh)))))), .box 14 TAsk (.pr .sh (.pr .sh (.pr .sh (.pr .sh (.pr .sh (.pr (.own 0 .sh) .sh)))))), .ptr 12 12 0, .ptr 14 14 0])]}
noncomputable def mzh:List (Nat×Sig):=[(46,ozh),(47,nzb),(20,hzg),(48,wzo),(49,vzi)]
noncomputable def lz5:(List azb)×azl×azl×czD×ByteArray×ByteArray×Unit→Option ((tAsk×Unit)×Unit):=jzj.d V mzh
noncomputable abbrev uzh:Sig:=jzj.t.sig lz5
noncomputable def nzp:(List azb)×ByteArray×ByteArray×Int×tAsk×tAsk×Unit→Option ((tAsk×Unit)×Unit):=jzj.D V mzh 4
theorem Iz8 (x1:(List azb)) (x2:azl) (x3:azl) (x4:czD) (x5:ByteArray) (x6:ByteArray):lz5 (x1,(x2,(x3,(x4,(x5,(x6,()))))))=bnd (fzA (x1,())) (fun r6=>(bnd (ez3 (r6.1.1,())) (fun r7=>(bnd (dzv (x1,(x2,(x3,(x4,()))))) (fun r8=>(bnd (kzj (r8.1.1,(0,()))) (fun r9=>(bnd (hzI (r6.1.1,(x5,()))) (fun r10=>(nzp (x1,(x5,(x6,(0,(zAsk,((x5,(x6,(r7.1.1,(r9.1.1,(r10.1.1,(([]:List ByteArray),())))))),())))))))))))))))):=(FnD.eq V mzh jzj (x1,(x2,(x3,(x4,(x5,(x6,()))))))).trans (by kernel_rfl)
theorem xzm (x1:(List azb)) (x2:ByteArray) (x3:ByteArray) (x4:Int) (x5:tAsk) (x6:tAsk):nzp (x1,(x2,(x3,(x4,(x5,(x6,()))))))=cnd (ilt x4 (len x1)) (cnd (inb x4 (len x1)) (cnd (seq (rd azL x1 x4).1 x2) (cnd (inb x4 (len x1)) (bnd (hzI ((rd azL x1 x4).2.2.2.1,(x3,()))) (fun r6=>(some (((x6.1,(x6.2.1,(x6.2.2.1,(x6.2.2.2.1,(x6.2.2.2.2.1,(r6.1.1,x6.2.2.2.2.2.2)))))),()),())))) none) (nzp (x1,(x2,(x3,((iadd .i64 x4 1),(x5,(x6,())))))))) none) (some ((x6,()),())):=(FnD.eqC V mzh jzj 4 (x1,(x2,(x3,(x4,(x5,(x6,()))))))).trans (by kernel_rfl)
theorem zzL:CallsOk Tryz.prog gls gvs 18 uzh:=FnD.ok (F:=jzj) (cs:=mzh) V_ok (kC vzh (kC rzt (kC kz7 (kC Gzy (kC Ezz kN))))) Tryz.func18 (by decide) (by kernel_rfl)
noncomputable def nzw:FnD:={f:=23,fn:=Tryz.f23,ps:=[pa (.sl (.int .u8))],rs:=[rt .str,⟨TAsk,(.pr .sh (.pr .sh (.pr .sh (.pr .sh (.pr .sh (.pr (.own 0 .sh) .sh)))))),false⟩],al:=true}
noncomputable def rzf:List (Nat×Sig):=[(21,hz7),(25,jzh),(26,lzV),(34,hzn),(20,hzg),(53,rz0),(18,uzh)]
noncomputable def nzh:(List Int)×Unit→Option ((ByteArray×tAsk×Unit)×Unit):=nzw.d V rzf
noncomputable abbrev yze:Sig:=nzw.t.sig nzh
theorem Fz2 (x1:(List Int)):nzh (x1,())=bnd (ezQ (x1,())) (fun r1=>(bnd (fza (r1.1.1,(((bs [97,97,97,97])::((bs [97,97,97,98])::((bs [98,111,98,98])::((bs [110,111,110,101])::([]:List ByteArray))))),()))) (fun r2=>(bnd (hzP (r2.2.1,())) (fun r3=>(bnd (czJ (r3.2.1,())) (fun r4=>(bnd (dzv (r4.1.1,(azG,(azG,(DzV,()))))) (fun r5=>(bnd (lzs (r5.1.1,())) (fun r6=>(bnd (lz5 (r4.1.1,(azG,(azG,(DzV,(r2.1.1,(r3.1.1,()))))))) (fun r7=>(some ((r6.1.1,(r7.1.1,())),()))))))))))))))):=(FnD.eq V rzf nzw (x1,())).trans (by kernel_rfl)
theorem FzG:CallsOk Tryz.prog gls gvs 23 yze:=FnD.ok (F:=nzw) (cs:=rzf) V_ok (kC jz6 (kC mzg (kC nz2 (kC lzf (kC kz7 (kC xzE (kC zzL kN))))))) Tryz.func23 (by decide) (by kernel_rfl)
noncomputable def ezZ:FnD:={f:=6,fn:=Tryz.f6,ps:=[pa (.sl (.int .u8))],rs:=[rt .str,⟨TAsk,(.pr .sh (.pr .sh (.pr .sh (.pr .sh (.pr .sh (.pr (.own 0 .sh) .sh)))))),false⟩],al:=true}
noncomputable def izn:List (Nat×Sig):=[(21,hz7),(22,bzo),(23,yze),(24,fz5),(25,jzh),(26,lzV)]
noncomputable def ezT:(List Int)×Unit→Option ((ByteArray×tAsk×Unit)×Unit):=ezZ.d V izn
noncomputable abbrev nzM:Sig:=ezZ.t.sig ezT
theorem vzG (x1:(List Int)):ezT (x1,())=bnd (ezQ (x1,())) (fun r1=>(bnd (azy (r1.1.1,(12,()))) (fun r2=>(bnd (nzh (x1,())) (fun r3=>(cnd (ieq r2.1.1 0) (bnd (czT ((bs [120]),())) (fun r4=>(some ((r4.1.1,(r3.1.2.1,())),())))) (cnd (ieq r2.1.1 1) (bnd (fza (r2.2.1,(((bs [97,97,97,97])::((bs [110,111,110,101])::((bs [120])::([]:List ByteArray)))),()))) (fun r4=>(some ((r3.1.1,((r4.1.1,r3.1.2.1.2),())),())))) (cnd (ieq r2.1.1 2) (bnd (hzP (r2.2.1,())) (fun r4=>(some ((r3.1.1,((r3.1.2.1.1,(r4.1.1,r3.1.2.1.2.2)),())),())))) (cnd (ieq r2.1.1 3) (cnd (fits ((len ([]:List ByteArray))+(len r3.1.2.1.2.2.2.2.2.1)) 1) (cnd (fits ((len (app ([]:List ByteArray) r3.1.2.1.2.2.2.2.2.1))+(len ((bs [120])::([]:List ByteArray)))) 1) (some ((r3.1.1,((r3.1.2.1.1,(r3.1.2.1.2.1,(r3.1.2.1.2.2.1,(r3.1.2.1.2.2.2.1,(r3.1.2.1.2.2.2.2.1,((app (app ([]:List ByteArray) r3.1.2.1.2.2.2.2.2.1) ((bs [120])::([]:List ByteArray))),r3.1.2.1.2.2.2.2.2.2)))))),())),())) none) none) (cnd (ieq r2.1.1 4) (some ((r3.1.1,((r3.1.2.1.1,(r3.1.2.1.2.1,(r3.1.2.1.2.2.1,(r3.1.2.1.2.2.2.1,(([]:List ByteArray),r3.1.2.1.2.2.2.2.2))))),())),())) (cnd (ieq r2.1.1 5) (cnd (fits ((len ([]:List ByteArray))+(len r3.1.2.1.2.2.2.1)) 1) (cnd (fits ((len (app ([]:List ByteArray) r3.1.2.1.2.2.2.1))+(len ((bs [120])::([]:List ByteArray)))) 1) (some ((r3.1.1,((r3.1.2.1.1,(r3.1.2.1.2.1,(r3.1.2.1.2.2.1,((app (app ([]:List ByteArray) r3.1.2.1.2.2.2.1) ((bs [120])::([]:List ByteArray))),r3.1.2.1.2.2.2.2)))),())),())) none) none) (cnd (ieq r2.1.1 6) (some ((r3.1.1,((r3.1.2.1.1,(r3.1.2.1.2.1,((bs [120]),r3.1.2.1.2.2.2))),())),())) (some ((r3.1.1,(r3.1.2.1,())),())))))))))))))):=(FnD.eq V izn ezZ (x1,())).trans (by kernel_rfl)
theorem vzI:CallsOk Tryz.prog gls gvs 6 nzM:=FnD.ok (F:=ezZ) (cs:=izn) V_ok (kC jz6 (kC bzw (kC FzG (kC izb (kC mzg (kC nz2 kN)))))) Tryz.func6 (by decide) (by kernel_rfl)
noncomputable def mz1:FnD:={f:=27,fn:=Tryz.f27,ps:=[pa .str],rs:=[rt .bool]}
noncomputable def rzz:List (Nat×Sig):=[]
noncomputable def czF:ByteArray×Unit→Option ((Bool×Unit)×Unit):=mz1.d V rzz
noncomputable abbrev gzP:Sig:=mz1.t.sig czF
theorem Gzs (x1:ByteArray):czF (x1,())=some (((ieq (ssz x1) 32),()),()):=(FnD.eq V rzz mz1 (x1,())).trans (by kernel_rfl)
theorem jzL:CallsOk Tryz.prog gls gvs 27 gzP:=FnD.ok (F:=mz1) (cs:=rzz) V_ok kN Tryz.func27 (by decide) (by kernel_rfl)
noncomputable def kzG:FnD:={f:=103,fn:=Tryz.f103,ps:=[pa .str],rs:=[rt .str]}
noncomputable def ozs:List (Nat×Sig):=[(138,kzY)]
noncomputable def kzI:ByteArray×Unit→Option ((ByteArray×Unit)×Unit):=kzG.d V ozs
noncomputable abbrev vzw:Sig:=kzG.t.sig kzI
theorem Ezk (x1:ByteArray):kzI (x1,())=cnd (nz 136) (cnd (fits ((ssz x1)+(ssz (bs [1]))) 1) (bnd (czC ((bs [0]),((isub .i64 135 (irem (ssz x1) 136)),()))) (fun r1=>(cnd (fits ((ssz (scat x1 (bs [1])))+(ssz r1.1.1)) 1) (cnd (inb (isub .i64 (len (bzv (scat (scat x1 (bs [1])) r1.1.1))) 1) (len (bzv (scat (scat x1 (bs [1])) r1.1.1)))) (cnd (inb (isub .i64 (len (bzv (scat (scat x1 (bs [1])) r1.1.1))) 1) (len (bzv (scat (scat x1 (bs [1])) r1.1.1)))) (some (((sof (upd (bzv (scat (scat x1 (bs [1])) r1.1.1)) (isub .i64 (len (bzv (scat (scat x1 (bs [1])) r1.1.1))) 1) (ior .u8 (rd 0 (bzv (scat (scat x1 (bs [1])) r1.1.1)) (isub .i64 (len (bzv (scat (scat x1 (bs [1])) r1.1.1))) 1)) 128))),()),())) none) none) none))) none) none:=(FnD.eq V ozs kzG (x1,())).trans (by kernel_rfl)
theorem Dzg:CallsOk Tryz.prog gls gvs 103 vzw:=FnD.ok (F:=kzG) (cs:=ozs) V_ok (kC tzj kN) Tryz.func103 (by decide) (by kernel_rfl)
noncomputable def lz6:FnD:={f:=104,fn:=Tryz.f104,ps:=[pa .str,pa (.int .i64)],rs:=[rt (.int .u64)],cuts:=[(3,[.val 0 .str .sh, .val 1 (.int .i64) .sh, .val 5 (.int .u64) .sh, .val 6 (.int .i64) .sh])]}
noncomputable def ozp:List (Nat×Sig):=[]
noncomputable def rz4:ByteArray×Int×Unit→Option ((Int×Unit)×Unit):=lz6.d V ozp
noncomputable abbrev Dzn:Sig:=lz6.t.sig rz4
noncomputable def pzo:ByteArray×Int×Int×Int×Unit→Option ((Int×Unit)×Unit):=lz6.D V ozp 3
theorem MzS (x1:ByteArray) (x2:Int):rz4 (x1,(x2,()))=pzo (x1,(x2,(0,(7,())))):=(FnD.eq V ozp lz6 (x1,(x2,()))).trans (by kernel_rfl)
theorem zzr (x1:ByteArray) (x2:Int) (x3:Int) (x4:Int):pzo (x1,(x2,(x3,(x4,()))))=cnd (ige x4 0) (cnd (nn 8) (cnd (inb (iadd .i64 x2 x4) (ssz x1)) (pzo (x1,(x2,((ior .u64 (ishl .u64 x3 8) (azx .u64 (sat x1 (iadd .i64 x2 x4)))),((isub .i64 x4 1),()))))) none) none) (some ((x3,()),())):=(FnD.eqC V ozp lz6 3 (x1,(x2,(x3,(x4,()))))).trans (by kernel_rfl)
theorem LzK:CallsOk Tryz.prog gls gvs 104 Dzn:=FnD.ok (F:=lz6) (cs:=ozp) V_ok kN Tryz.func104 (by decide) (by kernel_rfl)
noncomputable def bzK:FnD:={f:=170,fn:=Tryz.f170,ps:=[pa (.int .u64),pa (.int .i64)],rs:=[rt (.int .u64)]}
noncomputable def czn:List (Nat×Sig):=[]
noncomputable def bzl:Int×Int×Unit→Option ((Int×Unit)×Unit):=bzK.d V czn
noncomputable abbrev ezv:Sig:=bzK.t.sig bzl
theorem kzn (x1:Int) (x2:Int):bzl (x1,(x2,()))=cnd (nn (iand .u64 (azx .u64 x2) 63)) (cnd (nn (isub .u64 64 (iand .u64 (azx .u64 x2) 63))) (some (((ior .u64 (ishl .u64 x1 (iand .u64 (azx .u64 x2) 63)) (ishr .u64 x1 (isub .u64 64 (iand .u64 (azx .u64 x2) 63)))),()),())) none) none:=(FnD.eq V czn bzK (x1,(x2,()))).trans (by kernel_rfl)
theorem kzm:CallsOk Tryz.prog gls gvs 170 ezv:=FnD.ok (F:=bzK) (cs:=czn) V_ok kN Tryz.func170 (by decide) (by kernel_rfl)
noncomputable def azW:FnD:={f:=139,fn:=Tryz.f139,ps:=[⟨(.arr 25 (.int .u64)), .sh,true,true,none⟩,pa (.int .i64)],rs:=[],cuts:=[(2,[.val 1 (.int .i64) .sh, .val 12 (.int .i64) .sh, .box 0 (.arr 25 (.int .u64)) .sh, .box 4 (.arr 5 (.int .u64)) .sh, .ptr 0 0 0, .ptr 4 4 0]),(11,[.val 1 (.int .i64) .sh, .val 7 (.int .i64) .sh, .val 51 (.int .i64) .sh, .val 54 (.int .i64) .sh, .box 0 (.arr 25 (.int .u64)) .sh, .box 4 (.arr 5 (.int .u64)) .sh, .box 6 (.arr 25 (.int .u64)) .sh, .ptr 0 0 0, .ptr 4 4 0, .ptr 6 6 0]),(8,[.val 1 (.int .i64) .sh, .val 51 (.int .i64) .sh, .box 0 (.arr 25 (.int .u64)) .sh, .box 4 (.arr 5 (.int .u64)) .sh, .box 6 (.arr 25 (.int .u64)) .sh, .ptr 0 0 0, .ptr 4 4 0, .ptr 6 6 0]),(21,[.val 1 (.int .i64) .sh, .val 10 (.int .i64) .sh, .val 98 (.int .i64) .sh, .val 101 (.int .i64) .sh, .box 0 (.arr 25 (.int .u64)) .sh, .box 6 (.arr 25 (.int .u64)) .sh, .ptr 0 0 0, .ptr 6 6 0]),(18,[.val 1 (.int .i64) .sh, .val 98 (.int .i64) .sh, .box 0 (.arr 25 (.int .u64)) .sh, .box 6 (.arr 25 (.int .u64)) .sh, .ptr 0 0 0, .ptr 6 6 0])]}
noncomputable def az3:List (Nat×Sig):=[(170,ezv)]
noncomputable def fzN:(List Int)×Int×Unit→Option ((Unit)× (List Int)×Unit):=azW.d V az3
noncomputable abbrev ozB:Sig:=azW.t.sig fzN
noncomputable def czq:Int×Int× (List Int)× (List Int)×Unit→Option ((Unit)× (List Int)×Unit):=azW.D V az3 2
noncomputable def ezg:Int×Int×Int×Int× (List Int)× (List Int)× (List Int)×Unit→Option ((Unit)× (List Int)×Unit):=azW.D V az3 11
noncomputable def czp:Int×Int× (List Int)× (List Int)× (List Int)×Unit→Option ((Unit)× (List Int)×Unit):=azW.D V az3 8
noncomputable def dz6:Int×Int×Int×Int× (List Int)× (List Int)×Unit→Option ((Unit)× (List Int)×Unit):=azW.D V az3 21
noncomputable def czc:Int×Int× (List Int)× (List Int)×Unit→Option ((Unit)× (List Int)×Unit):=azW.D V az3 18
theorem wzK (x1:(List Int)) (x2:Int):fzN (x1,(x2,()))=czq (x2,(0,(x1,((0::(0::(0::(0::(0::([]:List Int)))))),())))):=(FnD.eq V az3 azW (x1,(x2,()))).trans (by kernel_rfl)
theorem nzD (x1:Int) (x2:Int) (x3:(List Int)) (x4:(List Int)):czq (x1,(x2,(x3,(x4,()))))=cnd (ilt x2 5) (cnd (inb x2 25) (cnd (inb (iadd .i64 x2 5) 25) (cnd (inb (iadd .i64 x2 10) 25) (cnd (inb (iadd .i64 x2 15) 25) (cnd (inb (iadd .i64 x2 20) 25) (cnd (inb x2 5) (czq (x1,((iadd .i64 x2 1),(x3,((upd x4 x2 (ixor .u64 (ixor .u64 (ixor .u64 (ixor .u64 (rd 0 x3 x2) (rd 0 x3 (iadd .i64 x2 5))) (rd 0 x3 (iadd .i64 x2 10))) (rd 0 x3 (iadd .i64 x2 15))) (rd 0 x3 (iadd .i64 x2 20)))),()))))) none) none) none) none) none) none) (czp (x1,(0,(x3,(x4,((0::(0::(0::(0::(0::(0::(0::(0::(0::(0::(0::(0::(0::(0::(0::(0::(0::(0::(0::(0::(0::(0::(0::(0::(0::([]:List Int)))))))))))))))))))))))))),())))))):=(FnD.eqC V az3 azW 2 (x1,(x2,(x3,(x4,()))))).trans (by kernel_rfl)
theorem lzY (x1:Int) (x2:Int) (x3:Int) (x4:Int) (x5:(List Int)) (x6:(List Int)) (x7:(List Int)):ezg (x1,(x2,(x3,(x4,(x5,(x6,(x7,())))))))=cnd (ilt x4 5) (cnd (nz 5) (cnd (inb (irem (iadd .i64 x4 4) 5) 5) (cnd (nz 5) (cnd (inb (irem (iadd .i64 x4 1) 5) 5) (bnd (bzl ((rd 0 x6 (irem (iadd .i64 x4 1) 5)),(1,()))) (fun r7=>(cnd (nz 5) (cnd (inb (iadd .i64 x4 (imul .i64 5 x2)) 25) (cnd (inb (iadd .i64 x4 (imul .i64 5 x2)) 25) (bnd (bzl ((ixor .u64 (rd 0 x5 (iadd .i64 x4 (imul .i64 5 x2))) (ixor .u64 (rd 0 x6 (irem (iadd .i64 x4 4) 5)) r7.1.1)),((rd 0 az5 (iadd .i64 x4 (imul .i64 5 x2))),()))) (fun r8=>(cnd (inb (iadd .i64 x2 (imul .i64 5 (irem (iadd .i64 (imul .i64 2 x4) (imul .i64 3 x2)) 5))) 25) (ezg (x1,(x2,(x3,((iadd .i64 x4 1),(x5,(x6,((upd x7 (iadd .i64 x2 (imul .i64 5 (irem (iadd .i64 (imul .i64 2 x4) (imul .i64 3 x2)) 5))) r8.1.1),())))))))) none))) none) none) none))) none) none) none) none) (czp (x1,((iadd .i64 x3 1),(x5,(x6,(x7,())))))):=(FnD.eqC V az3 azW 11 (x1,(x2,(x3,(x4,(x5,(x6,(x7,())))))))).trans (by kernel_rfl)
theorem nzL (x1:Int) (x2:Int) (x3:(List Int)) (x4:(List Int)) (x5:(List Int)):czp (x1,(x2,(x3,(x4,(x5,())))))=cnd (ilt x2 5) (ezg (x1,(x2,(x2,(0,(x3,(x4,(x5,())))))))) (czc (x1,(0,(x3,(x5,()))))):=(FnD.eqC V az3 azW 8 (x1,(x2,(x3,(x4,(x5,())))))).trans (by kernel_rfl)
theorem lzz (x1:Int) (x2:Int) (x3:Int) (x4:Int) (x5:(List Int)) (x6:(List Int)):dz6 (x1,(x2,(x3,(x4,(x5,(x6,()))))))=cnd (ilt x4 5) (cnd (inb (iadd .i64 x4 (imul .i64 5 x2)) 25) (cnd (nz 5) (cnd (inb (iadd .i64 (irem (iadd .i64 x4 1) 5) (imul .i64 5 x2)) 25) (cnd (nz 5) (cnd (inb (iadd .i64 (irem (iadd .i64 x4 2) 5) (imul .i64 5 x2)) 25) (cnd (inb (iadd .i64 x4 (imul .i64 5 x2)) 25) (dz6 (x1,(x2,(x3,((iadd .i64 x4 1),((upd x5 (iadd .i64 x4 (imul .i64 5 x2)) (ixor .u64 (rd 0 x6 (iadd .i64 x4 (imul .i64 5 x2))) (iand .u64 (inot .u64 (rd 0 x6 (iadd .i64 (irem (iadd .i64 x4 1) 5) (imul .i64 5 x2)))) (rd 0 x6 (iadd .i64 (irem (iadd .i64 x4 2) 5) (imul .i64 5 x2)))))),(x6,()))))))) none) none) none) none) none) none) (czc (x1,((iadd .i64 x3 1),(x5,(x6,()))))):=(FnD.eqC V az3 azW 21 (x1,(x2,(x3,(x4,(x5,(x6,()))))))).trans (by kernel_rfl)
theorem lzB (x1:Int) (x2:Int) (x3:(List Int)) (x4:(List Int)):czc (x1,(x2,(x3,(x4,()))))=cnd (ilt x2 5) (dz6 (x1,(x2,(x2,(0,(x3,(x4,()))))))) (cnd (inb 0 25) (cnd (inb x1 24) (cnd (inb 0 25) (some ((),((upd x3 0 (ixor .u64 (rd 0 x3 0) (rd 0 azU x1))),()))) none) none) none):=(FnD.eqC V az3 azW 18 (x1,(x2,(x3,(x4,()))))).trans (by kernel_rfl)
theorem xzf:CallsOk Tryz.prog gls gvs 139 ozB:=FnD.ok (F:=azW) (cs:=az3) V_ok (kC kzm kN) Tryz.func139 (by decide) (by kernel_rfl)
noncomputable def czw:FnD:={f:=105,fn:=Tryz.f105,ps:=[⟨(.arr 25 (.int .u64)), .sh,true,true,none⟩],rs:=[],cuts:=[(1,[.val 3 (.int .i64) .sh, .box 0 (.arr 25 (.int .u64)) .sh, .ptr 0 0 0])]}
noncomputable def dze:List (Nat×Sig):=[(139,ozB)]
noncomputable def ez0:(List Int)×Unit→Option ((Unit)× (List Int)×Unit):=czw.d V dze
noncomputable abbrev nzF:Sig:=czw.t.sig ez0
noncomputable def ezn:Int× (List Int)×Unit→Option ((Unit)× (List Int)×Unit):=czw.D V dze 1
theorem vzO (x1:(List Int)):ez0 (x1,())=ezn (0,(x1,())):=(FnD.eq V dze czw (x1,())).trans (by kernel_rfl)
theorem lzK (x1:Int) (x2:(List Int)):ezn (x1,(x2,()))=cnd (ilt x1 24) (bnd (fzN (x2,(x1,()))) (fun r2=>(ezn ((iadd .i64 x1 1),(r2.2.1,()))))) (some ((),(x2,()))):=(FnD.eqC V dze czw 1 (x1,(x2,()))).trans (by kernel_rfl)
theorem vzA:CallsOk Tryz.prog gls gvs 105 nzF:=FnD.ok (F:=czw) (cs:=dze) V_ok (kC xzf kN) Tryz.func105 (by decide) (by kernel_rfl)
noncomputable def fzz:FnD:={f:=140,fn:=Tryz.f140,ps:=[⟨(.sl (.int .u8)),(.own 0 .sh),false,false,none⟩,pa (.int .u64)],rs:=[⟨(.sl (.int .u8)),(.own 0 .sh),false⟩],cuts:=[(2,[.val 0 (.sl (.int .u8)) (.own 0 .sh), .val 1 (.int .u64) .sh, .val 5 (.int .i64) .sh])]}
noncomputable def iza:List (Nat×Sig):=[]
noncomputable def kzJ:(List Int)×Int×Unit→Option (((List Int)×Unit)×Unit):=fzz.d V iza
noncomputable abbrev uz0:Sig:=fzz.t.sig kzJ
noncomputable def dz9:(List Int)×Int×Int×Unit→Option (((List Int)×Unit)×Unit):=fzz.D V iza 2
theorem CzV (x1:(List Int)) (x2:Int):kzJ (x1,(x2,()))=dz9 (x1,(x2,(0,()))):=(FnD.eq V iza fzz (x1,(x2,()))).trans (by kernel_rfl)
theorem rzV (x1:(List Int)) (x2:Int) (x3:Int):dz9 (x1,(x2,(x3,())))=cnd (ilt x3 8) (cnd (fits ((len x1)+(len ((azx .u8 x2)::([]:List Int)))) 1) (cnd (nn 8) (dz9 ((app x1 ((azx .u8 x2)::([]:List Int))),((ishr .u64 x2 8),((iadd .i64 x3 1),())))) none) none) (some ((x1,()),())):=(FnD.eqC V iza fzz 2 (x1,(x2,(x3,())))).trans (by kernel_rfl)
theorem EzG:CallsOk Tryz.prog gls gvs 140 uz0:=FnD.ok (F:=fzz) (cs:=iza) V_ok kN Tryz.func140 (by decide) (by kernel_rfl)
noncomputable def dzn:FnD:={f:=106,fn:=Tryz.f106,ps:=[⟨(.arr 25 (.int .u64)), .sh,true,true,none⟩],rs:=[rt .str],cuts:=[(3,[.val 3 (.sl (.int .u8)) (.own 0 .sh), .val 8 (.int .i64) .sh, .box 0 (.arr 25 (.int .u64)) .sh, .ptr 0 0 0, .ptr 7 0 0])]}
noncomputable def ezN:List (Nat×Sig):=[(140,uz0)]
noncomputable def hzl:(List Int)×Unit→Option ((ByteArray×Unit)× (List Int)×Unit):=dzn.d V ezN
noncomputable abbrev qzC:Sig:=dzn.t.sig hzl
noncomputable def gzc:(List Int)×Int× (List Int)×Unit→Option ((ByteArray×Unit)× (List Int)×Unit):=dzn.D V ezN 3
theorem yz5 (x1:(List Int)):hzl (x1,())=cnd (both (inb2 0 0 200) (fits 200 1)) (gzc ((rep 0 0),(0,(x1,())))) none:=(FnD.eq V ezN dzn (x1,())).trans (by kernel_rfl)
theorem ozv (x1:(List Int)) (x2:Int) (x3:(List Int)):gzc (x1,(x2,(x3,())))=cnd (ilt x2 25) (cnd (inb x2 25) (bnd (kzJ (x1,((rd 0 x3 x2),()))) (fun r3=>(gzc (r3.1.1,((iadd .i64 x2 1),(x3,())))))) none) (some (((sof x1),()),(x3,()))):=(FnD.eqC V ezN dzn 3 (x1,(x2,(x3,())))).trans (by kernel_rfl)
theorem yzH:CallsOk Tryz.prog gls gvs 106 qzC:=FnD.ok (F:=dzn) (cs:=ezN) V_ok (kC EzG kN) Tryz.func106 (by decide) (by kernel_rfl)
noncomputable def izh:FnD:={f:=58,fn:=Tryz.f58,ps:=[pa .str],rs:=[rt .str],cuts:=[(7,[.val 3 .str .sh, .val 5 (.int .i64) .sh, .val 15 (.int .i64) .sh, .box 4 (.arr 25 (.int .u64)) .sh, .ptr 4 4 0]),(4,[.val 3 .str .sh, .val 5 (.int .i64) .sh, .box 4 (.arr 25 (.int .u64)) .sh, .ptr 4 4 0])]}
noncomputable def jzN:List (Nat×Sig):=[(103,vzw),(104,Dzn),(105,nzF),(106,qzC)]
noncomputable def dzg:ByteArray×Unit→Option ((ByteArray×Unit)×Unit):=izh.d V jzN
noncomputable abbrev jz5:Sig:=izh.t.sig dzg
noncomputable def lzF:ByteArray×Int×Int× (List Int)×Unit→Option ((ByteArray×Unit)×Unit):=izh.D V jzN 7
noncomputable def lzq:ByteArray×Int× (List Int)×Unit→Option ((ByteArray×Unit)×Unit):=izh.D V jzN 4
theorem Lzc (x1:ByteArray):dzg (x1,())=bnd (kzI (x1,())) (fun r1=>(lzq (r1.1.1,(0,((0::(0::(0::(0::(0::(0::(0::(0::(0::(0::(0::(0::(0::(0::(0::(0::(0::(0::(0::(0::(0::(0::(0::(0::(0::([]:List Int)))))))))))))))))))))))))),()))))):=(FnD.eq V jzN izh (x1,())).trans (by kernel_rfl)
theorem zzI (x1:ByteArray) (x2:Int) (x3:Int) (x4:(List Int)):lzF (x1,(x2,(x3,(x4,()))))=cnd (ilt x3 17) (cnd (inb x3 25) (bnd (rz4 (x1,((iadd .i64 x2 (imul .i64 8 x3)),()))) (fun r4=>(cnd (inb x3 25) (lzF (x1,(x2,((iadd .i64 x3 1),((upd x4 x3 (ixor .u64 (rd 0 x4 x3) r4.1.1)),()))))) none))) none) (bnd (ez0 (x4,())) (fun r4=>(lzq (x1,((iadd .i64 x2 136),(r4.2.1,())))))):=(FnD.eqC V jzN izh 7 (x1,(x2,(x3,(x4,()))))).trans (by kernel_rfl)
theorem zzQ (x1:ByteArray) (x2:Int) (x3:(List Int)):lzq (x1,(x2,(x3,())))=cnd (ilt x2 (ssz x1)) (lzF (x1,(x2,(0,(x3,()))))) (bnd (hzl (x3,())) (fun r3=>(cnd (inb2 0 32 (ssz r3.1.1)) (some (((ssub r3.1.1 0 32),()),())) none))):=(FnD.eqC V jzN izh 4 (x1,(x2,(x3,())))).trans (by kernel_rfl)
theorem lz9:CallsOk Tryz.prog gls gvs 58 jz5:=FnD.ok (F:=izh) (cs:=jzN) V_ok (kC Dzg (kC LzK (kC vzA (kC yzH kN)))) Tryz.func58 (by decide) (by kernel_rfl)
noncomputable def izL:FnD:={f:=59,fn:=Tryz.f59,ps:=[pa .str,pa .str],rs:=[rt .str]}
noncomputable def mz4:List (Nat×Sig):=[(58,jz5)]
noncomputable def ezc:ByteArray×ByteArray×Unit→Option ((ByteArray×Unit)×Unit):=izL.d V mz4
noncomputable abbrev mzN:Sig:=izL.t.sig ezc
theorem Bzb (x1:ByteArray) (x2:ByteArray):ezc (x1,(x2,()))=cnd (fits ((ssz x1)+(ssz x2)) 1) (bnd (dzg ((scat x1 x2),())) (fun r2=>(some ((r2.1.1,()),())))) none:=(FnD.eq V mz4 izL (x1,(x2,()))).trans (by kernel_rfl)
theorem rzK:CallsOk Tryz.prog gls gvs 59 mzN:=FnD.ok (F:=izL) (cs:=mz4) V_ok (kC lz9 kN) Tryz.func59 (by decide) (by kernel_rfl)
noncomputable def dz2:FnD:={f:=28,fn:=Tryz.f28,ps:=[pa .str,pa (.int .i64),pa (.sl .str)],rs:=[rt .str],cuts:=[(5,[.val 1 (.int .i64) .sh, .val 7 .str .sh, .val 27 (.sl .str) .sh, .val 28 (.int .i64) .sh, .val 29 (.int .i64) .sh])]}
noncomputable def fz8:List (Nat×Sig):=[(58,jz5),(59,mzN)]
noncomputable def izy:ByteArray×Int× (List ByteArray)×Unit→Option ((ByteArray×Unit)×Unit):=dz2.d V fz8
noncomputable abbrev szq:Sig:=dz2.t.sig izy
noncomputable def hzu:Int×ByteArray× (List ByteArray)×Int×Int×Unit→Option ((ByteArray×Unit)×Unit):=dz2.D V fz8 5
theorem Czp (x1:ByteArray) (x2:Int) (x3:(List ByteArray)):izy (x1,(x2,(x3,())))=cnd (igt (len x3) 5) (some (((bs []),()),())) (cnd (ilt x2 0) (some (((bs []),()),())) (cnd (nn (azx .u64 (len x3))) (cnd (ige x2 (ishl .i64 1 (azx .u64 (len x3)))) (some (((bs []),()),())) (bnd (dzg (x1,())) (fun r3=>(hzu (x2,(r3.1.1,(x3,((len x3),(0,()))))))))) none)):=(FnD.eq V fz8 dz2 (x1,(x2,(x3,())))).trans (by kernel_rfl)
theorem kz6 (x1:Int) (x2:ByteArray) (x3:(List ByteArray)) (x4:Int) (x5:Int):hzu (x1,(x2,(x3,(x4,(x5,())))))=cnd (ilt x5 x4) (cnd (inb x5 (len x3)) (cnd (nn (azx .u64 x5)) (cnd (ieq (iand .i64 (ishr .i64 x1 (azx .u64 x5)) 1) 1) (bnd (ezc ((rd (bs []) x3 x5),(x2,()))) (fun r5=>(hzu (x1,(r5.1.1,(x3,(x4,((iadd .i64 x5 1),())))))))) (bnd (ezc (x2,((rd (bs []) x3 x5),()))) (fun r5=>(hzu (x1,(r5.1.1,(x3,(x4,((iadd .i64 x5 1),()))))))))) none) none) (some ((x2,()),())):=(FnD.eqC V fz8 dz2 5 (x1,(x2,(x3,(x4,(x5,())))))).trans (by kernel_rfl)
theorem BzL:CallsOk Tryz.prog gls gvs 28 szq:=FnD.ok (F:=dz2) (cs:=fz8) V_ok (kC lz9 (kC rzK kN)) Tryz.func28 (by decide) (by kernel_rfl)
noncomputable def fzl:FnD:={f:=60,fn:=Tryz.f60,ps:=[pa .str],rs:=[⟨(.sl (.int .i64)),(.own 0 .sh),false⟩],cuts:=[(3,[.val 0 .str .sh, .val 3 (.sl (.int .i64)) (.own 0 .sh), .val 4 (.int .i64) .sh])]}
noncomputable def hzT:List (Nat×Sig):=[]
noncomputable def bzV:ByteArray×Unit→Option (((List Int)×Unit)×Unit):=fzl.d V hzT
noncomputable abbrev cz1:Sig:=fzl.t.sig bzV
noncomputable def fz3:ByteArray× (List Int)×Int×Unit→Option (((List Int)×Unit)×Unit):=fzl.D V hzT 3
theorem DzR (x1:ByteArray):bzV (x1,())=fz3 (x1,(([]:List Int),(0,()))):=(FnD.eq V hzT fzl (x1,())).trans (by kernel_rfl)
theorem tzh (x1:ByteArray) (x2:(List Int)) (x3:Int):fz3 (x1,(x2,(x3,())))=cnd (ilt x3 (ssz x1)) (cnd (inb x3 (ssz x1)) (cnd (nn 4) (cnd (inb x3 (ssz x1)) (cnd (fits ((len x2)+(len ((azx .i64 (ishr .u8 (sat x1 x3) 4))::((azx .i64 (iand .u8 (sat x1 x3) 15))::([]:List Int))))) 1) (fz3 (x1,((app x2 ((azx .i64 (ishr .u8 (sat x1 x3) 4))::((azx .i64 (iand .u8 (sat x1 x3) 15))::([]:List Int)))),((iadd .i64 x3 1),())))) none) none) none) none) (some ((x2,()),())):=(FnD.eqC V hzT fzl 3 (x1,(x2,(x3,())))).trans (by kernel_rfl)
theorem dzY:CallsOk Tryz.prog gls gvs 60 cz1:=FnD.ok (F:=fzl) (cs:=hzT) V_ok kN Tryz.func60 (by decide) (by kernel_rfl)
noncomputable def azZ:FnD:={f:=143,fn:=Tryz.f143,ps:=[⟨(.sl (.int .u8)),(.own 1 .sh),true,false,none⟩],rs:=[],fz:=[1000000003002012,1000000003003012],cuts:=[(1,[.val 0 (.sl (.int .u8)) (.own 1 .sh), .val 2 (.int .i64) .sh, .val 3 (.int .i64) .sh])]}
noncomputable def bzf:List (Nat×Sig):=[]
noncomputable def azp:(List Int)×Unit→Option ((Unit)× (List Int)×Unit):=azZ.d V bzf
noncomputable abbrev dzC:Sig:=azZ.t.sig azp
noncomputable def aze:(List Int)×Int×Int×Unit→Option ((Unit)× (List Int)×Unit):=azZ.D V bzf 1
theorem azE (x1:(List Int)):azp (x1,())=aze (x1,(0,((isub .i64 (len x1) 1),()))):=(FnD.eq V bzf azZ (x1,())).trans (by kernel_rfl)
theorem azf (x1:(List Int)) (x2:Int) (x3:Int):aze (x1,(x2,(x3,())))=cnd (ilt x2 x3) (cnd (inb x3 (len x1)) (cnd (inb x2 (len x1)) (cnd (inb x2 (len x1)) (cnd (inb x3 (len (upd x1 x2 (rd 0 x1 x3)))) (aze ((upd (upd x1 x2 (rd 0 x1 x3)) x3 (rd 0 x1 x2)),((iadd .i64 x2 1),((isub .i64 x3 1),())))) none) none) none) none) (some ((),(x1,()))):=(FnD.eqC V bzf azZ 1 (x1,(x2,(x3,())))).trans (by kernel_rfl)
theorem izz:CallsOk Tryz.prog gls gvs 143 dzC:=FnD.ok (F:=azZ) (cs:=bzf) V_ok kN Tryz.func143 (by decide) (by kernel_rfl)
noncomputable def jzl:FnD:={f:=110,fn:=Tryz.f110,ps:=[pa (.int .i64)],rs:=[rt .str],cuts:=[(2,[.val 0 (.int .i64) .sh, .val 3 (.sl (.int .u8)) (.own 0 .sh)])]}
noncomputable def lzI:List (Nat×Sig):=[(143,dzC)]
noncomputable def gzJ:Int×Unit→Option ((ByteArray×Unit)×Unit):=jzl.d V lzI
noncomputable abbrev pzl:Sig:=jzl.t.sig gzJ
noncomputable def gzt:Int× (List Int)×Unit→Option ((ByteArray×Unit)×Unit):=jzl.D V lzI 2
theorem Iz3 (x1:Int):gzJ (x1,())=gzt (x1,(([]:List Int),())):=(FnD.eq V lzI jzl (x1,())).trans (by kernel_rfl)
theorem wzC (x1:Int) (x2:(List Int)):gzt (x1,(x2,()))=cnd (igt x1 0) (cnd (fits ((len x2)+(len ((azx .u8 x1)::([]:List Int)))) 1) (cnd (nn 8) (gzt ((ishr .i64 x1 8),((app x2 ((azx .u8 x1)::([]:List Int))),()))) none) none) (bnd (azp (x2,())) (fun r2=>(some (((sof r2.2.1),()),())))):=(FnD.eqC V lzI jzl 2 (x1,(x2,()))).trans (by kernel_rfl)
theorem uzx:CallsOk Tryz.prog gls gvs 110 pzl:=FnD.ok (F:=jzl) (cs:=lzI) V_ok (kC izz kN) Tryz.func110 (by decide) (by kernel_rfl)
noncomputable def jza:FnD:={f:=63,fn:=Tryz.f63,ps:=[pa .str],rs:=[rt (.int .i64),rt .bool],cuts:=[(5,[.val 0 .str .sh, .val 4 (.int .i64) .sh, .val 5 (.int .i64) .sh])]}
noncomputable def lzl:List (Nat×Sig):=[(110,pzl)]
noncomputable def jzu:ByteArray×Unit→Option ((Int×Bool×Unit)×Unit):=jza.d V lzl
noncomputable abbrev uzc:Sig:=jza.t.sig jzu
noncomputable def gzV:ByteArray×Int×Int×Unit→Option ((Int×Bool×Unit)×Unit):=jza.D V lzl 5
theorem Iz9 (x1:ByteArray):jzu (x1,())=cnd (igt (ssz x1) 4) (some ((0,(false,())),())) (gzV (x1,zTwo)):=(FnD.eq V lzl jza (x1,())).trans (by kernel_rfl)
theorem wzL (x1:ByteArray) (x2:Int) (x3:Int):gzV (x1,(x2,(x3,())))=cnd (ilt x3 (ssz x1)) (cnd (nn 8) (cnd (inb x3 (ssz x1)) (gzV (x1,((ior .i64 (ishl .i64 x2 8) (azx .i64 (sat x1 x3))),((iadd .i64 x3 1),())))) none) none) (cnd (igt x2 1000000000) (some ((0,(false,())),())) (bnd (gzJ (x2,())) (fun r3=>(cnd (sne r3.1.1 x1) (some ((0,(false,())),())) (some ((x2,(true,())),())))))):=(FnD.eqC V lzl jza 5 (x1,(x2,(x3,())))).trans (by kernel_rfl)
theorem zz8:CallsOk Tryz.prog gls gvs 63 uzc:=FnD.ok (F:=jza) (cs:=lzl) V_ok (kC uzx kN) Tryz.func63 (by decide) (by kernel_rfl)
noncomputable def pzI:FnD:={f:=142,fn:=Tryz.f142,ps:=[pa .str,pa (.int .i64),pa (.int .i64)],rs:=[rt (.int .i64),rt (.int .i64),rt .bool]}
noncomputable def uzq:List (Nat×Sig):=[(63,uzc)]
noncomputable def lzw:ByteArray×Int×Int×Unit→Option ((Int×Int×Bool×Unit)×Unit):=pzI.d V uzq
noncomputable abbrev Azq:Sig:=pzI.t.sig lzw
theorem zzl (x1:ByteArray) (x2:Int) (x3:Int):lzw (x1,(x2,(x3,())))=cnd (inb x2 (ssz x1)) (cnd (ile (isub .i64 (azx .i64 (sat x1 x2)) x3) 55) (some (((iadd .i64 x2 1),((isub .i64 (azx .i64 (sat x1 x2)) x3),(true,()))),())) (cnd (igt (isub .i64 (isub .i64 (azx .i64 (sat x1 x2)) x3) 55) (isub .i64 (isub .i64 (ssz x1) x2) 1)) (some (czS,())) (cnd (inb2 (iadd .i64 x2 1) (iadd .i64 (iadd .i64 x2 1) (isub .i64 (isub .i64 (azx .i64 (sat x1 x2)) x3) 55)) (ssz x1)) (bnd (jzu ((ssub x1 (iadd .i64 x2 1) (iadd .i64 (iadd .i64 x2 1) (isub .i64 (isub .i64 (azx .i64 (sat x1 x2)) x3) 55))),())) (fun r3=>(some (((iadd .i64 (iadd .i64 x2 1) (isub .i64 (isub .i64 (azx .i64 (sat x1 x2)) x3) 55)),(r3.1.1,(r3.1.2.1,()))),())))) none))) none:=(FnD.eq V uzq pzI (x1,(x2,(x3,())))).trans (by kernel_rfl)
theorem IzZ:CallsOk Tryz.prog gls gvs 142 Azq:=FnD.ok (F:=pzI) (cs:=uzq) V_ok (kC zz8 kN) Tryz.func142 (by decide) (by kernel_rfl)
noncomputable def hzM:FnD:={f:=109,fn:=Tryz.f109,ps:=[pa .str,pa (.int .i64),pa (.int .i64)],rs:=[⟨.item,(.own 0 .sh),false⟩,rt (.int .i64),rt .bool],al:=true,joins:=[8],cuts:=[(8,[.val 0 .str .sh, .val 1 (.int .i64) .sh, .val 2 (.int .i64) .sh, .val 9 (.int .i64) .sh, .box 6 .item (.own 0 .sh), .ptr 6 6 0]),(17,[.val 0 .str .sh, .val 2 (.int .i64) .sh, .val 10 (.int .i64) .sh, .val 13 (.int .i64) .sh, .box 6 .item (.own 0 .sh), .box 14 .item (.own 0 .sh), .ptr 6 6 0, .ptr 14 14 0])]}
noncomputable def jz8:List (Nat×Sig):=[(142,Azq)]
noncomputable def hz3:ByteArray×Int×Int×Unit→Option ((ItemT×Int×Bool×Unit)×Unit):=hzM.d V jz8
noncomputable abbrev EzI:Sig:=hzM.t.sig hz3
noncomputable def gzy:ByteArray×Int×Int×Int×ItemT×Unit→Option ((ItemT×Int×Bool×Unit)×Unit):=hzM.D V jz8 8
noncomputable def gz6:ByteArray×Int×Int×Int×ItemT×ItemT×Unit→Option ((ItemT×Int×Bool×Unit)×Unit):=hzM.D V jz8 17
theorem szu (x1:ByteArray) (x2:Int) (x3:Int):hz3 (x1,(x2,(x3,())))=cnd (ige x2 (ssz x1)) (some (((ItemT.mk false (bs []) ([]:List ItemT)),(0,(false,()))),())) (cnd (inb x2 (ssz x1)) (cnd (ilt (sat x1 x2) 128) (cnd (inb2 x2 (iadd .i64 x2 1) (ssz x1)) (some (((ItemT.mk false (ssub x1 x2 (iadd .i64 x2 1)) ([]:List ItemT)),((iadd .i64 x2 1),(true,()))),())) none) (cnd (inb x2 (ssz x1)) (cnd (ige (sat x1 x2) 192) (gzy (x1,(x2,(x3,(192,((ItemT.mk false (bs []) ([]:List ItemT)),())))))) (gzy (x1,(x2,(x3,(128,((ItemT.mk false (bs []) ([]:List ItemT)),()))))))) none)) none):=(FnD.eq V jz8 hzM (x1,(x2,(x3,())))).trans (by kernel_rfl)
theorem oz9 (x1:ByteArray) (x2:Int) (x3:Int) (x4:Int) (x5:ItemT):gzy (x1,(x2,(x3,(x4,(x5,())))))=bnd (lzw (x1,(x2,(x4,())))) (fun r5=>(cnd (bnot r5.1.2.2.1) (some (((ItemT.mk false (bs []) ([]:List ItemT)),(0,(false,()))),())) (cnd (igt r5.1.2.1 (isub .i64 (ssz x1) r5.1.1)) (some (((ItemT.mk false (bs []) ([]:List ItemT)),(0,(false,()))),())) (cnd (ieq x4 128) (cnd (inb2 r5.1.1 (iadd .i64 r5.1.1 r5.1.2.1) (ssz x1)) (some (((ItemT.mk false (ssub x1 r5.1.1 (iadd .i64 r5.1.1 r5.1.2.1)) ([]:List ItemT)),((iadd .i64 r5.1.1 r5.1.2.1),(true,()))),())) none) (cnd (ieq x3 0) (some (((ItemT.mk false (bs []) ([]:List ItemT)),(0,(false,()))),())) (gz6 (x1,(x3,(r5.1.1,((iadd .i64 r5.1.1 r5.1.2.1),(x5,((ItemT.mk true (bs []) ([]:List ItemT)),())))))))))))):=(FnD.eqC V jz8 hzM 8 (x1,(x2,(x3,(x4,(x5,())))))).trans (by kernel_rfl)
theorem mzI (x1:ByteArray) (x2:Int) (x3:Int) (x4:Int) (x5:ItemT) (x6:ItemT):gz6 (x1,(x2,(x3,(x4,(x5,(x6,()))))))=cnd (ilt x3 x4) (cnd (inb2 0 x4 (ssz x1)) (bnd (hz3 ((ssub x1 0 x4),(x3,((isub .i64 x2 1),())))) (fun r6=>(cnd (bnot r6.1.2.2.1) (some (((ItemT.mk false (bs []) ([]:List ItemT)),(0,(false,()))),())) (cnd (fits ((len x6.k)+(len (r6.1.1::([]:List ItemT)))) 3) (gz6 (x1,(x2,(r6.1.2.1,(x4,(x5,((ItemT.mk x6.l x6.s (app x6.k (r6.1.1::([]:List ItemT)))),()))))))) none)))) none) (some ((x6,(x4,(true,()))),())):=(FnD.eqC V jz8 hzM 17 (x1,(x2,(x3,(x4,(x5,(x6,()))))))).trans (by kernel_rfl)
theorem KzO:CallsOk Tryz.prog gls gvs 109 EzI:=FnD.ok (F:=hzM) (cs:=jz8) V_ok (kC IzZ kN) Tryz.func109 (by decide) (by kernel_rfl)
noncomputable def gzW:FnD:={f:=145,fn:=Tryz.f145,ps:=[pa .item,pa (.int .i64)],rs:=[rt .bool],cuts:=[(6,[.val 1 (.int .i64) .sh, .val 34 (.sl .item) .sh, .val 35 (.int .i64) .sh, .val 36 (.int .i64) .sh])]}
noncomputable def jz1:List (Nat×Sig):=[]
noncomputable def gzX:ItemT×Int×Unit→Option ((Bool×Unit)×Unit):=gzW.d V jz1
noncomputable abbrev xz8:Sig:=gzW.t.sig gzX
noncomputable def fzy:Int× (List ItemT)×Int×Int×Unit→Option ((Bool×Unit)×Unit):=gzW.D V jz1 6
theorem xzd (x1:ItemT) (x2:Int):gzX (x1,(x2,()))=cnd (bnot x1.l) (cnd (ile (ssz x1.s) 600) (some (((ieq (len x1.k) 0),()),())) (some ((false,()),()))) (cnd (sne x1.s (bs [])) (some ((false,()),())) (cnd (igt (len x1.k) 17) (some ((false,()),())) (cnd (ieq x2 0) (some ((false,()),())) (fzy (x2,(x1.k,((len x1.k),(0,())))))))):=(FnD.eq V jz1 gzW (x1,(x2,()))).trans (by kernel_rfl)
theorem uzZ (x1:Int) (x2:(List ItemT)) (x3:Int) (x4:Int):fzy (x1,(x2,(x3,(x4,()))))=cnd (ilt x4 x3) (cnd (inb x4 (len x2)) (bnd (gzX ((rd (ItemT.mk false (bs []) ([]:List ItemT)) x2 x4),((isub .i64 x1 1),()))) (fun r4=>(cnd (bnot r4.1.1) (some ((false,()),())) (fzy (x1,(x2,(x3,((iadd .i64 x4 1),())))))))) none) (some ((true,()),())):=(FnD.eqC V jz1 gzW 6 (x1,(x2,(x3,(x4,()))))).trans (by kernel_rfl)
theorem FzZ:CallsOk Tryz.prog gls gvs 145 xz8:=FnD.ok (F:=gzW) (cs:=jz1) V_ok kN Tryz.func145 (by decide) (by kernel_rfl)
noncomputable def szI:FnD:={f:=114,fn:=Tryz.f114,ps:=[pa .item],rs:=[rt .bool]}
noncomputable def xzr:List (Nat×Sig):=[(145,xz8)]
noncomputable def rz9:ItemT×Unit→Option ((Bool×Unit)×Unit):=szI.d V xzr
noncomputable abbrev Ezr:Sig:=szI.t.sig rz9
theorem MzI (x1:ItemT):rz9 (x1,())=bnd (gzX (x1,(4,()))) (fun r1=>(some ((r1.1.1,()),()))):=(FnD.eq V xzr szI (x1,())).trans (by kernel_rfl)
theorem KzP:CallsOk Tryz.prog gls gvs 114 Ezr:=FnD.ok (F:=szI) (cs:=xzr) V_ok (kC FzZ kN) Tryz.func114 (by decide) (by kernel_rfl)
noncomputable def izx:FnD:={f:=146,fn:=Tryz.f146,ps:=[pa (.int .i64),pa (.int .i64)],rs:=[rt .str]}
noncomputable def mz7:List (Nat×Sig):=[(110,pzl)]
noncomputable def cz5:Int×Int×Unit→Option ((ByteArray×Unit)×Unit):=izx.d V mz7
noncomputable abbrev szc:Sig:=izx.t.sig cz5
theorem Czq (x1:Int) (x2:Int):cz5 (x1,(x2,()))=cnd (ile x2 55) (some (((sof ((azx .u8 (iadd .i64 x1 x2))::([]:List Int))),()),())) (bnd (gzJ (x2,())) (fun r2=>(cnd (fits ((ssz (sof ((azx .u8 (iadd .i64 (iadd .i64 x1 55) (ssz r2.1.1)))::([]:List Int))))+(ssz r2.1.1)) 1) (some (((scat (sof ((azx .u8 (iadd .i64 (iadd .i64 x1 55) (ssz r2.1.1)))::([]:List Int))) r2.1.1),()),())) none))):=(FnD.eq V mz7 izx (x1,(x2,()))).trans (by kernel_rfl)
theorem szD:CallsOk Tryz.prog gls gvs 146 szc:=FnD.ok (F:=izx) (cs:=mz7) V_ok (kC uzx kN) Tryz.func146 (by decide) (by kernel_rfl)
noncomputable def ezd:FnD:={f:=115,fn:=Tryz.f115,ps:=[pa .item],rs:=[rt .str,rt .bool],joins:=[4],cuts:=[(4,[.box 1 .item .sh, .ptr 1 1 0])]}
noncomputable def fz4:List (Nat×Sig):=[(146,szc)]
noncomputable def mzr:ItemT×Unit→Option ((ByteArray×Bool×Unit)×Unit):=ezd.d V fz4
noncomputable abbrev BzN:Sig:=ezd.t.sig mzr
noncomputable def hzi:ItemT×Unit→Option ((ByteArray×Bool×Unit)×Unit):=ezd.D V fz4 4
theorem Czl (x1:ItemT):mzr (x1,())=cnd (bnot x1.l) (cnd (ieq (ssz x1.s) 1) (cnd (inb 0 (ssz x1.s)) (cnd (ilt (sat x1.s 0) 128) (some ((x1.s,(true,())),())) (hzi (x1,()))) none) (hzi (x1,()))) none:=(FnD.eq V fz4 ezd (x1,())).trans (by kernel_rfl)
theorem yzO (x1:ItemT):hzi (x1,())=bnd (cz5 (128,((ssz x1.s),()))) (fun r1=>(cnd (fits ((ssz r1.1.1)+(ssz x1.s)) 1) (some (((scat r1.1.1 x1.s),(true,())),())) none)):=(FnD.eqC V fz4 ezd 4 (x1,())).trans (by kernel_rfl)
theorem Bzy:CallsOk Tryz.prog gls gvs 115 BzN:=FnD.ok (F:=ezd) (cs:=fz4) V_ok (kC szD kN) Tryz.func115 (by decide) (by kernel_rfl)
end Go.Proofs.YtdfbhjpmdjmdaaaGreatDoor
