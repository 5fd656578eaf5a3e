/- What the functions come to: printed by program. Of no condition. -/
import Derived.Test.YthldgfkkgmpmlaaGreatDoorX1
set_option linter.unusedVariables false
set_option maxRecDepth 100000
namespace Go.Proofs.YthldgfkkgmpmlaaGreatDoor
open Go.TV
noncomputable def ozA:FnD:={f:=175,fn:=Tryz.f175,ps:=[pa .item],rs:=[rt .str,rt .bool]}
noncomputable def tzZ:List (Nat×Sig):=[(238,Izg),(239,yzj)]
noncomputable def dzR:ItemT×Unit→Option ((ByteArray×Bool×Unit)×Unit):=ozA.d V tzZ
noncomputable abbrev hzN:Sig:=ozA.t.sig dzR
theorem Kz0 (x1:ItemT):dzR (x1,())=bnd (vzS (x1,())) (fun r1=>(cnd (bnot r1.1.1) (some (czU,())) (bnd (lzB (x1,())) (fun r2=>(cnd (bnot r2.1.2.1) (some (czU,())) (cnd (igt (ssz r2.1.1) 900) (some (czU,())) (some ((r2.1.1,(true,())),())))))))):=(FnD.eq V tzZ ozA (x1,())).trans (by kernel_rfl)
theorem kzy:CallsOk Tryz.prog gls gvs 175 hzN:=FnD.ok (F:=ozA) (cs:=tzZ) V_ok (kC SzX (kC JzH kN)) Tryz.func175 (by decide) (by kernel_rfl)
noncomputable def hzv:FnD:={f:=307,fn:=Tryz.f307,ps:=[pa .item],rs:=[⟨.item,(.own 0 .sh),false⟩],al:=true,fz:=[1000021],cuts:=[(3,[.val 12 (.sl .item) .sh, .val 13 (.int .i64) .sh, .val 14 (.int .i64) .sh, .box 2 .item (.own 0 .sh), .box 3 .item (.own 0 .sh), .ptr 2 2 0, .ptr 3 3 0])]}
noncomputable def lzb:List (Nat×Sig):=[]
noncomputable def kzp:ItemT×Unit→Option ((ItemT×Unit)×Unit):=hzv.d V lzb
noncomputable abbrev Azd:Sig:=hzv.t.sig kzp
noncomputable def izV:(List ItemT)×Int×Int×ItemT×ItemT×Unit→Option ((ItemT×Unit)×Unit):=hzv.D V lzb 3
theorem Lzr (x1:ItemT):kzp (x1,())=izV (x1.k,((len x1.k),(0,((ItemT.mk false (bs []) ([]:List ItemT)),((ItemT.mk x1.l x1.s ([]:List ItemT)),()))))):=(FnD.eq V lzb hzv (x1,())).trans (by kernel_rfl)
theorem yzh (x1:(List ItemT)) (x2:Int) (x3:Int) (x4:ItemT) (x5:ItemT):izV (x1,(x2,(x3,(x4,(x5,())))))=cnd (ilt x3 x2) (cnd (inb x3 (len x1)) (bnd (kzp ((rd (ItemT.mk false (bs []) ([]:List ItemT)) x1 x3),())) (fun r5=>(cnd (fits ((len x5.k)+(len (r5.1.1::([]:List ItemT)))) 3) (izV (x1,(x2,((iadd .i64 x3 1),(x4,((ItemT.mk x5.l x5.s (app x5.k (r5.1.1::([]:List ItemT)))),())))))) none))) none) (some ((x5,()),())):=(FnD.eqC V lzb hzv 3 (x1,(x2,(x3,(x4,(x5,())))))).trans (by kernel_rfl)
theorem Lz3:CallsOk Tryz.prog gls gvs 307 Azd:=FnD.ok (F:=hzv) (cs:=lzb) V_ok kN Tryz.func307 (by decide) (by kernel_rfl)
noncomputable def rzF:FnD:={f:=242,fn:=Tryz.f242,ps:=[pa .item],rs:=[⟨.item,(.own 0 .sh),false⟩],al:=true}
noncomputable def xz1:List (Nat×Sig):=[(175,hzN),(307,Azd),(100,gzj)]
noncomputable def mz1:ItemT×Unit→Option ((ItemT×Unit)×Unit):=rzF.d V xz1
noncomputable abbrev Ez5:Sig:=rzF.t.sig mz1
theorem OzO (x1:ItemT):mz1 (x1,())=bnd (dzR (x1,())) (fun r1=>(cnd r1.1.2.1 (cnd (ile (ssz r1.1.1) 31) (bnd (kzp (x1,())) (fun r2=>(some ((r2.1.1,()),())))) (bnd (czi (r1.1.1,())) (fun r2=>(some (((ItemT.mk false r2.1.1 ([]:List ItemT)),()),()))))) (bnd (czi (r1.1.1,())) (fun r2=>(some (((ItemT.mk false r2.1.1 ([]:List ItemT)),()),())))))):=(FnD.eq V xz1 rzF (x1,())).trans (by kernel_rfl)
theorem OzT:CallsOk Tryz.prog gls gvs 242 Ez5:=FnD.ok (F:=rzF) (cs:=xz1) V_ok (kC kzy (kC Lz3 (kC izX kN))) Tryz.func242 (by decide) (by kernel_rfl)
noncomputable def hzh:FnD:={f:=243,fn:=Tryz.f243,ps:=[pa (.sl bzr),pa (.int .i64),pa (.int .i64)],rs:=[⟨(.sl bzr),(.own 0 .sh),false⟩],cuts:=[(3,[.val 1 (.int .i64) .sh, .val 2 (.int .i64) .sh, .val 7 (.sl bzr) (.own 0 .sh), .val 10 (.sl bzr) .sh, .val 11 (.int .i64) .sh, .val 12 (.int .i64) .sh])]}
noncomputable def kzB:List (Nat×Sig):=[(160,czZ)]
noncomputable def lzf:(List azl)×Int×Int×Unit→Option (((List azl)×Unit)×Unit):=hzh.d V kzB
noncomputable abbrev tzK:Sig:=hzh.t.sig lzf
noncomputable def fzx:Int×Int× (List azl)× (List azl)×Int×Int×Unit→Option (((List azl)×Unit)×Unit):=hzh.D V kzB 3
theorem Mzi (x1:(List azl)) (x2:Int) (x3:Int):lzf (x1,(x2,(x3,())))=fzx (x2,(x3,(([]:List azl),(x1,((len x1),(0,())))))):=(FnD.eq V kzB hzh (x1,(x2,(x3,())))).trans (by kernel_rfl)
theorem yzV (x1:Int) (x2:Int) (x3:(List azl)) (x4:(List azl)) (x5:Int) (x6:Int):fzx (x1,(x2,(x3,(x4,(x5,(x6,()))))))=cnd (ilt x6 x5) (cnd (inb x6 (len x4)) (bnd (bzQ ((rd bzd x4 x6).1,())) (fun r6=>(cnd (inb x1 (len r6.1.1)) (cnd (ieq (rd 0 r6.1.1 x1) x2) (cnd (fits ((len x3)+(len ((rd bzd x4 x6)::([]:List azl)))) 2) (fzx (x1,(x2,((app x3 ((rd bzd x4 x6)::([]:List azl))),(x4,(x5,((iadd .i64 x6 1),()))))))) none) (fzx (x1,(x2,(x3,(x4,(x5,((iadd .i64 x6 1),())))))))) none))) none) (some ((x3,()),())):=(FnD.eqC V kzB hzh 3 (x1,(x2,(x3,(x4,(x5,(x6,()))))))).trans (by kernel_rfl)
theorem zz4:CallsOk Tryz.prog gls gvs 243 tzK:=FnD.ok (F:=hzh) (cs:=kzB) V_ok (kC ezb kN) Tryz.func243 (by decide) (by kernel_rfl)
noncomputable def fz6:FnD:={f:=176,fn:=Tryz.f176,ps:=[pa (.sl bzr),pa (.int .i64)],rs:=[⟨.item,(.own 0 .sh),false⟩],al:=true,fz:=[1000076,1000075,1000072],cuts:=[(13,[.val 0 (.sl bzr) .sh, .val 1 (.int .i64) .sh, .val 64 (.int .i64) .sh, .box 4 .item (.own 0 .sh), .box 11 .item (.own 0 .sh), .ptr 4 4 0, .ptr 11 11 0])]}
noncomputable def izZ:List (Nat×Sig):=[(160,czZ),(240,ozt),(241,oz1),(242,Ez5),(243,tzK)]
noncomputable def czC:(List azl)×Int×Unit→Option ((ItemT×Unit)×Unit):=fz6.d V izZ
noncomputable abbrev qzn:Sig:=fz6.t.sig czC
noncomputable def ezQ:(List azl)×Int×Int×ItemT×ItemT×Unit→Option ((ItemT×Unit)×Unit):=fz6.D V izZ 13
theorem pzV (x1:(List azl)) (x2:Int):czC (x1,(x2,()))=cnd (ieq (len x1) 0) (some (((ItemT.mk false (bs []) ([]:List ItemT)),()),())) (cnd (inb 0 (len x1)) (bnd (bzQ ((rd bzd x1 0).1,())) (fun r2=>(cnd (inb2 x2 (len r2.1.1) (len r2.1.1)) (cnd (ieq (len x1) 1) (bnd (cz9 ((sub r2.1.1 x2 (len r2.1.1)),(true,()))) (fun r3=>(cnd (inb 0 (len x1)) (some (((ItemT.mk true (bs []) ((ItemT.mk false r3.1.1 ([]:List ItemT))::((ItemT.mk false (rd bzd x1 0).2.1 ([]:List ItemT))::([]:List ItemT)))),()),())) none))) (bnd (gzt (x1,(x2,()))) (fun r3=>(cnd (igt r3.1.1 0) (cnd (inb2 0 r3.1.1 (len (sub r2.1.1 x2 (len r2.1.1)))) (bnd (cz9 ((sub (sub r2.1.1 x2 (len r2.1.1)) 0 r3.1.1),(false,()))) (fun r4=>(bnd (czC (x1,((iadd .i64 x2 r3.1.1),()))) (fun r5=>(bnd (mz1 (r5.1.1,())) (fun r6=>(some (((ItemT.mk true (bs []) ((ItemT.mk false r4.1.1 ([]:List ItemT))::(r6.1.1::([]:List ItemT)))),()),())))))))) none) (ezQ (x1,(x2,(0,((ItemT.mk false (bs []) ([]:List ItemT)),((ItemT.mk true (bs []) ([]:List ItemT)),())))))))))) none))) none):=(FnD.eq V izZ fz6 (x1,(x2,()))).trans (by kernel_rfl)
theorem tzd (x1:(List azl)) (x2:Int) (x3:Int) (x4:ItemT) (x5:ItemT):ezQ (x1,(x2,(x3,(x4,(x5,())))))=cnd (ilt x3 16) (bnd (lzf (x1,(x2,(x3,())))) (fun r5=>(bnd (czC (r5.1.1,((iadd .i64 x2 1),()))) (fun r6=>(bnd (mz1 (r6.1.1,())) (fun r7=>(cnd (fits ((len x5.k)+(len (r7.1.1::([]:List ItemT)))) 3) (ezQ (x1,(x2,((iadd .i64 x3 1),(x4,((ItemT.mk x5.l x5.s (app x5.k (r7.1.1::([]:List ItemT)))),())))))) none))))))) (cnd (fits ((len x5.k)+(len ((ItemT.mk false (bs []) ([]:List ItemT))::([]:List ItemT)))) 3) (some (((ItemT.mk x5.l x5.s (app x5.k ((ItemT.mk false (bs []) ([]:List ItemT))::([]:List ItemT)))),()),())) none):=(FnD.eqC V izZ fz6 13 (x1,(x2,(x3,(x4,(x5,())))))).trans (by kernel_rfl)
theorem yzr:CallsOk Tryz.prog gls gvs 176 qzn:=FnD.ok (F:=fz6) (cs:=izZ) V_ok (kC ezb (kC uzS (kC uzM (kC OzT (kC zz4 kN))))) Tryz.func176 (by decide) (by kernel_rfl)
noncomputable def ozZ:FnD:={f:=104,fn:=Tryz.f104,ps:=[pa (.sl bzr)],rs:=[rt .str]}
noncomputable def uzf:List (Nat×Sig):=[(164,rzJ),(176,qzn),(175,hzN),(100,gzj)]
noncomputable def fzo:(List azl)×Unit→Option ((ByteArray×Unit)×Unit):=ozZ.d V uzf
noncomputable abbrev ozG:Sig:=ozZ.t.sig fzo
theorem Lz1 (x1:(List azl)):fzo (x1,())=bnd (jzY (x1,())) (fun r1=>(cnd (bnot r1.1.1) (some (((bs []),()),())) (bnd (czC (x1,(0,()))) (fun r2=>(bnd (dzR (r2.1.1,())) (fun r3=>(bnd (czi (r3.1.1,())) (fun r4=>(some ((r4.1.1,()),())))))))))):=(FnD.eq V uzf ozZ (x1,())).trans (by kernel_rfl)
theorem uzd:CallsOk Tryz.prog gls gvs 104 ozG:=FnD.ok (F:=ozZ) (cs:=uzf) V_ok (kC wzQ (kC yzr (kC kzy (kC izX kN)))) Tryz.func104 (by decide) (by kernel_rfl)
noncomputable def hzV:FnD:={f:=177,fn:=Tryz.f177,ps:=[pa azu],rs:=[rt .str]}
noncomputable def mzg:List (Nat×Sig):=[(228,rzw),(104,ozG),(175,hzN)]
noncomputable def ezO:azd×Unit→Option ((ByteArray×Unit)×Unit):=hzV.d V mzg
noncomputable abbrev szD:Sig:=hzV.t.sig ezO
theorem szZ (x1:azd):ezO (x1,())=bnd (hzj (x1.2.1,())) (fun r1=>(bnd (hzj (x1.2.2.1,())) (fun r2=>(bnd (fzo (x1.2.2.2.1,())) (fun r3=>(bnd (dzR ((ItemT.mk true (bs []) ((ItemT.mk false r1.1.1 ([]:List ItemT))::((ItemT.mk false r2.1.1 ([]:List ItemT))::((ItemT.mk false r3.1.1 ([]:List ItemT))::([]:List ItemT))))),())) (fun r4=>(some ((r4.1.1,()),()))))))))):=(FnD.eq V mzg hzV (x1,())).trans (by kernel_rfl)
theorem CzS:CallsOk Tryz.prog gls gvs 177 szD:=FnD.ok (F:=hzV) (cs:=mzg) V_ok (kC xzK (kC uzd (kC kzy kN))) Tryz.func177 (by decide) (by kernel_rfl)
noncomputable def fzH:FnD:={f:=105,fn:=Tryz.f105,ps:=[pa (.sl azu)],rs:=[⟨(.sl bzr),(.own 0 .sh),false⟩],cuts:=[(5,[.val 3 (.sl bzr) (.own 0 .sh), .val 9 (.sl azu) .sh, .val 10 (.int .i64) .sh, .val 11 (.int .i64) .sh])]}
noncomputable def izB:List (Nat×Sig):=[(99,ozJ),(177,szD)]
noncomputable def dz6:(List azd)×Unit→Option (((List azl)×Unit)×Unit):=fzH.d V izB
noncomputable abbrev pz5:Sig:=fzH.t.sig dz6
noncomputable def gzu:(List azl)× (List azd)×Int×Int×Unit→Option (((List azl)×Unit)×Unit):=fzH.D V izB 5
theorem yzv (x1:(List azd)):dz6 (x1,())=bnd (gzh (x1,())) (fun r1=>(cnd (bnot r1.1.1) (some ((([]:List azl),()),())) (gzu (([]:List azl),(x1,((len x1),(0,()))))))):=(FnD.eq V izB fzH (x1,())).trans (by kernel_rfl)
theorem jzG (x1:(List azl)) (x2:(List azd)) (x3:Int) (x4:Int):gzu (x1,(x2,(x3,(x4,()))))=cnd (ilt x4 x3) (cnd (inb x4 (len x2)) (bnd (ezO ((rd azg x2 x4),())) (fun r4=>(cnd (fits ((len x1)+(len (((rd azg x2 x4).1,(r4.1.1,()))::([]:List azl)))) 2) (gzu ((app x1 (((rd azg x2 x4).1,(r4.1.1,()))::([]:List azl))),(x2,(x3,((iadd .i64 x4 1),()))))) none))) none) (some ((x1,()),())):=(FnD.eqC V izB fzH 5 (x1,(x2,(x3,(x4,()))))).trans (by kernel_rfl)
theorem yz5:CallsOk Tryz.prog gls gvs 105 pz5:=FnD.ok (F:=fzH) (cs:=izB) V_ok (kC vzo (kC CzS kN)) Tryz.func105 (by decide) (by kernel_rfl)
noncomputable def rzD:FnD:={f:=266,fn:=Tryz.f266,ps:=[pa azJ],rs:=[rt .bool]}
noncomputable def xzq:List (Nat×Sig):=[(302,szd),(235,oz2)]
noncomputable def rzc:azn×Unit→Option ((Bool×Unit)×Unit):=rzD.d V xzq
noncomputable abbrev Ezt:Sig:=rzD.t.sig rzc
theorem Nz0 (x1:azn):rzc (x1,())=bnd (kza (x1,())) (fun r1=>(cnd r1.1.1 (bnd (gzo (1009,(x1,()))) (fun r2=>(some ((r2.1.1.2.2.1,()),())))) (some ((false,()),())))):=(FnD.eq V xzq rzD (x1,())).trans (by kernel_rfl)
theorem Pzd:CallsOk Tryz.prog gls gvs 266 Ezt:=FnD.ok (F:=rzD) (cs:=xzq) V_ok (kC wzT (kC uzA kN)) Tryz.func266 (by decide) (by kernel_rfl)
noncomputable def dzu:FnD:={f:=197,fn:=Tryz.f197,ps:=[pa azp],rs:=[rt .bool],cuts:=[(4,[.val 10 (.sl azJ) .sh, .val 11 (.int .i64) .sh, .val 12 (.int .i64) .sh])]}
noncomputable def ezP:List (Nat×Sig):=[(266,Ezt)]
noncomputable def hzP:azh×Unit→Option ((Bool×Unit)×Unit):=dzu.d V ezP
noncomputable abbrev szY:Sig:=dzu.t.sig hzP
noncomputable def ezc:(List azn)×Int×Int×Unit→Option ((Bool×Unit)×Unit):=dzu.D V ezP 4
theorem Dzg (x1:azh):hzP (x1,())=cnd (ine (len x1.1) 8) (some ((false,()),())) (ezc (x1.1,((len x1.1),(0,())))):=(FnD.eq V ezP dzu (x1,())).trans (by kernel_rfl)
theorem qzl (x1:(List azn)) (x2:Int) (x3:Int):ezc (x1,(x2,(x3,())))=cnd (ilt x3 x2) (cnd (inb x3 (len x1)) (cnd (rd fzy x1 x3).2.2.1 (some ((false,()),())) (bnd (rzc ((rd fzy x1 x3),())) (fun r3=>(cnd (bnot r3.1.1) (some ((false,()),())) (ezc (x1,(x2,((iadd .i64 x3 1),())))))))) none) (some ((true,()),())):=(FnD.eqC V ezP dzu 4 (x1,(x2,(x3,())))).trans (by kernel_rfl)
theorem CzO:CallsOk Tryz.prog gls gvs 197 szY:=FnD.ok (F:=dzu) (cs:=ezP) V_ok (kC Pzd kN) Tryz.func197 (by decide) (by kernel_rfl)
noncomputable def lzN:FnD:={f:=267,fn:=Tryz.f267,ps:=[pa azJ],rs:=[rt .str]}
noncomputable def qzi:List (Nat×Sig):=[(302,szd)]
noncomputable def lzn:azn×Unit→Option ((ByteArray×Unit)×Unit):=lzN.d V qzi
noncomputable abbrev zzc:Sig:=lzN.t.sig lzn
theorem JzW (x1:azn):lzn (x1,())=bnd (kza (x1,())) (fun r1=>(cnd (bnot r1.1.1) (some (((bs []),()),())) (cnd x1.2.2.1 (some (((bs [0,0,0]),()),())) (cnd (nn 8) (cnd (nz 2) (some (((sof ((azx .u8 (ishr .i64 (iadd .i64 x1.1 1) 8))::((azx .u8 (iadd .i64 x1.1 1))::((azx .u8 (irem x1.2.1 2))::([]:List Int))))),()),())) none) none)))):=(FnD.eq V qzi lzN (x1,())).trans (by kernel_rfl)
theorem Iz2:CallsOk Tryz.prog gls gvs 267 zzc:=FnD.ok (F:=lzN) (cs:=qzi) V_ok (kC wzT kN) Tryz.func267 (by decide) (by kernel_rfl)
noncomputable def hzJ:FnD:={f:=198,fn:=Tryz.f198,ps:=[pa azp],rs:=[⟨(.sl .str),(.own 0 .sh),false⟩],cuts:=[(3,[.val 3 (.sl .str) (.own 0 .sh), .val 7 (.sl azJ) .sh, .val 8 (.int .i64) .sh, .val 9 (.int .i64) .sh])]}
noncomputable def kzX:List (Nat×Sig):=[(267,zzc)]
noncomputable def nzX:azh×Unit→Option (((List ByteArray)×Unit)×Unit):=hzJ.d V kzX
noncomputable abbrev Bz5:Sig:=hzJ.t.sig nzX
noncomputable def lzM:(List ByteArray)× (List azn)×Int×Int×Unit→Option (((List ByteArray)×Unit)×Unit):=hzJ.D V kzX 3
theorem Kzp (x1:azh):nzX (x1,())=lzM (([]:List ByteArray),(x1.1,((len x1.1),(0,())))):=(FnD.eq V kzX hzJ (x1,())).trans (by kernel_rfl)
theorem yz8 (x1:(List ByteArray)) (x2:(List azn)) (x3:Int) (x4:Int):lzM (x1,(x2,(x3,(x4,()))))=cnd (ilt x4 x3) (cnd (inb x4 (len x2)) (bnd (lzn ((rd fzy x2 x4),())) (fun r4=>(cnd (fits ((len x1)+(len (r4.1.1::([]:List ByteArray)))) 1) (lzM ((app x1 (r4.1.1::([]:List ByteArray))),(x2,(x3,((iadd .i64 x4 1),()))))) none))) none) (some ((x1,()),())):=(FnD.eqC V kzX hzJ 3 (x1,(x2,(x3,(x4,()))))).trans (by kernel_rfl)
theorem LzQ:CallsOk Tryz.prog gls gvs 198 Bz5:=FnD.ok (F:=hzJ) (cs:=kzX) V_ok (kC Iz2 kN) Tryz.func198 (by decide) (by kernel_rfl)
noncomputable def fzg:FnD:={f:=126,fn:=Tryz.f126,ps:=[pa azp],rs:=[rt .str]}
noncomputable def iz7:List (Nat×Sig):=[(197,szY),(198,Bz5),(171,vzr)]
noncomputable def dzr:azh×Unit→Option ((ByteArray×Unit)×Unit):=fzg.d V iz7
noncomputable abbrev pzg:Sig:=fzg.t.sig dzr
theorem zzo (x1:azh):dzr (x1,())=bnd (hzP (x1,())) (fun r1=>(cnd (bnot r1.1.1) (some (((bs []),()),())) (bnd (nzX (x1,())) (fun r2=>(bnd (nzm (r2.1.1,())) (fun r3=>(some ((r3.1.1,()),())))))))):=(FnD.eq V iz7 fzg (x1,())).trans (by kernel_rfl)
theorem zzs:CallsOk Tryz.prog gls gvs 126 pzg:=FnD.ok (F:=fzg) (cs:=iz7) V_ok (kC CzO (kC LzQ (kC BzV kN))) Tryz.func126 (by decide) (by kernel_rfl)
noncomputable def izc:FnD:={f:=107,fn:=Tryz.f107,ps:=[pa (.sl azu),pa azp,pa azp,pa czS],rs:=[⟨(.sl .str),(.own 0 .sh),false⟩]}
noncomputable def mzo:List (Nat×Sig):=[(105,pz5),(104,ozG),(126,pzg),(170,tzX)]
noncomputable def ezS:(List azd)×azh×azh×azO×Unit→Option (((List ByteArray)×Unit)×Unit):=izc.d V mzo
noncomputable abbrev mzw:Sig:=izc.t.sig ezS
theorem Dzb (x1:(List azd)) (x2:azh) (x3:azh) (x4:azO):ezS (x1,(x2,(x3,(x4,()))))=bnd (dz6 (x1,())) (fun r4=>(bnd (fzo (r4.1.1,())) (fun r5=>(bnd (dzr (x2,())) (fun r6=>(bnd (dzr (x3,())) (fun r7=>(bnd (kzT (x4,())) (fun r8=>(some (((r5.1.1::(r6.1.1::(r7.1.1::(r8.1.1::([]:List ByteArray))))),()),()))))))))))):=(FnD.eq V mzo izc (x1,(x2,(x3,(x4,()))))).trans (by kernel_rfl)
theorem sz5:CallsOk Tryz.prog gls gvs 107 mzw:=FnD.ok (F:=izc) (cs:=mzo) V_ok (kC yz5 (kC uzd (kC zzs (kC zz7 kN)))) Tryz.func107 (by decide) (by kernel_rfl)
noncomputable def ozX:FnD:={f:=172,fn:=Tryz.f172,ps:=[pa bzY,pa (.int .i64),pa czS],rs:=[⟨(.sl .str),(.own 0 .sh),false⟩]}
noncomputable def tzp:List (Nat×Sig):=[(58,uzc),(61,jzc),(59,hzO),(107,mzw)]
noncomputable def ozI:azH×Int×azO×Unit→Option (((List ByteArray)×Unit)×Unit):=ozX.d V tzp
noncomputable abbrev Czt:Sig:=ozX.t.sig ozI
theorem Kzh (x1:azH) (x2:Int) (x3:azO):ozI (x1,(x2,(x3,())))=bnd (kzx ((iadd .i64 (imul .i64 4 x2) 1),())) (fun r3=>(bnd (dzs (x1,(x2,()))) (fun r4=>(bnd (bzF (x1,(r3.1.1,()))) (fun r5=>(bnd (bzF (x1,((iadd .i64 r3.1.1 1),()))) (fun r6=>(bnd (ezS (r4.1.1,(r5.1.1,(r6.1.1,(x3,()))))) (fun r7=>(some ((r7.1.1,()),()))))))))))):=(FnD.eq V tzp ozX (x1,(x2,(x3,())))).trans (by kernel_rfl)
theorem Mzm:CallsOk Tryz.prog gls gvs 172 Czt:=FnD.ok (F:=ozX) (cs:=tzp) V_ok (kC Bzu (kC pzm (kC nzw (kC sz5 kN)))) Tryz.func172 (by decide) (by kernel_rfl)
noncomputable def fzB:FnD:={f:=101,fn:=Tryz.f101,ps:=[pa bzY,pa (.int .i64)],rs:=[⟨(.sl czS),(.own 0 .sh),false⟩],joins:=[9],cuts:=[(9,[.val 5 (.sl czS) (.own 0 .sh), .val 7 (.int .i64) .sh, .val 11 (.int .i64) .sh, .val 12 (.int .i64) .sh, .box 2 bzY .sh, .box 6 czS .sh, .box 8 czS .sh, .ptr 2 2 0, .ptr 6 6 0, .ptr 8 8 0]),(4,[.val 5 (.sl czS) (.own 0 .sh), .val 11 (.int .i64) .sh, .val 12 (.int .i64) .sh, .box 2 bzY .sh, .box 6 czS .sh, .ptr 2 2 0, .ptr 6 6 0])]}
noncomputable def hzi:List (Nat×Sig):=[(56,lzq),(100,gzj),(169,Ezh),(170,tzX),(172,Czt),(171,vzr)]
noncomputable def rzT:azH×Int×Unit→Option (((List azO)×Unit)×Unit):=fzB.d V hzi
noncomputable abbrev Ezs:Sig:=fzB.t.sig rzT
noncomputable def ozV:(List azO)×Int×Int×Int×azH×azO×azO×Unit→Option (((List azO)×Unit)×Unit):=fzB.D V hzi 9
noncomputable def nzL:(List azO)×Int×Int×azH×azO×Unit→Option (((List azO)×Unit)×Unit):=fzB.D V hzi 4
theorem Pz4 (x1:azH) (x2:Int):rzT (x1,(x2,()))=bnd (dz2 ()) (fun r2=>(nzL (([]:List azO),((iadd .i64 x2 1),(0,(x1,(r2.1.1,()))))))):=(FnD.eq V hzi fzB (x1,(x2,()))).trans (by kernel_rfl)
theorem KzI (x1:(List azO)) (x2:Int) (x3:Int) (x4:Int) (x5:azH) (x6:azO) (x7:azO):ozV (x1,(x2,(x3,(x4,(x5,(x6,(x7,())))))))=bnd (ozI (x5,(x2,(x6,())))) (fun r7=>(bnd (nzm (r7.1.1,())) (fun r8=>(cnd (fits ((len x1)+(len ((x7.1,(x7.2.1,(r8.1.1,x7.2.2.2)))::([]:List azO)))) 4) (nzL ((app x1 ((x7.1,(x7.2.1,(r8.1.1,x7.2.2.2)))::([]:List azO))),(x3,((iadd .i64 x4 1),(x5,((x7.1,(x7.2.1,(r8.1.1,x7.2.2.2))),())))))) none)))):=(FnD.eqC V hzi fzB 9 (x1,(x2,(x3,(x4,(x5,(x6,(x7,())))))))).trans (by kernel_rfl)
theorem tzM (x1:(List azO)) (x2:Int) (x3:Int) (x4:azH) (x5:azO):nzL (x1,(x2,(x3,(x4,(x5,())))))=cnd (ilt x3 x2) (bnd (czi ((bs []),())) (fun r5=>(bnd (rzW (x3,())) (fun r6=>(bnd (czi (r6.1.1,())) (fun r7=>(cnd (igt x3 0) (bnd (kzT (x5,())) (fun r8=>(ozV (x1,(x3,(x2,(x3,(x4,(x5,(((iadd .i64 (imul .i64 4 x3) 1),(r8.1.1,((bs []),(r7.1.1,())))),())))))))))) (ozV (x1,(x3,(x2,(x3,(x4,(x5,(((iadd .i64 (imul .i64 4 x3) 1),(r5.1.1,((bs []),(r7.1.1,())))),()))))))))))))))) (some ((x1,()),())):=(FnD.eqC V hzi fzB 4 (x1,(x2,(x3,(x4,(x5,())))))).trans (by kernel_rfl)
theorem Ozs:CallsOk Tryz.prog gls gvs 101 Ezs:=FnD.ok (F:=fzB) (cs:=hzi) V_ok (kC pzC (kC izX (kC PzG (kC zz7 (kC Mzm (kC BzV kN)))))) Tryz.func101 (by decide) (by kernel_rfl)
noncomputable def lzO:FnD:={f:=57,fn:=Tryz.f57,ps:=[pa bzY,pa (.int .i64)],rs:=[rt czS]}
noncomputable def qzj:List (Nat×Sig):=[(54,Bzb),(55,xzH),(56,lzq),(101,Ezs)]
noncomputable def lzU:azH×Int×Unit→Option ((azO×Unit)×Unit):=lzO.d V qzj
noncomputable abbrev yzi:Sig:=lzO.t.sig lzU
theorem Hzk (x1:azH) (x2:Int):lzU (x1,(x2,()))=bnd (pzH (x2,())) (fun r2=>(cnd (bnot r2.1.1) (bnd (dz2 ()) (fun r3=>(some ((r3.1.1,()),())))) (bnd (nzn (x1,())) (fun r3=>(cnd (bnot r3.1.1) (bnd (dz2 ()) (fun r4=>(some ((r4.1.1,()),())))) (bnd (rzT (x1,(x2,()))) (fun r4=>(cnd (inb x2 (len r4.1.1)) (some (((rd Hz4 r4.1.1 x2),()),())) none)))))))):=(FnD.eq V qzj lzO (x1,(x2,()))).trans (by kernel_rfl)
theorem IzW:CallsOk Tryz.prog gls gvs 57 yzi:=FnD.ok (F:=lzO) (cs:=qzj) V_ok (kC Iz7 (kC DzF (kC pzC (kC Ozs kN)))) Tryz.func57 (by decide) (by kernel_rfl)
noncomputable def hzl:FnD:={f:=106,fn:=Tryz.f106,ps:=[pa (.sl .str),pa (.int .i64)],rs:=[⟨(.sl .str),(.own 0 .sh),false⟩],cuts:=[(6,[.val 1 (.int .i64) .sh, .val 5 (.sl .str) (.own 0 .sh), .val 28 (.sl (.sl .str)) (.own 0 .sh), .val 29 (.int .i64) .sh, .val 30 (.int .i64) .sh])]}
noncomputable def kzW:List (Nat×Sig):=[(178,kzK)]
noncomputable def kzF:(List ByteArray)×Int×Unit→Option (((List ByteArray)×Unit)×Unit):=hzl.d V kzW
noncomputable abbrev Az0:Sig:=hzl.t.sig kzF
noncomputable def pzU:Int× (List ByteArray)× (List (List ByteArray))×Int×Int×Unit→Option (((List ByteArray)×Unit)×Unit):=hzl.D V kzW 6
theorem Lzy (x1:(List ByteArray)) (x2:Int):kzF (x1,(x2,()))=cnd (igt (len x1) 32) (some ((([]:List ByteArray),()),())) (cnd (ilt x2 0) (some ((([]:List ByteArray),()),())) (cnd (ige x2 (len x1)) (some ((([]:List ByteArray),()),())) (bnd (dzU (x1,())) (fun r2=>(cnd (inb2 0 (isub .i64 (len r2.1.1) 1) (len r2.1.1)) (pzU (x2,(([]:List ByteArray),((sub r2.1.1 0 (isub .i64 (len r2.1.1) 1)),((len (sub r2.1.1 0 (isub .i64 (len r2.1.1) 1))),(0,())))))) none))))):=(FnD.eq V kzW hzl (x1,(x2,()))).trans (by kernel_rfl)
theorem qza (x1:Int) (x2:(List ByteArray)) (x3:(List (List ByteArray))) (x4:Int) (x5:Int):pzU (x1,(x2,(x3,(x4,(x5,())))))=cnd (ilt x5 x4) (cnd (inb x5 (len x3)) (cnd (inb (ixor .i64 x1 1) (len (rd ([]:List ByteArray) x3 x5))) (cnd (fits ((len x2)+(len ((rd (bs []) (rd ([]:List ByteArray) x3 x5) (ixor .i64 x1 1))::([]:List ByteArray)))) 1) (cnd (nz 2) (pzU ((iquo .i64 x1 2),((app x2 ((rd (bs []) (rd ([]:List ByteArray) x3 x5) (ixor .i64 x1 1))::([]:List ByteArray))),(x3,(x4,((iadd .i64 x5 1),())))))) none) none) none) none) (some ((x2,()),())):=(FnD.eqC V kzW hzl 6 (x1,(x2,(x3,(x4,(x5,())))))).trans (by kernel_rfl)
theorem Mzy:CallsOk Tryz.prog gls gvs 106 Az0:=FnD.ok (F:=hzl) (cs:=kzW) V_ok (kC qzU kN) Tryz.func106 (by decide) (by kernel_rfl)
noncomputable def fzU:FnD:={f:=179,fn:=Tryz.f179,ps:=[⟨(.sl .str),(.own 0 .sh),false,false,none⟩,pa (.sl bzr),pa (.sl (.int .i64)),pa (.int .i64),pa .bool],rs:=[⟨(.sl .str),(.own 0 .sh),false⟩],joins:=[4],fz:=[1000059],cuts:=[(4,[.val 0 (.sl .str) (.own 0 .sh), .val 1 (.sl bzr) .sh, .val 2 (.sl (.int .i64)) .sh, .val 3 (.int .i64) .sh])]}
noncomputable def izK:List (Nat×Sig):=[(176,qzn),(175,hzN),(241,oz1),(243,tzK),(160,czZ),(244,wzb)]
noncomputable def dzY:(List ByteArray)× (List azl)× (List Int)×Int×Bool×Unit→Option (((List ByteArray)×Unit)×Unit):=fzU.d V izK
noncomputable abbrev yzN:Sig:=fzU.t.sig dzY
noncomputable def cz3:(List ByteArray)× (List azl)× (List Int)×Int×Unit→Option (((List ByteArray)×Unit)×Unit):=fzU.D V izK 4
theorem HzB (x1:(List ByteArray)) (x2:(List azl)) (x3:(List Int)) (x4:Int) (x5:Bool):dzY (x1,(x2,(x3,(x4,(x5,())))))=bnd (czC (x2,(x4,()))) (fun r5=>(bnd (dzR (r5.1.1,())) (fun r6=>(cnd x5 (cnd (fits ((len x1)+(len (r6.1.1::([]:List ByteArray)))) 1) (cz3 ((app x1 (r6.1.1::([]:List ByteArray))),(x2,(x3,(x4,()))))) none) (cnd (igt (ssz r6.1.1) 31) (cnd (fits ((len x1)+(len (r6.1.1::([]:List ByteArray)))) 1) (cz3 ((app x1 (r6.1.1::([]:List ByteArray))),(x2,(x3,(x4,()))))) none) (cz3 (x1,(x2,(x3,(x4,())))))))))):=(FnD.eq V izK fzU (x1,(x2,(x3,(x4,(x5,())))))).trans (by kernel_rfl)
theorem Gza (x1:(List ByteArray)) (x2:(List azl)) (x3:(List Int)) (x4:Int):cz3 (x1,(x2,(x3,(x4,()))))=cnd (ilt (len x2) 2) (some ((x1,()),())) (bnd (gzt (x2,(x4,()))) (fun r4=>(cnd (ieq r4.1.1 0) (cnd (inb x4 (len x3)) (bnd (lzf (x2,(x4,((rd 0 x3 x4),())))) (fun r5=>(bnd (dzY (x1,(r5.1.1,(x3,((iadd .i64 x4 1),(false,())))))) (fun r6=>(some ((r6.1.1,()),())))))) none) (cnd (inb2 x4 (len x3) (len x3)) (cnd (inb 0 (len x2)) (bnd (bzQ ((rd bzd x2 0).1,())) (fun r5=>(cnd (inb2 x4 (len r5.1.1) (len r5.1.1)) (bnd (nzr ((sub x3 x4 (len x3)),((sub r5.1.1 x4 (len r5.1.1)),()))) (fun r6=>(cnd (ilt r6.1.1 r4.1.1) (some ((x1,()),())) (bnd (dzY (x1,(x2,(x3,((iadd .i64 x4 r4.1.1),(false,())))))) (fun r7=>(some ((r7.1.1,()),()))))))) none))) none) none)))):=(FnD.eqC V izK fzU 4 (x1,(x2,(x3,(x4,()))))).trans (by kernel_rfl)
theorem Iz1:CallsOk Tryz.prog gls gvs 179 yzN:=FnD.ok (F:=fzU) (cs:=izK) V_ok (kC yzr (kC kzy (kC uzM (kC zz4 (kC ezb (kC zzY kN)))))) Tryz.func179 (by decide) (by kernel_rfl)
noncomputable def lzK:FnD:={f:=108,fn:=Tryz.f108,ps:=[pa (.sl bzr),pa .str],rs:=[⟨(.sl .str),(.own 0 .sh),false⟩]}
noncomputable def qz3:List (Nat×Sig):=[(164,rzJ),(160,czZ),(179,yzN)]
noncomputable def izN:(List azl)×ByteArray×Unit→Option (((List ByteArray)×Unit)×Unit):=lzK.d V qz3
noncomputable abbrev yz2:Sig:=lzK.t.sig izN
theorem Iz8 (x1:(List azl)) (x2:ByteArray):izN (x1,(x2,()))=cnd (ine (ssz x2) 4) (some ((([]:List ByteArray),()),())) (bnd (jzY (x1,())) (fun r2=>(cnd (bnot r2.1.1) (some ((([]:List ByteArray),()),())) (bnd (bzQ (x2,())) (fun r3=>(bnd (dzY (([]:List ByteArray),(x1,(r3.1.1,(0,(true,())))))) (fun r4=>(some ((r4.1.1,()),()))))))))):=(FnD.eq V qz3 lzK (x1,(x2,()))).trans (by kernel_rfl)
theorem Izl:CallsOk Tryz.prog gls gvs 108 yz2:=FnD.ok (F:=lzK) (cs:=qz3) V_ok (kC wzQ (kC ezb (kC Iz1 kN))) Tryz.func108 (by decide) (by kernel_rfl)
noncomputable def jzP:FnD:={f:=26,fn:=Tryz.f26,ps:=[pa (.sl azu),pa .str],rs:=[rt (.sl bzr),rt .bool],al:=true,cuts:=[(2,[.val 1 .str .sh, .val 8 (.sl azu) .sh, .val 9 (.int .i64) .sh, .val 10 (.int .i64) .sh])]}
noncomputable def mzS:List (Nat×Sig):=[]
noncomputable def jz5:(List azd)×ByteArray×Unit→Option (((List azl)×Bool×Unit)×Unit):=jzP.d V mzS
noncomputable abbrev xzJ:Sig:=jzP.t.sig jz5
noncomputable def ozE:ByteArray× (List azd)×Int×Int×Unit→Option (((List azl)×Bool×Unit)×Unit):=jzP.D V mzS 2
theorem PzB (x1:(List azd)) (x2:ByteArray):jz5 (x1,(x2,()))=ozE (x2,(x1,((len x1),(0,())))):=(FnD.eq V mzS jzP (x1,(x2,()))).trans (by kernel_rfl)
theorem Azn (x1:ByteArray) (x2:(List azd)) (x3:Int) (x4:Int):ozE (x1,(x2,(x3,(x4,()))))=cnd (ilt x4 x3) (cnd (inb x4 (len x2)) (cnd (seq (rd azg x2 x4).1 x1) (some (((rd azg x2 x4).2.2.2.1,(true,())),())) (ozE (x1,(x2,(x3,((iadd .i64 x4 1),())))))) none) (some ((([]:List azl),(false,())),())):=(FnD.eqC V mzS jzP 2 (x1,(x2,(x3,(x4,()))))).trans (by kernel_rfl)
theorem Dzs:CallsOk Tryz.prog gls gvs 26 xzJ:=FnD.ok (F:=jzP) (cs:=mzS) V_ok kN Tryz.func26 (by decide) (by kernel_rfl)
noncomputable def qz7:FnD:={f:=60,fn:=Tryz.f60,ps:=[pa (.sl azu),pa azp,pa azp,pa czS,pa .str,pa .str],rs:=[⟨TAsk,(.pr .sh (.pr .sh (.pr .sh (.pr (.own 0 .sh) (.pr (.own 0 .sh) (.pr (.own 0 .sh) .sh)))))),false⟩]}
noncomputable def xzi:List (Nat×Sig):=[(105,pz5),(104,ozG),(107,mzw),(106,Az0),(108,yz2),(26,xzJ)]
noncomputable def jz0:(List azd)×azh×azh×azO×ByteArray×ByteArray×Unit→Option ((tAsk×Unit)×Unit):=qz7.d V xzi
noncomputable abbrev EzK:Sig:=qz7.t.sig jz0
theorem EzJ (x1:(List azd)) (x2:azh) (x3:azh) (x4:azO) (x5:ByteArray) (x6:ByteArray):jz0 (x1,(x2,(x3,(x4,(x5,(x6,()))))))=bnd (dz6 (x1,())) (fun r6=>(bnd (fzo (r6.1.1,())) (fun r7=>(bnd (ezS (x1,(x2,(x3,(x4,()))))) (fun r8=>(bnd (kzF (r8.1.1,(0,()))) (fun r9=>(bnd (dz6 (x1,())) (fun r10=>(bnd (izN (r10.1.1,(x5,()))) (fun r11=>(bnd (jz5 (x1,(x5,()))) (fun r12=>(cnd r12.1.2.1 (bnd (izN (r12.1.1,(x6,()))) (fun r13=>(some (((x5,(x6,(r7.1.1,(r9.1.1,(r11.1.1,(r13.1.1,())))))),()),())))) (some (((x5,(x6,(r7.1.1,(r9.1.1,(r11.1.1,(([]:List ByteArray),())))))),()),())))))))))))))))):=(FnD.eq V xzi qz7 (x1,(x2,(x3,(x4,(x5,(x6,()))))))).trans (by kernel_rfl)
theorem PzF:CallsOk Tryz.prog gls gvs 60 EzK:=FnD.ok (F:=qz7) (cs:=xzi) V_ok (kC yz5 (kC uzd (kC sz5 (kC Mzy (kC Izl (kC Dzs kN)))))) Tryz.func60 (by decide) (by kernel_rfl)
noncomputable def hzy:FnD:={f:=25,fn:=Tryz.f25,ps:=[pa bzY,pa (.int .i64),pa .str,pa .str],rs:=[⟨TAsk,(.pr .sh (.pr .sh (.pr .sh (.pr (.own 0 .sh) (.pr (.own 0 .sh) (.pr (.own 0 .sh) .sh)))))),false⟩],joins:=[6],cuts:=[(6,[.val 1 (.int .i64) .sh, .val 2 .str .sh, .val 3 .str .sh, .box 4 bzY .sh, .box 8 TAsk (.pr .sh (.pr .sh (.pr .sh (.pr (.own 0 .sh) (.pr (.own 0 .sh) (.pr (.own 0 .sh) .sh)))))), .box 9 czS .sh, .ptr 4 4 0, .ptr 8 8 0, .ptr 9 9 0])]}
noncomputable def lzd:List (Nat×Sig):=[(54,Bzb),(55,xzH),(56,lzq),(57,yzi),(58,uzc),(59,hzO),(61,jzc),(60,EzK)]
noncomputable def nzR:azH×Int×ByteArray×ByteArray×Unit→Option ((tAsk×Unit)×Unit):=hzy.d V lzd
noncomputable abbrev BzM:Sig:=hzy.t.sig nzR
noncomputable def fzS:Int×ByteArray×ByteArray×azH×tAsk×azO×Unit→Option ((tAsk×Unit)×Unit):=hzy.D V lzd 6
theorem Mzr (x1:azH) (x2:Int) (x3:ByteArray) (x4:ByteArray):nzR (x1,(x2,(x3,(x4,()))))=bnd (pzH (x2,())) (fun r4=>(cnd (bnot r4.1.1) (some ((zAsk,()),())) (bnd (nzn (x1,())) (fun r5=>(cnd (bnot r5.1.1) (some ((zAsk,()),())) (bnd (dz2 ()) (fun r6=>(cnd (igt x2 0) (bnd (lzU (x1,((isub .i64 x2 1),()))) (fun r7=>(fzS (x2,(x3,(x4,(x1,(zAsk,(r7.1.1,()))))))))) (fzS (x2,(x3,(x4,(x1,(zAsk,(r6.1.1,()))))))))))))))):=(FnD.eq V lzd hzy (x1,(x2,(x3,(x4,()))))).trans (by kernel_rfl)
theorem Izt (x1:Int) (x2:ByteArray) (x3:ByteArray) (x4:azH) (x5:tAsk) (x6:azO):fzS (x1,(x2,(x3,(x4,(x5,(x6,()))))))=bnd (kzx ((iadd .i64 (imul .i64 4 x1) 1),())) (fun r6=>(bnd (bzF (x4,(r6.1.1,()))) (fun r7=>(bnd (bzF (x4,((iadd .i64 r6.1.1 1),()))) (fun r8=>(bnd (dzs (x4,(x1,()))) (fun r9=>(bnd (jz0 (r9.1.1,(r7.1.1,(r8.1.1,(x6,(x2,(x3,()))))))) (fun r10=>(some ((r10.1.1,()),()))))))))))):=(FnD.eqC V lzd hzy 6 (x1,(x2,(x3,(x4,(x5,(x6,()))))))).trans (by kernel_rfl)
theorem Lze:CallsOk Tryz.prog gls gvs 25 BzM:=FnD.ok (F:=hzy) (cs:=lzd) V_ok (kC Iz7 (kC DzF (kC pzC (kC IzW (kC Bzu (kC nzw (kC pzm (kC PzF kN)))))))) Tryz.func25 (by decide) (by kernel_rfl)
noncomputable def ezE:FnD:={f:=96,fn:=Tryz.f96,ps:=[pa .str,pa (.int .i64),pa (.sl .str)],rs:=[rt .str],cuts:=[(5,[.val 1 (.int .i64) .sh, .val 7 .str .sh, .val 27 (.sl .str) .sh, .val 28 (.int .i64) .sh, .val 29 (.int .i64) .sh])]}
noncomputable def gzD:List (Nat×Sig):=[(100,gzj),(159,ozQ)]
noncomputable def jzn:ByteArray×Int× (List ByteArray)×Unit→Option ((ByteArray×Unit)×Unit):=ezE.d V gzD
noncomputable abbrev wzt:Sig:=ezE.t.sig jzn
noncomputable def hzS:Int×ByteArray× (List ByteArray)×Int×Int×Unit→Option ((ByteArray×Unit)×Unit):=ezE.D V gzD 5
theorem Fzx (x1:ByteArray) (x2:Int) (x3:(List ByteArray)):jzn (x1,(x2,(x3,())))=cnd (igt (len x3) 5) (some (((bs []),()),())) (cnd (ilt x2 0) (some (((bs []),()),())) (cnd (nn (azx .u64 (len x3))) (cnd (ige x2 (ishl .i64 1 (azx .u64 (len x3)))) (some (((bs []),()),())) (bnd (czi (x1,())) (fun r3=>(hzS (x2,(r3.1.1,(x3,((len x3),(0,()))))))))) none)):=(FnD.eq V gzD ezE (x1,(x2,(x3,())))).trans (by kernel_rfl)
theorem mzs (x1:Int) (x2:ByteArray) (x3:(List ByteArray)) (x4:Int) (x5:Int):hzS (x1,(x2,(x3,(x4,(x5,())))))=cnd (ilt x5 x4) (cnd (inb x5 (len x3)) (cnd (nn (azx .u64 x5)) (cnd (ieq (iand .i64 (ishr .i64 x1 (azx .u64 x5)) 1) 1) (bnd (ezC ((rd (bs []) x3 x5),(x2,()))) (fun r5=>(hzS (x1,(r5.1.1,(x3,(x4,((iadd .i64 x5 1),())))))))) (bnd (ezC (x2,((rd (bs []) x3 x5),()))) (fun r5=>(hzS (x1,(r5.1.1,(x3,(x4,((iadd .i64 x5 1),()))))))))) none) none) (some ((x2,()),())):=(FnD.eqC V gzD ezE 5 (x1,(x2,(x3,(x4,(x5,())))))).trans (by kernel_rfl)
theorem Fzv:CallsOk Tryz.prog gls gvs 96 wzt:=FnD.ok (F:=ezE) (cs:=gzD) V_ok (kC izX (kC wzu kN)) Tryz.func96 (by decide) (by kernel_rfl)
noncomputable def jzO:FnD:={f:=163,fn:=Tryz.f163,ps:=[pa .str],rs:=[rt (.int .i64),rt .bool],cuts:=[(5,[.val 0 .str .sh, .val 4 (.int .i64) .sh, .val 5 (.int .i64) .sh])]}
noncomputable def mzA:List (Nat×Sig):=[(228,rzw)]
noncomputable def jz6:ByteArray×Unit→Option ((Int×Bool×Unit)×Unit):=jzO.d V mzA
noncomputable abbrev xzU:Sig:=jzO.t.sig jz6
noncomputable def hzF:ByteArray×Int×Int×Unit→Option ((Int×Bool×Unit)×Unit):=jzO.D V mzA 5
theorem OzW (x1:ByteArray):jz6 (x1,())=cnd (igt (ssz x1) 4) (some ((0,(false,())),())) (hzF (x1,zTwo)):=(FnD.eq V mzA jzO (x1,())).trans (by kernel_rfl)
theorem Bz0 (x1:ByteArray) (x2:Int) (x3:Int):hzF (x1,(x2,(x3,())))=cnd (ilt x3 (ssz x1)) (cnd (nn 8) (cnd (inb x3 (ssz x1)) (hzF (x1,((ior .i64 (ishl .i64 x2 8) (azx .i64 (sat x1 x3))),((iadd .i64 x3 1),())))) none) none) (cnd (igt x2 1000000000) (some ((0,(false,())),())) (bnd (hzj (x2,())) (fun r3=>(cnd (sne r3.1.1 x1) (some ((0,(false,())),())) (some ((x2,(true,())),())))))):=(FnD.eqC V mzA jzO 5 (x1,(x2,(x3,())))).trans (by kernel_rfl)
theorem DzI:CallsOk Tryz.prog gls gvs 163 xzU:=FnD.ok (F:=jzO) (cs:=mzA) V_ok (kC xzK kN) Tryz.func163 (by decide) (by kernel_rfl)
noncomputable def rz4:FnD:={f:=292,fn:=Tryz.f292,ps:=[pa .str,pa (.int .i64),pa (.int .i64)],rs:=[rt (.int .i64),rt (.int .i64),rt .bool]}
noncomputable def wz8:List (Nat×Sig):=[(163,xzU)]
noncomputable def nzk:ByteArray×Int×Int×Unit→Option ((Int×Int×Bool×Unit)×Unit):=rz4.d V wz8
noncomputable abbrev DzA:Sig:=rz4.t.sig nzk
theorem EzT (x1:ByteArray) (x2:Int) (x3:Int):nzk (x1,(x2,(x3,())))=cnd (inb x2 (ssz x1)) (cnd (ile (isub .i64 (azx .i64 (sat x1 x2)) x3) 55) (some (((iadd .i64 x2 1),((isub .i64 (azx .i64 (sat x1 x2)) x3),(true,()))),())) (cnd (igt (isub .i64 (isub .i64 (azx .i64 (sat x1 x2)) x3) 55) (isub .i64 (isub .i64 (ssz x1) x2) 1)) (some (fzy,())) (cnd (inb2 (iadd .i64 x2 1) (iadd .i64 (iadd .i64 x2 1) (isub .i64 (isub .i64 (azx .i64 (sat x1 x2)) x3) 55)) (ssz x1)) (bnd (jz6 ((ssub x1 (iadd .i64 x2 1) (iadd .i64 (iadd .i64 x2 1) (isub .i64 (isub .i64 (azx .i64 (sat x1 x2)) x3) 55))),())) (fun r3=>(some (((iadd .i64 (iadd .i64 x2 1) (isub .i64 (isub .i64 (azx .i64 (sat x1 x2)) x3) 55)),(r3.1.1,(r3.1.2.1,()))),())))) none))) none:=(FnD.eq V wz8 rz4 (x1,(x2,(x3,())))).trans (by kernel_rfl)
theorem Nz6:CallsOk Tryz.prog gls gvs 292 DzA:=FnD.ok (F:=rz4) (cs:=wz8) V_ok (kC DzI kN) Tryz.func292 (by decide) (by kernel_rfl)
noncomputable def izn:FnD:={f:=227,fn:=Tryz.f227,ps:=[pa .str,pa (.int .i64),pa (.int .i64)],rs:=[⟨.item,(.own 0 .sh),false⟩,rt (.int .i64),rt .bool],al:=true,joins:=[8],cuts:=[(8,[.val 0 .str .sh, .val 1 (.int .i64) .sh, .val 2 (.int .i64) .sh, .val 9 (.int .i64) .sh, .box 6 .item (.own 0 .sh), .ptr 6 6 0]),(17,[.val 0 .str .sh, .val 2 (.int .i64) .sh, .val 10 (.int .i64) .sh, .val 13 (.int .i64) .sh, .box 6 .item (.own 0 .sh), .box 14 .item (.own 0 .sh), .ptr 6 6 0, .ptr 14 14 0])]}
noncomputable def kz6:List (Nat×Sig):=[(292,DzA)]
noncomputable def izY:ByteArray×Int×Int×Unit→Option ((ItemT×Int×Bool×Unit)×Unit):=izn.d V kz6
noncomputable abbrev JzO:Sig:=izn.t.sig izY
noncomputable def hzs:ByteArray×Int×Int×Int×ItemT×Unit→Option ((ItemT×Int×Bool×Unit)×Unit):=izn.D V kz6 8
noncomputable def gz9:ByteArray×Int×Int×Int×ItemT×ItemT×Unit→Option ((ItemT×Int×Bool×Unit)×Unit):=izn.D V kz6 17
theorem vz3 (x1:ByteArray) (x2:Int) (x3:Int):izY (x1,(x2,(x3,())))=cnd (ige x2 (ssz x1)) (some (((ItemT.mk false (bs []) ([]:List ItemT)),(0,(false,()))),())) (cnd (inb x2 (ssz x1)) (cnd (ilt (sat x1 x2) 128) (cnd (inb2 x2 (iadd .i64 x2 1) (ssz x1)) (some (((ItemT.mk false (ssub x1 x2 (iadd .i64 x2 1)) ([]:List ItemT)),((iadd .i64 x2 1),(true,()))),())) none) (cnd (inb x2 (ssz x1)) (cnd (ige (sat x1 x2) 192) (hzs (x1,(x2,(x3,(192,((ItemT.mk false (bs []) ([]:List ItemT)),())))))) (hzs (x1,(x2,(x3,(128,((ItemT.mk false (bs []) ([]:List ItemT)),()))))))) none)) none):=(FnD.eq V kz6 izn (x1,(x2,(x3,())))).trans (by kernel_rfl)
theorem szi (x1:ByteArray) (x2:Int) (x3:Int) (x4:Int) (x5:ItemT):hzs (x1,(x2,(x3,(x4,(x5,())))))=bnd (nzk (x1,(x2,(x4,())))) (fun r5=>(cnd (bnot r5.1.2.2.1) (some (((ItemT.mk false (bs []) ([]:List ItemT)),(0,(false,()))),())) (cnd (igt r5.1.2.1 (isub .i64 (ssz x1) r5.1.1)) (some (((ItemT.mk false (bs []) ([]:List ItemT)),(0,(false,()))),())) (cnd (ieq x4 128) (cnd (inb2 r5.1.1 (iadd .i64 r5.1.1 r5.1.2.1) (ssz x1)) (some (((ItemT.mk false (ssub x1 r5.1.1 (iadd .i64 r5.1.1 r5.1.2.1)) ([]:List ItemT)),((iadd .i64 r5.1.1 r5.1.2.1),(true,()))),())) none) (cnd (ieq x3 0) (some (((ItemT.mk false (bs []) ([]:List ItemT)),(0,(false,()))),())) (gz9 (x1,(x3,(r5.1.1,((iadd .i64 r5.1.1 r5.1.2.1),(x5,((ItemT.mk true (bs []) ([]:List ItemT)),())))))))))))):=(FnD.eqC V kz6 izn 8 (x1,(x2,(x3,(x4,(x5,())))))).trans (by kernel_rfl)
theorem ozK (x1:ByteArray) (x2:Int) (x3:Int) (x4:Int) (x5:ItemT) (x6:ItemT):gz9 (x1,(x2,(x3,(x4,(x5,(x6,()))))))=cnd (ilt x3 x4) (cnd (inb2 0 x4 (ssz x1)) (bnd (izY ((ssub x1 0 x4),(x3,((isub .i64 x2 1),())))) (fun r6=>(cnd (bnot r6.1.2.2.1) (some (((ItemT.mk false (bs []) ([]:List ItemT)),(0,(false,()))),())) (cnd (fits ((len x6.k)+(len (r6.1.1::([]:List ItemT)))) 3) (gz9 (x1,(x2,(r6.1.2.1,(x4,(x5,((ItemT.mk x6.l x6.s (app x6.k (r6.1.1::([]:List ItemT)))),()))))))) none)))) none) (some ((x6,(x4,(true,()))),())):=(FnD.eqC V kz6 izn 17 (x1,(x2,(x3,(x4,(x5,(x6,()))))))).trans (by kernel_rfl)
theorem Qzu:CallsOk Tryz.prog gls gvs 227 JzO:=FnD.ok (F:=izn) (cs:=kz6) V_ok (kC Nz6 kN) Tryz.func227 (by decide) (by kernel_rfl)
noncomputable def ozc:FnD:={f:=162,fn:=Tryz.f162,ps:=[pa .str],rs:=[⟨.item,(.own 0 .sh),false⟩,rt .bool],al:=true}
noncomputable def tzv:List (Nat×Sig):=[(227,JzO),(175,hzN)]
noncomputable def kz5:ByteArray×Unit→Option ((ItemT×Bool×Unit)×Unit):=ozc.d V tzv
noncomputable abbrev tzo:Sig:=ozc.t.sig kz5
theorem Lzp (x1:ByteArray):kz5 (x1,())=cnd (igt (ssz x1) 900) (some (((ItemT.mk false (bs []) ([]:List ItemT)),(false,())),())) (bnd (izY (x1,(0,(4,())))) (fun r1=>(cnd (bnot r1.1.2.2.1) (some (((ItemT.mk false (bs []) ([]:List ItemT)),(false,())),())) (cnd (ine r1.1.2.1 (ssz x1)) (some (((ItemT.mk false (bs []) ([]:List ItemT)),(false,())),())) (bnd (dzR (r1.1.1,())) (fun r2=>(cnd (bnot r2.1.2.1) (some (((ItemT.mk false (bs []) ([]:List ItemT)),(false,())),())) (cnd (sne r2.1.1 x1) (some (((ItemT.mk false (bs []) ([]:List ItemT)),(false,())),())) (some ((r1.1.1,(true,())),())))))))))):=(FnD.eq V tzv ozc (x1,())).trans (by kernel_rfl)
theorem Azq:CallsOk Tryz.prog gls gvs 162 tzo:=FnD.ok (F:=ozc) (cs:=tzv) V_ok (kC Qzu (kC kzy kN)) Tryz.func162 (by decide) (by kernel_rfl)
noncomputable def fzk:FnD:={f:=225,fn:=Tryz.f225,ps:=[⟨lzc, .sh,true,true,none⟩,pa .str],rs:=[⟨.item,(.own 0 .sh),false⟩,rt (.int .i64)],al:=true}
noncomputable def iz8:List (Nat×Sig):=[(162,tzo),(100,gzj)]
noncomputable def dza:bza×ByteArray×Unit→Option ((ItemT×Int×Unit)×bza×Unit):=fzk.d V iz8
noncomputable abbrev oz9:Sig:=fzk.t.sig dza
theorem zzm (x1:bza) (x2:ByteArray):dza (x1,(x2,()))=cnd (ieq x1.2.1 (len x1.1)) (some (((ItemT.mk false (bs []) ([]:List ItemT)),(3,())),(x1,()))) (cnd (inb x1.2.1 (len x1.1)) (bnd (kz5 ((rd (bs []) x1.1 x1.2.1),())) (fun r2=>(cnd (bnot r2.1.2.1) (some (((ItemT.mk false (bs []) ([]:List ItemT)),(2,())),((x1.1,((iadd .i64 x1.2.1 1),x1.2.2)),()))) (bnd (czi ((rd (bs []) x1.1 x1.2.1),())) (fun r3=>(cnd (sne r3.1.1 x2) (some (((ItemT.mk false (bs []) ([]:List ItemT)),(2,())),((x1.1,((iadd .i64 x1.2.1 1),x1.2.2)),()))) (some ((r2.1.1,(0,())),((x1.1,((iadd .i64 x1.2.1 1),x1.2.2)),()))))))))) none):=(FnD.eq V iz8 fzk (x1,(x2,()))).trans (by kernel_rfl)
theorem zzq:CallsOk Tryz.prog gls gvs 225 oz9:=FnD.ok (F:=fzk) (cs:=iz8) V_ok (kC Azq (kC izX kN)) Tryz.func225 (by decide) (by kernel_rfl)
noncomputable def ezF:FnD:={f:=342,fn:=Tryz.f342,ps:=[pa .str],rs:=[⟨(.sl (.int .i64)),(.own 0 .sh),false⟩,rt .bool,rt .bool],joins:=[8],cuts:=[(8,[.val 0 .str .sh, .val 5 (.sl (.int .i64)) .sh, .val 6 .bool .sh])]}
noncomputable def gzA:List (Nat×Sig):=[(160,czZ),(240,ozt)]
noncomputable def jzy:ByteArray×Unit→Option (((List Int)×Bool×Bool×Unit)×Unit):=ezF.d V gzA
noncomputable abbrev uz3:Sig:=ezF.t.sig jzy
noncomputable def hz6:ByteArray× (List Int)×Bool×Unit→Option (((List Int)×Bool×Bool×Unit)×Unit):=ezF.D V gzA 8
theorem Fzo (x1:ByteArray):jzy (x1,())=cnd (seq x1 (bs [])) (some ((([]:List Int),(false,(false,()))),())) (cnd (inb 0 (ssz x1)) (cnd (igt (sat x1 0) 63) (some ((([]:List Int),(false,(false,()))),())) (bnd (bzQ (x1,())) (fun r1=>(cnd (inb 0 (len r1.1.1)) (cnd (inb 0 (len r1.1.1)) (cnd (ieq (iand .i64 (rd 0 r1.1.1 0) 1) 1) (cnd (inb2 1 (len r1.1.1) (len r1.1.1)) (hz6 (x1,((sub r1.1.1 1 (len r1.1.1)),((ine (iand .i64 (rd 0 r1.1.1 0) 2) 0),())))) none) (cnd (inb2 2 (len r1.1.1) (len r1.1.1)) (hz6 (x1,((sub r1.1.1 2 (len r1.1.1)),((ine (iand .i64 (rd 0 r1.1.1 0) 2) 0),())))) none)) none) none)))) none):=(FnD.eq V gzA ezF (x1,())).trans (by kernel_rfl)
theorem CzJ (x1:ByteArray) (x2:(List Int)) (x3:Bool):hz6 (x1,(x2,(x3,())))=bnd (cz9 (x2,(x3,()))) (fun r3=>(cnd (bnot r3.1.2.1) (some ((([]:List Int),(false,(false,()))),())) (cnd (sne r3.1.1 x1) (some ((([]:List Int),(false,(false,()))),())) (cnd (fits ((len ([]:List Int))+(len x2)) 1) (some (((app ([]:List Int) x2),(x3,(true,()))),())) none)))):=(FnD.eqC V gzA ezF 8 (x1,(x2,(x3,())))).trans (by kernel_rfl)
theorem Fzp:CallsOk Tryz.prog gls gvs 342 uz3:=FnD.ok (F:=ezF) (cs:=gzA) V_ok (kC ezb (kC uzS kN)) Tryz.func342 (by decide) (by kernel_rfl)
noncomputable def bzx:FnD:={f:=291,fn:=Tryz.f291,ps:=[⟨lzc, .sh,true,true,none⟩,pa .item],rs:=[rt Ozw],al:=true,joins:=[6],cuts:=[(6,[.val 5 (.sl (.int .i64)) (.own 0 .sh), .val 6 .bool .sh, .box 0 lzc .sh, .box 3 .item .sh, .box 4 Ozw (.pr .sh (.pr .sh (.pr .sh (.pr (.own 0 .sh) .sh)))), .ptr 0 0 0, .ptr 3 3 0, .ptr 4 4 0])]}
noncomputable def bz2:List (Nat×Sig):=[(342,uz3),(244,wzb)]
noncomputable def czM:bza×ItemT×Unit→Option ((szB×Unit)×bza×Unit):=bzx.d V bz2
noncomputable abbrev jzg:Sig:=bzx.t.sig czM
noncomputable def dz9:(List Int)×Bool×bza×ItemT×szB×Unit→Option ((szB×Unit)×bza×Unit):=bzx.D V bz2 6
theorem szy (x1:bza) (x2:ItemT):czM (x1,(x2,()))=cnd (inb 0 (len x2.k)) (bnd (jzy ((rd (ItemT.mk false (bs []) ([]:List ItemT)) x2.k 0).s,())) (fun r2=>(cnd (inb 0 (len x2.k)) (cnd (rd (ItemT.mk false (bs []) ([]:List ItemT)) x2.k 0).l (some (((false,(false,((bs []),((ItemT.mk false (bs []) ([]:List ItemT)),(3,()))))),()),(x1,()))) (cnd (bnot r2.1.2.2.1) (some (((false,(false,((bs []),((ItemT.mk false (bs []) ([]:List ItemT)),(3,()))))),()),(x1,()))) (bnd (nzr (x1.2.2.1,(r2.1.1,()))) (fun r3=>(cnd (ilt r3.1.1 (len r2.1.1)) (some (((true,(false,((bs []),((ItemT.mk false (bs []) ([]:List ItemT)),(0,()))))),()),(x1,()))) (cnd r2.1.2.1 (cnd (ine (len x1.2.2.1) (len r2.1.1)) (some (((true,(false,((bs []),((ItemT.mk false (bs []) ([]:List ItemT)),(0,()))))),()),(x1,()))) (dz9 (r2.1.1,(r2.1.2.1,(x1,(x2,(Hzo,()))))))) (dz9 (r2.1.1,(r2.1.2.1,(x1,(x2,(Hzo,())))))))))))) none))) none:=(FnD.eq V bz2 bzx (x1,(x2,()))).trans (by kernel_rfl)
theorem iz3 (x1:(List Int)) (x2:Bool) (x3:bza) (x4:ItemT) (x5:szB):dz9 (x1,(x2,(x3,(x4,(x5,())))))=cnd (bnot x2) (cnd (inb2 (len x1) (len x3.2.2.1) (len x3.2.2.1)) (cnd (inb 1 (len x4.k)) (some (((false,(false,((bs []),((rd (ItemT.mk false (bs []) ([]:List ItemT)) x4.k 1),(0,()))))),()),((x3.1,(x3.2.1,((sub x3.2.2.1 (len x1) (len x3.2.2.1)),x3.2.2.2))),()))) none) none) (cnd (inb 1 (len x4.k)) (cnd (rd (ItemT.mk false (bs []) ([]:List ItemT)) x4.k 1).l (some (((false,(false,((bs []),((ItemT.mk false (bs []) ([]:List ItemT)),(3,()))))),()),(x3,()))) (cnd (inb 1 (len x4.k)) (some (((true,(true,((rd (ItemT.mk false (bs []) ([]:List ItemT)) x4.k 1).s,((ItemT.mk false (bs []) ([]:List ItemT)),(0,()))))),()),(x3,()))) none)) none):=(FnD.eqC V bz2 bzx 6 (x1,(x2,(x3,(x4,(x5,())))))).trans (by kernel_rfl)
theorem szv:CallsOk Tryz.prog gls gvs 291 jzg:=FnD.ok (F:=bzx) (cs:=bz2) V_ok (kC Fzp (kC zzY kN)) Tryz.func291 (by decide) (by kernel_rfl)
noncomputable def czu:FnD:={f:=226,fn:=Tryz.f226,ps:=[⟨lzc, .sh,true,true,none⟩,pa .item],rs:=[rt Ozw],al:=true,joins:=[3],cuts:=[(3,[.box 0 lzc .sh, .box 3 .item .sh, .box 4 Ozw (.pr .sh (.pr .sh (.pr .sh (.pr (.own 0 .sh) .sh)))), .ptr 0 0 0, .ptr 3 3 0, .ptr 4 4 0])]}
noncomputable def dzd:List (Nat×Sig):=[(291,jzg)]
noncomputable def fzf:bza×ItemT×Unit→Option ((szB×Unit)×bza×Unit):=czu.d V dzd
noncomputable abbrev pze:Sig:=czu.t.sig fzf
noncomputable def hzo:bza×ItemT×szB×Unit→Option ((szB×Unit)×bza×Unit):=czu.D V dzd 3
theorem zzd (x1:bza) (x2:ItemT):fzf (x1,(x2,()))=cnd x2.l (cnd (ieq (len x2.k) 2) (bnd (czM (x1,(x2,()))) (fun r2=>(some ((r2.1.1,()),(r2.2.1,()))))) (hzo (x1,(x2,(Hzo,()))))) (hzo (x1,(x2,(Hzo,())))):=(FnD.eq V dzd czu (x1,(x2,()))).trans (by kernel_rfl)
theorem mzG (x1:bza) (x2:ItemT) (x3:szB):hzo (x1,(x2,(x3,())))=cnd (bnot x2.l) (some (((false,(false,((bs []),((ItemT.mk false (bs []) ([]:List ItemT)),(3,()))))),()),(x1,()))) (cnd (ine (len x2.k) 17) (some (((false,(false,((bs []),((ItemT.mk false (bs []) ([]:List ItemT)),(3,()))))),()),(x1,()))) (cnd (ieq (len x1.2.2.1) 0) (some (((true,(false,((bs []),((ItemT.mk false (bs []) ([]:List ItemT)),(0,()))))),()),(x1,()))) (cnd (inb 0 (len x1.2.2.1)) (cnd (inb (rd 0 x1.2.2.1 0) (len x2.k)) (cnd (inb2 1 (len x1.2.2.1) (len x1.2.2.1)) (cnd (bnot (rd (ItemT.mk false (bs []) ([]:List ItemT)) x2.k (rd 0 x1.2.2.1 0)).l) (cnd (seq (rd (ItemT.mk false (bs []) ([]:List ItemT)) x2.k (rd 0 x1.2.2.1 0)).s (bs [])) (some (((true,(false,((bs []),((ItemT.mk false (bs []) ([]:List ItemT)),(0,()))))),()),((x1.1,(x1.2.1,((sub x1.2.2.1 1 (len x1.2.2.1)),x1.2.2.2))),()))) (some (((false,(false,((bs []),((rd (ItemT.mk false (bs []) ([]:List ItemT)) x2.k (rd 0 x1.2.2.1 0)),(0,()))))),()),((x1.1,(x1.2.1,((sub x1.2.2.1 1 (len x1.2.2.1)),x1.2.2.2))),())))) (some (((false,(false,((bs []),((rd (ItemT.mk false (bs []) ([]:List ItemT)) x2.k (rd 0 x1.2.2.1 0)),(0,()))))),()),((x1.1,(x1.2.1,((sub x1.2.2.1 1 (len x1.2.2.1)),x1.2.2.2))),())))) none) none) none))):=(FnD.eqC V dzd czu 3 (x1,(x2,(x3,())))).trans (by kernel_rfl)
theorem zzl:CallsOk Tryz.prog gls gvs 226 pze:=FnD.ok (F:=czu) (cs:=dzd) V_ok (kC szv kN) Tryz.func226 (by decide) (by kernel_rfl)
noncomputable def czs:FnD:={f:=161,fn:=Tryz.f161,ps:=[⟨lzc, .sh,true,true,none⟩,pa .str],rs:=[rt Ozw],al:=true,cuts:=[(6,[.box 0 lzc .sh, .box 4 Ozw (.pr .sh (.pr .sh (.pr .sh (.pr (.own 0 .sh) .sh)))), .box 5 .item .sh, .ptr 0 0 0, .ptr 4 4 0, .ptr 5 5 0])]}
noncomputable def dzk:List (Nat×Sig):=[(225,oz9),(226,pze),(95,gz4)]
noncomputable def jzb:bza×ByteArray×Unit→Option ((szB×Unit)×bza×Unit):=czs.d V dzk
noncomputable abbrev pzh:Sig:=czs.t.sig jzb
noncomputable def bzE:bza×szB×ItemT×Unit→Option ((szB×Unit)×bza×Unit):=czs.D V dzk 6
theorem zzr (x1:bza) (x2:ByteArray):jzb (x1,(x2,()))=bnd (dza (x1,(x2,()))) (fun r2=>(cnd (ine r2.1.2.1 0) (some (((false,(false,((bs []),((ItemT.mk false (bs []) ([]:List ItemT)),(r2.1.2.1,()))))),()),(r2.2.1,()))) (cnd (bnot r2.1.1.l) (cnd (seq r2.1.1.s (bs [])) (some (((true,(false,((bs []),((ItemT.mk false (bs []) ([]:List ItemT)),(0,()))))),()),(r2.2.1,()))) (bzE (r2.2.1,(Hzo,(r2.1.1,()))))) (bzE (r2.2.1,(Hzo,(r2.1.1,()))))))):=(FnD.eq V dzk czs (x1,(x2,()))).trans (by kernel_rfl)
theorem wzO (x1:bza) (x2:szB) (x3:ItemT):bzE (x1,(x2,(x3,())))=bnd (fzf (x1,(x3,()))) (fun r3=>(cnd r3.1.1.1 (some ((r3.1.1,()),(r3.2.1,()))) (cnd (ine r3.1.1.2.2.2.2.1 0) (some ((r3.1.1,()),(r3.2.1,()))) (cnd r3.1.1.2.2.2.1.l (bzE (r3.2.1,(x2,(r3.1.1.2.2.2.1,())))) (bnd (czH (r3.1.1.2.2.2.1.s,())) (fun r4=>(cnd (bnot r4.1.1) (some (((false,(false,((bs []),((ItemT.mk false (bs []) ([]:List ItemT)),(3,()))))),()),(r3.2.1,()))) (bnd (dza (r3.2.1,(r3.1.1.2.2.2.1.s,()))) (fun r5=>(cnd (ine r5.1.2.1 0) (some (((false,(false,((bs []),((ItemT.mk false (bs []) ([]:List ItemT)),(r5.1.2.1,()))))),()),(r5.2.1,()))) (bzE (r5.2.1,(x2,(r5.1.1,())))))))))))))):=(FnD.eqC V dzk czs 6 (x1,(x2,(x3,())))).trans (by kernel_rfl)
theorem zzk:CallsOk Tryz.prog gls gvs 161 pzh:=FnD.ok (F:=czs) (cs:=dzk) V_ok (kC zzq (kC zzl (kC kzt kN))) Tryz.func161 (by decide) (by kernel_rfl)
noncomputable def jzs:FnD:={f:=97,fn:=Tryz.f97,ps:=[pa .str,pa .str,pa (.sl .str)],rs:=[rt .str,rt .bool,rt (.int .i64)]}
noncomputable def nz4:List (Nat×Sig):=[(95,gz4),(160,czZ),(161,pzh)]
noncomputable def gzX:ByteArray×ByteArray× (List ByteArray)×Unit→Option ((ByteArray×Bool×Int×Unit)×Unit):=jzs.d V nz4
noncomputable abbrev wzj:Sig:=jzs.t.sig gzX
theorem Fzh (x1:ByteArray) (x2:ByteArray) (x3:(List ByteArray)):gzX (x1,(x2,(x3,())))=bnd (czH (x1,())) (fun r3=>(cnd (bnot r3.1.1) (some (((bs []),(false,(1,()))),())) (cnd (ine (ssz x2) 4) (some (((bs []),(false,(1,()))),())) (cnd (ilt (len x3) 1) (some (((bs []),(false,(1,()))),())) (cnd (igt (len x3) 12) (some (((bs []),(false,(1,()))),())) (bnd (bzQ (x2,())) (fun r4=>(bnd (jzb ((x3,(0,(r4.1.1,()))),(x1,()))) (fun r5=>(cnd (ine r5.1.1.2.2.2.2.1 0) (some (((bs []),(false,(r5.1.1.2.2.2.2.1,()))),())) (cnd (ilt r5.2.1.2.1 (len x3)) (some (((bs []),(false,(4,()))),())) (some ((r5.1.1.2.2.1,(r5.1.1.2.1,(0,()))),()))))))))))))):=(FnD.eq V nz4 jzs (x1,(x2,(x3,())))).trans (by kernel_rfl)
theorem Fz2:CallsOk Tryz.prog gls gvs 97 wzj:=FnD.ok (F:=jzs) (cs:=nz4) V_ok (kC kzt (kC ezb (kC zzk kN))) Tryz.func97 (by decide) (by kernel_rfl)
noncomputable def dzy:FnD:={f:=98,fn:=Tryz.f98,ps:=[pa .str],rs:=[rt (.int .i64),rt (.int .i64),rt .str,rt .bool],cuts:=[(5,[.val 34 (.int .i64) .sh, .val 35 (.int .i64) .sh, .box 6 .item (.own 0 .sh), .ptr 6 6 0, .ref 33 ⟨true,6,2,(.sl .item)⟩])]}
noncomputable def ezY:List (Nat×Sig):=[(162,tzo),(163,xzU),(95,gz4)]
noncomputable def izj:ByteArray×Unit→Option ((Int×Int×ByteArray×Bool×Unit)×Unit):=dzy.d V ezY
noncomputable abbrev szJ:Sig:=dzy.t.sig izj
noncomputable def lzg:Int×Int×ItemT×Unit→Option ((Int×Int×ByteArray×Bool×Unit)×Unit):=dzy.D V ezY 5
theorem CzU (x1:ByteArray):izj (x1,())=bnd (kz5 (x1,())) (fun r1=>(cnd (bnot r1.1.2.1) (some ((0,(0,czU)),())) (cnd (bnot r1.1.1.l) (some ((0,(0,czU)),())) (cnd (ine (len r1.1.1.k) 3) (some ((0,(0,czU)),())) (lzg ((len r1.1.1.k),(0,(r1.1.1,())))))))):=(FnD.eq V ezY dzy (x1,())).trans (by kernel_rfl)
theorem gzJ (x1:Int) (x2:Int) (x3:ItemT):lzg (x1,(x2,(x3,())))=cnd (ilt x2 x1) (cnd (inb x2 (len x3.k)) (cnd (rd (ItemT.mk false (bs []) ([]:List ItemT)) x3.k x2).l (some ((0,(0,czU)),())) (lzg (x1,((iadd .i64 x2 1),(x3,()))))) none) (cnd (inb 0 (len x3.k)) (bnd (jz6 ((rd (ItemT.mk false (bs []) ([]:List ItemT)) x3.k 0).s,())) (fun r3=>(cnd (inb 1 (len x3.k)) (bnd (jz6 ((rd (ItemT.mk false (bs []) ([]:List ItemT)) x3.k 1).s,())) (fun r4=>(cnd (inb 2 (len x3.k)) (cnd (bnot r3.1.2.1) (some ((0,(0,czU)),())) (cnd (bnot r4.1.2.1) (some ((0,(0,czU)),())) (bnd (czH ((rd (ItemT.mk false (bs []) ([]:List ItemT)) x3.k 2).s,())) (fun r5=>(cnd (bnot r5.1.1) (some ((0,(0,czU)),())) (some ((r3.1.1,(r4.1.1,((rd (ItemT.mk false (bs []) ([]:List ItemT)) x3.k 2).s,(true,())))),()))))))) none))) none))) none):=(FnD.eqC V ezY dzy 5 (x1,(x2,(x3,())))).trans (by kernel_rfl)
theorem CzW:CallsOk Tryz.prog gls gvs 98 szJ:=FnD.ok (F:=dzy) (cs:=ezY) V_ok (kC Azq (kC DzI (kC kzt kN))) Tryz.func98 (by decide) (by kernel_rfl)
noncomputable def lzP:FnD:={f:=53,fn:=Tryz.f53,ps:=[pa .str,pa TAsk],rs:=[rt .str,rt .bool,rt (.int .i64)]}
noncomputable def qzs:List (Nat×Sig):=[(95,gz4),(96,wzt),(97,wzj),(98,szJ)]
noncomputable def izH:ByteArray×tAsk×Unit→Option ((ByteArray×Bool×Int×Unit)×Unit):=lzP.d V qzs
noncomputable abbrev yzC:Sig:=lzP.t.sig izH
theorem yzs (x1:ByteArray) (x2:tAsk):izH (x1,(x2,()))=bnd (czH (x2.2.2.1,())) (fun r2=>(cnd (bnot r2.1.1) (some (((bs []),(false,(1,()))),())) (cnd (ine (len x2.2.2.2.1) 2) (some (((bs []),(false,(1,()))),())) (bnd (jzn (x2.2.2.1,(0,(x2.2.2.2.1,())))) (fun r3=>(cnd (sne r3.1.1 x1) (some (((bs []),(false,(2,()))),())) (bnd (gzX (x2.2.2.1,(x2.1,(x2.2.2.2.2.1,())))) (fun r4=>(cnd (ine r4.1.2.2.1 0) (some (((bs []),(false,((iadd .i64 10 r4.1.2.2.1),()))),())) (cnd (bnot r4.1.2.1) (cnd (igt (len x2.2.2.2.2.2.1) 0) (some (((bs []),(false,(4,()))),())) (some (((bs []),(false,(0,()))),()))) (bnd (izj (r4.1.1,())) (fun r5=>(cnd (bnot r5.1.2.2.2.1) (some (((bs []),(false,(3,()))),())) (bnd (gzX (r5.1.2.2.1,(x2.2.1,(x2.2.2.2.2.2.1,())))) (fun r6=>(cnd (ine r6.1.2.2.1 0) (some (((bs []),(false,((iadd .i64 20 r6.1.2.2.1),()))),())) (some ((r6.1.1,(r6.1.2.1,(0,()))),())))))))))))))))))):=(FnD.eq V qzs lzP (x1,(x2,()))).trans (by kernel_rfl)
theorem Kza:CallsOk Tryz.prog gls gvs 53 yzC:=FnD.ok (F:=lzP) (cs:=qzs) V_ok (kC kzt (kC Fzv (kC Fz2 (kC CzW kN)))) Tryz.func53 (by decide) (by kernel_rfl)
noncomputable def lzV:FnD:={f:=24,fn:=Tryz.f24,ps:=[pa kzO,pa TAsk],rs:=[rt .str,rt .bool,rt (.int .i64)]}
noncomputable def pz7:List (Nat×Sig):=[(53,yzC)]
noncomputable def pzA:gzN×tAsk×Unit→Option ((ByteArray×Bool×Int×Unit)×Unit):=lzV.d V pz7
noncomputable abbrev yzo:Sig:=lzV.t.sig pzA
theorem Jz7 (x1:gzN) (x2:tAsk):pzA (x1,(x2,()))=bnd (izH (x1.2.1.1.2.2.1,(x2,()))) (fun r2=>(some ((r2.1.1,(r2.1.2.1,(r2.1.2.2.1,()))),()))):=(FnD.eq V pz7 lzV (x1,(x2,()))).trans (by kernel_rfl)
theorem IzQ:CallsOk Tryz.prog gls gvs 24 yzo:=FnD.ok (F:=lzV) (cs:=pz7) V_ok (kC Kza kN) Tryz.func24 (by decide) (by kernel_rfl)
noncomputable def nzq:FnD:={f:=27,fn:=Tryz.f27,ps:=[pa (.sl bzr),pa .str],rs:=[rt .str,rt .bool],cuts:=[(2,[.val 1 .str .sh, .val 8 (.sl bzr) .sh, .val 9 (.int .i64) .sh, .val 10 (.int .i64) .sh])]}
noncomputable def qzM:List (Nat×Sig):=[]
noncomputable def qzQ:(List azl)×ByteArray×Unit→Option ((ByteArray×Bool×Unit)×Unit):=nzq.d V qzM
noncomputable abbrev Jz9:Sig:=nzq.t.sig qzQ
noncomputable def rz5:ByteArray× (List azl)×Int×Int×Unit→Option ((ByteArray×Bool×Unit)×Unit):=nzq.D V qzM 2
theorem Rzl (x1:(List azl)) (x2:ByteArray):qzQ (x1,(x2,()))=rz5 (x2,(x1,((len x1),(0,())))):=(FnD.eq V qzM nzq (x1,(x2,()))).trans (by kernel_rfl)
theorem Ezv (x1:ByteArray) (x2:(List azl)) (x3:Int) (x4:Int):rz5 (x1,(x2,(x3,(x4,()))))=cnd (ilt x4 x3) (cnd (inb x4 (len x2)) (cnd (seq (rd bzd x2 x4).1 x1) (some (((rd bzd x2 x4).2.1,(true,())),())) (rz5 (x1,(x2,(x3,((iadd .i64 x4 1),())))))) none) (some (czU,())):=(FnD.eqC V qzM nzq 2 (x1,(x2,(x3,(x4,()))))).trans (by kernel_rfl)
theorem Qz1:CallsOk Tryz.prog gls gvs 27 Jz9:=FnD.ok (F:=nzq) (cs:=qzM) V_ok kN Tryz.func27 (by decide) (by kernel_rfl)
noncomputable def ozW:FnD:={f:=8,fn:=Tryz.f8,ps:=[pa gzp,pa (.int .i64),pa .str],rs:=[rt .bool]}
noncomputable def tzs:List (Nat×Sig):=[(25,BzM),(24,yzo),(26,xzJ),(27,Jz9)]
noncomputable def kzn:dzp×Int×ByteArray×Unit→Option ((Bool×Unit)×Unit):=ozW.d V tzs
noncomputable abbrev Czg:Sig:=ozW.t.sig kzn
theorem KzK (x1:dzp) (x2:Int) (x3:ByteArray):kzn (x1,(x2,(x3,())))=bnd (nzR (x1.1,(x2,(x3,((bs [97,97,97,97]),()))))) (fun r3=>(bnd (pzA (x1.2.2.1,(r3.1.1,()))) (fun r4=>(cnd (ine r4.1.2.2.1 0) (some ((true,()),())) (bnd (jz5 (x1.1.2.1,(x3,()))) (fun r5=>(bnd (qzQ (r5.1.1,((bs [97,97,97,97]),()))) (fun r6=>(cnd (seq r4.1.1 r6.1.1) (some (((beqB r4.1.2.1 r6.1.2.1),()),())) (some ((false,()),()))))))))))):=(FnD.eq V tzs ozW (x1,(x2,(x3,())))).trans (by kernel_rfl)
theorem Lza:CallsOk Tryz.prog gls gvs 8 Czg:=FnD.ok (F:=ozW) (cs:=tzs) V_ok (kC Lze (kC IzQ (kC Dzs (kC Qz1 kN)))) Tryz.func8 (by decide) (by kernel_rfl)
noncomputable def uzj:FnD:={f:=245,fn:=Tryz.f245,ps:=[pa bzr,pa bzr],rs:=[rt .bool]}
noncomputable def Czl:List (Nat×Sig):=[]
noncomputable def uzz:azl×azl×Unit→Option ((Bool×Unit)×Unit):=uzj.d V Czl
noncomputable abbrev HzO:Sig:=uzj.t.sig uzz
theorem SzB (x1:azl) (x2:azl):uzz (x1,(x2,()))=cnd (sne x1.1 x2.1) (some ((false,()),())) (cnd (sne x1.2.1 x2.2.1) (some ((false,()),())) (some ((true,()),()))):=(FnD.eq V Czl uzj (x1,(x2,()))).trans (by kernel_rfl)
theorem RzN:CallsOk Tryz.prog gls gvs 245 HzO:=FnD.ok (F:=uzj) (cs:=Czl) V_ok kN Tryz.func245 (by decide) (by kernel_rfl)
noncomputable def jz7:FnD:={f:=181,fn:=Tryz.f181,ps:=[pa (.sl bzr),pa (.sl bzr)],rs:=[rt .bool],cuts:=[(4,[.val 0 (.sl bzr) .sh, .val 1 (.sl bzr) .sh, .val 5 (.int .i64) .sh])]}
noncomputable def nzC:List (Nat×Sig):=[(245,HzO)]
noncomputable def rzV:(List azl)× (List azl)×Unit→Option ((Bool×Unit)×Unit):=jz7.d V nzC
noncomputable abbrev EzI:Sig:=jz7.t.sig rzV
noncomputable def tzr:(List azl)× (List azl)×Int×Unit→Option ((Bool×Unit)×Unit):=jz7.D V nzC 4
theorem Pz9 (x1:(List azl)) (x2:(List azl)):rzV (x1,(x2,()))=cnd (ine (len x1) (len x2)) (some ((false,()),())) (tzr (x1,(x2,(0,())))):=(FnD.eq V nzC jz7 (x1,(x2,()))).trans (by kernel_rfl)
theorem KzB (x1:(List azl)) (x2:(List azl)) (x3:Int):tzr (x1,(x2,(x3,())))=cnd (ilt x3 (len x1)) (cnd (inb x3 (len x1)) (cnd (inb x3 (len x2)) (bnd (uzz ((rd bzd x1 x3),((rd bzd x2 x3),()))) (fun r3=>(cnd (bnot r3.1.1) (some ((false,()),())) (tzr (x1,(x2,((iadd .i64 x3 1),()))))))) none) none) (some ((true,()),())):=(FnD.eqC V nzC jz7 4 (x1,(x2,(x3,())))).trans (by kernel_rfl)
theorem OzK:CallsOk Tryz.prog gls gvs 181 EzI:=FnD.ok (F:=jz7) (cs:=nzC) V_ok (kC RzN kN) Tryz.func181 (by decide) (by kernel_rfl)
noncomputable def lz3:FnD:={f:=110,fn:=Tryz.f110,ps:=[pa azu,pa azu],rs:=[rt .bool]}
noncomputable def qzq:List (Nat×Sig):=[(181,EzI)]
noncomputable def lzY:azd×azd×Unit→Option ((Bool×Unit)×Unit):=lz3.d V qzq
noncomputable abbrev yzd:Sig:=lz3.t.sig lzY
theorem Jzj (x1:azd) (x2:azd):lzY (x1,(x2,()))=cnd (sne x1.1 x2.1) (some ((false,()),())) (cnd (ine x1.2.1 x2.2.1) (some ((false,()),())) (cnd (ine x1.2.2.1 x2.2.2.1) (some ((false,()),())) (bnd (rzV (x1.2.2.2.1,(x2.2.2.2.1,()))) (fun r2=>(cnd (bnot r2.1.1) (some ((false,()),())) (some ((true,()),()))))))):=(FnD.eq V qzq lz3 (x1,(x2,()))).trans (by kernel_rfl)
theorem IzV:CallsOk Tryz.prog gls gvs 110 yzd:=FnD.ok (F:=lz3) (cs:=qzq) V_ok (kC OzK kN) Tryz.func110 (by decide) (by kernel_rfl)
noncomputable def ezf:FnD:={f:=62,fn:=Tryz.f62,ps:=[pa (.sl azu),pa (.sl azu)],rs:=[rt .bool],cuts:=[(4,[.val 0 (.sl azu) .sh, .val 1 (.sl azu) .sh, .val 5 (.int .i64) .sh])]}
noncomputable def gzi:List (Nat×Sig):=[(110,yzd)]
noncomputable def jzH:(List azd)× (List azd)×Unit→Option ((Bool×Unit)×Unit):=ezf.d V gzi
noncomputable abbrev vzn:Sig:=ezf.t.sig jzH
noncomputable def mzq:(List azd)× (List azd)×Int×Unit→Option ((Bool×Unit)×Unit):=ezf.D V gzi 4
theorem GzW (x1:(List azd)) (x2:(List azd)):jzH (x1,(x2,()))=cnd (ine (len x1) (len x2)) (some ((false,()),())) (mzq (x1,(x2,(0,())))):=(FnD.eq V gzi ezf (x1,(x2,()))).trans (by kernel_rfl)
theorem CzC (x1:(List azd)) (x2:(List azd)) (x3:Int):mzq (x1,(x2,(x3,())))=cnd (ilt x3 (len x1)) (cnd (inb x3 (len x1)) (cnd (inb x3 (len x2)) (bnd (lzY ((rd azg x1 x3),((rd azg x2 x3),()))) (fun r3=>(cnd (bnot r3.1.1) (some ((false,()),())) (mzq (x1,(x2,((iadd .i64 x3 1),()))))))) none) none) (some ((true,()),())):=(FnD.eqC V gzi ezf 4 (x1,(x2,(x3,())))).trans (by kernel_rfl)
theorem FzR:CallsOk Tryz.prog gls gvs 62 vzn:=FnD.ok (F:=ezf) (cs:=gzi) V_ok (kC IzV kN) Tryz.func62 (by decide) (by kernel_rfl)
noncomputable def rzg:FnD:={f:=28,fn:=Tryz.f28,ps:=[pa bzY,pa bzY],rs:=[rt .bool]}
noncomputable def xzA:List (Nat×Sig):=[(62,vzn)]
noncomputable def szs:azH×azH×Unit→Option ((Bool×Unit)×Unit):=rzg.d V xzA
noncomputable abbrev Ezb:Sig:=rzg.t.sig szs
theorem PzH (x1:azH) (x2:azH):szs (x1,(x2,()))=cnd (ine x1.1 x2.1) (some ((false,()),())) (bnd (jzH (x1.2.1,(x2.2.1,()))) (fun r2=>(cnd (bnot r2.1.1) (some ((false,()),())) (some ((true,()),()))))):=(FnD.eq V xzA rzg (x1,(x2,()))).trans (by kernel_rfl)
theorem Nz2:CallsOk Tryz.prog gls gvs 28 Ezb:=FnD.ok (F:=rzg) (cs:=xzA) V_ok (kC FzR kN) Tryz.func28 (by decide) (by kernel_rfl)
noncomputable def szj:FnD:={f:=111,fn:=Tryz.f111,ps:=[pa azJ,pa azJ],rs:=[rt .bool]}
noncomputable def xzc:List (Nat×Sig):=[]
noncomputable def fzL:azn×azn×Unit→Option ((Bool×Unit)×Unit):=szj.d V xzc
noncomputable abbrev xzd:Sig:=szj.t.sig fzL
theorem Oz0 (x1:azn) (x2:azn):fzL (x1,(x2,()))=cnd (ine x1.1 x2.1) (some ((false,()),())) (cnd (ine x1.2.1 x2.2.1) (some ((false,()),())) (cnd (bneB x1.2.2.1 x2.2.2.1) (some ((false,()),())) (some ((true,()),())))):=(FnD.eq V xzc szj (x1,(x2,()))).trans (by kernel_rfl)
theorem EzS:CallsOk Tryz.prog gls gvs 111 xzd:=FnD.ok (F:=szj) (cs:=xzc) V_ok kN Tryz.func111 (by decide) (by kernel_rfl)
noncomputable def hzm:FnD:={f:=64,fn:=Tryz.f64,ps:=[pa (.sl azJ),pa (.sl azJ)],rs:=[rt .bool],cuts:=[(4,[.val 0 (.sl azJ) .sh, .val 1 (.sl azJ) .sh, .val 5 (.int .i64) .sh])]}
noncomputable def kzP:List (Nat×Sig):=[(111,xzd)]
noncomputable def cz2:(List azn)× (List azn)×Unit→Option ((Bool×Unit)×Unit):=hzm.d V kzP
noncomputable abbrev nz3:Sig:=hzm.t.sig cz2
noncomputable def qzH:(List azn)× (List azn)×Int×Unit→Option ((Bool×Unit)×Unit):=hzm.D V kzP 4
theorem Lzx (x1:(List azn)) (x2:(List azn)):cz2 (x1,(x2,()))=cnd (ine (len x1) (len x2)) (some ((false,()),())) (qzH (x1,(x2,(0,())))):=(FnD.eq V kzP hzm (x1,(x2,()))).trans (by kernel_rfl)
theorem Hzi (x1:(List azn)) (x2:(List azn)) (x3:Int):qzH (x1,(x2,(x3,())))=cnd (ilt x3 (len x1)) (cnd (inb x3 (len x1)) (cnd (inb x3 (len x2)) (bnd (fzL ((rd fzy x1 x3),((rd fzy x2 x3),()))) (fun r3=>(cnd (bnot r3.1.1) (some ((false,()),())) (qzH (x1,(x2,((iadd .i64 x3 1),()))))))) none) none) (some ((true,()),())):=(FnD.eqC V kzP hzm 4 (x1,(x2,(x3,())))).trans (by kernel_rfl)
theorem tzu:CallsOk Tryz.prog gls gvs 64 nz3:=FnD.ok (F:=hzm) (cs:=kzP) V_ok (kC EzS kN) Tryz.func64 (by decide) (by kernel_rfl)
noncomputable def vz1:FnD:={f:=63,fn:=Tryz.f63,ps:=[pa Dzl,pa Dzl],rs:=[rt .bool]}
noncomputable def Bzf:List (Nat×Sig):=[(111,xzd),(64,nz3)]
noncomputable def pz3:Azw×Azw×Unit→Option ((Bool×Unit)×Unit):=vz1.d V Bzf
noncomputable abbrev Czq:Sig:=vz1.t.sig pz3
theorem Qzr (x1:Azw) (x2:Azw):pz3 (x1,(x2,()))=bnd (fzL (x1.1,(x2.1,()))) (fun r2=>(cnd (bnot r2.1.1) (some ((false,()),())) (bnd (fzL (x1.2.1,(x2.2.1,()))) (fun r3=>(cnd (bnot r3.1.1) (some ((false,()),())) (bnd (fzL (x1.2.2.1,(x2.2.2.1,()))) (fun r4=>(cnd (bnot r4.1.1) (some ((false,()),())) (bnd (fzL (x1.2.2.2.1,(x2.2.2.2.1,()))) (fun r5=>(cnd (bnot r5.1.1) (some ((false,()),())) (bnd (cz2 (x1.2.2.2.2.1,(x2.2.2.2.2.1,()))) (fun r6=>(cnd (bnot r6.1.1) (some ((false,()),())) (some ((true,()),())))))))))))))))):=(FnD.eq V Bzf vz1 (x1,(x2,()))).trans (by kernel_rfl)
theorem Izo:CallsOk Tryz.prog gls gvs 63 Czq:=FnD.ok (F:=vz1) (cs:=Bzf) V_ok (kC EzS (kC tzu kN)) Tryz.func63 (by decide) (by kernel_rfl)
noncomputable def szf:FnD:={f:=29,fn:=Tryz.f29,ps:=[pa uzI,pa uzI],rs:=[rt .bool]}
noncomputable def wzB:List (Nat×Sig):=[(63,Czq),(64,nz3)]
noncomputable def rzy:tzb×tzb×Unit→Option ((Bool×Unit)×Unit):=szf.d V wzB
noncomputable abbrev Ezq:Sig:=szf.t.sig rzy
theorem Pzm (x1:tzb) (x2:tzb):rzy (x1,(x2,()))=bnd (pz3 (x1.1,(x2.1,()))) (fun r2=>(cnd (bnot r2.1.1) (some ((false,()),())) (bnd (cz2 (x1.2.1,(x2.2.1,()))) (fun r3=>(cnd (bnot r3.1.1) (some ((false,()),())) (bnd (cz2 (x1.2.2.1,(x2.2.2.1,()))) (fun r4=>(cnd (bnot r4.1.1) (some ((false,()),())) (bnd (cz2 (x1.2.2.2.1,(x2.2.2.2.1,()))) (fun r5=>(cnd (bnot r5.1.1) (some ((false,()),())) (bnd (cz2 (x1.2.2.2.2.1,(x2.2.2.2.2.1,()))) (fun r6=>(cnd (bnot r6.1.1) (some ((false,()),())) (some ((true,()),())))))))))))))))):=(FnD.eq V wzB szf (x1,(x2,()))).trans (by kernel_rfl)
theorem Pzt:CallsOk Tryz.prog gls gvs 29 Ezq:=FnD.ok (F:=szf) (cs:=wzB) V_ok (kC Izo (kC tzu kN)) Tryz.func29 (by decide) (by kernel_rfl)
noncomputable def vzF:FnD:={f:=112,fn:=Tryz.f112,ps:=[pa czS,pa czS],rs:=[rt .bool]}
noncomputable def Czb:List (Nat×Sig):=[]
noncomputable def uzP:azO×azO×Unit→Option ((Bool×Unit)×Unit):=vzF.d V Czb
noncomputable abbrev Kzc:Sig:=vzF.t.sig uzP
theorem Qzk (x1:azO) (x2:azO):uzP (x1,(x2,()))=cnd (ine x1.1 x2.1) (some ((false,()),())) (cnd (sne x1.2.1 x2.2.1) (some ((false,()),())) (cnd (sne x1.2.2.1 x2.2.2.1) (some ((false,()),())) (cnd (sne x1.2.2.2.1 x2.2.2.2.1) (some ((false,()),())) (some ((true,()),()))))):=(FnD.eq V Czb vzF (x1,(x2,()))).trans (by kernel_rfl)
theorem QzR:CallsOk Tryz.prog gls gvs 112 Kzc:=FnD.ok (F:=vzF) (cs:=Czb) V_ok kN Tryz.func112 (by decide) (by kernel_rfl)
noncomputable def hzT:FnD:={f:=113,fn:=Tryz.f113,ps:=[pa azp,pa azp],rs:=[rt .bool]}
noncomputable def mza:List (Nat×Sig):=[(64,nz3)]
noncomputable def ez2:azh×azh×Unit→Option ((Bool×Unit)×Unit):=hzT.d V mza
noncomputable abbrev szO:Sig:=hzT.t.sig ez2
theorem Czx (x1:azh) (x2:azh):ez2 (x1,(x2,()))=bnd (cz2 (x1.1,(x2.1,()))) (fun r2=>(cnd (bnot r2.1.1) (some ((false,()),())) (some ((true,()),())))):=(FnD.eq V mza hzT (x1,(x2,()))).trans (by kernel_rfl)
theorem CzY:CallsOk Tryz.prog gls gvs 113 szO:=FnD.ok (F:=hzT) (cs:=mza) V_ok (kC tzu kN) Tryz.func113 (by decide) (by kernel_rfl)
noncomputable def nzK:FnD:={f:=65,fn:=Tryz.f65,ps:=[pa mze,pa mze],rs:=[rt .bool]}
noncomputable def tz3:List (Nat×Sig):=[(112,Kzc),(113,szO),(63,Czq)]
noncomputable def kzw:kz9×kz9×Unit→Option ((Bool×Unit)×Unit):=nzK.d V tz3
noncomputable abbrev Az1:Sig:=nzK.t.sig kzw
theorem KzA (x1:kz9) (x2:kz9):kzw (x1,(x2,()))=bnd (uzP (x1.1,(x2.1,()))) (fun r2=>(cnd (bnot r2.1.1) (some ((false,()),())) (bnd (ez2 (x1.2.1,(x2.2.1,()))) (fun r3=>(cnd (bnot r3.1.1) (some ((false,()),())) (bnd (ez2 (x1.2.2.1,(x2.2.2.1,()))) (fun r4=>(cnd (bnot r4.1.1) (some ((false,()),())) (cnd (bneB x1.2.2.2.1 x2.2.2.2.1) (some ((false,()),())) (bnd (pz3 (x1.2.2.2.2.1,(x2.2.2.2.2.1,()))) (fun r5=>(cnd (bnot r5.1.1) (some ((false,()),())) (some ((true,()),())))))))))))))):=(FnD.eq V tz3 nzK (x1,(x2,()))).trans (by kernel_rfl)
theorem Mzw:CallsOk Tryz.prog gls gvs 65 Az1:=FnD.ok (F:=nzK) (cs:=tz3) V_ok (kC QzR (kC CzY (kC Izo kN))) Tryz.func65 (by decide) (by kernel_rfl)
noncomputable def fzW:FnD:={f:=32,fn:=Tryz.f32,ps:=[pa (.sl .str),pa (.sl .str)],rs:=[rt .bool],cuts:=[(4,[.val 0 (.sl .str) .sh, .val 1 (.sl .str) .sh, .val 5 (.int .i64) .sh])]}
noncomputable def izu:List (Nat×Sig):=[]
noncomputable def izs:(List ByteArray)× (List ByteArray)×Unit→Option ((Bool×Unit)×Unit):=fzW.d V izu
noncomputable abbrev qzF:Sig:=fzW.t.sig izs
noncomputable def oz4:(List ByteArray)× (List ByteArray)×Int×Unit→Option ((Bool×Unit)×Unit):=fzW.D V izu 4
theorem HzF (x1:(List ByteArray)) (x2:(List ByteArray)):izs (x1,(x2,()))=cnd (ine (len x1) (len x2)) (some ((false,()),())) (oz4 (x1,(x2,(0,())))):=(FnD.eq V izu fzW (x1,(x2,()))).trans (by kernel_rfl)
theorem Fzb (x1:(List ByteArray)) (x2:(List ByteArray)) (x3:Int):oz4 (x1,(x2,(x3,())))=cnd (ilt x3 (len x1)) (cnd (inb x3 (len x1)) (cnd (inb x3 (len x2)) (cnd (sne (rd (bs []) x1 x3) (rd (bs []) x2 x3)) (some ((false,()),())) (oz4 (x1,(x2,((iadd .i64 x3 1),()))))) none) none) (some ((true,()),())):=(FnD.eqC V izu fzW 4 (x1,(x2,(x3,())))).trans (by kernel_rfl)
theorem yzp:CallsOk Tryz.prog gls gvs 32 qzF:=FnD.ok (F:=fzW) (cs:=izu) V_ok kN Tryz.func32 (by decide) (by kernel_rfl)
noncomputable def nz1:FnD:={f:=30,fn:=Tryz.f30,ps:=[pa kzO,pa kzO],rs:=[rt .bool]}
noncomputable def tzI:List (Nat×Sig):=[(65,Az1),(32,qzF)]
noncomputable def ozq:gzN×gzN×Unit→Option ((Bool×Unit)×Unit):=nz1.d V tzI
noncomputable abbrev Bzg:Sig:=nz1.t.sig ozq
theorem Kzn (x1:gzN) (x2:gzN):ozq (x1,(x2,()))=bnd (kzw (x1.1,(x2.1,()))) (fun r2=>(cnd (bnot r2.1.1) (some ((false,()),())) (bnd (kzw (x1.2.1,(x2.2.1,()))) (fun r3=>(cnd (bnot r3.1.1) (some ((false,()),())) (cnd (sne x1.2.2.1 x2.2.2.1) (some ((false,()),())) (cnd (ine x1.2.2.2.1 x2.2.2.2.1) (some ((false,()),())) (bnd (izs (x1.2.2.2.2.1,(x2.2.2.2.2.1,()))) (fun r4=>(cnd (bnot r4.1.1) (some ((false,()),())) (cnd (ine x1.2.2.2.2.2.1 x2.2.2.2.2.2.1) (some ((false,()),())) (some ((true,()),()))))))))))))):=(FnD.eq V tzI nz1 (x1,(x2,()))).trans (by kernel_rfl)
theorem Kzt:CallsOk Tryz.prog gls gvs 30 Bzg:=FnD.ok (F:=nz1) (cs:=tzI) V_ok (kC Mzw (kC yzp kN)) Tryz.func30 (by decide) (by kernel_rfl)
noncomputable def mzU:FnD:={f:=31,fn:=Tryz.f31,ps:=[pa (.sl (.int .i64)),pa (.sl (.int .i64))],rs:=[rt .bool],cuts:=[(4,[.val 0 (.sl (.int .i64)) .sh, .val 1 (.sl (.int .i64)) .sh, .val 5 (.int .i64) .sh])]}
noncomputable def pz9:List (Nat×Sig):=[]
noncomputable def uzB:(List Int)× (List Int)×Unit→Option ((Bool×Unit)×Unit):=mzU.d V pz9
noncomputable abbrev Iz4:Sig:=mzU.t.sig uzB
noncomputable def wzX:(List Int)× (List Int)×Int×Unit→Option ((Bool×Unit)×Unit):=mzU.D V pz9 4
theorem Rz2 (x1:(List Int)) (x2:(List Int)):uzB (x1,(x2,()))=cnd (ine (len x1) (len x2)) (some ((false,()),())) (wzX (x1,(x2,(0,())))):=(FnD.eq V pz9 mzU (x1,(x2,()))).trans (by kernel_rfl)
theorem Ozc (x1:(List Int)) (x2:(List Int)) (x3:Int):wzX (x1,(x2,(x3,())))=cnd (ilt x3 (len x1)) (cnd (inb x3 (len x1)) (cnd (inb x3 (len x2)) (cnd (ine (rd 0 x1 x3) (rd 0 x2 x3)) (some ((false,()),())) (wzX (x1,(x2,((iadd .i64 x3 1),()))))) none) none) (some ((true,()),())):=(FnD.eqC V pz9 mzU 4 (x1,(x2,(x3,())))).trans (by kernel_rfl)
theorem Sz0:CallsOk Tryz.prog gls gvs 31 Iz4:=FnD.ok (F:=mzU) (cs:=pz9) V_ok kN Tryz.func31 (by decide) (by kernel_rfl)
noncomputable def rzB:FnD:={f:=9,fn:=Tryz.f9,ps:=[pa gzp,pa gzp],rs:=[rt .bool]}
noncomputable def wz4:List (Nat×Sig):=[(28,Ezb),(29,Ezq),(30,Bzg),(31,Iz4),(32,qzF)]
noncomputable def rzH:dzp×dzp×Unit→Option ((Bool×Unit)×Unit):=rzB.d V wz4
noncomputable abbrev Ez0:Sig:=rzB.t.sig rzH
theorem Qza (x1:dzp) (x2:dzp):rzH (x1,(x2,()))=bnd (szs (x1.1,(x2.1,()))) (fun r2=>(cnd (bnot r2.1.1) (some ((false,()),())) (bnd (rzy (x1.2.1,(x2.2.1,()))) (fun r3=>(cnd (bnot r3.1.1) (some ((false,()),())) (bnd (ozq (x1.2.2.1,(x2.2.2.1,()))) (fun r4=>(cnd (bnot r4.1.1) (some ((false,()),())) (bnd (uzB (x1.2.2.2.1,(x2.2.2.2.1,()))) (fun r5=>(cnd (bnot r5.1.1) (some ((false,()),())) (bnd (izs (x1.2.2.2.2.1,(x2.2.2.2.2.1,()))) (fun r6=>(cnd (bnot r6.1.1) (some ((false,()),())) (some ((true,()),())))))))))))))))):=(FnD.eq V wz4 rzB (x1,(x2,()))).trans (by kernel_rfl)
theorem Ozt:CallsOk Tryz.prog gls gvs 9 Ez0:=FnD.ok (F:=rzB) (cs:=wz4) V_ok (kC Nz2 (kC Pzt (kC Kzt (kC Sz0 (kC yzp kN))))) Tryz.func9 (by decide) (by kernel_rfl)
noncomputable def dzO:FnD:={f:=3,fn:=Tryz.f3,ps:=[pa gzp,pa (.int .i64),pa .str],rs:=[rt .bool]}
noncomputable def gzL:List (Nat×Sig):=[(5,EzY),(7,Dz0),(6,AzJ),(8,Czg),(9,Ez0)]
noncomputable def gzT:dzp×Int×ByteArray×Unit→Option ((Bool×Unit)×Unit):=dzO.d V gzL
noncomputable abbrev uzZ:Sig:=dzO.t.sig gzT
theorem uzT (x1:dzp) (x2:Int) (x3:ByteArray):gzT (x1,(x2,(x3,())))=cnd (igt (ssz x3) 1048576) (some ((true,()),())) (bnd (rzu (x1,(1048576,()))) (fun r3=>(cnd (ilt r3.1.1 0) (some ((true,()),())) (bnd (jzR (x1,())) (fun r4=>(bnd (kzs (r4.1.1,(x2,(x3,())))) (fun r5=>(bnd (jzR (x1,())) (fun r6=>(bnd (kzn (r6.1.1,(x2,(x3,())))) (fun r7=>(cnd (bneB r7.1.1 r5.1.1) (some ((false,()),())) (bnd (jzR (x1,())) (fun r8=>(bnd (rzH (r6.1.1,(r8.1.1,()))) (fun r9=>(cnd (bnot r9.1.1) (some ((false,()),())) (some ((true,()),()))))))))))))))))))):=(FnD.eq V gzL dzO (x1,(x2,(x3,())))).trans (by kernel_rfl)
theorem vzJ:CallsOk Tryz.prog gls gvs 3 uzZ:=FnD.ok (F:=dzO) (cs:=gzL) V_ok (kC Pzn (kC Pzh (kC Lzh (kC Lza (kC Ozt kN))))) Tryz.func3 (by decide) (by kernel_rfl)
end Go.Proofs.YthldgfkkgmpmlaaGreatDoor
