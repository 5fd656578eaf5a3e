/- What the functions come to: printed by program. Of no condition. -/
import Derived.Test.YthldgfkkgmpmlaaGreatDoorAa
set_option linter.unusedVariables false
set_option maxRecDepth 100000
namespace Go.Proofs.YthldgfkkgmpmlaaGreatDoor
open Go.TV
noncomputable def lzT:FnD:={f:=234,fn:=Tryz.f234,ps:=[pa (.int .i64),pa (.int .i64)],rs:=[rt (.int .i64)]}
noncomputable def qzJ:List (Nat×Sig):=[]
noncomputable def czW:Int×Int×Unit→Option ((Int×Unit)×Unit):=lzT.d V qzJ
noncomputable abbrev fz5:Sig:=lzT.t.sig czW
theorem Hzf (x1:Int) (x2:Int):czW (x1,(x2,()))=cnd (nz x2) (cnd (ilt (irem x1 x2) 0) (some (((iadd .i64 (irem x1 x2) x2),()),())) (some (((irem x1 x2),()),()))) none:=(FnD.eq V qzJ lzT (x1,(x2,()))).trans (by kernel_rfl)
theorem izW:CallsOk Tryz.prog gls gvs 234 fz5:=FnD.ok (F:=lzT) (cs:=qzJ) V_ok kN Tryz.func234 (by decide) (by kernel_rfl)
noncomputable def fzC:FnD:={f:=173,fn:=Tryz.f173,ps:=[pa (.int .i64)],rs:=[⟨(.sl (.int .i64)),(.own 0 .sh),false⟩],cuts:=[(4,[.val 0 (.int .i64) .sh, .val 3 (.sl (.int .i64)) (.own 0 .sh), .val 7 (.int .i64) .sh])]}
noncomputable def izQ:List (Nat×Sig):=[(234,fz5)]
noncomputable def lzH:Int×Unit→Option (((List Int)×Unit)×Unit):=fzC.d V izQ
noncomputable abbrev yzB:Sig:=fzC.t.sig lzH
noncomputable def jzI:Int× (List Int)×Int×Unit→Option (((List Int)×Unit)×Unit):=fzC.D V izQ 4
theorem HzS (x1:Int):lzH (x1,())=bnd (czW (x1,(1000,()))) (fun r1=>(jzI (r1.1.1,(([]:List Int),(0,()))))):=(FnD.eq V izQ fzC (x1,())).trans (by kernel_rfl)
theorem uzO (x1:Int) (x2:(List Int)) (x3:Int):jzI (x1,(x2,(x3,())))=cnd (ilt x3 8) (cnd (nz 1007) (cnd (fits ((len x2)+(len ((iadd .i64 1 (irem (iadd .i64 (iadd .i64 (imul .i64 x1 31) (imul .i64 x3 57)) 7) 1007))::([]:List Int)))) 1) (jzI (x1,((app x2 ((iadd .i64 1 (irem (iadd .i64 (iadd .i64 (imul .i64 x1 31) (imul .i64 x3 57)) 7) 1007))::([]:List Int))),((iadd .i64 x3 1),())))) none) none) (some ((x2,()),())):=(FnD.eqC V izQ fzC 4 (x1,(x2,(x3,())))).trans (by kernel_rfl)
theorem Hzx:CallsOk Tryz.prog gls gvs 173 yzB:=FnD.ok (F:=fzC) (cs:=izQ) V_ok (kC izW kN) Tryz.func173 (by decide) (by kernel_rfl)
noncomputable def Gze:FnD:={f:=236,fn:=Tryz.f236,ps:=[pa (.int .i64)],rs:=[rt (.int .i64)]}
noncomputable def Lz8:List (Nat×Sig):=[(234,fz5)]
noncomputable def Gz6:Int×Unit→Option ((Int×Unit)×Unit):=Gze.d V Lz8
noncomputable abbrev RzA:Sig:=Gze.t.sig Gz6
theorem Xzd (x1:Int):Gz6 (x1,())=bnd (czW (x1,(1009,()))) (fun r1=>(some ((r1.1.1,()),()))):=(FnD.eq V Lz8 Gze (x1,())).trans (by kernel_rfl)
theorem Wzj:CallsOk Tryz.prog gls gvs 236 RzA:=FnD.ok (F:=Gze) (cs:=Lz8) V_ok (kC izW kN) Tryz.func236 (by decide) (by kernel_rfl)
noncomputable def GzA:FnD:={f:=237,fn:=Tryz.f237,ps:=[],rs:=[rt azJ]}
noncomputable def LzN:List (Nat×Sig):=[]
noncomputable def Kzk:Unit→Option ((azn×Unit)×Unit):=GzA.d V LzN
noncomputable abbrev Tzq:Sig:=GzA.t.sig Kzk
theorem Wzk:Kzk ()=some (((8445,(859,(false,()))),()),()):=(FnD.eq V LzN GzA ()).trans (by kernel_rfl)
theorem Wzo:CallsOk Tryz.prog gls gvs 237 Tzq:=FnD.ok (F:=GzA) (cs:=LzN) V_ok kN Tryz.func237 (by decide) (by kernel_rfl)
noncomputable def Fzd:FnD:={f:=349,fn:=Tryz.f349,ps:=[pa (.int .i64)],rs:=[rt .bool]}
noncomputable def KzS:List (Nat×Sig):=[]
noncomputable def zz5:Int×Unit→Option ((Bool×Unit)×Unit):=Fzd.d V KzS
noncomputable abbrev Rzh:Sig:=Fzd.t.sig zz5
theorem Wz3 (x1:Int):zz5 (x1,())=cnd (ige x1 0) (some (((ilt x1 12107),()),())) (some ((false,()),())):=(FnD.eq V KzS Fzd (x1,())).trans (by kernel_rfl)
theorem Wzr:CallsOk Tryz.prog gls gvs 349 Rzh:=FnD.ok (F:=Fzd) (cs:=KzS) V_ok kN Tryz.func349 (by decide) (by kernel_rfl)
noncomputable def GzZ:FnD:={f:=362,fn:=Tryz.f362,ps:=[pa (.int .i64)],rs:=[rt (.int .i64)]}
noncomputable def KzH:List (Nat×Sig):=[(234,fz5)]
noncomputable def iz6:Int×Unit→Option ((Int×Unit)×Unit):=GzZ.d V KzH
noncomputable abbrev Gzn:Sig:=GzZ.t.sig iz6
theorem WzN (x1:Int):iz6 (x1,())=bnd (czW (x1,(12107,()))) (fun r1=>(some ((r1.1.1,()),()))):=(FnD.eq V KzH GzZ (x1,())).trans (by kernel_rfl)
theorem Kzl:CallsOk Tryz.prog gls gvs 362 Gzn:=FnD.ok (F:=GzZ) (cs:=KzH) V_ok (kC izW kN) Tryz.func362 (by decide) (by kernel_rfl)
noncomputable def zzA:FnD:={f:=350,fn:=Tryz.f350,ps:=[pa (.int .i64),pa (.int .i64)],rs:=[rt (.int .i64)]}
noncomputable def Fzt:List (Nat×Sig):=[(362,Gzn)]
noncomputable def ezj:Int×Int×Unit→Option ((Int×Unit)×Unit):=zzA.d V Fzt
noncomputable abbrev vzi:Sig:=zzA.t.sig ezj
theorem UzQ (x1:Int) (x2:Int):ezj (x1,(x2,()))=bnd (iz6 (x1,())) (fun r2=>(bnd (iz6 (x2,())) (fun r3=>(bnd (iz6 ((imul .i64 r2.1.1 r3.1.1),())) (fun r4=>(some ((r4.1.1,()),()))))))):=(FnD.eq V Fzt zzA (x1,(x2,()))).trans (by kernel_rfl)
theorem zzQ:CallsOk Tryz.prog gls gvs 350 vzi:=FnD.ok (F:=zzA) (cs:=Fzt) V_ok (kC Kzl kN) Tryz.func350 (by decide) (by kernel_rfl)
noncomputable def zzt:FnD:={f:=363,fn:=Tryz.f363,ps:=[pa (.int .i64),pa (.int .i64)],rs:=[rt (.int .i64)]}
noncomputable def Fzg:List (Nat×Sig):=[(362,Gzn)]
noncomputable def vza:Int×Int×Unit→Option ((Int×Unit)×Unit):=zzt.d V Fzg
noncomputable abbrev Fzq:Sig:=zzt.t.sig vza
theorem Vzr (x1:Int) (x2:Int):vza (x1,(x2,()))=bnd (iz6 (x1,())) (fun r2=>(bnd (iz6 (x2,())) (fun r3=>(bnd (iz6 ((iadd .i64 r2.1.1 r3.1.1),())) (fun r4=>(some ((r4.1.1,()),()))))))):=(FnD.eq V Fzg zzt (x1,(x2,()))).trans (by kernel_rfl)
theorem Mz0:CallsOk Tryz.prog gls gvs 363 Fzq:=FnD.ok (F:=zzt) (cs:=Fzg) V_ok (kC Kzl kN) Tryz.func363 (by decide) (by kernel_rfl)
noncomputable def rzR:FnD:={f:=328,fn:=Tryz.f328,ps:=[pa (.int .i64)],rs:=[rt (.int .i64)]}
noncomputable def wzU:List (Nat×Sig):=[(350,vzi),(363,Fzq)]
noncomputable def rzj:Int×Unit→Option ((Int×Unit)×Unit):=rzR.d V wzU
noncomputable abbrev Ez8:Sig:=rzR.t.sig rzj
theorem OzB (x1:Int):rzj (x1,())=bnd (ezj (x1,(x1,()))) (fun r1=>(bnd (ezj (r1.1.1,(x1,()))) (fun r2=>(bnd (vza (r2.1.1,(x1,()))) (fun r3=>(some ((r3.1.1,()),()))))))):=(FnD.eq V wzU rzR (x1,())).trans (by kernel_rfl)
theorem Qzc:CallsOk Tryz.prog gls gvs 328 Ez8:=FnD.ok (F:=rzR) (cs:=wzU) V_ok (kC zzQ (kC Mz0 kN)) Tryz.func328 (by decide) (by kernel_rfl)
noncomputable def rzE:FnD:={f:=302,fn:=Tryz.f302,ps:=[pa azJ],rs:=[rt .bool]}
noncomputable def xzx:List (Nat×Sig):=[(349,Rzh),(350,vzi),(328,Ez8)]
noncomputable def kza:azn×Unit→Option ((Bool×Unit)×Unit):=rzE.d V xzx
noncomputable abbrev szd:Sig:=rzE.t.sig kza
theorem PzD (x1:azn):kza (x1,())=cnd x1.2.2.1 (cnd (ieq x1.1 0) (some (((ieq x1.2.1 0),()),())) (some ((false,()),()))) (bnd (zz5 (x1.1,())) (fun r1=>(cnd r1.1.1 (bnd (zz5 (x1.2.1,())) (fun r2=>(cnd r2.1.1 (bnd (ezj (x1.2.1,(x1.2.1,()))) (fun r3=>(bnd (rzj (x1.1,())) (fun r4=>(some (((ieq r3.1.1 r4.1.1),()),())))))) (some ((false,()),()))))) (some ((false,()),()))))):=(FnD.eq V xzx rzE (x1,())).trans (by kernel_rfl)
theorem wzT:CallsOk Tryz.prog gls gvs 302 szd:=FnD.ok (F:=rzE) (cs:=xzx) V_ok (kC Wzr (kC zzQ (kC Qzc kN))) Tryz.func302 (by decide) (by kernel_rfl)
noncomputable def zzw:FnD:={f:=352,fn:=Tryz.f352,ps:=[pa (.int .i64),pa (.int .i64)],rs:=[rt (.int .i64)]}
noncomputable def GzT:List (Nat×Sig):=[(362,Gzn)]
noncomputable def jzF:Int×Int×Unit→Option ((Int×Unit)×Unit):=zzw.d V GzT
noncomputable abbrev GzE:Sig:=zzw.t.sig jzF
theorem TzY (x1:Int) (x2:Int):jzF (x1,(x2,()))=bnd (iz6 (x1,())) (fun r2=>(bnd (iz6 (x2,())) (fun r3=>(bnd (iz6 ((isub .i64 r2.1.1 r3.1.1),())) (fun r4=>(some ((r4.1.1,()),()))))))):=(FnD.eq V GzT zzw (x1,(x2,()))).trans (by kernel_rfl)
theorem Nzs:CallsOk Tryz.prog gls gvs 352 GzE:=FnD.ok (F:=zzw) (cs:=GzT) V_ok (kC Kzl kN) Tryz.func352 (by decide) (by kernel_rfl)
noncomputable def dzQ:FnD:={f:=361,fn:=Tryz.f361,ps:=[pa (.int .i64),pa (.int .i64),pa (.int .i64)],rs:=[rt (.int .i64)],joins:=[6],cuts:=[(6,[.val 0 (.int .i64) .sh, .val 1 (.int .i64) .sh, .val 2 (.int .i64) .sh, .val 7 (.int .i64) .sh]),(3,[.val 0 (.int .i64) .sh, .val 1 (.int .i64) .sh, .val 2 (.int .i64) .sh, .val 7 (.int .i64) .sh])]}
noncomputable def fzu:List (Nat×Sig):=[(234,fz5)]
noncomputable def kzi:Int×Int×Int×Unit→Option ((Int×Unit)×Unit):=dzQ.d V fzu
noncomputable abbrev BzN:Sig:=dzQ.t.sig kzi
noncomputable def qzy:Int×Int×Int×Int×Unit→Option ((Int×Unit)×Unit):=dzQ.D V fzu 6
noncomputable def lzk:Int×Int×Int×Int×Unit→Option ((Int×Unit)×Unit):=dzQ.D V fzu 3
theorem LzH (x1:Int) (x2:Int) (x3:Int):kzi (x1,(x2,(x3,())))=bnd (czW (x1,(x3,()))) (fun r3=>(lzk (r3.1.1,(x2,(x3,(1,())))))):=(FnD.eq V fzu dzQ (x1,(x2,(x3,())))).trans (by kernel_rfl)
theorem xz3 (x1:Int) (x2:Int) (x3:Int) (x4:Int):qzy (x1,(x2,(x3,(x4,()))))=cnd (nz x3) (cnd (nz 2) (lzk ((irem (imul .i64 x1 x1) x3),((iquo .i64 x2 2),(x3,(x4,()))))) none) none:=(FnD.eqC V fzu dzQ 6 (x1,(x2,(x3,(x4,()))))).trans (by kernel_rfl)
theorem JzB (x1:Int) (x2:Int) (x3:Int) (x4:Int):lzk (x1,(x2,(x3,(x4,()))))=cnd (igt x2 0) (cnd (nz 2) (cnd (ieq (irem x2 2) 1) (cnd (nz x3) (qzy (x1,(x2,(x3,((irem (imul .i64 x4 x1) x3),()))))) none) (qzy (x1,(x2,(x3,(x4,())))))) none) (some ((x4,()),())):=(FnD.eqC V fzu dzQ 3 (x1,(x2,(x3,(x4,()))))).trans (by kernel_rfl)
theorem Lzl:CallsOk Tryz.prog gls gvs 361 BzN:=FnD.ok (F:=dzQ) (cs:=fzu) V_ok (kC izW kN) Tryz.func361 (by decide) (by kernel_rfl)
noncomputable def zzu:FnD:={f:=377,fn:=Tryz.f377,ps:=[pa (.int .i64)],rs:=[rt (.int .i64)]}
noncomputable def GzP:List (Nat×Sig):=[(361,BzN)]
noncomputable def uzH:Int×Unit→Option ((Int×Unit)×Unit):=zzu.d V GzP
noncomputable abbrev MzU:Sig:=zzu.t.sig uzH
theorem Vzp (x1:Int):uzH (x1,())=bnd (kzi (x1,(12105,(12107,())))) (fun r1=>(some ((r1.1.1,()),()))):=(FnD.eq V GzP zzu (x1,())).trans (by kernel_rfl)
theorem Vzv:CallsOk Tryz.prog gls gvs 377 MzU:=FnD.ok (F:=zzu) (cs:=GzP) V_ok (kC Lzl kN) Tryz.func377 (by decide) (by kernel_rfl)
noncomputable def szn:FnD:={f:=351,fn:=Tryz.f351,ps:=[pa azJ,pa azJ],rs:=[rt (.int .i64),rt .bool]}
noncomputable def xzY:List (Nat×Sig):=[(352,GzE),(377,MzU),(350,vzi),(363,Fzq)]
noncomputable def rzr:azn×azn×Unit→Option ((Int×Bool×Unit)×Unit):=szn.d V xzY
noncomputable abbrev Ez4:Sig:=szn.t.sig rzr
theorem Pz6 (x1:azn) (x2:azn):rzr (x1,(x2,()))=cnd (ine x1.1 x2.1) (bnd (jzF (x2.2.1,(x1.2.1,()))) (fun r2=>(bnd (jzF (x2.1,(x1.1,()))) (fun r3=>(bnd (uzH (r3.1.1,())) (fun r4=>(bnd (ezj (r2.1.1,(r4.1.1,()))) (fun r5=>(some ((r5.1.1,(true,())),())))))))))) (cnd (ine x1.2.1 x2.2.1) (some ((0,(false,())),())) (cnd (ieq x1.2.1 0) (some ((0,(false,())),())) (bnd (ezj (x1.1,(x1.1,()))) (fun r2=>(bnd (ezj (3,(r2.1.1,()))) (fun r3=>(bnd (vza (r3.1.1,(1,()))) (fun r4=>(bnd (ezj (2,(x1.2.1,()))) (fun r5=>(bnd (uzH (r5.1.1,())) (fun r6=>(bnd (ezj (r4.1.1,(r6.1.1,()))) (fun r7=>(some ((r7.1.1,(true,())),())))))))))))))))):=(FnD.eq V xzY szn (x1,(x2,()))).trans (by kernel_rfl)
theorem Pz0:CallsOk Tryz.prog gls gvs 351 Ez4:=FnD.ok (F:=szn) (cs:=xzY) V_ok (kC Nzs (kC Vzv (kC zzQ (kC Mz0 kN)))) Tryz.func351 (by decide) (by kernel_rfl)
noncomputable def Mz4:FnD:={f:=303,fn:=Tryz.f303,ps:=[pa azJ,pa azJ],rs:=[rt azJ]}
noncomputable def Szo:List (Nat×Sig):=[(351,Ez4),(350,vzi),(352,GzE)]
noncomputable def DzR:azn×azn×Unit→Option ((azn×Unit)×Unit):=Mz4.d V Szo
noncomputable abbrev VzC:Sig:=Mz4.t.sig DzR
theorem iAdd_b (x1:azn) (x2:azn):DzR (x1,(x2,()))=cnd x1.2.2.1 (some ((x2,()),())) (cnd x2.2.2.1 (some ((x1,()),())) (bnd (rzr (x1,(x2,()))) (fun r2=>(cnd (bnot r2.1.2.1) (some (((0,(0,(true,()))),()),())) (bnd (ezj (r2.1.1,(r2.1.1,()))) (fun r3=>(bnd (jzF (r3.1.1,(x1.1,()))) (fun r4=>(bnd (jzF (r4.1.1,(x2.1,()))) (fun r5=>(bnd (jzF (x1.1,(r5.1.1,()))) (fun r6=>(bnd (ezj (r2.1.1,(r6.1.1,()))) (fun r7=>(bnd (jzF (r7.1.1,(x1.2.1,()))) (fun r8=>(some (((r5.1.1,(r8.1.1,(false,()))),()),())))))))))))))))))):=(FnD.eq V Szo Mz4 (x1,(x2,()))).trans (by kernel_rfl)
theorem iAdd_k:CallsOk Tryz.prog gls gvs 303 VzC:=FnD.ok (F:=Mz4) (cs:=Szo) V_ok (kC Pz0 (kC zzQ (kC Nzs kN))) Tryz.func303 (by decide) (by kernel_rfl)
noncomputable def ezp:FnD:={f:=235,fn:=Tryz.f235,ps:=[pa (.int .i64),pa azJ],rs:=[rt azJ],cuts:=[(5,[.val 0 (.int .i64) .sh, .box 3 azJ .sh, .box 4 azJ .sh, .box 5 azJ .sh, .ptr 3 3 0, .ptr 4 4 0, .ptr 5 5 0])]}
noncomputable def gzC:List (Nat×Sig):=[(302,szd),(234,fz5),(303,VzC)]
noncomputable def gzo:Int×azn×Unit→Option ((azn×Unit)×Unit):=ezp.d V gzC
noncomputable abbrev oz2:Sig:=ezp.t.sig gzo
noncomputable def ez5:Int×azn×azn×azn×Unit→Option ((azn×Unit)×Unit):=ezp.D V gzC 5
theorem FzS (x1:Int) (x2:azn):gzo (x1,(x2,()))=bnd (kza (x2,())) (fun r2=>(cnd (bnot r2.1.1) (some (((0,(0,(true,()))),()),())) (bnd (czW (x1,(12108,()))) (fun r3=>(ez5 (r3.1.1,(x2,(fzy,((0,(0,(true,()))),()))))))))):=(FnD.eq V gzC ezp (x1,(x2,()))).trans (by kernel_rfl)
theorem sz2 (x1:Int) (x2:azn) (x3:azn) (x4:azn):ez5 (x1,(x2,(x3,(x4,()))))=cnd (igt x1 0) (cnd (nz 2) (cnd (ieq (irem x1 2) 1) (bnd (DzR (x4,(x2,()))) (fun r4=>(bnd (DzR (x2,(x2,()))) (fun r5=>(cnd (nz 2) (ez5 ((iquo .i64 x1 2),(r5.1.1,(x3,(r4.1.1,()))))) none))))) (bnd (DzR (x2,(x2,()))) (fun r4=>(cnd (nz 2) (ez5 ((iquo .i64 x1 2),(r4.1.1,(x3,(x4,()))))) none)))) none) (some ((x4,()),())):=(FnD.eqC V gzC ezp 5 (x1,(x2,(x3,(x4,()))))).trans (by kernel_rfl)
theorem uzA:CallsOk Tryz.prog gls gvs 235 oz2:=FnD.ok (F:=ezp) (cs:=gzC) V_ok (kC wzT (kC izW (kC iAdd_k kN))) Tryz.func235 (by decide) (by kernel_rfl)
noncomputable def zzy:FnD:={f:=174,fn:=Tryz.f174,ps:=[pa (.int .i64)],rs:=[rt azJ]}
noncomputable def GzU:List (Nat×Sig):=[(236,RzA),(237,Tzq),(235,oz2)]
noncomputable def zzJ:Int×Unit→Option ((azn×Unit)×Unit):=zzy.d V GzU
noncomputable abbrev NzW:Sig:=zzy.t.sig zzJ
theorem Vzs (x1:Int):zzJ (x1,())=bnd (Gz6 (x1,())) (fun r1=>(bnd (Kzk ()) (fun r2=>(bnd (gzo (r1.1.1,(r2.1.1,()))) (fun r3=>(some ((r3.1.1,()),()))))))):=(FnD.eq V GzU zzy (x1,())).trans (by kernel_rfl)
theorem Tz7:CallsOk Tryz.prog gls gvs 174 NzW:=FnD.ok (F:=zzy) (cs:=GzU) V_ok (kC Wzj (kC Wzo (kC uzA kN))) Tryz.func174 (by decide) (by kernel_rfl)
noncomputable def dzE:FnD:={f:=102,fn:=Tryz.f102,ps:=[pa (.int .i64)],rs:=[⟨azp,(.pr (.own 0 .sh) .sh),false⟩],cuts:=[(3,[.val 7 (.sl (.int .i64)) (.own 0 .sh), .val 8 (.int .i64) .sh, .val 9 (.int .i64) .sh, .box 2 azp (.pr (.own 0 .sh) .sh), .box 3 azp (.pr (.own 0 .sh) .sh), .ptr 2 2 0, .ptr 3 3 0])]}
noncomputable def ez9:List (Nat×Sig):=[(173,yzB),(174,NzW)]
noncomputable def izk:Int×Unit→Option ((azh×Unit)×Unit):=dzE.d V ez9
noncomputable abbrev szQ:Sig:=dzE.t.sig izk
noncomputable def gzx:(List Int)×Int×Int×azh×azh×Unit→Option ((azh×Unit)×Unit):=dzE.D V ez9 3
theorem CzG (x1:Int):izk (x1,())=bnd (lzH (x1,())) (fun r1=>(gzx (r1.1.1,((len r1.1.1),(0,(kzh,(kzh,()))))))):=(FnD.eq V ez9 dzE (x1,())).trans (by kernel_rfl)
theorem qzb (x1:(List Int)) (x2:Int) (x3:Int) (x4:azh) (x5:azh):gzx (x1,(x2,(x3,(x4,(x5,())))))=cnd (ilt x3 x2) (cnd (inb x3 (len x1)) (bnd (zzJ ((rd 0 x1 x3),())) (fun r5=>(cnd (fits ((len x5.1)+(len (r5.1.1::([]:List azn)))) 3) (gzx (x1,(x2,((iadd .i64 x3 1),(x4,(((app x5.1 (r5.1.1::([]:List azn))),x5.2),())))))) none))) none) (some ((x5,()),())):=(FnD.eqC V ez9 dzE 3 (x1,(x2,(x3,(x4,(x5,())))))).trans (by kernel_rfl)
theorem CzN:CallsOk Tryz.prog gls gvs 102 szQ:=FnD.ok (F:=dzE) (cs:=ez9) V_ok (kC Hzx (kC Tz7 kN)) Tryz.func102 (by decide) (by kernel_rfl)
noncomputable def ezq:FnD:={f:=59,fn:=Tryz.f59,ps:=[pa bzY,pa (.int .i64)],rs:=[⟨azp,(.pr (.own 0 .sh) .sh),false⟩]}
noncomputable def hzI:List (Nat×Sig):=[(103,Hzp),(102,szQ)]
noncomputable def bzF:azH×Int×Unit→Option ((azh×Unit)×Unit):=ezq.d V hzI
noncomputable abbrev hzO:Sig:=ezq.t.sig bzF
theorem wzG (x1:azH) (x2:Int):bzF (x1,(x2,()))=bnd (AzN (x1,(x2,()))) (fun r2=>(bnd (izk (r2.1.1,())) (fun r3=>(some ((r3.1.1,()),()))))):=(FnD.eq V hzI ezq (x1,(x2,()))).trans (by kernel_rfl)
theorem nzw:CallsOk Tryz.prog gls gvs 59 hzO:=FnD.ok (F:=ezq) (cs:=hzI) V_ok (kC Szv (kC CzN kN)) Tryz.func59 (by decide) (by kernel_rfl)
noncomputable def azV:FnD:={f:=293,fn:=Tryz.f293,ps:=[⟨(.sl (.int .u8)),(.own 1 .sh),true,false,none⟩],rs:=[],fz:=[1000000003002012,1000000003003012],cuts:=[(1,[.val 0 (.sl (.int .u8)) (.own 1 .sh), .val 2 (.int .i64) .sh, .val 3 (.int .i64) .sh])]}
noncomputable def az8:List (Nat×Sig):=[]
noncomputable def azo:(List Int)×Unit→Option ((Unit)× (List Int)×Unit):=azV.d V az8
noncomputable abbrev dzM:Sig:=azV.t.sig azo
noncomputable def aze:(List Int)×Int×Int×Unit→Option ((Unit)× (List Int)×Unit):=azV.D V az8 1
theorem azB (x1:(List Int)):azo (x1,())=aze (x1,(0,((isub .i64 (len x1) 1),()))):=(FnD.eq V az8 azV (x1,())).trans (by kernel_rfl)
theorem azf (x1:(List Int)) (x2:Int) (x3:Int):aze (x1,(x2,(x3,())))=cnd (ilt x2 x3) (cnd (inb x3 (len x1)) (cnd (inb x2 (len x1)) (cnd (inb x2 (len x1)) (cnd (inb x3 (len (upd x1 x2 (rd 0 x1 x3)))) (aze ((upd (upd x1 x2 (rd 0 x1 x3)) x3 (rd 0 x1 x2)),((iadd .i64 x2 1),((isub .i64 x3 1),())))) none) none) none) none) (some ((),(x1,()))):=(FnD.eqC V az8 azV 1 (x1,(x2,(x3,())))).trans (by kernel_rfl)
theorem jzt:CallsOk Tryz.prog gls gvs 293 dzM:=FnD.ok (F:=azV) (cs:=az8) V_ok kN Tryz.func293 (by decide) (by kernel_rfl)
noncomputable def jzZ:FnD:={f:=228,fn:=Tryz.f228,ps:=[pa (.int .i64)],rs:=[rt .str],cuts:=[(2,[.val 0 (.int .i64) .sh, .val 3 (.sl (.int .u8)) (.own 0 .sh)])]}
noncomputable def mzP:List (Nat×Sig):=[(293,dzM)]
noncomputable def hzj:Int×Unit→Option ((ByteArray×Unit)×Unit):=jzZ.d V mzP
noncomputable abbrev rzw:Sig:=jzZ.t.sig hzj
noncomputable def hzA:Int× (List Int)×Unit→Option ((ByteArray×Unit)×Unit):=jzZ.D V mzP 2
theorem PzM (x1:Int):hzj (x1,())=hzA (x1,(([]:List Int),())):=(FnD.eq V mzP jzZ (x1,())).trans (by kernel_rfl)
theorem Czr (x1:Int) (x2:(List Int)):hzA (x1,(x2,()))=cnd (igt x1 0) (cnd (fits ((len x2)+(len ((azx .u8 x1)::([]:List Int)))) 1) (cnd (nn 8) (hzA ((ishr .i64 x1 8),((app x2 ((azx .u8 x1)::([]:List Int))),()))) none) none) (bnd (azo (x2,())) (fun r2=>(some (((sof r2.2.1),()),())))):=(FnD.eqC V mzP jzZ 2 (x1,(x2,()))).trans (by kernel_rfl)
theorem xzK:CallsOk Tryz.prog gls gvs 228 rzw:=FnD.ok (F:=jzZ) (cs:=mzP) V_ok (kC jzt kN) Tryz.func228 (by decide) (by kernel_rfl)
noncomputable def gzd:FnD:={f:=160,fn:=Tryz.f160,ps:=[pa .str],rs:=[⟨(.sl (.int .i64)),(.own 0 .sh),false⟩],cuts:=[(3,[.val 0 .str .sh, .val 3 (.sl (.int .i64)) (.own 0 .sh), .val 4 (.int .i64) .sh])]}
noncomputable def izt:List (Nat×Sig):=[]
noncomputable def bzQ:ByteArray×Unit→Option (((List Int)×Unit)×Unit):=gzd.d V izt
noncomputable abbrev czZ:Sig:=gzd.t.sig bzQ
noncomputable def gzv:ByteArray× (List Int)×Int×Unit→Option (((List Int)×Unit)×Unit):=gzd.D V izt 3
theorem HzR (x1:ByteArray):bzQ (x1,())=gzv (x1,(([]:List Int),(0,()))):=(FnD.eq V izt gzd (x1,())).trans (by kernel_rfl)
theorem wzi (x1:ByteArray) (x2:(List Int)) (x3:Int):gzv (x1,(x2,(x3,())))=cnd (ilt x3 (ssz x1)) (cnd (inb x3 (ssz x1)) (cnd (nn 4) (cnd (inb x3 (ssz x1)) (cnd (fits ((len x2)+(len ((azx .i64 (ishr .u8 (sat x1 x3) 4))::((azx .i64 (iand .u8 (sat x1 x3) 15))::([]:List Int))))) 1) (gzv (x1,((app x2 ((azx .i64 (ishr .u8 (sat x1 x3) 4))::((azx .i64 (iand .u8 (sat x1 x3) 15))::([]:List Int)))),((iadd .i64 x3 1),())))) none) none) none) none) (some ((x2,()),())):=(FnD.eqC V izt gzd 3 (x1,(x2,(x3,())))).trans (by kernel_rfl)
theorem ezb:CallsOk Tryz.prog gls gvs 160 czZ:=FnD.ok (F:=gzd) (cs:=izt) V_ok kN Tryz.func160 (by decide) (by kernel_rfl)
noncomputable def fzA:FnD:={f:=306,fn:=Tryz.f306,ps:=[pa (.sl (.int .i64))],rs:=[rt .bool],cuts:=[(2,[.val 0 (.sl (.int .i64)) .sh, .val 5 (.sl (.int .i64)) .sh, .val 6 (.int .i64) .sh, .val 7 (.int .i64) .sh])]}
noncomputable def izJ:List (Nat×Sig):=[]
noncomputable def izy:(List Int)×Unit→Option ((Bool×Unit)×Unit):=fzA.d V izJ
noncomputable abbrev zzb:Sig:=fzA.t.sig izy
noncomputable def gzQ:(List Int)× (List Int)×Int×Int×Unit→Option ((Bool×Unit)×Unit):=fzA.D V izJ 2
theorem yzc (x1:(List Int)):izy (x1,())=gzQ (x1,(x1,((len x1),(0,())))):=(FnD.eq V izJ fzA (x1,())).trans (by kernel_rfl)
theorem jzq (x1:(List Int)) (x2:(List Int)) (x3:Int) (x4:Int):gzQ (x1,(x2,(x3,(x4,()))))=cnd (ilt x4 x3) (cnd (inb x4 (len x2)) (cnd (ilt (rd 0 x2 x4) 0) (some ((false,()),())) (cnd (igt (rd 0 x2 x4) 15) (some ((false,()),())) (gzQ (x1,(x2,(x3,((iadd .i64 x4 1),()))))))) none) (some (((ile (len x1) 64),()),())):=(FnD.eqC V izJ fzA 2 (x1,(x2,(x3,(x4,()))))).trans (by kernel_rfl)
theorem IzD:CallsOk Tryz.prog gls gvs 306 zzb:=FnD.ok (F:=fzA) (cs:=izJ) V_ok kN Tryz.func306 (by decide) (by kernel_rfl)
noncomputable def bzK:FnD:={f:=240,fn:=Tryz.f240,ps:=[pa (.sl (.int .i64)),pa .bool],rs:=[rt .str,rt .bool],joins:=[6,9],cuts:=[(6,[.val 0 (.sl (.int .i64)) .sh, .val 6 (.int .i64) .sh]),(9,[.val 0 (.sl (.int .i64)) .sh, .val 6 (.int .i64) .sh]),(11,[.val 0 (.sl (.int .i64)) .sh, .val 7 (.sl (.int .u8)) (.own 0 .sh), .val 8 (.int .i64) .sh])]}
noncomputable def bz5:List (Nat×Sig):=[(306,zzb)]
noncomputable def cz9:(List Int)×Bool×Unit→Option ((ByteArray×Bool×Unit)×Unit):=bzK.d V bz5
noncomputable abbrev ozt:Sig:=bzK.t.sig cz9
noncomputable def hzX:(List Int)×Int×Unit→Option ((ByteArray×Bool×Unit)×Unit):=bzK.D V bz5 6
noncomputable def mzn:(List Int)×Int×Unit→Option ((ByteArray×Bool×Unit)×Unit):=bzK.D V bz5 9
noncomputable def dz1:(List Int)× (List Int)×Int×Unit→Option ((ByteArray×Bool×Unit)×Unit):=bzK.D V bz5 11
theorem uzE (x1:(List Int)) (x2:Bool):cz9 (x1,(x2,()))=bnd (izy (x1,())) (fun r2=>(cnd (bnot r2.1.1) (some (czU,())) (cnd x2 (hzX (x1,(32,()))) (hzX (x1,(0,())))))):=(FnD.eq V bz5 bzK (x1,(x2,()))).trans (by kernel_rfl)
theorem Czv (x1:(List Int)) (x2:Int):hzX (x1,(x2,()))=cnd (nz 2) (cnd (ieq (irem (len x1) 2) 1) (cnd (inb 0 (len x1)) (cnd (inb2 1 (len x1) (len x1)) (mzn ((sub x1 1 (len x1)),((iadd .i64 x2 (iadd .i64 16 (rd 0 x1 0))),()))) none) none) (mzn (x1,(x2,())))) none:=(FnD.eqC V bz5 bzK 6 (x1,(x2,()))).trans (by kernel_rfl)
theorem szV (x1:(List Int)) (x2:Int):mzn (x1,(x2,()))=dz1 (x1,(((azx .u8 x2)::([]:List Int)),(0,()))):=(FnD.eqC V bz5 bzK 9 (x1,(x2,()))).trans (by kernel_rfl)
theorem qzI (x1:(List Int)) (x2:(List Int)) (x3:Int):dz1 (x1,(x2,(x3,())))=cnd (ilt x3 (len x1)) (cnd (inb x3 (len x1)) (cnd (nn 4) (cnd (inb (iadd .i64 x3 1) (len x1)) (cnd (fits ((len x2)+(len ((azx .u8 (ior .i64 (ishl .i64 (rd 0 x1 x3) 4) (rd 0 x1 (iadd .i64 x3 1))))::([]:List Int)))) 1) (dz1 (x1,((app x2 ((azx .u8 (ior .i64 (ishl .i64 (rd 0 x1 x3) 4) (rd 0 x1 (iadd .i64 x3 1))))::([]:List Int))),((iadd .i64 x3 2),())))) none) none) none) none) (some (((sof x2),(true,())),())):=(FnD.eqC V bz5 bzK 11 (x1,(x2,(x3,())))).trans (by kernel_rfl)
theorem uzS:CallsOk Tryz.prog gls gvs 240 ozt:=FnD.ok (F:=bzK) (cs:=bz5) V_ok (kC IzD kN) Tryz.func240 (by decide) (by kernel_rfl)
noncomputable def mzL:FnD:={f:=244,fn:=Tryz.f244,ps:=[pa (.sl (.int .i64)),pa (.sl (.int .i64))],rs:=[rt (.int .i64)],cuts:=[(2,[.val 0 (.sl (.int .i64)) .sh, .val 1 (.sl (.int .i64)) .sh, .val 5 (.int .i64) .sh])]}
noncomputable def qzg:List (Nat×Sig):=[]
noncomputable def nzr:(List Int)× (List Int)×Unit→Option ((Int×Unit)×Unit):=mzL.d V qzg
noncomputable abbrev wzb:Sig:=mzL.t.sig nzr
noncomputable def szl:(List Int)× (List Int)×Int×Unit→Option ((Int×Unit)×Unit):=mzL.D V qzg 2
theorem RzT (x1:(List Int)) (x2:(List Int)):nzr (x1,(x2,()))=szl (x1,(x2,(0,()))):=(FnD.eq V qzg mzL (x1,(x2,()))).trans (by kernel_rfl)
theorem Dzr (x1:(List Int)) (x2:(List Int)) (x3:Int):szl (x1,(x2,(x3,())))=cnd (ilt x3 (len x1)) (cnd (ilt x3 (len x2)) (cnd (inb x3 (len x1)) (cnd (inb x3 (len x2)) (cnd (ieq (rd 0 x1 x3) (rd 0 x2 x3)) (szl (x1,(x2,((iadd .i64 x3 1),())))) (some ((x3,()),()))) none) none) (some ((x3,()),()))) (some ((x3,()),())):=(FnD.eqC V qzg mzL 2 (x1,(x2,(x3,())))).trans (by kernel_rfl)
theorem zzY:CallsOk Tryz.prog gls gvs 244 wzb:=FnD.ok (F:=mzL) (cs:=qzg) V_ok kN Tryz.func244 (by decide) (by kernel_rfl)
noncomputable def ezd:FnD:={f:=241,fn:=Tryz.f241,ps:=[pa (.sl bzr),pa (.int .i64)],rs:=[rt (.int .i64)],cuts:=[(4,[.val 1 (.int .i64) .sh, .val 5 (.sl (.int .i64)) .sh, .val 6 (.int .i64) .sh, .val 19 (.sl bzr) .sh, .val 20 (.int .i64) .sh, .val 21 (.int .i64) .sh])]}
noncomputable def gzf:List (Nat×Sig):=[(160,czZ),(244,wzb)]
noncomputable def gzt:(List azl)×Int×Unit→Option ((Int×Unit)×Unit):=ezd.d V gzf
noncomputable abbrev oz1:Sig:=ezd.t.sig gzt
noncomputable def izi:Int× (List Int)×Int× (List azl)×Int×Int×Unit→Option ((Int×Unit)×Unit):=ezd.D V gzf 4
theorem GzH (x1:(List azl)) (x2:Int):gzt (x1,(x2,()))=cnd (inb 0 (len x1)) (bnd (bzQ ((rd bzd x1 0).1,())) (fun r2=>(cnd (inb2 x2 (len r2.1.1) (len r2.1.1)) (cnd (inb2 1 (len x1) (len x1)) (izi (x2,((sub r2.1.1 x2 (len r2.1.1)),((len (sub r2.1.1 x2 (len r2.1.1))),((sub x1 1 (len x1)),((len (sub x1 1 (len x1))),(0,()))))))) none) none))) none:=(FnD.eq V gzf ezd (x1,(x2,()))).trans (by kernel_rfl)
theorem szU (x1:Int) (x2:(List Int)) (x3:Int) (x4:(List azl)) (x5:Int) (x6:Int):izi (x1,(x2,(x3,(x4,(x5,(x6,()))))))=cnd (ilt x6 x5) (cnd (inb x6 (len x4)) (bnd (bzQ ((rd bzd x4 x6).1,())) (fun r6=>(cnd (inb2 x1 (len r6.1.1) (len r6.1.1)) (bnd (nzr (x2,((sub r6.1.1 x1 (len r6.1.1)),()))) (fun r7=>(izi (x1,(x2,((imin x3 r7.1.1),(x4,(x5,((iadd .i64 x6 1),()))))))))) none))) none) (some ((x3,()),())):=(FnD.eqC V gzf ezd 4 (x1,(x2,(x3,(x4,(x5,(x6,()))))))).trans (by kernel_rfl)
theorem uzM:CallsOk Tryz.prog gls gvs 241 oz1:=FnD.ok (F:=ezd) (cs:=gzf) V_ok (kC ezb (kC zzY kN)) Tryz.func241 (by decide) (by kernel_rfl)
noncomputable def hze:FnD:={f:=304,fn:=Tryz.f304,ps:=[pa .item,pa (.int .i64)],rs:=[rt .bool],cuts:=[(6,[.val 1 (.int .i64) .sh, .val 34 (.sl .item) .sh, .val 35 (.int .i64) .sh, .val 36 (.int .i64) .sh])]}
noncomputable def kzq:List (Nat×Sig):=[]
noncomputable def hzz:ItemT×Int×Unit→Option ((Bool×Unit)×Unit):=hze.d V kzq
noncomputable abbrev Bze:Sig:=hze.t.sig hzz
noncomputable def fzJ:Int× (List ItemT)×Int×Int×Unit→Option ((Bool×Unit)×Unit):=hze.D V kzq 6
theorem AzF (x1:ItemT) (x2:Int):hzz (x1,(x2,()))=cnd (bnot x1.l) (cnd (ile (ssz x1.s) 600) (some (((ieq (len x1.k) 0),()),())) (some ((false,()),()))) (cnd (sne x1.s (bs [])) (some ((false,()),())) (cnd (igt (len x1.k) 17) (some ((false,()),())) (cnd (ieq x2 0) (some ((false,()),())) (fzJ (x2,(x1.k,((len x1.k),(0,())))))))):=(FnD.eq V kzq hze (x1,(x2,()))).trans (by kernel_rfl)
theorem yz3 (x1:Int) (x2:(List ItemT)) (x3:Int) (x4:Int):fzJ (x1,(x2,(x3,(x4,()))))=cnd (ilt x4 x3) (cnd (inb x4 (len x2)) (bnd (hzz ((rd (ItemT.mk false (bs []) ([]:List ItemT)) x2 x4),((isub .i64 x1 1),()))) (fun r4=>(cnd (bnot r4.1.1) (some ((false,()),())) (fzJ (x1,(x2,(x3,((iadd .i64 x4 1),())))))))) none) (some ((true,()),())):=(FnD.eqC V kzq hze 6 (x1,(x2,(x3,(x4,()))))).trans (by kernel_rfl)
theorem Kzw:CallsOk Tryz.prog gls gvs 304 Bze:=FnD.ok (F:=hze) (cs:=kzq) V_ok kN Tryz.func304 (by decide) (by kernel_rfl)
noncomputable def uz0:FnD:={f:=238,fn:=Tryz.f238,ps:=[pa .item],rs:=[rt .bool]}
noncomputable def AzK:List (Nat×Sig):=[(304,Bze)]
noncomputable def vzS:ItemT×Unit→Option ((Bool×Unit)×Unit):=uz0.d V AzK
noncomputable abbrev Izg:Sig:=uz0.t.sig vzS
theorem Qze (x1:ItemT):vzS (x1,())=bnd (hzz (x1,(4,()))) (fun r1=>(some ((r1.1.1,()),()))):=(FnD.eq V AzK uz0 (x1,())).trans (by kernel_rfl)
theorem SzX:CallsOk Tryz.prog gls gvs 238 Izg:=FnD.ok (F:=uz0) (cs:=AzK) V_ok (kC Kzw kN) Tryz.func238 (by decide) (by kernel_rfl)
noncomputable def jzJ:FnD:={f:=305,fn:=Tryz.f305,ps:=[pa (.int .i64),pa (.int .i64)],rs:=[rt .str]}
noncomputable def ozv:List (Nat×Sig):=[(228,rzw)]
noncomputable def cz8:Int×Int×Unit→Option ((ByteArray×Unit)×Unit):=jzJ.d V ozv
noncomputable abbrev uzF:Sig:=jzJ.t.sig cz8
theorem FzM (x1:Int) (x2:Int):cz8 (x1,(x2,()))=cnd (ile x2 55) (some (((sof ((azx .u8 (iadd .i64 x1 x2))::([]:List Int))),()),())) (bnd (hzj (x2,())) (fun r2=>(cnd (fits ((ssz (sof ((azx .u8 (iadd .i64 (iadd .i64 x1 55) (ssz r2.1.1)))::([]:List Int))))+(ssz r2.1.1)) 1) (some (((scat (sof ((azx .u8 (iadd .i64 (iadd .i64 x1 55) (ssz r2.1.1)))::([]:List Int))) r2.1.1),()),())) none))):=(FnD.eq V ozv jzJ (x1,(x2,()))).trans (by kernel_rfl)
theorem uzx:CallsOk Tryz.prog gls gvs 305 uzF:=FnD.ok (F:=jzJ) (cs:=ozv) V_ok (kC xzK kN) Tryz.func305 (by decide) (by kernel_rfl)
noncomputable def ezg:FnD:={f:=239,fn:=Tryz.f239,ps:=[pa .item],rs:=[rt .str,rt .bool],joins:=[4],cuts:=[(4,[.box 1 .item .sh, .ptr 1 1 0])]}
noncomputable def gz1:List (Nat×Sig):=[(305,uzF)]
noncomputable def ozz:ItemT×Unit→Option ((ByteArray×Bool×Unit)×Unit):=ezg.d V gz1
noncomputable abbrev Fzj:Sig:=ezg.t.sig ozz
noncomputable def hzR:ItemT×Unit→Option ((ByteArray×Bool×Unit)×Unit):=ezg.D V gz1 4
theorem GzF (x1:ItemT):ozz (x1,())=cnd (bnot x1.l) (cnd (ieq (ssz x1.s) 1) (cnd (inb 0 (ssz x1.s)) (cnd (ilt (sat x1.s 0) 128) (some ((x1.s,(true,())),())) (hzR (x1,()))) none) (hzR (x1,()))) none:=(FnD.eq V gz1 ezg (x1,())).trans (by kernel_rfl)
theorem Dze (x1:ItemT):hzR (x1,())=bnd (cz8 (128,((ssz x1.s),()))) (fun r1=>(cnd (fits ((ssz r1.1.1)+(ssz x1.s)) 1) (some (((scat r1.1.1 x1.s),(true,())),())) none)):=(FnD.eqC V gz1 ezg 4 (x1,())).trans (by kernel_rfl)
theorem Gzw:CallsOk Tryz.prog gls gvs 239 Fzj:=FnD.ok (F:=ezg) (cs:=gz1) V_ok (kC uzx kN) Tryz.func239 (by decide) (by kernel_rfl)
end Go.Proofs.YthldgfkkgmpmlaaGreatDoor
