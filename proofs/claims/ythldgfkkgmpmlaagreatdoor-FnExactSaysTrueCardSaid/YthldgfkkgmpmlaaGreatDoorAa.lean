/- What the functions come to: printed by program. Of no condition. -/
import Derived.Test.YthldgfkkgmpmlaaGreatDoorX0
set_option linter.unusedVariables false
set_option maxRecDepth 100000
namespace Go.Proofs.YthldgfkkgmpmlaaGreatDoor
open Go.TV
noncomputable def wzn:FnD:={f:=206,fn:=Tryz.f206,ps:=[pa bzr,pa (.int .i64)],rs:=[rt (.int .i64)]}
noncomputable def AzS:List (Nat×Sig):=[]
noncomputable def uzk:azl×Int×Unit→Option ((Int×Unit)×Unit):=wzn.d V AzS
noncomputable abbrev JzG:Sig:=wzn.t.sig uzk
theorem Tzv (x1:azl) (x2:Int):uzk (x1,(x2,()))=cnd (ilt (isub .i64 x2 (ssz x1.1)) 0) (some (((-1),()),())) (cnd (ilt (isub .i64 (isub .i64 x2 (ssz x1.1)) (ssz x1.2.1)) 0) (some (((-1),()),())) (some (((isub .i64 (isub .i64 x2 (ssz x1.1)) (ssz x1.2.1)),()),()))):=(FnD.eq V AzS wzn (x1,(x2,()))).trans (by kernel_rfl)
theorem QzW:CallsOk Tryz.prog gls gvs 206 JzG:=FnD.ok (F:=wzn) (cs:=AzS) V_ok kN Tryz.func206 (by decide) (by kernel_rfl)
noncomputable def jz2:FnD:={f:=136,fn:=Tryz.f136,ps:=[pa (.sl bzr),pa (.int .i64)],rs:=[rt (.int .i64)],cuts:=[(5,[.val 0 (.sl bzr) .sh, .val 1 (.int .i64) .sh, .val 5 (.int .i64) .sh])]}
noncomputable def nzg:List (Nat×Sig):=[(206,JzG)]
noncomputable def szk:(List azl)×Int×Unit→Option ((Int×Unit)×Unit):=jz2.d V nzg
noncomputable abbrev EzC:Sig:=jz2.t.sig szk
noncomputable def tz9:(List azl)×Int×Int×Unit→Option ((Int×Unit)×Unit):=jz2.D V nzg 5
theorem Pz7 (x1:(List azl)) (x2:Int):szk (x1,(x2,()))=cnd (ilt (isub .i64 x2 (len x1)) 0) (some (((-1),()),())) (tz9 (x1,((isub .i64 x2 (len x1)),(0,())))):=(FnD.eq V nzg jz2 (x1,(x2,()))).trans (by kernel_rfl)
theorem Lzs (x1:(List azl)) (x2:Int) (x3:Int):tz9 (x1,(x2,(x3,())))=cnd (ilt x3 (len x1)) (cnd (inb x3 (len x1)) (bnd (uzk ((rd bzd x1 x3),(x2,()))) (fun r3=>(cnd (ilt r3.1.1 0) (some (((-1),()),())) (tz9 (x1,(r3.1.1,((iadd .i64 x3 1),()))))))) none) (some ((x2,()),())):=(FnD.eqC V nzg jz2 5 (x1,(x2,(x3,())))).trans (by kernel_rfl)
theorem PzK:CallsOk Tryz.prog gls gvs 136 EzC:=FnD.ok (F:=jz2) (cs:=nzg) V_ok (kC QzW kN) Tryz.func136 (by decide) (by kernel_rfl)
noncomputable def lz1:FnD:={f:=72,fn:=Tryz.f72,ps:=[pa azu,pa (.int .i64)],rs:=[rt (.int .i64)]}
noncomputable def pzE:List (Nat×Sig):=[(136,EzC)]
noncomputable def lzZ:azd×Int×Unit→Option ((Int×Unit)×Unit):=lz1.d V pzE
noncomputable abbrev yzA:Sig:=lz1.t.sig lzZ
theorem HzL (x1:azd) (x2:Int):lzZ (x1,(x2,()))=cnd (ilt (isub .i64 x2 (ssz x1.1)) 0) (some (((-1),()),())) (bnd (szk (x1.2.2.2.1,((isub .i64 x2 (ssz x1.1)),()))) (fun r2=>(cnd (ilt r2.1.1 0) (some (((-1),()),())) (some ((r2.1.1,()),()))))):=(FnD.eq V pzE lz1 (x1,(x2,()))).trans (by kernel_rfl)
theorem Jzg:CallsOk Tryz.prog gls gvs 72 yzA:=FnD.ok (F:=lz1) (cs:=pzE) V_ok (kC PzK kN) Tryz.func72 (by decide) (by kernel_rfl)
noncomputable def ezH:FnD:={f:=37,fn:=Tryz.f37,ps:=[pa (.sl azu),pa (.int .i64)],rs:=[rt (.int .i64)],cuts:=[(5,[.val 0 (.sl azu) .sh, .val 1 (.int .i64) .sh, .val 5 (.int .i64) .sh])]}
noncomputable def gzH:List (Nat×Sig):=[(72,yzA)]
noncomputable def jzk:(List azd)×Int×Unit→Option ((Int×Unit)×Unit):=ezH.d V gzH
noncomputable abbrev vz2:Sig:=ezH.t.sig jzk
noncomputable def mzc:(List azd)×Int×Int×Unit→Option ((Int×Unit)×Unit):=ezH.D V gzH 5
theorem FzY (x1:(List azd)) (x2:Int):jzk (x1,(x2,()))=cnd (ilt (isub .i64 x2 (len x1)) 0) (some (((-1),()),())) (mzc (x1,((isub .i64 x2 (len x1)),(0,())))):=(FnD.eq V gzH ezH (x1,(x2,()))).trans (by kernel_rfl)
theorem CzI (x1:(List azd)) (x2:Int) (x3:Int):mzc (x1,(x2,(x3,())))=cnd (ilt x3 (len x1)) (cnd (inb x3 (len x1)) (bnd (lzZ ((rd azg x1 x3),(x2,()))) (fun r3=>(cnd (ilt r3.1.1 0) (some (((-1),()),())) (mzc (x1,(r3.1.1,((iadd .i64 x3 1),()))))))) none) (some ((x2,()),())):=(FnD.eqC V gzH ezH 5 (x1,(x2,(x3,())))).trans (by kernel_rfl)
theorem GzX:CallsOk Tryz.prog gls gvs 37 vz2:=FnD.ok (F:=ezH) (cs:=gzH) V_ok (kC Jzg kN) Tryz.func37 (by decide) (by kernel_rfl)
noncomputable def szb:FnD:={f:=12,fn:=Tryz.f12,ps:=[pa bzY,pa (.int .i64)],rs:=[rt (.int .i64)]}
noncomputable def wzS:List (Nat×Sig):=[(37,vz2)]
noncomputable def rzZ:azH×Int×Unit→Option ((Int×Unit)×Unit):=szb.d V wzS
noncomputable abbrev Fza:Sig:=szb.t.sig rzZ
theorem Pzo (x1:azH) (x2:Int):rzZ (x1,(x2,()))=bnd (jzk (x1.2.1,(x2,()))) (fun r2=>(cnd (ilt r2.1.1 0) (some (((-1),()),())) (some ((r2.1.1,()),())))):=(FnD.eq V wzS szb (x1,(x2,()))).trans (by kernel_rfl)
theorem PzS:CallsOk Tryz.prog gls gvs 12 Fza:=FnD.ok (F:=szb) (cs:=wzS) V_ok (kC GzX kN) Tryz.func12 (by decide) (by kernel_rfl)
noncomputable def ozR:FnD:={f:=39,fn:=Tryz.f39,ps:=[pa (.sl azJ),pa (.int .i64)],rs:=[rt (.int .i64)]}
noncomputable def tzk:List (Nat×Sig):=[]
noncomputable def cz5:(List azn)×Int×Unit→Option ((Int×Unit)×Unit):=ozR.d V tzk
noncomputable abbrev ozy:Sig:=ozR.t.sig cz5
theorem KzQ (x1:(List azn)) (x2:Int):cz5 (x1,(x2,()))=cnd (ilt (isub .i64 x2 (len x1)) 0) (some (((-1),()),())) (some (((isub .i64 x2 (len x1)),()),())):=(FnD.eq V tzk ozR (x1,(x2,()))).trans (by kernel_rfl)
theorem tzA:CallsOk Tryz.prog gls gvs 39 ozy:=FnD.ok (F:=ozR) (cs:=tzk) V_ok kN Tryz.func39 (by decide) (by kernel_rfl)
noncomputable def vzd:FnD:={f:=38,fn:=Tryz.f38,ps:=[pa Dzl,pa (.int .i64)],rs:=[rt (.int .i64)]}
noncomputable def BzK:List (Nat×Sig):=[(39,ozy)]
noncomputable def qzP:Azw×Int×Unit→Option ((Int×Unit)×Unit):=vzd.d V BzK
noncomputable abbrev BzW:Sig:=vzd.t.sig qzP
theorem SzI (x1:Azw) (x2:Int):qzP (x1,(x2,()))=bnd (cz5 (x1.2.2.2.2.1,(x2,()))) (fun r2=>(cnd (ilt r2.1.1 0) (some (((-1),()),())) (some ((r2.1.1,()),())))):=(FnD.eq V BzK vzd (x1,(x2,()))).trans (by kernel_rfl)
theorem IzA:CallsOk Tryz.prog gls gvs 38 BzW:=FnD.ok (F:=vzd) (cs:=BzK) V_ok (kC tzA kN) Tryz.func38 (by decide) (by kernel_rfl)
noncomputable def rz2:FnD:={f:=13,fn:=Tryz.f13,ps:=[pa uzI,pa (.int .i64)],rs:=[rt (.int .i64)]}
noncomputable def wzM:List (Nat×Sig):=[(38,BzW),(39,ozy)]
noncomputable def szm:tzb×Int×Unit→Option ((Int×Unit)×Unit):=rz2.d V wzM
noncomputable abbrev EzN:Sig:=rz2.t.sig szm
theorem Oz4 (x1:tzb) (x2:Int):szm (x1,(x2,()))=bnd (qzP (x1.1,(x2,()))) (fun r2=>(cnd (ilt r2.1.1 0) (some (((-1),()),())) (bnd (cz5 (x1.2.1,(r2.1.1,()))) (fun r3=>(cnd (ilt r3.1.1 0) (some (((-1),()),())) (bnd (cz5 (x1.2.2.1,(r3.1.1,()))) (fun r4=>(cnd (ilt r4.1.1 0) (some (((-1),()),())) (bnd (cz5 (x1.2.2.2.1,(r4.1.1,()))) (fun r5=>(cnd (ilt r5.1.1 0) (some (((-1),()),())) (bnd (cz5 (x1.2.2.2.2.1,(r5.1.1,()))) (fun r6=>(cnd (ilt r6.1.1 0) (some (((-1),()),())) (some ((r6.1.1,()),())))))))))))))))):=(FnD.eq V wzM rz2 (x1,(x2,()))).trans (by kernel_rfl)
theorem OzG:CallsOk Tryz.prog gls gvs 13 EzN:=FnD.ok (F:=rz2) (cs:=wzM) V_ok (kC IzA (kC tzA kN)) Tryz.func13 (by decide) (by kernel_rfl)
noncomputable def vz8:FnD:={f:=73,fn:=Tryz.f73,ps:=[pa czS,pa (.int .i64)],rs:=[rt (.int .i64)]}
noncomputable def AzC:List (Nat×Sig):=[]
noncomputable def vzy:azO×Int×Unit→Option ((Int×Unit)×Unit):=vz8.d V AzC
noncomputable abbrev Hzu:Sig:=vz8.t.sig vzy
theorem TzN (x1:azO) (x2:Int):vzy (x1,(x2,()))=cnd (ilt (isub .i64 x2 (ssz x1.2.1)) 0) (some (((-1),()),())) (cnd (ilt (isub .i64 (isub .i64 x2 (ssz x1.2.1)) (ssz x1.2.2.1)) 0) (some (((-1),()),())) (cnd (ilt (isub .i64 (isub .i64 (isub .i64 x2 (ssz x1.2.1)) (ssz x1.2.2.1)) (ssz x1.2.2.2.1)) 0) (some (((-1),()),())) (some (((isub .i64 (isub .i64 (isub .i64 x2 (ssz x1.2.1)) (ssz x1.2.2.1)) (ssz x1.2.2.2.1)),()),())))):=(FnD.eq V AzC vz8 (x1,(x2,()))).trans (by kernel_rfl)
theorem Rzd:CallsOk Tryz.prog gls gvs 73 Hzu:=FnD.ok (F:=vz8) (cs:=AzC) V_ok kN Tryz.func73 (by decide) (by kernel_rfl)
noncomputable def iza:FnD:={f:=74,fn:=Tryz.f74,ps:=[pa azp,pa (.int .i64)],rs:=[rt (.int .i64)]}
noncomputable def lz9:List (Nat×Sig):=[(39,ozy)]
noncomputable def ezR:azh×Int×Unit→Option ((Int×Unit)×Unit):=iza.d V lz9
noncomputable abbrev tzc:Sig:=iza.t.sig ezR
theorem Cz0 (x1:azh) (x2:Int):ezR (x1,(x2,()))=bnd (cz5 (x1.1,(x2,()))) (fun r2=>(cnd (ilt r2.1.1 0) (some (((-1),()),())) (some ((r2.1.1,()),())))):=(FnD.eq V lz9 iza (x1,(x2,()))).trans (by kernel_rfl)
theorem CzX:CallsOk Tryz.prog gls gvs 74 tzc:=FnD.ok (F:=iza) (cs:=lz9) V_ok (kC tzA kN) Tryz.func74 (by decide) (by kernel_rfl)
noncomputable def oz6:FnD:={f:=40,fn:=Tryz.f40,ps:=[pa mze,pa (.int .i64)],rs:=[rt (.int .i64)]}
noncomputable def tz5:List (Nat×Sig):=[(73,Hzu),(74,tzc),(38,BzW)]
noncomputable def kz7:kz9×Int×Unit→Option ((Int×Unit)×Unit):=oz6.d V tz5
noncomputable abbrev zz9:Sig:=oz6.t.sig kz7
theorem KzE (x1:kz9) (x2:Int):kz7 (x1,(x2,()))=bnd (vzy (x1.1,(x2,()))) (fun r2=>(cnd (ilt r2.1.1 0) (some (((-1),()),())) (bnd (ezR (x1.2.1,(r2.1.1,()))) (fun r3=>(cnd (ilt r3.1.1 0) (some (((-1),()),())) (bnd (ezR (x1.2.2.1,(r3.1.1,()))) (fun r4=>(cnd (ilt r4.1.1 0) (some (((-1),()),())) (bnd (qzP (x1.2.2.2.2.1,(r4.1.1,()))) (fun r5=>(cnd (ilt r5.1.1 0) (some (((-1),()),())) (some ((r5.1.1,()),()))))))))))))):=(FnD.eq V tz5 oz6 (x1,(x2,()))).trans (by kernel_rfl)
theorem LzL:CallsOk Tryz.prog gls gvs 40 zz9:=FnD.ok (F:=oz6) (cs:=tz5) V_ok (kC Rzd (kC CzX (kC IzA kN))) Tryz.func40 (by decide) (by kernel_rfl)
noncomputable def fzI:FnD:={f:=16,fn:=Tryz.f16,ps:=[pa (.sl .str),pa (.int .i64)],rs:=[rt (.int .i64)],cuts:=[(5,[.val 0 (.sl .str) .sh, .val 1 (.int .i64) .sh, .val 5 (.int .i64) .sh])]}
noncomputable def iz1:List (Nat×Sig):=[]
noncomputable def izU:(List ByteArray)×Int×Unit→Option ((Int×Unit)×Unit):=fzI.d V iz1
noncomputable abbrev qzT:Sig:=fzI.t.sig izU
noncomputable def ozn:(List ByteArray)×Int×Int×Unit→Option ((Int×Unit)×Unit):=fzI.D V iz1 5
theorem JzL (x1:(List ByteArray)) (x2:Int):izU (x1,(x2,()))=cnd (ilt (isub .i64 x2 (len x1)) 0) (some (((-1),()),())) (ozn (x1,((isub .i64 x2 (len x1)),(0,())))):=(FnD.eq V iz1 fzI (x1,(x2,()))).trans (by kernel_rfl)
theorem GzB (x1:(List ByteArray)) (x2:Int) (x3:Int):ozn (x1,(x2,(x3,())))=cnd (ilt x3 (len x1)) (cnd (inb x3 (len x1)) (cnd (ilt (isub .i64 x2 (ssz (rd (bs []) x1 x3))) 0) (some (((-1),()),())) (ozn (x1,((isub .i64 x2 (ssz (rd (bs []) x1 x3))),((iadd .i64 x3 1),()))))) none) (some ((x2,()),())):=(FnD.eqC V iz1 fzI 5 (x1,(x2,(x3,())))).trans (by kernel_rfl)
theorem yzt:CallsOk Tryz.prog gls gvs 16 qzT:=FnD.ok (F:=fzI) (cs:=iz1) V_ok kN Tryz.func16 (by decide) (by kernel_rfl)
noncomputable def ozD:FnD:={f:=14,fn:=Tryz.f14,ps:=[pa kzO,pa (.int .i64)],rs:=[rt (.int .i64)]}
noncomputable def tz2:List (Nat×Sig):=[(40,zz9),(16,qzT)]
noncomputable def ozY:gzN×Int×Unit→Option ((Int×Unit)×Unit):=ozD.d V tz2
noncomputable abbrev BzI:Sig:=ozD.t.sig ozY
theorem Mzh (x1:gzN) (x2:Int):ozY (x1,(x2,()))=bnd (kz7 (x1.1,(x2,()))) (fun r2=>(cnd (ilt r2.1.1 0) (some (((-1),()),())) (bnd (kz7 (x1.2.1,(r2.1.1,()))) (fun r3=>(cnd (ilt r3.1.1 0) (some (((-1),()),())) (cnd (ilt (isub .i64 r3.1.1 (ssz x1.2.2.1)) 0) (some (((-1),()),())) (bnd (izU (x1.2.2.2.2.1,((isub .i64 r3.1.1 (ssz x1.2.2.1)),()))) (fun r4=>(cnd (ilt r4.1.1 0) (some (((-1),()),())) (some ((r4.1.1,()),()))))))))))):=(FnD.eq V tz2 ozD (x1,(x2,()))).trans (by kernel_rfl)
theorem Lzu:CallsOk Tryz.prog gls gvs 14 BzI:=FnD.ok (F:=ozD) (cs:=tz2) V_ok (kC LzL (kC yzt kN)) Tryz.func14 (by decide) (by kernel_rfl)
noncomputable def vzY:FnD:={f:=15,fn:=Tryz.f15,ps:=[pa (.sl (.int .i64)),pa (.int .i64)],rs:=[rt (.int .i64)]}
noncomputable def Bzk:List (Nat×Sig):=[]
noncomputable def vzl:(List Int)×Int×Unit→Option ((Int×Unit)×Unit):=vzY.d V Bzk
noncomputable abbrev JzM:Sig:=vzY.t.sig vzl
theorem Tzh (x1:(List Int)) (x2:Int):vzl (x1,(x2,()))=cnd (ilt (isub .i64 x2 (len x1)) 0) (some (((-1),()),())) (some (((isub .i64 x2 (len x1)),()),())):=(FnD.eq V Bzk vzY (x1,(x2,()))).trans (by kernel_rfl)
theorem Tzb:CallsOk Tryz.prog gls gvs 15 JzM:=FnD.ok (F:=vzY) (cs:=Bzk) V_ok kN Tryz.func15 (by decide) (by kernel_rfl)
noncomputable def rzt:FnD:={f:=5,fn:=Tryz.f5,ps:=[pa gzp,pa (.int .i64)],rs:=[rt (.int .i64)]}
noncomputable def xzu:List (Nat×Sig):=[(12,Fza),(13,EzN),(14,BzI),(15,JzM),(16,qzT)]
noncomputable def rzu:dzp×Int×Unit→Option ((Int×Unit)×Unit):=rzt.d V xzu
noncomputable abbrev EzY:Sig:=rzt.t.sig rzu
theorem Ozg (x1:dzp) (x2:Int):rzu (x1,(x2,()))=bnd (rzZ (x1.1,(x2,()))) (fun r2=>(cnd (ilt r2.1.1 0) (some (((-1),()),())) (bnd (szm (x1.2.1,(r2.1.1,()))) (fun r3=>(cnd (ilt r3.1.1 0) (some (((-1),()),())) (bnd (ozY (x1.2.2.1,(r3.1.1,()))) (fun r4=>(cnd (ilt r4.1.1 0) (some (((-1),()),())) (bnd (vzl (x1.2.2.2.1,(r4.1.1,()))) (fun r5=>(cnd (ilt r5.1.1 0) (some (((-1),()),())) (bnd (izU (x1.2.2.2.2.1,(r5.1.1,()))) (fun r6=>(cnd (ilt r6.1.1 0) (some (((-1),()),())) (some ((r6.1.1,()),())))))))))))))))):=(FnD.eq V xzu rzt (x1,(x2,()))).trans (by kernel_rfl)
theorem Pzn:CallsOk Tryz.prog gls gvs 5 EzY:=FnD.ok (F:=rzt) (cs:=xzu) V_ok (kC PzS (kC OzG (kC Lzu (kC Tzb (kC yzt kN))))) Tryz.func5 (by decide) (by kernel_rfl)
noncomputable def vzj:FnD:={f:=224,fn:=Tryz.f224,ps:=[pa bzr],rs:=[rt bzr]}
noncomputable def BzR:List (Nat×Sig):=[]
noncomputable def uzW:azl×Unit→Option ((azl×Unit)×Unit):=vzj.d V BzR
noncomputable abbrev HzT:Sig:=vzj.t.sig uzW
theorem RzG (x1:azl):uzW (x1,())=some (((x1.1,(x1.2.1,())),()),()):=(FnD.eq V BzR vzj (x1,())).trans (by kernel_rfl)
theorem Szm:CallsOk Tryz.prog gls gvs 224 HzT:=FnD.ok (F:=vzj) (cs:=BzR) V_ok kN Tryz.func224 (by decide) (by kernel_rfl)
noncomputable def kzd:FnD:={f:=158,fn:=Tryz.f158,ps:=[pa (.sl bzr)],rs:=[⟨(.sl bzr),(.own 0 .sh),false⟩],cuts:=[(3,[.val 0 (.sl bzr) .sh, .val 3 (.sl bzr) (.own 0 .sh), .val 4 (.int .i64) .sh])]}
noncomputable def mzN:List (Nat×Sig):=[(224,HzT)]
noncomputable def rzG:(List azl)×Unit→Option (((List azl)×Unit)×Unit):=kzd.d V mzN
noncomputable abbrev Ezx:Sig:=kzd.t.sig rzG
noncomputable def tzN:(List azl)× (List azl)×Int×Unit→Option (((List azl)×Unit)×Unit):=kzd.D V mzN 3
theorem Ozd (x1:(List azl)):rzG (x1,())=cnd (both (inb2 0 (len x1) (len x1)) (fits (len x1) 2)) (tzN (x1,((rep (len x1) bzd),(0,())))) none:=(FnD.eq V mzN kzd (x1,())).trans (by kernel_rfl)
theorem Kzm (x1:(List azl)) (x2:(List azl)) (x3:Int):tzN (x1,(x2,(x3,())))=cnd (ilt x3 (len x1)) (cnd (inb x3 (len x1)) (bnd (uzW ((rd bzd x1 x3),())) (fun r3=>(cnd (inb x3 (len x2)) (tzN (x1,((upd x2 x3 r3.1.1),((iadd .i64 x3 1),())))) none))) none) (some ((x2,()),())):=(FnD.eqC V mzN kzd 3 (x1,(x2,(x3,())))).trans (by kernel_rfl)
theorem PzT:CallsOk Tryz.prog gls gvs 158 Ezx:=FnD.ok (F:=kzd) (cs:=mzN) V_ok (kC Szm kN) Tryz.func158 (by decide) (by kernel_rfl)
noncomputable def lzW:FnD:={f:=91,fn:=Tryz.f91,ps:=[pa azu],rs:=[⟨azu,(.pr .sh (.pr .sh (.pr .sh (.pr (.own 0 .sh) .sh)))),false⟩]}
noncomputable def qzr:List (Nat×Sig):=[(158,Ezx)]
noncomputable def lzz:azd×Unit→Option ((azd×Unit)×Unit):=lzW.d V qzr
noncomputable abbrev yzy:Sig:=lzW.t.sig lzz
theorem Hze (x1:azd):lzz (x1,())=bnd (rzG (x1.2.2.2.1,())) (fun r1=>(some (((x1.1,(x1.2.1,(x1.2.2.1,(r1.1.1,())))),()),()))):=(FnD.eq V qzr lzW (x1,())).trans (by kernel_rfl)
theorem Iza:CallsOk Tryz.prog gls gvs 91 yzy:=FnD.ok (F:=lzW) (cs:=qzr) V_ok (kC PzT kN) Tryz.func91 (by decide) (by kernel_rfl)
noncomputable def ezG:FnD:={f:=49,fn:=Tryz.f49,ps:=[pa (.sl azu)],rs:=[⟨(.sl azu),(.own 0 (.pr .sh (.pr .sh (.pr .sh (.pr (.own 0 .sh) .sh))))),false⟩],cuts:=[(3,[.val 0 (.sl azu) .sh, .val 3 (.sl azu) (.own 0 (.pr .sh (.pr .sh (.pr .sh (.pr (.own 0 .sh) .sh))))), .val 4 (.int .i64) .sh])]}
noncomputable def gzz:List (Nat×Sig):=[(91,yzy)]
noncomputable def jzl:(List azd)×Unit→Option (((List azd)×Unit)×Unit):=ezG.d V gzz
noncomputable abbrev uz6:Sig:=ezG.t.sig jzl
noncomputable def mzm:(List azd)× (List azd)×Int×Unit→Option (((List azd)×Unit)×Unit):=ezG.D V gzz 3
theorem FzU (x1:(List azd)):jzl (x1,())=cnd (both (inb2 0 (len x1) (len x1)) (fits (len x1) 4)) (mzm (x1,((rep (len x1) azg),(0,())))) none:=(FnD.eq V gzz ezG (x1,())).trans (by kernel_rfl)
theorem CzK (x1:(List azd)) (x2:(List azd)) (x3:Int):mzm (x1,(x2,(x3,())))=cnd (ilt x3 (len x1)) (cnd (inb x3 (len x1)) (bnd (lzz ((rd azg x1 x3),())) (fun r3=>(cnd (inb x3 (len x2)) (mzm (x1,((upd x2 x3 r3.1.1),((iadd .i64 x3 1),())))) none))) none) (some ((x2,()),())):=(FnD.eqC V gzz ezG 3 (x1,(x2,(x3,())))).trans (by kernel_rfl)
theorem GzC:CallsOk Tryz.prog gls gvs 49 uz6:=FnD.ok (F:=ezG) (cs:=gzz) V_ok (kC Iza kN) Tryz.func49 (by decide) (by kernel_rfl)
noncomputable def szt:FnD:={f:=19,fn:=Tryz.f19,ps:=[pa bzY],rs:=[⟨bzY,(.pr .sh (.pr (.own 0 (.pr .sh (.pr .sh (.pr .sh (.pr (.own 0 .sh) .sh))))) .sh)),false⟩]}
noncomputable def xzv:List (Nat×Sig):=[(49,uz6)]
noncomputable def rz3:azH×Unit→Option ((azH×Unit)×Unit):=szt.d V xzv
noncomputable abbrev Eza:Sig:=szt.t.sig rz3
theorem Ozn (x1:azH):rz3 (x1,())=bnd (jzl (x1.2.1,())) (fun r1=>(some (((x1.1,(r1.1.1,())),()),()))):=(FnD.eq V xzv szt (x1,())).trans (by kernel_rfl)
theorem Nz1:CallsOk Tryz.prog gls gvs 19 Eza:=FnD.ok (F:=szt) (cs:=xzv) V_ok (kC GzC kN) Tryz.func19 (by decide) (by kernel_rfl)
noncomputable def qz9:FnD:={f:=92,fn:=Tryz.f92,ps:=[pa azJ],rs:=[rt azJ]}
noncomputable def xzT:List (Nat×Sig):=[]
noncomputable def fzV:azn×Unit→Option ((azn×Unit)×Unit):=qz9.d V xzT
noncomputable abbrev xzr:Sig:=qz9.t.sig fzV
theorem OzL (x1:azn):fzV (x1,())=some (((x1.1,(x1.2.1,(x1.2.2.1,()))),()),()):=(FnD.eq V xzT qz9 (x1,())).trans (by kernel_rfl)
theorem DzQ:CallsOk Tryz.prog gls gvs 92 xzr:=FnD.ok (F:=qz9) (cs:=xzT) V_ok kN Tryz.func92 (by decide) (by kernel_rfl)
noncomputable def hzx:FnD:={f:=51,fn:=Tryz.f51,ps:=[pa (.sl azJ)],rs:=[⟨(.sl azJ),(.own 0 .sh),false⟩],cuts:=[(3,[.val 0 (.sl azJ) .sh, .val 3 (.sl azJ) (.own 0 .sh), .val 4 (.int .i64) .sh])]}
noncomputable def kzY:List (Nat×Sig):=[(92,xzr)]
noncomputable def cz6:(List azn)×Unit→Option (((List azn)×Unit)×Unit):=hzx.d V kzY
noncomputable abbrev nzU:Sig:=hzx.t.sig cz6
noncomputable def qz1:(List azn)× (List azn)×Int×Unit→Option (((List azn)×Unit)×Unit):=hzx.D V kzY 3
theorem Kz2 (x1:(List azn)):cz6 (x1,())=cnd (both (inb2 0 (len x1) (len x1)) (fits (len x1) 3)) (qz1 (x1,((rep (len x1) fzy),(0,())))) none:=(FnD.eq V kzY hzx (x1,())).trans (by kernel_rfl)
theorem Hzw (x1:(List azn)) (x2:(List azn)) (x3:Int):qz1 (x1,(x2,(x3,())))=cnd (ilt x3 (len x1)) (cnd (inb x3 (len x1)) (bnd (fzV ((rd fzy x1 x3),())) (fun r3=>(cnd (inb x3 (len x2)) (qz1 (x1,((upd x2 x3 r3.1.1),((iadd .i64 x3 1),())))) none))) none) (some ((x2,()),())):=(FnD.eqC V kzY hzx 3 (x1,(x2,(x3,())))).trans (by kernel_rfl)
theorem tzT:CallsOk Tryz.prog gls gvs 51 nzU:=FnD.ok (F:=hzx) (cs:=kzY) V_ok (kC DzQ kN) Tryz.func51 (by decide) (by kernel_rfl)
noncomputable def uz2:FnD:={f:=50,fn:=Tryz.f50,ps:=[pa Dzl],rs:=[⟨Dzl,(.pr .sh (.pr .sh (.pr .sh (.pr .sh (.pr (.own 0 .sh) .sh))))),false⟩]}
noncomputable def Az3:List (Nat×Sig):=[(92,xzr),(51,nzU)]
noncomputable def qzY:Azw×Unit→Option ((Azw×Unit)×Unit):=uz2.d V Az3
noncomputable abbrev zzT:Sig:=uz2.t.sig qzY
theorem Qzd (x1:Azw):qzY (x1,())=bnd (fzV (x1.1,())) (fun r1=>(bnd (fzV (x1.2.1,())) (fun r2=>(bnd (fzV (x1.2.2.1,())) (fun r3=>(bnd (fzV (x1.2.2.2.1,())) (fun r4=>(bnd (cz6 (x1.2.2.2.2.1,())) (fun r5=>(some (((r1.1.1,(r2.1.1,(r3.1.1,(r4.1.1,(r5.1.1,()))))),()),()))))))))))):=(FnD.eq V Az3 uz2 (x1,())).trans (by kernel_rfl)
theorem Iz3:CallsOk Tryz.prog gls gvs 50 zzT:=FnD.ok (F:=uz2) (cs:=Az3) V_ok (kC DzQ (kC tzT kN)) Tryz.func50 (by decide) (by kernel_rfl)
noncomputable def rzK:FnD:={f:=20,fn:=Tryz.f20,ps:=[pa uzI],rs:=[⟨uzI,(.pr (.pr .sh (.pr .sh (.pr .sh (.pr .sh (.pr (.own 0 .sh) .sh))))) (.pr (.own 0 .sh) (.pr (.own 0 .sh) (.pr (.own 0 .sh) (.pr (.own 0 .sh) .sh))))),false⟩]}
noncomputable def xzP:List (Nat×Sig):=[(50,zzT),(51,nzU)]
noncomputable def rzv:tzb×Unit→Option ((tzb×Unit)×Unit):=rzK.d V xzP
noncomputable abbrev Ezo:Sig:=rzK.t.sig rzv
theorem OzV (x1:tzb):rzv (x1,())=bnd (qzY (x1.1,())) (fun r1=>(bnd (cz6 (x1.2.1,())) (fun r2=>(bnd (cz6 (x1.2.2.1,())) (fun r3=>(bnd (cz6 (x1.2.2.2.1,())) (fun r4=>(bnd (cz6 (x1.2.2.2.2.1,())) (fun r5=>(some (((r1.1.1,(r2.1.1,(r3.1.1,(r4.1.1,(r5.1.1,()))))),()),()))))))))))):=(FnD.eq V xzP rzK (x1,())).trans (by kernel_rfl)
theorem Ozr:CallsOk Tryz.prog gls gvs 20 Ezo:=FnD.ok (F:=rzK) (cs:=xzP) V_ok (kC Iz3 (kC tzT kN)) Tryz.func20 (by decide) (by kernel_rfl)
noncomputable def vzv:FnD:={f:=93,fn:=Tryz.f93,ps:=[pa czS],rs:=[rt czS]}
noncomputable def Czc:List (Nat×Sig):=[]
noncomputable def vz6:azO×Unit→Option ((azO×Unit)×Unit):=vzv.d V Czc
noncomputable abbrev HzU:Sig:=vzv.t.sig vz6
theorem Rzq (x1:azO):vz6 (x1,())=some (((x1.1,(x1.2.1,(x1.2.2.1,(x1.2.2.2.1,())))),()),()):=(FnD.eq V Czc vzv (x1,())).trans (by kernel_rfl)
theorem SzH:CallsOk Tryz.prog gls gvs 93 HzU:=FnD.ok (F:=vzv) (cs:=Czc) V_ok kN Tryz.func93 (by decide) (by kernel_rfl)
noncomputable def hz7:FnD:={f:=94,fn:=Tryz.f94,ps:=[pa azp],rs:=[⟨azp,(.pr (.own 0 .sh) .sh),false⟩]}
noncomputable def mzp:List (Nat×Sig):=[(51,nzU)]
noncomputable def ezW:azh×Unit→Option ((azh×Unit)×Unit):=hz7.d V mzp
noncomputable abbrev szM:Sig:=hz7.t.sig ezW
theorem CzV (x1:azh):ezW (x1,())=bnd (cz6 (x1.1,())) (fun r1=>(some (((r1.1.1,()),()),()))):=(FnD.eq V mzp hz7 (x1,())).trans (by kernel_rfl)
theorem CzZ:CallsOk Tryz.prog gls gvs 94 szM:=FnD.ok (F:=hz7) (cs:=mzp) V_ok (kC tzT kN) Tryz.func94 (by decide) (by kernel_rfl)
noncomputable def ozl:FnD:={f:=52,fn:=Tryz.f52,ps:=[pa mze],rs:=[⟨mze,(.pr .sh (.pr (.pr (.own 0 .sh) .sh) (.pr (.pr (.own 0 .sh) .sh) (.pr .sh (.pr (.pr .sh (.pr .sh (.pr .sh (.pr .sh (.pr (.own 0 .sh) .sh))))) .sh))))),false⟩]}
noncomputable def uza:List (Nat×Sig):=[(93,HzU),(94,szM),(50,zzT)]
noncomputable def kz0:kz9×Unit→Option ((kz9×Unit)×Unit):=ozl.d V uza
noncomputable abbrev Bzt:Sig:=ozl.t.sig kz0
theorem LzW (x1:kz9):kz0 (x1,())=bnd (vz6 (x1.1,())) (fun r1=>(bnd (ezW (x1.2.1,())) (fun r2=>(bnd (ezW (x1.2.2.1,())) (fun r3=>(bnd (qzY (x1.2.2.2.2.1,())) (fun r4=>(some (((r1.1.1,(r2.1.1,(r3.1.1,(x1.2.2.2.1,(r4.1.1,()))))),()),()))))))))):=(FnD.eq V uza ozl (x1,())).trans (by kernel_rfl)
theorem Mza:CallsOk Tryz.prog gls gvs 52 Bzt:=FnD.ok (F:=ozl) (cs:=uza) V_ok (kC SzH (kC CzZ (kC Iz3 kN))) Tryz.func52 (by decide) (by kernel_rfl)
noncomputable def fzM:FnD:={f:=23,fn:=Tryz.f23,ps:=[pa (.sl .str)],rs:=[⟨(.sl .str),(.own 0 .sh),false⟩],cuts:=[(3,[.val 0 (.sl .str) .sh, .val 3 (.sl .str) (.own 0 .sh), .val 4 (.int .i64) .sh])]}
noncomputable def izD:List (Nat×Sig):=[]
noncomputable def izT:(List ByteArray)×Unit→Option (((List ByteArray)×Unit)×Unit):=fzM.d V izD
noncomputable abbrev qzf:Sig:=fzM.t.sig izT
noncomputable def ozF:(List ByteArray)× (List ByteArray)×Int×Unit→Option (((List ByteArray)×Unit)×Unit):=fzM.D V izD 3
theorem Jzq (x1:(List ByteArray)):izT (x1,())=cnd (both (inb2 0 (len x1) (len x1)) (fits (len x1) 1)) (ozF (x1,((rep (len x1) (bs [])),(0,())))) none:=(FnD.eq V izD fzM (x1,())).trans (by kernel_rfl)
theorem Fzk (x1:(List ByteArray)) (x2:(List ByteArray)) (x3:Int):ozF (x1,(x2,(x3,())))=cnd (ilt x3 (len x1)) (cnd (inb x3 (len x1)) (cnd (inb x3 (len x2)) (ozF (x1,((upd x2 x3 (rd (bs []) x1 x3)),((iadd .i64 x3 1),())))) none) none) (some ((x2,()),())):=(FnD.eqC V izD fzM 3 (x1,(x2,(x3,())))).trans (by kernel_rfl)
theorem yzz:CallsOk Tryz.prog gls gvs 23 qzf:=FnD.ok (F:=fzM) (cs:=izD) V_ok kN Tryz.func23 (by decide) (by kernel_rfl)
noncomputable def nz7:FnD:={f:=21,fn:=Tryz.f21,ps:=[pa kzO],rs:=[⟨kzO,(.pr (.pr .sh (.pr (.pr (.own 0 .sh) .sh) (.pr (.pr (.own 0 .sh) .sh) (.pr .sh (.pr (.pr .sh (.pr .sh (.pr .sh (.pr .sh (.pr (.own 0 .sh) .sh))))) .sh))))) (.pr (.pr .sh (.pr (.pr (.own 0 .sh) .sh) (.pr (.pr (.own 0 .sh) .sh) (.pr .sh (.pr (.pr .sh (.pr .sh (.pr .sh (.pr .sh (.pr (.own 0 .sh) .sh))))) .sh))))) (.pr .sh (.pr .sh (.pr (.own 0 .sh) .sh))))),false⟩]}
noncomputable def tzh:List (Nat×Sig):=[(52,Bzt),(23,qzf)]
noncomputable def nzI:gzN×Unit→Option ((gzN×Unit)×Unit):=nz7.d V tzh
noncomputable abbrev Cza:Sig:=nz7.t.sig nzI
theorem Kz8 (x1:gzN):nzI (x1,())=bnd (kz0 (x1.1,())) (fun r1=>(bnd (kz0 (x1.2.1,())) (fun r2=>(bnd (izT (x1.2.2.2.2.1,())) (fun r3=>(some (((r1.1.1,(r2.1.1,(x1.2.2.1,(x1.2.2.2.1,(r3.1.1,(x1.2.2.2.2.2.1,())))))),()),()))))))):=(FnD.eq V tzh nz7 (x1,())).trans (by kernel_rfl)
theorem LzO:CallsOk Tryz.prog gls gvs 21 Cza:=FnD.ok (F:=nz7) (cs:=tzh) V_ok (kC Mza (kC yzz kN)) Tryz.func21 (by decide) (by kernel_rfl)
noncomputable def nzb:FnD:={f:=22,fn:=Tryz.f22,ps:=[pa (.sl (.int .i64))],rs:=[⟨(.sl (.int .i64)),(.own 0 .sh),false⟩],cuts:=[(3,[.val 0 (.sl (.int .i64)) .sh, .val 3 (.sl (.int .i64)) (.own 0 .sh), .val 4 (.int .i64) .sh])]}
noncomputable def qzG:List (Nat×Sig):=[]
noncomputable def uzm:(List Int)×Unit→Option (((List Int)×Unit)×Unit):=nzb.d V qzG
noncomputable abbrev IzK:Sig:=nzb.t.sig uzm
noncomputable def xzL:(List Int)× (List Int)×Int×Unit→Option (((List Int)×Unit)×Unit):=nzb.D V qzG 3
theorem Qzh (x1:(List Int)):uzm (x1,())=cnd (both (inb2 0 (len x1) (len x1)) (fits (len x1) 1)) (xzL (x1,((rep (len x1) 0),(0,())))) none:=(FnD.eq V qzG nzb (x1,())).trans (by kernel_rfl)
theorem Oz6 (x1:(List Int)) (x2:(List Int)) (x3:Int):xzL (x1,(x2,(x3,())))=cnd (ilt x3 (len x1)) (cnd (inb x3 (len x1)) (cnd (inb x3 (len x2)) (xzL (x1,((upd x2 x3 (rd 0 x1 x3)),((iadd .i64 x3 1),())))) none) none) (some ((x2,()),())):=(FnD.eqC V qzG nzb 3 (x1,(x2,(x3,())))).trans (by kernel_rfl)
theorem Qzf:CallsOk Tryz.prog gls gvs 22 IzK:=FnD.ok (F:=nzb) (cs:=qzG) V_ok kN Tryz.func22 (by decide) (by kernel_rfl)
noncomputable def rz0:FnD:={f:=7,fn:=Tryz.f7,ps:=[pa gzp],rs:=[⟨gzp,(.pr (.pr .sh (.pr (.own 0 (.pr .sh (.pr .sh (.pr .sh (.pr (.own 0 .sh) .sh))))) .sh)) (.pr (.pr (.pr .sh (.pr .sh (.pr .sh (.pr .sh (.pr (.own 0 .sh) .sh))))) (.pr (.own 0 .sh) (.pr (.own 0 .sh) (.pr (.own 0 .sh) (.pr (.own 0 .sh) .sh))))) (.pr (.pr (.pr .sh (.pr (.pr (.own 0 .sh) .sh) (.pr (.pr (.own 0 .sh) .sh) (.pr .sh (.pr (.pr .sh (.pr .sh (.pr .sh (.pr .sh (.pr (.own 0 .sh) .sh))))) .sh))))) (.pr (.pr .sh (.pr (.pr (.own 0 .sh) .sh) (.pr (.pr (.own 0 .sh) .sh) (.pr .sh (.pr (.pr .sh (.pr .sh (.pr .sh (.pr .sh (.pr (.own 0 .sh) .sh))))) .sh))))) (.pr .sh (.pr .sh (.pr (.own 0 .sh) .sh))))) (.pr (.own 0 .sh) (.pr (.own 0 .sh) .sh))))),false⟩]}
noncomputable def xzN:List (Nat×Sig):=[(19,Eza),(20,Ezo),(21,Cza),(22,IzK),(23,qzf)]
noncomputable def jzR:dzp×Unit→Option ((dzp×Unit)×Unit):=rz0.d V xzN
noncomputable abbrev Dz0:Sig:=rz0.t.sig jzR
theorem Pzq (x1:dzp):jzR (x1,())=bnd (rz3 (x1.1,())) (fun r1=>(bnd (rzv (x1.2.1,())) (fun r2=>(bnd (nzI (x1.2.2.1,())) (fun r3=>(bnd (uzm (x1.2.2.2.1,())) (fun r4=>(bnd (izT (x1.2.2.2.2.1,())) (fun r5=>(some (((r1.1.1,(r2.1.1,(r3.1.1,(r4.1.1,(r5.1.1,()))))),()),()))))))))))):=(FnD.eq V xzN rz0 (x1,())).trans (by kernel_rfl)
theorem Pzh:CallsOk Tryz.prog gls gvs 7 Dz0:=FnD.ok (F:=rz0) (cs:=xzN) V_ok (kC Nz1 (kC Ozr (kC LzO (kC Qzf (kC yzz kN))))) Tryz.func7 (by decide) (by kernel_rfl)
noncomputable def zzB:FnD:={f:=43,fn:=Tryz.f43,ps:=[pa (.int .i64),pa (.int .i64),pa (.int .i64)],rs:=[rt .bool]}
noncomputable def Fzs:List (Nat×Sig):=[]
noncomputable def bzX:Int×Int×Int×Unit→Option ((Bool×Unit)×Unit):=zzB.d V Fzs
noncomputable abbrev ezo:Sig:=zzB.t.sig bzX
theorem Vzt (x1:Int) (x2:Int) (x3:Int):bzX (x1,(x2,(x3,())))=cnd (ige x1 x2) (some (((ile x1 x3),()),())) (some ((false,()),())):=(FnD.eq V Fzs zzB (x1,(x2,(x3,())))).trans (by kernel_rfl)
theorem fzj:CallsOk Tryz.prog gls gvs 43 ezo:=FnD.ok (F:=zzB) (cs:=Fzs) V_ok kN Tryz.func43 (by decide) (by kernel_rfl)
noncomputable def kzb:FnD:={f:=142,fn:=Tryz.f142,ps:=[pa (.sl bzr)],rs:=[rt .bool],cuts:=[(2,[.val 0 (.sl bzr) .sh, .val 3 (.int .i64) .sh])]}
noncomputable def nzp:List (Nat×Sig):=[(43,ezo)]
noncomputable def fzZ:(List azl)×Unit→Option ((Bool×Unit)×Unit):=kzb.d V nzp
noncomputable abbrev rza:Sig:=kzb.t.sig fzZ
noncomputable def lza:(List azl)×Int×Unit→Option ((Bool×Unit)×Unit):=kzb.D V nzp 2
theorem Oz9 (x1:(List azl)):fzZ (x1,())=lza (x1,(0,())):=(FnD.eq V nzp kzb (x1,())).trans (by kernel_rfl)
theorem Czj (x1:(List azl)) (x2:Int):lza (x1,(x2,()))=cnd (ilt x2 (len x1)) (cnd (inb x2 (len x1)) (cnd (ine (ssz (rd bzd x1 x2).1) 4) (some ((false,()),())) (cnd (inb x2 (len x1)) (bnd (bzX ((ssz (rd bzd x1 x2).2.1),(1,(60,())))) (fun r2=>(cnd (bnot r2.1.1) (some ((false,()),())) (cnd (igt x2 0) (cnd (inb (isub .i64 x2 1) (len x1)) (cnd (inb x2 (len x1)) (cnd (sge (rd bzd x1 (isub .i64 x2 1)).1 (rd bzd x1 x2).1) (some ((false,()),())) (lza (x1,((iadd .i64 x2 1),())))) none) none) (lza (x1,((iadd .i64 x2 1),()))))))) none)) none) (some (((ile (len x1) 12),()),())):=(FnD.eqC V nzp kzb 2 (x1,(x2,()))).trans (by kernel_rfl)
theorem wzV:CallsOk Tryz.prog gls gvs 142 rza:=FnD.ok (F:=kzb) (cs:=nzp) V_ok (kC fzj kN) Tryz.func142 (by decide) (by kernel_rfl)
noncomputable def ezk:FnD:={f:=78,fn:=Tryz.f78,ps:=[pa (.sl azu)],rs:=[rt .bool],cuts:=[(2,[.val 0 (.sl azu) .sh, .val 3 (.int .i64) .sh])]}
noncomputable def gzP:List (Nat×Sig):=[(43,ezo),(142,rza)]
noncomputable def gzG:(List azd)×Unit→Option ((Bool×Unit)×Unit):=ezk.d V gzP
noncomputable abbrev nzN:Sig:=ezk.t.sig gzG
noncomputable def dzB:(List azd)×Int×Unit→Option ((Bool×Unit)×Unit):=ezk.D V gzP 2
theorem Gzo (x1:(List azd)):gzG (x1,())=dzB (x1,(0,())):=(FnD.eq V gzP ezk (x1,())).trans (by kernel_rfl)
theorem szF (x1:(List azd)) (x2:Int):dzB (x1,(x2,()))=cnd (ilt x2 (len x1)) (cnd (inb x2 (len x1)) (cnd (ine (ssz (rd azg x1 x2).1) 4) (some ((false,()),())) (cnd (igt x2 0) (cnd (inb (isub .i64 x2 1) (len x1)) (cnd (sge (rd azg x1 (isub .i64 x2 1)).1 (rd azg x1 x2).1) (some ((false,()),())) (bnd (bzX ((rd azg x1 x2).2.1,(0,(1000,())))) (fun r2=>(cnd (bnot r2.1.1) (some ((false,()),())) (bnd (bzX ((rd azg x1 x2).2.2.1,(0,(1000000000,())))) (fun r3=>(cnd (bnot r3.1.1) (some ((false,()),())) (bnd (fzZ ((rd azg x1 x2).2.2.2.1,())) (fun r4=>(cnd (bnot r4.1.1) (some ((false,()),())) (dzB (x1,((iadd .i64 x2 1),()))))))))))))) none) (bnd (bzX ((rd azg x1 x2).2.1,(0,(1000,())))) (fun r2=>(cnd (bnot r2.1.1) (some ((false,()),())) (bnd (bzX ((rd azg x1 x2).2.2.1,(0,(1000000000,())))) (fun r3=>(cnd (bnot r3.1.1) (some ((false,()),())) (bnd (fzZ ((rd azg x1 x2).2.2.2.1,())) (fun r4=>(cnd (bnot r4.1.1) (some ((false,()),())) (dzB (x1,((iadd .i64 x2 1),())))))))))))))) none) (some (((ile (len x1) 12),()),())):=(FnD.eqC V gzP ezk 2 (x1,(x2,()))).trans (by kernel_rfl)
theorem vzZ:CallsOk Tryz.prog gls gvs 78 nzN:=FnD.ok (F:=ezk) (cs:=gzP) V_ok (kC fzj (kC wzV kN)) Tryz.func78 (by decide) (by kernel_rfl)
noncomputable def szc:FnD:={f:=42,fn:=Tryz.f42,ps:=[pa bzY],rs:=[rt .bool]}
noncomputable def xzO:List (Nat×Sig):=[(43,ezo),(78,nzN)]
noncomputable def rzS:azH×Unit→Option ((Bool×Unit)×Unit):=szc.d V xzO
noncomputable abbrev DzZ:Sig:=szc.t.sig rzS
theorem PzY (x1:azH):rzS (x1,())=bnd (bzX (x1.1,(0,(99,())))) (fun r1=>(cnd r1.1.1 (bnd (gzG (x1.2.1,())) (fun r2=>(some ((r2.1.1,()),())))) (some ((false,()),())))):=(FnD.eq V xzO szc (x1,())).trans (by kernel_rfl)
theorem PzE:CallsOk Tryz.prog gls gvs 42 DzZ:=FnD.ok (F:=szc) (cs:=xzO) V_ok (kC fzj (kC vzZ kN)) Tryz.func42 (by decide) (by kernel_rfl)
noncomputable def oz7:FnD:={f:=44,fn:=Tryz.f44,ps:=[pa (.int .i64)],rs:=[rt (.int .i64)]}
noncomputable def tzD:List (Nat×Sig):=[]
noncomputable def kzA:Int×Unit→Option ((Int×Unit)×Unit):=oz7.d V tzD
noncomputable abbrev tzW:Sig:=oz7.t.sig kzA
theorem Lzm (x1:Int):kzA (x1,())=cnd (ilt x1 0) (some ((0,()),())) (cnd (nz 8) (some (((iquo .i64 x1 8),()),())) none):=(FnD.eq V tzD oz7 (x1,())).trans (by kernel_rfl)
theorem Bzw:CallsOk Tryz.prog gls gvs 44 tzW:=FnD.ok (F:=oz7) (cs:=tzD) V_ok kN Tryz.func44 (by decide) (by kernel_rfl)
noncomputable def czt:FnD:={f:=46,fn:=Tryz.f46,ps:=[pa bzY,pa (.int .i64)],rs:=[⟨(.sl azu),(.own 0 (.pr .sh (.pr .sh (.pr .sh (.pr (.own 0 .sh) .sh))))),false⟩],cuts:=[(3,[.val 1 (.int .i64) .sh, .val 5 (.sl azu) (.own 0 (.pr .sh (.pr .sh (.pr .sh (.pr (.own 0 .sh) .sh))))), .val 6 (.int .i64) .sh, .box 2 bzY .sh, .ptr 2 2 0])]}
noncomputable def dzm:List (Nat×Sig):=[]
noncomputable def dzn:azH×Int×Unit→Option (((List azd)×Unit)×Unit):=czt.d V dzm
noncomputable abbrev jzf:Sig:=czt.t.sig dzn
noncomputable def bzp:Int× (List azd)×Int×azH×Unit→Option (((List azd)×Unit)×Unit):=czt.D V dzm 3
theorem zzi (x1:azH) (x2:Int):dzn (x1,(x2,()))=bzp (x2,(([]:List azd),(0,(x1,())))):=(FnD.eq V dzm czt (x1,(x2,()))).trans (by kernel_rfl)
theorem nzv (x1:Int) (x2:(List azd)) (x3:Int) (x4:azH):bzp (x1,(x2,(x3,(x4,()))))=cnd (ilt x3 (len x4.2.1)) (cnd (inb x3 (len x4.2.1)) (cnd (fits ((len ([]:List azl))+(len (rd azg x4.2.1 x3).2.2.2.1)) 2) (cnd (igt x1 0) (cnd (igt (rd azg x4.2.1 x3).2.1 0) (cnd (igt x1 (isub .i64 1000 (rd azg x4.2.1 x3).2.1)) (cnd (fits ((len x2)+(len (((rd azg x4.2.1 x3).1,(1000,((rd azg x4.2.1 x3).2.2.1,((app ([]:List azl) (rd azg x4.2.1 x3).2.2.2.1),(rd azg x4.2.1 x3).2.2.2.2))))::([]:List azd)))) 4) (bzp (x1,((app x2 (((rd azg x4.2.1 x3).1,(1000,((rd azg x4.2.1 x3).2.2.1,((app ([]:List azl) (rd azg x4.2.1 x3).2.2.2.1),(rd azg x4.2.1 x3).2.2.2.2))))::([]:List azd))),((iadd .i64 x3 1),(x4,()))))) none) (cnd (fits ((len x2)+(len (((rd azg x4.2.1 x3).1,((imin (iadd .i64 (rd azg x4.2.1 x3).2.1 x1) 1000),((rd azg x4.2.1 x3).2.2.1,((app ([]:List azl) (rd azg x4.2.1 x3).2.2.2.1),(rd azg x4.2.1 x3).2.2.2.2))))::([]:List azd)))) 4) (bzp (x1,((app x2 (((rd azg x4.2.1 x3).1,((imin (iadd .i64 (rd azg x4.2.1 x3).2.1 x1) 1000),((rd azg x4.2.1 x3).2.2.1,((app ([]:List azl) (rd azg x4.2.1 x3).2.2.2.1),(rd azg x4.2.1 x3).2.2.2.2))))::([]:List azd))),((iadd .i64 x3 1),(x4,()))))) none)) (cnd (fits ((len x2)+(len (((rd azg x4.2.1 x3).1,((imin (iadd .i64 (rd azg x4.2.1 x3).2.1 x1) 1000),((rd azg x4.2.1 x3).2.2.1,((app ([]:List azl) (rd azg x4.2.1 x3).2.2.2.1),(rd azg x4.2.1 x3).2.2.2.2))))::([]:List azd)))) 4) (bzp (x1,((app x2 (((rd azg x4.2.1 x3).1,((imin (iadd .i64 (rd azg x4.2.1 x3).2.1 x1) 1000),((rd azg x4.2.1 x3).2.2.1,((app ([]:List azl) (rd azg x4.2.1 x3).2.2.2.1),(rd azg x4.2.1 x3).2.2.2.2))))::([]:List azd))),((iadd .i64 x3 1),(x4,()))))) none)) (cnd (fits ((len x2)+(len (((rd azg x4.2.1 x3).1,((rd azg x4.2.1 x3).2.1,((rd azg x4.2.1 x3).2.2.1,((app ([]:List azl) (rd azg x4.2.1 x3).2.2.2.1),(rd azg x4.2.1 x3).2.2.2.2))))::([]:List azd)))) 4) (bzp (x1,((app x2 (((rd azg x4.2.1 x3).1,((rd azg x4.2.1 x3).2.1,((rd azg x4.2.1 x3).2.2.1,((app ([]:List azl) (rd azg x4.2.1 x3).2.2.2.1),(rd azg x4.2.1 x3).2.2.2.2))))::([]:List azd))),((iadd .i64 x3 1),(x4,()))))) none)) none) none) (some ((x2,()),())):=(FnD.eqC V dzm czt 3 (x1,(x2,(x3,(x4,()))))).trans (by kernel_rfl)
theorem pzl:CallsOk Tryz.prog gls gvs 46 jzf:=FnD.ok (F:=czt) (cs:=dzm) V_ok kN Tryz.func46 (by decide) (by kernel_rfl)
noncomputable def czY:FnD:={f:=149,fn:=Tryz.f149,ps:=[pa (.int .i64)],rs:=[⟨(.sl (.int .i64)),(.own 0 .sh),false⟩],joins:=[4],cuts:=[(4,[.val 3 (.int .i64) .sh]),(6,[.val 3 (.int .i64) .sh, .val 4 (.sl (.int .i64)) (.own 0 .sh), .val 5 (.int .i64) .sh])]}
noncomputable def dz0:List (Nat×Sig):=[]
noncomputable def lzy:Int×Unit→Option (((List Int)×Unit)×Unit):=czY.d V dz0
noncomputable abbrev yzu:Sig:=czY.t.sig lzy
noncomputable def jzC:Int×Unit→Option (((List Int)×Unit)×Unit):=czY.D V dz0 4
noncomputable def jzv:Int× (List Int)×Int×Unit→Option (((List Int)×Unit)×Unit):=czY.D V dz0 6
theorem Izn (x1:Int):lzy (x1,())=cnd (nz 1000) (cnd (ilt (irem x1 1000) 0) (jzC ((iadd .i64 (irem x1 1000) 1000),())) (jzC ((irem x1 1000),()))) none:=(FnD.eq V dz0 czY (x1,())).trans (by kernel_rfl)
theorem FzW (x1:Int):jzC (x1,())=jzv (x1,(([]:List Int),(0,()))):=(FnD.eqC V dz0 czY 4 (x1,())).trans (by kernel_rfl)
theorem vzT (x1:Int) (x2:(List Int)) (x3:Int):jzv (x1,(x2,(x3,())))=cnd (ilt x3 8) (cnd (nz 1007) (cnd (fits ((len x2)+(len ((iadd .i64 1 (irem (iadd .i64 (iadd .i64 (imul .i64 x1 31) (imul .i64 x3 57)) 7) 1007))::([]:List Int)))) 1) (jzv (x1,((app x2 ((iadd .i64 1 (irem (iadd .i64 (iadd .i64 (imul .i64 x1 31) (imul .i64 x3 57)) 7) 1007))::([]:List Int))),((iadd .i64 x3 1),())))) none) none) (some ((x2,()),())):=(FnD.eqC V dz0 czY 6 (x1,(x2,(x3,())))).trans (by kernel_rfl)
theorem HzJ:CallsOk Tryz.prog gls gvs 149 yzu:=FnD.ok (F:=czY) (cs:=dz0) V_ok kN Tryz.func149 (by decide) (by kernel_rfl)
noncomputable def Fz1:FnD:={f:=219,fn:=Tryz.f219,ps:=[pa (.int .i64)],rs:=[rt (.int .i64)]}
noncomputable def Lz5:List (Nat×Sig):=[]
noncomputable def Gzl:Int×Unit→Option ((Int×Unit)×Unit):=Fz1.d V Lz5
noncomputable abbrev Sz6:Sig:=Fz1.t.sig Gzl
theorem Wzm (x1:Int):Gzl (x1,())=cnd (nz 1009) (cnd (ilt (irem x1 1009) 0) (some (((iadd .i64 (irem x1 1009) 1009),()),())) (some (((irem x1 1009),()),()))) none:=(FnD.eq V Lz5 Fz1 (x1,())).trans (by kernel_rfl)
theorem Wz1:CallsOk Tryz.prog gls gvs 219 Sz6:=FnD.ok (F:=Fz1) (cs:=Lz5) V_ok kN Tryz.func219 (by decide) (by kernel_rfl)
noncomputable def FzL:FnD:={f:=220,fn:=Tryz.f220,ps:=[],rs:=[rt azJ]}
noncomputable def Mzb:List (Nat×Sig):=[]
noncomputable def KzF:Unit→Option ((azn×Unit)×Unit):=FzL.d V Mzb
noncomputable abbrev TzL:Sig:=FzL.t.sig KzF
theorem Wzz:KzF ()=some (((8445,(859,(false,()))),()),()):=(FnD.eq V Mzb FzL ()).trans (by kernel_rfl)
theorem Vz9:CallsOk Tryz.prog gls gvs 220 TzL:=FnD.ok (F:=FzL) (cs:=Mzb) V_ok kN Tryz.func220 (by decide) (by kernel_rfl)
noncomputable def GzG:FnD:={f:=255,fn:=Tryz.f255,ps:=[pa (.int .i64)],rs:=[rt .bool]}
noncomputable def KzC:List (Nat×Sig):=[(43,ezo)]
noncomputable def AzQ:Int×Unit→Option ((Bool×Unit)×Unit):=GzG.d V KzC
noncomputable abbrev RzB:Sig:=GzG.t.sig AzQ
theorem WzS (x1:Int):AzQ (x1,())=bnd (bzX (x1,(0,(12106,())))) (fun r1=>(some ((r1.1.1,()),()))):=(FnD.eq V KzC GzG (x1,())).trans (by kernel_rfl)
theorem Vz4:CallsOk Tryz.prog gls gvs 255 RzB:=FnD.ok (F:=GzG) (cs:=KzC) V_ok (kC fzj kN) Tryz.func255 (by decide) (by kernel_rfl)
noncomputable def FzP:FnD:={f:=312,fn:=Tryz.f312,ps:=[pa (.int .i64)],rs:=[rt (.int .i64)]}
noncomputable def Kzs:List (Nat×Sig):=[]
noncomputable def hzD:Int×Unit→Option ((Int×Unit)×Unit):=FzP.d V Kzs
noncomputable abbrev Bz1:Sig:=FzP.t.sig hzD
theorem Wzb (x1:Int):hzD (x1,())=cnd (nz 12107) (cnd (ilt (irem x1 12107) 0) (some (((iadd .i64 (irem x1 12107) 12107),()),())) (some (((irem x1 12107),()),()))) none:=(FnD.eq V Kzs FzP (x1,())).trans (by kernel_rfl)
theorem Gz8:CallsOk Tryz.prog gls gvs 312 Bz1:=FnD.ok (F:=FzP) (cs:=Kzs) V_ok kN Tryz.func312 (by decide) (by kernel_rfl)
noncomputable def zzS:FnD:={f:=308,fn:=Tryz.f308,ps:=[pa (.int .i64),pa (.int .i64)],rs:=[rt (.int .i64)]}
noncomputable def GzY:List (Nat×Sig):=[(312,Bz1)]
noncomputable def cz4:Int×Int×Unit→Option ((Int×Unit)×Unit):=zzS.d V GzY
noncomputable abbrev rzp:Sig:=zzS.t.sig cz4
theorem Tz4 (x1:Int) (x2:Int):cz4 (x1,(x2,()))=bnd (hzD (x1,())) (fun r2=>(bnd (hzD (x2,())) (fun r3=>(bnd (hzD ((imul .i64 r2.1.1 r3.1.1),())) (fun r4=>(some ((r4.1.1,()),()))))))):=(FnD.eq V GzY zzS (x1,(x2,()))).trans (by kernel_rfl)
theorem uzu:CallsOk Tryz.prog gls gvs 308 rzp:=FnD.ok (F:=zzS) (cs:=GzY) V_ok (kC Gz8 kN) Tryz.func308 (by decide) (by kernel_rfl)
noncomputable def zzN:FnD:={f:=313,fn:=Tryz.f313,ps:=[pa (.int .i64),pa (.int .i64)],rs:=[rt (.int .i64)]}
noncomputable def GzN:List (Nat×Sig):=[(312,Bz1)]
noncomputable def rz6:Int×Int×Unit→Option ((Int×Unit)×Unit):=zzN.d V GzN
noncomputable abbrev Hzc:Sig:=zzN.t.sig rz6
theorem TzZ (x1:Int) (x2:Int):rz6 (x1,(x2,()))=bnd (hzD (x1,())) (fun r2=>(bnd (hzD (x2,())) (fun r3=>(bnd (hzD ((iadd .i64 r2.1.1 r3.1.1),())) (fun r4=>(some ((r4.1.1,()),()))))))):=(FnD.eq V GzN zzN (x1,(x2,()))).trans (by kernel_rfl)
theorem Nzy:CallsOk Tryz.prog gls gvs 313 Hzc:=FnD.ok (F:=zzN) (cs:=GzN) V_ok (kC Gz8 kN) Tryz.func313 (by decide) (by kernel_rfl)
noncomputable def nzZ:FnD:={f:=257,fn:=Tryz.f257,ps:=[pa (.int .i64)],rs:=[rt (.int .i64)]}
noncomputable def tzS:List (Nat×Sig):=[(308,rzp),(313,Hzc)]
noncomputable def nz9:Int×Unit→Option ((Int×Unit)×Unit):=nzZ.d V tzS
noncomputable abbrev Bzn:Sig:=nzZ.t.sig nz9
theorem Lz0 (x1:Int):nz9 (x1,())=bnd (cz4 (x1,(x1,()))) (fun r1=>(bnd (cz4 (r1.1.1,(x1,()))) (fun r2=>(bnd (rz6 (r2.1.1,(x1,()))) (fun r3=>(some ((r3.1.1,()),()))))))):=(FnD.eq V tzS nzZ (x1,())).trans (by kernel_rfl)
theorem Lzc:CallsOk Tryz.prog gls gvs 257 Bzn:=FnD.ok (F:=nzZ) (cs:=tzS) V_ok (kC uzu (kC Nzy kN)) Tryz.func257 (by decide) (by kernel_rfl)
noncomputable def rzA:FnD:={f:=247,fn:=Tryz.f247,ps:=[pa azJ],rs:=[rt .bool]}
noncomputable def xza:List (Nat×Sig):=[(255,RzB),(308,rzp),(257,Bzn)]
noncomputable def jzU:azn×Unit→Option ((Bool×Unit)×Unit):=rzA.d V xza
noncomputable abbrev qz8:Sig:=rzA.t.sig jzU
theorem Nz5 (x1:azn):jzU (x1,())=cnd x1.2.2.1 (cnd (ieq x1.1 0) (some (((ieq x1.2.1 0),()),())) (some ((false,()),()))) (bnd (AzQ (x1.1,())) (fun r1=>(cnd r1.1.1 (bnd (AzQ (x1.2.1,())) (fun r2=>(cnd r2.1.1 (bnd (cz4 (x1.2.1,(x1.2.1,()))) (fun r3=>(bnd (nz9 (x1.1,())) (fun r4=>(some (((ieq r3.1.1 r4.1.1),()),())))))) (some ((false,()),()))))) (some ((false,()),()))))):=(FnD.eq V xza rzA (x1,())).trans (by kernel_rfl)
theorem wz5:CallsOk Tryz.prog gls gvs 247 qz8:=FnD.ok (F:=rzA) (cs:=xza) V_ok (kC Vz4 (kC uzu (kC Lzc kN))) Tryz.func247 (by decide) (by kernel_rfl)
noncomputable def rzY:FnD:={f:=254,fn:=Tryz.f254,ps:=[],rs:=[rt azJ]}
noncomputable def xzw:List (Nat×Sig):=[]
noncomputable def mzK:Unit→Option ((azn×Unit)×Unit):=rzY.d V xzw
noncomputable abbrev rz8:Sig:=rzY.t.sig mzK
theorem wz0:mzK ()=some (((0,(0,(true,()))),()),()):=(FnD.eq V xzw rzY ()).trans (by kernel_rfl)
theorem xzo:CallsOk Tryz.prog gls gvs 254 rz8:=FnD.ok (F:=rzY) (cs:=xzw) V_ok kN Tryz.func254 (by decide) (by kernel_rfl)
noncomputable def zzv:FnD:={f:=258,fn:=Tryz.f258,ps:=[pa (.int .i64),pa (.int .i64)],rs:=[rt (.int .i64)]}
noncomputable def Gzt:List (Nat×Sig):=[(312,Bz1)]
noncomputable def jzu:Int×Int×Unit→Option ((Int×Unit)×Unit):=zzv.d V Gzt
noncomputable abbrev zzG:Sig:=zzv.t.sig jzu
theorem UzW (x1:Int) (x2:Int):jzu (x1,(x2,()))=bnd (hzD (x1,())) (fun r2=>(bnd (hzD (x2,())) (fun r3=>(bnd (hzD ((isub .i64 r2.1.1 r3.1.1),())) (fun r4=>(some ((r4.1.1,()),()))))))):=(FnD.eq V Gzt zzv (x1,(x2,()))).trans (by kernel_rfl)
theorem Gz1:CallsOk Tryz.prog gls gvs 258 zzG:=FnD.ok (F:=zzv) (cs:=Gzt) V_ok (kC Gz8 kN) Tryz.func258 (by decide) (by kernel_rfl)
noncomputable def tzR:FnD:={f:=288,fn:=Tryz.f288,ps:=[pa azJ],rs:=[rt azJ]}
noncomputable def Bz6:List (Nat×Sig):=[(254,rz8),(258,zzG)]
noncomputable def BzU:azn×Unit→Option ((azn×Unit)×Unit):=tzR.d V Bz6
noncomputable abbrev Azt:Sig:=tzR.t.sig BzU
theorem LzY:CallsOk Tryz.prog gls gvs 288 Azt:=FnD.ok (F:=tzR) (cs:=Bz6) V_ok (kC xzo (kC Gz1 kN)) Tryz.func288 (by decide) (by kernel_rfl)
noncomputable def lzG:FnD:={f:=311,fn:=Tryz.f311,ps:=[pa (.int .i64),pa (.int .i64)],rs:=[rt (.int .i64)],joins:=[8],cuts:=[(8,[.val 1 (.int .i64) .sh, .val 5 (.int .i64) .sh, .val 6 (.int .i64) .sh]),(5,[.val 1 (.int .i64) .sh, .val 5 (.int .i64) .sh, .val 6 (.int .i64) .sh])]}
noncomputable def ozo:List (Nat×Sig):=[(312,Bz1),(308,rzp)]
noncomputable def wzs:Int×Int×Unit→Option ((Int×Unit)×Unit):=lzG.d V ozo
noncomputable abbrev MzN:Sig:=lzG.t.sig wzs
noncomputable def Az7:Int×Int×Int×Unit→Option ((Int×Unit)×Unit):=lzG.D V ozo 8
noncomputable def vzC:Int×Int×Int×Unit→Option ((Int×Unit)×Unit):=lzG.D V ozo 5
theorem Uz0 (x1:Int) (x2:Int):wzs (x1,(x2,()))=cnd (ilt x2 0) (some ((0,()),())) (bnd (hzD (x1,())) (fun r2=>(vzC (x2,(1,(r2.1.1,())))))):=(FnD.eq V ozo lzG (x1,(x2,()))).trans (by kernel_rfl)
theorem Hzn (x1:Int) (x2:Int) (x3:Int):Az7 (x1,(x2,(x3,())))=bnd (cz4 (x3,(x3,()))) (fun r3=>(cnd (nz 2) (vzC ((iquo .i64 x1 2),(x2,(r3.1.1,())))) none)):=(FnD.eqC V ozo lzG 8 (x1,(x2,(x3,())))).trans (by kernel_rfl)
theorem SzF (x1:Int) (x2:Int) (x3:Int):vzC (x1,(x2,(x3,())))=cnd (igt x1 0) (cnd (nz 2) (cnd (ieq (irem x1 2) 1) (bnd (cz4 (x2,(x3,()))) (fun r3=>(Az7 (x1,(r3.1.1,(x3,())))))) (Az7 (x1,(x2,(x3,()))))) none) (some ((x2,()),())):=(FnD.eqC V ozo lzG 5 (x1,(x2,(x3,())))).trans (by kernel_rfl)
theorem Uze:CallsOk Tryz.prog gls gvs 311 MzN:=FnD.ok (F:=lzG) (cs:=ozo) V_ok (kC Gz8 (kC uzu kN)) Tryz.func311 (by decide) (by kernel_rfl)
noncomputable def zzK:FnD:={f:=370,fn:=Tryz.f370,ps:=[pa (.int .i64)],rs:=[rt (.int .i64)]}
noncomputable def Fz7:List (Nat×Sig):=[(311,MzN)]
noncomputable def wzl:Int×Unit→Option ((Int×Unit)×Unit):=zzK.d V Fz7
noncomputable abbrev Mz3:Sig:=zzK.t.sig wzl
theorem UzF (x1:Int):wzl (x1,())=bnd (wzs (x1,(12105,()))) (fun r1=>(some ((r1.1.1,()),()))):=(FnD.eq V Fz7 zzK (x1,())).trans (by kernel_rfl)
theorem Tz3:CallsOk Tryz.prog gls gvs 370 Mz3:=FnD.ok (F:=zzK) (cs:=Fz7) V_ok (kC Uze kN) Tryz.func370 (by decide) (by kernel_rfl)
noncomputable def nzQ:FnD:={f:=341,fn:=Tryz.f341,ps:=[pa azJ,pa azJ],rs:=[rt (.int .i64),rt .bool]}
noncomputable def uzb:List (Nat×Sig):=[(258,zzG),(370,Mz3),(308,rzp),(313,Hzc)]
noncomputable def ozC:azn×azn×Unit→Option ((Int×Bool×Unit)×Unit):=nzQ.d V uzb
noncomputable abbrev BzY:Sig:=nzQ.t.sig ozC
theorem Kzr (x1:azn) (x2:azn):ozC (x1,(x2,()))=cnd (ine x1.1 x2.1) (bnd (jzu (x2.2.1,(x1.2.1,()))) (fun r2=>(bnd (jzu (x2.1,(x1.1,()))) (fun r3=>(bnd (wzl (r3.1.1,())) (fun r4=>(bnd (cz4 (r2.1.1,(r4.1.1,()))) (fun r5=>(some ((r5.1.1,(true,())),())))))))))) (bnd (rz6 (x1.2.1,(x2.2.1,()))) (fun r2=>(cnd (ieq r2.1.1 0) (some ((0,(false,())),())) (bnd (cz4 (x1.1,(x1.1,()))) (fun r3=>(bnd (cz4 (3,(r3.1.1,()))) (fun r4=>(bnd (rz6 (r4.1.1,(1,()))) (fun r5=>(bnd (cz4 (2,(x1.2.1,()))) (fun r6=>(bnd (wzl (r6.1.1,())) (fun r7=>(bnd (cz4 (r5.1.1,(r7.1.1,()))) (fun r8=>(some ((r8.1.1,(true,())),()))))))))))))))))):=(FnD.eq V uzb nzQ (x1,(x2,()))).trans (by kernel_rfl)
theorem KzD:CallsOk Tryz.prog gls gvs 341 BzY:=FnD.ok (F:=nzQ) (cs:=uzb) V_ok (kC Gz1 (kC Tz3 (kC uzu (kC Nzy kN)))) Tryz.func341 (by decide) (by kernel_rfl)
noncomputable def wzc:FnD:={f:=289,fn:=Tryz.f289,ps:=[pa azJ,pa azJ],rs:=[rt azJ]}
noncomputable def Bz4:List (Nat×Sig):=[(341,BzY),(254,rz8),(308,rzp),(258,zzG)]
noncomputable def pzR:azn×azn×Unit→Option ((azn×Unit)×Unit):=wzc.d V Bz4
noncomputable abbrev JzI:Sig:=wzc.t.sig pzR
theorem QzM (x1:azn) (x2:azn):pzR (x1,(x2,()))=cnd x1.2.2.1 (some ((x2,()),())) (cnd x2.2.2.1 (some ((x1,()),())) (bnd (ozC (x1,(x2,()))) (fun r2=>(cnd (bnot r2.1.2.1) (bnd (mzK ()) (fun r3=>(some ((r3.1.1,()),())))) (bnd (cz4 (r2.1.1,(r2.1.1,()))) (fun r3=>(bnd (jzu (r3.1.1,(x1.1,()))) (fun r4=>(bnd (jzu (r4.1.1,(x2.1,()))) (fun r5=>(bnd (jzu (x1.1,(r5.1.1,()))) (fun r6=>(bnd (cz4 (r2.1.1,(r6.1.1,()))) (fun r7=>(bnd (jzu (r7.1.1,(x1.2.1,()))) (fun r8=>(some (((r5.1.1,(r8.1.1,(false,()))),()),())))))))))))))))))):=(FnD.eq V Bz4 wzc (x1,(x2,()))).trans (by kernel_rfl)
theorem Rzk:CallsOk Tryz.prog gls gvs 289 JzI:=FnD.ok (F:=wzc) (cs:=Bz4) V_ok (kC KzD (kC xzo (kC uzu (kC Gz1 kN)))) Tryz.func289 (by decide) (by kernel_rfl)
noncomputable def bzJ:FnD:={f:=218,fn:=Tryz.f218,ps:=[pa (.int .i64),pa azJ],rs:=[rt azJ],joins:=[8,12],cuts:=[(8,[.val 5 (.int .i64) .sh, .box 4 azJ .sh, .box 6 azJ .sh, .ptr 4 4 0, .ptr 6 6 0]),(12,[.val 5 (.int .i64) .sh, .box 4 azJ .sh, .box 6 azJ .sh, .box 7 azJ .sh, .ptr 4 4 0, .ptr 6 6 0, .ptr 7 7 0]),(9,[.val 5 (.int .i64) .sh, .box 4 azJ .sh, .box 6 azJ .sh, .box 7 azJ .sh, .ptr 4 4 0, .ptr 6 6 0, .ptr 7 7 0])]}
noncomputable def bz8:List (Nat×Sig):=[(247,qz8),(254,rz8),(288,Azt),(289,JzI)]
noncomputable def gzI:Int×azn×Unit→Option ((azn×Unit)×Unit):=bzJ.d V bz8
noncomputable abbrev ozk:Sig:=bzJ.t.sig gzI
noncomputable def mzb:Int×azn×azn×Unit→Option ((azn×Unit)×Unit):=bzJ.D V bz8 8
noncomputable def kzJ:Int×azn×azn×azn×Unit→Option ((azn×Unit)×Unit):=bzJ.D V bz8 12
noncomputable def hzW:Int×azn×azn×azn×Unit→Option ((azn×Unit)×Unit):=bzJ.D V bz8 9
theorem Fzz (x1:Int) (x2:azn):gzI (x1,(x2,()))=bnd (jzU (x2,())) (fun r2=>(cnd (bnot r2.1.1) (bnd (mzK ()) (fun r3=>(some ((r3.1.1,()),())))) (cnd (nz 12108) (cnd (ilt (irem x1 12108) 0) (bnd (BzU (x2,())) (fun r3=>(mzb ((ineg .i64 (irem x1 12108)),(fzy,(r3.1.1,())))))) (mzb ((irem x1 12108),(fzy,(x2,()))))) none))):=(FnD.eq V bz8 bzJ (x1,(x2,()))).trans (by kernel_rfl)
theorem Cz8 (x1:Int) (x2:azn) (x3:azn):mzb (x1,(x2,(x3,())))=bnd (mzK ()) (fun r3=>(hzW (x1,(x2,(x3,(r3.1.1,())))))):=(FnD.eqC V bz8 bzJ 8 (x1,(x2,(x3,())))).trans (by kernel_rfl)
theorem qzx (x1:Int) (x2:azn) (x3:azn) (x4:azn):kzJ (x1,(x2,(x3,(x4,()))))=bnd (pzR (x3,(x3,()))) (fun r4=>(cnd (nz 2) (hzW ((iquo .i64 x1 2),(x2,(r4.1.1,(x4,()))))) none)):=(FnD.eqC V bz8 bzJ 12 (x1,(x2,(x3,(x4,()))))).trans (by kernel_rfl)
theorem sz9 (x1:Int) (x2:azn) (x3:azn) (x4:azn):hzW (x1,(x2,(x3,(x4,()))))=cnd (igt x1 0) (cnd (nz 2) (cnd (ieq (irem x1 2) 1) (bnd (pzR (x4,(x3,()))) (fun r4=>(kzJ (x1,(x2,(x3,(r4.1.1,()))))))) (kzJ (x1,(x2,(x3,(x4,())))))) none) (some ((x4,()),())):=(FnD.eqC V bz8 bzJ 9 (x1,(x2,(x3,(x4,()))))).trans (by kernel_rfl)
theorem vzh:CallsOk Tryz.prog gls gvs 218 ozk:=FnD.ok (F:=bzJ) (cs:=bz8) V_ok (kC wz5 (kC xzo (kC LzY (kC Rzk kN)))) Tryz.func218 (by decide) (by kernel_rfl)
noncomputable def zzR:FnD:={f:=150,fn:=Tryz.f150,ps:=[pa (.int .i64)],rs:=[rt azJ]}
noncomputable def Gz7:List (Nat×Sig):=[(219,Sz6),(220,TzL),(218,ozk)]
noncomputable def zzz:Int×Unit→Option ((azn×Unit)×Unit):=zzR.d V Gz7
noncomputable abbrev Nzp:Sig:=zzR.t.sig zzz
theorem Uz9 (x1:Int):zzz (x1,())=bnd (Gzl (x1,())) (fun r1=>(bnd (KzF ()) (fun r2=>(bnd (gzI (r1.1.1,(r2.1.1,()))) (fun r3=>(some ((r3.1.1,()),()))))))):=(FnD.eq V Gz7 zzR (x1,())).trans (by kernel_rfl)
theorem Vzo:CallsOk Tryz.prog gls gvs 150 Nzp:=FnD.ok (F:=zzR) (cs:=Gz7) V_ok (kC Wz1 (kC Vz9 (kC vzh kN))) Tryz.func150 (by decide) (by kernel_rfl)
noncomputable def dzz:FnD:={f:=84,fn:=Tryz.f84,ps:=[pa (.int .i64)],rs:=[⟨azp,(.pr (.own 0 .sh) .sh),false⟩],cuts:=[(4,[.val 3 (.sl (.int .i64)) (.own 0 .sh), .val 5 (.int .i64) .sh, .box 2 azp (.pr (.own 0 .sh) .sh), .box 4 azp (.pr (.own 0 .sh) .sh), .ptr 2 2 0, .ptr 4 4 0])]}
noncomputable def ez7:List (Nat×Sig):=[(149,yzu),(150,Nzp)]
noncomputable def hzQ:Int×Unit→Option ((azh×Unit)×Unit):=dzz.d V ez7
noncomputable abbrev sz7:Sig:=dzz.t.sig hzQ
noncomputable def gzF:(List Int)×Int×azh×azh×Unit→Option ((azh×Unit)×Unit):=dzz.D V ez7 4
theorem Cz6 (x1:Int):hzQ (x1,())=bnd (lzy (x1,())) (fun r1=>(gzF (r1.1.1,(0,(kzh,(kzh,())))))):=(FnD.eq V ez7 dzz (x1,())).trans (by kernel_rfl)
theorem pzM (x1:(List Int)) (x2:Int) (x3:azh) (x4:azh):gzF (x1,(x2,(x3,(x4,()))))=cnd (ilt x2 (len x1)) (cnd (inb x2 (len x1)) (bnd (zzz ((rd 0 x1 x2),())) (fun r4=>(cnd (fits ((len x4.1)+(len (r4.1.1::([]:List azn)))) 3) (gzF (x1,((iadd .i64 x2 1),(x3,(((app x4.1 (r4.1.1::([]:List azn))),x4.2),()))))) none))) none) (some ((x4,()),())):=(FnD.eqC V ez7 dzz 4 (x1,(x2,(x3,(x4,()))))).trans (by kernel_rfl)
theorem Dzi:CallsOk Tryz.prog gls gvs 84 sz7:=FnD.ok (F:=dzz) (cs:=ez7) V_ok (kC HzJ (kC Vzo kN)) Tryz.func84 (by decide) (by kernel_rfl)
noncomputable def ezm:FnD:={f:=47,fn:=Tryz.f47,ps:=[pa bzY,pa (.int .i64)],rs:=[⟨azp,(.pr (.own 0 .sh) .sh),false⟩]}
noncomputable def hzL:List (Nat×Sig):=[(84,sz7)]
noncomputable def bzI:azH×Int×Unit→Option ((azh×Unit)×Unit):=ezm.d V hzL
noncomputable abbrev hzB:Sig:=ezm.t.sig bzI
theorem wzK (x1:azH) (x2:Int):bzI (x1,(x2,()))=cnd (nz 1000) (cnd (nz 1000) (bnd (hzQ ((iadd .i64 (irem x1.1 1000) (imul .i64 (irem x2 1000) 13)),())) (fun r2=>(some ((r2.1.1,()),())))) none) none:=(FnD.eq V hzL ezm (x1,(x2,()))).trans (by kernel_rfl)
theorem mzM:CallsOk Tryz.prog gls gvs 47 hzB:=FnD.ok (F:=ezm) (cs:=hzL) V_ok (kC Dzi kN) Tryz.func47 (by decide) (by kernel_rfl)
noncomputable def fz1:FnD:={f:=151,fn:=Tryz.f151,ps:=[pa .str],rs:=[rt .str],cuts:=[(3,[.val 3 (.sl (.int .u8)) (.own 0 .sh)])]}
noncomputable def izI:List (Nat×Sig):=[]
noncomputable def lzJ:ByteArray×Unit→Option ((ByteArray×Unit)×Unit):=fz1.d V izI
noncomputable abbrev yzk:Sig:=fz1.t.sig lzJ
noncomputable def cz7:(List Int)×Unit→Option ((ByteArray×Unit)×Unit):=fz1.D V izI 3
theorem Jzz (x1:ByteArray):lzJ (x1,())=cnd (fits ((len (bzn x1))+(len (1::([]:List Int)))) 1) (cz7 ((app (bzn x1) (1::([]:List Int))),())) none:=(FnD.eq V izI fz1 (x1,())).trans (by kernel_rfl)
theorem vzt (x1:(List Int)):cz7 (x1,())=cnd (nz 136) (cnd (ine (irem (len x1) 136) 0) (cnd (fits ((len x1)+(len (0::([]:List Int)))) 1) (cz7 ((app x1 (0::([]:List Int))),())) none) (cnd (inb (isub .i64 (len x1) 1) (len x1)) (cnd (inb (isub .i64 (len x1) 1) (len x1)) (some (((sof (upd x1 (isub .i64 (len x1) 1) (ior .u8 (rd 0 x1 (isub .i64 (len x1) 1)) 128))),()),())) none) none)) none:=(FnD.eqC V izI fz1 3 (x1,())).trans (by kernel_rfl)
theorem Izv:CallsOk Tryz.prog gls gvs 151 yzk:=FnD.ok (F:=fz1) (cs:=izI) V_ok kN Tryz.func151 (by decide) (by kernel_rfl)
noncomputable def jzL:FnD:={f:=152,fn:=Tryz.f152,ps:=[pa .str,pa (.int .i64)],rs:=[rt (.int .u64)],cuts:=[(3,[.val 0 .str .sh, .val 1 (.int .i64) .sh, .val 5 (.int .u64) .sh, .val 6 (.int .i64) .sh])]}
noncomputable def nzs:List (Nat×Sig):=[]
noncomputable def rzm:ByteArray×Int×Unit→Option ((Int×Unit)×Unit):=jzL.d V nzs
noncomputable abbrev Ezz:Sig:=jzL.t.sig rzm
noncomputable def nz0:ByteArray×Int×Int×Int×Unit→Option ((Int×Unit)×Unit):=jzL.D V nzs 3
theorem PzV (x1:ByteArray) (x2:Int):rzm (x1,(x2,()))=nz0 (x1,(x2,(0,(7,())))):=(FnD.eq V nzs jzL (x1,(x2,()))).trans (by kernel_rfl)
theorem BzP (x1:ByteArray) (x2:Int) (x3:Int) (x4:Int):nz0 (x1,(x2,(x3,(x4,()))))=cnd (ige x4 0) (cnd (nn 8) (cnd (inb (iadd .i64 x2 x4) (ssz x1)) (nz0 (x1,(x2,((ior .u64 (ishl .u64 x3 8) (azx .u64 (sat x1 (iadd .i64 x2 x4)))),((isub .i64 x4 1),()))))) none) none) (some ((x3,()),())):=(FnD.eqC V nzs jzL 3 (x1,(x2,(x3,(x4,()))))).trans (by kernel_rfl)
theorem Ozm:CallsOk Tryz.prog gls gvs 152 Ezz:=FnD.ok (F:=jzL) (cs:=nzs) V_ok kN Tryz.func152 (by decide) (by kernel_rfl)
noncomputable def jzw:FnD:={f:=221,fn:=Tryz.f221,ps:=[],rs:=[rt (.arr 25 (.int .u64))]}
noncomputable def nzY:List (Nat×Sig):=[]
noncomputable def jzo:Unit→Option (((List Int)×Unit)×Unit):=jzw.d V nzY
noncomputable abbrev vzA:Sig:=jzw.t.sig jzo
theorem Gzd:jzo ()=some (((0::(1::(62::(28::(27::(36::(44::(6::(55::(20::(3::(10::(43::(25::(39::(41::(45::(15::(21::(8::(18::(2::(61::(56::(14::([]:List Int)))))))))))))))))))))))))),()),()):=(FnD.eq V nzY jzw ()).trans (by kernel_rfl)
theorem FzT:CallsOk Tryz.prog gls gvs 221 vzA:=FnD.ok (F:=jzw) (cs:=nzY) V_ok kN Tryz.func221 (by decide) (by kernel_rfl)
noncomputable def lzD:FnD:={f:=222,fn:=Tryz.f222,ps:=[],rs:=[rt (.arr 24 (.int .u64))]}
noncomputable def qzC:List (Nat×Sig):=[]
noncomputable def lzr:Unit→Option (((List Int)×Unit)×Unit):=lzD.d V qzC
noncomputable abbrev yze:Sig:=lzD.t.sig lzr
theorem HzZ:lzr ()=some (((1::(32898::(9223372036854808714::(9223372039002292224::(32907::(2147483649::(9223372039002292353::(9223372036854808585::(138::(136::(2147516425::(2147483658::(2147516555::(9223372036854775947::(9223372036854808713::(9223372036854808579::(9223372036854808578::(9223372036854775936::(32778::(9223372039002259466::(9223372039002292353::(9223372036854808704::(2147483649::(9223372039002292232::([]:List Int))))))))))))))))))))))))),()),()):=(FnD.eq V qzC lzD ()).trans (by kernel_rfl)
theorem IzE:CallsOk Tryz.prog gls gvs 222 yze:=FnD.ok (F:=lzD) (cs:=qzC) V_ok kN Tryz.func222 (by decide) (by kernel_rfl)
noncomputable def rzo:FnD:={f:=290,fn:=Tryz.f290,ps:=[pa (.int .u64),pa (.int .u64)],rs:=[rt (.int .u64)]}
noncomputable def wzZ:List (Nat×Sig):=[]
noncomputable def mzH:Int×Int×Unit→Option ((Int×Unit)×Unit):=rzo.d V wzZ
noncomputable abbrev EzB:Sig:=rzo.t.sig mzH
theorem OzX (x1:Int) (x2:Int):mzH (x1,(x2,()))=cnd (nn x2) (cnd (nn (isub .u64 64 x2)) (some (((ior .u64 (ishl .u64 x1 x2) (ishr .u64 x1 (isub .u64 64 x2))),()),())) none) none:=(FnD.eq V wzZ rzo (x1,(x2,()))).trans (by kernel_rfl)
theorem Pzz:CallsOk Tryz.prog gls gvs 290 EzB:=FnD.ok (F:=rzo) (cs:=wzZ) V_ok kN Tryz.func290 (by decide) (by kernel_rfl)
noncomputable def bzj:FnD:={f:=223,fn:=Tryz.f223,ps:=[pa (.arr 25 (.int .u64)),pa (.arr 25 (.int .u64)),pa (.int .u64)],rs:=[rt (.arr 25 (.int .u64))],joins:=[18],cuts:=[(3,[.val 2 (.int .u64) .sh, .val 8 (.int .i64) .sh, .box 3 (.arr 25 (.int .u64)) .sh, .box 4 (.arr 25 (.int .u64)) .sh, .box 6 (.arr 25 (.int .u64)) .sh, .box 7 (.arr 5 (.int .u64)) .sh, .ptr 3 3 0, .ptr 4 4 0, .ptr 6 6 0, .ptr 7 7 0]),(18,[.val 2 (.int .u64) .sh, .val 10 (.int .i64) .sh, .val 11 (.int .u64) .sh, .val 12 (.int .i64) .sh, .val 13 (.int .u64) .sh, .box 3 (.arr 25 (.int .u64)) .sh, .box 4 (.arr 25 (.int .u64)) .sh, .box 6 (.arr 25 (.int .u64)) .sh, .box 7 (.arr 5 (.int .u64)) .sh, .box 9 (.arr 25 (.int .u64)) .sh, .ptr 3 3 0, .ptr 4 4 0, .ptr 6 6 0, .ptr 7 7 0, .ptr 9 9 0]),(12,[.val 2 (.int .u64) .sh, .val 10 (.int .i64) .sh, .val 11 (.int .u64) .sh, .val 12 (.int .i64) .sh, .box 3 (.arr 25 (.int .u64)) .sh, .box 4 (.arr 25 (.int .u64)) .sh, .box 6 (.arr 25 (.int .u64)) .sh, .box 7 (.arr 5 (.int .u64)) .sh, .box 9 (.arr 25 (.int .u64)) .sh, .ptr 3 3 0, .ptr 4 4 0, .ptr 6 6 0, .ptr 7 7 0, .ptr 9 9 0]),(8,[.val 2 (.int .u64) .sh, .val 10 (.int .i64) .sh, .box 3 (.arr 25 (.int .u64)) .sh, .box 4 (.arr 25 (.int .u64)) .sh, .box 6 (.arr 25 (.int .u64)) .sh, .box 7 (.arr 5 (.int .u64)) .sh, .box 9 (.arr 25 (.int .u64)) .sh, .ptr 3 3 0, .ptr 4 4 0, .ptr 6 6 0, .ptr 7 7 0, .ptr 9 9 0]),(23,[.val 2 (.int .u64) .sh, .val 15 (.int .i64) .sh, .val 16 (.int .i64) .sh, .box 3 (.arr 25 (.int .u64)) .sh, .box 6 (.arr 25 (.int .u64)) .sh, .box 9 (.arr 25 (.int .u64)) .sh, .ptr 3 3 0, .ptr 6 6 0, .ptr 9 9 0]),(20,[.val 2 (.int .u64) .sh, .val 15 (.int .i64) .sh, .box 3 (.arr 25 (.int .u64)) .sh, .box 6 (.arr 25 (.int .u64)) .sh, .box 9 (.arr 25 (.int .u64)) .sh, .ptr 3 3 0, .ptr 6 6 0, .ptr 9 9 0])]}
noncomputable def bzo:List (Nat×Sig):=[(290,EzB)]
noncomputable def ozx:(List Int)× (List Int)×Int×Unit→Option (((List Int)×Unit)×Unit):=bzj.d V bzo
noncomputable abbrev Bzj:Sig:=bzj.t.sig ozx
noncomputable def fz4:Int×Int× (List Int)× (List Int)× (List Int)× (List Int)×Unit→Option (((List Int)×Unit)×Unit):=bzj.D V bzo 3
noncomputable def nzP:Int×Int×Int×Int×Int× (List Int)× (List Int)× (List Int)× (List Int)× (List Int)×Unit→Option (((List Int)×Unit)×Unit):=bzj.D V bzo 18
noncomputable def gzR:Int×Int×Int×Int× (List Int)× (List Int)× (List Int)× (List Int)× (List Int)×Unit→Option (((List Int)×Unit)×Unit):=bzj.D V bzo 12
noncomputable def fz3:Int×Int× (List Int)× (List Int)× (List Int)× (List Int)× (List Int)×Unit→Option (((List Int)×Unit)×Unit):=bzj.D V bzo 8
noncomputable def jzj:Int×Int×Int× (List Int)× (List Int)× (List Int)×Unit→Option (((List Int)×Unit)×Unit):=bzj.D V bzo 23
noncomputable def ezw:Int×Int× (List Int)× (List Int)× (List Int)×Unit→Option (((List Int)×Unit)×Unit):=bzj.D V bzo 20
theorem LzX (x1:(List Int)) (x2:(List Int)) (x3:Int):ozx (x1,(x2,(x3,())))=fz4 (x3,(0,(x1,(x2,((0::(0::(0::(0::(0::(0::(0::(0::(0::(0::(0::(0::(0::(0::(0::(0::(0::(0::(0::(0::(0::(0::(0::(0::(0::([]:List Int)))))))))))))))))))))))))),((0::(0::(0::(0::(0::([]:List Int)))))),())))))):=(FnD.eq V bzo bzj (x1,(x2,(x3,())))).trans (by kernel_rfl)
theorem yzK (x1:Int) (x2:Int) (x3:(List Int)) (x4:(List Int)) (x5:(List Int)) (x6:(List Int)):fz4 (x1,(x2,(x3,(x4,(x5,(x6,()))))))=cnd (ilt x2 5) (cnd (inb x2 25) (cnd (inb (iadd .i64 x2 5) 25) (cnd (inb (iadd .i64 x2 10) 25) (cnd (inb (iadd .i64 x2 15) 25) (cnd (inb (iadd .i64 x2 20) 25) (cnd (inb x2 5) (fz4 (x1,((iadd .i64 x2 1),(x3,(x4,(x5,((upd x6 x2 (ixor .u64 (ixor .u64 (ixor .u64 (ixor .u64 (rd 0 x3 x2) (rd 0 x3 (iadd .i64 x2 5))) (rd 0 x3 (iadd .i64 x2 10))) (rd 0 x3 (iadd .i64 x2 15))) (rd 0 x3 (iadd .i64 x2 20)))),()))))))) none) none) none) none) none) none) (fz3 (x1,(0,(x3,(x4,(x5,(x6,((0::(0::(0::(0::(0::(0::(0::(0::(0::(0::(0::(0::(0::(0::(0::(0::(0::(0::(0::(0::(0::(0::(0::(0::(0::([]:List Int)))))))))))))))))))))))))),())))))))):=(FnD.eqC V bzo bzj 3 (x1,(x2,(x3,(x4,(x5,(x6,()))))))).trans (by kernel_rfl)
theorem uz1 (x1:Int) (x2:Int) (x3:Int) (x4:Int) (x5:Int) (x6:(List Int)) (x7:(List Int)) (x8:(List Int)) (x9:(List Int)) (x10:(List Int)):nzP (x1,(x2,(x3,(x4,(x5,(x6,(x7,(x8,(x9,(x10,()))))))))))=cnd (nz 5) (cnd (inb (iadd .i64 x4 (imul .i64 5 (irem (iadd .i64 (imul .i64 2 x2) (imul .i64 3 x4)) 5))) 25) (gzR (x1,(x2,(x3,((iadd .i64 x4 1),(x6,(x7,(x8,(x9,((upd x10 (iadd .i64 x4 (imul .i64 5 (irem (iadd .i64 (imul .i64 2 x2) (imul .i64 3 x4)) 5))) x5),())))))))))) none) none:=(FnD.eqC V bzo bzj 18 (x1,(x2,(x3,(x4,(x5,(x6,(x7,(x8,(x9,(x10,()))))))))))).trans (by kernel_rfl)
theorem vzG (x1:Int) (x2:Int) (x3:Int) (x4:Int) (x5:(List Int)) (x6:(List Int)) (x7:(List Int)) (x8:(List Int)) (x9:(List Int)):gzR (x1,(x2,(x3,(x4,(x5,(x6,(x7,(x8,(x9,())))))))))=cnd (ilt x4 5) (cnd (inb (iadd .i64 x2 (imul .i64 5 x4)) 25) (cnd (inb (iadd .i64 x2 (imul .i64 5 x4)) 25) (cnd (igt (rd 0 x6 (iadd .i64 x2 (imul .i64 5 x4))) 0) (bnd (mzH ((ixor .u64 (rd 0 x5 (iadd .i64 x2 (imul .i64 5 x4))) x3),((rd 0 x6 (iadd .i64 x2 (imul .i64 5 x4))),()))) (fun r9=>(nzP (x1,(x2,(x3,(x4,(r9.1.1,(x5,(x6,(x7,(x8,(x9,()))))))))))))) (nzP (x1,(x2,(x3,(x4,((ixor .u64 (rd 0 x5 (iadd .i64 x2 (imul .i64 5 x4))) x3),(x5,(x6,(x7,(x8,(x9,())))))))))))) none) none) (fz3 (x1,((iadd .i64 x2 1),(x5,(x6,(x7,(x8,(x9,())))))))):=(FnD.eqC V bzo bzj 12 (x1,(x2,(x3,(x4,(x5,(x6,(x7,(x8,(x9,())))))))))).trans (by kernel_rfl)
theorem yzL (x1:Int) (x2:Int) (x3:(List Int)) (x4:(List Int)) (x5:(List Int)) (x6:(List Int)) (x7:(List Int)):fz3 (x1,(x2,(x3,(x4,(x5,(x6,(x7,())))))))=cnd (ilt x2 5) (cnd (nz 5) (cnd (inb (irem (iadd .i64 x2 4) 5) 5) (cnd (nz 5) (cnd (inb (irem (iadd .i64 x2 1) 5) 5) (bnd (mzH ((rd 0 x6 (irem (iadd .i64 x2 1) 5)),(1,()))) (fun r7=>(gzR (x1,(x2,((ixor .u64 (rd 0 x6 (irem (iadd .i64 x2 4) 5)) r7.1.1),(0,(x3,(x4,(x5,(x6,(x7,())))))))))))) none) none) none) none) (ezw (x1,(0,(x3,(x5,(x7,())))))):=(FnD.eqC V bzo bzj 8 (x1,(x2,(x3,(x4,(x5,(x6,(x7,())))))))).trans (by kernel_rfl)
theorem uz9 (x1:Int) (x2:Int) (x3:Int) (x4:(List Int)) (x5:(List Int)) (x6:(List Int)):jzj (x1,(x2,(x3,(x4,(x5,(x6,()))))))=cnd (ilt x3 5) (cnd (inb (iadd .i64 x3 (imul .i64 5 x2)) 25) (cnd (nz 5) (cnd (inb (iadd .i64 (irem (iadd .i64 x3 1) 5) (imul .i64 5 x2)) 25) (cnd (nz 5) (cnd (inb (iadd .i64 (irem (iadd .i64 x3 2) 5) (imul .i64 5 x2)) 25) (cnd (inb (iadd .i64 x3 (imul .i64 5 x2)) 25) (jzj (x1,(x2,((iadd .i64 x3 1),((upd x4 (iadd .i64 x3 (imul .i64 5 x2)) (ixor .u64 (rd 0 x6 (iadd .i64 x3 (imul .i64 5 x2))) (iand .u64 (ixor .u64 (rd 0 x6 (iadd .i64 (irem (iadd .i64 x3 1) 5) (imul .i64 5 x2))) 18446744073709551615) (rd 0 x6 (iadd .i64 (irem (iadd .i64 x3 2) 5) (imul .i64 5 x2)))))),(x5,(x6,()))))))) none) none) none) none) none) none) (ezw (x1,((iadd .i64 x2 1),(x4,(x5,(x6,())))))):=(FnD.eqC V bzo bzj 23 (x1,(x2,(x3,(x4,(x5,(x6,()))))))).trans (by kernel_rfl)
theorem uzv (x1:Int) (x2:Int) (x3:(List Int)) (x4:(List Int)) (x5:(List Int)):ezw (x1,(x2,(x3,(x4,(x5,())))))=cnd (ilt x2 5) (jzj (x1,(x2,(0,(x3,(x4,(x5,()))))))) (cnd (inb 0 25) (cnd (inb 0 25) (some (((upd x3 0 (ixor .u64 (rd 0 x3 0) x1)),()),())) none) none):=(FnD.eqC V bzo bzj 20 (x1,(x2,(x3,(x4,(x5,())))))).trans (by kernel_rfl)
theorem Mzo:CallsOk Tryz.prog gls gvs 223 Bzj:=FnD.ok (F:=bzj) (cs:=bzo) V_ok (kC Pzz kN) Tryz.func223 (by decide) (by kernel_rfl)
noncomputable def nzD:FnD:={f:=153,fn:=Tryz.f153,ps:=[pa (.arr 25 (.int .u64))],rs:=[rt (.arr 25 (.int .u64))],cuts:=[(4,[.val 5 (.int .i64) .sh, .box 1 (.arr 25 (.int .u64)) .sh, .box 2 (.arr 25 (.int .u64)) .sh, .box 3 (.arr 25 (.int .u64)) .sh, .box 4 (.arr 24 (.int .u64)) .sh, .ptr 1 1 0, .ptr 2 2 0, .ptr 3 3 0, .ptr 4 4 0])]}
noncomputable def qzB:List (Nat×Sig):=[(221,vzA),(222,yze),(223,Bzj)]
noncomputable def vzH:(List Int)×Unit→Option (((List Int)×Unit)×Unit):=nzD.d V qzB
noncomputable abbrev Jzd:Sig:=nzD.t.sig vzH
noncomputable def sza:Int× (List Int)× (List Int)× (List Int)× (List Int)×Unit→Option (((List Int)×Unit)×Unit):=nzD.D V qzB 4
theorem QzA (x1:(List Int)):vzH (x1,())=bnd (jzo ()) (fun r1=>(bnd (lzr ()) (fun r2=>(sza (0,(x1,((0::(0::(0::(0::(0::(0::(0::(0::(0::(0::(0::(0::(0::(0::(0::(0::(0::(0::(0::(0::(0::(0::(0::(0::(0::([]:List Int)))))))))))))))))))))))))),(r1.1.1,(r2.1.1,()))))))))):=(FnD.eq V qzB nzD (x1,())).trans (by kernel_rfl)
theorem DzM (x1:Int) (x2:(List Int)) (x3:(List Int)) (x4:(List Int)) (x5:(List Int)):sza (x1,(x2,(x3,(x4,(x5,())))))=cnd (ilt x1 24) (cnd (inb x1 24) (bnd (ozx (x2,(x4,((rd 0 x5 x1),())))) (fun r5=>(sza ((iadd .i64 x1 1),(r5.1.1,(x3,(x4,(x5,())))))))) none) (some ((x2,()),())):=(FnD.eqC V qzB nzD 4 (x1,(x2,(x3,(x4,(x5,())))))).trans (by kernel_rfl)
theorem Tze:CallsOk Tryz.prog gls gvs 153 Jzd:=FnD.ok (F:=nzD) (cs:=qzB) V_ok (kC FzT (kC IzE (kC Mzo kN))) Tryz.func153 (by decide) (by kernel_rfl)
noncomputable def jzT:FnD:={f:=154,fn:=Tryz.f154,ps:=[pa (.arr 25 (.int .u64))],rs:=[rt .str],cuts:=[(3,[.val 3 (.sl (.int .u8)) (.own 0 .sh), .val 4 (.int .i64) .sh, .box 1 (.arr 25 (.int .u64)) .sh, .ptr 1 1 0])]}
noncomputable def nzd:List (Nat×Sig):=[]
noncomputable def rzk:(List Int)×Unit→Option ((ByteArray×Unit)×Unit):=jzT.d V nzd
noncomputable abbrev DzD:Sig:=jzT.t.sig rzk
noncomputable def lzh:(List Int)×Int× (List Int)×Unit→Option ((ByteArray×Unit)×Unit):=jzT.D V nzd 3
theorem Pzu (x1:(List Int)):rzk (x1,())=cnd (both (inb2 0 200 200) (fits 200 1)) (lzh ((rep 200 0),(0,(x1,())))) none:=(FnD.eq V nzd jzT (x1,())).trans (by kernel_rfl)
theorem AzV (x1:(List Int)) (x2:Int) (x3:(List Int)):lzh (x1,(x2,(x3,())))=cnd (ilt x2 200) (cnd (nz 8) (cnd (inb (iquo .i64 x2 8) 25) (cnd (nz 8) (cnd (nn (imul .u64 8 (azx .u64 (irem x2 8)))) (cnd (inb x2 (len x1)) (lzh ((upd x1 x2 (azx .u8 (ishr .u64 (rd 0 x3 (iquo .i64 x2 8)) (imul .u64 8 (azx .u64 (irem x2 8)))))),((iadd .i64 x2 1),(x3,())))) none) none) none) none) none) (some (((sof x1),()),())):=(FnD.eqC V nzd jzT 3 (x1,(x2,(x3,())))).trans (by kernel_rfl)
theorem Nz9:CallsOk Tryz.prog gls gvs 154 DzD:=FnD.ok (F:=jzT) (cs:=nzd) V_ok kN Tryz.func154 (by decide) (by kernel_rfl)
noncomputable def izR:FnD:={f:=86,fn:=Tryz.f86,ps:=[pa .str],rs:=[rt .str],cuts:=[(7,[.val 3 .str .sh, .val 5 (.int .i64) .sh, .val 6 (.int .i64) .sh, .box 4 (.arr 25 (.int .u64)) .sh, .ptr 4 4 0]),(4,[.val 3 .str .sh, .val 5 (.int .i64) .sh, .box 4 (.arr 25 (.int .u64)) .sh, .ptr 4 4 0])]}
noncomputable def kz1:List (Nat×Sig):=[(151,yzk),(152,Ezz),(153,Jzd),(154,DzD)]
noncomputable def czA:ByteArray×Unit→Option ((ByteArray×Unit)×Unit):=izR.d V kz1
noncomputable abbrev gzk:Sig:=izR.t.sig czA
noncomputable def mzY:ByteArray×Int×Int× (List Int)×Unit→Option ((ByteArray×Unit)×Unit):=izR.D V kz1 7
noncomputable def mzD:ByteArray×Int× (List Int)×Unit→Option ((ByteArray×Unit)×Unit):=izR.D V kz1 4
theorem Szl (x1:ByteArray):czA (x1,())=bnd (lzJ (x1,())) (fun r1=>(mzD (r1.1.1,(0,((0::(0::(0::(0::(0::(0::(0::(0::(0::(0::(0::(0::(0::(0::(0::(0::(0::(0::(0::(0::(0::(0::(0::(0::(0::([]:List Int)))))))))))))))))))))))))),()))))):=(FnD.eq V kz1 izR (x1,())).trans (by kernel_rfl)
theorem DzX (x1:ByteArray) (x2:Int) (x3:Int) (x4:(List Int)):mzY (x1,(x2,(x3,(x4,()))))=cnd (ilt x3 17) (cnd (inb x3 25) (bnd (rzm (x1,((iadd .i64 x2 (imul .i64 8 x3)),()))) (fun r4=>(cnd (inb x3 25) (mzY (x1,(x2,((iadd .i64 x3 1),((upd x4 x3 (ixor .u64 (rd 0 x4 x3) r4.1.1)),()))))) none))) none) (bnd (vzH (x4,())) (fun r4=>(mzD (x1,((iadd .i64 x2 136),(r4.1.1,())))))):=(FnD.eqC V kz1 izR 7 (x1,(x2,(x3,(x4,()))))).trans (by kernel_rfl)
theorem DzL (x1:ByteArray) (x2:Int) (x3:(List Int)):mzD (x1,(x2,(x3,())))=cnd (ilt x2 (ssz x1)) (mzY (x1,(x2,(0,(x3,()))))) (bnd (rzk (x3,())) (fun r3=>(cnd (inb2 0 32 (ssz r3.1.1)) (some (((ssub r3.1.1 0 32),()),())) none))):=(FnD.eqC V kz1 izR 4 (x1,(x2,(x3,())))).trans (by kernel_rfl)
theorem izA:CallsOk Tryz.prog gls gvs 86 gzk:=FnD.ok (F:=izR) (cs:=kz1) V_ok (kC Izv (kC Ozm (kC Tze (kC Nz9 kN)))) Tryz.func86 (by decide) (by kernel_rfl)
noncomputable def oz3:FnD:={f:=85,fn:=Tryz.f85,ps:=[],rs:=[rt czS]}
noncomputable def tz1:List (Nat×Sig):=[(86,gzk)]
noncomputable def nz2:Unit→Option ((azO×Unit)×Unit):=oz3.d V tz1
noncomputable abbrev BzQ:Sig:=oz3.t.sig nz2
theorem Kz5:nz2 ()=bnd (czA ((bs []),())) (fun r0=>(some (((0,(r0.1.1,(r0.1.1,(r0.1.1,())))),()),()))):=(FnD.eq V tz1 oz3 ()).trans (by kernel_rfl)
theorem Kz3:CallsOk Tryz.prog gls gvs 85 BzQ:=FnD.ok (F:=oz3) (cs:=tz1) V_ok (kC izA kN) Tryz.func85 (by decide) (by kernel_rfl)
noncomputable def lzs:FnD:={f:=155,fn:=Tryz.f155,ps:=[pa (.int .i64)],rs:=[rt (.int .u8)]}
noncomputable def pzT:List (Nat×Sig):=[]
noncomputable def lzA:Int×Unit→Option ((Int×Unit)×Unit):=lzs.d V pzT
noncomputable abbrev yzF:Sig:=lzs.t.sig lzA
theorem Jza (x1:Int):lzA (x1,())=cnd (ilt x1 10) (some (((azx .u8 (iadd .i64 48 x1)),()),())) (some (((azx .u8 (isub .i64 (iadd .i64 97 x1) 10)),()),())):=(FnD.eq V pzT lzs (x1,())).trans (by kernel_rfl)
theorem IzI:CallsOk Tryz.prog gls gvs 155 yzF:=FnD.ok (F:=lzs) (cs:=pzT) V_ok kN Tryz.func155 (by decide) (by kernel_rfl)
noncomputable def fzP:FnD:={f:=87,fn:=Tryz.f87,ps:=[pa (.int .i64)],rs:=[rt .str],joins:=[9],cuts:=[(9,[.val 0 (.int .i64) .sh, .val 3 .bool .sh, .val 4 .str .sh, .val 5 (.int .i64) .sh]),(5,[.val 0 (.int .i64) .sh, .val 3 .bool .sh, .val 4 .str .sh])]}
noncomputable def gz6:List (Nat×Sig):=[(155,yzF)]
noncomputable def szo:Int×Unit→Option ((ByteArray×Unit)×Unit):=fzP.d V gz6
noncomputable abbrev Dzz:Sig:=fzP.t.sig szo
noncomputable def tz8:Int×Bool×ByteArray×Int×Unit→Option ((ByteArray×Unit)×Unit):=fzP.D V gz6 9
noncomputable def fzm:Int×Bool×ByteArray×Unit→Option ((ByteArray×Unit)×Unit):=fzP.D V gz6 5
theorem PzW (x1:Int):szo (x1,())=cnd (ieq x1 0) (some (((bs [48]),()),())) (fzm (x1,((ilt x1 0),((bs []),())))):=(FnD.eq V gz6 fzP (x1,())).trans (by kernel_rfl)
theorem Lzv (x1:Int) (x2:Bool) (x3:ByteArray) (x4:Int):tz8 (x1,(x2,(x3,(x4,()))))=bnd (lzA (x4,())) (fun r4=>(cnd (fits ((ssz (sof (r4.1.1::([]:List Int))))+(ssz x3)) 1) (cnd (nz 10) (fzm ((iquo .i64 x1 10),(x2,((scat (sof (r4.1.1::([]:List Int))) x3),())))) none) none)):=(FnD.eqC V gz6 fzP 9 (x1,(x2,(x3,(x4,()))))).trans (by kernel_rfl)
theorem zzW (x1:Int) (x2:Bool) (x3:ByteArray):fzm (x1,(x2,(x3,())))=cnd (ine x1 0) (cnd (nz 10) (cnd (ilt (irem x1 10) 0) (tz8 (x1,(x2,(x3,((ineg .i64 (irem x1 10)),()))))) (tz8 (x1,(x2,(x3,((irem x1 10),())))))) none) (cnd x2 (cnd (fits ((ssz (bs [45]))+(ssz x3)) 1) (some (((scat (bs [45]) x3),()),())) none) (some ((x3,()),()))):=(FnD.eqC V gz6 fzP 5 (x1,(x2,(x3,())))).trans (by kernel_rfl)
theorem Pzi:CallsOk Tryz.prog gls gvs 87 Dzz:=FnD.ok (F:=fzP) (cs:=gz6) V_ok (kC IzI kN) Tryz.func87 (by decide) (by kernel_rfl)
noncomputable def uz7:FnD:={f:=156,fn:=Tryz.f156,ps:=[pa czS],rs:=[rt .bool]}
noncomputable def BzT:List (Nat×Sig):=[(43,ezo)]
noncomputable def vzK:azO×Unit→Option ((Bool×Unit)×Unit):=uz7.d V BzT
noncomputable abbrev JzJ:Sig:=uz7.t.sig vzK
theorem Szw (x1:azO):vzK (x1,())=bnd (bzX (x1.1,(0,(10000,())))) (fun r1=>(cnd r1.1.1 (cnd (ieq (ssz x1.2.1) 32) (cnd (ieq (ssz x1.2.2.1) 32) (some (((ieq (ssz x1.2.2.2.1) 32),()),())) (some ((false,()),()))) (some ((false,()),()))) (some ((false,()),())))):=(FnD.eq V BzT uz7 (x1,())).trans (by kernel_rfl)
theorem TzK:CallsOk Tryz.prog gls gvs 156 JzJ:=FnD.ok (F:=uz7) (cs:=BzT) V_ok (kC fzj kN) Tryz.func156 (by decide) (by kernel_rfl)
noncomputable def mz9:FnD:={f:=157,fn:=Tryz.f157,ps:=[pa (.int .i64)],rs:=[rt .str],cuts:=[(2,[.val 0 (.int .i64) .sh, .val 3 (.sl (.int .u8)) (.own 0 .sh)])]}
noncomputable def pzB:List (Nat×Sig):=[]
noncomputable def vzf:Int×Unit→Option ((ByteArray×Unit)×Unit):=mz9.d V pzB
noncomputable abbrev Izs:Sig:=mz9.t.sig vzf
noncomputable def mz2:Int× (List Int)×Unit→Option ((ByteArray×Unit)×Unit):=mz9.D V pzB 2
theorem Tzk (x1:Int):vzf (x1,())=mz2 (x1,(([]:List Int),())):=(FnD.eq V pzB mz9 (x1,())).trans (by kernel_rfl)
theorem EzU (x1:Int) (x2:(List Int)):mz2 (x1,(x2,()))=cnd (igt x1 127) (cnd (nz 128) (cnd (fits ((len x2)+(len ((azx .u8 (iadd .i64 (irem x1 128) 128))::([]:List Int)))) 1) (cnd (nz 128) (mz2 ((iquo .i64 x1 128),((app x2 ((azx .u8 (iadd .i64 (irem x1 128) 128))::([]:List Int))),()))) none) none) none) (cnd (fits ((len x2)+(len ((azx .u8 x1)::([]:List Int)))) 1) (some (((sof (app x2 ((azx .u8 x1)::([]:List Int)))),()),())) none):=(FnD.eqC V pzB mz9 2 (x1,(x2,()))).trans (by kernel_rfl)
theorem Rzs:CallsOk Tryz.prog gls gvs 157 Izs:=FnD.ok (F:=mz9) (cs:=pzB) V_ok kN Tryz.func157 (by decide) (by kernel_rfl)
noncomputable def hzt:FnD:={f:=217,fn:=Tryz.f217,ps:=[pa (.int .i64)],rs:=[rt (.int .i64)],cuts:=[(4,[.val 0 (.int .i64) .sh, .val 3 (.int .i64) .sh])]}
noncomputable def kzE:List (Nat×Sig):=[(43,ezo)]
noncomputable def kzv:Int×Unit→Option ((Int×Unit)×Unit):=hzt.d V kzE
noncomputable abbrev AzL:Sig:=hzt.t.sig kzv
noncomputable def izv:Int×Int×Unit→Option ((Int×Unit)×Unit):=hzt.D V kzE 4
theorem Kzo (x1:Int):kzv (x1,())=bnd (bzX (x1,(0,(32,())))) (fun r1=>(cnd (bnot r1.1.1) (some (((-1),()),())) (izv (x1,(0,()))))):=(FnD.eq V kzE hzt (x1,())).trans (by kernel_rfl)
theorem Jz0 (x1:Int) (x2:Int):izv (x1,(x2,()))=cnd (nn (azx .u64 x2)) (cnd (ilt (ishl .i64 1 (azx .u64 x2)) x1) (izv (x1,((iadd .i64 x2 1),()))) (some ((x2,()),()))) none:=(FnD.eqC V kzE hzt 4 (x1,(x2,()))).trans (by kernel_rfl)
theorem Mzg:CallsOk Tryz.prog gls gvs 217 AzL:=FnD.ok (F:=hzt) (cs:=kzE) V_ok (kC fzj kN) Tryz.func217 (by decide) (by kernel_rfl)
noncomputable def czX:FnD:={f:=146,fn:=Tryz.f146,ps:=[pa (.sl .str)],rs:=[⟨(.sl .str),(.own 0 .sh),false⟩],cuts:=[(3,[.val 0 (.sl .str) .sh, .val 3 (.sl .str) (.own 0 .sh), .val 4 (.int .i64) .sh]),(7,[.val 0 (.sl .str) .sh, .val 3 (.sl .str) (.own 0 .sh), .val 5 .str .sh])]}
noncomputable def dz5:List (Nat×Sig):=[(86,gzk),(217,AzL)]
noncomputable def izP:(List ByteArray)×Unit→Option (((List ByteArray)×Unit)×Unit):=czX.d V dz5
noncomputable abbrev qzt:Sig:=czX.t.sig izP
noncomputable def jzB:(List ByteArray)× (List ByteArray)×Int×Unit→Option (((List ByteArray)×Unit)×Unit):=czX.D V dz5 3
noncomputable def gzK:(List ByteArray)× (List ByteArray)×ByteArray×Unit→Option (((List ByteArray)×Unit)×Unit):=czX.D V dz5 7
theorem Hzv (x1:(List ByteArray)):izP (x1,())=jzB (x1,(([]:List ByteArray),(0,()))):=(FnD.eq V dz5 czX (x1,())).trans (by kernel_rfl)
theorem uzD (x1:(List ByteArray)) (x2:(List ByteArray)) (x3:Int):jzB (x1,(x2,(x3,())))=cnd (ilt x3 (len x1)) (cnd (inb x3 (len x1)) (bnd (czA ((rd (bs []) x1 x3),())) (fun r3=>(cnd (fits ((len x2)+(len (r3.1.1::([]:List ByteArray)))) 1) (jzB (x1,((app x2 (r3.1.1::([]:List ByteArray))),((iadd .i64 x3 1),())))) none))) none) (bnd (czA ((bs []),())) (fun r3=>(gzK (x1,(x2,(r3.1.1,())))))):=(FnD.eqC V dz5 czX 3 (x1,(x2,(x3,())))).trans (by kernel_rfl)
theorem Gz5 (x1:(List ByteArray)) (x2:(List ByteArray)) (x3:ByteArray):gzK (x1,(x2,(x3,())))=bnd (kzv ((len x1),())) (fun r3=>(cnd (nn (azx .u64 r3.1.1)) (cnd (ilt (len x2) (ishl .i64 1 (azx .u64 r3.1.1))) (cnd (fits ((len x2)+(len (x3::([]:List ByteArray)))) 1) (gzK (x1,((app x2 (x3::([]:List ByteArray))),(x3,())))) none) (some ((x2,()),()))) none)):=(FnD.eqC V dz5 czX 7 (x1,(x2,(x3,())))).trans (by kernel_rfl)
theorem xz8:CallsOk Tryz.prog gls gvs 146 qzt:=FnD.ok (F:=czX) (cs:=dz5) V_ok (kC izA (kC Mzg kN)) Tryz.func146 (by decide) (by kernel_rfl)
noncomputable def jzx:FnD:={f:=137,fn:=Tryz.f137,ps:=[pa .str,pa .str],rs:=[rt .str]}
noncomputable def ozH:List (Nat×Sig):=[(86,gzk)]
noncomputable def ezD:ByteArray×ByteArray×Unit→Option ((ByteArray×Unit)×Unit):=jzx.d V ozH
noncomputable abbrev ozf:Sig:=jzx.t.sig ezD
theorem FzJ (x1:ByteArray) (x2:ByteArray):ezD (x1,(x2,()))=cnd (fits ((ssz x1)+(ssz x2)) 1) (bnd (czA ((scat x1 x2),())) (fun r2=>(some ((r2.1.1,()),())))) none:=(FnD.eq V ozH jzx (x1,(x2,()))).trans (by kernel_rfl)
theorem vzN:CallsOk Tryz.prog gls gvs 137 ozf:=FnD.ok (F:=jzx) (cs:=ozH) V_ok (kC izA kN) Tryz.func137 (by decide) (by kernel_rfl)
noncomputable def rzO:FnD:={f:=147,fn:=Tryz.f147,ps:=[pa (.sl .str)],rs:=[⟨(.sl .str),(.own 0 .sh),false⟩],cuts:=[(3,[.val 0 (.sl .str) .sh, .val 3 (.sl .str) (.own 0 .sh), .val 4 (.int .i64) .sh])]}
noncomputable def uzL:List (Nat×Sig):=[(137,ozf)]
noncomputable def uz5:(List ByteArray)×Unit→Option (((List ByteArray)×Unit)×Unit):=rzO.d V uzL
noncomputable abbrev Gzj:Sig:=rzO.t.sig uz5
noncomputable def qzW:(List ByteArray)× (List ByteArray)×Int×Unit→Option (((List ByteArray)×Unit)×Unit):=rzO.D V uzL 3
theorem Uz2 (x1:(List ByteArray)):uz5 (x1,())=qzW (x1,(([]:List ByteArray),(0,()))):=(FnD.eq V uzL rzO (x1,())).trans (by kernel_rfl)
theorem JzS (x1:(List ByteArray)) (x2:(List ByteArray)) (x3:Int):qzW (x1,(x2,(x3,())))=cnd (ilt (iadd .i64 x3 1) (len x1)) (cnd (inb x3 (len x1)) (cnd (inb (iadd .i64 x3 1) (len x1)) (bnd (ezD ((rd (bs []) x1 x3),((rd (bs []) x1 (iadd .i64 x3 1)),()))) (fun r3=>(cnd (fits ((len x2)+(len (r3.1.1::([]:List ByteArray)))) 1) (qzW (x1,((app x2 (r3.1.1::([]:List ByteArray))),((iadd .i64 x3 2),())))) none))) none) none) (some ((x2,()),())):=(FnD.eqC V uzL rzO 3 (x1,(x2,(x3,())))).trans (by kernel_rfl)
theorem NzH:CallsOk Tryz.prog gls gvs 147 Gzj:=FnD.ok (F:=rzO) (cs:=uzL) V_ok (kC vzN kN) Tryz.func147 (by decide) (by kernel_rfl)
noncomputable def mz8:FnD:={f:=89,fn:=Tryz.f89,ps:=[pa (.sl .str)],rs:=[rt .str],cuts:=[(4,[.val 3 (.sl .str) (.own 0 .sh)])]}
noncomputable def qzz:List (Nat×Sig):=[(146,qzt),(147,Gzj)]
noncomputable def mzZ:(List ByteArray)×Unit→Option ((ByteArray×Unit)×Unit):=mz8.d V qzz
noncomputable abbrev wzr:Sig:=mz8.t.sig mzZ
noncomputable def rzx:(List ByteArray)×Unit→Option ((ByteArray×Unit)×Unit):=mz8.D V qzz 4
theorem SzN (x1:(List ByteArray)):mzZ (x1,())=cnd (igt (len x1) 32) (some (((bs []),()),())) (bnd (izP (x1,())) (fun r1=>(rzx (r1.1.1,())))):=(FnD.eq V qzz mz8 (x1,())).trans (by kernel_rfl)
theorem Dzx (x1:(List ByteArray)):rzx (x1,())=cnd (igt (len x1) 1) (bnd (uz5 (x1,())) (fun r1=>(rzx (r1.1.1,())))) (cnd (inb 0 (len x1)) (some (((rd (bs []) x1 0),()),())) none):=(FnD.eqC V qzz mz8 4 (x1,())).trans (by kernel_rfl)
theorem Azg:CallsOk Tryz.prog gls gvs 89 wzr:=FnD.ok (F:=mz8) (cs:=qzz) V_ok (kC xz8 (kC NzH kN)) Tryz.func89 (by decide) (by kernel_rfl)
noncomputable def ozL:FnD:={f:=88,fn:=Tryz.f88,ps:=[pa czS],rs:=[rt .str]}
noncomputable def tz7:List (Nat×Sig):=[(156,JzJ),(157,Izs),(89,wzr)]
noncomputable def kz3:azO×Unit→Option ((ByteArray×Unit)×Unit):=ozL.d V tz7
noncomputable abbrev tzg:Sig:=ozL.t.sig kz3
theorem KzJ (x1:azO):kz3 (x1,())=bnd (vzK (x1,())) (fun r1=>(cnd (bnot r1.1.1) (some (((bs []),()),())) (bnd (vzf (x1.1,())) (fun r2=>(bnd (mzZ ((r2.1.1::(x1.2.1::(x1.2.2.1::(x1.2.2.2.1::([]:List ByteArray))))),())) (fun r3=>(some ((r3.1.1,()),())))))))):=(FnD.eq V tz7 ozL (x1,())).trans (by kernel_rfl)
theorem AzB:CallsOk Tryz.prog gls gvs 88 tzg:=FnD.ok (F:=ozL) (cs:=tz7) V_ok (kC TzK (kC Rzs (kC Azg kN))) Tryz.func88 (by decide) (by kernel_rfl)
noncomputable def rze:FnD:={f:=213,fn:=Tryz.f213,ps:=[pa .str],rs:=[⟨.item,(.own 0 .sh),false⟩],al:=true}
noncomputable def xzj:List (Nat×Sig):=[]
noncomputable def czw:ByteArray×Unit→Option ((ItemT×Unit)×Unit):=rze.d V xzj
noncomputable abbrev rzi:Sig:=rze.t.sig czw
theorem czd (x1:ByteArray):czw (x1,())=some (((ItemT.mk false x1 ([]:List ItemT)),()),()):=(FnD.eq V xzj rze (x1,())).trans (by kernel_rfl)
theorem wzD:CallsOk Tryz.prog gls gvs 213 rzi:=FnD.ok (F:=rze) (cs:=xzj) V_ok kN Tryz.func213 (by decide) (by kernel_rfl)
noncomputable def gzc:FnD:={f:=138,fn:=Tryz.f138,ps:=[pa .str],rs:=[⟨(.sl (.int .i64)),(.own 0 .sh),false⟩],cuts:=[(3,[.val 0 .str .sh, .val 3 (.sl (.int .i64)) (.own 0 .sh), .val 4 (.int .i64) .sh])]}
noncomputable def izo:List (Nat×Sig):=[]
noncomputable def bzA:ByteArray×Unit→Option (((List Int)×Unit)×Unit):=gzc.d V izo
noncomputable abbrev fzX:Sig:=gzc.t.sig bzA
noncomputable def gze:ByteArray× (List Int)×Int×Unit→Option (((List Int)×Unit)×Unit):=gzc.D V izo 3
theorem Izc (x1:ByteArray):bzA (x1,())=gze (x1,(([]:List Int),(0,()))):=(FnD.eq V izo gzc (x1,())).trans (by kernel_rfl)
theorem uzs (x1:ByteArray) (x2:(List Int)) (x3:Int):gze (x1,(x2,(x3,())))=cnd (ilt x3 (ssz x1)) (cnd (inb x3 (ssz x1)) (cnd (nz 16) (cnd (inb x3 (ssz x1)) (cnd (nz 16) (cnd (fits ((len x2)+(len ((iquo .i64 (azx .i64 (sat x1 x3)) 16)::((irem (azx .i64 (sat x1 x3)) 16)::([]:List Int))))) 1) (gze (x1,((app x2 ((iquo .i64 (azx .i64 (sat x1 x3)) 16)::((irem (azx .i64 (sat x1 x3)) 16)::([]:List Int)))),((iadd .i64 x3 1),())))) none) none) none) none) none) (some ((x2,()),())):=(FnD.eqC V izo gzc 3 (x1,(x2,(x3,())))).trans (by kernel_rfl)
theorem izC:CallsOk Tryz.prog gls gvs 138 fzX:=FnD.ok (F:=gzc) (cs:=izo) V_ok kN Tryz.func138 (by decide) (by kernel_rfl)
noncomputable def fz0:FnD:={f:=286,fn:=Tryz.f286,ps:=[pa (.sl (.int .i64))],rs:=[rt .bool],cuts:=[(2,[.val 0 (.sl (.int .i64)) .sh, .val 3 (.int .i64) .sh])]}
noncomputable def iz0:List (Nat×Sig):=[(43,ezo)]
noncomputable def izr:(List Int)×Unit→Option ((Bool×Unit)×Unit):=fz0.d V iz0
noncomputable abbrev yzx:Sig:=fz0.t.sig izr
noncomputable def gzO:(List Int)×Int×Unit→Option ((Bool×Unit)×Unit):=fz0.D V iz0 2
theorem xz4 (x1:(List Int)):izr (x1,())=gzO (x1,(0,())):=(FnD.eq V iz0 fz0 (x1,())).trans (by kernel_rfl)
theorem jzm (x1:(List Int)) (x2:Int):gzO (x1,(x2,()))=cnd (ilt x2 (len x1)) (cnd (inb x2 (len x1)) (bnd (bzX ((rd 0 x1 x2),(0,(15,())))) (fun r2=>(cnd (bnot r2.1.1) (some ((false,()),())) (gzO (x1,((iadd .i64 x2 1),())))))) none) (some (((ile (len x1) 64),()),())):=(FnD.eqC V iz0 fz0 2 (x1,(x2,()))).trans (by kernel_rfl)
theorem JzT:CallsOk Tryz.prog gls gvs 286 yzx:=FnD.ok (F:=fz0) (cs:=iz0) V_ok (kC fzj kN) Tryz.func286 (by decide) (by kernel_rfl)
noncomputable def bzM:FnD:={f:=214,fn:=Tryz.f214,ps:=[pa (.sl (.int .i64)),pa .bool],rs:=[rt .str,rt .bool],joins:=[6,10],cuts:=[(6,[.val 0 (.sl (.int .i64)) .sh, .val 6 (.int .i64) .sh]),(10,[.val 0 (.sl (.int .i64)) .sh, .val 6 (.int .i64) .sh, .val 7 (.int .i64) .sh]),(12,[.val 0 (.sl (.int .i64)) .sh, .val 8 .str .sh, .val 9 (.int .i64) .sh])]}
noncomputable def bz6:List (Nat×Sig):=[(286,yzx)]
noncomputable def czD:(List Int)×Bool×Unit→Option ((ByteArray×Bool×Unit)×Unit):=bzM.d V bz6
noncomputable abbrev nzE:Sig:=bzM.t.sig czD
noncomputable def izb:(List Int)×Int×Unit→Option ((ByteArray×Bool×Unit)×Unit):=bzM.D V bz6 6
noncomputable def kz4:(List Int)×Int×Int×Unit→Option ((ByteArray×Bool×Unit)×Unit):=bzM.D V bz6 10
noncomputable def gzr:(List Int)×ByteArray×Int×Unit→Option ((ByteArray×Bool×Unit)×Unit):=bzM.D V bz6 12
theorem vzI (x1:(List Int)) (x2:Bool):czD (x1,(x2,()))=bnd (izr (x1,())) (fun r2=>(cnd (bnot r2.1.1) (some (czU,())) (cnd x2 (izb (x1,(32,()))) (izb (x1,(0,())))))):=(FnD.eq V bz6 bzM (x1,(x2,()))).trans (by kernel_rfl)
theorem Dzn (x1:(List Int)) (x2:Int):izb (x1,(x2,()))=cnd (nz 2) (cnd (ieq (irem (len x1) 2) 1) (cnd (inb 0 (len x1)) (kz4 (x1,((iadd .i64 (iadd .i64 x2 16) (rd 0 x1 0)),(1,())))) none) (kz4 (x1,(x2,(0,()))))) none:=(FnD.eqC V bz6 bzM 6 (x1,(x2,()))).trans (by kernel_rfl)
theorem qz5 (x1:(List Int)) (x2:Int) (x3:Int):kz4 (x1,(x2,(x3,())))=gzr (x1,((sof ((azx .u8 x2)::([]:List Int))),(x3,()))):=(FnD.eqC V bz6 bzM 10 (x1,(x2,(x3,())))).trans (by kernel_rfl)
theorem pzJ (x1:(List Int)) (x2:ByteArray) (x3:Int):gzr (x1,(x2,(x3,())))=cnd (ilt (iadd .i64 x3 1) (len x1)) (cnd (inb x3 (len x1)) (cnd (inb (iadd .i64 x3 1) (len x1)) (cnd (fits ((ssz x2)+(ssz (sof ((azx .u8 (iadd .i64 (imul .i64 16 (rd 0 x1 x3)) (rd 0 x1 (iadd .i64 x3 1))))::([]:List Int))))) 1) (gzr (x1,((scat x2 (sof ((azx .u8 (iadd .i64 (imul .i64 16 (rd 0 x1 x3)) (rd 0 x1 (iadd .i64 x3 1))))::([]:List Int)))),((iadd .i64 x3 2),())))) none) none) none) (some ((x2,(true,())),())):=(FnD.eqC V bz6 bzM 12 (x1,(x2,(x3,())))).trans (by kernel_rfl)
theorem vzL:CallsOk Tryz.prog gls gvs 214 nzE:=FnD.ok (F:=bzM) (cs:=bz6) V_ok (kC JzT kN) Tryz.func214 (by decide) (by kernel_rfl)
noncomputable def mzF:FnD:={f:=148,fn:=Tryz.f148,ps:=[pa (.sl (.int .i64)),pa (.sl (.int .i64))],rs:=[rt (.int .i64)],cuts:=[(2,[.val 0 (.sl (.int .i64)) .sh, .val 1 (.sl (.int .i64)) .sh, .val 5 (.int .i64) .sh])]}
noncomputable def qzS:List (Nat×Sig):=[]
noncomputable def mz6:(List Int)× (List Int)×Unit→Option ((Int×Unit)×Unit):=mzF.d V qzS
noncomputable abbrev vzM:Sig:=mzF.t.sig mz6
noncomputable def rzP:(List Int)× (List Int)×Int×Unit→Option ((Int×Unit)×Unit):=mzF.D V qzS 2
theorem Tzp (x1:(List Int)) (x2:(List Int)):mz6 (x1,(x2,()))=rzP (x1,(x2,(0,()))):=(FnD.eq V qzS mzF (x1,(x2,()))).trans (by kernel_rfl)
theorem EzH (x1:(List Int)) (x2:(List Int)) (x3:Int):rzP (x1,(x2,(x3,())))=cnd (ilt x3 (len x1)) (cnd (ilt x3 (len x2)) (cnd (inb x3 (len x1)) (cnd (inb x3 (len x2)) (cnd (ieq (rd 0 x1 x3) (rd 0 x2 x3)) (rzP (x1,(x2,((iadd .i64 x3 1),())))) (some ((x3,()),()))) none) none) (some ((x3,()),()))) (some ((x3,()),())):=(FnD.eqC V qzS mzF 2 (x1,(x2,(x3,())))).trans (by kernel_rfl)
theorem Bzx:CallsOk Tryz.prog gls gvs 148 vzM:=FnD.ok (F:=mzF) (cs:=qzS) V_ok kN Tryz.func148 (by decide) (by kernel_rfl)
noncomputable def fzQ:FnD:={f:=215,fn:=Tryz.f215,ps:=[pa (.sl bzr),pa (.int .i64)],rs:=[rt (.int .i64)],cuts:=[(4,[.val 0 (.sl bzr) .sh, .val 1 (.int .i64) .sh, .val 5 (.int .i64) .sh, .val 6 (.sl (.int .i64)) .sh, .val 7 (.int .i64) .sh])]}
noncomputable def iz5:List (Nat×Sig):=[(138,fzX),(148,vzM)]
noncomputable def lzw:(List azl)×Int×Unit→Option ((Int×Unit)×Unit):=fzQ.d V iz5
noncomputable abbrev yzQ:Sig:=fzQ.t.sig lzw
noncomputable def gzg:(List azl)×Int×Int× (List Int)×Int×Unit→Option ((Int×Unit)×Unit):=fzQ.D V iz5 4
theorem Ize (x1:(List azl)) (x2:Int):lzw (x1,(x2,()))=cnd (inb 0 (len x1)) (bnd (bzA ((rd bzd x1 0).1,())) (fun r2=>(cnd (inb2 x2 (len r2.1.1) (len r2.1.1)) (gzg (x1,(x2,((isub .i64 8 x2),((sub r2.1.1 x2 (len r2.1.1)),(1,())))))) none))) none:=(FnD.eq V iz5 fzQ (x1,(x2,()))).trans (by kernel_rfl)
theorem uzK (x1:(List azl)) (x2:Int) (x3:Int) (x4:(List Int)) (x5:Int):gzg (x1,(x2,(x3,(x4,(x5,())))))=cnd (ilt x5 (len x1)) (cnd (inb x5 (len x1)) (bnd (bzA ((rd bzd x1 x5).1,())) (fun r5=>(cnd (inb2 x2 (len r5.1.1) (len r5.1.1)) (bnd (mz6 (x4,((sub r5.1.1 x2 (len r5.1.1)),()))) (fun r6=>(cnd (ilt r6.1.1 x3) (gzg (x1,(x2,(r6.1.1,(x4,((iadd .i64 x5 1),())))))) (gzg (x1,(x2,(x3,(x4,((iadd .i64 x5 1),()))))))))) none))) none) (some ((x3,()),())):=(FnD.eqC V iz5 fzQ 4 (x1,(x2,(x3,(x4,(x5,())))))).trans (by kernel_rfl)
theorem Hzq:CallsOk Tryz.prog gls gvs 215 yzQ:=FnD.ok (F:=fzQ) (cs:=iz5) V_ok (kC izC (kC Bzx kN)) Tryz.func215 (by decide) (by kernel_rfl)
noncomputable def jzN:FnD:={f:=284,fn:=Tryz.f284,ps:=[pa .item,pa (.int .i64)],rs:=[rt .bool],cuts:=[(6,[.val 1 (.int .i64) .sh, .val 5 (.int .i64) .sh, .box 2 .item .sh, .ptr 2 2 0])]}
noncomputable def mzQ:List (Nat×Sig):=[]
noncomputable def hzH:ItemT×Int×Unit→Option ((Bool×Unit)×Unit):=jzN.d V mzQ
noncomputable abbrev Ez6:Sig:=jzN.t.sig hzH
noncomputable def gz5:Int×Int×ItemT×Unit→Option ((Bool×Unit)×Unit):=jzN.D V mzQ 6
theorem Ezc (x1:ItemT) (x2:Int):hzH (x1,(x2,()))=cnd (bnot x1.l) (cnd (ieq (len x1.k) 0) (some (((ile (ssz x1.s) 600),()),())) (some ((false,()),()))) (cnd (sne x1.s (bs [])) (some ((false,()),())) (cnd (igt (len x1.k) 17) (some ((false,()),())) (cnd (ige x2 4) (some ((false,()),())) (gz5 (x2,(0,(x1,()))))))):=(FnD.eq V mzQ jzN (x1,(x2,()))).trans (by kernel_rfl)
theorem Bzr (x1:Int) (x2:Int) (x3:ItemT):gz5 (x1,(x2,(x3,())))=cnd (ilt x2 (len x3.k)) (cnd (inb x2 (len x3.k)) (bnd (hzH ((rd (ItemT.mk false (bs []) ([]:List ItemT)) x3.k x2),((iadd .i64 x1 1),()))) (fun r3=>(cnd (bnot r3.1.1) (some ((false,()),())) (gz5 (x1,((iadd .i64 x2 1),(x3,()))))))) none) (some ((true,()),())):=(FnD.eqC V mzQ jzN 6 (x1,(x2,(x3,())))).trans (by kernel_rfl)
theorem Ozb:CallsOk Tryz.prog gls gvs 284 Ez6:=FnD.ok (F:=jzN) (cs:=mzQ) V_ok kN Tryz.func284 (by decide) (by kernel_rfl)
noncomputable def vzw:FnD:={f:=211,fn:=Tryz.f211,ps:=[pa .item],rs:=[rt .bool]}
noncomputable def Azr:List (Nat×Sig):=[(284,Ez6)]
noncomputable def wzm:ItemT×Unit→Option ((Bool×Unit)×Unit):=vzw.d V Azr
noncomputable abbrev Jzw:Sig:=vzw.t.sig wzm
theorem Tzy (x1:ItemT):wzm (x1,())=bnd (hzH (x1,(0,()))) (fun r1=>(some ((r1.1.1,()),()))):=(FnD.eq V Azr vzw (x1,())).trans (by kernel_rfl)
theorem QzK:CallsOk Tryz.prog gls gvs 211 Jzw:=FnD.ok (F:=vzw) (cs:=Azr) V_ok (kC Ozb kN) Tryz.func211 (by decide) (by kernel_rfl)
noncomputable def jz8:FnD:={f:=209,fn:=Tryz.f209,ps:=[pa (.int .i64)],rs:=[rt .str],cuts:=[(2,[.val 0 (.int .i64) .sh, .val 3 .str .sh])]}
noncomputable def mzI:List (Nat×Sig):=[]
noncomputable def hzp:Int×Unit→Option ((ByteArray×Unit)×Unit):=jz8.d V mzI
noncomputable abbrev szp:Sig:=jz8.t.sig hzp
noncomputable def kzk:Int×ByteArray×Unit→Option ((ByteArray×Unit)×Unit):=jz8.D V mzI 2
theorem PzN (x1:Int):hzp (x1,())=kzk (x1,((bs []),())):=(FnD.eq V mzI jz8 (x1,())).trans (by kernel_rfl)
theorem zz3 (x1:Int) (x2:ByteArray):kzk (x1,(x2,()))=cnd (igt x1 0) (cnd (nz 256) (cnd (fits ((ssz (sof ((azx .u8 (irem x1 256))::([]:List Int))))+(ssz x2)) 1) (cnd (nz 256) (kzk ((iquo .i64 x1 256),((scat (sof ((azx .u8 (irem x1 256))::([]:List Int))) x2),()))) none) none) none) (some ((x2,()),())):=(FnD.eqC V mzI jz8 2 (x1,(x2,()))).trans (by kernel_rfl)
theorem xzs:CallsOk Tryz.prog gls gvs 209 szp:=FnD.ok (F:=jz8) (cs:=mzI) V_ok kN Tryz.func209 (by decide) (by kernel_rfl)
noncomputable def rzL:FnD:={f:=285,fn:=Tryz.f285,ps:=[pa (.int .i64),pa (.int .i64)],rs:=[rt .str]}
noncomputable def xzE:List (Nat×Sig):=[(209,szp)]
noncomputable def jzW:Int×Int×Unit→Option ((ByteArray×Unit)×Unit):=rzL.d V xzE
noncomputable abbrev DzC:Sig:=rzL.t.sig jzW
theorem PzJ (x1:Int) (x2:Int):jzW (x1,(x2,()))=cnd (ile x1 55) (some (((sof ((azx .u8 (iadd .i64 x2 x1))::([]:List Int))),()),())) (bnd (hzp (x1,())) (fun r2=>(cnd (fits ((ssz (sof ((azx .u8 (iadd .i64 (iadd .i64 x2 55) (ssz r2.1.1)))::([]:List Int))))+(ssz r2.1.1)) 1) (some (((scat (sof ((azx .u8 (iadd .i64 (iadd .i64 x2 55) (ssz r2.1.1)))::([]:List Int))) r2.1.1),()),())) none))):=(FnD.eq V xzE rzL (x1,(x2,()))).trans (by kernel_rfl)
theorem OzA:CallsOk Tryz.prog gls gvs 285 DzC:=FnD.ok (F:=rzL) (cs:=xzE) V_ok (kC xzs kN) Tryz.func285 (by decide) (by kernel_rfl)
noncomputable def fzR:FnD:={f:=212,fn:=Tryz.f212,ps:=[pa .item],rs:=[rt .str],joins:=[4],cuts:=[(4,[.box 1 .item .sh, .ptr 1 1 0]),(7,[.val 3 .str .sh, .val 4 (.int .i64) .sh, .box 1 .item .sh, .ptr 1 1 0])]}
noncomputable def hzc:List (Nat×Sig):=[(285,DzC)]
noncomputable def hzb:ItemT×Unit→Option ((ByteArray×Unit)×Unit):=fzR.d V hzc
noncomputable abbrev Ezu:Sig:=fzR.t.sig hzb
noncomputable def ozj:ItemT×Unit→Option ((ByteArray×Unit)×Unit):=fzR.D V hzc 4
noncomputable def hzn:ByteArray×Int×ItemT×Unit→Option ((ByteArray×Unit)×Unit):=fzR.D V hzc 7
theorem DzY (x1:ItemT):hzb (x1,())=cnd (bnot x1.l) (cnd (ieq (ssz x1.s) 1) (cnd (inb 0 (ssz x1.s)) (cnd (ilt (sat x1.s 0) 128) (some ((x1.s,()),())) (ozj (x1,()))) none) (ozj (x1,()))) (hzn ((bs []),(0,(x1,())))):=(FnD.eq V hzc fzR (x1,())).trans (by kernel_rfl)
theorem Mzt (x1:ItemT):ozj (x1,())=bnd (jzW ((ssz x1.s),(128,()))) (fun r1=>(cnd (fits ((ssz r1.1.1)+(ssz x1.s)) 1) (some (((scat r1.1.1 x1.s),()),())) none)):=(FnD.eqC V hzc fzR 4 (x1,())).trans (by kernel_rfl)
theorem Azm (x1:ByteArray) (x2:Int) (x3:ItemT):hzn (x1,(x2,(x3,())))=cnd (ilt x2 (len x3.k)) (cnd (inb x2 (len x3.k)) (bnd (hzb ((rd (ItemT.mk false (bs []) ([]:List ItemT)) x3.k x2),())) (fun r3=>(cnd (fits ((ssz x1)+(ssz r3.1.1)) 1) (hzn ((scat x1 r3.1.1),((iadd .i64 x2 1),(x3,())))) none))) none) (bnd (jzW ((ssz x1),(192,()))) (fun r3=>(cnd (fits ((ssz r3.1.1)+(ssz x1)) 1) (some (((scat r3.1.1 x1),()),())) none))):=(FnD.eqC V hzc fzR 7 (x1,(x2,(x3,())))).trans (by kernel_rfl)
theorem Oz3:CallsOk Tryz.prog gls gvs 212 Ezu:=FnD.ok (F:=fzR) (cs:=hzc) V_ok (kC OzA kN) Tryz.func212 (by decide) (by kernel_rfl)
noncomputable def ozS:FnD:={f:=144,fn:=Tryz.f144,ps:=[pa .item],rs:=[rt .str,rt .bool]}
noncomputable def tzQ:List (Nat×Sig):=[(211,Jzw),(212,Ezu)]
noncomputable def dz4:ItemT×Unit→Option ((ByteArray×Bool×Unit)×Unit):=ozS.d V tzQ
noncomputable abbrev hzC:Sig:=ozS.t.sig dz4
theorem Kz1 (x1:ItemT):dz4 (x1,())=bnd (wzm (x1,())) (fun r1=>(cnd (bnot r1.1.1) (some (czU,())) (bnd (hzb (x1,())) (fun r2=>(cnd (igt (ssz r2.1.1) 900) (some (czU,())) (some ((r2.1.1,(true,())),()))))))):=(FnD.eq V tzQ ozS (x1,())).trans (by kernel_rfl)
theorem kz2:CallsOk Tryz.prog gls gvs 144 hzC:=FnD.ok (F:=ozS) (cs:=tzQ) V_ok (kC QzK (kC Oz3 kN)) Tryz.func144 (by decide) (by kernel_rfl)
noncomputable def jz1:FnD:={f:=287,fn:=Tryz.f287,ps:=[pa .item],rs:=[⟨.item,(.own 0 .sh),false⟩],al:=true,cuts:=[(3,[.val 4 (.int .i64) .sh, .box 1 .item .sh, .box 2 .item (.own 0 .sh), .box 3 .item (.own 0 .sh), .ptr 1 1 0, .ptr 2 2 0, .ptr 3 3 0])]}
noncomputable def mzx:List (Nat×Sig):=[]
noncomputable def jz9:ItemT×Unit→Option ((ItemT×Unit)×Unit):=jz1.d V mzx
noncomputable abbrev EzE:Sig:=jz1.t.sig jz9
noncomputable def kzM:Int×ItemT×ItemT×ItemT×Unit→Option ((ItemT×Unit)×Unit):=jz1.D V mzx 3
theorem PzO (x1:ItemT):jz9 (x1,())=kzM (0,(x1,((ItemT.mk false (bs []) ([]:List ItemT)),((ItemT.mk x1.l x1.s ([]:List ItemT)),())))):=(FnD.eq V mzx jz1 (x1,())).trans (by kernel_rfl)
theorem Azb (x1:Int) (x2:ItemT) (x3:ItemT) (x4:ItemT):kzM (x1,(x2,(x3,(x4,()))))=cnd (ilt x1 (len x2.k)) (cnd (inb x1 (len x2.k)) (bnd (jz9 ((rd (ItemT.mk false (bs []) ([]:List ItemT)) x2.k x1),())) (fun r4=>(cnd (fits ((len x4.k)+(len (r4.1.1::([]:List ItemT)))) 3) (kzM ((iadd .i64 x1 1),(x2,(x3,((ItemT.mk x4.l x4.s (app x4.k (r4.1.1::([]:List ItemT)))),()))))) none))) none) (some ((x4,()),())):=(FnD.eqC V mzx jz1 3 (x1,(x2,(x3,(x4,()))))).trans (by kernel_rfl)
theorem Pzj:CallsOk Tryz.prog gls gvs 287 EzE:=FnD.ok (F:=jz1) (cs:=mzx) V_ok kN Tryz.func287 (by decide) (by kernel_rfl)
noncomputable def rzl:FnD:={f:=216,fn:=Tryz.f216,ps:=[pa .item],rs:=[⟨.item,(.own 0 .sh),false⟩],al:=true}
noncomputable def wzA:List (Nat×Sig):=[(144,hzC),(287,EzE),(86,gzk),(213,rzi)]
noncomputable def mzV:ItemT×Unit→Option ((ItemT×Unit)×Unit):=rzl.d V wzA
noncomputable abbrev Ezr:Sig:=rzl.t.sig mzV
theorem OzJ (x1:ItemT):mzV (x1,())=bnd (dz4 (x1,())) (fun r1=>(cnd r1.1.2.1 (cnd (ilt (ssz r1.1.1) 32) (bnd (jz9 (x1,())) (fun r2=>(some ((r2.1.1,()),())))) (bnd (czA (r1.1.1,())) (fun r2=>(bnd (czw (r2.1.1,())) (fun r3=>(some ((r3.1.1,()),()))))))) (bnd (czA (r1.1.1,())) (fun r2=>(bnd (czw (r2.1.1,())) (fun r3=>(some ((r3.1.1,()),())))))))):=(FnD.eq V wzA rzl (x1,())).trans (by kernel_rfl)
theorem Ozx:CallsOk Tryz.prog gls gvs 216 Ezr:=FnD.ok (F:=rzl) (cs:=wzA) V_ok (kC kz2 (kC Pzj (kC izA (kC wzD kN)))) Tryz.func216 (by decide) (by kernel_rfl)
noncomputable def fzO:FnD:={f:=145,fn:=Tryz.f145,ps:=[pa (.sl bzr),pa (.int .i64)],rs:=[⟨.item,(.own 0 .sh),false⟩],al:=true,fz:=[1000112,1000106,1000105,22000012],cuts:=[(16,[.val 0 (.sl bzr) .sh, .val 1 (.int .i64) .sh, .val 11 (.int .i64) .sh, .val 12 (.sl bzr) (.own 0 .sh), .val 13 (.int .i64) .sh, .box 4 .item (.own 0 .sh), .box 10 .item (.own 0 .sh), .ptr 4 4 0, .ptr 10 10 0]),(12,[.val 0 (.sl bzr) .sh, .val 1 (.int .i64) .sh, .val 11 (.int .i64) .sh, .box 4 .item (.own 0 .sh), .box 10 .item (.own 0 .sh), .ptr 4 4 0, .ptr 10 10 0])]}
noncomputable def hzw:List (Nat×Sig):=[(213,rzi),(138,fzX),(214,nzE),(215,yzQ),(216,Ezr)]
noncomputable def dzA:(List azl)×Int×Unit→Option ((ItemT×Unit)×Unit):=fzO.d V hzw
noncomputable abbrev xzV:Sig:=fzO.t.sig dzA
noncomputable def fzD:(List azl)×Int×Int× (List azl)×Int×ItemT×ItemT×Unit→Option ((ItemT×Unit)×Unit):=fzO.D V hzw 16
noncomputable def izM:(List azl)×Int×Int×ItemT×ItemT×Unit→Option ((ItemT×Unit)×Unit):=fzO.D V hzw 12
theorem xzW (x1:(List azl)) (x2:Int):dzA (x1,(x2,()))=cnd (ieq (len x1) 0) (bnd (czw ((bs []),())) (fun r2=>(some ((r2.1.1,()),())))) (cnd (ieq (len x1) 1) (cnd (inb 0 (len x1)) (bnd (bzA ((rd bzd x1 0).1,())) (fun r2=>(cnd (inb2 x2 (len r2.1.1) (len r2.1.1)) (bnd (czD ((sub r2.1.1 x2 (len r2.1.1)),(true,()))) (fun r3=>(bnd (czw (r3.1.1,())) (fun r4=>(cnd (inb 0 (len x1)) (bnd (czw ((rd bzd x1 0).2.1,())) (fun r5=>(some (((ItemT.mk true (bs []) (r4.1.1::(r5.1.1::([]:List ItemT)))),()),())))) none))))) none))) none) (bnd (lzw (x1,(x2,()))) (fun r2=>(cnd (igt r2.1.1 0) (cnd (inb 0 (len x1)) (bnd (bzA ((rd bzd x1 0).1,())) (fun r3=>(cnd (inb2 x2 (iadd .i64 x2 r2.1.1) (len r3.1.1)) (bnd (czD ((sub r3.1.1 x2 (iadd .i64 x2 r2.1.1)),(false,()))) (fun r4=>(bnd (czw (r4.1.1,())) (fun r5=>(bnd (dzA (x1,((iadd .i64 x2 r2.1.1),()))) (fun r6=>(bnd (mzV (r6.1.1,())) (fun r7=>(some (((ItemT.mk true (bs []) (r5.1.1::(r7.1.1::([]:List ItemT)))),()),())))))))))) none))) none) (izM (x1,(x2,(0,((ItemT.mk false (bs []) ([]:List ItemT)),((ItemT.mk true (bs []) ([]:List ItemT)),())))))))))):=(FnD.eq V hzw fzO (x1,(x2,()))).trans (by kernel_rfl)
theorem yzD (x1:(List azl)) (x2:Int) (x3:Int) (x4:(List azl)) (x5:Int) (x6:ItemT) (x7:ItemT):fzD (x1,(x2,(x3,(x4,(x5,(x6,(x7,())))))))=cnd (ilt x5 (len x1)) (cnd (inb x5 (len x1)) (bnd (bzA ((rd bzd x1 x5).1,())) (fun r7=>(cnd (inb x2 (len r7.1.1)) (cnd (ieq (rd 0 r7.1.1 x2) x3) (cnd (inb x5 (len x1)) (cnd (fits ((len x4)+(len ((rd bzd x1 x5)::([]:List azl)))) 2) (fzD (x1,(x2,(x3,((app x4 ((rd bzd x1 x5)::([]:List azl))),((iadd .i64 x5 1),(x6,(x7,())))))))) none) none) (fzD (x1,(x2,(x3,(x4,((iadd .i64 x5 1),(x6,(x7,()))))))))) none))) none) (bnd (dzA (x4,((iadd .i64 x2 1),()))) (fun r7=>(bnd (mzV (r7.1.1,())) (fun r8=>(cnd (fits ((len x7.k)+(len (r8.1.1::([]:List ItemT)))) 3) (izM (x1,(x2,((iadd .i64 x3 1),(x6,((ItemT.mk x7.l x7.s (app x7.k (r8.1.1::([]:List ItemT)))),())))))) none))))):=(FnD.eqC V hzw fzO 16 (x1,(x2,(x3,(x4,(x5,(x6,(x7,())))))))).trans (by kernel_rfl)
theorem yzl (x1:(List azl)) (x2:Int) (x3:Int) (x4:ItemT) (x5:ItemT):izM (x1,(x2,(x3,(x4,(x5,())))))=cnd (ilt x3 16) (fzD (x1,(x2,(x3,(([]:List azl),(0,(x4,(x5,())))))))) (bnd (czw ((bs []),())) (fun r5=>(cnd (fits ((len x5.k)+(len (r5.1.1::([]:List ItemT)))) 3) (some (((ItemT.mk x5.l x5.s (app x5.k (r5.1.1::([]:List ItemT)))),()),())) none))):=(FnD.eqC V hzw fzO 12 (x1,(x2,(x3,(x4,(x5,())))))).trans (by kernel_rfl)
theorem Dz7:CallsOk Tryz.prog gls gvs 145 xzV:=FnD.ok (F:=fzO) (cs:=hzw) V_ok (kC wzD (kC izC (kC vzL (kC Hzq (kC Ozx kN))))) Tryz.func145 (by decide) (by kernel_rfl)
noncomputable def nzV:FnD:={f:=80,fn:=Tryz.f80,ps:=[pa (.sl bzr)],rs:=[rt .str]}
noncomputable def tzL:List (Nat×Sig):=[(142,rza),(145,xzV),(144,hzC),(86,gzk)]
noncomputable def fzt:(List azl)×Unit→Option ((ByteArray×Unit)×Unit):=nzV.d V tzL
noncomputable abbrev nzO:Sig:=nzV.t.sig fzt
theorem KzP (x1:(List azl)):fzt (x1,())=bnd (fzZ (x1,())) (fun r1=>(cnd (bnot r1.1.1) (some (((bs []),()),())) (bnd (dzA (x1,(0,()))) (fun r2=>(bnd (dz4 (r2.1.1,())) (fun r3=>(bnd (czA (r3.1.1,())) (fun r4=>(some ((r4.1.1,()),())))))))))):=(FnD.eq V tzL nzV (x1,())).trans (by kernel_rfl)
theorem uzh:CallsOk Tryz.prog gls gvs 80 nzO:=FnD.ok (F:=nzV) (cs:=tzL) V_ok (kC wzV (kC Dz7 (kC kz2 (kC izA kN)))) Tryz.func80 (by decide) (by kernel_rfl)
noncomputable def szh:FnD:={f:=210,fn:=Tryz.f210,ps:=[pa (.int .i64),pa (.int .i64),pa .str],rs:=[rt .str]}
noncomputable def xz0:List (Nat×Sig):=[(209,szp),(213,rzi),(144,hzC)]
noncomputable def wzP:Int×Int×ByteArray×Unit→Option ((ByteArray×Unit)×Unit):=szh.d V xz0
noncomputable abbrev EzQ:Sig:=szh.t.sig wzP
theorem DzB (x1:Int) (x2:Int) (x3:ByteArray):wzP (x1,(x2,(x3,())))=bnd (hzp (x1,())) (fun r3=>(bnd (czw (r3.1.1,())) (fun r4=>(bnd (hzp (x2,())) (fun r5=>(bnd (czw (r5.1.1,())) (fun r6=>(bnd (czw (x3,())) (fun r7=>(bnd (dz4 ((ItemT.mk true (bs []) (r4.1.1::(r6.1.1::(r7.1.1::([]:List ItemT))))),())) (fun r8=>(some ((r8.1.1,()),()))))))))))))):=(FnD.eq V xz0 szh (x1,(x2,(x3,())))).trans (by kernel_rfl)
theorem Ozu:CallsOk Tryz.prog gls gvs 210 EzQ:=FnD.ok (F:=szh) (cs:=xz0) V_ok (kC xzs (kC wzD (kC kz2 kN))) Tryz.func210 (by decide) (by kernel_rfl)
noncomputable def izf:FnD:={f:=143,fn:=Tryz.f143,ps:=[pa azu],rs:=[rt .str]}
noncomputable def mzv:List (Nat×Sig):=[(80,nzO),(210,EzQ)]
noncomputable def ezV:azd×Unit→Option ((ByteArray×Unit)×Unit):=izf.d V mzv
noncomputable abbrev szS:Sig:=izf.t.sig ezV
theorem sz3 (x1:azd):ezV (x1,())=bnd (fzt (x1.2.2.2.1,())) (fun r1=>(bnd (wzP (x1.2.1,(x1.2.2.1,(r1.1.1,())))) (fun r2=>(some ((r2.1.1,()),()))))):=(FnD.eq V mzv izf (x1,())).trans (by kernel_rfl)
theorem Cz9:CallsOk Tryz.prog gls gvs 143 szS:=FnD.ok (F:=izf) (cs:=mzv) V_ok (kC uzh (kC Ozu kN)) Tryz.func143 (by decide) (by kernel_rfl)
noncomputable def fzT:FnD:={f:=79,fn:=Tryz.f79,ps:=[pa (.sl azu)],rs:=[⟨(.sl bzr),(.own 0 .sh),false⟩],cuts:=[(5,[.val 0 (.sl azu) .sh, .val 3 (.sl bzr) (.own 0 .sh), .val 4 (.int .i64) .sh])]}
noncomputable def izp:List (Nat×Sig):=[(78,nzN),(143,szS)]
noncomputable def fz7:(List azd)×Unit→Option (((List azl)×Unit)×Unit):=fzT.d V izp
noncomputable abbrev qzR:Sig:=fzT.t.sig fz7
noncomputable def gzW:(List azd)× (List azl)×Int×Unit→Option (((List azl)×Unit)×Unit):=fzT.D V izp 5
theorem yzq (x1:(List azd)):fz7 (x1,())=bnd (gzG (x1,())) (fun r1=>(cnd (bnot r1.1.1) (some ((([]:List azl),()),())) (gzW (x1,(([]:List azl),(0,())))))):=(FnD.eq V izp fzT (x1,())).trans (by kernel_rfl)
theorem jzD (x1:(List azd)) (x2:(List azl)) (x3:Int):gzW (x1,(x2,(x3,())))=cnd (ilt x3 (len x1)) (cnd (inb x3 (len x1)) (cnd (inb x3 (len x1)) (bnd (ezV ((rd azg x1 x3),())) (fun r3=>(cnd (fits ((len x2)+(len (((rd azg x1 x3).1,(r3.1.1,()))::([]:List azl)))) 2) (gzW (x1,((app x2 (((rd azg x1 x3).1,(r3.1.1,()))::([]:List azl))),((iadd .i64 x3 1),())))) none))) none) none) (some ((x2,()),())):=(FnD.eqC V izp fzT 5 (x1,(x2,(x3,())))).trans (by kernel_rfl)
theorem yzG:CallsOk Tryz.prog gls gvs 79 qzR:=FnD.ok (F:=fzT) (cs:=izp) V_ok (kC vzZ (kC Cz9 kN)) Tryz.func79 (by decide) (by kernel_rfl)
noncomputable def rzI:FnD:={f:=246,fn:=Tryz.f246,ps:=[pa azJ],rs:=[rt .bool]}
noncomputable def wzH:List (Nat×Sig):=[(247,qz8),(218,ozk)]
noncomputable def rzq:azn×Unit→Option ((Bool×Unit)×Unit):=rzI.d V wzH
noncomputable abbrev EzF:Sig:=rzI.t.sig rzq
theorem Ozy (x1:azn):rzq (x1,())=bnd (jzU (x1,())) (fun r1=>(cnd r1.1.1 (bnd (gzI (1009,(x1,()))) (fun r2=>(some ((r2.1.1.2.2.1,()),())))) (some ((false,()),())))):=(FnD.eq V wzH rzI (x1,())).trans (by kernel_rfl)
theorem Pz2:CallsOk Tryz.prog gls gvs 246 EzF:=FnD.ok (F:=rzI) (cs:=wzH) V_ok (kC wz5 (kC vzh kN)) Tryz.func246 (by decide) (by kernel_rfl)
noncomputable def dzF:FnD:={f:=182,fn:=Tryz.f182,ps:=[pa azp],rs:=[rt .bool],cuts:=[(2,[.val 3 (.int .i64) .sh, .box 1 azp .sh, .ptr 1 1 0])]}
noncomputable def ez0:List (Nat×Sig):=[(246,EzF)]
noncomputable def hzZ:azh×Unit→Option ((Bool×Unit)×Unit):=dzF.d V ez0
noncomputable abbrev szP:Sig:=dzF.t.sig hzZ
noncomputable def dzZ:Int×azh×Unit→Option ((Bool×Unit)×Unit):=dzF.D V ez0 2
theorem Czz (x1:azh):hzZ (x1,())=dzZ (0,(x1,())):=(FnD.eq V ez0 dzF (x1,())).trans (by kernel_rfl)
theorem qz4 (x1:Int) (x2:azh):dzZ (x1,(x2,()))=cnd (ilt x1 (len x2.1)) (cnd (inb x1 (len x2.1)) (bnd (rzq ((rd fzy x2.1 x1),())) (fun r2=>(cnd (bnot r2.1.1) (some ((false,()),())) (cnd (inb x1 (len x2.1)) (cnd (rd fzy x2.1 x1).2.2.1 (some ((false,()),())) (dzZ ((iadd .i64 x1 1),(x2,())))) none)))) none) (some (((ieq (len x2.1) 8),()),())):=(FnD.eqC V ez0 dzF 2 (x1,(x2,()))).trans (by kernel_rfl)
theorem Dzc:CallsOk Tryz.prog gls gvs 182 szP:=FnD.ok (F:=dzF) (cs:=ez0) V_ok (kC Pz2 kN) Tryz.func182 (by decide) (by kernel_rfl)
noncomputable def lzt:FnD:={f:=183,fn:=Tryz.f183,ps:=[pa azJ],rs:=[rt .str]}
noncomputable def pz1:List (Nat×Sig):=[(247,qz8)]
noncomputable def lzI:azn×Unit→Option ((ByteArray×Unit)×Unit):=lzt.d V pz1
noncomputable abbrev yzR:Sig:=lzt.t.sig lzI
theorem Jzb (x1:azn):lzI (x1,())=bnd (jzU (x1,())) (fun r1=>(cnd (bnot r1.1.1) (some (((bs []),()),())) (cnd x1.2.2.1 (some (((bs [0,0,0]),()),())) (cnd (nn 8) (cnd (nz 2) (some (((sof ((azx .u8 (ishr .i64 (iadd .i64 x1.1 1) 8))::((azx .u8 (iadd .i64 x1.1 1))::((azx .u8 (irem x1.2.1 2))::([]:List Int))))),()),())) none) none)))):=(FnD.eq V pz1 lzt (x1,())).trans (by kernel_rfl)
theorem Jzv:CallsOk Tryz.prog gls gvs 183 yzR:=FnD.ok (F:=lzt) (cs:=pz1) V_ok (kC wz5 kN) Tryz.func183 (by decide) (by kernel_rfl)
noncomputable def czq:FnD:={f:=116,fn:=Tryz.f116,ps:=[pa azp],rs:=[rt .str],cuts:=[(5,[.val 3 (.sl .str) (.own 0 .sh), .val 4 (.int .i64) .sh, .box 1 azp .sh, .ptr 1 1 0])]}
noncomputable def dzl:List (Nat×Sig):=[(182,szP),(183,yzR),(89,wzr)]
noncomputable def dze:azh×Unit→Option ((ByteArray×Unit)×Unit):=czq.d V dzl
noncomputable abbrev pzd:Sig:=czq.t.sig dze
noncomputable def ezy:(List ByteArray)×Int×azh×Unit→Option ((ByteArray×Unit)×Unit):=czq.D V dzl 5
theorem zze (x1:azh):dze (x1,())=bnd (hzZ (x1,())) (fun r1=>(cnd (bnot r1.1.1) (some (((bs []),()),())) (ezy (([]:List ByteArray),(0,(x1,())))))):=(FnD.eq V dzl czq (x1,())).trans (by kernel_rfl)
theorem nze (x1:(List ByteArray)) (x2:Int) (x3:azh):ezy (x1,(x2,(x3,())))=cnd (ilt x2 (len x3.1)) (cnd (inb x2 (len x3.1)) (bnd (lzI ((rd fzy x3.1 x2),())) (fun r3=>(cnd (fits ((len x1)+(len (r3.1.1::([]:List ByteArray)))) 1) (ezy ((app x1 (r3.1.1::([]:List ByteArray))),((iadd .i64 x2 1),(x3,())))) none))) none) (bnd (mzZ (x1,())) (fun r3=>(some ((r3.1.1,()),())))):=(FnD.eqC V dzl czq 5 (x1,(x2,(x3,())))).trans (by kernel_rfl)
theorem zzf:CallsOk Tryz.prog gls gvs 116 pzd:=FnD.ok (F:=czq) (cs:=dzl) V_ok (kC Dzc (kC Jzv (kC Azg kN))) Tryz.func116 (by decide) (by kernel_rfl)
noncomputable def hz8:FnD:={f:=82,fn:=Tryz.f82,ps:=[pa (.sl azu),pa azp,pa azp,pa czS],rs:=[⟨(.sl .str),(.own 0 .sh),false⟩]}
noncomputable def mzj:List (Nat×Sig):=[(79,qzR),(80,nzO),(116,pzd),(88,tzg)]
noncomputable def ez4:(List azd)×azh×azh×azO×Unit→Option (((List ByteArray)×Unit)×Unit):=hz8.d V mzj
noncomputable abbrev lz8:Sig:=hz8.t.sig ez4
theorem Dzd (x1:(List azd)) (x2:azh) (x3:azh) (x4:azO):ez4 (x1,(x2,(x3,(x4,()))))=bnd (fz7 (x1,())) (fun r4=>(bnd (fzt (r4.1.1,())) (fun r5=>(bnd (dze (x2,())) (fun r6=>(bnd (dze (x3,())) (fun r7=>(bnd (kz3 (x4,())) (fun r8=>(some (((r5.1.1::(r6.1.1::(r7.1.1::(r8.1.1::([]:List ByteArray))))),()),()))))))))))):=(FnD.eq V mzj hz8 (x1,(x2,(x3,(x4,()))))).trans (by kernel_rfl)
theorem szE:CallsOk Tryz.prog gls gvs 82 lz8:=FnD.ok (F:=hz8) (cs:=mzj) V_ok (kC yzG (kC uzh (kC zzf (kC AzB kN)))) Tryz.func82 (by decide) (by kernel_rfl)
noncomputable def lzv:FnD:={f:=90,fn:=Tryz.f90,ps:=[pa bzY,pa (.int .i64),pa czS],rs:=[⟨(.sl .str),(.own 0 .sh),false⟩]}
noncomputable def qze:List (Nat×Sig):=[(44,tzW),(46,jzf),(47,hzB),(82,lz8)]
noncomputable def lzl:azH×Int×azO×Unit→Option (((List ByteArray)×Unit)×Unit):=lzv.d V qze
noncomputable abbrev yzM:Sig:=lzv.t.sig lzl
theorem IzS (x1:azH) (x2:Int) (x3:azO):lzl (x1,(x2,(x3,())))=bnd (kzA ((iadd .i64 (imul .i64 4 x2) 1),())) (fun r3=>(bnd (dzn (x1,(x2,()))) (fun r4=>(bnd (bzI (x1,(r3.1.1,()))) (fun r5=>(bnd (bzI (x1,((iadd .i64 r3.1.1 1),()))) (fun r6=>(bnd (ez4 (r4.1.1,(r5.1.1,(r6.1.1,(x3,()))))) (fun r7=>(some ((r7.1.1,()),()))))))))))):=(FnD.eq V qze lzv (x1,(x2,(x3,())))).trans (by kernel_rfl)
theorem HzQ:CallsOk Tryz.prog gls gvs 90 yzM:=FnD.ok (F:=lzv) (cs:=qze) V_ok (kC Bzw (kC pzl (kC mzM (kC szE kN)))) Tryz.func90 (by decide) (by kernel_rfl)
noncomputable def dz3:FnD:={f:=48,fn:=Tryz.f48,ps:=[pa bzY,pa (.int .i64)],rs:=[⟨(.sl czS),(.own 0 .sh),false⟩],joins:=[9],cuts:=[(9,[.val 1 (.int .i64) .sh, .val 5 (.sl czS) (.own 0 .sh), .val 6 (.int .i64) .sh, .box 2 bzY .sh, .box 7 czS .sh, .box 8 czS .sh, .ptr 2 2 0, .ptr 7 7 0, .ptr 8 8 0]),(3,[.val 1 (.int .i64) .sh, .val 5 (.sl czS) (.own 0 .sh), .val 6 (.int .i64) .sh, .box 2 bzY .sh, .ptr 2 2 0])]}
noncomputable def fzl:List (Nat×Sig):=[(85,BzQ),(86,gzk),(87,Dzz),(88,tzg),(90,yzM),(89,wzr)]
noncomputable def hzk:azH×Int×Unit→Option (((List azO)×Unit)×Unit):=dz3.d V fzl
noncomputable abbrev Az8:Sig:=dz3.t.sig hzk
noncomputable def izL:Int× (List azO)×Int×azH×azO×azO×Unit→Option (((List azO)×Unit)×Unit):=dz3.D V fzl 9
noncomputable def cza:Int× (List azO)×Int×azH×Unit→Option (((List azO)×Unit)×Unit):=dz3.D V fzl 3
theorem tzV (x1:azH) (x2:Int):hzk (x1,(x2,()))=bnd (nz2 ()) (fun r2=>(cza (x2,((r2.1.1::([]:List azO)),(0,(x1,())))))):=(FnD.eq V fzl dz3 (x1,(x2,()))).trans (by kernel_rfl)
theorem yzU (x1:Int) (x2:(List azO)) (x3:Int) (x4:azH) (x5:azO) (x6:azO):izL (x1,(x2,(x3,(x4,(x5,(x6,()))))))=bnd (lzl (x4,(x3,(x5,())))) (fun r6=>(bnd (mzZ (r6.1.1,())) (fun r7=>(cnd (fits ((len x2)+(len ((x6.1,(x6.2.1,(r7.1.1,x6.2.2.2)))::([]:List azO)))) 4) (cza (x1,((app x2 ((x6.1,(x6.2.1,(r7.1.1,x6.2.2.2)))::([]:List azO))),((iadd .i64 x3 1),(x4,()))))) none)))):=(FnD.eqC V fzl dz3 9 (x1,(x2,(x3,(x4,(x5,(x6,()))))))).trans (by kernel_rfl)
theorem fzG (x1:Int) (x2:(List azO)) (x3:Int) (x4:azH):cza (x1,(x2,(x3,(x4,()))))=cnd (ile x3 x1) (cnd (inb x3 (len x2)) (bnd (czA ((bs []),())) (fun r4=>(bnd (szo (x3,())) (fun r5=>(bnd (czA (r5.1.1,())) (fun r6=>(cnd (igt x3 0) (bnd (kz3 ((rd Hz4 x2 x3),())) (fun r7=>(izL (x1,(x2,(x3,(x4,((rd Hz4 x2 x3),(((iadd .i64 (imul .i64 4 x3) 1),(r7.1.1,((bs []),(r6.1.1,())))),()))))))))) (izL (x1,(x2,(x3,(x4,((rd Hz4 x2 x3),(((iadd .i64 (imul .i64 4 x3) 1),(r4.1.1,((bs []),(r6.1.1,())))),())))))))))))))) none) (some ((x2,()),())):=(FnD.eqC V fzl dz3 3 (x1,(x2,(x3,(x4,()))))).trans (by kernel_rfl)
theorem Lzk:CallsOk Tryz.prog gls gvs 48 Az8:=FnD.ok (F:=dz3) (cs:=fzl) V_ok (kC Kz3 (kC izA (kC Pzi (kC AzB (kC HzQ (kC Azg kN)))))) Tryz.func48 (by decide) (by kernel_rfl)
noncomputable def gz8:FnD:={f:=81,fn:=Tryz.f81,ps:=[pa (.sl .str),pa (.int .i64)],rs:=[⟨(.sl .str),(.own 0 .sh),false⟩],cuts:=[(5,[.val 1 (.int .i64) .sh, .val 5 (.sl .str) (.own 0 .sh), .val 6 (.sl .str) (.own 0 .sh)])]}
noncomputable def kzC:List (Nat×Sig):=[(43,ezo),(146,qzt),(147,Gzj)]
noncomputable def kzZ:(List ByteArray)×Int×Unit→Option (((List ByteArray)×Unit)×Unit):=gz8.d V kzC
noncomputable abbrev BzF:Sig:=gz8.t.sig kzZ
noncomputable def qzu:Int× (List ByteArray)× (List ByteArray)×Unit→Option (((List ByteArray)×Unit)×Unit):=gz8.D V kzC 5
theorem Lz7 (x1:(List ByteArray)) (x2:Int):kzZ (x1,(x2,()))=cnd (igt (len x1) 32) (some ((([]:List ByteArray),()),())) (bnd (bzX (x2,(0,((isub .i64 (len x1) 1),())))) (fun r2=>(cnd (bnot r2.1.1) (some ((([]:List ByteArray),()),())) (bnd (izP (x1,())) (fun r3=>(qzu (x2,(([]:List ByteArray),(r3.1.1,()))))))))):=(FnD.eq V kzC gz8 (x1,(x2,()))).trans (by kernel_rfl)
theorem qzd (x1:Int) (x2:(List ByteArray)) (x3:(List ByteArray)):qzu (x1,(x2,(x3,())))=cnd (igt (len x3) 1) (cnd (inb (ixor .i64 x1 1) (len x3)) (cnd (fits ((len x2)+(len ((rd (bs []) x3 (ixor .i64 x1 1))::([]:List ByteArray)))) 1) (bnd (uz5 (x3,())) (fun r3=>(cnd (nz 2) (qzu ((iquo .i64 x1 2),((app x2 ((rd (bs []) x3 (ixor .i64 x1 1))::([]:List ByteArray))),(r3.1.1,())))) none))) none) none) (some ((x2,()),())):=(FnD.eqC V kzC gz8 5 (x1,(x2,(x3,())))).trans (by kernel_rfl)
theorem KzT:CallsOk Tryz.prog gls gvs 81 BzF:=FnD.ok (F:=gz8) (cs:=kzC) V_ok (kC fzj (kC xz8 (kC NzH kN))) Tryz.func81 (by decide) (by kernel_rfl)
noncomputable def ezJ:FnD:={f:=208,fn:=Tryz.f208,ps:=[pa .str],rs:=[⟨(.sl (.int .i64)),(.own 0 .sh),false⟩,rt .bool,rt .bool],joins:=[8],cuts:=[(8,[.val 0 .str .sh, .val 5 (.sl (.int .i64)) (.own 0 .sh), .val 6 .bool .sh, .val 7 (.sl (.int .i64)) (.own 0 .sh)])]}
noncomputable def gz0:List (Nat×Sig):=[(138,fzX),(214,nzE)]
noncomputable def jzA:ByteArray×Unit→Option (((List Int)×Bool×Bool×Unit)×Unit):=ezJ.d V gz0
noncomputable abbrev vzV:Sig:=ezJ.t.sig jzA
noncomputable def dzw:ByteArray× (List Int)×Bool× (List Int)×Unit→Option (((List Int)×Bool×Bool×Unit)×Unit):=ezJ.D V gz0 8
theorem GzQ (x1:ByteArray):jzA (x1,())=cnd (seq x1 (bs [])) (some ((([]:List Int),(false,(false,()))),())) (cnd (inb 0 (ssz x1)) (cnd (ige (sat x1 0) 64) (some ((([]:List Int),(false,(false,()))),())) (cnd (igt (ssz x1) 40) (some ((([]:List Int),(false,(false,()))),())) (cnd (inb 0 (ssz x1)) (cnd (inb 0 (ssz x1)) (cnd (nz 16) (cnd (nz 2) (cnd (ieq (irem (iquo .u8 (sat x1 0) 16) 2) 1) (cnd (inb 0 (ssz x1)) (cnd (nz 16) (cnd (fits ((len ([]:List Int))+(len ((irem (azx .i64 (sat x1 0)) 16)::([]:List Int)))) 1) (dzw (x1,(([]:List Int),((ige (sat x1 0) 32),((app ([]:List Int) ((irem (azx .i64 (sat x1 0)) 16)::([]:List Int))),()))))) none) none) none) (dzw (x1,(([]:List Int),((ige (sat x1 0) 32),(([]:List Int),())))))) none) none) none) none))) none):=(FnD.eq V gz0 ezJ (x1,())).trans (by kernel_rfl)
theorem CzB (x1:ByteArray) (x2:(List Int)) (x3:Bool) (x4:(List Int)):dzw (x1,(x2,(x3,(x4,()))))=cnd (inb2 1 (ssz x1) (ssz x1)) (bnd (bzA ((ssub x1 1 (ssz x1)),())) (fun r4=>(cnd (fits ((len x4)+(len r4.1.1)) 1) (bnd (czD ((app x4 r4.1.1),(x3,()))) (fun r5=>(cnd (bnot r5.1.2.1) (some ((x2,(false,(false,()))),())) (cnd (sne r5.1.1 x1) (some ((x2,(false,(false,()))),())) (some (((app x4 r4.1.1),(x3,(true,()))),())))))) none))) none:=(FnD.eqC V gz0 ezJ 8 (x1,(x2,(x3,(x4,()))))).trans (by kernel_rfl)
theorem FzG:CallsOk Tryz.prog gls gvs 208 vzV:=FnD.ok (F:=ezJ) (cs:=gz0) V_ok (kC izC (kC vzL kN)) Tryz.func208 (by decide) (by kernel_rfl)
noncomputable def jzK:FnD:={f:=140,fn:=Tryz.f140,ps:=[pa .item,pa (.sl (.int .i64))],rs:=[rt .item,rt (.int .i64),rt (.int .i64)],al:=true,joins:=[18],cuts:=[(18,[.val 9 .bool .sh, .val 11 (.int .i64) .sh, .box 2 .item .sh, .box 4 .item (.own 0 .sh), .ptr 2 2 0, .ptr 4 4 0])]}
noncomputable def nzl:List (Nat×Sig):=[(208,vzV),(148,vzM)]
noncomputable def mzT:ItemT× (List Int)×Unit→Option ((ItemT×Int×Int×Unit)×Unit):=jzK.d V nzl
noncomputable abbrev wz9:Sig:=jzK.t.sig mzT
noncomputable def lzR:Bool×Int×ItemT×ItemT×Unit→Option ((ItemT×Int×Int×Unit)×Unit):=jzK.D V nzl 18
theorem Pzc (x1:ItemT) (x2:(List Int)):mzT (x1,(x2,()))=cnd (bnot x1.l) (some ((x1,(0,(3,()))),())) (cnd (ieq (len x1.k) 17) (cnd (ieq (len x2) 0) (some ((x1,(0,(1,()))),())) (cnd (inb 0 (len x2)) (cnd (inb (rd 0 x2 0) (len x1.k)) (cnd (bnot (rd (ItemT.mk false (bs []) ([]:List ItemT)) x1.k (rd 0 x2 0)).l) (cnd (seq (rd (ItemT.mk false (bs []) ([]:List ItemT)) x1.k (rd 0 x2 0)).s (bs [])) (some (((rd (ItemT.mk false (bs []) ([]:List ItemT)) x1.k (rd 0 x2 0)),(1,(1,()))),())) (some (((rd (ItemT.mk false (bs []) ([]:List ItemT)) x1.k (rd 0 x2 0)),(1,(0,()))),()))) (some (((rd (ItemT.mk false (bs []) ([]:List ItemT)) x1.k (rd 0 x2 0)),(1,(0,()))),()))) none) none)) (cnd (ine (len x1.k) 2) (some ((x1,(0,(3,()))),())) (cnd (inb 0 (len x1.k)) (cnd (rd (ItemT.mk false (bs []) ([]:List ItemT)) x1.k 0).l (some ((x1,(0,(3,()))),())) (cnd (inb 0 (len x1.k)) (bnd (jzA ((rd (ItemT.mk false (bs []) ([]:List ItemT)) x1.k 0).s,())) (fun r2=>(cnd (bnot r2.1.2.2.1) (some ((x1,(0,(3,()))),())) (bnd (mz6 (r2.1.1,(x2,()))) (fun r3=>(cnd (ilt r3.1.1 (len r2.1.1)) (some ((x1,(r3.1.1,(1,()))),())) (cnd r2.1.2.1 (cnd (igt (len x2) r3.1.1) (some ((x1,(r3.1.1,(1,()))),())) (lzR (r2.1.2.1,(r3.1.1,(x1,((ItemT.mk false (bs []) ([]:List ItemT)),())))))) (lzR (r2.1.2.1,(r3.1.1,(x1,((ItemT.mk false (bs []) ([]:List ItemT)),())))))))))))) none)) none))):=(FnD.eq V nzl jzK (x1,(x2,()))).trans (by kernel_rfl)
theorem JzK (x1:Bool) (x2:Int) (x3:ItemT) (x4:ItemT):lzR (x1,(x2,(x3,(x4,()))))=cnd x1 (cnd (inb 1 (len x3.k)) (cnd (rd (ItemT.mk false (bs []) ([]:List ItemT)) x3.k 1).l (some ((x3,(x2,(3,()))),())) (cnd (inb 1 (len x3.k)) (some (((rd (ItemT.mk false (bs []) ([]:List ItemT)) x3.k 1),(x2,(2,()))),())) none)) none) (cnd (inb 1 (len x3.k)) (some (((rd (ItemT.mk false (bs []) ([]:List ItemT)) x3.k 1),(x2,(0,()))),())) none):=(FnD.eqC V nzl jzK 18 (x1,(x2,(x3,(x4,()))))).trans (by kernel_rfl)
theorem EzL:CallsOk Tryz.prog gls gvs 140 wz9:=FnD.ok (F:=jzK) (cs:=nzl) V_ok (kC FzG (kC Bzx kN)) Tryz.func140 (by decide) (by kernel_rfl)
noncomputable def czc:FnD:={f:=83,fn:=Tryz.f83,ps:=[pa (.sl bzr),pa .str],rs:=[⟨(.sl .str),(.own 0 .sh),false⟩],joins:=[12],fz:=[1000000013007010,1000000013008010,1000000013008011,1000054,15500010],cuts:=[(12,[.val 5 (.sl .str) (.own 0 .sh), .val 6 (.sl bzr) .sh, .val 7 (.int .i64) .sh, .val 8 (.sl (.int .i64)) .sh, .box 10 .item (.own 0 .sh), .ptr 10 10 0]),(18,[.val 5 (.sl .str) (.own 0 .sh), .val 6 (.sl bzr) .sh, .val 7 (.int .i64) .sh, .val 8 (.sl (.int .i64)) .sh, .val 9 .bool .sh, .val 14 (.int .i64) .sh, .val 16 (.sl bzr) (.own 0 .sh), .val 17 (.int .i64) .sh]),(8,[.val 5 (.sl .str) (.own 0 .sh), .val 6 (.sl bzr) .sh, .val 7 (.int .i64) .sh, .val 8 (.sl (.int .i64)) .sh, .val 9 .bool .sh])]}
noncomputable def czF:List (Nat×Sig):=[(142,rza),(138,fzX),(145,xzV),(144,hzC),(140,wz9),(148,vzM)]
noncomputable def izO:(List azl)×ByteArray×Unit→Option (((List ByteArray)×Unit)×Unit):=czc.d V czF
noncomputable abbrev yz1:Sig:=czc.t.sig izO
noncomputable def czI:(List ByteArray)× (List azl)×Int× (List Int)×ItemT×Unit→Option (((List ByteArray)×Unit)×Unit):=czc.D V czF 12
noncomputable def czG:(List ByteArray)× (List azl)×Int× (List Int)×Bool×Int× (List azl)×Int×Unit→Option (((List ByteArray)×Unit)×Unit):=czc.D V czF 18
noncomputable def gzE:(List ByteArray)× (List azl)×Int× (List Int)×Bool×Unit→Option (((List ByteArray)×Unit)×Unit):=czc.D V czF 8
theorem HzH (x1:(List azl)) (x2:ByteArray):izO (x1,(x2,()))=bnd (fzZ (x1,())) (fun r2=>(cnd (bnot r2.1.1) (some ((([]:List ByteArray),()),())) (cnd (ine (ssz x2) 4) (some ((([]:List ByteArray),()),())) (bnd (bzA (x2,())) (fun r3=>(gzE (([]:List ByteArray),(x1,(0,(r3.1.1,(true,()))))))))))):=(FnD.eq V czF czc (x1,(x2,()))).trans (by kernel_rfl)
theorem Cz7 (x1:(List ByteArray)) (x2:(List azl)) (x3:Int) (x4:(List Int)) (x5:ItemT):czI (x1,(x2,(x3,(x4,(x5,())))))=cnd (inb2 x3 (len x4) (len x4)) (bnd (mzT (x5,((sub x4 x3 (len x4)),()))) (fun r5=>(cnd (ine r5.1.2.2.1 0) (some ((x1,()),())) (czG (x1,(x2,(x3,(x4,(false,(r5.1.2.1,(([]:List azl),(0,())))))))))))) none:=(FnD.eqC V czF czc 12 (x1,(x2,(x3,(x4,(x5,())))))).trans (by kernel_rfl)
theorem szH (x1:(List ByteArray)) (x2:(List azl)) (x3:Int) (x4:(List Int)) (x5:Bool) (x6:Int) (x7:(List azl)) (x8:Int):czG (x1,(x2,(x3,(x4,(x5,(x6,(x7,(x8,()))))))))=cnd (ilt x8 (len x2)) (cnd (inb x8 (len x2)) (bnd (bzA ((rd bzd x2 x8).1,())) (fun r8=>(bnd (mz6 (r8.1.1,(x4,()))) (fun r9=>(cnd (ige r9.1.1 (iadd .i64 x3 x6)) (cnd (inb x8 (len x2)) (cnd (fits ((len x7)+(len ((rd bzd x2 x8)::([]:List azl)))) 2) (czG (x1,(x2,(x3,(x4,(x5,(x6,((app x7 ((rd bzd x2 x8)::([]:List azl))),((iadd .i64 x8 1),()))))))))) none) none) (czG (x1,(x2,(x3,(x4,(x5,(x6,(x7,((iadd .i64 x8 1),())))))))))))))) none) (gzE (x1,(x7,((iadd .i64 x3 x6),(x4,(x5,())))))):=(FnD.eqC V czF czc 18 (x1,(x2,(x3,(x4,(x5,(x6,(x7,(x8,()))))))))).trans (by kernel_rfl)
theorem Gzg (x1:(List ByteArray)) (x2:(List azl)) (x3:Int) (x4:(List Int)) (x5:Bool):gzE (x1,(x2,(x3,(x4,(x5,())))))=bnd (dzA (x2,(x3,()))) (fun r5=>(bnd (dz4 (r5.1.1,())) (fun r6=>(cnd x5 (cnd (fits ((len x1)+(len (r6.1.1::([]:List ByteArray)))) 1) (czI ((app x1 (r6.1.1::([]:List ByteArray))),(x2,(x3,(x4,(r5.1.1,())))))) none) (cnd (ige (ssz r6.1.1) 32) (cnd (fits ((len x1)+(len (r6.1.1::([]:List ByteArray)))) 1) (czI ((app x1 (r6.1.1::([]:List ByteArray))),(x2,(x3,(x4,(r5.1.1,())))))) none) (czI (x1,(x2,(x3,(x4,(r5.1.1,()))))))))))):=(FnD.eqC V czF czc 8 (x1,(x2,(x3,(x4,(x5,())))))).trans (by kernel_rfl)
theorem Hz2:CallsOk Tryz.prog gls gvs 83 yz1:=FnD.ok (F:=czc) (cs:=czF) V_ok (kC wzV (kC izC (kC Dz7 (kC kz2 (kC EzL (kC Bzx kN)))))) Tryz.func83 (by decide) (by kernel_rfl)
noncomputable def jz4:FnD:={f:=45,fn:=Tryz.f45,ps:=[pa (.sl azu),pa azp,pa azp,pa czS,pa .str,pa .str],rs:=[⟨TAsk,(.pr .sh (.pr .sh (.pr .sh (.pr .sh (.pr .sh (.pr (.own 0 .sh) .sh)))))),false⟩],al:=true,fz:=[1000030,1000027],cuts:=[(4,[.val 0 (.sl azu) .sh, .val 4 .str .sh, .val 5 .str .sh, .val 15 (.int .i64) .sh, .box 12 TAsk (.pr .sh (.pr .sh (.pr .sh (.pr (.own 0 .sh) (.pr (.own 0 .sh) (.pr (.own 0 .sh) .sh)))))), .box 14 TAsk (.pr .sh (.pr .sh (.pr .sh (.pr .sh (.pr .sh (.pr (.own 0 .sh) .sh)))))), .ptr 12 12 0, .ptr 14 14 0])]}
noncomputable def mzB:List (Nat×Sig):=[(79,qzR),(80,nzO),(82,lz8),(81,BzF),(83,yz1)]
noncomputable def rzh:(List azd)×azh×azh×azO×ByteArray×ByteArray×Unit→Option ((tAsk×Unit)×Unit):=jz4.d V mzB
noncomputable abbrev Dzw:Sig:=jz4.t.sig rzh
noncomputable def ozU:(List azd)×ByteArray×ByteArray×Int×tAsk×tAsk×Unit→Option ((tAsk×Unit)×Unit):=jz4.D V mzB 4
theorem Pza (x1:(List azd)) (x2:azh) (x3:azh) (x4:azO) (x5:ByteArray) (x6:ByteArray):rzh (x1,(x2,(x3,(x4,(x5,(x6,()))))))=bnd (fz7 (x1,())) (fun r6=>(bnd (fzt (r6.1.1,())) (fun r7=>(bnd (ez4 (x1,(x2,(x3,(x4,()))))) (fun r8=>(bnd (kzZ (r8.1.1,(0,()))) (fun r9=>(bnd (izO (r6.1.1,(x5,()))) (fun r10=>(ozU (x1,(x5,(x6,(0,(zAsk,((x5,(x6,(r7.1.1,(r9.1.1,(r10.1.1,(([]:List ByteArray),())))))),())))))))))))))))):=(FnD.eq V mzB jz4 (x1,(x2,(x3,(x4,(x5,(x6,()))))))).trans (by kernel_rfl)
theorem zzZ (x1:(List azd)) (x2:ByteArray) (x3:ByteArray) (x4:Int) (x5:tAsk) (x6:tAsk):ozU (x1,(x2,(x3,(x4,(x5,(x6,()))))))=cnd (ilt x4 (len x1)) (cnd (inb x4 (len x1)) (cnd (seq (rd azg x1 x4).1 x2) (cnd (inb x4 (len x1)) (bnd (izO ((rd azg x1 x4).2.2.2.1,(x3,()))) (fun r6=>(some (((x6.1,(x6.2.1,(x6.2.2.1,(x6.2.2.2.1,(x6.2.2.2.2.1,(r6.1.1,x6.2.2.2.2.2.2)))))),()),())))) none) (ozU (x1,(x2,(x3,((iadd .i64 x4 1),(x5,(x6,())))))))) none) (some ((x6,()),())):=(FnD.eqC V mzB jz4 4 (x1,(x2,(x3,(x4,(x5,(x6,()))))))).trans (by kernel_rfl)
theorem Ozi:CallsOk Tryz.prog gls gvs 45 Dzw:=FnD.ok (F:=jz4) (cs:=mzB) V_ok (kC yzG (kC uzh (kC szE (kC KzT (kC Hz2 kN))))) Tryz.func45 (by decide) (by kernel_rfl)
noncomputable def ozu:FnD:={f:=18,fn:=Tryz.f18,ps:=[pa bzY,pa (.int .i64),pa .str,pa .str],rs:=[⟨TAsk,(.pr .sh (.pr .sh (.pr .sh (.pr .sh (.pr .sh (.pr (.own 0 .sh) .sh)))))),false⟩],al:=true}
noncomputable def tzz:List (Nat×Sig):=[(42,DzZ),(43,ezo),(44,tzW),(46,jzf),(47,hzB),(48,Az8),(45,Dzw)]
noncomputable def ozm:azH×Int×ByteArray×ByteArray×Unit→Option ((tAsk×Unit)×Unit):=ozu.d V tzz
noncomputable abbrev Azu:Sig:=ozu.t.sig ozm
theorem Lz9 (x1:azH) (x2:Int) (x3:ByteArray) (x4:ByteArray):ozm (x1,(x2,(x3,(x4,()))))=bnd (rzS (x1,())) (fun r4=>(cnd (bnot r4.1.1) (some ((zAsk,()),())) (bnd (bzX (x2,(0,(6,())))) (fun r5=>(cnd (bnot r5.1.1) (some ((zAsk,()),())) (bnd (kzA ((iadd .i64 (imul .i64 4 x2) 1),())) (fun r6=>(bnd (dzn (x1,(x2,()))) (fun r7=>(bnd (bzI (x1,(r6.1.1,()))) (fun r8=>(bnd (bzI (x1,((iadd .i64 r6.1.1 1),()))) (fun r9=>(bnd (hzk (x1,(x2,()))) (fun r10=>(cnd (inb x2 (len r10.1.1)) (bnd (rzh (r7.1.1,(r8.1.1,(r9.1.1,((rd Hz4 r10.1.1 x2),(x3,(x4,()))))))) (fun r11=>(some ((r11.1.1,()),())))) none)))))))))))))))):=(FnD.eq V tzz ozu (x1,(x2,(x3,(x4,()))))).trans (by kernel_rfl)
theorem KzL:CallsOk Tryz.prog gls gvs 18 Azu:=FnD.ok (F:=ozu) (cs:=tzz) V_ok (kC PzE (kC fzj (kC Bzw (kC pzl (kC mzM (kC Lzk (kC Ozi kN))))))) Tryz.func18 (by decide) (by kernel_rfl)
noncomputable def ezA:FnD:={f:=75,fn:=Tryz.f75,ps:=[pa .str,pa (.int .i64),pa (.sl .str)],rs:=[rt .str],cuts:=[(5,[.val 1 (.int .i64) .sh, .val 2 (.sl .str) .sh, .val 7 .str .sh, .val 8 (.int .i64) .sh])]}
noncomputable def gzU:List (Nat×Sig):=[(43,ezo),(86,gzk),(137,ozf)]
noncomputable def jzp:ByteArray×Int× (List ByteArray)×Unit→Option ((ByteArray×Unit)×Unit):=ezA.d V gzU
noncomputable abbrev uzi:Sig:=ezA.t.sig jzp
noncomputable def hzY:Int× (List ByteArray)×ByteArray×Int×Unit→Option ((ByteArray×Unit)×Unit):=ezA.D V gzU 5
theorem Gz9 (x1:ByteArray) (x2:Int) (x3:(List ByteArray)):jzp (x1,(x2,(x3,())))=cnd (igt (len x3) 5) (some (((bs []),()),())) (cnd (nn (azx .u64 (len x3))) (bnd (bzX (x2,(0,((isub .i64 (ishl .i64 1 (azx .u64 (len x3))) 1),())))) (fun r3=>(cnd (bnot r3.1.1) (some (((bs []),()),())) (bnd (czA (x1,())) (fun r4=>(hzY (x2,(x3,(r4.1.1,(0,())))))))))) none):=(FnD.eq V gzU ezA (x1,(x2,(x3,())))).trans (by kernel_rfl)
theorem mzt (x1:Int) (x2:(List ByteArray)) (x3:ByteArray) (x4:Int):hzY (x1,(x2,(x3,(x4,()))))=cnd (ilt x4 (len x2)) (cnd (nn (azx .u64 x4)) (cnd (nz 2) (cnd (ieq (irem (ishr .i64 x1 (azx .u64 x4)) 2) 1) (cnd (inb x4 (len x2)) (bnd (ezD ((rd (bs []) x2 x4),(x3,()))) (fun r4=>(hzY (x1,(x2,(r4.1.1,((iadd .i64 x4 1),()))))))) none) (cnd (inb x4 (len x2)) (bnd (ezD (x3,((rd (bs []) x2 x4),()))) (fun r4=>(hzY (x1,(x2,(r4.1.1,((iadd .i64 x4 1),()))))))) none)) none) none) (some ((x3,()),())):=(FnD.eqC V gzU ezA 5 (x1,(x2,(x3,(x4,()))))).trans (by kernel_rfl)
theorem Gz2:CallsOk Tryz.prog gls gvs 75 uzi:=FnD.ok (F:=ezA) (cs:=gzU) V_ok (kC fzj (kC izA (kC vzN kN))) Tryz.func75 (by decide) (by kernel_rfl)
noncomputable def jzV:FnD:={f:=141,fn:=Tryz.f141,ps:=[pa .str],rs:=[rt (.int .i64),rt .bool],cuts:=[(5,[.val 0 .str .sh, .val 4 (.int .i64) .sh, .val 5 (.int .i64) .sh])]}
noncomputable def mz5:List (Nat×Sig):=[(209,szp)]
noncomputable def jzX:ByteArray×Unit→Option ((Int×Bool×Unit)×Unit):=jzV.d V mz5
noncomputable abbrev xzM:Sig:=jzV.t.sig jzX
noncomputable def hzu:ByteArray×Int×Int×Unit→Option ((Int×Bool×Unit)×Unit):=jzV.D V mz5 5
theorem PzI (x1:ByteArray):jzX (x1,())=cnd (igt (ssz x1) 4) (some ((0,(false,())),())) (hzu (x1,zTwo)):=(FnD.eq V mz5 jzV (x1,())).trans (by kernel_rfl)
theorem zz2 (x1:ByteArray) (x2:Int) (x3:Int):hzu (x1,(x2,(x3,())))=cnd (ilt x3 (ssz x1)) (cnd (inb x3 (ssz x1)) (hzu (x1,((iadd .i64 (imul .i64 256 x2) (azx .i64 (sat x1 x3))),((iadd .i64 x3 1),())))) none) (bnd (hzp (x2,())) (fun r3=>(cnd (sne r3.1.1 x1) (some ((0,(false,())),())) (cnd (igt x2 1000000000) (some ((0,(false,())),())) (some ((x2,(true,())),())))))):=(FnD.eqC V mz5 jzV 5 (x1,(x2,(x3,())))).trans (by kernel_rfl)
theorem Dzy:CallsOk Tryz.prog gls gvs 141 xzM:=FnD.ok (F:=jzV) (cs:=mz5) V_ok (kC xzs kN) Tryz.func141 (by decide) (by kernel_rfl)
noncomputable def szg:FnD:={f:=283,fn:=Tryz.f283,ps:=[pa .str,pa (.int .i64),pa (.int .i64)],rs:=[rt (.int .i64),rt (.int .i64),rt .bool]}
noncomputable def wz1:List (Nat×Sig):=[(141,xzM)]
noncomputable def nzy:ByteArray×Int×Int×Unit→Option ((Int×Int×Bool×Unit)×Unit):=szg.d V wz1
noncomputable abbrev Ezf:Sig:=szg.t.sig nzy
theorem EzG (x1:ByteArray) (x2:Int) (x3:Int):nzy (x1,(x2,(x3,())))=cnd (inb x2 (ssz x1)) (cnd (ile (isub .i64 (azx .i64 (sat x1 x2)) x3) 55) (some (((iadd .i64 x2 1),((isub .i64 (azx .i64 (sat x1 x2)) x3),(true,()))),())) (cnd (igt (isub .i64 (isub .i64 (azx .i64 (sat x1 x2)) x3) 55) 2) (some (fzy,())) (cnd (igt (isub .i64 (isub .i64 (azx .i64 (sat x1 x2)) x3) 55) (isub .i64 (isub .i64 (ssz x1) x2) 1)) (some (fzy,())) (cnd (inb2 (iadd .i64 x2 1) (iadd .i64 (iadd .i64 x2 1) (isub .i64 (isub .i64 (azx .i64 (sat x1 x2)) x3) 55)) (ssz x1)) (bnd (jzX ((ssub x1 (iadd .i64 x2 1) (iadd .i64 (iadd .i64 x2 1) (isub .i64 (isub .i64 (azx .i64 (sat x1 x2)) x3) 55))),())) (fun r3=>(cnd r3.1.2.1 (some (((iadd .i64 (iadd .i64 x2 1) (isub .i64 (isub .i64 (azx .i64 (sat x1 x2)) x3) 55)),(r3.1.1,((igt r3.1.1 55),()))),())) (some (((iadd .i64 (iadd .i64 x2 1) (isub .i64 (isub .i64 (azx .i64 (sat x1 x2)) x3) 55)),(r3.1.1,(false,()))),()))))) none)))) none:=(FnD.eq V wz1 szg (x1,(x2,(x3,())))).trans (by kernel_rfl)
theorem PzQ:CallsOk Tryz.prog gls gvs 283 Ezf:=FnD.ok (F:=szg) (cs:=wz1) V_ok (kC Dzy kN) Tryz.func283 (by decide) (by kernel_rfl)
noncomputable def fzY:FnD:={f:=207,fn:=Tryz.f207,ps:=[pa .str,pa (.int .i64),pa (.int .i64)],rs:=[⟨.item,(.own 0 .sh),false⟩,rt (.int .i64),rt .bool],al:=true,joins:=[9],cuts:=[(9,[.val 0 .str .sh, .val 1 (.int .i64) .sh, .val 2 (.int .i64) .sh, .val 9 .bool .sh, .val 10 (.int .i64) .sh, .box 6 .item (.own 0 .sh), .ptr 6 6 0]),(16,[.val 0 .str .sh, .val 2 (.int .i64) .sh, .val 11 (.int .i64) .sh, .val 12 (.int .i64) .sh, .val 15 (.int .i64) .sh, .box 6 .item (.own 0 .sh), .box 14 .item (.own 0 .sh), .ptr 6 6 0, .ptr 14 14 0])]}
noncomputable def hzM:List (Nat×Sig):=[(283,Ezf)]
noncomputable def ezs:ByteArray×Int×Int×Unit→Option ((ItemT×Int×Bool×Unit)×Unit):=fzY.d V hzM
noncomputable abbrev DzO:Sig:=fzY.t.sig ezs
noncomputable def hzq:ByteArray×Int×Int×Bool×Int×ItemT×Unit→Option ((ItemT×Int×Bool×Unit)×Unit):=fzY.D V hzM 9
noncomputable def fzF:ByteArray×Int×Int×Int×Int×ItemT×ItemT×Unit→Option ((ItemT×Int×Bool×Unit)×Unit):=fzY.D V hzM 16
theorem rzU (x1:ByteArray) (x2:Int) (x3:Int):ezs (x1,(x2,(x3,())))=cnd (ige x2 (ssz x1)) (some (((ItemT.mk false (bs []) ([]:List ItemT)),(0,(false,()))),())) (cnd (igt x3 4) (some (((ItemT.mk false (bs []) ([]:List ItemT)),(0,(false,()))),())) (cnd (inb x2 (ssz x1)) (cnd (ilt (sat x1 x2) 128) (cnd (inb2 x2 (iadd .i64 x2 1) (ssz x1)) (some (((ItemT.mk false (ssub x1 x2 (iadd .i64 x2 1)) ([]:List ItemT)),((iadd .i64 x2 1),(true,()))),())) none) (cnd (inb x2 (ssz x1)) (cnd (ige (sat x1 x2) 192) (hzq (x1,(x2,(x3,((ige (sat x1 x2) 192),(192,((ItemT.mk false (bs []) ([]:List ItemT)),()))))))) (hzq (x1,(x2,(x3,((ige (sat x1 x2) 192),(128,((ItemT.mk false (bs []) ([]:List ItemT)),())))))))) none)) none)):=(FnD.eq V hzM fzY (x1,(x2,(x3,())))).trans (by kernel_rfl)
theorem tzU (x1:ByteArray) (x2:Int) (x3:Int) (x4:Bool) (x5:Int) (x6:ItemT):hzq (x1,(x2,(x3,(x4,(x5,(x6,()))))))=bnd (nzy (x1,(x2,(x5,())))) (fun r6=>(cnd (bnot r6.1.2.2.1) (some (((ItemT.mk false (bs []) ([]:List ItemT)),(0,(false,()))),())) (cnd (igt r6.1.2.1 (isub .i64 (ssz x1) r6.1.1)) (some (((ItemT.mk false (bs []) ([]:List ItemT)),(0,(false,()))),())) (cnd (bnot x4) (cnd (inb2 r6.1.1 (iadd .i64 r6.1.1 r6.1.2.1) (ssz x1)) (some (((ItemT.mk false (ssub x1 r6.1.1 (iadd .i64 r6.1.1 r6.1.2.1)) ([]:List ItemT)),((iadd .i64 r6.1.1 r6.1.2.1),(true,()))),())) none) (fzF (x1,(x3,(r6.1.1,(r6.1.2.1,(r6.1.1,(x6,((ItemT.mk true (bs []) ([]:List ItemT)),())))))))))))):=(FnD.eqC V hzM fzY 9 (x1,(x2,(x3,(x4,(x5,(x6,()))))))).trans (by kernel_rfl)
theorem lzx (x1:ByteArray) (x2:Int) (x3:Int) (x4:Int) (x5:Int) (x6:ItemT) (x7:ItemT):fzF (x1,(x2,(x3,(x4,(x5,(x6,(x7,())))))))=cnd (ilt x5 (iadd .i64 x3 x4)) (cnd (inb2 0 (iadd .i64 x3 x4) (ssz x1)) (bnd (ezs ((ssub x1 0 (iadd .i64 x3 x4)),(x5,((iadd .i64 x2 1),())))) (fun r7=>(cnd (bnot r7.1.2.2.1) (some (((ItemT.mk false (bs []) ([]:List ItemT)),(0,(false,()))),())) (cnd (ige (len x7.k) 17) (some (((ItemT.mk false (bs []) ([]:List ItemT)),(0,(false,()))),())) (cnd (fits ((len x7.k)+(len (r7.1.1::([]:List ItemT)))) 3) (fzF (x1,(x2,(x3,(x4,(r7.1.2.1,(x6,((ItemT.mk x7.l x7.s (app x7.k (r7.1.1::([]:List ItemT)))),())))))))) none))))) none) (some ((x7,((iadd .i64 x3 x4),(true,()))),())):=(FnD.eqC V hzM fzY 16 (x1,(x2,(x3,(x4,(x5,(x6,(x7,())))))))).trans (by kernel_rfl)
theorem Pz1:CallsOk Tryz.prog gls gvs 207 DzO:=FnD.ok (F:=fzY) (cs:=hzM) V_ok (kC PzQ kN) Tryz.func207 (by decide) (by kernel_rfl)
noncomputable def ozb:FnD:={f:=139,fn:=Tryz.f139,ps:=[pa .str],rs:=[⟨.item,(.own 0 .sh),false⟩,rt .bool],al:=true}
noncomputable def uzg:List (Nat×Sig):=[(207,DzO),(144,hzC)]
noncomputable def kzz:ByteArray×Unit→Option ((ItemT×Bool×Unit)×Unit):=ozb.d V uzg
noncomputable abbrev tzY:Sig:=ozb.t.sig kzz
theorem LzK (x1:ByteArray):kzz (x1,())=cnd (igt (ssz x1) 900) (some (((ItemT.mk false (bs []) ([]:List ItemT)),(false,())),())) (bnd (ezs (x1,zTwo)) (fun r1=>(bnd (dz4 (r1.1.1,())) (fun r2=>(cnd (bnot r1.1.2.2.1) (some (((ItemT.mk false (bs []) ([]:List ItemT)),(false,())),())) (cnd (ine r1.1.2.1 (ssz x1)) (some (((ItemT.mk false (bs []) ([]:List ItemT)),(false,())),())) (cnd (bnot r2.1.2.1) (some (((ItemT.mk false (bs []) ([]:List ItemT)),(false,())),())) (cnd (sne r2.1.1 x1) (some (((ItemT.mk false (bs []) ([]:List ItemT)),(false,())),())) (some ((r1.1.1,(true,())),())))))))))):=(FnD.eq V uzg ozb (x1,())).trans (by kernel_rfl)
theorem BzO:CallsOk Tryz.prog gls gvs 139 tzY:=FnD.ok (F:=ozb) (cs:=uzg) V_ok (kC Pz1 (kC kz2 kN)) Tryz.func139 (by decide) (by kernel_rfl)
noncomputable def bzL:FnD:={f:=76,fn:=Tryz.f76,ps:=[pa .str,pa .str,pa (.sl .str)],rs:=[rt .str,rt .bool,rt (.int .i64)],joins:=[16,19],cuts:=[(16,[.val 2 (.sl .str) .sh, .val 9 (.sl (.int .i64)) .sh, .val 10 .str .sh, .val 11 (.int .i64) .sh, .val 13 .bool .sh, .box 12 .item .sh, .ptr 12 12 0]),(19,[.val 2 (.sl .str) .sh, .val 9 (.sl (.int .i64)) .sh, .val 10 .str .sh, .val 11 (.int .i64) .sh, .val 17 (.int .i64) .sh, .val 18 (.int .i64) .sh, .box 12 .item .sh, .box 16 .item .sh, .ptr 12 12 0, .ptr 16 16 0]),(8,[.val 2 (.sl .str) .sh, .val 9 (.sl (.int .i64)) .sh, .val 10 .str .sh, .val 11 (.int .i64) .sh, .val 13 .bool .sh, .box 12 .item .sh, .ptr 12 12 0])]}
noncomputable def bz7:List (Nat×Sig):=[(43,ezo),(138,fzX),(139,tzY),(86,gzk),(140,wz9)]
noncomputable def gzY:ByteArray×ByteArray× (List ByteArray)×Unit→Option ((ByteArray×Bool×Int×Unit)×Unit):=bzL.d V bz7
noncomputable abbrev vz0:Sig:=bzL.t.sig gzY
noncomputable def dzV:(List ByteArray)× (List Int)×ByteArray×Int×Bool×ItemT×Unit→Option ((ByteArray×Bool×Int×Unit)×Unit):=bzL.D V bz7 16
noncomputable def czj:(List ByteArray)× (List Int)×ByteArray×Int×Int×Int×ItemT×ItemT×Unit→Option ((ByteArray×Bool×Int×Unit)×Unit):=bzL.D V bz7 19
noncomputable def dzD:(List ByteArray)× (List Int)×ByteArray×Int×Bool×ItemT×Unit→Option ((ByteArray×Bool×Int×Unit)×Unit):=bzL.D V bz7 8
theorem FzV (x1:ByteArray) (x2:ByteArray) (x3:(List ByteArray)):gzY (x1,(x2,(x3,())))=cnd (ine (ssz x1) 32) (some (((bs []),(false,(1,()))),())) (cnd (ine (ssz x2) 4) (some (((bs []),(false,(1,()))),())) (bnd (bzX ((len x3),(1,(12,())))) (fun r3=>(cnd (bnot r3.1.1) (some (((bs []),(false,(1,()))),())) (bnd (bzA (x2,())) (fun r4=>(dzD (x3,(r4.1.1,(x1,(0,(false,((ItemT.mk false (bs []) ([]:List ItemT)),()))))))))))))):=(FnD.eq V bz7 bzL (x1,(x2,(x3,())))).trans (by kernel_rfl)
theorem qzL (x1:(List ByteArray)) (x2:(List Int)) (x3:ByteArray) (x4:Int) (x5:Bool) (x6:ItemT):dzV (x1,(x2,(x3,(x4,(x5,(x6,()))))))=bnd (mzT (x6,(x2,()))) (fun r6=>(cnd (bnot x6.l) (cnd (seq x6.s (bs [])) (cnd (ieq x4 1) (cnd (bnot x5) (czj (x1,(x2,(x3,(x4,(r6.1.2.1,(1,(x6,(r6.1.1,()))))))))) (czj (x1,(x2,(x3,(x4,(r6.1.2.1,(r6.1.2.2.1,(x6,(r6.1.1,())))))))))) (czj (x1,(x2,(x3,(x4,(r6.1.2.1,(r6.1.2.2.1,(x6,(r6.1.1,())))))))))) (czj (x1,(x2,(x3,(x4,(r6.1.2.1,(r6.1.2.2.1,(x6,(r6.1.1,())))))))))) (czj (x1,(x2,(x3,(x4,(r6.1.2.1,(r6.1.2.2.1,(x6,(r6.1.1,()))))))))))):=(FnD.eqC V bz7 bzL 16 (x1,(x2,(x3,(x4,(x5,(x6,()))))))).trans (by kernel_rfl)
theorem qzm (x1:(List ByteArray)) (x2:(List Int)) (x3:ByteArray) (x4:Int) (x5:Int) (x6:Int) (x7:ItemT) (x8:ItemT):czj (x1,(x2,(x3,(x4,(x5,(x6,(x7,(x8,()))))))))=cnd (ieq x6 3) (some (((bs []),(false,(3,()))),())) (cnd (ine x6 0) (cnd (ilt x4 (len x1)) (some (((bs []),(false,(4,()))),())) (cnd (ieq x6 2) (some ((x8.s,(true,(0,()))),())) (some (((bs []),(false,(0,()))),())))) (cnd (inb2 x5 (len x2) (len x2)) (cnd (bnot x8.l) (cnd (ine (ssz x8.s) 32) (some (((bs []),(false,(3,()))),())) (dzD (x1,((sub x2 x5 (len x2)),(x8.s,(x4,(x8.l,(x8,())))))))) (dzD (x1,((sub x2 x5 (len x2)),(x3,(x4,(x8.l,(x8,())))))))) none)):=(FnD.eqC V bz7 bzL 19 (x1,(x2,(x3,(x4,(x5,(x6,(x7,(x8,()))))))))).trans (by kernel_rfl)
theorem tza (x1:(List ByteArray)) (x2:(List Int)) (x3:ByteArray) (x4:Int) (x5:Bool) (x6:ItemT):dzD (x1,(x2,(x3,(x4,(x5,(x6,()))))))=cnd (bnot x5) (cnd (ige x4 (len x1)) (some (((bs []),(false,(3,()))),())) (cnd (inb x4 (len x1)) (bnd (kzz ((rd (bs []) x1 x4),())) (fun r6=>(cnd (bnot r6.1.2.1) (some (((bs []),(false,(2,()))),())) (cnd (inb x4 (len x1)) (bnd (czA ((rd (bs []) x1 x4),())) (fun r7=>(cnd (sne r7.1.1 x3) (some (((bs []),(false,(2,()))),())) (dzV (x1,(x2,(x3,((iadd .i64 x4 1),(x5,(r6.1.1,())))))))))) none)))) none)) (dzV (x1,(x2,(x3,(x4,(x5,(x6,()))))))):=(FnD.eqC V bz7 bzL 8 (x1,(x2,(x3,(x4,(x5,(x6,()))))))).trans (by kernel_rfl)
theorem Gzc:CallsOk Tryz.prog gls gvs 76 vz0:=FnD.ok (F:=bzL) (cs:=bz7) V_ok (kC fzj (kC izC (kC BzO (kC izA (kC EzL kN))))) Tryz.func76 (by decide) (by kernel_rfl)
noncomputable def dzv:FnD:={f:=77,fn:=Tryz.f77,ps:=[pa .str],rs:=[rt (.int .i64),rt (.int .i64),rt .str,rt .bool],joins:=[3],cuts:=[(3,[.val 51 .bool .sh, .box 6 .item (.own 0 .sh), .ptr 6 6 0])]}
noncomputable def ezU:List (Nat×Sig):=[(139,tzY),(141,xzM),(43,ezo)]
noncomputable def ize:ByteArray×Unit→Option ((Int×Int×ByteArray×Bool×Unit)×Unit):=dzv.d V ezU
noncomputable abbrev sz1:Sig:=dzv.t.sig ize
noncomputable def czh:Bool×ItemT×Unit→Option ((Int×Int×ByteArray×Bool×Unit)×Unit):=dzv.D V ezU 3
theorem Dza (x1:ByteArray):ize (x1,())=bnd (kzz (x1,())) (fun r1=>(cnd (bnot r1.1.2.1) (czh (true,(r1.1.1,()))) (cnd (bnot r1.1.1.l) (czh (true,(r1.1.1,()))) (cnd (ine (len r1.1.1.k) 3) (czh (true,(r1.1.1,()))) (cnd (inb 0 (len r1.1.1.k)) (cnd (rd (ItemT.mk false (bs []) ([]:List ItemT)) r1.1.1.k 0).l (czh (true,(r1.1.1,()))) (cnd (inb 1 (len r1.1.1.k)) (cnd (rd (ItemT.mk false (bs []) ([]:List ItemT)) r1.1.1.k 1).l (czh (true,(r1.1.1,()))) (cnd (inb 2 (len r1.1.1.k)) (czh ((rd (ItemT.mk false (bs []) ([]:List ItemT)) r1.1.1.k 2).l,(r1.1.1,()))) none)) none)) none))))):=(FnD.eq V ezU dzv (x1,())).trans (by kernel_rfl)
theorem Czh (x1:Bool) (x2:ItemT):czh (x1,(x2,()))=cnd x1 (some ((0,(0,czU)),())) (cnd (inb 0 (len x2.k)) (bnd (jzX ((rd (ItemT.mk false (bs []) ([]:List ItemT)) x2.k 0).s,())) (fun r2=>(cnd (inb 1 (len x2.k)) (bnd (jzX ((rd (ItemT.mk false (bs []) ([]:List ItemT)) x2.k 1).s,())) (fun r3=>(cnd (inb 2 (len x2.k)) (cnd (bnot r2.1.2.1) (some ((0,(0,czU)),())) (cnd (bnot r3.1.2.1) (some ((0,(0,czU)),())) (bnd (bzX (r2.1.1,(0,(1000,())))) (fun r4=>(cnd (bnot r4.1.1) (some ((0,(0,czU)),())) (cnd (ine (ssz (rd (ItemT.mk false (bs []) ([]:List ItemT)) x2.k 2).s) 32) (some ((0,(0,czU)),())) (some ((r2.1.1,(r3.1.1,((rd (ItemT.mk false (bs []) ([]:List ItemT)) x2.k 2).s,(true,())))),())))))))) none))) none))) none):=(FnD.eqC V ezU dzv 3 (x1,(x2,()))).trans (by kernel_rfl)
theorem CzH:CallsOk Tryz.prog gls gvs 77 sz1:=FnD.ok (F:=dzv) (cs:=ezU) V_ok (kC BzO (kC Dzy (kC fzj kN))) Tryz.func77 (by decide) (by kernel_rfl)
noncomputable def lzS:FnD:={f:=41,fn:=Tryz.f41,ps:=[pa .str,pa TAsk],rs:=[rt .str,rt .bool,rt (.int .i64)]}
noncomputable def qzo:List (Nat×Sig):=[(75,uzi),(76,vz0),(77,sz1)]
noncomputable def izw:ByteArray×tAsk×Unit→Option ((ByteArray×Bool×Int×Unit)×Unit):=lzS.d V qzo
noncomputable abbrev yzg:Sig:=lzS.t.sig izw
theorem xz6 (x1:ByteArray) (x2:tAsk):izw (x1,(x2,()))=cnd (ine (ssz x2.2.2.1) 32) (some (((bs []),(false,(1,()))),())) (cnd (ine (len x2.2.2.2.1) 2) (some (((bs []),(false,(1,()))),())) (bnd (jzp (x2.2.2.1,(0,(x2.2.2.2.1,())))) (fun r2=>(cnd (sne r2.1.1 x1) (some (((bs []),(false,(2,()))),())) (bnd (gzY (x2.2.2.1,(x2.1,(x2.2.2.2.2.1,())))) (fun r3=>(cnd (ine r3.1.2.2.1 0) (some (((bs []),(false,((iadd .i64 10 r3.1.2.2.1),()))),())) (cnd (bnot r3.1.2.1) (cnd (igt (len x2.2.2.2.2.2.1) 0) (some (((bs []),(false,(4,()))),())) (some (((bs []),(false,(0,()))),()))) (bnd (ize (r3.1.1,())) (fun r4=>(cnd (bnot r4.1.2.2.2.1) (some (((bs []),(false,(3,()))),())) (bnd (gzY (r4.1.2.2.1,(x2.2.1,(x2.2.2.2.2.2.1,())))) (fun r5=>(cnd (ine r5.1.2.2.1 0) (some (((bs []),(false,((iadd .i64 20 r5.1.2.2.1),()))),())) (some ((r5.1.1,(r5.1.2.1,(0,()))),())))))))))))))))):=(FnD.eq V qzo lzS (x1,(x2,()))).trans (by kernel_rfl)
theorem JzC:CallsOk Tryz.prog gls gvs 41 yzg:=FnD.ok (F:=lzS) (cs:=qzo) V_ok (kC Gz2 (kC Gzc (kC CzH kN))) Tryz.func41 (by decide) (by kernel_rfl)
noncomputable def lzp:FnD:={f:=17,fn:=Tryz.f17,ps:=[pa kzO,pa TAsk],rs:=[rt .str,rt .bool,rt (.int .i64)]}
noncomputable def qzV:List (Nat×Sig):=[(41,yzg)]
noncomputable def pz2:gzN×tAsk×Unit→Option ((ByteArray×Bool×Int×Unit)×Unit):=lzp.d V qzV
noncomputable abbrev yz7:Sig:=lzp.t.sig pz2
theorem IzX (x1:gzN) (x2:tAsk):pz2 (x1,(x2,()))=bnd (izw (x1.2.1.1.2.2.1,(x2,()))) (fun r2=>(some ((r2.1.1,(r2.1.2.1,(r2.1.2.2.1,()))),()))):=(FnD.eq V qzV lzp (x1,(x2,()))).trans (by kernel_rfl)
theorem Jzh:CallsOk Tryz.prog gls gvs 17 yz7:=FnD.ok (F:=lzp) (cs:=qzV) V_ok (kC JzC kN) Tryz.func17 (by decide) (by kernel_rfl)
noncomputable def eza:FnD:={f:=6,fn:=Tryz.f6,ps:=[pa gzp,pa (.int .i64),pa .str],rs:=[rt .bool],cuts:=[(11,[.val 2 .str .sh, .val 7 .str .sh, .val 8 .bool .sh, .val 10 .str .sh, .val 11 .bool .sh, .val 12 (.int .i64) .sh, .val 14 (.int .i64) .sh, .box 3 gzp .sh, .box 13 azu .sh, .ptr 3 3 0, .ptr 13 13 0]),(7,[.val 2 .str .sh, .val 7 .str .sh, .val 8 .bool .sh, .val 10 .str .sh, .val 11 .bool .sh, .val 12 (.int .i64) .sh, .box 3 gzp .sh, .ptr 3 3 0])]}
noncomputable def fzr:List (Nat×Sig):=[(18,Azu),(17,yz7)]
noncomputable def kzs:dzp×Int×ByteArray×Unit→Option ((Bool×Unit)×Unit):=eza.d V fzr
noncomputable abbrev AzJ:Sig:=eza.t.sig kzs
noncomputable def gzq:ByteArray×ByteArray×Bool×ByteArray×Bool×Int×Int×dzp×azd×Unit→Option ((Bool×Unit)×Unit):=eza.D V fzr 11
noncomputable def dz8:ByteArray×ByteArray×Bool×ByteArray×Bool×Int×dzp×Unit→Option ((Bool×Unit)×Unit):=eza.D V fzr 7
theorem LzG (x1:dzp) (x2:Int) (x3:ByteArray):kzs (x1,(x2,(x3,())))=bnd (ozm (x1.1,(x2,(x3,((bs [97,97,97,97]),()))))) (fun r3=>(bnd (pz2 (x1.2.2.1,(r3.1.1,()))) (fun r4=>(cnd (ine r4.1.2.2.1 0) (some ((true,()),())) (dz8 (x3,(r4.1.1,(r4.1.2.1,((bs []),(false,(0,(x1,())))))))))))):=(FnD.eq V fzr eza (x1,(x2,(x3,())))).trans (by kernel_rfl)
theorem wzp (x1:ByteArray) (x2:ByteArray) (x3:Bool) (x4:ByteArray) (x5:Bool) (x6:Int) (x7:Int) (x8:dzp) (x9:azd):gzq (x1,(x2,(x3,(x4,(x5,(x6,(x7,(x8,(x9,())))))))))=cnd (ilt x7 (len x9.2.2.2.1)) (cnd (seq x9.1 x1) (cnd (inb x7 (len x9.2.2.2.1)) (cnd (seq (rd bzd x9.2.2.2.1 x7).1 (bs [97,97,97,97])) (cnd (inb x7 (len x9.2.2.2.1)) (gzq (x1,(x2,(x3,((rd bzd x9.2.2.2.1 x7).2.1,(true,(x6,((iadd .i64 x7 1),(x8,(x9,())))))))))) none) (gzq (x1,(x2,(x3,(x4,(x5,(x6,((iadd .i64 x7 1),(x8,(x9,()))))))))))) none) (dz8 (x1,(x2,(x3,(x4,(x5,((iadd .i64 x6 1),(x8,()))))))))) (dz8 (x1,(x2,(x3,(x4,(x5,((iadd .i64 x6 1),(x8,())))))))):=(FnD.eqC V fzr eza 11 (x1,(x2,(x3,(x4,(x5,(x6,(x7,(x8,(x9,())))))))))).trans (by kernel_rfl)
theorem yzn (x1:ByteArray) (x2:ByteArray) (x3:Bool) (x4:ByteArray) (x5:Bool) (x6:Int) (x7:dzp):dz8 (x1,(x2,(x3,(x4,(x5,(x6,(x7,())))))))=cnd (ilt x6 (len x7.1.2.1)) (cnd (inb x6 (len x7.1.2.1)) (gzq (x1,(x2,(x3,(x4,(x5,(x6,(0,(x7,((rd azg x7.1.2.1 x6),())))))))))) none) (cnd (seq x2 x4) (some (((beqB x3 x5),()),())) (some ((false,()),()))):=(FnD.eqC V fzr eza 7 (x1,(x2,(x3,(x4,(x5,(x6,(x7,())))))))).trans (by kernel_rfl)
theorem Lzh:CallsOk Tryz.prog gls gvs 6 AzJ:=FnD.ok (F:=eza) (cs:=fzr) V_ok (kC KzL (kC Jzh kN)) Tryz.func6 (by decide) (by kernel_rfl)
noncomputable def vz9:FnD:={f:=54,fn:=Tryz.f54,ps:=[pa (.int .i64)],rs:=[rt .bool]}
noncomputable def Bzz:List (Nat×Sig):=[]
noncomputable def pzH:Int×Unit→Option ((Bool×Unit)×Unit):=vz9.d V Bzz
noncomputable abbrev Bzb:Sig:=vz9.t.sig pzH
theorem Szi (x1:Int):pzH (x1,())=cnd (ige x1 0) (some (((ile x1 6),()),())) (some ((false,()),())):=(FnD.eq V Bzz vz9 (x1,())).trans (by kernel_rfl)
theorem Iz7:CallsOk Tryz.prog gls gvs 54 Bzb:=FnD.ok (F:=vz9) (cs:=Bzz) V_ok kN Tryz.func54 (by decide) (by kernel_rfl)
noncomputable def jzS:FnD:={f:=164,fn:=Tryz.f164,ps:=[pa (.sl bzr)],rs:=[rt .bool],cuts:=[(4,[.val 0 (.sl bzr) .sh, .val 8 (.sl bzr) .sh, .val 9 (.int .i64) .sh, .val 10 (.int .i64) .sh])]}
noncomputable def mzC:List (Nat×Sig):=[]
noncomputable def jzY:(List azl)×Unit→Option ((Bool×Unit)×Unit):=jzS.d V mzC
noncomputable abbrev rzJ:Sig:=jzS.t.sig jzY
noncomputable def kzN:(List azl)× (List azl)×Int×Int×Unit→Option ((Bool×Unit)×Unit):=jzS.D V mzC 4
theorem Nz7 (x1:(List azl)):jzY (x1,())=cnd (igt (len x1) 12) (some ((false,()),())) (kzN (x1,(x1,((len x1),(0,()))))):=(FnD.eq V mzC jzS (x1,())).trans (by kernel_rfl)
theorem Azf (x1:(List azl)) (x2:(List azl)) (x3:Int) (x4:Int):kzN (x1,(x2,(x3,(x4,()))))=cnd (ilt x4 x3) (cnd (inb x4 (len x2)) (cnd (ine (ssz (rd bzd x2 x4).1) 4) (some ((false,()),())) (cnd (ilt (ssz (rd bzd x2 x4).2.1) 1) (some ((false,()),())) (cnd (igt (ssz (rd bzd x2 x4).2.1) 60) (some ((false,()),())) (cnd (igt x4 0) (cnd (inb (isub .i64 x4 1) (len x1)) (cnd (sge (rd bzd x1 (isub .i64 x4 1)).1 (rd bzd x2 x4).1) (some ((false,()),())) (kzN (x1,(x2,(x3,((iadd .i64 x4 1),())))))) none) (kzN (x1,(x2,(x3,((iadd .i64 x4 1),()))))))))) none) (some ((true,()),())):=(FnD.eqC V mzC jzS 4 (x1,(x2,(x3,(x4,()))))).trans (by kernel_rfl)
theorem wzQ:CallsOk Tryz.prog gls gvs 164 rzJ:=FnD.ok (F:=jzS) (cs:=mzC) V_ok kN Tryz.func164 (by decide) (by kernel_rfl)
noncomputable def czE:FnD:={f:=99,fn:=Tryz.f99,ps:=[pa (.sl azu)],rs:=[rt .bool],joins:=[8],cuts:=[(8,[.val 0 (.sl azu) .sh, .val 8 (.sl azu) .sh, .val 9 (.int .i64) .sh, .val 10 (.int .i64) .sh, .val 20 (.int .i64) .sh, .val 21 .bool .sh, .val 22 .bool .sh, .val 32 .bool .sh, .box 4 azu .sh, .ptr 4 4 0]),(4,[.val 0 (.sl azu) .sh, .val 8 (.sl azu) .sh, .val 9 (.int .i64) .sh, .val 10 (.int .i64) .sh])]}
noncomputable def cz1:List (Nat×Sig):=[(164,rzJ)]
noncomputable def gzh:(List azd)×Unit→Option ((Bool×Unit)×Unit):=czE.d V cz1
noncomputable abbrev ozJ:Sig:=czE.t.sig gzh
noncomputable def izm:(List azd)× (List azd)×Int×Int×Int×Bool×Bool×Bool×azd×Unit→Option ((Bool×Unit)×Unit):=czE.D V cz1 8
noncomputable def dzC:(List azd)× (List azd)×Int×Int×Unit→Option ((Bool×Unit)×Unit):=czE.D V cz1 4
theorem Fzm (x1:(List azd)):gzh (x1,())=cnd (igt (len x1) 12) (some ((false,()),())) (dzC (x1,(x1,((len x1),(0,()))))):=(FnD.eq V cz1 czE (x1,())).trans (by kernel_rfl)
theorem Cz1 (x1:(List azd)) (x2:(List azd)) (x3:Int) (x4:Int) (x5:Int) (x6:Bool) (x7:Bool) (x8:Bool) (x9:azd):izm (x1,(x2,(x3,(x4,(x5,(x6,(x7,(x8,(x9,())))))))))=cnd (ilt x9.2.1 0) (some ((false,()),())) (cnd (igt x9.2.1 1000) (some ((false,()),())) (cnd (ilt x9.2.2.1 0) (some ((false,()),())) (cnd (igt x9.2.2.1 1000000000) (some ((false,()),())) (bnd (jzY (x9.2.2.2.1,())) (fun r9=>(cnd (bnot r9.1.1) (some ((false,()),())) (dzC (x1,(x2,(x3,((iadd .i64 x4 1),()))))))))))):=(FnD.eqC V cz1 czE 8 (x1,(x2,(x3,(x4,(x5,(x6,(x7,(x8,(x9,())))))))))).trans (by kernel_rfl)
theorem tze (x1:(List azd)) (x2:(List azd)) (x3:Int) (x4:Int):dzC (x1,(x2,(x3,(x4,()))))=cnd (ilt x4 x3) (cnd (inb x4 (len x2)) (cnd (ine (ssz (rd azg x2 x4).1) 4) (some ((false,()),())) (cnd (igt x4 0) (cnd (inb (isub .i64 x4 1) (len x1)) (cnd (sge (rd azg x1 (isub .i64 x4 1)).1 (rd azg x2 x4).1) (some ((false,()),())) (izm (x1,(x2,(x3,(x4,(x4,((igt x4 0),(true,((sge (rd azg x1 (isub .i64 x4 1)).1 (rd azg x2 x4).1),((rd azg x2 x4),()))))))))))) none) (izm (x1,(x2,(x3,(x4,(x4,((igt x4 0),(false,(false,((rd azg x2 x4),())))))))))))) none) (some ((true,()),())):=(FnD.eqC V cz1 czE 4 (x1,(x2,(x3,(x4,()))))).trans (by kernel_rfl)
theorem vzo:CallsOk Tryz.prog gls gvs 99 ozJ:=FnD.ok (F:=czE) (cs:=cz1) V_ok (kC wzQ kN) Tryz.func99 (by decide) (by kernel_rfl)
noncomputable def rzd:FnD:={f:=55,fn:=Tryz.f55,ps:=[pa bzY],rs:=[rt .bool]}
noncomputable def xzb:List (Nat×Sig):=[(99,ozJ)]
noncomputable def nzn:azH×Unit→Option ((Bool×Unit)×Unit):=rzd.d V xzb
noncomputable abbrev xzH:Sig:=rzd.t.sig nzn
theorem PzP (x1:azH):nzn (x1,())=cnd (ige x1.1 0) (cnd (ile x1.1 99) (bnd (gzh (x1.2.1,())) (fun r1=>(some ((r1.1.1,()),())))) (some ((false,()),()))) (some ((false,()),())):=(FnD.eq V xzb rzd (x1,())).trans (by kernel_rfl)
theorem DzF:CallsOk Tryz.prog gls gvs 55 xzH:=FnD.ok (F:=rzd) (cs:=xzb) V_ok (kC vzo kN) Tryz.func55 (by decide) (by kernel_rfl)
noncomputable def lz2:FnD:={f:=165,fn:=Tryz.f165,ps:=[pa .str],rs:=[rt .str]}
noncomputable def pzW:List (Nat×Sig):=[(229,lzu)]
noncomputable def lzL:ByteArray×Unit→Option ((ByteArray×Unit)×Unit):=lz2.d V pzW
noncomputable abbrev yzY:Sig:=lz2.t.sig lzL
theorem Izk (x1:ByteArray):lzL (x1,())=cnd (nz 136) (cnd (fits ((ssz x1)+(ssz (bs [1]))) 1) (bnd (czB ((bs [0]),((isub .i64 135 (irem (ssz x1) 136)),()))) (fun r1=>(cnd (fits ((ssz (scat x1 (bs [1])))+(ssz r1.1.1)) 1) (cnd (inb (isub .i64 (len (bzn (scat (scat x1 (bs [1])) r1.1.1))) 1) (len (bzn (scat (scat x1 (bs [1])) r1.1.1)))) (cnd (inb (isub .i64 (len (bzn (scat (scat x1 (bs [1])) r1.1.1))) 1) (len (bzn (scat (scat x1 (bs [1])) r1.1.1)))) (some (((sof (upd (bzn (scat (scat x1 (bs [1])) r1.1.1)) (isub .i64 (len (bzn (scat (scat x1 (bs [1])) r1.1.1))) 1) (ior .u8 (rd 0 (bzn (scat (scat x1 (bs [1])) r1.1.1)) (isub .i64 (len (bzn (scat (scat x1 (bs [1])) r1.1.1))) 1)) 128))),()),())) none) none) none))) none) none:=(FnD.eq V pzW lz2 (x1,())).trans (by kernel_rfl)
theorem IzT:CallsOk Tryz.prog gls gvs 165 yzY:=FnD.ok (F:=lz2) (cs:=pzW) V_ok (kC uzt kN) Tryz.func165 (by decide) (by kernel_rfl)
noncomputable def mzR:FnD:={f:=166,fn:=Tryz.f166,ps:=[pa .str,pa (.int .i64)],rs:=[rt (.int .u64)],cuts:=[(3,[.val 0 .str .sh, .val 1 (.int .i64) .sh, .val 5 (.int .u64) .sh, .val 6 (.int .i64) .sh])]}
noncomputable def qzO:List (Nat×Sig):=[]
noncomputable def wzy:ByteArray×Int×Unit→Option ((Int×Unit)×Unit):=mzR.d V qzO
noncomputable abbrev HzI:Sig:=mzR.t.sig wzy
noncomputable def szr:ByteArray×Int×Int×Int×Unit→Option ((Int×Unit)×Unit):=mzR.D V qzO 3
theorem Rzc (x1:ByteArray) (x2:Int):wzy (x1,(x2,()))=szr (x1,(x2,(0,(7,())))):=(FnD.eq V qzO mzR (x1,(x2,()))).trans (by kernel_rfl)
theorem Ezd (x1:ByteArray) (x2:Int) (x3:Int) (x4:Int):szr (x1,(x2,(x3,(x4,()))))=cnd (ige x4 0) (cnd (nn 8) (cnd (inb (iadd .i64 x2 x4) (ssz x1)) (szr (x1,(x2,((ior .u64 (ishl .u64 x3 8) (azx .u64 (sat x1 (iadd .i64 x2 x4)))),((isub .i64 x4 1),()))))) none) none) (some ((x3,()),())):=(FnD.eqC V qzO mzR 3 (x1,(x2,(x3,(x4,()))))).trans (by kernel_rfl)
theorem QzJ:CallsOk Tryz.prog gls gvs 166 HzI:=FnD.ok (F:=mzR) (cs:=qzO) V_ok kN Tryz.func166 (by decide) (by kernel_rfl)
noncomputable def bzC:FnD:={f:=300,fn:=Tryz.f300,ps:=[pa (.int .u64),pa (.int .i64)],rs:=[rt (.int .u64)]}
noncomputable def czm:List (Nat×Sig):=[]
noncomputable def bzg:Int×Int×Unit→Option ((Int×Unit)×Unit):=bzC.d V czm
noncomputable abbrev ezL:Sig:=bzC.t.sig bzg
theorem lzi (x1:Int) (x2:Int):bzg (x1,(x2,()))=cnd (nn (iand .u64 (azx .u64 x2) 63)) (cnd (nn (isub .u64 64 (iand .u64 (azx .u64 x2) 63))) (some (((ior .u64 (ishl .u64 x1 (iand .u64 (azx .u64 x2) 63)) (ishr .u64 x1 (isub .u64 64 (iand .u64 (azx .u64 x2) 63)))),()),())) none) none:=(FnD.eq V czm bzC (x1,(x2,()))).trans (by kernel_rfl)
theorem lzj:CallsOk Tryz.prog gls gvs 300 ezL:=FnD.ok (F:=bzC) (cs:=czm) V_ok kN Tryz.func300 (by decide) (by kernel_rfl)
noncomputable def azU:FnD:={f:=230,fn:=Tryz.f230,ps:=[⟨(.arr 25 (.int .u64)), .sh,true,true,none⟩,pa (.int .i64)],rs:=[],cuts:=[(2,[.val 1 (.int .i64) .sh, .val 12 (.int .i64) .sh, .box 0 (.arr 25 (.int .u64)) .sh, .box 4 (.arr 5 (.int .u64)) .sh, .ptr 0 0 0, .ptr 4 4 0]),(11,[.val 1 (.int .i64) .sh, .val 7 (.int .i64) .sh, .val 51 (.int .i64) .sh, .val 54 (.int .i64) .sh, .box 0 (.arr 25 (.int .u64)) .sh, .box 4 (.arr 5 (.int .u64)) .sh, .box 6 (.arr 25 (.int .u64)) .sh, .ptr 0 0 0, .ptr 4 4 0, .ptr 6 6 0]),(8,[.val 1 (.int .i64) .sh, .val 51 (.int .i64) .sh, .box 0 (.arr 25 (.int .u64)) .sh, .box 4 (.arr 5 (.int .u64)) .sh, .box 6 (.arr 25 (.int .u64)) .sh, .ptr 0 0 0, .ptr 4 4 0, .ptr 6 6 0]),(21,[.val 1 (.int .i64) .sh, .val 10 (.int .i64) .sh, .val 98 (.int .i64) .sh, .val 101 (.int .i64) .sh, .box 0 (.arr 25 (.int .u64)) .sh, .box 6 (.arr 25 (.int .u64)) .sh, .ptr 0 0 0, .ptr 6 6 0]),(18,[.val 1 (.int .i64) .sh, .val 98 (.int .i64) .sh, .box 0 (.arr 25 (.int .u64)) .sh, .box 6 (.arr 25 (.int .u64)) .sh, .ptr 0 0 0, .ptr 6 6 0])]}
noncomputable def azX:List (Nat×Sig):=[(300,ezL)]
noncomputable def gzS:(List Int)×Int×Unit→Option ((Unit)× (List Int)×Unit):=azU.d V azX
noncomputable abbrev qzK:Sig:=azU.t.sig gzS
noncomputable def czr:Int×Int× (List Int)× (List Int)×Unit→Option ((Unit)× (List Int)×Unit):=azU.D V azX 2
noncomputable def ezB:Int×Int×Int×Int× (List Int)× (List Int)× (List Int)×Unit→Option ((Unit)× (List Int)×Unit):=azU.D V azX 11
noncomputable def czo:Int×Int× (List Int)× (List Int)× (List Int)×Unit→Option ((Unit)× (List Int)×Unit):=azU.D V azX 8
noncomputable def ezz:Int×Int×Int×Int× (List Int)× (List Int)×Unit→Option ((Unit)× (List Int)×Unit):=azU.D V azX 21
noncomputable def cze:Int×Int× (List Int)× (List Int)×Unit→Option ((Unit)× (List Int)×Unit):=azU.D V azX 18
theorem AzZ (x1:(List Int)) (x2:Int):gzS (x1,(x2,()))=czr (x2,(0,(x1,((0::(0::(0::(0::(0::([]:List Int)))))),())))):=(FnD.eq V azX azU (x1,(x2,()))).trans (by kernel_rfl)
theorem pzt (x1:Int) (x2:Int) (x3:(List Int)) (x4:(List Int)):czr (x1,(x2,(x3,(x4,()))))=cnd (ilt x2 5) (cnd (inb x2 25) (cnd (inb (iadd .i64 x2 5) 25) (cnd (inb (iadd .i64 x2 10) 25) (cnd (inb (iadd .i64 x2 15) 25) (cnd (inb (iadd .i64 x2 20) 25) (cnd (inb x2 5) (czr (x1,((iadd .i64 x2 1),(x3,((upd x4 x2 (ixor .u64 (ixor .u64 (ixor .u64 (ixor .u64 (rd 0 x3 x2) (rd 0 x3 (iadd .i64 x2 5))) (rd 0 x3 (iadd .i64 x2 10))) (rd 0 x3 (iadd .i64 x2 15))) (rd 0 x3 (iadd .i64 x2 20)))),()))))) none) none) none) none) none) none) (czo (x1,(0,(x3,(x4,((0::(0::(0::(0::(0::(0::(0::(0::(0::(0::(0::(0::(0::(0::(0::(0::(0::(0::(0::(0::(0::(0::(0::(0::(0::([]:List Int)))))))))))))))))))))))))),())))))):=(FnD.eqC V azX azU 2 (x1,(x2,(x3,(x4,()))))).trans (by kernel_rfl)
theorem mz4 (x1:Int) (x2:Int) (x3:Int) (x4:Int) (x5:(List Int)) (x6:(List Int)) (x7:(List Int)):ezB (x1,(x2,(x3,(x4,(x5,(x6,(x7,())))))))=cnd (ilt x4 5) (cnd (nz 5) (cnd (inb (irem (iadd .i64 x4 4) 5) 5) (cnd (nz 5) (cnd (inb (irem (iadd .i64 x4 1) 5) 5) (bnd (bzg ((rd 0 x6 (irem (iadd .i64 x4 1) 5)),(1,()))) (fun r7=>(cnd (nz 5) (cnd (inb (iadd .i64 x4 (imul .i64 5 x2)) 25) (cnd (inb (iadd .i64 x4 (imul .i64 5 x2)) 25) (bnd (bzg ((ixor .u64 (rd 0 x5 (iadd .i64 x4 (imul .i64 5 x2))) (ixor .u64 (rd 0 x6 (irem (iadd .i64 x4 4) 5)) r7.1.1)),((rd 0 az1 (iadd .i64 x4 (imul .i64 5 x2))),()))) (fun r8=>(cnd (inb (iadd .i64 x2 (imul .i64 5 (irem (iadd .i64 (imul .i64 2 x4) (imul .i64 3 x2)) 5))) 25) (ezB (x1,(x2,(x3,((iadd .i64 x4 1),(x5,(x6,((upd x7 (iadd .i64 x2 (imul .i64 5 (irem (iadd .i64 (imul .i64 2 x4) (imul .i64 3 x2)) 5))) r8.1.1),())))))))) none))) none) none) none))) none) none) none) none) (czo (x1,((iadd .i64 x3 1),(x5,(x6,(x7,())))))):=(FnD.eqC V azX azU 11 (x1,(x2,(x3,(x4,(x5,(x6,(x7,())))))))).trans (by kernel_rfl)
theorem pzi (x1:Int) (x2:Int) (x3:(List Int)) (x4:(List Int)) (x5:(List Int)):czo (x1,(x2,(x3,(x4,(x5,())))))=cnd (ilt x2 5) (ezB (x1,(x2,(x2,(0,(x3,(x4,(x5,())))))))) (cze (x1,(0,(x3,(x5,()))))):=(FnD.eqC V azX azU 8 (x1,(x2,(x3,(x4,(x5,())))))).trans (by kernel_rfl)
theorem nzj (x1:Int) (x2:Int) (x3:Int) (x4:Int) (x5:(List Int)) (x6:(List Int)):ezz (x1,(x2,(x3,(x4,(x5,(x6,()))))))=cnd (ilt x4 5) (cnd (inb (iadd .i64 x4 (imul .i64 5 x2)) 25) (cnd (nz 5) (cnd (inb (iadd .i64 (irem (iadd .i64 x4 1) 5) (imul .i64 5 x2)) 25) (cnd (nz 5) (cnd (inb (iadd .i64 (irem (iadd .i64 x4 2) 5) (imul .i64 5 x2)) 25) (cnd (inb (iadd .i64 x4 (imul .i64 5 x2)) 25) (ezz (x1,(x2,(x3,((iadd .i64 x4 1),((upd x5 (iadd .i64 x4 (imul .i64 5 x2)) (ixor .u64 (rd 0 x6 (iadd .i64 x4 (imul .i64 5 x2))) (iand .u64 (inot .u64 (rd 0 x6 (iadd .i64 (irem (iadd .i64 x4 1) 5) (imul .i64 5 x2)))) (rd 0 x6 (iadd .i64 (irem (iadd .i64 x4 2) 5) (imul .i64 5 x2)))))),(x6,()))))))) none) none) none) none) none) none) (cze (x1,((iadd .i64 x3 1),(x5,(x6,()))))):=(FnD.eqC V azX azU 21 (x1,(x2,(x3,(x4,(x5,(x6,()))))))).trans (by kernel_rfl)
theorem mzJ (x1:Int) (x2:Int) (x3:(List Int)) (x4:(List Int)):cze (x1,(x2,(x3,(x4,()))))=cnd (ilt x2 5) (ezz (x1,(x2,(x2,(0,(x3,(x4,()))))))) (cnd (inb 0 25) (cnd (inb x1 24) (cnd (inb 0 25) (some ((),((upd x3 0 (ixor .u64 (rd 0 x3 0) (rd 0 azT x1))),()))) none) none) none):=(FnD.eqC V azX azU 18 (x1,(x2,(x3,(x4,()))))).trans (by kernel_rfl)
theorem Czo:CallsOk Tryz.prog gls gvs 230 qzK:=FnD.ok (F:=azU) (cs:=azX) V_ok (kC lzj kN) Tryz.func230 (by decide) (by kernel_rfl)
noncomputable def czv:FnD:={f:=167,fn:=Tryz.f167,ps:=[⟨(.arr 25 (.int .u64)), .sh,true,true,none⟩],rs:=[],cuts:=[(1,[.val 3 (.int .i64) .sh, .box 0 (.arr 25 (.int .u64)) .sh, .ptr 0 0 0])]}
noncomputable def dzq:List (Nat×Sig):=[(230,qzK)]
noncomputable def fzb:(List Int)×Unit→Option ((Unit)× (List Int)×Unit):=czv.d V dzq
noncomputable abbrev pzf:Sig:=czv.t.sig fzb
noncomputable def ezI:Int× (List Int)×Unit→Option ((Unit)× (List Int)×Unit):=czv.D V dzq 1
theorem zzg (x1:(List Int)):fzb (x1,())=ezI (0,(x1,())):=(FnD.eq V dzq czv (x1,())).trans (by kernel_rfl)
theorem mzO (x1:Int) (x2:(List Int)):ezI (x1,(x2,()))=cnd (ilt x1 24) (bnd (gzS (x2,(x1,()))) (fun r2=>(ezI ((iadd .i64 x1 1),(r2.2.1,()))))) (some ((),(x2,()))):=(FnD.eqC V dzq czv 1 (x1,(x2,()))).trans (by kernel_rfl)
theorem zzn:CallsOk Tryz.prog gls gvs 167 pzf:=FnD.ok (F:=czv) (cs:=dzq) V_ok (kC Czo kN) Tryz.func167 (by decide) (by kernel_rfl)
noncomputable def fzK:FnD:={f:=231,fn:=Tryz.f231,ps:=[⟨(.sl (.int .u8)),(.own 0 .sh),false,false,none⟩,pa (.int .u64)],rs:=[⟨(.sl (.int .u8)),(.own 0 .sh),false⟩],cuts:=[(2,[.val 0 (.sl (.int .u8)) (.own 0 .sh), .val 1 (.int .u64) .sh, .val 5 (.int .i64) .sh])]}
noncomputable def izx:List (Nat×Sig):=[]
noncomputable def lzo:(List Int)×Int×Unit→Option (((List Int)×Unit)×Unit):=fzK.d V izx
noncomputable abbrev yzw:Sig:=fzK.t.sig lzo
noncomputable def ezv:(List Int)×Int×Int×Unit→Option (((List Int)×Unit)×Unit):=fzK.D V izx 2
theorem Jzt (x1:(List Int)) (x2:Int):lzo (x1,(x2,()))=ezv (x1,(x2,(0,()))):=(FnD.eq V izx fzK (x1,(x2,()))).trans (by kernel_rfl)
theorem uzy (x1:(List Int)) (x2:Int) (x3:Int):ezv (x1,(x2,(x3,())))=cnd (ilt x3 8) (cnd (fits ((len x1)+(len ((azx .u8 x2)::([]:List Int)))) 1) (cnd (nn 8) (ezv ((app x1 ((azx .u8 x2)::([]:List Int))),((ishr .u64 x2 8),((iadd .i64 x3 1),())))) none) none) (some ((x1,()),())):=(FnD.eqC V izx fzK 2 (x1,(x2,(x3,())))).trans (by kernel_rfl)
theorem Jz8:CallsOk Tryz.prog gls gvs 231 yzw:=FnD.ok (F:=fzK) (cs:=izx) V_ok kN Tryz.func231 (by decide) (by kernel_rfl)
noncomputable def dzG:FnD:={f:=168,fn:=Tryz.f168,ps:=[⟨(.arr 25 (.int .u64)), .sh,true,true,none⟩],rs:=[rt .str],cuts:=[(3,[.val 3 (.sl (.int .u8)) (.own 0 .sh), .val 8 (.int .i64) .sh, .box 0 (.arr 25 (.int .u64)) .sh, .ptr 0 0 0, .ptr 7 0 0])]}
noncomputable def ezZ:List (Nat×Sig):=[(231,yzw)]
noncomputable def hz5:(List Int)×Unit→Option ((ByteArray×Unit)× (List Int)×Unit):=dzG.d V ezZ
noncomputable abbrev szK:Sig:=dzG.t.sig hz5
noncomputable def gzw:(List Int)×Int× (List Int)×Unit→Option ((ByteArray×Unit)× (List Int)×Unit):=dzG.D V ezZ 3
theorem Dzk (x1:(List Int)):hz5 (x1,())=cnd (both (inb2 0 0 200) (fits 200 1)) (gzw ((rep 0 0),(0,(x1,())))) none:=(FnD.eq V ezZ dzG (x1,())).trans (by kernel_rfl)
theorem qzX (x1:(List Int)) (x2:Int) (x3:(List Int)):gzw (x1,(x2,(x3,())))=cnd (ilt x2 25) (cnd (inb x2 25) (bnd (lzo (x1,((rd 0 x3 x2),()))) (fun r3=>(gzw (r3.1.1,((iadd .i64 x2 1),(x3,())))))) none) (some (((sof x1),()),(x3,()))):=(FnD.eqC V ezZ dzG 3 (x1,(x2,(x3,())))).trans (by kernel_rfl)
theorem CzR:CallsOk Tryz.prog gls gvs 168 szK:=FnD.ok (F:=dzG) (cs:=ezZ) V_ok (kC Jz8 kN) Tryz.func168 (by decide) (by kernel_rfl)
noncomputable def izq:FnD:={f:=100,fn:=Tryz.f100,ps:=[pa .str],rs:=[rt .str],cuts:=[(7,[.val 3 .str .sh, .val 5 (.int .i64) .sh, .val 15 (.int .i64) .sh, .box 4 (.arr 25 (.int .u64)) .sh, .ptr 4 4 0]),(4,[.val 3 .str .sh, .val 5 (.int .i64) .sh, .box 4 (.arr 25 (.int .u64)) .sh, .ptr 4 4 0])]}
noncomputable def kzL:List (Nat×Sig):=[(165,yzY),(166,HzI),(167,pzf),(168,szK)]
noncomputable def czi:ByteArray×Unit→Option ((ByteArray×Unit)×Unit):=izq.d V kzL
noncomputable abbrev gzj:Sig:=izq.t.sig czi
noncomputable def mz7:ByteArray×Int×Int× (List Int)×Unit→Option ((ByteArray×Unit)×Unit):=izq.D V kzL 7
noncomputable def nzu:ByteArray×Int× (List Int)×Unit→Option ((ByteArray×Unit)×Unit):=izq.D V kzL 4
theorem SzS (x1:ByteArray):czi (x1,())=bnd (lzL (x1,())) (fun r1=>(nzu (r1.1.1,(0,((0::(0::(0::(0::(0::(0::(0::(0::(0::(0::(0::(0::(0::(0::(0::(0::(0::(0::(0::(0::(0::(0::(0::(0::(0::([]:List Int)))))))))))))))))))))))))),()))))):=(FnD.eq V kzL izq (x1,())).trans (by kernel_rfl)
theorem EzR (x1:ByteArray) (x2:Int) (x3:Int) (x4:(List Int)):mz7 (x1,(x2,(x3,(x4,()))))=cnd (ilt x3 17) (cnd (inb x3 25) (bnd (wzy (x1,((iadd .i64 x2 (imul .i64 8 x3)),()))) (fun r4=>(cnd (inb x3 25) (mz7 (x1,(x2,((iadd .i64 x3 1),((upd x4 x3 (ixor .u64 (rd 0 x4 x3) r4.1.1)),()))))) none))) none) (bnd (fzb (x4,())) (fun r4=>(nzu (x1,((iadd .i64 x2 136),(r4.2.1,())))))):=(FnD.eqC V kzL izq 7 (x1,(x2,(x3,(x4,()))))).trans (by kernel_rfl)
theorem Ezn (x1:ByteArray) (x2:Int) (x3:(List Int)):nzu (x1,(x2,(x3,())))=cnd (ilt x2 (ssz x1)) (mz7 (x1,(x2,(0,(x3,()))))) (bnd (hz5 (x3,())) (fun r3=>(cnd (inb2 0 32 (ssz r3.1.1)) (some (((ssub r3.1.1 0 32),()),())) none))):=(FnD.eqC V kzL izq 4 (x1,(x2,(x3,())))).trans (by kernel_rfl)
theorem izX:CallsOk Tryz.prog gls gvs 100 gzj:=FnD.ok (F:=izq) (cs:=kzL) V_ok (kC IzT (kC QzJ (kC zzn (kC CzR kN)))) Tryz.func100 (by decide) (by kernel_rfl)
noncomputable def lz7:FnD:={f:=56,fn:=Tryz.f56,ps:=[],rs:=[rt czS]}
noncomputable def pzO:List (Nat×Sig):=[(100,gzj)]
noncomputable def dz2:Unit→Option ((azO×Unit)×Unit):=lz7.d V pzO
noncomputable abbrev lzq:Sig:=lz7.t.sig dz2
theorem Jzn:dz2 ()=bnd (czi ((bs []),())) (fun r0=>(some (((0,(r0.1.1,(r0.1.1,(r0.1.1,())))),()),()))):=(FnD.eq V pzO lz7 ()).trans (by kernel_rfl)
theorem pzC:CallsOk Tryz.prog gls gvs 56 lzq:=FnD.ok (F:=lz7) (cs:=pzO) V_ok (kC izX kN) Tryz.func56 (by decide) (by kernel_rfl)
noncomputable def rzX:FnD:={f:=169,fn:=Tryz.f169,ps:=[pa (.int .i64)],rs:=[rt .str]}
noncomputable def xzG:List (Nat×Sig):=[(232,pzj)]
noncomputable def rzW:Int×Unit→Option ((ByteArray×Unit)×Unit):=rzX.d V xzG
noncomputable abbrev Ezh:Sig:=rzX.t.sig rzW
theorem Ozh (x1:Int):rzW (x1,())=bnd (jze (x1,())) (fun r1=>(some ((r1.1.1,()),()))):=(FnD.eq V xzG rzX (x1,())).trans (by kernel_rfl)
theorem PzG:CallsOk Tryz.prog gls gvs 169 Ezh:=FnD.ok (F:=rzX) (cs:=xzG) V_ok (kC zzp kN) Tryz.func169 (by decide) (by kernel_rfl)
noncomputable def vze:FnD:={f:=132,fn:=Tryz.f132,ps:=[pa (.int .i64)],rs:=[rt .bool]}
noncomputable def zz6:List (Nat×Sig):=[]
noncomputable def uzU:Int×Unit→Option ((Bool×Unit)×Unit):=vze.d V zz6
noncomputable abbrev IzH:Sig:=vze.t.sig uzU
theorem SzJ (x1:Int):uzU (x1,())=cnd (ige x1 0) (some (((ile x1 10000),()),())) (some ((false,()),())):=(FnD.eq V zz6 vze (x1,())).trans (by kernel_rfl)
theorem TzM:CallsOk Tryz.prog gls gvs 132 IzH:=FnD.ok (F:=vze) (cs:=zz6) V_ok kN Tryz.func132 (by decide) (by kernel_rfl)
noncomputable def ozO:FnD:={f:=95,fn:=Tryz.f95,ps:=[pa .str],rs:=[rt .bool]}
noncomputable def tz6:List (Nat×Sig):=[]
noncomputable def czH:ByteArray×Unit→Option ((Bool×Unit)×Unit):=ozO.d V tz6
noncomputable abbrev gz4:Sig:=ozO.t.sig czH
theorem Lzd (x1:ByteArray):czH (x1,())=some (((ieq (ssz x1) 32),()),()):=(FnD.eq V tz6 ozO (x1,())).trans (by kernel_rfl)
theorem kzt:CallsOk Tryz.prog gls gvs 95 gz4:=FnD.ok (F:=ozO) (cs:=tz6) V_ok kN Tryz.func95 (by decide) (by kernel_rfl)
noncomputable def wzd:FnD:={f:=196,fn:=Tryz.f196,ps:=[pa czS],rs:=[rt .bool]}
noncomputable def BzB:List (Nat×Sig):=[(132,IzH),(95,gz4)]
noncomputable def wze:azO×Unit→Option ((Bool×Unit)×Unit):=wzd.d V BzB
noncomputable abbrev Jz6:Sig:=wzd.t.sig wze
theorem QzD (x1:azO):wze (x1,())=bnd (uzU (x1.1,())) (fun r1=>(cnd r1.1.1 (bnd (czH (x1.2.1,())) (fun r2=>(cnd r2.1.1 (bnd (czH (x1.2.2.1,())) (fun r3=>(cnd r3.1.1 (bnd (czH (x1.2.2.2.1,())) (fun r4=>(some ((r4.1.1,()),())))) (some ((false,()),()))))) (some ((false,()),()))))) (some ((false,()),())))):=(FnD.eq V BzB wzd (x1,())).trans (by kernel_rfl)
theorem SzK:CallsOk Tryz.prog gls gvs 196 Jz6:=FnD.ok (F:=wzd) (cs:=BzB) V_ok (kC TzM (kC kzt kN)) Tryz.func196 (by decide) (by kernel_rfl)
noncomputable def kze:FnD:={f:=233,fn:=Tryz.f233,ps:=[pa (.int .i64)],rs:=[rt .str],cuts:=[(2,[.val 0 (.int .i64) .sh, .val 3 (.sl (.int .u8)) (.own 0 .sh)])]}
noncomputable def nzt:List (Nat×Sig):=[]
noncomputable def rzz:Int×Unit→Option ((ByteArray×Unit)×Unit):=kze.d V nzt
noncomputable abbrev DzK:Sig:=kze.t.sig rzz
noncomputable def kzl:Int× (List Int)×Unit→Option ((ByteArray×Unit)×Unit):=kze.D V nzt 2
theorem Pzx (x1:Int):rzz (x1,())=kzl (x1,(([]:List Int),())):=(FnD.eq V nzt kze (x1,())).trans (by kernel_rfl)
theorem Bzp (x1:Int) (x2:(List Int)):kzl (x1,(x2,()))=cnd (igt x1 127) (cnd (nz 128) (cnd (fits ((len x2)+(len ((azx .u8 (iadd .i64 128 (irem x1 128)))::([]:List Int)))) 1) (cnd (nz 128) (kzl ((iquo .i64 x1 128),((app x2 ((azx .u8 (iadd .i64 128 (irem x1 128)))::([]:List Int))),()))) none) none) none) (cnd (fits ((len x2)+(len ((azx .u8 x1)::([]:List Int)))) 1) (some (((sof (app x2 ((azx .u8 x1)::([]:List Int)))),()),())) none):=(FnD.eqC V nzt kze 2 (x1,(x2,()))).trans (by kernel_rfl)
theorem Nz4:CallsOk Tryz.prog gls gvs 233 DzK:=FnD.ok (F:=kze) (cs:=nzt) V_ok kN Tryz.func233 (by decide) (by kernel_rfl)
noncomputable def jzE:FnD:={f:=159,fn:=Tryz.f159,ps:=[pa .str,pa .str],rs:=[rt .str]}
noncomputable def nzH:List (Nat×Sig):=[(100,gzj)]
noncomputable def ezC:ByteArray×ByteArray×Unit→Option ((ByteArray×Unit)×Unit):=jzE.d V nzH
noncomputable abbrev ozQ:Sig:=jzE.t.sig ezC
theorem GzL (x1:ByteArray) (x2:ByteArray):ezC (x1,(x2,()))=cnd (fits ((ssz x1)+(ssz x2)) 1) (bnd (czi ((scat x1 x2),())) (fun r2=>(some ((r2.1.1,()),())))) none:=(FnD.eq V nzH jzE (x1,(x2,()))).trans (by kernel_rfl)
theorem wzu:CallsOk Tryz.prog gls gvs 159 ozQ:=FnD.ok (F:=jzE) (cs:=nzH) V_ok (kC izX kN) Tryz.func159 (by decide) (by kernel_rfl)
noncomputable def az5:FnD:={f:=178,fn:=Tryz.f178,ps:=[pa (.sl .str)],rs:=[⟨(.sl (.sl .str)),(.own 0 .sh),false⟩],al:=true,fz:=[37,62],cuts:=[(3,[.val 3 (.sl .str) (.own 0 .sh), .val 9 (.sl .str) .sh, .val 10 (.int .i64) .sh, .val 11 (.int .i64) .sh]),(7,[.val 3 (.sl .str) (.own 0 .sh)]),(13,[.val 3 (.sl .str) .sh, .val 6 (.sl (.sl .str)) (.own 0 .sh), .val 7 (.sl .str) (.own 0 .sh), .val 8 (.int .i64) .sh]),(10,[.val 3 (.sl .str) .sh, .val 6 (.sl (.sl .str)) (.own 0 .sh)])]}
noncomputable def bzb:List (Nat×Sig):=[(100,gzj),(159,ozQ)]
noncomputable def dzU:(List ByteArray)×Unit→Option (((List (List ByteArray))×Unit)×Unit):=az5.d V bzb
noncomputable abbrev kzK:Sig:=az5.t.sig dzU
noncomputable def dzi:(List ByteArray)× (List ByteArray)×Int×Int×Unit→Option (((List (List ByteArray))×Unit)×Unit):=az5.D V bzb 3
noncomputable def bzy:(List ByteArray)×Unit→Option (((List (List ByteArray))×Unit)×Unit):=az5.D V bzb 7
noncomputable def czQ:(List ByteArray)× (List (List ByteArray))× (List ByteArray)×Int×Unit→Option (((List (List ByteArray))×Unit)×Unit):=az5.D V bzb 13
noncomputable def bzq:(List ByteArray)× (List (List ByteArray))×Unit→Option (((List (List ByteArray))×Unit)×Unit):=az5.D V bzb 10
theorem Azj (x1:(List ByteArray)):dzU (x1,())=dzi (([]:List ByteArray),(x1,((len x1),(0,())))):=(FnD.eq V bzb az5 (x1,())).trans (by kernel_rfl)
theorem pzs (x1:(List ByteArray)) (x2:(List ByteArray)) (x3:Int) (x4:Int):dzi (x1,(x2,(x3,(x4,()))))=cnd (ilt x4 x3) (cnd (inb x4 (len x2)) (bnd (czi ((rd (bs []) x2 x4),())) (fun r4=>(cnd (fits ((len x1)+(len (r4.1.1::([]:List ByteArray)))) 1) (dzi ((app x1 (r4.1.1::([]:List ByteArray))),(x2,(x3,((iadd .i64 x4 1),()))))) none))) none) (bzy (x1,())):=(FnD.eqC V bzb az5 3 (x1,(x2,(x3,(x4,()))))).trans (by kernel_rfl)
theorem pzw (x1:(List ByteArray)):bzy (x1,())=cnd (ieq (len x1) 0) (bnd (czi ((bs []),())) (fun r1=>(cnd (fits ((len x1)+(len (r1.1.1::([]:List ByteArray)))) 1) (bzy ((app x1 (r1.1.1::([]:List ByteArray))),())) none))) (cnd (ine (iand .i64 (len x1) (isub .i64 (len x1) 1)) 0) (bnd (czi ((bs []),())) (fun r1=>(cnd (fits ((len x1)+(len (r1.1.1::([]:List ByteArray)))) 1) (bzy ((app x1 (r1.1.1::([]:List ByteArray))),())) none))) (bzq (x1,((x1::([]:List (List ByteArray))),())))):=(FnD.eqC V bzb az5 7 (x1,())).trans (by kernel_rfl)
theorem nzA (x1:(List ByteArray)) (x2:(List (List ByteArray))) (x3:(List ByteArray)) (x4:Int):czQ (x1,(x2,(x3,(x4,()))))=cnd (ilt x4 (len x1)) (cnd (inb x4 (len x1)) (cnd (inb (iadd .i64 x4 1) (len x1)) (bnd (ezC ((rd (bs []) x1 x4),((rd (bs []) x1 (iadd .i64 x4 1)),()))) (fun r4=>(cnd (fits ((len x3)+(len (r4.1.1::([]:List ByteArray)))) 1) (czQ (x1,(x2,((app x3 (r4.1.1::([]:List ByteArray))),((iadd .i64 x4 2),()))))) none))) none) none) (cnd (fits ((len x2)+(len (x3::([]:List (List ByteArray))))) 1) (bzq (x3,((app x2 (x3::([]:List (List ByteArray)))),()))) none):=(FnD.eqC V bzb az5 13 (x1,(x2,(x3,(x4,()))))).trans (by kernel_rfl)
theorem nzc (x1:(List ByteArray)) (x2:(List (List ByteArray))):bzq (x1,(x2,()))=cnd (igt (len x1) 1) (czQ (x1,(x2,(([]:List ByteArray),(0,()))))) (some ((x2,()),())):=(FnD.eqC V bzb az5 10 (x1,(x2,()))).trans (by kernel_rfl)
theorem qzU:CallsOk Tryz.prog gls gvs 178 kzK:=FnD.ok (F:=az5) (cs:=bzb) V_ok (kC izX (kC wzu kN)) Tryz.func178 (by decide) (by kernel_rfl)
noncomputable def uzl:FnD:={f:=171,fn:=Tryz.f171,ps:=[pa (.sl .str)],rs:=[rt .str]}
noncomputable def Aza:List (Nat×Sig):=[(178,kzK)]
noncomputable def nzm:(List ByteArray)×Unit→Option ((ByteArray×Unit)×Unit):=uzl.d V Aza
noncomputable abbrev vzr:Sig:=uzl.t.sig nzm
theorem Qzt (x1:(List ByteArray)):nzm (x1,())=cnd (igt (len x1) 32) (some (((bs []),()),())) (bnd (dzU (x1,())) (fun r1=>(cnd (inb (isub .i64 (len r1.1.1) 1) (len r1.1.1)) (cnd (inb 0 (len (rd ([]:List ByteArray) r1.1.1 (isub .i64 (len r1.1.1) 1)))) (some (((rd (bs []) (rd ([]:List ByteArray) r1.1.1 (isub .i64 (len r1.1.1) 1)) 0),()),())) none) none))):=(FnD.eq V Aza uzl (x1,())).trans (by kernel_rfl)
theorem BzV:CallsOk Tryz.prog gls gvs 171 vzr:=FnD.ok (F:=uzl) (cs:=Aza) V_ok (kC qzU kN) Tryz.func171 (by decide) (by kernel_rfl)
noncomputable def nzJ:FnD:={f:=170,fn:=Tryz.f170,ps:=[pa czS],rs:=[rt .str]}
noncomputable def tz4:List (Nat×Sig):=[(196,Jz6),(233,DzK),(171,vzr)]
noncomputable def kzT:azO×Unit→Option ((ByteArray×Unit)×Unit):=nzJ.d V tz4
noncomputable abbrev tzX:Sig:=nzJ.t.sig kzT
theorem Kz9 (x1:azO):kzT (x1,())=bnd (wze (x1,())) (fun r1=>(cnd (bnot r1.1.1) (some (((bs []),()),())) (bnd (rzz (x1.1,())) (fun r2=>(bnd (nzm ((r2.1.1::(x1.2.1::(x1.2.2.1::(x1.2.2.2.1::([]:List ByteArray))))),())) (fun r3=>(some ((r3.1.1,()),())))))))):=(FnD.eq V tz4 nzJ (x1,())).trans (by kernel_rfl)
theorem zz7:CallsOk Tryz.prog gls gvs 170 tzX:=FnD.ok (F:=nzJ) (cs:=tz4) V_ok (kC SzK (kC Nz4 (kC BzV kN))) Tryz.func170 (by decide) (by kernel_rfl)
noncomputable def ozi:FnD:={f:=58,fn:=Tryz.f58,ps:=[pa (.int .i64)],rs:=[rt (.int .i64)]}
noncomputable def tzC:List (Nat×Sig):=[]
noncomputable def kzx:Int×Unit→Option ((Int×Unit)×Unit):=ozi.d V tzC
noncomputable abbrev uzc:Sig:=ozi.t.sig kzx
theorem KzU (x1:Int):kzx (x1,())=cnd (nz 8) (some (((iquo .i64 (imax x1 0) 8),()),())) none:=(FnD.eq V tzC ozi (x1,())).trans (by kernel_rfl)
theorem Bzu:CallsOk Tryz.prog gls gvs 58 uzc:=FnD.ok (F:=ozi) (cs:=tzC) V_ok kN Tryz.func58 (by decide) (by kernel_rfl)
noncomputable def azY:FnD:={f:=180,fn:=Tryz.f180,ps:=[pa (.sl bzr)],rs:=[⟨(.sl bzr),(.own 0 .sh),false⟩]}
noncomputable def bzl:List (Nat×Sig):=[]
noncomputable def azZ:(List azl)×Unit→Option (((List azl)×Unit)×Unit):=azY.d V bzl
noncomputable abbrev czb:Sig:=azY.t.sig azZ
theorem fza (x1:(List azl)):azZ (x1,())=cnd (ieq (len x1) 0) (agree (some ((([]:List azl),()),())) (cnd (fits ((len ([]:List azl))+(len x1)) 2) (some (((app ([]:List azl) x1),()),())) none)) (cnd (fits ((len ([]:List azl))+(len x1)) 2) (some (((app ([]:List azl) x1),()),())) none):=(FnD.eq V bzl azY (x1,())).trans (by kernel_rfl)
theorem ezT:CallsOk Tryz.prog gls gvs 180 czb:=FnD.ok (F:=azY) (cs:=bzl) V_ok kN Tryz.func180 (by decide) (by kernel_rfl)
noncomputable def czT:FnD:={f:=109,fn:=Tryz.f109,ps:=[pa (.sl azu)],rs:=[⟨(.sl azu),(.own 0 (.pr .sh (.pr .sh (.pr .sh (.pr (.own 0 .sh) .sh))))),false⟩],cuts:=[(3,[.val 3 (.sl azu) (.own 0 (.pr .sh (.pr .sh (.pr .sh (.pr (.own 0 .sh) .sh))))), .val 6 (.sl azu) .sh, .val 7 (.int .i64) .sh, .val 8 (.int .i64) .sh])]}
noncomputable def dz7:List (Nat×Sig):=[(180,czb)]
noncomputable def gzl:(List azd)×Unit→Option (((List azd)×Unit)×Unit):=czT.d V dz7
noncomputable abbrev pz6:Sig:=czT.t.sig gzl
noncomputable def fzd:(List azd)× (List azd)×Int×Int×Unit→Option (((List azd)×Unit)×Unit):=czT.D V dz7 3
theorem AzX (x1:(List azd)):gzl (x1,())=fzd (([]:List azd),(x1,((len x1),(0,())))):=(FnD.eq V dz7 czT (x1,())).trans (by kernel_rfl)
theorem pzp (x1:(List azd)) (x2:(List azd)) (x3:Int) (x4:Int):fzd (x1,(x2,(x3,(x4,()))))=cnd (ilt x4 x3) (cnd (inb x4 (len x2)) (bnd (azZ ((rd azg x2 x4).2.2.2.1,())) (fun r4=>(cnd (fits ((len x1)+(len (((rd azg x2 x4).1,((rd azg x2 x4).2.1,((rd azg x2 x4).2.2.1,(r4.1.1,(rd azg x2 x4).2.2.2.2))))::([]:List azd)))) 4) (fzd ((app x1 (((rd azg x2 x4).1,((rd azg x2 x4).2.1,((rd azg x2 x4).2.2.1,(r4.1.1,(rd azg x2 x4).2.2.2.2))))::([]:List azd))),(x2,(x3,((iadd .i64 x4 1),()))))) none))) none) (some ((x1,()),())):=(FnD.eqC V dz7 czT 3 (x1,(x2,(x3,(x4,()))))).trans (by kernel_rfl)
theorem Bzs:CallsOk Tryz.prog gls gvs 109 pz6:=FnD.ok (F:=czT) (cs:=dz7) V_ok (kC ezT kN) Tryz.func109 (by decide) (by kernel_rfl)
noncomputable def czy:FnD:={f:=61,fn:=Tryz.f61,ps:=[pa bzY,pa (.int .i64)],rs:=[⟨(.sl azu),(.own 0 (.pr .sh (.pr .sh (.pr .sh (.pr (.own 0 .sh) .sh))))),false⟩],cuts:=[(5,[.val 1 (.int .i64) .sh, .val 5 (.sl azu) (.own 0 (.pr .sh (.pr .sh (.pr .sh (.pr (.own 0 .sh) .sh))))), .val 15 (.int .i64) .sh, .val 16 (.int .i64) .sh])]}
noncomputable def dzg:List (Nat×Sig):=[(109,pz6)]
noncomputable def dzs:azH×Int×Unit→Option (((List azd)×Unit)×Unit):=czy.d V dzg
noncomputable abbrev jzc:Sig:=czy.t.sig dzs
noncomputable def bzH:Int× (List azd)×Int×Int×Unit→Option (((List azd)×Unit)×Unit):=czy.D V dzg 5
theorem zzj (x1:azH) (x2:Int):dzs (x1,(x2,()))=bnd (gzl (x1.2.1,())) (fun r2=>(cnd (ilt x2 1) (some ((r2.1.1,()),())) (bzH (x2,(r2.1.1,((len r2.1.1),(0,()))))))):=(FnD.eq V dzg czy (x1,(x2,()))).trans (by kernel_rfl)
theorem nzx (x1:Int) (x2:(List azd)) (x3:Int) (x4:Int):bzH (x1,(x2,(x3,(x4,()))))=cnd (ilt x4 x3) (cnd (inb x4 (len x2)) (cnd (ige (rd azg x2 x4).2.1 0) (cnd (igt x1 (isub .i64 1000 (imin (rd azg x2 x4).2.1 1000))) (bzH (x1,((upd x2 x4 ((rd azg x2 x4).1,(1000,(rd azg x2 x4).2.2))),(x3,((iadd .i64 x4 1),()))))) (bzH (x1,((upd x2 x4 ((rd azg x2 x4).1,((imin (iadd .i64 (rd azg x2 x4).2.1 x1) 1000),(rd azg x2 x4).2.2))),(x3,((iadd .i64 x4 1),())))))) (bzH (x1,((upd x2 x4 ((rd azg x2 x4).1,((imin (iadd .i64 (rd azg x2 x4).2.1 x1) 1000),(rd azg x2 x4).2.2))),(x3,((iadd .i64 x4 1),())))))) none) (some ((x2,()),())):=(FnD.eqC V dzg czy 5 (x1,(x2,(x3,(x4,()))))).trans (by kernel_rfl)
theorem pzm:CallsOk Tryz.prog gls gvs 61 jzc:=FnD.ok (F:=czy) (cs:=dzg) V_ok (kC Bzs kN) Tryz.func61 (by decide) (by kernel_rfl)
noncomputable def uz4:FnD:={f:=103,fn:=Tryz.f103,ps:=[pa bzY,pa (.int .i64)],rs:=[rt (.int .i64)]}
noncomputable def Azp:List (Nat×Sig):=[]
noncomputable def AzN:azH×Int×Unit→Option ((Int×Unit)×Unit):=uz4.d V Azp
noncomputable abbrev Hzp:Sig:=uz4.t.sig AzN
theorem QzY (x1:azH) (x2:Int):AzN (x1,(x2,()))=cnd (nz 1000) (cnd (nz 1000) (some (((iadd .i64 (irem x1.1 1000) (imul .i64 13 (irem x2 1000))),()),())) none) none:=(FnD.eq V Azp uz4 (x1,(x2,()))).trans (by kernel_rfl)
theorem Szv:CallsOk Tryz.prog gls gvs 103 Hzp:=FnD.ok (F:=uz4) (cs:=Azp) V_ok kN Tryz.func103 (by decide) (by kernel_rfl)
end Go.Proofs.YthldgfkkgmpmlaaGreatDoor
