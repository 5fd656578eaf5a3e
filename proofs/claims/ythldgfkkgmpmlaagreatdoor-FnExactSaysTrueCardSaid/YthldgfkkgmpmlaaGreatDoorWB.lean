/- What is measured, copied, compared, marked and held: printed by program. Of no condition. -/
import Derived.Test.YthldgfkkgmpmlaaGreatDoorWA
set_option linter.unusedVariables false
set_option linter.unusedSimpArgs false
set_option maxRecDepth 100000
namespace Go.Proofs.YthldgfkkgmpmlaaGreatDoor
open Go.TV
theorem PzC:SzOk bzr uzk:=by
 intro x n hg h0 hn
 rw[Tzv]
 repeat' first
  |exact qzZ h0 (by repeat' (first|exact trivial|assumption|refine And.intro ?_ ?_))
  | (refine pzD (by first|exact hg.1|exact hg.2.1|exact hg.2.2.1|exact hg.2.2.2.1|exact hg.2.2.2.2.1|exact hg.2.2.2.2.2.1|exact hg.2.2.2.2.2.2.1|exact hg.2.2.2.2.2.2.2.1|exact hg.2.2.2.2.2.2.2.2.1) h0 hn fun m hm h0 _ hn hs=>?_;subst hm;try dsimp only)
theorem LzM:SzOk (.sl bzr) szk:=(FzD (z:=bzd) PzC (fun x=>Lzs x.1 x.2.1 x.2.2.1)).congr fun x n=>Pz7 x n
theorem FzB:SzOk azu lzZ:=by
 intro x n hg h0 hn
 rw[HzL]
 repeat' first
  |exact qzZ h0 (by repeat' (first|exact trivial|assumption|refine And.intro ?_ ?_))
  | (refine pzD (by first|exact hg.1|exact hg.2.1|exact hg.2.2.1|exact hg.2.2.2.1|exact hg.2.2.2.2.1|exact hg.2.2.2.2.2.1|exact hg.2.2.2.2.2.2.1|exact hg.2.2.2.2.2.2.2.1|exact hg.2.2.2.2.2.2.2.2.1) h0 hn fun m hm h0 _ hn hs=>?_;subst hm;try dsimp only)
  | (refine szA LzM (by first|exact hg.1|exact hg.2.1|exact hg.2.2.1|exact hg.2.2.2.1|exact hg.2.2.2.2.1|exact hg.2.2.2.2.2.1|exact hg.2.2.2.2.2.2.1|exact hg.2.2.2.2.2.2.2.1|exact hg.2.2.2.2.2.2.2.2.1) h0 hn fun m h0 _ hn hs=>?_;try dsimp only)
theorem CzF:SzOk (.sl azu) jzk:=(FzD (z:=azg) FzB (fun x=>CzI x.1 x.2.1 x.2.2.1)).congr fun x n=>FzY x n
theorem LzT:SzOk bzY rzZ:=by
 intro x n hg h0 hn
 rw[Pzo]
 repeat' first
  |exact qzZ h0 (by repeat' (first|exact trivial|assumption|refine And.intro ?_ ?_))
  | (refine pzD (by first|exact hg.1|exact hg.2.1|exact hg.2.2.1|exact hg.2.2.2.1|exact hg.2.2.2.2.1|exact hg.2.2.2.2.2.1|exact hg.2.2.2.2.2.2.1|exact hg.2.2.2.2.2.2.2.1|exact hg.2.2.2.2.2.2.2.2.1) h0 hn fun m hm h0 _ hn hs=>?_;subst hm;try dsimp only)
  | (refine szA CzF (by first|exact hg.1|exact hg.2.1|exact hg.2.2.1|exact hg.2.2.2.1|exact hg.2.2.2.2.1|exact hg.2.2.2.2.2.1|exact hg.2.2.2.2.2.2.1|exact hg.2.2.2.2.2.2.2.1|exact hg.2.2.2.2.2.2.2.2.1) h0 hn fun m h0 _ hn hs=>?_;try dsimp only)
theorem pzX:SzOk (.sl azJ) cz5:=(VzE (t:=azJ) (fun x=>by repeat' first|exact trivial|constructor)).congr fun x n=>KzQ x n
theorem Ezy:SzOk Dzl qzP:=by
 intro x n hg h0 hn
 rw[SzI]
 repeat' first
  |exact qzZ h0 (by repeat' (first|exact trivial|assumption|refine And.intro ?_ ?_))
  | (refine pzD (by first|exact hg.1|exact hg.2.1|exact hg.2.2.1|exact hg.2.2.2.1|exact hg.2.2.2.2.1|exact hg.2.2.2.2.2.1|exact hg.2.2.2.2.2.2.1|exact hg.2.2.2.2.2.2.2.1|exact hg.2.2.2.2.2.2.2.2.1) h0 hn fun m hm h0 _ hn hs=>?_;subst hm;try dsimp only)
  | (refine szA pzX (by first|exact hg.1|exact hg.2.1|exact hg.2.2.1|exact hg.2.2.2.1|exact hg.2.2.2.2.1|exact hg.2.2.2.2.2.1|exact hg.2.2.2.2.2.2.1|exact hg.2.2.2.2.2.2.2.1|exact hg.2.2.2.2.2.2.2.2.1) h0 hn fun m h0 _ hn hs=>?_;try dsimp only)
theorem LzV:SzOk uzI szm:=by
 intro x n hg h0 hn
 rw[Oz4]
 repeat' first
  |exact qzZ h0 (by repeat' (first|exact trivial|assumption|refine And.intro ?_ ?_))
  | (refine pzD (by first|exact hg.1|exact hg.2.1|exact hg.2.2.1|exact hg.2.2.2.1|exact hg.2.2.2.2.1|exact hg.2.2.2.2.2.1|exact hg.2.2.2.2.2.2.1|exact hg.2.2.2.2.2.2.2.1|exact hg.2.2.2.2.2.2.2.2.1) h0 hn fun m hm h0 _ hn hs=>?_;subst hm;try dsimp only)
  | (refine szA Ezy (by first|exact hg.1|exact hg.2.1|exact hg.2.2.1|exact hg.2.2.2.1|exact hg.2.2.2.2.1|exact hg.2.2.2.2.2.1|exact hg.2.2.2.2.2.2.1|exact hg.2.2.2.2.2.2.2.1|exact hg.2.2.2.2.2.2.2.2.1) h0 hn fun m h0 _ hn hs=>?_;try dsimp only)
  | (refine szA pzX (by first|exact hg.1|exact hg.2.1|exact hg.2.2.1|exact hg.2.2.2.1|exact hg.2.2.2.2.1|exact hg.2.2.2.2.2.1|exact hg.2.2.2.2.2.2.1|exact hg.2.2.2.2.2.2.2.1|exact hg.2.2.2.2.2.2.2.2.1) h0 hn fun m h0 _ hn hs=>?_;try dsimp only)
theorem Qzb:SzOk czS vzy:=by
 intro x n hg h0 hn
 rw[TzN]
 repeat' first
  |exact qzZ h0 (by repeat' (first|exact trivial|assumption|refine And.intro ?_ ?_))
  | (refine pzD (by first|exact hg.1|exact hg.2.1|exact hg.2.2.1|exact hg.2.2.2.1|exact hg.2.2.2.2.1|exact hg.2.2.2.2.2.1|exact hg.2.2.2.2.2.2.1|exact hg.2.2.2.2.2.2.2.1|exact hg.2.2.2.2.2.2.2.2.1) h0 hn fun m hm h0 _ hn hs=>?_;subst hm;try dsimp only)
theorem Azi:SzOk azp ezR:=by
 intro x n hg h0 hn
 rw[Cz0]
 repeat' first
  |exact qzZ h0 (by repeat' (first|exact trivial|assumption|refine And.intro ?_ ?_))
  | (refine pzD (by first|exact hg.1|exact hg.2.1|exact hg.2.2.1|exact hg.2.2.2.1|exact hg.2.2.2.2.1|exact hg.2.2.2.2.2.1|exact hg.2.2.2.2.2.2.1|exact hg.2.2.2.2.2.2.2.1|exact hg.2.2.2.2.2.2.2.2.1) h0 hn fun m hm h0 _ hn hs=>?_;subst hm;try dsimp only)
  | (refine szA pzX (by first|exact hg.1|exact hg.2.1|exact hg.2.2.1|exact hg.2.2.2.1|exact hg.2.2.2.2.1|exact hg.2.2.2.2.2.1|exact hg.2.2.2.2.2.2.1|exact hg.2.2.2.2.2.2.2.1|exact hg.2.2.2.2.2.2.2.2.1) h0 hn fun m h0 _ hn hs=>?_;try dsimp only)
theorem JzQ:SzOk mze kz7:=by
 intro x n hg h0 hn
 rw[KzE]
 repeat' first
  |exact qzZ h0 (by repeat' (first|exact trivial|assumption|refine And.intro ?_ ?_))
  | (refine pzD (by first|exact hg.1|exact hg.2.1|exact hg.2.2.1|exact hg.2.2.2.1|exact hg.2.2.2.2.1|exact hg.2.2.2.2.2.1|exact hg.2.2.2.2.2.2.1|exact hg.2.2.2.2.2.2.2.1|exact hg.2.2.2.2.2.2.2.2.1) h0 hn fun m hm h0 _ hn hs=>?_;subst hm;try dsimp only)
  | (refine szA Qzb (by first|exact hg.1|exact hg.2.1|exact hg.2.2.1|exact hg.2.2.2.1|exact hg.2.2.2.2.1|exact hg.2.2.2.2.2.1|exact hg.2.2.2.2.2.2.1|exact hg.2.2.2.2.2.2.2.1|exact hg.2.2.2.2.2.2.2.2.1) h0 hn fun m h0 _ hn hs=>?_;try dsimp only)
  | (refine szA Azi (by first|exact hg.1|exact hg.2.1|exact hg.2.2.1|exact hg.2.2.2.1|exact hg.2.2.2.2.1|exact hg.2.2.2.2.2.1|exact hg.2.2.2.2.2.2.1|exact hg.2.2.2.2.2.2.2.1|exact hg.2.2.2.2.2.2.2.2.1) h0 hn fun m h0 _ hn hs=>?_;try dsimp only)
  | (refine szA Ezy (by first|exact hg.1|exact hg.2.1|exact hg.2.2.1|exact hg.2.2.2.1|exact hg.2.2.2.2.1|exact hg.2.2.2.2.2.1|exact hg.2.2.2.2.2.2.1|exact hg.2.2.2.2.2.2.2.1|exact hg.2.2.2.2.2.2.2.2.1) h0 hn fun m h0 _ hn hs=>?_;try dsimp only)
theorem Jzl:SzOk kzO ozY:=by
 intro x n hg h0 hn
 rw[Mzh]
 repeat' first
  |exact qzZ h0 (by repeat' (first|exact trivial|assumption|refine And.intro ?_ ?_))
  | (refine pzD (by first|exact hg.1|exact hg.2.1|exact hg.2.2.1|exact hg.2.2.2.1|exact hg.2.2.2.2.1|exact hg.2.2.2.2.2.1|exact hg.2.2.2.2.2.2.1|exact hg.2.2.2.2.2.2.2.1|exact hg.2.2.2.2.2.2.2.2.1) h0 hn fun m hm h0 _ hn hs=>?_;subst hm;try dsimp only)
  | (refine szA JzQ (by first|exact hg.1|exact hg.2.1|exact hg.2.2.1|exact hg.2.2.2.1|exact hg.2.2.2.2.1|exact hg.2.2.2.2.2.1|exact hg.2.2.2.2.2.2.1|exact hg.2.2.2.2.2.2.2.1|exact hg.2.2.2.2.2.2.2.2.1) h0 hn fun m h0 _ hn hs=>?_;try dsimp only)
  | (refine szA wzz (by first|exact hg.1|exact hg.2.1|exact hg.2.2.1|exact hg.2.2.2.1|exact hg.2.2.2.2.1|exact hg.2.2.2.2.2.1|exact hg.2.2.2.2.2.2.1|exact hg.2.2.2.2.2.2.2.1|exact hg.2.2.2.2.2.2.2.2.1) h0 hn fun m h0 _ hn hs=>?_;try dsimp only)
theorem LzA:SzOk gzp rzu:=by
 intro x n hg h0 hn
 rw[Ozg]
 repeat' first
  |exact qzZ h0 (by repeat' (first|exact trivial|assumption|refine And.intro ?_ ?_))
  | (refine pzD (by first|exact hg.1|exact hg.2.1|exact hg.2.2.1|exact hg.2.2.2.1|exact hg.2.2.2.2.1|exact hg.2.2.2.2.2.1|exact hg.2.2.2.2.2.2.1|exact hg.2.2.2.2.2.2.2.1|exact hg.2.2.2.2.2.2.2.2.1) h0 hn fun m hm h0 _ hn hs=>?_;subst hm;try dsimp only)
  | (refine szA LzT (by first|exact hg.1|exact hg.2.1|exact hg.2.2.1|exact hg.2.2.2.1|exact hg.2.2.2.2.1|exact hg.2.2.2.2.2.1|exact hg.2.2.2.2.2.2.1|exact hg.2.2.2.2.2.2.2.1|exact hg.2.2.2.2.2.2.2.2.1) h0 hn fun m h0 _ hn hs=>?_;try dsimp only)
  | (refine szA LzV (by first|exact hg.1|exact hg.2.1|exact hg.2.2.1|exact hg.2.2.2.1|exact hg.2.2.2.2.1|exact hg.2.2.2.2.2.1|exact hg.2.2.2.2.2.2.1|exact hg.2.2.2.2.2.2.2.1|exact hg.2.2.2.2.2.2.2.2.1) h0 hn fun m h0 _ hn hs=>?_;try dsimp only)
  | (refine szA Jzl (by first|exact hg.1|exact hg.2.1|exact hg.2.2.1|exact hg.2.2.2.1|exact hg.2.2.2.2.1|exact hg.2.2.2.2.2.1|exact hg.2.2.2.2.2.2.1|exact hg.2.2.2.2.2.2.2.1|exact hg.2.2.2.2.2.2.2.2.1) h0 hn fun m h0 _ hn hs=>?_;try dsimp only)
  | (refine szA Pzr (by first|exact hg.1|exact hg.2.1|exact hg.2.2.1|exact hg.2.2.2.1|exact hg.2.2.2.2.1|exact hg.2.2.2.2.2.1|exact hg.2.2.2.2.2.2.1|exact hg.2.2.2.2.2.2.2.1|exact hg.2.2.2.2.2.2.2.2.1) h0 hn fun m h0 _ hn hs=>?_;try dsimp only)
  | (refine szA wzz (by first|exact hg.1|exact hg.2.1|exact hg.2.2.1|exact hg.2.2.2.1|exact hg.2.2.2.2.1|exact hg.2.2.2.2.2.1|exact hg.2.2.2.2.2.2.1|exact hg.2.2.2.2.2.2.2.1|exact hg.2.2.2.2.2.2.2.2.1) h0 hn fun m h0 _ hn hs=>?_;try dsimp only)
theorem Pz8:ToOk bzr uzW:=by
 intro x hg
 exact RzG x
theorem KzV:ToOk (.sl bzr) rzG:=(uzG (z:=bzd) Pz8 (fun x=>Kzm x.1 x.2.1 x.2.2.1) (q:=2) (by decide)).congr fun x=>Ozd x
theorem Gzs:ToOk azu lzz:=by
 intro x hg
 have e0:=KzV x.2.2.2.1 hg.2.2.2.1
 rw[Hze]
 simp only[bnd,Option.bind_some,e0]
 try rfl
theorem Czu:ToOk (.sl azu) jzl:=(uzG (z:=azg) Gzs (fun x=>CzK x.1 x.2.1 x.2.2.1) (q:=4) (by decide)).congr fun x=>FzU x
theorem LzF:ToOk bzY rz3:=by
 intro x hg
 have e0:=Czu x.2.1 hg.2.1
 rw[Ozn]
 simp only[bnd,Option.bind_some,e0]
 try rfl
theorem kzI:ToOk azJ fzV:=by
 intro x hg
 exact OzL x
theorem gza:ToOk (.sl azJ) cz6:=(uzG (z:=fzy) kzI (fun x=>Hzw x.1 x.2.1 x.2.2.1) (q:=3) (by decide)).congr fun x=>Kz2 x
theorem Dz4:ToOk Dzl qzY:=by
 intro x hg
 have e0:=kzI x.1 hg.1
 have e1:=kzI x.2.1 hg.2.1
 have e2:=kzI x.2.2.1 hg.2.2.1
 have e3:=kzI x.2.2.2.1 hg.2.2.2.1
 have e4:=gza x.2.2.2.2.1 hg.2.2.2.2.1
 rw[Qzd]
 simp only[bnd,Option.bind_some,e0,e1,e2,e3,e4]
 try rfl
theorem KzW:ToOk uzI rzv:=by
 intro x hg
 have e0:=Dz4 x.1 hg.1
 have e1:=gza x.2.1 hg.2.1
 have e2:=gza x.2.2.1 hg.2.2.1
 have e3:=gza x.2.2.2.1 hg.2.2.2.1
 have e4:=gza x.2.2.2.2.1 hg.2.2.2.2.1
 rw[OzV]
 simp only[bnd,Option.bind_some,e0,e1,e2,e3,e4]
 try rfl
theorem OzH:ToOk czS vz6:=by
 intro x hg
 exact Rzq x
theorem pz0:ToOk azp ezW:=by
 intro x hg
 have e0:=gza x.1 hg.1
 rw[CzV]
 simp only[bnd,Option.bind_some,e0]
 try rfl
theorem xz2:ToOk mze kz0:=by
 intro x hg
 have e0:=OzH x.1 hg.1
 have e1:=pz0 x.2.1 hg.2.1
 have e2:=pz0 x.2.2.1 hg.2.2.1
 have e3:=Dz4 x.2.2.2.2.1 hg.2.2.2.2.1
 rw[LzW]
 simp only[bnd,Option.bind_some,e0,e1,e2,e3]
 try rfl
theorem vzu:ToOk (.sl .str) izT:=(uzG (t:= .str) (z:=(bs [])) (fe:=fun x=>some ((x.1,()),())) (fun x _=>rfl) (fun x=>Fzk x.1 x.2.1 x.2.2.1) (q:=1) (by decide)).congr fun x=>Jzq x
theorem Izp:ToOk kzO nzI:=by
 intro x hg
 have e0:=xz2 x.1 hg.1
 have e1:=xz2 x.2.1 hg.2.1
 have e2:=vzu x.2.2.2.2.1 hg.2.2.2.2.1
 rw[Kz8]
 simp only[bnd,Option.bind_some,e0,e1,e2]
 try rfl
theorem Nz3:ToOk (.sl (.int .i64)) uzm:=(uzG (t:=(.int .i64)) (z:=(0:Int)) (fe:=fun x=>some ((x.1,()),())) (fun x _=>rfl) (fun x=>Oz6 x.1 x.2.1 x.2.2.1) (q:=1) (by decide)).congr fun x=>Qzh x
theorem KzR:ToOk gzp jzR:=by
 intro x hg
 have e0:=LzF x.1 hg.1
 have e1:=KzW x.2.1 hg.2.1
 have e2:=Izp x.2.2.1 hg.2.2.1
 have e3:=Nz3 x.2.2.2.1 hg.2.2.2.1
 have e4:=vzu x.2.2.2.2.1 hg.2.2.2.2.1
 rw[Pzq]
 simp only[bnd,Option.bind_some,e0,e1,e2,e3,e4]
 try rfl
theorem OzE:EqOk bzr uzz:=by
 intro x hg
 rw[SzB]
 simp only[bnd,Option.bind_some,cnd,cond_true,cond_false,ezl,ezu,dzo,bnot,Bool.not_true]
theorem Lzg:EqOk (.sl bzr) rzV:=(wzv (z:=bzd) OzE (fun x=>KzB x.1 x.2.1 x.2.2.1)).congr fun x y=>Pz9 x y
theorem FzX:EqOk azu lzY:=by
 intro x hg
 have e0:=Lzg x.2.2.2.1 hg.2.2.2.1
 rw[Jzj]
 simp only[bnd,Option.bind_some,cnd,cond_true,cond_false,ezl,ezu,dzo,bnot,Bool.not_true,e0]
theorem CzE:EqOk (.sl azu) jzH:=(wzv (z:=azg) FzX (fun x=>CzC x.1 x.2.1 x.2.2.1)).congr fun x y=>GzW x y
theorem LzR:EqOk bzY szs:=by
 intro x hg
 have e0:=CzE x.2.1 hg.2.1
 rw[PzH]
 simp only[bnd,Option.bind_some,cnd,cond_true,cond_false,ezl,ezu,dzo,bnot,Bool.not_true,e0]
theorem kzu:EqOk azJ fzL:=by
 intro x hg
 rw[Oz0]
 simp only[bnd,Option.bind_some,cnd,cond_true,cond_false,ezl,ezu,dzo,bnot,Bool.not_true]
theorem fz9:EqOk (.sl azJ) cz2:=(wzv (z:=fzy) kzu (fun x=>Hzi x.1 x.2.1 x.2.2.1)).congr fun x y=>Lzx x y
theorem Ez2:EqOk Dzl pz3:=by
 intro x hg
 have e0:=kzu x.1 hg.1
 have e1:=kzu x.2.1 hg.2.1
 have e2:=kzu x.2.2.1 hg.2.2.1
 have e3:=kzu x.2.2.2.1 hg.2.2.2.1
 have e4:=fz9 x.2.2.2.2.1 hg.2.2.2.2.1
 rw[Qzr]
 simp only[bnd,Option.bind_some,cnd,cond_true,cond_false,ezl,ezu,dzo,bnot,Bool.not_true,e0,e1,e2,e3,e4]
theorem KzZ:EqOk uzI rzy:=by
 intro x hg
 have e0:=Ez2 x.1 hg.1
 have e1:=fz9 x.2.1 hg.2.1
 have e2:=fz9 x.2.2.1 hg.2.2.1
 have e3:=fz9 x.2.2.2.1 hg.2.2.2.1
 have e4:=fz9 x.2.2.2.2.1 hg.2.2.2.2.1
 rw[Pzm]
 simp only[bnd,Option.bind_some,cnd,cond_true,cond_false,ezl,ezu,dzo,bnot,Bool.not_true,e0,e1,e2,e3,e4]
theorem OzZ:EqOk czS uzP:=by
 intro x hg
 rw[Qzk]
 simp only[bnd,Option.bind_some,cnd,cond_true,cond_false,ezl,ezu,dzo,bnot,Bool.not_true]
theorem qzv:EqOk azp ez2:=by
 intro x hg
 have e0:=fz9 x.1 hg.1
 rw[Czx]
 simp only[bnd,Option.bind_some,cnd,cond_true,cond_false,ezl,ezu,dzo,bnot,Bool.not_true,e0]
theorem yza:EqOk mze kzw:=by
 intro x hg
 have e0:=OzZ x.1 hg.1
 have e1:=qzv x.2.1 hg.2.1
 have e2:=qzv x.2.2.1 hg.2.2.1
 have e3:=Ez2 x.2.2.2.2.1 hg.2.2.2.2.1
 rw[KzA]
 simp only[bnd,Option.bind_some,cnd,cond_true,cond_false,ezl,ezu,dzo,bnot,Bool.not_true,e0,e1,e2,e3]
theorem HzX:EqOk kzO ozq:=by
 intro x hg
 have e0:=yza x.1 hg.1
 have e1:=yza x.2.1 hg.2.1
 have e2:=uzo x.2.2.2.2.1 hg.2.2.2.2.1
 rw[Kzn]
 simp only[bnd,Option.bind_some,cnd,cond_true,cond_false,ezl,ezu,dzo,bnot,Bool.not_true,e0,e1,e2]
theorem KzX:EqOk gzp rzH:=by
 intro x hg
 have e0:=LzR x.1 hg.1
 have e1:=KzZ x.2.1 hg.2.1
 have e2:=HzX x.2.2.1 hg.2.2.1
 have e3:=Pzy x.2.2.2.1 hg.2.2.2.1
 have e4:=uzo x.2.2.2.2.1 hg.2.2.2.2.1
 rw[Qza]
 simp only[bnd,Option.bind_some,cnd,cond_true,cond_false,ezl,ezu,dzo,bnot,Bool.not_true,e0,e1,e2,e3,e4]
end Go.Proofs.YthldgfkkgmpmlaaGreatDoor
