/- Digests: one round, all rounds, as the program does them and as the document does. Of no condition. -/
import Derived.Test.YtdfbhjpmdjmdaaaGreatDoorKA
set_option linter.unusedVariables false
set_option linter.unusedSimpArgs false
set_option maxRecDepth 100000
namespace Go.Proofs.YtdfbhjpmdjmdaaaGreatDoor
open Go.TV
theorem ilt5 {i:Nat} (h:i<5):ilt (i:Int) 5=true:=bzW (by omega)
theorem inb5 {i:Nat} (h:i<5):inb (i:Int) 5=true:=bzI (by omega) (by omega)
theorem izm {i:Nat} (h:i<25):inb (i:Int) 25=true:=bzI (by omega) (by omega)
theorem xa5 {x:Nat} (h:x<5):iadd .i64 (x:Int) 5=((x+5:Nat):Int):=xa (k:=5) h (by omega)
theorem xa10 {x:Nat} (h:x<5):iadd .i64 (x:Int) 10=((x+10:Nat):Int):=xa (k:=10) h (by omega)
theorem xa15 {x:Nat} (h:x<5):iadd .i64 (x:Int) 15=((x+15:Nat):Int):=xa (k:=15) h (by omega)
theorem xa20 {x:Nat} (h:x<5):iadd .i64 (x:Int) 20=((x+20:Nat):Int):=xa (k:=20) h (by omega)
theorem xm1 {x:Nat} (h:x<5):irem (iadd .i64 (x:Int) 1) 5=(((x+1) % 5:Nat):Int):=xm (k:=1) h (by omega)
theorem xm2 {x:Nat} (h:x<5):irem (iadd .i64 (x:Int) 2) 5=(((x+2) % 5:Nat):Int):=xm (k:=2) h (by omega)
theorem xm4 {x:Nat} (h:x<5):irem (iadd .i64 (x:Int) 4) 5=(((x+4) % 5:Nat):Int):=xm (k:=4) h (by omega)
theorem x5m1 {x y:Nat} (hx:x<5) (hy:y<5):iadd .i64 (((x+1) % 5:Nat):Int) (imul .i64 5 (y:Int))=(((x+1) % 5+5*y:Nat):Int):=x5 (Nat.mod_lt _ (by omega)) hy
theorem x5m2 {x y:Nat} (hx:x<5) (hy:y<5):iadd .i64 (((x+2) % 5:Nat):Int) (imul .i64 5 (y:Int))=(((x+2) % 5+5*y:Nat):Int):=x5 (Nat.mod_lt _ (by omega)) hy
def xzI (t:List Int):Prop:= ∀n:Nat,n<25→0≤rd 0 t (n:Int)∧rd 0 t (n:Int)<64
section impl
variable (n:Int) (s c b:List Int)
theorem NzV:czq (n,(0,(s,([0,0,0,0,0],()))))=czq (n,(5,(s,(cOf s,())))):=
 (bz8 (D:=czq) (st:=fun i c=>(n,((i:Int),(s,(c,()))))) (n:=5) (P:=fun _=>True) (step:=QzL s) (fun i c h _=>by
  refine ⟨?_,trivial⟩
  rw[nzD]
  simp only[ilt5 h,xa5 h,xa10 h,xa15 h,xa20 h,izm (i:=i) (by omega),izm (i:=i+5) (by omega),izm (i:=i+10) (by omega),izm (i:=i+15) (by omega),izm (i:=i+20) (by omega),inb5 h,aza,nx (i:=i) (by omega)]
  rfl) 5 0 _ rfl trivial).1
theorem Nz3 (ht:xzI az5):czp (n,(0,(s,(c,(vze,())))))=czp (n,(5,(s,(c,(bI (bV az5 s c),()))))):=
 (bz8 (D:=czp) (st:=fun y b=>(n,((y:Int),(s,(c,(b,())))))) (n:=5) (P:=fun _=>True) (step:=fun y b=>iter (fun x b=>Cz8 (bV az5 s c) x y b) 5 0 b) (fun y b hy _=>by
  refine ⟨?_,trivial⟩
  rw[nzL,ilt5 hy,aza]
  refine (bz8 (D:=ezg) (st:=fun x b=>(n,((y:Int),((y:Int),((x:Int),(s,(c,(b,())))))))) (n:=5) (P:=fun _=>True) (step:=fun x b=>Cz8 (bV az5 s c) x y b) (fun x b hx _=>by
   refine ⟨?_,trivial⟩
   obtain ⟨t0,t1⟩:=ht (x+5*y) (by omega)
   rw[lzY]
   simp only[ilt5 hx,nz5,xm4 hx,xm1 hx,inb5 (Nat.mod_lt (x+4) (show 5>0 by omega)),inb5 (Nat.mod_lt (x+1) (show 5>0 by omega)),aza]
   rw[PzD _ 1 (by omega) (by omega),azd]
   simp only[x5 hx hy,izm (i:=x+5*y) (by omega),aza]
   rw[PzD _ _ t0 t1,azd,xb hx hy,izm (by have:=Nat.mod_lt (2*x+3*y) (show 5>0 by omega);omega),aza,nx (by omega)]
   rfl) 5 0 _ rfl trivial).1.trans ?_
  rw[lzY,az7 (by omega),azc,nx (by omega)]) 5 0 _ rfl trivial).1
theorem NzQ:czc (n,(0,(s,(b,()))))=czc (n,(5,(aOf b s,(b,())))):=
 (bz8 (D:=czc) (st:=fun y a=>(n,((y:Int),(a,(b,()))))) (n:=5) (P:=fun _=>True) (step:=fun y a=>iter (fun x a=>upd a ((x+5*y:Nat):Int) (aV b x y)) 5 0 a) (fun y a hy _=>by
  refine ⟨?_,trivial⟩
  rw[lzB,ilt5 hy,aza]
  refine (bz8 (D:=dz6) (st:=fun x a=>(n,((y:Int),((y:Int),((x:Int),(a,(b,()))))))) (n:=5) (P:=fun _=>True) (step:=fun x a=>upd a ((x+5*y:Nat):Int) (aV b x y)) (fun x a hx _=>by
   refine ⟨?_,trivial⟩
   have m1:=Nat.mod_lt (x+1) (show 5>0 by omega)
   have m2:=Nat.mod_lt (x+2) (show 5>0 by omega)
   rw[lzz]
   simp only[ilt5 hx,nz5,xm1 hx,xm2 hx,x5 hx hy,x5m1 hx hy,x5m2 hx hy,izm (i:=x+5*y) (by omega),izm (i:=(x+1) % 5+5*y) (by omega),izm (i:=(x+2) % 5+5*y) (by omega),aza]
   rw[nx (i:=x) (by omega)]
   rfl) 5 0 _ rfl trivial).1.trans ?_
  rw[lzz,az7 (by omega),azc,nx (by omega)]) 5 0 _ rfl trivial).1
end impl
theorem OzT (s:List Int) (n:Nat) (hn:n<24) (ht:xzI az5):fzN (s,((n:Int),()))=some ((),(xzW az5 s (rd 0 azU (n:Int)),())):=by
 rw[wzK,NzV,nzD,az7 (by omega),azc]
 refine (Nz3 _ _ _ ht).trans ?_
 rw[nzL,az7 (by omega),azc,NzQ,lzB,az7 (by omega),azc,show inb (0:Int) 25=true from rfl,aza,bzI (by omega) (by omega),aza,aza]
 rfl
section spec
variable (rc:Int) (s t c b:List Int)
theorem NzJ:fzq (rc,(0,(s,(t,(b,([0,0,0,0,0],()))))))=fzq (rc,(5,(s,(t,(b,(cOf s,())))))):=
 (bz8 (D:=fzq) (st:=fun i c=>(rc,((i:Int),(s,(t,(b,(c,()))))))) (n:=5) (P:=fun _=>True) (step:=QzL s) (fun i c h _=>by
  refine ⟨?_,trivial⟩
  rw[uz9]
  simp only[ilt5 h,xa5 h,xa10 h,xa15 h,xa20 h,izm (i:=i) (by omega),izm (i:=i+5) (by omega),izm (i:=i+10) (by omega),izm (i:=i+15) (by omega),izm (i:=i+20) (by omega),inb5 h,aza,nx (i:=i) (by omega)]
  rfl) 5 0 _ rfl trivial).1
theorem Nz2 (ht:xzI t):fzw (rc,(0,(s,(t,(b,(c,(vze,())))))))=fzw (rc,(5,(s,(t,(b,(c,(bS (bV t s c),()))))))):=
 (bz8 (D:=fzw) (st:=fun x z=>(rc,((x:Int),(s,(t,(b,(c,(z,())))))))) (n:=5) (P:=fun _=>True) (step:=fun x b=>iter (fun y b=>Cz8 (bV t s c) x y b) 5 0 b) (fun x z hx _=>by
  refine ⟨?_,trivial⟩
  rw[uzX]
  simp only[ilt5 hx,nz5,xm4 hx,xm1 hx,inb5 (Nat.mod_lt (x+4) (show 5>0 by omega)),inb5 (Nat.mod_lt (x+1) (show 5>0 by omega)),aza]
  rw[LzF _ 1 (by omega) (by omega),azd]
  refine (bz8 (D:=gzi) (st:=fun y z=>(rc,((x:Int),(dV c x,((y:Int),(s,(t,(b,(c,(z,())))))))))) (n:=5) (P:=fun _=>True) (step:=fun y z=>Cz8 (bV t s c) x y z) (fun y z hy _=>by
   refine ⟨?_,trivial⟩
   obtain ⟨t0,t1⟩:=ht (x+5*y) (by omega)
   have hb:y+5*((2*x+3*y) % 5)<25:=by have:=Nat.mod_lt (2*x+3*y) (show 5>0 by omega);omega
   rw[rzC]
   simp only[ilt5 hy,x5 hx hy,izm (i:=x+5*y) (by omega),aza]
   by_cases hk:0<rd 0 t ((x+5*y:Nat):Int)
   ·rw[cze hk,aza,LzF _ _ t0 t1,azd,rz3,nz5,aza,xb hx hy,izm hb,aza,nx (by omega)]
    rfl
   ·rw[bzy (by omega),azc,rz3,nz5,aza,xb hx hy,izm hb,aza,nx (by omega)]
    have h0:rd 0 t ((x+5*y:Nat):Int)=0:=by omega
    have hv:=NzY (rd 0 s ((x+5*y:Nat):Int)) (dV c x)
    show gzi (rc,(_,(_,(_,(s,(t,(b,(c,(upd z _ _,())))))))))=_
    rw[show Cz8 (bV t s c) x y z=upd z ((y+5*((2*x+3*y) % 5):Nat):Int) (ixor .u64 (rd 0 s ((x+5*y:Nat):Int)) (dV c x)) from by
     unfold Cz8 bV;rw[h0,OzU hv.1 hv.2]]) 5 0 _ rfl trivial).1.trans ?_
  rw[rzC,az7 (by omega),azc,nx (by omega)]) 5 0 _ rfl trivial).1
theorem Ozh:dz8 (rc,(0,(s,(t,(b,())))))=dz8 (rc,(5,(aOf b s,(t,(b,()))))):=
 (bz8 (D:=dz8) (st:=fun y a=>(rc,((y:Int),(a,(t,(b,())))))) (n:=5) (P:=fun _=>True) (step:=fun y a=>iter (fun x a=>upd a ((x+5*y:Nat):Int) (aV b x y)) 5 0 a) (fun y a hy _=>by
  refine ⟨?_,trivial⟩
  rw[rzT,ilt5 hy,aza]
  refine (bz8 (D:=izA) (st:=fun x a=>(rc,((y:Int),((x:Int),(a,(t,(b,()))))))) (n:=5) (P:=fun _=>True) (step:=fun x a=>upd a ((x+5*y:Nat):Int) (aV b x y)) (fun x a hx _=>by
   refine ⟨?_,trivial⟩
   have m1:=Nat.mod_lt (x+1) (show 5>0 by omega)
   have m2:=Nat.mod_lt (x+2) (show 5>0 by omega)
   rw[szX]
   simp only[ilt5 hx,nz5,xm1 hx,xm2 hx,x5 hx hy,x5m1 hx hy,x5m2 hx hy,izm (i:=x+5*y) (by omega),izm (i:=(x+1) % 5+5*y) (by omega),izm (i:=(x+2) % 5+5*y) (by omega),aza,←Kzr]
   rw[nx (i:=x) (by omega)]
   rfl) 5 0 _ rfl trivial).1.trans ?_
  rw[szX,az7 (by omega),azc,nx (by omega)]) 5 0 _ rfl trivial).1
end spec
theorem Ozu (s t:List Int) (rc:Int) (ht:xzI t):mzJ (s,(t,(rc,())))=some ((xzW t s rc,()),()):=by
 rw[Ez1,NzJ,uz9,az7 (by omega),azc]
 refine (Nz2 _ _ _ _ _ ht).trans ?_
 rw[uzX,az7 (by omega),azc,Ozh,rzT,az7 (by omega),azc,show inb (0:Int) 25=true from rfl,aza,aza,←bI_bS]
 rfl
theorem MzU:xzI az5:=by
 have h:yzI 25 (fun n=>decide (0≤rd 0 az5 (n:Int)∧rd 0 az5 (n:Int)<64))=true:=by kernel_rfl
 intro n hn
 exact of_decide_eq_true (gzj _ _ h n hn)
def Dzy (s:List Int):List Int:=iter (fun n s=>xzW az5 s (rd 0 azU (n:Int))) 24 0 s
theorem Nzc (s:List Int):ez0 (s,())=some ((),(Dzy s,())):=by
 rw[vzO]
 refine (bz8 (D:=ezn) (st:=fun n s=>((n:Int),(s,()))) (n:=24) (P:=fun _=>True) (step:=fun n s=>xzW az5 s (rd 0 azU (n:Int))) (fun n s hn _=>by
  refine ⟨?_,trivial⟩
  rw[lzK,bzW (by omega),aza,OzT s n hn MzU,azd,nx (by omega)]) 24 0 _ rfl trivial).1.trans ?_
 rw[lzK,az7 (by omega),azc]
 rfl
theorem Jzz:izB ()=some ((az5,()),()):=BzC
theorem Lzf:kzA ()=some ((azU,()),()):=Cz5
theorem sAll_l (s:List Int):szv (s,())=some ((Dzy s,()),()):=by
 rw[Kzo,Jzz,azd,Lzf,azd]
 refine (bz8 (D:=pzG) (st:=fun n s=>((n:Int),(s,(vze,(az5,(azU,())))))) (n:=24) (P:=fun _=>True) (step:=fun n s=>xzW az5 s (rd 0 azU (n:Int))) (fun n s hn _=>by
  refine ⟨?_,trivial⟩
  rw[zzC,bzW (by omega),aza,bzI (by omega) (by omega),aza,Ozu s _ _ MzU,azd,nx (by omega)]) 24 0 _ rfl trivial).1.trans ?_
 rw[zzC,az7 (by omega),azc]
 rfl
end Go.Proofs.YtdfbhjpmdjmdaaaGreatDoor
