/- Digests: one round, all rounds, as the program does them and as the document does. Of no condition. -/
import Derived.Test.YthldgfkkgmpmlaaGreatDoorKA
set_option linter.unusedVariables false
set_option linter.unusedSimpArgs false
set_option maxRecDepth 100000
namespace Go.Proofs.YthldgfkkgmpmlaaGreatDoor
open Go.TV
theorem ilt5 {i:Nat} (h:i<5):ilt (i:Int) 5=true:=bzT (by omega)
theorem inb5 {i:Nat} (h:i<5):inb (i:Int) 5=true:=bz0 (by omega) (by omega)
theorem jzd {i:Nat} (h:i<25):inb (i:Int) 25=true:=bz0 (by omega) (by omega)
theorem xa5 {x:Nat} (h:x<5):iadd .i64 (x:Int) 5=((x+5:Nat):Int):=xa (k:=5) h (by omega)
theorem xa10 {x:Nat} (h:x<5):iadd .i64 (x:Int) 10=((x+10:Nat):Int):=xa (k:=10) h (by omega)
theorem xa15 {x:Nat} (h:x<5):iadd .i64 (x:Int) 15=((x+15:Nat):Int):=xa (k:=15) h (by omega)
theorem xa20 {x:Nat} (h:x<5):iadd .i64 (x:Int) 20=((x+20:Nat):Int):=xa (k:=20) h (by omega)
theorem xm1 {x:Nat} (h:x<5):irem (iadd .i64 (x:Int) 1) 5=(((x+1) % 5:Nat):Int):=xm (k:=1) h (by omega)
theorem xm2 {x:Nat} (h:x<5):irem (iadd .i64 (x:Int) 2) 5=(((x+2) % 5:Nat):Int):=xm (k:=2) h (by omega)
theorem xm4 {x:Nat} (h:x<5):irem (iadd .i64 (x:Int) 4) 5=(((x+4) % 5:Nat):Int):=xm (k:=4) h (by omega)
theorem x5m1 {x y:Nat} (hx:x<5) (hy:y<5):iadd .i64 (((x+1) % 5:Nat):Int) (imul .i64 5 (y:Int))=(((x+1) % 5+5*y:Nat):Int):=x5 (Nat.mod_lt _ (by omega)) hy
theorem x5m2 {x y:Nat} (hx:x<5) (hy:y<5):iadd .i64 (((x+2) % 5:Nat):Int) (imul .i64 5 (y:Int))=(((x+2) % 5+5*y:Nat):Int):=x5 (Nat.mod_lt _ (by omega)) hy
def BzJ (t:List Int):Prop:= ∀n:Nat,n<25→0≤rd 0 t (n:Int)∧rd 0 t (n:Int)<64
section impl
variable (n:Int) (s c b:List Int)
theorem UzI:czr (n,(0,(s,([0,0,0,0,0],()))))=czr (n,(5,(s,(cOf s,())))):=
 (bz4 (D:=czr) (st:=fun i c=>(n,((i:Int),(s,(c,()))))) (n:=5) (P:=fun _=>True) (step:=WzF s) (fun i c h _=>by
  refine ⟨?_,trivial⟩
  rw[pzt]
  simp only[ilt5 h,xa5 h,xa10 h,xa15 h,xa20 h,jzd (i:=i) (by omega),jzd (i:=i+5) (by omega),jzd (i:=i+10) (by omega),jzd (i:=i+15) (by omega),jzd (i:=i+20) (by omega),inb5 h,aza,nx (i:=i) (by omega)]
  rfl) 5 0 _ rfl trivial).1
theorem Uzj (ht:BzJ az1):czo (n,(0,(s,(c,(yzb,())))))=czo (n,(5,(s,(c,(bI (bV az1 s c),()))))):=
 (bz4 (D:=czo) (st:=fun y b=>(n,((y:Int),(s,(c,(b,())))))) (n:=5) (P:=fun _=>True) (step:=fun y b=>iter (fun x b=>Hz7 (bV az1 s c) x y b) 5 0 b) (fun y b hy _=>by
  refine ⟨?_,trivial⟩
  rw[pzi,ilt5 hy,aza]
  refine (bz4 (D:=ezB) (st:=fun x b=>(n,((y:Int),((y:Int),((x:Int),(s,(c,(b,())))))))) (n:=5) (P:=fun _=>True) (step:=fun x b=>Hz7 (bV az1 s c) x y b) (fun x b hx _=>by
   refine ⟨?_,trivial⟩
   obtain ⟨t0,t1⟩:=ht (x+5*y) (by omega)
   rw[mz4]
   simp only[ilt5 hx,nz5,xm4 hx,xm1 hx,inb5 (Nat.mod_lt (x+4) (show 5>0 by omega)),inb5 (Nat.mod_lt (x+1) (show 5>0 by omega)),aza]
   rw[VzA _ 1 (by omega) (by omega),azb]
   simp only[x5 hx hy,jzd (i:=x+5*y) (by omega),aza]
   rw[VzA _ _ t0 t1,azb,xb hx hy,jzd (by have:=Nat.mod_lt (2*x+3*y) (show 5>0 by omega);omega),aza,nx (by omega)]
   rfl) 5 0 _ rfl trivial).1.trans ?_
  rw[mz4,az0 (by omega),azc,nx (by omega)]) 5 0 _ rfl trivial).1
theorem UzX:cze (n,(0,(s,(b,()))))=cze (n,(5,(aOf b s,(b,())))):=
 (bz4 (D:=cze) (st:=fun y a=>(n,((y:Int),(a,(b,()))))) (n:=5) (P:=fun _=>True) (step:=fun y a=>iter (fun x a=>upd a ((x+5*y:Nat):Int) (aV b x y)) 5 0 a) (fun y a hy _=>by
  refine ⟨?_,trivial⟩
  rw[mzJ,ilt5 hy,aza]
  refine (bz4 (D:=ezz) (st:=fun x a=>(n,((y:Int),((y:Int),((x:Int),(a,(b,()))))))) (n:=5) (P:=fun _=>True) (step:=fun x a=>upd a ((x+5*y:Nat):Int) (aV b x y)) (fun x a hx _=>by
   refine ⟨?_,trivial⟩
   have m1:=Nat.mod_lt (x+1) (show 5>0 by omega)
   have m2:=Nat.mod_lt (x+2) (show 5>0 by omega)
   rw[nzj]
   simp only[ilt5 hx,nz5,xm1 hx,xm2 hx,x5 hx hy,x5m1 hx hy,x5m2 hx hy,jzd (i:=x+5*y) (by omega),jzd (i:=(x+1) % 5+5*y) (by omega),jzd (i:=(x+2) % 5+5*y) (by omega),aza]
   rw[nx (i:=x) (by omega)]
   rfl) 5 0 _ rfl trivial).1.trans ?_
  rw[nzj,az0 (by omega),azc,nx (by omega)]) 5 0 _ rfl trivial).1
end impl
theorem Uzy (s:List Int) (n:Nat) (hn:n<24) (ht:BzJ az1):gzS (s,((n:Int),()))=some ((),(AzA az1 s (rd 0 azT (n:Int)),())):=by
 rw[AzZ,UzI,pzt,az0 (by omega),azc]
 refine (Uzj _ _ _ ht).trans ?_
 rw[pzi,az0 (by omega),azc,UzX,mzJ,az0 (by omega),azc,show inb (0:Int) 25=true from rfl,aza,bz0 (by omega) (by omega),aza,aza]
 rfl
section spec
variable (rc:Int) (s t c b:List Int)
theorem Uzi:fz4 (rc,(0,(s,(t,(b,([0,0,0,0,0],()))))))=fz4 (rc,(5,(s,(t,(b,(cOf s,())))))):=
 (bz4 (D:=fz4) (st:=fun i c=>(rc,((i:Int),(s,(t,(b,(c,()))))))) (n:=5) (P:=fun _=>True) (step:=WzF s) (fun i c h _=>by
  refine ⟨?_,trivial⟩
  rw[yzK]
  simp only[ilt5 h,xa5 h,xa10 h,xa15 h,xa20 h,jzd (i:=i) (by omega),jzd (i:=i+5) (by omega),jzd (i:=i+10) (by omega),jzd (i:=i+15) (by omega),jzd (i:=i+20) (by omega),inb5 h,aza,nx (i:=i) (by omega)]
  rfl) 5 0 _ rfl trivial).1
theorem Vzh (ht:BzJ t):fz3 (rc,(0,(s,(t,(b,(c,(yzb,())))))))=fz3 (rc,(5,(s,(t,(b,(c,(bS (bV t s c),()))))))):=
 (bz4 (D:=fz3) (st:=fun x z=>(rc,((x:Int),(s,(t,(b,(c,(z,())))))))) (n:=5) (P:=fun _=>True) (step:=fun x b=>iter (fun y b=>Hz7 (bV t s c) x y b) 5 0 b) (fun x z hx _=>by
  refine ⟨?_,trivial⟩
  rw[yzL]
  simp only[ilt5 hx,nz5,xm4 hx,xm1 hx,inb5 (Nat.mod_lt (x+4) (show 5>0 by omega)),inb5 (Nat.mod_lt (x+1) (show 5>0 by omega)),aza]
  rw[Szs _ 1 (by omega) (by omega),azb]
  refine (bz4 (D:=gzR) (st:=fun y z=>(rc,((x:Int),(dV c x,((y:Int),(s,(t,(b,(c,(z,())))))))))) (n:=5) (P:=fun _=>True) (step:=fun y z=>Hz7 (bV t s c) x y z) (fun y z hy _=>by
   refine ⟨?_,trivial⟩
   obtain ⟨t0,t1⟩:=ht (x+5*y) (by omega)
   have hb:y+5*((2*x+3*y) % 5)<25:=by have:=Nat.mod_lt (2*x+3*y) (show 5>0 by omega);omega
   rw[vzG]
   simp only[ilt5 hy,x5 hx hy,jzd (i:=x+5*y) (by omega),aza]
   by_cases hk:0<rd 0 t ((x+5*y:Nat):Int)
   ·rw[bzU hk,aza,Szs _ _ t0 t1,azb,uz1,nz5,aza,xb hx hy,jzd hb,aza,nx (by omega)]
    rfl
   ·rw[bzi (by omega),azc,uz1,nz5,aza,xb hx hy,jzd hb,aza,nx (by omega)]
    have h0:rd 0 t ((x+5*y:Nat):Int)=0:=by omega
    have hv:=UzE (rd 0 s ((x+5*y:Nat):Int)) (dV c x)
    show gzR (rc,(_,(_,(_,(s,(t,(b,(c,(upd z _ _,())))))))))=_
    rw[show Hz7 (bV t s c) x y z=upd z ((y+5*((2*x+3*y) % 5):Nat):Int) (ixor .u64 (rd 0 s ((x+5*y:Nat):Int)) (dV c x)) from by
     unfold Hz7 bV;rw[h0,Uz1 hv.1 hv.2]]) 5 0 _ rfl trivial).1.trans ?_
  rw[vzG,az0 (by omega),azc,nx (by omega)]) 5 0 _ rfl trivial).1
theorem Vzb:ezw (rc,(0,(s,(t,(b,())))))=ezw (rc,(5,(aOf b s,(t,(b,()))))):=
 (bz4 (D:=ezw) (st:=fun y a=>(rc,((y:Int),(a,(t,(b,())))))) (n:=5) (P:=fun _=>True) (step:=fun y a=>iter (fun x a=>upd a ((x+5*y:Nat):Int) (aV b x y)) 5 0 a) (fun y a hy _=>by
  refine ⟨?_,trivial⟩
  rw[uzv,ilt5 hy,aza]
  refine (bz4 (D:=jzj) (st:=fun x a=>(rc,((y:Int),((x:Int),(a,(t,(b,()))))))) (n:=5) (P:=fun _=>True) (step:=fun x a=>upd a ((x+5*y:Nat):Int) (aV b x y)) (fun x a hx _=>by
   refine ⟨?_,trivial⟩
   have m1:=Nat.mod_lt (x+1) (show 5>0 by omega)
   have m2:=Nat.mod_lt (x+2) (show 5>0 by omega)
   rw[uz9]
   simp only[ilt5 hx,nz5,xm1 hx,xm2 hx,x5 hx hy,x5m1 hx hy,x5m2 hx hy,jzd (i:=x+5*y) (by omega),jzd (i:=(x+1) % 5+5*y) (by omega),jzd (i:=(x+2) % 5+5*y) (by omega),aza,←QzP]
   rw[nx (i:=x) (by omega)]
   rfl) 5 0 _ rfl trivial).1.trans ?_
  rw[uz9,az0 (by omega),azc,nx (by omega)]) 5 0 _ rfl trivial).1
end spec
theorem Uzw (s t:List Int) (rc:Int) (ht:BzJ t):ozx (s,(t,(rc,())))=some ((AzA t s rc,()),()):=by
 rw[LzX,Uzi,yzK,az0 (by omega),azc]
 refine (Vzh _ _ _ _ _ ht).trans ?_
 rw[yzL,az0 (by omega),azc,Vzb,uzv,az0 (by omega),azc,show inb (0:Int) 25=true from rfl,aza,aza,←bI_bS]
 rfl
theorem Qzw:BzJ az1:=by
 have h:AzI 25 (fun n=>decide (0≤rd 0 az1 (n:Int)∧rd 0 az1 (n:Int)<64))=true:=by kernel_rfl
 intro n hn
 exact of_decide_eq_true (fzh _ _ h n hn)
def Izm (s:List Int):List Int:=iter (fun n s=>AzA az1 s (rd 0 azT (n:Int))) 24 0 s
theorem Tzl (s:List Int):fzb (s,())=some ((),(Izm s,())):=by
 rw[zzg]
 refine (bz4 (D:=ezI) (st:=fun n s=>((n:Int),(s,()))) (n:=24) (P:=fun _=>True) (step:=fun n s=>AzA az1 s (rd 0 azT (n:Int))) (fun n s hn _=>by
  refine ⟨?_,trivial⟩
  rw[mzO,bzT (by omega),aza,Uzy s n hn Qzw,azb,nx (by omega)]) 24 0 _ rfl trivial).1.trans ?_
 rw[mzO,az0 (by omega),azc]
 rfl
theorem Ozp:jzo ()=some ((az1,()),()):=Gzd
theorem Rzt:lzr ()=some ((azT,()),()):=HzZ
theorem sAll_l (s:List Int):vzH (s,())=some ((Izm s,()),()):=by
 rw[QzA,Ozp,azb,Rzt,azb]
 refine (bz4 (D:=sza) (st:=fun n s=>((n:Int),(s,(yzb,(az1,(azT,())))))) (n:=24) (P:=fun _=>True) (step:=fun n s=>AzA az1 s (rd 0 azT (n:Int))) (fun n s hn _=>by
  refine ⟨?_,trivial⟩
  rw[DzM,bzT (by omega),aza,bz0 (by omega) (by omega),aza,Uzw s _ _ Qzw,azb,nx (by omega)]) 24 0 _ rfl trivial).1.trans ?_
 rw[DzM,az0 (by omega),azc]
 rfl
end Go.Proofs.YthldgfkkgmpmlaaGreatDoor
