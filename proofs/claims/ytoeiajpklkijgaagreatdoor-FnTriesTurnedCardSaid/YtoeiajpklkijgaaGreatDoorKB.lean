/- Digests: one round, all rounds, as the program does them and as the document does. Of no condition. -/
import Derived.Test.YtoeiajpklkijgaaGreatDoorKA
set_option linter.unusedVariables false
set_option linter.unusedSimpArgs false
set_option maxRecDepth 100000
namespace Go.Proofs.YtoeiajpklkijgaaGreatDoor
open Go.TV
theorem ilt5 {i:Nat} (h:i<5):ilt (i:Int) 5=true:=ilt_t (by omega)
theorem inb5 {i:Nat} (h:i<5):inb (i:Int) 5=true:=inb_t (by omega) (by omega)
theorem inb25 {i:Nat} (h:i<25):inb (i:Int) 25=true:=inb_t (by omega) (by omega)
theorem xa5 {x:Nat} (h:x<5):iadd .i64 (x:Int) 5=((x+5:Nat):Int):=xa (k:=5) h (by omega)
theorem xa10 {x:Nat} (h:x<5):iadd .i64 (x:Int) 10=((x+10:Nat):Int):=xa (k:=10) h (by omega)
theorem xa15 {x:Nat} (h:x<5):iadd .i64 (x:Int) 15=((x+15:Nat):Int):=xa (k:=15) h (by omega)
theorem xa20 {x:Nat} (h:x<5):iadd .i64 (x:Int) 20=((x+20:Nat):Int):=xa (k:=20) h (by omega)
theorem xm1 {x:Nat} (h:x<5):irem (iadd .i64 (x:Int) 1) 5=(((x+1) % 5:Nat):Int):=xm (k:=1) h (by omega)
theorem xm2 {x:Nat} (h:x<5):irem (iadd .i64 (x:Int) 2) 5=(((x+2) % 5:Nat):Int):=xm (k:=2) h (by omega)
theorem xm4 {x:Nat} (h:x<5):irem (iadd .i64 (x:Int) 4) 5=(((x+4) % 5:Nat):Int):=xm (k:=4) h (by omega)
theorem x5m1 {x y:Nat} (hx:x<5) (hy:y<5):iadd .i64 (((x+1) % 5:Nat):Int) (imul .i64 5 (y:Int))=(((x+1) % 5+5*y:Nat):Int):=x5 (Nat.mod_lt _ (by omega)) hy
theorem x5m2 {x y:Nat} (hx:x<5) (hy:y<5):iadd .i64 (((x+2) % 5:Nat):Int) (imul .i64 5 (y:Int))=(((x+2) % 5+5*y:Nat):Int):=x5 (Nat.mod_lt _ (by omega)) hy
def TurnsOk (t:List Int):Prop:= ∀n:Nat,n<25→0≤rd 0 t (n:Int)∧rd 0 t (n:Int)<64
section impl
variable (n:Int) (s c b:List Int)
theorem iRound_1:iSponge_round_D2 (n,(0,(s,([0,0,0,0,0],()))))=iSponge_round_D2 (n,(5,(s,(cOf s,())))):=
 (loop_to (D:=iSponge_round_D2) (st:=fun i c=>(n,((i:Int),(s,(c,()))))) (n:=5) (P:=fun _=>True) (step:=cStep s) (fun i c h _=>by
  refine ⟨?_,trivial⟩
  rw[iSponge_round_q2]
  simp only[ilt5 h,xa5 h,xa10 h,xa15 h,xa20 h,inb25 (i:=i) (by omega),inb25 (i:=i+5) (by omega),inb25 (i:=i+10) (by omega),inb25 (i:=i+15) (by omega),inb25 (i:=i+20) (by omega),inb5 h,cnd_t,nx (i:=i) (by omega)]
  rfl) 5 0 _ rfl trivial).1
theorem iRound_2 (ht:TurnsOk G_impl_turns):iSponge_round_D8 (n,(0,(s,(c,(zero25,())))))=iSponge_round_D8 (n,(5,(s,(c,(bI (bV G_impl_turns s c),()))))):=
 (loop_to (D:=iSponge_round_D8) (st:=fun y b=>(n,((y:Int),(s,(c,(b,())))))) (n:=5) (P:=fun _=>True) (step:=fun y b=>iter (fun x b=>bStep (bV G_impl_turns s c) x y b) 5 0 b) (fun y b hy _=>by
  refine ⟨?_,trivial⟩
  rw[iSponge_round_q8,ilt5 hy,cnd_t]
  refine (loop_to (D:=iSponge_round_D11) (st:=fun x b=>(n,((y:Int),((y:Int),((x:Int),(s,(c,(b,())))))))) (n:=5) (P:=fun _=>True) (step:=fun x b=>bStep (bV G_impl_turns s c) x y b) (fun x b hx _=>by
   refine ⟨?_,trivial⟩
   obtain ⟨t0,t1⟩:=ht (x+5*y) (by omega)
   rw[iSponge_round_q11]
   simp only[ilt5 hx,nz5,xm4 hx,xm1 hx,inb5 (Nat.mod_lt (x+4) (show 5>0 by omega)),inb5 (Nat.mod_lt (x+1) (show 5>0 by omega)),cnd_t]
   rw[rotl_l _ 1 (by omega) (by omega),bnd_s]
   simp only[x5 hx hy,inb25 (i:=x+5*y) (by omega),cnd_t]
   rw[rotl_l _ _ t0 t1,bnd_s,xb hx hy,inb25 (by have:=Nat.mod_lt (2*x+3*y) (show 5>0 by omega);omega),cnd_t,nx (by omega)]
   rfl) 5 0 _ rfl trivial).1.trans ?_
  rw[iSponge_round_q11,ilt_f (by omega),cnd_f,nx (by omega)]) 5 0 _ rfl trivial).1
theorem iRound_3:iSponge_round_D18 (n,(0,(s,(b,()))))=iSponge_round_D18 (n,(5,(aOf b s,(b,())))):=
 (loop_to (D:=iSponge_round_D18) (st:=fun y a=>(n,((y:Int),(a,(b,()))))) (n:=5) (P:=fun _=>True) (step:=fun y a=>iter (fun x a=>upd a ((x+5*y:Nat):Int) (aV b x y)) 5 0 a) (fun y a hy _=>by
  refine ⟨?_,trivial⟩
  rw[iSponge_round_q18,ilt5 hy,cnd_t]
  refine (loop_to (D:=iSponge_round_D21) (st:=fun x a=>(n,((y:Int),((y:Int),((x:Int),(a,(b,()))))))) (n:=5) (P:=fun _=>True) (step:=fun x a=>upd a ((x+5*y:Nat):Int) (aV b x y)) (fun x a hx _=>by
   refine ⟨?_,trivial⟩
   have m1:=Nat.mod_lt (x+1) (show 5>0 by omega)
   have m2:=Nat.mod_lt (x+2) (show 5>0 by omega)
   rw[iSponge_round_q21]
   simp only[ilt5 hx,nz5,xm1 hx,xm2 hx,x5 hx hy,x5m1 hx hy,x5m2 hx hy,inb25 (i:=x+5*y) (by omega),inb25 (i:=(x+1) % 5+5*y) (by omega),inb25 (i:=(x+2) % 5+5*y) (by omega),cnd_t]
   rw[nx (i:=x) (by omega)]
   rfl) 5 0 _ rfl trivial).1.trans ?_
  rw[iSponge_round_q21,ilt_f (by omega),cnd_f,nx (by omega)]) 5 0 _ rfl trivial).1
end impl
theorem iRound_l (s:List Int) (n:Nat) (hn:n<24) (ht:TurnsOk G_impl_turns):iSponge_round_d (s,((n:Int),()))=some ((),(roundOf G_impl_turns s (rd 0 G_impl_roundConstants (n:Int)),())):=by
 rw[iSponge_round_b,iRound_1,iSponge_round_q2,ilt_f (by omega),cnd_f]
 refine (iRound_2 _ _ _ ht).trans ?_
 rw[iSponge_round_q8,ilt_f (by omega),cnd_f,iRound_3,iSponge_round_q18,ilt_f (by omega),cnd_f,show inb (0:Int) 25=true from rfl,cnd_t,inb_t (by omega) (by omega),cnd_t,cnd_t]
 rfl
section spec
variable (rc:Int) (s t c b:List Int)
theorem sRound_1:sL03Round_D3 (rc,(0,(s,(t,(b,([0,0,0,0,0],()))))))=sL03Round_D3 (rc,(5,(s,(t,(b,(cOf s,())))))):=
 (loop_to (D:=sL03Round_D3) (st:=fun i c=>(rc,((i:Int),(s,(t,(b,(c,()))))))) (n:=5) (P:=fun _=>True) (step:=cStep s) (fun i c h _=>by
  refine ⟨?_,trivial⟩
  rw[sL03Round_q3]
  simp only[ilt5 h,xa5 h,xa10 h,xa15 h,xa20 h,inb25 (i:=i) (by omega),inb25 (i:=i+5) (by omega),inb25 (i:=i+10) (by omega),inb25 (i:=i+15) (by omega),inb25 (i:=i+20) (by omega),inb5 h,cnd_t,nx (i:=i) (by omega)]
  rfl) 5 0 _ rfl trivial).1
theorem sRound_2 (ht:TurnsOk t):sL03Round_D8 (rc,(0,(s,(t,(b,(c,(zero25,())))))))=sL03Round_D8 (rc,(5,(s,(t,(b,(c,(bS (bV t s c),()))))))):=
 (loop_to (D:=sL03Round_D8) (st:=fun x z=>(rc,((x:Int),(s,(t,(b,(c,(z,())))))))) (n:=5) (P:=fun _=>True) (step:=fun x b=>iter (fun y b=>bStep (bV t s c) x y b) 5 0 b) (fun x z hx _=>by
  refine ⟨?_,trivial⟩
  rw[sL03Round_q8]
  simp only[ilt5 hx,nz5,xm4 hx,xm1 hx,inb5 (Nat.mod_lt (x+4) (show 5>0 by omega)),inb5 (Nat.mod_lt (x+1) (show 5>0 by omega)),cnd_t]
  rw[sTurn_l _ 1 (by omega) (by omega),bnd_s]
  refine (loop_to (D:=sL03Round_D12) (st:=fun y z=>(rc,((x:Int),(dV c x,((y:Int),(s,(t,(b,(c,(z,())))))))))) (n:=5) (P:=fun _=>True) (step:=fun y z=>bStep (bV t s c) x y z) (fun y z hy _=>by
   refine ⟨?_,trivial⟩
   obtain ⟨t0,t1⟩:=ht (x+5*y) (by omega)
   have hb:y+5*((2*x+3*y) % 5)<25:=by have:=Nat.mod_lt (2*x+3*y) (show 5>0 by omega);omega
   rw[sL03Round_q12]
   simp only[ilt5 hy,x5 hx hy,inb25 (i:=x+5*y) (by omega),cnd_t]
   by_cases hk:0<rd 0 t ((x+5*y:Nat):Int)
   ·rw[igt_t hk,cnd_t,sTurn_l _ _ t0 t1,bnd_s,sL03Round_q18,nz5,cnd_t,xb hx hy,inb25 hb,cnd_t,nx (by omega)]
    rfl
   ·rw[igt_f (by omega),cnd_f,sL03Round_q18,nz5,cnd_t,xb hx hy,inb25 hb,cnd_t,nx (by omega)]
    have h0:rd 0 t ((x+5*y:Nat):Int)=0:=by omega
    have hv:=ixor_u64 (rd 0 s ((x+5*y:Nat):Int)) (dV c x)
    show sL03Round_D12 (rc,(_,(_,(_,(s,(t,(b,(c,(upd z _ _,())))))))))=_
    rw[show bStep (bV t s c) x y z=upd z ((y+5*((2*x+3*y) % 5):Nat):Int) (ixor .u64 (rd 0 s ((x+5*y:Nat):Int)) (dV c x)) from by
     unfold bStep bV;rw[h0,rot_zero hv.1 hv.2]]) 5 0 _ rfl trivial).1.trans ?_
  rw[sL03Round_q12,ilt_f (by omega),cnd_f,nx (by omega)]) 5 0 _ rfl trivial).1
theorem sRound_3:sL03Round_D20 (rc,(0,(s,(t,(b,())))))=sL03Round_D20 (rc,(5,(aOf b s,(t,(b,()))))):=
 (loop_to (D:=sL03Round_D20) (st:=fun y a=>(rc,((y:Int),(a,(t,(b,())))))) (n:=5) (P:=fun _=>True) (step:=fun y a=>iter (fun x a=>upd a ((x+5*y:Nat):Int) (aV b x y)) 5 0 a) (fun y a hy _=>by
  refine ⟨?_,trivial⟩
  rw[sL03Round_q20,ilt5 hy,cnd_t]
  refine (loop_to (D:=sL03Round_D23) (st:=fun x a=>(rc,((y:Int),((x:Int),(a,(t,(b,()))))))) (n:=5) (P:=fun _=>True) (step:=fun x a=>upd a ((x+5*y:Nat):Int) (aV b x y)) (fun x a hx _=>by
   refine ⟨?_,trivial⟩
   have m1:=Nat.mod_lt (x+1) (show 5>0 by omega)
   have m2:=Nat.mod_lt (x+2) (show 5>0 by omega)
   rw[sL03Round_q23]
   simp only[ilt5 hx,nz5,xm1 hx,xm2 hx,x5 hx hy,x5m1 hx hy,x5m2 hx hy,inb25 (i:=x+5*y) (by omega),inb25 (i:=(x+1) % 5+5*y) (by omega),inb25 (i:=(x+2) % 5+5*y) (by omega),cnd_t,←inot_ixor]
   rw[nx (i:=x) (by omega)]
   rfl) 5 0 _ rfl trivial).1.trans ?_
  rw[sL03Round_q23,ilt_f (by omega),cnd_f,nx (by omega)]) 5 0 _ rfl trivial).1
end spec
theorem sRound_l (s t:List Int) (rc:Int) (ht:TurnsOk t):sL03Round_d (s,(t,(rc,())))=some ((roundOf t s rc,()),()):=by
 rw[sL03Round_b,sRound_1,sL03Round_q3,ilt_f (by omega),cnd_f]
 refine (sRound_2 _ _ _ _ _ ht).trans ?_
 rw[sL03Round_q8,ilt_f (by omega),cnd_f,sRound_3,sL03Round_q20,ilt_f (by omega),cnd_f,show inb (0:Int) 25=true from rfl,cnd_t,cnd_t,←bI_bS]
 rfl
theorem turnsOk:TurnsOk G_impl_turns:=by
 have h:allB' 25 (fun n=>decide (0≤rd 0 G_impl_turns (n:Int)∧rd 0 G_impl_turns (n:Int)<64))=true:=by kernel_rfl
 intro n hn
 exact of_decide_eq_true (allB'_of _ _ h n hn)
def rounds (s:List Int):List Int:=iter (fun n s=>roundOf G_impl_turns s (rd 0 G_impl_roundConstants (n:Int))) 24 0 s
theorem iRounds_l (s:List Int):iSponge_rounds_d (s,())=some ((),(rounds s,())):=by
 rw[iSponge_rounds_b]
 refine (loop_to (D:=iSponge_rounds_D1) (st:=fun n s=>((n:Int),(s,()))) (n:=24) (P:=fun _=>True) (step:=fun n s=>roundOf G_impl_turns s (rd 0 G_impl_roundConstants (n:Int))) (fun n s hn _=>by
  refine ⟨?_,trivial⟩
  rw[iSponge_rounds_q1,ilt_t (by omega),cnd_t,iRound_l s n hn turnsOk,bnd_s,nx (by omega)]) 24 0 _ rfl trivial).1.trans ?_
 rw[iSponge_rounds_q1,ilt_f (by omega),cnd_f]
 rfl
theorem sOffsets_l:sL03Offsets_d ()=some ((G_impl_turns,()),()):=sL03Offsets_b
theorem sRounds_l:sL03Rounds_d ()=some ((G_impl_roundConstants,()),()):=sL03Rounds_b
theorem sAll_l (s:List Int):sL03All_d (s,())=some ((rounds s,()),()):=by
 rw[sL03All_b,sOffsets_l,bnd_s,sRounds_l,bnd_s]
 refine (loop_to (D:=sL03All_D4) (st:=fun n s=>((n:Int),(s,(zero25,(G_impl_turns,(G_impl_roundConstants,())))))) (n:=24) (P:=fun _=>True) (step:=fun n s=>roundOf G_impl_turns s (rd 0 G_impl_roundConstants (n:Int))) (fun n s hn _=>by
  refine ⟨?_,trivial⟩
  rw[sL03All_q4,ilt_t (by omega),cnd_t,inb_t (by omega) (by omega),cnd_t,sRound_l s _ _ turnsOk,bnd_s,nx (by omega)]) 24 0 _ rfl trivial).1.trans ?_
 rw[sL03All_q4,ilt_f (by omega),cnd_f]
 rfl
end Go.Proofs.YtoeiajpklkijgaaGreatDoor
