/- Pairs: numbers of two parts, lines, pairings; roots, sums of points, signatures. Of no condition. -/
import Derived.Test.YtkfifjaomgjnnaaGreatDoorJB
set_option linter.unusedVariables false
set_option linter.unusedSimpArgs false
set_option maxRecDepth 100000
namespace Go.Proofs.YtkfifjaomgjnnaaGreatDoor
open Go.TV
def Both {α:Type} (i s:Option α):Prop:= ∃r,i=some r∧s=some r
theorem Both.ret {α:Type} {r:α}:Both (some r) (some r):=⟨r,rfl,rfl⟩
theorem Both.bnd {α β:Type} {i s:Option α} {f g:α→Option β} (h:Both i s) (k: ∀r,Both (f r) (g r)):Both (bnd i f) (bnd s g):=by
 obtain ⟨r,rfl,rfl⟩:=h;exact k r
theorem Both.tru {α:Type} {c c':Bool} {i s i' s':Option α} (h:c=true) (h':c'=true) (k:Both i s):Both (cnd c i i') (cnd c' s s'):=by rw[h,h'];exact k
theorem Both.fls {α:Type} {c c':Bool} {i s i' s':Option α} (h:c=false) (h':c'=false) (k:Both i' s'):Both (cnd c i i') (cnd c' s s'):=by rw[h,h'];exact k
theorem Both.cnd {α:Type} {c c':Bool} {i s i' s':Option α} (h:c=c') (k:Both i s) (k':Both i' s'):Both (cnd c i i') (cnd c' s s'):=by
 rw[h];cases c'
 ·exact k'
 ·exact k
theorem iPointAdd_l (p q:tPoint):iPointAdd_d (p,(q,()))=some ((padd' p q,()),()):=by
 rw[iPointAdd_b,iPointOk_l,bnd_s,iPointOk_l,bnd_s]
 unfold padd'
 by_cases hp:pok p
 ·by_cases hq:pok q
  ·rw[if_pos ⟨hp,hq⟩,decide_eq_true hp,decide_eq_true hq,iAdd_l p q hp hq];rfl
  ·rw[if_neg fun h=>hq h.2,decide_eq_true hp,decide_eq_false hq];rfl
 ·rw[if_neg fun h=>hp h.1,decide_eq_false hp];rfl
theorem sPointAdd_l (p q:tPoint):sPointAdd_d (p,(q,()))=some ((padd' p q,()),()):=by
 rw[sPointAdd_b,sPointOk_l,bnd_s,sPointOk_l,bnd_s,sAdd_l,sL07Zero_b]
 unfold padd'
 by_cases hp:pok p
 ·by_cases hq:pok q
  ·rw[if_pos ⟨hp,hq⟩,decide_eq_true hp,decide_eq_true hq];rfl
  ·rw[if_neg fun h=>hq h.2,decide_eq_true hp,decide_eq_false hq];rfl
 ·rw[if_neg fun h=>hp h.1,decide_eq_false hp];rfl
def sumP (xs:List tPoint):tPoint:=xs.foldl padd' zeroP
theorem iSumPoints_loop (xs:List tPoint) (z:tPoint) (hl:xs.length≤16777216): ∀ (k i:Nat) (a:tPoint),i+k=xs.length→iSumPoints_D3 (xs,(len xs,((i:Int),(z,(a,())))))=some (((xs.drop i).foldl padd' a,()),()):=by
 intro k
 induction k with
 |zero=>intro i a hi;rw[iSumPoints_q3,show (i:Int)=(xs.length:Int) by omega,ilt_end,cnd_f,show i=xs.length by omega];simp
 |succ k ih=>
  intro i a hi
  have h:i<xs.length:=by omega
  rw[iSumPoints_q3,ilt_at h,cnd_t,inb_at h,cnd_t,iPointAdd_l,bnd_s,next_at (by omega),rd_at h,ih (i+1) _ (by omega),List.drop_eq_getElem_cons h,List.foldl_cons]
theorem sSumPoints_loop (xs:List tPoint) (z:tPoint) (hl:xs.length≤16777216): ∀ (k i:Nat) (a:tPoint),i+k=xs.length→sSumPoints_D3 (xs,((i:Int),(z,(a,()))))=some (((xs.drop i).foldl padd' a,()),()):=by
 intro k
 induction k with
 |zero=>intro i a hi;rw[sSumPoints_q3,show (i:Int)=(xs.length:Int) by omega,ilt_end,cnd_f,show i=xs.length by omega];simp
 |succ k ih=>
  intro i a hi
  have h:i<xs.length:=by omega
  rw[sSumPoints_q3,ilt_at h,cnd_t,inb_at h,cnd_t,sPointAdd_l,bnd_s,next_at (by omega),rd_at h,ih (i+1) _ (by omega),List.drop_eq_getElem_cons h,List.foldl_cons]
theorem iSumPoints_l (xs:List tPoint) (hl:xs.length≤16777216):iSumPoints_d (xs,())=some ((sumP xs,()),()):=by
 rw[iSumPoints_b]
 have:=iSumPoints_loop xs zPoint hl xs.length 0 zeroP (by omega)
 rw[List.drop_zero] at this
 exact this
theorem sSumPoints_l (xs:List tPoint) (hl:xs.length≤16777216):sSumPoints_d (xs,())=some ((sumP xs,()),()):=by
 rw[sSumPoints_b,sL07Zero_b,bnd_s]
 have:=sSumPoints_loop xs zPoint hl xs.length 0 zeroP (by omega)
 rw[List.drop_zero] at this
 exact this
def one2:tTwo:=(1,(0,()))
def twoMul (x y:tTwo):tTwo:=(fsub (fmul x.1 y.1) (fmul x.2.1 y.2.1),(fadd (fmul x.1 y.2.1) (fmul x.2.1 y.1),()))
def twoRed (x:tTwo):tTwo:=(x.1 % 12107,(x.2.1 % 12107,()))
theorem iTwoMul_l (x y:tTwo):iTwoMul_d (x,(y,()))=some ((twoMul x y,()),()):=by
 rw[iTwoMul_b];simp only[iFpMul_l,iFpAdd_l,iFpSub_l,bnd_s];rfl
theorem sTwoMul_l (x y:tTwo):sTwoMul_d (x,(y,()))=some ((twoMul x y,()),()):=by
 rw[sTwoMul_b];simp only[sFpMul_l,sFpAdd_l,sFpSub_l,bnd_s];rfl
theorem fmul_mod (a b:Int):fmul a (b % 12107)=fmul a b:=by unfold fmul;rw[Int.emod_emod]
theorem fmul_mod2 (a b:Int):fmul (a % 12107) (b % 12107)=fmul a b:=by unfold fmul;rw[Int.emod_emod,Int.emod_emod]
theorem twoMul_red (x y:tTwo):twoMul x (twoRed y)=twoMul x y:=by unfold twoMul twoRed;simp only[fmul_mod]
theorem twoMul_red2 (y:tTwo):twoMul (twoRed y) (twoRed y)=twoMul y y:=by unfold twoMul twoRed;simp only[fmul_mod2]
def twoTurn (x:tTwo):tTwo:=(x.1 % 12107,(fsub 0 x.2.1,()))
theorem iTwoTurn_l (x:tTwo):iTwoTurn_d (x,())=some ((twoTurn x,()),()):=by
 rw[iTwoTurn_b];simp only[iFpOf_l,iFpSub_l,bnd_s];rfl
theorem sTwoTurn_l (x:tTwo):sTwoTurn_d (x,())=some ((twoTurn x,()),()):=by
 rw[sTwoTurn_b];simp only[sFpOf_l,sFpSub_l,bnd_s];rfl
def twoInv (x:tTwo):tTwo:=(fmul x.1 (finv (fadd (fmul x.1 x.1) (fmul x.2.1 x.2.1))),(fmul (fsub 0 x.2.1) (finv (fadd (fmul x.1 x.1) (fmul x.2.1 x.2.1))),()))
theorem iTwoInv_l (x:tTwo):iTwoInv_d (x,())=some ((twoInv x,()),()):=by
 rw[iTwoInv_b];simp only[iFpMul_l,iFpAdd_l,iFpSub_l,iFpInv_l,bnd_s];rfl
theorem sTwoInv_l (x:tTwo):sTwoInv_d (x,())=some ((twoInv x,()),()):=by
 rw[sTwoInv_b];simp only[sFpMul_l,sFpAdd_l,sFpSub_l,sFpInv_l,bnd_s];rfl
def Like (x y:tTwo):Prop:=(∀a,twoMul a x=twoMul a y)∧twoMul x x=twoMul y y
theorem like_red (y:tTwo):Like (twoRed y) y:=⟨fun a=>twoMul_red a y,twoMul_red2 y⟩
theorem twoPow_loop (z:tTwo): ∀ (f n:Nat) (x y a:tTwo),n<2^f→f≤60→Like x y→Both (iTwoPow_D4 ((n:Int),(y,(z,(a,()))))) (sTwoPow_D5 ((n:Int),(z,(a,(x,()))))):=by
 intro f
 induction f with
 |zero=>
  intro n x y a hn _ _
  have:n=0:=by simp at hn;exact hn
  subst this
  rw[iTwoPow_q4,sTwoPow_q5]
  exact Both.fls (igt_f (by omega)) (igt_f (by omega)) .ret
 |succ f ih=>
  intro n x y a hn hf hl
  rw[iTwoPow_q4,sTwoPow_q5]
  by_cases h0:n=0
  ·subst h0
   exact Both.fls (igt_f (by omega)) (igt_f (by omega)) .ret
  ·have hn':n/2<2^f:=by rw[Nat.pow_succ] at hn;omega
   have hb:n≤4611686018427387904:=by
    have:=Nat.pow_le_pow_right (n:=2) (by decide) (show f+1≤61 by omega)
    have e:(2:Nat)^61=2305843009213693952:=rfl
    omega
   refine Both.tru (igt_t (by omega)) (igt_t (by omega)) (Both.tru (nz_lit (by decide)) (nz_lit (by decide)) (Both.cnd rfl ?_ ?_))
   ·rw[iTwoMul_l,sTwoMul_l,bnd_s,bnd_s,iTwoPow_q7,sTwoPow_q8,iTwoMul_l,sTwoMul_l,bnd_s,bnd_s]
    refine Both.tru (nz_lit (by decide)) (nz_lit (by decide)) ?_
    rw[iquo_2 n hb,hl.1,hl.2]
    exact ih _ _ _ _ hn' (by omega) ⟨fun _=>rfl,rfl⟩
   ·rw[iTwoPow_q7,sTwoPow_q8,iTwoMul_l,sTwoMul_l,bnd_s,bnd_s]
    refine Both.tru (nz_lit (by decide)) (nz_lit (by decide)) ?_
    rw[iquo_2 n hb,hl.2]
    exact ih _ _ _ _ hn' (by omega) ⟨fun _=>rfl,rfl⟩
theorem twoPow_both (x:tTwo) (n:Nat) (hn:n<2^60):Both (iTwoPow_d (x,((n:Int),()))) (sTwoPow_d (x,((n:Int),()))):=by
 rw[iTwoPow_b,sTwoPow_b,sFpOf_l,sFpOf_l,bnd_s,bnd_s]
 exact Both.fls (ilt_f (by omega)) (ilt_f (by omega)) (twoPow_loop zTwo 60 n (twoRed x) x one2 hn (by decide) (like_red x))
theorem pairLine_both (a b q:tPoint):Both (iPairLine_d (a,(b,(q,())))) (sPairLine_d (a,(b,(q,())))):=by
 rw[iPairLine_b,sPairLine_b]
 cases ha:a.2.2.1
 ·cases hb:b.2.2.1
  ·cases hq:q.2.2.1
   ·refine Both.fls rfl rfl (Both.fls rfl rfl (Both.fls rfl rfl ?_))
    rw[iPointOk_l,sPointOk_l,bnd_s,bnd_s]
    by_cases h1:pok a
    ·by_cases h2:pok b
     ·refine Both.cnd rfl .ret ?_
      rw[iPointOk_l,sPointOk_l,bnd_s,bnd_s]
      refine Both.cnd rfl .ret ?_
      rw[iPointOk_l,sPointOk_l,bnd_s,bnd_s]
      refine Both.cnd rfl .ret ?_
      rw[iSlope_l a b h1 h2 ha hb,sSlope_l,bnd_s,bnd_s]
      refine Both.cnd rfl .ret ?_
      simp only[iFpSub_l,iFpMul_l,sFpSub_l,sFpMul_l,bnd_s]
      exact .ret
     ·refine Both.cnd rfl .ret ?_
      rw[iPointOk_l,sPointOk_l,bnd_s,bnd_s,decide_eq_false h2]
      exact .ret
    ·rw[decide_eq_false h1];exact .ret
   ·exact .ret
  ·exact .ret
 ·exact .ret
theorem bit_1009:allB' 9 (fun k=>nn (iconv .u64 (k:Int))&&(ieq (iand .i64 (ishr .i64 1009 (iconv .u64 (k:Int))) 1) 1==ieq (irem (ishr .i64 1009 (iconv .u64 (k:Int))) 2) 1))=true:=by kernel_rfl
theorem miller_loop (p q:tPoint) (z:tTwo): ∀ (k:Nat) (f:tTwo) (t:tPoint),k≤9→Both (iMiller_D4 ((k:Int)-1,(p,(q,(z,(f,(t,()))))))) (sMiller_D4 ((k:Int)-1,(p,(q,(z,(f,(t,()))))))):=by
 intro k
 induction k with
 |zero=>intro f t _;rw[iMiller_q4,sMiller_q4];exact Both.fls (by decide) (by decide) .ret
 |succ k ih=>
  intro f t hk
  have hb:=allB'_of _ _ bit_1009 k (by omega)
  simp only[Bool.and_eq_true,beq_iff_eq] at hb
  rw[iMiller_q4,sMiller_q4,show ((k+1:Nat):Int)-1=(k:Int) by omega,isub_64 (x:=(k:Int)) (by omega) (by omega)]
  refine Both.tru (by rw[ige_d];exact decide_eq_true (by omega)) (by rw[ige_d];exact decide_eq_true (by omega)) ?_
  rw[iTwoMul_l,sTwoMul_l,bnd_s,bnd_s]
  refine Both.bnd (pairLine_both t t q) fun r=>?_
  rw[iTwoMul_l,sTwoMul_l,bnd_s,bnd_s,iPointAdd_l,sPointAdd_l,bnd_s,bnd_s]
  refine Both.tru hb.1 hb.1 ?_
  rw[nz_lit (show (2:Int)≠0 by decide),cnd_t]
  refine Both.cnd hb.2 ?_ (ih _ _ (by omega))
  refine Both.bnd (pairLine_both _ p q) fun r=>?_
  rw[iTwoMul_l,sTwoMul_l,bnd_s,bnd_s,iPointAdd_l,sPointAdd_l,bnd_s,bnd_s]
  exact ih _ _ (by omega)
theorem len_1009:g_math_bits_Len_d (1009,())=some ((10,()),()):=by
 rw[g_math_bits_Len_b,g_math_bits_Len64_b,ige_d,decide_eq_false (by decide),cnd_f,g_math_bits_Len64_q4,ige_d,decide_eq_false (by decide),cnd_f,g_math_bits_Len64_q7,ige_d,decide_eq_true (by decide),cnd_t,nn_d,decide_eq_true (by decide),cnd_t,g_math_bits_Len64_q10]
 kernel_rfl
theorem miller_both (p q:tPoint):Both (iMiller_d (p,(q,()))) (sMiller_d (p,(q,()))):=by
 rw[iMiller_b,sMiller_b,len_1009,bnd_s,isub_64 (x:=10) (by decide) (by decide)]
 exact miller_loop p q zTwo 9 one2 p (by decide)
theorem pairing_both (p q:tPoint):Both (iPairing_d (p,(q,()))) (sPairing_d (p,(q,()))):=by
 rw[iPairing_b,sPairing_b,iInGroup_l,sInGroup_l,bnd_s,bnd_s,iInGroup_l,sInGroup_l,bnd_s,bnd_s]
 have key:Both (Go.TV.bnd (iMiller_d (p,(q,()))) (fun r4=>Go.TV.bnd (iTwoTurn_d (r4.1.1,())) (fun r5=>Go.TV.bnd (iTwoInv_d (r4.1.1,())) (fun r6=>Go.TV.bnd (iTwoMul_d (r5.1.1,(r6.1.1,()))) (fun r7=>Go.TV.bnd (iTwoPow_d (r7.1.1,((12:Int),()))) (fun r8=>some ((r8.1.1,()),())))))))
  (Go.TV.bnd (sMiller_d (p,(q,()))) (fun r4=>Go.TV.bnd (sTwoTurn_d (r4.1.1,())) (fun r5=>Go.TV.bnd (sTwoInv_d (r4.1.1,())) (fun r6=>Go.TV.bnd (sTwoMul_d (r5.1.1,(r6.1.1,()))) (fun r7=>Go.TV.bnd (sTwoPow_d (r7.1.1,((12:Int),()))) (fun r8=>some ((r8.1.1,()),()))))))):=by
  refine Both.bnd (miller_both p q) fun r=>?_
  rw[iTwoTurn_l,sTwoTurn_l,bnd_s,bnd_s,iTwoInv_l,sTwoInv_l,bnd_s,bnd_s,iTwoMul_l,sTwoMul_l,bnd_s,bnd_s]
  exact Both.bnd (twoPow_both _ 12 (by decide)) fun _=> .ret
 cases p.2.2.1<;>cases q.2.2.1<;>cases ingroup p<;>cases ingroup q<;>first|exact .ret|exact key
def fpRoot (a:Int):Int×Bool:=if fmul (fpow a 3027) (fpow a 3027)=a % 12107 then (imin (fpow a 3027) (fsub 0 (fpow a 3027)),true) else (0,false)
theorem fsub_0 {r:Int} (h:fok r):(-r) % 12107=fsub 0 r:=by unfold fsub;rw[fok_id h];simp
theorem iFpRoot_l (a:Int):iFpRoot_d (a,())=some (((fpRoot a).1,((fpRoot a).2,())),()):=by
 have h:=iPowerMod_l a 3027 12107 (by decide) (by decide) (by decide)
 have h0:fok (fpow a 3027):=fok_fpow a 3027
 have h1:iPowerMod_d (a,(3027,(12107,())))=some ((fpow a 3027,()),()):=h
 rw[iFpRoot_b,h1,bnd_s,iFpMul_l,bnd_s,iFpOf_l,bnd_s,ine_d]
 unfold fpRoot
 by_cases hc:fmul (fpow a 3027) (fpow a 3027)=a % 12107
 ·rw[decide_eq_true hc,if_pos hc]
  simp only[Bool.not_true,cnd_f]
  rw[ineg_64 (by have:=h0.1;omega) (by have:=h0.2;omega),iFpOf_l,bnd_s,fsub_0 h0]
 ·rw[decide_eq_false hc,if_neg hc];rfl
theorem sFpRoot_l (a:Int):sFpRoot_d (a,())=some (((fpRoot a).1,((fpRoot a).2,())),()):=by
 have h1:sFpPow_d (a,(3027,()))=some ((fpow a 3027,()),()):=sFpPow_l a 3027 (by decide)
 rw[sFpRoot_b,h1,bnd_s,sFpMul_l,bnd_s,sFpOf_l,bnd_s,ine_d]
 unfold fpRoot
 by_cases hc:fmul (fpow a 3027) (fpow a 3027)=a % 12107
 ·rw[decide_eq_true hc,if_pos hc]
  simp only[Bool.not_true,cnd_f,sFpSub_l,bnd_s]
  unfold imin
  by_cases hl:fsub 0 (fpow a 3027)<fpow a 3027
  ·rw[ilt_t hl,cnd_t]
   congr 3
   omega
  ·rw[ilt_f (by omega),cnd_f]
   congr 3
   omega
 ·rw[decide_eq_false hc,if_neg hc];rfl
theorem hash_loop (t:ByteArray) (ht:t.size≤1048576) (z:tPoint): ∀ (k i:Nat),i+k=64→Both (iHashPoint_D2 (t,((i:Int),(z,())))) (sHashPoint_D2 (t,((i:Int),(z,())))):=by
 intro k
 induction k with
 |zero=>intro i hi;rw[iHashPoint_q2,sHashPoint_q2,iBase_b,sBase_b];exact Both.fls (ilt_f (by omega)) (ilt_f (by omega)) .ret
 |succ k ih=>
  intro i hi
  have hs:(sof (iconv .u8 (i:Int)::([]:List Int))).size=1:=size_sof
  have hd:=digestV_size (scat (sof (iconv .u8 (i:Int)::([]:List Int))) t)
  have hin: ∀j:Nat,j<32→inb (j:Int) (ssz (digestV (scat (sof (iconv .u8 (i:Int)::([]:List Int))) t)))=true:=fun j hj=>by rw[ssz_d,hd];exact inb_t (by omega) (by omega)
  have hz:(scat (sof (iconv .u8 (i:Int)::([]:List Int))) t).size≤268435456:=by rw[size_scat,hs];omega
  rw[iHashPoint_q2,sHashPoint_q2]
  refine Both.tru (ilt_t (by omega)) (ilt_t (by omega)) (Both.tru (cat_fits (by rw[hs];omega)) (cat_fits (by rw[hs];omega)) ?_)
  rw[iDigest_l _ hz,sDigest_l _ hz,bnd_s,bnd_s]
  refine Both.tru (hin 0 (by decide)) (hin 0 (by decide)) (Both.tru rfl rfl (Both.tru (hin 1 (by decide)) (hin 1 (by decide)) (Both.tru rfl rfl (Both.tru (hin 2 (by decide)) (hin 2 (by decide)) (Both.tru rfl rfl (Both.tru (hin 3 (by decide)) (hin 3 (by decide)) ?_))))))
  rw[iFpOf_l,sFpOf_l,bnd_s,bnd_s,iCurveAt_l,sRight_l,bnd_s,bnd_s,iFpRoot_l,sFpRoot_l,bnd_s,bnd_s]
  simp only[]
  rw[sTimes_l _ _ (by decide),bnd_s,next_at (by omega)]
  cases (fpRoot (curve _)).2
  ·exact ih (i+1) (by omega)
  ·rw[show bnot true=false from rfl,cnd_f,cnd_t,iTimes_l,bnd_s]
   exact Both.cnd rfl .ret (ih (i+1) (by omega))
theorem hash_both (t:ByteArray) (ht:t.size≤1048576):Both (iHashPoint_d (t,())) (sHashPoint_d (t,())):=by
 rw[iHashPoint_b,sHashPoint_b]
 exact hash_loop t ht zPoint 64 0 rfl
theorem sig_both (k:tPoint) (t:ByteArray) (s:tPoint) (ht:t.size≤1048576):Both (iSigOk_d (k,(t,(s,())))) (sSigOk_d (k,(t,(s,())))):=by
 rw[iSigOk_b,sSigOk_b,iInGroup_l,sInGroup_l,bnd_s,bnd_s,iInGroup_l,sInGroup_l,bnd_s,bnd_s,iBase_b,sBase_b]
 simp only[bnd_s]
 cases k.2.2.1<;>cases s.2.2.1<;>cases ingroup k<;>cases ingroup s<;>first|exact .ret|exact Both.bnd (pairing_both s _) fun r=>Both.bnd (hash_both t ht) fun r'=>Both.bnd (pairing_both _ k) fun r''=> .ret
theorem allSig_both (ks:List tPoint) (t:ByteArray) (s:tPoint) (ht:t.size≤1048576) (hk:ks.length≤16777216):Both (iAllSigOk_d (ks,(t,(s,())))) (sAllSigOk_d (ks,(t,(s,())))):=by
 rw[iAllSigOk_b,sAllSigOk_b,iSumPoints_l ks hk,sSumPoints_l ks hk,bnd_s,bnd_s]
 exact Both.cnd rfl (Both.bnd (sig_both _ t s ht) fun r=> .ret) .ret
end Go.Proofs.YtkfifjaomgjnnaaGreatDoor
