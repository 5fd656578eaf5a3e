/- What the functions of the field and of the curve come to, the program's and the reference's. Of no condition. -/
import Derived.Test.YtoeiajpklkijgaaGreatDoorPA
set_option linter.unusedVariables false
set_option linter.unusedSimpArgs false
set_option maxRecDepth 100000
namespace Go.Proofs.YtoeiajpklkijgaaGreatDoor
open Go.TV
def I64 (n:Int):Prop:= -9223372036854775808≤n∧n≤9223372036854775807
theorem I64.of {n:Int} (h:GoodV (.int .i64) n):I64 n:=good_int h
theorem I64.fok {n:Int} (h:fok n):I64 n:=⟨by have:=h.1;omega,by have:=h.2;omega⟩
theorem I64.mk {n:Int} (h0: -9223372036854775808≤n) (h1:n≤9223372036854775807):I64 n:=⟨h0,h1⟩
theorem tmod_cases (n m:Int) (hm:0<m):(0≤irem n m∧irem n m=n % m)∨(irem n m<0∧irem n m+m=n % m):=by
 unfold irem
 have h0:=Int.emod_nonneg n (Int.ne_of_gt hm)
 have h1:=Int.emod_lt_of_pos n hm
 rw[Int.tmod_eq_emod]
 split
 ·left;omega
 ·right;omega
theorem nz_lit {m:Int} (h:m≠0):nz m=true:=by rw[nz_d];simp [h]
theorem rem_law (n m:Int) (hm:0<m) (h1:m≤4294967296):cnd (ilt (irem n m) 0) (some ((iadd .i64 (irem n m) m,()),())) (some ((irem n m,()),()))=some ((n % m,()),()):=by
 have hb:=Int.emod_lt_of_pos n hm
 have hb0:=Int.emod_nonneg n (Int.ne_of_gt hm)
 rcases tmod_cases n m hm with ⟨h,e⟩| ⟨h,e⟩
 ·rw[ilt_f h,cnd_f,e]
 ·rw[ilt_t h,cnd_t,iadd_64 (by omega) (by omega),e]
theorem iRemainder_l (n m:Int) (hm:0<m) (h1:m≤4294967296):iRemainder_d (n,(m,()))=some ((n % m,()),()):=by
 rw[iRemainder_b,nz_lit (by omega),cnd_t,rem_law n m hm h1]
theorem iFpOf_l (n:Int):iFpOf_d (n,())=some ((n % 12107,()),()):=by
 rw[iFpOf_b,iRemainder_l n _ (by decide) (by decide),bnd_s]
theorem sFpOf_l (n:Int):sFpOf_d (n,())=some ((n % 12107,()),()):=by
 rw[sFpOf_b,nz_lit (by decide),cnd_t,rem_law n _ (by decide) (by decide)]
theorem iFpAdd_l (a b:Int):iFpAdd_d (a,(b,()))=some ((fadd a b,()),()):=by
 rw[iFpAdd_b,iFpOf_l,bnd_s,iFpOf_l,bnd_s,iadd_64 (x:=a % 12107) (y:=b % 12107) (by omega) (by omega),iFpOf_l,bnd_s];rfl
theorem sFpAdd_l (a b:Int):sFpAdd_d (a,(b,()))=some ((fadd a b,()),()):=by
 rw[sFpAdd_b,sFpOf_l,bnd_s,sFpOf_l,bnd_s,iadd_64 (x:=a % 12107) (y:=b % 12107) (by omega) (by omega),sFpOf_l,bnd_s];rfl
theorem iFpSub_l (a b:Int):iFpSub_d (a,(b,()))=some ((fsub a b,()),()):=by
 rw[iFpSub_b,iFpOf_l,bnd_s,iFpOf_l,bnd_s,isub_64 (x:=a % 12107) (y:=b % 12107) (by omega) (by omega),iFpOf_l,bnd_s];rfl
theorem sFpSub_l (a b:Int):sFpSub_d (a,(b,()))=some ((fsub a b,()),()):=by
 rw[sFpSub_b,sFpOf_l,bnd_s,sFpOf_l,bnd_s,isub_64 (x:=a % 12107) (y:=b % 12107) (by omega) (by omega),sFpOf_l,bnd_s];rfl
theorem mul_bound (a b:Int) (ha:0≤a∧a<65536) (hb:0≤b∧b<65536):0≤a*b∧a*b≤4294967296:=
 ⟨Int.mul_nonneg ha.1 hb.1,Int.le_trans (Int.mul_le_mul (c:=65536) (d:=65536) (by omega) (by omega) hb.1 (by omega)) (by decide)⟩
theorem iFpMul_l (a b:Int):iFpMul_d (a,(b,()))=some ((fmul a b,()),()):=by
 have:=mul_bound (a % 12107) (b % 12107) (by omega) (by omega)
 rw[iFpMul_b,iFpOf_l,bnd_s,iFpOf_l,bnd_s,imul_64 (x:=a % 12107) (y:=b % 12107) (by omega) (by omega),iFpOf_l,bnd_s];rfl
theorem sFpMul_l (a b:Int):sFpMul_d (a,(b,()))=some ((fmul a b,()),()):=by
 have:=mul_bound (a % 12107) (b % 12107) (by omega) (by omega)
 rw[sFpMul_b,sFpOf_l,bnd_s,sFpOf_l,bnd_s,imul_64 (x:=a % 12107) (y:=b % 12107) (by omega) (by omega),sFpOf_l,bnd_s];rfl
theorem pow_even (A M O n:Nat) (h:n % 2=0):O*(A*A % M)^ (n/2) % M=O*A^n % M:=by
 rw[Nat.mul_mod,←Nat.pow_mod,←Nat.mul_mod]
 congr 2
 rw[show A*A=A^2 from (Nat.pow_two A).symm,←Nat.pow_mul]
 congr 1
 omega
theorem pow_odd (A M O n:Nat) (h:n % 2=1):O*A % M*(A*A % M)^ (n/2) % M=O*A^n % M:=by
 rw[Nat.mul_mod,←Nat.pow_mod,Nat.mod_mod,←Nat.mul_mod]
 congr 1
 rw[show A*A=A^2 from (Nat.pow_two A).symm,←Nat.pow_mul,Nat.mul_assoc,←Nat.pow_succ']
 congr 2
 omega
theorem iquo_2 (n:Nat) (h:n≤4611686018427387904):iquo .i64 (n:Int) 2=((n/2:Nat):Int):=by
 rw[iquo_64 (by omega) (by omega) (by decide)];omega
theorem irem_2 (n:Nat):irem (n:Int) 2=((n % 2:Nat):Int):=by rw[irem_0 (by omega)];omega
theorem irem_mul (a b m:Nat) (ha:a<65536) (hb:b<65536):irem (imul .i64 (a:Int) (b:Int)) (m:Int)=((a*b % m:Nat):Int):=by
 have h1:a*b≤65536*65536:=Nat.mul_le_mul (by omega) (by omega)
 rw[imul_64 (by rw[←Int.natCast_mul];omega) (by rw[←Int.natCast_mul];omega),irem_0 (by rw[←Int.natCast_mul];omega),←Int.natCast_mul,←Int.natCast_emod]
theorem iPowerMod_loop: ∀ (n A M O:Nat),n≤4611686018427387904→A<M→O<M→M≤65536→iPowerMod_D3 ((A:Int),((n:Int),((M:Int),((O:Int),()))))=some ((((O*A^n % M:Nat):Int),()),()):=by
 intro n
 induction n using Nat.strongRecOn with
 |_ n ih=>
  intro A M O hn hA hO hM
  rw[iPowerMod_q3]
  by_cases h0:n=0
  ·subst h0
   rw[igt_f (by omega),cnd_f]
   simp [Nat.mod_eq_of_lt hO]
  ·have hA2:A*A % M<M:=Nat.mod_lt _ (by omega)
   rw[igt_t (by omega),cnd_t,nz_lit (by decide),cnd_t,irem_2,ieq_d]
   rw[nz_lit (by omega),cnd_t]
   rcases Nat.mod_two_eq_zero_or_one n with h|h
   ·rw[h,show decide (((0:Nat):Int)=1)=false from rfl,cnd_f,iPowerMod_q6,nz_lit (by omega),cnd_t,nz_lit (by decide),cnd_t,irem_mul _ _ _ (by omega) (by omega),iquo_2 n hn,ih (n/2) (by omega) _ _ _ (by omega) hA2 hO hM,pow_even _ _ _ _ h]
   ·have hO2:O*A % M<M:=Nat.mod_lt _ (by omega)
    rw[h,show decide (((1:Nat):Int)=1)=true from rfl,cnd_t,irem_mul _ _ _ (by omega) (by omega),iPowerMod_q6,nz_lit (by omega),cnd_t,nz_lit (by decide),cnd_t,irem_mul _ _ _ (by omega) (by omega),iquo_2 n hn,ih (n/2) (by omega) _ _ _ (by omega) hA2 hO2 hM,pow_odd _ _ _ _ h]
theorem iPowerMod_l (a:Int) (n M:Nat) (hn:n≤4611686018427387904) (hM:1<M) (hM':M≤65536):iPowerMod_d (a,((n:Int),((M:Int),())))=some ((((npow M (a % (M:Int)).toNat n:Nat):Int),()),()):=by
 have h0:=Int.emod_nonneg a (show (M:Int)≠0 by omega)
 have h1:=Int.emod_lt_of_pos a (show 0<(M:Int) by omega)
 obtain ⟨r,hr⟩:=Int.eq_ofNat_of_zero_le h0
 rw[iPowerMod_b,iRemainder_l _ _ (by omega) (by omega),bnd_s,hr]
 have:=iPowerMod_loop n r M 1 hn (by omega) hM hM'
 rw[Nat.one_mul] at this
 exact this
theorem iFpInv_l (a:Int):iFpInv_d (a,())=some ((finv a,()),()):=by
 rw[iFpInv_b]
 have:=iPowerMod_l a 12105 12107 (by decide) (by decide) (by decide)
 have h2:iPowerMod_d (a,((12105:Int),((12107:Int),())))=_:=this
 rw[h2,bnd_s];rfl
theorem fmul_nat (a b:Nat) (ha:a<12107) (hb:b<12107):fmul (a:Int) (b:Int)=((a*b % 12107:Nat):Int):=by
 unfold fmul
 have e1:(a:Int) % 12107=a:=Int.emod_eq_of_lt (by omega) (by omega)
 have e2:(b:Int) % 12107=b:=Int.emod_eq_of_lt (by omega) (by omega)
 rw[e1,e2,←Int.natCast_mul]
 omega
theorem sFpPow_loop: ∀ (n A O:Nat),n≤4611686018427387904→A<12107→O<12107→sFpPow_D5 ((n:Int),((O:Int),((A:Int),())))=some ((((O*A^n % 12107:Nat):Int),()),()):=by
 intro n
 induction n using Nat.strongRecOn with
 |_ n ih=>
  intro A O hn hA hO
  rw[sFpPow_q5]
  by_cases h0:n=0
  ·subst h0
   rw[igt_f (by omega),cnd_f]
   simp [Nat.mod_eq_of_lt hO]
  ·have hA2:A*A % 12107<12107:=Nat.mod_lt _ (by omega)
   rw[igt_t (by omega),cnd_t,nz_lit (by decide),cnd_t,irem_2,ieq_d]
   rcases Nat.mod_two_eq_zero_or_one n with h|h
   ·rw[h,show decide (((0:Nat):Int)=1)=false from rfl,cnd_f,sFpPow_q8,sFpMul_l,bnd_s,nz_lit (by decide),cnd_t,fmul_nat _ _ hA hA,iquo_2 n hn,ih (n/2) (by omega) _ _ (by omega) hA2 hO,pow_even _ _ _ _ h]
   ·have hO2:O*A % 12107<12107:=Nat.mod_lt _ (by omega)
    rw[h,show decide (((1:Nat):Int)=1)=true from rfl,cnd_t,sFpMul_l,bnd_s,fmul_nat _ _ hO hA,sFpPow_q8,sFpMul_l,bnd_s,nz_lit (by decide),cnd_t,fmul_nat _ _ hA hA,iquo_2 n hn,ih (n/2) (by omega) _ _ (by omega) hA2 hO2,pow_odd _ _ _ _ h]
theorem sFpPow_l (a:Int) (n:Nat) (hn:n≤4611686018427387904):sFpPow_d (a,((n:Int),()))=some ((fpow a n,()),()):=by
 have h0:=Int.emod_nonneg a (show (12107:Int)≠0 by omega)
 have h1:=Int.emod_lt_of_pos a (show 0<(12107:Int) by omega)
 obtain ⟨r,hr⟩:=Int.eq_ofNat_of_zero_le h0
 rw[sFpPow_b,ilt_f (by omega),cnd_f,sFpOf_l,bnd_s,hr]
 have:=sFpPow_loop n r 1 hn (by omega) (by decide)
 rw[Nat.one_mul] at this
 simp only[fpow,hr,Int.toNat_natCast]
 exact this
theorem sFpInv_l (a:Int):sFpInv_d (a,())=some ((finv a,()),()):=by
 rw[sFpInv_b]
 have h2:sFpPow_d (a,((12105:Int),()))=_:=sFpPow_l a 12105 (by decide)
 rw[h2,bnd_s];rfl
theorem iFpOk_l (a:Int):iFpOk_d (a,())=some ((decide (fok a),()),()):=by
 rw[iFpOk_b,ige_d,cnd_d,ilt_d]
 by_cases h:0≤a<;>simp [h,fok]
theorem sFpOk_l (a:Int):sFpOk_d (a,())=some ((decide (fok a),()),()):=by
 rw[sFpOk_b,sIn_l,bnd_s]
 have:(0≤a∧a≤12106)↔fok a:=by unfold fok;omega
 simp only[this]
theorem iCurveAt_l (x:Int):iCurveAt_d (x,())=some ((curve x,()),()):=by
 rw[iCurveAt_b,iFpMul_l,bnd_s,iFpMul_l,bnd_s,iFpAdd_l,bnd_s];rfl
theorem sRight_l (x:Int):sL07Right_d (x,())=some ((curve x,()),()):=by
 rw[sL07Right_b,sFpMul_l,bnd_s,sFpMul_l,bnd_s,sFpAdd_l,bnd_s];rfl
theorem pok_law (p:tPoint):(cnd p.2.2.1 (cnd (ieq p.1 0) (some ((ieq p.2.1 0,()),())) (some ((false,()),()))) (cnd (decide (fok p.1)) (cnd (decide (fok p.2.1)) (some ((ieq (fmul p.2.1 p.2.1) (curve p.1),()),())) (some ((false,()),()))) (some ((false,()),()))))=(some ((decide (pok p),()),()):Option ((Bool×Unit)×Unit)):=by
 cases h:p.2.2.1
 ·rw[cnd_f]
  simp only[pok_not h,cnd_d,ieq_d]
  by_cases h1:fok p.1<;>by_cases h2:fok p.2.1<;>simp [h1,h2]
 ·rw[cnd_t]
  have:pok p↔p.1=0∧p.2.1=0:=by unfold pok;rw[if_pos h]
  simp only[this,ieq_d,cnd_d]
  by_cases h1:p.1=0<;>by_cases h2:p.2.1=0<;>simp [h1,h2]
theorem iPointOk_l (p:tPoint):iPointOk_d (p,())=some ((decide (pok p),()),()):=by
 rw[iPointOk_b,iFpOk_l,bnd_s,iFpOk_l,bnd_s,iFpMul_l,bnd_s,iCurveAt_l,bnd_s]
 exact pok_law p
theorem sPointOk_l (p:tPoint):sPointOk_d (p,())=some ((decide (pok p),()),()):=by
 rw[sPointOk_b,sFpOk_l,bnd_s,sFpOk_l,bnd_s,sFpMul_l,bnd_s,sRight_l,bnd_s]
 exact pok_law p
theorem sSlope_l (p q:tPoint):sL07Slope_d (p,(q,()))=some (((slope p q).1,((slope p q).2,())),()):=by
 rw[sL07Slope_b,sFpAdd_l,bnd_s]
 simp only[sFpMul_l,sFpAdd_l,sFpSub_l,sFpInv_l,bnd_s,ine_d,ieq_d,cnd_not,cnd_d]
 unfold slope
 split
 ·split<;>rfl
 ·rfl
theorem iSlope_l (p q:tPoint) (hp:pok p) (hq:pok q) (zp:p.2.2.1=false) (zq:q.2.2.1=false):iSlopeOf_d (p,(q,()))=some (((slope p q).1,((slope p q).2,())),()):=by
 rw[iSlopeOf_b]
 simp only[iFpMul_l,iFpAdd_l,iFpSub_l,iFpInv_l,bnd_s,ine_d,ieq_d,cnd_not,cnd_d]
 unfold slope
 by_cases hx:p.1=q.1
 ·rw[if_pos hx,if_pos hx]
  by_cases hy:p.2.1=q.2.1
  ·rw[if_pos hy,←hy]
   have h1:=fadd_self (((pok_not zp).1 hp).2.1)
   by_cases h0:p.2.1=0
   ·rw[if_pos h0,if_pos (h1.2 h0)]
   ·rw[if_neg h0,if_neg (fun h=>h0 (h1.1 h))]
  ·rw[if_neg hy,if_pos ((over_one hp hq zp zq hx).resolve_left hy)]
 ·rw[if_neg hx,if_neg hx]
theorem sAdd_l (p q:tPoint):sL07Add_d (p,(q,()))=some ((padd p q,()),()):=by
 rw[sL07Add_b]
 unfold padd
 cases zp:p.2.2.1
 ·cases zq:q.2.2.1
  ·rw[cnd_f,cnd_f,sSlope_l p q,bnd_s]
   simp only[sFpMul_l,sFpSub_l,bnd_s,bnot_d,cnd_not]
   cases hs:(slope p q).2
   ·rw[cnd_f,sL07Zero_b,bnd_s];rfl
   ·rfl
  ·rfl
 ·rfl
theorem iAdd_l (p q:tPoint) (hp:pok p) (hq:pok q):iAdd_d (p,(q,()))=some ((padd p q,()),()):=by
 rw[iAdd_b]
 unfold padd
 cases zp:p.2.2.1
 ·cases zq:q.2.2.1
  ·rw[cnd_f,cnd_f,iSlope_l p q hp hq zp zq,bnd_s]
   simp only[iFpMul_l,iFpSub_l,bnd_s,bnot_d,cnd_not]
   cases hs:(slope p q).2
   ·rfl
   ·rfl
  ·rfl
 ·rfl
theorem iTimes_loop (z:tPoint): ∀ (f n:Nat) (p out:tPoint),n<2^f→f≤60→pok p→pok out→iPointTimes_D5 ((n:Int),(p,(z,(out,()))))=some ((ptl f n p out,()),()):=by
 intro f
 induction f with
 |zero=>
  intro n p out hn _ hp ho
  have:n=0:=by simp at hn;exact hn
  subst this
  rw[iPointTimes_q5,igt_f (by omega),cnd_f];rfl
 |succ f ih=>
  intro n p out hn hf hp ho
  rw[iPointTimes_q5]
  by_cases h0:n=0
  ·subst h0
   rw[igt_f (by omega),cnd_f,ptl_0]
  ·have hn':n/2<2^f:=by rw[Nat.pow_succ] at hn;omega
   have hb:n≤4611686018427387904:=by
    have:=Nat.pow_le_pow_right (n:=2) (by decide) (show f+1≤61 by omega)
    have e:(2:Nat)^61=2305843009213693952:=rfl
    omega
   rw[igt_t (by omega),cnd_t,nz_lit (by decide),cnd_t,irem_2,ieq_d,iAdd_l p p hp hp,iAdd_l out p ho hp,bnd_s,bnd_s,cnd_t,iquo_2 n hb]
   unfold ptl
   rw[if_neg h0]
   rcases Nat.mod_two_eq_zero_or_one n with h|h
   ·rw[h,show decide (((0:Nat):Int)=1)=false from rfl,cnd_f,if_neg (by decide),bnd_s,cnd_t]
    exact ih _ _ _ hn' (by omega) (padd_ok hp hp) ho
   ·rw[h,show decide (((1:Nat):Int)=1)=true from rfl,cnd_t,if_pos rfl]
    exact ih _ _ _ hn' (by omega) (padd_ok hp hp) (padd_ok ho hp)
theorem sTimes_loop (z:tPoint): ∀ (f n:Nat) (p out:tPoint),n<2^f→f≤60→sPointTimes_D9 ((n:Int),(z,(p,(out,()))))=some ((ptl f n p out,()),()):=by
 intro f
 induction f with
 |zero=>
  intro n p out hn _
  have:n=0:=by simp at hn;exact hn
  subst this
  rw[sPointTimes_q9,igt_f (by omega),cnd_f];rfl
 |succ f ih=>
  intro n p out hn hf
  rw[sPointTimes_q9]
  by_cases h0:n=0
  ·subst h0
   rw[igt_f (by omega),cnd_f,ptl_0]
  ·have hn':n/2<2^f:=by rw[Nat.pow_succ] at hn;omega
   have hb:n≤4611686018427387904:=by
    have:=Nat.pow_le_pow_right (n:=2) (by decide) (show f+1≤61 by omega)
    have e:(2:Nat)^61=2305843009213693952:=rfl
    omega
   rw[igt_t (by omega),cnd_t,nz_lit (by decide),cnd_t,irem_2,ieq_d,sAdd_l,bnd_s]
   unfold ptl
   rw[if_neg h0]
   rcases Nat.mod_two_eq_zero_or_one n with h|h
   ·rw[h,show decide (((0:Nat):Int)=1)=false from rfl,cnd_f,if_neg (by decide),sPointTimes_q12,sAdd_l,bnd_s,nz_lit (by decide),cnd_t,iquo_2 n hb]
    exact ih _ _ _ hn' (by omega)
   ·rw[h,show decide (((1:Nat):Int)=1)=true from rfl,cnd_t,if_pos rfl,sPointTimes_q12,sAdd_l,bnd_s,nz_lit (by decide),cnd_t,iquo_2 n hb]
    exact ih _ _ _ hn' (by omega)
theorem iTimes_l (k:Int) (p:tPoint):iPointTimes_d (k,(p,()))=some ((ptimes k p,()),()):=by
 rw[iPointTimes_b,iPointOk_l,bnd_s,bnot_d,cnd_not,cnd_d]
 unfold ptimes
 by_cases h:pok p
 ·rw[if_pos h,if_pos h,iRemainder_l _ _ (by decide) (by decide),bnd_s]
  have:=iTimes_loop zPoint 14 (k % 12108).toNat p (0,(0,(true,()))) (by omega) (by decide) h pok_zeroP
  rw[show (((k % 12108).toNat:Nat):Int)=k % 12108 by omega] at this
  exact this
 ·rw[if_neg h,if_neg h];rfl
theorem sTimes_l (k:Int) (p:tPoint) (hk:0≤k):sPointTimes_d (k,(p,()))=some ((ptimes k p,()),()):=by
 rw[sPointTimes_b,sPointOk_l,bnd_s,bnot_d,cnd_not,cnd_d,sL07Zero_b,bnd_s]
 unfold ptimes
 by_cases h:pok p
 ·rw[if_pos h,if_pos h,nz_lit (by decide),cnd_t,irem_0 hk,ilt_f (by omega),cnd_f,sPointTimes_q8,sL07Zero_b,bnd_s]
  have:=sTimes_loop zPoint 14 (k % 12108).toNat p (0,(0,(true,()))) (by omega) (by decide)
  rw[show (((k % 12108).toNat:Nat):Int)=k % 12108 by omega] at this
  exact this
 ·rw[if_neg h,if_neg h];rfl
theorem ingroup_law (p:tPoint):(cnd (decide (pok p)) (some (((ptimes 1009 p).2.2.1,()),())) (some ((false,()),())))=some ((ingroup p,()),()):=by
 unfold ingroup
 by_cases h:pok p<;>simp [h,cnd]
theorem iInGroup_l (p:tPoint):iInGroup_d (p,())=some ((ingroup p,()),()):=by
 rw[iInGroup_b,iPointOk_l,bnd_s,iTimes_l,bnd_s]
 exact ingroup_law p
theorem sInGroup_l (p:tPoint):sInGroup_d (p,())=some ((ingroup p,()),()):=by
 rw[sInGroup_b,sPointOk_l,bnd_s,sTimes_l _ _ (by decide),bnd_s]
 exact ingroup_law p
end Go.Proofs.YtoeiajpklkijgaaGreatDoor
