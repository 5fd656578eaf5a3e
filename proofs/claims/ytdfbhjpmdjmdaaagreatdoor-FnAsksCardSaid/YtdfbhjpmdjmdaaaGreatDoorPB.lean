/- What the functions of the field and of the curve come to, the program's and the reference's. Of no condition. -/
import Derived.Test.YtdfbhjpmdjmdaaaGreatDoorPA
set_option linter.unusedVariables false
set_option linter.unusedSimpArgs false
set_option maxRecDepth 100000
namespace Go.Proofs.YtdfbhjpmdjmdaaaGreatDoor
open Go.TV
def I64 (n:Int):Prop:= -9223372036854775808≤n∧n≤9223372036854775807
theorem I64.of {n:Int} (h:nz8 (.int .i64) n):I64 n:=OzD h
theorem I64.fok {n:Int} (h:fok n):I64 n:=⟨by have:=h.1;omega,by have:=h.2;omega⟩
theorem I64.mk {n:Int} (h0: -9223372036854775808≤n) (h1:n≤9223372036854775807):I64 n:=⟨h0,h1⟩
theorem IzY (n m:Int) (hm:0<m):(0≤irem n m∧irem n m=n % m)∨(irem n m<0∧irem n m+m=n % m):=by
 unfold irem
 have h0:=Int.emod_nonneg n (Int.ne_of_gt hm)
 have h1:=Int.emod_lt_of_pos n hm
 rw[Int.tmod_eq_emod]
 split
 ·left;omega
 ·right;omega
theorem izt {m:Int} (h:m≠0):nz m=true:=by rw[nz_d];simp [h]
theorem KzS (n m:Int) (hm:0<m) (h1:m≤4294967296):cnd (ilt (irem n m) 0) (some ((iadd .i64 (irem n m) m,()),())) (some ((irem n m,()),()))=some ((n % m,()),()):=by
 have hb:=Int.emod_lt_of_pos n hm
 have hb0:=Int.emod_nonneg n (Int.ne_of_gt hm)
 rcases IzY n m hm with ⟨h,e⟩| ⟨h,e⟩
 ·rw[az7 h,azc,e]
 ·rw[bzW h,aza,azH (by omega) (by omega),e]
theorem oz7 (n m:Int) (hm:0<m) (h1:m≤4294967296):fzF (n,(m,()))=some ((n % m,()),()):=by
 rw[Ezo,izt (by omega),aza,KzS n m hm h1]
theorem mzT (n:Int):izj (n,())=some ((n % 12107,()),()):=by
 rw[QzT,oz7 n _ (by decide) (by decide),azd]
theorem kze (n:Int):fzQ (n,())=some ((n % 12107,()),()):=by
 rw[QzY,izt (by decide),aza,KzS n _ (by decide) (by decide)]
theorem Gz0 (a b:Int):sz6 (a,(b,()))=some ((fadd a b,()),()):=by
 rw[Oz2,mzT,azd,mzT,azd,azH (x:=a % 12107) (y:=b % 12107) (by omega) (by omega),mzT,azd];rfl
theorem Czd (a b:Int):pzd (a,(b,()))=some ((fadd a b,()),()):=by
 rw[NzG,kze,azd,kze,azd,azH (x:=a % 12107) (y:=b % 12107) (by omega) (by omega),kze,azd];rfl
theorem GzH (a b:Int):izW (a,(b,()))=some ((fsub a b,()),()):=by
 rw[OzG,mzT,azd,mzT,azd,bzi (x:=a % 12107) (y:=b % 12107) (by omega) (by omega),mzT,azd];rfl
theorem Bzq (a b:Int):ez1 (a,(b,()))=some ((fsub a b,()),()):=by
 rw[OzL,kze,azd,kze,azd,bzi (x:=a % 12107) (y:=b % 12107) (by omega) (by omega),kze,azd];rfl
theorem Cz6 (a b:Int) (ha:0≤a∧a<65536) (hb:0≤b∧b<65536):0≤a*b∧a*b≤4294967296:=
 ⟨Int.mul_nonneg ha.1 hb.1,Int.le_trans (Int.mul_le_mul (c:=65536) (d:=65536) (by omega) (by omega) hb.1 (by omega)) (by decide)⟩
theorem szB (a b:Int):eze (a,(b,()))=some ((fmul a b,()),()):=by
 have:=Cz6 (a % 12107) (b % 12107) (by omega) (by omega)
 rw[OzH,mzT,azd,mzT,azd,fz9 (x:=a % 12107) (y:=b % 12107) (by omega) (by omega),mzT,azd];rfl
theorem izV (a b:Int):czO (a,(b,()))=some ((fmul a b,()),()):=by
 have:=Cz6 (a % 12107) (b % 12107) (by omega) (by omega)
 rw[Ozq,kze,azd,kze,azd,fz9 (x:=a % 12107) (y:=b % 12107) (by omega) (by omega),kze,azd];rfl
theorem HzE (A M O n:Nat) (h:n % 2=0):O*(A*A % M)^ (n/2) % M=O*A^n % M:=by
 rw[Nat.mul_mod,←Nat.pow_mod,←Nat.mul_mod]
 congr 2
 rw[show A*A=A^2 from (Nat.pow_two A).symm,←Nat.pow_mul]
 congr 1
 omega
theorem KzL (A M O n:Nat) (h:n % 2=1):O*A % M*(A*A % M)^ (n/2) % M=O*A^n % M:=by
 rw[Nat.mul_mod,←Nat.pow_mod,Nat.mod_mod,←Nat.mul_mod]
 congr 1
 rw[show A*A=A^2 from (Nat.pow_two A).symm,←Nat.pow_mul,Nat.mul_assoc,←Nat.pow_succ']
 congr 2
 omega
theorem xzY (n:Nat) (h:n≤4611686018427387904):iquo .i64 (n:Int) 2=((n/2:Nat):Int):=by
 rw[tzN (by omega) (by omega) (by decide)];omega
theorem GzK (n:Nat):irem (n:Int) 2=((n % 2:Nat):Int):=by rw[fzW (by omega)];omega
theorem AzQ (a b m:Nat) (ha:a<65536) (hb:b<65536):irem (imul .i64 (a:Int) (b:Int)) (m:Int)=((a*b % m:Nat):Int):=by
 have h1:a*b≤65536*65536:=Nat.mul_le_mul (by omega) (by omega)
 rw[fz9 (by rw[←Int.natCast_mul];omega) (by rw[←Int.natCast_mul];omega),fzW (by rw[←Int.natCast_mul];omega),←Int.natCast_mul,←Int.natCast_emod]
theorem yz3: ∀ (n A M O:Nat),n≤4611686018427387904→A<M→O<M→M≤65536→kzQ ((A:Int),((n:Int),((M:Int),((O:Int),()))))=some ((((O*A^n % M:Nat):Int),()),()):=by
 intro n
 induction n using Nat.strongRecOn with
 |_ n ih=>
  intro A M O hn hA hO hM
  rw[Dzr]
  by_cases h0:n=0
  ·subst h0
   rw[bzy (by omega),azc]
   simp [Nat.mod_eq_of_lt hO]
  ·have hA2:A*A % M<M:=Nat.mod_lt _ (by omega)
   rw[cze (by omega),aza,izt (by decide),aza,GzK,czd]
   rw[izt (by omega),aza]
   rcases Nat.mod_two_eq_zero_or_one n with h|h
   ·rw[h,show decide (((0:Nat):Int)=1)=false from rfl,azc,uz3,izt (by omega),aza,izt (by decide),aza,AzQ _ _ _ (by omega) (by omega),xzY n hn,ih (n/2) (by omega) _ _ _ (by omega) hA2 hO hM,HzE _ _ _ _ h]
   ·have hO2:O*A % M<M:=Nat.mod_lt _ (by omega)
    rw[h,show decide (((1:Nat):Int)=1)=true from rfl,aza,AzQ _ _ _ (by omega) (by omega),uz3,izt (by omega),aza,izt (by decide),aza,AzQ _ _ _ (by omega) (by omega),xzY n hn,ih (n/2) (by omega) _ _ _ (by omega) hA2 hO2 hM,KzL _ _ _ _ h]
theorem EzW (a:Int) (n M:Nat) (hn:n≤4611686018427387904) (hM:1<M) (hM':M≤65536):jzT (a,((n:Int),((M:Int),())))=some ((((npow M (a % (M:Int)).toNat n:Nat):Int),()),()):=by
 have h0:=Int.emod_nonneg a (show (M:Int)≠0 by omega)
 have h1:=Int.emod_lt_of_pos a (show 0<(M:Int) by omega)
 obtain ⟨r,hr⟩:=Int.eq_ofNat_of_zero_le h0
 rw[FzI,oz7 _ _ (by omega) (by omega),azd,hr]
 have:=yz3 n r M 1 hn (by omega) hM hM'
 rw[Nat.one_mul] at this
 exact this
theorem NzF (a:Int):szo (a,())=some ((finv a,()),()):=by
 rw[OzN]
 have:=EzW a 12105 12107 (by decide) (by decide) (by decide)
 have h2:jzT (a,((12105:Int),((12107:Int),())))=_:=this
 rw[h2,azd];rfl
theorem BzH (a b:Nat) (ha:a<12107) (hb:b<12107):fmul (a:Int) (b:Int)=((a*b % 12107:Nat):Int):=by
 unfold fmul
 have e1:(a:Int) % 12107=a:=Int.emod_eq_of_lt (by omega) (by omega)
 have e2:(b:Int) % 12107=b:=Int.emod_eq_of_lt (by omega) (by omega)
 rw[e1,e2,←Int.natCast_mul]
 omega
theorem FzO: ∀ (n A O:Nat),n≤4611686018427387904→A<12107→O<12107→szt ((n:Int),((O:Int),((A:Int),())))=some ((((O*A^n % 12107:Nat):Int),()),()):=by
 intro n
 induction n using Nat.strongRecOn with
 |_ n ih=>
  intro A O hn hA hO
  rw[MzR]
  by_cases h0:n=0
  ·subst h0
   rw[bzy (by omega),azc]
   simp [Nat.mod_eq_of_lt hO]
  ·have hA2:A*A % 12107<12107:=Nat.mod_lt _ (by omega)
   rw[cze (by omega),aza,izt (by decide),aza,GzK,czd]
   rcases Nat.mod_two_eq_zero_or_one n with h|h
   ·rw[h,show decide (((0:Nat):Int)=1)=false from rfl,azc,DzE,izV,azd,izt (by decide),aza,BzH _ _ hA hA,xzY n hn,ih (n/2) (by omega) _ _ (by omega) hA2 hO,HzE _ _ _ _ h]
   ·have hO2:O*A % 12107<12107:=Nat.mod_lt _ (by omega)
    rw[h,show decide (((1:Nat):Int)=1)=true from rfl,aza,izV,azd,BzH _ _ hO hA,DzE,izV,azd,izt (by decide),aza,BzH _ _ hA hA,xzY n hn,ih (n/2) (by omega) _ _ (by omega) hA2 hO2,KzL _ _ _ _ h]
theorem HzR (a:Int) (n:Nat) (hn:n≤4611686018427387904):mzq (a,((n:Int),()))=some ((fpow a n,()),()):=by
 have h0:=Int.emod_nonneg a (show (12107:Int)≠0 by omega)
 have h1:=Int.emod_lt_of_pos a (show 0<(12107:Int) by omega)
 obtain ⟨r,hr⟩:=Int.eq_ofNat_of_zero_le h0
 rw[OzI,az7 (by omega),azc,kze,azd,hr]
 have:=FzO n r 1 hn (by omega) (by decide)
 rw[Nat.one_mul] at this
 simp only[fpow,hr,Int.toNat_natCast]
 exact this
theorem OzZ (a:Int):tzb (a,())=some ((finv a,()),()):=by
 rw[NzA]
 have h2:mzq (a,((12105:Int),()))=_:=HzR a 12105 (by decide)
 rw[h2,azd];rfl
theorem MzH (a:Int):xz1 (a,())=some ((decide (fok a),()),()):=by
 rw[Qzd,czX,yzw,ilt_d]
 by_cases h:0≤a<;>simp [h,fok]
theorem Jz6 (a:Int):xzk (a,())=some ((decide (fok a),()),()):=by
 rw[QzZ,tzD,azd]
 have:(0≤a∧a≤12106)↔fok a:=by unfold fok;omega
 simp only[this]
theorem JzN (x:Int):pzb (x,())=some ((Bzk x,()),()):=by
 rw[IzF,szB,azd,szB,azd,Gz0,azd];rfl
theorem Hzx (x:Int):jzW (x,())=some ((Bzk x,()),()):=by
 rw[Fzm,izV,azd,izV,azd,Czd,azd];rfl
theorem KzU (p:azm):(cnd p.2.2.1 (cnd (ieq p.1 0) (some ((ieq p.2.1 0,()),())) (some ((false,()),()))) (cnd (decide (fok p.1)) (cnd (decide (fok p.2.1)) (some ((ieq (fmul p.2.1 p.2.1) (Bzk p.1),()),())) (some ((false,()),()))) (some ((false,()),()))))=(some ((decide (pok p),()),()):Option ((Bool×Unit)×Unit)):=by
 cases h:p.2.2.1
 ·rw[azc]
  simp only[qz5 h,yzw,czd]
  by_cases h1:fok p.1<;>by_cases h2:fok p.2.1<;>simp [h1,h2]
 ·rw[aza]
  have:pok p↔p.1=0∧p.2.1=0:=by unfold pok;rw[if_pos h]
  simp only[this,czd,yzw]
  by_cases h1:p.1=0<;>by_cases h2:p.2.1=0<;>simp [h1,h2]
theorem tz2 (p:azm):jzn (p,())=some ((decide (pok p),()),()):=by
 rw[IzQ,MzH,azd,MzH,azd,szB,azd,JzN,azd]
 exact KzU p
theorem tz4 (p:azm):jze (p,())=some ((decide (pok p),()),()):=by
 rw[Izb,Jz6,azd,Jz6,azd,izV,azd,Hzx,azd]
 exact KzU p
theorem NzP (p q:azm):mzZ (p,(q,()))=some (((pz8 p q).1,((pz8 p q).2,())),()):=by
 rw[Fzg,Czd,azd]
 simp only[izV,Czd,Bzq,OzZ,azd,czY,czd,kzd,yzw]
 unfold pz8
 split
 ·split<;>rfl
 ·rfl
theorem Pzj (p q:azm) (hp:pok p) (hq:pok q) (zp:p.2.2.1=false) (zq:q.2.2.1=false):pzT (p,(q,()))=some (((pz8 p q).1,((pz8 p q).2,())),()):=by
 rw[JzD]
 simp only[szB,Gz0,GzH,NzF,azd,czY,czd,kzd,yzw]
 unfold pz8
 by_cases hx:p.1=q.1
 ·rw[if_pos hx,if_pos hx]
  by_cases hy:p.2.1=q.2.1
  ·rw[if_pos hy,←hy]
   have h1:=Mzr (((qz5 zp).1 hp).2.1)
   by_cases h0:p.2.1=0
   ·rw[if_pos h0,if_pos (h1.2 h0)]
   ·rw[if_neg h0,if_neg (fun h=>h0 (h1.1 h))]
  ·rw[if_neg hy,if_pos ((Hzz hp hq zp zq hx).resolve_left hy)]
 ·rw[if_neg hx,if_neg hx]
theorem Lzx (p q:azm):oz2 (p,(q,()))=some ((padd p q,()),()):=by
 rw[KzG]
 unfold padd
 cases zp:p.2.2.1
 ·cases zq:q.2.2.1
  ·rw[azc,azc,NzP p q,azd]
   simp only[izV,Bzq,azd,GzA,kzd]
   cases hs:(pz8 p q).2
   ·rw[azc,tzv,azd];rfl
   ·rfl
  ·rfl
 ·rfl
theorem Pzk (p q:azm) (hp:pok p) (hq:pok q):zz7 (p,(q,()))=some ((padd p q,()),()):=by
 rw[iAdd_b]
 unfold padd
 cases zp:p.2.2.1
 ·cases zq:q.2.2.1
  ·rw[azc,azc,Pzj p q hp hq zp zq,azd]
   simp only[szB,GzH,azd,GzA,kzd]
   cases hs:(pz8 p q).2
   ·rfl
   ·rfl
  ·rfl
 ·rfl
theorem FzQ (z:azm): ∀ (f n:Nat) (p out:azm),n<2^f→f≤60→pok p→pok out→ezD ((n:Int),(p,(z,(out,()))))=some ((ptl f n p out,()),()):=by
 intro f
 induction f with
 |zero=>
  intro n p out hn _ hp ho
  have:n=0:=by simp at hn;exact hn
  subst this
  rw[qzv,bzy (by omega),azc];rfl
 |succ f ih=>
  intro n p out hn hf hp ho
  rw[qzv]
  by_cases h0:n=0
  ·subst h0
   rw[bzy (by omega),azc,ptl_0]
  ·have hn':n/2<2^f:=by rw[Nat.pow_succ] at hn;omega
   have hb:n≤4611686018427387904:=by
    have:=Nat.pow_le_pow_right (n:=2) (by decide) (show f+1≤61 by omega)
    have e:(2:Nat)^61=2305843009213693952:=rfl
    omega
   rw[cze (by omega),aza,izt (by decide),aza,GzK,czd,Pzk p p hp hp,Pzk out p ho hp,azd,azd,aza,xzY n hb]
   unfold ptl
   rw[if_neg h0]
   rcases Nat.mod_two_eq_zero_or_one n with h|h
   ·rw[h,show decide (((0:Nat):Int)=1)=false from rfl,azc,if_neg (by decide),azd,aza]
    exact ih _ _ _ hn' (by omega) (tzt hp hp) ho
   ·rw[h,show decide (((1:Nat):Int)=1)=true from rfl,aza,if_pos rfl]
    exact ih _ _ _ hn' (by omega) (tzt hp hp) (tzt ho hp)
theorem Ez0 (z:azm): ∀ (f n:Nat) (p out:azm),n<2^f→f≤60→hzA ((n:Int),(z,(p,(out,()))))=some ((ptl f n p out,()),()):=by
 intro f
 induction f with
 |zero=>
  intro n p out hn _
  have:n=0:=by simp at hn;exact hn
  subst this
  rw[qzi,bzy (by omega),azc];rfl
 |succ f ih=>
  intro n p out hn hf
  rw[qzi]
  by_cases h0:n=0
  ·subst h0
   rw[bzy (by omega),azc,ptl_0]
  ·have hn':n/2<2^f:=by rw[Nat.pow_succ] at hn;omega
   have hb:n≤4611686018427387904:=by
    have:=Nat.pow_le_pow_right (n:=2) (by decide) (show f+1≤61 by omega)
    have e:(2:Nat)^61=2305843009213693952:=rfl
    omega
   rw[cze (by omega),aza,izt (by decide),aza,GzK,czd,Lzx,azd]
   unfold ptl
   rw[if_neg h0]
   rcases Nat.mod_two_eq_zero_or_one n with h|h
   ·rw[h,show decide (((0:Nat):Int)=1)=false from rfl,azc,if_neg (by decide),nz4,Lzx,azd,izt (by decide),aza,xzY n hb]
    exact ih _ _ _ hn' (by omega)
   ·rw[h,show decide (((1:Nat):Int)=1)=true from rfl,aza,if_pos rfl,nz4,Lzx,azd,izt (by decide),aza,xzY n hb]
    exact ih _ _ _ hn' (by omega)
theorem Ozs (k:Int) (p:azm):izN (k,(p,()))=some ((uz5 k p,()),()):=by
 rw[BzT,tz2,azd,GzA,kzd,yzw]
 unfold uz5
 by_cases h:pok p
 ·rw[if_pos h,if_pos h,oz7 _ _ (by decide) (by decide),azd]
  have:=FzQ czS 14 (k % 12108).toNat p (0,(0,(true,()))) (by omega) (by decide) h oz1
  rw[show (((k % 12108).toNat:Nat):Int)=k % 12108 by omega] at this
  exact this
 ·rw[if_neg h,if_neg h];rfl
theorem Hz1 (k:Int) (p:azm) (hk:0≤k):dz3 (k,(p,()))=some ((uz5 k p,()),()):=by
 rw[AzY,tz4,azd,GzA,kzd,yzw,tzv,azd]
 unfold uz5
 by_cases h:pok p
 ·rw[if_pos h,if_pos h,izt (by decide),aza,fzW hk,az7 (by omega),azc,yz4,tzv,azd]
  have:=Ez0 czS 14 (k % 12108).toNat p (0,(0,(true,()))) (by omega) (by decide)
  rw[show (((k % 12108).toNat:Nat):Int)=k % 12108 by omega] at this
  exact this
 ·rw[if_neg h,if_neg h];rfl
theorem xz3 (p:azm):(cnd (decide (pok p)) (some (((uz5 1009 p).2.2.1,()),())) (some ((false,()),())))=some ((rza p,()),()):=by
 unfold rza
 by_cases h:pok p<;>simp [h,cnd]
theorem Jzm (p:azm):pzD (p,())=some ((rza p,()),()):=by
 rw[Iz4,tz2,azd,Ozs,azd]
 exact xz3 p
theorem IzL (p:azm):pzj (p,())=some ((rza p,()),()):=by
 rw[Izw,tz4,azd,Hz1 _ _ (by decide),azd]
 exact xz3 p
end Go.Proofs.YtdfbhjpmdjmdaaaGreatDoor
