/- What the functions of the field and of the curve come to, the program's and the reference's. Of no condition. -/
import Derived.Test.YthldgfkkgmpmlaaGreatDoorPA
set_option linter.unusedVariables false
set_option linter.unusedSimpArgs false
set_option maxRecDepth 100000
namespace Go.Proofs.YthldgfkkgmpmlaaGreatDoor
open Go.TV
def I64 (n:Int):Prop:= -9223372036854775808≤n∧n≤9223372036854775807
theorem I64.of {n:Int} (h:mzu (.int .i64) n):I64 n:=Nzd h
theorem I64.fok {n:Int} (h:fok n):I64 n:=⟨by have:=h.1;omega,by have:=h.2;omega⟩
theorem I64.mk {n:Int} (h0: -9223372036854775808≤n) (h1:n≤9223372036854775807):I64 n:=⟨h0,h1⟩
theorem wzY (n m:Int) (hm:0<m):(0≤irem n m∧irem n m=n % m)∨(irem n m<0∧irem n m+m=n % m):=by
 unfold irem
 have h0:=Int.emod_nonneg n (Int.ne_of_gt hm)
 have h1:=Int.emod_lt_of_pos n hm
 rw[Int.tmod_eq_emod]
 split
 ·left;omega
 ·right;omega
theorem ezM {m:Int} (h:m≠0):nz m=true:=by rw[nz_d];simp [h]
theorem Kzj (n m:Int) (hm:0<m) (h1:m≤4294967296):cnd (ilt (irem n m) 0) (some ((iadd .i64 (irem n m) m,()),())) (some ((irem n m,()),()))=some ((n % m,()),()):=by
 have hb:=Int.emod_lt_of_pos n hm
 have hb0:=Int.emod_nonneg n (Int.ne_of_gt hm)
 rcases wzY n m hm with ⟨h,e⟩| ⟨h,e⟩
 ·rw[az0 h,azc,e]
 ·rw[bzT h,aza,azA (by omega) (by omega),e]
theorem izG (n m:Int) (hm:0<m) (h1:m≤4294967296):czW (n,(m,()))=some ((n % m,()),()):=by
 rw[Hzf,ezM (by omega),aza,Kzj n m hm h1]
theorem nz6 (n:Int):iz6 (n,())=some ((n % 12107,()),()):=by
 rw[WzN,izG n _ (by decide) (by decide),azb]
theorem mzf (n:Int):hzD (n,())=some ((n % 12107,()),()):=by
 rw[Wzb,ezM (by decide),aza,Kzj n _ (by decide) (by decide)]
theorem MzY (a b:Int):vza (a,(b,()))=some ((fadd a b,()),()):=by
 rw[Vzr,nz6,azb,nz6,azb,azA (x:=a % 12107) (y:=b % 12107) (by omega) (by omega),nz6,azb];rfl
theorem FzC (a b:Int):rz6 (a,(b,()))=some ((fadd a b,()),()):=by
 rw[TzZ,mzf,azb,mzf,azb,azA (x:=a % 12107) (y:=b % 12107) (by omega) (by omega),mzf,azb];rfl
theorem NzM (a b:Int):jzF (a,(b,()))=some ((fsub a b,()),()):=by
 rw[TzY,nz6,azb,nz6,azb,az4 (x:=a % 12107) (y:=b % 12107) (by omega) (by omega),nz6,azb];rfl
theorem MzJ (a b:Int):jzu (a,(b,()))=some ((fsub a b,()),()):=by
 rw[UzW,mzf,azb,mzf,azb,az4 (x:=a % 12107) (y:=b % 12107) (by omega) (by omega),mzf,azb];rfl
theorem JzD (a b:Int) (ha:0≤a∧a<65536) (hb:0≤b∧b<65536):0≤a*b∧a*b≤4294967296:=
 ⟨Int.mul_nonneg ha.1 hb.1,Int.le_trans (Int.mul_le_mul (c:=65536) (d:=65536) (by omega) (by omega) hb.1 (by omega)) (by decide)⟩
theorem vz7 (a b:Int):ezj (a,(b,()))=some ((fmul a b,()),()):=by
 have:=JzD (a % 12107) (b % 12107) (by omega) (by omega)
 rw[UzQ,nz6,azb,nz6,azb,fzq (x:=a % 12107) (y:=b % 12107) (by omega) (by omega),nz6,azb];rfl
theorem lz6 (a b:Int):cz4 (a,(b,()))=some ((fmul a b,()),()):=by
 have:=JzD (a % 12107) (b % 12107) (by omega) (by omega)
 rw[Tz4,mzf,azb,mzf,azb,fzq (x:=a % 12107) (y:=b % 12107) (by omega) (by omega),mzf,azb];rfl
theorem Mz6 (A M O n:Nat) (h:n % 2=0):O*(A*A % M)^ (n/2) % M=O*A^n % M:=by
 rw[Nat.mul_mod,←Nat.pow_mod,←Nat.mul_mod]
 congr 2
 rw[show A*A=A^2 from (Nat.pow_two A).symm,←Nat.pow_mul]
 congr 1
 omega
theorem Rzv (A M O n:Nat) (h:n % 2=1):O*A % M*(A*A % M)^ (n/2) % M=O*A^n % M:=by
 rw[Nat.mul_mod,←Nat.pow_mod,Nat.mod_mod,←Nat.mul_mod]
 congr 1
 rw[show A*A=A^2 from (Nat.pow_two A).symm,←Nat.pow_mul,Nat.mul_assoc,←Nat.pow_succ']
 congr 2
 omega
theorem Bz9 (n:Nat) (h:n≤4611686018427387904):iquo .i64 (n:Int) 2=((n/2:Nat):Int):=by
 rw[nzM (by omega) (by omega) (by decide)];omega
theorem Nzc (n:Nat):irem (n:Int) 2=((n % 2:Nat):Int):=by rw[izS (by omega)];omega
theorem Hzd (a b m:Nat) (ha:a<65536) (hb:b<65536):irem (imul .i64 (a:Int) (b:Int)) (m:Int)=((a*b % m:Nat):Int):=by
 have h1:a*b≤65536*65536:=Nat.mul_le_mul (by omega) (by omega)
 rw[fzq (by rw[←Int.natCast_mul];omega) (by rw[←Int.natCast_mul];omega),izS (by rw[←Int.natCast_mul];omega),←Int.natCast_mul,←Int.natCast_emod]
theorem CzM: ∀ (n A M O:Nat),n≤4611686018427387904→A<M→O<M→M≤65536→lzk ((A:Int),((n:Int),((M:Int),((O:Int),()))))=some ((((O*A^n % M:Nat):Int),()),()):=by
 intro n
 induction n using Nat.strongRecOn with
 |_ n ih=>
  intro A M O hn hA hO hM
  rw[JzB]
  by_cases h0:n=0
  ·subst h0
   rw[bzi (by omega),azc]
   simp [Nat.mod_eq_of_lt hO]
  ·have hA2:A*A % M<M:=Nat.mod_lt _ (by omega)
   rw[bzU (by omega),aza,ezM (by decide),aza,Nzc,czl]
   rw[ezM (by omega),aza]
   rcases Nat.mod_two_eq_zero_or_one n with h|h
   ·rw[h,show decide (((0:Nat):Int)=1)=false from rfl,azc,xz3,ezM (by omega),aza,ezM (by decide),aza,Hzd _ _ _ (by omega) (by omega),Bz9 n hn,ih (n/2) (by omega) _ _ _ (by omega) hA2 hO hM,Mz6 _ _ _ _ h]
   ·have hO2:O*A % M<M:=Nat.mod_lt _ (by omega)
    rw[h,show decide (((1:Nat):Int)=1)=true from rfl,aza,Hzd _ _ _ (by omega) (by omega),xz3,ezM (by omega),aza,ezM (by decide),aza,Hzd _ _ _ (by omega) (by omega),Bz9 n hn,ih (n/2) (by omega) _ _ _ (by omega) hA2 hO2 hM,Rzv _ _ _ _ h]
theorem Lz6 (a:Int) (n M:Nat) (hn:n≤4611686018427387904) (hM:1<M) (hM':M≤65536):kzi (a,((n:Int),((M:Int),())))=some ((((npow M (a % (M:Int)).toNat n:Nat):Int),()),()):=by
 have h0:=Int.emod_nonneg a (show (M:Int)≠0 by omega)
 have h1:=Int.emod_lt_of_pos a (show 0<(M:Int) by omega)
 obtain ⟨r,hr⟩:=Int.eq_ofNat_of_zero_le h0
 rw[LzH,izG _ _ (by omega) (by omega),azb,hr]
 have:=CzM n r M 1 hn (by omega) hM hM'
 rw[Nat.one_mul] at this
 exact this
theorem Uz3 (a:Int):uzH (a,())=some ((finv a,()),()):=by
 rw[Vzp]
 have:=Lz6 a 12105 12107 (by decide) (by decide) (by decide)
 have h2:kzi (a,((12105:Int),((12107:Int),())))=_:=this
 rw[h2,azb];rfl
theorem FzQ (a b:Nat) (ha:a<12107) (hb:b<12107):fmul (a:Int) (b:Int)=((a*b % 12107:Nat):Int):=by
 unfold fmul
 have e1:(a:Int) % 12107=a:=Int.emod_eq_of_lt (by omega) (by omega)
 have e2:(b:Int) % 12107=b:=Int.emod_eq_of_lt (by omega) (by omega)
 rw[e1,e2,←Int.natCast_mul]
 omega
theorem Lzf: ∀ (n A O:Nat),n≤4611686018427387904→A<12107→O<12107→vzC ((n:Int),((O:Int),((A:Int),())))=some ((((O*A^n % 12107:Nat):Int),()),()):=by
 intro n
 induction n using Nat.strongRecOn with
 |_ n ih=>
  intro A O hn hA hO
  rw[SzF]
  by_cases h0:n=0
  ·subst h0
   rw[bzi (by omega),azc]
   simp [Nat.mod_eq_of_lt hO]
  ·have hA2:A*A % 12107<12107:=Nat.mod_lt _ (by omega)
   rw[bzU (by omega),aza,ezM (by decide),aza,Nzc,czl]
   rcases Nat.mod_two_eq_zero_or_one n with h|h
   ·rw[h,show decide (((0:Nat):Int)=1)=false from rfl,azc,Hzn,lz6,azb,ezM (by decide),aza,FzQ _ _ hA hA,Bz9 n hn,ih (n/2) (by omega) _ _ (by omega) hA2 hO,Mz6 _ _ _ _ h]
   ·have hO2:O*A % 12107<12107:=Nat.mod_lt _ (by omega)
    rw[h,show decide (((1:Nat):Int)=1)=true from rfl,aza,lz6,azb,FzQ _ _ hO hA,Hzn,lz6,azb,ezM (by decide),aza,FzQ _ _ hA hA,Bz9 n hn,ih (n/2) (by omega) _ _ (by omega) hA2 hO2,Rzv _ _ _ _ h]
theorem Vzf (a:Int) (n:Nat) (hn:n≤4611686018427387904):wzs (a,((n:Int),()))=some ((fpow a n,()),()):=by
 have h0:=Int.emod_nonneg a (show (12107:Int)≠0 by omega)
 have h1:=Int.emod_lt_of_pos a (show 0<(12107:Int) by omega)
 obtain ⟨r,hr⟩:=Int.eq_ofNat_of_zero_le h0
 rw[Uz0,az0 (by omega),azc,mzf,azb,hr]
 have:=Lzf n r 1 hn (by omega) (by decide)
 rw[Nat.one_mul] at this
 simp only[fpow,hr,Int.toNat_natCast]
 exact this
theorem Vza (a:Int):wzl (a,())=some ((finv a,()),()):=by
 rw[UzF]
 have h2:wzs (a,((12105:Int),()))=_:=Vzf a 12105 (by decide)
 rw[h2,azb];rfl
theorem Szg (a:Int):zz5 (a,())=some ((decide (fok a),()),()):=by
 rw[Wz3,czK,uzV,WzP]
 by_cases h:0≤a<;>simp [h,fok]
theorem RzK (a:Int):AzQ (a,())=some ((decide (fok a),()),()):=by
 rw[WzS,tzP,azb]
 have:(0≤a∧a≤12106)↔fok a:=by unfold fok;omega
 simp only[this]
theorem Oz2 (x:Int):rzj (x,())=some ((JzR x,()),()):=by
 rw[OzB,vz7,azb,vz7,azb,MzY,azb];rfl
theorem Tz9 (x:Int):nz9 (x,())=some ((JzR x,()),()):=by
 rw[Lz0,lz6,azb,lz6,azb,FzC,azb];rfl
theorem Qzq (p:azn):(cnd p.2.2.1 (cnd (ieq p.1 0) (some ((ieq p.2.1 0,()),())) (some ((false,()),()))) (cnd (decide (fok p.1)) (cnd (decide (fok p.2.1)) (some ((ieq (fmul p.2.1 p.2.1) (JzR p.1),()),())) (some ((false,()),()))) (some ((false,()),()))))=(some ((decide (pok p),()),()):Option ((Bool×Unit)×Unit)):=by
 cases h:p.2.2.1
 ·rw[azc]
  simp only[tzx h,uzV,czl]
  by_cases h1:fok p.1<;>by_cases h2:fok p.2.1<;>simp [h1,h2]
 ·rw[aza]
  have:pok p↔p.1=0∧p.2.1=0:=by unfold pok;rw[if_pos h]
  simp only[this,czl,uzV]
  by_cases h1:p.1=0<;>by_cases h2:p.2.1=0<;>simp [h1,h2]
theorem xzt (p:azn):kza (p,())=some ((decide (pok p),()),()):=by
 rw[PzD,Szg,azb,Szg,azb,vz7,azb,Oz2,azb]
 exact Qzq p
theorem xze (p:azn):jzU (p,())=some ((decide (pok p),()),()):=by
 rw[Nz5,RzK,azb,RzK,azb,lz6,azb,Tz9,azb]
 exact Qzq p
theorem Vzg (p q:azn):ozC (p,(q,()))=some (((szC p q).1,((szC p q).2,())),()):=by
 rw[Kzr,FzC,azb]
 simp only[lz6,FzC,MzJ,Vza,azb,dzb,czl,kzG,uzV]
 unfold szC
 split
 ·split<;>rfl
 ·rfl
theorem Uz4 (p q:azn) (hp:pok p) (hq:pok q) (zp:p.2.2.1=false) (zq:q.2.2.1=false):rzr (p,(q,()))=some (((szC p q).1,((szC p q).2,())),()):=by
 rw[Pz6]
 simp only[vz7,MzY,NzM,Uz3,azb,dzb,czl,kzG,uzV]
 unfold szC
 by_cases hx:p.1=q.1
 ·rw[if_pos hx,if_pos hx]
  by_cases hy:p.2.1=q.2.1
  ·rw[if_pos hy,←hy]
   have h1:=QzL (((tzx zp).1 hp).2.1)
   by_cases h0:p.2.1=0
   ·rw[if_pos h0,if_pos (h1.2 h0)]
   ·rw[if_neg h0,if_neg (fun h=>h0 (h1.1 h))]
  ·rw[if_neg hy,if_pos ((Nzg hp hq zp zq hx).resolve_left hy)]
 ·rw[if_neg hx,if_neg hx]
theorem QzQ (p q:azn):pzR (p,(q,()))=some ((padd p q,()),()):=by
 rw[QzM]
 unfold padd
 cases zp:p.2.2.1
 ·cases zq:q.2.2.1
  ·rw[azc,azc,Vzg p q,azb]
   simp only[lz6,MzJ,azb,MzX,kzG]
   cases hs:(szC p q).2
   ·rw[azc,wz0,azb];rfl
   ·rfl
  ·rfl
 ·rfl
theorem VzO (p q:azn) (hp:pok p) (hq:pok q):DzR (p,(q,()))=some ((padd p q,()),()):=by
 rw[iAdd_b]
 unfold padd
 cases zp:p.2.2.1
 ·cases zq:q.2.2.1
  ·rw[azc,azc,Uz4 p q hp hq zp zq,azb]
   simp only[vz7,NzM,azb,MzX,kzG]
   cases hs:(szC p q).2
   ·rfl
   ·rfl
  ·rfl
 ·rfl
theorem LzB (z:azn): ∀ (f n:Nat) (p out:azn),n<2^f→f≤60→pok p→pok out→ez5 ((n:Int),(p,(z,(out,()))))=some ((ptl f n p out,()),()):=by
 intro f
 induction f with
 |zero=>
  intro n p out hn _ hp ho
  have:n=0:=by simp at hn;exact hn
  subst this
  rw[sz2,bzi (by omega),azc];rfl
 |succ f ih=>
  intro n p out hn hf hp ho
  rw[sz2]
  by_cases h0:n=0
  ·subst h0
   rw[bzi (by omega),azc,ptl_0]
  ·have hn':n/2<2^f:=by rw[Nat.pow_succ] at hn;omega
   have hb:n≤4611686018427387904:=by
    have:=Nat.pow_le_pow_right (n:=2) (by decide) (show f+1≤61 by omega)
    have e:(2:Nat)^61=2305843009213693952:=rfl
    omega
   rw[bzU (by omega),aza,ezM (by decide),aza,Nzc,czl,VzO p p hp hp,VzO out p ho hp,azb,azb,aza,Bz9 n hb]
   unfold ptl
   rw[if_neg h0]
   rcases Nat.mod_two_eq_zero_or_one n with h|h
   ·rw[h,show decide (((0:Nat):Int)=1)=false from rfl,azc,if_neg (by decide),azb,aza]
    exact ih _ _ _ hn' (by omega) (Kzz hp hp) ho
   ·rw[h,show decide (((1:Nat):Int)=1)=true from rfl,aza,if_pos rfl]
    exact ih _ _ _ hn' (by omega) (Kzz hp hp) (Kzz ho hp)
theorem Lzw (z:azn): ∀ (f n:Nat) (p out:azn),n<2^f→f≤60→hzW ((n:Int),(z,(p,(out,()))))=some ((ptl f n p out,()),()):=by
 intro f
 induction f with
 |zero=>
  intro n p out hn _
  have:n=0:=by simp at hn;exact hn
  subst this
  rw[sz9,bzi (by omega),azc];rfl
 |succ f ih=>
  intro n p out hn hf
  rw[sz9]
  by_cases h0:n=0
  ·subst h0
   rw[bzi (by omega),azc,ptl_0]
  ·have hn':n/2<2^f:=by rw[Nat.pow_succ] at hn;omega
   have hb:n≤4611686018427387904:=by
    have:=Nat.pow_le_pow_right (n:=2) (by decide) (show f+1≤61 by omega)
    have e:(2:Nat)^61=2305843009213693952:=rfl
    omega
   rw[bzU (by omega),aza,ezM (by decide),aza,Nzc,czl,QzQ,azb]
   unfold ptl
   rw[if_neg h0]
   rcases Nat.mod_two_eq_zero_or_one n with h|h
   ·rw[h,show decide (((0:Nat):Int)=1)=false from rfl,azc,if_neg (by decide),qzx,QzQ,azb,ezM (by decide),aza,Bz9 n hb]
    exact ih _ _ _ hn' (by omega)
   ·rw[h,show decide (((1:Nat):Int)=1)=true from rfl,aza,if_pos rfl,qzx,QzQ,azb,ezM (by decide),aza,Bz9 n hb]
    exact ih _ _ _ hn' (by omega)
theorem Nzj (k:Int) (p:azn):gzo (k,(p,()))=some ((zzX k p,()),()):=by
 rw[FzS,xzt,azb,MzX,kzG,uzV]
 unfold zzX
 by_cases h:pok p
 ·rw[if_pos h,if_pos h,izG _ _ (by decide) (by decide),azb]
  have:=LzB fzy 14 (k % 12108).toNat p (0,(0,(true,()))) (by omega) (by decide) h Jzi
  rw[show (((k % 12108).toNat:Nat):Int)=k % 12108 by omega] at this
  exact this
 ·rw[if_neg h,if_neg h];rfl
theorem MzI (k:Int) (p:azn) (hk:0≤k):gzI (k,(p,()))=some ((zzX k p,()),()):=by
 rw[Fzz,xze,azb,MzX,kzG,uzV,wz0,azb]
 unfold zzX
 by_cases h:pok p
 ·rw[if_pos h,if_pos h,ezM (by decide),aza,izS hk,az0 (by omega),azc,Cz8,wz0,azb]
  have:=Lzw fzy 14 (k % 12108).toNat p (0,(0,(true,()))) (by omega) (by decide)
  rw[show (((k % 12108).toNat:Nat):Int)=k % 12108 by omega] at this
  exact this
 ·rw[if_neg h,if_neg h];rfl
theorem Cze (p:azn):(cnd (decide (pok p)) (some (((zzX 1009 p).2.2.1,()),())) (some ((false,()),())))=some ((tzw p,()),()):=by
 unfold tzw
 by_cases h:pok p<;>simp [h,cnd]
theorem OzF (p:azn):rzc (p,())=some ((tzw p,()),()):=by
 rw[Nz0,xzt,azb,Nzj,azb]
 exact Cze p
theorem Pze (p:azn):rzq (p,())=some ((tzw p,()),()):=by
 rw[Ozy,xze,azb,MzI _ _ (by decide),azb]
 exact Cze p
end Go.Proofs.YthldgfkkgmpmlaaGreatDoor
