/- Committees: their secrets, their keys; whether heads, committees, clients are right; a new bridge. Of no condition. -/
import Derived.Test.YthldgfkkgmpmlaaGreatDoorPB
set_option linter.unusedVariables false
set_option linter.unusedSimpArgs false
set_option maxRecDepth 100000
namespace Go.Proofs.YthldgfkkgmpmlaaGreatDoor
open Go.TV
theorem WzJ (n:Int):Gz6 (n,())=some ((n % 1009,()),()):=by
 rw[Xzd,izG n _ (by decide) (by decide),azb]
theorem Wzf (n:Int):Gzl (n,())=some ((n % 1009,()),()):=by
 rw[Wzm,ezM (by decide),aza,Kzj n _ (by decide) (by decide)]
def HzE (s:Int):Pt:=zzX (s % 1009) baseP
theorem Uzr (s:Int):zzJ (s,())=some ((HzE s,()),()):=by
 rw[Vzs,WzJ,azb,Wzk,azb,Nzj,azb];rfl
theorem Tz6 (s:Int):zzz (s,())=some ((HzE s,()),()):=by
 rw[Uz9,Wzf,azb,Wzz,azb,MzI _ _ (by show 0≤s % 1009;omega),azb];rfl
def VzP (n:Int) (i:Nat):Int:=1+(n*31+(i:Int)*57+7) % 1007
def czJ (n:Int):Nat→Nat→List Int
 |0,_=>[]
 |k+1,i=>VzP n i::czJ n k (i+1)
def ozs (s:Int):List Int:=czJ (s % 1000) 8 0
theorem pzK (n:Int): ∀k i,(czJ n k i).length=k
 |0,_=>rfl
 |k+1,i=>by simp [czJ,pzK n k]
theorem BzX (n:Int) (i:Nat) (h0:0≤n) (h1:n<1000) (hi:i<8):iadd .i64 1 (irem (iadd .i64 (iadd .i64 (imul .i64 n 31) (imul .i64 (i:Int) 57)) 7) 1007)=VzP n i:=by
 rw[fzq (x:=n) (by omega) (by omega),fzq (x:=(i:Int)) (by omega) (by omega),azA (x:=n*31) (by omega) (by omega),azA (x:=n*31+(i:Int)*57) (by omega) (by omega),izS (by omega),azA (by omega) (by omega)]
 rfl
theorem Fz5 (n:Int) (h0:0≤n) (h1:n<1000): ∀ (k i:Nat) (acc:List Int),i+k=8→acc.length=i→jzI (n,(acc,((i:Int),())))=some ((acc++czJ n k i,()),()):=by
 intro k
 induction k with
 |zero=>intro i acc hi ha;rw[uzO,az0 (by omega),azc];simp [czJ]
 |succ k ih=>
  intro i acc hi ha
  rw[uzO,bzT (by omega),aza,ezM (by decide),aza,BzX n i h0 h1 (by omega),azv (by decide) (by simp;omega),aza,qzN,azq (by omega),ih (i+1) _ (by omega) (by simp;omega),czJ,List.append_assoc]
  rfl
theorem Fz9 (n:Int) (h0:0≤n) (h1:n<1000): ∀ (k i:Nat) (acc:List Int),i+k=8→acc.length=i→jzv (n,(acc,((i:Int),())))=some ((acc++czJ n k i,()),()):=by
 intro k
 induction k with
 |zero=>intro i acc hi ha;rw[vzT,az0 (by omega),azc];simp [czJ]
 |succ k ih=>
  intro i acc hi ha
  rw[vzT,bzT (by omega),aza,ezM (by decide),aza,BzX n i h0 h1 (by omega),azv (by decide) (by simp;omega),aza,qzN,azq (by omega),ih (i+1) _ (by omega) (by simp;omega),czJ,List.append_assoc]
  rfl
theorem Jze (s:Int):lzH (s,())=some ((ozs s,()),()):=by
 rw[HzS,izG s _ (by decide) (by decide),azb]
 exact Fz5 (s % 1000) (by omega) (by omega) 8 0 [] rfl rfl
theorem JzN (s:Int):lzy (s,())=some ((ozs s,()),()):=by
 have h4:jzC (s % 1000,())=some ((ozs s,()),()):=by
  rw[FzW]
  exact Fz9 (s % 1000) (by omega) (by omega) 8 0 [] rfl rfl
 rw[Izn,ezM (by decide),aza]
 rcases wzY s 1000 (by decide) with ⟨h,e⟩| ⟨h,e⟩
 ·rw[az0 h,azc,e,h4]
 ·rw[bzT h,aza,azA (by omega) (by omega),e,h4]
def cz0 (s:Int):azh:=((ozs s).map HzE,())
theorem xzl (xs:List Int) (z:azh): ∀ (k i:Nat) (acc:List azn),i+k=xs.length→acc.length=i→xs.length≤1000→gzx (xs,(len xs,((i:Int),(z,((acc,()),())))))=some (((acc++(xs.drop i).map HzE,()),()),()):=by
 intro k
 induction k with
 |zero=>intro i acc hi ha hl;rw[qzb,show (i:Int)=(xs.length:Int) by omega,az7,azc,show i=xs.length by omega];simp
 |succ k ih=>
  intro i acc hi ha hl
  have h:i<xs.length:=by omega
  rw[qzb,bzh h,aza,azP h,aza,Uzr,azb,azv (xs:=acc) (by decide) (by simp;omega),aza,azq (by omega),bzs h,qzN]
  have:=ih (i+1) (acc++[HzE xs[i]]) (by omega) (by simp;omega) hl
  rw[this,List.drop_eq_getElem_cons h,List.map_cons,List.append_assoc]
  rfl
theorem xzD (xs:List Int) (z:azh): ∀ (k i:Nat) (acc:List azn),i+k=xs.length→acc.length=i→xs.length≤1000→gzF (xs,((i:Int),(z,((acc,()),()))))=some (((acc++(xs.drop i).map HzE,()),()),()):=by
 intro k
 induction k with
 |zero=>intro i acc hi ha hl;rw[pzM,show (i:Int)=(xs.length:Int) by omega,az7,azc,show i=xs.length by omega];simp
 |succ k ih=>
  intro i acc hi ha hl
  have h:i<xs.length:=by omega
  rw[pzM,bzh h,aza,azP h,aza,Tz6,azb,azv (xs:=acc) (by decide) (by simp;omega),aza,azq (by omega),bzs h,qzN]
  have:=ih (i+1) (acc++[HzE xs[i]]) (by omega) (by simp;omega) hl
  rw[this,List.drop_eq_getElem_cons h,List.map_cons,List.append_assoc]
  rfl
theorem kzS (s:Int):(ozs s).length=8:=pzK _ 8 0
theorem Czy (s:Int):izk (s,())=some ((cz0 s,()),()):=by
 rw[CzG,Jze,azb]
 exact xzl (ozs s) kzh 8 0 [] (by rw[kzS]) rfl (by rw[kzS];decide)
theorem CzP (s:Int):hzQ (s,())=some ((cz0 s,()),()):=by
 rw[Cz6,JzN,azb]
 exact xzD (ozs s) kzh 8 0 [] (by rw[kzS]) rfl (by rw[kzS];decide)
theorem czx {B:Nat} (hB:8≤B) (s:Int):Bnd B azp (cz0 s):=by
 refine ⟨⟨?_,fun x _=>⟨trivial,trivial,trivial,trivial⟩⟩,trivial⟩
 show ((ozs s).map HzE).length≤B
 rw[List.length_map,kzS];exact hB
theorem GzS (n m:Int) (hm:0<m): -m≤irem n m∧irem n m<m:=by
 have h0:=Int.emod_nonneg n (Int.ne_of_gt hm)
 have h1:=Int.emod_lt_of_pos n hm
 rcases wzY n m hm with ⟨h,e⟩| ⟨h,e⟩<;>omega
def vzE (c k:Int):Int:=irem c 1000+13*irem k 1000
theorem ezx (c:azH) (k:Int):bzF (c,(k,()))=some ((cz0 (vzE c.1 k),()),()):=by
 have h1:=GzS c.1 1000 (by decide)
 have h2:=GzS k 1000 (by decide)
 rw[wzG,QzY,ezM (by decide),aza,aza,azb,fzq (by omega) (by omega),azA (by omega) (by omega)]
 rw[show irem c.1 1000+13*irem k 1000=vzE c.1 k from rfl]
 rw[Czy,azb]
theorem ezh (c:azH) (k:Int):bzI (c,(k,()))=some ((cz0 (vzE c.1 k),()),()):=by
 have h1:=GzS c.1 1000 (by decide)
 have h2:=GzS k 1000 (by decide)
 rw[wzK,ezM (by decide),aza,aza,fzq (by omega) (by omega),azA (by omega) (by omega),show irem c.1 1000+irem k 1000*13=vzE c.1 k by unfold vzE;omega,CzP,azb]
def RzL (p:Pt):Bool:=tzw p&&!p.2.2.1
def fzw (c:azh):Bool:=decide (c.1.length=8)&&c.1.all RzL
theorem xzz (xs:List azn) (hl:xs.length≤16777216): ∀ (k i:Nat),i+k=xs.length→ezc (xs,(len xs,((i:Int),())))=some (((xs.drop i).all RzL,()),()):=by
 intro k
 induction k with
 |zero=>intro i hi;rw[qzl,show (i:Int)=(xs.length:Int) by omega,az7,azc,show i=xs.length by omega];simp
 |succ k ih=>
  intro i hi
  have h:i<xs.length:=by omega
  rw[qzl,bzh h,aza,azP h,aza,bzs h,OzF,azb,azq (by omega),ih (i+1) (by omega),List.drop_eq_getElem_cons h,List.all_cons]
  unfold RzL
  cases xs[i].2.2.1<;>cases tzw xs[i]<;>rfl
theorem wz3 (c:azh) (hl:c.1.length≤16777216): ∀ (k i:Nat),i+k=c.1.length→dzZ ((i:Int),(c,()))=some (((c.1.drop i).all RzL&&decide (c.1.length=8),()),()):=by
 intro k
 induction k with
 |zero=>
  intro i hi
  rw[qz4,show (i:Int)=(c.1.length:Int) by omega,az7,azc,show i=c.1.length by omega,czl,azz]
  have:((c.1.length:Int)=8)↔c.1.length=8:=by omega
  simp [this]
 |succ k ih=>
  intro i hi
  have h:i<c.1.length:=by omega
  rw[qz4,bzh h,aza,azP h,aza,bzs h,Pze,azb,azq (by omega),ih (i+1) (by omega),List.drop_eq_getElem_cons h,List.all_cons]
  unfold RzL
  cases c.1[i].2.2.1<;>cases tzw c.1[i]<;>rfl
theorem Cz5 (c:azh) (h:Fine azp c):hzP (c,())=some ((fzw c,()),()):=by
 have hl:c.1.length≤16777216:=h.1.1
 have h0:ezc (c.1,(len c.1,(0,())))=_:=xzz c.1 hl c.1.length 0 (by omega)
 rw[Dzg,h0,dzb,azz,kzG,uzV]
 have:((c.1.length:Int)=8)↔c.1.length=8:=by omega
 simp only[this,List.drop_zero]
 unfold fzw
 by_cases h8:c.1.length=8<;>simp [h8]
theorem CzT (c:azh) (h:Fine azp c):hzZ (c,())=some ((fzw c,()),()):=by
 have hl:c.1.length≤16777216:=h.1.1
 have h0:dzZ (0,(c,()))=_:=wz3 c hl c.1.length 0 (by omega)
 rw[Czz,h0,List.drop_zero,Bool.and_comm];rfl
end Go.Proofs.YthldgfkkgmpmlaaGreatDoor
