/- Committees: their secrets, their keys; whether heads, committees, clients are right; a new bridge. Of no condition. -/
import Derived.Test.YtdfbhjpmdjmdaaaGreatDoorPB
set_option linter.unusedVariables false
set_option linter.unusedSimpArgs false
set_option maxRecDepth 100000
namespace Go.Proofs.YtdfbhjpmdjmdaaaGreatDoor
open Go.TV
theorem Rzz (n:Int):FzF (n,())=some ((n % 1009,()),()):=by
 rw[RzA,izt (by decide),aza,KzS n _ (by decide) (by decide)]
def Rzt (s:Int):Pt:=uz5 (s % 1009) baseP
theorem Rzx (s:Int):Az0 (s,())=some ((Rzt s,()),()):=by
 rw[Rzw,Rzz,azd,MzV,azd,Hz1 _ _ (by show 0≤s % 1009;omega),azd];rfl
def Rzy (n:Int) (i:Nat):Int:=1+(n*31+(i:Int)*57+7) % 1007
def Rzj (n:Int):Nat→Nat→List Int
 |0,_=>[]
 |k+1,i=>Rzy n i::Rzj n k (i+1)
def Rzm (s:Int):List Int:=Rzj (s % 1000) 8 0
theorem Rzk (n:Int): ∀k i,(Rzj n k i).length=k
 |0,_=>rfl
 |k+1,i=>by simp [Rzj,Rzk n k]
theorem Rzr (n:Int) (i:Nat) (h0:0≤n) (h1:n<1000) (hi:i<8):iadd .i64 1 (irem (iadd .i64 (iadd .i64 (imul .i64 n 31) (imul .i64 (i:Int) 57)) 7) 1007)=Rzy n i:=by
 rw[fz9 (x:=n) (by omega) (by omega),fz9 (x:=(i:Int)) (by omega) (by omega),azH (x:=n*31) (by omega) (by omega),azH (x:=n*31+(i:Int)*57) (by omega) (by omega),fzW (by omega),azH (by omega) (by omega)]
 rfl
theorem Rzp (n:Int) (h0:0≤n) (h1:n<1000): ∀ (k i:Nat) (acc:List Int),i+k=8→acc.length=i→mzB (n,(acc,((i:Int),())))=some ((acc++Rzj n k i,()),()):=by
 intro k
 induction k with
 |zero=>intro i acc hi ha;rw[Pza,az7 (by omega),azc];simp [Rzj]
 |succ k ih=>
  intro i acc hi ha
  rw[Pza,bzW (by omega),aza,izt (by decide),aza,Rzr n i h0 h1 (by omega),azv (by decide) (by simp;omega),aza,Mzm,azq (by omega),ih (i+1) _ (by omega) (by simp;omega),Rzj,List.append_assoc]
  rfl
theorem Rzq (s:Int):ozk (s,())=some ((Rzm s,()),()):=by
 have h4:nzd (s % 1000,())=some ((Rzm s,()),()):=by
  rw[Ozp]
  exact Rzp (s % 1000) (by omega) (by omega) 8 0 [] rfl rfl
 rw[Pzt,izt (by decide),aza]
 rcases IzY s 1000 (by decide) with ⟨h,e⟩| ⟨h,e⟩
 ·rw[az7 h,azc,e,h4]
 ·rw[bzW h,aza,azH (by omega) (by omega),e,h4]
def Rzo (s:Int):azl:=((Rzm s).map Rzt,())
theorem Rzn (xs:List Int) (z:azl): ∀ (k i:Nat) (acc:List azm),i+k=xs.length→acc.length=i→xs.length≤1000→kzi (xs,((i:Int),(z,((acc,()),()))))=some (((acc++(xs.drop i).map Rzt,()),()),()):=by
 intro k
 induction k with
 |zero=>intro i acc hi ha hl;rw[Kz3,show (i:Int)=(xs.length:Int) by omega,bzb,azc,show i=xs.length by omega];simp
 |succ k ih=>
  intro i acc hi ha hl
  have h:i<xs.length:=by omega
  rw[Kz3,bzp h,aza,az0 h,aza,Rzx,azd,azv (xs:=acc) (by decide) (by simp;omega),aza,azq (by omega),bzA h,Mzm]
  have:=ih (i+1) (acc++[Rzt xs[i]]) (by omega) (by simp;omega) hl
  rw[this,List.drop_eq_getElem_cons h,List.map_cons,List.append_assoc]
  rfl
theorem Rzl (s:Int):(Rzm s).length=8:=Rzk _ 8 0
theorem Rzv (s:Int):hzc (s,())=some ((Rzo s,()),()):=by
 rw[Nzw,Rzq,azd]
 exact Rzn (Rzm s) azG 8 0 [] (by rw[Rzl]) rfl (by rw[Rzl];decide)
theorem Rzs {B:Nat} (hB:8≤B) (s:Int):Bnd B azr (Rzo s):=by
 refine ⟨⟨?_,fun x _=>⟨trivial,trivial,trivial,trivial⟩⟩,trivial⟩
 show ((Rzm s).map Rzt).length≤B
 rw[List.length_map,Rzl];exact hB
def Lzh (p:Pt):Bool:=rza p&&!p.2.2.1
def cz9 (c:azl):Bool:=decide (c.1.length=8)&&c.1.all Lzh
theorem tzp (xs:List azm) (hl:xs.length≤16777216): ∀ (k i:Nat),i+k=xs.length→dzN (xs,(len xs,((i:Int),())))=some (((xs.drop i).all Lzh,()),()):=by
 intro k
 induction k with
 |zero=>intro i hi;rw[ozT,show (i:Int)=(xs.length:Int) by omega,bzb,azc,show i=xs.length by omega];simp
 |succ k ih=>
  intro i hi
  have h:i<xs.length:=by omega
  rw[ozT,bzp h,aza,az0 h,aza,bzA h,Jzm,azd,azq (by omega),ih (i+1) (by omega),List.drop_eq_getElem_cons h,List.all_cons]
  unfold Lzh
  cases xs[i].2.2.1<;>cases rza xs[i]<;>rfl
theorem tzK (c:azl) (hl:c.1.length≤16777216): ∀ (k i:Nat),i+k=c.1.length→dzZ ((i:Int),(c,()))=some (((c.1.drop i).all Lzh&&decide (c.1.length=8),()),()):=by
 intro k
 induction k with
 |zero=>
  intro i hi
  rw[ozl,show (i:Int)=(c.1.length:Int) by omega,bzb,azc,show i=c.1.length by omega,czd,azA]
  have:((c.1.length:Int)=8)↔c.1.length=8:=by omega
  simp [this]
 |succ k ih=>
  intro i hi
  have h:i<c.1.length:=by omega
  rw[ozl,bzp h,aza,az0 h,aza,bzA h,IzL,azd,azq (by omega),ih (i+1) (by omega),List.drop_eq_getElem_cons h,List.all_cons]
  unfold Lzh
  cases c.1[i].2.2.1<;>cases rza c.1[i]<;>rfl
theorem yzQ (c:azl) (h:Fine azr c):hzz (c,())=some ((cz9 c,()),()):=by
 have hl:c.1.length≤16777216:=h.1.1
 have h0:dzN (c.1,(len c.1,(0,())))=_:=tzp c.1 hl c.1.length 0 (by omega)
 rw[yzK,h0,czY,azA,kzd,yzw]
 have:((c.1.length:Int)=8)↔c.1.length=8:=by omega
 simp only[this,List.drop_zero]
 unfold cz9
 by_cases h8:c.1.length=8<;>simp [h8]
theorem yz1 (c:azl) (h:Fine azr c):hzt (c,())=some ((cz9 c,()),()):=by
 have hl:c.1.length≤16777216:=h.1.1
 have h0:dzZ (0,(c,()))=_:=tzK c hl c.1.length 0 (by omega)
 rw[yzL,h0,List.drop_zero,Bool.and_comm];rfl
end Go.Proofs.YtdfbhjpmdjmdaaaGreatDoor
