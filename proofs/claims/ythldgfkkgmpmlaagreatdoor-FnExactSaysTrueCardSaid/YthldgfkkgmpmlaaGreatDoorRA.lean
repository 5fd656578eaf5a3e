/- Points, committees and proofs as texts, and back. Of no condition. -/
import Derived.Test.YthldgfkkgmpmlaaGreatDoorVA
set_option linter.unusedVariables false
set_option linter.unusedSimpArgs false
set_option maxRecDepth 100000
namespace Go.Proofs.YthldgfkkgmpmlaaGreatDoor
open Go.TV
def dzc (p:azn):ByteArray:=if pok p then (bif p.2.2.1 then bs [0,0,0] else sof [azx .u8 (ishr .i64 (iadd .i64 p.1 1) 8),azx .u8 (iadd .i64 p.1 1),azx .u8 (irem p.2.1 2)]) else bs []
theorem Cz3 (p:azn):(dzc p).size≤3:=by
 unfold dzc
 split
 ·cases p.2.2.1
  ·simp [azI]
  ·simp [mzr]
 ·simp [mzr]
theorem Hzm (p:azn):lzn (p,())=some ((dzc p,()),()):=by
 rw[JzW,xzt,azb]
 unfold dzc
 by_cases h:pok p
 ·rw[if_pos h,decide_eq_true h];cases p.2.2.1<;>rfl
 ·rw[if_neg h,decide_eq_false h];rfl
theorem HzA (p:azn):lzI (p,())=some ((dzc p,()),()):=by
 rw[Jzb,xze,azb]
 unfold dzc
 by_cases h:pok p
 ·rw[if_pos h,decide_eq_true h];cases p.2.2.1<;>rfl
 ·rw[if_neg h,decide_eq_false h];rfl
theorem Cz4 (xs:List azn) (hl:xs.length≤16777216): ∀ (k i:Nat) (acc:List ByteArray),i+k=xs.length→acc.length=i→lzM (acc,(xs,(len xs,((i:Int),()))))=some ((acc++(xs.drop i).map dzc,()),()):=by
 intro k
 induction k with
 |zero=>intro i acc hi ha;rw[yz8,show (i:Int)=(xs.length:Int) by omega,az7,azc,show i=xs.length by omega];simp
 |succ k ih=>
  intro i acc hi ha
  have h:i<xs.length:=by omega
  rw[yz8,bzh h,aza,azP h,aza,Hzm,azb,azv (xs:=acc) (by decide) (by simp;omega),aza,azq (by omega),bzs h,qzN,ih (i+1) _ (by omega) (by simp;omega),List.drop_eq_getElem_cons h,List.map_cons,List.append_assoc]
  rfl
theorem Kz7 (c:azh) (hl:c.1.length≤16777216):nzX (c,())=some ((c.1.map dzc,()),()):=by
 rw[Kzp]
 exact Cz4 c.1 hl c.1.length 0 [] (by omega) rfl
theorem NzJ (xs:List azn): ∀y∈xs.map dzc,y.size≤268435456:=fun y hy=>by
 obtain ⟨p,_,rfl⟩:=List.mem_map.1 hy
 have:=Cz3 p;omega
def pz8 (c:azh):ByteArray:=bif fzw c then szu (c.1.map dzc) else bs []
theorem pzr (c:azh) (h:Fine azp c):dzr (c,())=some ((pz8 c,()),()):=by
 have hl:c.1.length≤16777216:=h.1.1
 rw[zzo,Cz5 c h,azb,Kz7 c hl,azb,Czd _ (NzJ _) (by simpa using hl),azb]
 unfold pz8
 cases fzw c<;>rfl
theorem tzq (c:azh) (hl:c.1.length≤16777216): ∀ (k i:Nat) (acc:List ByteArray),i+k=c.1.length→acc=(c.1.take i).map dzc→ezy (acc,((i:Int),(c,())))=some ((szu (c.1.map dzc),()),()):=by
 intro k
 induction k with
 |zero=>
  intro i acc hi ha
  rw[nze,show (i:Int)=(c.1.length:Int) by omega,az7,azc,ha,List.take_of_length_le (by omega),uzw _ (NzJ _) (by simpa using hl),azb]
 |succ k ih=>
  intro i acc hi ha
  have h:i<c.1.length:=by omega
  rw[nze,bzh h,aza,azP h,aza,HzA,azb,azv (xs:=acc) (by decide) (by rw[ha];simp;omega),aza,azq (by omega),bzs h,qzN]
  refine ih (i+1) _ (by omega) ?_
  rw[ha,List.take_add_one,List.map_append,List.getElem?_eq_getElem h];rfl
theorem pzv (c:azh) (h:Fine azp c):dze (c,())=some ((pz8 c,()),()):=by
 have hl:c.1.length≤16777216:=h.1.1
 have:=tzq c hl c.1.length 0 [] (by omega) rfl
 rw[zze,CzT c h,azb]
 unfold pz8
 cases fzw c
 ·rfl
 ·exact this
theorem yzZ (c:azh):(pz8 c).size≤32:=by
 unfold pz8
 cases fzw c
 ·simp [mzr]
 ·exact xzg _
end Go.Proofs.YthldgfkkgmpmlaaGreatDoor
