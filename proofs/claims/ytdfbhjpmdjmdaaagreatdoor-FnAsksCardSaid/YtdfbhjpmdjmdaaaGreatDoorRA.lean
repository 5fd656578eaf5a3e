/- Points, committees and proofs as texts, and back. Of no condition. -/
import Derived.Test.YtdfbhjpmdjmdaaaGreatDoorVA
set_option linter.unusedVariables false
set_option linter.unusedSimpArgs false
set_option maxRecDepth 100000
namespace Go.Proofs.YtdfbhjpmdjmdaaaGreatDoor
open Go.TV
def dzi (p:azm):ByteArray:=if pok p then (bif p.2.2.1 then bs [0,0,0] else sof [azx .u8 (ishr .i64 (iadd .i64 p.1 1) 8),azx .u8 (iadd .i64 p.1 1),azx .u8 (irem p.2.1 2)]) else bs []
theorem yz0 (p:azm):(dzi p).size≤3:=by
 unfold dzi
 split
 ·cases p.2.2.1
  ·simp [azK]
  ·simp [gzq]
 ·simp [gzq]
theorem DzC (p:azm):kzu (p,())=some ((dzi p,()),()):=by
 rw[Dzo,tz2,azd]
 unfold dzi
 by_cases h:pok p
 ·rw[if_pos h,decide_eq_true h];cases p.2.2.1<;>rfl
 ·rw[if_neg h,decide_eq_false h];rfl
theorem EzP (p:azm):kzE (p,())=some ((dzi p,()),()):=by
 rw[EzJ,tz4,azd]
 unfold dzi
 by_cases h:pok p
 ·rw[if_pos h,decide_eq_true h];cases p.2.2.1<;>rfl
 ·rw[if_neg h,decide_eq_false h];rfl
theorem yzz (xs:List azm) (hl:xs.length≤16777216): ∀ (k i:Nat) (acc:List ByteArray),i+k=xs.length→acc.length=i→kzP (acc,(xs,(len xs,((i:Int),()))))=some ((acc++(xs.drop i).map dzi,()),()):=by
 intro k
 induction k with
 |zero=>intro i acc hi ha;rw[vzo,show (i:Int)=(xs.length:Int) by omega,bzb,azc,show i=xs.length by omega];simp
 |succ k ih=>
  intro i acc hi ha
  have h:i<xs.length:=by omega
  rw[vzo,bzp h,aza,az0 h,aza,DzC,azd,azv (xs:=acc) (by decide) (by simp;omega),aza,azq (by omega),bzA h,Mzm,ih (i+1) _ (by omega) (by simp;omega),List.drop_eq_getElem_cons h,List.map_cons,List.append_assoc]
  rfl
theorem FzU (c:azl) (hl:c.1.length≤16777216):mzp (c,())=some ((c.1.map dzi,()),()):=by
 rw[Gzr]
 exact yzz c.1 hl c.1.length 0 [] (by omega) rfl
theorem HzZ (xs:List azm): ∀y∈xs.map dzi,y.size≤268435456:=fun y hy=>by
 obtain ⟨p,_,rfl⟩:=List.mem_map.1 hy
 have:=yz0 p;omega
def bz6 (c:azl):ByteArray:=bif cz9 c then vzN (c.1.map dzi) else bs []
theorem comOk_len {c:azl} (h:cz9 c=true):c.1.length=8:=by
 unfold cz9 at h
 rw[Bool.and_eq_true] at h
 exact of_decide_eq_true h.1
theorem ezW (c:azl) (h:Fine azr c):dzd (c,())=some ((bz6 c,()),()):=by
 have hl:c.1.length≤16777216:=h.1.1
 rw[vzC,yzQ c h,azd,FzU c hl,azd,wzH _ (HzZ _) (by simpa using hl),azd]
 unfold bz6
 cases cz9 c<;>rfl
theorem rzl (c:azl) (hl:c.1.length≤16777216): ∀ (k i:Nat) (acc:List ByteArray),i+k=c.1.length→acc=(c.1.take i).map dzi→ezi (acc,((i:Int),(c,())))=some ((vzN (c.1.map dzi),()),()):=by
 intro k
 induction k with
 |zero=>
  intro i acc hi ha
  rw[lzE,show (i:Int)=(c.1.length:Int) by omega,bzb,azc,ha,List.take_of_length_le (by omega),xzh _ (HzZ _) (by simpa using hl),azd]
 |succ k ih=>
  intro i acc hi ha
  have h:i<c.1.length:=by omega
  rw[lzE,bzp h,aza,az0 h,aza,EzP,azd,azv (xs:=acc) (by decide) (by rw[ha];simp;omega),aza,azq (by omega),bzA h,Mzm]
  refine ih (i+1) _ (by omega) ?_
  rw[ha,List.take_add_one,List.map_append,List.getElem?_eq_getElem h];rfl
theorem nzP (c:azl) (h:Fine azr c):dzf (c,())=some ((bz6 c,()),()):=by
 have hl:c.1.length≤16777216:=h.1.1
 have:=rzl c hl c.1.length 0 [] (by omega) rfl
 rw[vzz,yz1 c h,azd]
 unfold bz6
 cases cz9 c
 ·rfl
 ·exact this
theorem hzE (c:azl):(bz6 c).size≤32:=by
 unfold bz6
 cases cz9 c
 ·simp [gzq]
 ·exact zzV _
end Go.Proofs.YtdfbhjpmdjmdaaaGreatDoor
