/- Points, committees and proofs as texts, and back. Of no condition. -/
import Derived.Test.YtoeiajpklkijgaaGreatDoorVA
set_option linter.unusedVariables false
set_option linter.unusedSimpArgs false
set_option maxRecDepth 100000
namespace Go.Proofs.YtoeiajpklkijgaaGreatDoor
open Go.TV
def pointText (p:tPoint):ByteArray:=if pok p then (bif p.2.2.1 then bs [0,0,0] else sof [iconv .u8 (ishr .i64 (iadd .i64 p.1 1) 8),iconv .u8 (iadd .i64 p.1 1),iconv .u8 (irem p.2.1 2)]) else bs []
theorem pointText_size (p:tPoint):(pointText p).size≤3:=by
 unfold pointText
 split
 ·cases p.2.2.1
  ·simp [size_sof]
  ·simp [size_bs]
 ·simp [size_bs]
theorem iPointText_l (p:tPoint):iPointText_d (p,())=some ((pointText p,()),()):=by
 rw[iPointText_b,iPointOk_l,bnd_s]
 unfold pointText
 by_cases h:pok p
 ·rw[if_pos h,decide_eq_true h];cases p.2.2.1<;>rfl
 ·rw[if_neg h,decide_eq_false h];rfl
theorem sPointText_l (p:tPoint):sPointText_d (p,())=some ((pointText p,()),()):=by
 rw[sPointText_b,sPointOk_l,bnd_s]
 unfold pointText
 by_cases h:pok p
 ·rw[if_pos h,decide_eq_true h];cases p.2.2.1<;>rfl
 ·rw[if_neg h,decide_eq_false h];rfl
theorem iKeyTexts_loop (xs:List tPoint) (hl:xs.length≤16777216): ∀ (k i:Nat) (acc:List ByteArray),i+k=xs.length→acc.length=i→iKeyTexts_D3 (acc,(xs,(len xs,((i:Int),()))))=some ((acc++(xs.drop i).map pointText,()),()):=by
 intro k
 induction k with
 |zero=>intro i acc hi ha;rw[iKeyTexts_q3,show (i:Int)=(xs.length:Int) by omega,ilt_end,cnd_f,show i=xs.length by omega];simp
 |succ k ih=>
  intro i acc hi ha
  have h:i<xs.length:=by omega
  rw[iKeyTexts_q3,ilt_at h,cnd_t,inb_at h,cnd_t,iPointText_l,bnd_s,app_fits (xs:=acc) (by decide) (by simp;omega),cnd_t,next_at (by omega),rd_at h,app_one,ih (i+1) _ (by omega) (by simp;omega),List.drop_eq_getElem_cons h,List.map_cons,List.append_assoc]
  rfl
theorem iKeyTexts_l (c:tCommittee) (hl:c.1.length≤16777216):iKeyTexts_d (c,())=some ((c.1.map pointText,()),()):=by
 rw[iKeyTexts_b]
 exact iKeyTexts_loop c.1 hl c.1.length 0 [] (by omega) rfl
theorem map_size (xs:List tPoint): ∀y∈xs.map pointText,y.size≤268435456:=fun y hy=>by
 obtain ⟨p,_,rfl⟩:=List.mem_map.1 hy
 have:=pointText_size p;omega
def comRoot (c:tCommittee):ByteArray:=bif committeeOk c then rootV (c.1.map pointText) else bs []
theorem comOk_len {c:tCommittee} (h:committeeOk c=true):c.1.length=8:=by
 unfold committeeOk at h
 rw[Bool.and_eq_true] at h
 exact of_decide_eq_true h.1
theorem iCommitteeRoot_l (c:tCommittee) (h:Fine TCommittee c):iCommitteeRoot_d (c,())=some ((comRoot c,()),()):=by
 have hl:c.1.length≤16777216:=h.1.1
 rw[iCommitteeRoot_b,iCommitteeOk_l c h,bnd_s,iKeyTexts_l c hl,bnd_s,iRootOf_l _ (map_size _) (by simpa using hl),bnd_s]
 unfold comRoot
 cases committeeOk c<;>rfl
theorem sCommitteeRoot_loop (c:tCommittee) (hl:c.1.length≤16777216): ∀ (k i:Nat) (acc:List ByteArray),i+k=c.1.length→acc=(c.1.take i).map pointText→sCommitteeRoot_D5 (acc,((i:Int),(c,())))=some ((rootV (c.1.map pointText),()),()):=by
 intro k
 induction k with
 |zero=>
  intro i acc hi ha
  rw[sCommitteeRoot_q5,show (i:Int)=(c.1.length:Int) by omega,ilt_end,cnd_f,ha,List.take_of_length_le (by omega),sRootOf_l _ (map_size _) (by simpa using hl),bnd_s]
 |succ k ih=>
  intro i acc hi ha
  have h:i<c.1.length:=by omega
  rw[sCommitteeRoot_q5,ilt_at h,cnd_t,inb_at h,cnd_t,sPointText_l,bnd_s,app_fits (xs:=acc) (by decide) (by rw[ha];simp;omega),cnd_t,next_at (by omega),rd_at h,app_one]
  refine ih (i+1) _ (by omega) ?_
  rw[ha,List.take_add_one,List.map_append,List.getElem?_eq_getElem h];rfl
theorem sCommitteeRoot_l (c:tCommittee) (h:Fine TCommittee c):sCommitteeRoot_d (c,())=some ((comRoot c,()),()):=by
 have hl:c.1.length≤16777216:=h.1.1
 have:=sCommitteeRoot_loop c hl c.1.length 0 [] (by omega) rfl
 rw[sCommitteeRoot_b,sCommitteeOk_l c h,bnd_s]
 unfold comRoot
 cases committeeOk c
 ·rfl
 ·exact this
theorem comRoot_size (c:tCommittee):(comRoot c).size≤32:=by
 unfold comRoot
 cases committeeOk c
 ·simp [size_bs]
 ·exact rootV_size _
end Go.Proofs.YtoeiajpklkijgaaGreatDoor
