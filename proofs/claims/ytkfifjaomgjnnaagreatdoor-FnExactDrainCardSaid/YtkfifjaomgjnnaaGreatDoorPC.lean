/- Committees: their secrets, their keys; whether heads, committees, clients are right; a new bridge. Of no condition. -/
import Derived.Test.YtkfifjaomgjnnaaGreatDoorPB
set_option linter.unusedVariables false
set_option linter.unusedSimpArgs false
set_option maxRecDepth 100000
namespace Go.Proofs.YtkfifjaomgjnnaaGreatDoor
open Go.TV
def keyOk (p:Pt):Bool:=ingroup p&&!p.2.2.1
def committeeOk (c:tCommittee):Bool:=decide (c.1.length=8)&&c.1.all keyOk
theorem iCommitteeOk_loop (xs:List tPoint) (hl:xs.length≤16777216): ∀ (k i:Nat),i+k=xs.length→iCommitteeOk_D4 (xs,(len xs,((i:Int),())))=some (((xs.drop i).all keyOk,()),()):=by
 intro k
 induction k with
 |zero=>intro i hi;rw[iCommitteeOk_q4,show (i:Int)=(xs.length:Int) by omega,ilt_end,cnd_f,show i=xs.length by omega];simp
 |succ k ih=>
  intro i hi
  have h:i<xs.length:=by omega
  rw[iCommitteeOk_q4,ilt_at h,cnd_t,inb_at h,cnd_t,rd_at h,iInGroup_l,bnd_s,next_at (by omega),ih (i+1) (by omega),List.drop_eq_getElem_cons h,List.all_cons]
  unfold keyOk
  cases xs[i].2.2.1<;>cases ingroup xs[i]<;>rfl
theorem sCommitteeOk_loop (c:tCommittee) (hl:c.1.length≤16777216): ∀ (k i:Nat),i+k=c.1.length→sCommitteeOk_D2 ((i:Int),(c,()))=some (((c.1.drop i).all keyOk&&decide (c.1.length=8),()),()):=by
 intro k
 induction k with
 |zero=>
  intro i hi
  rw[sCommitteeOk_q2,show (i:Int)=(c.1.length:Int) by omega,ilt_end,cnd_f,show i=c.1.length by omega,ieq_d,len_d]
  have:((c.1.length:Int)=8)↔c.1.length=8:=by omega
  simp [this]
 |succ k ih=>
  intro i hi
  have h:i<c.1.length:=by omega
  rw[sCommitteeOk_q2,ilt_at h,cnd_t,inb_at h,cnd_t,rd_at h,sInGroup_l,bnd_s,next_at (by omega),ih (i+1) (by omega),List.drop_eq_getElem_cons h,List.all_cons]
  unfold keyOk
  cases c.1[i].2.2.1<;>cases ingroup c.1[i]<;>rfl
theorem iCommitteeOk_l (c:tCommittee) (h:Fine TCommittee c):iCommitteeOk_d (c,())=some ((committeeOk c,()),()):=by
 have hl:c.1.length≤16777216:=h.1.1
 have h0:iCommitteeOk_D4 (c.1,(len c.1,(0,())))=_:=iCommitteeOk_loop c.1 hl c.1.length 0 (by omega)
 rw[iCommitteeOk_b,h0,ine_d,len_d,cnd_not,cnd_d]
 have:((c.1.length:Int)=8)↔c.1.length=8:=by omega
 simp only[this,List.drop_zero]
 unfold committeeOk
 by_cases h8:c.1.length=8<;>simp [h8]
theorem sCommitteeOk_l (c:tCommittee) (h:Fine TCommittee c):sCommitteeOk_d (c,())=some ((committeeOk c,()),()):=by
 have hl:c.1.length≤16777216:=h.1.1
 have h0:sCommitteeOk_D2 (0,(c,()))=_:=sCommitteeOk_loop c hl c.1.length 0 (by omega)
 rw[sCommitteeOk_b,h0,List.drop_zero,Bool.and_comm];rfl
def clientOk (c:tClient):Bool:=headOk c.1&&(committeeOk c.2.1&&(bif c.2.2.2.1 then committeeOk c.2.2.1 else decide (c.2.2.1.1.length=0)))
theorem len_zero {α:Type} (xs:List α):ieq (len xs) 0=decide (xs.length=0):=by
 rw[ieq_d,len_d]
 have:((xs.length:Int)=0)↔xs.length=0:=by omega
 simp only[this]
theorem iClientOk_l (c:tClient) (h:Fine TClient c):iClientOk_d (c,())=some ((clientOk c,()),()):=by
 rw[iClientOk_b,iHeadOk_l,bnd_s,iCommitteeOk_l _ h.2.1,bnd_s,iCommitteeOk_l _ h.2.2.1,bnd_s,len_zero]
 unfold clientOk
 cases headOk c.1<;>cases committeeOk c.2.1<;>cases c.2.2.2.1<;>rfl
theorem sClientOk_l (c:tClient) (h:Fine TClient c):sClientOk_d (c,())=some ((clientOk c,()),()):=by
 rw[sClientOk_b,sHeadOk_l,bnd_s,sCommitteeOk_l _ h.2.1,bnd_s,sCommitteeOk_l _ h.2.2.1,bnd_s,len_zero]
 unfold clientOk
 cases headOk c.1<;>cases committeeOk c.2.1<;>cases c.2.2.2.1<;>rfl
end Go.Proofs.YtkfifjaomgjnnaaGreatDoor
