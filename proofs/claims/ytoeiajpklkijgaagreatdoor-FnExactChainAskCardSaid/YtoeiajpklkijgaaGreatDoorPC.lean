/- Committees: their secrets, their keys; whether heads, committees, clients are right; a new bridge. Of no condition. -/
import Derived.Test.YtoeiajpklkijgaaGreatDoorPB
set_option linter.unusedVariables false
set_option linter.unusedSimpArgs false
set_option maxRecDepth 100000
namespace Go.Proofs.YtoeiajpklkijgaaGreatDoor
open Go.TV
theorem iScOf_l (n:Int):iScOf_d (n,())=some ((n % 1009,()),()):=by
 rw[iScOf_b,iRemainder_l n _ (by decide) (by decide),bnd_s]
theorem sScOf_l (n:Int):sScOf_d (n,())=some ((n % 1009,()),()):=by
 rw[sScOf_b,nz_lit (by decide),cnd_t,rem_law n _ (by decide) (by decide)]
def keyOf (s:Int):Pt:=ptimes (s % 1009) baseP
theorem iKeyOf_l (s:Int):iKeyOf_d (s,())=some ((keyOf s,()),()):=by
 rw[iKeyOf_b,iScOf_l,bnd_s,iBase_b,bnd_s,iTimes_l,bnd_s];rfl
theorem sKeyOf_l (s:Int):sKeyOf_d (s,())=some ((keyOf s,()),()):=by
 rw[sKeyOf_b,sScOf_l,bnd_s,sBase_b,bnd_s,sTimes_l _ _ (by show 0≤s % 1009;omega),bnd_s];rfl
def secret (n:Int) (i:Nat):Int:=1+(n*31+(i:Int)*57+7) % 1007
def secretsFrom (n:Int):Nat→Nat→List Int
 |0,_=>[]
 |k+1,i=>secret n i::secretsFrom n k (i+1)
def secrets (s:Int):List Int:=secretsFrom (s % 1000) 8 0
theorem secretsFrom_len (n:Int): ∀k i,(secretsFrom n k i).length=k
 |0,_=>rfl
 |k+1,i=>by simp [secretsFrom,secretsFrom_len n k]
theorem secret_step (n:Int) (i:Nat) (h0:0≤n) (h1:n<1000) (hi:i<8):iadd .i64 1 (irem (iadd .i64 (iadd .i64 (imul .i64 n 31) (imul .i64 (i:Int) 57)) 7) 1007)=secret n i:=by
 rw[imul_64 (x:=n) (by omega) (by omega),imul_64 (x:=(i:Int)) (by omega) (by omega),iadd_64 (x:=n*31) (by omega) (by omega),iadd_64 (x:=n*31+(i:Int)*57) (by omega) (by omega),irem_0 (by omega),iadd_64 (by omega) (by omega)]
 rfl
theorem iSecrets_loop (n:Int) (h0:0≤n) (h1:n<1000): ∀ (k i:Nat) (acc:List Int),i+k=8→acc.length=i→iSecretsOf_D4 (n,(acc,((i:Int),())))=some ((acc++secretsFrom n k i,()),()):=by
 intro k
 induction k with
 |zero=>intro i acc hi ha;rw[iSecretsOf_q4,ilt_f (by omega),cnd_f];simp [secretsFrom]
 |succ k ih=>
  intro i acc hi ha
  rw[iSecretsOf_q4,ilt_t (by omega),cnd_t,nz_lit (by decide),cnd_t,secret_step n i h0 h1 (by omega),app_fits (by decide) (by simp;omega),cnd_t,app_one,next_at (by omega),ih (i+1) _ (by omega) (by simp;omega),secretsFrom,List.append_assoc]
  rfl
theorem sSecrets_loop (n:Int) (h0:0≤n) (h1:n<1000): ∀ (k i:Nat) (acc:List Int),i+k=8→acc.length=i→sSecretsOf_D6 (n,(acc,((i:Int),())))=some ((acc++secretsFrom n k i,()),()):=by
 intro k
 induction k with
 |zero=>intro i acc hi ha;rw[sSecretsOf_q6,ilt_f (by omega),cnd_f];simp [secretsFrom]
 |succ k ih=>
  intro i acc hi ha
  rw[sSecretsOf_q6,ilt_t (by omega),cnd_t,nz_lit (by decide),cnd_t,secret_step n i h0 h1 (by omega),app_fits (by decide) (by simp;omega),cnd_t,app_one,next_at (by omega),ih (i+1) _ (by omega) (by simp;omega),secretsFrom,List.append_assoc]
  rfl
theorem iSecretsOf_l (s:Int):iSecretsOf_d (s,())=some ((secrets s,()),()):=by
 rw[iSecretsOf_b,iRemainder_l s _ (by decide) (by decide),bnd_s]
 exact iSecrets_loop (s % 1000) (by omega) (by omega) 8 0 [] rfl rfl
theorem sSecretsOf_l (s:Int):sSecretsOf_d (s,())=some ((secrets s,()),()):=by
 have h4:sSecretsOf_D4 (s % 1000,())=some ((secrets s,()),()):=by
  rw[sSecretsOf_q4]
  exact sSecrets_loop (s % 1000) (by omega) (by omega) 8 0 [] rfl rfl
 rw[sSecretsOf_b,nz_lit (by decide),cnd_t]
 rcases tmod_cases s 1000 (by decide) with ⟨h,e⟩| ⟨h,e⟩
 ·rw[ilt_f h,cnd_f,e,h4]
 ·rw[ilt_t h,cnd_t,iadd_64 (by omega) (by omega),e,h4]
def committeeOf (s:Int):tCommittee:=((secrets s).map keyOf,())
theorem iCommitteeOf_loop (xs:List Int) (z:tCommittee): ∀ (k i:Nat) (acc:List tPoint),i+k=xs.length→acc.length=i→xs.length≤1000→iCommitteeOf_D3 (xs,(len xs,((i:Int),(z,((acc,()),())))))=some (((acc++(xs.drop i).map keyOf,()),()),()):=by
 intro k
 induction k with
 |zero=>intro i acc hi ha hl;rw[iCommitteeOf_q3,show (i:Int)=(xs.length:Int) by omega,ilt_end,cnd_f,show i=xs.length by omega];simp
 |succ k ih=>
  intro i acc hi ha hl
  have h:i<xs.length:=by omega
  rw[iCommitteeOf_q3,ilt_at h,cnd_t,inb_at h,cnd_t,iKeyOf_l,bnd_s,app_fits (xs:=acc) (by decide) (by simp;omega),cnd_t,next_at (by omega),rd_at h,app_one]
  have:=ih (i+1) (acc++[keyOf xs[i]]) (by omega) (by simp;omega) hl
  rw[this,List.drop_eq_getElem_cons h,List.map_cons,List.append_assoc]
  rfl
theorem sCommitteeOf_loop (xs:List Int) (z:tCommittee): ∀ (k i:Nat) (acc:List tPoint),i+k=xs.length→acc.length=i→xs.length≤1000→sCommitteeOf_D4 (xs,((i:Int),(z,((acc,()),()))))=some (((acc++(xs.drop i).map keyOf,()),()),()):=by
 intro k
 induction k with
 |zero=>intro i acc hi ha hl;rw[sCommitteeOf_q4,show (i:Int)=(xs.length:Int) by omega,ilt_end,cnd_f,show i=xs.length by omega];simp
 |succ k ih=>
  intro i acc hi ha hl
  have h:i<xs.length:=by omega
  rw[sCommitteeOf_q4,ilt_at h,cnd_t,inb_at h,cnd_t,sKeyOf_l,bnd_s,app_fits (xs:=acc) (by decide) (by simp;omega),cnd_t,next_at (by omega),rd_at h,app_one]
  have:=ih (i+1) (acc++[keyOf xs[i]]) (by omega) (by simp;omega) hl
  rw[this,List.drop_eq_getElem_cons h,List.map_cons,List.append_assoc]
  rfl
theorem secrets_len (s:Int):(secrets s).length=8:=secretsFrom_len _ 8 0
theorem iCommitteeOf_l (s:Int):iCommitteeOf_d (s,())=some ((committeeOf s,()),()):=by
 rw[iCommitteeOf_b,iSecretsOf_l,bnd_s]
 exact iCommitteeOf_loop (secrets s) zCommittee 8 0 [] (by rw[secrets_len]) rfl (by rw[secrets_len];decide)
theorem sCommitteeOf_l (s:Int):sCommitteeOf_d (s,())=some ((committeeOf s,()),()):=by
 rw[sCommitteeOf_b,sSecretsOf_l,bnd_s]
 exact sCommitteeOf_loop (secrets s) zCommittee 8 0 [] (by rw[secrets_len]) rfl (by rw[secrets_len];decide)
theorem committeeOf_fine {B:Nat} (hB:8≤B) (s:Int):Bnd B TCommittee (committeeOf s):=by
 refine ⟨⟨?_,fun x _=>⟨trivial,trivial,trivial,trivial⟩⟩,trivial⟩
 show ((secrets s).map keyOf).length≤B
 rw[List.length_map,secrets_len];exact hB
theorem irem_lt (n m:Int) (hm:0<m): -m≤irem n m∧irem n m<m:=by
 have h0:=Int.emod_nonneg n (Int.ne_of_gt hm)
 have h1:=Int.emod_lt_of_pos n hm
 rcases tmod_cases n m hm with ⟨h,e⟩| ⟨h,e⟩<;>omega
def seedOf (c k:Int):Int:=irem c 1000+13*irem k 1000
theorem iChainCommittee_l (c:tChain) (k:Int):iChainCommittee_d (c,(k,()))=some ((committeeOf (seedOf c.1 k),()),()):=by
 have h1:=irem_lt c.1 1000 (by decide)
 have h2:=irem_lt k 1000 (by decide)
 rw[iChainCommittee_b,iSeedOf_b,nz_lit (by decide),cnd_t,cnd_t,bnd_s,imul_64 (by omega) (by omega),iadd_64 (by omega) (by omega)]
 rw[show irem c.1 1000+13*irem k 1000=seedOf c.1 k from rfl]
 rw[iCommitteeOf_l,bnd_s]
theorem sChainCommittee_l (c:tChain) (k:Int):sChainCommittee_d (c,(k,()))=some ((committeeOf (seedOf c.1 k),()),()):=by
 have h1:=irem_lt c.1 1000 (by decide)
 have h2:=irem_lt k 1000 (by decide)
 rw[sChainCommittee_b,nz_lit (by decide),cnd_t,cnd_t,imul_64 (by omega) (by omega),iadd_64 (by omega) (by omega),show irem c.1 1000+irem k 1000*13=seedOf c.1 k by unfold seedOf;omega,sCommitteeOf_l,bnd_s]
theorem committee_same (c:tChain) (k:Int): ∃r,sChainCommittee_d (c,(k,()))=some ((r,()),())∧iChainCommittee_d (c,(k,()))=some ((r,()),())∧Fine TCommittee r:=
 ⟨_,sChainCommittee_l c k,iChainCommittee_l c k,committeeOf_fine (by decide) _⟩
def keyOk (p:Pt):Bool:=ingroup p&&!p.2.2.1
def committeeOk (c:tCommittee):Bool:=decide (c.1.length=8)&&c.1.all keyOk
theorem iCommitteeOk_loop (xs:List tPoint) (hl:xs.length≤16777216): ∀ (k i:Nat),i+k=xs.length→iCommitteeOk_D4 (xs,(len xs,((i:Int),())))=some (((xs.drop i).all keyOk,()),()):=by
 intro k
 induction k with
 |zero=>intro i hi;rw[iCommitteeOk_q4,show (i:Int)=(xs.length:Int) by omega,ilt_end,cnd_f,show i=xs.length by omega];simp
 |succ k ih=>
  intro i hi
  have h:i<xs.length:=by omega
  rw[iCommitteeOk_q4,ilt_at h,cnd_t,inb_at h,cnd_t,rd_at h,iInGroup_l,bnd_s,next_at (by omega),ih (i+1) (by omega),List.drop_eq_getElem_cons h,List.all_cons]
  unfold keyOk
  cases xs[i].2.2.1<;>cases ingroup xs[i]<;>rfl
theorem sCommitteeOk_loop (c:tCommittee) (hl:c.1.length≤16777216): ∀ (k i:Nat),i+k=c.1.length→sCommitteeOk_D2 ((i:Int),(c,()))=some (((c.1.drop i).all keyOk&&decide (c.1.length=8),()),()):=by
 intro k
 induction k with
 |zero=>
  intro i hi
  rw[sCommitteeOk_q2,show (i:Int)=(c.1.length:Int) by omega,ilt_end,cnd_f,show i=c.1.length by omega,ieq_d,len_d]
  have:((c.1.length:Int)=8)↔c.1.length=8:=by omega
  simp [this]
 |succ k ih=>
  intro i hi
  have h:i<c.1.length:=by omega
  rw[sCommitteeOk_q2,ilt_at h,cnd_t,inb_at h,cnd_t,rd_at h,sInGroup_l,bnd_s,next_at (by omega),ih (i+1) (by omega),List.drop_eq_getElem_cons h,List.all_cons]
  unfold keyOk
  cases c.1[i].2.2.1<;>cases ingroup c.1[i]<;>rfl
theorem iCommitteeOk_l (c:tCommittee) (h:Fine TCommittee c):iCommitteeOk_d (c,())=some ((committeeOk c,()),()):=by
 have hl:c.1.length≤16777216:=h.1.1
 have h0:iCommitteeOk_D4 (c.1,(len c.1,(0,())))=_:=iCommitteeOk_loop c.1 hl c.1.length 0 (by omega)
 rw[iCommitteeOk_b,h0,ine_d,len_d,cnd_not,cnd_d]
 have:((c.1.length:Int)=8)↔c.1.length=8:=by omega
 simp only[this,List.drop_zero]
 unfold committeeOk
 by_cases h8:c.1.length=8<;>simp [h8]
theorem sCommitteeOk_l (c:tCommittee) (h:Fine TCommittee c):sCommitteeOk_d (c,())=some ((committeeOk c,()),()):=by
 have hl:c.1.length≤16777216:=h.1.1
 have h0:sCommitteeOk_D2 (0,(c,()))=_:=sCommitteeOk_loop c hl c.1.length 0 (by omega)
 rw[sCommitteeOk_b,h0,List.drop_zero,Bool.and_comm];rfl
end Go.Proofs.YtoeiajpklkijgaaGreatDoor
