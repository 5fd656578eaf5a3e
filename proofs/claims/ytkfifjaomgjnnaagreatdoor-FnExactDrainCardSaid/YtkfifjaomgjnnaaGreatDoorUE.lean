/- An update taken; a journal played again. Of no condition. -/
import Derived.Test.YtkfifjaomgjnnaaGreatDoorUD
set_option linter.unusedVariables false
set_option linter.unusedSimpArgs false
set_option maxRecDepth 100000
namespace Go.Proofs.YtkfifjaomgjnnaaGreatDoor
open Go.TV
theorem iSigText_l (h:tHead) (e:headOk h=true):iSigText_d (h,(7,()))=some ((scat (sof [iconv .u8 7]) (headRoot h),()),()):=by
 have:=headRoot_size h
 rw[iSigText_b,iHeadOk_l,bnd_s,e,show bnot true=false from rfl,cnd_f,show ilt 7 0=false from rfl,cnd_f,show igt 7 255=false from rfl,cnd_f,iHeadRoot_l,bnd_s]
 simp only[]
 rw[cat_fits (by simp only[size_sof,List.length];omega),cnd_t]
theorem sSigText_l (h:tHead) (e:headOk h=true):sSigText_d (h,(7,()))=some ((scat (sof [iconv .u8 7]) (headRoot h),()),()):=by
 have:=headRoot_size h
 rw[sSigText_b,sHeadOk_l,bnd_s,e,show bnot true=false from rfl,cnd_f,sIn_l,bnd_s,show bnot (decide ((0:Int)≤7∧(7:Int)≤255))=false from rfl,cnd_f,sHeadRoot_l,bnd_s]
 simp only[]
 rw[cat_fits (by simp only[size_sof,List.length];omega),cnd_t]
theorem iPer_l (n:Int) (h0:0≤n) (h1:n≤10000):iPeriodOf_d (n,())=some ((n/8,()),()):=by
 rw[iPeriodOf_b,show nz 8=true from rfl,cnd_t,show imax n 0=n by unfold imax;omega,iquo_64 h0 (by omega) (by decide)]
theorem sPer_l (n:Int) (h0:0≤n) (h1:n≤10000):sPeriodOf_d (n,())=some ((n/8,()),()):=by
 rw[sPeriodOf_b,ilt_f h0,cnd_f,show nz 8=true from rfl,cnd_t,iquo_64 h0 (by omega) (by decide)]
noncomputable def signersV (c:tClient) (n:Int):tCommittee×Bool:=
 if n/8=c.1.1/8 then (c.2.1,true) else if n/8=c.1.1/8+1∧c.2.2.2.1=true then (c.2.2.1,true) else (zCommittee,false)
theorem iSigners_l (c:tClient) (n:Int) (hc:Fine TClient c) (c0:0≤c.1.1∧c.1.1≤10000) (n0:0≤n∧n≤10000):iSigners_d (c,(n,()))=some (((signersV c n).1,((signersV c n).2,())),()):=by
 rw[iSigners_b,iPer_l _ c0.1 c0.2,bnd_s,iPer_l _ n0.1 n0.2,bnd_s,bnd_s,iCopyCommittee_l _ hc.2.1,bnd_s,iCopyCommittee_l _ hc.2.2.1,bnd_s]
 simp only[]
 rw[iadd_64 (by omega) (by omega),ieq_d,ieq_d,cnd_d,cnd_d]
 unfold signersV
 by_cases h1:n/8=c.1.1/8
 ·rw[if_pos h1,if_pos h1]
 ·rw[if_neg h1,if_neg h1]
  by_cases h2:n/8=c.1.1/8+1
  ·rw[if_pos h2]
   cases hb:c.2.2.2.1
   ·rw[if_neg fun h=>nomatch h.2];rfl
   ·rw[if_pos ⟨h2,rfl⟩];rfl
  ·rw[if_neg h2,if_neg fun h=>h2 h.1]
theorem sSigners_l (c:tClient) (n:Int) (hc:Fine TClient c) (c0:0≤c.1.1∧c.1.1≤10000) (n0:0≤n∧n≤10000):sSigners_d (c,(n,()))=some (((signersV c n).1,((signersV c n).2,())),()):=by
 rw[sSigners_b,sPer_l _ n0.1 n0.2,bnd_s,sPer_l _ c0.1 c0.2,bnd_s,sCommittee_l _ hc.2.1,bnd_s,sCommittee_l _ hc.2.2.1,bnd_s]
 simp only[]
 rw[iadd_64 (by omega) (by omega),ieq_d,ieq_d,cnd_d,cnd_d]
 unfold signersV
 by_cases h1:n/8=c.1.1/8
 ·rw[if_pos h1,if_pos h1]
 ·rw[if_neg h1,if_neg h1]
  by_cases h2:n/8=c.1.1/8+1
  ·rw[if_pos h2]
   cases hb:c.2.2.2.1
   ·rw[if_neg fun h=>nomatch h.2];rfl
   ·rw[if_pos ⟨h2,rfl⟩];rfl
  ·rw[if_neg h2,if_neg fun h=>h2 h.1]
noncomputable def slotsV (c:tClient) (u:tUpdate) (now:Int):Int:=
 if u.1.1<u.2.2.2.1.1∨u.2.2.2.2.2.2.2.2.1≤u.1.1∨now<u.2.2.2.2.2.2.2.2.1 then 2
 else if (signersV c u.2.2.2.2.2.2.2.2.1).2=false∨ ¬u.1.1/8=u.2.2.2.2.2.2.2.2.1/8 then 3
 else if u.2.2.2.1.1≤c.1.1∧(c.2.2.2.1=true∨ ¬u.1.1/8=c.1.1/8) then 4 else 0
theorem slots_law (c:tClient) (u:tUpdate) (now:Int) (S:Bool) (P Q C:Int) (hS:S=(signersV c u.2.2.2.2.2.2.2.2.1).2) (hP:P=u.1.1/8) (hQ:Q=u.2.2.2.2.2.2.2.2.1/8) (hC:C=c.1.1/8):
 cnd (igt u.2.2.2.1.1 u.1.1) (some (((2:Int),()),())) (cnd (ige u.1.1 u.2.2.2.2.2.2.2.2.1) (some (((2:Int),()),())) (cnd (igt u.2.2.2.2.2.2.2.2.1 now) (some (((2:Int),()),())) (cnd (bnot S) (some (((3:Int),()),())) (cnd (ine P Q) (some (((3:Int),()),()))
  (cnd (ile u.2.2.2.1.1 c.1.1) (cnd c.2.2.2.1 (some (((4:Int),()),())) (cnd (ine P C) (some (((4:Int),()),())) (some (((0:Int),()),())))) (some (((0:Int),()),())))))))=some ((slotsV c u now,()),()):=by
 subst hS hP hQ hC
 unfold slotsV
 rw[igt_d,ige_d,igt_d,ine_d,ile_d,ine_d]
 by_cases h1:u.1.1<u.2.2.2.1.1
 ·simp [h1,cnd]
 ·by_cases h2:u.2.2.2.2.2.2.2.2.1≤u.1.1
  ·simp [h1,h2,cnd]
  ·by_cases h3:now<u.2.2.2.2.2.2.2.2.1
   ·simp [h1,h2,h3,cnd]
   ·cases h4:(signersV c u.2.2.2.2.2.2.2.2.1).2
    ·simp [h1,h2,h3,h4,cnd,bnot]
    ·by_cases h5:u.1.1/8=u.2.2.2.2.2.2.2.2.1/8
     ·by_cases h6:u.2.2.2.1.1≤c.1.1
      ·cases h7:c.2.2.2.1
       ·by_cases h8:u.1.1/8=c.1.1/8
        ·have h9:u.2.2.2.2.2.2.2.2.1/8=c.1.1/8:=h5.symm.trans h8
         simp [h1,h2,h3,h4,h5,h6,h7,h8,h9,cnd,bnot]
        ·have h9: ¬u.2.2.2.2.2.2.2.2.1/8=c.1.1/8:=fun h=>h8 (h5.trans h)
         simp [h1,h2,h3,h4,h5,h6,h7,h8,h9,cnd,bnot]
       ·simp [h1,h2,h3,h4,h5,h6,h7,cnd,bnot]
      ·simp [h1,h2,h3,h4,h5,h6,cnd,bnot]
     ·simp [h1,h2,h3,h4,h5,cnd,bnot]
theorem iSlots_l (c:tClient) (u:tUpdate) (now:Int) (hc:Fine TClient c) (c0:0≤c.1.1∧c.1.1≤10000) (u0:0≤u.1.1∧u.1.1≤10000) (n0:0≤u.2.2.2.2.2.2.2.2.1∧u.2.2.2.2.2.2.2.2.1≤10000):iCheckSlots_d (c,(u,(now,())))=some ((slotsV c u now,()),()):=by
 rw[iCheckSlots_b,iSigners_l c _ hc c0 n0,bnd_s,iPer_l _ u0.1 u0.2,bnd_s,iPer_l _ n0.1 n0.2,bnd_s,bnd_s,iPer_l _ c0.1 c0.2,bnd_s]
 exact slots_law c u now _ _ _ _ rfl rfl rfl rfl
theorem sSlots_l (c:tClient) (u:tUpdate) (now:Int) (hc:Fine TClient c) (c0:0≤c.1.1∧c.1.1≤10000) (u0:0≤u.1.1∧u.1.1≤10000) (n0:0≤u.2.2.2.2.2.2.2.2.1∧u.2.2.2.2.2.2.2.2.1≤10000):sL22Slots_d (c,(u,(now,())))=some ((slotsV c u now,()),()):=by
 rw[sL22Slots_b,sSigners_l c _ hc c0 n0,bnd_s,sPer_l _ u0.1 u0.2,bnd_s,sPer_l _ n0.1 n0.2,bnd_s,bnd_s,sPer_l _ c0.1 c0.2,bnd_s]
 exact slots_law c u now _ _ _ _ rfl rfl rfl rfl
theorem signers_fine (c:tClient) (n:Int) (hc:Fine TClient c):Fine TCommittee (signersV c n).1:=by
 unfold signersV
 split
 ·exact hc.2.1
 ·split
  ·exact hc.2.2.1
  ·exact fine_pts [] (Nat.zero_le _)
theorem clientOk_out {c:tClient} (h:clientOk c=true):headOk c.1=true:=by
 unfold clientOk at h
 rw[Bool.and_eq_true] at h
 exact h.1
theorem check_both (c:tClient) (u:tUpdate) (now:Int) (hc:Fine TClient c) (hu:UFine u): ∃r:Int,iCheckUpdate_d (c,(u,(now,())))=some ((r,()),())∧sCheckUpdate_d (c,(u,(now,())))=some ((r,()),())∧(r=0→clientOk c=true∧updateOk u=true∧slotsV c u now=0):=by
 rw[iCheckUpdate_b,sCheckUpdate_b,iClientOk_l c hc,sClientOk_l c hc,iUpdateOk_l u hu,sUpdateOk_l u hu]
 simp only[bnd_s]
 cases hcl:clientOk c
 ·exact ⟨1,rfl,rfl,fun h=>by cases h⟩
 ·cases hup:updateOk u
  ·exact ⟨1,rfl,rfl,fun h=>by cases h⟩
  ·obtain ⟨h1,h2,h3,h4,h5,h6,h7,h8,h9⟩:=updateOk_out hup
   obtain ⟨c0,c1,_⟩:=headOk_out (clientOk_out hcl)
   obtain ⟨u0,u1,_⟩:=headOk_out h1
   obtain ⟨n0,n1,hn,k0,k1⟩:=branchOk_out h3
   obtain ⟨f0,f1,hf,l0,l1⟩:=branchOk_out h4
   obtain ⟨b,hb⟩:=Int.eq_ofNat_of_zero_le h5.1
   have hb2:b<256:=by have:=h5.2;omega
   have hcm:Fine TCommittee u.2.1:=fine_pts u.2.1.1 hu.1
   simp only[show bnot true=false from rfl,cnd_f]
   rw[iSlots_l c u now hc ⟨c0,c1⟩ ⟨u0,u1⟩ h6,sSlots_l c u now hc ⟨c0,c1⟩ ⟨u0,u1⟩ h6,bnd_s,bnd_s]
   by_cases hs:slotsV c u now=0
   ·have fin: ∀ {i s:Option ((Int×Unit)×Unit)},Both i s→ ∃r:Int,i=some ((r,()),())∧s=some ((r,()),())∧(r=0→True∧True∧slotsV c u now=0):=fun h=>by
     obtain ⟨⟨⟨r,⟨⟩⟩,⟨⟩⟩,e1,e2⟩:=h
     exact ⟨r,e1,e2,fun _=>⟨trivial,trivial,hs⟩⟩
    refine fin ?_
    obtain ⟨js,hj,ij,sj⟩:=joined_l (signersV c u.2.2.2.2.2.2.2.2.1).1 (signers_fine c _ hc) b hb2
    have hsz:(scat (sof [iconv .u8 7]) (headRoot u.1)).size≤1048576:=by
     have:=headRoot_size u.1
     rw[size_scat,size_sof];simp only[List.length];omega
    have hr1:=headRoot_size u.2.2.2.1
    have hr2:=comRoot_size u.2.1
    rw[hs,show ine 0 0=false from rfl,cnd_f,cnd_f,iSigners_l c _ hc ⟨c0,c1⟩ h6,bnd_s,iHeadRoot_l,sHeadRoot_l,bnd_s,bnd_s,hf,iFold3 (headRoot u.2.2.2.1) _ _ (by omega) l0 l1,sFold3 (headRoot u.2.2.2.1) _ _ (by omega) l0 l1,bnd_s,bnd_s]
    refine Both.cnd rfl .ret ?_
    rw[iCommitteeRoot_l _ hcm,sCommitteeRoot_l _ hcm,bnd_s,bnd_s,hn,iFold2 (comRoot u.2.1) _ _ (by omega) k0 k1,sFold2 (comRoot u.2.1) _ _ (by omega) k0 k1,bnd_s,bnd_s]
    refine Both.cnd rfl .ret ?_
    rw[hb,iCountBits_l b hb2,sCountBits_l b hb2,bnd_s,bnd_s]
    refine Both.cnd rfl .ret ?_
    rw[iPublicOf_l b hb2,sPublicOf_l b hb2,bnd_s,bnd_s]
    refine Both.bnd (proofOk_both c.2.2.2.2.1 _ _ _ hc.2.2.2.2.1.2.2.2.2.1.1) fun r=>?_
    refine Both.cnd rfl .ret ?_
    rw[sSigners_l c _ hc ⟨c0,c1⟩ h6,bnd_s,ij,sj,bnd_s,bnd_s,iSigText_l _ h1,sSigText_l _ h1,bnd_s,bnd_s]
    refine Both.bnd (allSig_both js _ _ hsz (by omega)) fun r=>?_
    exact Both.cnd rfl .ret .ret
   ·refine ⟨slotsV c u now,?_,?_,fun h=>absurd h hs⟩
    ·show cnd (ine (slotsV c u now) 0) _ _=_
     rw[ine_d,decide_eq_false hs];rfl
    ·show cnd (ine (slotsV c u now) 0) _ _=_
     rw[ine_d,decide_eq_false hs];rfl
noncomputable def mv1 (c:tClient) (u:tUpdate):tClient:=bif ieq (u.2.2.2.1.1/8) (c.1.1/8+1) then (c.1,(c.2.2.1,(zCommittee,(false,c.2.2.2.2)))) else c
noncomputable def mv2 (P:Int) (u:tUpdate) (c:tClient):tClient:=bif bnot c.2.2.2.1 then (bif ieq (u.1.1/8) P then (c.1,(c.2.1,(u.2.1,(true,c.2.2.2.2)))) else c) else c
noncomputable def mv3 (f:Int) (u:tUpdate) (c:tClient):tClient:=bif igt u.2.2.2.1.1 f then (u.2.2.2.1,c.2) else c
theorem mv1_1 (c:tClient) (u:tUpdate):(mv1 c u).1=c.1:=by unfold mv1;cases ieq (u.2.2.2.1.1/8) (c.1.1/8+1)<;>rfl
theorem mv2_1 (P:Int) (u:tUpdate) (c:tClient):(mv2 P u c).1=c.1:=by unfold mv2;cases bnot c.2.2.2.1<;>cases ieq (u.1.1/8) P<;>rfl
theorem mv_fine {P f:Int} {c:tClient} {u:tUpdate} (hc:Fine TClient c) (hu:UFine u) (hk:headOk u.2.2.2.1=true):Fine TClient (mv3 f u (mv2 P u (mv1 c u))):=by
 have h1:Fine TClient (mv1 c u):=by
  unfold mv1
  cases ieq (u.2.2.2.1.1/8) (c.1.1/8+1)
  ·exact hc
  ·exact ⟨hc.1,hc.2.2.1,fine_pts [] (Nat.zero_le _),trivial,hc.2.2.2.2⟩
 have h2:Fine TClient (mv2 P u (mv1 c u)):=by
  unfold mv2
  cases bnot (mv1 c u).2.2.2.1
  ·exact h1
  ·cases ieq (u.1.1/8) P
   ·exact h1
   ·exact ⟨h1.1,h1.2.1,fine_pts u.2.1.1 hu.1,trivial,h1.2.2.2.2⟩
 unfold mv3
 cases igt u.2.2.2.1.1 f
 ·exact h2
 ·obtain ⟨_,_,s1,s2,s3⟩:=headOk_out hk
  exact ⟨⟨trivial,by show u.2.2.2.1.2.1.size≤_;rw[s1];decide,by show u.2.2.2.1.2.2.1.size≤_;rw[s2];decide,by show u.2.2.2.1.2.2.2.1.size≤_;rw[s3];decide,trivial⟩,h2.2⟩
theorem slots_out {c:tClient} {u:tUpdate} {now:Int} (h:slotsV c u now=0):u.2.2.2.1.1≤u.1.1∧(u.1.1/8=c.1.1/8∨u.1.1/8=c.1.1/8+1):=by
 unfold slotsV at h
 split at h
 ·cases h
 ·rename_i h1
  split at h
  ·cases h
  ·rename_i h2
   have h3:u.1.1/8=u.2.2.2.2.2.2.2.2.1/8:=Classical.byContradiction fun k=>h2 (.inr k)
   have h4: ¬(signersV c u.2.2.2.2.2.2.2.2.1).2=false:=fun k=>h2 (.inl k)
   refine ⟨by omega,?_⟩
   rw[h3]
   unfold signersV at h4
   split at h4
   ·rename_i h5;exact .inl h5
   ·split at h4
    ·rename_i h6;exact .inr h6.1
    ·exact absurd rfl h4
theorem take_both (c:tClient) (u:tUpdate) (now:Int) (hc:Fine TClient c) (hu:UFine u): ∃ (r:tClient) (k:Int),Fine TClient r∧iTakeUpdate_d (c,(u,(now,())))=some ((r,(k,())),())∧sTakeUpdate_d (c,(u,(now,())))=some ((r,(k,())),()):=by
 obtain ⟨k,e1,e2,e3⟩:=check_both c u now hc hu
 rw[iTakeUpdate_b,sTakeUpdate_b,iCopyClient_l c hc,sCopy_l c hc,bnd_s,bnd_s,e1,e2,bnd_s,bnd_s]
 simp only[]
 by_cases hk:k=0
 ·obtain ⟨hcl,hup,hsl⟩:=e3 hk
  obtain ⟨h1,h2,h3,h4,h5,h6,h7,h8,h9⟩:=updateOk_out hup
  obtain ⟨c0,c1,_⟩:=headOk_out (clientOk_out hcl)
  obtain ⟨u0,u1,_⟩:=headOk_out h1
  obtain ⟨f0,f1,_⟩:=headOk_out h2
  obtain ⟨g1,g2⟩:=slots_out hsl
  have hcm:Fine TCommittee u.2.1:=fine_pts u.2.1.1 hu.1
  have hP:imax u.2.2.2.1.1 c.1.1/8=if u.2.2.2.1.1/8=c.1.1/8+1 then c.1.1/8+1 else c.1.1/8:=by
   unfold imax
   split<;>omega
  have hm:0≤imax u.2.2.2.1.1 c.1.1∧imax u.2.2.2.1.1 c.1.1≤10000:=by unfold imax;omega
  have i13: ∀c':tClient,iTakeUpdate_D13 (c,(u,(zClient,(c',()))))=some ((mv3 c.1.1 u c',(0,())),()):=fun c'=>by
   rw[iTakeUpdate_q13];unfold mv3;cases igt u.2.2.2.1.1 c.1.1<;>rfl
  have i9: ∀c':tClient,iTakeUpdate_D9 (c,(u,(zClient,(c',()))))=some ((mv3 c.1.1 u (mv2 (imax u.2.2.2.1.1 c.1.1/8) u c'),(0,())),()):=fun c'=>by
   rw[iTakeUpdate_q9,iPer_l _ hm.1 hm.2,bnd_s,iPer_l _ u0 u1,bnd_s,iCopyCommittee_l _ hcm,bnd_s,i13,i13]
   unfold mv2
   simp only[]
   cases bnot c'.2.2.2.1<;>cases ieq (u.1.1/8) (imax u.2.2.2.1.1 c.1.1/8)<;>rfl
  have s10: ∀c':tClient,c'.1=c.1→sL22Take_D10 (c',(u,()))=some ((),((mv3 c.1.1 u c'),())):=fun c' hc'=>by
   rw[sL22Take_q10,hc'];unfold mv3;cases igt u.2.2.2.1.1 c.1.1<;>rfl
  have s7: ∀ (P:Int) (c':tClient),c'.1=c.1→sL22Take_D7 (P,(c',(u,())))=some ((),((mv3 c.1.1 u (mv2 P u c')),())):=fun P c' hc'=>by
   have hx:(c'.1,(c'.2.1,(u.2.1,(true,c'.2.2.2.2)))).1=c.1:=hc'
   rw[sL22Take_q7,sPer_l _ u0 u1,bnd_s,sCommittee_l _ hcm,bnd_s,s10 _ hx,s10 _ hc']
   unfold mv2
   simp only[]
   cases bnot c'.2.2.2.1<;>cases ieq (u.1.1/8) P<;>rfl
  refine ⟨mv3 c.1.1 u (mv2 (imax u.2.2.2.1.1 c.1.1/8) u (mv1 c u)),0,mv_fine hc hu h2,?_,?_⟩
  ·rw[hk,show ine 0 0=false from rfl,cnd_f,iPer_l _ f0 f1,bnd_s,iPer_l _ c0 c1,bnd_s,i9,i9]
   simp only[]
   rw[iadd_64 (by omega) (by omega)]
   unfold mv1
   cases ieq (u.2.2.2.1.1/8) (c.1.1/8+1)<;>rfl
  ·have t1:sL22Take_d (c,(u,()))=some ((),((mv3 c.1.1 u (mv2 (imax u.2.2.2.1.1 c.1.1/8) u (mv1 c u))),())):=by
    rw[sL22Take_b,sPer_l _ c0 c1,bnd_s,sPer_l _ f0 f1,bnd_s,sCommittee_l _ hc.2.2.1,bnd_s]
    simp only[]
    rw[iadd_64 (by omega) (by omega),s7 (c.1.1/8+1) (c.1,(c.2.2.1,(zCommittee,(false,c.2.2.2.2)))) rfl,s7 (c.1.1/8) c rfl,hP]
    unfold mv1
    rw[ieq_d]
    by_cases hx:u.2.2.2.1.1/8=c.1.1/8+1
    ·rw[if_pos hx,decide_eq_true hx];rfl
    ·rw[if_neg hx,decide_eq_false hx];rfl
   rw[hk,show ieq 0 0=true from rfl,cnd_t,t1,bnd_s]
 ·refine ⟨c,k,hc,?_,?_⟩
  ·rw[ine_d,decide_eq_false hk];rfl
  ·rw[ieq_d,decide_eq_false hk];rfl
end Go.Proofs.YtkfifjaomgjnnaaGreatDoor
