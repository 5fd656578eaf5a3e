/- A bridge looked at; a bridge that broke down. Of no condition. -/
import Derived.Test.YtonggnnjobapcaaGreatDoorUE
set_option linter.unusedVariables false
set_option linter.unusedSimpArgs false
set_option maxRecDepth 100000
namespace Go.Proofs.YtonggnnjobapcaaGreatDoor
open Go.TV
theorem iCut_l (s:ByteArray) (n:Int) (hs:s.size≤1099511627776):iCutJournal_d (s,(n,()))=some ((ssub s 0 (imax 0 (imin n (ssz s))),()),()):=by
 have h:0≤imax 0 (imin n (ssz s))∧imax 0 (imin n (ssz s))≤ssz s:=by rw[ssz_d];unfold imax imin;omega
 rw[iCutJournal_b,inb2_t (by omega) h.1 h.2,cnd_t]
theorem sCut_l (s:ByteArray) (n:Int) (hs:s.size≤1099511627776):sCutJournal_d (s,(n,()))=some ((ssub s 0 (imax 0 (imin n (ssz s))),()),()):=by
 rw[sCutJournal_b]
 by_cases h0:n<0
 ·rw[ilt_t h0,cnd_t,show imax 0 (imin n (ssz s))=((0:Nat):Int) by rw[ssz_d];unfold imax imin;omega]
  exact congrArg (fun x=>some ((x,()),())) (ssub_nil (p:=0) (q:=0) (Nat.le_refl _)).symm
 ·rw[ilt_f (by omega),cnd_f]
  by_cases h1:ssz s<n
  ·rw[igt_t h1,cnd_t,show imax 0 (imin n (ssz s))=ssz s by rw[ssz_d] at*;unfold imax imin;omega,ssub_all]
  ·rw[igt_f (by omega),cnd_f,inb2_t (by omega) (by omega) (by omega),cnd_t,show imax 0 (imin n (ssz s))=n by rw[ssz_d] at*;unfold imax imin;omega]
theorem cut_size (s:ByteArray) (n:Int):(ssub s 0 (imax 0 (imin n (ssz s)))).size≤s.size:=by
 obtain ⟨k,hk⟩: ∃k:Nat,imax 0 (imin n (ssz s))=(k:Int)∧k≤s.size:=⟨(imax 0 (imin n (ssz s))).toNat,by rw[ssz_d];unfold imax imin;omega,by rw[ssz_d];unfold imax imin;omega⟩
 rw[hk.1]
 have:=ssub_size s 0 k (Nat.zero_le _) hk.2
 exact Nat.le_trans (Nat.le_of_eq this) (by omega)
theorem journal_end (s:ByteArray):(journal s).2≤s.size:=(recsF_len s (s.size+1) [] 0 (Nat.zero_le _)).2 (Nat.zero_le _)
theorem crash_5 (n:Int) (b x:tBridge) (z:tBridge) (k:Nat) (hb:Fine TBridge b) (hx:Fine TBridge x) (hj:b.2.2.1.size≤1048576) (hk:k≤b.2.2.1.size): ∃r:tBridge,(Fine TBridge r∧r.2.2.1.size≤1048576)∧iCrash_D5 (n,((k:Int),(b,(z,(x,())))))=some ((r,()),())∧sCrash_D5 (n,((k:Int),(b,(z,(x,())))))=some ((r,()),()):=by
 have h1:=ssub_size b.2.2.1 0 k (Nat.zero_le _) hk
 have h2:=ssub_size b.2.2.1 k b.2.2.1.size hk (Nat.le_refl _)
 have h3:=cut_size (ssub b.2.2.1 (k:Int) (b.2.2.1.size:Int)) n
 have h1':(ssub b.2.2.1 0 (k:Int)).size=k:=by simpa using h1
 rw[iCrash_q5,sCrash_q5,ssz_d,inb2_t (by omega) (by omega) (by omega),cnd_t,cnd_t,inb2_t (by omega) (by omega) (by omega),cnd_t,cnd_t,iCut_l _ _ (by omega),sCut_l _ _ (by omega),bnd_s,bnd_s]
 simp only[]
 generalize hc:ssub (ssub b.2.2.1 (k:Int) (b.2.2.1.size:Int)) 0 (imax 0 (imin n (ssz (ssub b.2.2.1 (k:Int) (b.2.2.1.size:Int)))))=c at*
 rw[cat_fits (by omega),cnd_t,cnd_t]
 have hz:(scat (ssub b.2.2.1 0 (k:Int)) c).size≤1048576:=by rw[size_scat];omega
 generalize scat (ssub b.2.2.1 0 (k:Int)) c=t at*
 have he:=journal_end t
 rw[iReadJournal_l t (by omega),sReadJournal_l t (by omega),bnd_s,bnd_s]
 simp only[]
 rw[ssz_d,inb2_t (by omega) (by omega) (by omega),cnd_t,cnd_t]
 have h4:=ssub_size t 0 (journal t).2 (Nat.zero_le _) he
 have h4':(ssub t 0 ((journal t).2:Int)).size≤1048576:=Nat.le_trans (Nat.le_of_eq (by simpa using h4)) (by omega)
 obtain ⟨r,hr,e1,e2⟩:=replay_both b.1 (ssub t 0 ((journal t).2:Int)) hb.1 (by omega)
 simp only[e1,e2,bnd_s]
 refine ⟨(x.1,(r,(ssub t 0 ((journal t).2:Int),(((journal t).2:Int),(([]:List ByteArray),x.2.2.2.2.2))))),?_,rfl,rfl⟩
 exact ⟨⟨hx.1,hr,Nat.le_trans h4' (by decide),trivial,⟨Nat.zero_le _,fun x h=>by cases h⟩,hx.2.2.2.2.2⟩,h4'⟩
theorem crash_both (b:tBridge) (n:Int) (hb:Fine TBridge b) (hj:b.2.2.1.size≤1048576): ∃r:tBridge,(Fine TBridge r∧r.2.2.1.size≤1048576)∧iCrash_d (b,(n,()))=some ((r,()),())∧sCrash_d (b,(n,()))=some ((r,()),()):=by
 rw[iCrash_b,sCrash_b,iCopyBridge_l b hb,sCopyBridge_l b hb,bnd_s,bnd_s,sIn_l,bnd_s]
 simp only[]
 by_cases h0:b.2.2.2.1<0
 ·rw[ilt_t h0,cnd_t,decide_eq_false (by omega)]
  exact crash_5 n b b zBridge 0 hb hb hj (Nat.zero_le _)
 ·rw[ilt_f (by omega),cnd_f]
  by_cases h1:ssz b.2.2.1<b.2.2.2.1
  ·rw[igt_t h1,cnd_t,decide_eq_false (by omega)]
   exact crash_5 n b b zBridge 0 hb hb hj (Nat.zero_le _)
  ·rw[igt_f (by omega),cnd_f,decide_eq_true (by omega)]
   obtain ⟨k,hk⟩:=Int.eq_ofNat_of_zero_le (show 0≤b.2.2.2.1 by omega)
   rw[hk]
   rw[ssz_d] at h1
   exact crash_5 n b b zBridge k hb hb hj (by omega)
theorem crash_same (b:tBridge) (n:Int) (h:Small TBridge b): ∃r,sCrash_d (b,(n,()))=some ((r,()),())∧iCrash_d (b,(n,()))=some ((r,()),())∧Fine TBridge r:=by
 obtain ⟨r,h1,h2,h3⟩:=crash_both b n (Bnd.le (by decide) h) h.2.2.1
 exact ⟨r,h3,h2,h1.1⟩
theorem samePoint (a b:tPoint):both (ieq a.1 b.1) (both (ieq a.2.1 b.2.1) (both (beqB a.2.2.1 b.2.2.1) true))=decide (a=b):=by
 obtain ⟨a1,a2,a3,⟨⟩⟩:=a
 obtain ⟨b1,b2,b3,⟨⟩⟩:=b
 simp only[both_d,ieq_d,beqB_d,Bool.and_true]
 by_cases h1:a1=b1<;>by_cases h2:a2=b2<;>by_cases h3:a3=b3<;>simp [h1,h2,h3]
def keysSame (a b:tKeys):Bool:=decide (a.1=b.1)&&(decide (a.2.1=b.2.1)&&(decide (a.2.2.1=b.2.2.1)&&(decide (a.2.2.2.1=b.2.2.2.1)&&decide (a.2.2.2.2.1=b.2.2.2.2.1))))
theorem drop_eq {α:Type} [DecidableEq α] {xs ys:List α} {i:Nat} (hx:i<xs.length) (hy:i<ys.length):decide (xs.drop i=ys.drop i)=(decide (xs[i]=ys[i])&&decide (xs.drop (i+1)=ys.drop (i+1))):=by
 rw[List.drop_eq_getElem_cons hx,List.drop_eq_getElem_cons hy]
 simp only[List.cons.injEq]
 exact Bool.decide_and _ _
theorem iEqual_loop (xs ys:List tPoint) (hl:xs.length≤16777216) (he:xs.length=ys.length): ∀ (k i:Nat),i+k=xs.length→g_slices_Equal_impl_Point_impl_Point_D4 (xs,(ys,(len xs,((i:Int),()))))=some ((decide (xs.drop i=ys.drop i),()),()):=by
 intro k
 induction k with
 |zero=>intro i hi;rw[g_slices_Equal_impl_Point_impl_Point_q4,show (i:Int)=(xs.length:Int) by omega,ilt_end,cnd_f,List.drop_eq_nil_of_le (by omega),List.drop_eq_nil_of_le (by omega),decide_eq_true rfl]
 |succ k ih=>
  intro i hi
  have h:i<xs.length:=by omega
  have h':i<ys.length:=by omega
  rw[g_slices_Equal_impl_Point_impl_Point_q4,ilt_at h,cnd_t,inb_at h,cnd_t,inb_at h',cnd_t,rd_at h,rd_at h',samePoint,next_at (by omega),ih (i+1) (by omega),drop_eq h h']
  cases decide (xs[i]=ys[i])<;>rfl
theorem sKeys_loop (a b:tKeys) (hl:a.2.2.2.2.1.length≤16777216) (he:a.2.2.2.2.1.length=b.2.2.2.2.1.length): ∀ (k i:Nat),i+k=a.2.2.2.2.1.length→sL24Keys_D4 ((i:Int),(a,(b,())))=some ((decide (a.2.2.2.2.1.drop i=b.2.2.2.2.1.drop i),()),()):=by
 intro k
 induction k with
 |zero=>intro i hi;rw[sL24Keys_q4,show (i:Int)=(a.2.2.2.2.1.length:Int) by omega,ilt_end,cnd_f,List.drop_eq_nil_of_le (by omega),List.drop_eq_nil_of_le (by omega),decide_eq_true rfl]
 |succ k ih=>
  intro i hi
  have h:i<a.2.2.2.2.1.length:=by omega
  have h':i<b.2.2.2.2.1.length:=by omega
  rw[sL24Keys_q4,ilt_at h,cnd_t,inb_at h,cnd_t,inb_at h',cnd_t,rd_at h,rd_at h',samePoint,next_at (by omega),ih (i+1) (by omega),drop_eq h h']
  cases decide (a.2.2.2.2.1[i]=b.2.2.2.2.1[i])<;>rfl
theorem keys_len (a b:tKeys) (h:a.2.2.2.2.1.length≠b.2.2.2.2.1.length):decide (a.2.2.2.2.1=b.2.2.2.2.1)=false:=decide_eq_false fun e=>h (by rw[e])
theorem iSameKeys_l (a b:tKeys) (hl:a.2.2.2.2.1.length≤16777216):iSameKeys_d (a,(b,()))=some ((keysSame a b,()),()):=by
 rw[iSameKeys_b,samePoint,samePoint,samePoint,samePoint]
 have e:g_slices_Equal_impl_Point_impl_Point_d (a.2.2.2.2.1,(b.2.2.2.2.1,()))=some ((decide (a.2.2.2.2.1=b.2.2.2.2.1),()),()):=by
  rw[g_slices_Equal_impl_Point_impl_Point_b,ine_d,len_d,len_d]
  by_cases h:a.2.2.2.2.1.length=b.2.2.2.2.1.length
  ·rw[decide_eq_true (show (a.2.2.2.2.1.length:Int)=(b.2.2.2.2.1.length:Int) by omega),←len_d]
   have:=iEqual_loop a.2.2.2.2.1 b.2.2.2.2.1 hl h _ 0 (Nat.zero_add _)
   rw[List.drop_zero,List.drop_zero] at this
   exact this
  ·rw[decide_eq_false (show¬(a.2.2.2.2.1.length:Int)=(b.2.2.2.2.1.length:Int) by omega),keys_len a b h];rfl
 rw[e,bnd_s]
 unfold keysSame
 cases decide (a.1=b.1)<;>cases decide (a.2.1=b.2.1)<;>cases decide (a.2.2.1=b.2.2.1)<;>cases decide (a.2.2.2.1=b.2.2.2.1)<;>rfl
theorem sKeys_l (a b:tKeys) (hl:a.2.2.2.2.1.length≤16777216):sL24Keys_d (a,(b,()))=some ((keysSame a b,()),()):=by
 rw[sL24Keys_b,samePoint,samePoint,samePoint,samePoint,ine_d,len_d,len_d]
 unfold keysSame
 by_cases h:a.2.2.2.2.1.length=b.2.2.2.2.1.length
 ·rw[decide_eq_true (show (a.2.2.2.2.1.length:Int)=(b.2.2.2.2.1.length:Int) by omega)]
  have:=sKeys_loop a b hl h _ 0 (Nat.zero_add _)
  rw[List.drop_zero,List.drop_zero] at this
  have this:sL24Keys_D4 (0,(a,(b,())))=_:=this
  rw[this]
  cases decide (a.1=b.1)<;>cases decide (a.2.1=b.2.1)<;>cases decide (a.2.2.1=b.2.2.1)<;>cases decide (a.2.2.2.1=b.2.2.2.1)<;>rfl
 ·rw[decide_eq_false (show¬(a.2.2.2.2.1.length:Int)=(b.2.2.2.2.1.length:Int) by omega),keys_len a b h]
  cases decide (a.1=b.1)<;>cases decide (a.2.1=b.2.1)<;>cases decide (a.2.2.1=b.2.2.1)<;>cases decide (a.2.2.2.1=b.2.2.2.1)<;>rfl
def headSame (a b:tHead):Bool:=both (ieq a.1 b.1) (both (seq a.2.1 b.2.1) (both (seq a.2.2.1 b.2.2.1) (both (seq a.2.2.2.1 b.2.2.2.1) true)))
noncomputable def clientSame (a b:tClient):Bool:=headSame a.1 b.1&&(beqB a.2.2.2.1 b.2.2.2.1&&(seq (comRoot a.2.1) (comRoot b.2.1)&&seq (comRoot a.2.2.1) (comRoot b.2.2.1)))
theorem iSame_l (a b:tClient) (ha:Fine TClient a) (hb:Fine TClient b):iSameClient_d (a,(b,()))=some ((clientSame a b,()),()):=by
 rw[iSameClient_b,iCommitteeRoot_l _ ha.2.1,bnd_s,iCommitteeRoot_l _ hb.2.1,bnd_s,iCommitteeRoot_l _ ha.2.2.1,bnd_s,iCommitteeRoot_l _ hb.2.2.1,bnd_s]
 unfold clientSame headSame
 rw[bneB_d,beqB_d]
 cases both (ieq a.1.1 b.1.1) (both (seq a.1.2.1 b.1.2.1) (both (seq a.1.2.2.1 b.1.2.2.1) (both (seq a.1.2.2.2.1 b.1.2.2.2.1) true)))<;>cases (a.2.2.2.1==b.2.2.2.1)<;>cases seq (comRoot a.2.1) (comRoot b.2.1)<;>rfl
theorem sSame_l (a b:tClient) (ha:Fine TClient a) (hb:Fine TClient b):sSameClient_d (a,(b,()))=some ((clientSame a b,()),()):=by
 rw[sSameClient_b,sCommitteeRoot_l _ ha.2.1,bnd_s,sCommitteeRoot_l _ hb.2.1,bnd_s,sCommitteeRoot_l _ ha.2.2.1,bnd_s,sCommitteeRoot_l _ hb.2.2.1,bnd_s]
 unfold clientSame headSame
 cases both (ieq a.1.1 b.1.1) (both (seq a.1.2.1 b.1.2.1) (both (seq a.1.2.2.1 b.1.2.2.1) (both (seq a.1.2.2.2.1 b.1.2.2.2.1) true)))<;>cases beqB a.2.2.2.1 b.2.2.2.1<;>cases seq (comRoot a.2.1) (comRoot b.2.1)<;>rfl
noncomputable def queueAt (q:List ByteArray) (i:Nat):Bool:=decide (ssz (rd (bs []) q (i:Int))≤600)&&!decide (rd (bs []) q (i:Int)∈q.take i)
noncomputable def queueF (q:List ByteArray):Nat→Nat→Bool
 |0,_=>true
 |k+1,i=>queueAt q i&&queueF q k (i+1)
theorem sub_take (q:List ByteArray) (i:Nat):sub q 0 (i:Int)=q.take i:=by
 unfold sub;simp
theorem iQueue_loop (q:List ByteArray) (hl:q.length≤3): ∀ (k i:Nat),i+k=q.length→iQueueOk_D4 (q,(q,(len q,((i:Int),()))))=some ((queueF q k i,()),()):=by
 intro k
 induction k with
 |zero=>intro i hi;rw[iQueueOk_q4,show (i:Int)=(q.length:Int) by omega,ilt_end,cnd_f];rfl
 |succ k ih=>
  intro i hi
  have h:i<q.length:=by omega
  rw[iQueueOk_q4,ilt_at h,cnd_t,inb_at h,cnd_t,igt_d,inb2_t (by omega) (by omega) (by rw[len_d];omega),cnd_t,sub_take,contains_l _ _ (by simp;omega),bnd_s,next_at (by omega),ih (i+1) (by omega),show queueF q (k+1) i=(queueAt q i&&queueF q k (i+1)) from rfl]
  unfold queueAt
  by_cases h1:(600:Int)<ssz (rd (bs []) q (i:Int))
  ·rw[decide_eq_true h1,decide_eq_false (show¬ssz (rd (bs []) q (i:Int))≤600 by omega)];rfl
  ·rw[decide_eq_false h1,decide_eq_true (show ssz (rd (bs []) q (i:Int))≤600 by omega)]
   cases decide (rd (bs []) q (i:Int)∈q.take i)<;>rfl
theorem iQueue_l (q:List ByteArray) (hl:q.length≤16777216):iQueueOk_d (q,())=some ((decide (q.length≤3)&&queueF q q.length 0,()),()):=by
 rw[iQueueOk_b,igt_d,len_d]
 by_cases h:q.length≤3
 ·rw[decide_eq_false (show¬(3:Int)<(q.length:Int) by omega),decide_eq_true h,←len_d]
  exact iQueue_loop q h q.length 0 (Nat.zero_add _)
 ·rw[decide_eq_true (show (3:Int)<(q.length:Int) by omega),decide_eq_false h];rfl
noncomputable def updF (xs:List ByteArray):Nat→Nat→Bool
 |0,_=>true
 |k+1,i=>(readUpdate (rd (bs []) xs (i:Int))).2&&updF xs k (i+1)
theorem iJournal_at (xs:List ByteArray) (hx: ∀y∈xs,y.size≤700) (hl:xs.length≤16777216): ∀ (k i:Nat),i+k=xs.length→iJournalOk_D5 (xs,(len xs,((i:Int),())))=some ((updF xs k i,()),()):=by
 intro k
 induction k with
 |zero=>intro i hi;rw[iJournalOk_q5,show (i:Int)=(xs.length:Int) by omega,ilt_end,cnd_f];rfl
 |succ k ih=>
  intro i hi
  have h:i<xs.length:=by omega
  have hz:=hx xs[i] (List.getElem_mem h)
  unfold updF
  rw[iJournalOk_q5,ilt_at h,cnd_t,inb_at h,cnd_t,rd_at h,iReadUpdate_l _ (by omega),bnd_s,next_at (by omega),ih (i+1) (by omega)]
  cases (readUpdate xs[i]).2<;>rfl
theorem sJournal_at (b:tBridge) (F:Bool) (hF:Go.TV.bnd (sReplay_d (b.1,(b.2.2.1,()))) (fun r3=>Go.TV.bnd (sSameClient_d (r3.1.1,(b.2.1,()))) (fun r4=>some ((r4.1.1,()),())))=some ((F,()),())) (xs:List ByteArray) (hx: ∀y∈xs,y.size≤700) (hl:xs.length≤16777216): ∀ (k i:Nat),i+k=xs.length→sBridgeOk_D17 (xs,((i:Int),(b,())))=some ((updF xs k i&&F,()),()):=by
 intro k
 induction k with
 |zero=>intro i hi;rw[sBridgeOk_q17,show (i:Int)=(xs.length:Int) by omega,ilt_end,cnd_f,hF];rfl
 |succ k ih=>
  intro i hi
  have h:i<xs.length:=by omega
  have hz:=hx xs[i] (List.getElem_mem h)
  unfold updF
  rw[sBridgeOk_q17,ilt_at h,cnd_t,inb_at h,cnd_t,rd_at h,sReadUpdate_l _ (by omega),bnd_s,next_at (by omega),ih (i+1) (by omega)]
  cases (readUpdate xs[i]).2<;>rfl
open Classical in
theorem sQueue_7 (b:tBridge) (hl:b.2.2.2.2.1.length≤3) (i:Nat) (h:i<b.2.2.2.2.1.length): ∀ (k j:Nat),j+k=i→sBridgeOk_D7 ((i:Int),((j:Int),(b,())))=if (∃m,j≤m∧m<i∧rd (bs []) b.2.2.2.2.1 (m:Int)=rd (bs []) b.2.2.2.2.1 (i:Int))∨600<ssz (rd (bs []) b.2.2.2.2.1 (i:Int)) then some ((false,()),()) else sBridgeOk_D4 (((i+1:Nat):Int),(b,())):=by
 intro k
 induction k with
 |zero=>
  intro j hj
  rw[sBridgeOk_q7,ilt_f (by omega),cnd_f,inb_at h,cnd_t,next_at (by omega)]
  have hno: ¬ ∃m,j≤m∧m<i∧rd (bs []) b.2.2.2.2.1 (m:Int)=rd (bs []) b.2.2.2.2.1 (i:Int):=fun ⟨m,h1,h2,_⟩=>by omega
  by_cases h1:(600:Int)<ssz (rd (bs []) b.2.2.2.2.1 (i:Int))
  ·rw[igt_t h1,cnd_t,if_pos (.inr h1)]
  ·rw[igt_f (by omega),cnd_f,if_neg fun h=>h.elim hno h1]
 |succ k ih=>
  intro j hj
  have hj':j<b.2.2.2.2.1.length:=by omega
  rw[sBridgeOk_q7,ilt_t (by omega),cnd_t,inb_at hj',cnd_t,inb_at h,cnd_t,seq_d,next_at (by omega)]
  by_cases h1:rd (bs []) b.2.2.2.2.1 (j:Int)=rd (bs []) b.2.2.2.2.1 (i:Int)
  ·rw[decide_eq_true h1,cnd_t,if_pos (.inl ⟨j,Nat.le_refl _,by omega,h1⟩)]
  ·rw[decide_eq_false h1,cnd_f,ih (j+1) (by omega)]
   have e:(∃m,j+1≤m∧m<i∧rd (bs []) b.2.2.2.2.1 (m:Int)=rd (bs []) b.2.2.2.2.1 (i:Int))↔(∃m,j≤m∧m<i∧rd (bs []) b.2.2.2.2.1 (m:Int)=rd (bs []) b.2.2.2.2.1 (i:Int)):=by
    constructor
    ·rintro ⟨m,m1,m2,m3⟩;exact ⟨m,by omega,m2,m3⟩
    ·rintro ⟨m,m1,m2,m3⟩
     rcases Nat.eq_or_lt_of_le m1 with rfl|m1
     ·exact absurd m3 h1
     ·exact ⟨m,m1,m2,m3⟩
   simp only[e]
theorem mem_take_rd (q:List ByteArray) (i:Nat) (h:i<q.length) (y:ByteArray):y∈q.take i↔ ∃m,0≤m∧m<i∧rd (bs []) q (m:Int)=y:=by
 rw[List.mem_take_iff_getElem]
 constructor
 ·rintro ⟨m,h1,h2⟩
  exact ⟨m,Nat.zero_le _,by omega,by rw[rd_at (by omega)];exact h2⟩
 ·rintro ⟨m,_,h1,h2⟩
  refine ⟨m,by omega,?_⟩
  rw[rd_at (by omega)] at h2;exact h2
theorem sQueue_loop (b:tBridge) (hl:b.2.2.2.2.1.length≤3) (F:Bool) (hF:sBridgeOk_D4 ((b.2.2.2.2.1.length:Int),(b,()))=some ((F,()),())): ∀ (k i:Nat),i+k=b.2.2.2.2.1.length→sBridgeOk_D4 ((i:Int),(b,()))=some ((queueF b.2.2.2.2.1 k i&&F,()),()):=by
 intro k
 induction k with
 |zero=>intro i hi;rw[show (i:Int)=(b.2.2.2.2.1.length:Int) by omega,hF];rfl
 |succ k ih=>
  intro i hi
  have h:i<b.2.2.2.2.1.length:=by omega
  have e:sBridgeOk_D7 ((i:Int),(((0:Nat):Int),(b,())))=_:=sQueue_7 b hl i h i 0 (Nat.zero_add _)
  rw[sBridgeOk_q4,ilt_at h,cnd_t,show (0:Int)=((0:Nat):Int) from rfl,e,ih (i+1) (by omega),show queueF b.2.2.2.2.1 (k+1) i=(queueAt b.2.2.2.2.1 i&&queueF b.2.2.2.2.1 k (i+1)) from rfl]
  unfold queueAt
  have hm:=mem_take_rd b.2.2.2.2.1 i h (rd (bs []) b.2.2.2.2.1 (i:Int))
  by_cases h1:(600:Int)<ssz (rd (bs []) b.2.2.2.2.1 (i:Int))
  ·rw[if_pos (.inr h1),decide_eq_false (show¬ssz (rd (bs []) b.2.2.2.2.1 (i:Int))≤600 by omega)];rfl
  ·rw[decide_eq_true (show ssz (rd (bs []) b.2.2.2.2.1 (i:Int))≤600 by omega)]
   by_cases h2:rd (bs []) b.2.2.2.2.1 (i:Int)∈b.2.2.2.2.1.take i
   ·rw[if_pos (.inl (hm.1 h2)),decide_eq_true h2];rfl
   ·rw[if_neg fun k=>k.elim (fun k=>h2 (hm.2 k)) h1,decide_eq_false h2];rfl
theorem bridgeOk_both (b:tBridge) (hb:Fine TBridge b) (hj:b.2.2.1.size≤1048576): ∃r:Bool,iBridgeOk_d (b,())=some ((r,()),())∧sBridgeOk_d (b,())=some ((r,()),()):=by
 obtain ⟨c,hc,e1,e2⟩:=replay_both b.1 b.2.2.1 hb.1 (by omega)
 have hl:b.2.2.2.2.1.length≤16777216:=hb.2.2.2.2.1.1
 have hjl:=journal_len b.2.2.1
 have hF:Go.TV.bnd (sReplay_d (b.1,(b.2.2.1,()))) (fun r3=>Go.TV.bnd (sSameClient_d (r3.1.1,(b.2.1,()))) (fun r4=>some ((r4.1.1,()),())))=some ((clientSame c b.2.1,()),()):=by
  rw[e2,bnd_s,sSame_l c b.2.1 hc hb.2.1,bnd_s]
 have hd:decide (((journal b.2.2.1).2:Int)=(b.2.2.1.size:Int))=decide ((journal b.2.2.1).2=b.2.2.1.size):=by
  have:(((journal b.2.2.1).2:Int)=(b.2.2.1.size:Int))↔(journal b.2.2.1).2=b.2.2.1.size:=by omega
  simp only[this]
 have hJ:iJournalOk_d (b.2.2.1,())=some ((decide ((journal b.2.2.1).2=b.2.2.1.size)&&updF (journal b.2.2.1).1 (journal b.2.2.1).1.length 0,()),()):=by
  rw[iJournalOk_b,iReadJournal_l _ (by omega),bnd_s]
  simp only[]
  have k0:iJournalOk_D5 ((journal b.2.2.1).1,(len (journal b.2.2.1).1,(0,())))=_:=iJournal_at (journal b.2.2.1).1 (journal_size _) (by omega) _ 0 (Nat.zero_add _)
  rw[ine_d,ssz_d,hd,k0]
  cases decide ((journal b.2.2.1).2=b.2.2.1.size)<;>rfl
 have hE:sBridgeOk_D4 ((b.2.2.2.2.1.length:Int),(b,()))=some ((decide ((journal b.2.2.1).2=b.2.2.1.size)&&(updF (journal b.2.2.1).1 (journal b.2.2.1).1.length 0&&clientSame c b.2.1),()),()):=by
  rw[sBridgeOk_q4,ilt_end,cnd_f,sReadJournal_l _ (by omega),bnd_s]
  simp only[]
  have k0:sBridgeOk_D17 ((journal b.2.2.1).1,(0,(b,())))=_:=sJournal_at b _ hF (journal b.2.2.1).1 (journal_size _) (by omega) _ 0 (Nat.zero_add _)
  rw[ine_d,ssz_d,hd,k0]
  cases decide ((journal b.2.2.1).2=b.2.2.1.size)<;>rfl
 have hk:b.1.2.2.2.2.1.2.2.2.2.1.length≤16777216:=hb.1.2.2.2.2.1.2.2.2.2.1.1
 rw[iBridgeOk_b,sBridgeOk_b,iClientOk_l _ hb.1,sClientOk_l _ hb.1,iClientOk_l _ hb.2.1,sClientOk_l _ hb.2.1,iSameKeys_l _ _ hk,sKeys_l _ _ hk,iIsSlot_l,sIn_l,iQueue_l _ hl,sIn_l,hJ,e1]
 simp only[bnd_s]
 rw[iSame_l c b.2.1 hc hb.2.1]
 simp only[bnd_s]
 have hQ: ∀h3:b.2.2.2.2.1.length≤3,sBridgeOk_D4 ((0:Int),(b,()))=_:=fun h3=>sQueue_loop b h3 _ hE b.2.2.2.2.1.length 0 (Nat.zero_add _)
 cases clientOk b.1
 ·exact ⟨_,rfl,rfl⟩
 ·cases clientOk b.2.1
  ·exact ⟨_,rfl,rfl⟩
  ·cases keysSame b.1.2.2.2.2.1 b.2.1.2.2.2.2.1
   ·exact ⟨_,rfl,rfl⟩
   ·cases decide (0≤b.2.2.2.2.2.1∧b.2.2.2.2.2.1≤10000)
    ·exact ⟨_,rfl,rfl⟩
    ·refine ⟨(decide (b.2.2.2.2.1.length≤3)&&queueF b.2.2.2.2.1 b.2.2.2.2.1.length 0)&&(decide (0≤b.2.2.2.1∧b.2.2.2.1≤ssz b.2.2.1)&&(decide ((journal b.2.2.1).2=b.2.2.1.size)&&(updF (journal b.2.2.1).1 (journal b.2.2.1).1.length 0&&clientSame c b.2.1))),?_,?_⟩
     ·simp only[show bnot true=false from rfl,cnd_f]
      cases decide (b.2.2.2.2.1.length≤3)&&queueF b.2.2.2.2.1 b.2.2.2.2.1.length 0
      ·rfl
      ·simp only[show bnot true=false from rfl,cnd_f,Bool.true_and]
       by_cases h0:b.2.2.2.1<0
       ·rw[ilt_t h0,cnd_t,decide_eq_false (show¬(0≤b.2.2.2.1∧b.2.2.2.1≤ssz b.2.2.1) by omega)];rfl
       ·rw[ilt_f (by omega),cnd_f]
        by_cases h1:ssz b.2.2.1<b.2.2.2.1
        ·rw[igt_t h1,cnd_t,decide_eq_false (show¬(0≤b.2.2.2.1∧b.2.2.2.1≤ssz b.2.2.1) by omega)];rfl
        ·rw[igt_f (by omega),cnd_f,decide_eq_true (show 0≤b.2.2.2.1∧b.2.2.2.1≤ssz b.2.2.1 by omega)]
         cases decide ((journal b.2.2.1).2=b.2.2.1.size)<;>cases updF (journal b.2.2.1).1 (journal b.2.2.1).1.length 0<;>rfl
     ·simp only[show bnot true=false from rfl,cnd_f]
      by_cases h3:b.2.2.2.2.1.length≤3
      ·rw[igt_f (by rw[len_d];omega),cnd_f,hQ h3,decide_eq_true h3,Bool.true_and]
       cases decide (0≤b.2.2.2.1∧b.2.2.2.1≤ssz b.2.2.1)
       ·simp [bnot,cnd]
       ·simp [bnot,cnd]
      ·rw[igt_t (by rw[len_d];omega),cnd_t,decide_eq_false h3];rfl
theorem bridgeok_same (b:tBridge) (h:Small TBridge b): ∃r,sBridgeOk_d (b,())=some ((r,()),())∧iBridgeOk_d (b,())=some ((r,()),()):=by
 obtain ⟨r,h1,h2⟩:=bridgeOk_both b (Bnd.le (by decide) h) h.2.2.1
 exact ⟨r,h2,h1⟩
theorem kept_same (w:tWorld) (h:Small TWorld w): ∃r,sKept_d (w,())=some ((r,()),())∧iKept_d (w,())=some ((r,()),()):=by
 have hb:Fine TBridge w.2.2.1:=Bnd.le (by decide) h.2.2.1
 have hj:w.2.2.1.2.2.1.size≤1048576:=h.2.2.1.2.2.1
 obtain ⟨c,⟨c1,c2⟩,e1,e2⟩:=crash_both w.2.2.1 0 hb hj
 obtain ⟨k1,i1,s1⟩:=bridgeOk_both w.2.2.1 hb hj
 obtain ⟨k2,i2,s2⟩:=bridgeOk_both c c1 c2
 rw[iKept_b,sKept_b,e1,e2,i1,s1]
 simp only[bnd_s]
 rw[i2,s2]
 simp only[bnd_s]
 cases k1<;>cases k2<;>exact ⟨_,rfl,rfl⟩
end Go.Proofs.YtonggnnjobapcaaGreatDoor
