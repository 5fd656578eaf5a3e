/- Texts read, journals; what is shown of a bridge. Of no condition. -/
import Derived.Test.YtonggnnjobapcaaGreatDoorJA
set_option linter.unusedVariables false
set_option linter.unusedSimpArgs false
set_option maxRecDepth 100000
namespace Go.Proofs.YtonggnnjobapcaaGreatDoor
open Go.TV
theorem ssub_size (s:ByteArray) (i j:Nat) (h:i≤j) (hj:j≤s.size):(ssub s (i:Int) (j:Int)).size=j-i:=by
 unfold ssub
 rw[ByteArray.size_extract,Int.toNat_natCast,Int.toNat_natCast];omega
theorem scat_assoc (a b c:ByteArray):scat (scat a b) c=scat a (scat b c):=by
 apply ba_ext
 simp [scat,ByteArray.data_append]
theorem ssub_data (s:ByteArray) (i j:Nat):(ssub s (i:Int) (j:Int)).data.toList=(s.data.toList.drop i).take (j-i):=by
 unfold ssub
 rw[Int.toNat_natCast,Int.toNat_natCast,ByteArray.data_extract,Array.toList_extract]
theorem ssub_split (s:ByteArray) (i j k:Nat) (h1:i≤j) (h2:j≤k):ssub s (i:Int) (k:Int)=scat (ssub s (i:Int) (j:Int)) (ssub s (j:Int) (k:Int)):=by
 apply ba_ext
 have:(scat (ssub s (i:Int) (j:Int)) (ssub s (j:Int) (k:Int))).data.toList=(ssub s (i:Int) (j:Int)).data.toList++(ssub s (j:Int) (k:Int)).data.toList:=by
  simp [scat,ByteArray.data_append]
 rw[this,ssub_data,ssub_data,ssub_data,show k-i=(j-i)+(k-j) by omega,List.take_add,List.drop_drop,show i+(j-i)=j by omega]
theorem ssub_sub (s:ByteArray) (i j k l:Nat) (h1:i+l≤j):ssub (ssub s (i:Int) (j:Int)) (k:Int) (l:Int)=ssub s ((i+k:Nat):Int) ((i+l:Nat):Int):=by
 apply ba_ext
 rw[ssub_data,ssub_data,ssub_data,List.drop_take,List.drop_drop,List.take_take]
 congr 1
 omega
theorem scat_cancel {a x y:ByteArray} (h:scat a x=scat a y):x=y:=by
 apply ba_ext
 have:=congrArg (fun s=>s.data.toList) h
 simpa [scat,ByteArray.data_append] using this
def readShort (s:ByteArray) (p:Int):Option (ByteArray×Nat):=match readVar s p with
 |some r=>if 20000<r.1∨(s.size:Int)- (r.2:Int)<r.1 then none else some (ssub s (r.2:Int) ((r.2+r.1.toNat:Nat):Int),r.2+r.1.toNat)
 |none=>none
def rsT (o:Option (ByteArray×Nat)):tScanner:=match o with
 |some r=>(r.1,((r.2:Int),(true,())))
 |none=>(bs [],(0,(false,())))
theorem iReadShort_l (s:ByteArray) (p:Int) (hs:s.size≤1099511627776):iReadShort_d (s,(p,()))=some (rsT (readShort s p),()):=by
 unfold readShort
 rw[iReadShort_b,iReadVar_l s p hs,bnd_s]
 cases h:readVar s p with
 |none=>rfl
 |some r=>
  obtain ⟨h0,h1,h2,h3,h4,h5,h6⟩:=readVar_out h
  obtain ⟨n,q⟩:=r
  simp only at h1 h2 h3 h4 h5 h6⊢
  obtain ⟨m,rfl⟩:=Int.eq_ofNat_of_zero_le h1
  show cnd (bnot true) _ (cnd (igt (m:Int) 20000) _ (cnd (igt (m:Int) (isub .i64 (ssz s) (q:Int))) _ (cnd (inb2 (q:Int) (iadd .i64 (q:Int) (m:Int)) (ssz s)) (some ((ssub s (q:Int) (iadd .i64 (q:Int) (m:Int)),(iadd .i64 (q:Int) (m:Int),(true,()))),())) none)))=_
  rw[show bnot true=false from rfl,cnd_f,ssz_d,isub_64 (by omega) (by omega),iadd_64 (by omega) (by omega),Int.toNat_natCast]
  by_cases c1:(20000:Int)<(m:Int)
  ·rw[igt_t c1,cnd_t,if_pos (.inl c1)];rfl
  ·rw[igt_f (by omega),cnd_f]
   by_cases c2:(s.size:Int)- (q:Int)<(m:Int)
   ·rw[igt_t c2,cnd_t,if_pos (.inr c2)];rfl
   ·rw[igt_f (by omega),cnd_f,inb2_t (by omega) (by omega) (by omega),cnd_t,if_neg (by omega)]
    show some ((ssub s (q:Int) ((q:Int)+(m:Int)),((q:Int)+(m:Int),(true,()))),())=some ((ssub s (q:Int) ((q+m:Nat):Int),(((q+m:Nat):Int),(true,()))),())
    rw[show (q:Int)+(m:Int)=((q+m:Nat):Int) by omega]
theorem sReadShort_l (s:ByteArray) (p:Int) (hs:s.size≤1099511627776):sReadShort_d (s,(p,()))=some (rsT (readShort s p),()):=by
 unfold readShort
 rw[sReadShort_b,sReadVar_l s p hs,bnd_s]
 cases h:readVar s p with
 |none=>rfl
 |some r=>
  obtain ⟨h0,h1,h2,h3,h4,h5,h6⟩:=readVar_out h
  obtain ⟨n,q⟩:=r
  simp only at h1 h2 h3 h4 h5 h6⊢
  obtain ⟨m,rfl⟩:=Int.eq_ofNat_of_zero_le h1
  show cnd (bnot true) _ (cnd (igt (m:Int) 20000) _ (cnd (igt (m:Int) (isub .i64 (ssz s) (q:Int))) _ (cnd (inb2 (q:Int) (iadd .i64 (q:Int) (m:Int)) (ssz s)) (some ((ssub s (q:Int) (iadd .i64 (q:Int) (m:Int)),(iadd .i64 (q:Int) (m:Int),(true,()))),())) none)))=_
  rw[show bnot true=false from rfl,cnd_f,ssz_d,isub_64 (by omega) (by omega),iadd_64 (by omega) (by omega),Int.toNat_natCast]
  by_cases c1:(20000:Int)<(m:Int)
  ·rw[igt_t c1,cnd_t,if_pos (.inl c1)];rfl
  ·rw[igt_f (by omega),cnd_f]
   by_cases c2:(s.size:Int)- (q:Int)<(m:Int)
   ·rw[igt_t c2,cnd_t,if_pos (.inr c2)];rfl
   ·rw[igt_f (by omega),cnd_f,inb2_t (by omega) (by omega) (by omega),cnd_t,if_neg (by omega)]
    show some ((ssub s (q:Int) ((q:Int)+(m:Int)),((q:Int)+(m:Int),(true,()))),())=some ((ssub s (q:Int) ((q+m:Nat):Int),(((q+m:Nat):Int),(true,()))),())
    rw[show (q:Int)+(m:Int)=((q+m:Nat):Int) by omega]
theorem readShort_out {s:ByteArray} {p:Int} {r:ByteArray×Nat} (h:readShort s p=some r):0≤p∧p<(r.2:Int)∧r.2≤s.size∧r.1.size≤20000∧(r.2:Int)≤p+5+(r.1.size:Int)∧ssub s p (r.2:Int)=scat (varV (r.1.size:Int)) r.1:=by
 unfold readShort at h
 cases hv:readVar s p with
 |none=>rw[hv] at h;cases h
 |some v=>
  rw[hv] at h
  obtain ⟨h0,h1,h2,h3,h4,h5,h6⟩:=readVar_out hv
  obtain ⟨n,q⟩:=v
  obtain ⟨m,rfl⟩:=Int.eq_ofNat_of_zero_le h1
  obtain ⟨k,rfl⟩:=Int.eq_ofNat_of_zero_le h0
  simp only at h1 h2 h3 h4 h5 h6 h
  split at h
  ·cases h
  ·rename_i hc
   cases h
   simp only[Int.toNat_natCast]
   have hz:(ssub s (q:Int) ((q+m:Nat):Int)).size=m:=by rw[ssub_size s q (q+m) (by omega) (by omega)];omega
   rw[hz]
   refine ⟨h0,by omega,by omega,by omega,by omega,?_⟩
   rw[ssub_split s k q (q+m) (by omega) (by omega),h6]
noncomputable def recAt (s:ByteArray) (p:Int):Option (ByteArray×Nat):=match readShort s p with
 |some r=>if 1≤r.1.size∧r.1.size≤700∧r.2+4≤s.size∧sumV (ssub s p (r.2:Int))=ssub s (r.2:Int) ((r.2+4:Nat):Int) then some (r.1,r.2+4) else none
 |none=>none
theorem iUnsealed_l (t:ByteArray) (ht:t.size≤1099511):iUnsealed_d (t,())=some (if 4≤t.size∧t.size≤20004∧sumV (ssub t 0 ((t.size-4:Nat):Int))=ssub t ((t.size-4:Nat):Int) (t.size:Int) then (ssub t 0 ((t.size-4:Nat):Int),(true,())) else zL21Cur,()):=by
 rw[iUnsealed_b,ssz_d,isub_64 (by omega) (by omega)]
 by_cases h1:4≤t.size
 ·rw[ilt_f (by omega),cnd_f,show (t.size:Int)-4=((t.size-4:Nat):Int) by omega]
  by_cases h2:t.size≤20004
  ·have hz:(ssub t 0 ((t.size-4:Nat):Int)).size=t.size-4:=by
    have:=ssub_size t 0 (t.size-4) (by omega) (by omega);simpa using this
   rw[igt_f (by omega),cnd_f,inb2_t (by omega) (by omega) (by omega),cnd_t,iSumText_l _ (by rw[hz];omega),bnd_s,inb2_t (by omega) (by omega) (by omega),cnd_t,sne_d]
   by_cases h3:sumV (ssub t 0 ((t.size-4:Nat):Int))=ssub t ((t.size-4:Nat):Int) (t.size:Int)
   ·rw[decide_eq_true h3,if_pos ⟨h1,h2,h3⟩];rfl
   ·rw[decide_eq_false h3,if_neg fun h=>h3 h.2.2];rfl
  ·rw[igt_t (by omega),cnd_t,if_neg fun h=>h2 h.2.1]
 ·rw[ilt_t (by omega),cnd_t,if_neg fun h=>h1 h.1]
theorem iRecordAt_l (s:ByteArray) (p:Int) (hs:s.size≤1099511627776):iRecordAt_d (s,(p,()))=some (rsT (recAt s p),()):=by
 unfold recAt
 rw[iRecordAt_b,iReadShort_l s p hs,bnd_s]
 cases h:readShort s p with
 |none=>rfl
 |some r=>
  obtain ⟨h0,h1,h2,h3,h4,h5⟩:=readShort_out h
  obtain ⟨t,q⟩:=r
  obtain ⟨k,rfl⟩:=Int.eq_ofNat_of_zero_le h0
  simp only at h1 h2 h3 h4 h5⊢
  show cnd (bnot true) _ (cnd (seq t (bs [])) _ (cnd (igt (ssz t) 700) _ (cnd (ilt (isub .i64 (ssz s) (q:Int)) 4) _ (cnd (inb2 (k:Int) (iadd .i64 (q:Int) 4) (ssz s)) (bnd (iUnsealed_d (ssub s (k:Int) (iadd .i64 (q:Int) 4),())) _) none))))=_
  rw[show bnot true=false from rfl,cnd_f,seq_d,ssz_d,ssz_d,isub_64 (by omega) (by omega),iadd_64 (by omega) (by omega)]
  by_cases c1:t=bs []
  ·rw[decide_eq_true c1,cnd_t,if_neg fun hc=>by rw[c1] at hc;exact absurd hc.1 (by rw[size_bs];simp)];rfl
  ·have c1':1≤t.size:=by
    rcases Nat.lt_or_ge 0 t.size with hz|hz
    ·exact hz
    ·exact (c1 (ba_ext (by
      have:t.data.toList.length=0:=by rw[Array.length_toList];exact Nat.le_zero.1 hz
      rw[List.length_eq_zero_iff.1 this];rfl))).elim
   rw[decide_eq_false c1,cnd_f]
   by_cases c2:t.size≤700
   ·rw[igt_f (by omega),cnd_f]
    by_cases c3:q+4≤s.size
    ·have hz:(ssub s (k:Int) ((q+4:Nat):Int)).size=q+4-k:=ssub_size s k (q+4) (by omega) c3
     rw[ilt_f (by omega),cnd_f,inb2_t (by omega) (by omega) (by omega),cnd_t,show (q:Int)+4=((q+4:Nat):Int) by omega,iUnsealed_l _ (by rw[hz];omega),bnd_s,hz,show q+4-k-4=q-k by omega]
     have e1:ssub (ssub s (k:Int) ((q+4:Nat):Int)) 0 ((q-k:Nat):Int)=ssub s (k:Int) (q:Int):=by
      have:=ssub_sub s k (q+4) 0 (q-k) (by omega)
      rw[show k+(q-k)=q by omega] at this
      exact this
     have e2:ssub (ssub s (k:Int) ((q+4:Nat):Int)) ((q-k:Nat):Int) ((q+4-k:Nat):Int)=ssub s (q:Int) ((q+4:Nat):Int):=by
      have:=ssub_sub s k (q+4) (q-k) (q+4-k) (by omega)
      rw[show k+(q-k)=q by omega,show k+(q+4-k)=q+4 by omega] at this
      exact this
     rw[e1,e2]
     by_cases c4:sumV (ssub s (k:Int) (q:Int))=ssub s (q:Int) ((q+4:Nat):Int)
     ·rw[if_pos ⟨by omega,by omega,c4⟩,if_pos ⟨c1',c2,c3,c4⟩]
      show some ((t,(iadd .i64 (q:Int) 4,(true,()))),())=some ((t,(((q+4:Nat):Int),(true,()))),())
      rw[iadd_64 (by omega) (by omega),show (q:Int)+4=((q+4:Nat):Int) by omega]
     ·rw[if_neg fun h=>c4 h.2.2,if_neg fun h=>c4 h.2.2.2];rfl
    ·rw[ilt_t (by omega),cnd_t,if_neg fun h=>c3 h.2.2.1];rfl
   ·rw[igt_t (by omega),cnd_t,if_neg fun h=>c2 h.2.1];rfl
theorem sSealed_l (t:ByteArray) (ht:t.size≤20000):sSealed_d (t,())=some ((scat t (sumV t),(true,())),()):=by
 rw[sSealed_b,igt_f (by rw[ssz_d];omega),cnd_f,sSumOf_l t (by omega),bnd_s,sFour_l,bnd_s,cat_fits (by rw[four_size];omega),cnd_t]
 rfl
theorem sRecordText_l (t:ByteArray) (h1:t.size≤1099511627776):sRecordText_d (t,())=some (if 1≤t.size∧t.size≤700 then (scat (scat (varV (t.size:Int)) t) (sumV (scat (varV (t.size:Int)) t)),(true,())) else zL21Cur,()):=by
 rw[sRecordText_b,sIn_l,bnd_s]
 by_cases c:1≤t.size∧t.size≤700
 ·have hv:=varV_size (ssz t)
  have hd:decide ((1:Int)≤ssz t∧ssz t≤700)=true:=by rw[ssz_d];exact decide_eq_true (by omega)
  simp only[hd,bnot,Bool.not_true,cnd_f]
  rw[sVar_l (ssz t) (by rw[ssz_d];omega) (by rw[ssz_d];omega),bnd_s,cat_fits (x:=varV (ssz t)) (y:=t) (by omega),cnd_t,sSealed_l (scat (varV (ssz t)) t) (by rw[size_scat];omega),bnd_s,if_pos c,ssz_d]
 ·have hd:decide ((1:Int)≤ssz t∧ssz t≤700)=false:=by rw[ssz_d];exact decide_eq_false (by omega)
  simp only[hd,bnot,Bool.not_false,cnd_t]
  rw[if_neg c]
theorem sRecord_l (s:ByteArray) (p:Int) (hs:s.size≤1099511627776):sL23Read_d (s,(p,()))=some (rsT (recAt s p),()):=by
 unfold recAt
 rw[sL23Read_b,sReadShort_l s p hs,bnd_s]
 cases h:readShort s p with
 |none=>rfl
 |some r=>
  obtain ⟨h0,h1,h2,h3,h4,h5⟩:=readShort_out h
  obtain ⟨t,q⟩:=r
  obtain ⟨k,rfl⟩:=Int.eq_ofNat_of_zero_le h0
  simp only at h1 h2 h3 h4 h5⊢
  show cnd (bnot true) _ (cnd (igt (q:Int) (isub .i64 (ssz s) 4)) _ (bnd (sRecordText_d (t,())) (fun r3=>cnd (bnot r3.1.2.1) (some (zScanner,())) (cnd (inb2 (k:Int) (iadd .i64 (q:Int) 4) (ssz s)) (cnd (sne r3.1.1 (ssub s (k:Int) (iadd .i64 (q:Int) 4))) (some (zScanner,())) (some ((t,(iadd .i64 (q:Int) 4,(true,()))),()))) none))))=_
  rw[show bnot true=false from rfl,cnd_f,ssz_d,isub_64 (by omega) (by omega)]
  by_cases c3:q+4≤s.size
  ·rw[igt_f (by omega),cnd_f,sRecordText_l t (by omega),bnd_s]
   by_cases c12:1≤t.size∧t.size≤700
   ·rw[if_pos c12,←h5]
    show cnd (inb2 (k:Int) (iadd .i64 (q:Int) 4) (s.size:Int)) (cnd (sne (scat (ssub s (k:Int) (q:Int)) (sumV (ssub s (k:Int) (q:Int)))) (ssub s (k:Int) (iadd .i64 (q:Int) 4))) (some (zScanner,())) (some ((t,(iadd .i64 (q:Int) 4,(true,()))),()))) none=_
    rw[iadd_64 (by omega) (by omega),inb2_t (by omega) (by omega) (by omega),cnd_t,show (q:Int)+4=((q+4:Nat):Int) by omega,ssub_split s k q (q+4) (by omega) (by omega),sne_d]
    by_cases c4:sumV (ssub s (k:Int) (q:Int))=ssub s (q:Int) ((q+4:Nat):Int)
    ·rw[c4,decide_eq_true rfl,if_pos ⟨c12.1,c12.2,c3,rfl⟩];rfl
    ·rw[decide_eq_false fun h=>c4 (scat_cancel h),if_neg fun h=>c4 h.2.2.2];rfl
   ·rw[if_neg c12,if_neg fun h=>c12 ⟨h.1,h.2.1⟩];rfl
  ·rw[igt_t (by omega),cnd_t,if_neg fun h=>c3 h.2.2.1];rfl
theorem recAt_out {s:ByteArray} {p:Int} {r:ByteArray×Nat} (h:recAt s p=some r):0≤p∧p<(r.2:Int)∧r.2≤s.size:=by
 unfold recAt at h
 cases hv:readShort s p with
 |none=>rw[hv] at h;cases h
 |some v=>
  rw[hv] at h
  obtain ⟨h0,h1,h2,_⟩:=readShort_out hv
  simp only at h
  split at h
  ·rename_i hc
   cases h
   exact ⟨h0,by omega,hc.2.2.1⟩
  ·cases h
noncomputable def recsF (s:ByteArray):Nat→List ByteArray→Nat→List ByteArray×Nat
 |0,acc,p=>(acc,p)
 |f+1,acc,p=>match recAt s (p:Int) with
  |some r=>recsF s f (acc++[r.1]) r.2
  |none=>(acc,p)
noncomputable def journal (s:ByteArray):List ByteArray×Nat:=recsF s (s.size+1) [] 0
theorem iJournal_loop (s:ByteArray) (hs:s.size≤1099511): ∀ (f:Nat) (acc:List ByteArray) (p:Nat),s.size<p+f→p≤s.size→acc.length≤p→iReadJournal_D3 (s,(acc,((p:Int),())))=some (((recsF s f acc p).1,(((recsF s f acc p).2:Int),())),())
 |0,acc,p,hf,hp,ha=>by omega
 |f+1,acc,p,hf,hp,ha=>by
  rw[iReadJournal_q3,iRecordAt_l s _ (by omega),bnd_s]
  unfold recsF
  cases h:recAt s (p:Int) with
  |none=>rfl
  |some r=>
   obtain ⟨h0,h1,h2⟩:=recAt_out h
   show cnd (bnot true) _ (cnd (fits (len acc+len (r.1::([]:List ByteArray))) 1) (iReadJournal_D3 (s,(app acc [r.1],((r.2:Int),())))) none)=_
   rw[show bnot true=false from rfl,cnd_f,app_fits (by decide) (by simp;omega),cnd_t]
   exact iJournal_loop s hs f (acc++[r.1]) r.2 (by omega) h2 (by simp;omega)
theorem sJournal_loop (s:ByteArray) (hs:s.size≤1099511): ∀ (f:Nat) (acc:List ByteArray) (p:Nat),s.size<p+f→p≤s.size→acc.length≤p→sReadJournal_D3 (s,(acc,((p:Int),())))=some (((recsF s f acc p).1,(((recsF s f acc p).2:Int),())),())
 |0,acc,p,hf,hp,ha=>by omega
 |f+1,acc,p,hf,hp,ha=>by
  rw[sReadJournal_q3,sRecord_l s _ (by omega),bnd_s]
  unfold recsF
  cases h:recAt s (p:Int) with
  |none=>rfl
  |some r=>
   obtain ⟨h0,h1,h2⟩:=recAt_out h
   show cnd (bnot true) _ (cnd (fits (len acc+len (r.1::([]:List ByteArray))) 1) (sReadJournal_D3 (s,(app acc [r.1],((r.2:Int),())))) none)=_
   rw[show bnot true=false from rfl,cnd_f,app_fits (by decide) (by simp;omega),cnd_t]
   exact sJournal_loop s hs f (acc++[r.1]) r.2 (by omega) h2 (by simp;omega)
theorem iReadJournal_l (s:ByteArray) (hs:s.size≤1099511):iReadJournal_d (s,())=some (((journal s).1,(((journal s).2:Int),())),()):=by
 rw[iReadJournal_b]
 exact iJournal_loop s hs (s.size+1) [] 0 (by omega) (by omega) (by simp)
theorem sReadJournal_l (s:ByteArray) (hs:s.size≤1099511):sReadJournal_d (s,())=some (((journal s).1,(((journal s).2:Int),())),()):=by
 rw[sReadJournal_b]
 exact sJournal_loop s hs (s.size+1) [] 0 (by omega) (by omega) (by simp)
theorem recsF_len (s:ByteArray): ∀ (f:Nat) (acc:List ByteArray) (p:Nat),acc.length≤p→(recsF s f acc p).1.length≤(recsF s f acc p).2∧(p≤s.size→(recsF s f acc p).2≤s.size)
 |0,acc,p,ha=>⟨ha,fun h=>h⟩
 |f+1,acc,p,ha=>by
  unfold recsF
  cases h:recAt s (p:Int) with
  |none=>exact ⟨ha,fun h=>h⟩
  |some r=>
   obtain ⟨h0,h1,h2⟩:=recAt_out h
   obtain ⟨k1,k2⟩:=recsF_len s f (acc++[r.1]) r.2 (by simp;omega)
   exact ⟨k1,fun _=>k2 h2⟩
theorem journal_len (s:ByteArray):(journal s).1.length≤s.size:=by
 obtain ⟨h1,h2⟩:=recsF_len s (s.size+1) [] 0 (Nat.zero_le _)
 exact Nat.le_trans h1 (h2 (Nat.zero_le _))
end Go.Proofs.YtonggnnjobapcaaGreatDoor
