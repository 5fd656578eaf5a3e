/- A bridge takes the first of its queue. Of no condition. -/
import Derived.Test.YtkfifjaomgjnnaaGreatDoorUE
set_option linter.unusedVariables false
set_option linter.unusedSimpArgs false
set_option maxRecDepth 100000
namespace Go.Proofs.YtkfifjaomgjnnaaGreatDoor
open Go.TV
theorem iSealed_l (t:ByteArray) (ht:t.size≤20000):iSealed_d (t,())=some ((scat t (sumV t),(true,())),()):=by
 rw[iSealed_b,igt_f (by rw[ssz_d];omega),cnd_f,iSumText_l t (by omega),bnd_s,cat_fits (by rw[sumV_size];omega),cnd_t]
theorem iRecordText_l (t:ByteArray) (h1:t.size≤1099511627776):iRecordText_d (t,())=some (if 1≤t.size∧t.size≤700 then (scat (scat (varV (t.size:Int)) t) (sumV (scat (varV (t.size:Int)) t)),(true,())) else zL21Cur,()):=by
 rw[iRecordText_b]
 by_cases c0:t=bs []
 ·subst c0
  rw[seq_d,decide_eq_true rfl,cnd_t,if_neg (fun h=>by have:=h.1;exact absurd this (by decide))]
 ·have h0:1≤t.size:=by
   rcases Nat.eq_zero_or_pos t.size with h|h
   ·exact absurd (ByteArray.ext (Array.eq_empty_of_size_eq_zero h)) c0
   ·exact h
  rw[seq_d,decide_eq_false c0,cnd_f]
  by_cases c:t.size≤700
  ·have hv:=varV_size (ssz t)
   rw[igt_f (by rw[ssz_d];omega),cnd_f,iVar_l (ssz t) (by rw[ssz_d];omega) (by rw[ssz_d];omega),bnd_s,cat_fits (x:=varV (ssz t)) (y:=t) (by omega),cnd_t,iSealed_l (scat (varV (ssz t)) t) (by rw[size_scat];omega),bnd_s,if_pos ⟨h0,c⟩,ssz_d]
  ·rw[igt_t (by rw[ssz_d];omega),cnd_t,if_neg (fun h=>c h.2)]
theorem addRec_both (x t:ByteArray) (hx:x.size≤1048576) (ht:t.size≤1099511627776): ∃ (r:ByteArray) (b:Bool),r.size≤x.size+720∧iAddRecord_d (x,(t,()))=some ((r,(b,())),())∧sAddRecord_d (x,(t,()))=some ((r,(b,())),()):=by
 rw[iAddRecord_b,sAddRecord_b,iRecordText_l t ht,sRecordText_l t ht,bnd_s]
 simp only[]
 by_cases c:1≤t.size∧t.size≤700
 ·rw[if_pos c]
  have hr:(scat (scat (varV (t.size:Int)) t) (sumV (scat (varV (t.size:Int)) t))).size≤714:=by
   have:=varV_size (t.size:Int)
   rw[size_scat,size_scat,sumV_size];omega
  generalize scat (scat (varV (t.size:Int)) t) (sumV (scat (varV (t.size:Int)) t))=rec at*
  simp only[bnot,Bool.not_true,cnd_f]
  rw[ssz_d,ssz_d,isub_64 (by omega) (by omega)]
  by_cases c2:(20000:Int)- (x.size:Int)<(rec.size:Int)
  ·rw[igt_t c2,cnd_t];exact ⟨x,false,by omega,rfl,rfl⟩
  ·rw[igt_f (by omega),cnd_f,←ssz_d,←ssz_d,cat_fits (by omega),cnd_t]
   exact ⟨scat x rec,true,by rw[size_scat];omega,rfl,rfl⟩
 ·rw[if_neg c]
  exact ⟨x,false,by omega,rfl,rfl⟩
theorem del_l (t:ByteArray) (q:List ByteArray) (h:q.length+1≤16777216):g_slices_Delete_string_string_d (t::q,(0,(1,())))=some ((q,()),()):=by
 unfold g_slices_Delete_string_string_d
 rw[if_pos ⟨Nat.succ_pos _,h,rfl,rfl⟩]
 rfl
theorem drain_both (b:tBridge) (hb:Fine TBridge b) (hj:b.2.2.1.size≤1048576) (hq: ∀x∈b.2.2.2.2.1,x.size≤1048576): ∃ (r:tBridge) (k:Int),Fine TBridge r∧iDrain_d (b,())=some ((r,(k,())),())∧sDrain_d (b,())=some ((r,(k,())),()):=by
 rw[iDrain_b,sDrain_b,iCopyBridge_l b hb,sCopyBridge_l b hb,bnd_s,bnd_s]
 simp only[]
 rw[sL24Drain_b]
 cases hqu:b.2.2.2.2.1 with
 |nil=>exact ⟨b,10,hb,rfl,rfl⟩
 |cons t q=>
  have hl:q.length+1≤16777216:=by
   have:=hb.2.2.2.2.1.1
   rw[hqu] at this
   exact this
  have ht:t.size≤1048576:=hq t (by rw[hqu];simp)
  have e0:ieq (len (t::q)) 0=false:=by rw[ieq_d,len_d];exact decide_eq_false (by simp only[List.length_cons];omega)
  have e1:inb 0 (len (t::q))=true:=inb_at (i:=0) (Nat.succ_pos _)
  have e2:inb2 1 (len (t::q)) (len (t::q))=true:=by rw[len_d];exact inb2_t (by omega) (by simp only[List.length_cons];omega) (by omega)
  have e3:sub (t::q) 1 (len (t::q))=q:=by rw[len_d];unfold sub;simp
  have e4:fits (len ([]:List ByteArray)+len q) 1=true:=app_fits (by decide) (by simp only[List.length_nil];omega)
  have e5:app ([]:List ByteArray) q=q:=rfl
  have e6:rd (bs []) (t::q) 0=t:=rfl
  have hqf: ∀c:tClient,Fine TClient c→ ∀j:ByteArray,j.size≤1048576+720→Fine TBridge (b.1,(c,(j,(b.2.2.2.1,(q,b.2.2.2.2.2))))):=fun c hc j hj=>⟨hb.1,hc,Nat.le_trans hj (by decide),trivial,⟨by show q.length≤_;omega,fun x hx=>hb.2.2.2.2.1.2 x (by rw[hqu];simp [hx])⟩,hb.2.2.2.2.2⟩
  rw[e0,cnd_f,cnd_f,e1,cnd_t,cnd_t,e2,cnd_t,e3,e4,cnd_t,e5,e6,del_l t q hl,bnd_s,iReadUpdate_l t (by omega),sReadUpdate_l t (by omega),bnd_s,bnd_s]
  simp only[]
  cases hr:(readUpdate t).2 with
  |false=>
   simp only[bnot,Bool.not_false,cnd_t,bnd_s]
   exact ⟨_,1,hqf b.2.1 hb.2.1 b.2.2.1 (by omega),rfl,rfl⟩
  |true=>
   simp only[bnot,Bool.not_true,cnd_f]
   obtain ⟨c,k,hc,f1,f2⟩:=take_both b.2.1 (readUpdate t).1 b.2.2.2.2.2.1 hb.2.1 (readUpdate_fine t)
   rw[f1,f2,bnd_s,bnd_s,agree_self]
   simp only[]
   by_cases hk:k=0
   ·rw[ine_d,decide_eq_true hk,show (!true)=false from rfl,cnd_f,cnd_f]
    obtain ⟨j,v,hj2,g1,g2⟩:=addRec_both b.2.2.1 t hj (by omega)
    rw[g1,g2,bnd_s,bnd_s]
    simp only[]
    cases v with
    |false=>exact ⟨_,11,hqf b.2.1 hb.2.1 b.2.2.1 (by omega),rfl,rfl⟩
    |true=>exact ⟨_,0,hqf c hc j (by omega),rfl,rfl⟩
   ·rw[ine_d,decide_eq_false hk,show (!false)=true from rfl,cnd_t,cnd_t]
    exact ⟨_,k,hqf b.2.1 hb.2.1 b.2.2.1 (by omega),rfl,rfl⟩
theorem drain_same (b:tBridge) (h:Small TBridge b): ∃r k,sDrain_d (b,())=some ((r,(k,())),())∧iDrain_d (b,())=some ((r,(k,())),())∧Fine TBridge r:=by
 obtain ⟨r,k,h1,h2,h3⟩:=drain_both b (Bnd.le (by decide) h) h.2.2.1 h.2.2.2.2.1.2
 exact ⟨r,k,h3,h2,h1⟩
end Go.Proofs.YtkfifjaomgjnnaaGreatDoor
