/- A bridge looked at; a bridge that broke down. Of no condition. -/
import Derived.Test.YtonggnnjobapcaaGreatDoorUE
set_option linter.unusedVariables false
set_option linter.unusedSimpArgs false
set_option maxRecDepth 100000
namespace Go.Proofs.YtonggnnjobapcaaGreatDoor
open Go.TV
theorem iCut_l (s:ByteArray) (n:Int) (hs:s.size≤1099511627776):iCutJournal_d (s,(n,()))=some ((ssub s 0 (imax 0 (imin n (ssz s))),()),()):=by
 have h:0≤imax 0 (imin n (ssz s))∧imax 0 (imin n (ssz s))≤ssz s:=by rw[ssz_d];unfold imax imin;omega
 rw[iCutJournal_b,inb2_t (by omega) h.1 h.2,cnd_t]
theorem sCut_l (s:ByteArray) (n:Int) (hs:s.size≤1099511627776):sCutJournal_d (s,(n,()))=some ((ssub s 0 (imax 0 (imin n (ssz s))),()),()):=by
 rw[sCutJournal_b]
 by_cases h0:n<0
 ·rw[ilt_t h0,cnd_t,show imax 0 (imin n (ssz s))=((0:Nat):Int) by rw[ssz_d];unfold imax imin;omega]
  exact congrArg (fun x=>some ((x,()),())) (ssub_nil (p:=0) (q:=0) (Nat.le_refl _)).symm
 ·rw[ilt_f (by omega),cnd_f]
  by_cases h1:ssz s<n
  ·rw[igt_t h1,cnd_t,show imax 0 (imin n (ssz s))=ssz s by rw[ssz_d] at*;unfold imax imin;omega,ssub_all]
  ·rw[igt_f (by omega),cnd_f,inb2_t (by omega) (by omega) (by omega),cnd_t,show imax 0 (imin n (ssz s))=n by rw[ssz_d] at*;unfold imax imin;omega]
theorem cut_size (s:ByteArray) (n:Int):(ssub s 0 (imax 0 (imin n (ssz s)))).size≤s.size:=by
 obtain ⟨k,hk⟩: ∃k:Nat,imax 0 (imin n (ssz s))=(k:Int)∧k≤s.size:=⟨(imax 0 (imin n (ssz s))).toNat,by rw[ssz_d];unfold imax imin;omega,by rw[ssz_d];unfold imax imin;omega⟩
 rw[hk.1]
 have:=ssub_size s 0 k (Nat.zero_le _) hk.2
 exact Nat.le_trans (Nat.le_of_eq this) (by omega)
theorem journal_end (s:ByteArray):(journal s).2≤s.size:=(recsF_len s (s.size+1) [] 0 (Nat.zero_le _)).2 (Nat.zero_le _)
theorem crash_5 (n:Int) (b x:tBridge) (z:tBridge) (k:Nat) (hb:Fine TBridge b) (hx:Fine TBridge x) (hj:b.2.2.1.size≤1048576) (hk:k≤b.2.2.1.size): ∃r:tBridge,(Fine TBridge r∧r.2.2.1.size≤1048576)∧iCrash_D5 (n,((k:Int),(b,(z,(x,())))))=some ((r,()),())∧sCrash_D5 (n,((k:Int),(b,(z,(x,())))))=some ((r,()),()):=by
 have h1:=ssub_size b.2.2.1 0 k (Nat.zero_le _) hk
 have h2:=ssub_size b.2.2.1 k b.2.2.1.size hk (Nat.le_refl _)
 have h3:=cut_size (ssub b.2.2.1 (k:Int) (b.2.2.1.size:Int)) n
 have h1':(ssub b.2.2.1 0 (k:Int)).size=k:=by simpa using h1
 rw[iCrash_q5,sCrash_q5,ssz_d,inb2_t (by omega) (by omega) (by omega),cnd_t,cnd_t,inb2_t (by omega) (by omega) (by omega),cnd_t,cnd_t,iCut_l _ _ (by omega),sCut_l _ _ (by omega),bnd_s,bnd_s]
 simp only[]
 generalize hc:ssub (ssub b.2.2.1 (k:Int) (b.2.2.1.size:Int)) 0 (imax 0 (imin n (ssz (ssub b.2.2.1 (k:Int) (b.2.2.1.size:Int)))))=c at*
 rw[cat_fits (by omega),cnd_t,cnd_t]
 have hz:(scat (ssub b.2.2.1 0 (k:Int)) c).size≤1048576:=by rw[size_scat];omega
 generalize scat (ssub b.2.2.1 0 (k:Int)) c=t at*
 have he:=journal_end t
 rw[iReadJournal_l t (by omega),sReadJournal_l t (by omega),bnd_s,bnd_s]
 simp only[]
 rw[ssz_d,inb2_t (by omega) (by omega) (by omega),cnd_t,cnd_t]
 have h4:=ssub_size t 0 (journal t).2 (Nat.zero_le _) he
 have h4':(ssub t 0 ((journal t).2:Int)).size≤1048576:=Nat.le_trans (Nat.le_of_eq (by simpa using h4)) (by omega)
 obtain ⟨r,hr,e1,e2⟩:=replay_both b.1 (ssub t 0 ((journal t).2:Int)) hb.1 (by omega)
 simp only[e1,e2,bnd_s]
 refine ⟨(x.1,(r,(ssub t 0 ((journal t).2:Int),(((journal t).2:Int),(([]:List ByteArray),x.2.2.2.2.2))))),?_,rfl,rfl⟩
 exact ⟨⟨hx.1,hr,Nat.le_trans h4' (by decide),trivial,⟨Nat.zero_le _,fun x h=>by cases h⟩,hx.2.2.2.2.2⟩,h4'⟩
theorem crash_both (b:tBridge) (n:Int) (hb:Fine TBridge b) (hj:b.2.2.1.size≤1048576): ∃r:tBridge,(Fine TBridge r∧r.2.2.1.size≤1048576)∧iCrash_d (b,(n,()))=some ((r,()),())∧sCrash_d (b,(n,()))=some ((r,()),()):=by
 rw[iCrash_b,sCrash_b,iCopyBridge_l b hb,sCopyBridge_l b hb,bnd_s,bnd_s,sIn_l,bnd_s]
 simp only[]
 by_cases h0:b.2.2.2.1<0
 ·rw[ilt_t h0,cnd_t,decide_eq_false (by omega)]
  exact crash_5 n b b zBridge 0 hb hb hj (Nat.zero_le _)
 ·rw[ilt_f (by omega),cnd_f]
  by_cases h1:ssz b.2.2.1<b.2.2.2.1
  ·rw[igt_t h1,cnd_t,decide_eq_false (by omega)]
   exact crash_5 n b b zBridge 0 hb hb hj (Nat.zero_le _)
  ·rw[igt_f (by omega),cnd_f,decide_eq_true (by omega)]
   obtain ⟨k,hk⟩:=Int.eq_ofNat_of_zero_le (show 0≤b.2.2.2.1 by omega)
   rw[hk]
   rw[ssz_d] at h1
   exact crash_5 n b b zBridge k hb hb hj (by omega)
theorem crash_same (b:tBridge) (n:Int) (h:Small TBridge b): ∃r,sCrash_d (b,(n,()))=some ((r,()),())∧iCrash_d (b,(n,()))=some ((r,()),())∧Fine TBridge r:=by
 obtain ⟨r,h1,h2,h3⟩:=crash_both b n (Bnd.le (by decide) h) h.2.2.1
 exact ⟨r,h3,h2,h1.1⟩
end Go.Proofs.YtonggnnjobapcaaGreatDoor
