/- What is on a chain, what is believed, how a life begins. Of no condition. -/
import Derived.Test.YtpnodjpefkcflaaGreatDoorTG
set_option linter.unusedVariables false
set_option linter.unusedSimpArgs false
set_option maxRecDepth 100000
namespace Go.Proofs.YtpnodjpefkcflaaGreatDoor
open Go.TV
theorem on_both (c:tChain) (hc:ChOk c) (h:tHead): ∃b:Bool,iOnChain_d (c,(h,()))=some ((b,()),())∧sOnChain_d (c,(h,()))=some ((b,()),()):=by
 rw[iOnChain_b,sOnChain_b,iChainOk_l,sChainOk_l c hc.stores0,bnd_s,bnd_s]
 simp only[]
 cases decide (0≤c.1∧c.1≤99)&&accV c.2.1 with
 |false=>simp only[bnot,Bool.not_false,cnd_t];rw[iFirst_l,sStart_l,bnd_s];exact ⟨_,rfl,rfl⟩
 |true=>
  simp only[bnot,Bool.not_true,cnd_f]
  obtain ⟨r,r0,rf,r1,r2⟩:=heads_both c hc 6 (by omega)
  rw[show ((6:Nat):Int)=6 from rfl] at r1 r2
  rw[r1,r2,bnd_s,bnd_s]
  simp only[]
  have loop: ∀ (m i:Nat),i+m=r.length→ ∃b:Bool,iOnChain_D4 (r,(len r,((i:Int),(h,()))))=some ((b,()),())∧sOnChain_D5 (startH::r,(((i+1:Nat):Int),(h,())))=some ((b,()),()):=by
   intro m
   induction m with
   |zero=>
    intro i hi
    refine ⟨false,?_,?_⟩
    ·rw[iOnChain_q4,show (i:Int)=(r.length:Int) by omega,ilt_end,cnd_f]
    ·rw[sOnChain_q5,show (((i+1:Nat)):Int)=(((startH::r).length:Nat):Int) by simp;omega,ilt_end,cnd_f]
   |succ m ih=>
    intro i hi
    have h1:i<r.length:=by omega
    have h2:i+1<(startH::r).length:=by simp;omega
    obtain ⟨b,b1,b2⟩:=ih (i+1) (by omega)
    rw[iOnChain_q4,ilt_at h1,cnd_t,inb_at h1,cnd_t,rd_at h1,sOnChain_q5,ilt_at h2,cnd_t,inb_at h2,cnd_t,rd_at h2,next_at (by omega),next_at (by omega),b1,b2,show (startH::r)[i+1]=r[i] from rfl]
    cases both (ieq r[i].1 h.1) (both (seq r[i].2.1 h.2.1) (both (seq r[i].2.2.1 h.2.2.1) (both (seq r[i].2.2.2.1 h.2.2.2.1) true)))
    ·exact ⟨b,rfl,rfl⟩
    ·exact ⟨true,rfl,rfl⟩
  exact loop r.length 0 (by omega)
theorem onchain_same (c:tChain) (h:tHead) (hs:Small TChain c) (g:GoodV TChain c): ∃r,sOnChain_d (c,(h,()))=some ((r,()),())∧iOnChain_d (c,(h,()))=some ((r,()),()):=by
 obtain ⟨b,h1,h2⟩:=on_both c ⟨Bnd.le (by decide) hs,nonce_ok g⟩ h
 exact ⟨b,h2,h1⟩
theorem cstart_both (c:tChain) (hc:ChOk c) (m:tMaker) (hm:Fine TMaker m): ∃r:tClient,Fine TClient r∧iChainStart_d (c,(m,()))=some ((r,()),())∧sChainStart_d (c,(m,()))=some ((r,()),()):=by
 obtain ⟨h,hf,h1,h2⟩:=chead_both c hc 0
 have hl:m.1.2.2.2.2.1.length≤16777216:=hm.1.2.2.2.2.1.1
 have hcm:Fine TCommittee (committeeOf (seedOf c.1 0)):=committeeOf_fine (by decide) _
 refine ⟨(h,(committeeOf (seedOf c.1 0),(zCommittee,(false,(m.1,()))))),⟨hf,hcm,⟨⟨Nat.zero_le _,fun x hx=>by cases hx⟩,trivial⟩,trivial,hm.1,trivial⟩,?_,?_⟩
 ·rw[iChainStart_b,h1,bnd_s,iChainCommittee_l,bnd_s,iCopyKeys_l m.1 hm.1,bnd_s]
 ·rw[sChainStart_b,app_fits (by decide) (by simp;omega),cnd_t,h2,bnd_s,sChainCommittee_l,bnd_s]
  rfl
theorem chainstart_same (c:tChain) (m:tMaker) (hs:Small TChain c) (hm:Small TMaker m) (g:GoodV TChain c): ∃r,sChainStart_d (c,(m,()))=some ((r,()),())∧iChainStart_d (c,(m,()))=some ((r,()),())∧Fine TClient r:=by
 obtain ⟨r,h1,h2,h3⟩:=cstart_both c ⟨Bnd.le (by decide) hs,nonce_ok g⟩ m (Bnd.le (by decide) hm)
 exact ⟨r,h3,h2,h1⟩
theorem believes_both (c:tChain) (hc:ChOk c) (x:tClient) (hx:Fine TClient x): ∃b:Bool,iBelieves_d (c,(x,()))=some ((b,()),())∧sL27Believed_d (c,(x,()))=some ((b,()),()):=by
 rw[iBelieves_b,sL27Believed_b,iClientOk_l x hx,sClientOk_l x hx,bnd_s,bnd_s]
 simp only[]
 cases hcl:clientOk x with
 |false=>exact ⟨false,rfl,rfl⟩
 |true=>
  simp only[bnot,Bool.not_true,cnd_f]
  have hslot:0≤x.1.1∧x.1.1≤10000:=by
   unfold clientOk headOk at hcl
   simp only[Bool.and_eq_true,decide_eq_true_eq] at hcl
   exact hcl.1.1
  obtain ⟨b,b1,b2⟩:=on_both c hc x.1
  rw[b1,b2,bnd_s,bnd_s]
  simp only[]
  cases b with
  |false=>exact ⟨false,rfl,rfl⟩
  |true=>
   simp only[Bool.not_true,cnd_f]
   have hB:(8:Nat)≤16777216:=by decide
   rw[iPerC_l _ hslot.1 hslot.2,sPerC_l _ hslot.1 hslot.2,bnd_s,bnd_s]
   simp only[]
   rw[iCommitteeRoot_l _ hx.2.1,sCommitteeRoot_l _ hx.2.1,bnd_s,bnd_s,iChainCommittee_l,sChainCommittee_l,bnd_s,bnd_s]
   simp only[]
   rw[iCommitteeRoot_l _ (committeeOf_fine hB _),sCommitteeRoot_l _ (committeeOf_fine hB _),bnd_s,bnd_s]
   simp only[]
   rw[sne_d,←seq_d]
   cases seq (comRoot x.2.1) (comRoot (committeeOf (seedOf c.1 (x.1.1/8)))) with
   |false=>exact ⟨false,rfl,rfl⟩
   |true=>
    simp only[Bool.not_true,cnd_f,cnd_t]
    cases x.2.2.2.1 with
    |false=>exact ⟨true,rfl,rfl⟩
    |true=>
     simp only[Bool.not_true,cnd_f]
     rw[iCommitteeRoot_l _ hx.2.2.1,sCommitteeRoot_l _ hx.2.2.1,bnd_s,bnd_s,iChainCommittee_l,sChainCommittee_l,bnd_s,bnd_s]
     simp only[]
     rw[iCommitteeRoot_l _ (committeeOf_fine hB _),sCommitteeRoot_l _ (committeeOf_fine hB _),bnd_s]
     exact ⟨_,rfl,rfl⟩
theorem believed_same (w:tWorld) (h:Small TWorld w) (g:GoodV TWorld w): ∃r,sBelieved_d (w,())=some ((r,()),())∧iBelieved_d (w,())=some ((r,()),()):=by
 have hf:Fine TWorld w:=Bnd.le (by decide) h
 have hc:ChOk w.1:=⟨hf.1,nonce_ok g.1⟩
 obtain ⟨a,a1,a2⟩:=believes_both w.1 hc w.2.2.1.1 hf.2.2.1.1
 obtain ⟨b,b1,b2⟩:=believes_both w.1 hc w.2.2.1.2.1 hf.2.2.1.2.1
 rw[sBelieved_b,iBelieved_b,a1,a2,bnd_s,bnd_s]
 simp only[]
 rw[b1,b2]
 cases a with
 |false=>exact ⟨false,rfl,rfl⟩
 |true=>exact ⟨b,rfl,rfl⟩
theorem bnew_both (c:tClient) (hf:Fine TClient c): ∃ (r:tBridge) (b:Bool),sBridgeNew_d (c,(0,()))=some ((r,(b,())),())∧iBridgeNew_d (c,(0,()))=some ((r,(b,())),())∧Fine TBridge r:=by
 rw[sBridgeNew_b,iBridgeNew_b,sClientOk_l c hf,bnd_s,sIn_l,bnd_s,sCopy_l c hf,bnd_s,bnd_s,iIsSlot_l,bnd_s,iClientOk_l c hf,bnd_s,iCopyClient_l c hf,bnd_s,bnd_s]
 simp only[bnot_d,cnd_not]
 cases clientOk c
 ·cases decide ((0:Int)≤0∧(0:Int)≤10000)
  ·exact ⟨_,_,rfl,rfl,zBridge_fine⟩
  ·exact ⟨_,_,rfl,rfl,zBridge_fine⟩
 ·cases decide ((0:Int)≤0∧(0:Int)≤10000)
  ·exact ⟨_,_,rfl,rfl,zBridge_fine⟩
  ·refine ⟨_,_,rfl,rfl,hf,hf,Nat.zero_le _,trivial,⟨Nat.zero_le _,fun x h=>by cases h⟩,trivial,trivial⟩
theorem copyChain_both (c:tChain) (hc:ChOk c):iCopyChain_d (c,())=some ((c,()),())∧sL26Chain_d (c,())=some ((c,()),()):=by
 constructor
 ·rw[iCopyChain_b,iCopyAccounts_l _ hc.fine.2.1,bnd_s]
 ·rw[sL26Chain_b,sChainAccounts_l c 0 hc.fine hc.nonce (by omega) (by omega),bnd_s,bump_none (by omega)]
theorem copyMaker_both (m:tMaker) (hm:Fine TMaker m):iCopyMaker_d (m,())=some ((m,()),())∧sL26Maker_d (m,())=some ((m,()),()):=by
 have h1:m.1.2.2.2.2.1.length≤16777216:=hm.1.2.2.2.2.1.1
 have h2:m.2.1.length≤16777216:=hm.2.1.1
 have h3:m.2.2.1.length≤16777216:=hm.2.2.1.1
 have h4:m.2.2.2.1.length≤16777216:=hm.2.2.2.1.1
 have h5:m.2.2.2.2.1.length≤16777216:=hm.2.2.2.2.1.1
 constructor
 ·rw[iCopyMaker_b,iCopyKeys_l _ hm.1,bnd_s,clonePoint _ h2,bnd_s,clonePoint _ h3,bnd_s,clonePoint _ h4,bnd_s,clonePoint _ h5,bnd_s]
 ·rw[sL26Maker_b,app_fits (by decide) (by simp;omega),cnd_t,app_fits (by decide) (by simp;omega),cnd_t,app_fits (by decide) (by simp;omega),cnd_t,app_fits (by decide) (by simp;omega),cnd_t,app_fits (by decide) (by simp;omega),cnd_t]
  rfl
theorem zMaker_fine:Fine TMaker zMaker:=by
 have e:Fine (.sl TPoint) []:=⟨Nat.zero_le _,fun x hx=>by cases hx⟩
 have p:Fine TPoint zPoint:=⟨trivial,trivial,trivial,trivial⟩
 exact ⟨⟨p,p,p,p,e,trivial⟩,e,e,e,e,trivial⟩
theorem zWorld_fine:Fine TWorld zWorld:=⟨⟨trivial,⟨Nat.zero_le _,fun x hx=>by cases hx⟩,trivial⟩,zMaker_fine,zBridge_fine,⟨Nat.zero_le _,fun x hx=>by cases hx⟩,⟨Nat.zero_le _,fun x hx=>by cases hx⟩,trivial⟩
theorem worldnew_same (c:tChain) (m:tMaker) (hs:Small TChain c) (hm:Small TMaker m) (g:GoodV TChain c): ∃r b,sWorldNew_d (c,(m,()))=some ((r,(b,())),())∧iWorldNew_d (c,(m,()))=some ((r,(b,())),())∧Fine TWorld r:=by
 have hc:ChOk c:=⟨Bnd.le (by decide) hs,nonce_ok g⟩
 have hmf:Fine TMaker m:=Bnd.le (by decide) hm
 rw[sWorldNew_b,iWorldNew_b,sChainOk_l c hc.stores0,iChainOk_l,bnd_s,bnd_s]
 simp only[]
 cases decide (0≤c.1∧c.1≤99)&&accV c.2.1 with
 |false=>exact ⟨zWorld,false,rfl,rfl,zWorld_fine⟩
 |true=>
  simp only[bnot,Bool.not_true,cnd_f]
  obtain ⟨x,xf,x1,x2⟩:=cstart_both c hc m hmf
  rw[x1,x2,bnd_s,bnd_s]
  simp only[]
  obtain ⟨r,b,b1,b2,rf⟩:=bnew_both x xf
  rw[b1,b2,bnd_s,bnd_s]
  simp only[]
  cases b with
  |false=>exact ⟨zWorld,false,rfl,rfl,zWorld_fine⟩
  |true=>
   simp only[Bool.not_true,cnd_f]
   rw[(copyChain_both c hc).1,(copyChain_both c hc).2,bnd_s,bnd_s]
   simp only[]
   rw[(copyMaker_both m hmf).1,(copyMaker_both m hmf).2,bnd_s]
   exact ⟨(c,(m,(r,([],([],()))))),true,rfl,rfl,hc.fine,hmf,rf,⟨Nat.zero_le _,fun x hx=>by cases hx⟩,⟨Nat.zero_le _,fun x hx=>by cases hx⟩,trivial⟩
end Go.Proofs.YtpnodjpefkcflaaGreatDoor
