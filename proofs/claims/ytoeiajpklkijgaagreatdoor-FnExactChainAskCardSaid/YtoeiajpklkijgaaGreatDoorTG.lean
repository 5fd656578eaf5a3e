/- Accounts, leaves of a state, heads of a chain. Of no condition. -/
import Derived.Test.YtoeiajpklkijgaaGreatDoorTM
set_option linter.unusedVariables false
set_option linter.unusedSimpArgs false
set_option maxRecDepth 100000
namespace Go.Proofs.YtoeiajpklkijgaaGreatDoor
open Go.TV
noncomputable def accA (l:List tAccount) (i:Nat):Bool:=decide (ssz (rd zAccount l (i:Int)).1=4)&&((decide (i=0)||slt (rd zAccount l ((i:Int)-1)).1 (rd zAccount l (i:Int)).1)&&(decide (0≤(rd zAccount l (i:Int)).2.1∧(rd zAccount l (i:Int)).2.1≤1000)&&(decide (0≤(rd zAccount l (i:Int)).2.2.1∧(rd zAccount l (i:Int)).2.2.1≤1000000000)&&pokV (rd zAccount l (i:Int)).2.2.2.1)))
noncomputable def accF (l:List tAccount):Nat→Nat→Bool
 |_,0=>true
 |i,m+1=>accA l i&&accF l (i+1) m
noncomputable def accV (l:List tAccount):Bool:=decide (l.length≤12)&&accF l 0 l.length
theorem iAcc_8 (l:List tAccount) (n i j:Int) (a b c:Bool) (x:tAccount):iAccountsOk_D8 (l,(l,(n,(i,(j,(a,(b,(c,(x,())))))))))=Go.TV.cnd (decide (0≤x.2.1∧x.2.1≤1000)&&(decide (0≤x.2.2.1∧x.2.2.1≤1000000000)&&pokV x.2.2.2.1)) (iAccountsOk_D4 (l,(l,(n,(iadd .i64 i 1,()))))) (some ((false,()),())):=by
 rw[iAccountsOk_q8]
 by_cases c1:0≤x.2.1
 ·rw[ilt_f c1,cnd_f]
  by_cases c2:x.2.1≤1000
  ·rw[igt_f c2,cnd_f,decide_eq_true (⟨c1,c2⟩:0≤x.2.1∧x.2.1≤1000)]
   by_cases c3:0≤x.2.2.1
   ·rw[ilt_f c3,cnd_f]
    by_cases c4:x.2.2.1≤1000000000
    ·rw[igt_f c4,cnd_f,decide_eq_true (⟨c3,c4⟩:0≤x.2.2.1∧x.2.2.1≤1000000000),iPok_l,bnd_s]
     simp only[]
     cases pokV x.2.2.2.1<;>rfl
    ·rw[igt_t (by omega),cnd_t,decide_eq_false (fun hh:0≤x.2.2.1∧x.2.2.1≤1000000000=>c4 hh.2)];rfl
   ·rw[ilt_t (by omega),cnd_t,decide_eq_false (fun hh:0≤x.2.2.1∧x.2.2.1≤1000000000=>c3 hh.1)];rfl
  ·rw[igt_t (by omega),cnd_t,decide_eq_false (fun hh:0≤x.2.1∧x.2.1≤1000=>c2 hh.2)];rfl
 ·rw[ilt_t (by omega),cnd_t,decide_eq_false (fun hh:0≤x.2.1∧x.2.1≤1000=>c1 hh.1)];rfl
theorem iAcc_loop (l:List tAccount) (hl:l.length≤1000000): ∀ (m i:Nat),i+m=l.length→iAccountsOk_D4 (l,(l,(len l,((i:Int),()))))=some ((accF l i m,()),()):=by
 intro m
 induction m with
 |zero=>intro i hi;rw[iAccountsOk_q4,show (i:Int)=(l.length:Int) by omega,ilt_end,cnd_f];rfl
 |succ m ih=>
  intro i hi
  have h1:i<l.length:=by omega
  have fin: ∀c:Bool,Go.TV.cnd c (iAccountsOk_D4 (l,(l,(len l,(iadd .i64 (i:Int) 1,()))))) (some ((false,()),()))=some ((c&&accF l (i+1) m,()),()):=fun c=>by
   rw[next_at (by omega),ih (i+1) (by omega)];cases c<;>rfl
  rw[iAccountsOk_q4,ilt_at h1,cnd_t,inb_at h1,cnd_t,ine_d]
  show _=some ((accA l i&&accF l (i+1) m,()),())
  unfold accA
  by_cases c1:ssz (rd zAccount l (i:Int)).1=4
  ·rw[decide_eq_true c1,show (!true)=false from rfl,cnd_f]
   by_cases c4:i=0
   ·rw[igt_f (by omega),cnd_f,decide_eq_true c4,iAcc_8,fin];rfl
   ·rw[igt_t (by omega),cnd_t,isub_64 (by omega) (by omega),show inb ((i:Int)-1) (len l)=true by rw[len_d];exact inb_t (by omega) (by omega),cnd_t,sge_slt,cnd_not,decide_eq_false c4]
    cases slt (rd zAccount l ((i:Int)-1)).1 (rd zAccount l (i:Int)).1
    ·rfl
    ·rw[cnd_t,iAcc_8,fin];rfl
  ·rw[decide_eq_false c1,show (!false)=true from rfl,cnd_t];rfl
theorem sAcc_loop (l:List tAccount) (hl:l.length≤1000000000) (hp: ∀a∈l,a.2.2.2.1.length≤1000000000): ∀ (m i:Nat),i+m=l.length→sAccountsOk_D2 (l,((i:Int),()))=some ((accF l i m&&decide (l.length≤12),()),()):=by
 intro m
 induction m with
 |zero=>
  intro i hi
  rw[sAccountsOk_q2,show (i:Int)=(l.length:Int) by omega,ilt_end,cnd_f,ile_d,len_d]
  show some ((decide ((l.length:Int)≤12),()),())=some ((true&&decide (l.length≤12),()),())
  rw[Bool.true_and,show decide ((l.length:Int)≤12)=decide (l.length≤12) by simp only[decide_eq_decide];omega]
 |succ m ih=>
  intro i hi
  have h1:i<l.length:=by omega
  have hs:(rd zAccount l (i:Int)).2.2.2.1.length≤1000000000:=by rw[rd_at h1];exact hp _ (List.getElem_mem h1)
  have tail: ∀ (x:tAccount),x.2.2.2.1.length≤1000000000→Go.TV.bnd (sL01In_d (x.2.1,(0,(1000,())))) (fun r2=>Go.TV.cnd (bnot r2.1.1) (some ((false,()),())) (Go.TV.bnd (sL01In_d (x.2.2.1,(0,(1000000000,())))) (fun r3=>Go.TV.cnd (bnot r3.1.1) (some ((false,()),())) (Go.TV.bnd (sPairsOk_d (x.2.2.2.1,())) (fun r4=>Go.TV.cnd (bnot r4.1.1) (some ((false,()),())) (sAccountsOk_D2 (l,(iadd .i64 (i:Int) 1,()))))))))=
   some (((decide (0≤x.2.1∧x.2.1≤1000)&&(decide (0≤x.2.2.1∧x.2.2.1≤1000000000)&&pokV x.2.2.2.1))&&accF l (i+1) m&&decide (l.length≤12),()),()):=fun x hx=>by
   rw[next_at (by omega),ih (i+1) (by omega),sIn_l,bnd_s]
   simp only[]
   cases decide (0≤x.2.1∧x.2.1≤1000)
   ·rfl
   simp only[bnot,Bool.not_true,cnd_f]
   rw[sIn_l,bnd_s]
   simp only[]
   cases decide (0≤x.2.2.1∧x.2.2.1≤1000000000)
   ·rfl
   simp only[Bool.not_true,cnd_f]
   rw[sPok_l _ hx,bnd_s]
   simp only[]
   cases pokV x.2.2.2.1<;>rfl
  rw[sAccountsOk_q2,ilt_at h1,cnd_t,inb_at h1,cnd_t,ine_d]
  show _=some (((accA l i&&accF l (i+1) m)&&decide (l.length≤12),()),())
  unfold accA
  by_cases c1:ssz (rd zAccount l (i:Int)).1=4
  ·rw[decide_eq_true c1,show (!true)=false from rfl,cnd_f]
   by_cases c4:i=0
   ·rw[igt_f (by omega),cnd_f,decide_eq_true c4,tail _ hs];rfl
   ·rw[igt_t (by omega),cnd_t,isub_64 (by omega) (by omega),show inb ((i:Int)-1) (len l)=true by rw[len_d];exact inb_t (by omega) (by omega),cnd_t,sge_slt,cnd_not,decide_eq_false c4]
    cases slt (rd zAccount l ((i:Int)-1)).1 (rd zAccount l (i:Int)).1
    ·rfl
    ·rw[cnd_t,tail _ hs];rfl
  ·rw[decide_eq_false c1,show (!false)=true from rfl,cnd_t];rfl
theorem iAcc_l (l:List tAccount):iAccountsOk_d (l,())=some ((accV l,()),()):=by
 rw[iAccountsOk_b]
 unfold accV
 by_cases h:l.length≤12
 ·rw[igt_f (by rw[len_d];omega),cnd_f,decide_eq_true h]
  exact iAcc_loop l (by omega) l.length 0 (by omega)
 ·rw[igt_t (by rw[len_d];omega),cnd_t,decide_eq_false h];rfl
theorem sAcc_l (l:List tAccount) (hl:l.length≤1000000000) (hp: ∀a∈l,a.2.2.2.1.length≤1000000000):sAccountsOk_d (l,())=some ((accV l,()),()):=by
 rw[sAccountsOk_b]
 have:=sAcc_loop l hl hp l.length 0 (by omega)
 rw[show ((0:Nat):Int)=0 from rfl] at this
 rw[this,accV,Bool.and_comm]
theorem accF_at (l:List tAccount): ∀ (m i:Nat),accF l i m=true→ ∀j,i≤j→j<i+m→accA l j=true
 |0,i,_,j,h1,h2=>by omega
 |m+1,i,h,j,h1,h2=>by
  have h':(accA l i&&accF l (i+1) m)=true:=h
  rw[Bool.and_eq_true] at h'
  by_cases hj:j=i
  ·subst hj;exact h'.1
  ·exact accF_at l m (i+1) h'.2 j (by omega) (by omega)
theorem acc_out {l:List tAccount} (h:accV l=true):l.length≤12∧ ∀a∈l,(0≤a.2.1∧a.2.1≤1000)∧(0≤a.2.2.1∧a.2.2.1≤1000000000):=by
 unfold accV at h
 rw[Bool.and_eq_true] at h
 refine ⟨of_decide_eq_true h.1,fun a ha=>?_⟩
 obtain ⟨j,hj,rfl⟩:=List.getElem_of_mem ha
 have h1:=accF_at l l.length 0 h.2 j (by omega) (by omega)
 unfold accA at h1
 simp only[Bool.and_eq_true,decide_eq_true_eq,rd_at hj] at h1
 exact ⟨h1.2.2.1,h1.2.2.2.1⟩
def Stores (l:List tAccount):Prop:=l.length≤1000000000∧ ∀a∈l,a.2.2.2.1.length≤1000000000
theorem iChainOk_l (c:tChain):iChainOk_d (c,())=some ((decide (0≤c.1∧c.1≤99)&&accV c.2.1,()),()):=by
 rw[iChainOk_b,ige_d,ile_d]
 by_cases h1:0≤c.1
 ·rw[decide_eq_true h1,cnd_t]
  by_cases h2:c.1≤99
  ·rw[decide_eq_true h2,cnd_t,iAcc_l,bnd_s,decide_eq_true (⟨h1,h2⟩:0≤c.1∧c.1≤99)];rfl
  ·rw[decide_eq_false h2,cnd_f,decide_eq_false (fun hh:0≤c.1∧c.1≤99=>h2 hh.2)];rfl
 ·rw[decide_eq_false h1,cnd_f,decide_eq_false (fun hh:0≤c.1∧c.1≤99=>h1 hh.1)];rfl
theorem sChainOk_l (c:tChain) (hs:Stores c.2.1):sChainOk_d (c,())=some ((decide (0≤c.1∧c.1≤99)&&accV c.2.1,()),()):=by
 rw[sChainOk_b,sIn_l,bnd_s]
 simp only[]
 cases decide (0≤c.1∧c.1≤99)
 ·rfl
 ·rw[cnd_t,sAcc_l _ hs.1 hs.2,bnd_s];rfl
theorem accText_both (a:tAccount) (h1:0≤a.2.1∧a.2.1≤1000) (h2:0≤a.2.2.1∧a.2.2.1≤1000000000) (hp:a.2.2.2.1.length≤1000000000): ∃t:ByteArray,iAccountText_d (a,())=some ((t,()),())∧sAccountText_d (a,())=some ((t,()),()):=by
 obtain ⟨n,hn⟩:=Int.eq_ofNat_of_zero_le h1.1
 obtain ⟨m,hm⟩:=Int.eq_ofNat_of_zero_le h2.1
 obtain ⟨t,_,t1,t2⟩:=root_both a.2.2.2.1 hp
 rw[iAccountText_b,sAccountText_b,hn,hm,iNumT_l n (by omega),bnd_s,iNumT_l m (by omega),bnd_s,t1,bnd_s,t2,bnd_s]
 simp only[]
 rw[iItemText_l,bnd_s,sL20Text_b,sNumT_l n (by omega),bnd_s]
 simp only[]
 rw[sL19Text_b,bnd_s,sNumT_l m (by omega),bnd_s]
 simp only[]
 rw[sL19Text_b,bnd_s,sL19Text_b,bnd_s]
 simp only[]
 rw[sItemText_l,bnd_s,bnd_s]
 exact ⟨_,rfl,rfl⟩
theorem state_both (l:List tAccount) (hs:Stores l): ∃r:List tPair,r.length≤1000000000∧iStateTrie_d (l,())=some ((r,()),())∧sStateTrie_d (l,())=some ((r,()),()):=by
 rw[iStateTrie_b,sStateTrie_b,iAcc_l,sAcc_l l hs.1 hs.2,bnd_s,bnd_s]
 simp only[]
 cases h:accV l with
 |false=>exact ⟨[],by simp,rfl,rfl⟩
 |true=>
  simp only[bnot,Bool.not_true,cnd_f]
  obtain ⟨hl,ha⟩:=acc_out h
  have loop: ∀ (m i:Nat) (acc:List tPair),i+m=l.length→acc.length≤i→ ∃r:List tPair,r.length≤l.length∧iStateTrie_D5 (acc,(l,(len l,((i:Int),()))))=some ((r,()),())∧sStateTrie_D5 (l,(acc,((i:Int),())))=some ((r,()),()):=by
   intro m
   induction m with
   |zero=>
    intro i acc hi hacc
    refine ⟨acc,by omega,?_,?_⟩
    ·rw[iStateTrie_q5,show (i:Int)=(l.length:Int) by omega,ilt_end,cnd_f]
    ·rw[sStateTrie_q5,show (i:Int)=(l.length:Int) by omega,ilt_end,cnd_f]
   |succ m ih=>
    intro i acc hi hacc
    have h1:i<l.length:=by omega
    have hm:=List.getElem_mem h1
    obtain ⟨t,t1,t2⟩:=accText_both l[i] (ha _ hm).1 (ha _ hm).2 (hs.2 _ hm)
    obtain ⟨r,r0,r1,r2⟩:=ih (i+1) (acc++[(l[i].1,(t,()))]) (by omega) (by simp;omega)
    refine ⟨r,r0,?_,?_⟩
    ·rw[iStateTrie_q5,ilt_at h1,cnd_t,inb_at h1,cnd_t,rd_at h1,t1,bnd_s,app_fits (by decide) (by simp;omega),cnd_t,next_at (by omega)]
     exact r1
    ·rw[sStateTrie_q5,ilt_at h1,cnd_t,inb_at h1,cnd_t,cnd_t,rd_at h1,t2,bnd_s,app_fits (by decide) (by simp;omega),cnd_t,next_at (by omega)]
     exact r2
  obtain ⟨r,r0,r1,r2⟩:=loop l.length 0 [] (by omega) (by simp)
  exact ⟨r,by omega,r1,r2⟩
theorem leaves_both (l:List tAccount) (hs:Stores l) (a b:tCommittee) (ha:Fine TCommittee a) (hb:Fine TCommittee b) (h:tHead): ∃r:List ByteArray,r.length=4∧(∀y∈r,y.size≤32)∧iStateLeaves_d (l,(a,(b,(h,()))))=some ((r,()),())∧sStateLeaves_d (l,(a,(b,(h,()))))=some ((r,()),()):=by
 obtain ⟨s,s0,s1,s2⟩:=state_both l hs
 obtain ⟨t,t0,t1,t2⟩:=root_both s s0
 rw[iStateLeaves_b,sStateLeaves_b,s1,s2,bnd_s,bnd_s]
 simp only[]
 rw[t1,t2,bnd_s,bnd_s,iCommitteeRoot_l a ha,sCommitteeRoot_l a ha,bnd_s,bnd_s,iCommitteeRoot_l b hb,sCommitteeRoot_l b hb,bnd_s,bnd_s,iHeadRoot_l,sHeadRoot_l,bnd_s]
 refine ⟨[t,comRoot a,comRoot b,headRoot h],rfl,fun y hy=>?_,rfl,rfl⟩
 simp only[List.mem_cons,List.not_mem_nil,or_false] at hy
 rcases hy with rfl|rfl|rfl|rfl
 ·exact t0
 ·exact comRoot_size a
 ·exact comRoot_size b
 ·exact headRoot_size h
theorem iPerC_l (n:Int) (h0:0≤n) (h1:n≤10000):iPeriodOf_d (n,())=some ((n/8,()),()):=by
 rw[iPeriodOf_b,show nz 8=true from rfl,cnd_t,show imax n 0=n by unfold imax;omega,iquo_64 h0 (by omega) (by omega)]
theorem sPerC_l (n:Int) (h0:0≤n) (h1:n≤10000):sPeriodOf_d (n,())=some ((n/8,()),()):=by
 rw[sPeriodOf_b,ilt_f h0,cnd_f,show nz 8=true from rfl,cnd_t,iquo_64 h0 (by omega) (by omega)]
theorem slot_k (k:Nat) (h:k≤6):iadd .i64 (imul .i64 4 (k:Int)) 1=4*(k:Int)+1:=by rw[imul_64 (by omega) (by omega),iadd_64 (by omega) (by omega)]
structure ChOk (c:tChain):Prop where
 fine:Fine TChain c
 nonce:NonceOk c.2.1
theorem ChOk.stores {c:tChain} (h:ChOk c) (k:Int):Stores (c.2.1.map (bump k)):=by
 have:=accounts_fine (k:=k) h.fine.2.1
 exact ⟨Nat.le_trans this.1 (by decide),fun a ha=>Nat.le_trans (this.2 a ha).2.2.2.1.1 (by decide)⟩
theorem ChOk.stores0 {c:tChain} (h:ChOk c):Stores c.2.1:=⟨Nat.le_trans h.fine.2.1.1 (by decide),fun a ha=>Nat.le_trans (h.fine.2.1.2 a ha).2.2.2.1.1 (by decide)⟩
theorem leavesOf_both (c:tChain) (hc:ChOk c) (k:Nat) (hk:k≤6) (h:tHead): ∃r:List ByteArray,r.length=4∧(∀y∈r,y.size≤32)∧iLeavesOf_d (c,((k:Int),(h,())))=some ((r,()),())∧sL25Leaves_d (c,((k:Int),(h,())))=some ((r,()),()):=by
 have hB:(8:Nat)≤16777216:=by decide
 obtain ⟨r,r0,r1,r2,r3⟩:=leaves_both (c.2.1.map (bump (k:Int))) (hc.stores _) (committeeOf (seedOf c.1 ((4*(k:Int)+1)/8))) (committeeOf (seedOf c.1 (iadd .i64 ((4*(k:Int)+1)/8) 1))) (committeeOf_fine hB _) (committeeOf_fine hB _) h
 refine ⟨r,r0,r1,?_,?_⟩
 ·rw[iLeavesOf_b,slot_k k hk,iPerC_l _ (by omega) (by omega),bnd_s]
  simp only[]
  rw[iChainAccounts_l c k hc.fine hc.nonce (by omega),bnd_s]
  simp only[]
  rw[iChainCommittee_l,bnd_s,iChainCommittee_l,bnd_s]
  simp only[]
  rw[r2,bnd_s]
 ·rw[sL25Leaves_b,slot_k k hk,sPerC_l _ (by omega) (by omega),bnd_s]
  simp only[]
  rw[sChainAccounts_l c k hc.fine hc.nonce (by omega) (by omega),bnd_s]
  simp only[]
  rw[sChainCommittee_l,bnd_s,sChainCommittee_l,bnd_s]
  simp only[]
  rw[r3,bnd_s]
def startH:tHead:=(0,(digestV (bs []),(digestV (bs []),(digestV (bs []),()))))
theorem iFirst_l:iFirstHead_d ()=some ((startH,()),()):=by rw[iFirstHead_b,iDigest_l _ (by decide),bnd_s];rfl
theorem sStart_l:sL25Start_d ()=some ((startH,()),()):=by rw[sL25Start_b,sDigest_l _ (by decide),bnd_s];rfl
theorem start_fine:Fine THead startH:=by
 have:(digestV (bs [])).size≤16777216:=by rw[digestV_size];decide
 exact ⟨trivial,this,this,this,trivial⟩
theorem heads_loop (c:tChain) (hc:ChOk c) (K:Nat) (hK:K≤6): ∀ (m i:Nat) (hs:List tHead) (b:tHead),i+m=K+1→hs.length=i→(∀h∈hs,Fine THead h)→Fine THead b→rd zHead (startH::hs) (i:Int)=b→
 ∃r:List tHead,r.length=K+1∧(∀h∈r,Fine THead h)∧iHeadsOf_D4 (hs,(((K+1:Nat):Int),((i:Int),(c,(b,())))))=some ((r,()),())∧sL25Heads_D3 ((K:Int),(startH::hs,((i:Int),(c,()))))=some ((startH::r,()),()):=by
 intro m
 induction m with
 |zero=>
  intro i hs b hi hl hf hb hr
  refine ⟨hs,by omega,hf,?_,?_⟩
  ·rw[iHeadsOf_q4,ilt_f (by omega),cnd_f]
  ·rw[sL25Heads_q3,ile_d,decide_eq_false (by omega),cnd_f]
 |succ m ih=>
  intro i hs b hi hl hf hb hr
  obtain ⟨ls,l0,l1,l2,l3⟩:=leavesOf_both c hc i (by omega) b
  have hd:=itoaB_size (i:Int) (by omega) (by omega)
  have hroot:=rootV_size ls
  have hls: ∀y∈ls,y.size≤268435456:=fun y hy=>Nat.le_trans (l1 y hy) (by decide)
  have key: ∀p:ByteArray,p.size≤32→ ∃r:List tHead,r.length=K+1∧(∀h∈r,Fine THead h)∧
   iHeadsOf_D9 (hs,((i:Int),(((K+1:Nat):Int),((i:Int),(c,(b,((4*(i:Int)+1,(p,(bs [],(digestV (itoaB (i:Int)),())))),())))))))=some ((r,()),())∧
   sL25Heads_D9 ((K:Int),(startH::hs,((i:Int),(c,(b,((4*(i:Int)+1,(p,(bs [],(digestV (itoaB (i:Int)),())))),()))))))=some ((startH::r,()),()):=by
   intro p hp
   have hdg:(digestV (itoaB (i:Int))).size≤16777216:=by rw[digestV_size];decide
   have hfn:Fine THead (4*(i:Int)+1,(p,(rootV ls,(digestV (itoaB (i:Int)),())))):=⟨trivial,Nat.le_trans hp (by decide),Nat.le_trans hroot (by decide),hdg,trivial⟩
   obtain ⟨r,r0,rf,r1,r2⟩:=ih (i+1) (hs++[(4*(i:Int)+1,(p,(rootV ls,(digestV (itoaB (i:Int)),()))))]) (4*(i:Int)+1,(p,(rootV ls,(digestV (itoaB (i:Int)),())))) (by omega) (by simp;omega) (fun h hh=>by
    rcases List.mem_append.1 hh with hh|hh
    ·exact hf h hh
    ·rw[List.mem_singleton] at hh;subst hh;exact hfn) hfn (by
    have hx:i+1<(startH::(hs++[(4*(i:Int)+1,(p,(rootV ls,(digestV (itoaB (i:Int)),()))))])).length:=by simp;omega
    rw[rd_at hx]
    simp [hl.symm])
   refine ⟨r,r0,rf,?_,?_⟩
   ·rw[iHeadsOf_q9,l2,bnd_s]
    simp only[]
    rw[iRootOf_l ls hls (by omega),bnd_s,app_fits (by decide) (by simp;omega),cnd_t,next_at (by omega)]
    exact r1
   ·rw[sL25Heads_q9,l3,bnd_s]
    simp only[]
    rw[sRootOf_l ls hls (by omega),bnd_s,app_fits (by decide) (by simp;omega),cnd_t,next_at (by omega)]
    exact r2
  have hin:inb (i:Int) (len (startH::hs))=true:=inb_at (by simp;omega)
  by_cases h0:i=0
  ·obtain ⟨r,r0,rf,r1,r2⟩:=key (digestV (bs [])) (Nat.le_of_eq (digestV_size _))
   refine ⟨r,r0,rf,?_,?_⟩
   ·rw[iHeadsOf_q4,ilt_t (by omega),cnd_t,iDigest_l _ (by decide),bnd_s,iDecimal_l _ (by omega) (by omega),bnd_s]
    simp only[]
    rw[iDigest_l _ (by omega),bnd_s,igt_f (by omega),cnd_f,slot_k i (by omega)]
    exact r1
   ·rw[sL25Heads_q3,ile_d,decide_eq_true (by omega),cnd_t,hin,cnd_t,sDigest_l _ (by decide),bnd_s,sDecimal_l _ (by omega) (by omega),bnd_s]
    simp only[]
    rw[sDigest_l _ (by omega),bnd_s,igt_f (by omega),cnd_f,slot_k i (by omega),hr]
    exact r2
  ·obtain ⟨r,r0,rf,r1,r2⟩:=key (headRoot b) (headRoot_size b)
   refine ⟨r,r0,rf,?_,?_⟩
   ·rw[iHeadsOf_q4,ilt_t (by omega),cnd_t,iDigest_l _ (by decide),bnd_s,iDecimal_l _ (by omega) (by omega),bnd_s]
    simp only[]
    rw[iDigest_l _ (by omega),bnd_s,igt_t (by omega),cnd_t,iHeadRoot_l,bnd_s,slot_k i (by omega)]
    exact r1
   ·rw[sL25Heads_q3,ile_d,decide_eq_true (by omega),cnd_t,hin,cnd_t,sDigest_l _ (by decide),bnd_s,sDecimal_l _ (by omega) (by omega),bnd_s]
    simp only[]
    rw[sDigest_l _ (by omega),bnd_s,igt_t (by omega),cnd_t,hr,sHeadRoot_l,bnd_s,slot_k i (by omega)]
    exact r2
theorem heads_both (c:tChain) (hc:ChOk c) (K:Nat) (hK:K≤6): ∃r:List tHead,r.length=K+1∧(∀h∈r,Fine THead h)∧iHeadsOf_d (c,((K:Int),()))=some ((r,()),())∧sL25Heads_d (c,((K:Int),()))=some ((startH::r,()),()):=by
 obtain ⟨r,r0,rf,r1,r2⟩:=heads_loop c hc K hK (K+1) 0 [] startH (by omega) rfl (fun h hh=>by cases hh) start_fine rfl
 refine ⟨r,r0,rf,?_,?_⟩
 ·rw[iHeadsOf_b,iFirst_l,bnd_s,next_at (by omega)]
  exact r1
 ·rw[sL25Heads_b,sStart_l,bnd_s]
  exact r2
end Go.Proofs.YtoeiajpklkijgaaGreatDoor
