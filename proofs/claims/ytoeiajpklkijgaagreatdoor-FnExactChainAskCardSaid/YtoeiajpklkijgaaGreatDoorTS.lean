/- Branches of a tree of a state, what is asked of a chain. Of no condition. -/
import Derived.Test.YtoeiajpklkijgaaGreatDoorTQ
set_option linter.unusedVariables false
set_option linter.unusedSimpArgs false
set_option maxRecDepth 100000
namespace Go.Proofs.YtoeiajpklkijgaaGreatDoor
open Go.TV
def branchV (b c d:ByteArray):List ByteArray:=[digestV b,digestV (scat (digestV c) (digestV d))]
theorem four_hashes (a b c d:ByteArray):hashes [a,b,c,d]=[digestV a,digestV b,digestV c,digestV d]:=rfl
theorem four_up (a b c d:ByteArray):upV [a,b,c,d]=[digestV (scat a b),digestV (scat c d)]:=rfl
theorem two_up (a b:ByteArray):upV [a,b]=[digestV (scat a b)]:=rfl
theorem iBranch_l (a b c d:ByteArray) (h: ∀y∈[a,b,c,d],y.size≤268435456):iBranchOf_d ([a,b,c,d],(0,()))=some ((branchV b c d,()),()):=by
 rw[iBranchOf_b,show igt (len [a,b,c,d]) 32=false from rfl,cnd_f,show ilt 0 0=false from rfl,cnd_f,show ige 0 (len [a,b,c,d])=false from rfl,cnd_f,iTree_l _ (by simp) h,bnd_s]
 simp only[]
 unfold branchV
 rw[show lev [a,b,c,d].length=2 from rfl,four_hashes,show levs 2 [digestV a,digestV b,digestV c,digestV d]=[upV [digestV a,digestV b,digestV c,digestV d],upV (upV [digestV a,digestV b,digestV c,digestV d])] from rfl,four_up,two_up]
 generalize digestV a=A
 generalize digestV b=B
 generalize digestV c=C
 generalize digestV d=D
 generalize digestV (scat A B)=E
 generalize digestV (scat C D)=F
 generalize digestV (scat E F)=G
 rw[show inb2 0 (isub .i64 (len [[A,B,C,D],[E,F],[G]]) 1) (len [[A,B,C,D],[E,F],[G]])=true from rfl,cnd_t,show sub [[A,B,C,D],[E,F],[G]] 0 (isub .i64 (len [[A,B,C,D],[E,F],[G]]) 1)=[[A,B,C,D],[E,F]] from rfl]
 rw[iBranchOf_q6,show ilt 0 (len [[A,B,C,D],[E,F]])=true from rfl,cnd_t,show inb 0 (len [[A,B,C,D],[E,F]])=true from rfl,cnd_t,show rd ([]:List ByteArray) [[A,B,C,D],[E,F]] 0=[A,B,C,D] from rfl,show ixor .i64 0 1=1 from rfl,show inb 1 (len [A,B,C,D])=true from rfl,cnd_t,show rd (bs []) [A,B,C,D] 1=B from rfl,app_fits (by decide) (by simp),cnd_t,show nz 2=true from rfl,cnd_t,show iquo .i64 0 2=0 from rfl,show iadd .i64 0 1=1 from rfl,show app ([]:List ByteArray) [B]=[B] from rfl]
 rw[iBranchOf_q6,show ilt 1 (len [[A,B,C,D],[E,F]])=true from rfl,cnd_t,show inb 1 (len [[A,B,C,D],[E,F]])=true from rfl,cnd_t,show rd ([]:List ByteArray) [[A,B,C,D],[E,F]] 1=[E,F] from rfl,show ixor .i64 0 1=1 from rfl,show inb 1 (len [E,F])=true from rfl,cnd_t,show rd (bs []) [E,F] 1=F from rfl,app_fits (by decide) (by simp),cnd_t,show nz 2=true from rfl,cnd_t,show iquo .i64 0 2=0 from rfl,show iadd .i64 1 1=2 from rfl,show app [B] [F]=[B,F] from rfl]
 rw[iBranchOf_q6,show ilt 2 (len [[A,B,C,D],[E,F]])=false from rfl,cnd_f]
theorem sBranch_l (a b c d:ByteArray) (h: ∀y∈[a,b,c,d],y.size≤268435456):sBranchOf_d ([a,b,c,d],(0,()))=some ((branchV b c d,()),()):=by
 have za:=digestV_size a
 have zb:=digestV_size b
 have zc:=digestV_size c
 have zd:=digestV_size d
 rw[sBranchOf_b,show igt (len [a,b,c,d]) 32=false from rfl,cnd_f,sIn_l,bnd_s]
 simp only[]
 rw[show bnot (decide ((0:Int)≤0∧(0:Int)≤isub .i64 (len [a,b,c,d]) 1))=false from rfl,cnd_f,sHashes_l _ (by simp) h,bnd_s]
 simp only[]
 rw[four_hashes]
 unfold branchV
 generalize digestV a=A at za⊢
 generalize digestV b=B at zb⊢
 generalize digestV c=C at zc⊢
 generalize digestV d=D at zd⊢
 have hs: ∀y∈[A,B,C,D],y.size≤1048576:=fun y hy=>by
  simp only[List.mem_cons,List.not_mem_nil,or_false] at hy
  rcases hy with rfl|rfl|rfl|rfl<;>omega
 have zE:=digestV_size (scat A B)
 have zF:=digestV_size (scat C D)
 have e1:=sUp_l [A,B,C,D] 2 rfl (by simp) hs
 rw[four_up] at e1
 generalize digestV (scat A B)=E at zE e1
 generalize digestV (scat C D)=F at zF e1⊢
 have hs2: ∀y∈[E,F],y.size≤1048576:=fun y hy=>by
  simp only[List.mem_cons,List.not_mem_nil,or_false] at hy
  rcases hy with rfl|rfl<;>omega
 have e2:=sUp_l [E,F] 1 rfl (by simp) hs2
 rw[two_up] at e2
 rw[sBranchOf_q5,show igt (len [A,B,C,D]) 1=true from rfl,cnd_t,show ixor .i64 0 1=1 from rfl,show inb 1 (len [A,B,C,D])=true from rfl,cnd_t,show rd (bs []) [A,B,C,D] 1=B from rfl,app_fits (by decide) (by simp),cnd_t,e1,bnd_s,show nz 2=true from rfl,cnd_t,show iquo .i64 0 2=0 from rfl,show app ([]:List ByteArray) [B]=[B] from rfl]
 rw[sBranchOf_q5,show igt (len [E,F]) 1=true from rfl,cnd_t,show ixor .i64 0 1=1 from rfl,show inb 1 (len [E,F])=true from rfl,cnd_t,show rd (bs []) [E,F] 1=F from rfl,app_fits (by decide) (by simp),cnd_t,e2,bnd_s,show nz 2=true from rfl,cnd_t,show iquo .i64 0 2=0 from rfl,show app [B] [F]=[B,F] from rfl]
 rw[sBranchOf_q5,show igt (len [digestV (scat E F)]) 1=false from rfl,cnd_f]
theorem branch_four {r:List ByteArray} (h0:r.length=4) (h: ∀y∈r,y.size≤32): ∃t:List ByteArray,t.length=2∧(∀y∈t,y.size=32)∧iBranchOf_d (r,(0,()))=some ((t,()),())∧sBranchOf_d (r,(0,()))=some ((t,()),()):=by
 obtain ⟨a,b,c,d,rfl⟩: ∃a b c d,r=[a,b,c,d]:=by
  match r,h0 with
  | [a,b,c,d],_=>exact ⟨a,b,c,d,rfl⟩
 have h': ∀y∈[a,b,c,d],y.size≤268435456:=fun y hy=>Nat.le_trans (h y hy) (by decide)
 refine ⟨branchV b c d,rfl,fun y hy=>?_,iBranch_l a b c d h',sBranch_l a b c d h'⟩
 unfold branchV at hy
 simp only[List.mem_cons,List.not_mem_nil,or_false] at hy
 rcases hy with rfl|rfl<;>exact digestV_size _
def storeV (l:List tAccount) (k:ByteArray):List tPair×Bool:=match l.find? (fun a=>decide (a.1=k)) with
 |some a=>(a.2.2.2.1,true)
 |none=>([],false)
theorem store_cons (a:tAccount) (l:List tAccount) (k:ByteArray):storeV (a::l) k=if a.1=k then (a.2.2.2.1,true) else storeV l k:=by
 unfold storeV
 rw[List.find?_cons]
 by_cases h:a.1=k
 ·rw[decide_eq_true h,if_pos h]
 ·rw[decide_eq_false h,if_neg h]
theorem store_mem {l:List tAccount} {k:ByteArray} {s:List tPair} (h:storeV l k=(s,true)): ∃a∈l,a.1=k∧a.2.2.2.1=s:=by
 induction l with
 |nil=>cases h
 |cons a l ih=>
  rw[store_cons] at h
  by_cases hk:a.1=k
  ·rw[if_pos hk] at h
   exact ⟨a,by simp,hk,congrArg Prod.fst h⟩
  ·rw[if_neg hk] at h
   obtain ⟨b,hb,h2⟩:=ih h
   exact ⟨b,by simp [hb],h2⟩
theorem iStoreOf_loop (l:List tAccount) (hl:l.length≤1000000000) (k:ByteArray): ∀ (m i:Nat),i+m=l.length→iStoreOf_D2 (k,(l,(len l,((i:Int),()))))=some (((storeV (l.drop i) k).1,((storeV (l.drop i) k).2,())),()):=by
 intro m
 induction m with
 |zero=>
  intro i hi
  rw[iStoreOf_q2,show (i:Int)=(l.length:Int) by omega,ilt_end,cnd_f,List.drop_eq_nil_of_le (by omega)]
  rfl
 |succ m ih=>
  intro i hi
  have h1:i<l.length:=by omega
  rw[iStoreOf_q2,ilt_at h1,cnd_t,inb_at h1,cnd_t,rd_at h1,seq_d,List.drop_eq_getElem_cons h1,store_cons]
  by_cases h:l[i].1=k
  ·rw[decide_eq_true h,cnd_t,if_pos h]
  ·rw[decide_eq_false h,cnd_f,if_neg h,next_at (by omega),ih (i+1) (by omega)]
theorem iStoreOf_l (l:List tAccount) (hl:l.length≤1000000000) (k:ByteArray):iStoreOf_d (l,(k,()))=some (((storeV l k).1,((storeV l k).2,())),()):=by
 rw[iStoreOf_b]
 exact iStoreOf_loop l hl k l.length 0 (by omega)
noncomputable def slotsV (l:List tAccount) (k s:ByteArray):List ByteArray:=if (storeV l k).2=true then provedV (storeV l k).1 s else []
theorem sAsk_loop (l:List tAccount) (hs:Stores l) (k s:ByteArray) (z:tAsk) (A B C:ByteArray) (D E:List ByteArray): ∀ (m i:Nat),i+m=l.length→sMakeAsk_D4 (l,(k,(s,((i:Int),(z,((A,(B,(C,(D,(E,(([]:List ByteArray),())))))),()))))))=some (((A,(B,(C,(D,(E,(slotsV (l.drop i) k s,())))))),()),()):=by
 intro m
 induction m with
 |zero=>
  intro i hi
  rw[sMakeAsk_q4,show (i:Int)=(l.length:Int) by omega,ilt_end,cnd_f,List.drop_eq_nil_of_le (by omega)]
  rfl
 |succ m ih=>
  intro i hi
  have h1:i<l.length:=by omega
  have hl:=hs.1
  rw[sMakeAsk_q4,ilt_at h1,cnd_t,inb_at h1,cnd_t,rd_at h1,seq_d,List.drop_eq_getElem_cons h1]
  unfold slotsV
  rw[store_cons]
  by_cases h:l[i].1=k
  ·rw[decide_eq_true h,cnd_t,cnd_t,sProveT_l _ _ (hs.2 _ (List.getElem_mem h1)),bnd_s,if_pos h,if_pos rfl]
  ·rw[decide_eq_false h,cnd_f,if_neg h,next_at (by omega)]
   exact ih (i+1) (by omega)
theorem provedV_sizes (l:List tPair) (k:ByteArray): ∀t∈provedV l k,t.size≤900:=by
 intro t ht
 have own: ∀f n l,t∈ownV f n l→t.size≤900:=fun f n l ht=>by
  have:=itemR_size (trieV f n l)
  unfold ownV at ht
  split at ht
  ·rw[List.mem_singleton.1 ht];exact this
  ·cases ht
 have go: ∀ (f n:Nat) (l:List tPair) (h:List Int),t∈proveR f n l h→t.size≤900:=by
  intro f
  induction f with
  |zero=>intro n l h ht;simp [proveR] at ht
  |succ f ih=>
   intro n l h ht
   match l with
   | []=>simp [proveR] at ht
   | [p]=>simp [proveR] at ht
   |p::q::r=>
    unfold proveR at ht
    split at ht
    ·rcases List.mem_append.1 ht with ht|ht
     ·exact own _ _ _ ht
     ·exact ih _ _ _ ht
    ·split at ht
     ·cases ht
     ·rcases List.mem_append.1 ht with ht|ht
      ·exact own _ _ _ ht
      ·exact ih _ _ _ ht
 unfold provedV at ht
 split at ht
 ·rcases List.mem_cons.1 ht with rfl|ht
  ·exact itemR_size _
  ·exact go _ _ _ _ ht
 ·cases ht
theorem ask_both (l:List tAccount) (hs:Stores l) (a b:tCommittee) (ha:Fine TCommittee a) (hb:Fine TCommittee b) (h:tHead) (k s:ByteArray) (hk:k.size≤16777216) (hss:s.size≤16777216):
 ∃r:tAsk,Fine TAsk r∧iMakeAsk_d (l,(a,(b,(h,(k,(s,()))))))=some ((r,()),())∧sMakeAsk_d (l,(a,(b,(h,(k,(s,()))))))=some ((r,()),()):=by
 obtain ⟨t,t0,t1,t2⟩:=state_both l hs
 obtain ⟨ro,r0,r1,r2⟩:=root_both t t0
 obtain ⟨lv,v0,v1,v2,v3⟩:=leaves_both l hs a b ha hb h
 obtain ⟨br,b0,b1,b2,b3⟩:=branch_four v0 v1
 have sizes: ∀ (l:List tPair) (k:ByteArray),Fine (.sl .str) (provedV l k):=fun l k=>⟨by have:=provedV_len l k;show (provedV l k).length≤16777216;omega,fun y hy=>by have:=provedV_sizes l k y hy;show y.size≤16777216;omega⟩
 refine ⟨(k,(s,(ro,(br,(provedV t k,(slotsV l k s,())))))),⟨hk,hss,Nat.le_trans r0 (by decide),⟨by show br.length≤16777216;omega,fun y hy=>by have:=b1 y hy;show y.size≤16777216;omega⟩,sizes _ _,?_,trivial⟩,?_,?_⟩
 ·unfold slotsV
  split
  ·exact sizes _ _
  ·exact ⟨Nat.zero_le _,fun y hy=>by cases hy⟩
 ·rw[iMakeAsk_b,t1,bnd_s]
  simp only[]
  rw[r1,bnd_s,v2,bnd_s]
  simp only[]
  rw[b2,bnd_s,bnd_s]
  simp only[]
  rw[iProveT_l,bnd_s,iStoreOf_l l hs.1,bnd_s]
  simp only[]
  unfold slotsV
  cases he:(storeV l k).2 with
  |true=>rw[cnd_t,iProveT_l,bnd_s,if_pos rfl]
  |false=>rw[cnd_f,if_neg (by decide)]
 ·rw[sMakeAsk_b,t2,bnd_s]
  simp only[]
  rw[r2,bnd_s,v3,bnd_s]
  simp only[]
  rw[b3,bnd_s]
  simp only[]
  rw[sProveT_l _ _ t0,bnd_s]
  have:=sAsk_loop l hs k s zAsk k s ro br (provedV t k) l.length 0 (by omega)
  rw[show ((0:Nat):Int)=0 from rfl,List.drop_zero] at this
  exact this
theorem heads_step (c:tChain) (hc:ChOk c) (i:Nat) (hi6:i≤6) (hs:List tHead) (hl:hs.length=i): ∃x:tHead,∀K:Nat,i≤K→K≤6→sL25Heads_D3 ((K:Int),(startH::hs,((i:Int),(c,()))))=sL25Heads_D3 ((K:Int),(startH::(hs++[x]),(((i+1:Nat):Int),(c,())))):=by
 have hd:=itoaB_size (i:Int) (by omega) (by omega)
 have hin:inb (i:Int) (len (startH::hs))=true:=inb_at (by simp;omega)
 generalize hr:rd zHead (startH::hs) (i:Int)=b
 obtain ⟨ls,l0,l1,l2,l3⟩:=leavesOf_both c hc i (by omega) b
 have hls: ∀y∈ls,y.size≤268435456:=fun y hy=>Nat.le_trans (l1 y hy) (by decide)
 have key: ∀ (p:ByteArray) (K:Nat),sL25Heads_D9 ((K:Int),(startH::hs,((i:Int),(c,(b,((4*(i:Int)+1,(p,(bs [],(digestV (itoaB (i:Int)),())))),()))))))=sL25Heads_D3 ((K:Int),(startH::(hs++[(4*(i:Int)+1,(p,(rootV ls,(digestV (itoaB (i:Int)),()))))]),(((i+1:Nat):Int),(c,())))):=by
  intro p K
  rw[sL25Heads_q9,l3,bnd_s]
  simp only[]
  rw[sRootOf_l ls hls (by omega),bnd_s,app_fits (by decide) (by simp;omega),cnd_t,next_at (by omega)]
  rfl
 by_cases h0:i=0
 ·refine ⟨(4*(i:Int)+1,(digestV (bs []),(rootV ls,(digestV (itoaB (i:Int)),())))),fun K h1 h2=>?_⟩
  rw[sL25Heads_q3,ile_d,decide_eq_true (by omega),cnd_t,hin,cnd_t,sDigest_l _ (by decide),bnd_s,sDecimal_l _ (by omega) (by omega),bnd_s]
  simp only[]
  rw[sDigest_l _ (by omega),bnd_s,igt_f (by omega),cnd_f,slot_k i (by omega),hr]
  exact key (digestV (bs [])) K
 ·refine ⟨(4*(i:Int)+1,(headRoot b,(rootV ls,(digestV (itoaB (i:Int)),())))),fun K h1 h2=>?_⟩
  rw[sL25Heads_q3,ile_d,decide_eq_true (by omega),cnd_t,hin,cnd_t,sDigest_l _ (by decide),bnd_s,sDecimal_l _ (by omega) (by omega),bnd_s]
  simp only[]
  rw[sDigest_l _ (by omega),bnd_s,igt_t (by omega),cnd_t,hr,sHeadRoot_l,bnd_s,slot_k i (by omega)]
  exact key (headRoot b) K
theorem heads_all (c:tChain) (hc:ChOk c): ∀m:Nat,m≤7→ ∃R:List tHead,R.length=m∧ ∀K:Nat,m≤K+1→K≤6→sL25Heads_D3 ((K:Int),([startH],((0:Int),(c,()))))=sL25Heads_D3 ((K:Int),(startH::R,((m:Int),(c,())))):=by
 intro m
 induction m with
 |zero=>intro _;exact ⟨[],rfl,fun K _ _=>rfl⟩
 |succ m ih=>
  intro hm
  obtain ⟨R,hR,h⟩:=ih (by omega)
  obtain ⟨x,hx⟩:=heads_step c hc m (by omega) R hR
  exact ⟨R++[x],by simp [hR],fun K h1 h2=>(h K (by omega) h2).trans (hx K (by omega) h2)⟩
theorem heads_end (c:tChain) (K:Nat) (R:List tHead):sL25Heads_D3 ((K:Int),(startH::R,(((K+1:Nat):Int),(c,()))))=some ((startH::R,()),()):=by
 rw[sL25Heads_q3,ile_d,decide_eq_false (by omega),cnd_f]
theorem heads_two (c:tChain) (hc:ChOk c) (J:Nat) (hJ:J+1≤6): ∃ (R:List tHead) (x:tHead),R.length=J+1∧sL25Heads_d (c,((J:Int),()))=some ((startH::R,()),())∧sL25Heads_d (c,(((J+1:Nat):Int),()))=some ((startH::(R++[x]),()),()):=by
 obtain ⟨R,hR,h⟩:=heads_all c hc (J+1) (by omega)
 obtain ⟨x,hx⟩:=heads_step c hc (J+1) (by omega) R hR
 refine ⟨R,x,hR,?_,?_⟩
 ·rw[sL25Heads_b,sStart_l,bnd_s]
  exact (h J (by omega) (by omega)).trans (heads_end c J R)
 ·rw[sL25Heads_b,sStart_l,bnd_s]
  exact ((h (J+1) (by omega) (by omega)).trans (hx (J+1) (by omega) (by omega))).trans (heads_end c (J+1) (R++[x]))
theorem zAsk_fine:Fine TAsk zAsk:=⟨Nat.zero_le _,Nat.zero_le _,Nat.zero_le _,⟨Nat.zero_le _,fun x hx=>by cases hx⟩,⟨Nat.zero_le _,fun x hx=>by cases hx⟩,⟨Nat.zero_le _,fun x hx=>by cases hx⟩,trivial⟩
theorem link_l (k:Int):iIsLink_d (k,())=some ((decide (0≤k∧k≤6),()),()):=by
 rw[iIsLink_b,ige_d,ile_d]
 by_cases h1:0≤k
 ·rw[decide_eq_true h1,cnd_t];simp [h1]
 ·rw[decide_eq_false h1,cnd_f];simp [h1]
theorem chainask_both (c:tChain) (hc:ChOk c) (k:Int) (n s:ByteArray) (hn:n.size≤16777216) (hss:s.size≤16777216):
 ∃r:tAsk,Fine TAsk r∧iChainAsk_d (c,(k,(n,(s,()))))=some ((r,()),())∧sChainAsk_d (c,(k,(n,(s,()))))=some ((r,()),()):=by
 have hB:(8:Nat)≤16777216:=by decide
 rw[iChainAsk_b,sChainAsk_b,sChainOk_l c hc.stores0,bnd_s,link_l,bnd_s]
 simp only[]
 by_cases h1:0≤k∧k≤6
 ·rw[decide_eq_true h1,show bnot true=false from rfl,cnd_f,iChainOk_l,bnd_s]
  simp only[]
  cases hco:decide (0≤c.1∧c.1≤99)&&accV c.2.1 with
  |false=>simp only[bnot,Bool.not_false,cnd_t];exact ⟨zAsk,zAsk_fine,rfl,rfl⟩
  |true=>
   simp only[bnot,Bool.not_true,cnd_f]
   obtain ⟨K,rfl⟩:=Int.eq_ofNat_of_zero_le h1.1
   obtain ⟨r,r0,rf,r1,r2⟩:=heads_both c hc K (by omega)
   have hin:inb (K:Int) (len (startH::r))=true:=inb_at (by simp;omega)
   have hx: ∃h:tHead,rd zHead (startH::r) (K:Int)=h∧(∀z,Go.TV.cnd (igt (K:Int) 0) (Go.TV.bnd (iChainHead_d (c,(isub .i64 (K:Int) 1,()))) (fun r7=>(iChainAsk_D6 ((K:Int),(n,(s,(c,(z,(r7.1.1,()))))))))) (iChainAsk_D6 ((K:Int),(n,(s,(c,(z,(startH,())))))))=iChainAsk_D6 ((K:Int),(n,(s,(c,(z,(h,()))))))):=by
    by_cases h0:K=0
    ·subst h0
     exact ⟨startH,rfl,fun z=>by rw[igt_f (by omega),cnd_f]⟩
    ·obtain ⟨J,rfl⟩: ∃J,K=J+1:=⟨K-1,by omega⟩
     obtain ⟨R,x,hR,q1,q2⟩:=heads_two c hc J (by omega)
     obtain ⟨R',_,_,p1,p2⟩:=heads_both c hc J (by omega)
     have out: ∀ {a b:List tHead},(some ((startH::a,()),()):Option ((List tHead×Unit)×Unit))=some ((startH::b,()),())→a=b:=fun h=>by simpa using h
     obtain rfl:R'=R:=out (p2.symm.trans q1)
     obtain rfl:r=R'++[x]:=out (r2.symm.trans q2)
     have hJ:J<R'.length:=by omega
     have hz:J+1<(startH::(R'++[x])).length:=by simp;omega
     refine ⟨R'[J],?_,fun z=>?_⟩
     ·rw[rd_at hz]
      simp only[List.getElem_cons_succ]
      rw[List.getElem_append_left hJ]
     ·rw[igt_t (by omega),cnd_t,isub_64 (by omega) (by omega),show ((J+1:Nat):Int)-1=(J:Int) by omega,iChainHead_b,link_l,bnd_s]
      simp only[]
      rw[decide_eq_true (⟨by omega,by omega⟩:(0:Int)≤(J:Int)∧(J:Int)≤6),show bnot true=false from rfl,cnd_f,iChainOk_l,bnd_s,hco]
      simp only[]
      rw[show bnot true=false from rfl,cnd_f,p1,bnd_s,inb_at hJ,cnd_t,rd_at hJ,bnd_s]
   obtain ⟨h,hh,hD⟩:=hx
   rw[iFirst_l,bnd_s]
   simp only[]
   rw[hD,iChainAsk_q6,slot_k K (by omega),iPerC_l _ (by omega) (by omega),bnd_s]
   simp only[]
   rw[iChainCommittee_l,bnd_s,iChainCommittee_l,bnd_s,iChainAccounts_l c K hc.fine hc.nonce (by omega),bnd_s]
   simp only[]
   rw[sIn_l,bnd_s]
   simp only[]
   rw[decide_eq_true h1,Bool.not_true,cnd_f,sPerC_l _ (by omega) (by omega),bnd_s]
   simp only[]
   rw[sChainAccounts_l c K hc.fine hc.nonce (by omega) (by omega),bnd_s,sChainCommittee_l,bnd_s,sChainCommittee_l,bnd_s,r2,bnd_s]
   simp only[]
   rw[hin,cnd_t,hh]
   obtain ⟨a,a0,a1,a2⟩:=ask_both (c.2.1.map (bump (K:Int))) (hc.stores _) (committeeOf (seedOf c.1 ((4*(K:Int)+1)/8))) (committeeOf (seedOf c.1 (iadd .i64 ((4*(K:Int)+1)/8) 1))) (committeeOf_fine hB _) (committeeOf_fine hB _) h n s hn hss
   exact ⟨a,a0,by rw[a1,bnd_s],by rw[a2,bnd_s]⟩
 ·rw[decide_eq_false h1,show bnot false=true from rfl,cnd_t]
  cases decide (0≤c.1∧c.1≤99)&&accV c.2.1 with
  |false=>simp only[bnot,Bool.not_false,cnd_t];exact ⟨zAsk,zAsk_fine,rfl,rfl⟩
  |true=>
   simp only[bnot,Bool.not_true,cnd_f]
   rw[sIn_l,bnd_s]
   simp only[]
   rw[decide_eq_false h1,Bool.not_false,cnd_t]
   exact ⟨zAsk,zAsk_fine,rfl,rfl⟩
theorem chainask_same (c:tChain) (k:Int) (n s:ByteArray) (h:Small TChain c) (hn:n.size≤1048576) (hs:s.size≤1048576) (g:GoodV TChain c): ∃r,sChainAsk_d (c,(k,(n,(s,()))))=some ((r,()),())∧iChainAsk_d (c,(k,(n,(s,()))))=some ((r,()),())∧Fine TAsk r:=by
 obtain ⟨r,h1,h2,h3⟩:=chainask_both c ⟨Bnd.le (by decide) h,nonce_ok g⟩ k n s (by omega) (by omega)
 exact ⟨r,h3,h2,h1⟩
end Go.Proofs.YtoeiajpklkijgaaGreatDoor
