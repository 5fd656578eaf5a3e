/- What a client looks at in an update: branches, counts, proofs, signatures. Of no condition. -/
import Derived.Test.YtkfifjaomgjnnaaGreatDoorUC
set_option linter.unusedVariables false
set_option linter.unusedSimpArgs false
set_option maxRecDepth 100000
namespace Go.Proofs.YtkfifjaomgjnnaaGreatDoor
open Go.TV
theorem tab {β:Type} [DecidableEq β] (f g:Nat→β) (N:Nat) (h:allB' N (fun n=>decide (f n=g n))=true) (n:Nat) (hn:n<N):f n=g n:=of_decide_eq_true (allB'_of _ _ h n hn)
def fold3 (leaf a b:ByteArray):ByteArray:=digestV (scat b (digestV (scat a (digestV leaf))))
def fold2 (leaf a b:ByteArray):ByteArray:=digestV (scat b (digestV (scat (digestV leaf) a)))
theorem len2 {α:Type} (a b:α):len [a,b]=2:=rfl
theorem iFold3 (leaf a b:ByteArray) (hl:leaf.size≤1048576) (ha:a.size=32) (hb:b.size=32):iFoldBranch_d (leaf,(3,([a,b],())))=some ((fold3 leaf a b,()),()):=by
 have h1:=digestV_size leaf
 have h2:=digestV_size (scat a (digestV leaf))
 rw[iFoldBranch_b,len2,show igt 2 5=false from rfl,cnd_f,show ilt 3 0=false from rfl,cnd_f,show nn (iconv .u64 2)=true from rfl,cnd_t,show ige 3 (ishl .i64 1 (iconv .u64 2))=false by decide+kernel,cnd_f,iDigest_l _ (by omega),bnd_s]
 simp only[]
 rw[iFoldBranch_q5,len2,show ilt 0 2=true from rfl,cnd_t,show inb 0 2=true from rfl,cnd_t,show nn (iconv .u64 0)=true from rfl,cnd_t,show ieq (iand .i64 (ishr .i64 3 (iconv .u64 0)) 1) 1=true by decide+kernel,cnd_t,show rd (bs []) [a,b] 0=a from rfl,iDigestPair_l _ _ (by omega) (by omega),bnd_s,show iadd .i64 0 1=1 from rfl]
 simp only[]
 rw[iFoldBranch_q5,len2,show ilt 1 2=true from rfl,cnd_t,show inb 1 2=true from rfl,cnd_t,show nn (iconv .u64 1)=true from rfl,cnd_t,show ieq (iand .i64 (ishr .i64 3 (iconv .u64 1)) 1) 1=true by decide+kernel,cnd_t,show rd (bs []) [a,b] 1=b from rfl,iDigestPair_l _ _ (by omega) (by omega),bnd_s,show iadd .i64 1 1=2 from rfl]
 rw[iFoldBranch_q5,show ilt 2 2=false from rfl,cnd_f]
 rfl
theorem iFold2 (leaf a b:ByteArray) (hl:leaf.size≤1048576) (ha:a.size=32) (hb:b.size=32):iFoldBranch_d (leaf,(2,([a,b],())))=some ((fold2 leaf a b,()),()):=by
 have h1:=digestV_size leaf
 have h2:=digestV_size (scat (digestV leaf) a)
 rw[iFoldBranch_b,len2,show igt 2 5=false from rfl,cnd_f,show ilt 2 0=false from rfl,cnd_f,show nn (iconv .u64 2)=true from rfl,cnd_t,show ige 2 (ishl .i64 1 (iconv .u64 2))=false by decide+kernel,cnd_f,iDigest_l _ (by omega),bnd_s]
 simp only[]
 rw[iFoldBranch_q5,len2,show ilt 0 2=true from rfl,cnd_t,show inb 0 2=true from rfl,cnd_t,show nn (iconv .u64 0)=true from rfl,cnd_t,show ieq (iand .i64 (ishr .i64 2 (iconv .u64 0)) 1) 1=false by decide+kernel,cnd_f,show rd (bs []) [a,b] 0=a from rfl,iDigestPair_l _ _ (by omega) (by omega),bnd_s,show iadd .i64 0 1=1 from rfl]
 simp only[]
 rw[iFoldBranch_q5,len2,show ilt 1 2=true from rfl,cnd_t,show inb 1 2=true from rfl,cnd_t,show nn (iconv .u64 1)=true from rfl,cnd_t,show ieq (iand .i64 (ishr .i64 2 (iconv .u64 1)) 1) 1=true by decide+kernel,cnd_t,show rd (bs []) [a,b] 1=b from rfl,iDigestPair_l _ _ (by omega) (by omega),bnd_s,show iadd .i64 1 1=2 from rfl]
 rw[iFoldBranch_q5,show ilt 2 2=false from rfl,cnd_f]
 rfl
theorem sFold3 (leaf a b:ByteArray) (hl:leaf.size≤1048576) (ha:a.size=32) (hb:b.size=32):sFoldBranch_d (leaf,(3,([a,b],())))=some ((fold3 leaf a b,()),()):=by
 have h1:=digestV_size leaf
 have h2:=digestV_size (scat a (digestV leaf))
 rw[sFoldBranch_b,len2,show igt 2 5=false from rfl,cnd_f,show nn (iconv .u64 2)=true from rfl,cnd_t,sIn_l,bnd_s,show bnot (decide ((0:Int)≤3∧3≤isub .i64 (ishl .i64 1 (iconv .u64 2)) 1))=false by decide+kernel,cnd_f,sDigest_l _ (by omega),bnd_s]
 simp only[]
 rw[sFoldBranch_q5,len2,show ilt 0 2=true from rfl,cnd_t,show nn (iconv .u64 0)=true from rfl,cnd_t,show nz 2=true from rfl,cnd_t,show ieq (irem (ishr .i64 3 (iconv .u64 0)) 2) 1=true by decide+kernel,cnd_t,show inb 0 2=true from rfl,cnd_t,show rd (bs []) [a,b] 0=a from rfl,sDigestPair_l _ _ (by omega) (by omega),bnd_s,show iadd .i64 0 1=1 from rfl]
 simp only[]
 rw[sFoldBranch_q5,len2,show ilt 1 2=true from rfl,cnd_t,show nn (iconv .u64 1)=true from rfl,cnd_t,show nz 2=true from rfl,cnd_t,show ieq (irem (ishr .i64 3 (iconv .u64 1)) 2) 1=true by decide+kernel,cnd_t,show inb 1 2=true from rfl,cnd_t,show rd (bs []) [a,b] 1=b from rfl,sDigestPair_l _ _ (by omega) (by omega),bnd_s,show iadd .i64 1 1=2 from rfl]
 rw[sFoldBranch_q5,len2,show ilt 2 2=false from rfl,cnd_f]
 rfl
theorem sFold2 (leaf a b:ByteArray) (hl:leaf.size≤1048576) (ha:a.size=32) (hb:b.size=32):sFoldBranch_d (leaf,(2,([a,b],())))=some ((fold2 leaf a b,()),()):=by
 have h1:=digestV_size leaf
 have h2:=digestV_size (scat (digestV leaf) a)
 rw[sFoldBranch_b,len2,show igt 2 5=false from rfl,cnd_f,show nn (iconv .u64 2)=true from rfl,cnd_t,sIn_l,bnd_s,show bnot (decide ((0:Int)≤2∧2≤isub .i64 (ishl .i64 1 (iconv .u64 2)) 1))=false by decide+kernel,cnd_f,sDigest_l _ (by omega),bnd_s]
 simp only[]
 rw[sFoldBranch_q5,len2,show ilt 0 2=true from rfl,cnd_t,show nn (iconv .u64 0)=true from rfl,cnd_t,show nz 2=true from rfl,cnd_t,show ieq (irem (ishr .i64 2 (iconv .u64 0)) 2) 1=false by decide+kernel,cnd_f,show inb 0 2=true from rfl,cnd_t,show rd (bs []) [a,b] 0=a from rfl,sDigestPair_l _ _ (by omega) (by omega),bnd_s,show iadd .i64 0 1=1 from rfl]
 simp only[]
 rw[sFoldBranch_q5,len2,show ilt 1 2=true from rfl,cnd_t,show nn (iconv .u64 1)=true from rfl,cnd_t,show nz 2=true from rfl,cnd_t,show ieq (irem (ishr .i64 2 (iconv .u64 1)) 2) 1=true by decide+kernel,cnd_t,show inb 1 2=true from rfl,cnd_t,show rd (bs []) [a,b] 1=b from rfl,sDigestPair_l _ _ (by omega) (by omega),bnd_s,show iadd .i64 1 1=2 from rfl]
 rw[sFoldBranch_q5,len2,show ilt 2 2=false from rfl,cnd_f]
 rfl
def bitV (n i:Nat):Int:=((n/2^i % 2:Nat):Int)
theorem bit_tab:allB' 2048 (fun m=>decide ((nn (iconv .u64 ((m % 8:Nat):Int)),irem (ishr .i64 ((m/8:Nat):Int) (iconv .u64 ((m % 8:Nat):Int))) 2,iand .i64 (ishr .i64 ((m/8:Nat):Int) (iconv .u64 ((m % 8:Nat):Int))) 1)=(true,bitV (m/8) (m % 8),bitV (m/8) (m % 8))))=true:=by kernel_rfl
theorem bit_at {n i:Nat} (hn:n<256) (hi:i<8):nn (iconv .u64 (i:Int))=true∧irem (ishr .i64 (n:Int) (iconv .u64 (i:Int))) 2=bitV n i∧iand .i64 (ishr .i64 (n:Int) (iconv .u64 (i:Int))) 1=bitV n i:=by
 have h:=of_decide_eq_true (allB'_of _ _ bit_tab (n*8+i) (by omega))
 rw[show (n*8+i) % 8=i by omega,show (n*8+i)/8=n by omega] at h
 simp only[Prod.mk.injEq] at h
 exact h
def cntF (n:Nat):Nat→Nat→Int
 |0,_=>0
 |k+1,i=>bitV n i+cntF n k (i+1)
theorem bitV_le (n i:Nat):0≤bitV n i∧bitV n i≤1:=by unfold bitV;omega
theorem cntF_le (n:Nat): ∀k i,0≤cntF n k i∧cntF n k i≤(k:Int)
 |0,i=>by simp [cntF]
 |k+1,i=>by
  have h1:=cntF_le n k (i+1)
  have h2:=bitV_le n i
  unfold cntF;omega
def cntV (n:Nat):Int:=cntF n 8 0
theorem sCount_loop (n:Nat) (hn:n<256): ∀ (k i:Nat) (a:Int),i+k=8→0≤a→a+(k:Int)≤1000→sCountBits_D5 ((n:Int),(a,((i:Int),())))=some ((a+cntF n k i,()),()):=by
 intro k
 induction k with
 |zero=>intro i a hi _ _;rw[sCountBits_q5,ilt_f (by omega),cnd_f];simp [cntF]
 |succ k ih=>
  intro i a hi h0 h1
  obtain ⟨b1,b2,_⟩:=bit_at hn (show i<8 by omega)
  have b3:=bitV_le n i
  rw[sCountBits_q5,ilt_t (by omega),cnd_t,b1,cnd_t,show nz 2=true from rfl,cnd_t,b2,iadd_64 (by omega) (by omega),next_at (by omega),ih (i+1) _ (by omega) (by omega) (by omega),show cntF n (k+1) i=bitV n i+cntF n k (i+1) from rfl,Int.add_assoc]
theorem iconv_u64 (n:Nat) (h:n<256):iconv .u64 (n:Int)=(n:Int):=by unfold iconv;rw[wrap_u64];omega
theorem ones_l (n:Nat) (hn:n<256):g_math_bits_OnesCount_d ((n:Int),())=some ((cntV n,()),()):=by
 rw[g_math_bits_OnesCount_b]
 have:g_math_bits_OnesCount64_d ((n:Int),())=some ((cntV n,()),()):=by
  rw[g_math_bits_OnesCount64_b]
  exact tab (fun n=>(cnd (nn (1:Int)) (cnd (nn (2:Int)) (cnd (nn (4:Int)) (cnd (nn (8:Int)) (cnd (nn (16:Int)) (cnd (nn (32:Int)) (some (((iand .i64 (iconv .i64 (iadd .u64 (iadd .u64 (iadd .u64 (iand .u64 (iadd .u64 (ishr .u64 (iadd .u64 (iand .u64 (ishr .u64 (iadd .u64 (iand .u64 (ishr .u64 (n:Int) (1:Int)) (6148914691236517205:Int)) (iand .u64 (n:Int) (6148914691236517205:Int))) (2:Int)) (3689348814741910323:Int)) (iand .u64 (iadd .u64 (iand .u64 (ishr .u64 (n:Int) (1:Int)) (6148914691236517205:Int)) (iand .u64 (n:Int) (6148914691236517205:Int))) (3689348814741910323:Int))) (4:Int)) (iadd .u64 (iand .u64 (ishr .u64 (iadd .u64 (iand .u64 (ishr .u64 (n:Int) (1:Int)) (6148914691236517205:Int)) (iand .u64 (n:Int) (6148914691236517205:Int))) (2:Int)) (3689348814741910323:Int)) (iand .u64 (iadd .u64 (iand .u64 (ishr .u64 (n:Int) (1:Int)) (6148914691236517205:Int)) (iand .u64 (n:Int) (6148914691236517205:Int))) (3689348814741910323:Int)))) (1085102592571150095:Int)) (ishr .u64 (iand .u64 (iadd .u64 (ishr .u64 (iadd .u64 (iand .u64 (ishr .u64 (iadd .u64 (iand .u64 (ishr .u64 (n:Int) (1:Int)) (6148914691236517205:Int)) (iand .u64 (n:Int) (6148914691236517205:Int))) (2:Int)) (3689348814741910323:Int)) (iand .u64 (iadd .u64 (iand .u64 (ishr .u64 (n:Int) (1:Int)) (6148914691236517205:Int)) (iand .u64 (n:Int) (6148914691236517205:Int))) (3689348814741910323:Int))) (4:Int)) (iadd .u64 (iand .u64 (ishr .u64 (iadd .u64 (iand .u64 (ishr .u64 (n:Int) (1:Int)) (6148914691236517205:Int)) (iand .u64 (n:Int) (6148914691236517205:Int))) (2:Int)) (3689348814741910323:Int)) (iand .u64 (iadd .u64 (iand .u64 (ishr .u64 (n:Int) (1:Int)) (6148914691236517205:Int)) (iand .u64 (n:Int) (6148914691236517205:Int))) (3689348814741910323:Int)))) (1085102592571150095:Int)) (8:Int))) (ishr .u64 (iadd .u64 (iand .u64 (iadd .u64 (ishr .u64 (iadd .u64 (iand .u64 (ishr .u64 (iadd .u64 (iand .u64 (ishr .u64 (n:Int) (1:Int)) (6148914691236517205:Int)) (iand .u64 (n:Int) (6148914691236517205:Int))) (2:Int)) (3689348814741910323:Int)) (iand .u64 (iadd .u64 (iand .u64 (ishr .u64 (n:Int) (1:Int)) (6148914691236517205:Int)) (iand .u64 (n:Int) (6148914691236517205:Int))) (3689348814741910323:Int))) (4:Int)) (iadd .u64 (iand .u64 (ishr .u64 (iadd .u64 (iand .u64 (ishr .u64 (n:Int) (1:Int)) (6148914691236517205:Int)) (iand .u64 (n:Int) (6148914691236517205:Int))) (2:Int)) (3689348814741910323:Int)) (iand .u64 (iadd .u64 (iand .u64 (ishr .u64 (n:Int) (1:Int)) (6148914691236517205:Int)) (iand .u64 (n:Int) (6148914691236517205:Int))) (3689348814741910323:Int)))) (1085102592571150095:Int)) (ishr .u64 (iand .u64 (iadd .u64 (ishr .u64 (iadd .u64 (iand .u64 (ishr .u64 (iadd .u64 (iand .u64 (ishr .u64 (n:Int) (1:Int)) (6148914691236517205:Int)) (iand .u64 (n:Int) (6148914691236517205:Int))) (2:Int)) (3689348814741910323:Int)) (iand .u64 (iadd .u64 (iand .u64 (ishr .u64 (n:Int) (1:Int)) (6148914691236517205:Int)) (iand .u64 (n:Int) (6148914691236517205:Int))) (3689348814741910323:Int))) (4:Int)) (iadd .u64 (iand .u64 (ishr .u64 (iadd .u64 (iand .u64 (ishr .u64 (n:Int) (1:Int)) (6148914691236517205:Int)) (iand .u64 (n:Int) (6148914691236517205:Int))) (2:Int)) (3689348814741910323:Int)) (iand .u64 (iadd .u64 (iand .u64 (ishr .u64 (n:Int) (1:Int)) (6148914691236517205:Int)) (iand .u64 (n:Int) (6148914691236517205:Int))) (3689348814741910323:Int)))) (1085102592571150095:Int)) (8:Int))) (16:Int))) (ishr .u64 (iadd .u64 (iadd .u64 (iand .u64 (iadd .u64 (ishr .u64 (iadd .u64 (iand .u64 (ishr .u64 (iadd .u64 (iand .u64 (ishr .u64 (n:Int) (1:Int)) (6148914691236517205:Int)) (iand .u64 (n:Int) (6148914691236517205:Int))) (2:Int)) (3689348814741910323:Int)) (iand .u64 (iadd .u64 (iand .u64 (ishr .u64 (n:Int) (1:Int)) (6148914691236517205:Int)) (iand .u64 (n:Int) (6148914691236517205:Int))) (3689348814741910323:Int))) (4:Int)) (iadd .u64 (iand .u64 (ishr .u64 (iadd .u64 (iand .u64 (ishr .u64 (n:Int) (1:Int)) (6148914691236517205:Int)) (iand .u64 (n:Int) (6148914691236517205:Int))) (2:Int)) (3689348814741910323:Int)) (iand .u64 (iadd .u64 (iand .u64 (ishr .u64 (n:Int) (1:Int)) (6148914691236517205:Int)) (iand .u64 (n:Int) (6148914691236517205:Int))) (3689348814741910323:Int)))) (1085102592571150095:Int)) (ishr .u64 (iand .u64 (iadd .u64 (ishr .u64 (iadd .u64 (iand .u64 (ishr .u64 (iadd .u64 (iand .u64 (ishr .u64 (n:Int) (1:Int)) (6148914691236517205:Int)) (iand .u64 (n:Int) (6148914691236517205:Int))) (2:Int)) (3689348814741910323:Int)) (iand .u64 (iadd .u64 (iand .u64 (ishr .u64 (n:Int) (1:Int)) (6148914691236517205:Int)) (iand .u64 (n:Int) (6148914691236517205:Int))) (3689348814741910323:Int))) (4:Int)) (iadd .u64 (iand .u64 (ishr .u64 (iadd .u64 (iand .u64 (ishr .u64 (n:Int) (1:Int)) (6148914691236517205:Int)) (iand .u64 (n:Int) (6148914691236517205:Int))) (2:Int)) (3689348814741910323:Int)) (iand .u64 (iadd .u64 (iand .u64 (ishr .u64 (n:Int) (1:Int)) (6148914691236517205:Int)) (iand .u64 (n:Int) (6148914691236517205:Int))) (3689348814741910323:Int)))) (1085102592571150095:Int)) (8:Int))) (ishr .u64 (iadd .u64 (iand .u64 (iadd .u64 (ishr .u64 (iadd .u64 (iand .u64 (ishr .u64 (iadd .u64 (iand .u64 (ishr .u64 (n:Int) (1:Int)) (6148914691236517205:Int)) (iand .u64 (n:Int) (6148914691236517205:Int))) (2:Int)) (3689348814741910323:Int)) (iand .u64 (iadd .u64 (iand .u64 (ishr .u64 (n:Int) (1:Int)) (6148914691236517205:Int)) (iand .u64 (n:Int) (6148914691236517205:Int))) (3689348814741910323:Int))) (4:Int)) (iadd .u64 (iand .u64 (ishr .u64 (iadd .u64 (iand .u64 (ishr .u64 (n:Int) (1:Int)) (6148914691236517205:Int)) (iand .u64 (n:Int) (6148914691236517205:Int))) (2:Int)) (3689348814741910323:Int)) (iand .u64 (iadd .u64 (iand .u64 (ishr .u64 (n:Int) (1:Int)) (6148914691236517205:Int)) (iand .u64 (n:Int) (6148914691236517205:Int))) (3689348814741910323:Int)))) (1085102592571150095:Int)) (ishr .u64 (iand .u64 (iadd .u64 (ishr .u64 (iadd .u64 (iand .u64 (ishr .u64 (iadd .u64 (iand .u64 (ishr .u64 (n:Int) (1:Int)) (6148914691236517205:Int)) (iand .u64 (n:Int) (6148914691236517205:Int))) (2:Int)) (3689348814741910323:Int)) (iand .u64 (iadd .u64 (iand .u64 (ishr .u64 (n:Int) (1:Int)) (6148914691236517205:Int)) (iand .u64 (n:Int) (6148914691236517205:Int))) (3689348814741910323:Int))) (4:Int)) (iadd .u64 (iand .u64 (ishr .u64 (iadd .u64 (iand .u64 (ishr .u64 (n:Int) (1:Int)) (6148914691236517205:Int)) (iand .u64 (n:Int) (6148914691236517205:Int))) (2:Int)) (3689348814741910323:Int)) (iand .u64 (iadd .u64 (iand .u64 (ishr .u64 (n:Int) (1:Int)) (6148914691236517205:Int)) (iand .u64 (n:Int) (6148914691236517205:Int))) (3689348814741910323:Int)))) (1085102592571150095:Int)) (8:Int))) (16:Int))) (32:Int)))) (127:Int)),()),())) none) none) none) none) none) none)) (fun n=>some ((cntV n,()),())) 256 (by kernel_rfl) n hn
 rw[this,bnd_s]
theorem iCountBits_l (n:Nat) (hn:n<256):iCountBits_d ((n:Int),())=some ((cntV n,()),()):=by
 rw[iCountBits_b,iIsBits_l,bnd_s,decide_eq_true (by omega),iconv_u64 n hn,ones_l n hn,bnd_s];rfl
theorem sCountBits_l (n:Nat) (hn:n<256):sCountBits_d ((n:Int),())=some ((cntV n,()),()):=by
 rw[sCountBits_b,sIn_l,bnd_s,decide_eq_true (by omega)]
 have:=sCount_loop n hn 8 0 0 rfl (by decide) (by decide)
 rw[Int.zero_add] at this
 exact this
theorem iPublicOf_l (n:Nat) (hn:n<256):iPublicOf_d ((n:Int),())=some (([(n:Int),cntV n],()),()):=by rw[iPublicOf_b,iCountBits_l n hn,bnd_s]
theorem sPublicOf_l (n:Nat) (hn:n<256):sPublicOf_d ((n:Int),())=some (([(n:Int),cntV n],()),()):=by rw[sPublicOf_b,sCountBits_l n hn,bnd_s]
theorem joined_loop (c:tCommittee) (h8:c.1.length=8) (n:Nat) (hn:n<256): ∀ (k i:Nat) (acc:List tPoint),i+k=8→acc.length≤i→ ∃r:List tPoint,r.length≤8∧iJoined_D5 ((n:Int),(acc,(c.1,(len c.1,((i:Int),())))))=some ((r,()),())∧sJoined_D5 ((n:Int),(acc,((i:Int),(c,()))))=some ((r,()),()):=by
 intro k
 induction k with
 |zero=>
  intro i acc hi ha
  have hl:len c.1=8:=by rw[len_d];omega
  exact ⟨acc,by omega,by rw[iJoined_q5,hl,ilt_f (by omega),cnd_f],by rw[sJoined_q5,ilt_f (by omega),cnd_f]⟩
 |succ k ih=>
  intro i acc hi ha
  have h:i<c.1.length:=by omega
  obtain ⟨b1,b2,b3⟩:=bit_at hn (show i<8 by omega)
  rw[iJoined_q5,sJoined_q5,ilt_at h,cnd_t,ilt_t (show (i:Int)<8 by omega),cnd_t,inb_at h,cnd_t,cnd_t,b1,cnd_t,cnd_t,show nz 2=true from rfl,cnd_t,b2,b3,next_at (by omega),rd_at h]
  rw[app_fits (xs:=acc) (by decide) (by simp;omega),cnd_t,cnd_t,app_one]
  cases ieq (bitV n i) 1
  ·simp only[cnd_f]
   exact ih (i+1) acc (by omega) (by omega)
  ·simp only[cnd_t]
   exact ih (i+1) _ (by omega) (by simp;omega)
theorem joined_l (c:tCommittee) (hc:Fine TCommittee c) (n:Nat) (hn:n<256): ∃r:List tPoint,r.length≤8∧iJoined_d (c,((n:Int),()))=some ((r,()),())∧sJoined_d (c,((n:Int),()))=some ((r,()),()):=by
 rw[iJoined_b,sJoined_b,iIsBits_l,bnd_s,iCommitteeOk_l c hc,bnd_s,sCommitteeOk_l c hc,bnd_s,sIn_l,bnd_s,decide_eq_true (show (0:Int)≤(n:Int)∧(n:Int)≤255 by omega)]
 cases h:committeeOk c
 ·exact ⟨[],by simp,rfl,rfl⟩
 ·exact joined_loop c (comOk_len h) n hn 8 0 [] rfl (by simp)
theorem iScal_loop (xs:List Int) (hl:xs.length≤16777216): ∀ (k i:Nat),i+k=xs.length→iAreScalars_D2 (xs,(len xs,((i:Int),())))=some (((xs.drop i).all fun n=>decide (0≤n∧n≤1008),()),()):=by
 intro k
 induction k with
 |zero=>intro i hi;rw[iAreScalars_q2,show (i:Int)=(xs.length:Int) by omega,ilt_end,cnd_f,show i=xs.length by omega];simp
 |succ k ih=>
  intro i hi
  have h:i<xs.length:=by omega
  have e:iIsScalar_d (xs[i],())=some ((decide (0≤xs[i]∧xs[i]≤1008),()),()):=by
   rw[iIsScalar_b,ige_d,ilt_d]
   have e:(xs[i]<1009)↔xs[i]≤1008:=by omega
   by_cases h0:0≤xs[i]<;>by_cases h1:xs[i]≤1008<;>simp [h0,h1,e,cnd]
  rw[iAreScalars_q2,ilt_at h,cnd_t,inb_at h,cnd_t,rd_at h,e,bnd_s,next_at (by omega),ih (i+1) (by omega),List.drop_eq_getElem_cons h,List.all_cons]
  cases decide (0≤xs[i]∧xs[i]≤1008)<;>rfl
theorem sWide_loop (xs:List Int) (m:Int) (hm:m=len xs) (hl:xs.length≤16777216): ∀ (k i:Nat),i+k=xs.length→sL13Wide_D2 (xs,(m,((i:Int),())))=some (((xs.drop i).all fun n=>decide (0≤n∧n≤1008),()),()):=by
 intro k
 induction k with
 |zero=>intro i hi;rw[sL13Wide_q2,show (i:Int)=(xs.length:Int) by omega,ilt_end,cnd_f,show i=xs.length by omega,hm,ieq_d];simp
 |succ k ih=>
  intro i hi
  have h:i<xs.length:=by omega
  rw[sL13Wide_q2,ilt_at h,cnd_t,inb_at h,cnd_t,rd_at h,sIn_l,bnd_s,next_at (by omega),ih (i+1) (by omega),List.drop_eq_getElem_cons h,List.all_cons]
  cases decide (0≤xs[i]∧xs[i]≤1008)<;>rfl
theorem iScal_l (xs:List Int) (hl:xs.length≤16777216):iAreScalars_d (xs,())=some ((xs.all fun n=>decide (0≤n∧n≤1008),()),()):=by
 rw[iAreScalars_b]
 have:=iScal_loop xs hl xs.length 0 (by omega)
 rwa [List.drop_zero] at this
theorem sWide_l (xs:List Int) (hl:xs.length≤16777216):sL13Wide_d (xs,(len xs,()))=some ((xs.all fun n=>decide (0≤n∧n≤1008),()),()):=by
 rw[sL13Wide_b]
 have:=sWide_loop xs _ rfl hl xs.length 0 (by omega)
 rwa [List.drop_zero] at this
def inSum (a b c:tPoint) (n m:Int):tPoint:=padd' (padd' (padd' zeroP a) (ptimes n b)) (ptimes m c)
theorem iInSum (k:tKeys) (a b c:tPoint) (hk:k.2.2.2.2.1=[a,b,c]) (n m:Int) (z:tPoint):iInputSum_d (k,([n,m],()))=some ((inSum a b c n m,()),()):=by
 rw[iInputSum_b,hk,show len [a,b,c]=3 from rfl,len2,show ine 3 (iadd .i64 2 1)=false by decide+kernel,cnd_f,show inb 0 3=true from rfl,cnd_t,show rd zPoint [a,b,c] 0=a from rfl,iPointAdd_l,bnd_s,show inb2 1 3 3=true from rfl,cnd_t,show sub [a,b,c] 1 3=[b,c] from rfl,iAddTimes_b,len2,len2,show imin 2 2=2 from rfl]
 rw[iAddTimes_q2,show ilt 0 2=true from rfl,cnd_t,len2,len2,show inb 0 2=true from rfl,cnd_t,cnd_t,show rd zPoint [b,c] 0=b from rfl,show rd 0 [n,m] 0=n from rfl,iTimes_l,bnd_s,iPointAdd_l,bnd_s,show iadd .i64 0 1=1 from rfl]
 rw[iAddTimes_q2,show ilt 1 2=true from rfl,cnd_t,len2,len2,show inb 1 2=true from rfl,cnd_t,cnd_t,show rd zPoint [b,c] 1=c from rfl,show rd 0 [n,m] 1=m from rfl,iTimes_l,bnd_s,iPointAdd_l,bnd_s,show iadd .i64 1 1=2 from rfl]
 rw[iAddTimes_q2,show ilt 2 2=false from rfl,cnd_f,bnd_s]
 rfl
theorem sInSum (k:tKeys) (a b c:tPoint) (hk:k.2.2.2.2.1=[a,b,c]) (n m:Int) (hn:0≤n) (hm:0≤m):sInputSum_d (k,([n,m],()))=some ((inSum a b c n m,()),()):=by
 rw[sInputSum_b,hk,show len [a,b,c]=3 from rfl,len2,show ine 3 (iadd .i64 2 1)=false by decide+kernel,cnd_f,sL07Zero_b,bnd_s,show inb 0 3=true from rfl,cnd_t,show rd zPoint [a,b,c] 0=a from rfl,sPointAdd_l,bnd_s]
 rw[sInputSum_q5,hk,len2,show len [a,b,c]=3 from rfl,show ilt 0 2=true from rfl,cnd_t,show inb 0 2=true from rfl,cnd_t,show iadd .i64 0 1=1 from rfl,show inb 1 3=true from rfl,cnd_t,show rd zPoint [a,b,c] 1=b from rfl,show rd 0 [n,m] 0=n from rfl,sTimes_l _ _ hn,bnd_s,sPointAdd_l,bnd_s]
 rw[sInputSum_q5,hk,len2,show len [a,b,c]=3 from rfl,show ilt 1 2=true from rfl,cnd_t,show inb 1 2=true from rfl,cnd_t,show iadd .i64 1 1=2 from rfl,show inb 2 3=true from rfl,cnd_t,show rd zPoint [a,b,c] 2=c from rfl,show rd 0 [n,m] 1=m from rfl,sTimes_l _ _ hm,bnd_s,sPointAdd_l,bnd_s]
 rw[sInputSum_q5,len2,show ilt 2 2=false from rfl,cnd_f]
 rfl
theorem proofOk_both (k:tKeys) (n m:Int) (p:tProof) (hl:k.2.2.2.2.1.length≤16777216):Both (iProofOk_d (k,([n,m],(p,())))) (sProofOk_d (k,([n,m],(p,())))):=by
 rw[iProofOk_b,sProofOk_b]
 simp only[iInGroup_l,sInGroup_l,bnd_s]
 have hs:([n,m]:List Int).length≤16777216:=by simp
 by_cases h3:k.2.2.2.2.1.length=3
 ·obtain ⟨a,b,c,hk⟩: ∃a b c,k.2.2.2.2.1=[a,b,c]:=by
   match k.2.2.2.2.1,h3 with
   | [a,b,c],_=>exact ⟨a,b,c,rfl⟩
  have e:ine (len k.2.2.2.2.1) (iadd .i64 (len [n,m]) 1)=false:=by rw[hk,len2,show len [a,b,c]=3 from rfl];decide+kernel
  rw[e,iScal_l _ hs,sWide_l _ hs]
  simp only[bnd_s,cnd_f]
  cases hsc:([n,m]:List Int).all fun n=>decide (0≤n∧n≤1008)
  ·cases p.1.2.2.1<;>cases p.2.1.2.2.1<;>cases ingroup p.1<;>cases ingroup p.2.1<;>cases ingroup p.2.2.1<;>exact .ret
  ·simp only[List.all_cons,List.all_nil,Bool.and_true,Bool.and_eq_true,decide_eq_true_eq] at hsc
   have key:Both (Go.TV.bnd (iPairing_d (k.1,(k.2.1,()))) (fun r7=>Go.TV.bnd (iInputSum_d (k,([n,m],()))) (fun r8=>Go.TV.bnd (iPairing_d (r8.1.1,(k.2.2.1,()))) (fun r9=>Go.TV.bnd (iTwoMul_d (r7.1.1,(r9.1.1,()))) (fun r10=>Go.TV.bnd (iPairing_d (p.1,(p.2.1,()))) (fun r11=>Go.TV.bnd (iPairing_d (p.2.2.1,(k.2.2.2.1,()))) (fun r12=>Go.TV.bnd (iTwoMul_d (r10.1.1,(r12.1.1,()))) (fun r13=>some (((both (ieq r11.1.1.1 r13.1.1.1) (both (ieq r11.1.1.2.1 r13.1.1.2.1) true)),()),())))))))))
    (Go.TV.bnd (sPairing_d (k.1,(k.2.1,()))) (fun r7=>Go.TV.bnd (sInputSum_d (k,([n,m],()))) (fun r8=>Go.TV.bnd (sPairing_d (r8.1.1,(k.2.2.1,()))) (fun r9=>Go.TV.bnd (sTwoMul_d (r7.1.1,(r9.1.1,()))) (fun r10=>Go.TV.bnd (sPairing_d (p.2.2.1,(k.2.2.2.1,()))) (fun r11=>Go.TV.bnd (sTwoMul_d (r10.1.1,(r11.1.1,()))) (fun r12=>Go.TV.bnd (sPairing_d (p.1,(p.2.1,()))) (fun r13=>some (((both (ieq r13.1.1.1 r12.1.1.1) (both (ieq r13.1.1.2.1 r12.1.1.2.1) true)),()),()))))))))):=by
    obtain ⟨u1,i1,s1⟩:=pairing_both k.1 k.2.1
    obtain ⟨u3,i3,s3⟩:=pairing_both p.1 p.2.1
    obtain ⟨u4,i4,s4⟩:=pairing_both p.2.2.1 k.2.2.2.1
    rw[i1,s1,bnd_s,bnd_s,iInSum k a b c hk n m a,sInSum k a b c hk n m hsc.1.1 hsc.2.1,bnd_s,bnd_s]
    simp only[]
    obtain ⟨u2,i2,s2⟩:=pairing_both (inSum a b c n m) k.2.2.1
    rw[i2,s2,bnd_s,bnd_s,iTwoMul_l,sTwoMul_l,bnd_s,bnd_s,i3,i4,s4,s3,bnd_s,bnd_s,bnd_s,iTwoMul_l,sTwoMul_l,bnd_s,bnd_s,bnd_s]
    exact .ret
   cases p.1.2.2.1<;>cases p.2.1.2.2.1<;>cases ingroup p.1<;>cases ingroup p.2.1<;>cases ingroup p.2.2.1<;>first|exact .ret|exact key
 ·have e:ine (len k.2.2.2.2.1) (iadd .i64 (len [n,m]) 1)=true:=by
   rw[len2,show iadd .i64 2 1=3 from rfl,ine_d,len_d,decide_eq_false (by omega)];rfl
  rw[e]
  simp only[cnd_t]
  cases p.1.2.2.1<;>cases p.2.1.2.2.1<;>cases ingroup p.1<;>cases ingroup p.2.1<;>cases ingroup p.2.2.1<;>exact .ret
end Go.Proofs.YtkfifjaomgjnnaaGreatDoor
