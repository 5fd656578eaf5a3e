/- An update out of its text: the program's and the reference's. Of no condition. -/
import Derived.Test.YtkfifjaomgjnnaaGreatDoorUA
set_option linter.unusedVariables false
set_option linter.unusedSimpArgs false
set_option maxRecDepth 100000
namespace Go.Proofs.YtkfifjaomgjnnaaGreatDoor
open Go.TV
def branchOk (l:List ByteArray):Bool:=decide (l.length=2)&&l.all fun s=>decide (s.size=32)
def updateOk (u:tUpdate):Bool:=
 headOk u.1&&(headOk u.2.2.2.1&&(branchOk u.2.2.1&&(branchOk u.2.2.2.2.1&&(decide (0≤u.2.2.2.2.2.1∧u.2.2.2.2.2.1≤255)&&(decide (0≤u.2.2.2.2.2.2.2.2.1∧u.2.2.2.2.2.2.2.2.1≤10000)&&(ingroup u.2.2.2.2.2.2.1&&(committeeOk u.2.1&&proofOk3 u.2.2.2.2.2.2.2.1)))))))
theorem iBranchOk_l (l:List ByteArray):iBranchOk_d (l,())=some ((branchOk l,()),()):=by
 rw[iBranchOk_b,ieq_d,len_d]
 unfold branchOk
 by_cases h:l.length=2
 ·obtain ⟨a,b,rfl⟩: ∃a b,l=[a,b]:=by
   match l,h with
   | [a,b],_=>exact ⟨a,b,rfl⟩
  rw[decide_eq_true (by simp),cnd_t]
  simp only[List.length_cons,List.length_nil]
  rw[inb_t (by decide) (by decide),cnd_t,inb_t (by decide) (by decide),cnd_t]
  show bnd (iIsDigest_d (a,())) (fun r1=>cnd r1.1.1 (bnd (iIsDigest_d (b,())) (fun r2=>some ((r2.1.1,()),()))) (some ((false,()),())))=_
  rw[iIsDigest_l,bnd_s,iIsDigest_l,bnd_s]
  by_cases ha:a.size=32<;>by_cases hb:b.size=32<;>simp [ha,hb,cnd]
 ·rw[decide_eq_false (by omega),cnd_f,decide_eq_false h];rfl
theorem sBranchOk_loop (l:List ByteArray) (hl:l.length≤16777216): ∀ (k i:Nat),i+k=l.length→sBranchOk_D2 (l,((i:Int),()))=some ((((l.drop i).all fun s=>decide (s.size=32))&&decide (l.length=2),()),()):=by
 intro k
 induction k with
 |zero=>
  intro i hi
  have:((l.length:Int)=2)↔l.length=2:=by omega
  rw[sBranchOk_q2,show (i:Int)=(l.length:Int) by omega,ilt_end,cnd_f,show i=l.length by omega,ieq_d,len_d];simp [this]
 |succ k ih=>
  intro i hi
  have h:i<l.length:=by omega
  have h32:((l[i].size:Int)=32)↔l[i].size=32:=by omega
  rw[sBranchOk_q2,ilt_at h,cnd_t,inb_at h,cnd_t,rd_at h,ine_d,ssz_d,next_at (by omega),ih (i+1) (by omega),List.drop_eq_getElem_cons h,List.all_cons]
  simp only[h32]
  by_cases hz:l[i].size=32<;>simp [hz,cnd]
theorem sBranchOk_l (l:List ByteArray) (hl:l.length≤16777216):sBranchOk_d (l,())=some ((branchOk l,()),()):=by
 rw[sBranchOk_b]
 have:=sBranchOk_loop l hl l.length 0 (by omega)
 rw[List.drop_zero] at this
 unfold branchOk
 rw[Bool.and_comm];exact this
theorem branchOk_out {l:List ByteArray} (h:branchOk l=true): ∃a b,l=[a,b]∧a.size=32∧b.size=32:=by
 unfold branchOk at h
 rw[Bool.and_eq_true] at h
 have h1:=of_decide_eq_true h.1
 match l,h1 with
 | [a,b],_=>
   have h2:=h.2
   simp only[List.all_cons,List.all_nil,Bool.and_true,Bool.and_eq_true,decide_eq_true_eq] at h2
   exact ⟨a,b,rfl,h2.1,h2.2⟩
def UFine (u:tUpdate):Prop:=u.2.1.1.length≤16777216∧u.2.2.1.length≤16777216∧u.2.2.2.2.1.length≤16777216
theorem iIsBits_l (n:Int):iIsBits_d (n,())=some ((decide (0≤n∧n≤255),()),()):=by
 rw[iIsBits_b,ige_d,ile_d]
 by_cases h0:0≤n<;>by_cases h1:n≤255<;>simp [h0,h1,cnd]
theorem iUpdateOk_l (u:tUpdate) (h:UFine u):iUpdateOk_d (u,())=some ((updateOk u,()),()):=by
 obtain ⟨a,⟨ks,⟨⟩⟩,nb,f,fb,bits,sig,p,sd,⟨⟩⟩:=u
 rw[iUpdateOk_b]
 simp only[]
 rw[iHeadOk_l,bnd_s,iHeadOk_l,bnd_s,iBranchOk_l,bnd_s,iBranchOk_l,bnd_s,iIsBits_l,bnd_s,iIsSlot_l,bnd_s,iInGroup_l,bnd_s,iCommitteeOk_l _ (fine_pts ks h.1),bnd_s,iProofText_l,bnd_s]
 unfold updateOk
 simp only[]
 cases headOk a<;>cases headOk f<;>cases branchOk nb<;>cases branchOk fb<;>cases decide (0≤bits∧bits≤255)<;>cases decide (0≤sd∧sd≤10000)<;>cases ingroup sig<;>cases committeeOk (ks,())<;>cases proofOk3 p<;>rfl
theorem sUpdateOk_l (u:tUpdate) (h:UFine u):sUpdateOk_d (u,())=some ((updateOk u,()),()):=by
 obtain ⟨a,⟨ks,⟨⟩⟩,nb,f,fb,bits,sig,⟨pa,pb,pc,⟨⟩⟩,sd,⟨⟩⟩:=u
 rw[sUpdateOk_b]
 simp only[]
 rw[sHeadOk_l,bnd_s,sHeadOk_l,bnd_s,sCommitteeOk_l _ (fine_pts ks h.1),bnd_s,sBranchOk_l _ h.2.1,bnd_s,sBranchOk_l _ h.2.2,bnd_s,sIn_l,bnd_s,sInGroup_l,bnd_s,sInGroup_l,bnd_s,sInGroup_l,bnd_s,sInGroup_l,bnd_s,sIn_l,bnd_s]
 unfold updateOk proofOk3
 simp only[]
 cases headOk a<;>cases headOk f<;>cases branchOk nb<;>cases branchOk fb<;>cases decide (0≤bits∧bits≤255)<;>cases decide (0≤sd∧sd≤10000)<;>cases ingroup sig<;>cases committeeOk (ks,())<;>cases ingroup pa<;>cases ingroup pb<;>cases ingroup pc<;>rfl
noncomputable def updT (u:tUpdate):ByteArray:=
 scat (scat (scat (scat (scat (scat (scat (scat (scat (scat (headT u.1) (committeeT u.2.1)) (rd (bs []) u.2.2.1 0)) (rd (bs []) u.2.2.1 1)) (headT u.2.2.2.1)) (rd (bs []) u.2.2.2.2.1 0)) (rd (bs []) u.2.2.2.2.1 1)) (sof [iconv .u8 u.2.2.2.2.2.1])) (pointText u.2.2.2.2.2.2.1)) (proofT u.2.2.2.2.2.2.2.1)) (varV u.2.2.2.2.2.2.2.2.1)
theorem sHeadText_l (h:tHead) (e:headOk h=true):sHeadText_d (h,())=some ((headT h,(true,())),()):=by
 obtain ⟨h0,h1,h2,h3,h4⟩:=headOk_out e
 have hv:=varV_size h.1
 rw[sHeadText_b,sHeadOk_l,bnd_s,e,sVar_l _ h0 (by omega),bnd_s]
 simp only[]
 rw[cat_fits (by omega),cnd_t,cat_fits (by simp only[size_scat];omega),cnd_t,cat_fits (by simp only[size_scat];omega),cnd_t]
 rfl
theorem headT_size {h:tHead} (e:headOk h=true):(headT h).size≤106:=by
 obtain ⟨h0,h1,h2,h3,h4⟩:=headOk_out e
 have hv:=varV_size h.1
 unfold headT
 simp only[size_scat];omega
theorem committeeT_size {c:tCommittee} (e:committeeOk c=true):(committeeT c).size≤27:=by
 have h1:=catP_size c.1
 have h2:=pointText_size (sumP c.1)
 rw[comOk_len e] at h1
 unfold committeeT
 rw[size_scat];omega
theorem updateOk_out {u:tUpdate} (h:updateOk u=true):headOk u.1=true∧headOk u.2.2.2.1=true∧branchOk u.2.2.1=true∧branchOk u.2.2.2.2.1=true∧(0≤u.2.2.2.2.2.1∧u.2.2.2.2.2.1≤255)∧(0≤u.2.2.2.2.2.2.2.2.1∧u.2.2.2.2.2.2.2.2.1≤10000)∧ingroup u.2.2.2.2.2.2.1=true∧committeeOk u.2.1=true∧proofOk3 u.2.2.2.2.2.2.2.1=true:=by
 unfold updateOk at h
 simp only[Bool.and_eq_true,decide_eq_true_eq] at h
 exact h
theorem sUpdateText_l (u:tUpdate) (hf:UFine u) (hk:(updT u).size≤20000):sUpdateText_d (u,())=some (if updateOk u=true then (scat (updT u) (sumV (updT u)),(true,())) else zL21Cur,()):=by
 rw[sUpdateText_b,sUpdateOk_l u hf,bnd_s]
 cases hu:updateOk u
 ·rfl
 ·obtain ⟨h1,h2,h3,h4,h5,h6,h7,h8,h9⟩:=updateOk_out hu
  obtain ⟨a,⟨ks,⟨⟩⟩,nb,f,fb,bits,sig,p,sd,⟨⟩⟩:=u
  simp only at h1 h2 h3 h4 h5 h6 h7 h8 h9 hk
  obtain ⟨n0,n1,rfl,k0,k1⟩:=branchOk_out h3
  obtain ⟨f0,f1,rfl,l0,l1⟩:=branchOk_out h4
  have s1:=headT_size h1
  have s2:=headT_size h2
  have s3:(committeeT (ks,())).size≤27:=committeeT_size h8
  have s4:=pointText_size sig
  have s5:(proofT p).size≤9:=by
   have:=pointText_size p.1
   have:=pointText_size p.2.1
   have:=pointText_size p.2.2.1
   unfold proofT;simp only[size_scat];omega
  have s6:=varV_size sd
  simp only[show bnot true=false from rfl,cnd_f]
  rw[sHeadText_l _ h1,bnd_s,sCommitteeText_l _ (fine_pts ks hf.1),bnd_s,sHeadText_l _ h2,bnd_s,sProofText_l,bnd_s,if_pos h8,if_pos h9]
  simp only[show rd (bs []) [n0,n1] 0=n0 from rfl,show rd (bs []) [n0,n1] 1=n1 from rfl,show rd (bs []) [f0,f1] 0=f0 from rfl,show rd (bs []) [f0,f1] 1=f1 from rfl]
  have i0: ∀x y:ByteArray,inb 0 (len [x,y])=true:=fun x y=>by rw[len_d];exact inb_t (by decide) (by simp)
  have i1: ∀x y:ByteArray,inb 1 (len [x,y])=true:=fun x y=>by rw[len_d];exact inb_t (by decide) (by simp)
  rw[cat_fits (by omega),cnd_t,i0,cnd_t,cat_fits (by simp only[size_scat];omega),cnd_t,i1,cnd_t,cat_fits (by simp only[size_scat];omega),cnd_t,cat_fits (by simp only[size_scat];omega),cnd_t,i0,cnd_t,cat_fits (by simp only[size_scat];omega),cnd_t,i1,cnd_t,cat_fits (by simp only[size_scat];omega),cnd_t,
   cat_fits (by simp only[size_scat,size_sof,List.length];omega),cnd_t,sPointText_l,bnd_s]
  simp only[]
  rw[cat_fits (by simp only[size_scat,size_sof,List.length];omega),cnd_t,cat_fits (by simp only[size_scat,size_sof,List.length];omega),cnd_t,sVar_l _ h6.1 (by omega),bnd_s]
  simp only[]
  rw[cat_fits (by simp only[size_scat,size_sof,List.length];omega),cnd_t]
  have e:updT (a,((ks,()),([n0,n1],(f,([f0,f1],(bits,(sig,(p,(sd,())))))))))=scat (scat (scat (scat (scat (scat (scat (scat (scat (scat (headT a) (committeeT (ks,()))) n0) n1) (headT f)) f0) f1) (sof [iconv .u8 bits])) (pointText sig)) (proofT p)) (varV sd):=rfl
  rw[←e,sSealed_l _ hk,bnd_s]
  rfl
end Go.Proofs.YtkfifjaomgjnnaaGreatDoor
