/- Proofs of tries are verified. Of no condition. -/
import Derived.Test.YtoeiajpklkijgaaGreatDoorTK
set_option linter.unusedVariables false
set_option linter.unusedSimpArgs false
set_option maxRecDepth 100000
namespace Go.Proofs.YtoeiajpklkijgaaGreatDoor
open Go.TV
theorem fit_kid {d:Nat} {x:ItemT} (h:fitV d x=true) {y:ItemT} (hy:y∈x.k):x.l=true∧ ∃e,d=e+1∧fitV e y=true:=by
 cases x with
 |mk l s k=>
  cases l with
  |false=>rw[(fit_leaf h).2] at hy;cases hy
  |true=>
   obtain ⟨_,_,e,h1,h2⟩:=fit_list h
   exact ⟨rfl,e,h1,h2 y hy⟩
theorem fit_s {d:Nat} {x:ItemT} (h:fitV d x=true):x.s.size≤600:=by
 cases x with
 |mk l s k=>
  cases l with
  |false=>exact (fit_leaf h).1
  |true=>rw[(fit_list h).1];show (bs []).size≤600;decide
theorem fit_small {d:Nat} {x:ItemT} (h:fitV d x=true):KidS x:=fun y hy=>by
 obtain ⟨_,e,_,h2⟩:=fit_kid h hy
 have:=fit_s h2
 omega
theorem getD_mem {l:List ItemT} {i:Nat} (h:i<l.length):l.getD i zI∈l:=by
 rw[List.getD_eq_getElem?_getD,List.getElem?_eq_getElem h]
 exact List.getElem_mem h
theorem next_facts (x:ItemT) (left:List Int) (h: ∀a∈left,0≤a∧a≤15):(nextV x left).2.2≤3∧((nextV x left).2.2=0→(nextV x left).1∈x.k∧(nextV x left).2.1≤left.length):=by
 unfold nextV
 split
 ·exact ⟨Nat.le_refl 3,fun h=>by cases h⟩
 ·split
  ·rename_i h17
   cases left with
   |nil=>exact ⟨(by decide:1≤3),fun h=>by cases h⟩
   |cons a r=>
    have ha:=h a (by simp)
    simp only[]
    split
    ·exact ⟨by simp,fun h=>by cases h⟩
    ·exact ⟨by simp,fun _=>⟨getD_mem (by omega),by simp⟩⟩
  ·split
   ·exact ⟨by simp,fun h=>by cases h⟩
   ·rename_i h2
    have h2:x.k.length=2:=by
     by_cases hh:x.k.length=2
     ·exact hh
     ·exact absurd (Or.inl hh) h2
    split
    ·exact ⟨by simp,fun h=>by cases h⟩
    ·split
     ·exact ⟨by simp,fun h=>by cases h⟩
     ·split
      ·split
       ·exact ⟨by simp,fun h=>by cases h⟩
       ·exact ⟨by simp,fun h=>by cases h⟩
      ·exact ⟨by simp,fun _=>⟨getD_mem (by omega),(com_le _ _).2⟩⟩
def stopK (y:ItemT):Nat→tStop
 |0=>(false,(false,(bs [],(y,(0,())))))
 |1=>(true,(false,(bs [],(zI,(0,())))))
 |2=>(true,(true,(y.s,(zI,(0,())))))
 |_=>(false,(false,(bs [],(zI,(3,())))))
theorem iPair_l (pf:List ByteArray) (u:Int) (left:List Int) (x:ItemT) (hx:KidS x) (h: ∀a∈left,0≤a∧a≤15) (hl:left.length≤1000) (hxl:x.l=true) (h2:x.k.length=2):
 ∃r,iVerifier_pairStep_d ((pf,(u,(left,()))),(x,()))=some ((stopK (nextV x left).1 (nextV x left).2.2,()),((pf,(u,(r,()))),()))∧((nextV x left).2.2=0→r=left.drop (nextV x left).2.1):=by
 have hrl:=rpV_len (x.k.getD 0 zI).s
 have hc:=com_le (rpV (x.k.getD 0 zI).s).1 left
 rw[iVerifier_pairStep_b,len_d,inb_t (by omega) (by omega),cnd_t,show rd (ItemT.mk false (bs []) ([]:List ItemT)) x.k 0=x.k.getD 0 zI from rd_getD _ 0,iRp_l _ (hx.at' 0 (by omega)),bnd_s]
 simp only[]
 rw[cnd_t]
 unfold nextV
 rw[hxl,if_neg (by decide),if_neg (by omega)]
 cases h0l:(x.k.getD 0 zI).l with
 |true=>rw[cnd_t,if_pos (.inr rfl)];exact ⟨left,rfl,fun h=>by cases h⟩
 |false=>
  rw[cnd_f,if_neg (fun hh=>hh.elim (fun h=>h h2) (fun h=>by cases h))]
  cases hok:(rpV (x.k.getD 0 zI).s).2.2 with
  |false=>rw[show bnot false=true from rfl,cnd_t,if_pos rfl];exact ⟨left,rfl,fun h=>by cases h⟩
  |true=>
   rw[show bnot true=false from rfl,cnd_f,if_neg (by decide),iCom_l _ _ (by omega),bnd_s,com_comm left]
   simp only[]
   by_cases hlt:comV (rpV (x.k.getD 0 zI).s).1 left<(rpV (x.k.getD 0 zI).s).1.length
   ·rw[ilt_t (by rw[len_d];omega),cnd_t,if_pos (.inl hlt)];exact ⟨left,rfl,fun h=>by cases h⟩
   ·rw[ilt_f (by rw[len_d];omega),cnd_f]
    have hn:comV (rpV (x.k.getD 0 zI).s).1 left=(rpV (x.k.getD 0 zI).s).1.length:=by omega
    cases hle:(rpV (x.k.getD 0 zI).s).2.1 with
    |false=>
     rw[cnd_f,if_neg (fun hh=>hh.elim hlt (fun h=>by cases h.1)),if_neg (by decide),iVerifier_pairStep_q6,show bnot false=true from rfl,cnd_t]
     simp only[]
     rw[inb2_t (by rw[len_d];omega) (by rw[len_d,len_d];omega) (by omega),cnd_t,inb_t (by omega) (by rw[len_d];omega),cnd_t,show rd (ItemT.mk false (bs []) ([]:List ItemT)) x.k 1=x.k.getD 1 zI from rd_getD _ 1]
     refine ⟨_,rfl,fun _=>?_⟩
     rw[hn,len_d,len_d]
     unfold sub
     simp
    |true=>
     rw[cnd_t]
     by_cases hll:comV (rpV (x.k.getD 0 zI).s).1 left<left.length
     ·rw[ine_d,decide_eq_false (by rw[len_d,len_d];omega),Bool.not_false,cnd_t,if_pos (.inr ⟨rfl,hll⟩)];exact ⟨left,rfl,fun h=>by cases h⟩
     ·rw[ine_d,decide_eq_true (by rw[len_d,len_d];omega),Bool.not_true,cnd_f,if_neg (fun hh=>hh.elim hlt (fun h=>hll h.2)),if_pos rfl,iVerifier_pairStep_q6,show bnot true=false from rfl,cnd_f,inb_t (by omega) (by rw[len_d];omega),cnd_t,show rd (ItemT.mk false (bs []) ([]:List ItemT)) x.k 1=x.k.getD 1 zI from rd_getD _ 1]
      cases (x.k.getD 1 zI).l with
      |true=>rw[cnd_t,if_pos rfl];exact ⟨left,rfl,fun h=>by cases h⟩
      |false=>rw[cnd_f,cnd_t,if_neg (by decide)];exact ⟨left,rfl,fun h=>by cases h⟩
theorem iStep_l (pf:List ByteArray) (u:Int) (left:List Int) (x:ItemT) (hx:KidS x) (h: ∀a∈left,0≤a∧a≤15) (hl:left.length≤1000):
 ∃r,iVerifier_step_d ((pf,(u,(left,()))),(x,()))=some ((stopK (nextV x left).1 (nextV x left).2.2,()),((pf,(u,(r,()))),()))∧((nextV x left).2.2=0→r=left.drop (nextV x left).2.1):=by
 rw[iVerifier_step_b]
 cases hxl:x.l with
 |false=>
  rw[cnd_f,iVerifier_step_q3,hxl]
  unfold nextV
  rw[if_pos hxl]
  exact ⟨left,rfl,fun h=>by cases h⟩
 |true=>
  rw[cnd_t,ieq_d,len_d]
  by_cases h2:x.k.length=2
  ·obtain ⟨r,e,he⟩:=iPair_l pf u left x hx h hl hxl h2
   rw[decide_eq_true (by omega),cnd_t,e,bnd_s]
   exact ⟨r,rfl,he⟩
  ·rw[decide_eq_false (by omega),cnd_f,iVerifier_step_q3,hxl,show bnot true=false from rfl,cnd_f,ine_d,len_d]
   unfold nextV
   rw[hxl,if_neg (by decide)]
   by_cases h17:x.k.length=17
   ·rw[decide_eq_true (by omega),Bool.not_true,cnd_f,if_pos h17]
    cases left with
    |nil=>exact ⟨[],rfl,fun h=>by cases h⟩
    |cons a r=>
     have ha:=h a (by simp)
     obtain ⟨n,rfl⟩:=Int.eq_ofNat_of_zero_le ha.1
     simp only[]
     rw[ieq_d,decide_eq_false (by rw[len_d,List.length_cons];omega),cnd_f,inb_t (by omega) (by rw[len_d,List.length_cons];omega),cnd_t,show rd (0:Int) ((n:Int)::r) 0=(n:Int) from rfl,inb_t (by omega) (by omega),cnd_t,inb2_t (by omega) (by rw[len_d,List.length_cons];omega) (by omega),cnd_t]
     rw[show rd (ItemT.mk false (bs []) ([]:List ItemT)) x.k (n:Int)=x.k.getD n zI from rd_getD _ _]
     simp only[Int.toNat_natCast]
     have hsub:sub ((n:Int)::r) 1 (len ((n:Int)::r))=r:=by rw[len_d];unfold sub;simp
     rw[hsub]
     cases hyl:(x.k.getD n zI).l with
     |true=>rw[if_neg (by simp)];exact ⟨r,rfl,fun _=>rfl⟩
     |false=>
      rw[show bnot false=true from rfl,cnd_t,seq_d]
      by_cases hs:(x.k.getD n zI).s=bs []
      ·rw[decide_eq_true hs,cnd_t,if_pos ⟨rfl,hs⟩];exact ⟨r,rfl,fun h=>by cases h⟩
      ·rw[decide_eq_false hs,cnd_f,if_neg (fun hh=>hs hh.2)];exact ⟨r,rfl,fun _=>rfl⟩
   ·rw[decide_eq_false (by omega),Bool.not_false,cnd_t,if_neg h17,if_pos (.inl h2)]
    exact ⟨left,rfl,fun h=>by cases h⟩
noncomputable def loadV (pf:List ByteArray) (u:Nat) (h:ByteArray):ItemT×Nat:=
 if u<pf.length then (if (readV (pf.getD u (bs []))).2=true∧digestV (pf.getD u (bs []))=h then ((readV (pf.getD u (bs []))).1,0) else (zI,2)) else (zI,3)
theorem loadV_fit {pf:List ByteArray} {u:Nat} {h:ByteArray} (e:(loadV pf u h).2=0):fitV 4 (loadV pf u h).1=true∧u<pf.length:=by
 unfold loadV at e⊢
 split at e
 ·rename_i h1
  split at e
  ·rename_i h2
   rw[if_pos h1,if_pos h2]
   exact ⟨(itemR_inv (readV_fit h2.1)).1,h1⟩
  ·cases e
 ·cases e
theorem rd_pf (pf:List ByteArray) (u:Nat):rd (bs []) pf (u:Int)=pf.getD u (bs []):=by unfold rd;simp
theorem iLoad_l (pf:List ByteArray) (u:Nat) (r:List Int×Unit) (h:ByteArray) (hu:u≤pf.length) (hp:pf.length≤1000):iVerifier_load_d ((pf,((u:Int),r)),(h,()))=some (((loadV pf u h).1,(((loadV pf u h).2:Int),())),((pf,(((if u<pf.length then u+1 else u:Nat):Int),r)),())):=by
 rw[iVerifier_load_b]
 unfold loadV
 simp only[]
 rw[ieq_d,len_d]
 by_cases h1:u<pf.length
 ·rw[decide_eq_false (by omega),cnd_f,inb_t (by omega) (by omega),cnd_t,rd_pf,iReadI_l,bnd_s,next_at (by omega),if_pos h1,if_pos h1]
  simp only[]
  cases h2:(readV (pf.getD u (bs []))).2 with
  |false=>rw[show bnot false=true from rfl,cnd_t,if_neg (fun hh=>by cases hh.1)];rfl
  |true=>
   have hz:=(itemR_inv (readV_fit h2)).2.2
   rw[show bnot true=false from rfl,cnd_f,iDigest_l _ (by omega),bnd_s]
   simp only[]
   by_cases h3:digestV (pf.getD u (bs []))=h
   ·rw[sne_d,decide_eq_true h3,Bool.not_true,cnd_f,if_pos ⟨trivial,h3⟩];rfl
   ·rw[sne_d,decide_eq_false h3,Bool.not_false,cnd_t,if_neg (fun hh=>h3 hh.2)];rfl
 ·rw[decide_eq_true (by omega),cnd_t,if_neg h1,if_neg h1];rfl
theorem sLoad_l (pf:List ByteArray) (u:Nat) (left:List Int) (h:ByteArray) (x:ItemT) (hp:pf.length≤1000):sVerifyTrie_D8 (pf,(left,(h,((u:Int),(false,(x,()))))))=if (loadV pf u h).2=0 then sVerifyTrie_D16 (pf,(left,(h,(((u+1:Nat):Int),(false,((loadV pf u h).1,())))))) else some ((bs [],(false,(((loadV pf u h).2:Int),()))),()):=by
 rw[sVerifyTrie_q8,show bnot false=true from rfl,cnd_t,len_d]
 unfold loadV
 by_cases h1:u<pf.length
 ·rw[ige_d,decide_eq_false (by omega),cnd_f,inb_t (by omega) (by omega),cnd_t,rd_pf,sReadI_l,bnd_s,if_pos h1]
  simp only[]
  cases h2:(readV (pf.getD u (bs []))).2 with
  |false=>rw[show bnot false=true from rfl,cnd_t,if_neg (c:=false=true∧_) (fun hh=>by cases hh.1)];rfl
  |true=>
   have hz:=(itemR_inv (readV_fit h2)).2.2
   rw[show bnot true=false from rfl,cnd_f,cnd_t,sDigest_l _ (by omega),bnd_s]
   simp only[]
   by_cases h3:digestV (pf.getD u (bs []))=h
   ·rw[sne_d,decide_eq_true h3,Bool.not_true,cnd_f,if_pos (c:=True∧_) ⟨trivial,h3⟩,if_pos rfl,next_at (by omega)]
   ·rw[sne_d,decide_eq_false h3,Bool.not_false,cnd_t,if_neg (c:=True∧_) (fun hh=>h3 hh.2)];rfl
 ·rw[ige_d,decide_eq_true (by omega),cnd_t,if_neg h1];rfl
noncomputable def runV (pf:List ByteArray):Nat→List Int→Nat→ItemT→ByteArray× (Bool× (Nat×Nat))
 |0,_,u,_=>(bs [],(false,(3,u)))
 |f+1,left,u,x=>match (nextV x left).2.2 with
  |0=>if (nextV x left).1.l=true then runV pf f (left.drop (nextV x left).2.1) u (nextV x left).1 else
   if (nextV x left).1.s.size=32 then
    (if (loadV pf u (nextV x left).1.s).2=0 then runV pf f (left.drop (nextV x left).2.1) (u+1) (loadV pf u (nextV x left).1.s).1 else (bs [],(false,((loadV pf u (nextV x left).1.s).2,u))))
   else (bs [],(false,(3,u)))
  |1=>(bs [],(false,(0,u)))
  |2=>((nextV x left).1.s,(true,(0,u)))
  |_=>(bs [],(false,(3,u)))
def finV (pf:List ByteArray) (r:ByteArray× (Bool× (Nat×Nat))):ByteArray× (Bool× (Int×Unit)):=if r.2.2.1=0 then (if r.2.2.2<pf.length then (bs [],(false,(4,()))) else (r.1,(r.2.1,(0,())))) else (bs [],(false,((r.2.2.1:Int),())))
theorem sub_dropN {l:List Int} {n:Nat}:sub l (n:Int) (len l)=l.drop n:=by rw[len_d];unfold sub;simp
theorem sRun_l (pf:List ByteArray) (hp:pf.length≤1000): ∀ (f:Nat) (left:List Int) (hash:ByteArray) (u:Nat) (inside:Bool) (x:ItemT) (d:Nat),fitV d x=true→d≤4→6*(pf.length-u)+d<f→1≤u→u≤pf.length→(∀a∈left,0≤a∧a≤15)→left.length≤1000→ ¬(x.l=false∧x.s=bs []∧u=1∧inside=false)→
 sVerifyTrie_D16 (pf,(left,(hash,((u:Int),(inside,(x,()))))))=some (finV pf (runV pf f left u x),()):=by
 intro f
 induction f with
 |zero=>intro left hash u inside x d hf hd hm;omega
 |succ f ih=>
  intro left hash u inside x d hf hd hm hu1 hu h hl hs
  have hD:sVerifyTrie_D19 (pf,(left,(hash,((u:Int),(((nextV x left).2.1:Int),(((nextV x left).2.2:Int),(x,((nextV x left).1,()))))))))=some (finV pf (runV pf (f+1) left u x),()):=by
   obtain ⟨h3,h0⟩:=next_facts x left h
   unfold runV
   generalize hr:nextV x left=r at h3 h0⊢
   obtain ⟨y,n,k⟩:=r
   simp only[] at h3 h0⊢
   rw[sVerifyTrie_q19]
   match k,h3,h0 with
   |3,_,_=>rfl
   |1,_,_=>
    rw[show ieq ((1:Nat):Int) 3=false from rfl,cnd_f,show ine ((1:Nat):Int) 0=true from rfl,cnd_t,len_d]
    simp only[]
    unfold finV
    simp only[]
    by_cases hlt:u<pf.length
    ·rw[ilt_t (by omega),cnd_t,if_pos (c:=True) trivial,if_pos hlt]
    ·rw[ilt_f (by omega),cnd_f,if_pos (c:=True) trivial,if_neg hlt];rfl
   |2,_,_=>
    rw[show ieq ((2:Nat):Int) 3=false from rfl,cnd_f,show ine ((2:Nat):Int) 0=true from rfl,cnd_t,len_d]
    simp only[]
    unfold finV
    simp only[]
    by_cases hlt:u<pf.length
    ·rw[ilt_t (by omega),cnd_t,if_pos (c:=True) trivial,if_pos hlt]
    ·rw[ilt_f (by omega),cnd_f,if_pos (c:=True) trivial,if_neg hlt];rfl
   |0,_,h0=>
    obtain ⟨hy,hn⟩:=h0 rfl
    obtain ⟨hxl,e,rfl,hye⟩:=fit_kid hf hy
    have hin: ∀a∈left.drop n,0≤a∧a≤15:=fun a ha=>h a (List.mem_of_mem_drop ha)
    have hlen:(left.drop n).length≤1000:=by rw[List.length_drop];omega
    rw[show ieq ((0:Nat):Int) 3=false from rfl,cnd_f,show ine ((0:Nat):Int) 0=false from rfl,cnd_f,inb2_t (by omega) (by rw[len_d];omega) (by omega),cnd_t,sub_dropN]
    simp only[]
    cases hyl:y.l with
    |true=>
     rw[show bnot true=false from rfl,cnd_f,if_pos rfl,sVerifyTrie_q8,show bnot true=false from rfl,cnd_f]
     exact ih _ _ _ _ _ e hye (by omega) (by omega) hu1 hu hin hlen (fun hh=>by cases hh.2.2.2)
    |false=>
     rw[show bnot false=true from rfl,cnd_t,if_neg (by decide),ssz_d]
     by_cases h32:y.s.size=32
     ·rw[ine_d,decide_eq_true (by omega),Bool.not_true,cnd_f,if_pos h32,sLoad_l _ _ _ _ _ hp]
      by_cases hl0:(loadV pf u y.s).2=0
      ·obtain ⟨g1,g2⟩:=loadV_fit hl0
       rw[if_pos hl0,if_pos hl0]
       exact ih _ _ _ _ _ 4 g1 (by omega) (by omega) (by omega) (by omega) hin hlen (fun hh=>by have:=hh.2.2.1;omega)
      ·rw[if_neg hl0,if_neg hl0]
       unfold finV
       rw[if_neg hl0]
     ·rw[ine_d,decide_eq_false (by omega),Bool.not_false,cnd_t,if_neg h32];rfl
  rw[sVerifyTrie_q16,sNext_l x left (fit_small hf) h hl,bnd_s]
  simp only[]
  cases hxl:x.l with
  |true=>rw[show bnot true=false from rfl,cnd_f];exact hD
  |false=>
   rw[show bnot false=true from rfl,cnd_t,seq_d]
   by_cases hxs:x.s=bs []
   ·rw[decide_eq_true hxs,cnd_t,ieq_d]
    by_cases h1:u=1
    ·rw[decide_eq_true (by omega),cnd_t]
     cases inside with
     |true=>rw[show bnot true=false from rfl,cnd_f];exact hD
     |false=>exact absurd ⟨hxl,hxs,h1,rfl⟩ hs
    ·rw[decide_eq_false (by omega),cnd_f];exact hD
   ·rw[decide_eq_false hxs,cnd_f];exact hD
theorem iRun_l (pf:List ByteArray) (hp:pf.length≤1000): ∀ (f:Nat) (left:List Int) (u:Nat) (x:ItemT) (d:Nat),fitV d x=true→d≤4→6*(pf.length-u)+d<f→u≤pf.length→(∀a∈left,0≤a∧a≤15)→left.length≤1000→
 ∃ (s:tStop) (r:tVerifier),iVerifier_walk_D6 ((pf,((u:Int),(left,()))),(zStop,(x,())))=some ((s,()),(r,()))∧s.2.2.2.2.1=((runV pf f left u x).2.2.1:Int)∧((runV pf f left u x).2.2.1=0→s.2.2.1=(runV pf f left u x).1∧s.2.1=(runV pf f left u x).2.1∧r.2.1=((runV pf f left u x).2.2.2:Int)):=by
 intro f
 induction f with
 |zero=>intro left u x d hf hd hm;omega
 |succ f ih=>
  intro left u x d hf hd hm hu h hl
  obtain ⟨w,e,hw⟩:=iStep_l pf (u:Int) left x (fit_small hf) h hl
  obtain ⟨h3,h0⟩:=next_facts x left h
  rw[iVerifier_walk_q6,e,bnd_s]
  unfold runV
  generalize hr:nextV x left=r at h3 h0 hw⊢
  obtain ⟨y,n,k⟩:=r
  simp only[] at h3 h0 hw⊢
  match k,h3,h0,hw with
  |3,_,_,_=>exact ⟨_,_,rfl,rfl,fun h=>by cases h⟩
  |1,_,_,_=>exact ⟨_,_,rfl,rfl,fun _=>⟨rfl,rfl,rfl⟩⟩
  |2,_,_,_=>exact ⟨_,_,rfl,rfl,fun _=>⟨rfl,rfl,rfl⟩⟩
  |0,_,h0,hw=>
   obtain ⟨hy,hn⟩:=h0 rfl
   obtain ⟨hxl,e',rfl,hye⟩:=fit_kid hf hy
   obtain rfl:=hw rfl
   have hin: ∀a∈left.drop n,0≤a∧a≤15:=fun a ha=>h a (List.mem_of_mem_drop ha)
   have hlen:(left.drop n).length≤1000:=by rw[List.length_drop];omega
   simp only[stopK]
   rw[cnd_f,show ine 0 0=false from rfl,cnd_f]
   cases hyl:y.l with
   |true=>
    rw[cnd_t,if_pos rfl]
    exact ih _ _ _ e' hye (by omega) (by omega) hu hin hlen
   |false=>
    rw[cnd_f,if_neg (by decide),iIsDigest_l,bnd_s]
    simp only[]
    by_cases h32:y.s.size=32
    ·rw[decide_eq_true h32,show bnot true=false from rfl,cnd_f,if_pos h32,iLoad_l pf u _ _ hu hp,bnd_s]
     simp only[]
     by_cases hl0:(loadV pf u y.s).2=0
     ·obtain ⟨g1,g2⟩:=loadV_fit hl0
      rw[if_pos hl0,ine_d,decide_eq_true (by omega),Bool.not_true,cnd_f,if_pos g2]
      exact ih _ _ _ 4 g1 (by omega) (by omega) (by omega) hin hlen
     ·rw[if_neg hl0,ine_d,decide_eq_false (by omega),Bool.not_false,cnd_t]
      exact ⟨_,_,rfl,rfl,fun h=>absurd h hl0⟩
    ·rw[decide_eq_false h32,show bnot false=true from rfl,cnd_t,if_neg h32]
     exact ⟨_,_,rfl,rfl,fun h=>by cases h⟩
noncomputable def verV (root key:ByteArray) (pf:List ByteArray):ByteArray× (Bool× (Int×Unit)):=
 if¬(root.size=32∧key.size=4∧1≤pf.length∧pf.length≤12) then (bs [],(false,(1,()))) else
 if (loadV pf 0 root).2=0 then
  (if (loadV pf 0 root).1.l=false∧(loadV pf 0 root).1.s=bs [] then finV pf (bs [],(false,(0,1))) else finV pf (runV pf 100 (nibV key) 1 (loadV pf 0 root).1))
 else (bs [],(false,(((loadV pf 0 root).2:Int),())))
theorem sVer_l (root key:ByteArray) (pf:List ByteArray):sVerifyTrie_d (root,(key,(pf,())))=some (verV root key pf,()):=by
 rw[sVerifyTrie_b,ine_d,ssz_d,ine_d,ssz_d]
 unfold verV
 by_cases h1:root.size=32
 ·rw[decide_eq_true (by omega),Bool.not_true,cnd_f]
  by_cases h2:key.size=4
  ·rw[decide_eq_true (by omega),Bool.not_true,cnd_f,sIn_l,bnd_s,len_d]
   simp only[]
   by_cases h3:1≤pf.length∧pf.length≤12
   ·have hin:=nibV_in key
    have hn:=nibV_len key
    rw[decide_eq_true (by omega),show bnot true=false from rfl,cnd_f,sNib_l key (by omega),bnd_s,if_neg (fun hh=>hh ⟨h1,h2,h3.1,h3.2⟩)]
    show sVerifyTrie_D8 (pf,(nibV key,(root,(((0:Nat):Int),(false,(zI,()))))))=_
    rw[sLoad_l _ _ _ _ _ (by omega)]
    by_cases h0:(loadV pf 0 root).2=0
    ·obtain ⟨g1,g2⟩:=loadV_fit h0
     rw[if_pos h0,if_pos h0]
     by_cases h4:(loadV pf 0 root).1.l=false∧(loadV pf 0 root).1.s=bs []
     ·rw[if_pos h4,sVerifyTrie_q16,sNext_l _ (nibV key) (fit_small g1) hin (by omega),bnd_s,h4.1,h4.2]
      have e:nextV (loadV pf 0 root).1 (nibV key)=((loadV pf 0 root).1,(0,3)):=by unfold nextV;rw[if_pos h4.1]
      rw[e,show bnot false=true from rfl,cnd_t,seq_d,decide_eq_true rfl,cnd_t,show ieq ((0+1:Nat):Int) 1=true from rfl,cnd_t,cnd_t,sVerifyTrie_q19,show ieq 1 3=false from rfl,cnd_f,show ine 1 0=true from rfl,cnd_t,len_d]
      unfold finV
      simp only[]
      by_cases hlt:1<pf.length
      ·rw[ilt_t (by omega),cnd_t,if_pos (c:=True) trivial,if_pos hlt]
      ·rw[ilt_f (by omega),cnd_f,if_pos (c:=True) trivial,if_neg hlt];rfl
     ·rw[if_neg h4]
      exact sRun_l pf (by omega) 100 (nibV key) root 1 false _ 4 g1 (by omega) (by omega) (by omega) (by omega) hin (by omega) (fun hh=>h4 ⟨hh.1,hh.2.1⟩)
    ·rw[if_neg h0,if_neg h0]
   ·rw[decide_eq_false (by omega),show bnot false=true from rfl,cnd_t,if_pos (fun hh=>h3 ⟨hh.2.2.1,hh.2.2.2⟩)]
  ·rw[decide_eq_false (by omega),Bool.not_false,cnd_t,if_pos (fun hh=>h2 hh.2.1)]
 ·rw[decide_eq_false (by omega),Bool.not_false,cnd_t,if_pos (fun hh=>h1 hh.1)]
theorem iVer_l (root key:ByteArray) (pf:List ByteArray):iVerifyTrie_d (root,(key,(pf,())))=some (verV root key pf,()):=by
 rw[iVerifyTrie_b,iIsDigest_l,bnd_s]
 unfold verV
 simp only[]
 by_cases h1:root.size=32
 ·rw[decide_eq_true h1,show bnot true=false from rfl,cnd_f,ine_d,ssz_d]
  by_cases h2:key.size=4
  ·rw[decide_eq_true (by omega),Bool.not_true,cnd_f,len_d]
   by_cases h3:1≤pf.length∧pf.length≤12
   ·have hin:=nibV_in key
    have hn:=nibV_len key
    rw[ilt_f (by omega),cnd_f,igt_f (by omega),cnd_f,iNib_l key (by omega),bnd_s,if_neg (fun hh=>hh ⟨h1,h2,h3.1,h3.2⟩),iVerifier_walk_b,show (0:Int)=((0:Nat):Int) from rfl,iLoad_l pf 0 _ _ (by omega) (by omega),bnd_s,if_pos (show 0<pf.length by omega)]
    simp only[]
    by_cases h0:(loadV pf 0 root).2=0
    ·obtain ⟨g1,g2⟩:=loadV_fit h0
     rw[if_pos h0,ine_d,decide_eq_true (by omega),Bool.not_true,cnd_f,seq_d]
     have fin: ∀ (s:tStop) (r:tVerifier) (q:ByteArray× (Bool× (Nat×Nat))),s.2.2.2.2.1=(q.2.2.1:Int)→(q.2.2.1=0→s.2.2.1=q.1∧s.2.1=q.2.1∧r.2.1=(q.2.2.2:Int))→
      Go.TV.cnd (ine s.2.2.2.2.1 ((0:Nat):Int)) (some ((bs [],(false,(s.2.2.2.2.1,()))),())) (Go.TV.cnd (ilt r.2.1 (pf.length:Int)) (some ((bs [],(false,(4,()))),())) (some ((s.2.2.1,(s.2.1,(((0:Nat):Int),()))),())))=some (finV pf q,()):=by
      intro s r q e1 e2
      unfold finV
      by_cases hq:q.2.2.1=0
      ·obtain ⟨a1,a2,a3⟩:=e2 hq
       rw[e1,ine_d,decide_eq_true (by omega),Bool.not_true,cnd_f,if_pos hq,a3]
       by_cases hlt:q.2.2.2<pf.length
       ·rw[ilt_t (by omega),cnd_t,if_pos hlt]
       ·rw[ilt_f (by omega),cnd_f,if_neg hlt,a1,a2];rfl
      ·rw[e1,ine_d,decide_eq_false (by omega),Bool.not_false,cnd_t,if_neg hq]
     by_cases h4:(loadV pf 0 root).1.l=false∧(loadV pf 0 root).1.s=bs []
     ·rw[if_pos h4,h4.1,h4.2,show bnot false=true from rfl,cnd_t,decide_eq_true rfl,cnd_t,bnd_s]
      exact fin (true,(false,(bs [],(zI,(0,()))))) (pf,(((0+1:Nat):Int),(nibV key,()))) (bs [],(false,(0,1))) rfl (fun _=>⟨rfl,rfl,rfl⟩)
     ·rw[if_neg h4]
      obtain ⟨s,r,e1,e2,e3⟩:=iRun_l pf (by omega) 100 (nibV key) 1 (loadV pf 0 root).1 4 g1 (by omega) (by omega) (by omega) hin (by omega)
      have e1':iVerifier_walk_D6 ((pf,(((0+1:Nat):Int),(nibV key,()))),(zStop,((loadV pf 0 root).1,())))=some ((s,()),(r,())):=e1
      rw[e1']
      have e5:Go.TV.cnd (bnot (loadV pf 0 root).1.l) (Go.TV.cnd (decide ((loadV pf 0 root).1.s=bs [])) (some (((true,(false,(bs [],(ItemT.mk false (bs []) [],(0,()))))),()),((pf,(((0+1:Nat):Int),(nibV key,()))),()))) (some ((s,()),(r,())))) (some ((s,()),(r,())))=some ((s,()),(r,())):=by
       cases hl:(loadV pf 0 root).1.l with
       |true=>rfl
       |false=>
        rw[decide_eq_false (fun hs=>h4 ⟨hl,hs⟩)];rfl
      rw[show (((0:Nat):Int))=0 from rfl]
      rw[e5,bnd_s]
      exact fin s r _ e2 e3
    ·rw[if_neg h0,ine_d,decide_eq_false (by omega),Bool.not_false,cnd_t,bnd_s]
     simp only[]
     rw[ine_d,decide_eq_false (by omega),Bool.not_false,cnd_t]
   ·by_cases h3':1≤pf.length
    ·rw[ilt_f (by omega),cnd_f,igt_t (by omega),cnd_t,if_pos (fun hh=>h3 ⟨hh.2.2.1,hh.2.2.2⟩)]
    ·rw[ilt_t (by omega),cnd_t,if_pos (fun hh=>h3 ⟨hh.2.2.1,hh.2.2.2⟩)]
  ·rw[decide_eq_false (by omega),Bool.not_false,cnd_t,if_pos (fun hh=>h2 hh.2.1)]
 ·rw[decide_eq_false h1,show bnot false=true from rfl,cnd_t,if_pos (fun hh=>h1 hh.1)]
theorem verify_same (root key:ByteArray) (pf:List ByteArray): ∃v b c,sVerifyTrie_d (root,(key,(pf,())))=some ((v,(b,(c,()))),())∧iVerifyTrie_d (root,(key,(pf,())))=some ((v,(b,(c,()))),()):=
 ⟨_,_,_,sVer_l root key pf,iVer_l root key pf⟩
end Go.Proofs.YtoeiajpklkijgaaGreatDoor
