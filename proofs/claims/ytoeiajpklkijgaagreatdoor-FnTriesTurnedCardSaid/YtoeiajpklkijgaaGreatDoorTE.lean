/- Tries. Of no condition. -/
import Derived.Test.YtoeiajpklkijgaaGreatDoorTD
set_option linter.unusedVariables false
set_option linter.unusedSimpArgs false
set_option maxRecDepth 100000
namespace Go.Proofs.YtoeiajpklkijgaaGreatDoor
open Go.TV
theorem fit_len {d:Nat} {l:Bool} {s:ByteArray} {k:List ItemT} (h:fitV d (.mk l s k)=true):k.length≤17:=by
 cases l with
 |false=>rw[(fit_leaf h).2];simp
 |true=>exact (fit_list h).2.1
theorem fit_kids {d:Nat} {l:Bool} {s:ByteArray} {k:List ItemT} (h:fitV d (.mk l s k)=true): ∀y∈k,∃e,e<d∧fitV e y=true:=by
 intro y hy
 cases l with
 |false=>rw[(fit_leaf h).2] at hy;cases hy
 |true=>
  obtain ⟨_,_,e,rfl,h3⟩:=fit_list h
  exact ⟨e,by omega,h3 y hy⟩
theorem iCopyI_l: ∀ (d:Nat) (x:ItemT),fitV d x=true→iCopyItem_d (x,())=some ((x,()),()):=by
 intro d
 induction d using Nat.strongRecOn with
 |ind d IH=>
  intro x h
  obtain ⟨l,s,k⟩:=x
  have hl:=fit_len h
  have hk:=fit_kids h
  have loop: ∀ (m i:Nat) (z:ItemT) (acc:List ItemT),i+m=k.length→acc.length=i→iCopyItem_D3 (k,(len k,((i:Int),(z,(.mk l s acc,())))))=some ((.mk l s (acc++k.drop i),()),()):=by
   intro m
   induction m with
   |zero=>intro i z acc hi ha;rw[iCopyItem_q3,show (i:Int)=(k.length:Int) by omega,ilt_end,cnd_f,List.drop_eq_nil_of_le (by omega),List.append_nil]
   |succ m ih=>
    intro i z acc hi ha
    have h1:i<k.length:=by omega
    obtain ⟨e,he,hf⟩:=hk k[i] (List.getElem_mem h1)
    rw[iCopyItem_q3,ilt_at h1,cnd_t,inb_at h1,cnd_t,rd_at h1,IH e he k[i] hf,bnd_s]
    show Go.TV.cnd (fits (len acc+len [k[i]]) 3) (iCopyItem_D3 (k,(len k,(iadd .i64 (i:Int) 1,(z,(.mk l s (acc++[k[i]]),())))))) _=_
    rw[app_fits (by decide) (by simp;omega),cnd_t,next_at (by omega),ih (i+1) z _ (by omega) (by simp;omega),List.append_assoc,List.drop_eq_getElem_cons h1];rfl
  rw[iCopyItem_b]
  exact loop k.length 0 _ [] (by omega) rfl
theorem sCopyI_l: ∀ (d:Nat) (x:ItemT),fitV d x=true→sL19Copy_d (x,())=some ((x,()),()):=by
 intro d
 induction d using Nat.strongRecOn with
 |ind d IH=>
  intro x h
  obtain ⟨l,s,k⟩:=x
  have hl:=fit_len h
  have hk:=fit_kids h
  have loop: ∀ (m i:Nat) (z:ItemT) (acc:List ItemT),i+m=k.length→acc.length=i→sL19Copy_D3 ((i:Int),(.mk l s k,(z,(.mk l s acc,()))))=some ((.mk l s (acc++k.drop i),()),()):=by
   intro m
   induction m with
   |zero=>
    intro i z acc hi ha
    rw[sL19Copy_q3]
    show Go.TV.cnd (ilt (i:Int) (len k)) _ _=_
    rw[show (i:Int)=(k.length:Int) by omega,ilt_end,cnd_f,List.drop_eq_nil_of_le (by omega),List.append_nil]
   |succ m ih=>
    intro i z acc hi ha
    have h1:i<k.length:=by omega
    obtain ⟨e,he,hf⟩:=hk k[i] (List.getElem_mem h1)
    rw[sL19Copy_q3]
    show Go.TV.cnd (ilt (i:Int) (len k)) (Go.TV.cnd (inb (i:Int) (len k)) (Go.TV.bnd (sL19Copy_d (rd (ItemT.mk false (bs []) ([]:List ItemT)) k (i:Int),())) _) _) _=_
    rw[ilt_at h1,cnd_t,inb_at h1,cnd_t,rd_at h1,IH e he k[i] hf,bnd_s]
    show Go.TV.cnd (fits (len acc+len [k[i]]) 3) (sL19Copy_D3 (iadd .i64 (i:Int) 1,(.mk l s k,(z,(.mk l s (acc++[k[i]]),()))))) _=_
    rw[app_fits (by decide) (by simp;omega),cnd_t,next_at (by omega),ih (i+1) z _ (by omega) (by simp;omega),List.append_assoc,List.drop_eq_getElem_cons h1];rfl
  rw[sL19Copy_b]
  exact loop k.length 0 _ [] (by omega) rfl
theorem itemR_fit {x:ItemT} (h:(itemR x).2=true):fitV 4 x=true:=by
 unfold itemR at h
 split at h
 ·rename_i hh;exact hh.1
 ·cases h
noncomputable def refV (x:ItemT):ItemT:=if (itemR x).2=true∧(itemR x).1.size≤31 then x else .mk false (digestV (itemR x).1) []
theorem iRef_l (x:ItemT):iTrieRef_d (x,())=some ((refV x,()),()):=by
 have hz:=itemR_size x
 rw[iTrieRef_b,iItemText_l x,bnd_s]
 simp only[]
 unfold refV
 cases h:(itemR x).2 with
 |false=>rw[cnd_f,iDigest_l _ (by omega),bnd_s,if_neg (by simp)]
 |true=>
  rw[cnd_t]
  by_cases h3:(itemR x).1.size≤31
  ·rw[ile_d,ssz_d,decide_eq_true (by omega),cnd_t,iCopyI_l 4 x (itemR_fit h),bnd_s,if_pos ⟨by trivial,h3⟩]
  ·rw[ile_d,ssz_d,decide_eq_false (by omega),cnd_f,iDigest_l _ (by omega),bnd_s,if_neg (fun hh=>h3 hh.2)]
theorem sRef_l (x:ItemT):sTrieRef_d (x,())=some ((refV x,()),()):=by
 have hz:=itemR_size x
 rw[sTrieRef_b,sItemText_l x,bnd_s]
 simp only[]
 unfold refV
 cases h:(itemR x).2 with
 |false=>rw[cnd_f,sDigest_l _ (by omega),bnd_s,sL19Text_b,bnd_s,if_neg (by simp)]
 |true=>
  rw[cnd_t]
  by_cases h3:(itemR x).1.size≤31
  ·rw[ilt_t (by rw[ssz_d];omega),cnd_t,sCopyI_l 4 x (itemR_fit h),bnd_s,if_pos ⟨by trivial,h3⟩]
  ·rw[ilt_f (by rw[ssz_d];omega),cnd_f,sDigest_l _ (by omega),bnd_s,sL19Text_b,bnd_s,if_neg (fun hh=>h3 hh.2)]
structure GoodP (l:List tPair) (n:Nat):Prop where
 len:l.length≤100
 key: ∀p∈l,p.1.size=4
 dist:l.Pairwise fun p q=>p.1≠q.1
 agr: ∀p∈l,∀q∈l,(nibV p.1).take n=(nibV q.1).take n
 le:n≤8
theorem GoodP.nib {l:List tPair} {n:Nat} (h:GoodP l n) {p:tPair} (hp:p∈l):(nibV p.1).length=8:=by rw[nibV_len,h.key p hp]
def shV (l:List tPair) (f:List Int) (n:Nat) (m:Nat):Nat:=l.foldl (fun m p=>min m (comV f ((nibV p.1).drop n))) m
theorem shV_le: ∀ (l:List tPair) (f:List Int) (n m:Nat),shV l f n m≤m
 | [],f,n,m=>Nat.le_refl _
 |p::l,f,n,m=>by
  have:=shV_le l f n (min m (comV f ((nibV p.1).drop n)))
  show shV l f n (min m (comV f ((nibV p.1).drop n)))≤m
  omega
theorem shV_com: ∀ (l:List tPair) (f:List Int) (n m:Nat),∀p∈l,shV l f n m≤comV f ((nibV p.1).drop n)
 | [],f,n,m,p,h=>by cases h
 |q::l,f,n,m,p,h=>by
  show shV l f n (min m (comV f ((nibV q.1).drop n)))≤_
  rcases List.mem_cons.1 h with rfl|h
  ·have:=shV_le l f n (min m (comV f ((nibV p.1).drop n)))
   omega
  ·exact shV_com l f n _ p h
theorem sub_drop {l:List Int} {n:Nat}:sub l (n:Int) (len l)=l.drop n:=by rw[len_d];unfold sub;simp
theorem imin_nat (a b:Nat):imin (a:Int) (b:Int)=((min a b:Nat):Int):=by unfold imin;split<;>omega
theorem iShared_loop (n:Nat) (f:List Int) (hf:f.length≤1000) (hn:n≤8) (l:List tPair) (hl:l.length≤100) (hk: ∀p∈l,p.1.size=4): ∀ (m i c:Nat),i+m=l.length→iSharedFrom_D4 ((n:Int),(f,((c:Int),(l,(len l,((i:Int),()))))))=some (((shV (l.drop i) f n c:Int),()),()):=by
 intro m
 induction m with
 |zero=>intro i c hi;rw[iSharedFrom_q4,show (i:Int)=(l.length:Int) by omega,ilt_end,cnd_f,List.drop_eq_nil_of_le (by omega)];rfl
 |succ m ih=>
  intro i c hi
  have h1:i<l.length:=by omega
  have hz:=hk l[i] (List.getElem_mem h1)
  rw[iSharedFrom_q4,ilt_at h1,cnd_t,inb_at h1,cnd_t,rd_at h1,iNib_l _ (by omega),bnd_s]
  simp only[]
  rw[show inb2 (n:Int) (len (nibV l[i].1)) (len (nibV l[i].1))=true by rw[len_d,nibV_len];exact inb2_t (by omega) (by omega) (by omega),cnd_t,sub_drop,iCom_l f _ (by omega),bnd_s]
  simp only[]
  rw[imin_nat,next_at (by omega),ih (i+1) _ (by omega),List.drop_eq_getElem_cons h1]
  rfl
theorem sShared_loop (n:Nat) (f:List Int) (hf:f.length≤1000) (hn:n≤8) (l:List tPair) (hl:l.length≤100) (hk: ∀p∈l,p.1.size=4): ∀ (m i c:Nat),i+m=l.length→sL19Shared_D4 (l,((n:Int),((c:Int),(f,((i:Int),())))))=some (((shV (l.drop i) f n c:Int),()),()):=by
 intro m
 induction m with
 |zero=>intro i c hi;rw[sL19Shared_q4,show (i:Int)=(l.length:Int) by omega,ilt_end,cnd_f,List.drop_eq_nil_of_le (by omega)];rfl
 |succ m ih=>
  intro i c hi
  have h1:i<l.length:=by omega
  have hz:=hk l[i] (List.getElem_mem h1)
  rw[sL19Shared_q4,ilt_at h1,cnd_t,inb_at h1,cnd_t,rd_at h1,sNib_l _ (by omega),bnd_s]
  simp only[]
  rw[show inb2 (n:Int) (len (nibV l[i].1)) (len (nibV l[i].1))=true by rw[len_d,nibV_len];exact inb2_t (by omega) (by omega) (by omega),cnd_t,sub_drop,sCom_l f _ (by omega),bnd_s]
  simp only[]
  by_cases hc:comV f ((nibV l[i].1).drop n)<c
  ·rw[ilt_t (by omega),cnd_t,next_at (by omega),ih (i+1) _ (by omega),List.drop_eq_getElem_cons h1]
   show some (((shV (l.drop (i+1)) f n (comV f ((nibV l[i].1).drop n)):Int),()),())=some (((shV (l.drop (i+1)) f n (min c (comV f ((nibV l[i].1).drop n))):Int),()),())
   rw[Nat.min_eq_right (by omega)]
  ·rw[ilt_f (by omega),cnd_f,next_at (by omega),ih (i+1) _ (by omega),List.drop_eq_getElem_cons h1]
   show some (((shV (l.drop (i+1)) f n c:Int),()),())=some (((shV (l.drop (i+1)) f n (min c (comV f ((nibV l[i].1).drop n))):Int),()),())
   rw[Nat.min_eq_left (by omega)]
theorem iShared_l (p:tPair) (l:List tPair) (n:Nat) (h:GoodP (p::l) n):iSharedFrom_d (p::l,((n:Int),()))=some (((shV l ((nibV p.1).drop n) n (8-n):Int),()),()):=by
 have hz:=h.key p (by simp)
 have hln:=h.len
 have hle:=h.le
 have h8:=h.nib (p:=p) (by simp)
 simp only[List.length_cons] at hln
 rw[iSharedFrom_b,show inb 0 (len (p::l))=true from inb_at (i:=0) (Nat.succ_pos _),cnd_t,show rd zPair (p::l) 0=p from rfl,iNib_l _ (by omega),bnd_s]
 simp only[]
 rw[show inb2 (n:Int) (len (nibV p.1)) (len (nibV p.1))=true by rw[len_d,h8];exact inb2_t (by omega) (by omega) (by omega),cnd_t,show inb2 1 (len (p::l)) (len (p::l))=true by rw[len_d];exact inb2_t (by omega) (by simp only[List.length_cons];omega) (by omega),cnd_t,sub_drop,show sub (p::l) 1 (len (p::l))=l by rw[len_d];unfold sub;simp,show len ((nibV p.1).drop n)=((8-n:Nat):Int) by rw[len_d,List.length_drop,h8]]
 have:=iShared_loop n ((nibV p.1).drop n) (by rw[List.length_drop];omega) hle l (by omega) (fun q hq=>h.key q (by simp [hq])) l.length 0 (8-n) (by omega)
 rw[List.drop_zero] at this
 exact this
theorem sShared_l (p:tPair) (l:List tPair) (n:Nat) (h:GoodP (p::l) n):sL19Shared_d (p::l,((n:Int),()))=some (((shV l ((nibV p.1).drop n) n (8-n):Int),()),()):=by
 have hz:=h.key p (by simp)
 have hln:=h.len
 have hle:=h.le
 have h8:=h.nib (p:=p) (by simp)
 simp only[List.length_cons] at hln
 rw[sL19Shared_b,show inb 0 (len (p::l))=true from inb_at (i:=0) (Nat.succ_pos _),cnd_t,show rd zPair (p::l) 0=p from rfl,sNib_l _ (by omega),bnd_s]
 simp only[]
 rw[show inb2 (n:Int) (len (nibV p.1)) (len (nibV p.1))=true by rw[len_d,h8];exact inb2_t (by omega) (by omega) (by omega),cnd_t,sub_drop,isub_64 (by omega) (by omega),show (8:Int)- (n:Int)=((8-n:Nat):Int) by omega]
 have:=sShared_loop n ((nibV p.1).drop n) (by rw[List.length_drop];omega) hle (p::l) (by simp only[List.length_cons];omega) h.key l.length 1 (8-n) (by simp only[List.length_cons];omega)
 exact this
theorem take_add {α:Type} (a:List α) (n k:Nat):a.take (n+k)=a.take n++(a.drop n).take k:=List.take_add
theorem GoodP.step {p:tPair} {l:List tPair} {n:Nat} (h:GoodP (p::l) n):GoodP (p::l) (n+shV l ((nibV p.1).drop n) n (8-n)):=by
 have hle:=shV_le l ((nibV p.1).drop n) n (8-n)
 have h8:=h.le
 refine ⟨h.len,h.key,h.dist,?_,by omega⟩
 have one: ∀q∈p::l,((nibV q.1).drop n).take (shV l ((nibV p.1).drop n) n (8-n))=((nibV p.1).drop n).take (shV l ((nibV p.1).drop n) n (8-n)):=by
  intro q hq
  rcases List.mem_cons.1 hq with rfl|hq
  ·rfl
  ·exact (com_take _ _ _ (shV_com l _ n _ q hq)).symm
 intro q hq r hr
 rw[take_add,take_add,one q hq,one r hr,h.agr q hq r hr]
theorem GoodP.lt {p q:tPair} {l:List tPair} {n:Nat} (h:GoodP (p::q::l) n):n<8:=by
 rcases Nat.lt_or_ge n 8 with h1|h1
 ·exact h1
 ·exfalso
  have h2:=h.agr p (by simp) q (by simp)
  rw[List.take_of_length_le (by rw[h.nib (p:=p) (by simp)];exact h1),List.take_of_length_le (by rw[h.nib (p:=q) (by simp)];exact h1)] at h2
  have h3:=h.dist
  rw[List.pairwise_cons] at h3
  exact h3.1 q (by simp) (nibV_inj h2)
def halfOf (p:tPair) (n:Nat) (k:Int):Bool:=decide ((nibV p.1).getD n 0=k)
theorem GoodP.half {l:List tPair} {n:Nat} (h:GoodP l n) (hn:n<8) (k:Int):GoodP (l.filter fun p=>halfOf p n k) (n+1):=by
 refine ⟨Nat.le_trans (List.length_filter_le _ _) h.len,fun p hp=>h.key p ((List.mem_filter.1 hp).1),h.dist.filter _,fun p hp q hq=>?_,by omega⟩
 have hp':=List.mem_filter.1 hp
 have hq':=List.mem_filter.1 hq
 have e1:=of_decide_eq_true hp'.2
 have e2:=of_decide_eq_true hq'.2
 have l1:=h.nib hp'.1
 have l2:=h.nib hq'.1
 rw[take_add,take_add,h.agr p hp'.1 q hq'.1]
 congr 1
 rw[List.drop_eq_getElem_cons (by omega:n<(nibV p.1).length),List.drop_eq_getElem_cons (by omega:n<(nibV q.1).length)]
 rw[List.getD_eq_getElem?_getD,List.getElem?_eq_getElem (by omega:n<(nibV p.1).length),Option.getD_some] at e1
 rw[List.getD_eq_getElem?_getD,List.getElem?_eq_getElem (by omega:n<(nibV q.1).length),Option.getD_some] at e2
 simp only[List.take_succ_cons,List.take_zero,e1,e2]
theorem filt_cons (l:List tPair) (i:Nat) (h:i<l.length) (n:Nat) (k:Int):(l.drop i).filter (fun p=>halfOf p n k)=if (nibV l[i].1).getD n 0=k then l[i]::(l.drop (i+1)).filter (fun p=>halfOf p n k) else (l.drop (i+1)).filter (fun p=>halfOf p n k):=by
 rw[List.drop_eq_getElem_cons h,List.filter_cons]
 unfold halfOf
 by_cases hc:(nibV l[i].1).getD n 0=k
 ·rw[if_pos hc,if_pos (decide_eq_true hc)]
 ·rw[if_neg hc,if_neg (by rw[decide_eq_false hc];decide)]
theorem iWith_l (l:List tPair) (n:Nat) (hn:n<8) (k:Int) (hl:l.length≤100) (hk: ∀p∈l,p.1.size=4):iWithHalf_d (l,((n:Int),(k,())))=some ((l.filter (fun p=>halfOf p n k),()),()):=by
 have loop: ∀ (m i:Nat) (acc:List tPair),i+m=l.length→acc.length≤i→iWithHalf_D3 ((n:Int),(k,(acc,(l,(len l,((i:Int),()))))))=some ((acc++(l.drop i).filter (fun p=>halfOf p n k),()),()):=by
  intro m
  induction m with
  |zero=>intro i acc hi ha;rw[iWithHalf_q3,show (i:Int)=(l.length:Int) by omega,ilt_end,cnd_f,List.drop_eq_nil_of_le (by omega)];simp
  |succ m ih=>
   intro i acc hi ha
   have h1:i<l.length:=by omega
   have hz:=hk l[i] (List.getElem_mem h1)
   have h8:n<(nibV l[i].1).length:=by rw[nibV_len,hz];omega
   rw[iWithHalf_q3,ilt_at h1,cnd_t,inb_at h1,cnd_t,rd_at h1,iNib_l _ (by omega),bnd_s]
   simp only[]
   rw[inb_at h8,cnd_t,ieq_d,filt_cons l i h1]
   show Go.TV.cnd (decide ((nibV l[i].1).getD n 0=k)) _ _=_
   by_cases hc:(nibV l[i].1).getD n 0=k
   ·rw[decide_eq_true hc,cnd_t,if_pos hc,app_fits (by decide) (by simp;omega),cnd_t,next_at (by omega)]
    show iWithHalf_D3 ((n:Int),(k,(acc++[l[i]],(l,(len l,(((i+1:Nat):Int),()))))))=_
    rw[ih (i+1) _ (by omega) (by simp;omega),List.append_assoc];rfl
   ·rw[decide_eq_false hc,cnd_f,if_neg hc,next_at (by omega),ih (i+1) _ (by omega) (by omega)]
 rw[iWithHalf_b]
 exact loop l.length 0 [] (by omega) (by simp)
end Go.Proofs.YtoeiajpklkijgaaGreatDoor
