/- Proofs of tries are made. Of no condition. -/
import Derived.Test.YtoeiajpklkijgaaGreatDoorTF
set_option linter.unusedVariables false
set_option linter.unusedSimpArgs false
set_option maxRecDepth 100000
namespace Go.Proofs.YtoeiajpklkijgaaGreatDoor
open Go.TV
noncomputable def ownV (f n:Nat) (l:List tPair):List ByteArray:=if 31<(itemR (trieV f n l)).1.size then [(itemR (trieV f n l)).1] else []
noncomputable def proveR:Nat→Nat→List tPair→List Int→List ByteArray
 |f+1,n,p::q::r,h=>if shV (q::r) ((nibV p.1).drop n) n (8-n)=0 then
   ownV f (n+1) ((p::q::r).filter fun p=>halfOf p n (h.getD n 0))++proveR f (n+1) ((p::q::r).filter fun p=>halfOf p n (h.getD n 0)) h
  else if comV (h.drop n) ((nibV p.1).drop n)<shV (q::r) ((nibV p.1).drop n) n (8-n) then []
  else ownV f (n+shV (q::r) ((nibV p.1).drop n) n (8-n)) (p::q::r)++proveR f (n+shV (q::r) ((nibV p.1).drop n) n (8-n)) (p::q::r) h
 |_,_,_,_=>[]
theorem proveR_len: ∀ (f n:Nat) (l:List tPair) (h:List Int),(proveR f n l h).length≤f
 |0,n,l,h=>by simp [proveR]
 |f+1,n,[],h=>by simp [proveR]
 |f+1,n,[p],h=>by simp [proveR]
 |f+1,n,p::q::r,h=>by
  have own: ∀n l,(ownV f n l).length≤1:=fun n l=>by unfold ownV;split<;>simp
  unfold proveR
  split
  ·have h1:=own (n+1) ((p::q::r).filter fun p=>halfOf p n (h.getD n 0))
   have h2:=proveR_len f (n+1) ((p::q::r).filter fun p=>halfOf p n (h.getD n 0)) h
   rw[List.length_append];omega
  ·split
   ·simp
   ·have h1:=own (n+shV (q::r) ((nibV p.1).drop n) n (8-n)) (p::q::r)
    have h2:=proveR_len f (n+shV (q::r) ((nibV p.1).drop n) n (8-n)) (p::q::r) h
    rw[List.length_append];omega
noncomputable def proveV (l:List tPair) (k:ByteArray):List ByteArray:=(itemR (trieV 9 0 l)).1::proveR 9 0 l (nibV k)
theorem iProve_l: ∀ (f n:Nat) (l:List tPair) (out:List ByteArray) (k:ByteArray) (told:Bool),8-n<f→GoodP l n→k.size=4→out.length+f≤1000→
 iProveFrom_d (out,(l,(nibV k,((n:Int),(told,())))))=some ((out++((if told=true then [(itemR (trieV f n l)).1] else ownV f n l)++proveR f n l (nibV k)),()),()):=by
 intro f
 induction f with
 |zero=>intro n l out k told h;omega
 |succ f IH=>
  intro n l out k told hf h hk ho
  have hkl:(nibV k).length=8:=by rw[nibV_len,hk]
  have h4: ∀out':List ByteArray,out'.length+f≤1000→iProveFrom_D4 (out',(l,(nibV k,((n:Int),()))))=some ((out'++proveR (f+1) n l (nibV k),()),()):=by
   intro out' ho'
   rw[iProveFrom_q4,len_d]
   match l,h with
   | [],h=>rw[ilt_t (by simp),cnd_t];simp [proveR]
   | [p],h=>rw[ilt_t (by simp),cnd_t];simp [proveR]
   |p::q::r,h=>
    have hlt:=h.lt
    have hln:=h.len
    have hp:=h.nib (p:=p) (by simp)
    have hz:=h.key p (by simp)
    have hst:=h.step
    have hshle:=shV_le (q::r) ((nibV p.1).drop n) n (8-n)
    rw[ilt_f (by simp only[List.length_cons];omega),cnd_f,iShared_l p (q::r) n h,bnd_s]
    simp only[]
    unfold proveR
    generalize hsh:shV (q::r) ((nibV p.1).drop n) n (8-n)=sh at*
    by_cases hs:sh=0
    ·subst hs
     have h8:n<(nibV k).length:=by omega
     rw[show ieq ((0:Nat):Int) 0=true from rfl,cnd_t,inb_at h8,cnd_t,rd_at h8,iWith_l _ n hlt _ hln h.key,bnd_s]
     simp only[]
     have e:(nibV k).getD n 0=(nibV k)[n]:=by rw[List.getD_eq_getElem?_getD,List.getElem?_eq_getElem h8];rfl
     rw[next_at (by omega),IH (n+1) _ out' k false (by omega) (h.half hlt _) hk (by omega),bnd_s,if_pos trivial,e]
     rfl
    ·rw[ieq_d,decide_eq_false (by omega),cnd_f,inb2_t (by omega) (by rw[len_d];omega) (by omega),cnd_t,show inb 0 ((p::q::r).length:Int)=true from inb_t (by omega) (by simp only[List.length_cons];omega),cnd_t,show rd zPair (p::q::r) 0=p from rfl,iNib_l _ (by omega),bnd_s]
     simp only[]
     rw[inb2_t (i:=(n:Int)) (j:=len (nibV p.1)) (by omega) (by rw[len_d];omega) (by omega),cnd_t,sub_drop,sub_drop,iCom_l _ _ (by rw[List.length_drop];omega),bnd_s,if_neg hs]
     simp only[]
     by_cases hc:comV ((nibV k).drop n) ((nibV p.1).drop n)<sh
     ·rw[ilt_t (by omega),cnd_t,if_pos hc,List.append_nil]
     ·rw[ilt_f (by omega),cnd_f,iadd_64 (by omega) (by omega),show (n:Int)+(sh:Int)=((n+sh:Nat):Int) by omega,IH (n+sh) _ out' k false (by omega) hst hk (by omega),bnd_s,if_neg hc]
      rfl
  have hz:=itemR_size (trieV (f+1) n l)
  rw[iProveFrom_b,iTrie_is (f+1) n l hf h,bnd_s]
  simp only[]
  rw[iItemText_l,bnd_s]
  simp only[]
  cases told with
  |true=>
   rw[cnd_t,app_fits (by decide) (by simp only[List.length_cons,List.length_nil];omega),cnd_t,if_pos rfl]
   show iProveFrom_D4 (out++[(itemR (trieV (f+1) n l)).1],(l,(nibV k,((n:Int),()))))=_
   rw[h4 _ (by simp only[List.length_append,List.length_cons,List.length_nil];omega),List.append_assoc]
  |false=>
   rw[cnd_f,if_neg (by decide),ssz_d]
   unfold ownV
   by_cases h31:31<(itemR (trieV (f+1) n l)).1.size
   ·rw[igt_t (by omega),cnd_t,app_fits (by decide) (by simp only[List.length_cons,List.length_nil];omega),cnd_t,if_pos h31]
    show iProveFrom_D4 (out++[(itemR (trieV (f+1) n l)).1],(l,(nibV k,((n:Int),()))))=_
    rw[h4 _ (by simp only[List.length_append,List.length_cons,List.length_nil];omega),List.append_assoc]
   ·rw[igt_f (by omega),cnd_f,if_neg h31,h4 _ (by omega),List.nil_append]
noncomputable def provedV (l:List tPair) (k:ByteArray):List ByteArray:=if k.size=4∧pokV l=true then proveV l k else []
theorem iProveT_l (l:List tPair) (k:ByteArray):iProveTrie_d (l,(k,()))=some ((provedV l k,()),()):=by
 rw[iProveTrie_b,ine_d,ssz_d]
 unfold provedV
 by_cases hk:k.size=4
 ·rw[decide_eq_true (by omega),Bool.not_true,cnd_f,iPok_l,bnd_s]
  simp only[]
  cases hp:pokV l with
  |false=>rw[if_neg (fun hh=>by cases hh.2)];rfl
  |true=>
   rw[show bnot true=false from rfl,cnd_f,iNib_l k (by omega),bnd_s,if_pos ⟨hk,rfl⟩]
   simp only[]
   rw[show iProveFrom_d (([]:List ByteArray),(l,(nibV k,((0:Int),(true,())))))=_ from iProve_l 9 0 l [] k true (by omega) (pok_good hp) hk (by simp),bnd_s]
   rfl
 ·rw[decide_eq_false (by omega),Bool.not_false,cnd_t,if_neg (fun hh=>hk hh.1)]
end Go.Proofs.YtoeiajpklkijgaaGreatDoor
