/- Accounts of a chain. Of no condition. -/
import Derived.Test.YtoeiajpklkijgaaGreatDoorLA
set_option linter.unusedVariables false
set_option linter.unusedSimpArgs false
set_option maxRecDepth 100000
namespace Go.Proofs.YtoeiajpklkijgaaGreatDoor
open Go.TV
theorem drop_cons {α:Type} {xs:List α} {i:Nat} (h:i<xs.length):xs.drop i=xs[i]::xs.drop (i+1):=List.drop_eq_getElem_cons h
theorem iCopyAccounts_loop (xs:List tAccount) (hf:Fine (.sl TAccount) xs): ∀ (k i:Nat) (acc:List tAccount),i+k=xs.length→acc.length=i→iCopyAccounts_D3 (acc,(xs,(len xs,((i:Int),()))))=some ((acc++xs.drop i,()),()):=by
 have hl:xs.length≤16777216:=hf.1
 intro k
 induction k with
 |zero=>
  intro i acc hi ha
  rw[iCopyAccounts_q3,show (i:Int)=(xs.length:Int) by omega,ilt_end,cnd_f,show i=xs.length by omega,List.drop_length,List.append_nil]
 |succ k ih=>
  intro i acc hi ha
  have h:i<xs.length:=by omega
  have hx:=hf.2 xs[i] (List.getElem_mem h)
  rw[iCopyAccounts_q3,ilt_at h,cnd_t,inb_at h,cnd_t,rd_at h,clonePair _ hx.2.2.2.1.1,bnd_s,next_at (by omega),app_fits (by decide) (by simp;omega),cnd_t,app_one,ih (i+1) _ (by omega) (by simp;omega),drop_cons h,List.append_assoc]
  rfl
theorem iCopyAccounts_l (xs:List tAccount) (hf:Fine (.sl TAccount) xs):iCopyAccounts_d (xs,())=some ((xs,()),()):=by
 rw[iCopyAccounts_b]
 exact iCopyAccounts_loop xs hf xs.length 0 [] (by omega) rfl
def bump (k:Int) (a:tAccount):tAccount:=if k<1 then a else (a.1,(if 0≤a.2.1∧1000-a.2.1<k then 1000 else if a.2.1+k<1000 then a.2.1+k else 1000,a.2.2))
theorem imin_d {x y:Int}:imin x y=if y<x then y else x:=rfl
theorem chain_i_loop (k:Int) (hk:1≤k) (hk':k≤9223372036854775807) (n:Int): ∀ (suf pre:List tAccount),n=((pre.length+suf.length:Nat):Int)→pre.length+suf.length≤16777216→(∀a∈suf,-9223372036854775808≤a.2.1∧a.2.1≤9223372036854775807)→iChainAccounts_D5 (k,(pre++suf,(n,((pre.length:Int),()))))=some ((pre++suf.map (bump k),()),()):=by
 intro suf
 induction suf with
 |nil=>
  intro pre hn hl _
  rw[iChainAccounts_q5,ilt_f (by simp at hn;omega),cnd_f];simp
 |cons a suf ih=>
  intro pre hn hl hg
  obtain ⟨g0,g1⟩:=hg a (by simp)
  have h:pre.length<(pre++a::suf).length:=by simp
  have ha:(pre++a::suf)[pre.length]=a:=by simp
  have hset: ∀v:tAccount,upd (pre++a::suf) (pre.length:Int) v=(pre++[v])++suf:=fun v=>by rw[upd_at];simp
  simp only[List.length_cons] at hn hl
  have hi: ∀v:tAccount,bump k a=v→iChainAccounts_D5 (k,((pre++[v])++suf,(n,(((pre.length+1:Nat):Int),()))))=some ((pre++(a::suf).map (bump k),()),()):=fun v hv=>by
   have:=ih (pre++[v]) (by simp;omega) (by simp;omega) (fun b hb=>hg b (by simp [hb]))
   simp only[List.length_append,List.length_singleton] at this
   rw[this,←hv];simp
  rw[iChainAccounts_q5,ilt_t (by omega),cnd_t,inb_at h,cnd_t,rd_at h,ha,next_at (by omega),hset,hset]
  simp only[ige_d,igt_d,cnd_d,imin_d]
  by_cases h0:0≤a.2.1
  ·by_cases h1:1000<a.2.1
   ·rw[if_pos h0,if_pos h1,isub_64 (by omega) (by omega),if_pos (by omega)]
    refine hi _ ?_
    have:0≤a.2.1∧1000-a.2.1<k:=by omega
    simp only[bump,this,and_self,if_true]
    rw[if_neg (by omega)]
   ·rw[if_pos h0,if_neg h1,isub_64 (by omega) (by omega)]
    by_cases h2:1000-a.2.1<k
    ·rw[if_pos h2]
     refine hi _ ?_
     simp only[bump,h0,h2,and_self,if_true]
     rw[if_neg (by omega)]
    ·rw[if_neg h2,iadd_64 (by omega) (by omega)]
     refine hi _ ?_
     unfold bump
     rw[if_neg (by omega),if_neg (by omega)]
     by_cases h3:a.2.1+k<1000
     ·rw[if_pos h3,if_neg (by omega)]
     ·rw[if_neg h3]
      by_cases h4:1000<a.2.1+k
      ·rw[if_pos h4]
      ·rw[if_neg h4,show a.2.1+k=1000 by omega]
  ·rw[if_neg h0,iadd_64 (by omega) (by omega)]
   refine hi _ ?_
   unfold bump
   rw[if_neg (by omega),if_neg (by omega)]
   by_cases h3:a.2.1+k<1000
   ·rw[if_pos h3,if_neg (by omega)]
   ·rw[if_neg h3]
    by_cases h4:1000<a.2.1+k
    ·rw[if_pos h4]
    ·rw[if_neg h4,show a.2.1+k=1000 by omega]
theorem chain_s_loop (k:Int) (hk0: -9223372036854775808≤k) (hk':k≤9223372036854775807) (x:tChain) (hf:Fine TChain x) (hg: ∀a∈x.2.1,-9223372036854775808≤a.2.1∧a.2.1≤9223372036854775807): ∀ (m i:Nat) (acc:List tAccount),i+m=x.2.1.length→acc.length=i→sChainAccounts_D3 (k,(acc,((i:Int),(x,()))))=some ((acc++(x.2.1.drop i).map (bump k),()),()):=by
 have hl:x.2.1.length≤16777216:=hf.2.1.1
 intro m
 induction m with
 |zero=>
  intro i acc hi ha
  rw[sChainAccounts_q3,show (i:Int)=(x.2.1.length:Int) by omega,ilt_end,cnd_f,show i=x.2.1.length by omega];simp
 |succ m ih=>
  intro i acc hi ha
  have h:i<x.2.1.length:=by omega
  have hx:=hf.2.1.2 x.2.1[i] (List.getElem_mem h)
  obtain ⟨g0,g1⟩:=hg x.2.1[i] (List.getElem_mem h)
  have hfit: ∀v:tAccount,fits (len acc+len (v::([]:List tAccount))) 4=true:=fun v=>app_fits (by decide) (by simp;omega)
  have hi': ∀v:tAccount,bump k x.2.1[i]=v→sChainAccounts_D3 (k,(acc++[v],(((i+1:Nat):Int),(x,()))))=some ((acc++(x.2.1.drop i).map (bump k),()),()):=fun v hv=>by
   rw[ih (i+1) (acc++[v]) (by omega) (by simp;omega),←hv,drop_cons h,List.map_cons,List.append_assoc];rfl
  rw[sChainAccounts_q3,ilt_at h,cnd_t,inb_at h,cnd_t,rd_at h,next_at (by omega),app_fits (xs:=([]:List tPair)) (by decide) (by have:=hx.2.2.2.1.1;simp;omega),cnd_t]
  simp only[hfit,cnd_t,app_nil,app_one,igt_d,cnd_d,imin_d]
  by_cases hk:0<k
  ·rw[if_pos hk]
   by_cases h0:0<x.2.1[i].2.1
   ·rw[if_pos h0,isub_64 (by omega) (by omega)]
    by_cases h2:1000-x.2.1[i].2.1<k
    ·rw[if_pos h2]
     refine hi' _ ?_
     unfold bump
     rw[if_neg (by omega),if_pos (by omega)]
    ·rw[if_neg h2,iadd_64 (by omega) (by omega)]
     refine hi' _ ?_
     unfold bump
     rw[if_neg (by omega),if_neg (by omega)]
     by_cases h3:x.2.1[i].2.1+k<1000
     ·rw[if_pos h3,if_neg (by omega)]
     ·rw[if_neg h3]
      by_cases h4:1000<x.2.1[i].2.1+k
      ·rw[if_pos h4]
      ·rw[if_neg h4,show x.2.1[i].2.1+k=1000 by omega]
   ·rw[if_neg h0,iadd_64 (by omega) (by omega)]
    refine hi' _ ?_
    unfold bump
    rw[if_neg (by omega)]
    by_cases h5:0≤x.2.1[i].2.1∧1000-x.2.1[i].2.1<k
    ·rw[if_pos h5,if_pos (by omega)]
    ·rw[if_neg h5]
     by_cases h3:x.2.1[i].2.1+k<1000
     ·rw[if_pos h3,if_neg (by omega)]
     ·rw[if_neg h3]
      by_cases h4:1000<x.2.1[i].2.1+k
      ·rw[if_pos h4]
      ·rw[if_neg h4,show x.2.1[i].2.1+k=1000 by omega]
  ·rw[if_neg hk]
   refine hi' _ ?_
   unfold bump
   rw[if_pos (by omega)]
theorem bump_fine {k:Int} {B:Nat} {a:tAccount} (h:Bnd B TAccount a):Bnd B TAccount (bump k a):=by
 unfold bump
 split
 ·exact h
 ·exact ⟨h.1,trivial,h.2.2⟩
theorem accounts_fine {k:Int} {B:Nat} {xs:List tAccount} (h:Bnd B (.sl TAccount) xs):Bnd B (.sl TAccount) (xs.map (bump k)):=by
 refine ⟨by rw[List.length_map];exact h.1,fun a ha=>?_⟩
 obtain ⟨b,hb,rfl⟩:=List.mem_map.1 ha
 exact bump_fine (h.2 b hb)
theorem bump_none {k:Int} (h:k<1) (xs:List tAccount):xs.map (bump k)=xs:=by
 rw[show bump k=id from funext fun a=>by unfold bump;rw[if_pos h];rfl];simp
def NonceOk (xs:List tAccount):Prop:= ∀a∈xs,-9223372036854775808≤a.2.1∧a.2.1≤9223372036854775807
theorem sChainAccounts_l (x:tChain) (k:Int) (hf:Fine TChain x) (hg:NonceOk x.2.1) (hk0: -9223372036854775808≤k) (hk':k≤9223372036854775807):sChainAccounts_d (x,(k,()))=some ((x.2.1.map (bump k),()),()):=by
 rw[sChainAccounts_b]
 exact chain_s_loop k hk0 hk' x hf hg x.2.1.length 0 [] (by omega) rfl
theorem iChainAccounts_l (x:tChain) (k:Int) (hf:Fine TChain x) (hg:NonceOk x.2.1) (hk':k≤9223372036854775807):iChainAccounts_d (x,(k,()))=some ((x.2.1.map (bump k),()),()):=by
 rw[iChainAccounts_b,iCopyAccounts_l _ hf.2.1,bnd_s,ilt_d,cnd_d]
 by_cases h:k<1
 ·rw[if_pos h,bump_none h]
 ·rw[if_neg h]
  exact chain_i_loop k (by omega) hk' _ x.2.1 [] (by simp [len]) (by simpa using hf.2.1.1) hg
theorem nonce_ok {x:tChain} (g:GoodV TChain x):NonceOk x.2.1:=fun a ha=>by
 obtain ⟨i,hi⟩:=List.mem_iff_getElem?.1 ha
 exact good_int (g.2.1.2 i a hi).2.1
theorem accounts_same (x:tChain) (k:Int) (h:Small TChain x) (g:GoodV TChain x) (gk:GoodV (.int .i64) k): ∃r,sChainAccounts_d (x,(k,()))=some ((r,()),())∧iChainAccounts_d (x,(k,()))=some ((r,()),())∧Fine (.sl TAccount) r:=by
 have hf:Fine TChain x:=Bnd.le (by decide) h
 obtain ⟨k0,k1⟩:=good_int gk
 exact ⟨_,sChainAccounts_l x k hf (nonce_ok g) k0 k1,iChainAccounts_l x k hf (nonce_ok g) k1,accounts_fine hf.2.1⟩
end Go.Proofs.YtoeiajpklkijgaaGreatDoor
