/- The texts of items, whole. Of no condition. -/
import Derived.Test.YtoeiajpklkijgaaGreatDoorTB
set_option linter.unusedVariables false
set_option linter.unusedSimpArgs false
set_option maxRecDepth 100000
namespace Go.Proofs.YtoeiajpklkijgaaGreatDoor
open Go.TV
noncomputable def textF:Nat→ItemT→ByteArray
 |0,_=>bs []
 |d+1, .mk l s k=>bif l then scat (lenV 192 ((k.map (textF d)).foldl scat (bs [])).size) ((k.map (textF d)).foldl scat (bs [])) else if s.size=1∧sat s 0<128 then s else scat (lenV 128 s.size) s
theorem foldB_size {B:Nat}: ∀ (l:List ByteArray) (s:ByteArray),(∀y∈l,y.size≤B)→(l.foldl scat s).size≤s.size+B*l.length
 | [],s,_=>by simp
 |y::l,s,h=>by
  have h1:=foldB_size l (scat s y) (fun z hz=>h z (by simp [hz]))
  have h2:=h y (by simp)
  rw[size_scat] at h1
  simp only[List.foldl_cons,List.length_cons,Nat.mul_add,Nat.mul_one]
  omega
theorem fold_ge: ∀ (l:List ByteArray) (s:ByteArray),s.size≤(l.foldl scat s).size
 | [],s=>Nat.le_refl _
 |y::l,s=>by
  have h1:=fold_ge l (scat s y)
  rw[size_scat] at h1
  simp only[List.foldl_cons]
  omega
theorem leaf_size {s:ByteArray} (h:s.size≤600):(if s.size=1∧sat s 0<128 then s else scat (lenV 128 s.size) s).size≤609:=by
 split
 ·omega
 ·have:=lenV_size 128 s.size
  rw[size_scat];omega
theorem fit_leaf {d:Nat} {s:ByteArray} {k:List ItemT} (h:fitV d (.mk false s k)=true):s.size≤600∧k=[]:=by
 have e:fitV d (.mk false s k)=(decide (s.size≤600)&&decide (k.length=0)):=by cases d<;>rfl
 rw[e,Bool.and_eq_true] at h
 exact ⟨of_decide_eq_true h.1,List.length_eq_zero_iff.1 (of_decide_eq_true h.2)⟩
theorem fit_list {d:Nat} {s:ByteArray} {k:List ItemT} (h:fitV d (.mk true s k)=true):s=bs []∧k.length≤17∧ ∃e,d=e+1∧ ∀y∈k,fitV e y=true:=by
 cases d with
 |zero=>cases h
 |succ d=>
  have h':(decide (s=bs [])&&(decide (k.length≤17)&&k.all (fitV d)))=true:=h
  simp only[Bool.and_eq_true,List.all_eq_true] at h'
  exact ⟨of_decide_eq_true h'.1,of_decide_eq_true h'.2.1,d,rfl,h'.2.2⟩
theorem textF_size: ∀ (d:Nat) (x:ItemT),fitV d x=true→(textF (d+1) x).size≤610*18^d
 |d, .mk false s k,h=>by
  have h1:=leaf_size (fit_leaf h).1
  have h2:1≤18^d:=Nat.pow_pos (by decide)
  show (if s.size=1∧sat s 0<128 then s else scat (lenV 128 s.size) s).size≤_
  omega
 |d, .mk true s k,h=>by
  obtain ⟨_,h2,e,rfl,h3⟩:=fit_list h
  have h4:=foldB_size (B:=610*18^e) (k.map (textF (e+1))) (bs []) (fun y hy=>by
   obtain ⟨z,hz,rfl⟩:=List.mem_map.1 hy
   exact textF_size e z (h3 z hz))
  have h5:=lenV_size 192 ((k.map (textF (e+1))).foldl scat (bs [])).size
  have h6:1≤18^e:=Nat.pow_pos (by decide)
  have h7:610*18^e*k.length≤610*18^e*17:=Nat.mul_le_mul_left _ h2
  show (scat (lenV 192 ((k.map (textF (e+1))).foldl scat (bs [])).size) ((k.map (textF (e+1))).foldl scat (bs []))).size≤_
  rw[size_scat,Nat.pow_succ]
  rw[List.length_map] at h4
  have h8:(bs []).size=0:=rfl
  omega
theorem pow18 {d:Nat} (h:d≤4):610*18^d≤64035360:=Nat.le_trans (Nat.mul_le_mul_left _ (Nat.pow_le_pow_right (by decide) h)) (by decide)
theorem sTextL_l: ∀ (d:Nat) (x:ItemT),d≤4→fitV d x=true→sL17Text_d (x,())=some ((textF (d+1) x,()),())
 |d, .mk false s k,hd,h=>by
  obtain ⟨h1,rfl⟩:=fit_leaf h
  have hD: ¬(s.size=1∧sat s 0<128)→sL17Text_D4 (.mk false s [],())=some ((textF (d+1) (.mk false s []),()),()):=fun hn=>by
   have hz:=lenV_size 128 s.size
   rw[sL17Text_q4]
   show Go.TV.bnd (sL17Head_d (ssz s,(128,()))) _=_
   rw[ssz_d,sHeadL_l 128 s.size (by omega),bnd_s]
   show Go.TV.cnd (fits (ssz (lenV 128 s.size)+ssz s) 1) _ _=_
   rw[cat_fits (by omega),cnd_t]
   show _=some ((if s.size=1∧sat s 0<128 then s else scat (lenV 128 s.size) s,()),())
   rw[if_neg hn]
   rfl
  rw[sL17Text_b]
  show Go.TV.cnd (bnot false) (Go.TV.cnd (ieq (ssz s) 1) (Go.TV.cnd (inb 0 (ssz s)) (Go.TV.cnd (ilt (sat s 0) 128) _ _) _) _) _=_
  rw[show bnot false=true from rfl,cnd_t]
  by_cases h2:s.size=1
  ·rw[ieq_d,decide_eq_true (show ssz s=1 by rw[ssz_d];omega),cnd_t,show inb 0 (ssz s)=true by rw[ssz_d];exact inb_t (by omega) (by omega),cnd_t]
   by_cases h3:sat s 0<128
   ·rw[ilt_t h3,cnd_t]
    show _=some ((if s.size=1∧sat s 0<128 then s else scat (lenV 128 s.size) s,()),())
    rw[if_pos ⟨h2,h3⟩]
    rfl
   ·rw[ilt_f (by omega),cnd_f]
    exact hD fun hh=>h3 hh.2
  ·rw[ieq_d,decide_eq_false (show¬ssz s=1 by rw[ssz_d];omega),cnd_f]
   exact hD fun hh=>h2 hh.1
 |d, .mk true s k,hd,h=>by
  obtain ⟨_,h2,e,rfl,h3⟩:=fit_list h
  have hB:=pow18 (d:=e) (by omega)
  have loop: ∀ (m i:Nat) (acc:ByteArray),i+m=k.length→acc.size≤i*64035360→sL17Text_D7 (acc,((i:Int),(.mk true s k,())))=some ((scat (lenV 192 (((k.drop i).map (textF (e+1))).foldl scat acc).size) (((k.drop i).map (textF (e+1))).foldl scat acc),()),()):=by
   intro m
   induction m with
   |zero=>
    intro i acc hi ha
    have hz:=lenV_size 192 acc.size
    rw[sL17Text_q7]
    show Go.TV.cnd (ilt (i:Int) (len k)) _ _=_
    rw[show (i:Int)=(k.length:Int) by omega,ilt_end,cnd_f,List.drop_eq_nil_of_le (by omega),ssz_d,sHeadL_l 192 acc.size (by omega),bnd_s]
    show Go.TV.cnd (fits (ssz (lenV 192 acc.size)+ssz acc) 1) _ _=_
    rw[cat_fits (by omega),cnd_t]
    rfl
   |succ m ih=>
    intro i acc hi ha
    have hl:i<k.length:=by omega
    have hs:=Nat.le_trans (textF_size e k[i] (h3 _ (List.getElem_mem hl))) hB
    rw[sL17Text_q7]
    show Go.TV.cnd (ilt (i:Int) (len k)) (Go.TV.cnd (inb (i:Int) (len k)) (Go.TV.bnd (sL17Text_d (rd (ItemT.mk false (bs []) ([]:List ItemT)) k (i:Int),())) _) _) _=_
    rw[ilt_at hl,cnd_t,inb_at hl,cnd_t,rd_at hl,sTextL_l e k[i] (by omega) (h3 _ (List.getElem_mem hl)),bnd_s]
    show Go.TV.cnd (fits (ssz acc+ssz (textF (e+1) k[i])) 1) (sL17Text_D7 (scat acc (textF (e+1) k[i]),(iadd .i64 (i:Int) 1,(.mk true s k,())))) _=_
    rw[cat_fits (by omega),cnd_t,next_at (by omega),ih (i+1) _ (by omega) (by rw[size_scat];omega),List.drop_eq_getElem_cons hl]
    rfl
  rw[sL17Text_b]
  show Go.TV.cnd (bnot true) _ (sL17Text_D7 (bs [],(((0:Nat):Int),(.mk true s k,()))))=_
  rw[show bnot true=false from rfl,cnd_f,loop k.length 0 (bs []) (by omega) (by decide),List.drop_zero]
  rfl
theorem lenF_n (base:Int) (n:Nat) (h:n≤9223372036854775807):lenF base (n:Int)=some (lenV base n):=by
 unfold lenF
 rw[iLen_l base n h];rfl
theorem headF_n (base:Int) (s:ByteArray) (h:s.size≤9223372036854775807):headF lenF base s=some (scat (lenV base s.size) s,true):=by
 unfold headF
 rw[ssz_d,lenF_n base s.size h]
 simp only
 rw[if_pos (Nat.le_trans (lenV_size _ _) (by decide))]
theorem item_spec: ∀ (d:Nat) (x:ItemT),d≤4→fitV d x=true→ ∃t b,itemF lenF (d+1) x=some (t,b)∧((b=true∧t=textF (d+1) x∧t.size≤1000)∨(b=false∧900<(textF (d+1) x).size))
 |d, .mk false s k,hd,h=>by
  have h1:=(fit_leaf h).1
  refine ⟨textF (d+1) (.mk false s k),true,?_, .inl ⟨rfl,rfl,Nat.le_trans (leaf_size h1) (by decide)⟩⟩
  show (if false=true then _ else if s.size=1∧sat s 0<128 then some (s,true) else headF lenF 128 s)=some (if s.size=1∧sat s 0<128 then s else scat (lenV 128 s.size) s,true)
  rw[if_neg (by decide),headF_n 128 s (by omega)]
  split<;>rfl
 |d, .mk true s k,hd,h=>by
  obtain ⟨_,h2,e,rfl,h3⟩:=fit_list h
  have loop: ∀ (l:List ItemT) (acc:ByteArray),(∀y∈l,fitV e y=true)→acc.size≤900→ ∃t b,kidsF (itemF lenF (e+1)) (headF lenF 192) l acc=some (t,b)∧
   ((b=true∧t=scat (lenV 192 ((l.map (textF (e+1))).foldl scat acc).size) ((l.map (textF (e+1))).foldl scat acc)∧((l.map (textF (e+1))).foldl scat acc).size≤900)∨(b=false∧900<((l.map (textF (e+1))).foldl scat acc).size)):=by
   intro l
   induction l with
   |nil=>
    intro acc _ ha
    exact ⟨_,true,headF_n 192 acc (by omega), .inl ⟨rfl,rfl,ha⟩⟩
   |cons y l ih=>
    intro acc hl ha
    obtain ⟨t,b,e1,e2⟩:=item_spec e y (by omega) (hl y (by simp))
    have hg:=fold_ge (l.map (textF (e+1))) (scat acc (textF (e+1) y))
    rw[size_scat] at hg
    rcases e2 with ⟨rfl,rfl,e3⟩| ⟨rfl,e3⟩
    ·by_cases h9:acc.size+(textF (e+1) y).size≤900
     ·obtain ⟨t2,b2,f1,f2⟩:=ih (scat acc (textF (e+1) y)) (fun z hz=>hl z (by simp [hz])) (by rw[size_scat];exact h9)
      exact ⟨t2,b2,by simp only[kidsF,e1,if_pos e3,if_pos h9];exact f1,f2⟩
     ·exact ⟨⟨#[]⟩,false,by simp only[kidsF,e1,if_pos e3,if_neg h9], .inr ⟨rfl,by show 900<((l.map (textF (e+1))).foldl scat (scat acc (textF (e+1) y))).size;omega⟩⟩
    ·exact ⟨⟨#[]⟩,false,by simp only[kidsF,e1], .inr ⟨rfl,by show 900<((l.map (textF (e+1))).foldl scat (scat acc (textF (e+1) y))).size;omega⟩⟩
  obtain ⟨t,b,e1,e2⟩:=loop k (bs []) h3 (by decide)
  have hz:=lenV_size 192 ((k.map (textF (e+1))).foldl scat (bs [])).size
  refine ⟨t,b,by show (if true=true then kidsF (itemF lenF (e+1)) (headF lenF 192) k ⟨#[]⟩ else _)=_;rw[if_pos rfl];exact e1,?_⟩
  rcases e2 with ⟨rfl,rfl,e3⟩| ⟨rfl,e3⟩
  ·exact .inl ⟨rfl,rfl,by rw[size_scat];omega⟩
  ·exact .inr ⟨rfl,by show 900<(scat (lenV 192 ((k.map (textF (e+1))).foldl scat (bs [])).size) ((k.map (textF (e+1))).foldl scat (bs []))).size;rw[size_scat];omega⟩
noncomputable def itemR (x:ItemT):ByteArray×Bool:=if fitV 4 x=true∧(textF 5 x).size≤900 then (textF 5 x,true) else (bs [],false)
theorem itemR_size (x:ItemT):(itemR x).1.size≤900:=by
 unfold itemR
 split
 ·rename_i h;exact h.2
 ·decide
theorem sItemText_l (x:ItemT):sItemText_d (x,())=some (((itemR x).1,((itemR x).2,())),()):=by
 rw[sItemText_b,sItemOk_l,bnd_s]
 simp only[]
 unfold itemR
 cases h:fitV 4 x with
 |false=>simp only[bnot,Bool.not_false,cnd_t];rw[if_neg (by simp)];rfl
 |true=>
  simp only[bnot,Bool.not_true,cnd_f]
  rw[show sL17Text_d (x,())=some ((textF 5 x,()),()) from sTextL_l 4 x (by omega) h,bnd_s]
  simp only[]
  by_cases h9:(textF 5 x).size≤900
  ·rw[igt_f (by rw[ssz_d];omega),cnd_f,if_pos ⟨by trivial,h9⟩]
  ·rw[igt_t (by rw[ssz_d];omega),cnd_t,if_neg (fun hh=>h9 hh.2)];rfl
theorem iItemText_l (x:ItemT):iItemText_d (x,())=some (((itemR x).1,((itemR x).2,())),()):=by
 rw[iItemText_b,iItemOk_l,bnd_s]
 simp only[]
 unfold itemR
 cases h:fitV 4 x with
 |false=>simp only[bnot,Bool.not_false,cnd_t];rw[if_neg (by simp)];rfl
 |true=>
  simp only[bnot,Bool.not_true,cnd_f]
  have hspec: ∃t b,itemF lenF 5 x=some (t,b)∧((b=true∧t=textF 5 x∧t.size≤1000)∨(b=false∧900<(textF 5 x).size)):=item_spec 4 x (by omega) h
  obtain ⟨t,b,e1,e2⟩:=hspec
  have e:ixItemText_d (x,())=some ((t,(b,())),()):=by
   unfold ixItemText_d
   rw[if_pos (fit_ok 4 x h),e1];rfl
  rw[e,bnd_s]
  simp only[]
  rcases e2 with ⟨rfl,rfl,e3⟩| ⟨rfl,e3⟩
  ·simp only[Bool.not_true,cnd_f]
   by_cases h9:(textF 5 x).size≤900
   ·rw[igt_f (by rw[ssz_d];omega),cnd_f,if_pos ⟨by trivial,h9⟩]
   ·rw[igt_t (by rw[ssz_d];omega),cnd_t,if_neg (fun hh=>h9 hh.2)];rfl
  ·simp only[Bool.not_false,cnd_t]
   rw[if_neg (fun hh=>by have:=hh.2;omega)];rfl
end Go.Proofs.YtoeiajpklkijgaaGreatDoor
