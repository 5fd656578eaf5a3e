/- The root of a trie. Of no condition. -/
import Derived.Test.YtoeiajpklkijgaaGreatDoorTE
set_option linter.unusedVariables false
set_option linter.unusedSimpArgs false
set_option maxRecDepth 100000
namespace Go.Proofs.YtoeiajpklkijgaaGreatDoor
open Go.TV
theorem len_ne {α:Type} {x:α} {l:List α}:ieq (len (x::l)) 0=false:=by rw[ieq_d,len_d];exact decide_eq_false (by simp only[List.length_cons];omega)
theorem sInner (l:List tPair) (n:Nat) (hn:n<8) (k:Int) (hl:l.length≤100) (hk: ∀p∈l,p.1.size=4) (z x y:ItemT) (hx:x.k.length≤100) (h16:k<1000∧0≤k)
 (hy:sL19Item_d (l.filter (fun p=>halfOf p n k),((n+1:Nat):Int),())=some ((y,()),())): ∀ (m i:Nat) (acc:List tPair),i+m=l.length→acc.length≤i→acc++(l.drop i).filter (fun p=>halfOf p n k)=l.filter (fun p=>halfOf p n k)→
 sL19Item_D16 (l,((n:Int),(k,(acc,((i:Int),(z,(x,())))))))=sL19Item_D12 (l,((n:Int),(iadd .i64 k 1,(z,(.mk x.l x.s (x.k++[refV y]),()))))):=by
 intro m
 induction m with
 |zero=>
  intro i acc hi ha he
  rw[List.drop_eq_nil_of_le (by omega),List.filter_nil,List.append_nil] at he
  subst he
  rw[sL19Item_q16,show (i:Int)=(l.length:Int) by omega,ilt_end,cnd_f,next_at (by omega),hy,bnd_s]
  simp only[]
  rw[sRef_l,bnd_s]
  simp only[]
  rw[app_fits (by decide) (by simp;omega),cnd_t]
  rfl
 |succ m ih=>
  intro i acc hi ha he
  have h1:i<l.length:=by omega
  have hz:=hk l[i] (List.getElem_mem h1)
  have h8:n<(nibV l[i].1).length:=by rw[nibV_len,hz];omega
  rw[filt_cons l i h1] at he
  rw[sL19Item_q16,ilt_at h1,cnd_t,inb_at h1,cnd_t,rd_at h1,sNib_l _ (by omega),bnd_s]
  simp only[]
  rw[inb_at h8,cnd_t,ieq_d]
  show Go.TV.cnd (decide ((nibV l[i].1).getD n 0=k)) _ _=_
  by_cases hc:(nibV l[i].1).getD n 0=k
  ·rw[if_pos hc] at he
   rw[decide_eq_true hc,cnd_t,cnd_t,app_fits (by decide) (by simp;omega),cnd_t,next_at (by omega)]
   show sL19Item_D16 (l,((n:Int),(k,(acc++[l[i]],(((i+1:Nat):Int),(z,(x,())))))))=_
   exact ih (i+1) _ (by omega) (by simp;omega) (by rw[List.append_assoc];exact he)
  ·rw[if_neg hc] at he
   rw[decide_eq_false hc,cnd_f,next_at (by omega)]
   exact ih (i+1) acc (by omega) (by omega) he
def kidsV (F:Nat→ItemT):Nat→Nat→List ItemT
 |_,0=>[.mk false (bs []) []]
 |k,m+1=>F k::kidsV F (k+1) m
noncomputable def trieV:Nat→Nat→List tPair→ItemT
 |0,_,_=> .mk false (bs []) []
 |_+1,_,[]=> .mk false (bs []) []
 |_+1,n,[p]=> .mk true (bs []) [.mk false (preV ((nibV p.1).drop n) true) [], .mk false p.2.1 []]
 |f+1,n,p::q::r=>if 0<shV (q::r) ((nibV p.1).drop n) n (8-n) then
   .mk true (bs []) [.mk false (preV (((nibV p.1).drop n).take (shV (q::r) ((nibV p.1).drop n) n (8-n))) false) [],refV (trieV f (n+shV (q::r) ((nibV p.1).drop n) n (8-n)) (p::q::r))]
  else .mk true (bs []) (kidsV (fun k=>refV (trieV f (n+1) ((p::q::r).filter fun p=>halfOf p n (k:Int)))) 0 16)
theorem iTrie_is: ∀ (f n:Nat) (l:List tPair),8-n<f→GoodP l n→ixTrieItem_d (l,((n:Int),()))=some ((trieV f n l,()),()):=by
 intro f
 induction f with
 |zero=>intro n l h;omega
 |succ f IH=>
  intro n l hf h
  have hle:=h.le
  match l,h with
  | [],h=>rw[ixTrieItem_b];rfl
  | [p],h=>
    have hz:=h.key p (by simp)
    have h8:=h.nib (p:=p) (by simp)
    have hin:inb2 (n:Int) (len (nibV p.1)) (len (nibV p.1))=true:=by rw[len_d,h8];exact inb2_t (by omega) (by omega) (by omega)
    have hnd: ∀x∈(nibV p.1).drop n,0≤x∧x≤15:=fun x hx=>nibV_in p.1 x (List.mem_of_mem_drop hx)
    have hnl:((nibV p.1).drop n).length≤64:=by rw[List.length_drop];omega
    rw[ixTrieItem_b,len_ne,cnd_f,show inb 0 (len [p])=true from rfl,cnd_t,show rd zPair [p] 0=p from rfl,iNib_l _ (by omega),bnd_s]
    simp only[]
    rw[hin,cnd_t,show ieq (len [p]) 1=true from rfl,cnd_t,sub_drop,iPre_l _ _ hnd hnl,bnd_s,cnd_t]
    rfl
  |p::q::r,h=>
   have hz:=h.key p (by simp)
   have h8:=h.nib (p:=p) (by simp)
   have hlt:=h.lt
   have hln:=h.len
   have hshle:=shV_le (q::r) ((nibV p.1).drop n) n (8-n)
   have hi0:inb 0 (len (p::q::r))=true:=inb_at (i:=0) (Nat.succ_pos _)
   have e1:ieq (len (p::q::r)) 1=false:=by rw[ieq_d,len_d];exact decide_eq_false (by simp only[List.length_cons];omega)
   have hin:inb2 (n:Int) (len (nibV p.1)) (len (nibV p.1))=true:=by rw[len_d,h8];exact inb2_t (by omega) (by omega) (by omega)
   have eI:=iShared_l p (q::r) n h
   have hstep:=h.step
   have hT:trieV (f+1) n (p::q::r)=if 0<shV (q::r) ((nibV p.1).drop n) n (8-n) then
    .mk true (bs []) [.mk false (preV (((nibV p.1).drop n).take (shV (q::r) ((nibV p.1).drop n) n (8-n))) false) [],refV (trieV f (n+shV (q::r) ((nibV p.1).drop n) n (8-n)) (p::q::r))]
    else .mk true (bs []) (kidsV (fun k=>refV (trieV f (n+1) ((p::q::r).filter fun p=>halfOf p n (k:Int)))) 0 16):=rfl
   generalize hsh:shV (q::r) ((nibV p.1).drop n) n (8-n)=sh at*
   rw[ixTrieItem_b,len_ne,cnd_f,hi0,cnd_t,show rd zPair (p::q::r) 0=p from rfl,iNib_l _ (by omega),bnd_s]
   simp only[]
   rw[hin,cnd_t,e1,cnd_f,eI,bnd_s]
   simp only[]
   by_cases hs0:0<sh
   ·have hlt2:=hstep.lt
    have y1:=IH (n+sh) (p::q::r) (by omega) hstep
    rw[if_pos hs0] at hT
    rw[hT]
    have hpr: ∀x∈((nibV p.1).drop n).take sh,0≤x∧x≤15:=fun x hx=>nibV_in p.1 x (List.mem_of_mem_drop (List.mem_of_mem_take hx))
    have hpl:(((nibV p.1).drop n).take sh).length≤64:=by rw[List.length_take,List.length_drop];omega
    rw[igt_t (by omega),cnd_t,sub_drop,show inb2 0 (sh:Int) (len ((nibV p.1).drop n))=true by rw[len_d,List.length_drop,h8];exact inb2_t (by omega) (by omega) (by omega),cnd_t,show sub ((nibV p.1).drop n) 0 (sh:Int)=((nibV p.1).drop n).take sh by unfold sub;simp,iPre_l _ _ hpr hpl,bnd_s]
    simp only[]
    rw[iadd_64 (by omega) (by omega),show (n:Int)+(sh:Int)=((n+sh:Nat):Int) by omega,y1,bnd_s]
    simp only[]
    rw[iRef_l,bnd_s]
   ·obtain rfl:sh=0:=by omega
    rw[igt_f (by omega),cnd_f]
    rw[if_neg (by omega)] at hT
    rw[hT]
    generalize hF:(fun k:Nat=>refV (trieV f (n+1) ((p::q::r).filter fun p=>halfOf p n (k:Int))))=F
    have loop: ∀ (m k:Nat) (ks:List ItemT),k+m=16→ks.length≤k→ ∀z,ixTrieItem_D13 (p::q::r,((n:Int),((k:Int),(z,(.mk true (bs []) ks,())))))=some ((.mk true (bs []) (ks++kidsV F k m),()),()):=by
     intro m
     induction m with
     |zero=>
      intro k ks hk hks z
      rw[ixTrieItem_q13,ilt_f (by omega),cnd_f]
      show Go.TV.cnd (fits (len ks+len [ItemT.mk false (bs []) []]) 3) _ _=_
      rw[app_fits (by decide) (by simp;omega),cnd_t]
      rfl
     |succ m ih=>
      intro k ks hk hks z
      have y1:=IH (n+1) ((p::q::r).filter fun p=>halfOf p n (k:Int)) (by omega) (h.half hlt (k:Int))
      have hk':F k=refV (trieV f (n+1) ((p::q::r).filter fun p=>halfOf p n (k:Int))):=by rw[←hF]
      generalize trieV f (n+1) ((p::q::r).filter fun p=>halfOf p n (k:Int))=y at y1 hk'
      have x1:=ih (k+1) (ks++[refV y]) (by omega) (by simp;omega)
      rw[List.append_assoc,show [refV y]++kidsV F (k+1) m=kidsV F k (m+1) by rw[kidsV,hk'];rfl] at x1
      rw[ixTrieItem_q13,ilt_t (by omega),cnd_t,iWith_l _ n hlt (k:Int) hln h.key,bnd_s]
      simp only[]
      rw[next_at (by omega),y1,bnd_s]
      simp only[]
      rw[iRef_l,bnd_s]
      show Go.TV.cnd (fits (len ks+len [refV y]) 3) (ixTrieItem_D13 (p::q::r,((n:Int),(iadd .i64 (k:Int) 1,(z,(.mk true (bs []) (ks++[refV y]),())))))) _=_
      rw[app_fits (by decide) (by simp;omega),cnd_t,next_at (by omega)]
      exact x1 z
    exact loop 16 0 [] (by omega) (by simp) _
theorem sTrie_is: ∀ (f n:Nat) (l:List tPair),8-n<f→GoodP l n→sL19Item_d (l,((n:Int),()))=some ((trieV f n l,()),()):=by
 intro f
 induction f with
 |zero=>intro n l h;omega
 |succ f IH=>
  intro n l hf h
  have hle:=h.le
  match l,h with
  | [],h=>rw[sL19Item_b,sL19Text_b];rfl
  | [p],h=>
    have hz:=h.key p (by simp)
    have h8:=h.nib (p:=p) (by simp)
    have hin:inb2 (n:Int) (len (nibV p.1)) (len (nibV p.1))=true:=by rw[len_d,h8];exact inb2_t (by omega) (by omega) (by omega)
    have hnd: ∀x∈(nibV p.1).drop n,0≤x∧x≤15:=fun x hx=>nibV_in p.1 x (List.mem_of_mem_drop hx)
    have hnl:((nibV p.1).drop n).length≤64:=by rw[List.length_drop];omega
    rw[sL19Item_b,len_ne,cnd_f,show ieq (len [p]) 1=true from rfl,cnd_t,show inb 0 (len [p])=true from rfl,cnd_t,show rd zPair [p] 0=p from rfl,sNib_l _ (by omega),bnd_s]
    simp only[]
    rw[hin,cnd_t,sub_drop,sPre_l _ _ hnd hnl,bnd_s]
    simp only[]
    rw[sL19Text_b,bnd_s,cnd_t,sL19Text_b,bnd_s]
    rfl
  |p::q::r,h=>
   have hz:=h.key p (by simp)
   have h8:=h.nib (p:=p) (by simp)
   have hlt:=h.lt
   have hln:=h.len
   have hshle:=shV_le (q::r) ((nibV p.1).drop n) n (8-n)
   have hi0:inb 0 (len (p::q::r))=true:=inb_at (i:=0) (Nat.succ_pos _)
   have e1:ieq (len (p::q::r)) 1=false:=by rw[ieq_d,len_d];exact decide_eq_false (by simp only[List.length_cons];omega)
   have eS:=sShared_l p (q::r) n h
   have hstep:=h.step
   have hT:trieV (f+1) n (p::q::r)=if 0<shV (q::r) ((nibV p.1).drop n) n (8-n) then
    .mk true (bs []) [.mk false (preV (((nibV p.1).drop n).take (shV (q::r) ((nibV p.1).drop n) n (8-n))) false) [],refV (trieV f (n+shV (q::r) ((nibV p.1).drop n) n (8-n)) (p::q::r))]
    else .mk true (bs []) (kidsV (fun k=>refV (trieV f (n+1) ((p::q::r).filter fun p=>halfOf p n (k:Int)))) 0 16):=rfl
   generalize hsh:shV (q::r) ((nibV p.1).drop n) n (8-n)=sh at*
   rw[sL19Item_b,len_ne,cnd_f,e1,cnd_f,eS,bnd_s]
   simp only[]
   by_cases hs0:0<sh
   ·have hlt2:=hstep.lt
    have y2:=IH (n+sh) (p::q::r) (by omega) hstep
    rw[if_pos hs0] at hT
    rw[hT]
    have hpr: ∀x∈((nibV p.1).drop n).take sh,0≤x∧x≤15:=fun x hx=>nibV_in p.1 x (List.mem_of_mem_drop (List.mem_of_mem_take hx))
    have hpl:(((nibV p.1).drop n).take sh).length≤64:=by rw[List.length_take,List.length_drop];omega
    rw[igt_t (by omega),cnd_t,hi0,cnd_t,show rd zPair (p::q::r) 0=p from rfl,sNib_l _ (by omega),bnd_s]
    simp only[]
    rw[iadd_64 (by omega) (by omega),show (n:Int)+(sh:Int)=((n+sh:Nat):Int) by omega,show inb2 (n:Int) ((n+sh:Nat):Int) (len (nibV p.1))=true by rw[len_d,h8];exact inb2_t (by omega) (by omega) (by omega),cnd_t,show sub (nibV p.1) (n:Int) ((n+sh:Nat):Int)=((nibV p.1).drop n).take sh by unfold sub;rw[show (((n+sh:Nat):Int)).toNat=n+sh by omega,show ((n:Int)).toNat=n by omega,List.drop_take,show n+sh-n=sh by omega],sPre_l _ _ hpr hpl,bnd_s]
    simp only[]
    rw[sL19Text_b,bnd_s,y2,bnd_s]
    simp only[]
    rw[sRef_l,bnd_s]
   ·obtain rfl:sh=0:=by omega
    rw[igt_f (by omega),cnd_f]
    rw[if_neg (by omega)] at hT
    rw[hT]
    generalize hF:(fun k:Nat=>refV (trieV f (n+1) ((p::q::r).filter fun p=>halfOf p n (k:Int))))=F
    have loop: ∀ (m k:Nat) (ks:List ItemT),k+m=16→ks.length≤k→ ∀z,sL19Item_D12 (p::q::r,((n:Int),((k:Int),(z,(.mk true (bs []) ks,())))))=some ((.mk true (bs []) (ks++kidsV F k m),()),()):=by
     intro m
     induction m with
     |zero=>
      intro k ks hk hks z
      rw[sL19Item_q12,ilt_f (by omega),cnd_f,sL19Text_b,bnd_s]
      show Go.TV.cnd (fits (len ks+len [ItemT.mk false (bs []) []]) 3) _ _=_
      rw[app_fits (by decide) (by simp;omega),cnd_t]
      rfl
     |succ m ih=>
      intro k ks hk hks z
      have y2:=IH (n+1) ((p::q::r).filter fun p=>halfOf p n (k:Int)) (by omega) (h.half hlt (k:Int))
      have hk':F k=refV (trieV f (n+1) ((p::q::r).filter fun p=>halfOf p n (k:Int))):=by rw[←hF]
      generalize trieV f (n+1) ((p::q::r).filter fun p=>halfOf p n (k:Int))=y at y2 hk'
      have x2:=ih (k+1) (ks++[refV y]) (by omega) (by simp;omega)
      rw[List.append_assoc,show [refV y]++kidsV F (k+1) m=kidsV F k (m+1) by rw[kidsV,hk'];rfl] at x2
      rw[sL19Item_q12,ilt_t (by omega),cnd_t]
      have:=sInner (p::q::r) n hlt (k:Int) hln h.key z (.mk true (bs []) ks) y (by show ks.length≤100;omega) ⟨by omega,by omega⟩ y2 (p::q::r).length 0 [] (by omega) (by simp) (by simp)
      rw[show ((0:Nat):Int)=0 from rfl] at this
      rw[this,next_at (by omega)]
      exact x2 z
    exact loop 16 0 [] (by omega) (by simp) _
theorem trie_is (f n:Nat) (l:List tPair) (hf:8-n<f) (h:GoodP l n):ixTrieItem_d (l,((n:Int),()))=some ((trieV f n l,()),())∧sL19Item_d (l,((n:Int),()))=some ((trieV f n l,()),()):=⟨iTrie_is f n l hf h,sTrie_is f n l hf h⟩
theorem trie_both (f n:Nat) (l:List tPair) (hf:8-n<f) (h:GoodP l n): ∃x:ItemT,ixTrieItem_d (l,((n:Int),()))=some ((x,()),())∧sL19Item_d (l,((n:Int),()))=some ((x,()),()):=⟨_,trie_is f n l hf h⟩
theorem bl_trans: ∀ (a b c:List UInt8),Op.bytesLess a b=true→Op.bytesLess b c=true→Op.bytesLess a c=true
 | [],b,[],h1,h2=>by cases b<;>simp [Op.bytesLess] at h2
 | [],b,c::zs,h1,h2=>rfl
 |a::xs,[],c,h1,h2=>by simp [Op.bytesLess] at h1
 |a::xs,b::ys,[],h1,h2=>by simp [Op.bytesLess] at h2
 |a::xs,b::ys,c::zs,h1,h2=>by
  simp only[Op.bytesLess,Bool.or_eq_true,decide_eq_true_eq,Bool.and_eq_true,beq_iff_eq] at h1 h2⊢
  rcases h1 with h1| ⟨rfl,h1⟩
  ·rcases h2 with h2| ⟨rfl,h2⟩
   ·exact .inl (UInt8.lt_trans h1 h2)
   ·exact .inl h1
  ·rcases h2 with h2| ⟨rfl,h2⟩
   ·exact .inl h2
   ·exact .inr ⟨rfl,bl_trans xs ys zs h1 h2⟩
theorem bl_irr: ∀a:List UInt8,Op.bytesLess a a=false
 | []=>rfl
 |a::xs=>by simp [Op.bytesLess,bl_irr xs]
noncomputable def pokA (l:List tPair) (i:Nat):Bool:=decide (ssz (rd zPair l (i:Int)).1=4)&&(decide (1≤ssz (rd zPair l (i:Int)).2.1)&&(decide (ssz (rd zPair l (i:Int)).2.1≤60)&&(decide (i=0)||slt (rd zPair l ((i:Int)-1)).1 (rd zPair l (i:Int)).1)))
noncomputable def pokF (l:List tPair):Nat→Nat→Bool
 |_,0=>true
 |i,m+1=>pokA l i&&pokF l (i+1) m
noncomputable def pokV (l:List tPair):Bool:=decide (l.length≤12)&&pokF l 0 l.length
theorem sge_slt (x y:ByteArray):sge x y=!slt x y:=rfl
theorem iPok_loop (l:List tPair) (hl:l.length≤1000000): ∀ (m i:Nat),i+m=l.length→iPairsOk_D4 (l,(l,(len l,((i:Int),()))))=some ((pokF l i m,()),()):=by
 intro m
 induction m with
 |zero=>intro i hi;rw[iPairsOk_q4,show (i:Int)=(l.length:Int) by omega,ilt_end,cnd_f];rfl
 |succ m ih=>
  intro i hi
  have h1:i<l.length:=by omega
  rw[iPairsOk_q4,ilt_at h1,cnd_t,inb_at h1,cnd_t,ine_d]
  show _=some ((pokA l i&&pokF l (i+1) m,()),())
  unfold pokA
  by_cases c1:ssz (rd zPair l (i:Int)).1=4
  ·rw[decide_eq_true c1,show (!true)=false from rfl,cnd_f]
   by_cases c2:1≤ssz (rd zPair l (i:Int)).2.1
   ·rw[ilt_f c2,cnd_f,decide_eq_true c2]
    by_cases c3:ssz (rd zPair l (i:Int)).2.1≤60
    ·rw[igt_f c3,cnd_f,decide_eq_true c3]
     by_cases c4:i=0
     ·rw[igt_f (by omega),cnd_f,decide_eq_true c4,next_at (by omega),ih (i+1) (by omega)];rfl
     ·rw[igt_t (by omega),cnd_t,isub_64 (by omega) (by omega),show inb ((i:Int)-1) (len l)=true by rw[len_d];exact inb_t (by omega) (by omega),cnd_t,sge_slt,cnd_not,decide_eq_false c4]
      cases slt (rd zPair l ((i:Int)-1)).1 (rd zPair l (i:Int)).1
      ·rfl
      ·rw[cnd_t,next_at (by omega),ih (i+1) (by omega)];rfl
    ·rw[igt_t (by omega),cnd_t,decide_eq_false c3];rfl
   ·rw[ilt_t (by omega),cnd_t,decide_eq_false c2];rfl
  ·rw[decide_eq_false c1,show (!false)=true from rfl,cnd_t];rfl
theorem sPok_loop (l:List tPair) (hl:l.length≤1000000000): ∀ (m i:Nat),i+m=l.length→sPairsOk_D2 (l,((i:Int),()))=some ((pokF l i m&&decide (l.length≤12),()),()):=by
 intro m
 induction m with
 |zero=>
  intro i hi
  rw[sPairsOk_q2,show (i:Int)=(l.length:Int) by omega,ilt_end,cnd_f,ile_d,len_d]
  show some ((decide ((l.length:Int)≤12),()),())=some ((true&&decide (l.length≤12),()),())
  rw[Bool.true_and,show decide ((l.length:Int)≤12)=decide (l.length≤12) by simp only[decide_eq_decide];omega]
 |succ m ih=>
  intro i hi
  have h1:i<l.length:=by omega
  rw[sPairsOk_q2,ilt_at h1,cnd_t,inb_at h1,cnd_t,ine_d]
  show _=some (((pokA l i&&pokF l (i+1) m)&&decide (l.length≤12),()),())
  unfold pokA
  by_cases c1:ssz (rd zPair l (i:Int)).1=4
  ·rw[decide_eq_true c1,show (!true)=false from rfl,cnd_f,cnd_t,sIn_l,bnd_s]
   simp only[]
   by_cases c2:1≤ssz (rd zPair l (i:Int)).2.1
   ·by_cases c3:ssz (rd zPair l (i:Int)).2.1≤60
    ·rw[decide_eq_true (⟨c2,c3⟩:1≤ssz (rd zPair l (i:Int)).2.1∧ssz (rd zPair l (i:Int)).2.1≤60),show bnot true=false from rfl,cnd_f,decide_eq_true c2,decide_eq_true c3]
     by_cases c4:i=0
     ·rw[igt_f (by omega),cnd_f,decide_eq_true c4,next_at (by omega),ih (i+1) (by omega)];rfl
     ·rw[igt_t (by omega),cnd_t,isub_64 (by omega) (by omega),show inb ((i:Int)-1) (len l)=true by rw[len_d];exact inb_t (by omega) (by omega),cnd_t,cnd_t,sge_slt,cnd_not,decide_eq_false c4]
      cases slt (rd zPair l ((i:Int)-1)).1 (rd zPair l (i:Int)).1
      ·rfl
      ·rw[cnd_t,next_at (by omega),ih (i+1) (by omega)];rfl
    ·rw[decide_eq_false (fun hh:1≤ssz (rd zPair l (i:Int)).2.1∧ssz (rd zPair l (i:Int)).2.1≤60=>c3 hh.2),show bnot false=true from rfl,cnd_t,decide_eq_true c2,decide_eq_false c3];rfl
   ·rw[decide_eq_false (fun hh:1≤ssz (rd zPair l (i:Int)).2.1∧ssz (rd zPair l (i:Int)).2.1≤60=>c2 hh.1),show bnot false=true from rfl,cnd_t,decide_eq_false c2];rfl
  ·rw[decide_eq_false c1,show (!false)=true from rfl,cnd_t];rfl
theorem iPok_l (l:List tPair):iPairsOk_d (l,())=some ((pokV l,()),()):=by
 rw[iPairsOk_b]
 unfold pokV
 by_cases h:l.length≤12
 ·rw[igt_f (by rw[len_d];omega),cnd_f,decide_eq_true h]
  exact iPok_loop l (by omega) l.length 0 (by omega)
 ·rw[igt_t (by rw[len_d];omega),cnd_t,decide_eq_false h];rfl
theorem sPok_l (l:List tPair) (hl:l.length≤1000000000):sPairsOk_d (l,())=some ((pokV l,()),()):=by
 rw[sPairsOk_b]
 have:=sPok_loop l hl l.length 0 (by omega)
 rw[show ((0:Nat):Int)=0 from rfl] at this
 rw[this,pokV,Bool.and_comm]
theorem pokF_at (l:List tPair): ∀ (m i:Nat),pokF l i m=true→ ∀j,i≤j→j<i+m→pokA l j=true
 |0,i,_,j,h1,h2=>by omega
 |m+1,i,h,j,h1,h2=>by
  have h':(pokA l i&&pokF l (i+1) m)=true:=h
  rw[Bool.and_eq_true] at h'
  by_cases hj:j=i
  ·subst hj;exact h'.1
  ·exact pokF_at l m (i+1) h'.2 j (by omega) (by omega)
theorem pok_good {l:List tPair} (h:pokV l=true):GoodP l 0:=by
 unfold pokV at h
 rw[Bool.and_eq_true] at h
 have hl:=of_decide_eq_true h.1
 have hat:=pokF_at l l.length 0 h.2
 have get: ∀j (hj:j<l.length),l[j].1.size=4∧(j=0∨ ∃hj':j-1<l.length,Op.bytesLess (l[j-1].1).toList (l[j].1).toList=true):=by
  intro j hj
  have h1:=hat j (by omega) (by omega)
  unfold pokA at h1
  simp only[Bool.and_eq_true,decide_eq_true_eq,Bool.or_eq_true,rd_at hj,ssz_d] at h1
  refine ⟨by omega,?_⟩
  rcases h1.2.2.2 with h2|h2
  ·exact .inl h2
  ·by_cases hj0:j=0
   ·exact .inl hj0
   ·right
    have hj1:j-1<l.length:=by omega
    refine ⟨hj1,?_⟩
    rw[show ((j:Int)-1)=((j-1:Nat):Int) by omega,rd_at hj1] at h2
    exact h2
 have lt: ∀ (m i:Nat) (hi:i<l.length) (hj:i+m+1<l.length),Op.bytesLess (l[i].1).toList (l[i+m+1].1).toList=true:=by
  intro m
  induction m with
  |zero=>
   intro i hi hj
   rcases (get (i+0+1) hj).2 with h1| ⟨h1,h2⟩
   ·omega
   ·simpa using h2
  |succ m ih=>
   intro i hi hj
   have h1:=ih i hi (by omega)
   rcases (get (i+(m+1)+1) hj).2 with h2| ⟨h2,h3⟩
   ·omega
   ·refine bl_trans _ _ _ h1 ?_
    simp only[show i+(m+1)+1-1=i+m+1 by omega] at h3
    exact h3
 refine ⟨by omega,fun p hp=>?_,?_,fun _ _ _ _=>rfl,by omega⟩
 ·obtain ⟨j,hj,rfl⟩:=List.getElem_of_mem hp
  exact (get j hj).1
 ·rw[List.pairwise_iff_getElem]
  intro i j hi hj hij e
  have:=lt (j-i-1) i hi (by omega)
  simp only[show i+(j-i-1)+1=j by omega] at this
  rw[e,bl_irr] at this
  cases this
noncomputable def trootV (l:List tPair):ByteArray:=if pokV l=true then digestV (itemR (trieV 9 0 l)).1 else bs []
theorem trootV_size (l:List tPair):(trootV l).size≤32:=by
 unfold trootV
 split
 ·exact Nat.le_of_eq (digestV_size _)
 ·decide
theorem iRoot_l (l:List tPair):iTrieRoot_d (l,())=some ((trootV l,()),()):=by
 rw[iTrieRoot_b,iPok_l,bnd_s]
 unfold trootV
 simp only[]
 cases h:pokV l with
 |false=>rfl
 |true=>
  simp only[bnot,Bool.not_true,cnd_f]
  have hz:=itemR_size (trieV 9 0 l)
  rw[show ixTrieItem_d (l,(0,()))=some ((trieV 9 0 l,()),()) from iTrie_is 9 0 l (by omega) (pok_good h),bnd_s]
  simp only[]
  rw[iItemText_l,bnd_s]
  simp only[]
  rw[iDigest_l _ (by omega),bnd_s]
  rfl
theorem sRoot_l (l:List tPair) (hl:l.length≤1000000000):sTrieRoot_d (l,())=some ((trootV l,()),()):=by
 rw[sTrieRoot_b,sPok_l l hl,bnd_s]
 unfold trootV
 simp only[]
 cases h:pokV l with
 |false=>rfl
 |true=>
  simp only[bnot,Bool.not_true,cnd_f]
  have hz:=itemR_size (trieV 9 0 l)
  rw[show sL19Item_d (l,(0,()))=some ((trieV 9 0 l,()),()) from (trie_is 9 0 l (by omega) (pok_good h)).2,bnd_s]
  simp only[]
  rw[sItemText_l,bnd_s]
  simp only[]
  rw[sDigest_l _ (by omega),bnd_s]
  rfl
theorem root_both (l:List tPair) (hl:l.length≤1000000000): ∃t:ByteArray,t.size≤32∧iTrieRoot_d (l,())=some ((t,()),())∧sTrieRoot_d (l,())=some ((t,()),()):=⟨_,trootV_size l,iRoot_l l,sRoot_l l hl⟩
end Go.Proofs.YtoeiajpklkijgaaGreatDoor
