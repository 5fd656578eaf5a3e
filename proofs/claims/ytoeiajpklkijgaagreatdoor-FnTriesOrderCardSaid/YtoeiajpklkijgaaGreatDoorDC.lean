/- A root tells of what is held alone; drawn items, items of tries are the same. Of no condition. -/
import Derived.Test.YtoeiajpklkijgaaGreatDoorTQ
set_option linter.unusedVariables false
set_option linter.unusedSimpArgs false
set_option maxRecDepth 100000
namespace Go.Proofs.YtoeiajpklkijgaaGreatDoor
open Go.TV
inductive Slim:ItemT→Prop where
 |mk {l:Bool} {s:ByteArray} {k:List ItemT}:k.length≤1000→(∀y∈k,Slim y)→Slim (.mk l s k)
theorem Slim.leaf (l:Bool) (s:ByteArray):Slim (.mk l s []):= .mk (by simp) (fun y hy=>by cases hy)
theorem Slim.fit: ∀ (d:Nat) (x:ItemT),fitV d x=true→Slim x:=by
 intro d
 induction d with
 |zero=>
  intro x h
  obtain ⟨l,s,k⟩:=x
  cases l with
  |false=>obtain ⟨_,rfl⟩:=fit_leaf h;exact .leaf _ _
  |true=>obtain ⟨_,_,e,he,_⟩:=fit_list h;omega
 |succ d ih=>
  intro x h
  obtain ⟨l,s,k⟩:=x
  cases l with
  |false=>obtain ⟨_,rfl⟩:=fit_leaf h;exact .leaf _ _
  |true=>
   obtain ⟨_,h1,e,he,h2⟩:=fit_list h
   obtain rfl:d=e:=by omega
   exact .mk (by omega) fun y hy=>ih y (h2 y hy)
theorem leaf_l {c:tL01Cur} (h:CurOk c): ∃ (t:ByteArray) (c1 c':tL01Cur) (n:Int),sL01PickInt_d (c,([0,1,1,2,5,55,56,70,9],()))=some ((n,()),(c1,()))∧sL01Text_d (c1,(n,()))=some ((t,()),(c',()))∧t.size≤70∧CurOk c':=by
 obtain ⟨n,c1,e1,hn,h1⟩:=pickInt_l [0,1,1,2,5,55,56,70,9] (by decide) h
 have hn':0≤n∧n≤70:=by
  simp only[List.mem_cons,List.not_mem_nil,or_false] at hn
  omega
 obtain ⟨t,c2,e2,ht,h2⟩:=text_l n (by omega) h1
 exact ⟨t,c1,c2,n,e1,e2,by omega,h2⟩
theorem item_l: ∀ (d:Nat),d≤100→ ∀ (c:tL01Cur),CurOk c→ ∃ (x:ItemT) (c':tL01Cur),sL17Item_d (c,((d:Int),()))=some ((x,()),(c',()))∧Slim x∧x.s.size≤70∧CurOk c':=by
 intro d
 induction d with
 |zero=>
  intro hd c h
  obtain ⟨t,c1,c2,n,e1,e2,ht,h2⟩:=leaf_l h
  rw[sL17Item_b,show ieq ((0:Nat):Int) 0=true from rfl,cnd_t,e1,bnd_s]
  simp only[]
  rw[e2,bnd_s]
  exact ⟨_,_,rfl, .leaf _ _,ht,h2⟩
 |succ d ih=>
  intro hd c h
  have loop: ∀ (m i:Nat) (c:tL01Cur) (z x:ItemT),i+m=5→x.k.length≤i→Slim x→x.s.size≤70→CurOk c→ ∃ (y:ItemT) (c':tL01Cur),sL17Item_D6 (((d+1:Nat):Int),((i:Int),(c,(z,(x,())))))=some ((y,()),(c',()))∧Slim y∧y.s.size≤70∧CurOk c':=by
   intro m
   induction m with
   |zero=>
    intro i c z x hi hx hs hz h
    obtain ⟨v,c1,e1,v0,v1,h1⟩:=below_l 5 h
    rw[sL17Item_q6,e1,bnd_s]
    simp only[]
    rw[ilt_f (by have:=v1 (by omega);omega),cnd_f]
    exact ⟨_,_,rfl,hs,hz,h1⟩
   |succ m ihm=>
    intro i c z x hi hx hs hz h
    obtain ⟨v,c1,e1,v0,v1,h1⟩:=below_l 5 h
    rw[sL17Item_q6,e1,bnd_s]
    simp only[]
    by_cases hv:(i:Int)<v
    ·obtain ⟨y,c2,e2,hy,hys,h2⟩:=ih (by omega) c1 h1
     rw[ilt_t hv,cnd_t,isub_64 (by omega) (by omega),show ((d+1:Nat):Int)-1=(d:Int) by omega,e2,bnd_s]
     simp only[]
     rw[app_fits (by decide) (by simp only[List.length_cons,List.length_nil];omega),cnd_t,next_at (by omega)]
     obtain ⟨l,s,k⟩:=x
     refine ihm (i+1) c2 z (.mk l s (k++[y])) (by omega) ?_ ?_ hz h2
     ·show (k++[y]).length≤i+1
      have hx':k.length≤i:=hx
      rw[List.length_append];simp only[List.length_cons,List.length_nil];omega
     ·cases hs with
      |mk a b=>
       have hx':k.length≤i:=hx
       refine .mk (by rw[List.length_append];simp only[List.length_cons,List.length_nil];omega) fun w hw=>?_
       rcases List.mem_append.1 hw with hw|hw
       ·exact b w hw
       ·rw[List.mem_singleton.1 hw];exact hy
    ·rw[ilt_f (by omega),cnd_f]
     exact ⟨_,_,rfl,hs,hz,h1⟩
  obtain ⟨b,c1,e1,h1⟩:=once_l 2 h
  rw[sL17Item_b,ieq_d,decide_eq_false (by omega),cnd_f,e1,bnd_s]
  simp only[]
  cases b with
  |true=>
   obtain ⟨t,c2,c3,n,e2,e3,ht,h2⟩:=leaf_l h1
   rw[cnd_t,e2,bnd_s]
   simp only[]
   rw[e3,bnd_s]
   exact ⟨_,_,rfl, .leaf _ _,ht,h2⟩
  |false=>
   rw[cnd_f]
   exact loop 5 0 c1 _ _ (by omega) (by show ([]:List ItemT).length≤0;simp) (.leaf _ _) (by show (bs []).size≤70;rw[size_bs];simp) h1
theorem long_loop (n:Int) (v:Int): ∀ (m i:Nat) (xs:List Int),i+m=n.toNat→xs.length=n.toNat→n≤1000000→ ∃t:ByteArray,sL01Long_D3 (n,(v,(xs,((i:Int),()))))=some ((t,()),())∧t.size=n.toNat:=by
 intro m
 induction m with
 |zero=>
  intro i xs hi hx hn
  rw[sL01Long_q3,ilt_f (by omega),cnd_f]
  exact ⟨_,rfl,by rw[size_sof];omega⟩
 |succ m ih=>
  intro i xs hi hx hn
  rw[sL01Long_q3,ilt_t (by omega),cnd_t,inb_at (by omega),cnd_t,next_at (by omega),upd_at]
  exact ih (i+1) _ (by omega) (by rw[List.length_set];exact hx) hn
theorem long_l (n v:Int) (h0:0≤n) (h1:n≤1000000): ∃t:ByteArray,sL01Long_d (n,(v,()))=some ((t,()),())∧t.size=n.toNat:=by
 rw[sL01Long_b,inb2_t (Int.le_refl _) h0 (Int.le_refl _),fits_t h0 (by omega),show both true true=true from rfl,cnd_t]
 exact long_loop n v n.toNat 0 _ (by omega) (by unfold rep;rw[List.length_replicate]) h1
theorem any_l {c:tL01Cur} (h:CurOk c): ∃ (x:ItemT) (c':tL01Cur),sL17Any_d (c,())=some ((x,()),(c',()))∧Slim x∧CurOk c':=by
 obtain ⟨k,c1,e1,_,_,h1⟩:=below_l 10 h
 obtain ⟨x,c2,e2,hx,hz,h2⟩:=item_l 3 (by omega) c1 h1
 rw[show ((3:Nat):Int)=3 from rfl] at e2
 rw[sL17Any_b,e1,bnd_s]
 simp only[]
 rw[e2,bnd_s]
 simp only[]
 cases ieq k 0 with
 |true=>
  rw[cnd_t,cat_fits (by rw[size_bs];simp only[List.length_cons,List.length_nil];omega),cnd_t]
  obtain ⟨l,s,ks⟩:=x
  cases hx with
  |mk a b=>exact ⟨_,_,rfl, .mk a b,h2⟩
 |false=>
  rw[cnd_f]
  cases ieq k 1 with
  |true=>
   rw[cnd_t]
   have wrap: ∀ (m i:Nat) (z x:ItemT),i+m=4→Slim x→ ∃y:ItemT,sL17Any_D8 ((i:Int),(c2,(z,(x,()))))=some ((y,()),(c2,()))∧Slim y:=by
    intro m
    induction m with
    |zero=>
     intro i z x hi hx
     rw[sL17Any_q8,ilt_f (by omega),cnd_f]
     exact ⟨_,rfl,hx⟩
    |succ m ih=>
     intro i z x hi hx
     rw[sL17Any_q8,ilt_t (by omega),cnd_t,next_at (by omega)]
     exact ih (i+1) _ _ (by omega) (.mk (by simp) fun y hy=>by rw[List.mem_singleton.1 hy];exact hx)
   obtain ⟨y,e,hy⟩:=wrap 4 0 (.mk false (bs []) []) x (by omega) hx
   exact ⟨y,c2,e,hy,h2⟩
  |false=>
   rw[cnd_f]
   cases ieq k 2 with
   |true=>
    obtain ⟨v,c3,e3,v0,v1,h3⟩:=below_l 2 h2
    have hv:=v1 (by omega)
    obtain ⟨t,e4,_⟩:=long_l (600+v) 200 (by omega) (by omega)
    rw[cnd_t,e3,bnd_s]
    simp only[]
    rw[iadd_64 (by omega) (by omega),e4,bnd_s]
    exact ⟨_,_,rfl, .leaf _ _,h3⟩
   |false=>
    rw[cnd_f]
    exact ⟨_,_,rfl,hx,h2⟩
theorem drawRef_l (code:List Int) (hl:code.length≤1048576): ∃x:ItemT,sDrawTrieRef_d (code,())=some ((x,()),())∧Slim x:=by
 obtain ⟨c,e,h⟩:=new_l code hl
 obtain ⟨x,c',e2,hx,_⟩:=any_l h
 rw[sDrawTrieRef_b,e,bnd_s]
 simp only[]
 rw[e2,bnd_s]
 exact ⟨x,rfl,hx⟩
theorem same_l {x:ItemT} (h:Slim x):sSameItem_d (x,(x,()))=some ((true,()),()):=by
 induction h with
 | @mk l s k hk hy ih=>
   have loop: ∀ (m i:Nat),i+m=k.length→sSameItem_D4 ((i:Int),(.mk l s k,(.mk l s k,())))=some ((true,()),()):=by
    intro m
    induction m with
    |zero=>
     intro i hi
     rw[sSameItem_q4,show (i:Int)=(k.length:Int) by omega]
     show Go.TV.cnd (ilt (k.length:Int) (len k)) _ _=_
     rw[ilt_end,cnd_f]
    |succ m ihm=>
     intro i hi
     have h1:i<k.length:=by omega
     rw[sSameItem_q4]
     show Go.TV.cnd (ilt (i:Int) (len k)) (Go.TV.cnd (inb (i:Int) (len k)) (Go.TV.cnd (inb (i:Int) (len k)) (Go.TV.bnd (sSameItem_d (rd (ItemT.mk false (bs []) []) k (i:Int),(rd (ItemT.mk false (bs []) []) k (i:Int),()))) _) none) none) _=_
     rw[ilt_at h1,cnd_t,inb_at h1,cnd_t,cnd_t,rd_at h1,ih k[i] (List.getElem_mem h1),bnd_s]
     simp only[]
     rw[show bnot true=false from rfl,cnd_f,next_at (by omega)]
     exact ihm (i+1) (by omega)
   rw[sSameItem_b]
   show Go.TV.cnd (bneB l l) _ (Go.TV.cnd (sne s s) _ (Go.TV.cnd (ine (len k) (len k)) _ _))=_
   rw[bneB_self,cnd_f,sne_self,cnd_f,ine_self,cnd_f]
   exact loop k.length 0 (by omega)
theorem anyPairs_l {c:tL01Cur} (h:CurOk c): ∃ (l:List tPair) (c':tL01Cur),sL19Any_d (c,())=some ((l,()),(c',()))∧l.length≤9∧CurOk c':=by
 obtain ⟨k,c1,e1,_,_,h1⟩:=below_l 10 h
 obtain ⟨l,c2,e2,a1,a2,a3,h2⟩:=pairs_l h1
 rw[sL19Any_b,e1,bnd_s]
 simp only[]
 rw[e2,bnd_s]
 simp only[]
 rw[app_fits (by decide) (by simp only[List.length_nil];omega),cnd_t,show app ([]:List tPair) l=l from rfl]
 cases ieq k 0 with
 |true=>
  rw[cnd_t,app_fits (by decide) (by simp only[List.length_cons,List.length_nil];omega),cnd_t]
  exact ⟨_,_,rfl,by unfold app;rw[List.length_append];simp only[List.length_cons,List.length_nil];omega,h2⟩
 |false=>
  rw[cnd_f]
  cases ieq k 1 with
  |true=>
   rw[cnd_t,app_fits (by decide) (by simp only[List.length_cons,List.length_nil];omega),cnd_t]
   exact ⟨_,_,rfl,by unfold app;rw[List.length_append];simp only[List.length_cons,List.length_nil];omega,h2⟩
  |false=>
   rw[cnd_f]
   cases ieq k 2 with
   |true=>
    rw[cnd_t,app_fits (by decide) (by simp only[List.length_cons,List.length_nil];omega),cnd_t]
    exact ⟨_,_,rfl,by unfold app;rw[List.length_append];simp only[List.length_cons,List.length_nil];omega,h2⟩
   |false=>
    rw[cnd_f]
    exact ⟨_,_,rfl,by omega,h2⟩
theorem drawItem_l (code:List Int) (hl:code.length≤1048576): ∃ (l:List tPair) (n:Int),sDrawTrieItem_d (code,())=some ((l,(n,())),())∧l.length≤9:=by
 obtain ⟨c,e,h⟩:=new_l code hl
 obtain ⟨n,c1,e1,_,h1⟩:=pickInt_l [0,0,0,1,2,8,9,-1] (by decide) h
 obtain ⟨l,c2,e2,hn,_⟩:=anyPairs_l h1
 rw[sDrawTrieItem_b,e,bnd_s]
 simp only[]
 rw[e1,bnd_s]
 simp only[]
 rw[e2,bnd_s]
 exact ⟨l,n,rfl,hn⟩
def agrV (x:List tPair) (n:Nat):Bool:=match x with
 | []=>true
 |p::l=>l.all fun q=>decide (n≤comV (nibV p.1) (nibV q.1))
noncomputable def titemV (x:List tPair) (n:Int):ItemT:=if 0≤n∧n≤8∧pokV x=true∧agrV x n.toNat=true then trieV 9 n.toNat x else zI
theorem shV_ge: ∀ (l:List tPair) (f:List Int) (n m k:Nat),k≤m→(∀p∈l,k≤comV f ((nibV p.1).drop n))→k≤shV l f n m
 | [],f,n,m,k,h,_=>h
 |q::l,f,n,m,k,h,hp=>by
  show k≤shV l f n (min m (comV f ((nibV q.1).drop n)))
  exact shV_ge l f n _ k (by have:=hp q (by simp);omega) fun p h=>hp p (by simp [h])
theorem agr_good {p:tPair} {l:List tPair} (h:GoodP (p::l) 0) {n:Nat} (hn:n≤8) (ha:agrV (p::l) n=true):GoodP (p::l) n:=by
 have ha': ∀q∈l,n≤comV (nibV p.1) (nibV q.1):=fun q hq=>of_decide_eq_true (List.all_eq_true.1 ha q hq)
 have one: ∀q∈p::l,(nibV q.1).take n=(nibV p.1).take n:=fun q hq=>by
  rcases List.mem_cons.1 hq with rfl|hq
  ·rfl
  ·exact (com_take _ _ _ (ha' q hq)).symm
 exact ⟨h.len,h.key,h.dist,fun a ha b hb=>by rw[one a ha,one b hb],hn⟩
theorem trie_nil (n:Int):ixTrieItem_d (([]:List tPair),(n,()))=some ((zI,()),())∧sL19Item_d (([]:List tPair),(n,()))=some ((zI,()),()):=
 ⟨by rw[ixTrieItem_b];rfl,by rw[sL19Item_b,sL19Text_b];rfl⟩
theorem trieV_nil (f n:Nat):trieV f n []=zI:=by cases f<;>rfl
theorem iTItem_l (x:List tPair) (n:Int):iTrieItem_d (x,(n,()))=some ((titemV x n,()),()):=by
 rw[iTrieItem_b]
 unfold titemV
 by_cases h0:0≤n
 ·rw[ilt_f (by omega),cnd_f]
  by_cases h8:n≤8
  ·rw[igt_f (by omega),cnd_f,iPok_l,bnd_s]
   simp only[]
   cases hp:pokV x with
   |false=>rw[if_neg (fun hh=>by cases hh.2.2.1)];rfl
   |true=>
    obtain ⟨k,rfl⟩:=Int.eq_ofNat_of_zero_le h0
    rw[show bnot true=false from rfl,cnd_f,Int.toNat_natCast]
    match x,hp with
    | [],hp=>
      rw[show igt (len ([]:List tPair)) 0=false from rfl,cnd_f,(trie_nil _).1,bnd_s,if_pos ⟨h0,h8,by trivial,by trivial⟩,trieV_nil]
    |p::l,hp=>
     have hg:=pok_good hp
     have hs:=iShared_l p l 0 hg
     rw[show ((0:Nat):Int)=0 from rfl,List.drop_zero] at hs
     rw[igt_t (by rw[len_d];simp only[List.length_cons];omega),cnd_t,hs,bnd_s]
     simp only[]
     cases ha:agrV (p::l) k with
     |true=>
      have hk:k≤shV l (nibV p.1) 0 (8-0):=shV_ge l _ 0 _ k (by omega) fun q hq=>by
       rw[List.drop_zero];exact of_decide_eq_true (List.all_eq_true.1 ha q hq)
      rw[ilt_f (by omega),cnd_f,(trie_is 9 k (p::l) (by omega) (agr_good hg (by omega) ha)).1,bnd_s,if_pos ⟨h0,h8,by trivial,by trivial⟩]
     |false=>
      have hk: ¬k≤shV l (nibV p.1) 0 (8-0):=fun hk=>by
       have:agrV (p::l) k=true:=List.all_eq_true.2 fun q hq=>decide_eq_true (by
        have:=shV_com l (nibV p.1) 0 (8-0) q hq
        rw[List.drop_zero] at this;omega)
       rw[this] at ha;cases ha
      rw[ilt_t (by omega),cnd_t,if_neg (fun hh=>by cases hh.2.2.2)]
      rfl
  ·rw[igt_t (by omega),cnd_t,if_neg (fun hh=>h8 hh.2.1)]
   rfl
 ·rw[ilt_t (by omega),cnd_t,if_neg (fun hh=>h0 hh.1)]
  rfl
theorem sSame_loop (p:tPair) (l:List tPair) (hk: ∀q∈p::l,q.1.size=4) (hl:(p::l).length≤1000) (n:Nat): ∀ (m i:Nat),i+m=(p::l).length→sL19Same_D2 (p::l,((n:Int),((i:Int),())))=some ((((p::l).drop i).all fun q=>decide (n≤comV (nibV p.1) (nibV q.1)),()),()):=by
 intro m
 induction m with
 |zero=>
  intro i hi
  rw[sL19Same_q2,show (i:Int)=((p::l).length:Int) by omega,ilt_end,cnd_f,List.drop_eq_nil_of_le (by omega)]
  rfl
 |succ m ih=>
  intro i hi
  have h1:i<(p::l).length:=by omega
  have z1:=hk _ (List.getElem_mem h1)
  have z0:=hk p (by simp)
  rw[sL19Same_q2,ilt_at h1,cnd_t,show inb 0 (len (p::l))=true from inb_at (i:=0) (Nat.succ_pos _),cnd_t,show rd zPair (p::l) 0=p from rfl,sNib_l _ (by omega),bnd_s,inb_at h1,cnd_t,rd_at h1,sNib_l _ (by omega),bnd_s]
  simp only[]
  rw[sCom_l _ _ (by rw[nibV_len];omega),bnd_s,List.drop_eq_getElem_cons h1,List.all_cons]
  simp only[]
  by_cases hc:n≤comV (nibV p.1) (nibV (p::l)[i].1)
  ·rw[ilt_f (by omega),cnd_f,decide_eq_true hc,Bool.true_and,next_at (by omega)]
   exact ih (i+1) (by omega)
  ·rw[ilt_t (by omega),cnd_t,decide_eq_false hc,Bool.false_and]
theorem sTItem_l (x:List tPair) (n:Int) (hl:x.length≤1000):sTrieItem_d (x,(n,()))=some ((titemV x n,()),()):=by
 rw[sTrieItem_b,sPok_l x (by omega),bnd_s]
 unfold titemV
 simp only[]
 cases hp:pokV x with
 |false=>rw[show bnot false=true from rfl,cnd_t,sL19Text_b,bnd_s,if_neg (fun hh=>by cases hh.2.2.1)];rfl
 |true=>
  rw[show bnot true=false from rfl,cnd_f,sIn_l,bnd_s]
  simp only[]
  by_cases h08:0≤n∧n≤8
  ·obtain ⟨h0,h8⟩:=h08
   obtain ⟨k,rfl⟩:=Int.eq_ofNat_of_zero_le h0
   rw[decide_eq_true (⟨h0,h8⟩:0≤(k:Int)∧(k:Int)≤8),show bnot true=false from rfl,cnd_f,Int.toNat_natCast,sL19Same_b]
   match x,hp,hl with
   | [],hp,hl=>
     rw[sL19Same_q2,show ilt 1 (len ([]:List tPair))=false from rfl,cnd_f,bnd_s]
     simp only[]
     rw[show bnot true=false from rfl,cnd_f,(trie_nil _).2,bnd_s,if_pos ⟨h0,h8,by trivial,by trivial⟩,trieV_nil]
   |p::l,hp,hl=>
    have hg:=pok_good hp
    have:=sSame_loop p l hg.key hl k l.length 1 (by rw[List.length_cons];omega)
    rw[show ((1:Nat):Int)=1 from rfl] at this
    rw[this,bnd_s,show ((p::l).drop 1).all (fun q=>decide (k≤comV (nibV p.1) (nibV q.1)))=agrV (p::l) k from rfl]
    simp only[]
    cases ha:agrV (p::l) k with
    |true=>
     rw[show bnot true=false from rfl,cnd_f,(trie_is 9 k (p::l) (by omega) (agr_good hg (by omega) ha)).2,bnd_s,if_pos ⟨h0,h8,by trivial,by trivial⟩]
    |false=>
     rw[show bnot false=true from rfl,cnd_t,sL19Text_b,bnd_s,if_neg (fun hh=>by cases hh.2.2.2)]
     rfl
  ·rw[decide_eq_false h08,show bnot false=true from rfl,cnd_t,sL19Text_b,bnd_s,if_neg (fun hh=>h08 ⟨hh.1,hh.2.1⟩)]
   rfl
theorem titem_slim (x:List tPair) (n:Int):Slim (titemV x n):=by
 unfold titemV
 split
 ·rename_i h
  obtain ⟨h0,h8,hp,ha⟩:=h
  match x,hp,ha with
  | [],hp,ha=>rw[trieV_nil];exact .leaf _ _
  |p::l,hp,ha=>
   obtain ⟨c,hc,_⟩:=right_trie 9 n.toNat (p::l) (by omega) (agr_good (pok_good hp) (by omega) ha) (fun q hq=>(pok_to hp q hq).2.2) (by simp)
   exact Slim.fit 4 _ hc.f4
 ·exact .leaf _ _
theorem ref_slim {x:ItemT} (h:Slim x):Slim (refV x):=by
 unfold refV
 split
 ·exact h
 ·exact .leaf _ _
theorem out_loop (code:List Int) (l:List tPair) (hl:l.length≤1000) (k:ByteArray): ∀ (m i:Nat) (o:List tPair),i+m=l.length→o.length≤i→wFnTriesOrder_D6 (code,(l,(k,(o,((i:Int),())))))=wFnTriesOrder_D6 (code,(l,(k,(o++(l.drop i).filter (fun p=>!decide (p.1=k)),((l.length:Int),()))))):=by
 intro m
 induction m with
 |zero=>
  intro i o hi ho
  rw[List.drop_eq_nil_of_le (by omega),List.filter_nil,List.append_nil,show (i:Int)=(l.length:Int) by omega]
 |succ m ih=>
  intro i o hi ho
  have h1:i<l.length:=by omega
  rw[List.drop_eq_getElem_cons h1,List.filter_cons,wFnTriesOrder_q6,ilt_at h1,cnd_t,inb_at h1,cnd_t,rd_at h1,sne_d]
  by_cases h:l[i].1=k
  ·rw[decide_eq_true h,Bool.not_true,cnd_f,if_neg (by decide),next_at (by omega)]
   exact ih (i+1) o (by omega) (by omega)
  ·rw[decide_eq_false h,Bool.not_false,cnd_t,cnd_t,app_fits (by decide) (by simp only[List.length_cons,List.length_nil];omega),cnd_t,if_pos rfl,next_at (by omega)]
   refine (ih (i+1) (o++[l[i]]) (by omega) (by rw[List.length_append];simp only[List.length_cons,List.length_nil];omega)).trans ?_
   rw[List.append_assoc]
   rfl
theorem wFnTriesOrder_l (code:List Int):wFnTriesOrder_d (code,())=some ((true,()),()):=by
 rw[wFnTriesOrder_b,big_l,bnd_s]
 simp only[]
 by_cases hb:1048576<code.length
 ·rw[decide_eq_true hb,cnd_t]
 ·obtain ⟨l,k,e,d1,d2,d3,hk⟩:=drawPairs_l code (by omega)
  obtain ⟨x,n,ex,hx⟩:=drawItem_l code (by omega)
  obtain ⟨y,ey,hy⟩:=drawRef_l code (by omega)
  have hlo:=List.length_filter_le (fun p:tPair=>!decide (p.1=k)) l
  have hp:pokV (l.filter fun p=>!decide (p.1=k))=true:=pok_draw (by omega) (fun p hp=>d2 p (List.mem_filter.1 hp).1) (d3.filter _)
  have hv:=ver_ok hp hk
  have hg:gotV (l.filter fun p=>!decide (p.1=k)) k=(bs [],false):=got_none fun p hp e=>by
   have:=(List.mem_filter.1 hp).2
   rw[e,decide_eq_true rfl] at this
   cases this
  have h0:=out_loop code l (by omega) k l.length 0 [] (by omega) (by simp)
  rw[show ((0:Nat):Int)=0 from rfl,List.nil_append,List.drop_zero] at h0
  generalize l.filter (fun p=>!decide (p.1=k))=o at hp hv hg h0 hlo
  rw[decide_eq_false hb,cnd_f,e,bnd_s]
  simp only[]
  rw[h0,wFnTriesOrder_q6,ilt_end,cnd_f,iProveT_l,bnd_s,proved_ok hp hk,iRoot_l,bnd_s]
  simp only[]
  rw[iVer_l,bnd_s,hv,hg,ex,bnd_s]
  simp only[]
  rw[ey,bnd_s]
  simp only[]
  rw[iTItem_l,bnd_s,iRef_l,bnd_s]
  simp only[]
  rw[show ieq 0 0=true from rfl,cnd_t,seq_d,decide_eq_true rfl,cnd_t,show bnot false=true from rfl,cnd_t,sTItem_l x n (by omega),bnd_s]
  simp only[]
  rw[same_l (titem_slim x n),bnd_s]
  simp only[]
  rw[cnd_t,sRef_l,bnd_s]
  simp only[]
  rw[same_l (ref_slim hy),bnd_s]
  simp only[]
  rw[cnd_t,bnd_s,sRoot_l _ (by omega),bnd_s]
  simp only[]
  rw[seq_d,decide_eq_true rfl]
end Go.Proofs.YtoeiajpklkijgaaGreatDoor
