/- A root tells of what is held alone; drawn items, items of tries are the same. Of no condition. -/
import Derived.Test.YtoeiajpklkijgaaGreatDoorTQ
set_option linter.unusedVariables false
set_option linter.unusedSimpArgs false
set_option maxRecDepth 100000
namespace Go.Proofs.YtoeiajpklkijgaaGreatDoor
open Go.TV
inductive Slim:ItemT→Prop where
 |mk {l:Bool} {s:ByteArray} {k:List ItemT}:k.length≤1000→(∀y∈k,Slim y)→Slim (.mk l s k)
theorem Slim.leaf (l:Bool) (s:ByteArray):Slim (.mk l s []):= .mk (by simp) (fun y hy=>by cases hy)
theorem Slim.fit: ∀ (d:Nat) (x:ItemT),fitV d x=true→Slim x:=by
 intro d
 induction d with
 |zero=>
  intro x h
  obtain ⟨l,s,k⟩:=x
  cases l with
  |false=>obtain ⟨_,rfl⟩:=fit_leaf h;exact .leaf _ _
  |true=>obtain ⟨_,_,e,he,_⟩:=fit_list h;omega
 |succ d ih=>
  intro x h
  obtain ⟨l,s,k⟩:=x
  cases l with
  |false=>obtain ⟨_,rfl⟩:=fit_leaf h;exact .leaf _ _
  |true=>
   obtain ⟨_,h1,e,he,h2⟩:=fit_list h
   obtain rfl:d=e:=by omega
   exact .mk (by omega) fun y hy=>ih y (h2 y hy)
theorem leaf_l {c:tL01Cur} (h:CurOk c): ∃ (t:ByteArray) (c1 c':tL01Cur) (n:Int),sL01PickInt_d (c,([0,1,1,2,5,55,56,70,9],()))=some ((n,()),(c1,()))∧sL01Text_d (c1,(n,()))=some ((t,()),(c',()))∧t.size≤70∧CurOk c':=by
 obtain ⟨n,c1,e1,hn,h1⟩:=pickInt_l [0,1,1,2,5,55,56,70,9] (by decide) h
 have hn':0≤n∧n≤70:=by
  simp only[List.mem_cons,List.not_mem_nil,or_false] at hn
  omega
 obtain ⟨t,c2,e2,ht,h2⟩:=text_l n (by omega) h1
 exact ⟨t,c1,c2,n,e1,e2,by omega,h2⟩
theorem item_l: ∀ (d:Nat),d≤100→ ∀ (c:tL01Cur),CurOk c→ ∃ (x:ItemT) (c':tL01Cur),sL17Item_d (c,((d:Int),()))=some ((x,()),(c',()))∧Slim x∧x.s.size≤70∧CurOk c':=by
 intro d
 induction d with
 |zero=>
  intro hd c h
  obtain ⟨t,c1,c2,n,e1,e2,ht,h2⟩:=leaf_l h
  rw[sL17Item_b,show ieq ((0:Nat):Int) 0=true from rfl,cnd_t,e1,bnd_s]
  simp only[]
  rw[e2,bnd_s]
  exact ⟨_,_,rfl, .leaf _ _,ht,h2⟩
 |succ d ih=>
  intro hd c h
  have loop: ∀ (m i:Nat) (c:tL01Cur) (z x:ItemT),i+m=5→x.k.length≤i→Slim x→x.s.size≤70→CurOk c→ ∃ (y:ItemT) (c':tL01Cur),sL17Item_D6 (((d+1:Nat):Int),((i:Int),(c,(z,(x,())))))=some ((y,()),(c',()))∧Slim y∧y.s.size≤70∧CurOk c':=by
   intro m
   induction m with
   |zero=>
    intro i c z x hi hx hs hz h
    obtain ⟨v,c1,e1,v0,v1,h1⟩:=below_l 5 h
    rw[sL17Item_q6,e1,bnd_s]
    simp only[]
    rw[ilt_f (by have:=v1 (by omega);omega),cnd_f]
    exact ⟨_,_,rfl,hs,hz,h1⟩
   |succ m ihm=>
    intro i c z x hi hx hs hz h
    obtain ⟨v,c1,e1,v0,v1,h1⟩:=below_l 5 h
    rw[sL17Item_q6,e1,bnd_s]
    simp only[]
    by_cases hv:(i:Int)<v
    ·obtain ⟨y,c2,e2,hy,hys,h2⟩:=ih (by omega) c1 h1
     rw[ilt_t hv,cnd_t,isub_64 (by omega) (by omega),show ((d+1:Nat):Int)-1=(d:Int) by omega,e2,bnd_s]
     simp only[]
     rw[app_fits (by decide) (by simp only[List.length_cons,List.length_nil];omega),cnd_t,next_at (by omega)]
     obtain ⟨l,s,k⟩:=x
     refine ihm (i+1) c2 z (.mk l s (k++[y])) (by omega) ?_ ?_ hz h2
     ·show (k++[y]).length≤i+1
      have hx':k.length≤i:=hx
      rw[List.length_append];simp only[List.length_cons,List.length_nil];omega
     ·cases hs with
      |mk a b=>
       have hx':k.length≤i:=hx
       refine .mk (by rw[List.length_append];simp only[List.length_cons,List.length_nil];omega) fun w hw=>?_
       rcases List.mem_append.1 hw with hw|hw
       ·exact b w hw
       ·rw[List.mem_singleton.1 hw];exact hy
    ·rw[ilt_f (by omega),cnd_f]
     exact ⟨_,_,rfl,hs,hz,h1⟩
  obtain ⟨b,c1,e1,h1⟩:=once_l 2 h
  rw[sL17Item_b,ieq_d,decide_eq_false (by omega),cnd_f,e1,bnd_s]
  simp only[]
  cases b with
  |true=>
   obtain ⟨t,c2,c3,n,e2,e3,ht,h2⟩:=leaf_l h1
   rw[cnd_t,e2,bnd_s]
   simp only[]
   rw[e3,bnd_s]
   exact ⟨_,_,rfl, .leaf _ _,ht,h2⟩
  |false=>
   rw[cnd_f]
   exact loop 5 0 c1 _ _ (by omega) (by show ([]:List ItemT).length≤0;simp) (.leaf _ _) (by show (bs []).size≤70;rw[size_bs];simp) h1
theorem long_loop (n:Int) (v:Int): ∀ (m i:Nat) (xs:List Int),i+m=n.toNat→xs.length=n.toNat→n≤1000000→ ∃t:ByteArray,sL01Long_D3 (n,(v,(xs,((i:Int),()))))=some ((t,()),())∧t.size=n.toNat:=by
 intro m
 induction m with
 |zero=>
  intro i xs hi hx hn
  rw[sL01Long_q3,ilt_f (by omega),cnd_f]
  exact ⟨_,rfl,by rw[size_sof];omega⟩
 |succ m ih=>
  intro i xs hi hx hn
  rw[sL01Long_q3,ilt_t (by omega),cnd_t,inb_at (by omega),cnd_t,next_at (by omega),upd_at]
  exact ih (i+1) _ (by omega) (by rw[List.length_set];exact hx) hn
theorem long_l (n v:Int) (h0:0≤n) (h1:n≤1000000): ∃t:ByteArray,sL01Long_d (n,(v,()))=some ((t,()),())∧t.size=n.toNat:=by
 rw[sL01Long_b,inb2_t (Int.le_refl _) h0 (Int.le_refl _),fits_t h0 (by omega),show both true true=true from rfl,cnd_t]
 exact long_loop n v n.toNat 0 _ (by omega) (by unfold rep;rw[List.length_replicate]) h1
theorem any_l {c:tL01Cur} (h:CurOk c): ∃ (x:ItemT) (c':tL01Cur),sL17Any_d (c,())=some ((x,()),(c',()))∧Slim x∧CurOk c':=by
 obtain ⟨k,c1,e1,_,_,h1⟩:=below_l 10 h
 obtain ⟨x,c2,e2,hx,hz,h2⟩:=item_l 3 (by omega) c1 h1
 rw[show ((3:Nat):Int)=3 from rfl] at e2
 rw[sL17Any_b,e1,bnd_s]
 simp only[]
 rw[e2,bnd_s]
 simp only[]
 cases ieq k 0 with
 |true=>
  rw[cnd_t,cat_fits (by rw[size_bs];simp only[List.length_cons,List.length_nil];omega),cnd_t]
  obtain ⟨l,s,ks⟩:=x
  cases hx with
  |mk a b=>exact ⟨_,_,rfl, .mk a b,h2⟩
 |false=>
  rw[cnd_f]
  cases ieq k 1 with
  |true=>
   rw[cnd_t]
   have wrap: ∀ (m i:Nat) (z x:ItemT),i+m=4→Slim x→ ∃y:ItemT,sL17Any_D8 ((i:Int),(c2,(z,(x,()))))=some ((y,()),(c2,()))∧Slim y:=by
    intro m
    induction m with
    |zero=>
     intro i z x hi hx
     rw[sL17Any_q8,ilt_f (by omega),cnd_f]
     exact ⟨_,rfl,hx⟩
    |succ m ih=>
     intro i z x hi hx
     rw[sL17Any_q8,ilt_t (by omega),cnd_t,next_at (by omega)]
     exact ih (i+1) _ _ (by omega) (.mk (by simp) fun y hy=>by rw[List.mem_singleton.1 hy];exact hx)
   obtain ⟨y,e,hy⟩:=wrap 4 0 (.mk false (bs []) []) x (by omega) hx
   exact ⟨y,c2,e,hy,h2⟩
  |false=>
   rw[cnd_f]
   cases ieq k 2 with
   |true=>
    obtain ⟨v,c3,e3,v0,v1,h3⟩:=below_l 2 h2
    have hv:=v1 (by omega)
    obtain ⟨t,e4,_⟩:=long_l (600+v) 200 (by omega) (by omega)
    rw[cnd_t,e3,bnd_s]
    simp only[]
    rw[iadd_64 (by omega) (by omega),e4,bnd_s]
    exact ⟨_,_,rfl, .leaf _ _,h3⟩
   |false=>
    rw[cnd_f]
    exact ⟨_,_,rfl,hx,h2⟩
end Go.Proofs.YtoeiajpklkijgaaGreatDoor
