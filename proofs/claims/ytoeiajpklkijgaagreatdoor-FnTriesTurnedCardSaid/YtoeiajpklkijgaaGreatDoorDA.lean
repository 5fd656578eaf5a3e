/- What is drawn from bytes: numbers, picks, texts, keys, pairs. Of no condition. -/
import Derived.Test.YtoeiajpklkijgaaGreatDoorTN
set_option linter.unusedVariables false
set_option linter.unusedSimpArgs false
set_option maxRecDepth 100000
namespace Go.Proofs.YtoeiajpklkijgaaGreatDoor
open Go.TV
def CurOk (c:tL01Cur):Prop:=0≤c.2.1∧c.2.1≤len c.1∧len c.1≤1048576
theorem and_255 (x:Int):0≤iand .i64 x 255∧iand .i64 x 255≤255:=by
 have h:(BitVec.ofInt 64 x&&&BitVec.ofInt 64 255).toNat≤255:=by
  rw[BitVec.toNat_and];exact Nat.le_trans Nat.and_le_right (by decide)
 have e:iand .i64 x 255=IntKind.i64.wrap ((BitVec.ofInt 64 x&&&BitVec.ofInt 64 255).toNat:Int):=rfl
 generalize (BitVec.ofInt 64 x&&&BitVec.ofInt 64 255).toNat=n at h e
 have e2:IntKind.i64.wrap (n:Int)=(n:Int):=wrap64_id (by omega) (by omega)
 omega
theorem byte_l {c:tL01Cur} (h:CurOk c): ∃ (v:Int) (c':tL01Cur),sL01Byte_d (c,())=some ((v,()),(c',()))∧0≤v∧v≤255∧CurOk c':=by
 obtain ⟨h0,h1,h2⟩:=h
 rw[sL01Byte_b,show nn 33=true from rfl,cnd_t,show nn 45=true from rfl,cnd_t]
 by_cases hi:c.2.1<len c.1
 ·rw[ilt_t hi,cnd_t,inb_t h0 hi,cnd_t]
  refine ⟨_,_,rfl,(and_255 _).1,(and_255 _).2,?_,?_,h2⟩
  ·show 0≤iadd .i64 c.2.1 1
   rw[iadd_64 (by omega) (by omega)];omega
  ·show iadd .i64 c.2.1 1≤len c.1
   rw[iadd_64 (by omega) (by omega)];omega
 ·rw[ilt_f (by omega),cnd_f]
  exact ⟨_,_,rfl,(and_255 _).1,(and_255 _).2,h0,h1,h2⟩
theorem new_loop (code:List Int) (hl:code.length≤1048576): ∀ (m i:Nat) (h:Int),i+m=code.length→ ∃c:tL01Cur,sL01New_D3 (code,(h,((i:Int),())))=some ((c,()),())∧CurOk c:=by
 intro m
 induction m with
 |zero=>
  intro i h hi
  rw[sL01New_q3,show (i:Int)=(code.length:Int) by omega,ilt_end,cnd_f]
  exact ⟨_,rfl,Int.le_refl _,len_0,by show len code≤_;rw[len_d];omega⟩
 |succ m ih=>
  intro i h hi
  have h1:i<code.length:=by omega
  rw[sL01New_q3,ilt_at h1,cnd_t]
  by_cases h4:(i:Int)<4000
  ·rw[ilt_t h4,cnd_t,inb_at h1,cnd_t,next_at (by omega)]
   exact ih (i+1) _ (by omega)
  ·rw[ilt_f (by omega),cnd_f]
   exact ⟨_,rfl,Int.le_refl _,len_0,by show len code≤_;rw[len_d];omega⟩
theorem new_l (code:List Int) (hl:code.length≤1048576): ∃c:tL01Cur,sL01New_d (code,())=some ((c,()),())∧CurOk c:=by
 rw[sL01New_b]
 exact new_loop code hl code.length 0 _ (by omega)
theorem below_l {c:tL01Cur} (n:Int) (h:CurOk c): ∃ (v:Int) (c':tL01Cur),sL01Below_d (c,(n,()))=some ((v,()),(c',()))∧0≤v∧(0<n→v<n)∧CurOk c':=by
 rw[sL01Below_b,ile_d]
 by_cases h1:n≤0
 ·rw[decide_eq_true h1,cnd_t]
  exact ⟨0,c,rfl,Int.le_refl _,by omega,h⟩
 ·rw[decide_eq_false h1,cnd_f,ile_d,show nz n=true by rw[nz_d,decide_eq_false (by omega)];rfl]
  by_cases h2:n≤256
  ·obtain ⟨v,c',e,v0,v1,hc⟩:=byte_l h
   rw[decide_eq_true h2,cnd_t,e,bnd_s]
   simp only[]
   rw[cnd_t,irem_0 v0]
   exact ⟨_,_,rfl,Int.emod_nonneg _ (by omega),fun _=>Int.emod_lt_of_pos _ (by omega),hc⟩
  ·obtain ⟨a,c1,e1,a0,a1,k1⟩:=byte_l h
   obtain ⟨b,c2,e2,b0,b1,k2⟩:=byte_l k1
   obtain ⟨d,c3,e3,d0,d1,k3⟩:=byte_l k2
   obtain ⟨f,c4,e4,f0,f1,k4⟩:=byte_l k3
   rw[decide_eq_false h2,cnd_f,e1,bnd_s]
   simp only[]
   rw[e2,bnd_s]
   simp only[]
   rw[e3,bnd_s]
   simp only[]
   rw[e4,bnd_s]
   simp only[]
   rw[cnd_t,imul_64 (x:=a) (by omega) (by omega),imul_64 (x:=b) (by omega) (by omega),imul_64 (x:=d) (by omega) (by omega),iadd_64 (x:=a*16777216) (by omega) (by omega),iadd_64 (x:=a*16777216+b*65536) (by omega) (by omega),iadd_64 (by omega) (by omega),irem_0 (by omega)]
   exact ⟨_,_,rfl,Int.emod_nonneg _ (by omega),fun _=>Int.emod_lt_of_pos _ (by omega),k4⟩
theorem once_l {c:tL01Cur} (n:Int) (h:CurOk c): ∃ (v:Bool) (c':tL01Cur),sL01Once_d (c,(n,()))=some ((v,()),(c',()))∧CurOk c':=by
 obtain ⟨v,c',e,_,_,hc⟩:=below_l n h
 rw[sL01Once_b,e,bnd_s]
 exact ⟨_,_,rfl,hc⟩
theorem pick_l {c:tL01Cur} (l:List ByteArray) (hl:0<l.length) (h:CurOk c): ∃ (v:ByteArray) (c':tL01Cur),sL01Pick_d (c,(l,()))=some ((v,()),(c',()))∧v∈l∧CurOk c':=by
 obtain ⟨v,c',e,v0,v1,hc⟩:=below_l (len l) h
 have hv:=v1 (by rw[len_d];omega)
 rw[sL01Pick_b,e,bnd_s]
 simp only[]
 rw[inb_t v0 hv,cnd_t]
 obtain ⟨k,rfl⟩:=Int.eq_ofNat_of_zero_le v0
 have hk:k<l.length:=by rw[len_d] at hv;omega
 rw[rd_at hk]
 exact ⟨_,_,rfl,List.getElem_mem hk,hc⟩
theorem pickInt_l {c:tL01Cur} (l:List Int) (hl:0<l.length) (h:CurOk c): ∃ (v:Int) (c':tL01Cur),sL01PickInt_d (c,(l,()))=some ((v,()),(c',()))∧v∈l∧CurOk c':=by
 obtain ⟨v,c',e,v0,v1,hc⟩:=below_l (len l) h
 have hv:=v1 (by rw[len_d];omega)
 rw[sL01PickInt_b,e,bnd_s]
 simp only[]
 rw[inb_t v0 hv,cnd_t]
 obtain ⟨k,rfl⟩:=Int.eq_ofNat_of_zero_le v0
 have hk:k<l.length:=by rw[len_d] at hv;omega
 rw[rd_at hk]
 exact ⟨_,_,rfl,List.getElem_mem hk,hc⟩
theorem text_loop (n:Int) (hn:n≤5000): ∀ (m i:Nat) (l:List Int) (c:tL01Cur),i+m=n.toNat→l.length=i→CurOk c→ ∃ (t:ByteArray) (c':tL01Cur),sL01Text_D5 (n,(l,((i:Int),(c,()))))=some ((t,()),(c',()))∧t.size=n.toNat∧CurOk c':=by
 intro m
 induction m with
 |zero=>
  intro i l c hi hl h
  rw[sL01Text_q5,ilt_f (by omega),cnd_f]
  exact ⟨_,_,rfl,by rw[size_sof];omega,h⟩
 |succ m ih=>
  intro i l c hi hl h
  obtain ⟨v,c',e,v0,v1,hc⟩:=byte_l h
  rw[sL01Text_q5,ilt_t (by omega),cnd_t,e,bnd_s]
  simp only[]
  rw[app_fits (by decide) (by simp only[List.length_cons,List.length_nil];omega),cnd_t,next_at (by omega)]
  exact ih (i+1) _ c' (by omega) (by simp only[app,List.length_append,List.length_cons,List.length_nil];omega) hc
theorem text_l {c:tL01Cur} (n:Int) (hn:n≤5000) (h:CurOk c): ∃ (t:ByteArray) (c':tL01Cur),sL01Text_d (c,(n,()))=some ((t,()),(c',()))∧t.size=n.toNat∧CurOk c':=by
 rw[sL01Text_b,igt_f hn,cnd_f,sL01Text_q3]
 exact text_loop n hn n.toNat 0 [] c (by omega) rfl h
theorem places_loop: ∀ (m i:Nat) (l:List Int) (c:tL01Cur),i+m=12→l.length=i→(∀x∈l,0≤x∧x<10000)→CurOk c→ ∃q:List Int,sDrawPlaces_D5 (l,((i:Int),(c,())))=some ((q,()),())∧q.length=12∧ ∀x∈q,0≤x∧x<10000:=by
 intro m
 induction m with
 |zero=>
  intro i l c hi hl hx h
  rw[sDrawPlaces_q5,ilt_f (by omega),cnd_f]
  exact ⟨l,rfl,by omega,hx⟩
 |succ m ih=>
  intro i l c hi hl hx h
  obtain ⟨v,c',e,v0,v1,hc⟩:=below_l 10000 h
  rw[sDrawPlaces_q5,ilt_t (by omega),cnd_t,e,bnd_s]
  simp only[]
  rw[app_fits (by decide) (by simp only[List.length_cons,List.length_nil];omega),cnd_t,next_at (by omega)]
  refine ih (i+1) _ c' (by omega) (by simp only[app,List.length_append,List.length_cons,List.length_nil];omega) (fun x hx'=>?_) hc
  rcases List.mem_append.1 hx' with h1|h1
  ·exact hx x h1
  ·rw[List.mem_singleton.1 h1];exact ⟨v0,v1 (by omega)⟩
theorem places_l (code:List Int) (hl:code.length≤1048576): ∃q:List Int,sDrawPlaces_d (code,())=some ((q,()),())∧q.length=12∧ ∀x∈q,0≤x∧x<10000:=by
 obtain ⟨c,e,h⟩:=new_l code hl
 obtain ⟨v,c',e2,_,_,hc⟩:=byte_l h
 rw[sDrawPlaces_b,e,bnd_s]
 simp only[]
 rw[e2,bnd_s]
 exact places_loop 12 0 [] c' (by omega) rfl (fun x hx=>by cases hx) hc
theorem key_l {c:tL01Cur} (h:CurOk c): ∃ (k:ByteArray) (c':tL01Cur),sL19Key_d (c,())=some ((k,()),(c',()))∧k.size=4∧CurOk c':=by
 obtain ⟨k,c',e,hk,hc⟩:=pick_l [bs [97,97,97,97],bs [97,97,97,98],bs [97,97,98,98],bs [97,98,99,100],bs [98,98,98,98],bs [98,0,1,99],bs [122,122,122,122],bs [122,122,122,97],bs [99,99,99,99]] (by decide) h
 rw[sL19Key_b,e,bnd_s]
 refine ⟨_,_,rfl,?_,hc⟩
 simp only[List.mem_cons,List.not_mem_nil,or_false] at hk
 rcases hk with rfl|rfl|rfl|rfl|rfl|rfl|rfl|rfl|rfl<;>rfl
theorem ins8 (out:List tPair) (hl:out.length≤100) (i:Int) (c:tL01Cur) (p:tPair): ∀ (m k:Nat) (next:List tPair),k+m=out.length→next.length≤k→sL19Pairs_D8 (out,(i,(next,((k:Int),(c,(p,()))))))=sL19Pairs_D14 (out,(i,(next++(out.drop k).filter (fun q=>slt q.1 p.1)++[p],(0,(c,(p,())))))):=by
 intro m
 induction m with
 |zero=>
  intro k next hk hn
  rw[sL19Pairs_q8,show (k:Int)=(out.length:Int) by omega,ilt_end,cnd_f,app_fits (by decide) (by simp only[List.length_cons,List.length_nil];omega),cnd_t,List.drop_eq_nil_of_le (by omega),List.filter_nil,List.append_nil]
  rfl
 |succ m ih=>
  intro k next hk hn
  have h1:k<out.length:=by omega
  rw[sL19Pairs_q8,ilt_at h1,cnd_t,inb_at h1,cnd_t,rd_at h1,List.drop_eq_getElem_cons h1,List.filter_cons]
  cases hs:slt out[k].1 p.1 with
  |true=>
   rw[cnd_t,cnd_t,app_fits (by decide) (by simp only[List.length_cons,List.length_nil];omega),cnd_t,next_at (by omega),if_pos rfl]
   refine (ih (k+1) (next++[out[k]]) (by omega) (by simp only[List.length_append,List.length_cons,List.length_nil];omega)).trans ?_
   rw[List.append_assoc next]
   rfl
  |false=>
   rw[cnd_f,next_at (by omega),if_neg (by decide)]
   exact ih (k+1) next (by omega) (by omega)
theorem ins14 (out:List tPair) (hl:out.length≤100) (i:Int) (c:tL01Cur) (p:tPair): ∀ (m k:Nat) (next:List tPair),k+m=out.length→next.length≤200+k→sL19Pairs_D14 (out,(i,(next,((k:Int),(c,(p,()))))))=sL19Pairs_D3 (next++(out.drop k).filter (fun q=>sgt q.1 p.1),(iadd .i64 i 1,(c,()))):=by
 intro m
 induction m with
 |zero=>
  intro k next hk hn
  rw[sL19Pairs_q14,show (k:Int)=(out.length:Int) by omega,ilt_end,cnd_f,List.drop_eq_nil_of_le (by omega),List.filter_nil,List.append_nil]
 |succ m ih=>
  intro k next hk hn
  have h1:k<out.length:=by omega
  rw[sL19Pairs_q14,ilt_at h1,cnd_t,inb_at h1,cnd_t,rd_at h1,List.drop_eq_getElem_cons h1,List.filter_cons]
  cases hs:sgt out[k].1 p.1 with
  |true=>
   rw[cnd_t,cnd_t,app_fits (by decide) (by simp only[List.length_cons,List.length_nil];omega),cnd_t,next_at (by omega),if_pos rfl]
   refine (ih (k+1) (next++[out[k]]) (by omega) (by simp only[List.length_append,List.length_cons,List.length_nil];omega)).trans ?_
   rw[List.append_assoc next]
   rfl
  |false=>
   rw[cnd_f,next_at (by omega),if_neg (by decide)]
   exact ih (k+1) next (by omega) (by omega)
theorem pairs_loop: ∀ (m i:Nat) (out:List tPair) (c:tL01Cur),i+m=8→out.length≤i→(∀p∈out,sizesP p)→out.Pairwise ltP→CurOk c→
 ∃ (l:List tPair) (c':tL01Cur),sL19Pairs_D3 (out,((i:Int),(c,())))=some ((l,()),(c',()))∧l.length≤8∧(∀p∈l,sizesP p)∧l.Pairwise ltP∧CurOk c':=by
 intro m
 induction m with
 |zero=>
  intro i out c hi hl hs ho h
  obtain ⟨v,c',e,v0,v1,hc⟩:=below_l 8 h
  rw[sL19Pairs_q3,e,bnd_s]
  simp only[]
  rw[ilt_f (by have:=v1 (by omega);omega),cnd_f]
  exact ⟨out,c',rfl,by omega,hs,ho,hc⟩
 |succ m ih=>
  intro i out c hi hl hs ho h
  obtain ⟨v,c1,e1,v0,v1,h1⟩:=below_l 8 h
  rw[sL19Pairs_q3,e1,bnd_s]
  simp only[]
  by_cases hv:(i:Int)<v
  ·obtain ⟨k,c2,e2,hk,h2⟩:=key_l h1
   obtain ⟨n,c3,e3,hn,h3⟩:=pickInt_l [1,3,40,2,33] (by decide) h2
   have hn':1≤n∧n≤40:=by
    simp only[List.mem_cons,List.not_mem_nil,or_false] at hn
    omega
   obtain ⟨t,c4,e4,ht,h4⟩:=text_l n (by omega) h3
   rw[ilt_t hv,cnd_t,e2,bnd_s]
   simp only[]
   rw[e3,bnd_s]
   simp only[]
   rw[e4,bnd_s]
   simp only[]
   have hp:sizesP (k,(t,())):=⟨hk,by show 1≤t.size;omega,by show t.size≤60;omega⟩
   have a:=ins8 out (by omega) (i:Int) c4 (k,(t,())) out.length 0 [] (by omega) (by simp)
   have b:=ins14 out (by omega) (i:Int) c4 (k,(t,())) out.length 0 ([]++(out.drop 0).filter (fun q=>slt q.1 k)++[(k,(t,()))]) (by omega) (by
    have:=List.length_filter_le (fun q:tPair=>slt q.1 k) (out.drop 0)
    simp only[List.length_append,List.length_cons,List.length_nil,List.length_drop] at this⊢
    omega)
   rw[show ((0:Nat):Int)=0 from rfl] at a b
   refine Exists.imp (fun l=>Exists.imp fun c'=>?_) (ih (i+1) (insP out (k,(t,()))) c4 (by omega) (by have:=ins_len out (k,(t,())) ho;omega) (ins_sizes hs hp) (ins_sorted ho _) h4)
   rintro ⟨x1,x2⟩
   refine ⟨?_,x2⟩
   refine a.trans (b.trans ?_)
   rw[next_at (by omega),←x1]
   congr 1
   unfold insP
   simp
  ·rw[ilt_f (by omega),cnd_f]
   exact ⟨out,c1,rfl,by omega,hs,ho,h1⟩
theorem pairs_l {c:tL01Cur} (h:CurOk c): ∃ (l:List tPair) (c':tL01Cur),sL19Pairs_d (c,())=some ((l,()),(c',()))∧l.length≤8∧(∀p∈l,sizesP p)∧l.Pairwise ltP∧CurOk c':=by
 rw[sL19Pairs_b]
 exact pairs_loop 8 0 [] c (by omega) (by simp) (fun p hp=>by cases hp) List.Pairwise.nil h
theorem drawPairs_l (code:List Int) (hl:code.length≤1048576): ∃ (l:List tPair) (k:ByteArray),sDrawPairs_d (code,())=some ((l,(k,())),())∧l.length≤8∧(∀p∈l,sizesP p)∧l.Pairwise ltP∧k.size=4:=by
 obtain ⟨c,e,h⟩:=new_l code hl
 obtain ⟨k,c1,e1,hk,h1⟩:=key_l h
 obtain ⟨l,c2,e2,a1,a2,a3,_⟩:=pairs_l h1
 rw[sDrawPairs_b,e,bnd_s]
 simp only[]
 rw[e1,bnd_s]
 simp only[]
 rw[e2,bnd_s]
 exact ⟨l,k,rfl,a1,a2,a3,hk⟩
theorem big_l (code:List Int):wBig_d (code,())=some ((decide (1048576<code.length),()),()):=by
 rw[wBig_b,igt_d,len_d]
 simp only[show decide ((1048576:Int)<(code.length:Int))=decide (1048576<code.length) by simp only[decide_eq_decide];omega]
end Go.Proofs.YtoeiajpklkijgaaGreatDoor
