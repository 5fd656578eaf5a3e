/- What is drawn from bytes: numbers, picks, texts, keys, pairs. Of no condition. -/
import Derived.Test.YtdfbhjpmdjmdaaaGreatDoorTN
set_option linter.unusedVariables false
set_option linter.unusedSimpArgs false
set_option maxRecDepth 100000
namespace Go.Proofs.YtdfbhjpmdjmdaaaGreatDoor
open Go.TV
def czm (c:azi):Prop:=0≤c.2.1∧c.2.1≤len c.1∧len c.1≤1048576
theorem Bz4 (x:Int):0≤iand .i64 x 255∧iand .i64 x 255≤255:=by
 have h:(BitVec.ofInt 64 x&&&BitVec.ofInt 64 255).toNat≤255:=by
  rw[BitVec.toNat_and];exact Nat.le_trans Nat.and_le_right (by decide)
 have e:iand .i64 x 255=IntKind.i64.wrap ((BitVec.ofInt 64 x&&&BitVec.ofInt 64 255).toNat:Int):=rfl
 generalize (BitVec.ofInt 64 x&&&BitVec.ofInt 64 255).toNat=n at h e
 have e2:IntKind.i64.wrap (n:Int)=(n:Int):=ezF (by omega) (by omega)
 omega
theorem zzh {c:azi} (h:czm c): ∃ (v:Int) (c':azi),dz5 (c,())=some ((v,()),(c',()))∧0≤v∧v≤255∧czm c':=by
 obtain ⟨h0,h1,h2⟩:=h
 rw[JzC,show nn 33=true from rfl,aza,show nn 45=true from rfl,aza]
 by_cases hi:c.2.1<len c.1
 ·rw[bzW hi,aza,bzI h0 hi,aza]
  refine ⟨_,_,rfl,(Bz4 _).1,(Bz4 _).2,?_,?_,h2⟩
  ·show 0≤iadd .i64 c.2.1 1
   rw[azH (by omega) (by omega)];omega
  ·show iadd .i64 c.2.1 1≤len c.1
   rw[azH (by omega) (by omega)];omega
 ·rw[az7 (by omega),azc]
  exact ⟨_,_,rfl,(Bz4 _).1,(Bz4 _).2,h0,h1,h2⟩
theorem OzM (code:List Int) (hl:code.length≤1048576): ∀ (m i:Nat) (h:Int),i+m=code.length→ ∃c:azi,pz1 (code,(h,((i:Int),())))=some ((c,()),())∧czm c:=by
 intro m
 induction m with
 |zero=>
  intro i h hi
  rw[zzc,show (i:Int)=(code.length:Int) by omega,bzb,azc]
  exact ⟨_,rfl,Int.le_refl _,len_0,by show len code≤_;rw[azA];omega⟩
 |succ m ih=>
  intro i h hi
  have h1:i<code.length:=by omega
  rw[zzc,bzp h1,aza]
  by_cases h4:(i:Int)<4000
  ·rw[bzW h4,aza,az0 h1,aza,azq (by omega)]
   exact ih (i+1) _ (by omega)
  ·rw[az7 (by omega),azc]
   exact ⟨_,rfl,Int.le_refl _,len_0,by show len code≤_;rw[azA];omega⟩
theorem Iz5 (code:List Int) (hl:code.length≤1048576): ∃c:azi,ezQ (code,())=some ((c,()),())∧czm c:=by
 rw[Kza]
 exact OzM code hl code.length 0 _ (by omega)
theorem czE {c:azi} (n:Int) (h:czm c): ∃ (v:Int) (c':azi),azy (c,(n,()))=some ((v,()),(c',()))∧0≤v∧(0<n→v<n)∧czm c':=by
 rw[Ez9,gzB]
 by_cases h1:n≤0
 ·rw[decide_eq_true h1,aza]
  exact ⟨0,c,rfl,Int.le_refl _,by omega,h⟩
 ·rw[decide_eq_false h1,azc,gzB,show nz n=true by rw[nz_d,decide_eq_false (by omega)];rfl]
  by_cases h2:n≤256
  ·obtain ⟨v,c',e,v0,v1,hc⟩:=zzh h
   rw[decide_eq_true h2,aza,e,azd]
   simp only[]
   rw[aza,fzW v0]
   exact ⟨_,_,rfl,Int.emod_nonneg _ (by omega),fun _=>Int.emod_lt_of_pos _ (by omega),hc⟩
  ·obtain ⟨a,c1,e1,a0,a1,k1⟩:=zzh h
   obtain ⟨b,c2,e2,b0,b1,k2⟩:=zzh k1
   obtain ⟨d,c3,e3,d0,d1,k3⟩:=zzh k2
   obtain ⟨f,c4,e4,f0,f1,k4⟩:=zzh k3
   rw[decide_eq_false h2,azc,e1,azd]
   simp only[]
   rw[e2,azd]
   simp only[]
   rw[e3,azd]
   simp only[]
   rw[e4,azd]
   simp only[]
   rw[aza,fz9 (x:=a) (by omega) (by omega),fz9 (x:=b) (by omega) (by omega),fz9 (x:=d) (by omega) (by omega),azH (x:=a*16777216) (by omega) (by omega),azH (x:=a*16777216+b*65536) (by omega) (by omega),azH (by omega) (by omega),fzW (by omega)]
   exact ⟨_,_,rfl,Int.emod_nonneg _ (by omega),fun _=>Int.emod_lt_of_pos _ (by omega),k4⟩
theorem once_l {c:azi} (n:Int) (h:czm c): ∃ (v:Bool) (c':azi),pz5 (c,(n,()))=some ((v,()),(c',()))∧czm c':=by
 obtain ⟨v,c',e,_,_,hc⟩:=czE n h
 rw[Izl,e,azd]
 exact ⟨_,_,rfl,hc⟩
theorem Ezq {c:azi} (l:List ByteArray) (hl:0<l.length) (h:czm c): ∃ (v:ByteArray) (c':azi),fza (c,(l,()))=some ((v,()),(c',()))∧v∈l∧czm c':=by
 obtain ⟨v,c',e,v0,v1,hc⟩:=czE (len l) h
 have hv:=v1 (by rw[azA];omega)
 rw[Iz6,e,azd]
 simp only[]
 rw[bzI v0 hv,aza]
 obtain ⟨k,rfl⟩:=Int.eq_ofNat_of_zero_le v0
 have hk:k<l.length:=by rw[azA] at hv;omega
 rw[bzA hk]
 exact ⟨_,_,rfl,List.getElem_mem hk,hc⟩
theorem szk {c:azi} (l:List Int) (hl:0<l.length) (h:czm c): ∃ (v:Int) (c':azi),azB (c,(l,()))=some ((v,()),(c',()))∧v∈l∧czm c':=by
 obtain ⟨v,c',e,v0,v1,hc⟩:=czE (len l) h
 have hv:=v1 (by rw[azA];omega)
 rw[Az5,e,azd]
 simp only[]
 rw[bzI v0 hv,aza]
 obtain ⟨k,rfl⟩:=Int.eq_ofNat_of_zero_le v0
 have hk:k<l.length:=by rw[azA] at hv;omega
 rw[bzA hk]
 exact ⟨_,_,rfl,List.getElem_mem hk,hc⟩
theorem Mzb (n:Int) (hn:n≤5000): ∀ (m i:Nat) (l:List Int) (c:azi),i+m=n.toNat→l.length=i→czm c→ ∃ (t:ByteArray) (c':azi),mzz (n,(l,((i:Int),(c,()))))=some ((t,()),(c',()))∧t.size=n.toNat∧czm c':=by
 intro m
 induction m with
 |zero=>
  intro i l c hi hl h
  rw[yza,az7 (by omega),azc]
  exact ⟨_,_,rfl,by rw[azK];omega,h⟩
 |succ m ih=>
  intro i l c hi hl h
  obtain ⟨v,c',e,v0,v1,hc⟩:=zzh h
  rw[yza,bzW (by omega),aza,e,azd]
  simp only[]
  rw[azv (by decide) (by simp only[List.length_cons,List.length_nil];omega),aza,azq (by omega)]
  exact ih (i+1) _ c' (by omega) (by simp only[app,List.length_append,List.length_cons,List.length_nil];omega) hc
theorem PzC {c:azi} (n:Int) (hn:n≤5000) (h:czm c): ∃ (t:ByteArray) (c':azi),lzN (c,(n,()))=some ((t,()),(c',()))∧t.size=n.toNat∧czm c':=by
 rw[Jzy,bzy hn,azc,Gzj]
 exact Mzb n hn n.toNat 0 [] c (by omega) rfl h
theorem LzL {c:azi} (h:czm c): ∃ (k:ByteArray) (c':azi),hzP (c,())=some ((k,()),(c',()))∧k.size=4∧czm c':=by
 obtain ⟨k,c',e,hk,hc⟩:=Ezq [bs [97,97,97,97],bs [97,97,97,98],bs [97,97,98,98],bs [97,98,99,100],bs [98,98,98,98],bs [98,0,1,99],bs [122,122,122,122],bs [122,122,122,97],bs [99,99,99,99]] (by decide) h
 rw[Lzo,e,azd]
 refine ⟨_,_,rfl,?_,hc⟩
 simp only[List.mem_cons,List.not_mem_nil,or_false] at hk
 rcases hk with rfl|rfl|rfl|rfl|rfl|rfl|rfl|rfl|rfl<;>rfl
theorem ins8 (out:List azh) (hl:out.length≤100) (i:Int) (c:azi) (p:azh): ∀ (m k:Nat) (next:List azh),k+m=out.length→next.length≤k→hzK (out,(i,(next,((k:Int),(c,(p,()))))))=ezm (out,(i,(next++(out.drop k).filter (fun q=>slt q.1 p.1)++[p],(0,(c,(p,())))))):=by
 intro m
 induction m with
 |zero=>
  intro k next hk hn
  rw[vzt,show (k:Int)=(out.length:Int) by omega,bzb,azc,azv (by decide) (by simp only[List.length_cons,List.length_nil];omega),aza,List.drop_eq_nil_of_le (by omega),List.filter_nil,List.append_nil]
  rfl
 |succ m ih=>
  intro k next hk hn
  have h1:k<out.length:=by omega
  rw[vzt,bzp h1,aza,az0 h1,aza,bzA h1,List.drop_eq_getElem_cons h1,List.filter_cons]
  cases hs:slt out[k].1 p.1 with
  |true=>
   rw[aza,aza,azv (by decide) (by simp only[List.length_cons,List.length_nil];omega),aza,azq (by omega),if_pos rfl]
   refine (ih (k+1) (next++[out[k]]) (by omega) (by simp only[List.length_append,List.length_cons,List.length_nil];omega)).trans ?_
   rw[List.append_assoc next]
   rfl
  |false=>
   rw[azc,azq (by omega),if_neg (by decide)]
   exact ih (k+1) next (by omega) (by omega)
theorem ins14 (out:List azh) (hl:out.length≤100) (i:Int) (c:azi) (p:azh): ∀ (m k:Nat) (next:List azh),k+m=out.length→next.length≤200+k→ezm (out,(i,(next,((k:Int),(c,(p,()))))))=izc (next++(out.drop k).filter (fun q=>sgt q.1 p.1),(iadd .i64 i 1,(c,()))):=by
 intro m
 induction m with
 |zero=>
  intro k next hk hn
  rw[szG,show (k:Int)=(out.length:Int) by omega,bzb,azc,List.drop_eq_nil_of_le (by omega),List.filter_nil,List.append_nil]
 |succ m ih=>
  intro k next hk hn
  have h1:k<out.length:=by omega
  rw[szG,bzp h1,aza,az0 h1,aza,bzA h1,List.drop_eq_getElem_cons h1,List.filter_cons]
  cases hs:sgt out[k].1 p.1 with
  |true=>
   rw[aza,aza,azv (by decide) (by simp only[List.length_cons,List.length_nil];omega),aza,azq (by omega),if_pos rfl]
   refine (ih (k+1) (next++[out[k]]) (by omega) (by simp only[List.length_append,List.length_cons,List.length_nil];omega)).trans ?_
   rw[List.append_assoc next]
   rfl
  |false=>
   rw[azc,azq (by omega),if_neg (by decide)]
   exact ih (k+1) next (by omega) (by omega)
theorem JzI: ∀ (m i:Nat) (out:List azh) (c:azi),i+m=8→out.length≤i→(∀p∈out,nzQ p)→out.Pairwise ltP→czm c→
 ∃ (l:List azh) (c':azi),izc (out,((i:Int),(c,())))=some ((l,()),(c',()))∧l.length≤8∧(∀p∈l,nzQ p)∧l.Pairwise ltP∧czm c':=by
 intro m
 induction m with
 |zero=>
  intro i out c hi hl hs ho h
  obtain ⟨v,c',e,v0,v1,hc⟩:=czE 8 h
  rw[vzn,e,azd]
  simp only[]
  rw[az7 (by have:=v1 (by omega);omega),azc]
  exact ⟨out,c',rfl,by omega,hs,ho,hc⟩
 |succ m ih=>
  intro i out c hi hl hs ho h
  obtain ⟨v,c1,e1,v0,v1,h1⟩:=czE 8 h
  rw[vzn,e1,azd]
  simp only[]
  by_cases hv:(i:Int)<v
  ·obtain ⟨k,c2,e2,hk,h2⟩:=LzL h1
   obtain ⟨n,c3,e3,hn,h3⟩:=szk [1,3,40,2,33] (by decide) h2
   have hn':1≤n∧n≤40:=by
    simp only[List.mem_cons,List.not_mem_nil,or_false] at hn
    omega
   obtain ⟨t,c4,e4,ht,h4⟩:=PzC n (by omega) h3
   rw[bzW hv,aza,e2,azd]
   simp only[]
   rw[e3,azd]
   simp only[]
   rw[e4,azd]
   simp only[]
   have hp:nzQ (k,(t,())):=⟨hk,by show 1≤t.size;omega,by show t.size≤60;omega⟩
   have a:=ins8 out (by omega) (i:Int) c4 (k,(t,())) out.length 0 [] (by omega) (by simp)
   have b:=ins14 out (by omega) (i:Int) c4 (k,(t,())) out.length 0 ([]++(out.drop 0).filter (fun q=>slt q.1 k)++[(k,(t,()))]) (by omega) (by
    have:=List.length_filter_le (fun q:azh=>slt q.1 k) (out.drop 0)
    simp only[List.length_append,List.length_cons,List.length_nil,List.length_drop] at this⊢
    omega)
   rw[show ((0:Nat):Int)=0 from rfl] at a b
   refine Exists.imp (fun l=>Exists.imp fun c'=>?_) (ih (i+1) (insP out (k,(t,()))) c4 (by omega) (by have:=Qzh out (k,(t,())) ho;omega) (LzI hs hp) (Jzl ho _) h4)
   rintro ⟨x1,x2⟩
   refine ⟨?_,x2⟩
   refine a.trans (b.trans ?_)
   rw[azq (by omega),←x1]
   congr 1
   unfold insP
   simp
  ·rw[az7 (by omega),azc]
   exact ⟨out,c1,rfl,by omega,hs,ho,h1⟩
theorem Mzd {c:azi} (h:czm c): ∃ (l:List azh) (c':azi),azz (c,())=some ((l,()),(c',()))∧l.length≤8∧(∀p∈l,nzQ p)∧l.Pairwise ltP∧czm c':=by
 rw[Fzh]
 exact JzI 8 0 [] c (by omega) (by simp) (fun p hp=>by cases hp) List.Pairwise.nil h
theorem FzS (code:List Int) (hl:code.length≤1048576): ∃ (l:List azh) (k:ByteArray),kzp (code,())=some ((l,(k,())),())∧l.length≤8∧(∀p∈l,nzQ p)∧l.Pairwise ltP∧k.size=4:=by
 obtain ⟨c,e,h⟩:=Iz5 code hl
 obtain ⟨k,c1,e1,hk,h1⟩:=LzL h
 obtain ⟨l,c2,e2,a1,a2,a3,_⟩:=Mzd h1
 rw[Ezc,e,azd]
 simp only[]
 rw[e1,azd]
 simp only[]
 rw[e2,azd]
 exact ⟨l,k,rfl,a1,a2,a3,hk⟩
theorem big_l (code:List Int):CzW (code,())=some ((decide (1048576<code.length),()),()):=by
 rw[wBig_b,igt_d,azA]
 simp only[show decide ((1048576:Int)<(code.length:Int))=decide (1048576<code.length) by simp only[decide_eq_decide];omega]
end Go.Proofs.YtdfbhjpmdjmdaaaGreatDoor
