/- What the laws' helpers come to: texts of marks; lists of texts, of numbers, of points, of pairs, of accounts. Of no condition. -/
import Derived.Test.YtoeiajpklkijgaaGreatDoorAb
set_option linter.unusedVariables false
set_option linter.unusedSimpArgs false
set_option maxRecDepth 100000
namespace Go.Proofs.YtoeiajpklkijgaaGreatDoor
open Go.TV
theorem markText_loop: ∀ (n:Nat) (x:Int) (s:ByteArray),0≤x→x<10^n→x≤9223372036854775807→s.size+n≤1000000→ ∃r,wMarkText_D4 (x,(s,()))=some ((r,()),()):=by
 intro n
 induction n with
 |zero=>
  intro x s h0 h1 hb hs
  have:x=0:=by simp at h1;omega
  subst this
  rw[wMarkText_q4]
  simp only[igt_f (x:=0) (y:=0) (by omega),cnd_f]
  rw[cat_fits (by simp only[size_bs,List.length];omega),cnd_t]
  exact ⟨_,rfl⟩
 |succ n ih=>
  intro x s h0 h1 hb hs
  rw[wMarkText_q4]
  by_cases hx:0<x
  ·rw[igt_t hx,cnd_t,show nz 10=true from rfl,cnd_t,cat_fits (by simp only[size_sof,List.length];omega),cnd_t,cnd_t]
   rw[iquo_64 h0 hb (by omega)]
   have hd:=Int.ediv_le_self 10 h0
   refine ih _ _ (Int.ediv_nonneg h0 (by omega)) ?_ (by omega) ?_
   ·refine Int.ediv_lt_of_lt_mul (by omega) ?_
    rw[Int.pow_succ] at h1;exact h1
   ·simp only[size_scat,size_sof,List.length];omega
  ·rw[igt_f (by omega),cnd_f]
   rw[cat_fits (by simp only[size_bs,List.length];omega),cnd_t]
   exact ⟨_,rfl⟩
noncomputable def mtext (k:Int):ByteArray:=match wMarkText_d (k,()) with
 |some r=>r.1.1
 |none=>⟨#[]⟩
theorem markText (k:Int) (h0:0<k) (h1:k≤1152921504606846999):wMarkText_d (k,())=some ((mtext k,()),()):=by
 have: ∃r,wMarkText_d (k,())=some ((r,()),()):=by
  rw[wMarkText_b]
  rw[show ile k 0=false from decide_eq_false (by omega),cnd_f]
  exact markText_loop 20 k _ (by omega) (by omega) (by omega) (by simp only[size_bs,List.length];omega)
 obtain ⟨r,hr⟩:=this
 unfold mtext
 rw[hr]
theorem wEqStringS_ok:EqOk (.sl .str) wEqStringS_d:=(eq_slice (t:= .str) (z:=bs []) (fe:=fun x=>cnd (sne x.1 x.2.1) (some ((false,()),())) (some ((true,()),()))) (fun s _=>by simp only[sne_self,cnd_f]) (fun x=>by
 refine (wEqStringS_q4 x.1 x.2.1 x.2.2.1).trans ?_
 cases h:sne (rd (bs []) x.1 x.2.2.1) (rd (bs []) x.2.1 x.2.2.1)
 ·simp only[h,cnd_f,bnd_s,bnot,Bool.not_true]
 ·simp only[h,cnd_t,bnd_s,bnot,Bool.not_false])).congr fun x y=>wEqStringS_b x y
abbrev mkBStringS:Nat:=16777216*1
noncomputable def mkStringS:List ByteArray→Int→List ByteArray×Int:=mkL fun _ k=>(mtext k,k+1)
theorem wMarkStringS_ok:MkOk (.sl .str) wMarkStringS_d wHeldStringS_d mkBStringS mkStringS:=
 MkOk.slice (t:= .str) _ (fun x k=>wMarkStringS_b x k) (fun x k=>wHeldStringS_b x k)
  (fun xs k i h hi h0 hk hf=>by
   refine (wMarkStringS_q2 xs k i).trans ?_
   rw[ilt_at h,cnd_t,markText k h0 (by omega),bnd_s,inb_at h,cnd_t,iadd_64 (by omega) (by omega),next_at (by omega)])
  (fun xs k=>by refine (wMarkStringS_q2 xs k _).trans ?_;rw[ilt_end,cnd_f])
  (fun xs k i h y hi h0 hk hf he=>by
   refine (wHeldStringS_q2 xs k i).trans ?_
   rw[ilt_at h,cnd_t,markText k h0 (by omega),bnd_s,inb_at h,cnd_t,iadd_64 (by omega) (by omega),next_at (by omega),rd_at h,he,sne_self,cnd_f])
  (fun xs k=>by refine (wHeldStringS_q2 xs k _).trans ?_;rw[ilt_end,cnd_f])
  (fun y k hf h0 hk=>by constructor<;>simp<;>omega)
theorem wMarkStringS_mk:Mk1 (.sl .str) wMarkStringS_d mkBStringS mkStringS:=wMarkStringS_ok.one
theorem Mk1.slice {t:Ty} {B:Nat} {Dm:List t.den× (Int× (Int×Unit))→Option ((Int×Unit)× (List t.den×Unit))}
 {fm:List t.den× (Int×Unit)→Option ((Int×Unit)× (List t.den×Unit))} (e:t.den→Int→t.den×Int)
 (hfm: ∀x k,fm (x,(k,()))=Dm (x,(k,(0,()))))
 (sm: ∀ (xs:List t.den) (k:Int) (i:Nat) (h:i<xs.length),i<16777216→0<k→k+(B:Int)≤1152921504606846976→Fine t xs[i]→Dm (xs,(k,((i:Int),())))=Dm (upd xs (i:Int) (e xs[i] k).1,((e xs[i] k).2,(((i+1:Nat):Int),()))))
 (em: ∀ (xs:List t.den) (k:Int),Dm (xs,(k,((xs.length:Int),())))=some ((k,()),(xs,())))
 (le: ∀y k,Fine t y→0<k→k+(B:Int)≤1152921504606846976→k≤(e y k).2∧(e y k).2≤k+B):
 Mk1 (.sl t) fm (16777216*B) (mkL e):=by
 have bound: ∀ (suf:List t.den) (k:Int),(∀y∈suf,Fine t y)→0<k→k+(suf.length*B:Nat)≤1152921504606846976→k≤(mkL e suf k).2∧(mkL e suf k).2≤k+(suf.length*B:Nat):=by
  intro suf
  induction suf with
  |nil=>intro k _ _ _;simp [mkL]
  |cons y ys ih=>
   intro k hf h0 hk
   simp only[List.length_cons,Nat.add_mul,Nat.one_mul] at hk
   obtain ⟨l1,l2⟩:=le y k (hf y (by simp)) h0 (by omega)
   obtain ⟨q1,q2⟩:=ih (e y k).2 (fun z hz=>hf z (by simp [hz])) (by omega) (by omega)
   simp only[mkL,List.length_cons,Nat.add_mul,Nat.one_mul]
   omega
 have runM: ∀ (suf pre:List t.den) (k:Int),pre.length+suf.length≤16777216→(∀y∈suf,Fine t y)→0<k→k+(suf.length*B:Nat)≤1152921504606846976→Dm (pre++suf,(k,((pre.length:Int),())))=some (((mkL e suf k).2,()),(pre++(mkL e suf k).1,())):=by
  intro suf
  induction suf with
  |nil=>intro pre k _ _ _ _;simp only[List.append_nil,mkL];exact em pre k
  |cons y ys ih=>
   intro pre k hl hf h0 hk
   simp only[List.length_cons,Nat.add_mul,Nat.one_mul] at hk hl
   obtain ⟨l1,l2⟩:=le y k (hf y (by simp)) h0 (by omega)
   have hi:pre.length<(pre++y::ys).length:=by simp
   have hy:(pre++y::ys)[pre.length]=y:=by simp
   rw[sm (pre++y::ys) k pre.length hi (by omega) h0 (by omega) (by rw[hy];exact hf y (by simp)),hy,upd_at]
   have hs:(pre++y::ys).set pre.length (e y k).1=(pre++[(e y k).1])++ys:=by simp
   rw[hs]
   have:=ih (pre++[(e y k).1]) (e y k).2 (by simp;omega) (fun z hz=>hf z (by simp [hz])) (by omega) (by omega)
   simp only[List.length_append,List.length_singleton] at this
   rw[this]
   simp [mkL]
 have hB: ∀ (x:List t.den),x.length≤16777216→(x.length*B:Nat)≤16777216*B:=fun x h=>Nat.mul_le_mul_right _ h
 intro x k hf h0 hk
 have:=hB x hf.1
 have h1:=runM x [] k (by simpa using hf.1) hf.2 h0 (by omega)
 have h3:=bound x k hf.2 h0 (by omega)
 rw[hfm]
 exact ⟨by simpa using h1,h3.1,by omega⟩
abbrev mkBPairS:Nat:=16777216*2
noncomputable def mkPairS:List tPair→Int→List tPair×Int:=mkL fun y k=>((mtext k,(mtext (k+1),())),k+1+1)
theorem wMarkPairS_mk:Mk1 (.sl TPair) wMarkPairS_d mkBPairS mkPairS:=
 Mk1.slice (t:=TPair) _ (fun x k=>wMarkPairS_b x k)
  (fun xs k i h hi h0 hk hf=>by
   refine (wMarkPairS_q2 xs k i).trans ?_
   rw[iadd_64 (x:=k) (y:=1) (by omega) (by omega),iadd_64 (x:=k+1) (y:=1) (by omega) (by omega),markText k h0 (by omega),bnd_s,markText (k+1) (by omega) (by omega),bnd_s]
   simp only[ilt_at h,inb_at h,cnd_t,len_upd,rd_upd h,upd_upd,next_at (i:=i) (by omega)])
  (fun xs k=>by refine (wMarkPairS_q2 xs k _).trans ?_;rw[ilt_end,cnd_f])
  (fun y k hf h0 hk=>by constructor<;>simp<;>omega)
abbrev mkBAccountS:Nat:=16777216*(3+16777216*2)
noncomputable def mkAccountS:List tAccount→Int→List tAccount×Int:=mkL fun y k=>((mtext k,(k+1,(k+1+1,((mkPairS y.2.2.2.1 (k+1+1+1)).1,())))),(mkPairS y.2.2.2.1 (k+1+1+1)).2)
theorem wMarkAccountS_mk:Mk1 (.sl TAccount) wMarkAccountS_d mkBAccountS mkAccountS:=
 Mk1.slice (t:=TAccount) _ (fun x k=>wMarkAccountS_b x k)
  (fun xs k i h hi h0 hk hf=>by
   obtain ⟨a,l,u⟩:=wMarkPairS_mk xs[i].2.2.2.1 (k+1+1+1) hf.2.2.2.1 (by omega) (by simp only[mkBPairS];omega)
   refine (wMarkAccountS_q2 xs k i).trans ?_
   rw[iadd_64 (x:=k) (y:=1) (by omega) (by omega),iadd_64 (x:=k+1) (y:=1) (by omega) (by omega),iadd_64 (x:=k+1+1) (y:=1) (by omega) (by omega),markText k h0 (by omega),bnd_s]
   simp only[ilt_at h,inb_at h,cnd_t,len_upd,rd_upd h,upd_upd,rd_at h,next_at (i:=i) (by omega)]
   rw[a,bnd_s])
  (fun xs k=>by refine (wMarkAccountS_q2 xs k _).trans ?_;rw[ilt_end,cnd_f])
  (fun y k hf h0 hk=>by
   obtain ⟨a,l,u⟩:=wMarkPairS_mk y.2.2.2.1 (k+1+1+1) hf.2.2.2.1 (by omega) (by simp only[mkBPairS];omega)
   simp only[mkBPairS] at u
   constructor
   ·show k≤(mkPairS y.2.2.2.1 (k+1+1+1)).2;omega
   ·show (mkPairS y.2.2.2.1 (k+1+1+1)).2≤_;omega)
end Go.Proofs.YtoeiajpklkijgaaGreatDoor
