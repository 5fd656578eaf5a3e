/- What the laws' helpers come to: texts of marks; lists of texts, of numbers, of points, of pairs, of accounts. Of no condition. -/
import Derived.Test.YtpnodjpefkcflaaGreatDoorAb
set_option linter.unusedVariables false
set_option linter.unusedSimpArgs false
set_option maxRecDepth 100000
namespace Go.Proofs.YtpnodjpefkcflaaGreatDoor
open Go.TV
theorem markText_loop: ∀ (n:Nat) (x:Int) (s:ByteArray),0≤x→x<10^n→x≤9223372036854775807→s.size+n≤1000000→ ∃r,wMarkText_D4 (x,(s,()))=some ((r,()),()):=by
 intro n
 induction n with
 |zero=>
  intro x s h0 h1 hb hs
  have:x=0:=by simp at h1;omega
  subst this
  rw[wMarkText_q4]
  simp only[igt_f (x:=0) (y:=0) (by omega),cnd_f]
  rw[cat_fits (by simp only[size_bs,List.length];omega),cnd_t]
  exact ⟨_,rfl⟩
 |succ n ih=>
  intro x s h0 h1 hb hs
  rw[wMarkText_q4]
  by_cases hx:0<x
  ·rw[igt_t hx,cnd_t,show nz 10=true from rfl,cnd_t,cat_fits (by simp only[size_sof,List.length];omega),cnd_t,cnd_t]
   rw[iquo_64 h0 hb (by omega)]
   have hd:=Int.ediv_le_self 10 h0
   refine ih _ _ (Int.ediv_nonneg h0 (by omega)) ?_ (by omega) ?_
   ·refine Int.ediv_lt_of_lt_mul (by omega) ?_
    rw[Int.pow_succ] at h1;exact h1
   ·simp only[size_scat,size_sof,List.length];omega
  ·rw[igt_f (by omega),cnd_f]
   rw[cat_fits (by simp only[size_bs,List.length];omega),cnd_t]
   exact ⟨_,rfl⟩
noncomputable def mtext (k:Int):ByteArray:=match wMarkText_d (k,()) with
 |some r=>r.1.1
 |none=>⟨#[]⟩
theorem markText (k:Int) (h0:0<k) (h1:k≤1152921504606846999):wMarkText_d (k,())=some ((mtext k,()),()):=by
 have: ∃r,wMarkText_d (k,())=some ((r,()),()):=by
  rw[wMarkText_b]
  rw[show ile k 0=false from decide_eq_false (by omega),cnd_f]
  exact markText_loop 20 k _ (by omega) (by omega) (by omega) (by simp only[size_bs,List.length];omega)
 obtain ⟨r,hr⟩:=this
 unfold mtext
 rw[hr]
theorem wSzStringS_ok:SzOk (.sl .str) wSzStringS_d:=(sz_slice (t:= .str) (z:=bs []) (fe:=fun x=>cnd (ilt (isub .i64 x.2.1 (ssz x.1)) 0) (some ((-1,()),())) (some (((isub .i64 x.2.1 (ssz x.1)),()),()))) (fun s n hg h0 hn=>sz_str hg h0 hn fun m hm h0 _ _ hs=>hm▸sz_end (hm.symm▸h0) hs) (fun x=>by
 refine (wSzStringS_q5 x.1 x.2.1 x.2.2.1).trans ?_
 by_cases h:isub .i64 x.2.1 (ssz (rd (bs []) x.1 x.2.2.1))<0
 ·simp only[ilt,h,decide_true,cnd_t,bnd_s,show decide ((-1:Int)<0)=true from rfl]
 ·simp only[ilt,h,decide_false,cnd_f,bnd_s])).congr fun x n=>wSzStringS_b x n
theorem wEqStringS_ok:EqOk (.sl .str) wEqStringS_d:=(eq_slice (t:= .str) (z:=bs []) (fe:=fun x=>cnd (sne x.1 x.2.1) (some ((false,()),())) (some ((true,()),()))) (fun s _=>by simp only[sne_self,cnd_f]) (fun x=>by
 refine (wEqStringS_q4 x.1 x.2.1 x.2.2.1).trans ?_
 cases h:sne (rd (bs []) x.1 x.2.2.1) (rd (bs []) x.2.1 x.2.2.1)
 ·simp only[h,cnd_f,bnd_s,bnot,Bool.not_true]
 ·simp only[h,cnd_t,bnd_s,bnot,Bool.not_false])).congr fun x y=>wEqStringS_b x y
theorem wSzIntS_ok:SzOk (.sl (.int .i64)) wSzIntS_d:=(sz_len (t:= .int .i64) (fun x=>trivial)).congr fun x n=>wSzIntS_b x n
theorem wEqIntS_ok:EqOk (.sl (.int .i64)) wEqIntS_d:=(eq_slice (t:= .int .i64) (z:=(0:Int)) (fe:=fun x=>cnd (ine x.1 x.2.1) (some ((false,()),())) (some ((true,()),()))) (fun s _=>by simp only[ine_self,cnd_f]) (fun x=>by
 refine (wEqIntS_q4 x.1 x.2.1 x.2.2.1).trans ?_
 cases h:ine (rd (0:Int) x.1 x.2.2.1) (rd (0:Int) x.2.1 x.2.2.1)
 ·simp only[h,cnd_f,bnd_s,bnot,Bool.not_true]
 ·simp only[h,cnd_t,bnd_s,bnot,Bool.not_false])).congr fun x y=>wEqIntS_b x y
abbrev mkBStringS:Nat:=16777216*1
noncomputable def mkStringS:List ByteArray→Int→List ByteArray×Int:=mkL fun _ k=>(mtext k,k+1)
theorem wMarkStringS_ok:MkOk (.sl .str) wMarkStringS_d wHeldStringS_d mkBStringS mkStringS:=
 MkOk.slice (t:= .str) _ (fun x k=>wMarkStringS_b x k) (fun x k=>wHeldStringS_b x k)
  (fun xs k i h hi h0 hk hf=>by
   refine (wMarkStringS_q2 xs k i).trans ?_
   rw[ilt_at h,cnd_t,markText k h0 (by omega),bnd_s,inb_at h,cnd_t,iadd_64 (by omega) (by omega),next_at (by omega)])
  (fun xs k=>by refine (wMarkStringS_q2 xs k _).trans ?_;rw[ilt_end,cnd_f])
  (fun xs k i h y hi h0 hk hf he=>by
   refine (wHeldStringS_q2 xs k i).trans ?_
   rw[ilt_at h,cnd_t,markText k h0 (by omega),bnd_s,inb_at h,cnd_t,iadd_64 (by omega) (by omega),next_at (by omega),rd_at h,he,sne_self,cnd_f])
  (fun xs k=>by refine (wHeldStringS_q2 xs k _).trans ?_;rw[ilt_end,cnd_f])
  (fun y k hf h0 hk=>by constructor<;>simp<;>omega)
theorem wMarkStringS_mk:Mk1 (.sl .str) wMarkStringS_d mkBStringS mkStringS:=wMarkStringS_ok.one
abbrev mkBIntS:Nat:=16777216*1
def mkIntS:List Int→Int→List Int×Int:=mkL fun _ k=>(k,k+1)
theorem wMarkIntS_ok:MkOk (.sl (.int .i64)) wMarkIntS_d wHeldIntS_d mkBIntS mkIntS:=
 MkOk.slice (t:= .int .i64) _ (fun x k=>wMarkIntS_b x k) (fun x k=>wHeldIntS_b x k)
  (fun xs k i h hi h0 hk hf=>by
   refine (wMarkIntS_q2 xs k i).trans ?_
   rw[ilt_at h,cnd_t,inb_at h,cnd_t,iadd_64 (by omega) (by omega),next_at (by omega)])
  (fun xs k=>by refine (wMarkIntS_q2 xs k _).trans ?_;rw[ilt_end,cnd_f])
  (fun xs k i h y hi h0 hk hf he=>by
   refine (wHeldIntS_q2 xs k i).trans ?_
   rw[ilt_at h,cnd_t,inb_at h,cnd_t,iadd_64 (by omega) (by omega),next_at (by omega),rd_at h,he,ine_self,cnd_f])
  (fun xs k=>by refine (wHeldIntS_q2 xs k _).trans ?_;rw[ilt_end,cnd_f])
  (fun y k hf h0 hk=>by constructor<;>simp<;>omega)
theorem wMarkIntS_mk:Mk1 (.sl (.int .i64)) wMarkIntS_d mkBIntS mkIntS:=wMarkIntS_ok.one
abbrev mkBPointS:Nat:=16777216*3
def mkPointS:List tPoint→Int→List tPoint×Int:=mkL fun y k=>((k,(k+1,(ieq (irem (k+1+1) 3) 0,()))),k+1+1+1)
theorem wMarkPointS_ok:MkOk (.sl TPoint) wMarkPointS_d wHeldPointS_d mkBPointS mkPointS:=
 MkOk.slice (t:=TPoint) _ (fun x k=>wMarkPointS_b x k) (fun x k=>wHeldPointS_b x k)
  (fun xs k i h hi h0 hk hf=>by
   refine (wMarkPointS_q2 xs k i).trans ?_
   simp only[ilt_at h,inb_at h,cnd_t,len_upd,rd_upd h,upd_upd,rd_upd (xs:=upd _ _ _) (by simpa [upd] using h),show nz 3=true from rfl,next_at (i:=i) (by omega)]
   rw[iadd_64 (x:=k) (y:=1) (by omega) (by omega),iadd_64 (x:=k+1) (y:=1) (by omega) (by omega),iadd_64 (x:=k+1+1) (y:=1) (by omega) (by omega)])
  (fun xs k=>by refine (wMarkPointS_q2 xs k _).trans ?_;rw[ilt_end,cnd_f])
  (fun xs k i h y hi h0 hk hf he=>by
   refine (wHeldPointS_q2 xs k i).trans ?_
   simp only[ilt_at h,inb_at h,cnd_t,rd_at h,he,show nz 3=true from rfl,next_at (i:=i) (by omega)]
   rw[iadd_64 (x:=k) (y:=1) (by omega) (by omega),iadd_64 (x:=k+1) (y:=1) (by omega) (by omega),iadd_64 (x:=k+1+1) (y:=1) (by omega) (by omega)]
   simp only[ine_self,bneB_self,cnd_f])
  (fun xs k=>by refine (wHeldPointS_q2 xs k _).trans ?_;rw[ilt_end,cnd_f])
  (fun y k hf h0 hk=>by constructor<;>simp<;>omega)
theorem wMarkPointS_mk:Mk1 (.sl TPoint) wMarkPointS_d mkBPointS mkPointS:=wMarkPointS_ok.one
abbrev mkBPairS:Nat:=16777216*2
noncomputable def mkPairS:List tPair→Int→List tPair×Int:=mkL fun y k=>((mtext k,(mtext (k+1),())),k+1+1)
theorem wMarkPairS_ok:MkOk (.sl TPair) wMarkPairS_d wHeldPairS_d mkBPairS mkPairS:=
 MkOk.slice (t:=TPair) _ (fun x k=>wMarkPairS_b x k) (fun x k=>wHeldPairS_b x k)
  (fun xs k i h hi h0 hk hf=>by
   refine (wMarkPairS_q2 xs k i).trans ?_
   rw[iadd_64 (x:=k) (y:=1) (by omega) (by omega),iadd_64 (x:=k+1) (y:=1) (by omega) (by omega),markText k h0 (by omega),bnd_s,markText (k+1) (by omega) (by omega),bnd_s]
   simp only[ilt_at h,inb_at h,cnd_t,len_upd,rd_upd h,upd_upd,next_at (i:=i) (by omega)])
  (fun xs k=>by refine (wMarkPairS_q2 xs k _).trans ?_;rw[ilt_end,cnd_f])
  (fun xs k i h y hi h0 hk hf he=>by
   refine (wHeldPairS_q2 xs k i).trans ?_
   rw[iadd_64 (x:=k) (y:=1) (by omega) (by omega),iadd_64 (x:=k+1) (y:=1) (by omega) (by omega),markText k h0 (by omega),bnd_s,markText (k+1) (by omega) (by omega),bnd_s]
   simp only[ilt_at h,inb_at h,cnd_t,rd_at h,he,next_at (i:=i) (by omega),sne_self,cnd_f])
  (fun xs k=>by refine (wHeldPairS_q2 xs k _).trans ?_;rw[ilt_end,cnd_f])
  (fun y k hf h0 hk=>by constructor<;>simp<;>omega)
theorem wMarkPairS_mk:Mk1 (.sl TPair) wMarkPairS_d mkBPairS mkPairS:=wMarkPairS_ok.one
abbrev mkBAccountS:Nat:=16777216*(3+16777216*2)
noncomputable def mkAccountS:List tAccount→Int→List tAccount×Int:=mkL fun y k=>((mtext k,(k+1,(k+1+1,((mkPairS y.2.2.2.1 (k+1+1+1)).1,())))),(mkPairS y.2.2.2.1 (k+1+1+1)).2)
theorem wMarkAccountS_ok:MkOk (.sl TAccount) wMarkAccountS_d wHeldAccountS_d mkBAccountS mkAccountS:=
 MkOk.slice (t:=TAccount) _ (fun x k=>wMarkAccountS_b x k) (fun x k=>wHeldAccountS_b x k)
  (fun xs k i h hi h0 hk hf=>by
   obtain ⟨a,b,l,u⟩:=wMarkPairS_ok xs[i].2.2.2.1 (k+1+1+1) hf.2.2.2.1 (by omega) (by simp only[mkBPairS];omega)
   refine (wMarkAccountS_q2 xs k i).trans ?_
   rw[iadd_64 (x:=k) (y:=1) (by omega) (by omega),iadd_64 (x:=k+1) (y:=1) (by omega) (by omega),iadd_64 (x:=k+1+1) (y:=1) (by omega) (by omega),markText k h0 (by omega),bnd_s]
   simp only[ilt_at h,inb_at h,cnd_t,len_upd,rd_upd h,upd_upd,rd_at h,next_at (i:=i) (by omega)]
   rw[a,bnd_s])
  (fun xs k=>by refine (wMarkAccountS_q2 xs k _).trans ?_;rw[ilt_end,cnd_f])
  (fun xs k i h y hi h0 hk hf he=>by
   obtain ⟨a,b,l,u⟩:=wMarkPairS_ok y.2.2.2.1 (k+1+1+1) hf.2.2.2.1 (by omega) (by simp only[mkBPairS];omega)
   refine (wHeldAccountS_q2 xs k i).trans ?_
   rw[iadd_64 (x:=k) (y:=1) (by omega) (by omega),iadd_64 (x:=k+1) (y:=1) (by omega) (by omega),iadd_64 (x:=k+1+1) (y:=1) (by omega) (by omega),markText k h0 (by omega),bnd_s]
   simp only[ilt_at h,inb_at h,cnd_t,rd_at h,he,next_at (i:=i) (by omega),sne_self,ine_self,cnd_f]
   rw[b,bnd_s,ilt_f (by show 0≤(mkPairS y.2.2.2.1 (k+1+1+1)).2;omega),cnd_f])
  (fun xs k=>by refine (wHeldAccountS_q2 xs k _).trans ?_;rw[ilt_end,cnd_f])
  (fun y k hf h0 hk=>by
   obtain ⟨a,b,l,u⟩:=wMarkPairS_ok y.2.2.2.1 (k+1+1+1) hf.2.2.2.1 (by omega) (by simp only[mkBPairS];omega)
   simp only[mkBPairS] at u
   constructor
   ·show k≤(mkPairS y.2.2.2.1 (k+1+1+1)).2;omega
   ·show (mkPairS y.2.2.2.1 (k+1+1+1)).2≤_;omega)
theorem wMarkAccountS_mk:Mk1 (.sl TAccount) wMarkAccountS_d mkBAccountS mkAccountS:=wMarkAccountS_ok.one
end Go.Proofs.YtpnodjpefkcflaaGreatDoor
