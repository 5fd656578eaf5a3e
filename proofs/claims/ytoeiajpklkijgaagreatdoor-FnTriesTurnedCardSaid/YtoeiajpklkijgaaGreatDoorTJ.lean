/- Items that are read. Of no condition. -/
import Derived.Test.YtoeiajpklkijgaaGreatDoorTI
set_option linter.unusedVariables false
set_option linter.unusedSimpArgs false
set_option maxRecDepth 100000
namespace Go.Proofs.YtoeiajpklkijgaaGreatDoor
open Go.TV
theorem iAt_tot: ∀ (d:Nat) (t:ByteArray) (p:Nat),d≤100→t.size≤1000→ ∃x n b,iItemAt_d (t,((p:Int),((d:Int),())))=some ((x,(n,(b,()))),())∧(b=true→ ∃m:Nat,n=(m:Int)∧p<m∧m≤t.size):=by
 intro d
 induction d with
 |zero=>
  intro t p hd ht
  have hD: ∀low:Nat,p<t.size→(low:Int)≤sat t (p:Int)→ ∃x n b,iItemAt_D8 (t,((p:Int),(((0:Nat):Int),((low:Int),(ItemT.mk false (bs []) [],())))))=some ((x,(n,(b,()))),())∧(b=true→ ∃m:Nat,n=(m:Int)∧p<m∧m≤t.size):=by
   intro low hp hl
   obtain ⟨a,n,b,e,h⟩:=iPay_tot t p low hp (by omega) hl
   rw[iItemAt_q8,e,bnd_s]
   cases b with
   |false=>exact ⟨_,_,_,rfl,fun h=>by cases h⟩
   |true=>
    obtain ⟨A,N,rfl,rfl,h1,h2⟩:=h rfl
    simp only[bnot,Bool.not_true,cnd_f,ssz_d]
    rw[isub_64 (by omega) (by omega)]
    by_cases h3:(N:Int)≤(t.size:Int)- (A:Int)
    ·rw[igt_f h3,cnd_f,iadd_64 (by omega) (by omega)]
     by_cases h4:(low:Int)=128
     ·rw[ieq_d,decide_eq_true h4,cnd_t,inb2_t (by omega) (by omega) (by omega),cnd_t]
      exact ⟨_,_,_,rfl,fun _=>⟨A+N,by omega,by omega,by omega⟩⟩
     ·rw[ieq_d,decide_eq_false h4,cnd_f,ieq_d,decide_eq_true (by rfl),cnd_t]
      exact ⟨_,_,_,rfl,fun h=>by cases h⟩
    ·rw[igt_t (by omega),cnd_t]
     exact ⟨_,_,_,rfl,fun h=>by cases h⟩
  rw[iItemAt_b,ssz_d]
  by_cases h:p<t.size
  ·have hb:=sat_byte t (p:Int)
   rw[ige_d,decide_eq_false (by omega),cnd_f,inb_t (by omega) (by omega),cnd_t]
   by_cases h1:sat t (p:Int)<128
   ·rw[ilt_t h1,cnd_t,next_at (by omega),inb2_t (by omega) (by omega) (by omega),cnd_t]
    exact ⟨_,_,_,rfl,fun _=>⟨p+1,rfl,by omega,by omega⟩⟩
   ·rw[ilt_f (by omega),cnd_f,cnd_t]
    by_cases h2:192≤sat t (p:Int)
    ·rw[ige_d,decide_eq_true h2,cnd_t]
     exact hD 192 h h2
    ·rw[ige_d,decide_eq_false h2,cnd_f]
     exact hD 128 h (by omega)
  ·rw[ige_d,decide_eq_true (by omega),cnd_t]
   exact ⟨_,_,_,rfl,fun h=>by cases h⟩
 |succ d ih=>
  intro t p hd ht
  have hD: ∀low:Nat,p<t.size→(low:Int)≤sat t (p:Int)→ ∃x n b,iItemAt_D8 (t,((p:Int),(((d+1:Nat):Int),((low:Int),(ItemT.mk false (bs []) [],())))))=some ((x,(n,(b,()))),())∧(b=true→ ∃m:Nat,n=(m:Int)∧p<m∧m≤t.size):=by
   intro low hp hl
   obtain ⟨a,n,b,e,h⟩:=iPay_tot t p low hp (by omega) hl
   rw[iItemAt_q8,e,bnd_s]
   cases b with
   |false=>exact ⟨_,_,_,rfl,fun h=>by cases h⟩
   |true=>
    obtain ⟨A,N,rfl,rfl,h1,h2⟩:=h rfl
    simp only[bnot,Bool.not_true,cnd_f,ssz_d]
    rw[isub_64 (by omega) (by omega)]
    by_cases h3:(N:Int)≤(t.size:Int)- (A:Int)
    ·rw[igt_f h3,cnd_f,iadd_64 (by omega) (by omega)]
     by_cases h4:(low:Int)=128
     ·rw[ieq_d,decide_eq_true h4,cnd_t,inb2_t (by omega) (by omega) (by omega),cnd_t]
      exact ⟨_,_,_,rfl,fun _=>⟨A+N,by omega,by omega,by omega⟩⟩
     ·rw[ieq_d,decide_eq_false h4,cnd_f,ieq_d,decide_eq_false (by omega),cnd_f,show (A:Int)+(N:Int)=((A+N:Nat):Int) by omega]
      have loop: ∀ (m k:Nat) (x:ItemT),A+N≤k+m→k≤A+N→x.k.length≤k→ ∃y b,iItemAt_D17 (t,(((d+1:Nat):Int),((k:Int),(((A+N:Nat):Int),(ItemT.mk false (bs []) [],(x,()))))))=some ((y,(if b=true then ((A+N:Nat):Int) else 0,(b,()))),()):=by
       intro m
       induction m with
       |zero=>
        intro k x hk hk2 hx
        rw[iItemAt_q17,ilt_f (by omega),cnd_f]
        exact ⟨_,true,rfl⟩
       |succ m ihm=>
        intro k x hk hk2 hx
        rw[iItemAt_q17]
        by_cases h5:k<A+N
        ·rw[ilt_t (by omega),cnd_t,inb2_t (by omega) (by omega) (by rw[ssz_d];omega),cnd_t,isub_64 (by omega) (by omega),show ((d+1:Nat):Int)-1=(d:Int) by omega]
         have hz:=ssub_size t 0 (A+N) (by omega) (by omega)
         obtain ⟨z,n,b,e2,h6⟩:=ih (ssub t ((0:Nat):Int) ((A+N:Nat):Int)) k (by omega) (by omega)
         rw[show ssub t 0 ((A+N:Nat):Int)=ssub t ((0:Nat):Int) ((A+N:Nat):Int) from rfl,e2,bnd_s]
         cases b with
         |false=>exact ⟨_,false,rfl⟩
         |true=>
          obtain ⟨M,rfl,h7,h8⟩:=h6 rfl
          simp only[bnot,Bool.not_true,cnd_f]
          rw[app_fits (by decide) (by simp only[List.length_cons,List.length_nil];omega),cnd_t]
          exact ihm M (ItemT.mk x.l x.s (app x.k [z])) (by omega) (by omega) (by show (x.k++[z]).length≤M;simp only[List.length_append,List.length_cons,List.length_nil];omega)
        ·rw[ilt_f (by omega),cnd_f]
         exact ⟨_,true,rfl⟩
      obtain ⟨y,b,e3⟩:=loop N A (ItemT.mk true (bs []) []) (by omega) (by omega) (by show 0≤A;omega)
      refine ⟨y,_,b,e3,fun hb=>⟨A+N,?_,by omega,by omega⟩⟩
      rw[if_pos hb]
    ·rw[igt_t (by omega),cnd_t]
     exact ⟨_,_,_,rfl,fun h=>by cases h⟩
  rw[iItemAt_b,ssz_d]
  by_cases h:p<t.size
  ·have hb:=sat_byte t (p:Int)
   rw[ige_d,decide_eq_false (by omega),cnd_f,inb_t (by omega) (by omega),cnd_t]
   by_cases h1:sat t (p:Int)<128
   ·rw[ilt_t h1,cnd_t,next_at (by omega),inb2_t (by omega) (by omega) (by omega),cnd_t]
    exact ⟨_,_,_,rfl,fun _=>⟨p+1,rfl,by omega,by omega⟩⟩
   ·rw[ilt_f (by omega),cnd_f,cnd_t]
    by_cases h2:192≤sat t (p:Int)
    ·rw[ige_d,decide_eq_true h2,cnd_t]
     exact hD 192 h h2
    ·rw[ige_d,decide_eq_false h2,cnd_f]
     exact hD 128 h (by omega)
  ·rw[ige_d,decide_eq_true (by omega),cnd_t]
   exact ⟨_,_,_,rfl,fun h=>by cases h⟩
theorem sRd_tot: ∀ (d:Nat) (t:ByteArray) (p:Nat) (D:Int),D=5- (d:Int)→d≤5→t.size≤1000→ ∃x n b,sL17Read_d (t,((p:Int),(D,())))=some ((x,(n,(b,()))),())∧(b=true→ ∃m:Nat,n=(m:Int)∧p<m∧m≤t.size):=by
 intro d
 induction d with
 |zero=>
  intro t p D hD hd ht
  rw[sL17Read_b,ssz_d]
  by_cases h:p<t.size
  ·rw[ige_d,decide_eq_false (by omega),cnd_f,igt_t (by omega),cnd_t]
   exact ⟨_,_,_,rfl,fun h=>by cases h⟩
  ·rw[ige_d,decide_eq_true (by omega),cnd_t]
   exact ⟨_,_,_,rfl,fun h=>by cases h⟩
 |succ d ih=>
  intro t p D hD' hd ht
  have hD: ∀ (low:Nat) (lst:Bool),p<t.size→(low:Int)≤sat t (p:Int)→ ∃x n b,sL17Read_D9 (t,((p:Int),(D,(lst,((low:Int),(ItemT.mk false (bs []) [],()))))))=some ((x,(n,(b,()))),())∧(b=true→ ∃m:Nat,n=(m:Int)∧p<m∧m≤t.size):=by
   intro low lst hp hl
   obtain ⟨a,n,b,e,h⟩:=sSize_tot t p low hp (by omega) hl
   rw[sL17Read_q9,e,bnd_s]
   cases b with
   |false=>exact ⟨_,_,_,rfl,fun h=>by cases h⟩
   |true=>
    obtain ⟨A,N,rfl,rfl,h1,h2⟩:=h rfl
    simp only[bnot,Bool.not_true,cnd_f,ssz_d]
    rw[isub_64 (by omega) (by omega)]
    by_cases h3:(N:Int)≤(t.size:Int)- (A:Int)
    ·rw[igt_f h3,cnd_f]
     cases lst with
     |false=>
      rw[Bool.not_false,cnd_t,iadd_64 (by omega) (by omega),inb2_t (by omega) (by omega) (by omega),cnd_t]
      exact ⟨_,_,_,rfl,fun _=>⟨A+N,by omega,by omega,by omega⟩⟩
     |true=>
      rw[Bool.not_true,cnd_f]
      have loop: ∀ (m k:Nat) (x:ItemT),A+N≤k+m→k≤A+N→ ∃y b,sL17Read_D16 (t,(D,((A:Int),((N:Int),((k:Int),(ItemT.mk false (bs []) [],(x,())))))))=some ((y,(if b=true then ((A+N:Nat):Int) else 0,(b,()))),()):=by
       intro m
       induction m with
       |zero=>
        intro k x hk hk2
        rw[sL17Read_q16,iadd_64 (x:=(A:Int)) (y:=(N:Int)) (by omega) (by omega),ilt_f (by omega),cnd_f]
        exact ⟨_,true,rfl⟩
       |succ m ihm=>
        intro k x hk hk2
        rw[sL17Read_q16,iadd_64 (x:=(A:Int)) (y:=(N:Int)) (by omega) (by omega)]
        by_cases h5:k<A+N
        ·rw[ilt_t (by omega),cnd_t,inb2_t (by omega) (by omega) (by rw[ssz_d];omega),cnd_t,iadd_64 (by omega) (by omega)]
         have hz:=ssub_size t 0 (A+N) (by omega) (by omega)
         obtain ⟨z,n,b,e2,h6⟩:=ih (ssub t ((0:Nat):Int) ((A+N:Nat):Int)) k (D+1) (by omega) (by omega) (by omega)
         rw[show (A:Int)+(N:Int)=((A+N:Nat):Int) by omega,show ssub t 0 ((A+N:Nat):Int)=ssub t ((0:Nat):Int) ((A+N:Nat):Int) from rfl,e2,bnd_s]
         cases b with
         |false=>exact ⟨_,false,rfl⟩
         |true=>
          obtain ⟨M,rfl,h7,h8⟩:=h6 rfl
          simp only[bnot,Bool.not_true,cnd_f]
          by_cases h9:17≤x.k.length
          ·rw[ige_d,decide_eq_true (by rw[len_d];omega),cnd_t]
           exact ⟨_,false,rfl⟩
          ·rw[ige_d,decide_eq_false (by rw[len_d];omega),cnd_f,app_fits (by decide) (by simp only[List.length_cons,List.length_nil];omega),cnd_t]
           exact ihm M (ItemT.mk x.l x.s (app x.k [z])) (by omega) (by omega)
        ·rw[ilt_f (by omega),cnd_f]
         exact ⟨_,true,rfl⟩
      obtain ⟨y,b,e3⟩:=loop N A (ItemT.mk true (bs []) []) (by omega) (by omega)
      refine ⟨y,_,b,e3,fun hb=>⟨A+N,?_,by omega,by omega⟩⟩
      rw[if_pos hb]
    ·rw[igt_t (by omega),cnd_t]
     exact ⟨_,_,_,rfl,fun h=>by cases h⟩
  rw[sL17Read_b,ssz_d]
  by_cases h:p<t.size
  ·have hb:=sat_byte t (p:Int)
   rw[ige_d,decide_eq_false (by omega),cnd_f,igt_f (by omega),cnd_f,inb_t (by omega) (by omega),cnd_t]
   by_cases h1:sat t (p:Int)<128
   ·rw[ilt_t h1,cnd_t,next_at (by omega),inb2_t (by omega) (by omega) (by omega),cnd_t]
    exact ⟨_,_,_,rfl,fun _=>⟨p+1,rfl,by omega,by omega⟩⟩
   ·rw[ilt_f (by omega),cnd_f,cnd_t]
    by_cases h2:192≤sat t (p:Int)
    ·rw[ige_d,decide_eq_true h2,cnd_t]
     exact hD 192 _ h h2
    ·rw[ige_d,decide_eq_false h2,cnd_f]
     exact hD 128 _ h (by omega)
  ·rw[ige_d,decide_eq_true (by omega),cnd_t]
   exact ⟨_,_,_,rfl,fun h=>by cases h⟩
theorem foldl_scat: ∀ (l:List ByteArray) (a:ByteArray),l.foldl scat a=scat a (l.foldl scat (bs []))
 | [],a=>by simp only[List.foldl_nil];rw[scat_nil]
 |y::l,a=>by
  rw[List.foldl_cons,List.foldl_cons,foldl_scat l (scat a y),foldl_scat l (scat (bs []) y),scat_assoc]
  have:scat (bs []) y=y:=by unfold scat bs;apply ByteArray.ext;simp
  rw[this]
theorem lenV_pos (low n:Nat) (hl:low≤192):0<(lenV low n).size:=by
 by_cases h:n≤55
 ·rw[lenV_1 low n hl h,size_scat,size_sof];simp only[List.length_cons];omega
 ·rw[lenV_2 low n hl h,size_scat,size_sof];simp only[List.length_cons];omega
theorem textF_pos: ∀ (d:Nat) (x:ItemT),0<(textF (d+1) x).size
 |d, .mk false s k=>by
  show 0<(if s.size=1∧sat s 0<128 then s else scat (lenV ((128:Nat):Int) s.size) s).size
  split
  ·omega
  ·have:=lenV_pos 128 s.size (by omega);rw[size_scat];omega
 |d, .mk true s k=>by
  show 0<(scat (lenV ((192:Nat):Int) ((k.map (textF d)).foldl scat (bs [])).size) ((k.map (textF d)).foldl scat (bs []))).size
  have:=lenV_pos 192 ((k.map (textF d)).foldl scat (bs [])).size (by omega)
  rw[size_scat];omega
theorem iAt_ex: ∀ (d:Nat) (x:ItemT),d≤4→fitV d x=true→ ∀ (t:ByteArray) (p:Nat),t.size≤900→Has t p (textF (d+1) x)→iItemAt_d (t,((p:Int),((d:Int),())))=some ((x,(((p+(textF (d+1) x).size:Nat):Int),(true,()))),())
 |d, .mk false s k,hd,hf,t,p,ht,h=>by
  obtain ⟨h1,rfl⟩:=fit_leaf hf
  have e:textF (d+1) (.mk false s [])=if s.size=1∧sat s 0<128 then s else scat (lenV ((128:Nat):Int) s.size) s:=rfl
  rw[e] at h⊢
  rw[iItemAt_b,ssz_d]
  by_cases h2:s.size=1∧sat s 0<128
  ·rw[if_pos h2] at h⊢
   have hp:=h.1
   rw[ige_d,decide_eq_false (by omega),cnd_f,inb_t (by omega) (by omega),cnd_t,h.at0 (by omega),ilt_t h2.2,cnd_t,next_at (by omega),inb2_t (by omega) (by omega) (by omega),cnd_t]
   have hs:=h.sub
   rw[h2.1] at hs
   rw[hs,h2.1]
  ·rw[if_neg h2] at h⊢
   have hn:s.size≤900:=by omega
   obtain ⟨f1,⟨f2,f3⟩,f4⟩:=len_first (low:=128) (by omega) hn h
   have hs:=h.snd
   have hs1:=hs.1
   rw[ige_d,decide_eq_false (by omega),cnd_f,inb_t (by omega) (by omega),cnd_t,ilt_f (by omega),cnd_f,cnd_t,ige_d,decide_eq_false (by omega),cnd_f]
   show iItemAt_D8 (t,((p:Int),((d:Int),(((128:Nat):Int),(ItemT.mk false (bs []) [],())))))=_
   rw[iItemAt_q8,iPay_ex (by omega) (by omega) hn h.fst,bnd_s]
   simp only[bnot,Bool.not_true,cnd_f,ssz_d]
   rw[isub_64 (by omega) (by omega),igt_f (by omega),cnd_f,ieq_d,decide_eq_true (by rfl),cnd_t,iadd_64 (by omega) (by omega),inb2_t (by omega) (by omega) (by omega),cnd_t,
    show ((p+(lenV ((128:Nat):Int) s.size).size:Nat):Int)+(s.size:Int)=((p+(lenV ((128:Nat):Int) s.size).size+s.size:Nat):Int) by omega,hs.sub,size_scat,Nat.add_assoc]
 |d, .mk true s k,hd,hf,t,p,ht,h=>by
  obtain ⟨rfl,h2,e,rfl,h3⟩:=fit_list hf
  have e':textF (e+1+1) (.mk true (bs []) k)=scat (lenV ((192:Nat):Int) ((k.map (textF (e+1))).foldl scat (bs [])).size) ((k.map (textF (e+1))).foldl scat (bs [])):=rfl
  rw[e'] at h⊢
  have hs:=h.snd
  have hs1:=hs.1
  have hn:((k.map (textF (e+1))).foldl scat (bs [])).size≤900:=by omega
  obtain ⟨f1,⟨f2,f3⟩,f4⟩:=len_first (low:=192) (by omega) hn h
  have loop: ∀ (l acc:List ItemT) (q E:Nat),(∀y∈l,fitV e y=true)→acc.length+l.length≤17→E≤t.size→Has t q ((l.map (textF (e+1))).foldl scat (bs []))→q+((l.map (textF (e+1))).foldl scat (bs [])).size=E→
   iItemAt_D17 (t,(((e+1:Nat):Int),((q:Int),((E:Int),(ItemT.mk false (bs []) [],(ItemT.mk true (bs []) acc,()))))))=some ((ItemT.mk true (bs []) (acc++l),((E:Int),(true,()))),()):=by
   intro l
   induction l with
   |nil=>
    intro acc q E _ _ hE _ hq
    have h0:(bs []).size=0:=rfl
    simp only[List.map_nil,List.foldl_nil,h0] at hq
    rw[iItemAt_q17,ilt_f (by omega),cnd_f,List.append_nil]
   |cons y l ihl=>
    intro acc q E hy hl hE hH hq
    have eF:((y::l).map (textF (e+1))).foldl scat (bs [])=scat (textF (e+1) y) ((l.map (textF (e+1))).foldl scat (bs [])):=by
     rw[List.map_cons,List.foldl_cons,foldl_scat]
     have:scat (bs []) (textF (e+1) y)=textF (e+1) y:=by unfold scat bs;apply ByteArray.ext;simp
     rw[this]
    rw[eF] at hH hq
    rw[size_scat] at hq
    have hpos:=textF_pos e y
    simp only[List.length_cons] at hl
    rw[iItemAt_q17,ilt_t (by omega),cnd_t,inb2_t (by omega) (by omega) (by rw[ssz_d];omega),cnd_t,isub_64 (by omega) (by omega),show ((e+1:Nat):Int)-1=(e:Int) by omega]
    have hz:=ssub_size t 0 E (by omega) (by omega)
    have hc:=hH.fst.cut (e:=E) (by omega) hE
    rw[show ssub t 0 (E:Int)=ssub t ((0:Nat):Int) (E:Int) from rfl,iAt_ex e y (by omega) (hy y (by simp)) _ q (by omega) hc,bnd_s]
    simp only[bnot,Bool.not_true,cnd_f]
    rw[app_fits (by decide) (by simp only[List.length_cons,List.length_nil];show acc.length+1≤_;omega),cnd_t]
    show iItemAt_D17 (t,(((e+1:Nat):Int),(((q+(textF (e+1) y).size:Nat):Int),((E:Int),(ItemT.mk false (bs []) [],(ItemT.mk true (bs []) (acc++[y]),()))))))=_
    rw[ihl (acc++[y]) (q+(textF (e+1) y).size) E (fun z hz=>hy z (by simp [hz])) (by simp only[List.length_append,List.length_cons,List.length_nil];omega) hE hH.snd (by omega),List.append_assoc]
    rfl
  rw[iItemAt_b,ssz_d]
  rw[ige_d,decide_eq_false (by omega),cnd_f,inb_t (by omega) (by omega),cnd_t,ilt_f (by omega),cnd_f,cnd_t,ige_d,decide_eq_true (by omega),cnd_t]
  show iItemAt_D8 (t,((p:Int),(((e+1:Nat):Int),(((192:Nat):Int),(ItemT.mk false (bs []) [],())))))=_
  rw[iItemAt_q8,iPay_ex (by omega) (by omega) hn h.fst,bnd_s]
  simp only[bnot,Bool.not_true,cnd_f,ssz_d]
  rw[isub_64 (by omega) (by omega),igt_f (by omega),cnd_f,ieq_d,decide_eq_false (by decide),cnd_f,ieq_d,decide_eq_false (by omega),cnd_f,iadd_64 (by omega) (by omega),
   show ((p+(lenV ((192:Nat):Int) ((k.map (textF (e+1))).foldl scat (bs [])).size).size:Nat):Int)+(((k.map (textF (e+1))).foldl scat (bs [])).size:Int)=((p+(lenV ((192:Nat):Int) ((k.map (textF (e+1))).foldl scat (bs [])).size).size+((k.map (textF (e+1))).foldl scat (bs [])).size:Nat):Int) by omega,
   loop k [] _ _ h3 (by simp only[List.length_nil];omega) hs1 hs rfl,List.nil_append,size_scat,Nat.add_assoc]
theorem sRd_ex: ∀ (d:Nat) (x:ItemT) (D:Int),D=4- (d:Int)→d≤4→fitV d x=true→ ∀ (t:ByteArray) (p:Nat),t.size≤900→Has t p (textF (d+1) x)→sL17Read_d (t,((p:Int),(D,())))=some ((x,(((p+(textF (d+1) x).size:Nat):Int),(true,()))),())
 |d, .mk false s k,D,hD,hd,hf,t,p,ht,h=>by
  obtain ⟨h1,rfl⟩:=fit_leaf hf
  have e:textF (d+1) (.mk false s [])=if s.size=1∧sat s 0<128 then s else scat (lenV ((128:Nat):Int) s.size) s:=rfl
  rw[e] at h⊢
  rw[sL17Read_b,ssz_d]
  by_cases h2:s.size=1∧sat s 0<128
  ·rw[if_pos h2] at h⊢
   have hp:=h.1
   rw[ige_d,decide_eq_false (by omega),cnd_f,igt_f (by omega),cnd_f,inb_t (by omega) (by omega),cnd_t,h.at0 (by omega),ilt_t h2.2,cnd_t,next_at (by omega),inb2_t (by omega) (by omega) (by omega),cnd_t]
   have hs:=h.sub
   rw[h2.1] at hs
   rw[hs,h2.1]
  ·rw[if_neg h2] at h⊢
   have hn:s.size≤900:=by omega
   obtain ⟨f1,⟨f2,f3⟩,f4⟩:=len_first (low:=128) (by omega) hn h
   have hs:=h.snd
   have hs1:=hs.1
   rw[ige_d,decide_eq_false (by omega),cnd_f,igt_f (by omega),cnd_f,inb_t (by omega) (by omega),cnd_t,ilt_f (by omega),cnd_f,cnd_t,ige_d,decide_eq_false (by omega),cnd_f]
   show sL17Read_D9 (t,((p:Int),(D,(false,(((128:Nat):Int),(ItemT.mk false (bs []) [],()))))))=_
   rw[sL17Read_q9,sSize_ex (by omega) (by omega) hn h.fst,bnd_s]
   simp only[bnot,Bool.not_true,Bool.not_false,cnd_f,cnd_t,ssz_d]
   rw[isub_64 (by omega) (by omega),igt_f (by omega),cnd_f,iadd_64 (by omega) (by omega),inb2_t (by omega) (by omega) (by omega),cnd_t,
    show ((p+(lenV ((128:Nat):Int) s.size).size:Nat):Int)+(s.size:Int)=((p+(lenV ((128:Nat):Int) s.size).size+s.size:Nat):Int) by omega,hs.sub,size_scat,Nat.add_assoc]
 |d, .mk true s k,D,hD,hd,hf,t,p,ht,h=>by
  obtain ⟨rfl,h2,e,rfl,h3⟩:=fit_list hf
  have e':textF (e+1+1) (.mk true (bs []) k)=scat (lenV ((192:Nat):Int) ((k.map (textF (e+1))).foldl scat (bs [])).size) ((k.map (textF (e+1))).foldl scat (bs [])):=rfl
  rw[e'] at h⊢
  have hs:=h.snd
  have hs1:=hs.1
  have hn:((k.map (textF (e+1))).foldl scat (bs [])).size≤900:=by omega
  obtain ⟨f1,⟨f2,f3⟩,f4⟩:=len_first (low:=192) (by omega) hn h
  have loop: ∀ (l acc:List ItemT) (q A N:Nat),(∀y∈l,fitV e y=true)→acc.length+l.length≤17→A+N≤t.size→Has t q ((l.map (textF (e+1))).foldl scat (bs []))→q+((l.map (textF (e+1))).foldl scat (bs [])).size=A+N→
   sL17Read_D16 (t,(D,((A:Int),((N:Int),((q:Int),(ItemT.mk false (bs []) [],(ItemT.mk true (bs []) acc,())))))))=some ((ItemT.mk true (bs []) (acc++l),(((A+N:Nat):Int),(true,()))),()):=by
   intro l
   induction l with
   |nil=>
    intro acc q A N _ _ hE _ hq
    have h0:(bs []).size=0:=rfl
    simp only[List.map_nil,List.foldl_nil,h0] at hq
    rw[sL17Read_q16,iadd_64 (x:=(A:Int)) (y:=(N:Int)) (by omega) (by omega),ilt_f (by omega),cnd_f,List.append_nil]
    rfl
   |cons y l ihl=>
    intro acc q A N hy hl hE hH hq
    have eF:((y::l).map (textF (e+1))).foldl scat (bs [])=scat (textF (e+1) y) ((l.map (textF (e+1))).foldl scat (bs [])):=by
     rw[List.map_cons,List.foldl_cons,foldl_scat]
     have:scat (bs []) (textF (e+1) y)=textF (e+1) y:=by unfold scat bs;apply ByteArray.ext;simp
     rw[this]
    rw[eF] at hH hq
    rw[size_scat] at hq
    have hpos:=textF_pos e y
    simp only[List.length_cons] at hl
    rw[sL17Read_q16,iadd_64 (x:=(A:Int)) (y:=(N:Int)) (by omega) (by omega),ilt_t (by omega),cnd_t,inb2_t (by omega) (by omega) (by rw[ssz_d];omega),cnd_t,iadd_64 (by omega) (by omega)]
    have hz:=ssub_size t 0 (A+N) (by omega) (by omega)
    have hc:=hH.fst.cut (e:=A+N) (by omega) hE
    rw[show (A:Int)+(N:Int)=((A+N:Nat):Int) by omega,show ssub t 0 ((A+N:Nat):Int)=ssub t ((0:Nat):Int) ((A+N:Nat):Int) from rfl,sRd_ex e y (D+1) (by omega) (by omega) (hy y (by simp)) _ q (by omega) hc,bnd_s]
    simp only[bnot,Bool.not_true,cnd_f]
    rw[ige_d,decide_eq_false (by rw[len_d];show¬((17:Int)≤(acc.length:Int));omega),cnd_f,app_fits (by decide) (by simp only[List.length_cons,List.length_nil];show acc.length+1≤_;omega),cnd_t]
    show sL17Read_D16 (t,(D,((A:Int),((N:Int),(((q+(textF (e+1) y).size:Nat):Int),(ItemT.mk false (bs []) [],(ItemT.mk true (bs []) (acc++[y]),())))))))=_
    rw[ihl (acc++[y]) (q+(textF (e+1) y).size) A N (fun z hz=>hy z (by simp [hz])) (by simp only[List.length_append,List.length_cons,List.length_nil];omega) hE hH.snd (by omega),List.append_assoc]
    rfl
  rw[sL17Read_b,ssz_d]
  rw[ige_d,decide_eq_false (by omega),cnd_f,igt_f (by omega),cnd_f,inb_t (by omega) (by omega),cnd_t,ilt_f (by omega),cnd_f,cnd_t,ige_d,decide_eq_true (by omega),cnd_t]
  show sL17Read_D9 (t,((p:Int),(D,(true,(((192:Nat):Int),(ItemT.mk false (bs []) [],()))))))=_
  rw[sL17Read_q9,sSize_ex (by omega) (by omega) hn h.fst,bnd_s]
  simp only[bnot,Bool.not_true,cnd_f,ssz_d]
  rw[isub_64 (by omega) (by omega),igt_f (by omega),cnd_f,
   loop k [] _ _ _ h3 (by simp only[List.length_nil];omega) hs1 hs rfl,List.nil_append,size_scat,Nat.add_assoc]
theorem itemR_inv {x:ItemT} {t:ByteArray} (h:itemR x=(t,true)):fitV 4 x=true∧textF 5 x=t∧t.size≤900:=by
 unfold itemR at h
 split at h
 ·rename_i h1
  have:=congrArg Prod.fst h
  simp only at this
  exact ⟨h1.1,this,by rw[←this];exact h1.2⟩
 ·cases h
theorem iAt_of {x:ItemT} {t:ByteArray} (h:itemR x=(t,true)):iItemAt_d (t,((0:Int),((4:Int),())))=some ((x,((t.size:Int),(true,()))),()):=by
 obtain ⟨h1,h2,h3⟩:=itemR_inv h
 have:=iAt_ex 4 x (by omega) h1 t 0 h3 (by rw[h2];exact Has.self t)
 rw[h2,Nat.zero_add] at this
 exact this
theorem sRd_of {x:ItemT} {t:ByteArray} (h:itemR x=(t,true)):sL17Read_d (t,((0:Int),((0:Int),())))=some ((x,((t.size:Int),(true,()))),()):=by
 obtain ⟨h1,h2,h3⟩:=itemR_inv h
 have:=sRd_ex 4 x 0 (by omega) (by omega) h1 t 0 h3 (by rw[h2];exact Has.self t)
 rw[h2,Nat.zero_add] at this
 exact this
open Classical in
noncomputable def readV (t:ByteArray):ItemT×Bool:=if h: ∃x,itemR x=(t,true) then (Classical.choose h,true) else (.mk false (bs []) [],false)
theorem readV_t {x:ItemT} {t:ByteArray} (h:itemR x=(t,true)):readV t=(x,true):=by
 have h': ∃x,itemR x=(t,true):=⟨x,h⟩
 unfold readV
 rw[dif_pos h']
 have e1:=iAt_of (Classical.choose_spec h')
 rw[iAt_of h] at e1
 have:=congrArg (fun o=>o.map fun r=>r.1.1) e1
 simp only[Option.map_some,Option.some.injEq] at this
 rw[this]
theorem readV_f {t:ByteArray} (h: ¬ ∃x,itemR x=(t,true)):readV t=(.mk false (bs []) [],false):=by
 unfold readV
 rw[dif_neg h]
theorem readV_fit {t:ByteArray} (h:(readV t).2=true):itemR (readV t).1=(t,true):=by
 by_cases h1: ∃x,itemR x=(t,true)
 ·obtain ⟨x,hx⟩:=h1
  rw[readV_t hx];exact hx
 ·rw[readV_f h1] at h;cases h
theorem iReadI_l (t:ByteArray):iReadItem_d (t,())=some (((readV t).1,((readV t).2,())),()):=by
 rw[iReadItem_b,ssz_d]
 by_cases hz:t.size≤900
 ·rw[igt_f (by omega),cnd_f]
  by_cases h: ∃x,itemR x=(t,true)
  ·obtain ⟨x,hx⟩:=h
   rw[iAt_of hx,bnd_s,readV_t hx]
   simp only[bnot,Bool.not_true,cnd_f]
   rw[ine_d,decide_eq_true (by rfl),Bool.not_true,cnd_f,iItemText_l,hx,bnd_s]
   simp only[Bool.not_true,cnd_f]
   rw[sne_d,decide_eq_true (by rfl),Bool.not_true,cnd_f]
  ·rw[readV_f h]
   obtain ⟨x,n,b,e,_⟩:=iAt_tot 4 t 0 (by omega) (by omega)
   rw[show iItemAt_d (t,((0:Int),((4:Int),())))=some ((x,(n,(b,()))),()) from e,bnd_s]
   cases b with
   |false=>rfl
   |true=>
    simp only[bnot,Bool.not_true,cnd_f]
    by_cases h2:n=(t.size:Int)
    ·rw[ine_d,decide_eq_true h2,Bool.not_true,cnd_f,iItemText_l,bnd_s]
     simp only[]
     cases h3:(itemR x).2 with
     |false=>rfl
     |true=>
      simp only[Bool.not_true,cnd_f]
      by_cases h4:(itemR x).1=t
      ·exact absurd ⟨x,Prod.ext h4 h3⟩ h
      ·rw[sne_d,decide_eq_false h4,Bool.not_false,cnd_t]
    ·rw[ine_d,decide_eq_false h2,Bool.not_false,cnd_t]
 ·rw[igt_t (by omega),cnd_t,readV_f]
  exact fun ⟨x,hx⟩=>hz (itemR_inv hx).2.2
theorem sReadI_l (t:ByteArray):sReadItem_d (t,())=some (((readV t).1,((readV t).2,())),()):=by
 rw[sReadItem_b,ssz_d]
 by_cases hz:t.size≤900
 ·rw[igt_f (by omega),cnd_f]
  by_cases h: ∃x,itemR x=(t,true)
  ·obtain ⟨x,hx⟩:=h
   rw[show sL17Read_d (t,zTwo)=_ from sRd_of hx,bnd_s,readV_t hx]
   simp only[]
   rw[sItemText_l,hx,bnd_s]
   simp only[bnot,Bool.not_true,cnd_f]
   rw[ine_d,decide_eq_true (by rfl),Bool.not_true,cnd_f]
   rw[sne_d,decide_eq_true (by rfl),Bool.not_true,cnd_f]
  ·rw[readV_f h]
   obtain ⟨x,n,b,e,_⟩:=sRd_tot 5 t 0 0 (by omega) (by omega) (by omega)
   rw[show sL17Read_d (t,zTwo)=some ((x,(n,(b,()))),()) from e,bnd_s]
   simp only[]
   rw[sItemText_l,bnd_s]
   cases b with
   |false=>rfl
   |true=>
    simp only[bnot,Bool.not_true,cnd_f]
    by_cases h2:n=(t.size:Int)
    ·rw[ine_d,decide_eq_true h2,Bool.not_true,cnd_f]
     cases h3:(itemR x).2 with
     |false=>rfl
     |true=>
      simp only[Bool.not_true,cnd_f]
      by_cases h4:(itemR x).1=t
      ·exact absurd ⟨x,Prod.ext h4 h3⟩ h
      ·rw[sne_d,decide_eq_false h4,Bool.not_false,cnd_t]
    ·rw[ine_d,decide_eq_false h2,Bool.not_false,cnd_t]
 ·rw[igt_t (by omega),cnd_t,readV_f]
  exact fun ⟨x,hx⟩=>hz (itemR_inv hx).2.2
end Go.Proofs.YtoeiajpklkijgaaGreatDoor
