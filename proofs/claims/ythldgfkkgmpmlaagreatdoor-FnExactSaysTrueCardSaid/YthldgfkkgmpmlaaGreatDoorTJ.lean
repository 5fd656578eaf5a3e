/- Items that are read. Of no condition. -/
import Derived.Test.YthldgfkkgmpmlaaGreatDoorTI
set_option linter.unusedVariables false
set_option linter.unusedSimpArgs false
set_option maxRecDepth 100000
namespace Go.Proofs.YthldgfkkgmpmlaaGreatDoor
open Go.TV
theorem WzO: ∀ (d:Nat) (t:ByteArray) (p:Nat),d≤100→t.size≤1000→ ∃x n b,izY (t,((p:Int),((d:Int),())))=some ((x,(n,(b,()))),())∧(b=true→ ∃m:Nat,n=(m:Int)∧p<m∧m≤t.size):=by
 intro d
 induction d with
 |zero=>
  intro t p hd ht
  have hD: ∀low:Nat,p<t.size→(low:Int)≤sat t (p:Int)→ ∃x n b,hzs (t,((p:Int),(((0:Nat):Int),((low:Int),(ItemT.mk false (bs []) [],())))))=some ((x,(n,(b,()))),())∧(b=true→ ∃m:Nat,n=(m:Int)∧p<m∧m≤t.size):=by
   intro low hp hl
   obtain ⟨a,n,b,e,h⟩:=NzQ t p low hp (by omega) hl
   rw[szi,e,azb]
   cases b with
   |false=>exact ⟨_,_,_,rfl,fun h=>by cases h⟩
   |true=>
    obtain ⟨A,N,rfl,rfl,h1,h2⟩:=h rfl
    simp only[bnot,Bool.not_true,azc,azL]
    rw[az4 (by omega) (by omega)]
    by_cases h3:(N:Int)≤(t.size:Int)- (A:Int)
    ·rw[bzi h3,azc,azA (by omega) (by omega)]
     by_cases h4:(low:Int)=128
     ·rw[czl,decide_eq_true h4,aza,bzt (by omega) (by omega) (by omega),aza]
      exact ⟨_,_,_,rfl,fun _=>⟨A+N,by omega,by omega,by omega⟩⟩
     ·rw[czl,decide_eq_false h4,azc,czl,decide_eq_true (by rfl),aza]
      exact ⟨_,_,_,rfl,fun h=>by cases h⟩
    ·rw[bzU (by omega),aza]
     exact ⟨_,_,_,rfl,fun h=>by cases h⟩
  rw[vz3,azL]
  by_cases h:p<t.size
  ·have hb:=gzn t (p:Int)
   rw[czK,decide_eq_false (by omega),azc,bz0 (by omega) (by omega),aza]
   by_cases h1:sat t (p:Int)<128
   ·rw[bzT h1,aza,azq (by omega),bzt (by omega) (by omega) (by omega),aza]
    exact ⟨_,_,_,rfl,fun _=>⟨p+1,rfl,by omega,by omega⟩⟩
   ·rw[az0 (by omega),azc,aza]
    by_cases h2:192≤sat t (p:Int)
    ·rw[czK,decide_eq_true h2,aza]
     exact hD 192 h h2
    ·rw[czK,decide_eq_false h2,azc]
     exact hD 128 h (by omega)
  ·rw[czK,decide_eq_true (by omega),aza]
   exact ⟨_,_,_,rfl,fun h=>by cases h⟩
 |succ d ih=>
  intro t p hd ht
  have hD: ∀low:Nat,p<t.size→(low:Int)≤sat t (p:Int)→ ∃x n b,hzs (t,((p:Int),(((d+1:Nat):Int),((low:Int),(ItemT.mk false (bs []) [],())))))=some ((x,(n,(b,()))),())∧(b=true→ ∃m:Nat,n=(m:Int)∧p<m∧m≤t.size):=by
   intro low hp hl
   obtain ⟨a,n,b,e,h⟩:=NzQ t p low hp (by omega) hl
   rw[szi,e,azb]
   cases b with
   |false=>exact ⟨_,_,_,rfl,fun h=>by cases h⟩
   |true=>
    obtain ⟨A,N,rfl,rfl,h1,h2⟩:=h rfl
    simp only[bnot,Bool.not_true,azc,azL]
    rw[az4 (by omega) (by omega)]
    by_cases h3:(N:Int)≤(t.size:Int)- (A:Int)
    ·rw[bzi h3,azc,azA (by omega) (by omega)]
     by_cases h4:(low:Int)=128
     ·rw[czl,decide_eq_true h4,aza,bzt (by omega) (by omega) (by omega),aza]
      exact ⟨_,_,_,rfl,fun _=>⟨A+N,by omega,by omega,by omega⟩⟩
     ·rw[czl,decide_eq_false h4,azc,czl,decide_eq_false (by omega),azc,show (A:Int)+(N:Int)=((A+N:Nat):Int) by omega]
      have loop: ∀ (m k:Nat) (x:ItemT),A+N≤k+m→k≤A+N→x.k.length≤k→ ∃y b,gz9 (t,(((d+1:Nat):Int),((k:Int),(((A+N:Nat):Int),(ItemT.mk false (bs []) [],(x,()))))))=some ((y,(if b=true then ((A+N:Nat):Int) else 0,(b,()))),()):=by
       intro m
       induction m with
       |zero=>
        intro k x hk hk2 hx
        rw[ozK,az0 (by omega),azc]
        exact ⟨_,true,rfl⟩
       |succ m ihm=>
        intro k x hk hk2 hx
        rw[ozK]
        by_cases h5:k<A+N
        ·rw[bzT (by omega),aza,bzt (by omega) (by omega) (by rw[azL];omega),aza,az4 (by omega) (by omega),show ((d+1:Nat):Int)-1=(d:Int) by omega]
         have hz:=izF t 0 (A+N) (by omega) (by omega)
         obtain ⟨z,n,b,e2,h6⟩:=ih (ssub t ((0:Nat):Int) ((A+N:Nat):Int)) k (by omega) (by omega)
         rw[show ssub t 0 ((A+N:Nat):Int)=ssub t ((0:Nat):Int) ((A+N:Nat):Int) from rfl,e2,azb]
         cases b with
         |false=>exact ⟨_,false,rfl⟩
         |true=>
          obtain ⟨M,rfl,h7,h8⟩:=h6 rfl
          simp only[bnot,Bool.not_true,azc]
          rw[azv (by decide) (by simp only[List.length_cons,List.length_nil];omega),aza]
          exact ihm M (ItemT.mk x.l x.s (app x.k [z])) (by omega) (by omega) (by show (x.k++[z]).length≤M;simp only[List.length_append,List.length_cons,List.length_nil];omega)
        ·rw[az0 (by omega),azc]
         exact ⟨_,true,rfl⟩
      obtain ⟨y,b,e3⟩:=loop N A (ItemT.mk true (bs []) []) (by omega) (by omega) (by show 0≤A;omega)
      refine ⟨y,_,b,e3,fun hb=>⟨A+N,?_,by omega,by omega⟩⟩
      rw[if_pos hb]
    ·rw[bzU (by omega),aza]
     exact ⟨_,_,_,rfl,fun h=>by cases h⟩
  rw[vz3,azL]
  by_cases h:p<t.size
  ·have hb:=gzn t (p:Int)
   rw[czK,decide_eq_false (by omega),azc,bz0 (by omega) (by omega),aza]
   by_cases h1:sat t (p:Int)<128
   ·rw[bzT h1,aza,azq (by omega),bzt (by omega) (by omega) (by omega),aza]
    exact ⟨_,_,_,rfl,fun _=>⟨p+1,rfl,by omega,by omega⟩⟩
   ·rw[az0 (by omega),azc,aza]
    by_cases h2:192≤sat t (p:Int)
    ·rw[czK,decide_eq_true h2,aza]
     exact hD 192 h h2
    ·rw[czK,decide_eq_false h2,azc]
     exact hD 128 h (by omega)
  ·rw[czK,decide_eq_true (by omega),aza]
   exact ⟨_,_,_,rfl,fun h=>by cases h⟩
theorem WzD: ∀ (d:Nat) (t:ByteArray) (p:Nat) (D:Int),D=5- (d:Int)→d≤5→t.size≤1000→ ∃x n b,ezs (t,((p:Int),(D,())))=some ((x,(n,(b,()))),())∧(b=true→ ∃m:Nat,n=(m:Int)∧p<m∧m≤t.size):=by
 intro d
 induction d with
 |zero=>
  intro t p D hD hd ht
  rw[rzU,azL]
  by_cases h:p<t.size
  ·rw[czK,decide_eq_false (by omega),azc,bzU (by omega),aza]
   exact ⟨_,_,_,rfl,fun h=>by cases h⟩
  ·rw[czK,decide_eq_true (by omega),aza]
   exact ⟨_,_,_,rfl,fun h=>by cases h⟩
 |succ d ih=>
  intro t p D hD' hd ht
  have hD: ∀ (low:Nat) (lst:Bool),p<t.size→(low:Int)≤sat t (p:Int)→ ∃x n b,hzq (t,((p:Int),(D,(lst,((low:Int),(ItemT.mk false (bs []) [],()))))))=some ((x,(n,(b,()))),())∧(b=true→ ∃m:Nat,n=(m:Int)∧p<m∧m≤t.size):=by
   intro low lst hp hl
   obtain ⟨a,n,b,e,h⟩:=QzB t p low hp (by omega) hl
   rw[tzU,e,azb]
   cases b with
   |false=>exact ⟨_,_,_,rfl,fun h=>by cases h⟩
   |true=>
    obtain ⟨A,N,rfl,rfl,h1,h2⟩:=h rfl
    simp only[bnot,Bool.not_true,azc,azL]
    rw[az4 (by omega) (by omega)]
    by_cases h3:(N:Int)≤(t.size:Int)- (A:Int)
    ·rw[bzi h3,azc]
     cases lst with
     |false=>
      rw[Bool.not_false,aza,azA (by omega) (by omega),bzt (by omega) (by omega) (by omega),aza]
      exact ⟨_,_,_,rfl,fun _=>⟨A+N,by omega,by omega,by omega⟩⟩
     |true=>
      rw[Bool.not_true,azc]
      have loop: ∀ (m k:Nat) (x:ItemT),A+N≤k+m→k≤A+N→ ∃y b,fzF (t,(D,((A:Int),((N:Int),((k:Int),(ItemT.mk false (bs []) [],(x,())))))))=some ((y,(if b=true then ((A+N:Nat):Int) else 0,(b,()))),()):=by
       intro m
       induction m with
       |zero=>
        intro k x hk hk2
        rw[lzx,azA (x:=(A:Int)) (y:=(N:Int)) (by omega) (by omega),az0 (by omega),azc]
        exact ⟨_,true,rfl⟩
       |succ m ihm=>
        intro k x hk hk2
        rw[lzx,azA (x:=(A:Int)) (y:=(N:Int)) (by omega) (by omega)]
        by_cases h5:k<A+N
        ·rw[bzT (by omega),aza,bzt (by omega) (by omega) (by rw[azL];omega),aza,azA (by omega) (by omega)]
         have hz:=izF t 0 (A+N) (by omega) (by omega)
         obtain ⟨z,n,b,e2,h6⟩:=ih (ssub t ((0:Nat):Int) ((A+N:Nat):Int)) k (D+1) (by omega) (by omega) (by omega)
         rw[show (A:Int)+(N:Int)=((A+N:Nat):Int) by omega,show ssub t 0 ((A+N:Nat):Int)=ssub t ((0:Nat):Int) ((A+N:Nat):Int) from rfl,e2,azb]
         cases b with
         |false=>exact ⟨_,false,rfl⟩
         |true=>
          obtain ⟨M,rfl,h7,h8⟩:=h6 rfl
          simp only[bnot,Bool.not_true,azc]
          by_cases h9:17≤x.k.length
          ·rw[czK,decide_eq_true (by rw[azz];omega),aza]
           exact ⟨_,false,rfl⟩
          ·rw[czK,decide_eq_false (by rw[azz];omega),azc,azv (by decide) (by simp only[List.length_cons,List.length_nil];omega),aza]
           exact ihm M (ItemT.mk x.l x.s (app x.k [z])) (by omega) (by omega)
        ·rw[az0 (by omega),azc]
         exact ⟨_,true,rfl⟩
      obtain ⟨y,b,e3⟩:=loop N A (ItemT.mk true (bs []) []) (by omega) (by omega)
      refine ⟨y,_,b,e3,fun hb=>⟨A+N,?_,by omega,by omega⟩⟩
      rw[if_pos hb]
    ·rw[bzU (by omega),aza]
     exact ⟨_,_,_,rfl,fun h=>by cases h⟩
  rw[rzU,azL]
  by_cases h:p<t.size
  ·have hb:=gzn t (p:Int)
   rw[czK,decide_eq_false (by omega),azc,bzi (by omega),azc,bz0 (by omega) (by omega),aza]
   by_cases h1:sat t (p:Int)<128
   ·rw[bzT h1,aza,azq (by omega),bzt (by omega) (by omega) (by omega),aza]
    exact ⟨_,_,_,rfl,fun _=>⟨p+1,rfl,by omega,by omega⟩⟩
   ·rw[az0 (by omega),azc,aza]
    by_cases h2:192≤sat t (p:Int)
    ·rw[czK,decide_eq_true h2,aza]
     exact hD 192 _ h h2
    ·rw[czK,decide_eq_false h2,azc]
     exact hD 128 _ h (by omega)
  ·rw[czK,decide_eq_true (by omega),aza]
   exact ⟨_,_,_,rfl,fun h=>by cases h⟩
theorem rzs: ∀ (l:List ByteArray) (a:ByteArray),l.foldl scat a=scat a (l.foldl scat (bs []))
 | [],a=>by simp only[List.foldl_nil];rw[zzH]
 |y::l,a=>by
  rw[List.foldl_cons,List.foldl_cons,rzs l (scat a y),rzs l (scat (bs []) y),EzD]
  have:scat (bs []) y=y:=by unfold scat bs;apply ByteArray.ext;simp
  rw[this]
theorem zzF (low n:Nat) (hl:low≤192):0<(lenV low n).size:=by
 by_cases h:n≤55
 ·rw[yzf low n hl h,azw,azI];simp only[List.length_cons];omega
 ·rw[Ez3 low n hl h,azw,azI];simp only[List.length_cons];omega
theorem vzR: ∀ (d:Nat) (x:ItemT),0<(azs (d+1) x).size
 |d, .mk false s k=>by
  show 0<(if s.size=1∧sat s 0<128 then s else scat (lenV ((128:Nat):Int) s.size) s).size
  split
  ·omega
  ·have:=zzF 128 s.size (by omega);rw[azw];omega
 |d, .mk true s k=>by
  show 0<(scat (lenV ((192:Nat):Int) ((k.map (azs d)).foldl scat (bs [])).size) ((k.map (azs d)).foldl scat (bs []))).size
  have:=zzF 192 ((k.map (azs d)).foldl scat (bs [])).size (by omega)
  rw[azw];omega
theorem Vz0: ∀ (d:Nat) (x:ItemT),d≤4→fitV d x=true→ ∀ (t:ByteArray) (p:Nat),t.size≤900→Has t p (azs (d+1) x)→izY (t,((p:Int),((d:Int),())))=some ((x,(((p+(azs (d+1) x).size:Nat):Int),(true,()))),())
 |d, .mk false s k,hd,hf,t,p,ht,h=>by
  obtain ⟨h1,rfl⟩:=izg hf
  have e:azs (d+1) (.mk false s [])=if s.size=1∧sat s 0<128 then s else scat (lenV ((128:Nat):Int) s.size) s:=rfl
  rw[e] at h⊢
  rw[vz3,azL]
  by_cases h2:s.size=1∧sat s 0<128
  ·rw[if_pos h2] at h⊢
   have hp:=h.1
   rw[czK,decide_eq_false (by omega),azc,bz0 (by omega) (by omega),aza,h.at0 (by omega),bzT h2.2,aza,azq (by omega),bzt (by omega) (by omega) (by omega),aza]
   have hs:=h.sub
   rw[h2.1] at hs
   rw[hs,h2.1]
  ·rw[if_neg h2] at h⊢
   have hn:s.size≤900:=by omega
   obtain ⟨f1,⟨f2,f3⟩,f4⟩:=mzE (low:=128) (by omega) hn h
   have hs:=h.snd
   have hs1:=hs.1
   rw[czK,decide_eq_false (by omega),azc,bz0 (by omega) (by omega),aza,az0 (by omega),azc,aza,czK,decide_eq_false (by omega),azc]
   show hzs (t,((p:Int),((d:Int),(((128:Nat):Int),(ItemT.mk false (bs []) [],())))))=_
   rw[szi,RzU (by omega) (by omega) hn h.fst,azb]
   simp only[bnot,Bool.not_true,azc,azL]
   rw[az4 (by omega) (by omega),bzi (by omega),azc,czl,decide_eq_true (by rfl),aza,azA (by omega) (by omega),bzt (by omega) (by omega) (by omega),aza,
    show ((p+(lenV ((128:Nat):Int) s.size).size:Nat):Int)+(s.size:Int)=((p+(lenV ((128:Nat):Int) s.size).size+s.size:Nat):Int) by omega,hs.sub,azw,Nat.add_assoc]
 |d, .mk true s k,hd,hf,t,p,ht,h=>by
  obtain ⟨rfl,h2,e,rfl,h3⟩:=fzi hf
  have e':azs (e+1+1) (.mk true (bs []) k)=scat (lenV ((192:Nat):Int) ((k.map (azs (e+1))).foldl scat (bs [])).size) ((k.map (azs (e+1))).foldl scat (bs [])):=rfl
  rw[e'] at h⊢
  have hs:=h.snd
  have hs1:=hs.1
  have hn:((k.map (azs (e+1))).foldl scat (bs [])).size≤900:=by omega
  obtain ⟨f1,⟨f2,f3⟩,f4⟩:=mzE (low:=192) (by omega) hn h
  have loop: ∀ (l acc:List ItemT) (q E:Nat),(∀y∈l,fitV e y=true)→acc.length+l.length≤17→E≤t.size→Has t q ((l.map (azs (e+1))).foldl scat (bs []))→q+((l.map (azs (e+1))).foldl scat (bs [])).size=E→
   gz9 (t,(((e+1:Nat):Int),((q:Int),((E:Int),(ItemT.mk false (bs []) [],(ItemT.mk true (bs []) acc,()))))))=some ((ItemT.mk true (bs []) (acc++l),((E:Int),(true,()))),()):=by
   intro l
   induction l with
   |nil=>
    intro acc q E _ _ hE _ hq
    have h0:(bs []).size=0:=rfl
    simp only[List.map_nil,List.foldl_nil,h0] at hq
    rw[ozK,az0 (by omega),azc,List.append_nil]
   |cons y l ihl=>
    intro acc q E hy hl hE hH hq
    have eF:((y::l).map (azs (e+1))).foldl scat (bs [])=scat (azs (e+1) y) ((l.map (azs (e+1))).foldl scat (bs [])):=by
     rw[List.map_cons,List.foldl_cons,rzs]
     have:scat (bs []) (azs (e+1) y)=azs (e+1) y:=by unfold scat bs;apply ByteArray.ext;simp
     rw[this]
    rw[eF] at hH hq
    rw[azw] at hq
    have hpos:=vzR e y
    simp only[List.length_cons] at hl
    rw[ozK,bzT (by omega),aza,bzt (by omega) (by omega) (by rw[azL];omega),aza,az4 (by omega) (by omega),show ((e+1:Nat):Int)-1=(e:Int) by omega]
    have hz:=izF t 0 E (by omega) (by omega)
    have hc:=hH.fst.cut (e:=E) (by omega) hE
    rw[show ssub t 0 (E:Int)=ssub t ((0:Nat):Int) (E:Int) from rfl,Vz0 e y (by omega) (hy y (by simp)) _ q (by omega) hc,azb]
    simp only[bnot,Bool.not_true,azc]
    rw[azv (by decide) (by simp only[List.length_cons,List.length_nil];show acc.length+1≤_;omega),aza]
    show gz9 (t,(((e+1:Nat):Int),(((q+(azs (e+1) y).size:Nat):Int),((E:Int),(ItemT.mk false (bs []) [],(ItemT.mk true (bs []) (acc++[y]),()))))))=_
    rw[ihl (acc++[y]) (q+(azs (e+1) y).size) E (fun z hz=>hy z (by simp [hz])) (by simp only[List.length_append,List.length_cons,List.length_nil];omega) hE hH.snd (by omega),List.append_assoc]
    rfl
  rw[vz3,azL]
  rw[czK,decide_eq_false (by omega),azc,bz0 (by omega) (by omega),aza,az0 (by omega),azc,aza,czK,decide_eq_true (by omega),aza]
  show hzs (t,((p:Int),(((e+1:Nat):Int),(((192:Nat):Int),(ItemT.mk false (bs []) [],())))))=_
  rw[szi,RzU (by omega) (by omega) hn h.fst,azb]
  simp only[bnot,Bool.not_true,azc,azL]
  rw[az4 (by omega) (by omega),bzi (by omega),azc,czl,decide_eq_false (by decide),azc,czl,decide_eq_false (by omega),azc,azA (by omega) (by omega),
   show ((p+(lenV ((192:Nat):Int) ((k.map (azs (e+1))).foldl scat (bs [])).size).size:Nat):Int)+(((k.map (azs (e+1))).foldl scat (bs [])).size:Int)=((p+(lenV ((192:Nat):Int) ((k.map (azs (e+1))).foldl scat (bs [])).size).size+((k.map (azs (e+1))).foldl scat (bs [])).size:Nat):Int) by omega,
   loop k [] _ _ h3 (by simp only[List.length_nil];omega) hs1 hs rfl,List.nil_append,azw,Nat.add_assoc]
theorem Vzx: ∀ (d:Nat) (x:ItemT) (D:Int),D=4- (d:Int)→d≤4→fitV d x=true→ ∀ (t:ByteArray) (p:Nat),t.size≤900→Has t p (azs (d+1) x)→ezs (t,((p:Int),(D,())))=some ((x,(((p+(azs (d+1) x).size:Nat):Int),(true,()))),())
 |d, .mk false s k,D,hD,hd,hf,t,p,ht,h=>by
  obtain ⟨h1,rfl⟩:=izg hf
  have e:azs (d+1) (.mk false s [])=if s.size=1∧sat s 0<128 then s else scat (lenV ((128:Nat):Int) s.size) s:=rfl
  rw[e] at h⊢
  rw[rzU,azL]
  by_cases h2:s.size=1∧sat s 0<128
  ·rw[if_pos h2] at h⊢
   have hp:=h.1
   rw[czK,decide_eq_false (by omega),azc,bzi (by omega),azc,bz0 (by omega) (by omega),aza,h.at0 (by omega),bzT h2.2,aza,azq (by omega),bzt (by omega) (by omega) (by omega),aza]
   have hs:=h.sub
   rw[h2.1] at hs
   rw[hs,h2.1]
  ·rw[if_neg h2] at h⊢
   have hn:s.size≤900:=by omega
   obtain ⟨f1,⟨f2,f3⟩,f4⟩:=mzE (low:=128) (by omega) hn h
   have hs:=h.snd
   have hs1:=hs.1
   rw[czK,decide_eq_false (by omega),azc,bzi (by omega),azc,bz0 (by omega) (by omega),aza,az0 (by omega),azc,aza,czK,decide_eq_false (by omega),azc]
   show hzq (t,((p:Int),(D,(false,(((128:Nat):Int),(ItemT.mk false (bs []) [],()))))))=_
   rw[tzU,Mz2 (by omega) (by omega) hn h.fst,azb]
   simp only[bnot,Bool.not_true,Bool.not_false,azc,aza,azL]
   rw[az4 (by omega) (by omega),bzi (by omega),azc,azA (by omega) (by omega),bzt (by omega) (by omega) (by omega),aza,
    show ((p+(lenV ((128:Nat):Int) s.size).size:Nat):Int)+(s.size:Int)=((p+(lenV ((128:Nat):Int) s.size).size+s.size:Nat):Int) by omega,hs.sub,azw,Nat.add_assoc]
 |d, .mk true s k,D,hD,hd,hf,t,p,ht,h=>by
  obtain ⟨rfl,h2,e,rfl,h3⟩:=fzi hf
  have e':azs (e+1+1) (.mk true (bs []) k)=scat (lenV ((192:Nat):Int) ((k.map (azs (e+1))).foldl scat (bs [])).size) ((k.map (azs (e+1))).foldl scat (bs [])):=rfl
  rw[e'] at h⊢
  have hs:=h.snd
  have hs1:=hs.1
  have hn:((k.map (azs (e+1))).foldl scat (bs [])).size≤900:=by omega
  obtain ⟨f1,⟨f2,f3⟩,f4⟩:=mzE (low:=192) (by omega) hn h
  have loop: ∀ (l acc:List ItemT) (q A N:Nat),(∀y∈l,fitV e y=true)→acc.length+l.length≤17→A+N≤t.size→Has t q ((l.map (azs (e+1))).foldl scat (bs []))→q+((l.map (azs (e+1))).foldl scat (bs [])).size=A+N→
   fzF (t,(D,((A:Int),((N:Int),((q:Int),(ItemT.mk false (bs []) [],(ItemT.mk true (bs []) acc,())))))))=some ((ItemT.mk true (bs []) (acc++l),(((A+N:Nat):Int),(true,()))),()):=by
   intro l
   induction l with
   |nil=>
    intro acc q A N _ _ hE _ hq
    have h0:(bs []).size=0:=rfl
    simp only[List.map_nil,List.foldl_nil,h0] at hq
    rw[lzx,azA (x:=(A:Int)) (y:=(N:Int)) (by omega) (by omega),az0 (by omega),azc,List.append_nil]
    rfl
   |cons y l ihl=>
    intro acc q A N hy hl hE hH hq
    have eF:((y::l).map (azs (e+1))).foldl scat (bs [])=scat (azs (e+1) y) ((l.map (azs (e+1))).foldl scat (bs [])):=by
     rw[List.map_cons,List.foldl_cons,rzs]
     have:scat (bs []) (azs (e+1) y)=azs (e+1) y:=by unfold scat bs;apply ByteArray.ext;simp
     rw[this]
    rw[eF] at hH hq
    rw[azw] at hq
    have hpos:=vzR e y
    simp only[List.length_cons] at hl
    rw[lzx,azA (x:=(A:Int)) (y:=(N:Int)) (by omega) (by omega),bzT (by omega),aza,bzt (by omega) (by omega) (by rw[azL];omega),aza,azA (by omega) (by omega)]
    have hz:=izF t 0 (A+N) (by omega) (by omega)
    have hc:=hH.fst.cut (e:=A+N) (by omega) hE
    rw[show (A:Int)+(N:Int)=((A+N:Nat):Int) by omega,show ssub t 0 ((A+N:Nat):Int)=ssub t ((0:Nat):Int) ((A+N:Nat):Int) from rfl,Vzx e y (D+1) (by omega) (by omega) (hy y (by simp)) _ q (by omega) hc,azb]
    simp only[bnot,Bool.not_true,azc]
    rw[czK,decide_eq_false (by rw[azz];show¬((17:Int)≤(acc.length:Int));omega),azc,azv (by decide) (by simp only[List.length_cons,List.length_nil];show acc.length+1≤_;omega),aza]
    show fzF (t,(D,((A:Int),((N:Int),(((q+(azs (e+1) y).size:Nat):Int),(ItemT.mk false (bs []) [],(ItemT.mk true (bs []) (acc++[y]),())))))))=_
    rw[ihl (acc++[y]) (q+(azs (e+1) y).size) A N (fun z hz=>hy z (by simp [hz])) (by simp only[List.length_append,List.length_cons,List.length_nil];omega) hE hH.snd (by omega),List.append_assoc]
    rfl
  rw[rzU,azL]
  rw[czK,decide_eq_false (by omega),azc,bzi (by omega),azc,bz0 (by omega) (by omega),aza,az0 (by omega),azc,aza,czK,decide_eq_true (by omega),aza]
  show hzq (t,((p:Int),(D,(true,(((192:Nat):Int),(ItemT.mk false (bs []) [],()))))))=_
  rw[tzU,Mz2 (by omega) (by omega) hn h.fst,azb]
  simp only[bnot,Bool.not_true,azc,azL]
  rw[az4 (by omega) (by omega),bzi (by omega),azc,
   loop k [] _ _ _ h3 (by simp only[List.length_nil];omega) hs1 hs rfl,List.nil_append,azw,Nat.add_assoc]
theorem kzo {x:ItemT} {t:ByteArray} (h:bzu x=(t,true)):fitV 4 x=true∧azs 5 x=t∧t.size≤900:=by
 unfold bzu at h
 split at h
 ·rename_i h1
  have:=congrArg Prod.fst h
  simp only at this
  exact ⟨h1.1,this,by rw[←this];exact h1.2⟩
 ·cases h
theorem SzY {x:ItemT} {t:ByteArray} (h:bzu x=(t,true)):izY (t,((0:Int),((4:Int),())))=some ((x,((t.size:Int),(true,()))),()):=by
 obtain ⟨h1,h2,h3⟩:=kzo h
 have:=Vz0 4 x (by omega) h1 t 0 h3 (by rw[h2];exact Has.self t)
 rw[h2,Nat.zero_add] at this
 exact this
theorem sRd_of {x:ItemT} {t:ByteArray} (h:bzu x=(t,true)):ezs (t,((0:Int),((0:Int),())))=some ((x,((t.size:Int),(true,()))),()):=by
 obtain ⟨h1,h2,h3⟩:=kzo h
 have:=Vzx 4 x 0 (by omega) (by omega) h1 t 0 h3 (by rw[h2];exact Has.self t)
 rw[h2,Nat.zero_add] at this
 exact this
open Classical in
noncomputable def vzg (t:ByteArray):ItemT×Bool:=if h: ∃x,bzu x=(t,true) then (Classical.choose h,true) else (.mk false (bs []) [],false)
theorem Azh {x:ItemT} {t:ByteArray} (h:bzu x=(t,true)):vzg t=(x,true):=by
 have h': ∃x,bzu x=(t,true):=⟨x,h⟩
 unfold vzg
 rw[dif_pos h']
 have e1:=SzY (Classical.choose_spec h')
 rw[SzY h] at e1
 have:=congrArg (fun o=>o.map fun r=>r.1.1) e1
 simp only[Option.map_some,Option.some.injEq] at this
 rw[this]
theorem AzY {t:ByteArray} (h: ¬ ∃x,bzu x=(t,true)):vzg t=(.mk false (bs []) [],false):=by
 unfold vzg
 rw[dif_neg h]
theorem BzD {t:ByteArray} (h:(vzg t).2=true):bzu (vzg t).1=(t,true):=by
 by_cases h1: ∃x,bzu x=(t,true)
 ·obtain ⟨x,hx⟩:=h1
  rw[Azh hx];exact hx
 ·rw[AzY h1] at h;cases h
theorem NzP (t:ByteArray):kz5 (t,())=some (((vzg t).1,((vzg t).2,())),()):=by
 rw[Lzp,azL]
 by_cases hz:t.size≤900
 ·rw[bzi (by omega),azc]
  by_cases h: ∃x,bzu x=(t,true)
  ·obtain ⟨x,hx⟩:=h
   rw[SzY hx,azb,Azh hx]
   simp only[bnot,Bool.not_true,azc]
   rw[dzb,decide_eq_true (by rfl),Bool.not_true,azc,fzn,hx,azb]
   simp only[Bool.not_true,azc]
   rw[szz,decide_eq_true (by rfl),Bool.not_true,azc]
  ·rw[AzY h]
   obtain ⟨x,n,b,e,_⟩:=WzO 4 t 0 (by omega) (by omega)
   rw[show izY (t,((0:Int),((4:Int),())))=some ((x,(n,(b,()))),()) from e,azb]
   cases b with
   |false=>rfl
   |true=>
    simp only[bnot,Bool.not_true,azc]
    by_cases h2:n=(t.size:Int)
    ·rw[dzb,decide_eq_true h2,Bool.not_true,azc,fzn,azb]
     simp only[]
     cases h3:(bzu x).2 with
     |false=>rfl
     |true=>
      simp only[Bool.not_true,azc]
      by_cases h4:(bzu x).1=t
      ·exact absurd ⟨x,Prod.ext h4 h3⟩ h
      ·rw[szz,decide_eq_false h4,Bool.not_false,aza]
    ·rw[dzb,decide_eq_false h2,Bool.not_false,aza]
 ·rw[bzU (by omega),aza,AzY]
  exact fun ⟨x,hx⟩=>hz (kzo hx).2.2
theorem Nzi (t:ByteArray):kzz (t,())=some (((vzg t).1,((vzg t).2,())),()):=by
 rw[LzK,azL]
 by_cases hz:t.size≤900
 ·rw[bzi (by omega),azc]
  by_cases h: ∃x,bzu x=(t,true)
  ·obtain ⟨x,hx⟩:=h
   rw[show ezs (t,zTwo)=_ from sRd_of hx,azb,Azh hx]
   simp only[]
   rw[fzs,hx,azb]
   simp only[bnot,Bool.not_true,azc]
   rw[dzb,decide_eq_true (by rfl),Bool.not_true,azc]
   rw[szz,decide_eq_true (by rfl),Bool.not_true,azc]
  ·rw[AzY h]
   obtain ⟨x,n,b,e,_⟩:=WzD 5 t 0 0 (by omega) (by omega) (by omega)
   rw[show ezs (t,zTwo)=some ((x,(n,(b,()))),()) from e,azb]
   simp only[]
   rw[fzs,azb]
   cases b with
   |false=>rfl
   |true=>
    simp only[bnot,Bool.not_true,azc]
    by_cases h2:n=(t.size:Int)
    ·rw[dzb,decide_eq_true h2,Bool.not_true,azc]
     cases h3:(bzu x).2 with
     |false=>rfl
     |true=>
      simp only[Bool.not_true,azc]
      by_cases h4:(bzu x).1=t
      ·exact absurd ⟨x,Prod.ext h4 h3⟩ h
      ·rw[szz,decide_eq_false h4,Bool.not_false,aza]
    ·rw[dzb,decide_eq_false h2,Bool.not_false,aza]
 ·rw[bzU (by omega),aza,AzY]
  exact fun ⟨x,hx⟩=>hz (kzo hx).2.2
end Go.Proofs.YthldgfkkgmpmlaaGreatDoor
