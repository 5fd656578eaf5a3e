/- Items that are read. Of no condition. -/
import Derived.Test.YtdfbhjpmdjmdaaaGreatDoorTI
set_option linter.unusedVariables false
set_option linter.unusedSimpArgs false
set_option maxRecDepth 100000
namespace Go.Proofs.YtdfbhjpmdjmdaaaGreatDoor
open Go.TV
theorem Qz1: ∀ (d:Nat) (t:ByteArray) (p:Nat),d≤100→t.size≤1000→ ∃x n b,hz3 (t,((p:Int),((d:Int),())))=some ((x,(n,(b,()))),())∧(b=true→ ∃m:Nat,n=(m:Int)∧p<m∧m≤t.size):=by
 intro d
 induction d with
 |zero=>
  intro t p hd ht
  have hD: ∀low:Nat,p<t.size→(low:Int)≤sat t (p:Int)→ ∃x n b,gzy (t,((p:Int),(((0:Nat):Int),((low:Int),(ItemT.mk false (bs []) [],())))))=some ((x,(n,(b,()))),())∧(b=true→ ∃m:Nat,n=(m:Int)∧p<m∧m≤t.size):=by
   intro low hp hl
   obtain ⟨a,n,b,e,h⟩:=GzV t p low hp (by omega) hl
   rw[oz9,e,azd]
   cases b with
   |false=>exact ⟨_,_,_,rfl,fun h=>by cases h⟩
   |true=>
    obtain ⟨A,N,rfl,rfl,h1,h2⟩:=h rfl
    simp only[bnot,Bool.not_true,azc,azN]
    rw[bzi (by omega) (by omega)]
    by_cases h3:(N:Int)≤(t.size:Int)- (A:Int)
    ·rw[bzy h3,azc,azH (by omega) (by omega)]
     by_cases h4:(low:Int)=128
     ·rw[czd,decide_eq_true h4,aza,bzu (by omega) (by omega) (by omega),aza]
      exact ⟨_,_,_,rfl,fun _=>⟨A+N,by omega,by omega,by omega⟩⟩
     ·rw[czd,decide_eq_false h4,azc,czd,decide_eq_true (by rfl),aza]
      exact ⟨_,_,_,rfl,fun h=>by cases h⟩
    ·rw[cze (by omega),aza]
     exact ⟨_,_,_,rfl,fun h=>by cases h⟩
  rw[szu,azN]
  by_cases h:p<t.size
  ·have hb:=fzS t (p:Int)
   rw[czX,decide_eq_false (by omega),azc,bzI (by omega) (by omega),aza]
   by_cases h1:sat t (p:Int)<128
   ·rw[bzW h1,aza,azq (by omega),bzu (by omega) (by omega) (by omega),aza]
    exact ⟨_,_,_,rfl,fun _=>⟨p+1,rfl,by omega,by omega⟩⟩
   ·rw[az7 (by omega),azc,aza]
    by_cases h2:192≤sat t (p:Int)
    ·rw[czX,decide_eq_true h2,aza]
     exact hD 192 h h2
    ·rw[czX,decide_eq_false h2,azc]
     exact hD 128 h (by omega)
  ·rw[czX,decide_eq_true (by omega),aza]
   exact ⟨_,_,_,rfl,fun h=>by cases h⟩
 |succ d ih=>
  intro t p hd ht
  have hD: ∀low:Nat,p<t.size→(low:Int)≤sat t (p:Int)→ ∃x n b,gzy (t,((p:Int),(((d+1:Nat):Int),((low:Int),(ItemT.mk false (bs []) [],())))))=some ((x,(n,(b,()))),())∧(b=true→ ∃m:Nat,n=(m:Int)∧p<m∧m≤t.size):=by
   intro low hp hl
   obtain ⟨a,n,b,e,h⟩:=GzV t p low hp (by omega) hl
   rw[oz9,e,azd]
   cases b with
   |false=>exact ⟨_,_,_,rfl,fun h=>by cases h⟩
   |true=>
    obtain ⟨A,N,rfl,rfl,h1,h2⟩:=h rfl
    simp only[bnot,Bool.not_true,azc,azN]
    rw[bzi (by omega) (by omega)]
    by_cases h3:(N:Int)≤(t.size:Int)- (A:Int)
    ·rw[bzy h3,azc,azH (by omega) (by omega)]
     by_cases h4:(low:Int)=128
     ·rw[czd,decide_eq_true h4,aza,bzu (by omega) (by omega) (by omega),aza]
      exact ⟨_,_,_,rfl,fun _=>⟨A+N,by omega,by omega,by omega⟩⟩
     ·rw[czd,decide_eq_false h4,azc,czd,decide_eq_false (by omega),azc,show (A:Int)+(N:Int)=((A+N:Nat):Int) by omega]
      have loop: ∀ (m k:Nat) (x:ItemT),A+N≤k+m→k≤A+N→x.k.length≤k→ ∃y b,gz6 (t,(((d+1:Nat):Int),((k:Int),(((A+N:Nat):Int),(ItemT.mk false (bs []) [],(x,()))))))=some ((y,(if b=true then ((A+N:Nat):Int) else 0,(b,()))),()):=by
       intro m
       induction m with
       |zero=>
        intro k x hk hk2 hx
        rw[mzI,az7 (by omega),azc]
        exact ⟨_,true,rfl⟩
       |succ m ihm=>
        intro k x hk hk2 hx
        rw[mzI]
        by_cases h5:k<A+N
        ·rw[bzW (by omega),aza,bzu (by omega) (by omega) (by rw[azN];omega),aza,bzi (by omega) (by omega),show ((d+1:Nat):Int)-1=(d:Int) by omega]
         have hz:=hzH t 0 (A+N) (by omega) (by omega)
         obtain ⟨z,n,b,e2,h6⟩:=ih (ssub t ((0:Nat):Int) ((A+N:Nat):Int)) k (by omega) (by omega)
         rw[show ssub t 0 ((A+N:Nat):Int)=ssub t ((0:Nat):Int) ((A+N:Nat):Int) from rfl,e2,azd]
         cases b with
         |false=>exact ⟨_,false,rfl⟩
         |true=>
          obtain ⟨M,rfl,h7,h8⟩:=h6 rfl
          simp only[bnot,Bool.not_true,azc]
          rw[azv (by decide) (by simp only[List.length_cons,List.length_nil];omega),aza]
          exact ihm M (ItemT.mk x.l x.s (app x.k [z])) (by omega) (by omega) (by show (x.k++[z]).length≤M;simp only[List.length_append,List.length_cons,List.length_nil];omega)
        ·rw[az7 (by omega),azc]
         exact ⟨_,true,rfl⟩
      obtain ⟨y,b,e3⟩:=loop N A (ItemT.mk true (bs []) []) (by omega) (by omega) (by show 0≤A;omega)
      refine ⟨y,_,b,e3,fun hb=>⟨A+N,?_,by omega,by omega⟩⟩
      rw[if_pos hb]
    ·rw[cze (by omega),aza]
     exact ⟨_,_,_,rfl,fun h=>by cases h⟩
  rw[szu,azN]
  by_cases h:p<t.size
  ·have hb:=fzS t (p:Int)
   rw[czX,decide_eq_false (by omega),azc,bzI (by omega) (by omega),aza]
   by_cases h1:sat t (p:Int)<128
   ·rw[bzW h1,aza,azq (by omega),bzu (by omega) (by omega) (by omega),aza]
    exact ⟨_,_,_,rfl,fun _=>⟨p+1,rfl,by omega,by omega⟩⟩
   ·rw[az7 (by omega),azc,aza]
    by_cases h2:192≤sat t (p:Int)
    ·rw[czX,decide_eq_true h2,aza]
     exact hD 192 h h2
    ·rw[czX,decide_eq_false h2,azc]
     exact hD 128 h (by omega)
  ·rw[czX,decide_eq_true (by omega),aza]
   exact ⟨_,_,_,rfl,fun h=>by cases h⟩
theorem QzV: ∀ (d:Nat) (t:ByteArray) (p:Nat) (D:Int),D=5- (d:Int)→d≤5→t.size≤1000→ ∃x n b,ezk (t,((p:Int),(D,())))=some ((x,(n,(b,()))),())∧(b=true→ ∃m:Nat,n=(m:Int)∧p<m∧m≤t.size):=by
 intro d
 induction d with
 |zero=>
  intro t p D hD hd ht
  rw[pzP,azN]
  by_cases h:p<t.size
  ·rw[czX,decide_eq_false (by omega),azc,cze (by omega),aza]
   exact ⟨_,_,_,rfl,fun h=>by cases h⟩
  ·rw[czX,decide_eq_true (by omega),aza]
   exact ⟨_,_,_,rfl,fun h=>by cases h⟩
 |succ d ih=>
  intro t p D hD' hd ht
  have hD: ∀ (low:Nat) (lst:Bool),p<t.size→(low:Int)≤sat t (p:Int)→ ∃x n b,gzr (t,((p:Int),(D,(lst,((low:Int),(ItemT.mk false (bs []) [],()))))))=some ((x,(n,(b,()))),())∧(b=true→ ∃m:Nat,n=(m:Int)∧p<m∧m≤t.size):=by
   intro low lst hp hl
   obtain ⟨a,n,b,e,h⟩:=Mz9 t p low hp (by omega) hl
   rw[rzv,e,azd]
   cases b with
   |false=>exact ⟨_,_,_,rfl,fun h=>by cases h⟩
   |true=>
    obtain ⟨A,N,rfl,rfl,h1,h2⟩:=h rfl
    simp only[bnot,Bool.not_true,azc,azN]
    rw[bzi (by omega) (by omega)]
    by_cases h3:(N:Int)≤(t.size:Int)- (A:Int)
    ·rw[bzy h3,azc]
     cases lst with
     |false=>
      rw[Bool.not_false,aza,azH (by omega) (by omega),bzu (by omega) (by omega) (by omega),aza]
      exact ⟨_,_,_,rfl,fun _=>⟨A+N,by omega,by omega,by omega⟩⟩
     |true=>
      rw[Bool.not_true,azc]
      have loop: ∀ (m k:Nat) (x:ItemT),A+N≤k+m→k≤A+N→ ∃y b,fzx (t,(D,((A:Int),((N:Int),((k:Int),(ItemT.mk false (bs []) [],(x,())))))))=some ((y,(if b=true then ((A+N:Nat):Int) else 0,(b,()))),()):=by
       intro m
       induction m with
       |zero=>
        intro k x hk hk2
        rw[kzT,azH (x:=(A:Int)) (y:=(N:Int)) (by omega) (by omega),az7 (by omega),azc]
        exact ⟨_,true,rfl⟩
       |succ m ihm=>
        intro k x hk hk2
        rw[kzT,azH (x:=(A:Int)) (y:=(N:Int)) (by omega) (by omega)]
        by_cases h5:k<A+N
        ·rw[bzW (by omega),aza,bzu (by omega) (by omega) (by rw[azN];omega),aza,azH (by omega) (by omega)]
         have hz:=hzH t 0 (A+N) (by omega) (by omega)
         obtain ⟨z,n,b,e2,h6⟩:=ih (ssub t ((0:Nat):Int) ((A+N:Nat):Int)) k (D+1) (by omega) (by omega) (by omega)
         rw[show (A:Int)+(N:Int)=((A+N:Nat):Int) by omega,show ssub t 0 ((A+N:Nat):Int)=ssub t ((0:Nat):Int) ((A+N:Nat):Int) from rfl,e2,azd]
         cases b with
         |false=>exact ⟨_,false,rfl⟩
         |true=>
          obtain ⟨M,rfl,h7,h8⟩:=h6 rfl
          simp only[bnot,Bool.not_true,azc]
          by_cases h9:17≤x.k.length
          ·rw[czX,decide_eq_true (by rw[azA];omega),aza]
           exact ⟨_,false,rfl⟩
          ·rw[czX,decide_eq_false (by rw[azA];omega),azc,azv (by decide) (by simp only[List.length_cons,List.length_nil];omega),aza]
           exact ihm M (ItemT.mk x.l x.s (app x.k [z])) (by omega) (by omega)
        ·rw[az7 (by omega),azc]
         exact ⟨_,true,rfl⟩
      obtain ⟨y,b,e3⟩:=loop N A (ItemT.mk true (bs []) []) (by omega) (by omega)
      refine ⟨y,_,b,e3,fun hb=>⟨A+N,?_,by omega,by omega⟩⟩
      rw[if_pos hb]
    ·rw[cze (by omega),aza]
     exact ⟨_,_,_,rfl,fun h=>by cases h⟩
  rw[pzP,azN]
  by_cases h:p<t.size
  ·have hb:=fzS t (p:Int)
   rw[czX,decide_eq_false (by omega),azc,bzy (by omega),azc,bzI (by omega) (by omega),aza]
   by_cases h1:sat t (p:Int)<128
   ·rw[bzW h1,aza,azq (by omega),bzu (by omega) (by omega) (by omega),aza]
    exact ⟨_,_,_,rfl,fun _=>⟨p+1,rfl,by omega,by omega⟩⟩
   ·rw[az7 (by omega),azc,aza]
    by_cases h2:192≤sat t (p:Int)
    ·rw[czX,decide_eq_true h2,aza]
     exact hD 192 _ h h2
    ·rw[czX,decide_eq_false h2,azc]
     exact hD 128 _ h (by omega)
  ·rw[czX,decide_eq_true (by omega),aza]
   exact ⟨_,_,_,rfl,fun h=>by cases h⟩
theorem pzK: ∀ (l:List ByteArray) (a:ByteArray),l.foldl scat a=scat a (l.foldl scat (bs []))
 | [],a=>by simp only[List.foldl_nil];rw[vz4]
 |y::l,a=>by
  rw[List.foldl_cons,List.foldl_cons,pzK l (scat a y),pzK l (scat (bs []) y),zzE]
  have:scat (bs []) y=y:=by unfold scat bs;apply ByteArray.ext;simp
  rw[this]
theorem vzY (low n:Nat) (hl:low≤192):0<(lenV low n).size:=by
 by_cases h:n≤55
 ·rw[qzn low n hl h,azu,azK];simp only[List.length_cons];omega
 ·rw[Azr low n hl h,azu,azK];simp only[List.length_cons];omega
theorem ozU: ∀ (d:Nat) (x:ItemT),0<(azt (d+1) x).size
 |d, .mk false s k=>by
  show 0<(if s.size=1∧sat s 0<128 then s else scat (lenV ((128:Nat):Int) s.size) s).size
  split
  ·omega
  ·have:=vzY 128 s.size (by omega);rw[azu];omega
 |d, .mk true s k=>by
  show 0<(scat (lenV ((192:Nat):Int) ((k.map (azt d)).foldl scat (bs [])).size) ((k.map (azt d)).foldl scat (bs []))).size
  have:=vzY 192 ((k.map (azt d)).foldl scat (bs [])).size (by omega)
  rw[azu];omega
theorem PzO: ∀ (d:Nat) (x:ItemT),d≤4→fitV d x=true→ ∀ (t:ByteArray) (p:Nat),t.size≤900→Has t p (azt (d+1) x)→hz3 (t,((p:Int),((d:Int),())))=some ((x,(((p+(azt (d+1) x).size:Nat):Int),(true,()))),())
 |d, .mk false s k,hd,hf,t,p,ht,h=>by
  obtain ⟨h1,rfl⟩:=hzy hf
  have e:azt (d+1) (.mk false s [])=if s.size=1∧sat s 0<128 then s else scat (lenV ((128:Nat):Int) s.size) s:=rfl
  rw[e] at h⊢
  rw[szu,azN]
  by_cases h2:s.size=1∧sat s 0<128
  ·rw[if_pos h2] at h⊢
   have hp:=h.1
   rw[czX,decide_eq_false (by omega),azc,bzI (by omega) (by omega),aza,h.at0 (by omega),bzW h2.2,aza,azq (by omega),bzu (by omega) (by omega) (by omega),aza]
   have hs:=h.sub
   rw[h2.1] at hs
   rw[hs,h2.1]
  ·rw[if_neg h2] at h⊢
   have hn:s.size≤900:=by omega
   obtain ⟨f1,⟨f2,f3⟩,f4⟩:=lzC (low:=128) (by omega) hn h
   have hs:=h.snd
   have hs1:=hs.1
   rw[czX,decide_eq_false (by omega),azc,bzI (by omega) (by omega),aza,az7 (by omega),azc,aza,czX,decide_eq_false (by omega),azc]
   show gzy (t,((p:Int),((d:Int),(((128:Nat):Int),(ItemT.mk false (bs []) [],())))))=_
   rw[oz9,Kzw (by omega) (by omega) hn h.fst,azd]
   simp only[bnot,Bool.not_true,azc,azN]
   rw[bzi (by omega) (by omega),bzy (by omega),azc,czd,decide_eq_true (by rfl),aza,azH (by omega) (by omega),bzu (by omega) (by omega) (by omega),aza,
    show ((p+(lenV ((128:Nat):Int) s.size).size:Nat):Int)+(s.size:Int)=((p+(lenV ((128:Nat):Int) s.size).size+s.size:Nat):Int) by omega,hs.sub,azu,Nat.add_assoc]
 |d, .mk true s k,hd,hf,t,p,ht,h=>by
  obtain ⟨rfl,h2,e,rfl,h3⟩:=ezR hf
  have e':azt (e+1+1) (.mk true (bs []) k)=scat (lenV ((192:Nat):Int) ((k.map (azt (e+1))).foldl scat (bs [])).size) ((k.map (azt (e+1))).foldl scat (bs [])):=rfl
  rw[e'] at h⊢
  have hs:=h.snd
  have hs1:=hs.1
  have hn:((k.map (azt (e+1))).foldl scat (bs [])).size≤900:=by omega
  obtain ⟨f1,⟨f2,f3⟩,f4⟩:=lzC (low:=192) (by omega) hn h
  have loop: ∀ (l acc:List ItemT) (q E:Nat),(∀y∈l,fitV e y=true)→acc.length+l.length≤17→E≤t.size→Has t q ((l.map (azt (e+1))).foldl scat (bs []))→q+((l.map (azt (e+1))).foldl scat (bs [])).size=E→
   gz6 (t,(((e+1:Nat):Int),((q:Int),((E:Int),(ItemT.mk false (bs []) [],(ItemT.mk true (bs []) acc,()))))))=some ((ItemT.mk true (bs []) (acc++l),((E:Int),(true,()))),()):=by
   intro l
   induction l with
   |nil=>
    intro acc q E _ _ hE _ hq
    have h0:(bs []).size=0:=rfl
    simp only[List.map_nil,List.foldl_nil,h0] at hq
    rw[mzI,az7 (by omega),azc,List.append_nil]
   |cons y l ihl=>
    intro acc q E hy hl hE hH hq
    have eF:((y::l).map (azt (e+1))).foldl scat (bs [])=scat (azt (e+1) y) ((l.map (azt (e+1))).foldl scat (bs [])):=by
     rw[List.map_cons,List.foldl_cons,pzK]
     have:scat (bs []) (azt (e+1) y)=azt (e+1) y:=by unfold scat bs;apply ByteArray.ext;simp
     rw[this]
    rw[eF] at hH hq
    rw[azu] at hq
    have hpos:=ozU e y
    simp only[List.length_cons] at hl
    rw[mzI,bzW (by omega),aza,bzu (by omega) (by omega) (by rw[azN];omega),aza,bzi (by omega) (by omega),show ((e+1:Nat):Int)-1=(e:Int) by omega]
    have hz:=hzH t 0 E (by omega) (by omega)
    have hc:=hH.fst.cut (e:=E) (by omega) hE
    rw[show ssub t 0 (E:Int)=ssub t ((0:Nat):Int) (E:Int) from rfl,PzO e y (by omega) (hy y (by simp)) _ q (by omega) hc,azd]
    simp only[bnot,Bool.not_true,azc]
    rw[azv (by decide) (by simp only[List.length_cons,List.length_nil];show acc.length+1≤_;omega),aza]
    show gz6 (t,(((e+1:Nat):Int),(((q+(azt (e+1) y).size:Nat):Int),((E:Int),(ItemT.mk false (bs []) [],(ItemT.mk true (bs []) (acc++[y]),()))))))=_
    rw[ihl (acc++[y]) (q+(azt (e+1) y).size) E (fun z hz=>hy z (by simp [hz])) (by simp only[List.length_append,List.length_cons,List.length_nil];omega) hE hH.snd (by omega),List.append_assoc]
    rfl
  rw[szu,azN]
  rw[czX,decide_eq_false (by omega),azc,bzI (by omega) (by omega),aza,az7 (by omega),azc,aza,czX,decide_eq_true (by omega),aza]
  show gzy (t,((p:Int),(((e+1:Nat):Int),(((192:Nat):Int),(ItemT.mk false (bs []) [],())))))=_
  rw[oz9,Kzw (by omega) (by omega) hn h.fst,azd]
  simp only[bnot,Bool.not_true,azc,azN]
  rw[bzi (by omega) (by omega),bzy (by omega),azc,czd,decide_eq_false (by decide),azc,czd,decide_eq_false (by omega),azc,azH (by omega) (by omega),
   show ((p+(lenV ((192:Nat):Int) ((k.map (azt (e+1))).foldl scat (bs [])).size).size:Nat):Int)+(((k.map (azt (e+1))).foldl scat (bs [])).size:Int)=((p+(lenV ((192:Nat):Int) ((k.map (azt (e+1))).foldl scat (bs [])).size).size+((k.map (azt (e+1))).foldl scat (bs [])).size:Nat):Int) by omega,
   loop k [] _ _ h3 (by simp only[List.length_nil];omega) hs1 hs rfl,List.nil_append,azu,Nat.add_assoc]
theorem PzX: ∀ (d:Nat) (x:ItemT) (D:Int),D=4- (d:Int)→d≤4→fitV d x=true→ ∀ (t:ByteArray) (p:Nat),t.size≤900→Has t p (azt (d+1) x)→ezk (t,((p:Int),(D,())))=some ((x,(((p+(azt (d+1) x).size:Nat):Int),(true,()))),())
 |d, .mk false s k,D,hD,hd,hf,t,p,ht,h=>by
  obtain ⟨h1,rfl⟩:=hzy hf
  have e:azt (d+1) (.mk false s [])=if s.size=1∧sat s 0<128 then s else scat (lenV ((128:Nat):Int) s.size) s:=rfl
  rw[e] at h⊢
  rw[pzP,azN]
  by_cases h2:s.size=1∧sat s 0<128
  ·rw[if_pos h2] at h⊢
   have hp:=h.1
   rw[czX,decide_eq_false (by omega),azc,bzy (by omega),azc,bzI (by omega) (by omega),aza,h.at0 (by omega),bzW h2.2,aza,azq (by omega),bzu (by omega) (by omega) (by omega),aza]
   have hs:=h.sub
   rw[h2.1] at hs
   rw[hs,h2.1]
  ·rw[if_neg h2] at h⊢
   have hn:s.size≤900:=by omega
   obtain ⟨f1,⟨f2,f3⟩,f4⟩:=lzC (low:=128) (by omega) hn h
   have hs:=h.snd
   have hs1:=hs.1
   rw[czX,decide_eq_false (by omega),azc,bzy (by omega),azc,bzI (by omega) (by omega),aza,az7 (by omega),azc,aza,czX,decide_eq_false (by omega),azc]
   show gzr (t,((p:Int),(D,(false,(((128:Nat):Int),(ItemT.mk false (bs []) [],()))))))=_
   rw[rzv,GzR (by omega) (by omega) hn h.fst,azd]
   simp only[bnot,Bool.not_true,Bool.not_false,azc,aza,azN]
   rw[bzi (by omega) (by omega),bzy (by omega),azc,azH (by omega) (by omega),bzu (by omega) (by omega) (by omega),aza,
    show ((p+(lenV ((128:Nat):Int) s.size).size:Nat):Int)+(s.size:Int)=((p+(lenV ((128:Nat):Int) s.size).size+s.size:Nat):Int) by omega,hs.sub,azu,Nat.add_assoc]
 |d, .mk true s k,D,hD,hd,hf,t,p,ht,h=>by
  obtain ⟨rfl,h2,e,rfl,h3⟩:=ezR hf
  have e':azt (e+1+1) (.mk true (bs []) k)=scat (lenV ((192:Nat):Int) ((k.map (azt (e+1))).foldl scat (bs [])).size) ((k.map (azt (e+1))).foldl scat (bs [])):=rfl
  rw[e'] at h⊢
  have hs:=h.snd
  have hs1:=hs.1
  have hn:((k.map (azt (e+1))).foldl scat (bs [])).size≤900:=by omega
  obtain ⟨f1,⟨f2,f3⟩,f4⟩:=lzC (low:=192) (by omega) hn h
  have loop: ∀ (l acc:List ItemT) (q A N:Nat),(∀y∈l,fitV e y=true)→acc.length+l.length≤17→A+N≤t.size→Has t q ((l.map (azt (e+1))).foldl scat (bs []))→q+((l.map (azt (e+1))).foldl scat (bs [])).size=A+N→
   fzx (t,(D,((A:Int),((N:Int),((q:Int),(ItemT.mk false (bs []) [],(ItemT.mk true (bs []) acc,())))))))=some ((ItemT.mk true (bs []) (acc++l),(((A+N:Nat):Int),(true,()))),()):=by
   intro l
   induction l with
   |nil=>
    intro acc q A N _ _ hE _ hq
    have h0:(bs []).size=0:=rfl
    simp only[List.map_nil,List.foldl_nil,h0] at hq
    rw[kzT,azH (x:=(A:Int)) (y:=(N:Int)) (by omega) (by omega),az7 (by omega),azc,List.append_nil]
    rfl
   |cons y l ihl=>
    intro acc q A N hy hl hE hH hq
    have eF:((y::l).map (azt (e+1))).foldl scat (bs [])=scat (azt (e+1) y) ((l.map (azt (e+1))).foldl scat (bs [])):=by
     rw[List.map_cons,List.foldl_cons,pzK]
     have:scat (bs []) (azt (e+1) y)=azt (e+1) y:=by unfold scat bs;apply ByteArray.ext;simp
     rw[this]
    rw[eF] at hH hq
    rw[azu] at hq
    have hpos:=ozU e y
    simp only[List.length_cons] at hl
    rw[kzT,azH (x:=(A:Int)) (y:=(N:Int)) (by omega) (by omega),bzW (by omega),aza,bzu (by omega) (by omega) (by rw[azN];omega),aza,azH (by omega) (by omega)]
    have hz:=hzH t 0 (A+N) (by omega) (by omega)
    have hc:=hH.fst.cut (e:=A+N) (by omega) hE
    rw[show (A:Int)+(N:Int)=((A+N:Nat):Int) by omega,show ssub t 0 ((A+N:Nat):Int)=ssub t ((0:Nat):Int) ((A+N:Nat):Int) from rfl,PzX e y (D+1) (by omega) (by omega) (hy y (by simp)) _ q (by omega) hc,azd]
    simp only[bnot,Bool.not_true,azc]
    rw[czX,decide_eq_false (by rw[azA];show¬((17:Int)≤(acc.length:Int));omega),azc,azv (by decide) (by simp only[List.length_cons,List.length_nil];show acc.length+1≤_;omega),aza]
    show fzx (t,(D,((A:Int),((N:Int),(((q+(azt (e+1) y).size:Nat):Int),(ItemT.mk false (bs []) [],(ItemT.mk true (bs []) (acc++[y]),())))))))=_
    rw[ihl (acc++[y]) (q+(azt (e+1) y).size) A N (fun z hz=>hy z (by simp [hz])) (by simp only[List.length_append,List.length_cons,List.length_nil];omega) hE hH.snd (by omega),List.append_assoc]
    rfl
  rw[pzP,azN]
  rw[czX,decide_eq_false (by omega),azc,bzy (by omega),azc,bzI (by omega) (by omega),aza,az7 (by omega),azc,aza,czX,decide_eq_true (by omega),aza]
  show gzr (t,((p:Int),(D,(true,(((192:Nat):Int),(ItemT.mk false (bs []) [],()))))))=_
  rw[rzv,GzR (by omega) (by omega) hn h.fst,azd]
  simp only[bnot,Bool.not_true,azc,azN]
  rw[bzi (by omega) (by omega),bzy (by omega),azc,
   loop k [] _ _ _ h3 (by simp only[List.length_nil];omega) hs1 hs rfl,List.nil_append,azu,Nat.add_assoc]
theorem kzb {x:ItemT} {t:ByteArray} (h:bzn x=(t,true)):fitV 4 x=true∧azt 5 x=t∧t.size≤900:=by
 unfold bzn at h
 split at h
 ·rename_i h1
  have:=congrArg Prod.fst h
  simp only at this
  exact ⟨h1.1,this,by rw[←this];exact h1.2⟩
 ·cases h
theorem Jz9 {x:ItemT} {t:ByteArray} (h:bzn x=(t,true)):hz3 (t,((0:Int),((4:Int),())))=some ((x,((t.size:Int),(true,()))),()):=by
 obtain ⟨h1,h2,h3⟩:=kzb h
 have:=PzO 4 x (by omega) h1 t 0 h3 (by rw[h2];exact Has.self t)
 rw[h2,Nat.zero_add] at this
 exact this
theorem sRd_of {x:ItemT} {t:ByteArray} (h:bzn x=(t,true)):ezk (t,((0:Int),((0:Int),())))=some ((x,((t.size:Int),(true,()))),()):=by
 obtain ⟨h1,h2,h3⟩:=kzb h
 have:=PzX 4 x 0 (by omega) (by omega) h1 t 0 h3 (by rw[h2];exact Has.self t)
 rw[h2,Nat.zero_add] at this
 exact this
open Classical in
noncomputable def qz1 (t:ByteArray):ItemT×Bool:=if h: ∃x,bzn x=(t,true) then (Classical.choose h,true) else (.mk false (bs []) [],false)
theorem rzg {x:ItemT} {t:ByteArray} (h:bzn x=(t,true)):qz1 t=(x,true):=by
 have h': ∃x,bzn x=(t,true):=⟨x,h⟩
 unfold qz1
 rw[dif_pos h']
 have e1:=Jz9 (Classical.choose_spec h')
 rw[Jz9 h] at e1
 have:=congrArg (fun o=>o.map fun r=>r.1.1) e1
 simp only[Option.map_some,Option.some.injEq] at this
 rw[this]
theorem wzU {t:ByteArray} (h: ¬ ∃x,bzn x=(t,true)):qz1 t=(.mk false (bs []) [],false):=by
 unfold qz1
 rw[dif_neg h]
theorem xzV {t:ByteArray} (h:(qz1 t).2=true):bzn (qz1 t).1=(t,true):=by
 by_cases h1: ∃x,bzn x=(t,true)
 ·obtain ⟨x,hx⟩:=h1
  rw[rzg hx];exact hx
 ·rw[wzU h1] at h;cases h
theorem Hzc (t:ByteArray):jzU (t,())=some (((qz1 t).1,((qz1 t).2,())),()):=by
 rw[FzC,azN]
 by_cases hz:t.size≤900
 ·rw[bzy (by omega),azc]
  by_cases h: ∃x,bzn x=(t,true)
  ·obtain ⟨x,hx⟩:=h
   rw[Jz9 hx,azd,rzg hx]
   simp only[bnot,Bool.not_true,azc]
   rw[czY,decide_eq_true (by rfl),Bool.not_true,azc,ez5,hx,azd]
   simp only[Bool.not_true,azc]
   rw[qzb,decide_eq_true (by rfl),Bool.not_true,azc]
  ·rw[wzU h]
   obtain ⟨x,n,b,e,_⟩:=Qz1 4 t 0 (by omega) (by omega)
   rw[show hz3 (t,((0:Int),((4:Int),())))=some ((x,(n,(b,()))),()) from e,azd]
   cases b with
   |false=>rfl
   |true=>
    simp only[bnot,Bool.not_true,azc]
    by_cases h2:n=(t.size:Int)
    ·rw[czY,decide_eq_true h2,Bool.not_true,azc,ez5,azd]
     simp only[]
     cases h3:(bzn x).2 with
     |false=>rfl
     |true=>
      simp only[Bool.not_true,azc]
      by_cases h4:(bzn x).1=t
      ·exact absurd ⟨x,Prod.ext h4 h3⟩ h
      ·rw[qzb,decide_eq_false h4,Bool.not_false,aza]
    ·rw[czY,decide_eq_false h2,Bool.not_false,aza]
 ·rw[cze (by omega),aza,wzU]
  exact fun ⟨x,hx⟩=>hz (kzb hx).2.2
theorem Gz3 (t:ByteArray):jzS (t,())=some (((qz1 t).1,((qz1 t).2,())),()):=by
 rw[FzE,azN]
 by_cases hz:t.size≤900
 ·rw[bzy (by omega),azc]
  by_cases h: ∃x,bzn x=(t,true)
  ·obtain ⟨x,hx⟩:=h
   rw[show ezk (t,zTwo)=_ from sRd_of hx,azd,rzg hx]
   simp only[]
   rw[ez6,hx,azd]
   simp only[bnot,Bool.not_true,azc]
   rw[czY,decide_eq_true (by rfl),Bool.not_true,azc]
   rw[qzb,decide_eq_true (by rfl),Bool.not_true,azc]
  ·rw[wzU h]
   obtain ⟨x,n,b,e,_⟩:=QzV 5 t 0 0 (by omega) (by omega) (by omega)
   rw[show ezk (t,zTwo)=some ((x,(n,(b,()))),()) from e,azd]
   simp only[]
   rw[ez6,azd]
   cases b with
   |false=>rfl
   |true=>
    simp only[bnot,Bool.not_true,azc]
    by_cases h2:n=(t.size:Int)
    ·rw[czY,decide_eq_true h2,Bool.not_true,azc]
     cases h3:(bzn x).2 with
     |false=>rfl
     |true=>
      simp only[Bool.not_true,azc]
      by_cases h4:(bzn x).1=t
      ·exact absurd ⟨x,Prod.ext h4 h3⟩ h
      ·rw[qzb,decide_eq_false h4,Bool.not_false,aza]
    ·rw[czY,decide_eq_false h2,Bool.not_false,aza]
 ·rw[cze (by omega),aza,wzU]
  exact fun ⟨x,hx⟩=>hz (kzb hx).2.2
end Go.Proofs.YtdfbhjpmdjmdaaaGreatDoor
