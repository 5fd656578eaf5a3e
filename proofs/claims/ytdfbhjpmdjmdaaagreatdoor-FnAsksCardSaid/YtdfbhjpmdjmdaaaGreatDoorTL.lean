/- Proofs of tries are verified. Of no condition. -/
import Derived.Test.YtdfbhjpmdjmdaaaGreatDoorTK
set_option linter.unusedVariables false
set_option linter.unusedSimpArgs false
set_option maxRecDepth 100000
namespace Go.Proofs.YtdfbhjpmdjmdaaaGreatDoor
open Go.TV
theorem Ez6 {d:Nat} {x:ItemT} (h:fitV d x=true) {y:ItemT} (hy:y∈x.k):x.l=true∧ ∃e,d=e+1∧fitV e y=true:=by
 cases x with
 |mk l s k=>
  cases l with
  |false=>rw[(hzy h).2] at hy;cases hy
  |true=>
   obtain ⟨_,_,e,h1,h2⟩:=ezR h
   exact ⟨rfl,e,h1,h2 y hy⟩
theorem fit_s {d:Nat} {x:ItemT} (h:fitV d x=true):x.s.size≤600:=by
 cases x with
 |mk l s k=>
  cases l with
  |false=>exact (hzy h).1
  |true=>rw[(ezR h).1];show (bs []).size≤600;decide
theorem rzW {d:Nat} {x:ItemT} (h:fitV d x=true):KidS x:=fun y hy=>by
 obtain ⟨_,e,_,h2⟩:=Ez6 h hy
 have:=fit_s h2
 omega
theorem Hzp {l:List ItemT} {i:Nat} (h:i<l.length):l.getD i zI∈l:=by
 rw[List.getD_eq_getElem?_getD,List.getElem?_eq_getElem h]
 exact List.getElem_mem h
theorem zz6 (x:ItemT) (left:List Int) (h: ∀a∈left,0≤a∧a≤15):(az9 x left).2.2≤3∧((az9 x left).2.2=0→(az9 x left).1∈x.k∧(az9 x left).2.1≤left.length):=by
 unfold az9
 split
 ·exact ⟨Nat.le_refl 3,fun h=>by cases h⟩
 ·split
  ·rename_i h17
   cases left with
   |nil=>exact ⟨(by decide:1≤3),fun h=>by cases h⟩
   |cons a r=>
    have ha:=h a (by simp)
    simp only[]
    split
    ·exact ⟨by simp,fun h=>by cases h⟩
    ·exact ⟨by simp,fun _=>⟨Hzp (by omega),by simp⟩⟩
  ·split
   ·exact ⟨by simp,fun h=>by cases h⟩
   ·rename_i h2
    have h2:x.k.length=2:=by
     by_cases hh:x.k.length=2
     ·exact hh
     ·exact absurd (Or.inl hh) h2
    split
    ·exact ⟨by simp,fun h=>by cases h⟩
    ·split
     ·exact ⟨by simp,fun h=>by cases h⟩
     ·split
      ·split
       ·exact ⟨by simp,fun h=>by cases h⟩
       ·exact ⟨by simp,fun h=>by cases h⟩
      ·exact ⟨by simp,fun _=>⟨Hzp (by omega),(uz2 _ _).2⟩⟩
def Qzz (y:ItemT):Nat→pz9
 |0=>(false,(false,(bs [],(y,(0,())))))
 |1=>(true,(false,(bs [],(zI,(0,())))))
 |2=>(true,(true,(y.s,(zI,(0,())))))
 |_=>(false,(false,(bs [],(zI,(3,())))))
theorem Rzb (pf:List ByteArray) (u:Int) (left:List Int) (x:ItemT) (hx:KidS x) (h: ∀a∈left,0≤a∧a≤15) (hl:left.length≤1000) (hxl:x.l=true) (h2:x.k.length=2):
 ∃r,czM ((pf,(u,(left,()))),(x,()))=some ((Qzz (az9 x left).1 (az9 x left).2.2,()),((pf,(u,(r,()))),()))∧((az9 x left).2.2=0→r=left.drop (az9 x left).2.1):=by
 have hrl:=Kzx (x.k.getD 0 zI).s
 have hc:=uz2 (rpV (x.k.getD 0 zI).s).1 left
 rw[qze,azA,bzI (by omega) (by omega),aza,show rd (ItemT.mk false (bs []) ([]:List ItemT)) x.k 0=x.k.getD 0 zI from rzs _ 0,iRp_l _ (hx.at' 0 (by omega)),azd]
 simp only[]
 rw[aza]
 unfold az9
 rw[hxl,if_neg (by decide),if_neg (by omega)]
 cases h0l:(x.k.getD 0 zI).l with
 |true=>rw[aza,if_pos (.inr rfl)];exact ⟨left,rfl,fun h=>by cases h⟩
 |false=>
  rw[azc,if_neg (fun hh=>hh.elim (fun h=>h h2) (fun h=>by cases h))]
  cases hok:(rpV (x.k.getD 0 zI).s).2.2 with
  |false=>rw[show bnot false=true from rfl,aza,if_pos rfl];exact ⟨left,rfl,fun h=>by cases h⟩
  |true=>
   rw[show bnot true=false from rfl,azc,if_neg (by decide),Jz0 _ _ (by omega),azd,rz7 left]
   simp only[]
   by_cases hlt:comV (rpV (x.k.getD 0 zI).s).1 left<(rpV (x.k.getD 0 zI).s).1.length
   ·rw[bzW (by rw[azA];omega),aza,if_pos (.inl hlt)];exact ⟨left,rfl,fun h=>by cases h⟩
   ·rw[az7 (by rw[azA];omega),azc]
    have hn:comV (rpV (x.k.getD 0 zI).s).1 left=(rpV (x.k.getD 0 zI).s).1.length:=by omega
    cases hle:(rpV (x.k.getD 0 zI).s).2.1 with
    |false=>
     rw[azc,if_neg (fun hh=>hh.elim hlt (fun h=>by cases h.1)),if_neg (by decide),hzS,show bnot false=true from rfl,aza]
     simp only[]
     rw[bzu (by rw[azA];omega) (by rw[azA,azA];omega) (by omega),aza,bzI (by omega) (by rw[azA];omega),aza,show rd (ItemT.mk false (bs []) ([]:List ItemT)) x.k 1=x.k.getD 1 zI from rzs _ 1]
     refine ⟨_,rfl,fun _=>?_⟩
     rw[hn,azA,azA]
     unfold sub
     simp
    |true=>
     rw[aza]
     by_cases hll:comV (rpV (x.k.getD 0 zI).s).1 left<left.length
     ·rw[czY,decide_eq_false (by rw[azA,azA];omega),Bool.not_false,aza,if_pos (.inr ⟨rfl,hll⟩)];exact ⟨left,rfl,fun h=>by cases h⟩
     ·rw[czY,decide_eq_true (by rw[azA,azA];omega),Bool.not_true,azc,if_neg (fun hh=>hh.elim hlt (fun h=>hll h.2)),if_pos rfl,hzS,show bnot true=false from rfl,azc,bzI (by omega) (by rw[azA];omega),aza,show rd (ItemT.mk false (bs []) ([]:List ItemT)) x.k 1=x.k.getD 1 zI from rzs _ 1]
      cases (x.k.getD 1 zI).l with
      |true=>rw[aza,if_pos rfl];exact ⟨left,rfl,fun h=>by cases h⟩
      |false=>rw[azc,aza,if_neg (by decide)];exact ⟨left,rfl,fun h=>by cases h⟩
theorem Rzg (pf:List ByteArray) (u:Int) (left:List Int) (x:ItemT) (hx:KidS x) (h: ∀a∈left,0≤a∧a≤15) (hl:left.length≤1000):
 ∃r,ezX ((pf,(u,(left,()))),(x,()))=some ((Qzz (az9 x left).1 (az9 x left).2.2,()),((pf,(u,(r,()))),()))∧((az9 x left).2.2=0→r=left.drop (az9 x left).2.1):=by
 rw[vzE]
 cases hxl:x.l with
 |false=>
  rw[azc,lzu,hxl]
  unfold az9
  rw[if_pos hxl]
  exact ⟨left,rfl,fun h=>by cases h⟩
 |true=>
  rw[aza,czd,azA]
  by_cases h2:x.k.length=2
  ·obtain ⟨r,e,he⟩:=Rzb pf u left x hx h hl hxl h2
   rw[decide_eq_true (by omega),aza,e,azd]
   exact ⟨r,rfl,he⟩
  ·rw[decide_eq_false (by omega),azc,lzu,hxl,show bnot true=false from rfl,azc,czY,azA]
   unfold az9
   rw[hxl,if_neg (by decide)]
   by_cases h17:x.k.length=17
   ·rw[decide_eq_true (by omega),Bool.not_true,azc,if_pos h17]
    cases left with
    |nil=>exact ⟨[],rfl,fun h=>by cases h⟩
    |cons a r=>
     have ha:=h a (by simp)
     obtain ⟨n,rfl⟩:=Int.eq_ofNat_of_zero_le ha.1
     simp only[]
     rw[czd,decide_eq_false (by rw[azA,List.length_cons];omega),azc,bzI (by omega) (by rw[azA,List.length_cons];omega),aza,show rd (0:Int) ((n:Int)::r) 0=(n:Int) from rfl,bzI (by omega) (by omega),aza,bzu (by omega) (by rw[azA,List.length_cons];omega) (by omega),aza]
     rw[show rd (ItemT.mk false (bs []) ([]:List ItemT)) x.k (n:Int)=x.k.getD n zI from rzs _ _]
     simp only[Int.toNat_natCast]
     have hsub:sub ((n:Int)::r) 1 (len ((n:Int)::r))=r:=by rw[azA];unfold sub;simp
     rw[hsub]
     cases hyl:(x.k.getD n zI).l with
     |true=>rw[if_neg (by simp)];exact ⟨r,rfl,fun _=>rfl⟩
     |false=>
      rw[show bnot false=true from rfl,aza,nzV]
      by_cases hs:(x.k.getD n zI).s=bs []
      ·rw[decide_eq_true hs,aza,if_pos ⟨rfl,hs⟩];exact ⟨r,rfl,fun h=>by cases h⟩
      ·rw[decide_eq_false hs,azc,if_neg (fun hh=>hs hh.2)];exact ⟨r,rfl,fun _=>rfl⟩
   ·rw[decide_eq_false (by omega),Bool.not_false,aza,if_neg h17,if_pos (.inl h2)]
    exact ⟨left,rfl,fun h=>by cases h⟩
noncomputable def bzt (pf:List ByteArray) (u:Nat) (h:ByteArray):ItemT×Nat:=
 if u<pf.length then (if (qz1 (pf.getD u (bs []))).2=true∧azo (pf.getD u (bs []))=h then ((qz1 (pf.getD u (bs []))).1,0) else (zI,2)) else (zI,3)
theorem ezC {pf:List ByteArray} {u:Nat} {h:ByteArray} (e:(bzt pf u h).2=0):fitV 4 (bzt pf u h).1=true∧u<pf.length:=by
 unfold bzt at e⊢
 split at e
 ·rename_i h1
  split at e
  ·rename_i h2
   rw[if_pos h1,if_pos h2]
   exact ⟨(kzb (xzV h2.1)).1,h1⟩
  ·cases e
 ·cases e
theorem rd_pf (pf:List ByteArray) (u:Nat):rd (bs []) pf (u:Int)=pf.getD u (bs []):=by unfold rd;simp
theorem LzO (pf:List ByteArray) (u:Nat) (r:List Int×Unit) (h:ByteArray) (hu:u≤pf.length) (hp:pf.length≤1000):dzc ((pf,((u:Int),r)),(h,()))=some (((bzt pf u h).1,(((bzt pf u h).2:Int),())),((pf,(((if u<pf.length then u+1 else u:Nat):Int),r)),())):=by
 rw[vzB]
 unfold bzt
 simp only[]
 rw[czd,azA]
 by_cases h1:u<pf.length
 ·rw[decide_eq_false (by omega),azc,bzI (by omega) (by omega),aza,rd_pf,Hzc,azd,azq (by omega),if_pos h1,if_pos h1]
  simp only[]
  cases h2:(qz1 (pf.getD u (bs []))).2 with
  |false=>rw[show bnot false=true from rfl,aza,if_neg (fun hh=>by cases hh.1)];rfl
  |true=>
   have hz:=(kzb (xzV h2)).2.2
   rw[show bnot true=false from rfl,azc,hz9 _ (by omega),azd]
   simp only[]
   by_cases h3:azo (pf.getD u (bs []))=h
   ·rw[qzb,decide_eq_true h3,Bool.not_true,azc,if_pos ⟨trivial,h3⟩];rfl
   ·rw[qzb,decide_eq_false h3,Bool.not_false,aza,if_neg (fun hh=>h3 hh.2)];rfl
 ·rw[decide_eq_true (by omega),aza,if_neg h1,if_neg h1];rfl
theorem KzC (pf:List ByteArray) (u:Nat) (left:List Int) (h:ByteArray) (x:ItemT) (hp:pf.length≤1000):dzx (pf,(left,(h,((u:Int),(false,(x,()))))))=if (bzt pf u h).2=0 then dz1 (pf,(left,(h,(((u+1:Nat):Int),(false,((bzt pf u h).1,())))))) else some ((bs [],(false,(((bzt pf u h).2:Int),()))),()):=by
 rw[qzH,show bnot false=true from rfl,aza,azA]
 unfold bzt
 by_cases h1:u<pf.length
 ·rw[czX,decide_eq_false (by omega),azc,bzI (by omega) (by omega),aza,rd_pf,Gz3,azd,if_pos h1]
  simp only[]
  cases h2:(qz1 (pf.getD u (bs []))).2 with
  |false=>rw[show bnot false=true from rfl,aza,if_neg (c:=false=true∧_) (fun hh=>by cases hh.1)];rfl
  |true=>
   have hz:=(kzb (xzV h2)).2.2
   rw[show bnot true=false from rfl,azc,aza,ezE _ (by omega),azd]
   simp only[]
   by_cases h3:azo (pf.getD u (bs []))=h
   ·rw[qzb,decide_eq_true h3,Bool.not_true,azc,if_pos (c:=True∧_) ⟨trivial,h3⟩,if_pos rfl,azq (by omega)]
   ·rw[qzb,decide_eq_false h3,Bool.not_false,aza,if_neg (c:=True∧_) (fun hh=>h3 hh.2)];rfl
 ·rw[czX,decide_eq_true (by omega),aza,if_neg h1];rfl
noncomputable def runV (pf:List ByteArray):Nat→List Int→Nat→ItemT→ByteArray× (Bool× (Nat×Nat))
 |0,_,u,_=>(bs [],(false,(3,u)))
 |f+1,left,u,x=>match (az9 x left).2.2 with
  |0=>if (az9 x left).1.l=true then runV pf f (left.drop (az9 x left).2.1) u (az9 x left).1 else
   if (az9 x left).1.s.size=32 then
    (if (bzt pf u (az9 x left).1.s).2=0 then runV pf f (left.drop (az9 x left).2.1) (u+1) (bzt pf u (az9 x left).1.s).1 else (bs [],(false,((bzt pf u (az9 x left).1.s).2,u))))
   else (bs [],(false,(3,u)))
  |1=>(bs [],(false,(0,u)))
  |2=>((az9 x left).1.s,(true,(0,u)))
  |_=>(bs [],(false,(3,u)))
def finV (pf:List ByteArray) (r:ByteArray× (Bool× (Nat×Nat))):ByteArray× (Bool× (Int×Unit)):=if r.2.2.1=0 then (if r.2.2.2<pf.length then (bs [],(false,(4,()))) else (r.1,(r.2.1,(0,())))) else (bs [],(false,((r.2.2.1:Int),())))
theorem Kzp {l:List Int} {n:Nat}:sub l (n:Int) (len l)=l.drop n:=by rw[azA];unfold sub;simp
theorem sRun_l (pf:List ByteArray) (hp:pf.length≤1000): ∀ (f:Nat) (left:List Int) (hash:ByteArray) (u:Nat) (inside:Bool) (x:ItemT) (d:Nat),fitV d x=true→d≤4→6*(pf.length-u)+d<f→1≤u→u≤pf.length→(∀a∈left,0≤a∧a≤15)→left.length≤1000→ ¬(x.l=false∧x.s=bs []∧u=1∧inside=false)→
 dz1 (pf,(left,(hash,((u:Int),(inside,(x,()))))))=some (finV pf (runV pf f left u x),()):=by
 intro f
 induction f with
 |zero=>intro left hash u inside x d hf hd hm;omega
 |succ f ih=>
  intro left hash u inside x d hf hd hm hu1 hu h hl hs
  have hD:czf (pf,(left,(hash,((u:Int),(((az9 x left).2.1:Int),(((az9 x left).2.2:Int),(x,((az9 x left).1,()))))))))=some (finV pf (runV pf (f+1) left u x),()):=by
   obtain ⟨h3,h0⟩:=zz6 x left h
   unfold runV
   generalize hr:az9 x left=r at h3 h0⊢
   obtain ⟨y,n,k⟩:=r
   simp only[] at h3 h0⊢
   rw[ozX]
   match k,h3,h0 with
   |3,_,_=>rfl
   |1,_,_=>
    rw[show ieq ((1:Nat):Int) 3=false from rfl,azc,show ine ((1:Nat):Int) 0=true from rfl,aza,azA]
    simp only[]
    unfold finV
    simp only[]
    by_cases hlt:u<pf.length
    ·rw[bzW (by omega),aza,if_pos (c:=True) trivial,if_pos hlt]
    ·rw[az7 (by omega),azc,if_pos (c:=True) trivial,if_neg hlt];rfl
   |2,_,_=>
    rw[show ieq ((2:Nat):Int) 3=false from rfl,azc,show ine ((2:Nat):Int) 0=true from rfl,aza,azA]
    simp only[]
    unfold finV
    simp only[]
    by_cases hlt:u<pf.length
    ·rw[bzW (by omega),aza,if_pos (c:=True) trivial,if_pos hlt]
    ·rw[az7 (by omega),azc,if_pos (c:=True) trivial,if_neg hlt];rfl
   |0,_,h0=>
    obtain ⟨hy,hn⟩:=h0 rfl
    obtain ⟨hxl,e,rfl,hye⟩:=Ez6 hf hy
    have hin: ∀a∈left.drop n,0≤a∧a≤15:=fun a ha=>h a (List.mem_of_mem_drop ha)
    have hlen:(left.drop n).length≤1000:=by rw[List.length_drop];omega
    rw[show ieq ((0:Nat):Int) 3=false from rfl,azc,show ine ((0:Nat):Int) 0=false from rfl,azc,bzu (by omega) (by rw[azA];omega) (by omega),aza,Kzp]
    simp only[]
    cases hyl:y.l with
    |true=>
     rw[show bnot true=false from rfl,azc,if_pos rfl,qzH,show bnot true=false from rfl,azc]
     exact ih _ _ _ _ _ e hye (by omega) (by omega) hu1 hu hin hlen (fun hh=>by cases hh.2.2.2)
    |false=>
     rw[show bnot false=true from rfl,aza,if_neg (by decide),azN]
     by_cases h32:y.s.size=32
     ·rw[czY,decide_eq_true (by omega),Bool.not_true,azc,if_pos h32,KzC _ _ _ _ _ hp]
      by_cases hl0:(bzt pf u y.s).2=0
      ·obtain ⟨g1,g2⟩:=ezC hl0
       rw[if_pos hl0,if_pos hl0]
       exact ih _ _ _ _ _ 4 g1 (by omega) (by omega) (by omega) (by omega) hin hlen (fun hh=>by have:=hh.2.2.1;omega)
      ·rw[if_neg hl0,if_neg hl0]
       unfold finV
       rw[if_neg hl0]
     ·rw[czY,decide_eq_false (by omega),Bool.not_false,aza,if_neg h32];rfl
  rw[ozJ,Fz4 x left (rzW hf) h hl,azd]
  simp only[]
  cases hxl:x.l with
  |true=>rw[show bnot true=false from rfl,azc];exact hD
  |false=>
   rw[show bnot false=true from rfl,aza,nzV]
   by_cases hxs:x.s=bs []
   ·rw[decide_eq_true hxs,aza,czd]
    by_cases h1:u=1
    ·rw[decide_eq_true (by omega),aza]
     cases inside with
     |true=>rw[show bnot true=false from rfl,azc];exact hD
     |false=>exact absurd ⟨hxl,hxs,h1,rfl⟩ hs
    ·rw[decide_eq_false (by omega),azc];exact hD
   ·rw[decide_eq_false hxs,azc];exact hD
theorem iRun_l (pf:List ByteArray) (hp:pf.length≤1000): ∀ (f:Nat) (left:List Int) (u:Nat) (x:ItemT) (d:Nat),fitV d x=true→d≤4→6*(pf.length-u)+d<f→u≤pf.length→(∀a∈left,0≤a∧a≤15)→left.length≤1000→
 ∃ (s:pz9) (r:bze),bzN ((pf,((u:Int),(left,()))),(Dzk,(x,())))=some ((s,()),(r,()))∧s.2.2.2.2.1=((runV pf f left u x).2.2.1:Int)∧((runV pf f left u x).2.2.1=0→s.2.2.1=(runV pf f left u x).1∧s.2.1=(runV pf f left u x).2.1∧r.2.1=((runV pf f left u x).2.2.2:Int)):=by
 intro f
 induction f with
 |zero=>intro left u x d hf hd hm;omega
 |succ f ih=>
  intro left u x d hf hd hm hu h hl
  obtain ⟨w,e,hw⟩:=Rzg pf (u:Int) left x (rzW hf) h hl
  obtain ⟨h3,h0⟩:=zz6 x left h
  rw[uzr,e,azd]
  unfold runV
  generalize hr:az9 x left=r at h3 h0 hw⊢
  obtain ⟨y,n,k⟩:=r
  simp only[] at h3 h0 hw⊢
  match k,h3,h0,hw with
  |3,_,_,_=>exact ⟨_,_,rfl,rfl,fun h=>by cases h⟩
  |1,_,_,_=>exact ⟨_,_,rfl,rfl,fun _=>⟨rfl,rfl,rfl⟩⟩
  |2,_,_,_=>exact ⟨_,_,rfl,rfl,fun _=>⟨rfl,rfl,rfl⟩⟩
  |0,_,h0,hw=>
   obtain ⟨hy,hn⟩:=h0 rfl
   obtain ⟨hxl,e',rfl,hye⟩:=Ez6 hf hy
   obtain rfl:=hw rfl
   have hin: ∀a∈left.drop n,0≤a∧a≤15:=fun a ha=>h a (List.mem_of_mem_drop ha)
   have hlen:(left.drop n).length≤1000:=by rw[List.length_drop];omega
   simp only[Qzz]
   rw[azc,show ine 0 0=false from rfl,azc]
   cases hyl:y.l with
   |true=>
    rw[aza,if_pos rfl]
    exact ih _ _ _ e' hye (by omega) (by omega) hu hin hlen
   |false=>
    rw[azc,if_neg (by decide),czG,azd]
    simp only[]
    by_cases h32:y.s.size=32
    ·rw[decide_eq_true h32,show bnot true=false from rfl,azc,if_pos h32,LzO pf u _ _ hu hp,azd]
     simp only[]
     by_cases hl0:(bzt pf u y.s).2=0
     ·obtain ⟨g1,g2⟩:=ezC hl0
      rw[if_pos hl0,czY,decide_eq_true (by omega),Bool.not_true,azc,if_pos g2]
      exact ih _ _ _ 4 g1 (by omega) (by omega) (by omega) hin hlen
     ·rw[if_neg hl0,czY,decide_eq_false (by omega),Bool.not_false,aza]
      exact ⟨_,_,rfl,rfl,fun h=>absurd h hl0⟩
    ·rw[decide_eq_false h32,show bnot false=true from rfl,aza,if_neg h32]
     exact ⟨_,_,rfl,rfl,fun h=>by cases h⟩
noncomputable def verV (root key:ByteArray) (pf:List ByteArray):ByteArray× (Bool× (Int×Unit)):=
 if¬(root.size=32∧key.size=4∧1≤pf.length∧pf.length≤12) then (bs [],(false,(1,()))) else
 if (bzt pf 0 root).2=0 then
  (if (bzt pf 0 root).1.l=false∧(bzt pf 0 root).1.s=bs [] then finV pf (bs [],(false,(0,1))) else finV pf (runV pf 100 (nibV key) 1 (bzt pf 0 root).1))
 else (bs [],(false,(((bzt pf 0 root).2:Int),())))
theorem Dzx (root key:ByteArray) (pf:List ByteArray):ezb (root,(key,(pf,())))=some (verV root key pf,()):=by
 rw[Czi,czY,azN,czY,azN]
 unfold verV
 by_cases h1:root.size=32
 ·rw[decide_eq_true (by omega),Bool.not_true,azc]
  by_cases h2:key.size=4
  ·rw[decide_eq_true (by omega),Bool.not_true,azc,tzD,azd,azA]
   simp only[]
   by_cases h3:1≤pf.length∧pf.length≤12
   ·have hin:=dz0 key
    have hn:=czN key
    rw[decide_eq_true (by omega),show bnot true=false from rfl,azc,szb key (by omega),azd,if_neg (fun hh=>hh ⟨h1,h2,h3.1,h3.2⟩)]
    show dzx (pf,(nibV key,(root,(((0:Nat):Int),(false,(zI,()))))))=_
    rw[KzC _ _ _ _ _ (by omega)]
    by_cases h0:(bzt pf 0 root).2=0
    ·obtain ⟨g1,g2⟩:=ezC h0
     rw[if_pos h0,if_pos h0]
     by_cases h4:(bzt pf 0 root).1.l=false∧(bzt pf 0 root).1.s=bs []
     ·rw[if_pos h4,ozJ,Fz4 _ (nibV key) (rzW g1) hin (by omega),azd,h4.1,h4.2]
      have e:az9 (bzt pf 0 root).1 (nibV key)=((bzt pf 0 root).1,(0,3)):=by unfold az9;rw[if_pos h4.1]
      rw[e,show bnot false=true from rfl,aza,nzV,decide_eq_true rfl,aza,show ieq ((0+1:Nat):Int) 1=true from rfl,aza,aza,ozX,show ieq 1 3=false from rfl,azc,show ine 1 0=true from rfl,aza,azA]
      unfold finV
      simp only[]
      by_cases hlt:1<pf.length
      ·rw[bzW (by omega),aza,if_pos (c:=True) trivial,if_pos hlt]
      ·rw[az7 (by omega),azc,if_pos (c:=True) trivial,if_neg hlt];rfl
     ·rw[if_neg h4]
      exact sRun_l pf (by omega) 100 (nibV key) root 1 false _ 4 g1 (by omega) (by omega) (by omega) (by omega) hin (by omega) (fun hh=>h4 ⟨hh.1,hh.2.1⟩)
    ·rw[if_neg h0,if_neg h0]
   ·rw[decide_eq_false (by omega),show bnot false=true from rfl,aza,if_pos (fun hh=>h3 ⟨hh.2.2.1,hh.2.2.2⟩)]
  ·rw[decide_eq_false (by omega),Bool.not_false,aza,if_pos (fun hh=>h2 hh.2.1)]
 ·rw[decide_eq_false (by omega),Bool.not_false,aza,if_pos (fun hh=>h1 hh.1)]
theorem xzs (root key:ByteArray) (pf:List ByteArray):ezt (root,(key,(pf,())))=some (verV root key pf,()):=by
 rw[AzI,czG,azd]
 unfold verV
 simp only[]
 by_cases h1:root.size=32
 ·rw[decide_eq_true h1,show bnot true=false from rfl,azc,czY,azN]
  by_cases h2:key.size=4
  ·rw[decide_eq_true (by omega),Bool.not_true,azc,azA]
   by_cases h3:1≤pf.length∧pf.length≤12
   ·have hin:=dz0 key
    have hn:=czN key
    rw[az7 (by omega),azc,bzy (by omega),azc,sz9 key (by omega),azd,if_neg (fun hh=>hh ⟨h1,h2,h3.1,h3.2⟩),vzM,show (0:Int)=((0:Nat):Int) from rfl,LzO pf 0 _ _ (by omega) (by omega),azd,if_pos (show 0<pf.length by omega)]
    simp only[]
    by_cases h0:(bzt pf 0 root).2=0
    ·obtain ⟨g1,g2⟩:=ezC h0
     rw[if_pos h0,czY,decide_eq_true (by omega),Bool.not_true,azc,nzV]
     have fin: ∀ (s:pz9) (r:bze) (q:ByteArray× (Bool× (Nat×Nat))),s.2.2.2.2.1=(q.2.2.1:Int)→(q.2.2.1=0→s.2.2.1=q.1∧s.2.1=q.2.1∧r.2.1=(q.2.2.2:Int))→
      Go.TV.cnd (ine s.2.2.2.2.1 ((0:Nat):Int)) (some ((bs [],(false,(s.2.2.2.2.1,()))),())) (Go.TV.cnd (ilt r.2.1 (pf.length:Int)) (some ((bs [],(false,(4,()))),())) (some ((s.2.2.1,(s.2.1,(((0:Nat):Int),()))),())))=some (finV pf q,()):=by
      intro s r q e1 e2
      unfold finV
      by_cases hq:q.2.2.1=0
      ·obtain ⟨a1,a2,a3⟩:=e2 hq
       rw[e1,czY,decide_eq_true (by omega),Bool.not_true,azc,if_pos hq,a3]
       by_cases hlt:q.2.2.2<pf.length
       ·rw[bzW (by omega),aza,if_pos hlt]
       ·rw[az7 (by omega),azc,if_neg hlt,a1,a2];rfl
      ·rw[e1,czY,decide_eq_false (by omega),Bool.not_false,aza,if_neg hq]
     by_cases h4:(bzt pf 0 root).1.l=false∧(bzt pf 0 root).1.s=bs []
     ·rw[if_pos h4,h4.1,h4.2,show bnot false=true from rfl,aza,decide_eq_true rfl,aza,azd]
      exact fin (true,(false,(bs [],(zI,(0,()))))) (pf,(((0+1:Nat):Int),(nibV key,()))) (bs [],(false,(0,1))) rfl (fun _=>⟨rfl,rfl,rfl⟩)
     ·rw[if_neg h4]
      obtain ⟨s,r,e1,e2,e3⟩:=iRun_l pf (by omega) 100 (nibV key) 1 (bzt pf 0 root).1 4 g1 (by omega) (by omega) (by omega) hin (by omega)
      have e1':bzN ((pf,(((0+1:Nat):Int),(nibV key,()))),(Dzk,((bzt pf 0 root).1,())))=some ((s,()),(r,())):=e1
      rw[e1']
      have e5:Go.TV.cnd (bnot (bzt pf 0 root).1.l) (Go.TV.cnd (decide ((bzt pf 0 root).1.s=bs [])) (some (((true,(false,(bs [],(ItemT.mk false (bs []) [],(0,()))))),()),((pf,(((0+1:Nat):Int),(nibV key,()))),()))) (some ((s,()),(r,())))) (some ((s,()),(r,())))=some ((s,()),(r,())):=by
       cases hl:(bzt pf 0 root).1.l with
       |true=>rfl
       |false=>
        rw[decide_eq_false (fun hs=>h4 ⟨hl,hs⟩)];rfl
      rw[show (((0:Nat):Int))=0 from rfl]
      rw[e5,azd]
      exact fin s r _ e2 e3
    ·rw[if_neg h0,czY,decide_eq_false (by omega),Bool.not_false,aza,azd]
     simp only[]
     rw[czY,decide_eq_false (by omega),Bool.not_false,aza]
   ·by_cases h3':1≤pf.length
    ·rw[az7 (by omega),azc,cze (by omega),aza,if_pos (fun hh=>h3 ⟨hh.2.2.1,hh.2.2.2⟩)]
    ·rw[bzW (by omega),aza,if_pos (fun hh=>h3 ⟨hh.2.2.1,hh.2.2.2⟩)]
  ·rw[decide_eq_false (by omega),Bool.not_false,aza,if_pos (fun hh=>h2 hh.2.1)]
 ·rw[decide_eq_false h1,show bnot false=true from rfl,aza,if_pos (fun hh=>h1 hh.1)]
theorem PzZ (root key:ByteArray) (pf:List ByteArray): ∃v b c,ezb (root,(key,(pf,())))=some ((v,(b,(c,()))),())∧ezt (root,(key,(pf,())))=some ((v,(b,(c,()))),()):=
 ⟨_,_,_,Dzx root key pf,xzs root key pf⟩
end Go.Proofs.YtdfbhjpmdjmdaaaGreatDoor
