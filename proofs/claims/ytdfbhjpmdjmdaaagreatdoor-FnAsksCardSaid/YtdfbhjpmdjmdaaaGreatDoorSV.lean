/- What is told of an ask of a state, right or not. Of no condition. -/
import Derived.Test.YtdfbhjpmdjmdaaaGreatDoorSR
set_option linter.unusedVariables false
set_option linter.unusedSimpArgs false
set_option maxRecDepth 100000
namespace Go.Proofs.YtdfbhjpmdjmdaaaGreatDoor
open Go.TV
def Czf (L:List azh) (x:ItemT):Prop:= ∃ (f n:Nat) (l:List azh),x=azF f n l∧8-n<f∧GoodP l n∧ ∀p∈l,p∈L
theorem Nzg {f n:Nat} {p:azh} {left:List Int} (hp:(nibV p.1).length=8):az9 (azF (f+1) n [p]) left=if comV ((nibV p.1).drop n) left<((nibV p.1).drop n).length∨(true=true∧comV ((nibV p.1).drop n) left<left.length) then (azF (f+1) n [p],(comV ((nibV p.1).drop n) left,1)) else (.mk false p.2.1 [],(comV ((nibV p.1).drop n) left,2)):=by
 have hnd: ∀x∈(nibV p.1).drop n,0≤x∧x≤15:=fun x hx=>dz0 p.1 x (List.mem_of_mem_drop hx)
 have hr:rpV (preV ((nibV p.1).drop n) true)=((nibV p.1).drop n,(true,true)):=yzp _ _ hnd (by rw[List.length_drop];omega)
 unfold az9
 simp only[azF,ItemT.l,ItemT.k,ItemT.s,List.getD_cons_zero,List.getD_cons_succ,hr]
 rfl
theorem Mzx {L:List azh} {x:ItemT} (hx:Czf L x) {left:List Int} (hl: ∀a∈left,0≤a∧a≤15):
 ((az9 x left).2.2=2→ ∃p∈L,(az9 x left).1.s=p.2.1)∧((az9 x left).2.2=0→ ∃y,Czf L y∧(az9 x left).1=refV y):=by
 obtain ⟨f,n,l,rfl,hf,hg,hL⟩:=hx
 obtain ⟨f,rfl⟩: ∃f',f=f'+1:=⟨f-1,by omega⟩
 match l,hg,hL with
 | [],hg,hL=>
   have e:az9 (azF (f+1) n []) left=(.mk false (bs []) [],(0,3)):=by
    unfold az9
    rw[if_pos (show (azF (f+1) n []).l=false from rfl)]
    rfl
   rw[e]
   exact ⟨fun h=>(by cases h),fun h=>(by cases h)⟩
 | [p],hg,hL=>
   rw[Nzg (hg.nib (p:=p) (by simp))]
   split
   ·exact ⟨fun h=>(by cases h),fun h=>(by cases h)⟩
   ·exact ⟨fun _=>⟨p,hL p (by simp),rfl⟩,fun h=>(by cases h)⟩
 |p::q::r,hg,hL=>
  have hlt:=hg.lt
  by_cases hs:shV (q::r) ((nibV p.1).drop n) n (8-n)=0
  ·cases left with
   |nil=>
    have hT:=xzU f n p q r
    rw[hs,if_neg (Nat.lt_irrefl 0)] at hT
    have e:(az9 (azF (f+1) n (p::q::r)) []).2.2=1:=by
     rw[hT]
     unfold az9
     simp only[ItemT.l,ItemT.k,ozP]
     rfl
    rw[e]
    exact ⟨fun h=>(by cases h),fun h=>(by cases h)⟩
   |cons b rest=>
    obtain ⟨h0,h1⟩:=hl b (by simp)
    obtain ⟨a,rfl⟩:=Int.eq_ofNat_of_zero_le h0
    rw[qzk hs (by omega:a<16)]
    split
    ·exact ⟨fun h=>(by cases h),fun h=>(by cases h)⟩
    ·exact ⟨fun h=>(by cases h),fun _=>⟨_,⟨f,n+1,_,rfl,by omega,hg.half hlt (a:Int),fun p hp=>hL p (List.mem_filter.1 hp).1⟩,rfl⟩⟩
  ·rw[szA hg rfl (by omega)]
   split
   ·exact ⟨fun h=>(by cases h),fun h=>(by cases h)⟩
   ·exact ⟨fun h=>(by cases h),fun _=>⟨_,⟨f,n+shV (q::r) ((nibV p.1).drop n) n (8-n),_,rfl,by omega,hg.step,hL⟩,rfl⟩⟩
theorem Nzy {L:List azh} (hv: ∀p∈L,p.2.1.size≤60) {y:ItemT} (hy:Czf L y) (h:(refV y).l=true):refV y=y:=by
 unfold refV at h⊢
 split at h
 ·rename_i h1;rw[if_pos h1]
 ·cases h
theorem Oze {L:List azh} (hv: ∀p∈L,p.2.1.size≤60) {pf:List ByteArray} (hpf: ∀t∈pf,∃y,Czf L y∧bzn y=(t,true)): ∀ (F:Nat) (left:List Int) (u:Nat) (x:ItemT),Czf L x→(∀a∈left,0≤a∧a≤15)→(runV pf F left u x).2.1=true→ ∃p∈L,(runV pf F left u x).1=p.2.1:=by
 intro F
 induction F with
 |zero=>intro left u x hx hl h;cases h
 |succ F ih=>
  intro left u x hx hl h
  obtain ⟨n2,n0⟩:=Mzx hx hl
  unfold runV at h⊢
  have hdr: ∀k,∀a∈left.drop k,0≤a∧a≤15:=fun k a ha=>hl a (List.mem_of_mem_drop ha)
  generalize hk:(az9 x left).2.2=k at h n2 n0⊢
  match k with
  |1=>cases h
  |2=>exact n2 rfl
  |0=>
   simp only[] at h⊢
   obtain ⟨y,hy,e⟩:=n0 rfl
   by_cases h1:(az9 x left).1.l=true
   ·rw[if_pos h1] at h
    rw[if_pos h1]
    have e2:(az9 x left).1=y:=by rw[e];exact Nzy hv hy (by rw[←e];exact h1)
    rw[e2] at h⊢
    exact ih _ _ _ hy (hdr _) h
   ·rw[if_neg h1] at h
    rw[if_neg h1]
    by_cases h32:(az9 x left).1.s.size=32
    ·rw[if_pos h32] at h
     rw[if_pos h32]
     by_cases la:(bzt pf u (az9 x left).1.s).2=0
     ·rw[if_pos la] at h
      rw[if_pos la]
      have hn:Czf L (bzt pf u (az9 x left).1.s).1:=by
       have hu:=(ezC la).2
       unfold bzt at la⊢
       rw[if_pos hu] at la⊢
       split at la
       ·rename_i hh
        rw[if_pos hh]
        obtain ⟨z,hz,e3⟩:=hpf _ (show pf.getD u (bs [])∈pf by rw[List.getD_eq_getElem?_getD,List.getElem?_eq_getElem hu];exact List.getElem_mem hu)
        rw[rzg e3]
        exact hz
       ·cases la
      exact ih _ _ _ hn (hdr _) h
     ·rw[if_neg la] at h
      cases h
    ·rw[if_neg h32] at h
     cases h
  |k+3=>cases h
theorem Pzg {L:List azh} (hv: ∀p∈L,p.2.1.size≤60) {pf:List ByteArray} (hpf: ∀t∈pf,∃y,Czf L y∧bzn y=(t,true)) {root key:ByteArray} (h:(verV root key pf).2.1=true): ∃p∈L,(verV root key pf).1=p.2.1:=by
 have fin: ∀r:ByteArray× (Bool× (Nat×Nat)),(finV pf r).2.1=true→r.2.1=true∧(finV pf r).1=r.1:=by
  intro r hr
  unfold finV at hr⊢
  split at hr
  ·rename_i h0
   split at hr
   ·cases hr
   ·rename_i h1;rw[if_pos h0,if_neg h1];exact ⟨hr,rfl⟩
  ·cases hr
 unfold verV at h⊢
 split at h
 ·cases h
 ·rename_i hn
  rw[if_neg hn]
  split at h
  ·rename_i h0
   rw[if_pos h0]
   split at h
   ·rename_i h1
    have:=(fin _ h).1
    cases this
   ·rename_i h1
    rw[if_neg h1]
    obtain ⟨h2,h3⟩:=fin _ h
    rw[h3]
    refine Oze hv hpf 100 _ 1 _ ?_ (dz0 key) h2
    have hu:=(ezC h0).2
    unfold bzt at h0⊢
    rw[if_pos hu] at h0⊢
    split at h0
    ·rename_i hh
     rw[if_pos hh]
     obtain ⟨z,hz,e3⟩:=hpf _ (show pf.getD 0 (bs [])∈pf by rw[List.getD_eq_getElem?_getD,List.getElem?_eq_getElem hu];exact List.getElem_mem hu)
     rw[rzg e3]
     exact hz
    ·cases h0
  ·cases h
theorem Ezj {L:List azh} (hv: ∀p∈L,p.2.1.size≤60): ∀ (f n:Nat) (l:List azh) (h:List Int),8-n<f→GoodP l n→(∀p∈l,p∈L)→ ∀t∈czg f n l h,∃y,Czf L y∧bzn y=(t,true):=by
 have own: ∀ (f n:Nat) (l:List azh),8-n<f→GoodP l n→(∀p∈l,p∈L)→ ∀t∈ownV f n l,∃y,Czf L y∧bzn y=(t,true):=by
  intro f n l hf hg hL t ht
  by_cases hl:l=[]
  ·subst hl
   rw[JzR] at ht
   cases ht
  ·obtain ⟨c,hc,_⟩:=gzD f n l hf hg (fun p hp=>hv p (hL p hp)) hl
   unfold ownV at ht
   split at ht
   ·rw[List.mem_singleton] at ht
    subst ht
    exact ⟨azF f n l,⟨f,n,l,rfl,hf,hg,hL⟩,by rw[hc.text]⟩
   ·cases ht
 intro f
 induction f with
 |zero=>intro n l h hf;omega
 |succ f ih=>
  intro n l h hf hg hL t ht
  match l,hg,hL with
  | [],hg,hL=>simp [czg] at ht
  | [p],hg,hL=>simp [czg] at ht
  |p::q::r,hg,hL=>
   have hlt:=hg.lt
   unfold czg at ht
   split at ht
   ·have hG:=hg.half hlt (h.getD n 0)
    have hL': ∀x∈(p::q::r).filter (fun p=>az8 p n (h.getD n 0)),x∈L:=fun x hx=>hL x (List.mem_filter.1 hx).1
    rcases List.mem_append.1 ht with ht|ht
    ·exact own f (n+1) _ (by omega) hG hL' t ht
    ·exact ih (n+1) _ h (by omega) hG hL' t ht
   ·split at ht
    ·cases ht
    ·rename_i hs _
     rcases List.mem_append.1 ht with ht|ht
     ·exact own f _ _ (by omega) hg.step hL t ht
     ·exact ih _ _ h (by omega) hg.step hL t ht
theorem Oz3 (L:List azh) (k:ByteArray):(∀p∈L,p.2.1.size≤60)∨az1 L k=[]:=by
 by_cases hp:pokV L=true
 ·exact .inl (lzZ hp)
 ·right;unfold az1;rw[if_neg (fun hh=>hp hh.2)]
theorem Jzc (L:List azh) (k key root:ByteArray) (h:(verV root key (az1 L k)).2.1=true): ∃p∈L,(verV root key (az1 L k)).1=p.2.1:=by
 by_cases hok:k.size=4∧pokV L=true
 ·have hv:=lzZ hok.2
  have hg:=izY hok.2
  refine Pzg hv (fun t ht=>?_) h
  unfold az1 at ht
  rw[if_pos hok] at ht
  rcases List.mem_cons.1 ht with rfl|ht
  ·by_cases hl:L=[]
   ·subst hl
    exact ⟨azF 9 0 [],⟨9,0,[],rfl,by omega,hg,fun p hp=>hp⟩,zI_R⟩
   ·obtain ⟨c,hc,_⟩:=gzD 9 0 L (by omega) hg hv hl
    exact ⟨azF 9 0 L,⟨9,0,L,rfl,by omega,hg,fun p hp=>hp⟩,by rw[hc.text]⟩
  ·exact Ezj hv 9 0 L (nibV k) (by omega) hg (fun p hp=>hp) t ht
 ·have e:az1 L k=[]:=by unfold az1;rw[if_neg hok]
  rw[e] at h
  unfold verV at h
  rw[if_pos (fun hh=>by have:=hh.2.2.1;simp at this)] at h
  cases h
theorem LzH {l:List azb} {p:azh} (hp:p∈azR l): ∃a∈l,yzy a∧pokV a.2.2.2.1=true∧p.2.1=accT a:=by
 unfold azR at hp
 split at hp
 ·rename_i hacc
  obtain ⟨a,ha,rfl⟩:=List.mem_map.1 hp
  exact ⟨a,ha,(uzp hacc).2 a ha,Mzt hacc a ha,rfl⟩
 ·cases hp
theorem Izz (root ro k s:ByteArray) (l:List azb) (pf br sl:List ByteArray) (hbr:br.length=2→ ∀y∈br,y.size=32) (H:(verV ro k pf).2.1=true→ ∃a∈l,yzy a∧pokV a.2.2.2.1=true∧(verV ro k pf).1=accT a):
 ∃ (v:ByteArray) (b:Bool) (c:Int),czy (root,((k,(s,(ro,(br,(pf,(sl,())))))),()))=some ((v,(b,(c,()))),())∧izg (root,((k,(s,(ro,(br,(pf,(sl,())))))),()))=some ((v,(b,(c,()))),())∧(c=0∨(v=bs []∧b=false)):=by
 rw[kzN,uzL]
 simp only[]
 rw[czG,azd,czY (x:=ssz ro) (y:=32),azN]
 simp only[]
 by_cases h32:ro.size=32
 ·rw[decide_eq_true h32,show bnot true=false from rfl,azc,decide_eq_true (by omega:(ro.size:Int)=32),Bool.not_true,azc]
  by_cases h2:br.length=2
  ·obtain ⟨A,B,rfl⟩: ∃A B,br=[A,B]:=by
    match br,h2 with
    | [A,B],_=>exact ⟨A,B,rfl⟩
   rw[yzG,show ine 2 2=false from rfl,azc,azc]
   obtain ⟨hA,hB⟩:A.size=32∧B.size=32:=⟨hbr rfl A (by simp),hbr rfl B (by simp)⟩
   rw[LzM _ _ _ (by omega) hA hB,azd,Pzy _ _ _ (by omega) hA hB,azd]
   simp only[]
   cases sne (Lzs ro A B) root with
   |true=>exact ⟨bs [],false,2,rfl,rfl, .inr ⟨rfl,rfl⟩⟩
   |false=>
    rw[azc,azc,xzs,azd,Dzx,azd]
    simp only[]
    cases ine (verV ro k pf).2.2.1 0 with
    |true=>exact ⟨bs [],false,_,rfl,rfl, .inr ⟨rfl,rfl⟩⟩
    |false=>
     rw[azc,azc]
     cases hb:(verV ro k pf).2.1 with
     |false=>
      rw[show bnot false=true from rfl,aza,aza]
      cases igt (len sl) 0 with
      |true=>exact ⟨bs [],false,4,rfl,rfl, .inr ⟨rfl,rfl⟩⟩
      |false=>exact ⟨bs [],false,0,rfl,rfl, .inl rfl⟩
     |true=>
      rw[show bnot true=false from rfl,azc,azc]
      obtain ⟨a,ha,hok,hp,hv⟩:=H hb
      have hr32:(azS a.2.2.2.1).size=32:=by
       unfold azS;rw[if_pos hp];exact azD _
      obtain ⟨e1,e2⟩:=uzj a hok hr32
      rw[hv,e1,azd,e2,azd]
      simp only[]
      rw[show bnot true=false from rfl,azc,azc,xzs,azd,Dzx,azd]
      simp only[]
      cases ine (verV (azS a.2.2.2.1) s sl).2.2.1 0 with
      |true=>exact ⟨bs [],false,_,rfl,rfl, .inr ⟨rfl,rfl⟩⟩
      |false=>exact ⟨_,_,0,rfl,rfl, .inl rfl⟩
  ·have e:ine (len br) 2=true:=by rw[czY,azA,decide_eq_false (by omega)];rfl
   rw[e,aza,aza]
   exact ⟨bs [],false,1,rfl,rfl, .inr ⟨rfl,rfl⟩⟩
 ·rw[decide_eq_false h32,show bnot false=true from rfl,aza,decide_eq_false (by omega: ¬(ro.size:Int)=32),Bool.not_false,aza]
  exact ⟨bs [],false,1,rfl,rfl, .inr ⟨rfl,rfl⟩⟩
end Go.Proofs.YtdfbhjpmdjmdaaaGreatDoor
