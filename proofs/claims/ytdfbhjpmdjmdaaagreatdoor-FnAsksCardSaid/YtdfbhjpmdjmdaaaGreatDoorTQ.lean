/- Proofs of tries are made, as the reference makes them. Of no condition. -/
import Derived.Test.YtdfbhjpmdjmdaaaGreatDoorDB
set_option linter.unusedVariables false
set_option linter.unusedSimpArgs false
set_option maxRecDepth 100000
namespace Go.Proofs.YtdfbhjpmdjmdaaaGreatDoor
open Go.TV
theorem yzA {f n:Nat} {p:azh} {left:List Int} (hp:(nibV p.1).length=8):(az9 (azF (f+1) n [p]) left).2.2≠0:=by
 have hnd: ∀x∈(nibV p.1).drop n,0≤x∧x≤15:=fun x hx=>dz0 p.1 x (List.mem_of_mem_drop hx)
 have hr:rpV (preV ((nibV p.1).drop n) true)=((nibV p.1).drop n,(true,true)):=yzp _ _ hnd (by rw[List.length_drop];omega)
 have hx:az9 (azF (f+1) n [p]) left=if comV ((nibV p.1).drop n) left<((nibV p.1).drop n).length∨(true=true∧comV ((nibV p.1).drop n) left<left.length) then (azF (f+1) n [p],(comV ((nibV p.1).drop n) left,1)) else (.mk false p.2.1 [],(comV ((nibV p.1).drop n) left,2)):=by
  unfold az9
  simp only[azF,ItemT.l,ItemT.k,ItemT.s,List.getD_cons_zero,List.getD_cons_succ,hr]
  rfl
 rw[hx]
 split
 ·exact Nat.one_ne_zero
 ·exact Nat.succ_ne_zero 1
theorem BzR {left:List Int} (f n:Nat):(az9 (azF f n []) left).2.2≠0:=by
 have:azF f n []= .mk false (bs []) []:=by cases f<;>rfl
 rw[this]
 unfold az9
 rw[if_pos (show (ItemT.mk false (bs []) []).l=false from rfl)]
 exact Nat.succ_ne_zero 2
theorem szA {f n sh:Nat} {p q:azh} {r:List azh} {left:List Int} (h:GoodP (p::q::r) n) (hsh:shV (q::r) ((nibV p.1).drop n) n (8-n)=sh) (hs:0<sh):
 az9 (azF (f+1) n (p::q::r)) left=if comV (((nibV p.1).drop n).take sh) left<sh then (azF (f+1) n (p::q::r),(comV (((nibV p.1).drop n).take sh) left,1)) else (refV (azF f (n+sh) (p::q::r)),(comV (((nibV p.1).drop n).take sh) left,0)):=by
 have hT:=xzU f n p q r
 have hp:=h.nib (p:=p) (by simp)
 have hshle:=rzJ (q::r) ((nibV p.1).drop n) n (8-n)
 rw[hsh] at hT hshle
 rw[if_pos hs] at hT
 have hnd: ∀x∈((nibV p.1).drop n).take sh,0≤x∧x≤15:=fun x hx=>dz0 p.1 x (List.mem_of_mem_drop (List.mem_of_mem_take hx))
 have hpl:(((nibV p.1).drop n).take sh).length=sh:=by rw[List.length_take,List.length_drop,hp];omega
 have hr:rpV (preV (((nibV p.1).drop n).take sh) false)=(((nibV p.1).drop n).take sh,(false,true)):=yzp _ _ hnd (by omega)
 rw[hT]
 unfold az9
 simp only[ItemT.l,ItemT.k,ItemT.s,List.getD_cons_zero,List.getD_cons_succ,hr,hpl]
 by_cases hcs:comV (((nibV p.1).drop n).take sh) left<sh
 ·rw[if_pos hcs,if_neg (by decide),if_neg (by simp),if_neg (by simp),if_neg (by decide),if_pos (.inl hcs)]
 ·rw[if_neg hcs,if_neg (by decide),if_neg (by simp),if_neg (by simp),if_neg (by decide),if_neg (fun hh=>hh.elim hcs (fun h2=>by cases h2.1)),if_neg (by decide)]
theorem qzk {f n a:Nat} {p q:azh} {r:List azh} {rest:List Int} (hsh:shV (q::r) ((nibV p.1).drop n) n (8-n)=0) (ha:a<16):
 az9 (azF (f+1) n (p::q::r)) ((a:Int)::rest)=if (refV (azF f (n+1) ((p::q::r).filter fun p=>az8 p n (a:Int)))).l=false∧(refV (azF f (n+1) ((p::q::r).filter fun p=>az8 p n (a:Int)))).s=bs [] then (refV (azF f (n+1) ((p::q::r).filter fun p=>az8 p n (a:Int))),(1,1)) else (refV (azF f (n+1) ((p::q::r).filter fun p=>az8 p n (a:Int))),(1,0)):=by
 have hT:=xzU f n p q r
 rw[hsh,if_neg (Nat.lt_irrefl 0)] at hT
 have hkid:((kzZ (fun k=>refV (azF f (n+1) ((p::q::r).filter fun p=>az8 p n (k:Int)))) 0 16).getD a zI)=refV (azF f (n+1) ((p::q::r).filter fun p=>az8 p n (a:Int))):=by
  rw[BzU _ _ _ _ ha,Nat.zero_add]
 rw[hT]
 unfold az9
 simp only[ItemT.l,ItemT.k,ozP,Int.toNat_natCast,hkid]
 rfl
theorem BzO {f n:Nat} {l:List azh} (hf:8-n<f) (h:GoodP l n) (hv: ∀p∈l,p.2.1.size≤60) (hl:l≠ []): ¬((refV (azF f n l)).l=false∧(refV (azF f n l)).s=bs []):=by
 obtain ⟨c,hc,_⟩:=gzD f n l hf h hv hl
 rw[hc.ref]
 split
 ·rw[hc.l];exact fun hh=>by cases hh.1
 ·intro hh
  have h1:=hh.2
  have h2:=azD (azt 5 (azF f n l))
  rw[show (ItemT.mk false (azo (azt 5 (azF f n l))) []).s=azo (azt 5 (azF f n l)) from rfl] at h1
  rw[h1] at h2
  cases h2
theorem KzJ {f n:Nat} {l:List azh} (hf:8-n<f) (h:GoodP l n) (hv: ∀p∈l,p.2.1.size≤60):KidS (azF f n l):=by
 by_cases hl:l=[]
 ·subst hl
  have:azF f n []= .mk false (bs []) []:=by cases f<;>rfl
  rw[this]
  exact fun y hy=>by cases hy
 ·obtain ⟨c,hc,_⟩:=gzD f n l hf h hv hl
  exact rzW hc.f4
theorem JzR (f n:Nat):ownV f n []=[]:=by
 have:azF f n []= .mk false (bs []) []:=by cases f<;>rfl
 unfold ownV
 rw[this,zI_R,if_neg (by show¬31<(azt 5 (.mk false (bs []) [])).size;rw[xzu];omega)]
theorem Cz9 (f n:Nat) (h:List Int):czg f n [] h=[]:=by cases f<;>rfl
def goV (l:List azh) (left:List Int) (m:Nat):List azh:=l.filter fun p=>decide (m≤comV (nibV p.1) left)
theorem AzF (out:List ByteArray) (l:List azh) (hl:l.length≤1000) (hk: ∀p∈l,p.1.size=4) (a c:Nat) (hac:a≤100∧c≤100) (left:List Int) (b:Bool): ∀ (m i:Nat) (acc:List azh),i+m=l.length→acc.length≤i→
 czI (out,(l,((a:Int),(left,(b,((c:Int),(acc,((i:Int),()))))))))=fzY (out,(acc++goV (l.drop i) left (a+c),(((a+c:Nat):Int),(left,(b,()))))):=by
 intro m
 induction m with
 |zero=>
  intro i acc hi ha
  rw[qzs,show (i:Int)=(l.length:Int) by omega,bzb,azc,List.drop_eq_nil_of_le (by omega),azH (by omega) (by omega)]
  unfold goV
  rw[List.filter_nil,List.append_nil]
  rfl
 |succ m ih=>
  intro i acc hi ha
  have h1:i<l.length:=by omega
  have hz:=hk l[i] (List.getElem_mem h1)
  rw[qzs,bzp h1,aza,az0 h1,aza,bzA h1,szb _ (by omega),azd]
  simp only[]
  rw[Mzo _ _ (by rw[czN];omega),azd,azH (x:=(a:Int)) (by omega) (by omega),List.drop_eq_getElem_cons h1]
  simp only[]
  have e:goV (l[i]::l.drop (i+1)) left (a+c)=if a+c≤comV (nibV l[i].1) left then l[i]::goV (l.drop (i+1)) left (a+c) else goV (l.drop (i+1)) left (a+c):=by
   unfold goV
   rw[List.filter_cons]
   by_cases hc:a+c≤comV (nibV l[i].1) left
   ·rw[if_pos (decide_eq_true hc),if_pos hc]
   ·rw[if_neg (by rw[decide_eq_false hc];decide),if_neg hc]
  rw[e]
  by_cases hc:a+c≤comV (nibV l[i].1) left
  ·rw[czX,decide_eq_true (by omega),aza,aza,azv (by decide) (by simp only[List.length_cons,List.length_nil];omega),aza,if_pos hc,azq (by omega)]
   refine (ih (i+1) (acc++[l[i]]) (by omega) (by rw[List.length_append];simp only[List.length_cons,List.length_nil];omega)).trans ?_
   rw[List.append_assoc]
   rfl
  ·rw[czX,decide_eq_false (by omega),azc,if_neg hc,azq (by omega)]
   exact ih (i+1) acc (by omega) (by omega)
theorem Qzj {a b:List Int} {n:Nat} (h:a.take n=b.take n) (ha:n<a.length) (hb:n<b.length):n+1≤comV a b↔a[n]=b[n]:=by
 have hn:n≤comV a b:=by
  have h5:=qzR n a b (by omega)
  have h6:=qzR n b b (by omega)
  rw[szH] at h6
  rw[h] at h5
  omega
 have hd:=Gzi n a b hn
 rw[AzR ha hb] at hd
 split at hd
 ·rename_i e;exact ⟨fun _=>e,fun _=>by omega⟩
 ·rename_i e;exact ⟨fun hh=>by omega,fun hh=>absurd hh e⟩
theorem Fz5: ∀ (f n:Nat) (l:List azh) (out:List ByteArray) (k:ByteArray) (told:Bool),8-n<f→GoodP l n→(∀p∈l,p.2.1.size≤60)→k.size=4→(∀p∈l,(nibV p.1).take n=(nibV k).take n)→out.length+f≤1000→
 fzY (out,(l,((n:Int),(nibV k,(told,())))))=some ((out++((if told=true then [(bzn (azF f n l)).1] else ownV f n l)++czg f n l (nibV k)),()),()):=by
 intro f
 induction f with
 |zero=>intro n l out k told h;omega
 |succ f IH=>
  intro n l out k told hf h hv hk hag ho
  have hkl:(nibV k).length=8:=by rw[czN,hk]
  have hle:=h.le
  have hnin: ∀a∈(nibV k).drop n,0≤a∧a≤15:=fun a ha=>dz0 k a (List.mem_of_mem_drop ha)
  have hkid:=KzJ hf h hv
  have h12: ∀out':List ByteArray,out'.length+f≤1000→czL (out',(l,((n:Int),(nibV k,(azF (f+1) n l,())))))=some ((out'++czg (f+1) n l (nibV k),()),()):=by
   intro out' ho'
   rw[yz7,bzu (by omega) (by rw[azA];omega) (Int.le_refl _),aza,hzC,Fz4 _ _ hkid hnin (by rw[List.length_drop];omega),azd,czY]
   simp only[]
   match l,h,hv,hag,hkid with
   | [],h,hv,hag,hkid=>
     have:=BzR (left:=(nibV k).drop n) (f+1) n
     rw[decide_eq_false (by omega),Bool.not_false,aza,Cz9,List.append_nil]
   | [p],h,hv,hag,hkid=>
     have:=yzA (f:=f) (n:=n) (left:=(nibV k).drop n) (h.nib (p:=p) (by simp))
     rw[decide_eq_false (by omega),Bool.not_false,aza]
     simp [czg]
   |p::q::r,h,hv,hag,hkid=>
    have hlt:=h.lt
    have hp:=h.nib (p:=p) (by simp)
    have hst:=h.step
    have hln:=h.len
    have hcomk:=wzj (q::r) ((nibV p.1).drop n) n (8-n)
    have hshle:=rzJ (q::r) ((nibV p.1).drop n) n (8-n)
    have hway:=fun sh=>szA (f:=f) (sh:=sh) (left:=(nibV k).drop n) h
    have hfork:=fun a rest=>qzk (f:=f) (n:=n) (a:=a) (p:=p) (q:=q) (r:=r) (rest:=rest)
    unfold czg
    generalize hsh:shV (q::r) ((nibV p.1).drop n) n (8-n)=sh at*
    by_cases hs:sh=0
    ·subst hs
     rw[if_pos rfl]
     obtain ⟨a,ha1,ha2⟩: ∃a:Nat,(nibV k).getD n 0=(a:Int)∧a<16:=by
      have h1:n<(nibV k).length:=by omega
      have h2:=dz0 k (nibV k)[n] (List.getElem_mem h1)
      rw[List.getD_eq_getElem?_getD,List.getElem?_eq_getElem h1,Option.getD_some]
      exact ⟨(nibV k)[n].toNat,by omega,by omega⟩
     have hkn:n<(nibV k).length:=by omega
     have hk0:(nibV k)[n]=(a:Int):=by
      rw[List.getD_eq_getElem?_getD,List.getElem?_eq_getElem hkn,Option.getD_some] at ha1
      exact ha1
     have hkd:(nibV k).drop n=(a:Int)::(nibV k).drop (n+1):=by rw[List.drop_eq_getElem_cons hkn,hk0]
     rw[ha1]
     have hx:=hfork a ((nibV k).drop (n+1)) rfl ha2
     rw[←hkd] at hx
     have hfl:goV (p::q::r) (nibV k) (n+1)=(p::q::r).filter fun p=>az8 p n (a:Int):=by
      unfold goV
      apply List.filter_congr
      intro x hxm
      have hl8:=h.nib hxm
      have hc:=Qzj (hag x hxm) (by omega) hkn
      have e:az8 x n (a:Int)=decide ((nibV x.1)[n]'(by omega)=(a:Int)):=by
       unfold az8
       rw[List.getD_eq_getElem?_getD,List.getElem?_eq_getElem (by omega:n<(nibV x.1).length),Option.getD_some]
      rw[e]
      simp only[decide_eq_decide]
      rw[hc,hk0]
     by_cases he:((p::q::r).filter fun p=>az8 p n (a:Int))=[]
     ·rw[he] at hx
      have e0:refV (azF f (n+1) [])= .mk false (bs []) []:=by
       have:azF f (n+1) []= .mk false (bs []) []:=by cases f<;>rfl
       rw[this];exact Jz4
      rw[e0,if_pos ⟨rfl,rfl⟩] at hx
      rw[hx,he,JzR,Cz9]
      show Go.TV.cnd (!decide (((1:Nat):Int)=0)) _ _=_
      rw[show (!decide (((1:Nat):Int)=0))=true from rfl,aza,List.append_nil,List.append_nil]
     ·have hG:=h.half hlt (a:Int)
      rw[if_neg (BzO (by omega) hG (fun p hp=>hv p (List.mem_filter.1 hp).1) he)] at hx
      rw[hx]
      show Go.TV.cnd (!decide (((0:Nat):Int)=0)) _ (czI (out',(p::q::r,((n:Int),(nibV k,(false,(((1:Nat):Int),(([]:List azh),((0:Int),())))))))))=_
      rw[show (!decide (((0:Nat):Int)=0))=false from rfl,azc]
      have hl:=AzF out' (p::q::r) (by omega) h.key n 1 (by omega) (nibV k) false (p::q::r).length 0 [] (by omega) (by simp)
      rw[show ((0:Nat):Int)=0 from rfl,List.drop_zero,hfl,List.nil_append] at hl
      rw[hl,IH (n+1) _ out' k false (by omega) hG (fun p hp=>hv p (List.mem_filter.1 hp).1) hk (fun x hxm=>?_) (by omega)]
      ·rfl
      ·obtain ⟨m1,m2⟩:=List.mem_filter.1 hxm
       rw[←hfl] at hxm
       have m3:=of_decide_eq_true (List.mem_filter.1 hxm).2
       exact kzU _ _ _ m3
    ·rw[if_neg hs]
     have hx:=hway sh rfl (by omega)
     have hpl:(((nibV p.1).drop n).take sh).length=sh:=by rw[List.length_take,List.length_drop,hp];omega
     have hiff:=qzR sh ((nibV p.1).drop n) ((nibV k).drop n) (by rw[List.length_drop];omega)
     rw[rz7 ((nibV p.1).drop n)] at hiff
     by_cases hck:comV ((nibV k).drop n) ((nibV p.1).drop n)<sh
     ·rw[if_pos (hiff.2 hck)] at hx
      rw[hx,if_pos hck,List.append_nil]
      show Go.TV.cnd (!decide (((1:Nat):Int)=0)) _ _=_
      rw[show (!decide (((1:Nat):Int)=0))=true from rfl,aza]
     ·have hcn:comV (((nibV p.1).drop n).take sh) ((nibV k).drop n)=sh:=by
       have h1:=(uz2 (((nibV p.1).drop n).take sh) ((nibV k).drop n)).1
       have h2: ¬comV (((nibV p.1).drop n).take sh) ((nibV k).drop n)<sh:=fun hh=>hck (hiff.1 hh)
       omega
      rw[if_neg (fun hh=>hck (hiff.1 hh)),hcn] at hx
      rw[hx,if_neg hck]
      show Go.TV.cnd (!decide (((0:Nat):Int)=0)) _ (czI (out',(p::q::r,((n:Int),(nibV k,(false,((sh:Int),(([]:List azh),((0:Int),())))))))))=_
      rw[show (!decide (((0:Nat):Int)=0))=false from rfl,azc]
      have hl:=AzF out' (p::q::r) (by omega) h.key n sh (by omega) (nibV k) false (p::q::r).length 0 [] (by omega) (by simp)
      have hsame: ∀x∈p::q::r,(nibV x.1).take (n+sh)=(nibV k).take (n+sh):=fun x hxm=>by
       rw[List.take_add,List.take_add,hag x hxm]
       congr 1
       have e1:((nibV p.1).drop n).take sh=((nibV k).drop n).take sh:=(kzU _ _ _ (by omega)).symm
       rcases List.mem_cons.1 hxm with rfl|hx2
       ·exact e1
       ·rw[←e1];exact (kzU _ _ _ (hcomk x hx2)).symm
      have hfl:goV (p::q::r) (nibV k) (n+sh)=p::q::r:=by
       unfold goV
       rw[List.filter_eq_self]
       intro x hxm
       have hl8:=h.nib hxm
       refine decide_eq_true ?_
       have h5:=qzR (n+sh) (nibV x.1) (nibV k) (by omega)
       have h6:comV ((nibV x.1).take (n+sh)) (nibV k)=n+sh:=by
        rw[hsame x hxm]
        have h7:=qzR (n+sh) (nibV k) (nibV k) (by omega)
        rw[szH] at h7
        have h8:=(uz2 ((nibV k).take (n+sh)) (nibV k)).1
        rw[List.length_take] at h8
        omega
       omega
      rw[show ((0:Nat):Int)=0 from rfl,List.drop_zero,hfl,List.nil_append] at hl
      rw[hl,IH (n+sh) _ out' k false (by omega) hst hv hk hsame (by omega)]
      rfl
  have hz:=fzu (azF (f+1) n l)
  rw[Bz9,(FzX (f+1) n l hf h).2,azd]
  simp only[]
  rw[ez6,azd]
  simp only[]
  cases told with
  |true=>
   rw[aza,azv (by decide) (by simp only[List.length_cons,List.length_nil];omega),aza,if_pos rfl]
   show czL (out++[(bzn (azF (f+1) n l)).1],(l,((n:Int),(nibV k,(azF (f+1) n l,())))))=_
   rw[h12 _ (by simp only[List.length_append,List.length_cons,List.length_nil];omega),List.append_assoc]
  |false=>
   rw[azc,if_neg (by decide),azN,czX]
   unfold ownV
   by_cases h31:31<(bzn (azF (f+1) n l)).1.size
   ·rw[decide_eq_true (by omega),aza,azv (by decide) (by simp only[List.length_cons,List.length_nil];omega),aza,if_pos h31]
    show czL (out++[(bzn (azF (f+1) n l)).1],(l,((n:Int),(nibV k,(azF (f+1) n l,())))))=_
    rw[h12 _ (by simp only[List.length_append,List.length_cons,List.length_nil];omega),List.append_assoc]
   ·rw[decide_eq_false (by omega),azc,if_neg h31,h12 _ (by omega),List.nil_append]
theorem lzZ {l:List azh} (h:pokV l=true): ∀p∈l,p.2.1.size≤60:=by
 intro p hp
 obtain ⟨j,hj,rfl⟩:=List.getElem_of_mem hp
 unfold pokV at h
 rw[Bool.and_eq_true] at h
 have h1:=Bzn l l.length 0 h.2 j (by omega) (by omega)
 unfold pokA at h1
 simp only[Bool.and_eq_true,decide_eq_true_eq,bzA hj,azN] at h1
 omega
theorem Dzc (l:List azh) (k:ByteArray) (hl:l.length≤1000000000):hzI (l,(k,()))=some ((az1 l k,()),()):=by
 rw[DzK,KzX l hl,azd]
 unfold az1
 simp only[]
 cases hp:pokV l with
 |false=>rw[if_neg (fun hh=>by cases hh.2)];rfl
 |true=>
  rw[show bnot true=false from rfl,azc,czY,azN]
  by_cases hk:k.size=4
  ·rw[decide_eq_true (by omega),Bool.not_true,azc,szb k (by omega),azd,if_pos ⟨hk,rfl⟩]
   exact Fz5 9 0 l [] k true (by omega) (izY hp) (lzZ hp) hk (fun p hp=>by simp) (by simp)
  ·rw[decide_eq_false (by omega),Bool.not_false,aza,if_neg (fun hh=>hk hh.1)]
theorem mzS (l:List azh) (k:ByteArray):(az1 l k).length≤10:=by
 unfold az1
 split
 ·have:=lz0 9 0 l (nibV k)
  simp only[izu,List.length_cons];omega
 ·simp
theorem AzP (l:List azh) (k:ByteArray): ∀t∈az1 l k,t.size≤900:=by
 intro t ht
 have own: ∀f n l,t∈ownV f n l→t.size≤900:=fun f n l ht=>by
  have:=fzu (azF f n l)
  unfold ownV at ht
  split at ht
  ·rw[List.mem_singleton.1 ht];exact this
  ·cases ht
 have go: ∀ (f n:Nat) (l:List azh) (h:List Int),t∈czg f n l h→t.size≤900:=by
  intro f
  induction f with
  |zero=>intro n l h ht;simp [czg] at ht
  |succ f ih=>
   intro n l h ht
   match l with
   | []=>simp [czg] at ht
   | [p]=>simp [czg] at ht
   |p::q::r=>
    unfold czg at ht
    split at ht
    ·rcases List.mem_append.1 ht with ht|ht
     ·exact own _ _ _ ht
     ·exact ih _ _ _ ht
    ·split at ht
     ·cases ht
     ·rcases List.mem_append.1 ht with ht|ht
      ·exact own _ _ _ ht
      ·exact ih _ _ _ ht
 unfold az1 at ht
 split at ht
 ·rcases List.mem_cons.1 ht with rfl|ht
  ·exact fzu _
  ·exact go _ _ _ _ ht
 ·cases ht
end Go.Proofs.YtdfbhjpmdjmdaaaGreatDoor
