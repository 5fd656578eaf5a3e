/- Proofs of tries are made, as the reference makes them. Of no condition. -/
import Derived.Test.YthldgfkkgmpmlaaGreatDoorTG
set_option linter.unusedVariables false
set_option linter.unusedSimpArgs false
set_option maxRecDepth 100000
namespace Go.Proofs.YthldgfkkgmpmlaaGreatDoor
open Go.TV
theorem Dzj {f n:Nat} {p:azl} {left:List Int} (hp:(nibV p.1).length=8):(bzR (azD (f+1) n [p]) left).2.2≠0:=by
 have hnd: ∀x∈(nibV p.1).drop n,0≤x∧x≤15:=fun x hx=>fzp p.1 x (List.mem_of_mem_drop hx)
 have hr:rpV (preV ((nibV p.1).drop n) true)=((nibV p.1).drop n,(true,true)):=Fzn _ _ hnd (by rw[List.length_drop];omega)
 have hx:bzR (azD (f+1) n [p]) left=if comV ((nibV p.1).drop n) left<((nibV p.1).drop n).length∨(true=true∧comV ((nibV p.1).drop n) left<left.length) then (azD (f+1) n [p],(comV ((nibV p.1).drop n) left,1)) else (.mk false p.2.1 [],(comV ((nibV p.1).drop n) left,2)):=by
  unfold bzR
  simp only[azD,ItemT.l,ItemT.k,ItemT.s,List.getD_cons_zero,List.getD_cons_succ,hr]
  rfl
 rw[hx]
 split
 ·exact Nat.one_ne_zero
 ·exact Nat.succ_ne_zero 1
theorem Gzp {left:List Int} (f n:Nat):(bzR (azD f n []) left).2.2≠0:=by
 have:azD f n []= .mk false (bs []) []:=by cases f<;>rfl
 rw[this]
 unfold bzR
 rw[if_pos (show (ItemT.mk false (bs []) []).l=false from rfl)]
 exact Nat.succ_ne_zero 2
theorem Fzy {f n sh:Nat} {p q:azl} {r:List azl} {left:List Int} (h:GoodP (p::q::r) n) (hsh:shV (q::r) ((nibV p.1).drop n) n (8-n)=sh) (hs:0<sh):
 bzR (azD (f+1) n (p::q::r)) left=if comV (((nibV p.1).drop n).take sh) left<sh then (azD (f+1) n (p::q::r),(comV (((nibV p.1).drop n).take sh) left,1)) else (refV (azD f (n+sh) (p::q::r)),(comV (((nibV p.1).drop n).take sh) left,0)):=by
 have hT:=Gzy f n p q r
 have hp:=h.nib (p:=p) (by simp)
 have hshle:=uzC (q::r) ((nibV p.1).drop n) n (8-n)
 rw[hsh] at hT hshle
 rw[if_pos hs] at hT
 have hnd: ∀x∈((nibV p.1).drop n).take sh,0≤x∧x≤15:=fun x hx=>fzp p.1 x (List.mem_of_mem_drop (List.mem_of_mem_take hx))
 have hpl:(((nibV p.1).drop n).take sh).length=sh:=by rw[List.length_take,List.length_drop,hp];omega
 have hr:rpV (preV (((nibV p.1).drop n).take sh) false)=(((nibV p.1).drop n).take sh,(false,true)):=Fzn _ _ hnd (by omega)
 rw[hT]
 unfold bzR
 simp only[ItemT.l,ItemT.k,ItemT.s,List.getD_cons_zero,List.getD_cons_succ,hr,hpl]
 by_cases hcs:comV (((nibV p.1).drop n).take sh) left<sh
 ·rw[if_pos hcs,if_neg (by decide),if_neg (by simp),if_neg (by simp),if_neg (by decide),if_pos (.inl hcs)]
 ·rw[if_neg hcs,if_neg (by decide),if_neg (by simp),if_neg (by simp),if_neg (by decide),if_neg (fun hh=>hh.elim hcs (fun h2=>by cases h2.1)),if_neg (by decide)]
theorem Dzf {f n a:Nat} {p q:azl} {r:List azl} {rest:List Int} (hsh:shV (q::r) ((nibV p.1).drop n) n (8-n)=0) (ha:a<16):
 bzR (azD (f+1) n (p::q::r)) ((a:Int)::rest)=if (refV (azD f (n+1) ((p::q::r).filter fun p=>az6 p n (a:Int)))).l=false∧(refV (azD f (n+1) ((p::q::r).filter fun p=>az6 p n (a:Int)))).s=bs [] then (refV (azD f (n+1) ((p::q::r).filter fun p=>az6 p n (a:Int))),(1,1)) else (refV (azD f (n+1) ((p::q::r).filter fun p=>az6 p n (a:Int))),(1,0)):=by
 have hT:=Gzy f n p q r
 rw[hsh,if_neg (Nat.lt_irrefl 0)] at hT
 have hkid:((mzl (fun k=>refV (azD f (n+1) ((p::q::r).filter fun p=>az6 p n (k:Int)))) 0 16).getD a zI)=refV (azD f (n+1) ((p::q::r).filter fun p=>az6 p n (a:Int))):=by
  rw[GzV _ _ _ _ ha,Nat.zero_add]
 rw[hT]
 unfold bzR
 simp only[ItemT.l,ItemT.k,uzn,Int.toNat_natCast,hkid]
 rfl
theorem GzM {f n:Nat} {l:List azl} (hf:8-n<f) (h:GoodP l n) (hv: ∀p∈l,p.2.1.size≤60) (hl:l≠ []): ¬((refV (azD f n l)).l=false∧(refV (azD f n l)).s=bs []):=by
 obtain ⟨c,hc,_⟩:=mzW f n l hf h hv hl
 rw[hc.ref]
 split
 ·rw[hc.l];exact fun hh=>by cases hh.1
 ·intro hh
  have h1:=hh.2
  have h2:=azE (azs 5 (azD f n l))
  rw[show (ItemT.mk false (azm (azs 5 (azD f n l))) []).s=azm (azs 5 (azD f n l)) from rfl] at h1
  rw[h1] at h2
  cases h2
theorem Szj {f n:Nat} {l:List azl} (hf:8-n<f) (h:GoodP l n) (hv: ∀p∈l,p.2.1.size≤60):KidS (azD f n l):=by
 by_cases hl:l=[]
 ·subst hl
  have:azD f n []= .mk false (bs []) []:=by cases f<;>rfl
  rw[this]
  exact fun y hy=>by cases hy
 ·obtain ⟨c,hc,_⟩:=mzW f n l hf h hv hl
  exact vz5 hc.f4
theorem WzA (f n:Nat):ownV f n []=[]:=by
 have:azD f n []= .mk false (bs []) []:=by cases f<;>rfl
 unfold ownV
 rw[this,zI_R,if_neg (by show¬31<(azs 5 (.mk false (bs []) [])).size;rw[zz8];omega)]
theorem HzV (f n:Nat) (h:List Int):czO f n [] h=[]:=by cases f<;>rfl
def goV (l:List azl) (left:List Int) (m:Nat):List azl:=l.filter fun p=>decide (m≤comV (nibV p.1) left)
theorem Dzo (out:List ByteArray) (l:List azl) (hl:l.length≤1000) (hk: ∀p∈l,p.1.size=4) (a c:Nat) (hac:a≤100∧c≤100) (left:List Int) (b:Bool): ∀ (m i:Nat) (acc:List azl),i+m=l.length→acc.length≤i→
 czG (out,(l,((a:Int),(left,(b,((c:Int),(acc,((i:Int),()))))))))=gzE (out,(acc++goV (l.drop i) left (a+c),(((a+c:Nat):Int),(left,(b,()))))):=by
 intro m
 induction m with
 |zero=>
  intro i acc hi ha
  rw[szH,show (i:Int)=(l.length:Int) by omega,az7,azc,List.drop_eq_nil_of_le (by omega),azA (by omega) (by omega)]
  unfold goV
  rw[List.filter_nil,List.append_nil]
  rfl
 |succ m ih=>
  intro i acc hi ha
  have h1:i<l.length:=by omega
  have hz:=hk l[i] (List.getElem_mem h1)
  rw[szH,bzh h1,aza,azP h1,aza,bzs h1,vzO _ (by omega),azb]
  simp only[]
  rw[Rz4 _ _ (by rw[czL];omega),azb,azA (x:=(a:Int)) (by omega) (by omega),List.drop_eq_getElem_cons h1]
  simp only[]
  have e:goV (l[i]::l.drop (i+1)) left (a+c)=if a+c≤comV (nibV l[i].1) left then l[i]::goV (l.drop (i+1)) left (a+c) else goV (l.drop (i+1)) left (a+c):=by
   unfold goV
   rw[List.filter_cons]
   by_cases hc:a+c≤comV (nibV l[i].1) left
   ·rw[if_pos (decide_eq_true hc),if_pos hc]
   ·rw[if_neg (by rw[decide_eq_false hc];decide),if_neg hc]
  rw[e]
  by_cases hc:a+c≤comV (nibV l[i].1) left
  ·rw[czK,decide_eq_true (by omega),aza,aza,azv (by decide) (by simp only[List.length_cons,List.length_nil];omega),aza,if_pos hc,azq (by omega)]
   refine (ih (i+1) (acc++[l[i]]) (by omega) (by rw[List.length_append];simp only[List.length_cons,List.length_nil];omega)).trans ?_
   rw[List.append_assoc]
   rfl
  ·rw[czK,decide_eq_false (by omega),azc,if_neg hc,azq (by omega)]
   exact ih (i+1) acc (by omega) (by omega)
theorem Wzu {a b:List Int} {n:Nat} (h:a.take n=b.take n) (ha:n<a.length) (hb:n<b.length):n+1≤comV a b↔a[n]=b[n]:=by
 have hn:n≤comV a b:=by
  have h5:=tzl n a b (by omega)
  have h6:=tzl n b b (by omega)
  rw[vzW] at h6
  rw[h] at h5
  omega
 have hd:=KzG n a b hn
 rw[Fze ha hb] at hd
 split at hd
 ·rename_i e;exact ⟨fun _=>e,fun _=>by omega⟩
 ·rename_i e;exact ⟨fun hh=>by omega,fun hh=>absurd hh e⟩
theorem Mzl: ∀ (f n:Nat) (l:List azl) (out:List ByteArray) (k:ByteArray) (told:Bool),8-n<f→GoodP l n→(∀p∈l,p.2.1.size≤60)→k.size=4→(∀p∈l,(nibV p.1).take n=(nibV k).take n)→out.length+f≤1000→
 gzE (out,(l,((n:Int),(nibV k,(told,())))))=some ((out++((if told=true then [(bzu (azD f n l)).1] else ownV f n l)++czO f n l (nibV k)),()),()):=by
 intro f
 induction f with
 |zero=>intro n l out k told h;omega
 |succ f IH=>
  intro n l out k told hf h hv hk hag ho
  have hkl:(nibV k).length=8:=by rw[czL,hk]
  have hle:=h.le
  have hnin: ∀a∈(nibV k).drop n,0≤a∧a≤15:=fun a ha=>fzp k a (List.mem_of_mem_drop ha)
  have hkid:=Szj hf h hv
  have h12: ∀out':List ByteArray,out'.length+f≤1000→czI (out',(l,((n:Int),(nibV k,(azD (f+1) n l,())))))=some ((out'++czO (f+1) n l (nibV k),()),()):=by
   intro out' ho'
   rw[Cz7,bzt (by omega) (by rw[azz];omega) (Int.le_refl _),aza,hz3,Kzx _ _ hkid hnin (by rw[List.length_drop];omega),azb,dzb]
   simp only[]
   match l,h,hv,hag,hkid with
   | [],h,hv,hag,hkid=>
     have:=Gzp (left:=(nibV k).drop n) (f+1) n
     rw[decide_eq_false (by omega),Bool.not_false,aza,HzV,List.append_nil]
   | [p],h,hv,hag,hkid=>
     have:=Dzj (f:=f) (n:=n) (left:=(nibV k).drop n) (h.nib (p:=p) (by simp))
     rw[decide_eq_false (by omega),Bool.not_false,aza]
     simp [czO]
   |p::q::r,h,hv,hag,hkid=>
    have hlt:=h.lt
    have hp:=h.nib (p:=p) (by simp)
    have hst:=h.step
    have hln:=h.len
    have hcomk:=Azv (q::r) ((nibV p.1).drop n) n (8-n)
    have hshle:=uzC (q::r) ((nibV p.1).drop n) n (8-n)
    have hway:=fun sh=>Fzy (f:=f) (sh:=sh) (left:=(nibV k).drop n) h
    have hfork:=fun a rest=>Dzf (f:=f) (n:=n) (a:=a) (p:=p) (q:=q) (r:=r) (rest:=rest)
    unfold czO
    generalize hsh:shV (q::r) ((nibV p.1).drop n) n (8-n)=sh at*
    by_cases hs:sh=0
    ·subst hs
     rw[if_pos rfl]
     obtain ⟨a,ha1,ha2⟩: ∃a:Nat,(nibV k).getD n 0=(a:Int)∧a<16:=by
      have h1:n<(nibV k).length:=by omega
      have h2:=fzp k (nibV k)[n] (List.getElem_mem h1)
      rw[List.getD_eq_getElem?_getD,List.getElem?_eq_getElem h1,Option.getD_some]
      exact ⟨(nibV k)[n].toNat,by omega,by omega⟩
     have hkn:n<(nibV k).length:=by omega
     have hk0:(nibV k)[n]=(a:Int):=by
      rw[List.getD_eq_getElem?_getD,List.getElem?_eq_getElem hkn,Option.getD_some] at ha1
      exact ha1
     have hkd:(nibV k).drop n=(a:Int)::(nibV k).drop (n+1):=by rw[List.drop_eq_getElem_cons hkn,hk0]
     rw[ha1]
     have hx:=hfork a ((nibV k).drop (n+1)) rfl ha2
     rw[←hkd] at hx
     have hfl:goV (p::q::r) (nibV k) (n+1)=(p::q::r).filter fun p=>az6 p n (a:Int):=by
      unfold goV
      apply List.filter_congr
      intro x hxm
      have hl8:=h.nib hxm
      have hc:=Wzu (hag x hxm) (by omega) hkn
      have e:az6 x n (a:Int)=decide ((nibV x.1)[n]'(by omega)=(a:Int)):=by
       unfold az6
       rw[List.getD_eq_getElem?_getD,List.getElem?_eq_getElem (by omega:n<(nibV x.1).length),Option.getD_some]
      rw[e]
      simp only[decide_eq_decide]
      rw[hc,hk0]
     by_cases he:((p::q::r).filter fun p=>az6 p n (a:Int))=[]
     ·rw[he] at hx
      have e0:refV (azD f (n+1) [])= .mk false (bs []) []:=by
       have:azD f (n+1) []= .mk false (bs []) []:=by cases f<;>rfl
       rw[this];exact SzD
      rw[e0,if_pos ⟨rfl,rfl⟩] at hx
      rw[hx,he,WzA,HzV]
      show Go.TV.cnd (!decide (((1:Nat):Int)=0)) _ _=_
      rw[show (!decide (((1:Nat):Int)=0))=true from rfl,aza,List.append_nil,List.append_nil]
     ·have hG:=h.half hlt (a:Int)
      rw[if_neg (GzM (by omega) hG (fun p hp=>hv p (List.mem_filter.1 hp).1) he)] at hx
      rw[hx]
      show Go.TV.cnd (!decide (((0:Nat):Int)=0)) _ (czG (out',(p::q::r,((n:Int),(nibV k,(false,(((1:Nat):Int),(([]:List azl),((0:Int),())))))))))=_
      rw[show (!decide (((0:Nat):Int)=0))=false from rfl,azc]
      have hl:=Dzo out' (p::q::r) (by omega) h.key n 1 (by omega) (nibV k) false (p::q::r).length 0 [] (by omega) (by simp)
      rw[show ((0:Nat):Int)=0 from rfl,List.drop_zero,hfl,List.nil_append] at hl
      rw[hl,IH (n+1) _ out' k false (by omega) hG (fun p hp=>hv p (List.mem_filter.1 hp).1) hk (fun x hxm=>?_) (by omega)]
      ·rfl
      ·obtain ⟨m1,m2⟩:=List.mem_filter.1 hxm
       rw[←hfl] at hxm
       have m3:=of_decide_eq_true (List.mem_filter.1 hxm).2
       exact lzC _ _ _ m3
    ·rw[if_neg hs]
     have hx:=hway sh rfl (by omega)
     have hpl:(((nibV p.1).drop n).take sh).length=sh:=by rw[List.length_take,List.length_drop,hp];omega
     have hiff:=tzl sh ((nibV p.1).drop n) ((nibV k).drop n) (by rw[List.length_drop];omega)
     rw[wzf ((nibV p.1).drop n)] at hiff
     by_cases hck:comV ((nibV k).drop n) ((nibV p.1).drop n)<sh
     ·rw[if_pos (hiff.2 hck)] at hx
      rw[hx,if_pos hck,List.append_nil]
      show Go.TV.cnd (!decide (((1:Nat):Int)=0)) _ _=_
      rw[show (!decide (((1:Nat):Int)=0))=true from rfl,aza]
     ·have hcn:comV (((nibV p.1).drop n).take sh) ((nibV k).drop n)=sh:=by
       have h1:=(yzW (((nibV p.1).drop n).take sh) ((nibV k).drop n)).1
       have h2: ¬comV (((nibV p.1).drop n).take sh) ((nibV k).drop n)<sh:=fun hh=>hck (hiff.1 hh)
       omega
      rw[if_neg (fun hh=>hck (hiff.1 hh)),hcn] at hx
      rw[hx,if_neg hck]
      show Go.TV.cnd (!decide (((0:Nat):Int)=0)) _ (czG (out',(p::q::r,((n:Int),(nibV k,(false,((sh:Int),(([]:List azl),((0:Int),())))))))))=_
      rw[show (!decide (((0:Nat):Int)=0))=false from rfl,azc]
      have hl:=Dzo out' (p::q::r) (by omega) h.key n sh (by omega) (nibV k) false (p::q::r).length 0 [] (by omega) (by simp)
      have hsame: ∀x∈p::q::r,(nibV x.1).take (n+sh)=(nibV k).take (n+sh):=fun x hxm=>by
       rw[List.take_add,List.take_add,hag x hxm]
       congr 1
       have e1:((nibV p.1).drop n).take sh=((nibV k).drop n).take sh:=(lzC _ _ _ (by omega)).symm
       rcases List.mem_cons.1 hxm with rfl|hx2
       ·exact e1
       ·rw[←e1];exact (lzC _ _ _ (hcomk x hx2)).symm
      have hfl:goV (p::q::r) (nibV k) (n+sh)=p::q::r:=by
       unfold goV
       rw[List.filter_eq_self]
       intro x hxm
       have hl8:=h.nib hxm
       refine decide_eq_true ?_
       have h5:=tzl (n+sh) (nibV x.1) (nibV k) (by omega)
       have h6:comV ((nibV x.1).take (n+sh)) (nibV k)=n+sh:=by
        rw[hsame x hxm]
        have h7:=tzl (n+sh) (nibV k) (nibV k) (by omega)
        rw[vzW] at h7
        have h8:=(yzW ((nibV k).take (n+sh)) (nibV k)).1
        rw[List.length_take] at h8
        omega
       omega
      rw[show ((0:Nat):Int)=0 from rfl,List.drop_zero,hfl,List.nil_append] at hl
      rw[hl,IH (n+sh) _ out' k false (by omega) hst hv hk hsame (by omega)]
      rfl
  have hz:=gzb (azD (f+1) n l)
  rw[Gzg,(SzM (f+1) n l hf h).2,azb]
  simp only[]
  rw[fzs,azb]
  simp only[]
  cases told with
  |true=>
   rw[aza,azv (by decide) (by simp only[List.length_cons,List.length_nil];omega),aza,if_pos rfl]
   show czI (out++[(bzu (azD (f+1) n l)).1],(l,((n:Int),(nibV k,(azD (f+1) n l,())))))=_
   rw[h12 _ (by simp only[List.length_append,List.length_cons,List.length_nil];omega),List.append_assoc]
  |false=>
   rw[azc,if_neg (by decide),azL,czK]
   unfold ownV
   by_cases h31:31<(bzu (azD (f+1) n l)).1.size
   ·rw[decide_eq_true (by omega),aza,azv (by decide) (by simp only[List.length_cons,List.length_nil];omega),aza,if_pos h31]
    show czI (out++[(bzu (azD (f+1) n l)).1],(l,((n:Int),(nibV k,(azD (f+1) n l,())))))=_
    rw[h12 _ (by simp only[List.length_append,List.length_cons,List.length_nil];omega),List.append_assoc]
   ·rw[decide_eq_false (by omega),azc,if_neg h31,h12 _ (by omega),List.nil_append]
theorem Hz3 {l:List azl} (h:pokV l=true): ∀p∈l,p.2.1.size≤60:=by
 intro p hp
 obtain ⟨j,hj,rfl⟩:=List.getElem_of_mem hp
 unfold pokV at h
 rw[Bool.and_eq_true] at h
 have h1:=LzZ l l.length 0 h.2 j (by omega) (by omega)
 unfold pokA at h1
 simp only[Bool.and_eq_true,decide_eq_true_eq,bzs hj,azL] at h1
 omega
theorem Iz6 (l:List azl) (k:ByteArray) (hl:l.length≤1000000000):izO (l,(k,()))=some ((czk l k,()),()):=by
 rw[HzH,QzN l hl,azb]
 unfold czk
 simp only[]
 cases hp:pokV l with
 |false=>rw[if_neg (fun hh=>by cases hh.2)];rfl
 |true=>
  rw[show bnot true=false from rfl,azc,dzb,azL]
  by_cases hk:k.size=4
  ·rw[decide_eq_true (by omega),Bool.not_true,azc,vzO k (by omega),azb,if_pos ⟨hk,rfl⟩]
   exact Mzl 9 0 l [] k true (by omega) (rz7 hp) (Hz3 hp) hk (fun p hp=>by simp) (by simp)
  ·rw[decide_eq_false (by omega),Bool.not_false,aza,if_neg (fun hh=>hk hh.1)]
theorem Mzu (l:List azl) (k:ByteArray):(czk l k).length≤10:=by
 unfold czk
 split
 ·have:=rzn 9 0 l (nibV k)
  simp only[oz8,List.length_cons];omega
 ·simp
theorem GzI (l:List azl) (k:ByteArray): ∀t∈czk l k,t.size≤900:=by
 intro t ht
 have own: ∀f n l,t∈ownV f n l→t.size≤900:=fun f n l ht=>by
  have:=gzb (azD f n l)
  unfold ownV at ht
  split at ht
  ·rw[List.mem_singleton.1 ht];exact this
  ·cases ht
 have go: ∀ (f n:Nat) (l:List azl) (h:List Int),t∈czO f n l h→t.size≤900:=by
  intro f
  induction f with
  |zero=>intro n l h ht;simp [czO] at ht
  |succ f ih=>
   intro n l h ht
   match l with
   | []=>simp [czO] at ht
   | [p]=>simp [czO] at ht
   |p::q::r=>
    unfold czO at ht
    split at ht
    ·rcases List.mem_append.1 ht with ht|ht
     ·exact own _ _ _ ht
     ·exact ih _ _ _ ht
    ·split at ht
     ·cases ht
     ·rcases List.mem_append.1 ht with ht|ht
      ·exact own _ _ _ ht
      ·exact ih _ _ _ ht
 unfold czk at ht
 split at ht
 ·rcases List.mem_cons.1 ht with rfl|ht
  ·exact gzb _
  ·exact go _ _ _ _ ht
 ·cases ht
end Go.Proofs.YthldgfkkgmpmlaaGreatDoor
