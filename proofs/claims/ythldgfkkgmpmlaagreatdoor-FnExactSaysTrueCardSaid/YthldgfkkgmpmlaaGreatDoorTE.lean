/- Tries. Of no condition. -/
import Derived.Test.YthldgfkkgmpmlaaGreatDoorTD
set_option linter.unusedVariables false
set_option linter.unusedSimpArgs false
set_option maxRecDepth 100000
namespace Go.Proofs.YthldgfkkgmpmlaaGreatDoor
open Go.TV
theorem SzC {d:Nat} {l:Bool} {s:ByteArray} {k:List ItemT} (h:fitV d (.mk l s k)=true):k.length≤17:=by
 cases l with
 |false=>rw[(izg h).2];simp
 |true=>exact (fzi h).2.1
theorem MzH {d:Nat} {l:Bool} {s:ByteArray} {k:List ItemT} (h:fitV d (.mk l s k)=true): ∀y∈k,∃e,e<d∧fitV e y=true:=by
 intro y hy
 cases l with
 |false=>rw[(izg h).2] at hy;cases hy
 |true=>
  obtain ⟨_,_,e,rfl,h3⟩:=fzi h
  exact ⟨e,by omega,h3 y hy⟩
theorem UzR: ∀ (d:Nat) (x:ItemT),fitV d x=true→kzp (x,())=some ((x,()),()):=by
 intro d
 induction d using Nat.strongRecOn with
 |ind d IH=>
  intro x h
  obtain ⟨l,s,k⟩:=x
  have hl:=SzC h
  have hk:=MzH h
  have loop: ∀ (m i:Nat) (z:ItemT) (acc:List ItemT),i+m=k.length→acc.length=i→izV (k,(len k,((i:Int),(z,(.mk l s acc,())))))=some ((.mk l s (acc++k.drop i),()),()):=by
   intro m
   induction m with
   |zero=>intro i z acc hi ha;rw[yzh,show (i:Int)=(k.length:Int) by omega,az7,azc,List.drop_eq_nil_of_le (by omega),List.append_nil]
   |succ m ih=>
    intro i z acc hi ha
    have h1:i<k.length:=by omega
    obtain ⟨e,he,hf⟩:=hk k[i] (List.getElem_mem h1)
    rw[yzh,bzh h1,aza,azP h1,aza,bzs h1,IH e he k[i] hf,azb]
    show Go.TV.cnd (fits (len acc+len [k[i]]) 3) (izV (k,(len k,(iadd .i64 (i:Int) 1,(z,(.mk l s (acc++[k[i]]),())))))) _=_
    rw[azv (by decide) (by simp;omega),aza,azq (by omega),ih (i+1) z _ (by omega) (by simp;omega),List.append_assoc,List.drop_eq_getElem_cons h1];rfl
  rw[Lzr]
  exact loop k.length 0 _ [] (by omega) rfl
theorem TzW: ∀ (d:Nat) (x:ItemT),fitV d x=true→jz9 (x,())=some ((x,()),()):=by
 intro d
 induction d using Nat.strongRecOn with
 |ind d IH=>
  intro x h
  obtain ⟨l,s,k⟩:=x
  have hl:=SzC h
  have hk:=MzH h
  have loop: ∀ (m i:Nat) (z:ItemT) (acc:List ItemT),i+m=k.length→acc.length=i→kzM ((i:Int),(.mk l s k,(z,(.mk l s acc,()))))=some ((.mk l s (acc++k.drop i),()),()):=by
   intro m
   induction m with
   |zero=>
    intro i z acc hi ha
    rw[Azb]
    show Go.TV.cnd (ilt (i:Int) (len k)) _ _=_
    rw[show (i:Int)=(k.length:Int) by omega,az7,azc,List.drop_eq_nil_of_le (by omega),List.append_nil]
   |succ m ih=>
    intro i z acc hi ha
    have h1:i<k.length:=by omega
    obtain ⟨e,he,hf⟩:=hk k[i] (List.getElem_mem h1)
    rw[Azb]
    show Go.TV.cnd (ilt (i:Int) (len k)) (Go.TV.cnd (inb (i:Int) (len k)) (Go.TV.bnd (jz9 (rd (ItemT.mk false (bs []) ([]:List ItemT)) k (i:Int),())) _) _) _=_
    rw[bzh h1,aza,azP h1,aza,bzs h1,IH e he k[i] hf,azb]
    show Go.TV.cnd (fits (len acc+len [k[i]]) 3) (kzM (iadd .i64 (i:Int) 1,(.mk l s k,(z,(.mk l s (acc++[k[i]]),()))))) _=_
    rw[azv (by decide) (by simp;omega),aza,azq (by omega),ih (i+1) z _ (by omega) (by simp;omega),List.append_assoc,List.drop_eq_getElem_cons h1];rfl
  rw[PzO]
  exact loop k.length 0 _ [] (by omega) rfl
theorem IzJ {x:ItemT} (h:(bzu x).2=true):fitV 4 x=true:=by
 unfold bzu at h
 split at h
 ·rename_i hh;exact hh.1
 ·cases h
noncomputable def refV (x:ItemT):ItemT:=if (bzu x).2=true∧(bzu x).1.size≤31 then x else .mk false (azm (bzu x).1) []
theorem Vz1 (x:ItemT):mz1 (x,())=some ((refV x,()),()):=by
 have hz:=gzb x
 rw[OzO,fzn x,azb]
 simp only[]
 unfold refV
 cases h:(bzu x).2 with
 |false=>rw[azc,czR _ (by omega),azb,if_neg (by simp)]
 |true=>
  rw[aza]
  by_cases h3:(bzu x).1.size≤31
  ·rw[ez3,azL,decide_eq_true (by omega),aza,UzR 4 x (IzJ h),azb,if_pos ⟨by trivial,h3⟩]
  ·rw[ez3,azL,decide_eq_false (by omega),azc,czR _ (by omega),azb,if_neg (fun hh=>h3 hh.2)]
theorem VzJ (x:ItemT):mzV (x,())=some ((refV x,()),()):=by
 have hz:=gzb x
 rw[OzJ,fzs x,azb]
 simp only[]
 unfold refV
 cases h:(bzu x).2 with
 |false=>rw[azc,bzO _ (by omega),azb,czd,azb,if_neg (by simp)]
 |true=>
  rw[aza]
  by_cases h3:(bzu x).1.size≤31
  ·rw[bzT (by rw[azL];omega),aza,TzW 4 x (IzJ h),azb,if_pos ⟨by trivial,h3⟩]
  ·rw[az0 (by rw[azL];omega),azc,bzO _ (by omega),azb,czd,azb,if_neg (fun hh=>h3 hh.2)]
structure GoodP (l:List azl) (n:Nat):Prop where
 len:l.length≤100
 key: ∀p∈l,p.1.size=4
 dist:l.Pairwise fun p q=>p.1≠q.1
 agr: ∀p∈l,∀q∈l,(nibV p.1).take n=(nibV q.1).take n
 le:n≤8
theorem GoodP.nib {l:List azl} {n:Nat} (h:GoodP l n) {p:azl} (hp:p∈l):(nibV p.1).length=8:=by rw[czL,h.key p hp]
def shV (l:List azl) (f:List Int) (n:Nat) (m:Nat):Nat:=l.foldl (fun m p=>min m (comV f ((nibV p.1).drop n))) m
theorem uzC: ∀ (l:List azl) (f:List Int) (n m:Nat),shV l f n m≤m
 | [],f,n,m=>Nat.le_refl _
 |p::l,f,n,m=>by
  have:=uzC l f n (min m (comV f ((nibV p.1).drop n)))
  show shV l f n (min m (comV f ((nibV p.1).drop n)))≤m
  omega
theorem Azv: ∀ (l:List azl) (f:List Int) (n m:Nat),∀p∈l,shV l f n m≤comV f ((nibV p.1).drop n)
 | [],f,n,m,p,h=>by cases h
 |q::l,f,n,m,p,h=>by
  show shV l f n (min m (comV f ((nibV q.1).drop n)))≤_
  rcases List.mem_cons.1 h with rfl|h
  ·have:=uzC l f n (min m (comV f ((nibV p.1).drop n)))
   omega
  ·exact Azv l f n _ p h
theorem hz3 {l:List Int} {n:Nat}:sub l (n:Int) (len l)=l.drop n:=by rw[azz];unfold sub;simp
theorem Vzi (a b:Nat):imin (a:Int) (b:Int)=((min a b:Nat):Int):=by unfold imin;split<;>omega
theorem Jzs (n:Nat) (f:List Int) (hf:f.length≤1000) (hn:n≤8) (l:List azl) (hl:l.length≤100) (hk: ∀p∈l,p.1.size=4): ∀ (m i c:Nat),i+m=l.length→izi ((n:Int),(f,((c:Int),(l,(len l,((i:Int),()))))))=some (((shV (l.drop i) f n c:Int),()),()):=by
 intro m
 induction m with
 |zero=>intro i c hi;rw[szU,show (i:Int)=(l.length:Int) by omega,az7,azc,List.drop_eq_nil_of_le (by omega)];rfl
 |succ m ih=>
  intro i c hi
  have h1:i<l.length:=by omega
  have hz:=hk l[i] (List.getElem_mem h1)
  rw[szU,bzh h1,aza,azP h1,aza,bzs h1,uzr _ (by omega),azb]
  simp only[]
  rw[show inb2 (n:Int) (len (nibV l[i].1)) (len (nibV l[i].1))=true by rw[azz,czL];exact bzt (by omega) (by omega) (by omega),aza,hz3,QzH f _ (by omega),azb]
  simp only[]
  rw[Vzi,azq (by omega),ih (i+1) _ (by omega),List.drop_eq_getElem_cons h1]
  rfl
theorem Hzj (n:Nat) (f:List Int) (hf:f.length≤1000) (hn:n≤8) (l:List azl) (hl:l.length≤100) (hk: ∀p∈l,p.1.size=4): ∀ (m i c:Nat),i+m=l.length→gzg (l,((n:Int),((c:Int),(f,((i:Int),())))))=some (((shV (l.drop i) f n c:Int),()),()):=by
 intro m
 induction m with
 |zero=>intro i c hi;rw[uzK,show (i:Int)=(l.length:Int) by omega,az7,azc,List.drop_eq_nil_of_le (by omega)];rfl
 |succ m ih=>
  intro i c hi
  have h1:i<l.length:=by omega
  have hz:=hk l[i] (List.getElem_mem h1)
  rw[uzK,bzh h1,aza,azP h1,aza,bzs h1,vzO _ (by omega),azb]
  simp only[]
  rw[show inb2 (n:Int) (len (nibV l[i].1)) (len (nibV l[i].1))=true by rw[azz,czL];exact bzt (by omega) (by omega) (by omega),aza,hz3,Rz4 f _ (by omega),azb]
  simp only[]
  by_cases hc:comV f ((nibV l[i].1).drop n)<c
  ·rw[bzT (by omega),aza,azq (by omega),ih (i+1) _ (by omega),List.drop_eq_getElem_cons h1]
   show some (((shV (l.drop (i+1)) f n (comV f ((nibV l[i].1).drop n)):Int),()),())=some (((shV (l.drop (i+1)) f n (min c (comV f ((nibV l[i].1).drop n))):Int),()),())
   rw[Nat.min_eq_right (by omega)]
  ·rw[az0 (by omega),azc,azq (by omega),ih (i+1) _ (by omega),List.drop_eq_getElem_cons h1]
   show some (((shV (l.drop (i+1)) f n c:Int),()),())=some (((shV (l.drop (i+1)) f n (min c (comV f ((nibV l[i].1).drop n))):Int),()),())
   rw[Nat.min_eq_left (by omega)]
theorem Hz1 (p:azl) (l:List azl) (n:Nat) (h:GoodP (p::l) n):gzt (p::l,((n:Int),()))=some (((shV l ((nibV p.1).drop n) n (8-n):Int),()),()):=by
 have hz:=h.key p (by simp)
 have hln:=h.len
 have hle:=h.le
 have h8:=h.nib (p:=p) (by simp)
 simp only[List.length_cons] at hln
 rw[GzH,show inb 0 (len (p::l))=true from azP (i:=0) (Nat.succ_pos _),aza,show rd bzd (p::l) 0=p from rfl,uzr _ (by omega),azb]
 simp only[]
 rw[show inb2 (n:Int) (len (nibV p.1)) (len (nibV p.1))=true by rw[azz,h8];exact bzt (by omega) (by omega) (by omega),aza,show inb2 1 (len (p::l)) (len (p::l))=true by rw[azz];exact bzt (by omega) (by simp only[List.length_cons];omega) (by omega),aza,hz3,show sub (p::l) 1 (len (p::l))=l by rw[azz];unfold sub;simp,show len ((nibV p.1).drop n)=((8-n:Nat):Int) by rw[azz,List.length_drop,h8]]
 have:=Jzs n ((nibV p.1).drop n) (by rw[List.length_drop];omega) hle l (by omega) (fun q hq=>h.key q (by simp [hq])) l.length 0 (8-n) (by omega)
 rw[List.drop_zero] at this
 exact this
theorem Rzj (p:azl) (l:List azl) (n:Nat) (h:GoodP (p::l) n):lzw (p::l,((n:Int),()))=some (((shV l ((nibV p.1).drop n) n (8-n):Int),()),()):=by
 have hz:=h.key p (by simp)
 have hln:=h.len
 have hle:=h.le
 have h8:=h.nib (p:=p) (by simp)
 simp only[List.length_cons] at hln
 rw[Ize,show inb 0 (len (p::l))=true from azP (i:=0) (Nat.succ_pos _),aza,show rd bzd (p::l) 0=p from rfl,vzO _ (by omega),azb]
 simp only[]
 rw[show inb2 (n:Int) (len (nibV p.1)) (len (nibV p.1))=true by rw[azz,h8];exact bzt (by omega) (by omega) (by omega),aza,hz3,az4 (by omega) (by omega),show (8:Int)- (n:Int)=((8-n:Nat):Int) by omega]
 have:=Hzj n ((nibV p.1).drop n) (by rw[List.length_drop];omega) hle (p::l) (by simp only[List.length_cons];omega) h.key l.length 1 (8-n) (by simp only[List.length_cons];omega)
 exact this
theorem take_add {α:Type} (a:List α) (n k:Nat):a.take (n+k)=a.take n++(a.drop n).take k:=List.take_add
theorem GoodP.step {p:azl} {l:List azl} {n:Nat} (h:GoodP (p::l) n):GoodP (p::l) (n+shV l ((nibV p.1).drop n) n (8-n)):=by
 have hle:=uzC l ((nibV p.1).drop n) n (8-n)
 have h8:=h.le
 refine ⟨h.len,h.key,h.dist,?_,by omega⟩
 have one: ∀q∈p::l,((nibV q.1).drop n).take (shV l ((nibV p.1).drop n) n (8-n))=((nibV p.1).drop n).take (shV l ((nibV p.1).drop n) n (8-n)):=by
  intro q hq
  rcases List.mem_cons.1 hq with rfl|hq
  ·rfl
  ·exact (lzC _ _ _ (Azv l _ n _ q hq)).symm
 intro q hq r hr
 rw[take_add,take_add,one q hq,one r hr,h.agr q hq r hr]
theorem GoodP.lt {p q:azl} {l:List azl} {n:Nat} (h:GoodP (p::q::l) n):n<8:=by
 rcases Nat.lt_or_ge n 8 with h1|h1
 ·exact h1
 ·exfalso
  have h2:=h.agr p (by simp) q (by simp)
  rw[List.take_of_length_le (by rw[h.nib (p:=p) (by simp)];exact h1),List.take_of_length_le (by rw[h.nib (p:=q) (by simp)];exact h1)] at h2
  have h3:=h.dist
  rw[List.pairwise_cons] at h3
  exact h3.1 q (by simp) (Nzw h2)
def az6 (p:azl) (n:Nat) (k:Int):Bool:=decide ((nibV p.1).getD n 0=k)
theorem GoodP.half {l:List azl} {n:Nat} (h:GoodP l n) (hn:n<8) (k:Int):GoodP (l.filter fun p=>az6 p n k) (n+1):=by
 refine ⟨Nat.le_trans (List.length_filter_le _ _) h.len,fun p hp=>h.key p ((List.mem_filter.1 hp).1),h.dist.filter _,fun p hp q hq=>?_,by omega⟩
 have hp':=List.mem_filter.1 hp
 have hq':=List.mem_filter.1 hq
 have e1:=of_decide_eq_true hp'.2
 have e2:=of_decide_eq_true hq'.2
 have l1:=h.nib hp'.1
 have l2:=h.nib hq'.1
 rw[take_add,take_add,h.agr p hp'.1 q hq'.1]
 congr 1
 rw[List.drop_eq_getElem_cons (by omega:n<(nibV p.1).length),List.drop_eq_getElem_cons (by omega:n<(nibV q.1).length)]
 rw[List.getD_eq_getElem?_getD,List.getElem?_eq_getElem (by omega:n<(nibV p.1).length),Option.getD_some] at e1
 rw[List.getD_eq_getElem?_getD,List.getElem?_eq_getElem (by omega:n<(nibV q.1).length),Option.getD_some] at e2
 simp only[List.take_succ_cons,List.take_zero,e1,e2]
theorem Jzc (l:List azl) (i:Nat) (h:i<l.length) (n:Nat) (k:Int):(l.drop i).filter (fun p=>az6 p n k)=if (nibV l[i].1).getD n 0=k then l[i]::(l.drop (i+1)).filter (fun p=>az6 p n k) else (l.drop (i+1)).filter (fun p=>az6 p n k):=by
 rw[List.drop_eq_getElem_cons h,List.filter_cons]
 unfold az6
 by_cases hc:(nibV l[i].1).getD n 0=k
 ·rw[if_pos hc,if_pos (decide_eq_true hc)]
 ·rw[if_neg hc,if_neg (by rw[decide_eq_false hc];decide)]
theorem Rzu (l:List azl) (n:Nat) (hn:n<8) (k:Int) (hl:l.length≤100) (hk: ∀p∈l,p.1.size=4):lzf (l,((n:Int),(k,())))=some ((l.filter (fun p=>az6 p n k),()),()):=by
 have loop: ∀ (m i:Nat) (acc:List azl),i+m=l.length→acc.length≤i→fzx ((n:Int),(k,(acc,(l,(len l,((i:Int),()))))))=some ((acc++(l.drop i).filter (fun p=>az6 p n k),()),()):=by
  intro m
  induction m with
  |zero=>intro i acc hi ha;rw[yzV,show (i:Int)=(l.length:Int) by omega,az7,azc,List.drop_eq_nil_of_le (by omega)];simp
  |succ m ih=>
   intro i acc hi ha
   have h1:i<l.length:=by omega
   have hz:=hk l[i] (List.getElem_mem h1)
   have h8:n<(nibV l[i].1).length:=by rw[czL,hz];omega
   rw[yzV,bzh h1,aza,azP h1,aza,bzs h1,uzr _ (by omega),azb]
   simp only[]
   rw[azP h8,aza,czl,Jzc l i h1]
   show Go.TV.cnd (decide ((nibV l[i].1).getD n 0=k)) _ _=_
   by_cases hc:(nibV l[i].1).getD n 0=k
   ·rw[decide_eq_true hc,aza,if_pos hc,azv (by decide) (by simp;omega),aza,azq (by omega)]
    show fzx ((n:Int),(k,(acc++[l[i]],(l,(len l,(((i+1:Nat):Int),()))))))=_
    rw[ih (i+1) _ (by omega) (by simp;omega),List.append_assoc];rfl
   ·rw[decide_eq_false hc,azc,if_neg hc,azq (by omega),ih (i+1) _ (by omega) (by omega)]
 rw[Mzi]
 exact loop l.length 0 [] (by omega) (by simp)
end Go.Proofs.YthldgfkkgmpmlaaGreatDoor
