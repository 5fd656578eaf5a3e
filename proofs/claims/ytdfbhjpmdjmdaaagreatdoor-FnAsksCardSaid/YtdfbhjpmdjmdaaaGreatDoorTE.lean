/- Tries. Of no condition. -/
import Derived.Test.YtdfbhjpmdjmdaaaGreatDoorTD
set_option linter.unusedVariables false
set_option linter.unusedSimpArgs false
set_option maxRecDepth 100000
namespace Go.Proofs.YtdfbhjpmdjmdaaaGreatDoor
open Go.TV
theorem Lzq {d:Nat} {l:Bool} {s:ByteArray} {k:List ItemT} (h:fitV d (.mk l s k)=true):k.length≤17:=by
 cases l with
 |false=>rw[(hzy h).2];simp
 |true=>exact (ezR h).2.1
theorem HzM {d:Nat} {l:Bool} {s:ByteArray} {k:List ItemT} (h:fitV d (.mk l s k)=true): ∀y∈k,∃e,e<d∧fitV e y=true:=by
 intro y hy
 cases l with
 |false=>rw[(hzy h).2] at hy;cases hy
 |true=>
  obtain ⟨_,_,e,rfl,h3⟩:=ezR h
  exact ⟨e,by omega,h3 y hy⟩
theorem OzP: ∀ (d:Nat) (x:ItemT),fitV d x=true→jzx (x,())=some ((x,()),()):=by
 intro d
 induction d using Nat.strongRecOn with
 |ind d IH=>
  intro x h
  obtain ⟨l,s,k⟩:=x
  have hl:=Lzq h
  have hk:=HzM h
  have loop: ∀ (m i:Nat) (z:ItemT) (acc:List ItemT),i+m=k.length→acc.length=i→hz4 (k,(len k,((i:Int),(z,(.mk l s acc,())))))=some ((.mk l s (acc++k.drop i),()),()):=by
   intro m
   induction m with
   |zero=>intro i z acc hi ha;rw[uzE,show (i:Int)=(k.length:Int) by omega,bzb,azc,List.drop_eq_nil_of_le (by omega),List.append_nil]
   |succ m ih=>
    intro i z acc hi ha
    have h1:i<k.length:=by omega
    obtain ⟨e,he,hf⟩:=hk k[i] (List.getElem_mem h1)
    rw[uzE,bzp h1,aza,az0 h1,aza,bzA h1,IH e he k[i] hf,azd]
    show Go.TV.cnd (fits (len acc+len [k[i]]) 3) (hz4 (k,(len k,(iadd .i64 (i:Int) 1,(z,(.mk l s (acc++[k[i]]),())))))) _=_
    rw[azv (by decide) (by simp;omega),aza,azq (by omega),ih (i+1) z _ (by omega) (by simp;omega),List.append_assoc,List.drop_eq_getElem_cons h1];rfl
  rw[Gzp]
  exact loop k.length 0 _ [] (by omega) rfl
theorem Pzh: ∀ (d:Nat) (x:ItemT),fitV d x=true→iz7 (x,())=some ((x,()),()):=by
 intro d
 induction d using Nat.strongRecOn with
 |ind d IH=>
  intro x h
  obtain ⟨l,s,k⟩:=x
  have hl:=Lzq h
  have hk:=HzM h
  have loop: ∀ (m i:Nat) (z:ItemT) (acc:List ItemT),i+m=k.length→acc.length=i→jz7 ((i:Int),(.mk l s k,(z,(.mk l s acc,()))))=some ((.mk l s (acc++k.drop i),()),()):=by
   intro m
   induction m with
   |zero=>
    intro i z acc hi ha
    rw[yzb]
    show Go.TV.cnd (ilt (i:Int) (len k)) _ _=_
    rw[show (i:Int)=(k.length:Int) by omega,bzb,azc,List.drop_eq_nil_of_le (by omega),List.append_nil]
   |succ m ih=>
    intro i z acc hi ha
    have h1:i<k.length:=by omega
    obtain ⟨e,he,hf⟩:=hk k[i] (List.getElem_mem h1)
    rw[yzb]
    show Go.TV.cnd (ilt (i:Int) (len k)) (Go.TV.cnd (inb (i:Int) (len k)) (Go.TV.bnd (iz7 (rd (ItemT.mk false (bs []) ([]:List ItemT)) k (i:Int),())) _) _) _=_
    rw[bzp h1,aza,az0 h1,aza,bzA h1,IH e he k[i] hf,azd]
    show Go.TV.cnd (fits (len acc+len [k[i]]) 3) (jz7 (iadd .i64 (i:Int) 1,(.mk l s k,(z,(.mk l s (acc++[k[i]]),()))))) _=_
    rw[azv (by decide) (by simp;omega),aza,azq (by omega),ih (i+1) z _ (by omega) (by simp;omega),List.append_assoc,List.drop_eq_getElem_cons h1];rfl
  rw[IzX]
  exact loop k.length 0 _ [] (by omega) rfl
theorem DzY {x:ItemT} (h:(bzn x).2=true):fitV 4 x=true:=by
 unfold bzn at h
 split at h
 ·rename_i hh;exact hh.1
 ·cases h
noncomputable def refV (x:ItemT):ItemT:=if (bzn x).2=true∧(bzn x).1.size≤31 then x else .mk false (azo (bzn x).1) []
theorem PzR (x:ItemT):lzi (x,())=some ((refV x,()),()):=by
 have hz:=fzu x
 rw[JzL,ez5 x,azd]
 simp only[]
 unfold refV
 cases h:(bzn x).2 with
 |false=>rw[azc,hz9 _ (by omega),azd,if_neg (by simp)]
 |true=>
  rw[aza]
  by_cases h3:(bzn x).1.size≤31
  ·rw[gzB,azN,decide_eq_true (by omega),aza,OzP 4 x (DzY h),azd,if_pos ⟨by trivial,h3⟩]
  ·rw[gzB,azN,decide_eq_false (by omega),azc,hz9 _ (by omega),azd,if_neg (fun hh=>h3 hh.2)]
theorem PzJ (x:ItemT):lz3 (x,())=some ((refV x,()),()):=by
 have hz:=fzu x
 rw[Jzf,ez6 x,azd]
 simp only[]
 unfold refV
 cases h:(bzn x).2 with
 |false=>rw[azc,ezE _ (by omega),azd,czb,azd,if_neg (by simp)]
 |true=>
  rw[aza]
  by_cases h3:(bzn x).1.size≤31
  ·rw[bzW (by rw[azN];omega),aza,Pzh 4 x (DzY h),azd,if_pos ⟨by trivial,h3⟩]
  ·rw[az7 (by rw[azN];omega),azc,ezE _ (by omega),azd,czb,azd,if_neg (fun hh=>h3 hh.2)]
structure GoodP (l:List azh) (n:Nat):Prop where
 len:l.length≤100
 key: ∀p∈l,p.1.size=4
 dist:l.Pairwise fun p q=>p.1≠q.1
 agr: ∀p∈l,∀q∈l,(nibV p.1).take n=(nibV q.1).take n
 le:n≤8
theorem GoodP.nib {l:List azh} {n:Nat} (h:GoodP l n) {p:azh} (hp:p∈l):(nibV p.1).length=8:=by rw[czN,h.key p hp]
def shV (l:List azh) (f:List Int) (n:Nat) (m:Nat):Nat:=l.foldl (fun m p=>min m (comV f ((nibV p.1).drop n))) m
theorem rzJ: ∀ (l:List azh) (f:List Int) (n m:Nat),shV l f n m≤m
 | [],f,n,m=>Nat.le_refl _
 |p::l,f,n,m=>by
  have:=rzJ l f n (min m (comV f ((nibV p.1).drop n)))
  show shV l f n (min m (comV f ((nibV p.1).drop n)))≤m
  omega
theorem wzj: ∀ (l:List azh) (f:List Int) (n m:Nat),∀p∈l,shV l f n m≤comV f ((nibV p.1).drop n)
 | [],f,n,m,p,h=>by cases h
 |q::l,f,n,m,p,h=>by
  show shV l f n (min m (comV f ((nibV q.1).drop n)))≤_
  rcases List.mem_cons.1 h with rfl|h
  ·have:=rzJ l f n (min m (comV f ((nibV p.1).drop n)))
   omega
  ·exact wzj l f n _ p h
theorem hzC {l:List Int} {n:Nat}:sub l (n:Int) (len l)=l.drop n:=by rw[azA];unfold sub;simp
theorem Nz8 (a b:Nat):imin (a:Int) (b:Int)=((min a b:Nat):Int):=by unfold imin;split<;>omega
theorem CzZ (n:Nat) (f:List Int) (hf:f.length≤1000) (hn:n≤8) (l:List azh) (hl:l.length≤100) (hk: ∀p∈l,p.1.size=4): ∀ (m i c:Nat),i+m=l.length→hze ((n:Int),(f,((c:Int),(l,(len l,((i:Int),()))))))=some (((shV (l.drop i) f n c:Int),()),()):=by
 intro m
 induction m with
 |zero=>intro i c hi;rw[qzw,show (i:Int)=(l.length:Int) by omega,bzb,azc,List.drop_eq_nil_of_le (by omega)];rfl
 |succ m ih=>
  intro i c hi
  have h1:i<l.length:=by omega
  have hz:=hk l[i] (List.getElem_mem h1)
  rw[qzw,bzp h1,aza,az0 h1,aza,bzA h1,sz9 _ (by omega),azd]
  simp only[]
  rw[show inb2 (n:Int) (len (nibV l[i].1)) (len (nibV l[i].1))=true by rw[azA,czN];exact bzu (by omega) (by omega) (by omega),aza,hzC,Jz0 f _ (by omega),azd]
  simp only[]
  rw[Nz8,azq (by omega),ih (i+1) _ (by omega),List.drop_eq_getElem_cons h1]
  rfl
theorem Czu (n:Nat) (f:List Int) (hf:f.length≤1000) (hn:n≤8) (l:List azh) (hl:l.length≤100) (hk: ∀p∈l,p.1.size=4): ∀ (m i c:Nat),i+m=l.length→fzX (l,((n:Int),((c:Int),(f,((i:Int),())))))=some (((shV (l.drop i) f n c:Int),()),()):=by
 intro m
 induction m with
 |zero=>intro i c hi;rw[szs,show (i:Int)=(l.length:Int) by omega,bzb,azc,List.drop_eq_nil_of_le (by omega)];rfl
 |succ m ih=>
  intro i c hi
  have h1:i<l.length:=by omega
  have hz:=hk l[i] (List.getElem_mem h1)
  rw[szs,bzp h1,aza,az0 h1,aza,bzA h1,szb _ (by omega),azd]
  simp only[]
  rw[show inb2 (n:Int) (len (nibV l[i].1)) (len (nibV l[i].1))=true by rw[azA,czN];exact bzu (by omega) (by omega) (by omega),aza,hzC,Mzo f _ (by omega),azd]
  simp only[]
  by_cases hc:comV f ((nibV l[i].1).drop n)<c
  ·rw[bzW (by omega),aza,azq (by omega),ih (i+1) _ (by omega),List.drop_eq_getElem_cons h1]
   show some (((shV (l.drop (i+1)) f n (comV f ((nibV l[i].1).drop n)):Int),()),())=some (((shV (l.drop (i+1)) f n (min c (comV f ((nibV l[i].1).drop n))):Int),()),())
   rw[Nat.min_eq_right (by omega)]
  ·rw[az7 (by omega),azc,azq (by omega),ih (i+1) _ (by omega),List.drop_eq_getElem_cons h1]
   show some (((shV (l.drop (i+1)) f n c:Int),()),())=some (((shV (l.drop (i+1)) f n (min c (comV f ((nibV l[i].1).drop n))):Int),()),())
   rw[Nat.min_eq_left (by omega)]
theorem DzN (p:azh) (l:List azh) (n:Nat) (h:GoodP (p::l) n):fz6 (p::l,((n:Int),()))=some (((shV l ((nibV p.1).drop n) n (8-n):Int),()),()):=by
 have hz:=h.key p (by simp)
 have hln:=h.len
 have hle:=h.le
 have h8:=h.nib (p:=p) (by simp)
 simp only[List.length_cons] at hln
 rw[Bz7,show inb 0 (len (p::l))=true from az0 (i:=0) (Nat.succ_pos _),aza,show rd bzr (p::l) 0=p from rfl,sz9 _ (by omega),azd]
 simp only[]
 rw[show inb2 (n:Int) (len (nibV p.1)) (len (nibV p.1))=true by rw[azA,h8];exact bzu (by omega) (by omega) (by omega),aza,show inb2 1 (len (p::l)) (len (p::l))=true by rw[azA];exact bzu (by omega) (by simp only[List.length_cons];omega) (by omega),aza,hzC,show sub (p::l) 1 (len (p::l))=l by rw[azA];unfold sub;simp,show len ((nibV p.1).drop n)=((8-n:Nat):Int) by rw[azA,List.length_drop,h8]]
 have:=CzZ n ((nibV p.1).drop n) (by rw[List.length_drop];omega) hle l (by omega) (fun q hq=>h.key q (by simp [hq])) l.length 0 (8-n) (by omega)
 rw[List.drop_zero] at this
 exact this
theorem Kz7 (p:azh) (l:List azh) (n:Nat) (h:GoodP (p::l) n):kzX (p::l,((n:Int),()))=some (((shV l ((nibV p.1).drop n) n (8-n):Int),()),()):=by
 have hz:=h.key p (by simp)
 have hln:=h.len
 have hle:=h.le
 have h8:=h.nib (p:=p) (by simp)
 simp only[List.length_cons] at hln
 rw[CzR,show inb 0 (len (p::l))=true from az0 (i:=0) (Nat.succ_pos _),aza,show rd bzr (p::l) 0=p from rfl,szb _ (by omega),azd]
 simp only[]
 rw[show inb2 (n:Int) (len (nibV p.1)) (len (nibV p.1))=true by rw[azA,h8];exact bzu (by omega) (by omega) (by omega),aza,hzC,bzi (by omega) (by omega),show (8:Int)- (n:Int)=((8-n:Nat):Int) by omega]
 have:=Czu n ((nibV p.1).drop n) (by rw[List.length_drop];omega) hle (p::l) (by simp only[List.length_cons];omega) h.key l.length 1 (8-n) (by simp only[List.length_cons];omega)
 exact this
theorem take_add {α:Type} (a:List α) (n k:Nat):a.take (n+k)=a.take n++(a.drop n).take k:=List.take_add
theorem GoodP.step {p:azh} {l:List azh} {n:Nat} (h:GoodP (p::l) n):GoodP (p::l) (n+shV l ((nibV p.1).drop n) n (8-n)):=by
 have hle:=rzJ l ((nibV p.1).drop n) n (8-n)
 have h8:=h.le
 refine ⟨h.len,h.key,h.dist,?_,by omega⟩
 have one: ∀q∈p::l,((nibV q.1).drop n).take (shV l ((nibV p.1).drop n) n (8-n))=((nibV p.1).drop n).take (shV l ((nibV p.1).drop n) n (8-n)):=by
  intro q hq
  rcases List.mem_cons.1 hq with rfl|hq
  ·rfl
  ·exact (kzU _ _ _ (wzj l _ n _ q hq)).symm
 intro q hq r hr
 rw[take_add,take_add,one q hq,one r hr,h.agr q hq r hr]
theorem GoodP.lt {p q:azh} {l:List azh} {n:Nat} (h:GoodP (p::q::l) n):n<8:=by
 rcases Nat.lt_or_ge n 8 with h1|h1
 ·exact h1
 ·exfalso
  have h2:=h.agr p (by simp) q (by simp)
  rw[List.take_of_length_le (by rw[h.nib (p:=p) (by simp)];exact h1),List.take_of_length_le (by rw[h.nib (p:=q) (by simp)];exact h1)] at h2
  have h3:=h.dist
  rw[List.pairwise_cons] at h3
  exact h3.1 q (by simp) (HzG h2)
def az8 (p:azh) (n:Nat) (k:Int):Bool:=decide ((nibV p.1).getD n 0=k)
theorem GoodP.half {l:List azh} {n:Nat} (h:GoodP l n) (hn:n<8) (k:Int):GoodP (l.filter fun p=>az8 p n k) (n+1):=by
 refine ⟨Nat.le_trans (List.length_filter_le _ _) h.len,fun p hp=>h.key p ((List.mem_filter.1 hp).1),h.dist.filter _,fun p hp q hq=>?_,by omega⟩
 have hp':=List.mem_filter.1 hp
 have hq':=List.mem_filter.1 hq
 have e1:=of_decide_eq_true hp'.2
 have e2:=of_decide_eq_true hq'.2
 have l1:=h.nib hp'.1
 have l2:=h.nib hq'.1
 rw[take_add,take_add,h.agr p hp'.1 q hq'.1]
 congr 1
 rw[List.drop_eq_getElem_cons (by omega:n<(nibV p.1).length),List.drop_eq_getElem_cons (by omega:n<(nibV q.1).length)]
 rw[List.getD_eq_getElem?_getD,List.getElem?_eq_getElem (by omega:n<(nibV p.1).length),Option.getD_some] at e1
 rw[List.getD_eq_getElem?_getD,List.getElem?_eq_getElem (by omega:n<(nibV q.1).length),Option.getD_some] at e2
 simp only[List.take_succ_cons,List.take_zero,e1,e2]
theorem EzV (l:List azh) (i:Nat) (h:i<l.length) (n:Nat) (k:Int):(l.drop i).filter (fun p=>az8 p n k)=if (nibV l[i].1).getD n 0=k then l[i]::(l.drop (i+1)).filter (fun p=>az8 p n k) else (l.drop (i+1)).filter (fun p=>az8 p n k):=by
 rw[List.drop_eq_getElem_cons h,List.filter_cons]
 unfold az8
 by_cases hc:(nibV l[i].1).getD n 0=k
 ·rw[if_pos hc,if_pos (decide_eq_true hc)]
 ·rw[if_neg hc,if_neg (by rw[decide_eq_false hc];decide)]
theorem Lz1 (l:List azh) (n:Nat) (hn:n<8) (k:Int) (hl:l.length≤100) (hk: ∀p∈l,p.1.size=4):kzf (l,((n:Int),(k,())))=some ((l.filter (fun p=>az8 p n k),()),()):=by
 have loop: ∀ (m i:Nat) (acc:List azh),i+m=l.length→acc.length≤i→fzn ((n:Int),(k,(acc,(l,(len l,((i:Int),()))))))=some ((acc++(l.drop i).filter (fun p=>az8 p n k),()),()):=by
  intro m
  induction m with
  |zero=>intro i acc hi ha;rw[uzU,show (i:Int)=(l.length:Int) by omega,bzb,azc,List.drop_eq_nil_of_le (by omega)];simp
  |succ m ih=>
   intro i acc hi ha
   have h1:i<l.length:=by omega
   have hz:=hk l[i] (List.getElem_mem h1)
   have h8:n<(nibV l[i].1).length:=by rw[czN,hz];omega
   rw[uzU,bzp h1,aza,az0 h1,aza,bzA h1,sz9 _ (by omega),azd]
   simp only[]
   rw[az0 h8,aza,czd,EzV l i h1]
   show Go.TV.cnd (decide ((nibV l[i].1).getD n 0=k)) _ _=_
   by_cases hc:(nibV l[i].1).getD n 0=k
   ·rw[decide_eq_true hc,aza,if_pos hc,azv (by decide) (by simp;omega),aza,azq (by omega)]
    show fzn ((n:Int),(k,(acc++[l[i]],(l,(len l,(((i+1:Nat):Int),()))))))=_
    rw[ih (i+1) _ (by omega) (by simp;omega),List.append_assoc];rfl
   ·rw[decide_eq_false hc,azc,if_neg hc,azq (by omega),ih (i+1) _ (by omega) (by omega)]
 rw[Gzk]
 exact loop l.length 0 [] (by omega) (by simp)
end Go.Proofs.YtdfbhjpmdjmdaaaGreatDoor
