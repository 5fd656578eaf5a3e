/- The root of a trie. Of no condition. -/
import Derived.Test.YtdfbhjpmdjmdaaaGreatDoorTE
set_option linter.unusedVariables false
set_option linter.unusedSimpArgs false
set_option maxRecDepth 100000
namespace Go.Proofs.YtdfbhjpmdjmdaaaGreatDoor
open Go.TV
theorem HzD {α:Type} {x:α} {l:List α}:ieq (len (x::l)) 0=false:=by rw[czd,azA];exact decide_eq_false (by simp only[List.length_cons];omega)
theorem sInner (l:List azh) (n:Nat) (hn:n<8) (k:Int) (hl:l.length≤100) (hk: ∀p∈l,p.1.size=4) (z x y:ItemT) (hx:x.k.length≤100) (h16:k<1000∧0≤k)
 (hy:czW (l.filter (fun p=>az8 p n k),((n+1:Nat):Int),())=some ((y,()),())): ∀ (m i:Nat) (acc:List azh),i+m=l.length→acc.length≤i→acc++(l.drop i).filter (fun p=>az8 p n k)=l.filter (fun p=>az8 p n k)→
 fzo (l,((n:Int),(k,(acc,((i:Int),(z,(x,())))))))=hzW (l,((n:Int),(iadd .i64 k 1,(z,(.mk x.l x.s (x.k++[refV y]),()))))):=by
 intro m
 induction m with
 |zero=>
  intro i acc hi ha he
  rw[List.drop_eq_nil_of_le (by omega),List.filter_nil,List.append_nil] at he
  subst he
  rw[uzW,show (i:Int)=(l.length:Int) by omega,bzb,azc,azq (by omega),hy,azd]
  simp only[]
  rw[PzJ,azd]
  simp only[]
  rw[azv (by decide) (by simp;omega),aza]
  rfl
 |succ m ih=>
  intro i acc hi ha he
  have h1:i<l.length:=by omega
  have hz:=hk l[i] (List.getElem_mem h1)
  have h8:n<(nibV l[i].1).length:=by rw[czN,hz];omega
  rw[EzV l i h1] at he
  rw[uzW,bzp h1,aza,az0 h1,aza,bzA h1,szb _ (by omega),azd]
  simp only[]
  rw[az0 h8,aza,czd]
  show Go.TV.cnd (decide ((nibV l[i].1).getD n 0=k)) _ _=_
  by_cases hc:(nibV l[i].1).getD n 0=k
  ·rw[if_pos hc] at he
   rw[decide_eq_true hc,aza,aza,azv (by decide) (by simp;omega),aza,azq (by omega)]
   show fzo (l,((n:Int),(k,(acc++[l[i]],(((i+1:Nat):Int),(z,(x,())))))))=_
   exact ih (i+1) _ (by omega) (by simp;omega) (by rw[List.append_assoc];exact he)
  ·rw[if_neg hc] at he
   rw[decide_eq_false hc,azc,azq (by omega)]
   exact ih (i+1) acc (by omega) (by omega) he
def kzZ (F:Nat→ItemT):Nat→Nat→List ItemT
 |_,0=>[.mk false (bs []) []]
 |k,m+1=>F k::kzZ F (k+1) m
noncomputable def azF:Nat→Nat→List azh→ItemT
 |0,_,_=> .mk false (bs []) []
 |_+1,_,[]=> .mk false (bs []) []
 |_+1,n,[p]=> .mk true (bs []) [.mk false (preV ((nibV p.1).drop n) true) [], .mk false p.2.1 []]
 |f+1,n,p::q::r=>if 0<shV (q::r) ((nibV p.1).drop n) n (8-n) then
   .mk true (bs []) [.mk false (preV (((nibV p.1).drop n).take (shV (q::r) ((nibV p.1).drop n) n (8-n))) false) [],refV (azF f (n+shV (q::r) ((nibV p.1).drop n) n (8-n)) (p::q::r))]
  else .mk true (bs []) (kzZ (fun k=>refV (azF f (n+1) ((p::q::r).filter fun p=>az8 p n (k:Int)))) 0 16)
theorem Czs: ∀ (f n:Nat) (l:List azh),8-n<f→GoodP l n→bz9 (l,((n:Int),()))=some ((azF f n l,()),()):=by
 intro f
 induction f with
 |zero=>intro n l h;omega
 |succ f IH=>
  intro n l hf h
  have hle:=h.le
  match l,h with
  | [],h=>rw[ozN];rfl
  | [p],h=>
    have hz:=h.key p (by simp)
    have h8:=h.nib (p:=p) (by simp)
    have hin:inb2 (n:Int) (len (nibV p.1)) (len (nibV p.1))=true:=by rw[azA,h8];exact bzu (by omega) (by omega) (by omega)
    have hnd: ∀x∈(nibV p.1).drop n,0≤x∧x≤15:=fun x hx=>dz0 p.1 x (List.mem_of_mem_drop hx)
    have hnl:((nibV p.1).drop n).length≤64:=by rw[List.length_drop];omega
    rw[ozN,HzD,azc,show inb 0 (len [p])=true from rfl,aza,show rd bzr [p] 0=p from rfl,sz9 _ (by omega),azd]
    simp only[]
    rw[hin,aza,show ieq (len [p]) 1=true from rfl,aza,hzC,Mzw _ _ hnd hnl,azd,aza]
    rfl
  |p::q::r,h=>
   have hz:=h.key p (by simp)
   have h8:=h.nib (p:=p) (by simp)
   have hlt:=h.lt
   have hln:=h.len
   have hshle:=rzJ (q::r) ((nibV p.1).drop n) n (8-n)
   have hi0:inb 0 (len (p::q::r))=true:=az0 (i:=0) (Nat.succ_pos _)
   have e1:ieq (len (p::q::r)) 1=false:=by rw[czd,azA];exact decide_eq_false (by simp only[List.length_cons];omega)
   have hin:inb2 (n:Int) (len (nibV p.1)) (len (nibV p.1))=true:=by rw[azA,h8];exact bzu (by omega) (by omega) (by omega)
   have eI:=DzN p (q::r) n h
   have hstep:=h.step
   have hT:azF (f+1) n (p::q::r)=if 0<shV (q::r) ((nibV p.1).drop n) n (8-n) then
    .mk true (bs []) [.mk false (preV (((nibV p.1).drop n).take (shV (q::r) ((nibV p.1).drop n) n (8-n))) false) [],refV (azF f (n+shV (q::r) ((nibV p.1).drop n) n (8-n)) (p::q::r))]
    else .mk true (bs []) (kzZ (fun k=>refV (azF f (n+1) ((p::q::r).filter fun p=>az8 p n (k:Int)))) 0 16):=rfl
   generalize hsh:shV (q::r) ((nibV p.1).drop n) n (8-n)=sh at*
   rw[ozN,HzD,azc,hi0,aza,show rd bzr (p::q::r) 0=p from rfl,sz9 _ (by omega),azd]
   simp only[]
   rw[hin,aza,e1,azc,eI,azd]
   simp only[]
   by_cases hs0:0<sh
   ·have hlt2:=hstep.lt
    have y1:=IH (n+sh) (p::q::r) (by omega) hstep
    rw[if_pos hs0] at hT
    rw[hT]
    have hpr: ∀x∈((nibV p.1).drop n).take sh,0≤x∧x≤15:=fun x hx=>dz0 p.1 x (List.mem_of_mem_drop (List.mem_of_mem_take hx))
    have hpl:(((nibV p.1).drop n).take sh).length≤64:=by rw[List.length_take,List.length_drop];omega
    rw[cze (by omega),aza,hzC,show inb2 0 (sh:Int) (len ((nibV p.1).drop n))=true by rw[azA,List.length_drop,h8];exact bzu (by omega) (by omega) (by omega),aza,show sub ((nibV p.1).drop n) 0 (sh:Int)=((nibV p.1).drop n).take sh by unfold sub;simp,Mzw _ _ hpr hpl,azd]
    simp only[]
    rw[azH (by omega) (by omega),show (n:Int)+(sh:Int)=((n+sh:Nat):Int) by omega,y1,azd]
    simp only[]
    rw[PzR,azd]
   ·obtain rfl:sh=0:=by omega
    rw[bzy (by omega),azc]
    rw[if_neg (by omega)] at hT
    rw[hT]
    generalize hF:(fun k:Nat=>refV (azF f (n+1) ((p::q::r).filter fun p=>az8 p n (k:Int))))=F
    have loop: ∀ (m k:Nat) (ks:List ItemT),k+m=16→ks.length≤k→ ∀z,ezG (p::q::r,((n:Int),((k:Int),(z,(.mk true (bs []) ks,())))))=some ((.mk true (bs []) (ks++kzZ F k m),()),()):=by
     intro m
     induction m with
     |zero=>
      intro k ks hk hks z
      rw[qzg,az7 (by omega),azc]
      show Go.TV.cnd (fits (len ks+len [ItemT.mk false (bs []) []]) 3) _ _=_
      rw[azv (by decide) (by simp;omega),aza]
      rfl
     |succ m ih=>
      intro k ks hk hks z
      have y1:=IH (n+1) ((p::q::r).filter fun p=>az8 p n (k:Int)) (by omega) (h.half hlt (k:Int))
      have hk':F k=refV (azF f (n+1) ((p::q::r).filter fun p=>az8 p n (k:Int))):=by rw[←hF]
      generalize azF f (n+1) ((p::q::r).filter fun p=>az8 p n (k:Int))=y at y1 hk'
      have x1:=ih (k+1) (ks++[refV y]) (by omega) (by simp;omega)
      rw[List.append_assoc,show [refV y]++kzZ F (k+1) m=kzZ F k (m+1) by rw[kzZ,hk'];rfl] at x1
      rw[qzg,bzW (by omega),aza,Lz1 _ n hlt (k:Int) hln h.key,azd]
      simp only[]
      rw[azq (by omega),y1,azd]
      simp only[]
      rw[PzR,azd]
      show Go.TV.cnd (fits (len ks+len [refV y]) 3) (ezG (p::q::r,((n:Int),(iadd .i64 (k:Int) 1,(z,(.mk true (bs []) (ks++[refV y]),())))))) _=_
      rw[azv (by decide) (by simp;omega),aza,azq (by omega)]
      exact x1 z
    exact loop 16 0 [] (by omega) (by simp) _
theorem Ozi: ∀ (f n:Nat) (l:List azh),8-n<f→GoodP l n→czW (l,((n:Int),()))=some ((azF f n l,()),()):=by
 intro f
 induction f with
 |zero=>intro n l h;omega
 |succ f IH=>
  intro n l hf h
  have hle:=h.le
  match l,h with
  | [],h=>rw[tzP,czb];rfl
  | [p],h=>
    have hz:=h.key p (by simp)
    have h8:=h.nib (p:=p) (by simp)
    have hin:inb2 (n:Int) (len (nibV p.1)) (len (nibV p.1))=true:=by rw[azA,h8];exact bzu (by omega) (by omega) (by omega)
    have hnd: ∀x∈(nibV p.1).drop n,0≤x∧x≤15:=fun x hx=>dz0 p.1 x (List.mem_of_mem_drop hx)
    have hnl:((nibV p.1).drop n).length≤64:=by rw[List.length_drop];omega
    rw[tzP,HzD,azc,show ieq (len [p]) 1=true from rfl,aza,show inb 0 (len [p])=true from rfl,aza,show rd bzr [p] 0=p from rfl,szb _ (by omega),azd]
    simp only[]
    rw[hin,aza,hzC,Nzj _ _ hnd hnl,azd]
    simp only[]
    rw[czb,azd,aza,czb,azd]
    rfl
  |p::q::r,h=>
   have hz:=h.key p (by simp)
   have h8:=h.nib (p:=p) (by simp)
   have hlt:=h.lt
   have hln:=h.len
   have hshle:=rzJ (q::r) ((nibV p.1).drop n) n (8-n)
   have hi0:inb 0 (len (p::q::r))=true:=az0 (i:=0) (Nat.succ_pos _)
   have e1:ieq (len (p::q::r)) 1=false:=by rw[czd,azA];exact decide_eq_false (by simp only[List.length_cons];omega)
   have eS:=Kz7 p (q::r) n h
   have hstep:=h.step
   have hT:azF (f+1) n (p::q::r)=if 0<shV (q::r) ((nibV p.1).drop n) n (8-n) then
    .mk true (bs []) [.mk false (preV (((nibV p.1).drop n).take (shV (q::r) ((nibV p.1).drop n) n (8-n))) false) [],refV (azF f (n+shV (q::r) ((nibV p.1).drop n) n (8-n)) (p::q::r))]
    else .mk true (bs []) (kzZ (fun k=>refV (azF f (n+1) ((p::q::r).filter fun p=>az8 p n (k:Int)))) 0 16):=rfl
   generalize hsh:shV (q::r) ((nibV p.1).drop n) n (8-n)=sh at*
   rw[tzP,HzD,azc,e1,azc,eS,azd]
   simp only[]
   by_cases hs0:0<sh
   ·have hlt2:=hstep.lt
    have y2:=IH (n+sh) (p::q::r) (by omega) hstep
    rw[if_pos hs0] at hT
    rw[hT]
    have hpr: ∀x∈((nibV p.1).drop n).take sh,0≤x∧x≤15:=fun x hx=>dz0 p.1 x (List.mem_of_mem_drop (List.mem_of_mem_take hx))
    have hpl:(((nibV p.1).drop n).take sh).length≤64:=by rw[List.length_take,List.length_drop];omega
    rw[cze (by omega),aza,hi0,aza,show rd bzr (p::q::r) 0=p from rfl,szb _ (by omega),azd]
    simp only[]
    rw[azH (by omega) (by omega),show (n:Int)+(sh:Int)=((n+sh:Nat):Int) by omega,show inb2 (n:Int) ((n+sh:Nat):Int) (len (nibV p.1))=true by rw[azA,h8];exact bzu (by omega) (by omega) (by omega),aza,show sub (nibV p.1) (n:Int) ((n+sh:Nat):Int)=((nibV p.1).drop n).take sh by unfold sub;rw[show (((n+sh:Nat):Int)).toNat=n+sh by omega,show ((n:Int)).toNat=n by omega,List.drop_take,show n+sh-n=sh by omega],Nzj _ _ hpr hpl,azd]
    simp only[]
    rw[czb,azd,y2,azd]
    simp only[]
    rw[PzJ,azd]
   ·obtain rfl:sh=0:=by omega
    rw[bzy (by omega),azc]
    rw[if_neg (by omega)] at hT
    rw[hT]
    generalize hF:(fun k:Nat=>refV (azF f (n+1) ((p::q::r).filter fun p=>az8 p n (k:Int))))=F
    have loop: ∀ (m k:Nat) (ks:List ItemT),k+m=16→ks.length≤k→ ∀z,hzW (p::q::r,((n:Int),((k:Int),(z,(.mk true (bs []) ks,())))))=some ((.mk true (bs []) (ks++kzZ F k m),()),()):=by
     intro m
     induction m with
     |zero=>
      intro k ks hk hks z
      rw[vzm,az7 (by omega),azc,czb,azd]
      show Go.TV.cnd (fits (len ks+len [ItemT.mk false (bs []) []]) 3) _ _=_
      rw[azv (by decide) (by simp;omega),aza]
      rfl
     |succ m ih=>
      intro k ks hk hks z
      have y2:=IH (n+1) ((p::q::r).filter fun p=>az8 p n (k:Int)) (by omega) (h.half hlt (k:Int))
      have hk':F k=refV (azF f (n+1) ((p::q::r).filter fun p=>az8 p n (k:Int))):=by rw[←hF]
      generalize azF f (n+1) ((p::q::r).filter fun p=>az8 p n (k:Int))=y at y2 hk'
      have x2:=ih (k+1) (ks++[refV y]) (by omega) (by simp;omega)
      rw[List.append_assoc,show [refV y]++kzZ F (k+1) m=kzZ F k (m+1) by rw[kzZ,hk'];rfl] at x2
      rw[vzm,bzW (by omega),aza]
      have:=sInner (p::q::r) n hlt (k:Int) hln h.key z (.mk true (bs []) ks) y (by show ks.length≤100;omega) ⟨by omega,by omega⟩ y2 (p::q::r).length 0 [] (by omega) (by simp) (by simp)
      rw[show ((0:Nat):Int)=0 from rfl] at this
      rw[this,azq (by omega)]
      exact x2 z
    exact loop 16 0 [] (by omega) (by simp) _
theorem FzX (f n:Nat) (l:List azh) (hf:8-n<f) (h:GoodP l n):bz9 (l,((n:Int),()))=some ((azF f n l,()),())∧czW (l,((n:Int),()))=some ((azF f n l,()),()):=⟨Czs f n l hf h,Ozi f n l hf h⟩
theorem trie_both (f n:Nat) (l:List azh) (hf:8-n<f) (h:GoodP l n): ∃x:ItemT,bz9 (l,((n:Int),()))=some ((x,()),())∧czW (l,((n:Int),()))=some ((x,()),()):=⟨_,FzX f n l hf h⟩
theorem rz5: ∀ (a b c:List UInt8),Op.bytesLess a b=true→Op.bytesLess b c=true→Op.bytesLess a c=true
 | [],b,[],h1,h2=>by cases b<;>simp [Op.bytesLess] at h2
 | [],b,c::zs,h1,h2=>rfl
 |a::xs,[],c,h1,h2=>by simp [Op.bytesLess] at h1
 |a::xs,b::ys,[],h1,h2=>by simp [Op.bytesLess] at h2
 |a::xs,b::ys,c::zs,h1,h2=>by
  simp only[Op.bytesLess,Bool.or_eq_true,decide_eq_true_eq,Bool.and_eq_true,beq_iff_eq] at h1 h2⊢
  rcases h1 with h1| ⟨rfl,h1⟩
  ·rcases h2 with h2| ⟨rfl,h2⟩
   ·exact .inl (UInt8.lt_trans h1 h2)
   ·exact .inl h1
  ·rcases h2 with h2| ⟨rfl,h2⟩
   ·exact .inl h2
   ·exact .inr ⟨rfl,rz5 xs ys zs h1 h2⟩
theorem HzV: ∀a:List UInt8,Op.bytesLess a a=false
 | []=>rfl
 |a::xs=>by simp [Op.bytesLess,HzV xs]
noncomputable def pokA (l:List azh) (i:Nat):Bool:=decide (ssz (rd bzr l (i:Int)).1=4)&&(decide (1≤ssz (rd bzr l (i:Int)).2.1)&&(decide (ssz (rd bzr l (i:Int)).2.1≤60)&&(decide (i=0)||slt (rd bzr l ((i:Int)-1)).1 (rd bzr l (i:Int)).1)))
noncomputable def pokF (l:List azh):Nat→Nat→Bool
 |_,0=>true
 |i,m+1=>pokA l i&&pokF l (i+1) m
noncomputable def pokV (l:List azh):Bool:=decide (l.length≤12)&&pokF l 0 l.length
theorem AzK (x y:ByteArray):sge x y=!slt x y:=rfl
theorem LzU (l:List azh) (hl:l.length≤1000000): ∀ (m i:Nat),i+m=l.length→kzc (l,(l,(len l,((i:Int),()))))=some ((pokF l i m,()),()):=by
 intro m
 induction m with
 |zero=>intro i hi;rw[xzO,show (i:Int)=(l.length:Int) by omega,bzb,azc];rfl
 |succ m ih=>
  intro i hi
  have h1:i<l.length:=by omega
  rw[xzO,bzp h1,aza,az0 h1,aza,czY]
  show _=some ((pokA l i&&pokF l (i+1) m,()),())
  unfold pokA
  by_cases c1:ssz (rd bzr l (i:Int)).1=4
  ·rw[decide_eq_true c1,show (!true)=false from rfl,azc]
   by_cases c2:1≤ssz (rd bzr l (i:Int)).2.1
   ·rw[az7 c2,azc,decide_eq_true c2]
    by_cases c3:ssz (rd bzr l (i:Int)).2.1≤60
    ·rw[bzy c3,azc,decide_eq_true c3]
     by_cases c4:i=0
     ·rw[bzy (by omega),azc,decide_eq_true c4,azq (by omega),ih (i+1) (by omega)];rfl
     ·rw[cze (by omega),aza,bzi (by omega) (by omega),show inb ((i:Int)-1) (len l)=true by rw[azA];exact bzI (by omega) (by omega),aza,AzK,kzd,decide_eq_false c4]
      cases slt (rd bzr l ((i:Int)-1)).1 (rd bzr l (i:Int)).1
      ·rfl
      ·rw[aza,azq (by omega),ih (i+1) (by omega)];rfl
    ·rw[cze (by omega),aza,decide_eq_false c3];rfl
   ·rw[bzW (by omega),aza,decide_eq_false c2];rfl
  ·rw[decide_eq_false c1,show (!false)=true from rfl,aza];rfl
theorem LzS (l:List azh) (hl:l.length≤1000000000): ∀ (m i:Nat),i+m=l.length→jzB (l,((i:Int),()))=some ((pokF l i m&&decide (l.length≤12),()),()):=by
 intro m
 induction m with
 |zero=>
  intro i hi
  rw[xze,show (i:Int)=(l.length:Int) by omega,bzb,azc,gzB,azA]
  show some ((decide ((l.length:Int)≤12),()),())=some ((true&&decide (l.length≤12),()),())
  rw[Bool.true_and,show decide ((l.length:Int)≤12)=decide (l.length≤12) by simp only[decide_eq_decide];omega]
 |succ m ih=>
  intro i hi
  have h1:i<l.length:=by omega
  rw[xze,bzp h1,aza,az0 h1,aza,czY]
  show _=some (((pokA l i&&pokF l (i+1) m)&&decide (l.length≤12),()),())
  unfold pokA
  by_cases c1:ssz (rd bzr l (i:Int)).1=4
  ·rw[decide_eq_true c1,show (!true)=false from rfl,azc,aza,tzD,azd]
   simp only[]
   by_cases c2:1≤ssz (rd bzr l (i:Int)).2.1
   ·by_cases c3:ssz (rd bzr l (i:Int)).2.1≤60
    ·rw[decide_eq_true (⟨c2,c3⟩:1≤ssz (rd bzr l (i:Int)).2.1∧ssz (rd bzr l (i:Int)).2.1≤60),show bnot true=false from rfl,azc,decide_eq_true c2,decide_eq_true c3]
     by_cases c4:i=0
     ·rw[bzy (by omega),azc,decide_eq_true c4,azq (by omega),ih (i+1) (by omega)];rfl
     ·rw[cze (by omega),aza,bzi (by omega) (by omega),show inb ((i:Int)-1) (len l)=true by rw[azA];exact bzI (by omega) (by omega),aza,aza,AzK,kzd,decide_eq_false c4]
      cases slt (rd bzr l ((i:Int)-1)).1 (rd bzr l (i:Int)).1
      ·rfl
      ·rw[aza,azq (by omega),ih (i+1) (by omega)];rfl
    ·rw[decide_eq_false (fun hh:1≤ssz (rd bzr l (i:Int)).2.1∧ssz (rd bzr l (i:Int)).2.1≤60=>c3 hh.2),show bnot false=true from rfl,aza,decide_eq_true c2,decide_eq_false c3];rfl
   ·rw[decide_eq_false (fun hh:1≤ssz (rd bzr l (i:Int)).2.1∧ssz (rd bzr l (i:Int)).2.1≤60=>c2 hh.1),show bnot false=true from rfl,aza,decide_eq_false c2];rfl
  ·rw[decide_eq_false c1,show (!false)=true from rfl,aza];rfl
theorem KzM (l:List azh):jzf (l,())=some ((pokV l,()),()):=by
 rw[IzS]
 unfold pokV
 by_cases h:l.length≤12
 ·rw[bzy (by rw[azA];omega),azc,decide_eq_true h]
  exact LzU l (by omega) l.length 0 (by omega)
 ·rw[cze (by rw[azA];omega),aza,decide_eq_false h];rfl
theorem KzX (l:List azh) (hl:l.length≤1000000000):fzi (l,())=some ((pokV l,()),()):=by
 rw[JzP]
 have:=LzS l hl l.length 0 (by omega)
 rw[show ((0:Nat):Int)=0 from rfl] at this
 rw[this,pokV,Bool.and_comm]
theorem Bzn (l:List azh): ∀ (m i:Nat),pokF l i m=true→ ∀j,i≤j→j<i+m→pokA l j=true
 |0,i,_,j,h1,h2=>by omega
 |m+1,i,h,j,h1,h2=>by
  have h':(pokA l i&&pokF l (i+1) m)=true:=h
  rw[Bool.and_eq_true] at h'
  by_cases hj:j=i
  ·subst hj;exact h'.1
  ·exact Bzn l m (i+1) h'.2 j (by omega) (by omega)
theorem izY {l:List azh} (h:pokV l=true):GoodP l 0:=by
 unfold pokV at h
 rw[Bool.and_eq_true] at h
 have hl:=of_decide_eq_true h.1
 have hat:=Bzn l l.length 0 h.2
 have get: ∀j (hj:j<l.length),l[j].1.size=4∧(j=0∨ ∃hj':j-1<l.length,Op.bytesLess (l[j-1].1).toList (l[j].1).toList=true):=by
  intro j hj
  have h1:=hat j (by omega) (by omega)
  unfold pokA at h1
  simp only[Bool.and_eq_true,decide_eq_true_eq,Bool.or_eq_true,bzA hj,azN] at h1
  refine ⟨by omega,?_⟩
  rcases h1.2.2.2 with h2|h2
  ·exact .inl h2
  ·by_cases hj0:j=0
   ·exact .inl hj0
   ·right
    have hj1:j-1<l.length:=by omega
    refine ⟨hj1,?_⟩
    rw[show ((j:Int)-1)=((j-1:Nat):Int) by omega,bzA hj1] at h2
    exact h2
 have lt: ∀ (m i:Nat) (hi:i<l.length) (hj:i+m+1<l.length),Op.bytesLess (l[i].1).toList (l[i+m+1].1).toList=true:=by
  intro m
  induction m with
  |zero=>
   intro i hi hj
   rcases (get (i+0+1) hj).2 with h1| ⟨h1,h2⟩
   ·omega
   ·simpa using h2
  |succ m ih=>
   intro i hi hj
   have h1:=ih i hi (by omega)
   rcases (get (i+(m+1)+1) hj).2 with h2| ⟨h2,h3⟩
   ·omega
   ·refine rz5 _ _ _ h1 ?_
    simp only[show i+(m+1)+1-1=i+m+1 by omega] at h3
    exact h3
 refine ⟨by omega,fun p hp=>?_,?_,fun _ _ _ _=>rfl,by omega⟩
 ·obtain ⟨j,hj,rfl⟩:=List.getElem_of_mem hp
  exact (get j hj).1
 ·rw[List.pairwise_iff_getElem]
  intro i j hi hj hij e
  have:=lt (j-i-1) i hi (by omega)
  simp only[show i+(j-i-1)+1=j by omega] at this
  rw[e,HzV] at this
  cases this
noncomputable def azS (l:List azh):ByteArray:=if pokV l=true then azo (bzn (azF 9 0 l)).1 else bs []
theorem ez4 (l:List azh):(azS l).size≤32:=by
 unfold azS
 split
 ·exact Nat.le_of_eq (azD _)
 ·decide
theorem Czt (l:List azh):ez7 (l,())=some ((azS l,()),()):=by
 rw[Fzn,KzM,azd]
 unfold azS
 simp only[]
 cases h:pokV l with
 |false=>rfl
 |true=>
  simp only[bnot,Bool.not_true,azc]
  have hz:=fzu (azF 9 0 l)
  rw[show bz9 (l,(0,()))=some ((azF 9 0 l,()),()) from Czs 9 0 l (by omega) (izY h),azd]
  simp only[]
  rw[ez5,azd]
  simp only[]
  rw[hz9 _ (by omega),azd]
  rfl
theorem Mz8 (l:List azh) (hl:l.length≤1000000000):ez3 (l,())=some ((azS l,()),()):=by
 rw[Ez4,KzX l hl,azd]
 unfold azS
 simp only[]
 cases h:pokV l with
 |false=>rfl
 |true=>
  simp only[bnot,Bool.not_true,azc]
  have hz:=fzu (azF 9 0 l)
  rw[show czW (l,(0,()))=some ((azF 9 0 l,()),()) from (FzX 9 0 l (by omega) (izY h)).2,azd]
  simp only[]
  rw[ez6,azd]
  simp only[]
  rw[ezE _ (by omega),azd]
  rfl
theorem xzv (l:List azh) (hl:l.length≤1000000000): ∃t:ByteArray,t.size≤32∧ez7 (l,())=some ((t,()),())∧ez3 (l,())=some ((t,()),()):=⟨_,ez4 l,Czt l,Mz8 l hl⟩
end Go.Proofs.YtdfbhjpmdjmdaaaGreatDoor
