/- The texts of items, whole. Of no condition. -/
import Derived.Test.YtdfbhjpmdjmdaaaGreatDoorTB
set_option linter.unusedVariables false
set_option linter.unusedSimpArgs false
set_option maxRecDepth 100000
namespace Go.Proofs.YtdfbhjpmdjmdaaaGreatDoor
open Go.TV
noncomputable def azt:Nat→ItemT→ByteArray
 |0,_=>bs []
 |d+1, .mk l s k=>bif l then scat (lenV 192 ((k.map (azt d)).foldl scat (bs [])).size) ((k.map (azt d)).foldl scat (bs [])) else if s.size=1∧sat s 0<128 then s else scat (lenV 128 s.size) s
theorem zzM {B:Nat}: ∀ (l:List ByteArray) (s:ByteArray),(∀y∈l,y.size≤B)→(l.foldl scat s).size≤s.size+B*l.length
 | [],s,_=>by simp
 |y::l,s,h=>by
  have h1:=zzM l (scat s y) (fun z hz=>h z (by simp [hz]))
  have h2:=h y (by simp)
  rw[azu] at h1
  simp only[List.foldl_cons,List.length_cons,Nat.mul_add,Nat.mul_one]
  omega
theorem Lz6: ∀ (l:List ByteArray) (s:ByteArray),s.size≤(l.foldl scat s).size
 | [],s=>Nat.le_refl _
 |y::l,s=>by
  have h1:=Lz6 l (scat s y)
  rw[azu] at h1
  simp only[List.foldl_cons]
  omega
theorem EzL {s:ByteArray} (h:s.size≤600):(if s.size=1∧sat s 0<128 then s else scat (lenV 128 s.size) s).size≤609:=by
 split
 ·omega
 ·have:=dzQ 128 s.size
  rw[azu];omega
theorem hzy {d:Nat} {s:ByteArray} {k:List ItemT} (h:fitV d (.mk false s k)=true):s.size≤600∧k=[]:=by
 have e:fitV d (.mk false s k)=(decide (s.size≤600)&&decide (k.length=0)):=by cases d<;>rfl
 rw[e,Bool.and_eq_true] at h
 exact ⟨of_decide_eq_true h.1,List.length_eq_zero_iff.1 (of_decide_eq_true h.2)⟩
theorem ezR {d:Nat} {s:ByteArray} {k:List ItemT} (h:fitV d (.mk true s k)=true):s=bs []∧k.length≤17∧ ∃e,d=e+1∧ ∀y∈k,fitV e y=true:=by
 cases d with
 |zero=>cases h
 |succ d=>
  have h':(decide (s=bs [])&&(decide (k.length≤17)&&k.all (fitV d)))=true:=h
  simp only[Bool.and_eq_true,List.all_eq_true] at h'
  exact ⟨of_decide_eq_true h'.1,of_decide_eq_true h'.2.1,d,rfl,h'.2.2⟩
theorem zzm: ∀ (d:Nat) (x:ItemT),fitV d x=true→(azt (d+1) x).size≤610*18^d
 |d, .mk false s k,h=>by
  have h1:=EzL (hzy h).1
  have h2:1≤18^d:=Nat.pow_pos (by decide)
  show (if s.size=1∧sat s 0<128 then s else scat (lenV 128 s.size) s).size≤_
  omega
 |d, .mk true s k,h=>by
  obtain ⟨_,h2,e,rfl,h3⟩:=ezR h
  have h4:=zzM (B:=610*18^e) (k.map (azt (e+1))) (bs []) (fun y hy=>by
   obtain ⟨z,hz,rfl⟩:=List.mem_map.1 hy
   exact zzm e z (h3 z hz))
  have h5:=dzQ 192 ((k.map (azt (e+1))).foldl scat (bs [])).size
  have h6:1≤18^e:=Nat.pow_pos (by decide)
  have h7:610*18^e*k.length≤610*18^e*17:=Nat.mul_le_mul_left _ h2
  show (scat (lenV 192 ((k.map (azt (e+1))).foldl scat (bs [])).size) ((k.map (azt (e+1))).foldl scat (bs []))).size≤_
  rw[azu,Nat.pow_succ]
  rw[List.length_map] at h4
  have h8:(bs []).size=0:=rfl
  omega
theorem pow18 {d:Nat} (h:d≤4):610*18^d≤64035360:=Nat.le_trans (Nat.mul_le_mul_left _ (Nat.pow_le_pow_right (by decide) h)) (by decide)
theorem Hzq: ∀ (d:Nat) (x:ItemT),d≤4→fitV d x=true→gzz (x,())=some ((azt (d+1) x,()),())
 |d, .mk false s k,hd,h=>by
  obtain ⟨h1,rfl⟩:=hzy h
  have hD: ¬(s.size=1∧sat s 0<128)→nzx (.mk false s [],())=some ((azt (d+1) (.mk false s []),()),()):=fun hn=>by
   have hz:=dzQ 128 s.size
   rw[FzM]
   show Go.TV.bnd (jzq (ssz s,(128,()))) _=_
   rw[azN,Gz9 128 s.size (by omega),azd]
   show Go.TV.cnd (fits (ssz (lenV 128 s.size)+ssz s) 1) _ _=_
   rw[ezs (by omega),aza]
   show _=some ((if s.size=1∧sat s 0<128 then s else scat (lenV 128 s.size) s,()),())
   rw[if_neg hn]
   rfl
  rw[zz2]
  show Go.TV.cnd (bnot false) (Go.TV.cnd (ieq (ssz s) 1) (Go.TV.cnd (inb 0 (ssz s)) (Go.TV.cnd (ilt (sat s 0) 128) _ _) _) _) _=_
  rw[show bnot false=true from rfl,aza]
  by_cases h2:s.size=1
  ·rw[czd,decide_eq_true (show ssz s=1 by rw[azN];omega),aza,show inb 0 (ssz s)=true by rw[azN];exact bzI (by omega) (by omega),aza]
   by_cases h3:sat s 0<128
   ·rw[bzW h3,aza]
    show _=some ((if s.size=1∧sat s 0<128 then s else scat (lenV 128 s.size) s,()),())
    rw[if_pos ⟨h2,h3⟩]
    rfl
   ·rw[az7 (by omega),azc]
    exact hD fun hh=>h3 hh.2
  ·rw[czd,decide_eq_false (show¬ssz s=1 by rw[azN];omega),azc]
   exact hD fun hh=>h2 hh.1
 |d, .mk true s k,hd,h=>by
  obtain ⟨_,h2,e,rfl,h3⟩:=ezR h
  have hB:=pow18 (d:=e) (by omega)
  have loop: ∀ (m i:Nat) (acc:ByteArray),i+m=k.length→acc.size≤i*64035360→gzE (acc,((i:Int),(.mk true s k,())))=some ((scat (lenV 192 (((k.drop i).map (azt (e+1))).foldl scat acc).size) (((k.drop i).map (azt (e+1))).foldl scat acc),()),()):=by
   intro m
   induction m with
   |zero=>
    intro i acc hi ha
    have hz:=dzQ 192 acc.size
    rw[xzb]
    show Go.TV.cnd (ilt (i:Int) (len k)) _ _=_
    rw[show (i:Int)=(k.length:Int) by omega,bzb,azc,List.drop_eq_nil_of_le (by omega),azN,Gz9 192 acc.size (by omega),azd]
    show Go.TV.cnd (fits (ssz (lenV 192 acc.size)+ssz acc) 1) _ _=_
    rw[ezs (by omega),aza]
    rfl
   |succ m ih=>
    intro i acc hi ha
    have hl:i<k.length:=by omega
    have hs:=Nat.le_trans (zzm e k[i] (h3 _ (List.getElem_mem hl))) hB
    rw[xzb]
    show Go.TV.cnd (ilt (i:Int) (len k)) (Go.TV.cnd (inb (i:Int) (len k)) (Go.TV.bnd (gzz (rd (ItemT.mk false (bs []) ([]:List ItemT)) k (i:Int),())) _) _) _=_
    rw[bzp hl,aza,az0 hl,aza,bzA hl,Hzq e k[i] (by omega) (h3 _ (List.getElem_mem hl)),azd]
    show Go.TV.cnd (fits (ssz acc+ssz (azt (e+1) k[i])) 1) (gzE (scat acc (azt (e+1) k[i]),(iadd .i64 (i:Int) 1,(.mk true s k,())))) _=_
    rw[ezs (by omega),aza,azq (by omega),ih (i+1) _ (by omega) (by rw[azu];omega),List.drop_eq_getElem_cons hl]
    rfl
  rw[zz2]
  show Go.TV.cnd (bnot true) _ (gzE (bs [],(((0:Nat):Int),(.mk true s k,()))))=_
  rw[show bnot true=false from rfl,azc,loop k.length 0 (bs []) (by omega) (by decide),List.drop_zero]
  rfl
theorem lenF_n (base:Int) (n:Nat) (h:n≤9223372036854775807):lenF base (n:Int)=some (lenV base n):=by
 unfold lenF
 rw[iLen_l base n h];rfl
theorem Lzj (base:Int) (s:ByteArray) (h:s.size≤9223372036854775807):sz5 lenF base s=some (scat (lenV base s.size) s,true):=by
 unfold sz5
 rw[azN,lenF_n base s.size h]
 simp only
 rw[if_pos (Nat.le_trans (dzQ _ _) (by decide))]
theorem DzH: ∀ (d:Nat) (x:ItemT),d≤4→fitV d x=true→ ∃t b,mzo lenF (d+1) x=some (t,b)∧((b=true∧t=azt (d+1) x∧t.size≤1000)∨(b=false∧900<(azt (d+1) x).size))
 |d, .mk false s k,hd,h=>by
  have h1:=(hzy h).1
  refine ⟨azt (d+1) (.mk false s k),true,?_, .inl ⟨rfl,rfl,Nat.le_trans (EzL h1) (by decide)⟩⟩
  show (if false=true then _ else if s.size=1∧sat s 0<128 then some (s,true) else sz5 lenF 128 s)=some (if s.size=1∧sat s 0<128 then s else scat (lenV 128 s.size) s,true)
  rw[if_neg (by decide),Lzj 128 s (by omega)]
  split<;>rfl
 |d, .mk true s k,hd,h=>by
  obtain ⟨_,h2,e,rfl,h3⟩:=ezR h
  have loop: ∀ (l:List ItemT) (acc:ByteArray),(∀y∈l,fitV e y=true)→acc.size≤900→ ∃t b,nzU (mzo lenF (e+1)) (sz5 lenF 192) l acc=some (t,b)∧
   ((b=true∧t=scat (lenV 192 ((l.map (azt (e+1))).foldl scat acc).size) ((l.map (azt (e+1))).foldl scat acc)∧((l.map (azt (e+1))).foldl scat acc).size≤900)∨(b=false∧900<((l.map (azt (e+1))).foldl scat acc).size)):=by
   intro l
   induction l with
   |nil=>
    intro acc _ ha
    exact ⟨_,true,Lzj 192 acc (by omega), .inl ⟨rfl,rfl,ha⟩⟩
   |cons y l ih=>
    intro acc hl ha
    obtain ⟨t,b,e1,e2⟩:=DzH e y (by omega) (hl y (by simp))
    have hg:=Lz6 (l.map (azt (e+1))) (scat acc (azt (e+1) y))
    rw[azu] at hg
    rcases e2 with ⟨rfl,rfl,e3⟩| ⟨rfl,e3⟩
    ·by_cases h9:acc.size+(azt (e+1) y).size≤900
     ·obtain ⟨t2,b2,f1,f2⟩:=ih (scat acc (azt (e+1) y)) (fun z hz=>hl z (by simp [hz])) (by rw[azu];exact h9)
      exact ⟨t2,b2,by simp only[nzU,e1,if_pos e3,if_pos h9];exact f1,f2⟩
     ·exact ⟨⟨#[]⟩,false,by simp only[nzU,e1,if_pos e3,if_neg h9], .inr ⟨rfl,by show 900<((l.map (azt (e+1))).foldl scat (scat acc (azt (e+1) y))).size;omega⟩⟩
    ·exact ⟨⟨#[]⟩,false,by simp only[nzU,e1], .inr ⟨rfl,by show 900<((l.map (azt (e+1))).foldl scat (scat acc (azt (e+1) y))).size;omega⟩⟩
  obtain ⟨t,b,e1,e2⟩:=loop k (bs []) h3 (by decide)
  have hz:=dzQ 192 ((k.map (azt (e+1))).foldl scat (bs [])).size
  refine ⟨t,b,by show (if true=true then nzU (mzo lenF (e+1)) (sz5 lenF 192) k ⟨#[]⟩ else _)=_;rw[if_pos rfl];exact e1,?_⟩
  rcases e2 with ⟨rfl,rfl,e3⟩| ⟨rfl,e3⟩
  ·exact .inl ⟨rfl,rfl,by rw[azu];omega⟩
  ·exact .inr ⟨rfl,by show 900<(scat (lenV 192 ((k.map (azt (e+1))).foldl scat (bs [])).size) ((k.map (azt (e+1))).foldl scat (bs []))).size;rw[azu];omega⟩
noncomputable def bzn (x:ItemT):ByteArray×Bool:=if fitV 4 x=true∧(azt 5 x).size≤900 then (azt 5 x,true) else (bs [],false)
theorem fzu (x:ItemT):(bzn x).1.size≤900:=by
 unfold bzn
 split
 ·rename_i h;exact h.2
 ·decide
theorem ez6 (x:ItemT):dzW (x,())=some (((bzn x).1,((bzn x).2,())),()):=by
 rw[Fzy,KzV,azd]
 simp only[]
 unfold bzn
 cases h:fitV 4 x with
 |false=>simp only[bnot,Bool.not_false,aza];rw[if_neg (by simp)];rfl
 |true=>
  simp only[bnot,Bool.not_true,azc]
  rw[show gzz (x,())=some ((azt 5 x,()),()) from Hzq 4 x (by omega) h,azd]
  simp only[]
  by_cases h9:(azt 5 x).size≤900
  ·rw[bzy (by rw[azN];omega),azc,if_pos ⟨by trivial,h9⟩]
  ·rw[cze (by rw[azN];omega),aza,if_neg (fun hh=>h9 hh.2)];rfl
theorem ez5 (x:ItemT):dzM (x,())=some (((bzn x).1,((bzn x).2,())),()):=by
 rw[Fze,Kzm,azd]
 simp only[]
 unfold bzn
 cases h:fitV 4 x with
 |false=>simp only[bnot,Bool.not_false,aza];rw[if_neg (by simp)];rfl
 |true=>
  simp only[bnot,Bool.not_true,azc]
  have hspec: ∃t b,mzo lenF 5 x=some (t,b)∧((b=true∧t=azt 5 x∧t.size≤1000)∨(b=false∧900<(azt 5 x).size)):=DzH 4 x (by omega) h
  obtain ⟨t,b,e1,e2⟩:=hspec
  have e:kzx (x,())=some ((t,(b,())),()):=by
   unfold kzx
   rw[if_pos (PzY 4 x h),e1];rfl
  rw[e,azd]
  simp only[]
  rcases e2 with ⟨rfl,rfl,e3⟩| ⟨rfl,e3⟩
  ·simp only[Bool.not_true,azc]
   by_cases h9:(azt 5 x).size≤900
   ·rw[bzy (by rw[azN];omega),azc,if_pos ⟨by trivial,h9⟩]
   ·rw[cze (by rw[azN];omega),aza,if_neg (fun hh=>h9 hh.2)];rfl
  ·simp only[Bool.not_false,aza]
   rw[if_neg (fun hh=>by have:=hh.2;omega)];rfl
end Go.Proofs.YtdfbhjpmdjmdaaaGreatDoor
