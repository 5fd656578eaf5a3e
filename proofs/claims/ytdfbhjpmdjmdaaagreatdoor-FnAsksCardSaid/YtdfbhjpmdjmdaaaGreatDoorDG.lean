/- What an account stores is told from the root of a drawn state down. Of no condition. -/
import Derived.Test.YtdfbhjpmdjmdaaaGreatDoorDE
set_option linter.unusedVariables false
set_option linter.unusedSimpArgs false
set_option maxRecDepth 100000
namespace Go.Proofs.YtdfbhjpmdjmdaaaGreatDoor
open Go.TV
theorem MzQ {c:azi} (h:czm c): ∃ (t:ByteArray) (c':azi),iz3 (c,())=some ((t,()),(c',()))∧t.size=32∧czm c':=by
 obtain ⟨t,c1,e1,ht,h1⟩:=PzC 2 (by omega) h
 rw[Izc,e1,azd]
 simp only[]
 rw[ezE _ (by omega),azd]
 exact ⟨_,_,rfl,azD _,h1⟩
theorem PzV {c:azi} (h:czm c): ∃ (x:czD) (c':azi),lzk (c,())=some ((x,()),(c',()))∧x.2.1.size=32∧x.2.2.2.1.size=32∧czm c':=by
 obtain ⟨v,c1,e1,_,_,h1⟩:=czE 90 h
 obtain ⟨t1,c2,e2,z1,h2⟩:=MzQ h1
 obtain ⟨t2,c3,e3,z2,h3⟩:=MzQ h2
 obtain ⟨t3,c4,e4,z3,h4⟩:=MzQ h3
 rw[Jzv]
 simp only[e1,e2,e3,e4,azd]
 exact ⟨_,_,rfl,z1,z3,h4⟩
theorem IzH (code:List Int) (hl:code.length≤1048576): ∃x:czD,nzf (code,())=some ((x,()),()):=by
 obtain ⟨c,e,h⟩:=Iz5 code hl
 obtain ⟨x,c1,e1,_,_,_⟩:=PzV h
 rw[FzK]
 simp only[e,e1,azd]
 exact ⟨_,rfl⟩
theorem MzC {c:azi} (h:czm c): ∃ (x:czD) (c':azi),szn (c,())=some ((x,()),(c',()))∧czm c':=by
 obtain ⟨k,c1,e1,_,_,h1⟩:=czE 10 h
 obtain ⟨v,c2,e2,v0,v1,h2⟩:=czE 60 h1
 obtain ⟨x,c3,e3,z1,z3,h3⟩:=PzV h2
 have hin:inb (irem v 4) (len ([-1,0,10000,10001]:List Int))=true:=by
  rw[fzW v0]
  exact bzI (Int.emod_nonneg _ (by omega)) (Int.emod_lt_of_pos _ (by decide))
 have hi2:inb2 1 (ssz x.2.1) (ssz x.2.1)=true:=bzu (by omega) (by rw[azN];omega) (Int.le_refl _)
 have hf:fits (ssz x.2.2.2.1+ssz (bs [120])) 1=true:=ezs (by rw[gzq];simp only[List.length_cons,List.length_nil];omega)
 rw[Kzq]
 simp only[e1,e2,e3,azd,show nz 4=true from rfl,aza,hin,hi2,hf]
 cases ieq k 0 with
 |true=>exact ⟨_,_,rfl,h3⟩
 |false=>
 cases ieq k 1 with
 |true=>exact ⟨_,_,rfl,h3⟩
 |false=>
 cases ieq k 2 with
 |true=>exact ⟨_,_,rfl,h3⟩
 |false=>
 cases ieq k 3 with
 |true=>exact ⟨_,_,rfl,h3⟩
 |false=>exact ⟨_,_,rfl,h3⟩
theorem Pz9 {c:azi} (h:czm c): ∃ (p:azm) (c':azi),gz2 (c,())=some ((p,()),(c',()))∧czm c':=by
 obtain ⟨x,c1,e1,x0,x1,h1⟩:=czE 250 h
 have loop: ∀ (m i:Nat) (z:azm),i+m=60→ ∃p:azm,kzF (x,((i:Int),(c1,(z,()))))=some ((p,()),(c1,())):=by
  intro m
  induction m with
  |zero=>
   intro i z hi
   rw[vzv,az7 (by omega),azc,MzV,azd]
   exact ⟨_,rfl⟩
  |succ m ih=>
   intro i z hi
   rw[vzv,bzW (by omega),aza,Hzx,azd]
   simp only[]
   rw[Mzk,azd]
   simp only[]
   cases (GzB (Bzk (iadd .i64 x (i:Int)))).2 with
   |true=>exact ⟨_,rfl⟩
   |false=>
    rw[azc,azq (by omega)]
    exact ih (i+1) z (by omega)
 obtain ⟨p,e⟩:=loop 60 0 czS (by omega)
 rw[Fza,e1,azd]
 exact ⟨p,c1,e,h1⟩
theorem num_l {c:azi} (h:czm c): ∃ (v:Int) (c':azi),fzL (c,())=some ((v,()),(c',()))∧czm c':=by
 obtain ⟨a,c1,e1,_,_,h1⟩:=czE 256 h
 obtain ⟨b,c2,e2,_,_,h2⟩:=czE 256 h1
 obtain ⟨w,c3,e3,_,h3⟩:=szk [0,1,2,3,12106,12107,12108,-1,iadd .i64 5000 a,imul .i64 b 47,-9223372036854775808,9223372036854775807] (by simp) h2
 rw[MzZ]
 simp only[e1,e2,e3,azd]
 exact ⟨_,_,rfl,h3⟩
theorem Qza {c:azi} (h:czm c): ∃ (p:azm) (c':azi),gzS (c,())=some ((p,()),(c',()))∧czm c':=by
 obtain ⟨a,c1,e1,a0,_,h1⟩:=czE 256 h
 obtain ⟨w,c2,e2,hw,h2⟩:=szk [1,2,3,0,500,1008,a] (by simp) h1
 have hw0:0≤w:=by
  simp only[List.mem_cons,List.not_mem_nil,or_false] at hw
  omega
 rw[Fzr]
 simp only[e1,e2,azd]
 rw[MzV,azd]
 simp only[]
 rw[Hz1 _ _ hw0,azd]
 exact ⟨_,_,rfl,h2⟩
theorem Rza {c:azi} (h:czm c): ∃ (p:azm) (c':azi),lzL (c,())=some ((p,()),(c',()))∧czm c':=by
 obtain ⟨v,c1,e1,_,_,h1⟩:=czE 10 h
 obtain ⟨p,c2,e2,h2⟩:=Pz9 h1
 obtain ⟨a,c3,e3,h3⟩:=num_l h1
 obtain ⟨b,c4,e4,h4⟩:=num_l h3
 obtain ⟨d,c5,e5,_,_,h5⟩:=czE 3 h1
 obtain ⟨g,c6,e6,h6⟩:=Qza h1
 rw[Nzk]
 simp only[e1,azd]
 simp only[e2,e3,e5,e6,azd]
 simp only[e4,azd]
 cases ieq v 0 with
 |true=>exact ⟨_,_,rfl,h2⟩
 |false=>
 cases ieq v 1 with
 |true=>exact ⟨_,_,rfl,h2⟩
 |false=>
 cases ieq v 2 with
 |true=>exact ⟨_,_,rfl,h2⟩
 |false=>
 cases ieq v 3 with
 |true=>exact ⟨_,_,rfl,h4⟩
 |false=>
 cases ieq v 4 with
 |true=>exact ⟨_,_,rfl,h5⟩
 |false=>
 cases ieq v 5 with
 |true=>exact ⟨_,_,rfl,h1⟩
 |false=>exact ⟨_,_,rfl,h6⟩
theorem Qzc (s:Int):(Rzo s).1.length=8:=by
 show ((Rzm s).map Rzt).length=8
 rw[List.length_map,Rzl]
theorem Fz8 {l:List azm} (h:l.length≤8):Fine azr (l,()):=⟨⟨by show l.length≤16777216;omega,fun x _=>⟨trivial,trivial,trivial,trivial⟩⟩,trivial⟩
theorem OzF {c:azi} (h:czm c): ∃ (x:azl) (c':azi),tza (c,())=some ((x,()),(c',()))∧Fine azr x∧czm c':=by
 obtain ⟨k,c1,e1,_,_,h1⟩:=czE 8 h
 obtain ⟨s,c2,e2,_,_,h2⟩:=czE 50 h1
 obtain ⟨i,c3,e3,i0,i1,h3⟩:=czE 8 h2
 obtain ⟨p,c4,e4,h4⟩:=Rza h3
 have hl:=Qzc s
 have i2:=i1 (by omega)
 have hf:fits (len ([]:List azm)+len (Rzo s).1) 3=true:=azv (by decide) (by simp only[List.length_nil];omega)
 have hin:inb i (len (Rzo s).1)=true:=bzI i0 (by rw[azA];omega)
 have hi2:inb2 1 (len (Rzo s).1) (len (Rzo s).1)=true:=bzu (by omega) (by rw[azA];omega) (Int.le_refl _)
 rw[Kzn]
 simp only[e1,e2,azd,Rzv,hf,aza,show app ([]:List azm) (Rzo s).1=(Rzo s).1 from rfl,e3,e4,hin,hi2,mze]
 cases ieq k 0 with
 |true=>exact ⟨_,_,rfl,Fz8 (by unfold upd;rw[List.length_set];omega),h4⟩
 |false=>
 cases ieq k 1 with
 |true=>exact ⟨_,_,rfl,Fz8 (by unfold sub;rw[List.length_drop,List.length_take];omega),h2⟩
 |false=>exact ⟨_,_,rfl,Fz8 (by omega),h2⟩
theorem Oz4 {c:azi} (h:czm c): ∃ (r:List azb) (c':azi),bzE (c,())=some ((r,()),(c',()))∧hzX r∧czm c':=by
 obtain ⟨k,c1,e1,_,_,h1⟩:=czE 10 h
 obtain ⟨r,c2,e2,r1,r2,h2⟩:=ozL h1
 have hs:hzX r:=⟨by omega,fun a ha=>by have:=(r2.1 a ha).2.2.1;omega⟩
 have more: ∀x:azb,x.2.2.2.1=[]→hzX (r++[x]):=fun x hx=>⟨by rw[List.length_append];simp only[List.length_cons,List.length_nil];omega,fun a ha=>by
  rcases List.mem_append.1 ha with ha|ha
  ·exact hs.2 a ha
  ·rw[List.mem_singleton.1 ha,hx];simp⟩
 have hf: ∀x:azb,fits (len r+len (x::([]:List azb))) 4=true:=fun x=>azv (by decide) (by simp only[List.length_cons,List.length_nil];omega)
 have hf0:fits (len ([]:List azb)+len r) 4=true:=azv (by decide) (by simp only[List.length_nil];omega)
 rw[MzL]
 simp only[e1,e2,azd,hf0,aza,show app ([]:List azb) r=r from rfl,hf]
 cases ieq k 0 with
 |true=>exact ⟨_,_,rfl,more _ rfl,h2⟩
 |false=>
 cases ieq k 1 with
 |true=>exact ⟨_,_,rfl,more _ rfl,h2⟩
 |false=>
 cases ieq k 2 with
 |true=>exact ⟨_,_,rfl,more _ rfl,h2⟩
 |false=>exact ⟨_,_,rfl,hs,h2⟩
theorem Izq (code:List Int) (hl:code.length≤1048576): ∃ (l:List azb) (a b:azl) (x:czD) (n s:ByteArray),hzh (code,())=some ((l,(a,(b,(x,(n,(s,())))))),())∧hzX l∧Fine azr a∧Fine azr b∧n.size≤16777216∧s.size≤16777216:=by
 obtain ⟨c,e,h⟩:=Iz5 code hl
 obtain ⟨n,c1,e1,hn,h1⟩:=Ezq [bs [97,97,97,97],bs [97,97,97,98],bs [98,111,98,98],bs [110,111,110,101]] (by decide) h
 have hn4:n.size=4:=by
  simp only[List.mem_cons,List.not_mem_nil,or_false] at hn
  rcases hn with rfl|rfl|rfl|rfl<;>rfl
 obtain ⟨s,c2,e2,hs4,h2⟩:=LzL h1
 obtain ⟨a,c3,e3,ha,h3⟩:=OzF h
 obtain ⟨x,c4,e4,h4⟩:=MzC h3
 obtain ⟨v,c5,e5,_,_,h5⟩:=czE 40 h4
 obtain ⟨l,c6,e6,hs,h6⟩:=Oz4 h5
 have ed:dzG (code,())=some ((l,(a,(Rzo v,(x,())))),()):=by
  rw[rzY]
  simp only[e,e3,e4,e5,Rzv,e6,azd,mze]
 rw[yzF]
 simp only[e,e1,e2,ed,azd,mze]
 exact ⟨_,_,_,_,_,_,rfl,hs,ha,Rzs (by decide) _,by omega,by omega⟩
theorem mzC (a:List ByteArray) (ha:a.length≤1000):dzV (a,(a,()))=some ((true,()),()):=by
 have loop: ∀ (m i:Nat),i+m=a.length→izC (a,(a,((i:Int),())))=some ((true,()),()):=by
  intro m
  induction m with
  |zero=>intro i hi;rw[rzX,show (i:Int)=(a.length:Int) by omega,bzb,azc]
  |succ m ih=>
   intro i hi
   have h1:i<a.length:=by omega
   rw[rzX,bzp h1,aza,az0 h1,aza,aza,HzP,azc,azq (by omega)]
   exact ih (i+1) (by omega)
 rw[CzN,NzI,azc]
 exact loop a.length 0 (by omega)
theorem acc_of {l:List azb} (h1:l.length≤12) (h2: ∀a∈l,a.1.size=4∧yzy a∧pokV a.2.2.2.1=true) (h3:l.Pairwise fun a b=>Op.bytesLess a.1.toList b.1.toList=true):accV l=true:=by
 unfold accV
 rw[decide_eq_true h1,Bool.true_and]
 have one: ∀i,i<l.length→accA l i=true:=by
  intro i hi
  obtain ⟨k1,k2,k3⟩:=h2 l[i] (List.getElem_mem hi)
  unfold accA
  simp only[Bool.and_eq_true,decide_eq_true_eq,Bool.or_eq_true,bzA hi,azN]
  refine ⟨by omega,?_,k2.1,k2.2,k3⟩
  by_cases h0:i=0
  ·exact .inl h0
  ·right
   have hj:i-1<l.length:=by omega
   rw[show ((i:Int)-1)=((i-1:Nat):Int) by omega,bzA hj]
   exact List.pairwise_iff_getElem.1 h3 (i-1) i hj hi (by omega)
 have all: ∀m i,i+m≤l.length→accF l i m=true:=by
  intro m
  induction m with
  |zero=>intro i _;rfl
  |succ m ih=>intro i hi;show (accA l i&&accF l (i+1) m)=true;rw[one i (by omega),ih (i+1) (by omega)];rfl
 exact all l.length 0 (by omega)
theorem MzY {l:List azb} (h4:l.length≤4) (h:AccR 4 l):accV l=true:=by
 refine acc_of (by omega) (fun a ha=>?_) h.2
 obtain ⟨⟨j,j1,j2,j3⟩,r1,r2,r3,r4⟩:=h.1 a ha
 refine ⟨?_,r1,MzF (by omega) r3 r4⟩
 rw[j3]
 match j,j2 with
 |0,_=>rfl
 |1,_=>rfl
 |2,_=>rfl
 |3,_=>rfl
theorem Lz2 (d:Nat) (s:ByteArray) (hs:s.size≤55):(azt (d+1) (.mk false s [])).size≤s.size+1:=by
 rw[wzg]
 split
 ·omega
 ·rw[show (128:Int)=((128:Nat):Int) from rfl,azu,qzn 128 s.size (by omega) hs,azu,azK,gzq]
  simp only[List.length_cons,List.length_nil];omega
theorem Kzl (a:azb) (h:yzy a):1≤(accT a).size∧(accT a).size≤60:=by
 have h3:=ez4 a.2.2.2.1
 have h1:=Ozt a.2.1.toNat (by have:=h.1;omega)
 have h2:=Ozt a.2.2.1.toNat (by have:=h.2;omega)
 have l1:=Lz2 3 (numV a.2.1.toNat) (by omega)
 have l2:=Lz2 3 (numV a.2.2.1.toNat) (by omega)
 have l3:=Lz2 3 (azS a.2.2.2.1) (by omega)
 have e:(azt 5 (accI a)).size=(lenV ((192:Nat):Int) (fzI 4 [.mk false (numV a.2.1.toNat) [], .mk false (numV a.2.2.1.toNat) [], .mk false (azS a.2.2.2.1) []])).size+fzI 4 [.mk false (numV a.2.1.toNat) [], .mk false (numV a.2.2.1.toNat) [], .mk false (azS a.2.2.2.1) []]:=xzR 4 _
 have e2:fzI 4 [.mk false (numV a.2.1.toNat) [], .mk false (numV a.2.2.1.toNat) [], .mk false (azS a.2.2.2.1) []]=(azt (3+1) (.mk false (numV a.2.1.toNat) [])).size+((azt (3+1) (.mk false (numV a.2.2.1.toNat) [])).size+(azt (3+1) (.mk false (azS a.2.2.2.1) [])).size):=by simp [fzI]
 have et:=congrArg Prod.fst (wzx a)
 unfold bzn at et
 rw[if_pos] at et
 ·have et':azt 5 (accI a)=accT a:=et
  rw[←et']
  have hp:=ozU 4 (accI a)
  rw[e2] at e
  rw[qzn 192 _ (by omega) (by omega),azu,azK,gzq] at e
  simp only[List.length_cons,List.length_nil] at e
  exact ⟨hp,by show (azt 5 (accI a)).size≤60;omega⟩
 ·have:=wzx a
  unfold bzn at this
  split at this
  ·assumption
  ·have:=congrArg Prod.snd this
   cases this
theorem Jz1 {l:List azb} (h:accV l=true):pokV (azR l)=true:=by
 obtain ⟨h1,h2⟩:=uzp h
 unfold azR
 rw[if_pos h]
 refine MzF (by rw[List.length_map];exact h1) (fun p hp=>?_) ?_
 ·obtain ⟨a,ha,rfl⟩:=List.mem_map.1 hp
  have hz:=Kzl a (h2 a ha)
  refine ⟨?_,hz.1,hz.2⟩
  obtain ⟨j,hj,rfl⟩:=List.getElem_of_mem ha
  unfold accV at h
  rw[Bool.and_eq_true] at h
  have h3:=uzu l l.length 0 h.2 j (by omega) (by omega)
  unfold accA at h3
  simp only[Bool.and_eq_true,decide_eq_true_eq,bzA hj,azN] at h3
  show (l[j].1).size=4
  omega
 ·exact List.pairwise_map.2 (Dz6 h)
theorem LzV (l:List azb) (k:ByteArray):(∃a∈l,a.1=k∧fzT l k=(a.2.2.2.1,true)∧gotV (l.map fun a=>(a.1,(accT a,()))) k=(accT a,true))∨(fzT l k=([],false)∧gotV (l.map fun a=>(a.1,(accT a,()))) k=(bs [],false)):=by
 induction l with
 |nil=>exact .inr ⟨rfl,rfl⟩
 |cons a l ih=>
  rw[mzb,List.map_cons,GzY]
  by_cases h:a.1=k
  ·left
   rw[if_pos h]
   exact ⟨a,by simp,h,rfl,by rw[if_pos h]⟩
  ·rw[if_neg h]
   rcases ih with ⟨b,hb,h1,h2,h3⟩| ⟨h1,h2⟩
   ·left;exact ⟨b,by simp [hb],h1,h2,by rw[if_neg h];exact h3⟩
   ·right;exact ⟨h1,by rw[if_neg h];exact h2⟩
theorem Lza (a b c d:ByteArray):vzN [a,b,c,d]=Lzs a (azo b) (azo (scat (azo c) (azo d))):=rfl
theorem wze (l:List azb) (hs:hzX l) (a b:azl) (ha:Fine azr a) (hb:Fine azr b) (h:czD):czK (l,(a,(b,(h,()))))=some (([azS (azR l),bz6 a,bz6 b,cz4 h],()),()):=by
 rw[qzt,(Hzw l hs).1,azd]
 simp only[]
 rw[Czt,azd,ezW a ha,azd,ezW b hb,azd,xzN,azd]
theorem Mzj (l:List azb) (hs:hzX l) (a b:azl) (ha:Fine azr a) (hb:Fine azr b) (h:czD) (k s:ByteArray):jzp (l,(a,(b,(h,(k,(s,()))))))=some (((k,(s,(azS (azR l),(izp (bz6 a) (bz6 b) (cz4 h),(az1 (azR l) k,(gze l k s,())))))),()),()):=by
 have z: ∀y∈[azS (azR l),bz6 a,bz6 b,cz4 h],y.size≤268435456:=fun y hy=>by
  have h1:=ez4 (azR l)
  have h2:=hzE a
  have h3:=hzE b
  have h4:=mzR h
  simp only[List.mem_cons,List.not_mem_nil,or_false] at hy
  rcases hy with rfl|rfl|rfl|rfl<;>omega
 rw[zza,(Hzw l hs).1,azd]
 simp only[]
 rw[Czt,azd,wze l hs a b ha hb h,azd]
 simp only[]
 rw[CzI _ _ _ _ z,azd,azd]
 simp only[]
 rw[rzD,azd,zze l hs.1,azd]
 simp only[]
 unfold gze
 cases he:(fzT l k).2 with
 |true=>rw[aza,rzD,azd,if_pos rfl]
 |false=>rw[azc,if_neg (by decide)]
theorem Cz2 (l:List azb) (hs:hzX l) (hacc:accV l=true) (x y:azl) (h:czD) (k s:ByteArray) (hk:k.size=4) (hs4:s.size=4):
 czy (vzN [azS (azR l),bz6 x,bz6 y,cz4 h],((k,(s,(azS (azR l),(izp (bz6 x) (bz6 y) (cz4 h),(az1 (azR l) k,(gze l k s,())))))),()))=some (((gotV (fzT l k).1 s).1,((gotV (fzT l k).1 s).2,(0,()))),()):=by
 have hp:=Jz1 hacc
 have h32:(azS (azR l)).size=32:=by unfold azS;rw[if_pos hp];exact azD _
 have hv:verV (azS (azR l)) k (az1 (azR l) k)=((gotV (azR l) k).1,((gotV (azR l) k).2,(0,()))):=by
  unfold azS az1
  rw[if_pos hp,if_pos ⟨hk,hp⟩]
  exact rz6 (azR l) k (izY hp) (lzZ hp) hk
 have hst:azR l=l.map fun a=>(a.1,(accT a,())):=by unfold azR;rw[if_pos hacc]
 rw[kzN]
 simp only[]
 rw[czG,azd,decide_eq_true h32]
 simp only[]
 unfold izp
 rw[show bnot true=false from rfl,azc,yzG,show ine 2 2=false from rfl,azc,LzM _ _ _ (by omega) (azD _) (azD _),azd,Lza,HzP,azc]
 rw[xzs,azd,hv]
 simp only[]
 rw[show ine 0 0=false from rfl,azc]
 rcases LzV l k with ⟨a,ha,h1,h2,h3⟩| ⟨h2,h3⟩
 ·have hpa:=Mzt hacc a ha
  have hr32:(azS a.2.2.2.1).size=32:=by unfold azS;rw[if_pos hpa];exact azD _
  have hv2:verV (azS a.2.2.2.1) s (az1 a.2.2.2.1 s)=((gotV a.2.2.2.1 s).1,((gotV a.2.2.2.1 s).2,(0,()))):=by
   unfold azS az1
   rw[if_pos hpa,if_pos ⟨hs4,hpa⟩]
   exact rz6 a.2.2.2.1 s (izY hpa) (lzZ hpa) hs4
  rw[hst,h3]
  simp only[]
  rw[show bnot true=false from rfl,azc,(uzj a ((uzp hacc).2 a ha) hr32).1,azd]
  simp only[]
  unfold gze
  rw[h2,if_pos rfl,show bnot true=false from rfl,azc,xzs,azd,hv2]
  simp only[]
  rw[show ine 0 0=false from rfl,azc]
 ·rw[hst,h3]
  simp only[]
  unfold gze
  rw[h2,if_neg (by decide),show bnot false=true from rfl,aza,show igt (len ([]:List ByteArray)) 0=false from rfl,azc]
  rfl
noncomputable def Dz3 (n s:ByteArray):List azb→ByteArray×Bool→ByteArray×Bool
 | [],st=>st
 |a::l,st=>Dz3 n s l (if a.1=n then gotV a.2.2.2.1 s else st)
theorem Ezw (n s:ByteArray): ∀ (l:List azb) (st:ByteArray×Bool),(∀a∈l,a.1≠n)→Dz3 n s l st=st
 | [],st,_=>rfl
 |a::l,st,h=>by
  unfold Dz3
  rw[if_neg (h a (by simp)),Ezw n s l st fun b hb=>h b (by simp [hb])]
theorem Dz2 (n s:ByteArray): ∀ (l:List azb),(l.Pairwise fun a b=>a.1≠b.1)→Dz3 n s l (bs [],false)=gotV (fzT l n).1 s
 | [],_=>rfl
 |a::l,h=>by
  rw[List.pairwise_cons] at h
  unfold Dz3
  rw[mzb]
  by_cases ha:a.1=n
  ·rw[if_pos ha,if_pos ha,Ezw n s l _ fun b hb e=>h.1 b hb (ha.trans e.symm)]
  ·rw[if_neg ha,if_neg ha,Dz2 n s l h.2]
theorem Lzy (code:List Int) (l:List azb) (hl:l.length≤1000) (hp: ∀a∈l,a.2.2.2.1.length≤1000) (n s v:ByteArray) (b:Bool) (no:Int) (r:tAsk): ∀ (m i:Nat) (st:ByteArray×Bool),i+m=l.length→
 gzM (code,(l,(n,(s,(v,(b,(no,(st.1,(st.2,((i:Int),(r,())))))))))))=gzM (code,(l,(n,(s,(v,(b,(no,((Dz3 n s (l.drop i) st).1,((Dz3 n s (l.drop i) st).2,((l.length:Int),(r,()))))))))))):=by
 intro m
 induction m with
 |zero=>
  intro i st hi
  rw[List.drop_eq_nil_of_le (by omega),show (i:Int)=(l.length:Int) by omega]
  rfl
 |succ m ih=>
  intro i st hi
  have h1:i<l.length:=by omega
  rw[xzB,bzp h1,aza,az0 h1,aza,bzA h1,nzV,List.drop_eq_getElem_cons h1]
  unfold Dz3
  by_cases hn:l[i].1=n
  ·rw[decide_eq_true hn,aza,aza,got_l _ (hp _ (List.getElem_mem h1)),azd,if_pos hn,azq (by omega)]
   exact ih (i+1) (gotV l[i].2.2.2.1 s) (by omega)
  ·rw[decide_eq_false hn,azc,if_neg hn,azq (by omega)]
   exact ih (i+1) st (by omega)
theorem RzC (code:List Int):xzT (code,())=some ((true,()),()):=by
 rw[Lz3,big_l,azd]
 simp only[]
 by_cases hb:1048576<code.length
 ·rw[decide_eq_true hb,aza]
 ·obtain ⟨c,ec,hc⟩:=Iz5 code (by omega)
  obtain ⟨n,c1,e1,hn,h1⟩:=Ezq [bs [97,97,97,97],bs [97,97,97,98],bs [98,111,98,98],bs [110,111,110,101]] (by decide) hc
  have hn4:n.size=4:=by
   simp only[List.mem_cons,List.not_mem_nil,or_false] at hn
   rcases hn with rfl|rfl|rfl|rfl<;>rfl
  obtain ⟨l,c2,e2,hl4,hR,_⟩:=ozL h1
  have hl8: ∀a∈l,a.2.2.2.1.length≤8:=fun a ha=>(hR.1 a ha).2.2.1
  have hacc:=MzY hl4 hR
  have hs:hzX l:=⟨by omega,fun a ha=>by have:=hl8 a ha;omega⟩
  have ed:gzk (code,())=some ((l,(n,())),()):=by
   rw[xz6]
   simp only[ec,e1,e2,azd]
  obtain ⟨l2,s,ep,_,_,_,hs4⟩:=FzS code (by omega)
  obtain ⟨h,eh⟩:=IzH code (by omega)
  obtain ⟨ml,ma,mb,mx,mn,ms,em,m1,m2,m3,m4,m5⟩:=Izq code (by omega)
  have hz:Fine azr azG:=bzZ
  have z4: ∀y∈[azS (azR l),bz6 azG,bz6 azG,cz4 h],y.size≤268435456:=fun y hy=>by
   have h1:=ez4 (azR l)
   have h2:=hzE azG
   have h4:=mzR h
   simp only[List.mem_cons,List.not_mem_nil,or_false] at hy
   rcases hy with rfl|rfl|rfl|rfl<;>omega
  rw[decide_eq_false hb,azc,ed,azd]
  simp only[]
  rw[ep,azd,eh,azd]
  simp only[]
  rw[wze l hs azG azG hz hz h,azd]
  simp only[]
  rw[wzH _ z4 (by simp),azd,Mzj l hs azG azG hz hz h n s,azd]
  simp only[]
  rw[Cz2 l hs hacc azG azG h n s hn4 hs4,azd]
  simp only[]
  have w:=Lzy code l (by omega) (fun a ha=>by have:=hl8 a ha;omega) n s (gotV (fzT l n).1 s).1 (gotV (fzT l n).1 s).2 0 (n,(s,(azS (azR l),(izp (bz6 azG) (bz6 azG) (cz4 h),(az1 (azR l) n,(gze l n s,())))))) l.length 0 (bs [],false) (by omega)
  rw[show ((0:Nat):Int)=0 from rfl,List.drop_zero,Dz2 n s l (OzY hacc)] at w
  simp only[] at w
  rw[w,xzB,bzb,azc,em,azd]
  simp only[]
  obtain ⟨r,rf,r1,r2⟩:=GzM ml m1 ma mb m2 m3 mx mn ms m4 m5
  obtain ⟨lv,v0,v1,v2,v3⟩:=rzy ml m1 ma mb m2 m3 mx
  have rform:=Mzj ml m1 ma mb m2 m3 mx mn ms
  rw[r1] at rform
  have rl:r.2.2.2.1.length≤1000∧r.2.2.2.2.1.length≤1000∧r.2.2.2.2.2.1.length≤1000:=by
   have e:=congrArg (fun o=>o.map fun p:(tAsk×Unit)×Unit=>p.1.1) rform
   simp only[Option.map_some,Option.some.injEq] at e
   rw[e]
   have p1:=mzS (azR ml) mn
   have p2:(gze ml mn ms).length≤10:=by
    unfold gze
    split
    ·exact mzS _ _
    ·simp
   exact ⟨by show (izp (bz6 ma) (bz6 mb) (cz4 mx)).length≤1000;simp [izp],by show (az1 (azR ml) mn).length≤1000;omega,by show (gze ml mn ms).length≤1000;omega⟩
  have sa:pzO (r,(r,()))=some ((true,()),()):=by
   rw[IzU,nzV,decide_eq_true rfl,aza,nzV,decide_eq_true rfl,aza,nzV,decide_eq_true rfl,aza,mzC _ rl.1,azd]
   simp only[]
   rw[aza,mzC _ rl.2.1,azd]
   simp only[]
   rw[aza,mzC _ rl.2.2,azd]
  rw[show ieq 0 0=true from rfl,aza,nzV,decide_eq_true rfl,aza,Pzp,BEq.rfl,aza,r1,azd]
  simp only[]
  rw[r2,azd]
  simp only[]
  rw[sa,azd]
  simp only[]
  rw[aza,v2,azd,v3,azd]
  simp only[]
  rw[mzC lv (by omega),azd]
  simp only[]
  rw[aza]
  rfl
end Go.Proofs.YtdfbhjpmdjmdaaaGreatDoor
