/- What is answered of an account of a chain is what it stores. Of no condition. -/
import Derived.Test.YtdfbhjpmdjmdaaaGreatDoorTS
set_option linter.unusedVariables false
set_option linter.unusedSimpArgs false
set_option maxRecDepth 100000
namespace Go.Proofs.YtdfbhjpmdjmdaaaGreatDoor
open Go.TV
noncomputable def accI (a:azb):ItemT:= .mk true (bs []) [.mk false (numV a.2.1.toNat) [], .mk false (numV a.2.2.1.toNat) [], .mk false (azS a.2.2.2.1) []]
noncomputable def accT (a:azb):ByteArray:=(bzn (accI a)).1
def yzy (a:azb):Prop:=(0≤a.2.1∧a.2.1≤1000)∧(0≤a.2.2.1∧a.2.2.1≤1000000000)
theorem QzC (a:azb) (h:yzy a) (hp:a.2.2.2.1.length≤1000000000):ezx (a,())=some ((accT a,()),())∧ezJ (a,())=some ((accT a,()),()):=by
 obtain ⟨n,hn⟩:=Int.eq_ofNat_of_zero_le h.1.1
 obtain ⟨m,hm⟩:=Int.eq_ofNat_of_zero_le h.2.1
 have h1:=h.1.2
 have h2:=h.2.2
 unfold accT accI
 rw[qzu,qzF,hn,hm,tzS n (by omega),azd,tzS m (by omega),azd,Czt,azd,Mz8 _ hp,azd]
 simp only[Int.toNat_natCast]
 rw[ez5,azd,Azm,uza n (by omega),azd]
 simp only[]
 rw[czb,azd,uza m (by omega),azd]
 simp only[]
 rw[czb,azd,czb,azd]
 simp only[]
 rw[ez6,azd,azd]
 exact ⟨by trivial,by trivial⟩
theorem OzE (a:azb):fitV 4 (accI a)=true:=qzS (by simp) fun y hy=>by
 have h3:=ez4 a.2.2.2.1
 have h1:=hzU a.2.1.toNat
 have h2:=hzU a.2.2.1.toNat
 simp only[List.mem_cons,List.not_mem_nil,or_false] at hy
 rcases hy with rfl|rfl|rfl<;>exact nzn (by omega)
theorem wzx (a:azb):bzn (accI a)=(accT a,true):=by
 have h3:=ez4 a.2.2.2.1
 have h1:=hzU a.2.1.toNat
 have h2:=hzU a.2.2.1.toNat
 have e:(azt 5 (accI a)).size=(lenV ((192:Nat):Int) (fzI 4 [.mk false (numV a.2.1.toNat) [], .mk false (numV a.2.2.1.toNat) [], .mk false (azS a.2.2.2.1) []])).size+fzI 4 [.mk false (numV a.2.1.toNat) [], .mk false (numV a.2.2.1.toNat) [], .mk false (azS a.2.2.2.1) []]:=xzR 4 _
 have e2:fzI 4 [.mk false (numV a.2.1.toNat) [], .mk false (numV a.2.2.1.toNat) [], .mk false (azS a.2.2.2.1) []]=(azt 4 (.mk false (numV a.2.1.toNat) [])).size+((azt 4 (.mk false (numV a.2.2.1.toNat) [])).size+(azt 4 (.mk false (azS a.2.2.2.1) [])).size):=by simp [fzI]
 have l1:(azt 4 (.mk false (numV a.2.1.toNat) [])).size≤(numV a.2.1.toNat).size+9:=jzk 3 _ []
 have l2:(azt 4 (.mk false (numV a.2.2.1.toNat) [])).size≤(numV a.2.2.1.toNat).size+9:=jzk 3 _ []
 have l3:(azt 4 (.mk false (azS a.2.2.2.1) [])).size≤(azS a.2.2.2.1).size+9:=jzk 3 _ []
 have hz:=dzQ ((192:Nat):Int) (fzI 4 [.mk false (numV a.2.1.toNat) [], .mk false (numV a.2.2.1.toNat) [], .mk false (azS a.2.2.2.1) []])
 unfold accT bzn
 rw[if_pos ⟨OzE a,by omega⟩]
theorem Ozt (n:Nat) (h:n≤1000000000):(numV n).size≤4:=by
 have go: ∀ (f n:Nat),n<256^f→ ∀g,f≤g→(leF g n).length≤f:=by
  intro f
  induction f with
  |zero=>
   intro n hn g _
   obtain rfl:n=0:=by simpa using hn
   cases g with
   |zero=>simp [leF]
   |succ g=>simp [leF]
  |succ f ih=>
   intro n hn g hg
   obtain ⟨g',rfl⟩: ∃g',g=g'+1:=⟨g-1,by omega⟩
   by_cases h0:n=0
   ·subst h0;simp [leF]
   ·have:=ih (n/256) (by rw[Nat.pow_succ] at hn;omega) g' (by omega)
    simp only[leF]
    split
    ·simp
    ·rw[List.length_cons];omega
 have:=go 4 n (by omega) 8 (by omega)
 rw[numV,azK,List.length_reverse]
 exact this
theorem uzj (a:azb) (h:yzy a) (h32:(azS a.2.2.2.1).size=32):gz8 (accT a,())=some ((a.2.1,(a.2.2.1,(azS a.2.2.2.1,(true,())))),())∧gz9 (accT a,())=some ((a.2.1,(a.2.2.1,(azS a.2.2.2.1,(true,())))),()):=by
 have hn1:=h.1.1
 have hn2:=h.1.2
 have hm1:=h.2.1
 have hm2:=h.2.2
 have hr:=rzg (wzx a)
 have hn:=HzK a.2.1.toNat (by omega) (Ozt _ (by omega))
 have hm:=HzK a.2.2.1.toNat (by omega) (Ozt _ (by omega))
 have cn:((a.2.1.toNat:Nat):Int)=a.2.1:=Int.toNat_of_nonneg hn1
 have cm:((a.2.2.1.toNat:Nat):Int)=a.2.2.1:=Int.toNat_of_nonneg hm1
 rw[cn] at hn
 rw[cm] at hm
 unfold accI at hr
 generalize numV a.2.1.toNat=A at hr hn
 generalize numV a.2.2.1.toNat=B at hr hm
 generalize azS a.2.2.2.1=C at hr h32⊢
 have L3: ∀ (x y z:ItemT),len [x,y,z]=3:=fun _ _ _=>rfl
 have KL: ∀ (l:Bool) (s:ByteArray) (k:List ItemT),(ItemT.mk l s k).l=l:=fun _ _ _=>rfl
 have KS: ∀ (l:Bool) (s:ByteArray) (k:List ItemT),(ItemT.mk l s k).s=s:=fun _ _ _=>rfl
 have KK: ∀ (l:Bool) (s:ByteArray) (k:List ItemT),(ItemT.mk l s k).k=k:=fun _ _ _=>rfl
 have R0: ∀ (x y z:ItemT),rd (ItemT.mk false (bs []) []) [x,y,z] 0=x:=fun _ _ _=>rfl
 have R1: ∀ (x y z:ItemT),rd (ItemT.mk false (bs []) []) [x,y,z] 1=y:=fun _ _ _=>rfl
 have R2: ∀ (x y z:ItemT),rd (ItemT.mk false (bs []) []) [x,y,z] 2=z:=fun _ _ _=>rfl
 have i0:inb 0 3=true:=rfl
 have i1:inb 1 3=true:=rfl
 have i2:inb 2 3=true:=rfl
 refine ⟨?_,?_⟩
 ·rw[yzS,Hzc,azd,hr]
  simp only[KL,KK,L3]
  rw[show bnot true=false from rfl,azc,azc,show ine 3 3=false from rfl,azc]
  rw[gzd,show ilt 0 3=true from rfl,aza]
  simp only[KK,L3,R0,KL]
  rw[i0,aza,azc,show iadd .i64 0 1=1 from rfl,gzd,show ilt 1 3=true from rfl,aza]
  simp only[KK,L3,R1,KL]
  rw[i1,aza,azc,show iadd .i64 1 1=2 from rfl,gzd,show ilt 2 3=true from rfl,aza]
  simp only[KK,L3,R2,KL]
  rw[i2,aza,azc,show iadd .i64 2 1=3 from rfl,gzd,show ilt 3 3=false from rfl,azc]
  simp only[KK,L3,R0,R1,R2,KS]
  rw[i0,aza,Ozl,azd,i1,aza,Ozl,azd,i2,aza,hn,hm]
  simp only[]
  rw[show bnot true=false from rfl,azc,azc,czG,azd,decide_eq_true h32]
  simp only[]
  rw[show bnot true=false from rfl,azc]
 ·rw[yzu,Gz3,azd,hr]
  simp only[KL,KK,L3,R0,R1,R2]
  rw[show bnot true=false from rfl,azc,azc,show ine 3 3=false from rfl,azc,i0,aza,azc,i1,aza,azc,i2,aza,xzt,azc]
  simp only[KK,L3,R0,R1,R2,KS]
  rw[i0,aza,Nz6,azd,i1,aza,Nz6,azd,i2,aza,hn,hm]
  simp only[]
  rw[show bnot true=false from rfl,azc,azc,tzD,azd]
  simp only[]
  rw[decide_eq_true (⟨hn1,hn2⟩:0≤a.2.1∧a.2.1≤1000),show bnot true=false from rfl,azc,czY,azN,decide_eq_true (by omega:(C.size:Int)=32),Bool.not_true,azc]
noncomputable def azR (l:List azb):List azh:=if accV l=true then l.map fun a=>(a.1,(accT a,())) else []
theorem Hzw (l:List azb) (hs:hzX l):dzL (l,())=some ((azR l,()),())∧fzA (l,())=some ((azR l,()),()):=by
 rw[vzs,vzk,LzY,Mzf l hs.1 hs.2,azd,azd]
 unfold azR
 simp only[]
 cases h:accV l with
 |false=>rw[if_neg (by decide)];exact ⟨rfl,rfl⟩
 |true=>
  simp only[bnot,Bool.not_true,azc]
  obtain ⟨hl,ha⟩:=uzp h
  have loop: ∀ (m i:Nat) (acc:List azh),i+m=l.length→acc.length≤i→gzm (acc,(l,(len l,((i:Int),()))))=some ((acc++(l.drop i).map (fun a=>(a.1,(accT a,()))),()),())∧fzP (l,(acc,((i:Int),())))=some ((acc++(l.drop i).map (fun a=>(a.1,(accT a,()))),()),()):=by
   intro m
   induction m with
   |zero=>
    intro i acc hi hacc
    rw[List.drop_eq_nil_of_le (by omega),List.map_nil,List.append_nil]
    refine ⟨?_,?_⟩
    ·rw[izQ,show (i:Int)=(l.length:Int) by omega,bzb,azc]
    ·rw[izJ,show (i:Int)=(l.length:Int) by omega,bzb,azc]
   |succ m ih=>
    intro i acc hi hacc
    have h1:i<l.length:=by omega
    have hm:=List.getElem_mem h1
    obtain ⟨t1,t2⟩:=QzC l[i] (ha _ hm) (hs.2 _ hm)
    obtain ⟨r1,r2⟩:=ih (i+1) (acc++[(l[i].1,(accT l[i],()))]) (by omega) (by simp;omega)
    rw[List.append_assoc] at r1 r2
    rw[List.drop_eq_getElem_cons h1,List.map_cons]
    refine ⟨?_,?_⟩
    ·rw[izQ,bzp h1,aza,az0 h1,aza,bzA h1,t1,azd,azv (by decide) (by simp;omega),aza,azq (by omega)]
     exact r1
    ·rw[izJ,bzp h1,aza,az0 h1,aza,aza,bzA h1,t2,azd,azv (by decide) (by simp;omega),aza,azq (by omega)]
     exact r2
  obtain ⟨r1,r2⟩:=loop l.length 0 [] (by omega) (by simp)
  rw[List.drop_zero,List.nil_append] at r1 r2
  rw[if_pos trivial]
  exact ⟨r1,r2⟩
def Lzs (leaf a b:ByteArray):ByteArray:=azo (scat (azo (scat (azo leaf) a)) b)
theorem yzG {α:Type} (a b:α):len [a,b]=2:=rfl
theorem LzM (leaf a b:ByteArray) (hl:leaf.size≤1048576) (ha:a.size=32) (hb:b.size=32):izy (leaf,(0,([a,b],())))=some ((Lzs leaf a b,()),()):=by
 have h1:=azD leaf
 have h2:=azD (scat (azo leaf) a)
 rw[Czp,yzG,show igt 2 5=false from rfl,azc,show ilt 0 0=false from rfl,azc,show nn (azx .u64 2)=true from rfl,aza,show ige 0 (ishl .i64 1 (azx .u64 2))=false by decide+kernel,azc,hz9 _ (by omega),azd]
 simp only[]
 rw[kz6,yzG,show ilt 0 2=true from rfl,aza,show inb 0 2=true from rfl,aza,show nn (azx .u64 0)=true from rfl,aza,show ieq (iand .i64 (ishr .i64 0 (azx .u64 0)) 1) 1=false by decide+kernel,azc,show rd (bs []) [a,b] 0=a from rfl,mzO _ _ (by omega) (by omega),azd,show iadd .i64 0 1=1 from rfl]
 simp only[]
 rw[kz6,yzG,show ilt 1 2=true from rfl,aza,show inb 1 2=true from rfl,aza,show nn (azx .u64 1)=true from rfl,aza,show ieq (iand .i64 (ishr .i64 0 (azx .u64 1)) 1) 1=false by decide+kernel,azc,show rd (bs []) [a,b] 1=b from rfl,mzO _ _ (by omega) (by omega),azd,show iadd .i64 1 1=2 from rfl]
 rw[kz6,show ilt 2 2=false from rfl,azc]
 rfl
theorem Pzy (leaf a b:ByteArray) (hl:leaf.size≤1048576) (ha:a.size=32) (hb:b.size=32):izP (leaf,(0,([a,b],())))=some ((Lzs leaf a b,()),()):=by
 have h1:=azD leaf
 have h2:=azD (scat (azo leaf) a)
 rw[Bzo,yzG,show igt 2 5=false from rfl,azc,show nn (azx .u64 2)=true from rfl,aza,tzD,azd,show bnot (decide ((0:Int)≤0∧0≤isub .i64 (ishl .i64 1 (azx .u64 2)) 1))=false by decide+kernel,azc,ezE _ (by omega),azd]
 simp only[]
 rw[kz8,yzG,show ilt 0 2=true from rfl,aza,show nn (azx .u64 0)=true from rfl,aza,show nz 2=true from rfl,aza,show ieq (irem (ishr .i64 0 (azx .u64 0)) 2) 1=false by decide+kernel,azc,show inb 0 2=true from rfl,aza,show rd (bs []) [a,b] 0=a from rfl,nzl _ _ (by omega) (by omega),azd,show iadd .i64 0 1=1 from rfl]
 simp only[]
 rw[kz8,yzG,show ilt 1 2=true from rfl,aza,show nn (azx .u64 1)=true from rfl,aza,show nz 2=true from rfl,aza,show ieq (irem (ishr .i64 0 (azx .u64 1)) 2) 1=false by decide+kernel,azc,show inb 1 2=true from rfl,aza,show rd (bs []) [a,b] 1=b from rfl,nzl _ _ (by omega) (by omega),azd,show iadd .i64 1 1=2 from rfl]
 rw[kz8,yzG,show ilt 2 2=false from rfl,azc]
 rfl
theorem got_in {l:List azh} {k v:ByteArray} (h:gotV l k=(v,true)): ∃p∈l,p.1=k∧p.2.1=v:=by
 unfold gotV at h
 split at h
 ·rename_i p hp
  refine ⟨p,List.mem_of_find?_eq_some hp,?_,congrArg Prod.fst h⟩
  have h2:=List.find?_some hp
  simpa using h2
 ·cases h
theorem Qz3 (root:ByteArray) (l:List azb) (hs:hzX l) (k s A B:ByteArray) (hA:A.size=32) (hB:B.size=32) (sl:List ByteArray):
 ∃ (v:ByteArray) (b:Bool) (c:Int),czy (root,((k,(s,(azS (azR l),([A,B],(az1 (azR l) k,(sl,())))))),()))=some ((v,(b,(c,()))),())∧izg (root,((k,(s,(azS (azR l),([A,B],(az1 (azR l) k,(sl,())))))),()))=some ((v,(b,(c,()))),()):=by
 have hro:=ez4 (azR l)
 rw[kzN,uzL]
 simp only[]
 rw[czG,azd,czY (x:=ssz (azS (azR l))) (y:=32),azN]
 simp only[]
 by_cases h32:(azS (azR l)).size=32
 ·rw[decide_eq_true h32,show bnot true=false from rfl,azc,decide_eq_true (by omega:((azS (azR l)).size:Int)=32),Bool.not_true,azc,yzG,show ine 2 2=false from rfl,azc,azc,LzM _ _ _ (by omega) hA hB,azd,Pzy _ _ _ (by omega) hA hB,azd]
  simp only[]
  cases sne (Lzs (azS (azR l)) A B) root with
  |true=>exact ⟨bs [],false,2,rfl,rfl⟩
  |false=>
   rw[azc,azc,xzs,azd,Dzx,azd]
   simp only[]
   cases hc:ine (verV (azS (azR l)) k (az1 (azR l) k)).2.2.1 0 with
   |true=>exact ⟨bs [],false,_,rfl,rfl⟩
   |false=>
    rw[azc,azc]
    have hc0:(verV (azS (azR l)) k (az1 (azR l) k)).2.2.1=0:=by
     rw[czY] at hc
     simpa using hc
    cases hb:(verV (azS (azR l)) k (az1 (azR l) k)).2.1 with
    |false=>
     rw[show bnot false=true from rfl,aza,aza]
     cases igt (len sl) 0 with
     |true=>exact ⟨bs [],false,4,rfl,rfl⟩
     |false=>exact ⟨bs [],false,0,rfl,rfl⟩
    |true=>
     rw[show bnot true=false from rfl,azc,azc]
     have hok:k.size=4∧pokV (azR l)=true:=by
      refine Classical.byContradiction fun hn=>?_
      have e:az1 (azR l) k=[]:=by unfold az1;rw[if_neg hn]
      rw[e] at hc0
      unfold verV at hc0
      rw[if_pos (fun hh=>by have:=hh.2.2.1;simp at this)] at hc0
      cases hc0
     have hg:=rz6 (azR l) k (izY hok.2) (lzZ hok.2) hok.1
     rw[show azo (bzn (azF 9 0 (azR l))).1=azS (azR l) by unfold azS;rw[if_pos hok.2],show izu (azR l) k=az1 (azR l) k by unfold az1;rw[if_pos hok]] at hg
     rw[hg] at hb⊢
     simp only[] at hb⊢
     obtain ⟨p,hp,_,hp2⟩:=got_in (show gotV (azR l) k=((gotV (azR l) k).1,true) by rw[←hb])
     obtain ⟨a,ha,hok2,hv⟩: ∃a:azb,a∈l∧(yzy a∧(pokV a.2.2.2.1=true))∧(gotV (azR l) k).1=accT a:=by
      unfold azR at hp
      split at hp
      ·rename_i hacc
       obtain ⟨a,ha,rfl⟩:=List.mem_map.1 hp
       refine ⟨a,ha,⟨(uzp hacc).2 a ha,?_⟩,hp2.symm⟩
       obtain ⟨j,hj,rfl⟩:=List.getElem_of_mem ha
       unfold accV at hacc
       rw[Bool.and_eq_true] at hacc
       have h1:=uzu l l.length 0 hacc.2 j (by omega) (by omega)
       unfold accA at h1
       simp only[Bool.and_eq_true,bzA hj] at h1
       exact h1.2.2.2.2
      ·cases hp
     have hr32:(azS a.2.2.2.1).size=32:=by
      unfold azS;rw[if_pos hok2.2];exact azD _
     obtain ⟨e1,e2⟩:=uzj a hok2.1 hr32
     rw[hv,e1,azd,e2,azd]
     simp only[]
     rw[show bnot true=false from rfl,azc,azc,xzs,azd,Dzx,azd]
     simp only[]
     cases ine (verV (azS a.2.2.2.1) s sl).2.2.1 0 with
     |true=>exact ⟨bs [],false,_,rfl,rfl⟩
     |false=>exact ⟨_,_,0,rfl,rfl⟩
 ·rw[decide_eq_false h32,show bnot false=true from rfl,aza,decide_eq_false (by omega: ¬((azS (azR l)).size:Int)=32),Bool.not_false,aza]
  exact ⟨bs [],false,1,rfl,rfl⟩
theorem Dz6 {l:List azb} (h:accV l=true):l.Pairwise fun a b=>Op.bytesLess a.1.toList b.1.toList=true:=by
 unfold accV at h
 rw[Bool.and_eq_true] at h
 have hat:=uzu l l.length 0 h.2
 have get: ∀j (hj:j<l.length),j=0∨ ∃hj':j-1<l.length,Op.bytesLess (l[j-1].1).toList (l[j].1).toList=true:=by
  intro j hj
  have h1:=hat j (by omega) (by omega)
  unfold accA at h1
  simp only[Bool.and_eq_true,decide_eq_true_eq,Bool.or_eq_true,bzA hj,azN] at h1
  rcases h1.2.1 with h2|h2
  ·exact .inl h2
  ·by_cases hj0:j=0
   ·exact .inl hj0
   ·right
    have hj1:j-1<l.length:=by omega
    refine ⟨hj1,?_⟩
    rw[show ((j:Int)-1)=((j-1:Nat):Int) by omega,bzA hj1] at h2
    exact h2
 have lt: ∀ (m i:Nat) (hi:i<l.length) (hj:i+m+1<l.length),Op.bytesLess (l[i].1).toList (l[i+m+1].1).toList=true:=by
  intro m
  induction m with
  |zero=>
   intro i hi hj
   rcases get (i+0+1) hj with h1| ⟨h1,h2⟩
   ·omega
   ·simpa using h2
  |succ m ih=>
   intro i hi hj
   have h1:=ih i hi (by omega)
   rcases get (i+(m+1)+1) hj with h2| ⟨h2,h3⟩
   ·omega
   ·refine rz5 _ _ _ h1 ?_
    simp only[show i+(m+1)+1-1=i+m+1 by omega] at h3
    exact h3
 rw[List.pairwise_iff_getElem]
 intro i j hi hj hij
 have:=lt (j-i-1) i hi (by omega)
 simp only[show i+(j-i-1)+1=j by omega] at this
 exact this
theorem OzY {l:List azb} (h:accV l=true):l.Pairwise fun a b=>a.1≠b.1:=(Dz6 h).imp fun h e=>by
 rw[e,HzV] at h
 cases h
theorem Mzt {l:List azb} (h:accV l=true): ∀a∈l,pokV a.2.2.2.1=true:=by
 intro a ha
 obtain ⟨j,hj,rfl⟩:=List.getElem_of_mem ha
 unfold accV at h
 rw[Bool.and_eq_true] at h
 have h1:=uzu l l.length 0 h.2 j (by omega) (by omega)
 unfold accA at h1
 simp only[Bool.and_eq_true,bzA hj] at h1
 exact h1.2.2.2.2
theorem Rzu (l:List azb) (hs:hzX l) (a b:azl) (ha:Fine azr a) (hb:Fine azr b) (h:czD) (k s:ByteArray): ∃A B:ByteArray,A.size=32∧B.size=32∧ ∀r:tAsk,jzp (l,(a,(b,(h,(k,(s,()))))))=some ((r,()),())→r=(k,(s,(azS (azR l),([A,B],(az1 (azR l) k,(gze l k s,())))))):=by
 obtain ⟨lv,v0,v1,v2,v3⟩:=rzy l hs a b ha hb h
 obtain ⟨br,b0,b1,b2,b3⟩:=Fz0 v0 v1
 obtain ⟨A,B,rfl⟩: ∃A B,br=[A,B]:=by
  match br,b0 with
  | [A,B],_=>exact ⟨A,B,rfl⟩
 refine ⟨A,B,b1 A (by simp),b1 B (by simp),fun r hr=>?_⟩
 rw[zza,(Hzw l hs).1,azd] at hr
 simp only[] at hr
 rw[Czt,azd,v2,azd] at hr
 simp only[] at hr
 rw[b2,azd,azd] at hr
 simp only[] at hr
 rw[rzD,azd,zze l hs.1,azd] at hr
 simp only[] at hr
 have out: ∀ {x y:tAsk},(some ((x,()),()):Option ((tAsk×Unit)×Unit))=some ((y,()),())→y=x:=fun h=>by
  have:=congrArg (fun o=>o.map fun p:(tAsk×Unit)×Unit=>p.1.1) h
  simpa using this.symm
 unfold gze
 cases he:(fzT l k).2 with
 |true=>
  rw[he,aza,rzD,azd] at hr
  rw[if_pos rfl]
  exact out hr
 |false=>
  rw[he,azc] at hr
  rw[if_neg (by decide)]
  exact out hr
end Go.Proofs.YtdfbhjpmdjmdaaaGreatDoor
