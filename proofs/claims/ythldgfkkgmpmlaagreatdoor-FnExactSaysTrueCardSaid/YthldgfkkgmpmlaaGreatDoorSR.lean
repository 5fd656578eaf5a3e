/- What is answered of an account of a chain is what it stores. Of no condition. -/
import Derived.Test.YthldgfkkgmpmlaaGreatDoorTS
set_option linter.unusedVariables false
set_option linter.unusedSimpArgs false
set_option maxRecDepth 100000
namespace Go.Proofs.YthldgfkkgmpmlaaGreatDoor
open Go.TV
noncomputable def accI (a:azd):ItemT:= .mk true (bs []) [.mk false (numV a.2.1.toNat) [], .mk false (numV a.2.2.1.toNat) [], .mk false (bzZ a.2.2.2.1) []]
noncomputable def accT (a:azd):ByteArray:=(bzu (accI a)).1
def Wzn (a:azd):Prop:=(0≤a.2.1∧a.2.1≤1000)∧(0≤a.2.2.1∧a.2.2.1≤1000000000)
theorem Wzw (a:azd) (h:Wzn a) (hp:a.2.2.2.1.length≤1000000000):ezO (a,())=some ((accT a,()),())∧ezV (a,())=some ((accT a,()),()):=by
 obtain ⟨n,hn⟩:=Int.eq_ofNat_of_zero_le h.1.1
 obtain ⟨m,hm⟩:=Int.eq_ofNat_of_zero_le h.2.1
 have h1:=h.1.2
 have h2:=h.2.2
 unfold accT accI
 rw[szZ,sz3,hn,hm,wzW n (by omega),azb,wzW m (by omega),azb,Kzq,azb,SzW _ hp,azb]
 simp only[Int.toNat_natCast]
 rw[fzn,azb,DzB,xzF n (by omega),azb]
 simp only[]
 rw[czd,azb,xzF m (by omega),azb]
 simp only[]
 rw[czd,azb,czd,azb]
 simp only[]
 rw[fzs,azb,azb]
 exact ⟨by trivial,by trivial⟩
theorem TzQ (a:azd):fitV 4 (accI a)=true:=tzF (by simp) fun y hy=>by
 have h3:=ozg a.2.2.2.1
 have h1:=izE a.2.1.toNat
 have h2:=izE a.2.2.1.toNat
 simp only[List.mem_cons,List.not_mem_nil,or_false] at hy
 rcases hy with rfl|rfl|rfl<;>exact ozw (by omega)
theorem RzR (a:azd):bzu (accI a)=(accT a,true):=by
 have h3:=ozg a.2.2.2.1
 have h1:=izE a.2.1.toNat
 have h2:=izE a.2.2.1.toNat
 have e:(azs 5 (accI a)).size=(lenV ((192:Nat):Int) (jza 4 [.mk false (numV a.2.1.toNat) [], .mk false (numV a.2.2.1.toNat) [], .mk false (bzZ a.2.2.2.1) []])).size+jza 4 [.mk false (numV a.2.1.toNat) [], .mk false (numV a.2.2.1.toNat) [], .mk false (bzZ a.2.2.2.1) []]:=Gzq 4 _
 have e2:jza 4 [.mk false (numV a.2.1.toNat) [], .mk false (numV a.2.2.1.toNat) [], .mk false (bzZ a.2.2.2.1) []]=(azs 4 (.mk false (numV a.2.1.toNat) [])).size+((azs 4 (.mk false (numV a.2.2.1.toNat) [])).size+(azs 4 (.mk false (bzZ a.2.2.2.1) [])).size):=by simp [jza]
 have l1:(azs 4 (.mk false (numV a.2.1.toNat) [])).size≤(numV a.2.1.toNat).size+9:=jzM 3 _ []
 have l2:(azs 4 (.mk false (numV a.2.2.1.toNat) [])).size≤(numV a.2.2.1.toNat).size+9:=jzM 3 _ []
 have l3:(azs 4 (.mk false (bzZ a.2.2.2.1) [])).size≤(bzZ a.2.2.2.1).size+9:=jzM 3 _ []
 have hz:=dzS ((192:Nat):Int) (jza 4 [.mk false (numV a.2.1.toNat) [], .mk false (numV a.2.2.1.toNat) [], .mk false (bzZ a.2.2.2.1) []])
 unfold accT bzu
 rw[if_pos ⟨TzQ a,by omega⟩]
theorem num_4 (n:Nat) (h:n≤1000000000):(numV n).size≤4:=by
 have go: ∀ (f n:Nat),n<256^f→ ∀g,f≤g→(leF g n).length≤f:=by
  intro f
  induction f with
  |zero=>
   intro n hn g _
   obtain rfl:n=0:=by simpa using hn
   cases g with
   |zero=>simp [leF]
   |succ g=>simp [leF]
  |succ f ih=>
   intro n hn g hg
   obtain ⟨g',rfl⟩: ∃g',g=g'+1:=⟨g-1,by omega⟩
   by_cases h0:n=0
   ·subst h0;simp [leF]
   ·have:=ih (n/256) (by rw[Nat.pow_succ] at hn;omega) g' (by omega)
    simp only[leF]
    split
    ·simp
    ·rw[List.length_cons];omega
 have:=go 4 n (by omega) 8 (by omega)
 rw[numV,azI,List.length_reverse]
 exact this
theorem Pz5 (a:azd) (h:Wzn a) (h32:(bzZ a.2.2.2.1).size=32):izj (accT a,())=some ((a.2.1,(a.2.2.1,(bzZ a.2.2.2.1,(true,())))),())∧ize (accT a,())=some ((a.2.1,(a.2.2.1,(bzZ a.2.2.2.1,(true,())))),()):=by
 have hn1:=h.1.1
 have hn2:=h.1.2
 have hm1:=h.2.1
 have hm2:=h.2.2
 have hr:=Azh (RzR a)
 have hn:=NzG a.2.1.toNat (by omega) (num_4 _ (by omega))
 have hm:=NzG a.2.2.1.toNat (by omega) (num_4 _ (by omega))
 have cn:((a.2.1.toNat:Nat):Int)=a.2.1:=Int.toNat_of_nonneg hn1
 have cm:((a.2.2.1.toNat:Nat):Int)=a.2.2.1:=Int.toNat_of_nonneg hm1
 rw[cn] at hn
 rw[cm] at hm
 unfold accI at hr
 generalize numV a.2.1.toNat=A at hr hn
 generalize numV a.2.2.1.toNat=B at hr hm
 generalize bzZ a.2.2.2.1=C at hr h32⊢
 have L3: ∀ (x y z:ItemT),len [x,y,z]=3:=fun _ _ _=>rfl
 have KL: ∀ (l:Bool) (s:ByteArray) (k:List ItemT),(ItemT.mk l s k).l=l:=fun _ _ _=>rfl
 have KS: ∀ (l:Bool) (s:ByteArray) (k:List ItemT),(ItemT.mk l s k).s=s:=fun _ _ _=>rfl
 have KK: ∀ (l:Bool) (s:ByteArray) (k:List ItemT),(ItemT.mk l s k).k=k:=fun _ _ _=>rfl
 have R0: ∀ (x y z:ItemT),rd (ItemT.mk false (bs []) []) [x,y,z] 0=x:=fun _ _ _=>rfl
 have R1: ∀ (x y z:ItemT),rd (ItemT.mk false (bs []) []) [x,y,z] 1=y:=fun _ _ _=>rfl
 have R2: ∀ (x y z:ItemT),rd (ItemT.mk false (bs []) []) [x,y,z] 2=z:=fun _ _ _=>rfl
 have i0:inb 0 3=true:=rfl
 have i1:inb 1 3=true:=rfl
 have i2:inb 2 3=true:=rfl
 refine ⟨?_,?_⟩
 ·rw[CzU,NzP,azb,hr]
  simp only[KL,KK,L3]
  rw[show bnot true=false from rfl,azc,azc,show ine 3 3=false from rfl,azc]
  rw[gzJ,show ilt 0 3=true from rfl,aza]
  simp only[KK,L3,R0,KL]
  rw[i0,aza,azc,show iadd .i64 0 1=1 from rfl,gzJ,show ilt 1 3=true from rfl,aza]
  simp only[KK,L3,R1,KL]
  rw[i1,aza,azc,show iadd .i64 1 1=2 from rfl,gzJ,show ilt 2 3=true from rfl,aza]
  simp only[KK,L3,R2,KL]
  rw[i2,aza,azc,show iadd .i64 2 1=3 from rfl,gzJ,show ilt 3 3=false from rfl,azc]
  simp only[KK,L3,R0,R1,R2,KS]
  rw[i0,aza,Vzj,azb,i1,aza,Vzj,azb,i2,aza,hn,hm]
  simp only[]
  rw[show bnot true=false from rfl,azc,azc,dzT,azb,decide_eq_true h32]
  simp only[]
  rw[show bnot true=false from rfl,azc]
 ·rw[Dza,Nzi,azb,hr]
  simp only[KL,KK,L3,R0,R1,R2]
  rw[show bnot true=false from rfl,azc,azc,show ine 3 3=false from rfl,azc,i0,aza,azc,i1,aza,azc,i2,aza,Czh,azc]
  simp only[KK,L3,R0,R1,R2,KS]
  rw[i0,aza,Uzs,azb,i1,aza,Uzs,azb,i2,aza,hn,hm]
  simp only[]
  rw[show bnot true=false from rfl,azc,azc,tzP,azb]
  simp only[]
  rw[decide_eq_true (⟨hn1,hn2⟩:0≤a.2.1∧a.2.1≤1000),show bnot true=false from rfl,azc,dzb,azL,decide_eq_true (by omega:(C.size:Int)=32),Bool.not_true,azc]
noncomputable def bz9 (l:List azd):List azl:=if accV l=true then l.map fun a=>(a.1,(accT a,())) else []
theorem UzG (l:List azd) (hs:nzB l):dz6 (l,())=some ((bz9 l,()),())∧fz7 (l,())=some ((bz9 l,()),()):=by
 rw[yzv,yzq,Tzd,TzG l hs.1 hs.2,azb,azb]
 unfold bz9
 simp only[]
 cases h:accV l with
 |false=>rw[if_neg (by decide)];exact ⟨rfl,rfl⟩
 |true=>
  simp only[bnot,Bool.not_true,azc]
  obtain ⟨hl,ha⟩:=Lzo h
  have loop: ∀ (m i:Nat) (acc:List azl),i+m=l.length→acc.length≤i→gzu (acc,(l,(len l,((i:Int),()))))=some ((acc++(l.drop i).map (fun a=>(a.1,(accT a,()))),()),())∧gzW (l,(acc,((i:Int),())))=some ((acc++(l.drop i).map (fun a=>(a.1,(accT a,()))),()),()):=by
   intro m
   induction m with
   |zero=>
    intro i acc hi hacc
    rw[List.drop_eq_nil_of_le (by omega),List.map_nil,List.append_nil]
    refine ⟨?_,?_⟩
    ·rw[jzG,show (i:Int)=(l.length:Int) by omega,az7,azc]
    ·rw[jzD,show (i:Int)=(l.length:Int) by omega,az7,azc]
   |succ m ih=>
    intro i acc hi hacc
    have h1:i<l.length:=by omega
    have hm:=List.getElem_mem h1
    obtain ⟨t1,t2⟩:=Wzw l[i] (ha _ hm) (hs.2 _ hm)
    obtain ⟨r1,r2⟩:=ih (i+1) (acc++[(l[i].1,(accT l[i],()))]) (by omega) (by simp;omega)
    rw[List.append_assoc] at r1 r2
    rw[List.drop_eq_getElem_cons h1,List.map_cons]
    refine ⟨?_,?_⟩
    ·rw[jzG,bzh h1,aza,azP h1,aza,bzs h1,t1,azb,azv (by decide) (by simp;omega),aza,azq (by omega)]
     exact r1
    ·rw[jzD,bzh h1,aza,azP h1,aza,aza,bzs h1,t2,azb,azv (by decide) (by simp;omega),aza,azq (by omega)]
     exact r2
  obtain ⟨r1,r2⟩:=loop l.length 0 [] (by omega) (by simp)
  rw[List.drop_zero,List.nil_append] at r1 r2
  rw[if_pos trivial]
  exact ⟨r1,r2⟩
def WzV (leaf a b:ByteArray):ByteArray:=azm (scat (azm (scat (azm leaf) a)) b)
theorem HzP {α:Type} (a b:α):len [a,b]=2:=rfl
theorem iFold0 (leaf a b:ByteArray) (hl:leaf.size≤1048576) (ha:a.size=32) (hb:b.size=32):jzn (leaf,(0,([a,b],())))=some ((WzV leaf a b,()),()):=by
 have h1:=azE leaf
 have h2:=azE (scat (azm leaf) a)
 rw[Fzx,HzP,show igt 2 5=false from rfl,azc,show ilt 0 0=false from rfl,azc,show nn (azx .u64 2)=true from rfl,aza,show ige 0 (ishl .i64 1 (azx .u64 2))=false by decide+kernel,azc,czR _ (by omega),azb]
 simp only[]
 rw[mzs,HzP,show ilt 0 2=true from rfl,aza,show inb 0 2=true from rfl,aza,show nn (azx .u64 0)=true from rfl,aza,show ieq (iand .i64 (ishr .i64 0 (azx .u64 0)) 1) 1=false by decide+kernel,azc,show rd (bs []) [a,b] 0=a from rfl,nzT _ _ (by omega) (by omega),azb,show iadd .i64 0 1=1 from rfl]
 simp only[]
 rw[mzs,HzP,show ilt 1 2=true from rfl,aza,show inb 1 2=true from rfl,aza,show nn (azx .u64 1)=true from rfl,aza,show ieq (iand .i64 (ishr .i64 0 (azx .u64 1)) 1) 1=false by decide+kernel,azc,show rd (bs []) [a,b] 1=b from rfl,nzT _ _ (by omega) (by omega),azb,show iadd .i64 1 1=2 from rfl]
 rw[mzs,show ilt 2 2=false from rfl,azc]
 rfl
theorem sFold0 (leaf a b:ByteArray) (hl:leaf.size≤1048576) (ha:a.size=32) (hb:b.size=32):jzp (leaf,(0,([a,b],())))=some ((WzV leaf a b,()),()):=by
 have h1:=azE leaf
 have h2:=azE (scat (azm leaf) a)
 rw[Gz9,HzP,show igt 2 5=false from rfl,azc,show nn (azx .u64 2)=true from rfl,aza,tzP,azb,show bnot (decide ((0:Int)≤0∧0≤isub .i64 (ishl .i64 1 (azx .u64 2)) 1))=false by decide+kernel,azc,bzO _ (by omega),azb]
 simp only[]
 rw[mzt,HzP,show ilt 0 2=true from rfl,aza,show nn (azx .u64 0)=true from rfl,aza,show nz 2=true from rfl,aza,show ieq (irem (ishr .i64 0 (azx .u64 0)) 2) 1=false by decide+kernel,azc,show inb 0 2=true from rfl,aza,show rd (bs []) [a,b] 0=a from rfl,ozP _ _ (by omega) (by omega),azb,show iadd .i64 0 1=1 from rfl]
 simp only[]
 rw[mzt,HzP,show ilt 1 2=true from rfl,aza,show nn (azx .u64 1)=true from rfl,aza,show nz 2=true from rfl,aza,show ieq (irem (ishr .i64 0 (azx .u64 1)) 2) 1=false by decide+kernel,azc,show inb 1 2=true from rfl,aza,show rd (bs []) [a,b] 1=b from rfl,ozP _ _ (by omega) (by omega),azb,show iadd .i64 1 1=2 from rfl]
 rw[mzt,HzP,show ilt 2 2=false from rfl,azc]
 rfl
theorem got_in {l:List azl} {k v:ByteArray} (h:gotV l k=(v,true)): ∃p∈l,p.1=k∧p.2.1=v:=by
 unfold gotV at h
 split at h
 ·rename_i p hp
  refine ⟨p,List.mem_of_find?_eq_some hp,?_,congrArg Prod.fst h⟩
  have h2:=List.find?_some hp
  simpa using h2
 ·cases h
theorem Mzq (root:ByteArray) (l:List azd) (hs:nzB l) (k s A B:ByteArray) (hA:A.size=32) (hB:B.size=32) (sl:List ByteArray):
 ∃ (v:ByteArray) (b:Bool) (c:Int),izH (root,((k,(s,(bzZ (bz9 l),([A,B],(czk (bz9 l) k,(sl,())))))),()))=some ((v,(b,(c,()))),())∧izw (root,((k,(s,(bzZ (bz9 l),([A,B],(czk (bz9 l) k,(sl,())))))),()))=some ((v,(b,(c,()))),()):=by
 have hro:=ozg (bz9 l)
 rw[yzs,xz6]
 simp only[]
 rw[dzT,azb,dzb (x:=ssz (bzZ (bz9 l))) (y:=32),azL]
 simp only[]
 by_cases h32:(bzZ (bz9 l)).size=32
 ·rw[decide_eq_true h32,show bnot true=false from rfl,azc,decide_eq_true (by omega:((bzZ (bz9 l)).size:Int)=32),Bool.not_true,azc,HzP,show ine 2 2=false from rfl,azc,azc,iFold0 _ _ _ (by omega) hA hB,azb,sFold0 _ _ _ (by omega) hA hB,azb]
  simp only[]
  cases sne (WzV (bzZ (bz9 l)) A B) root with
  |true=>exact ⟨bs [],false,2,rfl,rfl⟩
  |false=>
   rw[azc,azc,VzK,azb,VzD,azb]
   simp only[]
   cases hc:ine (verV (bzZ (bz9 l)) k (czk (bz9 l) k)).2.2.1 0 with
   |true=>exact ⟨bs [],false,_,rfl,rfl⟩
   |false=>
    rw[azc,azc]
    have hc0:(verV (bzZ (bz9 l)) k (czk (bz9 l) k)).2.2.1=0:=by
     rw[dzb] at hc
     simpa using hc
    cases hb:(verV (bzZ (bz9 l)) k (czk (bz9 l) k)).2.1 with
    |false=>
     rw[show bnot false=true from rfl,aza,aza]
     cases igt (len sl) 0 with
     |true=>exact ⟨bs [],false,4,rfl,rfl⟩
     |false=>exact ⟨bs [],false,0,rfl,rfl⟩
    |true=>
     rw[show bnot true=false from rfl,azc,azc]
     have hok:k.size=4∧pokV (bz9 l)=true:=by
      refine Classical.byContradiction fun hn=>?_
      have e:czk (bz9 l) k=[]:=by unfold czk;rw[if_neg hn]
      rw[e] at hc0
      unfold verV at hc0
      rw[if_pos (fun hh=>by have:=hh.2.2.1;simp at this)] at hc0
      cases hc0
     have hg:=Tza (bz9 l) k (rz7 hok.2) (Hz3 hok.2) hok.1
     rw[show azm (bzu (azD 9 0 (bz9 l))).1=bzZ (bz9 l) by unfold bzZ;rw[if_pos hok.2],show oz8 (bz9 l) k=czk (bz9 l) k by unfold czk;rw[if_pos hok]] at hg
     rw[hg] at hb⊢
     simp only[] at hb⊢
     obtain ⟨p,hp,_,hp2⟩:=got_in (show gotV (bz9 l) k=((gotV (bz9 l) k).1,true) by rw[←hb])
     obtain ⟨a,ha,hok2,hv⟩: ∃a:azd,a∈l∧(Wzn a∧(pokV a.2.2.2.1=true))∧(gotV (bz9 l) k).1=accT a:=by
      unfold bz9 at hp
      split at hp
      ·rename_i hacc
       obtain ⟨a,ha,rfl⟩:=List.mem_map.1 hp
       refine ⟨a,ha,⟨(Lzo hacc).2 a ha,?_⟩,hp2.symm⟩
       obtain ⟨j,hj,rfl⟩:=List.getElem_of_mem ha
       unfold accV at hacc
       rw[Bool.and_eq_true] at hacc
       have h1:=BzZ l l.length 0 hacc.2 j (by omega) (by omega)
       unfold accA at h1
       simp only[Bool.and_eq_true,bzs hj] at h1
       exact h1.2.2.2.2
      ·cases hp
     have hr32:(bzZ a.2.2.2.1).size=32:=by
      unfold bzZ;rw[if_pos hok2.2];exact azE _
     obtain ⟨e1,e2⟩:=Pz5 a hok2.1 hr32
     rw[hv,e1,azb,e2,azb]
     simp only[]
     rw[show bnot true=false from rfl,azc,azc,VzK,azb,VzD,azb]
     simp only[]
     cases ine (verV (bzZ a.2.2.2.1) s sl).2.2.1 0 with
     |true=>exact ⟨bs [],false,_,rfl,rfl⟩
     |false=>exact ⟨_,_,0,rfl,rfl⟩
 ·rw[decide_eq_false h32,show bnot false=true from rfl,aza,decide_eq_false (by omega: ¬((bzZ (bz9 l)).size:Int)=32),Bool.not_false,aza]
  exact ⟨bs [],false,1,rfl,rfl⟩
theorem UzZ {l:List azd} (h:accV l=true):l.Pairwise fun a b=>a.1≠b.1:=by
 unfold accV at h
 rw[Bool.and_eq_true] at h
 have hat:=BzZ l l.length 0 h.2
 have get: ∀j (hj:j<l.length),j=0∨ ∃hj':j-1<l.length,Op.bytesLess (l[j-1].1).toList (l[j].1).toList=true:=by
  intro j hj
  have h1:=hat j (by omega) (by omega)
  unfold accA at h1
  simp only[Bool.and_eq_true,decide_eq_true_eq,Bool.or_eq_true,bzs hj,azL] at h1
  rcases h1.2.1 with h2|h2
  ·exact .inl h2
  ·by_cases hj0:j=0
   ·exact .inl hj0
   ·right
    have hj1:j-1<l.length:=by omega
    refine ⟨hj1,?_⟩
    rw[show ((j:Int)-1)=((j-1:Nat):Int) by omega,bzs hj1] at h2
    exact h2
 have lt: ∀ (m i:Nat) (hi:i<l.length) (hj:i+m+1<l.length),Op.bytesLess (l[i].1).toList (l[i+m+1].1).toList=true:=by
  intro m
  induction m with
  |zero=>
   intro i hi hj
   rcases get (i+0+1) hj with h1| ⟨h1,h2⟩
   ·omega
   ·simpa using h2
  |succ m ih=>
   intro i hi hj
   have h1:=ih i hi (by omega)
   rcases get (i+(m+1)+1) hj with h2| ⟨h2,h3⟩
   ·omega
   ·refine Gzm _ _ _ h1 ?_
    simp only[show i+(m+1)+1-1=i+m+1 by omega] at h3
    exact h3
 rw[List.pairwise_iff_getElem]
 intro i j hi hj hij e
 have:=lt (j-i-1) i hi (by omega)
 simp only[show i+(j-i-1)+1=j by omega] at this
 rw[e,Rzi] at this
 cases this
theorem Wz5 {l:List azd} (h:accV l=true): ∀a∈l,pokV a.2.2.2.1=true:=by
 intro a ha
 obtain ⟨j,hj,rfl⟩:=List.getElem_of_mem ha
 unfold accV at h
 rw[Bool.and_eq_true] at h
 have h1:=BzZ l l.length 0 h.2 j (by omega) (by omega)
 unfold accA at h1
 simp only[Bool.and_eq_true,bzs hj] at h1
 exact h1.2.2.2.2
theorem gotc (p:azl) (l:List azl) (k:ByteArray):gotV (p::l) k=if p.1=k then (p.2.1,true) else gotV l k:=by
 unfold gotV
 rw[List.find?_cons]
 by_cases h:p.1=k
 ·rw[decide_eq_true h,if_pos h]
 ·rw[decide_eq_false h,if_neg h]
theorem HzY (l:List azl) (hl:l.length≤1000000000) (k:ByteArray): ∀ (m i:Nat),i+m=l.length→rz5 (k,(l,(len l,((i:Int),()))))=some (((gotV (l.drop i) k).1,((gotV (l.drop i) k).2,())),()):=by
 intro m
 induction m with
 |zero=>
  intro i hi
  rw[Ezv,show (i:Int)=(l.length:Int) by omega,az7,azc,List.drop_eq_nil_of_le (by omega)]
  rfl
 |succ m ih=>
  intro i hi
  have h1:i<l.length:=by omega
  rw[Ezv,bzh h1,aza,azP h1,aza,bzs h1,xzQ,List.drop_eq_getElem_cons h1,gotc]
  by_cases h:l[i].1=k
  ·rw[decide_eq_true h,aza,if_pos h]
  ·rw[decide_eq_false h,azc,if_neg h,azq (by omega),ih (i+1) (by omega)]
theorem SzQ (l:List azl) (hl:l.length≤1000000000) (k:ByteArray):qzQ (l,(k,()))=some (((gotV l k).1,((gotV l k).2,())),()):=by
 rw[Rzl]
 exact HzY l hl k l.length 0 (by omega)
noncomputable def zzV (a:azd) (n k:ByteArray):List azl→ByteArray×Bool→ByteArray×Bool
 | [],st=>st
 |p::l,st=>zzV a n k l (if a.1=n∧p.1=k then (p.2.1,true) else st)
noncomputable def Kzi (n k:ByteArray):List azd→ByteArray×Bool→ByteArray×Bool
 | [],st=>st
 |a::l,st=>Kzi n k l (zzV a n k a.2.2.2.1 st)
theorem pzQ (a:azd) (n k:ByteArray): ∀ (l:List azl) (st:ByteArray×Bool),(∀p∈l,¬(a.1=n∧p.1=k))→zzV a n k l st=st
 | [],st,_=>rfl
 |p::l,st,h=>by
  unfold zzV
  rw[if_neg (h p (by simp)),pzQ a n k l st fun q hq=>h q (by simp [hq])]
theorem IzN (n k:ByteArray): ∀ (l:List azd) (st:ByteArray×Bool),(∀a∈l,a.1≠n)→Kzi n k l st=st
 | [],st,_=>rfl
 |a::l,st,h=>by
  unfold Kzi
  rw[pzQ a n k _ st fun p _ hh=>h a (by simp) hh.1,IzN n k l st fun b hb=>h b (by simp [hb])]
theorem Jzy (a:azd) (n k:ByteArray) (ha:a.1=n): ∀ (l:List azl),(l.Pairwise fun p q=>p.1≠q.1)→zzV a n k l (bs [],false)=gotV l k
 | [],_=>rfl
 |p::l,h=>by
  rw[List.pairwise_cons] at h
  unfold zzV
  rw[gotc]
  by_cases hk:p.1=k
  ·rw[if_pos ⟨ha,hk⟩,if_pos hk,pzQ a n k l _ fun q hq hh=>h.1 q hq (hk.trans hh.2.symm)]
  ·rw[if_neg (fun hh=>hk hh.2),if_neg hk,Jzy a n k ha l h.2]
theorem Izr (n k:ByteArray): ∀ (l:List azd),(l.Pairwise fun a b=>a.1≠b.1)→(∀a∈l,a.2.2.2.1.Pairwise fun p q=>p.1≠q.1)→Kzi n k l (bs [],false)=gotV (gzs l n).1 k
 | [],_,_=>rfl
 |a::l,h,hp=>by
  rw[List.pairwise_cons] at h
  unfold Kzi
  rw[rzf]
  by_cases ha:a.1=n
  ·rw[if_pos ha,Jzy a n k ha _ (hp a (by simp)),IzN n k l _ fun b hb e=>h.1 b hb (ha.trans e.symm)]
  ·rw[if_neg ha,pzQ a n k _ _ fun p _ hh=>ha hh.1,Izr n k l h.2 fun b hb=>hp b (by simp [hb])]
theorem Uz8 (n v:ByteArray) (b:Bool) (w:dzp) (a:azd) (ha:a.2.2.2.1.length≤1000000000) (i:Nat) (hi:i≤1000000000): ∀ (m j:Nat) (st:ByteArray×Bool),j+m=a.2.2.2.1.length→
 gzq (n,(v,(b,(st.1,(st.2,((i:Int),((j:Int),(w,(a,())))))))))=dz8 (n,(v,(b,((zzV a n (bs [97,97,97,97]) (a.2.2.2.1.drop j) st).1,((zzV a n (bs [97,97,97,97]) (a.2.2.2.1.drop j) st).2,(((i+1:Nat):Int),(w,()))))))):=by
 intro m
 induction m with
 |zero=>
  intro j st hj
  rw[wzp,show (j:Int)=(a.2.2.2.1.length:Int) by omega,az7,azc,List.drop_eq_nil_of_le (by omega),azq (by omega)]
  rfl
 |succ m ih=>
  intro j st hj
  have h1:j<a.2.2.2.1.length:=by omega
  rw[wzp,bzh h1,aza,xzQ,List.drop_eq_getElem_cons h1]
  unfold zzV
  by_cases hn:a.1=n
  ·rw[decide_eq_true hn,aza,azP h1,aza,bzs h1,xzQ]
   by_cases hk:a.2.2.2.1[j].1=bs [97,97,97,97]
   ·rw[decide_eq_true hk,aza,aza,if_pos ⟨hn,hk⟩,azq (i:=j) (by omega)]
    exact ih (j+1) (a.2.2.2.1[j].2.1,true) (by omega)
   ·rw[decide_eq_false hk,azc,if_neg (fun hh=>hk hh.2),azq (i:=j) (by omega)]
    exact ih (j+1) st (by omega)
  ·rw[decide_eq_false hn,azc]
   have hrest: ∀st:ByteArray×Bool,zzV a n (bs [97,97,97,97]) (a.2.2.2.1.drop (j+1)) st=st:=fun st=>pzQ a n _ _ st fun p _ hh=>hn hh.1
   rw[if_neg (fun hh=>hn hh.1),hrest,azq (by omega)]
theorem Sz3 (n v:ByteArray) (b:Bool) (w:dzp) (hs:nzB w.1.2.1): ∀ (m i:Nat) (st:ByteArray×Bool),i+m=w.1.2.1.length→
 dz8 (n,(v,(b,(st.1,(st.2,((i:Int),(w,())))))))=Go.TV.cnd (seq v (Kzi n (bs [97,97,97,97]) (w.1.2.1.drop i) st).1) (some ((beqB b (Kzi n (bs [97,97,97,97]) (w.1.2.1.drop i) st).2,()),())) (some ((false,()),())):=by
 intro m
 induction m with
 |zero=>
  intro i st hi
  rw[yzn,show (i:Int)=(w.1.2.1.length:Int) by omega,az7,azc,List.drop_eq_nil_of_le (by omega)]
  rfl
 |succ m ih=>
  intro i st hi
  have h1:i<w.1.2.1.length:=by omega
  have hl:=hs.1
  rw[yzn,bzh h1,aza,azP h1,aza,bzs h1,List.drop_eq_getElem_cons h1]
  have h2:=Uz8 n v b w w.1.2.1[i] (hs.2 _ (List.getElem_mem h1)) i (by omega) w.1.2.1[i].2.2.2.1.length 0 st (by omega)
  rw[show ((0:Nat):Int)=0 from rfl,List.drop_zero] at h2
  rw[h2]
  exact ih (i+1) (zzV w.1.2.1[i] n (bs [97,97,97,97]) w.1.2.1[i].2.2.2.1 st) (by omega)
theorem RzE (w:dzp) (hs:nzB w.1.2.1) (hacc:accV w.1.2.1=true) (n v:ByteArray) (b:Bool):
 ∃r:Bool,(Go.TV.bnd (jz5 (w.1.2.1,(n,()))) fun r5=>Go.TV.bnd (qzQ (r5.1.1,(bs [97,97,97,97],()))) fun r6=>Go.TV.cnd (seq v r6.1.1) (some ((beqB b r6.1.2.1,()),())) (some ((false,()),())))=some ((r,()),())∧
  dz8 (n,(v,(b,(bs [],(false,((0:Int),(w,())))))))=some ((r,()),()):=by
 have h1:=Sz3 n v b w hs w.1.2.1.length 0 (bs [],false) (by omega)
 rw[show ((0:Nat):Int)=0 from rfl,List.drop_zero,Izr n _ _ (UzZ hacc) (fun a ha=>(rz7 (Wz5 hacc a ha)).dist)] at h1
 have h2:(gzs w.1.2.1 n).1.length≤1000000000:=by
  cases hb:(gzs w.1.2.1 n).2 with
  |true=>
   obtain ⟨a,ha,_,e⟩:=SzV (show gzs w.1.2.1 n=((gzs w.1.2.1 n).1,true) by rw[←hb])
   rw[←e];exact hs.2 a ha
  |false=>
   unfold gzs at hb⊢
   split at hb
   ·cases hb
   ·simp
 rw[wz7 _ hs.1,azb]
 simp only[]
 rw[SzQ _ h2,azb]
 simp only[]
 simp only[] at h1
 rw[h1]
 cases seq v (gotV (gzs w.1.2.1 n).1 (bs [97,97,97,97])).1 with
 |true=>exact ⟨_,rfl,rfl⟩
 |false=>exact ⟨false,rfl,rfl⟩
theorem SzO (l:List azd) (hs:nzB l) (a b:azh) (ha:Fine azp a) (hb:Fine azp b) (h:azO) (k s:ByteArray): ∃A B:ByteArray,A.size=32∧B.size=32∧ ∀r:tAsk,jz0 (l,(a,(b,(h,(k,(s,()))))))=some ((r,()),())→r=(k,(s,(bzZ (bz9 l),([A,B],(czk (bz9 l) k,(yzP l k s,())))))):=by
 obtain ⟨lv,v0,v1,v2,v3⟩:=tzy l hs a b ha hb h
 obtain ⟨br,b0,b1,b2,b3⟩:=AzD v0 v1
 obtain ⟨A,B,rfl⟩: ∃A B,br=[A,B]:=by
  match br,b0 with
  | [A,B],_=>exact ⟨A,B,rfl⟩
 refine ⟨A,B,b1 A (by simp),b1 B (by simp),fun r hr=>?_⟩
 rw[EzJ,(UzG l hs).1,azb] at hr
 simp only[] at hr
 rw[Kzq,azb,v2,azb] at hr
 simp only[] at hr
 rw[b2,azb,azb] at hr
 simp only[] at hr
 rw[vzm,azb,wz7 l hs.1,azb] at hr
 simp only[] at hr
 have out: ∀ {x y:tAsk},(some ((x,()),()):Option ((tAsk×Unit)×Unit))=some ((y,()),())→y=x:=fun h=>by
  have:=congrArg (fun o=>o.map fun p:(tAsk×Unit)×Unit=>p.1.1) h
  simpa using this.symm
 unfold yzP
 cases he:(gzs l k).2 with
 |true=>
  rw[he,aza,vzm,azb] at hr
  rw[if_pos rfl]
  exact out hr
 |false=>
  rw[he,azc] at hr
  rw[if_neg (by decide)]
  exact out hr
theorem RzM (w:dzp) (hc:ChOk w.1) (k:Int) (n:ByteArray) (hn:n.size≤16777216): ∃b:Bool,kzn (w,(k,(n,())))=some ((b,()),())∧kzs (w,(k,(n,())))=some ((b,()),()):=by
 obtain ⟨r,rf,e1,e2,hr⟩:=GzK w.1 hc k n (bs [97,97,97,97]) hn (by rw[mzr];decide)
 rw[KzK,LzG,e1,azb,e2,azb,Jz7,IzX]
 simp only[]
 rcases hr with rfl| ⟨hacc,l,a,b,h,hs,ha,hb,hm⟩
 ·have z1: ∀root:ByteArray,izH (root,(zAsk,()))=some ((bs [],(false,(1,()))),()):=fun root=>by
   rw[yzs,dzT,azb]
   rfl
  have z2: ∀root:ByteArray,izw (root,(zAsk,()))=some ((bs [],(false,(1,()))),()):=fun root=>by
   rw[xz6]
   rfl
  rw[z1,z2]
  exact ⟨true,rfl,rfl⟩
 ·obtain ⟨A,B,hA,hB,hform⟩:=SzO l hs a b ha hb h n (bs [97,97,97,97])
  obtain rfl:=hform r hm
  obtain ⟨v,t,c,a1,a2⟩:=Mzq w.2.2.1.2.1.1.2.2.1 l hs n (bs [97,97,97,97]) A B hA hB (yzP l n (bs [97,97,97,97]))
  rw[a1,a2]
  simp only[azb]
  cases ine c 0 with
  |true=>exact ⟨true,rfl,rfl⟩
  |false=>
   rw[azc,azc]
   exact RzE w hc.stores0 hacc n v t
theorem QzT (w:dzp) (k:Int) (n:ByteArray) (h:Lz2 gzp w) (hn:n.size≤1048576) (g:mzu gzp w): ∃b,kzs (w,(k,(n,())))=some ((b,()),())∧kzn (w,(k,(n,())))=some ((b,()),()):=by
 have hf:Fine gzp w:=Bnd.le (by decide) h
 obtain ⟨b,h1,h2⟩:=RzM w ⟨hf.1,UzH g.1⟩ k n (by omega)
 exact ⟨b,h2,h1⟩
end Go.Proofs.YthldgfkkgmpmlaaGreatDoor
