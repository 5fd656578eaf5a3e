/- Accounts, leaves of a state, heads of a chain. Of no condition. -/
import Derived.Test.YtdfbhjpmdjmdaaaGreatDoorTQ
set_option linter.unusedVariables false
set_option linter.unusedSimpArgs false
set_option maxRecDepth 100000
namespace Go.Proofs.YtdfbhjpmdjmdaaaGreatDoor
open Go.TV
noncomputable def accA (l:List azb) (i:Nat):Bool:=decide (ssz (rd azL l (i:Int)).1=4)&&((decide (i=0)||slt (rd azL l ((i:Int)-1)).1 (rd azL l (i:Int)).1)&&(decide (0≤(rd azL l (i:Int)).2.1∧(rd azL l (i:Int)).2.1≤1000)&&(decide (0≤(rd azL l (i:Int)).2.2.1∧(rd azL l (i:Int)).2.2.1≤1000000000)&&pokV (rd azL l (i:Int)).2.2.2.1)))
noncomputable def accF (l:List azb):Nat→Nat→Bool
 |_,0=>true
 |i,m+1=>accA l i&&accF l (i+1) m
noncomputable def accV (l:List azb):Bool:=decide (l.length≤12)&&accF l 0 l.length
theorem Pzx (l:List azb) (n i j:Int) (a b c:Bool) (x:azb):gz7 (l,(l,(n,(i,(j,(a,(b,(c,(x,())))))))))=Go.TV.cnd (decide (0≤x.2.1∧x.2.1≤1000)&&(decide (0≤x.2.2.1∧x.2.2.1≤1000000000)&&pokV x.2.2.2.1)) (dzt (l,(l,(n,(iadd .i64 i 1,()))))) (some ((false,()),())):=by
 rw[yzB]
 by_cases c1:0≤x.2.1
 ·rw[az7 c1,azc]
  by_cases c2:x.2.1≤1000
  ·rw[bzy c2,azc,decide_eq_true (⟨c1,c2⟩:0≤x.2.1∧x.2.1≤1000)]
   by_cases c3:0≤x.2.2.1
   ·rw[az7 c3,azc]
    by_cases c4:x.2.2.1≤1000000000
    ·rw[bzy c4,azc,decide_eq_true (⟨c3,c4⟩:0≤x.2.2.1∧x.2.2.1≤1000000000),KzM,azd]
     simp only[]
     cases pokV x.2.2.2.1<;>rfl
    ·rw[cze (by omega),aza,decide_eq_false (fun hh:0≤x.2.2.1∧x.2.2.1≤1000000000=>c4 hh.2)];rfl
   ·rw[bzW (by omega),aza,decide_eq_false (fun hh:0≤x.2.2.1∧x.2.2.1≤1000000000=>c3 hh.1)];rfl
  ·rw[cze (by omega),aza,decide_eq_false (fun hh:0≤x.2.1∧x.2.1≤1000=>c2 hh.2)];rfl
 ·rw[bzW (by omega),aza,decide_eq_false (fun hh:0≤x.2.1∧x.2.1≤1000=>c1 hh.1)];rfl
theorem MzW (l:List azb) (hl:l.length≤1000000): ∀ (m i:Nat),i+m=l.length→dzt (l,(l,(len l,((i:Int),()))))=some ((accF l i m,()),()):=by
 intro m
 induction m with
 |zero=>intro i hi;rw[qzy,show (i:Int)=(l.length:Int) by omega,bzb,azc];rfl
 |succ m ih=>
  intro i hi
  have h1:i<l.length:=by omega
  have fin: ∀c:Bool,Go.TV.cnd c (dzt (l,(l,(len l,(iadd .i64 (i:Int) 1,()))))) (some ((false,()),()))=some ((c&&accF l (i+1) m,()),()):=fun c=>by
   rw[azq (by omega),ih (i+1) (by omega)];cases c<;>rfl
  rw[qzy,bzp h1,aza,az0 h1,aza,czY]
  show _=some ((accA l i&&accF l (i+1) m,()),())
  unfold accA
  by_cases c1:ssz (rd azL l (i:Int)).1=4
  ·rw[decide_eq_true c1,show (!true)=false from rfl,azc]
   by_cases c4:i=0
   ·rw[bzy (by omega),azc,decide_eq_true c4,Pzx,fin];rfl
   ·rw[cze (by omega),aza,bzi (by omega) (by omega),show inb ((i:Int)-1) (len l)=true by rw[azA];exact bzI (by omega) (by omega),aza,AzK,kzd,decide_eq_false c4]
    cases slt (rd azL l ((i:Int)-1)).1 (rd azL l (i:Int)).1
    ·rfl
    ·rw[aza,Pzx,fin];rfl
  ·rw[decide_eq_false c1,show (!false)=true from rfl,aza];rfl
theorem JzX (l:List azb) (hl:l.length≤1000000000) (hp: ∀a∈l,a.2.2.2.1.length≤1000000000): ∀ (m i:Nat),i+m=l.length→dzz (l,((i:Int),()))=some ((accF l i m&&decide (l.length≤12),()),()):=by
 intro m
 induction m with
 |zero=>
  intro i hi
  rw[qzB,show (i:Int)=(l.length:Int) by omega,bzb,azc,gzB,azA]
  show some ((decide ((l.length:Int)≤12),()),())=some ((true&&decide (l.length≤12),()),())
  rw[Bool.true_and,show decide ((l.length:Int)≤12)=decide (l.length≤12) by simp only[decide_eq_decide];omega]
 |succ m ih=>
  intro i hi
  have h1:i<l.length:=by omega
  have hs:(rd azL l (i:Int)).2.2.2.1.length≤1000000000:=by rw[bzA h1];exact hp _ (List.getElem_mem h1)
  have tail: ∀ (x:azb),x.2.2.2.1.length≤1000000000→Go.TV.bnd (czl (x.2.1,(0,(1000,())))) (fun r2=>Go.TV.cnd (bnot r2.1.1) (some ((false,()),())) (Go.TV.bnd (czl (x.2.2.1,(0,(1000000000,())))) (fun r3=>Go.TV.cnd (bnot r3.1.1) (some ((false,()),())) (Go.TV.bnd (fzi (x.2.2.2.1,())) (fun r4=>Go.TV.cnd (bnot r4.1.1) (some ((false,()),())) (dzz (l,(iadd .i64 (i:Int) 1,()))))))))=
   some (((decide (0≤x.2.1∧x.2.1≤1000)&&(decide (0≤x.2.2.1∧x.2.2.1≤1000000000)&&pokV x.2.2.2.1))&&accF l (i+1) m&&decide (l.length≤12),()),()):=fun x hx=>by
   rw[azq (by omega),ih (i+1) (by omega),tzD,azd]
   simp only[]
   cases decide (0≤x.2.1∧x.2.1≤1000)
   ·rfl
   simp only[bnot,Bool.not_true,azc]
   rw[tzD,azd]
   simp only[]
   cases decide (0≤x.2.2.1∧x.2.2.1≤1000000000)
   ·rfl
   simp only[Bool.not_true,azc]
   rw[KzX _ hx,azd]
   simp only[]
   cases pokV x.2.2.2.1<;>rfl
  rw[qzB,bzp h1,aza,az0 h1,aza,czY]
  show _=some (((accA l i&&accF l (i+1) m)&&decide (l.length≤12),()),())
  unfold accA
  by_cases c1:ssz (rd azL l (i:Int)).1=4
  ·rw[decide_eq_true c1,show (!true)=false from rfl,azc]
   by_cases c4:i=0
   ·rw[bzy (by omega),azc,decide_eq_true c4,tail _ hs];rfl
   ·rw[cze (by omega),aza,bzi (by omega) (by omega),show inb ((i:Int)-1) (len l)=true by rw[azA];exact bzI (by omega) (by omega),aza,AzK,kzd,decide_eq_false c4]
    cases slt (rd azL l ((i:Int)-1)).1 (rd azL l (i:Int)).1
    ·rfl
    ·rw[aza,tail _ hs];rfl
  ·rw[decide_eq_false c1,show (!false)=true from rfl,aza];rfl
theorem LzY (l:List azb):iz1 (l,())=some ((accV l,()),()):=by
 rw[AzS]
 unfold accV
 by_cases h:l.length≤12
 ·rw[bzy (by rw[azA];omega),azc,decide_eq_true h]
  exact MzW l (by omega) l.length 0 (by omega)
 ·rw[cze (by rw[azA];omega),aza,decide_eq_false h];rfl
theorem Mzf (l:List azb) (hl:l.length≤1000000000) (hp: ∀a∈l,a.2.2.2.1.length≤1000000000):izF (l,())=some ((accV l,()),()):=by
 rw[Czo]
 have:=JzX l hl hp l.length 0 (by omega)
 rw[show ((0:Nat):Int)=0 from rfl] at this
 rw[this,accV,Bool.and_comm]
theorem uzu (l:List azb): ∀ (m i:Nat),accF l i m=true→ ∀j,i≤j→j<i+m→accA l j=true
 |0,i,_,j,h1,h2=>by omega
 |m+1,i,h,j,h1,h2=>by
  have h':(accA l i&&accF l (i+1) m)=true:=h
  rw[Bool.and_eq_true] at h'
  by_cases hj:j=i
  ·subst hj;exact h'.1
  ·exact uzu l m (i+1) h'.2 j (by omega) (by omega)
theorem uzp {l:List azb} (h:accV l=true):l.length≤12∧ ∀a∈l,(0≤a.2.1∧a.2.1≤1000)∧(0≤a.2.2.1∧a.2.2.1≤1000000000):=by
 unfold accV at h
 rw[Bool.and_eq_true] at h
 refine ⟨of_decide_eq_true h.1,fun a ha=>?_⟩
 obtain ⟨j,hj,rfl⟩:=List.getElem_of_mem ha
 have h1:=uzu l l.length 0 h.2 j (by omega) (by omega)
 unfold accA at h1
 simp only[Bool.and_eq_true,decide_eq_true_eq,bzA hj] at h1
 exact ⟨h1.2.2.1,h1.2.2.2.1⟩
def hzX (l:List azb):Prop:=l.length≤1000000000∧ ∀a∈l,a.2.2.2.1.length≤1000000000
theorem CzJ (a:azb) (h1:0≤a.2.1∧a.2.1≤1000) (h2:0≤a.2.2.1∧a.2.2.1≤1000000000) (hp:a.2.2.2.1.length≤1000000000): ∃t:ByteArray,ezx (a,())=some ((t,()),())∧ezJ (a,())=some ((t,()),()):=by
 obtain ⟨n,hn⟩:=Int.eq_ofNat_of_zero_le h1.1
 obtain ⟨m,hm⟩:=Int.eq_ofNat_of_zero_le h2.1
 obtain ⟨t,_,t1,t2⟩:=xzv a.2.2.2.1 hp
 rw[qzu,qzF,hn,hm,tzS n (by omega),azd,tzS m (by omega),azd,t1,azd,t2,azd]
 simp only[]
 rw[ez5,azd,Azm,uza n (by omega),azd]
 simp only[]
 rw[czb,azd,uza m (by omega),azd]
 simp only[]
 rw[czb,azd,czb,azd]
 simp only[]
 rw[ez6,azd,azd]
 exact ⟨_,rfl,rfl⟩
theorem AzB (l:List azb) (hs:hzX l): ∃r:List azh,r.length≤1000000000∧dzL (l,())=some ((r,()),())∧fzA (l,())=some ((r,()),()):=by
 rw[vzs,vzk,LzY,Mzf l hs.1 hs.2,azd,azd]
 simp only[]
 cases h:accV l with
 |false=>exact ⟨[],by simp,rfl,rfl⟩
 |true=>
  simp only[bnot,Bool.not_true,azc]
  obtain ⟨hl,ha⟩:=uzp h
  have loop: ∀ (m i:Nat) (acc:List azh),i+m=l.length→acc.length≤i→ ∃r:List azh,r.length≤l.length∧gzm (acc,(l,(len l,((i:Int),()))))=some ((r,()),())∧fzP (l,(acc,((i:Int),())))=some ((r,()),()):=by
   intro m
   induction m with
   |zero=>
    intro i acc hi hacc
    refine ⟨acc,by omega,?_,?_⟩
    ·rw[izQ,show (i:Int)=(l.length:Int) by omega,bzb,azc]
    ·rw[izJ,show (i:Int)=(l.length:Int) by omega,bzb,azc]
   |succ m ih=>
    intro i acc hi hacc
    have h1:i<l.length:=by omega
    have hm:=List.getElem_mem h1
    obtain ⟨t,t1,t2⟩:=CzJ l[i] (ha _ hm).1 (ha _ hm).2 (hs.2 _ hm)
    obtain ⟨r,r0,r1,r2⟩:=ih (i+1) (acc++[(l[i].1,(t,()))]) (by omega) (by simp;omega)
    refine ⟨r,r0,?_,?_⟩
    ·rw[izQ,bzp h1,aza,az0 h1,aza,bzA h1,t1,azd,azv (by decide) (by simp;omega),aza,azq (by omega)]
     exact r1
    ·rw[izJ,bzp h1,aza,az0 h1,aza,aza,bzA h1,t2,azd,azv (by decide) (by simp;omega),aza,azq (by omega)]
     exact r2
  obtain ⟨r,r0,r1,r2⟩:=loop l.length 0 [] (by omega) (by simp)
  exact ⟨r,by omega,r1,r2⟩
theorem rzy (l:List azb) (hs:hzX l) (a b:azl) (ha:Fine azr a) (hb:Fine azr b) (h:czD): ∃r:List ByteArray,r.length=4∧(∀y∈r,y.size≤32)∧czK (l,(a,(b,(h,()))))=some ((r,()),())∧dzv (l,(a,(b,(h,()))))=some ((r,()),()):=by
 obtain ⟨s,s0,s1,s2⟩:=AzB l hs
 obtain ⟨t,t0,t1,t2⟩:=xzv s s0
 rw[qzt,yzR,s1,s2,azd,azd]
 simp only[]
 rw[t1,t2,azd,azd,ezW a ha,nzP a ha,azd,azd,ezW b hb,nzP b hb,azd,azd,xzN,FzA,azd]
 refine ⟨[t,bz6 a,bz6 b,cz4 h],rfl,fun y hy=>?_,rfl,rfl⟩
 simp only[List.mem_cons,List.not_mem_nil,or_false] at hy
 rcases hy with rfl|rfl|rfl|rfl
 ·exact t0
 ·exact hzE a
 ·exact hzE b
 ·exact mzR h
end Go.Proofs.YtdfbhjpmdjmdaaaGreatDoor
