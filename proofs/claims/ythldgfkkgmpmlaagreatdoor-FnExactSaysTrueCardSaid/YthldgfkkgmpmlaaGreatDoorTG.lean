/- Accounts, leaves of a state, heads of a chain. Of no condition. -/
import Derived.Test.YthldgfkkgmpmlaaGreatDoorTM
set_option linter.unusedVariables false
set_option linter.unusedSimpArgs false
set_option maxRecDepth 100000
namespace Go.Proofs.YthldgfkkgmpmlaaGreatDoor
open Go.TV
noncomputable def accA (l:List azd) (i:Nat):Bool:=decide (ssz (rd azg l (i:Int)).1=4)&&((decide (i=0)||slt (rd azg l ((i:Int)-1)).1 (rd azg l (i:Int)).1)&&(decide (0≤(rd azg l (i:Int)).2.1∧(rd azg l (i:Int)).2.1≤1000)&&(decide (0≤(rd azg l (i:Int)).2.2.1∧(rd azg l (i:Int)).2.2.1≤1000000000)&&pokV (rd azg l (i:Int)).2.2.2.1)))
noncomputable def accF (l:List azd):Nat→Nat→Bool
 |_,0=>true
 |i,m+1=>accA l i&&accF l (i+1) m
noncomputable def accV (l:List azd):Bool:=decide (l.length≤12)&&accF l 0 l.length
theorem VzY (l:List azd) (n i j:Int) (a b c:Bool) (x:azd):izm (l,(l,(n,(i,(j,(a,(b,(c,(x,())))))))))=Go.TV.cnd (decide (0≤x.2.1∧x.2.1≤1000)&&(decide (0≤x.2.2.1∧x.2.2.1≤1000000000)&&pokV x.2.2.2.1)) (dzC (l,(l,(n,(iadd .i64 i 1,()))))) (some ((false,()),())):=by
 rw[Cz1]
 by_cases c1:0≤x.2.1
 ·rw[az0 c1,azc]
  by_cases c2:x.2.1≤1000
  ·rw[bzi c2,azc,decide_eq_true (⟨c1,c2⟩:0≤x.2.1∧x.2.1≤1000)]
   by_cases c3:0≤x.2.2.1
   ·rw[az0 c3,azc]
    by_cases c4:x.2.2.1≤1000000000
    ·rw[bzi c4,azc,decide_eq_true (⟨c3,c4⟩:0≤x.2.2.1∧x.2.2.1≤1000000000),RzW,azb]
     simp only[]
     cases pokV x.2.2.2.1<;>rfl
    ·rw[bzU (by omega),aza,decide_eq_false (fun hh:0≤x.2.2.1∧x.2.2.1≤1000000000=>c4 hh.2)];rfl
   ·rw[bzT (by omega),aza,decide_eq_false (fun hh:0≤x.2.2.1∧x.2.2.1≤1000000000=>c3 hh.1)];rfl
  ·rw[bzU (by omega),aza,decide_eq_false (fun hh:0≤x.2.1∧x.2.1≤1000=>c2 hh.2)];rfl
 ·rw[bzT (by omega),aza,decide_eq_false (fun hh:0≤x.2.1∧x.2.1≤1000=>c1 hh.1)];rfl
theorem SzT (l:List azd) (hl:l.length≤1000000): ∀ (m i:Nat),i+m=l.length→dzC (l,(l,(len l,((i:Int),()))))=some ((accF l i m,()),()):=by
 intro m
 induction m with
 |zero=>intro i hi;rw[tze,show (i:Int)=(l.length:Int) by omega,az7,azc];rfl
 |succ m ih=>
  intro i hi
  have h1:i<l.length:=by omega
  have fin: ∀c:Bool,Go.TV.cnd c (dzC (l,(l,(len l,(iadd .i64 (i:Int) 1,()))))) (some ((false,()),()))=some ((c&&accF l (i+1) m,()),()):=fun c=>by
   rw[azq (by omega),ih (i+1) (by omega)];cases c<;>rfl
  rw[tze,bzh h1,aza,azP h1,aza,dzb]
  show _=some ((accA l i&&accF l (i+1) m,()),())
  unfold accA
  by_cases c1:ssz (rd azg l (i:Int)).1=4
  ·rw[decide_eq_true c1,show (!true)=false from rfl,azc]
   by_cases c4:i=0
   ·rw[bzi (by omega),azc,decide_eq_true c4,VzY,fin];rfl
   ·rw[bzU (by omega),aza,az4 (by omega) (by omega),show inb ((i:Int)-1) (len l)=true by rw[azz];exact bz0 (by omega) (by omega),aza,Gzz,kzG,decide_eq_false c4]
    cases slt (rd azg l ((i:Int)-1)).1 (rd azg l (i:Int)).1
    ·rfl
    ·rw[aza,VzY,fin];rfl
  ·rw[decide_eq_false c1,show (!false)=true from rfl,aza];rfl
theorem Qzn (l:List azd) (hl:l.length≤1000000000) (hp: ∀a∈l,a.2.2.2.1.length≤1000000000): ∀ (m i:Nat),i+m=l.length→dzB (l,((i:Int),()))=some ((accF l i m&&decide (l.length≤12),()),()):=by
 intro m
 induction m with
 |zero=>
  intro i hi
  rw[szF,show (i:Int)=(l.length:Int) by omega,az7,azc,ez3,azz]
  show some ((decide ((l.length:Int)≤12),()),())=some ((true&&decide (l.length≤12),()),())
  rw[Bool.true_and,show decide ((l.length:Int)≤12)=decide (l.length≤12) by simp only[decide_eq_decide];omega]
 |succ m ih=>
  intro i hi
  have h1:i<l.length:=by omega
  have hs:(rd azg l (i:Int)).2.2.2.1.length≤1000000000:=by rw[bzs h1];exact hp _ (List.getElem_mem h1)
  have tail: ∀ (x:azd),x.2.2.2.1.length≤1000000000→Go.TV.bnd (bzX (x.2.1,(0,(1000,())))) (fun r2=>Go.TV.cnd (bnot r2.1.1) (some ((false,()),())) (Go.TV.bnd (bzX (x.2.2.1,(0,(1000000000,())))) (fun r3=>Go.TV.cnd (bnot r3.1.1) (some ((false,()),())) (Go.TV.bnd (fzZ (x.2.2.2.1,())) (fun r4=>Go.TV.cnd (bnot r4.1.1) (some ((false,()),())) (dzB (l,(iadd .i64 (i:Int) 1,()))))))))=
   some (((decide (0≤x.2.1∧x.2.1≤1000)&&(decide (0≤x.2.2.1∧x.2.2.1≤1000000000)&&pokV x.2.2.2.1))&&accF l (i+1) m&&decide (l.length≤12),()),()):=fun x hx=>by
   rw[azq (by omega),ih (i+1) (by omega),tzP,azb]
   simp only[]
   cases decide (0≤x.2.1∧x.2.1≤1000)
   ·rfl
   simp only[bnot,Bool.not_true,azc]
   rw[tzP,azb]
   simp only[]
   cases decide (0≤x.2.2.1∧x.2.2.1≤1000000000)
   ·rfl
   simp only[Bool.not_true,azc]
   rw[QzN _ hx,azb]
   simp only[]
   cases pokV x.2.2.2.1<;>rfl
  rw[szF,bzh h1,aza,azP h1,aza,dzb]
  show _=some (((accA l i&&accF l (i+1) m)&&decide (l.length≤12),()),())
  unfold accA
  by_cases c1:ssz (rd azg l (i:Int)).1=4
  ·rw[decide_eq_true c1,show (!true)=false from rfl,azc]
   by_cases c4:i=0
   ·rw[bzi (by omega),azc,decide_eq_true c4,tail _ hs];rfl
   ·rw[bzU (by omega),aza,az4 (by omega) (by omega),show inb ((i:Int)-1) (len l)=true by rw[azz];exact bz0 (by omega) (by omega),aza,Gzz,kzG,decide_eq_false c4]
    cases slt (rd azg l ((i:Int)-1)).1 (rd azg l (i:Int)).1
    ·rfl
    ·rw[aza,tail _ hs];rfl
  ·rw[decide_eq_false c1,show (!false)=true from rfl,aza];rfl
theorem Tzd (l:List azd):gzh (l,())=some ((accV l,()),()):=by
 rw[Fzm]
 unfold accV
 by_cases h:l.length≤12
 ·rw[bzi (by rw[azz];omega),azc,decide_eq_true h]
  exact SzT l (by omega) l.length 0 (by omega)
 ·rw[bzU (by rw[azz];omega),aza,decide_eq_false h];rfl
theorem TzG (l:List azd) (hl:l.length≤1000000000) (hp: ∀a∈l,a.2.2.2.1.length≤1000000000):gzG (l,())=some ((accV l,()),()):=by
 rw[Gzo]
 have:=Qzn l hl hp l.length 0 (by omega)
 rw[show ((0:Nat):Int)=0 from rfl] at this
 rw[this,accV,Bool.and_comm]
theorem BzZ (l:List azd): ∀ (m i:Nat),accF l i m=true→ ∀j,i≤j→j<i+m→accA l j=true
 |0,i,_,j,h1,h2=>by omega
 |m+1,i,h,j,h1,h2=>by
  have h':(accA l i&&accF l (i+1) m)=true:=h
  rw[Bool.and_eq_true] at h'
  by_cases hj:j=i
  ·subst hj;exact h'.1
  ·exact BzZ l m (i+1) h'.2 j (by omega) (by omega)
theorem Lzo {l:List azd} (h:accV l=true):l.length≤12∧ ∀a∈l,(0≤a.2.1∧a.2.1≤1000)∧(0≤a.2.2.1∧a.2.2.1≤1000000000):=by
 unfold accV at h
 rw[Bool.and_eq_true] at h
 refine ⟨of_decide_eq_true h.1,fun a ha=>?_⟩
 obtain ⟨j,hj,rfl⟩:=List.getElem_of_mem ha
 have h1:=BzZ l l.length 0 h.2 j (by omega) (by omega)
 unfold accA at h1
 simp only[Bool.and_eq_true,decide_eq_true_eq,bzs hj] at h1
 exact ⟨h1.2.2.1,h1.2.2.2.1⟩
def nzB (l:List azd):Prop:=l.length≤1000000000∧ ∀a∈l,a.2.2.2.1.length≤1000000000
theorem Ezg (c:azH):nzn (c,())=some ((decide (0≤c.1∧c.1≤99)&&accV c.2.1,()),()):=by
 rw[PzP,czK,ez3]
 by_cases h1:0≤c.1
 ·rw[decide_eq_true h1,aza]
  by_cases h2:c.1≤99
  ·rw[decide_eq_true h2,aza,Tzd,azb,decide_eq_true (⟨h1,h2⟩:0≤c.1∧c.1≤99)];rfl
  ·rw[decide_eq_false h2,azc,decide_eq_false (fun hh:0≤c.1∧c.1≤99=>h2 hh.2)];rfl
 ·rw[decide_eq_false h1,azc,decide_eq_false (fun hh:0≤c.1∧c.1≤99=>h1 hh.1)];rfl
theorem NzY (c:azH) (hs:nzB c.2.1):rzS (c,())=some ((decide (0≤c.1∧c.1≤99)&&accV c.2.1,()),()):=by
 rw[PzY,tzP,azb]
 simp only[]
 cases decide (0≤c.1∧c.1≤99)
 ·rfl
 ·rw[aza,TzG _ hs.1 hs.2,azb];rfl
theorem Hzr (a:azd) (h1:0≤a.2.1∧a.2.1≤1000) (h2:0≤a.2.2.1∧a.2.2.1≤1000000000) (hp:a.2.2.2.1.length≤1000000000): ∃t:ByteArray,ezO (a,())=some ((t,()),())∧ezV (a,())=some ((t,()),()):=by
 obtain ⟨n,hn⟩:=Int.eq_ofNat_of_zero_le h1.1
 obtain ⟨m,hm⟩:=Int.eq_ofNat_of_zero_le h2.1
 obtain ⟨t,_,t1,t2⟩:=Czp a.2.2.2.1 hp
 rw[szZ,sz3,hn,hm,wzW n (by omega),azb,wzW m (by omega),azb,t1,azb,t2,azb]
 simp only[]
 rw[fzn,azb,DzB,xzF n (by omega),azb]
 simp only[]
 rw[czd,azb,xzF m (by omega),azb]
 simp only[]
 rw[czd,azb,czd,azb]
 simp only[]
 rw[fzs,azb,azb]
 exact ⟨_,rfl,rfl⟩
theorem DzJ (l:List azd) (hs:nzB l): ∃r:List azl,r.length≤1000000000∧dz6 (l,())=some ((r,()),())∧fz7 (l,())=some ((r,()),()):=by
 rw[yzv,yzq,Tzd,TzG l hs.1 hs.2,azb,azb]
 simp only[]
 cases h:accV l with
 |false=>exact ⟨[],by simp,rfl,rfl⟩
 |true=>
  simp only[bnot,Bool.not_true,azc]
  obtain ⟨hl,ha⟩:=Lzo h
  have loop: ∀ (m i:Nat) (acc:List azl),i+m=l.length→acc.length≤i→ ∃r:List azl,r.length≤l.length∧gzu (acc,(l,(len l,((i:Int),()))))=some ((r,()),())∧gzW (l,(acc,((i:Int),())))=some ((r,()),()):=by
   intro m
   induction m with
   |zero=>
    intro i acc hi hacc
    refine ⟨acc,by omega,?_,?_⟩
    ·rw[jzG,show (i:Int)=(l.length:Int) by omega,az7,azc]
    ·rw[jzD,show (i:Int)=(l.length:Int) by omega,az7,azc]
   |succ m ih=>
    intro i acc hi hacc
    have h1:i<l.length:=by omega
    have hm:=List.getElem_mem h1
    obtain ⟨t,t1,t2⟩:=Hzr l[i] (ha _ hm).1 (ha _ hm).2 (hs.2 _ hm)
    obtain ⟨r,r0,r1,r2⟩:=ih (i+1) (acc++[(l[i].1,(t,()))]) (by omega) (by simp;omega)
    refine ⟨r,r0,?_,?_⟩
    ·rw[jzG,bzh h1,aza,azP h1,aza,bzs h1,t1,azb,azv (by decide) (by simp;omega),aza,azq (by omega)]
     exact r1
    ·rw[jzD,bzh h1,aza,azP h1,aza,aza,bzs h1,t2,azb,azv (by decide) (by simp;omega),aza,azq (by omega)]
     exact r2
  obtain ⟨r,r0,r1,r2⟩:=loop l.length 0 [] (by omega) (by simp)
  exact ⟨r,by omega,r1,r2⟩
theorem tzy (l:List azd) (hs:nzB l) (a b:azh) (ha:Fine azp a) (hb:Fine azp b) (h:azO): ∃r:List ByteArray,r.length=4∧(∀y∈r,y.size≤32)∧ezS (l,(a,(b,(h,()))))=some ((r,()),())∧ez4 (l,(a,(b,(h,()))))=some ((r,()),()):=by
 obtain ⟨s,s0,s1,s2⟩:=DzJ l hs
 obtain ⟨t,t0,t1,t2⟩:=Czp s s0
 rw[Dzb,Dzd,s1,s2,azb,azb]
 simp only[]
 rw[t1,t2,azb,azb,pzr a ha,pzv a ha,azb,azb,pzr b hb,pzv b hb,azb,azb,Bz8,uze,azb]
 refine ⟨[t,pz8 a,pz8 b,hz4 h],rfl,fun y hy=>?_,rfl,rfl⟩
 simp only[List.mem_cons,List.not_mem_nil,or_false] at hy
 rcases hy with rfl|rfl|rfl|rfl
 ·exact t0
 ·exact yzZ a
 ·exact yzZ b
 ·exact vzz h
theorem Szd (n:Int) (h0:0≤n) (h1:n≤10000):kzx (n,())=some ((n/8,()),()):=by
 rw[KzU,show nz 8=true from rfl,aza,show imax n 0=n by unfold imax;omega,nzM h0 (by omega) (by omega)]
theorem RzV (n:Int) (h0:0≤n) (h1:n≤10000):kzA (n,())=some ((n/8,()),()):=by
 rw[Lzm,az0 h0,azc,show nz 8=true from rfl,aza,nzM h0 (by omega) (by omega)]
theorem wzo (k:Nat) (h:k≤6):iadd .i64 (imul .i64 4 (k:Int)) 1=4*(k:Int)+1:=by rw[fzq (by omega) (by omega),azA (by omega) (by omega)]
structure ChOk (c:azH):Prop where
 fine:Fine bzY c
 nonce:FzI c.2.1
theorem ChOk.stores {c:azH} (h:ChOk c) (k:Int):nzB (c.2.1.map (bump k)):=by
 have:=FzN (k:=k) h.fine.2.1
 exact ⟨Nat.le_trans this.1 (by decide),fun a ha=>Nat.le_trans (this.2 a ha).2.2.2.1.1 (by decide)⟩
theorem ChOk.stores0 {c:azH} (h:ChOk c):nzB c.2.1:=⟨Nat.le_trans h.fine.2.1.1 (by decide),fun a ha=>Nat.le_trans (h.fine.2.1.2 a ha).2.2.2.1.1 (by decide)⟩
theorem vzx (c:azH) (hc:ChOk c) (k:Nat) (hk:k≤6) (h:azO): ∃r:List ByteArray,r.length=4∧(∀y∈r,y.size≤32)∧ozI (c,((k:Int),(h,())))=some ((r,()),())∧lzl (c,((k:Int),(h,())))=some ((r,()),()):=by
 have hB:(8:Nat)≤16777216:=by decide
 obtain ⟨r,r0,r1,r2,r3⟩:=tzy (c.2.1.map (bump (k:Int))) (hc.stores _) (cz0 (vzE c.1 ((4*(k:Int)+1)/8))) (cz0 (vzE c.1 (iadd .i64 ((4*(k:Int)+1)/8) 1))) (czx hB _) (czx hB _) h
 refine ⟨r,r0,r1,?_,?_⟩
 ·rw[Kzh,wzo k hk,Szd _ (by omega) (by omega),azb]
  simp only[]
  rw[pzk c k hc.fine hc.nonce (by omega),azb]
  simp only[]
  rw[ezx,azb,ezx,azb]
  simp only[]
  rw[r2,azb]
 ·rw[IzS,wzo k hk,RzV _ (by omega) (by omega),azb]
  simp only[]
  rw[pzc c k hc.fine hc.nonce (by omega) (by omega),azb]
  simp only[]
  rw[ezh,azb,ezh,azb]
  simp only[]
  rw[r3,azb]
def czf:azO:=(0,(azm (bs []),(azm (bs []),(azm (bs []),()))))
theorem Nzt:dz2 ()=some ((czf,()),()):=by rw[Jzn,czR _ (by decide),azb];rfl
theorem Fz6:nz2 ()=some ((czf,()),()):=by rw[Kz5,bzO _ (by decide),azb];rfl
theorem OzI:Fine czS czf:=by
 have:(azm (bs [])).size≤16777216:=by rw[azE];decide
 exact ⟨trivial,this,this,this,trivial⟩
theorem OzS (c:azH) (hc:ChOk c) (K:Nat) (hK:K≤6): ∀ (m i:Nat) (hs:List azO) (b:azO),i+m=K+1→hs.length=i→(∀h∈hs,Fine czS h)→Fine czS b→rd Hz4 (czf::hs) (i:Int)=b→
 ∃r:List azO,r.length=K+1∧(∀h∈r,Fine czS h)∧nzL (hs,(((K+1:Nat):Int),((i:Int),(c,(b,())))))=some ((r,()),())∧cza ((K:Int),(czf::hs,((i:Int),(c,()))))=some ((czf::r,()),()):=by
 intro m
 induction m with
 |zero=>
  intro i hs b hi hl hf hb hr
  refine ⟨hs,by omega,hf,?_,?_⟩
  ·rw[tzM,az0 (by omega),azc]
  ·rw[fzG,ez3,decide_eq_false (by omega),azc]
 |succ m ih=>
  intro i hs b hi hl hf hb hr
  obtain ⟨ls,l0,l1,l2,l3⟩:=vzx c hc i (by omega) b
  have hd:=Dz8 (i:Int) (by omega) (by omega)
  have hroot:=xzg ls
  have hls: ∀y∈ls,y.size≤268435456:=fun y hy=>Nat.le_trans (l1 y hy) (by decide)
  have key: ∀p:ByteArray,p.size≤32→ ∃r:List azO,r.length=K+1∧(∀h∈r,Fine czS h)∧
   ozV (hs,((i:Int),(((K+1:Nat):Int),((i:Int),(c,(b,((4*(i:Int)+1,(p,(bs [],(azm (nzh (i:Int)),())))),())))))))=some ((r,()),())∧
   izL ((K:Int),(czf::hs,((i:Int),(c,(b,((4*(i:Int)+1,(p,(bs [],(azm (nzh (i:Int)),())))),()))))))=some ((czf::r,()),()):=by
   intro p hp
   have hdg:(azm (nzh (i:Int))).size≤16777216:=by rw[azE];decide
   have hfn:Fine czS (4*(i:Int)+1,(p,(szu ls,(azm (nzh (i:Int)),())))):=⟨trivial,Nat.le_trans hp (by decide),Nat.le_trans hroot (by decide),hdg,trivial⟩
   obtain ⟨r,r0,rf,r1,r2⟩:=ih (i+1) (hs++[(4*(i:Int)+1,(p,(szu ls,(azm (nzh (i:Int)),()))))]) (4*(i:Int)+1,(p,(szu ls,(azm (nzh (i:Int)),())))) (by omega) (by simp;omega) (fun h hh=>by
    rcases List.mem_append.1 hh with hh|hh
    ·exact hf h hh
    ·rw[List.mem_singleton] at hh;subst hh;exact hfn) hfn (by
    have hx:i+1<(czf::(hs++[(4*(i:Int)+1,(p,(szu ls,(azm (nzh (i:Int)),()))))])).length:=by simp;omega
    rw[bzs hx]
    simp [hl.symm])
   refine ⟨r,r0,rf,?_,?_⟩
   ·rw[KzI,l2,azb]
    simp only[]
    rw[Czd ls hls (by omega),azb,azv (by decide) (by simp;omega),aza,azq (by omega)]
    exact r1
   ·rw[yzU,l3,azb]
    simp only[]
    rw[uzw ls hls (by omega),azb,azv (by decide) (by simp;omega),aza,azq (by omega)]
    exact r2
  have hin:inb (i:Int) (len (czf::hs))=true:=azP (by simp;omega)
  by_cases h0:i=0
  ·obtain ⟨r,r0,rf,r1,r2⟩:=key (azm (bs [])) (Nat.le_of_eq (azE _))
   refine ⟨r,r0,rf,?_,?_⟩
   ·rw[tzM,bzT (by omega),aza,czR _ (by decide),azb,Ezk _ (by omega) (by omega),azb]
    simp only[]
    rw[czR _ (by omega),azb,bzi (by omega),azc,wzo i (by omega)]
    exact r1
   ·rw[fzG,ez3,decide_eq_true (by omega),aza,hin,aza,bzO _ (by decide),azb,rzQ _ (by omega) (by omega),azb]
    simp only[]
    rw[bzO _ (by omega),azb,bzi (by omega),azc,wzo i (by omega),hr]
    exact r2
  ·obtain ⟨r,r0,rf,r1,r2⟩:=key (hz4 b) (vzz b)
   refine ⟨r,r0,rf,?_,?_⟩
   ·rw[tzM,bzT (by omega),aza,czR _ (by decide),azb,Ezk _ (by omega) (by omega),azb]
    simp only[]
    rw[czR _ (by omega),azb,bzU (by omega),aza,Bz8,azb,wzo i (by omega)]
    exact r1
   ·rw[fzG,ez3,decide_eq_true (by omega),aza,hin,aza,bzO _ (by decide),azb,rzQ _ (by omega) (by omega),azb]
    simp only[]
    rw[bzO _ (by omega),azb,bzU (by omega),aza,hr,uze,azb,wzo i (by omega)]
    exact r2
theorem Ezp (c:azH) (hc:ChOk c) (K:Nat) (hK:K≤6): ∃r:List azO,r.length=K+1∧(∀h∈r,Fine czS h)∧rzT (c,((K:Int),()))=some ((r,()),())∧hzk (c,((K:Int),()))=some ((czf::r,()),()):=by
 obtain ⟨r,r0,rf,r1,r2⟩:=OzS c hc K hK (K+1) 0 [] czf (by omega) rfl (fun h hh=>by cases hh) OzI rfl
 refine ⟨r,r0,rf,?_,?_⟩
 ·rw[Pz4,Nzt,azb,azq (by omega)]
  exact r1
 ·rw[tzV,Fz6,azb]
  exact r2
end Go.Proofs.YthldgfkkgmpmlaaGreatDoor
