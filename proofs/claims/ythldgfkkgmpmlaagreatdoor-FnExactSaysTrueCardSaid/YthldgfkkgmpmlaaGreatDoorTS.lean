/- Branches of a tree of a state, what is asked of a chain. Of no condition. -/
import Derived.Test.YthldgfkkgmpmlaaGreatDoorTQ
set_option linter.unusedVariables false
set_option linter.unusedSimpArgs false
set_option maxRecDepth 100000
namespace Go.Proofs.YthldgfkkgmpmlaaGreatDoor
open Go.TV
def wzC (b c d:ByteArray):List ByteArray:=[azm b,azm (scat (azm c) (azm d))]
theorem Azo (a b c d:ByteArray):hashes [a,b,c,d]=[azm a,azm b,azm c,azm d]:=rfl
theorem Qzi (a b c d:ByteArray):upV [a,b,c,d]=[azm (scat a b),azm (scat c d)]:=rfl
theorem VzZ (a b:ByteArray):upV [a,b]=[azm (scat a b)]:=rfl
theorem Szp (a b c d:ByteArray) (h: ∀y∈[a,b,c,d],y.size≤268435456):kzF ([a,b,c,d],(0,()))=some ((wzC b c d,()),()):=by
 rw[Lzy,show igt (len [a,b,c,d]) 32=false from rfl,azc,show ilt 0 0=false from rfl,azc,show ige 0 (len [a,b,c,d])=false from rfl,azc,Sz1 _ (by simp) h,azb]
 simp only[]
 unfold wzC
 rw[show lev [a,b,c,d].length=2 from rfl,Azo,show levs 2 [azm a,azm b,azm c,azm d]=[upV [azm a,azm b,azm c,azm d],upV (upV [azm a,azm b,azm c,azm d])] from rfl,Qzi,VzZ]
 generalize azm a=A
 generalize azm b=B
 generalize azm c=C
 generalize azm d=D
 generalize azm (scat A B)=E
 generalize azm (scat C D)=F
 generalize azm (scat E F)=G
 rw[show inb2 0 (isub .i64 (len [[A,B,C,D],[E,F],[G]]) 1) (len [[A,B,C,D],[E,F],[G]])=true from rfl,aza,show sub [[A,B,C,D],[E,F],[G]] 0 (isub .i64 (len [[A,B,C,D],[E,F],[G]]) 1)=[[A,B,C,D],[E,F]] from rfl]
 rw[qza,show ilt 0 (len [[A,B,C,D],[E,F]])=true from rfl,aza,show inb 0 (len [[A,B,C,D],[E,F]])=true from rfl,aza,show rd ([]:List ByteArray) [[A,B,C,D],[E,F]] 0=[A,B,C,D] from rfl,show ixor .i64 0 1=1 from rfl,show inb 1 (len [A,B,C,D])=true from rfl,aza,show rd (bs []) [A,B,C,D] 1=B from rfl,azv (by decide) (by simp),aza,show nz 2=true from rfl,aza,show iquo .i64 0 2=0 from rfl,show iadd .i64 0 1=1 from rfl,show app ([]:List ByteArray) [B]=[B] from rfl]
 rw[qza,show ilt 1 (len [[A,B,C,D],[E,F]])=true from rfl,aza,show inb 1 (len [[A,B,C,D],[E,F]])=true from rfl,aza,show rd ([]:List ByteArray) [[A,B,C,D],[E,F]] 1=[E,F] from rfl,show ixor .i64 0 1=1 from rfl,show inb 1 (len [E,F])=true from rfl,aza,show rd (bs []) [E,F] 1=F from rfl,azv (by decide) (by simp),aza,show nz 2=true from rfl,aza,show iquo .i64 0 2=0 from rfl,show iadd .i64 1 1=2 from rfl,show app [B] [F]=[B,F] from rfl]
 rw[qza,show ilt 2 (len [[A,B,C,D],[E,F]])=false from rfl,azc]
theorem TzD (a b c d:ByteArray) (h: ∀y∈[a,b,c,d],y.size≤268435456):kzZ ([a,b,c,d],(0,()))=some ((wzC b c d,()),()):=by
 have za:=azE a
 have zb:=azE b
 have zc:=azE c
 have zd:=azE d
 rw[Lz7,show igt (len [a,b,c,d]) 32=false from rfl,azc,tzP,azb]
 simp only[]
 rw[show bnot (decide ((0:Int)≤0∧(0:Int)≤isub .i64 (len [a,b,c,d]) 1))=false from rfl,azc,Hz8 _ (by simp) h,azb]
 simp only[]
 rw[Azo]
 unfold wzC
 generalize azm a=A at za⊢
 generalize azm b=B at zb⊢
 generalize azm c=C at zc⊢
 generalize azm d=D at zd⊢
 have hs: ∀y∈[A,B,C,D],y.size≤1048576:=fun y hy=>by
  simp only[List.mem_cons,List.not_mem_nil,or_false] at hy
  rcases hy with rfl|rfl|rfl|rfl<;>omega
 have zE:=azE (scat A B)
 have zF:=azE (scat C D)
 have e1:=Wzx [A,B,C,D] 2 rfl (by simp) hs
 rw[Qzi] at e1
 generalize azm (scat A B)=E at zE e1
 generalize azm (scat C D)=F at zF e1⊢
 have hs2: ∀y∈[E,F],y.size≤1048576:=fun y hy=>by
  simp only[List.mem_cons,List.not_mem_nil,or_false] at hy
  rcases hy with rfl|rfl<;>omega
 have e2:=Wzx [E,F] 1 rfl (by simp) hs2
 rw[VzZ] at e2
 rw[qzd,show igt (len [A,B,C,D]) 1=true from rfl,aza,show ixor .i64 0 1=1 from rfl,show inb 1 (len [A,B,C,D])=true from rfl,aza,show rd (bs []) [A,B,C,D] 1=B from rfl,azv (by decide) (by simp),aza,e1,azb,show nz 2=true from rfl,aza,show iquo .i64 0 2=0 from rfl,show app ([]:List ByteArray) [B]=[B] from rfl]
 rw[qzd,show igt (len [E,F]) 1=true from rfl,aza,show ixor .i64 0 1=1 from rfl,show inb 1 (len [E,F])=true from rfl,aza,show rd (bs []) [E,F] 1=F from rfl,azv (by decide) (by simp),aza,e2,azb,show nz 2=true from rfl,aza,show iquo .i64 0 2=0 from rfl,show app [B] [F]=[B,F] from rfl]
 rw[qzd,show igt (len [azm (scat E F)]) 1=false from rfl,azc]
theorem AzD {r:List ByteArray} (h0:r.length=4) (h: ∀y∈r,y.size≤32): ∃t:List ByteArray,t.length=2∧(∀y∈t,y.size=32)∧kzF (r,(0,()))=some ((t,()),())∧kzZ (r,(0,()))=some ((t,()),()):=by
 obtain ⟨a,b,c,d,rfl⟩: ∃a b c d,r=[a,b,c,d]:=by
  match r,h0 with
  | [a,b,c,d],_=>exact ⟨a,b,c,d,rfl⟩
 have h': ∀y∈[a,b,c,d],y.size≤268435456:=fun y hy=>Nat.le_trans (h y hy) (by decide)
 refine ⟨wzC b c d,rfl,fun y hy=>?_,Szp a b c d h',TzD a b c d h'⟩
 unfold wzC at hy
 simp only[List.mem_cons,List.not_mem_nil,or_false] at hy
 rcases hy with rfl|rfl<;>exact azE _
def gzs (l:List azd) (k:ByteArray):List azl×Bool:=match l.find? (fun a=>decide (a.1=k)) with
 |some a=>(a.2.2.2.1,true)
 |none=>([],false)
theorem rzf (a:azd) (l:List azd) (k:ByteArray):gzs (a::l) k=if a.1=k then (a.2.2.2.1,true) else gzs l k:=by
 unfold gzs
 rw[List.find?_cons]
 by_cases h:a.1=k
 ·rw[decide_eq_true h,if_pos h]
 ·rw[decide_eq_false h,if_neg h]
theorem SzV {l:List azd} {k:ByteArray} {s:List azl} (h:gzs l k=(s,true)): ∃a∈l,a.1=k∧a.2.2.2.1=s:=by
 induction l with
 |nil=>cases h
 |cons a l ih=>
  rw[rzf] at h
  by_cases hk:a.1=k
  ·rw[if_pos hk] at h
   exact ⟨a,by simp,hk,congrArg Prod.fst h⟩
  ·rw[if_neg hk] at h
   obtain ⟨b,hb,h2⟩:=ih h
   exact ⟨b,by simp [hb],h2⟩
theorem GzO (l:List azd) (hl:l.length≤1000000000) (k:ByteArray): ∀ (m i:Nat),i+m=l.length→ozE (k,(l,(len l,((i:Int),()))))=some (((gzs (l.drop i) k).1,((gzs (l.drop i) k).2,())),()):=by
 intro m
 induction m with
 |zero=>
  intro i hi
  rw[Azn,show (i:Int)=(l.length:Int) by omega,az7,azc,List.drop_eq_nil_of_le (by omega)]
  rfl
 |succ m ih=>
  intro i hi
  have h1:i<l.length:=by omega
  rw[Azn,bzh h1,aza,azP h1,aza,bzs h1,xzQ,List.drop_eq_getElem_cons h1,rzf]
  by_cases h:l[i].1=k
  ·rw[decide_eq_true h,aza,if_pos h]
  ·rw[decide_eq_false h,azc,if_neg h,azq (by omega),ih (i+1) (by omega)]
theorem wz7 (l:List azd) (hl:l.length≤1000000000) (k:ByteArray):jz5 (l,(k,()))=some (((gzs l k).1,((gzs l k).2,())),()):=by
 rw[PzB]
 exact GzO l hl k l.length 0 (by omega)
noncomputable def yzP (l:List azd) (k s:ByteArray):List ByteArray:=if (gzs l k).2=true then czk (gzs l k).1 s else []
theorem TzC (l:List azd) (hs:nzB l) (k s:ByteArray) (z:tAsk) (A B C:ByteArray) (D E:List ByteArray): ∀ (m i:Nat),i+m=l.length→ozU (l,(k,(s,((i:Int),(z,((A,(B,(C,(D,(E,(([]:List ByteArray),())))))),()))))))=some (((A,(B,(C,(D,(E,(yzP (l.drop i) k s,())))))),()),()):=by
 intro m
 induction m with
 |zero=>
  intro i hi
  rw[zzZ,show (i:Int)=(l.length:Int) by omega,az7,azc,List.drop_eq_nil_of_le (by omega)]
  rfl
 |succ m ih=>
  intro i hi
  have h1:i<l.length:=by omega
  have hl:=hs.1
  rw[zzZ,bzh h1,aza,azP h1,aza,bzs h1,xzQ,List.drop_eq_getElem_cons h1]
  unfold yzP
  rw[rzf]
  by_cases h:l[i].1=k
  ·rw[decide_eq_true h,aza,aza,Iz6 _ _ (hs.2 _ (List.getElem_mem h1)),azb,if_pos h,if_pos rfl]
  ·rw[decide_eq_false h,azc,if_neg h,azq (by omega)]
   exact ih (i+1) (by omega)
theorem TzR (l:List azd) (hs:nzB l) (a b:azh) (ha:Fine azp a) (hb:Fine azp b) (h:azO) (k s:ByteArray) (hk:k.size≤16777216) (hss:s.size≤16777216):
 ∃r:tAsk,Fine TAsk r∧jz0 (l,(a,(b,(h,(k,(s,()))))))=some ((r,()),())∧rzh (l,(a,(b,(h,(k,(s,()))))))=some ((r,()),()):=by
 obtain ⟨t,t0,t1,t2⟩:=DzJ l hs
 obtain ⟨ro,r0,r1,r2⟩:=Czp t t0
 obtain ⟨lv,v0,v1,v2,v3⟩:=tzy l hs a b ha hb h
 obtain ⟨br,b0,b1,b2,b3⟩:=AzD v0 v1
 have sizes: ∀ (l:List azl) (k:ByteArray),Fine (.sl .str) (czk l k):=fun l k=>⟨by have:=Mzu l k;show (czk l k).length≤16777216;omega,fun y hy=>by have:=GzI l k y hy;show y.size≤16777216;omega⟩
 refine ⟨(k,(s,(ro,(br,(czk t k,(yzP l k s,())))))),⟨hk,hss,Nat.le_trans r0 (by decide),⟨by show br.length≤16777216;omega,fun y hy=>by have:=b1 y hy;show y.size≤16777216;omega⟩,sizes _ _,?_,trivial⟩,?_,?_⟩
 ·unfold yzP
  split
  ·exact sizes _ _
  ·exact ⟨Nat.zero_le _,fun y hy=>by cases hy⟩
 ·rw[EzJ,t1,azb]
  simp only[]
  rw[r1,azb,v2,azb]
  simp only[]
  rw[b2,azb,azb]
  simp only[]
  rw[vzm,azb,wz7 l hs.1,azb]
  simp only[]
  unfold yzP
  cases he:(gzs l k).2 with
  |true=>rw[aza,vzm,azb,if_pos rfl]
  |false=>rw[azc,if_neg (by decide)]
 ·rw[Pza,t2,azb]
  simp only[]
  rw[r2,azb,v3,azb]
  simp only[]
  rw[b3,azb]
  simp only[]
  rw[Iz6 _ _ t0,azb]
  have:=TzC l hs k s zAsk k s ro br (czk t k) l.length 0 (by omega)
  rw[show ((0:Nat):Int)=0 from rfl,List.drop_zero] at this
  exact this
theorem EzX (c:azH) (hc:ChOk c) (i:Nat) (hi6:i≤6) (hs:List azO) (hl:hs.length=i): ∃x:azO,∀K:Nat,i≤K→K≤6→cza ((K:Int),(czf::hs,((i:Int),(c,()))))=cza ((K:Int),(czf::(hs++[x]),(((i+1:Nat):Int),(c,())))):=by
 have hd:=Dz8 (i:Int) (by omega) (by omega)
 have hin:inb (i:Int) (len (czf::hs))=true:=azP (by simp;omega)
 generalize hr:rd Hz4 (czf::hs) (i:Int)=b
 obtain ⟨ls,l0,l1,l2,l3⟩:=vzx c hc i (by omega) b
 have hls: ∀y∈ls,y.size≤268435456:=fun y hy=>Nat.le_trans (l1 y hy) (by decide)
 have key: ∀ (p:ByteArray) (K:Nat),izL ((K:Int),(czf::hs,((i:Int),(c,(b,((4*(i:Int)+1,(p,(bs [],(azm (nzh (i:Int)),())))),()))))))=cza ((K:Int),(czf::(hs++[(4*(i:Int)+1,(p,(szu ls,(azm (nzh (i:Int)),()))))]),(((i+1:Nat):Int),(c,())))):=by
  intro p K
  rw[yzU,l3,azb]
  simp only[]
  rw[uzw ls hls (by omega),azb,azv (by decide) (by simp;omega),aza,azq (by omega)]
  rfl
 by_cases h0:i=0
 ·refine ⟨(4*(i:Int)+1,(azm (bs []),(szu ls,(azm (nzh (i:Int)),())))),fun K h1 h2=>?_⟩
  rw[fzG,ez3,decide_eq_true (by omega),aza,hin,aza,bzO _ (by decide),azb,rzQ _ (by omega) (by omega),azb]
  simp only[]
  rw[bzO _ (by omega),azb,bzi (by omega),azc,wzo i (by omega),hr]
  exact key (azm (bs [])) K
 ·refine ⟨(4*(i:Int)+1,(hz4 b,(szu ls,(azm (nzh (i:Int)),())))),fun K h1 h2=>?_⟩
  rw[fzG,ez3,decide_eq_true (by omega),aza,hin,aza,bzO _ (by decide),azb,rzQ _ (by omega) (by omega),azb]
  simp only[]
  rw[bzO _ (by omega),azb,bzU (by omega),aza,hr,uze,azb,wzo i (by omega)]
  exact key (hz4 b) K
theorem Sz4 (c:azH) (hc:ChOk c): ∀m:Nat,m≤7→ ∃R:List azO,R.length=m∧ ∀K:Nat,m≤K+1→K≤6→cza ((K:Int),([czf],((0:Int),(c,()))))=cza ((K:Int),(czf::R,((m:Int),(c,())))):=by
 intro m
 induction m with
 |zero=>intro _;exact ⟨[],rfl,fun K _ _=>rfl⟩
 |succ m ih=>
  intro hm
  obtain ⟨R,hR,h⟩:=ih (by omega)
  obtain ⟨x,hx⟩:=EzX c hc m (by omega) R hR
  exact ⟨R++[x],by simp [hR],fun K h1 h2=>(h K (by omega) h2).trans (hx K (by omega) h2)⟩
theorem Hzg (c:azH) (K:Nat) (R:List azO):cza ((K:Int),(czf::R,(((K+1:Nat):Int),(c,()))))=some ((czf::R,()),()):=by
 rw[fzG,ez3,decide_eq_false (by omega),azc]
theorem QzI (c:azH) (hc:ChOk c) (J:Nat) (hJ:J+1≤6): ∃ (R:List azO) (x:azO),R.length=J+1∧hzk (c,((J:Int),()))=some ((czf::R,()),())∧hzk (c,(((J+1:Nat):Int),()))=some ((czf::(R++[x]),()),()):=by
 obtain ⟨R,hR,h⟩:=Sz4 c hc (J+1) (by omega)
 obtain ⟨x,hx⟩:=EzX c hc (J+1) (by omega) R hR
 refine ⟨R,x,hR,?_,?_⟩
 ·rw[tzV,Fz6,azb]
  exact (h J (by omega) (by omega)).trans (Hzg c J R)
 ·rw[tzV,Fz6,azb]
  exact ((h (J+1) (by omega) (by omega)).trans (hx (J+1) (by omega) (by omega))).trans (Hzg c (J+1) (R++[x]))
theorem AzM:Fine TAsk zAsk:=⟨Nat.zero_le _,Nat.zero_le _,Nat.zero_le _,⟨Nat.zero_le _,fun x hx=>by cases hx⟩,⟨Nat.zero_le _,fun x hx=>by cases hx⟩,⟨Nat.zero_le _,fun x hx=>by cases hx⟩,trivial⟩
theorem VzS (k:Int):pzH (k,())=some ((decide (0≤k∧k≤6),()),()):=by
 rw[Szi,czK,ez3]
 by_cases h1:0≤k
 ·rw[decide_eq_true h1,aza];simp [h1]
 ·rw[decide_eq_false h1,azc];simp [h1]
theorem GzK (c:azH) (hc:ChOk c) (k:Int) (n s:ByteArray) (hn:n.size≤16777216) (hss:s.size≤16777216):
 ∃r:tAsk,Fine TAsk r∧nzR (c,(k,(n,(s,()))))=some ((r,()),())∧ozm (c,(k,(n,(s,()))))=some ((r,()),())∧
  (r=zAsk∨(accV c.2.1=true∧ ∃ (l:List azd) (a b:azh) (h:azO),nzB l∧Fine azp a∧Fine azp b∧jz0 (l,(a,(b,(h,(n,(s,()))))))=some ((r,()),()))):=by
 have hB:(8:Nat)≤16777216:=by decide
 rw[Mzr,Lz9,NzY c hc.stores0,azb,VzS,azb]
 simp only[]
 by_cases h1:0≤k∧k≤6
 ·rw[decide_eq_true h1,show bnot true=false from rfl,azc,Ezg,azb]
  simp only[]
  cases hco:decide (0≤c.1∧c.1≤99)&&accV c.2.1 with
  |false=>simp only[bnot,Bool.not_false,aza];exact ⟨zAsk,AzM,rfl,rfl, .inl rfl⟩
  |true=>
   simp only[bnot,Bool.not_true,azc]
   obtain ⟨K,rfl⟩:=Int.eq_ofNat_of_zero_le h1.1
   obtain ⟨r,r0,rf,r1,r2⟩:=Ezp c hc K (by omega)
   have hin:inb (K:Int) (len (czf::r))=true:=azP (by simp;omega)
   have hx: ∃h:azO,rd Hz4 (czf::r) (K:Int)=h∧(∀z,Go.TV.cnd (igt (K:Int) 0) (Go.TV.bnd (lzU (c,(isub .i64 (K:Int) 1,()))) (fun r7=>(fzS ((K:Int),(n,(s,(c,(z,(r7.1.1,()))))))))) (fzS ((K:Int),(n,(s,(c,(z,(czf,())))))))=fzS ((K:Int),(n,(s,(c,(z,(h,()))))))):=by
    by_cases h0:K=0
    ·subst h0
     exact ⟨czf,rfl,fun z=>by rw[bzi (by omega),azc]⟩
    ·obtain ⟨J,rfl⟩: ∃J,K=J+1:=⟨K-1,by omega⟩
     obtain ⟨R,x,hR,q1,q2⟩:=QzI c hc J (by omega)
     obtain ⟨R',_,_,p1,p2⟩:=Ezp c hc J (by omega)
     have out: ∀ {a b:List azO},(some ((czf::a,()),()):Option ((List azO×Unit)×Unit))=some ((czf::b,()),())→a=b:=fun h=>by simpa using h
     obtain rfl:R'=R:=out (p2.symm.trans q1)
     obtain rfl:r=R'++[x]:=out (r2.symm.trans q2)
     have hJ:J<R'.length:=by omega
     have hz:J+1<(czf::(R'++[x])).length:=by simp;omega
     refine ⟨R'[J],?_,fun z=>?_⟩
     ·rw[bzs hz]
      simp only[List.getElem_cons_succ]
      rw[List.getElem_append_left hJ]
     ·rw[bzU (by omega),aza,az4 (by omega) (by omega),show ((J+1:Nat):Int)-1=(J:Int) by omega,Hzk,VzS,azb]
      simp only[]
      rw[decide_eq_true (⟨by omega,by omega⟩:(0:Int)≤(J:Int)∧(J:Int)≤6),show bnot true=false from rfl,azc,Ezg,azb,hco]
      simp only[]
      rw[show bnot true=false from rfl,azc,p1,azb,azP hJ,aza,bzs hJ,azb]
   obtain ⟨h,hh,hD⟩:=hx
   rw[Nzt,azb]
   simp only[]
   rw[hD,Izt,wzo K (by omega),Szd _ (by omega) (by omega),azb]
   simp only[]
   rw[ezx,azb,ezx,azb,pzk c K hc.fine hc.nonce (by omega),azb]
   simp only[]
   rw[tzP,azb]
   simp only[]
   rw[decide_eq_true h1,Bool.not_true,azc,RzV _ (by omega) (by omega),azb]
   simp only[]
   rw[pzc c K hc.fine hc.nonce (by omega) (by omega),azb,ezh,azb,ezh,azb,r2,azb]
   simp only[]
   rw[hin,aza,hh]
   obtain ⟨a,a0,a1,a2⟩:=TzR (c.2.1.map (bump (K:Int))) (hc.stores _) (cz0 (vzE c.1 ((4*(K:Int)+1)/8))) (cz0 (vzE c.1 (iadd .i64 ((4*(K:Int)+1)/8) 1))) (czx hB _) (czx hB _) h n s hn hss
   exact ⟨a,a0,by rw[a1,azb],by rw[a2,azb], .inr ⟨by rw[Bool.and_eq_true] at hco;exact hco.2,_,_,_,h,hc.stores _,czx hB _,czx hB _,a1⟩⟩
 ·rw[decide_eq_false h1,show bnot false=true from rfl,aza]
  cases decide (0≤c.1∧c.1≤99)&&accV c.2.1 with
  |false=>simp only[bnot,Bool.not_false,aza];exact ⟨zAsk,AzM,rfl,rfl, .inl rfl⟩
  |true=>
   simp only[bnot,Bool.not_true,azc]
   rw[tzP,azb]
   simp only[]
   rw[decide_eq_false h1,Bool.not_false,aza]
   exact ⟨zAsk,AzM,rfl,rfl, .inl rfl⟩
end Go.Proofs.YthldgfkkgmpmlaaGreatDoor
