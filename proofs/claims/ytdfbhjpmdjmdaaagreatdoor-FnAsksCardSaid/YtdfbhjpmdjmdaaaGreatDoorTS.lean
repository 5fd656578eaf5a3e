/- Branches of a tree of a state, what is asked of a chain. Of no condition. -/
import Derived.Test.YtdfbhjpmdjmdaaaGreatDoorTG
set_option linter.unusedVariables false
set_option linter.unusedSimpArgs false
set_option maxRecDepth 100000
namespace Go.Proofs.YtdfbhjpmdjmdaaaGreatDoor
open Go.TV
def izp (b c d:ByteArray):List ByteArray:=[azo b,azo (scat (azo c) (azo d))]
theorem yzk (a b c d:ByteArray):hashes [a,b,c,d]=[azo a,azo b,azo c,azo d]:=rfl
theorem Lz9 (a b c d:ByteArray):upV [a,b,c,d]=[azo (scat a b),azo (scat c d)]:=rfl
theorem PzI (a b:ByteArray):upV [a,b]=[azo (scat a b)]:=rfl
theorem CzI (a b c d:ByteArray) (h: ∀y∈[a,b,c,d],y.size≤268435456):jzI ([a,b,c,d],(0,()))=some ((izp b c d,()),()):=by
 rw[Fzo,show igt (len [a,b,c,d]) 32=false from rfl,azc,show ilt 0 0=false from rfl,azc,show ige 0 (len [a,b,c,d])=false from rfl,azc,Kz5 _ (by simp) h,azd]
 simp only[]
 unfold izp
 rw[show lev [a,b,c,d].length=2 from rfl,yzk,show levs 2 [azo a,azo b,azo c,azo d]=[upV [azo a,azo b,azo c,azo d],upV (upV [azo a,azo b,azo c,azo d])] from rfl,Lz9,PzI]
 generalize azo a=A
 generalize azo b=B
 generalize azo c=C
 generalize azo d=D
 generalize azo (scat A B)=E
 generalize azo (scat C D)=F
 generalize azo (scat E F)=G
 rw[show inb2 0 (isub .i64 (len [[A,B,C,D],[E,F],[G]]) 1) (len [[A,B,C,D],[E,F],[G]])=true from rfl,aza,show sub [[A,B,C,D],[E,F],[G]] 0 (isub .i64 (len [[A,B,C,D],[E,F],[G]]) 1)=[[A,B,C,D],[E,F]] from rfl]
 rw[ozS,show ilt 0 (len [[A,B,C,D],[E,F]])=true from rfl,aza,show inb 0 (len [[A,B,C,D],[E,F]])=true from rfl,aza,show rd ([]:List ByteArray) [[A,B,C,D],[E,F]] 0=[A,B,C,D] from rfl,show ixor .i64 0 1=1 from rfl,show inb 1 (len [A,B,C,D])=true from rfl,aza,show rd (bs []) [A,B,C,D] 1=B from rfl,azv (by decide) (by simp),aza,show nz 2=true from rfl,aza,show iquo .i64 0 2=0 from rfl,show iadd .i64 0 1=1 from rfl,show app ([]:List ByteArray) [B]=[B] from rfl]
 rw[ozS,show ilt 1 (len [[A,B,C,D],[E,F]])=true from rfl,aza,show inb 1 (len [[A,B,C,D],[E,F]])=true from rfl,aza,show rd ([]:List ByteArray) [[A,B,C,D],[E,F]] 1=[E,F] from rfl,show ixor .i64 0 1=1 from rfl,show inb 1 (len [E,F])=true from rfl,aza,show rd (bs []) [E,F] 1=F from rfl,azv (by decide) (by simp),aza,show nz 2=true from rfl,aza,show iquo .i64 0 2=0 from rfl,show iadd .i64 1 1=2 from rfl,show app [B] [F]=[B,F] from rfl]
 rw[ozS,show ilt 2 (len [[A,B,C,D],[E,F]])=false from rfl,azc]
theorem Lzk (a b c d:ByteArray) (h: ∀y∈[a,b,c,d],y.size≤268435456):kzj ([a,b,c,d],(0,()))=some ((izp b c d,()),()):=by
 have za:=azD a
 have zb:=azD b
 have zc:=azD c
 have zd:=azD d
 rw[FzT,show igt (len [a,b,c,d]) 32=false from rfl,azc,tzD,azd]
 simp only[]
 rw[show bnot (decide ((0:Int)≤0∧(0:Int)≤isub .i64 (len [a,b,c,d]) 1))=false from rfl,azc,Eze _ (by simp) h,azd]
 simp only[]
 rw[yzk]
 unfold izp
 generalize azo a=A at za⊢
 generalize azo b=B at zb⊢
 generalize azo c=C at zc⊢
 generalize azo d=D at zd⊢
 have hs: ∀y∈[A,B,C,D],y.size≤1048576:=fun y hy=>by
  simp only[List.mem_cons,List.not_mem_nil,or_false] at hy
  rcases hy with rfl|rfl|rfl|rfl<;>omega
 have zE:=azD (scat A B)
 have zF:=azD (scat C D)
 have e1:=Pz7 [A,B,C,D] 2 rfl (by simp) hs
 rw[Lz9] at e1
 generalize azo (scat A B)=E at zE e1
 generalize azo (scat C D)=F at zF e1⊢
 have hs2: ∀y∈[E,F],y.size≤1048576:=fun y hy=>by
  simp only[List.mem_cons,List.not_mem_nil,or_false] at hy
  rcases hy with rfl|rfl<;>omega
 have e2:=Pz7 [E,F] 1 rfl (by simp) hs2
 rw[PzI] at e2
 rw[ozq,show igt (len [A,B,C,D]) 1=true from rfl,aza,show ixor .i64 0 1=1 from rfl,show inb 1 (len [A,B,C,D])=true from rfl,aza,show rd (bs []) [A,B,C,D] 1=B from rfl,azv (by decide) (by simp),aza,e1,azd,show nz 2=true from rfl,aza,show iquo .i64 0 2=0 from rfl,show app ([]:List ByteArray) [B]=[B] from rfl]
 rw[ozq,show igt (len [E,F]) 1=true from rfl,aza,show ixor .i64 0 1=1 from rfl,show inb 1 (len [E,F])=true from rfl,aza,show rd (bs []) [E,F] 1=F from rfl,azv (by decide) (by simp),aza,e2,azd,show nz 2=true from rfl,aza,show iquo .i64 0 2=0 from rfl,show app [B] [F]=[B,F] from rfl]
 rw[ozq,show igt (len [azo (scat E F)]) 1=false from rfl,azc]
theorem Fz0 {r:List ByteArray} (h0:r.length=4) (h: ∀y∈r,y.size≤32): ∃t:List ByteArray,t.length=2∧(∀y∈t,y.size=32)∧jzI (r,(0,()))=some ((t,()),())∧kzj (r,(0,()))=some ((t,()),()):=by
 obtain ⟨a,b,c,d,rfl⟩: ∃a b c d,r=[a,b,c,d]:=by
  match r,h0 with
  | [a,b,c,d],_=>exact ⟨a,b,c,d,rfl⟩
 have h': ∀y∈[a,b,c,d],y.size≤268435456:=fun y hy=>Nat.le_trans (h y hy) (by decide)
 refine ⟨izp b c d,rfl,fun y hy=>?_,CzI a b c d h',Lzk a b c d h'⟩
 unfold izp at hy
 simp only[List.mem_cons,List.not_mem_nil,or_false] at hy
 rcases hy with rfl|rfl<;>exact azD _
def fzT (l:List azb) (k:ByteArray):List azh×Bool:=match l.find? (fun a=>decide (a.1=k)) with
 |some a=>(a.2.2.2.1,true)
 |none=>([],false)
theorem mzb (a:azb) (l:List azb) (k:ByteArray):fzT (a::l) k=if a.1=k then (a.2.2.2.1,true) else fzT l k:=by
 unfold fzT
 rw[List.find?_cons]
 by_cases h:a.1=k
 ·rw[decide_eq_true h,if_pos h]
 ·rw[decide_eq_false h,if_neg h]
theorem store_mem {l:List azb} {k:ByteArray} {s:List azh} (h:fzT l k=(s,true)): ∃a∈l,a.1=k∧a.2.2.2.1=s:=by
 induction l with
 |nil=>cases h
 |cons a l ih=>
  rw[mzb] at h
  by_cases hk:a.1=k
  ·rw[if_pos hk] at h
   exact ⟨a,by simp,hk,congrArg Prod.fst h⟩
  ·rw[if_neg hk] at h
   obtain ⟨b,hb,h2⟩:=ih h
   exact ⟨b,by simp [hb],h2⟩
theorem AzJ (l:List azb) (hl:l.length≤1000000000) (k:ByteArray): ∀ (m i:Nat),i+m=l.length→nzi (k,(l,(len l,((i:Int),()))))=some (((fzT (l.drop i) k).1,((fzT (l.drop i) k).2,())),()):=by
 intro m
 induction m with
 |zero=>
  intro i hi
  rw[yzo,show (i:Int)=(l.length:Int) by omega,bzb,azc,List.drop_eq_nil_of_le (by omega)]
  rfl
 |succ m ih=>
  intro i hi
  have h1:i<l.length:=by omega
  rw[yzo,bzp h1,aza,az0 h1,aza,bzA h1,nzV,List.drop_eq_getElem_cons h1,mzb]
  by_cases h:l[i].1=k
  ·rw[decide_eq_true h,aza,if_pos h]
  ·rw[decide_eq_false h,azc,if_neg h,azq (by omega),ih (i+1) (by omega)]
theorem zze (l:List azb) (hl:l.length≤1000000000) (k:ByteArray):pzm (l,(k,()))=some (((fzT l k).1,((fzT l k).2,())),()):=by
 rw[Izu]
 exact AzJ l hl k l.length 0 (by omega)
noncomputable def gze (l:List azb) (k s:ByteArray):List ByteArray:=if (fzT l k).2=true then az1 (fzT l k).1 s else []
theorem Kz4 (l:List azb) (hs:hzX l) (k s:ByteArray) (z:tAsk) (A B C:ByteArray) (D E:List ByteArray): ∀ (m i:Nat),i+m=l.length→nzp (l,(k,(s,((i:Int),(z,((A,(B,(C,(D,(E,(([]:List ByteArray),())))))),()))))))=some (((A,(B,(C,(D,(E,(gze (l.drop i) k s,())))))),()),()):=by
 intro m
 induction m with
 |zero=>
  intro i hi
  rw[xzm,show (i:Int)=(l.length:Int) by omega,bzb,azc,List.drop_eq_nil_of_le (by omega)]
  rfl
 |succ m ih=>
  intro i hi
  have h1:i<l.length:=by omega
  have hl:=hs.1
  rw[xzm,bzp h1,aza,az0 h1,aza,bzA h1,nzV,List.drop_eq_getElem_cons h1]
  unfold gze
  rw[mzb]
  by_cases h:l[i].1=k
  ·rw[decide_eq_true h,aza,aza,Dzc _ _ (hs.2 _ (List.getElem_mem h1)),azd,if_pos h,if_pos rfl]
  ·rw[decide_eq_false h,azc,if_neg h,azq (by omega)]
   exact ih (i+1) (by omega)
theorem GzM (l:List azb) (hs:hzX l) (a b:azl) (ha:Fine azr a) (hb:Fine azr b) (h:czD) (k s:ByteArray) (hk:k.size≤16777216) (hss:s.size≤16777216):
 ∃r:tAsk,Fine TAsk r∧jzp (l,(a,(b,(h,(k,(s,()))))))=some ((r,()),())∧lz5 (l,(a,(b,(h,(k,(s,()))))))=some ((r,()),()):=by
 obtain ⟨t,t0,t1,t2⟩:=AzB l hs
 obtain ⟨ro,r0,r1,r2⟩:=xzv t t0
 obtain ⟨lv,v0,v1,v2,v3⟩:=rzy l hs a b ha hb h
 obtain ⟨br,b0,b1,b2,b3⟩:=Fz0 v0 v1
 have sizes: ∀ (l:List azh) (k:ByteArray),Fine (.sl .str) (az1 l k):=fun l k=>⟨by have:=mzS l k;show (az1 l k).length≤16777216;omega,fun y hy=>by have:=AzP l k y hy;show y.size≤16777216;omega⟩
 refine ⟨(k,(s,(ro,(br,(az1 t k,(gze l k s,())))))),⟨hk,hss,Nat.le_trans r0 (by decide),⟨by show br.length≤16777216;omega,fun y hy=>by have:=b1 y hy;show y.size≤16777216;omega⟩,sizes _ _,?_,trivial⟩,?_,?_⟩
 ·unfold gze
  split
  ·exact sizes _ _
  ·exact ⟨Nat.zero_le _,fun y hy=>by cases hy⟩
 ·rw[zza,t1,azd]
  simp only[]
  rw[r1,azd,v2,azd]
  simp only[]
  rw[b2,azd,azd]
  simp only[]
  rw[rzD,azd,zze l hs.1,azd]
  simp only[]
  unfold gze
  cases he:(fzT l k).2 with
  |true=>rw[aza,rzD,azd,if_pos rfl]
  |false=>rw[azc,if_neg (by decide)]
 ·rw[Iz8,t2,azd]
  simp only[]
  rw[r2,azd,v3,azd]
  simp only[]
  rw[b3,azd]
  simp only[]
  rw[Dzc _ _ t0,azd]
  have:=Kz4 l hs k s zAsk k s ro br (az1 t k) l.length 0 (by omega)
  rw[show ((0:Nat):Int)=0 from rfl,List.drop_zero] at this
  exact this
end Go.Proofs.YtdfbhjpmdjmdaaaGreatDoor
