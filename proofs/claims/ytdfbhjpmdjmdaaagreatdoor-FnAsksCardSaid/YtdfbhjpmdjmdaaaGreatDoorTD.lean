/- Halves of bytes. Of no condition. -/
import Derived.Test.YtdfbhjpmdjmdaaaGreatDoorTC
set_option linter.unusedVariables false
set_option linter.unusedSimpArgs false
set_option maxRecDepth 100000
namespace Go.Proofs.YtdfbhjpmdjmdaaaGreatDoor
open Go.TV
def nibF (t:ByteArray):Nat→Nat→List Int
 |_,0=>[]
 |i,m+1=>sat t (i:Int)/16::sat t (i:Int) % 16::nibF t (i+1) m
def nibV (t:ByteArray):List Int:=nibF t 0 t.size
theorem GzP (t:ByteArray): ∀m i,(nibF t i m).length=2*m
 |0,i=>rfl
 |m+1,i=>by simp only[nibF,List.length_cons,GzP t m (i+1)];omega
theorem czN (t:ByteArray):(nibV t).length=2*t.size:=GzP t _ _
theorem KzZ (t:ByteArray): ∀m i,∀x∈nibF t i m,0≤x∧x≤15
 |0,i,x,h=>by cases h
 |m+1,i,x,h=>by
  have hb:=fzS t (i:Int)
  simp only[nibF,List.mem_cons] at h
  rcases h with rfl|rfl|h
  ·omega
  ·omega
  ·exact KzZ t m (i+1) x h
theorem dz0 (t:ByteArray): ∀x∈nibV t,0≤x∧x≤15:=KzZ t _ _
theorem GzZ (s t:ByteArray): ∀m i,nibF s i m=nibF t i m→ ∀j,i≤j→j<i+m→sat s (j:Int)=sat t (j:Int)
 |0,i,_,j,h1,h2=>by omega
 |m+1,i,h,j,h1,h2=>by
  simp only[nibF,List.cons.injEq] at h
  by_cases hj:j=i
  ·subst hj
   have:=fzS s (j:Int)
   omega
  ·exact GzZ s t m (i+1) h.2.2 j (by omega) (by omega)
theorem QzF {s t:ByteArray} (hz:s.size=t.size) (h: ∀j:Nat,j<s.size→sat s (j:Int)=sat t (j:Int)):s=t:=by
 apply ByteArray.ext
 apply Array.ext hz
 intro i h1 h2
 have:=h i h1
 rw[uz4 s i h1,uz4 t i h2] at this
 simp only[Array.getElem_toList] at this
 exact UInt8.toNat_inj.1 (by omega)
theorem HzG {s t:ByteArray} (h:nibV s=nibV t):s=t:=by
 have hz:s.size=t.size:=by
  have:=congrArg List.length h
  rw[czN,czN] at this
  omega
 refine QzF hz fun j hj=>?_
 unfold nibV at h
 rw[←hz] at h
 exact GzZ s t s.size 0 h j (by omega) (by omega)
theorem Lzn (t:ByteArray) (ht:t.size≤1000000): ∀ (m i:Nat) (acc:List Int),i+m=t.size→acc.length≤2*i→fz3 (t,(acc,((i:Int),())))=some ((acc++nibF t i m,()),()):=by
 intro m
 induction m with
 |zero=>intro i acc h h2;rw[tzh,show (i:Int)=(t.size:Int) by omega,Jz7,azc];simp [nibF]
 |succ m ih=>
  intro i acc h h2
  have hi:i<t.size:=by omega
  have hb:=fzS t (i:Int)
  obtain ⟨b1,b2,b3⟩:=hzB hb.1 hb.2
  rw[tzh,(HzX hi).1,aza,(HzX hi).2,aza,show nn 4=true from rfl,aza,aza,b2,b3,(hzB (b:=sat t (i:Int)/16) (by omega) (by omega)).1,(hzB (b:=sat t (i:Int) % 16) (by omega) (by omega)).1,azv (by decide) (by simp;omega),aza,azq (by omega)]
  show fz3 (t,(acc++[sat t (i:Int)/16,sat t (i:Int) % 16],(((i+1:Nat):Int),())))=_
  rw[ih (i+1) _ (by omega) (by simp;omega),List.append_assoc];rfl
theorem Nzd (t:ByteArray) (ht:t.size≤1000000): ∀ (m i:Nat) (acc:List Int),i+m=t.size→acc.length≤2*i→fzV (t,(acc,((i:Int),())))=some ((acc++nibF t i m,()),()):=by
 intro m
 induction m with
 |zero=>intro i acc h h2;rw[rzE,show (i:Int)=(t.size:Int) by omega,Jz7,azc];simp [nibF]
 |succ m ih=>
  intro i acc h h2
  have hi:i<t.size:=by omega
  have hb:=fzS t (i:Int)
  obtain ⟨b1,b2,b3⟩:=hzB hb.1 hb.2
  rw[rzE,(HzX hi).1,aza,(HzX hi).2,aza,show nz 16=true from rfl,aza,aza,aza,b1,tzN hb.1 (by omega) (by omega),fzW hb.1,azv (by decide) (by simp;omega),aza,azq (by omega)]
  show fzV (t,(acc++[sat t (i:Int)/16,sat t (i:Int) % 16],(((i+1:Nat):Int),())))=_
  rw[ih (i+1) _ (by omega) (by simp;omega),List.append_assoc];rfl
theorem sz9 (t:ByteArray) (ht:t.size≤1000000):bzV (t,())=some ((nibV t,()),()):=by
 rw[DzR]
 exact Lzn t ht t.size 0 [] (by omega) (by simp)
theorem szb (t:ByteArray) (ht:t.size≤1000000):bzH (t,())=some ((nibV t,()),()):=by
 rw[DzD]
 exact Nzd t ht t.size 0 [] (by omega) (by simp)
def comV:List Int→List Int→Nat
 |a::xs,b::ys=>if a=b then comV xs ys+1 else 0
 |_,_=>0
theorem uz2: ∀a b:List Int,comV a b≤a.length∧comV a b≤b.length
 | [],b=>by simp [comV]
 |a::xs,[]=>by simp [comV]
 |a::xs,b::ys=>by
  have:=uz2 xs ys
  unfold comV
  split<;>simp<;>omega
theorem kzU: ∀ (a b:List Int) (n:Nat),n≤comV a b→a.take n=b.take n
 | [],b,n,h=>by
   have:n=0:=by simp [comV] at h;exact h
   subst this;rfl
 |a::xs,[],n,h=>by
  have:n=0:=by simp [comV] at h;exact h
  subst this;rfl
 |a::xs,b::ys,n,h=>by
  unfold comV at h
  split at h
  ·rename_i e
   subst e
   cases n with
   |zero=>rfl
   |succ n=>rw[List.take_succ_cons,List.take_succ_cons,kzU xs ys n (by omega)]
  ·have:n=0:=by omega
   subst this;rfl
theorem AzR {a b:List Int} {i:Nat} (ha:i<a.length) (hb:i<b.length):comV (a.drop i) (b.drop i)=if a[i]=b[i] then comV (a.drop (i+1)) (b.drop (i+1))+1 else 0:=by
 rw[List.drop_eq_getElem_cons ha,List.drop_eq_getElem_cons hb,comV]
theorem tz3 {a b:List Int} {i:Nat} (h:a.length≤i∨b.length≤i):comV (a.drop i) (b.drop i)=0:=by
 rcases h with h|h
 ·rw[List.drop_eq_nil_of_le h];simp [comV]
 ·rw[List.drop_eq_nil_of_le h];cases a.drop i<;>simp [comV]
theorem Jz3 (a b:List Int) (ha:a.length≤1000000): ∀ (m i:Nat),a.length≤i+m→i≤1000000→pze (a,(b,((i:Int),())))=some ((((i+comV (a.drop i) (b.drop i):Nat):Int),()),()):=by
 intro m
 induction m with
 |zero=>intro i h h2;rw[zzw,az7 (by rw[azA];omega),azc,tz3 (.inl (by omega))];rfl
 |succ m ih=>
  intro i h h2
  rw[zzw]
  by_cases h3:i<a.length
  ·rw[bzp h3,aza]
   by_cases h4:i<b.length
   ·rw[bzp h4,aza,az0 h3,aza,az0 h4,aza,bzA h3,bzA h4,AzR h3 h4,czd]
    by_cases h5:a[i]=b[i]
    ·rw[decide_eq_true h5,aza,if_pos h5,azq (by omega),ih (i+1) (by omega) (by omega),show i+1+comV (a.drop (i+1)) (b.drop (i+1))=i+(comV (a.drop (i+1)) (b.drop (i+1))+1) by omega]
    ·rw[decide_eq_false h5,azc,if_neg h5];rfl
   ·rw[az7 (by rw[azA];omega),azc,tz3 (.inr (by omega))];rfl
  ·rw[az7 (by rw[azA];omega),azc,tz3 (.inl (by omega))];rfl
theorem JzQ (a b:List Int) (ha:a.length≤1000000): ∀ (m i:Nat),a.length≤i+m→i≤1000000→pzF (a,(b,((i:Int),())))=some ((((i+comV (a.drop i) (b.drop i):Nat):Int),()),()):=by
 intro m
 induction m with
 |zero=>intro i h h2;rw[zzU,az7 (by rw[azA];omega),azc,tz3 (.inl (by omega))];rfl
 |succ m ih=>
  intro i h h2
  rw[zzU]
  by_cases h3:i<a.length
  ·rw[bzp h3,aza]
   by_cases h4:i<b.length
   ·rw[bzp h4,aza,az0 h3,aza,az0 h4,aza,bzA h3,bzA h4,AzR h3 h4,czd]
    by_cases h5:a[i]=b[i]
    ·rw[decide_eq_true h5,aza,if_pos h5,azq (by omega),ih (i+1) (by omega) (by omega),show i+1+comV (a.drop (i+1)) (b.drop (i+1))=i+(comV (a.drop (i+1)) (b.drop (i+1))+1) by omega]
    ·rw[decide_eq_false h5,azc,if_neg h5];rfl
   ·rw[az7 (by rw[azA];omega),azc,tz3 (.inr (by omega))];rfl
  ·rw[az7 (by rw[azA];omega),azc,tz3 (.inl (by omega))];rfl
theorem Jz0 (a b:List Int) (ha:a.length≤1000000):mzc (a,(b,()))=some (((comV a b:Int),()),()):=by
 rw[Mz6]
 have:=Jz3 a b ha a.length 0 (by omega) (by omega)
 simpa using this
theorem Mzo (a b:List Int) (ha:a.length≤1000000):mzj (a,(b,()))=some (((comV a b:Int),()),()):=by
 rw[LzQ]
 have:=JzQ a b ha a.length 0 (by omega) (by omega)
 simpa using this
theorem Ozx (l:List Int) (h: ∀x∈l,0≤x∧x≤15) (hl:l.length≤64):hzN (l,())=some ((true,()),()):=by
 have loop: ∀ (m i:Nat),i+m=l.length→fz1 (l,(l,(len l,((i:Int),()))))=some ((true,()),()):=by
  intro m
  induction m with
  |zero=>intro i hi;rw[izU,show (i:Int)=(l.length:Int) by omega,bzb,azc,gzB,azA,decide_eq_true (by omega)]
  |succ m ih=>
   intro i hi
   have hlt:i<l.length:=by omega
   have hx:=h l[i] (List.getElem_mem hlt)
   rw[izU,bzp hlt,aza,az0 hlt,aza,bzA hlt,az7 hx.1,azc,bzy hx.2,azc,azq (by omega),ih (i+1) (by omega)]
 rw[vzj]
 exact loop l.length 0 (by omega)
theorem Pzi (l:List Int) (h: ∀x∈l,0≤x∧x≤15) (hl:l.length≤64):hzF (l,())=some ((true,()),()):=by
 have loop: ∀ (m i:Nat),i+m=l.length→gzg (l,((i:Int),()))=some ((true,()),()):=by
  intro m
  induction m with
  |zero=>intro i hi;rw[izH,show (i:Int)=(l.length:Int) by omega,bzb,azc,gzB,azA,decide_eq_true (by omega)]
  |succ m ih=>
   intro i hi
   have hlt:i<l.length:=by omega
   have hx:=h l[i] (List.getElem_mem hlt)
   rw[izH,bzp hlt,aza,az0 hlt,aza,bzA hlt,tzD,azd]
   simp only[decide_eq_true hx,bnot,Bool.not_true,azc]
   rw[azq (by omega),ih (i+1) (by omega)]
 rw[vzp]
 exact loop l.length 0 (by omega)
def ozC:List Int→List Int
 |a::b::r=>azx .u8 (16*a+b)::ozC r
 |_=>[]
theorem yzl: ∀ (n:Nat) (l:List Int),l.length≤n→(ozC l).length≤n
 |_,[],_=>by simp [ozC]
 |_,[a],_=>by simp [ozC]
 |0,a::b::r,h=>by simp at h
 |1,a::b::r,h=>by simp at h
 |n+2,a::b::r,h=>by
  have:=yzl n r (by simp at h;omega)
  simp only[ozC,List.length_cons];omega
theorem QzW:yzI 16 (fun a=>yzI 16 fun b=>decide (azx .u8 (ior .i64 (ishl .i64 (a:Int) 4) (b:Int))=azx .u8 (16*(a:Int)+(b:Int))∧azx .u8 (iadd .i64 (imul .i64 16 (a:Int)) (b:Int))=azx .u8 (16*(a:Int)+(b:Int))))=true:=by kernel_rfl
theorem or_at {a b:Int} (ha:0≤a∧a≤15) (hb:0≤b∧b≤15):azx .u8 (ior .i64 (ishl .i64 a 4) b)=azx .u8 (16*a+b)∧azx .u8 (iadd .i64 (imul .i64 16 a) b)=azx .u8 (16*a+b):=by
 obtain ⟨n,rfl⟩:=Int.eq_ofNat_of_zero_le ha.1
 obtain ⟨m,rfl⟩:=Int.eq_ofNat_of_zero_le hb.1
 exact of_decide_eq_true (gzj _ _ (gzj _ _ QzW n (by omega)) m (by omega))
def preL (l:List Int) (leaf:Bool):List Int:=match l with
 | []=>[azx .u8 (bif leaf then 32 else 0)]
 |a::r=>if (a::r).length % 2=1 then azx .u8 ((bif leaf then 32 else 0)+16+a)::ozC r else azx .u8 (bif leaf then 32 else 0)::ozC (a::r)
def preV (l:List Int) (leaf:Bool):ByteArray:=sof (preL l leaf)
theorem CzM (l:List Int) (leaf:Bool):(preV l leaf).size≤l.length+1:=by
 rw[preV,azK]
 unfold preL
 cases l with
 |nil=>simp
 |cons a r=>
  simp only
  split
  ·have:=yzl r.length r (Nat.le_refl _);simp;omega
  ·have:=yzl (a::r).length (a::r) (Nat.le_refl _);simp at this⊢;omega
theorem drop2 {l:List Int} {i:Nat} (h:i+1<l.length):l.drop i=l[i]::l[i+1]::l.drop (i+2):=by
 rw[List.drop_eq_getElem_cons (by omega:i<l.length),List.drop_eq_getElem_cons h]
theorem Dz9 (l:List Int) (h: ∀x∈l,0≤x∧x≤15) (hl:l.length≤1000): ∀ (m i:Nat) (acc:List Int),i+2*m=l.length→acc.length≤i+1→dzJ (l,(acc,((i:Int),())))=some ((sof (acc++ozC (l.drop i)),(true,())),()):=by
 intro m
 induction m with
 |zero=>intro i acc hi ha;rw[ozH,show (i:Int)=(l.length:Int) by omega,bzb,azc,List.drop_eq_nil_of_le (by omega)];simp [ozC]
 |succ m ih=>
  intro i acc hi ha
  have h1:i<l.length:=by omega
  have h2:i+1<l.length:=by omega
  rw[ozH,bzp h1,aza,az0 h1,aza,show nn 4=true from rfl,aza,azq (by omega),az0 h2,aza,bzA h1,bzA h2,(or_at (h _ (List.getElem_mem h1)) (h _ (List.getElem_mem h2))).1,azv (by decide) (by simp;omega),aza,azH (by omega) (by omega),show (i:Int)+2=((i+2:Nat):Int) by omega]
  show dzJ (l,(acc++[azx .u8 (16*l[i]+l[i+1])],(((i+2:Nat):Int),())))=_
  rw[ih (i+2) _ (by omega) (by simp;omega),drop2 h2,ozC,List.append_assoc];rfl
theorem CzC (l:List Int) (h: ∀x∈l,0≤x∧x≤15) (hl:l.length≤1000): ∀ (m i:Nat) (acc:List Int),i+2*m=l.length→acc.length≤i+1→fzR (l,(sof acc,((i:Int),())))=some ((sof (acc++ozC (l.drop i)),(true,())),()):=by
 intro m
 induction m with
 |zero=>intro i acc hi ha;rw[nzZ,azH (by omega) (by omega),az7 (by rw[azA];omega),azc,List.drop_eq_nil_of_le (by omega)];simp [ozC]
 |succ m ih=>
  intro i acc hi ha
  have h1:i<l.length:=by omega
  have h2:i+1<l.length:=by omega
  rw[nzZ,azq (by omega),bzp h2,aza,az0 h1,aza,az0 h2,aza,bzA h1,bzA h2,(or_at (h _ (List.getElem_mem h1)) (h _ (List.getElem_mem h2))).2,ezs (by rw[azK,azK];simp;omega),aza,azH (by omega) (by omega),show (i:Int)+2=((i+2:Nat):Int) by omega,←pz3]
  rw[ih (i+2) _ (by omega) (by simp;omega),drop2 h2,ozC,List.append_assoc];rfl
theorem Mzw (l:List Int) (leaf:Bool) (h: ∀x∈l,0≤x∧x≤15) (hl:l.length≤64):cz3 (l,(leaf,()))=some ((preV l leaf,(true,())),()):=by
 rw[rzR,Ozx l h hl,azd]
 simp only[bnot,Bool.not_true,azc]
 have key: ∀x:Int,(x=0∨x=32)→x=(bif leaf then 32 else 0)→hzx (l,(x,()))=some ((preV l leaf,(true,())),()):=by
  intro x hx hxl
  rw[yzD,show nz 2=true from rfl,aza,fzW (by rw[azA];omega),czd,azA]
  by_cases ho:l.length % 2=1
  ·rw[decide_eq_true (by omega),aza]
   cases l with
   |nil=>simp at ho
   |cons a r=>
    have ha:=h a (by simp)
    rw[show inb 0 (((a::r).length:Nat):Int)=true from bzI (by omega) (by simp only[List.length_cons];omega),aza,show inb2 1 (((a::r).length:Nat):Int) (((a::r).length:Nat):Int)=true from bzu (by omega) (by simp only[List.length_cons];omega) (by omega),aza,show sub (a::r) 1 (((a::r).length:Nat):Int)=r by unfold sub;simp,show rd (0:Int) (a::r) 0=a from rfl,azH (x:=16) (y:=a) (by omega) (by omega),azH (x:=x) (y:=16+a) (by omega) (by omega),qzf]
    have:=Dz9 r (fun y hy=>h y (by simp [hy])) (by simp at hl;omega) (r.length/2) 0 [azx .u8 (x+(16+a))] (by simp only[List.length_cons] at ho;omega) (by simp)
    rw[show ((0:Nat):Int)=0 from rfl] at this
    rw[this,List.drop_zero,preV,preL,if_pos ho,hxl,Int.add_assoc]
    rfl
  ·rw[decide_eq_false (by omega),azc,qzf]
   have:=Dz9 l h (by omega) (l.length/2) 0 [azx .u8 x] (by omega) (by simp)
   rw[show ((0:Nat):Int)=0 from rfl] at this
   rw[this,List.drop_zero,preV,hxl]
   cases l with
   |nil=>rfl
   |cons a r=>rw[preL,if_neg ho];rfl
 cases leaf with
 |true=>exact key 32 (.inr rfl) rfl
 |false=>exact key 0 (.inl rfl) rfl
theorem Nzj (l:List Int) (leaf:Bool) (h: ∀x∈l,0≤x∧x≤15) (hl:l.length≤64):czx (l,(leaf,()))=some ((preV l leaf,(true,())),()):=by
 rw[szF,Pzi l h hl,azd]
 simp only[bnot,Bool.not_true,azc]
 have key: ∀x:Int,(x=0∨x=32)→x=(bif leaf then 32 else 0)→hzo (l,(x,()))=some ((preV l leaf,(true,())),()):=by
  intro x hx hxl
  rw[yzN,show nz 2=true from rfl,aza,fzW (by rw[azA];omega),czd,azA]
  by_cases ho:l.length % 2=1
  ·rw[decide_eq_true (by omega),aza]
   cases l with
   |nil=>simp at ho
   |cons a r=>
    have ha:=h a (by simp)
    rw[show inb 0 (((a::r).length:Nat):Int)=true from bzI (by omega) (by simp only[List.length_cons];omega),aza,show rd (0:Int) (a::r) 0=a from rfl,azH (x:=x) (y:=16) (by omega) (by omega),azH (by omega) (by omega),ozf]
    have:=CzC (a::r) h (by omega) ((a::r).length/2) 1 [azx .u8 (x+16+a)] (by omega) (by simp)
    rw[show ((1:Nat):Int)=1 from rfl] at this
    rw[this,preV,preL,if_pos ho,hxl]
    rfl
  ·rw[decide_eq_false (by omega),azc,ozf]
   have:=CzC l h (by omega) (l.length/2) 0 [azx .u8 x] (by omega) (by simp)
   rw[show ((0:Nat):Int)=0 from rfl] at this
   rw[this,List.drop_zero,preV,hxl]
   cases l with
   |nil=>rfl
   |cons a r=>rw[preL,if_neg ho];rfl
 cases leaf with
 |true=>exact key 32 (.inr rfl) rfl
 |false=>exact key 0 (.inl rfl) rfl
end Go.Proofs.YtdfbhjpmdjmdaaaGreatDoor
