/- Halves of bytes. Of no condition. -/
import Derived.Test.YtoeiajpklkijgaaGreatDoorTC
set_option linter.unusedVariables false
set_option linter.unusedSimpArgs false
set_option maxRecDepth 100000
namespace Go.Proofs.YtoeiajpklkijgaaGreatDoor
open Go.TV
def nibF (t:ByteArray):Nat→Nat→List Int
 |_,0=>[]
 |i,m+1=>sat t (i:Int)/16::sat t (i:Int) % 16::nibF t (i+1) m
def nibV (t:ByteArray):List Int:=nibF t 0 t.size
theorem nibF_len (t:ByteArray): ∀m i,(nibF t i m).length=2*m
 |0,i=>rfl
 |m+1,i=>by simp only[nibF,List.length_cons,nibF_len t m (i+1)];omega
theorem nibV_len (t:ByteArray):(nibV t).length=2*t.size:=nibF_len t _ _
theorem nibF_in (t:ByteArray): ∀m i,∀x∈nibF t i m,0≤x∧x≤15
 |0,i,x,h=>by cases h
 |m+1,i,x,h=>by
  have hb:=sat_byte t (i:Int)
  simp only[nibF,List.mem_cons] at h
  rcases h with rfl|rfl|h
  ·omega
  ·omega
  ·exact nibF_in t m (i+1) x h
theorem nibV_in (t:ByteArray): ∀x∈nibV t,0≤x∧x≤15:=nibF_in t _ _
theorem nibF_inj (s t:ByteArray): ∀m i,nibF s i m=nibF t i m→ ∀j,i≤j→j<i+m→sat s (j:Int)=sat t (j:Int)
 |0,i,_,j,h1,h2=>by omega
 |m+1,i,h,j,h1,h2=>by
  simp only[nibF,List.cons.injEq] at h
  by_cases hj:j=i
  ·subst hj
   have:=sat_byte s (j:Int)
   omega
  ·exact nibF_inj s t m (i+1) h.2.2 j (by omega) (by omega)
theorem sat_ext {s t:ByteArray} (hz:s.size=t.size) (h: ∀j:Nat,j<s.size→sat s (j:Int)=sat t (j:Int)):s=t:=by
 apply ByteArray.ext
 apply Array.ext hz
 intro i h1 h2
 have:=h i h1
 rw[sat_at s i h1,sat_at t i h2] at this
 simp only[Array.getElem_toList] at this
 exact UInt8.toNat_inj.1 (by omega)
theorem nibV_inj {s t:ByteArray} (h:nibV s=nibV t):s=t:=by
 have hz:s.size=t.size:=by
  have:=congrArg List.length h
  rw[nibV_len,nibV_len] at this
  omega
 refine sat_ext hz fun j hj=>?_
 unfold nibV at h
 rw[←hz] at h
 exact nibF_inj s t s.size 0 h j (by omega) (by omega)
theorem iNib_loop (t:ByteArray) (ht:t.size≤1000000): ∀ (m i:Nat) (acc:List Int),i+m=t.size→acc.length≤2*i→iNibblesOf_D3 (t,(acc,((i:Int),())))=some ((acc++nibF t i m,()),()):=by
 intro m
 induction m with
 |zero=>intro i acc h h2;rw[iNibblesOf_q3,show (i:Int)=(t.size:Int) by omega,ssz_end,cnd_f];simp [nibF]
 |succ m ih=>
  intro i acc h h2
  have hi:i<t.size:=by omega
  have hb:=sat_byte t (i:Int)
  obtain ⟨b1,b2,b3⟩:=byte_ops hb.1 hb.2
  rw[iNibblesOf_q3,(ssz_at hi).1,cnd_t,(ssz_at hi).2,cnd_t,show nn 4=true from rfl,cnd_t,cnd_t,b2,b3,(byte_ops (b:=sat t (i:Int)/16) (by omega) (by omega)).1,(byte_ops (b:=sat t (i:Int) % 16) (by omega) (by omega)).1,app_fits (by decide) (by simp;omega),cnd_t,next_at (by omega)]
  show iNibblesOf_D3 (t,(acc++[sat t (i:Int)/16,sat t (i:Int) % 16],(((i+1:Nat):Int),())))=_
  rw[ih (i+1) _ (by omega) (by simp;omega),List.append_assoc];rfl
theorem sNib_loop (t:ByteArray) (ht:t.size≤1000000): ∀ (m i:Nat) (acc:List Int),i+m=t.size→acc.length≤2*i→sNibblesOf_D3 (t,(acc,((i:Int),())))=some ((acc++nibF t i m,()),()):=by
 intro m
 induction m with
 |zero=>intro i acc h h2;rw[sNibblesOf_q3,show (i:Int)=(t.size:Int) by omega,ssz_end,cnd_f];simp [nibF]
 |succ m ih=>
  intro i acc h h2
  have hi:i<t.size:=by omega
  have hb:=sat_byte t (i:Int)
  obtain ⟨b1,b2,b3⟩:=byte_ops hb.1 hb.2
  rw[sNibblesOf_q3,(ssz_at hi).1,cnd_t,(ssz_at hi).2,cnd_t,show nz 16=true from rfl,cnd_t,cnd_t,cnd_t,b1,iquo_64 hb.1 (by omega) (by omega),irem_0 hb.1,app_fits (by decide) (by simp;omega),cnd_t,next_at (by omega)]
  show sNibblesOf_D3 (t,(acc++[sat t (i:Int)/16,sat t (i:Int) % 16],(((i+1:Nat):Int),())))=_
  rw[ih (i+1) _ (by omega) (by simp;omega),List.append_assoc];rfl
theorem iNib_l (t:ByteArray) (ht:t.size≤1000000):iNibblesOf_d (t,())=some ((nibV t,()),()):=by
 rw[iNibblesOf_b]
 exact iNib_loop t ht t.size 0 [] (by omega) (by simp)
theorem sNib_l (t:ByteArray) (ht:t.size≤1000000):sNibblesOf_d (t,())=some ((nibV t,()),()):=by
 rw[sNibblesOf_b]
 exact sNib_loop t ht t.size 0 [] (by omega) (by simp)
def comV:List Int→List Int→Nat
 |a::xs,b::ys=>if a=b then comV xs ys+1 else 0
 |_,_=>0
theorem com_le: ∀a b:List Int,comV a b≤a.length∧comV a b≤b.length
 | [],b=>by simp [comV]
 |a::xs,[]=>by simp [comV]
 |a::xs,b::ys=>by
  have:=com_le xs ys
  unfold comV
  split<;>simp<;>omega
theorem com_take: ∀ (a b:List Int) (n:Nat),n≤comV a b→a.take n=b.take n
 | [],b,n,h=>by
   have:n=0:=by simp [comV] at h;exact h
   subst this;rfl
 |a::xs,[],n,h=>by
  have:n=0:=by simp [comV] at h;exact h
  subst this;rfl
 |a::xs,b::ys,n,h=>by
  unfold comV at h
  split at h
  ·rename_i e
   subst e
   cases n with
   |zero=>rfl
   |succ n=>rw[List.take_succ_cons,List.take_succ_cons,com_take xs ys n (by omega)]
  ·have:n=0:=by omega
   subst this;rfl
theorem com_drop {a b:List Int} {i:Nat} (ha:i<a.length) (hb:i<b.length):comV (a.drop i) (b.drop i)=if a[i]=b[i] then comV (a.drop (i+1)) (b.drop (i+1))+1 else 0:=by
 rw[List.drop_eq_getElem_cons ha,List.drop_eq_getElem_cons hb,comV]
theorem com_end {a b:List Int} {i:Nat} (h:a.length≤i∨b.length≤i):comV (a.drop i) (b.drop i)=0:=by
 rcases h with h|h
 ·rw[List.drop_eq_nil_of_le h];simp [comV]
 ·rw[List.drop_eq_nil_of_le h];cases a.drop i<;>simp [comV]
theorem iCom_loop (a b:List Int) (ha:a.length≤1000000): ∀ (m i:Nat),a.length≤i+m→i≤1000000→iCommon_D2 (a,(b,((i:Int),())))=some ((((i+comV (a.drop i) (b.drop i):Nat):Int),()),()):=by
 intro m
 induction m with
 |zero=>intro i h h2;rw[iCommon_q2,ilt_f (by rw[len_d];omega),cnd_f,com_end (.inl (by omega))];rfl
 |succ m ih=>
  intro i h h2
  rw[iCommon_q2]
  by_cases h3:i<a.length
  ·rw[ilt_at h3,cnd_t]
   by_cases h4:i<b.length
   ·rw[ilt_at h4,cnd_t,inb_at h3,cnd_t,inb_at h4,cnd_t,rd_at h3,rd_at h4,com_drop h3 h4,ieq_d]
    by_cases h5:a[i]=b[i]
    ·rw[decide_eq_true h5,cnd_t,if_pos h5,next_at (by omega),ih (i+1) (by omega) (by omega),show i+1+comV (a.drop (i+1)) (b.drop (i+1))=i+(comV (a.drop (i+1)) (b.drop (i+1))+1) by omega]
    ·rw[decide_eq_false h5,cnd_f,if_neg h5];rfl
   ·rw[ilt_f (by rw[len_d];omega),cnd_f,com_end (.inr (by omega))];rfl
  ·rw[ilt_f (by rw[len_d];omega),cnd_f,com_end (.inl (by omega))];rfl
theorem sCom_loop (a b:List Int) (ha:a.length≤1000000): ∀ (m i:Nat),a.length≤i+m→i≤1000000→sCommon_D2 (a,(b,((i:Int),())))=some ((((i+comV (a.drop i) (b.drop i):Nat):Int),()),()):=by
 intro m
 induction m with
 |zero=>intro i h h2;rw[sCommon_q2,ilt_f (by rw[len_d];omega),cnd_f,com_end (.inl (by omega))];rfl
 |succ m ih=>
  intro i h h2
  rw[sCommon_q2]
  by_cases h3:i<a.length
  ·rw[ilt_at h3,cnd_t]
   by_cases h4:i<b.length
   ·rw[ilt_at h4,cnd_t,inb_at h3,cnd_t,inb_at h4,cnd_t,rd_at h3,rd_at h4,com_drop h3 h4,ieq_d]
    by_cases h5:a[i]=b[i]
    ·rw[decide_eq_true h5,cnd_t,if_pos h5,next_at (by omega),ih (i+1) (by omega) (by omega),show i+1+comV (a.drop (i+1)) (b.drop (i+1))=i+(comV (a.drop (i+1)) (b.drop (i+1))+1) by omega]
    ·rw[decide_eq_false h5,cnd_f,if_neg h5];rfl
   ·rw[ilt_f (by rw[len_d];omega),cnd_f,com_end (.inr (by omega))];rfl
  ·rw[ilt_f (by rw[len_d];omega),cnd_f,com_end (.inl (by omega))];rfl
theorem iCom_l (a b:List Int) (ha:a.length≤1000000):iCommon_d (a,(b,()))=some (((comV a b:Int),()),()):=by
 rw[iCommon_b]
 have:=iCom_loop a b ha a.length 0 (by omega) (by omega)
 simpa using this
theorem sCom_l (a b:List Int) (ha:a.length≤1000000):sCommon_d (a,(b,()))=some (((comV a b:Int),()),()):=by
 rw[sCommon_b]
 have:=sCom_loop a b ha a.length 0 (by omega) (by omega)
 simpa using this
theorem iNibOk_l (l:List Int) (h: ∀x∈l,0≤x∧x≤15) (hl:l.length≤64):iNibblesOk_d (l,())=some ((true,()),()):=by
 have loop: ∀ (m i:Nat),i+m=l.length→iNibblesOk_D2 (l,(l,(len l,((i:Int),()))))=some ((true,()),()):=by
  intro m
  induction m with
  |zero=>intro i hi;rw[iNibblesOk_q2,show (i:Int)=(l.length:Int) by omega,ilt_end,cnd_f,ile_d,len_d,decide_eq_true (by omega)]
  |succ m ih=>
   intro i hi
   have hlt:i<l.length:=by omega
   have hx:=h l[i] (List.getElem_mem hlt)
   rw[iNibblesOk_q2,ilt_at hlt,cnd_t,inb_at hlt,cnd_t,rd_at hlt,ilt_f hx.1,cnd_f,igt_f hx.2,cnd_f,next_at (by omega),ih (i+1) (by omega)]
 rw[iNibblesOk_b]
 exact loop l.length 0 (by omega)
theorem sNibOk_l (l:List Int) (h: ∀x∈l,0≤x∧x≤15) (hl:l.length≤64):sNibblesOk_d (l,())=some ((true,()),()):=by
 have loop: ∀ (m i:Nat),i+m=l.length→sNibblesOk_D2 (l,((i:Int),()))=some ((true,()),()):=by
  intro m
  induction m with
  |zero=>intro i hi;rw[sNibblesOk_q2,show (i:Int)=(l.length:Int) by omega,ilt_end,cnd_f,ile_d,len_d,decide_eq_true (by omega)]
  |succ m ih=>
   intro i hi
   have hlt:i<l.length:=by omega
   have hx:=h l[i] (List.getElem_mem hlt)
   rw[sNibblesOk_q2,ilt_at hlt,cnd_t,inb_at hlt,cnd_t,rd_at hlt,sIn_l,bnd_s]
   simp only[decide_eq_true hx,bnot,Bool.not_true,cnd_f]
   rw[next_at (by omega),ih (i+1) (by omega)]
 rw[sNibblesOk_b]
 exact loop l.length 0 (by omega)
def pairF:List Int→List Int
 |a::b::r=>iconv .u8 (16*a+b)::pairF r
 |_=>[]
theorem pairF_len: ∀ (n:Nat) (l:List Int),l.length≤n→(pairF l).length≤n
 |_,[],_=>by simp [pairF]
 |_,[a],_=>by simp [pairF]
 |0,a::b::r,h=>by simp at h
 |1,a::b::r,h=>by simp at h
 |n+2,a::b::r,h=>by
  have:=pairF_len n r (by simp at h;omega)
  simp only[pairF,List.length_cons];omega
theorem or_test:allB' 16 (fun a=>allB' 16 fun b=>decide (iconv .u8 (ior .i64 (ishl .i64 (a:Int) 4) (b:Int))=iconv .u8 (16*(a:Int)+(b:Int))∧iconv .u8 (iadd .i64 (imul .i64 16 (a:Int)) (b:Int))=iconv .u8 (16*(a:Int)+(b:Int))))=true:=by kernel_rfl
theorem or_at {a b:Int} (ha:0≤a∧a≤15) (hb:0≤b∧b≤15):iconv .u8 (ior .i64 (ishl .i64 a 4) b)=iconv .u8 (16*a+b)∧iconv .u8 (iadd .i64 (imul .i64 16 a) b)=iconv .u8 (16*a+b):=by
 obtain ⟨n,rfl⟩:=Int.eq_ofNat_of_zero_le ha.1
 obtain ⟨m,rfl⟩:=Int.eq_ofNat_of_zero_le hb.1
 exact of_decide_eq_true (allB'_of _ _ (allB'_of _ _ or_test n (by omega)) m (by omega))
def preL (l:List Int) (leaf:Bool):List Int:=match l with
 | []=>[iconv .u8 (bif leaf then 32 else 0)]
 |a::r=>if (a::r).length % 2=1 then iconv .u8 ((bif leaf then 32 else 0)+16+a)::pairF r else iconv .u8 (bif leaf then 32 else 0)::pairF (a::r)
def preV (l:List Int) (leaf:Bool):ByteArray:=sof (preL l leaf)
theorem preV_size (l:List Int) (leaf:Bool):(preV l leaf).size≤l.length+1:=by
 rw[preV,size_sof]
 unfold preL
 cases l with
 |nil=>simp
 |cons a r=>
  simp only
  split
  ·have:=pairF_len r.length r (Nat.le_refl _);simp;omega
  ·have:=pairF_len (a::r).length (a::r) (Nat.le_refl _);simp at this⊢;omega
theorem drop2 {l:List Int} {i:Nat} (h:i+1<l.length):l.drop i=l[i]::l[i+1]::l.drop (i+2):=by
 rw[List.drop_eq_getElem_cons (by omega:i<l.length),List.drop_eq_getElem_cons h]
theorem iPre_loop (l:List Int) (h: ∀x∈l,0≤x∧x≤15) (hl:l.length≤1000): ∀ (m i:Nat) (acc:List Int),i+2*m=l.length→acc.length≤i+1→iPrefixText_D11 (l,(acc,((i:Int),())))=some ((sof (acc++pairF (l.drop i)),(true,())),()):=by
 intro m
 induction m with
 |zero=>intro i acc hi ha;rw[iPrefixText_q11,show (i:Int)=(l.length:Int) by omega,ilt_end,cnd_f,List.drop_eq_nil_of_le (by omega)];simp [pairF]
 |succ m ih=>
  intro i acc hi ha
  have h1:i<l.length:=by omega
  have h2:i+1<l.length:=by omega
  rw[iPrefixText_q11,ilt_at h1,cnd_t,inb_at h1,cnd_t,show nn 4=true from rfl,cnd_t,next_at (by omega),inb_at h2,cnd_t,rd_at h1,rd_at h2,(or_at (h _ (List.getElem_mem h1)) (h _ (List.getElem_mem h2))).1,app_fits (by decide) (by simp;omega),cnd_t,iadd_64 (by omega) (by omega),show (i:Int)+2=((i+2:Nat):Int) by omega]
  show iPrefixText_D11 (l,(acc++[iconv .u8 (16*l[i]+l[i+1])],(((i+2:Nat):Int),())))=_
  rw[ih (i+2) _ (by omega) (by simp;omega),drop2 h2,pairF,List.append_assoc];rfl
theorem sPre_loop (l:List Int) (h: ∀x∈l,0≤x∧x≤15) (hl:l.length≤1000): ∀ (m i:Nat) (acc:List Int),i+2*m=l.length→acc.length≤i+1→sPrefixText_D12 (l,(sof acc,((i:Int),())))=some ((sof (acc++pairF (l.drop i)),(true,())),()):=by
 intro m
 induction m with
 |zero=>intro i acc hi ha;rw[sPrefixText_q12,iadd_64 (by omega) (by omega),ilt_f (by rw[len_d];omega),cnd_f,List.drop_eq_nil_of_le (by omega)];simp [pairF]
 |succ m ih=>
  intro i acc hi ha
  have h1:i<l.length:=by omega
  have h2:i+1<l.length:=by omega
  rw[sPrefixText_q12,next_at (by omega),ilt_at h2,cnd_t,inb_at h1,cnd_t,inb_at h2,cnd_t,rd_at h1,rd_at h2,(or_at (h _ (List.getElem_mem h1)) (h _ (List.getElem_mem h2))).2,cat_fits (by rw[size_sof,size_sof];simp;omega),cnd_t,iadd_64 (by omega) (by omega),show (i:Int)+2=((i+2:Nat):Int) by omega,←sof_append]
  rw[ih (i+2) _ (by omega) (by simp;omega),drop2 h2,pairF,List.append_assoc];rfl
theorem iPre_l (l:List Int) (leaf:Bool) (h: ∀x∈l,0≤x∧x≤15) (hl:l.length≤64):iPrefixText_d (l,(leaf,()))=some ((preV l leaf,(true,())),()):=by
 rw[iPrefixText_b,iNibOk_l l h hl,bnd_s]
 simp only[bnot,Bool.not_true,cnd_f]
 have key: ∀x:Int,(x=0∨x=32)→x=(bif leaf then 32 else 0)→iPrefixText_D6 (l,(x,()))=some ((preV l leaf,(true,())),()):=by
  intro x hx hxl
  rw[iPrefixText_q6,show nz 2=true from rfl,cnd_t,irem_0 (by rw[len_d];omega),ieq_d,len_d]
  by_cases ho:l.length % 2=1
  ·rw[decide_eq_true (by omega),cnd_t]
   cases l with
   |nil=>simp at ho
   |cons a r=>
    have ha:=h a (by simp)
    rw[show inb 0 (((a::r).length:Nat):Int)=true from inb_t (by omega) (by simp only[List.length_cons];omega),cnd_t,show inb2 1 (((a::r).length:Nat):Int) (((a::r).length:Nat):Int)=true from inb2_t (by omega) (by simp only[List.length_cons];omega) (by omega),cnd_t,show sub (a::r) 1 (((a::r).length:Nat):Int)=r by unfold sub;simp,show rd (0:Int) (a::r) 0=a from rfl,iadd_64 (x:=16) (y:=a) (by omega) (by omega),iadd_64 (x:=x) (y:=16+a) (by omega) (by omega),iPrefixText_q9]
    have:=iPre_loop r (fun y hy=>h y (by simp [hy])) (by simp at hl;omega) (r.length/2) 0 [iconv .u8 (x+(16+a))] (by simp only[List.length_cons] at ho;omega) (by simp)
    rw[show ((0:Nat):Int)=0 from rfl] at this
    rw[this,List.drop_zero,preV,preL,if_pos ho,hxl,Int.add_assoc]
    rfl
  ·rw[decide_eq_false (by omega),cnd_f,iPrefixText_q9]
   have:=iPre_loop l h (by omega) (l.length/2) 0 [iconv .u8 x] (by omega) (by simp)
   rw[show ((0:Nat):Int)=0 from rfl] at this
   rw[this,List.drop_zero,preV,hxl]
   cases l with
   |nil=>rfl
   |cons a r=>rw[preL,if_neg ho];rfl
 cases leaf with
 |true=>exact key 32 (.inr rfl) rfl
 |false=>exact key 0 (.inl rfl) rfl
theorem sPre_l (l:List Int) (leaf:Bool) (h: ∀x∈l,0≤x∧x≤15) (hl:l.length≤64):sPrefixText_d (l,(leaf,()))=some ((preV l leaf,(true,())),()):=by
 rw[sPrefixText_b,sNibOk_l l h hl,bnd_s]
 simp only[bnot,Bool.not_true,cnd_f]
 have key: ∀x:Int,(x=0∨x=32)→x=(bif leaf then 32 else 0)→sPrefixText_D6 (l,(x,()))=some ((preV l leaf,(true,())),()):=by
  intro x hx hxl
  rw[sPrefixText_q6,show nz 2=true from rfl,cnd_t,irem_0 (by rw[len_d];omega),ieq_d,len_d]
  by_cases ho:l.length % 2=1
  ·rw[decide_eq_true (by omega),cnd_t]
   cases l with
   |nil=>simp at ho
   |cons a r=>
    have ha:=h a (by simp)
    rw[show inb 0 (((a::r).length:Nat):Int)=true from inb_t (by omega) (by simp only[List.length_cons];omega),cnd_t,show rd (0:Int) (a::r) 0=a from rfl,iadd_64 (x:=x) (y:=16) (by omega) (by omega),iadd_64 (by omega) (by omega),sPrefixText_q10]
    have:=sPre_loop (a::r) h (by omega) ((a::r).length/2) 1 [iconv .u8 (x+16+a)] (by omega) (by simp)
    rw[show ((1:Nat):Int)=1 from rfl] at this
    rw[this,preV,preL,if_pos ho,hxl]
    rfl
  ·rw[decide_eq_false (by omega),cnd_f,sPrefixText_q10]
   have:=sPre_loop l h (by omega) (l.length/2) 0 [iconv .u8 x] (by omega) (by simp)
   rw[show ((0:Nat):Int)=0 from rfl] at this
   rw[this,List.drop_zero,preV,hxl]
   cases l with
   |nil=>rfl
   |cons a r=>rw[preL,if_neg ho];rfl
 cases leaf with
 |true=>exact key 32 (.inr rfl) rfl
 |false=>exact key 0 (.inl rfl) rfl
end Go.Proofs.YtoeiajpklkijgaaGreatDoor
