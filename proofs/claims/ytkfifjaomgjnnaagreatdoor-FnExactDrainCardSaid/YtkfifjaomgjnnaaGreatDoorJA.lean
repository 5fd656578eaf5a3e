/- Checksums; numbers and texts read. Of no condition. -/
import Derived.Test.YtkfifjaomgjnnaaGreatDoorSA
set_option linter.unusedVariables false
set_option linter.unusedSimpArgs false
set_option maxRecDepth 100000
namespace Go.Proofs.YtkfifjaomgjnnaaGreatDoor
open Go.TV
theorem wrap_u32 (x:Int):IntKind.u32.wrap x=x % 4294967296:=rfl
theorem and1_u32 {s:Int} (h0:0≤s) (h1:s<4294967296):iand .u32 s 1=s % 2:=by
 obtain ⟨n,rfl⟩:=Int.eq_ofNat_of_zero_le h0
 unfold iand ibits
 simp only
 rw[wrap_u32,BitVec.toNat_and]
 have e1:(BitVec.ofInt IntKind.u32.bits (n:Int)).toNat=n:=by
  rw[BitVec.toNat_ofInt]
  have:((2^IntKind.u32.bits:Nat):Int)=4294967296:=rfl
  rw[this,Int.emod_eq_of_lt h0 h1];rfl
 have e2:(BitVec.ofInt IntKind.u32.bits 1).toNat=1:=rfl
 rw[e1,e2,Nat.and_one_is_mod]
 omega
theorem shr1_u32 {s:Int} (h0:0≤s):ishr .u32 s 1=s/2:=by
 unfold ishr
 rw[show (2:Int)^ (min (1:Int).toNat IntKind.u32.bits)=2 from rfl,Int.fdiv_eq_ediv_of_nonneg _ (by decide)]
theorem quo2_u32 {s:Int} (h0:0≤s) (h1:s<4294967296):iquo .u32 s 2=s/2:=by
 unfold iquo
 rw[Int.tdiv_eq_ediv_of_nonneg h0,wrap_u32,Int.emod_eq_of_lt (by omega) (by omega)]
theorem ixor_u32 (x y:Int):0≤ixor .u32 x y∧ixor .u32 x y<4294967296:=by
 unfold ixor ibits
 rw[wrap_u32]
 exact ⟨Int.emod_nonneg _ (by decide),Int.emod_lt_of_pos _ (by decide)⟩
def U32 (s:Int):Prop:=0≤s∧s<4294967296
def crcBit (_:Nat) (s:Int):Int:=if s % 2=1 then ixor .u32 (s/2) 3558460437 else s/2
theorem crcBit_u32 (k:Nat) {s:Int} (h:U32 s):U32 (crcBit k s):=by
 unfold crcBit
 obtain ⟨h0,h1⟩:=h
 split
 ·exact ixor_u32 _ _
 ·exact ⟨by omega,by omega⟩
def crcByte (t:ByteArray) (i:Nat) (s:Int):Int:=iter crcBit 8 0 (ixor .u32 s (iconv .u32 (sat t (i:Int))))
def crc (s:Int) (t:ByteArray):Int:=iter (crcByte t) t.size 0 s
theorem iSum_6 (t:ByteArray) (j s:Int) (h:U32 s):iSumMore_D6 (s,(t,(j,(0,()))))=iSumMore_D2 (iter crcBit 8 0 s,(t,(iadd .i64 j 1,())))∧U32 (iter crcBit 8 0 s):=by
 have st:=loop_to (D:=iSumMore_D6) (st:=fun k s=>(s,(t,(j,((k:Int),()))))) (n:=8) (P:=U32) (step:=crcBit) (fun k s hk hs=>by
  refine ⟨?_,crcBit_u32 k hs⟩
  rw[iSumMore_q6,ilt_t (by omega),cnd_t,show nn 1=true from rfl,cnd_t,and1_u32 hs.1 hs.2,shr1_u32 hs.1,ieq_d,nx (by omega)]
  unfold crcBit
  by_cases h:s % 2=1
  ·rw[decide_eq_true h,cnd_t,if_pos h]
  ·rw[decide_eq_false h,cnd_f,if_neg h]) 8 0 s rfl h
 refine ⟨st.1.trans ?_,st.2⟩
 rw[iSumMore_q6,ilt_f (by omega),cnd_f]
theorem sSum_6 (t:ByteArray) (j s:Int) (h:U32 s):sSumMore_D6 (s,(t,(j,(0,()))))=sSumMore_D2 (iter crcBit 8 0 s,(t,(iadd .i64 j 1,())))∧U32 (iter crcBit 8 0 s):=by
 have st:=loop_to (D:=sSumMore_D6) (st:=fun k s=>(s,(t,(j,((k:Int),()))))) (n:=8) (P:=U32) (step:=crcBit) (fun k s hk hs=>by
  refine ⟨?_,crcBit_u32 k hs⟩
  rw[sSumMore_q6,ilt_t (by omega),cnd_t,show nz 2=true from rfl,cnd_t,cnd_t,irem_0 hs.1,quo2_u32 hs.1 hs.2,ieq_d,nx (by omega)]
  unfold crcBit
  by_cases h:s % 2=1
  ·rw[decide_eq_true h,cnd_t,if_pos h]
  ·rw[decide_eq_false h,cnd_f,if_neg h]) 8 0 s rfl h
 refine ⟨st.1.trans ?_,st.2⟩
 rw[sSumMore_q6,ilt_f (by omega),cnd_f]
theorem iSumMore_l (s:Int) (t:ByteArray) (h:U32 s) (ht:t.size≤4294967296):iSumMore_d (s,(t,()))=some ((crc s t,()),()):=by
 rw[iSumMore_b]
 refine (loop_to (D:=iSumMore_D2) (st:=fun i s=>(s,(t,((i:Int),())))) (n:=t.size) (P:=U32) (step:=crcByte t) (fun i s hi hs=>by
  obtain ⟨h1,h2⟩:=iSum_6 t (i:Int) (ixor .u32 s (iconv .u32 (sat t (i:Int)))) (ixor_u32 _ _)
  refine ⟨?_,h2⟩
  rw[iSumMore_q2,(ssz_at hi).1,cnd_t,(ssz_at hi).2,cnd_t,h1,next_at (by omega)]
  rfl) t.size 0 s (by omega) h).1.trans ?_
 rw[iSumMore_q2,ssz_end,cnd_f]
 rfl
theorem sSumMore_l (s:Int) (t:ByteArray) (h:U32 s) (ht:t.size≤4294967296):sSumMore_d (s,(t,()))=some ((crc s t,()),()):=by
 rw[sSumMore_b]
 refine (loop_to (D:=sSumMore_D2) (st:=fun i s=>(s,(t,((i:Int),())))) (n:=t.size) (P:=U32) (step:=crcByte t) (fun i s hi hs=>by
  obtain ⟨h1,h2⟩:=sSum_6 t (i:Int) (ixor .u32 s (iconv .u32 (sat t (i:Int)))) (ixor_u32 _ _)
  refine ⟨?_,h2⟩
  rw[sSumMore_q2,(ssz_at hi).1,cnd_t,(ssz_at hi).2,cnd_t,h1,next_at (by omega)]
  rfl) t.size 0 s (by omega) h).1.trans ?_
 rw[sSumMore_q2,ssz_end,cnd_f]
 rfl
def four (x:Int):ByteArray:=sof [iconv .u8 (ishr .u32 x 24),iconv .u8 (ishr .u32 x 16),iconv .u8 (ishr .u32 x 8),iconv .u8 x]
theorem four_size (x:Int):(four x).size=4:=by rw[four,size_sof];rfl
def sumV (t:ByteArray):ByteArray:=four (crc 4294967295 t)
theorem sumV_size (t:ByteArray):(sumV t).size=4:=four_size _
theorem iSumText_l (t:ByteArray) (ht:t.size≤4294967296):iSumText_d (t,())=some ((sumV t,()),()):=by
 rw[iSumText_b,iSumOf_b,iSumMore_l _ t ⟨by omega,by omega⟩ ht,bnd_s,bnd_s]
 rfl
theorem sFour_l (x:Int):sL02Four_d (x,())=some ((four x,()),()):=by rw[sL02Four_b];rfl
theorem sSumOf_l (t:ByteArray) (ht:t.size≤4294967296):sSumOf_d (t,())=some ((crc 4294967295 t,()),()):=by
 rw[sSumOf_b,sSumMore_l _ t ⟨by omega,by omega⟩ ht,bnd_s]
theorem varL_last: ∀ (k:Nat) (x:Int),1≤x→x<128^ (k+1)→ ∀l e,varL k x=l++[e]→e≠0
 |0,x,h0,h1,l,e,hv=>by
  simp at h1
  have:[iconv .u8 x]=l++[e]:=hv
  have hl:l=[]:=by
   have:=congrArg List.length this
   rw[List.length_append] at this
   simp only[List.length_cons,List.length_nil] at this
   exact List.length_eq_zero_iff.1 (by omega)
  subst hl
  simp only[List.nil_append,List.cons.injEq,and_true] at this
  rw[←this]
  unfold iconv
  rw[wrap_u8];omega
 |k+1,x,h0,h1,l,e,hv=>by
  unfold varL at hv
  split at hv
  ·rename_i hx
   have hne:varL k (x/128)≠ []:=by cases k<;>unfold varL<;>(try split)<;>simp
   cases l with
   |nil=>
    simp only[List.nil_append,List.cons.injEq] at hv
    exact (hne hv.2).elim
   |cons y l=>
    simp only[List.cons_append,List.cons.injEq] at hv
    exact varL_last k (x/128) (by omega) (Int.ediv_lt_of_lt_mul (by omega) (by rw[Int.pow_succ] at h1;exact h1)) l e hv.2
  ·have hl:l=[]:=by
    have:=congrArg List.length hv
    rw[List.length_append] at this
    simp only[List.length_cons,List.length_nil] at this
    exact List.length_eq_zero_iff.1 (by omega)
   subst hl
   simp only[List.nil_append,List.cons.injEq,and_true] at hv
   rw[←hv]
   unfold iconv
   rw[wrap_u8];omega
def bytesAt (s:ByteArray) (p m:Nat):List Int:=(List.range m).map fun i=>sat s ((p+i:Nat):Int)
theorem bytesAt_succ (s:ByteArray) (p m:Nat):bytesAt s p (m+1)=bytesAt s p m++[sat s ((p+m:Nat):Int)]:=by
 unfold bytesAt;rw[List.range_succ,List.map_append];rfl
theorem bytesAt_len (s:ByteArray) (p m:Nat):(bytesAt s p m).length=m:=by simp [bytesAt]
theorem sof_bytesAt (s:ByteArray) (p m:Nat) (h:p+m≤s.size):sof (bytesAt s p m)=ssub s (p:Int) ((p+m:Nat):Int):=by
 apply ba_ext
 unfold ssub
 rw[Int.toNat_natCast,Int.toNat_natCast,ByteArray.data_extract,Array.toList_extract]
 apply List.ext_getElem
 ·simp [sof,bytesAt,List.length_drop,List.length_take];omega
 ·intro i h1 h2
  have hi:i<m:=by simpa [sof,bytesAt] using h1
  simp only[sof,bytesAt,List.getElem_map,List.getElem_range]
  rw[sat_at s (p+i) (by omega)]
  simp
theorem sof_inj {a b:List Int} (ha: ∀x∈a,0≤x∧x<256) (hb: ∀x∈b,0≤x∧x<256) (h:sof a=sof b):a=b:=by
 have h':(a.map fun n=>UInt8.ofNat n.toNat)=b.map fun n=>UInt8.ofNat n.toNat:=by
  have:=congrArg (fun s=>s.data.toList) h
  simpa [sof] using this
 have g: ∀l:List Int,(∀x∈l,0≤x∧x<256)→(l.map fun n=>UInt8.ofNat n.toNat).map (fun b=>(b.toNat:Int))=l:=by
  intro l hl
  induction l with
  |nil=>rfl
  |cons x l ih=>
   have hx:=hl x (List.mem_cons_self ..)
   simp only[List.map_cons]
   rw[ih fun y hy=>hl y (List.mem_cons_of_mem _ hy)]
   congr 1
   rw[UInt8.toNat_ofNat']
   omega
 rw[←g a ha,←g b hb,h']
theorem varL_byte: ∀ (k:Nat) (x:Int),∀y∈varL k x,0≤y∧y<256
 |0,x,y,h=>by
  simp only[varL,List.mem_cons,List.not_mem_nil,or_false] at h
  subst h
  unfold iconv;rw[wrap_u8];omega
 |k+1,x,y,h=>by
  unfold varL at h
  split at h
  ·rcases List.mem_cons.1 h with rfl|h
   ·unfold iconv;rw[wrap_u8];omega
   ·exact varL_byte k _ y h
  ·simp only[List.mem_cons,List.not_mem_nil,or_false] at h
   subst h
   unfold iconv;rw[wrap_u8];omega
def Pre (s:ByteArray) (p j:Nat) (n:Int):Prop:=0≤n∧n<128^j∧ ∀ (k:Nat) (m:Int),0<m→varL (k+j) (n+m*128^j)=bytesAt s p j++varL k m
theorem pre_zero (s:ByteArray) (p:Nat):Pre s p 0 0:=⟨by omega,by decide,fun k m hm=>by simp [bytesAt]⟩
theorem pre_succ {s:ByteArray} {p j:Nat} {n:Int} (h:Pre s p j n) (hb:128≤sat s ((p+j:Nat):Int)):Pre s p (j+1) (n+sat s ((p+j:Nat):Int) % 128*128^j):=by
 obtain ⟨h0,h1,h2⟩:=h
 obtain ⟨b0,b1⟩:=sat_byte s ((p+j:Nat):Int)
 generalize hbb:sat s ((p+j:Nat):Int)=b at*
 have hp:(0:Int)<128^j:=Int.pow_pos (by decide)
 have hc:0≤b % 128∧b % 128≤127:=by omega
 refine ⟨Int.add_nonneg h0 (Int.mul_nonneg hc.1 (Int.le_of_lt hp)),?_,fun k m hm=>?_⟩
 ·rw[Int.pow_succ]
  have:=Int.mul_le_mul_of_nonneg_right hc.2 (Int.le_of_lt hp)
  omega
 ·have e:n+b % 128*128^j+m*128^ (j+1)=n+(b % 128+128*m)*128^j:=by rw[Int.pow_succ];grind
  rw[e,show k+(j+1)=(k+1)+j by omega,h2 (k+1) _ (by omega),bytesAt_succ,List.append_assoc]
  congr 1
  rw[varL,if_pos (by omega),show (b % 128+128*m) % 128=b % 128 by omega,show (b % 128+128*m)/128=m by omega]
  have e1:iconv .u8 (b % 128+128)=b:=by unfold iconv;rw[wrap_u8];omega
  rw[e1,hbb];rfl
theorem pre_last {s:ByteArray} {p j:Nat} {n:Int} (h:Pre s p j n) (hj:j≤4) (hs:p+j<s.size) (hb:sat s ((p+j:Nat):Int)<128):
 varV (n+sat s ((p+j:Nat):Int) % 128*128^j)=ssub s (p:Int) ((p+j+1:Nat):Int)↔ ¬(sat s ((p+j:Nat):Int)=0∧0<j):=by
 obtain ⟨h0,h1,h2⟩:=h
 obtain ⟨b0,b1⟩:=sat_byte s ((p+j:Nat):Int)
 have hB: ∀x∈bytesAt s p (j+1),0≤x∧x<256:=by
  intro x hx
  simp only[bytesAt,List.mem_map] at hx
  obtain ⟨i,_,rfl⟩:=hx
  exact sat_byte _ _
 have hsof:=sof_bytesAt s p (j+1) (by omega)
 rw[show p+j+1=p+(j+1) by omega,←hsof]
 have key:varL 9 (n+sat s ((p+j:Nat):Int) % 128*128^j)=bytesAt s p (j+1)↔ ¬(sat s ((p+j:Nat):Int)=0∧0<j):=by
  rw[bytesAt_succ]
  generalize sat s ((p+j:Nat):Int)=b at*
  rw[show b % 128=b by omega]
  by_cases hz:b=0
  ·subst hz
   by_cases hj0:j=0
   ·subst hj0
    have:n=0:=by simp at h1;omega
    subst this
    simp [bytesAt]
    rfl
   ·simp only[true_and]
    constructor
    ·intro hv
     exfalso
     rw[Int.zero_mul,Int.add_zero] at hv
     rcases Int.lt_or_le 0 n with hn|hn
     ·exact varL_last 9 n hn (Int.lt_of_lt_of_le h1 (by
       exact (by decide: ∀j:Fin 5,(128:Int)^ (j:Nat)≤128^ (9+1)) ⟨j,by omega⟩)) _ _ hv rfl
     ·have:n=0:=by omega
      subst this
      have:=congrArg List.length hv
      rw[List.length_append,bytesAt_len] at this
      simp [varL] at this
      omega
    ·intro hv;omega
  ·simp only[hz,false_and,not_false_eq_true,iff_true]
   by_cases hj0:j=0
   ·subst hj0
    have:n=0:=by simp at h1;omega
    subst this
    have e1:iconv .u8 b=b:=by unfold iconv;rw[wrap_u8];omega
    simp [bytesAt,varL]
    rw[if_neg (by omega),e1]
   ·have:=h2 (9-j) b (by omega)
    rw[show 9-j+j=9 by omega] at this
    rw[this]
    congr 1
    have e1:iconv .u8 b=b:=by unfold iconv;rw[wrap_u8];omega
    rw[show 9-j=(8-j)+1 by omega,varL,if_neg (by omega),e1]
 rw[←key]
 exact ⟨fun h=>sof_inj (varL_byte 9 _) hB h,fun h=>by rw[varV,h]⟩
def rvF (s:ByteArray) (p:Nat):Nat→Nat→Int→Option (Int×Nat)
 |0,_,_=>none
 |f+1,j,n=>if p+j<s.size then
   (if 128≤sat s ((p+j:Nat):Int) then rvF s p f (j+1) (n+sat s ((p+j:Nat):Int) % 128*128^j)
   else if (sat s ((p+j:Nat):Int)=0∧0<j)∨1000000000<n+sat s ((p+j:Nat):Int) % 128*128^j then none
   else some (n+sat s ((p+j:Nat):Int) % 128*128^j,p+j+1)) else none
theorem rvF_out (s:ByteArray) (p:Nat): ∀ (f j:Nat) (n:Int),Pre s p j n→j+f≤5→ ∀r,rvF s p f j n=some r→0≤r.1∧r.1≤1000000000∧p<r.2∧r.2≤p+5∧r.2≤s.size∧varV r.1=ssub s (p:Int) (r.2:Int)
 |0,j,n,hp,hj,r,h=>by cases h
 |f+1,j,n,hp,hj,r,h=>by
  unfold rvF at h
  split at h
  ·rename_i hs
   split at h
   ·rename_i hb
    exact rvF_out s p f (j+1) _ (pre_succ hp hb) (by omega) r h
   ·rename_i hb
    split at h
    ·cases h
    ·rename_i hc
     cases h
     have hc': ¬(sat s ((p+j:Nat):Int)=0∧0<j):=fun h=>hc (.inl h)
     have hl:=(pre_last hp (by omega) hs (by omega)).2 hc'
     have hn:0≤n+sat s ((p+j:Nat):Int) % 128*128^j:=Int.add_nonneg hp.1 (Int.mul_nonneg (by omega) (Int.le_of_lt (Int.pow_pos (by decide))))
     refine ⟨hn,?_,?_,?_,?_,hl⟩
     ·rcases Int.lt_or_le 1000000000 (n+sat s ((p+j:Nat):Int) % 128*128^j) with h'|h'
      ·exact (hc (.inr h')).elim
      ·exact h'
     ·show p<p+j+1;omega
     ·show p+j+1≤p+5;omega
     ·show p+j+1≤s.size;omega
  ·cases h
def rvT (o:Option (Int×Nat)):tPoint:=match o with
 |some r=>(r.1,((r.2:Int),(true,())))
 |none=>(0,(0,(false,())))
theorem pow_le {j:Nat} (hj:j≤4):(128:Int)^j≤268435456∧(0:Int)<128^j:=by
 have:=(by decide: ∀j:Fin 5,(128:Int)^ (j:Nat)≤268435456∧(0:Int)<128^ (j:Nat)) ⟨j,by omega⟩
 exact this
theorem mulc {c q:Int} (h0:0≤c) (h1:c≤127) (h2:0<q) (h3:q≤268435456):0≤c*q∧c*q≤127*268435456:=
 ⟨Int.mul_nonneg h0 (Int.le_of_lt h2),Int.mul_le_mul h1 h3 (Int.le_of_lt h2) (by decide)⟩
theorem iRead_loop (s:ByteArray) (p:Nat) (hs:s.size≤1099511627776) (hps:p≤s.size): ∀ (f j:Nat) (n:Int),Pre s p j n→j+f=5→iReadVar_D5 (s,((p:Int),(n,((128:Int)^j,((j:Int),())))))=some (rvT (rvF s p f j n),())
 |0,j,n,hp,hj=>by
  rw[iReadVar_q5,ilt_f (by omega),cnd_f]
  rfl
 |f+1,j,n,hp,hj=>by
  have hp':=hp
  obtain ⟨h0,h1,_⟩:=hp'
  obtain ⟨q1,q0⟩:=pow_le (j:=j) (by omega)
  obtain ⟨b0,b1⟩:=sat_byte s ((p+j:Nat):Int)
  obtain ⟨c0,c1⟩:=mulc (c:=sat s ((p+j:Nat):Int) % 128) (by omega) (by omega) q0 q1
  have eb:=(byte_ops b0 b1).1
  rw[iReadVar_q5,ilt_t (by omega),cnd_t,iadd_64 (by omega) (by omega),show (p:Int)+(j:Int)=((p+j:Nat):Int) by omega,ssz_d]
  unfold rvF
  by_cases hl:p+j<s.size
  ·rw[if_pos hl,ilt_t (by omega),cnd_t,inb_t (by omega) (by omega),cnd_t,show nz 128=true from rfl,cnd_t,eb,ige_d,irem_0 b0,imul_64 (by omega) (by omega),iadd_64 (by omega) (by omega)]
   by_cases hb:128≤sat s ((p+j:Nat):Int)
   ·rw[decide_eq_true hb,cnd_t,if_pos hb,imul_64 (by omega) (by omega),nx (by omega)]
    have:=iRead_loop s p hs hps f (j+1) _ (pre_succ hp hb) (by omega)
    rw[Int.pow_succ] at this
    exact this
   ·rw[decide_eq_false hb,cnd_f,if_neg hb]
    have hgt: ∀x:Int,0≤x→x≤127*268435456+268435456→(cnd (igt x 1000000000) (some (zPoint,())) (iReadVar_D13 ((p:Int),(x,((j:Int),()))))=some (rvT (if 1000000000<x then none else some (x,p+j+1)),())):=by
     intro x x0 x1
     by_cases hx:1000000000<x
     ·rw[igt_t hx,cnd_t,if_pos hx];rfl
     ·rw[igt_f (by omega),cnd_f,if_neg hx,iReadVar_q13,iadd_64 (x:=(p:Int)) (by omega) (by omega),iadd_64 (by omega) (by omega),show (p:Int)+(j:Int)+1=((p+j+1:Nat):Int) by omega];rfl
    by_cases hz:sat s ((p+j:Nat):Int)=0
    ·rw[ieq_d,decide_eq_true hz,cnd_t]
     by_cases hj0:0<j
     ·rw[igt_t (by omega),cnd_t,if_pos (.inl ⟨hz,hj0⟩)];rfl
     ·rw[igt_f (by omega),cnd_f,hgt _ (by omega) (by omega)]
      simp only[hz,hj0,and_false,false_or]
    ·rw[ieq_d,decide_eq_false hz,cnd_f,hgt _ (by omega) (by omega)]
     simp only[hz,false_and,false_or]
  ·rw[if_neg hl,ilt_f (by omega),cnd_f]
   rfl
theorem sRead_loop (s:ByteArray) (p:Nat) (hs:s.size≤1099511627776) (hps:p≤s.size): ∀ (f j:Nat) (n:Int),Pre s p j n→j+f=5→sReadVar_D6 (s,((p:Int),(n,((128:Int)^j,(((p+j:Nat):Int),())))))=some (rvT (rvF s p f j n),())
 |0,j,n,hp,hj=>by
  rw[sReadVar_q6]
  by_cases hl:p+j<s.size
  ·rw[ilt_t (by rw[ssz_d];omega),cnd_t,iadd_64 (by omega) (by omega),ilt_f (by omega),cnd_f]
   rfl
  ·rw[ilt_f (by rw[ssz_d];omega),cnd_f]
   rfl
 |f+1,j,n,hp,hj=>by
  have hp':=hp
  obtain ⟨h0,h1,_⟩:=hp'
  obtain ⟨q1,q0⟩:=pow_le (j:=j) (by omega)
  obtain ⟨b0,b1⟩:=sat_byte s ((p+j:Nat):Int)
  obtain ⟨c0,c1⟩:=mulc (c:=sat s ((p+j:Nat):Int) % 128) (by omega) (by omega) q0 q1
  have eb:=(byte_ops b0 b1).1
  rw[sReadVar_q6]
  unfold rvF
  by_cases hl:p+j<s.size
  ·rw[if_pos hl,ssz_d,ilt_t (by omega),cnd_t,iadd_64 (x:=(p:Int)) (by omega) (by omega),ilt_t (by omega),cnd_t,inb_t (by omega) (by omega),cnd_t,show nz 128=true from rfl,cnd_t,cnd_t,eb,ilt_d,irem_0 b0,imul_64 (by omega) (by omega),iadd_64 (by omega) (by omega)]
   have e1:iadd .i64 ((p+j:Nat):Int) 1=((p+j+1:Nat):Int):=next_at (by omega)
   by_cases hb:128≤sat s ((p+j:Nat):Int)
   ·rw[decide_eq_false (by omega),cnd_f,if_pos hb,imul_64 (by omega) (by omega),e1]
    have:=sRead_loop s p hs hps f (j+1) _ (pre_succ hp hb) (by omega)
    rw[Int.pow_succ] at this
    exact this
   ·rw[decide_eq_true (by omega),cnd_t,if_neg hb]
    have hcan:=pre_last hp (by omega) hl (by omega)
    by_cases hx:1000000000<n+sat s ((p+j:Nat):Int) % 128*128^j
    ·rw[igt_t hx,cnd_t,if_pos (.inr hx)];rfl
    ·rw[igt_f (by omega),cnd_f,sVar_l _ (by omega) (by omega),bnd_s,e1,inb2_t (by omega) (by omega) (by omega),cnd_t,sne_d]
     by_cases hc:sat s ((p+j:Nat):Int)=0∧0<j
     ·rw[decide_eq_false fun h=>hcan.1 h hc,if_pos (.inl hc)];rfl
     ·rw[decide_eq_true (hcan.2 hc),if_neg fun h=>h.elim hc hx];rfl
  ·rw[if_neg hl,ssz_d,ilt_f (by omega),cnd_f]
   rfl
def readVar (s:ByteArray) (p:Int):Option (Int×Nat):=if 0≤p∧p≤(s.size:Int) then rvF s p.toNat 5 0 0 else none
theorem iReadVar_l (s:ByteArray) (p:Int) (hs:s.size≤1099511627776):iReadVar_d (s,(p,()))=some (rvT (readVar s p),()):=by
 unfold readVar
 rw[iReadVar_b,ssz_d]
 by_cases h0:0≤p
 ·rw[ilt_f h0,cnd_f]
  by_cases h1:p≤(s.size:Int)
  ·rw[igt_f h1,cnd_f,if_pos ⟨h0,h1⟩]
   obtain ⟨n,rfl⟩:=Int.eq_ofNat_of_zero_le h0
   exact iRead_loop s n hs (by omega) 5 0 0 (pre_zero s n) rfl
  ·rw[igt_t (by omega),cnd_t,if_neg fun h=>h1 h.2];rfl
 ·rw[ilt_t (by omega),cnd_t,if_neg fun h=>h0 h.1];rfl
theorem sReadVar_l (s:ByteArray) (p:Int) (hs:s.size≤1099511627776):sReadVar_d (s,(p,()))=some (rvT (readVar s p),()):=by
 unfold readVar
 rw[sReadVar_b,sIn_l,bnd_s,ssz_d]
 by_cases h:0≤p∧p≤(s.size:Int)
 ·simp only[decide_eq_true h,bnot,Bool.not_true,cnd_f]
  rw[if_pos h]
  obtain ⟨n,rfl⟩:=Int.eq_ofNat_of_zero_le h.1
  exact sRead_loop s n hs (by omega) 5 0 0 (pre_zero s n) rfl
 ·simp only[decide_eq_false h,bnot,Bool.not_false,cnd_t]
  rw[if_neg h];rfl
theorem readVar_out {s:ByteArray} {p:Int} {r:Int×Nat} (h:readVar s p=some r):0≤p∧0≤r.1∧r.1≤1000000000∧p<(r.2:Int)∧(r.2:Int)≤p+5∧r.2≤s.size∧varV r.1=ssub s p (r.2:Int):=by
 unfold readVar at h
 split at h
 ·rename_i hp
  obtain ⟨n,rfl⟩:=Int.eq_ofNat_of_zero_le hp.1
  obtain ⟨h1,h2,h3,h4,h5,h6⟩:=rvF_out s n 5 0 0 (pre_zero s n) (by omega) r h
  exact ⟨hp.1,h1,h2,by omega,by omega,h5,h6⟩
 ·cases h
end Go.Proofs.YtkfifjaomgjnnaaGreatDoor
