/- An update out of its text: the program and the reference answer the same. Of no condition. -/
import Derived.Test.YtkfifjaomgjnnaaGreatDoorUB
set_option linter.unusedVariables false
set_option linter.unusedSimpArgs false
set_option maxRecDepth 100000
namespace Go.Proofs.YtkfifjaomgjnnaaGreatDoor
open Go.TV
noncomputable def q1 (s:ByteArray):tHead×Pos:=hd s (0,false)
noncomputable def q2 (s:ByteArray):ByteArray×Pos:=tk s 27 (q1 s).2
noncomputable def q3 (s:ByteArray):List ByteArray×Pos:=br s (q2 s).2
noncomputable def q4 (s:ByteArray):tHead×Pos:=hd s (q3 s).2
noncomputable def q5 (s:ByteArray):List ByteArray×Pos:=br s (q4 s).2
noncomputable def q6 (s:ByteArray):ByteArray×Pos:=tk s 1 (q5 s).2
noncomputable def q7 (s:ByteArray):ByteArray×Pos:=tk s 3 (q6 s).2
noncomputable def q8 (s:ByteArray):ByteArray×Pos:=tk s 9 (q7 s).2
noncomputable def q9 (s:ByteArray):Int×Pos:=nu s (q8 s).2
theorem q_le (s:ByteArray):(q1 s).2.1≤s.size∧(q2 s).2.1≤s.size∧(q3 s).2.1≤s.size∧(q4 s).2.1≤s.size∧(q5 s).2.1≤s.size∧(q6 s).2.1≤s.size∧(q7 s).2.1≤s.size∧(q8 s).2.1≤s.size:=by
 have h1:(q1 s).2.1≤s.size:=hd_le (Nat.zero_le _)
 have h2:(q2 s).2.1≤s.size:=tk_le h1
 have h3:(q3 s).2.1≤s.size:=br_le h2
 have h4:(q4 s).2.1≤s.size:=hd_le h3
 have h5:(q5 s).2.1≤s.size:=br_le h4
 have h6:(q6 s).2.1≤s.size:=tk_le h5
 have h7:(q7 s).2.1≤s.size:=tk_le h6
 exact ⟨h1,h2,h3,h4,h5,h6,h7,tk_le h7⟩
noncomputable def rawU (s:ByteArray):tUpdate:=((q1 s).1,((readCommittee (q2 s).1).1,((q3 s).1,((q4 s).1,((q5 s).1,(sat (q6 s).1 0,((readPoint (q7 s).1).1,((readProof (q8 s).1).1,((q9 s).1,())))))))))
theorem rawU_fine (s:ByteArray):UFine (rawU s):=⟨Nat.le_trans (readCommittee_len _) (by decide),(by decide:2≤16777216),(by decide:2≤16777216)⟩
noncomputable def okU (s:ByteArray):Bool:=(!(q9 s).2.2&&decide ((q9 s).2.1=s.size))&&((readCommittee (q2 s).1).2&&((readPoint (q7 s).1).2&&((readProof (q8 s).1).2&&updateOk (rawU s))))
noncomputable def whole (t:ByteArray):Bool:=decide (4≤t.size)&&(decide (t.size≤20004)&&decide (sumV (ssub t 0 ((t.size-4:Nat):Int))=ssub t ((t.size-4:Nat):Int) (t.size:Int)))
noncomputable def inner (t:ByteArray):ByteArray:=ssub t 0 ((t.size-4:Nat):Int)
theorem inner_size (t:ByteArray):(inner t).size=t.size-4:=by
 have:=ssub_size t 0 (t.size-4) (by omega) (by omega);simpa [inner] using this
noncomputable def readUpdate (t:ByteArray):tUpdate×Bool:=if whole t=true∧okU (inner t)=true then (rawU (inner t),true) else (zUpdate,false)
theorem whole_if (t:ByteArray):(if 4≤t.size∧t.size≤20004∧sumV (ssub t 0 ((t.size-4:Nat):Int))=ssub t ((t.size-4:Nat):Int) (t.size:Int) then (ssub t 0 ((t.size-4:Nat):Int),(true,())) else zL21Cur:tL21Cur)=bif whole t then (inner t,(true,())) else zL21Cur:=by
 unfold whole inner
 by_cases h1:4≤t.size<;>by_cases h2:t.size≤20004<;>by_cases h3:sumV (ssub t 0 ((t.size-4:Nat):Int))=ssub t ((t.size-4:Nat):Int) (t.size:Int)<;>simp [h1,h2,h3]
theorem tk_good {s:ByteArray} {n:Nat} {x:Pos} (h:(tk s n x).2.2=false):x.2=false∧x.1+n≤s.size∧(tk s n x)=(ssub s (x.1:Int) ((x.1+n:Nat):Int),(x.1+n,false)):=by
 obtain ⟨p,b⟩:=x
 cases b
 ·by_cases hn:p+n≤s.size
  ·exact ⟨rfl,hn,tk_ok hn⟩
  ·rw[tk_end (by omega)] at h;cases h
 ·rw[tk_bad] at h;cases h
theorem nu_good {s:ByteArray} {x:Pos} (h:(nu s x).2.2=false):x.2=false:=by
 obtain ⟨p,b⟩:=x
 cases b
 ·rfl
 ·rw[nu_bad] at h;cases h
theorem q6_size {s:ByteArray} (h:(q9 s).2.2=false):(q6 s).1.size=1:=by
 have h8:(q8 s).2.2=false:=nu_good h
 have h7:(q7 s).2.2=false:=(tk_good h8).1
 have h6:(q6 s).2.2=false:=(tk_good h7).1
 obtain ⟨_,h1,h2⟩:=tk_good (s:=s) (n:=1) (x:=(q5 s).2) h6
 have:(q6 s).1=ssub s ((q5 s).2.1:Int) (((q5 s).2.1+1:Nat):Int):=by unfold q6;rw[h2]
 rw[this,ssub_size s _ _ (by omega) h1];omega
theorem iReadUpdate_l (t:ByteArray) (ht:t.size≤1099511):iReadUpdate_d (t,())=some (((readUpdate t).1,((readUpdate t).2,())),()):=by
 unfold readUpdate
 rw[iReadUpdate_b,iUnsealed_l t ht,bnd_s,whole_if]
 cases hsl:whole t
 ·rfl
 ·simp only[cond_true,true_and]
  have hz:=inner_size t
  generalize hs:inner t=s at*
  have hss:s.size≤1099511627776:=by omega
  obtain ⟨h1,h2,h3,h4,h5,h6,h7,h8⟩:=q_le s
  have e1:iScanner_head_d (((s,((0:Int),(false,()))):tScanner),())=some (((q1 s).1,()),(scS s (q1 s).2,())):=iHead_l s (0,false) hss (Nat.zero_le _)
  have e2:iScanner_take_d (scS s (q1 s).2,((27:Int),()))=some (((q2 s).1,()),(scS s (q2 s).2,())):=iTake_l s 27 _ hss (by decide) h1
  have e3:iScanner_branch_d (scS s (q2 s).2,())=some (((q3 s).1,()),(scS s (q3 s).2,())):=iBranch_l s _ hss h2
  have e4:iScanner_head_d (scS s (q3 s).2,())=some (((q4 s).1,()),(scS s (q4 s).2,())):=iHead_l s _ hss h3
  have e5:iScanner_branch_d (scS s (q4 s).2,())=some (((q5 s).1,()),(scS s (q5 s).2,())):=iBranch_l s _ hss h4
  have e6:iScanner_take_d (scS s (q5 s).2,((1:Int),()))=some (((q6 s).1,()),(scS s (q6 s).2,())):=iTake_l s 1 _ hss (by decide) h5
  have e7:iScanner_take_d (scS s (q6 s).2,((3:Int),()))=some (((q7 s).1,()),(scS s (q7 s).2,())):=iTake_l s 3 _ hss (by decide) h6
  have e8:iScanner_take_d (scS s (q7 s).2,((9:Int),()))=some (((q8 s).1,()),(scS s (q8 s).2,())):=iTake_l s 9 _ hss (by decide) h7
  have e9:iScanner_number_d (scS s (q8 s).2,())=some (((q9 s).1,()),(scS s (q9 s).2,())):=iNumber_l s _ hss
  rw[show bnot true=false from rfl,cnd_f,e1,bnd_s,e2,bnd_s,e3,bnd_s,e4,bnd_s,e5,bnd_s,e6,bnd_s,e7,bnd_s,e8,bnd_s,e9,bnd_s,iDone_l,bnd_s]
  simp only[]
  unfold okU
  cases hd:(!(q9 s).2.2&&decide ((q9 s).2.1=s.size))
  ·rfl
  ·have hb:(q9 s).2.2=false:=by
    cases hq:(q9 s).2.2
    ·rfl
    ·rw[hq] at hd;cases hd
   rw[show bnot true=false from rfl,cnd_f,ssz_d,q6_size hb,inb_t (by decide) (by decide),cnd_t,iReadCommittee_l,bnd_s,iReadPoint_l,bnd_s,iReadProof_l,bnd_s,byte_i64]
   simp only[]
   have e:((q1 s).1,((readCommittee (q2 s).1).1,((q3 s).1,((q4 s).1,((q5 s).1,(sat (q6 s).1 0,((readPoint (q7 s).1).1,((readProof (q8 s).1).1,((q9 s).1,())))))))))=rawU s:=rfl
   rw[e,iUpdateOk_l _ (rawU_fine s),bnd_s]
   cases (readCommittee (q2 s).1).2<;>cases (readPoint (q7 s).1).2<;>cases (readProof (q8 s).1).2<;>cases updateOk (rawU s)<;>rfl
noncomputable def c1 (s:ByteArray):tHead×tL21Cur:=hd' (s,(false,()))
noncomputable def c2 (s:ByteArray):ByteArray×tL21Cur:=tk' 27 (c1 s).2
noncomputable def c3 (s:ByteArray):List ByteArray×tL21Cur:=br' (c2 s).2
noncomputable def c4 (s:ByteArray):tHead×tL21Cur:=hd' (c3 s).2
noncomputable def c5 (s:ByteArray):List ByteArray×tL21Cur:=br' (c4 s).2
noncomputable def c6 (s:ByteArray):ByteArray×tL21Cur:=tk' 1 (c5 s).2
noncomputable def c7 (s:ByteArray):ByteArray×tL21Cur:=tk' 3 (c6 s).2
noncomputable def c8 (s:ByteArray):ByteArray×tL21Cur:=tk' 9 (c7 s).2
theorem c_le (s:ByteArray):(c1 s).2.1.size≤s.size∧(c2 s).2.1.size≤s.size∧(c3 s).2.1.size≤s.size∧(c4 s).2.1.size≤s.size∧(c5 s).2.1.size≤s.size∧(c6 s).2.1.size≤s.size∧(c7 s).2.1.size≤s.size∧(c8 s).2.1.size≤s.size:=by
 have h1:(c1 s).2.1.size≤s.size:=by unfold c1;exact hd'_le
 have h2:(c2 s).2.1.size≤s.size:=by unfold c2;exact Nat.le_trans tk'_le h1
 have h3:(c3 s).2.1.size≤s.size:=by unfold c3;exact Nat.le_trans br'_le h2
 have h4:(c4 s).2.1.size≤s.size:=by unfold c4;exact Nat.le_trans hd'_le h3
 have h5:(c5 s).2.1.size≤s.size:=by unfold c5;exact Nat.le_trans br'_le h4
 have h6:(c6 s).2.1.size≤s.size:=by unfold c6;exact Nat.le_trans tk'_le h5
 have h7:(c7 s).2.1.size≤s.size:=by unfold c7;exact Nat.le_trans tk'_le h6
 have h8:(c8 s).2.1.size≤s.size:=by unfold c8;exact Nat.le_trans tk'_le h7
 exact ⟨h1,h2,h3,h4,h5,h6,h7,h8⟩
theorem c_gen (s:ByteArray) {Q1 Q4:tHead×Pos} {Q2 Q6 Q7 Q8:ByteArray×Pos} {Q3 Q5:List ByteArray×Pos} {C1 C4:tHead×tL21Cur} {C2 C6 C7 C8:ByteArray×tL21Cur} {C3 C5:List ByteArray×tL21Cur}
 (a1:hd s (0,false)=Q1) (a2:tk s 27 Q1.2=Q2) (a3:br s Q2.2=Q3) (a4:hd s Q3.2=Q4) (a5:br s Q4.2=Q5) (a6:tk s 1 Q5.2=Q6) (a7:tk s 3 Q6.2=Q7) (a8:tk s 9 Q7.2=Q8)
 (b1:hd' (s,(false,()))=C1) (b2:tk' 27 C1.2=C2) (b3:br' C2.2=C3) (b4:hd' C3.2=C4) (b5:br' C4.2=C5) (b6:tk' 1 C5.2=C6) (b7:tk' 3 C6.2=C7) (b8:tk' 9 C7.2=C8):
 (C8.2.2.1=true∧(Q8.2.2=true∨headOk Q1.1=false∨headOk Q4.1=false))∨
 (Q8.2.2=false∧C8.2=(ssub s (Q8.2.1:Int) (s.size:Int),(false,()))∧C1.1=Q1.1∧C2.1=Q2.1∧C3.1=Q3.1∧C4.1=Q4.1∧C5.1=Q5.1∧C6.1=Q6.1∧C7.1=Q7.1∧C8.1=Q8.1∧Q6.1.size=1∧Q8.2.1≤s.size∧
  ∃n0 n1 f0 f1,Q3.1=[n0,n1]∧Q5.1=[f0,f1]∧scat (scat (scat (scat (scat (scat (scat (scat (scat (headT Q1.1) Q2.1) n0) n1) (headT Q4.1)) f0) f1) Q6.1) Q7.1) Q8.1=ssub s 0 (Q8.2.1:Int)):=by
 have r0:Rel1 s (headOk Q1.1=false∨headOk Q4.1=false) (0,false) (s,(false,())):=⟨Nat.zero_le _, .inl ⟨rfl,by rw[show (((0,false):Pos).1:Int)=0 from rfl,ssub_same]⟩⟩
 obtain ⟨r1,k1⟩:=hd_rel r0 (by rw[a1];exact .inl)
 rw[a1,b1] at r1 k1
 obtain ⟨r2,k2⟩:=tk_rel 27 r1
 rw[a2,b2] at r2 k2
 obtain ⟨r3,k3⟩:=br_rel r2
 rw[a3,b3] at r3 k3
 obtain ⟨r4,k4⟩:=hd_rel r3 (by rw[a4];exact .inr)
 rw[a4,b4] at r4 k4
 obtain ⟨r5,k5⟩:=br_rel r4
 rw[a5,b5] at r5 k5
 obtain ⟨r6,k6⟩:=tk_rel 1 r5
 rw[a6,b6] at r6 k6
 obtain ⟨r7,k7⟩:=tk_rel 3 r6
 rw[a7,b7] at r7 k7
 obtain ⟨r8,k8⟩:=tk_rel 9 r7
 rw[a8,b8] at r8 k8
 clear a1 a2 a3 a4 a5 a6 a7 a8 b1 b2 b3 b4 b5 b6 b7 b8 r0 r1 r2 r3 r4 r5 r6 r7
 obtain ⟨hp,⟨hb,hc⟩| ⟨hc,hx⟩⟩:=r8
 ·right
  have g8:C8.2.2.1=false:=by rw[hc]
  obtain ⟨g7,a8,_,p8,t8,l8⟩:=k8 g8
  obtain ⟨g6,a7,_,p7,t7,l7⟩:=k7 g7
  obtain ⟨g5,a6,_,p6,t6,l6⟩:=k6 g6
  obtain ⟨g4,a5,_,p5,l5,t5⟩:=k5 g5
  obtain ⟨g3,a4,_,x4,p4,m4,l4,t4⟩:=k4 g4
  obtain ⟨g2,a3,_,p3,l3,t3⟩:=k3 g3
  obtain ⟨g1,a2,_,p2,t2,l2⟩:=k2 g2
  obtain ⟨_,a1,_,x1,p1,m1,l1,t1⟩:=k1 g1
  refine ⟨hb,hc,a1,a2,a3,a4,a5,a6,a7,a8,?_,hp,_,_,_,_,t3,t5,?_⟩
  ·rw[t6,ssub_size s _ _ (by omega) l6];omega
  ·clear k1 k2 k3 k4 k5 k6 k7 k8 hb hc a1 a2 a3 a4 a5 a6 a7 a8 g1 g2 g3 g4 g5 g6 g7 g8
   rw[p8]
   rw[p7] at l8 t8⊢
   rw[p6] at l7 t7 l8 t8⊢
   rw[p5] at l6 t6 l7 t7 l8 t8⊢
   rw[p4] at l5 t5 l6 t6 l7 t7 l8 t8⊢
   rw[p3] at m4 t4
   rw[p2] at l3 t3 m4 t4⊢
   rw[p1] at l2 t2 l3 t3 m4 t4⊢
   simp only at*
   have u1:headT Q1.1=ssub s 0 (x1:Int):=t1
   rw[u1,t2,t4,t6,t7,t8]
   have z:(0:Int)=((0:Nat):Int):=rfl
   rw[z,←ssub_split s 0 x1 (x1+27) (by omega) (by omega),←ssub_split s 0 (x1+27) (x1+27+32) (by omega) (by omega),←ssub_split s 0 (x1+27+32) (x1+27+64) (by omega) (by omega),←ssub_split s 0 (x1+27+64) x4 (by omega) (by omega),←ssub_split s 0 x4 (x4+32) (by omega) (by omega),←ssub_split s 0 (x4+32) (x4+64) (by omega) (by omega),←ssub_split s 0 (x4+64) (x4+64+1) (by omega) (by omega),←ssub_split s 0 (x4+64+1) (x4+64+1+3) (by omega) (by omega),←ssub_split s 0 (x4+64+1+3) (x4+64+1+3+9) (by omega) (by omega)]
 ·exact .inl ⟨hc,hx⟩
theorem whole_out {t:ByteArray} (h:whole t=true):4≤t.size∧t.size≤20004∧scat (inner t) (sumV (inner t))=t:=by
 unfold whole at h
 simp only[Bool.and_eq_true,decide_eq_true_eq] at h
 obtain ⟨h1,h2,h3⟩:=h
 refine ⟨h1,h2,?_⟩
 unfold inner
 rw[h3]
 have e:=ssub_split t 0 (t.size-4) t.size (by omega) (by omega)
 exact e.symm.trans (ssub_same t)
theorem okU_bad {s:ByteArray} (h:(q8 s).2.2=true∨headOk (q1 s).1=false∨headOk (q4 s).1=false):okU s=false:=by
 unfold okU
 rcases h with hx|hx
 ·have:(q9 s).2.2=true:=nu_sticky hx
  rw[this];rfl
 ·have:updateOk (rawU s)=false:=by
   unfold updateOk rawU
   simp only[]
   rcases hx with hx|hx
   ·rw[hx];rfl
   ·rw[hx];simp
  rw[this];simp
theorem updT_raw {s:ByteArray} {n0 n1 f0 f1:ByteArray} {r:Int×Nat} (hn:(q3 s).1=[n0,n1]) (hf:(q5 s).1=[f0,f1]) (h6:(q6 s).1.size=1) (hc:(readCommittee (q2 s).1).2=true) (hp:(readPoint (q7 s).1).2=true) (hq:(readProof (q8 s).1).2=true)
 (hr:readVar s ((q8 s).2.1:Int)=some r) (hz:r.2=s.size) (h9:(q9 s).1=r.1)
 (e:scat (scat (scat (scat (scat (scat (scat (scat (scat (headT (q1 s).1) (q2 s).1) n0) n1) (headT (q4 s).1)) f0) f1) (q6 s).1) (q7 s).1) (q8 s).1=ssub s 0 ((q8 s).2.1:Int)):updT (rawU s)=s:=by
 obtain ⟨_,n0',n1',g1,g2,g3,g4⟩:=readVar_out hr
 have hb:sof [iconv .u8 (sat (q6 s).1 0)]=(q6 s).1:=by
  have h:=sof_bytesAt (q6 s).1 0 1 (by omega)
  have e1:ssub (q6 s).1 ((0:Nat):Int) ((0+1:Nat):Int)=(q6 s).1:=by
   have:=ssub_same (q6 s).1
   rw[h6] at this
   exact this
  rw[e1] at h
  have e2:iconv .u8 (sat (q6 s).1 0)=sat (q6 s).1 0:=by
   obtain ⟨a,b⟩:=sat_byte (q6 s).1 0
   unfold iconv;rw[wrap_u8];omega
  rw[e2];exact h
 have hs:=ssub_split s 0 (q8 s).2.1 r.2 (Nat.zero_le _) (by omega)
 unfold updT rawU
 simp only[]
 rw[(readCommittee_out hc).2,readPoint_out hp,(readProof_out hq).2,hn,hf,hb,h9,g4,
  show rd (bs []) [n0,n1] 0=n0 from rfl,show rd (bs []) [n0,n1] 1=n1 from rfl,show rd (bs []) [f0,f1] 0=f0 from rfl,show rd (bs []) [f0,f1] 1=f1 from rfl,e]
 refine hs.symm.trans ?_
 rw[hz];exact ssub_same s
theorem size_pos {x:ByteArray} (h0:x≠bs []):1≤x.size:=by
 rcases Nat.lt_or_ge 0 x.size with hz|hz
 ·exact hz
 ·exact (h0 (ba_ext (by
   have:x.data.toList.length=0:=by rw[Array.length_toList];exact Nat.le_zero.1 hz
   rw[List.length_eq_zero_iff.1 this];rfl))).elim
set_option maxHeartbeats 1000000 in
theorem sReadUpdate_l (t:ByteArray) (ht:t.size≤1099511):sReadUpdate_d (t,())=some (((readUpdate t).1,((readUpdate t).2,())),()):=by
 unfold readUpdate
 rw[sReadUpdate_b,sUnsealed_l t ht,bnd_s,whole_if]
 cases hsl:whole t
 ·rfl
 ·simp only[cond_true,true_and]
  have hz:=inner_size t
  obtain ⟨w1,w2,hw⟩:=whole_out hsl
  generalize hs:inner t=s at*
  have hss:s.size≤1099511627776:=by omega
  obtain ⟨h1,h2,h3,h4,h5,h6,h7,h8⟩:=c_le s
  have e1:sL21Head_d (((s,(false,())):tL21Cur),())=some (((c1 s).1,()),((c1 s).2,())):=sHead_l _ hss
  have e2:sL21Take_d ((c1 s).2,((27:Int),()))=some (((c2 s).1,()),((c2 s).2,())):=sTake_l _ 27 (Nat.le_trans h1 hss)
  have e3:sL21Branch_d ((c2 s).2,())=some (((c3 s).1,()),((c3 s).2,())):=sBranch_l _ (Nat.le_trans h2 hss)
  have e4:sL21Head_d ((c3 s).2,())=some (((c4 s).1,()),((c4 s).2,())):=sHead_l _ (Nat.le_trans h3 hss)
  have e5:sL21Branch_d ((c4 s).2,())=some (((c5 s).1,()),((c5 s).2,())):=sBranch_l _ (Nat.le_trans h4 hss)
  have e6:sL21Take_d ((c5 s).2,((1:Int),()))=some (((c6 s).1,()),((c6 s).2,())):=sTake_l _ 1 (Nat.le_trans h5 hss)
  have e7:sL21Take_d ((c6 s).2,((3:Int),()))=some (((c7 s).1,()),((c7 s).2,())):=sTake_l _ 3 (Nat.le_trans h6 hss)
  have e8:sL21Take_d ((c7 s).2,((9:Int),()))=some (((c8 s).1,()),((c8 s).2,())):=sTake_l _ 9 (Nat.le_trans h7 hss)
  have e9:=sReadVar_l (c8 s).2.1 0 (Nat.le_trans h8 hss)
  have key:=c_gen s (Q1:=q1 s) (Q2:=q2 s) (Q3:=q3 s) (Q4:=q4 s) (Q5:=q5 s) (Q6:=q6 s) (Q7:=q7 s) (Q8:=q8 s) (C1:=c1 s) (C2:=c2 s) (C3:=c3 s) (C4:=c4 s) (C5:=c5 s) (C6:=c6 s) (C7:=c7 s) (C8:=c8 s) rfl rfl rfl rfl rfl rfl rfl rfl rfl rfl rfl rfl rfl rfl rfl rfl
  rw[show bnot true=false from rfl,cnd_f,e1,bnd_s,e2,bnd_s,sReadCommittee_l,bnd_s,e3,bnd_s,e4,bnd_s,e5,bnd_s,e6,bnd_s]
  simp only[]
  rcases key with ⟨hc,hx⟩| ⟨hb,hc8,a1,a2,a3,a4,a5,a6,a7,a8,hs6,hp8,n0,n1,f0,f1,hn,hf,ht8⟩
  ·have hbad: ∀b:Int,sReadUpdate_D14 (t,((readCommittee (c2 s).1).2,(zUpdate,(((c1 s).1,((readCommittee (c2 s).1).1,((c3 s).1,((c4 s).1,((c5 s).1,(b,(zPoint,(zProof,((0:Int),()))))))))),((c6 s).2,())))))=some ((zUpdate,(false,())),()):=fun b=>by
    rw[sReadUpdate_q14,e7,bnd_s,sReadPoint_l,bnd_s,e8,bnd_s,sReadProof_l,bnd_s]
    simp only[]
    rw[e9,bnd_s,hc,cnd_t]
   rw[hbad,hbad,if_neg (by rw[okU_bad hx];exact fun h=>nomatch h),sne_d]
   by_cases h0:(c6 s).1=bs []
   ·rw[decide_eq_true h0];rfl
   ·have:=size_pos h0
    rw[decide_eq_false h0,ssz_d,inb_t (by omega) (by omega)];rfl
  ·have h0:(c6 s).1≠bs []:=fun h=>by rw[a6] at h;rw[h,size_bs] at hs6;cases hs6
   have hv:=readVar_cut s (q8 s).2.1 s.size hp8 (Nat.le_refl _)
   have hzz:=ssub_size s (q8 s).2.1 s.size hp8 (Nat.le_refl _)
   rw[sne_d,decide_eq_false h0,Bool.not_false,cnd_t,ssz_d,a6,hs6,inb_t (by decide) (by decide),cnd_t,byte_i64,sReadUpdate_q14,e7,bnd_s,sReadPoint_l,bnd_s,e8,bnd_s,sReadProof_l,bnd_s]
   simp only[]
   rw[e9,hc8,bnd_s,a1,a2,a3,a4,a5,a7,a8,hv]
   simp only[]
   rw[cnd_f]
   cases hr:readVar s ((q8 s).2.1:Int) with
   |none=>
    have h9:(q9 s).2.2=true:=by
     have:(q8 s).2=((q8 s).2.1,false):=by rw[←hb]
     unfold q9
     rw[this,nu_none hr]
    have:okU s=false:=by unfold okU;rw[h9];rfl
    rw[if_neg (by rw[this];exact fun h=>nomatch h)]
    simp only[cutR,rvT]
    cases (readCommittee (q2 s).1).2<;>cases (readPoint (q7 s).1).2<;>cases (readProof (q8 s).1).2<;>rfl
   |some r=>
    obtain ⟨_,m0,m1,g1,g2,g3,g4⟩:=readVar_out hr
    have e9':q9 s=(r.1,(r.2,false)):=by
     have:(q8 s).2=((q8 s).2.1,false):=by rw[←hb]
     unfold q9
     rw[this,nu_ok hr]
    have h9:(q9 s).1=r.1:=by rw[e9']
    simp only[cutR,if_pos g3,rvT]
    rw[ine_d,ssz_d,hzz]
    have hok:okU s=(decide (r.2=s.size)&&((readCommittee (q2 s).1).2&&((readPoint (q7 s).1).2&&((readProof (q8 s).1).2&&updateOk (rawU s))))):=by
     unfold okU;rw[e9'];rfl
    rw[hok]
    have hd:decide (((r.2- (q8 s).2.1:Nat):Int)=((s.size- (q8 s).2.1:Nat):Int))=decide (r.2=s.size):=by
     have:(((r.2- (q8 s).2.1:Nat):Int)=((s.size- (q8 s).2.1:Nat):Int))↔r.2=s.size:=by omega
     simp only[this]
    rw[hd]
    cases hk:(readCommittee (q2 s).1).2
    ·simp [bnot,cnd]
    ·cases hpt:(readPoint (q7 s).1).2
     ·simp [bnot,cnd]
     ·cases hpf:(readProof (q8 s).1).2
      ·simp [bnot,cnd]
      ·by_cases hz2:r.2=s.size
       ·have eT:=updT_raw hn hf hs6 hk hpt hpf hr hz2 h9 ht8
        have eU:((q1 s).1,((readCommittee (q2 s).1).1,((q3 s).1,((q4 s).1,((q5 s).1,(sat (q6 s).1 0,((readPoint (q7 s).1).1,((readProof (q8 s).1).1,(r.1,())))))))))=rawU s:=by rw[←h9];rfl
        rw[decide_eq_true hz2]
        simp only[show bnot true=false from rfl,Bool.not_true,cnd_f,Bool.true_and]
        rw[eU,sUpdateText_l _ (rawU_fine s) (by rw[eT];omega),bnd_s,eT,hw]
        cases updateOk (rawU s)
        ·rfl
        ·simp only[if_true]
         rw[show bnot true=false from rfl,cnd_f,sne_d,decide_eq_true rfl];rfl
       ·rw[decide_eq_false hz2]
        simp [bnot,cnd]
theorem readUpdate_fine (t:ByteArray):UFine (readUpdate t).1:=by
 unfold readUpdate
 split
 ·exact rawU_fine _
 ·exact ⟨Nat.zero_le _,Nat.zero_le _,Nat.zero_le _⟩
end Go.Proofs.YtkfifjaomgjnnaaGreatDoor
