/- Points, committees and proofs as texts, and back. Of no condition. -/
import Derived.Test.YtkfifjaomgjnnaaGreatDoorVA
set_option linter.unusedVariables false
set_option linter.unusedSimpArgs false
set_option maxRecDepth 100000
namespace Go.Proofs.YtkfifjaomgjnnaaGreatDoor
open Go.TV
def pointText (p:tPoint):ByteArray:=if pok p then (bif p.2.2.1 then bs [0,0,0] else sof [iconv .u8 (ishr .i64 (iadd .i64 p.1 1) 8),iconv .u8 (iadd .i64 p.1 1),iconv .u8 (irem p.2.1 2)]) else bs []
theorem pointText_size (p:tPoint):(pointText p).size≤3:=by
 unfold pointText
 split
 ·cases p.2.2.1
  ·simp [size_sof]
  ·simp [size_bs]
 ·simp [size_bs]
theorem iPointText_l (p:tPoint):iPointText_d (p,())=some ((pointText p,()),()):=by
 rw[iPointText_b,iPointOk_l,bnd_s]
 unfold pointText
 by_cases h:pok p
 ·rw[if_pos h,decide_eq_true h];cases p.2.2.1<;>rfl
 ·rw[if_neg h,decide_eq_false h];rfl
theorem sPointText_l (p:tPoint):sPointText_d (p,())=some ((pointText p,()),()):=by
 rw[sPointText_b,sPointOk_l,bnd_s]
 unfold pointText
 by_cases h:pok p
 ·rw[if_pos h,decide_eq_true h];cases p.2.2.1<;>rfl
 ·rw[if_neg h,decide_eq_false h];rfl
theorem iKeyTexts_loop (xs:List tPoint) (hl:xs.length≤16777216): ∀ (k i:Nat) (acc:List ByteArray),i+k=xs.length→acc.length=i→iKeyTexts_D3 (acc,(xs,(len xs,((i:Int),()))))=some ((acc++(xs.drop i).map pointText,()),()):=by
 intro k
 induction k with
 |zero=>intro i acc hi ha;rw[iKeyTexts_q3,show (i:Int)=(xs.length:Int) by omega,ilt_end,cnd_f,show i=xs.length by omega];simp
 |succ k ih=>
  intro i acc hi ha
  have h:i<xs.length:=by omega
  rw[iKeyTexts_q3,ilt_at h,cnd_t,inb_at h,cnd_t,iPointText_l,bnd_s,app_fits (xs:=acc) (by decide) (by simp;omega),cnd_t,next_at (by omega),rd_at h,app_one,ih (i+1) _ (by omega) (by simp;omega),List.drop_eq_getElem_cons h,List.map_cons,List.append_assoc]
  rfl
theorem iKeyTexts_l (c:tCommittee) (hl:c.1.length≤16777216):iKeyTexts_d (c,())=some ((c.1.map pointText,()),()):=by
 rw[iKeyTexts_b]
 exact iKeyTexts_loop c.1 hl c.1.length 0 [] (by omega) rfl
theorem map_size (xs:List tPoint): ∀y∈xs.map pointText,y.size≤268435456:=fun y hy=>by
 obtain ⟨p,_,rfl⟩:=List.mem_map.1 hy
 have:=pointText_size p;omega
def comRoot (c:tCommittee):ByteArray:=bif committeeOk c then rootV (c.1.map pointText) else bs []
theorem comOk_len {c:tCommittee} (h:committeeOk c=true):c.1.length=8:=by
 unfold committeeOk at h
 rw[Bool.and_eq_true] at h
 exact of_decide_eq_true h.1
theorem iCommitteeRoot_l (c:tCommittee) (h:Fine TCommittee c):iCommitteeRoot_d (c,())=some ((comRoot c,()),()):=by
 have hl:c.1.length≤16777216:=h.1.1
 rw[iCommitteeRoot_b,iCommitteeOk_l c h,bnd_s,iKeyTexts_l c hl,bnd_s,iRootOf_l _ (map_size _) (by simpa using hl),bnd_s]
 unfold comRoot
 cases committeeOk c<;>rfl
theorem sCommitteeRoot_loop (c:tCommittee) (hl:c.1.length≤16777216): ∀ (k i:Nat) (acc:List ByteArray),i+k=c.1.length→acc=(c.1.take i).map pointText→sCommitteeRoot_D5 (acc,((i:Int),(c,())))=some ((rootV (c.1.map pointText),()),()):=by
 intro k
 induction k with
 |zero=>
  intro i acc hi ha
  rw[sCommitteeRoot_q5,show (i:Int)=(c.1.length:Int) by omega,ilt_end,cnd_f,ha,List.take_of_length_le (by omega),sRootOf_l _ (map_size _) (by simpa using hl),bnd_s]
 |succ k ih=>
  intro i acc hi ha
  have h:i<c.1.length:=by omega
  rw[sCommitteeRoot_q5,ilt_at h,cnd_t,inb_at h,cnd_t,sPointText_l,bnd_s,app_fits (xs:=acc) (by decide) (by rw[ha];simp;omega),cnd_t,next_at (by omega),rd_at h,app_one]
  refine ih (i+1) _ (by omega) ?_
  rw[ha,List.take_add_one,List.map_append,List.getElem?_eq_getElem h];rfl
theorem sCommitteeRoot_l (c:tCommittee) (h:Fine TCommittee c):sCommitteeRoot_d (c,())=some ((comRoot c,()),()):=by
 have hl:c.1.length≤16777216:=h.1.1
 have:=sCommitteeRoot_loop c hl c.1.length 0 [] (by omega) rfl
 rw[sCommitteeRoot_b,sCommitteeOk_l c h,bnd_s]
 unfold comRoot
 cases committeeOk c
 ·rfl
 ·exact this
theorem comRoot_size (c:tCommittee):(comRoot c).size≤32:=by
 unfold comRoot
 cases committeeOk c
 ·simp [size_bs]
 ·exact rootV_size _
theorem shl_256:allB' 256 (fun b=>decide (ishl .i64 (b:Int) 8=(b:Int)*256))=true:=by kernel_rfl
theorem byte_i64 (t:ByteArray) (i:Int):iconv .i64 (sat t i)=sat t i:=(byte_ops (sat_byte t i).1 (sat_byte t i).2).1
theorem px_i (t:ByteArray):isub .i64 (iadd .i64 (ishl .i64 (iconv .i64 (sat t 0)) 8) (iconv .i64 (sat t 1))) 1=sat t 0*256+sat t 1-1:=by
 obtain ⟨a0,a1⟩:=sat_byte t 0
 obtain ⟨b0,b1⟩:=sat_byte t 1
 rw[byte_i64,byte_i64]
 obtain ⟨n,e⟩:=Int.eq_ofNat_of_zero_le a0
 have:=of_decide_eq_true (allB'_of _ _ shl_256 n (by omega))
 rw[e,this,←e,iadd_64 (by omega) (by omega),isub_64 (by omega) (by omega)]
theorem px_s (t:ByteArray):isub .i64 (iadd .i64 (imul .i64 (iconv .i64 (sat t 0)) 256) (iconv .i64 (sat t 1))) 1=sat t 0*256+sat t 1-1:=by
 obtain ⟨a0,a1⟩:=sat_byte t 0
 obtain ⟨b0,b1⟩:=sat_byte t 1
 rw[byte_i64,byte_i64,imul_64 (by omega) (by omega),iadd_64 (by omega) (by omega),isub_64 (by omega) (by omega)]
def pX (t:ByteArray):Int:=sat t 0*256+sat t 1-1
def pY (t:ByteArray):Int:=if (fpRoot (curve (pX t))).1 % 2=sat t 2 then (fpRoot (curve (pX t))).1 else fsub 0 (fpRoot (curve (pX t))).1
def rawP (t:ByteArray):tPoint:=if pX t<0 then zeroP else (pX t,(pY t,(false,())))
noncomputable def readPoint (t:ByteArray):tPoint×Bool:=if t.size=3∧pointText (rawP t)=t then (rawP t,true) else (zPoint,false)
theorem fpRoot_ok (a:Int):fok (fpRoot a).1:=by
 unfold fpRoot
 split
 ·have h1:=fok_fpow a 3027
  have h2:=fok_fsub 0 (fpow a 3027)
  show fok (imin _ _)
  unfold imin fok at*
  omega
 ·exact ⟨by decide,by decide⟩
theorem pY_ok (t:ByteArray):fok (pY t):=by
 unfold pY
 split
 ·exact fpRoot_ok _
 ·exact fok_fsub _ _
theorem iRead_9 (t:ByteArray) (z p:tPoint) (hz:z=zPoint) (h3:t.size=3):iReadPoint_D9 (t,(z,(p,())))=some (if pointText p=t then (p,(true,())) else (zPoint,(false,())),()):=by
 rw[iReadPoint_q9,iPointText_l,bnd_s,sne_d]
 by_cases h:pointText p=t
 ·rw[decide_eq_true h,if_pos h];rfl
 ·rw[decide_eq_false h,if_neg h];rfl
theorem pt_eq {t:ByteArray} (h3:t.size=3):((readPoint t).1,((readPoint t).2,()))=(if pointText (rawP t)=t then (rawP t,(true,())) else (zPoint,(false,()))):=by
 unfold readPoint
 by_cases h:pointText (rawP t)=t
 ·rw[if_pos ⟨h3,h⟩,if_pos h]
 ·rw[if_neg fun k=>h k.2,if_neg h]
theorem iReadPoint_l (t:ByteArray):iReadPoint_d (t,())=some (((readPoint t).1,((readPoint t).2,())),()):=by
 rw[iReadPoint_b,ine_d,ssz_d]
 by_cases h3:t.size=3
 ·rw[pt_eq h3,decide_eq_true (show (t.size:Int)=3 by omega)]
  simp only[Bool.not_true,cnd_f]
  rw[inb_t (by omega) (by omega),cnd_t,show nn 8=true from rfl,cnd_t,inb_t (by omega) (by omega),cnd_t,px_i]
  have e:rawP t=if pX t<0 then zeroP else (pX t,(pY t,(false,()))):=rfl
  rw[e,show sat t 0*256+sat t 1-1=pX t from rfl]
  by_cases hx:pX t<0
  ·rw[ilt_t hx,cnd_t,if_pos hx]
   exact iRead_9 t _ _ rfl h3
  ·rw[ilt_f (by omega),cnd_f,if_neg hx,iCurveAt_l,bnd_s,iFpRoot_l,bnd_s]
   have h0:=fpRoot_ok (curve (pX t))
   simp only[]
   rw[nz_lit (by decide),cnd_t,inb_t (by omega) (by omega),cnd_t,irem_0 h0.1,byte_i64,ine_d]
   unfold pY
   by_cases hy:(fpRoot (curve (pX t))).1 % 2=sat t 2
   ·rw[decide_eq_true hy,if_pos hy]
    exact iRead_9 t _ _ rfl h3
   ·rw[decide_eq_false hy,if_neg hy]
    simp only[Bool.not_false,cnd_t]
    rw[iPointNeg_b,cnd_f,iFpSub_l,bnd_s,bnd_s]
    exact iRead_9 t _ _ rfl h3
 ·rw[decide_eq_false (show¬(t.size:Int)=3 by omega)]
  unfold readPoint
  rw[if_neg fun h=>h3 h.1];rfl
theorem text3 {t:ByteArray} (h3:t.size=3):t=sof [sat t 0,sat t 1,sat t 2]:=by
 have h:=sof_bytesAt t 0 3 (by omega)
 have e:ssub t ((0:Nat):Int) ((0+3:Nat):Int)=t:=by
  have:=ssub_all t
  rw[ssz_d,h3] at this
  exact this
 rw[e] at h
 exact h.symm
theorem sof3_inj {t:ByteArray} {a b c:Int} (h3:t.size=3) (h:sof [iconv .u8 a,iconv .u8 b,iconv .u8 c]=t):iconv .u8 c=sat t 2:=by
 rw[text3 h3] at h
 have r: ∀x:Int,0≤iconv .u8 x∧iconv .u8 x<256:=fun x=>by unfold iconv;rw[wrap_u8];omega
 have:=sof_inj (fun y hy=>by
  simp only[List.mem_cons,List.mem_nil_iff,or_false] at hy
  rcases hy with rfl|rfl|rfl<;>exact r _) (fun y hy=>by
  simp only[List.mem_cons,List.mem_nil_iff,or_false] at hy
  rcases hy with rfl|rfl|rfl<;>exact sat_byte _ _) h
 have h2:=congrArg (fun l=>l[2]?) this
 simp only[List.getElem?_cons_succ,List.getElem?_cons_zero,Option.some.injEq] at h2
 rw[h2]
theorem no_text {t:ByteArray} {p:tPoint} (h3:t.size=3) (h: ¬pok p):pointText p≠t:=fun e=>by
 unfold pointText at e
 rw[if_neg h] at e
 rw[←e,size_bs] at h3
 cases h3
theorem sRead_13 (t:ByteArray) (x y:Int) (z:tPoint) (h3:t.size=3):sReadPoint_D13 (t,(x,(y,(z,()))))=some (if pointText (x,(y,(false,())))=t then ((x,(y,(false,()))),(true,())) else (zPoint,(false,())),()):=by
 rw[sReadPoint_q13,sPointText_l,bnd_s,sne_d]
 by_cases h:pointText (x,(y,(false,())))=t
 ·rw[decide_eq_true h,if_pos h];rfl
 ·rw[decide_eq_false h,if_neg h];rfl
theorem fpow_0:fpow 0 3027=0:=by decide+kernel
theorem sReadPoint_l (t:ByteArray):sReadPoint_d (t,())=some (((readPoint t).1,((readPoint t).2,())),()):=by
 rw[sReadPoint_b,ine_d,ssz_d]
 by_cases h3:t.size=3
 ·rw[pt_eq h3,decide_eq_true (show (t.size:Int)=3 by omega)]
  simp only[Bool.not_true,cnd_f]
  have e:rawP t=if pX t<0 then zeroP else (pX t,(pY t,(false,()))):=rfl
  obtain ⟨a0,a1⟩:=sat_byte t 0
  obtain ⟨b0,b1⟩:=sat_byte t 1
  obtain ⟨c0,c1⟩:=sat_byte t 2
  have eX:sat t 0*256+sat t 1-1=pX t:=rfl
  rw[seq_d]
  by_cases hz:t=bs [0,0,0]
  ·rw[decide_eq_true hz,cnd_t,sL07Zero_b,bnd_s]
   have hx:pX t<0:=by
    have h0:sat t 0=0:=by rw[hz];rfl
    have h1:sat t 1=0:=by rw[hz];rfl
    omega
   rw[e,if_pos hx,if_pos (show pointText zeroP=t by rw[hz];unfold pointText;rw[if_pos pok_zeroP];rfl)]
   rfl
  ·rw[decide_eq_false hz,cnd_f,inb_t (by omega) (by omega),cnd_t,inb_t (by omega) (by omega),cnd_t,px_s,sFpOk_l,bnd_s,eX]
   by_cases hf:fok (pX t)
   ·rw[decide_eq_true hf]
    have hx: ¬pX t<0:=by have:=hf.1;omega
    simp only[bnot,Bool.not_true,cnd_f]
    rw[inb_t (by omega) (by omega),cnd_t,e,if_neg hx]
    by_cases h2:1<sat t 2
    ·rw[igt_t h2,cnd_t,if_neg]
     intro k
     unfold pointText at k
     split at k
     ·have:=sof3_inj h3 k
      have h0:=pY_ok t
      rw[irem_0 h0.1] at this
      unfold iconv at this
      rw[wrap_u8] at this
      omega
     ·rw[←k,size_bs] at h3;cases h3
    ·rw[igt_f (by omega),cnd_f,sRight_l,bnd_s,sFpRoot_l,bnd_s]
     simp only[]
     cases hr:(fpRoot (curve (pX t))).2
     ·have h0:(fpRoot (curve (pX t))).1=0:=by
       unfold fpRoot at hr⊢
       split
       ·rename_i hc;rw[if_pos hc] at hr;cases hr
       ·rfl
      have hy:pY t=0:=by unfold pY;rw[h0];split<;>rfl
      simp only[Bool.not_false,cnd_t]
      rw[if_neg (no_text h3 fun hp=>?_)]
      have hp:=((pok_not rfl).1 hp).2.2
      simp only[hy] at hp
      have hc:curve (pX t)=0:=hp.symm.trans (by decide)
      unfold fpRoot at hr
      rw[hc,fpow_0,if_pos (by decide)] at hr
      cases hr
     ·have h0:=fpRoot_ok (curve (pX t))
      simp only[Bool.not_true,cnd_f]
      rw[nz_lit (by decide),cnd_t,cnd_t,irem_0 h0.1,byte_i64,ine_d]
      unfold pY
      by_cases hy:(fpRoot (curve (pX t))).1 % 2=sat t 2
      ·rw[decide_eq_true hy,if_pos hy]
       exact sRead_13 t _ _ _ h3
      ·rw[decide_eq_false hy,if_neg hy]
       simp only[Bool.not_false,cnd_t]
       rw[sFpSub_l,bnd_s]
       exact sRead_13 t _ _ _ h3
   ·rw[decide_eq_false hf]
    simp only[bnot,Bool.not_false,cnd_t]
    rw[e,if_neg]
    by_cases hx:pX t<0
    ·rw[if_pos hx]
     intro k
     unfold pointText at k
     rw[if_pos pok_zeroP] at k
     exact hz k.symm
    ·rw[if_neg hx]
     exact no_text h3 fun hp=>hf ((pok_not rfl).1 hp).1
 ·rw[decide_eq_false (show¬(t.size:Int)=3 by omega)]
  unfold readPoint
  rw[if_neg fun h=>h3 h.1];rfl
theorem readPoint_out {t:ByteArray} (h:(readPoint t).2=true):pointText (readPoint t).1=t:=by
 unfold readPoint at h⊢
 split at h
 ·rename_i hc
  rw[if_pos hc];exact hc.2
 ·cases h
def catP (xs:List tPoint):ByteArray:=(xs.map pointText).foldl scat (bs [])
def committeeT (c:tCommittee):ByteArray:=scat (catP c.1) (pointText (sumP c.1))
theorem fold_size: ∀ (l:List ByteArray) (s:ByteArray),(∀y∈l,y.size≤3)→(l.foldl scat s).size≤s.size+3*l.length
 | [],s,h=>by simp
 |y::l,s,h=>by
  have h1:=fold_size l (scat s y) fun z hz=>h z (by simp [hz])
  have h2:=h y (by simp)
  rw[List.foldl_cons,List.length_cons]
  rw[size_scat] at h1;omega
theorem texts3 (xs:List tPoint): ∀y∈xs.map pointText,y.size≤3:=fun y hy=>by
 obtain ⟨p,_,rfl⟩:=List.mem_map.1 hy
 exact pointText_size p
theorem catP_size (xs:List tPoint):(catP xs).size≤3*xs.length:=by
 have:=fold_size (xs.map pointText) (bs []) (texts3 xs)
 rw[size_bs,List.length_map] at this
 simpa [catP] using this
theorem iCText_loop (c:tCommittee) (hc:c.1.length≤16777216) (xs:List ByteArray) (hx: ∀y∈xs,y.size≤3) (hl:xs.length≤16777216): ∀ (k i:Nat) (s:ByteArray),i+k=xs.length→s.size≤3*i→
 iCommitteeText_D5 (s,(xs,(len xs,((i:Int),(c,())))))=some ((scat ((xs.drop i).foldl scat s) (pointText (sumP c.1)),(true,())),()):=by
 intro k
 induction k with
 |zero=>
  intro i s hi hs
  have:=pointText_size (sumP c.1)
  rw[iCommitteeText_q5,show (i:Int)=(xs.length:Int) by omega,ilt_end,cnd_f,iSumPoints_l _ hc,bnd_s,iPointText_l,bnd_s]
  simp only[]
  rw[cat_fits (by omega),cnd_t,show i=xs.length by omega,List.drop_length];rfl
 |succ k ih=>
  intro i s hi hs
  have h:i<xs.length:=by omega
  have h3:=hx xs[i] (List.getElem_mem h)
  rw[iCommitteeText_q5,ilt_at h,cnd_t,inb_at h,cnd_t,rd_at h,cat_fits (by omega),cnd_t,next_at (by omega),ih (i+1) _ (by omega) (by rw[size_scat];omega),List.drop_eq_getElem_cons h,List.foldl_cons]
theorem sCText_loop (c:tCommittee) (hc:c.1.length≤16777216): ∀ (k i:Nat) (s:ByteArray),i+k=c.1.length→s.size≤3*i→
 sCommitteeText_D5 (s,((i:Int),(c,())))=some ((scat (((c.1.drop i).map pointText).foldl scat s) (pointText (sumP c.1)),(true,())),()):=by
 intro k
 induction k with
 |zero=>
  intro i s hi hs
  have:=pointText_size (sumP c.1)
  rw[sCommitteeText_q5,show (i:Int)=(c.1.length:Int) by omega,ilt_end,cnd_f,sSumPoints_l _ hc,bnd_s,sPointText_l,bnd_s]
  simp only[]
  rw[cat_fits (by omega),cnd_t,show i=c.1.length by omega,List.drop_length];rfl
 |succ k ih=>
  intro i s hi hs
  have h:i<c.1.length:=by omega
  have h3:=pointText_size c.1[i]
  rw[sCommitteeText_q5,ilt_at h,cnd_t,inb_at h,cnd_t,rd_at h,sPointText_l,bnd_s]
  simp only[]
  rw[cat_fits (by omega),cnd_t,next_at (by omega),ih (i+1) _ (by omega) (by rw[size_scat];omega),List.drop_eq_getElem_cons h,List.map_cons,List.foldl_cons]
theorem iCommitteeText_l (c:tCommittee) (h:Fine TCommittee c):iCommitteeText_d (c,())=some (if committeeOk c=true then (committeeT c,(true,())) else zL21Cur,()):=by
 have hl:c.1.length≤16777216:=h.1.1
 rw[iCommitteeText_b,iCommitteeOk_l c h,bnd_s,iKeyTexts_l c hl,bnd_s]
 cases committeeOk c
 ·rfl
 ·have:=iCText_loop c hl (c.1.map pointText) (texts3 _) (by simpa using hl) (c.1.map pointText).length 0 (bs []) (by omega) (by rw[size_bs];simp)
  rw[List.drop_zero] at this
  exact this
theorem sCommitteeText_l (c:tCommittee) (h:Fine TCommittee c):sCommitteeText_d (c,())=some (if committeeOk c=true then (committeeT c,(true,())) else zL21Cur,()):=by
 have hl:c.1.length≤16777216:=h.1.1
 rw[sCommitteeText_b,sCommitteeOk_l c h,bnd_s]
 cases committeeOk c
 ·rfl
 ·have:=sCText_loop c hl c.1.length 0 (bs []) (by omega) (by rw[size_bs];simp)
  rw[List.drop_zero] at this
  exact this
noncomputable def rcF (t:ByteArray):Nat→Nat→List tPoint→Option (List tPoint)
 |0,_,acc=>some acc
 |k+1,i,acc=>if (readPoint (ssub t (3*(i:Int)) (3*(i:Int)+3))).2=true then rcF t k (i+1) (acc++[(readPoint (ssub t (3*(i:Int)) (3*(i:Int)+3))).1]) else none
noncomputable def rcT (t:ByteArray) (o:Option (List tPoint)):tCommittee×Bool:=match o with
 |some ps=>if committeeOk (ps,())=true∧committeeT (ps,())=t then ((ps,()),true) else (zCommittee,false)
 |none=>(zCommittee,false)
noncomputable def readCommittee (t:ByteArray):tCommittee×Bool:=if t.size=27 then rcT t (rcF t 8 0 []) else (zCommittee,false)
theorem fine_pts (ps:List tPoint) (h:ps.length≤16777216):Fine TCommittee (ps,()):=⟨⟨h,fun x _=>⟨trivial,trivial,trivial,trivial⟩⟩,trivial⟩
theorem iRC_loop (t:ByteArray) (h:t.size=27) (z:tCommittee) (hz:z=zCommittee): ∀ (k i:Nat) (acc:List tPoint),i+k=8→acc.length=i→iReadCommittee_D5 (t,((i:Int),(z,((acc,()),()))))=some (((rcT t (rcF t k i acc)).1,((rcT t (rcF t k i acc)).2,())),()):=by
 intro k
 induction k with
 |zero=>
  intro i acc hi ha
  rw[iReadCommittee_q5,ilt_f (by omega),cnd_f,iCommitteeText_l _ (fine_pts acc (by omega)),bnd_s]
  unfold rcF rcT
  simp only[]
  by_cases c1:committeeOk (acc,())=true
  ·rw[if_pos c1]
   show cnd (bnot true) _ (cnd (sne (committeeT (acc,())) t) _ _)=_
   rw[show bnot true=false from rfl,cnd_f,sne_d]
   by_cases c2:committeeT (acc,())=t
   ·rw[decide_eq_true c2,if_pos ⟨c1,c2⟩];rfl
   ·rw[decide_eq_false c2,if_neg fun h=>c2 h.2];rfl
  ·rw[if_neg c1,if_neg fun h=>c1 h.1];rfl
 |succ k ih=>
  intro i acc hi ha
  rw[iReadCommittee_q5,ilt_t (by omega),cnd_t,imul_64 (by omega) (by omega),iadd_64 (by omega) (by omega),ssz_d,inb2_t (by omega) (by omega) (by omega),cnd_t,iReadPoint_l,bnd_s]
  unfold rcF
  cases hp:(readPoint (ssub t (3*(i:Int)) (3*(i:Int)+3))).2
  ·simp [bnot,cnd,rcT]
  ·simp only[bnot,Bool.not_true,cnd_f,if_true]
   rw[app_fits (xs:=acc) (by decide) (by simp;omega),cnd_t,next_at (by omega),app_one,ih (i+1) _ (by omega) (by simp;omega)]
theorem sRC_loop (t:ByteArray) (h:t.size=27) (z:tCommittee) (hz:z=zCommittee): ∀ (k i:Nat) (acc:List tPoint),i+k=8→acc.length=i→sReadCommittee_D5 (t,((i:Int),(z,((acc,()),()))))=some (((rcT t (rcF t k i acc)).1,((rcT t (rcF t k i acc)).2,())),()):=by
 intro k
 induction k with
 |zero=>
  intro i acc hi ha
  rw[sReadCommittee_q5,ilt_f (by omega),cnd_f,sCommitteeText_l _ (fine_pts acc (by omega)),bnd_s]
  unfold rcF rcT
  simp only[]
  by_cases c1:committeeOk (acc,())=true
  ·rw[if_pos c1]
   show cnd (bnot true) _ (cnd (sne (committeeT (acc,())) t) _ _)=_
   rw[show bnot true=false from rfl,cnd_f,sne_d]
   by_cases c2:committeeT (acc,())=t
   ·rw[decide_eq_true c2,if_pos ⟨c1,c2⟩];rfl
   ·rw[decide_eq_false c2,if_neg fun h=>c2 h.2];rfl
  ·rw[if_neg c1,if_neg fun h=>c1 h.1];rfl
 |succ k ih=>
  intro i acc hi ha
  rw[sReadCommittee_q5,ilt_t (by omega),cnd_t,imul_64 (by omega) (by omega),iadd_64 (by omega) (by omega),ssz_d,inb2_t (by omega) (by omega) (by omega),cnd_t,sReadPoint_l,bnd_s]
  unfold rcF
  cases hp:(readPoint (ssub t (3*(i:Int)) (3*(i:Int)+3))).2
  ·simp [bnot,cnd,rcT]
  ·simp only[bnot,Bool.not_true,cnd_f,if_true]
   rw[app_fits (xs:=acc) (by decide) (by simp;omega),cnd_t,next_at (by omega),app_one,ih (i+1) _ (by omega) (by simp;omega)]
theorem iReadCommittee_l (t:ByteArray):iReadCommittee_d (t,())=some (((readCommittee t).1,((readCommittee t).2,())),()):=by
 unfold readCommittee
 rw[iReadCommittee_b,ine_d,ssz_d]
 by_cases h:t.size=27
 ·rw[if_pos h,decide_eq_true (show (t.size:Int)=27 by omega)]
  exact iRC_loop t h zCommittee rfl 8 0 [] rfl rfl
 ·rw[if_neg h,decide_eq_false (show¬(t.size:Int)=27 by omega)];rfl
theorem sReadCommittee_l (t:ByteArray):sReadCommittee_d (t,())=some (((readCommittee t).1,((readCommittee t).2,())),()):=by
 unfold readCommittee
 rw[sReadCommittee_b,ine_d,ssz_d]
 by_cases h:t.size=27
 ·rw[if_pos h,decide_eq_true (show (t.size:Int)=27 by omega)]
  exact sRC_loop t h zCommittee rfl 8 0 [] rfl rfl
 ·rw[if_neg h,decide_eq_false (show¬(t.size:Int)=27 by omega)];rfl
theorem readCommittee_out {t:ByteArray} (h:(readCommittee t).2=true):committeeOk (readCommittee t).1=true∧committeeT (readCommittee t).1=t:=by
 unfold readCommittee at h⊢
 split at h
 ·rename_i h0
  rw[if_pos h0]
  unfold rcT at h⊢
  split at h
  ·split at h
   ·rename_i hc;simp only[if_pos hc];exact hc
   ·cases h
  ·cases h
 ·cases h
theorem readCommittee_len (t:ByteArray):(readCommittee t).1.1.length≤8:=by
 unfold readCommittee
 split
 ·unfold rcT
  split
  ·split
   ·rename_i hc;exact Nat.le_of_eq (comOk_len hc.1)
   ·exact Nat.zero_le _
  ·exact Nat.zero_le _
 ·exact Nat.zero_le _
def proofOk3 (p:tProof):Bool:=ingroup p.1&&(ingroup p.2.1&&ingroup p.2.2.1)
def proofT (p:tProof):ByteArray:=scat (scat (pointText p.1) (pointText p.2.1)) (pointText p.2.2.1)
theorem iProofText_l (p:tProof):iProofText_d (p,())=some (if proofOk3 p=true then (proofT p,(true,())) else zL21Cur,()):=by
 have h1:=pointText_size p.1
 have h2:=pointText_size p.2.1
 have h3:=pointText_size p.2.2.1
 rw[iProofText_b,iInGroup_l,bnd_s,iInGroup_l,bnd_s,iInGroup_l,bnd_s,iPointText_l,bnd_s,iPointText_l,bnd_s,iPointText_l,bnd_s]
 simp only[]
 rw[cat_fits (x:=pointText p.1) (by omega),cnd_t,cat_fits (by rw[size_scat];omega),cnd_t]
 unfold proofOk3
 cases ingroup p.1<;>cases ingroup p.2.1<;>cases ingroup p.2.2.1<;>rfl
theorem sProofText_l (p:tProof):sProofText_d (p,())=some (if proofOk3 p=true then (proofT p,(true,())) else zL21Cur,()):=by
 have h1:=pointText_size p.1
 have h2:=pointText_size p.2.1
 have h3:=pointText_size p.2.2.1
 rw[sProofText_b,sInGroup_l,bnd_s,sInGroup_l,bnd_s,sInGroup_l,bnd_s,sPointText_l,bnd_s,sPointText_l,bnd_s,sPointText_l,bnd_s]
 simp only[]
 rw[cat_fits (x:=pointText p.1) (by omega),cnd_t,cat_fits (by rw[size_scat];omega),cnd_t]
 unfold proofOk3
 cases ingroup p.1<;>cases ingroup p.2.1<;>cases ingroup p.2.2.1<;>rfl
noncomputable def rawQ (t:ByteArray):tProof:=((readPoint (ssub t 0 3)).1,((readPoint (ssub t 3 6)).1,((readPoint (ssub t 6 9)).1,())))
noncomputable def readProof (t:ByteArray):tProof×Bool:=if t.size=9∧(readPoint (ssub t 0 3)).2=true∧(readPoint (ssub t 3 6)).2=true∧(readPoint (ssub t 6 9)).2=true∧proofOk3 (rawQ t)=true then (rawQ t,true) else (zProof,false)
theorem readProof_law (t:ByteArray) (h:t.size=9) (p:tL21Cur) (hp:p=if proofOk3 (rawQ t)=true then (proofT (rawQ t),(true,())) else zL21Cur):
 cnd (bnot (readPoint (ssub t 0 3)).2) (some ((zProof,(false,())),())) (cnd (bnot (readPoint (ssub t 3 6)).2) (some ((zProof,(false,())),())) (cnd (bnot (readPoint (ssub t 6 9)).2) (some ((zProof,(false,())),())) (cnd (bnot p.2.1) (some ((zProof,(false,())),())) (some ((rawQ t,(true,())),())))))=some (((readProof t).1,((readProof t).2,())),()):=by
 unfold readProof
 cases h1:(readPoint (ssub t 0 3)).2<;>cases h2:(readPoint (ssub t 3 6)).2<;>cases h3:(readPoint (ssub t 6 9)).2<;>cases h4:proofOk3 (rawQ t)<;>simp [h,bnot,cnd,hp,h4,zL21Cur]
theorem iReadProof_l (t:ByteArray):iReadProof_d (t,())=some (((readProof t).1,((readProof t).2,())),()):=by
 rw[iReadProof_b,ine_d,ssz_d]
 by_cases h:t.size=9
 ·rw[decide_eq_true (show (t.size:Int)=9 by omega)]
  simp only[Bool.not_true,cnd_f]
  rw[show (t.size:Int)=9 by omega,inb2_t (by decide) (by decide) (by decide),cnd_t,iReadPoint_l,bnd_s,inb2_t (by decide) (by decide) (by decide),cnd_t,iReadPoint_l,bnd_s,inb2_t (by decide) (by decide) (by decide),cnd_t,iReadPoint_l,bnd_s,iProofText_l,bnd_s]
  exact readProof_law t h _ rfl
 ·rw[decide_eq_false (show¬(t.size:Int)=9 by omega)]
  unfold readProof
  rw[if_neg fun k=>h k.1];rfl
theorem sReadProof_l (t:ByteArray):sReadProof_d (t,())=some (((readProof t).1,((readProof t).2,())),()):=by
 rw[sReadProof_b,ine_d,ssz_d]
 by_cases h:t.size=9
 ·rw[decide_eq_true (show (t.size:Int)=9 by omega)]
  simp only[Bool.not_true,cnd_f]
  rw[show (t.size:Int)=9 by omega,inb2_t (by decide) (by decide) (by decide),cnd_t,sReadPoint_l,bnd_s,inb2_t (by decide) (by decide) (by decide),cnd_t,sReadPoint_l,bnd_s,inb2_t (by decide) (by decide) (by decide),cnd_t,sReadPoint_l,bnd_s,sProofText_l,bnd_s]
  exact readProof_law t h _ rfl
 ·rw[decide_eq_false (show¬(t.size:Int)=9 by omega)]
  unfold readProof
  rw[if_neg fun k=>h k.1];rfl
theorem readProof_out {t:ByteArray} (h:(readProof t).2=true):proofOk3 (readProof t).1=true∧proofT (readProof t).1=t:=by
 unfold readProof at h⊢
 split at h
 ·rename_i hc
  rw[if_pos hc]
  obtain ⟨h0,h1,h2,h3,h4⟩:=hc
  refine ⟨h4,?_⟩
  show scat (scat (pointText (readPoint (ssub t 0 3)).1) (pointText (readPoint (ssub t 3 6)).1)) (pointText (readPoint (ssub t 6 9)).1)=t
  rw[readPoint_out h1,readPoint_out h2,readPoint_out h3]
  have e1:=ssub_split t 0 3 6 (by decide) (by decide)
  have e2:=ssub_split t 0 6 9 (by decide) (by decide)
  have e3:=ssub_all t
  rw[ssz_d,h0] at e3
  exact (congrArg (fun x=>scat x (ssub t 6 9)) e1.symm).trans (e2.symm.trans e3)
 ·cases h
end Go.Proofs.YtkfifjaomgjnnaaGreatDoor
