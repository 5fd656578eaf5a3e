/- Prefixes that are read; where a list leads. Of no condition. -/
import Derived.Test.YtoeiajpklkijgaaGreatDoorTJ
set_option linter.unusedVariables false
set_option linter.unusedSimpArgs false
set_option maxRecDepth 100000
namespace Go.Proofs.YtoeiajpklkijgaaGreatDoor
open Go.TV
theorem iNibOk_f (l:List Int) (h: ∀x∈l,0≤x∧x≤15) (hl:64<l.length) (hz:l.length≤10000000):iNibblesOk_d (l,())=some ((false,()),()):=by
 have loop: ∀ (m i:Nat),i+m=l.length→iNibblesOk_D2 (l,(l,(len l,((i:Int),()))))=some ((false,()),()):=by
  intro m
  induction m with
  |zero=>intro i hi;rw[iNibblesOk_q2,show (i:Int)=(l.length:Int) by omega,ilt_end,cnd_f,ile_d,len_d,decide_eq_false (by omega)]
  |succ m ih=>
   intro i hi
   have hlt:i<l.length:=by omega
   have hx:=h l[i] (List.getElem_mem hlt)
   rw[iNibblesOk_q2,ilt_at hlt,cnd_t,inb_at hlt,cnd_t,rd_at hlt,ilt_f hx.1,cnd_f,igt_f hx.2,cnd_f,next_at (by omega),ih (i+1) (by omega)]
 rw[iNibblesOk_b]
 exact loop l.length 0 (by omega)
theorem sNibOk_f (l:List Int) (h: ∀x∈l,0≤x∧x≤15) (hl:64<l.length) (hz:l.length≤10000000):sNibblesOk_d (l,())=some ((false,()),()):=by
 have loop: ∀ (m i:Nat),i+m=l.length→sNibblesOk_D2 (l,((i:Int),()))=some ((false,()),()):=by
  intro m
  induction m with
  |zero=>intro i hi;rw[sNibblesOk_q2,show (i:Int)=(l.length:Int) by omega,ilt_end,cnd_f,ile_d,len_d,decide_eq_false (by omega)]
  |succ m ih=>
   intro i hi
   have hlt:i<l.length:=by omega
   have hx:=h l[i] (List.getElem_mem hlt)
   rw[sNibblesOk_q2,ilt_at hlt,cnd_t,inb_at hlt,cnd_t,rd_at hlt,sIn_l,bnd_s]
   simp only[decide_eq_true hx,bnot,Bool.not_true,cnd_f]
   rw[next_at (by omega),ih (i+1) (by omega)]
 rw[sNibblesOk_b]
 exact loop l.length 0 (by omega)
theorem iPre_f (l:List Int) (leaf:Bool) (h: ∀x∈l,0≤x∧x≤15) (hl:64<l.length) (hz:l.length≤10000000):iPrefixText_d (l,(leaf,()))=some ((bs [],(false,())),()):=by
 rw[iPrefixText_b,iNibOk_f l h hl hz,bnd_s];rfl
theorem sPre_f (l:List Int) (leaf:Bool) (h: ∀x∈l,0≤x∧x≤15) (hl:64<l.length) (hz:l.length≤10000000):sPrefixText_d (l,(leaf,()))=some ((bs [],(false,())),()):=by
 rw[sPrefixText_b,sNibOk_f l h hl hz,bnd_s];rfl
theorem sat_sub1 {s:ByteArray} {p q i:Nat} (h:p+i<q) (hq:q≤s.size):sat (ssub s (p:Int) (q:Int)) (i:Int)=sat s ((p+i:Nat):Int):=by
 have hz:=ssub_size s p q (by omega) hq
 rw[sat_at _ i (by omega),sat_at _ (p+i) (by omega)]
 simp only[ssub_data,List.getElem_take,List.getElem_drop]
theorem nibF_sub (t:ByteArray): ∀ (m i:Nat),1+i+m≤t.size→nibF (ssub t ((1:Nat):Int) (t.size:Int)) i m=nibF t (i+1) m
 |0,i,_=>rfl
 |m+1,i,h=>by
  simp only[nibF]
  rw[sat_sub1 (by omega) (by omega),nibF_sub t m (i+1) (by omega),show 1+i=i+1 by omega]
theorem nibV_cons {t:ByteArray} (h:0<t.size):nibV t=sat t 0/16::sat t 0 % 16::nibV (ssub t ((1:Nat):Int) (t.size:Int)):=by
 obtain ⟨n,hn⟩: ∃n,t.size=n+1:=⟨t.size-1,by omega⟩
 have hz:=ssub_size t 1 t.size (by omega) (by omega)
 rw[nibV,nibV,hz,show t.size-1=n by omega,nibF_sub t n 0 (by omega),hn]
 rfl
theorem first_test:allB' 64 (fun b=>decide (ieq (iand .i64 ((b:Int)/16) 1) 1=decide ((b:Int)/16 % 2=1)∧ine (iand .i64 ((b:Int)/16) 2) 0=decide (32≤(b:Int))∧irem (iquo .u8 (b:Int) 16) 2=(b:Int)/16 % 2∧irem (iconv .i64 (b:Int)) 16=(b:Int) % 16))=true:=by kernel_rfl
theorem first_at {b:Int} (h0:0≤b) (h1:b<64):ieq (iand .i64 (b/16) 1) 1=decide (b/16 % 2=1)∧ine (iand .i64 (b/16) 2) 0=decide (32≤b)∧irem (iquo .u8 b 16) 2=b/16 % 2∧irem (iconv .i64 b) 16=b % 16:=by
 obtain ⟨n,rfl⟩:=Int.eq_ofNat_of_zero_le h0
 exact of_decide_eq_true (allB'_of _ _ first_test n (by omega))
def rpW (t:ByteArray) (l:List Int) (leaf:Bool):List Int× (Bool×Bool):=if l.length≤64∧preV l leaf=t then (l,(leaf,true)) else ([],(false,false))
def rpV (t:ByteArray):List Int× (Bool×Bool):=if t.size=0∨64≤sat t 0 then ([],(false,false)) else rpW t ((nibV t).drop (if sat t 0/16 % 2=1 then 1 else 2)) (decide (32≤sat t 0))
theorem rpW_len (t:ByteArray) (l:List Int) (leaf:Bool):(rpW t l leaf).1.length≤64:=by
 unfold rpW
 split
 ·rename_i h;exact h.1
 ·simp
theorem rpV_len (t:ByteArray):(rpV t).1.length≤64:=by
 unfold rpV
 split
 ·simp
 ·exact rpW_len _ _ _
theorem iRp8_l (t:ByteArray) (l:List Int) (leaf:Bool) (h: ∀x∈l,0≤x∧x≤15) (hz:l.length≤10000000):iReadPrefix_D8 (t,(l,(leaf,())))=some (((rpW t l leaf).1,((rpW t l leaf).2.1,((rpW t l leaf).2.2,()))),()):=by
 rw[iReadPrefix_q8]
 unfold rpW
 by_cases hl:l.length≤64
 ·rw[iPre_l l leaf h hl,bnd_s]
  simp only[bnot,Bool.not_true,cnd_f]
  by_cases h2:preV l leaf=t
  ·rw[sne_d,decide_eq_true h2,Bool.not_true,cnd_f,app_fits (by decide) (by simp only[List.length_nil];omega),cnd_t,if_pos ⟨hl,h2⟩]
   rfl
  ·rw[sne_d,decide_eq_false h2,Bool.not_false,cnd_t,if_neg (fun hh=>h2 hh.2)]
 ·rw[iPre_f l leaf h (by omega) hz,bnd_s,if_neg (fun hh=>hl hh.1)]
  rfl
theorem iRp_l (t:ByteArray) (ht:t.size≤1000000):iReadPrefix_d (t,())=some (((rpV t).1,((rpV t).2.1,((rpV t).2.2,()))),()):=by
 rw[iReadPrefix_b,seq_d]
 unfold rpV
 by_cases h0:t.size=0
 ·have:t=bs []:=by
   apply ba_ext
   rw[List.eq_nil_of_length_eq_zero (l:=t.data.toList) (by rw[Array.length_toList];exact h0)];rfl
  rw[decide_eq_true this,cnd_t,if_pos (.inl h0)]
 ·have hb:=sat_byte t 0
  rw[decide_eq_false (fun h=>h0 (by rw[h];rfl)),cnd_f,inb_t (by omega) (by rw[ssz_d];omega),cnd_t]
  by_cases h1:64≤sat t 0
  ·rw[igt_t (by omega),cnd_t,if_pos (.inr h1)]
  ·have hf:=first_at hb.1 (by omega)
   have hn:(nibV t).length=2*t.size:=nibV_len t
   have hr:rd (0:Int) (nibV t) 0=sat t 0/16:=by rw[nibV_cons (by omega)];rfl
   have hin: ∀n:Nat,∀x∈(nibV t).drop n,0≤x∧x≤15:=fun n x hx=>nibV_in t x (List.mem_of_mem_drop hx)
   have hd: ∀n:Nat,sub (nibV t) (n:Int) (len (nibV t))=(nibV t).drop n:=fun n=>by rw[len_d];unfold sub;simp
   rw[igt_f (by omega),cnd_f,iNib_l t ht,bnd_s]
   simp only[]
   rw[len_d,inb_t (by omega) (by omega),cnd_t,cnd_t,hr,hf.1,hf.2.1,if_neg (fun hh=>hh.elim h0 h1)]
   by_cases h2:sat t 0/16 % 2=1
   ·rw[decide_eq_true h2,cnd_t,inb2_t (by omega) (by omega) (by omega),cnd_t,if_pos h2,←len_d,show sub (nibV t) 1 (len (nibV t))=(nibV t).drop 1 from hd 1]
    exact iRp8_l t _ _ (hin 1) (by rw[List.length_drop];omega)
   ·rw[decide_eq_false h2,cnd_f,inb2_t (by omega) (by omega) (by omega),cnd_t,if_neg h2,←len_d,show sub (nibV t) 2 (len (nibV t))=(nibV t).drop 2 from hd 2]
    exact iRp8_l t _ _ (hin 2) (by rw[List.length_drop];omega)
theorem sRp8_l (t:ByteArray) (pre:List Int) (leaf:Bool) (h: ∀x∈pre,0≤x∧x≤15) (hp:pre.length≤10) (h0:0<t.size) (hz:t.size≤1000000):sReadPrefix_D8 (t,([],(leaf,(pre,()))))=some (((rpW t (pre++nibV (ssub t ((1:Nat):Int) (t.size:Int))) leaf).1,((rpW t (pre++nibV (ssub t ((1:Nat):Int) (t.size:Int))) leaf).2.1,((rpW t (pre++nibV (ssub t ((1:Nat):Int) (t.size:Int))) leaf).2.2,()))),()):=by
 have hs:=ssub_size t 1 t.size (by omega) (by omega)
 have hn:=nibV_len (ssub t ((1:Nat):Int) (t.size:Int))
 rw[sReadPrefix_q8,ssz_d,inb2_t (by omega) (by omega) (by omega),cnd_t,show ssub t 1 (t.size:Int)=ssub t ((1:Nat):Int) (t.size:Int) from rfl,sNib_l _ (by omega),bnd_s]
 simp only[]
 rw[app_fits (by decide) (by omega),cnd_t]
 show Go.TV.bnd (sPrefixText_d (pre++nibV (ssub t ((1:Nat):Int) (t.size:Int)),(leaf,()))) (fun r5=>Go.TV.cnd (bnot r5.1.2.1) _ (Go.TV.cnd (sne r5.1.1 t) _ (some ((pre++nibV (ssub t ((1:Nat):Int) (t.size:Int)),(leaf,(true,()))),()))))=_
 have hin: ∀x∈pre++nibV (ssub t ((1:Nat):Int) (t.size:Int)),0≤x∧x≤15:=fun x hx=>(List.mem_append.1 hx).elim (h x) (nibV_in _ x)
 have hl2:(pre++nibV (ssub t ((1:Nat):Int) (t.size:Int))).length≤10000000:=by rw[List.length_append];omega
 generalize pre++nibV (ssub t ((1:Nat):Int) (t.size:Int))=l at hin hl2⊢
 unfold rpW
 by_cases hl:l.length≤64
 ·rw[sPre_l l leaf hin hl,bnd_s]
  simp only[bnot,Bool.not_true,cnd_f]
  by_cases h2:preV l leaf=t
  ·rw[sne_d,decide_eq_true h2,Bool.not_true,cnd_f,if_pos ⟨hl,h2⟩]
  ·rw[sne_d,decide_eq_false h2,Bool.not_false,cnd_t,if_neg (fun hh=>h2 hh.2)]
 ·rw[sPre_f l leaf hin (by omega) hl2,bnd_s,if_neg (fun hh=>hl hh.1)]
  rfl
theorem sRp_l (t:ByteArray) (ht:t.size≤1000000):sReadPrefix_d (t,())=some (((rpV t).1,((rpV t).2.1,((rpV t).2.2,()))),()):=by
 rw[sReadPrefix_b,seq_d]
 unfold rpV
 by_cases h0:t.size=0
 ·have:t=bs []:=by
   apply ba_ext
   rw[List.eq_nil_of_length_eq_zero (l:=t.data.toList) (by rw[Array.length_toList];exact h0)];rfl
  rw[decide_eq_true this,cnd_t,if_pos (.inl h0)]
 ·have hb:=sat_byte t 0
  rw[decide_eq_false (fun h=>h0 (by rw[h];rfl)),cnd_f,inb_t (by omega) (by rw[ssz_d];omega),cnd_t]
  by_cases h1:64≤sat t 0
  ·rw[ige_d,decide_eq_true h1,cnd_t,if_pos (.inr h1)]
  ·have hf:=first_at hb.1 (by omega)
   rw[ige_d,decide_eq_false h1,cnd_f,if_neg (fun hh=>hh.elim h0 h1)]
   by_cases h40:40<t.size
   ·rw[igt_t (by rw[ssz_d];omega),cnd_t]
    have hl: ¬((nibV t).drop (if sat t 0/16 % 2=1 then 1 else 2)).length≤64:=by
     rw[List.length_drop,nibV_len];split<;>omega
    unfold rpW
    rw[if_neg (fun hh=>hl hh.1)]
   ·rw[igt_f (by rw[ssz_d];omega),cnd_f,cnd_t,cnd_t,show nz 16=true from rfl,cnd_t,show nz 2=true from rfl,cnd_t,hf.2.2.1,ieq_d,ige_d]
    by_cases h2:sat t 0/16 % 2=1
    ·rw[decide_eq_true h2,cnd_t,cnd_t,cnd_t,app_fits (by decide) (by simp),cnd_t,hf.2.2.2,if_pos h2]
     show sReadPrefix_D8 (t,([],(decide (32≤sat t 0),([sat t 0 % 16],()))))=_
     rw[sRp8_l t [sat t 0 % 16] _ (fun x hx=>by rw[List.mem_singleton.1 hx];omega) (by simp) (by omega) ht,nibV_cons (show 0<t.size by omega)]
     rfl
    ·rw[decide_eq_false h2,cnd_f,if_neg h2]
     show sReadPrefix_D8 (t,([],(decide (32≤sat t 0),([],()))))=_
     rw[sRp8_l t [] _ (fun x hx=>by cases hx) (by simp) (by omega) ht,nibV_cons (show 0<t.size by omega)]
     rfl
theorem com_comm: ∀a b:List Int,comV a b=comV b a
 | [],[]=>rfl
 | [],_::_=>rfl
 |_::_,[]=>rfl
 |x::a,y::b=>by
  simp only[comV]
  by_cases h:x=y
  ·rw[if_pos h,if_pos h.symm,com_comm a b]
  ·rw[if_neg h,if_neg (fun hh=>h hh.symm)]
def zI:ItemT:= .mk false (bs []) []
noncomputable def nextV (x:ItemT) (left:List Int):ItemT× (Nat×Nat):=
 if x.l=false then (x,(0,3)) else
 if x.k.length=17 then
  (match left with
  | []=>(x,(0,1))
  |a::_=>if (x.k.getD a.toNat zI).l=false∧(x.k.getD a.toNat zI).s=bs [] then (x.k.getD a.toNat zI,(1,1)) else (x.k.getD a.toNat zI,(1,0)))
 else if x.k.length≠2∨(x.k.getD 0 zI).l=true then (x,(0,3)) else
 if (rpV (x.k.getD 0 zI).s).2.2=false then (x,(0,3)) else
 if comV (rpV (x.k.getD 0 zI).s).1 left<(rpV (x.k.getD 0 zI).s).1.length∨((rpV (x.k.getD 0 zI).s).2.1=true∧comV (rpV (x.k.getD 0 zI).s).1 left<left.length) then (x,(comV (rpV (x.k.getD 0 zI).s).1 left,1)) else
 if (rpV (x.k.getD 0 zI).s).2.1=true then (if (x.k.getD 1 zI).l=true then (x,(comV (rpV (x.k.getD 0 zI).s).1 left,3)) else (x.k.getD 1 zI,(comV (rpV (x.k.getD 0 zI).s).1 left,2))) else (x.k.getD 1 zI,(comV (rpV (x.k.getD 0 zI).s).1 left,0))
theorem rd_getD (l:List ItemT) (i:Nat):rd zI l (i:Int)=l.getD i zI:=by
 unfold rd;simp
def KidS (x:ItemT):Prop:= ∀y∈x.k,y.s.size≤1000000
theorem KidS.at' {x:ItemT} (h:KidS x) (i:Nat) (hi:i<x.k.length):(x.k.getD i zI).s.size≤1000000:=by
 rw[List.getD_eq_getElem?_getD,List.getElem?_eq_getElem hi]
 exact h _ (List.getElem_mem hi)
theorem sNext_l (x:ItemT) (left:List Int) (hx:KidS x) (h: ∀a∈left,0≤a∧a≤15) (hl:left.length≤1000):sL19Next_d (x,(left,()))=some (((nextV x left).1,(((nextV x left).2.1:Int),(((nextV x left).2.2:Int),()))),()):=by
 rw[sL19Next_b]
 unfold nextV
 cases hxl:x.l with
 |false=>rw[if_pos rfl];rfl
 |true=>
  rw[show bnot true=false from rfl,cnd_f,if_neg (by decide),ieq_d,len_d]
  by_cases h17:x.k.length=17
  ·rw[decide_eq_true (by omega),cnd_t,if_pos h17]
   cases left with
   |nil=>rfl
   |cons a r=>
    have ha:=h a (by simp)
    obtain ⟨n,rfl⟩:=Int.eq_ofNat_of_zero_le ha.1
    rw[ieq_d,decide_eq_false (by rw[len_d,List.length_cons];omega),cnd_f,inb_t (by omega) (by rw[len_d,List.length_cons];omega),cnd_t,show rd (0:Int) ((n:Int)::r) 0=(n:Int) from rfl,inb_t (by omega) (by omega),cnd_t]
    rw[show rd (ItemT.mk false (bs []) ([]:List ItemT)) x.k (n:Int)=x.k.getD n zI from rd_getD _ _]
    simp only[Int.toNat_natCast]
    cases hyl:(x.k.getD n zI).l with
    |true=>rw[if_neg (by simp)];rfl
    |false=>
     rw[show bnot false=true from rfl,cnd_t,seq_d]
     by_cases hs:(x.k.getD n zI).s=bs []
     ·rw[decide_eq_true hs,cnd_t,if_pos ⟨rfl,hs⟩];rfl
     ·rw[decide_eq_false hs,cnd_f,if_neg (fun hh=>hs hh.2)];rfl
  ·rw[decide_eq_false (by omega),cnd_f,if_neg h17,ine_d]
   by_cases h2:x.k.length=2
   ·rw[decide_eq_true (by omega),Bool.not_true,cnd_f,inb_t (by omega) (by omega),cnd_t,show rd (ItemT.mk false (bs []) ([]:List ItemT)) x.k 0=x.k.getD 0 zI from rd_getD _ 0]
    cases h0l:(x.k.getD 0 zI).l with
    |true=>rw[cnd_t,if_pos (.inr rfl)];rfl
    |false=>
     have hrl:=rpV_len (x.k.getD 0 zI).s
     rw[cnd_f,cnd_t,if_neg (fun hh=>hh.elim (fun h=>h h2) (fun h=>by cases h)),sRp_l _ (hx.at' 0 (by omega)),bnd_s]
     simp only[]
     cases hok:(rpV (x.k.getD 0 zI).s).2.2 with
     |false=>rw[show bnot false=true from rfl,cnd_t,if_pos rfl];rfl
     |true=>
      rw[show bnot true=false from rfl,cnd_f,if_neg (by decide),sCom_l _ _ (by omega),bnd_s]
      simp only[]
      have hc:=com_le (rpV (x.k.getD 0 zI).s).1 left
      have h18:sL19Next_D18 ((rpV (x.k.getD 0 zI).s).2.1,((comV (rpV (x.k.getD 0 zI).s).1 left:Int),(x,(ItemT.mk false (bs []) [],()))))=some (((if (rpV (x.k.getD 0 zI).s).2.1=true then (if (x.k.getD 1 zI).l=true then (x,(comV (rpV (x.k.getD 0 zI).s).1 left,3)) else (x.k.getD 1 zI,(comV (rpV (x.k.getD 0 zI).s).1 left,2))) else (x.k.getD 1 zI,(comV (rpV (x.k.getD 0 zI).s).1 left,0)):ItemT× (Nat×Nat)).1,(((if (rpV (x.k.getD 0 zI).s).2.1=true then (if (x.k.getD 1 zI).l=true then (x,(comV (rpV (x.k.getD 0 zI).s).1 left,3)) else (x.k.getD 1 zI,(comV (rpV (x.k.getD 0 zI).s).1 left,2))) else (x.k.getD 1 zI,(comV (rpV (x.k.getD 0 zI).s).1 left,0)):ItemT× (Nat×Nat)).2.1:Int),(((if (rpV (x.k.getD 0 zI).s).2.1=true then (if (x.k.getD 1 zI).l=true then (x,(comV (rpV (x.k.getD 0 zI).s).1 left,3)) else (x.k.getD 1 zI,(comV (rpV (x.k.getD 0 zI).s).1 left,2))) else (x.k.getD 1 zI,(comV (rpV (x.k.getD 0 zI).s).1 left,0)):ItemT× (Nat×Nat)).2.2:Int),()))),()):=by
       rw[sL19Next_q18,len_d,inb_t (i:=1) (n:=(x.k.length:Int)) (by omega) (by omega),cnd_t,cnd_t,cnd_t,show rd (ItemT.mk false (bs []) ([]:List ItemT)) x.k 1=x.k.getD 1 zI from rd_getD _ 1]
       cases (rpV (x.k.getD 0 zI).s).2.1 with
       |false=>rfl
       |true=>
        rw[cnd_t,if_pos rfl]
        cases (x.k.getD 1 zI).l<;>rfl
      by_cases hlt:comV (rpV (x.k.getD 0 zI).s).1 left<(rpV (x.k.getD 0 zI).s).1.length
      ·rw[ilt_t (by rw[len_d];omega),cnd_t,if_pos (.inl hlt)];rfl
      ·rw[ilt_f (by rw[len_d];omega),cnd_f]
       cases hle:(rpV (x.k.getD 0 zI).s).2.1 with
       |false=>
        rw[hle] at h18
        rw[cnd_f,if_neg (fun hh=>hh.elim hlt (fun h=>by cases h.1))]
        exact h18
       |true=>
        rw[hle] at h18
        rw[cnd_t]
        by_cases hll:comV (rpV (x.k.getD 0 zI).s).1 left<left.length
        ·rw[igt_t (by rw[len_d];omega),cnd_t,if_pos (.inr ⟨rfl,hll⟩)];rfl
        ·rw[igt_f (by rw[len_d];omega),cnd_f,if_neg (fun hh=>hh.elim hlt (fun h=>hll h.2))]
         exact h18
   ·rw[decide_eq_false (by omega),Bool.not_false,cnd_t,if_pos (.inl h2)];rfl
end Go.Proofs.YtoeiajpklkijgaaGreatDoor
