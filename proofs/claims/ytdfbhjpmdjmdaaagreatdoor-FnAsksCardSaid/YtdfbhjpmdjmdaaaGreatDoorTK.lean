/- Prefixes that are read; where a list leads. Of no condition. -/
import Derived.Test.YtdfbhjpmdjmdaaaGreatDoorTJ
set_option linter.unusedVariables false
set_option linter.unusedSimpArgs false
set_option maxRecDepth 100000
namespace Go.Proofs.YtdfbhjpmdjmdaaaGreatDoor
open Go.TV
theorem Oz8 (l:List Int) (h: ∀x∈l,0≤x∧x≤15) (hl:64<l.length) (hz:l.length≤10000000):hzN (l,())=some ((false,()),()):=by
 have loop: ∀ (m i:Nat),i+m=l.length→fz1 (l,(l,(len l,((i:Int),()))))=some ((false,()),()):=by
  intro m
  induction m with
  |zero=>intro i hi;rw[izU,show (i:Int)=(l.length:Int) by omega,bzb,azc,gzB,azA,decide_eq_false (by omega)]
  |succ m ih=>
   intro i hi
   have hlt:i<l.length:=by omega
   have hx:=h l[i] (List.getElem_mem hlt)
   rw[izU,bzp hlt,aza,az0 hlt,aza,bzA hlt,az7 hx.1,azc,bzy hx.2,azc,azq (by omega),ih (i+1) (by omega)]
 rw[vzj]
 exact loop l.length 0 (by omega)
theorem OzK (l:List Int) (h: ∀x∈l,0≤x∧x≤15) (hl:64<l.length) (hz:l.length≤10000000):hzF (l,())=some ((false,()),()):=by
 have loop: ∀ (m i:Nat),i+m=l.length→gzg (l,((i:Int),()))=some ((false,()),()):=by
  intro m
  induction m with
  |zero=>intro i hi;rw[izH,show (i:Int)=(l.length:Int) by omega,bzb,azc,gzB,azA,decide_eq_false (by omega)]
  |succ m ih=>
   intro i hi
   have hlt:i<l.length:=by omega
   have hx:=h l[i] (List.getElem_mem hlt)
   rw[izH,bzp hlt,aza,az0 hlt,aza,bzA hlt,tzD,azd]
   simp only[decide_eq_true hx,bnot,Bool.not_true,azc]
   rw[azq (by omega),ih (i+1) (by omega)]
 rw[vzp]
 exact loop l.length 0 (by omega)
theorem iPre_f (l:List Int) (leaf:Bool) (h: ∀x∈l,0≤x∧x≤15) (hl:64<l.length) (hz:l.length≤10000000):cz3 (l,(leaf,()))=some ((bs [],(false,())),()):=by
 rw[rzR,Oz8 l h hl hz,azd];rfl
theorem sPre_f (l:List Int) (leaf:Bool) (h: ∀x∈l,0≤x∧x≤15) (hl:64<l.length) (hz:l.length≤10000000):czx (l,(leaf,()))=some ((bs [],(false,())),()):=by
 rw[szF,OzK l h hl hz,azd];rfl
theorem Ozc {s:ByteArray} {p q i:Nat} (h:p+i<q) (hq:q≤s.size):sat (ssub s (p:Int) (q:Int)) (i:Int)=sat s ((p+i:Nat):Int):=by
 have hz:=hzH s p q (by omega) hq
 rw[uz4 _ i (by omega),uz4 _ (p+i) (by omega)]
 simp only[ezI,List.getElem_take,List.getElem_drop]
theorem Gz2 (t:ByteArray): ∀ (m i:Nat),1+i+m≤t.size→nibF (ssub t ((1:Nat):Int) (t.size:Int)) i m=nibF t (i+1) m
 |0,i,_=>rfl
 |m+1,i,h=>by
  simp only[nibF]
  rw[Ozc (by omega) (by omega),Gz2 t m (i+1) (by omega),show 1+i=i+1 by omega]
theorem szZ {t:ByteArray} (h:0<t.size):nibV t=sat t 0/16::sat t 0 % 16::nibV (ssub t ((1:Nat):Int) (t.size:Int)):=by
 obtain ⟨n,hn⟩: ∃n,t.size=n+1:=⟨t.size-1,by omega⟩
 have hz:=hzH t 1 t.size (by omega) (by omega)
 rw[nibV,nibV,hz,show t.size-1=n by omega,Gz2 t n 0 (by omega),hn]
 rfl
theorem IzI:yzI 64 (fun b=>decide (ieq (iand .i64 ((b:Int)/16) 1) 1=decide ((b:Int)/16 % 2=1)∧ine (iand .i64 ((b:Int)/16) 2) 0=decide (32≤(b:Int))∧irem (iquo .u8 (b:Int) 16) 2=(b:Int)/16 % 2∧irem (azx .i64 (b:Int)) 16=(b:Int) % 16))=true:=by kernel_rfl
theorem HzH {b:Int} (h0:0≤b) (h1:b<64):ieq (iand .i64 (b/16) 1) 1=decide (b/16 % 2=1)∧ine (iand .i64 (b/16) 2) 0=decide (32≤b)∧irem (iquo .u8 b 16) 2=b/16 % 2∧irem (azx .i64 b) 16=b % 16:=by
 obtain ⟨n,rfl⟩:=Int.eq_ofNat_of_zero_le h0
 exact of_decide_eq_true (gzj _ _ IzI n (by omega))
def rpW (t:ByteArray) (l:List Int) (leaf:Bool):List Int× (Bool×Bool):=if l.length≤64∧preV l leaf=t then (l,(leaf,true)) else ([],(false,false))
def rpV (t:ByteArray):List Int× (Bool×Bool):=if t.size=0∨64≤sat t 0 then ([],(false,false)) else rpW t ((nibV t).drop (if sat t 0/16 % 2=1 then 1 else 2)) (decide (32≤sat t 0))
theorem Qzy (t:ByteArray) (l:List Int) (leaf:Bool):(rpW t l leaf).1.length≤64:=by
 unfold rpW
 split
 ·rename_i h;exact h.1
 ·simp
theorem Kzx (t:ByteArray):(rpV t).1.length≤64:=by
 unfold rpV
 split
 ·simp
 ·exact Qzy _ _ _
theorem PzS (t:ByteArray) (l:List Int) (leaf:Bool) (h: ∀x∈l,0≤x∧x≤15) (hz:l.length≤10000000):hzw (t,(l,(leaf,())))=some (((rpW t l leaf).1,((rpW t l leaf).2.1,((rpW t l leaf).2.2,()))),()):=by
 rw[yzJ]
 unfold rpW
 by_cases hl:l.length≤64
 ·rw[Mzw l leaf h hl,azd]
  simp only[bnot,Bool.not_true,azc]
  by_cases h2:preV l leaf=t
  ·rw[qzb,decide_eq_true h2,Bool.not_true,azc,azv (by decide) (by simp only[List.length_nil];omega),aza,if_pos ⟨hl,h2⟩]
   rfl
  ·rw[qzb,decide_eq_false h2,Bool.not_false,aza,if_neg (fun hh=>h2 hh.2)]
 ·rw[iPre_f l leaf h (by omega) hz,azd,if_neg (fun hh=>hl hh.1)]
  rfl
theorem iRp_l (t:ByteArray) (ht:t.size≤1000000):izG (t,())=some (((rpV t).1,((rpV t).2.1,((rpV t).2.2,()))),()):=by
 rw[Bzi,nzV]
 unfold rpV
 by_cases h0:t.size=0
 ·have:t=bs []:=by
   apply szW
   rw[List.eq_nil_of_length_eq_zero (l:=t.data.toList) (by rw[Array.length_toList];exact h0)];rfl
  rw[decide_eq_true this,aza,if_pos (.inl h0)]
 ·have hb:=fzS t 0
  rw[decide_eq_false (fun h=>h0 (by rw[h];rfl)),azc,bzI (by omega) (by rw[azN];omega),aza]
  by_cases h1:64≤sat t 0
  ·rw[cze (by omega),aza,if_pos (.inr h1)]
  ·have hf:=HzH hb.1 (by omega)
   have hn:(nibV t).length=2*t.size:=czN t
   have hr:rd (0:Int) (nibV t) 0=sat t 0/16:=by rw[szZ (by omega)];rfl
   have hin: ∀n:Nat,∀x∈(nibV t).drop n,0≤x∧x≤15:=fun n x hx=>dz0 t x (List.mem_of_mem_drop hx)
   have hd: ∀n:Nat,sub (nibV t) (n:Int) (len (nibV t))=(nibV t).drop n:=fun n=>by rw[azA];unfold sub;simp
   rw[bzy (by omega),azc,sz9 t ht,azd]
   simp only[]
   rw[azA,bzI (by omega) (by omega),aza,aza,hr,hf.1,hf.2.1,if_neg (fun hh=>hh.elim h0 h1)]
   by_cases h2:sat t 0/16 % 2=1
   ·rw[decide_eq_true h2,aza,bzu (by omega) (by omega) (by omega),aza,if_pos h2,←azA,show sub (nibV t) 1 (len (nibV t))=(nibV t).drop 1 from hd 1]
    exact PzS t _ _ (hin 1) (by rw[List.length_drop];omega)
   ·rw[decide_eq_false h2,azc,bzu (by omega) (by omega) (by omega),aza,if_neg h2,←azA,show sub (nibV t) 2 (len (nibV t))=(nibV t).drop 2 from hd 2]
    exact PzS t _ _ (hin 2) (by rw[List.length_drop];omega)
theorem Pzo (t:ByteArray) (pre:List Int) (leaf:Bool) (h: ∀x∈pre,0≤x∧x≤15) (hp:pre.length≤10) (h0:0<t.size) (hz:t.size≤1000000):dzo (t,([],(leaf,(pre,()))))=some (((rpW t (pre++nibV (ssub t ((1:Nat):Int) (t.size:Int))) leaf).1,((rpW t (pre++nibV (ssub t ((1:Nat):Int) (t.size:Int))) leaf).2.1,((rpW t (pre++nibV (ssub t ((1:Nat):Int) (t.size:Int))) leaf).2.2,()))),()):=by
 have hs:=hzH t 1 t.size (by omega) (by omega)
 have hn:=czN (ssub t ((1:Nat):Int) (t.size:Int))
 rw[yz6,azN,bzu (by omega) (by omega) (by omega),aza,show ssub t 1 (t.size:Int)=ssub t ((1:Nat):Int) (t.size:Int) from rfl,szb _ (by omega),azd]
 simp only[]
 rw[azv (by decide) (by omega),aza]
 show Go.TV.bnd (czx (pre++nibV (ssub t ((1:Nat):Int) (t.size:Int)),(leaf,()))) (fun r5=>Go.TV.cnd (bnot r5.1.2.1) _ (Go.TV.cnd (sne r5.1.1 t) _ (some ((pre++nibV (ssub t ((1:Nat):Int) (t.size:Int)),(leaf,(true,()))),()))))=_
 have hin: ∀x∈pre++nibV (ssub t ((1:Nat):Int) (t.size:Int)),0≤x∧x≤15:=fun x hx=>(List.mem_append.1 hx).elim (h x) (dz0 _ x)
 have hl2:(pre++nibV (ssub t ((1:Nat):Int) (t.size:Int))).length≤10000000:=by rw[List.length_append];omega
 generalize pre++nibV (ssub t ((1:Nat):Int) (t.size:Int))=l at hin hl2⊢
 unfold rpW
 by_cases hl:l.length≤64
 ·rw[Nzj l leaf hin hl,azd]
  simp only[bnot,Bool.not_true,azc]
  by_cases h2:preV l leaf=t
  ·rw[qzb,decide_eq_true h2,Bool.not_true,azc,if_pos ⟨hl,h2⟩]
  ·rw[qzb,decide_eq_false h2,Bool.not_false,aza,if_neg (fun hh=>h2 hh.2)]
 ·rw[sPre_f l leaf hin (by omega) hl2,azd,if_neg (fun hh=>hl hh.1)]
  rfl
theorem sRp_l (t:ByteArray) (ht:t.size≤1000000):izO (t,())=some (((rpV t).1,((rpV t).2.1,((rpV t).2.2,()))),()):=by
 rw[Az3,nzV]
 unfold rpV
 by_cases h0:t.size=0
 ·have:t=bs []:=by
   apply szW
   rw[List.eq_nil_of_length_eq_zero (l:=t.data.toList) (by rw[Array.length_toList];exact h0)];rfl
  rw[decide_eq_true this,aza,if_pos (.inl h0)]
 ·have hb:=fzS t 0
  rw[decide_eq_false (fun h=>h0 (by rw[h];rfl)),azc,bzI (by omega) (by rw[azN];omega),aza]
  by_cases h1:64≤sat t 0
  ·rw[czX,decide_eq_true h1,aza,if_pos (.inr h1)]
  ·have hf:=HzH hb.1 (by omega)
   rw[czX,decide_eq_false h1,azc,if_neg (fun hh=>hh.elim h0 h1)]
   by_cases h40:40<t.size
   ·rw[cze (by rw[azN];omega),aza]
    have hl: ¬((nibV t).drop (if sat t 0/16 % 2=1 then 1 else 2)).length≤64:=by
     rw[List.length_drop,czN];split<;>omega
    unfold rpW
    rw[if_neg (fun hh=>hl hh.1)]
   ·rw[bzy (by rw[azN];omega),azc,aza,aza,show nz 16=true from rfl,aza,show nz 2=true from rfl,aza,hf.2.2.1,czd,czX]
    by_cases h2:sat t 0/16 % 2=1
    ·rw[decide_eq_true h2,aza,aza,aza,azv (by decide) (by simp),aza,hf.2.2.2,if_pos h2]
     show dzo (t,([],(decide (32≤sat t 0),([sat t 0 % 16],()))))=_
     rw[Pzo t [sat t 0 % 16] _ (fun x hx=>by rw[List.mem_singleton.1 hx];omega) (by simp) (by omega) ht,szZ (show 0<t.size by omega)]
     rfl
    ·rw[decide_eq_false h2,azc,if_neg h2]
     show dzo (t,([],(decide (32≤sat t 0),([],()))))=_
     rw[Pzo t [] _ (fun x hx=>by cases hx) (by simp) (by omega) ht,szZ (show 0<t.size by omega)]
     rfl
theorem rz7: ∀a b:List Int,comV a b=comV b a
 | [],[]=>rfl
 | [],_::_=>rfl
 |_::_,[]=>rfl
 |x::a,y::b=>by
  simp only[comV]
  by_cases h:x=y
  ·rw[if_pos h,if_pos h.symm,rz7 a b]
  ·rw[if_neg h,if_neg (fun hh=>h hh.symm)]
def zI:ItemT:= .mk false (bs []) []
noncomputable def az9 (x:ItemT) (left:List Int):ItemT× (Nat×Nat):=
 if x.l=false then (x,(0,3)) else
 if x.k.length=17 then
  (match left with
  | []=>(x,(0,1))
  |a::_=>if (x.k.getD a.toNat zI).l=false∧(x.k.getD a.toNat zI).s=bs [] then (x.k.getD a.toNat zI,(1,1)) else (x.k.getD a.toNat zI,(1,0)))
 else if x.k.length≠2∨(x.k.getD 0 zI).l=true then (x,(0,3)) else
 if (rpV (x.k.getD 0 zI).s).2.2=false then (x,(0,3)) else
 if comV (rpV (x.k.getD 0 zI).s).1 left<(rpV (x.k.getD 0 zI).s).1.length∨((rpV (x.k.getD 0 zI).s).2.1=true∧comV (rpV (x.k.getD 0 zI).s).1 left<left.length) then (x,(comV (rpV (x.k.getD 0 zI).s).1 left,1)) else
 if (rpV (x.k.getD 0 zI).s).2.1=true then (if (x.k.getD 1 zI).l=true then (x,(comV (rpV (x.k.getD 0 zI).s).1 left,3)) else (x.k.getD 1 zI,(comV (rpV (x.k.getD 0 zI).s).1 left,2))) else (x.k.getD 1 zI,(comV (rpV (x.k.getD 0 zI).s).1 left,0))
theorem rzs (l:List ItemT) (i:Nat):rd zI l (i:Int)=l.getD i zI:=by
 unfold rd;simp
def KidS (x:ItemT):Prop:= ∀y∈x.k,y.s.size≤1000000
theorem KidS.at' {x:ItemT} (h:KidS x) (i:Nat) (hi:i<x.k.length):(x.k.getD i zI).s.size≤1000000:=by
 rw[List.getD_eq_getElem?_getD,List.getElem?_eq_getElem hi]
 exact h _ (List.getElem_mem hi)
theorem Fz4 (x:ItemT) (left:List Int) (hx:KidS x) (h: ∀a∈left,0≤a∧a≤15) (hl:left.length≤1000):mzf (x,(left,()))=some (((az9 x left).1,(((az9 x left).2.1:Int),(((az9 x left).2.2:Int),()))),()):=by
 rw[JzE]
 unfold az9
 cases hxl:x.l with
 |false=>rw[if_pos rfl];rfl
 |true=>
  rw[show bnot true=false from rfl,azc,if_neg (by decide),czd,azA]
  by_cases h17:x.k.length=17
  ·rw[decide_eq_true (by omega),aza,if_pos h17]
   cases left with
   |nil=>rfl
   |cons a r=>
    have ha:=h a (by simp)
    obtain ⟨n,rfl⟩:=Int.eq_ofNat_of_zero_le ha.1
    rw[czd,decide_eq_false (by rw[azA,List.length_cons];omega),azc,bzI (by omega) (by rw[azA,List.length_cons];omega),aza,show rd (0:Int) ((n:Int)::r) 0=(n:Int) from rfl,bzI (by omega) (by omega),aza]
    rw[show rd (ItemT.mk false (bs []) ([]:List ItemT)) x.k (n:Int)=x.k.getD n zI from rzs _ _]
    simp only[Int.toNat_natCast]
    cases hyl:(x.k.getD n zI).l with
    |true=>rw[if_neg (by simp)];rfl
    |false=>
     rw[show bnot false=true from rfl,aza,nzV]
     by_cases hs:(x.k.getD n zI).s=bs []
     ·rw[decide_eq_true hs,aza,if_pos ⟨rfl,hs⟩];rfl
     ·rw[decide_eq_false hs,azc,if_neg (fun hh=>hs hh.2)];rfl
  ·rw[decide_eq_false (by omega),azc,if_neg h17,czY]
   by_cases h2:x.k.length=2
   ·rw[decide_eq_true (by omega),Bool.not_true,azc,bzI (by omega) (by omega),aza,show rd (ItemT.mk false (bs []) ([]:List ItemT)) x.k 0=x.k.getD 0 zI from rzs _ 0]
    cases h0l:(x.k.getD 0 zI).l with
    |true=>rw[aza,if_pos (.inr rfl)];rfl
    |false=>
     have hrl:=Kzx (x.k.getD 0 zI).s
     rw[azc,aza,if_neg (fun hh=>hh.elim (fun h=>h h2) (fun h=>by cases h)),sRp_l _ (hx.at' 0 (by omega)),azd]
     simp only[]
     cases hok:(rpV (x.k.getD 0 zI).s).2.2 with
     |false=>rw[show bnot false=true from rfl,aza,if_pos rfl];rfl
     |true=>
      rw[show bnot true=false from rfl,azc,if_neg (by decide),Mzo _ _ (by omega),azd]
      simp only[]
      have hc:=uz2 (rpV (x.k.getD 0 zI).s).1 left
      have h18:kzq ((rpV (x.k.getD 0 zI).s).2.1,((comV (rpV (x.k.getD 0 zI).s).1 left:Int),(x,(ItemT.mk false (bs []) [],()))))=some (((if (rpV (x.k.getD 0 zI).s).2.1=true then (if (x.k.getD 1 zI).l=true then (x,(comV (rpV (x.k.getD 0 zI).s).1 left,3)) else (x.k.getD 1 zI,(comV (rpV (x.k.getD 0 zI).s).1 left,2))) else (x.k.getD 1 zI,(comV (rpV (x.k.getD 0 zI).s).1 left,0)):ItemT× (Nat×Nat)).1,(((if (rpV (x.k.getD 0 zI).s).2.1=true then (if (x.k.getD 1 zI).l=true then (x,(comV (rpV (x.k.getD 0 zI).s).1 left,3)) else (x.k.getD 1 zI,(comV (rpV (x.k.getD 0 zI).s).1 left,2))) else (x.k.getD 1 zI,(comV (rpV (x.k.getD 0 zI).s).1 left,0)):ItemT× (Nat×Nat)).2.1:Int),(((if (rpV (x.k.getD 0 zI).s).2.1=true then (if (x.k.getD 1 zI).l=true then (x,(comV (rpV (x.k.getD 0 zI).s).1 left,3)) else (x.k.getD 1 zI,(comV (rpV (x.k.getD 0 zI).s).1 left,2))) else (x.k.getD 1 zI,(comV (rpV (x.k.getD 0 zI).s).1 left,0)):ItemT× (Nat×Nat)).2.2:Int),()))),()):=by
       rw[CzO,azA,bzI (i:=1) (n:=(x.k.length:Int)) (by omega) (by omega),aza,aza,aza,show rd (ItemT.mk false (bs []) ([]:List ItemT)) x.k 1=x.k.getD 1 zI from rzs _ 1]
       cases (rpV (x.k.getD 0 zI).s).2.1 with
       |false=>rfl
       |true=>
        rw[aza,if_pos rfl]
        cases (x.k.getD 1 zI).l<;>rfl
      by_cases hlt:comV (rpV (x.k.getD 0 zI).s).1 left<(rpV (x.k.getD 0 zI).s).1.length
      ·rw[bzW (by rw[azA];omega),aza,if_pos (.inl hlt)];rfl
      ·rw[az7 (by rw[azA];omega),azc]
       cases hle:(rpV (x.k.getD 0 zI).s).2.1 with
       |false=>
        rw[hle] at h18
        rw[azc,if_neg (fun hh=>hh.elim hlt (fun h=>by cases h.1))]
        exact h18
       |true=>
        rw[hle] at h18
        rw[aza]
        by_cases hll:comV (rpV (x.k.getD 0 zI).s).1 left<left.length
        ·rw[cze (by rw[azA];omega),aza,if_pos (.inr ⟨rfl,hll⟩)];rfl
        ·rw[bzy (by rw[azA];omega),azc,if_neg (fun hh=>hh.elim hlt (fun h=>hll h.2))]
         exact h18
   ·rw[decide_eq_false (by omega),Bool.not_false,aza,if_pos (.inl h2)];rfl
end Go.Proofs.YtdfbhjpmdjmdaaaGreatDoor
