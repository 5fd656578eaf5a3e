/- Texts read, journals; what is shown of a bridge. Of no condition. -/
import Derived.Test.YtkfifjaomgjnnaaGreatDoorJA
set_option linter.unusedVariables false
set_option linter.unusedSimpArgs false
set_option maxRecDepth 100000
namespace Go.Proofs.YtkfifjaomgjnnaaGreatDoor
open Go.TV
theorem ssub_size (s:ByteArray) (i j:Nat) (h:i≤j) (hj:j≤s.size):(ssub s (i:Int) (j:Int)).size=j-i:=by
 unfold ssub
 rw[ByteArray.size_extract,Int.toNat_natCast,Int.toNat_natCast];omega
theorem scat_assoc (a b c:ByteArray):scat (scat a b) c=scat a (scat b c):=by
 apply ba_ext
 simp [scat,ByteArray.data_append]
theorem ssub_data (s:ByteArray) (i j:Nat):(ssub s (i:Int) (j:Int)).data.toList=(s.data.toList.drop i).take (j-i):=by
 unfold ssub
 rw[Int.toNat_natCast,Int.toNat_natCast,ByteArray.data_extract,Array.toList_extract]
theorem ssub_split (s:ByteArray) (i j k:Nat) (h1:i≤j) (h2:j≤k):ssub s (i:Int) (k:Int)=scat (ssub s (i:Int) (j:Int)) (ssub s (j:Int) (k:Int)):=by
 apply ba_ext
 have:(scat (ssub s (i:Int) (j:Int)) (ssub s (j:Int) (k:Int))).data.toList=(ssub s (i:Int) (j:Int)).data.toList++(ssub s (j:Int) (k:Int)).data.toList:=by
  simp [scat,ByteArray.data_append]
 rw[this,ssub_data,ssub_data,ssub_data,show k-i=(j-i)+(k-j) by omega,List.take_add,List.drop_drop,show i+(j-i)=j by omega]
theorem ssub_sub (s:ByteArray) (i j k l:Nat) (h1:i+l≤j):ssub (ssub s (i:Int) (j:Int)) (k:Int) (l:Int)=ssub s ((i+k:Nat):Int) ((i+l:Nat):Int):=by
 apply ba_ext
 rw[ssub_data,ssub_data,ssub_data,List.drop_take,List.drop_drop,List.take_take]
 congr 1
 omega
theorem scat_cancel {a x y:ByteArray} (h:scat a x=scat a y):x=y:=by
 apply ba_ext
 have:=congrArg (fun s=>s.data.toList) h
 simpa [scat,ByteArray.data_append] using this
theorem iUnsealed_l (t:ByteArray) (ht:t.size≤1099511):iUnsealed_d (t,())=some (if 4≤t.size∧t.size≤20004∧sumV (ssub t 0 ((t.size-4:Nat):Int))=ssub t ((t.size-4:Nat):Int) (t.size:Int) then (ssub t 0 ((t.size-4:Nat):Int),(true,())) else zL21Cur,()):=by
 rw[iUnsealed_b,ssz_d,isub_64 (by omega) (by omega)]
 by_cases h1:4≤t.size
 ·rw[ilt_f (by omega),cnd_f,show (t.size:Int)-4=((t.size-4:Nat):Int) by omega]
  by_cases h2:t.size≤20004
  ·have hz:(ssub t 0 ((t.size-4:Nat):Int)).size=t.size-4:=by
    have:=ssub_size t 0 (t.size-4) (by omega) (by omega);simpa using this
   rw[igt_f (by omega),cnd_f,inb2_t (by omega) (by omega) (by omega),cnd_t,iSumText_l _ (by rw[hz];omega),bnd_s,inb2_t (by omega) (by omega) (by omega),cnd_t,sne_d]
   by_cases h3:sumV (ssub t 0 ((t.size-4:Nat):Int))=ssub t ((t.size-4:Nat):Int) (t.size:Int)
   ·rw[decide_eq_true h3,if_pos ⟨h1,h2,h3⟩];rfl
   ·rw[decide_eq_false h3,if_neg fun h=>h3 h.2.2];rfl
  ·rw[igt_t (by omega),cnd_t,if_neg fun h=>h2 h.2.1]
 ·rw[ilt_t (by omega),cnd_t,if_neg fun h=>h1 h.1]
theorem sSealed_l (t:ByteArray) (ht:t.size≤20000):sSealed_d (t,())=some ((scat t (sumV t),(true,())),()):=by
 rw[sSealed_b,igt_f (by rw[ssz_d];omega),cnd_f,sSumOf_l t (by omega),bnd_s,sFour_l,bnd_s,cat_fits (by rw[four_size];omega),cnd_t]
 rfl
theorem sRecordText_l (t:ByteArray) (h1:t.size≤1099511627776):sRecordText_d (t,())=some (if 1≤t.size∧t.size≤700 then (scat (scat (varV (t.size:Int)) t) (sumV (scat (varV (t.size:Int)) t)),(true,())) else zL21Cur,()):=by
 rw[sRecordText_b,sIn_l,bnd_s]
 by_cases c:1≤t.size∧t.size≤700
 ·have hv:=varV_size (ssz t)
  have hd:decide ((1:Int)≤ssz t∧ssz t≤700)=true:=by rw[ssz_d];exact decide_eq_true (by omega)
  simp only[hd,bnot,Bool.not_true,cnd_f]
  rw[sVar_l (ssz t) (by rw[ssz_d];omega) (by rw[ssz_d];omega),bnd_s,cat_fits (x:=varV (ssz t)) (y:=t) (by omega),cnd_t,sSealed_l (scat (varV (ssz t)) t) (by rw[size_scat];omega),bnd_s,if_pos c,ssz_d]
 ·have hd:decide ((1:Int)≤ssz t∧ssz t≤700)=false:=by rw[ssz_d];exact decide_eq_false (by omega)
  simp only[hd,bnot,Bool.not_false,cnd_t]
  rw[if_neg c]
end Go.Proofs.YtkfifjaomgjnnaaGreatDoor
