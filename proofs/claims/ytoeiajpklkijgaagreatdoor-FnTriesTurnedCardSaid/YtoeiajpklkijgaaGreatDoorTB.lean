/- The texts of items. Of no condition. -/
import Derived.Test.YtoeiajpklkijgaaGreatDoorJB
set_option linter.unusedVariables false
set_option linter.unusedSimpArgs false
set_option maxRecDepth 100000
namespace Go.Proofs.YtoeiajpklkijgaaGreatDoor
open Go.TV
theorem rev_0:g_slices_Reverse_byte_byte_d (([]:List Int),())=some ((),([],())):=by
 rw[g_slices_Reverse_byte_byte_b]
 show g_slices_Reverse_byte_byte_D1 (([]:List Int),(0,((-1),())))=_
 rw[g_slices_Reverse_byte_byte_q1]
 rfl
theorem rev_1 (a:Int):g_slices_Reverse_byte_byte_d ([a],())=some ((),([a],())):=by
 rw[g_slices_Reverse_byte_byte_b]
 show g_slices_Reverse_byte_byte_D1 ([a],(0,(0,())))=_
 rw[g_slices_Reverse_byte_byte_q1]
 rfl
theorem rev_2 (a b:Int):g_slices_Reverse_byte_byte_d ([a,b],())=some ((),([b,a],())):=by
 rw[g_slices_Reverse_byte_byte_b]
 show g_slices_Reverse_byte_byte_D1 ([a,b],(0,(1,())))=_
 rw[g_slices_Reverse_byte_byte_q1]
 show g_slices_Reverse_byte_byte_D1 ([b,a],(1,(0,())))=_
 rw[g_slices_Reverse_byte_byte_q1]
 rfl
theorem rev_3 (a b c:Int):g_slices_Reverse_byte_byte_d ([a,b,c],())=some ((),([c,b,a],())):=by
 rw[g_slices_Reverse_byte_byte_b]
 show g_slices_Reverse_byte_byte_D1 ([a,b,c],(0,(2,())))=_
 rw[g_slices_Reverse_byte_byte_q1]
 show g_slices_Reverse_byte_byte_D1 ([c,b,a],(1,(1,())))=_
 rw[g_slices_Reverse_byte_byte_q1]
 rfl
theorem rev_4 (a b c d:Int):g_slices_Reverse_byte_byte_d ([a,b,c,d],())=some ((),([d,c,b,a],())):=by
 rw[g_slices_Reverse_byte_byte_b]
 show g_slices_Reverse_byte_byte_D1 ([a,b,c,d],(0,(3,())))=_
 rw[g_slices_Reverse_byte_byte_q1]
 show g_slices_Reverse_byte_byte_D1 ([d,b,c,a],(1,(2,())))=_
 rw[g_slices_Reverse_byte_byte_q1]
 show g_slices_Reverse_byte_byte_D1 ([d,c,b,a],(2,(1,())))=_
 rw[g_slices_Reverse_byte_byte_q1]
 rfl
theorem rev_5 (a b c d e:Int):g_slices_Reverse_byte_byte_d ([a,b,c,d,e],())=some ((),([e,d,c,b,a],())):=by
 rw[g_slices_Reverse_byte_byte_b]
 show g_slices_Reverse_byte_byte_D1 ([a,b,c,d,e],(0,(4,())))=_
 rw[g_slices_Reverse_byte_byte_q1]
 show g_slices_Reverse_byte_byte_D1 ([e,b,c,d,a],(1,(3,())))=_
 rw[g_slices_Reverse_byte_byte_q1]
 show g_slices_Reverse_byte_byte_D1 ([e,d,c,b,a],(2,(2,())))=_
 rw[g_slices_Reverse_byte_byte_q1]
 rfl
theorem rev_6 (a b c d e f:Int):g_slices_Reverse_byte_byte_d ([a,b,c,d,e,f],())=some ((),([f,e,d,c,b,a],())):=by
 rw[g_slices_Reverse_byte_byte_b]
 show g_slices_Reverse_byte_byte_D1 ([a,b,c,d,e,f],(0,(5,())))=_
 rw[g_slices_Reverse_byte_byte_q1]
 show g_slices_Reverse_byte_byte_D1 ([f,b,c,d,e,a],(1,(4,())))=_
 rw[g_slices_Reverse_byte_byte_q1]
 show g_slices_Reverse_byte_byte_D1 ([f,e,c,d,b,a],(2,(3,())))=_
 rw[g_slices_Reverse_byte_byte_q1]
 show g_slices_Reverse_byte_byte_D1 ([f,e,d,c,b,a],(3,(2,())))=_
 rw[g_slices_Reverse_byte_byte_q1]
 rfl
theorem rev_7 (a b c d e f g:Int):g_slices_Reverse_byte_byte_d ([a,b,c,d,e,f,g],())=some ((),([g,f,e,d,c,b,a],())):=by
 rw[g_slices_Reverse_byte_byte_b]
 show g_slices_Reverse_byte_byte_D1 ([a,b,c,d,e,f,g],(0,(6,())))=_
 rw[g_slices_Reverse_byte_byte_q1]
 show g_slices_Reverse_byte_byte_D1 ([g,b,c,d,e,f,a],(1,(5,())))=_
 rw[g_slices_Reverse_byte_byte_q1]
 show g_slices_Reverse_byte_byte_D1 ([g,f,c,d,e,b,a],(2,(4,())))=_
 rw[g_slices_Reverse_byte_byte_q1]
 show g_slices_Reverse_byte_byte_D1 ([g,f,e,d,c,b,a],(3,(3,())))=_
 rw[g_slices_Reverse_byte_byte_q1]
 rfl
theorem rev_8 (a b c d e f g h:Int):g_slices_Reverse_byte_byte_d ([a,b,c,d,e,f,g,h],())=some ((),([h,g,f,e,d,c,b,a],())):=by
 rw[g_slices_Reverse_byte_byte_b]
 show g_slices_Reverse_byte_byte_D1 ([a,b,c,d,e,f,g,h],(0,(7,())))=_
 rw[g_slices_Reverse_byte_byte_q1]
 show g_slices_Reverse_byte_byte_D1 ([h,b,c,d,e,f,g,a],(1,(6,())))=_
 rw[g_slices_Reverse_byte_byte_q1]
 show g_slices_Reverse_byte_byte_D1 ([h,g,c,d,e,f,b,a],(2,(5,())))=_
 rw[g_slices_Reverse_byte_byte_q1]
 show g_slices_Reverse_byte_byte_D1 ([h,g,f,d,e,c,b,a],(3,(4,())))=_
 rw[g_slices_Reverse_byte_byte_q1]
 show g_slices_Reverse_byte_byte_D1 ([h,g,f,e,d,c,b,a],(4,(3,())))=_
 rw[g_slices_Reverse_byte_byte_q1]
 rfl
theorem rev_l: ∀ (xs:List Int),xs.length≤8→g_slices_Reverse_byte_byte_d (xs,())=some ((),(xs.reverse,()))
 | [],_=>rev_0
 | [a],_=>rev_1 a
 | [a,b],_=>rev_2 a b
 | [a,b,c],_=>rev_3 a b c
 | [a,b,c,d],_=>rev_4 a b c d
 | [a,b,c,d,e],_=>rev_5 a b c d e
 | [a,b,c,d,e,f],_=>rev_6 a b c d e f
 | [a,b,c,d,e,f,g],_=>rev_7 a b c d e f g
 | [a,b,c,d,e,f,g,h],_=>rev_8 a b c d e f g h
 |_::_::_::_::_::_::_::_::_::_,h=>by simp only[List.length_cons] at h;omega
def leF:Nat→Nat→List Int
 |0,_=>[]
 |f+1,n=>if n=0 then [] else ((n % 256:Nat):Int)::leF f (n/256)
theorem leF_len: ∀f n,(leF f n).length≤f
 |0,_=>Nat.le_refl _
 |f+1,n=>by
  unfold leF
  split
  ·simp
  ·have:=leF_len f (n/256);simp;omega
theorem leF_0 (f:Nat):leF f 0=[]:=by cases f<;>simp [leF]
def numV (n:Nat):ByteArray:=sof (leF 8 n).reverse
theorem numV_size (n:Nat):(numV n).size≤8:=by rw[numV,size_sof,List.length_reverse];exact leF_len 8 n
theorem iconv_u8n (n:Nat):iconv .u8 (n:Int)=((n % 256:Nat):Int):=by unfold iconv;rw[wrap_u8];omega
theorem shr8 (n:Nat):ishr .i64 (n:Int) 8=((n/256:Nat):Int):=by
 unfold ishr
 rw[show (2:Int)^ (min (8:Int).toNat IntKind.i64.bits)=256 from rfl,Int.fdiv_eq_ediv_of_nonneg _ (by omega)]
 omega
theorem sof_append (a b:List Int):sof (a++b)=scat (sof a) (sof b):=by
 unfold sof scat
 apply ByteArray.ext
 simp
theorem iNumT_loop: ∀ (f n:Nat) (acc:List Int),n<256^f→acc.length+f≤8→n≤9223372036854775807→iNumText_D2 ((n:Int),(acc,()))=some ((sof (acc++leF f n).reverse,()),()):=by
 have zero: ∀ (f:Nat) (acc:List Int),acc.length≤8→iNumText_D2 (((0:Nat):Int),(acc,()))=some ((sof (acc++leF f 0).reverse,()),()):=fun f acc h=>by
  rw[iNumText_q2,igt_f (by omega),cnd_f,rev_l acc h,bnd_s,leF_0,List.append_nil]
 intro f
 induction f with
 |zero=>intro n acc h1 h2 h3;obtain rfl:n=0:=by simpa using h1
        exact zero 0 acc (by omega)
 |succ f ih=>
  intro n acc h1 h2 h3
  by_cases h0:n=0
  ·subst h0;exact zero (f+1) acc (by omega)
  ·rw[iNumText_q2,igt_t (by omega),cnd_t,app_fits (by decide) (by simp;omega),cnd_t,show nn 8=true from rfl,cnd_t,shr8,iconv_u8n]
   show iNumText_D2 (((n/256:Nat):Int),(acc++[((n % 256:Nat):Int)],()))=_
   rw[ih (n/256) _ (Nat.div_lt_of_lt_mul (by rw[Nat.pow_succ] at h1;omega)) (by simp;omega) (by omega)]
   rw[show leF (f+1) n=((n % 256:Nat):Int)::leF f (n/256) by rw[leF,if_neg h0],List.append_assoc]
   rfl
theorem sNumT_loop: ∀ (f n:Nat) (s:ByteArray),n<256^f→s.size+f≤100→n≤9223372036854775807→sNumText_D2 ((n:Int),(s,()))=some ((scat (sof (leF f n).reverse) s,()),()):=by
 have nil: ∀s:ByteArray,scat (sof ([]:List Int).reverse) s=s:=fun s=>by unfold scat sof;apply ByteArray.ext;simp
 have zero: ∀ (f:Nat) (s:ByteArray),sNumText_D2 (((0:Nat):Int),(s,()))=some ((scat (sof (leF f 0).reverse) s,()),()):=fun f s=>by
  rw[sNumText_q2,igt_f (by omega),cnd_f,leF_0,nil]
 intro f
 induction f with
 |zero=>intro n s h1 h2 h3;obtain rfl:n=0:=by simpa using h1
        exact zero 0 s
 |succ f ih=>
  intro n s h1 h2 h3
  by_cases h0:n=0
  ·subst h0;exact zero (f+1) s
  ·rw[sNumText_q2,igt_t (by omega),cnd_t,show nz 256=true from rfl,cnd_t,irem_0 (by omega),show ((n:Int) % 256)=((n % 256:Nat):Int) by omega,iconv_u8n,Nat.mod_mod,cat_fits (by rw[size_sof];simp;omega),cnd_t,cnd_t,iquo_64 (by omega) (by omega) (by omega),show ((n:Int)/256)=((n/256:Nat):Int) by omega,
    ih (n/256) _ (Nat.div_lt_of_lt_mul (by rw[Nat.pow_succ] at h1;omega)) (by rw[size_scat,size_sof];simp;omega) (by omega)]
   rw[show leF (f+1) n=((n % 256:Nat):Int)::leF f (n/256) by rw[leF,if_neg h0],List.reverse_cons,sof_append,scat_assoc]
theorem iNumT_l (n:Nat) (h:n≤9223372036854775807):iNumText_d ((n:Int),())=some ((numV n,()),()):=by
 rw[iNumText_b,iNumT_loop 8 n [] (by omega) (by simp) h];rfl
theorem sNumT_l (n:Nat) (h:n≤9223372036854775807):sNumText_d ((n:Int),())=some ((numV n,()),()):=by
 rw[sNumText_b,sNumT_loop 8 n _ (by omega) (by decide) h]
 have: ∀s:ByteArray,scat s (bs [])=s:=fun s=>by unfold scat bs;apply ByteArray.ext;simp
 rw[this];rfl
def lenV (base:Int) (n:Nat):ByteArray:=if n≤55 then sof [iconv .u8 (iadd .i64 base (n:Int))] else scat (sof [iconv .u8 (iadd .i64 (iadd .i64 base 55) (ssz (numV n)))]) (numV n)
theorem lenV_size (base:Int) (n:Nat):(lenV base n).size≤9:=by
 unfold lenV
 split
 ·rw[size_sof];simp
 ·have:=numV_size n
  rw[size_scat,size_sof];simp;omega
theorem iLen_l (base:Int) (n:Nat) (h:n≤9223372036854775807):iLengthText_d (base,((n:Int),()))=some ((lenV base n,()),()):=by
 rw[iLengthText_b]
 unfold lenV
 by_cases h1:n≤55
 ·rw[ile_d,decide_eq_true (by omega),cnd_t,if_pos h1]
 ·have:=numV_size n
  rw[ile_d,decide_eq_false (by omega),cnd_f,iNumT_l n h,bnd_s,if_neg h1]
  simp only[]
  rw[cat_fits (by rw[size_sof];simp;omega),cnd_t]
theorem sHeadL_l (base:Int) (n:Nat) (h:n≤9223372036854775807):sL17Head_d ((n:Int),(base,()))=some ((lenV base n,()),()):=by
 rw[sL17Head_b]
 unfold lenV
 by_cases h1:n≤55
 ·rw[ile_d,decide_eq_true (by omega),cnd_t,if_pos h1]
 ·have:=numV_size n
  rw[ile_d,decide_eq_false (by omega),cnd_f,sNumT_l n h,bnd_s,if_neg h1]
  simp only[]
  rw[cat_fits (by rw[size_sof];simp;omega),cnd_t]
def fitV:Nat→ItemT→Bool
 |0, .mk l s k=>bif l then false else decide (s.size≤600)&&decide (k.length=0)
 |d+1, .mk l s k=>bif l then decide (s=bs [])&&(decide (k.length≤17)&&k.all (fitV d)) else decide (s.size≤600)&&decide (k.length=0)
theorem fit_ok: ∀ (d:Nat) (x:ItemT),fitV d x=true→okItem (d+1) x=true
 |0, .mk true s k,h=>by cases h
 |0, .mk false s k,h=>by
  have h':(decide (s.size≤600)&&decide (k.length=0))=true:=h
  rw[Bool.and_eq_true] at h'
  exact Nat.ble_eq_true_of_le (of_decide_eq_true h'.1)
 |d+1, .mk false s k,h=>by
  have h':(decide (s.size≤600)&&decide (k.length=0))=true:=h
  rw[Bool.and_eq_true] at h'
  exact Nat.ble_eq_true_of_le (of_decide_eq_true h'.1)
 |d+1, .mk true s k,h=>by
  have h':(decide (s=bs [])&&(decide (k.length≤17)&&k.all (fitV d)))=true:=h
  simp only[Bool.and_eq_true,List.all_eq_true] at h'
  show (Nat.ble k.length 17&&k.all (okItem (d+1)))=true
  rw[Bool.and_eq_true]
  exact ⟨Nat.ble_eq_true_of_le (of_decide_eq_true h'.2.1),List.all_eq_true.2 fun y hy=>fit_ok d y (h'.2.2 y hy)⟩
theorem item_eta (x:ItemT):x= .mk x.l x.s x.k:=by cases x;rfl
theorem iFits_l: ∀ (d:Nat) (x:ItemT),d≤100→iItemFits_d (x,((d:Int),()))=some ((fitV d x,()),())
 |d, .mk false s k,hd=>by
  rw[iItemFits_b]
  show Go.TV.cnd (bnot false) (Go.TV.cnd (ile (ssz s) 600) (some ((ieq (len k) 0,()),())) (some ((false,()),()))) _=_
  rw[show bnot false=true from rfl,cnd_t,ile_d,ieq_d,len_d,ssz_d]
  have e:fitV d (.mk false s k)=(decide (s.size≤600)&&decide (k.length=0)):=by cases d<;>rfl
  rw[e]
  by_cases h:s.size≤600
  ·rw[decide_eq_true (show (s.size:Int)≤600 by omega),cnd_t,decide_eq_true h]
   have:decide ((k.length:Int)=0)=decide (k.length=0):=by simp
   rw[this];rfl
  ·rw[decide_eq_false (show¬(s.size:Int)≤600 by omega),cnd_f,decide_eq_false h];rfl
 |d, .mk true s k,hd=>by
  rw[iItemFits_b]
  show Go.TV.cnd (bnot true) _ (Go.TV.cnd (sne s (bs [])) (some ((false,()),())) (Go.TV.cnd (igt (len k) 17) (some ((false,()),())) (Go.TV.cnd (ieq (d:Int) 0) (some ((false,()),())) (iItemFits_D6 ((d:Int),(k,(len k,(0,()))))))))=_
  rw[show bnot true=false from rfl,cnd_f,sne_d,ieq_d]
  by_cases h1:s=bs []
  ·rw[decide_eq_true h1,show (!true)=false from rfl,cnd_f]
   by_cases h2:k.length≤17
   ·rw[igt_f (by rw[len_d];omega),cnd_f]
    cases d with
    |zero=>rw[decide_eq_true (by rfl),cnd_t];rfl
    |succ d=>
     rw[decide_eq_false (by omega),cnd_f]
     have loop: ∀ (m i:Nat),i+m=k.length→iItemFits_D6 (((d+1:Nat):Int),(k,(len k,((i:Int),()))))=some (((k.drop i).all (fitV d),()),()):=by
      intro m
      induction m with
      |zero=>intro i hi;rw[iItemFits_q6,show (i:Int)=(k.length:Int) by omega,ilt_end,cnd_f,List.drop_eq_nil_of_le (by omega)];rfl
      |succ m ih=>
       intro i hi
       have h:i<k.length:=by omega
       rw[iItemFits_q6,ilt_at h,cnd_t,inb_at h,cnd_t,rd_at h,isub_64 (by omega) (by omega),show ((d+1:Nat):Int)-1=(d:Int) by omega,iFits_l d k[i] (by omega),bnd_s,next_at (by omega),ih (i+1) (by omega),List.drop_eq_getElem_cons h,List.all_cons]
       cases fitV d k[i]<;>rfl
     have:=loop k.length 0 (by omega)
     rw[List.drop_zero] at this
     rw[show iItemFits_D6 (((d+1:Nat):Int),(k,(len k,(0,()))))=some ((k.all (fitV d),()),()) from this]
     show some ((k.all (fitV d),()),())=some (((decide (s=bs [])&&(decide (k.length≤17)&&k.all (fitV d))),()),())
     rw[decide_eq_true h1,decide_eq_true h2];rfl
   ·rw[igt_t (by rw[len_d];omega),cnd_t]
    have e:fitV d (.mk true s k)=false:=by
     cases d with
     |zero=>rfl
     |succ d=>
      show (decide (s=bs [])&&(decide (k.length≤17)&&k.all (fitV d)))=false
      rw[decide_eq_false h2];simp
    rw[e]
  ·rw[decide_eq_false h1,show (!false)=true from rfl,cnd_t]
   have e:fitV d (.mk true s k)=false:=by
    cases d with
    |zero=>rfl
    |succ d=>
     show (decide (s=bs [])&&(decide (k.length≤17)&&k.all (fitV d)))=false
     rw[decide_eq_false h1];rfl
   rw[e]
theorem sDeep_l: ∀ (d:Nat) (x:ItemT),d≤4→sL17Deep_d (x,((4:Int)- (d:Int),()))=some ((fitV d x,()),())
 |d, .mk false s k,hd=>by
  rw[sL17Deep_b]
  show Go.TV.cnd (bnot false) (Go.TV.cnd (ieq (len k) 0) (some ((ile (ssz s) 600,()),())) (some ((false,()),()))) _=_
  rw[show bnot false=true from rfl,cnd_t,ile_d,ieq_d,len_d,ssz_d]
  have e:fitV d (.mk false s k)=(decide (s.size≤600)&&decide (k.length=0)):=by cases d<;>rfl
  rw[e]
  by_cases h:k.length=0
  ·rw[decide_eq_true (show (k.length:Int)=0 by omega),cnd_t,decide_eq_true h,Bool.and_true]
   have:decide ((s.size:Int)≤600)=decide (s.size≤600):=by simp only[decide_eq_decide];omega
   rw[this]
  ·rw[decide_eq_false (show¬(k.length:Int)=0 by omega),cnd_f,decide_eq_false h,Bool.and_false]
 |d, .mk true s k,hd=>by
  rw[sL17Deep_b]
  show Go.TV.cnd (bnot true) _ (Go.TV.cnd (sne s (bs [])) (some ((false,()),())) (Go.TV.cnd (igt (len k) 17) (some ((false,()),())) (Go.TV.cnd (ige ((4:Int)- (d:Int)) 4) (some ((false,()),())) (sL17Deep_D6 ((4:Int)- (d:Int),(0,(.mk true s k,())))))))=_
  rw[show bnot true=false from rfl,cnd_f,sne_d,ige_d]
  by_cases h1:s=bs []
  ·rw[decide_eq_true h1,show (!true)=false from rfl,cnd_f]
   by_cases h2:k.length≤17
   ·rw[igt_f (by rw[len_d];omega),cnd_f]
    cases d with
    |zero=>rw[decide_eq_true (by omega),cnd_t];rfl
    |succ d=>
     rw[decide_eq_false (by omega),cnd_f]
     have loop: ∀ (m i:Nat),i+m=k.length→sL17Deep_D6 ((4:Int)- ((d+1:Nat):Int),((i:Int),(.mk true s k,())))=some (((k.drop i).all (fitV d),()),()):=by
      intro m
      induction m with
      |zero=>
       intro i hi
       rw[sL17Deep_q6]
       show Go.TV.cnd (ilt (i:Int) (len k)) _ _=_
       rw[show (i:Int)=(k.length:Int) by omega,ilt_end,cnd_f,List.drop_eq_nil_of_le (by omega)];rfl
      |succ m ih=>
       intro i hi
       have h:i<k.length:=by omega
       rw[sL17Deep_q6]
       show Go.TV.cnd (ilt (i:Int) (len k)) (Go.TV.cnd (inb (i:Int) (len k)) (Go.TV.bnd (sL17Deep_d (rd (ItemT.mk false (bs []) ([]:List ItemT)) k (i:Int),(iadd .i64 ((4:Int)- ((d+1:Nat):Int)) 1,()))) _) _) _=_
       rw[ilt_at h,cnd_t,inb_at h,cnd_t,rd_at h,iadd_64 (by omega) (by omega),show (4:Int)- ((d+1:Nat):Int)+1=(4:Int)- (d:Int) by omega,sDeep_l d k[i] (by omega),bnd_s,next_at (by omega),ih (i+1) (by omega),List.drop_eq_getElem_cons h,List.all_cons]
       cases fitV d k[i]<;>rfl
     have:=loop k.length 0 (by omega)
     rw[List.drop_zero] at this
     rw[show sL17Deep_D6 ((4:Int)- ((d+1:Nat):Int),(0,(.mk true s k,())))=some ((k.all (fitV d),()),()) from this]
     show some ((k.all (fitV d),()),())=some (((decide (s=bs [])&&(decide (k.length≤17)&&k.all (fitV d))),()),())
     rw[decide_eq_true h1,decide_eq_true h2];rfl
   ·rw[igt_t (by rw[len_d];omega),cnd_t]
    have e:fitV d (.mk true s k)=false:=by
     cases d with
     |zero=>rfl
     |succ d=>
      show (decide (s=bs [])&&(decide (k.length≤17)&&k.all (fitV d)))=false
      rw[decide_eq_false h2];simp
    rw[e]
  ·rw[decide_eq_false h1,show (!false)=true from rfl,cnd_t]
   have e:fitV d (.mk true s k)=false:=by
    cases d with
    |zero=>rfl
    |succ d=>
     show (decide (s=bs [])&&(decide (k.length≤17)&&k.all (fitV d)))=false
     rw[decide_eq_false h1];rfl
   rw[e]
theorem iItemOk_l (x:ItemT):iItemOk_d (x,())=some ((fitV 4 x,()),()):=by
 rw[iItemOk_b,show iItemFits_d (x,(4,()))=some ((fitV 4 x,()),()) from iFits_l 4 x (by omega),bnd_s]
theorem sItemOk_l (x:ItemT):sItemOk_d (x,())=some ((fitV 4 x,()),()):=by
 rw[sItemOk_b,show sL17Deep_d (x,(0,()))=some ((fitV 4 x,()),()) from sDeep_l 4 x (by omega),bnd_s]
end Go.Proofs.YtoeiajpklkijgaaGreatDoor
