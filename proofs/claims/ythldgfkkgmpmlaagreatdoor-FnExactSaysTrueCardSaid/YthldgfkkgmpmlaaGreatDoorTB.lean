/- The texts of items. Of no condition. -/
import Derived.Test.YthldgfkkgmpmlaaGreatDoorRA
set_option linter.unusedVariables false
set_option linter.unusedSimpArgs false
set_option maxRecDepth 100000
namespace Go.Proofs.YthldgfkkgmpmlaaGreatDoor
open Go.TV
theorem rev_0:azo (([]:List Int),())=some ((),([],())):=by
 rw[azB]
 show aze (([]:List Int),(0,((-1),())))=_
 rw[azf]
 rfl
theorem rev_1 (a:Int):azo ([a],())=some ((),([a],())):=by
 rw[azB]
 show aze ([a],(0,(0,())))=_
 rw[azf]
 rfl
theorem rev_2 (a b:Int):azo ([a,b],())=some ((),([b,a],())):=by
 rw[azB]
 show aze ([a,b],(0,(1,())))=_
 rw[azf]
 show aze ([b,a],(1,(0,())))=_
 rw[azf]
 rfl
theorem rev_3 (a b c:Int):azo ([a,b,c],())=some ((),([c,b,a],())):=by
 rw[azB]
 show aze ([a,b,c],(0,(2,())))=_
 rw[azf]
 show aze ([c,b,a],(1,(1,())))=_
 rw[azf]
 rfl
theorem rev_4 (a b c d:Int):azo ([a,b,c,d],())=some ((),([d,c,b,a],())):=by
 rw[azB]
 show aze ([a,b,c,d],(0,(3,())))=_
 rw[azf]
 show aze ([d,b,c,a],(1,(2,())))=_
 rw[azf]
 show aze ([d,c,b,a],(2,(1,())))=_
 rw[azf]
 rfl
theorem rev_5 (a b c d e:Int):azo ([a,b,c,d,e],())=some ((),([e,d,c,b,a],())):=by
 rw[azB]
 show aze ([a,b,c,d,e],(0,(4,())))=_
 rw[azf]
 show aze ([e,b,c,d,a],(1,(3,())))=_
 rw[azf]
 show aze ([e,d,c,b,a],(2,(2,())))=_
 rw[azf]
 rfl
theorem rev_6 (a b c d e f:Int):azo ([a,b,c,d,e,f],())=some ((),([f,e,d,c,b,a],())):=by
 rw[azB]
 show aze ([a,b,c,d,e,f],(0,(5,())))=_
 rw[azf]
 show aze ([f,b,c,d,e,a],(1,(4,())))=_
 rw[azf]
 show aze ([f,e,c,d,b,a],(2,(3,())))=_
 rw[azf]
 show aze ([f,e,d,c,b,a],(3,(2,())))=_
 rw[azf]
 rfl
theorem rev_7 (a b c d e f g:Int):azo ([a,b,c,d,e,f,g],())=some ((),([g,f,e,d,c,b,a],())):=by
 rw[azB]
 show aze ([a,b,c,d,e,f,g],(0,(6,())))=_
 rw[azf]
 show aze ([g,b,c,d,e,f,a],(1,(5,())))=_
 rw[azf]
 show aze ([g,f,c,d,e,b,a],(2,(4,())))=_
 rw[azf]
 show aze ([g,f,e,d,c,b,a],(3,(3,())))=_
 rw[azf]
 rfl
theorem rev_8 (a b c d e f g h:Int):azo ([a,b,c,d,e,f,g,h],())=some ((),([h,g,f,e,d,c,b,a],())):=by
 rw[azB]
 show aze ([a,b,c,d,e,f,g,h],(0,(7,())))=_
 rw[azf]
 show aze ([h,b,c,d,e,f,g,a],(1,(6,())))=_
 rw[azf]
 show aze ([h,g,c,d,e,f,b,a],(2,(5,())))=_
 rw[azf]
 show aze ([h,g,f,d,e,c,b,a],(3,(4,())))=_
 rw[azf]
 show aze ([h,g,f,e,d,c,b,a],(4,(3,())))=_
 rw[azf]
 rfl
theorem rev_l: ∀ (xs:List Int),xs.length≤8→azo (xs,())=some ((),(xs.reverse,()))
 | [],_=>rev_0
 | [a],_=>rev_1 a
 | [a,b],_=>rev_2 a b
 | [a,b,c],_=>rev_3 a b c
 | [a,b,c,d],_=>rev_4 a b c d
 | [a,b,c,d,e],_=>rev_5 a b c d e
 | [a,b,c,d,e,f],_=>rev_6 a b c d e f
 | [a,b,c,d,e,f,g],_=>rev_7 a b c d e f g
 | [a,b,c,d,e,f,g,h],_=>rev_8 a b c d e f g h
 |_::_::_::_::_::_::_::_::_::_,h=>by simp only[List.length_cons] at h;omega
def leF:Nat→Nat→List Int
 |0,_=>[]
 |f+1,n=>if n=0 then [] else ((n % 256:Nat):Int)::leF f (n/256)
theorem Tzo: ∀f n,(leF f n).length≤f
 |0,_=>Nat.le_refl _
 |f+1,n=>by
  unfold leF
  split
  ·simp
  ·have:=Tzo f (n/256);simp;omega
theorem WzI (f:Nat):leF f 0=[]:=by cases f<;>simp [leF]
def numV (n:Nat):ByteArray:=sof (leF 8 n).reverse
theorem izE (n:Nat):(numV n).size≤8:=by rw[numV,azI,List.length_reverse];exact Tzo 8 n
theorem vzD (n:Nat):azx .u8 (n:Int)=((n % 256:Nat):Int):=by unfold azx;rw[Azy];omega
theorem shr8 (n:Nat):ishr .i64 (n:Int) 8=((n/256:Nat):Int):=by
 unfold ishr
 rw[show (2:Int)^ (min (8:Int).toNat IntKind.i64.bits)=256 from rfl,Int.fdiv_eq_ediv_of_nonneg _ (by omega)]
 omega
theorem rz9 (a b:List Int):sof (a++b)=scat (sof a) (sof b):=by
 unfold sof scat
 apply ByteArray.ext
 simp
theorem NzZ: ∀ (f n:Nat) (acc:List Int),n<256^f→acc.length+f≤8→n≤9223372036854775807→hzA ((n:Int),(acc,()))=some ((sof (acc++leF f n).reverse,()),()):=by
 have zero: ∀ (f:Nat) (acc:List Int),acc.length≤8→hzA (((0:Nat):Int),(acc,()))=some ((sof (acc++leF f 0).reverse,()),()):=fun f acc h=>by
  rw[Czr,bzi (by omega),azc,rev_l acc h,azb,WzI,List.append_nil]
 intro f
 induction f with
 |zero=>intro n acc h1 h2 h3;obtain rfl:n=0:=by simpa using h1
        exact zero 0 acc (by omega)
 |succ f ih=>
  intro n acc h1 h2 h3
  by_cases h0:n=0
  ·subst h0;exact zero (f+1) acc (by omega)
  ·rw[Czr,bzU (by omega),aza,azv (by decide) (by simp;omega),aza,show nn 8=true from rfl,aza,shr8,vzD]
   show hzA (((n/256:Nat):Int),(acc++[((n % 256:Nat):Int)],()))=_
   rw[ih (n/256) _ (Nat.div_lt_of_lt_mul (by rw[Nat.pow_succ] at h1;omega)) (by simp;omega) (by omega)]
   rw[show leF (f+1) n=((n % 256:Nat):Int)::leF f (n/256) by rw[leF,if_neg h0],List.append_assoc]
   rfl
theorem OzY: ∀ (f n:Nat) (s:ByteArray),n<256^f→s.size+f≤100→n≤9223372036854775807→kzk ((n:Int),(s,()))=some ((scat (sof (leF f n).reverse) s,()),()):=by
 have nil: ∀s:ByteArray,scat (sof ([]:List Int).reverse) s=s:=fun s=>by unfold scat sof;apply ByteArray.ext;simp
 have zero: ∀ (f:Nat) (s:ByteArray),kzk (((0:Nat):Int),(s,()))=some ((scat (sof (leF f 0).reverse) s,()),()):=fun f s=>by
  rw[zz3,bzi (by omega),azc,WzI,nil]
 intro f
 induction f with
 |zero=>intro n s h1 h2 h3;obtain rfl:n=0:=by simpa using h1
        exact zero 0 s
 |succ f ih=>
  intro n s h1 h2 h3
  by_cases h0:n=0
  ·subst h0;exact zero (f+1) s
  ·rw[zz3,bzU (by omega),aza,show nz 256=true from rfl,aza,izS (by omega),show ((n:Int) % 256)=((n % 256:Nat):Int) by omega,vzD,Nat.mod_mod,ezn (by rw[azI];simp;omega),aza,aza,nzM (by omega) (by omega) (by omega),show ((n:Int)/256)=((n/256:Nat):Int) by omega,
    ih (n/256) _ (Nat.div_lt_of_lt_mul (by rw[Nat.pow_succ] at h1;omega)) (by rw[azw,azI];simp;omega) (by omega)]
   rw[show leF (f+1) n=((n % 256:Nat):Int)::leF f (n/256) by rw[leF,if_neg h0],List.reverse_cons,rz9,EzD]
theorem wzW (n:Nat) (h:n≤9223372036854775807):hzj ((n:Int),())=some ((numV n,()),()):=by
 rw[PzM,NzZ 8 n [] (by omega) (by simp) h];rfl
theorem xzF (n:Nat) (h:n≤9223372036854775807):hzp ((n:Int),())=some ((numV n,()),()):=by
 rw[PzN,OzY 8 n _ (by omega) (by decide) h]
 have: ∀s:ByteArray,scat s (bs [])=s:=fun s=>by unfold scat bs;apply ByteArray.ext;simp
 rw[this];rfl
def lenV (base:Int) (n:Nat):ByteArray:=if n≤55 then sof [azx .u8 (iadd .i64 base (n:Int))] else scat (sof [azx .u8 (iadd .i64 (iadd .i64 base 55) (ssz (numV n)))]) (numV n)
theorem dzS (base:Int) (n:Nat):(lenV base n).size≤9:=by
 unfold lenV
 split
 ·rw[azI];simp
 ·have:=izE n
  rw[azw,azI];simp;omega
theorem iLen_l (base:Int) (n:Nat) (h:n≤9223372036854775807):cz8 (base,((n:Int),()))=some ((lenV base n,()),()):=by
 rw[FzM]
 unfold lenV
 by_cases h1:n≤55
 ·rw[ez3,decide_eq_true (by omega),aza,if_pos h1]
 ·have:=izE n
  rw[ez3,decide_eq_false (by omega),azc,wzW n h,azb,if_neg h1]
  simp only[]
  rw[ezn (by rw[azI];simp;omega),aza]
theorem MzP (base:Int) (n:Nat) (h:n≤9223372036854775807):jzW ((n:Int),(base,()))=some ((lenV base n,()),()):=by
 rw[PzJ]
 unfold lenV
 by_cases h1:n≤55
 ·rw[ez3,decide_eq_true (by omega),aza,if_pos h1]
 ·have:=izE n
  rw[ez3,decide_eq_false (by omega),azc,xzF n h,azb,if_neg h1]
  simp only[]
  rw[ezn (by rw[azI];simp;omega),aza]
def fitV:Nat→ItemT→Bool
 |0, .mk l s k=>bif l then false else decide (s.size≤600)&&decide (k.length=0)
 |d+1, .mk l s k=>bif l then decide (s=bs [])&&(decide (k.length≤17)&&k.all (fitV d)) else decide (s.size≤600)&&decide (k.length=0)
theorem VzN: ∀ (d:Nat) (x:ItemT),fitV d x=true→szG (d+1) x=true
 |0, .mk true s k,h=>by cases h
 |0, .mk false s k,h=>by
  have h':(decide (s.size≤600)&&decide (k.length=0))=true:=h
  rw[Bool.and_eq_true] at h'
  exact Nat.ble_eq_true_of_le (of_decide_eq_true h'.1)
 |d+1, .mk false s k,h=>by
  have h':(decide (s.size≤600)&&decide (k.length=0))=true:=h
  rw[Bool.and_eq_true] at h'
  exact Nat.ble_eq_true_of_le (of_decide_eq_true h'.1)
 |d+1, .mk true s k,h=>by
  have h':(decide (s=bs [])&&(decide (k.length≤17)&&k.all (fitV d)))=true:=h
  simp only[Bool.and_eq_true,List.all_eq_true] at h'
  show (Nat.ble k.length 17&&k.all (szG (d+1)))=true
  rw[Bool.and_eq_true]
  exact ⟨Nat.ble_eq_true_of_le (of_decide_eq_true h'.2.1),List.all_eq_true.2 fun y hy=>VzN d y (h'.2.2 y hy)⟩
theorem RzJ: ∀ (d:Nat) (x:ItemT),d≤100→hzz (x,((d:Int),()))=some ((fitV d x,()),())
 |d, .mk false s k,hd=>by
  rw[AzF]
  show Go.TV.cnd (bnot false) (Go.TV.cnd (ile (ssz s) 600) (some ((ieq (len k) 0,()),())) (some ((false,()),()))) _=_
  rw[show bnot false=true from rfl,aza,ez3,czl,azz,azL]
  have e:fitV d (.mk false s k)=(decide (s.size≤600)&&decide (k.length=0)):=by cases d<;>rfl
  rw[e]
  by_cases h:s.size≤600
  ·rw[decide_eq_true (show (s.size:Int)≤600 by omega),aza,decide_eq_true h]
   have:decide ((k.length:Int)=0)=decide (k.length=0):=by simp
   rw[this];rfl
  ·rw[decide_eq_false (show¬(s.size:Int)≤600 by omega),azc,decide_eq_false h];rfl
 |d, .mk true s k,hd=>by
  rw[AzF]
  show Go.TV.cnd (bnot true) _ (Go.TV.cnd (sne s (bs [])) (some ((false,()),())) (Go.TV.cnd (igt (len k) 17) (some ((false,()),())) (Go.TV.cnd (ieq (d:Int) 0) (some ((false,()),())) (fzJ ((d:Int),(k,(len k,(0,()))))))))=_
  rw[show bnot true=false from rfl,azc,szz,czl]
  by_cases h1:s=bs []
  ·rw[decide_eq_true h1,show (!true)=false from rfl,azc]
   by_cases h2:k.length≤17
   ·rw[bzi (by rw[azz];omega),azc]
    cases d with
    |zero=>rw[decide_eq_true (by rfl),aza];rfl
    |succ d=>
     rw[decide_eq_false (by omega),azc]
     have loop: ∀ (m i:Nat),i+m=k.length→fzJ (((d+1:Nat):Int),(k,(len k,((i:Int),()))))=some (((k.drop i).all (fitV d),()),()):=by
      intro m
      induction m with
      |zero=>intro i hi;rw[yz3,show (i:Int)=(k.length:Int) by omega,az7,azc,List.drop_eq_nil_of_le (by omega)];rfl
      |succ m ih=>
       intro i hi
       have h:i<k.length:=by omega
       rw[yz3,bzh h,aza,azP h,aza,bzs h,az4 (by omega) (by omega),show ((d+1:Nat):Int)-1=(d:Int) by omega,RzJ d k[i] (by omega),azb,azq (by omega),ih (i+1) (by omega),List.drop_eq_getElem_cons h,List.all_cons]
       cases fitV d k[i]<;>rfl
     have:=loop k.length 0 (by omega)
     rw[List.drop_zero] at this
     rw[show fzJ (((d+1:Nat):Int),(k,(len k,(0,()))))=some ((k.all (fitV d),()),()) from this]
     show some ((k.all (fitV d),()),())=some (((decide (s=bs [])&&(decide (k.length≤17)&&k.all (fitV d))),()),())
     rw[decide_eq_true h1,decide_eq_true h2];rfl
   ·rw[bzU (by rw[azz];omega),aza]
    have e:fitV d (.mk true s k)=false:=by
     cases d with
     |zero=>rfl
     |succ d=>
      show (decide (s=bs [])&&(decide (k.length≤17)&&k.all (fitV d)))=false
      rw[decide_eq_false h2];simp
    rw[e]
  ·rw[decide_eq_false h1,show (!false)=true from rfl,aza]
   have e:fitV d (.mk true s k)=false:=by
    cases d with
    |zero=>rfl
    |succ d=>
     show (decide (s=bs [])&&(decide (k.length≤17)&&k.all (fitV d)))=false
     rw[decide_eq_false h1];rfl
   rw[e]
theorem Rzm: ∀ (d:Nat) (x:ItemT),d≤4→hzH (x,((4:Int)- (d:Int),()))=some ((fitV d x,()),())
 |d, .mk false s k,hd=>by
  rw[Ezc]
  show Go.TV.cnd (bnot false) (Go.TV.cnd (ieq (len k) 0) (some ((ile (ssz s) 600,()),())) (some ((false,()),()))) _=_
  rw[show bnot false=true from rfl,aza,ez3,czl,azz,azL]
  have e:fitV d (.mk false s k)=(decide (s.size≤600)&&decide (k.length=0)):=by cases d<;>rfl
  rw[e]
  by_cases h:k.length=0
  ·rw[decide_eq_true (show (k.length:Int)=0 by omega),aza,decide_eq_true h,Bool.and_true]
   have:decide ((s.size:Int)≤600)=decide (s.size≤600):=by simp only[decide_eq_decide];omega
   rw[this]
  ·rw[decide_eq_false (show¬(k.length:Int)=0 by omega),azc,decide_eq_false h,Bool.and_false]
 |d, .mk true s k,hd=>by
  rw[Ezc]
  show Go.TV.cnd (bnot true) _ (Go.TV.cnd (sne s (bs [])) (some ((false,()),())) (Go.TV.cnd (igt (len k) 17) (some ((false,()),())) (Go.TV.cnd (ige ((4:Int)- (d:Int)) 4) (some ((false,()),())) (gz5 ((4:Int)- (d:Int),(0,(.mk true s k,())))))))=_
  rw[show bnot true=false from rfl,azc,szz,czK]
  by_cases h1:s=bs []
  ·rw[decide_eq_true h1,show (!true)=false from rfl,azc]
   by_cases h2:k.length≤17
   ·rw[bzi (by rw[azz];omega),azc]
    cases d with
    |zero=>rw[decide_eq_true (by omega),aza];rfl
    |succ d=>
     rw[decide_eq_false (by omega),azc]
     have loop: ∀ (m i:Nat),i+m=k.length→gz5 ((4:Int)- ((d+1:Nat):Int),((i:Int),(.mk true s k,())))=some (((k.drop i).all (fitV d),()),()):=by
      intro m
      induction m with
      |zero=>
       intro i hi
       rw[Bzr]
       show Go.TV.cnd (ilt (i:Int) (len k)) _ _=_
       rw[show (i:Int)=(k.length:Int) by omega,az7,azc,List.drop_eq_nil_of_le (by omega)];rfl
      |succ m ih=>
       intro i hi
       have h:i<k.length:=by omega
       rw[Bzr]
       show Go.TV.cnd (ilt (i:Int) (len k)) (Go.TV.cnd (inb (i:Int) (len k)) (Go.TV.bnd (hzH (rd (ItemT.mk false (bs []) ([]:List ItemT)) k (i:Int),(iadd .i64 ((4:Int)- ((d+1:Nat):Int)) 1,()))) _) _) _=_
       rw[bzh h,aza,azP h,aza,bzs h,azA (by omega) (by omega),show (4:Int)- ((d+1:Nat):Int)+1=(4:Int)- (d:Int) by omega,Rzm d k[i] (by omega),azb,azq (by omega),ih (i+1) (by omega),List.drop_eq_getElem_cons h,List.all_cons]
       cases fitV d k[i]<;>rfl
     have:=loop k.length 0 (by omega)
     rw[List.drop_zero] at this
     rw[show gz5 ((4:Int)- ((d+1:Nat):Int),(0,(.mk true s k,())))=some ((k.all (fitV d),()),()) from this]
     show some ((k.all (fitV d),()),())=some (((decide (s=bs [])&&(decide (k.length≤17)&&k.all (fitV d))),()),())
     rw[decide_eq_true h1,decide_eq_true h2];rfl
   ·rw[bzU (by rw[azz];omega),aza]
    have e:fitV d (.mk true s k)=false:=by
     cases d with
     |zero=>rfl
     |succ d=>
      show (decide (s=bs [])&&(decide (k.length≤17)&&k.all (fitV d)))=false
      rw[decide_eq_false h2];simp
    rw[e]
  ·rw[decide_eq_false h1,show (!false)=true from rfl,aza]
   have e:fitV d (.mk true s k)=false:=by
    cases d with
    |zero=>rfl
    |succ d=>
     show (decide (s=bs [])&&(decide (k.length≤17)&&k.all (fitV d)))=false
     rw[decide_eq_false h1];rfl
   rw[e]
theorem QzU (x:ItemT):vzS (x,())=some ((fitV 4 x,()),()):=by
 rw[Qze,show hzz (x,(4,()))=some ((fitV 4 x,()),()) from RzJ 4 x (by omega),azb]
theorem Rz3 (x:ItemT):wzm (x,())=some ((fitV 4 x,()),()):=by
 rw[Tzy,show hzH (x,(0,()))=some ((fitV 4 x,()),()) from Rzm 4 x (by omega),azb]
end Go.Proofs.YthldgfkkgmpmlaaGreatDoor
