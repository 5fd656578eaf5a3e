/- The texts of items. Of no condition. -/
import Derived.Test.YtdfbhjpmdjmdaaaGreatDoorRA
set_option linter.unusedVariables false
set_option linter.unusedSimpArgs false
set_option maxRecDepth 100000
namespace Go.Proofs.YtdfbhjpmdjmdaaaGreatDoor
open Go.TV
theorem rev_0:azp (([]:List Int),())=some ((),([],())):=by
 rw[azE]
 show aze (([]:List Int),(0,((-1),())))=_
 rw[azf]
 rfl
theorem rev_1 (a:Int):azp ([a],())=some ((),([a],())):=by
 rw[azE]
 show aze ([a],(0,(0,())))=_
 rw[azf]
 rfl
theorem rev_2 (a b:Int):azp ([a,b],())=some ((),([b,a],())):=by
 rw[azE]
 show aze ([a,b],(0,(1,())))=_
 rw[azf]
 show aze ([b,a],(1,(0,())))=_
 rw[azf]
 rfl
theorem rev_3 (a b c:Int):azp ([a,b,c],())=some ((),([c,b,a],())):=by
 rw[azE]
 show aze ([a,b,c],(0,(2,())))=_
 rw[azf]
 show aze ([c,b,a],(1,(1,())))=_
 rw[azf]
 rfl
theorem rev_4 (a b c d:Int):azp ([a,b,c,d],())=some ((),([d,c,b,a],())):=by
 rw[azE]
 show aze ([a,b,c,d],(0,(3,())))=_
 rw[azf]
 show aze ([d,b,c,a],(1,(2,())))=_
 rw[azf]
 show aze ([d,c,b,a],(2,(1,())))=_
 rw[azf]
 rfl
theorem rev_5 (a b c d e:Int):azp ([a,b,c,d,e],())=some ((),([e,d,c,b,a],())):=by
 rw[azE]
 show aze ([a,b,c,d,e],(0,(4,())))=_
 rw[azf]
 show aze ([e,b,c,d,a],(1,(3,())))=_
 rw[azf]
 show aze ([e,d,c,b,a],(2,(2,())))=_
 rw[azf]
 rfl
theorem rev_6 (a b c d e f:Int):azp ([a,b,c,d,e,f],())=some ((),([f,e,d,c,b,a],())):=by
 rw[azE]
 show aze ([a,b,c,d,e,f],(0,(5,())))=_
 rw[azf]
 show aze ([f,b,c,d,e,a],(1,(4,())))=_
 rw[azf]
 show aze ([f,e,c,d,b,a],(2,(3,())))=_
 rw[azf]
 show aze ([f,e,d,c,b,a],(3,(2,())))=_
 rw[azf]
 rfl
theorem rev_7 (a b c d e f g:Int):azp ([a,b,c,d,e,f,g],())=some ((),([g,f,e,d,c,b,a],())):=by
 rw[azE]
 show aze ([a,b,c,d,e,f,g],(0,(6,())))=_
 rw[azf]
 show aze ([g,b,c,d,e,f,a],(1,(5,())))=_
 rw[azf]
 show aze ([g,f,c,d,e,b,a],(2,(4,())))=_
 rw[azf]
 show aze ([g,f,e,d,c,b,a],(3,(3,())))=_
 rw[azf]
 rfl
theorem rev_8 (a b c d e f g h:Int):azp ([a,b,c,d,e,f,g,h],())=some ((),([h,g,f,e,d,c,b,a],())):=by
 rw[azE]
 show aze ([a,b,c,d,e,f,g,h],(0,(7,())))=_
 rw[azf]
 show aze ([h,b,c,d,e,f,g,a],(1,(6,())))=_
 rw[azf]
 show aze ([h,g,c,d,e,f,b,a],(2,(5,())))=_
 rw[azf]
 show aze ([h,g,f,d,e,c,b,a],(3,(4,())))=_
 rw[azf]
 show aze ([h,g,f,e,d,c,b,a],(4,(3,())))=_
 rw[azf]
 rfl
theorem rev_l: ∀ (xs:List Int),xs.length≤8→azp (xs,())=some ((),(xs.reverse,()))
 | [],_=>rev_0
 | [a],_=>rev_1 a
 | [a,b],_=>rev_2 a b
 | [a,b,c],_=>rev_3 a b c
 | [a,b,c,d],_=>rev_4 a b c d
 | [a,b,c,d,e],_=>rev_5 a b c d e
 | [a,b,c,d,e,f],_=>rev_6 a b c d e f
 | [a,b,c,d,e,f,g],_=>rev_7 a b c d e f g
 | [a,b,c,d,e,f,g,h],_=>rev_8 a b c d e f g h
 |_::_::_::_::_::_::_::_::_::_,h=>by simp only[List.length_cons] at h;omega
def leF:Nat→Nat→List Int
 |0,_=>[]
 |f+1,n=>if n=0 then [] else ((n % 256:Nat):Int)::leF f (n/256)
theorem LzJ: ∀f n,(leF f n).length≤f
 |0,_=>Nat.le_refl _
 |f+1,n=>by
  unfold leF
  split
  ·simp
  ·have:=LzJ f (n/256);simp;omega
theorem Qz7 (f:Nat):leF f 0=[]:=by cases f<;>simp [leF]
def numV (n:Nat):ByteArray:=sof (leF 8 n).reverse
theorem hzU (n:Nat):(numV n).size≤8:=by rw[numV,azK,List.length_reverse];exact LzJ 8 n
theorem szC (n:Nat):azx .u8 (n:Int)=((n % 256:Nat):Int):=by unfold azx;rw[xzi];omega
theorem shr8 (n:Nat):ishr .i64 (n:Int) 8=((n/256:Nat):Int):=by
 unfold ishr
 rw[show (2:Int)^ (min (8:Int).toNat IntKind.i64.bits)=256 from rfl,Int.fdiv_eq_ediv_of_nonneg _ (by omega)]
 omega
theorem pz3 (a b:List Int):sof (a++b)=scat (sof a) (sof b):=by
 unfold sof scat
 apply ByteArray.ext
 simp
theorem JzA: ∀ (f n:Nat) (acc:List Int),n<256^f→acc.length+f≤8→n≤9223372036854775807→gzt ((n:Int),(acc,()))=some ((sof (acc++leF f n).reverse,()),()):=by
 have zero: ∀ (f:Nat) (acc:List Int),acc.length≤8→gzt (((0:Nat):Int),(acc,()))=some ((sof (acc++leF f 0).reverse,()),()):=fun f acc h=>by
  rw[wzC,bzy (by omega),azc,rev_l acc h,azd,Qz7,List.append_nil]
 intro f
 induction f with
 |zero=>intro n acc h1 h2 h3;obtain rfl:n=0:=by simpa using h1
        exact zero 0 acc (by omega)
 |succ f ih=>
  intro n acc h1 h2 h3
  by_cases h0:n=0
  ·subst h0;exact zero (f+1) acc (by omega)
  ·rw[wzC,cze (by omega),aza,azv (by decide) (by simp;omega),aza,show nn 8=true from rfl,aza,shr8,szC]
   show gzt (((n/256:Nat):Int),(acc++[((n % 256:Nat):Int)],()))=_
   rw[ih (n/256) _ (Nat.div_lt_of_lt_mul (by rw[Nat.pow_succ] at h1;omega)) (by simp;omega) (by omega)]
   rw[show leF (f+1) n=((n % 256:Nat):Int)::leF f (n/256) by rw[leF,if_neg h0],List.append_assoc]
   rfl
theorem Jzg: ∀ (f n:Nat) (s:ByteArray),n<256^f→s.size+f≤100→n≤9223372036854775807→jzF ((n:Int),(s,()))=some ((scat (sof (leF f n).reverse) s,()),()):=by
 have nil: ∀s:ByteArray,scat (sof ([]:List Int).reverse) s=s:=fun s=>by unfold scat sof;apply ByteArray.ext;simp
 have zero: ∀ (f:Nat) (s:ByteArray),jzF (((0:Nat):Int),(s,()))=some ((scat (sof (leF f 0).reverse) s,()),()):=fun f s=>by
  rw[yzn,bzy (by omega),azc,Qz7,nil]
 intro f
 induction f with
 |zero=>intro n s h1 h2 h3;obtain rfl:n=0:=by simpa using h1
        exact zero 0 s
 |succ f ih=>
  intro n s h1 h2 h3
  by_cases h0:n=0
  ·subst h0;exact zero (f+1) s
  ·rw[yzn,cze (by omega),aza,show nz 256=true from rfl,aza,fzW (by omega),show ((n:Int) % 256)=((n % 256:Nat):Int) by omega,szC,Nat.mod_mod,ezs (by rw[azK];simp;omega),aza,aza,tzN (by omega) (by omega) (by omega),show ((n:Int)/256)=((n/256:Nat):Int) by omega,
    ih (n/256) _ (Nat.div_lt_of_lt_mul (by rw[Nat.pow_succ] at h1;omega)) (by rw[azu,azK];simp;omega) (by omega)]
   rw[show leF (f+1) n=((n % 256:Nat):Int)::leF f (n/256) by rw[leF,if_neg h0],List.reverse_cons,pz3,zzE]
theorem tzS (n:Nat) (h:n≤9223372036854775807):gzJ ((n:Int),())=some ((numV n,()),()):=by
 rw[Iz3,JzA 8 n [] (by omega) (by simp) h];rfl
theorem uza (n:Nat) (h:n≤9223372036854775807):gz0 ((n:Int),())=some ((numV n,()),()):=by
 rw[IzR,Jzg 8 n _ (by omega) (by decide) h]
 have: ∀s:ByteArray,scat s (bs [])=s:=fun s=>by unfold scat bs;apply ByteArray.ext;simp
 rw[this];rfl
def lenV (base:Int) (n:Nat):ByteArray:=if n≤55 then sof [azx .u8 (iadd .i64 base (n:Int))] else scat (sof [azx .u8 (iadd .i64 (iadd .i64 base 55) (ssz (numV n)))]) (numV n)
theorem dzQ (base:Int) (n:Nat):(lenV base n).size≤9:=by
 unfold lenV
 split
 ·rw[azK];simp
 ·have:=hzU n
  rw[azu,azK];simp;omega
theorem iLen_l (base:Int) (n:Nat) (h:n≤9223372036854775807):cz5 (base,((n:Int),()))=some ((lenV base n,()),()):=by
 rw[Czq]
 unfold lenV
 by_cases h1:n≤55
 ·rw[gzB,decide_eq_true (by omega),aza,if_pos h1]
 ·have:=hzU n
  rw[gzB,decide_eq_false (by omega),azc,tzS n h,azd,if_neg h1]
  simp only[]
  rw[ezs (by rw[azK];simp;omega),aza]
theorem Gz9 (base:Int) (n:Nat) (h:n≤9223372036854775807):jzq ((n:Int),(base,()))=some ((lenV base n,()),()):=by
 rw[Izo]
 unfold lenV
 by_cases h1:n≤55
 ·rw[gzB,decide_eq_true (by omega),aza,if_pos h1]
 ·have:=hzU n
  rw[gzB,decide_eq_false (by omega),azc,uza n h,azd,if_neg h1]
  simp only[]
  rw[ezs (by rw[azK];simp;omega),aza]
def fitV:Nat→ItemT→Bool
 |0, .mk l s k=>bif l then false else decide (s.size≤600)&&decide (k.length=0)
 |d+1, .mk l s k=>bif l then decide (s=bs [])&&(decide (k.length≤17)&&k.all (fitV d)) else decide (s.size≤600)&&decide (k.length=0)
theorem PzY: ∀ (d:Nat) (x:ItemT),fitV d x=true→qzK (d+1) x=true
 |0, .mk true s k,h=>by cases h
 |0, .mk false s k,h=>by
  have h':(decide (s.size≤600)&&decide (k.length=0))=true:=h
  rw[Bool.and_eq_true] at h'
  exact Nat.ble_eq_true_of_le (of_decide_eq_true h'.1)
 |d+1, .mk false s k,h=>by
  have h':(decide (s.size≤600)&&decide (k.length=0))=true:=h
  rw[Bool.and_eq_true] at h'
  exact Nat.ble_eq_true_of_le (of_decide_eq_true h'.1)
 |d+1, .mk true s k,h=>by
  have h':(decide (s=bs [])&&(decide (k.length≤17)&&k.all (fitV d)))=true:=h
  simp only[Bool.and_eq_true,List.all_eq_true] at h'
  show (Nat.ble k.length 17&&k.all (qzK (d+1)))=true
  rw[Bool.and_eq_true]
  exact ⟨Nat.ble_eq_true_of_le (of_decide_eq_true h'.2.1),List.all_eq_true.2 fun y hy=>PzY d y (h'.2.2 y hy)⟩
theorem item_eta (x:ItemT):x= .mk x.l x.s x.k:=by cases x;rfl
theorem Lz5: ∀ (d:Nat) (x:ItemT),d≤100→gzX (x,((d:Int),()))=some ((fitV d x,()),())
 |d, .mk false s k,hd=>by
  rw[xzd]
  show Go.TV.cnd (bnot false) (Go.TV.cnd (ile (ssz s) 600) (some ((ieq (len k) 0,()),())) (some ((false,()),()))) _=_
  rw[show bnot false=true from rfl,aza,gzB,czd,azA,azN]
  have e:fitV d (.mk false s k)=(decide (s.size≤600)&&decide (k.length=0)):=by cases d<;>rfl
  rw[e]
  by_cases h:s.size≤600
  ·rw[decide_eq_true (show (s.size:Int)≤600 by omega),aza,decide_eq_true h]
   have:decide ((k.length:Int)=0)=decide (k.length=0):=by simp
   rw[this];rfl
  ·rw[decide_eq_false (show¬(s.size:Int)≤600 by omega),azc,decide_eq_false h];rfl
 |d, .mk true s k,hd=>by
  rw[xzd]
  show Go.TV.cnd (bnot true) _ (Go.TV.cnd (sne s (bs [])) (some ((false,()),())) (Go.TV.cnd (igt (len k) 17) (some ((false,()),())) (Go.TV.cnd (ieq (d:Int) 0) (some ((false,()),())) (fzy ((d:Int),(k,(len k,(0,()))))))))=_
  rw[show bnot true=false from rfl,azc,qzb,czd]
  by_cases h1:s=bs []
  ·rw[decide_eq_true h1,show (!true)=false from rfl,azc]
   by_cases h2:k.length≤17
   ·rw[bzy (by rw[azA];omega),azc]
    cases d with
    |zero=>rw[decide_eq_true (by rfl),aza];rfl
    |succ d=>
     rw[decide_eq_false (by omega),azc]
     have loop: ∀ (m i:Nat),i+m=k.length→fzy (((d+1:Nat):Int),(k,(len k,((i:Int),()))))=some (((k.drop i).all (fitV d),()),()):=by
      intro m
      induction m with
      |zero=>intro i hi;rw[uzZ,show (i:Int)=(k.length:Int) by omega,bzb,azc,List.drop_eq_nil_of_le (by omega)];rfl
      |succ m ih=>
       intro i hi
       have h:i<k.length:=by omega
       rw[uzZ,bzp h,aza,az0 h,aza,bzA h,bzi (by omega) (by omega),show ((d+1:Nat):Int)-1=(d:Int) by omega,Lz5 d k[i] (by omega),azd,azq (by omega),ih (i+1) (by omega),List.drop_eq_getElem_cons h,List.all_cons]
       cases fitV d k[i]<;>rfl
     have:=loop k.length 0 (by omega)
     rw[List.drop_zero] at this
     rw[show fzy (((d+1:Nat):Int),(k,(len k,(0,()))))=some ((k.all (fitV d),()),()) from this]
     show some ((k.all (fitV d),()),())=some (((decide (s=bs [])&&(decide (k.length≤17)&&k.all (fitV d))),()),())
     rw[decide_eq_true h1,decide_eq_true h2];rfl
   ·rw[cze (by rw[azA];omega),aza]
    have e:fitV d (.mk true s k)=false:=by
     cases d with
     |zero=>rfl
     |succ d=>
      show (decide (s=bs [])&&(decide (k.length≤17)&&k.all (fitV d)))=false
      rw[decide_eq_false h2];simp
    rw[e]
  ·rw[decide_eq_false h1,show (!false)=true from rfl,aza]
   have e:fitV d (.mk true s k)=false:=by
    cases d with
    |zero=>rfl
    |succ d=>
     show (decide (s=bs [])&&(decide (k.length≤17)&&k.all (fitV d)))=false
     rw[decide_eq_false h1];rfl
   rw[e]
theorem Kzh: ∀ (d:Nat) (x:ItemT),d≤4→gzG (x,((4:Int)- (d:Int),()))=some ((fitV d x,()),())
 |d, .mk false s k,hd=>by
  rw[Azk]
  show Go.TV.cnd (bnot false) (Go.TV.cnd (ieq (len k) 0) (some ((ile (ssz s) 600,()),())) (some ((false,()),()))) _=_
  rw[show bnot false=true from rfl,aza,gzB,czd,azA,azN]
  have e:fitV d (.mk false s k)=(decide (s.size≤600)&&decide (k.length=0)):=by cases d<;>rfl
  rw[e]
  by_cases h:k.length=0
  ·rw[decide_eq_true (show (k.length:Int)=0 by omega),aza,decide_eq_true h,Bool.and_true]
   have:decide ((s.size:Int)≤600)=decide (s.size≤600):=by simp only[decide_eq_decide];omega
   rw[this]
  ·rw[decide_eq_false (show¬(k.length:Int)=0 by omega),azc,decide_eq_false h,Bool.and_false]
 |d, .mk true s k,hd=>by
  rw[Azk]
  show Go.TV.cnd (bnot true) _ (Go.TV.cnd (sne s (bs [])) (some ((false,()),())) (Go.TV.cnd (igt (len k) 17) (some ((false,()),())) (Go.TV.cnd (ige ((4:Int)- (d:Int)) 4) (some ((false,()),())) (gzA ((4:Int)- (d:Int),(0,(.mk true s k,())))))))=_
  rw[show bnot true=false from rfl,azc,qzb,czX]
  by_cases h1:s=bs []
  ·rw[decide_eq_true h1,show (!true)=false from rfl,azc]
   by_cases h2:k.length≤17
   ·rw[bzy (by rw[azA];omega),azc]
    cases d with
    |zero=>rw[decide_eq_true (by omega),aza];rfl
    |succ d=>
     rw[decide_eq_false (by omega),azc]
     have loop: ∀ (m i:Nat),i+m=k.length→gzA ((4:Int)- ((d+1:Nat):Int),((i:Int),(.mk true s k,())))=some (((k.drop i).all (fitV d),()),()):=by
      intro m
      induction m with
      |zero=>
       intro i hi
       rw[wzp]
       show Go.TV.cnd (ilt (i:Int) (len k)) _ _=_
       rw[show (i:Int)=(k.length:Int) by omega,bzb,azc,List.drop_eq_nil_of_le (by omega)];rfl
      |succ m ih=>
       intro i hi
       have h:i<k.length:=by omega
       rw[wzp]
       show Go.TV.cnd (ilt (i:Int) (len k)) (Go.TV.cnd (inb (i:Int) (len k)) (Go.TV.bnd (gzG (rd (ItemT.mk false (bs []) ([]:List ItemT)) k (i:Int),(iadd .i64 ((4:Int)- ((d+1:Nat):Int)) 1,()))) _) _) _=_
       rw[bzp h,aza,az0 h,aza,bzA h,azH (by omega) (by omega),show (4:Int)- ((d+1:Nat):Int)+1=(4:Int)- (d:Int) by omega,Kzh d k[i] (by omega),azd,azq (by omega),ih (i+1) (by omega),List.drop_eq_getElem_cons h,List.all_cons]
       cases fitV d k[i]<;>rfl
     have:=loop k.length 0 (by omega)
     rw[List.drop_zero] at this
     rw[show gzA ((4:Int)- ((d+1:Nat):Int),(0,(.mk true s k,())))=some ((k.all (fitV d),()),()) from this]
     show some ((k.all (fitV d),()),())=some (((decide (s=bs [])&&(decide (k.length≤17)&&k.all (fitV d))),()),())
     rw[decide_eq_true h1,decide_eq_true h2];rfl
   ·rw[cze (by rw[azA];omega),aza]
    have e:fitV d (.mk true s k)=false:=by
     cases d with
     |zero=>rfl
     |succ d=>
      show (decide (s=bs [])&&(decide (k.length≤17)&&k.all (fitV d)))=false
      rw[decide_eq_false h2];simp
    rw[e]
  ·rw[decide_eq_false h1,show (!false)=true from rfl,aza]
   have e:fitV d (.mk true s k)=false:=by
    cases d with
    |zero=>rfl
    |succ d=>
     show (decide (s=bs [])&&(decide (k.length≤17)&&k.all (fitV d)))=false
     rw[decide_eq_false h1];rfl
   rw[e]
theorem Kzm (x:ItemT):rz9 (x,())=some ((fitV 4 x,()),()):=by
 rw[MzI,show gzX (x,(4,()))=some ((fitV 4 x,()),()) from Lz5 4 x (by omega),azd]
theorem KzV (x:ItemT):szr (x,())=some ((fitV 4 x,()),()):=by
 rw[Lzw,show gzG (x,(0,()))=some ((fitV 4 x,()),()) from Kzh 4 x (by omega),azd]
end Go.Proofs.YtdfbhjpmdjmdaaaGreatDoor
