/- A small field, points of a curve over it: plain arithmetic. Of no condition. -/
import Derived.Test.YthldgfkkgmpmlaaGreatDoorHA
set_option linter.unusedVariables false
set_option linter.unusedSimpArgs false
set_option maxRecDepth 100000
namespace Go.Proofs.YthldgfkkgmpmlaaGreatDoor
open Go.TV
abbrev Fp:=Fin 12107
def tf (n:Int):Fp:=⟨(n % 12107).toNat,by omega⟩
theorem pzb (n:Int):((tf n).val:Int)=n % 12107:=by simp only[tf];omega
theorem tf_eq {a b:Int}:tf a=tf b↔a % 12107=b % 12107:=by
 constructor
 ·intro h
  rw[←pzb a,←pzb b,h]
 ·intro h
  apply Fin.ext
  have h1:=pzb a
  have h2:=pzb b
  omega
theorem VzU (a b:Int):tf (a+b)=tf a+tf b:=by
 apply Fin.ext
 have h1:=pzb a
 have h2:=pzb b
 have h3:=pzb (a+b)
 rw[Fin.val_add]
 omega
theorem tf_mul (a b:Int):tf (a*b)=tf a*tf b:=by
 apply Fin.ext
 have h1:=pzb a
 have h2:=pzb b
 have h3:=pzb (a*b)
 rw[Fin.val_mul]
 have h4:(((tf a).val*(tf b).val % 12107:Nat):Int)=(a*b) % 12107:=by
  rw[Int.natCast_emod,Int.natCast_mul,h1,h2,Int.mul_emod a b]
  rfl
 omega
theorem tf_sub (a b:Int):tf (a-b)=tf a-tf b:=by
 have h:tf (a-b)+tf b=tf a:=by rw[←VzU];congr 1;omega
 rw[←h]
 grind (splits:=0)-lia-linarith-order
theorem wzk (a:Int):tf (a % 12107)=tf a:=tf_eq.2 (by omega)
theorem tf_0:tf 0=0:=rfl
theorem tf_1:tf 1=1:=rfl
theorem tf_2:tf 2=2:=rfl
theorem tf_3:tf 3=3:=rfl
def fadd (a b:Int):Int:=(a % 12107+b % 12107) % 12107
def fsub (a b:Int):Int:=(a % 12107-b % 12107) % 12107
def fmul (a b:Int):Int:=(a % 12107*(b % 12107)) % 12107
theorem AzU (a b:Int):tf (fadd a b)=tf a+tf b:=by rw[fadd,wzk,VzU,wzk,wzk]
theorem wzF (a b:Int):tf (fsub a b)=tf a-tf b:=by rw[fsub,wzk,tf_sub,wzk,wzk]
theorem pz4 (a b:Int):tf (fmul a b)=tf a*tf b:=by rw[fmul,wzk,tf_mul,wzk,wzk]
def fok (a:Int):Prop:=0≤a∧a<12107
instance (a:Int):Decidable (fok a):=inferInstanceAs (Decidable (_∧_))
theorem Mzc (a:Int):fok (a % 12107):=⟨by omega,by omega⟩
theorem Hzb (a b:Int):fok (fadd a b):=Mzc _
theorem Nzm (a b:Int):fok (fsub a b):=Mzc _
theorem Vzq (a b:Int):fok (fmul a b):=Mzc _
theorem TzH {a:Int} (h:fok a):a % 12107=a:=Int.emod_eq_of_lt h.1 h.2
theorem HzN {a b:Int} (ha:fok a) (hb:fok b) (h:tf a=tf b):a=b:=by
 have:=tf_eq.1 h
 rwa [TzH ha,TzH hb] at this
def npow (m a n:Nat):Nat:=a^n % m
def fpow (a:Int) (n:Nat):Int:=(npow 12107 (a % 12107).toNat n:Nat)
def finv (a:Int):Int:=fpow a 12105
theorem UzU (a:Int) (n:Nat):fok (fpow a n):=by
 have:npow 12107 (a % 12107).toNat n<12107:=Nat.mod_lt _ (by decide)
 constructor<;>simp only[fpow]<;>omega
def allB (f:Nat→Bool):Nat→Bool
 |0=>true
 |n+1=>bif f (n+1) then allB f n else false
theorem Tzr {f:Nat→Bool}: ∀ (n:Nat),allB f n=true→ ∀a,0<a→a≤n→f a=true
 |0,_,a,h0,h1=>by omega
 |n+1,h,a,h0,h1=>by
  simp only[allB] at h
  cases hc:f (n+1)<;>rw[hc] at h
  ·cases h
  ·simp only[cond_true] at h
   rcases Nat.lt_or_ge n a with hl|hl
   ·have:a=n+1:=by omega
    subst this;exact hc
   ·exact Tzr n h a h0 hl
theorem Ozz:allB (fun a=>Nat.beq (npow 12107 a 12106) 1) 12106=true:=by kernel_rfl
theorem Qz4 (m a n:Nat):a*npow m a n % m=npow m a (n+1):=by
 simp only[npow]
 rw[Nat.mul_mod,Nat.mod_mod,←Nat.mul_mod,Nat.mul_comm,←Nat.pow_succ]
theorem UzO (a:Int) (n:Nat):(tf (fpow a n)).val=npow 12107 (a % 12107).toNat n:=by
 have h:=pzb (fpow a n)
 rw[TzH (UzU _ _)] at h
 simp only[fpow] at h⊢
 omega
theorem Mze {a:Int} (h:tf a≠0):tf a*tf (finv a)=1:=by
 have h0:(a % 12107).toNat≠0:=fun e=>h (Fin.ext (by simpa [tf] using e))
 have h1:=Nat.eq_of_beq_eq_true (Tzr 12106 Ozz (a % 12107).toNat (by omega) (by omega))
 apply Fin.ext
 rw[Fin.val_mul]
 have h2:(tf a).val=(a % 12107).toNat:=rfl
 unfold finv
 rw[UzO,h2,Qz4]
 exact h1
theorem nozero {x y:Fp} (hx:x≠0) (h:x*y=0):y=0:=by
 have e:tf (x.val:Int)=x:=by apply Fin.ext;have:=pzb (x.val:Int);omega
 have h1:x*tf (finv x.val)=1:=by
  have:=Mze (a:=(x.val:Int)) (by rw[e];exact hx)
  rwa [e] at this
 generalize tf (finv x.val)=u at h1
 clear e hx
 grind (splits:=0)-lia-linarith-order
abbrev Pt:=Int×Int×Bool×Unit
def UzA:Pt:=(0,0,true,())
def JzR (x:Int):Int:=fadd (fmul (fmul x x) x) x
def pok (p:Pt):Prop:=if p.2.2.1=true then p.1=0∧p.2.1=0 else fok p.1∧fok p.2.1∧fmul p.2.1 p.2.1=JzR p.1
instance (p:Pt):Decidable (pok p):=inferInstanceAs (Decidable (ite _ _ _))
def szC (p q:Pt):Int×Bool:=
 if p.1=q.1 then (if fadd p.2.1 q.2.1=0 then (0,false) else (fmul (fadd (fmul 3 (fmul p.1 p.1)) 1) (finv (fmul 2 p.2.1)),true))
 else (fmul (fsub q.2.1 p.2.1) (finv (fsub q.1 p.1)),true)
def padd (p q:Pt):Pt:=
 if p.2.2.1=true then q else if q.2.2.1=true then p else
 if (szC p q).2=true then
  (fsub (fsub (fmul (szC p q).1 (szC p q).1) p.1) q.1,fsub (fmul (szC p q).1 (fsub p.1 (fsub (fsub (fmul (szC p q).1 (szC p q).1) p.1) q.1))) p.2.1,false,())
 else UzA
theorem L1 (x1 x2 y1 y2 l:Fp) (hl:l*(x2-x1)=y2-y1):l*x2+(y1-l*x1)=y2:=by grind (splits:=0)-lia-linarith-order
theorem L2 (x1 x2 x3 c l:Fp) (h1:(l*x1+c)*(l*x1+c)=x1*x1*x1+x1) (h3:x3=l*l-x1-x2):(1-2*l*c- (x1*x2+x1*x3+x2*x3))*x1+(x1*x2*x3-c*c)=0:=by grind (splits:=0)-lia-linarith-order
theorem L3 (x1 x2 u A B:Fp) (e1:A*x1+B=0) (e2:A*x2+B=0) (hu:(x2-x1)*u=1):A=0∧B=0:=by
 have h1:A*(x2-x1)=0:=by clear hu;grind (splits:=0)-lia-linarith-order
 have h2:A*((x2-x1)*u)=0:=by clear hu e1 e2;grind (splits:=0)-lia-linarith-order
 have h3:A=0:=by rw[hu] at h2;clear hu e1 e2 h1;grind (splits:=0)-lia-linarith-order
 subst h3
 exact ⟨rfl,by clear e2 hu h1 h2;grind (splits:=0)-lia-linarith-order⟩
theorem L4 (x1 x2 x3 c l:Fp) (hA:1-2*l*c- (x1*x2+x1*x3+x2*x3)=0) (hB:x1*x2*x3-c*c=0) (h3:x3=l*l-x1-x2):(l*x3+c)*(l*x3+c)=x3*x3*x3+x3:=by grind (splits:=0)-lia-linarith-order
theorem L5 (x1 y1 l x3 y3:Fp) (h4:y3=l*(x1-x3)-y1):y3*y3=(l*x3+(y1-l*x1))*(l*x3+(y1-l*x1)):=by grind (splits:=0)-lia-linarith-order
theorem L6 (x1 y1 l:Fp):l*x1+(y1-l*x1)=y1:=by grind (splits:=0)-lia-linarith-order
theorem chord (x1 x2 y1 y2 l u x3 y3:Fp) (h1:y1*y1=x1*x1*x1+x1) (h2:y2*y2=x2*x2*x2+x2) (hl:l*(x2-x1)=y2-y1) (hu:(x2-x1)*u=1) (h3:x3=l*l-x1-x2) (h4:y3=l*(x1-x3)-y1):y3*y3=x3*x3*x3+x3:=by
 have e1:=L2 x1 x2 x3 (y1-l*x1) l (by rw[L6];exact h1) h3
 have h3':x3=l*l-x2-x1:=by clear h1 h2 hl hu h4 e1;grind (splits:=0)-lia-linarith-order
 have e2:=L2 x2 x1 x3 (y1-l*x1) l (by rw[L1 x1 x2 y1 y2 l hl];exact h2) h3'
 have e2':(1-2*l*(y1-l*x1)- (x1*x2+x1*x3+x2*x3))*x2+(x1*x2*x3- (y1-l*x1)*(y1-l*x1))=0:=by
  clear h1 h2 hl hu h4 e1 h3 h3';grind (splits:=0)-lia-linarith-order
 obtain ⟨hA,hB⟩:=L3 x1 x2 u _ _ e1 e2' hu
 rw[L5 x1 y1 l x3 y3 h4]
 exact L4 x1 x2 x3 _ l hA hB h3
theorem T2 (x1 x3 c l:Fp) (h1:(l*x1+c)*(l*x1+c)=x1*x1*x1+x1) (hl:l*(2*(l*x1+c))=3*(x1*x1)+1) (h3:x3=l*l-x1-x1):(l*x3+c)*(l*x3+c)=x3*x3*x3+x3:=by grind (splits:=0)-lia-linarith-order
theorem Wzt (x1 y1 l x3 y3:Fp) (h1:y1*y1=x1*x1*x1+x1) (hl:l*(2*y1)=3*(x1*x1)+1) (h3:x3=l*l-x1-x1) (h4:y3=l*(x1-x3)-y1):y3*y3=x3*x3*x3+x3:=by
 rw[L5 x1 y1 l x3 y3 h4]
 exact T2 x1 x3 (y1-l*x1) l (by rw[L6];exact h1) (by rw[L6];exact hl) h3
theorem L7 (a b u l:Fp) (hu:b*u=1) (hl:l=a*u):l*b=a:=by grind (splits:=0)-lia-linarith-order
theorem L8 (y1 y2:Fp) (h:y1*y1=y2*y2):(y1-y2)*(y1+y2)=0:=by grind (splits:=0)-lia-linarith-order
theorem FzH {x y:Int}:fmul y y=JzR x↔tf y*tf y=tf x*tf x*tf x+tf x:=by
 rw[←pz4,←pz4,←pz4,←AzU]
 exact ⟨fun h=>by rw[h];rfl,fun h=>HzN (Vzq _ _) (Hzb _ _) h⟩
theorem tzx {p:Pt} (h:p.2.2.1=false):pok p↔fok p.1∧fok p.2.1∧fmul p.2.1 p.2.1=JzR p.1:=by
 unfold pok;rw[h];simp
theorem Jzi:pok UzA:=by decide
theorem Nzg {p q:Pt} (hp:pok p) (hq:pok q) (zp:p.2.2.1=false) (zq:q.2.2.1=false) (hx:p.1=q.1):p.2.1=q.2.1∨fadd p.2.1 q.2.1=0:=by
 obtain ⟨p1,p2,p3⟩:=(tzx zp).1 hp
 obtain ⟨q1,q2,q3⟩:=(tzx zq).1 hq
 have h:=L8 _ _ ((FzH.1 p3).trans ((by rw[hx];exact (FzH.1 q3).symm):_=tf q.2.1*tf q.2.1))
 by_cases e:tf p.2.1-tf q.2.1=0
 ·left
  refine HzN p2 q2 ?_
  clear h
  grind (splits:=0)-lia-linarith-order
 ·right
  have:=nozero e h
  refine HzN (Hzb _ _) (by decide) ?_
  rw[AzU,this,tf_0]
theorem QzL {y:Int} (h:fok y):fadd y y=0↔y=0:=by
 obtain ⟨h0,h1⟩:=h
 unfold fadd
 rw[Int.emod_eq_of_lt h0 h1]
 omega
theorem Kzz {p q:Pt} (hp:pok p) (hq:pok q):pok (padd p q):=by
 unfold padd
 by_cases zp:p.2.2.1=true
 ·rw[if_pos zp];exact hq
 by_cases zq:q.2.2.1=true
 ·rw[if_neg zp,if_pos zq];exact hp
 rw[if_neg zp,if_neg zq]
 have zp':p.2.2.1=false:=by simpa using zp
 have zq':q.2.2.1=false:=by simpa using zq
 by_cases hs:(szC p q).2=true
 ·rw[if_pos hs]
  obtain ⟨p1,p2,p3⟩:=(tzx zp').1 hp
  obtain ⟨q1,q2,q3⟩:=(tzx zq').1 hq
  rw[tzx rfl]
  refine ⟨Nzm _ _,Nzm _ _,?_⟩
  rw[FzH] at p3 q3⊢
  simp only[wzF,pz4]
  unfold szC at hs⊢
  by_cases hx:p.1=q.1
  ·rw[if_pos hx] at hs⊢
   by_cases hy:fadd p.2.1 q.2.1=0
   ·rw[if_pos hy] at hs;cases hs
   ·rw[if_neg hy]
    have hyy:p.2.1=q.2.1:=(Nzg hp hq zp' zq' hx).resolve_right hy
    have h2y:tf (fmul 2 p.2.1)≠0:=fun e=>by
     rw[pz4,tf_2] at e
     apply hy
     rw[←hyy]
     refine HzN (Hzb _ _) (by decide) ?_
     rw[AzU,tf_0,←e]
     clear e hyy hy p3 q3
     grind (splits:=0)-lia-linarith-order
    have hu:=Mze h2y
    have hl:=L7 (tf (fadd (fmul 3 (fmul p.1 p.1)) 1)) _ _ _ hu rfl
    simp only[pz4,AzU,tf_2,tf_3,tf_1] at hl
    rw[←hx]
    simp only[pz4,AzU,tf_2,tf_3,tf_1]
    exact Wzt (tf p.1) (tf p.2.1) _ _ _ p3 hl rfl rfl
  ·rw[if_neg hx]
   have hd:tf (fsub q.1 p.1)≠0:=fun e=>by
    rw[wzF] at e
    apply hx
    refine HzN p1 q1 ?_
    clear p3 q3
    grind (splits:=0)-lia-linarith-order
   have hu:=Mze hd
   have hl:=L7 (tf (fsub q.2.1 p.2.1)) _ _ _ hu rfl
   rw[wzF,wzF q.1] at hl
   simp only[pz4,wzF]
   rw[wzF q.1] at hu
   exact chord (tf p.1) (tf q.1) (tf p.2.1) (tf q.2.1) _ _ _ _ p3 q3 hl hu rfl rfl
 ·rw[if_neg hs];exact Jzi
def ptl:Nat→Nat→Pt→Pt→Pt
 |0,_,_,out=>out
 |f+1,n,b,out=>if n=0 then out else ptl f (n/2) (padd b b) (if n % 2=1 then padd out b else out)
theorem ptl_0 (f:Nat) (b out:Pt):ptl f 0 b out=out:=by cases f<;>simp [ptl]
def zzX (k:Int) (p:Pt):Pt:=if pok p then ptl 14 (k % 12108).toNat p UzA else UzA
def tzw (p:Pt):Bool:=decide (pok p)&&(zzX 1009 p).2.2.1
def baseP:Pt:=(8445,859,false,())
end Go.Proofs.YthldgfkkgmpmlaaGreatDoor
