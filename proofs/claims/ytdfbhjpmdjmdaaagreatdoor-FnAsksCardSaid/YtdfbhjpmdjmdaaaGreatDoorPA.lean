/- A small field, points of a curve over it: plain arithmetic. Of no condition. -/
import Derived.Test.YtdfbhjpmdjmdaaaGreatDoorHA
set_option linter.unusedVariables false
set_option linter.unusedSimpArgs false
set_option maxRecDepth 100000
namespace Go.Proofs.YtdfbhjpmdjmdaaaGreatDoor
open Go.TV
abbrev Fp:=Fin 12107
def tf (n:Int):Fp:=⟨(n % 12107).toNat,by omega⟩
theorem nzO (n:Int):((tf n).val:Int)=n % 12107:=by simp only[tf];omega
theorem tf_eq {a b:Int}:tf a=tf b↔a % 12107=b % 12107:=by
 constructor
 ·intro h
  rw[←nzO a,←nzO b,h]
 ·intro h
  apply Fin.ext
  have h1:=nzO a
  have h2:=nzO b
  omega
theorem PzM (a b:Int):tf (a+b)=tf a+tf b:=by
 apply Fin.ext
 have h1:=nzO a
 have h2:=nzO b
 have h3:=nzO (a+b)
 rw[Fin.val_add]
 omega
theorem tf_mul (a b:Int):tf (a*b)=tf a*tf b:=by
 apply Fin.ext
 have h1:=nzO a
 have h2:=nzO b
 have h3:=nzO (a*b)
 rw[Fin.val_mul]
 have h4:(((tf a).val*(tf b).val % 12107:Nat):Int)=(a*b) % 12107:=by
  rw[Int.natCast_emod,Int.natCast_mul,h1,h2,Int.mul_emod a b]
  rfl
 omega
theorem tf_sub (a b:Int):tf (a-b)=tf a-tf b:=by
 have h:tf (a-b)+tf b=tf a:=by rw[←PzM];congr 1;omega
 rw[←h]
 grind (splits:=0)-lia-linarith-order
theorem szz (a:Int):tf (a % 12107)=tf a:=tf_eq.2 (by omega)
theorem tf_0:tf 0=0:=rfl
theorem tf_1:tf 1=1:=rfl
theorem tf_2:tf 2=2:=rfl
theorem tf_3:tf 3=3:=rfl
def fadd (a b:Int):Int:=(a % 12107+b % 12107) % 12107
def fsub (a b:Int):Int:=(a % 12107-b % 12107) % 12107
def fmul (a b:Int):Int:=(a % 12107*(b % 12107)) % 12107
theorem xzp (a b:Int):tf (fadd a b)=tf a+tf b:=by rw[fadd,szz,PzM,szz,szz]
theorem tzX (a b:Int):tf (fsub a b)=tf a-tf b:=by rw[fsub,szz,tf_sub,szz,szz]
theorem ozn (a b:Int):tf (fmul a b)=tf a*tf b:=by rw[fmul,szz,tf_mul,szz,szz]
def fok (a:Int):Prop:=0≤a∧a<12107
instance (a:Int):Decidable (fok a):=inferInstanceAs (Decidable (_∧_))
theorem Fzs (a:Int):fok (a % 12107):=⟨by omega,by omega⟩
theorem AzN (a b:Int):fok (fadd a b):=Fzs _
theorem GzC (a b:Int):fok (fsub a b):=Fzs _
theorem Ozo (a b:Int):fok (fmul a b):=Fzs _
theorem GzN {a:Int} (h:fok a):a % 12107=a:=Int.emod_eq_of_lt h.1 h.2
theorem EzO {a b:Int} (ha:fok a) (hb:fok b) (h:tf a=tf b):a=b:=by
 have:=tf_eq.1 h
 rwa [GzN ha,GzN hb] at this
def npow (m a n:Nat):Nat:=a^n % m
def fpow (a:Int) (n:Nat):Int:=(npow 12107 (a % 12107).toNat n:Nat)
def finv (a:Int):Int:=fpow a 12105
theorem Pzf (a:Int) (n:Nat):fok (fpow a n):=by
 have:npow 12107 (a % 12107).toNat n<12107:=Nat.mod_lt _ (by decide)
 constructor<;>simp only[fpow]<;>omega
def allB (f:Nat→Bool):Nat→Bool
 |0=>true
 |n+1=>bif f (n+1) then allB f n else false
theorem Mz2 {f:Nat→Bool}: ∀ (n:Nat),allB f n=true→ ∀a,0<a→a≤n→f a=true
 |0,_,a,h0,h1=>by omega
 |n+1,h,a,h0,h1=>by
  simp only[allB] at h
  cases hc:f (n+1)<;>rw[hc] at h
  ·cases h
  ·simp only[cond_true] at h
   rcases Nat.lt_or_ge n a with hl|hl
   ·have:a=n+1:=by omega
    subst this;exact hc
   ·exact Mz2 n h a h0 hl
theorem Izt:allB (fun a=>Nat.beq (npow 12107 a 12106) 1) 12106=true:=by kernel_rfl
theorem Nze (m a n:Nat):a*npow m a n % m=npow m a (n+1):=by
 simp only[npow]
 rw[Nat.mul_mod,Nat.mod_mod,←Nat.mul_mod,Nat.mul_comm,←Nat.pow_succ]
theorem NzK (a:Int) (n:Nat):(tf (fpow a n)).val=npow 12107 (a % 12107).toNat n:=by
 have h:=nzO (fpow a n)
 rw[GzN (Pzf _ _)] at h
 simp only[fpow] at h⊢
 omega
theorem EzZ {a:Int} (h:tf a≠0):tf a*tf (finv a)=1:=by
 have h0:(a % 12107).toNat≠0:=fun e=>h (Fin.ext (by simpa [tf] using e))
 have h1:=Nat.eq_of_beq_eq_true (Mz2 12106 Izt (a % 12107).toNat (by omega) (by omega))
 apply Fin.ext
 rw[Fin.val_mul]
 have h2:(tf a).val=(a % 12107).toNat:=rfl
 unfold finv
 rw[NzK,h2,Nze]
 exact h1
theorem nozero {x y:Fp} (hx:x≠0) (h:x*y=0):y=0:=by
 have e:tf (x.val:Int)=x:=by apply Fin.ext;have:=nzO (x.val:Int);omega
 have h1:x*tf (finv x.val)=1:=by
  have:=EzZ (a:=(x.val:Int)) (by rw[e];exact hx)
  rwa [e] at this
 generalize tf (finv x.val)=u at h1
 clear e hx
 grind (splits:=0)-lia-linarith-order
abbrev Pt:=Int×Int×Bool×Unit
def KzK:Pt:=(0,0,true,())
def Bzk (x:Int):Int:=fadd (fmul (fmul x x) x) x
def pok (p:Pt):Prop:=if p.2.2.1=true then p.1=0∧p.2.1=0 else fok p.1∧fok p.2.1∧fmul p.2.1 p.2.1=Bzk p.1
instance (p:Pt):Decidable (pok p):=inferInstanceAs (Decidable (ite _ _ _))
def pz8 (p q:Pt):Int×Bool:=
 if p.1=q.1 then (if fadd p.2.1 q.2.1=0 then (0,false) else (fmul (fadd (fmul 3 (fmul p.1 p.1)) 1) (finv (fmul 2 p.2.1)),true))
 else (fmul (fsub q.2.1 p.2.1) (finv (fsub q.1 p.1)),true)
def padd (p q:Pt):Pt:=
 if p.2.2.1=true then q else if q.2.2.1=true then p else
 if (pz8 p q).2=true then
  (fsub (fsub (fmul (pz8 p q).1 (pz8 p q).1) p.1) q.1,fsub (fmul (pz8 p q).1 (fsub p.1 (fsub (fsub (fmul (pz8 p q).1 (pz8 p q).1) p.1) q.1))) p.2.1,false,())
 else KzK
theorem L1 (x1 x2 y1 y2 l:Fp) (hl:l*(x2-x1)=y2-y1):l*x2+(y1-l*x1)=y2:=by grind (splits:=0)-lia-linarith-order
theorem L2 (x1 x2 x3 c l:Fp) (h1:(l*x1+c)*(l*x1+c)=x1*x1*x1+x1) (h3:x3=l*l-x1-x2):(1-2*l*c- (x1*x2+x1*x3+x2*x3))*x1+(x1*x2*x3-c*c)=0:=by grind (splits:=0)-lia-linarith-order
theorem L3 (x1 x2 u A B:Fp) (e1:A*x1+B=0) (e2:A*x2+B=0) (hu:(x2-x1)*u=1):A=0∧B=0:=by
 have h1:A*(x2-x1)=0:=by clear hu;grind (splits:=0)-lia-linarith-order
 have h2:A*((x2-x1)*u)=0:=by clear hu e1 e2;grind (splits:=0)-lia-linarith-order
 have h3:A=0:=by rw[hu] at h2;clear hu e1 e2 h1;grind (splits:=0)-lia-linarith-order
 subst h3
 exact ⟨rfl,by clear e2 hu h1 h2;grind (splits:=0)-lia-linarith-order⟩
theorem L4 (x1 x2 x3 c l:Fp) (hA:1-2*l*c- (x1*x2+x1*x3+x2*x3)=0) (hB:x1*x2*x3-c*c=0) (h3:x3=l*l-x1-x2):(l*x3+c)*(l*x3+c)=x3*x3*x3+x3:=by grind (splits:=0)-lia-linarith-order
theorem L5 (x1 y1 l x3 y3:Fp) (h4:y3=l*(x1-x3)-y1):y3*y3=(l*x3+(y1-l*x1))*(l*x3+(y1-l*x1)):=by grind (splits:=0)-lia-linarith-order
theorem L6 (x1 y1 l:Fp):l*x1+(y1-l*x1)=y1:=by grind (splits:=0)-lia-linarith-order
theorem chord (x1 x2 y1 y2 l u x3 y3:Fp) (h1:y1*y1=x1*x1*x1+x1) (h2:y2*y2=x2*x2*x2+x2) (hl:l*(x2-x1)=y2-y1) (hu:(x2-x1)*u=1) (h3:x3=l*l-x1-x2) (h4:y3=l*(x1-x3)-y1):y3*y3=x3*x3*x3+x3:=by
 have e1:=L2 x1 x2 x3 (y1-l*x1) l (by rw[L6];exact h1) h3
 have h3':x3=l*l-x2-x1:=by clear h1 h2 hl hu h4 e1;grind (splits:=0)-lia-linarith-order
 have e2:=L2 x2 x1 x3 (y1-l*x1) l (by rw[L1 x1 x2 y1 y2 l hl];exact h2) h3'
 have e2':(1-2*l*(y1-l*x1)- (x1*x2+x1*x3+x2*x3))*x2+(x1*x2*x3- (y1-l*x1)*(y1-l*x1))=0:=by
  clear h1 h2 hl hu h4 e1 h3 h3';grind (splits:=0)-lia-linarith-order
 obtain ⟨hA,hB⟩:=L3 x1 x2 u _ _ e1 e2' hu
 rw[L5 x1 y1 l x3 y3 h4]
 exact L4 x1 x2 x3 _ l hA hB h3
theorem T2 (x1 x3 c l:Fp) (h1:(l*x1+c)*(l*x1+c)=x1*x1*x1+x1) (hl:l*(2*(l*x1+c))=3*(x1*x1)+1) (h3:x3=l*l-x1-x1):(l*x3+c)*(l*x3+c)=x3*x3*x3+x3:=by grind (splits:=0)-lia-linarith-order
theorem QzK (x1 y1 l x3 y3:Fp) (h1:y1*y1=x1*x1*x1+x1) (hl:l*(2*y1)=3*(x1*x1)+1) (h3:x3=l*l-x1-x1) (h4:y3=l*(x1-x3)-y1):y3*y3=x3*x3*x3+x3:=by
 rw[L5 x1 y1 l x3 y3 h4]
 exact T2 x1 x3 (y1-l*x1) l (by rw[L6];exact h1) (by rw[L6];exact hl) h3
theorem L7 (a b u l:Fp) (hu:b*u=1) (hl:l=a*u):l*b=a:=by grind (splits:=0)-lia-linarith-order
theorem L8 (y1 y2:Fp) (h:y1*y1=y2*y2):(y1-y2)*(y1+y2)=0:=by grind (splits:=0)-lia-linarith-order
theorem Az2 {x y:Int}:fmul y y=Bzk x↔tf y*tf y=tf x*tf x*tf x+tf x:=by
 rw[←ozn,←ozn,←ozn,←xzp]
 exact ⟨fun h=>by rw[h];rfl,fun h=>EzO (Ozo _ _) (AzN _ _) h⟩
theorem qz5 {p:Pt} (h:p.2.2.1=false):pok p↔fok p.1∧fok p.2.1∧fmul p.2.1 p.2.1=Bzk p.1:=by
 unfold pok;rw[h];simp
theorem oz1:pok KzK:=by decide
theorem Hzz {p q:Pt} (hp:pok p) (hq:pok q) (zp:p.2.2.1=false) (zq:q.2.2.1=false) (hx:p.1=q.1):p.2.1=q.2.1∨fadd p.2.1 q.2.1=0:=by
 obtain ⟨p1,p2,p3⟩:=(qz5 zp).1 hp
 obtain ⟨q1,q2,q3⟩:=(qz5 zq).1 hq
 have h:=L8 _ _ ((Az2.1 p3).trans ((by rw[hx];exact (Az2.1 q3).symm):_=tf q.2.1*tf q.2.1))
 by_cases e:tf p.2.1-tf q.2.1=0
 ·left
  refine EzO p2 q2 ?_
  clear h
  grind (splits:=0)-lia-linarith-order
 ·right
  have:=nozero e h
  refine EzO (AzN _ _) (by decide) ?_
  rw[xzp,this,tf_0]
theorem Mzr {y:Int} (h:fok y):fadd y y=0↔y=0:=by
 obtain ⟨h0,h1⟩:=h
 unfold fadd
 rw[Int.emod_eq_of_lt h0 h1]
 omega
theorem tzt {p q:Pt} (hp:pok p) (hq:pok q):pok (padd p q):=by
 unfold padd
 by_cases zp:p.2.2.1=true
 ·rw[if_pos zp];exact hq
 by_cases zq:q.2.2.1=true
 ·rw[if_neg zp,if_pos zq];exact hp
 rw[if_neg zp,if_neg zq]
 have zp':p.2.2.1=false:=by simpa using zp
 have zq':q.2.2.1=false:=by simpa using zq
 by_cases hs:(pz8 p q).2=true
 ·rw[if_pos hs]
  obtain ⟨p1,p2,p3⟩:=(qz5 zp').1 hp
  obtain ⟨q1,q2,q3⟩:=(qz5 zq').1 hq
  rw[qz5 rfl]
  refine ⟨GzC _ _,GzC _ _,?_⟩
  rw[Az2] at p3 q3⊢
  simp only[tzX,ozn]
  unfold pz8 at hs⊢
  by_cases hx:p.1=q.1
  ·rw[if_pos hx] at hs⊢
   by_cases hy:fadd p.2.1 q.2.1=0
   ·rw[if_pos hy] at hs;cases hs
   ·rw[if_neg hy]
    have hyy:p.2.1=q.2.1:=(Hzz hp hq zp' zq' hx).resolve_right hy
    have h2y:tf (fmul 2 p.2.1)≠0:=fun e=>by
     rw[ozn,tf_2] at e
     apply hy
     rw[←hyy]
     refine EzO (AzN _ _) (by decide) ?_
     rw[xzp,tf_0,←e]
     clear e hyy hy p3 q3
     grind (splits:=0)-lia-linarith-order
    have hu:=EzZ h2y
    have hl:=L7 (tf (fadd (fmul 3 (fmul p.1 p.1)) 1)) _ _ _ hu rfl
    simp only[ozn,xzp,tf_2,tf_3,tf_1] at hl
    rw[←hx]
    simp only[ozn,xzp,tf_2,tf_3,tf_1]
    exact QzK (tf p.1) (tf p.2.1) _ _ _ p3 hl rfl rfl
  ·rw[if_neg hx]
   have hd:tf (fsub q.1 p.1)≠0:=fun e=>by
    rw[tzX] at e
    apply hx
    refine EzO p1 q1 ?_
    clear p3 q3
    grind (splits:=0)-lia-linarith-order
   have hu:=EzZ hd
   have hl:=L7 (tf (fsub q.2.1 p.2.1)) _ _ _ hu rfl
   rw[tzX,tzX q.1] at hl
   simp only[ozn,tzX]
   rw[tzX q.1] at hu
   exact chord (tf p.1) (tf q.1) (tf p.2.1) (tf q.2.1) _ _ _ _ p3 q3 hl hu rfl rfl
 ·rw[if_neg hs];exact oz1
def ptl:Nat→Nat→Pt→Pt→Pt
 |0,_,_,out=>out
 |f+1,n,b,out=>if n=0 then out else ptl f (n/2) (padd b b) (if n % 2=1 then padd out b else out)
theorem ptl_0 (f:Nat) (b out:Pt):ptl f 0 b out=out:=by cases f<;>simp [ptl]
theorem PzB: ∀ (f n:Nat) (b out:Pt),pok b→pok out→pok (ptl f n b out)
 |0,_,_,_,_,h=>h
 |f+1,n,b,out,hb,h=>by
  unfold ptl
  split
  ·exact h
  ·refine PzB f _ _ _ (tzt hb hb) ?_
   split
   ·exact tzt h hb
   ·exact h
def uz5 (k:Int) (p:Pt):Pt:=if pok p then ptl 14 (k % 12108).toNat p KzK else KzK
theorem ptimes_ok (k:Int) (p:Pt):pok (uz5 k p):=by
 unfold uz5
 split
 ·rename_i h;exact PzB _ _ _ _ h oz1
 ·exact oz1
def padd' (p q:Pt):Pt:=if pok p∧pok q then padd p q else KzK
theorem padd'_ok (p q:Pt):pok (padd' p q):=by
 unfold padd'
 split
 ·rename_i h;exact tzt h.1 h.2
 ·exact oz1
def rza (p:Pt):Bool:=decide (pok p)&&(uz5 1009 p).2.2.1
def baseP:Pt:=(8445,859,false,())
end Go.Proofs.YtdfbhjpmdjmdaaaGreatDoor
