/- Digests: one round, all rounds, a block, a text. Of no condition. -/
import Derived.Test.YtdfbhjpmdjmdaaaGreatDoorPC
set_option linter.unusedVariables false
set_option linter.unusedSimpArgs false
set_option maxRecDepth 100000
namespace Go.Proofs.YtdfbhjpmdjmdaaaGreatDoor
open Go.TV
def iter {α:Type} (step:Nat→α→α):Nat→Nat→α→α
 |0,_,a=>a
 |k+1,i,a=>iter step k (i+1) (step i a)
theorem bz8 {α σ β:Type} {D:σ→Option β} {st:Nat→α→σ} {n:Nat} {P:α→Prop} {step:Nat→α→α} (hs: ∀i a,i<n→P a→D (st i a)=D (st (i+1) (step i a))∧P (step i a)):
 ∀k i a,i+k=n→P a→D (st i a)=D (st n (iter step k i a))∧P (iter step k i a)
 |0,i,a,hi,hp=>by have:i=n:=by omega
                  subst this;exact ⟨rfl,hp⟩
 |k+1,i,a,hi,hp=>by
  obtain ⟨h1,h2⟩:=hs i a (by omega) hp
  rw[h1]
  exact bz8 hs k (i+1) _ (by omega) h2
def yzI:Nat→(Nat→Bool)→Bool
 |0,_=>true
 |n+1,f=>bif f n then yzI n f else false
theorem gzj: ∀ (n:Nat) (f:Nat→Bool),yzI n f=true→ ∀a,a<n→f a=true
 |0,_,_,a,h=>by omega
 |n+1,f,h,a,ha=>by
  simp only[yzI] at h
  cases hc:f n<;>rw[hc] at h
  ·cases h
  ·simp only[cond_true] at h
   rcases Nat.lt_or_ge a n with hl|hl
   ·exact gzj n f h a hl
   ·have:a=n:=by omega
    subst this;exact hc
theorem pzu (x:Int):IntKind.u64.wrap x=x % 18446744073709551616:=rfl
theorem xzi (x:Int):IntKind.u8.wrap x=x % 256:=rfl
theorem HzC {x y:Int} (h0:0≤x-y) (h1:x-y<18446744073709551616):isub .u64 x y=x-y:=by
 unfold isub;rw[pzu,Int.emod_eq_of_lt h0 h1]
def rot (x k:Int):Int:=ior .u64 (ishl .u64 x k) (ishr .u64 x (64-k))
theorem KzI:yzI 64 (fun k=>decide (iand .u64 (azx .u64 (k:Int)) 63=(k:Int)))=true:=by kernel_rfl
theorem and63 {k:Int} (h0:0≤k) (h1:k<64):iand .u64 (azx .u64 k) 63=k:=by
 obtain ⟨n,rfl⟩:=Int.eq_ofNat_of_zero_le h0
 exact of_decide_eq_true (gzj _ _ KzI n (by omega))
theorem PzD (x k:Int) (h0:0≤k) (h1:k<64):bzl (x,(k,()))=some ((rot x k,()),()):=by
 rw[kzn,and63 h0 h1,HzC (by omega) (by omega),nn_d,nn_d,decide_eq_true h0,decide_eq_true (by omega),aza,aza];rfl
theorem LzF (x k:Int) (h0:0≤k) (h1:k<64):lzM (x,(k,()))=some ((rot x k,()),()):=by
 rw[Iza,HzC (by omega) (by omega),nn_d,nn_d,decide_eq_true h0,decide_eq_true (by omega),aza,aza];rfl
theorem NzY (x y:Int):0≤ixor .u64 x y∧ixor .u64 x y<18446744073709551616:=by
 unfold ixor Czn
 rw[pzu]
 exact ⟨Int.emod_nonneg _ (by decide),Int.emod_lt_of_pos _ (by decide)⟩
theorem OzU {x:Int} (h0:0≤x) (h1:x<18446744073709551616):rot x 0=x:=by
 unfold rot ior Czn
 have e1:ishl .u64 x 0=x:=by
  unfold ishl
  simp only[pzu]
  rw[show (2:Int)^ (min (0:Int).toNat IntKind.u64.bits)=1 from rfl,Int.mul_one,Int.emod_eq_of_lt h0 h1]
 have e2:ishr .u64 x (64-0)=0:=by
  unfold ishr
  rw[show (2:Int)^ (min ((64:Int)-0).toNat IntKind.u64.bits)=18446744073709551616 from rfl,Int.fdiv_eq_ediv_of_nonneg _ (by decide)]
  exact Int.ediv_eq_zero_of_lt h0 h1
 rw[e1,e2]
 simp only[pzu]
 rw[show BitVec.ofInt IntKind.u64.bits 0=0#(IntKind.u64.bits) from rfl,BitVec.or_zero]
 have:(BitVec.ofInt IntKind.u64.bits x).toNat=x.toNat:=by
  rw[BitVec.toNat_ofInt]
  have:((2^IntKind.u64.bits:Nat):Int)=18446744073709551616:=rfl
  rw[this,Int.emod_eq_of_lt h0 h1]
 rw[this]
 omega
theorem Kzr (x:Int):inot .u64 x=ixor .u64 x 18446744073709551615:=by
 unfold inot ixor Czn
 simp only
 rw[BitVec.xor_comm]
 rfl
def xor5 (s:List Int) (i:Nat):Int:=ixor .u64 (ixor .u64 (ixor .u64 (ixor .u64 (rd 0 s (i:Int)) (rd 0 s ((i+5:Nat):Int))) (rd 0 s ((i+10:Nat):Int))) (rd 0 s ((i+15:Nat):Int))) (rd 0 s ((i+20:Nat):Int))
def QzL (s:List Int) (i:Nat) (c:List Int):List Int:=upd c (i:Int) (xor5 s i)
def cOf (s:List Int):List Int:=iter (QzL s) 5 0 [0,0,0,0,0]
def dV (c:List Int) (x:Nat):Int:=ixor .u64 (rd 0 c (((x+4) % 5:Nat):Int)) (rot (rd 0 c (((x+1) % 5:Nat):Int)) 1)
def bV (t s c:List Int) (x y:Nat):Int:=rot (ixor .u64 (rd 0 s ((x+5*y:Nat):Int)) (dV c x)) (rd 0 t ((x+5*y:Nat):Int))
def Cz8 (f:Nat→Nat→Int) (x y:Nat) (b:List Int):List Int:=upd b ((y+5*((2*x+3*y) % 5):Nat):Int) (f x y)
def vze:List Int:=[0,0,0,0,0,0,0,0,0,0,0,0,0,0,0,0,0,0,0,0,0,0,0,0,0]
def bI (f:Nat→Nat→Int):List Int:=iter (fun y b=>iter (fun x b=>Cz8 f x y b) 5 0 b) 5 0 vze
def bS (f:Nat→Nat→Int):List Int:=iter (fun x b=>iter (fun y b=>Cz8 f x y b) 5 0 b) 5 0 vze
theorem bI_bS (f:Nat→Nat→Int):bI f=bS f:=by kernel_rfl
def aV (b:List Int) (x y:Nat):Int:=ixor .u64 (rd 0 b ((x+5*y:Nat):Int)) (iand .u64 (inot .u64 (rd 0 b (((x+1) % 5+5*y:Nat):Int))) (rd 0 b (((x+2) % 5+5*y:Nat):Int)))
def aOf (b s:List Int):List Int:=iter (fun y a=>iter (fun x a=>upd a ((x+5*y:Nat):Int) (aV b x y)) 5 0 a) 5 0 s
def xzW (t s:List Int) (rc:Int):List Int:=upd (aOf (bI (bV t s (cOf s))) s) 0 (ixor .u64 (rd 0 (aOf (bI (bV t s (cOf s))) s) 0) rc)
theorem x5 {x y:Nat} (hx:x<5) (hy:y<5):iadd .i64 (x:Int) (imul .i64 5 (y:Int))=((x+5*y:Nat):Int):=by
 rw[fz9 (by omega) (by omega),azH (by omega) (by omega)];omega
theorem x5m {x y k:Nat} (hx:x<5) (hy:y<5) (hk:k<10):iadd .i64 (irem (iadd .i64 (x:Int) (k:Int)) 5) (imul .i64 5 (y:Int))=(((x+k) % 5+5*y:Nat):Int):=by
 rw[fz9 (by omega) (by omega),azH (x:=(x:Int)) (by omega) (by omega),fzW (by omega),azH (by omega) (by omega)];omega
theorem xm {x k:Nat} (hx:x<5) (hk:k<10):irem (iadd .i64 (x:Int) (k:Int)) 5=(((x+k) % 5:Nat):Int):=by
 rw[azH (x:=(x:Int)) (by omega) (by omega),fzW (by omega)];omega
theorem xb {x y:Nat} (hx:x<5) (hy:y<5):iadd .i64 (y:Int) (imul .i64 5 (irem (iadd .i64 (imul .i64 2 (x:Int)) (imul .i64 3 (y:Int))) 5))=((y+5*((2*x+3*y) % 5):Nat):Int):=by
 rw[fz9 (x:=2) (by omega) (by omega),fz9 (x:=3) (by omega) (by omega),azH (x:=2*(x:Int)) (by omega) (by omega),fzW (by omega),fz9 (by omega) (by omega),azH (by omega) (by omega)];omega
theorem xa {x k:Nat} (hx:x<5) (hk:k<30):iadd .i64 (x:Int) (k:Int)=((x+k:Nat):Int):=by
 rw[azH (by omega) (by omega)];omega
theorem inbN {i n:Nat} (h:i<n):inb (i:Int) (n:Int)=true:=bzI (by omega) (by omega)
theorem nz5:nz 5=true:=rfl
theorem nx {i:Nat} (h:i<1000):iadd .i64 (i:Int) 1=((i+1:Nat):Int):=azq (by omega)
end Go.Proofs.YtdfbhjpmdjmdaaaGreatDoor
