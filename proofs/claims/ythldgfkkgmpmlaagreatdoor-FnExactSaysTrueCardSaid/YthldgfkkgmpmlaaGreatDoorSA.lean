/- Texts of bytes, of numbers; what is shown of a client. Of no condition. -/
import Derived.Test.YthldgfkkgmpmlaaGreatDoorTA
import Derived.Lib.ItoaLen
set_option linter.unusedVariables false
set_option linter.unusedSimpArgs false
set_option maxRecDepth 100000
namespace Go.Proofs.YthldgfkkgmpmlaaGreatDoor
open Go.TV
theorem gzn (s:ByteArray) (i:Int):0≤sat s i∧sat s i<256:=by
 unfold sat
 have:=UInt8.toNat_lt ((s[i.toNat]?).getD 0)
 omega
def fig (d:Int):Int:=if d<10 then 48+d else 87+d
theorem UzL:AzI 16 (fun d=>decide ((if (d:Int)<10 then azx .u8 (iadd .i64 48 (d:Int)) else azx .u8 (isub .i64 (iadd .i64 97 (d:Int)) 10))=fig (d:Int)))=true:=by kernel_rfl
theorem Rzz (d:Int) (h0:0≤d) (h1:d<16):lzA (d,())=some ((fig d,()),()):=by
 obtain ⟨n,rfl⟩:=Int.eq_ofNat_of_zero_le h0
 have:=of_decide_eq_true (fzh _ _ UzL n (by omega))
 rw[Jza,WzP,uzV,←this]
 split<;>rfl
theorem yz4 (s:ByteArray) (i:Nat) (h:i<s.size):sat s (i:Int)=((s.data.toList[i]'(by rw[Array.length_toList];exact h)).toNat:Int):=by
 unfold sat
 rw[Int.toNat_natCast,getElem?_pos s i h]
 rfl
theorem QzF:AzI 256 (fun b=>decide (azx .i64 (b:Int)=(b:Int)∧ishr .u8 (b:Int) 4=(b:Int)/16∧iand .u8 (b:Int) 15=(b:Int) % 16))=true:=by kernel_rfl
theorem izd {b:Int} (h0:0≤b) (h1:b<256):azx .i64 b=b∧ishr .u8 b 4=b/16∧iand .u8 b 15=b % 16:=by
 obtain ⟨n,rfl⟩:=Int.eq_ofNat_of_zero_le h0
 exact of_decide_eq_true (fzh _ _ QzF n (by omega))
theorem Nze {s:ByteArray} {i:Nat} (h:i<s.size):ilt (i:Int) (ssz s)=true∧inb (i:Int) (ssz s)=true:=by
 rw[azL];exact ⟨bzT (by omega),bz0 (by omega) (by omega)⟩
theorem Rzx {s:ByteArray}:ilt (s.size:Int) (ssz s)=false:=by rw[azL];exact az0 (by omega)
def ofL (l:List UInt8):ByteArray:=⟨l.toArray⟩
theorem Vze (a b:List UInt8):scat (ofL a) (ofL b)=ofL (a++b):=by
 apply yzX
 simp [scat,ofL,ByteArray.data_append]
theorem Mz1 (l:List UInt8):(ofL l).size=l.length:=by simp [ofL,ByteArray.size]
theorem WzH (d:Nat) (h:d<10):sof [fig (d:Int)]=ofL [UInt8.ofNat (48+d)]:=by
 have e:(fig (d:Int)).toNat=48+d:=by unfold fig;rw[if_pos (by omega)];omega
 apply yzX
 simp [sof,ofL,e]
theorem RzH (u:Nat) (hu:u≠0) (hb:u≤9223372036854775807) (neg:Bool) (acc:List UInt8) (ha:acc.length≤1000):fzm ((u:Int),(neg,(ofL acc,())))=fzm (((u/10:Nat):Int),(neg,(ofL (UInt8.ofNat (48+u % 10)::acc),()))):=by
 have hm:=Nat.mod_lt u (show 10>0 by omega)
 have em:irem (u:Int) 10=((u % 10:Nat):Int):=by rw[izS (by omega)];rfl
 have eq:iquo .i64 (u:Int) 10=((u/10:Nat):Int):=by rw[nzM (by omega) (by omega) (by omega)];rfl
 have e0:ine (u:Int) 0=true:=by rw[dzb,decide_eq_false (by omega)];rfl
 rw[zzW,e0,aza,show nz 10=true from rfl,aza,em,az0 (by omega),azc,Lzv,Rzz _ (by omega) (by omega),azb,WzH _ hm,ezn (by rw[Mz1,Mz1];simp;omega),aza,show nz 10=true from rfl,aza,eq,Vze]
 rfl
theorem Jzo: ∀ (k u:Nat),u≠0→u<10^k→u≤9223372036854775807→ ∀ (neg:Bool) (acc:List UInt8),acc.length+k≤1000→fzm ((u:Int),(neg,(ofL acc,())))=fzm (0,(neg,(ofL (Lib.decDigits u++acc),())))
 |0,u,hu,hk,hb,neg,acc,ha=>by simp at hk;omega
 |k+1,u,hu,hk,hb,neg,acc,ha=>by
  rw[RzH u hu hb neg acc (by omega)]
  by_cases h:u<10
  ·rw[Lib.decDigits_one h,Nat.div_eq_of_lt h,Nat.mod_eq_of_lt h];rfl
  ·rw[Jzo k (u/10) (by omega) (by rw[Nat.pow_succ] at hk;omega) (by omega) neg _ (by simp;omega)]
   rw[show Lib.decDigits u=Lib.decDigits (u/10)++[UInt8.ofNat (48+u % 10)] from by rw[Lib.decDigits,dif_neg h],List.append_assoc]
   rfl
theorem rzQ (n:Int) (h0:0≤n) (h1:n≤9223372036854775807):szo (n,())=some ((nzh n,()),()):=by
 obtain ⟨u,rfl⟩:=Int.eq_ofNat_of_zero_le h0
 have e:nzh (u:Int)=ofL (Lib.decDigits u):=by
  unfold nzh Lib.itoa
  rw[if_neg (by omega)];rfl
 rw[PzW,e,czl]
 by_cases hu:u=0
 ·subst hu
  rw[Lib.decDigits_one (by omega)]
  rfl
 ·rw[decide_eq_false (by omega),azc,az0 (by omega)]
  refine (Jzo 20 u hu (by omega) (by omega) false [] (by simp)).trans ?_
  rw[zzW,show ine 0 0=false from rfl,azc,azc,List.append_nil]
theorem Ezk (n:Int) (h0: -9223372036854775808≤n) (h1:n≤9223372036854775807):rzW (n,())=some ((nzh n,()),()):=by
 have:jze (n,())=some ((nzh n,()),()):=if_pos ⟨h0,h1⟩
 rw[Ozh,this,azb]
theorem Dz8 (n:Int) (h0: -9223372036854775808≤n) (h1:n≤9223372036854775807):(nzh n).size≤21:=by
 have:=Lib.itoa_length_le n h0 h1
 simpa [nzh,ByteArray.size] using this
theorem vzz (h:azO):(hz4 h).size≤32:=by
 unfold hz4
 cases pzF h
 ·exact Nat.zero_le _
 ·exact xzg _
end Go.Proofs.YthldgfkkgmpmlaaGreatDoor
