/- Texts of bytes, of numbers; what is shown of a client. Of no condition. -/
import Derived.Test.YthldgfkkgmpmlaaDoorKC
set_option linter.unusedVariables false
set_option linter.unusedSimpArgs false
set_option maxRecDepth 100000
namespace Go.Proofs.YthldgfkkgmpmlaaDoor
open Go.TV
theorem sat_byte (s:ByteArray) (i:Int):0≤sat s i∧sat s i<256:=by
 unfold sat
 have:=UInt8.toNat_lt ((s[i.toNat]?).getD 0)
 omega
def fig (d:Int):Int:=if d<10 then 48+d else 87+d
def hexL:List UInt8→List Int
 | []=>[]
 |b::r=>fig ((b.toNat:Int)/16)::fig ((b.toNat:Int) % 16)::hexL r
def hexV (s:ByteArray):ByteArray:=sof (hexL s.data.toList)
theorem hexL_len: ∀l,(hexL l).length=2*l.length
 | []=>rfl
 |b::r=>by rw[hexL,List.length_cons,List.length_cons,hexL_len r,List.length_cons];omega
theorem hexL_app: ∀a b,hexL (a++b)=hexL a++hexL b
 | [],b=>rfl
 |x::a,b=>by simp only[List.cons_append,hexL,hexL_app a b]
theorem fig_test:allB' 16 (fun d=>decide ((if (d:Int)<10 then iconv .u8 (iadd .i64 48 (d:Int)) else iconv .u8 (isub .i64 (iadd .i64 97 (d:Int)) 10))=fig (d:Int)))=true:=by kernel_rfl
theorem sFigure_l (d:Int) (h0:0≤d) (h1:d<16):sL01Figure_d (d,())=some ((fig d,()),()):=by
 obtain ⟨n,rfl⟩:=Int.eq_ofNat_of_zero_le h0
 have:=of_decide_eq_true (allB'_of _ _ fig_test n (by omega))
 rw[sL01Figure_b,ilt_d,cnd_d,←this]
 split<;>rfl
theorem sat_at (s:ByteArray) (i:Nat) (h:i<s.size):sat s (i:Int)=((s.data.toList[i]'(by rw[Array.length_toList];exact h)).toNat:Int):=by
 unfold sat
 rw[Int.toNat_natCast,getElem?_pos s i h]
 rfl
theorem take_data (s:ByteArray) (i:Nat) (h:i<s.size):hexL (s.data.toList.take (i+1))=hexL (s.data.toList.take i)++[fig (sat s (i:Int)/16),fig (sat s (i:Int) % 16)]:=by
 have hl:i<s.data.toList.length:=by rw[Array.length_toList];exact h
 rw[List.take_succ_eq_append_getElem hl,hexL_app,sat_at s i h]
 rfl
theorem take_all (s:ByteArray):s.data.toList.take s.size=s.data.toList:=by
 apply List.take_of_length_le
 rw[Array.length_toList];exact Nat.le_refl _
theorem byte_test:allB' 256 (fun b=>decide (iconv .i64 (b:Int)=(b:Int)∧ishr .u8 (b:Int) 4=(b:Int)/16∧iand .u8 (b:Int) 15=(b:Int) % 16))=true:=by kernel_rfl
theorem dig_test:allB' 16 (fun d=>decide (sat (bs [48,49,50,51,52,53,54,55,56,57,97,98,99,100,101,102]) (d:Int)=fig (d:Int)))=true:=by kernel_rfl
theorem byte_ops {b:Int} (h0:0≤b) (h1:b<256):iconv .i64 b=b∧ishr .u8 b 4=b/16∧iand .u8 b 15=b % 16:=by
 obtain ⟨n,rfl⟩:=Int.eq_ofNat_of_zero_le h0
 exact of_decide_eq_true (allB'_of _ _ byte_test n (by omega))
theorem dig_at {d:Int} (h0:0≤d) (h1:d<16):sat (bs [48,49,50,51,52,53,54,55,56,57,97,98,99,100,101,102]) d=fig d:=by
 obtain ⟨n,rfl⟩:=Int.eq_ofNat_of_zero_le h0
 exact of_decide_eq_true (allB'_of _ _ dig_test n (by omega))
theorem ssz_at {s:ByteArray} {i:Nat} (h:i<s.size):ilt (i:Int) (ssz s)=true∧inb (i:Int) (ssz s)=true:=by
 rw[ssz_d];exact ⟨ilt_t (by omega),inb_t (by omega) (by omega)⟩
theorem ssz_end {s:ByteArray}:ilt (s.size:Int) (ssz s)=false:=by rw[ssz_d];exact ilt_f (by omega)
def hex8 (s:ByteArray):ByteArray:=ssub s 0 (imin 8 (ssz s))
theorem hex8_size (s:ByteArray):(hex8 s).size≤8:=by
 unfold hex8 ssub imin
 rw[ByteArray.size_extract,ssz_d];omega
theorem imax_64 {n:Int} (h1:n≤9223372036854775807): -9223372036854775808≤imax n 0∧imax n 0≤9223372036854775807:=by unfold imax;omega
theorem ssub_all (s:ByteArray):ssub s 0 (ssz s)=s:=by
 unfold ssub
 rw[ssz_d,Int.toNat_natCast]
 exact ByteArray.extract_zero_size
end Go.Proofs.YthldgfkkgmpmlaaDoor
