/- Texts of bytes, of numbers; what is shown of a client. Of no condition. -/
import Derived.Test.YtdfbhjpmdjmdaaaGreatDoorTA
set_option linter.unusedVariables false
set_option linter.unusedSimpArgs false
set_option maxRecDepth 100000
namespace Go.Proofs.YtdfbhjpmdjmdaaaGreatDoor
open Go.TV
theorem fzS (s:ByteArray) (i:Int):0≤sat s i∧sat s i<256:=by
 unfold sat
 have:=UInt8.toNat_lt ((s[i.toNat]?).getD 0)
 omega
theorem uz4 (s:ByteArray) (i:Nat) (h:i<s.size):sat s (i:Int)=((s.data.toList[i]'(by rw[Array.length_toList];exact h)).toNat:Int):=by
 unfold sat
 rw[Int.toNat_natCast,getElem?_pos s i h]
 rfl
theorem take_all (s:ByteArray):s.data.toList.take s.size=s.data.toList:=by
 apply List.take_of_length_le
 rw[Array.length_toList];exact Nat.le_refl _
theorem Jz2:yzI 256 (fun b=>decide (azx .i64 (b:Int)=(b:Int)∧ishr .u8 (b:Int) 4=(b:Int)/16∧iand .u8 (b:Int) 15=(b:Int) % 16))=true:=by kernel_rfl
theorem hzB {b:Int} (h0:0≤b) (h1:b<256):azx .i64 b=b∧ishr .u8 b 4=b/16∧iand .u8 b 15=b % 16:=by
 obtain ⟨n,rfl⟩:=Int.eq_ofNat_of_zero_le h0
 exact of_decide_eq_true (gzj _ _ Jz2 n (by omega))
theorem HzX {s:ByteArray} {i:Nat} (h:i<s.size):ilt (i:Int) (ssz s)=true∧inb (i:Int) (ssz s)=true:=by
 rw[azN];exact ⟨bzW (by omega),bzI (by omega) (by omega)⟩
theorem Jz7 {s:ByteArray}:ilt (s.size:Int) (ssz s)=false:=by rw[azN];exact az7 (by omega)
def hex8 (s:ByteArray):ByteArray:=ssub s 0 (imin 8 (ssz s))
theorem hex8_size (s:ByteArray):(hex8 s).size≤8:=by
 unfold hex8 ssub imin
 rw[ByteArray.size_extract,azN];omega
theorem mzR (h:czD):(cz4 h).size≤32:=by
 unfold cz4
 cases ozj h
 ·exact Nat.zero_le _
 ·exact zzV _
theorem imax_64 {n:Int} (h1:n≤9223372036854775807): -9223372036854775808≤imax n 0∧imax n 0≤9223372036854775807:=by unfold imax;omega
theorem ssub_all (s:ByteArray):ssub s 0 (ssz s)=s:=by
 unfold ssub
 rw[azN,Int.toNat_natCast]
 exact ByteArray.extract_zero_size
end Go.Proofs.YtdfbhjpmdjmdaaaGreatDoor
