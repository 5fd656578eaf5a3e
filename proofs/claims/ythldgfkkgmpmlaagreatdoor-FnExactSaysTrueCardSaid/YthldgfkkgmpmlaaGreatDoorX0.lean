/- The library's functions by the kit's contracts. Of no condition. -/
import Derived.Test.YthldgfkkgmpmlaaGreatDoorP0
import Derived.Shelf.Lay
import Derived.Shelf.Strings.Repeat
import Derived.Shelf.LaysM
import Derived.Shelf.Strconv.Itoa3
import Derived.Lib.QuietBelow
set_option linter.unusedVariables false
set_option maxRecDepth 100000
namespace Go.Proofs
open Go.Shelf
shelf_lay Lays.n105 Nm 105 at Tryz as Tryz.lays105
theorem Tryz.bx105:Builder.Extra Tryz.prog Tryz.lays105_ren where
 sizeBuilder:=by kernel_rfl
 liesBuilder:=by kernel_rfl
 t5:=by kernel_rfl
 a5:=fun _=>by kernel_rfl
 z5:=fun _=>by kernel_rfl
 v5:=fun _=>by kernel_rfl
 infoByte:=by kernel_rfl
 cellsByte:=by kernel_rfl
 sizeByte:=by kernel_rfl
 neB5:=by decide
shelf_lay LaysM.n171 Nm 171 at Tryz as Tryz.lays171
theorem Tryz.gPow:Tryz.prog.globalNamed "internal/strconv.uint64pow10" =some 3:=by kernel_rfl
namespace YthldgfkkgmpmlaaGreatDoor
open Go.TV
def tzm (s:ByteArray) (n:Nat):ByteArray:=⟨(Lib.repeatL s.data.toList n).toArray⟩
open Classical in
noncomputable def czB:ByteArray×Int×Unit→Option ((ByteArray×Unit)×Unit):=fun x=>if 0≤x.2.1∧x.2.1≤1048576∧x.1.size≤1048576 then some ((tzm x.1 x.2.1.toNat,()),()) else none
noncomputable abbrev lzu:Sig:=⟨[pa .str,pa (.int .i64)],[rt .str],false,czB⟩
theorem uzt:CallsOk Tryz.prog gls gvs 229 lzu:=CallsOk.leaf rfl (enters_of Tryz.func229 (by kernel_rfl) rfl) rfl rfl fun x r w h=>by
 obtain ⟨s,n,u⟩:=x
 change (if 0≤n∧n≤1048576∧s.size≤1048576 then some ((tzm s n.toNat,()),()) else none)=some r at h
 split at h
 ·rename_i hc
  obtain ⟨h0,h1,h2⟩:=hc
  cases h
  obtain ⟨m,rfl⟩:=Int.eq_ofNat_of_zero_le h0
  have h1':(m:Int)≤1048576:=h1
  have hm:s.size*m≤1048576*1048576:=Nat.mul_le_mul h2 (by omega)
  exact Any.strings_Repeat Tryz.lays105 Tryz.bx105 s m w (by omega) (by omega)
 ·cases h
def nzh (n:Int):ByteArray:=⟨(Lib.itoa n).toArray⟩
noncomputable def jze:Int×Unit→Option ((ByteArray×Unit)×Unit):=fun x=>if-9223372036854775808≤x.1∧x.1≤9223372036854775807 then some ((nzh x.1,()),()) else none
noncomputable abbrev pzj:Sig:=⟨[pa (.int .i64)],[rt .str],false,jze⟩
theorem zzp:CallsOk Tryz.prog gls gvs 232 pzj:=CallsOk.leafG rfl (enters_of Tryz.func232 (by kernel_rfl) rfl) rfl rfl fun x r w ω η hg h=>by
 obtain ⟨n,u⟩:=x
 change (if-9223372036854775808≤n∧n≤9223372036854775807 then some ((nzh n,()),()) else none)=some r at h
 split at h
 ·rename_i hc
  cases h
  have ht:Lib.TabIs Tryz.prog w "internal/strconv.uint64pow10" .u64 Lib.pow10Tab:=tab_is (xs:=bzP) (n:=20) hg rfl rfl Tryz.gPow
  refine (Any.strconv_Itoa Tryz.lays171 n hc.1 hc.2 w ht).mono ?_
  rintro e w' ⟨rfl,k,os,rfl⟩
  exact ⟨rfl,rfl,rfl,rfl,by simp [Sort.grow],fun i hi=>by
   show (w.heap++os)[i]?=_
   exact Array.getElem?_append_left hi⟩
 ·cases h
end YthldgfkkgmpmlaaGreatDoor
end Go.Proofs
