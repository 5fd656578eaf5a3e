/- The library's functions by the kit's contracts. Of no condition. -/
import Derived.Test.YtdfbhjpmdjmdaaaGreatDoorP0
import Derived.Shelf.Lay
import Derived.Shelf.Strings.Repeat
set_option linter.unusedVariables false
set_option maxRecDepth 100000
namespace Go.Proofs
open Go.Shelf
shelf_lay Lays.n105 Nm 105 at Tryz as Tryz.lays105
theorem Tryz.bx105:Builder.Extra Tryz.prog Tryz.lays105_ren where
 sizeBuilder:=by kernel_rfl
 liesBuilder:=by kernel_rfl
 t5:=by kernel_rfl
 a5:=fun _=>by kernel_rfl
 z5:=fun _=>by kernel_rfl
 v5:=fun _=>by kernel_rfl
 infoByte:=by kernel_rfl
 cellsByte:=by kernel_rfl
 sizeByte:=by kernel_rfl
 neB5:=by decide
namespace YtdfbhjpmdjmdaaaGreatDoor
open Go.TV
def rzp (s:ByteArray) (n:Nat):ByteArray:=⟨(Lib.repeatL s.data.toList n).toArray⟩
open Classical in
noncomputable def czC:ByteArray×Int×Unit→Option ((ByteArray×Unit)×Unit):=fun x=>if 0≤x.2.1∧x.2.1≤1048576∧x.1.size≤1048576 then some ((rzp x.1 x.2.1.toNat,()),()) else none
noncomputable abbrev kzY:Sig:=⟨[pa .str,pa (.int .i64)],[rt .str],false,czC⟩
theorem tzj:CallsOk Tryz.prog gls gvs 138 kzY:=CallsOk.leaf rfl (enters_of Tryz.func138 (by kernel_rfl) rfl) rfl rfl fun x r w h=>by
 obtain ⟨s,n,u⟩:=x
 change (if 0≤n∧n≤1048576∧s.size≤1048576 then some ((rzp s n.toNat,()),()) else none)=some r at h
 split at h
 ·rename_i hc
  obtain ⟨h0,h1,h2⟩:=hc
  cases h
  obtain ⟨m,rfl⟩:=Int.eq_ofNat_of_zero_le h0
  have h1':(m:Int)≤1048576:=h1
  have hm:s.size*m≤1048576*1048576:=Nat.mul_le_mul h2 (by omega)
  exact Any.strings_Repeat Tryz.lays105 Tryz.bx105 s m w (by omega) (by omega)
 ·cases h
end YtdfbhjpmdjmdaaaGreatDoor
end Go.Proofs
