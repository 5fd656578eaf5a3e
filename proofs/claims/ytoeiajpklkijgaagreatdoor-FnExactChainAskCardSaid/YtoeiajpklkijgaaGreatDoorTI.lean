/- Numbers that are read, and what stands ahead of so many bytes. Of no condition. -/
import Derived.Test.YtoeiajpklkijgaaGreatDoorTP
set_option linter.unusedVariables false
set_option linter.unusedSimpArgs false
set_option maxRecDepth 100000
namespace Go.Proofs.YtoeiajpklkijgaaGreatDoor
open Go.TV
theorem scatL (a b:ByteArray):(scat a b).data.toList=a.data.toList++b.data.toList:=by simp [scat,ByteArray.data_append]
theorem sat_sof1 {a:Int} (h0:0≤a) (h1:a<256) (u:ByteArray):sat (scat (sof [a]) u) 0=a:=by
 have e:(0:Int)=((0:Nat):Int):=rfl
 rw[e,sat_at _ 0 (by rw[size_scat,size_sof];simp;omega)]
 simp only[scatL]
 simp only[sof,List.map_cons,List.map_nil,List.cons_append,List.getElem_cons_zero]
 rw[UInt8.toNat_ofNat']
 omega
theorem scat_nil (s:ByteArray):scat s (bs [])=s:=by unfold scat bs;apply ByteArray.ext;simp
theorem lenV_1 (low n:Nat) (hl:low≤192) (h:n≤55):lenV low n=scat (sof [((low+n:Nat):Int)]) (bs []):=by
 rw[lenV,if_pos h,scat_nil,iadd_64 (by omega) (by omega),show (low:Int)+(n:Int)=((low+n:Nat):Int) by omega,iconv_u8n,Nat.mod_eq_of_lt (by omega)]
theorem lenV_2 (low n:Nat) (hl:low≤192) (h: ¬n≤55):lenV low n=scat (sof [((low+55+(numV n).size % 9:Nat):Int)]) (numV n):=by
 have:=numV_size n
 rw[lenV,if_neg h,iadd_64 (x:=(low:Int)) (y:=55) (by omega) (by omega),ssz_d,iadd_64 (by omega) (by omega),show (low:Int)+55+((numV n).size:Int)=((low+55+(numV n).size % 9:Nat):Int) by omega,iconv_u8n,Nat.mod_eq_of_lt (by omega)]
end Go.Proofs.YtoeiajpklkijgaaGreatDoor
