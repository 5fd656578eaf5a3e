/- Texts read, journals; what is shown of a bridge. Of no condition. -/
import Derived.Test.YtdfbhjpmdjmdaaaGreatDoorJA
set_option linter.unusedVariables false
set_option linter.unusedSimpArgs false
set_option maxRecDepth 100000
namespace Go.Proofs.YtdfbhjpmdjmdaaaGreatDoor
open Go.TV
theorem hzH (s:ByteArray) (i j:Nat) (h:i≤j) (hj:j≤s.size):(ssub s (i:Int) (j:Int)).size=j-i:=by
 unfold ssub
 rw[ByteArray.size_extract,Int.toNat_natCast,Int.toNat_natCast];omega
theorem zzE (a b c:ByteArray):scat (scat a b) c=scat a (scat b c):=by
 apply szW
 simp [scat,ByteArray.data_append]
theorem ezI (s:ByteArray) (i j:Nat):(ssub s (i:Int) (j:Int)).data.toList=(s.data.toList.drop i).take (j-i):=by
 unfold ssub
 rw[Int.toNat_natCast,Int.toNat_natCast,ByteArray.data_extract,Array.toList_extract]
theorem ssub_split (s:ByteArray) (i j k:Nat) (h1:i≤j) (h2:j≤k):ssub s (i:Int) (k:Int)=scat (ssub s (i:Int) (j:Int)) (ssub s (j:Int) (k:Int)):=by
 apply szW
 have:(scat (ssub s (i:Int) (j:Int)) (ssub s (j:Int) (k:Int))).data.toList=(ssub s (i:Int) (j:Int)).data.toList++(ssub s (j:Int) (k:Int)).data.toList:=by
  simp [scat,ByteArray.data_append]
 rw[this,ezI,ezI,ezI,show k-i=(j-i)+(k-j) by omega,List.take_add,List.drop_drop,show i+(j-i)=j by omega]
theorem ssub_sub (s:ByteArray) (i j k l:Nat) (h1:i+l≤j):ssub (ssub s (i:Int) (j:Int)) (k:Int) (l:Int)=ssub s ((i+k:Nat):Int) ((i+l:Nat):Int):=by
 apply szW
 rw[ezI,ezI,ezI,List.drop_take,List.drop_drop,List.take_take]
 congr 1
 omega
theorem QzA {a x y:ByteArray} (h:scat a x=scat a y):x=y:=by
 apply szW
 have:=congrArg (fun s=>s.data.toList) h
 simpa [scat,ByteArray.data_append] using this
end Go.Proofs.YtdfbhjpmdjmdaaaGreatDoor
