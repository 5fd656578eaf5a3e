/- Copies; accounts of a chain; Save, Tick, Deliver. Of no condition. -/
import Derived.Test.YtoeiajpklkijgaaGreatDoorWB
set_option linter.unusedVariables false
set_option linter.unusedSimpArgs false
set_option maxRecDepth 100000
namespace Go.Proofs.YtoeiajpklkijgaaGreatDoor
open Go.TV
theorem good_int {k:Int} (h:GoodV (.int .i64) k): -9223372036854775808≤k∧k≤9223372036854775807:=by
 simp only[GoodV,Lit.wf] at h
 simp at h
 exact h
noncomputable instance decMem (t:ByteArray) (xs:List ByteArray):Decidable (t∈xs):=Classical.propDecidable _
theorem app_nil {α:Type} {xs:List α}:app [] xs=xs:=rfl
theorem app_one {α:Type} {xs:List α} {y:α}:app xs (y::[])=xs++[y]:=rfl
theorem agree_self {α:Type} {x:Option α}:agree x x=x:=by unfold agree;rw[if_pos rfl]
theorem clone_law {α:Type} {xs:List α} {z:Nat} (hz:z<128) (hl:xs.length≤16777216):
 (cnd (ieq (len xs) 0) (agree (some ((([]:List α),()),())) (cnd (fits (len ([]:List α)+len xs) z) (some ((app [] xs,()),())) none)) (cnd (fits (len ([]:List α)+len xs) z) (some ((app [] xs,()),())) none))=some ((xs,()),()):=by
 rw[app_fits (xs:=([]:List α)) hz (by simp;omega),cnd_t,app_nil]
 cases xs with
 |nil=>rw[agree_self];rfl
 |cons x xs=>
  have:ieq (len (x::xs)) 0=false:=by rw[ieq_d];exact decide_eq_false (by simp only[len_d,List.length_cons];omega)
  rw[this,cnd_f]
end Go.Proofs.YtoeiajpklkijgaaGreatDoor
