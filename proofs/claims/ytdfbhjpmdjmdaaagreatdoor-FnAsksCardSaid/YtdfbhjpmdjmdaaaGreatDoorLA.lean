/- Copies; accounts of a chain; Save, Tick, Deliver. Of no condition. -/
import Derived.Test.YtdfbhjpmdjmdaaaGreatDoorWB
set_option linter.unusedVariables false
set_option linter.unusedSimpArgs false
set_option maxRecDepth 100000
namespace Go.Proofs.YtdfbhjpmdjmdaaaGreatDoor
open Go.TV
theorem OzD {k:Int} (h:nz8 (.int .i64) k): -9223372036854775808≤k∧k≤9223372036854775807:=by
 simp only[nz8,Lit.wf] at h
 simp at h
 exact h
noncomputable instance decMem (t:ByteArray) (xs:List ByteArray):Decidable (t∈xs):=Classical.propDecidable _
theorem Rzh {α:Type} {xs:List α}:app [] xs=xs:=rfl
theorem Mzm {α:Type} {xs:List α} {y:α}:app xs (y::[])=xs++[y]:=rfl
theorem mze {α:Type} {x:Option α}:agree x x=x:=by unfold agree;rw[if_pos rfl]
theorem clone_law {α:Type} {xs:List α} {z:Nat} (hz:z<128) (hl:xs.length≤16777216):
 (cnd (ieq (len xs) 0) (agree (some ((([]:List α),()),())) (cnd (fits (len ([]:List α)+len xs) z) (some ((app [] xs,()),())) none)) (cnd (fits (len ([]:List α)+len xs) z) (some ((app [] xs,()),())) none))=some ((xs,()),()):=by
 rw[azv (xs:=([]:List α)) hz (by simp;omega),aza,Rzh]
 cases xs with
 |nil=>rw[mze];rfl
 |cons x xs=>
  have:ieq (len (x::xs)) 0=false:=by rw[czd];exact decide_eq_false (by simp only[azA,List.length_cons];omega)
  rw[this,azc]
theorem LzX (n:Int):tzg (n,())=some ((decide (0≤n∧n≤10000),()),()):=by
 rw[Mzz,czX,yzw,gzB]
 by_cases h:0≤n<;>simp [h]
end Go.Proofs.YtdfbhjpmdjmdaaaGreatDoor
