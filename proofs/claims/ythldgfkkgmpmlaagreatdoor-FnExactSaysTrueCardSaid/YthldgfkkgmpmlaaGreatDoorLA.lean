/- Copies; accounts of a chain; Save, Tick, Deliver. Of no condition. -/
import Derived.Test.YthldgfkkgmpmlaaGreatDoorWB
set_option linter.unusedVariables false
set_option linter.unusedSimpArgs false
set_option maxRecDepth 100000
namespace Go.Proofs.YthldgfkkgmpmlaaGreatDoor
open Go.TV
theorem Nzd {k:Int} (h:mzu (.int .i64) k): -9223372036854775808≤k∧k≤9223372036854775807:=by
 simp only[mzu,Lit.wf] at h
 simp at h
 exact h
noncomputable instance decMem (t:ByteArray) (xs:List ByteArray):Decidable (t∈xs):=Classical.propDecidable _
theorem RzX {α:Type} {xs:List α}:app [] xs=xs:=rfl
theorem qzN {α:Type} {xs:List α} {y:α}:app xs (y::[])=xs++[y]:=rfl
theorem Ezi {α:Type} {x:Option α}:agree x x=x:=by unfold agree;rw[if_pos rfl]
theorem Tzi {α:Type} {xs:List α} {z:Nat} (hz:z<128) (hl:xs.length≤16777216):
 (cnd (ieq (len xs) 0) (agree (some ((([]:List α),()),())) (cnd (fits (len ([]:List α)+len xs) z) (some ((app [] xs,()),())) none)) (cnd (fits (len ([]:List α)+len xs) z) (some ((app [] xs,()),())) none))=some ((xs,()),()):=by
 rw[azv (xs:=([]:List α)) hz (by simp;omega),aza,RzX]
 cases xs with
 |nil=>rw[Ezi];rfl
 |cons x xs=>
  have:ieq (len (x::xs)) 0=false:=by rw[czl];exact decide_eq_false (by simp only[azz,List.length_cons];omega)
  rw[this,azc]
theorem Rzw (xs:List azl) (hl:xs.length≤16777216):azZ (xs,())=some ((xs,()),()):=(fza xs).trans (Tzi (by decide) hl)
theorem Szk (n:Int):uzU (n,())=some ((decide (0≤n∧n≤10000),()),()):=by
 rw[SzJ,czK,uzV,ez3]
 by_cases h:0≤n<;>simp [h]
end Go.Proofs.YthldgfkkgmpmlaaGreatDoor
